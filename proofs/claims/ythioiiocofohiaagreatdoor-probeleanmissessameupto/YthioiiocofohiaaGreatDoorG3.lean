/-
  Printed texts: Go functions as plain functions, and that they are. No statement of the seed is proved here.
-/
import Derived.Test.YthioiiocofohiaaGreatDoorG1
import Derived.Test.YthioiiocofohiaaGreatDoorG2
import Derived.Test.YthioiiocofohiaaGreatDoorA2
set_option linter.unusedVariables false
set_option linter.unusedSimpArgs false
set_option linter.unusedSectionVars false
set_option maxRecDepth 100000
set_option maxHeartbeats 4000000
namespace Go.Gk
open Go Go.Proofs
variable (N:Nat) {E w:World} {b0 b1 i0 i1:Nat} {p0 p1 p2 res:Int} {v0 v0_0 v0_1 v0_10 v0_11 v0_2 v0_3 v0_4 v0_5 v0_6 v0_7 v0_8 v0_9 v1 v1_0 v2:Value} {V:List HP}
theorem mA {p0:bZ} {res:Bool} (j:Holds E w V) (h0:V[i0]? =some (rd v0 p0)) (hb:jJ N p0 p1=some res):
    Calls bE 79 [v0,(vi p1)].toArray w (gF (aY E V res)):=by
 unfold jJ at hb
 refine enter Tryz.func79 zr zr ?_
 have j:=j.dup (i0+0) h0
 refine RC.sr (RL.dB 0 v0 j zr fun o w j=>?_)
 refine aK (vb false) (RL.ns (RL.bB zr qw (RL.aM 0 j zr mO cN (mv (vi p1) (ic p0.bU p1 (mv (vb (decide (p0.bU<=p1))) (RL.gs true (decide (p0.bU<=p1)) (vi p1) zr zr zr dT (RL.gs true (decide (p0.bU<=p1)) (vp o 4) zr zr zr (dP sE) ?_))))))))
 refine RL.gs true (decide (p0.bU<=p1)) (vi p0.To) rfl rfl rfl (bX 0 rfl j (fun h=>by exact(cV h:cv (true&&((decide (p0.bU<=p1))==true)) (vp o 4)= (vp o 4))) rfl n0 cN) (RL.gs true (decide (p0.bU<=p1)) (vb (decide (p1<=p0.To))) rfl rfl rfl (dZ .leq .i64 p1 p0.To rfl (fun h=>by exact(cV h:cv (true&&((decide (p0.bU<=p1))==true)) (vi p1)= (vi p1))) (fun h=>by exact(cV h:cv (true&&((decide (p0.bU<=p1))==true)) (vi p0.To)= (vi p0.To))) rfl) (RL.pick (decide (p0.bU<=p1)) (vb ((decide (p0.bU<=p1))&&(decide (p1<=p0.To)))) (iL true) (aK (vb ((decide (p0.bU<=p1))&&(decide (p1<=p0.To)))) (RL.nt (RC.ret ?_)))))
 obtain rfl:=oi hb
 exact cF ⟨rfl,j.drop 2⟩
def x6 (E:World) (V:List HP) (res: (List Int)×Int) (v:Value) (w:World):Prop:=∃u0:Value,v = .tuple #[u0,(vi res.2)]/\Holds E w ([rd u0 res.1]++V)
theorem qP {p0: (List aA)} {res: (List Int)×Int} (j:Holds E w V) (h0:V[i0]? =some (rd v0 p0)) (o:k8 N p0 p1 p2=some res):
    Calls bE 136 [v0,(vi p1),(vi p2)].toArray w (gF (x6 E V res)):=by
 unfold k8 at o
 refine enter Tryz.func136 zr zr ?_
 have j:=j.dup (i0+0) h0
 refine RC.sr (aK (.slice none 0 0) (aK (vi 0) (RL.nq (RC.bs (mv v0 (RL.bC 0 p0 j nH (ic ((p0.length:Int)) 0 (aK (vb ((p0.length:Int)==0)) ?_))))))))
 refine RL.nt (eI o (fun hc o=>?_) fun hc o=>?_)
 ·refine RC.sr (mv (vi p2) (aK (.slice none 0 0) (aK (vi p2) (RL.nt (RC.rb (bM ?_))))))
  obtain rfl:=oi o
  have j:=j.tH Int
  exact j9 ⟨(.slice none 0 0),zr,j.pk 2 [0]⟩
 refine RC.sr (mv (vi p1) (mv v0 ?_))
 obtain⟨ae,ag,o⟩:=bd o
 refine RL.bW 0 j kc ag fun al j=>(RL.iu 0 j zr nR fQ fun an j=>(RL.bH ae.Y0 0 j cN (ic p1 ae.Y0 (aK (vb (decide (p1<ae.Y0))) (RL.nt (eI o (fun hc o=>?_) fun hc o=>?_))))))
 ·refine RC.seq (RC.uK mixed ?_)
  have j:=j.drew
  refine RO.go (mv (vi p2) (RO.nx (mv v0 (RO.nx ?_))))
  obtain⟨aa,ah,o⟩:=bd o
  refine RL.bW 2 j kc ah fun ao j=>(RO.nx (RL.iu 0 j zr nR fQ fun aq j=>(RO.nx (RL.bH aa.Y0 0 j cN (RO.nx (RL.min p2 aa.Y0 (RO.nx (aK (.slice none 0 0) ?_))))))))
  refine RO.nx (aK (vi (if aa.Y0<p2 then aa.Y0 else p2)) (RO.last (aG (RC.rb (bM ?_)))))
  obtain rfl:=oi o
  have j:=j.tH Int
  exact j9 ⟨(.slice none 0 0),zr,j.pk 6 [0]⟩
 refine RC.skip (bI (aG (RC.seq (RC.uK mixed ?_))))
 have j:=j.drew
 refine RO.go (mv v0 (RO.nx ?_))
 obtain⟨ai,aj,o⟩:=bd o
 refine RL.bW 2 j kc aj fun ar j=>(RO.nx (RL.iu 0 j zr ku dG fun au j=>(RO.nx (RL.bL 0 ai.Xs j fE fun af j=>(RO.nx (mv (vi p2) (RO.nx (mv v0 ?_))))))))
 refine RO.nx ?_
 obtain⟨ab,ak,o⟩:=bd o
 refine RL.bW 5 j kc ak fun av j=>(RO.nx (RL.iu 0 j zr lV eF fun aw j=>(RO.nx (RL.bH ab.Y1 0 j cN (RO.nx (RL.min p2 ab.Y1 (RO.nx (aK af ?_))))))))
 refine RO.nx (aK (vi (if ab.Y1<p2 then ab.Y1 else p2)) (RO.last (aG (RC.ret ?_))))
 obtain rfl:=oi o
 exact j9 ⟨af,zr,j.pk 8 [2]⟩
theorem yZ {p0: (List Int)} {p1: (List Int)} {p2:Bool->Bool->Option Bool} {res: (List Int)} (j:Holds E w V) (h0:V[i0]? =some (rd v0 p0)) (h1:V[i1]? =some (rd v1 p1)) (h2:I1 bE E V v2 p2 (fun(r:Bool)=>Value.bool r)) (hb:oc N p0 p1 p2=some res):
    Calls bE 137 [v0,v1,v2].toArray w (gF (kP E V res)):=by
 unfold oc at hb
 refine enter Tryz.func137 zr zr ?_
 have j:=(j.dup (i0+0) h0).dup (i1+1) h1
 refine RC.sr (aK (.slice none 0 0) (RL.ns (aK (.slice none 0 0) (RL.ns (aK (vb false) (aK (vb false) (aK (vb false) (RL.nq ?_))))))))
 obtain⟨bu,hN,hb⟩:=bd hb
 refine RC.iter (fun(o: (List Int)×(List Int)×(List Int)×Bool×Bool×Bool) U w=>∃a7 a8 a9:Value,SH E V [(0,a7),(1,a8),(2,v2),(7,a9),(8,vb o.2.2.2.1),(9,vb o.2.2.2.2.1),(10,vb o.2.2.2.2.2)] [rd a7 o.1,rd a8 o.2.1,own 3 a9 o.2.2.1] U w) (fun(o: (List Int)×(List Int)×(List Int)×Bool×Bool×Bool) U w=>∃av:Value,SH E V [(7,av)] [own 3 av o.2.2.1] U w) (fun(r:Empty) _ _=>r.elim) hN ?_ ?_ ?_ ?_
 ·have j:=j.cT Int 3
  exact⟨v0,v1,(.slice none 0 0),j.sp 3 [2,1,0]⟩
 ·rintro o fl _ w ⟨ah,ad,ae,O,rfl,j⟩ hb
  refine RC.seq (RC.seq ?_)
  obtain⟨a1,hj,hb⟩:=bd hb
  refine RC.jn (fun(a1:Bool)=>SH E V [(0,ah),(1,ad),(2,v2),(7,ae),(8,vb o.2.2.2.1),(9,vb o.2.2.2.2.1),(10,vb o.2.2.2.2.2),(20,vb a1)] [rd ah o.1,rd ad o.2.1,own 3 ae o.2.2.1]) a1 ?_ ?_
  ·refine RC.region (mv ah (RL.bC 0 o.1 j l3 (ic ((o.1.length:Int)) 0 (mv (vb (decide ((o.1.length:Int)>0))) (fU hj (fun ao hj=>?_) fun ao hj=>?_)))))
   ·refine bN ao (bN ao (bN ao (fP ao (vb true) (RL.nil ?_))))
    obtain rfl:=oi hj
    exact⟨rfl,j.sp 3 [0,1,2]⟩
   refine RL.move ad (cg ao) (RL.bC (hg:=(cg ao)) 1 o.2.1 j l3 (RL.jO (o.2.1.length:Int) 0 (cg ao) (fP ao (vb (decide ((o.2.1.length:Int)>0))) (RL.nil ?_))))
   obtain rfl:=oi hj
   exact⟨rfl,j.sp 3 [0,1,2]⟩
  rintro _ w ⟨O,rfl,j⟩
  refine aG (eI hb (fun hc hb=>?_) fun hc hb=>?_)
  rotate_left
  ·refine RC.ex ?_
   obtain rfl:=oi hb
   exact⟨rfl,ae,j.sp 3 [2]⟩
  refine RC.sn (RC.bs (aK (vi 0) (RL.nq (RC.seq ?_))))
  obtain⟨a2,hj,hb⟩:=bd hb
  refine RC.jn (fun(a2:Bool)=>SH E V [(0,ah),(1,ad),(2,v2),(7,ae),(8,vb o.2.2.2.1),(9,vb o.2.2.2.2.1),(10,vb o.2.2.2.2.2),(37,vb a2)] [rd ah o.1,rd ad o.2.1,own 3 ae o.2.2.1]) a2 ?_ ?_
  ·refine RC.uK mixed ?_
   have j:=j.drew
   refine RO.go (mv ad (RO.nx (RL.bC 1 o.2.1 j l3 (RO.nx (ic ((o.2.1.length:Int)) 0 (RO.nx (mv (vb ((o.2.1.length:Int)==0)) (fU hj (fun ai hj=>?_) fun ai hj=>?_))))))))
   ·refine RO.nx (bN ai (RO.nx (bN ai (RO.nx (bN ai (RO.nx (bN ai (RO.nx ?_))))))))
    refine xl (RO.nx (xl (RO.nx (xl (RO.nx (xl (RO.nx (xl ?_))))))))
    refine RO.nx (xl (RO.nx (xl (RO.nx (bN ai (RO.nx (fP ai (vb true) (RO.last ?_))))))))
    obtain rfl:=oi hj
    exact⟨rfl,j.sp 3 [0,1,2]⟩
   refine RO.nx (RL.move ah (cg ai) (RO.nx (RL.bC (hg:=(cg ai)) 0 o.1 j l3 (RO.nx (RL.jO (o.1.length:Int) 0 (cg ai) (RO.nx (RL.move (vb (decide ((o.1.length:Int)>0))) (cg ai) (fU hj (fun af hj=>?_) fun af hj=>?_))))))))
   rotate_left
   ·refine RO.nx (bN af (RO.nx (bN af (RO.nx (bN af (RO.nx (bN af (RO.nx ?_))))))))
    refine bN af (RO.nx (bN af (RO.nx (bN af (RO.nx (fP af (vb false) (hg:=(cg ai)) (RO.nx (fP ai (vb false) ?_))))))))
    refine RO.last ?_
    obtain rfl:=oi hj
    exact⟨rfl,j.sp 3 [0,1,2]⟩
   refine RO.nx (RL.move ah (cg af) (RO.nx ?_))
   obtain⟨ax,bj,hj⟩:=bd hj
   refine RL.bW (hg:=(cg af)) 0 j dV bj fun bx j=>(RO.nx (RL.bH (hg:=(cg af)) ax 0 j cN (RO.nx (RL.move ad (cg af) (RO.nx ?_)))))
   obtain⟨ay,bk,hj⟩:=bd hj
   refine RL.bW (hg:=(cg af)) 2 j dV bk fun bz j=>(RO.nx (RL.bH (hg:=(cg af)) ay 0 j cN (RO.nx (RL.jO ax ay (cg af) (RO.nx (fP af (vb (decide (ax<=ay))) (hg:=(cg ai)) (RO.nx (fP ai (vb (decide (ax<=ay))) ?_))))))))
   refine RO.last ?_
   obtain rfl:=oi hj
   exact⟨rfl,j.sp 5 [2,3,4]⟩
  rintro _ w ⟨O,rfl,j⟩
  refine aG ?_
  obtain⟨ag,hj,hb⟩:=bd hb
  refine RC.jn (fun(ag:Int)=>SH E V [(0,ah),(1,ad),(2,v2),(7,ae),(8,vb o.2.2.2.1),(9,vb o.2.2.2.2.1),(10,vb o.2.2.2.2.2),(11,vi ag)] [rd ah o.1,rd ad o.2.1,own 3 ae o.2.2.1]) ag ?_ ?_
  ·refine eI hj (fun hc hj=>?_) fun hc hj=>?_
   ·refine RC.region (mv ah ?_)
    obtain⟨ba,bl,hj⟩:=bd hj
    refine RL.bW 0 j dV bl fun b0 j=>(RL.bH ba 0 j cN (aK (vi ba) (RL.nil ?_)))
    obtain rfl:=oi hj
    exact⟨rfl,j.sp 4 [1,2,3]⟩
   refine RC.region (mv ad ?_)
   obtain⟨bb,bm,hj⟩:=bd hj
   refine RL.bW 1 j dV bm fun b1 j=>(RL.bH bb 0 j cN (aK (vi bb) (RL.nil ?_)))
   obtain rfl:=oi hj
   exact⟨rfl,j.sp 4 [1,2,3]⟩
  rintro _ w ⟨O,rfl,j⟩
  refine aG (RC.seq (RC.seq ?_))
  obtain⟨a3,hj,hb⟩:=bd hb
  refine RC.jn (fun(a3:Bool)=>SH E V [(0,ah),(1,ad),(2,v2),(7,ae),(8,vb o.2.2.2.1),(9,vb o.2.2.2.2.1),(10,vb o.2.2.2.2.2),(11,vi ag),(53,vb a3)] [rd ah o.1,rd ad o.2.1,own 3 ae o.2.2.1]) a3 ?_ ?_
  ·refine RC.region (mv ah (RL.bC 0 o.1 j l3 (ic ((o.1.length:Int)) 0 (mv (vb (decide ((o.1.length:Int)>0))) (fU hj (fun aj hj=>?_) fun aj hj=>?_)))))
   rotate_left
   ·refine bN aj (bN aj (bN aj (bN aj (bN aj (fP aj (vb false) (RL.nil ?_))))))
    obtain rfl:=oi hj
    exact⟨rfl,j.sp 3 [0,1,2]⟩
   refine RL.move ah (cg aj) ?_
   obtain⟨a4,bn,hj⟩:=bd hj
   refine RL.bW (hg:=(cg aj)) 0 j dV bn fun b2 j=>(RL.bH (hg:=(cg aj)) a4 0 j cN (RL.move (vi ag) (cg aj) (RL.jO a4 ag (cg aj) (fP aj (vb (a4==ag)) (RL.nil ?_)))))
   obtain rfl:=oi hj
   exact⟨rfl,j.sp 4 [1,2,3]⟩
  rintro _ w ⟨O,rfl,j⟩
  refine aG ?_
  obtain⟨al,hj,hb⟩:=bd hb
  refine RC.jn (fun(al: (List Int)×Bool) U w=>∃an:Value,SH E V [(0,an),(1,ad),(2,v2),(7,ae),(8,vb al.2),(9,vb o.2.2.2.2.1),(10,vb o.2.2.2.2.2),(11,vi ag)] [rd ad o.2.1,own 3 ae o.2.2.1,rd an al.1] U w) al ?_ ?_
  ·refine eI hj (fun hc hj=>?_) fun hc hj=>?_
   rotate_left
   ·refine RC.skip ?_
    obtain rfl:=oi hj
    exact⟨rfl,ah,j.sp 3 [1,2,0]⟩
   refine RC.region (mv ah ?_)
   obtain⟨b3,bo,hj⟩:=bd hj
   refine RL.cut 0 j dV (.inr ⟨rfl,zr⟩) bo fun bc j=>(mv (vb o.2.2.2.1) (RL.not o.2.2.2.1 (aK bc (aK (vb (!o.2.2.2.1)) (RL.nil ?_)))))
   obtain rfl:=oi hj
   exact⟨rfl,bc,j.sp 4 [2,3,0]⟩
  rintro _ w ⟨an,O,rfl,j⟩
  refine aG (RC.seq (RC.seq ?_))
  obtain⟨a5,hj,hb⟩:=bd hb
  refine RC.jn (fun(a5:Bool)=>SH E V [(0,an),(1,ad),(2,v2),(7,ae),(8,vb al.2),(9,vb o.2.2.2.2.1),(10,vb o.2.2.2.2.2),(11,vi ag),(67,vb a5)] [rd an al.1,rd ad o.2.1,own 3 ae o.2.2.1]) a5 ?_ ?_
  ·refine RC.region (mv ad (RL.bC 0 o.2.1 j l3 (ic ((o.2.1.length:Int)) 0 (mv (vb (decide ((o.2.1.length:Int)>0))) (fU hj (fun ak hj=>?_) fun ak hj=>?_)))))
   rotate_left
   ·refine bN ak (bN ak (bN ak (bN ak (bN ak (fP ak (vb false) (RL.nil ?_))))))
    obtain rfl:=oi hj
    exact⟨rfl,j.sp 3 [2,0,1]⟩
   refine RL.move ad (cg ak) ?_
   obtain⟨a6,bp,hj⟩:=bd hj
   refine RL.bW (hg:=(cg ak)) 0 j dV bp fun b4 j=>(RL.bH (hg:=(cg ak)) a6 0 j cN (RL.move (vi ag) (cg ak) (RL.jO a6 ag (cg ak) (fP ak (vb (a6==ag)) (RL.nil ?_)))))
   obtain rfl:=oi hj
   exact⟨rfl,j.sp 4 [3,1,2]⟩
  rintro _ w ⟨O,rfl,j⟩
  refine aG ?_
  obtain⟨ar,hj,hb⟩:=bd hb
  refine RC.jn (fun(ar: (List Int)×Bool) U w=>∃au:Value,SH E V [(0,an),(1,au),(2,v2),(7,ae),(8,vb al.2),(9,vb ar.2),(10,vb o.2.2.2.2.2),(11,vi ag)] [rd an al.1,own 3 ae o.2.2.1,rd au ar.1] U w) ar ?_ ?_
  ·refine eI hj (fun hc hj=>?_) fun hc hj=>?_
   rotate_left
   ·refine RC.skip ?_
    obtain rfl:=oi hj
    exact⟨rfl,ad,j.sp 3 [0,2,1]⟩
   refine RC.region (mv ad ?_)
   obtain⟨b5,bq,hj⟩:=bd hj
   refine RL.cut 1 j dV (.inr ⟨rfl,zr⟩) bq fun bf j=>(mv (vb o.2.2.2.2.1) (RL.not o.2.2.2.2.1 (aK bf (aK (vb (!o.2.2.2.2.1)) (RL.nil ?_)))))
   obtain rfl:=oi hj
   exact⟨rfl,bf,j.sp 4 [1,3,0]⟩
  rintro _ w ⟨au,O,rfl,j⟩
  refine aG (RC.sr (mv v2 (mv (vb al.2) (mv (vb ar.2) ?_))))
  have j:=(j.sc Bool al.2).sc Bool ar.2
  obtain⟨aw,br,hb⟩:=bd hb
  refine RL.CP 1 0 zt zr j zr h2 5 zr zr zr zr zr br fun w j=>(aK (vb aw) (RL.ns (mv (vb aw) (mv (vb o.2.2.2.2.2) (RL.uE aw o.2.2.2.2.2 zr zr zr HM (RL.nt ?_))))))
  obtain⟨az,hj,hb⟩:=bd hb
  refine RC.jn (fun(az: (List Int)×Bool) U w=>∃a0:Value,SH E V [(0,an),(1,au),(2,v2),(7,a0),(8,vb al.2),(9,vb ar.2),(10,vb az.2)] [rd an al.1,rd au ar.1,own 3 a0 az.1] U w) az ?_ ?_
  ·refine eI hj (fun hc hj=>?_) fun hc hj=>?_
   rotate_left
   ·refine RC.skip ?_
    obtain rfl:=oi hj
    exact⟨rfl,ae,j.sp 5 [2,4,3]⟩
   refine RC.region (mv ae (mv (vi ag) ?_))
   have j:=j.sc Int ag
   refine RL.eE ([ag]: (List Int)) j [(vi ag)] dV Ft (fun M hs g=>⟨(g.sat 0 _ zr).1,zt⟩) fun b6 w j=>?_
   have j:=j.freeze 0
   obtain⟨b7,bt,hj⟩:=bd hj
   refine RL.app 5 0 j tM bt fun bg w j=>?_
   refine mv (vb aw) (aK bg (aK (vb aw) (RL.nil ?_)))
   obtain rfl:=oi hj
   exact⟨rfl,bg,j.sp 7 [4,6,5]⟩
  rintro _ w ⟨a0,O,rfl,j⟩
  refine bI ?_
  obtain rfl:=oi hb
  exact⟨rfl,an,au,a0,j.sp 3 [0,1,2]⟩
 ·intro r _ _ _ _
  exact r.elim
 rintro o _ w rfl ⟨av,O,rfl,j⟩
 rw [Fo.fB] at hb
 refine aG (RC.sr (mv av (aK av (RL.nt (RC.ret ?_)))))
 obtain rfl:=oi hb
 exact cF (j.pk 1 [0])
theorem x8 {p0: (List aA)} {p1: (List aA)} {p2:Bool->Bool->Option Bool} {res: (List aA)} (j:Holds E w V) (h0:V[i0]? =some (rd v0 p0)) (h1:V[i1]? =some (rd v1 p1)) (h2:I1 bE E V v2 p2 (fun(r:Bool)=>Value.bool r)) (o:m6 N p0 p1 p2=some res):
    Calls bE 114 [v0,v1,v2].toArray w (gF (lf E V res)):=by
 unfold m6 at o
 refine enter Tryz.func114 zr zr ?_
 have j:=(j.dup (i0+0) h0).dup (i1+1) h1
 refine RC.sr (aK (.slice none 0 0) (RL.ns (aK (.slice none 0 0) (RL.nq (RC.sr (mv v0 (RL.bC 1 p0 j nH (mv v1 ?_))))))))
 refine RL.bC 0 p1 j nH (RL.i6 (p0.length:Int) (p1.length:Int) (ic ((IntKind.wrap .i64 ((p0.length:Int)+ (p1.length:Int)))) 0 (RL.nt (eI o (fun hc o=>?_) fun hc o=>?_))))
 ·refine RC.sr (aK (.slice none 0 0) (RL.nt (RC.rt ?_)))
  obtain rfl:=oi o
  have j:=j.cT aA 187
  exact cF (j.pk 3 [0])
 refine RC.sx (aK (vi 0) (aK (vi 0) (RL.nq (RC.sr (mv v0 (mv v1 (RL.eE ([p0,p1]: (List (List aA))) j [v0,v1] BZ F8 (fun M hs g=>⟨(g.sat 1 _ zr).1,⟨(g.sat 0 _ zr).1,zt⟩⟩) fun ar w j=>(RL.eH 0 ([p0,p1]: (List (List aA))) j Iv ?_))))))))
 refine mv (vi 0) (RL.nt ?_)
 obtain⟨ad,hN,o⟩:=bd o
 refine RC.fold (fun(aj:Nat) (ad:Int×Int)=>SH E V [(0,v0),(1,v1),(2,v2),(7,(.slice none 0 0)),(8,vi ad.1),(9,vi ad.2),(25,ar),(26,(vi ((([p0,p1]: (List (List aA))).length:Nat):Int))),(27,vi aj)] [rd v0 p0,rd v1 p1,own 132 ar ([p0,p1]: (List (List aA)))]) (fun(ad:Int×Int)=>SH E V [(0,v0),(1,v1),(2,v2),(7,(.slice none 0 0)),(8,vi ad.1),(9,vi ad.2)] [rd v0 p0,rd v1 p1,own 132 ar ([p0,p1]: (List (List aA)))]) hN ?_ ?_ ?_ ?_
 ·exact j.sp 3 [2,1,0]
 ·rintro hm ad _ w ⟨O,rfl,j⟩
  refine RC.sr (ic (((([p0,p1]: (List (List aA))).length:Nat):Int)) (((([p0,p1]: (List (List aA))).length:Nat):Int)) (RL.nq (RC.cH lD (RC.ex ?_))))
  exact⟨rfl,j.sp 3 [0,1,2]⟩
 ·rintro hm aj ad s' _ w hk ⟨O,rfl,j⟩ o
  refine RC.sr (ic ((aj:Int)) (((([p0,p1]: (List (List aA))).length:Nat):Int)) (RL.nq (RC.cG (lC hk) (RC.ss (RC.bs (mv (vi aj) ?_))))))
  obtain⟨aw,a8,o⟩:=bd o
  refine RL.bG 2 j zr zr BZ a8 (RL.iD (f:=(fun x=>x)) 2 j (iX 2 j a8 0) (aU a8).2.1 Fd.self Iw fun ak j=>?_)
  refine aK (vi aj) (aK ak (RL.ns (mv ak (RL.bC 0 aw j nH (ic ((aw.length:Int)) 0 (RL.nt ?_))))))
  obtain⟨a5,hj,o⟩:=bd o
  refine RC.jn (fun(a5:Int×Int)=>SH E V [(0,v0),(1,v1),(2,v2),(7,(.slice none 0 0)),(8,vi a5.1),(9,vi a5.2),(25,ar),(26,(vi ((([p0,p1]: (List (List aA))).length:Nat):Int))),(27,vi aj)] [rd v0 p0,rd v1 p1,own 132 ar ([p0,p1]: (List (List aA)))]) a5 ?_ ?_
  ·refine eI hj (fun hc hj=>?_) fun hc hj=>?_
   rotate_left
   ·refine RC.skip ?_
    obtain rfl:=oi hj
    exact⟨rfl,j.sp 4 [1,2,3]⟩
   refine RC.seq (RC.seq ?_)
   obtain⟨a9,hjj,hj⟩:=bd hj
   refine RC.jn (fun(a9:Bool)=>SH E V [(0,v0),(1,v1),(2,v2),(7,(.slice none 0 0)),(8,vi ad.1),(9,vi ad.2),(11,ak),(25,ar),(26,(vi ((([p0,p1]: (List (List aA))).length:Nat):Int))),(27,vi aj),(41,vb a9)] [rd v0 p0,rd v1 p1,rd ak aw,own 132 ar ([p0,p1]: (List (List aA)))]) a9 ?_ ?_
   ·refine RC.region (mv (vi aj) (ic ((aj:Int)) 0 (mv (vb ((aj:Int)==0)) (fU hjj (fun au hjj=>?_) fun au hjj=>?_))))
    ·refine bN au (bN au (bN au (fP au (vb true) (RL.nil ?_))))
     obtain rfl:=oi hjj
     exact⟨rfl,j.sp 4 [1,2,0,3]⟩
    refine RL.move v0 (cg au) (RL.bC (hg:=(cg au)) 1 p0 j nH (RL.jO (p0.length:Int) 0 (cg au) (fP au (vb ((p0.length:Int)==0)) (RL.nil ?_))))
    obtain rfl:=oi hjj
    exact⟨rfl,j.sp 4 [1,2,0,3]⟩
   rintro _ w ⟨O,rfl,j⟩
   refine aG ?_
   obtain⟨al,hjj,hj⟩:=bd hj
   refine RC.jn (fun(al:Int×Int)=>SH E V [(0,v0),(1,v1),(2,v2),(7,(.slice none 0 0)),(8,vi al.1),(9,vi al.2),(11,ak),(25,ar),(26,(vi ((([p0,p1]: (List (List aA))).length:Nat):Int))),(27,vi aj)] [rd v0 p0,rd v1 p1,rd ak aw,own 132 ar ([p0,p1]: (List (List aA)))]) al ?_ ?_
   ·refine eI hjj (fun hc hjj=>?_) fun hc hjj=>?_
    rotate_left
    ·refine RC.skip ?_
     obtain rfl:=oi hjj
     exact⟨rfl,j.sp 4 [0,1,2,3]⟩
    refine RC.uK mixed ?_
    have j:=j.drew
    refine RO.go (mv ak (RO.nx ?_))
    obtain⟨bj,bw,hjj⟩:=bd hjj
    refine RL.bW 2 j kc bw fun cd j=>(RO.nx (RL.iu 0 j zr nR fQ fun cf j=>(RO.nx (RL.bH bj.Y0 0 j cN (RO.nx (mv ak (RO.nx (mv ak ?_))))))))
    refine RO.nx (RL.bC 4 aw j nH (RO.nx (RL.i6 (aw.length:Int) 1 (RO.nx ?_))))
    obtain⟨bk,bx,hjj⟩:=bd hjj
    refine RL.bW 4 j kc bx fun ch j=>(RO.nx (RL.iu 0 j zr lV eF fun cj j=>(RO.nx (RL.bH bk.Y1 0 j cN (RO.nx (aK (vi bj.Y0) (RO.nx (aK (vi bk.Y1) ?_))))))))
    refine RO.last ?_
    obtain rfl:=oi hjj
    exact⟨rfl,j.sp 8 [4,5,6,7]⟩
   rintro _ w ⟨O,rfl,j⟩
   refine aG (RC.uK mixed ?_)
   have j:=j.drew
   refine RO.go (mv (vi al.1) (RO.nx (mv ak (RO.nx ?_))))
   obtain⟨a6,bz,hj⟩:=bd hj
   refine RL.bW 2 j kc bz fun ck j=>(RO.nx (RL.iu 0 j zr nR fQ fun cl j=>(RO.nx (RL.bH a6.Y0 0 j cN (RO.nx (RL.min al.1 a6.Y0 (RO.nx (mv (vi al.2) ?_))))))))
   refine RO.nx (mv ak (RO.nx (mv ak (RO.nx (RL.bC 4 aw j nH (RO.nx (RL.i6 (aw.length:Int) 1 (RO.nx ?_))))))))
   obtain⟨a7,b0,hj⟩:=bd hj
   refine RL.bW 4 j kc b0 fun cm j=>(RO.nx (RL.iu 0 j zr lV eF fun cn j=>(RO.nx (RL.bH a7.Y1 0 j cN (RO.nx (RL.max al.2 a7.Y1 (RO.nx (aK (vi (if a6.Y0<al.1 then a6.Y0 else al.1)) ?_))))))))
   refine RO.nx (aK (vi (if al.2<a7.Y1 then a7.Y1 else al.2)) (RO.last ?_))
   obtain rfl:=oi hj
   exact⟨rfl,j.sp 8 [4,5,7]⟩
  rintro _ w ⟨O,rfl,j⟩
  refine bI (aG (RC.region (RL.inc hk hm (mv (vi ((aj+1:Nat):Int)) (RL.nil ?_)))))
  obtain rfl:=oi o
  exact⟨rfl,j.sp 3 [0,1,2]⟩
 rintro _ w ⟨O,rfl,j⟩
 refine aG (RC.seq ?_)
 obtain⟨cp,hN,o⟩:=bd o
 refine RC.iter (fun(aa: (List aA)×(List aA)×(List aA)×Int) U w=>∃bl bm bn:Value,SH E V [(0,bl),(1,bm),(2,v2),(7,bn),(8,vi aa.2.2.2),(9,vi ad.2)] [rd bl aa.1,rd bm aa.2.1,own 187 bn aa.2.2.1] U w) (fun(aa: (List aA)×(List aA)×(List aA)×Int) U w=>∃a2:Value,SH E V [(7,a2)] [own 187 a2 aa.2.2.1] U w) (fun(r:Empty) _ _=>r.elim) hN ?_ ?_ ?_ ?_
 ·have j:=j.cT aA 187
  exact⟨v0,v1,(.slice none 0 0),j.sp 4 [1,2,0]⟩
 ·rintro aa fl _ w ⟨b1,ay,ag,O,rfl,j⟩ o
  refine RC.seq (RC.sr (mv (vi aa.2.2.2) (mv (vi ad.2) (ic aa.2.2.2 ad.2 (RL.nt (eI o (fun hc o=>?_) fun hc o=>?_))))))
  rotate_left
  ·refine RC.ex ?_
   obtain rfl:=oi o
   exact⟨rfl,ag,j.sp 3 [2]⟩
  refine RC.sn (RC.block (RC.seq ?_))
  obtain⟨cq,hN,o⟩:=bd o
  refine RC.iter (fun(an: (List aA)) U w=>∃bp:Value,SH E V [(0,bp),(1,ay),(2,v2),(7,ag),(8,vi aa.2.2.2),(9,vi ad.2)] [rd ay aa.2.1,own 187 ag aa.2.2.1,rd bp an] U w) (fun(an: (List aA)) U w=>∃ao:Value,SH E V [(0,ao),(1,ay),(2,v2),(7,ag),(8,vi aa.2.2.2),(9,vi ad.2)] [rd ay aa.2.1,own 187 ag aa.2.2.1,rd ao an] U w) (fun(r:Empty) _ _=>r.elim) hN ?_ ?_ ?_ ?_
  ·exact⟨b1,j.sp 3 [1,2,0]⟩
  ·rintro an fl _ w ⟨az,O,rfl,j⟩ o
   refine RC.seq (RC.seq ?_)
   obtain⟨ba,hj,o⟩:=bd o
   refine RC.jn (fun(ba:Bool)=>SH E V [(0,az),(1,ay),(2,v2),(7,ag),(8,vi aa.2.2.2),(9,vi ad.2),(82,vb ba)] [rd az an,rd ay aa.2.1,own 187 ag aa.2.2.1]) ba ?_ ?_
   ·refine RC.region (mv az (RL.bC 2 an j nH (ic ((an.length:Int)) 0 (mv (vb (decide ((an.length:Int)>0))) (fU hj (fun ah hj=>?_) fun ah hj=>?_)))))
    rotate_left
    ·refine bN ah (bN ah (bN ah (bN ah (bN ah (bN ah (fP ah (vb false) (RL.nil ?_)))))))
     obtain rfl:=oi hj
     exact⟨rfl,j.sp 3 [2,0,1]⟩
    refine RL.move az (cg ah) ?_
    obtain⟨bb,b2,hj⟩:=bd hj
    refine RL.bW (hg:=(cg ah)) 2 j kc b2 fun cr j=>(RL.iu (hg:=(cg ah)) 0 j zr lV eF fun ct j=>(RL.bH (hg:=(cg ah)) bb.Y1 0 j cN (RL.move (vi aa.2.2.2) (cg ah) (RL.jO bb.Y1 aa.2.2.2 (cg ah) (fP ah (vb (decide (bb.Y1<=aa.2.2.2))) (RL.nil ?_))))))
    obtain rfl:=oi hj
    exact⟨rfl,j.sp 5 [4,2,3]⟩
   rintro _ w ⟨O,rfl,j⟩
   refine aG (eI o (fun hc o=>?_) fun hc o=>?_)
   rotate_left
   ·refine RC.ex ?_
    obtain rfl:=oi o
    exact⟨rfl,az,j.sp 3 [1,2,0]⟩
   refine RC.sn (RC.block (RC.region (mv az ?_)))
   obtain⟨cu,b3,o⟩:=bd o
   refine RL.cut 0 j kc (.inr ⟨rfl,zr⟩) b3 fun bq j=>(aK bq (RL.nil (bI ?_)))
   obtain rfl:=oi o
   exact⟨rfl,bq,j.sp 4 [2,3,0]⟩
  ·intro r _ _ _ _
   exact r.elim
  rintro an _ w rfl ⟨ao,O,rfl,j⟩
  rw [Fo.fB] at o
  refine aG (RC.seq ?_)
  obtain⟨cv,hN,o⟩:=bd o
  refine RC.iter (fun(av: (List aA)) U w=>∃br:Value,SH E V [(0,ao),(1,br),(2,v2),(7,ag),(8,vi aa.2.2.2),(9,vi ad.2)] [rd ao an,own 187 ag aa.2.2.1,rd br av] U w) (fun(av: (List aA)) U w=>∃a0:Value,SH E V [(0,ao),(1,a0),(2,v2),(7,ag),(8,vi aa.2.2.2),(9,vi ad.2)] [rd ao an,own 187 ag aa.2.2.1,rd a0 av] U w) (fun(r:Empty) _ _=>r.elim) hN ?_ ?_ ?_ ?_
  ·exact⟨ay,j.sp 3 [2,1,0]⟩
  ·rintro av fl _ w ⟨a1,O,rfl,j⟩ o
   refine RC.seq (RC.seq ?_)
   obtain⟨bc,hj,o⟩:=bd o
   refine RC.jn (fun(bc:Bool)=>SH E V [(0,ao),(1,a1),(2,v2),(7,ag),(8,vi aa.2.2.2),(9,vi ad.2),(95,vb bc)] [rd ao an,rd a1 av,own 187 ag aa.2.2.1]) bc ?_ ?_
   ·refine RC.region (mv a1 (RL.bC 2 av j nH (ic ((av.length:Int)) 0 (mv (vb (decide ((av.length:Int)>0))) (fU hj (fun ai hj=>?_) fun ai hj=>?_)))))
    rotate_left
    ·refine bN ai (bN ai (bN ai (bN ai (bN ai (bN ai (fP ai (vb false) (RL.nil ?_)))))))
     obtain rfl:=oi hj
     exact⟨rfl,j.sp 3 [0,2,1]⟩
    refine RL.move a1 (cg ai) ?_
    obtain⟨bf,b4,hj⟩:=bd hj
    refine RL.bW (hg:=(cg ai)) 2 j kc b4 fun cw j=>(RL.iu (hg:=(cg ai)) 0 j zr lV eF fun cx j=>(RL.bH (hg:=(cg ai)) bf.Y1 0 j cN (RL.move (vi aa.2.2.2) (cg ai) (RL.jO bf.Y1 aa.2.2.2 (cg ai) (fP ai (vb (decide (bf.Y1<=aa.2.2.2))) (RL.nil ?_))))))
    obtain rfl:=oi hj
    exact⟨rfl,j.sp 5 [2,4,3]⟩
   rintro _ w ⟨O,rfl,j⟩
   refine aG (eI o (fun hc o=>?_) fun hc o=>?_)
   rotate_left
   ·refine RC.ex ?_
    obtain rfl:=oi o
    exact⟨rfl,a1,j.sp 3 [0,2,1]⟩
   refine RC.sn (RC.block (RC.region (mv a1 ?_)))
   obtain⟨cy,b5,o⟩:=bd o
   refine RL.cut 1 j kc (.inr ⟨rfl,zr⟩) b5 fun bt j=>(aK bt (RL.nil (bI ?_)))
   obtain rfl:=oi o
   exact⟨rfl,bt,j.sp 4 [1,3,0]⟩
  ·intro r _ _ _ _
   exact r.elim
  rintro av _ w rfl ⟨a0,O,rfl,j⟩
  rw [Fo.fB] at o
  refine aG (RC.sr (mv ao (mv (vi aa.2.2.2) (mv (vi ad.2) ?_))))
  obtain⟨ae,b6,o⟩:=bd o
  refine RL.call zt zr Ix [ao,(vi aa.2.2.2),(vi ad.2)] zr (aF (qP N (p1:=aa.2.2.2) (p2:=ad.2) (i0:=0) j zr b6) ?_)
  rintro _ w ⟨a3,rfl,j⟩
  refine mv (.tuple #[a3,(vi ae.2)]) (RL.extract a3 (RL.extract (vi ae.2) (aK a3 (aK (vi ae.2) (RL.ns (mv a0 (mv (vi aa.2.2.2) (mv (vi ad.2) ?_))))))))
  obtain⟨af,b7,o⟩:=bd o
  refine RL.call zt zr Ix [a0,(vi aa.2.2.2),(vi ad.2)] zr (aF (qP N (p1:=aa.2.2.2) (p2:=ad.2) (i0:=3) j zr b7) ?_)
  rintro _ w ⟨a4,rfl,j⟩
  refine mv (.tuple #[a4,(vi af.2)]) (RL.extract a4 (RL.extract (vi af.2) (aK a4 (aK (vi af.2) (RL.ns (mv (vi ae.2) (mv (vi af.2) (RL.min ae.2 af.2 ?_))))))))
  refine aK (vi (if af.2<ae.2 then af.2 else ae.2)) (RL.ns (mv ag (mv (vi aa.2.2.2) (mv (vi (if af.2<ae.2 then af.2 else ae.2)) (mv a3 (mv a4 (mv v2 ?_)))))))
  obtain⟨b8,b9,o⟩:=bd o
  refine RL.call zt zr Ku [a3,a4,v2] zr (aF (yZ N (i0:=1) (i1:=0) j zr zr (h2.lift 5 zr) b9) ?_)
  rintro ca w j
  have j:=((j.sc Int aa.2.2.2).sc Int (if af.2<ae.2 then af.2 else ae.2)).freeze 2
  refine RL.build (⟨aa.2.2.2,(if af.2<ae.2 then af.2 else ae.2),b8⟩:aA) trivial rfl j [(0,vi aa.2.2.2),(1,(vi (if af.2<ae.2 then af.2 else ae.2))),(2,ca)] rfl Ir rfl (fun M hs g=>by have h:=uS M;exact cO.cons (f:=fun(x:aA) y=>{x with Y0:=y}) h qL (g.sat 1 _ rfl).1 fun _ h=>cO.cons (f:=fun(x:aA) y=>{x with Y1:=y}) h nz (g.sat 0 _ rfl).1 fun _ h=>cO.cons (f:=fun(x:aA) y=>{x with Xs:=y}) h qM (g.sat 2 _ rfl).1 fun _ h=>cO.nil h) fun cb j=>?_
  have j:=j.pull 7
  obtain⟨cz,cc,o⟩:=bd o
  refine RL.call zt zr Is [ag,cb] zr (aF (o5 N (i1:=0) j zr cc) ?_)
  rintro bu w j
  refine aK bu (RL.nt (RC.region (mv (vi (if af.2<ae.2 then af.2 else ae.2)) (aK (vi (if af.2<ae.2 then af.2 else ae.2)) (RL.nil (bI ?_))))))
  obtain rfl:=oi o
  exact⟨rfl,ao,a0,bu,j.sp 10 [7,9,0]⟩
 ·intro r _ _ _ _
  exact r.elim
 rintro aa _ w rfl ⟨a2,O,rfl,j⟩
 rw [Fo.fB] at o
 refine aG (RC.sr (mv a2 (aK a2 (RL.nt (RC.ret ?_)))))
 obtain rfl:=oi o
 exact cF (j.pk 1 [0])
theorem rL {p0 p1 res:Bool} (o:Holds E w V) (j:mq N p0 p1=some res):
    Calls bE 115 [(vb p0),(vb p1)].toArray w (gF (aY E V res)):=by
 unfold mq at j
 refine enter Tryz.func115 rfl rfl (RC.sr (aK (vb false) (RL.ns (mv (vb p0) (mv (vb p0) (RL.gs true p0 (vb p1) rfl rfl rfl dT (RL.gs true p0 (vb (!p1)) rfl rfl rfl (IZ (b:=p1) rfl (fun h=>by exact(cV h:cv (true&&(p0==true)) (vb p1)= (vb p1)))) (RL.pick p0 (vb (p0&&(!p1))) (iL true) ?_))))))))
 refine aK (vb (p0&&(!p1))) (RL.nt (RC.ret ?_))
 obtain rfl:=oi j
 exact cF ⟨rfl,o.drop 0⟩
theorem vc {p0: (List aA)} {p1: (List aA)} {res: (List aA)} (o:Holds E w V) (h0:V[i0]? =some (rd v0 p0)) (h1:V[i1]? =some (rd v1 p1)) (hb:jK N p0 p1=some res):
    Calls bE 80 [v0,v1].toArray w (gF (lf E V res)):=by
 unfold jK at hb
 refine enter Tryz.func80 zr zr ?_
 have o:=(o.dup (i0+0) h0).dup (i1+1) h1
 refine RC.sr (aK (.slice none 0 0) (RL.ns (mv v0 (mv v1 ?_))))
 obtain⟨af,ab,hb⟩:=bd hb
 refine RL.call trivial rfl Kw [v0,v1,(.func (.func 115) #[] #[])] rfl (aF (x8 N (i0:=1) (i1:=0) o rfl rfl ⟨115,[],rfl,Kv,fun w Γl v v' y0 y1 r i j o hi hj hr=>by obtain rfl:=o.Aa (γ:=Bool) hi;obtain rfl:=o.Aa (γ:=Bool) hj;exact aF (rL N (p0:=y0) (p1:=y1) o hr) fun _ _ h=>h⟩ ab) ?_)
 rintro ae w o
 refine aK ae (RL.nt (RC.ret ?_))
 obtain rfl:=oi hb
 exact cF (o.pk 3 [0])
theorem vd {p0: (List aA)} (j:Holds E w V) (h0:V[i0]? =some (rd v0 p0)) (hb:kI N p0=some res):
    Calls bE 81 [v0].toArray w (gF (aN E V res)):=by
 unfold kI at hb
 refine enter Tryz.func81 zr zr ?_
 have j:=j.dup (i0+0) h0
 refine RC.sr (aK (vi 0) (RL.ns (aK (vi 0) (RL.nq (RC.sr (mv v0 (RL.bC 0 p0 j nH (mv (vi 0) ?_))))))))
 refine RL.nt ?_
 obtain⟨o,hN,hb⟩:=bd hb
 refine RC.fold (fun(ad:Nat) (o:Int)=>SH E V [(3,vi o),(6,v0),(7,vi p0.length),(8,vi ad)] [rd v0 p0]) (fun(o:Int)=>SH E V [(3,vi o)] [rd v0 p0]) hN ?_ ?_ ?_ ?_
 ·exact j.sp 1 [0]
 ·rintro hm o _ w ⟨O,rfl,j⟩
  refine RC.sr (ic ((p0.length:Int)) ((p0.length:Int)) (RL.nq (RC.cH lD (RC.ex ?_))))
  exact⟨rfl,j.sp 1 [0]⟩
 ·rintro hm ad o s' _ w hk ⟨O,rfl,j⟩ hb
  refine RC.sr (ic ((ad:Int)) ((p0.length:Int)) (RL.nq (RC.cG (lC hk) (RC.ss (RC.bs ?_)))))
  obtain⟨ab,ah,hb⟩:=bd hb
  refine RL.bW 0 j kc ah fun ai j=>(RL.bL 0 ab j uT fun aj j=>(RL.alloc j BX.z fun ak w j=>?_))
  refine RL.bA 0 j 1 zr uT fun w j=>?_
  refine RL.nt (RC.region (mv (vi o) (RL.bB zr ku (RL.aQ 0 j zr dG fE fun al j=>(RL.bC 0 ab.Xs j l3 (RL.quo (ab.Xs.length:Int) 2 zr zr zr zr (RL.i6 o (IntKind.wrap .i64 (Int.tdiv (ab.Xs.length:Int) 2)) (aK (vi (IntKind.wrap .i64 (o+ (IntKind.wrap .i64 (Int.tdiv (ab.Xs.length:Int) 2))))) ?_))))))))
  refine RL.nil (bI (aG (RC.region (RL.inc hk hm (mv (vi ((ad+1:Nat):Int)) (RL.nil ?_))))))
  obtain rfl:=oi hb
  exact⟨rfl,j.sp 5 [4]⟩
 rintro _ w ⟨O,rfl,j⟩
 refine aG (RC.sr (mv (vi o) (aK (vi o) (RL.nt (RC.ret ?_)))))
 obtain rfl:=oi hb
 exact cF ⟨rfl,j.drop 1⟩
def rM (E:World) (V:List HP) (b1:Nat) (res:Int×(List Int)) (v:Value) (w:World):Prop:=∃u1_0:Value,v= (vi res.1)/\Holds E w ([bc 87 b1 [u1_0],own 3 u1_0 res.2]++V)
theorem kn {p1_0: (List Int)} {res:Int×(List Int)} (j:Holds E w (bc 87 b1 [v1_0]::own 3 v1_0 p1_0::V)) (o:eB N p0 p1_0=some res):
    Calls bE 116 [(vi p0),(vp b1 0)].toArray w (gF (rM E V b1 res)):=by
 unfold eB at o
 refine enter Tryz.func116 zr zr (RC.sr (aK (vi 0) (RL.nq ?_)))
 obtain⟨an,hN,o⟩:=bd o
 refine RC.iter (fun(aa:Int×(List Int))=>SH E V [(0,vi aa.1),(1,vp b1 0)] [bc 87 b1 [v1_0],own 3 v1_0 aa.2]) (fun(aa:Int×(List Int))=>SH E V [(0,vi aa.1),(1,vp b1 0)] [bc 87 b1 [v1_0],own 3 v1_0 aa.2]) (fun(r:Empty) _ _=>r.elim) hN ?_ ?_ ?_ ?_
 ·exact j.sp 2 [0,1]
 ·rintro aa fl _ w ⟨O,rfl,j⟩ o
  refine RC.seq (RC.sr (RL.aX 0 v1_0 j fE (mv (vi aa.1) ?_)))
  obtain⟨ai,ab,o⟩:=bd o
  refine RL.bG 1 j zr zr dV ab (RL.cX (f:=(fun x=>x)) 1 j (iX 1 j ab 0) (aU ab).2.1 Fd.self cN (mv (vi aa.1) (ic ai aa.1 (RL.nt (eI o (fun hc o=>?_) fun hc o=>?_)))))
  rotate_left
  ·refine RC.ex ?_
   obtain rfl:=oi o
   exact⟨rfl,j.sp 2 [0,1]⟩
  refine RC.sn (RC.block (RC.seq (RC.xM mixed [0,0,0,0,0,0,0,0,0,0,2] [0,1,2,3,4,5,6,7,8,9,10] ?_)))
  have j:=j.drew
  refine DP.e0 zr (RL.aX 0 v1_0 j fE (cB zr (mv (vi aa.1) (cB zr (RL.aX 0 v1_0 j fE (cB zr (RL.aX 0 v1_0 j fE (cB zr ?_))))))))
  refine mv (vi aa.1) (cB zr ?_)
  obtain⟨aq,ad,o⟩:=bd o
  refine RL.bG 1 j zr zr dV ad (cB zr (RL.cX (f:=(fun x=>x)) 1 j (iX 1 j ad 0) (aU ad).2.1 Fd.self cN (cB zr ?_)))
  obtain⟨ak,ae,o⟩:=bd o
  refine RL.bG 1 j zr zr dV ae (cB zr (RL.cX (f:=(fun x=>x)) 1 j (iX 1 j ae 0) (aU ae).2.1 Fd.self cN (cB zr ?_)))
  obtain⟨ar,af,o⟩:=bd o
  refine RL.bG 1 j zr zr dV af (tL zr ?_)
  have j:=j.sc Int ak
  refine RL.fA (f:=(fun _ y=>y)) 2 0 j (iX 2 j af 0) (aU af).2.1 zr Fs.self cN fun w j=>?_
  refine DP.d2 zt (DP.z (aG (RC.region (RL.aX 1 v1_0 j fE (mv (vi aa.1) ?_)))))
  obtain⟨al,ag,o⟩:=bd o
  refine RL.bG 2 j zr zr dV ag (RL.cX (f:=(fun x=>x)) 2 j (iX 2 j ag 0) (aU ag).2.1 Fd.self cN (aK (vi al) (RL.nil (bI ?_))))
  obtain rfl:=oi o
  exact⟨rfl,j.sp 3 [1,2]⟩
 ·intro r _ _ _ _
  exact r.elim
 rintro aa _ w rfl ⟨O,rfl,j⟩
 rw [Fo.fB] at o
 refine aG (RC.sr (mv (vi aa.1) (aK (vi aa.1) (RL.nt (RC.ret ?_)))))
 obtain rfl:=oi o
 exact cF ⟨v1_0,zr,j.pk 2 [0,1]⟩
def ve (E:World) (V:List HP) (res: (List (List aA))) (v:Value) (w:World):Prop:=Holds E w ([own 132 v res]++V)
theorem tY {p0: (List aA)} {res: (List (List aA))} (o:Holds E w V) (h0:V[i0]? =some (rd v0 p0)) (hb:ka N p0=some res):
    Calls bE 82 [v0].toArray w (gF (ve E V res)):=by
 unfold ka at hb
 refine enter Tryz.func82 zr zr ?_
 have o:=o.dup (i0+0) h0
 refine RC.sr (aK (.slice none 0 0) (RL.ns (mv v0 ?_)))
 obtain⟨ao,c6,hb⟩:=bd hb
 refine RL.call zt zr Jj [v0] zr (aF (l4 N (i0:=0) o zr c6) ?_)
 rintro ag w o
 refine aK ag (RL.ns (mv ag (RL.eH 0 ao o oO ?_)))
 obtain⟨bm,c7,hb⟩:=bd hb
 refine RL.mk (ao.length:Int) o tM Ji c7 fun a9 w o=>?_
 refine RL.pG o JY fun af w o=>?_
 refine RL.gU 0 a9 o zr zr (iE 1 o) fE fun w o=>?_
 refine RL.nq (RC.sr (RL.aX 0 a9 o fE (RL.eH 1 bm o l3 (mv (vi 0) (RL.nt ?_)))))
 obtain⟨bj,hN,hb⟩:=bd hb
 refine RC.fold (fun(a7:Nat) (bj: (List Int))=>SH E V [(0,v0),(3,ag),(4,vp af 0),(32,vi bm.length),(33,vi a7)] [rd v0 p0,own 74 ag ao,bc 87 af [a9],own 3 a9 bj]) (fun(bj: (List Int))=>SH E V [(0,v0),(3,ag),(4,vp af 0)] [rd v0 p0,own 74 ag ao,bc 87 af [a9],own 3 a9 bj]) hN ?_ ?_ ?_ ?_
 ·exact o.sp 4 [3,2,0,1]
 ·rintro hm bj _ w ⟨O,rfl,o⟩
  refine RC.sr (ic ((bm.length:Int)) ((bm.length:Int)) (RL.nq (RC.cH lD (RC.ex ?_))))
  exact⟨rfl,o.sp 4 [0,1,2,3]⟩
 ·rintro hm a7 bj s' _ w hk ⟨O,rfl,o⟩ hb
  refine RC.sr (ic ((a7:Int)) ((bm.length:Int)) (RL.nq (RC.cG (lC hk) (RC.ss (RC.bs (mv (vi a7) (aK (vi a7) (RL.nt ?_))))))))
  refine RC.region (RL.aX 2 a9 o fE (mv (vi a7) (mv (vi a7) ?_)))
  obtain⟨dt,ca,hb⟩:=bd hb
  refine RL.bG 3 o zr zr dV ca ?_
  have o:=o.sc Int (a7:Int)
  refine RL.fA (f:=(fun _ y=>y)) 4 0 o (iX 4 o ca 0) (aU ca).2.1 zr Fs.self cN fun w o=>?_
  refine RL.nil (bI (aG (RC.region (RL.inc hk hm (mv (vi ((a7+1:Nat):Int)) (RL.nil ?_))))))
  obtain rfl:=oi hb
  exact⟨rfl,o.sp 5 [1,2,3,4]⟩
 rintro _ w ⟨O,rfl,o⟩
 refine aG (RC.sr (RL.makeFunc [(vp af 0)] (aK (.func (.func 116) #[] #[(vp af 0)]) (RL.ns (aK (vi 0) (aK (vi 0) (RL.nq (RC.sr ?_))))))))
 refine mv v0 (RL.bC 0 p0 o nH (mv (vi 0) (RL.nt ?_)))
 obtain⟨ab,hN,hb⟩:=bd hb
 refine RC.fold (fun(ax:Nat) (ab: (List Int)×Int×Int) U w=>∃cr:Value,SH E V [(0,v0),(3,ag),(4,vp af 0),(6,(.func (.func 116) #[] #[(vp af 0)])),(7,vi ab.2.1),(8,vi ab.2.2),(42,v0),(43,vi p0.length),(44,vi ax)] [rd v0 p0,own 74 ag ao,bc 87 af [cr],own 3 cr ab.1] U w) (fun(ab: (List Int)×Int×Int) U w=>∃bq:Value,SH E V [(3,ag),(6,(.func (.func 116) #[] #[(vp af 0)]))] [rd v0 p0,own 74 ag ao,bc 87 af [bq],own 3 bq ab.1] U w) hN ?_ ?_ ?_ ?_
 ·exact⟨a9,o.sp 4 [0,1,2,3]⟩
 ·rintro hm ab _ w ⟨c8,O,rfl,o⟩
  refine RC.sr (ic ((p0.length:Int)) ((p0.length:Int)) (RL.nq (RC.cH lD (RC.ex ?_))))
  exact⟨rfl,c8,o.sp 4 [0,1,2,3]⟩
 ·rintro hm ax ab s' _ w hk ⟨br,O,rfl,o⟩ hb
  refine RC.sr (ic ((ax:Int)) ((p0.length:Int)) (RL.nq (RC.cG (lC hk) (RC.ss (RC.bs (mv (vi ax) ?_))))))
  obtain⟨al,c9,hb⟩:=bd hb
  refine RL.bW 0 o kc c9 fun du o=>(RL.bL 0 al o uT fun dv o=>(RL.alloc o BX.z fun dw w o=>?_))
  refine aK (vi ax) (RL.bA 0 o 1 zr uT fun w o=>?_)
  refine RL.ns (RL.bB zr ku (RL.aQ 0 o zr dG fE fun dx o=>(RL.bC 0 al.Xs o l3 (RL.quo (al.Xs.length:Int) 2 zr zr zr zr (aK (vi (IntKind.wrap .i64 (Int.tdiv (al.Xs.length:Int) 2))) (RL.nq (RC.seq ?_)))))))
  obtain⟨cb,hj,hb⟩:=bd hb
  refine RC.jn (fun(cb:Bool)=>SH E V [(0,v0),(3,ag),(4,vp af 0),(6,(.func (.func 116) #[] #[(vp af 0)])),(7,vi ab.2.1),(8,vi ab.2.2),(11,(vi (IntKind.wrap .i64 (Int.tdiv (al.Xs.length:Int) 2)))),(42,v0),(43,vi p0.length),(44,vi ax),(65,vb cb)] [rd v0 p0,own 74 ag ao,bc 87 af [br],own 3 br ab.1]) cb ?_ ?_
  ·refine RC.uK mixed ?_
   have o:=o.drew
   refine RO.go (mv (vi ax) (RO.nx (ic ((ax:Int)) 0 (RO.nx (mv (vb (decide ((ax:Int)>0))) (fU hj (fun av hj=>?_) fun av hj=>?_))))))
   rotate_left
   ·refine RO.nx (bN av (RO.nx (bN av (RO.nx (bN av (RO.nx (bN av (RO.nx ?_))))))))
    refine bN av (RO.nx (bN av (RO.nx (bN av (RO.nx (bN av (RO.nx (bN av ?_))))))))
    refine RO.nx (fP av (vb false) (RO.last ?_))
    obtain rfl:=oi hj
    exact⟨rfl,o.sp 8 [4,5,6,7]⟩
   refine RO.nx (RL.move v0 (cg av) (RO.nx (RL.move (vi ax) (cg av) (RO.nx (RL.i6 (hg:=(cg av)) (ax:Int) 1 (RO.nx ?_))))))
   obtain⟨cc,da,hj⟩:=bd hj
   refine RL.bW (hg:=(cg av)) 4 o kc da fun dy o=>(RO.nx (RL.iu (hg:=(cg av)) 0 o zr lV eF fun dz o=>(RO.nx (RL.bH (hg:=(cg av)) cc.Y1 0 o cN (RO.nx (RL.bB (hg:=(cg av)) zr nR (RO.nx (RL.aM (hg:=(cg av)) 3 o zr fQ cN ?_))))))))
   refine RO.nx (RL.jO cc.Y1 al.Y0 (cg av) (RO.nx (fP av (vb (cc.Y1==al.Y0)) (RO.last ?_))))
   obtain rfl:=oi hj
   exact⟨rfl,o.sp 10 [6,7,8,9]⟩
  rintro _ w ⟨O,rfl,o⟩
  refine aG ?_
  obtain⟨cd,hj,hb⟩:=bd hb
  refine RC.jn (fun(cd: (List Int)) U w=>∃bt:Value,SH E V [(0,v0),(3,ag),(4,vp af 0),(6,(.func (.func 116) #[] #[(vp af 0)])),(7,vi ab.2.1),(11,(vi (IntKind.wrap .i64 (Int.tdiv (al.Xs.length:Int) 2)))),(42,v0),(43,vi p0.length),(44,vi ax)] [rd v0 p0,own 74 ag ao,bc 87 af [bt],own 3 bt cd] U w) cd ?_ ?_
  ·refine eI hj (fun hc hj=>?_) fun hc hj=>?_
   rotate_left
   ·refine RC.skip ?_
    obtain rfl:=oi hj
    exact⟨rfl,br,o.sp 4 [0,1,2,3]⟩
   refine RC.sr (mv (vi ab.2.2) (mv (vi ab.2.1) (aK (vi ab.2.2) (aK (vi ab.2.1) (RL.nt ?_)))))
   obtain⟨d0,hN,hj⟩:=bd hj
   refine RC.iter (fun(ad: (List Int)×Int×Int) U w=>∃ct:Value,SH E V [(0,v0),(3,ag),(4,vp af 0),(6,(.func (.func 116) #[] #[(vp af 0)])),(7,vi ab.2.1),(11,(vi (IntKind.wrap .i64 (Int.tdiv (al.Xs.length:Int) 2)))),(12,vi ad.2.1),(13,vi ad.2.2),(42,v0),(43,vi p0.length),(44,vi ax)] [rd v0 p0,own 74 ag ao,bc 87 af [ct],own 3 ct ad.1] U w) (fun(ad: (List Int)×Int×Int) U w=>∃bu:Value,SH E V [(0,v0),(3,ag),(4,vp af 0),(6,(.func (.func 116) #[] #[(vp af 0)])),(7,vi ab.2.1),(11,(vi (IntKind.wrap .i64 (Int.tdiv (al.Xs.length:Int) 2)))),(42,v0),(43,vi p0.length),(44,vi ax)] [rd v0 p0,own 74 ag ao,bc 87 af [bu],own 3 bu ad.1] U w) (fun(r:Empty) _ _=>r.elim) hN ?_ ?_ ?_ ?_
   ·exact⟨br,o.sp 4 [0,1,2,3]⟩
   ·rintro ad fl _ w ⟨bw,O,rfl,o⟩ hb
    refine RC.seq (RC.sr (mv (vi ad.2.1) (mv (vi ab.2.1) (ic ad.2.1 ab.2.1 (mv (vb (decide (ad.2.1<ab.2.1))) (RL.gs true (decide (ad.2.1<ab.2.1)) (vi ad.2.2) zr zr zr dT (RL.gs true (decide (ad.2.1<ab.2.1)) (vi ab.2.1) zr zr zr dT (RL.gs true (decide (ad.2.1<ab.2.1)) (vi (IntKind.wrap .i64 (Int.tdiv (al.Xs.length:Int) 2))) zr zr zr dT ?_))))))))
    refine RL.gs true (decide (ad.2.1<ab.2.1)) (vi (IntKind.wrap .i64 (ab.2.1+ (IntKind.wrap .i64 (Int.tdiv (al.Xs.length:Int) 2))))) rfl rfl rfl (IY (bop:= .add) (K:= .i64) (a:=ab.2.1) (b:=(IntKind.wrap .i64 (Int.tdiv (al.Xs.length:Int) 2))) rfl (fun h=>by exact(cV h:cv (true&&((decide (ad.2.1<ab.2.1))==true)) (vi ab.2.1)= (vi ab.2.1))) (fun h=>by exact(cV h:cv (true&&((decide (ad.2.1<ab.2.1))==true)) (vi (IntKind.wrap .i64 (Int.tdiv (al.Xs.length:Int) 2)))= (vi (IntKind.wrap .i64 (Int.tdiv (al.Xs.length:Int) 2))))) rfl) (RL.gs true (decide (ad.2.1<ab.2.1)) (vb (decide (ad.2.2< (IntKind.wrap .i64 (ab.2.1+ (IntKind.wrap .i64 (Int.tdiv (al.Xs.length:Int) 2))))))) rfl rfl rfl (dZ .lss .i64 ad.2.2 (IntKind.wrap .i64 (ab.2.1+ (IntKind.wrap .i64 (Int.tdiv (al.Xs.length:Int) 2)))) rfl (fun h=>by exact(cV h:cv (true&&((decide (ad.2.1<ab.2.1))==true)) (vi ad.2.2)= (vi ad.2.2))) (fun h=>by exact(cV h:cv (true&&((decide (ad.2.1<ab.2.1))==true)) (vi (IntKind.wrap .i64 (ab.2.1+ (IntKind.wrap .i64 (Int.tdiv (al.Xs.length:Int) 2)))))= (vi (IntKind.wrap .i64 (ab.2.1+ (IntKind.wrap .i64 (Int.tdiv (al.Xs.length:Int) 2))))))) rfl) (RL.pick (decide (ad.2.1<ab.2.1)) (vb ((decide (ad.2.1<ab.2.1))&&(decide (ad.2.2< (IntKind.wrap .i64 (ab.2.1+ (IntKind.wrap .i64 (Int.tdiv (al.Xs.length:Int) 2)))))))) (iL true) (RL.nt (eI hb (fun hc hb=>?_) fun hc hb=>?_))))
    rotate_left
    ·refine RC.ex ?_
     obtain rfl:=oi hb
     exact⟨rfl,bw,o.sp 4 [0,1,2,3]⟩
    refine RC.sn (RC.block (RC.seq (RC.seq ?_)))
    obtain⟨cf,hj,hb⟩:=bd hb
    refine RC.jn (fun(cf:Bool)=>SH E V [(0,v0),(3,ag),(4,vp af 0),(6,(.func (.func 116) #[] #[(vp af 0)])),(7,vi ab.2.1),(11,(vi (IntKind.wrap .i64 (Int.tdiv (al.Xs.length:Int) 2)))),(12,vi ad.2.1),(13,vi ad.2.2),(42,v0),(43,vi p0.length),(44,vi ax),(101,vb cf)] [rd v0 p0,own 74 ag ao,bc 87 af [bw],own 3 bw ad.1]) cf ?_ ?_
    ·refine RC.uK mixed ?_
     have o:=o.drew
     refine RO.go (mv ag (RO.nx (mv (vi ad.2.1) (RO.nx ?_))))
     obtain⟨cu,bz,hj⟩:=bd hj
     refine RL.bG 1 o zr zr kN bz (RO.nx (RL.nr (α:=aI) (iX 1 o bz 0) jv (RO.nx (RL.cX 1 o (iX 1 o bz 0) (aU bz).2.1 eO cN (RO.nx (mv ag (RO.nx (mv (vi ad.2.2) ?_))))))))
     refine RO.nx ?_
     obtain⟨cw,b0,hj⟩:=bd hj
     refine RL.bG 1 o zr zr kN b0 (RO.nx (RL.nr (α:=aI) (iX 1 o b0 0) kO (RO.nx (RL.cX 1 o (iX 1 o b0 2) (aU b0).2.1 gA cN (RO.nx (ic cu.X0 cw.X1 (RO.nx (mv (vb (decide (cu.X0<cw.X1))) ?_))))))))
     refine fU hj (fun an hj=>?_) fun an hj=>?_
     rotate_left
     ·refine RO.nx (bN an (RO.nx (bN an (RO.nx (bN an (RO.nx (bN an (RO.nx ?_))))))))
      refine bN an (RO.nx (bN an (RO.nx (bN an (RO.nx (bN an (RO.nx (bN an ?_))))))))
      refine RO.nx (bN an (RO.nx (bN an (RO.nx (fP an (vb false) (RO.last ?_))))))
      obtain rfl:=oi hj
      exact⟨rfl,o.sp 4 [0,1,2,3]⟩
     refine RO.nx (RL.move ag (cg an) (RO.nx (RL.move (vi ad.2.2) (cg an) (RO.nx ?_))))
     obtain⟨cx,b1,hj⟩:=bd hj
     refine RL.bG (hg:=(cg an)) 1 o zr zr kN b1 (RO.nx (RL.nr (hg:=(cg an)) (α:=aI) (iX 1 o b1 0) jv (RO.nx (RL.cX (hg:=(cg an)) 1 o (iX 1 o b1 0) (aU b1).2.1 eO cN (RO.nx (RL.move ag (cg an) (RO.nx (RL.move (vi ad.2.1) (cg an) ?_))))))))
     refine RO.nx ?_
     obtain⟨cy,b2,hj⟩:=bd hj
     refine RL.bG (hg:=(cg an)) 1 o zr zr kN b2 (RO.nx (RL.nr (hg:=(cg an)) (α:=aI) (iX 1 o b2 0) kO (RO.nx (RL.cX (hg:=(cg an)) 1 o (iX 1 o b2 2) (aU b2).2.1 gA cN (RO.nx (RL.jO cx.X0 cy.X1 (cg an) (RO.nx (fP an (vb (decide (cx.X0<cy.X1))) ?_))))))))
     refine RO.last ?_
     obtain rfl:=oi hj
     exact⟨rfl,o.sp 4 [0,1,2,3]⟩
    rintro _ w ⟨O,rfl,o⟩
    refine aG ?_
    obtain⟨b3,hj,hb⟩:=bd hb
    refine RC.jn (fun(b3: (List Int)) U w=>∃bk:Value,SH E V [(0,v0),(3,ag),(4,vp af 0),(6,(.func (.func 116) #[] #[(vp af 0)])),(7,vi ab.2.1),(11,(vi (IntKind.wrap .i64 (Int.tdiv (al.Xs.length:Int) 2)))),(12,vi ad.2.1),(13,vi ad.2.2),(42,v0),(43,vi p0.length),(44,vi ax)] [rd v0 p0,own 74 ag ao,bc 87 af [bk],own 3 bk b3] U w) b3 ?_ ?_
    ·refine eI hj (fun hc hj=>?_) fun hc hj=>?_
     rotate_left
     ·refine RC.skip ?_
      obtain rfl:=oi hj
      exact⟨rfl,bw,o.sp 4 [0,1,2,3]⟩
     refine RC.sr (mv (.func (.func 116) #[] #[(vp af 0)]) (mv (vi ad.2.1) ?_))
     have o:=(o.pull 3).pull 3
     obtain⟨bb,db,hj⟩:=bd hj
     refine RL.oW [(vp af 0)] F9 [(vi ad.2.1)] (aF (kn N (p0:=ad.2.1) o db) ?_)
     rintro _ w ⟨d4,rfl,o⟩
     refine mv (.func (.func 116) #[] #[(vp af 0)]) (mv (vi ad.2.2) ?_)
     have o:=(o.pull 1).pull 1
     obtain⟨bf,dc,hj⟩:=bd hj
     refine RL.oW [(vp af 0)] F9 [(vi ad.2.2)] (aF (kn N (p0:=ad.2.2) o dc) ?_)
     rintro _ w ⟨cz,rfl,o⟩
     refine aK (vi bb.1) (aK (vi bf.1) (RL.nt (RC.region (RL.aX 0 cz o fE (mv (vi bb.1) (mv (vi bf.1) (RL.max bb.1 bf.1 (mv (vi bb.1) ?_))))))))
     refine mv (vi bf.1) (RL.min bb.1 bf.1 ?_)
     obtain⟨d5,ch,hj⟩:=bd hj
     refine RL.bG 1 o zr zr dV ch ?_
     have o:=o.sc Int (if bf.1<bb.1 then bf.1 else bb.1)
     refine RL.fA (f:=(fun _ y=>y)) 2 0 o (iX 2 o ch 0) (aU ch).2.1 zr Fs.self cN fun w o=>?_
     refine RL.nil ?_
     obtain rfl:=oi hj
     exact⟨rfl,cz,o.sp 9 [5,6,1,2]⟩
    rintro _ w ⟨bk,O,rfl,o⟩
    refine aG (RC.seq (RC.uK mixed ?_))
    have o:=o.drew
    refine RO.go (mv ag (RO.nx (mv (vi ad.2.1) (RO.nx ?_))))
    obtain⟨dd,b4,hb⟩:=bd hb
    refine RL.bG 1 o zr zr kN b4 (RO.nx (RL.nr (α:=aI) (iX 1 o b4 0) kO (RO.nx (RL.cX 1 o (iX 1 o b4 2) (aU b4).2.1 gA cN (RO.nx (mv ag (RO.nx (mv (vi ad.2.2) ?_))))))))
    refine RO.nx ?_
    obtain⟨de,b5,hb⟩:=bd hb
    refine RL.bG 1 o zr zr kN b5 (RO.nx (RL.nr (α:=aI) (iX 1 o b5 0) kO (RO.nx (RL.cX 1 o (iX 1 o b5 2) (aU b5).2.1 gA cN (RO.nx (ic dd.X1 de.X1 (RO.last (aG ?_))))))))
    obtain⟨b6,hj,hb⟩:=bd hb
    refine RC.jn (fun(b6:Int×Int)=>SH E V [(0,v0),(3,ag),(4,vp af 0),(6,(.func (.func 116) #[] #[(vp af 0)])),(7,vi ab.2.1),(11,(vi (IntKind.wrap .i64 (Int.tdiv (al.Xs.length:Int) 2)))),(12,vi b6.1),(13,vi b6.2),(42,v0),(43,vi p0.length),(44,vi ax)] [rd v0 p0,own 74 ag ao,bc 87 af [bk],own 3 bk b3]) b6 ?_ ?_
    ·refine eI hj (fun hc hj=>?_) fun hc hj=>?_
     ·refine RC.region (mv (vi ad.2.1) (RL.i6 ad.2.1 1 (aK (vi (IntKind.wrap .i64 (ad.2.1+1))) (RL.nil ?_))))
      obtain rfl:=oi hj
      exact⟨rfl,o.sp 4 [0,1,2,3]⟩
     refine RC.region (mv (vi ad.2.2) (RL.i6 ad.2.2 1 (aK (vi (IntKind.wrap .i64 (ad.2.2+1))) (RL.nil ?_))))
     obtain rfl:=oi hj
     exact⟨rfl,o.sp 4 [0,1,2,3]⟩
    rintro _ w ⟨O,rfl,o⟩
    refine bI ?_
    obtain rfl:=oi hb
    exact⟨rfl,bk,o.sp 4 [0,1,2,3]⟩
   ·intro r _ _ _ _
    exact r.elim
   rintro ad _ w rfl ⟨bu,O,rfl,o⟩
   rw [Fo.fB] at hj
   obtain rfl:=oi hj
   exact⟨rfl,bu,o.sp 4 [0,1,2,3]⟩
  rintro _ w ⟨bt,O,rfl,o⟩
  refine aG (RC.region (mv (vi ab.2.1) (mv (vi ab.2.1) (mv (vi (IntKind.wrap .i64 (Int.tdiv (al.Xs.length:Int) 2))) (RL.i6 ab.2.1 (IntKind.wrap .i64 (Int.tdiv (al.Xs.length:Int) 2)) (aK (vi ab.2.1) (aK (vi (IntKind.wrap .i64 (ab.2.1+ (IntKind.wrap .i64 (Int.tdiv (al.Xs.length:Int) 2))))) (RL.nil ?_))))))))
  refine bI (aG (RC.region (RL.inc hk hm (mv (vi ((ax+1:Nat):Int)) (RL.nil ?_)))))
  obtain rfl:=oi hb
  exact⟨rfl,bt,o.sp 4 [0,1,2,3]⟩
 rintro _ w ⟨bq,O,rfl,o⟩
 refine aG (RC.sr (RL.makeMap (κ:=Int) (ν:=Int) zr o fun a5 w o=>(aK a5 (RL.ns (aK (.slice none 0 0) (RL.nq (RC.sr (mv ag ?_))))))))
 refine RL.eH 2 ao o oO (mv (vi 0) (RL.nt ?_))
 obtain⟨aj,hN,hb⟩:=bd hb
 refine RC.fold (fun(a4:Nat) (aj: (List Int)×(List (Int×Int))×(List (List aI))) U w=>∃(c0 c1:Value) (us939:List RV),SH E V [(6,(.func (.func 116) #[] #[(vp af 0)])),(16,a5),(17,c1),(137,ag),(138,vi ao.length),(139,vi a4)] [bc 87 af [c0],own 3 c0 aj.1,mp a5 aj.2.1,own 74 ag ao,own 23 c1 us939,iY (XS 74 aI) us939 aj.2.2 none] U w) (fun(aj: (List Int)×(List (Int×Int))×(List (List aI))) U w=>∃(cj bg:Value) (us942:List RV),SH E V [(17,bg)] [bc 87 af [cj],own 3 cj aj.1,mp a5 aj.2.1,own 74 ag ao,own 23 bg us942,iY (XS 74 aI) us942 aj.2.2 none] U w) hN ?_ ?_ ?_ ?_
 ·have o:=(o.Ag (XS 74 aI)).cT RV 23
  exact⟨bq,(.slice none 0 0),([]:List RV),o.sp 7 [5,6,2,4,0,1]⟩
 ·rintro hm aj _ w ⟨df,dg,us987,O,rfl,o⟩
  refine RC.sr (ic ((ao.length:Int)) ((ao.length:Int)) (RL.nq (RC.cH lD (RC.ex ?_))))
  exact⟨rfl,df,dg,us987,o.sp 6 [0,1,2,3,4,5]⟩
 ·rintro hm a4 aj s' _ w hk ⟨d6,ck,us945,O,rfl,o⟩ hb
  refine RC.sr (ic ((a4:Int)) ((ao.length:Int)) (RL.nq (RC.cG (lC hk) (RC.ss (RC.bs (mv (vi a4) ?_))))))
  obtain⟨ba,cl,hb⟩:=bd hb
  refine RL.bG 3 o zr zr kN cl (RL.iD (f:=(fun x=>x)) 3 o (iX 3 o cl 0) (aU cl).2.1 Fd.self fI fun d7 o=>?_)
  refine RL.alloc o mS.z fun b7 w o=>?_
  refine aK (vi a4) (RL.bA 0 o 1 zr fI fun w o=>?_)
  refine RL.ns (mv (.func (.func 116) #[] #[(vp af 0)]) (mv (vi a4) ?_))
  have o:=(o.pull 3).pull 3
  obtain⟨a1,dh,hb⟩:=bd hb
  refine RL.oW [(vp af 0)] F9 [(vi a4)] (aF (kn N (p0:=(a4:Int)) o dh) ?_)
  rintro _ w ⟨bn,rfl,o⟩
  refine aK (vi a1.1) (RL.ns (mv a5 (mv (vi a1.1) (RL.Bt 6 a1.1 zr o zr zr zr wJ (mv (.tuple #[(vi (dM aj.2.1 a1.1 (0:Int))),(vb (iW aj.2.1 a1.1))]) (RL.extract (vi (dM aj.2.1 a1.1 (0:Int))) (RL.extract (vb (iW aj.2.1 a1.1)) (aK (vi (dM aj.2.1 a1.1 (0:Int))) ?_))))))))
  refine aK (vb (iW aj.2.1 a1.1)) (RL.nq (RC.sr (mv (vb (iW aj.2.1 a1.1)) (RL.not (iW aj.2.1 a1.1) (RL.nt ?_)))))
  obtain⟨ae,hj,hb⟩:=bd hb
  refine RC.jn (fun(ae: (List (Int×Int))×(List (List aI))×Int) U w=>∃(a0:Value) (us956:List RV),SH E V [(6,(.func (.func 116) #[] #[(vp af 0)])),(16,a5),(17,a0),(19,vp b7 0),(21,vi ae.2.2),(137,ag),(138,vi ao.length),(139,vi a4)] [bc 87 af [bn],own 3 bn a1.2,mp a5 ae.1,bx 74 b7 ba,own 74 ag ao,own 23 a0 us956,iY (XS 74 aI) us956 ae.2.1 none] U w) ae ?_ ?_
  ·refine eI hj (fun hc hj=>?_) fun hc hj=>?_
   rotate_left
   ·refine RC.skip ?_
    obtain rfl:=oi hj
    exact⟨rfl,ck,us945,o.sp 10 [0,1,6,2,7,8,9]⟩
   refine RC.sr (mv ck (RL.rk 8 9 aj.2.2 o BW (aK (vi aj.2.2.length) (RL.ns (mv a5 (mv (vi a1.1) (mv (vi aj.2.2.length) ?_)))))))
   have o:=o.sc Int (aj.2.2.length:Int)
   refine RL.mapUpdate 7 0 a1.1 o zr zr zr zr zr wJ fun w o=>(RL.nt (RC.region (mv ck ?_)))
   have o:=(o.cT aI 74).DI (i:=0) rfl
   refine RL.eE ([rv (.slice none 0 0)]:List RV) o [(.slice none 0 0)] C2 Kx (fun M hs g=>⟨(g.sat 0 _ zr).1,zt⟩) fun d8 w o=>?_
   obtain⟨d9,di,hj⟩:=bd hj
   have o:=o.freeze 0
   refine RL.BC 12 0 13 2 zr o zr zr zr zr zr zr L6 di fun c2 w o=>?_
   refine aK c2 (RL.nil ?_)
   obtain rfl:=oi hj
   exact⟨rfl,c2,(us945++[rv (.slice none 0 0)]),o.sp 14 [4,5,10,6,11,12,13]⟩
  rintro _ w ⟨a0,us956,O,rfl,o⟩
  refine aG ?_
  obtain⟨ea,b8,hb⟩:=bd hb
  obtain⟨bh,dj,hb⟩:=bd hb
  obtain⟨eb,cm,hb⟩:=bd hb
  refine RC.Ew E V mixed [1,1,1,1,0,0,0,0,0,0,0] [6,7,8,10] (fun(x:Value×Value×Value)=>(fun ay aw ak=>[(0,163,a0),(1,164,(vi ae.2.2)),(2,165,a0),(3,166,(vi ae.2.2)),(4,167,(Bb a0 (Int.toNat ae.2.2) 1 0)),(5,168,(us956.getD (Int.toNat ae.2.2) Bc).v),(6,169,ay),(7,170,aw),(8,171,ak),(9,172,(Bb a0 (Int.toNat ae.2.2) 1 0))]) x.1 x.2.1 x.2.2) [(6,(.func (.func 116) #[] #[(vp af 0)])),(16,a5),(17,a0),(19,vp b7 0),(21,vi ae.2.2),(137,ag),(138,vi ao.length),(139,vi a4)] [] (fun(D:Nat->Bool) (x:Value×Value×Value)=>(fun ay aw ak=>[bif D 0 then (rd ay ba) else aZ,bif D 2 then (rd aw ([ba]: (List aI))) else (bif D 1 then (own 74 aw ([ba]: (List aI))) else aZ),bif D 3 then aZ else (bif D 2 then (own 74 ak bh) else aZ),bc 87 af [bn],own 3 bn a1.2,mp a5 ae.1,bx 74 b7 ba,own 74 ag ao,bif D 3 then (own 23 a0 (us956.set (Int.toNat ae.2.2) (rv ak))) else (own 23 a0 us956),bif D 3 then (iY (XS 74 aI) (us956.set (Int.toNat ae.2.2) (rv ak)) (ae.2.1.set (Int.toNat ae.2.2) bh) none) else (bif D 2 then (iY (XS 74 aI) us956 ae.2.1 (some (Int.toNat ae.2.2))) else (iY (XS 74 aI) us956 ae.2.1 none))]) x.1 x.2.1 x.2.2) (fun x=>by kernel_rfl) ?_ ⟨fun _=>jt gn,fun _=>jt gn,fun _=>jt gn,fun _=>jt gn,?_,?_,?_,?_,?_,?_,?_,trivial⟩ ?_
  ·have o:=(((o.drew).aZ).aZ).aZ
   exact⟨(undef,undef,undef),dX.none,(CX zr),zt,o⟩
  ·rintro D U w hD ar ai ⟨⟨ay,aw,ak⟩,hv,ha,_,o⟩
   obtain⟨O,rfl⟩:=(ac (hv.at 2 rfl (ar.1 rfl)) (ac (hv.at 3 rfl (ar.2.1 rfl)) az)).eV
   have o:=((o.cA 8 (nh ai hD 10)).cA 9 (nh ai hD 10)).cA 9 (nf (fun h=>ft hD ((ai 5 _ rfl ((ai 8 _ rfl h).1 rfl)).1 rfl)))
   have hl974:=o.gQ 9
   have hr975:=jU Bc hl974 b8
   refine RL.bG 8 o zr zr C2 hr975 ?_
   have o:=(o.eY 8 (D 10) (nh ai hD 10) (own 23 a0 (us956.set (Int.toNat ae.2.2) (rv ak)))).eY 9 (D 8) (nf (fun h=>ft hD ((ai 5 _ rfl ((ai 8 _ rfl h).1 rfl)).1 rfl))) (iY (XS 74 aI) us956 ae.2.1 (some (Int.toNat ae.2.2)))
   have o:=o.eY 9 (D 10) (nh ai hD 10) (iY (XS 74 aI) (us956.set (Int.toNat ae.2.2) (rv ak)) (ae.2.1.set (Int.toNat ae.2.2) bh) none)
   exact RL.nil ⟨rfl,(ay,aw,ak),hv.pu 4,ha.u,zt,o⟩
  ·rintro D U w hD ar ai ⟨⟨ay,aw,ak⟩,hv,ha,_,o⟩
   obtain⟨O,rfl⟩:=(ac (hv.at 4 rfl (ar.1 rfl)) az).eV
   have o:=((o.cA 8 (nh ai hD 10)).cA 9 (nh ai hD 10)).cA 9 (nh ai hD 8)
   have hl976:=o.gQ 9
   have hr977:=jU Bc hl976 b8
   refine RL.vS 8 9 ae.2.2 (zq 74 aI) Bc zr o zr (iX 8 o hr977 0) zr zr b8 xU ?_
   have o:=(o.eY 8 (D 10) (nh ai hD 10) (own 23 a0 (us956.set (Int.toNat ae.2.2) (rv ak)))).eY 9 (D 8) (nh ai hD 8) (iY (XS 74 aI) us956 ae.2.1 (some (Int.toNat ae.2.2)))
   have o:=o.eY 9 (D 10) (nh ai hD 10) (iY (XS 74 aI) (us956.set (Int.toNat ae.2.2) (rv ak)) (ae.2.1.set (Int.toNat ae.2.2) bh) none)
   exact RL.nil ⟨rfl,(ay,aw,ak),hv.pu 5,ha.u,zt,o⟩
  ·rintro D U w hD ar ai ⟨⟨ay,aw,ak⟩,hv,ha,_,o⟩
   obtain⟨O,rfl⟩:=(ac (ha.at 3 rfl) az).eV
   have o:=o.cA 0 hD
   refine RL.aQ (f:=(fun x=>x)) 6 o zr Fd.self fI fun dk o=>?_
   have o:=(o.pl 11 [0,2,3,4,5,6,7,8,9,10]).cL 0 true aZ
   exact RL.nil ⟨rfl,(dk,aw,ak),hv.pu 6,ha.u,zt,o⟩
  ·rintro D U w hD ar ai ⟨⟨ay,aw,ak⟩,hv,ha,_,o⟩
   obtain⟨O,rfl⟩:=(ac (hv.at 6 rfl (ar.1 rfl)) az).eV
   have o:=((o.cK 0 (ar.1 rfl)).cA 1 (nh ai hD 8)).cA 1 hD
   refine RL.eE ([ba]: (List aI)) o [ay] kN mS (fun M hs g=>⟨(g.sat 0 _ zr).1,zt⟩) fun c3 w o=>?_
   have o:=(((o.pl 11 [1,0,3,4,5,6,7,8,9,10]).cL (hb:=ar.1 rfl) 0 (D 6) aZ).cL 1 true aZ).eY 1 (D 8) (nh ai hD 8) (rd c3 ([ba]: (List aI)))
   exact RL.nil ⟨rfl,(ay,c3,ak),hv.pu 7,ha.u,zt,o⟩
  ·rintro D U w hD ar ai ⟨⟨ay,aw,ak⟩,hv,ha,_,o⟩
   obtain⟨O,rfl⟩:=(ac (hv.at 5 rfl (ar.1 rfl)) (ac (hv.at 7 rfl (ar.2.1 rfl)) az)).eV
   have o:=(((((((o.cA 1 hD).cK 1 (ar.2.1 rfl)).cA 2 (nh ai hD 10)).cA 2 hD).cA 8 (nh ai hD 10)).cA 9 (nh ai hD 10)).cA 9 hD).Ah (j:=9) (jj:=ae.2.2) (zq 74 aI) Bc rfl b8
   have o:=o.freeze 2
   refine RL.app 0 2 o EI dj fun cn w o=>?_
   have o:=((((o.pl 11 [1,2,0,4,5,6,7,8,9,10]).cL 1 true (bif D 7 then (own 74 aw ([ba]: (List aI))) else aZ)).cL 2 true aZ).eY 2 (D 10) (nh ai hD 10) aZ).eY 8 (D 10) (nh ai hD 10) (own 23 a0 (us956.set (Int.toNat ae.2.2) (rv cn)))
   have o:=(o.cL 9 true (iY (XS 74 aI) us956 ae.2.1 none)).eY 9 (D 10) (nh ai hD 10) (iY (XS 74 aI) (us956.set (Int.toNat ae.2.2) (rv cn)) (ae.2.1.set (Int.toNat ae.2.2) bh) none)
   exact RL.nil ⟨rfl,(ay,aw,cn),hv.pu 8,ha.u,zt,o⟩
  ·rintro D U w hD ar ai ⟨⟨ay,aw,ak⟩,hv,ha,_,o⟩
   obtain⟨O,rfl⟩:=(ac (hv.at 0 rfl (ar.1 rfl)) (ac (hv.at 1 rfl (ar.2.1 rfl)) az)).eV
   have o:=((o.cA 8 (nh ai hD 10)).cA 9 (nh ai hD 10)).cK 9 (ar.2.2.2.2.2.2.2.2.2.2.1 rfl)
   have hl981:=o.gQ 9
   have hr982:=jU Bc hl981 cm
   refine RL.bG 8 o zr zr C2 hr982 ?_
   have o:=((o.eY 8 (D 10) (nh ai hD 10) (own 23 a0 (us956.set (Int.toNat ae.2.2) (rv ak)))).cL (hb:=ar.2.2.2.2.2.2.2.2.2.2.1 rfl) 9 (D 8) (iY (XS 74 aI) us956 ae.2.1 none)).eY 9 (D 10) (nh ai hD 10) (iY (XS 74 aI) (us956.set (Int.toNat ae.2.2) (rv ak)) (ae.2.1.set (Int.toNat ae.2.2) bh) none)
   exact RL.nil ⟨rfl,(ay,aw,ak),hv.pu 9,ha.u,zt,o⟩
  ·rintro D U w hD ar ai ⟨⟨ay,aw,ak⟩,hv,ha,_,o⟩
   obtain⟨O,rfl⟩:=(ac (hv.at 8 rfl (ar.2.1 rfl)) (ac (hv.at 9 rfl (ar.1 rfl)) az)).eV
   have o:=((((o.cA 2 hD).cK 2 (ar.2.1 rfl)).cA 8 hD).cA 9 hD).cK 9 (ar.2.1 rfl)
   have hl983:=o.gQ 9
   have hr984:=jU Bc hl983 cm
   refine RL.tJ 8 9 2 ae.2.2 (zq 74 aI) Bc o zr zr (iX 8 o hr984 0) zr zr zr cm xU fun w o=>?_
   have o:=((o.cL 2 true (bif D 8 then (own 74 ak bh) else aZ)).cL 8 true (own 23 a0 us956)).cL 9 true (bif D 8 then (iY (XS 74 aI) us956 ae.2.1 (some (Int.toNat ae.2.2))) else (iY (XS 74 aI) us956 ae.2.1 none))
   exact RL.nil ⟨rfl,(ay,aw,ak),hv.n1,ha,zt,o⟩
  rintro D U w bo ⟨⟨ay,aw,ak⟩,hv,ha,_,o⟩
  have o:=((((o.cK 0 (jC bo 6)).cK 1 (jC bo 8)).cK 2 (jC bo 10)).cK 8 (jC bo 10)).cK 9 (jC bo 10)
  obtain⟨O,rfl⟩:=(ac (ha.at 0 rfl) (ac (ha.at 1 rfl) (ac (ha.at 2 rfl) (ac (ha.at 3 rfl) (ac (ha.at 4 rfl) (ac (ha.at 5 rfl) (ac (ha.at 6 rfl) (ac (ha.at 7 rfl) az)))))))).eV
  refine bI (aG (RC.region (RL.inc hk hm (mv (vi ((a4+1:Nat):Int)) (RL.nil ?_)))))
  obtain rfl:=oi hb
  exact⟨rfl,bn,a0,(us956.set (Int.toNat ae.2.2) (rv ak)),o.sp 10 [3,4,5,7,8,9]⟩
 rintro _ w ⟨cj,bg,us942,O,rfl,o⟩
 refine aG (RC.sr (aK (.slice none 0 0) (RL.nq (RC.sr (mv bg (RL.rk 4 5 aj.2.2 o BW (mv (vi 0) (RL.nt ?_))))))))
 have o:=o.Ai (X:=(XS 74 aI)) (b:=5) (j:=4) rfl (fun M h u x cs=>(Im 74) M h u x cs) rfl rfl (by decide)
 obtain⟨bl,hN,hb⟩:=bd hb
 refine RC.fold (fun(b9:Nat) (bl: (List (List aA))) U w=>∃c4:Value,SH E V [(23,c4),(174,bg),(175,vi aj.2.2.length),(176,vi b9)] [own 23 bg aj.2.2,own 132 c4 bl] U w) (fun(bl: (List (List aA))) U w=>∃bp:Value,SH E V [(23,bp)] [own 23 bg aj.2.2,own 132 bp bl] U w) hN ?_ ?_ ?_ ?_
 ·have o:=o.cT (List aA) 132
  exact⟨(.slice none 0 0),o.sp 7 [5,0]⟩
 ·rintro hm bl _ w ⟨dm,O,rfl,o⟩
  refine RC.sr (ic ((aj.2.2.length:Int)) ((aj.2.2.length:Int)) (RL.nq (RC.cH lD (RC.ex ?_))))
  exact⟨rfl,dm,o.sp 2 [0,1]⟩
 ·rintro hm b9 bl s' _ w hk ⟨dn,O,rfl,o⟩ hb
  refine RC.sr (ic ((b9:Int)) ((aj.2.2.length:Int)) (RL.nq (RC.cG (lC hk) (RC.ss (RC.bs ?_)))))
  obtain⟨ec,cp,hb⟩:=bd hb
  refine RL.bG 0 o zr zr C2 cp (RL.iD (f:=(fun x=>x)) 0 o (iX 0 o cp 0) (aU cp).2.1 Fd.self xU fun cq o=>?_)
  refine aK cq (RL.nt (RC.region (mv dn (mv cq ?_))))
  obtain⟨dp,dq,hb⟩:=bd hb
  refine RL.call zt zr F2 [cq] zr (aF (kR N (i0:=0) o zr dq) ?_)
  rintro dr w o
  have o:=o.freeze 0
  refine RL.eE ([dp]: (List (List aA))) o [dr] BZ F8 (fun M hs g=>⟨(g.sat 0 _ zr).1,zt⟩) fun ed w o=>?_
  have o:=o.freeze 0
  obtain⟨ee,ds,hb⟩:=bd hb
  refine RL.app 4 0 o Iz ds fun c5 w o=>?_
  refine aK c5 (RL.nil (bI (aG (RC.region (RL.inc hk hm (mv (vi ((b9+1:Nat):Int)) (RL.nil ?_)))))))
  obtain rfl:=oi hb
  exact⟨rfl,c5,o.sp 5 [3,4]⟩
 rintro _ w ⟨bp,O,rfl,o⟩
 refine aG (RC.sr (mv bp (aK bp (RL.nt (RC.ret ?_)))))
 obtain rfl:=oi hb
 exact cF (o.pk 2 [1])
def rN (E:World) (V:List HP) (b0:Nat) (v0_0 v0_1:Value) (v0_2 v0_3:Value) (v0_6 v0_7:Value) (v0_8 v0_9:Value) (v0_10 v0_11:Value) (res:Bool×(List (List aA))×(List aH)) (v:Value) (w:World):Prop:=∃u0_4 u0_5:Value,v= (vb res.1)/\Holds E w ([bc 126 b0 [v0_0,v0_1,v0_2,v0_3,u0_4,u0_5,v0_6,v0_7,v0_8,v0_9,v0_10,v0_11],own 132 u0_4 res.2.1,own 134 u0_5 res.2.2]++V)
theorem qV {p0_0: (List (List aI))} {p0_2: (List bZ)} {p0_4: (List (List aA))} {p0_5: (List aH)} {res:Bool×(List (List aA))×(List aH)} (j:Holds E w (bc 126 b0 [v0_0,v0_1,v0_2,v0_3,v0_4,v0_5,v0_6,v0_7,v0_8,v0_9,v0_10,v0_11]::rd v0_0 p0_0::rd v0_2 p0_2::own 132 v0_4 p0_4::own 134 v0_5 p0_5::V)) (o:iN N p0_0 p0_2 p0_4 p0_5=some res):
    Calls bE 51 [(vp b0 0)].toArray w (gF (rN E V b0 v0_0 v0_1 v0_2 v0_3 v0_6 v0_7 v0_8 v0_9 v0_10 v0_11 res)):=by
 unfold iN at o
 refine enter Tryz.func51 zr zr (RC.sr (aK (vb false) (RL.ns (aK (vb true) (RL.nq (RC.sr (mv (vp b0 0) (RL.nilCheck zr ?_))))))))
 refine RL.bB zr kx (RL.bB zr vX (RL.aX 0 v0_0 j EH (RL.bC 1 p0_0 j BW (mv (vi 0) (RL.nt ?_)))))
 obtain⟨aa,hN,o⟩:=bd o
 refine RC.fold (fun(ab:Nat) (aa: (List (List aA))×(List aH)×Bool) U w=>∃bf bg:Value,SH E V [(0,vp b0 0),(3,vb aa.2.2),(16,v0_0),(17,vi p0_0.length),(18,vi ab)] [bc 126 b0 [v0_0,v0_1,v0_2,v0_3,bf,bg,v0_6,v0_7,v0_8,v0_9,v0_10,v0_11],own 132 bf aa.1,own 134 bg aa.2.1,rd v0_0 p0_0,rd v0_2 p0_2] U w) (fun(aa: (List (List aA))×(List aH)×Bool) U w=>∃au al:Value,SH E V [(0,vp b0 0),(3,vb aa.2.2)] [bc 126 b0 [v0_0,v0_1,v0_2,v0_3,au,al,v0_6,v0_7,v0_8,v0_9,v0_10,v0_11],own 132 au aa.1,own 134 al aa.2.1,rd v0_0 p0_0,rd v0_2 p0_2] U w) hN ?_ ?_ ?_ ?_
 ·exact⟨v0_4,v0_5,j.sp 5 [0,3,4,1,2]⟩
 ·rintro hm aa _ w ⟨bq,br,O,rfl,j⟩
  refine RC.sr (ic ((p0_0.length:Int)) ((p0_0.length:Int)) (RL.nq (RC.cH lD (RC.ex ?_))))
  exact⟨rfl,bq,br,j.sp 5 [0,1,2,3,4]⟩
 ·rintro hm ab aa s' _ w hk ⟨af,ag,O,rfl,j⟩ o
  refine RC.sr (ic ((ab:Int)) ((p0_0.length:Int)) (RL.nq (RC.cG (lC hk) (RC.ss (RC.bs (mv (vi ab) ?_))))))
  obtain⟨a2,bt,o⟩:=bd o
  refine RL.bW 3 j C2 bt fun cp j=>(RL.bL 0 a2 j xU fun ah j=>(aK (vi ab) (aK ah (RL.ns (aK (.slice none 0 0) (RL.nq (RC.sr (mv (vp b0 0) ?_))))))))
  refine RL.nilCheck zr (RL.bB zr kx (RL.bB zr mT (RL.aX 2 v0_2 j vY (RL.bC 6 p0_2 j xV (mv (vi 0) (RL.nt ?_))))))
  obtain⟨av,hN,o⟩:=bd o
  refine RC.fold (fun(az:Nat) (av: (List aI)) U w=>∃bh:Value,SH E V [(0,vp b0 0),(3,vb aa.2.2),(4,vi ab),(5,ah),(6,bh),(16,v0_0),(17,vi p0_0.length),(18,vi ab),(27,v0_2),(28,vi p0_2.length),(29,vi az)] [bc 126 b0 [v0_0,v0_1,v0_2,v0_3,af,ag,v0_6,v0_7,v0_8,v0_9,v0_10,v0_11],rd v0_0 p0_0,rd v0_2 p0_2,own 132 af aa.1,own 134 ag aa.2.1,rd ah a2,own 74 bh av] U w) (fun(av: (List aI)) U w=>∃a0:Value,SH E V [(0,vp b0 0),(3,vb aa.2.2),(4,vi ab),(5,ah),(6,a0),(16,v0_0),(17,vi p0_0.length),(18,vi ab)] [bc 126 b0 [v0_0,v0_1,v0_2,v0_3,af,ag,v0_6,v0_7,v0_8,v0_9,v0_10,v0_11],rd v0_0 p0_0,rd v0_2 p0_2,own 132 af aa.1,own 134 ag aa.2.1,rd ah a2,own 74 a0 av] U w) hN ?_ ?_ ?_ ?_
  ·have j:=j.cT aI 74
   exact⟨(.slice none 0 0),j.sp 8 [3,6,7,4,5,1,0]⟩
  ·rintro hm av _ w ⟨bu,O,rfl,j⟩
   refine RC.sr (ic ((p0_2.length:Int)) ((p0_2.length:Int)) (RL.nq (RC.cH lD (RC.ex ?_))))
   exact⟨rfl,bu,j.sp 7 [0,1,2,3,4,5,6]⟩
  ·rintro hm az av s' _ w hk ⟨bj,O,rfl,j⟩ o
   refine RC.sr (ic ((az:Int)) ((p0_2.length:Int)) (RL.nq (RC.cG (lC hk) (RC.ss (RC.bs ?_)))))
   obtain⟨bw,bx,o⟩:=bd o
   refine RL.bW 2 j Au bx fun cq j=>(RL.bL 0 bw j lx fun cr j=>(RL.alloc j zD.z fun ct w j=>?_))
   refine RL.bA 0 j 1 zr lx fun w j=>?_
   refine RL.ns (RL.aQ (f:=(fun x=>x)) 0 j zr Fd.self lx fun bz j=>(mv (vi ab) ?_))
   obtain⟨cu,b1,o⟩:=bd o
   refine RL.call zt zr Jm [bz,(vi ab)] zr (aF (mA N (p1:=(ab:Int)) (i0:=0) j zr b1) ?_)
   rintro _ w ⟨rfl,j⟩
   refine RL.nt ?_
   obtain⟨a6,hj,o⟩:=bd o
   refine RC.jn (fun(a6: (List aI)) U w=>∃a3:Value,SH E V [(0,vp b0 0),(3,vb aa.2.2),(4,vi ab),(5,ah),(6,a3),(16,v0_0),(17,vi p0_0.length),(18,vi ab),(27,v0_2),(28,vi p0_2.length),(29,vi az)] [bc 126 b0 [v0_0,v0_1,v0_2,v0_3,af,ag,v0_6,v0_7,v0_8,v0_9,v0_10,v0_11],rd v0_0 p0_0,rd v0_2 p0_2,own 132 af aa.1,own 134 ag aa.2.1,rd ah a2,own 74 a3 a6] U w) a6 ?_ ?_
   ·refine eI hj (fun hc hj=>?_) fun hc hj=>?_
    rotate_left
    ·refine RC.skip ?_
     obtain rfl:=oi hj
     exact⟨rfl,bj,j.sp 11 [4,5,6,7,8,9,10]⟩
    refine RC.region (mv bj (RL.aQ (f:=(fun x=>x)) 1 j zr Fd.self lx fun b3 j=>?_))
    obtain⟨b4,b5,hj⟩:=bd hj
    refine RL.call zt zr EJ [b3] zr (aF (gN N (i0:=0) j zr b5) ?_)
    rintro b6 w j
    refine RL.eE ([b4]: (List aI)) j [b6] kN mS (fun M hs g=>⟨(g.sat 0 _ zr).1,zt⟩) fun cv w j=>?_
    have j:=j.freeze 0
    obtain⟨cw,b7,hj⟩:=bd hj
    refine RL.app 13 0 j EI b7 fun bk w j=>?_
    refine aK bk (RL.nil ?_)
    obtain rfl:=oi hj
    exact⟨rfl,bk,j.sp 14 [7,8,9,10,11,12,13]⟩
   rintro _ w ⟨a3,O,rfl,j⟩
   refine bI (aG (RC.region (RL.inc hk hm (mv (vi ((az+1:Nat):Int)) (RL.nil ?_)))))
   obtain rfl:=oi o
   exact⟨rfl,a3,j.sp 7 [0,1,2,3,4,5,6]⟩
  rintro _ w ⟨a0,O,rfl,j⟩
  refine aG (RC.sr (mv ah ?_))
  obtain⟨cx,b8,o⟩:=bd o
  refine RL.call zt zr F2 [ah] zr (aF (kR N (i0:=5) j zr b8) ?_)
  rintro b9 w j
  refine mv a0 ?_
  have j:=j.freeze 7
  obtain⟨cy,ca,o⟩:=bd o
  refine RL.call zt zr F2 [a0] zr (aF (kR N (i0:=7) j zr ca) ?_)
  rintro cb w j
  have j:=(j.freeze 1).freeze 0
  obtain⟨cz,cc,o⟩:=bd o
  refine RL.call zt zr L4 [b9,cb] zr (aF (vc N (i0:=1) (i1:=0) j zr zr cc) ?_)
  rintro a1 w j
  refine aK a1 (RL.nq ?_)
  obtain⟨an,hj,o⟩:=bd o
  refine RC.jn (fun(an:Bool×(List aA)) U w=>∃ao:Value,SH E V [(0,vp b0 0),(3,vb an.1),(4,vi ab),(9,ao),(16,v0_0),(17,vi p0_0.length),(18,vi ab)] [bc 126 b0 [v0_0,v0_1,v0_2,v0_3,af,ag,v0_6,v0_7,v0_8,v0_9,v0_10,v0_11],rd v0_0 p0_0,rd v0_2 p0_2,own 132 af aa.1,own 134 ag aa.2.1,rd ao an.2] U w) an ?_ ?_
  ·refine RC.region (mv (vb aa.2.2) (mv (vb aa.2.2) (fU hj (fun ai hj=>?_) fun ai hj=>?_)))
   rotate_left
   ·refine bN ai (bN ai (bN ai (fP ai (vb false) (aK (vb false) (RL.nil ?_)))))
    obtain rfl:=oi hj
    have j:=j.freeze 0
    exact⟨rfl,a1,j.sp 10 [3,4,5,6,7,0]⟩
   refine RL.move a1 (cg ai) ?_
   have j:=j.freeze 0
   obtain⟨a7,cd,hj⟩:=bd hj
   refine RL.call (cg ai) zr L5 [a1] zr (aF (vd N (i0:=0) j zr cd) ?_)
   rintro _ w ⟨rfl,j⟩
   refine RL.jO a7 2000 (cg ai) (fP ai (vb (decide (a7<=2000))) (aK (vb (decide (a7<=2000))) (RL.nil ?_)))
   obtain rfl:=oi hj
   exact⟨rfl,a1,j.sp 10 [3,4,5,6,7,0]⟩
  rintro _ w ⟨ao,O,rfl,j⟩
  refine aG (RC.sr (mv (vp b0 0) (mv (vp b0 0) (RL.nilCheck zr (RL.bB zr DT (RL.aX 0 af j Iy (mv ao (RL.eE ([an.2]: (List (List aA))) j [ao] BZ F8 (fun M hs g=>⟨(g.sat 5 _ zr).1,zt⟩) fun c0 w j=>?_))))))))
  have j:=j.freeze 0
  obtain⟨bl,cf,o⟩:=bd o
  refine RL.app 4 0 j Iz cf fun aq w j=>?_
  refine RL.nilCheck zr (RL.bB zr DT (RL.gU 1 aq j zr zr (iE 4 j) Iy fun w j=>?_))
  refine RL.ns (mv ao ?_)
  obtain⟨ar,ch,o⟩:=bd o
  refine RL.call zt zr L7 [ao] zr (aF (tY N (i0:=6) j zr ch) ?_)
  rintro a8 w j
  refine RL.eH 0 ar j Iv (mv (vi 0) (RL.nt ?_))
  obtain⟨aw,hN,o⟩:=bd o
  refine RC.fold (fun(a4:Nat) (aw: (List aH)) U w=>∃bm:Value,SH E V [(0,vp b0 0),(3,vb an.1),(4,vi ab),(16,v0_0),(17,vi p0_0.length),(18,vi ab),(64,a8),(65,vi ar.length),(66,vi a4)] [bc 126 b0 [v0_0,v0_1,v0_2,v0_3,aq,bm,v0_6,v0_7,v0_8,v0_9,v0_10,v0_11],own 134 bm aw,rd v0_0 p0_0,rd v0_2 p0_2,own 132 aq bl,own 132 a8 ar] U w) (fun(aw: (List aH)) U w=>∃a5:Value,SH E V [(0,vp b0 0),(3,vb an.1),(16,v0_0),(17,vi p0_0.length),(18,vi ab)] [bc 126 b0 [v0_0,v0_1,v0_2,v0_3,aq,a5,v0_6,v0_7,v0_8,v0_9,v0_10,v0_11],own 134 a5 aw,rd v0_0 p0_0,rd v0_2 p0_2,own 132 aq bl,own 132 a8 ar] U w) hN ?_ ?_ ?_ ?_
  ·exact⟨ag,j.sp 8 [2,6,3,4,5,0]⟩
  ·rintro hm aw _ w ⟨cj,O,rfl,j⟩
   refine RC.sr (ic ((ar.length:Int)) ((ar.length:Int)) (RL.nq (RC.cH lD (RC.ex ?_))))
   exact⟨rfl,cj,j.sp 6 [0,1,2,3,4,5]⟩
  ·rintro hm a4 aw s' _ w hk ⟨a9,O,rfl,j⟩ o
   refine RC.sr (ic ((a4:Int)) ((ar.length:Int)) (RL.nq (RC.cG (lC hk) (RC.ss (RC.bs ?_)))))
   obtain⟨bn,ba,o⟩:=bd o
   refine RL.bG 5 j zr zr BZ ba (RL.iD (f:=(fun x=>x)) 5 j (iX 5 j ba 0) (aU ba).2.1 Fd.self Iw fun ax j=>?_)
   refine aK ax (RL.nt ?_)
   have j:=j.drew
   refine RC.FT (fun w=>Holds E w ([bc 126 b0 [v0_0,v0_1,v0_2,v0_3,aq,a9,v0_6,v0_7,v0_8,v0_9,v0_10,v0_11]]++V)) mixed zr [1,1,1,1,1,1,1,0,2,0,2,2,0,0,2] [0,1,2,3,4,5,6,7,8,9,10,11,12,13,14] (j.pk 7 [1]) (DP.e1 (vp b0 0) zr (fun w=>RL.move (vp b0 0) zt DP.d1) (DP.e1 (vp b0 0) zr (fun w=>RL.move (vp b0 0) zt DP.d1) (DP.e1 (vp b0 0) zr (fun w=>RL.nilCheck zr DP.d1) (DP.e1 (vp b0 5) zr (fun w=>RL.bB zr lW DP.d1) (DP.Je a9 zr (fun w j=>RL.aX 0 a9 j qN DP.d1) (DP.e1 (vi ab) zr (fun w=>RL.move (vi ab) zt DP.d1) (DP.e1 ax zr (fun w=>RL.move ax zt DP.d1) (DP.e0 zr ?_))))))))
   refine mv ax (tL zr ?_)
   obtain⟨bo,ck,o⟩:=bd o
   refine RL.call zt zr Jj [ax] zr (aF (l4 N (i0:=0) j zr ck) ?_)
   rintro cl w j
   refine DP.d2 (j.pk 8 [2]) (DP.e0 zr ?_)
   have j:=(j.sc Int (ab:Int)).freeze 1
   refine RL.build (⟨(ab:Int),bn,bo⟩:aH) trivial rfl j [(0,vi ab),(1,ax),(2,cl)] rfl Ky rfl (fun M hs g=>by have h:=xT M;exact cO.cons (f:=fun(x:aH) y=>{x with cZ:=y}) h uO (g.sat 0 _ rfl).1 fun _ h=>cO.cons (f:=fun(x:aH) y=>{x with Set:=y}) h uP (g.sat 2 _ rfl).1 fun _ h=>cO.cons (f:=fun(x:aH) y=>{x with iZ:=y}) h uQ (g.sat 1 _ rfl).1 fun _ h=>cO.nil h) fun cm j=>?_
   refine tL zr (RL.eE ([(⟨(ab:Int),bn,bo⟩:aH)]: (List aH)) j [cm] zF DU (fun M hs g=>⟨(g.sat 0 _ zr).1,zt⟩) fun c1 w j=>(DP.d2 (j.pk 11 [5]) (DP.e2 zr ?_)))
   have j:=j.freeze 0
   obtain⟨c2,cn,o⟩:=bd o
   refine RL.app 6 0 j Kz cn fun bp w j=>?_
   refine DP.d2 (j.pk 11 [5]) (DP.e0 zr (RL.nilCheck zr (cB zr (RL.bB zr lW (DP.d0 (DP.MY zr zr (RL.gU 5 bp j zr zr (iE 6 j) qN fun w j=>?_)))))))
   refine DP.d2 zt (DP.z (bI (aG (RC.region (RL.inc hk hm (mv (vi ((a4+1:Nat):Int)) (RL.nil ?_)))))))
   obtain rfl:=oi o
   exact⟨rfl,bp,j.sp 11 [5,6,7,8,9,10]⟩
  rintro _ w ⟨a5,O,rfl,j⟩
  refine bI (aG (RC.region (RL.inc hk hm (mv (vi ((ab+1:Nat):Int)) (RL.nil ?_)))))
  obtain rfl:=oi o
  exact⟨rfl,aq,a5,j.sp 6 [0,4,1,2,3]⟩
 rintro _ w ⟨au,al,O,rfl,j⟩
 refine aG (RC.seq ?_)
 obtain⟨bb,hj,o⟩:=bd o
 refine RC.jn (fun(bb:Bool)=>SH E V [(0,vp b0 0),(2,vb bb)] [bc 126 b0 [v0_0,v0_1,v0_2,v0_3,au,al,v0_6,v0_7,v0_8,v0_9,v0_10,v0_11],rd v0_0 p0_0,rd v0_2 p0_2,own 132 au aa.1,own 134 al aa.2.1]) bb ?_ ?_
 ·refine RC.region (mv (vb aa.2.2) (mv (vb aa.2.2) (fU hj (fun ae hj=>?_) fun ae hj=>?_)))
  ·refine RL.move (vp b0 0) (cg ae) (RL.nilCheck (hg:=(cg ae)) zr (RL.bB (hg:=(cg ae)) zr lW (RL.aX (hg:=(cg ae)) 0 al j qN (RL.eH (hg:=(cg ae)) 2 aa.2.1 j wK (RL.jO (aa.2.1.length:Int) 2000 (cg ae) (fP ae (vb (decide ((aa.2.1.length:Int)<=2000))) (aK (vb (decide ((aa.2.1.length:Int)<=2000))) (RL.nil ?_))))))))
   obtain rfl:=oi hj
   exact⟨rfl,j.sp 5 [0,3,4,1,2]⟩
  refine bN ae (bN ae (bN ae (bN ae (bN ae (bN ae (fP ae (vb false) (aK (vb false) (RL.nil ?_))))))))
  obtain rfl:=oi hj
  exact⟨rfl,j.sp 5 [0,3,4,1,2]⟩
 rintro _ w ⟨O,rfl,j⟩
 refine aG (RC.ret ?_)
 obtain rfl:=oi o
 exact cF ⟨au,al,zr,j.pk 5 [0,3,4]⟩
end Go.Gk
namespace Go.Gk
open Go Go.Proofs
variable (N:Nat) {E w:World} {b0 i0 i1:Nat} {p0 p1 p2 res:Int} {v0 v0_0 v0_1 v0_10 v0_11 v0_2 v0_3 v0_4 v0_5 v0_6 v0_7 v0_8 v0_9 v1:Value} {V:List HP}
theorem wh {p0 p1:aI} {res:Bool} (j:Holds E w V) (h0:V[i0]? =some (rd v0 p0)) (h1:V[i1]? =some (rd v1 p1)) (hb:pj N p0 p1=some res):
    Calls bE 85 [v0,v1].toArray w (gF (aY E V res)):=by
 unfold pj at hb
 refine enter Tryz.func85 zr zr ?_
 have j:=(j.dup (i0+0) h0).dup (i1+1) h1
 refine RC.sr (RL.dB 1 v0 j zr fun o w j=>?_)
 refine RL.dB 1 v1 j zr fun aa w j=>?_
 refine aK (vb false) (RL.ns (RL.bB zr jv (RL.aM 1 j zr eO cN (RL.bB zr kO (RL.aM 0 j zr gA cN (ic p0.X0 p1.X1 (mv (vb (decide (p0.X0<p1.X1))) (RL.gs true (decide (p0.X0<p1.X1)) (vp aa 0) zr zr zr (dP jv) ?_))))))))
 refine RL.gs true (decide (p0.X0<p1.X1)) (vi p1.X0) rfl rfl rfl (bX 0 rfl j (fun h=>by exact(cV h:cv (true&&((decide (p0.X0<p1.X1))==true)) (vp aa 0)= (vp aa 0))) rfl eO cN) (RL.gs true (decide (p0.X0<p1.X1)) (vp o 2) rfl rfl rfl (dP kO) (RL.gs true (decide (p0.X0<p1.X1)) (vi p0.X1) rfl rfl rfl (bX 1 rfl j (fun h=>by exact(cV h:cv (true&&((decide (p0.X0<p1.X1))==true)) (vp o 2)= (vp o 2))) rfl gA cN) (RL.gs true (decide (p0.X0<p1.X1)) (vb (decide (p1.X0<p0.X1))) rfl rfl rfl (dZ .lss .i64 p1.X0 p0.X1 rfl (fun h=>by exact(cV h:cv (true&&((decide (p0.X0<p1.X1))==true)) (vi p1.X0)= (vi p1.X0))) (fun h=>by exact(cV h:cv (true&&((decide (p0.X0<p1.X1))==true)) (vi p0.X1)= (vi p0.X1))) rfl) (RL.pick (decide (p0.X0<p1.X1)) (vb ((decide (p0.X0<p1.X1))&&(decide (p1.X0<p0.X1)))) (iL true) (aK (vb ((decide (p0.X0<p1.X1))&&(decide (p1.X0<p0.X1)))) (RL.ns (RL.bB rfl jY (RL.aM 1 j rfl fy cN ?_))))))))
 refine RL.bB rfl ou (RL.aM 0 j rfl jM cN (ic p0.Y0 p1.Y1 (mv (vb (decide (p0.Y0<p1.Y1))) (RL.gs true (decide (p0.Y0<p1.Y1)) (vp aa 1) rfl rfl rfl (dP jY) (RL.gs true (decide (p0.Y0<p1.Y1)) (vi p1.Y0) rfl rfl rfl (bX 0 rfl j (fun h=>by exact(cV h:cv (true&&((decide (p0.Y0<p1.Y1))==true)) (vp aa 1)= (vp aa 1))) rfl fy cN) (RL.gs true (decide (p0.Y0<p1.Y1)) (vp o 3) rfl rfl rfl (dP ou) (RL.gs true (decide (p0.Y0<p1.Y1)) (vi p0.Y1) rfl rfl rfl (bX 1 rfl j (fun h=>by exact(cV h:cv (true&&((decide (p0.Y0<p1.Y1))==true)) (vp o 3)= (vp o 3))) rfl jM cN) (RL.gs true (decide (p0.Y0<p1.Y1)) (vb (decide (p1.Y0<p0.Y1))) rfl rfl rfl (dZ .lss .i64 p1.Y0 p0.Y1 rfl (fun h=>by exact(cV h:cv (true&&((decide (p0.Y0<p1.Y1))==true)) (vi p1.Y0)= (vi p1.Y0))) (fun h=>by exact(cV h:cv (true&&((decide (p0.Y0<p1.Y1))==true)) (vi p0.Y1)= (vi p0.Y1))) rfl) ?_))))))))
 refine RL.pick (decide (p0.Y0<p1.Y1)) (vb ((decide (p0.Y0<p1.Y1))&&(decide (p1.Y0<p0.Y1)))) (iL true) (aK (vb ((decide (p0.Y0<p1.Y1))&&(decide (p1.Y0<p0.Y1)))) (RL.ns (mv (vb ((decide (p0.X0<p1.X1))&&(decide (p1.X0<p0.X1)))) (mv (vb ((decide (p0.X0<p1.X1))&&(decide (p1.X0<p0.X1)))) (RL.gs true ((decide (p0.X0<p1.X1))&&(decide (p1.X0<p0.X1))) (vp o 3) rfl rfl rfl (dP ou) (RL.gs true ((decide (p0.X0<p1.X1))&&(decide (p1.X0<p0.X1))) (vi p0.Y1) rfl rfl rfl (bX 1 rfl j (fun h=>by exact(cV h:cv (true&&(((decide (p0.X0<p1.X1))&&(decide (p1.X0<p0.X1)))==true)) (vp o 3)= (vp o 3))) rfl jM cN) (RL.gs true ((decide (p0.X0<p1.X1))&&(decide (p1.X0<p0.X1))) (vp aa 1) rfl rfl rfl (dP jY) (RL.gs true ((decide (p0.X0<p1.X1))&&(decide (p1.X0<p0.X1))) (vi p1.Y0) rfl rfl rfl (bX 0 rfl j (fun h=>by exact(cV h:cv (true&&(((decide (p0.X0<p1.X1))&&(decide (p1.X0<p0.X1)))==true)) (vp aa 1)= (vp aa 1))) rfl fy cN) ?_))))))))
 refine RL.gs true ((decide (p0.X0<p1.X1))&&(decide (p1.X0<p0.X1))) (vb (p0.Y1==p1.Y0)) rfl rfl rfl (dZ .eql .i64 p0.Y1 p1.Y0 rfl (fun h=>by exact(cV h:cv (true&&(((decide (p0.X0<p1.X1))&&(decide (p1.X0<p0.X1)))==true)) (vi p0.Y1)= (vi p0.Y1))) (fun h=>by exact(cV h:cv (true&&(((decide (p0.X0<p1.X1))&&(decide (p1.X0<p0.X1)))==true)) (vi p1.Y0)= (vi p1.Y0))) rfl) (RL.gs true ((decide (p0.X0<p1.X1))&&(decide (p1.X0<p0.X1))) (vb (p0.Y1==p1.Y0)) rfl rfl rfl (dT (hx:=fun h=>by exact(cV h:cv (true&&(((decide (p0.X0<p1.X1))&&(decide (p1.X0<p0.X1)))==true)) (vb (p0.Y1==p1.Y0))= (vb (p0.Y1==p1.Y0))))) (RL.gs (true&&(((decide (p0.X0<p1.X1))&&(decide (p1.X0<p0.X1)))==true)) (p0.Y1==p1.Y0) (vp aa 3) rfl rfl rfl (dP ou) (RL.gs (true&&(((decide (p0.X0<p1.X1))&&(decide (p1.X0<p0.X1)))==true)) (p0.Y1==p1.Y0) (vi p1.Y1) rfl rfl rfl (bX 0 rfl j (fun h=>by exact(cV h:cv ((true&&(((decide (p0.X0<p1.X1))&&(decide (p1.X0<p0.X1)))==true))&&((p0.Y1==p1.Y0)==false)) (vp aa 3)= (vp aa 3))) rfl jM cN) (RL.gs (true&&(((decide (p0.X0<p1.X1))&&(decide (p1.X0<p0.X1)))==true)) (p0.Y1==p1.Y0) (vp o 1) rfl rfl rfl (dP jY) (RL.gs (true&&(((decide (p0.X0<p1.X1))&&(decide (p1.X0<p0.X1)))==true)) (p0.Y1==p1.Y0) (vi p0.Y0) rfl rfl rfl (bX 1 rfl j (fun h=>by exact(cV h:cv ((true&&(((decide (p0.X0<p1.X1))&&(decide (p1.X0<p0.X1)))==true))&&((p0.Y1==p1.Y0)==false)) (vp o 1)= (vp o 1))) rfl fy cN) (RL.gs (true&&(((decide (p0.X0<p1.X1))&&(decide (p1.X0<p0.X1)))==true)) (p0.Y1==p1.Y0) (vb (p1.Y1==p0.Y0)) rfl rfl rfl (dZ .eql .i64 p1.Y1 p0.Y0 rfl (fun h=>by exact(cV h:cv ((true&&(((decide (p0.X0<p1.X1))&&(decide (p1.X0<p0.X1)))==true))&&((p0.Y1==p1.Y0)==false)) (vi p1.Y1)= (vi p1.Y1))) (fun h=>by exact(cV h:cv ((true&&(((decide (p0.X0<p1.X1))&&(decide (p1.X0<p0.X1)))==true))&&((p0.Y1==p1.Y0)==false)) (vi p0.Y0)= (vi p0.Y0))) rfl) (RL.gs true ((decide (p0.X0<p1.X1))&&(decide (p1.X0<p0.X1))) (vb ((p0.Y1==p1.Y0)||(p1.Y1==p0.Y0))) rfl rfl rfl (oY (p0.Y1==p1.Y0) rfl (fun h=>by exact(cV h:cv (true&&(((decide (p0.X0<p1.X1))&&(decide (p1.X0<p0.X1)))==true)) (vb (p0.Y1==p1.Y0))= (vb (p0.Y1==p1.Y0)))) (fun h=>by exact oX (true&&(((decide (p0.X0<p1.X1))&&(decide (p1.X0<p0.X1)))==true)) h)) (RL.pick ((decide (p0.X0<p1.X1))&&(decide (p1.X0<p0.X1))) (vb (((decide (p0.X0<p1.X1))&&(decide (p1.X0<p0.X1)))&&((p0.Y1==p1.Y0)||(p1.Y1==p0.Y0)))) (iL true) ?_))))))))
 refine mv (vb (((decide (p0.X0<p1.X1))&&(decide (p1.X0<p0.X1)))&&((p0.Y1==p1.Y0)||(p1.Y1==p0.Y0)))) (RL.gs true (((decide (p0.X0<p1.X1))&&(decide (p1.X0<p0.X1)))&&((p0.Y1==p1.Y0)||(p1.Y1==p0.Y0))) (vb ((decide (p0.Y0<p1.Y1))&&(decide (p1.Y0<p0.Y1)))) rfl rfl rfl dT (RL.gs true (((decide (p0.X0<p1.X1))&&(decide (p1.X0<p0.X1)))&&((p0.Y1==p1.Y0)||(p1.Y1==p0.Y0))) (vb ((decide (p0.Y0<p1.Y1))&&(decide (p1.Y0<p0.Y1)))) rfl rfl rfl (dT (hx:=fun h=>by exact(cV h:cv (true&&((((decide (p0.X0<p1.X1))&&(decide (p1.X0<p0.X1)))&&((p0.Y1==p1.Y0)||(p1.Y1==p0.Y0)))==false)) (vb ((decide (p0.Y0<p1.Y1))&&(decide (p1.Y0<p0.Y1))))= (vb ((decide (p0.Y0<p1.Y1))&&(decide (p1.Y0<p0.Y1))))))) (RL.gs (true&&((((decide (p0.X0<p1.X1))&&(decide (p1.X0<p0.X1)))&&((p0.Y1==p1.Y0)||(p1.Y1==p0.Y0)))==false)) ((decide (p0.Y0<p1.Y1))&&(decide (p1.Y0<p0.Y1))) (vp o 2) rfl rfl rfl (dP kO) (RL.gs (true&&((((decide (p0.X0<p1.X1))&&(decide (p1.X0<p0.X1)))&&((p0.Y1==p1.Y0)||(p1.Y1==p0.Y0)))==false)) ((decide (p0.Y0<p1.Y1))&&(decide (p1.Y0<p0.Y1))) (vi p0.X1) rfl rfl rfl (bX 1 rfl j (fun h=>by exact(cV h:cv ((true&&((((decide (p0.X0<p1.X1))&&(decide (p1.X0<p0.X1)))&&((p0.Y1==p1.Y0)||(p1.Y1==p0.Y0)))==false))&&(((decide (p0.Y0<p1.Y1))&&(decide (p1.Y0<p0.Y1)))==true)) (vp o 2)= (vp o 2))) rfl gA cN) (RL.gs (true&&((((decide (p0.X0<p1.X1))&&(decide (p1.X0<p0.X1)))&&((p0.Y1==p1.Y0)||(p1.Y1==p0.Y0)))==false)) ((decide (p0.Y0<p1.Y1))&&(decide (p1.Y0<p0.Y1))) (vp aa 0) rfl rfl rfl (dP jv) (RL.gs (true&&((((decide (p0.X0<p1.X1))&&(decide (p1.X0<p0.X1)))&&((p0.Y1==p1.Y0)||(p1.Y1==p0.Y0)))==false)) ((decide (p0.Y0<p1.Y1))&&(decide (p1.Y0<p0.Y1))) (vi p1.X0) rfl rfl rfl (bX 0 rfl j (fun h=>by exact(cV h:cv ((true&&((((decide (p0.X0<p1.X1))&&(decide (p1.X0<p0.X1)))&&((p0.Y1==p1.Y0)||(p1.Y1==p0.Y0)))==false))&&(((decide (p0.Y0<p1.Y1))&&(decide (p1.Y0<p0.Y1)))==true)) (vp aa 0)= (vp aa 0))) rfl eO cN) (RL.gs (true&&((((decide (p0.X0<p1.X1))&&(decide (p1.X0<p0.X1)))&&((p0.Y1==p1.Y0)||(p1.Y1==p0.Y0)))==false)) ((decide (p0.Y0<p1.Y1))&&(decide (p1.Y0<p0.Y1))) (vb (p0.X1==p1.X0)) rfl rfl rfl (dZ .eql .i64 p0.X1 p1.X0 rfl (fun h=>by exact(cV h:cv ((true&&((((decide (p0.X0<p1.X1))&&(decide (p1.X0<p0.X1)))&&((p0.Y1==p1.Y0)||(p1.Y1==p0.Y0)))==false))&&(((decide (p0.Y0<p1.Y1))&&(decide (p1.Y0<p0.Y1)))==true)) (vi p0.X1)= (vi p0.X1))) (fun h=>by exact(cV h:cv ((true&&((((decide (p0.X0<p1.X1))&&(decide (p1.X0<p0.X1)))&&((p0.Y1==p1.Y0)||(p1.Y1==p0.Y0)))==false))&&(((decide (p0.Y0<p1.Y1))&&(decide (p1.Y0<p0.Y1)))==true)) (vi p1.X0)= (vi p1.X0))) rfl) (RL.gs (true&&((((decide (p0.X0<p1.X1))&&(decide (p1.X0<p0.X1)))&&((p0.Y1==p1.Y0)||(p1.Y1==p0.Y0)))==false)) ((decide (p0.Y0<p1.Y1))&&(decide (p1.Y0<p0.Y1))) (vb (p0.X1==p1.X0)) rfl rfl rfl (dT (hx:=fun h=>by exact(cV h:cv ((true&&((((decide (p0.X0<p1.X1))&&(decide (p1.X0<p0.X1)))&&((p0.Y1==p1.Y0)||(p1.Y1==p0.Y0)))==false))&&(((decide (p0.Y0<p1.Y1))&&(decide (p1.Y0<p0.Y1)))==true)) (vb (p0.X1==p1.X0))= (vb (p0.X1==p1.X0))))) ?_))))))))
 refine RL.gs ((true&&((((decide (p0.X0<p1.X1))&&(decide (p1.X0<p0.X1)))&&((p0.Y1==p1.Y0)||(p1.Y1==p0.Y0)))==false))&&(((decide (p0.Y0<p1.Y1))&&(decide (p1.Y0<p0.Y1)))==true)) (p0.X1==p1.X0) (vp aa 2) rfl rfl rfl (dP kO) (RL.gs ((true&&((((decide (p0.X0<p1.X1))&&(decide (p1.X0<p0.X1)))&&((p0.Y1==p1.Y0)||(p1.Y1==p0.Y0)))==false))&&(((decide (p0.Y0<p1.Y1))&&(decide (p1.Y0<p0.Y1)))==true)) (p0.X1==p1.X0) (vi p1.X1) rfl rfl rfl (bX 0 rfl j (fun h=>by exact(cV h:cv (((true&&((((decide (p0.X0<p1.X1))&&(decide (p1.X0<p0.X1)))&&((p0.Y1==p1.Y0)||(p1.Y1==p0.Y0)))==false))&&(((decide (p0.Y0<p1.Y1))&&(decide (p1.Y0<p0.Y1)))==true))&&((p0.X1==p1.X0)==false)) (vp aa 2)= (vp aa 2))) rfl gA cN) (RL.gs ((true&&((((decide (p0.X0<p1.X1))&&(decide (p1.X0<p0.X1)))&&((p0.Y1==p1.Y0)||(p1.Y1==p0.Y0)))==false))&&(((decide (p0.Y0<p1.Y1))&&(decide (p1.Y0<p0.Y1)))==true)) (p0.X1==p1.X0) (vp o 0) rfl rfl rfl (dP jv) (RL.gs ((true&&((((decide (p0.X0<p1.X1))&&(decide (p1.X0<p0.X1)))&&((p0.Y1==p1.Y0)||(p1.Y1==p0.Y0)))==false))&&(((decide (p0.Y0<p1.Y1))&&(decide (p1.Y0<p0.Y1)))==true)) (p0.X1==p1.X0) (vi p0.X0) rfl rfl rfl (bX 1 rfl j (fun h=>by exact(cV h:cv (((true&&((((decide (p0.X0<p1.X1))&&(decide (p1.X0<p0.X1)))&&((p0.Y1==p1.Y0)||(p1.Y1==p0.Y0)))==false))&&(((decide (p0.Y0<p1.Y1))&&(decide (p1.Y0<p0.Y1)))==true))&&((p0.X1==p1.X0)==false)) (vp o 0)= (vp o 0))) rfl eO cN) (RL.gs ((true&&((((decide (p0.X0<p1.X1))&&(decide (p1.X0<p0.X1)))&&((p0.Y1==p1.Y0)||(p1.Y1==p0.Y0)))==false))&&(((decide (p0.Y0<p1.Y1))&&(decide (p1.Y0<p0.Y1)))==true)) (p0.X1==p1.X0) (vb (p1.X1==p0.X0)) rfl rfl rfl (dZ .eql .i64 p1.X1 p0.X0 rfl (fun h=>by exact(cV h:cv (((true&&((((decide (p0.X0<p1.X1))&&(decide (p1.X0<p0.X1)))&&((p0.Y1==p1.Y0)||(p1.Y1==p0.Y0)))==false))&&(((decide (p0.Y0<p1.Y1))&&(decide (p1.Y0<p0.Y1)))==true))&&((p0.X1==p1.X0)==false)) (vi p1.X1)= (vi p1.X1))) (fun h=>by exact(cV h:cv (((true&&((((decide (p0.X0<p1.X1))&&(decide (p1.X0<p0.X1)))&&((p0.Y1==p1.Y0)||(p1.Y1==p0.Y0)))==false))&&(((decide (p0.Y0<p1.Y1))&&(decide (p1.Y0<p0.Y1)))==true))&&((p0.X1==p1.X0)==false)) (vi p0.X0)= (vi p0.X0))) rfl) (RL.gs (true&&((((decide (p0.X0<p1.X1))&&(decide (p1.X0<p0.X1)))&&((p0.Y1==p1.Y0)||(p1.Y1==p0.Y0)))==false)) ((decide (p0.Y0<p1.Y1))&&(decide (p1.Y0<p0.Y1))) (vb ((p0.X1==p1.X0)||(p1.X1==p0.X0))) rfl rfl rfl (oY (p0.X1==p1.X0) rfl (fun h=>by exact(cV h:cv ((true&&((((decide (p0.X0<p1.X1))&&(decide (p1.X0<p0.X1)))&&((p0.Y1==p1.Y0)||(p1.Y1==p0.Y0)))==false))&&(((decide (p0.Y0<p1.Y1))&&(decide (p1.Y0<p0.Y1)))==true)) (vb (p0.X1==p1.X0))= (vb (p0.X1==p1.X0)))) (fun h=>by exact oX ((true&&((((decide (p0.X0<p1.X1))&&(decide (p1.X0<p0.X1)))&&((p0.Y1==p1.Y0)||(p1.Y1==p0.Y0)))==false))&&(((decide (p0.Y0<p1.Y1))&&(decide (p1.Y0<p0.Y1)))==true)) h)) (RL.gs true (((decide (p0.X0<p1.X1))&&(decide (p1.X0<p0.X1)))&&((p0.Y1==p1.Y0)||(p1.Y1==p0.Y0))) (vb (((decide (p0.Y0<p1.Y1))&&(decide (p1.Y0<p0.Y1)))&&((p0.X1==p1.X0)||(p1.X1==p0.X0)))) rfl rfl rfl (oY ((decide (p0.Y0<p1.Y1))&&(decide (p1.Y0<p0.Y1))) rfl (fun h=>by exact(cV h:cv (true&&((((decide (p0.X0<p1.X1))&&(decide (p1.X0<p0.X1)))&&((p0.Y1==p1.Y0)||(p1.Y1==p0.Y0)))==false)) (vb ((decide (p0.Y0<p1.Y1))&&(decide (p1.Y0<p0.Y1))))= (vb ((decide (p0.Y0<p1.Y1))&&(decide (p1.Y0<p0.Y1)))))) (fun h=>by exact iL (h:=h) (true&&((((decide (p0.X0<p1.X1))&&(decide (p1.X0<p0.X1)))&&((p0.Y1==p1.Y0)||(p1.Y1==p0.Y0)))==false)))) (RL.pick (((decide (p0.X0<p1.X1))&&(decide (p1.X0<p0.X1)))&&((p0.Y1==p1.Y0)||(p1.Y1==p0.Y0))) (vb ((((decide (p0.X0<p1.X1))&&(decide (p1.X0<p0.X1)))&&((p0.Y1==p1.Y0)||(p1.Y1==p0.Y0)))||(((decide (p0.Y0<p1.Y1))&&(decide (p1.Y0<p0.Y1)))&&((p0.X1==p1.X0)||(p1.X1==p0.X0))))) (oX true rfl) (aK (vb ((((decide (p0.X0<p1.X1))&&(decide (p1.X0<p0.X1)))&&((p0.Y1==p1.Y0)||(p1.Y1==p0.Y0)))||(((decide (p0.Y0<p1.Y1))&&(decide (p1.Y0<p0.Y1)))&&((p0.X1==p1.X0)||(p1.X1==p0.X0))))) ?_))))))))
 refine RL.nt (RC.ret ?_)
 obtain rfl:=oi hb
 exact cF ⟨rfl,j.drop 4⟩
theorem pz {p0:aI} {p1:bZ} {res:Bool} (j:Holds E w V) (h0:V[i0]? =some (rd v0 p0)) (h1:V[i1]? =some (pt v1 p1)) (o:iV N p0 p1=some res):
    Calls bE 84 [v0,v1].toArray w (gF (aY E V res)):=by
 unfold iV at o
 refine enter Tryz.func84 zr zr ?_
 have j:=(j.dup (i0+0) h0).xB (i:=i1+1) h1
 refine RC.sr (RL.dB 1 v0 j zr fun ah w j=>?_)
 have j:=j.gJ (i:=0) rfl
 refine aK (vb false) (RL.nq (RC.xM mixed [1,0,2,2,0] [0,1,2,3,4] ?_))
 have j:=j.drew
 refine DP.wZ p0 0 zr j fI fun aa a33 ai j=>(DP.e0 zr (RL.bL 3 p1 j lx fun ab j=>(tL zr ?_)))
 obtain⟨aj,ad,o⟩:=bd o
 refine RL.call zt zr EJ [ab] zr (aF (gN N (i0:=0) j zr ad) ?_)
 rintro ae w j
 refine DP.d2 (⟨zt,j.kb 2⟩) (DP.e2 zr ?_)
 obtain⟨af,ag,o⟩:=bd o
 refine RL.call zt zr L9 [aa,ae] zr (aF (wh N (i0:=3) (i1:=0) j zr zr ag) ?_)
 rintro _ w ⟨rfl,j⟩
 refine DP.d2 (⟨zt,j.kb 2⟩) (DP.e0 zr (aK (vb af) (DP.d0 ?_)))
 have j:=j.pl 7 [0,1,3,4,5,6]
 refine DP.z (aG (RC.ret ?_))
 obtain rfl:=oi o
 exact cF ⟨rfl,j.drop 6⟩
theorem ky {p0: (List aI)} {p1:aI->Option Bool} {res:Bool} (j:Holds E w V) (h0:V[i0]? =some (rd v0 p0)) (h1:Hk bE E V v1 p1 (fun(r:Bool)=>Value.bool r)) (o:fJ N p0 p1=some res):
    Calls bE 83 [v0,v1].toArray w (gF (aY E V res)):=by
 unfold fJ at o
 refine enter Tryz.func83 zr zr ?_
 have j:=j.dup (i0+0) h0
 refine RC.sr (aK (vb false) (RL.ns (mv v0 (mv v1 ?_))))
 obtain⟨aa,ab,o⟩:=bd o
 refine RL.call zt zr Iq [v0,v1] zr (aF (px N (i0:=0) j zr (h1.lift 1 zr) ab) ?_)
 rintro _ w ⟨rfl,j⟩
 refine ic aa 0 (aK (vb (decide (aa>=0))) (RL.nt (RC.ret ?_)))
 obtain rfl:=oi o
 exact cF ⟨rfl,j.drop 1⟩
def rO (E:World) (V:List HP) (b0:Nat) (v0_0 v0_1:Value) (v0_2 v0_3:Value) (v0_4 v0_5:Value) (v0_7 v0_8:Value) (v0_9 v0_10 v0_11:Value) (res: (List (List Int))) (v:Value) (w:World):Prop:=∃u0_6:Value,v = .tuple #[]/\Holds E w ([bc 126 b0 [v0_0,v0_1,v0_2,v0_3,v0_4,v0_5,u0_6,v0_7,v0_8,v0_9,v0_10,v0_11],own 87 u0_6 res]++V)
theorem qW {p0_2: (List bZ)} {p0_5: (List aH)} {p0_6: (List (List Int))} {res: (List (List Int))} (j:Holds E w (bc 126 b0 [v0_0,v0_1,v0_2,v0_3,v0_4,v0_5,v0_6,v0_7,v0_8,v0_9,v0_10,v0_11]::rd v0_2 p0_2::rd v0_5 p0_5::own 87 v0_6 p0_6::V)) (hb:iO N p0_2 p0_5 p0_6=some res):
    Calls bE 52 [(vp b0 0)].toArray w (gF (rO E V b0 v0_0 v0_1 v0_2 v0_3 v0_4 v0_5 v0_7 v0_8 v0_9 v0_10 v0_11 res)):=by
 unfold iO at hb
 refine enter Tryz.func52 zr zr (RC.sr (mv (vp b0 0) (RL.nilCheck zr (RL.bB zr kx (RL.bB zr mT (RL.aX 0 v0_2 j vY (RL.bC 1 p0_2 j xV (mv (vi 0) ?_))))))))
 refine RL.nt ?_
 obtain⟨af,hN,hb⟩:=bd hb
 refine RC.fold (fun(ai:Nat) (af: (List (List Int))) U w=>∃az:Value,SH E V [(0,vp b0 0),(11,v0_2),(12,vi p0_2.length),(13,vi ai)] [bc 126 b0 [v0_0,v0_1,v0_2,v0_3,v0_4,v0_5,az,v0_7,v0_8,v0_9,v0_10,v0_11],own 87 az af,rd v0_2 p0_2,rd v0_5 p0_5] U w) (fun(af: (List (List Int))) U w=>∃aq:Value,SH E V [(0,vp b0 0)] [bc 126 b0 [v0_0,v0_1,v0_2,v0_3,v0_4,v0_5,aq,v0_7,v0_8,v0_9,v0_10,v0_11],own 87 aq af,rd v0_2 p0_2,rd v0_5 p0_5] U w) hN ?_ ?_ ?_ ?_
 ·exact⟨v0_6,j.sp 4 [0,3,1,2]⟩
 ·rintro hm af _ w ⟨a4,O,rfl,j⟩
  refine RC.sr (ic ((p0_2.length:Int)) ((p0_2.length:Int)) (RL.nq (RC.cH lD (RC.ex ?_))))
  exact⟨rfl,a4,j.sp 4 [0,1,2,3]⟩
 ·rintro hm ai af s' _ w hk ⟨ah,O,rfl,j⟩ hb
  refine RC.sr (ic ((ai:Int)) ((p0_2.length:Int)) (RL.nq (RC.cG (lC hk) (RC.ss (RC.bs ?_)))))
  obtain⟨aj,a5,hb⟩:=bd hb
  refine RL.bW 2 j Au a5 fun bk j=>(RL.bL 0 aj j lx fun bl j=>(RL.alloc j zD.z fun ag w j=>?_))
  refine RL.bA 0 j 1 zr lx fun w j=>?_
  refine RL.ns (aK (.slice none 0 0) (RL.nq (RC.sr (mv (vp b0 0) (RL.nilCheck zr (RL.bB zr lW (RL.aX 3 v0_5 j qN (RL.bC 6 p0_5 j wK ?_))))))))
  refine mv (vi 0) (RL.nt ?_)
  have j:=j.gJ (i:=0) rfl
  obtain⟨ak,hN,hb⟩:=bd hb
  refine RC.fold (fun(ab:Nat) (ak: (List Int)) U w=>∃a0:Value,SH E V [(0,vp b0 0),(3,vp ag 0),(4,a0),(11,v0_2),(12,vi p0_2.length),(13,vi ai),(20,v0_5),(21,vi p0_5.length),(22,vi ab)] [bc 126 b0 [v0_0,v0_1,v0_2,v0_3,v0_4,v0_5,ah,v0_7,v0_8,v0_9,v0_10,v0_11],rd v0_2 p0_2,rd v0_5 p0_5,own 87 ah af,pt (vp ag 0) aj,own 3 a0 ak] U w) (fun(ak: (List Int)) U w=>∃ao:Value,SH E V [(0,vp b0 0),(4,ao),(11,v0_2),(12,vi p0_2.length),(13,vi ai)] [bc 126 b0 [v0_0,v0_1,v0_2,v0_3,v0_4,v0_5,ah,v0_7,v0_8,v0_9,v0_10,v0_11],rd v0_2 p0_2,rd v0_5 p0_5,own 87 ah af,pt (vp ag 0) aj,own 3 ao ak] U w) hN ?_ ?_ ?_ ?_
  ·have j:=j.cT Int 3
   exact⟨(.slice none 0 0),j.sp 8 [4,6,7,5,1,0]⟩
  ·rintro hm ak _ w ⟨a6,O,rfl,j⟩
   refine RC.sr (ic ((p0_5.length:Int)) ((p0_5.length:Int)) (RL.nq (RC.cH lD (RC.ex ?_))))
   exact⟨rfl,a6,j.sp 6 [0,1,2,3,4,5]⟩
  ·rintro hm ab ak s' _ w hk ⟨ar,O,rfl,j⟩ hb
   refine RC.sr (ic ((ab:Int)) ((p0_5.length:Int)) (RL.nq (RC.cG (lC hk) (RC.ss (RC.bs (mv (vi ab) ?_))))))
   obtain⟨aw,a7,hb⟩:=bd hb
   refine RL.bW 2 j zF a7 fun bm j=>(RL.bL 0 aw j zG fun bn j=>(RL.alloc j DU.z fun bo w j=>?_))
   refine aK (vi ab) (RL.bA 0 j 1 zr zG fun w j=>?_)
   refine RL.nq ?_
   obtain⟨ax,o,hb⟩:=bd hb
   refine RC.jn (fun(ax:Bool)=>SH E V [(0,vp b0 0),(3,vp ag 0),(4,ar),(5,vi ab),(11,v0_2),(12,vi p0_2.length),(13,vi ai),(20,v0_5),(21,vi p0_5.length),(22,vi ab),(40,vb ax)] [bc 126 b0 [v0_0,v0_1,v0_2,v0_3,v0_4,v0_5,ah,v0_7,v0_8,v0_9,v0_10,v0_11],rd v0_2 p0_2,rd v0_5 p0_5,own 87 ah af,pt (vp ag 0) aj,own 3 ar ak]) ax ?_ ?_
   ·refine RC.region (RL.iu 7 j zr xn sA fun bp j=>(RL.bH aj.ij 0 j ux (mv (vb aj.ij) (fU o (fun ad o=>?_) fun ad o=>?_))))
    rotate_left
    ·refine bN ad (bN ad (bN ad (bN ad (fP ad (vb false) (mv (vb false) (nQ (nQ (nQ ?_))))))))
     refine nQ (RL.pick false (vb false) zr (RL.nil ?_))
     obtain rfl:=oi o
     exact⟨rfl,j.sp 10 [4,5,6,7,8,9]⟩
    refine RL.bL (hg:=(cg ad)) 8 aj j lx fun a8 j=>(RL.bB (hg:=(cg ad)) zr xo (RL.aM (hg:=(cg ad)) 2 j zr kq cN ?_))
    obtain⟨a1,a9,o⟩:=bd o
    refine RL.call (cg ad) zr Jm [a8,(vi aw.cZ)] zr (aF (mA N (p1:=aw.cZ) (i0:=0) j zr a9) ?_)
    rintro _ w ⟨rfl,j⟩
    refine fP ad (vb a1) (mv (vb a1) (fU o (fun ae o=>?_) fun ae o=>?_))
    rotate_left
    ·refine bN ae (bN ae (bN ae (bN ae (fP ae (vb false) (RL.nil ?_)))))
     obtain rfl:=oi o
     exact⟨rfl,j.sp 11 [5,6,7,8,9,10]⟩
    refine RL.bB (hg:=(cg ae)) zr xp (RL.aQ (hg:=(cg ae)) 2 j zr kr xU fun ba j=>(RL.makeFunc (hg:=(cg ae)) [(vp ag 0)] ?_))
    obtain⟨bb,bf,o⟩:=bd o
    refine RL.call (cg ae) rfl KA [ba,(.func (.func 84) #[] #[(vp ag 0)])] rfl (aF (ky N (i0:=0) j rfl ⟨84,[(vp ag 0)],rfl,Ma,fun w Γl v y0 r i j hi hr=>by exact aF (pz N (i0:=i) (i1:=Γl.length+10) j hi (Ac rfl) hr) fun _ _ h=>h⟩ bf) ?_)
    rintro _ w ⟨rfl,j⟩
    refine fP ae (vb bb) (RL.nil ?_)
    obtain rfl:=oi o
    exact⟨rfl,j.sp 12 [6,7,8,9,10,11]⟩
   rintro _ w ⟨O,rfl,j⟩
   refine aG ?_
   obtain⟨ay,o,hb⟩:=bd hb
   refine RC.jn (fun(ay: (List Int)) U w=>∃au:Value,SH E V [(0,vp b0 0),(3,vp ag 0),(4,au),(11,v0_2),(12,vi p0_2.length),(13,vi ai),(20,v0_5),(21,vi p0_5.length),(22,vi ab)] [bc 126 b0 [v0_0,v0_1,v0_2,v0_3,v0_4,v0_5,ah,v0_7,v0_8,v0_9,v0_10,v0_11],rd v0_2 p0_2,rd v0_5 p0_5,own 87 ah af,pt (vp ag 0) aj,own 3 au ay] U w) ay ?_ ?_
   ·refine eI o (fun hc o=>?_) fun hc o=>?_
    rotate_left
    ·refine RC.skip ?_
     obtain rfl:=oi o
     exact⟨rfl,ar,j.sp 6 [0,1,2,3,4,5]⟩
    refine RC.region (mv ar (mv (vi ab) ?_))
    have j:=j.sc Int (ab:Int)
    refine RL.eE ([(ab:Int)]: (List Int)) j [(vi ab)] dV Ft (fun M hs g=>⟨(g.sat 0 _ zr).1,zt⟩) fun bq w j=>?_
    have j:=j.freeze 0
    obtain⟨br,bh,o⟩:=bd o
    refine RL.app 7 0 j tM bh fun a2 w j=>?_
    refine aK a2 (RL.nil ?_)
    obtain rfl:=oi o
    exact⟨rfl,a2,j.sp 8 [2,3,4,5,6,7]⟩
   rintro _ w ⟨au,O,rfl,j⟩
   refine bI (aG (RC.region (RL.inc hk hm (mv (vi ((ab+1:Nat):Int)) (RL.nil ?_)))))
   obtain rfl:=oi hb
   exact⟨rfl,au,j.sp 6 [0,1,2,3,4,5]⟩
  rintro _ w ⟨ao,O,rfl,j⟩
  refine aG (RC.region (mv (vp b0 0) (mv (vp b0 0) (RL.nilCheck zr (RL.bB zr xq (RL.aX 0 ah j DV (mv ao ?_)))))))
  have j:=j.freeze 5
  refine RL.eE ([ak]: (List (List Int))) j [ao] xX KB (fun M hs g=>⟨(g.sat 5 _ zr).1,zt⟩) fun bt w j=>?_
  have j:=j.freeze 0
  obtain⟨bu,bj,hb⟩:=bd hb
  refine RL.app 4 0 j IA bj fun a3 w j=>?_
  refine RL.nilCheck zr (RL.bB zr xq (RL.gU 1 a3 j zr zr (iE 4 j) DV fun w j=>?_))
  refine RL.nil (bI (aG (RC.region (RL.inc hk hm (mv (vi ((ai+1:Nat):Int)) (RL.nil ?_))))))
  obtain rfl:=oi hb
  exact⟨rfl,a3,j.sp 7 [1,4,2,3]⟩
 rintro _ w ⟨aq,O,rfl,j⟩
 obtain rfl:=oi hb
 refine xz ?_
 exact Ep ⟨aq,zr,j.pk 4 [0,1]⟩
def tZ (E:World) (V:List HP) (res: ((List Int))) (v:Value) (w:World):Prop:=∃(ub0:Nat) (u0_0:Value),v=vp ub0 0/\Holds E w ([bc 176 ub0 [u0_0],own 3 u0_0 res]++V)
theorem nI {res: ((List Int))} (j:Holds E w V) (hb:iI N p0=some res):
    Calls bE 61 [(vi p0)].toArray w (gF (tZ E V res)):=by
 unfold iI at hb
 refine enter Tryz.func61 zr zr (RC.sr (aK (.pointer none) (RL.ns (mv (vi p0) ?_))))
 obtain⟨af,aj,hb⟩:=bd hb
 refine RL.mk p0 j tM Ji aj fun o w j=>?_
 refine RL.FG (zs:=[(.slice none 0 0)]) (cs:=[o]) zt zr [(0,o)] zr KC ⟨(iE 0 j),zt⟩ zr (RL.DK (cs:=[o]) zt zr j zr (Bw.all (⟨(iE 0 j),zt⟩:Bw [o])) fun ab w j=>?_)
 refine aK (vp ab 0) (RL.nq (RC.sr (mv (vp ab 0) (RL.nilCheck zr (RL.bB zr nS (RL.aX 0 o j fE (RL.eH 1 af j l3 (mv (vi 0) ?_))))))))
 refine RL.nt ?_
 obtain⟨ae,hN,hb⟩:=bd hb
 refine RC.fold (fun(ad:Nat) (ae: (List Int))=>SH E V [(3,vp ab 0),(13,vi af.length),(14,vi ad)] [bc 176 ab [o],own 3 o ae]) (fun(ae: (List Int))=>SH E V [(3,vp ab 0)] [bc 176 ab [o],own 3 o ae]) hN ?_ ?_ ?_ ?_
 ·exact j.sp 2 [0,1]
 ·rintro hm ae _ w ⟨O,rfl,j⟩
  refine RC.sr (ic ((af.length:Int)) ((af.length:Int)) (RL.nq (RC.cH lD (RC.ex ?_))))
  exact⟨rfl,j.sp 2 [0,1]⟩
 ·rintro hm ad ae s' _ w hk ⟨O,rfl,j⟩ hb
  refine RC.sr (ic ((ad:Int)) ((af.length:Int)) (RL.nq (RC.cG (lC hk) (RC.ss (RC.bs (mv (vi ad) (aK (vi ad) (RL.nt ?_))))))))
  refine RC.region (mv (vp ab 0) (RL.nilCheck zr (RL.bB zr nS (RL.aX 0 o j fE (mv (vi ad) (mv (vi ad) ?_))))))
  obtain⟨al,ag,hb⟩:=bd hb
  refine RL.bG 1 j zr zr dV ag ?_
  have j:=j.sc Int (ad:Int)
  refine RL.fA (f:=(fun _ y=>y)) 2 0 j (iX 2 j ag 0) (aU ag).2.1 zr Fs.self cN fun w j=>?_
  refine RL.nil (bI (aG (RC.region (RL.inc hk hm (mv (vi ((ad+1:Nat):Int)) (RL.nil ?_))))))
  obtain rfl:=oi hb
  exact⟨rfl,j.sp 3 [1,2]⟩
 rintro _ w ⟨O,rfl,j⟩
 refine aG (RC.sr (mv (vp ab 0) (aK (vp ab 0) (RL.nt (RC.ret ?_)))))
 obtain rfl:=oi hb
 exact cF ⟨ab,o,zr,j.pk 2 [0,1]⟩
def te (E:World) (V:List HP) (b0:Nat) (res:Int×(List Int)) (v:Value) (w:World):Prop:=∃u0_0:Value,v= (vi res.1)/\Holds E w ([bc 176 b0 [u0_0],own 3 u0_0 res.2]++V)
theorem f9 {p0_0: (List Int)} {res:Int×(List Int)} (j:Holds E w (bc 176 b0 [v0_0]::own 3 v0_0 p0_0::V)) (o:dQ N p0_0 p1=some res):
    Calls bE 64 [(vp b0 0),(vi p1)].toArray w (gF (te E V b0 res)):=by
 unfold dQ at o
 refine enter Tryz.func64 zr zr (RC.sr (aK (vi 0) (RL.nq ?_)))
 obtain⟨an,hN,o⟩:=bd o
 refine RC.iter (fun(aa: (List Int)×Int)=>SH E V [(0,vp b0 0),(1,vi aa.2)] [bc 176 b0 [v0_0],own 3 v0_0 aa.1]) (fun(aa: (List Int)×Int)=>SH E V [(0,vp b0 0),(1,vi aa.2)] [bc 176 b0 [v0_0],own 3 v0_0 aa.1]) (fun(r:Empty) _ _=>r.elim) hN ?_ ?_ ?_ ?_
 ·exact j.sp 2 [0,1]
 ·rintro aa fl _ w ⟨O,rfl,j⟩ o
  refine RC.seq (RC.sr (mv (vp b0 0) (RL.nilCheck zr (RL.bB zr nS (RL.aX 0 v0_0 j fE (mv (vi aa.2) ?_))))))
  obtain⟨ai,ab,o⟩:=bd o
  refine RL.bG 1 j zr zr dV ab (RL.cX (f:=(fun x=>x)) 1 j (iX 1 j ab 0) (aU ab).2.1 Fd.self cN (mv (vi aa.2) (ic ai aa.2 (RL.nt (eI o (fun hc o=>?_) fun hc o=>?_)))))
  rotate_left
  ·refine RC.ex ?_
   obtain rfl:=oi o
   exact⟨rfl,j.sp 2 [0,1]⟩
  refine RC.sn (RC.block (RC.seq (RC.xM mixed [0,0,0,0,0,0,0,0,0,0,0,0,0,0,0,0,0,0,0,2] [0,1,2,3,4,5,6,7,8,9,10,11,12,13,14,15,16,17,18,19] ?_)))
  have j:=j.drew
  refine DP.e0 zr (mv (vp b0 0) (cB zr (RL.nilCheck zr (cB zr (RL.bB zr nS (cB zr (RL.aX 0 v0_0 j fE (cB zr ?_))))))))
  refine mv (vi aa.2) (cB zr (mv (vp b0 0) (cB zr (RL.nilCheck zr (cB zr (RL.bB zr nS (cB zr (RL.aX 0 v0_0 j fE ?_))))))))
  refine cB zr (mv (vp b0 0) (cB zr (RL.nilCheck zr (cB zr (RL.bB zr nS (cB zr (RL.aX 0 v0_0 j fE (cB zr ?_))))))))
  refine mv (vi aa.2) (cB zr ?_)
  obtain⟨aq,ad,o⟩:=bd o
  refine RL.bG 1 j zr zr dV ad (cB zr (RL.cX (f:=(fun x=>x)) 1 j (iX 1 j ad 0) (aU ad).2.1 Fd.self cN (cB zr ?_)))
  obtain⟨ak,ae,o⟩:=bd o
  refine RL.bG 1 j zr zr dV ae (cB zr (RL.cX (f:=(fun x=>x)) 1 j (iX 1 j ae 0) (aU ae).2.1 Fd.self cN (cB zr ?_)))
  obtain⟨ar,af,o⟩:=bd o
  refine RL.bG 1 j zr zr dV af (tL zr ?_)
  have j:=j.sc Int ak
  refine RL.fA (f:=(fun _ y=>y)) 2 0 j (iX 2 j af 0) (aU af).2.1 zr Fs.self cN fun w j=>?_
  refine DP.d2 zt (DP.z (aG (RC.region (mv (vp b0 0) (RL.nilCheck zr (RL.bB zr nS (RL.aX 1 v0_0 j fE (mv (vi aa.2) ?_))))))))
  obtain⟨al,ag,o⟩:=bd o
  refine RL.bG 2 j zr zr dV ag (RL.cX (f:=(fun x=>x)) 2 j (iX 2 j ag 0) (aU ag).2.1 Fd.self cN (aK (vi al) (RL.nil (bI ?_))))
  obtain rfl:=oi o
  exact⟨rfl,j.sp 3 [1,2]⟩
 ·intro r _ _ _ _
  exact r.elim
 rintro aa _ w rfl ⟨O,rfl,j⟩
 rw [Fo.fB] at o
 refine aG (RC.sr (mv (vi aa.2) (aK (vi aa.2) (RL.nt (RC.ret ?_)))))
 obtain rfl:=oi o
 exact cF ⟨v0_0,zr,j.pk 2 [0,1]⟩
def rP (E:World) (V:List HP) (b0:Nat) (res: (List Int)) (v:Value) (w:World):Prop:=∃u0_0:Value,v = .tuple #[]/\Holds E w ([bc 176 b0 [u0_0],own 3 u0_0 res]++V)
theorem mJ {p0_0: (List Int)} {res: (List Int)} (j:Holds E w (bc 176 b0 [v0_0]::own 3 v0_0 p0_0::V)) (o:dH N p0_0 p1 p2=some res):
    Calls bE 63 [(vp b0 0),(vi p1),(vi p2)].toArray w (gF (rP E V b0 res)):=by
 unfold dH at o
 refine enter Tryz.func63 zr zr (RC.sr (mv (vp b0 0) (mv (vi p1) ?_)))
 have j:=(j.pull 1).pull 1
 obtain⟨aa,af,o⟩:=bd o
 refine RL.call zt zr EN [(vp b0 0),(vi p1)] zr (aF (f9 N (p1:=p1) j af) ?_)
 rintro _ w ⟨ah,rfl,j⟩
 refine mv (vp b0 0) (mv (vi p2) ?_)
 have j:=(j.pull 1).pull 1
 obtain⟨ab,ag,o⟩:=bd o
 refine RL.call zt zr EN [(vp b0 0),(vi p2)] zr (aF (f9 N (p1:=p2) j ag) ?_)
 rintro _ w ⟨ae,rfl,j⟩
 refine aK (vi aa.1) (aK (vi ab.1) (RL.nt (RC.region (mv (vp b0 0) (RL.nilCheck zr (RL.bB zr nS (RL.aX 0 ae j fE (mv (vi aa.1) ?_))))))))
 refine mv (vi ab.1) (RL.max aa.1 ab.1 (mv (vi aa.1) (mv (vi ab.1) (RL.min aa.1 ab.1 ?_))))
 obtain⟨ai,ad,o⟩:=bd o
 refine RL.bG 1 j zr zr dV ad ?_
 have j:=j.sc Int (if ab.1<aa.1 then ab.1 else aa.1)
 refine RL.fA (f:=(fun _ y=>y)) 2 0 j (iX 2 j ad 0) (aU ad).2.1 zr Fs.self cN fun w j=>?_
 refine RL.nil ?_
 obtain rfl:=oi o
 refine xz ?_
 exact Ep ⟨ae,zr,j.pk 7 [1,2]⟩
def rQ (E:World) (V:List HP) (b0:Nat) (res: (List (List Int))×(List Int)) (v:Value) (w:World):Prop:=∃u0 u0_0:Value,v=u0/\Holds E w ([own 87 u0 res.1,bc 176 b0 [u0_0],own 3 u0_0 res.2]++V)
theorem qX {p0_0: (List Int)} {res: (List (List Int))×(List Int)} (o:Holds E w (bc 176 b0 [v0_0]::own 3 v0_0 p0_0::V)) (hb:iP N p0_0=some res):
    Calls bE 86 [(vp b0 0)].toArray w (gF (rQ E V b0 res)):=by
 unfold iP at hb
 refine enter Tryz.func86 zr zr (RC.sr (aK (.slice none 0 0) (RL.ns (aK (.slice none 0 0) (RL.ns (RL.makeMap (κ:=Int) (ν:=Int) zr o fun ao w o=>(aK ao (RL.nq ?_))))))))
 refine RC.sr (mv (vp b0 0) (RL.nilCheck zr (RL.bB zr nS (RL.aX 1 v0_0 o fE (RL.eH 2 p0_0 o l3 (mv (vi 0) (RL.nt ?_)))))))
 obtain⟨an,hN,hb⟩:=bd hb
 refine RC.fold (fun(ai:Nat) (an: (List Int)×(List (List Int))×(List (Int×Int))) U w=>∃(a3 a4:Value) (us110:List RV),SH E V [(0,vp b0 0),(3,a4),(4,ao),(12,vi p0_0.length),(13,vi ai)] [bc 176 b0 [a3],own 3 a3 an.1,mp ao an.2.2,own 87 a4 us110,iY (XS 3 Int) us110 an.2.1 none] U w) (fun(an: (List Int)×(List (List Int))×(List (Int×Int))) U w=>∃(aw au:Value) (us113:List RV),SH E V [(0,vp b0 0),(3,au)] [bc 176 b0 [aw],own 3 aw an.1,mp ao an.2.2,own 87 au us113,iY (XS 3 Int) us113 an.2.1 none] U w) hN ?_ ?_ ?_ ?_
 ·have o:=(o.Ag (XS 3 Int)).cT RV 87
  exact⟨v0_0,(.slice none 0 0),([]:List RV),o.sp 5 [3,4,2,0,1]⟩
 ·rintro hm an _ w ⟨ba,bb,us153,O,rfl,o⟩
  refine RC.sr (ic ((p0_0.length:Int)) ((p0_0.length:Int)) (RL.nq (RC.cH lD (RC.ex ?_))))
  exact⟨rfl,ba,bb,us153,o.sp 5 [0,1,2,3,4]⟩
 ·rintro hm ai an s' _ w hk ⟨bk,a0,us116,O,rfl,o⟩ hb
  refine RC.sr (ic ((ai:Int)) ((p0_0.length:Int)) (RL.nq (RC.cG (lC hk) (RC.ss (RC.bs (mv (vi ai) (aK (vi ai) (RL.ns ?_))))))))
  refine mv (vp b0 0) (mv (vi ai) ?_)
  have o:=(o.pull 1).pull 1
  obtain⟨ab,bf,hb⟩:=bd hb
  refine RL.call zt zr EN [(vp b0 0),(vi ai)] zr (aF (f9 N (p1:=(ai:Int)) o bf) ?_)
  rintro _ w ⟨av,rfl,o⟩
  refine aK (vi ab.1) (RL.nq (RC.sr (mv (vi ab.1) (mv (vi ai) (ic ab.1 ((ai:Int)) (RL.nt ?_))))))
  obtain⟨aa,hj,hb⟩:=bd hb
  refine RC.jn (fun(aa: (List (List Int))×(List (Int×Int))) U w=>∃(al:Value) (us124:List RV),SH E V [(0,vp b0 0),(3,al),(4,ao),(5,vi ai),(6,vi ab.1),(12,vi p0_0.length),(13,vi ai)] [bc 176 b0 [av],own 3 av ab.2,mp ao aa.2,own 87 al us124,iY (XS 3 Int) us124 aa.1 none] U w) aa ?_ ?_
  ·refine eI hj (fun hc hj=>?_) fun hc hj=>?_
   rotate_left
   ·refine RC.skip ?_
    obtain rfl:=oi hj
    exact⟨rfl,a0,us116,o.sp 7 [0,1,4,5,6]⟩
   refine RC.sr (mv ao (mv (vi ai) (mv a0 (RL.rk 5 6 an.2.1 o DW ?_))))
   have o:=o.sc Int (an.2.1.length:Int)
   refine RL.mapUpdate 5 0 (ai:Int) o zr zr zr zr zr wJ fun w o=>(RL.nt (RC.region (mv a0 ?_)))
   have o:=(o.cT Int 3).DI (i:=0) rfl
   refine RL.eE ([rv (.slice none 0 0)]:List RV) o [(.slice none 0 0)] xX KB (fun M hs g=>⟨(g.sat 0 _ zr).1,zt⟩) fun bl w o=>?_
   obtain⟨bm,bh,hj⟩:=bd hj
   have o:=o.freeze 0
   refine RL.BC 9 0 10 2 zr o zr zr zr zr zr zr IA bh fun a7 w o=>?_
   refine aK a7 (RL.nil ?_)
   obtain rfl:=oi hj
   exact⟨rfl,a7,(us116++[rv (.slice none 0 0)]),o.sp 11 [4,5,8,9,10]⟩
  rintro _ w ⟨al,us124,O,rfl,o⟩
  refine aG ?_
  obtain⟨bn,ax,hb⟩:=bd hb
  obtain⟨ar,bj,hb⟩:=bd hb
  obtain⟨bo,a1,hb⟩:=bd hb
  refine RC.Ew E V mixed [1,1,1,0,1,1,1,0,0,0,1,0,0,0,0] [11,12,14] (fun(x:Value×Value)=>(fun ak ag=>[(0,29,al),(1,30,ao),(2,31,(vi ab.1)),(3,32,(vi (dM aa.2 ab.1 (0:Int)))),(4,33,al),(5,34,ao),(6,35,(vi ab.1)),(7,36,(vi (dM aa.2 ab.1 (0:Int)))),(8,37,(Bb al (Int.toNat (dM aa.2 ab.1 (0:Int))) 1 0)),(9,38,(us124.getD (Int.toNat (dM aa.2 ab.1 (0:Int))) Bc).v),(10,39,(vi ai)),(11,40,ak),(12,41,ag),(13,42,(Bb al (Int.toNat (dM aa.2 ab.1 (0:Int))) 1 0))]) x.1 x.2) [(0,vp b0 0),(3,al),(4,ao),(5,vi ai),(6,vi ab.1),(12,vi p0_0.length),(13,vi ai)] [] (fun(D:Nat->Bool) (x:Value×Value)=>(fun ak ag=>[bif D 1 then (rd ak ([(ai:Int)]: (List Int))) else (bif D 0 then (own 3 ak ([(ai:Int)]: (List Int))) else aZ),bif D 2 then aZ else (bif D 1 then (own 3 ag ar) else aZ),bc 176 b0 [av],own 3 av ab.2,mp ao aa.2,bif D 2 then (own 87 al (us124.set (Int.toNat (dM aa.2 ab.1 (0:Int))) (rv ag))) else (own 87 al us124),bif D 2 then (iY (XS 3 Int) (us124.set (Int.toNat (dM aa.2 ab.1 (0:Int))) (rv ag)) (aa.1.set (Int.toNat (dM aa.2 ab.1 (0:Int))) ar) none) else (bif D 1 then (iY (XS 3 Int) us124 aa.1 (some (Int.toNat (dM aa.2 ab.1 (0:Int))))) else (iY (XS 3 Int) us124 aa.1 none))]) x.1 x.2) (fun x=>by kernel_rfl) ?_ ⟨fun _=>jt gn,fun _=>jt gn,fun _=>jt gn,?_,fun _=>jt gn,fun _=>jt gn,fun _=>jt gn,?_,?_,?_,fun _=>jt gn,?_,?_,?_,?_,trivial⟩ ?_
  ·have o:=((o.drew).aZ).aZ
   exact⟨(undef,undef),dX.none,(CX zr),zt,o⟩
  ·rintro D U w hD ah ae ⟨⟨ak,ag⟩,hv,ha,_,o⟩
   obtain⟨O,rfl⟩:=(ac (hv.at 1 rfl (ah.1 rfl)) (ac (hv.at 2 rfl (ah.2.1 rfl)) az)).eV
   refine RL.pF 4 ab.1 zt o wJ ?_
   exact RL.nil ⟨rfl,(ak,ag),hv.pu 3,ha.u,zt,o⟩
  ·rintro D U w hD ah ae ⟨⟨ak,ag⟩,hv,ha,_,o⟩
   obtain⟨O,rfl⟩:=(ac (hv.at 5 rfl (ah.1 rfl)) (ac (hv.at 6 rfl (ah.2.1 rfl)) az)).eV
   refine RL.pF 4 ab.1 zt o wJ ?_
   exact RL.nil ⟨rfl,(ak,ag),hv.pu 7,ha.u,zt,o⟩
  ·rintro D U w hD ah ae ⟨⟨ak,ag⟩,hv,ha,_,o⟩
   obtain⟨O,rfl⟩:=(ac (hv.at 4 rfl (ah.1 rfl)) (ac (hv.at 7 rfl (ah.2.1 rfl)) az)).eV
   have o:=((o.cA 5 (nh ae hD 14)).cA 6 (nh ae hD 14)).cA 6 (nf (fun h=>ft hD ((ae 9 _ rfl ((ae 12 _ rfl h).1 rfl)).1 rfl)))
   have hl141:=o.gQ 6
   have hr142:=jU Bc hl141 ax
   refine RL.bG 5 o zr zr xX hr142 ?_
   have o:=(o.eY 5 (D 14) (nh ae hD 14) (own 87 al (us124.set (Int.toNat (dM aa.2 ab.1 (0:Int))) (rv ag)))).eY 6 (D 12) (nf (fun h=>ft hD ((ae 9 _ rfl ((ae 12 _ rfl h).1 rfl)).1 rfl))) (iY (XS 3 Int) us124 aa.1 (some (Int.toNat (dM aa.2 ab.1 (0:Int)))))
   have o:=o.eY 6 (D 14) (nh ae hD 14) (iY (XS 3 Int) (us124.set (Int.toNat (dM aa.2 ab.1 (0:Int))) (rv ag)) (aa.1.set (Int.toNat (dM aa.2 ab.1 (0:Int))) ar) none)
   exact RL.nil ⟨rfl,(ak,ag),hv.pu 8,ha.u,zt,o⟩
  ·rintro D U w hD ah ae ⟨⟨ak,ag⟩,hv,ha,_,o⟩
   obtain⟨O,rfl⟩:=(ac (hv.at 8 rfl (ah.1 rfl)) az).eV
   have o:=((o.cA 5 (nh ae hD 14)).cA 6 (nh ae hD 14)).cA 6 (nh ae hD 12)
   have hl143:=o.gQ 6
   have hr144:=jU Bc hl143 ax
   refine RL.vS 5 6 (dM aa.2 ab.1 (0:Int)) (zq 3 Int) Bc zr o zr (iX 5 o hr144 0) zr zr ax fE ?_
   have o:=(o.eY 5 (D 14) (nh ae hD 14) (own 87 al (us124.set (Int.toNat (dM aa.2 ab.1 (0:Int))) (rv ag)))).eY 6 (D 12) (nh ae hD 12) (iY (XS 3 Int) us124 aa.1 (some (Int.toNat (dM aa.2 ab.1 (0:Int)))))
   have o:=o.eY 6 (D 14) (nh ae hD 14) (iY (XS 3 Int) (us124.set (Int.toNat (dM aa.2 ab.1 (0:Int))) (rv ag)) (aa.1.set (Int.toNat (dM aa.2 ab.1 (0:Int))) ar) none)
   exact RL.nil ⟨rfl,(ak,ag),hv.pu 9,ha.u,zt,o⟩
  ·rintro D U w hD ah ae ⟨⟨ak,ag⟩,hv,ha,_,o⟩
   obtain⟨O,rfl⟩:=(ac (hv.at 10 rfl (ah.1 rfl)) az).eV
   have o:=((o.cA 0 (nh ae hD 12)).cA 0 hD).sc Int (ai:Int)
   refine RL.eE ([(ai:Int)]: (List Int)) o [(vi ai)] dV Ft (fun M hs g=>⟨(g.sat 0 _ zr).1,zt⟩) fun a8 w o=>?_
   have o:=((o.pl 9 [0,3,4,5,6,7,8]).cL 0 true aZ).eY 0 (D 12) (nh ae hD 12) (rd a8 ([(ai:Int)]: (List Int)))
   exact RL.nil ⟨rfl,(a8,ag),hv.pu 11,ha.u,zt,o⟩
  ·rintro D U w hD ah ae ⟨⟨ak,ag⟩,hv,ha,_,o⟩
   obtain⟨O,rfl⟩:=(ac (hv.at 9 rfl (ah.1 rfl)) (ac (hv.at 11 rfl (ah.2.1 rfl)) az)).eV
   have o:=(((((((o.cA 0 hD).cK 0 (ah.2.1 rfl)).cA 1 (nh ae hD 14)).cA 1 hD).cA 5 (nh ae hD 14)).cA 6 (nh ae hD 14)).cA 6 hD).Ah (j:=6) (jj:=(dM aa.2 ab.1 (0:Int))) (zq 3 Int) Bc rfl ax
   have o:=o.freeze 1
   refine RL.app 0 1 o tM bj fun a2 w o=>?_
   have o:=((((o.pl 8 [1,0,3,4,5,6,7]).cL 0 true (bif D 11 then (own 3 ak ([(ai:Int)]: (List Int))) else aZ)).cL 1 true aZ).eY 1 (D 14) (nh ae hD 14) aZ).eY 5 (D 14) (nh ae hD 14) (own 87 al (us124.set (Int.toNat (dM aa.2 ab.1 (0:Int))) (rv a2)))
   have o:=(o.cL 6 true (iY (XS 3 Int) us124 aa.1 none)).eY 6 (D 14) (nh ae hD 14) (iY (XS 3 Int) (us124.set (Int.toNat (dM aa.2 ab.1 (0:Int))) (rv a2)) (aa.1.set (Int.toNat (dM aa.2 ab.1 (0:Int))) ar) none)
   exact RL.nil ⟨rfl,(ak,a2),hv.pu 12,ha.u,zt,o⟩
  ·rintro D U w hD ah ae ⟨⟨ak,ag⟩,hv,ha,_,o⟩
   obtain⟨O,rfl⟩:=(ac (hv.at 0 rfl (ah.1 rfl)) (ac (hv.at 3 rfl (ah.2.1 rfl)) az)).eV
   have o:=((o.cA 5 (nh ae hD 14)).cA 6 (nh ae hD 14)).cK 6 (ah.2.2.2.2.2.2.2.2.2.2.2.2.2.2.1 rfl)
   have hl147:=o.gQ 6
   have hr148:=jU Bc hl147 a1
   refine RL.bG 5 o zr zr xX hr148 ?_
   have o:=(o.eY 5 (D 14) (nh ae hD 14) (own 87 al (us124.set (Int.toNat (dM aa.2 ab.1 (0:Int))) (rv ag)))).cL (hb:=ah.2.2.2.2.2.2.2.2.2.2.2.2.2.2.1 rfl) 6 (D 12) (iY (XS 3 Int) us124 aa.1 none)
   have o:=o.eY 6 (D 14) (nh ae hD 14) (iY (XS 3 Int) (us124.set (Int.toNat (dM aa.2 ab.1 (0:Int))) (rv ag)) (aa.1.set (Int.toNat (dM aa.2 ab.1 (0:Int))) ar) none)
   exact RL.nil ⟨rfl,(ak,ag),hv.pu 13,ha.u,zt,o⟩
  ·rintro D U w hD ah ae ⟨⟨ak,ag⟩,hv,ha,_,o⟩
   obtain⟨O,rfl⟩:=(ac (hv.at 12 rfl (ah.2.1 rfl)) (ac (hv.at 13 rfl (ah.1 rfl)) az)).eV
   have o:=((((o.cA 1 hD).cK 1 (ah.2.1 rfl)).cA 5 hD).cA 6 hD).cK 6 (ah.2.1 rfl)
   have hl149:=o.gQ 6
   have hr150:=jU Bc hl149 a1
   refine RL.tJ 5 6 1 (dM aa.2 ab.1 (0:Int)) (zq 3 Int) Bc o zr zr (iX 5 o hr150 0) zr zr zr a1 fE fun w o=>?_
   have o:=((o.cL 1 true (bif D 12 then (own 3 ag ar) else aZ)).cL 5 true (own 87 al us124)).cL 6 true (bif D 12 then (iY (XS 3 Int) us124 aa.1 (some (Int.toNat (dM aa.2 ab.1 (0:Int))))) else (iY (XS 3 Int) us124 aa.1 none))
   exact RL.nil ⟨rfl,(ak,ag),hv.n1,ha,zt,o⟩
  rintro D U w ay ⟨⟨ak,ag⟩,hv,ha,_,o⟩
  have o:=(((o.cK 0 (jC ay 12)).cK 1 (jC ay 14)).cK 5 (jC ay 14)).cK 6 (jC ay 14)
  obtain⟨O,rfl⟩:=(ac (ha.at 0 rfl) (ac (ha.at 1 rfl) (ac (ha.at 2 rfl) (ac (ha.at 3 rfl) (ac (ha.at 4 rfl) (ac (ha.at 5 rfl) (ac (ha.at 6 rfl) az))))))).eV
  refine bI (aG (RC.region (RL.inc hk hm (mv (vi ((ai+1:Nat):Int)) (RL.nil ?_)))))
  obtain rfl:=oi hb
  exact⟨rfl,av,al,(us124.set (Int.toNat (dM aa.2 ab.1 (0:Int))) (rv ag)),o.sp 7 [2,3,4,5,6]⟩
 rintro _ w ⟨aw,au,us113,O,rfl,o⟩
 refine aG (RC.sr (mv au (aK au (RL.nt (RC.ret ?_)))))
 obtain rfl:=oi hb
 have o:=o.Ai (X:=(XS 3 Int)) (b:=4) (j:=3) rfl (fun M h u x cs=>(Im 3) M h u x cs) rfl rfl (by decide)
 exact cF ⟨au,aw,zr,o.pk 5 [3,0,1]⟩
theorem qY {p0:aI} {p1:eN} {res:Bool} (j:Holds E w V) (h0:V[i0]? =some (rd v0 p0)) (h1:V[i1]? =some (pt v1 p1)) (hb:jX N p0 p1=some res):
    Calls bE 138 [v0,v1].toArray w (gF (aY E V res)):=by
 unfold jX at hb
 refine enter Tryz.func138 zr zr ?_
 have j:=(j.dup (i0+0) h0).xB (i:=i1+1) h1
 refine RC.sr (RL.dB 1 v0 j zr fun ag w j=>?_)
 refine aK (vb false) (RL.nq ?_)
 obtain⟨af,o,hb⟩:=bd hb
 refine RC.jn (fun(af:Bool)=>SH E V [(3,vb af)] []) af ?_ ?_
 ·refine RC.region (RL.iu 1 j zr rA kL fun ah j=>(RL.bH p1.X 0 j cN (RL.bB zr jv (RL.aM 1 j zr eO cN (ic p1.X p0.X0 (mv (vb (decide (p1.X>=p0.X0))) (fU o (fun aa o=>?_) fun aa o=>?_)))))))
  rotate_left
  ·refine bN aa (bN aa (bN aa (bN aa (bN aa (fP aa (vb false) (mv (vb false) (nQ (nQ ?_))))))))
   refine nQ (nQ (nQ (RL.pick false (vb false) zr (mv (vb false) (nQ (nQ (nQ (nQ ?_))))))))
   refine nQ (RL.pick false (vb false) zr (aK (vb false) (RL.nil ?_)))
   obtain rfl:=oi o
   exact⟨rfl,j.sp 4 []⟩
  refine RL.iu (hg:=(cg aa)) 2 j zr rA kL fun ai j=>(RL.bH (hg:=(cg aa)) p1.X 0 j cN (RL.bB (hg:=(cg aa)) zr kO (RL.aM (hg:=(cg aa)) 2 j zr gA cN (RL.jO p1.X p0.X1 (cg aa) (fP aa (vb (decide (p1.X<p0.X1))) (mv (vb (decide (p1.X<p0.X1))) (fU o (fun ab o=>?_) fun ab o=>?_)))))))
  rotate_left
  ·refine bN ab (bN ab (bN ab (bN ab (bN ab (fP ab (vb false) (mv (vb false) (nQ (nQ ?_))))))))
   refine nQ (nQ (nQ (RL.pick false (vb false) zr (aK (vb false) (RL.nil ?_)))))
   obtain rfl:=oi o
   exact⟨rfl,j.sp 5 []⟩
  refine RL.iu (hg:=(cg ab)) 3 j zr po ju fun aj j=>(RL.bH (hg:=(cg ab)) p1.Y 0 j cN (RL.bB (hg:=(cg ab)) zr jY (RL.aM (hg:=(cg ab)) 3 j zr fy cN (RL.jO p1.Y p0.Y0 (cg ab) (fP ab (vb (decide (p1.Y>=p0.Y0))) (mv (vb (decide (p1.Y>=p0.Y0))) (fU o (fun ad o=>?_) fun ad o=>?_)))))))
  ·refine RL.iu (hg:=(cg ad)) 4 j zr po ju fun ak j=>(RL.bH (hg:=(cg ad)) p1.Y 0 j cN (RL.bB (hg:=(cg ad)) zr ou (RL.aM (hg:=(cg ad)) 4 j zr jM cN (RL.jO p1.Y p0.Y1 (cg ad) (fP ad (vb (decide (p1.Y<p0.Y1))) (aK (vb (decide (p1.Y<p0.Y1))) (RL.nil ?_)))))))
   obtain rfl:=oi o
   exact⟨rfl,j.sp 7 []⟩
  refine bN ad (bN ad (bN ad (bN ad (bN ad (fP ad (vb false) (aK (vb false) (RL.nil ?_)))))))
  obtain rfl:=oi o
  exact⟨rfl,j.sp 6 []⟩
 rintro _ w ⟨O,rfl,j⟩
 refine aG (RC.ret ?_)
 obtain rfl:=oi hb
 exact cF ⟨rfl,j.drop 0⟩
theorem oC {p0: (List aI)} {p1:eN} {res:Bool} (j:Holds E w V) (h0:V[i0]? =some (rd v0 p0)) (h1:V[i1]? =some (rd v1 p1)) (o:jc N p0 p1=some res):
    Calls bE 118 [v0,v1].toArray w (gF (aY E V res)):=by
 unfold jc at o
 refine enter Tryz.func118 zr zr ?_
 have j:=(j.dup (i0+0) h0).dup (i1+1) h1
 refine RC.sr (RL.dB 0 v1 j zr fun aa w j=>?_)
 have j:=j.gJ (i:=0) rfl
 refine aK (vb false) (RL.ns (mv v0 (RL.makeFunc [(vp aa 0)] ?_)))
 obtain⟨ab,ad,o⟩:=bd o
 refine RL.call trivial rfl KA [v0,(.func (.func 138) #[] #[(vp aa 0)])] rfl (aF (ky N (i0:=2) j rfl ⟨138,[(vp aa 0)],rfl,KJ,fun w Γl v y0 r i j hi hr=>by exact aF (qY N (i0:=i) (i1:=Γl.length+0) j hi (Ac rfl) hr) fun _ _ h=>h⟩ ad) ?_)
 rintro _ w ⟨rfl,j⟩
 refine aK (vb ab) (RL.nt (RC.ret ?_))
 obtain rfl:=oi o
 exact cF ⟨rfl,j.drop 3⟩
def nc (E:World) (V:List HP) (b0:Nat) (v0_0 v0_1:Value) (v0_2 v0_3:Value) (v0_4 v0_5:Value) (v0_6 v0_7:Value) (v0_8 v0_9:Value) (v0_10 v0_11:Value) (res:dU×Bool) (v:Value) (w:World):Prop:=∃u0:Value,v = .tuple #[u0,(vb res.2)]/\Holds E w ([rd u0 res.1,bc 126 b0 [v0_0,v0_1,v0_2,v0_3,v0_4,v0_5,v0_6,v0_7,v0_8,v0_9,v0_10,v0_11]]++V)
def ng (E:World) (V:List HP) (b0:Nat) (v0_0 v0_1:Value) (v0_2 v0_3:Value) (v0_4 v0_5:Value) (v0_6 v0_7:Value) (v0_8 v0_9:Value) (v0_10 v0_11:Value) (r:dU×Bool) (U:Nat->Value) (w:World):Prop:=ly bE 66 Tryz.f87 (nc E V b0 v0_0 v0_1 v0_2 v0_3 v0_4 v0_5 v0_6 v0_7 v0_8 v0_9 v0_10 v0_11 r) .ret U w
theorem qZ {p0_2: (List bZ)} {p0_5: (List aH)} {p1:cY} {res:dU×Bool} (j:Holds E w (bc 126 b0 [v0_0,v0_1,v0_2,v0_3,v0_4,v0_5,v0_6,v0_7,v0_8,v0_9,v0_10,v0_11]::rd v0_2 p0_2::rd v0_5 p0_5::V)) (h1:V[i1]? =some (rd v1 p1)) (o:iQ N p0_2 p0_5 p1=some res):
    Calls bE 87 [(vp b0 0),v1].toArray w (gF (nc E V b0 v0_0 v0_1 v0_2 v0_3 v0_4 v0_5 v0_6 v0_7 v0_8 v0_9 v0_10 v0_11 res)):=by
 unfold iQ at o
 refine enter Tryz.func87 zr zr ?_
 have j:=j.dup (i1+3) h1
 refine RC.sr (RL.dB 0 v1 j zr fun ah w j=>?_)
 have j:=j.gJ (i:=0) rfl
 refine RL.alloc j HN.z fun ae w j=>?_
 refine aK (vb false) (RL.nq (RC.sr (mv (vp b0 0) (RL.nilCheck zr (RL.bB zr kx (RL.bB zr mT (RL.aX 3 v0_2 j vY (RL.bC 4 p0_2 j xV ?_))))))))
 refine mv (vi 0) (RL.nt ?_)
 obtain⟨bn,hN,o⟩:=bd o
 refine RC.range (fun(af:Nat) (al:Unit)=>SH E V [(0,vp b0 0),(3,vp ah 0),(4,vp ae 0),(14,v0_2),(15,vi p0_2.length),(16,vi af)] [bc 126 b0 [v0_0,v0_1,v0_2,v0_3,v0_4,v0_5,v0_6,v0_7,v0_8,v0_9,v0_10,v0_11],rd v0_2 p0_2,rd v0_5 p0_5,pt (vp ah 0) p1,raw 41 ae 2]) (fun(al:Unit)=>SH E V [(0,vp b0 0),(3,vp ah 0),(4,vp ae 0)] [bc 126 b0 [v0_0,v0_1,v0_2,v0_3,v0_4,v0_5,v0_6,v0_7,v0_8,v0_9,v0_10,v0_11],rd v0_2 p0_2,rd v0_5 p0_5,pt (vp ah 0) p1,raw 41 ae 2]) (ng E V b0 v0_0 v0_1 v0_2 v0_3 v0_4 v0_5 v0_6 v0_7 v0_8 v0_9 v0_10 v0_11) hN ?_ ?_ ?_ ?_ ?_
 ·exact j.sp 6 [3,4,5,1,0]
 ·rintro hm al _ w ⟨O,rfl,j⟩
  refine RC.sr (ic ((p0_2.length:Int)) ((p0_2.length:Int)) (RL.nq (RC.cH lD (RC.ex ?_))))
  exact⟨rfl,j.sp 5 [0,1,2,3,4]⟩
 ·rintro hm af al fl _ w hk ⟨O,rfl,j⟩ o
  refine RC.sr (ic ((af:Int)) ((p0_2.length:Int)) (RL.nq (RC.cG (lC hk) (RC.ss (RC.bs (mv (vi af) ?_))))))
  obtain⟨ax,a0,o⟩:=bd o
  refine RL.bW 1 j Au a0 fun bo j=>(RL.bL 0 ax j lx fun bp j=>(RL.alloc j zD.z fun bq w j=>?_))
  refine aK (vi af) (RL.bA 0 j 1 zr lx fun w j=>?_)
  refine RL.nq ?_
  obtain⟨aq,hj,o⟩:=bd o
  refine RC.jn (fun(aq:Bool)=>SH E V [(0,vp b0 0),(3,vp ah 0),(4,vp ae 0),(6,vi af),(14,v0_2),(15,vi p0_2.length),(16,vi af),(36,vb aq)] [bc 126 b0 [v0_0,v0_1,v0_2,v0_3,v0_4,v0_5,v0_6,v0_7,v0_8,v0_9,v0_10,v0_11],rd v0_2 p0_2,rd v0_5 p0_5,pt (vp ah 0) p1,raw 41 ae 2]) aq ?_ ?_
  ·refine RC.xM mixed [0,0,0,0,0,0,2,0,0,0,2,2,1,1,2,0] [0,1,2,3,4,5,6,7,8,9,12,13,10,11,14,15] ?_
   have j:=j.drew
   refine DP.e0 zr (RL.bB zr xn (cB zr (RL.aM 0 j zr sA ux (cB zr (mv (vb ax.ij) (DP.d0 (fU hj (fun ai hj=>?_) fun ai hj=>?_)))))))
   rotate_left
   ·refine DP.e0 zr (bN ai (cB zr (bN ai (cB zr (bN ai (tL zr (bN ai (xN zr ?_))))))))
    refine fP ai (vb false) (cB zr (mv (vb false) (cB zr (nQ (DP.d0 (DP.e1 undef zr (fun w=>nQ DP.d1) (DP.e1 undef zr (fun w=>nQ DP.d1) (DP.e2 zr ?_))))))))
    refine nQ (HG zr (nQ (HG zr (nQ (xN zr (RL.pick false (vb false) zr (DP.d0 (DP.z ?_))))))))
    obtain rfl:=oi hj
    exact⟨rfl,j.sp 8 [3,4,5,6,7]⟩
   refine DP.e0 zr (RL.aQ (hg:=(cg ai)) (f:=(fun x=>x)) 0 j zr Fd.self lx fun a1 j=>(cB zr (RL.iu (hg:=(cg ai)) 7 j zr C4 vV fun br j=>(cB zr (RL.bH (hg:=(cg ai)) p1.cZ 0 j cN (tL zr ?_))))))
   obtain⟨ay,a2,hj⟩:=bd hj
   refine RL.call (cg ai) zr Jm [a1,(vi p1.cZ)] zr (aF (mA N (p1:=p1.cZ) (i0:=1) j zr a2) ?_)
   rintro _ w ⟨rfl,j⟩
   refine xN zr (fP ai (vb ay) (cB zr (mv (vb ay) (DP.d0 (fU hj (fun ab hj=>?_) fun ab hj=>?_)))))
   rotate_left
   ·refine DP.e0 zr (bN ab (DP.d0 (DP.e1 undef zr (fun w=>bN ab DP.d1) (DP.e1 undef zr (fun w=>bN ab DP.d1) (DP.e2 zr (bN ab (HG zr (bN ab ?_))))))))
    refine HG zr (bN ab (xN zr (fP ab (vb false) (DP.d0 (DP.z ?_)))))
    obtain rfl:=oi hj
    exact⟨rfl,j.sp 10 [5,6,7,8,9]⟩
   refine DP.e0 zr (RL.aQ (hg:=(cg ab)) (f:=(fun x=>x)) 2 j zr Fd.self lx fun a3 j=>(DP.d0 (DP.HH 9 zr zr (cg ab) zr j zr zr C5 vW fun bt j=>(DP.wZ (hg:=(cg ab)) p1.At 0 zr j sU fun a4 a105 bu j=>(DP.e2 zr ?_)))))
   obtain⟨a5,a6,hj⟩:=bd hj
   refine RL.call (cg ab) zr EJ [a3] zr (aF (gN N (i0:=3) j zr a6) ?_)
   rintro a7 w j
   refine DP.d2 (⟨zt,j.kb 1⟩) (DP.e2 zr (RL.eE (hg:=(cg ab)) ([a5]: (List aI)) j [a7] kN mS (fun M hs g=>⟨(g.sat 0 _ zr).1,zt⟩) fun a8 w j=>(DP.d2 (⟨zt,j.kb 2⟩) (DP.e2 zr ?_))))
   have j:=j.freeze 0
   obtain⟨a9,ba,hj⟩:=bd hj
   refine RL.call (cg ab) zr IC [a8,a4] zr (aF (oC N (i0:=0) (i1:=3) j zr zr ba) ?_)
   rintro _ w ⟨rfl,j⟩
   refine DP.d2 (⟨zt,j.kb 2⟩) (DP.e0 zr (fP ab (vb a9) (DP.d0 ?_)))
   have j:=j.pl 16 [0,1,3,4,5,6,7,8,9,10,11,12,13,14,15]
   refine DP.z ?_
   obtain rfl:=oi hj
   exact⟨rfl,j.sp 15 [10,11,12,13,14]⟩
  rintro _ w ⟨O,rfl,j⟩
  refine aG (eI o (fun hc o=>?_) fun hc o=>?_)
  rotate_left
  ·refine RC.skip (bI (aG (RC.region (RL.inc hk hm (mv (vi ((af+1:Nat):Int)) (RL.nil ?_))))))
   obtain rfl:=oi o
   exact⟨rfl,j.sp 5 [0,1,2,3,4]⟩
  refine RC.sr (mv (vi af) ?_)
  have j:=(j.sc Bool true).sc Int (af:Int)
  refine RL.build (⟨true,(af:Int)⟩:dU) trivial rfl j [(0,vb true),(1,vi af)] rfl EO rfl (fun M hs g=>by have h:=xS M;exact cO.cons (f:=fun(x:dU) y=>{x with bZ:=y}) h BV (g.sat 1 _ rfl).1 fun _ h=>cO.cons (f:=fun(x:dU) y=>{x with Number:=y}) h uR (g.sat 0 _ rfl).1 fun _ h=>cO.nil h) fun bw j=>?_
  refine RL.bA 7 j 0 zr rB fun w j=>?_
  refine aK (vb true) (RL.nt (RC.rb (bM ?_)))
  obtain rfl:=oi o
  exact⟨rfl,zn 7 j rB fun bb j=>⟨bb,zr,j.pk 9 [0,4]⟩⟩
 ·intro r U w e hK
  subst e
  refine bM ?_
  obtain rfl:=oi o
  exact hK
 rintro al _ w rfl ⟨O,rfl,j⟩
 rw [Fo.fB] at o
 refine aG (RC.seq (RC.sr (mv (vp b0 0) (RL.nilCheck zr (RL.bB zr lW (RL.aX 0 v0_5 j qN (RL.bC 2 p0_5 j wK (mv (vi 0) ?_))))))))
 refine RL.nt ?_
 obtain⟨bx,hN,o⟩:=bd o
 refine RC.range (fun(ag:Nat) (an:Unit)=>SH E V [(0,vp b0 0),(3,vp ah 0),(4,vp ae 0),(43,v0_5),(44,vi p0_5.length),(45,vi ag)] [bc 126 b0 [v0_0,v0_1,v0_2,v0_3,v0_4,v0_5,v0_6,v0_7,v0_8,v0_9,v0_10,v0_11],rd v0_2 p0_2,rd v0_5 p0_5,pt (vp ah 0) p1,raw 41 ae 2]) (fun(an:Unit)=>SH E V [(0,vp b0 0),(4,vp ae 0)] [bc 126 b0 [v0_0,v0_1,v0_2,v0_3,v0_4,v0_5,v0_6,v0_7,v0_8,v0_9,v0_10,v0_11],rd v0_2 p0_2,rd v0_5 p0_5,pt (vp ah 0) p1,raw 41 ae 2]) (ng E V b0 v0_0 v0_1 v0_2 v0_3 v0_4 v0_5 v0_6 v0_7 v0_8 v0_9 v0_10 v0_11) hN ?_ ?_ ?_ ?_ ?_
 ·exact j.sp 5 [0,1,2,3,4]
 ·rintro hm an _ w ⟨O,rfl,j⟩
  refine RC.sr (ic ((p0_5.length:Int)) ((p0_5.length:Int)) (RL.nq (RC.cH lD (RC.ex ?_))))
  exact⟨rfl,j.sp 5 [0,1,2,3,4]⟩
 ·rintro hm ag an fl _ w hk ⟨O,rfl,j⟩ o
  refine RC.sr (ic ((ag:Int)) ((p0_5.length:Int)) (RL.nq (RC.cG (lC hk) (RC.ss (RC.bs (mv (vi ag) ?_))))))
  obtain⟨av,bf,o⟩:=bd o
  refine RL.bW 2 j zF bf fun bz j=>(RL.bL 0 av j zG fun b1 j=>(RL.alloc j DU.z fun b2 w j=>?_))
  refine aK (vi ag) (RL.bA 0 j 1 zr zG fun w j=>?_)
  refine RL.nq ?_
  obtain⟨aw,hj,o⟩:=bd o
  refine RC.jn (fun(aw:Bool)=>SH E V [(0,vp b0 0),(3,vp ah 0),(4,vp ae 0),(8,vi ag),(43,v0_5),(44,vi p0_5.length),(45,vi ag),(61,vb aw)] [bc 126 b0 [v0_0,v0_1,v0_2,v0_3,v0_4,v0_5,v0_6,v0_7,v0_8,v0_9,v0_10,v0_11],rd v0_2 p0_2,rd v0_5 p0_5,pt (vp ah 0) p1,raw 41 ae 2]) aw ?_ ?_
  ·refine RC.region (RL.bB zr xo (RL.aM 0 j zr kq cN (RL.iu 6 j zr C4 vV fun b3 j=>(RL.bH p1.cZ 0 j cN (ic av.cZ p1.cZ (mv (vb (av.cZ==p1.cZ)) (fU hj (fun ad hj=>?_) fun ad hj=>?_)))))))
   rotate_left
   ·refine bN ad (bN ad (bN ad (bN ad (bN ad (fP ad (vb false) (RL.nil ?_))))))
    obtain rfl:=oi hj
    exact⟨rfl,j.sp 9 [4,5,6,7,8]⟩
   refine RL.bB (hg:=(cg ad)) zr xp (RL.aQ (hg:=(cg ad)) 1 j zr kr xU fun bg j=>(RL.iu (hg:=(cg ad)) 8 j zr C5 vW fun b4 j=>(RL.bL (hg:=(cg ad)) 0 p1.At j sU fun bh j=>?_)))
   obtain⟨bj,bk,hj⟩:=bd hj
   refine RL.call (cg ad) zr IC [bg,bh] zr (aF (oC N (i0:=2) (i1:=0) j zr zr bk) ?_)
   rintro _ w ⟨rfl,j⟩
   refine fP ad (vb bj) (RL.nil ?_)
   obtain rfl:=oi hj
   exact⟨rfl,j.sp 12 [7,8,9,10,11]⟩
  rintro _ w ⟨O,rfl,j⟩
  refine aG (eI o (fun hc o=>?_) fun hc o=>?_)
  rotate_left
  ·refine RC.skip (bI (aG (RC.region (RL.inc hk hm (mv (vi ((ag+1:Nat):Int)) (RL.nil ?_))))))
   obtain rfl:=oi o
   exact⟨rfl,j.sp 5 [0,1,2,3,4]⟩
  refine RC.sr (mv (vi ag) ?_)
  have j:=j.sc Int (ag:Int)
  refine RL.build (⟨false,(ag:Int)⟩:dU) trivial rfl j [(1,vi ag)] rfl EO rfl (fun M hs g=>by have h:=xS M;exact cO.cons (f:=fun(x:dU) y=>{x with Number:=y}) h uR (g.sat 0 _ rfl).1 fun _ h=>cO.nil h) fun b5 j=>?_
  refine RL.bA 6 j 0 zr rB fun w j=>?_
  refine aK (vb true) (RL.nt (RC.rb (bM ?_)))
  obtain rfl:=oi o
  exact⟨rfl,zn 6 j rB fun bl j=>⟨bl,zr,j.pk 8 [0,3]⟩⟩
 ·intro r U w e hK
  subst e
  refine bM ?_
  obtain rfl:=oi o
  exact hK
 rintro an _ w rfl ⟨O,rfl,j⟩
 rw [Fo.fB] at o
 refine aG (RC.sr (RL.build (⟨false,0⟩:dU) trivial rfl j [] rfl EO rfl (fun M hs g=>by have h:=xS M;exact cO.nil h) fun b6 j=>?_))
 refine RL.bA 5 j 0 zr rB fun w j=>?_
 refine aK (vb false) (RL.nt (RC.ret ?_))
 obtain rfl:=oi o
 exact zn 5 j rB fun bm j=>⟨bm,zr,j.pk 7 [0,2]⟩
theorem oD {p0_8: (List Int)} {p0_9: (List Int)} {p1:dU} (j:Holds E w (bc 126 b0 [v0_0,v0_1,v0_2,v0_3,v0_4,v0_5,v0_6,v0_7,v0_8,v0_9,v0_10,v0_11]::rd v0_8 p0_8::rd v0_9 p0_9::V)) (h1:V[i1]? =some (rd v1 p1)) (o:fY N p0_8 p0_9 p1=some res):
    Calls bE 88 [(vp b0 0),v1].toArray w (gF (i7 E V b0 v0_0 v0_1 v0_2 v0_3 v0_4 v0_5 v0_6 v0_7 v0_8 v0_9 v0_10 v0_11 res)):=by
 unfold fY at o
 refine enter Tryz.func88 zr zr ?_
 have j:=j.dup (i1+3) h1
 refine RC.sr (RL.dB 0 v1 j zr fun ag w j=>?_)
 refine aK (vi 0) (RL.nq (RC.sr (RL.bB zr C6 (RL.aM 0 j zr xR ux (RL.nt (eI o (fun hc o=>?_) fun hc o=>?_))))))
 ·refine RC.seq (RC.uK mixed ?_)
  have j:=j.drew
  refine RO.go (mv (vp b0 0) (RO.nx (RL.nilCheck zr (RO.nx (RL.bB zr uV (RO.nx (RL.aX 2 v0_9 j fE (RO.nx ?_))))))))
  refine RL.bB zr tN (RO.nx (RL.aM 0 j zr ot cN (RO.nx ?_)))
  obtain⟨aa,ae,o⟩:=bd o
  refine RL.bW 4 j dV ae fun ah j=>(RO.nx (RL.bH aa 0 j cN (RO.nx (aK (vi aa) (RO.last (aG (RC.rt ?_)))))))
  obtain rfl:=oi o
  exact cF ⟨rfl,j.pk 6 [3]⟩
 refine RC.ss (RC.uK mixed ?_)
 have j:=j.drew
 refine RO.go (mv (vp b0 0) (RO.nx (RL.nilCheck zr (RO.nx (RL.bB zr sF (RO.nx (RL.aX 2 v0_8 j fE (RO.nx ?_))))))))
 refine RL.bB zr tN (RO.nx (RL.aM 0 j zr ot cN (RO.nx ?_)))
 obtain⟨ab,af,o⟩:=bd o
 refine RL.bW 3 j dV af fun ai j=>(RO.nx (RL.bH ab 0 j cN (RO.nx (aK (vi ab) (RO.last (aG (RC.ret ?_)))))))
 obtain rfl:=oi o
 exact cF ⟨rfl,j.pk 6 [3]⟩
end Go.Gk
