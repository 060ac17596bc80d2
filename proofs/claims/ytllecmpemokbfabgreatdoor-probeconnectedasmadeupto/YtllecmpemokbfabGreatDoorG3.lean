/-
  Printed texts: Go functions as plain functions, and that they are. No statement of the seed is proved here.
-/
import Derived.Test.YtllecmpemokbfabGreatDoorG1
import Derived.Test.YtllecmpemokbfabGreatDoorG2
import Derived.Test.YtllecmpemokbfabGreatDoorA2
set_option linter.unusedVariables false
set_option linter.unusedSimpArgs false
set_option linter.unusedSectionVars false
set_option maxRecDepth 100000
set_option maxHeartbeats 4000000
namespace Go.Gk
open Go Go.Proofs
variable (N:Nat) {E w:World} {b0 b1 i0 i1:Nat} {p0 p1 p2 res:Int} {v0 v0_0 v0_1 v0_10 v0_11 v0_2 v0_3 v0_4 v0_5 v0_6 v0_7 v0_8 v0_9 v1 v1_0 v2:Value} {V:List HP}
theorem kX {p0:bU} {res:Bool} (j:Holds E w V) (h0:V[i0]? =some (rd v0 p0)) (hb:iG N p0 p1=some res):
    Calls bC 41 [v0,(vi p1)].toArray w (gE (bB E V res)):=by
 unfold iG at hb
 refine enter Tryz.func41 zr zr ?_
 have j:=j.dup (i0+0) h0
 refine RC.sr (RL.dC 0 v0 j zr fun o w j=>?_)
 refine aP (vb false) (RL.ns (RL.bA zr ra (RL.aM 0 j zr lk cE (mv (vi p1) (ic p0.cK p1 (mv (vb (decide (p0.cK<=p1))) (RL.gs true (decide (p0.cK<=p1)) (vi p1) zr zr zr dD (RL.gs true (decide (p0.cK<=p1)) (vp o 4) zr zr zr (dI tp) ?_))))))))
 refine RL.gs true (decide (p0.cK<=p1)) (vi p0.To) rfl rfl rfl (bQ 0 rfl j (fun h=>by exact(cI h:cv (true&&((decide (p0.cK<=p1))==true)) (vp o 4)= (vp o 4))) rfl mg cE) (RL.gs true (decide (p0.cK<=p1)) (vb (decide (p1<=p0.To))) rfl rfl rfl (dT .leq .i64 p1 p0.To rfl (fun h=>by exact(cI h:cv (true&&((decide (p0.cK<=p1))==true)) (vi p1)= (vi p1))) (fun h=>by exact(cI h:cv (true&&((decide (p0.cK<=p1))==true)) (vi p0.To)= (vi p0.To))) rfl) (RL.pick (decide (p0.cK<=p1)) (vb ((decide (p0.cK<=p1))&&(decide (p1<=p0.To)))) (gG true) (aP (vb ((decide (p0.cK<=p1))&&(decide (p1<=p0.To)))) (RL.nt (RC.ret ?_)))))
 obtain rfl:=oi hb
 exact cB ⟨rfl,j.drop 2⟩
def uT (E:World) (V:List HP) (res: (List Int)×Int) (v:Value) (w:World):Prop:=∃u0:Value,v = .tuple #[u0,(vi res.2)]/\Holds E w ([rd u0 res.1]++V)
theorem oK {p0: (List aA)} {res: (List Int)×Int} (j:Holds E w V) (h0:V[i0]? =some (rd v0 p0)) (o:jX N p0 p1 p2=some res):
    Calls bC 85 [v0,(vi p1),(vi p2)].toArray w (gE (uT E V res)):=by
 unfold jX at o
 refine enter Tryz.func85 zr zr ?_
 have j:=j.dup (i0+0) h0
 refine RC.sr (aP (.slice none 0 0) (aP (vi 0) (RL.nq (RC.bs (mv v0 (RL.bF 0 p0 j qA (ic ((p0.length:Int)) 0 (aP (vb ((p0.length:Int)==0)) ?_))))))))
 refine RL.nt (fE o (fun hc o=>?_) fun hc o=>?_)
 ·refine RC.sr (mv (vi p2) (aP (.slice none 0 0) (aP (vi p2) (RL.nt (RC.rb (bZ ?_))))))
  obtain rfl:=oi o
  have j:=j.te Int
  exact nZ ⟨(.slice none 0 0),zr,j.pk 2 [0]⟩
 refine RC.sr (mv (vi p1) (mv v0 ?_))
 obtain⟨ae,ag,o⟩:=bd o
 refine RL.cF 0 j lR ag fun al j=>(RL.iw 0 j zr l8 eN fun an j=>(RL.bH ae.Y0 0 j cE (ic p1 ae.Y0 (aP (vb (decide (p1<ae.Y0))) (RL.nt (fE o (fun hc o=>?_) fun hc o=>?_))))))
 ·refine RC.seq (RC.wg mixed ?_)
  have j:=j.drew
  refine RO.go (mv (vi p2) (RO.nx (mv v0 (RO.nx ?_))))
  obtain⟨aa,ah,o⟩:=bd o
  refine RL.cF 2 j lR ah fun ao j=>(RO.nx (RL.iw 0 j zr l8 eN fun aq j=>(RO.nx (RL.bH aa.Y0 0 j cE (RO.nx (RL.min p2 aa.Y0 (RO.nx (aP (.slice none 0 0) ?_))))))))
  refine RO.nx (aP (vi (if aa.Y0<p2 then aa.Y0 else p2)) (RO.last (aG (RC.rb (bZ ?_)))))
  obtain rfl:=oi o
  have j:=j.te Int
  exact nZ ⟨(.slice none 0 0),zr,j.pk 6 [0]⟩
 refine RC.skip (bT (aG (RC.seq (RC.wg mixed ?_))))
 have j:=j.drew
 refine RO.go (mv v0 (RO.nx ?_))
 obtain⟨ai,aj,o⟩:=bd o
 refine RL.cF 2 j lR aj fun ar j=>(RO.nx (RL.iw 0 j zr jm cN fun au j=>(RO.nx (RL.bY 0 ai.Xs j eJ fun af j=>(RO.nx (mv (vi p2) (RO.nx (mv v0 ?_))))))))
 refine RO.nx ?_
 obtain⟨ab,ak,o⟩:=bd o
 refine RL.cF 5 j lR ak fun av j=>(RO.nx (RL.iw 0 j zr kr dM fun aw j=>(RO.nx (RL.bH ab.Y1 0 j cE (RO.nx (RL.min p2 ab.Y1 (RO.nx (aP af ?_))))))))
 refine RO.nx (aP (vi (if ab.Y1<p2 then ab.Y1 else p2)) (RO.last (aG (RC.ret ?_))))
 obtain rfl:=oi o
 exact nZ ⟨af,zr,j.pk 8 [2]⟩
theorem vM {p0: (List Int)} {p1: (List Int)} {p2:Bool->Bool->Option Bool} {res: (List Int)} (j:Holds E w V) (h0:V[i0]? =some (rd v0 p0)) (h1:V[i1]? =some (rd v1 p1)) (h2:D4 bC E V v2 p2 (fun(r:Bool)=>Value.bool r)) (hb:mo N p0 p1 p2=some res):
    Calls bC 86 [v0,v1,v2].toArray w (gE (jF E V res)):=by
 unfold mo at hb
 refine enter Tryz.func86 zr zr ?_
 have j:=(j.dup (i0+0) h0).dup (i1+1) h1
 refine RC.sr (aP (.slice none 0 0) (RL.ns (aP (.slice none 0 0) (RL.ns (aP (vb false) (aP (vb false) (aP (vb false) (RL.nq ?_))))))))
 obtain⟨bu,hN,hb⟩:=bd hb
 refine RC.iter (fun(o: (List Int)×(List Int)×(List Int)×Bool×Bool×Bool) U w=>∃a7 a8 a9:Value,SH E V [(0,a7),(1,a8),(2,v2),(7,a9),(8,vb o.2.2.2.1),(9,vb o.2.2.2.2.1),(10,vb o.2.2.2.2.2)] [rd a7 o.1,rd a8 o.2.1,own 3 a9 o.2.2.1] U w) (fun(o: (List Int)×(List Int)×(List Int)×Bool×Bool×Bool) U w=>∃av:Value,SH E V [(7,av)] [own 3 av o.2.2.1] U w) (fun(r:Empty) _ _=>r.elim) hN ?_ ?_ ?_ ?_
 ·have j:=j.dP Int 3
  exact⟨v0,v1,(.slice none 0 0),j.sp 3 [2,1,0]⟩
 ·rintro o fl _ w ⟨ah,ad,ae,O,rfl,j⟩ hb
  refine RC.seq (RC.seq ?_)
  obtain⟨a1,hj,hb⟩:=bd hb
  refine RC.jn (fun(a1:Bool)=>SH E V [(0,ah),(1,ad),(2,v2),(7,ae),(8,vb o.2.2.2.1),(9,vb o.2.2.2.2.1),(10,vb o.2.2.2.2.2),(20,vb a1)] [rd ah o.1,rd ad o.2.1,own 3 ae o.2.2.1]) a1 ?_ ?_
  ·refine RC.region (mv ah (RL.bF 0 o.1 j ln (ic ((o.1.length:Int)) 0 (mv (vb (decide ((o.1.length:Int)>0))) (gC hj (fun ao hj=>?_) fun ao hj=>?_)))))
   ·refine bV ao (bV ao (bV ao (gF ao (vb true) (RL.nil ?_))))
    obtain rfl:=oi hj
    exact⟨rfl,j.sp 3 [0,1,2]⟩
   refine RL.move ad (cg ao) (RL.bF (hg:=(cg ao)) 1 o.2.1 j ln (RL.kz (o.2.1.length:Int) 0 (cg ao) (gF ao (vb (decide ((o.2.1.length:Int)>0))) (RL.nil ?_))))
   obtain rfl:=oi hj
   exact⟨rfl,j.sp 3 [0,1,2]⟩
  rintro _ w ⟨O,rfl,j⟩
  refine aG (fE hb (fun hc hb=>?_) fun hc hb=>?_)
  rotate_left
  ·refine RC.ex ?_
   obtain rfl:=oi hb
   exact⟨rfl,ae,j.sp 3 [2]⟩
  refine RC.sn (RC.bs (aP (vi 0) (RL.nq (RC.seq ?_))))
  obtain⟨a2,hj,hb⟩:=bd hb
  refine RC.jn (fun(a2:Bool)=>SH E V [(0,ah),(1,ad),(2,v2),(7,ae),(8,vb o.2.2.2.1),(9,vb o.2.2.2.2.1),(10,vb o.2.2.2.2.2),(37,vb a2)] [rd ah o.1,rd ad o.2.1,own 3 ae o.2.2.1]) a2 ?_ ?_
  ·refine RC.wg mixed ?_
   have j:=j.drew
   refine RO.go (mv ad (RO.nx (RL.bF 1 o.2.1 j ln (RO.nx (ic ((o.2.1.length:Int)) 0 (RO.nx (mv (vb ((o.2.1.length:Int)==0)) (gC hj (fun ai hj=>?_) fun ai hj=>?_))))))))
   ·refine RO.nx (bV ai (RO.nx (bV ai (RO.nx (bV ai (RO.nx (bV ai (RO.nx ?_))))))))
    refine zc (RO.nx (zc (RO.nx (zc (RO.nx (zc (RO.nx (zc ?_))))))))
    refine RO.nx (zc (RO.nx (zc (RO.nx (bV ai (RO.nx (gF ai (vb true) (RO.last ?_))))))))
    obtain rfl:=oi hj
    exact⟨rfl,j.sp 3 [0,1,2]⟩
   refine RO.nx (RL.move ah (cg ai) (RO.nx (RL.bF (hg:=(cg ai)) 0 o.1 j ln (RO.nx (RL.kz (o.1.length:Int) 0 (cg ai) (RO.nx (RL.move (vb (decide ((o.1.length:Int)>0))) (cg ai) (gC hj (fun af hj=>?_) fun af hj=>?_))))))))
   rotate_left
   ·refine RO.nx (bV af (RO.nx (bV af (RO.nx (bV af (RO.nx (bV af (RO.nx ?_))))))))
    refine bV af (RO.nx (bV af (RO.nx (bV af (RO.nx (gF af (vb false) (hg:=(cg ai)) (RO.nx (gF ai (vb false) ?_))))))))
    refine RO.last ?_
    obtain rfl:=oi hj
    exact⟨rfl,j.sp 3 [0,1,2]⟩
   refine RO.nx (RL.move ah (cg af) (RO.nx ?_))
   obtain⟨ax,bj,hj⟩:=bd hj
   refine RL.cF (hg:=(cg af)) 0 j eC bj fun bx j=>(RO.nx (RL.bH (hg:=(cg af)) ax 0 j cE (RO.nx (RL.move ad (cg af) (RO.nx ?_)))))
   obtain⟨ay,bk,hj⟩:=bd hj
   refine RL.cF (hg:=(cg af)) 2 j eC bk fun bz j=>(RO.nx (RL.bH (hg:=(cg af)) ay 0 j cE (RO.nx (RL.kz ax ay (cg af) (RO.nx (gF af (vb (decide (ax<=ay))) (hg:=(cg ai)) (RO.nx (gF ai (vb (decide (ax<=ay))) ?_))))))))
   refine RO.last ?_
   obtain rfl:=oi hj
   exact⟨rfl,j.sp 5 [2,3,4]⟩
  rintro _ w ⟨O,rfl,j⟩
  refine aG ?_
  obtain⟨ag,hj,hb⟩:=bd hb
  refine RC.jn (fun(ag:Int)=>SH E V [(0,ah),(1,ad),(2,v2),(7,ae),(8,vb o.2.2.2.1),(9,vb o.2.2.2.2.1),(10,vb o.2.2.2.2.2),(11,vi ag)] [rd ah o.1,rd ad o.2.1,own 3 ae o.2.2.1]) ag ?_ ?_
  ·refine fE hj (fun hc hj=>?_) fun hc hj=>?_
   ·refine RC.region (mv ah ?_)
    obtain⟨ba,bl,hj⟩:=bd hj
    refine RL.cF 0 j eC bl fun b0 j=>(RL.bH ba 0 j cE (aP (vi ba) (RL.nil ?_)))
    obtain rfl:=oi hj
    exact⟨rfl,j.sp 4 [1,2,3]⟩
   refine RC.region (mv ad ?_)
   obtain⟨bb,bm,hj⟩:=bd hj
   refine RL.cF 1 j eC bm fun b1 j=>(RL.bH bb 0 j cE (aP (vi bb) (RL.nil ?_)))
   obtain rfl:=oi hj
   exact⟨rfl,j.sp 4 [1,2,3]⟩
  rintro _ w ⟨O,rfl,j⟩
  refine aG (RC.seq (RC.seq ?_))
  obtain⟨a3,hj,hb⟩:=bd hb
  refine RC.jn (fun(a3:Bool)=>SH E V [(0,ah),(1,ad),(2,v2),(7,ae),(8,vb o.2.2.2.1),(9,vb o.2.2.2.2.1),(10,vb o.2.2.2.2.2),(11,vi ag),(53,vb a3)] [rd ah o.1,rd ad o.2.1,own 3 ae o.2.2.1]) a3 ?_ ?_
  ·refine RC.region (mv ah (RL.bF 0 o.1 j ln (ic ((o.1.length:Int)) 0 (mv (vb (decide ((o.1.length:Int)>0))) (gC hj (fun aj hj=>?_) fun aj hj=>?_)))))
   rotate_left
   ·refine bV aj (bV aj (bV aj (bV aj (bV aj (gF aj (vb false) (RL.nil ?_))))))
    obtain rfl:=oi hj
    exact⟨rfl,j.sp 3 [0,1,2]⟩
   refine RL.move ah (cg aj) ?_
   obtain⟨a4,bn,hj⟩:=bd hj
   refine RL.cF (hg:=(cg aj)) 0 j eC bn fun b2 j=>(RL.bH (hg:=(cg aj)) a4 0 j cE (RL.move (vi ag) (cg aj) (RL.kz a4 ag (cg aj) (gF aj (vb (a4==ag)) (RL.nil ?_)))))
   obtain rfl:=oi hj
   exact⟨rfl,j.sp 4 [1,2,3]⟩
  rintro _ w ⟨O,rfl,j⟩
  refine aG ?_
  obtain⟨al,hj,hb⟩:=bd hb
  refine RC.jn (fun(al: (List Int)×Bool) U w=>∃an:Value,SH E V [(0,an),(1,ad),(2,v2),(7,ae),(8,vb al.2),(9,vb o.2.2.2.2.1),(10,vb o.2.2.2.2.2),(11,vi ag)] [rd ad o.2.1,own 3 ae o.2.2.1,rd an al.1] U w) al ?_ ?_
  ·refine fE hj (fun hc hj=>?_) fun hc hj=>?_
   rotate_left
   ·refine RC.skip ?_
    obtain rfl:=oi hj
    exact⟨rfl,ah,j.sp 3 [1,2,0]⟩
   refine RC.region (mv ah ?_)
   obtain⟨b3,bo,hj⟩:=bd hj
   refine RL.cut 0 j eC (.inr ⟨rfl,zr⟩) bo fun bc j=>(mv (vb o.2.2.2.1) (RL.not o.2.2.2.1 (aP bc (aP (vb (!o.2.2.2.1)) (RL.nil ?_)))))
   obtain rfl:=oi hj
   exact⟨rfl,bc,j.sp 4 [2,3,0]⟩
  rintro _ w ⟨an,O,rfl,j⟩
  refine aG (RC.seq (RC.seq ?_))
  obtain⟨a5,hj,hb⟩:=bd hb
  refine RC.jn (fun(a5:Bool)=>SH E V [(0,an),(1,ad),(2,v2),(7,ae),(8,vb al.2),(9,vb o.2.2.2.2.1),(10,vb o.2.2.2.2.2),(11,vi ag),(67,vb a5)] [rd an al.1,rd ad o.2.1,own 3 ae o.2.2.1]) a5 ?_ ?_
  ·refine RC.region (mv ad (RL.bF 0 o.2.1 j ln (ic ((o.2.1.length:Int)) 0 (mv (vb (decide ((o.2.1.length:Int)>0))) (gC hj (fun ak hj=>?_) fun ak hj=>?_)))))
   rotate_left
   ·refine bV ak (bV ak (bV ak (bV ak (bV ak (gF ak (vb false) (RL.nil ?_))))))
    obtain rfl:=oi hj
    exact⟨rfl,j.sp 3 [2,0,1]⟩
   refine RL.move ad (cg ak) ?_
   obtain⟨a6,bp,hj⟩:=bd hj
   refine RL.cF (hg:=(cg ak)) 0 j eC bp fun b4 j=>(RL.bH (hg:=(cg ak)) a6 0 j cE (RL.move (vi ag) (cg ak) (RL.kz a6 ag (cg ak) (gF ak (vb (a6==ag)) (RL.nil ?_)))))
   obtain rfl:=oi hj
   exact⟨rfl,j.sp 4 [3,1,2]⟩
  rintro _ w ⟨O,rfl,j⟩
  refine aG ?_
  obtain⟨ar,hj,hb⟩:=bd hb
  refine RC.jn (fun(ar: (List Int)×Bool) U w=>∃au:Value,SH E V [(0,an),(1,au),(2,v2),(7,ae),(8,vb al.2),(9,vb ar.2),(10,vb o.2.2.2.2.2),(11,vi ag)] [rd an al.1,own 3 ae o.2.2.1,rd au ar.1] U w) ar ?_ ?_
  ·refine fE hj (fun hc hj=>?_) fun hc hj=>?_
   rotate_left
   ·refine RC.skip ?_
    obtain rfl:=oi hj
    exact⟨rfl,ad,j.sp 3 [0,2,1]⟩
   refine RC.region (mv ad ?_)
   obtain⟨b5,bq,hj⟩:=bd hj
   refine RL.cut 1 j eC (.inr ⟨rfl,zr⟩) bq fun bf j=>(mv (vb o.2.2.2.2.1) (RL.not o.2.2.2.2.1 (aP bf (aP (vb (!o.2.2.2.2.1)) (RL.nil ?_)))))
   obtain rfl:=oi hj
   exact⟨rfl,bf,j.sp 4 [1,3,0]⟩
  rintro _ w ⟨au,O,rfl,j⟩
  refine aG (RC.sr (mv v2 (mv (vb al.2) (mv (vb ar.2) ?_))))
  have j:=(j.sc Bool al.2).sc Bool ar.2
  obtain⟨aw,br,hb⟩:=bd hb
  refine RL.yY 1 0 zt zr j zr h2 5 zr zr zr zr zr br fun w j=>(aP (vb aw) (RL.ns (mv (vb aw) (mv (vb o.2.2.2.2.2) (RL.C1 (a:=aw) (b:=o.2.2.2.2.2) zt zr zr zr Ft (RL.nt ?_))))))
  obtain⟨az,hj,hb⟩:=bd hb
  refine RC.jn (fun(az: (List Int)×Bool) U w=>∃a0:Value,SH E V [(0,an),(1,au),(2,v2),(7,a0),(8,vb al.2),(9,vb ar.2),(10,vb az.2)] [rd an al.1,rd au ar.1,own 3 a0 az.1] U w) az ?_ ?_
  ·refine fE hj (fun hc hj=>?_) fun hc hj=>?_
   rotate_left
   ·refine RC.skip ?_
    obtain rfl:=oi hj
    exact⟨rfl,ae,j.sp 5 [2,4,3]⟩
   refine RC.region (mv ae (mv (vi ag) ?_))
   have j:=j.sc Int ag
   refine RL.fy ([ag]: (List Int)) j [(vi ag)] eC BW (fun M hs g=>⟨(g.sat 0 _ zr).1,zt⟩) fun b6 w j=>?_
   have j:=j.freeze 0
   obtain⟨b7,bt,hj⟩:=bd hj
   refine RL.app 5 0 j r7 bt fun bg w j=>?_
   refine mv (vb aw) (aP bg (aP (vb aw) (RL.nil ?_)))
   obtain rfl:=oi hj
   exact⟨rfl,bg,j.sp 7 [4,6,5]⟩
  rintro _ w ⟨a0,O,rfl,j⟩
  refine bT ?_
  obtain rfl:=oi hb
  exact⟨rfl,an,au,a0,j.sp 3 [0,1,2]⟩
 ·intro r _ _ _ _
  exact r.elim
 rintro o _ w rfl ⟨av,O,rfl,j⟩
 rw [Fo.gm] at hb
 refine aG (RC.sr (mv av (aP av (RL.nt (RC.ret ?_)))))
 obtain rfl:=oi hb
 exact cB (j.pk 1 [0])
theorem uU {p0: (List aA)} {p1: (List aA)} {p2:Bool->Bool->Option Bool} {res: (List aA)} (j:Holds E w V) (h0:V[i0]? =some (rd v0 p0)) (h1:V[i1]? =some (rd v1 p1)) (h2:D4 bC E V v2 p2 (fun(r:Bool)=>Value.bool r)) (o:lE N p0 p1 p2=some res):
    Calls bC 69 [v0,v1,v2].toArray w (gE (jY E V res)):=by
 unfold lE at o
 refine enter Tryz.func69 zr zr ?_
 have j:=(j.dup (i0+0) h0).dup (i1+1) h1
 refine RC.sr (aP (.slice none 0 0) (RL.ns (aP (.slice none 0 0) (RL.nq (RC.sr (mv v0 (RL.bF 1 p0 j qA (mv v1 ?_))))))))
 refine RL.bF 0 p1 j qA (RL.jq (p0.length:Int) (p1.length:Int) (ic ((IntKind.wrap .i64 ((p0.length:Int)+ (p1.length:Int)))) 0 (RL.nt (fE o (fun hc o=>?_) fun hc o=>?_))))
 ·refine RC.sr (aP (.slice none 0 0) (RL.nt (RC.rt ?_)))
  obtain rfl:=oi o
  have j:=j.dP aA 121
  exact cB (j.pk 3 [0])
 refine RC.sx (aP (vi 0) (aP (vi 0) (RL.nq (RC.sr (mv v0 (mv v1 (RL.fy ([p0,p1]: (List (List aA))) j [v0,v1] B5 Eo (fun M hs g=>⟨(g.sat 1 _ zr).1,⟨(g.sat 0 _ zr).1,zt⟩⟩) fun ar w j=>(RL.fQ 0 ([p0,p1]: (List (List aA))) j Fm ?_))))))))
 refine mv (vi 0) (RL.nt ?_)
 obtain⟨ad,hN,o⟩:=bd o
 refine RC.fold (fun(aj:Nat) (ad:Int×Int)=>SH E V [(0,v0),(1,v1),(2,v2),(7,(.slice none 0 0)),(8,vi ad.1),(9,vi ad.2),(25,ar),(26,(vi ((([p0,p1]: (List (List aA))).length:Nat):Int))),(27,vi aj)] [rd v0 p0,rd v1 p1,own 85 ar ([p0,p1]: (List (List aA)))]) (fun(ad:Int×Int)=>SH E V [(0,v0),(1,v1),(2,v2),(7,(.slice none 0 0)),(8,vi ad.1),(9,vi ad.2)] [rd v0 p0,rd v1 p1,own 85 ar ([p0,p1]: (List (List aA)))]) hN ?_ ?_ ?_ ?_
 ·exact j.sp 3 [2,1,0]
 ·rintro hm ad _ w ⟨O,rfl,j⟩
  refine RC.sr (ic (((([p0,p1]: (List (List aA))).length:Nat):Int)) (((([p0,p1]: (List (List aA))).length:Nat):Int)) (RL.nq (RC.cY nb (RC.ex ?_))))
  exact⟨rfl,j.sp 3 [0,1,2]⟩
 ·rintro hm aj ad s' _ w hk ⟨O,rfl,j⟩ o
  refine RC.sr (ic ((aj:Int)) (((([p0,p1]: (List (List aA))).length:Nat):Int)) (RL.nq (RC.cX (na hk) (RC.ss (RC.bs (mv (vi aj) ?_))))))
  obtain⟨aw,a8,o⟩:=bd o
  refine RL.bK 2 j zr zr B5 a8 (RL.kp (f:=(fun x=>x)) 2 j (jl 2 j a8 0) (aV a8).2.1 Fd.self Fp fun ak j=>?_)
  refine aP (vi aj) (aP ak (RL.ns (mv ak (RL.bF 0 aw j qA (ic ((aw.length:Int)) 0 (RL.nt ?_))))))
  obtain⟨a5,hj,o⟩:=bd o
  refine RC.jn (fun(a5:Int×Int)=>SH E V [(0,v0),(1,v1),(2,v2),(7,(.slice none 0 0)),(8,vi a5.1),(9,vi a5.2),(25,ar),(26,(vi ((([p0,p1]: (List (List aA))).length:Nat):Int))),(27,vi aj)] [rd v0 p0,rd v1 p1,own 85 ar ([p0,p1]: (List (List aA)))]) a5 ?_ ?_
  ·refine fE hj (fun hc hj=>?_) fun hc hj=>?_
   rotate_left
   ·refine RC.skip ?_
    obtain rfl:=oi hj
    exact⟨rfl,j.sp 4 [1,2,3]⟩
   refine RC.seq (RC.seq ?_)
   obtain⟨a9,hjj,hj⟩:=bd hj
   refine RC.jn (fun(a9:Bool)=>SH E V [(0,v0),(1,v1),(2,v2),(7,(.slice none 0 0)),(8,vi ad.1),(9,vi ad.2),(11,ak),(25,ar),(26,(vi ((([p0,p1]: (List (List aA))).length:Nat):Int))),(27,vi aj),(41,vb a9)] [rd v0 p0,rd v1 p1,rd ak aw,own 85 ar ([p0,p1]: (List (List aA)))]) a9 ?_ ?_
   ·refine RC.region (mv (vi aj) (ic ((aj:Int)) 0 (mv (vb ((aj:Int)==0)) (gC hjj (fun au hjj=>?_) fun au hjj=>?_))))
    ·refine bV au (bV au (bV au (gF au (vb true) (RL.nil ?_))))
     obtain rfl:=oi hjj
     exact⟨rfl,j.sp 4 [1,2,0,3]⟩
    refine RL.move v0 (cg au) (RL.bF (hg:=(cg au)) 1 p0 j qA (RL.kz (p0.length:Int) 0 (cg au) (gF au (vb ((p0.length:Int)==0)) (RL.nil ?_))))
    obtain rfl:=oi hjj
    exact⟨rfl,j.sp 4 [1,2,0,3]⟩
   rintro _ w ⟨O,rfl,j⟩
   refine aG ?_
   obtain⟨al,hjj,hj⟩:=bd hj
   refine RC.jn (fun(al:Int×Int)=>SH E V [(0,v0),(1,v1),(2,v2),(7,(.slice none 0 0)),(8,vi al.1),(9,vi al.2),(11,ak),(25,ar),(26,(vi ((([p0,p1]: (List (List aA))).length:Nat):Int))),(27,vi aj)] [rd v0 p0,rd v1 p1,rd ak aw,own 85 ar ([p0,p1]: (List (List aA)))]) al ?_ ?_
   ·refine fE hjj (fun hc hjj=>?_) fun hc hjj=>?_
    rotate_left
    ·refine RC.skip ?_
     obtain rfl:=oi hjj
     exact⟨rfl,j.sp 4 [0,1,2,3]⟩
    refine RC.wg mixed ?_
    have j:=j.drew
    refine RO.go (mv ak (RO.nx ?_))
    obtain⟨bj,bw,hjj⟩:=bd hjj
    refine RL.cF 2 j lR bw fun cd j=>(RO.nx (RL.iw 0 j zr l8 eN fun cf j=>(RO.nx (RL.bH bj.Y0 0 j cE (RO.nx (mv ak (RO.nx (mv ak ?_))))))))
    refine RO.nx (RL.bF 4 aw j qA (RO.nx (RL.jq (aw.length:Int) 1 (RO.nx ?_))))
    obtain⟨bk,bx,hjj⟩:=bd hjj
    refine RL.cF 4 j lR bx fun ch j=>(RO.nx (RL.iw 0 j zr kr dM fun cj j=>(RO.nx (RL.bH bk.Y1 0 j cE (RO.nx (aP (vi bj.Y0) (RO.nx (aP (vi bk.Y1) ?_))))))))
    refine RO.last ?_
    obtain rfl:=oi hjj
    exact⟨rfl,j.sp 8 [4,5,6,7]⟩
   rintro _ w ⟨O,rfl,j⟩
   refine aG (RC.wg mixed ?_)
   have j:=j.drew
   refine RO.go (mv (vi al.1) (RO.nx (mv ak (RO.nx ?_))))
   obtain⟨a6,bz,hj⟩:=bd hj
   refine RL.cF 2 j lR bz fun ck j=>(RO.nx (RL.iw 0 j zr l8 eN fun cl j=>(RO.nx (RL.bH a6.Y0 0 j cE (RO.nx (RL.min al.1 a6.Y0 (RO.nx (mv (vi al.2) ?_))))))))
   refine RO.nx (mv ak (RO.nx (mv ak (RO.nx (RL.bF 4 aw j qA (RO.nx (RL.jq (aw.length:Int) 1 (RO.nx ?_))))))))
   obtain⟨a7,b0,hj⟩:=bd hj
   refine RL.cF 4 j lR b0 fun cm j=>(RO.nx (RL.iw 0 j zr kr dM fun cn j=>(RO.nx (RL.bH a7.Y1 0 j cE (RO.nx (RL.max al.2 a7.Y1 (RO.nx (aP (vi (if a6.Y0<al.1 then a6.Y0 else al.1)) ?_))))))))
   refine RO.nx (aP (vi (if al.2<a7.Y1 then a7.Y1 else al.2)) (RO.last ?_))
   obtain rfl:=oi hj
   exact⟨rfl,j.sp 8 [4,5,7]⟩
  rintro _ w ⟨O,rfl,j⟩
  refine bT (aG (RC.region (RL.inc hk hm (mv (vi ((aj+1:Nat):Int)) (RL.nil ?_)))))
  obtain rfl:=oi o
  exact⟨rfl,j.sp 3 [0,1,2]⟩
 rintro _ w ⟨O,rfl,j⟩
 refine aG (RC.seq ?_)
 obtain⟨cp,hN,o⟩:=bd o
 refine RC.iter (fun(aa: (List aA)×(List aA)×(List aA)×Int) U w=>∃bl bm bn:Value,SH E V [(0,bl),(1,bm),(2,v2),(7,bn),(8,vi aa.2.2.2),(9,vi ad.2)] [rd bl aa.1,rd bm aa.2.1,own 121 bn aa.2.2.1] U w) (fun(aa: (List aA)×(List aA)×(List aA)×Int) U w=>∃a2:Value,SH E V [(7,a2)] [own 121 a2 aa.2.2.1] U w) (fun(r:Empty) _ _=>r.elim) hN ?_ ?_ ?_ ?_
 ·have j:=j.dP aA 121
  exact⟨v0,v1,(.slice none 0 0),j.sp 4 [1,2,0]⟩
 ·rintro aa fl _ w ⟨b1,ay,ag,O,rfl,j⟩ o
  refine RC.seq (RC.sr (mv (vi aa.2.2.2) (mv (vi ad.2) (ic aa.2.2.2 ad.2 (RL.nt (fE o (fun hc o=>?_) fun hc o=>?_))))))
  rotate_left
  ·refine RC.ex ?_
   obtain rfl:=oi o
   exact⟨rfl,ag,j.sp 3 [2]⟩
  refine RC.sn (RC.block (RC.seq ?_))
  obtain⟨cq,hN,o⟩:=bd o
  refine RC.iter (fun(an: (List aA)) U w=>∃bp:Value,SH E V [(0,bp),(1,ay),(2,v2),(7,ag),(8,vi aa.2.2.2),(9,vi ad.2)] [rd ay aa.2.1,own 121 ag aa.2.2.1,rd bp an] U w) (fun(an: (List aA)) U w=>∃ao:Value,SH E V [(0,ao),(1,ay),(2,v2),(7,ag),(8,vi aa.2.2.2),(9,vi ad.2)] [rd ay aa.2.1,own 121 ag aa.2.2.1,rd ao an] U w) (fun(r:Empty) _ _=>r.elim) hN ?_ ?_ ?_ ?_
  ·exact⟨b1,j.sp 3 [1,2,0]⟩
  ·rintro an fl _ w ⟨az,O,rfl,j⟩ o
   refine RC.seq (RC.seq ?_)
   obtain⟨ba,hj,o⟩:=bd o
   refine RC.jn (fun(ba:Bool)=>SH E V [(0,az),(1,ay),(2,v2),(7,ag),(8,vi aa.2.2.2),(9,vi ad.2),(82,vb ba)] [rd az an,rd ay aa.2.1,own 121 ag aa.2.2.1]) ba ?_ ?_
   ·refine RC.region (mv az (RL.bF 2 an j qA (ic ((an.length:Int)) 0 (mv (vb (decide ((an.length:Int)>0))) (gC hj (fun ah hj=>?_) fun ah hj=>?_)))))
    rotate_left
    ·refine bV ah (bV ah (bV ah (bV ah (bV ah (bV ah (gF ah (vb false) (RL.nil ?_)))))))
     obtain rfl:=oi hj
     exact⟨rfl,j.sp 3 [2,0,1]⟩
    refine RL.move az (cg ah) ?_
    obtain⟨bb,b2,hj⟩:=bd hj
    refine RL.cF (hg:=(cg ah)) 2 j lR b2 fun cr j=>(RL.iw (hg:=(cg ah)) 0 j zr kr dM fun ct j=>(RL.bH (hg:=(cg ah)) bb.Y1 0 j cE (RL.move (vi aa.2.2.2) (cg ah) (RL.kz bb.Y1 aa.2.2.2 (cg ah) (gF ah (vb (decide (bb.Y1<=aa.2.2.2))) (RL.nil ?_))))))
    obtain rfl:=oi hj
    exact⟨rfl,j.sp 5 [4,2,3]⟩
   rintro _ w ⟨O,rfl,j⟩
   refine aG (fE o (fun hc o=>?_) fun hc o=>?_)
   rotate_left
   ·refine RC.ex ?_
    obtain rfl:=oi o
    exact⟨rfl,az,j.sp 3 [1,2,0]⟩
   refine RC.sn (RC.block (RC.region (mv az ?_)))
   obtain⟨cu,b3,o⟩:=bd o
   refine RL.cut 0 j lR (.inr ⟨rfl,zr⟩) b3 fun bq j=>(aP bq (RL.nil (bT ?_)))
   obtain rfl:=oi o
   exact⟨rfl,bq,j.sp 4 [2,3,0]⟩
  ·intro r _ _ _ _
   exact r.elim
  rintro an _ w rfl ⟨ao,O,rfl,j⟩
  rw [Fo.gm] at o
  refine aG (RC.seq ?_)
  obtain⟨cv,hN,o⟩:=bd o
  refine RC.iter (fun(av: (List aA)) U w=>∃br:Value,SH E V [(0,ao),(1,br),(2,v2),(7,ag),(8,vi aa.2.2.2),(9,vi ad.2)] [rd ao an,own 121 ag aa.2.2.1,rd br av] U w) (fun(av: (List aA)) U w=>∃a0:Value,SH E V [(0,ao),(1,a0),(2,v2),(7,ag),(8,vi aa.2.2.2),(9,vi ad.2)] [rd ao an,own 121 ag aa.2.2.1,rd a0 av] U w) (fun(r:Empty) _ _=>r.elim) hN ?_ ?_ ?_ ?_
  ·exact⟨ay,j.sp 3 [2,1,0]⟩
  ·rintro av fl _ w ⟨a1,O,rfl,j⟩ o
   refine RC.seq (RC.seq ?_)
   obtain⟨bc,hj,o⟩:=bd o
   refine RC.jn (fun(bc:Bool)=>SH E V [(0,ao),(1,a1),(2,v2),(7,ag),(8,vi aa.2.2.2),(9,vi ad.2),(95,vb bc)] [rd ao an,rd a1 av,own 121 ag aa.2.2.1]) bc ?_ ?_
   ·refine RC.region (mv a1 (RL.bF 2 av j qA (ic ((av.length:Int)) 0 (mv (vb (decide ((av.length:Int)>0))) (gC hj (fun ai hj=>?_) fun ai hj=>?_)))))
    rotate_left
    ·refine bV ai (bV ai (bV ai (bV ai (bV ai (bV ai (gF ai (vb false) (RL.nil ?_)))))))
     obtain rfl:=oi hj
     exact⟨rfl,j.sp 3 [0,2,1]⟩
    refine RL.move a1 (cg ai) ?_
    obtain⟨bf,b4,hj⟩:=bd hj
    refine RL.cF (hg:=(cg ai)) 2 j lR b4 fun cw j=>(RL.iw (hg:=(cg ai)) 0 j zr kr dM fun cx j=>(RL.bH (hg:=(cg ai)) bf.Y1 0 j cE (RL.move (vi aa.2.2.2) (cg ai) (RL.kz bf.Y1 aa.2.2.2 (cg ai) (gF ai (vb (decide (bf.Y1<=aa.2.2.2))) (RL.nil ?_))))))
    obtain rfl:=oi hj
    exact⟨rfl,j.sp 5 [2,4,3]⟩
   rintro _ w ⟨O,rfl,j⟩
   refine aG (fE o (fun hc o=>?_) fun hc o=>?_)
   rotate_left
   ·refine RC.ex ?_
    obtain rfl:=oi o
    exact⟨rfl,a1,j.sp 3 [0,2,1]⟩
   refine RC.sn (RC.block (RC.region (mv a1 ?_)))
   obtain⟨cy,b5,o⟩:=bd o
   refine RL.cut 1 j lR (.inr ⟨rfl,zr⟩) b5 fun bt j=>(aP bt (RL.nil (bT ?_)))
   obtain rfl:=oi o
   exact⟨rfl,bt,j.sp 4 [1,3,0]⟩
  ·intro r _ _ _ _
   exact r.elim
  rintro av _ w rfl ⟨a0,O,rfl,j⟩
  rw [Fo.gm] at o
  refine aG (RC.sr (mv ao (mv (vi aa.2.2.2) (mv (vi ad.2) ?_))))
  obtain⟨ae,b6,o⟩:=bd o
  refine RL.call zt zr Fq [ao,(vi aa.2.2.2),(vi ad.2)] zr (aF (oK N (p1:=aa.2.2.2) (p2:=ad.2) (i0:=0) j zr b6) ?_)
  rintro _ w ⟨a3,rfl,j⟩
  refine mv (.tuple #[a3,(vi ae.2)]) (RL.extract a3 (RL.extract (vi ae.2) (aP a3 (aP (vi ae.2) (RL.ns (mv a0 (mv (vi aa.2.2.2) (mv (vi ad.2) ?_))))))))
  obtain⟨af,b7,o⟩:=bd o
  refine RL.call zt zr Fq [a0,(vi aa.2.2.2),(vi ad.2)] zr (aF (oK N (p1:=aa.2.2.2) (p2:=ad.2) (i0:=3) j zr b7) ?_)
  rintro _ w ⟨a4,rfl,j⟩
  refine mv (.tuple #[a4,(vi af.2)]) (RL.extract a4 (RL.extract (vi af.2) (aP a4 (aP (vi af.2) (RL.ns (mv (vi ae.2) (mv (vi af.2) (RL.min ae.2 af.2 ?_))))))))
  refine aP (vi (if af.2<ae.2 then af.2 else ae.2)) (RL.ns (mv ag (mv (vi aa.2.2.2) (mv (vi (if af.2<ae.2 then af.2 else ae.2)) (mv a3 (mv a4 (mv v2 ?_)))))))
  obtain⟨b8,b9,o⟩:=bd o
  refine RL.call zt zr G2 [a3,a4,v2] zr (aF (vM N (i0:=1) (i1:=0) j zr zr (h2.lift 5 zr) b9) ?_)
  rintro ca w j
  have j:=((j.sc Int aa.2.2.2).sc Int (if af.2<ae.2 then af.2 else ae.2)).freeze 2
  refine RL.build (⟨aa.2.2.2,(if af.2<ae.2 then af.2 else ae.2),b8⟩:aA) trivial rfl j [(0,vi aa.2.2.2),(1,(vi (if af.2<ae.2 then af.2 else ae.2))),(2,ca)] rfl DK rfl (fun M hs g=>by have h:=rZ M;exact dA.cons (f:=fun(x:aA) y=>{x with Y0:=y}) h oH (g.sat 1 _ rfl).1 fun _ h=>dA.cons (f:=fun(x:aA) y=>{x with Y1:=y}) h lQ (g.sat 0 _ rfl).1 fun _ h=>dA.cons (f:=fun(x:aA) y=>{x with Xs:=y}) h oI (g.sat 2 _ rfl).1 fun _ h=>dA.nil h) fun cb j=>?_
  have j:=j.pull 7
  obtain⟨cz,cc,o⟩:=bd o
  refine RL.call zt zr E6 [ag,cb] zr (aF (mZ N (i1:=0) j zr cc) ?_)
  rintro bu w j
  refine aP bu (RL.nt (RC.region (mv (vi (if af.2<ae.2 then af.2 else ae.2)) (aP (vi (if af.2<ae.2 then af.2 else ae.2)) (RL.nil (bT ?_))))))
  obtain rfl:=oi o
  exact⟨rfl,ao,a0,bu,j.sp 10 [7,9,0]⟩
 ·intro r _ _ _ _
  exact r.elim
 rintro aa _ w rfl ⟨a2,O,rfl,j⟩
 rw [Fo.gm] at o
 refine aG (RC.sr (mv a2 (aP a2 (RL.nt (RC.ret ?_)))))
 obtain rfl:=oi o
 exact cB (j.pk 1 [0])
theorem pA {p0 p1 res:Bool} (o:Holds E w V) (j:kT N p0 p1=some res):
    Calls bC 70 [(vb p0),(vb p1)].toArray w (gE (bB E V res)):=by
 unfold kT at j
 refine enter Tryz.func70 rfl rfl (RC.sr (aP (vb false) (RL.ns (mv (vb p0) (mv (vb p0) (RL.gs true p0 (vb p1) rfl rfl rfl dD (RL.gs true p0 (vb (!p1)) rfl rfl rfl (D1 (b:=p1) rfl (fun h=>by exact(cI h:cv (true&&(p0==true)) (vb p1)= (vb p1)))) (RL.pick p0 (vb (p0&&(!p1))) (gG true) ?_))))))))
 refine aP (vb (p0&&(!p1))) (RL.nt (RC.ret ?_))
 obtain rfl:=oi j
 exact cB ⟨rfl,o.drop 0⟩
theorem su {p0: (List aA)} {p1: (List aA)} {res: (List aA)} (o:Holds E w V) (h0:V[i0]? =some (rd v0 p0)) (h1:V[i1]? =some (rd v1 p1)) (hb:iH N p0 p1=some res):
    Calls bC 42 [v0,v1].toArray w (gE (jY E V res)):=by
 unfold iH at hb
 refine enter Tryz.func42 zr zr ?_
 have o:=(o.dup (i0+0) h0).dup (i1+1) h1
 refine RC.sr (aP (.slice none 0 0) (RL.ns (mv v0 (mv v1 ?_))))
 obtain⟨af,ab,hb⟩:=bd hb
 refine RL.call trivial rfl G4 [v0,v1,(.func (.func 70) #[] #[])] rfl (aF (uU N (i0:=1) (i1:=0) o rfl rfl ⟨70,[],rfl,G3,fun w Γl v v' y0 y1 r i j o hi hj hr=>by obtain rfl:=o.xI (γ:=Bool) hi;obtain rfl:=o.xI (γ:=Bool) hj;exact aF (pA N (p0:=y0) (p1:=y1) o hr) fun _ _ h=>h⟩ ab) ?_)
 rintro ae w o
 refine aP ae (RL.nt (RC.ret ?_))
 obtain rfl:=oi hb
 exact cB (o.pk 3 [0])
theorem sw {p0: (List aA)} (j:Holds E w V) (h0:V[i0]? =some (rd v0 p0)) (hb:jB N p0=some res):
    Calls bC 43 [v0].toArray w (gE (aO E V res)):=by
 unfold jB at hb
 refine enter Tryz.func43 zr zr ?_
 have j:=j.dup (i0+0) h0
 refine RC.sr (aP (vi 0) (RL.ns (aP (vi 0) (RL.nq (RC.sr (mv v0 (RL.bF 0 p0 j qA (mv (vi 0) ?_))))))))
 refine RL.nt ?_
 obtain⟨o,hN,hb⟩:=bd hb
 refine RC.fold (fun(ad:Nat) (o:Int)=>SH E V [(3,vi o),(6,v0),(7,vi p0.length),(8,vi ad)] [rd v0 p0]) (fun(o:Int)=>SH E V [(3,vi o)] [rd v0 p0]) hN ?_ ?_ ?_ ?_
 ·exact j.sp 1 [0]
 ·rintro hm o _ w ⟨O,rfl,j⟩
  refine RC.sr (ic ((p0.length:Int)) ((p0.length:Int)) (RL.nq (RC.cY nb (RC.ex ?_))))
  exact⟨rfl,j.sp 1 [0]⟩
 ·rintro hm ad o s' _ w hk ⟨O,rfl,j⟩ hb
  refine RC.sr (ic ((ad:Int)) ((p0.length:Int)) (RL.nq (RC.cX (na hk) (RC.ss (RC.bs ?_)))))
  obtain⟨ab,ah,hb⟩:=bd hb
  refine RL.cF 0 j lR ah fun ai j=>(RL.bY 0 ab j r8 fun aj j=>(RL.alloc j yj.z fun ak w j=>?_))
  refine RL.bJ 0 j 1 zr r8 fun w j=>?_
  refine RL.nt (RC.region (mv (vi o) (RL.bA zr jm (RL.aZ 0 j zr cN eJ fun al j=>(RL.bF 0 ab.Xs j ln (RL.quo (ab.Xs.length:Int) 2 zr zr zr zr (RL.jq o (IntKind.wrap .i64 (Int.tdiv (ab.Xs.length:Int) 2)) (aP (vi (IntKind.wrap .i64 (o+ (IntKind.wrap .i64 (Int.tdiv (ab.Xs.length:Int) 2))))) ?_))))))))
  refine RL.nil (bT (aG (RC.region (RL.inc hk hm (mv (vi ((ad+1:Nat):Int)) (RL.nil ?_))))))
  obtain rfl:=oi hb
  exact⟨rfl,j.sp 5 [4]⟩
 rintro _ w ⟨O,rfl,j⟩
 refine aG (RC.sr (mv (vi o) (aP (vi o) (RL.nt (RC.ret ?_)))))
 obtain rfl:=oi hb
 exact cB ⟨rfl,j.drop 1⟩
def pB (E:World) (V:List HP) (b1:Nat) (res:Int×(List Int)) (v:Value) (w:World):Prop:=∃u1_0:Value,v= (vi res.1)/\Holds E w ([bc 43 b1 [u1_0],own 3 u1_0 res.2]++V)
theorem ji {p1_0: (List Int)} {res:Int×(List Int)} (j:Holds E w (bc 43 b1 [v1_0]::own 3 v1_0 p1_0::V)) (o:dK N p0 p1_0=some res):
    Calls bC 71 [(vi p0),(vp b1 0)].toArray w (gE (pB E V b1 res)):=by
 unfold dK at o
 refine enter Tryz.func71 zr zr (RC.sr (aP (vi 0) (RL.nq ?_)))
 obtain⟨an,hN,o⟩:=bd o
 refine RC.iter (fun(aa:Int×(List Int))=>SH E V [(0,vi aa.1),(1,vp b1 0)] [bc 43 b1 [v1_0],own 3 v1_0 aa.2]) (fun(aa:Int×(List Int))=>SH E V [(0,vi aa.1),(1,vp b1 0)] [bc 43 b1 [v1_0],own 3 v1_0 aa.2]) (fun(r:Empty) _ _=>r.elim) hN ?_ ?_ ?_ ?_
 ·exact j.sp 2 [0,1]
 ·rintro aa fl _ w ⟨O,rfl,j⟩ o
  refine RC.seq (RC.sr (RL.aX 0 v1_0 j eJ (mv (vi aa.1) ?_)))
  obtain⟨ai,ab,o⟩:=bd o
  refine RL.bK 1 j zr zr eC ab (RL.cV (f:=(fun x=>x)) 1 j (jl 1 j ab 0) (aV ab).2.1 Fd.self cE (mv (vi aa.1) (ic ai aa.1 (RL.nt (fE o (fun hc o=>?_) fun hc o=>?_)))))
  rotate_left
  ·refine RC.ex ?_
   obtain rfl:=oi o
   exact⟨rfl,j.sp 2 [0,1]⟩
  refine RC.sn (RC.block (RC.seq (RC.ye mixed [0,0,0,0,0,0,0,0,0,0,2] [0,1,2,3,4,5,6,7,8,9,10] ?_)))
  have j:=j.drew
  refine DP.e0 zr (RL.aX 0 v1_0 j eJ (cJ zr (mv (vi aa.1) (cJ zr (RL.aX 0 v1_0 j eJ (cJ zr (RL.aX 0 v1_0 j eJ (cJ zr ?_))))))))
  refine mv (vi aa.1) (cJ zr ?_)
  obtain⟨aq,ad,o⟩:=bd o
  refine RL.bK 1 j zr zr eC ad (cJ zr (RL.cV (f:=(fun x=>x)) 1 j (jl 1 j ad 0) (aV ad).2.1 Fd.self cE (cJ zr ?_)))
  obtain⟨ak,ae,o⟩:=bd o
  refine RL.bK 1 j zr zr eC ae (cJ zr (RL.cV (f:=(fun x=>x)) 1 j (jl 1 j ae 0) (aV ae).2.1 Fd.self cE (cJ zr ?_)))
  obtain⟨ar,af,o⟩:=bd o
  refine RL.bK 1 j zr zr eC af (uF zr ?_)
  have j:=j.sc Int ak
  refine RL.fJ (f:=(fun _ y=>y)) 2 0 j (jl 2 j af 0) (aV af).2.1 zr Fs.self cE fun w j=>?_
  refine DP.d2 zt (DP.z (aG (RC.region (RL.aX 1 v1_0 j eJ (mv (vi aa.1) ?_)))))
  obtain⟨al,ag,o⟩:=bd o
  refine RL.bK 2 j zr zr eC ag (RL.cV (f:=(fun x=>x)) 2 j (jl 2 j ag 0) (aV ag).2.1 Fd.self cE (aP (vi al) (RL.nil (bT ?_))))
  obtain rfl:=oi o
  exact⟨rfl,j.sp 3 [1,2]⟩
 ·intro r _ _ _ _
  exact r.elim
 rintro aa _ w rfl ⟨O,rfl,j⟩
 rw [Fo.gm] at o
 refine aG (RC.sr (mv (vi aa.1) (aP (vi aa.1) (RL.nt (RC.ret ?_)))))
 obtain rfl:=oi o
 exact cB ⟨v1_0,zr,j.pk 2 [0,1]⟩
def sA (E:World) (V:List HP) (res: (List (List aA))) (v:Value) (w:World):Prop:=Holds E w ([own 85 v res]++V)
theorem rn {p0: (List aA)} {res: (List (List aA))} (o:Holds E w V) (h0:V[i0]? =some (rd v0 p0)) (hb:i6 N p0=some res):
    Calls bC 44 [v0].toArray w (gE (sA E V res)):=by
 unfold i6 at hb
 refine enter Tryz.func44 zr zr ?_
 have o:=o.dup (i0+0) h0
 refine RC.sr (aP (.slice none 0 0) (RL.ns (mv v0 ?_)))
 obtain⟨ao,c6,hb⟩:=bd hb
 refine RL.call zt zr Ek [v0] zr (aF (kB N (i0:=0) o zr c6) ?_)
 rintro ag w o
 refine aP ag (RL.ns (mv ag (RL.fQ 0 ao o pg ?_)))
 obtain⟨bm,c7,hb⟩:=bd hb
 refine RL.mk (ao.length:Int) o r7 EJ c7 fun a9 w o=>?_
 refine RL.o4 zr o E4 zr fun af w o=>?_
 refine RL.gH 0 a9 o zr zr (hL 1 o) eJ fun w o=>?_
 refine RL.nq (RC.sr (RL.aX 0 a9 o eJ (RL.fQ 1 bm o ln (mv (vi 0) (RL.nt ?_)))))
 obtain⟨bj,hN,hb⟩:=bd hb
 refine RC.fold (fun(a7:Nat) (bj: (List Int))=>SH E V [(0,v0),(3,ag),(4,vp af 0),(32,vi bm.length),(33,vi a7)] [rd v0 p0,own 46 ag ao,bc 43 af [a9],own 3 a9 bj]) (fun(bj: (List Int))=>SH E V [(0,v0),(3,ag),(4,vp af 0)] [rd v0 p0,own 46 ag ao,bc 43 af [a9],own 3 a9 bj]) hN ?_ ?_ ?_ ?_
 ·exact o.sp 4 [3,2,0,1]
 ·rintro hm bj _ w ⟨O,rfl,o⟩
  refine RC.sr (ic ((bm.length:Int)) ((bm.length:Int)) (RL.nq (RC.cY nb (RC.ex ?_))))
  exact⟨rfl,o.sp 4 [0,1,2,3]⟩
 ·rintro hm a7 bj s' _ w hk ⟨O,rfl,o⟩ hb
  refine RC.sr (ic ((a7:Int)) ((bm.length:Int)) (RL.nq (RC.cX (na hk) (RC.ss (RC.bs (mv (vi a7) (aP (vi a7) (RL.nt ?_))))))))
  refine RC.region (RL.aX 2 a9 o eJ (mv (vi a7) (mv (vi a7) ?_)))
  obtain⟨dt,ca,hb⟩:=bd hb
  refine RL.bK 3 o zr zr eC ca ?_
  have o:=o.sc Int (a7:Int)
  refine RL.fJ (f:=(fun _ y=>y)) 4 0 o (jl 4 o ca 0) (aV ca).2.1 zr Fs.self cE fun w o=>?_
  refine RL.nil (bT (aG (RC.region (RL.inc hk hm (mv (vi ((a7+1:Nat):Int)) (RL.nil ?_))))))
  obtain rfl:=oi hb
  exact⟨rfl,o.sp 5 [1,2,3,4]⟩
 rintro _ w ⟨O,rfl,o⟩
 refine aG (RC.sr (RL.makeFunc [(vp af 0)] (aP (.func (.func 71) #[] #[(vp af 0)]) (RL.ns (aP (vi 0) (aP (vi 0) (RL.nq (RC.sr ?_))))))))
 refine mv v0 (RL.bF 0 p0 o qA (mv (vi 0) (RL.nt ?_)))
 obtain⟨ab,hN,hb⟩:=bd hb
 refine RC.fold (fun(ax:Nat) (ab: (List Int)×Int×Int) U w=>∃cr:Value,SH E V [(0,v0),(3,ag),(4,vp af 0),(6,(.func (.func 71) #[] #[(vp af 0)])),(7,vi ab.2.1),(8,vi ab.2.2),(42,v0),(43,vi p0.length),(44,vi ax)] [rd v0 p0,own 46 ag ao,bc 43 af [cr],own 3 cr ab.1] U w) (fun(ab: (List Int)×Int×Int) U w=>∃bq:Value,SH E V [(3,ag),(6,(.func (.func 71) #[] #[(vp af 0)]))] [rd v0 p0,own 46 ag ao,bc 43 af [bq],own 3 bq ab.1] U w) hN ?_ ?_ ?_ ?_
 ·exact⟨a9,o.sp 4 [0,1,2,3]⟩
 ·rintro hm ab _ w ⟨c8,O,rfl,o⟩
  refine RC.sr (ic ((p0.length:Int)) ((p0.length:Int)) (RL.nq (RC.cY nb (RC.ex ?_))))
  exact⟨rfl,c8,o.sp 4 [0,1,2,3]⟩
 ·rintro hm ax ab s' _ w hk ⟨br,O,rfl,o⟩ hb
  refine RC.sr (ic ((ax:Int)) ((p0.length:Int)) (RL.nq (RC.cX (na hk) (RC.ss (RC.bs (mv (vi ax) ?_))))))
  obtain⟨al,c9,hb⟩:=bd hb
  refine RL.cF 0 o lR c9 fun du o=>(RL.bY 0 al o r8 fun dv o=>(RL.alloc o yj.z fun dw w o=>?_))
  refine aP (vi ax) (RL.bJ 0 o 1 zr r8 fun w o=>?_)
  refine RL.ns (RL.bA zr jm (RL.aZ 0 o zr cN eJ fun dx o=>(RL.bF 0 al.Xs o ln (RL.quo (al.Xs.length:Int) 2 zr zr zr zr (aP (vi (IntKind.wrap .i64 (Int.tdiv (al.Xs.length:Int) 2))) (RL.nq (RC.seq ?_)))))))
  obtain⟨cb,hj,hb⟩:=bd hb
  refine RC.jn (fun(cb:Bool)=>SH E V [(0,v0),(3,ag),(4,vp af 0),(6,(.func (.func 71) #[] #[(vp af 0)])),(7,vi ab.2.1),(8,vi ab.2.2),(11,(vi (IntKind.wrap .i64 (Int.tdiv (al.Xs.length:Int) 2)))),(42,v0),(43,vi p0.length),(44,vi ax),(65,vb cb)] [rd v0 p0,own 46 ag ao,bc 43 af [br],own 3 br ab.1]) cb ?_ ?_
  ·refine RC.wg mixed ?_
   have o:=o.drew
   refine RO.go (mv (vi ax) (RO.nx (ic ((ax:Int)) 0 (RO.nx (mv (vb (decide ((ax:Int)>0))) (gC hj (fun av hj=>?_) fun av hj=>?_))))))
   rotate_left
   ·refine RO.nx (bV av (RO.nx (bV av (RO.nx (bV av (RO.nx (bV av (RO.nx ?_))))))))
    refine bV av (RO.nx (bV av (RO.nx (bV av (RO.nx (bV av (RO.nx (bV av ?_))))))))
    refine RO.nx (gF av (vb false) (RO.last ?_))
    obtain rfl:=oi hj
    exact⟨rfl,o.sp 8 [4,5,6,7]⟩
   refine RO.nx (RL.move v0 (cg av) (RO.nx (RL.move (vi ax) (cg av) (RO.nx (RL.jq (hg:=(cg av)) (ax:Int) 1 (RO.nx ?_))))))
   obtain⟨cc,da,hj⟩:=bd hj
   refine RL.cF (hg:=(cg av)) 4 o lR da fun dy o=>(RO.nx (RL.iw (hg:=(cg av)) 0 o zr kr dM fun dz o=>(RO.nx (RL.bH (hg:=(cg av)) cc.Y1 0 o cE (RO.nx (RL.bA (hg:=(cg av)) zr l8 (RO.nx (RL.aM (hg:=(cg av)) 3 o zr eN cE ?_))))))))
   refine RO.nx (RL.kz cc.Y1 al.Y0 (cg av) (RO.nx (gF av (vb (cc.Y1==al.Y0)) (RO.last ?_))))
   obtain rfl:=oi hj
   exact⟨rfl,o.sp 10 [6,7,8,9]⟩
  rintro _ w ⟨O,rfl,o⟩
  refine aG ?_
  obtain⟨cd,hj,hb⟩:=bd hb
  refine RC.jn (fun(cd: (List Int)) U w=>∃bt:Value,SH E V [(0,v0),(3,ag),(4,vp af 0),(6,(.func (.func 71) #[] #[(vp af 0)])),(7,vi ab.2.1),(11,(vi (IntKind.wrap .i64 (Int.tdiv (al.Xs.length:Int) 2)))),(42,v0),(43,vi p0.length),(44,vi ax)] [rd v0 p0,own 46 ag ao,bc 43 af [bt],own 3 bt cd] U w) cd ?_ ?_
  ·refine fE hj (fun hc hj=>?_) fun hc hj=>?_
   rotate_left
   ·refine RC.skip ?_
    obtain rfl:=oi hj
    exact⟨rfl,br,o.sp 4 [0,1,2,3]⟩
   refine RC.sr (mv (vi ab.2.2) (mv (vi ab.2.1) (aP (vi ab.2.2) (aP (vi ab.2.1) (RL.nt ?_)))))
   obtain⟨d0,hN,hj⟩:=bd hj
   refine RC.iter (fun(ad: (List Int)×Int×Int) U w=>∃ct:Value,SH E V [(0,v0),(3,ag),(4,vp af 0),(6,(.func (.func 71) #[] #[(vp af 0)])),(7,vi ab.2.1),(11,(vi (IntKind.wrap .i64 (Int.tdiv (al.Xs.length:Int) 2)))),(12,vi ad.2.1),(13,vi ad.2.2),(42,v0),(43,vi p0.length),(44,vi ax)] [rd v0 p0,own 46 ag ao,bc 43 af [ct],own 3 ct ad.1] U w) (fun(ad: (List Int)×Int×Int) U w=>∃bu:Value,SH E V [(0,v0),(3,ag),(4,vp af 0),(6,(.func (.func 71) #[] #[(vp af 0)])),(7,vi ab.2.1),(11,(vi (IntKind.wrap .i64 (Int.tdiv (al.Xs.length:Int) 2)))),(42,v0),(43,vi p0.length),(44,vi ax)] [rd v0 p0,own 46 ag ao,bc 43 af [bu],own 3 bu ad.1] U w) (fun(r:Empty) _ _=>r.elim) hN ?_ ?_ ?_ ?_
   ·exact⟨br,o.sp 4 [0,1,2,3]⟩
   ·rintro ad fl _ w ⟨bw,O,rfl,o⟩ hb
    refine RC.seq (RC.sr (mv (vi ad.2.1) (mv (vi ab.2.1) (ic ad.2.1 ab.2.1 (mv (vb (decide (ad.2.1<ab.2.1))) (RL.gs true (decide (ad.2.1<ab.2.1)) (vi ad.2.2) zr zr zr dD (RL.gs true (decide (ad.2.1<ab.2.1)) (vi ab.2.1) zr zr zr dD (RL.gs true (decide (ad.2.1<ab.2.1)) (vi (IntKind.wrap .i64 (Int.tdiv (al.Xs.length:Int) 2))) zr zr zr dD ?_))))))))
    refine RL.gs true (decide (ad.2.1<ab.2.1)) (vi (IntKind.wrap .i64 (ab.2.1+ (IntKind.wrap .i64 (Int.tdiv (al.Xs.length:Int) 2))))) rfl rfl rfl (D0 (bop:= .add) (K:= .i64) (a:=ab.2.1) (b:=(IntKind.wrap .i64 (Int.tdiv (al.Xs.length:Int) 2))) rfl (fun h=>by exact(cI h:cv (true&&((decide (ad.2.1<ab.2.1))==true)) (vi ab.2.1)= (vi ab.2.1))) (fun h=>by exact(cI h:cv (true&&((decide (ad.2.1<ab.2.1))==true)) (vi (IntKind.wrap .i64 (Int.tdiv (al.Xs.length:Int) 2)))= (vi (IntKind.wrap .i64 (Int.tdiv (al.Xs.length:Int) 2))))) rfl) (RL.gs true (decide (ad.2.1<ab.2.1)) (vb (decide (ad.2.2< (IntKind.wrap .i64 (ab.2.1+ (IntKind.wrap .i64 (Int.tdiv (al.Xs.length:Int) 2))))))) rfl rfl rfl (dT .lss .i64 ad.2.2 (IntKind.wrap .i64 (ab.2.1+ (IntKind.wrap .i64 (Int.tdiv (al.Xs.length:Int) 2)))) rfl (fun h=>by exact(cI h:cv (true&&((decide (ad.2.1<ab.2.1))==true)) (vi ad.2.2)= (vi ad.2.2))) (fun h=>by exact(cI h:cv (true&&((decide (ad.2.1<ab.2.1))==true)) (vi (IntKind.wrap .i64 (ab.2.1+ (IntKind.wrap .i64 (Int.tdiv (al.Xs.length:Int) 2)))))= (vi (IntKind.wrap .i64 (ab.2.1+ (IntKind.wrap .i64 (Int.tdiv (al.Xs.length:Int) 2))))))) rfl) (RL.pick (decide (ad.2.1<ab.2.1)) (vb ((decide (ad.2.1<ab.2.1))&&(decide (ad.2.2< (IntKind.wrap .i64 (ab.2.1+ (IntKind.wrap .i64 (Int.tdiv (al.Xs.length:Int) 2)))))))) (gG true) (RL.nt (fE hb (fun hc hb=>?_) fun hc hb=>?_))))
    rotate_left
    ·refine RC.ex ?_
     obtain rfl:=oi hb
     exact⟨rfl,bw,o.sp 4 [0,1,2,3]⟩
    refine RC.sn (RC.block (RC.seq (RC.seq ?_)))
    obtain⟨cf,hj,hb⟩:=bd hb
    refine RC.jn (fun(cf:Bool)=>SH E V [(0,v0),(3,ag),(4,vp af 0),(6,(.func (.func 71) #[] #[(vp af 0)])),(7,vi ab.2.1),(11,(vi (IntKind.wrap .i64 (Int.tdiv (al.Xs.length:Int) 2)))),(12,vi ad.2.1),(13,vi ad.2.2),(42,v0),(43,vi p0.length),(44,vi ax),(101,vb cf)] [rd v0 p0,own 46 ag ao,bc 43 af [bw],own 3 bw ad.1]) cf ?_ ?_
    ·refine RC.wg mixed ?_
     have o:=o.drew
     refine RO.go (mv ag (RO.nx (mv (vi ad.2.1) (RO.nx ?_))))
     obtain⟨cu,bz,hj⟩:=bd hj
     refine RL.bK 1 o zr zr kN bz (RO.nx (RL.lN (α:=aI) (jl 1 o bz 0) iV (RO.nx (RL.cV 1 o (jl 1 o bz 0) (aV bz).2.1 eH cE (RO.nx (mv ag (RO.nx (mv (vi ad.2.2) ?_))))))))
     refine RO.nx ?_
     obtain⟨cw,b0,hj⟩:=bd hj
     refine RL.bK 1 o zr zr kN b0 (RO.nx (RL.lN (α:=aI) (jl 1 o b0 0) jE (RO.nx (RL.cV 1 o (jl 1 o b0 2) (aV b0).2.1 fD cE (RO.nx (ic cu.X0 cw.X1 (RO.nx (mv (vb (decide (cu.X0<cw.X1))) ?_))))))))
     refine gC hj (fun an hj=>?_) fun an hj=>?_
     rotate_left
     ·refine RO.nx (bV an (RO.nx (bV an (RO.nx (bV an (RO.nx (bV an (RO.nx ?_))))))))
      refine bV an (RO.nx (bV an (RO.nx (bV an (RO.nx (bV an (RO.nx (bV an ?_))))))))
      refine RO.nx (bV an (RO.nx (bV an (RO.nx (gF an (vb false) (RO.last ?_))))))
      obtain rfl:=oi hj
      exact⟨rfl,o.sp 4 [0,1,2,3]⟩
     refine RO.nx (RL.move ag (cg an) (RO.nx (RL.move (vi ad.2.2) (cg an) (RO.nx ?_))))
     obtain⟨cx,b1,hj⟩:=bd hj
     refine RL.bK (hg:=(cg an)) 1 o zr zr kN b1 (RO.nx (RL.lN (hg:=(cg an)) (α:=aI) (jl 1 o b1 0) iV (RO.nx (RL.cV (hg:=(cg an)) 1 o (jl 1 o b1 0) (aV b1).2.1 eH cE (RO.nx (RL.move ag (cg an) (RO.nx (RL.move (vi ad.2.1) (cg an) ?_))))))))
     refine RO.nx ?_
     obtain⟨cy,b2,hj⟩:=bd hj
     refine RL.bK (hg:=(cg an)) 1 o zr zr kN b2 (RO.nx (RL.lN (hg:=(cg an)) (α:=aI) (jl 1 o b2 0) jE (RO.nx (RL.cV (hg:=(cg an)) 1 o (jl 1 o b2 2) (aV b2).2.1 fD cE (RO.nx (RL.kz cx.X0 cy.X1 (cg an) (RO.nx (gF an (vb (decide (cx.X0<cy.X1))) ?_))))))))
     refine RO.last ?_
     obtain rfl:=oi hj
     exact⟨rfl,o.sp 4 [0,1,2,3]⟩
    rintro _ w ⟨O,rfl,o⟩
    refine aG ?_
    obtain⟨b3,hj,hb⟩:=bd hb
    refine RC.jn (fun(b3: (List Int)) U w=>∃bk:Value,SH E V [(0,v0),(3,ag),(4,vp af 0),(6,(.func (.func 71) #[] #[(vp af 0)])),(7,vi ab.2.1),(11,(vi (IntKind.wrap .i64 (Int.tdiv (al.Xs.length:Int) 2)))),(12,vi ad.2.1),(13,vi ad.2.2),(42,v0),(43,vi p0.length),(44,vi ax)] [rd v0 p0,own 46 ag ao,bc 43 af [bk],own 3 bk b3] U w) b3 ?_ ?_
    ·refine fE hj (fun hc hj=>?_) fun hc hj=>?_
     rotate_left
     ·refine RC.skip ?_
      obtain rfl:=oi hj
      exact⟨rfl,bw,o.sp 4 [0,1,2,3]⟩
     refine RC.sr (mv (.func (.func 71) #[] #[(vp af 0)]) (mv (vi ad.2.1) ?_))
     have o:=(o.pull 3).pull 3
     obtain⟨bb,db,hj⟩:=bd hj
     refine RL.oE [(vp af 0)] Ep [(vi ad.2.1)] (aF (ji N (p0:=ad.2.1) o db) ?_)
     rintro _ w ⟨d4,rfl,o⟩
     refine mv (.func (.func 71) #[] #[(vp af 0)]) (mv (vi ad.2.2) ?_)
     have o:=(o.pull 1).pull 1
     obtain⟨bf,dc,hj⟩:=bd hj
     refine RL.oE [(vp af 0)] Ep [(vi ad.2.2)] (aF (ji N (p0:=ad.2.2) o dc) ?_)
     rintro _ w ⟨cz,rfl,o⟩
     refine aP (vi bb.1) (aP (vi bf.1) (RL.nt (RC.region (RL.aX 0 cz o eJ (mv (vi bb.1) (mv (vi bf.1) (RL.max bb.1 bf.1 (mv (vi bb.1) ?_))))))))
     refine mv (vi bf.1) (RL.min bb.1 bf.1 ?_)
     obtain⟨d5,ch,hj⟩:=bd hj
     refine RL.bK 1 o zr zr eC ch ?_
     have o:=o.sc Int (if bf.1<bb.1 then bf.1 else bb.1)
     refine RL.fJ (f:=(fun _ y=>y)) 2 0 o (jl 2 o ch 0) (aV ch).2.1 zr Fs.self cE fun w o=>?_
     refine RL.nil ?_
     obtain rfl:=oi hj
     exact⟨rfl,cz,o.sp 9 [5,6,1,2]⟩
    rintro _ w ⟨bk,O,rfl,o⟩
    refine aG (RC.seq (RC.wg mixed ?_))
    have o:=o.drew
    refine RO.go (mv ag (RO.nx (mv (vi ad.2.1) (RO.nx ?_))))
    obtain⟨dd,b4,hb⟩:=bd hb
    refine RL.bK 1 o zr zr kN b4 (RO.nx (RL.lN (α:=aI) (jl 1 o b4 0) jE (RO.nx (RL.cV 1 o (jl 1 o b4 2) (aV b4).2.1 fD cE (RO.nx (mv ag (RO.nx (mv (vi ad.2.2) ?_))))))))
    refine RO.nx ?_
    obtain⟨de,b5,hb⟩:=bd hb
    refine RL.bK 1 o zr zr kN b5 (RO.nx (RL.lN (α:=aI) (jl 1 o b5 0) jE (RO.nx (RL.cV 1 o (jl 1 o b5 2) (aV b5).2.1 fD cE (RO.nx (ic dd.X1 de.X1 (RO.last (aG ?_))))))))
    obtain⟨b6,hj,hb⟩:=bd hb
    refine RC.jn (fun(b6:Int×Int)=>SH E V [(0,v0),(3,ag),(4,vp af 0),(6,(.func (.func 71) #[] #[(vp af 0)])),(7,vi ab.2.1),(11,(vi (IntKind.wrap .i64 (Int.tdiv (al.Xs.length:Int) 2)))),(12,vi b6.1),(13,vi b6.2),(42,v0),(43,vi p0.length),(44,vi ax)] [rd v0 p0,own 46 ag ao,bc 43 af [bk],own 3 bk b3]) b6 ?_ ?_
    ·refine fE hj (fun hc hj=>?_) fun hc hj=>?_
     ·refine RC.region (mv (vi ad.2.1) (RL.jq ad.2.1 1 (aP (vi (IntKind.wrap .i64 (ad.2.1+1))) (RL.nil ?_))))
      obtain rfl:=oi hj
      exact⟨rfl,o.sp 4 [0,1,2,3]⟩
     refine RC.region (mv (vi ad.2.2) (RL.jq ad.2.2 1 (aP (vi (IntKind.wrap .i64 (ad.2.2+1))) (RL.nil ?_))))
     obtain rfl:=oi hj
     exact⟨rfl,o.sp 4 [0,1,2,3]⟩
    rintro _ w ⟨O,rfl,o⟩
    refine bT ?_
    obtain rfl:=oi hb
    exact⟨rfl,bk,o.sp 4 [0,1,2,3]⟩
   ·intro r _ _ _ _
    exact r.elim
   rintro ad _ w rfl ⟨bu,O,rfl,o⟩
   rw [Fo.gm] at hj
   obtain rfl:=oi hj
   exact⟨rfl,bu,o.sp 4 [0,1,2,3]⟩
  rintro _ w ⟨bt,O,rfl,o⟩
  refine aG (RC.region (mv (vi ab.2.1) (mv (vi ab.2.1) (mv (vi (IntKind.wrap .i64 (Int.tdiv (al.Xs.length:Int) 2))) (RL.jq ab.2.1 (IntKind.wrap .i64 (Int.tdiv (al.Xs.length:Int) 2)) (aP (vi ab.2.1) (aP (vi (IntKind.wrap .i64 (ab.2.1+ (IntKind.wrap .i64 (Int.tdiv (al.Xs.length:Int) 2))))) (RL.nil ?_))))))))
  refine bT (aG (RC.region (RL.inc hk hm (mv (vi ((ax+1:Nat):Int)) (RL.nil ?_)))))
  obtain rfl:=oi hb
  exact⟨rfl,bt,o.sp 4 [0,1,2,3]⟩
 rintro _ w ⟨bq,O,rfl,o⟩
 refine aG (RC.sr (RL.makeMap (κ:=Int) (ν:=Int) zr o fun a5 w o=>(aP a5 (RL.ns (aP (.slice none 0 0) (RL.nq (RC.sr (mv ag ?_))))))))
 refine RL.fQ 2 ao o pg (mv (vi 0) (RL.nt ?_))
 obtain⟨aj,hN,hb⟩:=bd hb
 refine RC.fold (fun(a4:Nat) (aj: (List Int)×(List (Int×Int))×(List (List aI))) U w=>∃(c0 c1:Value) (us939:List RV),SH E V [(6,(.func (.func 71) #[] #[(vp af 0)])),(16,a5),(17,c1),(137,ag),(138,vi ao.length),(139,vi a4)] [bc 43 af [c0],own 3 c0 aj.1,mp a5 aj.2.1,own 46 ag ao,own 23 c1 us939,gT (XS 46 aI) us939 aj.2.2 none] U w) (fun(aj: (List Int)×(List (Int×Int))×(List (List aI))) U w=>∃(cj bg:Value) (us942:List RV),SH E V [(17,bg)] [bc 43 af [cj],own 3 cj aj.1,mp a5 aj.2.1,own 46 ag ao,own 23 bg us942,gT (XS 46 aI) us942 aj.2.2 none] U w) hN ?_ ?_ ?_ ?_
 ·have o:=(o.wP (XS 46 aI)).dP RV 23
  exact⟨bq,(.slice none 0 0),([]:List RV),o.sp 7 [5,6,2,4,0,1]⟩
 ·rintro hm aj _ w ⟨df,dg,us987,O,rfl,o⟩
  refine RC.sr (ic ((ao.length:Int)) ((ao.length:Int)) (RL.nq (RC.cY nb (RC.ex ?_))))
  exact⟨rfl,df,dg,us987,o.sp 6 [0,1,2,3,4,5]⟩
 ·rintro hm a4 aj s' _ w hk ⟨d6,ck,us945,O,rfl,o⟩ hb
  refine RC.sr (ic ((a4:Int)) ((ao.length:Int)) (RL.nq (RC.cX (na hk) (RC.ss (RC.bs (mv (vi a4) ?_))))))
  obtain⟨ba,cl,hb⟩:=bd hb
  refine RL.bK 3 o zr zr kN cl (RL.kp (f:=(fun x=>x)) 3 o (jl 3 o cl 0) (aV cl).2.1 Fd.self gW fun d7 o=>?_)
  refine RL.alloc o ni.z fun b7 w o=>?_
  refine aP (vi a4) (RL.bJ 0 o 1 zr gW fun w o=>?_)
  refine RL.ns (mv (.func (.func 71) #[] #[(vp af 0)]) (mv (vi a4) ?_))
  have o:=(o.pull 3).pull 3
  obtain⟨a1,dh,hb⟩:=bd hb
  refine RL.oE [(vp af 0)] Ep [(vi a4)] (aF (ji N (p0:=(a4:Int)) o dh) ?_)
  rintro _ w ⟨bn,rfl,o⟩
  refine aP (vi a1.1) (RL.ns (mv a5 (mv (vi a1.1) (RL.xR 6 a1.1 zt zr o zr zr zr yl (mv (.tuple #[(vi (dQ aj.2.1 a1.1 (0:Int))),(vb (jy aj.2.1 a1.1))]) (RL.extract (vi (dQ aj.2.1 a1.1 (0:Int))) (RL.extract (vb (jy aj.2.1 a1.1)) (aP (vi (dQ aj.2.1 a1.1 (0:Int))) ?_))))))))
  refine aP (vb (jy aj.2.1 a1.1)) (RL.nq (RC.sr (mv (vb (jy aj.2.1 a1.1)) (RL.not (jy aj.2.1 a1.1) (RL.nt ?_)))))
  obtain⟨ae,hj,hb⟩:=bd hb
  refine RC.jn (fun(ae: (List (Int×Int))×(List (List aI))×Int) U w=>∃(a0:Value) (us956:List RV),SH E V [(6,(.func (.func 71) #[] #[(vp af 0)])),(16,a5),(17,a0),(19,vp b7 0),(21,vi ae.2.2),(137,ag),(138,vi ao.length),(139,vi a4)] [bc 43 af [bn],own 3 bn a1.2,mp a5 ae.1,bx 46 b7 ba,own 46 ag ao,own 23 a0 us956,gT (XS 46 aI) us956 ae.2.1 none] U w) ae ?_ ?_
  ·refine fE hj (fun hc hj=>?_) fun hc hj=>?_
   rotate_left
   ·refine RC.skip ?_
    obtain rfl:=oi hj
    exact⟨rfl,ck,us945,o.sp 10 [0,1,6,2,7,8,9]⟩
   refine RC.sr (mv ck (RL.o5 8 9 aj.2.2 zr o zr zr zr yi (aP (vi aj.2.2.length) (RL.ns (mv a5 (mv (vi a1.1) (mv (vi aj.2.2.length) ?_)))))))
   have o:=o.sc Int (aj.2.2.length:Int)
   refine RL.mapUpdate 7 0 a1.1 o zr zr zr zr zr yl fun w o=>(RL.nt (RC.region (mv ck ?_)))
   have o:=(o.dP aI 46).zS (i:=0) rfl
   refine RL.fy ([rv (.slice none 0 0)]:List RV) o [(.slice none 0 0)] zd Fw (fun M hs g=>⟨(g.sat 0 _ zr).1,zt⟩) fun d8 w o=>?_
   obtain⟨d9,di,hj⟩:=bd hj
   have o:=o.freeze 0
   refine RL.xZ 12 0 13 2 zt zr o zr zr zr zr zr zr G7 di fun c2 w o=>?_
   refine aP c2 (RL.nil ?_)
   obtain rfl:=oi hj
   exact⟨rfl,c2,(us945++[rv (.slice none 0 0)]),o.sp 14 [4,5,10,6,11,12,13]⟩
  rintro _ w ⟨a0,us956,O,rfl,o⟩
  refine aG ?_
  obtain⟨ea,b8,hb⟩:=bd hb
  obtain⟨bh,dj,hb⟩:=bd hb
  obtain⟨eb,cm,hb⟩:=bd hb
  refine RC.BO E V mixed [1,1,1,1,0,0,0,0,0,0,0] [6,7,8,10] (fun(x:Value×Value×Value)=>(fun ay aw ak=>[(0,163,a0),(1,164,(vi ae.2.2)),(2,165,a0),(3,166,(vi ae.2.2)),(4,167,(xB a0 (Int.toNat ae.2.2) 1 0)),(5,168,(us956.getD (Int.toNat ae.2.2) xC).v),(6,169,ay),(7,170,aw),(8,171,ak),(9,172,(xB a0 (Int.toNat ae.2.2) 1 0))]) x.1 x.2.1 x.2.2) [(6,(.func (.func 71) #[] #[(vp af 0)])),(16,a5),(17,a0),(19,vp b7 0),(21,vi ae.2.2),(137,ag),(138,vi ao.length),(139,vi a4)] [] (fun(D:Nat->Bool) (x:Value×Value×Value)=>(fun ay aw ak=>[bif D 0 then (rd ay ba) else aT,bif D 2 then (rd aw ([ba]: (List aI))) else (bif D 1 then (own 46 aw ([ba]: (List aI))) else aT),bif D 3 then aT else (bif D 2 then (own 46 ak bh) else aT),bc 43 af [bn],own 3 bn a1.2,mp a5 ae.1,bx 46 b7 ba,own 46 ag ao,bif D 3 then (own 23 a0 (us956.set (Int.toNat ae.2.2) (rv ak))) else (own 23 a0 us956),bif D 3 then (gT (XS 46 aI) (us956.set (Int.toNat ae.2.2) (rv ak)) (ae.2.1.set (Int.toNat ae.2.2) bh) none) else (bif D 2 then (gT (XS 46 aI) us956 ae.2.1 (some (Int.toNat ae.2.2))) else (gT (XS 46 aI) us956 ae.2.1 none))]) x.1 x.2.1 x.2.2) (fun x=>by kernel_rfl) ?_ ⟨fun _=>i7 gn,fun _=>i7 gn,fun _=>i7 gn,fun _=>i7 gn,?_,?_,?_,?_,?_,?_,?_,trivial⟩ ?_
  ·have o:=(((o.drew).aT).aT).aT
   exact⟨(undef,undef,undef),dU.none,(AF zr),zt,o⟩
  ·rintro D U w hD ar ai ⟨⟨ay,aw,ak⟩,hv,ha,_,o⟩
   obtain⟨O,rfl⟩:=(ac (hv.at 2 rfl (ar.1 rfl)) (ac (hv.at 3 rfl (ar.2.1 rfl)) az)).eO
   have o:=((o.bN 8 (nh ai hD 10)).bN 9 (nh ai hD 10)).bN 9 (nf (fun h=>ft hD ((ai 5 _ rfl ((ai 8 _ rfl h).1 rfl)).1 rfl)))
   have hl974:=o.fR 9 rfl
   have hr975:=iR xC hl974 b8
   refine RL.bK 8 o zr zr zd hr975 ?_
   have o:=(o.eF 8 (D 10) (nh ai hD 10) (own 23 a0 (us956.set (Int.toNat ae.2.2) (rv ak)))).eF 9 (D 8) (nf (fun h=>ft hD ((ai 5 _ rfl ((ai 8 _ rfl h).1 rfl)).1 rfl))) (gT (XS 46 aI) us956 ae.2.1 (some (Int.toNat ae.2.2)))
   have o:=o.eF 9 (D 10) (nh ai hD 10) (gT (XS 46 aI) (us956.set (Int.toNat ae.2.2) (rv ak)) (ae.2.1.set (Int.toNat ae.2.2) bh) none)
   exact RL.nil ⟨rfl,(ay,aw,ak),hv.pu 4,ha.u,zt,o⟩
  ·rintro D U w hD ar ai ⟨⟨ay,aw,ak⟩,hv,ha,_,o⟩
   obtain⟨O,rfl⟩:=(ac (hv.at 4 rfl (ar.1 rfl)) az).eO
   have o:=((o.bN 8 (nh ai hD 10)).bN 9 (nh ai hD 10)).bN 9 (nh ai hD 8)
   have hl976:=o.fR 9 rfl
   have hr977:=iR xC hl976 b8
   refine RL.tf 8 9 ae.2.2 (v9 46 aI) xC zr o zr (jl 8 o hr977 0) zr zr b8 w3 ?_
   have o:=(o.eF 8 (D 10) (nh ai hD 10) (own 23 a0 (us956.set (Int.toNat ae.2.2) (rv ak)))).eF 9 (D 8) (nh ai hD 8) (gT (XS 46 aI) us956 ae.2.1 (some (Int.toNat ae.2.2)))
   have o:=o.eF 9 (D 10) (nh ai hD 10) (gT (XS 46 aI) (us956.set (Int.toNat ae.2.2) (rv ak)) (ae.2.1.set (Int.toNat ae.2.2) bh) none)
   exact RL.nil ⟨rfl,(ay,aw,ak),hv.pu 5,ha.u,zt,o⟩
  ·rintro D U w hD ar ai ⟨⟨ay,aw,ak⟩,hv,ha,_,o⟩
   obtain⟨O,rfl⟩:=(ac (ha.at 3 rfl) az).eO
   have o:=o.bN 0 hD
   refine RL.aZ (f:=(fun x=>x)) 6 o zr Fd.self gW fun dk o=>?_
   have o:=(o.pl 11 [0,2,3,4,5,6,7,8,9,10]).cD 0 true aT
   exact RL.nil ⟨rfl,(dk,aw,ak),hv.pu 6,ha.u,zt,o⟩
  ·rintro D U w hD ar ai ⟨⟨ay,aw,ak⟩,hv,ha,_,o⟩
   obtain⟨O,rfl⟩:=(ac (hv.at 6 rfl (ar.1 rfl)) az).eO
   have o:=((o.cC 0 (ar.1 rfl)).bN 1 (nh ai hD 8)).bN 1 hD
   refine RL.fy ([ba]: (List aI)) o [ay] kN ni (fun M hs g=>⟨(g.sat 0 _ zr).1,zt⟩) fun c3 w o=>?_
   have o:=(((o.pl 11 [1,0,3,4,5,6,7,8,9,10]).cD (hb:=ar.1 rfl) 0 (D 6) aT).cD 1 true aT).eF 1 (D 8) (nh ai hD 8) (rd c3 ([ba]: (List aI)))
   exact RL.nil ⟨rfl,(ay,c3,ak),hv.pu 7,ha.u,zt,o⟩
  ·rintro D U w hD ar ai ⟨⟨ay,aw,ak⟩,hv,ha,_,o⟩
   obtain⟨O,rfl⟩:=(ac (hv.at 5 rfl (ar.1 rfl)) (ac (hv.at 7 rfl (ar.2.1 rfl)) az)).eO
   have o:=(((((((o.bN 1 hD).cC 1 (ar.2.1 rfl)).bN 2 (nh ai hD 10)).bN 2 hD).bN 8 (nh ai hD 10)).bN 9 (nh ai hD 10)).bN 9 hD).wQ (j:=9) (jj:=ae.2.2) (v9 46 aI) xC rfl b8
   have o:=o.freeze 2
   refine RL.app 0 2 o AM dj fun cn w o=>?_
   have o:=((((o.pl 11 [1,2,0,4,5,6,7,8,9,10]).cD 1 true (bif D 7 then (own 46 aw ([ba]: (List aI))) else aT)).cD 2 true aT).eF 2 (D 10) (nh ai hD 10) aT).eF 8 (D 10) (nh ai hD 10) (own 23 a0 (us956.set (Int.toNat ae.2.2) (rv cn)))
   have o:=(o.cD 9 true (gT (XS 46 aI) us956 ae.2.1 none)).eF 9 (D 10) (nh ai hD 10) (gT (XS 46 aI) (us956.set (Int.toNat ae.2.2) (rv cn)) (ae.2.1.set (Int.toNat ae.2.2) bh) none)
   exact RL.nil ⟨rfl,(ay,aw,cn),hv.pu 8,ha.u,zt,o⟩
  ·rintro D U w hD ar ai ⟨⟨ay,aw,ak⟩,hv,ha,_,o⟩
   obtain⟨O,rfl⟩:=(ac (hv.at 0 rfl (ar.1 rfl)) (ac (hv.at 1 rfl (ar.2.1 rfl)) az)).eO
   have o:=((o.bN 8 (nh ai hD 10)).bN 9 (nh ai hD 10)).cC 9 (ar.2.2.2.2.2.2.2.2.2.2.1 rfl)
   have hl981:=o.fR 9 rfl
   have hr982:=iR xC hl981 cm
   refine RL.bK 8 o zr zr zd hr982 ?_
   have o:=((o.eF 8 (D 10) (nh ai hD 10) (own 23 a0 (us956.set (Int.toNat ae.2.2) (rv ak)))).cD (hb:=ar.2.2.2.2.2.2.2.2.2.2.1 rfl) 9 (D 8) (gT (XS 46 aI) us956 ae.2.1 none)).eF 9 (D 10) (nh ai hD 10) (gT (XS 46 aI) (us956.set (Int.toNat ae.2.2) (rv ak)) (ae.2.1.set (Int.toNat ae.2.2) bh) none)
   exact RL.nil ⟨rfl,(ay,aw,ak),hv.pu 9,ha.u,zt,o⟩
  ·rintro D U w hD ar ai ⟨⟨ay,aw,ak⟩,hv,ha,_,o⟩
   obtain⟨O,rfl⟩:=(ac (hv.at 8 rfl (ar.2.1 rfl)) (ac (hv.at 9 rfl (ar.1 rfl)) az)).eO
   have o:=((((o.bN 2 hD).cC 2 (ar.2.1 rfl)).bN 8 hD).bN 9 hD).cC 9 (ar.2.1 rfl)
   have hl983:=o.fR 9 rfl
   have hr984:=iR xC hl983 cm
   refine RL.q7 8 9 2 ae.2.2 (v9 46 aI) xC o zr zr (jl 8 o hr984 0) zr zr zr cm w3 fun w o=>?_
   have o:=((o.cD 2 true (bif D 8 then (own 46 ak bh) else aT)).cD 8 true (own 23 a0 us956)).cD 9 true (bif D 8 then (gT (XS 46 aI) us956 ae.2.1 (some (Int.toNat ae.2.2))) else (gT (XS 46 aI) us956 ae.2.1 none))
   exact RL.nil ⟨rfl,(ay,aw,ak),hv.n1,ha,zt,o⟩
  rintro D U w bo ⟨⟨ay,aw,ak⟩,hv,ha,_,o⟩
  have o:=((((o.cC 0 (jO bo 6)).cC 1 (jO bo 8)).cC 2 (jO bo 10)).cC 8 (jO bo 10)).cC 9 (jO bo 10)
  obtain⟨O,rfl⟩:=(ac (ha.at 0 rfl) (ac (ha.at 1 rfl) (ac (ha.at 2 rfl) (ac (ha.at 3 rfl) (ac (ha.at 4 rfl) (ac (ha.at 5 rfl) (ac (ha.at 6 rfl) (ac (ha.at 7 rfl) az)))))))).eO
  refine bT (aG (RC.region (RL.inc hk hm (mv (vi ((a4+1:Nat):Int)) (RL.nil ?_)))))
  obtain rfl:=oi hb
  exact⟨rfl,bn,a0,(us956.set (Int.toNat ae.2.2) (rv ak)),o.sp 10 [3,4,5,7,8,9]⟩
 rintro _ w ⟨cj,bg,us942,O,rfl,o⟩
 refine aG (RC.sr (aP (.slice none 0 0) (RL.nq (RC.sr (mv bg (RL.o5 4 5 aj.2.2 zr o zr zr zr yi (mv (vi 0) (RL.nt ?_))))))))
 have o:=o.wR (X:=(XS 46 aI)) (b:=5) (j:=4) rfl (fun M h u x cs=>(DG 46) M h u x cs) rfl rfl (by decide)
 obtain⟨bl,hN,hb⟩:=bd hb
 refine RC.fold (fun(b9:Nat) (bl: (List (List aA))) U w=>∃c4:Value,SH E V [(23,c4),(174,bg),(175,vi aj.2.2.length),(176,vi b9)] [own 23 bg aj.2.2,own 85 c4 bl] U w) (fun(bl: (List (List aA))) U w=>∃bp:Value,SH E V [(23,bp)] [own 23 bg aj.2.2,own 85 bp bl] U w) hN ?_ ?_ ?_ ?_
 ·have o:=o.dP (List aA) 85
  exact⟨(.slice none 0 0),o.sp 7 [5,0]⟩
 ·rintro hm bl _ w ⟨dm,O,rfl,o⟩
  refine RC.sr (ic ((aj.2.2.length:Int)) ((aj.2.2.length:Int)) (RL.nq (RC.cY nb (RC.ex ?_))))
  exact⟨rfl,dm,o.sp 2 [0,1]⟩
 ·rintro hm b9 bl s' _ w hk ⟨dn,O,rfl,o⟩ hb
  refine RC.sr (ic ((b9:Int)) ((aj.2.2.length:Int)) (RL.nq (RC.cX (na hk) (RC.ss (RC.bs ?_)))))
  obtain⟨ec,cp,hb⟩:=bd hb
  refine RL.bK 0 o zr zr zd cp (RL.kp (f:=(fun x=>x)) 0 o (jl 0 o cp 0) (aV cp).2.1 Fd.self w3 fun cq o=>?_)
  refine aP cq (RL.nt (RC.region (mv dn (mv cq ?_))))
  obtain⟨dp,dq,hb⟩:=bd hb
  refine RL.call zt zr BX [cq] zr (aF (jH N (i0:=0) o zr dq) ?_)
  rintro dr w o
  have o:=o.freeze 0
  refine RL.fy ([dp]: (List (List aA))) o [dr] B5 Eo (fun M hs g=>⟨(g.sat 0 _ zr).1,zt⟩) fun ed w o=>?_
  have o:=o.freeze 0
  obtain⟨ee,ds,hb⟩:=bd hb
  refine RL.app 4 0 o Fv ds fun c5 w o=>?_
  refine aP c5 (RL.nil (bT (aG (RC.region (RL.inc hk hm (mv (vi ((b9+1:Nat):Int)) (RL.nil ?_)))))))
  obtain rfl:=oi hb
  exact⟨rfl,c5,o.sp 5 [3,4]⟩
 rintro _ w ⟨bp,O,rfl,o⟩
 refine aG (RC.sr (mv bp (aP bp (RL.nt (RC.ret ?_)))))
 obtain rfl:=oi hb
 exact cB (o.pk 2 [1])
def pC (E:World) (V:List HP) (b0:Nat) (v0_0 v0_1:Value) (v0_2 v0_3:Value) (v0_6 v0_7:Value) (v0_8 v0_9:Value) (v0_10 v0_11:Value) (res:Bool×(List (List aA))×(List aH)) (v:Value) (w:World):Prop:=∃u0_4 u0_5:Value,v= (vb res.1)/\Holds E w ([bc 57 b0 [v0_0,v0_1,v0_2,v0_3,u0_4,u0_5,v0_6,v0_7,v0_8,v0_9,v0_10,v0_11],own 85 u0_4 res.2.1,own 98 u0_5 res.2.2]++V)
theorem oS {p0_0: (List (List aI))} {p0_2: (List bU)} {p0_4: (List (List aA))} {p0_5: (List aH)} {res:Bool×(List (List aA))×(List aH)} (j:Holds E w (bc 57 b0 [v0_0,v0_1,v0_2,v0_3,v0_4,v0_5,v0_6,v0_7,v0_8,v0_9,v0_10,v0_11]::rd v0_0 p0_0::rd v0_2 p0_2::own 85 v0_4 p0_4::own 98 v0_5 p0_5::V)) (o:gJ N p0_0 p0_2 p0_4 p0_5=some res):
    Calls bC 16 [(vp b0 0)].toArray w (gE (pC E V b0 v0_0 v0_1 v0_2 v0_3 v0_6 v0_7 v0_8 v0_9 v0_10 v0_11 res)):=by
 unfold gJ at o
 refine enter Tryz.func16 zr zr (RC.sr (aP (vb false) (RL.ns (aP (vb true) (RL.nq (RC.sr (mv (vp b0 0) (RL.nilCheck zr ?_))))))))
 refine RL.bA zr lS (RL.bA zr tm (RL.aX 0 v0_0 j AK (RL.bF 1 p0_0 j yi (mv (vi 0) (RL.nt ?_)))))
 obtain⟨aa,hN,o⟩:=bd o
 refine RC.fold (fun(ab:Nat) (aa: (List (List aA))×(List aH)×Bool) U w=>∃bf bg:Value,SH E V [(0,vp b0 0),(3,vb aa.2.2),(16,v0_0),(17,vi p0_0.length),(18,vi ab)] [bc 57 b0 [v0_0,v0_1,v0_2,v0_3,bf,bg,v0_6,v0_7,v0_8,v0_9,v0_10,v0_11],own 85 bf aa.1,own 98 bg aa.2.1,rd v0_0 p0_0,rd v0_2 p0_2] U w) (fun(aa: (List (List aA))×(List aH)×Bool) U w=>∃au al:Value,SH E V [(0,vp b0 0),(3,vb aa.2.2)] [bc 57 b0 [v0_0,v0_1,v0_2,v0_3,au,al,v0_6,v0_7,v0_8,v0_9,v0_10,v0_11],own 85 au aa.1,own 98 al aa.2.1,rd v0_0 p0_0,rd v0_2 p0_2] U w) hN ?_ ?_ ?_ ?_
 ·exact⟨v0_4,v0_5,j.sp 5 [0,3,4,1,2]⟩
 ·rintro hm aa _ w ⟨bq,br,O,rfl,j⟩
  refine RC.sr (ic ((p0_0.length:Int)) ((p0_0.length:Int)) (RL.nq (RC.cY nb (RC.ex ?_))))
  exact⟨rfl,bq,br,j.sp 5 [0,1,2,3,4]⟩
 ·rintro hm ab aa s' _ w hk ⟨af,ag,O,rfl,j⟩ o
  refine RC.sr (ic ((ab:Int)) ((p0_0.length:Int)) (RL.nq (RC.cX (na hk) (RC.ss (RC.bs (mv (vi ab) ?_))))))
  obtain⟨a2,bt,o⟩:=bd o
  refine RL.cF 3 j zd bt fun cp j=>(RL.bY 0 a2 j w3 fun ah j=>(aP (vi ab) (aP ah (RL.ns (aP (.slice none 0 0) (RL.nq (RC.sr (mv (vp b0 0) ?_))))))))
  refine RL.nilCheck zr (RL.bA zr lS (RL.bA zr lq (RL.aX 2 v0_2 j tn (RL.bF 6 p0_2 j uL (mv (vi 0) (RL.nt ?_))))))
  obtain⟨av,hN,o⟩:=bd o
  refine RC.fold (fun(az:Nat) (av: (List aI)) U w=>∃bh:Value,SH E V [(0,vp b0 0),(3,vb aa.2.2),(4,vi ab),(5,ah),(6,bh),(16,v0_0),(17,vi p0_0.length),(18,vi ab),(27,v0_2),(28,vi p0_2.length),(29,vi az)] [bc 57 b0 [v0_0,v0_1,v0_2,v0_3,af,ag,v0_6,v0_7,v0_8,v0_9,v0_10,v0_11],rd v0_0 p0_0,rd v0_2 p0_2,own 85 af aa.1,own 98 ag aa.2.1,rd ah a2,own 46 bh av] U w) (fun(av: (List aI)) U w=>∃a0:Value,SH E V [(0,vp b0 0),(3,vb aa.2.2),(4,vi ab),(5,ah),(6,a0),(16,v0_0),(17,vi p0_0.length),(18,vi ab)] [bc 57 b0 [v0_0,v0_1,v0_2,v0_3,af,ag,v0_6,v0_7,v0_8,v0_9,v0_10,v0_11],rd v0_0 p0_0,rd v0_2 p0_2,own 85 af aa.1,own 98 ag aa.2.1,rd ah a2,own 46 a0 av] U w) hN ?_ ?_ ?_ ?_
  ·have j:=j.dP aI 46
   exact⟨(.slice none 0 0),j.sp 8 [3,6,7,4,5,1,0]⟩
  ·rintro hm av _ w ⟨bu,O,rfl,j⟩
   refine RC.sr (ic ((p0_2.length:Int)) ((p0_2.length:Int)) (RL.nq (RC.cY nb (RC.ex ?_))))
   exact⟨rfl,bu,j.sp 7 [0,1,2,3,4,5,6]⟩
  ·rintro hm az av s' _ w hk ⟨bj,O,rfl,j⟩ o
   refine RC.sr (ic ((az:Int)) ((p0_2.length:Int)) (RL.nq (RC.cX (na hk) (RC.ss (RC.bs ?_)))))
   obtain⟨bw,bx,o⟩:=bd o
   refine RL.cF 2 j w4 bx fun cq j=>(RL.bY 0 bw j mN fun cr j=>(RL.alloc j AP.z fun ct w j=>?_))
   refine RL.bJ 0 j 1 zr mN fun w j=>?_
   refine RL.ns (RL.aZ (f:=(fun x=>x)) 0 j zr Fd.self mN fun bz j=>(mv (vi ab) ?_))
   obtain⟨cu,b1,o⟩:=bd o
   refine RL.call zt zr En [bz,(vi ab)] zr (aF (kX N (p1:=(ab:Int)) (i0:=0) j zr b1) ?_)
   rintro _ w ⟨rfl,j⟩
   refine RL.nt ?_
   obtain⟨a6,hj,o⟩:=bd o
   refine RC.jn (fun(a6: (List aI)) U w=>∃a3:Value,SH E V [(0,vp b0 0),(3,vb aa.2.2),(4,vi ab),(5,ah),(6,a3),(16,v0_0),(17,vi p0_0.length),(18,vi ab),(27,v0_2),(28,vi p0_2.length),(29,vi az)] [bc 57 b0 [v0_0,v0_1,v0_2,v0_3,af,ag,v0_6,v0_7,v0_8,v0_9,v0_10,v0_11],rd v0_0 p0_0,rd v0_2 p0_2,own 85 af aa.1,own 98 ag aa.2.1,rd ah a2,own 46 a3 a6] U w) a6 ?_ ?_
   ·refine fE hj (fun hc hj=>?_) fun hc hj=>?_
    rotate_left
    ·refine RC.skip ?_
     obtain rfl:=oi hj
     exact⟨rfl,bj,j.sp 11 [4,5,6,7,8,9,10]⟩
    refine RC.region (mv bj (RL.aZ (f:=(fun x=>x)) 1 j zr Fd.self mN fun b3 j=>?_))
    obtain⟨b4,b5,hj⟩:=bd hj
    refine RL.call zt zr AQ [b3] zr (aF (fN N (i0:=0) j zr b5) ?_)
    rintro b6 w j
    refine RL.fy ([b4]: (List aI)) j [b6] kN ni (fun M hs g=>⟨(g.sat 0 _ zr).1,zt⟩) fun cv w j=>?_
    have j:=j.freeze 0
    obtain⟨cw,b7,hj⟩:=bd hj
    refine RL.app 13 0 j AM b7 fun bk w j=>?_
    refine aP bk (RL.nil ?_)
    obtain rfl:=oi hj
    exact⟨rfl,bk,j.sp 14 [7,8,9,10,11,12,13]⟩
   rintro _ w ⟨a3,O,rfl,j⟩
   refine bT (aG (RC.region (RL.inc hk hm (mv (vi ((az+1:Nat):Int)) (RL.nil ?_)))))
   obtain rfl:=oi o
   exact⟨rfl,a3,j.sp 7 [0,1,2,3,4,5,6]⟩
  rintro _ w ⟨a0,O,rfl,j⟩
  refine aG (RC.sr (mv ah ?_))
  obtain⟨cx,b8,o⟩:=bd o
  refine RL.call zt zr BX [ah] zr (aF (jH N (i0:=5) j zr b8) ?_)
  rintro b9 w j
  refine mv a0 ?_
  have j:=j.freeze 7
  obtain⟨cy,ca,o⟩:=bd o
  refine RL.call zt zr BX [a0] zr (aF (jH N (i0:=7) j zr ca) ?_)
  rintro cb w j
  have j:=(j.freeze 1).freeze 0
  obtain⟨cz,cc,o⟩:=bd o
  refine RL.call zt zr G5 [b9,cb] zr (aF (su N (i0:=1) (i1:=0) j zr zr cc) ?_)
  rintro a1 w j
  refine aP a1 (RL.nq ?_)
  obtain⟨an,hj,o⟩:=bd o
  refine RC.jn (fun(an:Bool×(List aA)) U w=>∃ao:Value,SH E V [(0,vp b0 0),(3,vb an.1),(4,vi ab),(9,ao),(16,v0_0),(17,vi p0_0.length),(18,vi ab)] [bc 57 b0 [v0_0,v0_1,v0_2,v0_3,af,ag,v0_6,v0_7,v0_8,v0_9,v0_10,v0_11],rd v0_0 p0_0,rd v0_2 p0_2,own 85 af aa.1,own 98 ag aa.2.1,rd ao an.2] U w) an ?_ ?_
  ·refine RC.region (mv (vb aa.2.2) (mv (vb aa.2.2) (gC hj (fun ai hj=>?_) fun ai hj=>?_)))
   rotate_left
   ·refine bV ai (bV ai (bV ai (gF ai (vb false) (aP (vb false) (RL.nil ?_)))))
    obtain rfl:=oi hj
    have j:=j.freeze 0
    exact⟨rfl,a1,j.sp 10 [3,4,5,6,7,0]⟩
   refine RL.move a1 (cg ai) ?_
   have j:=j.freeze 0
   obtain⟨a7,cd,hj⟩:=bd hj
   refine RL.call (cg ai) zr G6 [a1] zr (aF (sw N (i0:=0) j zr cd) ?_)
   rintro _ w ⟨rfl,j⟩
   refine RL.kz a7 2000 (cg ai) (gF ai (vb (decide (a7<=2000))) (aP (vb (decide (a7<=2000))) (RL.nil ?_)))
   obtain rfl:=oi hj
   exact⟨rfl,a1,j.sp 10 [3,4,5,6,7,0]⟩
  rintro _ w ⟨ao,O,rfl,j⟩
  refine aG (RC.sr (mv (vp b0 0) (mv (vp b0 0) (RL.nilCheck zr (RL.bA zr B6 (RL.aX 0 af j Fu (mv ao (RL.fy ([an.2]: (List (List aA))) j [ao] B5 Eo (fun M hs g=>⟨(g.sat 5 _ zr).1,zt⟩) fun c0 w j=>?_))))))))
  have j:=j.freeze 0
  obtain⟨bl,cf,o⟩:=bd o
  refine RL.app 4 0 j Fv cf fun aq w j=>?_
  refine RL.nilCheck zr (RL.bA zr B6 (RL.gH 1 aq j zr zr (hL 4 j) Fu fun w j=>?_))
  refine RL.ns (mv ao ?_)
  obtain⟨ar,ch,o⟩:=bd o
  refine RL.call zt zr G8 [ao] zr (aF (rn N (i0:=6) j zr ch) ?_)
  rintro a8 w j
  refine RL.fQ 0 ar j Fm (mv (vi 0) (RL.nt ?_))
  obtain⟨aw,hN,o⟩:=bd o
  refine RC.fold (fun(a4:Nat) (aw: (List aH)) U w=>∃bm:Value,SH E V [(0,vp b0 0),(3,vb an.1),(4,vi ab),(16,v0_0),(17,vi p0_0.length),(18,vi ab),(64,a8),(65,vi ar.length),(66,vi a4)] [bc 57 b0 [v0_0,v0_1,v0_2,v0_3,aq,bm,v0_6,v0_7,v0_8,v0_9,v0_10,v0_11],own 98 bm aw,rd v0_0 p0_0,rd v0_2 p0_2,own 85 aq bl,own 85 a8 ar] U w) (fun(aw: (List aH)) U w=>∃a5:Value,SH E V [(0,vp b0 0),(3,vb an.1),(16,v0_0),(17,vi p0_0.length),(18,vi ab)] [bc 57 b0 [v0_0,v0_1,v0_2,v0_3,aq,a5,v0_6,v0_7,v0_8,v0_9,v0_10,v0_11],own 98 a5 aw,rd v0_0 p0_0,rd v0_2 p0_2,own 85 aq bl,own 85 a8 ar] U w) hN ?_ ?_ ?_ ?_
  ·exact⟨ag,j.sp 8 [2,6,3,4,5,0]⟩
  ·rintro hm aw _ w ⟨cj,O,rfl,j⟩
   refine RC.sr (ic ((ar.length:Int)) ((ar.length:Int)) (RL.nq (RC.cY nb (RC.ex ?_))))
   exact⟨rfl,cj,j.sp 6 [0,1,2,3,4,5]⟩
  ·rintro hm a4 aw s' _ w hk ⟨a9,O,rfl,j⟩ o
   refine RC.sr (ic ((a4:Int)) ((ar.length:Int)) (RL.nq (RC.cX (na hk) (RC.ss (RC.bs ?_)))))
   obtain⟨bn,ba,o⟩:=bd o
   refine RL.bK 5 j zr zr B5 ba (RL.kp (f:=(fun x=>x)) 5 j (jl 5 j ba 0) (aV ba).2.1 Fd.self Fp fun ax j=>?_)
   refine aP ax (RL.nt ?_)
   have j:=j.drew
   refine RC.BS (fun w=>Holds E w ([bc 57 b0 [v0_0,v0_1,v0_2,v0_3,aq,a9,v0_6,v0_7,v0_8,v0_9,v0_10,v0_11]]++V)) mixed zr [1,1,1,1,1,1,1,0,2,0,2,2,0,0,2] [0,1,2,3,4,5,6,7,8,9,10,11,12,13,14] (j.pk 7 [1]) (DP.e1 (vp b0 0) zr (fun w=>RL.move (vp b0 0) zt DP.d1) (DP.e1 (vp b0 0) zr (fun w=>RL.move (vp b0 0) zt DP.d1) (DP.e1 (vp b0 0) zr (fun w=>RL.nilCheck zr DP.d1) (DP.e1 (vp b0 5) zr (fun w=>RL.bA zr ph DP.d1) (DP.Ef a9 zr (fun w j=>RL.aX 0 a9 j ym DP.d1) (DP.e1 (vi ab) zr (fun w=>RL.move (vi ab) zt DP.d1) (DP.e1 ax zr (fun w=>RL.move ax zt DP.d1) (DP.e0 zr ?_))))))))
   refine mv ax (uF zr ?_)
   obtain⟨bo,ck,o⟩:=bd o
   refine RL.call zt zr Ek [ax] zr (aF (kB N (i0:=0) j zr ck) ?_)
   rintro cl w j
   refine DP.d2 (j.pk 8 [2]) (DP.e0 zr ?_)
   have j:=(j.sc Int (ab:Int)).freeze 1
   refine RL.build (⟨(ab:Int),bn,bo⟩:aH) trivial rfl j [(0,vi ab),(1,ax),(2,cl)] rfl G9 rfl (fun M hs g=>by have h:=uK M;exact dA.cons (f:=fun(x:aH) y=>{x with dY:=y}) h rW (g.sat 0 _ rfl).1 fun _ h=>dA.cons (f:=fun(x:aH) y=>{x with Set:=y}) h rX (g.sat 2 _ rfl).1 fun _ h=>dA.cons (f:=fun(x:aH) y=>{x with lW:=y}) h rY (g.sat 1 _ rfl).1 fun _ h=>dA.nil h) fun cm j=>?_
   refine uF zr (RL.fy ([(⟨(ab:Int),bn,bo⟩:aH)]: (List aH)) j [cm] Er Es (fun M hs g=>⟨(g.sat 0 _ zr).1,zt⟩) fun c1 w j=>(DP.d2 (j.pk 11 [5]) (DP.e2 zr ?_)))
   have j:=j.freeze 0
   obtain⟨c2,cn,o⟩:=bd o
   refine RL.app 6 0 j Ha cn fun bp w j=>?_
   refine DP.d2 (j.pk 11 [5]) (DP.e0 zr (RL.nilCheck zr (cJ zr (RL.bA zr ph (DP.d0 (DP.HQ zr zr (RL.gH 5 bp j zr zr (hL 6 j) ym fun w j=>?_)))))))
   refine DP.d2 zt (DP.z (bT (aG (RC.region (RL.inc hk hm (mv (vi ((a4+1:Nat):Int)) (RL.nil ?_)))))))
   obtain rfl:=oi o
   exact⟨rfl,bp,j.sp 11 [5,6,7,8,9,10]⟩
  rintro _ w ⟨a5,O,rfl,j⟩
  refine bT (aG (RC.region (RL.inc hk hm (mv (vi ((ab+1:Nat):Int)) (RL.nil ?_)))))
  obtain rfl:=oi o
  exact⟨rfl,aq,a5,j.sp 6 [0,4,1,2,3]⟩
 rintro _ w ⟨au,al,O,rfl,j⟩
 refine aG (RC.seq ?_)
 obtain⟨bb,hj,o⟩:=bd o
 refine RC.jn (fun(bb:Bool)=>SH E V [(0,vp b0 0),(2,vb bb)] [bc 57 b0 [v0_0,v0_1,v0_2,v0_3,au,al,v0_6,v0_7,v0_8,v0_9,v0_10,v0_11],rd v0_0 p0_0,rd v0_2 p0_2,own 85 au aa.1,own 98 al aa.2.1]) bb ?_ ?_
 ·refine RC.region (mv (vb aa.2.2) (mv (vb aa.2.2) (gC hj (fun ae hj=>?_) fun ae hj=>?_)))
  ·refine RL.move (vp b0 0) (cg ae) (RL.nilCheck (hg:=(cg ae)) zr (RL.bA (hg:=(cg ae)) zr ph (RL.aX (hg:=(cg ae)) 0 al j ym (RL.fQ (hg:=(cg ae)) 2 aa.2.1 j AV (RL.kz (aa.2.1.length:Int) 2000 (cg ae) (gF ae (vb (decide ((aa.2.1.length:Int)<=2000))) (aP (vb (decide ((aa.2.1.length:Int)<=2000))) (RL.nil ?_))))))))
   obtain rfl:=oi hj
   exact⟨rfl,j.sp 5 [0,3,4,1,2]⟩
  refine bV ae (bV ae (bV ae (bV ae (bV ae (bV ae (gF ae (vb false) (aP (vb false) (RL.nil ?_))))))))
  obtain rfl:=oi hj
  exact⟨rfl,j.sp 5 [0,3,4,1,2]⟩
 rintro _ w ⟨O,rfl,j⟩
 refine aG (RC.ret ?_)
 obtain rfl:=oi o
 exact cB ⟨au,al,zr,j.pk 5 [0,3,4]⟩
end Go.Gk
namespace Go.Gk
open Go Go.Proofs
variable (N:Nat) {E w:World} {b0 i0 i1:Nat} {p0 p1 p2 res:Int} {v0 v0_0 v0_1 v0_10 v0_11 v0_2 v0_3 v0_4 v0_5 v0_6 v0_7 v0_8 v0_9 v1:Value} {V:List HP}
theorem tA {p0 p1:aI} {res:Bool} (j:Holds E w V) (h0:V[i0]? =some (rd v0 p0)) (h1:V[i1]? =some (rd v1 p1)) (hb:nc N p0 p1=some res):
    Calls bC 47 [v0,v1].toArray w (gE (bB E V res)):=by
 unfold nc at hb
 refine enter Tryz.func47 zr zr ?_
 have j:=(j.dup (i0+0) h0).dup (i1+1) h1
 refine RC.sr (RL.dC 1 v0 j zr fun o w j=>?_)
 refine RL.dC 1 v1 j zr fun aa w j=>?_
 refine aP (vb false) (RL.ns (RL.bA zr iV (RL.aM 1 j zr eH cE (RL.bA zr jE (RL.aM 0 j zr fD cE (ic p0.X0 p1.X1 (mv (vb (decide (p0.X0<p1.X1))) (RL.gs true (decide (p0.X0<p1.X1)) (vp aa 0) zr zr zr (dI iV) ?_))))))))
 refine RL.gs true (decide (p0.X0<p1.X1)) (vi p1.X0) rfl rfl rfl (bQ 0 rfl j (fun h=>by exact(cI h:cv (true&&((decide (p0.X0<p1.X1))==true)) (vp aa 0)= (vp aa 0))) rfl eH cE) (RL.gs true (decide (p0.X0<p1.X1)) (vp o 2) rfl rfl rfl (dI jE) (RL.gs true (decide (p0.X0<p1.X1)) (vi p0.X1) rfl rfl rfl (bQ 1 rfl j (fun h=>by exact(cI h:cv (true&&((decide (p0.X0<p1.X1))==true)) (vp o 2)= (vp o 2))) rfl fD cE) (RL.gs true (decide (p0.X0<p1.X1)) (vb (decide (p1.X0<p0.X1))) rfl rfl rfl (dT .lss .i64 p1.X0 p0.X1 rfl (fun h=>by exact(cI h:cv (true&&((decide (p0.X0<p1.X1))==true)) (vi p1.X0)= (vi p1.X0))) (fun h=>by exact(cI h:cv (true&&((decide (p0.X0<p1.X1))==true)) (vi p0.X1)= (vi p0.X1))) rfl) (RL.pick (decide (p0.X0<p1.X1)) (vb ((decide (p0.X0<p1.X1))&&(decide (p1.X0<p0.X1)))) (gG true) (aP (vb ((decide (p0.X0<p1.X1))&&(decide (p1.X0<p0.X1)))) (RL.ns (RL.bA rfl jD (RL.aM 1 j rfl eW cE ?_))))))))
 refine RL.bA rfl my (RL.aM 0 j rfl iL cE (ic p0.Y0 p1.Y1 (mv (vb (decide (p0.Y0<p1.Y1))) (RL.gs true (decide (p0.Y0<p1.Y1)) (vp aa 1) rfl rfl rfl (dI jD) (RL.gs true (decide (p0.Y0<p1.Y1)) (vi p1.Y0) rfl rfl rfl (bQ 0 rfl j (fun h=>by exact(cI h:cv (true&&((decide (p0.Y0<p1.Y1))==true)) (vp aa 1)= (vp aa 1))) rfl eW cE) (RL.gs true (decide (p0.Y0<p1.Y1)) (vp o 3) rfl rfl rfl (dI my) (RL.gs true (decide (p0.Y0<p1.Y1)) (vi p0.Y1) rfl rfl rfl (bQ 1 rfl j (fun h=>by exact(cI h:cv (true&&((decide (p0.Y0<p1.Y1))==true)) (vp o 3)= (vp o 3))) rfl iL cE) (RL.gs true (decide (p0.Y0<p1.Y1)) (vb (decide (p1.Y0<p0.Y1))) rfl rfl rfl (dT .lss .i64 p1.Y0 p0.Y1 rfl (fun h=>by exact(cI h:cv (true&&((decide (p0.Y0<p1.Y1))==true)) (vi p1.Y0)= (vi p1.Y0))) (fun h=>by exact(cI h:cv (true&&((decide (p0.Y0<p1.Y1))==true)) (vi p0.Y1)= (vi p0.Y1))) rfl) ?_))))))))
 refine RL.pick (decide (p0.Y0<p1.Y1)) (vb ((decide (p0.Y0<p1.Y1))&&(decide (p1.Y0<p0.Y1)))) (gG true) (aP (vb ((decide (p0.Y0<p1.Y1))&&(decide (p1.Y0<p0.Y1)))) (RL.ns (mv (vb ((decide (p0.X0<p1.X1))&&(decide (p1.X0<p0.X1)))) (mv (vb ((decide (p0.X0<p1.X1))&&(decide (p1.X0<p0.X1)))) (RL.gs true ((decide (p0.X0<p1.X1))&&(decide (p1.X0<p0.X1))) (vp o 3) rfl rfl rfl (dI my) (RL.gs true ((decide (p0.X0<p1.X1))&&(decide (p1.X0<p0.X1))) (vi p0.Y1) rfl rfl rfl (bQ 1 rfl j (fun h=>by exact(cI h:cv (true&&(((decide (p0.X0<p1.X1))&&(decide (p1.X0<p0.X1)))==true)) (vp o 3)= (vp o 3))) rfl iL cE) (RL.gs true ((decide (p0.X0<p1.X1))&&(decide (p1.X0<p0.X1))) (vp aa 1) rfl rfl rfl (dI jD) (RL.gs true ((decide (p0.X0<p1.X1))&&(decide (p1.X0<p0.X1))) (vi p1.Y0) rfl rfl rfl (bQ 0 rfl j (fun h=>by exact(cI h:cv (true&&(((decide (p0.X0<p1.X1))&&(decide (p1.X0<p0.X1)))==true)) (vp aa 1)= (vp aa 1))) rfl eW cE) ?_))))))))
 refine RL.gs true ((decide (p0.X0<p1.X1))&&(decide (p1.X0<p0.X1))) (vb (p0.Y1==p1.Y0)) rfl rfl rfl (dT .eql .i64 p0.Y1 p1.Y0 rfl (fun h=>by exact(cI h:cv (true&&(((decide (p0.X0<p1.X1))&&(decide (p1.X0<p0.X1)))==true)) (vi p0.Y1)= (vi p0.Y1))) (fun h=>by exact(cI h:cv (true&&(((decide (p0.X0<p1.X1))&&(decide (p1.X0<p0.X1)))==true)) (vi p1.Y0)= (vi p1.Y0))) rfl) (RL.gs true ((decide (p0.X0<p1.X1))&&(decide (p1.X0<p0.X1))) (vb (p0.Y1==p1.Y0)) rfl rfl rfl (dD (hx:=fun h=>by exact(cI h:cv (true&&(((decide (p0.X0<p1.X1))&&(decide (p1.X0<p0.X1)))==true)) (vb (p0.Y1==p1.Y0))= (vb (p0.Y1==p1.Y0))))) (RL.gs (true&&(((decide (p0.X0<p1.X1))&&(decide (p1.X0<p0.X1)))==true)) (p0.Y1==p1.Y0) (vp aa 3) rfl rfl rfl (dI my) (RL.gs (true&&(((decide (p0.X0<p1.X1))&&(decide (p1.X0<p0.X1)))==true)) (p0.Y1==p1.Y0) (vi p1.Y1) rfl rfl rfl (bQ 0 rfl j (fun h=>by exact(cI h:cv ((true&&(((decide (p0.X0<p1.X1))&&(decide (p1.X0<p0.X1)))==true))&&((p0.Y1==p1.Y0)==false)) (vp aa 3)= (vp aa 3))) rfl iL cE) (RL.gs (true&&(((decide (p0.X0<p1.X1))&&(decide (p1.X0<p0.X1)))==true)) (p0.Y1==p1.Y0) (vp o 1) rfl rfl rfl (dI jD) (RL.gs (true&&(((decide (p0.X0<p1.X1))&&(decide (p1.X0<p0.X1)))==true)) (p0.Y1==p1.Y0) (vi p0.Y0) rfl rfl rfl (bQ 1 rfl j (fun h=>by exact(cI h:cv ((true&&(((decide (p0.X0<p1.X1))&&(decide (p1.X0<p0.X1)))==true))&&((p0.Y1==p1.Y0)==false)) (vp o 1)= (vp o 1))) rfl eW cE) (RL.gs (true&&(((decide (p0.X0<p1.X1))&&(decide (p1.X0<p0.X1)))==true)) (p0.Y1==p1.Y0) (vb (p1.Y1==p0.Y0)) rfl rfl rfl (dT .eql .i64 p1.Y1 p0.Y0 rfl (fun h=>by exact(cI h:cv ((true&&(((decide (p0.X0<p1.X1))&&(decide (p1.X0<p0.X1)))==true))&&((p0.Y1==p1.Y0)==false)) (vi p1.Y1)= (vi p1.Y1))) (fun h=>by exact(cI h:cv ((true&&(((decide (p0.X0<p1.X1))&&(decide (p1.X0<p0.X1)))==true))&&((p0.Y1==p1.Y0)==false)) (vi p0.Y0)= (vi p0.Y0))) rfl) (RL.gs true ((decide (p0.X0<p1.X1))&&(decide (p1.X0<p0.X1))) (vb ((p0.Y1==p1.Y0)||(p1.Y1==p0.Y0))) rfl rfl rfl (n0 (p0.Y1==p1.Y0) rfl (fun h=>by exact(cI h:cv (true&&(((decide (p0.X0<p1.X1))&&(decide (p1.X0<p0.X1)))==true)) (vb (p0.Y1==p1.Y0))= (vb (p0.Y1==p1.Y0)))) (fun h=>by exact oF (true&&(((decide (p0.X0<p1.X1))&&(decide (p1.X0<p0.X1)))==true)) h)) (RL.pick ((decide (p0.X0<p1.X1))&&(decide (p1.X0<p0.X1))) (vb (((decide (p0.X0<p1.X1))&&(decide (p1.X0<p0.X1)))&&((p0.Y1==p1.Y0)||(p1.Y1==p0.Y0)))) (gG true) ?_))))))))
 refine mv (vb (((decide (p0.X0<p1.X1))&&(decide (p1.X0<p0.X1)))&&((p0.Y1==p1.Y0)||(p1.Y1==p0.Y0)))) (RL.gs true (((decide (p0.X0<p1.X1))&&(decide (p1.X0<p0.X1)))&&((p0.Y1==p1.Y0)||(p1.Y1==p0.Y0))) (vb ((decide (p0.Y0<p1.Y1))&&(decide (p1.Y0<p0.Y1)))) rfl rfl rfl dD (RL.gs true (((decide (p0.X0<p1.X1))&&(decide (p1.X0<p0.X1)))&&((p0.Y1==p1.Y0)||(p1.Y1==p0.Y0))) (vb ((decide (p0.Y0<p1.Y1))&&(decide (p1.Y0<p0.Y1)))) rfl rfl rfl (dD (hx:=fun h=>by exact(cI h:cv (true&&((((decide (p0.X0<p1.X1))&&(decide (p1.X0<p0.X1)))&&((p0.Y1==p1.Y0)||(p1.Y1==p0.Y0)))==false)) (vb ((decide (p0.Y0<p1.Y1))&&(decide (p1.Y0<p0.Y1))))= (vb ((decide (p0.Y0<p1.Y1))&&(decide (p1.Y0<p0.Y1))))))) (RL.gs (true&&((((decide (p0.X0<p1.X1))&&(decide (p1.X0<p0.X1)))&&((p0.Y1==p1.Y0)||(p1.Y1==p0.Y0)))==false)) ((decide (p0.Y0<p1.Y1))&&(decide (p1.Y0<p0.Y1))) (vp o 2) rfl rfl rfl (dI jE) (RL.gs (true&&((((decide (p0.X0<p1.X1))&&(decide (p1.X0<p0.X1)))&&((p0.Y1==p1.Y0)||(p1.Y1==p0.Y0)))==false)) ((decide (p0.Y0<p1.Y1))&&(decide (p1.Y0<p0.Y1))) (vi p0.X1) rfl rfl rfl (bQ 1 rfl j (fun h=>by exact(cI h:cv ((true&&((((decide (p0.X0<p1.X1))&&(decide (p1.X0<p0.X1)))&&((p0.Y1==p1.Y0)||(p1.Y1==p0.Y0)))==false))&&(((decide (p0.Y0<p1.Y1))&&(decide (p1.Y0<p0.Y1)))==true)) (vp o 2)= (vp o 2))) rfl fD cE) (RL.gs (true&&((((decide (p0.X0<p1.X1))&&(decide (p1.X0<p0.X1)))&&((p0.Y1==p1.Y0)||(p1.Y1==p0.Y0)))==false)) ((decide (p0.Y0<p1.Y1))&&(decide (p1.Y0<p0.Y1))) (vp aa 0) rfl rfl rfl (dI iV) (RL.gs (true&&((((decide (p0.X0<p1.X1))&&(decide (p1.X0<p0.X1)))&&((p0.Y1==p1.Y0)||(p1.Y1==p0.Y0)))==false)) ((decide (p0.Y0<p1.Y1))&&(decide (p1.Y0<p0.Y1))) (vi p1.X0) rfl rfl rfl (bQ 0 rfl j (fun h=>by exact(cI h:cv ((true&&((((decide (p0.X0<p1.X1))&&(decide (p1.X0<p0.X1)))&&((p0.Y1==p1.Y0)||(p1.Y1==p0.Y0)))==false))&&(((decide (p0.Y0<p1.Y1))&&(decide (p1.Y0<p0.Y1)))==true)) (vp aa 0)= (vp aa 0))) rfl eH cE) (RL.gs (true&&((((decide (p0.X0<p1.X1))&&(decide (p1.X0<p0.X1)))&&((p0.Y1==p1.Y0)||(p1.Y1==p0.Y0)))==false)) ((decide (p0.Y0<p1.Y1))&&(decide (p1.Y0<p0.Y1))) (vb (p0.X1==p1.X0)) rfl rfl rfl (dT .eql .i64 p0.X1 p1.X0 rfl (fun h=>by exact(cI h:cv ((true&&((((decide (p0.X0<p1.X1))&&(decide (p1.X0<p0.X1)))&&((p0.Y1==p1.Y0)||(p1.Y1==p0.Y0)))==false))&&(((decide (p0.Y0<p1.Y1))&&(decide (p1.Y0<p0.Y1)))==true)) (vi p0.X1)= (vi p0.X1))) (fun h=>by exact(cI h:cv ((true&&((((decide (p0.X0<p1.X1))&&(decide (p1.X0<p0.X1)))&&((p0.Y1==p1.Y0)||(p1.Y1==p0.Y0)))==false))&&(((decide (p0.Y0<p1.Y1))&&(decide (p1.Y0<p0.Y1)))==true)) (vi p1.X0)= (vi p1.X0))) rfl) (RL.gs (true&&((((decide (p0.X0<p1.X1))&&(decide (p1.X0<p0.X1)))&&((p0.Y1==p1.Y0)||(p1.Y1==p0.Y0)))==false)) ((decide (p0.Y0<p1.Y1))&&(decide (p1.Y0<p0.Y1))) (vb (p0.X1==p1.X0)) rfl rfl rfl (dD (hx:=fun h=>by exact(cI h:cv ((true&&((((decide (p0.X0<p1.X1))&&(decide (p1.X0<p0.X1)))&&((p0.Y1==p1.Y0)||(p1.Y1==p0.Y0)))==false))&&(((decide (p0.Y0<p1.Y1))&&(decide (p1.Y0<p0.Y1)))==true)) (vb (p0.X1==p1.X0))= (vb (p0.X1==p1.X0))))) ?_))))))))
 refine RL.gs ((true&&((((decide (p0.X0<p1.X1))&&(decide (p1.X0<p0.X1)))&&((p0.Y1==p1.Y0)||(p1.Y1==p0.Y0)))==false))&&(((decide (p0.Y0<p1.Y1))&&(decide (p1.Y0<p0.Y1)))==true)) (p0.X1==p1.X0) (vp aa 2) rfl rfl rfl (dI jE) (RL.gs ((true&&((((decide (p0.X0<p1.X1))&&(decide (p1.X0<p0.X1)))&&((p0.Y1==p1.Y0)||(p1.Y1==p0.Y0)))==false))&&(((decide (p0.Y0<p1.Y1))&&(decide (p1.Y0<p0.Y1)))==true)) (p0.X1==p1.X0) (vi p1.X1) rfl rfl rfl (bQ 0 rfl j (fun h=>by exact(cI h:cv (((true&&((((decide (p0.X0<p1.X1))&&(decide (p1.X0<p0.X1)))&&((p0.Y1==p1.Y0)||(p1.Y1==p0.Y0)))==false))&&(((decide (p0.Y0<p1.Y1))&&(decide (p1.Y0<p0.Y1)))==true))&&((p0.X1==p1.X0)==false)) (vp aa 2)= (vp aa 2))) rfl fD cE) (RL.gs ((true&&((((decide (p0.X0<p1.X1))&&(decide (p1.X0<p0.X1)))&&((p0.Y1==p1.Y0)||(p1.Y1==p0.Y0)))==false))&&(((decide (p0.Y0<p1.Y1))&&(decide (p1.Y0<p0.Y1)))==true)) (p0.X1==p1.X0) (vp o 0) rfl rfl rfl (dI iV) (RL.gs ((true&&((((decide (p0.X0<p1.X1))&&(decide (p1.X0<p0.X1)))&&((p0.Y1==p1.Y0)||(p1.Y1==p0.Y0)))==false))&&(((decide (p0.Y0<p1.Y1))&&(decide (p1.Y0<p0.Y1)))==true)) (p0.X1==p1.X0) (vi p0.X0) rfl rfl rfl (bQ 1 rfl j (fun h=>by exact(cI h:cv (((true&&((((decide (p0.X0<p1.X1))&&(decide (p1.X0<p0.X1)))&&((p0.Y1==p1.Y0)||(p1.Y1==p0.Y0)))==false))&&(((decide (p0.Y0<p1.Y1))&&(decide (p1.Y0<p0.Y1)))==true))&&((p0.X1==p1.X0)==false)) (vp o 0)= (vp o 0))) rfl eH cE) (RL.gs ((true&&((((decide (p0.X0<p1.X1))&&(decide (p1.X0<p0.X1)))&&((p0.Y1==p1.Y0)||(p1.Y1==p0.Y0)))==false))&&(((decide (p0.Y0<p1.Y1))&&(decide (p1.Y0<p0.Y1)))==true)) (p0.X1==p1.X0) (vb (p1.X1==p0.X0)) rfl rfl rfl (dT .eql .i64 p1.X1 p0.X0 rfl (fun h=>by exact(cI h:cv (((true&&((((decide (p0.X0<p1.X1))&&(decide (p1.X0<p0.X1)))&&((p0.Y1==p1.Y0)||(p1.Y1==p0.Y0)))==false))&&(((decide (p0.Y0<p1.Y1))&&(decide (p1.Y0<p0.Y1)))==true))&&((p0.X1==p1.X0)==false)) (vi p1.X1)= (vi p1.X1))) (fun h=>by exact(cI h:cv (((true&&((((decide (p0.X0<p1.X1))&&(decide (p1.X0<p0.X1)))&&((p0.Y1==p1.Y0)||(p1.Y1==p0.Y0)))==false))&&(((decide (p0.Y0<p1.Y1))&&(decide (p1.Y0<p0.Y1)))==true))&&((p0.X1==p1.X0)==false)) (vi p0.X0)= (vi p0.X0))) rfl) (RL.gs (true&&((((decide (p0.X0<p1.X1))&&(decide (p1.X0<p0.X1)))&&((p0.Y1==p1.Y0)||(p1.Y1==p0.Y0)))==false)) ((decide (p0.Y0<p1.Y1))&&(decide (p1.Y0<p0.Y1))) (vb ((p0.X1==p1.X0)||(p1.X1==p0.X0))) rfl rfl rfl (n0 (p0.X1==p1.X0) rfl (fun h=>by exact(cI h:cv ((true&&((((decide (p0.X0<p1.X1))&&(decide (p1.X0<p0.X1)))&&((p0.Y1==p1.Y0)||(p1.Y1==p0.Y0)))==false))&&(((decide (p0.Y0<p1.Y1))&&(decide (p1.Y0<p0.Y1)))==true)) (vb (p0.X1==p1.X0))= (vb (p0.X1==p1.X0)))) (fun h=>by exact oF ((true&&((((decide (p0.X0<p1.X1))&&(decide (p1.X0<p0.X1)))&&((p0.Y1==p1.Y0)||(p1.Y1==p0.Y0)))==false))&&(((decide (p0.Y0<p1.Y1))&&(decide (p1.Y0<p0.Y1)))==true)) h)) (RL.gs true (((decide (p0.X0<p1.X1))&&(decide (p1.X0<p0.X1)))&&((p0.Y1==p1.Y0)||(p1.Y1==p0.Y0))) (vb (((decide (p0.Y0<p1.Y1))&&(decide (p1.Y0<p0.Y1)))&&((p0.X1==p1.X0)||(p1.X1==p0.X0)))) rfl rfl rfl (n0 ((decide (p0.Y0<p1.Y1))&&(decide (p1.Y0<p0.Y1))) rfl (fun h=>by exact(cI h:cv (true&&((((decide (p0.X0<p1.X1))&&(decide (p1.X0<p0.X1)))&&((p0.Y1==p1.Y0)||(p1.Y1==p0.Y0)))==false)) (vb ((decide (p0.Y0<p1.Y1))&&(decide (p1.Y0<p0.Y1))))= (vb ((decide (p0.Y0<p1.Y1))&&(decide (p1.Y0<p0.Y1)))))) (fun h=>by exact gG (h:=h) (true&&((((decide (p0.X0<p1.X1))&&(decide (p1.X0<p0.X1)))&&((p0.Y1==p1.Y0)||(p1.Y1==p0.Y0)))==false)))) (RL.pick (((decide (p0.X0<p1.X1))&&(decide (p1.X0<p0.X1)))&&((p0.Y1==p1.Y0)||(p1.Y1==p0.Y0))) (vb ((((decide (p0.X0<p1.X1))&&(decide (p1.X0<p0.X1)))&&((p0.Y1==p1.Y0)||(p1.Y1==p0.Y0)))||(((decide (p0.Y0<p1.Y1))&&(decide (p1.Y0<p0.Y1)))&&((p0.X1==p1.X0)||(p1.X1==p0.X0))))) (oF true rfl) (aP (vb ((((decide (p0.X0<p1.X1))&&(decide (p1.X0<p0.X1)))&&((p0.Y1==p1.Y0)||(p1.Y1==p0.Y0)))||(((decide (p0.Y0<p1.Y1))&&(decide (p1.Y0<p0.Y1)))&&((p0.X1==p1.X0)||(p1.X1==p0.X0))))) ?_))))))))
 refine RL.nt (RC.ret ?_)
 obtain rfl:=oi hb
 exact cB ⟨rfl,j.drop 4⟩
theorem np {p0:aI} {p1:bU} {res:Bool} (j:Holds E w V) (h0:V[i0]? =some (rd v0 p0)) (h1:V[i1]? =some (pt v1 p1)) (o:gS N p0 p1=some res):
    Calls bC 46 [v0,v1].toArray w (gE (bB E V res)):=by
 unfold gS at o
 refine enter Tryz.func46 zr zr ?_
 have j:=(j.dup (i0+0) h0).uu (i:=i1+1) h1
 refine RC.sr (RL.dC 1 v0 j zr fun ah w j=>?_)
 have j:=j.gx (i:=0) rfl
 refine aP (vb false) (RL.nq (RC.ye mixed [1,0,2,2,0] [0,1,2,3,4] ?_))
 have j:=j.drew
 refine DP.vI p0 0 zr zt j gW fun aa a33 ai j=>(DP.e0 zr (RL.bY 3 p1 j mN fun ab j=>(uF zr ?_)))
 obtain⟨aj,ad,o⟩:=bd o
 refine RL.call zt zr AQ [ab] zr (aF (fN N (i0:=0) j zr ad) ?_)
 rintro ae w j
 refine DP.d2 (⟨zt,j.kM 2⟩) (DP.e2 zr ?_)
 obtain⟨af,ag,o⟩:=bd o
 refine RL.call zt zr Hc [aa,ae] zr (aF (tA N (i0:=3) (i1:=0) j zr zr ag) ?_)
 rintro _ w ⟨rfl,j⟩
 refine DP.d2 (⟨zt,j.kM 2⟩) (DP.e0 zr (aP (vb af) (DP.d0 ?_)))
 have j:=j.pl 7 [0,1,3,4,5,6]
 refine DP.z (aG (RC.ret ?_))
 obtain rfl:=oi o
 exact cB ⟨rfl,j.drop 6⟩
theorem jo {p0: (List aI)} {p1:aI->Option Bool} {res:Bool} (j:Holds E w V) (h0:V[i0]? =some (rd v0 p0)) (h1:CO bC E V v1 p1 (fun(r:Bool)=>Value.bool r)) (o:eI N p0 p1=some res):
    Calls bC 45 [v0,v1].toArray w (gE (bB E V res)):=by
 unfold eI at o
 refine enter Tryz.func45 zr zr ?_
 have j:=j.dup (i0+0) h0
 refine RC.sr (aP (vb false) (RL.ns (mv v0 (mv v1 ?_))))
 obtain⟨aa,ab,o⟩:=bd o
 refine RL.call zt zr E5 [v0,v1] zr (aF (nk N (i0:=0) j zr (h1.lift 1 zr) ab) ?_)
 rintro _ w ⟨rfl,j⟩
 refine ic aa 0 (aP (vb (decide (aa>=0))) (RL.nt (RC.ret ?_)))
 obtain rfl:=oi o
 exact cB ⟨rfl,j.drop 1⟩
def pD (E:World) (V:List HP) (b0:Nat) (v0_0 v0_1:Value) (v0_2 v0_3:Value) (v0_4 v0_5:Value) (v0_7 v0_8:Value) (v0_9 v0_10 v0_11:Value) (res: (List (List Int))) (v:Value) (w:World):Prop:=∃u0_6:Value,v = .tuple #[]/\Holds E w ([bc 57 b0 [v0_0,v0_1,v0_2,v0_3,v0_4,v0_5,u0_6,v0_7,v0_8,v0_9,v0_10,v0_11],own 43 u0_6 res]++V)
theorem oT {p0_2: (List bU)} {p0_5: (List aH)} {p0_6: (List (List Int))} {res: (List (List Int))} (j:Holds E w (bc 57 b0 [v0_0,v0_1,v0_2,v0_3,v0_4,v0_5,v0_6,v0_7,v0_8,v0_9,v0_10,v0_11]::rd v0_2 p0_2::rd v0_5 p0_5::own 43 v0_6 p0_6::V)) (hb:gK N p0_2 p0_5 p0_6=some res):
    Calls bC 17 [(vp b0 0)].toArray w (gE (pD E V b0 v0_0 v0_1 v0_2 v0_3 v0_4 v0_5 v0_7 v0_8 v0_9 v0_10 v0_11 res)):=by
 unfold gK at hb
 refine enter Tryz.func17 zr zr (RC.sr (mv (vp b0 0) (RL.nilCheck zr (RL.bA zr lS (RL.bA zr lq (RL.aX 0 v0_2 j tn (RL.bF 1 p0_2 j uL (mv (vi 0) ?_))))))))
 refine RL.nt ?_
 obtain⟨af,hN,hb⟩:=bd hb
 refine RC.fold (fun(ai:Nat) (af: (List (List Int))) U w=>∃az:Value,SH E V [(0,vp b0 0),(11,v0_2),(12,vi p0_2.length),(13,vi ai)] [bc 57 b0 [v0_0,v0_1,v0_2,v0_3,v0_4,v0_5,az,v0_7,v0_8,v0_9,v0_10,v0_11],own 43 az af,rd v0_2 p0_2,rd v0_5 p0_5] U w) (fun(af: (List (List Int))) U w=>∃aq:Value,SH E V [(0,vp b0 0)] [bc 57 b0 [v0_0,v0_1,v0_2,v0_3,v0_4,v0_5,aq,v0_7,v0_8,v0_9,v0_10,v0_11],own 43 aq af,rd v0_2 p0_2,rd v0_5 p0_5] U w) hN ?_ ?_ ?_ ?_
 ·exact⟨v0_6,j.sp 4 [0,3,1,2]⟩
 ·rintro hm af _ w ⟨a4,O,rfl,j⟩
  refine RC.sr (ic ((p0_2.length:Int)) ((p0_2.length:Int)) (RL.nq (RC.cY nb (RC.ex ?_))))
  exact⟨rfl,a4,j.sp 4 [0,1,2,3]⟩
 ·rintro hm ai af s' _ w hk ⟨ah,O,rfl,j⟩ hb
  refine RC.sr (ic ((ai:Int)) ((p0_2.length:Int)) (RL.nq (RC.cX (na hk) (RC.ss (RC.bs ?_)))))
  obtain⟨aj,a5,hb⟩:=bd hb
  refine RL.cF 2 j w4 a5 fun bk j=>(RL.bY 0 aj j mN fun bl j=>(RL.alloc j AP.z fun ag w j=>?_))
  refine RL.bJ 0 j 1 zr mN fun w j=>?_
  refine RL.ns (aP (.slice none 0 0) (RL.nq (RC.sr (mv (vp b0 0) (RL.nilCheck zr (RL.bA zr ph (RL.aX 3 v0_5 j ym (RL.bF 6 p0_5 j AV ?_))))))))
  refine mv (vi 0) (RL.nt ?_)
  have j:=j.gx (i:=0) rfl
  obtain⟨ak,hN,hb⟩:=bd hb
  refine RC.fold (fun(ab:Nat) (ak: (List Int)) U w=>∃a0:Value,SH E V [(0,vp b0 0),(3,vp ag 0),(4,a0),(11,v0_2),(12,vi p0_2.length),(13,vi ai),(20,v0_5),(21,vi p0_5.length),(22,vi ab)] [bc 57 b0 [v0_0,v0_1,v0_2,v0_3,v0_4,v0_5,ah,v0_7,v0_8,v0_9,v0_10,v0_11],rd v0_2 p0_2,rd v0_5 p0_5,own 43 ah af,pt (vp ag 0) aj,own 3 a0 ak] U w) (fun(ak: (List Int)) U w=>∃ao:Value,SH E V [(0,vp b0 0),(4,ao),(11,v0_2),(12,vi p0_2.length),(13,vi ai)] [bc 57 b0 [v0_0,v0_1,v0_2,v0_3,v0_4,v0_5,ah,v0_7,v0_8,v0_9,v0_10,v0_11],rd v0_2 p0_2,rd v0_5 p0_5,own 43 ah af,pt (vp ag 0) aj,own 3 ao ak] U w) hN ?_ ?_ ?_ ?_
  ·have j:=j.dP Int 3
   exact⟨(.slice none 0 0),j.sp 8 [4,6,7,5,1,0]⟩
  ·rintro hm ak _ w ⟨a6,O,rfl,j⟩
   refine RC.sr (ic ((p0_5.length:Int)) ((p0_5.length:Int)) (RL.nq (RC.cY nb (RC.ex ?_))))
   exact⟨rfl,a6,j.sp 6 [0,1,2,3,4,5]⟩
  ·rintro hm ab ak s' _ w hk ⟨ar,O,rfl,j⟩ hb
   refine RC.sr (ic ((ab:Int)) ((p0_5.length:Int)) (RL.nq (RC.cX (na hk) (RC.ss (RC.bs (mv (vi ab) ?_))))))
   obtain⟨aw,a7,hb⟩:=bd hb
   refine RL.cF 2 j Er a7 fun bm j=>(RL.bY 0 aw j Df fun bn j=>(RL.alloc j Es.z fun bo w j=>?_))
   refine aP (vi ab) (RL.bJ 0 j 1 zr Df fun w j=>?_)
   refine RL.nq ?_
   obtain⟨ax,o,hb⟩:=bd hb
   refine RC.jn (fun(ax:Bool)=>SH E V [(0,vp b0 0),(3,vp ag 0),(4,ar),(5,vi ab),(11,v0_2),(12,vi p0_2.length),(13,vi ai),(20,v0_5),(21,vi p0_5.length),(22,vi ab),(40,vb ax)] [bc 57 b0 [v0_0,v0_1,v0_2,v0_3,v0_4,v0_5,ah,v0_7,v0_8,v0_9,v0_10,v0_11],rd v0_2 p0_2,rd v0_5 p0_5,own 43 ah af,pt (vp ag 0) aj,own 3 ar ak]) ax ?_ ?_
   ·refine RC.region (RL.iw 7 j zr w7 qe fun bp j=>(RL.bH aj.gh 0 j wo (mv (vb aj.gh) (gC o (fun ad o=>?_) fun ad o=>?_))))
    rotate_left
    ·refine bV ad (bV ad (bV ad (bV ad (gF ad (vb false) (mv (vb false) (ng (ng (ng ?_))))))))
     refine ng (RL.pick false (vb false) zr (RL.nil ?_))
     obtain rfl:=oi o
     exact⟨rfl,j.sp 10 [4,5,6,7,8,9]⟩
    refine RL.bY (hg:=(cg ad)) 8 aj j mN fun a8 j=>(RL.bA (hg:=(cg ad)) zr B7 (RL.aM (hg:=(cg ad)) 2 j zr mW cE ?_))
    obtain⟨a1,a9,o⟩:=bd o
    refine RL.call (cg ad) zr En [a8,(vi aw.dY)] zr (aF (kX N (p1:=aw.dY) (i0:=0) j zr a9) ?_)
    rintro _ w ⟨rfl,j⟩
    refine gF ad (vb a1) (mv (vb a1) (gC o (fun ae o=>?_) fun ae o=>?_))
    rotate_left
    ·refine bV ae (bV ae (bV ae (bV ae (gF ae (vb false) (RL.nil ?_)))))
     obtain rfl:=oi o
     exact⟨rfl,j.sp 11 [5,6,7,8,9,10]⟩
    refine RL.bA (hg:=(cg ae)) zr B8 (RL.aZ (hg:=(cg ae)) 2 j zr mX w3 fun ba j=>(RL.makeFunc (hg:=(cg ae)) [(vp ag 0)] ?_))
    obtain⟨bb,bf,o⟩:=bd o
    refine RL.call (cg ae) rfl Fx [ba,(.func (.func 46) #[] #[(vp ag 0)])] rfl (aF (jo N (i0:=0) j rfl ⟨46,[(vp ag 0)],rfl,Hd,fun w Γl v y0 r i j hi hr=>by exact aF (np N (i0:=i) (i1:=Γl.length+10) j hi (wM rfl) hr) fun _ _ h=>h⟩ bf) ?_)
    rintro _ w ⟨rfl,j⟩
    refine gF ae (vb bb) (RL.nil ?_)
    obtain rfl:=oi o
    exact⟨rfl,j.sp 12 [6,7,8,9,10,11]⟩
   rintro _ w ⟨O,rfl,j⟩
   refine aG ?_
   obtain⟨ay,o,hb⟩:=bd hb
   refine RC.jn (fun(ay: (List Int)) U w=>∃au:Value,SH E V [(0,vp b0 0),(3,vp ag 0),(4,au),(11,v0_2),(12,vi p0_2.length),(13,vi ai),(20,v0_5),(21,vi p0_5.length),(22,vi ab)] [bc 57 b0 [v0_0,v0_1,v0_2,v0_3,v0_4,v0_5,ah,v0_7,v0_8,v0_9,v0_10,v0_11],rd v0_2 p0_2,rd v0_5 p0_5,own 43 ah af,pt (vp ag 0) aj,own 3 au ay] U w) ay ?_ ?_
   ·refine fE o (fun hc o=>?_) fun hc o=>?_
    rotate_left
    ·refine RC.skip ?_
     obtain rfl:=oi o
     exact⟨rfl,ar,j.sp 6 [0,1,2,3,4,5]⟩
    refine RC.region (mv ar (mv (vi ab) ?_))
    have j:=j.sc Int (ab:Int)
    refine RL.fy ([(ab:Int)]: (List Int)) j [(vi ab)] eC BW (fun M hs g=>⟨(g.sat 0 _ zr).1,zt⟩) fun bq w j=>?_
    have j:=j.freeze 0
    obtain⟨br,bh,o⟩:=bd o
    refine RL.app 7 0 j r7 bh fun a2 w j=>?_
    refine aP a2 (RL.nil ?_)
    obtain rfl:=oi o
    exact⟨rfl,a2,j.sp 8 [2,3,4,5,6,7]⟩
   rintro _ w ⟨au,O,rfl,j⟩
   refine bT (aG (RC.region (RL.inc hk hm (mv (vi ((ab+1:Nat):Int)) (RL.nil ?_)))))
   obtain rfl:=oi hb
   exact⟨rfl,au,j.sp 6 [0,1,2,3,4,5]⟩
  rintro _ w ⟨ao,O,rfl,j⟩
  refine aG (RC.region (mv (vp b0 0) (mv (vp b0 0) (RL.nilCheck zr (RL.bA zr w8 (RL.aX 0 ah j Dg (mv ao ?_)))))))
  have j:=j.freeze 5
  refine RL.fy ([ak]: (List (List Int))) j [ao] zh Fy (fun M hs g=>⟨(g.sat 5 _ zr).1,zt⟩) fun bt w j=>?_
  have j:=j.freeze 0
  obtain⟨bu,bj,hb⟩:=bd hb
  refine RL.app 4 0 j Fz bj fun a3 w j=>?_
  refine RL.nilCheck zr (RL.bA zr w8 (RL.gH 1 a3 j zr zr (hL 4 j) Dg fun w j=>?_))
  refine RL.nil (bT (aG (RC.region (RL.inc hk hm (mv (vi ((ai+1:Nat):Int)) (RL.nil ?_))))))
  obtain rfl:=oi hb
  exact⟨rfl,a3,j.sp 7 [1,4,2,3]⟩
 rintro _ w ⟨aq,O,rfl,j⟩
 obtain rfl:=oi hb
 refine xF ?_
 exact CT zr ⟨aq,zr,j.pk 4 [0,1]⟩
def rp (E:World) (V:List HP) (res: ((List Int))) (v:Value) (w:World):Prop:=∃(ub0:Nat) (u0_0:Value),v=vp ub0 0/\Holds E w ([bc 112 ub0 [u0_0],own 3 u0_0 res]++V)
theorem lX {res: ((List Int))} (j:Holds E w V) (hb:gz N p0=some res):
    Calls bC 27 [(vi p0)].toArray w (gE (rp E V res)):=by
 unfold gz at hb
 refine enter Tryz.func27 zr zr (RC.sr (aP (.pointer none) (RL.ns (mv (vi p0) ?_))))
 obtain⟨af,aj,hb⟩:=bd hb
 refine RL.mk p0 j r7 EJ aj fun o w j=>?_
 refine RL.BD (zs:=[(.slice none 0 0)]) (cs:=[o]) zt zr [(0,o)] zr FA ⟨(hL 0 j),zt⟩ zr (RL.zU (cs:=[o]) zt zr j zr (xU.all (⟨(hL 0 j),zt⟩:xU [o])) fun ab w j=>?_)
 refine aP (vp ab 0) (RL.nq (RC.sr (mv (vp ab 0) (RL.nilCheck zr (RL.bA zr l9 (RL.aX 0 o j eJ (RL.fQ 1 af j ln (mv (vi 0) ?_))))))))
 refine RL.nt ?_
 obtain⟨ae,hN,hb⟩:=bd hb
 refine RC.fold (fun(ad:Nat) (ae: (List Int))=>SH E V [(3,vp ab 0),(13,vi af.length),(14,vi ad)] [bc 112 ab [o],own 3 o ae]) (fun(ae: (List Int))=>SH E V [(3,vp ab 0)] [bc 112 ab [o],own 3 o ae]) hN ?_ ?_ ?_ ?_
 ·exact j.sp 2 [0,1]
 ·rintro hm ae _ w ⟨O,rfl,j⟩
  refine RC.sr (ic ((af.length:Int)) ((af.length:Int)) (RL.nq (RC.cY nb (RC.ex ?_))))
  exact⟨rfl,j.sp 2 [0,1]⟩
 ·rintro hm ad ae s' _ w hk ⟨O,rfl,j⟩ hb
  refine RC.sr (ic ((ad:Int)) ((af.length:Int)) (RL.nq (RC.cX (na hk) (RC.ss (RC.bs (mv (vi ad) (aP (vi ad) (RL.nt ?_))))))))
  refine RC.region (mv (vp ab 0) (RL.nilCheck zr (RL.bA zr l9 (RL.aX 0 o j eJ (mv (vi ad) (mv (vi ad) ?_))))))
  obtain⟨al,ag,hb⟩:=bd hb
  refine RL.bK 1 j zr zr eC ag ?_
  have j:=j.sc Int (ad:Int)
  refine RL.fJ (f:=(fun _ y=>y)) 2 0 j (jl 2 j ag 0) (aV ag).2.1 zr Fs.self cE fun w j=>?_
  refine RL.nil (bT (aG (RC.region (RL.inc hk hm (mv (vi ((ad+1:Nat):Int)) (RL.nil ?_))))))
  obtain rfl:=oi hb
  exact⟨rfl,j.sp 3 [1,2]⟩
 rintro _ w ⟨O,rfl,j⟩
 refine aG (RC.sr (mv (vp ab 0) (aP (vp ab 0) (RL.nt (RC.ret ?_)))))
 obtain rfl:=oi hb
 exact cB ⟨ab,o,zr,j.pk 2 [0,1]⟩
def qK (E:World) (V:List HP) (b0:Nat) (res:Int×(List Int)) (v:Value) (w:World):Prop:=∃u0_0:Value,v= (vi res.1)/\Holds E w ([bc 112 b0 [u0_0],own 3 u0_0 res.2]++V)
theorem eX {p0_0: (List Int)} {res:Int×(List Int)} (j:Holds E w (bc 112 b0 [v0_0]::own 3 v0_0 p0_0::V)) (o:cW N p0_0 p1=some res):
    Calls bC 30 [(vp b0 0),(vi p1)].toArray w (gE (qK E V b0 res)):=by
 unfold cW at o
 refine enter Tryz.func30 zr zr (RC.sr (aP (vi 0) (RL.nq ?_)))
 obtain⟨an,hN,o⟩:=bd o
 refine RC.iter (fun(aa: (List Int)×Int)=>SH E V [(0,vp b0 0),(1,vi aa.2)] [bc 112 b0 [v0_0],own 3 v0_0 aa.1]) (fun(aa: (List Int)×Int)=>SH E V [(0,vp b0 0),(1,vi aa.2)] [bc 112 b0 [v0_0],own 3 v0_0 aa.1]) (fun(r:Empty) _ _=>r.elim) hN ?_ ?_ ?_ ?_
 ·exact j.sp 2 [0,1]
 ·rintro aa fl _ w ⟨O,rfl,j⟩ o
  refine RC.seq (RC.sr (mv (vp b0 0) (RL.nilCheck zr (RL.bA zr l9 (RL.aX 0 v0_0 j eJ (mv (vi aa.2) ?_))))))
  obtain⟨ai,ab,o⟩:=bd o
  refine RL.bK 1 j zr zr eC ab (RL.cV (f:=(fun x=>x)) 1 j (jl 1 j ab 0) (aV ab).2.1 Fd.self cE (mv (vi aa.2) (ic ai aa.2 (RL.nt (fE o (fun hc o=>?_) fun hc o=>?_)))))
  rotate_left
  ·refine RC.ex ?_
   obtain rfl:=oi o
   exact⟨rfl,j.sp 2 [0,1]⟩
  refine RC.sn (RC.block (RC.seq (RC.ye mixed [0,0,0,0,0,0,0,0,0,0,0,0,0,0,0,0,0,0,0,2] [0,1,2,3,4,5,6,7,8,9,10,11,12,13,14,15,16,17,18,19] ?_)))
  have j:=j.drew
  refine DP.e0 zr (mv (vp b0 0) (cJ zr (RL.nilCheck zr (cJ zr (RL.bA zr l9 (cJ zr (RL.aX 0 v0_0 j eJ (cJ zr ?_))))))))
  refine mv (vi aa.2) (cJ zr (mv (vp b0 0) (cJ zr (RL.nilCheck zr (cJ zr (RL.bA zr l9 (cJ zr (RL.aX 0 v0_0 j eJ ?_))))))))
  refine cJ zr (mv (vp b0 0) (cJ zr (RL.nilCheck zr (cJ zr (RL.bA zr l9 (cJ zr (RL.aX 0 v0_0 j eJ (cJ zr ?_))))))))
  refine mv (vi aa.2) (cJ zr ?_)
  obtain⟨aq,ad,o⟩:=bd o
  refine RL.bK 1 j zr zr eC ad (cJ zr (RL.cV (f:=(fun x=>x)) 1 j (jl 1 j ad 0) (aV ad).2.1 Fd.self cE (cJ zr ?_)))
  obtain⟨ak,ae,o⟩:=bd o
  refine RL.bK 1 j zr zr eC ae (cJ zr (RL.cV (f:=(fun x=>x)) 1 j (jl 1 j ae 0) (aV ae).2.1 Fd.self cE (cJ zr ?_)))
  obtain⟨ar,af,o⟩:=bd o
  refine RL.bK 1 j zr zr eC af (uF zr ?_)
  have j:=j.sc Int ak
  refine RL.fJ (f:=(fun _ y=>y)) 2 0 j (jl 2 j af 0) (aV af).2.1 zr Fs.self cE fun w j=>?_
  refine DP.d2 zt (DP.z (aG (RC.region (mv (vp b0 0) (RL.nilCheck zr (RL.bA zr l9 (RL.aX 1 v0_0 j eJ (mv (vi aa.2) ?_))))))))
  obtain⟨al,ag,o⟩:=bd o
  refine RL.bK 2 j zr zr eC ag (RL.cV (f:=(fun x=>x)) 2 j (jl 2 j ag 0) (aV ag).2.1 Fd.self cE (aP (vi al) (RL.nil (bT ?_))))
  obtain rfl:=oi o
  exact⟨rfl,j.sp 3 [1,2]⟩
 ·intro r _ _ _ _
  exact r.elim
 rintro aa _ w rfl ⟨O,rfl,j⟩
 rw [Fo.gm] at o
 refine aG (RC.sr (mv (vi aa.2) (aP (vi aa.2) (RL.nt (RC.ret ?_)))))
 obtain rfl:=oi o
 exact cB ⟨v0_0,zr,j.pk 2 [0,1]⟩
def pE (E:World) (V:List HP) (b0:Nat) (res: (List Int)) (v:Value) (w:World):Prop:=∃u0_0:Value,v = .tuple #[]/\Holds E w ([bc 112 b0 [u0_0],own 3 u0_0 res]++V)
theorem lf {p0_0: (List Int)} {res: (List Int)} (j:Holds E w (bc 112 b0 [v0_0]::own 3 v0_0 p0_0::V)) (o:cQ N p0_0 p1 p2=some res):
    Calls bC 29 [(vp b0 0),(vi p1),(vi p2)].toArray w (gE (pE E V b0 res)):=by
 unfold cQ at o
 refine enter Tryz.func29 zr zr (RC.sr (mv (vp b0 0) (mv (vi p1) ?_)))
 have j:=(j.pull 1).pull 1
 obtain⟨aa,af,o⟩:=bd o
 refine RL.call zt zr AW [(vp b0 0),(vi p1)] zr (aF (eX N (p1:=p1) j af) ?_)
 rintro _ w ⟨ah,rfl,j⟩
 refine mv (vp b0 0) (mv (vi p2) ?_)
 have j:=(j.pull 1).pull 1
 obtain⟨ab,ag,o⟩:=bd o
 refine RL.call zt zr AW [(vp b0 0),(vi p2)] zr (aF (eX N (p1:=p2) j ag) ?_)
 rintro _ w ⟨ae,rfl,j⟩
 refine aP (vi aa.1) (aP (vi ab.1) (RL.nt (RC.region (mv (vp b0 0) (RL.nilCheck zr (RL.bA zr l9 (RL.aX 0 ae j eJ (mv (vi aa.1) ?_))))))))
 refine mv (vi ab.1) (RL.max aa.1 ab.1 (mv (vi aa.1) (mv (vi ab.1) (RL.min aa.1 ab.1 ?_))))
 obtain⟨ai,ad,o⟩:=bd o
 refine RL.bK 1 j zr zr eC ad ?_
 have j:=j.sc Int (if ab.1<aa.1 then ab.1 else aa.1)
 refine RL.fJ (f:=(fun _ y=>y)) 2 0 j (jl 2 j ad 0) (aV ad).2.1 zr Fs.self cE fun w j=>?_
 refine RL.nil ?_
 obtain rfl:=oi o
 refine xF ?_
 exact CT zr ⟨ae,zr,j.pk 7 [1,2]⟩
def pF (E:World) (V:List HP) (b0:Nat) (res: (List (List Int))×(List Int)) (v:Value) (w:World):Prop:=∃u0 u0_0:Value,v=u0/\Holds E w ([own 43 u0 res.1,bc 112 b0 [u0_0],own 3 u0_0 res.2]++V)
theorem oU {p0_0: (List Int)} {res: (List (List Int))×(List Int)} (o:Holds E w (bc 112 b0 [v0_0]::own 3 v0_0 p0_0::V)) (hb:gL N p0_0=some res):
    Calls bC 48 [(vp b0 0)].toArray w (gE (pF E V b0 res)):=by
 unfold gL at hb
 refine enter Tryz.func48 zr zr (RC.sr (aP (.slice none 0 0) (RL.ns (aP (.slice none 0 0) (RL.ns (RL.makeMap (κ:=Int) (ν:=Int) zr o fun ao w o=>(aP ao (RL.nq ?_))))))))
 refine RC.sr (mv (vp b0 0) (RL.nilCheck zr (RL.bA zr l9 (RL.aX 1 v0_0 o eJ (RL.fQ 2 p0_0 o ln (mv (vi 0) (RL.nt ?_)))))))
 obtain⟨an,hN,hb⟩:=bd hb
 refine RC.fold (fun(ai:Nat) (an: (List Int)×(List (List Int))×(List (Int×Int))) U w=>∃(a3 a4:Value) (us110:List RV),SH E V [(0,vp b0 0),(3,a4),(4,ao),(12,vi p0_0.length),(13,vi ai)] [bc 112 b0 [a3],own 3 a3 an.1,mp ao an.2.2,own 43 a4 us110,gT (XS 3 Int) us110 an.2.1 none] U w) (fun(an: (List Int)×(List (List Int))×(List (Int×Int))) U w=>∃(aw au:Value) (us113:List RV),SH E V [(0,vp b0 0),(3,au)] [bc 112 b0 [aw],own 3 aw an.1,mp ao an.2.2,own 43 au us113,gT (XS 3 Int) us113 an.2.1 none] U w) hN ?_ ?_ ?_ ?_
 ·have o:=(o.wP (XS 3 Int)).dP RV 43
  exact⟨v0_0,(.slice none 0 0),([]:List RV),o.sp 5 [3,4,2,0,1]⟩
 ·rintro hm an _ w ⟨ba,bb,us153,O,rfl,o⟩
  refine RC.sr (ic ((p0_0.length:Int)) ((p0_0.length:Int)) (RL.nq (RC.cY nb (RC.ex ?_))))
  exact⟨rfl,ba,bb,us153,o.sp 5 [0,1,2,3,4]⟩
 ·rintro hm ai an s' _ w hk ⟨bk,a0,us116,O,rfl,o⟩ hb
  refine RC.sr (ic ((ai:Int)) ((p0_0.length:Int)) (RL.nq (RC.cX (na hk) (RC.ss (RC.bs (mv (vi ai) (aP (vi ai) (RL.ns ?_))))))))
  refine mv (vp b0 0) (mv (vi ai) ?_)
  have o:=(o.pull 1).pull 1
  obtain⟨ab,bf,hb⟩:=bd hb
  refine RL.call zt zr AW [(vp b0 0),(vi ai)] zr (aF (eX N (p1:=(ai:Int)) o bf) ?_)
  rintro _ w ⟨av,rfl,o⟩
  refine aP (vi ab.1) (RL.nq (RC.sr (mv (vi ab.1) (mv (vi ai) (ic ab.1 ((ai:Int)) (RL.nt ?_))))))
  obtain⟨aa,hj,hb⟩:=bd hb
  refine RC.jn (fun(aa: (List (List Int))×(List (Int×Int))) U w=>∃(al:Value) (us124:List RV),SH E V [(0,vp b0 0),(3,al),(4,ao),(5,vi ai),(6,vi ab.1),(12,vi p0_0.length),(13,vi ai)] [bc 112 b0 [av],own 3 av ab.2,mp ao aa.2,own 43 al us124,gT (XS 3 Int) us124 aa.1 none] U w) aa ?_ ?_
  ·refine fE hj (fun hc hj=>?_) fun hc hj=>?_
   rotate_left
   ·refine RC.skip ?_
    obtain rfl:=oi hj
    exact⟨rfl,a0,us116,o.sp 7 [0,1,4,5,6]⟩
   refine RC.sr (mv ao (mv (vi ai) (mv a0 (RL.o5 5 6 an.2.1 zr o zr zr zr Dh ?_))))
   have o:=o.sc Int (an.2.1.length:Int)
   refine RL.mapUpdate 5 0 (ai:Int) o zr zr zr zr zr yl fun w o=>(RL.nt (RC.region (mv a0 ?_)))
   have o:=(o.dP Int 3).zS (i:=0) rfl
   refine RL.fy ([rv (.slice none 0 0)]:List RV) o [(.slice none 0 0)] zh Fy (fun M hs g=>⟨(g.sat 0 _ zr).1,zt⟩) fun bl w o=>?_
   obtain⟨bm,bh,hj⟩:=bd hj
   have o:=o.freeze 0
   refine RL.xZ 9 0 10 2 zt zr o zr zr zr zr zr zr Fz bh fun a7 w o=>?_
   refine aP a7 (RL.nil ?_)
   obtain rfl:=oi hj
   exact⟨rfl,a7,(us116++[rv (.slice none 0 0)]),o.sp 11 [4,5,8,9,10]⟩
  rintro _ w ⟨al,us124,O,rfl,o⟩
  refine aG ?_
  obtain⟨bn,ax,hb⟩:=bd hb
  obtain⟨ar,bj,hb⟩:=bd hb
  obtain⟨bo,a1,hb⟩:=bd hb
  refine RC.BO E V mixed [1,1,1,0,1,1,1,0,0,0,1,0,0,0,0] [11,12,14] (fun(x:Value×Value)=>(fun ak ag=>[(0,29,al),(1,30,ao),(2,31,(vi ab.1)),(3,32,(vi (dQ aa.2 ab.1 (0:Int)))),(4,33,al),(5,34,ao),(6,35,(vi ab.1)),(7,36,(vi (dQ aa.2 ab.1 (0:Int)))),(8,37,(xB al (Int.toNat (dQ aa.2 ab.1 (0:Int))) 1 0)),(9,38,(us124.getD (Int.toNat (dQ aa.2 ab.1 (0:Int))) xC).v),(10,39,(vi ai)),(11,40,ak),(12,41,ag),(13,42,(xB al (Int.toNat (dQ aa.2 ab.1 (0:Int))) 1 0))]) x.1 x.2) [(0,vp b0 0),(3,al),(4,ao),(5,vi ai),(6,vi ab.1),(12,vi p0_0.length),(13,vi ai)] [] (fun(D:Nat->Bool) (x:Value×Value)=>(fun ak ag=>[bif D 1 then (rd ak ([(ai:Int)]: (List Int))) else (bif D 0 then (own 3 ak ([(ai:Int)]: (List Int))) else aT),bif D 2 then aT else (bif D 1 then (own 3 ag ar) else aT),bc 112 b0 [av],own 3 av ab.2,mp ao aa.2,bif D 2 then (own 43 al (us124.set (Int.toNat (dQ aa.2 ab.1 (0:Int))) (rv ag))) else (own 43 al us124),bif D 2 then (gT (XS 3 Int) (us124.set (Int.toNat (dQ aa.2 ab.1 (0:Int))) (rv ag)) (aa.1.set (Int.toNat (dQ aa.2 ab.1 (0:Int))) ar) none) else (bif D 1 then (gT (XS 3 Int) us124 aa.1 (some (Int.toNat (dQ aa.2 ab.1 (0:Int))))) else (gT (XS 3 Int) us124 aa.1 none))]) x.1 x.2) (fun x=>by kernel_rfl) ?_ ⟨fun _=>i7 gn,fun _=>i7 gn,fun _=>i7 gn,?_,fun _=>i7 gn,fun _=>i7 gn,fun _=>i7 gn,?_,?_,?_,fun _=>i7 gn,?_,?_,?_,?_,trivial⟩ ?_
  ·have o:=((o.drew).aT).aT
   exact⟨(undef,undef),dU.none,(AF zr),zt,o⟩
  ·rintro D U w hD ah ae ⟨⟨ak,ag⟩,hv,ha,_,o⟩
   obtain⟨O,rfl⟩:=(ac (hv.at 1 rfl (ah.1 rfl)) (ac (hv.at 2 rfl (ah.2.1 rfl)) az)).eO
   refine RL.nz 4 ab.1 zt o yl ?_
   exact RL.nil ⟨rfl,(ak,ag),hv.pu 3,ha.u,zt,o⟩
  ·rintro D U w hD ah ae ⟨⟨ak,ag⟩,hv,ha,_,o⟩
   obtain⟨O,rfl⟩:=(ac (hv.at 5 rfl (ah.1 rfl)) (ac (hv.at 6 rfl (ah.2.1 rfl)) az)).eO
   refine RL.nz 4 ab.1 zt o yl ?_
   exact RL.nil ⟨rfl,(ak,ag),hv.pu 7,ha.u,zt,o⟩
  ·rintro D U w hD ah ae ⟨⟨ak,ag⟩,hv,ha,_,o⟩
   obtain⟨O,rfl⟩:=(ac (hv.at 4 rfl (ah.1 rfl)) (ac (hv.at 7 rfl (ah.2.1 rfl)) az)).eO
   have o:=((o.bN 5 (nh ae hD 14)).bN 6 (nh ae hD 14)).bN 6 (nf (fun h=>ft hD ((ae 9 _ rfl ((ae 12 _ rfl h).1 rfl)).1 rfl)))
   have hl141:=o.fR 6 rfl
   have hr142:=iR xC hl141 ax
   refine RL.bK 5 o zr zr zh hr142 ?_
   have o:=(o.eF 5 (D 14) (nh ae hD 14) (own 43 al (us124.set (Int.toNat (dQ aa.2 ab.1 (0:Int))) (rv ag)))).eF 6 (D 12) (nf (fun h=>ft hD ((ae 9 _ rfl ((ae 12 _ rfl h).1 rfl)).1 rfl))) (gT (XS 3 Int) us124 aa.1 (some (Int.toNat (dQ aa.2 ab.1 (0:Int)))))
   have o:=o.eF 6 (D 14) (nh ae hD 14) (gT (XS 3 Int) (us124.set (Int.toNat (dQ aa.2 ab.1 (0:Int))) (rv ag)) (aa.1.set (Int.toNat (dQ aa.2 ab.1 (0:Int))) ar) none)
   exact RL.nil ⟨rfl,(ak,ag),hv.pu 8,ha.u,zt,o⟩
  ·rintro D U w hD ah ae ⟨⟨ak,ag⟩,hv,ha,_,o⟩
   obtain⟨O,rfl⟩:=(ac (hv.at 8 rfl (ah.1 rfl)) az).eO
   have o:=((o.bN 5 (nh ae hD 14)).bN 6 (nh ae hD 14)).bN 6 (nh ae hD 12)
   have hl143:=o.fR 6 rfl
   have hr144:=iR xC hl143 ax
   refine RL.tf 5 6 (dQ aa.2 ab.1 (0:Int)) (v9 3 Int) xC zr o zr (jl 5 o hr144 0) zr zr ax eJ ?_
   have o:=(o.eF 5 (D 14) (nh ae hD 14) (own 43 al (us124.set (Int.toNat (dQ aa.2 ab.1 (0:Int))) (rv ag)))).eF 6 (D 12) (nh ae hD 12) (gT (XS 3 Int) us124 aa.1 (some (Int.toNat (dQ aa.2 ab.1 (0:Int)))))
   have o:=o.eF 6 (D 14) (nh ae hD 14) (gT (XS 3 Int) (us124.set (Int.toNat (dQ aa.2 ab.1 (0:Int))) (rv ag)) (aa.1.set (Int.toNat (dQ aa.2 ab.1 (0:Int))) ar) none)
   exact RL.nil ⟨rfl,(ak,ag),hv.pu 9,ha.u,zt,o⟩
  ·rintro D U w hD ah ae ⟨⟨ak,ag⟩,hv,ha,_,o⟩
   obtain⟨O,rfl⟩:=(ac (hv.at 10 rfl (ah.1 rfl)) az).eO
   have o:=((o.bN 0 (nh ae hD 12)).bN 0 hD).sc Int (ai:Int)
   refine RL.fy ([(ai:Int)]: (List Int)) o [(vi ai)] eC BW (fun M hs g=>⟨(g.sat 0 _ zr).1,zt⟩) fun a8 w o=>?_
   have o:=((o.pl 9 [0,3,4,5,6,7,8]).cD 0 true aT).eF 0 (D 12) (nh ae hD 12) (rd a8 ([(ai:Int)]: (List Int)))
   exact RL.nil ⟨rfl,(a8,ag),hv.pu 11,ha.u,zt,o⟩
  ·rintro D U w hD ah ae ⟨⟨ak,ag⟩,hv,ha,_,o⟩
   obtain⟨O,rfl⟩:=(ac (hv.at 9 rfl (ah.1 rfl)) (ac (hv.at 11 rfl (ah.2.1 rfl)) az)).eO
   have o:=(((((((o.bN 0 hD).cC 0 (ah.2.1 rfl)).bN 1 (nh ae hD 14)).bN 1 hD).bN 5 (nh ae hD 14)).bN 6 (nh ae hD 14)).bN 6 hD).wQ (j:=6) (jj:=(dQ aa.2 ab.1 (0:Int))) (v9 3 Int) xC rfl ax
   have o:=o.freeze 1
   refine RL.app 0 1 o r7 bj fun a2 w o=>?_
   have o:=((((o.pl 8 [1,0,3,4,5,6,7]).cD 0 true (bif D 11 then (own 3 ak ([(ai:Int)]: (List Int))) else aT)).cD 1 true aT).eF 1 (D 14) (nh ae hD 14) aT).eF 5 (D 14) (nh ae hD 14) (own 43 al (us124.set (Int.toNat (dQ aa.2 ab.1 (0:Int))) (rv a2)))
   have o:=(o.cD 6 true (gT (XS 3 Int) us124 aa.1 none)).eF 6 (D 14) (nh ae hD 14) (gT (XS 3 Int) (us124.set (Int.toNat (dQ aa.2 ab.1 (0:Int))) (rv a2)) (aa.1.set (Int.toNat (dQ aa.2 ab.1 (0:Int))) ar) none)
   exact RL.nil ⟨rfl,(ak,a2),hv.pu 12,ha.u,zt,o⟩
  ·rintro D U w hD ah ae ⟨⟨ak,ag⟩,hv,ha,_,o⟩
   obtain⟨O,rfl⟩:=(ac (hv.at 0 rfl (ah.1 rfl)) (ac (hv.at 3 rfl (ah.2.1 rfl)) az)).eO
   have o:=((o.bN 5 (nh ae hD 14)).bN 6 (nh ae hD 14)).cC 6 (ah.2.2.2.2.2.2.2.2.2.2.2.2.2.2.1 rfl)
   have hl147:=o.fR 6 rfl
   have hr148:=iR xC hl147 a1
   refine RL.bK 5 o zr zr zh hr148 ?_
   have o:=(o.eF 5 (D 14) (nh ae hD 14) (own 43 al (us124.set (Int.toNat (dQ aa.2 ab.1 (0:Int))) (rv ag)))).cD (hb:=ah.2.2.2.2.2.2.2.2.2.2.2.2.2.2.1 rfl) 6 (D 12) (gT (XS 3 Int) us124 aa.1 none)
   have o:=o.eF 6 (D 14) (nh ae hD 14) (gT (XS 3 Int) (us124.set (Int.toNat (dQ aa.2 ab.1 (0:Int))) (rv ag)) (aa.1.set (Int.toNat (dQ aa.2 ab.1 (0:Int))) ar) none)
   exact RL.nil ⟨rfl,(ak,ag),hv.pu 13,ha.u,zt,o⟩
  ·rintro D U w hD ah ae ⟨⟨ak,ag⟩,hv,ha,_,o⟩
   obtain⟨O,rfl⟩:=(ac (hv.at 12 rfl (ah.2.1 rfl)) (ac (hv.at 13 rfl (ah.1 rfl)) az)).eO
   have o:=((((o.bN 1 hD).cC 1 (ah.2.1 rfl)).bN 5 hD).bN 6 hD).cC 6 (ah.2.1 rfl)
   have hl149:=o.fR 6 rfl
   have hr150:=iR xC hl149 a1
   refine RL.q7 5 6 1 (dQ aa.2 ab.1 (0:Int)) (v9 3 Int) xC o zr zr (jl 5 o hr150 0) zr zr zr a1 eJ fun w o=>?_
   have o:=((o.cD 1 true (bif D 12 then (own 3 ag ar) else aT)).cD 5 true (own 43 al us124)).cD 6 true (bif D 12 then (gT (XS 3 Int) us124 aa.1 (some (Int.toNat (dQ aa.2 ab.1 (0:Int))))) else (gT (XS 3 Int) us124 aa.1 none))
   exact RL.nil ⟨rfl,(ak,ag),hv.n1,ha,zt,o⟩
  rintro D U w ay ⟨⟨ak,ag⟩,hv,ha,_,o⟩
  have o:=(((o.cC 0 (jO ay 12)).cC 1 (jO ay 14)).cC 5 (jO ay 14)).cC 6 (jO ay 14)
  obtain⟨O,rfl⟩:=(ac (ha.at 0 rfl) (ac (ha.at 1 rfl) (ac (ha.at 2 rfl) (ac (ha.at 3 rfl) (ac (ha.at 4 rfl) (ac (ha.at 5 rfl) (ac (ha.at 6 rfl) az))))))).eO
  refine bT (aG (RC.region (RL.inc hk hm (mv (vi ((ai+1:Nat):Int)) (RL.nil ?_)))))
  obtain rfl:=oi hb
  exact⟨rfl,av,al,(us124.set (Int.toNat (dQ aa.2 ab.1 (0:Int))) (rv ag)),o.sp 7 [2,3,4,5,6]⟩
 rintro _ w ⟨aw,au,us113,O,rfl,o⟩
 refine aG (RC.sr (mv au (aP au (RL.nt (RC.ret ?_)))))
 obtain rfl:=oi hb
 have o:=o.wR (X:=(XS 3 Int)) (b:=4) (j:=3) rfl (fun M h u x cs=>(DG 3) M h u x cs) rfl rfl (by decide)
 exact cB ⟨au,aw,zr,o.pk 5 [3,0,1]⟩
theorem oV {p0:aI} {p1:iO} {res:Bool} (j:Holds E w V) (h0:V[i0]? =some (rd v0 p0)) (h1:V[i1]? =some (pt v1 p1)) (hb:iU N p0 p1=some res):
    Calls bC 87 [v0,v1].toArray w (gE (bB E V res)):=by
 unfold iU at hb
 refine enter Tryz.func87 zr zr ?_
 have j:=(j.dup (i0+0) h0).uu (i:=i1+1) h1
 refine RC.sr (RL.dC 1 v0 j zr fun ag w j=>?_)
 refine aP (vb false) (RL.nq ?_)
 obtain⟨af,o,hb⟩:=bd hb
 refine RC.jn (fun(af:Bool)=>SH E V [(3,vb af)] []) af ?_ ?_
 ·refine RC.region (RL.iw 1 j zr w5 oj fun ah j=>(RL.bH p1.X 0 j cE (RL.bA zr iV (RL.aM 1 j zr eH cE (ic p1.X p0.X0 (mv (vb (decide (p1.X>=p0.X0))) (gC o (fun aa o=>?_) fun aa o=>?_)))))))
  rotate_left
  ·refine bV aa (bV aa (bV aa (bV aa (bV aa (gF aa (vb false) (mv (vb false) (ng (ng ?_))))))))
   refine ng (ng (ng (RL.pick false (vb false) zr (mv (vb false) (ng (ng (ng (ng ?_))))))))
   refine ng (RL.pick false (vb false) zr (aP (vb false) (RL.nil ?_)))
   obtain rfl:=oi o
   exact⟨rfl,j.sp 4 []⟩
  refine RL.iw (hg:=(cg aa)) 2 j zr w5 oj fun ai j=>(RL.bH (hg:=(cg aa)) p1.X 0 j cE (RL.bA (hg:=(cg aa)) zr jE (RL.aM (hg:=(cg aa)) 2 j zr fD cE (RL.kz p1.X p0.X1 (cg aa) (gF aa (vb (decide (p1.X<p0.X1))) (mv (vb (decide (p1.X<p0.X1))) (gC o (fun ab o=>?_) fun ab o=>?_)))))))
  rotate_left
  ·refine bV ab (bV ab (bV ab (bV ab (bV ab (gF ab (vb false) (mv (vb false) (ng (ng ?_))))))))
   refine ng (ng (ng (RL.pick false (vb false) zr (aP (vb false) (RL.nil ?_)))))
   obtain rfl:=oi o
   exact⟨rfl,j.sp 5 []⟩
  refine RL.iw (hg:=(cg ab)) 3 j zr w6 om fun aj j=>(RL.bH (hg:=(cg ab)) p1.Y 0 j cE (RL.bA (hg:=(cg ab)) zr jD (RL.aM (hg:=(cg ab)) 3 j zr eW cE (RL.kz p1.Y p0.Y0 (cg ab) (gF ab (vb (decide (p1.Y>=p0.Y0))) (mv (vb (decide (p1.Y>=p0.Y0))) (gC o (fun ad o=>?_) fun ad o=>?_)))))))
  ·refine RL.iw (hg:=(cg ad)) 4 j zr w6 om fun ak j=>(RL.bH (hg:=(cg ad)) p1.Y 0 j cE (RL.bA (hg:=(cg ad)) zr my (RL.aM (hg:=(cg ad)) 4 j zr iL cE (RL.kz p1.Y p0.Y1 (cg ad) (gF ad (vb (decide (p1.Y<p0.Y1))) (aP (vb (decide (p1.Y<p0.Y1))) (RL.nil ?_)))))))
   obtain rfl:=oi o
   exact⟨rfl,j.sp 7 []⟩
  refine bV ad (bV ad (bV ad (bV ad (bV ad (gF ad (vb false) (aP (vb false) (RL.nil ?_)))))))
  obtain rfl:=oi o
  exact⟨rfl,j.sp 6 []⟩
 rintro _ w ⟨O,rfl,j⟩
 refine aG (RC.ret ?_)
 obtain rfl:=oi hb
 exact cB ⟨rfl,j.drop 0⟩
theorem mD {p0: (List aI)} {p1:iO} {res:Bool} (j:Holds E w V) (h0:V[i0]? =some (rd v0 p0)) (h1:V[i1]? =some (rd v1 p1)) (o:g9 N p0 p1=some res):
    Calls bC 73 [v0,v1].toArray w (gE (bB E V res)):=by
 unfold g9 at o
 refine enter Tryz.func73 zr zr ?_
 have j:=(j.dup (i0+0) h0).dup (i1+1) h1
 refine RC.sr (RL.dC 0 v1 j zr fun aa w j=>?_)
 have j:=j.gx (i:=0) rfl
 refine aP (vb false) (RL.ns (mv v0 (RL.makeFunc [(vp aa 0)] ?_)))
 obtain⟨ab,ad,o⟩:=bd o
 refine RL.call trivial rfl Fx [v0,(.func (.func 87) #[] #[(vp aa 0)])] rfl (aF (jo N (i0:=2) j rfl ⟨87,[(vp aa 0)],rfl,Hh,fun w Γl v y0 r i j hi hr=>by exact aF (oV N (i0:=i) (i1:=Γl.length+0) j hi (wM rfl) hr) fun _ _ h=>h⟩ ad) ?_)
 rintro _ w ⟨rfl,j⟩
 refine aP (vb ab) (RL.nt (RC.ret ?_))
 obtain rfl:=oi o
 exact cB ⟨rfl,j.drop 3⟩
def lI (E:World) (V:List HP) (b0:Nat) (v0_0 v0_1:Value) (v0_2 v0_3:Value) (v0_4 v0_5:Value) (v0_6 v0_7:Value) (v0_8 v0_9:Value) (v0_10 v0_11:Value) (res:eZ×Bool) (v:Value) (w:World):Prop:=∃u0:Value,v = .tuple #[u0,(vb res.2)]/\Holds E w ([rd u0 res.1,bc 57 b0 [v0_0,v0_1,v0_2,v0_3,v0_4,v0_5,v0_6,v0_7,v0_8,v0_9,v0_10,v0_11]]++V)
def lJ (E:World) (V:List HP) (b0:Nat) (v0_0 v0_1:Value) (v0_2 v0_3:Value) (v0_4 v0_5:Value) (v0_6 v0_7:Value) (v0_8 v0_9:Value) (v0_10 v0_11:Value) (r:eZ×Bool) (U:Nat->Value) (w:World):Prop:=lM bC 66 Tryz.f49 (lI E V b0 v0_0 v0_1 v0_2 v0_3 v0_4 v0_5 v0_6 v0_7 v0_8 v0_9 v0_10 v0_11 r) .ret U w
theorem oW {p0_2: (List bU)} {p0_5: (List aH)} {p1:cT} {res:eZ×Bool} (j:Holds E w (bc 57 b0 [v0_0,v0_1,v0_2,v0_3,v0_4,v0_5,v0_6,v0_7,v0_8,v0_9,v0_10,v0_11]::rd v0_2 p0_2::rd v0_5 p0_5::V)) (h1:V[i1]? =some (rd v1 p1)) (o:gM N p0_2 p0_5 p1=some res):
    Calls bC 49 [(vp b0 0),v1].toArray w (gE (lI E V b0 v0_0 v0_1 v0_2 v0_3 v0_4 v0_5 v0_6 v0_7 v0_8 v0_9 v0_10 v0_11 res)):=by
 unfold gM at o
 refine enter Tryz.func49 zr zr ?_
 have j:=j.dup (i1+3) h1
 refine RC.sr (RL.dC 0 v1 j zr fun ah w j=>?_)
 have j:=j.gx (i:=0) rfl
 refine RL.alloc j Di.z fun ae w j=>?_
 refine aP (vb false) (RL.nq (RC.sr (mv (vp b0 0) (RL.nilCheck zr (RL.bA zr lS (RL.bA zr lq (RL.aX 3 v0_2 j tn (RL.bF 4 p0_2 j uL ?_))))))))
 refine mv (vi 0) (RL.nt ?_)
 obtain⟨bn,hN,o⟩:=bd o
 refine RC.range (fun(af:Nat) (al:Unit)=>SH E V [(0,vp b0 0),(3,vp ah 0),(4,vp ae 0),(14,v0_2),(15,vi p0_2.length),(16,vi af)] [bc 57 b0 [v0_0,v0_1,v0_2,v0_3,v0_4,v0_5,v0_6,v0_7,v0_8,v0_9,v0_10,v0_11],rd v0_2 p0_2,rd v0_5 p0_5,pt (vp ah 0) p1,raw 67 ae 2]) (fun(al:Unit)=>SH E V [(0,vp b0 0),(3,vp ah 0),(4,vp ae 0)] [bc 57 b0 [v0_0,v0_1,v0_2,v0_3,v0_4,v0_5,v0_6,v0_7,v0_8,v0_9,v0_10,v0_11],rd v0_2 p0_2,rd v0_5 p0_5,pt (vp ah 0) p1,raw 67 ae 2]) (lJ E V b0 v0_0 v0_1 v0_2 v0_3 v0_4 v0_5 v0_6 v0_7 v0_8 v0_9 v0_10 v0_11) hN ?_ ?_ ?_ ?_ ?_
 ·exact j.sp 6 [3,4,5,1,0]
 ·rintro hm al _ w ⟨O,rfl,j⟩
  refine RC.sr (ic ((p0_2.length:Int)) ((p0_2.length:Int)) (RL.nq (RC.cY nb (RC.ex ?_))))
  exact⟨rfl,j.sp 5 [0,1,2,3,4]⟩
 ·rintro hm af al fl _ w hk ⟨O,rfl,j⟩ o
  refine RC.sr (ic ((af:Int)) ((p0_2.length:Int)) (RL.nq (RC.cX (na hk) (RC.ss (RC.bs (mv (vi af) ?_))))))
  obtain⟨ax,a0,o⟩:=bd o
  refine RL.cF 1 j w4 a0 fun bo j=>(RL.bY 0 ax j mN fun bp j=>(RL.alloc j AP.z fun bq w j=>?_))
  refine aP (vi af) (RL.bJ 0 j 1 zr mN fun w j=>?_)
  refine RL.nq ?_
  obtain⟨aq,hj,o⟩:=bd o
  refine RC.jn (fun(aq:Bool)=>SH E V [(0,vp b0 0),(3,vp ah 0),(4,vp ae 0),(6,vi af),(14,v0_2),(15,vi p0_2.length),(16,vi af),(36,vb aq)] [bc 57 b0 [v0_0,v0_1,v0_2,v0_3,v0_4,v0_5,v0_6,v0_7,v0_8,v0_9,v0_10,v0_11],rd v0_2 p0_2,rd v0_5 p0_5,pt (vp ah 0) p1,raw 67 ae 2]) aq ?_ ?_
  ·refine RC.ye mixed [0,0,0,0,0,0,2,0,0,0,2,2,1,1,2,0] [0,1,2,3,4,5,6,7,8,9,12,13,10,11,14,15] ?_
   have j:=j.drew
   refine DP.e0 zr (RL.bA zr w7 (cJ zr (RL.aM 0 j zr qe wo (cJ zr (mv (vb ax.gh) (DP.d0 (gC hj (fun ai hj=>?_) fun ai hj=>?_)))))))
   rotate_left
   ·refine DP.e0 zr (bV ai (cJ zr (bV ai (cJ zr (bV ai (uF zr (bV ai (z5 zr ?_))))))))
    refine gF ai (vb false) (cJ zr (mv (vb false) (cJ zr (ng (DP.d0 (DP.e1 undef zr (fun w=>ng DP.d1) (DP.e1 undef zr (fun w=>ng DP.d1) (DP.e2 zr ?_))))))))
    refine ng (Eg zr (ng (Eg zr (ng (z5 zr (RL.pick false (vb false) zr (DP.d0 (DP.z ?_))))))))
    obtain rfl:=oi hj
    exact⟨rfl,j.sp 8 [3,4,5,6,7]⟩
   refine DP.e0 zr (RL.aZ (hg:=(cg ai)) (f:=(fun x=>x)) 0 j zr Fd.self mN fun a1 j=>(cJ zr (RL.iw (hg:=(cg ai)) 7 j zr zf tk fun br j=>(cJ zr (RL.bH (hg:=(cg ai)) p1.dY 0 j cE (uF zr ?_))))))
   obtain⟨ay,a2,hj⟩:=bd hj
   refine RL.call (cg ai) zr En [a1,(vi p1.dY)] zr (aF (kX N (p1:=p1.dY) (i0:=1) j zr a2) ?_)
   rintro _ w ⟨rfl,j⟩
   refine z5 zr (gF ai (vb ay) (cJ zr (mv (vb ay) (DP.d0 (gC hj (fun ab hj=>?_) fun ab hj=>?_)))))
   rotate_left
   ·refine DP.e0 zr (bV ab (DP.d0 (DP.e1 undef zr (fun w=>bV ab DP.d1) (DP.e1 undef zr (fun w=>bV ab DP.d1) (DP.e2 zr (bV ab (Eg zr (bV ab ?_))))))))
    refine Eg zr (bV ab (z5 zr (gF ab (vb false) (DP.d0 (DP.z ?_)))))
    obtain rfl:=oi hj
    exact⟨rfl,j.sp 10 [5,6,7,8,9]⟩
   refine DP.e0 zr (RL.aZ (hg:=(cg ab)) (f:=(fun x=>x)) 2 j zr Fd.self mN fun a3 j=>(DP.d0 (DP.E1 9 zr zr (cg ab) zr j zr zr zg tl fun bt j=>(DP.vI p1.At 0 zr (cg ab) j Dd fun a4 a105 bu j=>(DP.e2 zr ?_)))))
   obtain⟨a5,a6,hj⟩:=bd hj
   refine RL.call (cg ab) zr AQ [a3] zr (aF (fN N (i0:=3) j zr a6) ?_)
   rintro a7 w j
   refine DP.d2 (⟨zt,j.kM 1⟩) (DP.e2 zr (RL.fy (hg:=(cg ab)) ([a5]: (List aI)) j [a7] kN ni (fun M hs g=>⟨(g.sat 0 _ zr).1,zt⟩) fun a8 w j=>(DP.d2 (⟨zt,j.kM 2⟩) (DP.e2 zr ?_))))
   have j:=j.freeze 0
   obtain⟨a9,ba,hj⟩:=bd hj
   refine RL.call (cg ab) zr FH [a8,a4] zr (aF (mD N (i0:=0) (i1:=3) j zr zr ba) ?_)
   rintro _ w ⟨rfl,j⟩
   refine DP.d2 (⟨zt,j.kM 2⟩) (DP.e0 zr (gF ab (vb a9) (DP.d0 ?_)))
   have j:=j.pl 16 [0,1,3,4,5,6,7,8,9,10,11,12,13,14,15]
   refine DP.z ?_
   obtain rfl:=oi hj
   exact⟨rfl,j.sp 15 [10,11,12,13,14]⟩
  rintro _ w ⟨O,rfl,j⟩
  refine aG (fE o (fun hc o=>?_) fun hc o=>?_)
  rotate_left
  ·refine RC.skip (bT (aG (RC.region (RL.inc hk hm (mv (vi ((af+1:Nat):Int)) (RL.nil ?_))))))
   obtain rfl:=oi o
   exact⟨rfl,j.sp 5 [0,1,2,3,4]⟩
  refine RC.sr (mv (vi af) ?_)
  have j:=(j.sc Bool true).sc Int (af:Int)
  refine RL.build (⟨true,(af:Int)⟩:eZ) trivial rfl j [(0,vb true),(1,vi af)] rfl Dj rfl (fun M hs g=>by have h:=z9 M;exact dA.cons (f:=fun(x:eZ) y=>{x with bU:=y}) h BT (g.sat 1 _ rfl).1 fun _ h=>dA.cons (f:=fun(x:eZ) y=>{x with Number:=y}) h yh (g.sat 0 _ rfl).1 fun _ h=>dA.nil h) fun bw j=>?_
  refine RL.bJ 7 j 0 zr qB fun w j=>?_
  refine aP (vb true) (RL.nt (RC.rb (bZ ?_)))
  obtain rfl:=oi o
  exact⟨rfl,vY 7 j qB fun bb j=>⟨bb,zr,j.pk 9 [0,4]⟩⟩
 ·intro r U w e hK
  subst e
  refine bZ ?_
  obtain rfl:=oi o
  exact hK
 rintro al _ w rfl ⟨O,rfl,j⟩
 rw [Fo.gm] at o
 refine aG (RC.seq (RC.sr (mv (vp b0 0) (RL.nilCheck zr (RL.bA zr ph (RL.aX 0 v0_5 j ym (RL.bF 2 p0_5 j AV (mv (vi 0) ?_))))))))
 refine RL.nt ?_
 obtain⟨bx,hN,o⟩:=bd o
 refine RC.range (fun(ag:Nat) (an:Unit)=>SH E V [(0,vp b0 0),(3,vp ah 0),(4,vp ae 0),(43,v0_5),(44,vi p0_5.length),(45,vi ag)] [bc 57 b0 [v0_0,v0_1,v0_2,v0_3,v0_4,v0_5,v0_6,v0_7,v0_8,v0_9,v0_10,v0_11],rd v0_2 p0_2,rd v0_5 p0_5,pt (vp ah 0) p1,raw 67 ae 2]) (fun(an:Unit)=>SH E V [(0,vp b0 0),(4,vp ae 0)] [bc 57 b0 [v0_0,v0_1,v0_2,v0_3,v0_4,v0_5,v0_6,v0_7,v0_8,v0_9,v0_10,v0_11],rd v0_2 p0_2,rd v0_5 p0_5,pt (vp ah 0) p1,raw 67 ae 2]) (lJ E V b0 v0_0 v0_1 v0_2 v0_3 v0_4 v0_5 v0_6 v0_7 v0_8 v0_9 v0_10 v0_11) hN ?_ ?_ ?_ ?_ ?_
 ·exact j.sp 5 [0,1,2,3,4]
 ·rintro hm an _ w ⟨O,rfl,j⟩
  refine RC.sr (ic ((p0_5.length:Int)) ((p0_5.length:Int)) (RL.nq (RC.cY nb (RC.ex ?_))))
  exact⟨rfl,j.sp 5 [0,1,2,3,4]⟩
 ·rintro hm ag an fl _ w hk ⟨O,rfl,j⟩ o
  refine RC.sr (ic ((ag:Int)) ((p0_5.length:Int)) (RL.nq (RC.cX (na hk) (RC.ss (RC.bs (mv (vi ag) ?_))))))
  obtain⟨av,bf,o⟩:=bd o
  refine RL.cF 2 j Er bf fun bz j=>(RL.bY 0 av j Df fun b1 j=>(RL.alloc j Es.z fun b2 w j=>?_))
  refine aP (vi ag) (RL.bJ 0 j 1 zr Df fun w j=>?_)
  refine RL.nq ?_
  obtain⟨aw,hj,o⟩:=bd o
  refine RC.jn (fun(aw:Bool)=>SH E V [(0,vp b0 0),(3,vp ah 0),(4,vp ae 0),(8,vi ag),(43,v0_5),(44,vi p0_5.length),(45,vi ag),(61,vb aw)] [bc 57 b0 [v0_0,v0_1,v0_2,v0_3,v0_4,v0_5,v0_6,v0_7,v0_8,v0_9,v0_10,v0_11],rd v0_2 p0_2,rd v0_5 p0_5,pt (vp ah 0) p1,raw 67 ae 2]) aw ?_ ?_
  ·refine RC.region (RL.bA zr B7 (RL.aM 0 j zr mW cE (RL.iw 6 j zr zf tk fun b3 j=>(RL.bH p1.dY 0 j cE (ic av.dY p1.dY (mv (vb (av.dY==p1.dY)) (gC hj (fun ad hj=>?_) fun ad hj=>?_)))))))
   rotate_left
   ·refine bV ad (bV ad (bV ad (bV ad (bV ad (gF ad (vb false) (RL.nil ?_))))))
    obtain rfl:=oi hj
    exact⟨rfl,j.sp 9 [4,5,6,7,8]⟩
   refine RL.bA (hg:=(cg ad)) zr B8 (RL.aZ (hg:=(cg ad)) 1 j zr mX w3 fun bg j=>(RL.iw (hg:=(cg ad)) 8 j zr zg tl fun b4 j=>(RL.bY (hg:=(cg ad)) 0 p1.At j Dd fun bh j=>?_)))
   obtain⟨bj,bk,hj⟩:=bd hj
   refine RL.call (cg ad) zr FH [bg,bh] zr (aF (mD N (i0:=2) (i1:=0) j zr zr bk) ?_)
   rintro _ w ⟨rfl,j⟩
   refine gF ad (vb bj) (RL.nil ?_)
   obtain rfl:=oi hj
   exact⟨rfl,j.sp 12 [7,8,9,10,11]⟩
  rintro _ w ⟨O,rfl,j⟩
  refine aG (fE o (fun hc o=>?_) fun hc o=>?_)
  rotate_left
  ·refine RC.skip (bT (aG (RC.region (RL.inc hk hm (mv (vi ((ag+1:Nat):Int)) (RL.nil ?_))))))
   obtain rfl:=oi o
   exact⟨rfl,j.sp 5 [0,1,2,3,4]⟩
  refine RC.sr (mv (vi ag) ?_)
  have j:=j.sc Int (ag:Int)
  refine RL.build (⟨false,(ag:Int)⟩:eZ) trivial rfl j [(1,vi ag)] rfl Dj rfl (fun M hs g=>by have h:=z9 M;exact dA.cons (f:=fun(x:eZ) y=>{x with Number:=y}) h yh (g.sat 0 _ rfl).1 fun _ h=>dA.nil h) fun b5 j=>?_
  refine RL.bJ 6 j 0 zr qB fun w j=>?_
  refine aP (vb true) (RL.nt (RC.rb (bZ ?_)))
  obtain rfl:=oi o
  exact⟨rfl,vY 6 j qB fun bl j=>⟨bl,zr,j.pk 8 [0,3]⟩⟩
 ·intro r U w e hK
  subst e
  refine bZ ?_
  obtain rfl:=oi o
  exact hK
 rintro an _ w rfl ⟨O,rfl,j⟩
 rw [Fo.gm] at o
 refine aG (RC.sr (RL.build (⟨false,0⟩:eZ) trivial rfl j [] rfl Dj rfl (fun M hs g=>by have h:=z9 M;exact dA.nil h) fun b6 j=>?_))
 refine RL.bJ 5 j 0 zr qB fun w j=>?_
 refine aP (vb false) (RL.nt (RC.ret ?_))
 obtain rfl:=oi o
 exact vY 5 j qB fun bm j=>⟨bm,zr,j.pk 7 [0,2]⟩
theorem mE {p0_8: (List Int)} {p0_9: (List Int)} {p1:eZ} (j:Holds E w (bc 57 b0 [v0_0,v0_1,v0_2,v0_3,v0_4,v0_5,v0_6,v0_7,v0_8,v0_9,v0_10,v0_11]::rd v0_8 p0_8::rd v0_9 p0_9::V)) (h1:V[i1]? =some (rd v1 p1)) (o:eU N p0_8 p0_9 p1=some res):
    Calls bC 50 [(vp b0 0),v1].toArray w (gE (gX E V b0 v0_0 v0_1 v0_2 v0_3 v0_4 v0_5 v0_6 v0_7 v0_8 v0_9 v0_10 v0_11 res)):=by
 unfold eU at o
 refine enter Tryz.func50 zr zr ?_
 have j:=j.dup (i1+3) h1
 refine RC.sr (RL.dC 0 v1 j zr fun ag w j=>?_)
 refine aP (vi 0) (RL.nq (RC.sr (RL.bA zr zj (RL.aM 0 j zr uJ wo (RL.nt (fE o (fun hc o=>?_) fun hc o=>?_))))))
 ·refine RC.seq (RC.wg mixed ?_)
  have j:=j.drew
  refine RO.go (mv (vp b0 0) (RO.nx (RL.nilCheck zr (RO.nx (RL.bA zr w9 (RO.nx (RL.aX 2 v0_9 j eJ (RO.nx ?_))))))))
  refine RL.bA zr re (RO.nx (RL.aM 0 j zr mx cE (RO.nx ?_)))
  obtain⟨aa,ae,o⟩:=bd o
  refine RL.cF 4 j eC ae fun ah j=>(RO.nx (RL.bH aa 0 j cE (RO.nx (aP (vi aa) (RO.last (aG (RC.rt ?_)))))))
  obtain rfl:=oi o
  exact cB ⟨rfl,j.pk 6 [3]⟩
 refine RC.ss (RC.wg mixed ?_)
 have j:=j.drew
 refine RO.go (mv (vp b0 0) (RO.nx (RL.nilCheck zr (RO.nx (RL.bA zr zi (RO.nx (RL.aX 2 v0_8 j eJ (RO.nx ?_))))))))
 refine RL.bA zr re (RO.nx (RL.aM 0 j zr mx cE (RO.nx ?_)))
 obtain⟨ab,af,o⟩:=bd o
 refine RL.cF 3 j eC af fun ai j=>(RO.nx (RL.bH ab 0 j cE (RO.nx (aP (vi ab) (RO.last (aG (RC.ret ?_)))))))
 obtain rfl:=oi o
 exact cB ⟨rfl,j.pk 6 [3]⟩
end Go.Gk
