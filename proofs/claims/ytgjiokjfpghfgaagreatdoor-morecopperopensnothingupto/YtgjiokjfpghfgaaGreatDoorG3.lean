/-
  Printed texts: Go functions as plain functions, and that they are. No statement of the seed is proved here.
-/
import Derived.Test.YtgjiokjfpghfgaaGreatDoorG1
import Derived.Test.YtgjiokjfpghfgaaGreatDoorG2
import Derived.Test.YtgjiokjfpghfgaaGreatDoorA2
set_option linter.unusedVariables false
set_option linter.unusedSimpArgs false
set_option linter.unusedSectionVars false
set_option maxRecDepth 100000
set_option maxHeartbeats 4000000
namespace Go.Gk
open Go Go.Proofs
variable (N:Nat) {E w:World} {b0 b1 i0 i1:Nat} {p0 p1 p2 res:Int} {v0 v0_0 v0_1 v0_10 v0_11 v0_2 v0_3 v0_4 v0_5 v0_6 v0_7 v0_8 v0_9 v1 v1_0 v2:Value} {V:List HP}
theorem ln {p0:bH} {res:Bool} (j:Holds E w V) (h0:V[i0]? =some (rd v0 p0)) (hb:iX N p0 p1=some res):
    Calls bG 68 [v0,(vi p1)].toArray w (gF (bD E V res)):=by
 unfold iX at hb
 refine enter Tryz.func68 zr zr ?_
 have j:=j.dup (i0+0) h0
 refine RC.sr (RL.cX 0 v0 j zr fun o w j=>?_)
 refine aN (vb false) (RL.ns (RL.bF zr rH (RL.aS 0 j zr lG cV (mv (vi p1) (ic p0.cM p1 (mv (vb (decide (p0.cM<=p1))) (RL.gs true (decide (p0.cM<=p1)) (vi p1) zr zr zr dO (RL.gs true (decide (p0.cM<=p1)) (vp o 4) zr zr zr (eW tF) ?_))))))))
 refine RL.gs true (decide (p0.cM<=p1)) (vi p0.To) rfl rfl rfl (bX 0 rfl j (fun h=>by exact(dE h:cv (true&&((decide (p0.cM<=p1))==true)) (vp o 4)= (vp o 4))) rfl my cV) (RL.gs true (decide (p0.cM<=p1)) (vb (decide (p1<=p0.To))) rfl rfl rfl (fE .leq .i64 p1 p0.To rfl (fun h=>by exact(dE h:cv (true&&((decide (p0.cM<=p1))==true)) (vi p1)= (vi p1))) (fun h=>by exact(dE h:cv (true&&((decide (p0.cM<=p1))==true)) (vi p0.To)= (vi p0.To))) rfl) (RL.pick (decide (p0.cM<=p1)) (vb ((decide (p0.cM<=p1))&&(decide (p1<=p0.To)))) (jk true) (aN (vb ((decide (p0.cM<=p1))&&(decide (p1<=p0.To)))) (RL.nt (RC.ret ?_)))))
 obtain rfl:=oi hb
 exact cA ⟨rfl,j.drop 2⟩
def u6 (E:World) (V:List HP) (res: (List Int)×Int) (v:Value) (w:World):Prop:=∃u0:Value,v = .tuple #[u0,(vi res.2)]/\Holds E w ([rd u0 res.1]++V)
theorem ph {p0: (List aA)} {res: (List Int)×Int} (j:Holds E w V) (h0:V[i0]? =some (rd v0 p0)) (o:kp N p0 p1 p2=some res):
    Calls bG 43 [v0,(vi p1),(vi p2)].toArray w (gF (u6 E V res)):=by
 unfold kp at o
 refine enter Tryz.func43 zr zr ?_
 have j:=j.dup (i0+0) h0
 refine RC.sr (aN (.slice none 0 0) (aN (vi 0) (RL.nq (RC.bs (mv v0 (RL.bO 0 p0 j qU (ic ((p0.length:Int)) 0 (aN (vb ((p0.length:Int)==0)) ?_))))))))
 refine RL.nt (fZ o (fun hc o=>?_) fun hc o=>?_)
 ·refine RC.sr (mv (vi p2) (aN (.slice none 0 0) (aN (vi p2) (RL.nt (RC.rb (cH ?_))))))
  obtain rfl:=oi o
  have j:=j.dF Int
  exact qQ ⟨(.slice none 0 0),zr,j.pk 2 [0]⟩
 refine RC.sr (mv (vi p1) (mv v0 ?_))
 obtain⟨ae,ag,o⟩:=bd o
 refine RL.cQ 0 j l9 ag fun al j=>(RL.iT 0 j zr oT eX fun an j=>(RL.bQ ae.Y0 0 j cV (ic p1 ae.Y0 (aN (vb (decide (p1<ae.Y0))) (RL.nt (fZ o (fun hc o=>?_) fun hc o=>?_))))))
 ·refine RC.seq (RC.xR mixed ?_)
  have j:=j.drew
  refine RO.go (mv (vi p2) (RO.nx (mv v0 (RO.nx ?_))))
  obtain⟨aa,ah,o⟩:=bd o
  refine RL.cQ 2 j l9 ah fun ao j=>(RO.nx (RL.iT 0 j zr oT eX fun aq j=>(RO.nx (RL.bQ aa.Y0 0 j cV (RO.nx (RL.min p2 aa.Y0 (RO.nx (aN (.slice none 0 0) ?_))))))))
  refine RO.nx (aN (vi (if aa.Y0<p2 then aa.Y0 else p2)) (RO.last (aJ (RC.rb (cH ?_)))))
  obtain rfl:=oi o
  have j:=j.dF Int
  exact qQ ⟨(.slice none 0 0),zr,j.pk 6 [0]⟩
 refine RC.skip (bZ (aJ (RC.seq (RC.xR mixed ?_))))
 have j:=j.drew
 refine RO.go (mv v0 (RO.nx ?_))
 obtain⟨ai,aj,o⟩:=bd o
 refine RL.cQ 2 j l9 aj fun ar j=>(RO.nx (RL.iT 0 j zr lj cR fun au j=>(RO.nx (RL.cG 0 ai.Xs j fw fun af j=>(RO.nx (mv (vi p2) (RO.nx (mv v0 ?_))))))))
 refine RO.nx ?_
 obtain⟨ab,ak,o⟩:=bd o
 refine RL.cQ 5 j l9 ak fun av j=>(RO.nx (RL.iT 0 j zr l8 dS fun aw j=>(RO.nx (RL.bQ ab.Y1 0 j cV (RO.nx (RL.min p2 ab.Y1 (RO.nx (aN af ?_))))))))
 refine RO.nx (aN (vi (if ab.Y1<p2 then ab.Y1 else p2)) (RO.last (aJ (RC.ret ?_))))
 obtain rfl:=oi o
 exact qQ ⟨af,zr,j.pk 8 [2]⟩
theorem vZ {p0: (List Int)} {p1: (List Int)} {p2:Bool->Bool->Option Bool} {res: (List Int)} (j:Holds E w V) (h0:V[i0]? =some (rd v0 p0)) (h1:V[i1]? =some (rd v1 p1)) (h2:EE bG E V v2 p2 (fun(r:Bool)=>Value.bool r)) (hb:mG N p0 p1 p2=some res):
    Calls bG 44 [v0,v1,v2].toArray w (gF (j7 E V res)):=by
 unfold mG at hb
 refine enter Tryz.func44 zr zr ?_
 have j:=(j.dup (i0+0) h0).dup (i1+1) h1
 refine RC.sr (aN (.slice none 0 0) (RL.ns (aN (.slice none 0 0) (RL.ns (aN (vb false) (aN (vb false) (aN (vb false) (RL.nq ?_))))))))
 obtain⟨bu,hN,hb⟩:=bd hb
 refine RC.iter (fun(o: (List Int)×(List Int)×(List Int)×Bool×Bool×Bool) U w=>∃a7 a8 a9:Value,SH E V [(0,a7),(1,a8),(2,v2),(7,a9),(8,vb o.2.2.2.1),(9,vb o.2.2.2.2.1),(10,vb o.2.2.2.2.2)] [rd a7 o.1,rd a8 o.2.1,own 3 a9 o.2.2.1] U w) (fun(o: (List Int)×(List Int)×(List Int)×Bool×Bool×Bool) U w=>∃av:Value,SH E V [(7,av)] [own 3 av o.2.2.1] U w) (fun(r:Empty) _ _=>r.elim) hN ?_ ?_ ?_ ?_
 ·have j:=j.dD Int 3
  exact⟨v0,v1,(.slice none 0 0),j.sp 3 [2,1,0]⟩
 ·rintro o fl _ w ⟨ah,ad,ae,O,rfl,j⟩ hb
  refine RC.seq (RC.seq ?_)
  obtain⟨a1,hj,hb⟩:=bd hb
  refine RC.jn (fun(a1:Bool)=>SH E V [(0,ah),(1,ad),(2,v2),(7,ae),(8,vb o.2.2.2.1),(9,vb o.2.2.2.2.1),(10,vb o.2.2.2.2.2),(20,vb a1)] [rd ah o.1,rd ad o.2.1,own 3 ae o.2.2.1]) a1 ?_ ?_
  ·refine RC.region (mv ah (RL.bO 0 o.1 j lT (ic ((o.1.length:Int)) 0 (mv (vb (decide ((o.1.length:Int)>0))) (iz hj (fun ao hj=>?_) fun ao hj=>?_)))))
   ·refine cD ao (cD ao (cD ao (iJ ao (vb true) (RL.nil ?_))))
    obtain rfl:=oi hj
    exact⟨rfl,j.sp 3 [0,1,2]⟩
   refine RL.move ad (cg ao) (RL.bO (hg:=(cg ao)) 1 o.2.1 j lT (RL.k7 (o.2.1.length:Int) 0 (cg ao) (iJ ao (vb (decide ((o.2.1.length:Int)>0))) (RL.nil ?_))))
   obtain rfl:=oi hj
   exact⟨rfl,j.sp 3 [0,1,2]⟩
  rintro _ w ⟨O,rfl,j⟩
  refine aJ (fZ hb (fun hc hb=>?_) fun hc hb=>?_)
  rotate_left
  ·refine RC.ex ?_
   obtain rfl:=oi hb
   exact⟨rfl,ae,j.sp 3 [2]⟩
  refine RC.sn (RC.bs (aN (vi 0) (RL.nq (RC.seq ?_))))
  obtain⟨a2,hj,hb⟩:=bd hb
  refine RC.jn (fun(a2:Bool)=>SH E V [(0,ah),(1,ad),(2,v2),(7,ae),(8,vb o.2.2.2.1),(9,vb o.2.2.2.2.1),(10,vb o.2.2.2.2.2),(37,vb a2)] [rd ah o.1,rd ad o.2.1,own 3 ae o.2.2.1]) a2 ?_ ?_
  ·refine RC.xR mixed ?_
   have j:=j.drew
   refine RO.go (mv ad (RO.nx (RL.bO 1 o.2.1 j lT (RO.nx (ic ((o.2.1.length:Int)) 0 (RO.nx (mv (vb ((o.2.1.length:Int)==0)) (iz hj (fun ai hj=>?_) fun ai hj=>?_))))))))
   ·refine RO.nx (cD ai (RO.nx (cD ai (RO.nx (cD ai (RO.nx (cD ai (RO.nx ?_))))))))
    refine ER (RO.nx (ER (RO.nx (ER (RO.nx (ER (RO.nx (ER ?_))))))))
    refine RO.nx (ER (RO.nx (ER (RO.nx (cD ai (RO.nx (iJ ai (vb true) (RO.last ?_))))))))
    obtain rfl:=oi hj
    exact⟨rfl,j.sp 3 [0,1,2]⟩
   refine RO.nx (RL.move ah (cg ai) (RO.nx (RL.bO (hg:=(cg ai)) 0 o.1 j lT (RO.nx (RL.k7 (o.1.length:Int) 0 (cg ai) (RO.nx (RL.move (vb (decide ((o.1.length:Int)>0))) (cg ai) (iz hj (fun af hj=>?_) fun af hj=>?_))))))))
   rotate_left
   ·refine RO.nx (cD af (RO.nx (cD af (RO.nx (cD af (RO.nx (cD af (RO.nx ?_))))))))
    refine cD af (RO.nx (cD af (RO.nx (cD af (RO.nx (iJ af (vb false) (hg:=(cg ai)) (RO.nx (iJ ai (vb false) ?_))))))))
    refine RO.last ?_
    obtain rfl:=oi hj
    exact⟨rfl,j.sp 3 [0,1,2]⟩
   refine RO.nx (RL.move ah (cg af) (RO.nx ?_))
   obtain⟨ax,bj,hj⟩:=bd hj
   refine RL.cQ (hg:=(cg af)) 0 j fx bj fun bx j=>(RO.nx (RL.bQ (hg:=(cg af)) ax 0 j cV (RO.nx (RL.move ad (cg af) (RO.nx ?_)))))
   obtain⟨ay,bk,hj⟩:=bd hj
   refine RL.cQ (hg:=(cg af)) 2 j fx bk fun bz j=>(RO.nx (RL.bQ (hg:=(cg af)) ay 0 j cV (RO.nx (RL.k7 ax ay (cg af) (RO.nx (iJ af (vb (decide (ax<=ay))) (hg:=(cg ai)) (RO.nx (iJ ai (vb (decide (ax<=ay))) ?_))))))))
   refine RO.last ?_
   obtain rfl:=oi hj
   exact⟨rfl,j.sp 5 [2,3,4]⟩
  rintro _ w ⟨O,rfl,j⟩
  refine aJ ?_
  obtain⟨ag,hj,hb⟩:=bd hb
  refine RC.jn (fun(ag:Int)=>SH E V [(0,ah),(1,ad),(2,v2),(7,ae),(8,vb o.2.2.2.1),(9,vb o.2.2.2.2.1),(10,vb o.2.2.2.2.2),(11,vi ag)] [rd ah o.1,rd ad o.2.1,own 3 ae o.2.2.1]) ag ?_ ?_
  ·refine fZ hj (fun hc hj=>?_) fun hc hj=>?_
   ·refine RC.region (mv ah ?_)
    obtain⟨ba,bl,hj⟩:=bd hj
    refine RL.cQ 0 j fx bl fun b0 j=>(RL.bQ ba 0 j cV (aN (vi ba) (RL.nil ?_)))
    obtain rfl:=oi hj
    exact⟨rfl,j.sp 4 [1,2,3]⟩
   refine RC.region (mv ad ?_)
   obtain⟨bb,bm,hj⟩:=bd hj
   refine RL.cQ 1 j fx bm fun b1 j=>(RL.bQ bb 0 j cV (aN (vi bb) (RL.nil ?_)))
   obtain rfl:=oi hj
   exact⟨rfl,j.sp 4 [1,2,3]⟩
  rintro _ w ⟨O,rfl,j⟩
  refine aJ (RC.seq (RC.seq ?_))
  obtain⟨a3,hj,hb⟩:=bd hb
  refine RC.jn (fun(a3:Bool)=>SH E V [(0,ah),(1,ad),(2,v2),(7,ae),(8,vb o.2.2.2.1),(9,vb o.2.2.2.2.1),(10,vb o.2.2.2.2.2),(11,vi ag),(53,vb a3)] [rd ah o.1,rd ad o.2.1,own 3 ae o.2.2.1]) a3 ?_ ?_
  ·refine RC.region (mv ah (RL.bO 0 o.1 j lT (ic ((o.1.length:Int)) 0 (mv (vb (decide ((o.1.length:Int)>0))) (iz hj (fun aj hj=>?_) fun aj hj=>?_)))))
   rotate_left
   ·refine cD aj (cD aj (cD aj (cD aj (cD aj (iJ aj (vb false) (RL.nil ?_))))))
    obtain rfl:=oi hj
    exact⟨rfl,j.sp 3 [0,1,2]⟩
   refine RL.move ah (cg aj) ?_
   obtain⟨a4,bn,hj⟩:=bd hj
   refine RL.cQ (hg:=(cg aj)) 0 j fx bn fun b2 j=>(RL.bQ (hg:=(cg aj)) a4 0 j cV (RL.move (vi ag) (cg aj) (RL.k7 a4 ag (cg aj) (iJ aj (vb (a4==ag)) (RL.nil ?_)))))
   obtain rfl:=oi hj
   exact⟨rfl,j.sp 4 [1,2,3]⟩
  rintro _ w ⟨O,rfl,j⟩
  refine aJ ?_
  obtain⟨al,hj,hb⟩:=bd hb
  refine RC.jn (fun(al: (List Int)×Bool) U w=>∃an:Value,SH E V [(0,an),(1,ad),(2,v2),(7,ae),(8,vb al.2),(9,vb o.2.2.2.2.1),(10,vb o.2.2.2.2.2),(11,vi ag)] [rd ad o.2.1,own 3 ae o.2.2.1,rd an al.1] U w) al ?_ ?_
  ·refine fZ hj (fun hc hj=>?_) fun hc hj=>?_
   rotate_left
   ·refine RC.skip ?_
    obtain rfl:=oi hj
    exact⟨rfl,ah,j.sp 3 [1,2,0]⟩
   refine RC.region (mv ah ?_)
   obtain⟨b3,bo,hj⟩:=bd hj
   refine RL.cut 0 zr j zr zr fx (.inr ⟨rfl,zr⟩) bo fun bc j=>(mv (vb o.2.2.2.1) (RL.not o.2.2.2.1 (aN bc (aN (vb (!o.2.2.2.1)) (RL.nil ?_)))))
   obtain rfl:=oi hj
   exact⟨rfl,bc,j.sp 4 [2,3,0]⟩
  rintro _ w ⟨an,O,rfl,j⟩
  refine aJ (RC.seq (RC.seq ?_))
  obtain⟨a5,hj,hb⟩:=bd hb
  refine RC.jn (fun(a5:Bool)=>SH E V [(0,an),(1,ad),(2,v2),(7,ae),(8,vb al.2),(9,vb o.2.2.2.2.1),(10,vb o.2.2.2.2.2),(11,vi ag),(67,vb a5)] [rd an al.1,rd ad o.2.1,own 3 ae o.2.2.1]) a5 ?_ ?_
  ·refine RC.region (mv ad (RL.bO 0 o.2.1 j lT (ic ((o.2.1.length:Int)) 0 (mv (vb (decide ((o.2.1.length:Int)>0))) (iz hj (fun ak hj=>?_) fun ak hj=>?_)))))
   rotate_left
   ·refine cD ak (cD ak (cD ak (cD ak (cD ak (iJ ak (vb false) (RL.nil ?_))))))
    obtain rfl:=oi hj
    exact⟨rfl,j.sp 3 [2,0,1]⟩
   refine RL.move ad (cg ak) ?_
   obtain⟨a6,bp,hj⟩:=bd hj
   refine RL.cQ (hg:=(cg ak)) 0 j fx bp fun b4 j=>(RL.bQ (hg:=(cg ak)) a6 0 j cV (RL.move (vi ag) (cg ak) (RL.k7 a6 ag (cg ak) (iJ ak (vb (a6==ag)) (RL.nil ?_)))))
   obtain rfl:=oi hj
   exact⟨rfl,j.sp 4 [3,1,2]⟩
  rintro _ w ⟨O,rfl,j⟩
  refine aJ ?_
  obtain⟨ar,hj,hb⟩:=bd hb
  refine RC.jn (fun(ar: (List Int)×Bool) U w=>∃au:Value,SH E V [(0,an),(1,au),(2,v2),(7,ae),(8,vb al.2),(9,vb ar.2),(10,vb o.2.2.2.2.2),(11,vi ag)] [rd an al.1,own 3 ae o.2.2.1,rd au ar.1] U w) ar ?_ ?_
  ·refine fZ hj (fun hc hj=>?_) fun hc hj=>?_
   rotate_left
   ·refine RC.skip ?_
    obtain rfl:=oi hj
    exact⟨rfl,ad,j.sp 3 [0,2,1]⟩
   refine RC.region (mv ad ?_)
   obtain⟨b5,bq,hj⟩:=bd hj
   refine RL.cut 1 zr j zr zr fx (.inr ⟨rfl,zr⟩) bq fun bf j=>(mv (vb o.2.2.2.2.1) (RL.not o.2.2.2.2.1 (aN bf (aN (vb (!o.2.2.2.2.1)) (RL.nil ?_)))))
   obtain rfl:=oi hj
   exact⟨rfl,bf,j.sp 4 [1,3,0]⟩
  rintro _ w ⟨au,O,rfl,j⟩
  refine aJ (RC.sr (mv v2 (mv (vb al.2) (mv (vb ar.2) ?_))))
  have j:=(j.sc Bool al.2).sc Bool ar.2
  obtain⟨aw,br,hb⟩:=bd hb
  refine RL.zd 1 0 zt zr j zr h2 5 zr zr zr zr zr br fun w j=>(aN (vb aw) (RL.ns (mv (vb aw) (mv (vb o.2.2.2.2.2) (RL.Dx (a:=aw) (b:=o.2.2.2.2.2) zt zr zr zr Iv (RL.nt ?_))))))
  obtain⟨az,hj,hb⟩:=bd hb
  refine RC.jn (fun(az: (List Int)×Bool) U w=>∃a0:Value,SH E V [(0,an),(1,au),(2,v2),(7,a0),(8,vb al.2),(9,vb ar.2),(10,vb az.2)] [rd an al.1,rd au ar.1,own 3 a0 az.1] U w) az ?_ ?_
  ·refine fZ hj (fun hc hj=>?_) fun hc hj=>?_
   rotate_left
   ·refine RC.skip ?_
    obtain rfl:=oi hj
    exact⟨rfl,ae,j.sp 5 [2,4,3]⟩
   refine RC.region (mv ae (mv (vi ag) ?_))
   have j:=j.sc Int ag
   refine RL.fI ([ag]: (List Int)) j [(vi ag)] fx Dr (fun M hs g=>⟨(g.sat 0 _ zr).1,zt⟩) fun b6 w j=>?_
   have j:=j.freeze 0
   obtain⟨b7,bt,hj⟩:=bd hj
   refine RL.app 5 0 j tE bt fun bg w j=>?_
   refine mv (vb aw) (aN bg (aN (vb aw) (RL.nil ?_)))
   obtain rfl:=oi hj
   exact⟨rfl,bg,j.sp 7 [4,6,5]⟩
  rintro _ w ⟨a0,O,rfl,j⟩
  refine bZ ?_
  obtain rfl:=oi hb
  exact⟨rfl,an,au,a0,j.sp 3 [0,1,2]⟩
 ·intro r _ _ _ _
  exact r.elim
 rintro o _ w rfl ⟨av,O,rfl,j⟩
 rw [Fo.gL] at hb
 refine aJ (RC.sr (mv av (aN av (RL.nt (RC.ret ?_)))))
 obtain rfl:=oi hb
 exact cA (j.pk 1 [0])
theorem p7 {p0: (List aA)} {p1: (List aA)} {p2:Bool->Bool->Option Bool} {res: (List aA)} (j:Holds E w V) (h0:V[i0]? =some (rd v0 p0)) (h1:V[i1]? =some (rd v1 p1)) (h2:EE bG E V v2 p2 (fun(r:Bool)=>Value.bool r)) (o:jf N p0 p1 p2=some res):
    Calls bG 19 [v0,v1,v2].toArray w (gF (i7 E V res)):=by
 unfold jf at o
 refine enter Tryz.func19 zr zr ?_
 have j:=(j.dup (i0+0) h0).dup (i1+1) h1
 refine RC.sr (aN (.slice none 0 0) (RL.ns (aN (.slice none 0 0) (RL.nq (RC.sr (mv v0 (RL.bO 1 p0 j qU (mv v1 ?_))))))))
 refine RL.bO 0 p1 j qU (RL.jV (p0.length:Int) (p1.length:Int) (ic ((IntKind.wrap .i64 ((p0.length:Int)+ (p1.length:Int)))) 0 (RL.nt (fZ o (fun hc o=>?_) fun hc o=>?_))))
 ·refine RC.sr (aN (.slice none 0 0) (RL.nt (RC.rt ?_)))
  obtain rfl:=oi o
  have j:=j.dD aA 86
  exact cA (j.pk 3 [0])
 refine RC.sx (aN (vi 0) (aN (vi 0) (RL.nq (RC.sr (mv v0 (mv v1 (RL.fI ([p0,p1]: (List (List aA))) j [v0,v1] Cs EX (fun M hs g=>⟨(g.sat 1 _ zr).1,⟨(g.sat 0 _ zr).1,zt⟩⟩) fun ar w j=>(RL.fU 0 ([p0,p1]: (List (List aA))) j FY ?_))))))))
 refine mv (vi 0) (RL.nt ?_)
 obtain⟨ad,hN,o⟩:=bd o
 refine RC.fold (fun(aj:Nat) (ad:Int×Int)=>SH E V [(0,v0),(1,v1),(2,v2),(7,(.slice none 0 0)),(8,vi ad.1),(9,vi ad.2),(25,ar),(26,(vi ((([p0,p1]: (List (List aA))).length:Nat):Int))),(27,vi aj)] [rd v0 p0,rd v1 p1,own 40 ar ([p0,p1]: (List (List aA)))]) (fun(ad:Int×Int)=>SH E V [(0,v0),(1,v1),(2,v2),(7,(.slice none 0 0)),(8,vi ad.1),(9,vi ad.2)] [rd v0 p0,rd v1 p1,own 40 ar ([p0,p1]: (List (List aA)))]) hN ?_ ?_ ?_ ?_
 ·exact j.sp 3 [2,1,0]
 ·rintro hm ad _ w ⟨O,rfl,j⟩
  refine RC.sr (ic (((([p0,p1]: (List (List aA))).length:Nat):Int)) (((([p0,p1]: (List (List aA))).length:Nat):Int)) (RL.nq (RC.dX px (RC.ex ?_))))
  exact⟨rfl,j.sp 3 [0,1,2]⟩
 ·rintro hm aj ad s' _ w hk ⟨O,rfl,j⟩ o
  refine RC.sr (ic ((aj:Int)) (((([p0,p1]: (List (List aA))).length:Nat):Int)) (RL.nq (RC.dW (pw hk) (RC.ss (RC.bs (mv (vi aj) ?_))))))
  obtain⟨iH,a7,o⟩:=bd o
  refine RL.bM 2 j zr zr Cs a7 (RL.kj (f:=(fun x=>x)) 2 j (jQ 2 j a7 0) (aY a7).2.1 Fd.self FZ fun ak j=>?_)
  refine aN (vi aj) (aN ak (RL.ns (mv ak (RL.bO 0 iH j qU (ic ((iH.length:Int)) 0 (RL.nt ?_))))))
  obtain⟨a4,hj,o⟩:=bd o
  refine RC.jn (fun(a4:Int×Int)=>SH E V [(0,v0),(1,v1),(2,v2),(7,(.slice none 0 0)),(8,vi a4.1),(9,vi a4.2),(25,ar),(26,(vi ((([p0,p1]: (List (List aA))).length:Nat):Int))),(27,vi aj)] [rd v0 p0,rd v1 p1,own 40 ar ([p0,p1]: (List (List aA)))]) a4 ?_ ?_
  ·refine fZ hj (fun hc hj=>?_) fun hc hj=>?_
   rotate_left
   ·refine RC.skip ?_
    obtain rfl:=oi hj
    exact⟨rfl,j.sp 4 [1,2,3]⟩
   refine RC.seq (RC.seq ?_)
   obtain⟨a8,hjj,hj⟩:=bd hj
   refine RC.jn (fun(a8:Bool)=>SH E V [(0,v0),(1,v1),(2,v2),(7,(.slice none 0 0)),(8,vi ad.1),(9,vi ad.2),(11,ak),(25,ar),(26,(vi ((([p0,p1]: (List (List aA))).length:Nat):Int))),(27,vi aj),(41,vb a8)] [rd v0 p0,rd v1 p1,rd ak iH,own 40 ar ([p0,p1]: (List (List aA)))]) a8 ?_ ?_
   ·refine RC.region (mv (vi aj) (ic ((aj:Int)) 0 (mv (vb ((aj:Int)==0)) (iz hjj (fun au hjj=>?_) fun au hjj=>?_))))
    ·refine cD au (cD au (cD au (iJ au (vb true) (RL.nil ?_))))
     obtain rfl:=oi hjj
     exact⟨rfl,j.sp 4 [1,2,0,3]⟩
    refine RL.move v0 (cg au) (RL.bO (hg:=(cg au)) 1 p0 j qU (RL.k7 (p0.length:Int) 0 (cg au) (iJ au (vb ((p0.length:Int)==0)) (RL.nil ?_))))
    obtain rfl:=oi hjj
    exact⟨rfl,j.sp 4 [1,2,0,3]⟩
   rintro _ w ⟨O,rfl,j⟩
   refine aJ ?_
   obtain⟨al,hjj,hj⟩:=bd hj
   refine RC.jn (fun(al:Int×Int)=>SH E V [(0,v0),(1,v1),(2,v2),(7,(.slice none 0 0)),(8,vi al.1),(9,vi al.2),(11,ak),(25,ar),(26,(vi ((([p0,p1]: (List (List aA))).length:Nat):Int))),(27,vi aj)] [rd v0 p0,rd v1 p1,rd ak iH,own 40 ar ([p0,p1]: (List (List aA)))]) al ?_ ?_
   ·refine fZ hjj (fun hc hjj=>?_) fun hc hjj=>?_
    rotate_left
    ·refine RC.skip ?_
     obtain rfl:=oi hjj
     exact⟨rfl,j.sp 4 [0,1,2,3]⟩
    refine RC.xR mixed ?_
    have j:=j.drew
    refine RO.go (mv ak (RO.nx ?_))
    obtain⟨bh,bu,hjj⟩:=bd hjj
    refine RL.cQ 2 j l9 bu fun cc j=>(RO.nx (RL.iT 0 j zr oT eX fun cd j=>(RO.nx (RL.bQ bh.Y0 0 j cV (RO.nx (mv ak (RO.nx (mv ak ?_))))))))
    refine RO.nx (RL.bO 4 iH j qU (RO.nx (RL.jV (iH.length:Int) 1 (RO.nx ?_))))
    obtain⟨bj,bw,hjj⟩:=bd hjj
    refine RL.cQ 4 j l9 bw fun cf j=>(RO.nx (RL.iT 0 j zr l8 dS fun ch j=>(RO.nx (RL.bQ bj.Y1 0 j cV (RO.nx (aN (vi bh.Y0) (RO.nx (aN (vi bj.Y1) ?_))))))))
    refine RO.last ?_
    obtain rfl:=oi hjj
    exact⟨rfl,j.sp 8 [4,5,6,7]⟩
   rintro _ w ⟨O,rfl,j⟩
   refine aJ (RC.xR mixed ?_)
   have j:=j.drew
   refine RO.go (mv (vi al.1) (RO.nx (mv ak (RO.nx ?_))))
   obtain⟨a5,bx,hj⟩:=bd hj
   refine RL.cQ 2 j l9 bx fun cj j=>(RO.nx (RL.iT 0 j zr oT eX fun ck j=>(RO.nx (RL.bQ a5.Y0 0 j cV (RO.nx (RL.min al.1 a5.Y0 (RO.nx (mv (vi al.2) ?_))))))))
   refine RO.nx (mv ak (RO.nx (mv ak (RO.nx (RL.bO 4 iH j qU (RO.nx (RL.jV (iH.length:Int) 1 (RO.nx ?_))))))))
   obtain⟨a6,bz,hj⟩:=bd hj
   refine RL.cQ 4 j l9 bz fun cl j=>(RO.nx (RL.iT 0 j zr l8 dS fun cm j=>(RO.nx (RL.bQ a6.Y1 0 j cV (RO.nx (RL.max al.2 a6.Y1 (RO.nx (aN (vi (if a5.Y0<al.1 then a5.Y0 else al.1)) ?_))))))))
   refine RO.nx (aN (vi (if al.2<a6.Y1 then a6.Y1 else al.2)) (RO.last ?_))
   obtain rfl:=oi hj
   exact⟨rfl,j.sp 8 [4,5,7]⟩
  rintro _ w ⟨O,rfl,j⟩
  refine bZ (aJ (RC.region (RL.inc hk hm (mv (vi ((aj+1:Nat):Int)) (RL.nil ?_)))))
  obtain rfl:=oi o
  exact⟨rfl,j.sp 3 [0,1,2]⟩
 rintro _ w ⟨O,rfl,j⟩
 refine aJ (RC.seq ?_)
 obtain⟨cn,hN,o⟩:=bd o
 refine RC.iter (fun(aa: (List aA)×(List aA)×(List aA)×Int) U w=>∃bk bl bm:Value,SH E V [(0,bk),(1,bl),(2,v2),(7,bm),(8,vi aa.2.2.2),(9,vi ad.2)] [rd bk aa.1,rd bl aa.2.1,own 86 bm aa.2.2.1] U w) (fun(aa: (List aA)×(List aA)×(List aA)×Int) U w=>∃a1:Value,SH E V [(7,a1)] [own 86 a1 aa.2.2.1] U w) (fun(r:Empty) _ _=>r.elim) hN ?_ ?_ ?_ ?_
 ·have j:=j.dD aA 86
  exact⟨v0,v1,(.slice none 0 0),j.sp 4 [1,2,0]⟩
 ·rintro aa fl _ w ⟨b0,ax,ag,O,rfl,j⟩ o
  refine RC.seq (RC.sr (mv (vi aa.2.2.2) (mv (vi ad.2) (ic aa.2.2.2 ad.2 (RL.nt (fZ o (fun hc o=>?_) fun hc o=>?_))))))
  rotate_left
  ·refine RC.ex ?_
   obtain rfl:=oi o
   exact⟨rfl,ag,j.sp 3 [2]⟩
  refine RC.sn (RC.block (RC.seq ?_))
  obtain⟨cp,hN,o⟩:=bd o
  refine RC.iter (fun(an: (List aA)) U w=>∃bo:Value,SH E V [(0,bo),(1,ax),(2,v2),(7,ag),(8,vi aa.2.2.2),(9,vi ad.2)] [rd ax aa.2.1,own 86 ag aa.2.2.1,rd bo an] U w) (fun(an: (List aA)) U w=>∃ao:Value,SH E V [(0,ao),(1,ax),(2,v2),(7,ag),(8,vi aa.2.2.2),(9,vi ad.2)] [rd ax aa.2.1,own 86 ag aa.2.2.1,rd ao an] U w) (fun(r:Empty) _ _=>r.elim) hN ?_ ?_ ?_ ?_
  ·exact⟨b0,j.sp 3 [1,2,0]⟩
  ·rintro an fl _ w ⟨ay,O,rfl,j⟩ o
   refine RC.seq (RC.seq ?_)
   obtain⟨a9,hj,o⟩:=bd o
   refine RC.jn (fun(a9:Bool)=>SH E V [(0,ay),(1,ax),(2,v2),(7,ag),(8,vi aa.2.2.2),(9,vi ad.2),(82,vb a9)] [rd ay an,rd ax aa.2.1,own 86 ag aa.2.2.1]) a9 ?_ ?_
   ·refine RC.region (mv ay (RL.bO 2 an j qU (ic ((an.length:Int)) 0 (mv (vb (decide ((an.length:Int)>0))) (iz hj (fun ah hj=>?_) fun ah hj=>?_)))))
    rotate_left
    ·refine cD ah (cD ah (cD ah (cD ah (cD ah (cD ah (iJ ah (vb false) (RL.nil ?_)))))))
     obtain rfl:=oi hj
     exact⟨rfl,j.sp 3 [2,0,1]⟩
    refine RL.move ay (cg ah) ?_
    obtain⟨ba,b1,hj⟩:=bd hj
    refine RL.cQ (hg:=(cg ah)) 2 j l9 b1 fun cq j=>(RL.iT (hg:=(cg ah)) 0 j zr l8 dS fun cr j=>(RL.bQ (hg:=(cg ah)) ba.Y1 0 j cV (RL.move (vi aa.2.2.2) (cg ah) (RL.k7 ba.Y1 aa.2.2.2 (cg ah) (iJ ah (vb (decide (ba.Y1<=aa.2.2.2))) (RL.nil ?_))))))
    obtain rfl:=oi hj
    exact⟨rfl,j.sp 5 [4,2,3]⟩
   rintro _ w ⟨O,rfl,j⟩
   refine aJ (fZ o (fun hc o=>?_) fun hc o=>?_)
   rotate_left
   ·refine RC.ex ?_
    obtain rfl:=oi o
    exact⟨rfl,ay,j.sp 3 [1,2,0]⟩
   refine RC.sn (RC.block (RC.region (mv ay ?_)))
   obtain⟨ct,b2,o⟩:=bd o
   refine RL.cut 0 zr j zr zr l9 (.inr ⟨rfl,zr⟩) b2 fun bp j=>(aN bp (RL.nil (bZ ?_)))
   obtain rfl:=oi o
   exact⟨rfl,bp,j.sp 4 [2,3,0]⟩
  ·intro r _ _ _ _
   exact r.elim
  rintro an _ w rfl ⟨ao,O,rfl,j⟩
  rw [Fo.gL] at o
  refine aJ (RC.seq ?_)
  obtain⟨cu,hN,o⟩:=bd o
  refine RC.iter (fun(av: (List aA)) U w=>∃bq:Value,SH E V [(0,ao),(1,bq),(2,v2),(7,ag),(8,vi aa.2.2.2),(9,vi ad.2)] [rd ao an,own 86 ag aa.2.2.1,rd bq av] U w) (fun(av: (List aA)) U w=>∃az:Value,SH E V [(0,ao),(1,az),(2,v2),(7,ag),(8,vi aa.2.2.2),(9,vi ad.2)] [rd ao an,own 86 ag aa.2.2.1,rd az av] U w) (fun(r:Empty) _ _=>r.elim) hN ?_ ?_ ?_ ?_
  ·exact⟨ax,j.sp 3 [2,1,0]⟩
  ·rintro av fl _ w ⟨a0,O,rfl,j⟩ o
   refine RC.seq (RC.seq ?_)
   obtain⟨bb,hj,o⟩:=bd o
   refine RC.jn (fun(bb:Bool)=>SH E V [(0,ao),(1,a0),(2,v2),(7,ag),(8,vi aa.2.2.2),(9,vi ad.2),(95,vb bb)] [rd ao an,rd a0 av,own 86 ag aa.2.2.1]) bb ?_ ?_
   ·refine RC.region (mv a0 (RL.bO 2 av j qU (ic ((av.length:Int)) 0 (mv (vb (decide ((av.length:Int)>0))) (iz hj (fun ai hj=>?_) fun ai hj=>?_)))))
    rotate_left
    ·refine cD ai (cD ai (cD ai (cD ai (cD ai (cD ai (iJ ai (vb false) (RL.nil ?_)))))))
     obtain rfl:=oi hj
     exact⟨rfl,j.sp 3 [0,2,1]⟩
    refine RL.move a0 (cg ai) ?_
    obtain⟨bc,b3,hj⟩:=bd hj
    refine RL.cQ (hg:=(cg ai)) 2 j l9 b3 fun cv j=>(RL.iT (hg:=(cg ai)) 0 j zr l8 dS fun cw j=>(RL.bQ (hg:=(cg ai)) bc.Y1 0 j cV (RL.move (vi aa.2.2.2) (cg ai) (RL.k7 bc.Y1 aa.2.2.2 (cg ai) (iJ ai (vb (decide (bc.Y1<=aa.2.2.2))) (RL.nil ?_))))))
    obtain rfl:=oi hj
    exact⟨rfl,j.sp 5 [2,4,3]⟩
   rintro _ w ⟨O,rfl,j⟩
   refine aJ (fZ o (fun hc o=>?_) fun hc o=>?_)
   rotate_left
   ·refine RC.ex ?_
    obtain rfl:=oi o
    exact⟨rfl,a0,j.sp 3 [0,2,1]⟩
   refine RC.sn (RC.block (RC.region (mv a0 ?_)))
   obtain⟨cx,b4,o⟩:=bd o
   refine RL.cut 1 zr j zr zr l9 (.inr ⟨rfl,zr⟩) b4 fun br j=>(aN br (RL.nil (bZ ?_)))
   obtain rfl:=oi o
   exact⟨rfl,br,j.sp 4 [1,3,0]⟩
  ·intro r _ _ _ _
   exact r.elim
  rintro av _ w rfl ⟨az,O,rfl,j⟩
  rw [Fo.gL] at o
  refine aJ (RC.sr (mv ao (mv (vi aa.2.2.2) (mv (vi ad.2) ?_))))
  obtain⟨ae,b5,o⟩:=bd o
  refine RL.call zt zr F0 [ao,(vi aa.2.2.2),(vi ad.2)] zr (aD (ph N (p1:=aa.2.2.2) (p2:=ad.2) (i0:=0) j zr b5) ?_)
  rintro _ w ⟨a2,rfl,j⟩
  refine mv (.tuple #[a2,(vi ae.2)]) (RL.extract a2 (RL.extract (vi ae.2) (aN a2 (aN (vi ae.2) (RL.ns (mv az (mv (vi aa.2.2.2) (mv (vi ad.2) ?_))))))))
  obtain⟨af,b6,o⟩:=bd o
  refine RL.call zt zr F0 [az,(vi aa.2.2.2),(vi ad.2)] zr (aD (ph N (p1:=aa.2.2.2) (p2:=ad.2) (i0:=3) j zr b6) ?_)
  rintro _ w ⟨a3,rfl,j⟩
  refine mv (.tuple #[a3,(vi af.2)]) (RL.extract a3 (RL.extract (vi af.2) (aN a3 (aN (vi af.2) (RL.ns (mv (vi ae.2) (mv (vi af.2) (RL.min ae.2 af.2 ?_))))))))
  refine aN (vi (if af.2<ae.2 then af.2 else ae.2)) (RL.ns (mv ag (mv (vi aa.2.2.2) (mv (vi (if af.2<ae.2 then af.2 else ae.2)) (mv a2 (mv a3 (mv v2 ?_)))))))
  obtain⟨b7,b8,o⟩:=bd o
  refine RL.call zt zr Hv [a2,a3,v2] zr (aD (vZ N (i0:=1) (i1:=0) j zr zr (h2.lift 5 zr) b8) ?_)
  rintro b9 w j
  have j:=((j.sc Int aa.2.2.2).sc Int (if af.2<ae.2 then af.2 else ae.2)).freeze 2
  refine RL.build (⟨aa.2.2.2,(if af.2<ae.2 then af.2 else ae.2),b7⟩:aA) trivial rfl j [(0,vi aa.2.2.2),(1,(vi (if af.2<ae.2 then af.2 else ae.2))),(2,b9)] rfl FF rfl (fun M hs g=>by have h:=sD M;exact dR.cons (f:=fun(x:aA) y=>{x with Y0:=y}) h pd (g.sat 1 _ rfl).1 fun _ h=>dR.cons (f:=fun(x:aA) y=>{x with Y1:=y}) h l7 (g.sat 0 _ rfl).1 fun _ h=>dR.cons (f:=fun(x:aA) y=>{x with Xs:=y}) h pf (g.sat 2 _ rfl).1 fun _ h=>dR.nil h) fun ca j=>?_
  have j:=j.pull 7
  obtain⟨cy,cb,o⟩:=bd o
  refine RL.call zt zr FG [ag,ca] zr (aD (nu N (i1:=0) j zr cb) ?_)
  rintro bt w j
  refine aN bt (RL.nt (RC.region (mv (vi (if af.2<ae.2 then af.2 else ae.2)) (aN (vi (if af.2<ae.2 then af.2 else ae.2)) (RL.nil (bZ ?_))))))
  obtain rfl:=oi o
  exact⟨rfl,ao,az,bt,j.sp 10 [7,9,0]⟩
 ·intro r _ _ _ _
  exact r.elim
 rintro aa _ w rfl ⟨a1,O,rfl,j⟩
 rw [Fo.gL] at o
 refine aJ (RC.sr (mv a1 (aN a1 (RL.nt (RC.ret ?_)))))
 obtain rfl:=oi o
 exact cA (j.pk 1 [0])
theorem p8 {p0 p1 res:Bool} (o:Holds E w V) (j:jM N p0 p1=some res):
    Calls bG 24 [(vb p0),(vb p1)].toArray w (gF (bD E V res)):=by
 unfold jM at j
 refine enter Tryz.func24 rfl rfl (RC.sr (aN (vb false) (RL.ns (mv (vb p0) (mv (vb p0) (RL.gs true p0 (vb p1) rfl rfl rfl dO (RL.gs true p0 (vb (!p1)) rfl rfl rfl (EB (b:=p1) rfl (fun h=>by exact(dE h:cv (true&&(p0==true)) (vb p1)= (vb p1)))) (RL.pick p0 (vb (p0&&(!p1))) (jk true) ?_))))))))
 refine aN (vb (p0&&(!p1))) (RL.nt (RC.ret ?_))
 obtain rfl:=oi j
 exact cA ⟨rfl,o.drop 0⟩
theorem ny {p0: (List aA)} {p1: (List aA)} {res: (List aA)} (o:Holds E w V) (h0:V[i0]? =some (rd v0 p0)) (h1:V[i1]? =some (rd v1 p1)) (hb:gq N p0 p1=some res):
    Calls bG 11 [v0,v1].toArray w (gF (i7 E V res)):=by
 unfold gq at hb
 refine enter Tryz.func11 zr zr ?_
 have o:=(o.dup (i0+0) h0).dup (i1+1) h1
 refine RC.sr (aN (.slice none 0 0) (RL.ns (mv v0 (mv v1 ?_))))
 obtain⟨af,ab,hb⟩:=bd hb
 refine RL.call trivial rfl F1 [v0,v1,(.func (.func 24) #[] #[])] rfl (aD (p7 N (i0:=1) (i1:=0) o rfl rfl ⟨24,[],rfl,Hx,fun w Γl v v' y0 y1 r i j o hi hj hr=>by obtain rfl:=o.vS (γ:=Bool) hi;obtain rfl:=o.vS (γ:=Bool) hj;exact aD (p8 N (p0:=y0) (p1:=y1) o hr) fun _ _ h=>h⟩ ab) ?_)
 rintro ae w o
 refine aN ae (RL.nt (RC.ret ?_))
 obtain rfl:=oi hb
 exact cA (o.pk 3 [0])
theorem nz {p0: (List aA)} (j:Holds E w V) (h0:V[i0]? =some (rd v0 p0)) (hb:iY N p0=some res):
    Calls bG 39 [v0].toArray w (gF (aQ E V res)):=by
 unfold iY at hb
 refine enter Tryz.func39 zr zr ?_
 have j:=j.dup (i0+0) h0
 refine RC.sr (aN (vi 0) (RL.ns (aN (vi 0) (RL.nq (RC.sr (mv v0 (RL.bO 0 p0 j qU (mv (vi 0) ?_))))))))
 refine RL.nt ?_
 obtain⟨o,hN,hb⟩:=bd hb
 refine RC.fold (fun(ad:Nat) (o:Int)=>SH E V [(3,vi o),(6,v0),(7,vi p0.length),(8,vi ad)] [rd v0 p0]) (fun(o:Int)=>SH E V [(3,vi o)] [rd v0 p0]) hN ?_ ?_ ?_ ?_
 ·exact j.sp 1 [0]
 ·rintro hm o _ w ⟨O,rfl,j⟩
  refine RC.sr (ic ((p0.length:Int)) ((p0.length:Int)) (RL.nq (RC.dX px (RC.ex ?_))))
  exact⟨rfl,j.sp 1 [0]⟩
 ·rintro hm ad o s' _ w hk ⟨O,rfl,j⟩ hb
  refine RC.sr (ic ((ad:Int)) ((p0.length:Int)) (RL.nq (RC.dW (pw hk) (RC.ss (RC.bs ?_)))))
  obtain⟨ab,ah,hb⟩:=bd hb
  refine RL.cQ 0 j l9 ah fun ai j=>(RL.cG 0 ab j xd fun aj j=>(RL.alloc j Cm.z fun ak w j=>?_))
  refine RL.aZ 0 j 1 zr xd fun w j=>?_
  refine RL.nt (RC.region (mv (vi o) (RL.bF zr lj (RL.aR 0 j zr cR fw fun al j=>(RL.bO 0 ab.Xs j lT (RL.quo (ab.Xs.length:Int) 2 zr zr zr zr (RL.jV o (IntKind.wrap .i64 (Int.tdiv (ab.Xs.length:Int) 2)) (aN (vi (IntKind.wrap .i64 (o+ (IntKind.wrap .i64 (Int.tdiv (ab.Xs.length:Int) 2))))) ?_))))))))
  refine RL.nil (bZ (aJ (RC.region (RL.inc hk hm (mv (vi ((ad+1:Nat):Int)) (RL.nil ?_))))))
  obtain rfl:=oi hb
  exact⟨rfl,j.sp 5 [4]⟩
 rintro _ w ⟨O,rfl,j⟩
 refine aJ (RC.sr (mv (vi o) (aN (vi o) (RL.nt (RC.ret ?_)))))
 obtain rfl:=oi hb
 exact cA ⟨rfl,j.drop 1⟩
def p9 (E:World) (V:List HP) (b1:Nat) (res:Int×(List Int)) (v:Value) (w:World):Prop:=∃u1_0:Value,v= (vi res.1)/\Holds E w ([bc 70 b1 [u1_0],own 3 u1_0 res.2]++V)
theorem jL {p1_0: (List Int)} {res:Int×(List Int)} (j:Holds E w (bc 70 b1 [v1_0]::own 3 v1_0 p1_0::V)) (o:dQ N p0 p1_0=some res):
    Calls bG 102 [(vi p0),(vp b1 0)].toArray w (gF (p9 E V b1 res)):=by
 unfold dQ at o
 refine enter Tryz.func102 zr zr (RC.sr (aN (vi 0) (RL.nq ?_)))
 obtain⟨an,hN,o⟩:=bd o
 refine RC.iter (fun(aa:Int×(List Int))=>SH E V [(0,vi aa.1),(1,vp b1 0)] [bc 70 b1 [v1_0],own 3 v1_0 aa.2]) (fun(aa:Int×(List Int))=>SH E V [(0,vi aa.1),(1,vp b1 0)] [bc 70 b1 [v1_0],own 3 v1_0 aa.2]) (fun(r:Empty) _ _=>r.elim) hN ?_ ?_ ?_ ?_
 ·exact j.sp 2 [0,1]
 ·rintro aa fl _ w ⟨O,rfl,j⟩ o
  refine RC.seq (RC.sr (RL.bK 0 v1_0 j fw (mv (vi aa.1) ?_)))
  obtain⟨ai,ab,o⟩:=bd o
  refine RL.bM 1 j zr zr fx ab (RL.dN (f:=(fun x=>x)) 1 j (jQ 1 j ab 0) (aY ab).2.1 Fd.self cV (mv (vi aa.1) (ic ai aa.1 (RL.nt (fZ o (fun hc o=>?_) fun hc o=>?_)))))
  rotate_left
  ·refine RC.ex ?_
   obtain rfl:=oi o
   exact⟨rfl,j.sp 2 [0,1]⟩
  refine RC.sn (RC.block (RC.seq (RC.Ah mixed [0,0,0,0,0,0,0,0,0,0,2] [0,1,2,3,4,5,6,7,8,9,10] ?_)))
  have j:=j.drew
  refine DP.e0 zr (RL.bK 0 v1_0 j fw (dJ zr (mv (vi aa.1) (dJ zr (RL.bK 0 v1_0 j fw (dJ zr (RL.bK 0 v1_0 j fw (dJ zr ?_))))))))
  refine mv (vi aa.1) (dJ zr ?_)
  obtain⟨aq,ad,o⟩:=bd o
  refine RL.bM 1 j zr zr fx ad (dJ zr (RL.dN (f:=(fun x=>x)) 1 j (jQ 1 j ad 0) (aY ad).2.1 Fd.self cV (dJ zr ?_)))
  obtain⟨ak,ae,o⟩:=bd o
  refine RL.bM 1 j zr zr fx ae (dJ zr (RL.dN (f:=(fun x=>x)) 1 j (jQ 1 j ae 0) (aY ae).2.1 Fd.self cV (dJ zr ?_)))
  obtain⟨ar,af,o⟩:=bd o
  refine RL.bM 1 j zr zr fx af (uB zr ?_)
  have j:=j.sc Int ak
  refine RL.fJ (f:=(fun _ y=>y)) 2 0 j (jQ 2 j af 0) (aY af).2.1 zr Fs.self cV fun w j=>?_
  refine DP.d2 zt (DP.z (aJ (RC.region (RL.bK 1 v1_0 j fw (mv (vi aa.1) ?_)))))
  obtain⟨al,ag,o⟩:=bd o
  refine RL.bM 2 j zr zr fx ag (RL.dN (f:=(fun x=>x)) 2 j (jQ 2 j ag 0) (aY ag).2.1 Fd.self cV (aN (vi al) (RL.nil (bZ ?_))))
  obtain rfl:=oi o
  exact⟨rfl,j.sp 3 [1,2]⟩
 ·intro r _ _ _ _
  exact r.elim
 rintro aa _ w rfl ⟨O,rfl,j⟩
 rw [Fo.gL] at o
 refine aJ (RC.sr (mv (vi aa.1) (aN (vi aa.1) (RL.nt (RC.ret ?_)))))
 obtain rfl:=oi o
 exact cA ⟨v1_0,zr,j.pk 2 [0,1]⟩
def sP (E:World) (V:List HP) (res: (List (List aA))) (v:Value) (w:World):Prop:=Holds E w ([own 40 v res]++V)
theorem rP {p0: (List aA)} {res: (List (List aA))} (o:Holds E w V) (h0:V[i0]? =some (rd v0 p0)) (hb:jz N p0=some res):
    Calls bG 69 [v0].toArray w (gF (sP E V res)):=by
 unfold jz at hb
 refine enter Tryz.func69 zr zr ?_
 have o:=o.dup (i0+0) h0
 refine RC.sr (aN (.slice none 0 0) (RL.ns (mv v0 ?_)))
 obtain⟨aq,c7,hb⟩:=bd hb
 refine RL.call zt zr DJ [v0] zr (aD (jt N (i0:=0) o zr c7) ?_)
 rintro ah w o
 refine aN ah (RL.ns (mv ah (RL.fU 0 aq o pT ?_)))
 obtain⟨bn,c8,hb⟩:=bd hb
 refine RL.mk (aq.length:Int) zr o zr zr tE FD c8 fun ba w o=>?_
 refine RL.nW o FC fun ag w o=>?_
 refine RL.gj 0 ba o zr zr (dP 1 o) fw fun w o=>?_
 refine RL.nq (RC.sr (RL.bK 0 ba o fw (RL.fU 1 bn o lT (mv (vi 0) (RL.nt ?_)))))
 obtain⟨bk,hN,hb⟩:=bd hb
 refine RC.fold (fun(a8:Nat) (bk: (List Int))=>SH E V [(0,v0),(3,ah),(4,vp ag 0),(32,vi bn.length),(33,vi a8)] [rd v0 p0,own 42 ah aq,bc 70 ag [ba],own 3 ba bk]) (fun(bk: (List Int))=>SH E V [(0,v0),(3,ah),(4,vp ag 0)] [rd v0 p0,own 42 ah aq,bc 70 ag [ba],own 3 ba bk]) hN ?_ ?_ ?_ ?_
 ·exact o.sp 4 [3,2,0,1]
 ·rintro hm bk _ w ⟨O,rfl,o⟩
  refine RC.sr (ic ((bn.length:Int)) ((bn.length:Int)) (RL.nq (RC.dX px (RC.ex ?_))))
  exact⟨rfl,o.sp 4 [0,1,2,3]⟩
 ·rintro hm a8 bk s' _ w hk ⟨O,rfl,o⟩ hb
  refine RC.sr (ic ((a8:Int)) ((bn.length:Int)) (RL.nq (RC.dW (pw hk) (RC.ss (RC.bs (mv (vi a8) (aN (vi a8) (RL.nt ?_))))))))
  refine RC.region (RL.bK 2 ba o fw (mv (vi a8) (mv (vi a8) ?_)))
  obtain⟨du,cb,hb⟩:=bd hb
  refine RL.bM 3 o zr zr fx cb ?_
  have o:=o.sc Int (a8:Int)
  refine RL.fJ (f:=(fun _ y=>y)) 4 0 o (jQ 4 o cb 0) (aY cb).2.1 zr Fs.self cV fun w o=>?_
  refine RL.nil (bZ (aJ (RC.region (RL.inc hk hm (mv (vi ((a8+1:Nat):Int)) (RL.nil ?_))))))
  obtain rfl:=oi hb
  exact⟨rfl,o.sp 5 [1,2,3,4]⟩
 rintro _ w ⟨O,rfl,o⟩
 refine aJ (RC.sr (RL.makeFunc zt zr [(vp ag 0)] zr (aN (.func (.func 102) #[] #[(vp ag 0)]) (RL.ns (aN (vi 0) (aN (vi 0) (RL.nq (RC.sr ?_))))))))
 refine mv v0 (RL.bO 0 p0 o qU (mv (vi 0) (RL.nt ?_)))
 obtain⟨ad,hN,hb⟩:=bd hb
 refine RC.fold (fun(ay:Nat) (ad: (List Int)×Int×Int) U w=>∃ct:Value,SH E V [(0,v0),(3,ah),(4,vp ag 0),(6,(.func (.func 102) #[] #[(vp ag 0)])),(7,vi ad.2.1),(8,vi ad.2.2),(42,v0),(43,vi p0.length),(44,vi ay)] [rd v0 p0,own 42 ah aq,bc 70 ag [ct],own 3 ct ad.1] U w) (fun(ad: (List Int)×Int×Int) U w=>∃br:Value,SH E V [(3,ah),(6,(.func (.func 102) #[] #[(vp ag 0)]))] [rd v0 p0,own 42 ah aq,bc 70 ag [br],own 3 br ad.1] U w) hN ?_ ?_ ?_ ?_
 ·exact⟨ba,o.sp 4 [0,1,2,3]⟩
 ·rintro hm ad _ w ⟨c9,O,rfl,o⟩
  refine RC.sr (ic ((p0.length:Int)) ((p0.length:Int)) (RL.nq (RC.dX px (RC.ex ?_))))
  exact⟨rfl,c9,o.sp 4 [0,1,2,3]⟩
 ·rintro hm ay ad s' _ w hk ⟨bt,O,rfl,o⟩ hb
  refine RC.sr (ic ((ay:Int)) ((p0.length:Int)) (RL.nq (RC.dW (pw hk) (RC.ss (RC.bs (mv (vi ay) ?_))))))
  obtain⟨an,da,hb⟩:=bd hb
  refine RL.cQ 0 o l9 da fun dv o=>(RL.cG 0 an o xd fun dw o=>(RL.alloc o Cm.z fun dx w o=>?_))
  refine aN (vi ay) (RL.aZ 0 o 1 zr xd fun w o=>?_)
  refine RL.ns (RL.bF zr lj (RL.aR 0 o zr cR fw fun dy o=>(RL.bO 0 an.Xs o lT (RL.quo (an.Xs.length:Int) 2 zr zr zr zr (aN (vi (IntKind.wrap .i64 (Int.tdiv (an.Xs.length:Int) 2))) (RL.nq (RC.seq ?_)))))))
  obtain⟨cc,hj,hb⟩:=bd hb
  refine RC.jn (fun(cc:Bool)=>SH E V [(0,v0),(3,ah),(4,vp ag 0),(6,(.func (.func 102) #[] #[(vp ag 0)])),(7,vi ad.2.1),(8,vi ad.2.2),(11,(vi (IntKind.wrap .i64 (Int.tdiv (an.Xs.length:Int) 2)))),(42,v0),(43,vi p0.length),(44,vi ay),(65,vb cc)] [rd v0 p0,own 42 ah aq,bc 70 ag [bt],own 3 bt ad.1]) cc ?_ ?_
  ·refine RC.xR mixed ?_
   have o:=o.drew
   refine RO.go (mv (vi ay) (RO.nx (ic ((ay:Int)) 0 (RO.nx (mv (vb (decide ((ay:Int)>0))) (iz hj (fun aw hj=>?_) fun aw hj=>?_))))))
   rotate_left
   ·refine RO.nx (cD aw (RO.nx (cD aw (RO.nx (cD aw (RO.nx (cD aw (RO.nx ?_))))))))
    refine cD aw (RO.nx (cD aw (RO.nx (cD aw (RO.nx (cD aw (RO.nx (cD aw ?_))))))))
    refine RO.nx (iJ aw (vb false) (RO.last ?_))
    obtain rfl:=oi hj
    exact⟨rfl,o.sp 8 [4,5,6,7]⟩
   refine RO.nx (RL.move v0 (cg aw) (RO.nx (RL.move (vi ay) (cg aw) (RO.nx (RL.jV (hg:=(cg aw)) (ay:Int) 1 (RO.nx ?_))))))
   obtain⟨cd,db,hj⟩:=bd hj
   refine RL.cQ (hg:=(cg aw)) 4 o l9 db fun dz o=>(RO.nx (RL.iT (hg:=(cg aw)) 0 o zr l8 dS fun d0 o=>(RO.nx (RL.bQ (hg:=(cg aw)) cd.Y1 0 o cV (RO.nx (RL.bF (hg:=(cg aw)) zr oT (RO.nx (RL.aS (hg:=(cg aw)) 3 o zr eX cV ?_))))))))
   refine RO.nx (RL.k7 cd.Y1 an.Y0 (cg aw) (RO.nx (iJ aw (vb (cd.Y1==an.Y0)) (RO.last ?_))))
   obtain rfl:=oi hj
   exact⟨rfl,o.sp 10 [6,7,8,9]⟩
  rintro _ w ⟨O,rfl,o⟩
  refine aJ ?_
  obtain⟨cf,hj,hb⟩:=bd hb
  refine RC.jn (fun(cf: (List Int)) U w=>∃bu:Value,SH E V [(0,v0),(3,ah),(4,vp ag 0),(6,(.func (.func 102) #[] #[(vp ag 0)])),(7,vi ad.2.1),(11,(vi (IntKind.wrap .i64 (Int.tdiv (an.Xs.length:Int) 2)))),(42,v0),(43,vi p0.length),(44,vi ay)] [rd v0 p0,own 42 ah aq,bc 70 ag [bu],own 3 bu cf] U w) cf ?_ ?_
  ·refine fZ hj (fun hc hj=>?_) fun hc hj=>?_
   rotate_left
   ·refine RC.skip ?_
    obtain rfl:=oi hj
    exact⟨rfl,bt,o.sp 4 [0,1,2,3]⟩
   refine RC.sr (mv (vi ad.2.2) (mv (vi ad.2.1) (aN (vi ad.2.2) (aN (vi ad.2.1) (RL.nt ?_)))))
   obtain⟨d3,hN,hj⟩:=bd hj
   refine RC.iter (fun(ae: (List Int)×Int×Int) U w=>∃cu:Value,SH E V [(0,v0),(3,ah),(4,vp ag 0),(6,(.func (.func 102) #[] #[(vp ag 0)])),(7,vi ad.2.1),(11,(vi (IntKind.wrap .i64 (Int.tdiv (an.Xs.length:Int) 2)))),(12,vi ae.2.1),(13,vi ae.2.2),(42,v0),(43,vi p0.length),(44,vi ay)] [rd v0 p0,own 42 ah aq,bc 70 ag [cu],own 3 cu ae.1] U w) (fun(ae: (List Int)×Int×Int) U w=>∃bw:Value,SH E V [(0,v0),(3,ah),(4,vp ag 0),(6,(.func (.func 102) #[] #[(vp ag 0)])),(7,vi ad.2.1),(11,(vi (IntKind.wrap .i64 (Int.tdiv (an.Xs.length:Int) 2)))),(42,v0),(43,vi p0.length),(44,vi ay)] [rd v0 p0,own 42 ah aq,bc 70 ag [bw],own 3 bw ae.1] U w) (fun(r:Empty) _ _=>r.elim) hN ?_ ?_ ?_ ?_
   ·exact⟨bt,o.sp 4 [0,1,2,3]⟩
   ·rintro ae fl _ w ⟨bz,O,rfl,o⟩ hb
    refine RC.seq (RC.sr (mv (vi ae.2.1) (mv (vi ad.2.1) (ic ae.2.1 ad.2.1 (mv (vb (decide (ae.2.1<ad.2.1))) (RL.gs true (decide (ae.2.1<ad.2.1)) (vi ae.2.2) zr zr zr dO (RL.gs true (decide (ae.2.1<ad.2.1)) (vi ad.2.1) zr zr zr dO (RL.gs true (decide (ae.2.1<ad.2.1)) (vi (IntKind.wrap .i64 (Int.tdiv (an.Xs.length:Int) 2))) zr zr zr dO ?_))))))))
    refine RL.gs true (decide (ae.2.1<ad.2.1)) (vi (IntKind.wrap .i64 (ad.2.1+ (IntKind.wrap .i64 (Int.tdiv (an.Xs.length:Int) 2))))) rfl rfl rfl (EA (bop:= .add) (K:= .i64) (a:=ad.2.1) (b:=(IntKind.wrap .i64 (Int.tdiv (an.Xs.length:Int) 2))) rfl (fun h=>by exact(dE h:cv (true&&((decide (ae.2.1<ad.2.1))==true)) (vi ad.2.1)= (vi ad.2.1))) (fun h=>by exact(dE h:cv (true&&((decide (ae.2.1<ad.2.1))==true)) (vi (IntKind.wrap .i64 (Int.tdiv (an.Xs.length:Int) 2)))= (vi (IntKind.wrap .i64 (Int.tdiv (an.Xs.length:Int) 2))))) rfl) (RL.gs true (decide (ae.2.1<ad.2.1)) (vb (decide (ae.2.2< (IntKind.wrap .i64 (ad.2.1+ (IntKind.wrap .i64 (Int.tdiv (an.Xs.length:Int) 2))))))) rfl rfl rfl (fE .lss .i64 ae.2.2 (IntKind.wrap .i64 (ad.2.1+ (IntKind.wrap .i64 (Int.tdiv (an.Xs.length:Int) 2)))) rfl (fun h=>by exact(dE h:cv (true&&((decide (ae.2.1<ad.2.1))==true)) (vi ae.2.2)= (vi ae.2.2))) (fun h=>by exact(dE h:cv (true&&((decide (ae.2.1<ad.2.1))==true)) (vi (IntKind.wrap .i64 (ad.2.1+ (IntKind.wrap .i64 (Int.tdiv (an.Xs.length:Int) 2)))))= (vi (IntKind.wrap .i64 (ad.2.1+ (IntKind.wrap .i64 (Int.tdiv (an.Xs.length:Int) 2))))))) rfl) (RL.pick (decide (ae.2.1<ad.2.1)) (vb ((decide (ae.2.1<ad.2.1))&&(decide (ae.2.2< (IntKind.wrap .i64 (ad.2.1+ (IntKind.wrap .i64 (Int.tdiv (an.Xs.length:Int) 2)))))))) (jk true) (RL.nt (fZ hb (fun hc hb=>?_) fun hc hb=>?_))))
    rotate_left
    ·refine RC.ex ?_
     obtain rfl:=oi hb
     exact⟨rfl,bz,o.sp 4 [0,1,2,3]⟩
    refine RC.sn (RC.block (RC.seq (RC.seq ?_)))
    obtain⟨ch,hj,hb⟩:=bd hb
    refine RC.jn (fun(ch:Bool)=>SH E V [(0,v0),(3,ah),(4,vp ag 0),(6,(.func (.func 102) #[] #[(vp ag 0)])),(7,vi ad.2.1),(11,(vi (IntKind.wrap .i64 (Int.tdiv (an.Xs.length:Int) 2)))),(12,vi ae.2.1),(13,vi ae.2.2),(42,v0),(43,vi p0.length),(44,vi ay),(101,vb ch)] [rd v0 p0,own 42 ah aq,bc 70 ag [bz],own 3 bz ae.1]) ch ?_ ?_
    ·refine RC.xR mixed ?_
     have o:=o.drew
     refine RO.go (mv ah (RO.nx (mv (vi ae.2.1) (RO.nx ?_))))
     obtain⟨cw,b0,hj⟩:=bd hj
     refine RL.bM 1 o zr zr lh b0 (RO.nx (RL.l4 (α:=aG) (jQ 1 o b0 0) jr (RO.nx (RL.dN 1 o (jQ 1 o b0 0) (aY b0).2.1 eQ cV (RO.nx (mv ah (RO.nx (mv (vi ae.2.2) ?_))))))))
     refine RO.nx ?_
     obtain⟨cx,b1,hj⟩:=bd hj
     refine RL.bM 1 o zr zr lh b1 (RO.nx (RL.l4 (α:=aG) (jQ 1 o b1 0) j6 (RO.nx (RL.dN 1 o (jQ 1 o b1 2) (aY b1).2.1 fQ cV (RO.nx (ic cw.X0 cx.X1 (RO.nx (mv (vb (decide (cw.X0<cx.X1))) ?_))))))))
     refine iz hj (fun ao hj=>?_) fun ao hj=>?_
     rotate_left
     ·refine RO.nx (cD ao (RO.nx (cD ao (RO.nx (cD ao (RO.nx (cD ao (RO.nx ?_))))))))
      refine cD ao (RO.nx (cD ao (RO.nx (cD ao (RO.nx (cD ao (RO.nx (cD ao ?_))))))))
      refine RO.nx (cD ao (RO.nx (cD ao (RO.nx (iJ ao (vb false) (RO.last ?_))))))
      obtain rfl:=oi hj
      exact⟨rfl,o.sp 4 [0,1,2,3]⟩
     refine RO.nx (RL.move ah (cg ao) (RO.nx (RL.move (vi ae.2.2) (cg ao) (RO.nx ?_))))
     obtain⟨cy,b2,hj⟩:=bd hj
     refine RL.bM (hg:=(cg ao)) 1 o zr zr lh b2 (RO.nx (RL.l4 (hg:=(cg ao)) (α:=aG) (jQ 1 o b2 0) jr (RO.nx (RL.dN (hg:=(cg ao)) 1 o (jQ 1 o b2 0) (aY b2).2.1 eQ cV (RO.nx (RL.move ah (cg ao) (RO.nx (RL.move (vi ae.2.1) (cg ao) ?_))))))))
     refine RO.nx ?_
     obtain⟨cz,b3,hj⟩:=bd hj
     refine RL.bM (hg:=(cg ao)) 1 o zr zr lh b3 (RO.nx (RL.l4 (hg:=(cg ao)) (α:=aG) (jQ 1 o b3 0) j6 (RO.nx (RL.dN (hg:=(cg ao)) 1 o (jQ 1 o b3 2) (aY b3).2.1 fQ cV (RO.nx (RL.k7 cy.X0 cz.X1 (cg ao) (RO.nx (iJ ao (vb (decide (cy.X0<cz.X1))) ?_))))))))
     refine RO.last ?_
     obtain rfl:=oi hj
     exact⟨rfl,o.sp 4 [0,1,2,3]⟩
    rintro _ w ⟨O,rfl,o⟩
    refine aJ ?_
    obtain⟨b4,hj,hb⟩:=bd hb
    refine RC.jn (fun(b4: (List Int)) U w=>∃bl:Value,SH E V [(0,v0),(3,ah),(4,vp ag 0),(6,(.func (.func 102) #[] #[(vp ag 0)])),(7,vi ad.2.1),(11,(vi (IntKind.wrap .i64 (Int.tdiv (an.Xs.length:Int) 2)))),(12,vi ae.2.1),(13,vi ae.2.2),(42,v0),(43,vi p0.length),(44,vi ay)] [rd v0 p0,own 42 ah aq,bc 70 ag [bl],own 3 bl b4] U w) b4 ?_ ?_
    ·refine fZ hj (fun hc hj=>?_) fun hc hj=>?_
     rotate_left
     ·refine RC.skip ?_
      obtain rfl:=oi hj
      exact⟨rfl,bz,o.sp 4 [0,1,2,3]⟩
     refine RC.sr (mv (.func (.func 102) #[] #[(vp ag 0)]) (mv (vi ae.2.1) ?_))
     have o:=(o.pull 3).pull 3
     obtain⟨bf,dc,hj⟩:=bd hj
     refine RL.uJ [(vp ag 0)] zr Cu zr [(vi ae.2.1)] zr (aD (jL N (p0:=ae.2.1) o dc) ?_)
     rintro _ w ⟨d5,rfl,o⟩
     refine mv (.func (.func 102) #[] #[(vp ag 0)]) (mv (vi ae.2.2) ?_)
     have o:=(o.pull 1).pull 1
     obtain⟨bg,dd,hj⟩:=bd hj
     refine RL.uJ [(vp ag 0)] zr Cu zr [(vi ae.2.2)] zr (aD (jL N (p0:=ae.2.2) o dd) ?_)
     rintro _ w ⟨c0,rfl,o⟩
     refine aN (vi bf.1) (aN (vi bg.1) (RL.nt (RC.region (RL.bK 0 c0 o fw (mv (vi bf.1) (mv (vi bg.1) (RL.max bf.1 bg.1 (mv (vi bf.1) ?_))))))))
     refine mv (vi bg.1) (RL.min bf.1 bg.1 ?_)
     obtain⟨d6,cj,hj⟩:=bd hj
     refine RL.bM 1 o zr zr fx cj ?_
     have o:=o.sc Int (if bg.1<bf.1 then bg.1 else bf.1)
     refine RL.fJ (f:=(fun _ y=>y)) 2 0 o (jQ 2 o cj 0) (aY cj).2.1 zr Fs.self cV fun w o=>?_
     refine RL.nil ?_
     obtain rfl:=oi hj
     exact⟨rfl,c0,o.sp 9 [5,6,1,2]⟩
    rintro _ w ⟨bl,O,rfl,o⟩
    refine aJ (RC.seq (RC.xR mixed ?_))
    have o:=o.drew
    refine RO.go (mv ah (RO.nx (mv (vi ae.2.1) (RO.nx ?_))))
    obtain⟨de,b5,hb⟩:=bd hb
    refine RL.bM 1 o zr zr lh b5 (RO.nx (RL.l4 (α:=aG) (jQ 1 o b5 0) j6 (RO.nx (RL.dN 1 o (jQ 1 o b5 2) (aY b5).2.1 fQ cV (RO.nx (mv ah (RO.nx (mv (vi ae.2.2) ?_))))))))
    refine RO.nx ?_
    obtain⟨df,b6,hb⟩:=bd hb
    refine RL.bM 1 o zr zr lh b6 (RO.nx (RL.l4 (α:=aG) (jQ 1 o b6 0) j6 (RO.nx (RL.dN 1 o (jQ 1 o b6 2) (aY b6).2.1 fQ cV (RO.nx (ic de.X1 df.X1 (RO.last (aJ ?_))))))))
    obtain⟨b7,hj,hb⟩:=bd hb
    refine RC.jn (fun(b7:Int×Int)=>SH E V [(0,v0),(3,ah),(4,vp ag 0),(6,(.func (.func 102) #[] #[(vp ag 0)])),(7,vi ad.2.1),(11,(vi (IntKind.wrap .i64 (Int.tdiv (an.Xs.length:Int) 2)))),(12,vi b7.1),(13,vi b7.2),(42,v0),(43,vi p0.length),(44,vi ay)] [rd v0 p0,own 42 ah aq,bc 70 ag [bl],own 3 bl b4]) b7 ?_ ?_
    ·refine fZ hj (fun hc hj=>?_) fun hc hj=>?_
     ·refine RC.region (mv (vi ae.2.1) (RL.jV ae.2.1 1 (aN (vi (IntKind.wrap .i64 (ae.2.1+1))) (RL.nil ?_))))
      obtain rfl:=oi hj
      exact⟨rfl,o.sp 4 [0,1,2,3]⟩
     refine RC.region (mv (vi ae.2.2) (RL.jV ae.2.2 1 (aN (vi (IntKind.wrap .i64 (ae.2.2+1))) (RL.nil ?_))))
     obtain rfl:=oi hj
     exact⟨rfl,o.sp 4 [0,1,2,3]⟩
    rintro _ w ⟨O,rfl,o⟩
    refine bZ ?_
    obtain rfl:=oi hb
    exact⟨rfl,bl,o.sp 4 [0,1,2,3]⟩
   ·intro r _ _ _ _
    exact r.elim
   rintro ae _ w rfl ⟨bw,O,rfl,o⟩
   rw [Fo.gL] at hj
   obtain rfl:=oi hj
   exact⟨rfl,bw,o.sp 4 [0,1,2,3]⟩
  rintro _ w ⟨bu,O,rfl,o⟩
  refine aJ (RC.region (mv (vi ad.2.1) (mv (vi ad.2.1) (mv (vi (IntKind.wrap .i64 (Int.tdiv (an.Xs.length:Int) 2))) (RL.jV ad.2.1 (IntKind.wrap .i64 (Int.tdiv (an.Xs.length:Int) 2)) (aN (vi ad.2.1) (aN (vi (IntKind.wrap .i64 (ad.2.1+ (IntKind.wrap .i64 (Int.tdiv (an.Xs.length:Int) 2))))) (RL.nil ?_))))))))
  refine bZ (aJ (RC.region (RL.inc hk hm (mv (vi ((ay+1:Nat):Int)) (RL.nil ?_)))))
  obtain rfl:=oi hb
  exact⟨rfl,bu,o.sp 4 [0,1,2,3]⟩
 rintro _ w ⟨br,O,rfl,o⟩
 refine aJ (RC.sr (RL.makeMap (κ:=Int) (ν:=Int) zt zr o fun a6 w o=>(aN a6 (RL.ns (aN (.slice none 0 0) (RL.nq (RC.sr (mv ah ?_))))))))
 refine RL.fU 2 aq o pT (mv (vi 0) (RL.nt ?_))
 obtain⟨ak,hN,hb⟩:=bd hb
 refine RC.fold (fun(a5:Nat) (ak: (List Int)×(List (Int×Int))×(List (List aG))) U w=>∃(c1 c2:Value) (us939:List RV),SH E V [(6,(.func (.func 102) #[] #[(vp ag 0)])),(16,a6),(17,c2),(137,ah),(138,vi aq.length),(139,vi a5)] [bc 70 ag [c1],own 3 c1 ak.1,mp a6 ak.2.1,own 42 ah aq,own 23 c2 us939,hL (XS 42 aG) us939 ak.2.2 none] U w) (fun(ak: (List Int)×(List (Int×Int))×(List (List aG))) U w=>∃(ck bh:Value) (us942:List RV),SH E V [(17,bh)] [bc 70 ag [ck],own 3 ck ak.1,mp a6 ak.2.1,own 42 ah aq,own 23 bh us942,hL (XS 42 aG) us942 ak.2.2 none] U w) hN ?_ ?_ ?_ ?_
 ·have o:=(o.wV (XS 42 aG)).dD RV 23
  exact⟨br,(.slice none 0 0),([]:List RV),o.sp 7 [5,6,2,4,0,1]⟩
 ·rintro hm ak _ w ⟨dg,dh,us987,O,rfl,o⟩
  refine RC.sr (ic ((aq.length:Int)) ((aq.length:Int)) (RL.nq (RC.dX px (RC.ex ?_))))
  exact⟨rfl,dg,dh,us987,o.sp 6 [0,1,2,3,4,5]⟩
 ·rintro hm a5 ak s' _ w hk ⟨d7,cl,us945,O,rfl,o⟩ hb
  refine RC.sr (ic ((a5:Int)) ((aq.length:Int)) (RL.nq (RC.dW (pw hk) (RC.ss (RC.bs (mv (vi a5) ?_))))))
  obtain⟨bb,cm,hb⟩:=bd hb
  refine RL.bM 3 o zr zr lh cm (RL.kj (f:=(fun x=>x)) 3 o (jQ 3 o cm 0) (aY cm).2.1 Fd.self gU fun d8 o=>?_)
  refine RL.alloc o nL.z fun b8 w o=>?_
  refine aN (vi a5) (RL.aZ 0 o 1 zr gU fun w o=>?_)
  refine RL.ns (mv (.func (.func 102) #[] #[(vp ag 0)]) (mv (vi a5) ?_))
  have o:=(o.pull 3).pull 3
  obtain⟨a2,di,hb⟩:=bd hb
  refine RL.uJ [(vp ag 0)] zr Cu zr [(vi a5)] zr (aD (jL N (p0:=(a5:Int)) o di) ?_)
  rintro _ w ⟨bo,rfl,o⟩
  refine aN (vi a2.1) (RL.ns (mv a6 (mv (vi a2.1) (RL.B8 (i:=6) (k:=a2.1) zt zr o zr zr zr yx (mv (.tuple #[(vi (fT ak.2.1 a2.1 (0:Int))),(vb (mY ak.2.1 a2.1))]) (RL.extract (vi (fT ak.2.1 a2.1 (0:Int))) (RL.extract (vb (mY ak.2.1 a2.1)) (aN (vi (fT ak.2.1 a2.1 (0:Int))) ?_))))))))
  refine aN (vb (mY ak.2.1 a2.1)) (RL.nq (RC.sr (mv (vb (mY ak.2.1 a2.1)) (RL.not (mY ak.2.1 a2.1) (RL.nt ?_)))))
  obtain⟨af,hj,hb⟩:=bd hb
  refine RC.jn (fun(af: (List (Int×Int))×(List (List aG))×Int) U w=>∃(a1:Value) (us956:List RV),SH E V [(6,(.func (.func 102) #[] #[(vp ag 0)])),(16,a6),(17,a1),(19,vp b8 0),(21,vi af.2.2),(137,ah),(138,vi aq.length),(139,vi a5)] [bc 70 ag [bo],own 3 bo a2.2,mp a6 af.1,bx 42 b8 bb,own 42 ah aq,own 23 a1 us956,hL (XS 42 aG) us956 af.2.1 none] U w) af ?_ ?_
  ·refine fZ hj (fun hc hj=>?_) fun hc hj=>?_
   rotate_left
   ·refine RC.skip ?_
    obtain rfl:=oi hj
    exact⟨rfl,cl,us945,o.sp 10 [0,1,6,2,7,8,9]⟩
   refine RC.sr (mv cl (RL.pL 8 9 ak.2.2 zr o zr zr zr tC (aN (vi ak.2.2.length) (RL.ns (mv a6 (mv (vi a2.1) (mv (vi ak.2.2.length) ?_)))))))
   have o:=o.sc Int (ak.2.2.length:Int)
   refine RL.mapUpdate 7 0 a2.1 zt o zr zr zr zr zr yx fun w o=>(RL.nt (RC.region (mv cl ?_)))
   have o:=(o.dD aG 42).Aa (i:=0) rfl
   refine RL.fI ([rv (.slice none 0 0)]:List RV) o [(.slice none 0 0)] tD F6 (fun M hs g=>⟨(g.sat 0 _ zr).1,zt⟩) fun d9 w o=>?_
   obtain⟨ea,dj,hj⟩:=bd hj
   have o:=o.freeze 0
   refine RL.ye 12 0 13 2 zt zr o zr zr zr zr zr zr F7 dj fun c3 w o=>?_
   refine aN c3 (RL.nil ?_)
   obtain rfl:=oi hj
   exact⟨rfl,c3,(us945++[rv (.slice none 0 0)]),o.sp 14 [4,5,10,6,11,12,13]⟩
  rintro _ w ⟨a1,us956,O,rfl,o⟩
  refine aJ ?_
  obtain⟨eb,b9,hb⟩:=bd hb
  obtain⟨bj,dk,hb⟩:=bd hb
  obtain⟨ec,cn,hb⟩:=bd hb
  refine RC.Dq E V mixed [1,1,1,1,0,0,0,0,0,0,0] [6,7,8,10] (fun(x:Value×Value×Value)=>(fun a0 ax al=>[(0,163,a1),(1,164,(vi af.2.2)),(2,165,a1),(3,166,(vi af.2.2)),(4,167,(xO a1 (Int.toNat af.2.2) 1 0)),(5,168,(us956.getD (Int.toNat af.2.2) xP).v),(6,169,a0),(7,170,ax),(8,171,al),(9,172,(xO a1 (Int.toNat af.2.2) 1 0))]) x.1 x.2.1 x.2.2) [(6,(.func (.func 102) #[] #[(vp ag 0)])),(16,a6),(17,a1),(19,vp b8 0),(21,vi af.2.2),(137,ah),(138,vi aq.length),(139,vi a5)] [] (fun(D:Nat->Bool) (x:Value×Value×Value)=>(fun a0 ax al=>[bif D 0 then (rd a0 bb) else aX,bif D 2 then (rd ax ([bb]: (List aG))) else (bif D 1 then (own 42 ax ([bb]: (List aG))) else aX),bif D 3 then aX else (bif D 2 then (own 42 al bj) else aX),bc 70 ag [bo],own 3 bo a2.2,mp a6 af.1,bx 42 b8 bb,own 42 ah aq,bif D 3 then (own 23 a1 (us956.set (Int.toNat af.2.2) (rv al))) else (own 23 a1 us956),bif D 3 then (hL (XS 42 aG) (us956.set (Int.toNat af.2.2) (rv al)) (af.2.1.set (Int.toNat af.2.2) bj) none) else (bif D 2 then (hL (XS 42 aG) us956 af.2.1 (some (Int.toNat af.2.2))) else (hL (XS 42 aG) us956 af.2.1 none))]) x.1 x.2.1 x.2.2) (fun x=>by kernel_rfl) ?_ ⟨fun _=>jJ gn,fun _=>jJ gn,fun _=>jJ gn,fun _=>jJ gn,?_,?_,?_,?_,?_,?_,?_,trivial⟩ ?_
  ·have o:=(((o.drew).aX).aX).aX
   exact⟨(undef,undef,undef),eC.none,(B1 zr),zt,o⟩
  ·rintro D U w hD au aj ⟨⟨a0,ax,al⟩,hv,ha,_,o⟩
   obtain⟨O,rfl⟩:=(ac (hv.at 2 rfl (au.1 rfl)) (ac (hv.at 3 rfl (au.2.1 rfl)) az)).fG
   have o:=((o.bP 8 (nh aj hD 10)).bP 9 (nh aj hD 10)).bP 9 (nf (fun h=>ft hD ((aj 5 _ rfl ((aj 8 _ rfl h).1 rfl)).1 rfl)))
   have hl974:=o.ga 9 rfl
   have hr975:=jl xP hl974 b9
   refine RL.bM 8 o zr zr tD hr975 ?_
   have o:=(o.eP 8 (D 10) (nh aj hD 10) (own 23 a1 (us956.set (Int.toNat af.2.2) (rv al)))).eP 9 (D 8) (nf (fun h=>ft hD ((aj 5 _ rfl ((aj 8 _ rfl h).1 rfl)).1 rfl))) (hL (XS 42 aG) us956 af.2.1 (some (Int.toNat af.2.2)))
   have o:=o.eP 9 (D 10) (nh aj hD 10) (hL (XS 42 aG) (us956.set (Int.toNat af.2.2) (rv al)) (af.2.1.set (Int.toNat af.2.2) bj) none)
   exact RL.nil ⟨rfl,(a0,ax,al),hv.pu 4,ha.u,zt,o⟩
  ·rintro D U w hD au aj ⟨⟨a0,ax,al⟩,hv,ha,_,o⟩
   obtain⟨O,rfl⟩:=(ac (hv.at 4 rfl (au.1 rfl)) az).fG
   have o:=((o.bP 8 (nh aj hD 10)).bP 9 (nh aj hD 10)).bP 9 (nh aj hD 8)
   have hl976:=o.ga 9 rfl
   have hr977:=jl xP hl976 b9
   refine RL.tt 8 9 af.2.2 (wk 42 aG) xP zr o zr (jQ 8 o hr977 0) zr zr b9 pS ?_
   have o:=(o.eP 8 (D 10) (nh aj hD 10) (own 23 a1 (us956.set (Int.toNat af.2.2) (rv al)))).eP 9 (D 8) (nh aj hD 8) (hL (XS 42 aG) us956 af.2.1 (some (Int.toNat af.2.2)))
   have o:=o.eP 9 (D 10) (nh aj hD 10) (hL (XS 42 aG) (us956.set (Int.toNat af.2.2) (rv al)) (af.2.1.set (Int.toNat af.2.2) bj) none)
   exact RL.nil ⟨rfl,(a0,ax,al),hv.pu 5,ha.u,zt,o⟩
  ·rintro D U w hD au aj ⟨⟨a0,ax,al⟩,hv,ha,_,o⟩
   obtain⟨O,rfl⟩:=(ac (ha.at 3 rfl) az).fG
   have o:=o.bP 0 hD
   refine RL.aR (f:=(fun x=>x)) 6 o zr Fd.self gU fun dm o=>?_
   have o:=(o.pl 11 [0,2,3,4,5,6,7,8,9,10]).cC 0 true rfl aX
   exact RL.nil ⟨rfl,(dm,ax,al),hv.pu 6,ha.u,zt,o⟩
  ·rintro D U w hD au aj ⟨⟨a0,ax,al⟩,hv,ha,_,o⟩
   obtain⟨O,rfl⟩:=(ac (hv.at 6 rfl (au.1 rfl)) az).fG
   have o:=((o.cB 0 (au.1 rfl)).bP 1 (nh aj hD 8)).bP 1 hD
   refine RL.fI ([bb]: (List aG)) o [a0] lh nL (fun M hs g=>⟨(g.sat 0 _ zr).1,zt⟩) fun c4 w o=>?_
   have o:=(((o.pl 11 [1,0,3,4,5,6,7,8,9,10]).cC 0 (D 6) (au.1 rfl) aX).cC 1 true rfl aX).eP 1 (D 8) (nh aj hD 8) (rd c4 ([bb]: (List aG)))
   exact RL.nil ⟨rfl,(a0,c4,al),hv.pu 7,ha.u,zt,o⟩
  ·rintro D U w hD au aj ⟨⟨a0,ax,al⟩,hv,ha,_,o⟩
   obtain⟨O,rfl⟩:=(ac (hv.at 5 rfl (au.1 rfl)) (ac (hv.at 7 rfl (au.2.1 rfl)) az)).fG
   have o:=(((((((o.bP 1 hD).cB 1 (au.2.1 rfl)).bP 2 (nh aj hD 10)).bP 2 hD).bP 8 (nh aj hD 10)).bP 9 (nh aj hD 10)).bP 9 hD).wW (j:=9) (jj:=af.2.2) (wk 42 aG) xP rfl b9
   have o:=o.freeze 2
   refine RL.app 0 2 o Bb dk fun cp w o=>?_
   have o:=((((o.pl 11 [1,2,0,4,5,6,7,8,9,10]).cC 1 true rfl (bif D 7 then (own 42 ax ([bb]: (List aG))) else aX)).cC 2 true rfl aX).eP 2 (D 10) (nh aj hD 10) aX).eP 8 (D 10) (nh aj hD 10) (own 23 a1 (us956.set (Int.toNat af.2.2) (rv cp)))
   have o:=(o.cC 9 true rfl (hL (XS 42 aG) us956 af.2.1 none)).eP 9 (D 10) (nh aj hD 10) (hL (XS 42 aG) (us956.set (Int.toNat af.2.2) (rv cp)) (af.2.1.set (Int.toNat af.2.2) bj) none)
   exact RL.nil ⟨rfl,(a0,ax,cp),hv.pu 8,ha.u,zt,o⟩
  ·rintro D U w hD au aj ⟨⟨a0,ax,al⟩,hv,ha,_,o⟩
   obtain⟨O,rfl⟩:=(ac (hv.at 0 rfl (au.1 rfl)) (ac (hv.at 1 rfl (au.2.1 rfl)) az)).fG
   have o:=((o.bP 8 (nh aj hD 10)).bP 9 (nh aj hD 10)).cB 9 (au.2.2.2.2.2.2.2.2.2.2.1 rfl)
   have hl981:=o.ga 9 rfl
   have hr982:=jl xP hl981 cn
   refine RL.bM 8 o zr zr tD hr982 ?_
   have o:=((o.eP 8 (D 10) (nh aj hD 10) (own 23 a1 (us956.set (Int.toNat af.2.2) (rv al)))).cC 9 (D 8) (au.2.2.2.2.2.2.2.2.2.2.1 rfl) (hL (XS 42 aG) us956 af.2.1 none)).eP 9 (D 10) (nh aj hD 10) (hL (XS 42 aG) (us956.set (Int.toNat af.2.2) (rv al)) (af.2.1.set (Int.toNat af.2.2) bj) none)
   exact RL.nil ⟨rfl,(a0,ax,al),hv.pu 9,ha.u,zt,o⟩
  ·rintro D U w hD au aj ⟨⟨a0,ax,al⟩,hv,ha,_,o⟩
   obtain⟨O,rfl⟩:=(ac (hv.at 8 rfl (au.2.1 rfl)) (ac (hv.at 9 rfl (au.1 rfl)) az)).fG
   have o:=((((o.bP 2 hD).cB 2 (au.2.1 rfl)).bP 8 hD).bP 9 hD).cB 9 (au.2.1 rfl)
   have hl983:=o.ga 9 rfl
   have hr984:=jl xP hl983 cn
   refine RL.rE 8 9 2 af.2.2 (wk 42 aG) xP o zr zr (jQ 8 o hr984 0) zr zr zr cn pS fun w o=>?_
   have o:=((o.cC 2 true rfl (bif D 8 then (own 42 al bj) else aX)).cC 8 true rfl (own 23 a1 us956)).cC 9 true rfl (bif D 8 then (hL (XS 42 aG) us956 af.2.1 (some (Int.toNat af.2.2))) else (hL (XS 42 aG) us956 af.2.1 none))
   exact RL.nil ⟨rfl,(a0,ax,al),hv.n1,ha,zt,o⟩
  rintro D U w bp ⟨⟨a0,ax,al⟩,hv,ha,_,o⟩
  have o:=((((o.cB 0 (kS bp 6)).cB 1 (kS bp 8)).cB 2 (kS bp 10)).cB 8 (kS bp 10)).cB 9 (kS bp 10)
  obtain⟨O,rfl⟩:=(ac (ha.at 0 rfl) (ac (ha.at 1 rfl) (ac (ha.at 2 rfl) (ac (ha.at 3 rfl) (ac (ha.at 4 rfl) (ac (ha.at 5 rfl) (ac (ha.at 6 rfl) (ac (ha.at 7 rfl) az)))))))).fG
  refine bZ (aJ (RC.region (RL.inc hk hm (mv (vi ((a5+1:Nat):Int)) (RL.nil ?_)))))
  obtain rfl:=oi hb
  exact⟨rfl,bo,a1,(us956.set (Int.toNat af.2.2) (rv al)),o.sp 10 [3,4,5,7,8,9]⟩
 rintro _ w ⟨ck,bh,us942,O,rfl,o⟩
 refine aJ (RC.sr (aN (.slice none 0 0) (RL.nq (RC.sr (mv bh (RL.pL 4 5 ak.2.2 zr o zr zr zr tC (mv (vi 0) (RL.nt ?_))))))))
 have o:=o.wX (X:=(XS 42 aG)) (b:=5) (j:=4) rfl (fun M h u x cs=>(Ec 42) M h u x cs) rfl rfl (by decide)
 obtain⟨bm,hN,hb⟩:=bd hb
 refine RC.fold (fun(ca:Nat) (bm: (List (List aA))) U w=>∃c5:Value,SH E V [(23,c5),(174,bh),(175,vi ak.2.2.length),(176,vi ca)] [own 23 bh ak.2.2,own 40 c5 bm] U w) (fun(bm: (List (List aA))) U w=>∃bq:Value,SH E V [(23,bq)] [own 23 bh ak.2.2,own 40 bq bm] U w) hN ?_ ?_ ?_ ?_
 ·have o:=o.dD (List aA) 40
  exact⟨(.slice none 0 0),o.sp 7 [5,0]⟩
 ·rintro hm bm _ w ⟨dn,O,rfl,o⟩
  refine RC.sr (ic ((ak.2.2.length:Int)) ((ak.2.2.length:Int)) (RL.nq (RC.dX px (RC.ex ?_))))
  exact⟨rfl,dn,o.sp 2 [0,1]⟩
 ·rintro hm ca bm s' _ w hk ⟨dp,O,rfl,o⟩ hb
  refine RC.sr (ic ((ca:Int)) ((ak.2.2.length:Int)) (RL.nq (RC.dW (pw hk) (RC.ss (RC.bs ?_)))))
  obtain⟨ed,cq,hb⟩:=bd hb
  refine RL.bM 0 o zr zr tD cq (RL.kj (f:=(fun x=>x)) 0 o (jQ 0 o cq 0) (aY cq).2.1 Fd.self pS fun cr o=>?_)
  refine aN cr (RL.nt (RC.region (mv dp (mv cr ?_))))
  obtain⟨dq,dr,hb⟩:=bd hb
  refine RL.call zt zr xe [cr] zr (aD (fO N (i0:=0) o zr dr) ?_)
  rintro ds w o
  have o:=o.freeze 0
  refine RL.fI ([dq]: (List (List aA))) o [ds] Cs EX (fun M hs g=>⟨(g.sat 0 _ zr).1,zt⟩) fun ee w o=>?_
  have o:=o.freeze 0
  obtain⟨ef,dt,hb⟩:=bd hb
  refine RL.app 4 0 o F5 dt fun c6 w o=>?_
  refine aN c6 (RL.nil (bZ (aJ (RC.region (RL.inc hk hm (mv (vi ((ca+1:Nat):Int)) (RL.nil ?_)))))))
  obtain rfl:=oi hb
  exact⟨rfl,c6,o.sp 5 [3,4]⟩
 rintro _ w ⟨bq,O,rfl,o⟩
 refine aJ (RC.sr (mv bq (aN bq (RL.nt (RC.ret ?_)))))
 obtain rfl:=oi hb
 exact cA (o.pk 2 [1])
def qc (E:World) (V:List HP) (b0:Nat) (v0_0 v0_1:Value) (v0_2 v0_3:Value) (v0_6 v0_7:Value) (v0_8 v0_9:Value) (v0_10 v0_11:Value) (res:Bool×(List (List aA))×(List aI)) (v:Value) (w:World):Prop:=∃u0_4 u0_5:Value,v= (vb res.1)/\Holds E w ([bc 73 b0 [v0_0,v0_1,v0_2,v0_3,u0_4,u0_5,v0_6,v0_7,v0_8,v0_9,v0_10,v0_11],own 40 u0_4 res.2.1,own 114 u0_5 res.2.2]++V)
theorem pD {p0_0: (List (List aG))} {p0_2: (List bH)} {p0_4: (List (List aA))} {p0_5: (List aI)} {res:Bool×(List (List aA))×(List aI)} (j:Holds E w (bc 73 b0 [v0_0,v0_1,v0_2,v0_3,v0_4,v0_5,v0_6,v0_7,v0_8,v0_9,v0_10,v0_11]::rd v0_0 p0_0::rd v0_2 p0_2::own 40 v0_4 p0_4::own 114 v0_5 p0_5::V)) (o:gN N p0_0 p0_2 p0_4 p0_5=some res):
    Calls bG 51 [(vp b0 0)].toArray w (gF (qc E V b0 v0_0 v0_1 v0_2 v0_3 v0_6 v0_7 v0_8 v0_9 v0_10 v0_11 res)):=by
 unfold gN at o
 refine enter Tryz.func51 zr zr (RC.sr (aN (vb false) (RL.ns (aN (vb true) (RL.nq (RC.sr (mv (vp b0 0) (RL.nilCheck zr ?_))))))))
 refine RL.bF zr pU (RL.bF zr jK (RL.bK 0 v0_0 j pz (RL.bO 1 p0_0 j tC (mv (vi 0) (RL.nt ?_)))))
 obtain⟨aa,hN,o⟩:=bd o
 refine RC.fold (fun(ab:Nat) (aa: (List (List aA))×(List aI)×Bool) U w=>∃bf bg:Value,SH E V [(0,vp b0 0),(3,vb aa.2.2),(16,v0_0),(17,vi p0_0.length),(18,vi ab)] [bc 73 b0 [v0_0,v0_1,v0_2,v0_3,bf,bg,v0_6,v0_7,v0_8,v0_9,v0_10,v0_11],own 40 bf aa.1,own 114 bg aa.2.1,rd v0_0 p0_0,rd v0_2 p0_2] U w) (fun(aa: (List (List aA))×(List aI)×Bool) U w=>∃au al:Value,SH E V [(0,vp b0 0),(3,vb aa.2.2)] [bc 73 b0 [v0_0,v0_1,v0_2,v0_3,au,al,v0_6,v0_7,v0_8,v0_9,v0_10,v0_11],own 40 au aa.1,own 114 al aa.2.1,rd v0_0 p0_0,rd v0_2 p0_2] U w) hN ?_ ?_ ?_ ?_
 ·exact⟨v0_4,v0_5,j.sp 5 [0,3,4,1,2]⟩
 ·rintro hm aa _ w ⟨bq,br,O,rfl,j⟩
  refine RC.sr (ic ((p0_0.length:Int)) ((p0_0.length:Int)) (RL.nq (RC.dX px (RC.ex ?_))))
  exact⟨rfl,bq,br,j.sp 5 [0,1,2,3,4]⟩
 ·rintro hm ab aa s' _ w hk ⟨af,ag,O,rfl,j⟩ o
  refine RC.sr (ic ((ab:Int)) ((p0_0.length:Int)) (RL.nq (RC.dW (pw hk) (RC.ss (RC.bs (mv (vi ab) ?_))))))
  obtain⟨a2,bt,o⟩:=bd o
  refine RL.cQ 3 j tD bt fun cp j=>(RL.cG 0 a2 j pS fun ah j=>(aN (vi ab) (aN ah (RL.ns (aN (.slice none 0 0) (RL.nq (RC.sr (mv (vp b0 0) ?_))))))))
  refine RL.nilCheck zr (RL.bF zr pU (RL.bF zr ma (RL.bK 2 v0_2 j uq (RL.bO 6 p0_2 j vX (mv (vi 0) (RL.nt ?_))))))
  obtain⟨av,hN,o⟩:=bd o
  refine RC.fold (fun(az:Nat) (av: (List aG)) U w=>∃bh:Value,SH E V [(0,vp b0 0),(3,vb aa.2.2),(4,vi ab),(5,ah),(6,bh),(16,v0_0),(17,vi p0_0.length),(18,vi ab),(27,v0_2),(28,vi p0_2.length),(29,vi az)] [bc 73 b0 [v0_0,v0_1,v0_2,v0_3,af,ag,v0_6,v0_7,v0_8,v0_9,v0_10,v0_11],rd v0_0 p0_0,rd v0_2 p0_2,own 40 af aa.1,own 114 ag aa.2.1,rd ah a2,own 42 bh av] U w) (fun(av: (List aG)) U w=>∃a0:Value,SH E V [(0,vp b0 0),(3,vb aa.2.2),(4,vi ab),(5,ah),(6,a0),(16,v0_0),(17,vi p0_0.length),(18,vi ab)] [bc 73 b0 [v0_0,v0_1,v0_2,v0_3,af,ag,v0_6,v0_7,v0_8,v0_9,v0_10,v0_11],rd v0_0 p0_0,rd v0_2 p0_2,own 40 af aa.1,own 114 ag aa.2.1,rd ah a2,own 42 a0 av] U w) hN ?_ ?_ ?_ ?_
  ·have j:=j.dD aG 42
   exact⟨(.slice none 0 0),j.sp 8 [3,6,7,4,5,1,0]⟩
  ·rintro hm av _ w ⟨bu,O,rfl,j⟩
   refine RC.sr (ic ((p0_2.length:Int)) ((p0_2.length:Int)) (RL.nq (RC.dX px (RC.ex ?_))))
   exact⟨rfl,bu,j.sp 7 [0,1,2,3,4,5,6]⟩
  ·rintro hm az av s' _ w hk ⟨bj,O,rfl,j⟩ o
   refine RC.sr (ic ((az:Int)) ((p0_2.length:Int)) (RL.nq (RC.dW (pw hk) (RC.ss (RC.bs ?_)))))
   obtain⟨bw,bx,o⟩:=bd o
   refine RL.cQ 2 j xf bx fun cq j=>(RL.cG 0 bw j mZ fun cr j=>(RL.alloc j zk.z fun ct w j=>?_))
   refine RL.aZ 0 j 1 zr mZ fun w j=>?_
   refine RL.ns (RL.aR (f:=(fun x=>x)) 0 j zr Fd.self mZ fun bz j=>(mv (vi ab) ?_))
   obtain⟨cu,b1,o⟩:=bd o
   refine RL.call zt zr EW [bz,(vi ab)] zr (aD (ln N (p1:=(ab:Int)) (i0:=0) j zr b1) ?_)
   rintro _ w ⟨rfl,j⟩
   refine RL.nt ?_
   obtain⟨a6,hj,o⟩:=bd o
   refine RC.jn (fun(a6: (List aG)) U w=>∃a3:Value,SH E V [(0,vp b0 0),(3,vb aa.2.2),(4,vi ab),(5,ah),(6,a3),(16,v0_0),(17,vi p0_0.length),(18,vi ab),(27,v0_2),(28,vi p0_2.length),(29,vi az)] [bc 73 b0 [v0_0,v0_1,v0_2,v0_3,af,ag,v0_6,v0_7,v0_8,v0_9,v0_10,v0_11],rd v0_0 p0_0,rd v0_2 p0_2,own 40 af aa.1,own 114 ag aa.2.1,rd ah a2,own 42 a3 a6] U w) a6 ?_ ?_
   ·refine fZ hj (fun hc hj=>?_) fun hc hj=>?_
    rotate_left
    ·refine RC.skip ?_
     obtain rfl:=oi hj
     exact⟨rfl,bj,j.sp 11 [4,5,6,7,8,9,10]⟩
    refine RC.region (mv bj (RL.aR (f:=(fun x=>x)) 1 j zr Fd.self mZ fun b3 j=>?_))
    obtain⟨b4,b5,hj⟩:=bd hj
    refine RL.call zt zr Bf [b3] zr (aD (fY N (i0:=0) j zr b5) ?_)
    rintro b6 w j
    refine RL.fI ([b4]: (List aG)) j [b6] lh nL (fun M hs g=>⟨(g.sat 0 _ zr).1,zt⟩) fun cv w j=>?_
    have j:=j.freeze 0
    obtain⟨cw,b7,hj⟩:=bd hj
    refine RL.app 13 0 j Bb b7 fun bk w j=>?_
    refine aN bk (RL.nil ?_)
    obtain rfl:=oi hj
    exact⟨rfl,bk,j.sp 14 [7,8,9,10,11,12,13]⟩
   rintro _ w ⟨a3,O,rfl,j⟩
   refine bZ (aJ (RC.region (RL.inc hk hm (mv (vi ((az+1:Nat):Int)) (RL.nil ?_)))))
   obtain rfl:=oi o
   exact⟨rfl,a3,j.sp 7 [0,1,2,3,4,5,6]⟩
  rintro _ w ⟨a0,O,rfl,j⟩
  refine aJ (RC.sr (mv ah ?_))
  obtain⟨cx,b8,o⟩:=bd o
  refine RL.call zt zr xe [ah] zr (aD (fO N (i0:=5) j zr b8) ?_)
  rintro b9 w j
  refine mv a0 ?_
  have j:=j.freeze 7
  obtain⟨cy,ca,o⟩:=bd o
  refine RL.call zt zr xe [a0] zr (aD (fO N (i0:=7) j zr ca) ?_)
  rintro cb w j
  have j:=(j.freeze 1).freeze 0
  obtain⟨cz,cc,o⟩:=bd o
  refine RL.call zt zr F2 [b9,cb] zr (aD (ny N (i0:=1) (i1:=0) j zr zr cc) ?_)
  rintro a1 w j
  refine aN a1 (RL.nq ?_)
  obtain⟨an,hj,o⟩:=bd o
  refine RC.jn (fun(an:Bool×(List aA)) U w=>∃ao:Value,SH E V [(0,vp b0 0),(3,vb an.1),(4,vi ab),(9,ao),(16,v0_0),(17,vi p0_0.length),(18,vi ab)] [bc 73 b0 [v0_0,v0_1,v0_2,v0_3,af,ag,v0_6,v0_7,v0_8,v0_9,v0_10,v0_11],rd v0_0 p0_0,rd v0_2 p0_2,own 40 af aa.1,own 114 ag aa.2.1,rd ao an.2] U w) an ?_ ?_
  ·refine RC.region (mv (vb aa.2.2) (mv (vb aa.2.2) (iz hj (fun ai hj=>?_) fun ai hj=>?_)))
   rotate_left
   ·refine cD ai (cD ai (cD ai (iJ ai (vb false) (aN (vb false) (RL.nil ?_)))))
    obtain rfl:=oi hj
    have j:=j.freeze 0
    exact⟨rfl,a1,j.sp 10 [3,4,5,6,7,0]⟩
   refine RL.move a1 (cg ai) ?_
   have j:=j.freeze 0
   obtain⟨a7,cd,hj⟩:=bd hj
   refine RL.call (cg ai) zr F3 [a1] zr (aD (nz N (i0:=0) j zr cd) ?_)
   rintro _ w ⟨rfl,j⟩
   refine RL.k7 a7 2000 (cg ai) (iJ ai (vb (decide (a7<=2000))) (aN (vb (decide (a7<=2000))) (RL.nil ?_)))
   obtain rfl:=oi hj
   exact⟨rfl,a1,j.sp 10 [3,4,5,6,7,0]⟩
  rintro _ w ⟨ao,O,rfl,j⟩
  refine aJ (RC.sr (mv (vp b0 0) (mv (vp b0 0) (RL.nilCheck zr (RL.bF zr Ct (RL.bK 0 af j F4 (mv ao (RL.fI ([an.2]: (List (List aA))) j [ao] Cs EX (fun M hs g=>⟨(g.sat 5 _ zr).1,zt⟩) fun c0 w j=>?_))))))))
  have j:=j.freeze 0
  obtain⟨bl,cf,o⟩:=bd o
  refine RL.app 4 0 j F5 cf fun aq w j=>?_
  refine RL.nilCheck zr (RL.bF zr Ct (RL.gj 1 aq j zr zr (dP 4 j) F4 fun w j=>?_))
  refine RL.ns (mv ao ?_)
  obtain⟨ar,ch,o⟩:=bd o
  refine RL.call zt zr Hy [ao] zr (aD (rP N (i0:=6) j zr ch) ?_)
  rintro a8 w j
  refine RL.fU 0 ar j FY (mv (vi 0) (RL.nt ?_))
  obtain⟨aw,hN,o⟩:=bd o
  refine RC.fold (fun(a4:Nat) (aw: (List aI)) U w=>∃bm:Value,SH E V [(0,vp b0 0),(3,vb an.1),(4,vi ab),(16,v0_0),(17,vi p0_0.length),(18,vi ab),(64,a8),(65,vi ar.length),(66,vi a4)] [bc 73 b0 [v0_0,v0_1,v0_2,v0_3,aq,bm,v0_6,v0_7,v0_8,v0_9,v0_10,v0_11],own 114 bm aw,rd v0_0 p0_0,rd v0_2 p0_2,own 40 aq bl,own 40 a8 ar] U w) (fun(aw: (List aI)) U w=>∃a5:Value,SH E V [(0,vp b0 0),(3,vb an.1),(16,v0_0),(17,vi p0_0.length),(18,vi ab)] [bc 73 b0 [v0_0,v0_1,v0_2,v0_3,aq,a5,v0_6,v0_7,v0_8,v0_9,v0_10,v0_11],own 114 a5 aw,rd v0_0 p0_0,rd v0_2 p0_2,own 40 aq bl,own 40 a8 ar] U w) hN ?_ ?_ ?_ ?_
  ·exact⟨ag,j.sp 8 [2,6,3,4,5,0]⟩
  ·rintro hm aw _ w ⟨cj,O,rfl,j⟩
   refine RC.sr (ic ((ar.length:Int)) ((ar.length:Int)) (RL.nq (RC.dX px (RC.ex ?_))))
   exact⟨rfl,cj,j.sp 6 [0,1,2,3,4,5]⟩
  ·rintro hm a4 aw s' _ w hk ⟨a9,O,rfl,j⟩ o
   refine RC.sr (ic ((a4:Int)) ((ar.length:Int)) (RL.nq (RC.dW (pw hk) (RC.ss (RC.bs ?_)))))
   obtain⟨bn,ba,o⟩:=bd o
   refine RL.bM 5 j zr zr Cs ba (RL.kj (f:=(fun x=>x)) 5 j (jQ 5 j ba 0) (aY ba).2.1 Fd.self FZ fun ax j=>?_)
   refine aN ax (RL.nt ?_)
   have j:=j.drew
   refine RC.A3 (fun w=>Holds E w ([bc 73 b0 [v0_0,v0_1,v0_2,v0_3,aq,a9,v0_6,v0_7,v0_8,v0_9,v0_10,v0_11]]++V)) mixed zr [1,1,1,1,1,1,1,0,2,0,2,2,0,0,2] [0,1,2,3,4,5,6,7,8,9,10,11,12,13,14] (j.pk 7 [1]) (DP.e1 (vp b0 0) zr (fun w=>RL.move (vp b0 0) zt DP.d1) (DP.e1 (vp b0 0) zr (fun w=>RL.move (vp b0 0) zt DP.d1) (DP.e1 (vp b0 0) zr (fun w=>RL.nilCheck zr DP.d1) (DP.e1 (vp b0 5) zr (fun w=>RL.bF zr tG DP.d1) (DP.DH a9 zr (fun w j=>RL.bK 0 a9 j Bh DP.d1) (DP.e1 (vi ab) zr (fun w=>RL.move (vi ab) zt DP.d1) (DP.e1 ax zr (fun w=>RL.move ax zt DP.d1) (DP.e0 zr ?_))))))))
   refine mv ax (uB zr ?_)
   obtain⟨bo,ck,o⟩:=bd o
   refine RL.call zt zr DJ [ax] zr (aD (jt N (i0:=0) j zr ck) ?_)
   rintro cl w j
   refine DP.d2 (j.pk 8 [2]) (DP.e0 zr ?_)
   have j:=(j.sc Int (ab:Int)).freeze 1
   refine RL.build (⟨(ab:Int),bn,bo⟩:aI) trivial rfl j [(0,vi ab),(1,ax),(2,cl)] rfl F8 rfl (fun M hs g=>by have h:=uV M;exact dR.cons (f:=fun(x:aI) y=>{x with cY:=y}) h sw (g.sat 0 _ rfl).1 fun _ h=>dR.cons (f:=fun(x:aI) y=>{x with Set:=y}) h sA (g.sat 2 _ rfl).1 fun _ h=>dR.cons (f:=fun(x:aI) y=>{x with gk:=y}) h sB (g.sat 1 _ rfl).1 fun _ h=>dR.nil h) fun cm j=>?_
   refine uB zr (RL.fI ([(⟨(ab:Int),bn,bo⟩:aI)]: (List aI)) j [cm] EY Cv (fun M hs g=>⟨(g.sat 0 _ zr).1,zt⟩) fun c1 w j=>(DP.d2 (j.pk 11 [5]) (DP.e2 zr ?_)))
   have j:=j.freeze 0
   obtain⟨c2,cn,o⟩:=bd o
   refine RL.app 6 0 j Hz cn fun bp w j=>?_
   refine DP.d2 (j.pk 11 [5]) (DP.e0 zr (RL.nilCheck zr (dJ zr (RL.bF zr tG (DP.d0 (DP.G4 zr zr (RL.gj 5 bp j zr zr (dP 6 j) Bh fun w j=>?_)))))))
   refine DP.d2 zt (DP.z (bZ (aJ (RC.region (RL.inc hk hm (mv (vi ((a4+1:Nat):Int)) (RL.nil ?_)))))))
   obtain rfl:=oi o
   exact⟨rfl,bp,j.sp 11 [5,6,7,8,9,10]⟩
  rintro _ w ⟨a5,O,rfl,j⟩
  refine bZ (aJ (RC.region (RL.inc hk hm (mv (vi ((ab+1:Nat):Int)) (RL.nil ?_)))))
  obtain rfl:=oi o
  exact⟨rfl,aq,a5,j.sp 6 [0,4,1,2,3]⟩
 rintro _ w ⟨au,al,O,rfl,j⟩
 refine aJ (RC.seq ?_)
 obtain⟨bb,hj,o⟩:=bd o
 refine RC.jn (fun(bb:Bool)=>SH E V [(0,vp b0 0),(2,vb bb)] [bc 73 b0 [v0_0,v0_1,v0_2,v0_3,au,al,v0_6,v0_7,v0_8,v0_9,v0_10,v0_11],rd v0_0 p0_0,rd v0_2 p0_2,own 40 au aa.1,own 114 al aa.2.1]) bb ?_ ?_
 ·refine RC.region (mv (vb aa.2.2) (mv (vb aa.2.2) (iz hj (fun ae hj=>?_) fun ae hj=>?_)))
  ·refine RL.move (vp b0 0) (cg ae) (RL.nilCheck (hg:=(cg ae)) zr (RL.bF (hg:=(cg ae)) zr tG (RL.bK (hg:=(cg ae)) 0 al j Bh (RL.fU (hg:=(cg ae)) 2 aa.2.1 j DN (RL.k7 (aa.2.1.length:Int) 2000 (cg ae) (iJ ae (vb (decide ((aa.2.1.length:Int)<=2000))) (aN (vb (decide ((aa.2.1.length:Int)<=2000))) (RL.nil ?_))))))))
   obtain rfl:=oi hj
   exact⟨rfl,j.sp 5 [0,3,4,1,2]⟩
  refine cD ae (cD ae (cD ae (cD ae (cD ae (cD ae (iJ ae (vb false) (aN (vb false) (RL.nil ?_))))))))
  obtain rfl:=oi hj
  exact⟨rfl,j.sp 5 [0,3,4,1,2]⟩
 rintro _ w ⟨O,rfl,j⟩
 refine aJ (RC.ret ?_)
 obtain rfl:=oi o
 exact cA ⟨au,al,zr,j.pk 5 [0,3,4]⟩
end Go.Gk
namespace Go.Gk
open Go Go.Proofs
variable (N:Nat) {E w:World} {b0 i0 i1:Nat} {p0 p1 p2 res:Int} {v0 v0_0 v0_1 v0_10 v0_11 v0_2 v0_3 v0_4 v0_5 v0_6 v0_7 v0_8 v0_9 v1:Value} {V:List HP}
theorem tL {p0 p1:aG} {res:Bool} (j:Holds E w V) (h0:V[i0]? =some (rd v0 p0)) (h1:V[i1]? =some (rd v1 p1)) (hb:nJ N p0 p1=some res):
    Calls bG 72 [v0,v1].toArray w (gF (bD E V res)):=by
 unfold nJ at hb
 refine enter Tryz.func72 zr zr ?_
 have j:=(j.dup (i0+0) h0).dup (i1+1) h1
 refine RC.sr (RL.cX 1 v0 j zr fun o w j=>?_)
 refine RL.cX 1 v1 j zr fun aa w j=>?_
 refine aN (vb false) (RL.ns (RL.bF zr jr (RL.aS 1 j zr eQ cV (RL.bF zr j6 (RL.aS 0 j zr fQ cV (ic p0.X0 p1.X1 (mv (vb (decide (p0.X0<p1.X1))) (RL.gs true (decide (p0.X0<p1.X1)) (vp aa 0) zr zr zr (eW jr) ?_))))))))
 refine RL.gs true (decide (p0.X0<p1.X1)) (vi p1.X0) rfl rfl rfl (bX 0 rfl j (fun h=>by exact(dE h:cv (true&&((decide (p0.X0<p1.X1))==true)) (vp aa 0)= (vp aa 0))) rfl eQ cV) (RL.gs true (decide (p0.X0<p1.X1)) (vp o 2) rfl rfl rfl (eW j6) (RL.gs true (decide (p0.X0<p1.X1)) (vi p0.X1) rfl rfl rfl (bX 1 rfl j (fun h=>by exact(dE h:cv (true&&((decide (p0.X0<p1.X1))==true)) (vp o 2)= (vp o 2))) rfl fQ cV) (RL.gs true (decide (p0.X0<p1.X1)) (vb (decide (p1.X0<p0.X1))) rfl rfl rfl (fE .lss .i64 p1.X0 p0.X1 rfl (fun h=>by exact(dE h:cv (true&&((decide (p0.X0<p1.X1))==true)) (vi p1.X0)= (vi p1.X0))) (fun h=>by exact(dE h:cv (true&&((decide (p0.X0<p1.X1))==true)) (vi p0.X1)= (vi p0.X1))) rfl) (RL.pick (decide (p0.X0<p1.X1)) (vb ((decide (p0.X0<p1.X1))&&(decide (p1.X0<p0.X1)))) (jk true) (aN (vb ((decide (p0.X0<p1.X1))&&(decide (p1.X0<p0.X1)))) (RL.ns (RL.bF rfl j5 (RL.aS 1 j rfl fB cV ?_))))))))
 refine RL.bF rfl mK (RL.aS 0 j rfl i5 cV (ic p0.Y0 p1.Y1 (mv (vb (decide (p0.Y0<p1.Y1))) (RL.gs true (decide (p0.Y0<p1.Y1)) (vp aa 1) rfl rfl rfl (eW j5) (RL.gs true (decide (p0.Y0<p1.Y1)) (vi p1.Y0) rfl rfl rfl (bX 0 rfl j (fun h=>by exact(dE h:cv (true&&((decide (p0.Y0<p1.Y1))==true)) (vp aa 1)= (vp aa 1))) rfl fB cV) (RL.gs true (decide (p0.Y0<p1.Y1)) (vp o 3) rfl rfl rfl (eW mK) (RL.gs true (decide (p0.Y0<p1.Y1)) (vi p0.Y1) rfl rfl rfl (bX 1 rfl j (fun h=>by exact(dE h:cv (true&&((decide (p0.Y0<p1.Y1))==true)) (vp o 3)= (vp o 3))) rfl i5 cV) (RL.gs true (decide (p0.Y0<p1.Y1)) (vb (decide (p1.Y0<p0.Y1))) rfl rfl rfl (fE .lss .i64 p1.Y0 p0.Y1 rfl (fun h=>by exact(dE h:cv (true&&((decide (p0.Y0<p1.Y1))==true)) (vi p1.Y0)= (vi p1.Y0))) (fun h=>by exact(dE h:cv (true&&((decide (p0.Y0<p1.Y1))==true)) (vi p0.Y1)= (vi p0.Y1))) rfl) ?_))))))))
 refine RL.pick (decide (p0.Y0<p1.Y1)) (vb ((decide (p0.Y0<p1.Y1))&&(decide (p1.Y0<p0.Y1)))) (jk true) (aN (vb ((decide (p0.Y0<p1.Y1))&&(decide (p1.Y0<p0.Y1)))) (RL.ns (mv (vb ((decide (p0.X0<p1.X1))&&(decide (p1.X0<p0.X1)))) (mv (vb ((decide (p0.X0<p1.X1))&&(decide (p1.X0<p0.X1)))) (RL.gs true ((decide (p0.X0<p1.X1))&&(decide (p1.X0<p0.X1))) (vp o 3) rfl rfl rfl (eW mK) (RL.gs true ((decide (p0.X0<p1.X1))&&(decide (p1.X0<p0.X1))) (vi p0.Y1) rfl rfl rfl (bX 1 rfl j (fun h=>by exact(dE h:cv (true&&(((decide (p0.X0<p1.X1))&&(decide (p1.X0<p0.X1)))==true)) (vp o 3)= (vp o 3))) rfl i5 cV) (RL.gs true ((decide (p0.X0<p1.X1))&&(decide (p1.X0<p0.X1))) (vp aa 1) rfl rfl rfl (eW j5) (RL.gs true ((decide (p0.X0<p1.X1))&&(decide (p1.X0<p0.X1))) (vi p1.Y0) rfl rfl rfl (bX 0 rfl j (fun h=>by exact(dE h:cv (true&&(((decide (p0.X0<p1.X1))&&(decide (p1.X0<p0.X1)))==true)) (vp aa 1)= (vp aa 1))) rfl fB cV) ?_))))))))
 refine RL.gs true ((decide (p0.X0<p1.X1))&&(decide (p1.X0<p0.X1))) (vb (p0.Y1==p1.Y0)) rfl rfl rfl (fE .eql .i64 p0.Y1 p1.Y0 rfl (fun h=>by exact(dE h:cv (true&&(((decide (p0.X0<p1.X1))&&(decide (p1.X0<p0.X1)))==true)) (vi p0.Y1)= (vi p0.Y1))) (fun h=>by exact(dE h:cv (true&&(((decide (p0.X0<p1.X1))&&(decide (p1.X0<p0.X1)))==true)) (vi p1.Y0)= (vi p1.Y0))) rfl) (RL.gs true ((decide (p0.X0<p1.X1))&&(decide (p1.X0<p0.X1))) (vb (p0.Y1==p1.Y0)) rfl rfl rfl (dO (hx:=fun h=>by exact(dE h:cv (true&&(((decide (p0.X0<p1.X1))&&(decide (p1.X0<p0.X1)))==true)) (vb (p0.Y1==p1.Y0))= (vb (p0.Y1==p1.Y0))))) (RL.gs (true&&(((decide (p0.X0<p1.X1))&&(decide (p1.X0<p0.X1)))==true)) (p0.Y1==p1.Y0) (vp aa 3) rfl rfl rfl (eW mK) (RL.gs (true&&(((decide (p0.X0<p1.X1))&&(decide (p1.X0<p0.X1)))==true)) (p0.Y1==p1.Y0) (vi p1.Y1) rfl rfl rfl (bX 0 rfl j (fun h=>by exact(dE h:cv ((true&&(((decide (p0.X0<p1.X1))&&(decide (p1.X0<p0.X1)))==true))&&((p0.Y1==p1.Y0)==false)) (vp aa 3)= (vp aa 3))) rfl i5 cV) (RL.gs (true&&(((decide (p0.X0<p1.X1))&&(decide (p1.X0<p0.X1)))==true)) (p0.Y1==p1.Y0) (vp o 1) rfl rfl rfl (eW j5) (RL.gs (true&&(((decide (p0.X0<p1.X1))&&(decide (p1.X0<p0.X1)))==true)) (p0.Y1==p1.Y0) (vi p0.Y0) rfl rfl rfl (bX 1 rfl j (fun h=>by exact(dE h:cv ((true&&(((decide (p0.X0<p1.X1))&&(decide (p1.X0<p0.X1)))==true))&&((p0.Y1==p1.Y0)==false)) (vp o 1)= (vp o 1))) rfl fB cV) (RL.gs (true&&(((decide (p0.X0<p1.X1))&&(decide (p1.X0<p0.X1)))==true)) (p0.Y1==p1.Y0) (vb (p1.Y1==p0.Y0)) rfl rfl rfl (fE .eql .i64 p1.Y1 p0.Y0 rfl (fun h=>by exact(dE h:cv ((true&&(((decide (p0.X0<p1.X1))&&(decide (p1.X0<p0.X1)))==true))&&((p0.Y1==p1.Y0)==false)) (vi p1.Y1)= (vi p1.Y1))) (fun h=>by exact(dE h:cv ((true&&(((decide (p0.X0<p1.X1))&&(decide (p1.X0<p0.X1)))==true))&&((p0.Y1==p1.Y0)==false)) (vi p0.Y0)= (vi p0.Y0))) rfl) (RL.gs true ((decide (p0.X0<p1.X1))&&(decide (p1.X0<p0.X1))) (vb ((p0.Y1==p1.Y0)||(p1.Y1==p0.Y0))) rfl rfl rfl (qB (p0.Y1==p1.Y0) rfl (fun h=>by exact(dE h:cv (true&&(((decide (p0.X0<p1.X1))&&(decide (p1.X0<p0.X1)))==true)) (vb (p0.Y1==p1.Y0))= (vb (p0.Y1==p1.Y0)))) (fun h=>by exact o8 (true&&(((decide (p0.X0<p1.X1))&&(decide (p1.X0<p0.X1)))==true)) h)) (RL.pick ((decide (p0.X0<p1.X1))&&(decide (p1.X0<p0.X1))) (vb (((decide (p0.X0<p1.X1))&&(decide (p1.X0<p0.X1)))&&((p0.Y1==p1.Y0)||(p1.Y1==p0.Y0)))) (jk true) ?_))))))))
 refine mv (vb (((decide (p0.X0<p1.X1))&&(decide (p1.X0<p0.X1)))&&((p0.Y1==p1.Y0)||(p1.Y1==p0.Y0)))) (RL.gs true (((decide (p0.X0<p1.X1))&&(decide (p1.X0<p0.X1)))&&((p0.Y1==p1.Y0)||(p1.Y1==p0.Y0))) (vb ((decide (p0.Y0<p1.Y1))&&(decide (p1.Y0<p0.Y1)))) rfl rfl rfl dO (RL.gs true (((decide (p0.X0<p1.X1))&&(decide (p1.X0<p0.X1)))&&((p0.Y1==p1.Y0)||(p1.Y1==p0.Y0))) (vb ((decide (p0.Y0<p1.Y1))&&(decide (p1.Y0<p0.Y1)))) rfl rfl rfl (dO (hx:=fun h=>by exact(dE h:cv (true&&((((decide (p0.X0<p1.X1))&&(decide (p1.X0<p0.X1)))&&((p0.Y1==p1.Y0)||(p1.Y1==p0.Y0)))==false)) (vb ((decide (p0.Y0<p1.Y1))&&(decide (p1.Y0<p0.Y1))))= (vb ((decide (p0.Y0<p1.Y1))&&(decide (p1.Y0<p0.Y1))))))) (RL.gs (true&&((((decide (p0.X0<p1.X1))&&(decide (p1.X0<p0.X1)))&&((p0.Y1==p1.Y0)||(p1.Y1==p0.Y0)))==false)) ((decide (p0.Y0<p1.Y1))&&(decide (p1.Y0<p0.Y1))) (vp o 2) rfl rfl rfl (eW j6) (RL.gs (true&&((((decide (p0.X0<p1.X1))&&(decide (p1.X0<p0.X1)))&&((p0.Y1==p1.Y0)||(p1.Y1==p0.Y0)))==false)) ((decide (p0.Y0<p1.Y1))&&(decide (p1.Y0<p0.Y1))) (vi p0.X1) rfl rfl rfl (bX 1 rfl j (fun h=>by exact(dE h:cv ((true&&((((decide (p0.X0<p1.X1))&&(decide (p1.X0<p0.X1)))&&((p0.Y1==p1.Y0)||(p1.Y1==p0.Y0)))==false))&&(((decide (p0.Y0<p1.Y1))&&(decide (p1.Y0<p0.Y1)))==true)) (vp o 2)= (vp o 2))) rfl fQ cV) (RL.gs (true&&((((decide (p0.X0<p1.X1))&&(decide (p1.X0<p0.X1)))&&((p0.Y1==p1.Y0)||(p1.Y1==p0.Y0)))==false)) ((decide (p0.Y0<p1.Y1))&&(decide (p1.Y0<p0.Y1))) (vp aa 0) rfl rfl rfl (eW jr) (RL.gs (true&&((((decide (p0.X0<p1.X1))&&(decide (p1.X0<p0.X1)))&&((p0.Y1==p1.Y0)||(p1.Y1==p0.Y0)))==false)) ((decide (p0.Y0<p1.Y1))&&(decide (p1.Y0<p0.Y1))) (vi p1.X0) rfl rfl rfl (bX 0 rfl j (fun h=>by exact(dE h:cv ((true&&((((decide (p0.X0<p1.X1))&&(decide (p1.X0<p0.X1)))&&((p0.Y1==p1.Y0)||(p1.Y1==p0.Y0)))==false))&&(((decide (p0.Y0<p1.Y1))&&(decide (p1.Y0<p0.Y1)))==true)) (vp aa 0)= (vp aa 0))) rfl eQ cV) (RL.gs (true&&((((decide (p0.X0<p1.X1))&&(decide (p1.X0<p0.X1)))&&((p0.Y1==p1.Y0)||(p1.Y1==p0.Y0)))==false)) ((decide (p0.Y0<p1.Y1))&&(decide (p1.Y0<p0.Y1))) (vb (p0.X1==p1.X0)) rfl rfl rfl (fE .eql .i64 p0.X1 p1.X0 rfl (fun h=>by exact(dE h:cv ((true&&((((decide (p0.X0<p1.X1))&&(decide (p1.X0<p0.X1)))&&((p0.Y1==p1.Y0)||(p1.Y1==p0.Y0)))==false))&&(((decide (p0.Y0<p1.Y1))&&(decide (p1.Y0<p0.Y1)))==true)) (vi p0.X1)= (vi p0.X1))) (fun h=>by exact(dE h:cv ((true&&((((decide (p0.X0<p1.X1))&&(decide (p1.X0<p0.X1)))&&((p0.Y1==p1.Y0)||(p1.Y1==p0.Y0)))==false))&&(((decide (p0.Y0<p1.Y1))&&(decide (p1.Y0<p0.Y1)))==true)) (vi p1.X0)= (vi p1.X0))) rfl) (RL.gs (true&&((((decide (p0.X0<p1.X1))&&(decide (p1.X0<p0.X1)))&&((p0.Y1==p1.Y0)||(p1.Y1==p0.Y0)))==false)) ((decide (p0.Y0<p1.Y1))&&(decide (p1.Y0<p0.Y1))) (vb (p0.X1==p1.X0)) rfl rfl rfl (dO (hx:=fun h=>by exact(dE h:cv ((true&&((((decide (p0.X0<p1.X1))&&(decide (p1.X0<p0.X1)))&&((p0.Y1==p1.Y0)||(p1.Y1==p0.Y0)))==false))&&(((decide (p0.Y0<p1.Y1))&&(decide (p1.Y0<p0.Y1)))==true)) (vb (p0.X1==p1.X0))= (vb (p0.X1==p1.X0))))) ?_))))))))
 refine RL.gs ((true&&((((decide (p0.X0<p1.X1))&&(decide (p1.X0<p0.X1)))&&((p0.Y1==p1.Y0)||(p1.Y1==p0.Y0)))==false))&&(((decide (p0.Y0<p1.Y1))&&(decide (p1.Y0<p0.Y1)))==true)) (p0.X1==p1.X0) (vp aa 2) rfl rfl rfl (eW j6) (RL.gs ((true&&((((decide (p0.X0<p1.X1))&&(decide (p1.X0<p0.X1)))&&((p0.Y1==p1.Y0)||(p1.Y1==p0.Y0)))==false))&&(((decide (p0.Y0<p1.Y1))&&(decide (p1.Y0<p0.Y1)))==true)) (p0.X1==p1.X0) (vi p1.X1) rfl rfl rfl (bX 0 rfl j (fun h=>by exact(dE h:cv (((true&&((((decide (p0.X0<p1.X1))&&(decide (p1.X0<p0.X1)))&&((p0.Y1==p1.Y0)||(p1.Y1==p0.Y0)))==false))&&(((decide (p0.Y0<p1.Y1))&&(decide (p1.Y0<p0.Y1)))==true))&&((p0.X1==p1.X0)==false)) (vp aa 2)= (vp aa 2))) rfl fQ cV) (RL.gs ((true&&((((decide (p0.X0<p1.X1))&&(decide (p1.X0<p0.X1)))&&((p0.Y1==p1.Y0)||(p1.Y1==p0.Y0)))==false))&&(((decide (p0.Y0<p1.Y1))&&(decide (p1.Y0<p0.Y1)))==true)) (p0.X1==p1.X0) (vp o 0) rfl rfl rfl (eW jr) (RL.gs ((true&&((((decide (p0.X0<p1.X1))&&(decide (p1.X0<p0.X1)))&&((p0.Y1==p1.Y0)||(p1.Y1==p0.Y0)))==false))&&(((decide (p0.Y0<p1.Y1))&&(decide (p1.Y0<p0.Y1)))==true)) (p0.X1==p1.X0) (vi p0.X0) rfl rfl rfl (bX 1 rfl j (fun h=>by exact(dE h:cv (((true&&((((decide (p0.X0<p1.X1))&&(decide (p1.X0<p0.X1)))&&((p0.Y1==p1.Y0)||(p1.Y1==p0.Y0)))==false))&&(((decide (p0.Y0<p1.Y1))&&(decide (p1.Y0<p0.Y1)))==true))&&((p0.X1==p1.X0)==false)) (vp o 0)= (vp o 0))) rfl eQ cV) (RL.gs ((true&&((((decide (p0.X0<p1.X1))&&(decide (p1.X0<p0.X1)))&&((p0.Y1==p1.Y0)||(p1.Y1==p0.Y0)))==false))&&(((decide (p0.Y0<p1.Y1))&&(decide (p1.Y0<p0.Y1)))==true)) (p0.X1==p1.X0) (vb (p1.X1==p0.X0)) rfl rfl rfl (fE .eql .i64 p1.X1 p0.X0 rfl (fun h=>by exact(dE h:cv (((true&&((((decide (p0.X0<p1.X1))&&(decide (p1.X0<p0.X1)))&&((p0.Y1==p1.Y0)||(p1.Y1==p0.Y0)))==false))&&(((decide (p0.Y0<p1.Y1))&&(decide (p1.Y0<p0.Y1)))==true))&&((p0.X1==p1.X0)==false)) (vi p1.X1)= (vi p1.X1))) (fun h=>by exact(dE h:cv (((true&&((((decide (p0.X0<p1.X1))&&(decide (p1.X0<p0.X1)))&&((p0.Y1==p1.Y0)||(p1.Y1==p0.Y0)))==false))&&(((decide (p0.Y0<p1.Y1))&&(decide (p1.Y0<p0.Y1)))==true))&&((p0.X1==p1.X0)==false)) (vi p0.X0)= (vi p0.X0))) rfl) (RL.gs (true&&((((decide (p0.X0<p1.X1))&&(decide (p1.X0<p0.X1)))&&((p0.Y1==p1.Y0)||(p1.Y1==p0.Y0)))==false)) ((decide (p0.Y0<p1.Y1))&&(decide (p1.Y0<p0.Y1))) (vb ((p0.X1==p1.X0)||(p1.X1==p0.X0))) rfl rfl rfl (qB (p0.X1==p1.X0) rfl (fun h=>by exact(dE h:cv ((true&&((((decide (p0.X0<p1.X1))&&(decide (p1.X0<p0.X1)))&&((p0.Y1==p1.Y0)||(p1.Y1==p0.Y0)))==false))&&(((decide (p0.Y0<p1.Y1))&&(decide (p1.Y0<p0.Y1)))==true)) (vb (p0.X1==p1.X0))= (vb (p0.X1==p1.X0)))) (fun h=>by exact o8 ((true&&((((decide (p0.X0<p1.X1))&&(decide (p1.X0<p0.X1)))&&((p0.Y1==p1.Y0)||(p1.Y1==p0.Y0)))==false))&&(((decide (p0.Y0<p1.Y1))&&(decide (p1.Y0<p0.Y1)))==true)) h)) (RL.gs true (((decide (p0.X0<p1.X1))&&(decide (p1.X0<p0.X1)))&&((p0.Y1==p1.Y0)||(p1.Y1==p0.Y0))) (vb (((decide (p0.Y0<p1.Y1))&&(decide (p1.Y0<p0.Y1)))&&((p0.X1==p1.X0)||(p1.X1==p0.X0)))) rfl rfl rfl (qB ((decide (p0.Y0<p1.Y1))&&(decide (p1.Y0<p0.Y1))) rfl (fun h=>by exact(dE h:cv (true&&((((decide (p0.X0<p1.X1))&&(decide (p1.X0<p0.X1)))&&((p0.Y1==p1.Y0)||(p1.Y1==p0.Y0)))==false)) (vb ((decide (p0.Y0<p1.Y1))&&(decide (p1.Y0<p0.Y1))))= (vb ((decide (p0.Y0<p1.Y1))&&(decide (p1.Y0<p0.Y1)))))) (fun h=>by exact jk (h:=h) (true&&((((decide (p0.X0<p1.X1))&&(decide (p1.X0<p0.X1)))&&((p0.Y1==p1.Y0)||(p1.Y1==p0.Y0)))==false)))) (RL.pick (((decide (p0.X0<p1.X1))&&(decide (p1.X0<p0.X1)))&&((p0.Y1==p1.Y0)||(p1.Y1==p0.Y0))) (vb ((((decide (p0.X0<p1.X1))&&(decide (p1.X0<p0.X1)))&&((p0.Y1==p1.Y0)||(p1.Y1==p0.Y0)))||(((decide (p0.Y0<p1.Y1))&&(decide (p1.Y0<p0.Y1)))&&((p0.X1==p1.X0)||(p1.X1==p0.X0))))) (o8 true rfl) (aN (vb ((((decide (p0.X0<p1.X1))&&(decide (p1.X0<p0.X1)))&&((p0.Y1==p1.Y0)||(p1.Y1==p0.Y0)))||(((decide (p0.Y0<p1.Y1))&&(decide (p1.Y0<p0.Y1)))&&((p0.X1==p1.X0)||(p1.X1==p0.X0))))) ?_))))))))
 refine RL.nt (RC.ret ?_)
 obtain rfl:=oi hb
 exact cA ⟨rfl,j.drop 4⟩
theorem nP {p0:aG} {p1:bH} {res:Bool} (j:Holds E w V) (h0:V[i0]? =some (rd v0 p0)) (h1:V[i1]? =some (pt v1 p1)) (o:g8 N p0 p1=some res):
    Calls bG 71 [v0,v1].toArray w (gF (bD E V res)):=by
 unfold g8 at o
 refine enter Tryz.func71 zr zr ?_
 have j:=(j.dup (i0+0) h0).wT (i:=i1+1) h1
 refine RC.sr (RL.cX 1 v0 j zr fun ah w j=>?_)
 have j:=j.ki (i:=0) rfl
 refine aN (vb false) (RL.nq (RC.Ah mixed [1,0,2,2,0] [0,1,2,3,4] ?_))
 have j:=j.drew
 refine DP.yr p0 0 zr zt j gU fun aa a33 ai j=>(DP.e0 zr (RL.cG 3 p1 j mZ fun ab j=>(uB zr ?_)))
 obtain⟨aj,ad,o⟩:=bd o
 refine RL.call zt zr Bf [ab] zr (aD (fY N (i0:=0) j zr ad) ?_)
 rintro ae w j
 refine DP.d2 (⟨zt,j.lS 2⟩) (DP.e2 zr ?_)
 obtain⟨af,ag,o⟩:=bd o
 refine RL.call zt zr HB [aa,ae] zr (aD (tL N (i0:=3) (i1:=0) j zr zr ag) ?_)
 rintro _ w ⟨rfl,j⟩
 refine DP.d2 (⟨zt,j.lS 2⟩) (DP.e0 zr (aN (vb af) (DP.d0 ?_)))
 have j:=j.pl 7 [0,1,3,4,5,6]
 refine DP.z (aJ (RC.ret ?_))
 obtain rfl:=oi o
 exact cA ⟨rfl,j.drop 6⟩
theorem jP {p0: (List aG)} {p1:aG->Option Bool} {res:Bool} (j:Holds E w V) (h0:V[i0]? =some (rd v0 p0)) (h1:Dk bG E V v1 p1 (fun(r:Bool)=>Value.bool r)) (o:eR N p0 p1=some res):
    Calls bG 70 [v0,v1].toArray w (gF (bD E V res)):=by
 unfold eR at o
 refine enter Tryz.func70 zr zr ?_
 have j:=j.dup (i0+0) h0
 refine RC.sr (aN (vb false) (RL.ns (mv v0 (mv v1 ?_))))
 obtain⟨aa,ab,o⟩:=bd o
 refine RL.call zt zr FE [v0,v1] zr (aD (nN N (i0:=0) j zr (h1.lift 1 zr) ab) ?_)
 rintro _ w ⟨rfl,j⟩
 refine ic aa 0 (aN (vb (decide (aa>=0))) (RL.nt (RC.ret ?_)))
 obtain rfl:=oi o
 exact cA ⟨rfl,j.drop 1⟩
def qd (E:World) (V:List HP) (b0:Nat) (v0_0 v0_1:Value) (v0_2 v0_3:Value) (v0_4 v0_5:Value) (v0_7 v0_8:Value) (v0_9 v0_10 v0_11:Value) (res: (List (List Int))) (v:Value) (w:World):Prop:=∃u0_6:Value,v = .tuple #[]/\Holds E w ([bc 73 b0 [v0_0,v0_1,v0_2,v0_3,v0_4,v0_5,u0_6,v0_7,v0_8,v0_9,v0_10,v0_11],own 70 u0_6 res]++V)
theorem pE {p0_2: (List bH)} {p0_5: (List aI)} {p0_6: (List (List Int))} {res: (List (List Int))} (j:Holds E w (bc 73 b0 [v0_0,v0_1,v0_2,v0_3,v0_4,v0_5,v0_6,v0_7,v0_8,v0_9,v0_10,v0_11]::rd v0_2 p0_2::rd v0_5 p0_5::own 70 v0_6 p0_6::V)) (hb:gO N p0_2 p0_5 p0_6=some res):
    Calls bG 52 [(vp b0 0)].toArray w (gF (qd E V b0 v0_0 v0_1 v0_2 v0_3 v0_4 v0_5 v0_7 v0_8 v0_9 v0_10 v0_11 res)):=by
 unfold gO at hb
 refine enter Tryz.func52 zr zr (RC.sr (mv (vp b0 0) (RL.nilCheck zr (RL.bF zr pU (RL.bF zr ma (RL.bK 0 v0_2 j uq (RL.bO 1 p0_2 j vX (mv (vi 0) ?_))))))))
 refine RL.nt ?_
 obtain⟨af,hN,hb⟩:=bd hb
 refine RC.fold (fun(ai:Nat) (af: (List (List Int))) U w=>∃az:Value,SH E V [(0,vp b0 0),(11,v0_2),(12,vi p0_2.length),(13,vi ai)] [bc 73 b0 [v0_0,v0_1,v0_2,v0_3,v0_4,v0_5,az,v0_7,v0_8,v0_9,v0_10,v0_11],own 70 az af,rd v0_2 p0_2,rd v0_5 p0_5] U w) (fun(af: (List (List Int))) U w=>∃aq:Value,SH E V [(0,vp b0 0)] [bc 73 b0 [v0_0,v0_1,v0_2,v0_3,v0_4,v0_5,aq,v0_7,v0_8,v0_9,v0_10,v0_11],own 70 aq af,rd v0_2 p0_2,rd v0_5 p0_5] U w) hN ?_ ?_ ?_ ?_
 ·exact⟨v0_6,j.sp 4 [0,3,1,2]⟩
 ·rintro hm af _ w ⟨a4,O,rfl,j⟩
  refine RC.sr (ic ((p0_2.length:Int)) ((p0_2.length:Int)) (RL.nq (RC.dX px (RC.ex ?_))))
  exact⟨rfl,a4,j.sp 4 [0,1,2,3]⟩
 ·rintro hm ai af s' _ w hk ⟨ah,O,rfl,j⟩ hb
  refine RC.sr (ic ((ai:Int)) ((p0_2.length:Int)) (RL.nq (RC.dW (pw hk) (RC.ss (RC.bs ?_)))))
  obtain⟨aj,a5,hb⟩:=bd hb
  refine RL.cQ 2 j xf a5 fun bk j=>(RL.cG 0 aj j mZ fun bl j=>(RL.alloc j zk.z fun ag w j=>?_))
  refine RL.aZ 0 j 1 zr mZ fun w j=>?_
  refine RL.ns (aN (.slice none 0 0) (RL.nq (RC.sr (mv (vp b0 0) (RL.nilCheck zr (RL.bF zr tG (RL.bK 3 v0_5 j Bh (RL.bO 6 p0_5 j DN ?_))))))))
  refine mv (vi 0) (RL.nt ?_)
  have j:=j.ki (i:=0) rfl
  obtain⟨ak,hN,hb⟩:=bd hb
  refine RC.fold (fun(ab:Nat) (ak: (List Int)) U w=>∃a0:Value,SH E V [(0,vp b0 0),(3,vp ag 0),(4,a0),(11,v0_2),(12,vi p0_2.length),(13,vi ai),(20,v0_5),(21,vi p0_5.length),(22,vi ab)] [bc 73 b0 [v0_0,v0_1,v0_2,v0_3,v0_4,v0_5,ah,v0_7,v0_8,v0_9,v0_10,v0_11],rd v0_2 p0_2,rd v0_5 p0_5,own 70 ah af,pt (vp ag 0) aj,own 3 a0 ak] U w) (fun(ak: (List Int)) U w=>∃ao:Value,SH E V [(0,vp b0 0),(4,ao),(11,v0_2),(12,vi p0_2.length),(13,vi ai)] [bc 73 b0 [v0_0,v0_1,v0_2,v0_3,v0_4,v0_5,ah,v0_7,v0_8,v0_9,v0_10,v0_11],rd v0_2 p0_2,rd v0_5 p0_5,own 70 ah af,pt (vp ag 0) aj,own 3 ao ak] U w) hN ?_ ?_ ?_ ?_
  ·have j:=j.dD Int 3
   exact⟨(.slice none 0 0),j.sp 8 [4,6,7,5,1,0]⟩
  ·rintro hm ak _ w ⟨a6,O,rfl,j⟩
   refine RC.sr (ic ((p0_5.length:Int)) ((p0_5.length:Int)) (RL.nq (RC.dX px (RC.ex ?_))))
   exact⟨rfl,a6,j.sp 6 [0,1,2,3,4,5]⟩
  ·rintro hm ab ak s' _ w hk ⟨ar,O,rfl,j⟩ hb
   refine RC.sr (ic ((ab:Int)) ((p0_5.length:Int)) (RL.nq (RC.dW (pw hk) (RC.ss (RC.bs (mv (vi ab) ?_))))))
   obtain⟨aw,a7,hb⟩:=bd hb
   refine RL.cQ 2 j EY a7 fun bm j=>(RL.cG 0 aw j Al fun bn j=>(RL.alloc j Cv.z fun bo w j=>?_))
   refine aN (vi ab) (RL.aZ 0 j 1 zr Al fun w j=>?_)
   refine RL.nq ?_
   obtain⟨ax,o,hb⟩:=bd hb
   refine RC.jn (fun(ax:Bool)=>SH E V [(0,vp b0 0),(3,vp ag 0),(4,ar),(5,vi ab),(11,v0_2),(12,vi p0_2.length),(13,vi ai),(20,v0_5),(21,vi p0_5.length),(22,vi ab),(40,vb ax)] [bc 73 b0 [v0_0,v0_1,v0_2,v0_3,v0_4,v0_5,ah,v0_7,v0_8,v0_9,v0_10,v0_11],rd v0_2 p0_2,rd v0_5 p0_5,own 70 ah af,pt (vp ag 0) aj,own 3 ar ak]) ax ?_ ?_
   ·refine RC.region (RL.iT 7 j zr zu tx fun bp j=>(RL.bQ aj.iF 0 j GO (mv (vb aj.iF) (iz o (fun ad o=>?_) fun ad o=>?_))))
    rotate_left
    ·refine cD ad (cD ad (cD ad (cD ad (iJ ad (vb false) (mv (vb false) (mI (mI (mI ?_))))))))
     refine mI (RL.pick false (vb false) zr (RL.nil ?_))
     obtain rfl:=oi o
     exact⟨rfl,j.sp 10 [4,5,6,7,8,9]⟩
    refine RL.cG (hg:=(cg ad)) 8 aj j mZ fun a8 j=>(RL.bF (hg:=(cg ad)) zr Am (RL.aS (hg:=(cg ad)) 2 j zr nn cV ?_))
    obtain⟨a1,a9,o⟩:=bd o
    refine RL.call (cg ad) zr EW [a8,(vi aw.cY)] zr (aD (ln N (p1:=aw.cY) (i0:=0) j zr a9) ?_)
    rintro _ w ⟨rfl,j⟩
    refine iJ ad (vb a1) (mv (vb a1) (iz o (fun ae o=>?_) fun ae o=>?_))
    rotate_left
    ·refine cD ae (cD ae (cD ae (cD ae (iJ ae (vb false) (RL.nil ?_)))))
     obtain rfl:=oi o
     exact⟨rfl,j.sp 11 [5,6,7,8,9,10]⟩
    refine RL.bF (hg:=(cg ae)) zr An (RL.aR (hg:=(cg ae)) 2 j zr np pS fun ba j=>(RL.makeFunc (cg ae) zr [(vp ag 0)] zr ?_))
    obtain⟨bb,bf,o⟩:=bd o
    refine RL.call (cg ae) rfl F9 [ba,(.func (.func 71) #[] #[(vp ag 0)])] rfl (aD (jP N (i0:=0) j rfl ⟨71,[(vp ag 0)],rfl,HC,fun w Γl v y0 r i j hi hr=>by exact aD (nP N (i0:=i) (i1:=Γl.length+10) j hi (wR rfl) hr) fun _ _ h=>h⟩ bf) ?_)
    rintro _ w ⟨rfl,j⟩
    refine iJ ae (vb bb) (RL.nil ?_)
    obtain rfl:=oi o
    exact⟨rfl,j.sp 12 [6,7,8,9,10,11]⟩
   rintro _ w ⟨O,rfl,j⟩
   refine aJ ?_
   obtain⟨ay,o,hb⟩:=bd hb
   refine RC.jn (fun(ay: (List Int)) U w=>∃au:Value,SH E V [(0,vp b0 0),(3,vp ag 0),(4,au),(11,v0_2),(12,vi p0_2.length),(13,vi ai),(20,v0_5),(21,vi p0_5.length),(22,vi ab)] [bc 73 b0 [v0_0,v0_1,v0_2,v0_3,v0_4,v0_5,ah,v0_7,v0_8,v0_9,v0_10,v0_11],rd v0_2 p0_2,rd v0_5 p0_5,own 70 ah af,pt (vp ag 0) aj,own 3 au ay] U w) ay ?_ ?_
   ·refine fZ o (fun hc o=>?_) fun hc o=>?_
    rotate_left
    ·refine RC.skip ?_
     obtain rfl:=oi o
     exact⟨rfl,ar,j.sp 6 [0,1,2,3,4,5]⟩
    refine RC.region (mv ar (mv (vi ab) ?_))
    have j:=j.sc Int (ab:Int)
    refine RL.fI ([(ab:Int)]: (List Int)) j [(vi ab)] fx Dr (fun M hs g=>⟨(g.sat 0 _ zr).1,zt⟩) fun bq w j=>?_
    have j:=j.freeze 0
    obtain⟨br,bh,o⟩:=bd o
    refine RL.app 7 0 j tE bh fun a2 w j=>?_
    refine aN a2 (RL.nil ?_)
    obtain rfl:=oi o
    exact⟨rfl,a2,j.sp 8 [2,3,4,5,6,7]⟩
   rintro _ w ⟨au,O,rfl,j⟩
   refine bZ (aJ (RC.region (RL.inc hk hm (mv (vi ((ab+1:Nat):Int)) (RL.nil ?_)))))
   obtain rfl:=oi hb
   exact⟨rfl,au,j.sp 6 [0,1,2,3,4,5]⟩
  rintro _ w ⟨ao,O,rfl,j⟩
  refine aJ (RC.region (mv (vp b0 0) (mv (vp b0 0) (RL.nilCheck zr (RL.bF zr zv (RL.bK 0 ah j EZ (mv ao ?_)))))))
  have j:=j.freeze 5
  refine RL.fI ([ak]: (List (List Int))) j [ao] Bi Ga (fun M hs g=>⟨(g.sat 5 _ zr).1,zt⟩) fun bt w j=>?_
  have j:=j.freeze 0
  obtain⟨bu,bj,hb⟩:=bd hb
  refine RL.app 4 0 j Gb bj fun a3 w j=>?_
  refine RL.nilCheck zr (RL.bF zr zv (RL.gj 1 a3 j zr zr (dP 4 j) EZ fun w j=>?_))
  refine RL.nil (bZ (aJ (RC.region (RL.inc hk hm (mv (vi ((ai+1:Nat):Int)) (RL.nil ?_))))))
  obtain rfl:=oi hb
  exact⟨rfl,a3,j.sp 7 [1,4,2,3]⟩
 rintro _ w ⟨aq,O,rfl,j⟩
 obtain rfl:=oi hb
 refine zZ ?_
 exact Ew zr ⟨aq,zr,j.pk 4 [0,1]⟩
def rQ (E:World) (V:List HP) (res: ((List Int))) (v:Value) (w:World):Prop:=∃(ub0:Nat) (u0_0:Value),v=vp ub0 0/\Holds E w ([bc 154 ub0 [u0_0],own 3 u0_0 res]++V)
theorem q9 {res: ((List Int))} (j:Holds E w V) (hb:iZ N p0=some res):
    Calls bG 73 [(vi p0)].toArray w (gF (rQ E V res)):=by
 unfold iZ at hb
 refine enter Tryz.func73 zr zr (RC.sr (aN (.pointer none) (RL.ns (mv (vi p0) ?_))))
 obtain⟨af,aj,hb⟩:=bd hb
 refine RL.mk p0 zr j zr zr tE FD aj fun o w j=>?_
 refine RL.mE (h1:=⟨(dP 0 j),zt⟩) [(.slice none 0 0)] [o] [(0,o)] Gc (RL.Ac (cs:=[o]) zt zr j zr (sd.all (⟨(dP 0 j),zt⟩:sd [o])) fun ab w j=>?_)
 refine aN (vp ab 0) (RL.nq (RC.sr (mv (vp ab 0) (RL.nilCheck zr (RL.bF zr mn (RL.bK 0 o j fw (RL.fU 1 af j lT (mv (vi 0) ?_))))))))
 refine RL.nt ?_
 obtain⟨ae,hN,hb⟩:=bd hb
 refine RC.fold (fun(ad:Nat) (ae: (List Int))=>SH E V [(3,vp ab 0),(13,vi af.length),(14,vi ad)] [bc 154 ab [o],own 3 o ae]) (fun(ae: (List Int))=>SH E V [(3,vp ab 0)] [bc 154 ab [o],own 3 o ae]) hN ?_ ?_ ?_ ?_
 ·exact j.sp 2 [0,1]
 ·rintro hm ae _ w ⟨O,rfl,j⟩
  refine RC.sr (ic ((af.length:Int)) ((af.length:Int)) (RL.nq (RC.dX px (RC.ex ?_))))
  exact⟨rfl,j.sp 2 [0,1]⟩
 ·rintro hm ad ae s' _ w hk ⟨O,rfl,j⟩ hb
  refine RC.sr (ic ((ad:Int)) ((af.length:Int)) (RL.nq (RC.dW (pw hk) (RC.ss (RC.bs (mv (vi ad) (aN (vi ad) (RL.nt ?_))))))))
  refine RC.region (mv (vp ab 0) (RL.nilCheck zr (RL.bF zr mn (RL.bK 0 o j fw (mv (vi ad) (mv (vi ad) ?_))))))
  obtain⟨al,ag,hb⟩:=bd hb
  refine RL.bM 1 j zr zr fx ag ?_
  have j:=j.sc Int (ad:Int)
  refine RL.fJ (f:=(fun _ y=>y)) 2 0 j (jQ 2 j ag 0) (aY ag).2.1 zr Fs.self cV fun w j=>?_
  refine RL.nil (bZ (aJ (RC.region (RL.inc hk hm (mv (vi ((ad+1:Nat):Int)) (RL.nil ?_))))))
  obtain rfl:=oi hb
  exact⟨rfl,j.sp 3 [1,2]⟩
 rintro _ w ⟨O,rfl,j⟩
 refine aJ (RC.sr (mv (vp ab 0) (aN (vp ab 0) (RL.nt (RC.ret ?_)))))
 obtain rfl:=oi hb
 exact cA ⟨ab,o,zr,j.pk 2 [0,1]⟩
def ra (E:World) (V:List HP) (b0:Nat) (res:Int×(List Int)) (v:Value) (w:World):Prop:=∃u0_0:Value,v= (vi res.1)/\Holds E w ([bc 154 b0 [u0_0],own 3 u0_0 res.2]++V)
theorem ka {p0_0: (List Int)} {res:Int×(List Int)} (j:Holds E w (bc 154 b0 [v0_0]::own 3 v0_0 p0_0::V)) (o:eO N p0_0 p1=some res):
    Calls bG 103 [(vp b0 0),(vi p1)].toArray w (gF (ra E V b0 res)):=by
 unfold eO at o
 refine enter Tryz.func103 zr zr (RC.sr (aN (vi 0) (RL.nq ?_)))
 obtain⟨an,hN,o⟩:=bd o
 refine RC.iter (fun(aa: (List Int)×Int)=>SH E V [(0,vp b0 0),(1,vi aa.2)] [bc 154 b0 [v0_0],own 3 v0_0 aa.1]) (fun(aa: (List Int)×Int)=>SH E V [(0,vp b0 0),(1,vi aa.2)] [bc 154 b0 [v0_0],own 3 v0_0 aa.1]) (fun(r:Empty) _ _=>r.elim) hN ?_ ?_ ?_ ?_
 ·exact j.sp 2 [0,1]
 ·rintro aa fl _ w ⟨O,rfl,j⟩ o
  refine RC.seq (RC.sr (mv (vp b0 0) (RL.nilCheck zr (RL.bF zr mn (RL.bK 0 v0_0 j fw (mv (vi aa.2) ?_))))))
  obtain⟨ai,ab,o⟩:=bd o
  refine RL.bM 1 j zr zr fx ab (RL.dN (f:=(fun x=>x)) 1 j (jQ 1 j ab 0) (aY ab).2.1 Fd.self cV (mv (vi aa.2) (ic ai aa.2 (RL.nt (fZ o (fun hc o=>?_) fun hc o=>?_)))))
  rotate_left
  ·refine RC.ex ?_
   obtain rfl:=oi o
   exact⟨rfl,j.sp 2 [0,1]⟩
  refine RC.sn (RC.block (RC.seq (RC.Ah mixed [0,0,0,0,0,0,0,0,0,0,0,0,0,0,0,0,0,0,0,2] [0,1,2,3,4,5,6,7,8,9,10,11,12,13,14,15,16,17,18,19] ?_)))
  have j:=j.drew
  refine DP.e0 zr (mv (vp b0 0) (dJ zr (RL.nilCheck zr (dJ zr (RL.bF zr mn (dJ zr (RL.bK 0 v0_0 j fw (dJ zr ?_))))))))
  refine mv (vi aa.2) (dJ zr (mv (vp b0 0) (dJ zr (RL.nilCheck zr (dJ zr (RL.bF zr mn (dJ zr (RL.bK 0 v0_0 j fw ?_))))))))
  refine dJ zr (mv (vp b0 0) (dJ zr (RL.nilCheck zr (dJ zr (RL.bF zr mn (dJ zr (RL.bK 0 v0_0 j fw (dJ zr ?_))))))))
  refine mv (vi aa.2) (dJ zr ?_)
  obtain⟨aq,ad,o⟩:=bd o
  refine RL.bM 1 j zr zr fx ad (dJ zr (RL.dN (f:=(fun x=>x)) 1 j (jQ 1 j ad 0) (aY ad).2.1 Fd.self cV (dJ zr ?_)))
  obtain⟨ak,ae,o⟩:=bd o
  refine RL.bM 1 j zr zr fx ae (dJ zr (RL.dN (f:=(fun x=>x)) 1 j (jQ 1 j ae 0) (aY ae).2.1 Fd.self cV (dJ zr ?_)))
  obtain⟨ar,af,o⟩:=bd o
  refine RL.bM 1 j zr zr fx af (uB zr ?_)
  have j:=j.sc Int ak
  refine RL.fJ (f:=(fun _ y=>y)) 2 0 j (jQ 2 j af 0) (aY af).2.1 zr Fs.self cV fun w j=>?_
  refine DP.d2 zt (DP.z (aJ (RC.region (mv (vp b0 0) (RL.nilCheck zr (RL.bF zr mn (RL.bK 1 v0_0 j fw (mv (vi aa.2) ?_))))))))
  obtain⟨al,ag,o⟩:=bd o
  refine RL.bM 2 j zr zr fx ag (RL.dN (f:=(fun x=>x)) 2 j (jQ 2 j ag 0) (aY ag).2.1 Fd.self cV (aN (vi al) (RL.nil (bZ ?_))))
  obtain rfl:=oi o
  exact⟨rfl,j.sp 3 [1,2]⟩
 ·intro r _ _ _ _
  exact r.elim
 rintro aa _ w rfl ⟨O,rfl,j⟩
 rw [Fo.gL] at o
 refine aJ (RC.sr (mv (vi aa.2) (aN (vi aa.2) (RL.nt (RC.ret ?_)))))
 obtain rfl:=oi o
 exact cA ⟨v0_0,zr,j.pk 2 [0,1]⟩
def qe (E:World) (V:List HP) (b0:Nat) (res: (List Int)) (v:Value) (w:World):Prop:=∃u0_0:Value,v = .tuple #[]/\Holds E w ([bc 154 b0 [u0_0],own 3 u0_0 res]++V)
theorem pF {p0_0: (List Int)} {res: (List Int)} (j:Holds E w (bc 154 b0 [v0_0]::own 3 v0_0 p0_0::V)) (o:fu N p0_0 p1 p2=some res):
    Calls bG 74 [(vp b0 0),(vi p1),(vi p2)].toArray w (gF (qe E V b0 res)):=by
 unfold fu at o
 refine enter Tryz.func74 zr zr (RC.sr (mv (vp b0 0) (mv (vi p1) ?_)))
 have j:=(j.pull 1).pull 1
 obtain⟨aa,af,o⟩:=bd o
 refine RL.call zt zr Cw [(vp b0 0),(vi p1)] zr (aD (ka N (p1:=p1) j af) ?_)
 rintro _ w ⟨ah,rfl,j⟩
 refine mv (vp b0 0) (mv (vi p2) ?_)
 have j:=(j.pull 1).pull 1
 obtain⟨ab,ag,o⟩:=bd o
 refine RL.call zt zr Cw [(vp b0 0),(vi p2)] zr (aD (ka N (p1:=p2) j ag) ?_)
 rintro _ w ⟨ae,rfl,j⟩
 refine aN (vi aa.1) (aN (vi ab.1) (RL.nt (RC.region (mv (vp b0 0) (RL.nilCheck zr (RL.bF zr mn (RL.bK 0 ae j fw (mv (vi aa.1) ?_))))))))
 refine mv (vi ab.1) (RL.max aa.1 ab.1 (mv (vi aa.1) (mv (vi ab.1) (RL.min aa.1 ab.1 ?_))))
 obtain⟨ai,ad,o⟩:=bd o
 refine RL.bM 1 j zr zr fx ad ?_
 have j:=j.sc Int (if ab.1<aa.1 then ab.1 else aa.1)
 refine RL.fJ (f:=(fun _ y=>y)) 2 0 j (jQ 2 j ad 0) (aY ad).2.1 zr Fs.self cV fun w j=>?_
 refine RL.nil ?_
 obtain rfl:=oi o
 refine zZ ?_
 exact Ew zr ⟨ae,zr,j.pk 7 [1,2]⟩
def qf (E:World) (V:List HP) (b0:Nat) (res: (List (List Int))×(List Int)) (v:Value) (w:World):Prop:=∃u0 u0_0:Value,v=u0/\Holds E w ([own 70 u0 res.1,bc 154 b0 [u0_0],own 3 u0_0 res.2]++V)
theorem pG {p0_0: (List Int)} {res: (List (List Int))×(List Int)} (o:Holds E w (bc 154 b0 [v0_0]::own 3 v0_0 p0_0::V)) (hb:gQ N p0_0=some res):
    Calls bG 75 [(vp b0 0)].toArray w (gF (qf E V b0 res)):=by
 unfold gQ at hb
 refine enter Tryz.func75 zr zr (RC.sr (aN (.slice none 0 0) (RL.ns (aN (.slice none 0 0) (RL.ns (RL.makeMap (κ:=Int) (ν:=Int) zt zr o fun aq w o=>(aN aq (RL.nq ?_))))))))
 refine RC.sr (mv (vp b0 0) (RL.nilCheck zr (RL.bF zr mn (RL.bK 1 v0_0 o fw (RL.fU 2 p0_0 o lT (mv (vi 0) (RL.nt ?_)))))))
 obtain⟨ao,hN,hb⟩:=bd hb
 refine RC.fold (fun(ai:Nat) (ao: (List Int)×(List (List Int))×(List (Int×Int))) U w=>∃(a4 a5:Value) (us110:List RV),SH E V [(0,vp b0 0),(3,a5),(4,aq),(12,vi p0_0.length),(13,vi ai)] [bc 154 b0 [a4],own 3 a4 ao.1,mp aq ao.2.2,own 70 a5 us110,hL (XS 3 Int) us110 ao.2.1 none] U w) (fun(ao: (List Int)×(List (List Int))×(List (Int×Int))) U w=>∃(ax av:Value) (us113:List RV),SH E V [(0,vp b0 0),(3,av)] [bc 154 b0 [ax],own 3 ax ao.1,mp aq ao.2.2,own 70 av us113,hL (XS 3 Int) us113 ao.2.1 none] U w) hN ?_ ?_ ?_ ?_
 ·have o:=(o.wV (XS 3 Int)).dD RV 70
  exact⟨v0_0,(.slice none 0 0),([]:List RV),o.sp 5 [3,4,2,0,1]⟩
 ·rintro hm ao _ w ⟨bb,bf,us153,O,rfl,o⟩
  refine RC.sr (ic ((p0_0.length:Int)) ((p0_0.length:Int)) (RL.nq (RC.dX px (RC.ex ?_))))
  exact⟨rfl,bb,bf,us153,o.sp 5 [0,1,2,3,4]⟩
 ·rintro hm ai ao s' _ w hk ⟨bl,a1,us116,O,rfl,o⟩ hb
  refine RC.sr (ic ((ai:Int)) ((p0_0.length:Int)) (RL.nq (RC.dW (pw hk) (RC.ss (RC.bs (mv (vi ai) (aN (vi ai) (RL.ns ?_))))))))
  refine mv (vp b0 0) (mv (vi ai) ?_)
  have o:=(o.pull 1).pull 1
  obtain⟨ab,bg,hb⟩:=bd hb
  refine RL.call zt zr Cw [(vp b0 0),(vi ai)] zr (aD (ka N (p1:=(ai:Int)) o bg) ?_)
  rintro _ w ⟨aw,rfl,o⟩
  refine aN (vi ab.1) (RL.nq (RC.sr (mv (vi ab.1) (mv (vi ai) (ic ab.1 ((ai:Int)) (RL.nt ?_))))))
  obtain⟨aa,hj,hb⟩:=bd hb
  refine RC.jn (fun(aa: (List (List Int))×(List (Int×Int))) U w=>∃(an:Value) (us124:List RV),SH E V [(0,vp b0 0),(3,an),(4,aq),(5,vi ai),(6,vi ab.1),(12,vi p0_0.length),(13,vi ai)] [bc 154 b0 [aw],own 3 aw ab.2,mp aq aa.2,own 70 an us124,hL (XS 3 Int) us124 aa.1 none] U w) aa ?_ ?_
  ·refine fZ hj (fun hc hj=>?_) fun hc hj=>?_
   rotate_left
   ·refine RC.skip ?_
    obtain rfl:=oi hj
    exact⟨rfl,a1,us116,o.sp 7 [0,1,4,5,6]⟩
   refine RC.sr (mv aq (mv (vi ai) (mv a1 (RL.pL 5 6 ao.2.1 zr o zr zr zr E0 ?_))))
   have o:=o.sc Int (ao.2.1.length:Int)
   refine RL.mapUpdate 5 0 (ai:Int) zt o zr zr zr zr zr yx fun w o=>(RL.nt (RC.region (mv a1 ?_)))
   have o:=(o.dD Int 3).Aa (i:=0) rfl
   refine RL.fI ([rv (.slice none 0 0)]:List RV) o [(.slice none 0 0)] Bi Ga (fun M hs g=>⟨(g.sat 0 _ zr).1,zt⟩) fun bm w o=>?_
   obtain⟨bn,bj,hj⟩:=bd hj
   have o:=o.freeze 0
   refine RL.ye 9 0 10 2 zt zr o zr zr zr zr zr zr Gb bj fun a8 w o=>?_
   refine aN a8 (RL.nil ?_)
   obtain rfl:=oi hj
   exact⟨rfl,a8,(us116++[rv (.slice none 0 0)]),o.sp 11 [4,5,8,9,10]⟩
  rintro _ w ⟨an,us124,O,rfl,o⟩
  refine aJ ?_
  obtain⟨iH,ay,hb⟩:=bd hb
  obtain⟨au,bk,hb⟩:=bd hb
  obtain⟨bo,a2,hb⟩:=bd hb
  refine RC.Dq E V mixed [1,1,1,0,1,1,1,0,0,0,1,0,0,0,0] [11,12,14] (fun(x:Value×Value)=>(fun ak ag=>[(0,29,an),(1,30,aq),(2,31,(vi ab.1)),(3,32,(vi (fT aa.2 ab.1 (0:Int)))),(4,33,an),(5,34,aq),(6,35,(vi ab.1)),(7,36,(vi (fT aa.2 ab.1 (0:Int)))),(8,37,(xO an (Int.toNat (fT aa.2 ab.1 (0:Int))) 1 0)),(9,38,(us124.getD (Int.toNat (fT aa.2 ab.1 (0:Int))) xP).v),(10,39,(vi ai)),(11,40,ak),(12,41,ag),(13,42,(xO an (Int.toNat (fT aa.2 ab.1 (0:Int))) 1 0))]) x.1 x.2) [(0,vp b0 0),(3,an),(4,aq),(5,vi ai),(6,vi ab.1),(12,vi p0_0.length),(13,vi ai)] [] (fun(D:Nat->Bool) (x:Value×Value)=>(fun ak ag=>[bif D 1 then (rd ak ([(ai:Int)]: (List Int))) else (bif D 0 then (own 3 ak ([(ai:Int)]: (List Int))) else aX),bif D 2 then aX else (bif D 1 then (own 3 ag au) else aX),bc 154 b0 [aw],own 3 aw ab.2,mp aq aa.2,bif D 2 then (own 70 an (us124.set (Int.toNat (fT aa.2 ab.1 (0:Int))) (rv ag))) else (own 70 an us124),bif D 2 then (hL (XS 3 Int) (us124.set (Int.toNat (fT aa.2 ab.1 (0:Int))) (rv ag)) (aa.1.set (Int.toNat (fT aa.2 ab.1 (0:Int))) au) none) else (bif D 1 then (hL (XS 3 Int) us124 aa.1 (some (Int.toNat (fT aa.2 ab.1 (0:Int))))) else (hL (XS 3 Int) us124 aa.1 none))]) x.1 x.2) (fun x=>by kernel_rfl) ?_ ⟨fun _=>jJ gn,fun _=>jJ gn,fun _=>jJ gn,?_,fun _=>jJ gn,fun _=>jJ gn,fun _=>jJ gn,?_,?_,?_,fun _=>jJ gn,?_,?_,?_,?_,trivial⟩ ?_
  ·have o:=((o.drew).aX).aX
   exact⟨(undef,undef),eC.none,(B1 zr),zt,o⟩
  ·rintro D U w hD ah ae ⟨⟨ak,ag⟩,hv,ha,_,o⟩
   obtain⟨O,rfl⟩:=(ac (hv.at 1 rfl (ah.1 rfl)) (ac (hv.at 2 rfl (ah.2.1 rfl)) az)).fG
   refine RL.x6 4 ab.1 zt zr o zr zr zr yx ?_
   exact RL.nil ⟨rfl,(ak,ag),hv.pu 3,ha.u,zt,o⟩
  ·rintro D U w hD ah ae ⟨⟨ak,ag⟩,hv,ha,_,o⟩
   obtain⟨O,rfl⟩:=(ac (hv.at 5 rfl (ah.1 rfl)) (ac (hv.at 6 rfl (ah.2.1 rfl)) az)).fG
   refine RL.x6 4 ab.1 zt zr o zr zr zr yx ?_
   exact RL.nil ⟨rfl,(ak,ag),hv.pu 7,ha.u,zt,o⟩
  ·rintro D U w hD ah ae ⟨⟨ak,ag⟩,hv,ha,_,o⟩
   obtain⟨O,rfl⟩:=(ac (hv.at 4 rfl (ah.1 rfl)) (ac (hv.at 7 rfl (ah.2.1 rfl)) az)).fG
   have o:=((o.bP 5 (nh ae hD 14)).bP 6 (nh ae hD 14)).bP 6 (nf (fun h=>ft hD ((ae 9 _ rfl ((ae 12 _ rfl h).1 rfl)).1 rfl)))
   have hl141:=o.ga 6 rfl
   have hr142:=jl xP hl141 ay
   refine RL.bM 5 o zr zr Bi hr142 ?_
   have o:=(o.eP 5 (D 14) (nh ae hD 14) (own 70 an (us124.set (Int.toNat (fT aa.2 ab.1 (0:Int))) (rv ag)))).eP 6 (D 12) (nf (fun h=>ft hD ((ae 9 _ rfl ((ae 12 _ rfl h).1 rfl)).1 rfl))) (hL (XS 3 Int) us124 aa.1 (some (Int.toNat (fT aa.2 ab.1 (0:Int)))))
   have o:=o.eP 6 (D 14) (nh ae hD 14) (hL (XS 3 Int) (us124.set (Int.toNat (fT aa.2 ab.1 (0:Int))) (rv ag)) (aa.1.set (Int.toNat (fT aa.2 ab.1 (0:Int))) au) none)
   exact RL.nil ⟨rfl,(ak,ag),hv.pu 8,ha.u,zt,o⟩
  ·rintro D U w hD ah ae ⟨⟨ak,ag⟩,hv,ha,_,o⟩
   obtain⟨O,rfl⟩:=(ac (hv.at 8 rfl (ah.1 rfl)) az).fG
   have o:=((o.bP 5 (nh ae hD 14)).bP 6 (nh ae hD 14)).bP 6 (nh ae hD 12)
   have hl143:=o.ga 6 rfl
   have hr144:=jl xP hl143 ay
   refine RL.tt 5 6 (fT aa.2 ab.1 (0:Int)) (wk 3 Int) xP zr o zr (jQ 5 o hr144 0) zr zr ay fw ?_
   have o:=(o.eP 5 (D 14) (nh ae hD 14) (own 70 an (us124.set (Int.toNat (fT aa.2 ab.1 (0:Int))) (rv ag)))).eP 6 (D 12) (nh ae hD 12) (hL (XS 3 Int) us124 aa.1 (some (Int.toNat (fT aa.2 ab.1 (0:Int)))))
   have o:=o.eP 6 (D 14) (nh ae hD 14) (hL (XS 3 Int) (us124.set (Int.toNat (fT aa.2 ab.1 (0:Int))) (rv ag)) (aa.1.set (Int.toNat (fT aa.2 ab.1 (0:Int))) au) none)
   exact RL.nil ⟨rfl,(ak,ag),hv.pu 9,ha.u,zt,o⟩
  ·rintro D U w hD ah ae ⟨⟨ak,ag⟩,hv,ha,_,o⟩
   obtain⟨O,rfl⟩:=(ac (hv.at 10 rfl (ah.1 rfl)) az).fG
   have o:=((o.bP 0 (nh ae hD 12)).bP 0 hD).sc Int (ai:Int)
   refine RL.fI ([(ai:Int)]: (List Int)) o [(vi ai)] fx Dr (fun M hs g=>⟨(g.sat 0 _ zr).1,zt⟩) fun a9 w o=>?_
   have o:=((o.pl 9 [0,3,4,5,6,7,8]).cC 0 true rfl aX).eP 0 (D 12) (nh ae hD 12) (rd a9 ([(ai:Int)]: (List Int)))
   exact RL.nil ⟨rfl,(a9,ag),hv.pu 11,ha.u,zt,o⟩
  ·rintro D U w hD ah ae ⟨⟨ak,ag⟩,hv,ha,_,o⟩
   obtain⟨O,rfl⟩:=(ac (hv.at 9 rfl (ah.1 rfl)) (ac (hv.at 11 rfl (ah.2.1 rfl)) az)).fG
   have o:=(((((((o.bP 0 hD).cB 0 (ah.2.1 rfl)).bP 1 (nh ae hD 14)).bP 1 hD).bP 5 (nh ae hD 14)).bP 6 (nh ae hD 14)).bP 6 hD).wW (j:=6) (jj:=(fT aa.2 ab.1 (0:Int))) (wk 3 Int) xP rfl ay
   have o:=o.freeze 1
   refine RL.app 0 1 o tE bk fun a3 w o=>?_
   have o:=((((o.pl 8 [1,0,3,4,5,6,7]).cC 0 true rfl (bif D 11 then (own 3 ak ([(ai:Int)]: (List Int))) else aX)).cC 1 true rfl aX).eP 1 (D 14) (nh ae hD 14) aX).eP 5 (D 14) (nh ae hD 14) (own 70 an (us124.set (Int.toNat (fT aa.2 ab.1 (0:Int))) (rv a3)))
   have o:=(o.cC 6 true rfl (hL (XS 3 Int) us124 aa.1 none)).eP 6 (D 14) (nh ae hD 14) (hL (XS 3 Int) (us124.set (Int.toNat (fT aa.2 ab.1 (0:Int))) (rv a3)) (aa.1.set (Int.toNat (fT aa.2 ab.1 (0:Int))) au) none)
   exact RL.nil ⟨rfl,(ak,a3),hv.pu 12,ha.u,zt,o⟩
  ·rintro D U w hD ah ae ⟨⟨ak,ag⟩,hv,ha,_,o⟩
   obtain⟨O,rfl⟩:=(ac (hv.at 0 rfl (ah.1 rfl)) (ac (hv.at 3 rfl (ah.2.1 rfl)) az)).fG
   have o:=((o.bP 5 (nh ae hD 14)).bP 6 (nh ae hD 14)).cB 6 (ah.2.2.2.2.2.2.2.2.2.2.2.2.2.2.1 rfl)
   have hl147:=o.ga 6 rfl
   have hr148:=jl xP hl147 a2
   refine RL.bM 5 o zr zr Bi hr148 ?_
   have o:=(o.eP 5 (D 14) (nh ae hD 14) (own 70 an (us124.set (Int.toNat (fT aa.2 ab.1 (0:Int))) (rv ag)))).cC 6 (D 12) (ah.2.2.2.2.2.2.2.2.2.2.2.2.2.2.1 rfl) (hL (XS 3 Int) us124 aa.1 none)
   have o:=o.eP 6 (D 14) (nh ae hD 14) (hL (XS 3 Int) (us124.set (Int.toNat (fT aa.2 ab.1 (0:Int))) (rv ag)) (aa.1.set (Int.toNat (fT aa.2 ab.1 (0:Int))) au) none)
   exact RL.nil ⟨rfl,(ak,ag),hv.pu 13,ha.u,zt,o⟩
  ·rintro D U w hD ah ae ⟨⟨ak,ag⟩,hv,ha,_,o⟩
   obtain⟨O,rfl⟩:=(ac (hv.at 12 rfl (ah.2.1 rfl)) (ac (hv.at 13 rfl (ah.1 rfl)) az)).fG
   have o:=((((o.bP 1 hD).cB 1 (ah.2.1 rfl)).bP 5 hD).bP 6 hD).cB 6 (ah.2.1 rfl)
   have hl149:=o.ga 6 rfl
   have hr150:=jl xP hl149 a2
   refine RL.rE 5 6 1 (fT aa.2 ab.1 (0:Int)) (wk 3 Int) xP o zr zr (jQ 5 o hr150 0) zr zr zr a2 fw fun w o=>?_
   have o:=((o.cC 1 true rfl (bif D 12 then (own 3 ag au) else aX)).cC 5 true rfl (own 70 an us124)).cC 6 true rfl (bif D 12 then (hL (XS 3 Int) us124 aa.1 (some (Int.toNat (fT aa.2 ab.1 (0:Int))))) else (hL (XS 3 Int) us124 aa.1 none))
   exact RL.nil ⟨rfl,(ak,ag),hv.n1,ha,zt,o⟩
  rintro D U w a0 ⟨⟨ak,ag⟩,hv,ha,_,o⟩
  have o:=(((o.cB 0 (kS a0 12)).cB 1 (kS a0 14)).cB 5 (kS a0 14)).cB 6 (kS a0 14)
  obtain⟨O,rfl⟩:=(ac (ha.at 0 rfl) (ac (ha.at 1 rfl) (ac (ha.at 2 rfl) (ac (ha.at 3 rfl) (ac (ha.at 4 rfl) (ac (ha.at 5 rfl) (ac (ha.at 6 rfl) az))))))).fG
  refine bZ (aJ (RC.region (RL.inc hk hm (mv (vi ((ai+1:Nat):Int)) (RL.nil ?_)))))
  obtain rfl:=oi hb
  exact⟨rfl,aw,an,(us124.set (Int.toNat (fT aa.2 ab.1 (0:Int))) (rv ag)),o.sp 7 [2,3,4,5,6]⟩
 rintro _ w ⟨ax,av,us113,O,rfl,o⟩
 refine aJ (RC.sr (mv av (aN av (RL.nt (RC.ret ?_)))))
 obtain rfl:=oi hb
 have o:=o.wX (X:=(XS 3 Int)) (b:=4) (j:=3) rfl (fun M h u x cs=>(Ec 3) M h u x cs) rfl rfl (by decide)
 exact cA ⟨av,ax,zr,o.pk 5 [3,0,1]⟩
theorem pH {p0:aG} {p1:iU} {res:Bool} (j:Holds E w V) (h0:V[i0]? =some (rd v0 p0)) (h1:V[i1]? =some (pt v1 p1)) (hb:jq N p0 p1=some res):
    Calls bG 118 [v0,v1].toArray w (gF (bD E V res)):=by
 unfold jq at hb
 refine enter Tryz.func118 zr zr ?_
 have j:=(j.dup (i0+0) h0).wT (i:=i1+1) h1
 refine RC.sr (RL.cX 1 v0 j zr fun ag w j=>?_)
 refine aN (vb false) (RL.nq ?_)
 obtain⟨af,o,hb⟩:=bd hb
 refine RC.jn (fun(af:Bool)=>SH E V [(3,vb af)] []) af ?_ ?_
 ·refine RC.region (RL.iT 1 j zr xg oQ fun ah j=>(RL.bQ p1.X 0 j cV (RL.bF zr jr (RL.aS 1 j zr eQ cV (ic p1.X p0.X0 (mv (vb (decide (p1.X>=p0.X0))) (iz o (fun aa o=>?_) fun aa o=>?_)))))))
  rotate_left
  ·refine cD aa (cD aa (cD aa (cD aa (cD aa (iJ aa (vb false) (mv (vb false) (mI (mI ?_))))))))
   refine mI (mI (mI (RL.pick false (vb false) zr (mv (vb false) (mI (mI (mI (mI ?_))))))))
   refine mI (RL.pick false (vb false) zr (aN (vb false) (RL.nil ?_)))
   obtain rfl:=oi o
   exact⟨rfl,j.sp 4 []⟩
  refine RL.iT (hg:=(cg aa)) 2 j zr xg oQ fun ai j=>(RL.bQ (hg:=(cg aa)) p1.X 0 j cV (RL.bF (hg:=(cg aa)) zr j6 (RL.aS (hg:=(cg aa)) 2 j zr fQ cV (RL.k7 p1.X p0.X1 (cg aa) (iJ aa (vb (decide (p1.X<p0.X1))) (mv (vb (decide (p1.X<p0.X1))) (iz o (fun ab o=>?_) fun ab o=>?_)))))))
  rotate_left
  ·refine cD ab (cD ab (cD ab (cD ab (cD ab (iJ ab (vb false) (mv (vb false) (mI (mI ?_))))))))
   refine mI (mI (mI (RL.pick false (vb false) zr (aN (vb false) (RL.nil ?_)))))
   obtain rfl:=oi o
   exact⟨rfl,j.sp 5 []⟩
  refine RL.iT (hg:=(cg ab)) 3 j zr xh oR fun aj j=>(RL.bQ (hg:=(cg ab)) p1.Y 0 j cV (RL.bF (hg:=(cg ab)) zr j5 (RL.aS (hg:=(cg ab)) 3 j zr fB cV (RL.k7 p1.Y p0.Y0 (cg ab) (iJ ab (vb (decide (p1.Y>=p0.Y0))) (mv (vb (decide (p1.Y>=p0.Y0))) (iz o (fun ad o=>?_) fun ad o=>?_)))))))
  ·refine RL.iT (hg:=(cg ad)) 4 j zr xh oR fun ak j=>(RL.bQ (hg:=(cg ad)) p1.Y 0 j cV (RL.bF (hg:=(cg ad)) zr mK (RL.aS (hg:=(cg ad)) 4 j zr i5 cV (RL.k7 p1.Y p0.Y1 (cg ad) (iJ ad (vb (decide (p1.Y<p0.Y1))) (aN (vb (decide (p1.Y<p0.Y1))) (RL.nil ?_)))))))
   obtain rfl:=oi o
   exact⟨rfl,j.sp 7 []⟩
  refine cD ad (cD ad (cD ad (cD ad (cD ad (iJ ad (vb false) (aN (vb false) (RL.nil ?_)))))))
  obtain rfl:=oi o
  exact⟨rfl,j.sp 6 []⟩
 rintro _ w ⟨O,rfl,j⟩
 refine aJ (RC.ret ?_)
 obtain rfl:=oi hb
 exact cA ⟨rfl,j.drop 0⟩
theorem mP {p0: (List aG)} {p1:iU} {res:Bool} (j:Holds E w V) (h0:V[i0]? =some (rd v0 p0)) (h1:V[i1]? =some (rd v1 p1)) (o:ik N p0 p1=some res):
    Calls bG 104 [v0,v1].toArray w (gF (bD E V res)):=by
 unfold ik at o
 refine enter Tryz.func104 zr zr ?_
 have j:=(j.dup (i0+0) h0).dup (i1+1) h1
 refine RC.sr (RL.cX 0 v1 j zr fun aa w j=>?_)
 have j:=j.ki (i:=0) rfl
 refine aN (vb false) (RL.ns (mv v0 (RL.makeFunc zt zr [(vp aa 0)] zr ?_)))
 obtain⟨ab,ad,o⟩:=bd o
 refine RL.call trivial rfl F9 [v0,(.func (.func 118) #[] #[(vp aa 0)])] rfl (aD (jP N (i0:=2) j rfl ⟨118,[(vp aa 0)],rfl,Gh,fun w Γl v y0 r i j hi hr=>by exact aD (pH N (i0:=i) (i1:=Γl.length+0) j hi (wR rfl) hr) fun _ _ h=>h⟩ ad) ?_)
 rintro _ w ⟨rfl,j⟩
 refine aN (vb ab) (RL.nt (RC.ret ?_))
 obtain rfl:=oi o
 exact cA ⟨rfl,j.drop 3⟩
def lV (E:World) (V:List HP) (b0:Nat) (v0_0 v0_1:Value) (v0_2 v0_3:Value) (v0_4 v0_5:Value) (v0_6 v0_7:Value) (v0_8 v0_9:Value) (v0_10 v0_11:Value) (res:iN×Bool) (v:Value) (w:World):Prop:=∃u0:Value,v = .tuple #[u0,(vb res.2)]/\Holds E w ([rd u0 res.1,bc 73 b0 [v0_0,v0_1,v0_2,v0_3,v0_4,v0_5,v0_6,v0_7,v0_8,v0_9,v0_10,v0_11]]++V)
def lW (E:World) (V:List HP) (b0:Nat) (v0_0 v0_1:Value) (v0_2 v0_3:Value) (v0_4 v0_5:Value) (v0_6 v0_7:Value) (v0_8 v0_9:Value) (v0_10 v0_11:Value) (r:iN×Bool) (U:Nat->Value) (w:World):Prop:=mi bG 66 Tryz.f76 (lV E V b0 v0_0 v0_1 v0_2 v0_3 v0_4 v0_5 v0_6 v0_7 v0_8 v0_9 v0_10 v0_11 r) .ret U w
theorem pI {p0_2: (List bH)} {p0_5: (List aI)} {p1:bW} {res:iN×Bool} (j:Holds E w (bc 73 b0 [v0_0,v0_1,v0_2,v0_3,v0_4,v0_5,v0_6,v0_7,v0_8,v0_9,v0_10,v0_11]::rd v0_2 p0_2::rd v0_5 p0_5::V)) (h1:V[i1]? =some (rd v1 p1)) (o:gR N p0_2 p0_5 p1=some res):
    Calls bG 76 [(vp b0 0),v1].toArray w (gF (lV E V b0 v0_0 v0_1 v0_2 v0_3 v0_4 v0_5 v0_6 v0_7 v0_8 v0_9 v0_10 v0_11 res)):=by
 unfold gR at o
 refine enter Tryz.func76 zr zr ?_
 have j:=j.dup (i1+3) h1
 refine RC.sr (RL.cX 0 v1 j zr fun ah w j=>?_)
 have j:=j.ki (i:=0) rfl
 refine RL.alloc j Cx.z fun ae w j=>?_
 refine aN (vb false) (RL.nq (RC.sr (mv (vp b0 0) (RL.nilCheck zr (RL.bF zr pU (RL.bF zr ma (RL.bK 3 v0_2 j uq (RL.bO 4 p0_2 j vX ?_))))))))
 refine mv (vi 0) (RL.nt ?_)
 obtain⟨bn,hN,o⟩:=bd o
 refine RC.range (fun(af:Nat) (al:Unit)=>SH E V [(0,vp b0 0),(3,vp ah 0),(4,vp ae 0),(14,v0_2),(15,vi p0_2.length),(16,vi af)] [bc 73 b0 [v0_0,v0_1,v0_2,v0_3,v0_4,v0_5,v0_6,v0_7,v0_8,v0_9,v0_10,v0_11],rd v0_2 p0_2,rd v0_5 p0_5,pt (vp ah 0) p1,raw 125 ae 2]) (fun(al:Unit)=>SH E V [(0,vp b0 0),(3,vp ah 0),(4,vp ae 0)] [bc 73 b0 [v0_0,v0_1,v0_2,v0_3,v0_4,v0_5,v0_6,v0_7,v0_8,v0_9,v0_10,v0_11],rd v0_2 p0_2,rd v0_5 p0_5,pt (vp ah 0) p1,raw 125 ae 2]) (lW E V b0 v0_0 v0_1 v0_2 v0_3 v0_4 v0_5 v0_6 v0_7 v0_8 v0_9 v0_10 v0_11) hN ?_ ?_ ?_ ?_ ?_
 ·exact j.sp 6 [3,4,5,1,0]
 ·rintro hm al _ w ⟨O,rfl,j⟩
  refine RC.sr (ic ((p0_2.length:Int)) ((p0_2.length:Int)) (RL.nq (RC.dX px (RC.ex ?_))))
  exact⟨rfl,j.sp 5 [0,1,2,3,4]⟩
 ·rintro hm af al fl _ w hk ⟨O,rfl,j⟩ o
  refine RC.sr (ic ((af:Int)) ((p0_2.length:Int)) (RL.nq (RC.dW (pw hk) (RC.ss (RC.bs (mv (vi af) ?_))))))
  obtain⟨ax,a0,o⟩:=bd o
  refine RL.cQ 1 j xf a0 fun bo j=>(RL.cG 0 ax j mZ fun bp j=>(RL.alloc j zk.z fun bq w j=>?_))
  refine aN (vi af) (RL.aZ 0 j 1 zr mZ fun w j=>?_)
  refine RL.nq ?_
  obtain⟨aq,hj,o⟩:=bd o
  refine RC.jn (fun(aq:Bool)=>SH E V [(0,vp b0 0),(3,vp ah 0),(4,vp ae 0),(6,vi af),(14,v0_2),(15,vi p0_2.length),(16,vi af),(36,vb aq)] [bc 73 b0 [v0_0,v0_1,v0_2,v0_3,v0_4,v0_5,v0_6,v0_7,v0_8,v0_9,v0_10,v0_11],rd v0_2 p0_2,rd v0_5 p0_5,pt (vp ah 0) p1,raw 125 ae 2]) aq ?_ ?_
  ·refine RC.Ah mixed [0,0,0,0,0,0,2,0,0,0,2,2,1,1,2,0] [0,1,2,3,4,5,6,7,8,9,12,13,10,11,14,15] ?_
   have j:=j.drew
   refine DP.e0 zr (RL.bF zr zu (dJ zr (RL.aS 0 j zr tx GO (dJ zr (mv (vb ax.iF) (DP.d0 (iz hj (fun ai hj=>?_) fun ai hj=>?_)))))))
   rotate_left
   ·refine DP.e0 zr (cD ai (dJ zr (cD ai (dJ zr (cD ai (uB zr (cD ai (Ai zr ?_))))))))
    refine iJ ai (vb false) (dJ zr (mv (vb false) (dJ zr (mI (DP.d0 (DP.e1 undef zr (fun w=>mI DP.d1) (DP.e1 undef zr (fun w=>mI DP.d1) (DP.e2 zr ?_))))))))
    refine mI (EN zr (mI (EN zr (mI (Ai zr (RL.pick false (vb false) zr (DP.d0 (DP.z ?_))))))))
    obtain rfl:=oi hj
    exact⟨rfl,j.sp 8 [3,4,5,6,7]⟩
   refine DP.e0 zr (RL.aR (hg:=(cg ai)) (f:=(fun x=>x)) 0 j zr Fd.self mZ fun a1 j=>(dJ zr (RL.iT (hg:=(cg ai)) 7 j zr zp tz fun br j=>(dJ zr (RL.bQ (hg:=(cg ai)) p1.cY 0 j cV (uB zr ?_))))))
   obtain⟨ay,a2,hj⟩:=bd hj
   refine RL.call (cg ai) zr EW [a1,(vi p1.cY)] zr (aD (ln N (p1:=p1.cY) (i0:=1) j zr a2) ?_)
   rintro _ w ⟨rfl,j⟩
   refine Ai zr (iJ ai (vb ay) (dJ zr (mv (vb ay) (DP.d0 (iz hj (fun ab hj=>?_) fun ab hj=>?_)))))
   rotate_left
   ·refine DP.e0 zr (cD ab (DP.d0 (DP.e1 undef zr (fun w=>cD ab DP.d1) (DP.e1 undef zr (fun w=>cD ab DP.d1) (DP.e2 zr (cD ab (EN zr (cD ab ?_))))))))
    refine EN zr (cD ab (Ai zr (iJ ab (vb false) (DP.d0 (DP.z ?_)))))
    obtain rfl:=oi hj
    exact⟨rfl,j.sp 10 [5,6,7,8,9]⟩
   refine DP.e0 zr (RL.aR (hg:=(cg ab)) (f:=(fun x=>x)) 2 j zr Fd.self mZ fun a3 j=>(DP.d0 (DP.Fy 9 zr zr (cg ab) zr j zr zr zq tA fun bt j=>(DP.yr p1.At 0 zr (cg ab) j DL fun a4 a105 bu j=>(DP.e2 zr ?_)))))
   obtain⟨a5,a6,hj⟩:=bd hj
   refine RL.call (cg ab) zr Bf [a3] zr (aD (fY N (i0:=3) j zr a6) ?_)
   rintro a7 w j
   refine DP.d2 (⟨zt,j.lS 1⟩) (DP.e2 zr (RL.fI (hg:=(cg ab)) ([a5]: (List aG)) j [a7] lh nL (fun M hs g=>⟨(g.sat 0 _ zr).1,zt⟩) fun a8 w j=>(DP.d2 (⟨zt,j.lS 2⟩) (DP.e2 zr ?_))))
   have j:=j.freeze 0
   obtain⟨a9,ba,hj⟩:=bd hj
   refine RL.call (cg ab) zr Ej [a8,a4] zr (aD (mP N (i0:=0) (i1:=3) j zr zr ba) ?_)
   rintro _ w ⟨rfl,j⟩
   refine DP.d2 (⟨zt,j.lS 2⟩) (DP.e0 zr (iJ ab (vb a9) (DP.d0 ?_)))
   have j:=j.pl 16 [0,1,3,4,5,6,7,8,9,10,11,12,13,14,15]
   refine DP.z ?_
   obtain rfl:=oi hj
   exact⟨rfl,j.sp 15 [10,11,12,13,14]⟩
  rintro _ w ⟨O,rfl,j⟩
  refine aJ (fZ o (fun hc o=>?_) fun hc o=>?_)
  rotate_left
  ·refine RC.skip (bZ (aJ (RC.region (RL.inc hk hm (mv (vi ((af+1:Nat):Int)) (RL.nil ?_))))))
   obtain rfl:=oi o
   exact⟨rfl,j.sp 5 [0,1,2,3,4]⟩
  refine RC.sr (mv (vi af) ?_)
  have j:=(j.sc Bool true).sc Int (af:Int)
  refine RL.build (⟨true,(af:Int)⟩:iN) trivial rfl j [(0,vb true),(1,vi af)] rfl Cy rfl (fun M hs g=>by have h:=Cl M;exact dR.cons (f:=fun(x:iN) y=>{x with bH:=y}) h Ck (g.sat 1 _ rfl).1 fun _ h=>dR.cons (f:=fun(x:iN) y=>{x with Number:=y}) h yw (g.sat 0 _ rfl).1 fun _ h=>dR.nil h) fun bw j=>?_
  refine RL.aZ 7 j 0 zr sE fun w j=>?_
  refine aN (vb true) (RL.nt (RC.rb (cH ?_)))
  obtain rfl:=oi o
  exact⟨rfl,kV 7 j sE fun bb j=>⟨bb,zr,j.pk 9 [0,4]⟩⟩
 ·intro r U w e hK
  subst e
  refine cH ?_
  obtain rfl:=oi o
  exact hK
 rintro al _ w rfl ⟨O,rfl,j⟩
 rw [Fo.gL] at o
 refine aJ (RC.seq (RC.sr (mv (vp b0 0) (RL.nilCheck zr (RL.bF zr tG (RL.bK 0 v0_5 j Bh (RL.bO 2 p0_5 j DN (mv (vi 0) ?_))))))))
 refine RL.nt ?_
 obtain⟨bx,hN,o⟩:=bd o
 refine RC.range (fun(ag:Nat) (an:Unit)=>SH E V [(0,vp b0 0),(3,vp ah 0),(4,vp ae 0),(43,v0_5),(44,vi p0_5.length),(45,vi ag)] [bc 73 b0 [v0_0,v0_1,v0_2,v0_3,v0_4,v0_5,v0_6,v0_7,v0_8,v0_9,v0_10,v0_11],rd v0_2 p0_2,rd v0_5 p0_5,pt (vp ah 0) p1,raw 125 ae 2]) (fun(an:Unit)=>SH E V [(0,vp b0 0),(4,vp ae 0)] [bc 73 b0 [v0_0,v0_1,v0_2,v0_3,v0_4,v0_5,v0_6,v0_7,v0_8,v0_9,v0_10,v0_11],rd v0_2 p0_2,rd v0_5 p0_5,pt (vp ah 0) p1,raw 125 ae 2]) (lW E V b0 v0_0 v0_1 v0_2 v0_3 v0_4 v0_5 v0_6 v0_7 v0_8 v0_9 v0_10 v0_11) hN ?_ ?_ ?_ ?_ ?_
 ·exact j.sp 5 [0,1,2,3,4]
 ·rintro hm an _ w ⟨O,rfl,j⟩
  refine RC.sr (ic ((p0_5.length:Int)) ((p0_5.length:Int)) (RL.nq (RC.dX px (RC.ex ?_))))
  exact⟨rfl,j.sp 5 [0,1,2,3,4]⟩
 ·rintro hm ag an fl _ w hk ⟨O,rfl,j⟩ o
  refine RC.sr (ic ((ag:Int)) ((p0_5.length:Int)) (RL.nq (RC.dW (pw hk) (RC.ss (RC.bs (mv (vi ag) ?_))))))
  obtain⟨av,bf,o⟩:=bd o
  refine RL.cQ 2 j EY bf fun bz j=>(RL.cG 0 av j Al fun b1 j=>(RL.alloc j Cv.z fun b2 w j=>?_))
  refine aN (vi ag) (RL.aZ 0 j 1 zr Al fun w j=>?_)
  refine RL.nq ?_
  obtain⟨aw,hj,o⟩:=bd o
  refine RC.jn (fun(aw:Bool)=>SH E V [(0,vp b0 0),(3,vp ah 0),(4,vp ae 0),(8,vi ag),(43,v0_5),(44,vi p0_5.length),(45,vi ag),(61,vb aw)] [bc 73 b0 [v0_0,v0_1,v0_2,v0_3,v0_4,v0_5,v0_6,v0_7,v0_8,v0_9,v0_10,v0_11],rd v0_2 p0_2,rd v0_5 p0_5,pt (vp ah 0) p1,raw 125 ae 2]) aw ?_ ?_
  ·refine RC.region (RL.bF zr Am (RL.aS 0 j zr nn cV (RL.iT 6 j zr zp tz fun b3 j=>(RL.bQ p1.cY 0 j cV (ic av.cY p1.cY (mv (vb (av.cY==p1.cY)) (iz hj (fun ad hj=>?_) fun ad hj=>?_)))))))
   rotate_left
   ·refine cD ad (cD ad (cD ad (cD ad (cD ad (iJ ad (vb false) (RL.nil ?_))))))
    obtain rfl:=oi hj
    exact⟨rfl,j.sp 9 [4,5,6,7,8]⟩
   refine RL.bF (hg:=(cg ad)) zr An (RL.aR (hg:=(cg ad)) 1 j zr np pS fun bg j=>(RL.iT (hg:=(cg ad)) 8 j zr zq tA fun b4 j=>(RL.cG (hg:=(cg ad)) 0 p1.At j DL fun bh j=>?_)))
   obtain⟨bj,bk,hj⟩:=bd hj
   refine RL.call (cg ad) zr Ej [bg,bh] zr (aD (mP N (i0:=2) (i1:=0) j zr zr bk) ?_)
   rintro _ w ⟨rfl,j⟩
   refine iJ ad (vb bj) (RL.nil ?_)
   obtain rfl:=oi hj
   exact⟨rfl,j.sp 12 [7,8,9,10,11]⟩
  rintro _ w ⟨O,rfl,j⟩
  refine aJ (fZ o (fun hc o=>?_) fun hc o=>?_)
  rotate_left
  ·refine RC.skip (bZ (aJ (RC.region (RL.inc hk hm (mv (vi ((ag+1:Nat):Int)) (RL.nil ?_))))))
   obtain rfl:=oi o
   exact⟨rfl,j.sp 5 [0,1,2,3,4]⟩
  refine RC.sr (mv (vi ag) ?_)
  have j:=j.sc Int (ag:Int)
  refine RL.build (⟨false,(ag:Int)⟩:iN) trivial rfl j [(1,vi ag)] rfl Cy rfl (fun M hs g=>by have h:=Cl M;exact dR.cons (f:=fun(x:iN) y=>{x with Number:=y}) h yw (g.sat 0 _ rfl).1 fun _ h=>dR.nil h) fun b5 j=>?_
  refine RL.aZ 6 j 0 zr sE fun w j=>?_
  refine aN (vb true) (RL.nt (RC.rb (cH ?_)))
  obtain rfl:=oi o
  exact⟨rfl,kV 6 j sE fun bl j=>⟨bl,zr,j.pk 8 [0,3]⟩⟩
 ·intro r U w e hK
  subst e
  refine cH ?_
  obtain rfl:=oi o
  exact hK
 rintro an _ w rfl ⟨O,rfl,j⟩
 rw [Fo.gL] at o
 refine aJ (RC.sr (RL.build (⟨false,0⟩:iN) trivial rfl j [] rfl Cy rfl (fun M hs g=>by have h:=Cl M;exact dR.nil h) fun b6 j=>?_))
 refine RL.aZ 5 j 0 zr sE fun w j=>?_
 refine aN (vb false) (RL.nt (RC.ret ?_))
 obtain rfl:=oi o
 exact kV 5 j sE fun bm j=>⟨bm,zr,j.pk 7 [0,2]⟩
def m9 (E:World) (V:List HP) (b0:Nat) (v0_0 v0_1:Value) (v0_2 v0_3:Value) (v0_4 v0_5:Value) (v0_6 v0_7:Value) (v0_8 v0_9:Value) (v0_10 v0_11:Value) (res:Int) (v:Value) (w:World):Prop:=v= (vi res)/\Holds E w ([bc 73 b0 [v0_0,v0_1,v0_2,v0_3,v0_4,v0_5,v0_6,v0_7,v0_8,v0_9,v0_10,v0_11]]++V)
theorem mQ {p0_8: (List Int)} {p0_9: (List Int)} {p1:iN} (j:Holds E w (bc 73 b0 [v0_0,v0_1,v0_2,v0_3,v0_4,v0_5,v0_6,v0_7,v0_8,v0_9,v0_10,v0_11]::rd v0_8 p0_8::rd v0_9 p0_9::V)) (h1:V[i1]? =some (rd v1 p1)) (o:fA N p0_8 p0_9 p1=some res):
    Calls bG 77 [(vp b0 0),v1].toArray w (gF (m9 E V b0 v0_0 v0_1 v0_2 v0_3 v0_4 v0_5 v0_6 v0_7 v0_8 v0_9 v0_10 v0_11 res)):=by
 unfold fA at o
 refine enter Tryz.func77 zr zr ?_
 have j:=j.dup (i1+3) h1
 refine RC.sr (RL.cX 0 v1 j zr fun ag w j=>?_)
 refine aN (vi 0) (RL.nq (RC.sr (RL.bF zr DO (RL.aS 0 j zr Cj GO (RL.nt (fZ o (fun hc o=>?_) fun hc o=>?_))))))
 ·refine RC.seq (RC.xR mixed ?_)
  have j:=j.drew
  refine RO.go (mv (vp b0 0) (RO.nx (RL.nilCheck zr (RO.nx (RL.bF zr xl (RO.nx (RL.bK 2 v0_9 j fw (RO.nx ?_))))))))
  refine RL.bF zr Ao (RO.nx (RL.aS 0 j zr yv cV (RO.nx ?_)))
  obtain⟨aa,ae,o⟩:=bd o
  refine RL.cQ 4 j fx ae fun ah j=>(RO.nx (RL.bQ aa 0 j cV (RO.nx (aN (vi aa) (RO.last (aJ (RC.rt ?_)))))))
  obtain rfl:=oi o
  exact cA ⟨rfl,j.pk 6 [3]⟩
 refine RC.ss (RC.xR mixed ?_)
 have j:=j.drew
 refine RO.go (mv (vp b0 0) (RO.nx (RL.nilCheck zr (RO.nx (RL.bF zr zw (RO.nx (RL.bK 2 v0_8 j fw (RO.nx ?_))))))))
 refine RL.bF zr Ao (RO.nx (RL.aS 0 j zr yv cV (RO.nx ?_)))
 obtain⟨ab,af,o⟩:=bd o
 refine RL.cQ 3 j fx af fun ai j=>(RO.nx (RL.bQ ab 0 j cV (RO.nx (aN (vi ab) (RO.last (aJ (RC.ret ?_)))))))
 obtain rfl:=oi o
 exact cA ⟨rfl,j.pk 6 [3]⟩
end Go.Gk
