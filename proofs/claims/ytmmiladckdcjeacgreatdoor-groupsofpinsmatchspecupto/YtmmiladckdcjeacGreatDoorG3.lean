/-
  Printed texts: Go functions as plain functions, and that they are. No statement of the seed is proved here.
-/
import Derived.Test.YtmmiladckdcjeacGreatDoorG1
import Derived.Test.YtmmiladckdcjeacGreatDoorG2
import Derived.Test.YtmmiladckdcjeacGreatDoorA2
set_option linter.unusedVariables false
set_option linter.unusedSimpArgs false
set_option linter.unusedSectionVars false
set_option maxRecDepth 100000
set_option maxHeartbeats 4000000
namespace Go.Gk
open Go Go.Proofs
variable (N:Nat) {E w:World} {b0 b1 i0 i1:Nat} {p0 p1 p2 res:Int} {v0 v0_0 v0_1 v0_10 v0_11 v0_2 v0_3 v0_4 v0_5 v0_6 v0_7 v0_8 v0_9 v1 v1_0 v2:Value} {V:List HP}
theorem oL {p0:bZ} {res:Bool} (j:Holds E w V) (h0:V[i0]? =some (rd v0 p0)) (hb:ld N p0 p1=some res):
    Calls bN 47 [v0,(vi p1)].toArray w (gL (aX E V res)):=by
 unfold ld at hb
 refine enter Tryz.func47 zr zr ?_
 have j:=j.dup (i0+0) h0
 refine RC.sr (RL.cS 0 v0 j zr fun o w j=>?_)
 refine aQ (vb false) (RL.ns (RL.aY zr pL (RL.aM 0 j zr kA cI (mv (vi p1) (ic p0.cO p1 (mv (vb (decide (p0.cO<=p1))) (RL.gs true (decide (p0.cO<=p1)) (vi p1) zr zr zr cK (RL.gs true (decide (p0.cO<=p1)) (vp o 4) zr zr zr (eA rK) ?_))))))))
 refine RL.gs true (decide (p0.cO<=p1)) (vi p0.To) rfl rfl rfl (cB 0 rfl j (fun h=>by exact(cM h:cv (true&&((decide (p0.cO<=p1))==true)) (vp o 4)= (vp o 4))) rfl l4 cI) (RL.gs true (decide (p0.cO<=p1)) (vb (decide (p1<=p0.To))) rfl rfl rfl (dK .leq .i64 p1 p0.To rfl (fun h=>by exact(cM h:cv (true&&((decide (p0.cO<=p1))==true)) (vi p1)= (vi p1))) (fun h=>by exact(cM h:cv (true&&((decide (p0.cO<=p1))==true)) (vi p0.To)= (vi p0.To))) rfl) (RL.pick (decide (p0.cO<=p1)) (vb ((decide (p0.cO<=p1))&&(decide (p1<=p0.To)))) (gD true rfl) (aQ (vb ((decide (p0.cO<=p1))&&(decide (p1<=p0.To)))) (RL.nt (RC.ret ?_)))))
 obtain rfl:=oi hb
 exact bX ⟨rfl,j.drop 2⟩
def Ab (E:World) (V:List HP) (res: (List Int)×Int) (v:Value) (w:World):Prop:=∃u0:Value,v = .tuple #[u0,(vi res.2)]/\Holds E w ([rd u0 res.1]++V)
theorem tR {p0: (List aA)} {res: (List Int)×Int} (j:Holds E w V) (h0:V[i0]? =some (rd v0 p0)) (o:m7 N p0 p1 p2=some res):
    Calls bN 117 [v0,(vi p1),(vi p2)].toArray w (gL (Ab E V res)):=by
 unfold m7 at o
 refine enter Tryz.func117 zr zr ?_
 have j:=j.dup (i0+0) h0
 refine RC.sr (aQ (.slice none 0 0) (aQ (vi 0) (RL.nq (RC.bs (mv v0 (RL.bF 0 p0 j vA (ic ((p0.length:Int)) 0 (aQ (vb ((p0.length:Int)==0)) ?_))))))))
 refine RL.nt (dQ o (fun hc o=>?_) fun hc o=>?_)
 ·refine RC.sr (mv (vi p2) (aQ (.slice none 0 0) (aQ (vi p2) (RL.nt (RC.rb (bS ?_))))))
  obtain rfl:=oi o
  have j:=j.x6 Int
  exact wQ ⟨(.slice none 0 0),zr,j.pk 2 [0]⟩
 refine RC.sr (mv (vi p1) (mv v0 ?_))
 obtain⟨ae,ag,o⟩:=bd o
 refine RL.bP 0 j pK ag fun al j=>(RL.dP 0 j zr pW g8 fun an j=>(RL.bE ae.Y0 0 j cI (ic p1 ae.Y0 (aQ (vb (decide (p1<ae.Y0))) (RL.nt (dQ o (fun hc o=>?_) fun hc o=>?_))))))
 ·refine RC.seq (RC.yN mixed ?_)
  have j:=j.drew
  refine RO.go (mv (vi p2) (RO.nx (mv v0 (RO.nx ?_))))
  obtain⟨aa,ah,o⟩:=bd o
  refine RL.bP 2 j pK ah fun ao j=>(RO.nx (RL.dP 0 j zr pW g8 fun aq j=>(RO.nx (RL.bE aa.Y0 0 j cI (RO.nx (RL.min p2 aa.Y0 (RO.nx (aQ (.slice none 0 0) ?_))))))))
  refine RO.nx (aQ (vi (if aa.Y0<p2 then aa.Y0 else p2)) (RO.last (aH (RC.rb (bS ?_)))))
  obtain rfl:=oi o
  have j:=j.x6 Int
  exact wQ ⟨(.slice none 0 0),zr,j.pk 6 [0]⟩
 refine RC.skip (bQ (aH (RC.seq (RC.yN mixed ?_))))
 have j:=j.drew
 refine RO.go (mv v0 (RO.nx ?_))
 obtain⟨ai,aj,o⟩:=bd o
 refine RL.bP 2 j pK aj fun ar j=>(RO.nx (RL.dP 0 j zr mg eB fun au j=>(RO.nx (RL.bJ 0 ai.Xs j fu fun af j=>(RO.nx (mv (vi p2) (RO.nx (mv v0 ?_))))))))
 refine RO.nx ?_
 obtain⟨ab,ak,o⟩:=bd o
 refine RL.bP 5 j pK ak fun av j=>(RO.nx (RL.dP 0 j zr nJ fM fun aw j=>(RO.nx (RL.bE ab.Y1 0 j cI (RO.nx (RL.min p2 ab.Y1 (RO.nx (aQ af ?_))))))))
 refine RO.nx (aQ (vi (if ab.Y1<p2 then ab.Y1 else p2)) (RO.last (aH (RC.ret ?_))))
 obtain rfl:=oi o
 exact wQ ⟨af,zr,j.pk 8 [2]⟩
theorem Bl {p0: (List Int)} {p1: (List Int)} {p2:Bool->Bool->Option Bool} {res: (List Int)} (j:Holds E w V) (h0:V[i0]? =some (rd v0 p0)) (h1:V[i1]? =some (rd v1 p1)) (h2:JJ bN E V v2 p2 (fun(r:Bool)=>Value.bool r)) (hb:qx N p0 p1 p2=some res):
    Calls bN 118 [v0,v1,v2].toArray w (gL (mD E V res)):=by
 unfold qx at hb
 refine enter Tryz.func118 zr zr ?_
 have j:=(j.dup (i0+0) h0).dup (i1+1) h1
 refine RC.sr (aQ (.slice none 0 0) (RL.ns (aQ (.slice none 0 0) (RL.ns (aQ (vb false) (aQ (vb false) (aQ (vb false) (RL.nq ?_))))))))
 obtain⟨bu,hN,hb⟩:=bd hb
 refine RC.iter (fun(o: (List Int)×(List Int)×(List Int)×Bool×Bool×Bool) U w=>∃a7 a8 a9:Value,SH E V [(0,a7),(1,a8),(2,v2),(7,a9),(8,vb o.2.2.2.1),(9,vb o.2.2.2.2.1),(10,vb o.2.2.2.2.2)] [rd a7 o.1,rd a8 o.2.1,own 3 a9 o.2.2.1] U w) (fun(o: (List Int)×(List Int)×(List Int)×Bool×Bool×Bool) U w=>∃av:Value,SH E V [(7,av)] [own 3 av o.2.2.1] U w) (fun(r:Empty) _ _=>r.elim) hN ?_ ?_ ?_ ?_
 ·have j:=j.cW Int 3
  exact⟨v0,v1,(.slice none 0 0),j.sp 3 [2,1,0]⟩
 ·rintro o fl _ w ⟨ah,ad,ae,O,rfl,j⟩ hb
  refine RC.seq (RC.seq ?_)
  obtain⟨a1,hj,hb⟩:=bd hb
  refine RC.jn (fun(a1:Bool)=>SH E V [(0,ah),(1,ad),(2,v2),(7,ae),(8,vb o.2.2.2.1),(9,vb o.2.2.2.2.1),(10,vb o.2.2.2.2.2),(20,vb a1)] [rd ah o.1,rd ad o.2.1,own 3 ae o.2.2.1]) a1 ?_ ?_
  ·refine RC.region (mv ah (RL.bF 0 o.1 j mn (ic ((o.1.length:Int)) 0 (mv (vb (decide ((o.1.length:Int)>0))) (eZ hj (fun ao hj=>?_) fun ao hj=>?_)))))
   ·refine bC ao (bC ao (bC ao (fq ao (vb true) (RL.nil ?_))))
    obtain rfl:=oi hj
    exact⟨rfl,j.sp 3 [0,1,2]⟩
   refine RL.move ad (cg ao) (RL.bF (hg:=(cg ao)) 1 o.2.1 j mn (RL.kX (o.2.1.length:Int) 0 (cg ao) (fq ao (vb (decide ((o.2.1.length:Int)>0))) (RL.nil ?_))))
   obtain rfl:=oi hj
   exact⟨rfl,j.sp 3 [0,1,2]⟩
  rintro _ w ⟨O,rfl,j⟩
  refine aH (dQ hb (fun hc hb=>?_) fun hc hb=>?_)
  rotate_left
  ·refine RC.ex ?_
   obtain rfl:=oi hb
   exact⟨rfl,ae,j.sp 3 [2]⟩
  refine RC.sn (RC.bs (aQ (vi 0) (RL.nq (RC.seq ?_))))
  obtain⟨a2,hj,hb⟩:=bd hb
  refine RC.jn (fun(a2:Bool)=>SH E V [(0,ah),(1,ad),(2,v2),(7,ae),(8,vb o.2.2.2.1),(9,vb o.2.2.2.2.1),(10,vb o.2.2.2.2.2),(37,vb a2)] [rd ah o.1,rd ad o.2.1,own 3 ae o.2.2.1]) a2 ?_ ?_
  ·refine RC.yN mixed ?_
   have j:=j.drew
   refine RO.go (mv ad (RO.nx (RL.bF 1 o.2.1 j mn (RO.nx (ic ((o.2.1.length:Int)) 0 (RO.nx (mv (vb ((o.2.1.length:Int)==0)) (eZ hj (fun ai hj=>?_) fun ai hj=>?_))))))))
   ·refine RO.nx (bC ai (RO.nx (bC ai (RO.nx (bC ai (RO.nx (bC ai (RO.nx ?_))))))))
    refine w7 (RO.nx (w7 (RO.nx (w7 (RO.nx (w7 (RO.nx (w7 ?_))))))))
    refine RO.nx (w7 (RO.nx (w7 (RO.nx (bC ai (RO.nx (fq ai (vb true) (RO.last ?_))))))))
    obtain rfl:=oi hj
    exact⟨rfl,j.sp 3 [0,1,2]⟩
   refine RO.nx (RL.move ah (cg ai) (RO.nx (RL.bF (hg:=(cg ai)) 0 o.1 j mn (RO.nx (RL.kX (o.1.length:Int) 0 (cg ai) (RO.nx (RL.move (vb (decide ((o.1.length:Int)>0))) (cg ai) (eZ hj (fun af hj=>?_) fun af hj=>?_))))))))
   rotate_left
   ·refine RO.nx (bC af (RO.nx (bC af (RO.nx (bC af (RO.nx (bC af (RO.nx ?_))))))))
    refine bC af (RO.nx (bC af (RO.nx (bC af (RO.nx (fq af (vb false) (hg:=(cg ai)) (RO.nx (fq ai (vb false) ?_))))))))
    refine RO.last ?_
    obtain rfl:=oi hj
    exact⟨rfl,j.sp 3 [0,1,2]⟩
   refine RO.nx (RL.move ah (cg af) (RO.nx ?_))
   obtain⟨ax,bj,hj⟩:=bd hj
   refine RL.bP (hg:=(cg af)) 0 j eC bj fun bx j=>(RO.nx (RL.bE (hg:=(cg af)) ax 0 j cI (RO.nx (RL.move ad (cg af) (RO.nx ?_)))))
   obtain⟨ay,bk,hj⟩:=bd hj
   refine RL.bP (hg:=(cg af)) 2 j eC bk fun bz j=>(RO.nx (RL.bE (hg:=(cg af)) ay 0 j cI (RO.nx (RL.kX ax ay (cg af) (RO.nx (fq af (vb (decide (ax<=ay))) (hg:=(cg ai)) (RO.nx (fq ai (vb (decide (ax<=ay))) ?_))))))))
   refine RO.last ?_
   obtain rfl:=oi hj
   exact⟨rfl,j.sp 5 [2,3,4]⟩
  rintro _ w ⟨O,rfl,j⟩
  refine aH ?_
  obtain⟨ag,hj,hb⟩:=bd hb
  refine RC.jn (fun(ag:Int)=>SH E V [(0,ah),(1,ad),(2,v2),(7,ae),(8,vb o.2.2.2.1),(9,vb o.2.2.2.2.1),(10,vb o.2.2.2.2.2),(11,vi ag)] [rd ah o.1,rd ad o.2.1,own 3 ae o.2.2.1]) ag ?_ ?_
  ·refine dQ hj (fun hc hj=>?_) fun hc hj=>?_
   ·refine RC.region (mv ah ?_)
    obtain⟨ba,bl,hj⟩:=bd hj
    refine RL.bP 0 j eC bl fun b0 j=>(RL.bE ba 0 j cI (aQ (vi ba) (RL.nil ?_)))
    obtain rfl:=oi hj
    exact⟨rfl,j.sp 4 [1,2,3]⟩
   refine RC.region (mv ad ?_)
   obtain⟨bb,bm,hj⟩:=bd hj
   refine RL.bP 1 j eC bm fun b1 j=>(RL.bE bb 0 j cI (aQ (vi bb) (RL.nil ?_)))
   obtain rfl:=oi hj
   exact⟨rfl,j.sp 4 [1,2,3]⟩
  rintro _ w ⟨O,rfl,j⟩
  refine aH (RC.seq (RC.seq ?_))
  obtain⟨a3,hj,hb⟩:=bd hb
  refine RC.jn (fun(a3:Bool)=>SH E V [(0,ah),(1,ad),(2,v2),(7,ae),(8,vb o.2.2.2.1),(9,vb o.2.2.2.2.1),(10,vb o.2.2.2.2.2),(11,vi ag),(53,vb a3)] [rd ah o.1,rd ad o.2.1,own 3 ae o.2.2.1]) a3 ?_ ?_
  ·refine RC.region (mv ah (RL.bF 0 o.1 j mn (ic ((o.1.length:Int)) 0 (mv (vb (decide ((o.1.length:Int)>0))) (eZ hj (fun aj hj=>?_) fun aj hj=>?_)))))
   rotate_left
   ·refine bC aj (bC aj (bC aj (bC aj (bC aj (fq aj (vb false) (RL.nil ?_))))))
    obtain rfl:=oi hj
    exact⟨rfl,j.sp 3 [0,1,2]⟩
   refine RL.move ah (cg aj) ?_
   obtain⟨a4,bn,hj⟩:=bd hj
   refine RL.bP (hg:=(cg aj)) 0 j eC bn fun b2 j=>(RL.bE (hg:=(cg aj)) a4 0 j cI (RL.move (vi ag) (cg aj) (RL.kX a4 ag (cg aj) (fq aj (vb (a4==ag)) (RL.nil ?_)))))
   obtain rfl:=oi hj
   exact⟨rfl,j.sp 4 [1,2,3]⟩
  rintro _ w ⟨O,rfl,j⟩
  refine aH ?_
  obtain⟨al,hj,hb⟩:=bd hb
  refine RC.jn (fun(al: (List Int)×Bool) U w=>∃an:Value,SH E V [(0,an),(1,ad),(2,v2),(7,ae),(8,vb al.2),(9,vb o.2.2.2.2.1),(10,vb o.2.2.2.2.2),(11,vi ag)] [rd ad o.2.1,own 3 ae o.2.2.1,rd an al.1] U w) al ?_ ?_
  ·refine dQ hj (fun hc hj=>?_) fun hc hj=>?_
   rotate_left
   ·refine RC.skip ?_
    obtain rfl:=oi hj
    exact⟨rfl,ah,j.sp 3 [1,2,0]⟩
   refine RC.region (mv ah ?_)
   obtain⟨b3,bo,hj⟩:=bd hj
   refine RL.cut 0 j eC (.inr ⟨rfl,zr⟩) bo fun bc j=>(mv (vb o.2.2.2.1) (RL.not o.2.2.2.1 (aQ bc (aQ (vb (!o.2.2.2.1)) (RL.nil ?_)))))
   obtain rfl:=oi hj
   exact⟨rfl,bc,j.sp 4 [2,3,0]⟩
  rintro _ w ⟨an,O,rfl,j⟩
  refine aH (RC.seq (RC.seq ?_))
  obtain⟨a5,hj,hb⟩:=bd hb
  refine RC.jn (fun(a5:Bool)=>SH E V [(0,an),(1,ad),(2,v2),(7,ae),(8,vb al.2),(9,vb o.2.2.2.2.1),(10,vb o.2.2.2.2.2),(11,vi ag),(67,vb a5)] [rd an al.1,rd ad o.2.1,own 3 ae o.2.2.1]) a5 ?_ ?_
  ·refine RC.region (mv ad (RL.bF 0 o.2.1 j mn (ic ((o.2.1.length:Int)) 0 (mv (vb (decide ((o.2.1.length:Int)>0))) (eZ hj (fun ak hj=>?_) fun ak hj=>?_)))))
   rotate_left
   ·refine bC ak (bC ak (bC ak (bC ak (bC ak (fq ak (vb false) (RL.nil ?_))))))
    obtain rfl:=oi hj
    exact⟨rfl,j.sp 3 [2,0,1]⟩
   refine RL.move ad (cg ak) ?_
   obtain⟨a6,bp,hj⟩:=bd hj
   refine RL.bP (hg:=(cg ak)) 0 j eC bp fun b4 j=>(RL.bE (hg:=(cg ak)) a6 0 j cI (RL.move (vi ag) (cg ak) (RL.kX a6 ag (cg ak) (fq ak (vb (a6==ag)) (RL.nil ?_)))))
   obtain rfl:=oi hj
   exact⟨rfl,j.sp 4 [3,1,2]⟩
  rintro _ w ⟨O,rfl,j⟩
  refine aH ?_
  obtain⟨ar,hj,hb⟩:=bd hb
  refine RC.jn (fun(ar: (List Int)×Bool) U w=>∃au:Value,SH E V [(0,an),(1,au),(2,v2),(7,ae),(8,vb al.2),(9,vb ar.2),(10,vb o.2.2.2.2.2),(11,vi ag)] [rd an al.1,own 3 ae o.2.2.1,rd au ar.1] U w) ar ?_ ?_
  ·refine dQ hj (fun hc hj=>?_) fun hc hj=>?_
   rotate_left
   ·refine RC.skip ?_
    obtain rfl:=oi hj
    exact⟨rfl,ad,j.sp 3 [0,2,1]⟩
   refine RC.region (mv ad ?_)
   obtain⟨b5,bq,hj⟩:=bd hj
   refine RL.cut 1 j eC (.inr ⟨rfl,zr⟩) bq fun bf j=>(mv (vb o.2.2.2.2.1) (RL.not o.2.2.2.2.1 (aQ bf (aQ (vb (!o.2.2.2.2.1)) (RL.nil ?_)))))
   obtain rfl:=oi hj
   exact⟨rfl,bf,j.sp 4 [1,3,0]⟩
  rintro _ w ⟨au,O,rfl,j⟩
  refine aH (RC.sr (mv v2 (mv (vb al.2) (mv (vb ar.2) ?_))))
  have j:=(j.sc Bool al.2).sc Bool ar.2
  obtain⟨aw,br,hb⟩:=bd hb
  refine RL.Ep 1 0 zt zr j zr h2 5 zr zr zr zr zr br fun w j=>(aQ (vb aw) (RL.ns (mv (vb aw) (mv (vb o.2.2.2.2.2) (RL.Ip (a:=aw) (b:=o.2.2.2.2.2) zt zr zr zr Nq (RL.nt ?_))))))
  obtain⟨az,hj,hb⟩:=bd hb
  refine RC.jn (fun(az: (List Int)×Bool) U w=>∃a0:Value,SH E V [(0,an),(1,au),(2,v2),(7,a0),(8,vb al.2),(9,vb ar.2),(10,vb az.2)] [rd an al.1,rd au ar.1,own 3 a0 az.1] U w) az ?_ ?_
  ·refine dQ hj (fun hc hj=>?_) fun hc hj=>?_
   rotate_left
   ·refine RC.skip ?_
    obtain rfl:=oi hj
    exact⟨rfl,ae,j.sp 5 [2,4,3]⟩
   refine RC.region (mv ae (mv (vi ag) ?_))
   have j:=j.sc Int ag
   refine RL.dY ([ag]: (List Int)) j [(vi ag)] eC CI (fun M hs g=>⟨(g.sat 0 _ zr).1,zt⟩) fun b6 w j=>?_
   have j:=j.freeze 0
   obtain⟨b7,bt,hj⟩:=bd hj
   refine RL.app 5 0 j q7 bt fun bg w j=>?_
   refine mv (vb aw) (aQ bg (aQ (vb aw) (RL.nil ?_)))
   obtain rfl:=oi hj
   exact⟨rfl,bg,j.sp 7 [4,6,5]⟩
  rintro _ w ⟨a0,O,rfl,j⟩
  refine bQ ?_
  obtain rfl:=oi hb
  exact⟨rfl,an,au,a0,j.sp 3 [0,1,2]⟩
 ·intro r _ _ _ _
  exact r.elim
 rintro o _ w rfl ⟨av,O,rfl,j⟩
 rw [Fo.dB] at hb
 refine aH (RC.sr (mv av (aQ av (RL.nt (RC.ret ?_)))))
 obtain rfl:=oi hb
 exact bX (j.pk 1 [0])
theorem Ac {p0: (List aA)} {p1: (List aA)} {p2:Bool->Bool->Option Bool} {res: (List aA)} (j:Holds E w V) (h0:V[i0]? =some (rd v0 p0)) (h1:V[i1]? =some (rd v1 p1)) (h2:JJ bN E V v2 p2 (fun(r:Bool)=>Value.bool r)) (o:pf N p0 p1 p2=some res):
    Calls bN 87 [v0,v1,v2].toArray w (gL (m9 E V res)):=by
 unfold pf at o
 refine enter Tryz.func87 zr zr ?_
 have j:=(j.dup (i0+0) h0).dup (i1+1) h1
 refine RC.sr (aQ (.slice none 0 0) (RL.ns (aQ (.slice none 0 0) (RL.nq (RC.sr (mv v0 (RL.bF 1 p0 j vA (mv v1 ?_))))))))
 refine RL.bF 0 p1 j vA (RL.fY (p0.length:Int) (p1.length:Int) (ic ((IntKind.wrap .i64 ((p0.length:Int)+ (p1.length:Int)))) 0 (RL.nt (dQ o (fun hc o=>?_) fun hc o=>?_))))
 ·refine RC.sr (aQ (.slice none 0 0) (RL.nt (RC.rt ?_)))
  obtain rfl:=oi o
  have j:=j.cW aA 124
  exact bX (j.pk 3 [0])
 refine RC.sx (aQ (vi 0) (aQ (vi 0) (RL.nq (RC.sr (mv v0 (mv v1 (RL.dY ([p0,p1]: (List (List aA))) j [v0,v1] Hi JX (fun M hs g=>⟨(g.sat 1 _ zr).1,⟨(g.sat 0 _ zr).1,zt⟩⟩) fun ar w j=>(RL.fZ 0 ([p0,p1]: (List (List aA))) j K4 ?_))))))))
 refine mv (vi 0) (RL.nt ?_)
 obtain⟨ad,hN,o⟩:=bd o
 refine RC.fold (fun(aj:Nat) (ad:Int×Int)=>SH E V [(0,v0),(1,v1),(2,v2),(7,(.slice none 0 0)),(8,vi ad.1),(9,vi ad.2),(25,ar),(26,(vi ((([p0,p1]: (List (List aA))).length:Nat):Int))),(27,vi aj)] [rd v0 p0,rd v1 p1,own 85 ar ([p0,p1]: (List (List aA)))]) (fun(ad:Int×Int)=>SH E V [(0,v0),(1,v1),(2,v2),(7,(.slice none 0 0)),(8,vi ad.1),(9,vi ad.2)] [rd v0 p0,rd v1 p1,own 85 ar ([p0,p1]: (List (List aA)))]) hN ?_ ?_ ?_ ?_
 ·exact j.sp 3 [2,1,0]
 ·rintro hm ad _ w ⟨O,rfl,j⟩
  refine RC.sr (ic (((([p0,p1]: (List (List aA))).length:Nat):Int)) (((([p0,p1]: (List (List aA))).length:Nat):Int)) (RL.nq (RC.gk ue (RC.ex ?_))))
  exact⟨rfl,j.sp 3 [0,1,2]⟩
 ·rintro hm aj ad s' _ w hk ⟨O,rfl,j⟩ o
  refine RC.sr (ic ((aj:Int)) (((([p0,p1]: (List (List aA))).length:Nat):Int)) (RL.nq (RC.gj (ud hk) (RC.ss (RC.bs (mv (vi aj) ?_))))))
  obtain⟨aw,a8,o⟩:=bd o
  refine RL.bV 2 j zr zr Hi a8 (RL.kF (f:=(fun x=>x)) 2 j (jF 2 j a8 0) (bH a8).2.1 Fd.self K5 fun ak j=>?_)
  refine aQ (vi aj) (aQ ak (RL.ns (mv ak (RL.bF 0 aw j vA (ic ((aw.length:Int)) 0 (RL.nt ?_))))))
  obtain⟨a5,hj,o⟩:=bd o
  refine RC.jn (fun(a5:Int×Int)=>SH E V [(0,v0),(1,v1),(2,v2),(7,(.slice none 0 0)),(8,vi a5.1),(9,vi a5.2),(25,ar),(26,(vi ((([p0,p1]: (List (List aA))).length:Nat):Int))),(27,vi aj)] [rd v0 p0,rd v1 p1,own 85 ar ([p0,p1]: (List (List aA)))]) a5 ?_ ?_
  ·refine dQ hj (fun hc hj=>?_) fun hc hj=>?_
   rotate_left
   ·refine RC.skip ?_
    obtain rfl:=oi hj
    exact⟨rfl,j.sp 4 [1,2,3]⟩
   refine RC.seq (RC.seq ?_)
   obtain⟨a9,hjj,hj⟩:=bd hj
   refine RC.jn (fun(a9:Bool)=>SH E V [(0,v0),(1,v1),(2,v2),(7,(.slice none 0 0)),(8,vi ad.1),(9,vi ad.2),(11,ak),(25,ar),(26,(vi ((([p0,p1]: (List (List aA))).length:Nat):Int))),(27,vi aj),(41,vb a9)] [rd v0 p0,rd v1 p1,rd ak aw,own 85 ar ([p0,p1]: (List (List aA)))]) a9 ?_ ?_
   ·refine RC.region (mv (vi aj) (ic ((aj:Int)) 0 (mv (vb ((aj:Int)==0)) (eZ hjj (fun au hjj=>?_) fun au hjj=>?_))))
    ·refine bC au (bC au (bC au (fq au (vb true) (RL.nil ?_))))
     obtain rfl:=oi hjj
     exact⟨rfl,j.sp 4 [1,2,0,3]⟩
    refine RL.move v0 (cg au) (RL.bF (hg:=(cg au)) 1 p0 j vA (RL.kX (p0.length:Int) 0 (cg au) (fq au (vb ((p0.length:Int)==0)) (RL.nil ?_))))
    obtain rfl:=oi hjj
    exact⟨rfl,j.sp 4 [1,2,0,3]⟩
   rintro _ w ⟨O,rfl,j⟩
   refine aH ?_
   obtain⟨al,hjj,hj⟩:=bd hj
   refine RC.jn (fun(al:Int×Int)=>SH E V [(0,v0),(1,v1),(2,v2),(7,(.slice none 0 0)),(8,vi al.1),(9,vi al.2),(11,ak),(25,ar),(26,(vi ((([p0,p1]: (List (List aA))).length:Nat):Int))),(27,vi aj)] [rd v0 p0,rd v1 p1,rd ak aw,own 85 ar ([p0,p1]: (List (List aA)))]) al ?_ ?_
   ·refine dQ hjj (fun hc hjj=>?_) fun hc hjj=>?_
    rotate_left
    ·refine RC.skip ?_
     obtain rfl:=oi hjj
     exact⟨rfl,j.sp 4 [0,1,2,3]⟩
    refine RC.yN mixed ?_
    have j:=j.drew
    refine RO.go (mv ak (RO.nx ?_))
    obtain⟨bj,bw,hjj⟩:=bd hjj
    refine RL.bP 2 j pK bw fun cd j=>(RO.nx (RL.dP 0 j zr pW g8 fun cf j=>(RO.nx (RL.bE bj.Y0 0 j cI (RO.nx (mv ak (RO.nx (mv ak ?_))))))))
    refine RO.nx (RL.bF 4 aw j vA (RO.nx (RL.fY (aw.length:Int) 1 (RO.nx ?_))))
    obtain⟨bk,bx,hjj⟩:=bd hjj
    refine RL.bP 4 j pK bx fun ch j=>(RO.nx (RL.dP 0 j zr nJ fM fun cj j=>(RO.nx (RL.bE bk.Y1 0 j cI (RO.nx (aQ (vi bj.Y0) (RO.nx (aQ (vi bk.Y1) ?_))))))))
    refine RO.last ?_
    obtain rfl:=oi hjj
    exact⟨rfl,j.sp 8 [4,5,6,7]⟩
   rintro _ w ⟨O,rfl,j⟩
   refine aH (RC.yN mixed ?_)
   have j:=j.drew
   refine RO.go (mv (vi al.1) (RO.nx (mv ak (RO.nx ?_))))
   obtain⟨a6,bz,hj⟩:=bd hj
   refine RL.bP 2 j pK bz fun ck j=>(RO.nx (RL.dP 0 j zr pW g8 fun cl j=>(RO.nx (RL.bE a6.Y0 0 j cI (RO.nx (RL.min al.1 a6.Y0 (RO.nx (mv (vi al.2) ?_))))))))
   refine RO.nx (mv ak (RO.nx (mv ak (RO.nx (RL.bF 4 aw j vA (RO.nx (RL.fY (aw.length:Int) 1 (RO.nx ?_))))))))
   obtain⟨a7,b0,hj⟩:=bd hj
   refine RL.bP 4 j pK b0 fun cm j=>(RO.nx (RL.dP 0 j zr nJ fM fun cn j=>(RO.nx (RL.bE a7.Y1 0 j cI (RO.nx (RL.max al.2 a7.Y1 (RO.nx (aQ (vi (if a6.Y0<al.1 then a6.Y0 else al.1)) ?_))))))))
   refine RO.nx (aQ (vi (if al.2<a7.Y1 then a7.Y1 else al.2)) (RO.last ?_))
   obtain rfl:=oi hj
   exact⟨rfl,j.sp 8 [4,5,7]⟩
  rintro _ w ⟨O,rfl,j⟩
  refine bQ (aH (RC.region (RL.inc hk hm (mv (vi ((aj+1:Nat):Int)) (RL.nil ?_)))))
  obtain rfl:=oi o
  exact⟨rfl,j.sp 3 [0,1,2]⟩
 rintro _ w ⟨O,rfl,j⟩
 refine aH (RC.seq ?_)
 obtain⟨cp,hN,o⟩:=bd o
 refine RC.iter (fun(aa: (List aA)×(List aA)×(List aA)×Int) U w=>∃bl bm bn:Value,SH E V [(0,bl),(1,bm),(2,v2),(7,bn),(8,vi aa.2.2.2),(9,vi ad.2)] [rd bl aa.1,rd bm aa.2.1,own 124 bn aa.2.2.1] U w) (fun(aa: (List aA)×(List aA)×(List aA)×Int) U w=>∃a2:Value,SH E V [(7,a2)] [own 124 a2 aa.2.2.1] U w) (fun(r:Empty) _ _=>r.elim) hN ?_ ?_ ?_ ?_
 ·have j:=j.cW aA 124
  exact⟨v0,v1,(.slice none 0 0),j.sp 4 [1,2,0]⟩
 ·rintro aa fl _ w ⟨b1,ay,ag,O,rfl,j⟩ o
  refine RC.seq (RC.sr (mv (vi aa.2.2.2) (mv (vi ad.2) (ic aa.2.2.2 ad.2 (RL.nt (dQ o (fun hc o=>?_) fun hc o=>?_))))))
  rotate_left
  ·refine RC.ex ?_
   obtain rfl:=oi o
   exact⟨rfl,ag,j.sp 3 [2]⟩
  refine RC.sn (RC.block (RC.seq ?_))
  obtain⟨cq,hN,o⟩:=bd o
  refine RC.iter (fun(an: (List aA)) U w=>∃bp:Value,SH E V [(0,bp),(1,ay),(2,v2),(7,ag),(8,vi aa.2.2.2),(9,vi ad.2)] [rd ay aa.2.1,own 124 ag aa.2.2.1,rd bp an] U w) (fun(an: (List aA)) U w=>∃ao:Value,SH E V [(0,ao),(1,ay),(2,v2),(7,ag),(8,vi aa.2.2.2),(9,vi ad.2)] [rd ay aa.2.1,own 124 ag aa.2.2.1,rd ao an] U w) (fun(r:Empty) _ _=>r.elim) hN ?_ ?_ ?_ ?_
  ·exact⟨b1,j.sp 3 [1,2,0]⟩
  ·rintro an fl _ w ⟨az,O,rfl,j⟩ o
   refine RC.seq (RC.seq ?_)
   obtain⟨ba,hj,o⟩:=bd o
   refine RC.jn (fun(ba:Bool)=>SH E V [(0,az),(1,ay),(2,v2),(7,ag),(8,vi aa.2.2.2),(9,vi ad.2),(82,vb ba)] [rd az an,rd ay aa.2.1,own 124 ag aa.2.2.1]) ba ?_ ?_
   ·refine RC.region (mv az (RL.bF 2 an j vA (ic ((an.length:Int)) 0 (mv (vb (decide ((an.length:Int)>0))) (eZ hj (fun ah hj=>?_) fun ah hj=>?_)))))
    rotate_left
    ·refine bC ah (bC ah (bC ah (bC ah (bC ah (bC ah (fq ah (vb false) (RL.nil ?_)))))))
     obtain rfl:=oi hj
     exact⟨rfl,j.sp 3 [2,0,1]⟩
    refine RL.move az (cg ah) ?_
    obtain⟨bb,b2,hj⟩:=bd hj
    refine RL.bP (hg:=(cg ah)) 2 j pK b2 fun cr j=>(RL.dP (hg:=(cg ah)) 0 j zr nJ fM fun ct j=>(RL.bE (hg:=(cg ah)) bb.Y1 0 j cI (RL.move (vi aa.2.2.2) (cg ah) (RL.kX bb.Y1 aa.2.2.2 (cg ah) (fq ah (vb (decide (bb.Y1<=aa.2.2.2))) (RL.nil ?_))))))
    obtain rfl:=oi hj
    exact⟨rfl,j.sp 5 [4,2,3]⟩
   rintro _ w ⟨O,rfl,j⟩
   refine aH (dQ o (fun hc o=>?_) fun hc o=>?_)
   rotate_left
   ·refine RC.ex ?_
    obtain rfl:=oi o
    exact⟨rfl,az,j.sp 3 [1,2,0]⟩
   refine RC.sn (RC.block (RC.region (mv az ?_)))
   obtain⟨cu,b3,o⟩:=bd o
   refine RL.cut 0 j pK (.inr ⟨rfl,zr⟩) b3 fun bq j=>(aQ bq (RL.nil (bQ ?_)))
   obtain rfl:=oi o
   exact⟨rfl,bq,j.sp 4 [2,3,0]⟩
  ·intro r _ _ _ _
   exact r.elim
  rintro an _ w rfl ⟨ao,O,rfl,j⟩
  rw [Fo.dB] at o
  refine aH (RC.seq ?_)
  obtain⟨cv,hN,o⟩:=bd o
  refine RC.iter (fun(av: (List aA)) U w=>∃br:Value,SH E V [(0,ao),(1,br),(2,v2),(7,ag),(8,vi aa.2.2.2),(9,vi ad.2)] [rd ao an,own 124 ag aa.2.2.1,rd br av] U w) (fun(av: (List aA)) U w=>∃a0:Value,SH E V [(0,ao),(1,a0),(2,v2),(7,ag),(8,vi aa.2.2.2),(9,vi ad.2)] [rd ao an,own 124 ag aa.2.2.1,rd a0 av] U w) (fun(r:Empty) _ _=>r.elim) hN ?_ ?_ ?_ ?_
  ·exact⟨ay,j.sp 3 [2,1,0]⟩
  ·rintro av fl _ w ⟨a1,O,rfl,j⟩ o
   refine RC.seq (RC.seq ?_)
   obtain⟨bc,hj,o⟩:=bd o
   refine RC.jn (fun(bc:Bool)=>SH E V [(0,ao),(1,a1),(2,v2),(7,ag),(8,vi aa.2.2.2),(9,vi ad.2),(95,vb bc)] [rd ao an,rd a1 av,own 124 ag aa.2.2.1]) bc ?_ ?_
   ·refine RC.region (mv a1 (RL.bF 2 av j vA (ic ((av.length:Int)) 0 (mv (vb (decide ((av.length:Int)>0))) (eZ hj (fun ai hj=>?_) fun ai hj=>?_)))))
    rotate_left
    ·refine bC ai (bC ai (bC ai (bC ai (bC ai (bC ai (fq ai (vb false) (RL.nil ?_)))))))
     obtain rfl:=oi hj
     exact⟨rfl,j.sp 3 [0,2,1]⟩
    refine RL.move a1 (cg ai) ?_
    obtain⟨bf,b4,hj⟩:=bd hj
    refine RL.bP (hg:=(cg ai)) 2 j pK b4 fun cw j=>(RL.dP (hg:=(cg ai)) 0 j zr nJ fM fun cx j=>(RL.bE (hg:=(cg ai)) bf.Y1 0 j cI (RL.move (vi aa.2.2.2) (cg ai) (RL.kX bf.Y1 aa.2.2.2 (cg ai) (fq ai (vb (decide (bf.Y1<=aa.2.2.2))) (RL.nil ?_))))))
    obtain rfl:=oi hj
    exact⟨rfl,j.sp 5 [2,4,3]⟩
   rintro _ w ⟨O,rfl,j⟩
   refine aH (dQ o (fun hc o=>?_) fun hc o=>?_)
   rotate_left
   ·refine RC.ex ?_
    obtain rfl:=oi o
    exact⟨rfl,a1,j.sp 3 [0,2,1]⟩
   refine RC.sn (RC.block (RC.region (mv a1 ?_)))
   obtain⟨cy,b5,o⟩:=bd o
   refine RL.cut 1 j pK (.inr ⟨rfl,zr⟩) b5 fun bt j=>(aQ bt (RL.nil (bQ ?_)))
   obtain rfl:=oi o
   exact⟨rfl,bt,j.sp 4 [1,3,0]⟩
  ·intro r _ _ _ _
   exact r.elim
  rintro av _ w rfl ⟨a0,O,rfl,j⟩
  rw [Fo.dB] at o
  refine aH (RC.sr (mv ao (mv (vi aa.2.2.2) (mv (vi ad.2) ?_))))
  obtain⟨ae,b6,o⟩:=bd o
  refine RL.call zt zr Jg [ao,(vi aa.2.2.2),(vi ad.2)] zr (aD (tR N (p1:=aa.2.2.2) (p2:=ad.2) (i0:=0) j zr b6) ?_)
  rintro _ w ⟨a3,rfl,j⟩
  refine mv (.tuple #[a3,(vi ae.2)]) (RL.extract a3 (RL.extract (vi ae.2) (aQ a3 (aQ (vi ae.2) (RL.ns (mv a0 (mv (vi aa.2.2.2) (mv (vi ad.2) ?_))))))))
  obtain⟨af,b7,o⟩:=bd o
  refine RL.call zt zr Jg [a0,(vi aa.2.2.2),(vi ad.2)] zr (aD (tR N (p1:=aa.2.2.2) (p2:=ad.2) (i0:=3) j zr b7) ?_)
  rintro _ w ⟨a4,rfl,j⟩
  refine mv (.tuple #[a4,(vi af.2)]) (RL.extract a4 (RL.extract (vi af.2) (aQ a4 (aQ (vi af.2) (RL.ns (mv (vi ae.2) (mv (vi af.2) (RL.min ae.2 af.2 ?_))))))))
  refine aQ (vi (if af.2<ae.2 then af.2 else ae.2)) (RL.ns (mv ag (mv (vi aa.2.2.2) (mv (vi (if af.2<ae.2 then af.2 else ae.2)) (mv a3 (mv a4 (mv v2 ?_)))))))
  obtain⟨b8,b9,o⟩:=bd o
  refine RL.call zt zr K6 [a3,a4,v2] zr (aD (Bl N (i0:=1) (i1:=0) j zr zr (h2.lift 5 zr) b9) ?_)
  rintro ca w j
  have j:=((j.sc Int aa.2.2.2).sc Int (if af.2<ae.2 then af.2 else ae.2)).freeze 2
  refine RL.build (⟨aa.2.2.2,(if af.2<ae.2 then af.2 else ae.2),b8⟩:aA) trivial rfl j [(0,vi aa.2.2.2),(1,(vi (if af.2<ae.2 then af.2 else ae.2))),(2,ca)] rfl Jc rfl (fun M hs g=>by have h:=xh M;exact cU.cons (f:=fun(x:aA) y=>{x with Y0:=y}) h tO (g.sat 1 _ rfl).1 fun _ h=>cU.cons (f:=fun(x:aA) y=>{x with Y1:=y}) h pI (g.sat 0 _ rfl).1 fun _ h=>cU.cons (f:=fun(x:aA) y=>{x with Xs:=y}) h tP (g.sat 2 _ rfl).1 fun _ h=>cU.nil h) fun cb j=>?_
  have j:=j.pull 7
  obtain⟨cz,cc,o⟩:=bd o
  refine RL.call zt zr KN [ag,cb] zr (aD (rA N (i1:=0) j zr cc) ?_)
  rintro bu w j
  refine aQ bu (RL.nt (RC.region (mv (vi (if af.2<ae.2 then af.2 else ae.2)) (aQ (vi (if af.2<ae.2 then af.2 else ae.2)) (RL.nil (bQ ?_))))))
  obtain rfl:=oi o
  exact⟨rfl,ao,a0,bu,j.sp 10 [7,9,0]⟩
 ·intro r _ _ _ _
  exact r.elim
 rintro aa _ w rfl ⟨a2,O,rfl,j⟩
 rw [Fo.dB] at o
 refine aH (RC.sr (mv a2 (aQ a2 (RL.nt (RC.ret ?_)))))
 obtain rfl:=oi o
 exact bX (j.pk 1 [0])
theorem uJ {p0 p1 res:Bool} (o:Holds E w V) (j:oD N p0 p1=some res):
    Calls bN 88 [(vb p0),(vb p1)].toArray w (gL (aX E V res)):=by
 unfold oD at j
 refine enter Tryz.func88 rfl rfl (RC.sr (aQ (vb false) (RL.ns (mv (vb p0) (mv (vb p0) (RL.gs true p0 (vb p1) rfl rfl rfl cK (RL.gs true p0 (vb (!p1)) rfl rfl rfl (GV p1 rfl (fun h=>by exact(cM h:cv (true&&(p0==true)) (vb p1)= (vb p1)))) (RL.pick p0 (vb (p0&&(!p1))) (gD true rfl) ?_))))))))
 refine aQ (vb (p0&&(!p1))) (RL.nt (RC.ret ?_))
 obtain rfl:=oi j
 exact bX ⟨rfl,o.drop 0⟩
theorem xv {p0: (List aA)} {p1: (List aA)} {res: (List aA)} (o:Holds E w V) (h0:V[i0]? =some (rd v0 p0)) (h1:V[i1]? =some (rd v1 p1)) (hb:lf N p0 p1=some res):
    Calls bN 48 [v0,v1].toArray w (gL (m9 E V res)):=by
 unfold lf at hb
 refine enter Tryz.func48 zr zr ?_
 have o:=(o.dup (i0+0) h0).dup (i1+1) h1
 refine RC.sr (aQ (.slice none 0 0) (RL.ns (mv v0 (mv v1 ?_))))
 obtain⟨af,ab,hb⟩:=bd hb
 refine RL.call trivial rfl Mu [v0,v1,(.func (.func 88) #[] #[])] rfl (aD (Ac N (i0:=1) (i1:=0) o rfl rfl ⟨88,[],rfl,Mt,fun w Γl v v' y0 y1 r i j o hi hj hr=>by obtain rfl:=o.CO (γ:=Bool) hi;obtain rfl:=o.CO (γ:=Bool) hj;exact aD (uJ N (p0:=y0) (p1:=y1) o hr) fun _ _ h=>h⟩ ab) ?_)
 rintro ae w o
 refine aQ ae (RL.nt (RC.ret ?_))
 obtain rfl:=oi hb
 exact bX (o.pk 3 [0])
theorem xw {p0: (List aA)} (j:Holds E w V) (h0:V[i0]? =some (rd v0 p0)) (hb:mz N p0=some res):
    Calls bN 49 [v0].toArray w (gL (aU E V res)):=by
 unfold mz at hb
 refine enter Tryz.func49 zr zr ?_
 have j:=j.dup (i0+0) h0
 refine RC.sr (aQ (vi 0) (RL.ns (aQ (vi 0) (RL.nq (RC.sr (mv v0 (RL.bF 0 p0 j vA (mv (vi 0) ?_))))))))
 refine RL.nt ?_
 obtain⟨o,hN,hb⟩:=bd hb
 refine RC.fold (fun(ad:Nat) (o:Int)=>SH E V [(3,vi o),(6,v0),(7,vi p0.length),(8,vi ad)] [rd v0 p0]) (fun(o:Int)=>SH E V [(3,vi o)] [rd v0 p0]) hN ?_ ?_ ?_ ?_
 ·exact j.sp 1 [0]
 ·rintro hm o _ w ⟨O,rfl,j⟩
  refine RC.sr (ic ((p0.length:Int)) ((p0.length:Int)) (RL.nq (RC.gk ue (RC.ex ?_))))
  exact⟨rfl,j.sp 1 [0]⟩
 ·rintro hm ad o s' _ w hk ⟨O,rfl,j⟩ hb
  refine RC.sr (ic ((ad:Int)) ((p0.length:Int)) (RL.nq (RC.gj (ud hk) (RC.ss (RC.bs ?_)))))
  obtain⟨ab,ah,hb⟩:=bd hb
  refine RL.bP 0 j pK ah fun ai j=>(RL.bJ 0 ab j xl fun aj j=>(RL.alloc j Dl.z fun ak w j=>?_))
  refine RL.cC 0 j 1 zr xl fun w j=>?_
  refine RL.nt (RC.region (mv (vi o) (RL.aY zr mg (RL.bB 0 j zr eB fu fun al j=>(RL.bF 0 ab.Xs j mn (RL.quo (ab.Xs.length:Int) 2 (RL.fY o (IntKind.wrap .i64 (Int.tdiv (ab.Xs.length:Int) 2)) (aQ (vi (IntKind.wrap .i64 (o+ (IntKind.wrap .i64 (Int.tdiv (ab.Xs.length:Int) 2))))) ?_))))))))
  refine RL.nil (bQ (aH (RC.region (RL.inc hk hm (mv (vi ((ad+1:Nat):Int)) (RL.nil ?_))))))
  obtain rfl:=oi hb
  exact⟨rfl,j.sp 5 [4]⟩
 rintro _ w ⟨O,rfl,j⟩
 refine aH (RC.sr (mv (vi o) (aQ (vi o) (RL.nt (RC.ret ?_)))))
 obtain rfl:=oi hb
 exact bX ⟨rfl,j.drop 1⟩
def uK (E:World) (V:List HP) (b1:Nat) (res:Int×(List Int)) (v:Value) (w:World):Prop:=∃u1_0:Value,v= (vi res.1)/\Holds E w ([bc 43 b1 [u1_0],own 3 u1_0 res.2]++V)
theorem mb {p1_0: (List Int)} {res:Int×(List Int)} (j:Holds E w (bc 43 b1 [v1_0]::own 3 v1_0 p1_0::V)) (o:fJ N p0 p1_0=some res):
    Calls bN 89 [(vi p0),(vp b1 0)].toArray w (gL (uK E V b1 res)):=by
 unfold fJ at o
 refine enter Tryz.func89 zr zr (RC.sr (aQ (vi 0) (RL.nq ?_)))
 obtain⟨an,hN,o⟩:=bd o
 refine RC.iter (fun(aa:Int×(List Int))=>SH E V [(0,vi aa.1),(1,vp b1 0)] [bc 43 b1 [v1_0],own 3 v1_0 aa.2]) (fun(aa:Int×(List Int))=>SH E V [(0,vi aa.1),(1,vp b1 0)] [bc 43 b1 [v1_0],own 3 v1_0 aa.2]) (fun(r:Empty) _ _=>r.elim) hN ?_ ?_ ?_ ?_
 ·exact j.sp 2 [0,1]
 ·rintro aa fl _ w ⟨O,rfl,j⟩ o
  refine RC.seq (RC.sr (RL.bK 0 v1_0 j fu (mv (vi aa.1) ?_)))
  obtain⟨ai,ab,o⟩:=bd o
  refine RL.bV 1 j zr zr eC ab (RL.dH (f:=(fun x=>x)) 1 j (jF 1 j ab 0) (bH ab).2.1 Fd.self cI (mv (vi aa.1) (ic ai aa.1 (RL.nt (dQ o (fun hc o=>?_) fun hc o=>?_)))))
  rotate_left
  ·refine RC.ex ?_
   obtain rfl:=oi o
   exact⟨rfl,j.sp 2 [0,1]⟩
  refine RC.sn (RC.block (RC.seq (RC.ug mixed [0,0,0,0,0,0,0,0,0,0,2] [0,1,2,3,4,5,6,7,8,9,10] ?_)))
  have j:=j.drew
  refine DP.e0 zr (RL.bK 0 v1_0 j fu (aW zr (mv (vi aa.1) (aW zr (RL.bK 0 v1_0 j fu (aW zr (RL.bK 0 v1_0 j fu (aW zr ?_))))))))
  refine mv (vi aa.1) (aW zr ?_)
  obtain⟨aq,ad,o⟩:=bd o
  refine RL.bV 1 j zr zr eC ad (aW zr (RL.dH (f:=(fun x=>x)) 1 j (jF 1 j ad 0) (bH ad).2.1 Fd.self cI (aW zr ?_)))
  obtain⟨ak,ae,o⟩:=bd o
  refine RL.bV 1 j zr zr eC ae (aW zr (RL.dH (f:=(fun x=>x)) 1 j (jF 1 j ae 0) (bH ae).2.1 Fd.self cI (aW zr ?_)))
  obtain⟨ar,af,o⟩:=bd o
  refine RL.bV 1 j zr zr eC af (ou zr ?_)
  have j:=j.sc Int ak
  refine RL.gI (f:=(fun _ y=>y)) 2 0 j (jF 2 j af 0) (bH af).2.1 zr Fs.self cI fun w j=>?_
  refine DP.d2 zt (DP.z (aH (RC.region (RL.bK 1 v1_0 j fu (mv (vi aa.1) ?_)))))
  obtain⟨al,ag,o⟩:=bd o
  refine RL.bV 2 j zr zr eC ag (RL.dH (f:=(fun x=>x)) 2 j (jF 2 j ag 0) (bH ag).2.1 Fd.self cI (aQ (vi al) (RL.nil (bQ ?_))))
  obtain rfl:=oi o
  exact⟨rfl,j.sp 3 [1,2]⟩
 ·intro r _ _ _ _
  exact r.elim
 rintro aa _ w rfl ⟨O,rfl,j⟩
 rw [Fo.dB] at o
 refine aH (RC.sr (mv (vi aa.1) (aQ (vi aa.1) (RL.nt (RC.ret ?_)))))
 obtain rfl:=oi o
 exact bX ⟨v1_0,zr,j.pk 2 [0,1]⟩
def xx (E:World) (V:List HP) (res: (List (List aA))) (v:Value) (w:World):Prop:=Holds E w ([own 85 v res]++V)
theorem wC {p0: (List aA)} {res: (List (List aA))} (o:Holds E w V) (h0:V[i0]? =some (rd v0 p0)) (hb:lO N p0=some res):
    Calls bN 50 [v0].toArray w (gL (xx E V res)):=by
 unfold lO at hb
 refine enter Tryz.func50 zr zr ?_
 have o:=o.dup (i0+0) h0
 refine RC.sr (aQ (.slice none 0 0) (RL.ns (mv v0 ?_)))
 obtain⟨aq,c7,hb⟩:=bd hb
 refine RL.call zt zr JU [v0] zr (aD (nS N (i0:=0) o zr c7) ?_)
 rintro ah w o
 refine aQ ah (RL.ns (mv ah (RL.fZ 0 aq o nk ?_)))
 obtain⟨bn,c8,hb⟩:=bd hb
 refine RL.mk (aq.length:Int) o q7 KJ c8 fun ba w o=>?_
 refine RL.uo zr o KI zr fun ag w o=>?_
 refine RL.iu 0 ba o zr zr (iO 1 o) fu fun w o=>?_
 refine RL.nq (RC.sr (RL.bK 0 ba o fu (RL.fZ 1 bn o mn (mv (vi 0) (RL.nt ?_)))))
 obtain⟨bk,hN,hb⟩:=bd hb
 refine RC.fold (fun(a8:Nat) (bk: (List Int))=>SH E V [(0,v0),(3,ah),(4,vp ag 0),(32,vi bn.length),(33,vi a8)] [rd v0 p0,own 56 ah aq,bc 43 ag [ba],own 3 ba bk]) (fun(bk: (List Int))=>SH E V [(0,v0),(3,ah),(4,vp ag 0)] [rd v0 p0,own 56 ah aq,bc 43 ag [ba],own 3 ba bk]) hN ?_ ?_ ?_ ?_
 ·exact o.sp 4 [3,2,0,1]
 ·rintro hm bk _ w ⟨O,rfl,o⟩
  refine RC.sr (ic ((bn.length:Int)) ((bn.length:Int)) (RL.nq (RC.gk ue (RC.ex ?_))))
  exact⟨rfl,o.sp 4 [0,1,2,3]⟩
 ·rintro hm a8 bk s' _ w hk ⟨O,rfl,o⟩ hb
  refine RC.sr (ic ((a8:Int)) ((bn.length:Int)) (RL.nq (RC.gj (ud hk) (RC.ss (RC.bs (mv (vi a8) (aQ (vi a8) (RL.nt ?_))))))))
  refine RC.region (RL.bK 2 ba o fu (mv (vi a8) (mv (vi a8) ?_)))
  obtain⟨du,cb,hb⟩:=bd hb
  refine RL.bV 3 o zr zr eC cb ?_
  have o:=o.sc Int (a8:Int)
  refine RL.gI (f:=(fun _ y=>y)) 4 0 o (jF 4 o cb 0) (bH cb).2.1 zr Fs.self cI fun w o=>?_
  refine RL.nil (bQ (aH (RC.region (RL.inc hk hm (mv (vi ((a8+1:Nat):Int)) (RL.nil ?_))))))
  obtain rfl:=oi hb
  exact⟨rfl,o.sp 5 [1,2,3,4]⟩
 rintro _ w ⟨O,rfl,o⟩
 refine aH (RC.sr (RL.makeFunc zt zr [(vp ag 0)] zr (aQ (.func (.func 89) #[] #[(vp ag 0)]) (RL.ns (aQ (vi 0) (aQ (vi 0) (RL.nq (RC.sr ?_))))))))
 refine mv v0 (RL.bF 0 p0 o vA (mv (vi 0) (RL.nt ?_)))
 obtain⟨ad,hN,hb⟩:=bd hb
 refine RC.fold (fun(ay:Nat) (ad: (List Int)×Int×Int) U w=>∃ct:Value,SH E V [(0,v0),(3,ah),(4,vp ag 0),(6,(.func (.func 89) #[] #[(vp ag 0)])),(7,vi ad.2.1),(8,vi ad.2.2),(42,v0),(43,vi p0.length),(44,vi ay)] [rd v0 p0,own 56 ah aq,bc 43 ag [ct],own 3 ct ad.1] U w) (fun(ad: (List Int)×Int×Int) U w=>∃br:Value,SH E V [(3,ah),(6,(.func (.func 89) #[] #[(vp ag 0)]))] [rd v0 p0,own 56 ah aq,bc 43 ag [br],own 3 br ad.1] U w) hN ?_ ?_ ?_ ?_
 ·exact⟨ba,o.sp 4 [0,1,2,3]⟩
 ·rintro hm ad _ w ⟨c9,O,rfl,o⟩
  refine RC.sr (ic ((p0.length:Int)) ((p0.length:Int)) (RL.nq (RC.gk ue (RC.ex ?_))))
  exact⟨rfl,c9,o.sp 4 [0,1,2,3]⟩
 ·rintro hm ay ad s' _ w hk ⟨bt,O,rfl,o⟩ hb
  refine RC.sr (ic ((ay:Int)) ((p0.length:Int)) (RL.nq (RC.gj (ud hk) (RC.ss (RC.bs (mv (vi ay) ?_))))))
  obtain⟨an,da,hb⟩:=bd hb
  refine RL.bP 0 o pK da fun dv o=>(RL.bJ 0 an o xl fun dw o=>(RL.alloc o Dl.z fun dx w o=>?_))
  refine aQ (vi ay) (RL.cC 0 o 1 zr xl fun w o=>?_)
  refine RL.ns (RL.aY zr mg (RL.bB 0 o zr eB fu fun dy o=>(RL.bF 0 an.Xs o mn (RL.quo (an.Xs.length:Int) 2 (aQ (vi (IntKind.wrap .i64 (Int.tdiv (an.Xs.length:Int) 2))) (RL.nq (RC.seq ?_)))))))
  obtain⟨cc,hj,hb⟩:=bd hb
  refine RC.jn (fun(cc:Bool)=>SH E V [(0,v0),(3,ah),(4,vp ag 0),(6,(.func (.func 89) #[] #[(vp ag 0)])),(7,vi ad.2.1),(8,vi ad.2.2),(11,(vi (IntKind.wrap .i64 (Int.tdiv (an.Xs.length:Int) 2)))),(42,v0),(43,vi p0.length),(44,vi ay),(65,vb cc)] [rd v0 p0,own 56 ah aq,bc 43 ag [bt],own 3 bt ad.1]) cc ?_ ?_
  ·refine RC.yN mixed ?_
   have o:=o.drew
   refine RO.go (mv (vi ay) (RO.nx (ic ((ay:Int)) 0 (RO.nx (mv (vb (decide ((ay:Int)>0))) (eZ hj (fun aw hj=>?_) fun aw hj=>?_))))))
   rotate_left
   ·refine RO.nx (bC aw (RO.nx (bC aw (RO.nx (bC aw (RO.nx (bC aw (RO.nx ?_))))))))
    refine bC aw (RO.nx (bC aw (RO.nx (bC aw (RO.nx (bC aw (RO.nx (bC aw ?_))))))))
    refine RO.nx (fq aw (vb false) (RO.last ?_))
    obtain rfl:=oi hj
    exact⟨rfl,o.sp 8 [4,5,6,7]⟩
   refine RO.nx (RL.move v0 (cg aw) (RO.nx (RL.move (vi ay) (cg aw) (RO.nx (RL.fY (hg:=(cg aw)) (ay:Int) 1 (RO.nx ?_))))))
   obtain⟨cd,db,hj⟩:=bd hj
   refine RL.bP (hg:=(cg aw)) 4 o pK db fun dz o=>(RO.nx (RL.dP (hg:=(cg aw)) 0 o zr nJ fM fun d0 o=>(RO.nx (RL.bE (hg:=(cg aw)) cd.Y1 0 o cI (RO.nx (RL.aY (hg:=(cg aw)) zr pW (RO.nx (RL.aM (hg:=(cg aw)) 3 o zr g8 cI ?_))))))))
   refine RO.nx (RL.kX cd.Y1 an.Y0 (cg aw) (RO.nx (fq aw (vb (cd.Y1==an.Y0)) (RO.last ?_))))
   obtain rfl:=oi hj
   exact⟨rfl,o.sp 10 [6,7,8,9]⟩
  rintro _ w ⟨O,rfl,o⟩
  refine aH ?_
  obtain⟨cf,hj,hb⟩:=bd hb
  refine RC.jn (fun(cf: (List Int)) U w=>∃bu:Value,SH E V [(0,v0),(3,ah),(4,vp ag 0),(6,(.func (.func 89) #[] #[(vp ag 0)])),(7,vi ad.2.1),(11,(vi (IntKind.wrap .i64 (Int.tdiv (an.Xs.length:Int) 2)))),(42,v0),(43,vi p0.length),(44,vi ay)] [rd v0 p0,own 56 ah aq,bc 43 ag [bu],own 3 bu cf] U w) cf ?_ ?_
  ·refine dQ hj (fun hc hj=>?_) fun hc hj=>?_
   rotate_left
   ·refine RC.skip ?_
    obtain rfl:=oi hj
    exact⟨rfl,bt,o.sp 4 [0,1,2,3]⟩
   refine RC.sr (mv (vi ad.2.2) (mv (vi ad.2.1) (aQ (vi ad.2.2) (aQ (vi ad.2.1) (RL.nt ?_)))))
   obtain⟨d3,hN,hj⟩:=bd hj
   refine RC.iter (fun(ae: (List Int)×Int×Int) U w=>∃cu:Value,SH E V [(0,v0),(3,ah),(4,vp ag 0),(6,(.func (.func 89) #[] #[(vp ag 0)])),(7,vi ad.2.1),(11,(vi (IntKind.wrap .i64 (Int.tdiv (an.Xs.length:Int) 2)))),(12,vi ae.2.1),(13,vi ae.2.2),(42,v0),(43,vi p0.length),(44,vi ay)] [rd v0 p0,own 56 ah aq,bc 43 ag [cu],own 3 cu ae.1] U w) (fun(ae: (List Int)×Int×Int) U w=>∃bw:Value,SH E V [(0,v0),(3,ah),(4,vp ag 0),(6,(.func (.func 89) #[] #[(vp ag 0)])),(7,vi ad.2.1),(11,(vi (IntKind.wrap .i64 (Int.tdiv (an.Xs.length:Int) 2)))),(42,v0),(43,vi p0.length),(44,vi ay)] [rd v0 p0,own 56 ah aq,bc 43 ag [bw],own 3 bw ae.1] U w) (fun(r:Empty) _ _=>r.elim) hN ?_ ?_ ?_ ?_
   ·exact⟨bt,o.sp 4 [0,1,2,3]⟩
   ·rintro ae fl _ w ⟨bz,O,rfl,o⟩ hb
    refine RC.seq (RC.sr (mv (vi ae.2.1) (mv (vi ad.2.1) (ic ae.2.1 ad.2.1 (mv (vb (decide (ae.2.1<ad.2.1))) (RL.gs true (decide (ae.2.1<ad.2.1)) (vi ae.2.2) zr zr zr cK (RL.gs true (decide (ae.2.1<ad.2.1)) (vi ad.2.1) zr zr zr cK (RL.gs true (decide (ae.2.1<ad.2.1)) (vi (IntKind.wrap .i64 (Int.tdiv (an.Xs.length:Int) 2))) zr zr zr cK ?_))))))))
    refine RL.gs true (decide (ae.2.1<ad.2.1)) (vi (IntKind.wrap .i64 (ad.2.1+ (IntKind.wrap .i64 (Int.tdiv (an.Xs.length:Int) 2))))) rfl rfl rfl (JH (bop:= .add) (K:= .i64) (a:=ad.2.1) (b:=(IntKind.wrap .i64 (Int.tdiv (an.Xs.length:Int) 2))) rfl (fun h=>by exact(cM h:cv (true&&((decide (ae.2.1<ad.2.1))==true)) (vi ad.2.1)= (vi ad.2.1))) (fun h=>by exact(cM h:cv (true&&((decide (ae.2.1<ad.2.1))==true)) (vi (IntKind.wrap .i64 (Int.tdiv (an.Xs.length:Int) 2)))= (vi (IntKind.wrap .i64 (Int.tdiv (an.Xs.length:Int) 2))))) rfl) (RL.gs true (decide (ae.2.1<ad.2.1)) (vb (decide (ae.2.2< (IntKind.wrap .i64 (ad.2.1+ (IntKind.wrap .i64 (Int.tdiv (an.Xs.length:Int) 2))))))) rfl rfl rfl (dK .lss .i64 ae.2.2 (IntKind.wrap .i64 (ad.2.1+ (IntKind.wrap .i64 (Int.tdiv (an.Xs.length:Int) 2)))) rfl (fun h=>by exact(cM h:cv (true&&((decide (ae.2.1<ad.2.1))==true)) (vi ae.2.2)= (vi ae.2.2))) (fun h=>by exact(cM h:cv (true&&((decide (ae.2.1<ad.2.1))==true)) (vi (IntKind.wrap .i64 (ad.2.1+ (IntKind.wrap .i64 (Int.tdiv (an.Xs.length:Int) 2)))))= (vi (IntKind.wrap .i64 (ad.2.1+ (IntKind.wrap .i64 (Int.tdiv (an.Xs.length:Int) 2))))))) rfl) (RL.pick (decide (ae.2.1<ad.2.1)) (vb ((decide (ae.2.1<ad.2.1))&&(decide (ae.2.2< (IntKind.wrap .i64 (ad.2.1+ (IntKind.wrap .i64 (Int.tdiv (an.Xs.length:Int) 2)))))))) (gD true rfl) (RL.nt (dQ hb (fun hc hb=>?_) fun hc hb=>?_))))
    rotate_left
    ·refine RC.ex ?_
     obtain rfl:=oi hb
     exact⟨rfl,bz,o.sp 4 [0,1,2,3]⟩
    refine RC.sn (RC.block (RC.seq (RC.seq ?_)))
    obtain⟨ch,hj,hb⟩:=bd hb
    refine RC.jn (fun(ch:Bool)=>SH E V [(0,v0),(3,ah),(4,vp ag 0),(6,(.func (.func 89) #[] #[(vp ag 0)])),(7,vi ad.2.1),(11,(vi (IntKind.wrap .i64 (Int.tdiv (an.Xs.length:Int) 2)))),(12,vi ae.2.1),(13,vi ae.2.2),(42,v0),(43,vi p0.length),(44,vi ay),(101,vb ch)] [rd v0 p0,own 56 ah aq,bc 43 ag [bz],own 3 bz ae.1]) ch ?_ ?_
    ·refine RC.yN mixed ?_
     have o:=o.drew
     refine RO.go (mv ah (RO.nx (mv (vi ae.2.1) (RO.nx ?_))))
     obtain⟨cw,b0,hj⟩:=bd hj
     refine RL.bV 1 o zr zr jh b0 (RO.nx (RL.k7 (α:=aI) zt (jF 1 o b0 0) ij (RO.nx (RL.dH 1 o (jF 1 o b0 0) (bH b0).2.1 dM cI (RO.nx (mv ah (RO.nx (mv (vi ae.2.2) ?_))))))))
     refine RO.nx ?_
     obtain⟨cx,b1,hj⟩:=bd hj
     refine RL.bV 1 o zr zr jh b1 (RO.nx (RL.k7 (α:=aI) zt (jF 1 o b1 0) ji (RO.nx (RL.dH 1 o (jF 1 o b1 2) (bH b1).2.1 eF cI (RO.nx (ic cw.X0 cx.X1 (RO.nx (mv (vb (decide (cw.X0<cx.X1))) ?_))))))))
     refine eZ hj (fun ao hj=>?_) fun ao hj=>?_
     rotate_left
     ·refine RO.nx (bC ao (RO.nx (bC ao (RO.nx (bC ao (RO.nx (bC ao (RO.nx ?_))))))))
      refine bC ao (RO.nx (bC ao (RO.nx (bC ao (RO.nx (bC ao (RO.nx (bC ao ?_))))))))
      refine RO.nx (bC ao (RO.nx (bC ao (RO.nx (fq ao (vb false) (RO.last ?_))))))
      obtain rfl:=oi hj
      exact⟨rfl,o.sp 4 [0,1,2,3]⟩
     refine RO.nx (RL.move ah (cg ao) (RO.nx (RL.move (vi ae.2.2) (cg ao) (RO.nx ?_))))
     obtain⟨cy,b2,hj⟩:=bd hj
     refine RL.bV (hg:=(cg ao)) 1 o zr zr jh b2 (RO.nx (RL.k7 (α:=aI) (cg ao) (jF 1 o b2 0) ij (RO.nx (RL.dH (hg:=(cg ao)) 1 o (jF 1 o b2 0) (bH b2).2.1 dM cI (RO.nx (RL.move ah (cg ao) (RO.nx (RL.move (vi ae.2.1) (cg ao) ?_))))))))
     refine RO.nx ?_
     obtain⟨cz,b3,hj⟩:=bd hj
     refine RL.bV (hg:=(cg ao)) 1 o zr zr jh b3 (RO.nx (RL.k7 (α:=aI) (cg ao) (jF 1 o b3 0) ji (RO.nx (RL.dH (hg:=(cg ao)) 1 o (jF 1 o b3 2) (bH b3).2.1 eF cI (RO.nx (RL.kX cy.X0 cz.X1 (cg ao) (RO.nx (fq ao (vb (decide (cy.X0<cz.X1))) ?_))))))))
     refine RO.last ?_
     obtain rfl:=oi hj
     exact⟨rfl,o.sp 4 [0,1,2,3]⟩
    rintro _ w ⟨O,rfl,o⟩
    refine aH ?_
    obtain⟨b4,hj,hb⟩:=bd hb
    refine RC.jn (fun(b4: (List Int)) U w=>∃bl:Value,SH E V [(0,v0),(3,ah),(4,vp ag 0),(6,(.func (.func 89) #[] #[(vp ag 0)])),(7,vi ad.2.1),(11,(vi (IntKind.wrap .i64 (Int.tdiv (an.Xs.length:Int) 2)))),(12,vi ae.2.1),(13,vi ae.2.2),(42,v0),(43,vi p0.length),(44,vi ay)] [rd v0 p0,own 56 ah aq,bc 43 ag [bl],own 3 bl b4] U w) b4 ?_ ?_
    ·refine dQ hj (fun hc hj=>?_) fun hc hj=>?_
     rotate_left
     ·refine RC.skip ?_
      obtain rfl:=oi hj
      exact⟨rfl,bz,o.sp 4 [0,1,2,3]⟩
     refine RC.sr (mv (.func (.func 89) #[] #[(vp ag 0)]) (mv (vi ae.2.1) ?_))
     have o:=(o.pull 3).pull 3
     obtain⟨bf,dc,hj⟩:=bd hj
     refine RL.CL (cap:=[(vp ag 0)]) zt zr JY zr [(vi ae.2.1)] zr (aD (mb N (p0:=ae.2.1) o dc) ?_)
     rintro _ w ⟨d5,rfl,o⟩
     refine mv (.func (.func 89) #[] #[(vp ag 0)]) (mv (vi ae.2.2) ?_)
     have o:=(o.pull 1).pull 1
     obtain⟨bg,dd,hj⟩:=bd hj
     refine RL.CL (cap:=[(vp ag 0)]) zt zr JY zr [(vi ae.2.2)] zr (aD (mb N (p0:=ae.2.2) o dd) ?_)
     rintro _ w ⟨c0,rfl,o⟩
     refine aQ (vi bf.1) (aQ (vi bg.1) (RL.nt (RC.region (RL.bK 0 c0 o fu (mv (vi bf.1) (mv (vi bg.1) (RL.max bf.1 bg.1 (mv (vi bf.1) ?_))))))))
     refine mv (vi bg.1) (RL.min bf.1 bg.1 ?_)
     obtain⟨d6,cj,hj⟩:=bd hj
     refine RL.bV 1 o zr zr eC cj ?_
     have o:=o.sc Int (if bg.1<bf.1 then bg.1 else bf.1)
     refine RL.gI (f:=(fun _ y=>y)) 2 0 o (jF 2 o cj 0) (bH cj).2.1 zr Fs.self cI fun w o=>?_
     refine RL.nil ?_
     obtain rfl:=oi hj
     exact⟨rfl,c0,o.sp 9 [5,6,1,2]⟩
    rintro _ w ⟨bl,O,rfl,o⟩
    refine aH (RC.seq (RC.yN mixed ?_))
    have o:=o.drew
    refine RO.go (mv ah (RO.nx (mv (vi ae.2.1) (RO.nx ?_))))
    obtain⟨de,b5,hb⟩:=bd hb
    refine RL.bV 1 o zr zr jh b5 (RO.nx (RL.k7 (α:=aI) zt (jF 1 o b5 0) ji (RO.nx (RL.dH 1 o (jF 1 o b5 2) (bH b5).2.1 eF cI (RO.nx (mv ah (RO.nx (mv (vi ae.2.2) ?_))))))))
    refine RO.nx ?_
    obtain⟨df,b6,hb⟩:=bd hb
    refine RL.bV 1 o zr zr jh b6 (RO.nx (RL.k7 (α:=aI) zt (jF 1 o b6 0) ji (RO.nx (RL.dH 1 o (jF 1 o b6 2) (bH b6).2.1 eF cI (RO.nx (ic de.X1 df.X1 (RO.last (aH ?_))))))))
    obtain⟨b7,hj,hb⟩:=bd hb
    refine RC.jn (fun(b7:Int×Int)=>SH E V [(0,v0),(3,ah),(4,vp ag 0),(6,(.func (.func 89) #[] #[(vp ag 0)])),(7,vi ad.2.1),(11,(vi (IntKind.wrap .i64 (Int.tdiv (an.Xs.length:Int) 2)))),(12,vi b7.1),(13,vi b7.2),(42,v0),(43,vi p0.length),(44,vi ay)] [rd v0 p0,own 56 ah aq,bc 43 ag [bl],own 3 bl b4]) b7 ?_ ?_
    ·refine dQ hj (fun hc hj=>?_) fun hc hj=>?_
     ·refine RC.region (mv (vi ae.2.1) (RL.fY ae.2.1 1 (aQ (vi (IntKind.wrap .i64 (ae.2.1+1))) (RL.nil ?_))))
      obtain rfl:=oi hj
      exact⟨rfl,o.sp 4 [0,1,2,3]⟩
     refine RC.region (mv (vi ae.2.2) (RL.fY ae.2.2 1 (aQ (vi (IntKind.wrap .i64 (ae.2.2+1))) (RL.nil ?_))))
     obtain rfl:=oi hj
     exact⟨rfl,o.sp 4 [0,1,2,3]⟩
    rintro _ w ⟨O,rfl,o⟩
    refine bQ ?_
    obtain rfl:=oi hb
    exact⟨rfl,bl,o.sp 4 [0,1,2,3]⟩
   ·intro r _ _ _ _
    exact r.elim
   rintro ae _ w rfl ⟨bw,O,rfl,o⟩
   rw [Fo.dB] at hj
   obtain rfl:=oi hj
   exact⟨rfl,bw,o.sp 4 [0,1,2,3]⟩
  rintro _ w ⟨bu,O,rfl,o⟩
  refine aH (RC.region (mv (vi ad.2.1) (mv (vi ad.2.1) (mv (vi (IntKind.wrap .i64 (Int.tdiv (an.Xs.length:Int) 2))) (RL.fY ad.2.1 (IntKind.wrap .i64 (Int.tdiv (an.Xs.length:Int) 2)) (aQ (vi ad.2.1) (aQ (vi (IntKind.wrap .i64 (ad.2.1+ (IntKind.wrap .i64 (Int.tdiv (an.Xs.length:Int) 2))))) (RL.nil ?_))))))))
  refine bQ (aH (RC.region (RL.inc hk hm (mv (vi ((ay+1:Nat):Int)) (RL.nil ?_)))))
  obtain rfl:=oi hb
  exact⟨rfl,bu,o.sp 4 [0,1,2,3]⟩
 rintro _ w ⟨br,O,rfl,o⟩
 refine aH (RC.sr (RL.makeMap (κ:=Int) (ν:=Int) zt zr o fun a6 w o=>(aQ a6 (RL.ns (aQ (.slice none 0 0) (RL.nq (RC.sr (mv ah ?_))))))))
 refine RL.fZ 2 aq o nk (mv (vi 0) (RL.nt ?_))
 obtain⟨ak,hN,hb⟩:=bd hb
 refine RC.fold (fun(a5:Nat) (ak: (List Int)×(List (Int×Int))×(List (List aI))) U w=>∃(c1 c2:Value) (us939:List RV),SH E V [(6,(.func (.func 89) #[] #[(vp ag 0)])),(16,a6),(17,c2),(137,ah),(138,vi aq.length),(139,vi a5)] [bc 43 ag [c1],own 3 c1 ak.1,mp a6 ak.2.1,own 56 ah aq,own 23 c2 us939,ir (XS 56 aI) us939 ak.2.2 none] U w) (fun(ak: (List Int)×(List (Int×Int))×(List (List aI))) U w=>∃(ck bh:Value) (us942:List RV),SH E V [(17,bh)] [bc 43 ag [ck],own 3 ck ak.1,mp a6 ak.2.1,own 56 ah aq,own 23 bh us942,ir (XS 56 aI) us942 ak.2.2 none] U w) hN ?_ ?_ ?_ ?_
 ·have o:=(o.zw (XS 56 aI)).cW RV 23
  exact⟨br,(.slice none 0 0),([]:List RV),o.sp 7 [5,6,2,4,0,1]⟩
 ·rintro hm ak _ w ⟨dg,dh,us987,O,rfl,o⟩
  refine RC.sr (ic ((aq.length:Int)) ((aq.length:Int)) (RL.nq (RC.gk ue (RC.ex ?_))))
  exact⟨rfl,dg,dh,us987,o.sp 6 [0,1,2,3,4,5]⟩
 ·rintro hm a5 ak s' _ w hk ⟨d7,cl,us945,O,rfl,o⟩ hb
  refine RC.sr (ic ((a5:Int)) ((aq.length:Int)) (RL.nq (RC.gj (ud hk) (RC.ss (RC.bs (mv (vi a5) ?_))))))
  obtain⟨bb,cm,hb⟩:=bd hb
  refine RL.bV 3 o zr zr jh cm (RL.kF (f:=(fun x=>x)) 3 o (jF 3 o cm 0) (bH cm).2.1 Fd.self iE fun d8 o=>?_)
  refine RL.alloc o oG.z fun b8 w o=>?_
  refine aQ (vi a5) (RL.cC 0 o 1 zr iE fun w o=>?_)
  refine RL.ns (mv (.func (.func 89) #[] #[(vp ag 0)]) (mv (vi a5) ?_))
  have o:=(o.pull 3).pull 3
  obtain⟨a2,di,hb⟩:=bd hb
  refine RL.CL (cap:=[(vp ag 0)]) zt zr JY zr [(vi a5)] zr (aD (mb N (p0:=(a5:Int)) o di) ?_)
  rintro _ w ⟨bo,rfl,o⟩
  refine aQ (vi a2.1) (RL.ns (mv a6 (mv (vi a2.1) (RL.G3 (i:=6) (k:=a2.1) zt zr o zr zr zr Dr (mv (.tuple #[(vi (jy ak.2.1 a2.1 (0:Int))),(vb (tU ak.2.1 a2.1))]) (RL.extract (vi (jy ak.2.1 a2.1 (0:Int))) (RL.extract (vb (tU ak.2.1 a2.1)) (aQ (vi (jy ak.2.1 a2.1 (0:Int))) ?_))))))))
  refine aQ (vb (tU ak.2.1 a2.1)) (RL.nq (RC.sr (mv (vb (tU ak.2.1 a2.1)) (RL.not (tU ak.2.1 a2.1) (RL.nt ?_)))))
  obtain⟨af,hj,hb⟩:=bd hb
  refine RC.jn (fun(af: (List (Int×Int))×(List (List aI))×Int) U w=>∃(a1:Value) (us956:List RV),SH E V [(6,(.func (.func 89) #[] #[(vp ag 0)])),(16,a6),(17,a1),(19,vp b8 0),(21,vi af.2.2),(137,ah),(138,vi aq.length),(139,vi a5)] [bc 43 ag [bo],own 3 bo a2.2,mp a6 af.1,bx 56 b8 bb,own 56 ah aq,own 23 a1 us956,ir (XS 56 aI) us956 af.2.1 none] U w) af ?_ ?_
  ·refine dQ hj (fun hc hj=>?_) fun hc hj=>?_
   rotate_left
   ·refine RC.skip ?_
    obtain rfl:=oi hj
    exact⟨rfl,cl,us945,o.sp 10 [0,1,6,2,7,8,9]⟩
   refine RC.sr (mv cl (RL.rZ 8 9 ak.2.2 o qC (aQ (vi ak.2.2.length) (RL.ns (mv a6 (mv (vi a2.1) (mv (vi ak.2.2.length) ?_)))))))
   have o:=o.sc Int (ak.2.2.length:Int)
   refine RL.mapUpdate 7 0 a2.1 zt o zr zr zr zr zr Dr fun w o=>(RL.nt (RC.region (mv cl ?_)))
   have o:=(o.cW aI 56).Bx (i:=0) rfl
   refine RL.dY ([rv (.slice none 0 0)]:List RV) o [(.slice none 0 0)] uy JZ (fun M hs g=>⟨(g.sat 0 _ zr).1,zt⟩) fun d9 w o=>?_
   obtain⟨ea,dj,hj⟩:=bd hj
   have o:=o.freeze 0
   refine RL.C5 12 0 13 2 zt zr o zr zr zr zr zr zr Hk dj fun c3 w o=>?_
   refine aQ c3 (RL.nil ?_)
   obtain rfl:=oi hj
   exact⟨rfl,c3,(us945++[rv (.slice none 0 0)]),o.sp 14 [4,5,10,6,11,12,13]⟩
  rintro _ w ⟨a1,us956,O,rfl,o⟩
  refine aH ?_
  obtain⟨eb,b9,hb⟩:=bd hb
  obtain⟨bj,dk,hb⟩:=bd hb
  obtain⟨ec,cn,hb⟩:=bd hb
  refine RC.F2 E V mixed [1,1,1,1,0,0,0,0,0,0,0] [6,7,8,10] (fun(x:Value×Value×Value)=>(fun a0 ax al=>[(0,163,a1),(1,164,(vi af.2.2)),(2,165,a1),(3,166,(vi af.2.2)),(4,167,(zg a1 (Int.toNat af.2.2) 1 0)),(5,168,(us956.getD (Int.toNat af.2.2) CG).v),(6,169,a0),(7,170,ax),(8,171,al),(9,172,(zg a1 (Int.toNat af.2.2) 1 0))]) x.1 x.2.1 x.2.2) [(6,(.func (.func 89) #[] #[(vp ag 0)])),(16,a6),(17,a1),(19,vp b8 0),(21,vi af.2.2),(137,ah),(138,vi aq.length),(139,vi a5)] [] (fun(D:Nat->Bool) (x:Value×Value×Value)=>(fun a0 ax al=>[bif D 0 then (rd a0 bb) else bD,bif D 2 then (rd ax ([bb]: (List aI))) else (bif D 1 then (own 56 ax ([bb]: (List aI))) else bD),bif D 3 then bD else (bif D 2 then (own 56 al bj) else bD),bc 43 ag [bo],own 3 bo a2.2,mp a6 af.1,bx 56 b8 bb,own 56 ah aq,bif D 3 then (own 23 a1 (us956.set (Int.toNat af.2.2) (rv al))) else (own 23 a1 us956),bif D 3 then (ir (XS 56 aI) (us956.set (Int.toNat af.2.2) (rv al)) (af.2.1.set (Int.toNat af.2.2) bj) none) else (bif D 2 then (ir (XS 56 aI) us956 af.2.1 (some (Int.toNat af.2.2))) else (ir (XS 56 aI) us956 af.2.1 none))]) x.1 x.2.1 x.2.2) (fun x=>by kernel_rfl) ?_ ⟨fun _=>jG gn,fun _=>jG gn,fun _=>jG gn,fun _=>jG gn,?_,?_,?_,?_,?_,?_,?_,trivial⟩ ?_
  ·have o:=(((o.drew).bD).bD).bD
   exact⟨(undef,undef,undef),gH.none,(EC zr),zt,o⟩
  ·rintro D U w hD au aj ⟨⟨a0,ax,al⟩,hv,ha,_,o⟩
   obtain⟨O,rfl⟩:=(ac (hv.at 2 rfl (au.1 rfl)) (ac (hv.at 3 rfl (au.2.1 rfl)) az)).fI
   have o:=((o.cD 8 (nf (fun h=>ft hD ((aj 10 _ rfl h).2.2.2.2.2.2.2.1 rfl)))).cD 9 (nf (fun h=>ft hD ((aj 10 _ rfl h).2.2.2.2.2.2.2.1 rfl)))).cD 9 (nf (fun h=>ft hD ((aj 5 _ rfl ((aj 8 _ rfl h).1 rfl)).1 rfl)))
   have hl974:=o.eE 9
   have hr975:=fO CG hl974 b9
   refine RL.bV 8 o zr zr uy hr975 ?_
   have o:=(o.eX 8 (D 10) (nf (fun h=>ft hD ((aj 10 _ rfl h).2.2.2.2.2.2.2.1 rfl))) (own 23 a1 (us956.set (Int.toNat af.2.2) (rv al)))).eX 9 (D 8) (nf (fun h=>ft hD ((aj 5 _ rfl ((aj 8 _ rfl h).1 rfl)).1 rfl))) (ir (XS 56 aI) us956 af.2.1 (some (Int.toNat af.2.2)))
   have o:=o.eX 9 (D 10) (nf (fun h=>ft hD ((aj 10 _ rfl h).2.2.2.2.2.2.2.1 rfl))) (ir (XS 56 aI) (us956.set (Int.toNat af.2.2) (rv al)) (af.2.1.set (Int.toNat af.2.2) bj) none)
   exact RL.nil ⟨rfl,(a0,ax,al),hv.put 4 zr zr,ha.up zr,zt,o⟩
  ·rintro D U w hD au aj ⟨⟨a0,ax,al⟩,hv,ha,_,o⟩
   obtain⟨O,rfl⟩:=(ac (hv.at 4 rfl (au.1 rfl)) az).fI
   have o:=((o.cD 8 (nf (fun h=>ft hD ((aj 10 _ rfl h).2.2.2.2.2.2.2.2.1 rfl)))).cD 9 (nf (fun h=>ft hD ((aj 10 _ rfl h).2.2.2.2.2.2.2.2.1 rfl)))).cD 9 (nf (fun h=>ft hD ((aj 8 _ rfl h).1 rfl)))
   have hl976:=o.eE 9
   have hr977:=fO CG hl976 b9
   refine RL.u9 8 9 af.2.2 (Bw 56 aI) CG zr o zr (jF 8 o hr977 0) zr zr b9 tW ?_
   have o:=(o.eX 8 (D 10) (nf (fun h=>ft hD ((aj 10 _ rfl h).2.2.2.2.2.2.2.2.1 rfl))) (own 23 a1 (us956.set (Int.toNat af.2.2) (rv al)))).eX 9 (D 8) (nf (fun h=>ft hD ((aj 8 _ rfl h).1 rfl))) (ir (XS 56 aI) us956 af.2.1 (some (Int.toNat af.2.2)))
   have o:=o.eX 9 (D 10) (nf (fun h=>ft hD ((aj 10 _ rfl h).2.2.2.2.2.2.2.2.1 rfl))) (ir (XS 56 aI) (us956.set (Int.toNat af.2.2) (rv al)) (af.2.1.set (Int.toNat af.2.2) bj) none)
   exact RL.nil ⟨rfl,(a0,ax,al),hv.put 5 zr zr,ha.up zr,zt,o⟩
  ·rintro D U w hD au aj ⟨⟨a0,ax,al⟩,hv,ha,_,o⟩
   obtain⟨O,rfl⟩:=(ac (ha.at 3 rfl) az).fI
   have o:=o.cD 0 hD
   refine RL.bB (f:=(fun x=>x)) 6 o zr Fd.self iE fun dm o=>?_
   have o:=(o.pl 11 [0,2,3,4,5,6,7,8,9,10]).cQ 0 true rfl bD
   exact RL.nil ⟨rfl,(dm,ax,al),hv.put 6 zr zr,ha.up zr,zt,o⟩
  ·rintro D U w hD au aj ⟨⟨a0,ax,al⟩,hv,ha,_,o⟩
   obtain⟨O,rfl⟩:=(ac (hv.at 6 rfl (au.1 rfl)) az).fI
   have o:=((o.cP 0 (au.1 rfl)).cD 1 (nf (fun h=>ft hD ((aj 8 _ rfl h).2.1 rfl)))).cD 1 hD
   refine RL.dY ([bb]: (List aI)) o [a0] jh oG (fun M hs g=>⟨(g.sat 0 _ zr).1,zt⟩) fun c4 w o=>?_
   have o:=(((o.pl 11 [1,0,3,4,5,6,7,8,9,10]).cQ 0 (D 6) (au.1 rfl) bD).cQ 1 true rfl bD).eX 1 (D 8) (nf (fun h=>ft hD ((aj 8 _ rfl h).2.1 rfl))) (rd c4 ([bb]: (List aI)))
   exact RL.nil ⟨rfl,(a0,c4,al),hv.put 7 zr zr,ha.up zr,zt,o⟩
  ·rintro D U w hD au aj ⟨⟨a0,ax,al⟩,hv,ha,_,o⟩
   obtain⟨O,rfl⟩:=(ac (hv.at 5 rfl (au.1 rfl)) (ac (hv.at 7 rfl (au.2.1 rfl)) az)).fI
   have o:=((((o.cD 1 hD).cP 1 (au.2.1 rfl)).cD 2 (nf (fun h=>ft hD ((aj 10 _ rfl h).2.1 rfl)))).cD 2 hD).cD 8 (nf (fun h=>ft hD ((aj 10 _ rfl h).2.1 rfl)))
   have o:=(((o.cD 9 (nf (fun h=>ft hD ((aj 10 _ rfl h).2.1 rfl)))).cD 9 hD).zM (j:=9) (jj:=af.2.2) (Bw 56 aI) CG rfl b9).freeze 2
   refine RL.app 0 2 o zX dk fun cp w o=>?_
   have o:=(((o.pl 11 [1,2,0,4,5,6,7,8,9,10]).cQ 1 true rfl (bif D 7 then (own 56 ax ([bb]: (List aI))) else bD)).cQ 2 true rfl bD).eX 2 (D 10) (nf (fun h=>ft hD ((aj 10 _ rfl h).2.1 rfl))) bD
   have o:=(o.eX 8 (D 10) (nf (fun h=>ft hD ((aj 10 _ rfl h).2.1 rfl))) (own 23 a1 (us956.set (Int.toNat af.2.2) (rv cp)))).cQ 9 true rfl (ir (XS 56 aI) us956 af.2.1 none)
   have o:=o.eX 9 (D 10) (nf (fun h=>ft hD ((aj 10 _ rfl h).2.1 rfl))) (ir (XS 56 aI) (us956.set (Int.toNat af.2.2) (rv cp)) (af.2.1.set (Int.toNat af.2.2) bj) none)
   exact RL.nil ⟨rfl,(a0,ax,cp),hv.put 8 zr zr,ha.up zr,zt,o⟩
  ·rintro D U w hD au aj ⟨⟨a0,ax,al⟩,hv,ha,_,o⟩
   obtain⟨O,rfl⟩:=(ac (hv.at 0 rfl (au.1 rfl)) (ac (hv.at 1 rfl (au.2.1 rfl)) az)).fI
   have o:=((o.cD 8 (nf (fun h=>ft hD ((aj 10 _ rfl h).1 rfl)))).cD 9 (nf (fun h=>ft hD ((aj 10 _ rfl h).1 rfl)))).cP 9 (au.2.2.2.2.2.2.2.2.2.2.1 rfl)
   have hl981:=o.eE 9
   have hr982:=fO CG hl981 cn
   refine RL.bV 8 o zr zr uy hr982 ?_
   have o:=(o.eX 8 (D 10) (nf (fun h=>ft hD ((aj 10 _ rfl h).1 rfl))) (own 23 a1 (us956.set (Int.toNat af.2.2) (rv al)))).cQ 9 (D 8) (au.2.2.2.2.2.2.2.2.2.2.1 rfl) (ir (XS 56 aI) us956 af.2.1 none)
   have o:=o.eX 9 (D 10) (nf (fun h=>ft hD ((aj 10 _ rfl h).1 rfl))) (ir (XS 56 aI) (us956.set (Int.toNat af.2.2) (rv al)) (af.2.1.set (Int.toNat af.2.2) bj) none)
   exact RL.nil ⟨rfl,(a0,ax,al),hv.put 9 zr zr,ha.up zr,zt,o⟩
  ·rintro D U w hD au aj ⟨⟨a0,ax,al⟩,hv,ha,_,o⟩
   obtain⟨O,rfl⟩:=(ac (hv.at 8 rfl (au.2.1 rfl)) (ac (hv.at 9 rfl (au.1 rfl)) az)).fI
   have o:=((((o.cD 2 hD).cP 2 (au.2.1 rfl)).cD 8 hD).cD 9 hD).cP 9 (au.2.1 rfl)
   have hl983:=o.eE 9
   have hr984:=fO CG hl983 cn
   refine RL.te 8 9 2 af.2.2 (Bw 56 aI) CG o zr zr (jF 8 o hr984 0) zr zr zr cn tW fun w o=>?_
   have o:=((o.cQ 2 true rfl (bif D 8 then (own 56 al bj) else bD)).cQ 8 true rfl (own 23 a1 us956)).cQ 9 true rfl (bif D 8 then (ir (XS 56 aI) us956 af.2.1 (some (Int.toNat af.2.2))) else (ir (XS 56 aI) us956 af.2.1 none))
   exact RL.nil ⟨rfl,(a0,ax,al),hv.no zr,ha,zt,o⟩
  rintro D U w bp ⟨⟨a0,ax,al⟩,hv,ha,_,o⟩
  have o:=o.cP 0 (bp 6 (by decide))
  have o:=o.cP 1 (bp 8 (by decide))
  have o:=o.cP 2 (bp 10 (by decide))
  have o:=o.cP 8 (bp 10 (by decide))
  have o:=o.cP 9 (bp 10 (by decide))
  obtain⟨O,rfl⟩:=(ac (ha.at 0 rfl) (ac (ha.at 1 rfl) (ac (ha.at 2 rfl) (ac (ha.at 3 rfl) (ac (ha.at 4 rfl) (ac (ha.at 5 rfl) (ac (ha.at 6 rfl) (ac (ha.at 7 rfl) az)))))))).fI
  refine bQ (aH (RC.region (RL.inc hk hm (mv (vi ((a5+1:Nat):Int)) (RL.nil ?_)))))
  obtain rfl:=oi hb
  exact⟨rfl,bo,a1,(us956.set (Int.toNat af.2.2) (rv al)),o.sp 10 [3,4,5,7,8,9]⟩
 rintro _ w ⟨ck,bh,us942,O,rfl,o⟩
 refine aH (RC.sr (aQ (.slice none 0 0) (RL.nq (RC.sr (mv bh (RL.rZ 4 5 ak.2.2 o qC (mv (vi 0) (RL.nt ?_))))))))
 have o:=o.zx (X:=(XS 56 aI)) (b:=5) (j:=4) rfl (fun M h u x cs=>(I8 56) M h u x cs) rfl rfl (by decide)
 obtain⟨bm,hN,hb⟩:=bd hb
 refine RC.fold (fun(ca:Nat) (bm: (List (List aA))) U w=>∃c5:Value,SH E V [(23,c5),(174,bh),(175,vi ak.2.2.length),(176,vi ca)] [own 23 bh ak.2.2,own 85 c5 bm] U w) (fun(bm: (List (List aA))) U w=>∃bq:Value,SH E V [(23,bq)] [own 23 bh ak.2.2,own 85 bq bm] U w) hN ?_ ?_ ?_ ?_
 ·have o:=o.cW (List aA) 85
  exact⟨(.slice none 0 0),o.sp 7 [5,0]⟩
 ·rintro hm bm _ w ⟨dn,O,rfl,o⟩
  refine RC.sr (ic ((ak.2.2.length:Int)) ((ak.2.2.length:Int)) (RL.nq (RC.gk ue (RC.ex ?_))))
  exact⟨rfl,dn,o.sp 2 [0,1]⟩
 ·rintro hm ca bm s' _ w hk ⟨dp,O,rfl,o⟩ hb
  refine RC.sr (ic ((ca:Int)) ((ak.2.2.length:Int)) (RL.nq (RC.gj (ud hk) (RC.ss (RC.bs ?_)))))
  obtain⟨ed,cq,hb⟩:=bd hb
  refine RL.bV 0 o zr zr uy cq (RL.kF (f:=(fun x=>x)) 0 o (jF 0 o cq 0) (bH cq).2.1 Fd.self tW fun cr o=>?_)
  refine aQ cr (RL.nt (RC.region (mv dp (mv cr ?_))))
  obtain⟨dq,dr,hb⟩:=bd hb
  refine RL.call zt zr Hf [cr] zr (aD (mF N (i0:=0) o zr dr) ?_)
  rintro ds w o
  have o:=o.freeze 0
  refine RL.dY ([dq]: (List (List aA))) o [ds] Hi JX (fun M hs g=>⟨(g.sat 0 _ zr).1,zt⟩) fun ee w o=>?_
  have o:=o.freeze 0
  obtain⟨ef,dt,hb⟩:=bd hb
  refine RL.app 4 0 o K8 dt fun c6 w o=>?_
  refine aQ c6 (RL.nil (bQ (aH (RC.region (RL.inc hk hm (mv (vi ((ca+1:Nat):Int)) (RL.nil ?_)))))))
  obtain rfl:=oi hb
  exact⟨rfl,c6,o.sp 5 [3,4]⟩
 rintro _ w ⟨bq,O,rfl,o⟩
 refine aH (RC.sr (mv bq (aQ bq (RL.nt (RC.ret ?_)))))
 obtain rfl:=oi hb
 exact bX (o.pk 2 [1])
def uL (E:World) (V:List HP) (b0:Nat) (v0_0 v0_1:Value) (v0_2 v0_3:Value) (v0_6 v0_7:Value) (v0_8 v0_9:Value) (v0_10 v0_11:Value) (res:Bool×(List (List aA))×(List aK)) (v:Value) (w:World):Prop:=∃u0_4 u0_5:Value,v= (vb res.1)/\Holds E w ([bc 46 b0 [v0_0,v0_1,v0_2,v0_3,u0_4,u0_5,v0_6,v0_7,v0_8,v0_9,v0_10,v0_11],own 85 u0_4 res.2.1,own 95 u0_5 res.2.2]++V)
theorem tZ {p0_0: (List (List aI))} {p0_2: (List bZ)} {p0_4: (List (List aA))} {p0_5: (List aK)} {res:Bool×(List (List aA))×(List aK)} (j:Holds E w (bc 46 b0 [v0_0,v0_1,v0_2,v0_3,v0_4,v0_5,v0_6,v0_7,v0_8,v0_9,v0_10,v0_11]::rd v0_0 p0_0::rd v0_2 p0_2::own 85 v0_4 p0_4::own 95 v0_5 p0_5::V)) (o:ka N p0_0 p0_2 p0_4 p0_5=some res):
    Calls bN 19 [(vp b0 0)].toArray w (gL (uL E V b0 v0_0 v0_1 v0_2 v0_3 v0_6 v0_7 v0_8 v0_9 v0_10 v0_11 res)):=by
 unfold ka at o
 refine enter Tryz.func19 zr zr (RC.sr (aQ (vb false) (RL.ns (aQ (vb true) (RL.nq (RC.sr (mv (vp b0 0) (RL.nilCheck zr ?_))))))))
 refine RL.aY zr uz (RL.aY zr mC (RL.bK 0 v0_0 j pJ (RL.bF 1 p0_0 j qC (mv (vi 0) (RL.nt ?_)))))
 obtain⟨aa,hN,o⟩:=bd o
 refine RC.fold (fun(ab:Nat) (aa: (List (List aA))×(List aK)×Bool) U w=>∃bf bg:Value,SH E V [(0,vp b0 0),(3,vb aa.2.2),(16,v0_0),(17,vi p0_0.length),(18,vi ab)] [bc 46 b0 [v0_0,v0_1,v0_2,v0_3,bf,bg,v0_6,v0_7,v0_8,v0_9,v0_10,v0_11],own 85 bf aa.1,own 95 bg aa.2.1,rd v0_0 p0_0,rd v0_2 p0_2] U w) (fun(aa: (List (List aA))×(List aK)×Bool) U w=>∃au al:Value,SH E V [(0,vp b0 0),(3,vb aa.2.2)] [bc 46 b0 [v0_0,v0_1,v0_2,v0_3,au,al,v0_6,v0_7,v0_8,v0_9,v0_10,v0_11],own 85 au aa.1,own 95 al aa.2.1,rd v0_0 p0_0,rd v0_2 p0_2] U w) hN ?_ ?_ ?_ ?_
 ·exact⟨v0_4,v0_5,j.sp 5 [0,3,4,1,2]⟩
 ·rintro hm aa _ w ⟨bq,br,O,rfl,j⟩
  refine RC.sr (ic ((p0_0.length:Int)) ((p0_0.length:Int)) (RL.nq (RC.gk ue (RC.ex ?_))))
  exact⟨rfl,bq,br,j.sp 5 [0,1,2,3,4]⟩
 ·rintro hm ab aa s' _ w hk ⟨af,ag,O,rfl,j⟩ o
  refine RC.sr (ic ((ab:Int)) ((p0_0.length:Int)) (RL.nq (RC.gj (ud hk) (RC.ss (RC.bs (mv (vi ab) ?_))))))
  obtain⟨a2,bt,o⟩:=bd o
  refine RL.bP 3 j uy bt fun cp j=>(RL.bJ 0 a2 j tW fun ah j=>(aQ (vi ab) (aQ ah (RL.ns (aQ (.slice none 0 0) (RL.nq (RC.sr (mv (vp b0 0) ?_))))))))
  refine RL.nilCheck zr (RL.aY zr uz (RL.aY zr ik (RL.bK 2 v0_2 j nQ (RL.bF 6 p0_2 j wj (mv (vi 0) (RL.nt ?_))))))
  obtain⟨av,hN,o⟩:=bd o
  refine RC.fold (fun(az:Nat) (av: (List aI)) U w=>∃bh:Value,SH E V [(0,vp b0 0),(3,vb aa.2.2),(4,vi ab),(5,ah),(6,bh),(16,v0_0),(17,vi p0_0.length),(18,vi ab),(27,v0_2),(28,vi p0_2.length),(29,vi az)] [bc 46 b0 [v0_0,v0_1,v0_2,v0_3,af,ag,v0_6,v0_7,v0_8,v0_9,v0_10,v0_11],rd v0_0 p0_0,rd v0_2 p0_2,own 85 af aa.1,own 95 ag aa.2.1,rd ah a2,own 56 bh av] U w) (fun(av: (List aI)) U w=>∃a0:Value,SH E V [(0,vp b0 0),(3,vb aa.2.2),(4,vi ab),(5,ah),(6,a0),(16,v0_0),(17,vi p0_0.length),(18,vi ab)] [bc 46 b0 [v0_0,v0_1,v0_2,v0_3,af,ag,v0_6,v0_7,v0_8,v0_9,v0_10,v0_11],rd v0_0 p0_0,rd v0_2 p0_2,own 85 af aa.1,own 95 ag aa.2.1,rd ah a2,own 56 a0 av] U w) hN ?_ ?_ ?_ ?_
  ·have j:=j.cW aI 56
   exact⟨(.slice none 0 0),j.sp 8 [3,6,7,4,5,1,0]⟩
  ·rintro hm av _ w ⟨bu,O,rfl,j⟩
   refine RC.sr (ic ((p0_2.length:Int)) ((p0_2.length:Int)) (RL.nq (RC.gk ue (RC.ex ?_))))
   exact⟨rfl,bu,j.sp 7 [0,1,2,3,4,5,6]⟩
  ·rintro hm az av s' _ w hk ⟨bj,O,rfl,j⟩ o
   refine RC.sr (ic ((az:Int)) ((p0_2.length:Int)) (RL.nq (RC.gj (ud hk) (RC.ss (RC.bs ?_)))))
   obtain⟨bw,bx,o⟩:=bd o
   refine RL.bP 2 j qD bx fun cq j=>(RL.bJ 0 bw j ma fun cr j=>(RL.alloc j EE.z fun ct w j=>?_))
   refine RL.cC 0 j 1 zr ma fun w j=>?_
   refine RL.ns (RL.bB (f:=(fun x=>x)) 0 j zr Fd.self ma fun bz j=>(mv (vi ab) ?_))
   obtain⟨cu,b1,o⟩:=bd o
   refine RL.call zt zr JW [bz,(vi ab)] zr (aD (oL N (p1:=(ab:Int)) (i0:=0) j zr b1) ?_)
   rintro _ w ⟨rfl,j⟩
   refine RL.nt ?_
   obtain⟨a6,hj,o⟩:=bd o
   refine RC.jn (fun(a6: (List aI)) U w=>∃a3:Value,SH E V [(0,vp b0 0),(3,vb aa.2.2),(4,vi ab),(5,ah),(6,a3),(16,v0_0),(17,vi p0_0.length),(18,vi ab),(27,v0_2),(28,vi p0_2.length),(29,vi az)] [bc 46 b0 [v0_0,v0_1,v0_2,v0_3,af,ag,v0_6,v0_7,v0_8,v0_9,v0_10,v0_11],rd v0_0 p0_0,rd v0_2 p0_2,own 85 af aa.1,own 95 ag aa.2.1,rd ah a2,own 56 a3 a6] U w) a6 ?_ ?_
   ·refine dQ hj (fun hc hj=>?_) fun hc hj=>?_
    rotate_left
    ·refine RC.skip ?_
     obtain rfl:=oi hj
     exact⟨rfl,bj,j.sp 11 [4,5,6,7,8,9,10]⟩
    refine RC.region (mv bj (RL.bB (f:=(fun x=>x)) 1 j zr Fd.self ma fun b3 j=>?_))
    obtain⟨b4,b5,hj⟩:=bd hj
    refine RL.call zt zr F6 [b3] zr (aD (jl N (i0:=0) j zr b5) ?_)
    rintro b6 w j
    refine RL.dY ([b4]: (List aI)) j [b6] jh oG (fun M hs g=>⟨(g.sat 0 _ zr).1,zt⟩) fun cv w j=>?_
    have j:=j.freeze 0
    obtain⟨cw,b7,hj⟩:=bd hj
    refine RL.app 13 0 j zX b7 fun bk w j=>?_
    refine aQ bk (RL.nil ?_)
    obtain rfl:=oi hj
    exact⟨rfl,bk,j.sp 14 [7,8,9,10,11,12,13]⟩
   rintro _ w ⟨a3,O,rfl,j⟩
   refine bQ (aH (RC.region (RL.inc hk hm (mv (vi ((az+1:Nat):Int)) (RL.nil ?_)))))
   obtain rfl:=oi o
   exact⟨rfl,a3,j.sp 7 [0,1,2,3,4,5,6]⟩
  rintro _ w ⟨a0,O,rfl,j⟩
  refine aH (RC.sr (mv ah ?_))
  obtain⟨cx,b8,o⟩:=bd o
  refine RL.call zt zr Hf [ah] zr (aD (mF N (i0:=5) j zr b8) ?_)
  rintro b9 w j
  refine mv a0 ?_
  have j:=j.freeze 7
  obtain⟨cy,ca,o⟩:=bd o
  refine RL.call zt zr Hf [a0] zr (aD (mF N (i0:=7) j zr ca) ?_)
  rintro cb w j
  have j:=(j.freeze 1).freeze 0
  obtain⟨cz,cc,o⟩:=bd o
  refine RL.call zt zr Mv [b9,cb] zr (aD (xv N (i0:=1) (i1:=0) j zr zr cc) ?_)
  rintro a1 w j
  refine aQ a1 (RL.nq ?_)
  obtain⟨an,hj,o⟩:=bd o
  refine RC.jn (fun(an:Bool×(List aA)) U w=>∃ao:Value,SH E V [(0,vp b0 0),(3,vb an.1),(4,vi ab),(9,ao),(16,v0_0),(17,vi p0_0.length),(18,vi ab)] [bc 46 b0 [v0_0,v0_1,v0_2,v0_3,af,ag,v0_6,v0_7,v0_8,v0_9,v0_10,v0_11],rd v0_0 p0_0,rd v0_2 p0_2,own 85 af aa.1,own 95 ag aa.2.1,rd ao an.2] U w) an ?_ ?_
  ·refine RC.region (mv (vb aa.2.2) (mv (vb aa.2.2) (eZ hj (fun ai hj=>?_) fun ai hj=>?_)))
   rotate_left
   ·refine bC ai (bC ai (bC ai (fq ai (vb false) (aQ (vb false) (RL.nil ?_)))))
    obtain rfl:=oi hj
    have j:=j.freeze 0
    exact⟨rfl,a1,j.sp 10 [3,4,5,6,7,0]⟩
   refine RL.move a1 (cg ai) ?_
   have j:=j.freeze 0
   obtain⟨a7,cd,hj⟩:=bd hj
   refine RL.call (cg ai) zr Mw [a1] zr (aD (xw N (i0:=0) j zr cd) ?_)
   rintro _ w ⟨rfl,j⟩
   refine RL.kX a7 2000 (cg ai) (fq ai (vb (decide (a7<=2000))) (aQ (vb (decide (a7<=2000))) (RL.nil ?_)))
   obtain rfl:=oi hj
   exact⟨rfl,a1,j.sp 10 [3,4,5,6,7,0]⟩
  rintro _ w ⟨ao,O,rfl,j⟩
  refine aH (RC.sr (mv (vp b0 0) (mv (vp b0 0) (RL.nilCheck zr (RL.aY zr Hj (RL.bK 0 af j K7 (mv ao (RL.dY ([an.2]: (List (List aA))) j [ao] Hi JX (fun M hs g=>⟨(g.sat 5 _ zr).1,zt⟩) fun c0 w j=>?_))))))))
  have j:=j.freeze 0
  obtain⟨bl,cf,o⟩:=bd o
  refine RL.app 4 0 j K8 cf fun aq w j=>?_
  refine RL.nilCheck zr (RL.aY zr Hj (RL.iu 1 aq j zr zr (iO 4 j) K7 fun w j=>?_))
  refine RL.ns (mv ao ?_)
  obtain⟨ar,ch,o⟩:=bd o
  refine RL.call zt zr Mx [ao] zr (aD (wC N (i0:=6) j zr ch) ?_)
  rintro a8 w j
  refine RL.fZ 0 ar j K4 (mv (vi 0) (RL.nt ?_))
  obtain⟨aw,hN,o⟩:=bd o
  refine RC.fold (fun(a4:Nat) (aw: (List aK)) U w=>∃bm:Value,SH E V [(0,vp b0 0),(3,vb an.1),(4,vi ab),(16,v0_0),(17,vi p0_0.length),(18,vi ab),(64,a8),(65,vi ar.length),(66,vi a4)] [bc 46 b0 [v0_0,v0_1,v0_2,v0_3,aq,bm,v0_6,v0_7,v0_8,v0_9,v0_10,v0_11],own 95 bm aw,rd v0_0 p0_0,rd v0_2 p0_2,own 85 aq bl,own 85 a8 ar] U w) (fun(aw: (List aK)) U w=>∃a5:Value,SH E V [(0,vp b0 0),(3,vb an.1),(16,v0_0),(17,vi p0_0.length),(18,vi ab)] [bc 46 b0 [v0_0,v0_1,v0_2,v0_3,aq,a5,v0_6,v0_7,v0_8,v0_9,v0_10,v0_11],own 95 a5 aw,rd v0_0 p0_0,rd v0_2 p0_2,own 85 aq bl,own 85 a8 ar] U w) hN ?_ ?_ ?_ ?_
  ·exact⟨ag,j.sp 8 [2,6,3,4,5,0]⟩
  ·rintro hm aw _ w ⟨cj,O,rfl,j⟩
   refine RC.sr (ic ((ar.length:Int)) ((ar.length:Int)) (RL.nq (RC.gk ue (RC.ex ?_))))
   exact⟨rfl,cj,j.sp 6 [0,1,2,3,4,5]⟩
  ·rintro hm a4 aw s' _ w hk ⟨a9,O,rfl,j⟩ o
   refine RC.sr (ic ((a4:Int)) ((ar.length:Int)) (RL.nq (RC.gj (ud hk) (RC.ss (RC.bs ?_)))))
   obtain⟨bn,ba,o⟩:=bd o
   refine RL.bV 5 j zr zr Hi ba (RL.kF (f:=(fun x=>x)) 5 j (jF 5 j ba 0) (bH ba).2.1 Fd.self K5 fun ax j=>?_)
   refine aQ ax (RL.nt ?_)
   have j:=j.drew
   refine RC.EB (fun w=>Holds E w ([bc 46 b0 [v0_0,v0_1,v0_2,v0_3,aq,a9,v0_6,v0_7,v0_8,v0_9,v0_10,v0_11]]++V)) mixed zr [1,1,1,1,1,1,1,0,2,0,2,2,0,0,2] [0,1,2,3,4,5,6,7,8,9,10,11,12,13,14] (j.pk 7 [1]) (DP.e1 (vp b0 0) zr (fun w=>RL.move (vp b0 0) zt DP.d1) (DP.e1 (vp b0 0) zr (fun w=>RL.move (vp b0 0) zt DP.d1) (DP.e1 (vp b0 0) zr (fun w=>RL.nilCheck zr DP.d1) (DP.e1 (vp b0 5) zr (fun w=>RL.aY zr yg DP.d1) (DP.Iy a9 zr (fun w j=>RL.bK 0 a9 j F7 DP.d1) (DP.e1 (vi ab) zr (fun w=>RL.move (vi ab) zt DP.d1) (DP.e1 ax zr (fun w=>RL.move ax zt DP.d1) (DP.e0 zr ?_))))))))
   refine mv ax (ou zr ?_)
   obtain⟨bo,ck,o⟩:=bd o
   refine RL.call zt zr JU [ax] zr (aD (nS N (i0:=0) j zr ck) ?_)
   rintro cl w j
   refine DP.d2 (j.pk 8 [2]) (DP.e0 zr ?_)
   have j:=(j.sc Int (ab:Int)).freeze 1
   refine RL.build (⟨(ab:Int),bn,bo⟩:aK) trivial rfl j [(0,vi ab),(1,ax),(2,cl)] rfl My rfl (fun M hs g=>by have h:=zV M;exact cU.cons (f:=fun(x:aK) y=>{x with cT:=y}) h xc (g.sat 0 _ rfl).1 fun _ h=>cU.cons (f:=fun(x:aK) y=>{x with Set:=y}) h xd (g.sat 2 _ rfl).1 fun _ h=>cU.cons (f:=fun(x:aK) y=>{x with iJ:=y}) h xe (g.sat 1 _ rfl).1 fun _ h=>cU.nil h) fun cm j=>?_
   refine ou zr (RL.dY ([(⟨(ab:Int),bn,bo⟩:aK)]: (List aK)) j [cm] J0 J3 (fun M hs g=>⟨(g.sat 0 _ zr).1,zt⟩) fun c1 w j=>(DP.d2 (j.pk 11 [5]) (DP.e2 zr ?_)))
   have j:=j.freeze 0
   obtain⟨c2,cn,o⟩:=bd o
   refine RL.app 6 0 j Mz cn fun bp w j=>?_
   refine DP.d2 (j.pk 11 [5]) (DP.e0 zr (RL.nilCheck zr (aW zr (RL.aY zr yg (DP.d0 (DP.LP zr zr (RL.iu 5 bp j zr zr (iO 6 j) F7 fun w j=>?_)))))))
   refine DP.d2 zt (DP.z (bQ (aH (RC.region (RL.inc hk hm (mv (vi ((a4+1:Nat):Int)) (RL.nil ?_)))))))
   obtain rfl:=oi o
   exact⟨rfl,bp,j.sp 11 [5,6,7,8,9,10]⟩
  rintro _ w ⟨a5,O,rfl,j⟩
  refine bQ (aH (RC.region (RL.inc hk hm (mv (vi ((ab+1:Nat):Int)) (RL.nil ?_)))))
  obtain rfl:=oi o
  exact⟨rfl,aq,a5,j.sp 6 [0,4,1,2,3]⟩
 rintro _ w ⟨au,al,O,rfl,j⟩
 refine aH (RC.seq ?_)
 obtain⟨bb,hj,o⟩:=bd o
 refine RC.jn (fun(bb:Bool)=>SH E V [(0,vp b0 0),(2,vb bb)] [bc 46 b0 [v0_0,v0_1,v0_2,v0_3,au,al,v0_6,v0_7,v0_8,v0_9,v0_10,v0_11],rd v0_0 p0_0,rd v0_2 p0_2,own 85 au aa.1,own 95 al aa.2.1]) bb ?_ ?_
 ·refine RC.region (mv (vb aa.2.2) (mv (vb aa.2.2) (eZ hj (fun ae hj=>?_) fun ae hj=>?_)))
  ·refine RL.move (vp b0 0) (cg ae) (RL.nilCheck (hg:=(cg ae)) zr (RL.aY (hg:=(cg ae)) zr yg (RL.bK (hg:=(cg ae)) 0 al j F7 (RL.fZ (hg:=(cg ae)) 2 aa.2.1 j ID (RL.kX (aa.2.1.length:Int) 2000 (cg ae) (fq ae (vb (decide ((aa.2.1.length:Int)<=2000))) (aQ (vb (decide ((aa.2.1.length:Int)<=2000))) (RL.nil ?_))))))))
   obtain rfl:=oi hj
   exact⟨rfl,j.sp 5 [0,3,4,1,2]⟩
  refine bC ae (bC ae (bC ae (bC ae (bC ae (bC ae (fq ae (vb false) (aQ (vb false) (RL.nil ?_))))))))
  obtain rfl:=oi hj
  exact⟨rfl,j.sp 5 [0,3,4,1,2]⟩
 rintro _ w ⟨O,rfl,j⟩
 refine aH (RC.ret ?_)
 obtain rfl:=oi o
 exact bX ⟨au,al,zr,j.pk 5 [0,3,4]⟩
end Go.Gk
