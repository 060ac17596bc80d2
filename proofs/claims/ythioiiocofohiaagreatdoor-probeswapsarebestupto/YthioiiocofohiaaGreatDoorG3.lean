/-
  Printed texts: Go functions as plain functions, and that they are. No statement of the seed is proved here.
-/
import Derived.Test.YthioiiocofohiaaGreatDoorG1
import Derived.Test.YthioiiocofohiaaGreatDoorG2
import Derived.Test.YthioiiocofohiaaGreatDoorA2
set_option linter.unusedVariables false
set_option linter.unusedSimpArgs false
set_option linter.unusedSectionVars false
set_option maxRecDepth 100000
set_option maxHeartbeats 40000000
namespace Go.Gk
open Go Go.Proofs
variable (N:Nat) {E w:World} {b0 b1 i0 i1:Nat} {p0 p1 p2 res:Int} {v0 v0_0 v0_1 v0_10 v0_11 v0_2 v0_3 v0_4 v0_5 v0_6 v0_7 v0_8 v0_9 v1 v1_0 v2:Value} {V:List HP}
theorem nD {p0:cD} {res:Bool} (j:Holds E w V) (h0:V[i0]? =some (rd v0 p0)) (hb:km N p0 p1=some res):
    Calls bN 79 [v0,(vi p1)].toArray w (iE (bV E V res)):=by
 unfold km at hb
 refine enter Tryz.func79 zr zr ?_
 have j:=j.dup (i0+0) h0
 refine RC.sr (RL.dJ 0 v0 j zr fun o w j=>?_)
 refine aT (vb false) (RL.ns (RL.bO zr r8 (RL.aR 0 j zr nZ cW (mv (vi p1) (ic p0.cZ p1 (mv (vb (decide (p0.cZ<=p1))) (RL.gs true (decide (p0.cZ<=p1)) (vi p1) zr zr zr dW (RL.gs true (decide (p0.cZ<=p1)) (vp o 4) zr zr zr (eO uy) ?_))))))))
 refine RL.gs true (decide (p0.cZ<=p1)) (vi p0.To) rfl rfl rfl (cG 0 rfl j (fun h=>by exact(dG h:cv (true&&((decide (p0.cZ<=p1))==true)) (vp o 4)= (vp o 4))) rfl pC cW) (RL.gs true (decide (p0.cZ<=p1)) (vb (decide (p1<=p0.To))) rfl rfl rfl (eN .leq .i64 p1 p0.To rfl (fun h=>by exact(dG h:cv (true&&((decide (p0.cZ<=p1))==true)) (vi p1)= (vi p1))) (fun h=>by exact(dG h:cv (true&&((decide (p0.cZ<=p1))==true)) (vi p0.To)= (vi p0.To))) rfl) (RL.pick (decide (p0.cZ<=p1)) (vb ((decide (p0.cZ<=p1))&&(decide (p1<=p0.To)))) (kg true) (aT (vb ((decide (p0.cZ<=p1))&&(decide (p1<=p0.To)))) (RL.nt (RC.ret ?_)))))
 obtain rfl:=oi hb
 exact cK ⟨rfl,j.drop 2⟩
def zF (E:World) (V:List HP) (res: (List Int)×Int) (v:Value) (w:World):Prop:=∃u0:Value,v = .tuple #[u0,(vi res.2)]/\Holds E w ([rd u0 res.1]++V)
theorem sK {p0: (List aA)} {res: (List Int)×Int} (j:Holds E w V) (h0:V[i0]? =some (rd v0 p0)) (o:mu N p0 p1 p2=some res):
    Calls bN 136 [v0,(vi p1),(vi p2)].toArray w (iE (zF E V res)):=by
 unfold mu at o
 refine enter Tryz.func136 zr zr ?_
 have j:=j.dup (i0+0) h0
 refine RC.sr (aT (.slice none 0 0) (aT (vi 0) (RL.nq (RC.bs (mv v0 (RL.bM 0 p0 j o6 (ic ((p0.length:Int)) 0 (aT (vb ((p0.length:Int)==0)) ?_))))))))
 refine RL.nt (fK o (fun hc o=>?_) fun hc o=>?_)
 ·refine RC.sr (mv (vi p2) (aT (.slice none 0 0) (aT (vi p2) (RL.nt (RC.rb (bZ ?_))))))
  obtain rfl:=oi o
  have j:=j.y5 Int
  exact kC ⟨(.slice none 0 0),zr,j.pk 2 [0]⟩
 refine RC.sr (mv (vi p1) (mv v0 ?_))
 obtain⟨ae,ag,o⟩:=bd o
 refine RL.cJ 0 j kY ag fun al j=>(RL.iT 0 j zr pr gj fun an j=>(RL.cB ae.Y0 0 j cW (ic p1 ae.Y0 (aT (vb (decide (p1<ae.Y0))) (RL.nt (fK o (fun hc o=>?_) fun hc o=>?_))))))
 ·refine RC.seq (RC.AA mixed ?_)
  have j:=j.drew
  refine RO.go (mv (vi p2) (RO.nx (mv v0 (RO.nx ?_))))
  obtain⟨aa,ah,o⟩:=bd o
  refine RL.cJ 2 j kY ah fun ao j=>(RO.nx (RL.iT 0 j zr pr gj fun aq j=>(RO.nx (RL.cB aa.Y0 0 j cW (RO.nx (RL.min p2 aa.Y0 (RO.nx (aT (.slice none 0 0) ?_))))))))
  refine RO.nx (aT (vi (if aa.Y0<p2 then aa.Y0 else p2)) (RO.last (aG (RC.rb (bZ ?_)))))
  obtain rfl:=oi o
  have j:=j.y5 Int
  exact kC ⟨(.slice none 0 0),zr,j.pk 6 [0]⟩
 refine RC.skip (cA (aG (RC.seq (RC.AA mixed ?_))))
 have j:=j.drew
 refine RO.go (mv v0 (RO.nx ?_))
 obtain⟨ai,aj,o⟩:=bd o
 refine RL.cJ 2 j kY aj fun ar j=>(RO.nx (RL.iT 0 j zr lH dP fun au j=>(RO.nx (RL.bY 0 ai.Xs j gx fun af j=>(RO.nx (mv (vi p2) (RO.nx (mv v0 ?_))))))))
 refine RO.nx ?_
 obtain⟨ab,ak,o⟩:=bd o
 refine RL.cJ 5 j kY ak fun av j=>(RO.nx (RL.iT 0 j zr mV eY fun aw j=>(RO.nx (RL.cB ab.Y1 0 j cW (RO.nx (RL.min p2 ab.Y1 (RO.nx (aT af ?_))))))))
 refine RO.nx (aT (vi (if ab.Y1<p2 then ab.Y1 else p2)) (RO.last (aG (RC.ret ?_))))
 obtain rfl:=oi o
 exact kC ⟨af,zr,j.pk 8 [2]⟩
theorem AN {p0: (List Int)} {p1: (List Int)} {p2:Bool->Bool->Option Bool} {res: (List Int)} (j:Holds E w V) (h0:V[i0]? =some (rd v0 p0)) (h1:V[i1]? =some (rd v1 p1)) (h2:Ld bN E V v2 p2 (fun(r:Bool)=>Value.bool r)) (hb:pG N p0 p1 p2=some res):
    Calls bN 137 [v0,v1,v2].toArray w (iE (l4 E V res)):=by
 unfold pG at hb
 refine enter Tryz.func137 zr zr ?_
 have j:=(j.dup (i0+0) h0).dup (i1+1) h1
 refine RC.sr (aT (.slice none 0 0) (RL.ns (aT (.slice none 0 0) (RL.ns (aT (vb false) (aT (vb false) (aT (vb false) (RL.nq ?_))))))))
 obtain⟨bu,hN,hb⟩:=bd hb
 refine RC.iter (fun(o: (List Int)×(List Int)×(List Int)×Bool×Bool×Bool) U w=>∃a7 a8 a9:Value,SH E V [(0,a7),(1,a8),(2,v2),(7,a9),(8,vb o.2.2.2.1),(9,vb o.2.2.2.2.1),(10,vb o.2.2.2.2.2)] [rd a7 o.1,rd a8 o.2.1,own 3 a9 o.2.2.1] U w) (fun(o: (List Int)×(List Int)×(List Int)×Bool×Bool×Bool) U w=>∃av:Value,SH E V [(7,av)] [own 3 av o.2.2.1] U w) (fun(r:Empty) _ _=>r.elim) hN ?_ ?_ ?_ ?_
 ·have j:=j.eC Int 3
  exact⟨v0,v1,(.slice none 0 0),j.sp 3 [2,1,0]⟩
 ·rintro o fl _ w ⟨ah,ad,ae,O,rfl,j⟩ hb
  refine RC.seq (RC.seq ?_)
  obtain⟨a1,hj,hb⟩:=bd hb
  refine RC.jn (fun(a1:Bool)=>SH E V [(0,ah),(1,ad),(2,v2),(7,ae),(8,vb o.2.2.2.1),(9,vb o.2.2.2.2.1),(10,vb o.2.2.2.2.2),(20,vb a1)] [rd ah o.1,rd ad o.2.1,own 3 ae o.2.2.1]) a1 ?_ ?_
  ·refine RC.region (mv ah (RL.bM 0 o.1 j nN (ic ((o.1.length:Int)) 0 (mv (vb (decide ((o.1.length:Int)>0))) (iA hj (fun ao hj=>?_) fun ao hj=>?_)))))
   ·refine cH ao (cH ao (cH ao (iF ao (vb true) (RL.nil ?_))))
    obtain rfl:=oi hj
    exact⟨rfl,j.sp 3 [0,1,2]⟩
   refine RL.move ad (cg ao) (RL.bM (hg:=(cg ao)) 1 o.2.1 j nN (RL.lN (o.2.1.length:Int) 0 (cg ao) (iF ao (vb (decide ((o.2.1.length:Int)>0))) (RL.nil ?_))))
   obtain rfl:=oi hj
   exact⟨rfl,j.sp 3 [0,1,2]⟩
  rintro _ w ⟨O,rfl,j⟩
  refine aG (fK hb (fun hc hb=>?_) fun hc hb=>?_)
  rotate_left
  ·refine RC.ex ?_
   obtain rfl:=oi hb
   exact⟨rfl,ae,j.sp 3 [2]⟩
  refine RC.sn (RC.bs (aT (vi 0) (RL.nq (RC.seq ?_))))
  obtain⟨a2,hj,hb⟩:=bd hb
  refine RC.jn (fun(a2:Bool)=>SH E V [(0,ah),(1,ad),(2,v2),(7,ae),(8,vb o.2.2.2.1),(9,vb o.2.2.2.2.1),(10,vb o.2.2.2.2.2),(37,vb a2)] [rd ah o.1,rd ad o.2.1,own 3 ae o.2.2.1]) a2 ?_ ?_
  ·refine RC.AA mixed ?_
   have j:=j.drew
   refine RO.go (mv ad (RO.nx (RL.bM 1 o.2.1 j nN (RO.nx (ic ((o.2.1.length:Int)) 0 (RO.nx (mv (vb ((o.2.1.length:Int)==0)) (iA hj (fun ai hj=>?_) fun ai hj=>?_))))))))
   ·refine RO.nx (cH ai (RO.nx (cH ai (RO.nx (cH ai (RO.nx (cH ai (RO.nx ?_))))))))
    refine H0 (RO.nx (H0 (RO.nx (H0 (RO.nx (H0 (RO.nx (H0 ?_))))))))
    refine RO.nx (H0 (RO.nx (H0 (RO.nx (cH ai (RO.nx (iF ai (vb true) (RO.last ?_))))))))
    obtain rfl:=oi hj
    exact⟨rfl,j.sp 3 [0,1,2]⟩
   refine RO.nx (RL.move ah (cg ai) (RO.nx (RL.bM (hg:=(cg ai)) 0 o.1 j nN (RO.nx (RL.lN (o.1.length:Int) 0 (cg ai) (RO.nx (RL.move (vb (decide ((o.1.length:Int)>0))) (cg ai) (iA hj (fun af hj=>?_) fun af hj=>?_))))))))
   rotate_left
   ·refine RO.nx (cH af (RO.nx (cH af (RO.nx (cH af (RO.nx (cH af (RO.nx ?_))))))))
    refine cH af (RO.nx (cH af (RO.nx (cH af (RO.nx (iF af (vb false) (hg:=(cg ai)) (RO.nx (iF ai (vb false) ?_))))))))
    refine RO.last ?_
    obtain rfl:=oi hj
    exact⟨rfl,j.sp 3 [0,1,2]⟩
   refine RO.nx (RL.move ah (cg af) (RO.nx ?_))
   obtain⟨ax,bj,hj⟩:=bd hj
   refine RL.cJ (hg:=(cg af)) 0 j fI bj fun bx j=>(RO.nx (RL.cB (hg:=(cg af)) ax 0 j cW (RO.nx (RL.move ad (cg af) (RO.nx ?_)))))
   obtain⟨ay,bk,hj⟩:=bd hj
   refine RL.cJ (hg:=(cg af)) 2 j fI bk fun bz j=>(RO.nx (RL.cB (hg:=(cg af)) ay 0 j cW (RO.nx (RL.lN ax ay (cg af) (RO.nx (iF af (vb (decide (ax<=ay))) (hg:=(cg ai)) (RO.nx (iF ai (vb (decide (ax<=ay))) ?_))))))))
   refine RO.last ?_
   obtain rfl:=oi hj
   exact⟨rfl,j.sp 5 [2,3,4]⟩
  rintro _ w ⟨O,rfl,j⟩
  refine aG ?_
  obtain⟨ag,hj,hb⟩:=bd hb
  refine RC.jn (fun(ag:Int)=>SH E V [(0,ah),(1,ad),(2,v2),(7,ae),(8,vb o.2.2.2.1),(9,vb o.2.2.2.2.1),(10,vb o.2.2.2.2.2),(11,vi ag)] [rd ah o.1,rd ad o.2.1,own 3 ae o.2.2.1]) ag ?_ ?_
  ·refine fK hj (fun hc hj=>?_) fun hc hj=>?_
   ·refine RC.region (mv ah ?_)
    obtain⟨ba,bl,hj⟩:=bd hj
    refine RL.cJ 0 j fI bl fun b0 j=>(RL.cB ba 0 j cW (aT (vi ba) (RL.nil ?_)))
    obtain rfl:=oi hj
    exact⟨rfl,j.sp 4 [1,2,3]⟩
   refine RC.region (mv ad ?_)
   obtain⟨bb,bm,hj⟩:=bd hj
   refine RL.cJ 1 j fI bm fun b1 j=>(RL.cB bb 0 j cW (aT (vi bb) (RL.nil ?_)))
   obtain rfl:=oi hj
   exact⟨rfl,j.sp 4 [1,2,3]⟩
  rintro _ w ⟨O,rfl,j⟩
  refine aG (RC.seq (RC.seq ?_))
  obtain⟨a3,hj,hb⟩:=bd hb
  refine RC.jn (fun(a3:Bool)=>SH E V [(0,ah),(1,ad),(2,v2),(7,ae),(8,vb o.2.2.2.1),(9,vb o.2.2.2.2.1),(10,vb o.2.2.2.2.2),(11,vi ag),(53,vb a3)] [rd ah o.1,rd ad o.2.1,own 3 ae o.2.2.1]) a3 ?_ ?_
  ·refine RC.region (mv ah (RL.bM 0 o.1 j nN (ic ((o.1.length:Int)) 0 (mv (vb (decide ((o.1.length:Int)>0))) (iA hj (fun aj hj=>?_) fun aj hj=>?_)))))
   rotate_left
   ·refine cH aj (cH aj (cH aj (cH aj (cH aj (iF aj (vb false) (RL.nil ?_))))))
    obtain rfl:=oi hj
    exact⟨rfl,j.sp 3 [0,1,2]⟩
   refine RL.move ah (cg aj) ?_
   obtain⟨a4,bn,hj⟩:=bd hj
   refine RL.cJ (hg:=(cg aj)) 0 j fI bn fun b2 j=>(RL.cB (hg:=(cg aj)) a4 0 j cW (RL.move (vi ag) (cg aj) (RL.lN a4 ag (cg aj) (iF aj (vb (a4==ag)) (RL.nil ?_)))))
   obtain rfl:=oi hj
   exact⟨rfl,j.sp 4 [1,2,3]⟩
  rintro _ w ⟨O,rfl,j⟩
  refine aG ?_
  obtain⟨al,hj,hb⟩:=bd hb
  refine RC.jn (fun(al: (List Int)×Bool) U w=>∃an:Value,SH E V [(0,an),(1,ad),(2,v2),(7,ae),(8,vb al.2),(9,vb o.2.2.2.2.1),(10,vb o.2.2.2.2.2),(11,vi ag)] [rd ad o.2.1,own 3 ae o.2.2.1,rd an al.1] U w) al ?_ ?_
  ·refine fK hj (fun hc hj=>?_) fun hc hj=>?_
   rotate_left
   ·refine RC.skip ?_
    obtain rfl:=oi hj
    exact⟨rfl,ah,j.sp 3 [1,2,0]⟩
   refine RC.region (mv ah ?_)
   obtain⟨b3,bo,hj⟩:=bd hj
   refine RL.cut 0 j fI (.inr ⟨rfl,zr⟩) bo fun bc j=>(mv (vb o.2.2.2.1) (RL.not o.2.2.2.1 (aT bc (aT (vb (!o.2.2.2.1)) (RL.nil ?_)))))
   obtain rfl:=oi hj
   exact⟨rfl,bc,j.sp 4 [2,3,0]⟩
  rintro _ w ⟨an,O,rfl,j⟩
  refine aG (RC.seq (RC.seq ?_))
  obtain⟨a5,hj,hb⟩:=bd hb
  refine RC.jn (fun(a5:Bool)=>SH E V [(0,an),(1,ad),(2,v2),(7,ae),(8,vb al.2),(9,vb o.2.2.2.2.1),(10,vb o.2.2.2.2.2),(11,vi ag),(67,vb a5)] [rd an al.1,rd ad o.2.1,own 3 ae o.2.2.1]) a5 ?_ ?_
  ·refine RC.region (mv ad (RL.bM 0 o.2.1 j nN (ic ((o.2.1.length:Int)) 0 (mv (vb (decide ((o.2.1.length:Int)>0))) (iA hj (fun ak hj=>?_) fun ak hj=>?_)))))
   rotate_left
   ·refine cH ak (cH ak (cH ak (cH ak (cH ak (iF ak (vb false) (RL.nil ?_))))))
    obtain rfl:=oi hj
    exact⟨rfl,j.sp 3 [2,0,1]⟩
   refine RL.move ad (cg ak) ?_
   obtain⟨a6,bp,hj⟩:=bd hj
   refine RL.cJ (hg:=(cg ak)) 0 j fI bp fun b4 j=>(RL.cB (hg:=(cg ak)) a6 0 j cW (RL.move (vi ag) (cg ak) (RL.lN a6 ag (cg ak) (iF ak (vb (a6==ag)) (RL.nil ?_)))))
   obtain rfl:=oi hj
   exact⟨rfl,j.sp 4 [3,1,2]⟩
  rintro _ w ⟨O,rfl,j⟩
  refine aG ?_
  obtain⟨ar,hj,hb⟩:=bd hb
  refine RC.jn (fun(ar: (List Int)×Bool) U w=>∃au:Value,SH E V [(0,an),(1,au),(2,v2),(7,ae),(8,vb al.2),(9,vb ar.2),(10,vb o.2.2.2.2.2),(11,vi ag)] [rd an al.1,own 3 ae o.2.2.1,rd au ar.1] U w) ar ?_ ?_
  ·refine fK hj (fun hc hj=>?_) fun hc hj=>?_
   rotate_left
   ·refine RC.skip ?_
    obtain rfl:=oi hj
    exact⟨rfl,ad,j.sp 3 [0,2,1]⟩
   refine RC.region (mv ad ?_)
   obtain⟨b5,bq,hj⟩:=bd hj
   refine RL.cut 1 j fI (.inr ⟨rfl,zr⟩) bq fun bf j=>(mv (vb o.2.2.2.2.1) (RL.not o.2.2.2.2.1 (aT bf (aT (vb (!o.2.2.2.2.1)) (RL.nil ?_)))))
   obtain rfl:=oi hj
   exact⟨rfl,bf,j.sp 4 [1,3,0]⟩
  rintro _ w ⟨au,O,rfl,j⟩
  refine aG (RC.sr (mv v2 (mv (vb al.2) (mv (vb ar.2) ?_))))
  have j:=(j.sc Bool al.2).sc Bool ar.2
  obtain⟨aw,br,hb⟩:=bd hb
  refine RL.EK 1 0 zt zr j zr h2 5 zr zr zr zr zr br fun w j=>(aT (vb aw) (RL.ns (mv (vb aw) (mv (vb o.2.2.2.2.2) (RL.JH (a:=aw) (b:=o.2.2.2.2.2) zt zr zr zr N5 (RL.nt ?_))))))
  obtain⟨az,hj,hb⟩:=bd hb
  refine RC.jn (fun(az: (List Int)×Bool) U w=>∃a0:Value,SH E V [(0,an),(1,au),(2,v2),(7,a0),(8,vb al.2),(9,vb ar.2),(10,vb az.2)] [rd an al.1,rd au ar.1,own 3 a0 az.1] U w) az ?_ ?_
  ·refine fK hj (fun hc hj=>?_) fun hc hj=>?_
   rotate_left
   ·refine RC.skip ?_
    obtain rfl:=oi hj
    exact⟨rfl,ae,j.sp 5 [2,4,3]⟩
   refine RC.region (mv ae (mv (vi ag) ?_))
   have j:=j.sc Int ag
   refine RL.fR ([ag]: (List Int)) j [(vi ag)] fI Hy (fun M hs g=>⟨(g.sat 0 _ zr).1,zt⟩) fun b6 w j=>?_
   have j:=j.freeze 0
   obtain⟨b7,bt,hj⟩:=bd hj
   refine RL.app 5 0 j wB bt fun bg w j=>?_
   refine mv (vb aw) (aT bg (aT (vb aw) (RL.nil ?_)))
   obtain rfl:=oi hj
   exact⟨rfl,bg,j.sp 7 [4,6,5]⟩
  rintro _ w ⟨a0,O,rfl,j⟩
  refine cA ?_
  obtain rfl:=oi hb
  exact⟨rfl,an,au,a0,j.sp 3 [0,1,2]⟩
 ·intro r _ _ _ _
  exact r.elim
 rintro o _ w rfl ⟨av,O,rfl,j⟩
 rw [Fo.gm] at hb
 refine aG (RC.sr (mv av (aT av (RL.nt (RC.ret ?_)))))
 obtain rfl:=oi hb
 exact cK (j.pk 1 [0])
theorem zG {p0: (List aA)} {p1: (List aA)} {p2:Bool->Bool->Option Bool} {res: (List aA)} (j:Holds E w V) (h0:V[i0]? =some (rd v0 p0)) (h1:V[i1]? =some (rd v1 p1)) (h2:Ld bN E V v2 p2 (fun(r:Bool)=>Value.bool r)) (o:oF N p0 p1 p2=some res):
    Calls bN 114 [v0,v1,v2].toArray w (iE (my E V res)):=by
 unfold oF at o
 refine enter Tryz.func114 zr zr ?_
 have j:=(j.dup (i0+0) h0).dup (i1+1) h1
 refine RC.sr (aT (.slice none 0 0) (RL.ns (aT (.slice none 0 0) (RL.nq (RC.sr (mv v0 (RL.bM 1 p0 j o6 (mv v1 ?_))))))))
 refine RL.bM 0 p1 j o6 (RL.ja (p0.length:Int) (p1.length:Int) (ic ((IntKind.wrap .i64 ((p0.length:Int)+ (p1.length:Int)))) 0 (RL.nt (fK o (fun hc o=>?_) fun hc o=>?_))))
 ·refine RC.sr (aT (.slice none 0 0) (RL.nt (RC.rt ?_)))
  obtain rfl:=oi o
  have j:=j.eC aA 187
  exact cK (j.pk 3 [0])
 refine RC.sx (aT (vi 0) (aT (vi 0) (RL.nq (RC.sr (mv v0 (mv v1 (RL.fR ([p0,p1]: (List (List aA))) j [v0,v1] DK Ic (fun M hs g=>⟨(g.sat 1 _ zr).1,⟨(g.sat 0 _ zr).1,zt⟩⟩) fun ar w j=>(RL.gK 0 ([p0,p1]: (List (List aA))) j KJ ?_))))))))
 refine mv (vi 0) (RL.nt ?_)
 obtain⟨ad,hN,o⟩:=bd o
 refine RC.fold (fun(aj:Nat) (ad:Int×Int)=>SH E V [(0,v0),(1,v1),(2,v2),(7,(.slice none 0 0)),(8,vi ad.1),(9,vi ad.2),(25,ar),(26,(vi ((([p0,p1]: (List (List aA))).length:Nat):Int))),(27,vi aj)] [rd v0 p0,rd v1 p1,own 132 ar ([p0,p1]: (List (List aA)))]) (fun(ad:Int×Int)=>SH E V [(0,v0),(1,v1),(2,v2),(7,(.slice none 0 0)),(8,vi ad.1),(9,vi ad.2)] [rd v0 p0,rd v1 p1,own 132 ar ([p0,p1]: (List (List aA)))]) hN ?_ ?_ ?_ ?_
 ·exact j.sp 3 [2,1,0]
 ·rintro hm ad _ w ⟨O,rfl,j⟩
  refine RC.sr (ic (((([p0,p1]: (List (List aA))).length:Nat):Int)) (((([p0,p1]: (List (List aA))).length:Nat):Int)) (RL.nq (RC.dC oE (RC.ex ?_))))
  exact⟨rfl,j.sp 3 [0,1,2]⟩
 ·rintro hm aj ad s' _ w hk ⟨O,rfl,j⟩ o
  refine RC.sr (ic ((aj:Int)) (((([p0,p1]: (List (List aA))).length:Nat):Int)) (RL.nq (RC.dB (oD hk) (RC.ss (RC.bs (mv (vi aj) ?_))))))
  obtain⟨aw,a8,o⟩:=bd o
  refine RL.bU 2 j zr zr DK a8 (RL.lG (f:=(fun x=>x)) 2 j (jy 2 j a8 0) (bC a8).2.1 Fd.self KK fun ak j=>?_)
  refine aT (vi aj) (aT ak (RL.ns (mv ak (RL.bM 0 aw j o6 (ic ((aw.length:Int)) 0 (RL.nt ?_))))))
  obtain⟨a5,hj,o⟩:=bd o
  refine RC.jn (fun(a5:Int×Int)=>SH E V [(0,v0),(1,v1),(2,v2),(7,(.slice none 0 0)),(8,vi a5.1),(9,vi a5.2),(25,ar),(26,(vi ((([p0,p1]: (List (List aA))).length:Nat):Int))),(27,vi aj)] [rd v0 p0,rd v1 p1,own 132 ar ([p0,p1]: (List (List aA)))]) a5 ?_ ?_
  ·refine fK hj (fun hc hj=>?_) fun hc hj=>?_
   rotate_left
   ·refine RC.skip ?_
    obtain rfl:=oi hj
    exact⟨rfl,j.sp 4 [1,2,3]⟩
   refine RC.seq (RC.seq ?_)
   obtain⟨a9,hjj,hj⟩:=bd hj
   refine RC.jn (fun(a9:Bool)=>SH E V [(0,v0),(1,v1),(2,v2),(7,(.slice none 0 0)),(8,vi ad.1),(9,vi ad.2),(11,ak),(25,ar),(26,(vi ((([p0,p1]: (List (List aA))).length:Nat):Int))),(27,vi aj),(41,vb a9)] [rd v0 p0,rd v1 p1,rd ak aw,own 132 ar ([p0,p1]: (List (List aA)))]) a9 ?_ ?_
   ·refine RC.region (mv (vi aj) (ic ((aj:Int)) 0 (mv (vb ((aj:Int)==0)) (iA hjj (fun au hjj=>?_) fun au hjj=>?_))))
    ·refine cH au (cH au (cH au (iF au (vb true) (RL.nil ?_))))
     obtain rfl:=oi hjj
     exact⟨rfl,j.sp 4 [1,2,0,3]⟩
    refine RL.move v0 (cg au) (RL.bM (hg:=(cg au)) 1 p0 j o6 (RL.lN (p0.length:Int) 0 (cg au) (iF au (vb ((p0.length:Int)==0)) (RL.nil ?_))))
    obtain rfl:=oi hjj
    exact⟨rfl,j.sp 4 [1,2,0,3]⟩
   rintro _ w ⟨O,rfl,j⟩
   refine aG ?_
   obtain⟨al,hjj,hj⟩:=bd hj
   refine RC.jn (fun(al:Int×Int)=>SH E V [(0,v0),(1,v1),(2,v2),(7,(.slice none 0 0)),(8,vi al.1),(9,vi al.2),(11,ak),(25,ar),(26,(vi ((([p0,p1]: (List (List aA))).length:Nat):Int))),(27,vi aj)] [rd v0 p0,rd v1 p1,rd ak aw,own 132 ar ([p0,p1]: (List (List aA)))]) al ?_ ?_
   ·refine fK hjj (fun hc hjj=>?_) fun hc hjj=>?_
    rotate_left
    ·refine RC.skip ?_
     obtain rfl:=oi hjj
     exact⟨rfl,j.sp 4 [0,1,2,3]⟩
    refine RC.AA mixed ?_
    have j:=j.drew
    refine RO.go (mv ak (RO.nx ?_))
    obtain⟨bj,bw,hjj⟩:=bd hjj
    refine RL.cJ 2 j kY bw fun cd j=>(RO.nx (RL.iT 0 j zr pr gj fun cf j=>(RO.nx (RL.cB bj.Y0 0 j cW (RO.nx (mv ak (RO.nx (mv ak ?_))))))))
    refine RO.nx (RL.bM 4 aw j o6 (RO.nx (RL.ja (aw.length:Int) 1 (RO.nx ?_))))
    obtain⟨bk,bx,hjj⟩:=bd hjj
    refine RL.cJ 4 j kY bx fun ch j=>(RO.nx (RL.iT 0 j zr mV eY fun cj j=>(RO.nx (RL.cB bk.Y1 0 j cW (RO.nx (aT (vi bj.Y0) (RO.nx (aT (vi bk.Y1) ?_))))))))
    refine RO.last ?_
    obtain rfl:=oi hjj
    exact⟨rfl,j.sp 8 [4,5,6,7]⟩
   rintro _ w ⟨O,rfl,j⟩
   refine aG (RC.AA mixed ?_)
   have j:=j.drew
   refine RO.go (mv (vi al.1) (RO.nx (mv ak (RO.nx ?_))))
   obtain⟨a6,bz,hj⟩:=bd hj
   refine RL.cJ 2 j kY bz fun ck j=>(RO.nx (RL.iT 0 j zr pr gj fun cl j=>(RO.nx (RL.cB a6.Y0 0 j cW (RO.nx (RL.min al.1 a6.Y0 (RO.nx (mv (vi al.2) ?_))))))))
   refine RO.nx (mv ak (RO.nx (mv ak (RO.nx (RL.bM 4 aw j o6 (RO.nx (RL.ja (aw.length:Int) 1 (RO.nx ?_))))))))
   obtain⟨a7,b0,hj⟩:=bd hj
   refine RL.cJ 4 j kY b0 fun cm j=>(RO.nx (RL.iT 0 j zr mV eY fun cn j=>(RO.nx (RL.cB a7.Y1 0 j cW (RO.nx (RL.max al.2 a7.Y1 (RO.nx (aT (vi (if a6.Y0<al.1 then a6.Y0 else al.1)) ?_))))))))
   refine RO.nx (aT (vi (if al.2<a7.Y1 then a7.Y1 else al.2)) (RO.last ?_))
   obtain rfl:=oi hj
   exact⟨rfl,j.sp 8 [4,5,7]⟩
  rintro _ w ⟨O,rfl,j⟩
  refine cA (aG (RC.region (RL.inc hk hm (mv (vi ((aj+1:Nat):Int)) (RL.nil ?_)))))
  obtain rfl:=oi o
  exact⟨rfl,j.sp 3 [0,1,2]⟩
 rintro _ w ⟨O,rfl,j⟩
 refine aG (RC.seq ?_)
 obtain⟨cp,hN,o⟩:=bd o
 refine RC.iter (fun(aa: (List aA)×(List aA)×(List aA)×Int) U w=>∃bl bm bn:Value,SH E V [(0,bl),(1,bm),(2,v2),(7,bn),(8,vi aa.2.2.2),(9,vi ad.2)] [rd bl aa.1,rd bm aa.2.1,own 187 bn aa.2.2.1] U w) (fun(aa: (List aA)×(List aA)×(List aA)×Int) U w=>∃a2:Value,SH E V [(7,a2)] [own 187 a2 aa.2.2.1] U w) (fun(r:Empty) _ _=>r.elim) hN ?_ ?_ ?_ ?_
 ·have j:=j.eC aA 187
  exact⟨v0,v1,(.slice none 0 0),j.sp 4 [1,2,0]⟩
 ·rintro aa fl _ w ⟨b1,ay,ag,O,rfl,j⟩ o
  refine RC.seq (RC.sr (mv (vi aa.2.2.2) (mv (vi ad.2) (ic aa.2.2.2 ad.2 (RL.nt (fK o (fun hc o=>?_) fun hc o=>?_))))))
  rotate_left
  ·refine RC.ex ?_
   obtain rfl:=oi o
   exact⟨rfl,ag,j.sp 3 [2]⟩
  refine RC.sn (RC.block (RC.seq ?_))
  obtain⟨cq,hN,o⟩:=bd o
  refine RC.iter (fun(an: (List aA)) U w=>∃bp:Value,SH E V [(0,bp),(1,ay),(2,v2),(7,ag),(8,vi aa.2.2.2),(9,vi ad.2)] [rd ay aa.2.1,own 187 ag aa.2.2.1,rd bp an] U w) (fun(an: (List aA)) U w=>∃ao:Value,SH E V [(0,ao),(1,ay),(2,v2),(7,ag),(8,vi aa.2.2.2),(9,vi ad.2)] [rd ay aa.2.1,own 187 ag aa.2.2.1,rd ao an] U w) (fun(r:Empty) _ _=>r.elim) hN ?_ ?_ ?_ ?_
  ·exact⟨b1,j.sp 3 [1,2,0]⟩
  ·rintro an fl _ w ⟨az,O,rfl,j⟩ o
   refine RC.seq (RC.seq ?_)
   obtain⟨ba,hj,o⟩:=bd o
   refine RC.jn (fun(ba:Bool)=>SH E V [(0,az),(1,ay),(2,v2),(7,ag),(8,vi aa.2.2.2),(9,vi ad.2),(82,vb ba)] [rd az an,rd ay aa.2.1,own 187 ag aa.2.2.1]) ba ?_ ?_
   ·refine RC.region (mv az (RL.bM 2 an j o6 (ic ((an.length:Int)) 0 (mv (vb (decide ((an.length:Int)>0))) (iA hj (fun ah hj=>?_) fun ah hj=>?_)))))
    rotate_left
    ·refine cH ah (cH ah (cH ah (cH ah (cH ah (cH ah (iF ah (vb false) (RL.nil ?_)))))))
     obtain rfl:=oi hj
     exact⟨rfl,j.sp 3 [2,0,1]⟩
    refine RL.move az (cg ah) ?_
    obtain⟨bb,b2,hj⟩:=bd hj
    refine RL.cJ (hg:=(cg ah)) 2 j kY b2 fun cr j=>(RL.iT (hg:=(cg ah)) 0 j zr mV eY fun ct j=>(RL.cB (hg:=(cg ah)) bb.Y1 0 j cW (RL.move (vi aa.2.2.2) (cg ah) (RL.lN bb.Y1 aa.2.2.2 (cg ah) (iF ah (vb (decide (bb.Y1<=aa.2.2.2))) (RL.nil ?_))))))
    obtain rfl:=oi hj
    exact⟨rfl,j.sp 5 [4,2,3]⟩
   rintro _ w ⟨O,rfl,j⟩
   refine aG (fK o (fun hc o=>?_) fun hc o=>?_)
   rotate_left
   ·refine RC.ex ?_
    obtain rfl:=oi o
    exact⟨rfl,az,j.sp 3 [1,2,0]⟩
   refine RC.sn (RC.block (RC.region (mv az ?_)))
   obtain⟨cu,b3,o⟩:=bd o
   refine RL.cut 0 j kY (.inr ⟨rfl,zr⟩) b3 fun bq j=>(aT bq (RL.nil (cA ?_)))
   obtain rfl:=oi o
   exact⟨rfl,bq,j.sp 4 [2,3,0]⟩
  ·intro r _ _ _ _
   exact r.elim
  rintro an _ w rfl ⟨ao,O,rfl,j⟩
  rw [Fo.gm] at o
  refine aG (RC.seq ?_)
  obtain⟨cv,hN,o⟩:=bd o
  refine RC.iter (fun(av: (List aA)) U w=>∃br:Value,SH E V [(0,ao),(1,br),(2,v2),(7,ag),(8,vi aa.2.2.2),(9,vi ad.2)] [rd ao an,own 187 ag aa.2.2.1,rd br av] U w) (fun(av: (List aA)) U w=>∃a0:Value,SH E V [(0,ao),(1,a0),(2,v2),(7,ag),(8,vi aa.2.2.2),(9,vi ad.2)] [rd ao an,own 187 ag aa.2.2.1,rd a0 av] U w) (fun(r:Empty) _ _=>r.elim) hN ?_ ?_ ?_ ?_
  ·exact⟨ay,j.sp 3 [2,1,0]⟩
  ·rintro av fl _ w ⟨a1,O,rfl,j⟩ o
   refine RC.seq (RC.seq ?_)
   obtain⟨bc,hj,o⟩:=bd o
   refine RC.jn (fun(bc:Bool)=>SH E V [(0,ao),(1,a1),(2,v2),(7,ag),(8,vi aa.2.2.2),(9,vi ad.2),(95,vb bc)] [rd ao an,rd a1 av,own 187 ag aa.2.2.1]) bc ?_ ?_
   ·refine RC.region (mv a1 (RL.bM 2 av j o6 (ic ((av.length:Int)) 0 (mv (vb (decide ((av.length:Int)>0))) (iA hj (fun ai hj=>?_) fun ai hj=>?_)))))
    rotate_left
    ·refine cH ai (cH ai (cH ai (cH ai (cH ai (cH ai (iF ai (vb false) (RL.nil ?_)))))))
     obtain rfl:=oi hj
     exact⟨rfl,j.sp 3 [0,2,1]⟩
    refine RL.move a1 (cg ai) ?_
    obtain⟨bf,b4,hj⟩:=bd hj
    refine RL.cJ (hg:=(cg ai)) 2 j kY b4 fun cw j=>(RL.iT (hg:=(cg ai)) 0 j zr mV eY fun cx j=>(RL.cB (hg:=(cg ai)) bf.Y1 0 j cW (RL.move (vi aa.2.2.2) (cg ai) (RL.lN bf.Y1 aa.2.2.2 (cg ai) (iF ai (vb (decide (bf.Y1<=aa.2.2.2))) (RL.nil ?_))))))
    obtain rfl:=oi hj
    exact⟨rfl,j.sp 5 [2,4,3]⟩
   rintro _ w ⟨O,rfl,j⟩
   refine aG (fK o (fun hc o=>?_) fun hc o=>?_)
   rotate_left
   ·refine RC.ex ?_
    obtain rfl:=oi o
    exact⟨rfl,a1,j.sp 3 [0,2,1]⟩
   refine RC.sn (RC.block (RC.region (mv a1 ?_)))
   obtain⟨cy,b5,o⟩:=bd o
   refine RL.cut 1 j kY (.inr ⟨rfl,zr⟩) b5 fun bt j=>(aT bt (RL.nil (cA ?_)))
   obtain rfl:=oi o
   exact⟨rfl,bt,j.sp 4 [1,3,0]⟩
  ·intro r _ _ _ _
   exact r.elim
  rintro av _ w rfl ⟨a0,O,rfl,j⟩
  rw [Fo.gm] at o
  refine aG (RC.sr (mv ao (mv (vi aa.2.2.2) (mv (vi ad.2) ?_))))
  obtain⟨ae,b6,o⟩:=bd o
  refine RL.call zt zr KL [ao,(vi aa.2.2.2),(vi ad.2)] zr (aF (sK N (p1:=aa.2.2.2) (p2:=ad.2) (i0:=0) j zr b6) ?_)
  rintro _ w ⟨a3,rfl,j⟩
  refine mv (.tuple #[a3,(vi ae.2)]) (RL.extract a3 (RL.extract (vi ae.2) (aT a3 (aT (vi ae.2) (RL.ns (mv a0 (mv (vi aa.2.2.2) (mv (vi ad.2) ?_))))))))
  obtain⟨af,b7,o⟩:=bd o
  refine RL.call zt zr KL [a0,(vi aa.2.2.2),(vi ad.2)] zr (aF (sK N (p1:=aa.2.2.2) (p2:=ad.2) (i0:=3) j zr b7) ?_)
  rintro _ w ⟨a4,rfl,j⟩
  refine mv (.tuple #[a4,(vi af.2)]) (RL.extract a4 (RL.extract (vi af.2) (aT a4 (aT (vi af.2) (RL.ns (mv (vi ae.2) (mv (vi af.2) (RL.min ae.2 af.2 ?_))))))))
  refine aT (vi (if af.2<ae.2 then af.2 else ae.2)) (RL.ns (mv ag (mv (vi aa.2.2.2) (mv (vi (if af.2<ae.2 then af.2 else ae.2)) (mv a3 (mv a4 (mv v2 ?_)))))))
  obtain⟨b8,b9,o⟩:=bd o
  refine RL.call zt zr MT [a3,a4,v2] zr (aF (AN N (i0:=1) (i1:=0) j zr zr (h2.lift 5 zr) b9) ?_)
  rintro ca w j
  have j:=((j.sc Int aa.2.2.2).sc Int (if af.2<ae.2 then af.2 else ae.2)).freeze 2
  refine RL.build (⟨aa.2.2.2,(if af.2<ae.2 then af.2 else ae.2),b8⟩:aA) trivial rfl j [(0,vi aa.2.2.2),(1,(vi (if af.2<ae.2 then af.2 else ae.2))),(2,ca)] rfl KF rfl (fun M hs g=>by have h:=wA M;exact dA.cons (f:=fun(x:aA) y=>{x with Y0:=y}) h sH (g.sat 1 _ rfl).1 fun _ h=>dA.cons (f:=fun(x:aA) y=>{x with Y1:=y}) h oS (g.sat 0 _ rfl).1 fun _ h=>dA.cons (f:=fun(x:aA) y=>{x with Xs:=y}) h sI (g.sat 2 _ rfl).1 fun _ h=>dA.nil h) fun cb j=>?_
  have j:=j.pull 7
  obtain⟨cz,cc,o⟩:=bd o
  refine RL.call zt zr KG [ag,cb] zr (aF (qD N (i1:=0) j zr cc) ?_)
  rintro bu w j
  refine aT bu (RL.nt (RC.region (mv (vi (if af.2<ae.2 then af.2 else ae.2)) (aT (vi (if af.2<ae.2 then af.2 else ae.2)) (RL.nil (cA ?_))))))
  obtain rfl:=oi o
  exact⟨rfl,ao,a0,bu,j.sp 10 [7,9,0]⟩
 ·intro r _ _ _ _
  exact r.elim
 rintro aa _ w rfl ⟨a2,O,rfl,j⟩
 rw [Fo.gm] at o
 refine aG (RC.sr (mv a2 (aT a2 (RL.nt (RC.ret ?_)))))
 obtain rfl:=oi o
 exact cK (j.pk 1 [0])
theorem tJ {p0 p1 res:Bool} (o:Holds E w V) (j:nv N p0 p1=some res):
    Calls bN 115 [(vb p0),(vb p1)].toArray w (iE (bV E V res)):=by
 unfold nv at j
 refine enter Tryz.func115 rfl rfl (RC.sr (aT (vb false) (RL.ns (mv (vb p0) (mv (vb p0) (RL.gs true p0 (vb p1) rfl rfl rfl dW (RL.gs true p0 (vb (!p1)) rfl rfl rfl (Lb p1 rfl (fun h=>by exact(dG h:cv (true&&(p0==true)) (vb p1)= (vb p1)))) (RL.pick p0 (vb (p0&&(!p1))) (kg true) ?_))))))))
 refine aT (vb (p0&&(!p1))) (RL.nt (RC.ret ?_))
 obtain rfl:=oi j
 exact cK ⟨rfl,o.drop 0⟩
theorem wM {p0: (List aA)} {p1: (List aA)} {res: (List aA)} (o:Holds E w V) (h0:V[i0]? =some (rd v0 p0)) (h1:V[i1]? =some (rd v1 p1)) (hb:kn N p0 p1=some res):
    Calls bN 80 [v0,v1].toArray w (iE (my E V res)):=by
 unfold kn at hb
 refine enter Tryz.func80 zr zr ?_
 have o:=(o.dup (i0+0) h0).dup (i1+1) h1
 refine RC.sr (aT (.slice none 0 0) (RL.ns (mv v0 (mv v1 ?_))))
 obtain⟨af,ab,hb⟩:=bd hb
 refine RL.call trivial rfl MV [v0,v1,(.func (.func 115) #[] #[])] rfl (aF (zG N (i0:=1) (i1:=0) o rfl rfl ⟨115,[],rfl,MU,fun w Γl v v' y0 y1 r i j o hi hj hr=>by obtain rfl:=o.C4 (γ:=Bool) hi;obtain rfl:=o.C4 (γ:=Bool) hj;exact aF (tJ N (p0:=y0) (p1:=y1) o hr) fun _ _ h=>h⟩ ab) ?_)
 rintro ae w o
 refine aT ae (RL.nt (RC.ret ?_))
 obtain rfl:=oi hb
 exact cK (o.pk 3 [0])
theorem wN {p0: (List aA)} (j:Holds E w V) (h0:V[i0]? =some (rd v0 p0)) (hb:lT N p0=some res):
    Calls bN 81 [v0].toArray w (iE (aS E V res)):=by
 unfold lT at hb
 refine enter Tryz.func81 zr zr ?_
 have j:=j.dup (i0+0) h0
 refine RC.sr (aT (vi 0) (RL.ns (aT (vi 0) (RL.nq (RC.sr (mv v0 (RL.bM 0 p0 j o6 (mv (vi 0) ?_))))))))
 refine RL.nt ?_
 obtain⟨o,hN,hb⟩:=bd hb
 refine RC.fold (fun(ad:Nat) (o:Int)=>SH E V [(3,vi o),(6,v0),(7,vi p0.length),(8,vi ad)] [rd v0 p0]) (fun(o:Int)=>SH E V [(3,vi o)] [rd v0 p0]) hN ?_ ?_ ?_ ?_
 ·exact j.sp 1 [0]
 ·rintro hm o _ w ⟨O,rfl,j⟩
  refine RC.sr (ic ((p0.length:Int)) ((p0.length:Int)) (RL.nq (RC.dC oE (RC.ex ?_))))
  exact⟨rfl,j.sp 1 [0]⟩
 ·rintro hm ad o s' _ w hk ⟨O,rfl,j⟩ hb
  refine RC.sr (ic ((ad:Int)) ((p0.length:Int)) (RL.nq (RC.dB (oD hk) (RC.ss (RC.bs ?_)))))
  obtain⟨ab,ah,hb⟩:=bd hb
  refine RL.cJ 0 j kY ah fun ai j=>(RL.bY 0 ab j wC fun aj j=>(RL.alloc j DG.z fun ak w j=>?_))
  refine RL.bW 0 j 1 zr wC fun w j=>?_
  refine RL.nt (RC.region (mv (vi o) (RL.bO zr lH (RL.aV 0 j zr dP gx fun al j=>(RL.bM 0 ab.Xs j nN (RL.quo (ab.Xs.length:Int) 2 zr (RL.ja o (IntKind.wrap .i64 (Int.tdiv (ab.Xs.length:Int) 2)) (aT (vi (IntKind.wrap .i64 (o+ (IntKind.wrap .i64 (Int.tdiv (ab.Xs.length:Int) 2))))) ?_))))))))
  refine RL.nil (cA (aG (RC.region (RL.inc hk hm (mv (vi ((ad+1:Nat):Int)) (RL.nil ?_))))))
  obtain rfl:=oi hb
  exact⟨rfl,j.sp 5 [4]⟩
 rintro _ w ⟨O,rfl,j⟩
 refine aG (RC.sr (mv (vi o) (aT (vi o) (RL.nt (RC.ret ?_)))))
 obtain rfl:=oi hb
 exact cK ⟨rfl,j.drop 1⟩
def tK (E:World) (V:List HP) (b1:Nat) (res:Int×(List Int)) (v:Value) (w:World):Prop:=∃u1_0:Value,v= (vi res.1)/\Holds E w ([bc 87 b1 [u1_0],own 3 u1_0 res.2]++V)
theorem lB {p1_0: (List Int)} {res:Int×(List Int)} (j:Holds E w (bc 87 b1 [v1_0]::own 3 v1_0 p1_0::V)) (o:eQ N p0 p1_0=some res):
    Calls bN 116 [(vi p0),(vp b1 0)].toArray w (iE (tK E V b1 res)):=by
 unfold eQ at o
 refine enter Tryz.func116 zr zr (RC.sr (aT (vi 0) (RL.nq ?_)))
 obtain⟨an,hN,o⟩:=bd o
 refine RC.iter (fun(aa:Int×(List Int))=>SH E V [(0,vi aa.1),(1,vp b1 0)] [bc 87 b1 [v1_0],own 3 v1_0 aa.2]) (fun(aa:Int×(List Int))=>SH E V [(0,vi aa.1),(1,vp b1 0)] [bc 87 b1 [v1_0],own 3 v1_0 aa.2]) (fun(r:Empty) _ _=>r.elim) hN ?_ ?_ ?_ ?_
 ·exact j.sp 2 [0,1]
 ·rintro aa fl _ w ⟨O,rfl,j⟩ o
  refine RC.seq (RC.sr (RL.bS 0 v1_0 j gx (mv (vi aa.1) ?_)))
  obtain⟨ai,ab,o⟩:=bd o
  refine RL.bU 1 j zr zr fI ab (RL.dE (f:=(fun x=>x)) 1 j (jy 1 j ab 0) (bC ab).2.1 Fd.self cW (mv (vi aa.1) (ic ai aa.1 (RL.nt (fK o (fun hc o=>?_) fun hc o=>?_)))))
  rotate_left
  ·refine RC.ex ?_
   obtain rfl:=oi o
   exact⟨rfl,j.sp 2 [0,1]⟩
  refine RC.sn (RC.block (RC.seq (RC.AE mixed [0,0,0,0,0,0,0,0,0,0,2] [0,1,2,3,4,5,6,7,8,9,10] ?_)))
  have j:=j.drew
  refine DP.e0 zr (RL.bS 0 v1_0 j gx (cM zr (mv (vi aa.1) (cM zr (RL.bS 0 v1_0 j gx (cM zr (RL.bS 0 v1_0 j gx (cM zr ?_))))))))
  refine mv (vi aa.1) (cM zr ?_)
  obtain⟨aq,ad,o⟩:=bd o
  refine RL.bU 1 j zr zr fI ad (cM zr (RL.dE (f:=(fun x=>x)) 1 j (jy 1 j ad 0) (bC ad).2.1 Fd.self cW (cM zr ?_)))
  obtain⟨ak,ae,o⟩:=bd o
  refine RL.bU 1 j zr zr fI ae (cM zr (RL.dE (f:=(fun x=>x)) 1 j (jy 1 j ae 0) (bC ae).2.1 Fd.self cW (cM zr ?_)))
  obtain⟨ar,af,o⟩:=bd o
  refine RL.bU 1 j zr zr fI af (xt zr ?_)
  have j:=j.sc Int ak
  refine RL.fQ (f:=(fun _ y=>y)) 2 0 j (jy 2 j af 0) (bC af).2.1 zr Fs.self cW fun w j=>?_
  refine DP.d2 zt (DP.z (aG (RC.region (RL.bS 1 v1_0 j gx (mv (vi aa.1) ?_)))))
  obtain⟨al,ag,o⟩:=bd o
  refine RL.bU 2 j zr zr fI ag (RL.dE (f:=(fun x=>x)) 2 j (jy 2 j ag 0) (bC ag).2.1 Fd.self cW (aT (vi al) (RL.nil (cA ?_))))
  obtain rfl:=oi o
  exact⟨rfl,j.sp 3 [1,2]⟩
 ·intro r _ _ _ _
  exact r.elim
 rintro aa _ w rfl ⟨O,rfl,j⟩
 rw [Fo.gm] at o
 refine aG (RC.sr (mv (vi aa.1) (aT (vi aa.1) (RL.nt (RC.ret ?_)))))
 obtain rfl:=oi o
 exact cK ⟨v1_0,zr,j.pk 2 [0,1]⟩
def wO (E:World) (V:List HP) (res: (List (List aA))) (v:Value) (w:World):Prop:=Holds E w ([own 132 v res]++V)
theorem vM {p0: (List aA)} {res: (List (List aA))} (o:Holds E w V) (h0:V[i0]? =some (rd v0 p0)) (hb:kV N p0=some res):
    Calls bN 82 [v0].toArray w (iE (wO E V res)):=by
 unfold kV at hb
 refine enter Tryz.func82 zr zr ?_
 have o:=o.dup (i0+0) h0
 refine RC.sr (aT (.slice none 0 0) (RL.ns (mv v0 ?_)))
 obtain⟨aq,c7,hb⟩:=bd hb
 refine RL.call zt zr Lz [v0] zr (aF (mZ N (i0:=0) o zr c7) ?_)
 rintro ah w o
 refine aT ah (RL.ns (mv ah (RL.gK 0 aq o tw ?_)))
 obtain⟨bn,c8,hb⟩:=bd hb
 refine RL.mk (aq.length:Int) o wB L5 c8 fun ba w o=>?_
 refine RL.jN o Mp fun ag w o=>?_
 refine RL.jg 0 ba o zr zr (jM 1 o) gx fun w o=>?_
 refine RL.nq (RC.sr (RL.bS 0 ba o gx (RL.gK 1 bn o nN (mv (vi 0) (RL.nt ?_)))))
 obtain⟨bk,hN,hb⟩:=bd hb
 refine RC.fold (fun(a8:Nat) (bk: (List Int))=>SH E V [(0,v0),(3,ah),(4,vp ag 0),(32,vi bn.length),(33,vi a8)] [rd v0 p0,own 74 ah aq,bc 87 ag [ba],own 3 ba bk]) (fun(bk: (List Int))=>SH E V [(0,v0),(3,ah),(4,vp ag 0)] [rd v0 p0,own 74 ah aq,bc 87 ag [ba],own 3 ba bk]) hN ?_ ?_ ?_ ?_
 ·exact o.sp 4 [3,2,0,1]
 ·rintro hm bk _ w ⟨O,rfl,o⟩
  refine RC.sr (ic ((bn.length:Int)) ((bn.length:Int)) (RL.nq (RC.dC oE (RC.ex ?_))))
  exact⟨rfl,o.sp 4 [0,1,2,3]⟩
 ·rintro hm a8 bk s' _ w hk ⟨O,rfl,o⟩ hb
  refine RC.sr (ic ((a8:Int)) ((bn.length:Int)) (RL.nq (RC.dB (oD hk) (RC.ss (RC.bs (mv (vi a8) (aT (vi a8) (RL.nt ?_))))))))
  refine RC.region (RL.bS 2 ba o gx (mv (vi a8) (mv (vi a8) ?_)))
  obtain⟨du,cb,hb⟩:=bd hb
  refine RL.bU 3 o zr zr fI cb ?_
  have o:=o.sc Int (a8:Int)
  refine RL.fQ (f:=(fun _ y=>y)) 4 0 o (jy 4 o cb 0) (bC cb).2.1 zr Fs.self cW fun w o=>?_
  refine RL.nil (cA (aG (RC.region (RL.inc hk hm (mv (vi ((a8+1:Nat):Int)) (RL.nil ?_))))))
  obtain rfl:=oi hb
  exact⟨rfl,o.sp 5 [1,2,3,4]⟩
 rintro _ w ⟨O,rfl,o⟩
 refine aG (RC.sr (RL.makeFunc [(vp ag 0)] (aT (.func (.func 116) #[] #[(vp ag 0)]) (RL.ns (aT (vi 0) (aT (vi 0) (RL.nq (RC.sr ?_))))))))
 refine mv v0 (RL.bM 0 p0 o o6 (mv (vi 0) (RL.nt ?_)))
 obtain⟨ad,hN,hb⟩:=bd hb
 refine RC.fold (fun(ay:Nat) (ad: (List Int)×Int×Int) U w=>∃ct:Value,SH E V [(0,v0),(3,ah),(4,vp ag 0),(6,(.func (.func 116) #[] #[(vp ag 0)])),(7,vi ad.2.1),(8,vi ad.2.2),(42,v0),(43,vi p0.length),(44,vi ay)] [rd v0 p0,own 74 ah aq,bc 87 ag [ct],own 3 ct ad.1] U w) (fun(ad: (List Int)×Int×Int) U w=>∃br:Value,SH E V [(3,ah),(6,(.func (.func 116) #[] #[(vp ag 0)]))] [rd v0 p0,own 74 ah aq,bc 87 ag [br],own 3 br ad.1] U w) hN ?_ ?_ ?_ ?_
 ·exact⟨ba,o.sp 4 [0,1,2,3]⟩
 ·rintro hm ad _ w ⟨c9,O,rfl,o⟩
  refine RC.sr (ic ((p0.length:Int)) ((p0.length:Int)) (RL.nq (RC.dC oE (RC.ex ?_))))
  exact⟨rfl,c9,o.sp 4 [0,1,2,3]⟩
 ·rintro hm ay ad s' _ w hk ⟨bt,O,rfl,o⟩ hb
  refine RC.sr (ic ((ay:Int)) ((p0.length:Int)) (RL.nq (RC.dB (oD hk) (RC.ss (RC.bs (mv (vi ay) ?_))))))
  obtain⟨an,da,hb⟩:=bd hb
  refine RL.cJ 0 o kY da fun dv o=>(RL.bY 0 an o wC fun dw o=>(RL.alloc o DG.z fun dx w o=>?_))
  refine aT (vi ay) (RL.bW 0 o 1 zr wC fun w o=>?_)
  refine RL.ns (RL.bO zr lH (RL.aV 0 o zr dP gx fun dy o=>(RL.bM 0 an.Xs o nN (RL.quo (an.Xs.length:Int) 2 zr (aT (vi (IntKind.wrap .i64 (Int.tdiv (an.Xs.length:Int) 2))) (RL.nq (RC.seq ?_)))))))
  obtain⟨cc,hj,hb⟩:=bd hb
  refine RC.jn (fun(cc:Bool)=>SH E V [(0,v0),(3,ah),(4,vp ag 0),(6,(.func (.func 116) #[] #[(vp ag 0)])),(7,vi ad.2.1),(8,vi ad.2.2),(11,(vi (IntKind.wrap .i64 (Int.tdiv (an.Xs.length:Int) 2)))),(42,v0),(43,vi p0.length),(44,vi ay),(65,vb cc)] [rd v0 p0,own 74 ah aq,bc 87 ag [bt],own 3 bt ad.1]) cc ?_ ?_
  ·refine RC.AA mixed ?_
   have o:=o.drew
   refine RO.go (mv (vi ay) (RO.nx (ic ((ay:Int)) 0 (RO.nx (mv (vb (decide ((ay:Int)>0))) (iA hj (fun aw hj=>?_) fun aw hj=>?_))))))
   rotate_left
   ·refine RO.nx (cH aw (RO.nx (cH aw (RO.nx (cH aw (RO.nx (cH aw (RO.nx ?_))))))))
    refine cH aw (RO.nx (cH aw (RO.nx (cH aw (RO.nx (cH aw (RO.nx (cH aw ?_))))))))
    refine RO.nx (iF aw (vb false) (RO.last ?_))
    obtain rfl:=oi hj
    exact⟨rfl,o.sp 8 [4,5,6,7]⟩
   refine RO.nx (RL.move v0 (cg aw) (RO.nx (RL.move (vi ay) (cg aw) (RO.nx (RL.ja (hg:=(cg aw)) (ay:Int) 1 (RO.nx ?_))))))
   obtain⟨cd,db,hj⟩:=bd hj
   refine RL.cJ (hg:=(cg aw)) 4 o kY db fun dz o=>(RO.nx (RL.iT (hg:=(cg aw)) 0 o zr mV eY fun d0 o=>(RO.nx (RL.cB (hg:=(cg aw)) cd.Y1 0 o cW (RO.nx (RL.bO (hg:=(cg aw)) zr pr (RO.nx (RL.aR (hg:=(cg aw)) 3 o zr gj cW ?_))))))))
   refine RO.nx (RL.lN cd.Y1 an.Y0 (cg aw) (RO.nx (iF aw (vb (cd.Y1==an.Y0)) (RO.last ?_))))
   obtain rfl:=oi hj
   exact⟨rfl,o.sp 10 [6,7,8,9]⟩
  rintro _ w ⟨O,rfl,o⟩
  refine aG ?_
  obtain⟨cf,hj,hb⟩:=bd hb
  refine RC.jn (fun(cf: (List Int)) U w=>∃bu:Value,SH E V [(0,v0),(3,ah),(4,vp ag 0),(6,(.func (.func 116) #[] #[(vp ag 0)])),(7,vi ad.2.1),(11,(vi (IntKind.wrap .i64 (Int.tdiv (an.Xs.length:Int) 2)))),(42,v0),(43,vi p0.length),(44,vi ay)] [rd v0 p0,own 74 ah aq,bc 87 ag [bu],own 3 bu cf] U w) cf ?_ ?_
  ·refine fK hj (fun hc hj=>?_) fun hc hj=>?_
   rotate_left
   ·refine RC.skip ?_
    obtain rfl:=oi hj
    exact⟨rfl,bt,o.sp 4 [0,1,2,3]⟩
   refine RC.sr (mv (vi ad.2.2) (mv (vi ad.2.1) (aT (vi ad.2.2) (aT (vi ad.2.1) (RL.nt ?_)))))
   obtain⟨d3,hN,hj⟩:=bd hj
   refine RC.iter (fun(ae: (List Int)×Int×Int) U w=>∃cu:Value,SH E V [(0,v0),(3,ah),(4,vp ag 0),(6,(.func (.func 116) #[] #[(vp ag 0)])),(7,vi ad.2.1),(11,(vi (IntKind.wrap .i64 (Int.tdiv (an.Xs.length:Int) 2)))),(12,vi ae.2.1),(13,vi ae.2.2),(42,v0),(43,vi p0.length),(44,vi ay)] [rd v0 p0,own 74 ah aq,bc 87 ag [cu],own 3 cu ae.1] U w) (fun(ae: (List Int)×Int×Int) U w=>∃bw:Value,SH E V [(0,v0),(3,ah),(4,vp ag 0),(6,(.func (.func 116) #[] #[(vp ag 0)])),(7,vi ad.2.1),(11,(vi (IntKind.wrap .i64 (Int.tdiv (an.Xs.length:Int) 2)))),(42,v0),(43,vi p0.length),(44,vi ay)] [rd v0 p0,own 74 ah aq,bc 87 ag [bw],own 3 bw ae.1] U w) (fun(r:Empty) _ _=>r.elim) hN ?_ ?_ ?_ ?_
   ·exact⟨bt,o.sp 4 [0,1,2,3]⟩
   ·rintro ae fl _ w ⟨bz,O,rfl,o⟩ hb
    refine RC.seq (RC.sr (mv (vi ae.2.1) (mv (vi ad.2.1) (ic ae.2.1 ad.2.1 (mv (vb (decide (ae.2.1<ad.2.1))) (RL.gs true (decide (ae.2.1<ad.2.1)) (vi ae.2.2) zr zr zr dW (RL.gs true (decide (ae.2.1<ad.2.1)) (vi ad.2.1) zr zr zr dW (RL.gs true (decide (ae.2.1<ad.2.1)) (vi (IntKind.wrap .i64 (Int.tdiv (an.Xs.length:Int) 2))) zr zr zr dW ?_))))))))
    refine RL.gs true (decide (ae.2.1<ad.2.1)) (vi (IntKind.wrap .i64 (ad.2.1+ (IntKind.wrap .i64 (Int.tdiv (an.Xs.length:Int) 2))))) rfl rfl rfl (La (bop:= .add) (K:= .i64) (a:=ad.2.1) (b:=(IntKind.wrap .i64 (Int.tdiv (an.Xs.length:Int) 2))) rfl (fun h=>by exact(dG h:cv (true&&((decide (ae.2.1<ad.2.1))==true)) (vi ad.2.1)= (vi ad.2.1))) (fun h=>by exact(dG h:cv (true&&((decide (ae.2.1<ad.2.1))==true)) (vi (IntKind.wrap .i64 (Int.tdiv (an.Xs.length:Int) 2)))= (vi (IntKind.wrap .i64 (Int.tdiv (an.Xs.length:Int) 2))))) rfl) (RL.gs true (decide (ae.2.1<ad.2.1)) (vb (decide (ae.2.2< (IntKind.wrap .i64 (ad.2.1+ (IntKind.wrap .i64 (Int.tdiv (an.Xs.length:Int) 2))))))) rfl rfl rfl (eN .lss .i64 ae.2.2 (IntKind.wrap .i64 (ad.2.1+ (IntKind.wrap .i64 (Int.tdiv (an.Xs.length:Int) 2)))) rfl (fun h=>by exact(dG h:cv (true&&((decide (ae.2.1<ad.2.1))==true)) (vi ae.2.2)= (vi ae.2.2))) (fun h=>by exact(dG h:cv (true&&((decide (ae.2.1<ad.2.1))==true)) (vi (IntKind.wrap .i64 (ad.2.1+ (IntKind.wrap .i64 (Int.tdiv (an.Xs.length:Int) 2)))))= (vi (IntKind.wrap .i64 (ad.2.1+ (IntKind.wrap .i64 (Int.tdiv (an.Xs.length:Int) 2))))))) rfl) (RL.pick (decide (ae.2.1<ad.2.1)) (vb ((decide (ae.2.1<ad.2.1))&&(decide (ae.2.2< (IntKind.wrap .i64 (ad.2.1+ (IntKind.wrap .i64 (Int.tdiv (an.Xs.length:Int) 2)))))))) (kg true) (RL.nt (fK hb (fun hc hb=>?_) fun hc hb=>?_))))
    rotate_left
    ·refine RC.ex ?_
     obtain rfl:=oi hb
     exact⟨rfl,bz,o.sp 4 [0,1,2,3]⟩
    refine RC.sn (RC.block (RC.seq (RC.seq ?_)))
    obtain⟨ch,hj,hb⟩:=bd hb
    refine RC.jn (fun(ch:Bool)=>SH E V [(0,v0),(3,ah),(4,vp ag 0),(6,(.func (.func 116) #[] #[(vp ag 0)])),(7,vi ad.2.1),(11,(vi (IntKind.wrap .i64 (Int.tdiv (an.Xs.length:Int) 2)))),(12,vi ae.2.1),(13,vi ae.2.2),(42,v0),(43,vi p0.length),(44,vi ay),(101,vb ch)] [rd v0 p0,own 74 ah aq,bc 87 ag [bz],own 3 bz ae.1]) ch ?_ ?_
    ·refine RC.AA mixed ?_
     have o:=o.drew
     refine RO.go (mv ah (RO.nx (mv (vi ae.2.1) (RO.nx ?_))))
     obtain⟨cw,b0,hj⟩:=bd hj
     refine RL.bU 1 o zr zr nk b0 (RO.nx (RL.oN (α:=aH) zt (jy 1 o b0 0) kN (RO.nx (RL.dE 1 o (jy 1 o b0 0) (bC b0).2.1 fY cW (RO.nx (mv ah (RO.nx (mv (vi ae.2.2) ?_))))))))
     refine RO.nx ?_
     obtain⟨cx,b1,hj⟩:=bd hj
     refine RL.bU 1 o zr zr nk b1 (RO.nx (RL.oN (α:=aH) zt (jy 1 o b1 0) l3 (RO.nx (RL.dE 1 o (jy 1 o b1 2) (bC b1).2.1 gS cW (RO.nx (ic cw.X0 cx.X1 (RO.nx (mv (vb (decide (cw.X0<cx.X1))) ?_))))))))
     refine iA hj (fun ao hj=>?_) fun ao hj=>?_
     rotate_left
     ·refine RO.nx (cH ao (RO.nx (cH ao (RO.nx (cH ao (RO.nx (cH ao (RO.nx ?_))))))))
      refine cH ao (RO.nx (cH ao (RO.nx (cH ao (RO.nx (cH ao (RO.nx (cH ao ?_))))))))
      refine RO.nx (cH ao (RO.nx (cH ao (RO.nx (iF ao (vb false) (RO.last ?_))))))
      obtain rfl:=oi hj
      exact⟨rfl,o.sp 4 [0,1,2,3]⟩
     refine RO.nx (RL.move ah (cg ao) (RO.nx (RL.move (vi ae.2.2) (cg ao) (RO.nx ?_))))
     obtain⟨cy,b2,hj⟩:=bd hj
     refine RL.bU (hg:=(cg ao)) 1 o zr zr nk b2 (RO.nx (RL.oN (α:=aH) (cg ao) (jy 1 o b2 0) kN (RO.nx (RL.dE (hg:=(cg ao)) 1 o (jy 1 o b2 0) (bC b2).2.1 fY cW (RO.nx (RL.move ah (cg ao) (RO.nx (RL.move (vi ae.2.1) (cg ao) ?_))))))))
     refine RO.nx ?_
     obtain⟨cz,b3,hj⟩:=bd hj
     refine RL.bU (hg:=(cg ao)) 1 o zr zr nk b3 (RO.nx (RL.oN (α:=aH) (cg ao) (jy 1 o b3 0) l3 (RO.nx (RL.dE (hg:=(cg ao)) 1 o (jy 1 o b3 2) (bC b3).2.1 gS cW (RO.nx (RL.lN cy.X0 cz.X1 (cg ao) (RO.nx (iF ao (vb (decide (cy.X0<cz.X1))) ?_))))))))
     refine RO.last ?_
     obtain rfl:=oi hj
     exact⟨rfl,o.sp 4 [0,1,2,3]⟩
    rintro _ w ⟨O,rfl,o⟩
    refine aG ?_
    obtain⟨b4,hj,hb⟩:=bd hb
    refine RC.jn (fun(b4: (List Int)) U w=>∃bl:Value,SH E V [(0,v0),(3,ah),(4,vp ag 0),(6,(.func (.func 116) #[] #[(vp ag 0)])),(7,vi ad.2.1),(11,(vi (IntKind.wrap .i64 (Int.tdiv (an.Xs.length:Int) 2)))),(12,vi ae.2.1),(13,vi ae.2.2),(42,v0),(43,vi p0.length),(44,vi ay)] [rd v0 p0,own 74 ah aq,bc 87 ag [bl],own 3 bl b4] U w) b4 ?_ ?_
    ·refine fK hj (fun hc hj=>?_) fun hc hj=>?_
     rotate_left
     ·refine RC.skip ?_
      obtain rfl:=oi hj
      exact⟨rfl,bz,o.sp 4 [0,1,2,3]⟩
     refine RC.sr (mv (.func (.func 116) #[] #[(vp ag 0)]) (mv (vi ae.2.1) ?_))
     have o:=(o.pull 3).pull 3
     obtain⟨bf,dc,hj⟩:=bd hj
     refine RL.sE [(vp ag 0)] Ie [(vi ae.2.1)] (aF (lB N (p0:=ae.2.1) o dc) ?_)
     rintro _ w ⟨d5,rfl,o⟩
     refine mv (.func (.func 116) #[] #[(vp ag 0)]) (mv (vi ae.2.2) ?_)
     have o:=(o.pull 1).pull 1
     obtain⟨bg,dd,hj⟩:=bd hj
     refine RL.sE [(vp ag 0)] Ie [(vi ae.2.2)] (aF (lB N (p0:=ae.2.2) o dd) ?_)
     rintro _ w ⟨c0,rfl,o⟩
     refine aT (vi bf.1) (aT (vi bg.1) (RL.nt (RC.region (RL.bS 0 c0 o gx (mv (vi bf.1) (mv (vi bg.1) (RL.max bf.1 bg.1 (mv (vi bf.1) ?_))))))))
     refine mv (vi bg.1) (RL.min bf.1 bg.1 ?_)
     obtain⟨d6,cj,hj⟩:=bd hj
     refine RL.bU 1 o zr zr fI cj ?_
     have o:=o.sc Int (if bg.1<bf.1 then bg.1 else bf.1)
     refine RL.fQ (f:=(fun _ y=>y)) 2 0 o (jy 2 o cj 0) (bC cj).2.1 zr Fs.self cW fun w o=>?_
     refine RL.nil ?_
     obtain rfl:=oi hj
     exact⟨rfl,c0,o.sp 9 [5,6,1,2]⟩
    rintro _ w ⟨bl,O,rfl,o⟩
    refine aG (RC.seq (RC.AA mixed ?_))
    have o:=o.drew
    refine RO.go (mv ah (RO.nx (mv (vi ae.2.1) (RO.nx ?_))))
    obtain⟨de,b5,hb⟩:=bd hb
    refine RL.bU 1 o zr zr nk b5 (RO.nx (RL.oN (α:=aH) zt (jy 1 o b5 0) l3 (RO.nx (RL.dE 1 o (jy 1 o b5 2) (bC b5).2.1 gS cW (RO.nx (mv ah (RO.nx (mv (vi ae.2.2) ?_))))))))
    refine RO.nx ?_
    obtain⟨df,b6,hb⟩:=bd hb
    refine RL.bU 1 o zr zr nk b6 (RO.nx (RL.oN (α:=aH) zt (jy 1 o b6 0) l3 (RO.nx (RL.dE 1 o (jy 1 o b6 2) (bC b6).2.1 gS cW (RO.nx (ic de.X1 df.X1 (RO.last (aG ?_))))))))
    obtain⟨b7,hj,hb⟩:=bd hb
    refine RC.jn (fun(b7:Int×Int)=>SH E V [(0,v0),(3,ah),(4,vp ag 0),(6,(.func (.func 116) #[] #[(vp ag 0)])),(7,vi ad.2.1),(11,(vi (IntKind.wrap .i64 (Int.tdiv (an.Xs.length:Int) 2)))),(12,vi b7.1),(13,vi b7.2),(42,v0),(43,vi p0.length),(44,vi ay)] [rd v0 p0,own 74 ah aq,bc 87 ag [bl],own 3 bl b4]) b7 ?_ ?_
    ·refine fK hj (fun hc hj=>?_) fun hc hj=>?_
     ·refine RC.region (mv (vi ae.2.1) (RL.ja ae.2.1 1 (aT (vi (IntKind.wrap .i64 (ae.2.1+1))) (RL.nil ?_))))
      obtain rfl:=oi hj
      exact⟨rfl,o.sp 4 [0,1,2,3]⟩
     refine RC.region (mv (vi ae.2.2) (RL.ja ae.2.2 1 (aT (vi (IntKind.wrap .i64 (ae.2.2+1))) (RL.nil ?_))))
     obtain rfl:=oi hj
     exact⟨rfl,o.sp 4 [0,1,2,3]⟩
    rintro _ w ⟨O,rfl,o⟩
    refine cA ?_
    obtain rfl:=oi hb
    exact⟨rfl,bl,o.sp 4 [0,1,2,3]⟩
   ·intro r _ _ _ _
    exact r.elim
   rintro ae _ w rfl ⟨bw,O,rfl,o⟩
   rw [Fo.gm] at hj
   obtain rfl:=oi hj
   exact⟨rfl,bw,o.sp 4 [0,1,2,3]⟩
  rintro _ w ⟨bu,O,rfl,o⟩
  refine aG (RC.region (mv (vi ad.2.1) (mv (vi ad.2.1) (mv (vi (IntKind.wrap .i64 (Int.tdiv (an.Xs.length:Int) 2))) (RL.ja ad.2.1 (IntKind.wrap .i64 (Int.tdiv (an.Xs.length:Int) 2)) (aT (vi ad.2.1) (aT (vi (IntKind.wrap .i64 (ad.2.1+ (IntKind.wrap .i64 (Int.tdiv (an.Xs.length:Int) 2))))) (RL.nil ?_))))))))
  refine cA (aG (RC.region (RL.inc hk hm (mv (vi ((ay+1:Nat):Int)) (RL.nil ?_)))))
  obtain rfl:=oi hb
  exact⟨rfl,bu,o.sp 4 [0,1,2,3]⟩
 rintro _ w ⟨br,O,rfl,o⟩
 refine aG (RC.sr (RL.makeMap (κ:=Int) (ν:=Int) zr o fun a6 w o=>(aT a6 (RL.ns (aT (.slice none 0 0) (RL.nq (RC.sr (mv ah ?_))))))))
 refine RL.gK 2 aq o tw (mv (vi 0) (RL.nt ?_))
 obtain⟨ak,hN,hb⟩:=bd hb
 refine RC.fold (fun(a5:Nat) (ak: (List Int)×(List (Int×Int))×(List (List aH))) U w=>∃(c1 c2:Value) (us939:List RV),SH E V [(6,(.func (.func 116) #[] #[(vp ag 0)])),(16,a6),(17,c2),(137,ah),(138,vi aq.length),(139,vi a5)] [bc 87 ag [c1],own 3 c1 ak.1,mp a6 ak.2.1,own 74 ah aq,own 23 c2 us939,jz (XS 74 aH) us939 ak.2.2 none] U w) (fun(ak: (List Int)×(List (Int×Int))×(List (List aH))) U w=>∃(ck bh:Value) (us942:List RV),SH E V [(17,bh)] [bc 87 ag [ck],own 3 ck ak.1,mp a6 ak.2.1,own 74 ah aq,own 23 bh us942,jz (XS 74 aH) us942 ak.2.2 none] U w) hN ?_ ?_ ?_ ?_
 ·have o:=(o.BT (XS 74 aH)).eC RV 23
  exact⟨br,(.slice none 0 0),([]:List RV),o.sp 7 [5,6,2,4,0,1]⟩
 ·rintro hm ak _ w ⟨dg,dh,us987,O,rfl,o⟩
  refine RC.sr (ic ((aq.length:Int)) ((aq.length:Int)) (RL.nq (RC.dC oE (RC.ex ?_))))
  exact⟨rfl,dg,dh,us987,o.sp 6 [0,1,2,3,4,5]⟩
 ·rintro hm a5 ak s' _ w hk ⟨d7,cl,us945,O,rfl,o⟩ hb
  refine RC.sr (ic ((a5:Int)) ((aq.length:Int)) (RL.nq (RC.dB (oD hk) (RC.ss (RC.bs (mv (vi a5) ?_))))))
  obtain⟨bb,cm,hb⟩:=bd hb
  refine RL.bU 3 o zr zr nk cm (RL.lG (f:=(fun x=>x)) 3 o (jy 3 o cm 0) (bC cm).2.1 Fd.self jE fun d8 o=>?_)
  refine RL.alloc o qN.z fun b8 w o=>?_
  refine aT (vi a5) (RL.bW 0 o 1 zr jE fun w o=>?_)
  refine RL.ns (mv (.func (.func 116) #[] #[(vp ag 0)]) (mv (vi a5) ?_))
  have o:=(o.pull 3).pull 3
  obtain⟨a2,di,hb⟩:=bd hb
  refine RL.sE [(vp ag 0)] Ie [(vi a5)] (aF (lB N (p0:=(a5:Int)) o di) ?_)
  rintro _ w ⟨bo,rfl,o⟩
  refine aT (vi a2.1) (RL.ns (mv a6 (mv (vi a2.1) (RL.De 6 a2.1 zt zr o zr zr zr yi (mv (.tuple #[(vi (eJ ak.2.1 a2.1 (0:Int))),(vb (kD ak.2.1 a2.1))]) (RL.extract (vi (eJ ak.2.1 a2.1 (0:Int))) (RL.extract (vb (kD ak.2.1 a2.1)) (aT (vi (eJ ak.2.1 a2.1 (0:Int))) ?_))))))))
  refine aT (vb (kD ak.2.1 a2.1)) (RL.nq (RC.sr (mv (vb (kD ak.2.1 a2.1)) (RL.not (kD ak.2.1 a2.1) (RL.nt ?_)))))
  obtain⟨af,hj,hb⟩:=bd hb
  refine RC.jn (fun(af: (List (Int×Int))×(List (List aH))×Int) U w=>∃(a1:Value) (us956:List RV),SH E V [(6,(.func (.func 116) #[] #[(vp ag 0)])),(16,a6),(17,a1),(19,vp b8 0),(21,vi af.2.2),(137,ah),(138,vi aq.length),(139,vi a5)] [bc 87 ag [bo],own 3 bo a2.2,mp a6 af.1,bx 74 b8 bb,own 74 ah aq,own 23 a1 us956,jz (XS 74 aH) us956 af.2.1 none] U w) af ?_ ?_
  ·refine fK hj (fun hc hj=>?_) fun hc hj=>?_
   rotate_left
   ·refine RC.skip ?_
    obtain rfl:=oi hj
    exact⟨rfl,cl,us945,o.sp 10 [0,1,6,2,7,8,9]⟩
   refine RC.sr (mv cl (RL.tn 8 9 ak.2.2 zr o zr zr zr DF (aT (vi ak.2.2.length) (RL.ns (mv a6 (mv (vi a2.1) (mv (vi ak.2.2.length) ?_)))))))
   have o:=o.sc Int (ak.2.2.length:Int)
   refine RL.mapUpdate 7 0 a2.1 o zr zr zr zr zr yi fun w o=>(RL.nt (RC.region (mv cl ?_)))
   have o:=(o.eC aH 74).FK (i:=0) rfl
   refine RL.fR ([rv (.slice none 0 0)]:List RV) o [(.slice none 0 0)] EW MW (fun M hs g=>⟨(g.sat 0 _ zr).1,zt⟩) fun d9 w o=>?_
   obtain⟨ea,dj,hj⟩:=bd hj
   have o:=o.freeze 0
   refine RL.Dm 12 0 13 2 zt zr o zr zr zr zr zr zr OC dj fun c3 w o=>?_
   refine aT c3 (RL.nil ?_)
   obtain rfl:=oi hj
   exact⟨rfl,c3,(us945++[rv (.slice none 0 0)]),o.sp 14 [4,5,10,6,11,12,13]⟩
  rintro _ w ⟨a1,us956,O,rfl,o⟩
  refine aG ?_
  obtain⟨eb,b9,hb⟩:=bd hb
  obtain⟨bj,dk,hb⟩:=bd hb
  obtain⟨ec,cn,hb⟩:=bd hb
  refine RC.BX E V mixed [1,1,1,1,0,0,0,0,0,0,0] [6,7,8,10] (fun(x:Value×Value×Value)=>(fun a0 ax al=>[(0,163,a1),(1,164,(vi af.2.2)),(2,165,a1),(3,166,(vi af.2.2)),(4,167,(v8 a1 (Int.toNat af.2.2) 1 0)),(5,168,(us956.getD (Int.toNat af.2.2) CY).v),(6,169,a0),(7,170,ax),(8,171,al),(9,172,(v8 a1 (Int.toNat af.2.2) 1 0))]) x.1 x.2.1 x.2.2) [(6,(.func (.func 116) #[] #[(vp ag 0)])),(16,a6),(17,a1),(19,vp b8 0),(21,vi af.2.2),(137,ah),(138,vi aq.length),(139,vi a5)] [] (fun(D:Nat->Bool) (x:Value×Value×Value)=>(fun a0 ax al=>[bif D 0 then (rd a0 bb) else aM,bif D 2 then (rd ax ([bb]: (List aH))) else (bif D 1 then (own 74 ax ([bb]: (List aH))) else aM),bif D 3 then aM else (bif D 2 then (own 74 al bj) else aM),bc 87 ag [bo],own 3 bo a2.2,mp a6 af.1,bx 74 b8 bb,own 74 ah aq,bif D 3 then (own 23 a1 (us956.set (Int.toNat af.2.2) (rv al))) else (own 23 a1 us956),bif D 3 then (jz (XS 74 aH) (us956.set (Int.toNat af.2.2) (rv al)) (af.2.1.set (Int.toNat af.2.2) bj) none) else (bif D 2 then (jz (XS 74 aH) us956 af.2.1 (some (Int.toNat af.2.2))) else (jz (XS 74 aH) us956 af.2.1 none))]) x.1 x.2.1 x.2.2) (fun x=>by kernel_rfl) ?_ ⟨fun _=>g8 gn,fun _=>g8 gn,fun _=>g8 gn,fun _=>g8 gn,?_,?_,?_,?_,?_,?_,?_,trivial⟩ ?_
  ·have o:=(((o.drew).aM).aM).aM
   exact⟨(undef,undef,undef),eD.none,(AF zr),zt,o⟩
  ·rintro D U w hD au aj ⟨⟨a0,ax,al⟩,hv,ha,_,o⟩
   obtain⟨O,rfl⟩:=(ac (hv.at 2 rfl (au.1 rfl)) (ac (hv.at 3 rfl (au.2.1 rfl)) az)).dH
   have o:=((o.bK 8 (nh aj hD 10)).bK 9 (nh aj hD 10)).bK 9 (nf (fun h=>ft hD ((aj 5 _ rfl ((aj 8 _ rfl h).1 rfl)).1 rfl)))
   have hl974:=o.ik 9 rfl
   have hr975:=kG CY hl974 b9
   refine RL.bU 8 o zr zr EW hr975 ?_
   have o:=(o.fD 8 (D 10) (nh aj hD 10) (own 23 a1 (us956.set (Int.toNat af.2.2) (rv al)))).fD 9 (D 8) (nf (fun h=>ft hD ((aj 5 _ rfl ((aj 8 _ rfl h).1 rfl)).1 rfl))) (jz (XS 74 aH) us956 af.2.1 (some (Int.toNat af.2.2)))
   have o:=o.fD 9 (D 10) (nh aj hD 10) (jz (XS 74 aH) (us956.set (Int.toNat af.2.2) (rv al)) (af.2.1.set (Int.toNat af.2.2) bj) none)
   exact RL.nil ⟨rfl,(a0,ax,al),hv.pu 4,ha.u,zt,o⟩
  ·rintro D U w hD au aj ⟨⟨a0,ax,al⟩,hv,ha,_,o⟩
   obtain⟨O,rfl⟩:=(ac (hv.at 4 rfl (au.1 rfl)) az).dH
   have o:=((o.bK 8 (nh aj hD 10)).bK 9 (nh aj hD 10)).bK 9 (nh aj hD 8)
   have hl976:=o.ik 9 rfl
   have hr977:=kG CY hl976 b9
   refine RL.xz 8 9 af.2.2 (A9 74 aH) CY zr o zr (jy 8 o hr977 0) zr zr b9 Cd ?_
   have o:=(o.fD 8 (D 10) (nh aj hD 10) (own 23 a1 (us956.set (Int.toNat af.2.2) (rv al)))).fD 9 (D 8) (nh aj hD 8) (jz (XS 74 aH) us956 af.2.1 (some (Int.toNat af.2.2)))
   have o:=o.fD 9 (D 10) (nh aj hD 10) (jz (XS 74 aH) (us956.set (Int.toNat af.2.2) (rv al)) (af.2.1.set (Int.toNat af.2.2) bj) none)
   exact RL.nil ⟨rfl,(a0,ax,al),hv.pu 5,ha.u,zt,o⟩
  ·rintro D U w hD au aj ⟨⟨a0,ax,al⟩,hv,ha,_,o⟩
   obtain⟨O,rfl⟩:=(ac (ha.at 3 rfl) az).dH
   have o:=o.bK 0 hD
   refine RL.aV (f:=(fun x=>x)) 6 o zr Fd.self jE fun dm o=>?_
   have o:=(o.pl 11 [0,2,3,4,5,6,7,8,9,10]).bF 0 true rfl aM
   exact RL.nil ⟨rfl,(dm,ax,al),hv.pu 6,ha.u,zt,o⟩
  ·rintro D U w hD au aj ⟨⟨a0,ax,al⟩,hv,ha,_,o⟩
   obtain⟨O,rfl⟩:=(ac (hv.at 6 rfl (au.1 rfl)) az).dH
   have o:=((o.bE 0 (au.1 rfl)).bK 1 (nh aj hD 8)).bK 1 hD
   refine RL.fR ([bb]: (List aH)) o [a0] nk qN (fun M hs g=>⟨(g.sat 0 _ zr).1,zt⟩) fun c4 w o=>?_
   have o:=(((o.pl 11 [1,0,3,4,5,6,7,8,9,10]).bF 0 (D 6) (au.1 rfl) aM).bF 1 true rfl aM).fD 1 (D 8) (nh aj hD 8) (rd c4 ([bb]: (List aH)))
   exact RL.nil ⟨rfl,(a0,c4,al),hv.pu 7,ha.u,zt,o⟩
  ·rintro D U w hD au aj ⟨⟨a0,ax,al⟩,hv,ha,_,o⟩
   obtain⟨O,rfl⟩:=(ac (hv.at 5 rfl (au.1 rfl)) (ac (hv.at 7 rfl (au.2.1 rfl)) az)).dH
   have o:=(((((((o.bK 1 hD).bE 1 (au.2.1 rfl)).bK 2 (nh aj hD 10)).bK 2 hD).bK 8 (nh aj hD 10)).bK 9 (nh aj hD 10)).bK 9 hD).BU (j:=9) (jj:=af.2.2) (A9 74 aH) CY rfl b9
   have o:=o.freeze 2
   refine RL.app 0 2 o GN dk fun cp w o=>?_
   have o:=((((o.pl 11 [1,2,0,4,5,6,7,8,9,10]).bF 1 true rfl (bif D 7 then (own 74 ax ([bb]: (List aH))) else aM)).bF 2 true rfl aM).fD 2 (D 10) (nh aj hD 10) aM).fD 8 (D 10) (nh aj hD 10) (own 23 a1 (us956.set (Int.toNat af.2.2) (rv cp)))
   have o:=(o.bF 9 true rfl (jz (XS 74 aH) us956 af.2.1 none)).fD 9 (D 10) (nh aj hD 10) (jz (XS 74 aH) (us956.set (Int.toNat af.2.2) (rv cp)) (af.2.1.set (Int.toNat af.2.2) bj) none)
   exact RL.nil ⟨rfl,(a0,ax,cp),hv.pu 8,ha.u,zt,o⟩
  ·rintro D U w hD au aj ⟨⟨a0,ax,al⟩,hv,ha,_,o⟩
   obtain⟨O,rfl⟩:=(ac (hv.at 0 rfl (au.1 rfl)) (ac (hv.at 1 rfl (au.2.1 rfl)) az)).dH
   have o:=((o.bK 8 (nh aj hD 10)).bK 9 (nh aj hD 10)).bE 9 (au.2.2.2.2.2.2.2.2.2.2.1 rfl)
   have hl981:=o.ik 9 rfl
   have hr982:=kG CY hl981 cn
   refine RL.bU 8 o zr zr EW hr982 ?_
   have o:=((o.fD 8 (D 10) (nh aj hD 10) (own 23 a1 (us956.set (Int.toNat af.2.2) (rv al)))).bF 9 (D 8) (au.2.2.2.2.2.2.2.2.2.2.1 rfl) (jz (XS 74 aH) us956 af.2.1 none)).fD 9 (D 10) (nh aj hD 10) (jz (XS 74 aH) (us956.set (Int.toNat af.2.2) (rv al)) (af.2.1.set (Int.toNat af.2.2) bj) none)
   exact RL.nil ⟨rfl,(a0,ax,al),hv.pu 9,ha.u,zt,o⟩
  ·rintro D U w hD au aj ⟨⟨a0,ax,al⟩,hv,ha,_,o⟩
   obtain⟨O,rfl⟩:=(ac (hv.at 8 rfl (au.2.1 rfl)) (ac (hv.at 9 rfl (au.1 rfl)) az)).dH
   have o:=((((o.bK 2 hD).bE 2 (au.2.1 rfl)).bK 8 hD).bK 9 hD).bE 9 (au.2.1 rfl)
   have hl983:=o.ik 9 rfl
   have hr984:=kG CY hl983 cn
   refine RL.vz 8 9 2 af.2.2 (A9 74 aH) CY o zr zr (jy 8 o hr984 0) zr zr zr cn Cd fun w o=>?_
   have o:=((o.bF 2 true rfl (bif D 8 then (own 74 al bj) else aM)).bF 8 true rfl (own 23 a1 us956)).bF 9 true rfl (bif D 8 then (jz (XS 74 aH) us956 af.2.1 (some (Int.toNat af.2.2))) else (jz (XS 74 aH) us956 af.2.1 none))
   exact RL.nil ⟨rfl,(a0,ax,al),hv.n1,ha,zt,o⟩
  rintro D U w bp ⟨⟨a0,ax,al⟩,hv,ha,_,o⟩
  have o:=((((o.bE 0 (gq bp 6)).bE 1 (gq bp 8)).bE 2 (gq bp 10)).bE 8 (gq bp 10)).bE 9 (gq bp 10)
  obtain⟨O,rfl⟩:=(ac (ha.at 0 rfl) (ac (ha.at 1 rfl) (ac (ha.at 2 rfl) (ac (ha.at 3 rfl) (ac (ha.at 4 rfl) (ac (ha.at 5 rfl) (ac (ha.at 6 rfl) (ac (ha.at 7 rfl) az)))))))).dH
  refine cA (aG (RC.region (RL.inc hk hm (mv (vi ((a5+1:Nat):Int)) (RL.nil ?_)))))
  obtain rfl:=oi hb
  exact⟨rfl,bo,a1,(us956.set (Int.toNat af.2.2) (rv al)),o.sp 10 [3,4,5,7,8,9]⟩
 rintro _ w ⟨ck,bh,us942,O,rfl,o⟩
 refine aG (RC.sr (aT (.slice none 0 0) (RL.nq (RC.sr (mv bh (RL.tn 4 5 ak.2.2 zr o zr zr zr DF (mv (vi 0) (RL.nt ?_))))))))
 have o:=o.BV (X:=(XS 74 aH)) (b:=5) (j:=4) rfl (fun M h u x cs=>(Kx 74) M h u x cs) rfl rfl (by decide)
 obtain⟨bm,hN,hb⟩:=bd hb
 refine RC.fold (fun(ca:Nat) (bm: (List (List aA))) U w=>∃c5:Value,SH E V [(23,c5),(174,bh),(175,vi ak.2.2.length),(176,vi ca)] [own 23 bh ak.2.2,own 132 c5 bm] U w) (fun(bm: (List (List aA))) U w=>∃bq:Value,SH E V [(23,bq)] [own 23 bh ak.2.2,own 132 bq bm] U w) hN ?_ ?_ ?_ ?_
 ·have o:=o.eC (List aA) 132
  exact⟨(.slice none 0 0),o.sp 7 [5,0]⟩
 ·rintro hm bm _ w ⟨dn,O,rfl,o⟩
  refine RC.sr (ic ((ak.2.2.length:Int)) ((ak.2.2.length:Int)) (RL.nq (RC.dC oE (RC.ex ?_))))
  exact⟨rfl,dn,o.sp 2 [0,1]⟩
 ·rintro hm ca bm s' _ w hk ⟨dp,O,rfl,o⟩ hb
  refine RC.sr (ic ((ca:Int)) ((ak.2.2.length:Int)) (RL.nq (RC.dB (oD hk) (RC.ss (RC.bs ?_)))))
  obtain⟨ed,cq,hb⟩:=bd hb
  refine RL.bU 0 o zr zr EW cq (RL.lG (f:=(fun x=>x)) 0 o (jy 0 o cq 0) (bC cq).2.1 Fd.self Cd fun cr o=>?_)
  refine aT cr (RL.nt (RC.region (mv dp (mv cr ?_))))
  obtain⟨dq,dr,hb⟩:=bd hb
  refine RL.call zt zr H5 [cr] zr (aF (l6 N (i0:=0) o zr dr) ?_)
  rintro ds w o
  have o:=o.freeze 0
  refine RL.fR ([dq]: (List (List aA))) o [ds] DK Ic (fun M hs g=>⟨(g.sat 0 _ zr).1,zt⟩) fun ee w o=>?_
  have o:=o.freeze 0
  obtain⟨ef,dt,hb⟩:=bd hb
  refine RL.app 4 0 o KN dt fun c6 w o=>?_
  refine aT c6 (RL.nil (cA (aG (RC.region (RL.inc hk hm (mv (vi ((ca+1:Nat):Int)) (RL.nil ?_)))))))
  obtain rfl:=oi hb
  exact⟨rfl,c6,o.sp 5 [3,4]⟩
 rintro _ w ⟨bq,O,rfl,o⟩
 refine aG (RC.sr (mv bq (aT bq (RL.nt (RC.ret ?_)))))
 obtain rfl:=oi hb
 exact cK (o.pk 2 [1])
def tL (E:World) (V:List HP) (b0:Nat) (v0_0 v0_1:Value) (v0_2 v0_3:Value) (v0_6 v0_7:Value) (v0_8 v0_9:Value) (v0_10 v0_11:Value) (res:Bool×(List (List aA))×(List aJ)) (v:Value) (w:World):Prop:=∃u0_4 u0_5:Value,v= (vb res.1)/\Holds E w ([bc 126 b0 [v0_0,v0_1,v0_2,v0_3,u0_4,u0_5,v0_6,v0_7,v0_8,v0_9,v0_10,v0_11],own 132 u0_4 res.2.1,own 134 u0_5 res.2.2]++V)
theorem sW {p0_0: (List (List aH))} {p0_2: (List cD)} {p0_4: (List (List aA))} {p0_5: (List aJ)} {res:Bool×(List (List aA))×(List aJ)} (j:Holds E w (bc 126 b0 [v0_0,v0_1,v0_2,v0_3,v0_4,v0_5,v0_6,v0_7,v0_8,v0_9,v0_10,v0_11]::rd v0_0 p0_0::rd v0_2 p0_2::own 132 v0_4 p0_4::own 134 v0_5 p0_5::V)) (o:ji N p0_0 p0_2 p0_4 p0_5=some res):
    Calls bN 51 [(vp b0 0)].toArray w (iE (tL E V b0 v0_0 v0_1 v0_2 v0_3 v0_6 v0_7 v0_8 v0_9 v0_10 v0_11 res)):=by
 unfold ji at o
 refine enter Tryz.func51 zr zr (RC.sr (aT (vb false) (RL.ns (aT (vb true) (RL.nq (RC.sr (mv (vp b0 0) (RL.nilCheck zr ?_))))))))
 refine RL.bO zr mW (RL.bO zr xJ (RL.bS 0 v0_0 j GM (RL.bM 1 p0_0 j DF (mv (vi 0) (RL.nt ?_)))))
 obtain⟨aa,hN,o⟩:=bd o
 refine RC.fold (fun(ab:Nat) (aa: (List (List aA))×(List aJ)×Bool) U w=>∃bf bg:Value,SH E V [(0,vp b0 0),(3,vb aa.2.2),(16,v0_0),(17,vi p0_0.length),(18,vi ab)] [bc 126 b0 [v0_0,v0_1,v0_2,v0_3,bf,bg,v0_6,v0_7,v0_8,v0_9,v0_10,v0_11],own 132 bf aa.1,own 134 bg aa.2.1,rd v0_0 p0_0,rd v0_2 p0_2] U w) (fun(aa: (List (List aA))×(List aJ)×Bool) U w=>∃au al:Value,SH E V [(0,vp b0 0),(3,vb aa.2.2)] [bc 126 b0 [v0_0,v0_1,v0_2,v0_3,au,al,v0_6,v0_7,v0_8,v0_9,v0_10,v0_11],own 132 au aa.1,own 134 al aa.2.1,rd v0_0 p0_0,rd v0_2 p0_2] U w) hN ?_ ?_ ?_ ?_
 ·exact⟨v0_4,v0_5,j.sp 5 [0,3,4,1,2]⟩
 ·rintro hm aa _ w ⟨bq,br,O,rfl,j⟩
  refine RC.sr (ic ((p0_0.length:Int)) ((p0_0.length:Int)) (RL.nq (RC.dC oE (RC.ex ?_))))
  exact⟨rfl,bq,br,j.sp 5 [0,1,2,3,4]⟩
 ·rintro hm ab aa s' _ w hk ⟨af,ag,O,rfl,j⟩ o
  refine RC.sr (ic ((ab:Int)) ((p0_0.length:Int)) (RL.nq (RC.dB (oD hk) (RC.ss (RC.bs (mv (vi ab) ?_))))))
  obtain⟨a2,bt,o⟩:=bd o
  refine RL.cJ 3 j EW bt fun cp j=>(RL.bY 0 a2 j Cd fun ah j=>(aT (vi ab) (aT ah (RL.ns (aT (.slice none 0 0) (RL.nq (RC.sr (mv (vp b0 0) ?_))))))))
  refine RL.nilCheck zr (RL.bO zr mW (RL.bO zr oc (RL.bS 2 v0_2 j xK (RL.bM 6 p0_2 j zw (mv (vi 0) (RL.nt ?_))))))
  obtain⟨av,hN,o⟩:=bd o
  refine RC.fold (fun(az:Nat) (av: (List aH)) U w=>∃bh:Value,SH E V [(0,vp b0 0),(3,vb aa.2.2),(4,vi ab),(5,ah),(6,bh),(16,v0_0),(17,vi p0_0.length),(18,vi ab),(27,v0_2),(28,vi p0_2.length),(29,vi az)] [bc 126 b0 [v0_0,v0_1,v0_2,v0_3,af,ag,v0_6,v0_7,v0_8,v0_9,v0_10,v0_11],rd v0_0 p0_0,rd v0_2 p0_2,own 132 af aa.1,own 134 ag aa.2.1,rd ah a2,own 74 bh av] U w) (fun(av: (List aH)) U w=>∃a0:Value,SH E V [(0,vp b0 0),(3,vb aa.2.2),(4,vi ab),(5,ah),(6,a0),(16,v0_0),(17,vi p0_0.length),(18,vi ab)] [bc 126 b0 [v0_0,v0_1,v0_2,v0_3,af,ag,v0_6,v0_7,v0_8,v0_9,v0_10,v0_11],rd v0_0 p0_0,rd v0_2 p0_2,own 132 af aa.1,own 134 ag aa.2.1,rd ah a2,own 74 a0 av] U w) hN ?_ ?_ ?_ ?_
  ·have j:=j.eC aH 74
   exact⟨(.slice none 0 0),j.sp 8 [3,6,7,4,5,1,0]⟩
  ·rintro hm av _ w ⟨bu,O,rfl,j⟩
   refine RC.sr (ic ((p0_2.length:Int)) ((p0_2.length:Int)) (RL.nq (RC.dC oE (RC.ex ?_))))
   exact⟨rfl,bu,j.sp 7 [0,1,2,3,4,5,6]⟩
  ·rintro hm az av s' _ w hk ⟨bj,O,rfl,j⟩ o
   refine RC.sr (ic ((az:Int)) ((p0_2.length:Int)) (RL.nq (RC.dB (oD hk) (RC.ss (RC.bs ?_)))))
   obtain⟨bw,bx,o⟩:=bd o
   refine RL.cJ 2 j Ce bx fun cq j=>(RL.bY 0 bw j mD fun cr j=>(RL.alloc j Bj.z fun ct w j=>?_))
   refine RL.bW 0 j 1 zr mD fun w j=>?_
   refine RL.ns (RL.aV (f:=(fun x=>x)) 0 j zr Fd.self mD fun bz j=>(mv (vi ab) ?_))
   obtain⟨cu,b1,o⟩:=bd o
   refine RL.call zt zr LC [bz,(vi ab)] zr (aF (nD N (p1:=(ab:Int)) (i0:=0) j zr b1) ?_)
   rintro _ w ⟨rfl,j⟩
   refine RL.nt ?_
   obtain⟨a6,hj,o⟩:=bd o
   refine RC.jn (fun(a6: (List aH)) U w=>∃a3:Value,SH E V [(0,vp b0 0),(3,vb aa.2.2),(4,vi ab),(5,ah),(6,a3),(16,v0_0),(17,vi p0_0.length),(18,vi ab),(27,v0_2),(28,vi p0_2.length),(29,vi az)] [bc 126 b0 [v0_0,v0_1,v0_2,v0_3,af,ag,v0_6,v0_7,v0_8,v0_9,v0_10,v0_11],rd v0_0 p0_0,rd v0_2 p0_2,own 132 af aa.1,own 134 ag aa.2.1,rd ah a2,own 74 a3 a6] U w) a6 ?_ ?_
   ·refine fK hj (fun hc hj=>?_) fun hc hj=>?_
    rotate_left
    ·refine RC.skip ?_
     obtain rfl:=oi hj
     exact⟨rfl,bj,j.sp 11 [4,5,6,7,8,9,10]⟩
    refine RC.region (mv bj (RL.aV (f:=(fun x=>x)) 1 j zr Fd.self mD fun b3 j=>?_))
    obtain⟨b4,b5,hj⟩:=bd hj
    refine RL.call zt zr GP [b3] zr (aF (hZ N (i0:=0) j zr b5) ?_)
    rintro b6 w j
    refine RL.fR ([b4]: (List aH)) j [b6] nk qN (fun M hs g=>⟨(g.sat 0 _ zr).1,zt⟩) fun cv w j=>?_
    have j:=j.freeze 0
    obtain⟨cw,b7,hj⟩:=bd hj
    refine RL.app 13 0 j GN b7 fun bk w j=>?_
    refine aT bk (RL.nil ?_)
    obtain rfl:=oi hj
    exact⟨rfl,bk,j.sp 14 [7,8,9,10,11,12,13]⟩
   rintro _ w ⟨a3,O,rfl,j⟩
   refine cA (aG (RC.region (RL.inc hk hm (mv (vi ((az+1:Nat):Int)) (RL.nil ?_)))))
   obtain rfl:=oi o
   exact⟨rfl,a3,j.sp 7 [0,1,2,3,4,5,6]⟩
  rintro _ w ⟨a0,O,rfl,j⟩
  refine aG (RC.sr (mv ah ?_))
  obtain⟨cx,b8,o⟩:=bd o
  refine RL.call zt zr H5 [ah] zr (aF (l6 N (i0:=5) j zr b8) ?_)
  rintro b9 w j
  refine mv a0 ?_
  have j:=j.freeze 7
  obtain⟨cy,ca,o⟩:=bd o
  refine RL.call zt zr H5 [a0] zr (aF (l6 N (i0:=7) j zr ca) ?_)
  rintro cb w j
  have j:=(j.freeze 1).freeze 0
  obtain⟨cz,cc,o⟩:=bd o
  refine RL.call zt zr OA [b9,cb] zr (aF (wM N (i0:=1) (i1:=0) j zr zr cc) ?_)
  rintro a1 w j
  refine aT a1 (RL.nq ?_)
  obtain⟨an,hj,o⟩:=bd o
  refine RC.jn (fun(an:Bool×(List aA)) U w=>∃ao:Value,SH E V [(0,vp b0 0),(3,vb an.1),(4,vi ab),(9,ao),(16,v0_0),(17,vi p0_0.length),(18,vi ab)] [bc 126 b0 [v0_0,v0_1,v0_2,v0_3,af,ag,v0_6,v0_7,v0_8,v0_9,v0_10,v0_11],rd v0_0 p0_0,rd v0_2 p0_2,own 132 af aa.1,own 134 ag aa.2.1,rd ao an.2] U w) an ?_ ?_
  ·refine RC.region (mv (vb aa.2.2) (mv (vb aa.2.2) (iA hj (fun ai hj=>?_) fun ai hj=>?_)))
   rotate_left
   ·refine cH ai (cH ai (cH ai (iF ai (vb false) (aT (vb false) (RL.nil ?_)))))
    obtain rfl:=oi hj
    have j:=j.freeze 0
    exact⟨rfl,a1,j.sp 10 [3,4,5,6,7,0]⟩
   refine RL.move a1 (cg ai) ?_
   have j:=j.freeze 0
   obtain⟨a7,cd,hj⟩:=bd hj
   refine RL.call (cg ai) zr OB [a1] zr (aF (wN N (i0:=0) j zr cd) ?_)
   rintro _ w ⟨rfl,j⟩
   refine RL.lN a7 2000 (cg ai) (iF ai (vb (decide (a7<=2000))) (aT (vb (decide (a7<=2000))) (RL.nil ?_)))
   obtain rfl:=oi hj
   exact⟨rfl,a1,j.sp 10 [3,4,5,6,7,0]⟩
  rintro _ w ⟨ao,O,rfl,j⟩
  refine aG (RC.sr (mv (vp b0 0) (mv (vp b0 0) (RL.nilCheck zr (RL.bO zr FW (RL.bS 0 af j KM (mv ao (RL.fR ([an.2]: (List (List aA))) j [ao] DK Ic (fun M hs g=>⟨(g.sat 5 _ zr).1,zt⟩) fun c0 w j=>?_))))))))
  have j:=j.freeze 0
  obtain⟨bl,cf,o⟩:=bd o
  refine RL.app 4 0 j KN cf fun aq w j=>?_
  refine RL.nilCheck zr (RL.bO zr FW (RL.jg 1 aq j zr zr (jM 4 j) KM fun w j=>?_))
  refine RL.ns (mv ao ?_)
  obtain⟨ar,ch,o⟩:=bd o
  refine RL.call zt zr OD [ao] zr (aF (vM N (i0:=6) j zr ch) ?_)
  rintro a8 w j
  refine RL.gK 0 ar j KJ (mv (vi 0) (RL.nt ?_))
  obtain⟨aw,hN,o⟩:=bd o
  refine RC.fold (fun(a4:Nat) (aw: (List aJ)) U w=>∃bm:Value,SH E V [(0,vp b0 0),(3,vb an.1),(4,vi ab),(16,v0_0),(17,vi p0_0.length),(18,vi ab),(64,a8),(65,vi ar.length),(66,vi a4)] [bc 126 b0 [v0_0,v0_1,v0_2,v0_3,aq,bm,v0_6,v0_7,v0_8,v0_9,v0_10,v0_11],own 134 bm aw,rd v0_0 p0_0,rd v0_2 p0_2,own 132 aq bl,own 132 a8 ar] U w) (fun(aw: (List aJ)) U w=>∃a5:Value,SH E V [(0,vp b0 0),(3,vb an.1),(16,v0_0),(17,vi p0_0.length),(18,vi ab)] [bc 126 b0 [v0_0,v0_1,v0_2,v0_3,aq,a5,v0_6,v0_7,v0_8,v0_9,v0_10,v0_11],own 134 a5 aw,rd v0_0 p0_0,rd v0_2 p0_2,own 132 aq bl,own 132 a8 ar] U w) hN ?_ ?_ ?_ ?_
  ·exact⟨ag,j.sp 8 [2,6,3,4,5,0]⟩
  ·rintro hm aw _ w ⟨cj,O,rfl,j⟩
   refine RC.sr (ic ((ar.length:Int)) ((ar.length:Int)) (RL.nq (RC.dC oE (RC.ex ?_))))
   exact⟨rfl,cj,j.sp 6 [0,1,2,3,4,5]⟩
  ·rintro hm a4 aw s' _ w hk ⟨a9,O,rfl,j⟩ o
   refine RC.sr (ic ((a4:Int)) ((ar.length:Int)) (RL.nq (RC.dB (oD hk) (RC.ss (RC.bs ?_)))))
   obtain⟨bn,ba,o⟩:=bd o
   refine RL.bU 5 j zr zr DK ba (RL.lG (f:=(fun x=>x)) 5 j (jy 5 j ba 0) (bC ba).2.1 Fd.self KK fun ax j=>?_)
   refine aT ax (RL.nt ?_)
   have j:=j.drew
   refine RC.GH (fun w=>Holds E w ([bc 126 b0 [v0_0,v0_1,v0_2,v0_3,aq,a9,v0_6,v0_7,v0_8,v0_9,v0_10,v0_11]]++V)) mixed zr [1,1,1,1,1,1,1,0,2,0,2,2,0,0,2] [0,1,2,3,4,5,6,7,8,9,10,11,12,13,14] (j.pk 7 [1]) (DP.e1 (vp b0 0) zr (fun w=>RL.move (vp b0 0) zt DP.d1) (DP.e1 (vp b0 0) zr (fun w=>RL.move (vp b0 0) zt DP.d1) (DP.e1 (vp b0 0) zr (fun w=>RL.nilCheck zr DP.d1) (DP.e1 (vp b0 5) zr (fun w=>RL.bO zr qB DP.d1) (DP.JQ a9 zr (fun w j=>RL.bS 0 a9 j yj DP.d1) (DP.e1 (vi ab) zr (fun w=>RL.move (vi ab) zt DP.d1) (DP.e1 ax zr (fun w=>RL.move ax zt DP.d1) (DP.e0 zr ?_))))))))
   refine mv ax (xt zr ?_)
   obtain⟨bo,ck,o⟩:=bd o
   refine RL.call zt zr Lz [ax] zr (aF (mZ N (i0:=0) j zr ck) ?_)
   rintro cl w j
   refine DP.d2 (j.pk 8 [2]) (DP.e0 zr ?_)
   have j:=(j.sc Int (ab:Int)).freeze 1
   refine RL.build (⟨(ab:Int),bn,bo⟩:aJ) trivial rfl j [(0,vi ab),(1,ax),(2,cl)] rfl MX rfl (fun M hs g=>by have h:=zv M;exact dA.cons (f:=fun(x:aJ) y=>{x with eV:=y}) h wx (g.sat 0 _ rfl).1 fun _ h=>dA.cons (f:=fun(x:aJ) y=>{x with Set:=y}) h wy (g.sat 2 _ rfl).1 fun _ h=>dA.cons (f:=fun(x:aJ) y=>{x with o4:=y}) h wz (g.sat 1 _ rfl).1 fun _ h=>dA.nil h) fun cm j=>?_
   refine xt zr (RL.fR ([(⟨(ab:Int),bn,bo⟩:aJ)]: (List aJ)) j [cm] Ig Ih (fun M hs g=>⟨(g.sat 0 _ zr).1,zt⟩) fun c1 w j=>(DP.d2 (j.pk 11 [5]) (DP.e2 zr ?_)))
   have j:=j.freeze 0
   obtain⟨c2,cn,o⟩:=bd o
   refine RL.app 6 0 j MY cn fun bp w j=>?_
   refine DP.d2 (j.pk 11 [5]) (DP.e0 zr (RL.nilCheck zr (cM zr (RL.bO zr qB (DP.d0 (DP.Pt zr zr (RL.jg 5 bp j zr zr (jM 6 j) yj fun w j=>?_)))))))
   refine DP.d2 zt (DP.z (cA (aG (RC.region (RL.inc hk hm (mv (vi ((a4+1:Nat):Int)) (RL.nil ?_)))))))
   obtain rfl:=oi o
   exact⟨rfl,bp,j.sp 11 [5,6,7,8,9,10]⟩
  rintro _ w ⟨a5,O,rfl,j⟩
  refine cA (aG (RC.region (RL.inc hk hm (mv (vi ((ab+1:Nat):Int)) (RL.nil ?_)))))
  obtain rfl:=oi o
  exact⟨rfl,aq,a5,j.sp 6 [0,4,1,2,3]⟩
 rintro _ w ⟨au,al,O,rfl,j⟩
 refine aG (RC.seq ?_)
 obtain⟨bb,hj,o⟩:=bd o
 refine RC.jn (fun(bb:Bool)=>SH E V [(0,vp b0 0),(2,vb bb)] [bc 126 b0 [v0_0,v0_1,v0_2,v0_3,au,al,v0_6,v0_7,v0_8,v0_9,v0_10,v0_11],rd v0_0 p0_0,rd v0_2 p0_2,own 132 au aa.1,own 134 al aa.2.1]) bb ?_ ?_
 ·refine RC.region (mv (vb aa.2.2) (mv (vb aa.2.2) (iA hj (fun ae hj=>?_) fun ae hj=>?_)))
  ·refine RL.move (vp b0 0) (cg ae) (RL.nilCheck (hg:=(cg ae)) zr (RL.bO (hg:=(cg ae)) zr qB (RL.bS (hg:=(cg ae)) 0 al j yj (RL.gK (hg:=(cg ae)) 2 aa.2.1 j Bl (RL.lN (aa.2.1.length:Int) 2000 (cg ae) (iF ae (vb (decide ((aa.2.1.length:Int)<=2000))) (aT (vb (decide ((aa.2.1.length:Int)<=2000))) (RL.nil ?_))))))))
   obtain rfl:=oi hj
   exact⟨rfl,j.sp 5 [0,3,4,1,2]⟩
  refine cH ae (cH ae (cH ae (cH ae (cH ae (cH ae (iF ae (vb false) (aT (vb false) (RL.nil ?_))))))))
  obtain rfl:=oi hj
  exact⟨rfl,j.sp 5 [0,3,4,1,2]⟩
 rintro _ w ⟨O,rfl,j⟩
 refine aG (RC.ret ?_)
 obtain rfl:=oi o
 exact cK ⟨au,al,zr,j.pk 5 [0,3,4]⟩
end Go.Gk
namespace Go.Gk
open Go Go.Proofs
variable (N:Nat) {E w:World} {b0 i0 i1:Nat} {p0 p1 p2 res:Int} {v0 v0_0 v0_1 v0_10 v0_11 v0_2 v0_3 v0_4 v0_5 v0_6 v0_7 v0_8 v0_9 v1:Value} {V:List HP}
theorem xS {p0 p1:aH} {res:Bool} (j:Holds E w V) (h0:V[i0]? =some (rd v0 p0)) (h1:V[i1]? =some (rd v1 p1)) (hb:qL N p0 p1=some res):
    Calls bN 85 [v0,v1].toArray w (iE (bV E V res)):=by
 unfold qL at hb
 refine enter Tryz.func85 zr zr ?_
 have j:=(j.dup (i0+0) h0).dup (i1+1) h1
 refine RC.sr (RL.dJ 1 v0 j zr fun o w j=>?_)
 refine RL.dJ 1 v1 j zr fun aa w j=>?_
 refine aT (vb false) (RL.ns (RL.bO zr kN (RL.aR 1 j zr fY cW (RL.bO zr l3 (RL.aR 0 j zr gS cW (ic p0.X0 p1.X1 (mv (vb (decide (p0.X0<p1.X1))) (RL.gs true (decide (p0.X0<p1.X1)) (vp aa 0) zr zr zr (eO kN) ?_))))))))
 refine RL.gs true (decide (p0.X0<p1.X1)) (vi p1.X0) rfl rfl rfl (cG 0 rfl j (fun h=>by exact(dG h:cv (true&&((decide (p0.X0<p1.X1))==true)) (vp aa 0)= (vp aa 0))) rfl fY cW) (RL.gs true (decide (p0.X0<p1.X1)) (vp o 2) rfl rfl rfl (eO l3) (RL.gs true (decide (p0.X0<p1.X1)) (vi p0.X1) rfl rfl rfl (cG 1 rfl j (fun h=>by exact(dG h:cv (true&&((decide (p0.X0<p1.X1))==true)) (vp o 2)= (vp o 2))) rfl gS cW) (RL.gs true (decide (p0.X0<p1.X1)) (vb (decide (p1.X0<p0.X1))) rfl rfl rfl (eN .lss .i64 p1.X0 p0.X1 rfl (fun h=>by exact(dG h:cv (true&&((decide (p0.X0<p1.X1))==true)) (vi p1.X0)= (vi p1.X0))) (fun h=>by exact(dG h:cv (true&&((decide (p0.X0<p1.X1))==true)) (vi p0.X1)= (vi p0.X1))) rfl) (RL.pick (decide (p0.X0<p1.X1)) (vb ((decide (p0.X0<p1.X1))&&(decide (p1.X0<p0.X1)))) (kg true) (aT (vb ((decide (p0.X0<p1.X1))&&(decide (p1.X0<p0.X1)))) (RL.ns (RL.bO rfl lZ (RL.aR 1 j rfl gE cW ?_))))))))
 refine RL.bO rfl pP (RL.aR 0 j rfl kr cW (ic p0.Y0 p1.Y1 (mv (vb (decide (p0.Y0<p1.Y1))) (RL.gs true (decide (p0.Y0<p1.Y1)) (vp aa 1) rfl rfl rfl (eO lZ) (RL.gs true (decide (p0.Y0<p1.Y1)) (vi p1.Y0) rfl rfl rfl (cG 0 rfl j (fun h=>by exact(dG h:cv (true&&((decide (p0.Y0<p1.Y1))==true)) (vp aa 1)= (vp aa 1))) rfl gE cW) (RL.gs true (decide (p0.Y0<p1.Y1)) (vp o 3) rfl rfl rfl (eO pP) (RL.gs true (decide (p0.Y0<p1.Y1)) (vi p0.Y1) rfl rfl rfl (cG 1 rfl j (fun h=>by exact(dG h:cv (true&&((decide (p0.Y0<p1.Y1))==true)) (vp o 3)= (vp o 3))) rfl kr cW) (RL.gs true (decide (p0.Y0<p1.Y1)) (vb (decide (p1.Y0<p0.Y1))) rfl rfl rfl (eN .lss .i64 p1.Y0 p0.Y1 rfl (fun h=>by exact(dG h:cv (true&&((decide (p0.Y0<p1.Y1))==true)) (vi p1.Y0)= (vi p1.Y0))) (fun h=>by exact(dG h:cv (true&&((decide (p0.Y0<p1.Y1))==true)) (vi p0.Y1)= (vi p0.Y1))) rfl) ?_))))))))
 refine RL.pick (decide (p0.Y0<p1.Y1)) (vb ((decide (p0.Y0<p1.Y1))&&(decide (p1.Y0<p0.Y1)))) (kg true) (aT (vb ((decide (p0.Y0<p1.Y1))&&(decide (p1.Y0<p0.Y1)))) (RL.ns (mv (vb ((decide (p0.X0<p1.X1))&&(decide (p1.X0<p0.X1)))) (mv (vb ((decide (p0.X0<p1.X1))&&(decide (p1.X0<p0.X1)))) (RL.gs true ((decide (p0.X0<p1.X1))&&(decide (p1.X0<p0.X1))) (vp o 3) rfl rfl rfl (eO pP) (RL.gs true ((decide (p0.X0<p1.X1))&&(decide (p1.X0<p0.X1))) (vi p0.Y1) rfl rfl rfl (cG 1 rfl j (fun h=>by exact(dG h:cv (true&&(((decide (p0.X0<p1.X1))&&(decide (p1.X0<p0.X1)))==true)) (vp o 3)= (vp o 3))) rfl kr cW) (RL.gs true ((decide (p0.X0<p1.X1))&&(decide (p1.X0<p0.X1))) (vp aa 1) rfl rfl rfl (eO lZ) (RL.gs true ((decide (p0.X0<p1.X1))&&(decide (p1.X0<p0.X1))) (vi p1.Y0) rfl rfl rfl (cG 0 rfl j (fun h=>by exact(dG h:cv (true&&(((decide (p0.X0<p1.X1))&&(decide (p1.X0<p0.X1)))==true)) (vp aa 1)= (vp aa 1))) rfl gE cW) ?_))))))))
 refine RL.gs true ((decide (p0.X0<p1.X1))&&(decide (p1.X0<p0.X1))) (vb (p0.Y1==p1.Y0)) rfl rfl rfl (eN .eql .i64 p0.Y1 p1.Y0 rfl (fun h=>by exact(dG h:cv (true&&(((decide (p0.X0<p1.X1))&&(decide (p1.X0<p0.X1)))==true)) (vi p0.Y1)= (vi p0.Y1))) (fun h=>by exact(dG h:cv (true&&(((decide (p0.X0<p1.X1))&&(decide (p1.X0<p0.X1)))==true)) (vi p1.Y0)= (vi p1.Y0))) rfl) (RL.gs true ((decide (p0.X0<p1.X1))&&(decide (p1.X0<p0.X1))) (vb (p0.Y1==p1.Y0)) rfl rfl rfl (dW (hx:=fun h=>by exact(dG h:cv (true&&(((decide (p0.X0<p1.X1))&&(decide (p1.X0<p0.X1)))==true)) (vb (p0.Y1==p1.Y0))= (vb (p0.Y1==p1.Y0))))) (RL.gs (true&&(((decide (p0.X0<p1.X1))&&(decide (p1.X0<p0.X1)))==true)) (p0.Y1==p1.Y0) (vp aa 3) rfl rfl rfl (eO pP) (RL.gs (true&&(((decide (p0.X0<p1.X1))&&(decide (p1.X0<p0.X1)))==true)) (p0.Y1==p1.Y0) (vi p1.Y1) rfl rfl rfl (cG 0 rfl j (fun h=>by exact(dG h:cv ((true&&(((decide (p0.X0<p1.X1))&&(decide (p1.X0<p0.X1)))==true))&&((p0.Y1==p1.Y0)==false)) (vp aa 3)= (vp aa 3))) rfl kr cW) (RL.gs (true&&(((decide (p0.X0<p1.X1))&&(decide (p1.X0<p0.X1)))==true)) (p0.Y1==p1.Y0) (vp o 1) rfl rfl rfl (eO lZ) (RL.gs (true&&(((decide (p0.X0<p1.X1))&&(decide (p1.X0<p0.X1)))==true)) (p0.Y1==p1.Y0) (vi p0.Y0) rfl rfl rfl (cG 1 rfl j (fun h=>by exact(dG h:cv ((true&&(((decide (p0.X0<p1.X1))&&(decide (p1.X0<p0.X1)))==true))&&((p0.Y1==p1.Y0)==false)) (vp o 1)= (vp o 1))) rfl gE cW) (RL.gs (true&&(((decide (p0.X0<p1.X1))&&(decide (p1.X0<p0.X1)))==true)) (p0.Y1==p1.Y0) (vb (p1.Y1==p0.Y0)) rfl rfl rfl (eN .eql .i64 p1.Y1 p0.Y0 rfl (fun h=>by exact(dG h:cv ((true&&(((decide (p0.X0<p1.X1))&&(decide (p1.X0<p0.X1)))==true))&&((p0.Y1==p1.Y0)==false)) (vi p1.Y1)= (vi p1.Y1))) (fun h=>by exact(dG h:cv ((true&&(((decide (p0.X0<p1.X1))&&(decide (p1.X0<p0.X1)))==true))&&((p0.Y1==p1.Y0)==false)) (vi p0.Y0)= (vi p0.Y0))) rfl) (RL.gs true ((decide (p0.X0<p1.X1))&&(decide (p1.X0<p0.X1))) (vb ((p0.Y1==p1.Y0)||(p1.Y1==p0.Y0))) rfl rfl rfl (rR (p0.Y1==p1.Y0) rfl (fun h=>by exact(dG h:cv (true&&(((decide (p0.X0<p1.X1))&&(decide (p1.X0<p0.X1)))==true)) (vb (p0.Y1==p1.Y0))= (vb (p0.Y1==p1.Y0)))) (fun h=>by exact oZ (h:=h) (true&&(((decide (p0.X0<p1.X1))&&(decide (p1.X0<p0.X1)))==true)))) (RL.pick ((decide (p0.X0<p1.X1))&&(decide (p1.X0<p0.X1))) (vb (((decide (p0.X0<p1.X1))&&(decide (p1.X0<p0.X1)))&&((p0.Y1==p1.Y0)||(p1.Y1==p0.Y0)))) (kg true) ?_))))))))
 refine mv (vb (((decide (p0.X0<p1.X1))&&(decide (p1.X0<p0.X1)))&&((p0.Y1==p1.Y0)||(p1.Y1==p0.Y0)))) (RL.gs true (((decide (p0.X0<p1.X1))&&(decide (p1.X0<p0.X1)))&&((p0.Y1==p1.Y0)||(p1.Y1==p0.Y0))) (vb ((decide (p0.Y0<p1.Y1))&&(decide (p1.Y0<p0.Y1)))) rfl rfl rfl dW (RL.gs true (((decide (p0.X0<p1.X1))&&(decide (p1.X0<p0.X1)))&&((p0.Y1==p1.Y0)||(p1.Y1==p0.Y0))) (vb ((decide (p0.Y0<p1.Y1))&&(decide (p1.Y0<p0.Y1)))) rfl rfl rfl (dW (hx:=fun h=>by exact(dG h:cv (true&&((((decide (p0.X0<p1.X1))&&(decide (p1.X0<p0.X1)))&&((p0.Y1==p1.Y0)||(p1.Y1==p0.Y0)))==false)) (vb ((decide (p0.Y0<p1.Y1))&&(decide (p1.Y0<p0.Y1))))= (vb ((decide (p0.Y0<p1.Y1))&&(decide (p1.Y0<p0.Y1))))))) (RL.gs (true&&((((decide (p0.X0<p1.X1))&&(decide (p1.X0<p0.X1)))&&((p0.Y1==p1.Y0)||(p1.Y1==p0.Y0)))==false)) ((decide (p0.Y0<p1.Y1))&&(decide (p1.Y0<p0.Y1))) (vp o 2) rfl rfl rfl (eO l3) (RL.gs (true&&((((decide (p0.X0<p1.X1))&&(decide (p1.X0<p0.X1)))&&((p0.Y1==p1.Y0)||(p1.Y1==p0.Y0)))==false)) ((decide (p0.Y0<p1.Y1))&&(decide (p1.Y0<p0.Y1))) (vi p0.X1) rfl rfl rfl (cG 1 rfl j (fun h=>by exact(dG h:cv ((true&&((((decide (p0.X0<p1.X1))&&(decide (p1.X0<p0.X1)))&&((p0.Y1==p1.Y0)||(p1.Y1==p0.Y0)))==false))&&(((decide (p0.Y0<p1.Y1))&&(decide (p1.Y0<p0.Y1)))==true)) (vp o 2)= (vp o 2))) rfl gS cW) (RL.gs (true&&((((decide (p0.X0<p1.X1))&&(decide (p1.X0<p0.X1)))&&((p0.Y1==p1.Y0)||(p1.Y1==p0.Y0)))==false)) ((decide (p0.Y0<p1.Y1))&&(decide (p1.Y0<p0.Y1))) (vp aa 0) rfl rfl rfl (eO kN) (RL.gs (true&&((((decide (p0.X0<p1.X1))&&(decide (p1.X0<p0.X1)))&&((p0.Y1==p1.Y0)||(p1.Y1==p0.Y0)))==false)) ((decide (p0.Y0<p1.Y1))&&(decide (p1.Y0<p0.Y1))) (vi p1.X0) rfl rfl rfl (cG 0 rfl j (fun h=>by exact(dG h:cv ((true&&((((decide (p0.X0<p1.X1))&&(decide (p1.X0<p0.X1)))&&((p0.Y1==p1.Y0)||(p1.Y1==p0.Y0)))==false))&&(((decide (p0.Y0<p1.Y1))&&(decide (p1.Y0<p0.Y1)))==true)) (vp aa 0)= (vp aa 0))) rfl fY cW) (RL.gs (true&&((((decide (p0.X0<p1.X1))&&(decide (p1.X0<p0.X1)))&&((p0.Y1==p1.Y0)||(p1.Y1==p0.Y0)))==false)) ((decide (p0.Y0<p1.Y1))&&(decide (p1.Y0<p0.Y1))) (vb (p0.X1==p1.X0)) rfl rfl rfl (eN .eql .i64 p0.X1 p1.X0 rfl (fun h=>by exact(dG h:cv ((true&&((((decide (p0.X0<p1.X1))&&(decide (p1.X0<p0.X1)))&&((p0.Y1==p1.Y0)||(p1.Y1==p0.Y0)))==false))&&(((decide (p0.Y0<p1.Y1))&&(decide (p1.Y0<p0.Y1)))==true)) (vi p0.X1)= (vi p0.X1))) (fun h=>by exact(dG h:cv ((true&&((((decide (p0.X0<p1.X1))&&(decide (p1.X0<p0.X1)))&&((p0.Y1==p1.Y0)||(p1.Y1==p0.Y0)))==false))&&(((decide (p0.Y0<p1.Y1))&&(decide (p1.Y0<p0.Y1)))==true)) (vi p1.X0)= (vi p1.X0))) rfl) (RL.gs (true&&((((decide (p0.X0<p1.X1))&&(decide (p1.X0<p0.X1)))&&((p0.Y1==p1.Y0)||(p1.Y1==p0.Y0)))==false)) ((decide (p0.Y0<p1.Y1))&&(decide (p1.Y0<p0.Y1))) (vb (p0.X1==p1.X0)) rfl rfl rfl (dW (hx:=fun h=>by exact(dG h:cv ((true&&((((decide (p0.X0<p1.X1))&&(decide (p1.X0<p0.X1)))&&((p0.Y1==p1.Y0)||(p1.Y1==p0.Y0)))==false))&&(((decide (p0.Y0<p1.Y1))&&(decide (p1.Y0<p0.Y1)))==true)) (vb (p0.X1==p1.X0))= (vb (p0.X1==p1.X0))))) ?_))))))))
 refine RL.gs ((true&&((((decide (p0.X0<p1.X1))&&(decide (p1.X0<p0.X1)))&&((p0.Y1==p1.Y0)||(p1.Y1==p0.Y0)))==false))&&(((decide (p0.Y0<p1.Y1))&&(decide (p1.Y0<p0.Y1)))==true)) (p0.X1==p1.X0) (vp aa 2) rfl rfl rfl (eO l3) (RL.gs ((true&&((((decide (p0.X0<p1.X1))&&(decide (p1.X0<p0.X1)))&&((p0.Y1==p1.Y0)||(p1.Y1==p0.Y0)))==false))&&(((decide (p0.Y0<p1.Y1))&&(decide (p1.Y0<p0.Y1)))==true)) (p0.X1==p1.X0) (vi p1.X1) rfl rfl rfl (cG 0 rfl j (fun h=>by exact(dG h:cv (((true&&((((decide (p0.X0<p1.X1))&&(decide (p1.X0<p0.X1)))&&((p0.Y1==p1.Y0)||(p1.Y1==p0.Y0)))==false))&&(((decide (p0.Y0<p1.Y1))&&(decide (p1.Y0<p0.Y1)))==true))&&((p0.X1==p1.X0)==false)) (vp aa 2)= (vp aa 2))) rfl gS cW) (RL.gs ((true&&((((decide (p0.X0<p1.X1))&&(decide (p1.X0<p0.X1)))&&((p0.Y1==p1.Y0)||(p1.Y1==p0.Y0)))==false))&&(((decide (p0.Y0<p1.Y1))&&(decide (p1.Y0<p0.Y1)))==true)) (p0.X1==p1.X0) (vp o 0) rfl rfl rfl (eO kN) (RL.gs ((true&&((((decide (p0.X0<p1.X1))&&(decide (p1.X0<p0.X1)))&&((p0.Y1==p1.Y0)||(p1.Y1==p0.Y0)))==false))&&(((decide (p0.Y0<p1.Y1))&&(decide (p1.Y0<p0.Y1)))==true)) (p0.X1==p1.X0) (vi p0.X0) rfl rfl rfl (cG 1 rfl j (fun h=>by exact(dG h:cv (((true&&((((decide (p0.X0<p1.X1))&&(decide (p1.X0<p0.X1)))&&((p0.Y1==p1.Y0)||(p1.Y1==p0.Y0)))==false))&&(((decide (p0.Y0<p1.Y1))&&(decide (p1.Y0<p0.Y1)))==true))&&((p0.X1==p1.X0)==false)) (vp o 0)= (vp o 0))) rfl fY cW) (RL.gs ((true&&((((decide (p0.X0<p1.X1))&&(decide (p1.X0<p0.X1)))&&((p0.Y1==p1.Y0)||(p1.Y1==p0.Y0)))==false))&&(((decide (p0.Y0<p1.Y1))&&(decide (p1.Y0<p0.Y1)))==true)) (p0.X1==p1.X0) (vb (p1.X1==p0.X0)) rfl rfl rfl (eN .eql .i64 p1.X1 p0.X0 rfl (fun h=>by exact(dG h:cv (((true&&((((decide (p0.X0<p1.X1))&&(decide (p1.X0<p0.X1)))&&((p0.Y1==p1.Y0)||(p1.Y1==p0.Y0)))==false))&&(((decide (p0.Y0<p1.Y1))&&(decide (p1.Y0<p0.Y1)))==true))&&((p0.X1==p1.X0)==false)) (vi p1.X1)= (vi p1.X1))) (fun h=>by exact(dG h:cv (((true&&((((decide (p0.X0<p1.X1))&&(decide (p1.X0<p0.X1)))&&((p0.Y1==p1.Y0)||(p1.Y1==p0.Y0)))==false))&&(((decide (p0.Y0<p1.Y1))&&(decide (p1.Y0<p0.Y1)))==true))&&((p0.X1==p1.X0)==false)) (vi p0.X0)= (vi p0.X0))) rfl) (RL.gs (true&&((((decide (p0.X0<p1.X1))&&(decide (p1.X0<p0.X1)))&&((p0.Y1==p1.Y0)||(p1.Y1==p0.Y0)))==false)) ((decide (p0.Y0<p1.Y1))&&(decide (p1.Y0<p0.Y1))) (vb ((p0.X1==p1.X0)||(p1.X1==p0.X0))) rfl rfl rfl (rR (p0.X1==p1.X0) rfl (fun h=>by exact(dG h:cv ((true&&((((decide (p0.X0<p1.X1))&&(decide (p1.X0<p0.X1)))&&((p0.Y1==p1.Y0)||(p1.Y1==p0.Y0)))==false))&&(((decide (p0.Y0<p1.Y1))&&(decide (p1.Y0<p0.Y1)))==true)) (vb (p0.X1==p1.X0))= (vb (p0.X1==p1.X0)))) (fun h=>by exact oZ (h:=h) ((true&&((((decide (p0.X0<p1.X1))&&(decide (p1.X0<p0.X1)))&&((p0.Y1==p1.Y0)||(p1.Y1==p0.Y0)))==false))&&(((decide (p0.Y0<p1.Y1))&&(decide (p1.Y0<p0.Y1)))==true)))) (RL.gs true (((decide (p0.X0<p1.X1))&&(decide (p1.X0<p0.X1)))&&((p0.Y1==p1.Y0)||(p1.Y1==p0.Y0))) (vb (((decide (p0.Y0<p1.Y1))&&(decide (p1.Y0<p0.Y1)))&&((p0.X1==p1.X0)||(p1.X1==p0.X0)))) rfl rfl rfl (rR ((decide (p0.Y0<p1.Y1))&&(decide (p1.Y0<p0.Y1))) rfl (fun h=>by exact(dG h:cv (true&&((((decide (p0.X0<p1.X1))&&(decide (p1.X0<p0.X1)))&&((p0.Y1==p1.Y0)||(p1.Y1==p0.Y0)))==false)) (vb ((decide (p0.Y0<p1.Y1))&&(decide (p1.Y0<p0.Y1))))= (vb ((decide (p0.Y0<p1.Y1))&&(decide (p1.Y0<p0.Y1)))))) (fun h=>by exact kg (h:=h) (true&&((((decide (p0.X0<p1.X1))&&(decide (p1.X0<p0.X1)))&&((p0.Y1==p1.Y0)||(p1.Y1==p0.Y0)))==false)))) (RL.pick (((decide (p0.X0<p1.X1))&&(decide (p1.X0<p0.X1)))&&((p0.Y1==p1.Y0)||(p1.Y1==p0.Y0))) (vb ((((decide (p0.X0<p1.X1))&&(decide (p1.X0<p0.X1)))&&((p0.Y1==p1.Y0)||(p1.Y1==p0.Y0)))||(((decide (p0.Y0<p1.Y1))&&(decide (p1.Y0<p0.Y1)))&&((p0.X1==p1.X0)||(p1.X1==p0.X0))))) (oZ true) (aT (vb ((((decide (p0.X0<p1.X1))&&(decide (p1.X0<p0.X1)))&&((p0.Y1==p1.Y0)||(p1.Y1==p0.Y0)))||(((decide (p0.Y0<p1.Y1))&&(decide (p1.Y0<p0.Y1)))&&((p0.X1==p1.X0)||(p1.X1==p0.X0))))) ?_))))))))
 refine RL.nt (RC.ret ?_)
 obtain rfl:=oi hb
 exact cK ⟨rfl,j.drop 4⟩
theorem qS {p0:aH} {p1:cD} {res:Bool} (j:Holds E w V) (h0:V[i0]? =some (rd v0 p0)) (h1:V[i1]? =some (pt v1 p1)) (o:jt N p0 p1=some res):
    Calls bN 84 [v0,v1].toArray w (iE (bV E V res)):=by
 unfold jt at o
 refine enter Tryz.func84 zr zr ?_
 have j:=(j.dup (i0+0) h0).y7 (i:=i1+1) h1
 refine RC.sr (RL.dJ 1 v0 j zr fun ah w j=>?_)
 have j:=j.hG (i:=0) rfl
 refine aT (vb false) (RL.nq (RC.AE mixed [1,0,2,2,0] [0,1,2,3,4] ?_))
 have j:=j.drew
 refine DP.yI p0 0 zr j jE fun aa a33 ai j=>(DP.e0 zr (RL.bY 3 p1 j mD fun ab j=>(xt zr ?_)))
 obtain⟨aj,ad,o⟩:=bd o
 refine RL.call zt zr GP [ab] zr (aF (hZ N (i0:=0) j zr ad) ?_)
 rintro ae w j
 refine DP.d2 (⟨zt,j.kW 2⟩) (DP.e2 zr ?_)
 obtain⟨af,ag,o⟩:=bd o
 refine RL.call zt zr OG [aa,ae] zr (aF (xS N (i0:=3) (i1:=0) j zr zr ag) ?_)
 rintro _ w ⟨rfl,j⟩
 refine DP.d2 (⟨zt,j.kW 2⟩) (DP.e0 zr (aT (vb af) (DP.d0 ?_)))
 have j:=j.pl 7 [0,1,3,4,5,6]
 refine DP.z (aG (RC.ret ?_))
 obtain rfl:=oi o
 exact cK ⟨rfl,j.drop 6⟩
theorem lI {p0: (List aH)} {p1:aH->Option Bool} {res:Bool} (j:Holds E w V) (h0:V[i0]? =some (rd v0 p0)) (h1:Jt bN E V v1 p1 (fun(r:Bool)=>Value.bool r)) (o:f0 N p0 p1=some res):
    Calls bN 83 [v0,v1].toArray w (iE (bV E V res)):=by
 unfold f0 at o
 refine enter Tryz.func83 zr zr ?_
 have j:=j.dup (i0+0) h0
 refine RC.sr (aT (vb false) (RL.ns (mv v0 (mv v1 ?_))))
 obtain⟨aa,ab,o⟩:=bd o
 refine RL.call zt zr KE [v0,v1] zr (aF (qQ N (i0:=0) j zr (h1.lift 1 zr) ab) ?_)
 rintro _ w ⟨rfl,j⟩
 refine ic aa 0 (aT (vb (decide (aa>=0))) (RL.nt (RC.ret ?_)))
 obtain rfl:=oi o
 exact cK ⟨rfl,j.drop 1⟩
def tM (E:World) (V:List HP) (b0:Nat) (v0_0 v0_1:Value) (v0_2 v0_3:Value) (v0_4 v0_5:Value) (v0_7 v0_8:Value) (v0_9 v0_10 v0_11:Value) (res: (List (List Int))) (v:Value) (w:World):Prop:=∃u0_6:Value,v = .tuple #[]/\Holds E w ([bc 126 b0 [v0_0,v0_1,v0_2,v0_3,v0_4,v0_5,u0_6,v0_7,v0_8,v0_9,v0_10,v0_11],own 87 u0_6 res]++V)
theorem sX {p0_2: (List cD)} {p0_5: (List aJ)} {p0_6: (List (List Int))} {res: (List (List Int))} (j:Holds E w (bc 126 b0 [v0_0,v0_1,v0_2,v0_3,v0_4,v0_5,v0_6,v0_7,v0_8,v0_9,v0_10,v0_11]::rd v0_2 p0_2::rd v0_5 p0_5::own 87 v0_6 p0_6::V)) (hb:jk N p0_2 p0_5 p0_6=some res):
    Calls bN 52 [(vp b0 0)].toArray w (iE (tM E V b0 v0_0 v0_1 v0_2 v0_3 v0_4 v0_5 v0_7 v0_8 v0_9 v0_10 v0_11 res)):=by
 unfold jk at hb
 refine enter Tryz.func52 zr zr (RC.sr (mv (vp b0 0) (RL.nilCheck zr (RL.bO zr mW (RL.bO zr oc (RL.bS 0 v0_2 j xK (RL.bM 1 p0_2 j zw (mv (vi 0) ?_))))))))
 refine RL.nt ?_
 obtain⟨af,hN,hb⟩:=bd hb
 refine RC.fold (fun(ai:Nat) (af: (List (List Int))) U w=>∃az:Value,SH E V [(0,vp b0 0),(11,v0_2),(12,vi p0_2.length),(13,vi ai)] [bc 126 b0 [v0_0,v0_1,v0_2,v0_3,v0_4,v0_5,az,v0_7,v0_8,v0_9,v0_10,v0_11],own 87 az af,rd v0_2 p0_2,rd v0_5 p0_5] U w) (fun(af: (List (List Int))) U w=>∃aq:Value,SH E V [(0,vp b0 0)] [bc 126 b0 [v0_0,v0_1,v0_2,v0_3,v0_4,v0_5,aq,v0_7,v0_8,v0_9,v0_10,v0_11],own 87 aq af,rd v0_2 p0_2,rd v0_5 p0_5] U w) hN ?_ ?_ ?_ ?_
 ·exact⟨v0_6,j.sp 4 [0,3,1,2]⟩
 ·rintro hm af _ w ⟨a4,O,rfl,j⟩
  refine RC.sr (ic ((p0_2.length:Int)) ((p0_2.length:Int)) (RL.nq (RC.dC oE (RC.ex ?_))))
  exact⟨rfl,a4,j.sp 4 [0,1,2,3]⟩
 ·rintro hm ai af s' _ w hk ⟨ah,O,rfl,j⟩ hb
  refine RC.sr (ic ((ai:Int)) ((p0_2.length:Int)) (RL.nq (RC.dB (oD hk) (RC.ss (RC.bs ?_)))))
  obtain⟨aj,a5,hb⟩:=bd hb
  refine RL.cJ 2 j Ce a5 fun bk j=>(RL.bY 0 aj j mD fun bl j=>(RL.alloc j Bj.z fun ag w j=>?_))
  refine RL.bW 0 j 1 zr mD fun w j=>?_
  refine RL.ns (aT (.slice none 0 0) (RL.nq (RC.sr (mv (vp b0 0) (RL.nilCheck zr (RL.bO zr qB (RL.bS 3 v0_5 j yj (RL.bM 6 p0_5 j Bl ?_))))))))
  refine mv (vi 0) (RL.nt ?_)
  have j:=j.hG (i:=0) rfl
  obtain⟨ak,hN,hb⟩:=bd hb
  refine RC.fold (fun(ab:Nat) (ak: (List Int)) U w=>∃a0:Value,SH E V [(0,vp b0 0),(3,vp ag 0),(4,a0),(11,v0_2),(12,vi p0_2.length),(13,vi ai),(20,v0_5),(21,vi p0_5.length),(22,vi ab)] [bc 126 b0 [v0_0,v0_1,v0_2,v0_3,v0_4,v0_5,ah,v0_7,v0_8,v0_9,v0_10,v0_11],rd v0_2 p0_2,rd v0_5 p0_5,own 87 ah af,pt (vp ag 0) aj,own 3 a0 ak] U w) (fun(ak: (List Int)) U w=>∃ao:Value,SH E V [(0,vp b0 0),(4,ao),(11,v0_2),(12,vi p0_2.length),(13,vi ai)] [bc 126 b0 [v0_0,v0_1,v0_2,v0_3,v0_4,v0_5,ah,v0_7,v0_8,v0_9,v0_10,v0_11],rd v0_2 p0_2,rd v0_5 p0_5,own 87 ah af,pt (vp ag 0) aj,own 3 ao ak] U w) hN ?_ ?_ ?_ ?_
  ·have j:=j.eC Int 3
   exact⟨(.slice none 0 0),j.sp 8 [4,6,7,5,1,0]⟩
  ·rintro hm ak _ w ⟨a6,O,rfl,j⟩
   refine RC.sr (ic ((p0_5.length:Int)) ((p0_5.length:Int)) (RL.nq (RC.dC oE (RC.ex ?_))))
   exact⟨rfl,a6,j.sp 6 [0,1,2,3,4,5]⟩
  ·rintro hm ab ak s' _ w hk ⟨ar,O,rfl,j⟩ hb
   refine RC.sr (ic ((ab:Int)) ((p0_5.length:Int)) (RL.nq (RC.dB (oD hk) (RC.ss (RC.bs (mv (vi ab) ?_))))))
   obtain⟨aw,a7,hb⟩:=bd hb
   refine RL.cJ 2 j Ig a7 fun bm j=>(RL.bY 0 aw j FX fun bn j=>(RL.alloc j Ih.z fun bo w j=>?_))
   refine aT (vi ab) (RL.bW 0 j 1 zr FX fun w j=>?_)
   refine RL.nq ?_
   obtain⟨ax,o,hb⟩:=bd hb
   refine RC.jn (fun(ax:Bool)=>SH E V [(0,vp b0 0),(3,vp ag 0),(4,ar),(5,vi ab),(11,v0_2),(12,vi p0_2.length),(13,vi ai),(20,v0_5),(21,vi p0_5.length),(22,vi ab),(40,vb ax)] [bc 126 b0 [v0_0,v0_1,v0_2,v0_3,v0_4,v0_5,ah,v0_7,v0_8,v0_9,v0_10,v0_11],rd v0_2 p0_2,rd v0_5 p0_5,own 87 ah af,pt (vp ag 0) aj,own 3 ar ak]) ax ?_ ?_
   ·refine RC.region (RL.iT 7 j zr yT uv fun bp j=>(RL.cB aj.iO 0 j yk (mv (vb aj.iO) (iA o (fun ad o=>?_) fun ad o=>?_))))
    rotate_left
    ·refine cH ad (cH ad (cH ad (cH ad (iF ad (vb false) (mv (vb false) (qY (qY (qY ?_))))))))
     refine qY (RL.pick false (vb false) zr (RL.nil ?_))
     obtain rfl:=oi o
     exact⟨rfl,j.sp 10 [4,5,6,7,8,9]⟩
    refine RL.bY (hg:=(cg ad)) 8 aj j mD fun a8 j=>(RL.bO (hg:=(cg ad)) zr FY (RL.aR (hg:=(cg ad)) 2 j zr qz cW ?_))
    obtain⟨a1,a9,o⟩:=bd o
    refine RL.call (cg ad) zr LC [a8,(vi aw.eV)] zr (aF (nD N (p1:=aw.eV) (i0:=0) j zr a9) ?_)
    rintro _ w ⟨rfl,j⟩
    refine iF ad (vb a1) (mv (vb a1) (iA o (fun ae o=>?_) fun ae o=>?_))
    rotate_left
    ·refine cH ae (cH ae (cH ae (cH ae (iF ae (vb false) (RL.nil ?_)))))
     obtain rfl:=oi o
     exact⟨rfl,j.sp 11 [5,6,7,8,9,10]⟩
    refine RL.bO (hg:=(cg ae)) zr FZ (RL.aV (hg:=(cg ae)) 2 j zr qA Cd fun ba j=>(RL.makeFunc (hg:=(cg ae)) [(vp ag 0)] ?_))
    obtain⟨bb,bf,o⟩:=bd o
    refine RL.call (cg ae) rfl MZ [ba,(.func (.func 84) #[] #[(vp ag 0)])] rfl (aF (lI N (i0:=0) j rfl ⟨84,[(vp ag 0)],rfl,OH,fun w Γl v y0 r i j hi hr=>by exact aF (qS N (i0:=i) (i1:=Γl.length+10) j hi (BQ rfl) hr) fun _ _ h=>h⟩ bf) ?_)
    rintro _ w ⟨rfl,j⟩
    refine iF ae (vb bb) (RL.nil ?_)
    obtain rfl:=oi o
    exact⟨rfl,j.sp 12 [6,7,8,9,10,11]⟩
   rintro _ w ⟨O,rfl,j⟩
   refine aG ?_
   obtain⟨ay,o,hb⟩:=bd hb
   refine RC.jn (fun(ay: (List Int)) U w=>∃au:Value,SH E V [(0,vp b0 0),(3,vp ag 0),(4,au),(11,v0_2),(12,vi p0_2.length),(13,vi ai),(20,v0_5),(21,vi p0_5.length),(22,vi ab)] [bc 126 b0 [v0_0,v0_1,v0_2,v0_3,v0_4,v0_5,ah,v0_7,v0_8,v0_9,v0_10,v0_11],rd v0_2 p0_2,rd v0_5 p0_5,own 87 ah af,pt (vp ag 0) aj,own 3 au ay] U w) ay ?_ ?_
   ·refine fK o (fun hc o=>?_) fun hc o=>?_
    rotate_left
    ·refine RC.skip ?_
     obtain rfl:=oi o
     exact⟨rfl,ar,j.sp 6 [0,1,2,3,4,5]⟩
    refine RC.region (mv ar (mv (vi ab) ?_))
    have j:=j.sc Int (ab:Int)
    refine RL.fR ([(ab:Int)]: (List Int)) j [(vi ab)] fI Hy (fun M hs g=>⟨(g.sat 0 _ zr).1,zt⟩) fun bq w j=>?_
    have j:=j.freeze 0
    obtain⟨br,bh,o⟩:=bd o
    refine RL.app 7 0 j wB bh fun a2 w j=>?_
    refine aT a2 (RL.nil ?_)
    obtain rfl:=oi o
    exact⟨rfl,a2,j.sp 8 [2,3,4,5,6,7]⟩
   rintro _ w ⟨au,O,rfl,j⟩
   refine cA (aG (RC.region (RL.inc hk hm (mv (vi ((ab+1:Nat):Int)) (RL.nil ?_)))))
   obtain rfl:=oi hb
   exact⟨rfl,au,j.sp 6 [0,1,2,3,4,5]⟩
  rintro _ w ⟨ao,O,rfl,j⟩
  refine aG (RC.region (mv (vp b0 0) (mv (vp b0 0) (RL.nilCheck zr (RL.bO zr yU (RL.bS 0 ah j F0 (mv ao ?_)))))))
  have j:=j.freeze 5
  refine RL.fR ([ak]: (List (List Int))) j [ao] zz M1 (fun M hs g=>⟨(g.sat 5 _ zr).1,zt⟩) fun bt w j=>?_
  have j:=j.freeze 0
  obtain⟨bu,bj,hb⟩:=bd hb
  refine RL.app 4 0 j KO bj fun a3 w j=>?_
  refine RL.nilCheck zr (RL.bO zr yU (RL.jg 1 a3 j zr zr (jM 4 j) F0 fun w j=>?_))
  refine RL.nil (cA (aG (RC.region (RL.inc hk hm (mv (vi ((ai+1:Nat):Int)) (RL.nil ?_))))))
  obtain rfl:=oi hb
  exact⟨rfl,a3,j.sp 7 [1,4,2,3]⟩
 rintro _ w ⟨aq,O,rfl,j⟩
 obtain rfl:=oi hb
 refine C1 ?_
 exact Jz zr ⟨aq,zr,j.pk 4 [0,1]⟩
def vN (E:World) (V:List HP) (res: ((List Int))) (v:Value) (w:World):Prop:=∃(ub0:Nat) (u0_0:Value),v=vp ub0 0/\Holds E w ([bc 176 ub0 [u0_0],own 3 u0_0 res]++V)
theorem o7 {res: ((List Int))} (j:Holds E w V) (hb:jc N p0=some res):
    Calls bN 61 [(vi p0)].toArray w (iE (vN E V res)):=by
 unfold jc at hb
 refine enter Tryz.func61 zr zr (RC.sr (aT (.pointer none) (RL.ns (mv (vi p0) ?_))))
 obtain⟨af,aj,hb⟩:=bd hb
 refine RL.mk p0 j wB L5 aj fun o w j=>?_
 refine RL.HK (zs:=[(.slice none 0 0)]) (cs:=[o]) zt zr [(0,o)] zr M3 ⟨(jM 0 j),zt⟩ zr (RL.FM (cs:=[o]) zt zr j zr (Dh.all (⟨(jM 0 j),zt⟩:Dh [o])) fun ab w j=>?_)
 refine aT (vp ab 0) (RL.nq (RC.sr (mv (vp ab 0) (RL.nilCheck zr (RL.bO zr pw (RL.bS 0 o j gx (RL.gK 1 af j nN (mv (vi 0) ?_))))))))
 refine RL.nt ?_
 obtain⟨ae,hN,hb⟩:=bd hb
 refine RC.fold (fun(ad:Nat) (ae: (List Int))=>SH E V [(3,vp ab 0),(13,vi af.length),(14,vi ad)] [bc 176 ab [o],own 3 o ae]) (fun(ae: (List Int))=>SH E V [(3,vp ab 0)] [bc 176 ab [o],own 3 o ae]) hN ?_ ?_ ?_ ?_
 ·exact j.sp 2 [0,1]
 ·rintro hm ae _ w ⟨O,rfl,j⟩
  refine RC.sr (ic ((af.length:Int)) ((af.length:Int)) (RL.nq (RC.dC oE (RC.ex ?_))))
  exact⟨rfl,j.sp 2 [0,1]⟩
 ·rintro hm ad ae s' _ w hk ⟨O,rfl,j⟩ hb
  refine RC.sr (ic ((ad:Int)) ((af.length:Int)) (RL.nq (RC.dB (oD hk) (RC.ss (RC.bs (mv (vi ad) (aT (vi ad) (RL.nt ?_))))))))
  refine RC.region (mv (vp ab 0) (RL.nilCheck zr (RL.bO zr pw (RL.bS 0 o j gx (mv (vi ad) (mv (vi ad) ?_))))))
  obtain⟨al,ag,hb⟩:=bd hb
  refine RL.bU 1 j zr zr fI ag ?_
  have j:=j.sc Int (ad:Int)
  refine RL.fQ (f:=(fun _ y=>y)) 2 0 j (jy 2 j ag 0) (bC ag).2.1 zr Fs.self cW fun w j=>?_
  refine RL.nil (cA (aG (RC.region (RL.inc hk hm (mv (vi ((ad+1:Nat):Int)) (RL.nil ?_))))))
  obtain rfl:=oi hb
  exact⟨rfl,j.sp 3 [1,2]⟩
 rintro _ w ⟨O,rfl,j⟩
 refine aG (RC.sr (mv (vp ab 0) (aT (vp ab 0) (RL.nt (RC.ret ?_)))))
 obtain rfl:=oi hb
 exact cK ⟨ab,o,zr,j.pk 2 [0,1]⟩
def u6 (E:World) (V:List HP) (b0:Nat) (res:Int×(List Int)) (v:Value) (w:World):Prop:=∃u0_0:Value,v= (vi res.1)/\Holds E w ([bc 176 b0 [u0_0],own 3 u0_0 res.2]++V)
theorem gF {p0_0: (List Int)} {res:Int×(List Int)} (j:Holds E w (bc 176 b0 [v0_0]::own 3 v0_0 p0_0::V)) (o:dX N p0_0 p1=some res):
    Calls bN 64 [(vp b0 0),(vi p1)].toArray w (iE (u6 E V b0 res)):=by
 unfold dX at o
 refine enter Tryz.func64 zr zr (RC.sr (aT (vi 0) (RL.nq ?_)))
 obtain⟨an,hN,o⟩:=bd o
 refine RC.iter (fun(aa: (List Int)×Int)=>SH E V [(0,vp b0 0),(1,vi aa.2)] [bc 176 b0 [v0_0],own 3 v0_0 aa.1]) (fun(aa: (List Int)×Int)=>SH E V [(0,vp b0 0),(1,vi aa.2)] [bc 176 b0 [v0_0],own 3 v0_0 aa.1]) (fun(r:Empty) _ _=>r.elim) hN ?_ ?_ ?_ ?_
 ·exact j.sp 2 [0,1]
 ·rintro aa fl _ w ⟨O,rfl,j⟩ o
  refine RC.seq (RC.sr (mv (vp b0 0) (RL.nilCheck zr (RL.bO zr pw (RL.bS 0 v0_0 j gx (mv (vi aa.2) ?_))))))
  obtain⟨ai,ab,o⟩:=bd o
  refine RL.bU 1 j zr zr fI ab (RL.dE (f:=(fun x=>x)) 1 j (jy 1 j ab 0) (bC ab).2.1 Fd.self cW (mv (vi aa.2) (ic ai aa.2 (RL.nt (fK o (fun hc o=>?_) fun hc o=>?_)))))
  rotate_left
  ·refine RC.ex ?_
   obtain rfl:=oi o
   exact⟨rfl,j.sp 2 [0,1]⟩
  refine RC.sn (RC.block (RC.seq (RC.AE mixed [0,0,0,0,0,0,0,0,0,0,0,0,0,0,0,0,0,0,0,2] [0,1,2,3,4,5,6,7,8,9,10,11,12,13,14,15,16,17,18,19] ?_)))
  have j:=j.drew
  refine DP.e0 zr (mv (vp b0 0) (cM zr (RL.nilCheck zr (cM zr (RL.bO zr pw (cM zr (RL.bS 0 v0_0 j gx (cM zr ?_))))))))
  refine mv (vi aa.2) (cM zr (mv (vp b0 0) (cM zr (RL.nilCheck zr (cM zr (RL.bO zr pw (cM zr (RL.bS 0 v0_0 j gx ?_))))))))
  refine cM zr (mv (vp b0 0) (cM zr (RL.nilCheck zr (cM zr (RL.bO zr pw (cM zr (RL.bS 0 v0_0 j gx (cM zr ?_))))))))
  refine mv (vi aa.2) (cM zr ?_)
  obtain⟨aq,ad,o⟩:=bd o
  refine RL.bU 1 j zr zr fI ad (cM zr (RL.dE (f:=(fun x=>x)) 1 j (jy 1 j ad 0) (bC ad).2.1 Fd.self cW (cM zr ?_)))
  obtain⟨ak,ae,o⟩:=bd o
  refine RL.bU 1 j zr zr fI ae (cM zr (RL.dE (f:=(fun x=>x)) 1 j (jy 1 j ae 0) (bC ae).2.1 Fd.self cW (cM zr ?_)))
  obtain⟨ar,af,o⟩:=bd o
  refine RL.bU 1 j zr zr fI af (xt zr ?_)
  have j:=j.sc Int ak
  refine RL.fQ (f:=(fun _ y=>y)) 2 0 j (jy 2 j af 0) (bC af).2.1 zr Fs.self cW fun w j=>?_
  refine DP.d2 zt (DP.z (aG (RC.region (mv (vp b0 0) (RL.nilCheck zr (RL.bO zr pw (RL.bS 1 v0_0 j gx (mv (vi aa.2) ?_))))))))
  obtain⟨al,ag,o⟩:=bd o
  refine RL.bU 2 j zr zr fI ag (RL.dE (f:=(fun x=>x)) 2 j (jy 2 j ag 0) (bC ag).2.1 Fd.self cW (aT (vi al) (RL.nil (cA ?_))))
  obtain rfl:=oi o
  exact⟨rfl,j.sp 3 [1,2]⟩
 ·intro r _ _ _ _
  exact r.elim
 rintro aa _ w rfl ⟨O,rfl,j⟩
 rw [Fo.gm] at o
 refine aG (RC.sr (mv (vi aa.2) (aT (vi aa.2) (RL.nt (RC.ret ?_)))))
 obtain rfl:=oi o
 exact cK ⟨v0_0,zr,j.pk 2 [0,1]⟩
def tN (E:World) (V:List HP) (b0:Nat) (res: (List Int)) (v:Value) (w:World):Prop:=∃u0_0:Value,v = .tuple #[]/\Holds E w ([bc 176 b0 [u0_0],own 3 u0_0 res]++V)
theorem nU {p0_0: (List Int)} {res: (List Int)} (j:Holds E w (bc 176 b0 [v0_0]::own 3 v0_0 p0_0::V)) (o:dQ N p0_0 p1 p2=some res):
    Calls bN 63 [(vp b0 0),(vi p1),(vi p2)].toArray w (iE (tN E V b0 res)):=by
 unfold dQ at o
 refine enter Tryz.func63 zr zr (RC.sr (mv (vp b0 0) (mv (vi p1) ?_)))
 have j:=(j.pull 1).pull 1
 obtain⟨aa,af,o⟩:=bd o
 refine RL.call zt zr GR [(vp b0 0),(vi p1)] zr (aF (gF N (p1:=p1) j af) ?_)
 rintro _ w ⟨ah,rfl,j⟩
 refine mv (vp b0 0) (mv (vi p2) ?_)
 have j:=(j.pull 1).pull 1
 obtain⟨ab,ag,o⟩:=bd o
 refine RL.call zt zr GR [(vp b0 0),(vi p2)] zr (aF (gF N (p1:=p2) j ag) ?_)
 rintro _ w ⟨ae,rfl,j⟩
 refine aT (vi aa.1) (aT (vi ab.1) (RL.nt (RC.region (mv (vp b0 0) (RL.nilCheck zr (RL.bO zr pw (RL.bS 0 ae j gx (mv (vi aa.1) ?_))))))))
 refine mv (vi ab.1) (RL.max aa.1 ab.1 (mv (vi aa.1) (mv (vi ab.1) (RL.min aa.1 ab.1 ?_))))
 obtain⟨ai,ad,o⟩:=bd o
 refine RL.bU 1 j zr zr fI ad ?_
 have j:=j.sc Int (if ab.1<aa.1 then ab.1 else aa.1)
 refine RL.fQ (f:=(fun _ y=>y)) 2 0 j (jy 2 j ad 0) (bC ad).2.1 zr Fs.self cW fun w j=>?_
 refine RL.nil ?_
 obtain rfl:=oi o
 refine C1 ?_
 exact Jz zr ⟨ae,zr,j.pk 7 [1,2]⟩
def tO (E:World) (V:List HP) (b0:Nat) (res: (List (List Int))×(List Int)) (v:Value) (w:World):Prop:=∃u0 u0_0:Value,v=u0/\Holds E w ([own 87 u0 res.1,bc 176 b0 [u0_0],own 3 u0_0 res.2]++V)
theorem sY {p0_0: (List Int)} {res: (List (List Int))×(List Int)} (o:Holds E w (bc 176 b0 [v0_0]::own 3 v0_0 p0_0::V)) (hb:jl N p0_0=some res):
    Calls bN 86 [(vp b0 0)].toArray w (iE (tO E V b0 res)):=by
 unfold jl at hb
 refine enter Tryz.func86 zr zr (RC.sr (aT (.slice none 0 0) (RL.ns (aT (.slice none 0 0) (RL.ns (RL.makeMap (κ:=Int) (ν:=Int) zr o fun aq w o=>(aT aq (RL.nq ?_))))))))
 refine RC.sr (mv (vp b0 0) (RL.nilCheck zr (RL.bO zr pw (RL.bS 1 v0_0 o gx (RL.gK 2 p0_0 o nN (mv (vi 0) (RL.nt ?_)))))))
 obtain⟨ao,hN,hb⟩:=bd hb
 refine RC.fold (fun(ai:Nat) (ao: (List Int)×(List (List Int))×(List (Int×Int))) U w=>∃(a4 a5:Value) (us110:List RV),SH E V [(0,vp b0 0),(3,a5),(4,aq),(12,vi p0_0.length),(13,vi ai)] [bc 176 b0 [a4],own 3 a4 ao.1,mp aq ao.2.2,own 87 a5 us110,jz (XS 3 Int) us110 ao.2.1 none] U w) (fun(ao: (List Int)×(List (List Int))×(List (Int×Int))) U w=>∃(ax av:Value) (us113:List RV),SH E V [(0,vp b0 0),(3,av)] [bc 176 b0 [ax],own 3 ax ao.1,mp aq ao.2.2,own 87 av us113,jz (XS 3 Int) us113 ao.2.1 none] U w) hN ?_ ?_ ?_ ?_
 ·have o:=(o.BT (XS 3 Int)).eC RV 87
  exact⟨v0_0,(.slice none 0 0),([]:List RV),o.sp 5 [3,4,2,0,1]⟩
 ·rintro hm ao _ w ⟨bb,bf,us153,O,rfl,o⟩
  refine RC.sr (ic ((p0_0.length:Int)) ((p0_0.length:Int)) (RL.nq (RC.dC oE (RC.ex ?_))))
  exact⟨rfl,bb,bf,us153,o.sp 5 [0,1,2,3,4]⟩
 ·rintro hm ai ao s' _ w hk ⟨bl,a1,us116,O,rfl,o⟩ hb
  refine RC.sr (ic ((ai:Int)) ((p0_0.length:Int)) (RL.nq (RC.dB (oD hk) (RC.ss (RC.bs (mv (vi ai) (aT (vi ai) (RL.ns ?_))))))))
  refine mv (vp b0 0) (mv (vi ai) ?_)
  have o:=(o.pull 1).pull 1
  obtain⟨ab,bg,hb⟩:=bd hb
  refine RL.call zt zr GR [(vp b0 0),(vi ai)] zr (aF (gF N (p1:=(ai:Int)) o bg) ?_)
  rintro _ w ⟨aw,rfl,o⟩
  refine aT (vi ab.1) (RL.nq (RC.sr (mv (vi ab.1) (mv (vi ai) (ic ab.1 ((ai:Int)) (RL.nt ?_))))))
  obtain⟨aa,hj,hb⟩:=bd hb
  refine RC.jn (fun(aa: (List (List Int))×(List (Int×Int))) U w=>∃(an:Value) (us124:List RV),SH E V [(0,vp b0 0),(3,an),(4,aq),(5,vi ai),(6,vi ab.1),(12,vi p0_0.length),(13,vi ai)] [bc 176 b0 [aw],own 3 aw ab.2,mp aq aa.2,own 87 an us124,jz (XS 3 Int) us124 aa.1 none] U w) aa ?_ ?_
  ·refine fK hj (fun hc hj=>?_) fun hc hj=>?_
   rotate_left
   ·refine RC.skip ?_
    obtain rfl:=oi hj
    exact⟨rfl,a1,us116,o.sp 7 [0,1,4,5,6]⟩
   refine RC.sr (mv aq (mv (vi ai) (mv a1 (RL.tn 5 6 ao.2.1 zr o zr zr zr F1 ?_))))
   have o:=o.sc Int (ao.2.1.length:Int)
   refine RL.mapUpdate 5 0 (ai:Int) o zr zr zr zr zr yi fun w o=>(RL.nt (RC.region (mv a1 ?_)))
   have o:=(o.eC Int 3).FK (i:=0) rfl
   refine RL.fR ([rv (.slice none 0 0)]:List RV) o [(.slice none 0 0)] zz M1 (fun M hs g=>⟨(g.sat 0 _ zr).1,zt⟩) fun bm w o=>?_
   obtain⟨bn,bj,hj⟩:=bd hj
   have o:=o.freeze 0
   refine RL.Dm 9 0 10 2 zt zr o zr zr zr zr zr zr KO bj fun a8 w o=>?_
   refine aT a8 (RL.nil ?_)
   obtain rfl:=oi hj
   exact⟨rfl,a8,(us116++[rv (.slice none 0 0)]),o.sp 11 [4,5,8,9,10]⟩
  rintro _ w ⟨an,us124,O,rfl,o⟩
  refine aG ?_
  obtain⟨bo,ay,hb⟩:=bd hb
  obtain⟨au,bk,hb⟩:=bd hb
  obtain⟨bp,a2,hb⟩:=bd hb
  refine RC.BX E V mixed [1,1,1,0,1,1,1,0,0,0,1,0,0,0,0] [11,12,14] (fun(x:Value×Value)=>(fun ak ag=>[(0,29,an),(1,30,aq),(2,31,(vi ab.1)),(3,32,(vi (eJ aa.2 ab.1 (0:Int)))),(4,33,an),(5,34,aq),(6,35,(vi ab.1)),(7,36,(vi (eJ aa.2 ab.1 (0:Int)))),(8,37,(v8 an (Int.toNat (eJ aa.2 ab.1 (0:Int))) 1 0)),(9,38,(us124.getD (Int.toNat (eJ aa.2 ab.1 (0:Int))) CY).v),(10,39,(vi ai)),(11,40,ak),(12,41,ag),(13,42,(v8 an (Int.toNat (eJ aa.2 ab.1 (0:Int))) 1 0))]) x.1 x.2) [(0,vp b0 0),(3,an),(4,aq),(5,vi ai),(6,vi ab.1),(12,vi p0_0.length),(13,vi ai)] [] (fun(D:Nat->Bool) (x:Value×Value)=>(fun ak ag=>[bif D 1 then (rd ak ([(ai:Int)]: (List Int))) else (bif D 0 then (own 3 ak ([(ai:Int)]: (List Int))) else aM),bif D 2 then aM else (bif D 1 then (own 3 ag au) else aM),bc 176 b0 [aw],own 3 aw ab.2,mp aq aa.2,bif D 2 then (own 87 an (us124.set (Int.toNat (eJ aa.2 ab.1 (0:Int))) (rv ag))) else (own 87 an us124),bif D 2 then (jz (XS 3 Int) (us124.set (Int.toNat (eJ aa.2 ab.1 (0:Int))) (rv ag)) (aa.1.set (Int.toNat (eJ aa.2 ab.1 (0:Int))) au) none) else (bif D 1 then (jz (XS 3 Int) us124 aa.1 (some (Int.toNat (eJ aa.2 ab.1 (0:Int))))) else (jz (XS 3 Int) us124 aa.1 none))]) x.1 x.2) (fun x=>by kernel_rfl) ?_ ⟨fun _=>g8 gn,fun _=>g8 gn,fun _=>g8 gn,?_,fun _=>g8 gn,fun _=>g8 gn,fun _=>g8 gn,?_,?_,?_,fun _=>g8 gn,?_,?_,?_,?_,trivial⟩ ?_
  ·have o:=((o.drew).aM).aM
   exact⟨(undef,undef),eD.none,(AF zr),zt,o⟩
  ·rintro D U w hD ah ae ⟨⟨ak,ag⟩,hv,ha,_,o⟩
   obtain⟨O,rfl⟩:=(ac (hv.at 1 rfl (ah.1 rfl)) (ac (hv.at 2 rfl (ah.2.1 rfl)) az)).dH
   refine RL.q8 4 ab.1 zt o yi ?_
   exact RL.nil ⟨rfl,(ak,ag),hv.pu 3,ha.u,zt,o⟩
  ·rintro D U w hD ah ae ⟨⟨ak,ag⟩,hv,ha,_,o⟩
   obtain⟨O,rfl⟩:=(ac (hv.at 5 rfl (ah.1 rfl)) (ac (hv.at 6 rfl (ah.2.1 rfl)) az)).dH
   refine RL.q8 4 ab.1 zt o yi ?_
   exact RL.nil ⟨rfl,(ak,ag),hv.pu 7,ha.u,zt,o⟩
  ·rintro D U w hD ah ae ⟨⟨ak,ag⟩,hv,ha,_,o⟩
   obtain⟨O,rfl⟩:=(ac (hv.at 4 rfl (ah.1 rfl)) (ac (hv.at 7 rfl (ah.2.1 rfl)) az)).dH
   have o:=((o.bK 5 (nh ae hD 14)).bK 6 (nh ae hD 14)).bK 6 (nf (fun h=>ft hD ((ae 9 _ rfl ((ae 12 _ rfl h).1 rfl)).1 rfl)))
   have hl141:=o.ik 6 rfl
   have hr142:=kG CY hl141 ay
   refine RL.bU 5 o zr zr zz hr142 ?_
   have o:=(o.fD 5 (D 14) (nh ae hD 14) (own 87 an (us124.set (Int.toNat (eJ aa.2 ab.1 (0:Int))) (rv ag)))).fD 6 (D 12) (nf (fun h=>ft hD ((ae 9 _ rfl ((ae 12 _ rfl h).1 rfl)).1 rfl))) (jz (XS 3 Int) us124 aa.1 (some (Int.toNat (eJ aa.2 ab.1 (0:Int)))))
   have o:=o.fD 6 (D 14) (nh ae hD 14) (jz (XS 3 Int) (us124.set (Int.toNat (eJ aa.2 ab.1 (0:Int))) (rv ag)) (aa.1.set (Int.toNat (eJ aa.2 ab.1 (0:Int))) au) none)
   exact RL.nil ⟨rfl,(ak,ag),hv.pu 8,ha.u,zt,o⟩
  ·rintro D U w hD ah ae ⟨⟨ak,ag⟩,hv,ha,_,o⟩
   obtain⟨O,rfl⟩:=(ac (hv.at 8 rfl (ah.1 rfl)) az).dH
   have o:=((o.bK 5 (nh ae hD 14)).bK 6 (nh ae hD 14)).bK 6 (nh ae hD 12)
   have hl143:=o.ik 6 rfl
   have hr144:=kG CY hl143 ay
   refine RL.xz 5 6 (eJ aa.2 ab.1 (0:Int)) (A9 3 Int) CY zr o zr (jy 5 o hr144 0) zr zr ay gx ?_
   have o:=(o.fD 5 (D 14) (nh ae hD 14) (own 87 an (us124.set (Int.toNat (eJ aa.2 ab.1 (0:Int))) (rv ag)))).fD 6 (D 12) (nh ae hD 12) (jz (XS 3 Int) us124 aa.1 (some (Int.toNat (eJ aa.2 ab.1 (0:Int)))))
   have o:=o.fD 6 (D 14) (nh ae hD 14) (jz (XS 3 Int) (us124.set (Int.toNat (eJ aa.2 ab.1 (0:Int))) (rv ag)) (aa.1.set (Int.toNat (eJ aa.2 ab.1 (0:Int))) au) none)
   exact RL.nil ⟨rfl,(ak,ag),hv.pu 9,ha.u,zt,o⟩
  ·rintro D U w hD ah ae ⟨⟨ak,ag⟩,hv,ha,_,o⟩
   obtain⟨O,rfl⟩:=(ac (hv.at 10 rfl (ah.1 rfl)) az).dH
   have o:=((o.bK 0 (nh ae hD 12)).bK 0 hD).sc Int (ai:Int)
   refine RL.fR ([(ai:Int)]: (List Int)) o [(vi ai)] fI Hy (fun M hs g=>⟨(g.sat 0 _ zr).1,zt⟩) fun a9 w o=>?_
   have o:=((o.pl 9 [0,3,4,5,6,7,8]).bF 0 true rfl aM).fD 0 (D 12) (nh ae hD 12) (rd a9 ([(ai:Int)]: (List Int)))
   exact RL.nil ⟨rfl,(a9,ag),hv.pu 11,ha.u,zt,o⟩
  ·rintro D U w hD ah ae ⟨⟨ak,ag⟩,hv,ha,_,o⟩
   obtain⟨O,rfl⟩:=(ac (hv.at 9 rfl (ah.1 rfl)) (ac (hv.at 11 rfl (ah.2.1 rfl)) az)).dH
   have o:=(((((((o.bK 0 hD).bE 0 (ah.2.1 rfl)).bK 1 (nh ae hD 14)).bK 1 hD).bK 5 (nh ae hD 14)).bK 6 (nh ae hD 14)).bK 6 hD).BU (j:=6) (jj:=(eJ aa.2 ab.1 (0:Int))) (A9 3 Int) CY rfl ay
   have o:=o.freeze 1
   refine RL.app 0 1 o wB bk fun a3 w o=>?_
   have o:=((((o.pl 8 [1,0,3,4,5,6,7]).bF 0 true rfl (bif D 11 then (own 3 ak ([(ai:Int)]: (List Int))) else aM)).bF 1 true rfl aM).fD 1 (D 14) (nh ae hD 14) aM).fD 5 (D 14) (nh ae hD 14) (own 87 an (us124.set (Int.toNat (eJ aa.2 ab.1 (0:Int))) (rv a3)))
   have o:=(o.bF 6 true rfl (jz (XS 3 Int) us124 aa.1 none)).fD 6 (D 14) (nh ae hD 14) (jz (XS 3 Int) (us124.set (Int.toNat (eJ aa.2 ab.1 (0:Int))) (rv a3)) (aa.1.set (Int.toNat (eJ aa.2 ab.1 (0:Int))) au) none)
   exact RL.nil ⟨rfl,(ak,a3),hv.pu 12,ha.u,zt,o⟩
  ·rintro D U w hD ah ae ⟨⟨ak,ag⟩,hv,ha,_,o⟩
   obtain⟨O,rfl⟩:=(ac (hv.at 0 rfl (ah.1 rfl)) (ac (hv.at 3 rfl (ah.2.1 rfl)) az)).dH
   have o:=((o.bK 5 (nh ae hD 14)).bK 6 (nh ae hD 14)).bE 6 (ah.2.2.2.2.2.2.2.2.2.2.2.2.2.2.1 rfl)
   have hl147:=o.ik 6 rfl
   have hr148:=kG CY hl147 a2
   refine RL.bU 5 o zr zr zz hr148 ?_
   have o:=(o.fD 5 (D 14) (nh ae hD 14) (own 87 an (us124.set (Int.toNat (eJ aa.2 ab.1 (0:Int))) (rv ag)))).bF 6 (D 12) (ah.2.2.2.2.2.2.2.2.2.2.2.2.2.2.1 rfl) (jz (XS 3 Int) us124 aa.1 none)
   have o:=o.fD 6 (D 14) (nh ae hD 14) (jz (XS 3 Int) (us124.set (Int.toNat (eJ aa.2 ab.1 (0:Int))) (rv ag)) (aa.1.set (Int.toNat (eJ aa.2 ab.1 (0:Int))) au) none)
   exact RL.nil ⟨rfl,(ak,ag),hv.pu 13,ha.u,zt,o⟩
  ·rintro D U w hD ah ae ⟨⟨ak,ag⟩,hv,ha,_,o⟩
   obtain⟨O,rfl⟩:=(ac (hv.at 12 rfl (ah.2.1 rfl)) (ac (hv.at 13 rfl (ah.1 rfl)) az)).dH
   have o:=((((o.bK 1 hD).bE 1 (ah.2.1 rfl)).bK 5 hD).bK 6 hD).bE 6 (ah.2.1 rfl)
   have hl149:=o.ik 6 rfl
   have hr150:=kG CY hl149 a2
   refine RL.vz 5 6 1 (eJ aa.2 ab.1 (0:Int)) (A9 3 Int) CY o zr zr (jy 5 o hr150 0) zr zr zr a2 gx fun w o=>?_
   have o:=((o.bF 1 true rfl (bif D 12 then (own 3 ag au) else aM)).bF 5 true rfl (own 87 an us124)).bF 6 true rfl (bif D 12 then (jz (XS 3 Int) us124 aa.1 (some (Int.toNat (eJ aa.2 ab.1 (0:Int))))) else (jz (XS 3 Int) us124 aa.1 none))
   exact RL.nil ⟨rfl,(ak,ag),hv.n1,ha,zt,o⟩
  rintro D U w a0 ⟨⟨ak,ag⟩,hv,ha,_,o⟩
  have o:=(((o.bE 0 (gq a0 12)).bE 1 (gq a0 14)).bE 5 (gq a0 14)).bE 6 (gq a0 14)
  obtain⟨O,rfl⟩:=(ac (ha.at 0 rfl) (ac (ha.at 1 rfl) (ac (ha.at 2 rfl) (ac (ha.at 3 rfl) (ac (ha.at 4 rfl) (ac (ha.at 5 rfl) (ac (ha.at 6 rfl) az))))))).dH
  refine cA (aG (RC.region (RL.inc hk hm (mv (vi ((ai+1:Nat):Int)) (RL.nil ?_)))))
  obtain rfl:=oi hb
  exact⟨rfl,aw,an,(us124.set (Int.toNat (eJ aa.2 ab.1 (0:Int))) (rv ag)),o.sp 7 [2,3,4,5,6]⟩
 rintro _ w ⟨ax,av,us113,O,rfl,o⟩
 refine aG (RC.sr (mv av (aT av (RL.nt (RC.ret ?_)))))
 obtain rfl:=oi hb
 have o:=o.BV (X:=(XS 3 Int)) (b:=4) (j:=3) rfl (fun M h u x cs=>(Kx 3) M h u x cs) rfl rfl (by decide)
 exact cK ⟨av,ax,zr,o.pk 5 [3,0,1]⟩
theorem sZ {p0:aH} {p1:bH} {res:Bool} (j:Holds E w V) (h0:V[i0]? =some (rd v0 p0)) (h1:V[i1]? =some (pt v1 p1)) (hb:kK N p0 p1=some res):
    Calls bN 138 [v0,v1].toArray w (iE (bV E V res)):=by
 unfold kK at hb
 refine enter Tryz.func138 zr zr ?_
 have j:=(j.dup (i0+0) h0).y7 (i:=i1+1) h1
 refine RC.sr (RL.dJ 1 v0 j zr fun ag w j=>?_)
 refine aT (vb false) (RL.nq ?_)
 obtain⟨af,o,hb⟩:=bd hb
 refine RC.jn (fun(af:Bool)=>SH E V [(3,vb af)] []) af ?_ ?_
 ·refine RC.region (RL.iT 1 j zr xL nX fun ah j=>(RL.cB p1.X 0 j cW (RL.bO zr kN (RL.aR 1 j zr fY cW (ic p1.X p0.X0 (mv (vb (decide (p1.X>=p0.X0))) (iA o (fun aa o=>?_) fun aa o=>?_)))))))
  rotate_left
  ·refine cH aa (cH aa (cH aa (cH aa (cH aa (iF aa (vb false) (mv (vb false) (qY (qY ?_))))))))
   refine qY (qY (qY (RL.pick false (vb false) zr (mv (vb false) (qY (qY (qY (qY ?_))))))))
   refine qY (RL.pick false (vb false) zr (aT (vb false) (RL.nil ?_)))
   obtain rfl:=oi o
   exact⟨rfl,j.sp 4 []⟩
  refine RL.iT (hg:=(cg aa)) 2 j zr xL nX fun ai j=>(RL.cB (hg:=(cg aa)) p1.X 0 j cW (RL.bO (hg:=(cg aa)) zr l3 (RL.aR (hg:=(cg aa)) 2 j zr gS cW (RL.lN p1.X p0.X1 (cg aa) (iF aa (vb (decide (p1.X<p0.X1))) (mv (vb (decide (p1.X<p0.X1))) (iA o (fun ab o=>?_) fun ab o=>?_)))))))
  rotate_left
  ·refine cH ab (cH ab (cH ab (cH ab (cH ab (iF ab (vb false) (mv (vb false) (qY (qY ?_))))))))
   refine qY (qY (qY (RL.pick false (vb false) zr (aT (vb false) (RL.nil ?_)))))
   obtain rfl:=oi o
   exact⟨rfl,j.sp 5 []⟩
  refine RL.iT (hg:=(cg ab)) 3 j zr xM nY fun aj j=>(RL.cB (hg:=(cg ab)) p1.Y 0 j cW (RL.bO (hg:=(cg ab)) zr lZ (RL.aR (hg:=(cg ab)) 3 j zr gE cW (RL.lN p1.Y p0.Y0 (cg ab) (iF ab (vb (decide (p1.Y>=p0.Y0))) (mv (vb (decide (p1.Y>=p0.Y0))) (iA o (fun ad o=>?_) fun ad o=>?_)))))))
  ·refine RL.iT (hg:=(cg ad)) 4 j zr xM nY fun ak j=>(RL.cB (hg:=(cg ad)) p1.Y 0 j cW (RL.bO (hg:=(cg ad)) zr pP (RL.aR (hg:=(cg ad)) 4 j zr kr cW (RL.lN p1.Y p0.Y1 (cg ad) (iF ad (vb (decide (p1.Y<p0.Y1))) (aT (vb (decide (p1.Y<p0.Y1))) (RL.nil ?_)))))))
   obtain rfl:=oi o
   exact⟨rfl,j.sp 7 []⟩
  refine cH ad (cH ad (cH ad (cH ad (cH ad (iF ad (vb false) (aT (vb false) (RL.nil ?_)))))))
  obtain rfl:=oi o
  exact⟨rfl,j.sp 6 []⟩
 rintro _ w ⟨O,rfl,j⟩
 refine aG (RC.ret ?_)
 obtain rfl:=oi hb
 exact cK ⟨rfl,j.drop 0⟩
theorem pW {p0: (List aH)} {p1:bH} {res:Bool} (j:Holds E w V) (h0:V[i0]? =some (rd v0 p0)) (h1:V[i1]? =some (rd v1 p1)) (o:jI N p0 p1=some res):
    Calls bN 118 [v0,v1].toArray w (iE (bV E V res)):=by
 unfold jI at o
 refine enter Tryz.func118 zr zr ?_
 have j:=(j.dup (i0+0) h0).dup (i1+1) h1
 refine RC.sr (RL.dJ 0 v1 j zr fun aa w j=>?_)
 have j:=j.hG (i:=0) rfl
 refine aT (vb false) (RL.ns (mv v0 (RL.makeFunc [(vp aa 0)] ?_)))
 obtain⟨ab,ad,o⟩:=bd o
 refine RL.call trivial rfl MZ [v0,(.func (.func 138) #[] #[(vp aa 0)])] rfl (aF (lI N (i0:=2) j rfl ⟨138,[(vp aa 0)],rfl,Na,fun w Γl v y0 r i j hi hr=>by exact aF (sZ N (i0:=i) (i1:=Γl.length+0) j hi (BQ rfl) hr) fun _ _ h=>h⟩ ad) ?_)
 rintro _ w ⟨rfl,j⟩
 refine aT (vb ab) (RL.nt (RC.ret ?_))
 obtain rfl:=oi o
 exact cK ⟨rfl,j.drop 3⟩
def oJ (E:World) (V:List HP) (b0:Nat) (v0_0 v0_1:Value) (v0_2 v0_3:Value) (v0_4 v0_5:Value) (v0_6 v0_7:Value) (v0_8 v0_9:Value) (v0_10 v0_11:Value) (res:fJ×Bool) (v:Value) (w:World):Prop:=∃u0:Value,v = .tuple #[u0,(vb res.2)]/\Holds E w ([rd u0 res.1,bc 126 b0 [v0_0,v0_1,v0_2,v0_3,v0_4,v0_5,v0_6,v0_7,v0_8,v0_9,v0_10,v0_11]]++V)
def oK (E:World) (V:List HP) (b0:Nat) (v0_0 v0_1:Value) (v0_2 v0_3:Value) (v0_4 v0_5:Value) (v0_6 v0_7:Value) (v0_8 v0_9:Value) (v0_10 v0_11:Value) (r:fJ×Bool) (U:Nat->Value) (w:World):Prop:=nL bN 66 Tryz.f87 (oJ E V b0 v0_0 v0_1 v0_2 v0_3 v0_4 v0_5 v0_6 v0_7 v0_8 v0_9 v0_10 v0_11 r) .ret U w
theorem s8 {p0_2: (List cD)} {p0_5: (List aJ)} {p1:dD} {res:fJ×Bool} (j:Holds E w (bc 126 b0 [v0_0,v0_1,v0_2,v0_3,v0_4,v0_5,v0_6,v0_7,v0_8,v0_9,v0_10,v0_11]::rd v0_2 p0_2::rd v0_5 p0_5::V)) (h1:V[i1]? =some (rd v1 p1)) (o:jm N p0_2 p0_5 p1=some res):
    Calls bN 87 [(vp b0 0),v1].toArray w (iE (oJ E V b0 v0_0 v0_1 v0_2 v0_3 v0_4 v0_5 v0_6 v0_7 v0_8 v0_9 v0_10 v0_11 res)):=by
 unfold jm at o
 refine enter Tryz.func87 zr zr ?_
 have j:=j.dup (i1+3) h1
 refine RC.sr (RL.dJ 0 v1 j zr fun ah w j=>?_)
 have j:=j.hG (i:=0) rfl
 refine RL.alloc j JU.z fun ae w j=>?_
 refine aT (vb false) (RL.nq (RC.sr (mv (vp b0 0) (RL.nilCheck zr (RL.bO zr mW (RL.bO zr oc (RL.bS 3 v0_2 j xK (RL.bM 4 p0_2 j zw ?_))))))))
 refine mv (vi 0) (RL.nt ?_)
 obtain⟨bn,hN,o⟩:=bd o
 refine RC.range (fun(af:Nat) (al:Unit)=>SH E V [(0,vp b0 0),(3,vp ah 0),(4,vp ae 0),(14,v0_2),(15,vi p0_2.length),(16,vi af)] [bc 126 b0 [v0_0,v0_1,v0_2,v0_3,v0_4,v0_5,v0_6,v0_7,v0_8,v0_9,v0_10,v0_11],rd v0_2 p0_2,rd v0_5 p0_5,pt (vp ah 0) p1,raw 41 ae 2]) (fun(al:Unit)=>SH E V [(0,vp b0 0),(3,vp ah 0),(4,vp ae 0)] [bc 126 b0 [v0_0,v0_1,v0_2,v0_3,v0_4,v0_5,v0_6,v0_7,v0_8,v0_9,v0_10,v0_11],rd v0_2 p0_2,rd v0_5 p0_5,pt (vp ah 0) p1,raw 41 ae 2]) (oK E V b0 v0_0 v0_1 v0_2 v0_3 v0_4 v0_5 v0_6 v0_7 v0_8 v0_9 v0_10 v0_11) hN ?_ ?_ ?_ ?_ ?_
 ·exact j.sp 6 [3,4,5,1,0]
 ·rintro hm al _ w ⟨O,rfl,j⟩
  refine RC.sr (ic ((p0_2.length:Int)) ((p0_2.length:Int)) (RL.nq (RC.dC oE (RC.ex ?_))))
  exact⟨rfl,j.sp 5 [0,1,2,3,4]⟩
 ·rintro hm af al fl _ w hk ⟨O,rfl,j⟩ o
  refine RC.sr (ic ((af:Int)) ((p0_2.length:Int)) (RL.nq (RC.dB (oD hk) (RC.ss (RC.bs (mv (vi af) ?_))))))
  obtain⟨ax,a0,o⟩:=bd o
  refine RL.cJ 1 j Ce a0 fun bo j=>(RL.bY 0 ax j mD fun bp j=>(RL.alloc j Bj.z fun bq w j=>?_))
  refine aT (vi af) (RL.bW 0 j 1 zr mD fun w j=>?_)
  refine RL.nq ?_
  obtain⟨aq,hj,o⟩:=bd o
  refine RC.jn (fun(aq:Bool)=>SH E V [(0,vp b0 0),(3,vp ah 0),(4,vp ae 0),(6,vi af),(14,v0_2),(15,vi p0_2.length),(16,vi af),(36,vb aq)] [bc 126 b0 [v0_0,v0_1,v0_2,v0_3,v0_4,v0_5,v0_6,v0_7,v0_8,v0_9,v0_10,v0_11],rd v0_2 p0_2,rd v0_5 p0_5,pt (vp ah 0) p1,raw 41 ae 2]) aq ?_ ?_
  ·refine RC.AE mixed [0,0,0,0,0,0,2,0,0,0,2,2,1,1,2,0] [0,1,2,3,4,5,6,7,8,9,12,13,10,11,14,15] ?_
   have j:=j.drew
   refine DP.e0 zr (RL.bO zr yT (cM zr (RL.aR 0 j zr uv yk (cM zr (mv (vb ax.iO) (DP.d0 (iA hj (fun ai hj=>?_) fun ai hj=>?_)))))))
   rotate_left
   ·refine DP.e0 zr (cH ai (cM zr (cH ai (cM zr (cH ai (xt zr (cH ai (B6 zr ?_))))))))
    refine iF ai (vb false) (cM zr (mv (vb false) (cM zr (qY (DP.d0 (DP.e1 undef zr (fun w=>qY DP.d1) (DP.e1 undef zr (fun w=>qY DP.d1) (DP.e2 zr ?_))))))))
    refine qY (Lv zr (qY (Lv zr (qY (B6 zr (RL.pick false (vb false) zr (DP.d0 (DP.z ?_))))))))
    obtain rfl:=oi hj
    exact⟨rfl,j.sp 8 [3,4,5,6,7]⟩
   refine DP.e0 zr (RL.aV (hg:=(cg ai)) (f:=(fun x=>x)) 0 j zr Fd.self mD fun a1 j=>(cM zr (RL.iT (hg:=(cg ai)) 7 j zr EX xE fun br j=>(cM zr (RL.cB (hg:=(cg ai)) p1.eV 0 j cW (xt zr ?_))))))
   obtain⟨ay,a2,hj⟩:=bd hj
   refine RL.call (cg ai) zr LC [a1,(vi p1.eV)] zr (aF (nD N (p1:=p1.eV) (i0:=1) j zr a2) ?_)
   rintro _ w ⟨rfl,j⟩
   refine B6 zr (iF ai (vb ay) (cM zr (mv (vb ay) (DP.d0 (iA hj (fun ab hj=>?_) fun ab hj=>?_)))))
   rotate_left
   ·refine DP.e0 zr (cH ab (DP.d0 (DP.e1 undef zr (fun w=>cH ab DP.d1) (DP.e1 undef zr (fun w=>cH ab DP.d1) (DP.e2 zr (cH ab (Lv zr (cH ab ?_))))))))
    refine Lv zr (cH ab (B6 zr (iF ab (vb false) (DP.d0 (DP.z ?_)))))
    obtain rfl:=oi hj
    exact⟨rfl,j.sp 10 [5,6,7,8,9]⟩
   refine DP.e0 zr (RL.aV (hg:=(cg ab)) (f:=(fun x=>x)) 2 j zr Fd.self mD fun a3 j=>(DP.d0 (DP.JR (hg:=(cg ab)) 9 zr j zr zy rj fun bt j=>(DP.yI (hg:=(cg ab)) p1.At 0 zr j uT fun a4 a105 bu j=>(DP.e2 zr ?_)))))
   obtain⟨a5,a6,hj⟩:=bd hj
   refine RL.call (cg ab) zr GP [a3] zr (aF (hZ N (i0:=3) j zr a6) ?_)
   rintro a7 w j
   refine DP.d2 (⟨zt,j.kW 1⟩) (DP.e2 zr (RL.fR (hg:=(cg ab)) ([a5]: (List aH)) j [a7] nk qN (fun M hs g=>⟨(g.sat 0 _ zr).1,zt⟩) fun a8 w j=>(DP.d2 (⟨zt,j.kW 2⟩) (DP.e2 zr ?_))))
   have j:=j.freeze 0
   obtain⟨a9,ba,hj⟩:=bd hj
   refine RL.call (cg ab) zr KQ [a8,a4] zr (aF (pW N (i0:=0) (i1:=3) j zr zr ba) ?_)
   rintro _ w ⟨rfl,j⟩
   refine DP.d2 (⟨zt,j.kW 2⟩) (DP.e0 zr (iF ab (vb a9) (DP.d0 ?_)))
   have j:=j.pl 16 [0,1,3,4,5,6,7,8,9,10,11,12,13,14,15]
   refine DP.z ?_
   obtain rfl:=oi hj
   exact⟨rfl,j.sp 15 [10,11,12,13,14]⟩
  rintro _ w ⟨O,rfl,j⟩
  refine aG (fK o (fun hc o=>?_) fun hc o=>?_)
  rotate_left
  ·refine RC.skip (cA (aG (RC.region (RL.inc hk hm (mv (vi ((af+1:Nat):Int)) (RL.nil ?_))))))
   obtain rfl:=oi o
   exact⟨rfl,j.sp 5 [0,1,2,3,4]⟩
  refine RC.sr (mv (vi af) ?_)
  have j:=(j.sc Bool true).sc Int (af:Int)
  refine RL.build (⟨true,(af:Int)⟩:fJ) trivial rfl j [(0,vb true),(1,vi af)] rfl JV rfl (fun M hs g=>by have h:=FT M;exact dA.cons (f:=fun(x:fJ) y=>{x with cD:=y}) h H2 (g.sat 1 _ rfl).1 fun _ h=>dA.cons (f:=fun(x:fJ) y=>{x with Number:=y}) h DE (g.sat 0 _ rfl).1 fun _ h=>dA.nil h) fun bw j=>?_
  refine RL.bW 7 j 0 zr uU fun w j=>?_
  refine aT (vb true) (RL.nt (RC.rb (bZ ?_)))
  obtain rfl:=oi o
  exact⟨rfl,A5 7 j uU fun bb j=>⟨bb,zr,j.pk 9 [0,4]⟩⟩
 ·intro r U w e hK
  subst e
  refine bZ ?_
  obtain rfl:=oi o
  exact hK
 rintro al _ w rfl ⟨O,rfl,j⟩
 rw [Fo.gm] at o
 refine aG (RC.seq (RC.sr (mv (vp b0 0) (RL.nilCheck zr (RL.bO zr qB (RL.bS 0 v0_5 j yj (RL.bM 2 p0_5 j Bl (mv (vi 0) ?_))))))))
 refine RL.nt ?_
 obtain⟨bx,hN,o⟩:=bd o
 refine RC.range (fun(ag:Nat) (an:Unit)=>SH E V [(0,vp b0 0),(3,vp ah 0),(4,vp ae 0),(43,v0_5),(44,vi p0_5.length),(45,vi ag)] [bc 126 b0 [v0_0,v0_1,v0_2,v0_3,v0_4,v0_5,v0_6,v0_7,v0_8,v0_9,v0_10,v0_11],rd v0_2 p0_2,rd v0_5 p0_5,pt (vp ah 0) p1,raw 41 ae 2]) (fun(an:Unit)=>SH E V [(0,vp b0 0),(4,vp ae 0)] [bc 126 b0 [v0_0,v0_1,v0_2,v0_3,v0_4,v0_5,v0_6,v0_7,v0_8,v0_9,v0_10,v0_11],rd v0_2 p0_2,rd v0_5 p0_5,pt (vp ah 0) p1,raw 41 ae 2]) (oK E V b0 v0_0 v0_1 v0_2 v0_3 v0_4 v0_5 v0_6 v0_7 v0_8 v0_9 v0_10 v0_11) hN ?_ ?_ ?_ ?_ ?_
 ·exact j.sp 5 [0,1,2,3,4]
 ·rintro hm an _ w ⟨O,rfl,j⟩
  refine RC.sr (ic ((p0_5.length:Int)) ((p0_5.length:Int)) (RL.nq (RC.dC oE (RC.ex ?_))))
  exact⟨rfl,j.sp 5 [0,1,2,3,4]⟩
 ·rintro hm ag an fl _ w hk ⟨O,rfl,j⟩ o
  refine RC.sr (ic ((ag:Int)) ((p0_5.length:Int)) (RL.nq (RC.dB (oD hk) (RC.ss (RC.bs (mv (vi ag) ?_))))))
  obtain⟨av,bf,o⟩:=bd o
  refine RL.cJ 2 j Ig bf fun bz j=>(RL.bY 0 av j FX fun b1 j=>(RL.alloc j Ih.z fun b2 w j=>?_))
  refine aT (vi ag) (RL.bW 0 j 1 zr FX fun w j=>?_)
  refine RL.nq ?_
  obtain⟨aw,hj,o⟩:=bd o
  refine RC.jn (fun(aw:Bool)=>SH E V [(0,vp b0 0),(3,vp ah 0),(4,vp ae 0),(8,vi ag),(43,v0_5),(44,vi p0_5.length),(45,vi ag),(61,vb aw)] [bc 126 b0 [v0_0,v0_1,v0_2,v0_3,v0_4,v0_5,v0_6,v0_7,v0_8,v0_9,v0_10,v0_11],rd v0_2 p0_2,rd v0_5 p0_5,pt (vp ah 0) p1,raw 41 ae 2]) aw ?_ ?_
  ·refine RC.region (RL.bO zr FY (RL.aR 0 j zr qz cW (RL.iT 6 j zr EX xE fun b3 j=>(RL.cB p1.eV 0 j cW (ic av.eV p1.eV (mv (vb (av.eV==p1.eV)) (iA hj (fun ad hj=>?_) fun ad hj=>?_)))))))
   rotate_left
   ·refine cH ad (cH ad (cH ad (cH ad (cH ad (iF ad (vb false) (RL.nil ?_))))))
    obtain rfl:=oi hj
    exact⟨rfl,j.sp 9 [4,5,6,7,8]⟩
   refine RL.bO (hg:=(cg ad)) zr FZ (RL.aV (hg:=(cg ad)) 1 j zr qA Cd fun bg j=>(RL.iT (hg:=(cg ad)) 8 j zr zy rj fun b4 j=>(RL.bY (hg:=(cg ad)) 0 p1.At j uT fun bh j=>?_)))
   obtain⟨bj,bk,hj⟩:=bd hj
   refine RL.call (cg ad) zr KQ [bg,bh] zr (aF (pW N (i0:=2) (i1:=0) j zr zr bk) ?_)
   rintro _ w ⟨rfl,j⟩
   refine iF ad (vb bj) (RL.nil ?_)
   obtain rfl:=oi hj
   exact⟨rfl,j.sp 12 [7,8,9,10,11]⟩
  rintro _ w ⟨O,rfl,j⟩
  refine aG (fK o (fun hc o=>?_) fun hc o=>?_)
  rotate_left
  ·refine RC.skip (cA (aG (RC.region (RL.inc hk hm (mv (vi ((ag+1:Nat):Int)) (RL.nil ?_))))))
   obtain rfl:=oi o
   exact⟨rfl,j.sp 5 [0,1,2,3,4]⟩
  refine RC.sr (mv (vi ag) ?_)
  have j:=j.sc Int (ag:Int)
  refine RL.build (⟨false,(ag:Int)⟩:fJ) trivial rfl j [(1,vi ag)] rfl JV rfl (fun M hs g=>by have h:=FT M;exact dA.cons (f:=fun(x:fJ) y=>{x with Number:=y}) h DE (g.sat 0 _ rfl).1 fun _ h=>dA.nil h) fun b5 j=>?_
  refine RL.bW 6 j 0 zr uU fun w j=>?_
  refine aT (vb true) (RL.nt (RC.rb (bZ ?_)))
  obtain rfl:=oi o
  exact⟨rfl,A5 6 j uU fun bl j=>⟨bl,zr,j.pk 8 [0,3]⟩⟩
 ·intro r U w e hK
  subst e
  refine bZ ?_
  obtain rfl:=oi o
  exact hK
 rintro an _ w rfl ⟨O,rfl,j⟩
 rw [Fo.gm] at o
 refine aG (RC.sr (RL.build (⟨false,0⟩:fJ) trivial rfl j [] rfl JV rfl (fun M hs g=>by have h:=FT M;exact dA.nil h) fun b6 j=>?_))
 refine RL.bW 5 j 0 zr uU fun w j=>?_
 refine aT (vb false) (RL.nt (RC.ret ?_))
 obtain rfl:=oi o
 exact A5 5 j uU fun bm j=>⟨bm,zr,j.pk 7 [0,2]⟩
theorem pX {p0_8: (List Int)} {p0_9: (List Int)} {p1:fJ} (j:Holds E w (bc 126 b0 [v0_0,v0_1,v0_2,v0_3,v0_4,v0_5,v0_6,v0_7,v0_8,v0_9,v0_10,v0_11]::rd v0_8 p0_8::rd v0_9 p0_9::V)) (h1:V[i1]? =some (rd v1 p1)) (o:gA N p0_8 p0_9 p1=some res):
    Calls bN 88 [(vp b0 0),v1].toArray w (iE (jF E V b0 v0_0 v0_1 v0_2 v0_3 v0_4 v0_5 v0_6 v0_7 v0_8 v0_9 v0_10 v0_11 res)):=by
 unfold gA at o
 refine enter Tryz.func88 zr zr ?_
 have j:=j.dup (i1+3) h1
 refine RC.sr (RL.dJ 0 v1 j zr fun ag w j=>?_)
 refine aT (vi 0) (RL.nq (RC.sr (RL.bO zr EY (RL.aR 0 j zr zu yk (RL.nt (fK o (fun hc o=>?_) fun hc o=>?_))))))
 ·refine RC.seq (RC.AA mixed ?_)
  have j:=j.drew
  refine RO.go (mv (vp b0 0) (RO.nx (RL.nilCheck zr (RO.nx (RL.bO zr yV (RO.nx (RL.bS 2 v0_9 j gx (RO.nx ?_))))))))
  refine RL.bO zr vC (RO.nx (RL.aR 0 j zr pM cW (RO.nx ?_)))
  obtain⟨aa,ae,o⟩:=bd o
  refine RL.cJ 4 j fI ae fun ah j=>(RO.nx (RL.cB aa 0 j cW (RO.nx (aT (vi aa) (RO.last (aG (RC.rt ?_)))))))
  obtain rfl:=oi o
  exact cK ⟨rfl,j.pk 6 [3]⟩
 refine RC.ss (RC.AA mixed ?_)
 have j:=j.drew
 refine RO.go (mv (vp b0 0) (RO.nx (RL.nilCheck zr (RO.nx (RL.bO zr Cg (RO.nx (RL.bS 2 v0_8 j gx (RO.nx ?_))))))))
 refine RL.bO zr vC (RO.nx (RL.aR 0 j zr pM cW (RO.nx ?_)))
 obtain⟨ab,af,o⟩:=bd o
 refine RL.cJ 3 j fI af fun ai j=>(RO.nx (RL.cB ab 0 j cW (RO.nx (aT (vi ab) (RO.last (aG (RC.ret ?_)))))))
 obtain rfl:=oi o
 exact cK ⟨rfl,j.pk 6 [3]⟩
end Go.Gk
