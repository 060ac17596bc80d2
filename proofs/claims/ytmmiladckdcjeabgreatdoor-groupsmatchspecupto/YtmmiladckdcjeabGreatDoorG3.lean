/-
  Printed texts: Go functions as plain functions, and that they are. No statement of the seed is proved here.
-/
import Derived.Test.YtmmiladckdcjeabGreatDoorG1
import Derived.Test.YtmmiladckdcjeabGreatDoorG2
import Derived.Test.YtmmiladckdcjeabGreatDoorA2
set_option linter.unusedVariables false
set_option linter.unusedSimpArgs false
set_option linter.unusedSectionVars false
set_option maxRecDepth 100000
set_option maxHeartbeats 4000000
namespace Go.Gk
open Go Go.Proofs
variable (N:Nat) {E w:World} {b0 b1 i0 i1:Nat} {p0 p1 p2 res:Int} {v0 v0_0 v0_1 v0_10 v0_11 v0_2 v0_3 v0_4 v0_5 v0_6 v0_7 v0_8 v0_9 v1 v1_0 v2:Value} {V:List HP}
theorem oV {p0:cA} {res:Bool} (j:Holds E w V) (h0:V[i0]? =some (rd v0 p0)) (hb:ll N p0 p1=some res):
    Calls bN 51 [v0,(vi p1)].toArray w (gJ (aU E V res)):=by
 unfold ll at hb
 refine enter Tryz.func51 zr zr ?_
 have j:=j.dup (i0+0) h0
 refine RC.sr (RL.dD 0 v0 j zr fun o w j=>?_)
 refine aP (vb false) (RL.ns (RL.aX zr p4 (RL.aM 0 j zr kF cL (mv (vi p1) (ic p0.cO p1 (mv (vb (decide (p0.cO<=p1))) (RL.gs true (decide (p0.cO<=p1)) (vi p1) zr zr zr cH (RL.gs true (decide (p0.cO<=p1)) (vp o 4) zr zr zr (eB r7) ?_))))))))
 refine RL.gs true (decide (p0.cO<=p1)) (vi p0.To) rfl rfl rfl (cC 0 rfl j (fun h=>by exact(cM h:cv (true&&((decide (p0.cO<=p1))==true)) (vp o 4)= (vp o 4))) rfl mc cL) (RL.gs true (decide (p0.cO<=p1)) (vb (decide (p1<=p0.To))) rfl rfl rfl (dK .leq .i64 p1 p0.To rfl (fun h=>by exact(cM h:cv (true&&((decide (p0.cO<=p1))==true)) (vi p1)= (vi p1))) (fun h=>by exact(cM h:cv (true&&((decide (p0.cO<=p1))==true)) (vi p0.To)= (vi p0.To))) rfl) (RL.pick (decide (p0.cO<=p1)) (vb ((decide (p0.cO<=p1))&&(decide (p1<=p0.To)))) (gr true rfl) (aP (vb ((decide (p0.cO<=p1))&&(decide (p1<=p0.To)))) (RL.nt (RC.ret ?_)))))
 obtain rfl:=oi hb
 exact bY ⟨rfl,j.drop 2⟩
def AF (E:World) (V:List HP) (res: (List Int)×Int) (v:Value) (w:World):Prop:=∃u0:Value,v = .tuple #[u0,(vi res.2)]/\Holds E w ([rd u0 res.1]++V)
theorem uo {p0: (List aA)} {res: (List Int)×Int} (j:Holds E w V) (h0:V[i0]? =some (rd v0 p0)) (o:nk N p0 p1 p2=some res):
    Calls bN 120 [v0,(vi p1),(vi p2)].toArray w (gJ (AF E V res)):=by
 unfold nk at o
 refine enter Tryz.func120 zr zr ?_
 have j:=j.dup (i0+0) h0
 refine RC.sr (aP (.slice none 0 0) (aP (vi 0) (RL.nq (RC.bs (mv v0 (RL.bB 0 p0 j vW (ic ((p0.length:Int)) 0 (aP (vb ((p0.length:Int)==0)) ?_))))))))
 refine RL.nt (dT o (fun hc o=>?_) fun hc o=>?_)
 ·refine RC.sr (mv (vi p2) (aP (.slice none 0 0) (aP (vi p2) (RL.nt (RC.rb (bR ?_))))))
  obtain rfl:=oi o
  have j:=j.yB Int
  exact qK ⟨(.slice none 0 0),zr,j.pk 2 [0]⟩
 refine RC.sr (mv (vi p1) (mv v0 ?_))
 obtain⟨ae,ag,o⟩:=bd o
 refine RL.bO 0 j pZ ag fun al j=>(RL.dV 0 j zr ql ik fun an j=>(RL.bG ae.Y0 0 j cL (ic p1 ae.Y0 (aP (vb (decide (p1<ae.Y0))) (RL.nt (dT o (fun hc o=>?_) fun hc o=>?_))))))
 ·refine RC.seq (RC.zm mixed ?_)
  have j:=j.drew
  refine RO.go (mv (vi p2) (RO.nx (mv v0 (RO.nx ?_))))
  obtain⟨aa,ah,o⟩:=bd o
  refine RL.bO 2 j pZ ah fun ao j=>(RO.nx (RL.dV 0 j zr ql ik fun aq j=>(RO.nx (RL.bG aa.Y0 0 j cL (RO.nx (RL.min p2 aa.Y0 (RO.nx (aP (.slice none 0 0) ?_))))))))
  refine RO.nx (aP (vi (if aa.Y0<p2 then aa.Y0 else p2)) (RO.last (aH (RC.rb (bR ?_)))))
  obtain rfl:=oi o
  have j:=j.yB Int
  exact qK ⟨(.slice none 0 0),zr,j.pk 6 [0]⟩
 refine RC.skip (bP (aH (RC.seq (RC.zm mixed ?_))))
 have j:=j.drew
 refine RO.go (mv v0 (RO.nx ?_))
 obtain⟨ai,aj,o⟩:=bd o
 refine RL.bO 2 j pZ aj fun ar j=>(RO.nx (RL.dV 0 j zr mq eC fun au j=>(RO.nx (RL.bJ 0 ai.Xs j eV fun af j=>(RO.nx (mv (vi p2) (RO.nx (mv v0 ?_))))))))
 refine RO.nx ?_
 obtain⟨ab,ak,o⟩:=bd o
 refine RL.bO 5 j pZ ak fun av j=>(RO.nx (RL.dV 0 j zr nU fS fun aw j=>(RO.nx (RL.bG ab.Y1 0 j cL (RO.nx (RL.min p2 ab.Y1 (RO.nx (aP af ?_))))))))
 refine RO.nx (aP (vi (if ab.Y1<p2 then ab.Y1 else p2)) (RO.last (aH (RC.ret ?_))))
 obtain rfl:=oi o
 exact qK ⟨af,zr,j.pk 8 [2]⟩
theorem BM {p0: (List Int)} {p1: (List Int)} {p2:Bool->Bool->Option Bool} {res: (List Int)} (j:Holds E w V) (h0:V[i0]? =some (rd v0 p0)) (h1:V[i1]? =some (rd v1 p1)) (h2:Jt bN E V v2 p2 (fun(r:Bool)=>Value.bool r)) (hb:qL N p0 p1 p2=some res):
    Calls bN 121 [v0,v1,v2].toArray w (gJ (mM E V res)):=by
 unfold qL at hb
 refine enter Tryz.func121 zr zr ?_
 have j:=(j.dup (i0+0) h0).dup (i1+1) h1
 refine RC.sr (aP (.slice none 0 0) (RL.ns (aP (.slice none 0 0) (RL.ns (aP (vb false) (aP (vb false) (aP (vb false) (RL.nq ?_))))))))
 obtain⟨bu,hN,hb⟩:=bd hb
 refine RC.iter (fun(o: (List Int)×(List Int)×(List Int)×Bool×Bool×Bool) U w=>∃a7 a8 a9:Value,SH E V [(0,a7),(1,a8),(2,v2),(7,a9),(8,vb o.2.2.2.1),(9,vb o.2.2.2.2.1),(10,vb o.2.2.2.2.2)] [rd a7 o.1,rd a8 o.2.1,own 3 a9 o.2.2.1] U w) (fun(o: (List Int)×(List Int)×(List Int)×Bool×Bool×Bool) U w=>∃av:Value,SH E V [(7,av)] [own 3 av o.2.2.1] U w) (fun(r:Empty) _ _=>r.elim) hN ?_ ?_ ?_ ?_
 ·have j:=j.cP Int 3
  exact⟨v0,v1,(.slice none 0 0),j.sp 3 [2,1,0]⟩
 ·rintro o fl _ w ⟨ah,ad,ae,O,rfl,j⟩ hb
  refine RC.seq (RC.seq ?_)
  obtain⟨a1,hj,hb⟩:=bd hb
  refine RC.jn (fun(a1:Bool)=>SH E V [(0,ah),(1,ad),(2,v2),(7,ae),(8,vb o.2.2.2.1),(9,vb o.2.2.2.2.1),(10,vb o.2.2.2.2.2),(20,vb a1)] [rd ah o.1,rd ad o.2.1,own 3 ae o.2.2.1]) a1 ?_ ?_
  ·refine RC.region (mv ah (RL.bB 0 o.1 j mB (ic ((o.1.length:Int)) 0 (mv (vb (decide ((o.1.length:Int)>0))) (fA hj (fun ao hj=>?_) fun ao hj=>?_)))))
   ·refine bC ao (bC ao (bC ao (fB ao (vb true) (RL.nil ?_))))
    obtain rfl:=oi hj
    exact⟨rfl,j.sp 3 [0,1,2]⟩
   refine RL.move ad (cg ao) (RL.bB (hg:=(cg ao)) 1 o.2.1 j mB (RL.lh (o.2.1.length:Int) 0 (cg ao) (fB ao (vb (decide ((o.2.1.length:Int)>0))) (RL.nil ?_))))
   obtain rfl:=oi hj
   exact⟨rfl,j.sp 3 [0,1,2]⟩
  rintro _ w ⟨O,rfl,j⟩
  refine aH (dT hb (fun hc hb=>?_) fun hc hb=>?_)
  rotate_left
  ·refine RC.ex ?_
   obtain rfl:=oi hb
   exact⟨rfl,ae,j.sp 3 [2]⟩
  refine RC.sn (RC.bs (aP (vi 0) (RL.nq (RC.seq ?_))))
  obtain⟨a2,hj,hb⟩:=bd hb
  refine RC.jn (fun(a2:Bool)=>SH E V [(0,ah),(1,ad),(2,v2),(7,ae),(8,vb o.2.2.2.1),(9,vb o.2.2.2.2.1),(10,vb o.2.2.2.2.2),(37,vb a2)] [rd ah o.1,rd ad o.2.1,own 3 ae o.2.2.1]) a2 ?_ ?_
  ·refine RC.zm mixed ?_
   have j:=j.drew
   refine RO.go (mv ad (RO.nx (RL.bB 1 o.2.1 j mB (RO.nx (ic ((o.2.1.length:Int)) 0 (RO.nx (mv (vb ((o.2.1.length:Int)==0)) (fA hj (fun ai hj=>?_) fun ai hj=>?_))))))))
   ·refine RO.nx (bC ai (RO.nx (bC ai (RO.nx (bC ai (RO.nx (bC ai (RO.nx ?_))))))))
    refine xF (RO.nx (xF (RO.nx (xF (RO.nx (xF (RO.nx (xF ?_))))))))
    refine RO.nx (xF (RO.nx (xF (RO.nx (bC ai (RO.nx (fB ai (vb true) (RO.last ?_))))))))
    obtain rfl:=oi hj
    exact⟨rfl,j.sp 3 [0,1,2]⟩
   refine RO.nx (RL.move ah (cg ai) (RO.nx (RL.bB (hg:=(cg ai)) 0 o.1 j mB (RO.nx (RL.lh (o.1.length:Int) 0 (cg ai) (RO.nx (RL.move (vb (decide ((o.1.length:Int)>0))) (cg ai) (fA hj (fun af hj=>?_) fun af hj=>?_))))))))
   rotate_left
   ·refine RO.nx (bC af (RO.nx (bC af (RO.nx (bC af (RO.nx (bC af (RO.nx ?_))))))))
    refine bC af (RO.nx (bC af (RO.nx (bC af (RO.nx (fB af (vb false) (hg:=(cg ai)) (RO.nx (fB ai (vb false) ?_))))))))
    refine RO.last ?_
    obtain rfl:=oi hj
    exact⟨rfl,j.sp 3 [0,1,2]⟩
   refine RO.nx (RL.move ah (cg af) (RO.nx ?_))
   obtain⟨ax,bj,hj⟩:=bd hj
   refine RL.bO (hg:=(cg af)) 0 j eF bj fun bx j=>(RO.nx (RL.bG (hg:=(cg af)) ax 0 j cL (RO.nx (RL.move ad (cg af) (RO.nx ?_)))))
   obtain⟨ay,bk,hj⟩:=bd hj
   refine RL.bO (hg:=(cg af)) 2 j eF bk fun bz j=>(RO.nx (RL.bG (hg:=(cg af)) ay 0 j cL (RO.nx (RL.lh ax ay (cg af) (RO.nx (fB af (vb (decide (ax<=ay))) (hg:=(cg ai)) (RO.nx (fB ai (vb (decide (ax<=ay))) ?_))))))))
   refine RO.last ?_
   obtain rfl:=oi hj
   exact⟨rfl,j.sp 5 [2,3,4]⟩
  rintro _ w ⟨O,rfl,j⟩
  refine aH ?_
  obtain⟨ag,hj,hb⟩:=bd hb
  refine RC.jn (fun(ag:Int)=>SH E V [(0,ah),(1,ad),(2,v2),(7,ae),(8,vb o.2.2.2.1),(9,vb o.2.2.2.2.1),(10,vb o.2.2.2.2.2),(11,vi ag)] [rd ah o.1,rd ad o.2.1,own 3 ae o.2.2.1]) ag ?_ ?_
  ·refine dT hj (fun hc hj=>?_) fun hc hj=>?_
   ·refine RC.region (mv ah ?_)
    obtain⟨ba,bl,hj⟩:=bd hj
    refine RL.bO 0 j eF bl fun b0 j=>(RL.bG ba 0 j cL (aP (vi ba) (RL.nil ?_)))
    obtain rfl:=oi hj
    exact⟨rfl,j.sp 4 [1,2,3]⟩
   refine RC.region (mv ad ?_)
   obtain⟨bb,bm,hj⟩:=bd hj
   refine RL.bO 1 j eF bm fun b1 j=>(RL.bG bb 0 j cL (aP (vi bb) (RL.nil ?_)))
   obtain rfl:=oi hj
   exact⟨rfl,j.sp 4 [1,2,3]⟩
  rintro _ w ⟨O,rfl,j⟩
  refine aH (RC.seq (RC.seq ?_))
  obtain⟨a3,hj,hb⟩:=bd hb
  refine RC.jn (fun(a3:Bool)=>SH E V [(0,ah),(1,ad),(2,v2),(7,ae),(8,vb o.2.2.2.1),(9,vb o.2.2.2.2.1),(10,vb o.2.2.2.2.2),(11,vi ag),(53,vb a3)] [rd ah o.1,rd ad o.2.1,own 3 ae o.2.2.1]) a3 ?_ ?_
  ·refine RC.region (mv ah (RL.bB 0 o.1 j mB (ic ((o.1.length:Int)) 0 (mv (vb (decide ((o.1.length:Int)>0))) (fA hj (fun aj hj=>?_) fun aj hj=>?_)))))
   rotate_left
   ·refine bC aj (bC aj (bC aj (bC aj (bC aj (fB aj (vb false) (RL.nil ?_))))))
    obtain rfl:=oi hj
    exact⟨rfl,j.sp 3 [0,1,2]⟩
   refine RL.move ah (cg aj) ?_
   obtain⟨a4,bn,hj⟩:=bd hj
   refine RL.bO (hg:=(cg aj)) 0 j eF bn fun b2 j=>(RL.bG (hg:=(cg aj)) a4 0 j cL (RL.move (vi ag) (cg aj) (RL.lh a4 ag (cg aj) (fB aj (vb (a4==ag)) (RL.nil ?_)))))
   obtain rfl:=oi hj
   exact⟨rfl,j.sp 4 [1,2,3]⟩
  rintro _ w ⟨O,rfl,j⟩
  refine aH ?_
  obtain⟨al,hj,hb⟩:=bd hb
  refine RC.jn (fun(al: (List Int)×Bool) U w=>∃an:Value,SH E V [(0,an),(1,ad),(2,v2),(7,ae),(8,vb al.2),(9,vb o.2.2.2.2.1),(10,vb o.2.2.2.2.2),(11,vi ag)] [rd ad o.2.1,own 3 ae o.2.2.1,rd an al.1] U w) al ?_ ?_
  ·refine dT hj (fun hc hj=>?_) fun hc hj=>?_
   rotate_left
   ·refine RC.skip ?_
    obtain rfl:=oi hj
    exact⟨rfl,ah,j.sp 3 [1,2,0]⟩
   refine RC.region (mv ah ?_)
   obtain⟨b3,bo,hj⟩:=bd hj
   refine RL.cut 0 j eF (.inr ⟨rfl,zr⟩) bo fun bc j=>(mv (vb o.2.2.2.1) (RL.not o.2.2.2.1 (aP bc (aP (vb (!o.2.2.2.1)) (RL.nil ?_)))))
   obtain rfl:=oi hj
   exact⟨rfl,bc,j.sp 4 [2,3,0]⟩
  rintro _ w ⟨an,O,rfl,j⟩
  refine aH (RC.seq (RC.seq ?_))
  obtain⟨a5,hj,hb⟩:=bd hb
  refine RC.jn (fun(a5:Bool)=>SH E V [(0,an),(1,ad),(2,v2),(7,ae),(8,vb al.2),(9,vb o.2.2.2.2.1),(10,vb o.2.2.2.2.2),(11,vi ag),(67,vb a5)] [rd an al.1,rd ad o.2.1,own 3 ae o.2.2.1]) a5 ?_ ?_
  ·refine RC.region (mv ad (RL.bB 0 o.2.1 j mB (ic ((o.2.1.length:Int)) 0 (mv (vb (decide ((o.2.1.length:Int)>0))) (fA hj (fun ak hj=>?_) fun ak hj=>?_)))))
   rotate_left
   ·refine bC ak (bC ak (bC ak (bC ak (bC ak (fB ak (vb false) (RL.nil ?_))))))
    obtain rfl:=oi hj
    exact⟨rfl,j.sp 3 [2,0,1]⟩
   refine RL.move ad (cg ak) ?_
   obtain⟨a6,bp,hj⟩:=bd hj
   refine RL.bO (hg:=(cg ak)) 0 j eF bp fun b4 j=>(RL.bG (hg:=(cg ak)) a6 0 j cL (RL.move (vi ag) (cg ak) (RL.lh a6 ag (cg ak) (fB ak (vb (a6==ag)) (RL.nil ?_)))))
   obtain rfl:=oi hj
   exact⟨rfl,j.sp 4 [3,1,2]⟩
  rintro _ w ⟨O,rfl,j⟩
  refine aH ?_
  obtain⟨ar,hj,hb⟩:=bd hb
  refine RC.jn (fun(ar: (List Int)×Bool) U w=>∃au:Value,SH E V [(0,an),(1,au),(2,v2),(7,ae),(8,vb al.2),(9,vb ar.2),(10,vb o.2.2.2.2.2),(11,vi ag)] [rd an al.1,own 3 ae o.2.2.1,rd au ar.1] U w) ar ?_ ?_
  ·refine dT hj (fun hc hj=>?_) fun hc hj=>?_
   rotate_left
   ·refine RC.skip ?_
    obtain rfl:=oi hj
    exact⟨rfl,ad,j.sp 3 [0,2,1]⟩
   refine RC.region (mv ad ?_)
   obtain⟨b5,bq,hj⟩:=bd hj
   refine RL.cut 1 j eF (.inr ⟨rfl,zr⟩) bq fun bf j=>(mv (vb o.2.2.2.2.1) (RL.not o.2.2.2.2.1 (aP bf (aP (vb (!o.2.2.2.2.1)) (RL.nil ?_)))))
   obtain rfl:=oi hj
   exact⟨rfl,bf,j.sp 4 [1,3,0]⟩
  rintro _ w ⟨au,O,rfl,j⟩
  refine aH (RC.sr (mv v2 (mv (vb al.2) (mv (vb ar.2) ?_))))
  have j:=(j.sc Bool al.2).sc Bool ar.2
  obtain⟨aw,br,hb⟩:=bd hb
  refine RL.ER 1 0 zr j zr h2 5 zr zr zr zr zr br fun w j=>(aP (vb aw) (RL.ns (mv (vb aw) (mv (vb o.2.2.2.2.2) (RL.IJ (a:=aw) (b:=o.2.2.2.2.2) zt zr zr zr NS (RL.nt ?_))))))
  obtain⟨az,hj,hb⟩:=bd hb
  refine RC.jn (fun(az: (List Int)×Bool) U w=>∃a0:Value,SH E V [(0,an),(1,au),(2,v2),(7,a0),(8,vb al.2),(9,vb ar.2),(10,vb az.2)] [rd an al.1,rd au ar.1,own 3 a0 az.1] U w) az ?_ ?_
  ·refine dT hj (fun hc hj=>?_) fun hc hj=>?_
   rotate_left
   ·refine RC.skip ?_
    obtain rfl:=oi hj
    exact⟨rfl,ae,j.sp 5 [2,4,3]⟩
   refine RC.region (mv ae (mv (vi ag) ?_))
   have j:=j.sc Int ag
   refine RL.dN ([ag]: (List Int)) j [(vi ag)] eF Dd (fun M hs g=>⟨(g.sat 0 _ zr).1,zt⟩) fun b6 w j=>?_
   have j:=j.freeze 0
   obtain⟨b7,bt,hj⟩:=bd hj
   refine RL.app 5 0 j rC bt fun bg w j=>?_
   refine mv (vb aw) (aP bg (aP (vb aw) (RL.nil ?_)))
   obtain rfl:=oi hj
   exact⟨rfl,bg,j.sp 7 [4,6,5]⟩
  rintro _ w ⟨a0,O,rfl,j⟩
  refine bP ?_
  obtain rfl:=oi hb
  exact⟨rfl,an,au,a0,j.sp 3 [0,1,2]⟩
 ·intro r _ _ _ _
  exact r.elim
 rintro o _ w rfl ⟨av,O,rfl,j⟩
 rw [Fo.cZ] at hb
 refine aH (RC.sr (mv av (aP av (RL.nt (RC.ret ?_)))))
 obtain rfl:=oi hb
 exact bY (j.pk 1 [0])
theorem AG {p0: (List aA)} {p1: (List aA)} {p2:Bool->Bool->Option Bool} {res: (List aA)} (j:Holds E w V) (h0:V[i0]? =some (rd v0 p0)) (h1:V[i1]? =some (rd v1 p1)) (h2:Jt bN E V v2 p2 (fun(r:Bool)=>Value.bool r)) (o:pD N p0 p1 p2=some res):
    Calls bN 91 [v0,v1,v2].toArray w (gJ (np E V res)):=by
 unfold pD at o
 refine enter Tryz.func91 zr zr ?_
 have j:=(j.dup (i0+0) h0).dup (i1+1) h1
 refine RC.sr (aP (.slice none 0 0) (RL.ns (aP (.slice none 0 0) (RL.nq (RC.sr (mv v0 (RL.bB 1 p0 j vW (mv v1 ?_))))))))
 refine RL.bB 0 p1 j vW (RL.gk (p0.length:Int) (p1.length:Int) (ic ((IntKind.wrap .i64 ((p0.length:Int)+ (p1.length:Int)))) 0 (RL.nt (dT o (fun hc o=>?_) fun hc o=>?_))))
 ·refine RC.sr (aP (.slice none 0 0) (RL.nt (RC.rt ?_)))
  obtain rfl:=oi o
  have j:=j.cP aA 126
  exact bY (j.pk 3 [0])
 refine RC.sx (aP (vi 0) (aP (vi 0) (RL.nq (RC.sr (mv v0 (mv v1 (RL.dN ([p0,p1]: (List (List aA))) j [v0,v1] HH Kj (fun M hs g=>⟨(g.sat 1 _ zr).1,⟨(g.sat 0 _ zr).1,zt⟩⟩) fun ar w j=>(RL.fL 0 ([p0,p1]: (List (List aA))) j Lp ?_))))))))
 refine mv (vi 0) (RL.nt ?_)
 obtain⟨ad,hN,o⟩:=bd o
 refine RC.fold (fun(aj:Nat) (ad:Int×Int)=>SH E V [(0,v0),(1,v1),(2,v2),(7,(.slice none 0 0)),(8,vi ad.1),(9,vi ad.2),(25,ar),(26,(vi ((([p0,p1]: (List (List aA))).length:Nat):Int))),(27,vi aj)] [rd v0 p0,rd v1 p1,own 91 ar ([p0,p1]: (List (List aA)))]) (fun(ad:Int×Int)=>SH E V [(0,v0),(1,v1),(2,v2),(7,(.slice none 0 0)),(8,vi ad.1),(9,vi ad.2)] [rd v0 p0,rd v1 p1,own 91 ar ([p0,p1]: (List (List aA)))]) hN ?_ ?_ ?_ ?_
 ·exact j.sp 3 [2,1,0]
 ·rintro hm ad _ w ⟨O,rfl,j⟩
  refine RC.sr (ic (((([p0,p1]: (List (List aA))).length:Nat):Int)) (((([p0,p1]: (List (List aA))).length:Nat):Int)) (RL.nq (RC.fu sA (RC.ex ?_))))
  exact⟨rfl,j.sp 3 [0,1,2]⟩
 ·rintro hm aj ad s' _ w hk ⟨O,rfl,j⟩ o
  refine RC.sr (ic ((aj:Int)) (((([p0,p1]: (List (List aA))).length:Nat):Int)) (RL.nq (RC.eZ (sw hk) (RC.ss (RC.bs (mv (vi aj) ?_))))))
  obtain⟨aw,a8,o⟩:=bd o
  refine RL.bT 2 j zr zr HH a8 (RL.jM (f:=(fun x=>x)) 2 j (jz 2 j a8 0) (bH a8).2.1 Fd.self Lq fun ak j=>?_)
  refine aP (vi aj) (aP ak (RL.ns (mv ak (RL.bB 0 aw j vW (ic ((aw.length:Int)) 0 (RL.nt ?_))))))
  obtain⟨a5,hj,o⟩:=bd o
  refine RC.jn (fun(a5:Int×Int)=>SH E V [(0,v0),(1,v1),(2,v2),(7,(.slice none 0 0)),(8,vi a5.1),(9,vi a5.2),(25,ar),(26,(vi ((([p0,p1]: (List (List aA))).length:Nat):Int))),(27,vi aj)] [rd v0 p0,rd v1 p1,own 91 ar ([p0,p1]: (List (List aA)))]) a5 ?_ ?_
  ·refine dT hj (fun hc hj=>?_) fun hc hj=>?_
   rotate_left
   ·refine RC.skip ?_
    obtain rfl:=oi hj
    exact⟨rfl,j.sp 4 [1,2,3]⟩
   refine RC.seq (RC.seq ?_)
   obtain⟨a9,hjj,hj⟩:=bd hj
   refine RC.jn (fun(a9:Bool)=>SH E V [(0,v0),(1,v1),(2,v2),(7,(.slice none 0 0)),(8,vi ad.1),(9,vi ad.2),(11,ak),(25,ar),(26,(vi ((([p0,p1]: (List (List aA))).length:Nat):Int))),(27,vi aj),(41,vb a9)] [rd v0 p0,rd v1 p1,rd ak aw,own 91 ar ([p0,p1]: (List (List aA)))]) a9 ?_ ?_
   ·refine RC.region (mv (vi aj) (ic ((aj:Int)) 0 (mv (vb ((aj:Int)==0)) (fA hjj (fun au hjj=>?_) fun au hjj=>?_))))
    ·refine bC au (bC au (bC au (fB au (vb true) (RL.nil ?_))))
     obtain rfl:=oi hjj
     exact⟨rfl,j.sp 4 [1,2,0,3]⟩
    refine RL.move v0 (cg au) (RL.bB (hg:=(cg au)) 1 p0 j vW (RL.lh (p0.length:Int) 0 (cg au) (fB au (vb ((p0.length:Int)==0)) (RL.nil ?_))))
    obtain rfl:=oi hjj
    exact⟨rfl,j.sp 4 [1,2,0,3]⟩
   rintro _ w ⟨O,rfl,j⟩
   refine aH ?_
   obtain⟨al,hjj,hj⟩:=bd hj
   refine RC.jn (fun(al:Int×Int)=>SH E V [(0,v0),(1,v1),(2,v2),(7,(.slice none 0 0)),(8,vi al.1),(9,vi al.2),(11,ak),(25,ar),(26,(vi ((([p0,p1]: (List (List aA))).length:Nat):Int))),(27,vi aj)] [rd v0 p0,rd v1 p1,rd ak aw,own 91 ar ([p0,p1]: (List (List aA)))]) al ?_ ?_
   ·refine dT hjj (fun hc hjj=>?_) fun hc hjj=>?_
    rotate_left
    ·refine RC.skip ?_
     obtain rfl:=oi hjj
     exact⟨rfl,j.sp 4 [0,1,2,3]⟩
    refine RC.zm mixed ?_
    have j:=j.drew
    refine RO.go (mv ak (RO.nx ?_))
    obtain⟨xz,bu,hjj⟩:=bd hjj
    refine RL.bO 2 j pZ bu fun cc j=>(RO.nx (RL.dV 0 j zr ql ik fun cd j=>(RO.nx (RL.bG xz.Y0 0 j cL (RO.nx (mv ak (RO.nx (mv ak ?_))))))))
    refine RO.nx (RL.bB 4 aw j vW (RO.nx (RL.gk (aw.length:Int) 1 (RO.nx ?_))))
    obtain⟨bj,bw,hjj⟩:=bd hjj
    refine RL.bO 4 j pZ bw fun cf j=>(RO.nx (RL.dV 0 j zr nU fS fun ch j=>(RO.nx (RL.bG bj.Y1 0 j cL (RO.nx (aP (vi xz.Y0) (RO.nx (aP (vi bj.Y1) ?_))))))))
    refine RO.last ?_
    obtain rfl:=oi hjj
    exact⟨rfl,j.sp 8 [4,5,6,7]⟩
   rintro _ w ⟨O,rfl,j⟩
   refine aH (RC.zm mixed ?_)
   have j:=j.drew
   refine RO.go (mv (vi al.1) (RO.nx (mv ak (RO.nx ?_))))
   obtain⟨a6,bx,hj⟩:=bd hj
   refine RL.bO 2 j pZ bx fun cj j=>(RO.nx (RL.dV 0 j zr ql ik fun ck j=>(RO.nx (RL.bG a6.Y0 0 j cL (RO.nx (RL.min al.1 a6.Y0 (RO.nx (mv (vi al.2) ?_))))))))
   refine RO.nx (mv ak (RO.nx (mv ak (RO.nx (RL.bB 4 aw j vW (RO.nx (RL.gk (aw.length:Int) 1 (RO.nx ?_))))))))
   obtain⟨a7,bz,hj⟩:=bd hj
   refine RL.bO 4 j pZ bz fun cl j=>(RO.nx (RL.dV 0 j zr nU fS fun cm j=>(RO.nx (RL.bG a7.Y1 0 j cL (RO.nx (RL.max al.2 a7.Y1 (RO.nx (aP (vi (if a6.Y0<al.1 then a6.Y0 else al.1)) ?_))))))))
   refine RO.nx (aP (vi (if al.2<a7.Y1 then a7.Y1 else al.2)) (RO.last ?_))
   obtain rfl:=oi hj
   exact⟨rfl,j.sp 8 [4,5,7]⟩
  rintro _ w ⟨O,rfl,j⟩
  refine bP (aH (RC.region (RL.inc hk hm (mv (vi ((aj+1:Nat):Int)) (RL.nil ?_)))))
  obtain rfl:=oi o
  exact⟨rfl,j.sp 3 [0,1,2]⟩
 rintro _ w ⟨O,rfl,j⟩
 refine aH (RC.seq ?_)
 obtain⟨cn,hN,o⟩:=bd o
 refine RC.iter (fun(aa: (List aA)×(List aA)×(List aA)×Int) U w=>∃bk bl bm:Value,SH E V [(0,bk),(1,bl),(2,v2),(7,bm),(8,vi aa.2.2.2),(9,vi ad.2)] [rd bk aa.1,rd bl aa.2.1,own 126 bm aa.2.2.1] U w) (fun(aa: (List aA)×(List aA)×(List aA)×Int) U w=>∃a2:Value,SH E V [(7,a2)] [own 126 a2 aa.2.2.1] U w) (fun(r:Empty) _ _=>r.elim) hN ?_ ?_ ?_ ?_
 ·have j:=j.cP aA 126
  exact⟨v0,v1,(.slice none 0 0),j.sp 4 [1,2,0]⟩
 ·rintro aa fl _ w ⟨b0,ay,ag,O,rfl,j⟩ o
  refine RC.seq (RC.sr (mv (vi aa.2.2.2) (mv (vi ad.2) (ic aa.2.2.2 ad.2 (RL.nt (dT o (fun hc o=>?_) fun hc o=>?_))))))
  rotate_left
  ·refine RC.ex ?_
   obtain rfl:=oi o
   exact⟨rfl,ag,j.sp 3 [2]⟩
  refine RC.sn (RC.block (RC.seq ?_))
  obtain⟨cp,hN,o⟩:=bd o
  refine RC.iter (fun(an: (List aA)) U w=>∃bo:Value,SH E V [(0,bo),(1,ay),(2,v2),(7,ag),(8,vi aa.2.2.2),(9,vi ad.2)] [rd ay aa.2.1,own 126 ag aa.2.2.1,rd bo an] U w) (fun(an: (List aA)) U w=>∃ao:Value,SH E V [(0,ao),(1,ay),(2,v2),(7,ag),(8,vi aa.2.2.2),(9,vi ad.2)] [rd ay aa.2.1,own 126 ag aa.2.2.1,rd ao an] U w) (fun(r:Empty) _ _=>r.elim) hN ?_ ?_ ?_ ?_
  ·exact⟨b0,j.sp 3 [1,2,0]⟩
  ·rintro an fl _ w ⟨az,O,rfl,j⟩ o
   refine RC.seq (RC.seq ?_)
   obtain⟨ba,hj,o⟩:=bd o
   refine RC.jn (fun(ba:Bool)=>SH E V [(0,az),(1,ay),(2,v2),(7,ag),(8,vi aa.2.2.2),(9,vi ad.2),(82,vb ba)] [rd az an,rd ay aa.2.1,own 126 ag aa.2.2.1]) ba ?_ ?_
   ·refine RC.region (mv az (RL.bB 2 an j vW (ic ((an.length:Int)) 0 (mv (vb (decide ((an.length:Int)>0))) (fA hj (fun ah hj=>?_) fun ah hj=>?_)))))
    rotate_left
    ·refine bC ah (bC ah (bC ah (bC ah (bC ah (bC ah (fB ah (vb false) (RL.nil ?_)))))))
     obtain rfl:=oi hj
     exact⟨rfl,j.sp 3 [2,0,1]⟩
    refine RL.move az (cg ah) ?_
    obtain⟨bb,b1,hj⟩:=bd hj
    refine RL.bO (hg:=(cg ah)) 2 j pZ b1 fun cq j=>(RL.dV (hg:=(cg ah)) 0 j zr nU fS fun cr j=>(RL.bG (hg:=(cg ah)) bb.Y1 0 j cL (RL.move (vi aa.2.2.2) (cg ah) (RL.lh bb.Y1 aa.2.2.2 (cg ah) (fB ah (vb (decide (bb.Y1<=aa.2.2.2))) (RL.nil ?_))))))
    obtain rfl:=oi hj
    exact⟨rfl,j.sp 5 [4,2,3]⟩
   rintro _ w ⟨O,rfl,j⟩
   refine aH (dT o (fun hc o=>?_) fun hc o=>?_)
   rotate_left
   ·refine RC.ex ?_
    obtain rfl:=oi o
    exact⟨rfl,az,j.sp 3 [1,2,0]⟩
   refine RC.sn (RC.block (RC.region (mv az ?_)))
   obtain⟨ct,b2,o⟩:=bd o
   refine RL.cut 0 j pZ (.inr ⟨rfl,zr⟩) b2 fun bp j=>(aP bp (RL.nil (bP ?_)))
   obtain rfl:=oi o
   exact⟨rfl,bp,j.sp 4 [2,3,0]⟩
  ·intro r _ _ _ _
   exact r.elim
  rintro an _ w rfl ⟨ao,O,rfl,j⟩
  rw [Fo.cZ] at o
  refine aH (RC.seq ?_)
  obtain⟨cu,hN,o⟩:=bd o
  refine RC.iter (fun(av: (List aA)) U w=>∃bq:Value,SH E V [(0,ao),(1,bq),(2,v2),(7,ag),(8,vi aa.2.2.2),(9,vi ad.2)] [rd ao an,own 126 ag aa.2.2.1,rd bq av] U w) (fun(av: (List aA)) U w=>∃a0:Value,SH E V [(0,ao),(1,a0),(2,v2),(7,ag),(8,vi aa.2.2.2),(9,vi ad.2)] [rd ao an,own 126 ag aa.2.2.1,rd a0 av] U w) (fun(r:Empty) _ _=>r.elim) hN ?_ ?_ ?_ ?_
  ·exact⟨ay,j.sp 3 [2,1,0]⟩
  ·rintro av fl _ w ⟨a1,O,rfl,j⟩ o
   refine RC.seq (RC.seq ?_)
   obtain⟨bc,hj,o⟩:=bd o
   refine RC.jn (fun(bc:Bool)=>SH E V [(0,ao),(1,a1),(2,v2),(7,ag),(8,vi aa.2.2.2),(9,vi ad.2),(95,vb bc)] [rd ao an,rd a1 av,own 126 ag aa.2.2.1]) bc ?_ ?_
   ·refine RC.region (mv a1 (RL.bB 2 av j vW (ic ((av.length:Int)) 0 (mv (vb (decide ((av.length:Int)>0))) (fA hj (fun ai hj=>?_) fun ai hj=>?_)))))
    rotate_left
    ·refine bC ai (bC ai (bC ai (bC ai (bC ai (bC ai (fB ai (vb false) (RL.nil ?_)))))))
     obtain rfl:=oi hj
     exact⟨rfl,j.sp 3 [0,2,1]⟩
    refine RL.move a1 (cg ai) ?_
    obtain⟨bf,b3,hj⟩:=bd hj
    refine RL.bO (hg:=(cg ai)) 2 j pZ b3 fun cv j=>(RL.dV (hg:=(cg ai)) 0 j zr nU fS fun cw j=>(RL.bG (hg:=(cg ai)) bf.Y1 0 j cL (RL.move (vi aa.2.2.2) (cg ai) (RL.lh bf.Y1 aa.2.2.2 (cg ai) (fB ai (vb (decide (bf.Y1<=aa.2.2.2))) (RL.nil ?_))))))
    obtain rfl:=oi hj
    exact⟨rfl,j.sp 5 [2,4,3]⟩
   rintro _ w ⟨O,rfl,j⟩
   refine aH (dT o (fun hc o=>?_) fun hc o=>?_)
   rotate_left
   ·refine RC.ex ?_
    obtain rfl:=oi o
    exact⟨rfl,a1,j.sp 3 [0,2,1]⟩
   refine RC.sn (RC.block (RC.region (mv a1 ?_)))
   obtain⟨cx,b4,o⟩:=bd o
   refine RL.cut 1 j pZ (.inr ⟨rfl,zr⟩) b4 fun br j=>(aP br (RL.nil (bP ?_)))
   obtain rfl:=oi o
   exact⟨rfl,br,j.sp 4 [1,3,0]⟩
  ·intro r _ _ _ _
   exact r.elim
  rintro av _ w rfl ⟨a0,O,rfl,j⟩
  rw [Fo.cZ] at o
  refine aH (RC.sr (mv ao (mv (vi aa.2.2.2) (mv (vi ad.2) ?_))))
  obtain⟨ae,b5,o⟩:=bd o
  refine RL.call zt zr JC [ao,(vi aa.2.2.2),(vi ad.2)] zr (aD (uo N (p1:=aa.2.2.2) (p2:=ad.2) (i0:=0) j zr b5) ?_)
  rintro _ w ⟨a3,rfl,j⟩
  refine mv (.tuple #[a3,(vi ae.2)]) (RL.extract a3 (RL.extract (vi ae.2) (aP a3 (aP (vi ae.2) (RL.ns (mv a0 (mv (vi aa.2.2.2) (mv (vi ad.2) ?_))))))))
  obtain⟨af,b6,o⟩:=bd o
  refine RL.call zt zr JC [a0,(vi aa.2.2.2),(vi ad.2)] zr (aD (uo N (p1:=aa.2.2.2) (p2:=ad.2) (i0:=3) j zr b6) ?_)
  rintro _ w ⟨a4,rfl,j⟩
  refine mv (.tuple #[a4,(vi af.2)]) (RL.extract a4 (RL.extract (vi af.2) (aP a4 (aP (vi af.2) (RL.ns (mv (vi ae.2) (mv (vi af.2) (RL.min ae.2 af.2 ?_))))))))
  refine aP (vi (if af.2<ae.2 then af.2 else ae.2)) (RL.ns (mv ag (mv (vi aa.2.2.2) (mv (vi (if af.2<ae.2 then af.2 else ae.2)) (mv a3 (mv a4 (mv v2 ?_)))))))
  obtain⟨b7,b8,o⟩:=bd o
  refine RL.call zt zr Lr [a3,a4,v2] zr (aD (BM N (i0:=1) (i1:=0) j zr zr (h2.lift 5 zr) b8) ?_)
  rintro b9 w j
  have j:=((j.sc Int aa.2.2.2).sc Int (if af.2<ae.2 then af.2 else ae.2)).freeze 2
  refine RL.build (⟨aa.2.2.2,(if af.2<ae.2 then af.2 else ae.2),b7⟩:aA) trivial rfl j [(0,vi aa.2.2.2),(1,(vi (if af.2<ae.2 then af.2 else ae.2))),(2,b9)] rfl Jy rfl (fun M hs g=>by have h:=xM M;exact cT.cons (f:=fun(x:aA) y=>{x with Y0:=y}) h ui (g.sat 1 _ rfl).1 fun _ h=>cT.cons (f:=fun(x:aA) y=>{x with Y1:=y}) h pX (g.sat 0 _ rfl).1 fun _ h=>cT.cons (f:=fun(x:aA) y=>{x with Xs:=y}) h uj (g.sat 2 _ rfl).1 fun _ h=>cT.nil h) fun ca j=>?_
  have j:=j.pull 7
  obtain⟨cy,cb,o⟩:=bd o
  refine RL.call zt zr K7 [ag,ca] zr (aD (rS N (i1:=0) j zr cb) ?_)
  rintro bt w j
  refine aP bt (RL.nt (RC.region (mv (vi (if af.2<ae.2 then af.2 else ae.2)) (aP (vi (if af.2<ae.2 then af.2 else ae.2)) (RL.nil (bP ?_))))))
  obtain rfl:=oi o
  exact⟨rfl,ao,a0,bt,j.sp 10 [7,9,0]⟩
 ·intro r _ _ _ _
  exact r.elim
 rintro aa _ w rfl ⟨a2,O,rfl,j⟩
 rw [Fo.cZ] at o
 refine aH (RC.sr (mv a2 (aP a2 (RL.nt (RC.ret ?_)))))
 obtain rfl:=oi o
 exact bY (j.pk 1 [0])
theorem va {p0 p1 res:Bool} (o:Holds E w V) (j:oN N p0 p1=some res):
    Calls bN 92 [(vb p0),(vb p1)].toArray w (gJ (aU E V res)):=by
 unfold oN at j
 refine enter Tryz.func92 rfl rfl (RC.sr (aP (vb false) (RL.ns (mv (vb p0) (mv (vb p0) (RL.gs true p0 (vb p1) rfl rfl rfl cH (RL.gs true p0 (vb (!p1)) rfl rfl rfl (Hf p1 rfl (fun h=>by exact(cM h:cv (true&&(p0==true)) (vb p1)= (vb p1)))) (RL.pick p0 (vb (p0&&(!p1))) (gr true rfl) ?_))))))))
 refine aP (vb (p0&&(!p1))) (RL.nt (RC.ret ?_))
 obtain rfl:=oi j
 exact bY ⟨rfl,o.drop 0⟩
theorem xW {p0: (List aA)} {p1: (List aA)} {res: (List aA)} (o:Holds E w V) (h0:V[i0]? =some (rd v0 p0)) (h1:V[i1]? =some (rd v1 p1)) (hb:ln N p0 p1=some res):
    Calls bN 52 [v0,v1].toArray w (gJ (np E V res)):=by
 unfold ln at hb
 refine enter Tryz.func52 zr zr ?_
 have o:=(o.dup (i0+0) h0).dup (i1+1) h1
 refine RC.sr (aP (.slice none 0 0) (RL.ns (mv v0 (mv v1 ?_))))
 obtain⟨af,ab,hb⟩:=bd hb
 refine RL.call trivial rfl MQ [v0,v1,(.func (.func 92) #[] #[])] rfl (aD (AG N (i0:=1) (i1:=0) o rfl rfl ⟨92,[],rfl,MP,fun w Γl v v' y0 y1 r i j o hi hj hr=>by obtain rfl:=o.Dj (γ:=Bool) hi;obtain rfl:=o.Dj (γ:=Bool) hj;exact aD (va N (p0:=y0) (p1:=y1) o hr) fun _ _ h=>h⟩ ab) ?_)
 rintro ae w o
 refine aP ae (RL.nt (RC.ret ?_))
 obtain rfl:=oi hb
 exact bY (o.pk 3 [0])
theorem xX {p0: (List aA)} (j:Holds E w V) (h0:V[i0]? =some (rd v0 p0)) (hb:mI N p0=some res):
    Calls bN 53 [v0].toArray w (gJ (aY E V res)):=by
 unfold mI at hb
 refine enter Tryz.func53 zr zr ?_
 have j:=j.dup (i0+0) h0
 refine RC.sr (aP (vi 0) (RL.ns (aP (vi 0) (RL.nq (RC.sr (mv v0 (RL.bB 0 p0 j vW (mv (vi 0) ?_))))))))
 refine RL.nt ?_
 obtain⟨o,hN,hb⟩:=bd hb
 refine RC.fold (fun(ad:Nat) (o:Int)=>SH E V [(3,vi o),(6,v0),(7,vi p0.length),(8,vi ad)] [rd v0 p0]) (fun(o:Int)=>SH E V [(3,vi o)] [rd v0 p0]) hN ?_ ?_ ?_ ?_
 ·exact j.sp 1 [0]
 ·rintro hm o _ w ⟨O,rfl,j⟩
  refine RC.sr (ic ((p0.length:Int)) ((p0.length:Int)) (RL.nq (RC.fu sA (RC.ex ?_))))
  exact⟨rfl,j.sp 1 [0]⟩
 ·rintro hm ad o s' _ w hk ⟨O,rfl,j⟩ hb
  refine RC.sr (ic ((ad:Int)) ((p0.length:Int)) (RL.nq (RC.eZ (sw hk) (RC.ss (RC.bs ?_)))))
  obtain⟨ab,ah,hb⟩:=bd hb
  refine RL.bO 0 j pZ ah fun ai j=>(RL.bJ 0 ab j xO fun aj j=>(RL.alloc j DU.z fun ak w j=>?_))
  refine RL.bZ 0 j 1 zr xO fun w j=>?_
  refine RL.nt (RC.region (mv (vi o) (RL.aX zr mq (RL.aZ 0 j zr eC eV fun al j=>(RL.bB 0 ab.Xs j mB (RL.quo (ab.Xs.length:Int) 2 (RL.gk o (IntKind.wrap .i64 (Int.tdiv (ab.Xs.length:Int) 2)) (aP (vi (IntKind.wrap .i64 (o+ (IntKind.wrap .i64 (Int.tdiv (ab.Xs.length:Int) 2))))) ?_))))))))
  refine RL.nil (bP (aH (RC.region (RL.inc hk hm (mv (vi ((ad+1:Nat):Int)) (RL.nil ?_))))))
  obtain rfl:=oi hb
  exact⟨rfl,j.sp 5 [4]⟩
 rintro _ w ⟨O,rfl,j⟩
 refine aH (RC.sr (mv (vi o) (aP (vi o) (RL.nt (RC.ret ?_)))))
 obtain rfl:=oi hb
 exact bY ⟨rfl,j.drop 1⟩
def vc (E:World) (V:List HP) (b1:Nat) (res:Int×(List Int)) (v:Value) (w:World):Prop:=∃u1_0:Value,v= (vi res.1)/\Holds E w ([bc 36 b1 [u1_0],own 3 u1_0 res.2]++V)
theorem mm {p1_0: (List Int)} {res:Int×(List Int)} (j:Holds E w (bc 36 b1 [v1_0]::own 3 v1_0 p1_0::V)) (o:fN N p0 p1_0=some res):
    Calls bN 93 [(vi p0),(vp b1 0)].toArray w (gJ (vc E V b1 res)):=by
 unfold fN at o
 refine enter Tryz.func93 zr zr (RC.sr (aP (vi 0) (RL.nq ?_)))
 obtain⟨an,hN,o⟩:=bd o
 refine RC.iter (fun(aa:Int×(List Int))=>SH E V [(0,vi aa.1),(1,vp b1 0)] [bc 36 b1 [v1_0],own 3 v1_0 aa.2]) (fun(aa:Int×(List Int))=>SH E V [(0,vi aa.1),(1,vp b1 0)] [bc 36 b1 [v1_0],own 3 v1_0 aa.2]) (fun(r:Empty) _ _=>r.elim) hN ?_ ?_ ?_ ?_
 ·exact j.sp 2 [0,1]
 ·rintro aa fl _ w ⟨O,rfl,j⟩ o
  refine RC.seq (RC.sr (RL.bF 0 v1_0 j eV (mv (vi aa.1) ?_)))
  obtain⟨ai,ab,o⟩:=bd o
  refine RL.bT 1 j zr zr eF ab (RL.dR (f:=(fun x=>x)) 1 j (jz 1 j ab 0) (bH ab).2.1 Fd.self cL (mv (vi aa.1) (ic ai aa.1 (RL.nt (dT o (fun hc o=>?_) fun hc o=>?_)))))
  rotate_left
  ·refine RC.ex ?_
   obtain rfl:=oi o
   exact⟨rfl,j.sp 2 [0,1]⟩
  refine RC.sn (RC.block (RC.seq (RC.vV mixed [0,0,0,0,0,0,0,0,0,0,2] [0,1,2,3,4,5,6,7,8,9,10] ?_)))
  have j:=j.drew
  refine DP.e0 zr (RL.bF 0 v1_0 j eV (aW zr (mv (vi aa.1) (aW zr (RL.bF 0 v1_0 j eV (aW zr (RL.bF 0 v1_0 j eV (aW zr ?_))))))))
  refine mv (vi aa.1) (aW zr ?_)
  obtain⟨aq,ad,o⟩:=bd o
  refine RL.bT 1 j zr zr eF ad (aW zr (RL.dR (f:=(fun x=>x)) 1 j (jz 1 j ad 0) (bH ad).2.1 Fd.self cL (aW zr ?_)))
  obtain⟨ak,ae,o⟩:=bd o
  refine RL.bT 1 j zr zr eF ae (aW zr (RL.dR (f:=(fun x=>x)) 1 j (jz 1 j ae 0) (bH ae).2.1 Fd.self cL (aW zr ?_)))
  obtain⟨ar,af,o⟩:=bd o
  refine RL.bT 1 j zr zr eF af (oZ zr ?_)
  have j:=j.sc Int ak
  refine RL.gK (f:=(fun _ y=>y)) 2 0 j (jz 2 j af 0) (bH af).2.1 zr Fs.self cL fun w j=>?_
  refine DP.d2 zt (DP.z (aH (RC.region (RL.bF 1 v1_0 j eV (mv (vi aa.1) ?_)))))
  obtain⟨al,ag,o⟩:=bd o
  refine RL.bT 2 j zr zr eF ag (RL.dR (f:=(fun x=>x)) 2 j (jz 2 j ag 0) (bH ag).2.1 Fd.self cL (aP (vi al) (RL.nil (bP ?_))))
  obtain rfl:=oi o
  exact⟨rfl,j.sp 3 [1,2]⟩
 ·intro r _ _ _ _
  exact r.elim
 rintro aa _ w rfl ⟨O,rfl,j⟩
 rw [Fo.cZ] at o
 refine aH (RC.sr (mv (vi aa.1) (aP (vi aa.1) (RL.nt (RC.ret ?_)))))
 obtain rfl:=oi o
 exact bY ⟨v1_0,zr,j.pk 2 [0,1]⟩
def xY (E:World) (V:List HP) (res: (List (List aA))) (v:Value) (w:World):Prop:=Holds E w ([own 91 v res]++V)
theorem w3 {p0: (List aA)} {res: (List (List aA))} (o:Holds E w V) (h0:V[i0]? =some (rd v0 p0)) (hb:lU N p0=some res):
    Calls bN 54 [v0].toArray w (gJ (xY E V res)):=by
 unfold lU at hb
 refine enter Tryz.func54 zr zr ?_
 have o:=o.dup (i0+0) h0
 refine RC.sr (aP (.slice none 0 0) (RL.ns (mv v0 ?_)))
 obtain⟨aq,c7,hb⟩:=bd hb
 refine RL.call zt zr Kf [v0] zr (aD (n9 N (i0:=0) o zr c7) ?_)
 rintro ah w o
 refine aP ah (RL.ns (mv ah (RL.fL 0 aq o nC ?_)))
 obtain⟨bn,c8,hb⟩:=bd hb
 refine RL.mk (aq.length:Int) o rC K4 c8 fun ba w o=>?_
 refine RL.uO zr o K3 zr fun ag w o=>?_
 refine RL.iB 0 ba o zr zr (iT 1 o) eV fun w o=>?_
 refine RL.nq (RC.sr (RL.bF 0 ba o eV (RL.fL 1 bn o mB (mv (vi 0) (RL.nt ?_)))))
 obtain⟨bk,hN,hb⟩:=bd hb
 refine RC.fold (fun(a8:Nat) (bk: (List Int))=>SH E V [(0,v0),(3,ah),(4,vp ag 0),(32,vi bn.length),(33,vi a8)] [rd v0 p0,own 69 ah aq,bc 36 ag [ba],own 3 ba bk]) (fun(bk: (List Int))=>SH E V [(0,v0),(3,ah),(4,vp ag 0)] [rd v0 p0,own 69 ah aq,bc 36 ag [ba],own 3 ba bk]) hN ?_ ?_ ?_ ?_
 ·exact o.sp 4 [3,2,0,1]
 ·rintro hm bk _ w ⟨O,rfl,o⟩
  refine RC.sr (ic ((bn.length:Int)) ((bn.length:Int)) (RL.nq (RC.fu sA (RC.ex ?_))))
  exact⟨rfl,o.sp 4 [0,1,2,3]⟩
 ·rintro hm a8 bk s' _ w hk ⟨O,rfl,o⟩ hb
  refine RC.sr (ic ((a8:Int)) ((bn.length:Int)) (RL.nq (RC.eZ (sw hk) (RC.ss (RC.bs (mv (vi a8) (aP (vi a8) (RL.nt ?_))))))))
  refine RC.region (RL.bF 2 ba o eV (mv (vi a8) (mv (vi a8) ?_)))
  obtain⟨du,cb,hb⟩:=bd hb
  refine RL.bT 3 o zr zr eF cb ?_
  have o:=o.sc Int (a8:Int)
  refine RL.gK (f:=(fun _ y=>y)) 4 0 o (jz 4 o cb 0) (bH cb).2.1 zr Fs.self cL fun w o=>?_
  refine RL.nil (bP (aH (RC.region (RL.inc hk hm (mv (vi ((a8+1:Nat):Int)) (RL.nil ?_))))))
  obtain rfl:=oi hb
  exact⟨rfl,o.sp 5 [1,2,3,4]⟩
 rintro _ w ⟨O,rfl,o⟩
 refine aH (RC.sr (RL.makeFunc zt zr [(vp ag 0)] zr (aP (.func (.func 93) #[] #[(vp ag 0)]) (RL.ns (aP (vi 0) (aP (vi 0) (RL.nq (RC.sr ?_))))))))
 refine mv v0 (RL.bB 0 p0 o vW (mv (vi 0) (RL.nt ?_)))
 obtain⟨ad,hN,hb⟩:=bd hb
 refine RC.fold (fun(ay:Nat) (ad: (List Int)×Int×Int) U w=>∃ct:Value,SH E V [(0,v0),(3,ah),(4,vp ag 0),(6,(.func (.func 93) #[] #[(vp ag 0)])),(7,vi ad.2.1),(8,vi ad.2.2),(42,v0),(43,vi p0.length),(44,vi ay)] [rd v0 p0,own 69 ah aq,bc 36 ag [ct],own 3 ct ad.1] U w) (fun(ad: (List Int)×Int×Int) U w=>∃br:Value,SH E V [(3,ah),(6,(.func (.func 93) #[] #[(vp ag 0)]))] [rd v0 p0,own 69 ah aq,bc 36 ag [br],own 3 br ad.1] U w) hN ?_ ?_ ?_ ?_
 ·exact⟨ba,o.sp 4 [0,1,2,3]⟩
 ·rintro hm ad _ w ⟨c9,O,rfl,o⟩
  refine RC.sr (ic ((p0.length:Int)) ((p0.length:Int)) (RL.nq (RC.fu sA (RC.ex ?_))))
  exact⟨rfl,c9,o.sp 4 [0,1,2,3]⟩
 ·rintro hm ay ad s' _ w hk ⟨bt,O,rfl,o⟩ hb
  refine RC.sr (ic ((ay:Int)) ((p0.length:Int)) (RL.nq (RC.eZ (sw hk) (RC.ss (RC.bs (mv (vi ay) ?_))))))
  obtain⟨an,da,hb⟩:=bd hb
  refine RL.bO 0 o pZ da fun dv o=>(RL.bJ 0 an o xO fun dw o=>(RL.alloc o DU.z fun dx w o=>?_))
  refine aP (vi ay) (RL.bZ 0 o 1 zr xO fun w o=>?_)
  refine RL.ns (RL.aX zr mq (RL.aZ 0 o zr eC eV fun dy o=>(RL.bB 0 an.Xs o mB (RL.quo (an.Xs.length:Int) 2 (aP (vi (IntKind.wrap .i64 (Int.tdiv (an.Xs.length:Int) 2))) (RL.nq (RC.seq ?_)))))))
  obtain⟨cc,hj,hb⟩:=bd hb
  refine RC.jn (fun(cc:Bool)=>SH E V [(0,v0),(3,ah),(4,vp ag 0),(6,(.func (.func 93) #[] #[(vp ag 0)])),(7,vi ad.2.1),(8,vi ad.2.2),(11,(vi (IntKind.wrap .i64 (Int.tdiv (an.Xs.length:Int) 2)))),(42,v0),(43,vi p0.length),(44,vi ay),(65,vb cc)] [rd v0 p0,own 69 ah aq,bc 36 ag [bt],own 3 bt ad.1]) cc ?_ ?_
  ·refine RC.zm mixed ?_
   have o:=o.drew
   refine RO.go (mv (vi ay) (RO.nx (ic ((ay:Int)) 0 (RO.nx (mv (vb (decide ((ay:Int)>0))) (fA hj (fun aw hj=>?_) fun aw hj=>?_))))))
   rotate_left
   ·refine RO.nx (bC aw (RO.nx (bC aw (RO.nx (bC aw (RO.nx (bC aw (RO.nx ?_))))))))
    refine bC aw (RO.nx (bC aw (RO.nx (bC aw (RO.nx (bC aw (RO.nx (bC aw ?_))))))))
    refine RO.nx (fB aw (vb false) (RO.last ?_))
    obtain rfl:=oi hj
    exact⟨rfl,o.sp 8 [4,5,6,7]⟩
   refine RO.nx (RL.move v0 (cg aw) (RO.nx (RL.move (vi ay) (cg aw) (RO.nx (RL.gk (hg:=(cg aw)) (ay:Int) 1 (RO.nx ?_))))))
   obtain⟨cd,db,hj⟩:=bd hj
   refine RL.bO (hg:=(cg aw)) 4 o pZ db fun dz o=>(RO.nx (RL.dV (hg:=(cg aw)) 0 o zr nU fS fun d0 o=>(RO.nx (RL.bG (hg:=(cg aw)) cd.Y1 0 o cL (RO.nx (RL.aX (hg:=(cg aw)) zr ql (RO.nx (RL.aM (hg:=(cg aw)) 3 o zr ik cL ?_))))))))
   refine RO.nx (RL.lh cd.Y1 an.Y0 (cg aw) (RO.nx (fB aw (vb (cd.Y1==an.Y0)) (RO.last ?_))))
   obtain rfl:=oi hj
   exact⟨rfl,o.sp 10 [6,7,8,9]⟩
  rintro _ w ⟨O,rfl,o⟩
  refine aH ?_
  obtain⟨cf,hj,hb⟩:=bd hb
  refine RC.jn (fun(cf: (List Int)) U w=>∃bu:Value,SH E V [(0,v0),(3,ah),(4,vp ag 0),(6,(.func (.func 93) #[] #[(vp ag 0)])),(7,vi ad.2.1),(11,(vi (IntKind.wrap .i64 (Int.tdiv (an.Xs.length:Int) 2)))),(42,v0),(43,vi p0.length),(44,vi ay)] [rd v0 p0,own 69 ah aq,bc 36 ag [bu],own 3 bu cf] U w) cf ?_ ?_
  ·refine dT hj (fun hc hj=>?_) fun hc hj=>?_
   rotate_left
   ·refine RC.skip ?_
    obtain rfl:=oi hj
    exact⟨rfl,bt,o.sp 4 [0,1,2,3]⟩
   refine RC.sr (mv (vi ad.2.2) (mv (vi ad.2.1) (aP (vi ad.2.2) (aP (vi ad.2.1) (RL.nt ?_)))))
   obtain⟨d3,hN,hj⟩:=bd hj
   refine RC.iter (fun(ae: (List Int)×Int×Int) U w=>∃cu:Value,SH E V [(0,v0),(3,ah),(4,vp ag 0),(6,(.func (.func 93) #[] #[(vp ag 0)])),(7,vi ad.2.1),(11,(vi (IntKind.wrap .i64 (Int.tdiv (an.Xs.length:Int) 2)))),(12,vi ae.2.1),(13,vi ae.2.2),(42,v0),(43,vi p0.length),(44,vi ay)] [rd v0 p0,own 69 ah aq,bc 36 ag [cu],own 3 cu ae.1] U w) (fun(ae: (List Int)×Int×Int) U w=>∃bw:Value,SH E V [(0,v0),(3,ah),(4,vp ag 0),(6,(.func (.func 93) #[] #[(vp ag 0)])),(7,vi ad.2.1),(11,(vi (IntKind.wrap .i64 (Int.tdiv (an.Xs.length:Int) 2)))),(42,v0),(43,vi p0.length),(44,vi ay)] [rd v0 p0,own 69 ah aq,bc 36 ag [bw],own 3 bw ae.1] U w) (fun(r:Empty) _ _=>r.elim) hN ?_ ?_ ?_ ?_
   ·exact⟨bt,o.sp 4 [0,1,2,3]⟩
   ·rintro ae fl _ w ⟨bz,O,rfl,o⟩ hb
    refine RC.seq (RC.sr (mv (vi ae.2.1) (mv (vi ad.2.1) (ic ae.2.1 ad.2.1 (mv (vb (decide (ae.2.1<ad.2.1))) (RL.gs true (decide (ae.2.1<ad.2.1)) (vi ae.2.2) zr zr zr cH (RL.gs true (decide (ae.2.1<ad.2.1)) (vi ad.2.1) zr zr zr cH (RL.gs true (decide (ae.2.1<ad.2.1)) (vi (IntKind.wrap .i64 (Int.tdiv (an.Xs.length:Int) 2))) zr zr zr cH ?_))))))))
    refine RL.gs true (decide (ae.2.1<ad.2.1)) (vi (IntKind.wrap .i64 (ad.2.1+ (IntKind.wrap .i64 (Int.tdiv (an.Xs.length:Int) 2))))) rfl rfl rfl (JZ (bop:= .add) (K:= .i64) (a:=ad.2.1) (b:=(IntKind.wrap .i64 (Int.tdiv (an.Xs.length:Int) 2))) rfl (fun h=>by exact(cM h:cv (true&&((decide (ae.2.1<ad.2.1))==true)) (vi ad.2.1)= (vi ad.2.1))) (fun h=>by exact(cM h:cv (true&&((decide (ae.2.1<ad.2.1))==true)) (vi (IntKind.wrap .i64 (Int.tdiv (an.Xs.length:Int) 2)))= (vi (IntKind.wrap .i64 (Int.tdiv (an.Xs.length:Int) 2))))) rfl) (RL.gs true (decide (ae.2.1<ad.2.1)) (vb (decide (ae.2.2< (IntKind.wrap .i64 (ad.2.1+ (IntKind.wrap .i64 (Int.tdiv (an.Xs.length:Int) 2))))))) rfl rfl rfl (dK .lss .i64 ae.2.2 (IntKind.wrap .i64 (ad.2.1+ (IntKind.wrap .i64 (Int.tdiv (an.Xs.length:Int) 2)))) rfl (fun h=>by exact(cM h:cv (true&&((decide (ae.2.1<ad.2.1))==true)) (vi ae.2.2)= (vi ae.2.2))) (fun h=>by exact(cM h:cv (true&&((decide (ae.2.1<ad.2.1))==true)) (vi (IntKind.wrap .i64 (ad.2.1+ (IntKind.wrap .i64 (Int.tdiv (an.Xs.length:Int) 2)))))= (vi (IntKind.wrap .i64 (ad.2.1+ (IntKind.wrap .i64 (Int.tdiv (an.Xs.length:Int) 2))))))) rfl) (RL.pick (decide (ae.2.1<ad.2.1)) (vb ((decide (ae.2.1<ad.2.1))&&(decide (ae.2.2< (IntKind.wrap .i64 (ad.2.1+ (IntKind.wrap .i64 (Int.tdiv (an.Xs.length:Int) 2)))))))) (gr true rfl) (RL.nt (dT hb (fun hc hb=>?_) fun hc hb=>?_))))
    rotate_left
    ·refine RC.ex ?_
     obtain rfl:=oi hb
     exact⟨rfl,bz,o.sp 4 [0,1,2,3]⟩
    refine RC.sn (RC.block (RC.seq (RC.seq ?_)))
    obtain⟨ch,hj,hb⟩:=bd hb
    refine RC.jn (fun(ch:Bool)=>SH E V [(0,v0),(3,ah),(4,vp ag 0),(6,(.func (.func 93) #[] #[(vp ag 0)])),(7,vi ad.2.1),(11,(vi (IntKind.wrap .i64 (Int.tdiv (an.Xs.length:Int) 2)))),(12,vi ae.2.1),(13,vi ae.2.2),(42,v0),(43,vi p0.length),(44,vi ay),(101,vb ch)] [rd v0 p0,own 69 ah aq,bc 36 ag [bz],own 3 bz ae.1]) ch ?_ ?_
    ·refine RC.zm mixed ?_
     have o:=o.drew
     refine RO.go (mv ah (RO.nx (mv (vi ae.2.1) (RO.nx ?_))))
     obtain⟨cw,b0,hj⟩:=bd hj
     refine RL.bT 1 o zr zr jm b0 (RO.nx (RL.kz (α:=aI) (jz 1 o b0 0) iw (RO.nx (RL.dR 1 o (jz 1 o b0 0) (bH b0).2.1 dQ cL (RO.nx (mv ah (RO.nx (mv (vi ae.2.2) ?_))))))))
     refine RO.nx ?_
     obtain⟨cx,b1,hj⟩:=bd hj
     refine RL.bT 1 o zr zr jm b1 (RO.nx (RL.kz (α:=aI) (jz 1 o b1 0) jo (RO.nx (RL.dR 1 o (jz 1 o b1 2) (bH b1).2.1 eJ cL (RO.nx (ic cw.X0 cx.X1 (RO.nx (mv (vb (decide (cw.X0<cx.X1))) ?_))))))))
     refine fA hj (fun ao hj=>?_) fun ao hj=>?_
     rotate_left
     ·refine RO.nx (bC ao (RO.nx (bC ao (RO.nx (bC ao (RO.nx (bC ao (RO.nx ?_))))))))
      refine bC ao (RO.nx (bC ao (RO.nx (bC ao (RO.nx (bC ao (RO.nx (bC ao ?_))))))))
      refine RO.nx (bC ao (RO.nx (bC ao (RO.nx (fB ao (vb false) (RO.last ?_))))))
      obtain rfl:=oi hj
      exact⟨rfl,o.sp 4 [0,1,2,3]⟩
     refine RO.nx (RL.move ah (cg ao) (RO.nx (RL.move (vi ae.2.2) (cg ao) (RO.nx ?_))))
     obtain⟨cy,b2,hj⟩:=bd hj
     refine RL.bT (hg:=(cg ao)) 1 o zr zr jm b2 (RO.nx (RL.kz (hg:=(cg ao)) (α:=aI) (jz 1 o b2 0) iw (RO.nx (RL.dR (hg:=(cg ao)) 1 o (jz 1 o b2 0) (bH b2).2.1 dQ cL (RO.nx (RL.move ah (cg ao) (RO.nx (RL.move (vi ae.2.1) (cg ao) ?_))))))))
     refine RO.nx ?_
     obtain⟨cz,b3,hj⟩:=bd hj
     refine RL.bT (hg:=(cg ao)) 1 o zr zr jm b3 (RO.nx (RL.kz (hg:=(cg ao)) (α:=aI) (jz 1 o b3 0) jo (RO.nx (RL.dR (hg:=(cg ao)) 1 o (jz 1 o b3 2) (bH b3).2.1 eJ cL (RO.nx (RL.lh cy.X0 cz.X1 (cg ao) (RO.nx (fB ao (vb (decide (cy.X0<cz.X1))) ?_))))))))
     refine RO.last ?_
     obtain rfl:=oi hj
     exact⟨rfl,o.sp 4 [0,1,2,3]⟩
    rintro _ w ⟨O,rfl,o⟩
    refine aH ?_
    obtain⟨b4,hj,hb⟩:=bd hb
    refine RC.jn (fun(b4: (List Int)) U w=>∃bl:Value,SH E V [(0,v0),(3,ah),(4,vp ag 0),(6,(.func (.func 93) #[] #[(vp ag 0)])),(7,vi ad.2.1),(11,(vi (IntKind.wrap .i64 (Int.tdiv (an.Xs.length:Int) 2)))),(12,vi ae.2.1),(13,vi ae.2.2),(42,v0),(43,vi p0.length),(44,vi ay)] [rd v0 p0,own 69 ah aq,bc 36 ag [bl],own 3 bl b4] U w) b4 ?_ ?_
    ·refine dT hj (fun hc hj=>?_) fun hc hj=>?_
     rotate_left
     ·refine RC.skip ?_
      obtain rfl:=oi hj
      exact⟨rfl,bz,o.sp 4 [0,1,2,3]⟩
     refine RC.sr (mv (.func (.func 93) #[] #[(vp ag 0)]) (mv (vi ae.2.1) ?_))
     have o:=(o.pull 3).pull 3
     obtain⟨bf,dc,hj⟩:=bd hj
     refine RL.Dg (cap:=[(vp ag 0)]) zt zr Kk zr [(vi ae.2.1)] zr (aD (mm N (p0:=ae.2.1) o dc) ?_)
     rintro _ w ⟨d5,rfl,o⟩
     refine mv (.func (.func 93) #[] #[(vp ag 0)]) (mv (vi ae.2.2) ?_)
     have o:=(o.pull 1).pull 1
     obtain⟨bg,dd,hj⟩:=bd hj
     refine RL.Dg (cap:=[(vp ag 0)]) zt zr Kk zr [(vi ae.2.2)] zr (aD (mm N (p0:=ae.2.2) o dd) ?_)
     rintro _ w ⟨c0,rfl,o⟩
     refine aP (vi bf.1) (aP (vi bg.1) (RL.nt (RC.region (RL.bF 0 c0 o eV (mv (vi bf.1) (mv (vi bg.1) (RL.max bf.1 bg.1 (mv (vi bf.1) ?_))))))))
     refine mv (vi bg.1) (RL.min bf.1 bg.1 ?_)
     obtain⟨d6,cj,hj⟩:=bd hj
     refine RL.bT 1 o zr zr eF cj ?_
     have o:=o.sc Int (if bg.1<bf.1 then bg.1 else bf.1)
     refine RL.gK (f:=(fun _ y=>y)) 2 0 o (jz 2 o cj 0) (bH cj).2.1 zr Fs.self cL fun w o=>?_
     refine RL.nil ?_
     obtain rfl:=oi hj
     exact⟨rfl,c0,o.sp 9 [5,6,1,2]⟩
    rintro _ w ⟨bl,O,rfl,o⟩
    refine aH (RC.seq (RC.zm mixed ?_))
    have o:=o.drew
    refine RO.go (mv ah (RO.nx (mv (vi ae.2.1) (RO.nx ?_))))
    obtain⟨de,b5,hb⟩:=bd hb
    refine RL.bT 1 o zr zr jm b5 (RO.nx (RL.kz (α:=aI) (jz 1 o b5 0) jo (RO.nx (RL.dR 1 o (jz 1 o b5 2) (bH b5).2.1 eJ cL (RO.nx (mv ah (RO.nx (mv (vi ae.2.2) ?_))))))))
    refine RO.nx ?_
    obtain⟨df,b6,hb⟩:=bd hb
    refine RL.bT 1 o zr zr jm b6 (RO.nx (RL.kz (α:=aI) (jz 1 o b6 0) jo (RO.nx (RL.dR 1 o (jz 1 o b6 2) (bH b6).2.1 eJ cL (RO.nx (ic de.X1 df.X1 (RO.last (aH ?_))))))))
    obtain⟨b7,hj,hb⟩:=bd hb
    refine RC.jn (fun(b7:Int×Int)=>SH E V [(0,v0),(3,ah),(4,vp ag 0),(6,(.func (.func 93) #[] #[(vp ag 0)])),(7,vi ad.2.1),(11,(vi (IntKind.wrap .i64 (Int.tdiv (an.Xs.length:Int) 2)))),(12,vi b7.1),(13,vi b7.2),(42,v0),(43,vi p0.length),(44,vi ay)] [rd v0 p0,own 69 ah aq,bc 36 ag [bl],own 3 bl b4]) b7 ?_ ?_
    ·refine dT hj (fun hc hj=>?_) fun hc hj=>?_
     ·refine RC.region (mv (vi ae.2.1) (RL.gk ae.2.1 1 (aP (vi (IntKind.wrap .i64 (ae.2.1+1))) (RL.nil ?_))))
      obtain rfl:=oi hj
      exact⟨rfl,o.sp 4 [0,1,2,3]⟩
     refine RC.region (mv (vi ae.2.2) (RL.gk ae.2.2 1 (aP (vi (IntKind.wrap .i64 (ae.2.2+1))) (RL.nil ?_))))
     obtain rfl:=oi hj
     exact⟨rfl,o.sp 4 [0,1,2,3]⟩
    rintro _ w ⟨O,rfl,o⟩
    refine bP ?_
    obtain rfl:=oi hb
    exact⟨rfl,bl,o.sp 4 [0,1,2,3]⟩
   ·intro r _ _ _ _
    exact r.elim
   rintro ae _ w rfl ⟨bw,O,rfl,o⟩
   rw [Fo.cZ] at hj
   obtain rfl:=oi hj
   exact⟨rfl,bw,o.sp 4 [0,1,2,3]⟩
  rintro _ w ⟨bu,O,rfl,o⟩
  refine aH (RC.region (mv (vi ad.2.1) (mv (vi ad.2.1) (mv (vi (IntKind.wrap .i64 (Int.tdiv (an.Xs.length:Int) 2))) (RL.gk ad.2.1 (IntKind.wrap .i64 (Int.tdiv (an.Xs.length:Int) 2)) (aP (vi ad.2.1) (aP (vi (IntKind.wrap .i64 (ad.2.1+ (IntKind.wrap .i64 (Int.tdiv (an.Xs.length:Int) 2))))) (RL.nil ?_))))))))
  refine bP (aH (RC.region (RL.inc hk hm (mv (vi ((ay+1:Nat):Int)) (RL.nil ?_)))))
  obtain rfl:=oi hb
  exact⟨rfl,bu,o.sp 4 [0,1,2,3]⟩
 rintro _ w ⟨br,O,rfl,o⟩
 refine aH (RC.sr (RL.makeMap (κ:=Int) (ν:=Int) zt zr o fun a6 w o=>(aP a6 (RL.ns (aP (.slice none 0 0) (RL.nq (RC.sr (mv ah ?_))))))))
 refine RL.fL 2 aq o nC (mv (vi 0) (RL.nt ?_))
 obtain⟨ak,hN,hb⟩:=bd hb
 refine RC.fold (fun(a5:Nat) (ak: (List Int)×(List (Int×Int))×(List (List aI))) U w=>∃(c1 c2:Value) (us939:List RV),SH E V [(6,(.func (.func 93) #[] #[(vp ag 0)])),(16,a6),(17,c2),(137,ah),(138,vi aq.length),(139,vi a5)] [bc 36 ag [c1],own 3 c1 ak.1,mp a6 ak.2.1,own 69 ah aq,own 23 c2 us939,iA (XS 69 aI) us939 ak.2.2 none] U w) (fun(ak: (List Int)×(List (Int×Int))×(List (List aI))) U w=>∃(ck bh:Value) (us942:List RV),SH E V [(17,bh)] [bc 36 ag [ck],own 3 ck ak.1,mp a6 ak.2.1,own 69 ah aq,own 23 bh us942,iA (XS 69 aI) us942 ak.2.2 none] U w) hN ?_ ?_ ?_ ?_
 ·have o:=(o.z9 (XS 69 aI)).cP RV 23
  exact⟨br,(.slice none 0 0),([]:List RV),o.sp 7 [5,6,2,4,0,1]⟩
 ·rintro hm ak _ w ⟨dg,dh,us987,O,rfl,o⟩
  refine RC.sr (ic ((aq.length:Int)) ((aq.length:Int)) (RL.nq (RC.fu sA (RC.ex ?_))))
  exact⟨rfl,dg,dh,us987,o.sp 6 [0,1,2,3,4,5]⟩
 ·rintro hm a5 ak s' _ w hk ⟨d7,cl,us945,O,rfl,o⟩ hb
  refine RC.sr (ic ((a5:Int)) ((aq.length:Int)) (RL.nq (RC.eZ (sw hk) (RC.ss (RC.bs (mv (vi a5) ?_))))))
  obtain⟨bb,cm,hb⟩:=bd hb
  refine RL.bT 3 o zr zr jm cm (RL.jM (f:=(fun x=>x)) 3 o (jz 3 o cm 0) (bH cm).2.1 Fd.self iK fun d8 o=>?_)
  refine RL.alloc o oR.z fun b8 w o=>?_
  refine aP (vi a5) (RL.bZ 0 o 1 zr iK fun w o=>?_)
  refine RL.ns (mv (.func (.func 93) #[] #[(vp ag 0)]) (mv (vi a5) ?_))
  have o:=(o.pull 3).pull 3
  obtain⟨a2,di,hb⟩:=bd hb
  refine RL.Dg (cap:=[(vp ag 0)]) zt zr Kk zr [(vi a5)] zr (aD (mm N (p0:=(a5:Int)) o di) ?_)
  rintro _ w ⟨bo,rfl,o⟩
  refine aP (vi a2.1) (RL.ns (mv a6 (mv (vi a2.1) (RL.Hm (i:=6) (k:=a2.1) zt zr o zr zr zr DZ (mv (.tuple #[(vi (jC ak.2.1 a2.1 (0:Int))),(vb (uv ak.2.1 a2.1))]) (RL.extract (vi (jC ak.2.1 a2.1 (0:Int))) (RL.extract (vb (uv ak.2.1 a2.1)) (aP (vi (jC ak.2.1 a2.1 (0:Int))) ?_))))))))
  refine aP (vb (uv ak.2.1 a2.1)) (RL.nq (RC.sr (mv (vb (uv ak.2.1 a2.1)) (RL.not (uv ak.2.1 a2.1) (RL.nt ?_)))))
  obtain⟨af,hj,hb⟩:=bd hb
  refine RC.jn (fun(af: (List (Int×Int))×(List (List aI))×Int) U w=>∃(a1:Value) (us956:List RV),SH E V [(6,(.func (.func 93) #[] #[(vp ag 0)])),(16,a6),(17,a1),(19,vp b8 0),(21,vi af.2.2),(137,ah),(138,vi aq.length),(139,vi a5)] [bc 36 ag [bo],own 3 bo a2.2,mp a6 af.1,bx 69 b8 bb,own 69 ah aq,own 23 a1 us956,iA (XS 69 aI) us956 af.2.1 none] U w) af ?_ ?_
  ·refine dT hj (fun hc hj=>?_) fun hc hj=>?_
   rotate_left
   ·refine RC.skip ?_
    obtain rfl:=oi hj
    exact⟨rfl,cl,us945,o.sp 10 [0,1,6,2,7,8,9]⟩
   refine RC.sr (mv cl (RL.sB 8 9 ak.2.2 o qP (aP (vi ak.2.2.length) (RL.ns (mv a6 (mv (vi a2.1) (mv (vi ak.2.2.length) ?_)))))))
   have o:=o.sc Int (ak.2.2.length:Int)
   refine RL.mapUpdate 7 0 a2.1 zt o zr zr zr zr zr DZ fun w o=>(RL.nt (RC.region (mv cl ?_)))
   have o:=(o.cP aI 69).B0 (i:=0) rfl
   refine RL.dN ([rv (.slice none 0 0)]:List RV) o [(.slice none 0 0)] uV Kl (fun M hs g=>⟨(g.sat 0 _ zr).1,zt⟩) fun d9 w o=>?_
   obtain⟨ea,dj,hj⟩:=bd hj
   have o:=o.freeze 0
   refine RL.DC 12 0 13 2 zt zr o zr zr zr zr zr zr HJ dj fun c3 w o=>?_
   refine aP c3 (RL.nil ?_)
   obtain rfl:=oi hj
   exact⟨rfl,c3,(us945++[rv (.slice none 0 0)]),o.sp 14 [4,5,10,6,11,12,13]⟩
  rintro _ w ⟨a1,us956,O,rfl,o⟩
  refine aH ?_
  obtain⟨eb,b9,hb⟩:=bd hb
  obtain⟨bj,dk,hb⟩:=bd hb
  obtain⟨ec,cn,hb⟩:=bd hb
  refine RC.Gq E V mixed [1,1,1,1,0,0,0,0,0,0,0] [6,7,8,10] (fun(x:Value×Value×Value)=>(fun a0 ax al=>[(0,163,a1),(1,164,(vi af.2.2)),(2,165,a1),(3,166,(vi af.2.2)),(4,167,(zQ a1 (Int.toNat af.2.2) 1 0)),(5,168,(us956.getD (Int.toNat af.2.2) Db).v),(6,169,a0),(7,170,ax),(8,171,al),(9,172,(zQ a1 (Int.toNat af.2.2) 1 0))]) x.1 x.2.1 x.2.2) [(6,(.func (.func 93) #[] #[(vp ag 0)])),(16,a6),(17,a1),(19,vp b8 0),(21,vi af.2.2),(137,ah),(138,vi aq.length),(139,vi a5)] [] (fun(D:Nat->Bool) (x:Value×Value×Value)=>(fun a0 ax al=>[bif D 0 then (rd a0 bb) else bE,bif D 2 then (rd ax ([bb]: (List aI))) else (bif D 1 then (own 69 ax ([bb]: (List aI))) else bE),bif D 3 then bE else (bif D 2 then (own 69 al bj) else bE),bc 36 ag [bo],own 3 bo a2.2,mp a6 af.1,bx 69 b8 bb,own 69 ah aq,bif D 3 then (own 23 a1 (us956.set (Int.toNat af.2.2) (rv al))) else (own 23 a1 us956),bif D 3 then (iA (XS 69 aI) (us956.set (Int.toNat af.2.2) (rv al)) (af.2.1.set (Int.toNat af.2.2) bj) none) else (bif D 2 then (iA (XS 69 aI) us956 af.2.1 (some (Int.toNat af.2.2))) else (iA (XS 69 aI) us956 af.2.1 none))]) x.1 x.2.1 x.2.2) (fun x=>by kernel_rfl) ?_ ⟨fun _=>jL gn,fun _=>jL gn,fun _=>jL gn,fun _=>jL gn,?_,?_,?_,?_,?_,?_,?_,trivial⟩ ?_
  ·have o:=(((o.drew).bE).bE).bE
   exact⟨(undef,undef,undef),fR.none,(E3 zr),zt,o⟩
  ·rintro D U w hD au aj ⟨⟨a0,ax,al⟩,hv,ha,_,o⟩
   obtain⟨O,rfl⟩:=(ac (hv.at 2 rfl (au.1 rfl)) (ac (hv.at 3 rfl (au.2.1 rfl)) az)).fM
   have o:=((o.cD 8 (nh aj hD 10)).cD 9 (nh aj hD 10)).cD 9 (nf (fun h=>ft hD ((aj 5 _ rfl ((aj 8 _ rfl h).1 rfl)).1 rfl)))
   have hl974:=o.eH 9
   have hr975:=fU Db hl974 b9
   refine RL.bT 8 o zr zr uV hr975 ?_
   have o:=(o.fw 8 (D 10) (nh aj hD 10) (own 23 a1 (us956.set (Int.toNat af.2.2) (rv al)))).fw 9 (D 8) (nf (fun h=>ft hD ((aj 5 _ rfl ((aj 8 _ rfl h).1 rfl)).1 rfl))) (iA (XS 69 aI) us956 af.2.1 (some (Int.toNat af.2.2)))
   have o:=o.fw 9 (D 10) (nh aj hD 10) (iA (XS 69 aI) (us956.set (Int.toNat af.2.2) (rv al)) (af.2.1.set (Int.toNat af.2.2) bj) none)
   exact RL.nil ⟨rfl,(a0,ax,al),hv.pu 4,ha.u,zt,o⟩
  ·rintro D U w hD au aj ⟨⟨a0,ax,al⟩,hv,ha,_,o⟩
   obtain⟨O,rfl⟩:=(ac (hv.at 4 rfl (au.1 rfl)) az).fM
   have o:=((o.cD 8 (nh aj hD 10)).cD 9 (nh aj hD 10)).cD 9 (nh aj hD 8)
   have hl976:=o.eH 9
   have hr977:=fU Db hl976 b9
   refine RL.vC 8 9 af.2.2 (BZ 69 aI) Db zr o zr (jz 8 o hr977 0) zr zr b9 uy ?_
   have o:=(o.fw 8 (D 10) (nh aj hD 10) (own 23 a1 (us956.set (Int.toNat af.2.2) (rv al)))).fw 9 (D 8) (nh aj hD 8) (iA (XS 69 aI) us956 af.2.1 (some (Int.toNat af.2.2)))
   have o:=o.fw 9 (D 10) (nh aj hD 10) (iA (XS 69 aI) (us956.set (Int.toNat af.2.2) (rv al)) (af.2.1.set (Int.toNat af.2.2) bj) none)
   exact RL.nil ⟨rfl,(a0,ax,al),hv.pu 5,ha.u,zt,o⟩
  ·rintro D U w hD au aj ⟨⟨a0,ax,al⟩,hv,ha,_,o⟩
   obtain⟨O,rfl⟩:=(ac (ha.at 3 rfl) az).fM
   have o:=o.cD 0 hD
   refine RL.aZ (f:=(fun x=>x)) 6 o zr Fd.self iK fun dm o=>?_
   have o:=(o.pl 11 [0,2,3,4,5,6,7,8,9,10]).cR 0 true rfl bE
   exact RL.nil ⟨rfl,(dm,ax,al),hv.pu 6,ha.u,zt,o⟩
  ·rintro D U w hD au aj ⟨⟨a0,ax,al⟩,hv,ha,_,o⟩
   obtain⟨O,rfl⟩:=(ac (hv.at 6 rfl (au.1 rfl)) az).fM
   have o:=((o.cQ 0 (au.1 rfl)).cD 1 (nh aj hD 8)).cD 1 hD
   refine RL.dN ([bb]: (List aI)) o [a0] jm oR (fun M hs g=>⟨(g.sat 0 _ zr).1,zt⟩) fun c4 w o=>?_
   have o:=(((o.pl 11 [1,0,3,4,5,6,7,8,9,10]).cR 0 (D 6) (au.1 rfl) bE).cR 1 true rfl bE).fw 1 (D 8) (nh aj hD 8) (rd c4 ([bb]: (List aI)))
   exact RL.nil ⟨rfl,(a0,c4,al),hv.pu 7,ha.u,zt,o⟩
  ·rintro D U w hD au aj ⟨⟨a0,ax,al⟩,hv,ha,_,o⟩
   obtain⟨O,rfl⟩:=(ac (hv.at 5 rfl (au.1 rfl)) (ac (hv.at 7 rfl (au.2.1 rfl)) az)).fM
   have o:=(((((((o.cD 1 hD).cQ 1 (au.2.1 rfl)).cD 2 (nh aj hD 10)).cD 2 hD).cD 8 (nh aj hD 10)).cD 9 (nh aj hD 10)).cD 9 hD).Al (j:=9) (jj:=af.2.2) (BZ 69 aI) Db rfl b9
   have o:=o.freeze 2
   refine RL.app 0 2 o Av dk fun cp w o=>?_
   have o:=((((o.pl 11 [1,2,0,4,5,6,7,8,9,10]).cR 1 true rfl (bif D 7 then (own 69 ax ([bb]: (List aI))) else bE)).cR 2 true rfl bE).fw 2 (D 10) (nh aj hD 10) bE).fw 8 (D 10) (nh aj hD 10) (own 23 a1 (us956.set (Int.toNat af.2.2) (rv cp)))
   have o:=(o.cR 9 true rfl (iA (XS 69 aI) us956 af.2.1 none)).fw 9 (D 10) (nh aj hD 10) (iA (XS 69 aI) (us956.set (Int.toNat af.2.2) (rv cp)) (af.2.1.set (Int.toNat af.2.2) bj) none)
   exact RL.nil ⟨rfl,(a0,ax,cp),hv.pu 8,ha.u,zt,o⟩
  ·rintro D U w hD au aj ⟨⟨a0,ax,al⟩,hv,ha,_,o⟩
   obtain⟨O,rfl⟩:=(ac (hv.at 0 rfl (au.1 rfl)) (ac (hv.at 1 rfl (au.2.1 rfl)) az)).fM
   have o:=((o.cD 8 (nh aj hD 10)).cD 9 (nh aj hD 10)).cQ 9 (au.2.2.2.2.2.2.2.2.2.2.1 rfl)
   have hl981:=o.eH 9
   have hr982:=fU Db hl981 cn
   refine RL.bT 8 o zr zr uV hr982 ?_
   have o:=((o.fw 8 (D 10) (nh aj hD 10) (own 23 a1 (us956.set (Int.toNat af.2.2) (rv al)))).cR 9 (D 8) (au.2.2.2.2.2.2.2.2.2.2.1 rfl) (iA (XS 69 aI) us956 af.2.1 none)).fw 9 (D 10) (nh aj hD 10) (iA (XS 69 aI) (us956.set (Int.toNat af.2.2) (rv al)) (af.2.1.set (Int.toNat af.2.2) bj) none)
   exact RL.nil ⟨rfl,(a0,ax,al),hv.pu 9,ha.u,zt,o⟩
  ·rintro D U w hD au aj ⟨⟨a0,ax,al⟩,hv,ha,_,o⟩
   obtain⟨O,rfl⟩:=(ac (hv.at 8 rfl (au.2.1 rfl)) (ac (hv.at 9 rfl (au.1 rfl)) az)).fM
   have o:=((((o.cD 2 hD).cQ 2 (au.2.1 rfl)).cD 8 hD).cD 9 hD).cQ 9 (au.2.1 rfl)
   have hl983:=o.eH 9
   have hr984:=fU Db hl983 cn
   refine RL.tz 8 9 2 af.2.2 (BZ 69 aI) Db o zr zr (jz 8 o hr984 0) zr zr zr cn uy fun w o=>?_
   have o:=((o.cR 2 true rfl (bif D 8 then (own 69 al bj) else bE)).cR 8 true rfl (own 23 a1 us956)).cR 9 true rfl (bif D 8 then (iA (XS 69 aI) us956 af.2.1 (some (Int.toNat af.2.2))) else (iA (XS 69 aI) us956 af.2.1 none))
   exact RL.nil ⟨rfl,(a0,ax,al),hv.n1,ha,zt,o⟩
  rintro D U w bp ⟨⟨a0,ax,al⟩,hv,ha,_,o⟩
  have o:=((((o.cQ 0 (kU bp 6)).cQ 1 (kU bp 8)).cQ 2 (kU bp 10)).cQ 8 (kU bp 10)).cQ 9 (kU bp 10)
  obtain⟨O,rfl⟩:=(ac (ha.at 0 rfl) (ac (ha.at 1 rfl) (ac (ha.at 2 rfl) (ac (ha.at 3 rfl) (ac (ha.at 4 rfl) (ac (ha.at 5 rfl) (ac (ha.at 6 rfl) (ac (ha.at 7 rfl) az)))))))).fM
  refine bP (aH (RC.region (RL.inc hk hm (mv (vi ((a5+1:Nat):Int)) (RL.nil ?_)))))
  obtain rfl:=oi hb
  exact⟨rfl,bo,a1,(us956.set (Int.toNat af.2.2) (rv al)),o.sp 10 [3,4,5,7,8,9]⟩
 rintro _ w ⟨ck,bh,us942,O,rfl,o⟩
 refine aH (RC.sr (aP (.slice none 0 0) (RL.nq (RC.sr (mv bh (RL.sB 4 5 ak.2.2 o qP (mv (vi 0) (RL.nt ?_))))))))
 have o:=o.Aa (X:=(XS 69 aI)) (b:=5) (j:=4) rfl (fun M h u x cs=>(Ju 69) M h u x cs) rfl rfl (by decide)
 obtain⟨bm,hN,hb⟩:=bd hb
 refine RC.fold (fun(ca:Nat) (bm: (List (List aA))) U w=>∃c5:Value,SH E V [(23,c5),(174,bh),(175,vi ak.2.2.length),(176,vi ca)] [own 23 bh ak.2.2,own 91 c5 bm] U w) (fun(bm: (List (List aA))) U w=>∃bq:Value,SH E V [(23,bq)] [own 23 bh ak.2.2,own 91 bq bm] U w) hN ?_ ?_ ?_ ?_
 ·have o:=o.cP (List aA) 91
  exact⟨(.slice none 0 0),o.sp 7 [5,0]⟩
 ·rintro hm bm _ w ⟨dn,O,rfl,o⟩
  refine RC.sr (ic ((ak.2.2.length:Int)) ((ak.2.2.length:Int)) (RL.nq (RC.fu sA (RC.ex ?_))))
  exact⟨rfl,dn,o.sp 2 [0,1]⟩
 ·rintro hm ca bm s' _ w hk ⟨dp,O,rfl,o⟩ hb
  refine RC.sr (ic ((ca:Int)) ((ak.2.2.length:Int)) (RL.nq (RC.eZ (sw hk) (RC.ss (RC.bs ?_)))))
  obtain⟨ed,cq,hb⟩:=bd hb
  refine RL.bT 0 o zr zr uV cq (RL.jM (f:=(fun x=>x)) 0 o (jz 0 o cq 0) (bH cq).2.1 Fd.self uy fun cr o=>?_)
  refine aP cr (RL.nt (RC.region (mv dp (mv cr ?_))))
  obtain⟨dq,dr,hb⟩:=bd hb
  refine RL.call zt zr HC [cr] zr (aD (mO N (i0:=0) o zr dr) ?_)
  rintro ds w o
  have o:=o.freeze 0
  refine RL.dN ([dq]: (List (List aA))) o [ds] HH Kj (fun M hs g=>⟨(g.sat 0 _ zr).1,zt⟩) fun ee w o=>?_
  have o:=o.freeze 0
  obtain⟨ef,dt,hb⟩:=bd hb
  refine RL.app 4 0 o Lt dt fun c6 w o=>?_
  refine aP c6 (RL.nil (bP (aH (RC.region (RL.inc hk hm (mv (vi ((ca+1:Nat):Int)) (RL.nil ?_)))))))
  obtain rfl:=oi hb
  exact⟨rfl,c6,o.sp 5 [3,4]⟩
 rintro _ w ⟨bq,O,rfl,o⟩
 refine aH (RC.sr (mv bq (aP bq (RL.nt (RC.ret ?_)))))
 obtain rfl:=oi hb
 exact bY (o.pk 2 [1])
def vd (E:World) (V:List HP) (b0:Nat) (v0_0 v0_1:Value) (v0_2 v0_3:Value) (v0_6 v0_7:Value) (v0_8 v0_9:Value) (v0_10 v0_11:Value) (res:Bool×(List (List aA))×(List aK)) (v:Value) (w:World):Prop:=∃u0_4 u0_5:Value,v= (vb res.1)/\Holds E w ([bc 53 b0 [v0_0,v0_1,v0_2,v0_3,u0_4,u0_5,v0_6,v0_7,v0_8,v0_9,v0_10,v0_11],own 91 u0_4 res.2.1,own 102 u0_5 res.2.2]++V)
theorem uC {p0_0: (List (List aI))} {p0_2: (List cA)} {p0_4: (List (List aA))} {p0_5: (List aK)} {res:Bool×(List (List aA))×(List aK)} (j:Holds E w (bc 53 b0 [v0_0,v0_1,v0_2,v0_3,v0_4,v0_5,v0_6,v0_7,v0_8,v0_9,v0_10,v0_11]::rd v0_0 p0_0::rd v0_2 p0_2::own 91 v0_4 p0_4::own 102 v0_5 p0_5::V)) (o:kg N p0_0 p0_2 p0_4 p0_5=some res):
    Calls bN 26 [(vp b0 0)].toArray w (gJ (vd E V b0 v0_0 v0_1 v0_2 v0_3 v0_6 v0_7 v0_8 v0_9 v0_10 v0_11 res)):=by
 unfold kg at o
 refine enter Tryz.func26 zr zr (RC.sr (aP (vb false) (RL.ns (aP (vb true) (RL.nq (RC.sr (mv (vp b0 0) (RL.nilCheck zr ?_))))))))
 refine RL.aX zr tH (RL.aX zr mL (RL.bF 0 v0_0 j pY (RL.bB 1 p0_0 j qP (mv (vi 0) (RL.nt ?_)))))
 obtain⟨aa,hN,o⟩:=bd o
 refine RC.fold (fun(ab:Nat) (aa: (List (List aA))×(List aK)×Bool) U w=>∃bf bg:Value,SH E V [(0,vp b0 0),(3,vb aa.2.2),(16,v0_0),(17,vi p0_0.length),(18,vi ab)] [bc 53 b0 [v0_0,v0_1,v0_2,v0_3,bf,bg,v0_6,v0_7,v0_8,v0_9,v0_10,v0_11],own 91 bf aa.1,own 102 bg aa.2.1,rd v0_0 p0_0,rd v0_2 p0_2] U w) (fun(aa: (List (List aA))×(List aK)×Bool) U w=>∃au al:Value,SH E V [(0,vp b0 0),(3,vb aa.2.2)] [bc 53 b0 [v0_0,v0_1,v0_2,v0_3,au,al,v0_6,v0_7,v0_8,v0_9,v0_10,v0_11],own 91 au aa.1,own 102 al aa.2.1,rd v0_0 p0_0,rd v0_2 p0_2] U w) hN ?_ ?_ ?_ ?_
 ·exact⟨v0_4,v0_5,j.sp 5 [0,3,4,1,2]⟩
 ·rintro hm aa _ w ⟨bq,br,O,rfl,j⟩
  refine RC.sr (ic ((p0_0.length:Int)) ((p0_0.length:Int)) (RL.nq (RC.fu sA (RC.ex ?_))))
  exact⟨rfl,bq,br,j.sp 5 [0,1,2,3,4]⟩
 ·rintro hm ab aa s' _ w hk ⟨af,ag,O,rfl,j⟩ o
  refine RC.sr (ic ((ab:Int)) ((p0_0.length:Int)) (RL.nq (RC.eZ (sw hk) (RC.ss (RC.bs (mv (vi ab) ?_))))))
  obtain⟨a2,bt,o⟩:=bd o
  refine RL.bO 3 j uV bt fun cp j=>(RL.bJ 0 a2 j uy fun ah j=>(aP (vi ab) (aP ah (RL.ns (aP (.slice none 0 0) (RL.nq (RC.sr (mv (vp b0 0) ?_))))))))
  refine RL.nilCheck zr (RL.aX zr tH (RL.aX zr iz (RL.bF 2 v0_2 j n7 (RL.bB 6 p0_2 j wO (mv (vi 0) (RL.nt ?_))))))
  obtain⟨av,hN,o⟩:=bd o
  refine RC.fold (fun(az:Nat) (av: (List aI)) U w=>∃bh:Value,SH E V [(0,vp b0 0),(3,vb aa.2.2),(4,vi ab),(5,ah),(6,bh),(16,v0_0),(17,vi p0_0.length),(18,vi ab),(27,v0_2),(28,vi p0_2.length),(29,vi az)] [bc 53 b0 [v0_0,v0_1,v0_2,v0_3,af,ag,v0_6,v0_7,v0_8,v0_9,v0_10,v0_11],rd v0_0 p0_0,rd v0_2 p0_2,own 91 af aa.1,own 102 ag aa.2.1,rd ah a2,own 69 bh av] U w) (fun(av: (List aI)) U w=>∃a0:Value,SH E V [(0,vp b0 0),(3,vb aa.2.2),(4,vi ab),(5,ah),(6,a0),(16,v0_0),(17,vi p0_0.length),(18,vi ab)] [bc 53 b0 [v0_0,v0_1,v0_2,v0_3,af,ag,v0_6,v0_7,v0_8,v0_9,v0_10,v0_11],rd v0_0 p0_0,rd v0_2 p0_2,own 91 af aa.1,own 102 ag aa.2.1,rd ah a2,own 69 a0 av] U w) hN ?_ ?_ ?_ ?_
  ·have j:=j.cP aI 69
   exact⟨(.slice none 0 0),j.sp 8 [3,6,7,4,5,1,0]⟩
  ·rintro hm av _ w ⟨bu,O,rfl,j⟩
   refine RC.sr (ic ((p0_2.length:Int)) ((p0_2.length:Int)) (RL.nq (RC.fu sA (RC.ex ?_))))
   exact⟨rfl,bu,j.sp 7 [0,1,2,3,4,5,6]⟩
  ·rintro hm az av s' _ w hk ⟨bj,O,rfl,j⟩ o
   refine RC.sr (ic ((az:Int)) ((p0_2.length:Int)) (RL.nq (RC.eZ (sw hk) (RC.ss (RC.bs ?_)))))
   obtain⟨bw,bx,o⟩:=bd o
   refine RL.bO 2 j qQ bx fun cq j=>(RL.bJ 0 bw j mj fun cr j=>(RL.alloc j E5.z fun ct w j=>?_))
   refine RL.bZ 0 j 1 zr mj fun w j=>?_
   refine RL.ns (RL.aZ (f:=(fun x=>x)) 0 j zr Fd.self mj fun bz j=>(mv (vi ab) ?_))
   obtain⟨cu,b1,o⟩:=bd o
   refine RL.call zt zr Ki [bz,(vi ab)] zr (aD (oV N (p1:=(ab:Int)) (i0:=0) j zr b1) ?_)
   rintro _ w ⟨rfl,j⟩
   refine RL.nt ?_
   obtain⟨a6,hj,o⟩:=bd o
   refine RC.jn (fun(a6: (List aI)) U w=>∃a3:Value,SH E V [(0,vp b0 0),(3,vb aa.2.2),(4,vi ab),(5,ah),(6,a3),(16,v0_0),(17,vi p0_0.length),(18,vi ab),(27,v0_2),(28,vi p0_2.length),(29,vi az)] [bc 53 b0 [v0_0,v0_1,v0_2,v0_3,af,ag,v0_6,v0_7,v0_8,v0_9,v0_10,v0_11],rd v0_0 p0_0,rd v0_2 p0_2,own 91 af aa.1,own 102 ag aa.2.1,rd ah a2,own 69 a3 a6] U w) a6 ?_ ?_
   ·refine dT hj (fun hc hj=>?_) fun hc hj=>?_
    rotate_left
    ·refine RC.skip ?_
     obtain rfl:=oi hj
     exact⟨rfl,bj,j.sp 11 [4,5,6,7,8,9,10]⟩
    refine RC.region (mv bj (RL.aZ (f:=(fun x=>x)) 1 j zr Fd.self mj fun b3 j=>?_))
    obtain⟨b4,b5,hj⟩:=bd hj
    refine RL.call zt zr Gu [b3] zr (aD (jr N (i0:=0) j zr b5) ?_)
    rintro b6 w j
    refine RL.dN ([b4]: (List aI)) j [b6] jm oR (fun M hs g=>⟨(g.sat 0 _ zr).1,zt⟩) fun cv w j=>?_
    have j:=j.freeze 0
    obtain⟨cw,b7,hj⟩:=bd hj
    refine RL.app 13 0 j Av b7 fun bk w j=>?_
    refine aP bk (RL.nil ?_)
    obtain rfl:=oi hj
    exact⟨rfl,bk,j.sp 14 [7,8,9,10,11,12,13]⟩
   rintro _ w ⟨a3,O,rfl,j⟩
   refine bP (aH (RC.region (RL.inc hk hm (mv (vi ((az+1:Nat):Int)) (RL.nil ?_)))))
   obtain rfl:=oi o
   exact⟨rfl,a3,j.sp 7 [0,1,2,3,4,5,6]⟩
  rintro _ w ⟨a0,O,rfl,j⟩
  refine aH (RC.sr (mv ah ?_))
  obtain⟨cx,b8,o⟩:=bd o
  refine RL.call zt zr HC [ah] zr (aD (mO N (i0:=5) j zr b8) ?_)
  rintro b9 w j
  refine mv a0 ?_
  have j:=j.freeze 7
  obtain⟨cy,ca,o⟩:=bd o
  refine RL.call zt zr HC [a0] zr (aD (mO N (i0:=7) j zr ca) ?_)
  rintro cb w j
  have j:=(j.freeze 1).freeze 0
  obtain⟨cz,cc,o⟩:=bd o
  refine RL.call zt zr MR [b9,cb] zr (aD (xW N (i0:=1) (i1:=0) j zr zr cc) ?_)
  rintro a1 w j
  refine aP a1 (RL.nq ?_)
  obtain⟨an,hj,o⟩:=bd o
  refine RC.jn (fun(an:Bool×(List aA)) U w=>∃ao:Value,SH E V [(0,vp b0 0),(3,vb an.1),(4,vi ab),(9,ao),(16,v0_0),(17,vi p0_0.length),(18,vi ab)] [bc 53 b0 [v0_0,v0_1,v0_2,v0_3,af,ag,v0_6,v0_7,v0_8,v0_9,v0_10,v0_11],rd v0_0 p0_0,rd v0_2 p0_2,own 91 af aa.1,own 102 ag aa.2.1,rd ao an.2] U w) an ?_ ?_
  ·refine RC.region (mv (vb aa.2.2) (mv (vb aa.2.2) (fA hj (fun ai hj=>?_) fun ai hj=>?_)))
   rotate_left
   ·refine bC ai (bC ai (bC ai (fB ai (vb false) (aP (vb false) (RL.nil ?_)))))
    obtain rfl:=oi hj
    have j:=j.freeze 0
    exact⟨rfl,a1,j.sp 10 [3,4,5,6,7,0]⟩
   refine RL.move a1 (cg ai) ?_
   have j:=j.freeze 0
   obtain⟨a7,cd,hj⟩:=bd hj
   refine RL.call (cg ai) zr MS [a1] zr (aD (xX N (i0:=0) j zr cd) ?_)
   rintro _ w ⟨rfl,j⟩
   refine RL.lh a7 2000 (cg ai) (fB ai (vb (decide (a7<=2000))) (aP (vb (decide (a7<=2000))) (RL.nil ?_)))
   obtain rfl:=oi hj
   exact⟨rfl,a1,j.sp 10 [3,4,5,6,7,0]⟩
  rintro _ w ⟨ao,O,rfl,j⟩
  refine aH (RC.sr (mv (vp b0 0) (mv (vp b0 0) (RL.nilCheck zr (RL.aX zr HI (RL.bF 0 af j Ls (mv ao (RL.dN ([an.2]: (List (List aA))) j [ao] HH Kj (fun M hs g=>⟨(g.sat 5 _ zr).1,zt⟩) fun c0 w j=>?_))))))))
  have j:=j.freeze 0
  obtain⟨bl,cf,o⟩:=bd o
  refine RL.app 4 0 j Lt cf fun aq w j=>?_
  refine RL.nilCheck zr (RL.aX zr HI (RL.iB 1 aq j zr zr (iT 4 j) Ls fun w j=>?_))
  refine RL.ns (mv ao ?_)
  obtain⟨ar,ch,o⟩:=bd o
  refine RL.call zt zr MT [ao] zr (aD (w3 N (i0:=6) j zr ch) ?_)
  rintro a8 w j
  refine RL.fL 0 ar j Lp (mv (vi 0) (RL.nt ?_))
  obtain⟨aw,hN,o⟩:=bd o
  refine RC.fold (fun(a4:Nat) (aw: (List aK)) U w=>∃bm:Value,SH E V [(0,vp b0 0),(3,vb an.1),(4,vi ab),(16,v0_0),(17,vi p0_0.length),(18,vi ab),(64,a8),(65,vi ar.length),(66,vi a4)] [bc 53 b0 [v0_0,v0_1,v0_2,v0_3,aq,bm,v0_6,v0_7,v0_8,v0_9,v0_10,v0_11],own 102 bm aw,rd v0_0 p0_0,rd v0_2 p0_2,own 91 aq bl,own 91 a8 ar] U w) (fun(aw: (List aK)) U w=>∃a5:Value,SH E V [(0,vp b0 0),(3,vb an.1),(16,v0_0),(17,vi p0_0.length),(18,vi ab)] [bc 53 b0 [v0_0,v0_1,v0_2,v0_3,aq,a5,v0_6,v0_7,v0_8,v0_9,v0_10,v0_11],own 102 a5 aw,rd v0_0 p0_0,rd v0_2 p0_2,own 91 aq bl,own 91 a8 ar] U w) hN ?_ ?_ ?_ ?_
  ·exact⟨ag,j.sp 8 [2,6,3,4,5,0]⟩
  ·rintro hm aw _ w ⟨cj,O,rfl,j⟩
   refine RC.sr (ic ((ar.length:Int)) ((ar.length:Int)) (RL.nq (RC.fu sA (RC.ex ?_))))
   exact⟨rfl,cj,j.sp 6 [0,1,2,3,4,5]⟩
  ·rintro hm a4 aw s' _ w hk ⟨a9,O,rfl,j⟩ o
   refine RC.sr (ic ((a4:Int)) ((ar.length:Int)) (RL.nq (RC.eZ (sw hk) (RC.ss (RC.bs ?_)))))
   obtain⟨bn,ba,o⟩:=bd o
   refine RL.bT 5 j zr zr HH ba (RL.jM (f:=(fun x=>x)) 5 j (jz 5 j ba 0) (bH ba).2.1 Fd.self Lq fun ax j=>?_)
   refine aP ax (RL.nt ?_)
   have j:=j.drew
   refine RC.E2 (fun w=>Holds E w ([bc 53 b0 [v0_0,v0_1,v0_2,v0_3,aq,a9,v0_6,v0_7,v0_8,v0_9,v0_10,v0_11]]++V)) mixed zr [1,1,1,1,1,1,1,0,2,0,2,2,0,0,2] [0,1,2,3,4,5,6,7,8,9,10,11,12,13,14] (j.pk 7 [1]) (DP.e1 (vp b0 0) zr (fun w=>RL.move (vp b0 0) zt DP.d1) (DP.e1 (vp b0 0) zr (fun w=>RL.move (vp b0 0) zt DP.d1) (DP.e1 (vp b0 0) zr (fun w=>RL.nilCheck zr DP.d1) (DP.e1 (vp b0 5) zr (fun w=>RL.aX zr yI DP.d1) (DP.IX a9 zr (fun w j=>RL.bF 0 a9 j Gw DP.d1) (DP.e1 (vi ab) zr (fun w=>RL.move (vi ab) zt DP.d1) (DP.e1 ax zr (fun w=>RL.move ax zt DP.d1) (DP.e0 zr ?_))))))))
   refine mv ax (oZ zr ?_)
   obtain⟨bo,ck,o⟩:=bd o
   refine RL.call zt zr Kf [ax] zr (aD (n9 N (i0:=0) j zr ck) ?_)
   rintro cl w j
   refine DP.d2 (j.pk 8 [2]) (DP.e0 zr ?_)
   have j:=(j.sc Int (ab:Int)).freeze 1
   refine RL.build (⟨(ab:Int),bn,bo⟩:aK) trivial rfl j [(0,vi ab),(1,ax),(2,cl)] rfl Lu rfl (fun M hs g=>by have h:=Au M;exact cT.cons (f:=fun(x:aK) y=>{x with cU:=y}) h xH (g.sat 0 _ rfl).1 fun _ h=>cT.cons (f:=fun(x:aK) y=>{x with Set:=y}) h xI (g.sat 2 _ rfl).1 fun _ h=>cT.cons (f:=fun(x:aK) y=>{x with iQ:=y}) h xJ (g.sat 1 _ rfl).1 fun _ h=>cT.nil h) fun cm j=>?_
   refine oZ zr (RL.dN ([(⟨(ab:Int),bn,bo⟩:aK)]: (List aK)) j [cm] Km HK (fun M hs g=>⟨(g.sat 0 _ zr).1,zt⟩) fun c1 w j=>(DP.d2 (j.pk 11 [5]) (DP.e2 zr ?_)))
   have j:=j.freeze 0
   obtain⟨c2,cn,o⟩:=bd o
   refine RL.app 6 0 j MU cn fun bp w j=>?_
   refine DP.d2 (j.pk 11 [5]) (DP.e0 zr (RL.nilCheck zr (aW zr (RL.aX zr yI (DP.d0 (DP.Mi zr zr (RL.iB 5 bp j zr zr (iT 6 j) Gw fun w j=>?_)))))))
   refine DP.d2 zt (DP.z (bP (aH (RC.region (RL.inc hk hm (mv (vi ((a4+1:Nat):Int)) (RL.nil ?_)))))))
   obtain rfl:=oi o
   exact⟨rfl,bp,j.sp 11 [5,6,7,8,9,10]⟩
  rintro _ w ⟨a5,O,rfl,j⟩
  refine bP (aH (RC.region (RL.inc hk hm (mv (vi ((ab+1:Nat):Int)) (RL.nil ?_)))))
  obtain rfl:=oi o
  exact⟨rfl,aq,a5,j.sp 6 [0,4,1,2,3]⟩
 rintro _ w ⟨au,al,O,rfl,j⟩
 refine aH (RC.seq ?_)
 obtain⟨bb,hj,o⟩:=bd o
 refine RC.jn (fun(bb:Bool)=>SH E V [(0,vp b0 0),(2,vb bb)] [bc 53 b0 [v0_0,v0_1,v0_2,v0_3,au,al,v0_6,v0_7,v0_8,v0_9,v0_10,v0_11],rd v0_0 p0_0,rd v0_2 p0_2,own 91 au aa.1,own 102 al aa.2.1]) bb ?_ ?_
 ·refine RC.region (mv (vb aa.2.2) (mv (vb aa.2.2) (fA hj (fun ae hj=>?_) fun ae hj=>?_)))
  ·refine RL.move (vp b0 0) (cg ae) (RL.nilCheck (hg:=(cg ae)) zr (RL.aX (hg:=(cg ae)) zr yI (RL.bF (hg:=(cg ae)) 0 al j Gw (RL.fL (hg:=(cg ae)) 2 aa.2.1 j I2 (RL.lh (aa.2.1.length:Int) 2000 (cg ae) (fB ae (vb (decide ((aa.2.1.length:Int)<=2000))) (aP (vb (decide ((aa.2.1.length:Int)<=2000))) (RL.nil ?_))))))))
   obtain rfl:=oi hj
   exact⟨rfl,j.sp 5 [0,3,4,1,2]⟩
  refine bC ae (bC ae (bC ae (bC ae (bC ae (bC ae (fB ae (vb false) (aP (vb false) (RL.nil ?_))))))))
  obtain rfl:=oi hj
  exact⟨rfl,j.sp 5 [0,3,4,1,2]⟩
 rintro _ w ⟨O,rfl,j⟩
 refine aH (RC.ret ?_)
 obtain rfl:=oi o
 exact bY ⟨au,al,zr,j.pk 5 [0,3,4]⟩
end Go.Gk
namespace Go.Gk
open Go Go.Proofs
variable (N:Nat) {E w:World} {b0 i0 i1:Nat} {p0 p1 p2 res:Int} {v0 v0_0 v0_1 v0_10 v0_11 v0_2 v0_3 v0_4 v0_5 v0_6 v0_7 v0_8 v0_9 v1:Value} {V:List HP}
theorem yQ {p0 p1:aI} {res:Bool} (j:Holds E w V) (h0:V[i0]? =some (rd v0 p0)) (h1:V[i1]? =some (rd v1 p1)) (hb:r5 N p0 p1=some res):
    Calls bN 57 [v0,v1].toArray w (gJ (aU E V res)):=by
 unfold r5 at hb
 refine enter Tryz.func57 zr zr ?_
 have j:=(j.dup (i0+0) h0).dup (i1+1) h1
 refine RC.sr (RL.dD 1 v0 j zr fun o w j=>?_)
 refine RL.dD 1 v1 j zr fun aa w j=>?_
 refine aP (vb false) (RL.ns (RL.aX zr iw (RL.aM 1 j zr dQ cL (RL.aX zr jo (RL.aM 0 j zr eJ cL (ic p0.X0 p1.X1 (mv (vb (decide (p0.X0<p1.X1))) (RL.gs true (decide (p0.X0<p1.X1)) (vp aa 0) zr zr zr (eB iw) ?_))))))))
 refine RL.gs true (decide (p0.X0<p1.X1)) (vi p1.X0) rfl rfl rfl (cC 0 rfl j (fun h=>by exact(cM h:cv (true&&((decide (p0.X0<p1.X1))==true)) (vp aa 0)= (vp aa 0))) rfl dQ cL) (RL.gs true (decide (p0.X0<p1.X1)) (vp o 2) rfl rfl rfl (eB jo) (RL.gs true (decide (p0.X0<p1.X1)) (vi p0.X1) rfl rfl rfl (cC 1 rfl j (fun h=>by exact(cM h:cv (true&&((decide (p0.X0<p1.X1))==true)) (vp o 2)= (vp o 2))) rfl eJ cL) (RL.gs true (decide (p0.X0<p1.X1)) (vb (decide (p1.X0<p0.X1))) rfl rfl rfl (dK .lss .i64 p1.X0 p0.X1 rfl (fun h=>by exact(cM h:cv (true&&((decide (p0.X0<p1.X1))==true)) (vi p1.X0)= (vi p1.X0))) (fun h=>by exact(cM h:cv (true&&((decide (p0.X0<p1.X1))==true)) (vi p0.X1)= (vi p0.X1))) rfl) (RL.pick (decide (p0.X0<p1.X1)) (vb ((decide (p0.X0<p1.X1))&&(decide (p1.X0<p0.X1)))) (gr true rfl) (aP (vb ((decide (p0.X0<p1.X1))&&(decide (p1.X0<p0.X1)))) (RL.ns (RL.aX rfl g8 (RL.aM 1 j rfl dH cL ?_))))))))
 refine RL.aX rfl kA (RL.aM 0 j rfl fJ cL (ic p0.Y0 p1.Y1 (mv (vb (decide (p0.Y0<p1.Y1))) (RL.gs true (decide (p0.Y0<p1.Y1)) (vp aa 1) rfl rfl rfl (eB g8) (RL.gs true (decide (p0.Y0<p1.Y1)) (vi p1.Y0) rfl rfl rfl (cC 0 rfl j (fun h=>by exact(cM h:cv (true&&((decide (p0.Y0<p1.Y1))==true)) (vp aa 1)= (vp aa 1))) rfl dH cL) (RL.gs true (decide (p0.Y0<p1.Y1)) (vp o 3) rfl rfl rfl (eB kA) (RL.gs true (decide (p0.Y0<p1.Y1)) (vi p0.Y1) rfl rfl rfl (cC 1 rfl j (fun h=>by exact(cM h:cv (true&&((decide (p0.Y0<p1.Y1))==true)) (vp o 3)= (vp o 3))) rfl fJ cL) (RL.gs true (decide (p0.Y0<p1.Y1)) (vb (decide (p1.Y0<p0.Y1))) rfl rfl rfl (dK .lss .i64 p1.Y0 p0.Y1 rfl (fun h=>by exact(cM h:cv (true&&((decide (p0.Y0<p1.Y1))==true)) (vi p1.Y0)= (vi p1.Y0))) (fun h=>by exact(cM h:cv (true&&((decide (p0.Y0<p1.Y1))==true)) (vi p0.Y1)= (vi p0.Y1))) rfl) ?_))))))))
 refine RL.pick (decide (p0.Y0<p1.Y1)) (vb ((decide (p0.Y0<p1.Y1))&&(decide (p1.Y0<p0.Y1)))) (gr true rfl) (aP (vb ((decide (p0.Y0<p1.Y1))&&(decide (p1.Y0<p0.Y1)))) (RL.ns (mv (vb ((decide (p0.X0<p1.X1))&&(decide (p1.X0<p0.X1)))) (mv (vb ((decide (p0.X0<p1.X1))&&(decide (p1.X0<p0.X1)))) (RL.gs true ((decide (p0.X0<p1.X1))&&(decide (p1.X0<p0.X1))) (vp o 3) rfl rfl rfl (eB kA) (RL.gs true ((decide (p0.X0<p1.X1))&&(decide (p1.X0<p0.X1))) (vi p0.Y1) rfl rfl rfl (cC 1 rfl j (fun h=>by exact(cM h:cv (true&&(((decide (p0.X0<p1.X1))&&(decide (p1.X0<p0.X1)))==true)) (vp o 3)= (vp o 3))) rfl fJ cL) (RL.gs true ((decide (p0.X0<p1.X1))&&(decide (p1.X0<p0.X1))) (vp aa 1) rfl rfl rfl (eB g8) (RL.gs true ((decide (p0.X0<p1.X1))&&(decide (p1.X0<p0.X1))) (vi p1.Y0) rfl rfl rfl (cC 0 rfl j (fun h=>by exact(cM h:cv (true&&(((decide (p0.X0<p1.X1))&&(decide (p1.X0<p0.X1)))==true)) (vp aa 1)= (vp aa 1))) rfl dH cL) ?_))))))))
 refine RL.gs true ((decide (p0.X0<p1.X1))&&(decide (p1.X0<p0.X1))) (vb (p0.Y1==p1.Y0)) rfl rfl rfl (dK .eql .i64 p0.Y1 p1.Y0 rfl (fun h=>by exact(cM h:cv (true&&(((decide (p0.X0<p1.X1))&&(decide (p1.X0<p0.X1)))==true)) (vi p0.Y1)= (vi p0.Y1))) (fun h=>by exact(cM h:cv (true&&(((decide (p0.X0<p1.X1))&&(decide (p1.X0<p0.X1)))==true)) (vi p1.Y0)= (vi p1.Y0))) rfl) (RL.gs true ((decide (p0.X0<p1.X1))&&(decide (p1.X0<p0.X1))) (vb (p0.Y1==p1.Y0)) rfl rfl rfl (cH (hx:=fun h=>by exact(cM h:cv (true&&(((decide (p0.X0<p1.X1))&&(decide (p1.X0<p0.X1)))==true)) (vb (p0.Y1==p1.Y0))= (vb (p0.Y1==p1.Y0))))) (RL.gs (true&&(((decide (p0.X0<p1.X1))&&(decide (p1.X0<p0.X1)))==true)) (p0.Y1==p1.Y0) (vp aa 3) rfl rfl rfl (eB kA) (RL.gs (true&&(((decide (p0.X0<p1.X1))&&(decide (p1.X0<p0.X1)))==true)) (p0.Y1==p1.Y0) (vi p1.Y1) rfl rfl rfl (cC 0 rfl j (fun h=>by exact(cM h:cv ((true&&(((decide (p0.X0<p1.X1))&&(decide (p1.X0<p0.X1)))==true))&&((p0.Y1==p1.Y0)==false)) (vp aa 3)= (vp aa 3))) rfl fJ cL) (RL.gs (true&&(((decide (p0.X0<p1.X1))&&(decide (p1.X0<p0.X1)))==true)) (p0.Y1==p1.Y0) (vp o 1) rfl rfl rfl (eB g8) (RL.gs (true&&(((decide (p0.X0<p1.X1))&&(decide (p1.X0<p0.X1)))==true)) (p0.Y1==p1.Y0) (vi p0.Y0) rfl rfl rfl (cC 1 rfl j (fun h=>by exact(cM h:cv ((true&&(((decide (p0.X0<p1.X1))&&(decide (p1.X0<p0.X1)))==true))&&((p0.Y1==p1.Y0)==false)) (vp o 1)= (vp o 1))) rfl dH cL) (RL.gs (true&&(((decide (p0.X0<p1.X1))&&(decide (p1.X0<p0.X1)))==true)) (p0.Y1==p1.Y0) (vb (p1.Y1==p0.Y0)) rfl rfl rfl (dK .eql .i64 p1.Y1 p0.Y0 rfl (fun h=>by exact(cM h:cv ((true&&(((decide (p0.X0<p1.X1))&&(decide (p1.X0<p0.X1)))==true))&&((p0.Y1==p1.Y0)==false)) (vi p1.Y1)= (vi p1.Y1))) (fun h=>by exact(cM h:cv ((true&&(((decide (p0.X0<p1.X1))&&(decide (p1.X0<p0.X1)))==true))&&((p0.Y1==p1.Y0)==false)) (vi p0.Y0)= (vi p0.Y0))) rfl) (RL.gs true ((decide (p0.X0<p1.X1))&&(decide (p1.X0<p0.X1))) (vb ((p0.Y1==p1.Y0)||(p1.Y1==p0.Y0))) rfl rfl rfl (kI (p0.Y1==p1.Y0) rfl (fun h=>by exact(cM h:cv (true&&(((decide (p0.X0<p1.X1))&&(decide (p1.X0<p0.X1)))==true)) (vb (p0.Y1==p1.Y0))= (vb (p0.Y1==p1.Y0)))) (fun h=>by exact oh (h:=h) (true&&(((decide (p0.X0<p1.X1))&&(decide (p1.X0<p0.X1)))==true)))) (RL.pick ((decide (p0.X0<p1.X1))&&(decide (p1.X0<p0.X1))) (vb (((decide (p0.X0<p1.X1))&&(decide (p1.X0<p0.X1)))&&((p0.Y1==p1.Y0)||(p1.Y1==p0.Y0)))) (gr true rfl) ?_))))))))
 refine mv (vb (((decide (p0.X0<p1.X1))&&(decide (p1.X0<p0.X1)))&&((p0.Y1==p1.Y0)||(p1.Y1==p0.Y0)))) (RL.gs true (((decide (p0.X0<p1.X1))&&(decide (p1.X0<p0.X1)))&&((p0.Y1==p1.Y0)||(p1.Y1==p0.Y0))) (vb ((decide (p0.Y0<p1.Y1))&&(decide (p1.Y0<p0.Y1)))) rfl rfl rfl cH (RL.gs true (((decide (p0.X0<p1.X1))&&(decide (p1.X0<p0.X1)))&&((p0.Y1==p1.Y0)||(p1.Y1==p0.Y0))) (vb ((decide (p0.Y0<p1.Y1))&&(decide (p1.Y0<p0.Y1)))) rfl rfl rfl (cH (hx:=fun h=>by exact(cM h:cv (true&&((((decide (p0.X0<p1.X1))&&(decide (p1.X0<p0.X1)))&&((p0.Y1==p1.Y0)||(p1.Y1==p0.Y0)))==false)) (vb ((decide (p0.Y0<p1.Y1))&&(decide (p1.Y0<p0.Y1))))= (vb ((decide (p0.Y0<p1.Y1))&&(decide (p1.Y0<p0.Y1))))))) (RL.gs (true&&((((decide (p0.X0<p1.X1))&&(decide (p1.X0<p0.X1)))&&((p0.Y1==p1.Y0)||(p1.Y1==p0.Y0)))==false)) ((decide (p0.Y0<p1.Y1))&&(decide (p1.Y0<p0.Y1))) (vp o 2) rfl rfl rfl (eB jo) (RL.gs (true&&((((decide (p0.X0<p1.X1))&&(decide (p1.X0<p0.X1)))&&((p0.Y1==p1.Y0)||(p1.Y1==p0.Y0)))==false)) ((decide (p0.Y0<p1.Y1))&&(decide (p1.Y0<p0.Y1))) (vi p0.X1) rfl rfl rfl (cC 1 rfl j (fun h=>by exact(cM h:cv ((true&&((((decide (p0.X0<p1.X1))&&(decide (p1.X0<p0.X1)))&&((p0.Y1==p1.Y0)||(p1.Y1==p0.Y0)))==false))&&(((decide (p0.Y0<p1.Y1))&&(decide (p1.Y0<p0.Y1)))==true)) (vp o 2)= (vp o 2))) rfl eJ cL) (RL.gs (true&&((((decide (p0.X0<p1.X1))&&(decide (p1.X0<p0.X1)))&&((p0.Y1==p1.Y0)||(p1.Y1==p0.Y0)))==false)) ((decide (p0.Y0<p1.Y1))&&(decide (p1.Y0<p0.Y1))) (vp aa 0) rfl rfl rfl (eB iw) (RL.gs (true&&((((decide (p0.X0<p1.X1))&&(decide (p1.X0<p0.X1)))&&((p0.Y1==p1.Y0)||(p1.Y1==p0.Y0)))==false)) ((decide (p0.Y0<p1.Y1))&&(decide (p1.Y0<p0.Y1))) (vi p1.X0) rfl rfl rfl (cC 0 rfl j (fun h=>by exact(cM h:cv ((true&&((((decide (p0.X0<p1.X1))&&(decide (p1.X0<p0.X1)))&&((p0.Y1==p1.Y0)||(p1.Y1==p0.Y0)))==false))&&(((decide (p0.Y0<p1.Y1))&&(decide (p1.Y0<p0.Y1)))==true)) (vp aa 0)= (vp aa 0))) rfl dQ cL) (RL.gs (true&&((((decide (p0.X0<p1.X1))&&(decide (p1.X0<p0.X1)))&&((p0.Y1==p1.Y0)||(p1.Y1==p0.Y0)))==false)) ((decide (p0.Y0<p1.Y1))&&(decide (p1.Y0<p0.Y1))) (vb (p0.X1==p1.X0)) rfl rfl rfl (dK .eql .i64 p0.X1 p1.X0 rfl (fun h=>by exact(cM h:cv ((true&&((((decide (p0.X0<p1.X1))&&(decide (p1.X0<p0.X1)))&&((p0.Y1==p1.Y0)||(p1.Y1==p0.Y0)))==false))&&(((decide (p0.Y0<p1.Y1))&&(decide (p1.Y0<p0.Y1)))==true)) (vi p0.X1)= (vi p0.X1))) (fun h=>by exact(cM h:cv ((true&&((((decide (p0.X0<p1.X1))&&(decide (p1.X0<p0.X1)))&&((p0.Y1==p1.Y0)||(p1.Y1==p0.Y0)))==false))&&(((decide (p0.Y0<p1.Y1))&&(decide (p1.Y0<p0.Y1)))==true)) (vi p1.X0)= (vi p1.X0))) rfl) (RL.gs (true&&((((decide (p0.X0<p1.X1))&&(decide (p1.X0<p0.X1)))&&((p0.Y1==p1.Y0)||(p1.Y1==p0.Y0)))==false)) ((decide (p0.Y0<p1.Y1))&&(decide (p1.Y0<p0.Y1))) (vb (p0.X1==p1.X0)) rfl rfl rfl (cH (hx:=fun h=>by exact(cM h:cv ((true&&((((decide (p0.X0<p1.X1))&&(decide (p1.X0<p0.X1)))&&((p0.Y1==p1.Y0)||(p1.Y1==p0.Y0)))==false))&&(((decide (p0.Y0<p1.Y1))&&(decide (p1.Y0<p0.Y1)))==true)) (vb (p0.X1==p1.X0))= (vb (p0.X1==p1.X0))))) ?_))))))))
 refine RL.gs ((true&&((((decide (p0.X0<p1.X1))&&(decide (p1.X0<p0.X1)))&&((p0.Y1==p1.Y0)||(p1.Y1==p0.Y0)))==false))&&(((decide (p0.Y0<p1.Y1))&&(decide (p1.Y0<p0.Y1)))==true)) (p0.X1==p1.X0) (vp aa 2) rfl rfl rfl (eB jo) (RL.gs ((true&&((((decide (p0.X0<p1.X1))&&(decide (p1.X0<p0.X1)))&&((p0.Y1==p1.Y0)||(p1.Y1==p0.Y0)))==false))&&(((decide (p0.Y0<p1.Y1))&&(decide (p1.Y0<p0.Y1)))==true)) (p0.X1==p1.X0) (vi p1.X1) rfl rfl rfl (cC 0 rfl j (fun h=>by exact(cM h:cv (((true&&((((decide (p0.X0<p1.X1))&&(decide (p1.X0<p0.X1)))&&((p0.Y1==p1.Y0)||(p1.Y1==p0.Y0)))==false))&&(((decide (p0.Y0<p1.Y1))&&(decide (p1.Y0<p0.Y1)))==true))&&((p0.X1==p1.X0)==false)) (vp aa 2)= (vp aa 2))) rfl eJ cL) (RL.gs ((true&&((((decide (p0.X0<p1.X1))&&(decide (p1.X0<p0.X1)))&&((p0.Y1==p1.Y0)||(p1.Y1==p0.Y0)))==false))&&(((decide (p0.Y0<p1.Y1))&&(decide (p1.Y0<p0.Y1)))==true)) (p0.X1==p1.X0) (vp o 0) rfl rfl rfl (eB iw) (RL.gs ((true&&((((decide (p0.X0<p1.X1))&&(decide (p1.X0<p0.X1)))&&((p0.Y1==p1.Y0)||(p1.Y1==p0.Y0)))==false))&&(((decide (p0.Y0<p1.Y1))&&(decide (p1.Y0<p0.Y1)))==true)) (p0.X1==p1.X0) (vi p0.X0) rfl rfl rfl (cC 1 rfl j (fun h=>by exact(cM h:cv (((true&&((((decide (p0.X0<p1.X1))&&(decide (p1.X0<p0.X1)))&&((p0.Y1==p1.Y0)||(p1.Y1==p0.Y0)))==false))&&(((decide (p0.Y0<p1.Y1))&&(decide (p1.Y0<p0.Y1)))==true))&&((p0.X1==p1.X0)==false)) (vp o 0)= (vp o 0))) rfl dQ cL) (RL.gs ((true&&((((decide (p0.X0<p1.X1))&&(decide (p1.X0<p0.X1)))&&((p0.Y1==p1.Y0)||(p1.Y1==p0.Y0)))==false))&&(((decide (p0.Y0<p1.Y1))&&(decide (p1.Y0<p0.Y1)))==true)) (p0.X1==p1.X0) (vb (p1.X1==p0.X0)) rfl rfl rfl (dK .eql .i64 p1.X1 p0.X0 rfl (fun h=>by exact(cM h:cv (((true&&((((decide (p0.X0<p1.X1))&&(decide (p1.X0<p0.X1)))&&((p0.Y1==p1.Y0)||(p1.Y1==p0.Y0)))==false))&&(((decide (p0.Y0<p1.Y1))&&(decide (p1.Y0<p0.Y1)))==true))&&((p0.X1==p1.X0)==false)) (vi p1.X1)= (vi p1.X1))) (fun h=>by exact(cM h:cv (((true&&((((decide (p0.X0<p1.X1))&&(decide (p1.X0<p0.X1)))&&((p0.Y1==p1.Y0)||(p1.Y1==p0.Y0)))==false))&&(((decide (p0.Y0<p1.Y1))&&(decide (p1.Y0<p0.Y1)))==true))&&((p0.X1==p1.X0)==false)) (vi p0.X0)= (vi p0.X0))) rfl) (RL.gs (true&&((((decide (p0.X0<p1.X1))&&(decide (p1.X0<p0.X1)))&&((p0.Y1==p1.Y0)||(p1.Y1==p0.Y0)))==false)) ((decide (p0.Y0<p1.Y1))&&(decide (p1.Y0<p0.Y1))) (vb ((p0.X1==p1.X0)||(p1.X1==p0.X0))) rfl rfl rfl (kI (p0.X1==p1.X0) rfl (fun h=>by exact(cM h:cv ((true&&((((decide (p0.X0<p1.X1))&&(decide (p1.X0<p0.X1)))&&((p0.Y1==p1.Y0)||(p1.Y1==p0.Y0)))==false))&&(((decide (p0.Y0<p1.Y1))&&(decide (p1.Y0<p0.Y1)))==true)) (vb (p0.X1==p1.X0))= (vb (p0.X1==p1.X0)))) (fun h=>by exact oh (h:=h) ((true&&((((decide (p0.X0<p1.X1))&&(decide (p1.X0<p0.X1)))&&((p0.Y1==p1.Y0)||(p1.Y1==p0.Y0)))==false))&&(((decide (p0.Y0<p1.Y1))&&(decide (p1.Y0<p0.Y1)))==true)))) (RL.gs true (((decide (p0.X0<p1.X1))&&(decide (p1.X0<p0.X1)))&&((p0.Y1==p1.Y0)||(p1.Y1==p0.Y0))) (vb (((decide (p0.Y0<p1.Y1))&&(decide (p1.Y0<p0.Y1)))&&((p0.X1==p1.X0)||(p1.X1==p0.X0)))) rfl rfl rfl (kI ((decide (p0.Y0<p1.Y1))&&(decide (p1.Y0<p0.Y1))) rfl (fun h=>by exact(cM h:cv (true&&((((decide (p0.X0<p1.X1))&&(decide (p1.X0<p0.X1)))&&((p0.Y1==p1.Y0)||(p1.Y1==p0.Y0)))==false)) (vb ((decide (p0.Y0<p1.Y1))&&(decide (p1.Y0<p0.Y1))))= (vb ((decide (p0.Y0<p1.Y1))&&(decide (p1.Y0<p0.Y1)))))) (fun h=>by exact gr (true&&((((decide (p0.X0<p1.X1))&&(decide (p1.X0<p0.X1)))&&((p0.Y1==p1.Y0)||(p1.Y1==p0.Y0)))==false)) h)) (RL.pick (((decide (p0.X0<p1.X1))&&(decide (p1.X0<p0.X1)))&&((p0.Y1==p1.Y0)||(p1.Y1==p0.Y0))) (vb ((((decide (p0.X0<p1.X1))&&(decide (p1.X0<p0.X1)))&&((p0.Y1==p1.Y0)||(p1.Y1==p0.Y0)))||(((decide (p0.Y0<p1.Y1))&&(decide (p1.Y0<p0.Y1)))&&((p0.X1==p1.X0)||(p1.X1==p0.X0))))) (oh true) (aP (vb ((((decide (p0.X0<p1.X1))&&(decide (p1.X0<p0.X1)))&&((p0.Y1==p1.Y0)||(p1.Y1==p0.Y0)))||(((decide (p0.Y0<p1.Y1))&&(decide (p1.Y0<p0.Y1)))&&((p0.X1==p1.X0)||(p1.X1==p0.X0))))) ?_))))))))
 refine RL.nt (RC.ret ?_)
 obtain rfl:=oi hb
 exact bY ⟨rfl,j.drop 4⟩
theorem si {p0:aI} {p1:cA} {res:Bool} (j:Holds E w V) (h0:V[i0]? =some (rd v0 p0)) (h1:V[i1]? =some (pt v1 p1)) (o:kr N p0 p1=some res):
    Calls bN 56 [v0,v1].toArray w (gJ (aU E V res)):=by
 unfold kr at o
 refine enter Tryz.func56 zr zr ?_
 have j:=(j.dup (i0+0) h0).Cx (i:=i1+1) h1
 refine RC.sr (RL.dD 1 v0 j zr fun ah w j=>?_)
 have j:=j.l6 (i:=0) rfl
 refine aP (vb false) (RL.nq (RC.vV mixed [1,0,2,2,0] [0,1,2,3,4] ?_))
 have j:=j.drew
 refine DP.zT p0 0 zr zt j iK fun aa a33 ai j=>(DP.e0 zr (RL.bJ 3 p1 j mj fun ab j=>(oZ zr ?_)))
 obtain⟨aj,ad,o⟩:=bd o
 refine RL.call zt zr Gu [ab] zr (aD (jr N (i0:=0) j zr ad) ?_)
 rintro ae w j
 refine DP.d2 (⟨zt,j.iv 2⟩) (DP.e2 zr ?_)
 obtain⟨af,ag,o⟩:=bd o
 refine RL.call zt zr MW [aa,ae] zr (aD (yQ N (i0:=3) (i1:=0) j zr zr ag) ?_)
 rintro _ w ⟨rfl,j⟩
 refine DP.d2 (⟨zt,j.iv 2⟩) (DP.e0 zr (aP (vb af) (DP.d0 ?_)))
 have j:=j.pl 7 [0,1,3,4,5,6]
 refine DP.z (aH (RC.ret ?_))
 obtain rfl:=oi o
 exact bY ⟨rfl,j.drop 6⟩
theorem mw {p0: (List aI)} {p1:aI->Option Bool} {res:Bool} (j:Holds E w V) (h0:V[i0]? =some (rd v0 p0)) (h1:Iy bN E V v1 p1 (fun(r:Bool)=>Value.bool r)) (o:gX N p0 p1=some res):
    Calls bN 55 [v0,v1].toArray w (gJ (aU E V res)):=by
 unfold gX at o
 refine enter Tryz.func55 zr zr ?_
 have j:=j.dup (i0+0) h0
 refine RC.sr (aP (vb false) (RL.ns (mv v0 (mv v1 ?_))))
 obtain⟨aa,ab,o⟩:=bd o
 refine RL.call zt zr K5 [v0,v1] zr (aD (sf N (i0:=0) j zr (h1.lift 1 zr) ab) ?_)
 rintro _ w ⟨rfl,j⟩
 refine ic aa 0 (aP (vb (decide (aa>=0))) (RL.nt (RC.ret ?_)))
 obtain rfl:=oi o
 exact bY ⟨rfl,j.drop 1⟩
def ve (E:World) (V:List HP) (b0:Nat) (v0_0 v0_1:Value) (v0_2 v0_3:Value) (v0_4 v0_5:Value) (v0_7 v0_8:Value) (v0_9 v0_10 v0_11:Value) (res: (List (List Int))) (v:Value) (w:World):Prop:=∃u0_6:Value,v = .tuple #[]/\Holds E w ([bc 53 b0 [v0_0,v0_1,v0_2,v0_3,v0_4,v0_5,u0_6,v0_7,v0_8,v0_9,v0_10,v0_11],own 36 u0_6 res]++V)
theorem uD {p0_2: (List cA)} {p0_5: (List aK)} {p0_6: (List (List Int))} {res: (List (List Int))} (j:Holds E w (bc 53 b0 [v0_0,v0_1,v0_2,v0_3,v0_4,v0_5,v0_6,v0_7,v0_8,v0_9,v0_10,v0_11]::rd v0_2 p0_2::rd v0_5 p0_5::own 36 v0_6 p0_6::V)) (hb:kh N p0_2 p0_5 p0_6=some res):
    Calls bN 27 [(vp b0 0)].toArray w (gJ (ve E V b0 v0_0 v0_1 v0_2 v0_3 v0_4 v0_5 v0_7 v0_8 v0_9 v0_10 v0_11 res)):=by
 unfold kh at hb
 refine enter Tryz.func27 zr zr (RC.sr (mv (vp b0 0) (RL.nilCheck zr (RL.aX zr tH (RL.aX zr iz (RL.bF 0 v0_2 j n7 (RL.bB 1 p0_2 j wO (mv (vi 0) ?_))))))))
 refine RL.nt ?_
 obtain⟨af,hN,hb⟩:=bd hb
 refine RC.fold (fun(ai:Nat) (af: (List (List Int))) U w=>∃az:Value,SH E V [(0,vp b0 0),(11,v0_2),(12,vi p0_2.length),(13,vi ai)] [bc 53 b0 [v0_0,v0_1,v0_2,v0_3,v0_4,v0_5,az,v0_7,v0_8,v0_9,v0_10,v0_11],own 36 az af,rd v0_2 p0_2,rd v0_5 p0_5] U w) (fun(af: (List (List Int))) U w=>∃aq:Value,SH E V [(0,vp b0 0)] [bc 53 b0 [v0_0,v0_1,v0_2,v0_3,v0_4,v0_5,aq,v0_7,v0_8,v0_9,v0_10,v0_11],own 36 aq af,rd v0_2 p0_2,rd v0_5 p0_5] U w) hN ?_ ?_ ?_ ?_
 ·exact⟨v0_6,j.sp 4 [0,3,1,2]⟩
 ·rintro hm af _ w ⟨a4,O,rfl,j⟩
  refine RC.sr (ic ((p0_2.length:Int)) ((p0_2.length:Int)) (RL.nq (RC.fu sA (RC.ex ?_))))
  exact⟨rfl,a4,j.sp 4 [0,1,2,3]⟩
 ·rintro hm ai af s' _ w hk ⟨ah,O,rfl,j⟩ hb
  refine RC.sr (ic ((ai:Int)) ((p0_2.length:Int)) (RL.nq (RC.eZ (sw hk) (RC.ss (RC.bs ?_)))))
  obtain⟨aj,a5,hb⟩:=bd hb
  refine RL.bO 2 j qQ a5 fun bk j=>(RL.bJ 0 aj j mj fun bl j=>(RL.alloc j E5.z fun ag w j=>?_))
  refine RL.bZ 0 j 1 zr mj fun w j=>?_
  refine RL.ns (aP (.slice none 0 0) (RL.nq (RC.sr (mv (vp b0 0) (RL.nilCheck zr (RL.aX zr yI (RL.bF 3 v0_5 j Gw (RL.bB 6 p0_5 j I2 ?_))))))))
  refine mv (vi 0) (RL.nt ?_)
  have j:=j.l6 (i:=0) rfl
  obtain⟨ak,hN,hb⟩:=bd hb
  refine RC.fold (fun(ab:Nat) (ak: (List Int)) U w=>∃a0:Value,SH E V [(0,vp b0 0),(3,vp ag 0),(4,a0),(11,v0_2),(12,vi p0_2.length),(13,vi ai),(20,v0_5),(21,vi p0_5.length),(22,vi ab)] [bc 53 b0 [v0_0,v0_1,v0_2,v0_3,v0_4,v0_5,ah,v0_7,v0_8,v0_9,v0_10,v0_11],rd v0_2 p0_2,rd v0_5 p0_5,own 36 ah af,pt (vp ag 0) aj,own 3 a0 ak] U w) (fun(ak: (List Int)) U w=>∃ao:Value,SH E V [(0,vp b0 0),(4,ao),(11,v0_2),(12,vi p0_2.length),(13,vi ai)] [bc 53 b0 [v0_0,v0_1,v0_2,v0_3,v0_4,v0_5,ah,v0_7,v0_8,v0_9,v0_10,v0_11],rd v0_2 p0_2,rd v0_5 p0_5,own 36 ah af,pt (vp ag 0) aj,own 3 ao ak] U w) hN ?_ ?_ ?_ ?_
  ·have j:=j.cP Int 3
   exact⟨(.slice none 0 0),j.sp 8 [4,6,7,5,1,0]⟩
  ·rintro hm ak _ w ⟨a6,O,rfl,j⟩
   refine RC.sr (ic ((p0_5.length:Int)) ((p0_5.length:Int)) (RL.nq (RC.fu sA (RC.ex ?_))))
   exact⟨rfl,a6,j.sp 6 [0,1,2,3,4,5]⟩
  ·rintro hm ab ak s' _ w hk ⟨ar,O,rfl,j⟩ hb
   refine RC.sr (ic ((ab:Int)) ((p0_5.length:Int)) (RL.nq (RC.eZ (sw hk) (RC.ss (RC.bs (mv (vi ab) ?_))))))
   obtain⟨aw,a7,hb⟩:=bd hb
   refine RL.bO 2 j Km a7 fun bm j=>(RL.bJ 0 aw j FQ fun bn j=>(RL.alloc j HK.z fun bo w j=>?_))
   refine aP (vi ab) (RL.bZ 0 j 1 zr FQ fun w j=>?_)
   refine RL.nq ?_
   obtain⟨ax,o,hb⟩:=bd hb
   refine RC.jn (fun(ax:Bool)=>SH E V [(0,vp b0 0),(3,vp ag 0),(4,ar),(5,vi ab),(11,v0_2),(12,vi p0_2.length),(13,vi ai),(20,v0_5),(21,vi p0_5.length),(22,vi ab),(40,vb ax)] [bc 53 b0 [v0_0,v0_1,v0_2,v0_3,v0_4,v0_5,ah,v0_7,v0_8,v0_9,v0_10,v0_11],rd v0_2 p0_2,rd v0_5 p0_5,own 36 ah af,pt (vp ag 0) aj,own 3 ar ak]) ax ?_ ?_
   ·refine RC.region (RL.dV 7 j zr yJ qF fun bp j=>(RL.bG aj.fY 0 j Ax (mv (vb aj.fY) (fA o (fun ad o=>?_) fun ad o=>?_))))
    rotate_left
    ·refine bC ad (bC ad (bC ad (bC ad (fB ad (vb false) (mv (vb false) (kc (kc (kc ?_))))))))
     refine kc (RL.pick false (vb false) zr (RL.nil ?_))
     obtain rfl:=oi o
     exact⟨rfl,j.sp 10 [4,5,6,7,8,9]⟩
    refine RL.bJ (hg:=(cg ad)) 8 aj j mj fun a8 j=>(RL.aX (hg:=(cg ad)) zr FR (RL.aM (hg:=(cg ad)) 2 j zr rP cL ?_))
    obtain⟨a1,a9,o⟩:=bd o
    refine RL.call (cg ad) zr Ki [a8,(vi aw.cU)] zr (aD (oV N (p1:=aw.cU) (i0:=0) j zr a9) ?_)
    rintro _ w ⟨rfl,j⟩
    refine fB ad (vb a1) (mv (vb a1) (fA o (fun ae o=>?_) fun ae o=>?_))
    rotate_left
    ·refine bC ae (bC ae (bC ae (bC ae (fB ae (vb false) (RL.nil ?_)))))
     obtain rfl:=oi o
     exact⟨rfl,j.sp 11 [5,6,7,8,9,10]⟩
    refine RL.aX (hg:=(cg ae)) zr FT (RL.aZ (hg:=(cg ae)) 2 j zr rQ uy fun ba j=>(RL.makeFunc (cg ae) zr [(vp ag 0)] zr ?_))
    obtain⟨bb,bf,o⟩:=bd o
    refine RL.call (cg ae) rfl Lv [ba,(.func (.func 56) #[] #[(vp ag 0)])] rfl (aD (mw N (i0:=0) j rfl ⟨56,[(vp ag 0)],rfl,MX,fun w Γl v y0 r i j hi hr=>by exact aD (si N (i0:=i) (i1:=Γl.length+10) j hi (Cv rfl) hr) fun _ _ h=>h⟩ bf) ?_)
    rintro _ w ⟨rfl,j⟩
    refine fB ae (vb bb) (RL.nil ?_)
    obtain rfl:=oi o
    exact⟨rfl,j.sp 12 [6,7,8,9,10,11]⟩
   rintro _ w ⟨O,rfl,j⟩
   refine aH ?_
   obtain⟨ay,o,hb⟩:=bd hb
   refine RC.jn (fun(ay: (List Int)) U w=>∃au:Value,SH E V [(0,vp b0 0),(3,vp ag 0),(4,au),(11,v0_2),(12,vi p0_2.length),(13,vi ai),(20,v0_5),(21,vi p0_5.length),(22,vi ab)] [bc 53 b0 [v0_0,v0_1,v0_2,v0_3,v0_4,v0_5,ah,v0_7,v0_8,v0_9,v0_10,v0_11],rd v0_2 p0_2,rd v0_5 p0_5,own 36 ah af,pt (vp ag 0) aj,own 3 au ay] U w) ay ?_ ?_
   ·refine dT o (fun hc o=>?_) fun hc o=>?_
    rotate_left
    ·refine RC.skip ?_
     obtain rfl:=oi o
     exact⟨rfl,ar,j.sp 6 [0,1,2,3,4,5]⟩
    refine RC.region (mv ar (mv (vi ab) ?_))
    have j:=j.sc Int (ab:Int)
    refine RL.dN ([(ab:Int)]: (List Int)) j [(vi ab)] eF Dd (fun M hs g=>⟨(g.sat 0 _ zr).1,zt⟩) fun bq w j=>?_
    have j:=j.freeze 0
    obtain⟨br,bh,o⟩:=bd o
    refine RL.app 7 0 j rC bh fun a2 w j=>?_
    refine aP a2 (RL.nil ?_)
    obtain rfl:=oi o
    exact⟨rfl,a2,j.sp 8 [2,3,4,5,6,7]⟩
   rintro _ w ⟨au,O,rfl,j⟩
   refine bP (aH (RC.region (RL.inc hk hm (mv (vi ((ab+1:Nat):Int)) (RL.nil ?_)))))
   obtain rfl:=oi hb
   exact⟨rfl,au,j.sp 6 [0,1,2,3,4,5]⟩
  rintro _ w ⟨ao,O,rfl,j⟩
  refine aH (RC.region (mv (vp b0 0) (mv (vp b0 0) (RL.nilCheck zr (RL.aX zr E6 (RL.bF 0 ah j zU (mv ao ?_)))))))
  have j:=j.freeze 5
  refine RL.dN ([ak]: (List (List Int))) j [ao] Ay Kn (fun M hs g=>⟨(g.sat 5 _ zr).1,zt⟩) fun bt w j=>?_
  have j:=j.freeze 0
  obtain⟨bu,bj,hb⟩:=bd hb
  refine RL.app 4 0 j Ko bj fun a3 w j=>?_
  refine RL.nilCheck zr (RL.aX zr E6 (RL.iB 1 a3 j zr zr (iT 4 j) zU fun w j=>?_))
  refine RL.nil (bP (aH (RC.region (RL.inc hk hm (mv (vi ((ai+1:Nat):Int)) (RL.nil ?_))))))
  obtain rfl:=oi hb
  exact⟨rfl,a3,j.sp 7 [1,4,2,3]⟩
 rintro _ w ⟨aq,O,rfl,j⟩
 obtain rfl:=oi hb
 refine Df ?_
 exact ID zr ⟨aq,zr,j.pk 4 [0,1]⟩
def w4 (E:World) (V:List HP) (res: ((List Int))) (v:Value) (w:World):Prop:=∃(ub0:Nat) (u0_0:Value),v=vp ub0 0/\Holds E w ([bc 140 ub0 [u0_0],own 3 u0_0 res]++V)
theorem we {res: ((List Int))} (j:Holds E w V) (hb:lq N p0=some res):
    Calls bN 58 [(vi p0)].toArray w (gJ (w4 E V res)):=by
 unfold lq at hb
 refine enter Tryz.func58 zr zr (RC.sr (aP (.pointer none) (RL.ns (mv (vi p0) ?_))))
 obtain⟨af,aj,hb⟩:=bd hb
 refine RL.mk p0 j rC K4 aj fun o w j=>?_
 refine RL.ET [(.slice none 0 0)] [o] zr [(0,o)] zr Lw ⟨(iT 0 j),zt⟩ zr (RL.Cz [o] zr j zr (xx.all (⟨(iT 0 j),zt⟩:xx [o])) fun ab w j=>?_)
 refine aP (vp ab 0) (RL.nq (RC.sr (mv (vp ab 0) (RL.nilCheck zr (RL.aX zr qm (RL.bF 0 o j eV (RL.fL 1 af j mB (mv (vi 0) ?_))))))))
 refine RL.nt ?_
 obtain⟨ae,hN,hb⟩:=bd hb
 refine RC.fold (fun(ad:Nat) (ae: (List Int))=>SH E V [(3,vp ab 0),(13,vi af.length),(14,vi ad)] [bc 140 ab [o],own 3 o ae]) (fun(ae: (List Int))=>SH E V [(3,vp ab 0)] [bc 140 ab [o],own 3 o ae]) hN ?_ ?_ ?_ ?_
 ·exact j.sp 2 [0,1]
 ·rintro hm ae _ w ⟨O,rfl,j⟩
  refine RC.sr (ic ((af.length:Int)) ((af.length:Int)) (RL.nq (RC.fu sA (RC.ex ?_))))
  exact⟨rfl,j.sp 2 [0,1]⟩
 ·rintro hm ad ae s' _ w hk ⟨O,rfl,j⟩ hb
  refine RC.sr (ic ((ad:Int)) ((af.length:Int)) (RL.nq (RC.eZ (sw hk) (RC.ss (RC.bs (mv (vi ad) (aP (vi ad) (RL.nt ?_))))))))
  refine RC.region (mv (vp ab 0) (RL.nilCheck zr (RL.aX zr qm (RL.bF 0 o j eV (mv (vi ad) (mv (vi ad) ?_))))))
  obtain⟨al,ag,hb⟩:=bd hb
  refine RL.bT 1 j zr zr eF ag ?_
  have j:=j.sc Int (ad:Int)
  refine RL.gK (f:=(fun _ y=>y)) 2 0 j (jz 2 j ag 0) (bH ag).2.1 zr Fs.self cL fun w j=>?_
  refine RL.nil (bP (aH (RC.region (RL.inc hk hm (mv (vi ((ad+1:Nat):Int)) (RL.nil ?_))))))
  obtain rfl:=oi hb
  exact⟨rfl,j.sp 3 [1,2]⟩
 rintro _ w ⟨O,rfl,j⟩
 refine aH (RC.sr (mv (vp ab 0) (aP (vp ab 0) (RL.nt (RC.ret ?_)))))
 obtain rfl:=oi hb
 exact bY ⟨ab,o,zr,j.pk 2 [0,1]⟩
def wg (E:World) (V:List HP) (b0:Nat) (res:Int×(List Int)) (v:Value) (w:World):Prop:=∃u0_0:Value,v= (vi res.1)/\Holds E w ([bc 140 b0 [u0_0],own 3 u0_0 res.2]++V)
theorem mP {p0_0: (List Int)} {res:Int×(List Int)} (j:Holds E w (bc 140 b0 [v0_0]::own 3 v0_0 p0_0::V)) (o:gS N p0_0 p1=some res):
    Calls bN 95 [(vp b0 0),(vi p1)].toArray w (gJ (wg E V b0 res)):=by
 unfold gS at o
 refine enter Tryz.func95 zr zr (RC.sr (aP (vi 0) (RL.nq ?_)))
 obtain⟨an,hN,o⟩:=bd o
 refine RC.iter (fun(aa: (List Int)×Int)=>SH E V [(0,vp b0 0),(1,vi aa.2)] [bc 140 b0 [v0_0],own 3 v0_0 aa.1]) (fun(aa: (List Int)×Int)=>SH E V [(0,vp b0 0),(1,vi aa.2)] [bc 140 b0 [v0_0],own 3 v0_0 aa.1]) (fun(r:Empty) _ _=>r.elim) hN ?_ ?_ ?_ ?_
 ·exact j.sp 2 [0,1]
 ·rintro aa fl _ w ⟨O,rfl,j⟩ o
  refine RC.seq (RC.sr (mv (vp b0 0) (RL.nilCheck zr (RL.aX zr qm (RL.bF 0 v0_0 j eV (mv (vi aa.2) ?_))))))
  obtain⟨ai,ab,o⟩:=bd o
  refine RL.bT 1 j zr zr eF ab (RL.dR (f:=(fun x=>x)) 1 j (jz 1 j ab 0) (bH ab).2.1 Fd.self cL (mv (vi aa.2) (ic ai aa.2 (RL.nt (dT o (fun hc o=>?_) fun hc o=>?_)))))
  rotate_left
  ·refine RC.ex ?_
   obtain rfl:=oi o
   exact⟨rfl,j.sp 2 [0,1]⟩
  refine RC.sn (RC.block (RC.seq (RC.vV mixed [0,0,0,0,0,0,0,0,0,0,0,0,0,0,0,0,0,0,0,2] [0,1,2,3,4,5,6,7,8,9,10,11,12,13,14,15,16,17,18,19] ?_)))
  have j:=j.drew
  refine DP.e0 zr (mv (vp b0 0) (aW zr (RL.nilCheck zr (aW zr (RL.aX zr qm (aW zr (RL.bF 0 v0_0 j eV (aW zr ?_))))))))
  refine mv (vi aa.2) (aW zr (mv (vp b0 0) (aW zr (RL.nilCheck zr (aW zr (RL.aX zr qm (aW zr (RL.bF 0 v0_0 j eV ?_))))))))
  refine aW zr (mv (vp b0 0) (aW zr (RL.nilCheck zr (aW zr (RL.aX zr qm (aW zr (RL.bF 0 v0_0 j eV (aW zr ?_))))))))
  refine mv (vi aa.2) (aW zr ?_)
  obtain⟨aq,ad,o⟩:=bd o
  refine RL.bT 1 j zr zr eF ad (aW zr (RL.dR (f:=(fun x=>x)) 1 j (jz 1 j ad 0) (bH ad).2.1 Fd.self cL (aW zr ?_)))
  obtain⟨ak,ae,o⟩:=bd o
  refine RL.bT 1 j zr zr eF ae (aW zr (RL.dR (f:=(fun x=>x)) 1 j (jz 1 j ae 0) (bH ae).2.1 Fd.self cL (aW zr ?_)))
  obtain⟨ar,af,o⟩:=bd o
  refine RL.bT 1 j zr zr eF af (oZ zr ?_)
  have j:=j.sc Int ak
  refine RL.gK (f:=(fun _ y=>y)) 2 0 j (jz 2 j af 0) (bH af).2.1 zr Fs.self cL fun w j=>?_
  refine DP.d2 zt (DP.z (aH (RC.region (mv (vp b0 0) (RL.nilCheck zr (RL.aX zr qm (RL.bF 1 v0_0 j eV (mv (vi aa.2) ?_))))))))
  obtain⟨al,ag,o⟩:=bd o
  refine RL.bT 2 j zr zr eF ag (RL.dR (f:=(fun x=>x)) 2 j (jz 2 j ag 0) (bH ag).2.1 Fd.self cL (aP (vi al) (RL.nil (bP ?_))))
  obtain rfl:=oi o
  exact⟨rfl,j.sp 3 [1,2]⟩
 ·intro r _ _ _ _
  exact r.elim
 rintro aa _ w rfl ⟨O,rfl,j⟩
 rw [Fo.cZ] at o
 refine aH (RC.sr (mv (vi aa.2) (aP (vi aa.2) (RL.nt (RC.ret ?_)))))
 obtain rfl:=oi o
 exact bY ⟨v0_0,zr,j.pk 2 [0,1]⟩
def vf (E:World) (V:List HP) (b0:Nat) (res: (List Int)) (v:Value) (w:World):Prop:=∃u0_0:Value,v = .tuple #[]/\Holds E w ([bc 140 b0 [u0_0],own 3 u0_0 res]++V)
theorem uE {p0_0: (List Int)} {res: (List Int)} (j:Holds E w (bc 140 b0 [v0_0]::own 3 v0_0 p0_0::V)) (o:ir N p0_0 p1 p2=some res):
    Calls bN 59 [(vp b0 0),(vi p1),(vi p2)].toArray w (gJ (vf E V b0 res)):=by
 unfold ir at o
 refine enter Tryz.func59 zr zr (RC.sr (mv (vp b0 0) (mv (vi p1) ?_)))
 have j:=(j.pull 1).pull 1
 obtain⟨aa,af,o⟩:=bd o
 refine RL.call zt zr Kp [(vp b0 0),(vi p1)] zr (aD (mP N (p1:=p1) j af) ?_)
 rintro _ w ⟨ah,rfl,j⟩
 refine mv (vp b0 0) (mv (vi p2) ?_)
 have j:=(j.pull 1).pull 1
 obtain⟨ab,ag,o⟩:=bd o
 refine RL.call zt zr Kp [(vp b0 0),(vi p2)] zr (aD (mP N (p1:=p2) j ag) ?_)
 rintro _ w ⟨ae,rfl,j⟩
 refine aP (vi aa.1) (aP (vi ab.1) (RL.nt (RC.region (mv (vp b0 0) (RL.nilCheck zr (RL.aX zr qm (RL.bF 0 ae j eV (mv (vi aa.1) ?_))))))))
 refine mv (vi ab.1) (RL.max aa.1 ab.1 (mv (vi aa.1) (mv (vi ab.1) (RL.min aa.1 ab.1 ?_))))
 obtain⟨ai,ad,o⟩:=bd o
 refine RL.bT 1 j zr zr eF ad ?_
 have j:=j.sc Int (if ab.1<aa.1 then ab.1 else aa.1)
 refine RL.gK (f:=(fun _ y=>y)) 2 0 j (jz 2 j ad 0) (bH ad).2.1 zr Fs.self cL fun w j=>?_
 refine RL.nil ?_
 obtain rfl:=oi o
 refine Df ?_
 exact ID zr ⟨ae,zr,j.pk 7 [1,2]⟩
def vg (E:World) (V:List HP) (b0:Nat) (res: (List (List Int))×(List Int)) (v:Value) (w:World):Prop:=∃u0 u0_0:Value,v=u0/\Holds E w ([own 36 u0 res.1,bc 140 b0 [u0_0],own 3 u0_0 res.2]++V)
theorem uF {p0_0: (List Int)} {res: (List (List Int))×(List Int)} (o:Holds E w (bc 140 b0 [v0_0]::own 3 v0_0 p0_0::V)) (hb:ki N p0_0=some res):
    Calls bN 60 [(vp b0 0)].toArray w (gJ (vg E V b0 res)):=by
 unfold ki at hb
 refine enter Tryz.func60 zr zr (RC.sr (aP (.slice none 0 0) (RL.ns (aP (.slice none 0 0) (RL.ns (RL.makeMap (κ:=Int) (ν:=Int) zt zr o fun aq w o=>(aP aq (RL.nq ?_))))))))
 refine RC.sr (mv (vp b0 0) (RL.nilCheck zr (RL.aX zr qm (RL.bF 1 v0_0 o eV (RL.fL 2 p0_0 o mB (mv (vi 0) (RL.nt ?_)))))))
 obtain⟨ao,hN,hb⟩:=bd hb
 refine RC.fold (fun(ai:Nat) (ao: (List Int)×(List (List Int))×(List (Int×Int))) U w=>∃(a4 a5:Value) (us110:List RV),SH E V [(0,vp b0 0),(3,a5),(4,aq),(12,vi p0_0.length),(13,vi ai)] [bc 140 b0 [a4],own 3 a4 ao.1,mp aq ao.2.2,own 36 a5 us110,iA (XS 3 Int) us110 ao.2.1 none] U w) (fun(ao: (List Int)×(List (List Int))×(List (Int×Int))) U w=>∃(ax av:Value) (us113:List RV),SH E V [(0,vp b0 0),(3,av)] [bc 140 b0 [ax],own 3 ax ao.1,mp aq ao.2.2,own 36 av us113,iA (XS 3 Int) us113 ao.2.1 none] U w) hN ?_ ?_ ?_ ?_
 ·have o:=(o.z9 (XS 3 Int)).cP RV 36
  exact⟨v0_0,(.slice none 0 0),([]:List RV),o.sp 5 [3,4,2,0,1]⟩
 ·rintro hm ao _ w ⟨bb,bf,us153,O,rfl,o⟩
  refine RC.sr (ic ((p0_0.length:Int)) ((p0_0.length:Int)) (RL.nq (RC.fu sA (RC.ex ?_))))
  exact⟨rfl,bb,bf,us153,o.sp 5 [0,1,2,3,4]⟩
 ·rintro hm ai ao s' _ w hk ⟨bl,a1,us116,O,rfl,o⟩ hb
  refine RC.sr (ic ((ai:Int)) ((p0_0.length:Int)) (RL.nq (RC.eZ (sw hk) (RC.ss (RC.bs (mv (vi ai) (aP (vi ai) (RL.ns ?_))))))))
  refine mv (vp b0 0) (mv (vi ai) ?_)
  have o:=(o.pull 1).pull 1
  obtain⟨ab,bg,hb⟩:=bd hb
  refine RL.call zt zr Kp [(vp b0 0),(vi ai)] zr (aD (mP N (p1:=(ai:Int)) o bg) ?_)
  rintro _ w ⟨aw,rfl,o⟩
  refine aP (vi ab.1) (RL.nq (RC.sr (mv (vi ab.1) (mv (vi ai) (ic ab.1 ((ai:Int)) (RL.nt ?_))))))
  obtain⟨aa,hj,hb⟩:=bd hb
  refine RC.jn (fun(aa: (List (List Int))×(List (Int×Int))) U w=>∃(an:Value) (us124:List RV),SH E V [(0,vp b0 0),(3,an),(4,aq),(5,vi ai),(6,vi ab.1),(12,vi p0_0.length),(13,vi ai)] [bc 140 b0 [aw],own 3 aw ab.2,mp aq aa.2,own 36 an us124,iA (XS 3 Int) us124 aa.1 none] U w) aa ?_ ?_
  ·refine dT hj (fun hc hj=>?_) fun hc hj=>?_
   rotate_left
   ·refine RC.skip ?_
    obtain rfl:=oi hj
    exact⟨rfl,a1,us116,o.sp 7 [0,1,4,5,6]⟩
   refine RC.sr (mv aq (mv (vi ai) (mv a1 (RL.sB 5 6 ao.2.1 o Gx ?_))))
   have o:=o.sc Int (ao.2.1.length:Int)
   refine RL.mapUpdate 5 0 (ai:Int) zt o zr zr zr zr zr DZ fun w o=>(RL.nt (RC.region (mv a1 ?_)))
   have o:=(o.cP Int 3).B0 (i:=0) rfl
   refine RL.dN ([rv (.slice none 0 0)]:List RV) o [(.slice none 0 0)] Ay Kn (fun M hs g=>⟨(g.sat 0 _ zr).1,zt⟩) fun bm w o=>?_
   obtain⟨bn,bj,hj⟩:=bd hj
   have o:=o.freeze 0
   refine RL.DC 9 0 10 2 zt zr o zr zr zr zr zr zr Ko bj fun a8 w o=>?_
   refine aP a8 (RL.nil ?_)
   obtain rfl:=oi hj
   exact⟨rfl,a8,(us116++[rv (.slice none 0 0)]),o.sp 11 [4,5,8,9,10]⟩
  rintro _ w ⟨an,us124,O,rfl,o⟩
  refine aH ?_
  obtain⟨bo,ay,hb⟩:=bd hb
  obtain⟨au,bk,hb⟩:=bd hb
  obtain⟨bp,a2,hb⟩:=bd hb
  refine RC.Gq E V mixed [1,1,1,0,1,1,1,0,0,0,1,0,0,0,0] [11,12,14] (fun(x:Value×Value)=>(fun ak ag=>[(0,29,an),(1,30,aq),(2,31,(vi ab.1)),(3,32,(vi (jC aa.2 ab.1 (0:Int)))),(4,33,an),(5,34,aq),(6,35,(vi ab.1)),(7,36,(vi (jC aa.2 ab.1 (0:Int)))),(8,37,(zQ an (Int.toNat (jC aa.2 ab.1 (0:Int))) 1 0)),(9,38,(us124.getD (Int.toNat (jC aa.2 ab.1 (0:Int))) Db).v),(10,39,(vi ai)),(11,40,ak),(12,41,ag),(13,42,(zQ an (Int.toNat (jC aa.2 ab.1 (0:Int))) 1 0))]) x.1 x.2) [(0,vp b0 0),(3,an),(4,aq),(5,vi ai),(6,vi ab.1),(12,vi p0_0.length),(13,vi ai)] [] (fun(D:Nat->Bool) (x:Value×Value)=>(fun ak ag=>[bif D 1 then (rd ak ([(ai:Int)]: (List Int))) else (bif D 0 then (own 3 ak ([(ai:Int)]: (List Int))) else bE),bif D 2 then bE else (bif D 1 then (own 3 ag au) else bE),bc 140 b0 [aw],own 3 aw ab.2,mp aq aa.2,bif D 2 then (own 36 an (us124.set (Int.toNat (jC aa.2 ab.1 (0:Int))) (rv ag))) else (own 36 an us124),bif D 2 then (iA (XS 3 Int) (us124.set (Int.toNat (jC aa.2 ab.1 (0:Int))) (rv ag)) (aa.1.set (Int.toNat (jC aa.2 ab.1 (0:Int))) au) none) else (bif D 1 then (iA (XS 3 Int) us124 aa.1 (some (Int.toNat (jC aa.2 ab.1 (0:Int))))) else (iA (XS 3 Int) us124 aa.1 none))]) x.1 x.2) (fun x=>by kernel_rfl) ?_ ⟨fun _=>jL gn,fun _=>jL gn,fun _=>jL gn,?_,fun _=>jL gn,fun _=>jL gn,fun _=>jL gn,?_,?_,?_,fun _=>jL gn,?_,?_,?_,?_,trivial⟩ ?_
  ·have o:=((o.drew).bE).bE
   exact⟨(undef,undef),fR.none,(E3 zr),zt,o⟩
  ·rintro D U w hD ah ae ⟨⟨ak,ag⟩,hv,ha,_,o⟩
   obtain⟨O,rfl⟩:=(ac (hv.at 1 rfl (ah.1 rfl)) (ac (hv.at 2 rfl (ah.2.1 rfl)) az)).fM
   refine RL.Du 4 ab.1 zt zr o zr zr zr DZ ?_
   exact RL.nil ⟨rfl,(ak,ag),hv.pu 3,ha.u,zt,o⟩
  ·rintro D U w hD ah ae ⟨⟨ak,ag⟩,hv,ha,_,o⟩
   obtain⟨O,rfl⟩:=(ac (hv.at 5 rfl (ah.1 rfl)) (ac (hv.at 6 rfl (ah.2.1 rfl)) az)).fM
   refine RL.Du 4 ab.1 zt zr o zr zr zr DZ ?_
   exact RL.nil ⟨rfl,(ak,ag),hv.pu 7,ha.u,zt,o⟩
  ·rintro D U w hD ah ae ⟨⟨ak,ag⟩,hv,ha,_,o⟩
   obtain⟨O,rfl⟩:=(ac (hv.at 4 rfl (ah.1 rfl)) (ac (hv.at 7 rfl (ah.2.1 rfl)) az)).fM
   have o:=((o.cD 5 (nh ae hD 14)).cD 6 (nh ae hD 14)).cD 6 (nf (fun h=>ft hD ((ae 9 _ rfl ((ae 12 _ rfl h).1 rfl)).1 rfl)))
   have hl141:=o.eH 6
   have hr142:=fU Db hl141 ay
   refine RL.bT 5 o zr zr Ay hr142 ?_
   have o:=(o.fw 5 (D 14) (nh ae hD 14) (own 36 an (us124.set (Int.toNat (jC aa.2 ab.1 (0:Int))) (rv ag)))).fw 6 (D 12) (nf (fun h=>ft hD ((ae 9 _ rfl ((ae 12 _ rfl h).1 rfl)).1 rfl))) (iA (XS 3 Int) us124 aa.1 (some (Int.toNat (jC aa.2 ab.1 (0:Int)))))
   have o:=o.fw 6 (D 14) (nh ae hD 14) (iA (XS 3 Int) (us124.set (Int.toNat (jC aa.2 ab.1 (0:Int))) (rv ag)) (aa.1.set (Int.toNat (jC aa.2 ab.1 (0:Int))) au) none)
   exact RL.nil ⟨rfl,(ak,ag),hv.pu 8,ha.u,zt,o⟩
  ·rintro D U w hD ah ae ⟨⟨ak,ag⟩,hv,ha,_,o⟩
   obtain⟨O,rfl⟩:=(ac (hv.at 8 rfl (ah.1 rfl)) az).fM
   have o:=((o.cD 5 (nh ae hD 14)).cD 6 (nh ae hD 14)).cD 6 (nh ae hD 12)
   have hl143:=o.eH 6
   have hr144:=fU Db hl143 ay
   refine RL.vC 5 6 (jC aa.2 ab.1 (0:Int)) (BZ 3 Int) Db zr o zr (jz 5 o hr144 0) zr zr ay eV ?_
   have o:=(o.fw 5 (D 14) (nh ae hD 14) (own 36 an (us124.set (Int.toNat (jC aa.2 ab.1 (0:Int))) (rv ag)))).fw 6 (D 12) (nh ae hD 12) (iA (XS 3 Int) us124 aa.1 (some (Int.toNat (jC aa.2 ab.1 (0:Int)))))
   have o:=o.fw 6 (D 14) (nh ae hD 14) (iA (XS 3 Int) (us124.set (Int.toNat (jC aa.2 ab.1 (0:Int))) (rv ag)) (aa.1.set (Int.toNat (jC aa.2 ab.1 (0:Int))) au) none)
   exact RL.nil ⟨rfl,(ak,ag),hv.pu 9,ha.u,zt,o⟩
  ·rintro D U w hD ah ae ⟨⟨ak,ag⟩,hv,ha,_,o⟩
   obtain⟨O,rfl⟩:=(ac (hv.at 10 rfl (ah.1 rfl)) az).fM
   have o:=((o.cD 0 (nh ae hD 12)).cD 0 hD).sc Int (ai:Int)
   refine RL.dN ([(ai:Int)]: (List Int)) o [(vi ai)] eF Dd (fun M hs g=>⟨(g.sat 0 _ zr).1,zt⟩) fun a9 w o=>?_
   have o:=((o.pl 9 [0,3,4,5,6,7,8]).cR 0 true rfl bE).fw 0 (D 12) (nh ae hD 12) (rd a9 ([(ai:Int)]: (List Int)))
   exact RL.nil ⟨rfl,(a9,ag),hv.pu 11,ha.u,zt,o⟩
  ·rintro D U w hD ah ae ⟨⟨ak,ag⟩,hv,ha,_,o⟩
   obtain⟨O,rfl⟩:=(ac (hv.at 9 rfl (ah.1 rfl)) (ac (hv.at 11 rfl (ah.2.1 rfl)) az)).fM
   have o:=(((((((o.cD 0 hD).cQ 0 (ah.2.1 rfl)).cD 1 (nh ae hD 14)).cD 1 hD).cD 5 (nh ae hD 14)).cD 6 (nh ae hD 14)).cD 6 hD).Al (j:=6) (jj:=(jC aa.2 ab.1 (0:Int))) (BZ 3 Int) Db rfl ay
   have o:=o.freeze 1
   refine RL.app 0 1 o rC bk fun a3 w o=>?_
   have o:=((((o.pl 8 [1,0,3,4,5,6,7]).cR 0 true rfl (bif D 11 then (own 3 ak ([(ai:Int)]: (List Int))) else bE)).cR 1 true rfl bE).fw 1 (D 14) (nh ae hD 14) bE).fw 5 (D 14) (nh ae hD 14) (own 36 an (us124.set (Int.toNat (jC aa.2 ab.1 (0:Int))) (rv a3)))
   have o:=(o.cR 6 true rfl (iA (XS 3 Int) us124 aa.1 none)).fw 6 (D 14) (nh ae hD 14) (iA (XS 3 Int) (us124.set (Int.toNat (jC aa.2 ab.1 (0:Int))) (rv a3)) (aa.1.set (Int.toNat (jC aa.2 ab.1 (0:Int))) au) none)
   exact RL.nil ⟨rfl,(ak,a3),hv.pu 12,ha.u,zt,o⟩
  ·rintro D U w hD ah ae ⟨⟨ak,ag⟩,hv,ha,_,o⟩
   obtain⟨O,rfl⟩:=(ac (hv.at 0 rfl (ah.1 rfl)) (ac (hv.at 3 rfl (ah.2.1 rfl)) az)).fM
   have o:=((o.cD 5 (nh ae hD 14)).cD 6 (nh ae hD 14)).cQ 6 (ah.2.2.2.2.2.2.2.2.2.2.2.2.2.2.1 rfl)
   have hl147:=o.eH 6
   have hr148:=fU Db hl147 a2
   refine RL.bT 5 o zr zr Ay hr148 ?_
   have o:=(o.fw 5 (D 14) (nh ae hD 14) (own 36 an (us124.set (Int.toNat (jC aa.2 ab.1 (0:Int))) (rv ag)))).cR 6 (D 12) (ah.2.2.2.2.2.2.2.2.2.2.2.2.2.2.1 rfl) (iA (XS 3 Int) us124 aa.1 none)
   have o:=o.fw 6 (D 14) (nh ae hD 14) (iA (XS 3 Int) (us124.set (Int.toNat (jC aa.2 ab.1 (0:Int))) (rv ag)) (aa.1.set (Int.toNat (jC aa.2 ab.1 (0:Int))) au) none)
   exact RL.nil ⟨rfl,(ak,ag),hv.pu 13,ha.u,zt,o⟩
  ·rintro D U w hD ah ae ⟨⟨ak,ag⟩,hv,ha,_,o⟩
   obtain⟨O,rfl⟩:=(ac (hv.at 12 rfl (ah.2.1 rfl)) (ac (hv.at 13 rfl (ah.1 rfl)) az)).fM
   have o:=((((o.cD 1 hD).cQ 1 (ah.2.1 rfl)).cD 5 hD).cD 6 hD).cQ 6 (ah.2.1 rfl)
   have hl149:=o.eH 6
   have hr150:=fU Db hl149 a2
   refine RL.tz 5 6 1 (jC aa.2 ab.1 (0:Int)) (BZ 3 Int) Db o zr zr (jz 5 o hr150 0) zr zr zr a2 eV fun w o=>?_
   have o:=((o.cR 1 true rfl (bif D 12 then (own 3 ag au) else bE)).cR 5 true rfl (own 36 an us124)).cR 6 true rfl (bif D 12 then (iA (XS 3 Int) us124 aa.1 (some (Int.toNat (jC aa.2 ab.1 (0:Int))))) else (iA (XS 3 Int) us124 aa.1 none))
   exact RL.nil ⟨rfl,(ak,ag),hv.n1,ha,zt,o⟩
  rintro D U w a0 ⟨⟨ak,ag⟩,hv,ha,_,o⟩
  have o:=(((o.cQ 0 (kU a0 12)).cQ 1 (kU a0 14)).cQ 5 (kU a0 14)).cQ 6 (kU a0 14)
  obtain⟨O,rfl⟩:=(ac (ha.at 0 rfl) (ac (ha.at 1 rfl) (ac (ha.at 2 rfl) (ac (ha.at 3 rfl) (ac (ha.at 4 rfl) (ac (ha.at 5 rfl) (ac (ha.at 6 rfl) az))))))).fM
  refine bP (aH (RC.region (RL.inc hk hm (mv (vi ((ai+1:Nat):Int)) (RL.nil ?_)))))
  obtain rfl:=oi hb
  exact⟨rfl,aw,an,(us124.set (Int.toNat (jC aa.2 ab.1 (0:Int))) (rv ag)),o.sp 7 [2,3,4,5,6]⟩
 rintro _ w ⟨ax,av,us113,O,rfl,o⟩
 refine aH (RC.sr (mv av (aP av (RL.nt (RC.ret ?_)))))
 obtain rfl:=oi hb
 have o:=o.Aa (X:=(XS 3 Int)) (b:=4) (j:=3) rfl (fun M h u x cs=>(Ju 3) M h u x cs) rfl rfl (by decide)
 exact bY ⟨av,ax,zr,o.pk 5 [3,0,1]⟩
theorem uG {p0:aI} {p1:jw} {res:Bool} (j:Holds E w V) (h0:V[i0]? =some (rd v0 p0)) (h1:V[i1]? =some (pt v1 p1)) (hb:lO N p0 p1=some res):
    Calls bN 122 [v0,v1].toArray w (gJ (aU E V res)):=by
 unfold lO at hb
 refine enter Tryz.func122 zr zr ?_
 have j:=(j.dup (i0+0) h0).Cx (i:=i1+1) h1
 refine RC.sr (RL.dD 1 v0 j zr fun ag w j=>?_)
 refine aP (vb false) (RL.nq ?_)
 obtain⟨af,o,hb⟩:=bd hb
 refine RC.jn (fun(af:Bool)=>SH E V [(3,vb af)] []) af ?_ ?_
 ·refine RC.region (RL.dV 1 j zr wP nZ fun ah j=>(RL.bG p1.X 0 j cL (RL.aX zr iw (RL.aM 1 j zr dQ cL (ic p1.X p0.X0 (mv (vb (decide (p1.X>=p0.X0))) (fA o (fun aa o=>?_) fun aa o=>?_)))))))
  rotate_left
  ·refine bC aa (bC aa (bC aa (bC aa (bC aa (fB aa (vb false) (mv (vb false) (kc (kc ?_))))))))
   refine kc (kc (kc (RL.pick false (vb false) zr (mv (vb false) (kc (kc (kc (kc ?_))))))))
   refine kc (RL.pick false (vb false) zr (aP (vb false) (RL.nil ?_)))
   obtain rfl:=oi o
   exact⟨rfl,j.sp 4 []⟩
  refine RL.dV (hg:=(cg aa)) 2 j zr wP nZ fun ai j=>(RL.bG (hg:=(cg aa)) p1.X 0 j cL (RL.aX (hg:=(cg aa)) zr jo (RL.aM (hg:=(cg aa)) 2 j zr eJ cL (RL.lh p1.X p0.X1 (cg aa) (fB aa (vb (decide (p1.X<p0.X1))) (mv (vb (decide (p1.X<p0.X1))) (fA o (fun ab o=>?_) fun ab o=>?_)))))))
  rotate_left
  ·refine bC ab (bC ab (bC ab (bC ab (bC ab (fB ab (vb false) (mv (vb false) (kc (kc ?_))))))))
   refine kc (kc (kc (RL.pick false (vb false) zr (aP (vb false) (RL.nil ?_)))))
   obtain rfl:=oi o
   exact⟨rfl,j.sp 5 []⟩
  refine RL.dV (hg:=(cg ab)) 3 j zr wQ n0 fun aj j=>(RL.bG (hg:=(cg ab)) p1.Y 0 j cL (RL.aX (hg:=(cg ab)) zr g8 (RL.aM (hg:=(cg ab)) 3 j zr dH cL (RL.lh p1.Y p0.Y0 (cg ab) (fB ab (vb (decide (p1.Y>=p0.Y0))) (mv (vb (decide (p1.Y>=p0.Y0))) (fA o (fun ad o=>?_) fun ad o=>?_)))))))
  ·refine RL.dV (hg:=(cg ad)) 4 j zr wQ n0 fun ak j=>(RL.bG (hg:=(cg ad)) p1.Y 0 j cL (RL.aX (hg:=(cg ad)) zr kA (RL.aM (hg:=(cg ad)) 4 j zr fJ cL (RL.lh p1.Y p0.Y1 (cg ad) (fB ad (vb (decide (p1.Y<p0.Y1))) (aP (vb (decide (p1.Y<p0.Y1))) (RL.nil ?_)))))))
   obtain rfl:=oi o
   exact⟨rfl,j.sp 7 []⟩
  refine bC ad (bC ad (bC ad (bC ad (bC ad (fB ad (vb false) (aP (vb false) (RL.nil ?_)))))))
  obtain rfl:=oi o
  exact⟨rfl,j.sp 6 []⟩
 rintro _ w ⟨O,rfl,j⟩
 refine aH (RC.ret ?_)
 obtain rfl:=oi hb
 exact bY ⟨rfl,j.drop 0⟩
theorem qX {p0: (List aI)} {p1:jw} {res:Bool} (j:Holds E w V) (h0:V[i0]? =some (rd v0 p0)) (h1:V[i1]? =some (rd v1 p1)) (o:kE N p0 p1=some res):
    Calls bN 96 [v0,v1].toArray w (gJ (aU E V res)):=by
 unfold kE at o
 refine enter Tryz.func96 zr zr ?_
 have j:=(j.dup (i0+0) h0).dup (i1+1) h1
 refine RC.sr (RL.dD 0 v1 j zr fun aa w j=>?_)
 have j:=j.l6 (i:=0) rfl
 refine aP (vb false) (RL.ns (mv v0 (RL.makeFunc zt zr [(vp aa 0)] zr ?_)))
 obtain⟨ab,ad,o⟩:=bd o
 refine RL.call trivial rfl Lv [v0,(.func (.func 122) #[] #[(vp aa 0)])] rfl (aD (mw N (i0:=2) j rfl ⟨122,[(vp aa 0)],rfl,Lx,fun w Γl v y0 r i j hi hr=>by exact aD (uG N (i0:=i) (i1:=Γl.length+0) j hi (Cv rfl) hr) fun _ _ h=>h⟩ ad) ?_)
 rintro _ w ⟨rfl,j⟩
 refine aP (vb ab) (RL.nt (RC.ret ?_))
 obtain rfl:=oi o
 exact bY ⟨rfl,j.drop 3⟩
def pN (E:World) (V:List HP) (b0:Nat) (v0_0 v0_1:Value) (v0_2 v0_3:Value) (v0_4 v0_5:Value) (v0_6 v0_7:Value) (v0_8 v0_9:Value) (v0_10 v0_11:Value) (res:ka×Bool) (v:Value) (w:World):Prop:=∃u0:Value,v = .tuple #[u0,(vb res.2)]/\Holds E w ([rd u0 res.1,bc 53 b0 [v0_0,v0_1,v0_2,v0_3,v0_4,v0_5,v0_6,v0_7,v0_8,v0_9,v0_10,v0_11]]++V)
def pO (E:World) (V:List HP) (b0:Nat) (v0_0 v0_1:Value) (v0_2 v0_3:Value) (v0_4 v0_5:Value) (v0_6 v0_7:Value) (v0_8 v0_9:Value) (v0_10 v0_11:Value) (r:ka×Bool) (U:Nat->Value) (w:World):Prop:=lG bN 66 Tryz.f61 (pN E V b0 v0_0 v0_1 v0_2 v0_3 v0_4 v0_5 v0_6 v0_7 v0_8 v0_9 v0_10 v0_11 r) .ret U w
theorem uH {p0_2: (List cA)} {p0_5: (List aK)} {p1:eQ} {res:ka×Bool} (j:Holds E w (bc 53 b0 [v0_0,v0_1,v0_2,v0_3,v0_4,v0_5,v0_6,v0_7,v0_8,v0_9,v0_10,v0_11]::rd v0_2 p0_2::rd v0_5 p0_5::V)) (h1:V[i1]? =some (rd v1 p1)) (o:kj N p0_2 p0_5 p1=some res):
    Calls bN 61 [(vp b0 0),v1].toArray w (gJ (pN E V b0 v0_0 v0_1 v0_2 v0_3 v0_4 v0_5 v0_6 v0_7 v0_8 v0_9 v0_10 v0_11 res)):=by
 unfold kj at o
 refine enter Tryz.func61 zr zr ?_
 have j:=j.dup (i1+3) h1
 refine RC.sr (RL.dD 0 v1 j zr fun ah w j=>?_)
 have j:=j.l6 (i:=0) rfl
 refine RL.alloc j Gz.z fun ae w j=>?_
 refine aP (vb false) (RL.nq (RC.sr (mv (vp b0 0) (RL.nilCheck zr (RL.aX zr tH (RL.aX zr iz (RL.bF 3 v0_2 j n7 (RL.bB 4 p0_2 j wO ?_))))))))
 refine mv (vi 0) (RL.nt ?_)
 obtain⟨bn,hN,o⟩:=bd o
 refine RC.range (fun(af:Nat) (al:Unit)=>SH E V [(0,vp b0 0),(3,vp ah 0),(4,vp ae 0),(14,v0_2),(15,vi p0_2.length),(16,vi af)] [bc 53 b0 [v0_0,v0_1,v0_2,v0_3,v0_4,v0_5,v0_6,v0_7,v0_8,v0_9,v0_10,v0_11],rd v0_2 p0_2,rd v0_5 p0_5,pt (vp ah 0) p1,raw 84 ae 2]) (fun(al:Unit)=>SH E V [(0,vp b0 0),(3,vp ah 0),(4,vp ae 0)] [bc 53 b0 [v0_0,v0_1,v0_2,v0_3,v0_4,v0_5,v0_6,v0_7,v0_8,v0_9,v0_10,v0_11],rd v0_2 p0_2,rd v0_5 p0_5,pt (vp ah 0) p1,raw 84 ae 2]) (pO E V b0 v0_0 v0_1 v0_2 v0_3 v0_4 v0_5 v0_6 v0_7 v0_8 v0_9 v0_10 v0_11) hN ?_ ?_ ?_ ?_ ?_
 ·exact j.sp 6 [3,4,5,1,0]
 ·rintro hm al _ w ⟨O,rfl,j⟩
  refine RC.sr (ic ((p0_2.length:Int)) ((p0_2.length:Int)) (RL.nq (RC.fu sA (RC.ex ?_))))
  exact⟨rfl,j.sp 5 [0,1,2,3,4]⟩
 ·rintro hm af al fl _ w hk ⟨O,rfl,j⟩ o
  refine RC.sr (ic ((af:Int)) ((p0_2.length:Int)) (RL.nq (RC.eZ (sw hk) (RC.ss (RC.bs (mv (vi af) ?_))))))
  obtain⟨ax,a0,o⟩:=bd o
  refine RL.bO 1 j qQ a0 fun bo j=>(RL.bJ 0 ax j mj fun bp j=>(RL.alloc j E5.z fun bq w j=>?_))
  refine aP (vi af) (RL.bZ 0 j 1 zr mj fun w j=>?_)
  refine RL.nq ?_
  obtain⟨aq,hj,o⟩:=bd o
  refine RC.jn (fun(aq:Bool)=>SH E V [(0,vp b0 0),(3,vp ah 0),(4,vp ae 0),(6,vi af),(14,v0_2),(15,vi p0_2.length),(16,vi af),(36,vb aq)] [bc 53 b0 [v0_0,v0_1,v0_2,v0_3,v0_4,v0_5,v0_6,v0_7,v0_8,v0_9,v0_10,v0_11],rd v0_2 p0_2,rd v0_5 p0_5,pt (vp ah 0) p1,raw 84 ae 2]) aq ?_ ?_
  ·refine RC.vV mixed [0,0,0,0,0,0,2,0,0,0,2,2,1,1,2,0] [0,1,2,3,4,5,6,7,8,9,12,13,10,11,14,15] ?_
   have j:=j.drew
   refine DP.e0 zr (RL.aX zr yJ (aW zr (RL.aM 0 j zr qF Ax (aW zr (mv (vb ax.fY) (DP.d0 (fA hj (fun ai hj=>?_) fun ai hj=>?_)))))))
   rotate_left
   ·refine DP.e0 zr (bC ai (aW zr (bC ai (aW zr (bC ai (oZ zr (bC ai (rB zr ?_))))))))
    refine fB ai (vb false) (aW zr (mv (vb false) (aW zr (kc (DP.d0 (DP.e1 undef zr (fun w=>kc DP.d1) (DP.e1 undef zr (fun w=>kc DP.d1) (DP.e2 zr ?_))))))))
    refine kc (EI zr (kc (EI zr (kc (rB zr (RL.pick false (vb false) zr (DP.d0 (DP.z ?_))))))))
    obtain rfl:=oi hj
    exact⟨rfl,j.sp 8 [3,4,5,6,7]⟩
   refine DP.e0 zr (RL.aZ (hg:=(cg ai)) (f:=(fun x=>x)) 0 j zr Fd.self mj fun a1 j=>(aW zr (RL.dV (hg:=(cg ai)) 7 j zr yG qG fun br j=>(aW zr (RL.bG (hg:=(cg ai)) p1.cU 0 j cL (oZ zr ?_))))))
   obtain⟨ay,a2,hj⟩:=bd hj
   refine RL.call (cg ai) zr Ki [a1,(vi p1.cU)] zr (aD (oV N (p1:=p1.cU) (i0:=1) j zr a2) ?_)
   rintro _ w ⟨rfl,j⟩
   refine rB zr (fB ai (vb ay) (aW zr (mv (vb ay) (DP.d0 (fA hj (fun ab hj=>?_) fun ab hj=>?_)))))
   rotate_left
   ·refine DP.e0 zr (bC ab (DP.d0 (DP.e1 undef zr (fun w=>bC ab DP.d1) (DP.e1 undef zr (fun w=>bC ab DP.d1) (DP.e2 zr (bC ab (EI zr (bC ab ?_))))))))
    refine EI zr (bC ab (rB zr (fB ab (vb false) (DP.d0 (DP.z ?_)))))
    obtain rfl:=oi hj
    exact⟨rfl,j.sp 10 [5,6,7,8,9]⟩
   refine DP.e0 zr (RL.aZ (hg:=(cg ab)) (f:=(fun x=>x)) 2 j zr Fd.self mj fun a3 j=>(DP.d0 (DP.CH 9 zr (cg ab) j zr yH qH fun bt j=>(DP.zT p1.At 0 zr (cg ab) j DW fun a4 a105 bu j=>(DP.e2 zr ?_)))))
   obtain⟨a5,a6,hj⟩:=bd hj
   refine RL.call (cg ab) zr Gu [a3] zr (aD (jr N (i0:=3) j zr a6) ?_)
   rintro a7 w j
   refine DP.d2 (⟨zt,j.iv 1⟩) (DP.e2 zr (RL.dN (hg:=(cg ab)) ([a5]: (List aI)) j [a7] jm oR (fun M hs g=>⟨(g.sat 0 _ zr).1,zt⟩) fun a8 w j=>(DP.d2 (⟨zt,j.iv 2⟩) (DP.e2 zr ?_))))
   have j:=j.freeze 0
   obtain⟨a9,ba,hj⟩:=bd hj
   refine RL.call (cg ab) zr Ly [a8,a4] zr (aD (qX N (i0:=0) (i1:=3) j zr zr ba) ?_)
   rintro _ w ⟨rfl,j⟩
   refine DP.d2 (⟨zt,j.iv 2⟩) (DP.e0 zr (fB ab (vb a9) (DP.d0 ?_)))
   have j:=j.pl 16 [0,1,3,4,5,6,7,8,9,10,11,12,13,14,15]
   refine DP.z ?_
   obtain rfl:=oi hj
   exact⟨rfl,j.sp 15 [10,11,12,13,14]⟩
  rintro _ w ⟨O,rfl,j⟩
  refine aH (dT o (fun hc o=>?_) fun hc o=>?_)
  rotate_left
  ·refine RC.skip (bP (aH (RC.region (RL.inc hk hm (mv (vi ((af+1:Nat):Int)) (RL.nil ?_))))))
   obtain rfl:=oi o
   exact⟨rfl,j.sp 5 [0,1,2,3,4]⟩
  refine RC.sr (mv (vi af) ?_)
  have j:=(j.sc Bool true).sc Int (af:Int)
  refine RL.build (⟨true,(af:Int)⟩:ka) trivial rfl j [(0,vb true),(1,vi af)] rfl GA rfl (fun M hs g=>by have h:=B6 M;exact cT.cons (f:=fun(x:ka) y=>{x with cA:=y}) h DT (g.sat 1 _ rfl).1 fun _ h=>cT.cons (f:=fun(x:ka) y=>{x with Number:=y}) h xL (g.sat 0 _ rfl).1 fun _ h=>cT.nil h) fun bw j=>?_
  refine RL.bZ 7 j 0 zr tJ fun w j=>?_
  refine aP (vb true) (RL.nt (RC.rb (bR ?_)))
  obtain rfl:=oi o
  exact⟨rfl,xu 7 j tJ fun bb j=>⟨bb,zr,j.pk 9 [0,4]⟩⟩
 ·intro r U w e hK
  subst e
  refine bR ?_
  obtain rfl:=oi o
  exact hK
 rintro al _ w rfl ⟨O,rfl,j⟩
 rw [Fo.cZ] at o
 refine aH (RC.seq (RC.sr (mv (vp b0 0) (RL.nilCheck zr (RL.aX zr yI (RL.bF 0 v0_5 j Gw (RL.bB 2 p0_5 j I2 (mv (vi 0) ?_))))))))
 refine RL.nt ?_
 obtain⟨bx,hN,o⟩:=bd o
 refine RC.range (fun(ag:Nat) (an:Unit)=>SH E V [(0,vp b0 0),(3,vp ah 0),(4,vp ae 0),(43,v0_5),(44,vi p0_5.length),(45,vi ag)] [bc 53 b0 [v0_0,v0_1,v0_2,v0_3,v0_4,v0_5,v0_6,v0_7,v0_8,v0_9,v0_10,v0_11],rd v0_2 p0_2,rd v0_5 p0_5,pt (vp ah 0) p1,raw 84 ae 2]) (fun(an:Unit)=>SH E V [(0,vp b0 0),(4,vp ae 0)] [bc 53 b0 [v0_0,v0_1,v0_2,v0_3,v0_4,v0_5,v0_6,v0_7,v0_8,v0_9,v0_10,v0_11],rd v0_2 p0_2,rd v0_5 p0_5,pt (vp ah 0) p1,raw 84 ae 2]) (pO E V b0 v0_0 v0_1 v0_2 v0_3 v0_4 v0_5 v0_6 v0_7 v0_8 v0_9 v0_10 v0_11) hN ?_ ?_ ?_ ?_ ?_
 ·exact j.sp 5 [0,1,2,3,4]
 ·rintro hm an _ w ⟨O,rfl,j⟩
  refine RC.sr (ic ((p0_5.length:Int)) ((p0_5.length:Int)) (RL.nq (RC.fu sA (RC.ex ?_))))
  exact⟨rfl,j.sp 5 [0,1,2,3,4]⟩
 ·rintro hm ag an fl _ w hk ⟨O,rfl,j⟩ o
  refine RC.sr (ic ((ag:Int)) ((p0_5.length:Int)) (RL.nq (RC.eZ (sw hk) (RC.ss (RC.bs (mv (vi ag) ?_))))))
  obtain⟨av,bf,o⟩:=bd o
  refine RL.bO 2 j Km bf fun bz j=>(RL.bJ 0 av j FQ fun b1 j=>(RL.alloc j HK.z fun b2 w j=>?_))
  refine aP (vi ag) (RL.bZ 0 j 1 zr FQ fun w j=>?_)
  refine RL.nq ?_
  obtain⟨aw,hj,o⟩:=bd o
  refine RC.jn (fun(aw:Bool)=>SH E V [(0,vp b0 0),(3,vp ah 0),(4,vp ae 0),(8,vi ag),(43,v0_5),(44,vi p0_5.length),(45,vi ag),(61,vb aw)] [bc 53 b0 [v0_0,v0_1,v0_2,v0_3,v0_4,v0_5,v0_6,v0_7,v0_8,v0_9,v0_10,v0_11],rd v0_2 p0_2,rd v0_5 p0_5,pt (vp ah 0) p1,raw 84 ae 2]) aw ?_ ?_
  ·refine RC.region (RL.aX zr FR (RL.aM 0 j zr rP cL (RL.dV 6 j zr yG qG fun b3 j=>(RL.bG p1.cU 0 j cL (ic av.cU p1.cU (mv (vb (av.cU==p1.cU)) (fA hj (fun ad hj=>?_) fun ad hj=>?_)))))))
   rotate_left
   ·refine bC ad (bC ad (bC ad (bC ad (bC ad (fB ad (vb false) (RL.nil ?_))))))
    obtain rfl:=oi hj
    exact⟨rfl,j.sp 9 [4,5,6,7,8]⟩
   refine RL.aX (hg:=(cg ad)) zr FT (RL.aZ (hg:=(cg ad)) 1 j zr rQ uy fun bg j=>(RL.dV (hg:=(cg ad)) 8 j zr yH qH fun b4 j=>(RL.bJ (hg:=(cg ad)) 0 p1.At j DW fun bh j=>?_)))
   obtain⟨bj,bk,hj⟩:=bd hj
   refine RL.call (cg ad) zr Ly [bg,bh] zr (aD (qX N (i0:=2) (i1:=0) j zr zr bk) ?_)
   rintro _ w ⟨rfl,j⟩
   refine fB ad (vb bj) (RL.nil ?_)
   obtain rfl:=oi hj
   exact⟨rfl,j.sp 12 [7,8,9,10,11]⟩
  rintro _ w ⟨O,rfl,j⟩
  refine aH (dT o (fun hc o=>?_) fun hc o=>?_)
  rotate_left
  ·refine RC.skip (bP (aH (RC.region (RL.inc hk hm (mv (vi ((ag+1:Nat):Int)) (RL.nil ?_))))))
   obtain rfl:=oi o
   exact⟨rfl,j.sp 5 [0,1,2,3,4]⟩
  refine RC.sr (mv (vi ag) ?_)
  have j:=j.sc Int (ag:Int)
  refine RL.build (⟨false,(ag:Int)⟩:ka) trivial rfl j [(1,vi ag)] rfl GA rfl (fun M hs g=>by have h:=B6 M;exact cT.cons (f:=fun(x:ka) y=>{x with Number:=y}) h xL (g.sat 0 _ rfl).1 fun _ h=>cT.nil h) fun b5 j=>?_
  refine RL.bZ 6 j 0 zr tJ fun w j=>?_
  refine aP (vb true) (RL.nt (RC.rb (bR ?_)))
  obtain rfl:=oi o
  exact⟨rfl,xu 6 j tJ fun bl j=>⟨bl,zr,j.pk 8 [0,3]⟩⟩
 ·intro r U w e hK
  subst e
  refine bR ?_
  obtain rfl:=oi o
  exact hK
 rintro an _ w rfl ⟨O,rfl,j⟩
 rw [Fo.cZ] at o
 refine aH (RC.sr (RL.build (⟨false,0⟩:ka) trivial rfl j [] rfl GA rfl (fun M hs g=>by have h:=B6 M;exact cT.nil h) fun b6 j=>?_))
 refine RL.bZ 5 j 0 zr tJ fun w j=>?_
 refine aP (vb false) (RL.nt (RC.ret ?_))
 obtain rfl:=oi o
 exact xu 5 j tJ fun bm j=>⟨bm,zr,j.pk 7 [0,2]⟩
def rF (E:World) (V:List HP) (b0:Nat) (v0_0 v0_1:Value) (v0_2 v0_3:Value) (v0_4 v0_5:Value) (v0_6 v0_7:Value) (v0_8 v0_9:Value) (v0_10 v0_11:Value) (res:Int) (v:Value) (w:World):Prop:=v= (vi res)/\Holds E w ([bc 53 b0 [v0_0,v0_1,v0_2,v0_3,v0_4,v0_5,v0_6,v0_7,v0_8,v0_9,v0_10,v0_11]]++V)
theorem qY {p0_8: (List Int)} {p0_9: (List Int)} {p1:ka} (j:Holds E w (bc 53 b0 [v0_0,v0_1,v0_2,v0_3,v0_4,v0_5,v0_6,v0_7,v0_8,v0_9,v0_10,v0_11]::rd v0_8 p0_8::rd v0_9 p0_9::V)) (h1:V[i1]? =some (rd v1 p1)) (o:iD N p0_8 p0_9 p1=some res):
    Calls bN 62 [(vp b0 0),v1].toArray w (gJ (rF E V b0 v0_0 v0_1 v0_2 v0_3 v0_4 v0_5 v0_6 v0_7 v0_8 v0_9 v0_10 v0_11 res)):=by
 unfold iD at o
 refine enter Tryz.func62 zr zr ?_
 have j:=j.dup (i1+3) h1
 refine RC.sr (RL.dD 0 v1 j zr fun ag w j=>?_)
 refine aP (vi 0) (RL.nq (RC.sr (RL.aX zr wT (RL.aM 0 j zr qO Ax (RL.nt (dT o (fun hc o=>?_) fun hc o=>?_))))))
 ·refine RC.seq (RC.zm mixed ?_)
  have j:=j.drew
  refine RO.go (mv (vp b0 0) (RO.nx (RL.nilCheck zr (RO.nx (RL.aX zr CJ (RO.nx (RL.bF 2 v0_9 j eV (RO.nx ?_))))))))
  refine RL.aX zr uX (RO.nx (RL.aM 0 j zr pF cL (RO.nx ?_)))
  obtain⟨aa,ae,o⟩:=bd o
  refine RL.bO 4 j eF ae fun ah j=>(RO.nx (RL.bG aa 0 j cL (RO.nx (aP (vi aa) (RO.last (aH (RC.rt ?_)))))))
  obtain rfl:=oi o
  exact bY ⟨rfl,j.pk 6 [3]⟩
 refine RC.ss (RC.zm mixed ?_)
 have j:=j.drew
 refine RO.go (mv (vp b0 0) (RO.nx (RL.nilCheck zr (RO.nx (RL.aX zr E7 (RO.nx (RL.bF 2 v0_8 j eV (RO.nx ?_))))))))
 refine RL.aX zr uX (RO.nx (RL.aM 0 j zr pF cL (RO.nx ?_)))
 obtain⟨ab,af,o⟩:=bd o
 refine RL.bO 3 j eF af fun ai j=>(RO.nx (RL.bG ab 0 j cL (RO.nx (aP (vi ab) (RO.last (aH (RC.ret ?_)))))))
 obtain rfl:=oi o
 exact bY ⟨rfl,j.pk 6 [3]⟩
end Go.Gk
