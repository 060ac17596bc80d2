/-
  Printed texts: Go functions as plain functions, and that they are. No statement of the seed is proved here.
-/
import Derived.Test.YtlffnmkhgkppkaaGreatDoorG1
import Derived.Test.YtlffnmkhgkppkaaGreatDoorG2
import Derived.Test.YtlffnmkhgkppkaaGreatDoorA2
set_option linter.unusedVariables false
set_option linter.unusedSimpArgs false
set_option linter.unusedSectionVars false
set_option maxRecDepth 100000
set_option maxHeartbeats 4000000
namespace Go.Gk
open Go Go.Proofs
variable (N:Nat) {E w:World} {b0 b1 i0 i1:Nat} {p0 p1 p2 res:Int} {v0 v0_0 v0_1 v0_10 v0_11 v0_2 v0_3 v0_4 v0_5 v0_6 v0_7 v0_8 v0_9 v1 v1_0 v2:Value} {V:List HP}
theorem m9 {p0:cH} {res:Bool} (j:Holds E w V) (h0:V[i0]? =some (rd v0 p0)) (hb:ke N p0 p1=some res):
    Calls bN 96 [v0,(vi p1)].toArray w (iv (bH E V res)):=by
 unfold ke at hb
 refine enter Tryz.func96 zr zr ?_
 have j:=j.dup (i0+0) h0
 refine RC.sr (RL.cX 0 v0 j zr fun o w j=>?_)
 refine aR (vb false) (RL.ns (RL.bT zr ri (RL.aX 0 j zr nE dH (mv (vi p1) (ic p0.cY p1 (mv (vb (decide (p0.cY<=p1))) (RL.gs true (decide (p0.cY<=p1)) (vi p1) zr zr zr dW (RL.gs true (decide (p0.cY<=p1)) (vp o 4) zr zr zr (f9 tp) ?_))))))))
 refine RL.gs true (decide (p0.cY<=p1)) (vi p0.To) rfl rfl rfl (cT 0 rfl j (fun h=>by exact(dN h:cv (true&&((decide (p0.cY<=p1))==true)) (vp o 4)= (vp o 4))) rfl oK dH) (RL.gs true (decide (p0.cY<=p1)) (vb (decide (p1<=p0.To))) rfl rfl rfl (fN .leq .i64 p1 p0.To rfl (fun h=>by exact(dN h:cv (true&&((decide (p0.cY<=p1))==true)) (vi p1)= (vi p1))) (fun h=>by exact(dN h:cv (true&&((decide (p0.cY<=p1))==true)) (vi p0.To)= (vi p0.To))) rfl) (RL.pick (decide (p0.cY<=p1)) (vb ((decide (p0.cY<=p1))&&(decide (p1<=p0.To)))) (k7 true) (aR (vb ((decide (p0.cY<=p1))&&(decide (p1<=p0.To)))) (RL.nt (RC.ret ?_)))))
 obtain rfl:=oi hb
 exact cS ⟨rfl,j.drop 2⟩
theorem rM {p0: (List aA)} {res: (List Int)×Int} (j:Holds E w V) (h0:V[i0]? =some (rd v0 p0)) (o:l3 N p0 p1 p2=some res):
    Calls bN 168 [v0,(vi p1),(vi p2)].toArray w (iv (sC E V res)):=by
 unfold l3 at o
 refine enter Tryz.func168 zr zr ?_
 have j:=j.dup (i0+0) h0
 refine RC.sr (aR (.slice none 0 0) (aR (vi 0) (RL.nq (RC.bs (mv v0 (RL.cC 0 p0 j ot (ic ((p0.length:Int)) 0 (aR (vb ((p0.length:Int)==0)) ?_))))))))
 refine RL.nt (fU o (fun hc o=>?_) fun hc o=>?_)
 ·refine RC.sr (mv (vi p2) (aR (.slice none 0 0) (aR (vi p2) (RL.nt (RC.rb (cO ?_))))))
  obtain rfl:=oi o
  have j:=j.xM Int
  exact nO ⟨(.slice none 0 0),zr,j.pk 2 [0]⟩
 refine RC.sr (mv (vi p1) (mv v0 ?_))
 obtain⟨ae,ag,o⟩:=bd o
 refine RL.cM 0 j kR ag fun al j=>(RL.j9 0 j zr oD ga fun an j=>(RL.bU ae.Y0 0 j dH (ic p1 ae.Y0 (aR (vb (decide (p1<ae.Y0))) (RL.nt (fU o (fun hc o=>?_) fun hc o=>?_))))))
 ·refine RC.seq (RC.y5 mixed ?_)
  have j:=j.drew
  refine RO.go (mv (vi p2) (RO.nx (mv v0 (RO.nx ?_))))
  obtain⟨aa,ah,o⟩:=bd o
  refine RL.cM 2 j kR ah fun ao j=>(RO.nx (RL.j9 0 j zr oD ga fun aq j=>(RO.nx (RL.bU aa.Y0 0 j dH (RO.nx (RL.min p2 aa.Y0 (RO.nx (aR (.slice none 0 0) ?_))))))))
  refine RO.nx (aR (vi (if aa.Y0<p2 then aa.Y0 else p2)) (RO.last (aG (RC.rb (cO ?_)))))
  obtain rfl:=oi o
  have j:=j.xM Int
  exact nO ⟨(.slice none 0 0),zr,j.pk 6 [0]⟩
 refine RC.skip (cG (aG (RC.seq (RC.y5 mixed ?_))))
 have j:=j.drew
 refine RO.go (mv v0 (RO.nx ?_))
 obtain⟨ai,aj,o⟩:=bd o
 refine RL.cM 2 j kR aj fun ar j=>(RO.nx (RL.j9 0 j zr lk dK fun au j=>(RO.nx (RL.cD 0 ai.Xs j fJ fun af j=>(RO.nx (mv (vi p2) (RO.nx (mv v0 ?_))))))))
 refine RO.nx ?_
 obtain⟨ab,ak,o⟩:=bd o
 refine RL.cM 5 j kR ak fun av j=>(RO.nx (RL.j9 0 j zr mB eY fun aw j=>(RO.nx (RL.bU ab.Y1 0 j dH (RO.nx (RL.min p2 ab.Y1 (RO.nx (aR af ?_))))))))
 refine RO.nx (aR (vi (if ab.Y1<p2 then ab.Y1 else p2)) (RO.last (aG (RC.ret ?_))))
 obtain rfl:=oi o
 exact nO ⟨af,zr,j.pk 8 [2]⟩
theorem zf {p0: (List Int)} {p1: (List Int)} {p2:Bool->Bool->Option Bool} {res: (List Int)} (j:Holds E w V) (h0:V[i0]? =some (rd v0 p0)) (h1:V[i1]? =some (rd v1 p1)) (h2:II bN E V v2 p2 (fun(r:Bool)=>Value.bool r)) (hb:oQ N p0 p1 p2=some res):
    Calls bN 169 [v0,v1,v2].toArray w (iv (lG E V res)):=by
 unfold oQ at hb
 refine enter Tryz.func169 zr zr ?_
 have j:=(j.dup (i0+0) h0).dup (i1+1) h1
 refine RC.sr (aR (.slice none 0 0) (RL.ns (aR (.slice none 0 0) (RL.ns (aR (vb false) (aR (vb false) (aR (vb false) (RL.nq ?_))))))))
 obtain⟨bu,hN,hb⟩:=bd hb
 refine RC.iter (fun(o: (List Int)×(List Int)×(List Int)×Bool×Bool×Bool) U w=>∃a7 a8 a9:Value,SH E V [(0,a7),(1,a8),(2,v2),(7,a9),(8,vb o.2.2.2.1),(9,vb o.2.2.2.2.1),(10,vb o.2.2.2.2.2)] [rd a7 o.1,rd a8 o.2.1,own 3 a9 o.2.2.1] U w) (fun(o: (List Int)×(List Int)×(List Int)×Bool×Bool×Bool) U w=>∃av:Value,SH E V [(7,av)] [own 3 av o.2.2.1] U w) (fun(r:Empty) _ _=>r.elim) hN ?_ ?_ ?_ ?_
 ·have j:=j.dC Int 3
  exact⟨v0,v1,(.slice none 0 0),j.sp 3 [2,1,0]⟩
 ·rintro o fl _ w ⟨ah,ad,ae,O,rfl,j⟩ hb
  refine RC.seq (RC.seq ?_)
  obtain⟨a1,hj,hb⟩:=bd hb
  refine RC.jn (fun(a1:Bool)=>SH E V [(0,ah),(1,ad),(2,v2),(7,ae),(8,vb o.2.2.2.1),(9,vb o.2.2.2.2.1),(10,vb o.2.2.2.2.2),(20,vb a1)] [rd ah o.1,rd ad o.2.1,own 3 ae o.2.2.1]) a1 ?_ ?_
  ·refine RC.region (mv ah (RL.cC 0 o.1 j m0 (ic ((o.1.length:Int)) 0 (mv (vb (decide ((o.1.length:Int)>0))) (gG hj (fun ao hj=>?_) fun ao hj=>?_)))))
   ·refine cB ao (cB ao (cB ao (gH ao (vb true) (RL.nil ?_))))
    obtain rfl:=oi hj
    exact⟨rfl,j.sp 3 [0,1,2]⟩
   refine RL.move ad (cg ao) (RL.cC (hg:=(cg ao)) 1 o.2.1 j m0 (RL.lr (o.2.1.length:Int) 0 (cg ao) (gH ao (vb (decide ((o.2.1.length:Int)>0))) (RL.nil ?_))))
   obtain rfl:=oi hj
   exact⟨rfl,j.sp 3 [0,1,2]⟩
  rintro _ w ⟨O,rfl,j⟩
  refine aG (fU hb (fun hc hb=>?_) fun hc hb=>?_)
  rotate_left
  ·refine RC.ex ?_
   obtain rfl:=oi hb
   exact⟨rfl,ae,j.sp 3 [2]⟩
  refine RC.sn (RC.bs (aR (vi 0) (RL.nq (RC.seq ?_))))
  obtain⟨a2,hj,hb⟩:=bd hb
  refine RC.jn (fun(a2:Bool)=>SH E V [(0,ah),(1,ad),(2,v2),(7,ae),(8,vb o.2.2.2.1),(9,vb o.2.2.2.2.1),(10,vb o.2.2.2.2.2),(37,vb a2)] [rd ah o.1,rd ad o.2.1,own 3 ae o.2.2.1]) a2 ?_ ?_
  ·refine RC.y5 mixed ?_
   have j:=j.drew
   refine RO.go (mv ad (RO.nx (RL.cC 1 o.2.1 j m0 (RO.nx (ic ((o.2.1.length:Int)) 0 (RO.nx (mv (vb ((o.2.1.length:Int)==0)) (gG hj (fun ai hj=>?_) fun ai hj=>?_))))))))
   ·refine RO.nx (cB ai (RO.nx (cB ai (RO.nx (cB ai (RO.nx (cB ai (RO.nx ?_))))))))
    refine pF (RO.nx (pF (RO.nx (pF (RO.nx (pF (RO.nx (pF ?_))))))))
    refine RO.nx (pF (RO.nx (pF (RO.nx (cB ai (RO.nx (gH ai (vb true) (RO.last ?_))))))))
    obtain rfl:=oi hj
    exact⟨rfl,j.sp 3 [0,1,2]⟩
   refine RO.nx (RL.move ah (cg ai) (RO.nx (RL.cC (hg:=(cg ai)) 0 o.1 j m0 (RO.nx (RL.lr (o.1.length:Int) 0 (cg ai) (RO.nx (RL.move (vb (decide ((o.1.length:Int)>0))) (cg ai) (gG hj (fun af hj=>?_) fun af hj=>?_))))))))
   rotate_left
   ·refine RO.nx (cB af (RO.nx (cB af (RO.nx (cB af (RO.nx (cB af (RO.nx ?_))))))))
    refine cB af (RO.nx (cB af (RO.nx (cB af (RO.nx (gH af (vb false) (hg:=(cg ai)) (RO.nx (gH ai (vb false) ?_))))))))
    refine RO.last ?_
    obtain rfl:=oi hj
    exact⟨rfl,j.sp 3 [0,1,2]⟩
   refine RO.nx (RL.move ah (cg af) (RO.nx ?_))
   obtain⟨ax,bj,hj⟩:=bd hj
   refine RL.cM (hg:=(cg af)) 0 j fF bj fun bx j=>(RO.nx (RL.bU (hg:=(cg af)) ax 0 j dH (RO.nx (RL.move ad (cg af) (RO.nx ?_)))))
   obtain⟨ay,bk,hj⟩:=bd hj
   refine RL.cM (hg:=(cg af)) 2 j fF bk fun bz j=>(RO.nx (RL.bU (hg:=(cg af)) ay 0 j dH (RO.nx (RL.lr ax ay (cg af) (RO.nx (gH af (vb (decide (ax<=ay))) (hg:=(cg ai)) (RO.nx (gH ai (vb (decide (ax<=ay))) ?_))))))))
   refine RO.last ?_
   obtain rfl:=oi hj
   exact⟨rfl,j.sp 5 [2,3,4]⟩
  rintro _ w ⟨O,rfl,j⟩
  refine aG ?_
  obtain⟨ag,hj,hb⟩:=bd hb
  refine RC.jn (fun(ag:Int)=>SH E V [(0,ah),(1,ad),(2,v2),(7,ae),(8,vb o.2.2.2.1),(9,vb o.2.2.2.2.1),(10,vb o.2.2.2.2.2),(11,vi ag)] [rd ah o.1,rd ad o.2.1,own 3 ae o.2.2.1]) ag ?_ ?_
  ·refine fU hj (fun hc hj=>?_) fun hc hj=>?_
   ·refine RC.region (mv ah ?_)
    obtain⟨ba,bl,hj⟩:=bd hj
    refine RL.cM 0 j fF bl fun b0 j=>(RL.bU ba 0 j dH (aR (vi ba) (RL.nil ?_)))
    obtain rfl:=oi hj
    exact⟨rfl,j.sp 4 [1,2,3]⟩
   refine RC.region (mv ad ?_)
   obtain⟨bb,bm,hj⟩:=bd hj
   refine RL.cM 1 j fF bm fun b1 j=>(RL.bU bb 0 j dH (aR (vi bb) (RL.nil ?_)))
   obtain rfl:=oi hj
   exact⟨rfl,j.sp 4 [1,2,3]⟩
  rintro _ w ⟨O,rfl,j⟩
  refine aG (RC.seq (RC.seq ?_))
  obtain⟨a3,hj,hb⟩:=bd hb
  refine RC.jn (fun(a3:Bool)=>SH E V [(0,ah),(1,ad),(2,v2),(7,ae),(8,vb o.2.2.2.1),(9,vb o.2.2.2.2.1),(10,vb o.2.2.2.2.2),(11,vi ag),(53,vb a3)] [rd ah o.1,rd ad o.2.1,own 3 ae o.2.2.1]) a3 ?_ ?_
  ·refine RC.region (mv ah (RL.cC 0 o.1 j m0 (ic ((o.1.length:Int)) 0 (mv (vb (decide ((o.1.length:Int)>0))) (gG hj (fun aj hj=>?_) fun aj hj=>?_)))))
   rotate_left
   ·refine cB aj (cB aj (cB aj (cB aj (cB aj (gH aj (vb false) (RL.nil ?_))))))
    obtain rfl:=oi hj
    exact⟨rfl,j.sp 3 [0,1,2]⟩
   refine RL.move ah (cg aj) ?_
   obtain⟨a4,bn,hj⟩:=bd hj
   refine RL.cM (hg:=(cg aj)) 0 j fF bn fun b2 j=>(RL.bU (hg:=(cg aj)) a4 0 j dH (RL.move (vi ag) (cg aj) (RL.lr a4 ag (cg aj) (gH aj (vb (a4==ag)) (RL.nil ?_)))))
   obtain rfl:=oi hj
   exact⟨rfl,j.sp 4 [1,2,3]⟩
  rintro _ w ⟨O,rfl,j⟩
  refine aG ?_
  obtain⟨al,hj,hb⟩:=bd hb
  refine RC.jn (fun(al: (List Int)×Bool) U w=>∃an:Value,SH E V [(0,an),(1,ad),(2,v2),(7,ae),(8,vb al.2),(9,vb o.2.2.2.2.1),(10,vb o.2.2.2.2.2),(11,vi ag)] [rd ad o.2.1,own 3 ae o.2.2.1,rd an al.1] U w) al ?_ ?_
  ·refine fU hj (fun hc hj=>?_) fun hc hj=>?_
   rotate_left
   ·refine RC.skip ?_
    obtain rfl:=oi hj
    exact⟨rfl,ah,j.sp 3 [1,2,0]⟩
   refine RC.region (mv ah ?_)
   obtain⟨b3,bo,hj⟩:=bd hj
   refine RL.cut 0 j fF (.inr ⟨rfl,zr⟩) bo fun bc j=>(mv (vb o.2.2.2.1) (RL.not o.2.2.2.1 (aR bc (aR (vb (!o.2.2.2.1)) (RL.nil ?_)))))
   obtain rfl:=oi hj
   exact⟨rfl,bc,j.sp 4 [2,3,0]⟩
  rintro _ w ⟨an,O,rfl,j⟩
  refine aG (RC.seq (RC.seq ?_))
  obtain⟨a5,hj,hb⟩:=bd hb
  refine RC.jn (fun(a5:Bool)=>SH E V [(0,an),(1,ad),(2,v2),(7,ae),(8,vb al.2),(9,vb o.2.2.2.2.1),(10,vb o.2.2.2.2.2),(11,vi ag),(67,vb a5)] [rd an al.1,rd ad o.2.1,own 3 ae o.2.2.1]) a5 ?_ ?_
  ·refine RC.region (mv ad (RL.cC 0 o.2.1 j m0 (ic ((o.2.1.length:Int)) 0 (mv (vb (decide ((o.2.1.length:Int)>0))) (gG hj (fun ak hj=>?_) fun ak hj=>?_)))))
   rotate_left
   ·refine cB ak (cB ak (cB ak (cB ak (cB ak (gH ak (vb false) (RL.nil ?_))))))
    obtain rfl:=oi hj
    exact⟨rfl,j.sp 3 [2,0,1]⟩
   refine RL.move ad (cg ak) ?_
   obtain⟨a6,bp,hj⟩:=bd hj
   refine RL.cM (hg:=(cg ak)) 0 j fF bp fun b4 j=>(RL.bU (hg:=(cg ak)) a6 0 j dH (RL.move (vi ag) (cg ak) (RL.lr a6 ag (cg ak) (gH ak (vb (a6==ag)) (RL.nil ?_)))))
   obtain rfl:=oi hj
   exact⟨rfl,j.sp 4 [3,1,2]⟩
  rintro _ w ⟨O,rfl,j⟩
  refine aG ?_
  obtain⟨ar,hj,hb⟩:=bd hb
  refine RC.jn (fun(ar: (List Int)×Bool) U w=>∃au:Value,SH E V [(0,an),(1,au),(2,v2),(7,ae),(8,vb al.2),(9,vb ar.2),(10,vb o.2.2.2.2.2),(11,vi ag)] [rd an al.1,own 3 ae o.2.2.1,rd au ar.1] U w) ar ?_ ?_
  ·refine fU hj (fun hc hj=>?_) fun hc hj=>?_
   rotate_left
   ·refine RC.skip ?_
    obtain rfl:=oi hj
    exact⟨rfl,ad,j.sp 3 [0,2,1]⟩
   refine RC.region (mv ad ?_)
   obtain⟨b5,bq,hj⟩:=bd hj
   refine RL.cut 1 j fF (.inr ⟨rfl,zr⟩) bq fun bf j=>(mv (vb o.2.2.2.2.1) (RL.not o.2.2.2.2.1 (aR bf (aR (vb (!o.2.2.2.2.1)) (RL.nil ?_)))))
   obtain rfl:=oi hj
   exact⟨rfl,bf,j.sp 4 [1,3,0]⟩
  rintro _ w ⟨au,O,rfl,j⟩
  refine aG (RC.sr (mv v2 (mv (vb al.2) (mv (vb ar.2) ?_))))
  have j:=(j.sc Bool al.2).sc Bool ar.2
  obtain⟨aw,br,hb⟩:=bd hb
  refine RL.C3 1 0 zt zr j zr h2 5 zr zr zr zr zr br fun w j=>(aR (vb aw) (RL.ns (mv (vb aw) (mv (vb o.2.2.2.2.2) (RL.Ak aw o.2.2.2.2.2 zt zr zr zr Jj (RL.nt ?_))))))
  obtain⟨az,hj,hb⟩:=bd hb
  refine RC.jn (fun(az: (List Int)×Bool) U w=>∃a0:Value,SH E V [(0,an),(1,au),(2,v2),(7,a0),(8,vb al.2),(9,vb ar.2),(10,vb az.2)] [rd an al.1,rd au ar.1,own 3 a0 az.1] U w) az ?_ ?_
  ·refine fU hj (fun hc hj=>?_) fun hc hj=>?_
   rotate_left
   ·refine RC.skip ?_
    obtain rfl:=oi hj
    exact⟨rfl,ae,j.sp 5 [2,4,3]⟩
   refine RC.region (mv ae (mv (vi ag) ?_))
   have j:=j.sc Int ag
   refine RL.fD ([ag]: (List Int)) j [(vi ag)] fF Hd (fun M hs g=>⟨(g.sat 0 _ zr).1,zt⟩) fun b6 w j=>?_
   have j:=j.freeze 0
   obtain⟨b7,bt,hj⟩:=bd hj
   refine RL.app 5 0 j wy bt fun bg w j=>?_
   refine mv (vb aw) (aR bg (aR (vb aw) (RL.nil ?_)))
   obtain rfl:=oi hj
   exact⟨rfl,bg,j.sp 7 [4,6,5]⟩
  rintro _ w ⟨a0,O,rfl,j⟩
  refine cG ?_
  obtain rfl:=oi hb
  exact⟨rfl,an,au,a0,j.sp 3 [0,1,2]⟩
 ·intro r _ _ _ _
  exact r.elim
 rintro o _ w rfl ⟨av,O,rfl,j⟩
 rw [Fo.gw] at hb
 refine aG (RC.sr (mv av (aR av (RL.nt (RC.ret ?_)))))
 obtain rfl:=oi hb
 exact cS (j.pk 1 [0])
theorem ye {p0: (List aA)} {p1: (List aA)} {p2:Bool->Bool->Option Bool} {res: (List aA)} (j:Holds E w V) (h0:V[i0]? =some (rd v0 p0)) (h1:V[i1]? =some (rd v1 p1)) (h2:II bN E V v2 p2 (fun(r:Bool)=>Value.bool r)) (o:nQ N p0 p1 p2=some res):
    Calls bN 137 [v0,v1,v2].toArray w (iv (l7 E V res)):=by
 unfold nQ at o
 refine enter Tryz.func137 zr zr ?_
 have j:=(j.dup (i0+0) h0).dup (i1+1) h1
 refine RC.sr (aR (.slice none 0 0) (RL.ns (aR (.slice none 0 0) (RL.nq (RC.sr (mv v0 (RL.cC 1 p0 j ot (mv v1 ?_))))))))
 refine RL.cC 0 p1 j ot (RL.kr (p0.length:Int) (p1.length:Int) (ic ((IntKind.wrap .i64 ((p0.length:Int)+ (p1.length:Int)))) 0 (RL.nt (fU o (fun hc o=>?_) fun hc o=>?_))))
 ·refine RC.sr (aR (.slice none 0 0) (RL.nt (RC.rt ?_)))
  obtain rfl:=oi o
  have j:=j.dC aA 188
  exact cS (j.pk 3 [0])
 refine RC.sx (aR (vi 0) (aR (vi 0) (RL.nq (RC.sr (mv v0 (mv v1 (RL.fD ([p0,p1]: (List (List aA))) j [v0,v1] B8 Gd (fun M hs g=>⟨(g.sat 1 _ zr).1,⟨(g.sat 0 _ zr).1,zt⟩⟩) fun ar w j=>(RL.eH 0 ([p0,p1]: (List (List aA))) j Ih ?_))))))))
 refine mv (vi 0) (RL.nt ?_)
 obtain⟨ad,hN,o⟩:=bd o
 refine RC.fold (fun(aj:Nat) (ad:Int×Int)=>SH E V [(0,v0),(1,v1),(2,v2),(7,(.slice none 0 0)),(8,vi ad.1),(9,vi ad.2),(25,ar),(26,(vi ((([p0,p1]: (List (List aA))).length:Nat):Int))),(27,vi aj)] [rd v0 p0,rd v1 p1,own 137 ar ([p0,p1]: (List (List aA)))]) (fun(ad:Int×Int)=>SH E V [(0,v0),(1,v1),(2,v2),(7,(.slice none 0 0)),(8,vi ad.1),(9,vi ad.2)] [rd v0 p0,rd v1 p1,own 137 ar ([p0,p1]: (List (List aA)))]) hN ?_ ?_ ?_ ?_
 ·exact j.sp 3 [2,1,0]
 ·rintro hm ad _ w ⟨O,rfl,j⟩
  refine RC.sr (ic (((([p0,p1]: (List (List aA))).length:Nat):Int)) (((([p0,p1]: (List (List aA))).length:Nat):Int)) (RL.nq (RC.dS pD (RC.ex ?_))))
  exact⟨rfl,j.sp 3 [0,1,2]⟩
 ·rintro hm aj ad s' _ w hk ⟨O,rfl,j⟩ o
  refine RC.sr (ic ((aj:Int)) (((([p0,p1]: (List (List aA))).length:Nat):Int)) (RL.nq (RC.dR (pC hk) (RC.ss (RC.bs (mv (vi aj) ?_))))))
  obtain⟨aw,a8,o⟩:=bd o
  refine RL.bO 2 j zr zr B8 a8 (RL.gA (f:=(fun x=>x)) 2 j (ku 2 j a8 0) (bC a8).2.1 Fd.self Ii fun ak j=>?_)
  refine aR (vi aj) (aR ak (RL.ns (mv ak (RL.cC 0 aw j ot (ic ((aw.length:Int)) 0 (RL.nt ?_))))))
  obtain⟨a5,hj,o⟩:=bd o
  refine RC.jn (fun(a5:Int×Int)=>SH E V [(0,v0),(1,v1),(2,v2),(7,(.slice none 0 0)),(8,vi a5.1),(9,vi a5.2),(25,ar),(26,(vi ((([p0,p1]: (List (List aA))).length:Nat):Int))),(27,vi aj)] [rd v0 p0,rd v1 p1,own 137 ar ([p0,p1]: (List (List aA)))]) a5 ?_ ?_
  ·refine fU hj (fun hc hj=>?_) fun hc hj=>?_
   rotate_left
   ·refine RC.skip ?_
    obtain rfl:=oi hj
    exact⟨rfl,j.sp 4 [1,2,3]⟩
   refine RC.seq (RC.seq ?_)
   obtain⟨a9,hjj,hj⟩:=bd hj
   refine RC.jn (fun(a9:Bool)=>SH E V [(0,v0),(1,v1),(2,v2),(7,(.slice none 0 0)),(8,vi ad.1),(9,vi ad.2),(11,ak),(25,ar),(26,(vi ((([p0,p1]: (List (List aA))).length:Nat):Int))),(27,vi aj),(41,vb a9)] [rd v0 p0,rd v1 p1,rd ak aw,own 137 ar ([p0,p1]: (List (List aA)))]) a9 ?_ ?_
   ·refine RC.region (mv (vi aj) (ic ((aj:Int)) 0 (mv (vb ((aj:Int)==0)) (gG hjj (fun au hjj=>?_) fun au hjj=>?_))))
    ·refine cB au (cB au (cB au (gH au (vb true) (RL.nil ?_))))
     obtain rfl:=oi hjj
     exact⟨rfl,j.sp 4 [1,2,0,3]⟩
    refine RL.move v0 (cg au) (RL.cC (hg:=(cg au)) 1 p0 j ot (RL.lr (p0.length:Int) 0 (cg au) (gH au (vb ((p0.length:Int)==0)) (RL.nil ?_))))
    obtain rfl:=oi hjj
    exact⟨rfl,j.sp 4 [1,2,0,3]⟩
   rintro _ w ⟨O,rfl,j⟩
   refine aG ?_
   obtain⟨al,hjj,hj⟩:=bd hj
   refine RC.jn (fun(al:Int×Int)=>SH E V [(0,v0),(1,v1),(2,v2),(7,(.slice none 0 0)),(8,vi al.1),(9,vi al.2),(11,ak),(25,ar),(26,(vi ((([p0,p1]: (List (List aA))).length:Nat):Int))),(27,vi aj)] [rd v0 p0,rd v1 p1,rd ak aw,own 137 ar ([p0,p1]: (List (List aA)))]) al ?_ ?_
   ·refine fU hjj (fun hc hjj=>?_) fun hc hjj=>?_
    rotate_left
    ·refine RC.skip ?_
     obtain rfl:=oi hjj
     exact⟨rfl,j.sp 4 [0,1,2,3]⟩
    refine RC.y5 mixed ?_
    have j:=j.drew
    refine RO.go (mv ak (RO.nx ?_))
    obtain⟨bj,bw,hjj⟩:=bd hjj
    refine RL.cM 2 j kR bw fun cd j=>(RO.nx (RL.j9 0 j zr oD ga fun cf j=>(RO.nx (RL.bU bj.Y0 0 j dH (RO.nx (mv ak (RO.nx (mv ak ?_))))))))
    refine RO.nx (RL.cC 4 aw j ot (RO.nx (RL.kr (aw.length:Int) 1 (RO.nx ?_))))
    obtain⟨bk,bx,hjj⟩:=bd hjj
    refine RL.cM 4 j kR bx fun ch j=>(RO.nx (RL.j9 0 j zr mB eY fun cj j=>(RO.nx (RL.bU bk.Y1 0 j dH (RO.nx (aR (vi bj.Y0) (RO.nx (aR (vi bk.Y1) ?_))))))))
    refine RO.last ?_
    obtain rfl:=oi hjj
    exact⟨rfl,j.sp 8 [4,5,6,7]⟩
   rintro _ w ⟨O,rfl,j⟩
   refine aG (RC.y5 mixed ?_)
   have j:=j.drew
   refine RO.go (mv (vi al.1) (RO.nx (mv ak (RO.nx ?_))))
   obtain⟨a6,bz,hj⟩:=bd hj
   refine RL.cM 2 j kR bz fun ck j=>(RO.nx (RL.j9 0 j zr oD ga fun cl j=>(RO.nx (RL.bU a6.Y0 0 j dH (RO.nx (RL.min al.1 a6.Y0 (RO.nx (mv (vi al.2) ?_))))))))
   refine RO.nx (mv ak (RO.nx (mv ak (RO.nx (RL.cC 4 aw j ot (RO.nx (RL.kr (aw.length:Int) 1 (RO.nx ?_))))))))
   obtain⟨a7,b0,hj⟩:=bd hj
   refine RL.cM 4 j kR b0 fun cm j=>(RO.nx (RL.j9 0 j zr mB eY fun cn j=>(RO.nx (RL.bU a7.Y1 0 j dH (RO.nx (RL.max al.2 a7.Y1 (RO.nx (aR (vi (if a6.Y0<al.1 then a6.Y0 else al.1)) ?_))))))))
   refine RO.nx (aR (vi (if al.2<a7.Y1 then a7.Y1 else al.2)) (RO.last ?_))
   obtain rfl:=oi hj
   exact⟨rfl,j.sp 8 [4,5,7]⟩
  rintro _ w ⟨O,rfl,j⟩
  refine cG (aG (RC.region (RL.inc hk hm (mv (vi ((aj+1:Nat):Int)) (RL.nil ?_)))))
  obtain rfl:=oi o
  exact⟨rfl,j.sp 3 [0,1,2]⟩
 rintro _ w ⟨O,rfl,j⟩
 refine aG (RC.seq ?_)
 obtain⟨cp,hN,o⟩:=bd o
 refine RC.iter (fun(aa: (List aA)×(List aA)×(List aA)×Int) U w=>∃bl bm bn:Value,SH E V [(0,bl),(1,bm),(2,v2),(7,bn),(8,vi aa.2.2.2),(9,vi ad.2)] [rd bl aa.1,rd bm aa.2.1,own 188 bn aa.2.2.1] U w) (fun(aa: (List aA)×(List aA)×(List aA)×Int) U w=>∃a2:Value,SH E V [(7,a2)] [own 188 a2 aa.2.2.1] U w) (fun(r:Empty) _ _=>r.elim) hN ?_ ?_ ?_ ?_
 ·have j:=j.dC aA 188
  exact⟨v0,v1,(.slice none 0 0),j.sp 4 [1,2,0]⟩
 ·rintro aa fl _ w ⟨b1,ay,ag,O,rfl,j⟩ o
  refine RC.seq (RC.sr (mv (vi aa.2.2.2) (mv (vi ad.2) (ic aa.2.2.2 ad.2 (RL.nt (fU o (fun hc o=>?_) fun hc o=>?_))))))
  rotate_left
  ·refine RC.ex ?_
   obtain rfl:=oi o
   exact⟨rfl,ag,j.sp 3 [2]⟩
  refine RC.sn (RC.block (RC.seq ?_))
  obtain⟨cq,hN,o⟩:=bd o
  refine RC.iter (fun(an: (List aA)) U w=>∃bp:Value,SH E V [(0,bp),(1,ay),(2,v2),(7,ag),(8,vi aa.2.2.2),(9,vi ad.2)] [rd ay aa.2.1,own 188 ag aa.2.2.1,rd bp an] U w) (fun(an: (List aA)) U w=>∃ao:Value,SH E V [(0,ao),(1,ay),(2,v2),(7,ag),(8,vi aa.2.2.2),(9,vi ad.2)] [rd ay aa.2.1,own 188 ag aa.2.2.1,rd ao an] U w) (fun(r:Empty) _ _=>r.elim) hN ?_ ?_ ?_ ?_
  ·exact⟨b1,j.sp 3 [1,2,0]⟩
  ·rintro an fl _ w ⟨az,O,rfl,j⟩ o
   refine RC.seq (RC.seq ?_)
   obtain⟨ba,hj,o⟩:=bd o
   refine RC.jn (fun(ba:Bool)=>SH E V [(0,az),(1,ay),(2,v2),(7,ag),(8,vi aa.2.2.2),(9,vi ad.2),(82,vb ba)] [rd az an,rd ay aa.2.1,own 188 ag aa.2.2.1]) ba ?_ ?_
   ·refine RC.region (mv az (RL.cC 2 an j ot (ic ((an.length:Int)) 0 (mv (vb (decide ((an.length:Int)>0))) (gG hj (fun ah hj=>?_) fun ah hj=>?_)))))
    rotate_left
    ·refine cB ah (cB ah (cB ah (cB ah (cB ah (cB ah (gH ah (vb false) (RL.nil ?_)))))))
     obtain rfl:=oi hj
     exact⟨rfl,j.sp 3 [2,0,1]⟩
    refine RL.move az (cg ah) ?_
    obtain⟨bb,b2,hj⟩:=bd hj
    refine RL.cM (hg:=(cg ah)) 2 j kR b2 fun cr j=>(RL.j9 (hg:=(cg ah)) 0 j zr mB eY fun ct j=>(RL.bU (hg:=(cg ah)) bb.Y1 0 j dH (RL.move (vi aa.2.2.2) (cg ah) (RL.lr bb.Y1 aa.2.2.2 (cg ah) (gH ah (vb (decide (bb.Y1<=aa.2.2.2))) (RL.nil ?_))))))
    obtain rfl:=oi hj
    exact⟨rfl,j.sp 5 [4,2,3]⟩
   rintro _ w ⟨O,rfl,j⟩
   refine aG (fU o (fun hc o=>?_) fun hc o=>?_)
   rotate_left
   ·refine RC.ex ?_
    obtain rfl:=oi o
    exact⟨rfl,az,j.sp 3 [1,2,0]⟩
   refine RC.sn (RC.block (RC.region (mv az ?_)))
   obtain⟨cu,b3,o⟩:=bd o
   refine RL.cut 0 j kR (.inr ⟨rfl,zr⟩) b3 fun bq j=>(aR bq (RL.nil (cG ?_)))
   obtain rfl:=oi o
   exact⟨rfl,bq,j.sp 4 [2,3,0]⟩
  ·intro r _ _ _ _
   exact r.elim
  rintro an _ w rfl ⟨ao,O,rfl,j⟩
  rw [Fo.gw] at o
  refine aG (RC.seq ?_)
  obtain⟨cv,hN,o⟩:=bd o
  refine RC.iter (fun(av: (List aA)) U w=>∃br:Value,SH E V [(0,ao),(1,br),(2,v2),(7,ag),(8,vi aa.2.2.2),(9,vi ad.2)] [rd ao an,own 188 ag aa.2.2.1,rd br av] U w) (fun(av: (List aA)) U w=>∃a0:Value,SH E V [(0,ao),(1,a0),(2,v2),(7,ag),(8,vi aa.2.2.2),(9,vi ad.2)] [rd ao an,own 188 ag aa.2.2.1,rd a0 av] U w) (fun(r:Empty) _ _=>r.elim) hN ?_ ?_ ?_ ?_
  ·exact⟨ay,j.sp 3 [2,1,0]⟩
  ·rintro av fl _ w ⟨a1,O,rfl,j⟩ o
   refine RC.seq (RC.seq ?_)
   obtain⟨bc,hj,o⟩:=bd o
   refine RC.jn (fun(bc:Bool)=>SH E V [(0,ao),(1,a1),(2,v2),(7,ag),(8,vi aa.2.2.2),(9,vi ad.2),(95,vb bc)] [rd ao an,rd a1 av,own 188 ag aa.2.2.1]) bc ?_ ?_
   ·refine RC.region (mv a1 (RL.cC 2 av j ot (ic ((av.length:Int)) 0 (mv (vb (decide ((av.length:Int)>0))) (gG hj (fun ai hj=>?_) fun ai hj=>?_)))))
    rotate_left
    ·refine cB ai (cB ai (cB ai (cB ai (cB ai (cB ai (gH ai (vb false) (RL.nil ?_)))))))
     obtain rfl:=oi hj
     exact⟨rfl,j.sp 3 [0,2,1]⟩
    refine RL.move a1 (cg ai) ?_
    obtain⟨bf,b4,hj⟩:=bd hj
    refine RL.cM (hg:=(cg ai)) 2 j kR b4 fun cw j=>(RL.j9 (hg:=(cg ai)) 0 j zr mB eY fun cx j=>(RL.bU (hg:=(cg ai)) bf.Y1 0 j dH (RL.move (vi aa.2.2.2) (cg ai) (RL.lr bf.Y1 aa.2.2.2 (cg ai) (gH ai (vb (decide (bf.Y1<=aa.2.2.2))) (RL.nil ?_))))))
    obtain rfl:=oi hj
    exact⟨rfl,j.sp 5 [2,4,3]⟩
   rintro _ w ⟨O,rfl,j⟩
   refine aG (fU o (fun hc o=>?_) fun hc o=>?_)
   rotate_left
   ·refine RC.ex ?_
    obtain rfl:=oi o
    exact⟨rfl,a1,j.sp 3 [0,2,1]⟩
   refine RC.sn (RC.block (RC.region (mv a1 ?_)))
   obtain⟨cy,b5,o⟩:=bd o
   refine RL.cut 1 j kR (.inr ⟨rfl,zr⟩) b5 fun bt j=>(aR bt (RL.nil (cG ?_)))
   obtain rfl:=oi o
   exact⟨rfl,bt,j.sp 4 [1,3,0]⟩
  ·intro r _ _ _ _
   exact r.elim
  rintro av _ w rfl ⟨a0,O,rfl,j⟩
  rw [Fo.gw] at o
  refine aG (RC.sr (mv ao (mv (vi aa.2.2.2) (mv (vi ad.2) ?_))))
  obtain⟨ae,b6,o⟩:=bd o
  refine RL.call zt zr Ij [ao,(vi aa.2.2.2),(vi ad.2)] zr (aF (rM N (p1:=aa.2.2.2) (p2:=ad.2) (i0:=0) j zr b6) ?_)
  rintro _ w ⟨a3,rfl,j⟩
  refine mv (.tuple #[a3,(vi ae.2)]) (RL.extract a3 (RL.extract (vi ae.2) (aR a3 (aR (vi ae.2) (RL.ns (mv a0 (mv (vi aa.2.2.2) (mv (vi ad.2) ?_))))))))
  obtain⟨af,b7,o⟩:=bd o
  refine RL.call zt zr Ij [a0,(vi aa.2.2.2),(vi ad.2)] zr (aF (rM N (p1:=aa.2.2.2) (p2:=ad.2) (i0:=3) j zr b7) ?_)
  rintro _ w ⟨a4,rfl,j⟩
  refine mv (.tuple #[a4,(vi af.2)]) (RL.extract a4 (RL.extract (vi af.2) (aR a4 (aR (vi af.2) (RL.ns (mv (vi ae.2) (mv (vi af.2) (RL.min ae.2 af.2 ?_))))))))
  refine aR (vi (if af.2<ae.2 then af.2 else ae.2)) (RL.ns (mv ag (mv (vi aa.2.2.2) (mv (vi (if af.2<ae.2 then af.2 else ae.2)) (mv a3 (mv a4 (mv v2 ?_)))))))
  obtain⟨b8,b9,o⟩:=bd o
  refine RL.call zt zr Kc [a3,a4,v2] zr (aF (zf N (i0:=1) (i1:=0) j zr zr (h2.lift 5 zr) b9) ?_)
  rintro ca w j
  have j:=((j.sc Int aa.2.2.2).sc Int (if af.2<ae.2 then af.2 else ae.2)).freeze 2
  refine RL.build (⟨aa.2.2.2,(if af.2<ae.2 then af.2 else ae.2),b8⟩:aA) trivial rfl j [(0,vi aa.2.2.2),(1,(vi (if af.2<ae.2 then af.2 else ae.2))),(2,ca)] rfl H9 rfl (fun M hs g=>by have h:=vf M;exact dY.cons (f:=fun(x:aA) y=>{x with Y0:=y}) h rJ (g.sat 1 _ rfl).1 fun _ h=>dY.cons (f:=fun(x:aA) y=>{x with Y1:=y}) h n9 (g.sat 0 _ rfl).1 fun _ h=>dY.cons (f:=fun(x:aA) y=>{x with Xs:=y}) h rK (g.sat 2 _ rfl).1 fun _ h=>dY.nil h) fun cb j=>?_
  have j:=j.pull 7
  obtain⟨cz,cc,o⟩:=bd o
  refine RL.call zt zr Ia [ag,cb] zr (aF (pJ N (i1:=0) j zr cc) ?_)
  rintro bu w j
  refine aR bu (RL.nt (RC.region (mv (vi (if af.2<ae.2 then af.2 else ae.2)) (aR (vi (if af.2<ae.2 then af.2 else ae.2)) (RL.nil (cG ?_))))))
  obtain rfl:=oi o
  exact⟨rfl,ao,a0,bu,j.sp 10 [7,9,0]⟩
 ·intro r _ _ _ _
  exact r.elim
 rintro aa _ w rfl ⟨a2,O,rfl,j⟩
 rw [Fo.gw] at o
 refine aG (RC.sr (mv a2 (aR a2 (RL.nt (RC.ret ?_)))))
 obtain rfl:=oi o
 exact cS (j.pk 1 [0])
theorem sL {p0 p1 res:Bool} (o:Holds E w V) (j:mV N p0 p1=some res):
    Calls bN 138 [(vb p0),(vb p1)].toArray w (iv (bH E V res)):=by
 unfold mV at j
 refine enter Tryz.func138 rfl rfl (RC.sr (aR (vb false) (RL.ns (mv (vb p0) (mv (vb p0) (RL.gs true p0 (vb p1) rfl rfl rfl dW (RL.gs true p0 (vb (!p1)) rfl rfl rfl (Ag p1 rfl (fun h=>by exact(dN h:cv (true&&(p0==true)) (vb p1)= (vb p1)))) (RL.pick p0 (vb (p0&&(!p1))) (k7 true) ?_))))))))
 refine aR (vb (p0&&(!p1))) (RL.nt (RC.ret ?_))
 obtain rfl:=oi j
 exact cS ⟨rfl,o.drop 0⟩
theorem vu {p0: (List aA)} {p1: (List aA)} {res: (List aA)} (o:Holds E w V) (h0:V[i0]? =some (rd v0 p0)) (h1:V[i1]? =some (rd v1 p1)) (hb:kf N p0 p1=some res):
    Calls bN 97 [v0,v1].toArray w (iv (l7 E V res)):=by
 unfold kf at hb
 refine enter Tryz.func97 zr zr ?_
 have o:=(o.dup (i0+0) h0).dup (i1+1) h1
 refine RC.sr (aR (.slice none 0 0) (RL.ns (mv v0 (mv v1 ?_))))
 obtain⟨af,ab,hb⟩:=bd hb
 refine RL.call trivial rfl Ke [v0,v1,(.func (.func 138) #[] #[])] rfl (aF (ye N (i0:=1) (i1:=0) o rfl rfl ⟨138,[],rfl,Kd,fun w Γl v v' y0 y1 r i j o hi hj hr=>by obtain rfl:=o.Bp (γ:=Bool) hi;obtain rfl:=o.Bp (γ:=Bool) hj;exact aF (sL N (p0:=y0) (p1:=y1) o hr) fun _ _ h=>h⟩ ab) ?_)
 rintro ae w o
 refine aR ae (RL.nt (RC.ret ?_))
 obtain rfl:=oi hb
 exact cS (o.pk 3 [0])
theorem vv {p0: (List aA)} (j:Holds E w V) (h0:V[i0]? =some (rd v0 p0)) (hb:lB N p0=some res):
    Calls bN 98 [v0].toArray w (iv (aV E V res)):=by
 unfold lB at hb
 refine enter Tryz.func98 zr zr ?_
 have j:=j.dup (i0+0) h0
 refine RC.sr (aR (vi 0) (RL.ns (aR (vi 0) (RL.nq (RC.sr (mv v0 (RL.cC 0 p0 j ot (mv (vi 0) ?_))))))))
 refine RL.nt ?_
 obtain⟨o,hN,hb⟩:=bd hb
 refine RC.fold (fun(ad:Nat) (o:Int)=>SH E V [(3,vi o),(6,v0),(7,vi p0.length),(8,vi ad)] [rd v0 p0]) (fun(o:Int)=>SH E V [(3,vi o)] [rd v0 p0]) hN ?_ ?_ ?_ ?_
 ·exact j.sp 1 [0]
 ·rintro hm o _ w ⟨O,rfl,j⟩
  refine RC.sr (ic ((p0.length:Int)) ((p0.length:Int)) (RL.nq (RC.dS pD (RC.ex ?_))))
  exact⟨rfl,j.sp 1 [0]⟩
 ·rintro hm ad o s' _ w hk ⟨O,rfl,j⟩ hb
  refine RC.sr (ic ((ad:Int)) ((p0.length:Int)) (RL.nq (RC.dR (pC hk) (RC.ss (RC.bs ?_)))))
  obtain⟨ab,ah,hb⟩:=bd hb
  refine RL.cM 0 j kR ah fun ai j=>(RL.cD 0 ab j vg fun aj j=>(RL.alloc j B5.z fun ak w j=>?_))
  refine RL.bM 0 j 1 zr vg fun w j=>?_
  refine RL.nt (RC.region (mv (vi o) (RL.bT zr lk (RL.aS 0 j zr dK fJ fun al j=>(RL.cC 0 ab.Xs j m0 (RL.quo (ab.Xs.length:Int) 2 (RL.kr o (IntKind.wrap .i64 (Int.tdiv (ab.Xs.length:Int) 2)) (aR (vi (IntKind.wrap .i64 (o+ (IntKind.wrap .i64 (Int.tdiv (ab.Xs.length:Int) 2))))) ?_))))))))
  refine RL.nil (cG (aG (RC.region (RL.inc hk hm (mv (vi ((ad+1:Nat):Int)) (RL.nil ?_))))))
  obtain rfl:=oi hb
  exact⟨rfl,j.sp 5 [4]⟩
 rintro _ w ⟨O,rfl,j⟩
 refine aG (RC.sr (mv (vi o) (aR (vi o) (RL.nt (RC.ret ?_)))))
 obtain rfl:=oi hb
 exact cS ⟨rfl,j.drop 1⟩
def sM (E:World) (V:List HP) (b1:Nat) (res:Int×(List Int)) (v:Value) (w:World):Prop:=∃u1_0:Value,v= (vi res.1)/\Holds E w ([bc 91 b1 [u1_0],own 3 u1_0 res.2]++V)
theorem ld {p1_0: (List Int)} {res:Int×(List Int)} (j:Holds E w (bc 91 b1 [v1_0]::own 3 v1_0 p1_0::V)) (o:eO N p0 p1_0=some res):
    Calls bN 139 [(vi p0),(vp b1 0)].toArray w (iv (sM E V b1 res)):=by
 unfold eO at o
 refine enter Tryz.func139 zr zr (RC.sr (aR (vi 0) (RL.nq ?_)))
 obtain⟨an,hN,o⟩:=bd o
 refine RC.iter (fun(aa:Int×(List Int))=>SH E V [(0,vi aa.1),(1,vp b1 0)] [bc 91 b1 [v1_0],own 3 v1_0 aa.2]) (fun(aa:Int×(List Int))=>SH E V [(0,vi aa.1),(1,vp b1 0)] [bc 91 b1 [v1_0],own 3 v1_0 aa.2]) (fun(r:Empty) _ _=>r.elim) hN ?_ ?_ ?_ ?_
 ·exact j.sp 2 [0,1]
 ·rintro aa fl _ w ⟨O,rfl,j⟩ o
  refine RC.seq (RC.sr (RL.bP 0 v1_0 j fJ (mv (vi aa.1) ?_)))
  obtain⟨ai,ab,o⟩:=bd o
  refine RL.bO 1 j zr zr fF ab (RL.eJ (f:=(fun x=>x)) 1 j (ku 1 j ab 0) (bC ab).2.1 Fd.self dH (mv (vi aa.1) (ic ai aa.1 (RL.nt (fU o (fun hc o=>?_) fun hc o=>?_)))))
  rotate_left
  ·refine RC.ex ?_
   obtain rfl:=oi o
   exact⟨rfl,j.sp 2 [0,1]⟩
  refine RC.sn (RC.block (RC.seq (RC.Bj mixed [0,0,0,0,0,0,0,0,0,0,2] [0,1,2,3,4,5,6,7,8,9,10] ?_)))
  have j:=j.drew
  refine DP.e0 zr (RL.bP 0 v1_0 j fJ (bR zr (mv (vi aa.1) (bR zr (RL.bP 0 v1_0 j fJ (bR zr (RL.bP 0 v1_0 j fJ (bR zr ?_))))))))
  refine mv (vi aa.1) (bR zr ?_)
  obtain⟨aq,ad,o⟩:=bd o
  refine RL.bO 1 j zr zr fF ad (bR zr (RL.eJ (f:=(fun x=>x)) 1 j (ku 1 j ad 0) (bC ad).2.1 Fd.self dH (bR zr ?_)))
  obtain⟨ak,ae,o⟩:=bd o
  refine RL.bO 1 j zr zr fF ae (bR zr (RL.eJ (f:=(fun x=>x)) 1 j (ku 1 j ae 0) (bC ae).2.1 Fd.self dH (bR zr ?_)))
  obtain⟨ar,af,o⟩:=bd o
  refine RL.bO 1 j zr zr fF af (u6 zr ?_)
  have j:=j.sc Int ak
  refine RL.iJ (f:=(fun _ y=>y)) 2 0 j (ku 2 j af 0) (bC af).2.1 zr Fs.self dH fun w j=>?_
  refine DP.d2 zt (DP.z (aG (RC.region (RL.bP 1 v1_0 j fJ (mv (vi aa.1) ?_)))))
  obtain⟨al,ag,o⟩:=bd o
  refine RL.bO 2 j zr zr fF ag (RL.eJ (f:=(fun x=>x)) 2 j (ku 2 j ag 0) (bC ag).2.1 Fd.self dH (aR (vi al) (RL.nil (cG ?_))))
  obtain rfl:=oi o
  exact⟨rfl,j.sp 3 [1,2]⟩
 ·intro r _ _ _ _
  exact r.elim
 rintro aa _ w rfl ⟨O,rfl,j⟩
 rw [Fo.gw] at o
 refine aG (RC.sr (mv (vi aa.1) (aR (vi aa.1) (RL.nt (RC.ret ?_)))))
 obtain rfl:=oi o
 exact cS ⟨v1_0,zr,j.pk 2 [0,1]⟩
def vx (E:World) (V:List HP) (res: (List (List aA))) (v:Value) (w:World):Prop:=Holds E w ([own 137 v res]++V)
theorem uA {p0: (List aA)} {res: (List (List aA))} (o:Holds E w V) (h0:V[i0]? =some (rd v0 p0)) (hb:kQ N p0=some res):
    Calls bN 99 [v0].toArray w (iv (vx E V res)):=by
 unfold kQ at hb
 refine enter Tryz.func99 zr zr ?_
 have o:=o.dup (i0+0) h0
 refine RC.sr (aR (.slice none 0 0) (RL.ns (mv v0 ?_)))
 obtain⟨aq,c7,hb⟩:=bd hb
 refine RL.call zt zr I1 [v0] zr (aF (mE N (i0:=0) o zr c7) ?_)
 rintro ah w o
 refine aR ah (RL.ns (mv ah (RL.eH 0 aq o sB ?_)))
 obtain⟨bn,c8,hb⟩:=bd hb
 refine RL.mk (aq.length:Int) o wy JH c8 fun ba w o=>?_
 refine RL.r8 o JF fun ag w o=>?_
 refine RL.ka 0 ba o zr zr (kC 1 o) fJ fun w o=>?_
 refine RL.nq (RC.sr (RL.bP 0 ba o fJ (RL.eH 1 bn o m0 (mv (vi 0) (RL.nt ?_)))))
 obtain⟨bk,hN,hb⟩:=bd hb
 refine RC.fold (fun(a8:Nat) (bk: (List Int))=>SH E V [(0,v0),(3,ah),(4,vp ag 0),(32,vi bn.length),(33,vi a8)] [rd v0 p0,own 75 ah aq,bc 91 ag [ba],own 3 ba bk]) (fun(bk: (List Int))=>SH E V [(0,v0),(3,ah),(4,vp ag 0)] [rd v0 p0,own 75 ah aq,bc 91 ag [ba],own 3 ba bk]) hN ?_ ?_ ?_ ?_
 ·exact o.sp 4 [3,2,0,1]
 ·rintro hm bk _ w ⟨O,rfl,o⟩
  refine RC.sr (ic ((bn.length:Int)) ((bn.length:Int)) (RL.nq (RC.dS pD (RC.ex ?_))))
  exact⟨rfl,o.sp 4 [0,1,2,3]⟩
 ·rintro hm a8 bk s' _ w hk ⟨O,rfl,o⟩ hb
  refine RC.sr (ic ((a8:Int)) ((bn.length:Int)) (RL.nq (RC.dR (pC hk) (RC.ss (RC.bs (mv (vi a8) (aR (vi a8) (RL.nt ?_))))))))
  refine RC.region (RL.bP 2 ba o fJ (mv (vi a8) (mv (vi a8) ?_)))
  obtain⟨du,cb,hb⟩:=bd hb
  refine RL.bO 3 o zr zr fF cb ?_
  have o:=o.sc Int (a8:Int)
  refine RL.iJ (f:=(fun _ y=>y)) 4 0 o (ku 4 o cb 0) (bC cb).2.1 zr Fs.self dH fun w o=>?_
  refine RL.nil (cG (aG (RC.region (RL.inc hk hm (mv (vi ((a8+1:Nat):Int)) (RL.nil ?_))))))
  obtain rfl:=oi hb
  exact⟨rfl,o.sp 5 [1,2,3,4]⟩
 rintro _ w ⟨O,rfl,o⟩
 refine aG (RC.sr (RL.makeFunc zt zr [(vp ag 0)] zr (aR (.func (.func 139) #[] #[(vp ag 0)]) (RL.ns (aR (vi 0) (aR (vi 0) (RL.nq (RC.sr ?_))))))))
 refine mv v0 (RL.cC 0 p0 o ot (mv (vi 0) (RL.nt ?_)))
 obtain⟨ad,hN,hb⟩:=bd hb
 refine RC.fold (fun(ay:Nat) (ad: (List Int)×Int×Int) U w=>∃ct:Value,SH E V [(0,v0),(3,ah),(4,vp ag 0),(6,(.func (.func 139) #[] #[(vp ag 0)])),(7,vi ad.2.1),(8,vi ad.2.2),(42,v0),(43,vi p0.length),(44,vi ay)] [rd v0 p0,own 75 ah aq,bc 91 ag [ct],own 3 ct ad.1] U w) (fun(ad: (List Int)×Int×Int) U w=>∃br:Value,SH E V [(3,ah),(6,(.func (.func 139) #[] #[(vp ag 0)]))] [rd v0 p0,own 75 ah aq,bc 91 ag [br],own 3 br ad.1] U w) hN ?_ ?_ ?_ ?_
 ·exact⟨ba,o.sp 4 [0,1,2,3]⟩
 ·rintro hm ad _ w ⟨c9,O,rfl,o⟩
  refine RC.sr (ic ((p0.length:Int)) ((p0.length:Int)) (RL.nq (RC.dS pD (RC.ex ?_))))
  exact⟨rfl,c9,o.sp 4 [0,1,2,3]⟩
 ·rintro hm ay ad s' _ w hk ⟨bt,O,rfl,o⟩ hb
  refine RC.sr (ic ((ay:Int)) ((p0.length:Int)) (RL.nq (RC.dR (pC hk) (RC.ss (RC.bs (mv (vi ay) ?_))))))
  obtain⟨an,da,hb⟩:=bd hb
  refine RL.cM 0 o kR da fun dv o=>(RL.cD 0 an o vg fun dw o=>(RL.alloc o B5.z fun dx w o=>?_))
  refine aR (vi ay) (RL.bM 0 o 1 zr vg fun w o=>?_)
  refine RL.ns (RL.bT zr lk (RL.aS 0 o zr dK fJ fun dy o=>(RL.cC 0 an.Xs o m0 (RL.quo (an.Xs.length:Int) 2 (aR (vi (IntKind.wrap .i64 (Int.tdiv (an.Xs.length:Int) 2))) (RL.nq (RC.seq ?_)))))))
  obtain⟨cc,hj,hb⟩:=bd hb
  refine RC.jn (fun(cc:Bool)=>SH E V [(0,v0),(3,ah),(4,vp ag 0),(6,(.func (.func 139) #[] #[(vp ag 0)])),(7,vi ad.2.1),(8,vi ad.2.2),(11,(vi (IntKind.wrap .i64 (Int.tdiv (an.Xs.length:Int) 2)))),(42,v0),(43,vi p0.length),(44,vi ay),(65,vb cc)] [rd v0 p0,own 75 ah aq,bc 91 ag [bt],own 3 bt ad.1]) cc ?_ ?_
  ·refine RC.y5 mixed ?_
   have o:=o.drew
   refine RO.go (mv (vi ay) (RO.nx (ic ((ay:Int)) 0 (RO.nx (mv (vb (decide ((ay:Int)>0))) (gG hj (fun aw hj=>?_) fun aw hj=>?_))))))
   rotate_left
   ·refine RO.nx (cB aw (RO.nx (cB aw (RO.nx (cB aw (RO.nx (cB aw (RO.nx ?_))))))))
    refine cB aw (RO.nx (cB aw (RO.nx (cB aw (RO.nx (cB aw (RO.nx (cB aw ?_))))))))
    refine RO.nx (gH aw (vb false) (RO.last ?_))
    obtain rfl:=oi hj
    exact⟨rfl,o.sp 8 [4,5,6,7]⟩
   refine RO.nx (RL.move v0 (cg aw) (RO.nx (RL.move (vi ay) (cg aw) (RO.nx (RL.kr (hg:=(cg aw)) (ay:Int) 1 (RO.nx ?_))))))
   obtain⟨cd,db,hj⟩:=bd hj
   refine RL.cM (hg:=(cg aw)) 4 o kR db fun dz o=>(RO.nx (RL.j9 (hg:=(cg aw)) 0 o zr mB eY fun d0 o=>(RO.nx (RL.bU (hg:=(cg aw)) cd.Y1 0 o dH (RO.nx (RL.bT (hg:=(cg aw)) zr oD (RO.nx (RL.aX (hg:=(cg aw)) 3 o zr ga dH ?_))))))))
   refine RO.nx (RL.lr cd.Y1 an.Y0 (cg aw) (RO.nx (gH aw (vb (cd.Y1==an.Y0)) (RO.last ?_))))
   obtain rfl:=oi hj
   exact⟨rfl,o.sp 10 [6,7,8,9]⟩
  rintro _ w ⟨O,rfl,o⟩
  refine aG ?_
  obtain⟨cf,hj,hb⟩:=bd hb
  refine RC.jn (fun(cf: (List Int)) U w=>∃bu:Value,SH E V [(0,v0),(3,ah),(4,vp ag 0),(6,(.func (.func 139) #[] #[(vp ag 0)])),(7,vi ad.2.1),(11,(vi (IntKind.wrap .i64 (Int.tdiv (an.Xs.length:Int) 2)))),(42,v0),(43,vi p0.length),(44,vi ay)] [rd v0 p0,own 75 ah aq,bc 91 ag [bu],own 3 bu cf] U w) cf ?_ ?_
  ·refine fU hj (fun hc hj=>?_) fun hc hj=>?_
   rotate_left
   ·refine RC.skip ?_
    obtain rfl:=oi hj
    exact⟨rfl,bt,o.sp 4 [0,1,2,3]⟩
   refine RC.sr (mv (vi ad.2.2) (mv (vi ad.2.1) (aR (vi ad.2.2) (aR (vi ad.2.1) (RL.nt ?_)))))
   obtain⟨d3,hN,hj⟩:=bd hj
   refine RC.iter (fun(ae: (List Int)×Int×Int) U w=>∃cu:Value,SH E V [(0,v0),(3,ah),(4,vp ag 0),(6,(.func (.func 139) #[] #[(vp ag 0)])),(7,vi ad.2.1),(11,(vi (IntKind.wrap .i64 (Int.tdiv (an.Xs.length:Int) 2)))),(12,vi ae.2.1),(13,vi ae.2.2),(42,v0),(43,vi p0.length),(44,vi ay)] [rd v0 p0,own 75 ah aq,bc 91 ag [cu],own 3 cu ae.1] U w) (fun(ae: (List Int)×Int×Int) U w=>∃bw:Value,SH E V [(0,v0),(3,ah),(4,vp ag 0),(6,(.func (.func 139) #[] #[(vp ag 0)])),(7,vi ad.2.1),(11,(vi (IntKind.wrap .i64 (Int.tdiv (an.Xs.length:Int) 2)))),(42,v0),(43,vi p0.length),(44,vi ay)] [rd v0 p0,own 75 ah aq,bc 91 ag [bw],own 3 bw ae.1] U w) (fun(r:Empty) _ _=>r.elim) hN ?_ ?_ ?_ ?_
   ·exact⟨bt,o.sp 4 [0,1,2,3]⟩
   ·rintro ae fl _ w ⟨bz,O,rfl,o⟩ hb
    refine RC.seq (RC.sr (mv (vi ae.2.1) (mv (vi ad.2.1) (ic ae.2.1 ad.2.1 (mv (vb (decide (ae.2.1<ad.2.1))) (RL.gs true (decide (ae.2.1<ad.2.1)) (vi ae.2.2) zr zr zr dW (RL.gs true (decide (ae.2.1<ad.2.1)) (vi ad.2.1) zr zr zr dW (RL.gs true (decide (ae.2.1<ad.2.1)) (vi (IntKind.wrap .i64 (Int.tdiv (an.Xs.length:Int) 2))) zr zr zr dW ?_))))))))
    refine RL.gs true (decide (ae.2.1<ad.2.1)) (vi (IntKind.wrap .i64 (ad.2.1+ (IntKind.wrap .i64 (Int.tdiv (an.Xs.length:Int) 2))))) rfl rfl rfl (IG (bop:= .add) (K:= .i64) (a:=ad.2.1) (b:=(IntKind.wrap .i64 (Int.tdiv (an.Xs.length:Int) 2))) rfl (fun h=>by exact(dN h:cv (true&&((decide (ae.2.1<ad.2.1))==true)) (vi ad.2.1)= (vi ad.2.1))) (fun h=>by exact(dN h:cv (true&&((decide (ae.2.1<ad.2.1))==true)) (vi (IntKind.wrap .i64 (Int.tdiv (an.Xs.length:Int) 2)))= (vi (IntKind.wrap .i64 (Int.tdiv (an.Xs.length:Int) 2))))) rfl) (RL.gs true (decide (ae.2.1<ad.2.1)) (vb (decide (ae.2.2< (IntKind.wrap .i64 (ad.2.1+ (IntKind.wrap .i64 (Int.tdiv (an.Xs.length:Int) 2))))))) rfl rfl rfl (fN .lss .i64 ae.2.2 (IntKind.wrap .i64 (ad.2.1+ (IntKind.wrap .i64 (Int.tdiv (an.Xs.length:Int) 2)))) rfl (fun h=>by exact(dN h:cv (true&&((decide (ae.2.1<ad.2.1))==true)) (vi ae.2.2)= (vi ae.2.2))) (fun h=>by exact(dN h:cv (true&&((decide (ae.2.1<ad.2.1))==true)) (vi (IntKind.wrap .i64 (ad.2.1+ (IntKind.wrap .i64 (Int.tdiv (an.Xs.length:Int) 2)))))= (vi (IntKind.wrap .i64 (ad.2.1+ (IntKind.wrap .i64 (Int.tdiv (an.Xs.length:Int) 2))))))) rfl) (RL.pick (decide (ae.2.1<ad.2.1)) (vb ((decide (ae.2.1<ad.2.1))&&(decide (ae.2.2< (IntKind.wrap .i64 (ad.2.1+ (IntKind.wrap .i64 (Int.tdiv (an.Xs.length:Int) 2)))))))) (k7 true) (RL.nt (fU hb (fun hc hb=>?_) fun hc hb=>?_))))
    rotate_left
    ·refine RC.ex ?_
     obtain rfl:=oi hb
     exact⟨rfl,bz,o.sp 4 [0,1,2,3]⟩
    refine RC.sn (RC.block (RC.seq (RC.seq ?_)))
    obtain⟨ch,hj,hb⟩:=bd hb
    refine RC.jn (fun(ch:Bool)=>SH E V [(0,v0),(3,ah),(4,vp ag 0),(6,(.func (.func 139) #[] #[(vp ag 0)])),(7,vi ad.2.1),(11,(vi (IntKind.wrap .i64 (Int.tdiv (an.Xs.length:Int) 2)))),(12,vi ae.2.1),(13,vi ae.2.2),(42,v0),(43,vi p0.length),(44,vi ay),(101,vb ch)] [rd v0 p0,own 75 ah aq,bc 91 ag [bz],own 3 bz ae.1]) ch ?_ ?_
    ·refine RC.y5 mixed ?_
     have o:=o.drew
     refine RO.go (mv ah (RO.nx (mv (vi ae.2.1) (RO.nx ?_))))
     obtain⟨cw,b0,hj⟩:=bd hj
     refine RL.bO 1 o zr zr mZ b0 (RO.nx (RL.nZ (α:=aH) zt (ku 1 o b0 0) kJ (RO.nx (RL.eJ 1 o (ku 1 o b0 0) (bC b0).2.1 fV dH (RO.nx (mv ah (RO.nx (mv (vi ae.2.2) ?_))))))))
     refine RO.nx ?_
     obtain⟨cx,b1,hj⟩:=bd hj
     refine RL.bO 1 o zr zr mZ b1 (RO.nx (RL.nZ (α:=aH) zt (ku 1 o b1 0) lF (RO.nx (RL.eJ 1 o (ku 1 o b1 2) (bC b1).2.1 gL dH (RO.nx (ic cw.X0 cx.X1 (RO.nx (mv (vb (decide (cw.X0<cx.X1))) ?_))))))))
     refine gG hj (fun ao hj=>?_) fun ao hj=>?_
     rotate_left
     ·refine RO.nx (cB ao (RO.nx (cB ao (RO.nx (cB ao (RO.nx (cB ao (RO.nx ?_))))))))
      refine cB ao (RO.nx (cB ao (RO.nx (cB ao (RO.nx (cB ao (RO.nx (cB ao ?_))))))))
      refine RO.nx (cB ao (RO.nx (cB ao (RO.nx (gH ao (vb false) (RO.last ?_))))))
      obtain rfl:=oi hj
      exact⟨rfl,o.sp 4 [0,1,2,3]⟩
     refine RO.nx (RL.move ah (cg ao) (RO.nx (RL.move (vi ae.2.2) (cg ao) (RO.nx ?_))))
     obtain⟨cy,b2,hj⟩:=bd hj
     refine RL.bO (hg:=(cg ao)) 1 o zr zr mZ b2 (RO.nx (RL.nZ (α:=aH) (cg ao) (ku 1 o b2 0) kJ (RO.nx (RL.eJ (hg:=(cg ao)) 1 o (ku 1 o b2 0) (bC b2).2.1 fV dH (RO.nx (RL.move ah (cg ao) (RO.nx (RL.move (vi ae.2.1) (cg ao) ?_))))))))
     refine RO.nx ?_
     obtain⟨cz,b3,hj⟩:=bd hj
     refine RL.bO (hg:=(cg ao)) 1 o zr zr mZ b3 (RO.nx (RL.nZ (α:=aH) (cg ao) (ku 1 o b3 0) lF (RO.nx (RL.eJ (hg:=(cg ao)) 1 o (ku 1 o b3 2) (bC b3).2.1 gL dH (RO.nx (RL.lr cy.X0 cz.X1 (cg ao) (RO.nx (gH ao (vb (decide (cy.X0<cz.X1))) ?_))))))))
     refine RO.last ?_
     obtain rfl:=oi hj
     exact⟨rfl,o.sp 4 [0,1,2,3]⟩
    rintro _ w ⟨O,rfl,o⟩
    refine aG ?_
    obtain⟨b4,hj,hb⟩:=bd hb
    refine RC.jn (fun(b4: (List Int)) U w=>∃bl:Value,SH E V [(0,v0),(3,ah),(4,vp ag 0),(6,(.func (.func 139) #[] #[(vp ag 0)])),(7,vi ad.2.1),(11,(vi (IntKind.wrap .i64 (Int.tdiv (an.Xs.length:Int) 2)))),(12,vi ae.2.1),(13,vi ae.2.2),(42,v0),(43,vi p0.length),(44,vi ay)] [rd v0 p0,own 75 ah aq,bc 91 ag [bl],own 3 bl b4] U w) b4 ?_ ?_
    ·refine fU hj (fun hc hj=>?_) fun hc hj=>?_
     rotate_left
     ·refine RC.skip ?_
      obtain rfl:=oi hj
      exact⟨rfl,bz,o.sp 4 [0,1,2,3]⟩
     refine RC.sr (mv (.func (.func 139) #[] #[(vp ag 0)]) (mv (vi ae.2.1) ?_))
     have o:=(o.pull 3).pull 3
     obtain⟨bf,dc,hj⟩:=bd hj
     refine RL.Bm (cap:=[(vp ag 0)]) zt zr Ge zr [(vi ae.2.1)] zr (aF (ld N (p0:=ae.2.1) o dc) ?_)
     rintro _ w ⟨d5,rfl,o⟩
     refine mv (.func (.func 139) #[] #[(vp ag 0)]) (mv (vi ae.2.2) ?_)
     have o:=(o.pull 1).pull 1
     obtain⟨bg,dd,hj⟩:=bd hj
     refine RL.Bm (cap:=[(vp ag 0)]) zt zr Ge zr [(vi ae.2.2)] zr (aF (ld N (p0:=ae.2.2) o dd) ?_)
     rintro _ w ⟨c0,rfl,o⟩
     refine aR (vi bf.1) (aR (vi bg.1) (RL.nt (RC.region (RL.bP 0 c0 o fJ (mv (vi bf.1) (mv (vi bg.1) (RL.max bf.1 bg.1 (mv (vi bf.1) ?_))))))))
     refine mv (vi bg.1) (RL.min bf.1 bg.1 ?_)
     obtain⟨d6,cj,hj⟩:=bd hj
     refine RL.bO 1 o zr zr fF cj ?_
     have o:=o.sc Int (if bg.1<bf.1 then bg.1 else bf.1)
     refine RL.iJ (f:=(fun _ y=>y)) 2 0 o (ku 2 o cj 0) (bC cj).2.1 zr Fs.self dH fun w o=>?_
     refine RL.nil ?_
     obtain rfl:=oi hj
     exact⟨rfl,c0,o.sp 9 [5,6,1,2]⟩
    rintro _ w ⟨bl,O,rfl,o⟩
    refine aG (RC.seq (RC.y5 mixed ?_))
    have o:=o.drew
    refine RO.go (mv ah (RO.nx (mv (vi ae.2.1) (RO.nx ?_))))
    obtain⟨de,b5,hb⟩:=bd hb
    refine RL.bO 1 o zr zr mZ b5 (RO.nx (RL.nZ (α:=aH) zt (ku 1 o b5 0) lF (RO.nx (RL.eJ 1 o (ku 1 o b5 2) (bC b5).2.1 gL dH (RO.nx (mv ah (RO.nx (mv (vi ae.2.2) ?_))))))))
    refine RO.nx ?_
    obtain⟨df,b6,hb⟩:=bd hb
    refine RL.bO 1 o zr zr mZ b6 (RO.nx (RL.nZ (α:=aH) zt (ku 1 o b6 0) lF (RO.nx (RL.eJ 1 o (ku 1 o b6 2) (bC b6).2.1 gL dH (RO.nx (ic de.X1 df.X1 (RO.last (aG ?_))))))))
    obtain⟨b7,hj,hb⟩:=bd hb
    refine RC.jn (fun(b7:Int×Int)=>SH E V [(0,v0),(3,ah),(4,vp ag 0),(6,(.func (.func 139) #[] #[(vp ag 0)])),(7,vi ad.2.1),(11,(vi (IntKind.wrap .i64 (Int.tdiv (an.Xs.length:Int) 2)))),(12,vi b7.1),(13,vi b7.2),(42,v0),(43,vi p0.length),(44,vi ay)] [rd v0 p0,own 75 ah aq,bc 91 ag [bl],own 3 bl b4]) b7 ?_ ?_
    ·refine fU hj (fun hc hj=>?_) fun hc hj=>?_
     ·refine RC.region (mv (vi ae.2.1) (RL.kr ae.2.1 1 (aR (vi (IntKind.wrap .i64 (ae.2.1+1))) (RL.nil ?_))))
      obtain rfl:=oi hj
      exact⟨rfl,o.sp 4 [0,1,2,3]⟩
     refine RC.region (mv (vi ae.2.2) (RL.kr ae.2.2 1 (aR (vi (IntKind.wrap .i64 (ae.2.2+1))) (RL.nil ?_))))
     obtain rfl:=oi hj
     exact⟨rfl,o.sp 4 [0,1,2,3]⟩
    rintro _ w ⟨O,rfl,o⟩
    refine cG ?_
    obtain rfl:=oi hb
    exact⟨rfl,bl,o.sp 4 [0,1,2,3]⟩
   ·intro r _ _ _ _
    exact r.elim
   rintro ae _ w rfl ⟨bw,O,rfl,o⟩
   rw [Fo.gw] at hj
   obtain rfl:=oi hj
   exact⟨rfl,bw,o.sp 4 [0,1,2,3]⟩
  rintro _ w ⟨bu,O,rfl,o⟩
  refine aG (RC.region (mv (vi ad.2.1) (mv (vi ad.2.1) (mv (vi (IntKind.wrap .i64 (Int.tdiv (an.Xs.length:Int) 2))) (RL.kr ad.2.1 (IntKind.wrap .i64 (Int.tdiv (an.Xs.length:Int) 2)) (aR (vi ad.2.1) (aR (vi (IntKind.wrap .i64 (ad.2.1+ (IntKind.wrap .i64 (Int.tdiv (an.Xs.length:Int) 2))))) (RL.nil ?_))))))))
  refine cG (aG (RC.region (RL.inc hk hm (mv (vi ((ay+1:Nat):Int)) (RL.nil ?_)))))
  obtain rfl:=oi hb
  exact⟨rfl,bu,o.sp 4 [0,1,2,3]⟩
 rintro _ w ⟨br,O,rfl,o⟩
 refine aG (RC.sr (RL.makeMap (κ:=Int) (ν:=Int) zr o fun a6 w o=>(aR a6 (RL.ns (aR (.slice none 0 0) (RL.nq (RC.sr (mv ah ?_))))))))
 refine RL.eH 2 aq o sB (mv (vi 0) (RL.nt ?_))
 obtain⟨ak,hN,hb⟩:=bd hb
 refine RC.fold (fun(a5:Nat) (ak: (List Int)×(List (Int×Int))×(List (List aH))) U w=>∃(c1 c2:Value) (us939:List RV),SH E V [(6,(.func (.func 139) #[] #[(vp ag 0)])),(16,a6),(17,c2),(137,ah),(138,vi aq.length),(139,vi a5)] [bc 91 ag [c1],own 3 c1 ak.1,mp a6 ak.2.1,own 75 ah aq,own 23 c2 us939,jm (XS 75 aH) us939 ak.2.2 none] U w) (fun(ak: (List Int)×(List (Int×Int))×(List (List aH))) U w=>∃(ck bh:Value) (us942:List RV),SH E V [(17,bh)] [bc 91 ag [ck],own 3 ck ak.1,mp a6 ak.2.1,own 75 ah aq,own 23 bh us942,jm (XS 75 aH) us942 ak.2.2 none] U w) hN ?_ ?_ ?_ ?_
 ·have o:=(o.Al (XS 75 aH)).dC RV 23
  exact⟨br,(.slice none 0 0),([]:List RV),o.sp 7 [5,6,2,4,0,1]⟩
 ·rintro hm ak _ w ⟨dg,dh,us987,O,rfl,o⟩
  refine RC.sr (ic ((aq.length:Int)) ((aq.length:Int)) (RL.nq (RC.dS pD (RC.ex ?_))))
  exact⟨rfl,dg,dh,us987,o.sp 6 [0,1,2,3,4,5]⟩
 ·rintro hm a5 ak s' _ w hk ⟨d7,cl,us945,O,rfl,o⟩ hb
  refine RC.sr (ic ((a5:Int)) ((aq.length:Int)) (RL.nq (RC.dR (pC hk) (RC.ss (RC.bs (mv (vi a5) ?_))))))
  obtain⟨bb,cm,hb⟩:=bd hb
  refine RL.bO 3 o zr zr mZ cm (RL.gA (f:=(fun x=>x)) 3 o (ku 3 o cm 0) (bC cm).2.1 Fd.self jd fun d8 o=>?_)
  refine RL.alloc o pT.z fun b8 w o=>?_
  refine aR (vi a5) (RL.bM 0 o 1 zr jd fun w o=>?_)
  refine RL.ns (mv (.func (.func 139) #[] #[(vp ag 0)]) (mv (vi a5) ?_))
  have o:=(o.pull 3).pull 3
  obtain⟨a2,di,hb⟩:=bd hb
  refine RL.Bm (cap:=[(vp ag 0)]) zt zr Ge zr [(vi a5)] zr (aF (ld N (p0:=(a5:Int)) o di) ?_)
  rintro _ w ⟨bo,rfl,o⟩
  refine aR (vi a2.1) (RL.ns (mv a6 (mv (vi a2.1) (RL.qc 6 a2.1 o zr B9 (mv (.tuple #[(vi (dL ak.2.1 a2.1 (0:Int))),(vb (fH ak.2.1 a2.1))]) (RL.extract (vi (dL ak.2.1 a2.1 (0:Int))) (RL.extract (vb (fH ak.2.1 a2.1)) (aR (vi (dL ak.2.1 a2.1 (0:Int))) ?_))))))))
  refine aR (vb (fH ak.2.1 a2.1)) (RL.nq (RC.sr (mv (vb (fH ak.2.1 a2.1)) (RL.not (fH ak.2.1 a2.1) (RL.nt ?_)))))
  obtain⟨af,hj,hb⟩:=bd hb
  refine RC.jn (fun(af: (List (Int×Int))×(List (List aH))×Int) U w=>∃(a1:Value) (us956:List RV),SH E V [(6,(.func (.func 139) #[] #[(vp ag 0)])),(16,a6),(17,a1),(19,vp b8 0),(21,vi af.2.2),(137,ah),(138,vi aq.length),(139,vi a5)] [bc 91 ag [bo],own 3 bo a2.2,mp a6 af.1,bx 75 b8 bb,own 75 ah aq,own 23 a1 us956,jm (XS 75 aH) us956 af.2.1 none] U w) af ?_ ?_
  ·refine fU hj (fun hc hj=>?_) fun hc hj=>?_
   rotate_left
   ·refine RC.skip ?_
    obtain rfl:=oi hj
    exact⟨rfl,cl,us945,o.sp 10 [0,1,6,2,7,8,9]⟩
   refine RC.sr (mv cl (RL.r9 8 9 ak.2.2 o B4 (aR (vi ak.2.2.length) (RL.ns (mv a6 (mv (vi a2.1) (mv (vi ak.2.2.length) ?_)))))))
   have o:=o.sc Int (ak.2.2.length:Int)
   refine RL.mapUpdate 7 0 a2.1 o zr zr zr zr zr B9 fun w o=>(RL.nt (RC.region (mv cl ?_)))
   have o:=(o.dC aH 75).DW (i:=0) rfl
   refine RL.fD ([rv (.slice none 0 0)]:List RV) o [(.slice none 0 0)] EW Lv (fun M hs g=>⟨(g.sat 0 _ zr).1,zt⟩) fun d9 w o=>?_
   obtain⟨ea,dj,hj⟩:=bd hj
   have o:=o.freeze 0
   refine RL.BJ 12 0 13 2 zt zr o zr zr zr zr zr zr Lw dj fun c3 w o=>?_
   refine aR c3 (RL.nil ?_)
   obtain rfl:=oi hj
   exact⟨rfl,c3,(us945++[rv (.slice none 0 0)]),o.sp 14 [4,5,10,6,11,12,13]⟩
  rintro _ w ⟨a1,us956,O,rfl,o⟩
  refine aG ?_
  obtain⟨eb,b9,hb⟩:=bd hb
  obtain⟨bj,dk,hb⟩:=bd hb
  obtain⟨ec,cn,hb⟩:=bd hb
  refine RC.D3 E V mixed [1,1,1,1,0,0,0,0,0,0,0] [6,7,8,10] (fun(x:Value×Value×Value)=>(fun a0 ax al=>[(0,163,a1),(1,164,(vi af.2.2)),(2,165,a1),(3,166,(vi af.2.2)),(4,167,(Bf a1 (Int.toNat af.2.2) 1 0)),(5,168,(us956.getD (Int.toNat af.2.2) Bg).v),(6,169,a0),(7,170,ax),(8,171,al),(9,172,(Bf a1 (Int.toNat af.2.2) 1 0))]) x.1 x.2.1 x.2.2) [(6,(.func (.func 139) #[] #[(vp ag 0)])),(16,a6),(17,a1),(19,vp b8 0),(21,vi af.2.2),(137,ah),(138,vi aq.length),(139,vi a5)] [] (fun(D:Nat->Bool) (x:Value×Value×Value)=>(fun a0 ax al=>[bif D 0 then (rd a0 bb) else aW,bif D 2 then (rd ax ([bb]: (List aH))) else (bif D 1 then (own 75 ax ([bb]: (List aH))) else aW),bif D 3 then aW else (bif D 2 then (own 75 al bj) else aW),bc 91 ag [bo],own 3 bo a2.2,mp a6 af.1,bx 75 b8 bb,own 75 ah aq,bif D 3 then (own 23 a1 (us956.set (Int.toNat af.2.2) (rv al))) else (own 23 a1 us956),bif D 3 then (jm (XS 75 aH) (us956.set (Int.toNat af.2.2) (rv al)) (af.2.1.set (Int.toNat af.2.2) bj) none) else (bif D 2 then (jm (XS 75 aH) us956 af.2.1 (some (Int.toNat af.2.2))) else (jm (XS 75 aH) us956 af.2.1 none))]) x.1 x.2.1 x.2.2) (fun x=>by kernel_rfl) ?_ ⟨fun _=>g8 gn,fun _=>g8 gn,fun _=>g8 gn,fun _=>g8 gn,?_,?_,?_,?_,?_,?_,?_,trivial⟩ ?_
  ·have o:=(((o.drew).aW).aW).aW
   exact⟨(undef,undef,undef),eR.none,(CV zr),zt,o⟩
  ·rintro D U w hD au aj ⟨⟨a0,ax,al⟩,hv,ha,_,o⟩
   obtain⟨O,rfl⟩:=(ac (hv.at 2 rfl (au.1 rfl)) (ac (hv.at 3 rfl (au.2.1 rfl)) az)).eQ
   have o:=((o.bS 8 (nh aj hD 10)).bS 9 (nh aj hD 10)).bS 9 (nf (fun h=>ft hD ((aj 5 _ rfl ((aj 8 _ rfl h).1 rfl)).1 rfl)))
   have hl974:=o.hZ 9
   have hr975:=kD Bg hl974 b9
   refine RL.bO 8 o zr zr EW hr975 ?_
   have o:=(o.fT 8 (D 10) (nh aj hD 10) (own 23 a1 (us956.set (Int.toNat af.2.2) (rv al)))).fT 9 (D 8) (nf (fun h=>ft hD ((aj 5 _ rfl ((aj 8 _ rfl h).1 rfl)).1 rfl))) (jm (XS 75 aH) us956 af.2.1 (some (Int.toNat af.2.2)))
   have o:=o.fT 9 (D 10) (nh aj hD 10) (jm (XS 75 aH) (us956.set (Int.toNat af.2.2) (rv al)) (af.2.1.set (Int.toNat af.2.2) bj) none)
   exact RL.nil ⟨rfl,(a0,ax,al),hv.pu 4,ha.u,zt,o⟩
  ·rintro D U w hD au aj ⟨⟨a0,ax,al⟩,hv,ha,_,o⟩
   obtain⟨O,rfl⟩:=(ac (hv.at 4 rfl (au.1 rfl)) az).eQ
   have o:=((o.bS 8 (nh aj hD 10)).bS 9 (nh aj hD 10)).bS 9 (nh aj hD 8)
   have hl976:=o.hZ 9
   have hr977:=kD Bg hl976 b9
   refine RL.wk 8 9 af.2.2 (zx 75 aH) Bg zr o zr (ku 8 o hr977 0) zr zr b9 Az ?_
   have o:=(o.fT 8 (D 10) (nh aj hD 10) (own 23 a1 (us956.set (Int.toNat af.2.2) (rv al)))).fT 9 (D 8) (nh aj hD 8) (jm (XS 75 aH) us956 af.2.1 (some (Int.toNat af.2.2)))
   have o:=o.fT 9 (D 10) (nh aj hD 10) (jm (XS 75 aH) (us956.set (Int.toNat af.2.2) (rv al)) (af.2.1.set (Int.toNat af.2.2) bj) none)
   exact RL.nil ⟨rfl,(a0,ax,al),hv.pu 5,ha.u,zt,o⟩
  ·rintro D U w hD au aj ⟨⟨a0,ax,al⟩,hv,ha,_,o⟩
   obtain⟨O,rfl⟩:=(ac (ha.at 3 rfl) az).eQ
   have o:=o.bS 0 hD
   refine RL.aS (f:=(fun x=>x)) 6 o zr Fd.self jd fun dm o=>?_
   have o:=(o.pl 11 [0,2,3,4,5,6,7,8,9,10]).bZ 0 true rfl aW
   exact RL.nil ⟨rfl,(dm,ax,al),hv.pu 6,ha.u,zt,o⟩
  ·rintro D U w hD au aj ⟨⟨a0,ax,al⟩,hv,ha,_,o⟩
   obtain⟨O,rfl⟩:=(ac (hv.at 6 rfl (au.1 rfl)) az).eQ
   have o:=((o.bY 0 (au.1 rfl)).bS 1 (nh aj hD 8)).bS 1 hD
   refine RL.fD ([bb]: (List aH)) o [a0] mZ pT (fun M hs g=>⟨(g.sat 0 _ zr).1,zt⟩) fun c4 w o=>?_
   have o:=(((o.pl 11 [1,0,3,4,5,6,7,8,9,10]).bZ 0 (D 6) (au.1 rfl) aW).bZ 1 true rfl aW).fT 1 (D 8) (nh aj hD 8) (rd c4 ([bb]: (List aH)))
   exact RL.nil ⟨rfl,(a0,c4,al),hv.pu 7,ha.u,zt,o⟩
  ·rintro D U w hD au aj ⟨⟨a0,ax,al⟩,hv,ha,_,o⟩
   obtain⟨O,rfl⟩:=(ac (hv.at 5 rfl (au.1 rfl)) (ac (hv.at 7 rfl (au.2.1 rfl)) az)).eQ
   have o:=(((((((o.bS 1 hD).bY 1 (au.2.1 rfl)).bS 2 (nh aj hD 10)).bS 2 hD).bS 8 (nh aj hD 10)).bS 9 (nh aj hD 10)).bS 9 hD).Am (j:=9) (jj:=af.2.2) (zx 75 aH) Bg rfl b9
   have o:=o.freeze 2
   refine RL.app 0 2 o EX dk fun cp w o=>?_
   have o:=((((o.pl 11 [1,2,0,4,5,6,7,8,9,10]).bZ 1 true rfl (bif D 7 then (own 75 ax ([bb]: (List aH))) else aW)).bZ 2 true rfl aW).fT 2 (D 10) (nh aj hD 10) aW).fT 8 (D 10) (nh aj hD 10) (own 23 a1 (us956.set (Int.toNat af.2.2) (rv cp)))
   have o:=(o.bZ 9 true rfl (jm (XS 75 aH) us956 af.2.1 none)).fT 9 (D 10) (nh aj hD 10) (jm (XS 75 aH) (us956.set (Int.toNat af.2.2) (rv cp)) (af.2.1.set (Int.toNat af.2.2) bj) none)
   exact RL.nil ⟨rfl,(a0,ax,cp),hv.pu 8,ha.u,zt,o⟩
  ·rintro D U w hD au aj ⟨⟨a0,ax,al⟩,hv,ha,_,o⟩
   obtain⟨O,rfl⟩:=(ac (hv.at 0 rfl (au.1 rfl)) (ac (hv.at 1 rfl (au.2.1 rfl)) az)).eQ
   have o:=((o.bS 8 (nh aj hD 10)).bS 9 (nh aj hD 10)).bY 9 (au.2.2.2.2.2.2.2.2.2.2.1 rfl)
   have hl981:=o.hZ 9
   have hr982:=kD Bg hl981 cn
   refine RL.bO 8 o zr zr EW hr982 ?_
   have o:=((o.fT 8 (D 10) (nh aj hD 10) (own 23 a1 (us956.set (Int.toNat af.2.2) (rv al)))).bZ 9 (D 8) (au.2.2.2.2.2.2.2.2.2.2.1 rfl) (jm (XS 75 aH) us956 af.2.1 none)).fT 9 (D 10) (nh aj hD 10) (jm (XS 75 aH) (us956.set (Int.toNat af.2.2) (rv al)) (af.2.1.set (Int.toNat af.2.2) bj) none)
   exact RL.nil ⟨rfl,(a0,ax,al),hv.pu 9,ha.u,zt,o⟩
  ·rintro D U w hD au aj ⟨⟨a0,ax,al⟩,hv,ha,_,o⟩
   obtain⟨O,rfl⟩:=(ac (hv.at 8 rfl (au.2.1 rfl)) (ac (hv.at 9 rfl (au.1 rfl)) az)).eQ
   have o:=((((o.bS 2 hD).bY 2 (au.2.1 rfl)).bS 8 hD).bS 9 hD).bY 9 (au.2.1 rfl)
   have hl983:=o.hZ 9
   have hr984:=kD Bg hl983 cn
   refine RL.uo 8 9 2 af.2.2 (zx 75 aH) Bg o zr zr (ku 8 o hr984 0) zr zr zr cn Az fun w o=>?_
   have o:=((o.bZ 2 true rfl (bif D 8 then (own 75 al bj) else aW)).bZ 8 true rfl (own 23 a1 us956)).bZ 9 true rfl (bif D 8 then (jm (XS 75 aH) us956 af.2.1 (some (Int.toNat af.2.2))) else (jm (XS 75 aH) us956 af.2.1 none))
   exact RL.nil ⟨rfl,(a0,ax,al),hv.n1,ha,zt,o⟩
  rintro D U w bp ⟨⟨a0,ax,al⟩,hv,ha,_,o⟩
  have o:=((((o.bY 0 (iT bp 6)).bY 1 (iT bp 8)).bY 2 (iT bp 10)).bY 8 (iT bp 10)).bY 9 (iT bp 10)
  obtain⟨O,rfl⟩:=(ac (ha.at 0 rfl) (ac (ha.at 1 rfl) (ac (ha.at 2 rfl) (ac (ha.at 3 rfl) (ac (ha.at 4 rfl) (ac (ha.at 5 rfl) (ac (ha.at 6 rfl) (ac (ha.at 7 rfl) az)))))))).eQ
  refine cG (aG (RC.region (RL.inc hk hm (mv (vi ((a5+1:Nat):Int)) (RL.nil ?_)))))
  obtain rfl:=oi hb
  exact⟨rfl,bo,a1,(us956.set (Int.toNat af.2.2) (rv al)),o.sp 10 [3,4,5,7,8,9]⟩
 rintro _ w ⟨ck,bh,us942,O,rfl,o⟩
 refine aG (RC.sr (aR (.slice none 0 0) (RL.nq (RC.sr (mv bh (RL.r9 4 5 ak.2.2 o B4 (mv (vi 0) (RL.nt ?_))))))))
 have o:=o.An (X:=(XS 75 aH)) (b:=5) (j:=4) rfl (fun M h u x cs=>(H3 75) M h u x cs) rfl rfl (by decide)
 obtain⟨bm,hN,hb⟩:=bd hb
 refine RC.fold (fun(ca:Nat) (bm: (List (List aA))) U w=>∃c5:Value,SH E V [(23,c5),(174,bh),(175,vi ak.2.2.length),(176,vi ca)] [own 23 bh ak.2.2,own 137 c5 bm] U w) (fun(bm: (List (List aA))) U w=>∃bq:Value,SH E V [(23,bq)] [own 23 bh ak.2.2,own 137 bq bm] U w) hN ?_ ?_ ?_ ?_
 ·have o:=o.dC (List aA) 137
  exact⟨(.slice none 0 0),o.sp 7 [5,0]⟩
 ·rintro hm bm _ w ⟨dn,O,rfl,o⟩
  refine RC.sr (ic ((ak.2.2.length:Int)) ((ak.2.2.length:Int)) (RL.nq (RC.dS pD (RC.ex ?_))))
  exact⟨rfl,dn,o.sp 2 [0,1]⟩
 ·rintro hm ca bm s' _ w hk ⟨dp,O,rfl,o⟩ hb
  refine RC.sr (ic ((ca:Int)) ((ak.2.2.length:Int)) (RL.nq (RC.dR (pC hk) (RC.ss (RC.bs ?_)))))
  obtain⟨ed,cq,hb⟩:=bd hb
  refine RL.bO 0 o zr zr EW cq (RL.gA (f:=(fun x=>x)) 0 o (ku 0 o cq 0) (bC cq).2.1 Fd.self Az fun cr o=>?_)
  refine aR cr (RL.nt (RC.region (mv dp (mv cr ?_))))
  obtain⟨dq,dr,hb⟩:=bd hb
  refine RL.call zt zr F3 [cr] zr (aF (lI N (i0:=0) o zr dr) ?_)
  rintro ds w o
  have o:=o.freeze 0
  refine RL.fD ([dq]: (List (List aA))) o [ds] B8 Gd (fun M hs g=>⟨(g.sat 0 _ zr).1,zt⟩) fun ee w o=>?_
  have o:=o.freeze 0
  obtain⟨ef,dt,hb⟩:=bd hb
  refine RL.app 4 0 o Il dt fun c6 w o=>?_
  refine aR c6 (RL.nil (cG (aG (RC.region (RL.inc hk hm (mv (vi ((ca+1:Nat):Int)) (RL.nil ?_)))))))
  obtain rfl:=oi hb
  exact⟨rfl,c6,o.sp 5 [3,4]⟩
 rintro _ w ⟨bq,O,rfl,o⟩
 refine aG (RC.sr (mv bq (aR bq (RL.nt (RC.ret ?_)))))
 obtain rfl:=oi hb
 exact cS (o.pk 2 [1])
def sN (E:World) (V:List HP) (b0:Nat) (v0_0 v0_1:Value) (v0_2 v0_3:Value) (v0_6 v0_7:Value) (v0_8 v0_9:Value) (v0_10 v0_11:Value) (res:Bool×(List (List aA))×(List aN)) (v:Value) (w:World):Prop:=∃u0_4 u0_5:Value,v= (vb res.1)/\Holds E w ([bc 108 b0 [v0_0,v0_1,v0_2,v0_3,u0_4,u0_5,v0_6,v0_7,v0_8,v0_9,v0_10,v0_11],own 137 u0_4 res.2.1,own 165 u0_5 res.2.2]++V)
theorem rS {p0_0: (List (List aH))} {p0_2: (List cH)} {p0_4: (List (List aA))} {p0_5: (List aN)} {res:Bool×(List (List aA))×(List aN)} (j:Holds E w (bc 108 b0 [v0_0,v0_1,v0_2,v0_3,v0_4,v0_5,v0_6,v0_7,v0_8,v0_9,v0_10,v0_11]::rd v0_0 p0_0::rd v0_2 p0_2::own 137 v0_4 p0_4::own 165 v0_5 p0_5::V)) (o:i5 N p0_0 p0_2 p0_4 p0_5=some res):
    Calls bN 55 [(vp b0 0)].toArray w (iv (sN E V b0 v0_0 v0_1 v0_2 v0_3 v0_6 v0_7 v0_8 v0_9 v0_10 v0_11 res)):=by
 unfold i5 at o
 refine enter Tryz.func55 zr zr (RC.sr (aR (vb false) (RL.ns (aR (vb true) (RL.nq (RC.sr (mv (vp b0 0) (RL.nilCheck zr ?_))))))))
 refine RL.bT zr m6 (RL.bT zr wx (RL.bP 0 v0_0 j EV (RL.cC 1 p0_0 j B4 (mv (vi 0) (RL.nt ?_)))))
 obtain⟨aa,hN,o⟩:=bd o
 refine RC.fold (fun(ab:Nat) (aa: (List (List aA))×(List aN)×Bool) U w=>∃bf bg:Value,SH E V [(0,vp b0 0),(3,vb aa.2.2),(16,v0_0),(17,vi p0_0.length),(18,vi ab)] [bc 108 b0 [v0_0,v0_1,v0_2,v0_3,bf,bg,v0_6,v0_7,v0_8,v0_9,v0_10,v0_11],own 137 bf aa.1,own 165 bg aa.2.1,rd v0_0 p0_0,rd v0_2 p0_2] U w) (fun(aa: (List (List aA))×(List aN)×Bool) U w=>∃au al:Value,SH E V [(0,vp b0 0),(3,vb aa.2.2)] [bc 108 b0 [v0_0,v0_1,v0_2,v0_3,au,al,v0_6,v0_7,v0_8,v0_9,v0_10,v0_11],own 137 au aa.1,own 165 al aa.2.1,rd v0_0 p0_0,rd v0_2 p0_2] U w) hN ?_ ?_ ?_ ?_
 ·exact⟨v0_4,v0_5,j.sp 5 [0,3,4,1,2]⟩
 ·rintro hm aa _ w ⟨bq,br,O,rfl,j⟩
  refine RC.sr (ic ((p0_0.length:Int)) ((p0_0.length:Int)) (RL.nq (RC.dS pD (RC.ex ?_))))
  exact⟨rfl,bq,br,j.sp 5 [0,1,2,3,4]⟩
 ·rintro hm ab aa s' _ w hk ⟨af,ag,O,rfl,j⟩ o
  refine RC.sr (ic ((ab:Int)) ((p0_0.length:Int)) (RL.nq (RC.dR (pC hk) (RC.ss (RC.bs (mv (vi ab) ?_))))))
  obtain⟨a2,bt,o⟩:=bd o
  refine RL.cM 3 j EW bt fun cp j=>(RL.cD 0 a2 j Az fun ah j=>(aR (vi ab) (aR ah (RL.ns (aR (.slice none 0 0) (RL.nq (RC.sr (mv (vp b0 0) ?_))))))))
  refine RL.nilCheck zr (RL.bT zr m6 (RL.bT zr oU (RL.bP 2 v0_2 j x5 (RL.cC 6 p0_2 j ze (mv (vi 0) (RL.nt ?_))))))
  obtain⟨av,hN,o⟩:=bd o
  refine RC.fold (fun(az:Nat) (av: (List aH)) U w=>∃bh:Value,SH E V [(0,vp b0 0),(3,vb aa.2.2),(4,vi ab),(5,ah),(6,bh),(16,v0_0),(17,vi p0_0.length),(18,vi ab),(27,v0_2),(28,vi p0_2.length),(29,vi az)] [bc 108 b0 [v0_0,v0_1,v0_2,v0_3,af,ag,v0_6,v0_7,v0_8,v0_9,v0_10,v0_11],rd v0_0 p0_0,rd v0_2 p0_2,own 137 af aa.1,own 165 ag aa.2.1,rd ah a2,own 75 bh av] U w) (fun(av: (List aH)) U w=>∃a0:Value,SH E V [(0,vp b0 0),(3,vb aa.2.2),(4,vi ab),(5,ah),(6,a0),(16,v0_0),(17,vi p0_0.length),(18,vi ab)] [bc 108 b0 [v0_0,v0_1,v0_2,v0_3,af,ag,v0_6,v0_7,v0_8,v0_9,v0_10,v0_11],rd v0_0 p0_0,rd v0_2 p0_2,own 137 af aa.1,own 165 ag aa.2.1,rd ah a2,own 75 a0 av] U w) hN ?_ ?_ ?_ ?_
  ·have j:=j.dC aH 75
   exact⟨(.slice none 0 0),j.sp 8 [3,6,7,4,5,1,0]⟩
  ·rintro hm av _ w ⟨bu,O,rfl,j⟩
   refine RC.sr (ic ((p0_2.length:Int)) ((p0_2.length:Int)) (RL.nq (RC.dS pD (RC.ex ?_))))
   exact⟨rfl,bu,j.sp 7 [0,1,2,3,4,5,6]⟩
  ·rintro hm az av s' _ w hk ⟨bj,O,rfl,j⟩ o
   refine RC.sr (ic ((az:Int)) ((p0_2.length:Int)) (RL.nq (RC.dR (pC hk) (RC.ss (RC.bs ?_)))))
   obtain⟨bw,bx,o⟩:=bd o
   refine RL.cM 2 j B6 bx fun cq j=>(RL.cD 0 bw j mf fun cr j=>(RL.alloc j zH.z fun ct w j=>?_))
   refine RL.bM 0 j 1 zr mf fun w j=>?_
   refine RL.ns (RL.aS (f:=(fun x=>x)) 0 j zr Fd.self mf fun bz j=>(mv (vi ab) ?_))
   obtain⟨cu,b1,o⟩:=bd o
   refine RL.call zt zr I2 [bz,(vi ab)] zr (aF (m9 N (p1:=(ab:Int)) (i0:=0) j zr b1) ?_)
   rintro _ w ⟨rfl,j⟩
   refine RL.nt ?_
   obtain⟨a6,hj,o⟩:=bd o
   refine RC.jn (fun(a6: (List aH)) U w=>∃a3:Value,SH E V [(0,vp b0 0),(3,vb aa.2.2),(4,vi ab),(5,ah),(6,a3),(16,v0_0),(17,vi p0_0.length),(18,vi ab),(27,v0_2),(28,vi p0_2.length),(29,vi az)] [bc 108 b0 [v0_0,v0_1,v0_2,v0_3,af,ag,v0_6,v0_7,v0_8,v0_9,v0_10,v0_11],rd v0_0 p0_0,rd v0_2 p0_2,own 137 af aa.1,own 165 ag aa.2.1,rd ah a2,own 75 a3 a6] U w) a6 ?_ ?_
   ·refine fU hj (fun hc hj=>?_) fun hc hj=>?_
    rotate_left
    ·refine RC.skip ?_
     obtain rfl:=oi hj
     exact⟨rfl,bj,j.sp 11 [4,5,6,7,8,9,10]⟩
    refine RC.region (mv bj (RL.aS (f:=(fun x=>x)) 1 j zr Fd.self mf fun b3 j=>?_))
    obtain⟨b4,b5,hj⟩:=bd hj
    refine RL.call zt zr EZ [b3] zr (aF (g9 N (i0:=0) j zr b5) ?_)
    rintro b6 w j
    refine RL.fD ([b4]: (List aH)) j [b6] mZ pT (fun M hs g=>⟨(g.sat 0 _ zr).1,zt⟩) fun cv w j=>?_
    have j:=j.freeze 0
    obtain⟨cw,b7,hj⟩:=bd hj
    refine RL.app 13 0 j EX b7 fun bk w j=>?_
    refine aR bk (RL.nil ?_)
    obtain rfl:=oi hj
    exact⟨rfl,bk,j.sp 14 [7,8,9,10,11,12,13]⟩
   rintro _ w ⟨a3,O,rfl,j⟩
   refine cG (aG (RC.region (RL.inc hk hm (mv (vi ((az+1:Nat):Int)) (RL.nil ?_)))))
   obtain rfl:=oi o
   exact⟨rfl,a3,j.sp 7 [0,1,2,3,4,5,6]⟩
  rintro _ w ⟨a0,O,rfl,j⟩
  refine aG (RC.sr (mv ah ?_))
  obtain⟨cx,b8,o⟩:=bd o
  refine RL.call zt zr F3 [ah] zr (aF (lI N (i0:=5) j zr b8) ?_)
  rintro b9 w j
  refine mv a0 ?_
  have j:=j.freeze 7
  obtain⟨cy,ca,o⟩:=bd o
  refine RL.call zt zr F3 [a0] zr (aF (lI N (i0:=7) j zr ca) ?_)
  rintro cb w j
  have j:=(j.freeze 1).freeze 0
  obtain⟨cz,cc,o⟩:=bd o
  refine RL.call zt zr Lt [b9,cb] zr (aF (vu N (i0:=1) (i1:=0) j zr zr cc) ?_)
  rintro a1 w j
  refine aR a1 (RL.nq ?_)
  obtain⟨an,hj,o⟩:=bd o
  refine RC.jn (fun(an:Bool×(List aA)) U w=>∃ao:Value,SH E V [(0,vp b0 0),(3,vb an.1),(4,vi ab),(9,ao),(16,v0_0),(17,vi p0_0.length),(18,vi ab)] [bc 108 b0 [v0_0,v0_1,v0_2,v0_3,af,ag,v0_6,v0_7,v0_8,v0_9,v0_10,v0_11],rd v0_0 p0_0,rd v0_2 p0_2,own 137 af aa.1,own 165 ag aa.2.1,rd ao an.2] U w) an ?_ ?_
  ·refine RC.region (mv (vb aa.2.2) (mv (vb aa.2.2) (gG hj (fun ai hj=>?_) fun ai hj=>?_)))
   rotate_left
   ·refine cB ai (cB ai (cB ai (gH ai (vb false) (aR (vb false) (RL.nil ?_)))))
    obtain rfl:=oi hj
    have j:=j.freeze 0
    exact⟨rfl,a1,j.sp 10 [3,4,5,6,7,0]⟩
   refine RL.move a1 (cg ai) ?_
   have j:=j.freeze 0
   obtain⟨a7,cd,hj⟩:=bd hj
   refine RL.call (cg ai) zr Lu [a1] zr (aF (vv N (i0:=0) j zr cd) ?_)
   rintro _ w ⟨rfl,j⟩
   refine RL.lr a7 2000 (cg ai) (gH ai (vb (decide (a7<=2000))) (aR (vb (decide (a7<=2000))) (RL.nil ?_)))
   obtain rfl:=oi hj
   exact⟨rfl,a1,j.sp 10 [3,4,5,6,7,0]⟩
  rintro _ w ⟨ao,O,rfl,j⟩
  refine aG (RC.sr (mv (vp b0 0) (mv (vp b0 0) (RL.nilCheck zr (RL.bT zr D8 (RL.bP 0 af j Ik (mv ao (RL.fD ([an.2]: (List (List aA))) j [ao] B8 Gd (fun M hs g=>⟨(g.sat 5 _ zr).1,zt⟩) fun c0 w j=>?_))))))))
  have j:=j.freeze 0
  obtain⟨bl,cf,o⟩:=bd o
  refine RL.app 4 0 j Il cf fun aq w j=>?_
  refine RL.nilCheck zr (RL.bT zr D8 (RL.ka 1 aq j zr zr (kC 4 j) Ik fun w j=>?_))
  refine RL.ns (mv ao ?_)
  obtain⟨ar,ch,o⟩:=bd o
  refine RL.call zt zr Lx [ao] zr (aF (uA N (i0:=6) j zr ch) ?_)
  rintro a8 w j
  refine RL.eH 0 ar j Ih (mv (vi 0) (RL.nt ?_))
  obtain⟨aw,hN,o⟩:=bd o
  refine RC.fold (fun(a4:Nat) (aw: (List aN)) U w=>∃bm:Value,SH E V [(0,vp b0 0),(3,vb an.1),(4,vi ab),(16,v0_0),(17,vi p0_0.length),(18,vi ab),(64,a8),(65,vi ar.length),(66,vi a4)] [bc 108 b0 [v0_0,v0_1,v0_2,v0_3,aq,bm,v0_6,v0_7,v0_8,v0_9,v0_10,v0_11],own 165 bm aw,rd v0_0 p0_0,rd v0_2 p0_2,own 137 aq bl,own 137 a8 ar] U w) (fun(aw: (List aN)) U w=>∃a5:Value,SH E V [(0,vp b0 0),(3,vb an.1),(16,v0_0),(17,vi p0_0.length),(18,vi ab)] [bc 108 b0 [v0_0,v0_1,v0_2,v0_3,aq,a5,v0_6,v0_7,v0_8,v0_9,v0_10,v0_11],own 165 a5 aw,rd v0_0 p0_0,rd v0_2 p0_2,own 137 aq bl,own 137 a8 ar] U w) hN ?_ ?_ ?_ ?_
  ·exact⟨ag,j.sp 8 [2,6,3,4,5,0]⟩
  ·rintro hm aw _ w ⟨cj,O,rfl,j⟩
   refine RC.sr (ic ((ar.length:Int)) ((ar.length:Int)) (RL.nq (RC.dS pD (RC.ex ?_))))
   exact⟨rfl,cj,j.sp 6 [0,1,2,3,4,5]⟩
  ·rintro hm a4 aw s' _ w hk ⟨a9,O,rfl,j⟩ o
   refine RC.sr (ic ((a4:Int)) ((ar.length:Int)) (RL.nq (RC.dR (pC hk) (RC.ss (RC.bs ?_)))))
   obtain⟨bn,ba,o⟩:=bd o
   refine RL.bO 5 j zr zr B8 ba (RL.gA (f:=(fun x=>x)) 5 j (ku 5 j ba 0) (bC ba).2.1 Fd.self Ii fun ax j=>?_)
   refine aR ax (RL.nt ?_)
   have j:=j.drew
   refine RC.FX (fun w=>Holds E w ([bc 108 b0 [v0_0,v0_1,v0_2,v0_3,aq,a9,v0_6,v0_7,v0_8,v0_9,v0_10,v0_11]]++V)) mixed zr [1,1,1,1,1,1,1,0,2,0,2,2,0,0,2] [0,1,2,3,4,5,6,7,8,9,10,11,12,13,14] (j.pk 7 [1]) (DP.e1 (vp b0 0) zr (fun w=>RL.move (vp b0 0) zt DP.d1) (DP.e1 (vp b0 0) zr (fun w=>RL.move (vp b0 0) zt DP.d1) (DP.e1 (vp b0 0) zr (fun w=>RL.nilCheck zr DP.d1) (DP.e1 (vp b0 5) zr (fun w=>RL.bT zr tq DP.d1) (DP.IW a9 zr (fun w j=>RL.bP 0 a9 j zI DP.d1) (DP.e1 (vi ab) zr (fun w=>RL.move (vi ab) zt DP.d1) (DP.e1 ax zr (fun w=>RL.move ax zt DP.d1) (DP.e0 zr ?_))))))))
   refine mv ax (u6 zr ?_)
   obtain⟨bo,ck,o⟩:=bd o
   refine RL.call zt zr I1 [ax] zr (aF (mE N (i0:=0) j zr ck) ?_)
   rintro cl w j
   refine DP.d2 (j.pk 8 [2]) (DP.e0 zr ?_)
   have j:=(j.sc Int (ab:Int)).freeze 1
   refine RL.build (⟨(ab:Int),bn,bo⟩:aN) trivial rfl j [(0,vi ab),(1,ax),(2,cl)] rfl Kf rfl (fun M hs g=>by have h:=x4 M;exact dY.cons (f:=fun(x:aN) y=>{x with eT:=y}) h va (g.sat 0 _ rfl).1 fun _ h=>dY.cons (f:=fun(x:aN) y=>{x with Set:=y}) h vc (g.sat 2 _ rfl).1 fun _ h=>dY.cons (f:=fun(x:aN) y=>{x with oq:=y}) h vd (g.sat 1 _ rfl).1 fun _ h=>dY.nil h) fun cm j=>?_
   refine u6 zr (RL.fD ([(⟨(ab:Int),bn,bo⟩:aN)]: (List aN)) j [cm] Gf Gg (fun M hs g=>⟨(g.sat 0 _ zr).1,zt⟩) fun c1 w j=>(DP.d2 (j.pk 11 [5]) (DP.e2 zr ?_)))
   have j:=j.freeze 0
   obtain⟨c2,cn,o⟩:=bd o
   refine RL.app 6 0 j Kg cn fun bp w j=>?_
   refine DP.d2 (j.pk 11 [5]) (DP.e0 zr (RL.nilCheck zr (bR zr (RL.bT zr tq (DP.d0 (DP.L0 zr zr (RL.ka 5 bp j zr zr (kC 6 j) zI fun w j=>?_)))))))
   refine DP.d2 zt (DP.z (cG (aG (RC.region (RL.inc hk hm (mv (vi ((a4+1:Nat):Int)) (RL.nil ?_)))))))
   obtain rfl:=oi o
   exact⟨rfl,bp,j.sp 11 [5,6,7,8,9,10]⟩
  rintro _ w ⟨a5,O,rfl,j⟩
  refine cG (aG (RC.region (RL.inc hk hm (mv (vi ((ab+1:Nat):Int)) (RL.nil ?_)))))
  obtain rfl:=oi o
  exact⟨rfl,aq,a5,j.sp 6 [0,4,1,2,3]⟩
 rintro _ w ⟨au,al,O,rfl,j⟩
 refine aG (RC.seq ?_)
 obtain⟨bb,hj,o⟩:=bd o
 refine RC.jn (fun(bb:Bool)=>SH E V [(0,vp b0 0),(2,vb bb)] [bc 108 b0 [v0_0,v0_1,v0_2,v0_3,au,al,v0_6,v0_7,v0_8,v0_9,v0_10,v0_11],rd v0_0 p0_0,rd v0_2 p0_2,own 137 au aa.1,own 165 al aa.2.1]) bb ?_ ?_
 ·refine RC.region (mv (vb aa.2.2) (mv (vb aa.2.2) (gG hj (fun ae hj=>?_) fun ae hj=>?_)))
  ·refine RL.move (vp b0 0) (cg ae) (RL.nilCheck (hg:=(cg ae)) zr (RL.bT (hg:=(cg ae)) zr tq (RL.bP (hg:=(cg ae)) 0 al j zI (RL.eH (hg:=(cg ae)) 2 aa.2.1 j D9 (RL.lr (aa.2.1.length:Int) 2000 (cg ae) (gH ae (vb (decide ((aa.2.1.length:Int)<=2000))) (aR (vb (decide ((aa.2.1.length:Int)<=2000))) (RL.nil ?_))))))))
   obtain rfl:=oi hj
   exact⟨rfl,j.sp 5 [0,3,4,1,2]⟩
  refine cB ae (cB ae (cB ae (cB ae (cB ae (cB ae (gH ae (vb false) (aR (vb false) (RL.nil ?_))))))))
  obtain rfl:=oi hj
  exact⟨rfl,j.sp 5 [0,3,4,1,2]⟩
 rintro _ w ⟨O,rfl,j⟩
 refine aG (RC.ret ?_)
 obtain rfl:=oi o
 exact cS ⟨au,al,zr,j.pk 5 [0,3,4]⟩
end Go.Gk
namespace Go.Gk
open Go Go.Proofs
variable (N:Nat) {E w:World} {b0 i0 i1:Nat} {p0 p1 p2 res:Int} {v0 v0_0 v0_1 v0_10 v0_11 v0_2 v0_3 v0_4 v0_5 v0_6 v0_7 v0_8 v0_9 v1:Value} {V:List HP}
theorem wE {p0 p1:aH} {res:Bool} (j:Holds E w V) (h0:V[i0]? =some (rd v0 p0)) (h1:V[i1]? =some (rd v1 p1)) (hb:pS N p0 p1=some res):
    Calls bN 102 [v0,v1].toArray w (iv (bH E V res)):=by
 unfold pS at hb
 refine enter Tryz.func102 zr zr ?_
 have j:=(j.dup (i0+0) h0).dup (i1+1) h1
 refine RC.sr (RL.cX 1 v0 j zr fun o w j=>?_)
 refine RL.cX 1 v1 j zr fun aa w j=>?_
 refine aR (vb false) (RL.ns (RL.bT zr kJ (RL.aX 1 j zr fV dH (RL.bT zr lF (RL.aX 0 j zr gL dH (ic p0.X0 p1.X1 (mv (vb (decide (p0.X0<p1.X1))) (RL.gs true (decide (p0.X0<p1.X1)) (vp aa 0) zr zr zr (f9 kJ) ?_))))))))
 refine RL.gs true (decide (p0.X0<p1.X1)) (vi p1.X0) rfl rfl rfl (cT 0 rfl j (fun h=>by exact(dN h:cv (true&&((decide (p0.X0<p1.X1))==true)) (vp aa 0)= (vp aa 0))) rfl fV dH) (RL.gs true (decide (p0.X0<p1.X1)) (vp o 2) rfl rfl rfl (f9 lF) (RL.gs true (decide (p0.X0<p1.X1)) (vi p0.X1) rfl rfl rfl (cT 1 rfl j (fun h=>by exact(dN h:cv (true&&((decide (p0.X0<p1.X1))==true)) (vp o 2)= (vp o 2))) rfl gL dH) (RL.gs true (decide (p0.X0<p1.X1)) (vb (decide (p1.X0<p0.X1))) rfl rfl rfl (fN .lss .i64 p1.X0 p0.X1 rfl (fun h=>by exact(dN h:cv (true&&((decide (p0.X0<p1.X1))==true)) (vi p1.X0)= (vi p1.X0))) (fun h=>by exact(dN h:cv (true&&((decide (p0.X0<p1.X1))==true)) (vi p0.X1)= (vi p0.X1))) rfl) (RL.pick (decide (p0.X0<p1.X1)) (vb ((decide (p0.X0<p1.X1))&&(decide (p1.X0<p0.X1)))) (k7 true) (aR (vb ((decide (p0.X0<p1.X1))&&(decide (p1.X0<p0.X1)))) (RL.ns (RL.bT rfl lE (RL.aX 1 j rfl gv dH ?_))))))))
 refine RL.bT rfl oT (RL.aX 0 j rfl km dH (ic p0.Y0 p1.Y1 (mv (vb (decide (p0.Y0<p1.Y1))) (RL.gs true (decide (p0.Y0<p1.Y1)) (vp aa 1) rfl rfl rfl (f9 lE) (RL.gs true (decide (p0.Y0<p1.Y1)) (vi p1.Y0) rfl rfl rfl (cT 0 rfl j (fun h=>by exact(dN h:cv (true&&((decide (p0.Y0<p1.Y1))==true)) (vp aa 1)= (vp aa 1))) rfl gv dH) (RL.gs true (decide (p0.Y0<p1.Y1)) (vp o 3) rfl rfl rfl (f9 oT) (RL.gs true (decide (p0.Y0<p1.Y1)) (vi p0.Y1) rfl rfl rfl (cT 1 rfl j (fun h=>by exact(dN h:cv (true&&((decide (p0.Y0<p1.Y1))==true)) (vp o 3)= (vp o 3))) rfl km dH) (RL.gs true (decide (p0.Y0<p1.Y1)) (vb (decide (p1.Y0<p0.Y1))) rfl rfl rfl (fN .lss .i64 p1.Y0 p0.Y1 rfl (fun h=>by exact(dN h:cv (true&&((decide (p0.Y0<p1.Y1))==true)) (vi p1.Y0)= (vi p1.Y0))) (fun h=>by exact(dN h:cv (true&&((decide (p0.Y0<p1.Y1))==true)) (vi p0.Y1)= (vi p0.Y1))) rfl) ?_))))))))
 refine RL.pick (decide (p0.Y0<p1.Y1)) (vb ((decide (p0.Y0<p1.Y1))&&(decide (p1.Y0<p0.Y1)))) (k7 true) (aR (vb ((decide (p0.Y0<p1.Y1))&&(decide (p1.Y0<p0.Y1)))) (RL.ns (mv (vb ((decide (p0.X0<p1.X1))&&(decide (p1.X0<p0.X1)))) (mv (vb ((decide (p0.X0<p1.X1))&&(decide (p1.X0<p0.X1)))) (RL.gs true ((decide (p0.X0<p1.X1))&&(decide (p1.X0<p0.X1))) (vp o 3) rfl rfl rfl (f9 oT) (RL.gs true ((decide (p0.X0<p1.X1))&&(decide (p1.X0<p0.X1))) (vi p0.Y1) rfl rfl rfl (cT 1 rfl j (fun h=>by exact(dN h:cv (true&&(((decide (p0.X0<p1.X1))&&(decide (p1.X0<p0.X1)))==true)) (vp o 3)= (vp o 3))) rfl km dH) (RL.gs true ((decide (p0.X0<p1.X1))&&(decide (p1.X0<p0.X1))) (vp aa 1) rfl rfl rfl (f9 lE) (RL.gs true ((decide (p0.X0<p1.X1))&&(decide (p1.X0<p0.X1))) (vi p1.Y0) rfl rfl rfl (cT 0 rfl j (fun h=>by exact(dN h:cv (true&&(((decide (p0.X0<p1.X1))&&(decide (p1.X0<p0.X1)))==true)) (vp aa 1)= (vp aa 1))) rfl gv dH) ?_))))))))
 refine RL.gs true ((decide (p0.X0<p1.X1))&&(decide (p1.X0<p0.X1))) (vb (p0.Y1==p1.Y0)) rfl rfl rfl (fN .eql .i64 p0.Y1 p1.Y0 rfl (fun h=>by exact(dN h:cv (true&&(((decide (p0.X0<p1.X1))&&(decide (p1.X0<p0.X1)))==true)) (vi p0.Y1)= (vi p0.Y1))) (fun h=>by exact(dN h:cv (true&&(((decide (p0.X0<p1.X1))&&(decide (p1.X0<p0.X1)))==true)) (vi p1.Y0)= (vi p1.Y0))) rfl) (RL.gs true ((decide (p0.X0<p1.X1))&&(decide (p1.X0<p0.X1))) (vb (p0.Y1==p1.Y0)) rfl rfl rfl (dW (hx:=fun h=>by exact(dN h:cv (true&&(((decide (p0.X0<p1.X1))&&(decide (p1.X0<p0.X1)))==true)) (vb (p0.Y1==p1.Y0))= (vb (p0.Y1==p1.Y0))))) (RL.gs (true&&(((decide (p0.X0<p1.X1))&&(decide (p1.X0<p0.X1)))==true)) (p0.Y1==p1.Y0) (vp aa 3) rfl rfl rfl (f9 oT) (RL.gs (true&&(((decide (p0.X0<p1.X1))&&(decide (p1.X0<p0.X1)))==true)) (p0.Y1==p1.Y0) (vi p1.Y1) rfl rfl rfl (cT 0 rfl j (fun h=>by exact(dN h:cv ((true&&(((decide (p0.X0<p1.X1))&&(decide (p1.X0<p0.X1)))==true))&&((p0.Y1==p1.Y0)==false)) (vp aa 3)= (vp aa 3))) rfl km dH) (RL.gs (true&&(((decide (p0.X0<p1.X1))&&(decide (p1.X0<p0.X1)))==true)) (p0.Y1==p1.Y0) (vp o 1) rfl rfl rfl (f9 lE) (RL.gs (true&&(((decide (p0.X0<p1.X1))&&(decide (p1.X0<p0.X1)))==true)) (p0.Y1==p1.Y0) (vi p0.Y0) rfl rfl rfl (cT 1 rfl j (fun h=>by exact(dN h:cv ((true&&(((decide (p0.X0<p1.X1))&&(decide (p1.X0<p0.X1)))==true))&&((p0.Y1==p1.Y0)==false)) (vp o 1)= (vp o 1))) rfl gv dH) (RL.gs (true&&(((decide (p0.X0<p1.X1))&&(decide (p1.X0<p0.X1)))==true)) (p0.Y1==p1.Y0) (vb (p1.Y1==p0.Y0)) rfl rfl rfl (fN .eql .i64 p1.Y1 p0.Y0 rfl (fun h=>by exact(dN h:cv ((true&&(((decide (p0.X0<p1.X1))&&(decide (p1.X0<p0.X1)))==true))&&((p0.Y1==p1.Y0)==false)) (vi p1.Y1)= (vi p1.Y1))) (fun h=>by exact(dN h:cv ((true&&(((decide (p0.X0<p1.X1))&&(decide (p1.X0<p0.X1)))==true))&&((p0.Y1==p1.Y0)==false)) (vi p0.Y0)= (vi p0.Y0))) rfl) (RL.gs true ((decide (p0.X0<p1.X1))&&(decide (p1.X0<p0.X1))) (vb ((p0.Y1==p1.Y0)||(p1.Y1==p0.Y0))) rfl rfl rfl (ti (p0.Y1==p1.Y0) rfl (fun h=>by exact(dN h:cv (true&&(((decide (p0.X0<p1.X1))&&(decide (p1.X0<p0.X1)))==true)) (vb (p0.Y1==p1.Y0))= (vb (p0.Y1==p1.Y0)))) (fun h=>by exact oO (h:=h) (true&&(((decide (p0.X0<p1.X1))&&(decide (p1.X0<p0.X1)))==true)))) (RL.pick ((decide (p0.X0<p1.X1))&&(decide (p1.X0<p0.X1))) (vb (((decide (p0.X0<p1.X1))&&(decide (p1.X0<p0.X1)))&&((p0.Y1==p1.Y0)||(p1.Y1==p0.Y0)))) (k7 true) ?_))))))))
 refine mv (vb (((decide (p0.X0<p1.X1))&&(decide (p1.X0<p0.X1)))&&((p0.Y1==p1.Y0)||(p1.Y1==p0.Y0)))) (RL.gs true (((decide (p0.X0<p1.X1))&&(decide (p1.X0<p0.X1)))&&((p0.Y1==p1.Y0)||(p1.Y1==p0.Y0))) (vb ((decide (p0.Y0<p1.Y1))&&(decide (p1.Y0<p0.Y1)))) rfl rfl rfl dW (RL.gs true (((decide (p0.X0<p1.X1))&&(decide (p1.X0<p0.X1)))&&((p0.Y1==p1.Y0)||(p1.Y1==p0.Y0))) (vb ((decide (p0.Y0<p1.Y1))&&(decide (p1.Y0<p0.Y1)))) rfl rfl rfl (dW (hx:=fun h=>by exact(dN h:cv (true&&((((decide (p0.X0<p1.X1))&&(decide (p1.X0<p0.X1)))&&((p0.Y1==p1.Y0)||(p1.Y1==p0.Y0)))==false)) (vb ((decide (p0.Y0<p1.Y1))&&(decide (p1.Y0<p0.Y1))))= (vb ((decide (p0.Y0<p1.Y1))&&(decide (p1.Y0<p0.Y1))))))) (RL.gs (true&&((((decide (p0.X0<p1.X1))&&(decide (p1.X0<p0.X1)))&&((p0.Y1==p1.Y0)||(p1.Y1==p0.Y0)))==false)) ((decide (p0.Y0<p1.Y1))&&(decide (p1.Y0<p0.Y1))) (vp o 2) rfl rfl rfl (f9 lF) (RL.gs (true&&((((decide (p0.X0<p1.X1))&&(decide (p1.X0<p0.X1)))&&((p0.Y1==p1.Y0)||(p1.Y1==p0.Y0)))==false)) ((decide (p0.Y0<p1.Y1))&&(decide (p1.Y0<p0.Y1))) (vi p0.X1) rfl rfl rfl (cT 1 rfl j (fun h=>by exact(dN h:cv ((true&&((((decide (p0.X0<p1.X1))&&(decide (p1.X0<p0.X1)))&&((p0.Y1==p1.Y0)||(p1.Y1==p0.Y0)))==false))&&(((decide (p0.Y0<p1.Y1))&&(decide (p1.Y0<p0.Y1)))==true)) (vp o 2)= (vp o 2))) rfl gL dH) (RL.gs (true&&((((decide (p0.X0<p1.X1))&&(decide (p1.X0<p0.X1)))&&((p0.Y1==p1.Y0)||(p1.Y1==p0.Y0)))==false)) ((decide (p0.Y0<p1.Y1))&&(decide (p1.Y0<p0.Y1))) (vp aa 0) rfl rfl rfl (f9 kJ) (RL.gs (true&&((((decide (p0.X0<p1.X1))&&(decide (p1.X0<p0.X1)))&&((p0.Y1==p1.Y0)||(p1.Y1==p0.Y0)))==false)) ((decide (p0.Y0<p1.Y1))&&(decide (p1.Y0<p0.Y1))) (vi p1.X0) rfl rfl rfl (cT 0 rfl j (fun h=>by exact(dN h:cv ((true&&((((decide (p0.X0<p1.X1))&&(decide (p1.X0<p0.X1)))&&((p0.Y1==p1.Y0)||(p1.Y1==p0.Y0)))==false))&&(((decide (p0.Y0<p1.Y1))&&(decide (p1.Y0<p0.Y1)))==true)) (vp aa 0)= (vp aa 0))) rfl fV dH) (RL.gs (true&&((((decide (p0.X0<p1.X1))&&(decide (p1.X0<p0.X1)))&&((p0.Y1==p1.Y0)||(p1.Y1==p0.Y0)))==false)) ((decide (p0.Y0<p1.Y1))&&(decide (p1.Y0<p0.Y1))) (vb (p0.X1==p1.X0)) rfl rfl rfl (fN .eql .i64 p0.X1 p1.X0 rfl (fun h=>by exact(dN h:cv ((true&&((((decide (p0.X0<p1.X1))&&(decide (p1.X0<p0.X1)))&&((p0.Y1==p1.Y0)||(p1.Y1==p0.Y0)))==false))&&(((decide (p0.Y0<p1.Y1))&&(decide (p1.Y0<p0.Y1)))==true)) (vi p0.X1)= (vi p0.X1))) (fun h=>by exact(dN h:cv ((true&&((((decide (p0.X0<p1.X1))&&(decide (p1.X0<p0.X1)))&&((p0.Y1==p1.Y0)||(p1.Y1==p0.Y0)))==false))&&(((decide (p0.Y0<p1.Y1))&&(decide (p1.Y0<p0.Y1)))==true)) (vi p1.X0)= (vi p1.X0))) rfl) (RL.gs (true&&((((decide (p0.X0<p1.X1))&&(decide (p1.X0<p0.X1)))&&((p0.Y1==p1.Y0)||(p1.Y1==p0.Y0)))==false)) ((decide (p0.Y0<p1.Y1))&&(decide (p1.Y0<p0.Y1))) (vb (p0.X1==p1.X0)) rfl rfl rfl (dW (hx:=fun h=>by exact(dN h:cv ((true&&((((decide (p0.X0<p1.X1))&&(decide (p1.X0<p0.X1)))&&((p0.Y1==p1.Y0)||(p1.Y1==p0.Y0)))==false))&&(((decide (p0.Y0<p1.Y1))&&(decide (p1.Y0<p0.Y1)))==true)) (vb (p0.X1==p1.X0))= (vb (p0.X1==p1.X0))))) ?_))))))))
 refine RL.gs ((true&&((((decide (p0.X0<p1.X1))&&(decide (p1.X0<p0.X1)))&&((p0.Y1==p1.Y0)||(p1.Y1==p0.Y0)))==false))&&(((decide (p0.Y0<p1.Y1))&&(decide (p1.Y0<p0.Y1)))==true)) (p0.X1==p1.X0) (vp aa 2) rfl rfl rfl (f9 lF) (RL.gs ((true&&((((decide (p0.X0<p1.X1))&&(decide (p1.X0<p0.X1)))&&((p0.Y1==p1.Y0)||(p1.Y1==p0.Y0)))==false))&&(((decide (p0.Y0<p1.Y1))&&(decide (p1.Y0<p0.Y1)))==true)) (p0.X1==p1.X0) (vi p1.X1) rfl rfl rfl (cT 0 rfl j (fun h=>by exact(dN h:cv (((true&&((((decide (p0.X0<p1.X1))&&(decide (p1.X0<p0.X1)))&&((p0.Y1==p1.Y0)||(p1.Y1==p0.Y0)))==false))&&(((decide (p0.Y0<p1.Y1))&&(decide (p1.Y0<p0.Y1)))==true))&&((p0.X1==p1.X0)==false)) (vp aa 2)= (vp aa 2))) rfl gL dH) (RL.gs ((true&&((((decide (p0.X0<p1.X1))&&(decide (p1.X0<p0.X1)))&&((p0.Y1==p1.Y0)||(p1.Y1==p0.Y0)))==false))&&(((decide (p0.Y0<p1.Y1))&&(decide (p1.Y0<p0.Y1)))==true)) (p0.X1==p1.X0) (vp o 0) rfl rfl rfl (f9 kJ) (RL.gs ((true&&((((decide (p0.X0<p1.X1))&&(decide (p1.X0<p0.X1)))&&((p0.Y1==p1.Y0)||(p1.Y1==p0.Y0)))==false))&&(((decide (p0.Y0<p1.Y1))&&(decide (p1.Y0<p0.Y1)))==true)) (p0.X1==p1.X0) (vi p0.X0) rfl rfl rfl (cT 1 rfl j (fun h=>by exact(dN h:cv (((true&&((((decide (p0.X0<p1.X1))&&(decide (p1.X0<p0.X1)))&&((p0.Y1==p1.Y0)||(p1.Y1==p0.Y0)))==false))&&(((decide (p0.Y0<p1.Y1))&&(decide (p1.Y0<p0.Y1)))==true))&&((p0.X1==p1.X0)==false)) (vp o 0)= (vp o 0))) rfl fV dH) (RL.gs ((true&&((((decide (p0.X0<p1.X1))&&(decide (p1.X0<p0.X1)))&&((p0.Y1==p1.Y0)||(p1.Y1==p0.Y0)))==false))&&(((decide (p0.Y0<p1.Y1))&&(decide (p1.Y0<p0.Y1)))==true)) (p0.X1==p1.X0) (vb (p1.X1==p0.X0)) rfl rfl rfl (fN .eql .i64 p1.X1 p0.X0 rfl (fun h=>by exact(dN h:cv (((true&&((((decide (p0.X0<p1.X1))&&(decide (p1.X0<p0.X1)))&&((p0.Y1==p1.Y0)||(p1.Y1==p0.Y0)))==false))&&(((decide (p0.Y0<p1.Y1))&&(decide (p1.Y0<p0.Y1)))==true))&&((p0.X1==p1.X0)==false)) (vi p1.X1)= (vi p1.X1))) (fun h=>by exact(dN h:cv (((true&&((((decide (p0.X0<p1.X1))&&(decide (p1.X0<p0.X1)))&&((p0.Y1==p1.Y0)||(p1.Y1==p0.Y0)))==false))&&(((decide (p0.Y0<p1.Y1))&&(decide (p1.Y0<p0.Y1)))==true))&&((p0.X1==p1.X0)==false)) (vi p0.X0)= (vi p0.X0))) rfl) (RL.gs (true&&((((decide (p0.X0<p1.X1))&&(decide (p1.X0<p0.X1)))&&((p0.Y1==p1.Y0)||(p1.Y1==p0.Y0)))==false)) ((decide (p0.Y0<p1.Y1))&&(decide (p1.Y0<p0.Y1))) (vb ((p0.X1==p1.X0)||(p1.X1==p0.X0))) rfl rfl rfl (ti (p0.X1==p1.X0) rfl (fun h=>by exact(dN h:cv ((true&&((((decide (p0.X0<p1.X1))&&(decide (p1.X0<p0.X1)))&&((p0.Y1==p1.Y0)||(p1.Y1==p0.Y0)))==false))&&(((decide (p0.Y0<p1.Y1))&&(decide (p1.Y0<p0.Y1)))==true)) (vb (p0.X1==p1.X0))= (vb (p0.X1==p1.X0)))) (fun h=>by exact oO (h:=h) ((true&&((((decide (p0.X0<p1.X1))&&(decide (p1.X0<p0.X1)))&&((p0.Y1==p1.Y0)||(p1.Y1==p0.Y0)))==false))&&(((decide (p0.Y0<p1.Y1))&&(decide (p1.Y0<p0.Y1)))==true)))) (RL.gs true (((decide (p0.X0<p1.X1))&&(decide (p1.X0<p0.X1)))&&((p0.Y1==p1.Y0)||(p1.Y1==p0.Y0))) (vb (((decide (p0.Y0<p1.Y1))&&(decide (p1.Y0<p0.Y1)))&&((p0.X1==p1.X0)||(p1.X1==p0.X0)))) rfl rfl rfl (ti ((decide (p0.Y0<p1.Y1))&&(decide (p1.Y0<p0.Y1))) rfl (fun h=>by exact(dN h:cv (true&&((((decide (p0.X0<p1.X1))&&(decide (p1.X0<p0.X1)))&&((p0.Y1==p1.Y0)||(p1.Y1==p0.Y0)))==false)) (vb ((decide (p0.Y0<p1.Y1))&&(decide (p1.Y0<p0.Y1))))= (vb ((decide (p0.Y0<p1.Y1))&&(decide (p1.Y0<p0.Y1)))))) (fun h=>by exact k7 (h:=h) (true&&((((decide (p0.X0<p1.X1))&&(decide (p1.X0<p0.X1)))&&((p0.Y1==p1.Y0)||(p1.Y1==p0.Y0)))==false)))) (RL.pick (((decide (p0.X0<p1.X1))&&(decide (p1.X0<p0.X1)))&&((p0.Y1==p1.Y0)||(p1.Y1==p0.Y0))) (vb ((((decide (p0.X0<p1.X1))&&(decide (p1.X0<p0.X1)))&&((p0.Y1==p1.Y0)||(p1.Y1==p0.Y0)))||(((decide (p0.Y0<p1.Y1))&&(decide (p1.Y0<p0.Y1)))&&((p0.X1==p1.X0)||(p1.X1==p0.X0))))) (oO true) (aR (vb ((((decide (p0.X0<p1.X1))&&(decide (p1.X0<p0.X1)))&&((p0.Y1==p1.Y0)||(p1.Y1==p0.Y0)))||(((decide (p0.Y0<p1.Y1))&&(decide (p1.Y0<p0.Y1)))&&((p0.X1==p1.X0)||(p1.X1==p0.X0))))) ?_))))))))
 refine RL.nt (RC.ret ?_)
 obtain rfl:=oi hb
 exact cS ⟨rfl,j.drop 4⟩
theorem pY {p0:aH} {p1:cH} {res:Bool} (j:Holds E w V) (h0:V[i0]? =some (rd v0 p0)) (h1:V[i1]? =some (pt v1 p1)) (o:ji N p0 p1=some res):
    Calls bN 101 [v0,v1].toArray w (iv (bH E V res)):=by
 unfold ji at o
 refine enter Tryz.func101 zr zr ?_
 have j:=(j.dup (i0+0) h0).xO (i:=i1+1) h1
 refine RC.sr (RL.cX 1 v0 j zr fun ah w j=>?_)
 have j:=j.jw (i:=0) rfl
 refine aR (vb false) (RL.nq (RC.Bj mixed [1,0,2,2,0] [0,1,2,3,4] ?_))
 have j:=j.drew
 refine DP.Ax p0 0 zr j jd fun aa a33 ai j=>(DP.e0 zr (RL.cD 3 p1 j mf fun ab j=>(u6 zr ?_)))
 obtain⟨aj,ad,o⟩:=bd o
 refine RL.call zt zr EZ [ab] zr (aF (g9 N (i0:=0) j zr ad) ?_)
 rintro ae w j
 refine DP.d2 (⟨zt,j.np 2⟩) (DP.e2 zr ?_)
 obtain⟨af,ag,o⟩:=bd o
 refine RL.call zt zr Kh [aa,ae] zr (aF (wE N (i0:=3) (i1:=0) j zr zr ag) ?_)
 rintro _ w ⟨rfl,j⟩
 refine DP.d2 (⟨zt,j.np 2⟩) (DP.e0 zr (aR (vb af) (DP.d0 ?_)))
 have j:=j.pl 7 [0,1,3,4,5,6]
 refine DP.z (aG (RC.ret ?_))
 obtain rfl:=oi o
 exact cS ⟨rfl,j.drop 6⟩
theorem ll {p0: (List aH)} {p1:aH->Option Bool} {res:Bool} (j:Holds E w V) (h0:V[i0]? =some (rd v0 p0)) (h1:G8 bN E V v1 p1 (fun(r:Bool)=>Value.bool r)) (o:fY N p0 p1=some res):
    Calls bN 100 [v0,v1].toArray w (iv (bH E V res)):=by
 unfold fY at o
 refine enter Tryz.func100 zr zr ?_
 have j:=j.dup (i0+0) h0
 refine RC.sr (aR (vb false) (RL.ns (mv v0 (mv v1 ?_))))
 obtain⟨aa,ab,o⟩:=bd o
 refine RL.call zt zr H8 [v0,v1] zr (aF (pW N (i0:=0) j zr (h1.lift 1 zr) ab) ?_)
 rintro _ w ⟨rfl,j⟩
 refine ic aa 0 (aR (vb (decide (aa>=0))) (RL.nt (RC.ret ?_)))
 obtain rfl:=oi o
 exact cS ⟨rfl,j.drop 1⟩
def sO (E:World) (V:List HP) (b0:Nat) (v0_0 v0_1:Value) (v0_2 v0_3:Value) (v0_4 v0_5:Value) (v0_7 v0_8:Value) (v0_9 v0_10 v0_11:Value) (res: (List (List Int))) (v:Value) (w:World):Prop:=∃u0_6:Value,v = .tuple #[]/\Holds E w ([bc 108 b0 [v0_0,v0_1,v0_2,v0_3,v0_4,v0_5,u0_6,v0_7,v0_8,v0_9,v0_10,v0_11],own 91 u0_6 res]++V)
theorem rT {p0_2: (List cH)} {p0_5: (List aN)} {p0_6: (List (List Int))} {res: (List (List Int))} (j:Holds E w (bc 108 b0 [v0_0,v0_1,v0_2,v0_3,v0_4,v0_5,v0_6,v0_7,v0_8,v0_9,v0_10,v0_11]::rd v0_2 p0_2::rd v0_5 p0_5::own 91 v0_6 p0_6::V)) (hb:i6 N p0_2 p0_5 p0_6=some res):
    Calls bN 56 [(vp b0 0)].toArray w (iv (sO E V b0 v0_0 v0_1 v0_2 v0_3 v0_4 v0_5 v0_7 v0_8 v0_9 v0_10 v0_11 res)):=by
 unfold i6 at hb
 refine enter Tryz.func56 zr zr (RC.sr (mv (vp b0 0) (RL.nilCheck zr (RL.bT zr m6 (RL.bT zr oU (RL.bP 0 v0_2 j x5 (RL.cC 1 p0_2 j ze (mv (vi 0) ?_))))))))
 refine RL.nt ?_
 obtain⟨af,hN,hb⟩:=bd hb
 refine RC.fold (fun(ai:Nat) (af: (List (List Int))) U w=>∃az:Value,SH E V [(0,vp b0 0),(11,v0_2),(12,vi p0_2.length),(13,vi ai)] [bc 108 b0 [v0_0,v0_1,v0_2,v0_3,v0_4,v0_5,az,v0_7,v0_8,v0_9,v0_10,v0_11],own 91 az af,rd v0_2 p0_2,rd v0_5 p0_5] U w) (fun(af: (List (List Int))) U w=>∃aq:Value,SH E V [(0,vp b0 0)] [bc 108 b0 [v0_0,v0_1,v0_2,v0_3,v0_4,v0_5,aq,v0_7,v0_8,v0_9,v0_10,v0_11],own 91 aq af,rd v0_2 p0_2,rd v0_5 p0_5] U w) hN ?_ ?_ ?_ ?_
 ·exact⟨v0_6,j.sp 4 [0,3,1,2]⟩
 ·rintro hm af _ w ⟨a4,O,rfl,j⟩
  refine RC.sr (ic ((p0_2.length:Int)) ((p0_2.length:Int)) (RL.nq (RC.dS pD (RC.ex ?_))))
  exact⟨rfl,a4,j.sp 4 [0,1,2,3]⟩
 ·rintro hm ai af s' _ w hk ⟨ah,O,rfl,j⟩ hb
  refine RC.sr (ic ((ai:Int)) ((p0_2.length:Int)) (RL.nq (RC.dR (pC hk) (RC.ss (RC.bs ?_)))))
  obtain⟨aj,a5,hb⟩:=bd hb
  refine RL.cM 2 j B6 a5 fun bk j=>(RL.cD 0 aj j mf fun bl j=>(RL.alloc j zH.z fun ag w j=>?_))
  refine RL.bM 0 j 1 zr mf fun w j=>?_
  refine RL.ns (aR (.slice none 0 0) (RL.nq (RC.sr (mv (vp b0 0) (RL.nilCheck zr (RL.bT zr tq (RL.bP 3 v0_5 j zI (RL.cC 6 p0_5 j D9 ?_))))))))
  refine mv (vi 0) (RL.nt ?_)
  have j:=j.jw (i:=0) rfl
  obtain⟨ak,hN,hb⟩:=bd hb
  refine RC.fold (fun(ab:Nat) (ak: (List Int)) U w=>∃a0:Value,SH E V [(0,vp b0 0),(3,vp ag 0),(4,a0),(11,v0_2),(12,vi p0_2.length),(13,vi ai),(20,v0_5),(21,vi p0_5.length),(22,vi ab)] [bc 108 b0 [v0_0,v0_1,v0_2,v0_3,v0_4,v0_5,ah,v0_7,v0_8,v0_9,v0_10,v0_11],rd v0_2 p0_2,rd v0_5 p0_5,own 91 ah af,pt (vp ag 0) aj,own 3 a0 ak] U w) (fun(ak: (List Int)) U w=>∃ao:Value,SH E V [(0,vp b0 0),(4,ao),(11,v0_2),(12,vi p0_2.length),(13,vi ai)] [bc 108 b0 [v0_0,v0_1,v0_2,v0_3,v0_4,v0_5,ah,v0_7,v0_8,v0_9,v0_10,v0_11],rd v0_2 p0_2,rd v0_5 p0_5,own 91 ah af,pt (vp ag 0) aj,own 3 ao ak] U w) hN ?_ ?_ ?_ ?_
  ·have j:=j.dC Int 3
   exact⟨(.slice none 0 0),j.sp 8 [4,6,7,5,1,0]⟩
  ·rintro hm ak _ w ⟨a6,O,rfl,j⟩
   refine RC.sr (ic ((p0_5.length:Int)) ((p0_5.length:Int)) (RL.nq (RC.dS pD (RC.ex ?_))))
   exact⟨rfl,a6,j.sp 6 [0,1,2,3,4,5]⟩
  ·rintro hm ab ak s' _ w hk ⟨ar,O,rfl,j⟩ hb
   refine RC.sr (ic ((ab:Int)) ((p0_5.length:Int)) (RL.nq (RC.dR (pC hk) (RC.ss (RC.bs (mv (vi ab) ?_))))))
   obtain⟨aw,a7,hb⟩:=bd hb
   refine RL.cM 2 j Gf a7 fun bm j=>(RL.cD 0 aw j Ea fun bn j=>(RL.alloc j Gg.z fun bo w j=>?_))
   refine aR (vi ab) (RL.bM 0 j 1 zr Ea fun w j=>?_)
   refine RL.nq ?_
   obtain⟨ax,o,hb⟩:=bd hb
   refine RC.jn (fun(ax:Bool)=>SH E V [(0,vp b0 0),(3,vp ag 0),(4,ar),(5,vi ab),(11,v0_2),(12,vi p0_2.length),(13,vi ai),(20,v0_5),(21,vi p0_5.length),(22,vi ab),(40,vb ax)] [bc 108 b0 [v0_0,v0_1,v0_2,v0_3,v0_4,v0_5,ah,v0_7,v0_8,v0_9,v0_10,v0_11],rd v0_2 p0_2,rd v0_5 p0_5,own 91 ah af,pt (vp ag 0) aj,own 3 ar ak]) ax ?_ ?_
   ·refine RC.region (RL.j9 7 j zr AE wt fun bp j=>(RL.bU aj.jV 0 j Gh (mv (vb aj.jV) (gG o (fun ad o=>?_) fun ad o=>?_))))
    rotate_left
    ·refine cB ad (cB ad (cB ad (cB ad (gH ad (vb false) (mv (vb false) (jA (jA (jA ?_))))))))
     refine jA (RL.pick false (vb false) zr (RL.nil ?_))
     obtain rfl:=oi o
     exact⟨rfl,j.sp 10 [4,5,6,7,8,9]⟩
    refine RL.cD (hg:=(cg ad)) 8 aj j mf fun a8 j=>(RL.bT (hg:=(cg ad)) zr Eb (RL.aX (hg:=(cg ad)) 2 j zr pG dH ?_))
    obtain⟨a1,a9,o⟩:=bd o
    refine RL.call (cg ad) zr I2 [a8,(vi aw.eT)] zr (aF (m9 N (p1:=aw.eT) (i0:=0) j zr a9) ?_)
    rintro _ w ⟨rfl,j⟩
    refine gH ad (vb a1) (mv (vb a1) (gG o (fun ae o=>?_) fun ae o=>?_))
    rotate_left
    ·refine cB ae (cB ae (cB ae (cB ae (gH ae (vb false) (RL.nil ?_)))))
     obtain rfl:=oi o
     exact⟨rfl,j.sp 11 [5,6,7,8,9,10]⟩
    refine RL.bT (hg:=(cg ae)) zr Ec (RL.aS (hg:=(cg ae)) 2 j zr pH Az fun ba j=>(RL.makeFunc (cg ae) zr [(vp ag 0)] zr ?_))
    obtain⟨bb,bf,o⟩:=bd o
    refine RL.call (cg ae) rfl Im [ba,(.func (.func 101) #[] #[(vp ag 0)])] rfl (aF (ll N (i0:=0) j rfl ⟨101,[(vp ag 0)],rfl,Ki,fun w Γl v y0 r i j hi hr=>by exact aF (pY N (i0:=i) (i1:=Γl.length+10) j hi (Ai rfl) hr) fun _ _ h=>h⟩ bf) ?_)
    rintro _ w ⟨rfl,j⟩
    refine gH ae (vb bb) (RL.nil ?_)
    obtain rfl:=oi o
    exact⟨rfl,j.sp 12 [6,7,8,9,10,11]⟩
   rintro _ w ⟨O,rfl,j⟩
   refine aG ?_
   obtain⟨ay,o,hb⟩:=bd hb
   refine RC.jn (fun(ay: (List Int)) U w=>∃au:Value,SH E V [(0,vp b0 0),(3,vp ag 0),(4,au),(11,v0_2),(12,vi p0_2.length),(13,vi ai),(20,v0_5),(21,vi p0_5.length),(22,vi ab)] [bc 108 b0 [v0_0,v0_1,v0_2,v0_3,v0_4,v0_5,ah,v0_7,v0_8,v0_9,v0_10,v0_11],rd v0_2 p0_2,rd v0_5 p0_5,own 91 ah af,pt (vp ag 0) aj,own 3 au ay] U w) ay ?_ ?_
   ·refine fU o (fun hc o=>?_) fun hc o=>?_
    rotate_left
    ·refine RC.skip ?_
     obtain rfl:=oi o
     exact⟨rfl,ar,j.sp 6 [0,1,2,3,4,5]⟩
    refine RC.region (mv ar (mv (vi ab) ?_))
    have j:=j.sc Int (ab:Int)
    refine RL.fD ([(ab:Int)]: (List Int)) j [(vi ab)] fF Hd (fun M hs g=>⟨(g.sat 0 _ zr).1,zt⟩) fun bq w j=>?_
    have j:=j.freeze 0
    obtain⟨br,bh,o⟩:=bd o
    refine RL.app 7 0 j wy bh fun a2 w j=>?_
    refine aR a2 (RL.nil ?_)
    obtain rfl:=oi o
    exact⟨rfl,a2,j.sp 8 [2,3,4,5,6,7]⟩
   rintro _ w ⟨au,O,rfl,j⟩
   refine cG (aG (RC.region (RL.inc hk hm (mv (vi ((ab+1:Nat):Int)) (RL.nil ?_)))))
   obtain rfl:=oi hb
   exact⟨rfl,au,j.sp 6 [0,1,2,3,4,5]⟩
  rintro _ w ⟨ao,O,rfl,j⟩
  refine aG (RC.region (mv (vp b0 0) (mv (vp b0 0) (RL.nilCheck zr (RL.bT zr tr (RL.bP 0 ah j zJ (mv ao ?_)))))))
  have j:=j.freeze 5
  refine RL.fD ([ak]: (List (List Int))) j [ao] vj Kj (fun M hs g=>⟨(g.sat 5 _ zr).1,zt⟩) fun bt w j=>?_
  have j:=j.freeze 0
  obtain⟨bu,bj,hb⟩:=bd hb
  refine RL.app 4 0 j Io bj fun a3 w j=>?_
  refine RL.nilCheck zr (RL.bT zr tr (RL.ka 1 a3 j zr zr (kC 4 j) zJ fun w j=>?_))
  refine RL.nil (cG (aG (RC.region (RL.inc hk hm (mv (vi ((ai+1:Nat):Int)) (RL.nil ?_))))))
  obtain rfl:=oi hb
  exact⟨rfl,a3,j.sp 7 [1,4,2,3]⟩
 rintro _ w ⟨aq,O,rfl,j⟩
 obtain rfl:=oi hb
 refine DN ?_
 exact ID zr ⟨aq,zr,j.pk 4 [0,1]⟩
def uB (E:World) (V:List HP) (res: ((List Int))) (v:Value) (w:World):Prop:=∃(ub0:Nat) (u0_0:Value),v=vp ub0 0/\Holds E w ([bc 195 ub0 [u0_0],own 3 u0_0 res]++V)
theorem tW {res: ((List Int))} (j:Holds E w V) (hb:kg N p0=some res):
    Calls bN 86 [(vi p0)].toArray w (iv (uB E V res)):=by
 unfold kg at hb
 refine enter Tryz.func86 zr zr (RC.sr (aR (.pointer none) (RL.ns (mv (vi p0) ?_))))
 obtain⟨af,aj,hb⟩:=bd hb
 refine RL.mk p0 j wy JH aj fun o w j=>?_
 refine RL.IL [(.slice none 0 0)] [o] zr [(0,o)] zr Kk ⟨(kC 0 j),zt⟩ zr (RL.DY [o] zr j zr (BD.all (⟨(kC 0 j),zt⟩:BD [o])) fun ab w j=>?_)
 refine aR (vp ab 0) (RL.nq (RC.sr (mv (vp ab 0) (RL.nilCheck zr (RL.bT zr oE (RL.bP 0 o j fJ (RL.eH 1 af j m0 (mv (vi 0) ?_))))))))
 refine RL.nt ?_
 obtain⟨ae,hN,hb⟩:=bd hb
 refine RC.fold (fun(ad:Nat) (ae: (List Int))=>SH E V [(3,vp ab 0),(13,vi af.length),(14,vi ad)] [bc 195 ab [o],own 3 o ae]) (fun(ae: (List Int))=>SH E V [(3,vp ab 0)] [bc 195 ab [o],own 3 o ae]) hN ?_ ?_ ?_ ?_
 ·exact j.sp 2 [0,1]
 ·rintro hm ae _ w ⟨O,rfl,j⟩
  refine RC.sr (ic ((af.length:Int)) ((af.length:Int)) (RL.nq (RC.dS pD (RC.ex ?_))))
  exact⟨rfl,j.sp 2 [0,1]⟩
 ·rintro hm ad ae s' _ w hk ⟨O,rfl,j⟩ hb
  refine RC.sr (ic ((ad:Int)) ((af.length:Int)) (RL.nq (RC.dR (pC hk) (RC.ss (RC.bs (mv (vi ad) (aR (vi ad) (RL.nt ?_))))))))
  refine RC.region (mv (vp ab 0) (RL.nilCheck zr (RL.bT zr oE (RL.bP 0 o j fJ (mv (vi ad) (mv (vi ad) ?_))))))
  obtain⟨al,ag,hb⟩:=bd hb
  refine RL.bO 1 j zr zr fF ag ?_
  have j:=j.sc Int (ad:Int)
  refine RL.iJ (f:=(fun _ y=>y)) 2 0 j (ku 2 j ag 0) (bC ag).2.1 zr Fs.self dH fun w j=>?_
  refine RL.nil (cG (aG (RC.region (RL.inc hk hm (mv (vi ((ad+1:Nat):Int)) (RL.nil ?_))))))
  obtain rfl:=oi hb
  exact⟨rfl,j.sp 3 [1,2]⟩
 rintro _ w ⟨O,rfl,j⟩
 refine aG (RC.sr (mv (vp ab 0) (aR (vp ab 0) (RL.nt (RC.ret ?_)))))
 obtain rfl:=oi hb
 exact cS ⟨ab,o,zr,j.pk 2 [0,1]⟩
def tX (E:World) (V:List HP) (b0:Nat) (res:Int×(List Int)) (v:Value) (w:World):Prop:=∃u0_0:Value,v= (vi res.1)/\Holds E w ([bc 195 b0 [u0_0],own 3 u0_0 res.2]++V)
theorem lJ {p0_0: (List Int)} {res:Int×(List Int)} (j:Holds E w (bc 195 b0 [v0_0]::own 3 v0_0 p0_0::V)) (o:fP N p0_0 p1=some res):
    Calls bN 89 [(vp b0 0),(vi p1)].toArray w (iv (tX E V b0 res)):=by
 unfold fP at o
 refine enter Tryz.func89 zr zr (RC.sr (aR (vi 0) (RL.nq ?_)))
 obtain⟨an,hN,o⟩:=bd o
 refine RC.iter (fun(aa: (List Int)×Int)=>SH E V [(0,vp b0 0),(1,vi aa.2)] [bc 195 b0 [v0_0],own 3 v0_0 aa.1]) (fun(aa: (List Int)×Int)=>SH E V [(0,vp b0 0),(1,vi aa.2)] [bc 195 b0 [v0_0],own 3 v0_0 aa.1]) (fun(r:Empty) _ _=>r.elim) hN ?_ ?_ ?_ ?_
 ·exact j.sp 2 [0,1]
 ·rintro aa fl _ w ⟨O,rfl,j⟩ o
  refine RC.seq (RC.sr (mv (vp b0 0) (RL.nilCheck zr (RL.bT zr oE (RL.bP 0 v0_0 j fJ (mv (vi aa.2) ?_))))))
  obtain⟨ai,ab,o⟩:=bd o
  refine RL.bO 1 j zr zr fF ab (RL.eJ (f:=(fun x=>x)) 1 j (ku 1 j ab 0) (bC ab).2.1 Fd.self dH (mv (vi aa.2) (ic ai aa.2 (RL.nt (fU o (fun hc o=>?_) fun hc o=>?_)))))
  rotate_left
  ·refine RC.ex ?_
   obtain rfl:=oi o
   exact⟨rfl,j.sp 2 [0,1]⟩
  refine RC.sn (RC.block (RC.seq (RC.Bj mixed [0,0,0,0,0,0,0,0,0,0,0,0,0,0,0,0,0,0,0,2] [0,1,2,3,4,5,6,7,8,9,10,11,12,13,14,15,16,17,18,19] ?_)))
  have j:=j.drew
  refine DP.e0 zr (mv (vp b0 0) (bR zr (RL.nilCheck zr (bR zr (RL.bT zr oE (bR zr (RL.bP 0 v0_0 j fJ (bR zr ?_))))))))
  refine mv (vi aa.2) (bR zr (mv (vp b0 0) (bR zr (RL.nilCheck zr (bR zr (RL.bT zr oE (bR zr (RL.bP 0 v0_0 j fJ ?_))))))))
  refine bR zr (mv (vp b0 0) (bR zr (RL.nilCheck zr (bR zr (RL.bT zr oE (bR zr (RL.bP 0 v0_0 j fJ (bR zr ?_))))))))
  refine mv (vi aa.2) (bR zr ?_)
  obtain⟨aq,ad,o⟩:=bd o
  refine RL.bO 1 j zr zr fF ad (bR zr (RL.eJ (f:=(fun x=>x)) 1 j (ku 1 j ad 0) (bC ad).2.1 Fd.self dH (bR zr ?_)))
  obtain⟨ak,ae,o⟩:=bd o
  refine RL.bO 1 j zr zr fF ae (bR zr (RL.eJ (f:=(fun x=>x)) 1 j (ku 1 j ae 0) (bC ae).2.1 Fd.self dH (bR zr ?_)))
  obtain⟨ar,af,o⟩:=bd o
  refine RL.bO 1 j zr zr fF af (u6 zr ?_)
  have j:=j.sc Int ak
  refine RL.iJ (f:=(fun _ y=>y)) 2 0 j (ku 2 j af 0) (bC af).2.1 zr Fs.self dH fun w j=>?_
  refine DP.d2 zt (DP.z (aG (RC.region (mv (vp b0 0) (RL.nilCheck zr (RL.bT zr oE (RL.bP 1 v0_0 j fJ (mv (vi aa.2) ?_))))))))
  obtain⟨al,ag,o⟩:=bd o
  refine RL.bO 2 j zr zr fF ag (RL.eJ (f:=(fun x=>x)) 2 j (ku 2 j ag 0) (bC ag).2.1 Fd.self dH (aR (vi al) (RL.nil (cG ?_))))
  obtain rfl:=oi o
  exact⟨rfl,j.sp 3 [1,2]⟩
 ·intro r _ _ _ _
  exact r.elim
 rintro aa _ w rfl ⟨O,rfl,j⟩
 rw [Fo.gw] at o
 refine aG (RC.sr (mv (vi aa.2) (aR (vi aa.2) (RL.nt (RC.ret ?_)))))
 obtain rfl:=oi o
 exact cS ⟨v0_0,zr,j.pk 2 [0,1]⟩
def sP (E:World) (V:List HP) (b0:Nat) (res: (List Int)) (v:Value) (w:World):Prop:=∃u0_0:Value,v = .tuple #[]/\Holds E w ([bc 195 b0 [u0_0],own 3 u0_0 res]++V)
theorem rU {p0_0: (List Int)} {res: (List Int)} (j:Holds E w (bc 195 b0 [v0_0]::own 3 v0_0 p0_0::V)) (o:gk N p0_0 p1 p2=some res):
    Calls bN 88 [(vp b0 0),(vi p1),(vi p2)].toArray w (iv (sP E V b0 res)):=by
 unfold gk at o
 refine enter Tryz.func88 zr zr (RC.sr (mv (vp b0 0) (mv (vi p1) ?_)))
 have j:=(j.pull 1).pull 1
 obtain⟨aa,af,o⟩:=bd o
 refine RL.call zt zr I3 [(vp b0 0),(vi p1)] zr (aF (lJ N (p1:=p1) j af) ?_)
 rintro _ w ⟨ah,rfl,j⟩
 refine mv (vp b0 0) (mv (vi p2) ?_)
 have j:=(j.pull 1).pull 1
 obtain⟨ab,ag,o⟩:=bd o
 refine RL.call zt zr I3 [(vp b0 0),(vi p2)] zr (aF (lJ N (p1:=p2) j ag) ?_)
 rintro _ w ⟨ae,rfl,j⟩
 refine aR (vi aa.1) (aR (vi ab.1) (RL.nt (RC.region (mv (vp b0 0) (RL.nilCheck zr (RL.bT zr oE (RL.bP 0 ae j fJ (mv (vi aa.1) ?_))))))))
 refine mv (vi ab.1) (RL.max aa.1 ab.1 (mv (vi aa.1) (mv (vi ab.1) (RL.min aa.1 ab.1 ?_))))
 obtain⟨ai,ad,o⟩:=bd o
 refine RL.bO 1 j zr zr fF ad ?_
 have j:=j.sc Int (if ab.1<aa.1 then ab.1 else aa.1)
 refine RL.iJ (f:=(fun _ y=>y)) 2 0 j (ku 2 j ad 0) (bC ad).2.1 zr Fs.self dH fun w j=>?_
 refine RL.nil ?_
 obtain rfl:=oi o
 refine DN ?_
 exact ID zr ⟨ae,zr,j.pk 7 [1,2]⟩
def sQ (E:World) (V:List HP) (b0:Nat) (res: (List (List Int))×(List Int)) (v:Value) (w:World):Prop:=∃u0 u0_0:Value,v=u0/\Holds E w ([own 91 u0 res.1,bc 195 b0 [u0_0],own 3 u0_0 res.2]++V)
theorem rV {p0_0: (List Int)} {res: (List (List Int))×(List Int)} (o:Holds E w (bc 195 b0 [v0_0]::own 3 v0_0 p0_0::V)) (hb:i7 N p0_0=some res):
    Calls bN 103 [(vp b0 0)].toArray w (iv (sQ E V b0 res)):=by
 unfold i7 at hb
 refine enter Tryz.func103 zr zr (RC.sr (aR (.slice none 0 0) (RL.ns (aR (.slice none 0 0) (RL.ns (RL.makeMap (κ:=Int) (ν:=Int) zr o fun aq w o=>(aR aq (RL.nq ?_))))))))
 refine RC.sr (mv (vp b0 0) (RL.nilCheck zr (RL.bT zr oE (RL.bP 1 v0_0 o fJ (RL.eH 2 p0_0 o m0 (mv (vi 0) (RL.nt ?_)))))))
 obtain⟨ao,hN,hb⟩:=bd hb
 refine RC.fold (fun(ai:Nat) (ao: (List Int)×(List (List Int))×(List (Int×Int))) U w=>∃(a4 a5:Value) (us110:List RV),SH E V [(0,vp b0 0),(3,a5),(4,aq),(12,vi p0_0.length),(13,vi ai)] [bc 195 b0 [a4],own 3 a4 ao.1,mp aq ao.2.2,own 91 a5 us110,jm (XS 3 Int) us110 ao.2.1 none] U w) (fun(ao: (List Int)×(List (List Int))×(List (Int×Int))) U w=>∃(ax av:Value) (us113:List RV),SH E V [(0,vp b0 0),(3,av)] [bc 195 b0 [ax],own 3 ax ao.1,mp aq ao.2.2,own 91 av us113,jm (XS 3 Int) us113 ao.2.1 none] U w) hN ?_ ?_ ?_ ?_
 ·have o:=(o.Al (XS 3 Int)).dC RV 91
  exact⟨v0_0,(.slice none 0 0),([]:List RV),o.sp 5 [3,4,2,0,1]⟩
 ·rintro hm ao _ w ⟨bb,bf,us153,O,rfl,o⟩
  refine RC.sr (ic ((p0_0.length:Int)) ((p0_0.length:Int)) (RL.nq (RC.dS pD (RC.ex ?_))))
  exact⟨rfl,bb,bf,us153,o.sp 5 [0,1,2,3,4]⟩
 ·rintro hm ai ao s' _ w hk ⟨bl,a1,us116,O,rfl,o⟩ hb
  refine RC.sr (ic ((ai:Int)) ((p0_0.length:Int)) (RL.nq (RC.dR (pC hk) (RC.ss (RC.bs (mv (vi ai) (aR (vi ai) (RL.ns ?_))))))))
  refine mv (vp b0 0) (mv (vi ai) ?_)
  have o:=(o.pull 1).pull 1
  obtain⟨ab,bg,hb⟩:=bd hb
  refine RL.call zt zr I3 [(vp b0 0),(vi ai)] zr (aF (lJ N (p1:=(ai:Int)) o bg) ?_)
  rintro _ w ⟨aw,rfl,o⟩
  refine aR (vi ab.1) (RL.nq (RC.sr (mv (vi ab.1) (mv (vi ai) (ic ab.1 ((ai:Int)) (RL.nt ?_))))))
  obtain⟨aa,hj,hb⟩:=bd hb
  refine RC.jn (fun(aa: (List (List Int))×(List (Int×Int))) U w=>∃(an:Value) (us124:List RV),SH E V [(0,vp b0 0),(3,an),(4,aq),(5,vi ai),(6,vi ab.1),(12,vi p0_0.length),(13,vi ai)] [bc 195 b0 [aw],own 3 aw ab.2,mp aq aa.2,own 91 an us124,jm (XS 3 Int) us124 aa.1 none] U w) aa ?_ ?_
  ·refine fU hj (fun hc hj=>?_) fun hc hj=>?_
   rotate_left
   ·refine RC.skip ?_
    obtain rfl:=oi hj
    exact⟨rfl,a1,us116,o.sp 7 [0,1,4,5,6]⟩
   refine RC.sr (mv aq (mv (vi ai) (mv a1 (RL.r9 5 6 ao.2.1 o Ed ?_))))
   have o:=o.sc Int (ao.2.1.length:Int)
   refine RL.mapUpdate 5 0 (ai:Int) o zr zr zr zr zr B9 fun w o=>(RL.nt (RC.region (mv a1 ?_)))
   have o:=(o.dC Int 3).DW (i:=0) rfl
   refine RL.fD ([rv (.slice none 0 0)]:List RV) o [(.slice none 0 0)] vj Kj (fun M hs g=>⟨(g.sat 0 _ zr).1,zt⟩) fun bm w o=>?_
   obtain⟨bn,bj,hj⟩:=bd hj
   have o:=o.freeze 0
   refine RL.BJ 9 0 10 2 zt zr o zr zr zr zr zr zr Io bj fun a8 w o=>?_
   refine aR a8 (RL.nil ?_)
   obtain rfl:=oi hj
   exact⟨rfl,a8,(us116++[rv (.slice none 0 0)]),o.sp 11 [4,5,8,9,10]⟩
  rintro _ w ⟨an,us124,O,rfl,o⟩
  refine aG ?_
  obtain⟨bo,ay,hb⟩:=bd hb
  obtain⟨au,bk,hb⟩:=bd hb
  obtain⟨bp,a2,hb⟩:=bd hb
  refine RC.D3 E V mixed [1,1,1,0,1,1,1,0,0,0,1,0,0,0,0] [11,12,14] (fun(x:Value×Value)=>(fun ak ag=>[(0,29,an),(1,30,aq),(2,31,(vi ab.1)),(3,32,(vi (dL aa.2 ab.1 (0:Int)))),(4,33,an),(5,34,aq),(6,35,(vi ab.1)),(7,36,(vi (dL aa.2 ab.1 (0:Int)))),(8,37,(Bf an (Int.toNat (dL aa.2 ab.1 (0:Int))) 1 0)),(9,38,(us124.getD (Int.toNat (dL aa.2 ab.1 (0:Int))) Bg).v),(10,39,(vi ai)),(11,40,ak),(12,41,ag),(13,42,(Bf an (Int.toNat (dL aa.2 ab.1 (0:Int))) 1 0))]) x.1 x.2) [(0,vp b0 0),(3,an),(4,aq),(5,vi ai),(6,vi ab.1),(12,vi p0_0.length),(13,vi ai)] [] (fun(D:Nat->Bool) (x:Value×Value)=>(fun ak ag=>[bif D 1 then (rd ak ([(ai:Int)]: (List Int))) else (bif D 0 then (own 3 ak ([(ai:Int)]: (List Int))) else aW),bif D 2 then aW else (bif D 1 then (own 3 ag au) else aW),bc 195 b0 [aw],own 3 aw ab.2,mp aq aa.2,bif D 2 then (own 91 an (us124.set (Int.toNat (dL aa.2 ab.1 (0:Int))) (rv ag))) else (own 91 an us124),bif D 2 then (jm (XS 3 Int) (us124.set (Int.toNat (dL aa.2 ab.1 (0:Int))) (rv ag)) (aa.1.set (Int.toNat (dL aa.2 ab.1 (0:Int))) au) none) else (bif D 1 then (jm (XS 3 Int) us124 aa.1 (some (Int.toNat (dL aa.2 ab.1 (0:Int))))) else (jm (XS 3 Int) us124 aa.1 none))]) x.1 x.2) (fun x=>by kernel_rfl) ?_ ⟨fun _=>g8 gn,fun _=>g8 gn,fun _=>g8 gn,?_,fun _=>g8 gn,fun _=>g8 gn,fun _=>g8 gn,?_,?_,?_,fun _=>g8 gn,?_,?_,?_,?_,trivial⟩ ?_
  ·have o:=((o.drew).aW).aW
   exact⟨(undef,undef),eR.none,(CV zr),zt,o⟩
  ·rintro D U w hD ah ae ⟨⟨ak,ag⟩,hv,ha,_,o⟩
   obtain⟨O,rfl⟩:=(ac (hv.at 1 rfl (ah.1 rfl)) (ac (hv.at 2 rfl (ah.2.1 rfl)) az)).eQ
   refine RL.r7 4 ab.1 zr o zr zr zr B9 ?_
   exact RL.nil ⟨rfl,(ak,ag),hv.pu 3,ha.u,zt,o⟩
  ·rintro D U w hD ah ae ⟨⟨ak,ag⟩,hv,ha,_,o⟩
   obtain⟨O,rfl⟩:=(ac (hv.at 5 rfl (ah.1 rfl)) (ac (hv.at 6 rfl (ah.2.1 rfl)) az)).eQ
   refine RL.r7 4 ab.1 zr o zr zr zr B9 ?_
   exact RL.nil ⟨rfl,(ak,ag),hv.pu 7,ha.u,zt,o⟩
  ·rintro D U w hD ah ae ⟨⟨ak,ag⟩,hv,ha,_,o⟩
   obtain⟨O,rfl⟩:=(ac (hv.at 4 rfl (ah.1 rfl)) (ac (hv.at 7 rfl (ah.2.1 rfl)) az)).eQ
   have o:=((o.bS 5 (nh ae hD 14)).bS 6 (nh ae hD 14)).bS 6 (nf (fun h=>ft hD ((ae 9 _ rfl ((ae 12 _ rfl h).1 rfl)).1 rfl)))
   have hl141:=o.hZ 6
   have hr142:=kD Bg hl141 ay
   refine RL.bO 5 o zr zr vj hr142 ?_
   have o:=(o.fT 5 (D 14) (nh ae hD 14) (own 91 an (us124.set (Int.toNat (dL aa.2 ab.1 (0:Int))) (rv ag)))).fT 6 (D 12) (nf (fun h=>ft hD ((ae 9 _ rfl ((ae 12 _ rfl h).1 rfl)).1 rfl))) (jm (XS 3 Int) us124 aa.1 (some (Int.toNat (dL aa.2 ab.1 (0:Int)))))
   have o:=o.fT 6 (D 14) (nh ae hD 14) (jm (XS 3 Int) (us124.set (Int.toNat (dL aa.2 ab.1 (0:Int))) (rv ag)) (aa.1.set (Int.toNat (dL aa.2 ab.1 (0:Int))) au) none)
   exact RL.nil ⟨rfl,(ak,ag),hv.pu 8,ha.u,zt,o⟩
  ·rintro D U w hD ah ae ⟨⟨ak,ag⟩,hv,ha,_,o⟩
   obtain⟨O,rfl⟩:=(ac (hv.at 8 rfl (ah.1 rfl)) az).eQ
   have o:=((o.bS 5 (nh ae hD 14)).bS 6 (nh ae hD 14)).bS 6 (nh ae hD 12)
   have hl143:=o.hZ 6
   have hr144:=kD Bg hl143 ay
   refine RL.wk 5 6 (dL aa.2 ab.1 (0:Int)) (zx 3 Int) Bg zr o zr (ku 5 o hr144 0) zr zr ay fJ ?_
   have o:=(o.fT 5 (D 14) (nh ae hD 14) (own 91 an (us124.set (Int.toNat (dL aa.2 ab.1 (0:Int))) (rv ag)))).fT 6 (D 12) (nh ae hD 12) (jm (XS 3 Int) us124 aa.1 (some (Int.toNat (dL aa.2 ab.1 (0:Int)))))
   have o:=o.fT 6 (D 14) (nh ae hD 14) (jm (XS 3 Int) (us124.set (Int.toNat (dL aa.2 ab.1 (0:Int))) (rv ag)) (aa.1.set (Int.toNat (dL aa.2 ab.1 (0:Int))) au) none)
   exact RL.nil ⟨rfl,(ak,ag),hv.pu 9,ha.u,zt,o⟩
  ·rintro D U w hD ah ae ⟨⟨ak,ag⟩,hv,ha,_,o⟩
   obtain⟨O,rfl⟩:=(ac (hv.at 10 rfl (ah.1 rfl)) az).eQ
   have o:=((o.bS 0 (nh ae hD 12)).bS 0 hD).sc Int (ai:Int)
   refine RL.fD ([(ai:Int)]: (List Int)) o [(vi ai)] fF Hd (fun M hs g=>⟨(g.sat 0 _ zr).1,zt⟩) fun a9 w o=>?_
   have o:=((o.pl 9 [0,3,4,5,6,7,8]).bZ 0 true rfl aW).fT 0 (D 12) (nh ae hD 12) (rd a9 ([(ai:Int)]: (List Int)))
   exact RL.nil ⟨rfl,(a9,ag),hv.pu 11,ha.u,zt,o⟩
  ·rintro D U w hD ah ae ⟨⟨ak,ag⟩,hv,ha,_,o⟩
   obtain⟨O,rfl⟩:=(ac (hv.at 9 rfl (ah.1 rfl)) (ac (hv.at 11 rfl (ah.2.1 rfl)) az)).eQ
   have o:=(((((((o.bS 0 hD).bY 0 (ah.2.1 rfl)).bS 1 (nh ae hD 14)).bS 1 hD).bS 5 (nh ae hD 14)).bS 6 (nh ae hD 14)).bS 6 hD).Am (j:=6) (jj:=(dL aa.2 ab.1 (0:Int))) (zx 3 Int) Bg rfl ay
   have o:=o.freeze 1
   refine RL.app 0 1 o wy bk fun a3 w o=>?_
   have o:=((((o.pl 8 [1,0,3,4,5,6,7]).bZ 0 true rfl (bif D 11 then (own 3 ak ([(ai:Int)]: (List Int))) else aW)).bZ 1 true rfl aW).fT 1 (D 14) (nh ae hD 14) aW).fT 5 (D 14) (nh ae hD 14) (own 91 an (us124.set (Int.toNat (dL aa.2 ab.1 (0:Int))) (rv a3)))
   have o:=(o.bZ 6 true rfl (jm (XS 3 Int) us124 aa.1 none)).fT 6 (D 14) (nh ae hD 14) (jm (XS 3 Int) (us124.set (Int.toNat (dL aa.2 ab.1 (0:Int))) (rv a3)) (aa.1.set (Int.toNat (dL aa.2 ab.1 (0:Int))) au) none)
   exact RL.nil ⟨rfl,(ak,a3),hv.pu 12,ha.u,zt,o⟩
  ·rintro D U w hD ah ae ⟨⟨ak,ag⟩,hv,ha,_,o⟩
   obtain⟨O,rfl⟩:=(ac (hv.at 0 rfl (ah.1 rfl)) (ac (hv.at 3 rfl (ah.2.1 rfl)) az)).eQ
   have o:=((o.bS 5 (nh ae hD 14)).bS 6 (nh ae hD 14)).bY 6 (ah.2.2.2.2.2.2.2.2.2.2.2.2.2.2.1 rfl)
   have hl147:=o.hZ 6
   have hr148:=kD Bg hl147 a2
   refine RL.bO 5 o zr zr vj hr148 ?_
   have o:=(o.fT 5 (D 14) (nh ae hD 14) (own 91 an (us124.set (Int.toNat (dL aa.2 ab.1 (0:Int))) (rv ag)))).bZ 6 (D 12) (ah.2.2.2.2.2.2.2.2.2.2.2.2.2.2.1 rfl) (jm (XS 3 Int) us124 aa.1 none)
   have o:=o.fT 6 (D 14) (nh ae hD 14) (jm (XS 3 Int) (us124.set (Int.toNat (dL aa.2 ab.1 (0:Int))) (rv ag)) (aa.1.set (Int.toNat (dL aa.2 ab.1 (0:Int))) au) none)
   exact RL.nil ⟨rfl,(ak,ag),hv.pu 13,ha.u,zt,o⟩
  ·rintro D U w hD ah ae ⟨⟨ak,ag⟩,hv,ha,_,o⟩
   obtain⟨O,rfl⟩:=(ac (hv.at 12 rfl (ah.2.1 rfl)) (ac (hv.at 13 rfl (ah.1 rfl)) az)).eQ
   have o:=((((o.bS 1 hD).bY 1 (ah.2.1 rfl)).bS 5 hD).bS 6 hD).bY 6 (ah.2.1 rfl)
   have hl149:=o.hZ 6
   have hr150:=kD Bg hl149 a2
   refine RL.uo 5 6 1 (dL aa.2 ab.1 (0:Int)) (zx 3 Int) Bg o zr zr (ku 5 o hr150 0) zr zr zr a2 fJ fun w o=>?_
   have o:=((o.bZ 1 true rfl (bif D 12 then (own 3 ag au) else aW)).bZ 5 true rfl (own 91 an us124)).bZ 6 true rfl (bif D 12 then (jm (XS 3 Int) us124 aa.1 (some (Int.toNat (dL aa.2 ab.1 (0:Int))))) else (jm (XS 3 Int) us124 aa.1 none))
   exact RL.nil ⟨rfl,(ak,ag),hv.n1,ha,zt,o⟩
  rintro D U w a0 ⟨⟨ak,ag⟩,hv,ha,_,o⟩
  have o:=(((o.bY 0 (iT a0 12)).bY 1 (iT a0 14)).bY 5 (iT a0 14)).bY 6 (iT a0 14)
  obtain⟨O,rfl⟩:=(ac (ha.at 0 rfl) (ac (ha.at 1 rfl) (ac (ha.at 2 rfl) (ac (ha.at 3 rfl) (ac (ha.at 4 rfl) (ac (ha.at 5 rfl) (ac (ha.at 6 rfl) az))))))).eQ
  refine cG (aG (RC.region (RL.inc hk hm (mv (vi ((ai+1:Nat):Int)) (RL.nil ?_)))))
  obtain rfl:=oi hb
  exact⟨rfl,aw,an,(us124.set (Int.toNat (dL aa.2 ab.1 (0:Int))) (rv ag)),o.sp 7 [2,3,4,5,6]⟩
 rintro _ w ⟨ax,av,us113,O,rfl,o⟩
 refine aG (RC.sr (mv av (aR av (RL.nt (RC.ret ?_)))))
 obtain rfl:=oi hb
 have o:=o.An (X:=(XS 3 Int)) (b:=4) (j:=3) rfl (fun M h u x cs=>(H3 3) M h u x cs) rfl rfl (by decide)
 exact cS ⟨av,ax,zr,o.pk 5 [3,0,1]⟩
theorem rW {p0:aH} {p1:jE} {res:Bool} (j:Holds E w V) (h0:V[i0]? =some (rd v0 p0)) (h1:V[i1]? =some (pt v1 p1)) (hb:kG N p0 p1=some res):
    Calls bN 170 [v0,v1].toArray w (iv (bH E V res)):=by
 unfold kG at hb
 refine enter Tryz.func170 zr zr ?_
 have j:=(j.dup (i0+0) h0).xO (i:=i1+1) h1
 refine RC.sr (RL.cX 1 v0 j zr fun ag w j=>?_)
 refine aR (vb false) (RL.nq ?_)
 obtain⟨af,o,hb⟩:=bd hb
 refine RC.jn (fun(af:Bool)=>SH E V [(3,vb af)] []) af ?_ ?_
 ·refine RC.region (RL.j9 1 j zr AB q8 fun ah j=>(RL.bU p1.X 0 j dH (RL.bT zr kJ (RL.aX 1 j zr fV dH (ic p1.X p0.X0 (mv (vb (decide (p1.X>=p0.X0))) (gG o (fun aa o=>?_) fun aa o=>?_)))))))
  rotate_left
  ·refine cB aa (cB aa (cB aa (cB aa (cB aa (gH aa (vb false) (mv (vb false) (jA (jA ?_))))))))
   refine jA (jA (jA (RL.pick false (vb false) zr (mv (vb false) (jA (jA (jA (jA ?_))))))))
   refine jA (RL.pick false (vb false) zr (aR (vb false) (RL.nil ?_)))
   obtain rfl:=oi o
   exact⟨rfl,j.sp 4 []⟩
  refine RL.j9 (hg:=(cg aa)) 2 j zr AB q8 fun ai j=>(RL.bU (hg:=(cg aa)) p1.X 0 j dH (RL.bT (hg:=(cg aa)) zr lF (RL.aX (hg:=(cg aa)) 2 j zr gL dH (RL.lr p1.X p0.X1 (cg aa) (gH aa (vb (decide (p1.X<p0.X1))) (mv (vb (decide (p1.X<p0.X1))) (gG o (fun ab o=>?_) fun ab o=>?_)))))))
  rotate_left
  ·refine cB ab (cB ab (cB ab (cB ab (cB ab (gH ab (vb false) (mv (vb false) (jA (jA ?_))))))))
   refine jA (jA (jA (RL.pick false (vb false) zr (aR (vb false) (RL.nil ?_)))))
   obtain rfl:=oi o
   exact⟨rfl,j.sp 5 []⟩
  refine RL.j9 (hg:=(cg ab)) 3 j zr AD q9 fun aj j=>(RL.bU (hg:=(cg ab)) p1.Y 0 j dH (RL.bT (hg:=(cg ab)) zr lE (RL.aX (hg:=(cg ab)) 3 j zr gv dH (RL.lr p1.Y p0.Y0 (cg ab) (gH ab (vb (decide (p1.Y>=p0.Y0))) (mv (vb (decide (p1.Y>=p0.Y0))) (gG o (fun ad o=>?_) fun ad o=>?_)))))))
  ·refine RL.j9 (hg:=(cg ad)) 4 j zr AD q9 fun ak j=>(RL.bU (hg:=(cg ad)) p1.Y 0 j dH (RL.bT (hg:=(cg ad)) zr oT (RL.aX (hg:=(cg ad)) 4 j zr km dH (RL.lr p1.Y p0.Y1 (cg ad) (gH ad (vb (decide (p1.Y<p0.Y1))) (aR (vb (decide (p1.Y<p0.Y1))) (RL.nil ?_)))))))
   obtain rfl:=oi o
   exact⟨rfl,j.sp 7 []⟩
  refine cB ad (cB ad (cB ad (cB ad (cB ad (gH ad (vb false) (aR (vb false) (RL.nil ?_)))))))
  obtain rfl:=oi o
  exact⟨rfl,j.sp 6 []⟩
 rintro _ w ⟨O,rfl,j⟩
 refine aG (RC.ret ?_)
 obtain rfl:=oi hb
 exact cS ⟨rfl,j.drop 0⟩
theorem o0 {p0: (List aH)} {p1:jE} {res:Bool} (j:Holds E w V) (h0:V[i0]? =some (rd v0 p0)) (h1:V[i1]? =some (rd v1 p1)) (o:jz N p0 p1=some res):
    Calls bN 141 [v0,v1].toArray w (iv (bH E V res)):=by
 unfold jz at o
 refine enter Tryz.func141 zr zr ?_
 have j:=(j.dup (i0+0) h0).dup (i1+1) h1
 refine RC.sr (RL.cX 0 v1 j zr fun aa w j=>?_)
 have j:=j.jw (i:=0) rfl
 refine aR (vb false) (RL.ns (mv v0 (RL.makeFunc zt zr [(vp aa 0)] zr ?_)))
 obtain⟨ab,ad,o⟩:=bd o
 refine RL.call trivial rfl Im [v0,(.func (.func 170) #[] #[(vp aa 0)])] rfl (aF (ll N (i0:=2) j rfl ⟨170,[(vp aa 0)],rfl,Kq,fun w Γl v y0 r i j hi hr=>by exact aF (rW N (i0:=i) (i1:=Γl.length+0) j hi (Ai rfl) hr) fun _ _ h=>h⟩ ad) ?_)
 rintro _ w ⟨rfl,j⟩
 refine aR (vb ab) (RL.nt (RC.ret ?_))
 obtain rfl:=oi o
 exact cS ⟨rfl,j.drop 3⟩
def nU (E:World) (V:List HP) (b0:Nat) (v0_0 v0_1:Value) (v0_2 v0_3:Value) (v0_4 v0_5:Value) (v0_6 v0_7:Value) (v0_8 v0_9:Value) (v0_10 v0_11:Value) (res:bX×Bool) (v:Value) (w:World):Prop:=∃u0:Value,v = .tuple #[u0,(vb res.2)]/\Holds E w ([rd u0 res.1,bc 108 b0 [v0_0,v0_1,v0_2,v0_3,v0_4,v0_5,v0_6,v0_7,v0_8,v0_9,v0_10,v0_11]]++V)
def nV (E:World) (V:List HP) (b0:Nat) (v0_0 v0_1:Value) (v0_2 v0_3:Value) (v0_4 v0_5:Value) (v0_6 v0_7:Value) (v0_8 v0_9:Value) (v0_10 v0_11:Value) (r:bX×Bool) (U:Nat->Value) (w:World):Prop:=nB bN 66 Tryz.f104 (nU E V b0 v0_0 v0_1 v0_2 v0_3 v0_4 v0_5 v0_6 v0_7 v0_8 v0_9 v0_10 v0_11 r) .ret U w
theorem rX {p0_2: (List cH)} {p0_5: (List aN)} {p1:eW} {res:bX×Bool} (j:Holds E w (bc 108 b0 [v0_0,v0_1,v0_2,v0_3,v0_4,v0_5,v0_6,v0_7,v0_8,v0_9,v0_10,v0_11]::rd v0_2 p0_2::rd v0_5 p0_5::V)) (h1:V[i1]? =some (rd v1 p1)) (o:i9 N p0_2 p0_5 p1=some res):
    Calls bN 104 [(vp b0 0),v1].toArray w (iv (nU E V b0 v0_0 v0_1 v0_2 v0_3 v0_4 v0_5 v0_6 v0_7 v0_8 v0_9 v0_10 v0_11 res)):=by
 unfold i9 at o
 refine enter Tryz.func104 zr zr ?_
 have j:=j.dup (i1+3) h1
 refine RC.sr (RL.cX 0 v1 j zr fun ah w j=>?_)
 have j:=j.jw (i:=0) rfl
 refine RL.alloc j pr.z fun ae w j=>?_
 refine aR (vb false) (RL.nq (RC.sr (mv (vp b0 0) (RL.nilCheck zr (RL.bT zr m6 (RL.bT zr oU (RL.bP 3 v0_2 j x5 (RL.cC 4 p0_2 j ze ?_))))))))
 refine mv (vi 0) (RL.nt ?_)
 obtain⟨bn,hN,o⟩:=bd o
 refine RC.range (fun(af:Nat) (al:Unit)=>SH E V [(0,vp b0 0),(3,vp ah 0),(4,vp ae 0),(14,v0_2),(15,vi p0_2.length),(16,vi af)] [bc 108 b0 [v0_0,v0_1,v0_2,v0_3,v0_4,v0_5,v0_6,v0_7,v0_8,v0_9,v0_10,v0_11],rd v0_2 p0_2,rd v0_5 p0_5,pt (vp ah 0) p1,raw 47 ae 2]) (fun(al:Unit)=>SH E V [(0,vp b0 0),(3,vp ah 0),(4,vp ae 0)] [bc 108 b0 [v0_0,v0_1,v0_2,v0_3,v0_4,v0_5,v0_6,v0_7,v0_8,v0_9,v0_10,v0_11],rd v0_2 p0_2,rd v0_5 p0_5,pt (vp ah 0) p1,raw 47 ae 2]) (nV E V b0 v0_0 v0_1 v0_2 v0_3 v0_4 v0_5 v0_6 v0_7 v0_8 v0_9 v0_10 v0_11) hN ?_ ?_ ?_ ?_ ?_
 ·exact j.sp 6 [3,4,5,1,0]
 ·rintro hm al _ w ⟨O,rfl,j⟩
  refine RC.sr (ic ((p0_2.length:Int)) ((p0_2.length:Int)) (RL.nq (RC.dS pD (RC.ex ?_))))
  exact⟨rfl,j.sp 5 [0,1,2,3,4]⟩
 ·rintro hm af al fl _ w hk ⟨O,rfl,j⟩ o
  refine RC.sr (ic ((af:Int)) ((p0_2.length:Int)) (RL.nq (RC.dR (pC hk) (RC.ss (RC.bs (mv (vi af) ?_))))))
  obtain⟨ax,a0,o⟩:=bd o
  refine RL.cM 1 j B6 a0 fun bo j=>(RL.cD 0 ax j mf fun bp j=>(RL.alloc j zH.z fun bq w j=>?_))
  refine aR (vi af) (RL.bM 0 j 1 zr mf fun w j=>?_)
  refine RL.nq ?_
  obtain⟨aq,hj,o⟩:=bd o
  refine RC.jn (fun(aq:Bool)=>SH E V [(0,vp b0 0),(3,vp ah 0),(4,vp ae 0),(6,vi af),(14,v0_2),(15,vi p0_2.length),(16,vi af),(36,vb aq)] [bc 108 b0 [v0_0,v0_1,v0_2,v0_3,v0_4,v0_5,v0_6,v0_7,v0_8,v0_9,v0_10,v0_11],rd v0_2 p0_2,rd v0_5 p0_5,pt (vp ah 0) p1,raw 47 ae 2]) aq ?_ ?_
  ·refine RC.Bj mixed [0,0,0,0,0,0,2,0,0,0,2,2,1,1,2,0] [0,1,2,3,4,5,6,7,8,9,12,13,10,11,14,15] ?_
   have j:=j.drew
   refine DP.e0 zr (RL.bT zr AE (bR zr (RL.aX 0 j zr wt Gh (bR zr (mv (vb ax.jV) (DP.d0 (gG hj (fun ai hj=>?_) fun ai hj=>?_)))))))
   rotate_left
   ·refine DP.e0 zr (cB ai (bR zr (cB ai (bR zr (cB ai (u6 zr (cB ai (zb zr ?_))))))))
    refine gH ai (vb false) (bR zr (mv (vb false) (bR zr (jA (DP.d0 (DP.e1 undef zr (fun w=>jA DP.d1) (DP.e1 undef zr (fun w=>jA DP.d1) (DP.e2 zr ?_))))))))
    refine jA (IX zr (jA (IX zr (jA (zb zr (RL.pick false (vb false) zr (DP.d0 (DP.z ?_))))))))
    obtain rfl:=oi hj
    exact⟨rfl,j.sp 8 [3,4,5,6,7]⟩
   refine DP.e0 zr (RL.aS (hg:=(cg ai)) (f:=(fun x=>x)) 0 j zr Fd.self mf fun a1 j=>(bR zr (RL.j9 (hg:=(cg ai)) 7 j zr Db wu fun br j=>(bR zr (RL.bU (hg:=(cg ai)) p1.eT 0 j dH (u6 zr ?_))))))
   obtain⟨ay,a2,hj⟩:=bd hj
   refine RL.call (cg ai) zr I2 [a1,(vi p1.eT)] zr (aF (m9 N (p1:=p1.eT) (i0:=1) j zr a2) ?_)
   rintro _ w ⟨rfl,j⟩
   refine zb zr (gH ai (vb ay) (bR zr (mv (vb ay) (DP.d0 (gG hj (fun ab hj=>?_) fun ab hj=>?_)))))
   rotate_left
   ·refine DP.e0 zr (cB ab (DP.d0 (DP.e1 undef zr (fun w=>cB ab DP.d1) (DP.e1 undef zr (fun w=>cB ab DP.d1) (DP.e2 zr (cB ab (IX zr (cB ab ?_))))))))
    refine IX zr (cB ab (zb zr (gH ab (vb false) (DP.d0 (DP.z ?_)))))
    obtain rfl:=oi hj
    exact⟨rfl,j.sp 10 [5,6,7,8,9]⟩
   refine DP.e0 zr (RL.aS (hg:=(cg ab)) (f:=(fun x=>x)) 2 j zr Fd.self mf fun a3 j=>(DP.d0 (DP.JA 9 zr (cg ab) j zr Dc wv fun bt j=>(DP.Ax (hg:=(cg ab)) p1.At 0 zr j Hy fun a4 a105 bu j=>(DP.e2 zr ?_)))))
   obtain⟨a5,a6,hj⟩:=bd hj
   refine RL.call (cg ab) zr EZ [a3] zr (aF (g9 N (i0:=3) j zr a6) ?_)
   rintro a7 w j
   refine DP.d2 (⟨zt,j.np 1⟩) (DP.e2 zr (RL.fD (hg:=(cg ab)) ([a5]: (List aH)) j [a7] mZ pT (fun M hs g=>⟨(g.sat 0 _ zr).1,zt⟩) fun a8 w j=>(DP.d2 (⟨zt,j.np 2⟩) (DP.e2 zr ?_))))
   have j:=j.freeze 0
   obtain⟨a9,ba,hj⟩:=bd hj
   refine RL.call (cg ab) zr Iq [a8,a4] zr (aF (o0 N (i0:=0) (i1:=3) j zr zr ba) ?_)
   rintro _ w ⟨rfl,j⟩
   refine DP.d2 (⟨zt,j.np 2⟩) (DP.e0 zr (gH ab (vb a9) (DP.d0 ?_)))
   have j:=j.pl 16 [0,1,3,4,5,6,7,8,9,10,11,12,13,14,15]
   refine DP.z ?_
   obtain rfl:=oi hj
   exact⟨rfl,j.sp 15 [10,11,12,13,14]⟩
  rintro _ w ⟨O,rfl,j⟩
  refine aG (fU o (fun hc o=>?_) fun hc o=>?_)
  rotate_left
  ·refine RC.skip (cG (aG (RC.region (RL.inc hk hm (mv (vi ((af+1:Nat):Int)) (RL.nil ?_))))))
   obtain rfl:=oi o
   exact⟨rfl,j.sp 5 [0,1,2,3,4]⟩
  refine RC.sr (mv (vi af) ?_)
  have j:=(j.sc Bool true).sc Int (af:Int)
  refine RL.build (⟨true,(af:Int)⟩:bX) trivial rfl j [(0,vb true),(1,vi af)] rfl Gj rfl (fun M hs g=>by have h:=B3 M;exact dY.cons (f:=fun(x:bX) y=>{x with cH:=y}) h B2 (g.sat 1 _ rfl).1 fun _ h=>dY.cons (f:=fun(x:bX) y=>{x with Number:=y}) h ve (g.sat 0 _ rfl).1 fun _ h=>dY.nil h) fun bw j=>?_
  refine RL.bM 7 j 0 zr dM fun w j=>?_
  refine aR (vb true) (RL.nt (RC.rb (cO ?_)))
  obtain rfl:=oi o
  exact⟨rfl,zu 7 j dM fun bb j=>⟨bb,zr,j.pk 9 [0,4]⟩⟩
 ·intro r U w e hK
  subst e
  refine cO ?_
  obtain rfl:=oi o
  exact hK
 rintro al _ w rfl ⟨O,rfl,j⟩
 rw [Fo.gw] at o
 refine aG (RC.seq (RC.sr (mv (vp b0 0) (RL.nilCheck zr (RL.bT zr tq (RL.bP 0 v0_5 j zI (RL.cC 2 p0_5 j D9 (mv (vi 0) ?_))))))))
 refine RL.nt ?_
 obtain⟨bx,hN,o⟩:=bd o
 refine RC.range (fun(ag:Nat) (an:Unit)=>SH E V [(0,vp b0 0),(3,vp ah 0),(4,vp ae 0),(43,v0_5),(44,vi p0_5.length),(45,vi ag)] [bc 108 b0 [v0_0,v0_1,v0_2,v0_3,v0_4,v0_5,v0_6,v0_7,v0_8,v0_9,v0_10,v0_11],rd v0_2 p0_2,rd v0_5 p0_5,pt (vp ah 0) p1,raw 47 ae 2]) (fun(an:Unit)=>SH E V [(0,vp b0 0),(4,vp ae 0)] [bc 108 b0 [v0_0,v0_1,v0_2,v0_3,v0_4,v0_5,v0_6,v0_7,v0_8,v0_9,v0_10,v0_11],rd v0_2 p0_2,rd v0_5 p0_5,pt (vp ah 0) p1,raw 47 ae 2]) (nV E V b0 v0_0 v0_1 v0_2 v0_3 v0_4 v0_5 v0_6 v0_7 v0_8 v0_9 v0_10 v0_11) hN ?_ ?_ ?_ ?_ ?_
 ·exact j.sp 5 [0,1,2,3,4]
 ·rintro hm an _ w ⟨O,rfl,j⟩
  refine RC.sr (ic ((p0_5.length:Int)) ((p0_5.length:Int)) (RL.nq (RC.dS pD (RC.ex ?_))))
  exact⟨rfl,j.sp 5 [0,1,2,3,4]⟩
 ·rintro hm ag an fl _ w hk ⟨O,rfl,j⟩ o
  refine RC.sr (ic ((ag:Int)) ((p0_5.length:Int)) (RL.nq (RC.dR (pC hk) (RC.ss (RC.bs (mv (vi ag) ?_))))))
  obtain⟨av,bf,o⟩:=bd o
  refine RL.cM 2 j Gf bf fun bz j=>(RL.cD 0 av j Ea fun b1 j=>(RL.alloc j Gg.z fun b2 w j=>?_))
  refine aR (vi ag) (RL.bM 0 j 1 zr Ea fun w j=>?_)
  refine RL.nq ?_
  obtain⟨aw,hj,o⟩:=bd o
  refine RC.jn (fun(aw:Bool)=>SH E V [(0,vp b0 0),(3,vp ah 0),(4,vp ae 0),(8,vi ag),(43,v0_5),(44,vi p0_5.length),(45,vi ag),(61,vb aw)] [bc 108 b0 [v0_0,v0_1,v0_2,v0_3,v0_4,v0_5,v0_6,v0_7,v0_8,v0_9,v0_10,v0_11],rd v0_2 p0_2,rd v0_5 p0_5,pt (vp ah 0) p1,raw 47 ae 2]) aw ?_ ?_
  ·refine RC.region (RL.bT zr Eb (RL.aX 0 j zr pG dH (RL.j9 6 j zr Db wu fun b3 j=>(RL.bU p1.eT 0 j dH (ic av.eT p1.eT (mv (vb (av.eT==p1.eT)) (gG hj (fun ad hj=>?_) fun ad hj=>?_)))))))
   rotate_left
   ·refine cB ad (cB ad (cB ad (cB ad (cB ad (gH ad (vb false) (RL.nil ?_))))))
    obtain rfl:=oi hj
    exact⟨rfl,j.sp 9 [4,5,6,7,8]⟩
   refine RL.bT (hg:=(cg ad)) zr Ec (RL.aS (hg:=(cg ad)) 1 j zr pH Az fun bg j=>(RL.j9 (hg:=(cg ad)) 8 j zr Dc wv fun b4 j=>(RL.cD (hg:=(cg ad)) 0 p1.At j Hy fun bh j=>?_)))
   obtain⟨bj,bk,hj⟩:=bd hj
   refine RL.call (cg ad) zr Iq [bg,bh] zr (aF (o0 N (i0:=2) (i1:=0) j zr zr bk) ?_)
   rintro _ w ⟨rfl,j⟩
   refine gH ad (vb bj) (RL.nil ?_)
   obtain rfl:=oi hj
   exact⟨rfl,j.sp 12 [7,8,9,10,11]⟩
  rintro _ w ⟨O,rfl,j⟩
  refine aG (fU o (fun hc o=>?_) fun hc o=>?_)
  rotate_left
  ·refine RC.skip (cG (aG (RC.region (RL.inc hk hm (mv (vi ((ag+1:Nat):Int)) (RL.nil ?_))))))
   obtain rfl:=oi o
   exact⟨rfl,j.sp 5 [0,1,2,3,4]⟩
  refine RC.sr (mv (vi ag) ?_)
  have j:=j.sc Int (ag:Int)
  refine RL.build (⟨false,(ag:Int)⟩:bX) trivial rfl j [(1,vi ag)] rfl Gj rfl (fun M hs g=>by have h:=B3 M;exact dY.cons (f:=fun(x:bX) y=>{x with Number:=y}) h ve (g.sat 0 _ rfl).1 fun _ h=>dY.nil h) fun b5 j=>?_
  refine RL.bM 6 j 0 zr dM fun w j=>?_
  refine aR (vb true) (RL.nt (RC.rb (cO ?_)))
  obtain rfl:=oi o
  exact⟨rfl,zu 6 j dM fun bl j=>⟨bl,zr,j.pk 8 [0,3]⟩⟩
 ·intro r U w e hK
  subst e
  refine cO ?_
  obtain rfl:=oi o
  exact hK
 rintro an _ w rfl ⟨O,rfl,j⟩
 rw [Fo.gw] at o
 refine aG (RC.sr (RL.build (⟨false,0⟩:bX) trivial rfl j [] rfl Gj rfl (fun M hs g=>by have h:=B3 M;exact dY.nil h) fun b6 j=>?_))
 refine RL.bM 5 j 0 zr dM fun w j=>?_
 refine aR (vb false) (RL.nt (RC.ret ?_))
 obtain rfl:=oi o
 exact zu 5 j dM fun bm j=>⟨bm,zr,j.pk 7 [0,2]⟩
def py (E:World) (V:List HP) (b0:Nat) (v0_0 v0_1:Value) (v0_2 v0_3:Value) (v0_4 v0_5:Value) (v0_6 v0_7:Value) (v0_8 v0_9:Value) (v0_10 v0_11:Value) (res:Int) (v:Value) (w:World):Prop:=v= (vi res)/\Holds E w ([bc 108 b0 [v0_0,v0_1,v0_2,v0_3,v0_4,v0_5,v0_6,v0_7,v0_8,v0_9,v0_10,v0_11]]++V)
theorem o4 {p0_8: (List Int)} {p0_9: (List Int)} {p1:bX} (j:Holds E w (bc 108 b0 [v0_0,v0_1,v0_2,v0_3,v0_4,v0_5,v0_6,v0_7,v0_8,v0_9,v0_10,v0_11]::rd v0_8 p0_8::rd v0_9 p0_9::V)) (h1:V[i1]? =some (rd v1 p1)) (o:gq N p0_8 p0_9 p1=some res):
    Calls bN 105 [(vp b0 0),v1].toArray w (iv (py E V b0 v0_0 v0_1 v0_2 v0_3 v0_4 v0_5 v0_6 v0_7 v0_8 v0_9 v0_10 v0_11 res)):=by
 unfold gq at o
 refine enter Tryz.func105 zr zr ?_
 have j:=j.dup (i1+3) h1
 refine RC.sr (RL.cX 0 v1 j zr fun ag w j=>?_)
 refine aR (vi 0) (RL.nq (RC.sr (RL.bT zr x9 (RL.aX 0 j zr su Gh (RL.nt (fU o (fun hc o=>?_) fun hc o=>?_))))))
 ·refine RC.seq (RC.y5 mixed ?_)
  have j:=j.drew
  refine RO.go (mv (vp b0 0) (RO.nx (RL.nilCheck zr (RO.nx (RL.bT zr xG (RO.nx (RL.bP 2 v0_9 j fJ (RO.nx ?_))))))))
  refine RL.bT zr wz (RO.nx (RL.aX 0 j zr qm dH (RO.nx ?_)))
  obtain⟨aa,ae,o⟩:=bd o
  refine RL.cM 4 j fF ae fun ah j=>(RO.nx (RL.bU aa 0 j dH (RO.nx (aR (vi aa) (RO.last (aG (RC.rt ?_)))))))
  obtain rfl:=oi o
  exact cS ⟨rfl,j.pk 6 [3]⟩
 refine RC.ss (RC.y5 mixed ?_)
 have j:=j.drew
 refine RO.go (mv (vp b0 0) (RO.nx (RL.nilCheck zr (RO.nx (RL.bT zr AF (RO.nx (RL.bP 2 v0_8 j fJ (RO.nx ?_))))))))
 refine RL.bT zr wz (RO.nx (RL.aX 0 j zr qm dH (RO.nx ?_)))
 obtain⟨ab,af,o⟩:=bd o
 refine RL.cM 3 j fF af fun ai j=>(RO.nx (RL.bU ab 0 j dH (RO.nx (aR (vi ab) (RO.last (aG (RC.ret ?_)))))))
 obtain rfl:=oi o
 exact cS ⟨rfl,j.pk 6 [3]⟩
end Go.Gk
