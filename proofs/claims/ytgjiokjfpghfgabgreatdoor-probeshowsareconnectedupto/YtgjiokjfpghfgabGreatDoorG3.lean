/-
  Printed texts: Go functions as plain functions, and that they are. No statement of the seed is proved here.
-/
import Derived.Test.YtgjiokjfpghfgabGreatDoorG1
import Derived.Test.YtgjiokjfpghfgabGreatDoorG2
import Derived.Test.YtgjiokjfpghfgabGreatDoorA2
set_option linter.unusedVariables false
set_option linter.unusedSimpArgs false
set_option linter.unusedSectionVars false
set_option maxRecDepth 100000
set_option maxHeartbeats 4000000
namespace Go.Gk
open Go Go.Proofs
variable (N:Nat) {E w:World} {b0 b1 i0 i1:Nat} {p0 p1 p2 res:Int} {v0 v0_0 v0_1 v0_10 v0_11 v0_2 v0_3 v0_4 v0_5 v0_6 v0_7 v0_8 v0_9 v1 v1_0 v2:Value} {V:List HP}
theorem lF {p0:bM} {res:Bool} (j:Holds E w V) (h0:V[i0]? =some (rd v0 p0)) (hb:i6 N p0 p1=some res):
    Calls bD 48 [v0,(vi p1)].toArray w (gR (bF E V res)):=by
 unfold i6 at hb
 refine enter Tryz.func48 zr zr ?_
 have j:=j.dup (i0+0) h0
 refine RC.sr (RL.dD 0 v0 j zr fun o w j=>?_)
 refine aO (vb false) (RL.ns (RL.bA zr rU (RL.aN 0 j zr lV cH (mv (vi p1) (ic p0.cQ p1 (mv (vb (decide (p0.cQ<=p1))) (RL.gs true (decide (p0.cQ<=p1)) (vi p1) zr zr zr eC (RL.gs true (decide (p0.cQ<=p1)) (vp o 4) zr zr zr (dQ tY) ?_))))))))
 refine RL.gs true (decide (p0.cQ<=p1)) (vi p0.To) rfl rfl rfl (bX 0 rfl j (fun h=>by exact(cR h:cv (true&&((decide (p0.cQ<=p1))==true)) (vp o 4)= (vp o 4))) rfl m6 cH) (RL.gs true (decide (p0.cQ<=p1)) (vb (decide (p1<=p0.To))) rfl rfl rfl (eP .leq .i64 p1 p0.To rfl (fun h=>by exact(cR h:cv (true&&((decide (p0.cQ<=p1))==true)) (vi p1)= (vi p1))) (fun h=>by exact(cR h:cv (true&&((decide (p0.cQ<=p1))==true)) (vi p0.To)= (vi p0.To))) rfl) (RL.pick (decide (p0.cQ<=p1)) (vb ((decide (p0.cQ<=p1))&&(decide (p1<=p0.To)))) (iX true) (aO (vb ((decide (p0.cQ<=p1))&&(decide (p1<=p0.To)))) (RL.nt (RC.ret ?_)))))
 obtain rfl:=oi hb
 exact cD ⟨rfl,j.drop 2⟩
def vF (E:World) (V:List HP) (res: (List Int)×Int) (v:Value) (w:World):Prop:=∃u0:Value,v = .tuple #[u0,(vi res.2)]/\Holds E w ([rd u0 res.1]++V)
theorem pC {p0: (List aA)} {res: (List Int)×Int} (j:Holds E w V) (h0:V[i0]? =some (rd v0 p0)) (o:kn N p0 p1 p2=some res):
    Calls bD 91 [v0,(vi p1),(vi p2)].toArray w (gR (vF E V res)):=by
 unfold kn at o
 refine enter Tryz.func91 zr zr ?_
 have j:=j.dup (i0+0) h0
 refine RC.sr (aO (.slice none 0 0) (aO (vi 0) (RL.nq (RC.bs (mv v0 (RL.bE 0 p0 j rk (ic ((p0.length:Int)) 0 (aO (vb ((p0.length:Int)==0)) ?_))))))))
 refine RL.nt (fq o (fun hc o=>?_) fun hc o=>?_)
 ·refine RC.sr (mv (vi p2) (aO (.slice none 0 0) (aO (vi p2) (RL.nt (RC.rb (bL ?_))))))
  obtain rfl:=oi o
  have j:=j.vc Int
  exact jw ⟨(.slice none 0 0),zr,j.pk 2 [0]⟩
 refine RC.sr (mv (vi p1) (mv v0 ?_))
 obtain⟨ae,ag,o⟩:=bd o
 refine RL.cC 0 j my ag fun al j=>(RL.gS 0 j zr mR fz fun an j=>(RL.bK ae.Y0 0 j cH (ic p1 ae.Y0 (aO (vb (decide (p1<ae.Y0))) (RL.nt (fq o (fun hc o=>?_) fun hc o=>?_))))))
 ·refine RC.seq (RC.wy mixed ?_)
  have j:=j.drew
  refine RO.go (mv (vi p2) (RO.nx (mv v0 (RO.nx ?_))))
  obtain⟨aa,ah,o⟩:=bd o
  refine RL.cC 2 j my ah fun ao j=>(RO.nx (RL.gS 0 j zr mR fz fun aq j=>(RO.nx (RL.bK aa.Y0 0 j cH (RO.nx (RL.min p2 aa.Y0 (RO.nx (aO (.slice none 0 0) ?_))))))))
  refine RO.nx (aO (vi (if aa.Y0<p2 then aa.Y0 else p2)) (RO.last (aG (RC.rb (bL ?_)))))
  obtain rfl:=oi o
  have j:=j.vc Int
  exact jw ⟨(.slice none 0 0),zr,j.pk 6 [0]⟩
 refine RC.skip (bU (aG (RC.seq (RC.wy mixed ?_))))
 have j:=j.drew
 refine RO.go (mv v0 (RO.nx ?_))
 obtain⟨ai,aj,o⟩:=bd o
 refine RL.cC 2 j my aj fun ar j=>(RO.nx (RL.gS 0 j zr jN cU fun au j=>(RO.nx (RL.bT 0 ai.Xs j fF fun af j=>(RO.nx (mv (vi p2) (RO.nx (mv v0 ?_))))))))
 refine RO.nx ?_
 obtain⟨ab,ak,o⟩:=bd o
 refine RL.cC 5 j my ak fun av j=>(RO.nx (RL.gS 0 j zr kR dV fun aw j=>(RO.nx (RL.bK ab.Y1 0 j cH (RO.nx (RL.min p2 ab.Y1 (RO.nx (aO af ?_))))))))
 refine RO.nx (aO (vi (if ab.Y1<p2 then ab.Y1 else p2)) (RO.last (aG (RC.ret ?_))))
 obtain rfl:=oi o
 exact jw ⟨af,zr,j.pk 8 [2]⟩
theorem wG {p0: (List Int)} {p1: (List Int)} {p2:Bool->Bool->Option Bool} {res: (List Int)} (j:Holds E w V) (h0:V[i0]? =some (rd v0 p0)) (h1:V[i1]? =some (rd v1 p1)) (h2:Fu bD E V v2 p2 (fun(r:Bool)=>Value.bool r)) (hb:na N p0 p1 p2=some res):
    Calls bD 92 [v0,v1,v2].toArray w (gR (j5 E V res)):=by
 unfold na at hb
 refine enter Tryz.func92 zr zr ?_
 have j:=(j.dup (i0+0) h0).dup (i1+1) h1
 refine RC.sr (aO (.slice none 0 0) (RL.ns (aO (.slice none 0 0) (RL.ns (aO (vb false) (aO (vb false) (aO (vb false) (RL.nq ?_))))))))
 obtain⟨bu,hN,hb⟩:=bd hb
 refine RC.iter (fun(o: (List Int)×(List Int)×(List Int)×Bool×Bool×Bool) U w=>∃a7 a8 a9:Value,SH E V [(0,a7),(1,a8),(2,v2),(7,a9),(8,vb o.2.2.2.1),(9,vb o.2.2.2.2.1),(10,vb o.2.2.2.2.2)] [rd a7 o.1,rd a8 o.2.1,own 3 a9 o.2.2.1] U w) (fun(o: (List Int)×(List Int)×(List Int)×Bool×Bool×Bool) U w=>∃av:Value,SH E V [(7,av)] [own 3 av o.2.2.1] U w) (fun(r:Empty) _ _=>r.elim) hN ?_ ?_ ?_ ?_
 ·have j:=j.dH Int 3
  exact⟨v0,v1,(.slice none 0 0),j.sp 3 [2,1,0]⟩
 ·rintro o fl _ w ⟨ah,ad,ae,O,rfl,j⟩ hb
  refine RC.seq (RC.seq ?_)
  obtain⟨a1,hj,hb⟩:=bd hb
  refine RC.jn (fun(a1:Bool)=>SH E V [(0,ah),(1,ad),(2,v2),(7,ae),(8,vb o.2.2.2.1),(9,vb o.2.2.2.2.1),(10,vb o.2.2.2.2.2),(20,vb a1)] [rd ah o.1,rd ad o.2.1,own 3 ae o.2.2.1]) a1 ?_ ?_
  ·refine RC.region (mv ah (RL.bE 0 o.1 j lM (ic ((o.1.length:Int)) 0 (mv (vb (decide ((o.1.length:Int)>0))) (gv hj (fun ao hj=>?_) fun ao hj=>?_)))))
   ·refine bS ao (bS ao (bS ao (gx ao (vb true) (RL.nil ?_))))
    obtain rfl:=oi hj
    exact⟨rfl,j.sp 3 [0,1,2]⟩
   refine RL.move ad (cg ao) (RL.bE (hg:=(cg ao)) 1 o.2.1 j lM (RL.jP (o.2.1.length:Int) 0 (cg ao) (gx ao (vb (decide ((o.2.1.length:Int)>0))) (RL.nil ?_))))
   obtain rfl:=oi hj
   exact⟨rfl,j.sp 3 [0,1,2]⟩
  rintro _ w ⟨O,rfl,j⟩
  refine aG (fq hb (fun hc hb=>?_) fun hc hb=>?_)
  rotate_left
  ·refine RC.ex ?_
   obtain rfl:=oi hb
   exact⟨rfl,ae,j.sp 3 [2]⟩
  refine RC.sn (RC.bs (aO (vi 0) (RL.nq (RC.seq ?_))))
  obtain⟨a2,hj,hb⟩:=bd hb
  refine RC.jn (fun(a2:Bool)=>SH E V [(0,ah),(1,ad),(2,v2),(7,ae),(8,vb o.2.2.2.1),(9,vb o.2.2.2.2.1),(10,vb o.2.2.2.2.2),(37,vb a2)] [rd ah o.1,rd ad o.2.1,own 3 ae o.2.2.1]) a2 ?_ ?_
  ·refine RC.wy mixed ?_
   have j:=j.drew
   refine RO.go (mv ad (RO.nx (RL.bE 1 o.2.1 j lM (RO.nx (ic ((o.2.1.length:Int)) 0 (RO.nx (mv (vb ((o.2.1.length:Int)==0)) (gv hj (fun ai hj=>?_) fun ai hj=>?_))))))))
   ·refine RO.nx (bS ai (RO.nx (bS ai (RO.nx (bS ai (RO.nx (bS ai (RO.nx ?_))))))))
    refine CX (RO.nx (CX (RO.nx (CX (RO.nx (CX (RO.nx (CX ?_))))))))
    refine RO.nx (CX (RO.nx (CX (RO.nx (bS ai (RO.nx (gx ai (vb true) (RO.last ?_))))))))
    obtain rfl:=oi hj
    exact⟨rfl,j.sp 3 [0,1,2]⟩
   refine RO.nx (RL.move ah (cg ai) (RO.nx (RL.bE (hg:=(cg ai)) 0 o.1 j lM (RO.nx (RL.jP (o.1.length:Int) 0 (cg ai) (RO.nx (RL.move (vb (decide ((o.1.length:Int)>0))) (cg ai) (gv hj (fun af hj=>?_) fun af hj=>?_))))))))
   rotate_left
   ·refine RO.nx (bS af (RO.nx (bS af (RO.nx (bS af (RO.nx (bS af (RO.nx ?_))))))))
    refine bS af (RO.nx (bS af (RO.nx (bS af (RO.nx (gx af (vb false) (hg:=(cg ai)) (RO.nx (gx ai (vb false) ?_))))))))
    refine RO.last ?_
    obtain rfl:=oi hj
    exact⟨rfl,j.sp 3 [0,1,2]⟩
   refine RO.nx (RL.move ah (cg af) (RO.nx ?_))
   obtain⟨ax,bj,hj⟩:=bd hj
   refine RL.cC (hg:=(cg af)) 0 j eF bj fun bx j=>(RO.nx (RL.bK (hg:=(cg af)) ax 0 j cH (RO.nx (RL.move ad (cg af) (RO.nx ?_)))))
   obtain⟨ay,bk,hj⟩:=bd hj
   refine RL.cC (hg:=(cg af)) 2 j eF bk fun bz j=>(RO.nx (RL.bK (hg:=(cg af)) ay 0 j cH (RO.nx (RL.jP ax ay (cg af) (RO.nx (gx af (vb (decide (ax<=ay))) (hg:=(cg ai)) (RO.nx (gx ai (vb (decide (ax<=ay))) ?_))))))))
   refine RO.last ?_
   obtain rfl:=oi hj
   exact⟨rfl,j.sp 5 [2,3,4]⟩
  rintro _ w ⟨O,rfl,j⟩
  refine aG ?_
  obtain⟨ag,hj,hb⟩:=bd hb
  refine RC.jn (fun(ag:Int)=>SH E V [(0,ah),(1,ad),(2,v2),(7,ae),(8,vb o.2.2.2.1),(9,vb o.2.2.2.2.1),(10,vb o.2.2.2.2.2),(11,vi ag)] [rd ah o.1,rd ad o.2.1,own 3 ae o.2.2.1]) ag ?_ ?_
  ·refine fq hj (fun hc hj=>?_) fun hc hj=>?_
   ·refine RC.region (mv ah ?_)
    obtain⟨ba,bl,hj⟩:=bd hj
    refine RL.cC 0 j eF bl fun b0 j=>(RL.bK ba 0 j cH (aO (vi ba) (RL.nil ?_)))
    obtain rfl:=oi hj
    exact⟨rfl,j.sp 4 [1,2,3]⟩
   refine RC.region (mv ad ?_)
   obtain⟨bb,bm,hj⟩:=bd hj
   refine RL.cC 1 j eF bm fun b1 j=>(RL.bK bb 0 j cH (aO (vi bb) (RL.nil ?_)))
   obtain rfl:=oi hj
   exact⟨rfl,j.sp 4 [1,2,3]⟩
  rintro _ w ⟨O,rfl,j⟩
  refine aG (RC.seq (RC.seq ?_))
  obtain⟨a3,hj,hb⟩:=bd hb
  refine RC.jn (fun(a3:Bool)=>SH E V [(0,ah),(1,ad),(2,v2),(7,ae),(8,vb o.2.2.2.1),(9,vb o.2.2.2.2.1),(10,vb o.2.2.2.2.2),(11,vi ag),(53,vb a3)] [rd ah o.1,rd ad o.2.1,own 3 ae o.2.2.1]) a3 ?_ ?_
  ·refine RC.region (mv ah (RL.bE 0 o.1 j lM (ic ((o.1.length:Int)) 0 (mv (vb (decide ((o.1.length:Int)>0))) (gv hj (fun aj hj=>?_) fun aj hj=>?_)))))
   rotate_left
   ·refine bS aj (bS aj (bS aj (bS aj (bS aj (gx aj (vb false) (RL.nil ?_))))))
    obtain rfl:=oi hj
    exact⟨rfl,j.sp 3 [0,1,2]⟩
   refine RL.move ah (cg aj) ?_
   obtain⟨a4,bn,hj⟩:=bd hj
   refine RL.cC (hg:=(cg aj)) 0 j eF bn fun b2 j=>(RL.bK (hg:=(cg aj)) a4 0 j cH (RL.move (vi ag) (cg aj) (RL.jP a4 ag (cg aj) (gx aj (vb (a4==ag)) (RL.nil ?_)))))
   obtain rfl:=oi hj
   exact⟨rfl,j.sp 4 [1,2,3]⟩
  rintro _ w ⟨O,rfl,j⟩
  refine aG ?_
  obtain⟨al,hj,hb⟩:=bd hb
  refine RC.jn (fun(al: (List Int)×Bool) U w=>∃an:Value,SH E V [(0,an),(1,ad),(2,v2),(7,ae),(8,vb al.2),(9,vb o.2.2.2.2.1),(10,vb o.2.2.2.2.2),(11,vi ag)] [rd ad o.2.1,own 3 ae o.2.2.1,rd an al.1] U w) al ?_ ?_
  ·refine fq hj (fun hc hj=>?_) fun hc hj=>?_
   rotate_left
   ·refine RC.skip ?_
    obtain rfl:=oi hj
    exact⟨rfl,ah,j.sp 3 [1,2,0]⟩
   refine RC.region (mv ah ?_)
   obtain⟨b3,bo,hj⟩:=bd hj
   refine RL.cut 0 j eF (.inr ⟨rfl,zr⟩) bo fun bc j=>(mv (vb o.2.2.2.1) (RL.not o.2.2.2.1 (aO bc (aO (vb (!o.2.2.2.1)) (RL.nil ?_)))))
   obtain rfl:=oi hj
   exact⟨rfl,bc,j.sp 4 [2,3,0]⟩
  rintro _ w ⟨an,O,rfl,j⟩
  refine aG (RC.seq (RC.seq ?_))
  obtain⟨a5,hj,hb⟩:=bd hb
  refine RC.jn (fun(a5:Bool)=>SH E V [(0,an),(1,ad),(2,v2),(7,ae),(8,vb al.2),(9,vb o.2.2.2.2.1),(10,vb o.2.2.2.2.2),(11,vi ag),(67,vb a5)] [rd an al.1,rd ad o.2.1,own 3 ae o.2.2.1]) a5 ?_ ?_
  ·refine RC.region (mv ad (RL.bE 0 o.2.1 j lM (ic ((o.2.1.length:Int)) 0 (mv (vb (decide ((o.2.1.length:Int)>0))) (gv hj (fun ak hj=>?_) fun ak hj=>?_)))))
   rotate_left
   ·refine bS ak (bS ak (bS ak (bS ak (bS ak (gx ak (vb false) (RL.nil ?_))))))
    obtain rfl:=oi hj
    exact⟨rfl,j.sp 3 [2,0,1]⟩
   refine RL.move ad (cg ak) ?_
   obtain⟨a6,bp,hj⟩:=bd hj
   refine RL.cC (hg:=(cg ak)) 0 j eF bp fun b4 j=>(RL.bK (hg:=(cg ak)) a6 0 j cH (RL.move (vi ag) (cg ak) (RL.jP a6 ag (cg ak) (gx ak (vb (a6==ag)) (RL.nil ?_)))))
   obtain rfl:=oi hj
   exact⟨rfl,j.sp 4 [3,1,2]⟩
  rintro _ w ⟨O,rfl,j⟩
  refine aG ?_
  obtain⟨ar,hj,hb⟩:=bd hb
  refine RC.jn (fun(ar: (List Int)×Bool) U w=>∃au:Value,SH E V [(0,an),(1,au),(2,v2),(7,ae),(8,vb al.2),(9,vb ar.2),(10,vb o.2.2.2.2.2),(11,vi ag)] [rd an al.1,own 3 ae o.2.2.1,rd au ar.1] U w) ar ?_ ?_
  ·refine fq hj (fun hc hj=>?_) fun hc hj=>?_
   rotate_left
   ·refine RC.skip ?_
    obtain rfl:=oi hj
    exact⟨rfl,ad,j.sp 3 [0,2,1]⟩
   refine RC.region (mv ad ?_)
   obtain⟨b5,bq,hj⟩:=bd hj
   refine RL.cut 1 j eF (.inr ⟨rfl,zr⟩) bq fun bf j=>(mv (vb o.2.2.2.2.1) (RL.not o.2.2.2.2.1 (aO bf (aO (vb (!o.2.2.2.2.1)) (RL.nil ?_)))))
   obtain rfl:=oi hj
   exact⟨rfl,bf,j.sp 4 [1,3,0]⟩
  rintro _ w ⟨au,O,rfl,j⟩
  refine aG (RC.sr (mv v2 (mv (vb al.2) (mv (vb ar.2) ?_))))
  have j:=(j.sc Bool al.2).sc Bool ar.2
  obtain⟨aw,br,hb⟩:=bd hb
  refine RL.Ag 1 0 zt zr j zr h2 5 zr zr zr zr zr br fun w j=>(aO (vb aw) (RL.ns (mv (vb aw) (mv (vb o.2.2.2.2.2) (RL.xG aw o.2.2.2.2.2 zt zr zr zr E6 (RL.nt ?_))))))
  obtain⟨az,hj,hb⟩:=bd hb
  refine RC.jn (fun(az: (List Int)×Bool) U w=>∃a0:Value,SH E V [(0,an),(1,au),(2,v2),(7,a0),(8,vb al.2),(9,vb ar.2),(10,vb az.2)] [rd an al.1,rd au ar.1,own 3 a0 az.1] U w) az ?_ ?_
  ·refine fq hj (fun hc hj=>?_) fun hc hj=>?_
   rotate_left
   ·refine RC.skip ?_
    obtain rfl:=oi hj
    exact⟨rfl,ae,j.sp 5 [2,4,3]⟩
   refine RC.region (mv ae (mv (vi ag) ?_))
   have j:=j.sc Int ag
   refine RL.eY ([ag]: (List Int)) j [(vi ag)] eF CB (fun M hs g=>⟨(g.sat 0 _ zr).1,zt⟩) fun b6 w j=>?_
   have j:=j.freeze 0
   obtain⟨b7,bt,hj⟩:=bd hj
   refine RL.app 5 0 j sV bt fun bg w j=>?_
   refine mv (vb aw) (aO bg (aO (vb aw) (RL.nil ?_)))
   obtain rfl:=oi hj
   exact⟨rfl,bg,j.sp 7 [4,6,5]⟩
  rintro _ w ⟨a0,O,rfl,j⟩
  refine bU ?_
  obtain rfl:=oi hb
  exact⟨rfl,an,au,a0,j.sp 3 [0,1,2]⟩
 ·intro r _ _ _ _
  exact r.elim
 rintro o _ w rfl ⟨av,O,rfl,j⟩
 rw [Fo.fZ] at hb
 refine aG (RC.sr (mv av (aO av (RL.nt (RC.ret ?_)))))
 obtain rfl:=oi hb
 exact cD (j.pk 1 [0])
theorem vG {p0: (List aA)} {p1: (List aA)} {p2:Bool->Bool->Option Bool} {res: (List aA)} (j:Holds E w V) (h0:V[i0]? =some (rd v0 p0)) (h1:V[i1]? =some (rd v1 p1)) (h2:Fu bD E V v2 p2 (fun(r:Bool)=>Value.bool r)) (o:mf N p0 p1 p2=some res):
    Calls bD 75 [v0,v1,v2].toArray w (gR (ko E V res)):=by
 unfold mf at o
 refine enter Tryz.func75 zr zr ?_
 have j:=(j.dup (i0+0) h0).dup (i1+1) h1
 refine RC.sr (aO (.slice none 0 0) (RL.ns (aO (.slice none 0 0) (RL.nq (RC.sr (mv v0 (RL.bE 1 p0 j rk (mv v1 ?_))))))))
 refine RL.bE 0 p1 j rk (RL.jC (p0.length:Int) (p1.length:Int) (ic ((IntKind.wrap .i64 ((p0.length:Int)+ (p1.length:Int)))) 0 (RL.nt (fq o (fun hc o=>?_) fun hc o=>?_))))
 ·refine RC.sr (aO (.slice none 0 0) (RL.nt (RC.rt ?_)))
  obtain rfl:=oi o
  have j:=j.dH aA 130
  exact cD (j.pk 3 [0])
 refine RC.sx (aO (vi 0) (aO (vi 0) (RL.nq (RC.sr (mv v0 (mv v1 (RL.eY ([p0,p1]: (List (List aA))) j [v0,v1] C8 FP (fun M hs g=>⟨(g.sat 1 _ zr).1,⟨(g.sat 0 _ zr).1,zt⟩⟩) fun ar w j=>(RL.fU 0 ([p0,p1]: (List (List aA))) j GO ?_))))))))
 refine mv (vi 0) (RL.nt ?_)
 obtain⟨ad,hN,o⟩:=bd o
 refine RC.fold (fun(aj:Nat) (ad:Int×Int)=>SH E V [(0,v0),(1,v1),(2,v2),(7,(.slice none 0 0)),(8,vi ad.1),(9,vi ad.2),(25,ar),(26,(vi ((([p0,p1]: (List (List aA))).length:Nat):Int))),(27,vi aj)] [rd v0 p0,rd v1 p1,own 96 ar ([p0,p1]: (List (List aA)))]) (fun(ad:Int×Int)=>SH E V [(0,v0),(1,v1),(2,v2),(7,(.slice none 0 0)),(8,vi ad.1),(9,vi ad.2)] [rd v0 p0,rd v1 p1,own 96 ar ([p0,p1]: (List (List aA)))]) hN ?_ ?_ ?_ ?_
 ·exact j.sp 3 [2,1,0]
 ·rintro hm ad _ w ⟨O,rfl,j⟩
  refine RC.sr (ic (((([p0,p1]: (List (List aA))).length:Nat):Int)) (((([p0,p1]: (List (List aA))).length:Nat):Int)) (RL.nq (RC.cT m4 (RC.ex ?_))))
  exact⟨rfl,j.sp 3 [0,1,2]⟩
 ·rintro hm aj ad s' _ w hk ⟨O,rfl,j⟩ o
  refine RC.sr (ic ((aj:Int)) (((([p0,p1]: (List (List aA))).length:Nat):Int)) (RL.nq (RC.cS (m0 hk) (RC.ss (RC.bs (mv (vi aj) ?_))))))
  obtain⟨iR,a7,o⟩:=bd o
  refine RL.bJ 2 j zr zr C8 a7 (RL.kP (f:=(fun x=>x)) 2 j (jv 2 j a7 0) (aY a7).2.1 Fd.self GP fun ak j=>?_)
  refine aO (vi aj) (aO ak (RL.ns (mv ak (RL.bE 0 iR j rk (ic ((iR.length:Int)) 0 (RL.nt ?_))))))
  obtain⟨a4,hj,o⟩:=bd o
  refine RC.jn (fun(a4:Int×Int)=>SH E V [(0,v0),(1,v1),(2,v2),(7,(.slice none 0 0)),(8,vi a4.1),(9,vi a4.2),(25,ar),(26,(vi ((([p0,p1]: (List (List aA))).length:Nat):Int))),(27,vi aj)] [rd v0 p0,rd v1 p1,own 96 ar ([p0,p1]: (List (List aA)))]) a4 ?_ ?_
  ·refine fq hj (fun hc hj=>?_) fun hc hj=>?_
   rotate_left
   ·refine RC.skip ?_
    obtain rfl:=oi hj
    exact⟨rfl,j.sp 4 [1,2,3]⟩
   refine RC.seq (RC.seq ?_)
   obtain⟨a8,hjj,hj⟩:=bd hj
   refine RC.jn (fun(a8:Bool)=>SH E V [(0,v0),(1,v1),(2,v2),(7,(.slice none 0 0)),(8,vi ad.1),(9,vi ad.2),(11,ak),(25,ar),(26,(vi ((([p0,p1]: (List (List aA))).length:Nat):Int))),(27,vi aj),(41,vb a8)] [rd v0 p0,rd v1 p1,rd ak iR,own 96 ar ([p0,p1]: (List (List aA)))]) a8 ?_ ?_
   ·refine RC.region (mv (vi aj) (ic ((aj:Int)) 0 (mv (vb ((aj:Int)==0)) (gv hjj (fun au hjj=>?_) fun au hjj=>?_))))
    ·refine bS au (bS au (bS au (gx au (vb true) (RL.nil ?_))))
     obtain rfl:=oi hjj
     exact⟨rfl,j.sp 4 [1,2,0,3]⟩
    refine RL.move v0 (cg au) (RL.bE (hg:=(cg au)) 1 p0 j rk (RL.jP (p0.length:Int) 0 (cg au) (gx au (vb ((p0.length:Int)==0)) (RL.nil ?_))))
    obtain rfl:=oi hjj
    exact⟨rfl,j.sp 4 [1,2,0,3]⟩
   rintro _ w ⟨O,rfl,j⟩
   refine aG ?_
   obtain⟨al,hjj,hj⟩:=bd hj
   refine RC.jn (fun(al:Int×Int)=>SH E V [(0,v0),(1,v1),(2,v2),(7,(.slice none 0 0)),(8,vi al.1),(9,vi al.2),(11,ak),(25,ar),(26,(vi ((([p0,p1]: (List (List aA))).length:Nat):Int))),(27,vi aj)] [rd v0 p0,rd v1 p1,rd ak iR,own 96 ar ([p0,p1]: (List (List aA)))]) al ?_ ?_
   ·refine fq hjj (fun hc hjj=>?_) fun hc hjj=>?_
    rotate_left
    ·refine RC.skip ?_
     obtain rfl:=oi hjj
     exact⟨rfl,j.sp 4 [0,1,2,3]⟩
    refine RC.wy mixed ?_
    have j:=j.drew
    refine RO.go (mv ak (RO.nx ?_))
    obtain⟨bh,bu,hjj⟩:=bd hjj
    refine RL.cC 2 j my bu fun cc j=>(RO.nx (RL.gS 0 j zr mR fz fun cd j=>(RO.nx (RL.bK bh.Y0 0 j cH (RO.nx (mv ak (RO.nx (mv ak ?_))))))))
    refine RO.nx (RL.bE 4 iR j rk (RO.nx (RL.jC (iR.length:Int) 1 (RO.nx ?_))))
    obtain⟨bj,bw,hjj⟩:=bd hjj
    refine RL.cC 4 j my bw fun cf j=>(RO.nx (RL.gS 0 j zr kR dV fun ch j=>(RO.nx (RL.bK bj.Y1 0 j cH (RO.nx (aO (vi bh.Y0) (RO.nx (aO (vi bj.Y1) ?_))))))))
    refine RO.last ?_
    obtain rfl:=oi hjj
    exact⟨rfl,j.sp 8 [4,5,6,7]⟩
   rintro _ w ⟨O,rfl,j⟩
   refine aG (RC.wy mixed ?_)
   have j:=j.drew
   refine RO.go (mv (vi al.1) (RO.nx (mv ak (RO.nx ?_))))
   obtain⟨a5,bx,hj⟩:=bd hj
   refine RL.cC 2 j my bx fun cj j=>(RO.nx (RL.gS 0 j zr mR fz fun ck j=>(RO.nx (RL.bK a5.Y0 0 j cH (RO.nx (RL.min al.1 a5.Y0 (RO.nx (mv (vi al.2) ?_))))))))
   refine RO.nx (mv ak (RO.nx (mv ak (RO.nx (RL.bE 4 iR j rk (RO.nx (RL.jC (iR.length:Int) 1 (RO.nx ?_))))))))
   obtain⟨a6,bz,hj⟩:=bd hj
   refine RL.cC 4 j my bz fun cl j=>(RO.nx (RL.gS 0 j zr kR dV fun cm j=>(RO.nx (RL.bK a6.Y1 0 j cH (RO.nx (RL.max al.2 a6.Y1 (RO.nx (aO (vi (if a5.Y0<al.1 then a5.Y0 else al.1)) ?_))))))))
   refine RO.nx (aO (vi (if al.2<a6.Y1 then a6.Y1 else al.2)) (RO.last ?_))
   obtain rfl:=oi hj
   exact⟨rfl,j.sp 8 [4,5,7]⟩
  rintro _ w ⟨O,rfl,j⟩
  refine bU (aG (RC.region (RL.inc hk hm (mv (vi ((aj+1:Nat):Int)) (RL.nil ?_)))))
  obtain rfl:=oi o
  exact⟨rfl,j.sp 3 [0,1,2]⟩
 rintro _ w ⟨O,rfl,j⟩
 refine aG (RC.seq ?_)
 obtain⟨cn,hN,o⟩:=bd o
 refine RC.iter (fun(aa: (List aA)×(List aA)×(List aA)×Int) U w=>∃bk bl bm:Value,SH E V [(0,bk),(1,bl),(2,v2),(7,bm),(8,vi aa.2.2.2),(9,vi ad.2)] [rd bk aa.1,rd bl aa.2.1,own 130 bm aa.2.2.1] U w) (fun(aa: (List aA)×(List aA)×(List aA)×Int) U w=>∃a1:Value,SH E V [(7,a1)] [own 130 a1 aa.2.2.1] U w) (fun(r:Empty) _ _=>r.elim) hN ?_ ?_ ?_ ?_
 ·have j:=j.dH aA 130
  exact⟨v0,v1,(.slice none 0 0),j.sp 4 [1,2,0]⟩
 ·rintro aa fl _ w ⟨b0,ax,ag,O,rfl,j⟩ o
  refine RC.seq (RC.sr (mv (vi aa.2.2.2) (mv (vi ad.2) (ic aa.2.2.2 ad.2 (RL.nt (fq o (fun hc o=>?_) fun hc o=>?_))))))
  rotate_left
  ·refine RC.ex ?_
   obtain rfl:=oi o
   exact⟨rfl,ag,j.sp 3 [2]⟩
  refine RC.sn (RC.block (RC.seq ?_))
  obtain⟨cp,hN,o⟩:=bd o
  refine RC.iter (fun(an: (List aA)) U w=>∃bo:Value,SH E V [(0,bo),(1,ax),(2,v2),(7,ag),(8,vi aa.2.2.2),(9,vi ad.2)] [rd ax aa.2.1,own 130 ag aa.2.2.1,rd bo an] U w) (fun(an: (List aA)) U w=>∃ao:Value,SH E V [(0,ao),(1,ax),(2,v2),(7,ag),(8,vi aa.2.2.2),(9,vi ad.2)] [rd ax aa.2.1,own 130 ag aa.2.2.1,rd ao an] U w) (fun(r:Empty) _ _=>r.elim) hN ?_ ?_ ?_ ?_
  ·exact⟨b0,j.sp 3 [1,2,0]⟩
  ·rintro an fl _ w ⟨ay,O,rfl,j⟩ o
   refine RC.seq (RC.seq ?_)
   obtain⟨a9,hj,o⟩:=bd o
   refine RC.jn (fun(a9:Bool)=>SH E V [(0,ay),(1,ax),(2,v2),(7,ag),(8,vi aa.2.2.2),(9,vi ad.2),(82,vb a9)] [rd ay an,rd ax aa.2.1,own 130 ag aa.2.2.1]) a9 ?_ ?_
   ·refine RC.region (mv ay (RL.bE 2 an j rk (ic ((an.length:Int)) 0 (mv (vb (decide ((an.length:Int)>0))) (gv hj (fun ah hj=>?_) fun ah hj=>?_)))))
    rotate_left
    ·refine bS ah (bS ah (bS ah (bS ah (bS ah (bS ah (gx ah (vb false) (RL.nil ?_)))))))
     obtain rfl:=oi hj
     exact⟨rfl,j.sp 3 [2,0,1]⟩
    refine RL.move ay (cg ah) ?_
    obtain⟨ba,b1,hj⟩:=bd hj
    refine RL.cC (hg:=(cg ah)) 2 j my b1 fun cq j=>(RL.gS (hg:=(cg ah)) 0 j zr kR dV fun cr j=>(RL.bK (hg:=(cg ah)) ba.Y1 0 j cH (RL.move (vi aa.2.2.2) (cg ah) (RL.jP ba.Y1 aa.2.2.2 (cg ah) (gx ah (vb (decide (ba.Y1<=aa.2.2.2))) (RL.nil ?_))))))
    obtain rfl:=oi hj
    exact⟨rfl,j.sp 5 [4,2,3]⟩
   rintro _ w ⟨O,rfl,j⟩
   refine aG (fq o (fun hc o=>?_) fun hc o=>?_)
   rotate_left
   ·refine RC.ex ?_
    obtain rfl:=oi o
    exact⟨rfl,ay,j.sp 3 [1,2,0]⟩
   refine RC.sn (RC.block (RC.region (mv ay ?_)))
   obtain⟨ct,b2,o⟩:=bd o
   refine RL.cut 0 j my (.inr ⟨rfl,zr⟩) b2 fun bp j=>(aO bp (RL.nil (bU ?_)))
   obtain rfl:=oi o
   exact⟨rfl,bp,j.sp 4 [2,3,0]⟩
  ·intro r _ _ _ _
   exact r.elim
  rintro an _ w rfl ⟨ao,O,rfl,j⟩
  rw [Fo.fZ] at o
  refine aG (RC.seq ?_)
  obtain⟨cu,hN,o⟩:=bd o
  refine RC.iter (fun(av: (List aA)) U w=>∃bq:Value,SH E V [(0,ao),(1,bq),(2,v2),(7,ag),(8,vi aa.2.2.2),(9,vi ad.2)] [rd ao an,own 130 ag aa.2.2.1,rd bq av] U w) (fun(av: (List aA)) U w=>∃az:Value,SH E V [(0,ao),(1,az),(2,v2),(7,ag),(8,vi aa.2.2.2),(9,vi ad.2)] [rd ao an,own 130 ag aa.2.2.1,rd az av] U w) (fun(r:Empty) _ _=>r.elim) hN ?_ ?_ ?_ ?_
  ·exact⟨ax,j.sp 3 [2,1,0]⟩
  ·rintro av fl _ w ⟨a0,O,rfl,j⟩ o
   refine RC.seq (RC.seq ?_)
   obtain⟨bb,hj,o⟩:=bd o
   refine RC.jn (fun(bb:Bool)=>SH E V [(0,ao),(1,a0),(2,v2),(7,ag),(8,vi aa.2.2.2),(9,vi ad.2),(95,vb bb)] [rd ao an,rd a0 av,own 130 ag aa.2.2.1]) bb ?_ ?_
   ·refine RC.region (mv a0 (RL.bE 2 av j rk (ic ((av.length:Int)) 0 (mv (vb (decide ((av.length:Int)>0))) (gv hj (fun ai hj=>?_) fun ai hj=>?_)))))
    rotate_left
    ·refine bS ai (bS ai (bS ai (bS ai (bS ai (bS ai (gx ai (vb false) (RL.nil ?_)))))))
     obtain rfl:=oi hj
     exact⟨rfl,j.sp 3 [0,2,1]⟩
    refine RL.move a0 (cg ai) ?_
    obtain⟨bc,b3,hj⟩:=bd hj
    refine RL.cC (hg:=(cg ai)) 2 j my b3 fun cv j=>(RL.gS (hg:=(cg ai)) 0 j zr kR dV fun cw j=>(RL.bK (hg:=(cg ai)) bc.Y1 0 j cH (RL.move (vi aa.2.2.2) (cg ai) (RL.jP bc.Y1 aa.2.2.2 (cg ai) (gx ai (vb (decide (bc.Y1<=aa.2.2.2))) (RL.nil ?_))))))
    obtain rfl:=oi hj
    exact⟨rfl,j.sp 5 [2,4,3]⟩
   rintro _ w ⟨O,rfl,j⟩
   refine aG (fq o (fun hc o=>?_) fun hc o=>?_)
   rotate_left
   ·refine RC.ex ?_
    obtain rfl:=oi o
    exact⟨rfl,a0,j.sp 3 [0,2,1]⟩
   refine RC.sn (RC.block (RC.region (mv a0 ?_)))
   obtain⟨cx,b4,o⟩:=bd o
   refine RL.cut 1 j my (.inr ⟨rfl,zr⟩) b4 fun br j=>(aO br (RL.nil (bU ?_)))
   obtain rfl:=oi o
   exact⟨rfl,br,j.sp 4 [1,3,0]⟩
  ·intro r _ _ _ _
   exact r.elim
  rintro av _ w rfl ⟨az,O,rfl,j⟩
  rw [Fo.fZ] at o
  refine aG (RC.sr (mv ao (mv (vi aa.2.2.2) (mv (vi ad.2) ?_))))
  obtain⟨ae,b5,o⟩:=bd o
  refine RL.call zt zr GQ [ao,(vi aa.2.2.2),(vi ad.2)] zr (aF (pC N (p1:=aa.2.2.2) (p2:=ad.2) (i0:=0) j zr b5) ?_)
  rintro _ w ⟨a2,rfl,j⟩
  refine mv (.tuple #[a2,(vi ae.2)]) (RL.extract a2 (RL.extract (vi ae.2) (aO a2 (aO (vi ae.2) (RL.ns (mv az (mv (vi aa.2.2.2) (mv (vi ad.2) ?_))))))))
  obtain⟨af,b6,o⟩:=bd o
  refine RL.call zt zr GQ [az,(vi aa.2.2.2),(vi ad.2)] zr (aF (pC N (p1:=aa.2.2.2) (p2:=ad.2) (i0:=3) j zr b6) ?_)
  rintro _ w ⟨a3,rfl,j⟩
  refine mv (.tuple #[a3,(vi af.2)]) (RL.extract a3 (RL.extract (vi af.2) (aO a3 (aO (vi af.2) (RL.ns (mv (vi ae.2) (mv (vi af.2) (RL.min ae.2 af.2 ?_))))))))
  refine aO (vi (if af.2<ae.2 then af.2 else ae.2)) (RL.ns (mv ag (mv (vi aa.2.2.2) (mv (vi (if af.2<ae.2 then af.2 else ae.2)) (mv a2 (mv a3 (mv v2 ?_)))))))
  obtain⟨b7,b8,o⟩:=bd o
  refine RL.call zt zr Iv [a2,a3,v2] zr (aF (wG N (i0:=1) (i1:=0) j zr zr (h2.lift 5 zr) b8) ?_)
  rintro b9 w j
  have j:=((j.sc Int aa.2.2.2).sc Int (if af.2<ae.2 then af.2 else ae.2)).freeze 2
  refine RL.build (⟨aa.2.2.2,(if af.2<ae.2 then af.2 else ae.2),b7⟩:aA) trivial rfl j [(0,vi aa.2.2.2),(1,(vi (if af.2<ae.2 then af.2 else ae.2))),(2,b9)] rfl E4 rfl (fun M hs g=>by have h:=sU M;exact dJ.cons (f:=fun(x:aA) y=>{x with Y0:=y}) h pz (g.sat 1 _ rfl).1 fun _ h=>dJ.cons (f:=fun(x:aA) y=>{x with Y1:=y}) h mx (g.sat 0 _ rfl).1 fun _ h=>dJ.cons (f:=fun(x:aA) y=>{x with Xs:=y}) h pA (g.sat 2 _ rfl).1 fun _ h=>dJ.nil h) fun ca j=>?_
  have j:=j.pull 7
  obtain⟨cy,cb,o⟩:=bd o
  refine RL.call zt zr GA [ag,ca] zr (aF (nS N (i1:=0) j zr cb) ?_)
  rintro bt w j
  refine aO bt (RL.nt (RC.region (mv (vi (if af.2<ae.2 then af.2 else ae.2)) (aO (vi (if af.2<ae.2 then af.2 else ae.2)) (RL.nil (bU ?_))))))
  obtain rfl:=oi o
  exact⟨rfl,ao,az,bt,j.sp 10 [7,9,0]⟩
 ·intro r _ _ _ _
  exact r.elim
 rintro aa _ w rfl ⟨a1,O,rfl,j⟩
 rw [Fo.fZ] at o
 refine aG (RC.sr (mv a1 (aO a1 (RL.nt (RC.ret ?_)))))
 obtain rfl:=oi o
 exact cD (j.pk 1 [0])
theorem qq {p0 p1 res:Bool} (o:Holds E w V) (j:ly N p0 p1=some res):
    Calls bD 76 [(vb p0),(vb p1)].toArray w (gR (bF E V res)):=by
 unfold ly at j
 refine enter Tryz.func76 rfl rfl (RC.sr (aO (vb false) (RL.ns (mv (vb p0) (mv (vb p0) (RL.gs true p0 (vb p1) rfl rfl rfl eC (RL.gs true p0 (vb (!p1)) rfl rfl rfl (Fp (b:=p1) rfl (fun h=>by exact(cR h:cv (true&&(p0==true)) (vb p1)= (vb p1)))) (RL.pick p0 (vb (p0&&(!p1))) (iX true) ?_))))))))
 refine aO (vb (p0&&(!p1))) (RL.nt (RC.ret ?_))
 obtain rfl:=oi j
 exact cD ⟨rfl,o.drop 0⟩
theorem th {p0: (List aA)} {p1: (List aA)} {res: (List aA)} (o:Holds E w V) (h0:V[i0]? =some (rd v0 p0)) (h1:V[i1]? =some (rd v1 p1)) (hb:i7 N p0 p1=some res):
    Calls bD 49 [v0,v1].toArray w (gR (ko E V res)):=by
 unfold i7 at hb
 refine enter Tryz.func49 zr zr ?_
 have o:=(o.dup (i0+0) h0).dup (i1+1) h1
 refine RC.sr (aO (.slice none 0 0) (RL.ns (mv v0 (mv v1 ?_))))
 obtain⟨af,ab,hb⟩:=bd hb
 refine RL.call trivial rfl Ix [v0,v1,(.func (.func 76) #[] #[])] rfl (aF (vG N (i0:=1) (i1:=0) o rfl rfl ⟨76,[],rfl,Iw,fun w Γl v v' y0 y1 r i j o hi hj hr=>by obtain rfl:=o.yH (γ:=Bool) hi;obtain rfl:=o.yH (γ:=Bool) hj;exact aF (qq N (p0:=y0) (p1:=y1) o hr) fun _ _ h=>h⟩ ab) ?_)
 rintro ae w o
 refine aO ae (RL.nt (RC.ret ?_))
 obtain rfl:=oi hb
 exact cD (o.pk 3 [0])
theorem ti {p0: (List aA)} (j:Holds E w V) (h0:V[i0]? =some (rd v0 p0)) (hb:jZ N p0=some res):
    Calls bD 50 [v0].toArray w (gR (aP E V res)):=by
 unfold jZ at hb
 refine enter Tryz.func50 zr zr ?_
 have j:=j.dup (i0+0) h0
 refine RC.sr (aO (vi 0) (RL.ns (aO (vi 0) (RL.nq (RC.sr (mv v0 (RL.bE 0 p0 j rk (mv (vi 0) ?_))))))))
 refine RL.nt ?_
 obtain⟨o,hN,hb⟩:=bd hb
 refine RC.fold (fun(ad:Nat) (o:Int)=>SH E V [(3,vi o),(6,v0),(7,vi p0.length),(8,vi ad)] [rd v0 p0]) (fun(o:Int)=>SH E V [(3,vi o)] [rd v0 p0]) hN ?_ ?_ ?_ ?_
 ·exact j.sp 1 [0]
 ·rintro hm o _ w ⟨O,rfl,j⟩
  refine RC.sr (ic ((p0.length:Int)) ((p0.length:Int)) (RL.nq (RC.cT m4 (RC.ex ?_))))
  exact⟨rfl,j.sp 1 [0]⟩
 ·rintro hm ad o s' _ w hk ⟨O,rfl,j⟩ hb
  refine RC.sr (ic ((ad:Int)) ((p0.length:Int)) (RL.nq (RC.cS (m0 hk) (RC.ss (RC.bs ?_)))))
  obtain⟨ab,ah,hb⟩:=bd hb
  refine RL.cC 0 j my ah fun ai j=>(RL.bT 0 ab j sW fun aj j=>(RL.alloc j zm.z fun ak w j=>?_))
  refine RL.bG 0 j 1 zr sW fun w j=>?_
  refine RL.nt (RC.region (mv (vi o) (RL.bA zr jN (RL.aX 0 j zr cU fF fun al j=>(RL.bE 0 ab.Xs j lM (RL.quo (ab.Xs.length:Int) 2 zr zr zr zr (RL.jC o (IntKind.wrap .i64 (Int.tdiv (ab.Xs.length:Int) 2)) (aO (vi (IntKind.wrap .i64 (o+ (IntKind.wrap .i64 (Int.tdiv (ab.Xs.length:Int) 2))))) ?_))))))))
  refine RL.nil (bU (aG (RC.region (RL.inc hk hm (mv (vi ((ad+1:Nat):Int)) (RL.nil ?_))))))
  obtain rfl:=oi hb
  exact⟨rfl,j.sp 5 [4]⟩
 rintro _ w ⟨O,rfl,j⟩
 refine aG (RC.sr (mv (vi o) (aO (vi o) (RL.nt (RC.ret ?_)))))
 obtain rfl:=oi hb
 exact cD ⟨rfl,j.drop 1⟩
def qs (E:World) (V:List HP) (b1:Nat) (res:Int×(List Int)) (v:Value) (w:World):Prop:=∃u1_0:Value,v= (vi res.1)/\Holds E w ([bc 56 b1 [u1_0],own 3 u1_0 res.2]++V)
theorem jK {p1_0: (List Int)} {res:Int×(List Int)} (j:Holds E w (bc 56 b1 [v1_0]::own 3 v1_0 p1_0::V)) (o:dR N p0 p1_0=some res):
    Calls bD 77 [(vi p0),(vp b1 0)].toArray w (gR (qs E V b1 res)):=by
 unfold dR at o
 refine enter Tryz.func77 zr zr (RC.sr (aO (vi 0) (RL.nq ?_)))
 obtain⟨an,hN,o⟩:=bd o
 refine RC.iter (fun(aa:Int×(List Int))=>SH E V [(0,vi aa.1),(1,vp b1 0)] [bc 56 b1 [v1_0],own 3 v1_0 aa.2]) (fun(aa:Int×(List Int))=>SH E V [(0,vi aa.1),(1,vp b1 0)] [bc 56 b1 [v1_0],own 3 v1_0 aa.2]) (fun(r:Empty) _ _=>r.elim) hN ?_ ?_ ?_ ?_
 ·exact j.sp 2 [0,1]
 ·rintro aa fl _ w ⟨O,rfl,j⟩ o
  refine RC.seq (RC.sr (RL.bB 0 v1_0 j fF (mv (vi aa.1) ?_)))
  obtain⟨ai,ab,o⟩:=bd o
  refine RL.bJ 1 j zr zr eF ab (RL.cO (f:=(fun x=>x)) 1 j (jv 1 j ab 0) (aY ab).2.1 Fd.self cH (mv (vi aa.1) (ic ai aa.1 (RL.nt (fq o (fun hc o=>?_) fun hc o=>?_)))))
  rotate_left
  ·refine RC.ex ?_
   obtain rfl:=oi o
   exact⟨rfl,j.sp 2 [0,1]⟩
  refine RC.sn (RC.block (RC.seq (RC.wz mixed [0,0,0,0,0,0,0,0,0,0,2] [0,1,2,3,4,5,6,7,8,9,10] ?_)))
  have j:=j.drew
  refine DP.e0 zr (RL.bB 0 v1_0 j fF (bZ zr (mv (vi aa.1) (bZ zr (RL.bB 0 v1_0 j fF (bZ zr (RL.bB 0 v1_0 j fF (bZ zr ?_))))))))
  refine mv (vi aa.1) (bZ zr ?_)
  obtain⟨aq,ad,o⟩:=bd o
  refine RL.bJ 1 j zr zr eF ad (bZ zr (RL.cO (f:=(fun x=>x)) 1 j (jv 1 j ad 0) (aY ad).2.1 Fd.self cH (bZ zr ?_)))
  obtain⟨ak,ae,o⟩:=bd o
  refine RL.bJ 1 j zr zr eF ae (bZ zr (RL.cO (f:=(fun x=>x)) 1 j (jv 1 j ae 0) (aY ae).2.1 Fd.self cH (bZ zr ?_)))
  obtain⟨ar,af,o⟩:=bd o
  refine RL.bJ 1 j zr zr eF af (sB zr ?_)
  have j:=j.sc Int ak
  refine RL.gj (f:=(fun _ y=>y)) 2 0 j (jv 2 j af 0) (aY af).2.1 zr Fs.self cH fun w j=>?_
  refine DP.d2 zt (DP.z (aG (RC.region (RL.bB 1 v1_0 j fF (mv (vi aa.1) ?_)))))
  obtain⟨al,ag,o⟩:=bd o
  refine RL.bJ 2 j zr zr eF ag (RL.cO (f:=(fun x=>x)) 2 j (jv 2 j ag 0) (aY ag).2.1 Fd.self cH (aO (vi al) (RL.nil (bU ?_))))
  obtain rfl:=oi o
  exact⟨rfl,j.sp 3 [1,2]⟩
 ·intro r _ _ _ _
  exact r.elim
 rintro aa _ w rfl ⟨O,rfl,j⟩
 rw [Fo.fZ] at o
 refine aG (RC.sr (mv (vi aa.1) (aO (vi aa.1) (RL.nt (RC.ret ?_)))))
 obtain rfl:=oi o
 exact cD ⟨v1_0,zr,j.pk 2 [0,1]⟩
def tj (E:World) (V:List HP) (res: (List (List aA))) (v:Value) (w:World):Prop:=Holds E w ([own 96 v res]++V)
theorem r7 {p0: (List aA)} {res: (List (List aA))} (o:Holds E w V) (h0:V[i0]? =some (rd v0 p0)) (hb:jz N p0=some res):
    Calls bD 51 [v0].toArray w (gR (tj E V res)):=by
 unfold jz at hb
 refine enter Tryz.func51 zr zr ?_
 have o:=o.dup (i0+0) h0
 refine RC.sr (aO (.slice none 0 0) (RL.ns (mv v0 ?_)))
 obtain⟨ao,c6,hb⟩:=bd hb
 refine RL.call zt zr FL [v0] zr (aF (kW N (i0:=0) o zr c6) ?_)
 rintro ag w o
 refine aO ag (RL.ns (mv ag (RL.fU 0 ao o pY ?_)))
 obtain⟨bm,c7,hb⟩:=bd hb
 refine RL.mk (ao.length:Int) o sV Ge c7 fun a9 w o=>?_
 refine RL.pQ zr o Gy zr fun af w o=>?_
 refine RL.g9 0 a9 o zr zr (iI 1 o) fF fun w o=>?_
 refine RL.nq (RC.sr (RL.bB 0 a9 o fF (RL.fU 1 bm o lM (mv (vi 0) (RL.nt ?_)))))
 obtain⟨bj,hN,hb⟩:=bd hb
 refine RC.fold (fun(a7:Nat) (bj: (List Int))=>SH E V [(0,v0),(3,ag),(4,vp af 0),(32,vi bm.length),(33,vi a7)] [rd v0 p0,own 49 ag ao,bc 56 af [a9],own 3 a9 bj]) (fun(bj: (List Int))=>SH E V [(0,v0),(3,ag),(4,vp af 0)] [rd v0 p0,own 49 ag ao,bc 56 af [a9],own 3 a9 bj]) hN ?_ ?_ ?_ ?_
 ·exact o.sp 4 [3,2,0,1]
 ·rintro hm bj _ w ⟨O,rfl,o⟩
  refine RC.sr (ic ((bm.length:Int)) ((bm.length:Int)) (RL.nq (RC.cT m4 (RC.ex ?_))))
  exact⟨rfl,o.sp 4 [0,1,2,3]⟩
 ·rintro hm a7 bj s' _ w hk ⟨O,rfl,o⟩ hb
  refine RC.sr (ic ((a7:Int)) ((bm.length:Int)) (RL.nq (RC.cS (m0 hk) (RC.ss (RC.bs (mv (vi a7) (aO (vi a7) (RL.nt ?_))))))))
  refine RC.region (RL.bB 2 a9 o fF (mv (vi a7) (mv (vi a7) ?_)))
  obtain⟨dt,ca,hb⟩:=bd hb
  refine RL.bJ 3 o zr zr eF ca ?_
  have o:=o.sc Int (a7:Int)
  refine RL.gj (f:=(fun _ y=>y)) 4 0 o (jv 4 o ca 0) (aY ca).2.1 zr Fs.self cH fun w o=>?_
  refine RL.nil (bU (aG (RC.region (RL.inc hk hm (mv (vi ((a7+1:Nat):Int)) (RL.nil ?_))))))
  obtain rfl:=oi hb
  exact⟨rfl,o.sp 5 [1,2,3,4]⟩
 rintro _ w ⟨O,rfl,o⟩
 refine aG (RC.sr (RL.makeFunc [(vp af 0)] (aO (.func (.func 77) #[] #[(vp af 0)]) (RL.ns (aO (vi 0) (aO (vi 0) (RL.nq (RC.sr ?_))))))))
 refine mv v0 (RL.bE 0 p0 o rk (mv (vi 0) (RL.nt ?_)))
 obtain⟨ab,hN,hb⟩:=bd hb
 refine RC.fold (fun(ax:Nat) (ab: (List Int)×Int×Int) U w=>∃cr:Value,SH E V [(0,v0),(3,ag),(4,vp af 0),(6,(.func (.func 77) #[] #[(vp af 0)])),(7,vi ab.2.1),(8,vi ab.2.2),(42,v0),(43,vi p0.length),(44,vi ax)] [rd v0 p0,own 49 ag ao,bc 56 af [cr],own 3 cr ab.1] U w) (fun(ab: (List Int)×Int×Int) U w=>∃bq:Value,SH E V [(3,ag),(6,(.func (.func 77) #[] #[(vp af 0)]))] [rd v0 p0,own 49 ag ao,bc 56 af [bq],own 3 bq ab.1] U w) hN ?_ ?_ ?_ ?_
 ·exact⟨a9,o.sp 4 [0,1,2,3]⟩
 ·rintro hm ab _ w ⟨c8,O,rfl,o⟩
  refine RC.sr (ic ((p0.length:Int)) ((p0.length:Int)) (RL.nq (RC.cT m4 (RC.ex ?_))))
  exact⟨rfl,c8,o.sp 4 [0,1,2,3]⟩
 ·rintro hm ax ab s' _ w hk ⟨br,O,rfl,o⟩ hb
  refine RC.sr (ic ((ax:Int)) ((p0.length:Int)) (RL.nq (RC.cS (m0 hk) (RC.ss (RC.bs (mv (vi ax) ?_))))))
  obtain⟨al,c9,hb⟩:=bd hb
  refine RL.cC 0 o my c9 fun du o=>(RL.bT 0 al o sW fun dv o=>(RL.alloc o zm.z fun dw w o=>?_))
  refine aO (vi ax) (RL.bG 0 o 1 zr sW fun w o=>?_)
  refine RL.ns (RL.bA zr jN (RL.aX 0 o zr cU fF fun dx o=>(RL.bE 0 al.Xs o lM (RL.quo (al.Xs.length:Int) 2 zr zr zr zr (aO (vi (IntKind.wrap .i64 (Int.tdiv (al.Xs.length:Int) 2))) (RL.nq (RC.seq ?_)))))))
  obtain⟨cb,hj,hb⟩:=bd hb
  refine RC.jn (fun(cb:Bool)=>SH E V [(0,v0),(3,ag),(4,vp af 0),(6,(.func (.func 77) #[] #[(vp af 0)])),(7,vi ab.2.1),(8,vi ab.2.2),(11,(vi (IntKind.wrap .i64 (Int.tdiv (al.Xs.length:Int) 2)))),(42,v0),(43,vi p0.length),(44,vi ax),(65,vb cb)] [rd v0 p0,own 49 ag ao,bc 56 af [br],own 3 br ab.1]) cb ?_ ?_
  ·refine RC.wy mixed ?_
   have o:=o.drew
   refine RO.go (mv (vi ax) (RO.nx (ic ((ax:Int)) 0 (RO.nx (mv (vb (decide ((ax:Int)>0))) (gv hj (fun av hj=>?_) fun av hj=>?_))))))
   rotate_left
   ·refine RO.nx (bS av (RO.nx (bS av (RO.nx (bS av (RO.nx (bS av (RO.nx ?_))))))))
    refine bS av (RO.nx (bS av (RO.nx (bS av (RO.nx (bS av (RO.nx (bS av ?_))))))))
    refine RO.nx (gx av (vb false) (RO.last ?_))
    obtain rfl:=oi hj
    exact⟨rfl,o.sp 8 [4,5,6,7]⟩
   refine RO.nx (RL.move v0 (cg av) (RO.nx (RL.move (vi ax) (cg av) (RO.nx (RL.jC (hg:=(cg av)) (ax:Int) 1 (RO.nx ?_))))))
   obtain⟨cc,da,hj⟩:=bd hj
   refine RL.cC (hg:=(cg av)) 4 o my da fun dy o=>(RO.nx (RL.gS (hg:=(cg av)) 0 o zr kR dV fun dz o=>(RO.nx (RL.bK (hg:=(cg av)) cc.Y1 0 o cH (RO.nx (RL.bA (hg:=(cg av)) zr mR (RO.nx (RL.aN (hg:=(cg av)) 3 o zr fz cH ?_))))))))
   refine RO.nx (RL.jP cc.Y1 al.Y0 (cg av) (RO.nx (gx av (vb (cc.Y1==al.Y0)) (RO.last ?_))))
   obtain rfl:=oi hj
   exact⟨rfl,o.sp 10 [6,7,8,9]⟩
  rintro _ w ⟨O,rfl,o⟩
  refine aG ?_
  obtain⟨cd,hj,hb⟩:=bd hb
  refine RC.jn (fun(cd: (List Int)) U w=>∃bt:Value,SH E V [(0,v0),(3,ag),(4,vp af 0),(6,(.func (.func 77) #[] #[(vp af 0)])),(7,vi ab.2.1),(11,(vi (IntKind.wrap .i64 (Int.tdiv (al.Xs.length:Int) 2)))),(42,v0),(43,vi p0.length),(44,vi ax)] [rd v0 p0,own 49 ag ao,bc 56 af [bt],own 3 bt cd] U w) cd ?_ ?_
  ·refine fq hj (fun hc hj=>?_) fun hc hj=>?_
   rotate_left
   ·refine RC.skip ?_
    obtain rfl:=oi hj
    exact⟨rfl,br,o.sp 4 [0,1,2,3]⟩
   refine RC.sr (mv (vi ab.2.2) (mv (vi ab.2.1) (aO (vi ab.2.2) (aO (vi ab.2.1) (RL.nt ?_)))))
   obtain⟨d0,hN,hj⟩:=bd hj
   refine RC.iter (fun(ad: (List Int)×Int×Int) U w=>∃ct:Value,SH E V [(0,v0),(3,ag),(4,vp af 0),(6,(.func (.func 77) #[] #[(vp af 0)])),(7,vi ab.2.1),(11,(vi (IntKind.wrap .i64 (Int.tdiv (al.Xs.length:Int) 2)))),(12,vi ad.2.1),(13,vi ad.2.2),(42,v0),(43,vi p0.length),(44,vi ax)] [rd v0 p0,own 49 ag ao,bc 56 af [ct],own 3 ct ad.1] U w) (fun(ad: (List Int)×Int×Int) U w=>∃bu:Value,SH E V [(0,v0),(3,ag),(4,vp af 0),(6,(.func (.func 77) #[] #[(vp af 0)])),(7,vi ab.2.1),(11,(vi (IntKind.wrap .i64 (Int.tdiv (al.Xs.length:Int) 2)))),(42,v0),(43,vi p0.length),(44,vi ax)] [rd v0 p0,own 49 ag ao,bc 56 af [bu],own 3 bu ad.1] U w) (fun(r:Empty) _ _=>r.elim) hN ?_ ?_ ?_ ?_
   ·exact⟨br,o.sp 4 [0,1,2,3]⟩
   ·rintro ad fl _ w ⟨bw,O,rfl,o⟩ hb
    refine RC.seq (RC.sr (mv (vi ad.2.1) (mv (vi ab.2.1) (ic ad.2.1 ab.2.1 (mv (vb (decide (ad.2.1<ab.2.1))) (RL.gs true (decide (ad.2.1<ab.2.1)) (vi ad.2.2) zr zr zr eC (RL.gs true (decide (ad.2.1<ab.2.1)) (vi ab.2.1) zr zr zr eC (RL.gs true (decide (ad.2.1<ab.2.1)) (vi (IntKind.wrap .i64 (Int.tdiv (al.Xs.length:Int) 2))) zr zr zr eC ?_))))))))
    refine RL.gs true (decide (ad.2.1<ab.2.1)) (vi (IntKind.wrap .i64 (ab.2.1+ (IntKind.wrap .i64 (Int.tdiv (al.Xs.length:Int) 2))))) rfl rfl rfl (Fm (bop:= .add) (K:= .i64) (a:=ab.2.1) (b:=(IntKind.wrap .i64 (Int.tdiv (al.Xs.length:Int) 2))) rfl (fun h=>by exact(cR h:cv (true&&((decide (ad.2.1<ab.2.1))==true)) (vi ab.2.1)= (vi ab.2.1))) (fun h=>by exact(cR h:cv (true&&((decide (ad.2.1<ab.2.1))==true)) (vi (IntKind.wrap .i64 (Int.tdiv (al.Xs.length:Int) 2)))= (vi (IntKind.wrap .i64 (Int.tdiv (al.Xs.length:Int) 2))))) rfl) (RL.gs true (decide (ad.2.1<ab.2.1)) (vb (decide (ad.2.2< (IntKind.wrap .i64 (ab.2.1+ (IntKind.wrap .i64 (Int.tdiv (al.Xs.length:Int) 2))))))) rfl rfl rfl (eP .lss .i64 ad.2.2 (IntKind.wrap .i64 (ab.2.1+ (IntKind.wrap .i64 (Int.tdiv (al.Xs.length:Int) 2)))) rfl (fun h=>by exact(cR h:cv (true&&((decide (ad.2.1<ab.2.1))==true)) (vi ad.2.2)= (vi ad.2.2))) (fun h=>by exact(cR h:cv (true&&((decide (ad.2.1<ab.2.1))==true)) (vi (IntKind.wrap .i64 (ab.2.1+ (IntKind.wrap .i64 (Int.tdiv (al.Xs.length:Int) 2)))))= (vi (IntKind.wrap .i64 (ab.2.1+ (IntKind.wrap .i64 (Int.tdiv (al.Xs.length:Int) 2))))))) rfl) (RL.pick (decide (ad.2.1<ab.2.1)) (vb ((decide (ad.2.1<ab.2.1))&&(decide (ad.2.2< (IntKind.wrap .i64 (ab.2.1+ (IntKind.wrap .i64 (Int.tdiv (al.Xs.length:Int) 2)))))))) (iX true) (RL.nt (fq hb (fun hc hb=>?_) fun hc hb=>?_))))
    rotate_left
    ·refine RC.ex ?_
     obtain rfl:=oi hb
     exact⟨rfl,bw,o.sp 4 [0,1,2,3]⟩
    refine RC.sn (RC.block (RC.seq (RC.seq ?_)))
    obtain⟨cf,hj,hb⟩:=bd hb
    refine RC.jn (fun(cf:Bool)=>SH E V [(0,v0),(3,ag),(4,vp af 0),(6,(.func (.func 77) #[] #[(vp af 0)])),(7,vi ab.2.1),(11,(vi (IntKind.wrap .i64 (Int.tdiv (al.Xs.length:Int) 2)))),(12,vi ad.2.1),(13,vi ad.2.2),(42,v0),(43,vi p0.length),(44,vi ax),(101,vb cf)] [rd v0 p0,own 49 ag ao,bc 56 af [bw],own 3 bw ad.1]) cf ?_ ?_
    ·refine RC.wy mixed ?_
     have o:=o.drew
     refine RO.go (mv ag (RO.nx (mv (vi ad.2.1) (RO.nx ?_))))
     obtain⟨cu,bz,hj⟩:=bd hj
     refine RL.bJ 1 o zr zr lq bz (RO.nx (RL.mq (α:=aI) (jv 1 o bz 0) jm (RO.nx (RL.cO 1 o (jv 1 o bz 0) (aY bz).2.1 eX cH (RO.nx (mv ag (RO.nx (mv (vi ad.2.2) ?_))))))))
     refine RO.nx ?_
     obtain⟨cw,b0,hj⟩:=bd hj
     refine RL.bJ 1 o zr zr lq b0 (RO.nx (RL.mq (α:=aI) (jv 1 o b0 0) j4 (RO.nx (RL.cO 1 o (jv 1 o b0 2) (aY b0).2.1 fY cH (RO.nx (ic cu.X0 cw.X1 (RO.nx (mv (vb (decide (cu.X0<cw.X1))) ?_))))))))
     refine gv hj (fun an hj=>?_) fun an hj=>?_
     rotate_left
     ·refine RO.nx (bS an (RO.nx (bS an (RO.nx (bS an (RO.nx (bS an (RO.nx ?_))))))))
      refine bS an (RO.nx (bS an (RO.nx (bS an (RO.nx (bS an (RO.nx (bS an ?_))))))))
      refine RO.nx (bS an (RO.nx (bS an (RO.nx (gx an (vb false) (RO.last ?_))))))
      obtain rfl:=oi hj
      exact⟨rfl,o.sp 4 [0,1,2,3]⟩
     refine RO.nx (RL.move ag (cg an) (RO.nx (RL.move (vi ad.2.2) (cg an) (RO.nx ?_))))
     obtain⟨cx,b1,hj⟩:=bd hj
     refine RL.bJ (hg:=(cg an)) 1 o zr zr lq b1 (RO.nx (RL.mq (hg:=(cg an)) (α:=aI) (jv 1 o b1 0) jm (RO.nx (RL.cO (hg:=(cg an)) 1 o (jv 1 o b1 0) (aY b1).2.1 eX cH (RO.nx (RL.move ag (cg an) (RO.nx (RL.move (vi ad.2.1) (cg an) ?_))))))))
     refine RO.nx ?_
     obtain⟨cy,b2,hj⟩:=bd hj
     refine RL.bJ (hg:=(cg an)) 1 o zr zr lq b2 (RO.nx (RL.mq (hg:=(cg an)) (α:=aI) (jv 1 o b2 0) j4 (RO.nx (RL.cO (hg:=(cg an)) 1 o (jv 1 o b2 2) (aY b2).2.1 fY cH (RO.nx (RL.jP cx.X0 cy.X1 (cg an) (RO.nx (gx an (vb (decide (cx.X0<cy.X1))) ?_))))))))
     refine RO.last ?_
     obtain rfl:=oi hj
     exact⟨rfl,o.sp 4 [0,1,2,3]⟩
    rintro _ w ⟨O,rfl,o⟩
    refine aG ?_
    obtain⟨b3,hj,hb⟩:=bd hb
    refine RC.jn (fun(b3: (List Int)) U w=>∃bk:Value,SH E V [(0,v0),(3,ag),(4,vp af 0),(6,(.func (.func 77) #[] #[(vp af 0)])),(7,vi ab.2.1),(11,(vi (IntKind.wrap .i64 (Int.tdiv (al.Xs.length:Int) 2)))),(12,vi ad.2.1),(13,vi ad.2.2),(42,v0),(43,vi p0.length),(44,vi ax)] [rd v0 p0,own 49 ag ao,bc 56 af [bk],own 3 bk b3] U w) b3 ?_ ?_
    ·refine fq hj (fun hc hj=>?_) fun hc hj=>?_
     rotate_left
     ·refine RC.skip ?_
      obtain rfl:=oi hj
      exact⟨rfl,bw,o.sp 4 [0,1,2,3]⟩
     refine RC.sr (mv (.func (.func 77) #[] #[(vp af 0)]) (mv (vi ad.2.1) ?_))
     have o:=(o.pull 3).pull 3
     obtain⟨bb,db,hj⟩:=bd hj
     refine RL.pw [(vp af 0)] FQ [(vi ad.2.1)] (aF (jK N (p0:=ad.2.1) o db) ?_)
     rintro _ w ⟨d4,rfl,o⟩
     refine mv (.func (.func 77) #[] #[(vp af 0)]) (mv (vi ad.2.2) ?_)
     have o:=(o.pull 1).pull 1
     obtain⟨bf,dc,hj⟩:=bd hj
     refine RL.pw [(vp af 0)] FQ [(vi ad.2.2)] (aF (jK N (p0:=ad.2.2) o dc) ?_)
     rintro _ w ⟨cz,rfl,o⟩
     refine aO (vi bb.1) (aO (vi bf.1) (RL.nt (RC.region (RL.bB 0 cz o fF (mv (vi bb.1) (mv (vi bf.1) (RL.max bb.1 bf.1 (mv (vi bb.1) ?_))))))))
     refine mv (vi bf.1) (RL.min bb.1 bf.1 ?_)
     obtain⟨d5,ch,hj⟩:=bd hj
     refine RL.bJ 1 o zr zr eF ch ?_
     have o:=o.sc Int (if bf.1<bb.1 then bf.1 else bb.1)
     refine RL.gj (f:=(fun _ y=>y)) 2 0 o (jv 2 o ch 0) (aY ch).2.1 zr Fs.self cH fun w o=>?_
     refine RL.nil ?_
     obtain rfl:=oi hj
     exact⟨rfl,cz,o.sp 9 [5,6,1,2]⟩
    rintro _ w ⟨bk,O,rfl,o⟩
    refine aG (RC.seq (RC.wy mixed ?_))
    have o:=o.drew
    refine RO.go (mv ag (RO.nx (mv (vi ad.2.1) (RO.nx ?_))))
    obtain⟨dd,b4,hb⟩:=bd hb
    refine RL.bJ 1 o zr zr lq b4 (RO.nx (RL.mq (α:=aI) (jv 1 o b4 0) j4 (RO.nx (RL.cO 1 o (jv 1 o b4 2) (aY b4).2.1 fY cH (RO.nx (mv ag (RO.nx (mv (vi ad.2.2) ?_))))))))
    refine RO.nx ?_
    obtain⟨de,b5,hb⟩:=bd hb
    refine RL.bJ 1 o zr zr lq b5 (RO.nx (RL.mq (α:=aI) (jv 1 o b5 0) j4 (RO.nx (RL.cO 1 o (jv 1 o b5 2) (aY b5).2.1 fY cH (RO.nx (ic dd.X1 de.X1 (RO.last (aG ?_))))))))
    obtain⟨b6,hj,hb⟩:=bd hb
    refine RC.jn (fun(b6:Int×Int)=>SH E V [(0,v0),(3,ag),(4,vp af 0),(6,(.func (.func 77) #[] #[(vp af 0)])),(7,vi ab.2.1),(11,(vi (IntKind.wrap .i64 (Int.tdiv (al.Xs.length:Int) 2)))),(12,vi b6.1),(13,vi b6.2),(42,v0),(43,vi p0.length),(44,vi ax)] [rd v0 p0,own 49 ag ao,bc 56 af [bk],own 3 bk b3]) b6 ?_ ?_
    ·refine fq hj (fun hc hj=>?_) fun hc hj=>?_
     ·refine RC.region (mv (vi ad.2.1) (RL.jC ad.2.1 1 (aO (vi (IntKind.wrap .i64 (ad.2.1+1))) (RL.nil ?_))))
      obtain rfl:=oi hj
      exact⟨rfl,o.sp 4 [0,1,2,3]⟩
     refine RC.region (mv (vi ad.2.2) (RL.jC ad.2.2 1 (aO (vi (IntKind.wrap .i64 (ad.2.2+1))) (RL.nil ?_))))
     obtain rfl:=oi hj
     exact⟨rfl,o.sp 4 [0,1,2,3]⟩
    rintro _ w ⟨O,rfl,o⟩
    refine bU ?_
    obtain rfl:=oi hb
    exact⟨rfl,bk,o.sp 4 [0,1,2,3]⟩
   ·intro r _ _ _ _
    exact r.elim
   rintro ad _ w rfl ⟨bu,O,rfl,o⟩
   rw [Fo.fZ] at hj
   obtain rfl:=oi hj
   exact⟨rfl,bu,o.sp 4 [0,1,2,3]⟩
  rintro _ w ⟨bt,O,rfl,o⟩
  refine aG (RC.region (mv (vi ab.2.1) (mv (vi ab.2.1) (mv (vi (IntKind.wrap .i64 (Int.tdiv (al.Xs.length:Int) 2))) (RL.jC ab.2.1 (IntKind.wrap .i64 (Int.tdiv (al.Xs.length:Int) 2)) (aO (vi ab.2.1) (aO (vi (IntKind.wrap .i64 (ab.2.1+ (IntKind.wrap .i64 (Int.tdiv (al.Xs.length:Int) 2))))) (RL.nil ?_))))))))
  refine bU (aG (RC.region (RL.inc hk hm (mv (vi ((ax+1:Nat):Int)) (RL.nil ?_)))))
  obtain rfl:=oi hb
  exact⟨rfl,bt,o.sp 4 [0,1,2,3]⟩
 rintro _ w ⟨bq,O,rfl,o⟩
 refine aG (RC.sr (RL.makeMap (κ:=Int) (ν:=Int) zr o fun a5 w o=>(aO a5 (RL.ns (aO (.slice none 0 0) (RL.nq (RC.sr (mv ag ?_))))))))
 refine RL.fU 2 ao o pY (mv (vi 0) (RL.nt ?_))
 obtain⟨aj,hN,hb⟩:=bd hb
 refine RC.fold (fun(a4:Nat) (aj: (List Int)×(List (Int×Int))×(List (List aI))) U w=>∃(c0 c1:Value) (us939:List RV),SH E V [(6,(.func (.func 77) #[] #[(vp af 0)])),(16,a5),(17,c1),(137,ag),(138,vi ao.length),(139,vi a4)] [bc 56 af [c0],own 3 c0 aj.1,mp a5 aj.2.1,own 49 ag ao,own 23 c1 us939,iv (XS 49 aI) us939 aj.2.2 none] U w) (fun(aj: (List Int)×(List (Int×Int))×(List (List aI))) U w=>∃(cj bg:Value) (us942:List RV),SH E V [(17,bg)] [bc 56 af [cj],own 3 cj aj.1,mp a5 aj.2.1,own 49 ag ao,own 23 bg us942,iv (XS 49 aI) us942 aj.2.2 none] U w) hN ?_ ?_ ?_ ?_
 ·have o:=(o.xJ (XS 49 aI)).dH RV 23
  exact⟨bq,(.slice none 0 0),([]:List RV),o.sp 7 [5,6,2,4,0,1]⟩
 ·rintro hm aj _ w ⟨df,dg,us987,O,rfl,o⟩
  refine RC.sr (ic ((ao.length:Int)) ((ao.length:Int)) (RL.nq (RC.cT m4 (RC.ex ?_))))
  exact⟨rfl,df,dg,us987,o.sp 6 [0,1,2,3,4,5]⟩
 ·rintro hm a4 aj s' _ w hk ⟨d6,ck,us945,O,rfl,o⟩ hb
  refine RC.sr (ic ((a4:Int)) ((ao.length:Int)) (RL.nq (RC.cS (m0 hk) (RC.ss (RC.bs (mv (vi a4) ?_))))))
  obtain⟨ba,cl,hb⟩:=bd hb
  refine RL.bJ 3 o zr zr lq cl (RL.kP (f:=(fun x=>x)) 3 o (jv 3 o cl 0) (aY cl).2.1 Fd.self iz fun d7 o=>?_)
  refine RL.alloc o n9.z fun b7 w o=>?_
  refine aO (vi a4) (RL.bG 0 o 1 zr iz fun w o=>?_)
  refine RL.ns (mv (.func (.func 77) #[] #[(vp af 0)]) (mv (vi a4) ?_))
  have o:=(o.pull 3).pull 3
  obtain⟨a1,dh,hb⟩:=bd hb
  refine RL.pw [(vp af 0)] FQ [(vi a4)] (aF (jK N (p0:=(a4:Int)) o dh) ?_)
  rintro _ w ⟨bn,rfl,o⟩
  refine aO (vi a1.1) (RL.ns (mv a5 (mv (vi a1.1) (RL.yQ 6 a1.1 zt zr o zr zr zr zo (mv (.tuple #[(vi (cZ aj.2.1 a1.1 (0:Int))),(vb (iu aj.2.1 a1.1))]) (RL.extract (vi (cZ aj.2.1 a1.1 (0:Int))) (RL.extract (vb (iu aj.2.1 a1.1)) (aO (vi (cZ aj.2.1 a1.1 (0:Int))) ?_))))))))
  refine aO (vb (iu aj.2.1 a1.1)) (RL.nq (RC.sr (mv (vb (iu aj.2.1 a1.1)) (RL.not (iu aj.2.1 a1.1) (RL.nt ?_)))))
  obtain⟨ae,hj,hb⟩:=bd hb
  refine RC.jn (fun(ae: (List (Int×Int))×(List (List aI))×Int) U w=>∃(a0:Value) (us956:List RV),SH E V [(6,(.func (.func 77) #[] #[(vp af 0)])),(16,a5),(17,a0),(19,vp b7 0),(21,vi ae.2.2),(137,ag),(138,vi ao.length),(139,vi a4)] [bc 56 af [bn],own 3 bn a1.2,mp a5 ae.1,bx 49 b7 ba,own 49 ag ao,own 23 a0 us956,iv (XS 49 aI) us956 ae.2.1 none] U w) ae ?_ ?_
  ·refine fq hj (fun hc hj=>?_) fun hc hj=>?_
   rotate_left
   ·refine RC.skip ?_
    obtain rfl:=oi hj
    exact⟨rfl,ck,us945,o.sp 10 [0,1,6,2,7,8,9]⟩
   refine RC.sr (mv ck (RL.pR 8 9 aj.2.2 zr o zr zr zr zk (aO (vi aj.2.2.length) (RL.ns (mv a5 (mv (vi a1.1) (mv (vi aj.2.2.length) ?_)))))))
   have o:=o.sc Int (aj.2.2.length:Int)
   refine RL.mapUpdate 7 0 a1.1 o zr zr zr zr zr zo fun w o=>(RL.nt (RC.region (mv ck ?_)))
   have o:=(o.dH aI 49).A2 (i:=0) rfl
   refine RL.eY ([rv (.slice none 0 0)]:List RV) o [(.slice none 0 0)] Ap GU (fun M hs g=>⟨(g.sat 0 _ zr).1,zt⟩) fun d8 w o=>?_
   obtain⟨d9,di,hj⟩:=bd hj
   have o:=o.freeze 0
   refine RL.yY 12 0 13 2 zt zr o zr zr zr zr zr zr IA di fun c2 w o=>?_
   refine aO c2 (RL.nil ?_)
   obtain rfl:=oi hj
   exact⟨rfl,c2,(us945++[rv (.slice none 0 0)]),o.sp 14 [4,5,10,6,11,12,13]⟩
  rintro _ w ⟨a0,us956,O,rfl,o⟩
  refine aG ?_
  obtain⟨ea,b8,hb⟩:=bd hb
  obtain⟨bh,dj,hb⟩:=bd hb
  obtain⟨eb,cm,hb⟩:=bd hb
  refine RC.CA E V mixed [1,1,1,1,0,0,0,0,0,0,0] [6,7,8,10] (fun(x:Value×Value×Value)=>(fun ay aw ak=>[(0,163,a0),(1,164,(vi ae.2.2)),(2,165,a0),(3,166,(vi ae.2.2)),(4,167,(yz a0 (Int.toNat ae.2.2) 1 0)),(5,168,(us956.getD (Int.toNat ae.2.2) yA).v),(6,169,ay),(7,170,aw),(8,171,ak),(9,172,(yz a0 (Int.toNat ae.2.2) 1 0))]) x.1 x.2.1 x.2.2) [(6,(.func (.func 77) #[] #[(vp af 0)])),(16,a5),(17,a0),(19,vp b7 0),(21,vi ae.2.2),(137,ag),(138,vi ao.length),(139,vi a4)] [] (fun(D:Nat->Bool) (x:Value×Value×Value)=>(fun ay aw ak=>[bif D 0 then (rd ay ba) else aV,bif D 2 then (rd aw ([ba]: (List aI))) else (bif D 1 then (own 49 aw ([ba]: (List aI))) else aV),bif D 3 then aV else (bif D 2 then (own 49 ak bh) else aV),bc 56 af [bn],own 3 bn a1.2,mp a5 ae.1,bx 49 b7 ba,own 49 ag ao,bif D 3 then (own 23 a0 (us956.set (Int.toNat ae.2.2) (rv ak))) else (own 23 a0 us956),bif D 3 then (iv (XS 49 aI) (us956.set (Int.toNat ae.2.2) (rv ak)) (ae.2.1.set (Int.toNat ae.2.2) bh) none) else (bif D 2 then (iv (XS 49 aI) us956 ae.2.1 (some (Int.toNat ae.2.2))) else (iv (XS 49 aI) us956 ae.2.1 none))]) x.1 x.2.1 x.2.2) (fun x=>by kernel_rfl) ?_ ⟨fun _=>jd gn,fun _=>jd gn,fun _=>jd gn,fun _=>jd gn,?_,?_,?_,?_,?_,?_,?_,trivial⟩ ?_
  ·have o:=(((o.drew).aV).aV).aV
   exact⟨(undef,undef,undef),dY.none,(Ba zr),zt,o⟩
  ·rintro D U w hD ar ai ⟨⟨ay,aw,ak⟩,hv,ha,_,o⟩
   obtain⟨O,rfl⟩:=(ac (hv.at 2 rfl (ar.1 rfl)) (ac (hv.at 3 rfl (ar.2.1 rfl)) az)).eU
   have o:=((o.bV 8 (nh ai hD 10)).bV 9 (nh ai hD 10)).bV 9 (nf (fun h=>ft hD ((ai 5 _ rfl ((ai 8 _ rfl h).1 rfl)).1 rfl)))
   have hl974:=o.gD 9 rfl
   have hr975:=jh yA hl974 b8
   refine RL.bJ 8 o zr zr Ap hr975 ?_
   have o:=(o.eR 8 (D 10) (nh ai hD 10) (own 23 a0 (us956.set (Int.toNat ae.2.2) (rv ak)))).eR 9 (D 8) (nf (fun h=>ft hD ((ai 5 _ rfl ((ai 8 _ rfl h).1 rfl)).1 rfl))) (iv (XS 49 aI) us956 ae.2.1 (some (Int.toNat ae.2.2)))
   have o:=o.eR 9 (D 10) (nh ai hD 10) (iv (XS 49 aI) (us956.set (Int.toNat ae.2.2) (rv ak)) (ae.2.1.set (Int.toNat ae.2.2) bh) none)
   exact RL.nil ⟨rfl,(ay,aw,ak),hv.pu 4,ha.u,zt,o⟩
  ·rintro D U w hD ar ai ⟨⟨ay,aw,ak⟩,hv,ha,_,o⟩
   obtain⟨O,rfl⟩:=(ac (hv.at 4 rfl (ar.1 rfl)) az).eU
   have o:=((o.bV 8 (nh ai hD 10)).bV 9 (nh ai hD 10)).bV 9 (nh ai hD 8)
   have hl976:=o.gD 9 rfl
   have hr977:=jh yA hl976 b8
   refine RL.tP 8 9 ae.2.2 (w6 49 aI) yA zr o zr (jv 8 o hr977 0) zr zr b8 xU ?_
   have o:=(o.eR 8 (D 10) (nh ai hD 10) (own 23 a0 (us956.set (Int.toNat ae.2.2) (rv ak)))).eR 9 (D 8) (nh ai hD 8) (iv (XS 49 aI) us956 ae.2.1 (some (Int.toNat ae.2.2)))
   have o:=o.eR 9 (D 10) (nh ai hD 10) (iv (XS 49 aI) (us956.set (Int.toNat ae.2.2) (rv ak)) (ae.2.1.set (Int.toNat ae.2.2) bh) none)
   exact RL.nil ⟨rfl,(ay,aw,ak),hv.pu 5,ha.u,zt,o⟩
  ·rintro D U w hD ar ai ⟨⟨ay,aw,ak⟩,hv,ha,_,o⟩
   obtain⟨O,rfl⟩:=(ac (ha.at 3 rfl) az).eU
   have o:=o.bV 0 hD
   refine RL.aX (f:=(fun x=>x)) 6 o zr Fd.self iz fun dk o=>?_
   have o:=(o.pl 11 [0,2,3,4,5,6,7,8,9,10]).cF 0 true aV
   exact RL.nil ⟨rfl,(dk,aw,ak),hv.pu 6,ha.u,zt,o⟩
  ·rintro D U w hD ar ai ⟨⟨ay,aw,ak⟩,hv,ha,_,o⟩
   obtain⟨O,rfl⟩:=(ac (hv.at 6 rfl (ar.1 rfl)) az).eU
   have o:=((o.cE 0 (ar.1 rfl)).bV 1 (nh ai hD 8)).bV 1 hD
   refine RL.eY ([ba]: (List aI)) o [ay] lq n9 (fun M hs g=>⟨(g.sat 0 _ zr).1,zt⟩) fun c3 w o=>?_
   have o:=(((o.pl 11 [1,0,3,4,5,6,7,8,9,10]).cF (hb:=ar.1 rfl) 0 (D 6) aV).cF 1 true aV).eR 1 (D 8) (nh ai hD 8) (rd c3 ([ba]: (List aI)))
   exact RL.nil ⟨rfl,(ay,c3,ak),hv.pu 7,ha.u,zt,o⟩
  ·rintro D U w hD ar ai ⟨⟨ay,aw,ak⟩,hv,ha,_,o⟩
   obtain⟨O,rfl⟩:=(ac (hv.at 5 rfl (ar.1 rfl)) (ac (hv.at 7 rfl (ar.2.1 rfl)) az)).eU
   have o:=(((((((o.bV 1 hD).cE 1 (ar.2.1 rfl)).bV 2 (nh ai hD 10)).bV 2 hD).bV 8 (nh ai hD 10)).bV 9 (nh ai hD 10)).bV 9 hD).xK (j:=9) (jj:=ae.2.2) (w6 49 aI) yA rfl b8
   have o:=o.freeze 2
   refine RL.app 0 2 o BU dj fun cn w o=>?_
   have o:=((((o.pl 11 [1,2,0,4,5,6,7,8,9,10]).cF 1 true (bif D 7 then (own 49 aw ([ba]: (List aI))) else aV)).cF 2 true aV).eR 2 (D 10) (nh ai hD 10) aV).eR 8 (D 10) (nh ai hD 10) (own 23 a0 (us956.set (Int.toNat ae.2.2) (rv cn)))
   have o:=(o.cF 9 true (iv (XS 49 aI) us956 ae.2.1 none)).eR 9 (D 10) (nh ai hD 10) (iv (XS 49 aI) (us956.set (Int.toNat ae.2.2) (rv cn)) (ae.2.1.set (Int.toNat ae.2.2) bh) none)
   exact RL.nil ⟨rfl,(ay,aw,cn),hv.pu 8,ha.u,zt,o⟩
  ·rintro D U w hD ar ai ⟨⟨ay,aw,ak⟩,hv,ha,_,o⟩
   obtain⟨O,rfl⟩:=(ac (hv.at 0 rfl (ar.1 rfl)) (ac (hv.at 1 rfl (ar.2.1 rfl)) az)).eU
   have o:=((o.bV 8 (nh ai hD 10)).bV 9 (nh ai hD 10)).cE 9 (ar.2.2.2.2.2.2.2.2.2.2.1 rfl)
   have hl981:=o.gD 9 rfl
   have hr982:=jh yA hl981 cm
   refine RL.bJ 8 o zr zr Ap hr982 ?_
   have o:=((o.eR 8 (D 10) (nh ai hD 10) (own 23 a0 (us956.set (Int.toNat ae.2.2) (rv ak)))).cF (hb:=ar.2.2.2.2.2.2.2.2.2.2.1 rfl) 9 (D 8) (iv (XS 49 aI) us956 ae.2.1 none)).eR 9 (D 10) (nh ai hD 10) (iv (XS 49 aI) (us956.set (Int.toNat ae.2.2) (rv ak)) (ae.2.1.set (Int.toNat ae.2.2) bh) none)
   exact RL.nil ⟨rfl,(ay,aw,ak),hv.pu 9,ha.u,zt,o⟩
  ·rintro D U w hD ar ai ⟨⟨ay,aw,ak⟩,hv,ha,_,o⟩
   obtain⟨O,rfl⟩:=(ac (hv.at 8 rfl (ar.2.1 rfl)) (ac (hv.at 9 rfl (ar.1 rfl)) az)).eU
   have o:=((((o.bV 2 hD).cE 2 (ar.2.1 rfl)).bV 8 hD).bV 9 hD).cE 9 (ar.2.1 rfl)
   have hl983:=o.gD 9 rfl
   have hr984:=jh yA hl983 cm
   refine RL.rR 8 9 2 ae.2.2 (w6 49 aI) yA o zr zr (jv 8 o hr984 0) zr zr zr cm xU fun w o=>?_
   have o:=((o.cF 2 true (bif D 8 then (own 49 ak bh) else aV)).cF 8 true (own 23 a0 us956)).cF 9 true (bif D 8 then (iv (XS 49 aI) us956 ae.2.1 (some (Int.toNat ae.2.2))) else (iv (XS 49 aI) us956 ae.2.1 none))
   exact RL.nil ⟨rfl,(ay,aw,ak),hv.n1,ha,zt,o⟩
  rintro D U w bo ⟨⟨ay,aw,ak⟩,hv,ha,_,o⟩
  have o:=((((o.cE 0 (jy bo 6)).cE 1 (jy bo 8)).cE 2 (jy bo 10)).cE 8 (jy bo 10)).cE 9 (jy bo 10)
  obtain⟨O,rfl⟩:=(ac (ha.at 0 rfl) (ac (ha.at 1 rfl) (ac (ha.at 2 rfl) (ac (ha.at 3 rfl) (ac (ha.at 4 rfl) (ac (ha.at 5 rfl) (ac (ha.at 6 rfl) (ac (ha.at 7 rfl) az)))))))).eU
  refine bU (aG (RC.region (RL.inc hk hm (mv (vi ((a4+1:Nat):Int)) (RL.nil ?_)))))
  obtain rfl:=oi hb
  exact⟨rfl,bn,a0,(us956.set (Int.toNat ae.2.2) (rv ak)),o.sp 10 [3,4,5,7,8,9]⟩
 rintro _ w ⟨cj,bg,us942,O,rfl,o⟩
 refine aG (RC.sr (aO (.slice none 0 0) (RL.nq (RC.sr (mv bg (RL.pR 4 5 aj.2.2 zr o zr zr zr zk (mv (vi 0) (RL.nt ?_))))))))
 have o:=o.xL (X:=(XS 49 aI)) (b:=5) (j:=4) rfl (fun M h u x cs=>(E2 49) M h u x cs) rfl rfl (by decide)
 obtain⟨bl,hN,hb⟩:=bd hb
 refine RC.fold (fun(b9:Nat) (bl: (List (List aA))) U w=>∃c4:Value,SH E V [(23,c4),(174,bg),(175,vi aj.2.2.length),(176,vi b9)] [own 23 bg aj.2.2,own 96 c4 bl] U w) (fun(bl: (List (List aA))) U w=>∃bp:Value,SH E V [(23,bp)] [own 23 bg aj.2.2,own 96 bp bl] U w) hN ?_ ?_ ?_ ?_
 ·have o:=o.dH (List aA) 96
  exact⟨(.slice none 0 0),o.sp 7 [5,0]⟩
 ·rintro hm bl _ w ⟨dm,O,rfl,o⟩
  refine RC.sr (ic ((aj.2.2.length:Int)) ((aj.2.2.length:Int)) (RL.nq (RC.cT m4 (RC.ex ?_))))
  exact⟨rfl,dm,o.sp 2 [0,1]⟩
 ·rintro hm b9 bl s' _ w hk ⟨dn,O,rfl,o⟩ hb
  refine RC.sr (ic ((b9:Int)) ((aj.2.2.length:Int)) (RL.nq (RC.cS (m0 hk) (RC.ss (RC.bs ?_)))))
  obtain⟨ec,cp,hb⟩:=bd hb
  refine RL.bJ 0 o zr zr Ap cp (RL.kP (f:=(fun x=>x)) 0 o (jv 0 o cp 0) (aY cp).2.1 Fd.self xU fun cq o=>?_)
  refine aO cq (RL.nt (RC.region (mv dn (mv cq ?_))))
  obtain⟨dp,dq,hb⟩:=bd hb
  refine RL.call zt zr C1 [cq] zr (aF (j7 N (i0:=0) o zr dq) ?_)
  rintro dr w o
  have o:=o.freeze 0
  refine RL.eY ([dp]: (List (List aA))) o [dr] C8 FP (fun M hs g=>⟨(g.sat 0 _ zr).1,zt⟩) fun ed w o=>?_
  have o:=o.freeze 0
  obtain⟨ee,ds,hb⟩:=bd hb
  refine RL.app 4 0 o GS ds fun c5 w o=>?_
  refine aO c5 (RL.nil (bU (aG (RC.region (RL.inc hk hm (mv (vi ((b9+1:Nat):Int)) (RL.nil ?_)))))))
  obtain rfl:=oi hb
  exact⟨rfl,c5,o.sp 5 [3,4]⟩
 rintro _ w ⟨bp,O,rfl,o⟩
 refine aG (RC.sr (mv bp (aO bp (RL.nt (RC.ret ?_)))))
 obtain rfl:=oi hb
 exact cD (o.pk 2 [1])
def qt (E:World) (V:List HP) (b0:Nat) (v0_0 v0_1:Value) (v0_2 v0_3:Value) (v0_6 v0_7:Value) (v0_8 v0_9:Value) (v0_10 v0_11:Value) (res:Bool×(List (List aA))×(List aH)) (v:Value) (w:World):Prop:=∃u0_4 u0_5:Value,v= (vb res.1)/\Holds E w ([bc 67 b0 [v0_0,v0_1,v0_2,v0_3,u0_4,u0_5,v0_6,v0_7,v0_8,v0_9,v0_10,v0_11],own 96 u0_4 res.2.1,own 109 u0_5 res.2.2]++V)
theorem pI {p0_0: (List (List aI))} {p0_2: (List bM)} {p0_4: (List (List aA))} {p0_5: (List aH)} {res:Bool×(List (List aA))×(List aH)} (j:Holds E w (bc 67 b0 [v0_0,v0_1,v0_2,v0_3,v0_4,v0_5,v0_6,v0_7,v0_8,v0_9,v0_10,v0_11]::rd v0_0 p0_0::rd v0_2 p0_2::own 96 v0_4 p0_4::own 109 v0_5 p0_5::V)) (o:hQ N p0_0 p0_2 p0_4 p0_5=some res):
    Calls bD 24 [(vp b0 0)].toArray w (gR (qt E V b0 v0_0 v0_1 v0_2 v0_3 v0_6 v0_7 v0_8 v0_9 v0_10 v0_11 res)):=by
 unfold hQ at o
 refine enter Tryz.func24 zr zr (RC.sr (aO (vb false) (RL.ns (aO (vb true) (RL.nq (RC.sr (mv (vp b0 0) (RL.nilCheck zr ?_))))))))
 refine RL.bA zr lD (RL.bA zr tW (RL.bB 0 v0_0 j BS (RL.bE 1 p0_0 j zk (mv (vi 0) (RL.nt ?_)))))
 obtain⟨aa,hN,o⟩:=bd o
 refine RC.fold (fun(ab:Nat) (aa: (List (List aA))×(List aH)×Bool) U w=>∃bf bg:Value,SH E V [(0,vp b0 0),(3,vb aa.2.2),(16,v0_0),(17,vi p0_0.length),(18,vi ab)] [bc 67 b0 [v0_0,v0_1,v0_2,v0_3,bf,bg,v0_6,v0_7,v0_8,v0_9,v0_10,v0_11],own 96 bf aa.1,own 109 bg aa.2.1,rd v0_0 p0_0,rd v0_2 p0_2] U w) (fun(aa: (List (List aA))×(List aH)×Bool) U w=>∃au al:Value,SH E V [(0,vp b0 0),(3,vb aa.2.2)] [bc 67 b0 [v0_0,v0_1,v0_2,v0_3,au,al,v0_6,v0_7,v0_8,v0_9,v0_10,v0_11],own 96 au aa.1,own 109 al aa.2.1,rd v0_0 p0_0,rd v0_2 p0_2] U w) hN ?_ ?_ ?_ ?_
 ·exact⟨v0_4,v0_5,j.sp 5 [0,3,4,1,2]⟩
 ·rintro hm aa _ w ⟨bq,br,O,rfl,j⟩
  refine RC.sr (ic ((p0_0.length:Int)) ((p0_0.length:Int)) (RL.nq (RC.cT m4 (RC.ex ?_))))
  exact⟨rfl,bq,br,j.sp 5 [0,1,2,3,4]⟩
 ·rintro hm ab aa s' _ w hk ⟨af,ag,O,rfl,j⟩ o
  refine RC.sr (ic ((ab:Int)) ((p0_0.length:Int)) (RL.nq (RC.cS (m0 hk) (RC.ss (RC.bs (mv (vi ab) ?_))))))
  obtain⟨a2,bt,o⟩:=bd o
  refine RL.cC 3 j Ap bt fun cp j=>(RL.bT 0 a2 j xU fun ah j=>(aO (vi ab) (aO ah (RL.ns (aO (.slice none 0 0) (RL.nq (RC.sr (mv (vp b0 0) ?_))))))))
  refine RL.nilCheck zr (RL.bA zr lD (RL.bA zr lX (RL.bB 2 v0_2 j tX (RL.bE 6 p0_2 j vz (mv (vi 0) (RL.nt ?_))))))
  obtain⟨av,hN,o⟩:=bd o
  refine RC.fold (fun(az:Nat) (av: (List aI)) U w=>∃bh:Value,SH E V [(0,vp b0 0),(3,vb aa.2.2),(4,vi ab),(5,ah),(6,bh),(16,v0_0),(17,vi p0_0.length),(18,vi ab),(27,v0_2),(28,vi p0_2.length),(29,vi az)] [bc 67 b0 [v0_0,v0_1,v0_2,v0_3,af,ag,v0_6,v0_7,v0_8,v0_9,v0_10,v0_11],rd v0_0 p0_0,rd v0_2 p0_2,own 96 af aa.1,own 109 ag aa.2.1,rd ah a2,own 49 bh av] U w) (fun(av: (List aI)) U w=>∃a0:Value,SH E V [(0,vp b0 0),(3,vb aa.2.2),(4,vi ab),(5,ah),(6,a0),(16,v0_0),(17,vi p0_0.length),(18,vi ab)] [bc 67 b0 [v0_0,v0_1,v0_2,v0_3,af,ag,v0_6,v0_7,v0_8,v0_9,v0_10,v0_11],rd v0_0 p0_0,rd v0_2 p0_2,own 96 af aa.1,own 109 ag aa.2.1,rd ah a2,own 49 a0 av] U w) hN ?_ ?_ ?_ ?_
  ·have j:=j.dH aI 49
   exact⟨(.slice none 0 0),j.sp 8 [3,6,7,4,5,1,0]⟩
  ·rintro hm av _ w ⟨bu,O,rfl,j⟩
   refine RC.sr (ic ((p0_2.length:Int)) ((p0_2.length:Int)) (RL.nq (RC.cT m4 (RC.ex ?_))))
   exact⟨rfl,bu,j.sp 7 [0,1,2,3,4,5,6]⟩
  ·rintro hm az av s' _ w hk ⟨bj,O,rfl,j⟩ o
   refine RC.sr (ic ((az:Int)) ((p0_2.length:Int)) (RL.nq (RC.cS (m0 hk) (RC.ss (RC.bs ?_)))))
   obtain⟨bw,bx,o⟩:=bd o
   refine RL.cC 2 j xV bx fun cq j=>(RL.bT 0 bw j nG fun cr j=>(RL.alloc j BW.z fun ct w j=>?_))
   refine RL.bG 0 j 1 zr nG fun w j=>?_
   refine RL.ns (RL.aX (f:=(fun x=>x)) 0 j zr Fd.self nG fun bz j=>(mv (vi ab) ?_))
   obtain⟨cu,b1,o⟩:=bd o
   refine RL.call zt zr FO [bz,(vi ab)] zr (aF (lF N (p1:=(ab:Int)) (i0:=0) j zr b1) ?_)
   rintro _ w ⟨rfl,j⟩
   refine RL.nt ?_
   obtain⟨a6,hj,o⟩:=bd o
   refine RC.jn (fun(a6: (List aI)) U w=>∃a3:Value,SH E V [(0,vp b0 0),(3,vb aa.2.2),(4,vi ab),(5,ah),(6,a3),(16,v0_0),(17,vi p0_0.length),(18,vi ab),(27,v0_2),(28,vi p0_2.length),(29,vi az)] [bc 67 b0 [v0_0,v0_1,v0_2,v0_3,af,ag,v0_6,v0_7,v0_8,v0_9,v0_10,v0_11],rd v0_0 p0_0,rd v0_2 p0_2,own 96 af aa.1,own 109 ag aa.2.1,rd ah a2,own 49 a3 a6] U w) a6 ?_ ?_
   ·refine fq hj (fun hc hj=>?_) fun hc hj=>?_
    rotate_left
    ·refine RC.skip ?_
     obtain rfl:=oi hj
     exact⟨rfl,bj,j.sp 11 [4,5,6,7,8,9,10]⟩
    refine RC.region (mv bj (RL.aX (f:=(fun x=>x)) 1 j zr Fd.self nG fun b3 j=>?_))
    obtain⟨b4,b5,hj⟩:=bd hj
    refine RL.call zt zr BX [b3] zr (aF (gw N (i0:=0) j zr b5) ?_)
    rintro b6 w j
    refine RL.eY ([b4]: (List aI)) j [b6] lq n9 (fun M hs g=>⟨(g.sat 0 _ zr).1,zt⟩) fun cv w j=>?_
    have j:=j.freeze 0
    obtain⟨cw,b7,hj⟩:=bd hj
    refine RL.app 13 0 j BU b7 fun bk w j=>?_
    refine aO bk (RL.nil ?_)
    obtain rfl:=oi hj
    exact⟨rfl,bk,j.sp 14 [7,8,9,10,11,12,13]⟩
   rintro _ w ⟨a3,O,rfl,j⟩
   refine bU (aG (RC.region (RL.inc hk hm (mv (vi ((az+1:Nat):Int)) (RL.nil ?_)))))
   obtain rfl:=oi o
   exact⟨rfl,a3,j.sp 7 [0,1,2,3,4,5,6]⟩
  rintro _ w ⟨a0,O,rfl,j⟩
  refine aG (RC.sr (mv ah ?_))
  obtain⟨cx,b8,o⟩:=bd o
  refine RL.call zt zr C1 [ah] zr (aF (j7 N (i0:=5) j zr b8) ?_)
  rintro b9 w j
  refine mv a0 ?_
  have j:=j.freeze 7
  obtain⟨cy,ca,o⟩:=bd o
  refine RL.call zt zr C1 [a0] zr (aF (j7 N (i0:=7) j zr ca) ?_)
  rintro cb w j
  have j:=(j.freeze 1).freeze 0
  obtain⟨cz,cc,o⟩:=bd o
  refine RL.call zt zr Iy [b9,cb] zr (aF (th N (i0:=1) (i1:=0) j zr zr cc) ?_)
  rintro a1 w j
  refine aO a1 (RL.nq ?_)
  obtain⟨an,hj,o⟩:=bd o
  refine RC.jn (fun(an:Bool×(List aA)) U w=>∃ao:Value,SH E V [(0,vp b0 0),(3,vb an.1),(4,vi ab),(9,ao),(16,v0_0),(17,vi p0_0.length),(18,vi ab)] [bc 67 b0 [v0_0,v0_1,v0_2,v0_3,af,ag,v0_6,v0_7,v0_8,v0_9,v0_10,v0_11],rd v0_0 p0_0,rd v0_2 p0_2,own 96 af aa.1,own 109 ag aa.2.1,rd ao an.2] U w) an ?_ ?_
  ·refine RC.region (mv (vb aa.2.2) (mv (vb aa.2.2) (gv hj (fun ai hj=>?_) fun ai hj=>?_)))
   rotate_left
   ·refine bS ai (bS ai (bS ai (gx ai (vb false) (aO (vb false) (RL.nil ?_)))))
    obtain rfl:=oi hj
    have j:=j.freeze 0
    exact⟨rfl,a1,j.sp 10 [3,4,5,6,7,0]⟩
   refine RL.move a1 (cg ai) ?_
   have j:=j.freeze 0
   obtain⟨a7,cd,hj⟩:=bd hj
   refine RL.call (cg ai) zr Iz [a1] zr (aF (ti N (i0:=0) j zr cd) ?_)
   rintro _ w ⟨rfl,j⟩
   refine RL.jP a7 2000 (cg ai) (gx ai (vb (decide (a7<=2000))) (aO (vb (decide (a7<=2000))) (RL.nil ?_)))
   obtain rfl:=oi hj
   exact⟨rfl,a1,j.sp 10 [3,4,5,6,7,0]⟩
  rintro _ w ⟨ao,O,rfl,j⟩
  refine aG (RC.sr (mv (vp b0 0) (mv (vp b0 0) (RL.nilCheck zr (RL.bA zr C9 (RL.bB 0 af j GR (mv ao (RL.eY ([an.2]: (List (List aA))) j [ao] C8 FP (fun M hs g=>⟨(g.sat 5 _ zr).1,zt⟩) fun c0 w j=>?_))))))))
  have j:=j.freeze 0
  obtain⟨bl,cf,o⟩:=bd o
  refine RL.app 4 0 j GS cf fun aq w j=>?_
  refine RL.nilCheck zr (RL.bA zr C9 (RL.g9 1 aq j zr zr (iI 4 j) GR fun w j=>?_))
  refine RL.ns (mv ao ?_)
  obtain⟨ar,ch,o⟩:=bd o
  refine RL.call zt zr IB [ao] zr (aF (r7 N (i0:=6) j zr ch) ?_)
  rintro a8 w j
  refine RL.fU 0 ar j GO (mv (vi 0) (RL.nt ?_))
  obtain⟨aw,hN,o⟩:=bd o
  refine RC.fold (fun(a4:Nat) (aw: (List aH)) U w=>∃bm:Value,SH E V [(0,vp b0 0),(3,vb an.1),(4,vi ab),(16,v0_0),(17,vi p0_0.length),(18,vi ab),(64,a8),(65,vi ar.length),(66,vi a4)] [bc 67 b0 [v0_0,v0_1,v0_2,v0_3,aq,bm,v0_6,v0_7,v0_8,v0_9,v0_10,v0_11],own 109 bm aw,rd v0_0 p0_0,rd v0_2 p0_2,own 96 aq bl,own 96 a8 ar] U w) (fun(aw: (List aH)) U w=>∃a5:Value,SH E V [(0,vp b0 0),(3,vb an.1),(16,v0_0),(17,vi p0_0.length),(18,vi ab)] [bc 67 b0 [v0_0,v0_1,v0_2,v0_3,aq,a5,v0_6,v0_7,v0_8,v0_9,v0_10,v0_11],own 109 a5 aw,rd v0_0 p0_0,rd v0_2 p0_2,own 96 aq bl,own 96 a8 ar] U w) hN ?_ ?_ ?_ ?_
  ·exact⟨ag,j.sp 8 [2,6,3,4,5,0]⟩
  ·rintro hm aw _ w ⟨cj,O,rfl,j⟩
   refine RC.sr (ic ((ar.length:Int)) ((ar.length:Int)) (RL.nq (RC.cT m4 (RC.ex ?_))))
   exact⟨rfl,cj,j.sp 6 [0,1,2,3,4,5]⟩
  ·rintro hm a4 aw s' _ w hk ⟨a9,O,rfl,j⟩ o
   refine RC.sr (ic ((a4:Int)) ((ar.length:Int)) (RL.nq (RC.cS (m0 hk) (RC.ss (RC.bs ?_)))))
   obtain⟨bn,ba,o⟩:=bd o
   refine RL.bJ 5 j zr zr C8 ba (RL.kP (f:=(fun x=>x)) 5 j (jv 5 j ba 0) (aY ba).2.1 Fd.self GP fun ax j=>?_)
   refine aO ax (RL.nt ?_)
   have j:=j.drew
   refine RC.CW (fun w=>Holds E w ([bc 67 b0 [v0_0,v0_1,v0_2,v0_3,aq,a9,v0_6,v0_7,v0_8,v0_9,v0_10,v0_11]]++V)) mixed zr [1,1,1,1,1,1,1,0,2,0,2,2,0,0,2] [0,1,2,3,4,5,6,7,8,9,10,11,12,13,14] (j.pk 7 [1]) (DP.e1 (vp b0 0) zr (fun w=>RL.move (vp b0 0) zt DP.d1) (DP.e1 (vp b0 0) zr (fun w=>RL.move (vp b0 0) zt DP.d1) (DP.e1 (vp b0 0) zr (fun w=>RL.nilCheck zr DP.d1) (DP.e1 (vp b0 5) zr (fun w=>RL.bA zr pZ DP.d1) (DP.FH a9 zr (fun w j=>RL.bB 0 a9 j zp DP.d1) (DP.e1 (vi ab) zr (fun w=>RL.move (vi ab) zt DP.d1) (DP.e1 ax zr (fun w=>RL.move ax zt DP.d1) (DP.e0 zr ?_))))))))
   refine mv ax (sB zr ?_)
   obtain⟨bo,ck,o⟩:=bd o
   refine RL.call zt zr FL [ax] zr (aF (kW N (i0:=0) j zr ck) ?_)
   rintro cl w j
   refine DP.d2 (j.pk 8 [2]) (DP.e0 zr ?_)
   have j:=(j.sc Int (ab:Int)).freeze 1
   refine RL.build (⟨(ab:Int),bn,bo⟩:aH) trivial rfl j [(0,vi ab),(1,ax),(2,cl)] rfl GV rfl (fun M hs g=>by have h:=vx M;exact dJ.cons (f:=fun(x:aH) y=>{x with eK:=y}) h sR (g.sat 0 _ rfl).1 fun _ h=>dJ.cons (f:=fun(x:aH) y=>{x with Set:=y}) h sS (g.sat 2 _ rfl).1 fun _ h=>dJ.cons (f:=fun(x:aH) y=>{x with mG:=y}) h sT (g.sat 1 _ rfl).1 fun _ h=>dJ.nil h) fun cm j=>?_
   refine sB zr (RL.eY ([(⟨(ab:Int),bn,bo⟩:aH)]: (List aH)) j [cm] FR Da (fun M hs g=>⟨(g.sat 0 _ zr).1,zt⟩) fun c1 w j=>(DP.d2 (j.pk 11 [5]) (DP.e2 zr ?_)))
   have j:=j.freeze 0
   obtain⟨c2,cn,o⟩:=bd o
   refine RL.app 6 0 j IC cn fun bp w j=>?_
   refine DP.d2 (j.pk 11 [5]) (DP.e0 zr (RL.nilCheck zr (bZ zr (RL.bA zr pZ (DP.d0 (DP.Jq zr zr (RL.g9 5 bp j zr zr (iI 6 j) zp fun w j=>?_)))))))
   refine DP.d2 zt (DP.z (bU (aG (RC.region (RL.inc hk hm (mv (vi ((a4+1:Nat):Int)) (RL.nil ?_)))))))
   obtain rfl:=oi o
   exact⟨rfl,bp,j.sp 11 [5,6,7,8,9,10]⟩
  rintro _ w ⟨a5,O,rfl,j⟩
  refine bU (aG (RC.region (RL.inc hk hm (mv (vi ((ab+1:Nat):Int)) (RL.nil ?_)))))
  obtain rfl:=oi o
  exact⟨rfl,aq,a5,j.sp 6 [0,4,1,2,3]⟩
 rintro _ w ⟨au,al,O,rfl,j⟩
 refine aG (RC.seq ?_)
 obtain⟨bb,hj,o⟩:=bd o
 refine RC.jn (fun(bb:Bool)=>SH E V [(0,vp b0 0),(2,vb bb)] [bc 67 b0 [v0_0,v0_1,v0_2,v0_3,au,al,v0_6,v0_7,v0_8,v0_9,v0_10,v0_11],rd v0_0 p0_0,rd v0_2 p0_2,own 96 au aa.1,own 109 al aa.2.1]) bb ?_ ?_
 ·refine RC.region (mv (vb aa.2.2) (mv (vb aa.2.2) (gv hj (fun ae hj=>?_) fun ae hj=>?_)))
  ·refine RL.move (vp b0 0) (cg ae) (RL.nilCheck (hg:=(cg ae)) zr (RL.bA (hg:=(cg ae)) zr pZ (RL.bB (hg:=(cg ae)) 0 al j zp (RL.fU (hg:=(cg ae)) 2 aa.2.1 j B1 (RL.jP (aa.2.1.length:Int) 2000 (cg ae) (gx ae (vb (decide ((aa.2.1.length:Int)<=2000))) (aO (vb (decide ((aa.2.1.length:Int)<=2000))) (RL.nil ?_))))))))
   obtain rfl:=oi hj
   exact⟨rfl,j.sp 5 [0,3,4,1,2]⟩
  refine bS ae (bS ae (bS ae (bS ae (bS ae (bS ae (gx ae (vb false) (aO (vb false) (RL.nil ?_))))))))
  obtain rfl:=oi hj
  exact⟨rfl,j.sp 5 [0,3,4,1,2]⟩
 rintro _ w ⟨O,rfl,j⟩
 refine aG (RC.ret ?_)
 obtain rfl:=oi o
 exact cD ⟨au,al,zr,j.pk 5 [0,3,4]⟩
end Go.Gk
namespace Go.Gk
open Go Go.Proofs
variable (N:Nat) {E w:World} {b0 i0 i1:Nat} {p0 p1 p2 res:Int} {v0 v0_0 v0_1 v0_10 v0_11 v0_2 v0_3 v0_4 v0_5 v0_6 v0_7 v0_8 v0_9 v1:Value} {V:List HP}
theorem ui {p0 p1:aI} {res:Bool} (j:Holds E w V) (h0:V[i0]? =some (rd v0 p0)) (h1:V[i1]? =some (rd v1 p1)) (hb:n7 N p0 p1=some res):
    Calls bD 54 [v0,v1].toArray w (gR (bF E V res)):=by
 unfold n7 at hb
 refine enter Tryz.func54 zr zr ?_
 have j:=(j.dup (i0+0) h0).dup (i1+1) h1
 refine RC.sr (RL.dD 1 v0 j zr fun o w j=>?_)
 refine RL.dD 1 v1 j zr fun aa w j=>?_
 refine aO (vb false) (RL.ns (RL.bA zr jm (RL.aN 1 j zr eX cH (RL.bA zr j4 (RL.aN 0 j zr fY cH (ic p0.X0 p1.X1 (mv (vb (decide (p0.X0<p1.X1))) (RL.gs true (decide (p0.X0<p1.X1)) (vp aa 0) zr zr zr (dQ jm) ?_))))))))
 refine RL.gs true (decide (p0.X0<p1.X1)) (vi p1.X0) rfl rfl rfl (bX 0 rfl j (fun h=>by exact(cR h:cv (true&&((decide (p0.X0<p1.X1))==true)) (vp aa 0)= (vp aa 0))) rfl eX cH) (RL.gs true (decide (p0.X0<p1.X1)) (vp o 2) rfl rfl rfl (dQ j4) (RL.gs true (decide (p0.X0<p1.X1)) (vi p0.X1) rfl rfl rfl (bX 1 rfl j (fun h=>by exact(cR h:cv (true&&((decide (p0.X0<p1.X1))==true)) (vp o 2)= (vp o 2))) rfl fY cH) (RL.gs true (decide (p0.X0<p1.X1)) (vb (decide (p1.X0<p0.X1))) rfl rfl rfl (eP .lss .i64 p1.X0 p0.X1 rfl (fun h=>by exact(cR h:cv (true&&((decide (p0.X0<p1.X1))==true)) (vi p1.X0)= (vi p1.X0))) (fun h=>by exact(cR h:cv (true&&((decide (p0.X0<p1.X1))==true)) (vi p0.X1)= (vi p0.X1))) rfl) (RL.pick (decide (p0.X0<p1.X1)) (vb ((decide (p0.X0<p1.X1))&&(decide (p1.X0<p0.X1)))) (iX true) (aO (vb ((decide (p0.X0<p1.X1))&&(decide (p1.X0<p0.X1)))) (RL.ns (RL.bA rfl j3 (RL.aN 1 j rfl fM cH ?_))))))))
 refine RL.bA rfl nj (RL.aN 0 j rfl i9 cH (ic p0.Y0 p1.Y1 (mv (vb (decide (p0.Y0<p1.Y1))) (RL.gs true (decide (p0.Y0<p1.Y1)) (vp aa 1) rfl rfl rfl (dQ j3) (RL.gs true (decide (p0.Y0<p1.Y1)) (vi p1.Y0) rfl rfl rfl (bX 0 rfl j (fun h=>by exact(cR h:cv (true&&((decide (p0.Y0<p1.Y1))==true)) (vp aa 1)= (vp aa 1))) rfl fM cH) (RL.gs true (decide (p0.Y0<p1.Y1)) (vp o 3) rfl rfl rfl (dQ nj) (RL.gs true (decide (p0.Y0<p1.Y1)) (vi p0.Y1) rfl rfl rfl (bX 1 rfl j (fun h=>by exact(cR h:cv (true&&((decide (p0.Y0<p1.Y1))==true)) (vp o 3)= (vp o 3))) rfl i9 cH) (RL.gs true (decide (p0.Y0<p1.Y1)) (vb (decide (p1.Y0<p0.Y1))) rfl rfl rfl (eP .lss .i64 p1.Y0 p0.Y1 rfl (fun h=>by exact(cR h:cv (true&&((decide (p0.Y0<p1.Y1))==true)) (vi p1.Y0)= (vi p1.Y0))) (fun h=>by exact(cR h:cv (true&&((decide (p0.Y0<p1.Y1))==true)) (vi p0.Y1)= (vi p0.Y1))) rfl) ?_))))))))
 refine RL.pick (decide (p0.Y0<p1.Y1)) (vb ((decide (p0.Y0<p1.Y1))&&(decide (p1.Y0<p0.Y1)))) (iX true) (aO (vb ((decide (p0.Y0<p1.Y1))&&(decide (p1.Y0<p0.Y1)))) (RL.ns (mv (vb ((decide (p0.X0<p1.X1))&&(decide (p1.X0<p0.X1)))) (mv (vb ((decide (p0.X0<p1.X1))&&(decide (p1.X0<p0.X1)))) (RL.gs true ((decide (p0.X0<p1.X1))&&(decide (p1.X0<p0.X1))) (vp o 3) rfl rfl rfl (dQ nj) (RL.gs true ((decide (p0.X0<p1.X1))&&(decide (p1.X0<p0.X1))) (vi p0.Y1) rfl rfl rfl (bX 1 rfl j (fun h=>by exact(cR h:cv (true&&(((decide (p0.X0<p1.X1))&&(decide (p1.X0<p0.X1)))==true)) (vp o 3)= (vp o 3))) rfl i9 cH) (RL.gs true ((decide (p0.X0<p1.X1))&&(decide (p1.X0<p0.X1))) (vp aa 1) rfl rfl rfl (dQ j3) (RL.gs true ((decide (p0.X0<p1.X1))&&(decide (p1.X0<p0.X1))) (vi p1.Y0) rfl rfl rfl (bX 0 rfl j (fun h=>by exact(cR h:cv (true&&(((decide (p0.X0<p1.X1))&&(decide (p1.X0<p0.X1)))==true)) (vp aa 1)= (vp aa 1))) rfl fM cH) ?_))))))))
 refine RL.gs true ((decide (p0.X0<p1.X1))&&(decide (p1.X0<p0.X1))) (vb (p0.Y1==p1.Y0)) rfl rfl rfl (eP .eql .i64 p0.Y1 p1.Y0 rfl (fun h=>by exact(cR h:cv (true&&(((decide (p0.X0<p1.X1))&&(decide (p1.X0<p0.X1)))==true)) (vi p0.Y1)= (vi p0.Y1))) (fun h=>by exact(cR h:cv (true&&(((decide (p0.X0<p1.X1))&&(decide (p1.X0<p0.X1)))==true)) (vi p1.Y0)= (vi p1.Y0))) rfl) (RL.gs true ((decide (p0.X0<p1.X1))&&(decide (p1.X0<p0.X1))) (vb (p0.Y1==p1.Y0)) rfl rfl rfl (eC (hx:=fun h=>by exact(cR h:cv (true&&(((decide (p0.X0<p1.X1))&&(decide (p1.X0<p0.X1)))==true)) (vb (p0.Y1==p1.Y0))= (vb (p0.Y1==p1.Y0))))) (RL.gs (true&&(((decide (p0.X0<p1.X1))&&(decide (p1.X0<p0.X1)))==true)) (p0.Y1==p1.Y0) (vp aa 3) rfl rfl rfl (dQ nj) (RL.gs (true&&(((decide (p0.X0<p1.X1))&&(decide (p1.X0<p0.X1)))==true)) (p0.Y1==p1.Y0) (vi p1.Y1) rfl rfl rfl (bX 0 rfl j (fun h=>by exact(cR h:cv ((true&&(((decide (p0.X0<p1.X1))&&(decide (p1.X0<p0.X1)))==true))&&((p0.Y1==p1.Y0)==false)) (vp aa 3)= (vp aa 3))) rfl i9 cH) (RL.gs (true&&(((decide (p0.X0<p1.X1))&&(decide (p1.X0<p0.X1)))==true)) (p0.Y1==p1.Y0) (vp o 1) rfl rfl rfl (dQ j3) (RL.gs (true&&(((decide (p0.X0<p1.X1))&&(decide (p1.X0<p0.X1)))==true)) (p0.Y1==p1.Y0) (vi p0.Y0) rfl rfl rfl (bX 1 rfl j (fun h=>by exact(cR h:cv ((true&&(((decide (p0.X0<p1.X1))&&(decide (p1.X0<p0.X1)))==true))&&((p0.Y1==p1.Y0)==false)) (vp o 1)= (vp o 1))) rfl fM cH) (RL.gs (true&&(((decide (p0.X0<p1.X1))&&(decide (p1.X0<p0.X1)))==true)) (p0.Y1==p1.Y0) (vb (p1.Y1==p0.Y0)) rfl rfl rfl (eP .eql .i64 p1.Y1 p0.Y0 rfl (fun h=>by exact(cR h:cv ((true&&(((decide (p0.X0<p1.X1))&&(decide (p1.X0<p0.X1)))==true))&&((p0.Y1==p1.Y0)==false)) (vi p1.Y1)= (vi p1.Y1))) (fun h=>by exact(cR h:cv ((true&&(((decide (p0.X0<p1.X1))&&(decide (p1.X0<p0.X1)))==true))&&((p0.Y1==p1.Y0)==false)) (vi p0.Y0)= (vi p0.Y0))) rfl) (RL.gs true ((decide (p0.X0<p1.X1))&&(decide (p1.X0<p0.X1))) (vb ((p0.Y1==p1.Y0)||(p1.Y1==p0.Y0))) rfl rfl rfl (oX (p0.Y1==p1.Y0) rfl (fun h=>by exact(cR h:cv (true&&(((decide (p0.X0<p1.X1))&&(decide (p1.X0<p0.X1)))==true)) (vb (p0.Y1==p1.Y0))= (vb (p0.Y1==p1.Y0)))) (fun h=>by exact px (true&&(((decide (p0.X0<p1.X1))&&(decide (p1.X0<p0.X1)))==true)) h)) (RL.pick ((decide (p0.X0<p1.X1))&&(decide (p1.X0<p0.X1))) (vb (((decide (p0.X0<p1.X1))&&(decide (p1.X0<p0.X1)))&&((p0.Y1==p1.Y0)||(p1.Y1==p0.Y0)))) (iX true) ?_))))))))
 refine mv (vb (((decide (p0.X0<p1.X1))&&(decide (p1.X0<p0.X1)))&&((p0.Y1==p1.Y0)||(p1.Y1==p0.Y0)))) (RL.gs true (((decide (p0.X0<p1.X1))&&(decide (p1.X0<p0.X1)))&&((p0.Y1==p1.Y0)||(p1.Y1==p0.Y0))) (vb ((decide (p0.Y0<p1.Y1))&&(decide (p1.Y0<p0.Y1)))) rfl rfl rfl eC (RL.gs true (((decide (p0.X0<p1.X1))&&(decide (p1.X0<p0.X1)))&&((p0.Y1==p1.Y0)||(p1.Y1==p0.Y0))) (vb ((decide (p0.Y0<p1.Y1))&&(decide (p1.Y0<p0.Y1)))) rfl rfl rfl (eC (hx:=fun h=>by exact(cR h:cv (true&&((((decide (p0.X0<p1.X1))&&(decide (p1.X0<p0.X1)))&&((p0.Y1==p1.Y0)||(p1.Y1==p0.Y0)))==false)) (vb ((decide (p0.Y0<p1.Y1))&&(decide (p1.Y0<p0.Y1))))= (vb ((decide (p0.Y0<p1.Y1))&&(decide (p1.Y0<p0.Y1))))))) (RL.gs (true&&((((decide (p0.X0<p1.X1))&&(decide (p1.X0<p0.X1)))&&((p0.Y1==p1.Y0)||(p1.Y1==p0.Y0)))==false)) ((decide (p0.Y0<p1.Y1))&&(decide (p1.Y0<p0.Y1))) (vp o 2) rfl rfl rfl (dQ j4) (RL.gs (true&&((((decide (p0.X0<p1.X1))&&(decide (p1.X0<p0.X1)))&&((p0.Y1==p1.Y0)||(p1.Y1==p0.Y0)))==false)) ((decide (p0.Y0<p1.Y1))&&(decide (p1.Y0<p0.Y1))) (vi p0.X1) rfl rfl rfl (bX 1 rfl j (fun h=>by exact(cR h:cv ((true&&((((decide (p0.X0<p1.X1))&&(decide (p1.X0<p0.X1)))&&((p0.Y1==p1.Y0)||(p1.Y1==p0.Y0)))==false))&&(((decide (p0.Y0<p1.Y1))&&(decide (p1.Y0<p0.Y1)))==true)) (vp o 2)= (vp o 2))) rfl fY cH) (RL.gs (true&&((((decide (p0.X0<p1.X1))&&(decide (p1.X0<p0.X1)))&&((p0.Y1==p1.Y0)||(p1.Y1==p0.Y0)))==false)) ((decide (p0.Y0<p1.Y1))&&(decide (p1.Y0<p0.Y1))) (vp aa 0) rfl rfl rfl (dQ jm) (RL.gs (true&&((((decide (p0.X0<p1.X1))&&(decide (p1.X0<p0.X1)))&&((p0.Y1==p1.Y0)||(p1.Y1==p0.Y0)))==false)) ((decide (p0.Y0<p1.Y1))&&(decide (p1.Y0<p0.Y1))) (vi p1.X0) rfl rfl rfl (bX 0 rfl j (fun h=>by exact(cR h:cv ((true&&((((decide (p0.X0<p1.X1))&&(decide (p1.X0<p0.X1)))&&((p0.Y1==p1.Y0)||(p1.Y1==p0.Y0)))==false))&&(((decide (p0.Y0<p1.Y1))&&(decide (p1.Y0<p0.Y1)))==true)) (vp aa 0)= (vp aa 0))) rfl eX cH) (RL.gs (true&&((((decide (p0.X0<p1.X1))&&(decide (p1.X0<p0.X1)))&&((p0.Y1==p1.Y0)||(p1.Y1==p0.Y0)))==false)) ((decide (p0.Y0<p1.Y1))&&(decide (p1.Y0<p0.Y1))) (vb (p0.X1==p1.X0)) rfl rfl rfl (eP .eql .i64 p0.X1 p1.X0 rfl (fun h=>by exact(cR h:cv ((true&&((((decide (p0.X0<p1.X1))&&(decide (p1.X0<p0.X1)))&&((p0.Y1==p1.Y0)||(p1.Y1==p0.Y0)))==false))&&(((decide (p0.Y0<p1.Y1))&&(decide (p1.Y0<p0.Y1)))==true)) (vi p0.X1)= (vi p0.X1))) (fun h=>by exact(cR h:cv ((true&&((((decide (p0.X0<p1.X1))&&(decide (p1.X0<p0.X1)))&&((p0.Y1==p1.Y0)||(p1.Y1==p0.Y0)))==false))&&(((decide (p0.Y0<p1.Y1))&&(decide (p1.Y0<p0.Y1)))==true)) (vi p1.X0)= (vi p1.X0))) rfl) (RL.gs (true&&((((decide (p0.X0<p1.X1))&&(decide (p1.X0<p0.X1)))&&((p0.Y1==p1.Y0)||(p1.Y1==p0.Y0)))==false)) ((decide (p0.Y0<p1.Y1))&&(decide (p1.Y0<p0.Y1))) (vb (p0.X1==p1.X0)) rfl rfl rfl (eC (hx:=fun h=>by exact(cR h:cv ((true&&((((decide (p0.X0<p1.X1))&&(decide (p1.X0<p0.X1)))&&((p0.Y1==p1.Y0)||(p1.Y1==p0.Y0)))==false))&&(((decide (p0.Y0<p1.Y1))&&(decide (p1.Y0<p0.Y1)))==true)) (vb (p0.X1==p1.X0))= (vb (p0.X1==p1.X0))))) ?_))))))))
 refine RL.gs ((true&&((((decide (p0.X0<p1.X1))&&(decide (p1.X0<p0.X1)))&&((p0.Y1==p1.Y0)||(p1.Y1==p0.Y0)))==false))&&(((decide (p0.Y0<p1.Y1))&&(decide (p1.Y0<p0.Y1)))==true)) (p0.X1==p1.X0) (vp aa 2) rfl rfl rfl (dQ j4) (RL.gs ((true&&((((decide (p0.X0<p1.X1))&&(decide (p1.X0<p0.X1)))&&((p0.Y1==p1.Y0)||(p1.Y1==p0.Y0)))==false))&&(((decide (p0.Y0<p1.Y1))&&(decide (p1.Y0<p0.Y1)))==true)) (p0.X1==p1.X0) (vi p1.X1) rfl rfl rfl (bX 0 rfl j (fun h=>by exact(cR h:cv (((true&&((((decide (p0.X0<p1.X1))&&(decide (p1.X0<p0.X1)))&&((p0.Y1==p1.Y0)||(p1.Y1==p0.Y0)))==false))&&(((decide (p0.Y0<p1.Y1))&&(decide (p1.Y0<p0.Y1)))==true))&&((p0.X1==p1.X0)==false)) (vp aa 2)= (vp aa 2))) rfl fY cH) (RL.gs ((true&&((((decide (p0.X0<p1.X1))&&(decide (p1.X0<p0.X1)))&&((p0.Y1==p1.Y0)||(p1.Y1==p0.Y0)))==false))&&(((decide (p0.Y0<p1.Y1))&&(decide (p1.Y0<p0.Y1)))==true)) (p0.X1==p1.X0) (vp o 0) rfl rfl rfl (dQ jm) (RL.gs ((true&&((((decide (p0.X0<p1.X1))&&(decide (p1.X0<p0.X1)))&&((p0.Y1==p1.Y0)||(p1.Y1==p0.Y0)))==false))&&(((decide (p0.Y0<p1.Y1))&&(decide (p1.Y0<p0.Y1)))==true)) (p0.X1==p1.X0) (vi p0.X0) rfl rfl rfl (bX 1 rfl j (fun h=>by exact(cR h:cv (((true&&((((decide (p0.X0<p1.X1))&&(decide (p1.X0<p0.X1)))&&((p0.Y1==p1.Y0)||(p1.Y1==p0.Y0)))==false))&&(((decide (p0.Y0<p1.Y1))&&(decide (p1.Y0<p0.Y1)))==true))&&((p0.X1==p1.X0)==false)) (vp o 0)= (vp o 0))) rfl eX cH) (RL.gs ((true&&((((decide (p0.X0<p1.X1))&&(decide (p1.X0<p0.X1)))&&((p0.Y1==p1.Y0)||(p1.Y1==p0.Y0)))==false))&&(((decide (p0.Y0<p1.Y1))&&(decide (p1.Y0<p0.Y1)))==true)) (p0.X1==p1.X0) (vb (p1.X1==p0.X0)) rfl rfl rfl (eP .eql .i64 p1.X1 p0.X0 rfl (fun h=>by exact(cR h:cv (((true&&((((decide (p0.X0<p1.X1))&&(decide (p1.X0<p0.X1)))&&((p0.Y1==p1.Y0)||(p1.Y1==p0.Y0)))==false))&&(((decide (p0.Y0<p1.Y1))&&(decide (p1.Y0<p0.Y1)))==true))&&((p0.X1==p1.X0)==false)) (vi p1.X1)= (vi p1.X1))) (fun h=>by exact(cR h:cv (((true&&((((decide (p0.X0<p1.X1))&&(decide (p1.X0<p0.X1)))&&((p0.Y1==p1.Y0)||(p1.Y1==p0.Y0)))==false))&&(((decide (p0.Y0<p1.Y1))&&(decide (p1.Y0<p0.Y1)))==true))&&((p0.X1==p1.X0)==false)) (vi p0.X0)= (vi p0.X0))) rfl) (RL.gs (true&&((((decide (p0.X0<p1.X1))&&(decide (p1.X0<p0.X1)))&&((p0.Y1==p1.Y0)||(p1.Y1==p0.Y0)))==false)) ((decide (p0.Y0<p1.Y1))&&(decide (p1.Y0<p0.Y1))) (vb ((p0.X1==p1.X0)||(p1.X1==p0.X0))) rfl rfl rfl (oX (p0.X1==p1.X0) rfl (fun h=>by exact(cR h:cv ((true&&((((decide (p0.X0<p1.X1))&&(decide (p1.X0<p0.X1)))&&((p0.Y1==p1.Y0)||(p1.Y1==p0.Y0)))==false))&&(((decide (p0.Y0<p1.Y1))&&(decide (p1.Y0<p0.Y1)))==true)) (vb (p0.X1==p1.X0))= (vb (p0.X1==p1.X0)))) (fun h=>by exact px ((true&&((((decide (p0.X0<p1.X1))&&(decide (p1.X0<p0.X1)))&&((p0.Y1==p1.Y0)||(p1.Y1==p0.Y0)))==false))&&(((decide (p0.Y0<p1.Y1))&&(decide (p1.Y0<p0.Y1)))==true)) h)) (RL.gs true (((decide (p0.X0<p1.X1))&&(decide (p1.X0<p0.X1)))&&((p0.Y1==p1.Y0)||(p1.Y1==p0.Y0))) (vb (((decide (p0.Y0<p1.Y1))&&(decide (p1.Y0<p0.Y1)))&&((p0.X1==p1.X0)||(p1.X1==p0.X0)))) rfl rfl rfl (oX ((decide (p0.Y0<p1.Y1))&&(decide (p1.Y0<p0.Y1))) rfl (fun h=>by exact(cR h:cv (true&&((((decide (p0.X0<p1.X1))&&(decide (p1.X0<p0.X1)))&&((p0.Y1==p1.Y0)||(p1.Y1==p0.Y0)))==false)) (vb ((decide (p0.Y0<p1.Y1))&&(decide (p1.Y0<p0.Y1))))= (vb ((decide (p0.Y0<p1.Y1))&&(decide (p1.Y0<p0.Y1)))))) (fun h=>by exact iX (h:=h) (true&&((((decide (p0.X0<p1.X1))&&(decide (p1.X0<p0.X1)))&&((p0.Y1==p1.Y0)||(p1.Y1==p0.Y0)))==false)))) (RL.pick (((decide (p0.X0<p1.X1))&&(decide (p1.X0<p0.X1)))&&((p0.Y1==p1.Y0)||(p1.Y1==p0.Y0))) (vb ((((decide (p0.X0<p1.X1))&&(decide (p1.X0<p0.X1)))&&((p0.Y1==p1.Y0)||(p1.Y1==p0.Y0)))||(((decide (p0.Y0<p1.Y1))&&(decide (p1.Y0<p0.Y1)))&&((p0.X1==p1.X0)||(p1.X1==p0.X0))))) (px true rfl) (aO (vb ((((decide (p0.X0<p1.X1))&&(decide (p1.X0<p0.X1)))&&((p0.Y1==p1.Y0)||(p1.Y1==p0.Y0)))||(((decide (p0.Y0<p1.Y1))&&(decide (p1.Y0<p0.Y1)))&&((p0.X1==p1.X0)||(p1.X1==p0.X0))))) ?_))))))))
 refine RL.nt (RC.ret ?_)
 obtain rfl:=oi hb
 exact cD ⟨rfl,j.drop 4⟩
theorem oj {p0:aI} {p1:bM} {res:Bool} (j:Holds E w V) (h0:V[i0]? =some (rd v0 p0)) (h1:V[i1]? =some (pt v1 p1)) (o:ir N p0 p1=some res):
    Calls bD 53 [v0,v1].toArray w (gR (bF E V res)):=by
 unfold ir at o
 refine enter Tryz.func53 zr zr ?_
 have j:=(j.dup (i0+0) h0).ve (i:=i1+1) h1
 refine RC.sr (RL.dD 1 v0 j zr fun ah w j=>?_)
 have j:=j.gm (i:=0) rfl
 refine aO (vb false) (RL.nq (RC.wz mixed [1,0,2,2,0] [0,1,2,3,4] ?_))
 have j:=j.drew
 refine DP.uP p0 0 zr j iz fun aa a33 ai j=>(DP.e0 zr (RL.bT 3 p1 j nG fun ab j=>(sB zr ?_)))
 obtain⟨aj,ad,o⟩:=bd o
 refine RL.call zt zr BX [ab] zr (aF (gw N (i0:=0) j zr ad) ?_)
 rintro ae w j
 refine DP.d2 (⟨zt,j.jA 2⟩) (DP.e2 zr ?_)
 obtain⟨af,ag,o⟩:=bd o
 refine RL.call zt zr IE [aa,ae] zr (aF (ui N (i0:=3) (i1:=0) j zr zr ag) ?_)
 rintro _ w ⟨rfl,j⟩
 refine DP.d2 (⟨zt,j.jA 2⟩) (DP.e0 zr (aO (vb af) (DP.d0 ?_)))
 have j:=j.pl 7 [0,1,3,4,5,6]
 refine DP.z (aG (RC.ret ?_))
 obtain rfl:=oi o
 exact cD ⟨rfl,j.drop 6⟩
theorem jO {p0: (List aI)} {p1:aI->Option Bool} {res:Bool} (j:Holds E w V) (h0:V[i0]? =some (rd v0 p0)) (h1:D7 bD E V v1 p1 (fun(r:Bool)=>Value.bool r)) (o:eZ N p0 p1=some res):
    Calls bD 52 [v0,v1].toArray w (gR (bF E V res)):=by
 unfold eZ at o
 refine enter Tryz.func52 zr zr ?_
 have j:=j.dup (i0+0) h0
 refine RC.sr (aO (vb false) (RL.ns (mv v0 (mv v1 ?_))))
 obtain⟨aa,ab,o⟩:=bd o
 refine RL.call zt zr Gz [v0,v1] zr (aF (og N (i0:=0) j zr (h1.lift 1 zr) ab) ?_)
 rintro _ w ⟨rfl,j⟩
 refine ic aa 0 (aO (vb (decide (aa>=0))) (RL.nt (RC.ret ?_)))
 obtain rfl:=oi o
 exact cD ⟨rfl,j.drop 1⟩
def qu (E:World) (V:List HP) (b0:Nat) (v0_0 v0_1:Value) (v0_2 v0_3:Value) (v0_4 v0_5:Value) (v0_7 v0_8:Value) (v0_9 v0_10 v0_11:Value) (res: (List (List Int))) (v:Value) (w:World):Prop:=∃u0_6:Value,v = .tuple #[]/\Holds E w ([bc 67 b0 [v0_0,v0_1,v0_2,v0_3,v0_4,v0_5,u0_6,v0_7,v0_8,v0_9,v0_10,v0_11],own 56 u0_6 res]++V)
theorem pJ {p0_2: (List bM)} {p0_5: (List aH)} {p0_6: (List (List Int))} {res: (List (List Int))} (j:Holds E w (bc 67 b0 [v0_0,v0_1,v0_2,v0_3,v0_4,v0_5,v0_6,v0_7,v0_8,v0_9,v0_10,v0_11]::rd v0_2 p0_2::rd v0_5 p0_5::own 56 v0_6 p0_6::V)) (hb:hU N p0_2 p0_5 p0_6=some res):
    Calls bD 25 [(vp b0 0)].toArray w (gR (qu E V b0 v0_0 v0_1 v0_2 v0_3 v0_4 v0_5 v0_7 v0_8 v0_9 v0_10 v0_11 res)):=by
 unfold hU at hb
 refine enter Tryz.func25 zr zr (RC.sr (mv (vp b0 0) (RL.nilCheck zr (RL.bA zr lD (RL.bA zr lX (RL.bB 0 v0_2 j tX (RL.bE 1 p0_2 j vz (mv (vi 0) ?_))))))))
 refine RL.nt ?_
 obtain⟨af,hN,hb⟩:=bd hb
 refine RC.fold (fun(ai:Nat) (af: (List (List Int))) U w=>∃az:Value,SH E V [(0,vp b0 0),(11,v0_2),(12,vi p0_2.length),(13,vi ai)] [bc 67 b0 [v0_0,v0_1,v0_2,v0_3,v0_4,v0_5,az,v0_7,v0_8,v0_9,v0_10,v0_11],own 56 az af,rd v0_2 p0_2,rd v0_5 p0_5] U w) (fun(af: (List (List Int))) U w=>∃aq:Value,SH E V [(0,vp b0 0)] [bc 67 b0 [v0_0,v0_1,v0_2,v0_3,v0_4,v0_5,aq,v0_7,v0_8,v0_9,v0_10,v0_11],own 56 aq af,rd v0_2 p0_2,rd v0_5 p0_5] U w) hN ?_ ?_ ?_ ?_
 ·exact⟨v0_6,j.sp 4 [0,3,1,2]⟩
 ·rintro hm af _ w ⟨a4,O,rfl,j⟩
  refine RC.sr (ic ((p0_2.length:Int)) ((p0_2.length:Int)) (RL.nq (RC.cT m4 (RC.ex ?_))))
  exact⟨rfl,a4,j.sp 4 [0,1,2,3]⟩
 ·rintro hm ai af s' _ w hk ⟨ah,O,rfl,j⟩ hb
  refine RC.sr (ic ((ai:Int)) ((p0_2.length:Int)) (RL.nq (RC.cS (m0 hk) (RC.ss (RC.bs ?_)))))
  obtain⟨aj,a5,hb⟩:=bd hb
  refine RL.cC 2 j xV a5 fun bk j=>(RL.bT 0 aj j nG fun bl j=>(RL.alloc j BW.z fun ag w j=>?_))
  refine RL.bG 0 j 1 zr nG fun w j=>?_
  refine RL.ns (aO (.slice none 0 0) (RL.nq (RC.sr (mv (vp b0 0) (RL.nilCheck zr (RL.bA zr pZ (RL.bB 3 v0_5 j zp (RL.bE 6 p0_5 j B1 ?_))))))))
  refine mv (vi 0) (RL.nt ?_)
  have j:=j.gm (i:=0) rfl
  obtain⟨ak,hN,hb⟩:=bd hb
  refine RC.fold (fun(ab:Nat) (ak: (List Int)) U w=>∃a0:Value,SH E V [(0,vp b0 0),(3,vp ag 0),(4,a0),(11,v0_2),(12,vi p0_2.length),(13,vi ai),(20,v0_5),(21,vi p0_5.length),(22,vi ab)] [bc 67 b0 [v0_0,v0_1,v0_2,v0_3,v0_4,v0_5,ah,v0_7,v0_8,v0_9,v0_10,v0_11],rd v0_2 p0_2,rd v0_5 p0_5,own 56 ah af,pt (vp ag 0) aj,own 3 a0 ak] U w) (fun(ak: (List Int)) U w=>∃ao:Value,SH E V [(0,vp b0 0),(4,ao),(11,v0_2),(12,vi p0_2.length),(13,vi ai)] [bc 67 b0 [v0_0,v0_1,v0_2,v0_3,v0_4,v0_5,ah,v0_7,v0_8,v0_9,v0_10,v0_11],rd v0_2 p0_2,rd v0_5 p0_5,own 56 ah af,pt (vp ag 0) aj,own 3 ao ak] U w) hN ?_ ?_ ?_ ?_
  ·have j:=j.dH Int 3
   exact⟨(.slice none 0 0),j.sp 8 [4,6,7,5,1,0]⟩
  ·rintro hm ak _ w ⟨a6,O,rfl,j⟩
   refine RC.sr (ic ((p0_5.length:Int)) ((p0_5.length:Int)) (RL.nq (RC.cT m4 (RC.ex ?_))))
   exact⟨rfl,a6,j.sp 6 [0,1,2,3,4,5]⟩
  ·rintro hm ab ak s' _ w hk ⟨ar,O,rfl,j⟩ hb
   refine RC.sr (ic ((ab:Int)) ((p0_5.length:Int)) (RL.nq (RC.cS (m0 hk) (RC.ss (RC.bs (mv (vi ab) ?_))))))
   obtain⟨aw,a7,hb⟩:=bd hb
   refine RL.cC 2 j FR a7 fun bm j=>(RL.bT 0 aw j Be fun bn j=>(RL.alloc j Da.z fun bo w j=>?_))
   refine aO (vi ab) (RL.bG 0 j 1 zr Be fun w j=>?_)
   refine RL.nq ?_
   obtain⟨ax,o,hb⟩:=bd hb
   refine RC.jn (fun(ax:Bool)=>SH E V [(0,vp b0 0),(3,vp ag 0),(4,ar),(5,vi ab),(11,v0_2),(12,vi p0_2.length),(13,vi ai),(20,v0_5),(21,vi p0_5.length),(22,vi ab),(40,vb ax)] [bc 67 b0 [v0_0,v0_1,v0_2,v0_3,v0_4,v0_5,ah,v0_7,v0_8,v0_9,v0_10,v0_11],rd v0_2 p0_2,rd v0_5 p0_5,own 56 ah af,pt (vp ag 0) aj,own 3 ar ak]) ax ?_ ?_
   ·refine RC.region (RL.gS 7 j zr xY qU fun bp j=>(RL.bK aj.gE 0 j uQ (mv (vb aj.gE) (gv o (fun ad o=>?_) fun ad o=>?_))))
    rotate_left
    ·refine bS ad (bS ad (bS ad (bS ad (gx ad (vb false) (mv (vb false) (n8 (n8 (n8 ?_))))))))
     refine n8 (RL.pick false (vb false) zr (RL.nil ?_))
     obtain rfl:=oi o
     exact⟨rfl,j.sp 10 [4,5,6,7,8,9]⟩
    refine RL.bT (hg:=(cg ad)) 8 aj j nG fun a8 j=>(RL.bA (hg:=(cg ad)) zr Bf (RL.aN (hg:=(cg ad)) 2 j zr nP cH ?_))
    obtain⟨a1,a9,o⟩:=bd o
    refine RL.call (cg ad) zr FO [a8,(vi aw.eK)] zr (aF (lF N (p1:=aw.eK) (i0:=0) j zr a9) ?_)
    rintro _ w ⟨rfl,j⟩
    refine gx ad (vb a1) (mv (vb a1) (gv o (fun ae o=>?_) fun ae o=>?_))
    rotate_left
    ·refine bS ae (bS ae (bS ae (bS ae (gx ae (vb false) (RL.nil ?_)))))
     obtain rfl:=oi o
     exact⟨rfl,j.sp 11 [5,6,7,8,9,10]⟩
    refine RL.bA (hg:=(cg ae)) zr Bg (RL.aX (hg:=(cg ae)) 2 j zr nQ xU fun ba j=>(RL.makeFunc (hg:=(cg ae)) [(vp ag 0)] ?_))
    obtain⟨bb,bf,o⟩:=bd o
    refine RL.call (cg ae) rfl GW [ba,(.func (.func 53) #[] #[(vp ag 0)])] rfl (aF (jO N (i0:=0) j rfl ⟨53,[(vp ag 0)],rfl,IF,fun w Γl v y0 r i j hi hr=>by exact aF (oj N (i0:=i) (i1:=Γl.length+10) j hi (xE rfl) hr) fun _ _ h=>h⟩ bf) ?_)
    rintro _ w ⟨rfl,j⟩
    refine gx ae (vb bb) (RL.nil ?_)
    obtain rfl:=oi o
    exact⟨rfl,j.sp 12 [6,7,8,9,10,11]⟩
   rintro _ w ⟨O,rfl,j⟩
   refine aG ?_
   obtain⟨ay,o,hb⟩:=bd hb
   refine RC.jn (fun(ay: (List Int)) U w=>∃au:Value,SH E V [(0,vp b0 0),(3,vp ag 0),(4,au),(11,v0_2),(12,vi p0_2.length),(13,vi ai),(20,v0_5),(21,vi p0_5.length),(22,vi ab)] [bc 67 b0 [v0_0,v0_1,v0_2,v0_3,v0_4,v0_5,ah,v0_7,v0_8,v0_9,v0_10,v0_11],rd v0_2 p0_2,rd v0_5 p0_5,own 56 ah af,pt (vp ag 0) aj,own 3 au ay] U w) ay ?_ ?_
   ·refine fq o (fun hc o=>?_) fun hc o=>?_
    rotate_left
    ·refine RC.skip ?_
     obtain rfl:=oi o
     exact⟨rfl,ar,j.sp 6 [0,1,2,3,4,5]⟩
    refine RC.region (mv ar (mv (vi ab) ?_))
    have j:=j.sc Int (ab:Int)
    refine RL.eY ([(ab:Int)]: (List Int)) j [(vi ab)] eF CB (fun M hs g=>⟨(g.sat 0 _ zr).1,zt⟩) fun bq w j=>?_
    have j:=j.freeze 0
    obtain⟨br,bh,o⟩:=bd o
    refine RL.app 7 0 j sV bh fun a2 w j=>?_
    refine aO a2 (RL.nil ?_)
    obtain rfl:=oi o
    exact⟨rfl,a2,j.sp 8 [2,3,4,5,6,7]⟩
   rintro _ w ⟨au,O,rfl,j⟩
   refine bU (aG (RC.region (RL.inc hk hm (mv (vi ((ab+1:Nat):Int)) (RL.nil ?_)))))
   obtain rfl:=oi hb
   exact⟨rfl,au,j.sp 6 [0,1,2,3,4,5]⟩
  rintro _ w ⟨ao,O,rfl,j⟩
  refine aG (RC.region (mv (vp b0 0) (mv (vp b0 0) (RL.nilCheck zr (RL.bA zr xZ (RL.bB 0 ah j Ex (mv ao ?_)))))))
  have j:=j.freeze 5
  refine RL.eY ([ak]: (List (List Int))) j [ao] Au GX (fun M hs g=>⟨(g.sat 5 _ zr).1,zt⟩) fun bt w j=>?_
  have j:=j.freeze 0
  obtain⟨bu,bj,hb⟩:=bd hb
  refine RL.app 4 0 j GY bj fun a3 w j=>?_
  refine RL.nilCheck zr (RL.bA zr xZ (RL.g9 1 a3 j zr zr (iI 4 j) Ex fun w j=>?_))
  refine RL.nil (bU (aG (RC.region (RL.inc hk hm (mv (vi ((ai+1:Nat):Int)) (RL.nil ?_))))))
  obtain rfl:=oi hb
  exact⟨rfl,a3,j.sp 7 [1,4,2,3]⟩
 rintro _ w ⟨aq,O,rfl,j⟩
 obtain rfl:=oi hb
 refine yE ?_
 exact Ed zr ⟨aq,zr,j.pk 4 [0,1]⟩
def r8 (E:World) (V:List HP) (res: ((List Int))) (v:Value) (w:World):Prop:=∃(ub0:Nat) (u0_0:Value),v=vp ub0 0/\Holds E w ([bc 121 ub0 [u0_0],own 3 u0_0 res]++V)
theorem mH {res: ((List Int))} (j:Holds E w V) (hb:gY N p0=some res):
    Calls bD 31 [(vi p0)].toArray w (gR (r8 E V res)):=by
 unfold gY at hb
 refine enter Tryz.func31 zr zr (RC.sr (aO (.pointer none) (RL.ns (mv (vi p0) ?_))))
 obtain⟨af,aj,hb⟩:=bd hb
 refine RL.mk p0 j sV Ge aj fun o w j=>?_
 refine RL.CK (zs:=[(.slice none 0 0)]) (cs:=[o]) zt zr [(0,o)] zr GZ ⟨(iI 0 j),zt⟩ zr (RL.A4 (cs:=[o]) zt zr j zr (yT.all (⟨(iI 0 j),zt⟩:yT [o])) fun ab w j=>?_)
 refine aO (vp ab 0) (RL.nq (RC.sr (mv (vp ab 0) (RL.nilCheck zr (RL.bA zr mT (RL.bB 0 o j fF (RL.fU 1 af j lM (mv (vi 0) ?_))))))))
 refine RL.nt ?_
 obtain⟨ae,hN,hb⟩:=bd hb
 refine RC.fold (fun(ad:Nat) (ae: (List Int))=>SH E V [(3,vp ab 0),(13,vi af.length),(14,vi ad)] [bc 121 ab [o],own 3 o ae]) (fun(ae: (List Int))=>SH E V [(3,vp ab 0)] [bc 121 ab [o],own 3 o ae]) hN ?_ ?_ ?_ ?_
 ·exact j.sp 2 [0,1]
 ·rintro hm ae _ w ⟨O,rfl,j⟩
  refine RC.sr (ic ((af.length:Int)) ((af.length:Int)) (RL.nq (RC.cT m4 (RC.ex ?_))))
  exact⟨rfl,j.sp 2 [0,1]⟩
 ·rintro hm ad ae s' _ w hk ⟨O,rfl,j⟩ hb
  refine RC.sr (ic ((ad:Int)) ((af.length:Int)) (RL.nq (RC.cS (m0 hk) (RC.ss (RC.bs (mv (vi ad) (aO (vi ad) (RL.nt ?_))))))))
  refine RC.region (mv (vp ab 0) (RL.nilCheck zr (RL.bA zr mT (RL.bB 0 o j fF (mv (vi ad) (mv (vi ad) ?_))))))
  obtain⟨al,ag,hb⟩:=bd hb
  refine RL.bJ 1 j zr zr eF ag ?_
  have j:=j.sc Int (ad:Int)
  refine RL.gj (f:=(fun _ y=>y)) 2 0 j (jv 2 j ag 0) (aY ag).2.1 zr Fs.self cH fun w j=>?_
  refine RL.nil (bU (aG (RC.region (RL.inc hk hm (mv (vi ((ad+1:Nat):Int)) (RL.nil ?_))))))
  obtain rfl:=oi hb
  exact⟨rfl,j.sp 3 [1,2]⟩
 rintro _ w ⟨O,rfl,j⟩
 refine aG (RC.sr (mv (vp ab 0) (aO (vp ab 0) (RL.nt (RC.ret ?_)))))
 obtain rfl:=oi hb
 exact cD ⟨ab,o,zr,j.pk 2 [0,1]⟩
def rB (E:World) (V:List HP) (b0:Nat) (res:Int×(List Int)) (v:Value) (w:World):Prop:=∃u0_0:Value,v= (vi res.1)/\Holds E w ([bc 121 b0 [u0_0],own 3 u0_0 res.2]++V)
theorem fN {p0_0: (List Int)} {res:Int×(List Int)} (j:Holds E w (bc 121 b0 [v0_0]::own 3 v0_0 p0_0::V)) (o:dC N p0_0 p1=some res):
    Calls bD 34 [(vp b0 0),(vi p1)].toArray w (gR (rB E V b0 res)):=by
 unfold dC at o
 refine enter Tryz.func34 zr zr (RC.sr (aO (vi 0) (RL.nq ?_)))
 obtain⟨an,hN,o⟩:=bd o
 refine RC.iter (fun(aa: (List Int)×Int)=>SH E V [(0,vp b0 0),(1,vi aa.2)] [bc 121 b0 [v0_0],own 3 v0_0 aa.1]) (fun(aa: (List Int)×Int)=>SH E V [(0,vp b0 0),(1,vi aa.2)] [bc 121 b0 [v0_0],own 3 v0_0 aa.1]) (fun(r:Empty) _ _=>r.elim) hN ?_ ?_ ?_ ?_
 ·exact j.sp 2 [0,1]
 ·rintro aa fl _ w ⟨O,rfl,j⟩ o
  refine RC.seq (RC.sr (mv (vp b0 0) (RL.nilCheck zr (RL.bA zr mT (RL.bB 0 v0_0 j fF (mv (vi aa.2) ?_))))))
  obtain⟨ai,ab,o⟩:=bd o
  refine RL.bJ 1 j zr zr eF ab (RL.cO (f:=(fun x=>x)) 1 j (jv 1 j ab 0) (aY ab).2.1 Fd.self cH (mv (vi aa.2) (ic ai aa.2 (RL.nt (fq o (fun hc o=>?_) fun hc o=>?_)))))
  rotate_left
  ·refine RC.ex ?_
   obtain rfl:=oi o
   exact⟨rfl,j.sp 2 [0,1]⟩
  refine RC.sn (RC.block (RC.seq (RC.wz mixed [0,0,0,0,0,0,0,0,0,0,0,0,0,0,0,0,0,0,0,2] [0,1,2,3,4,5,6,7,8,9,10,11,12,13,14,15,16,17,18,19] ?_)))
  have j:=j.drew
  refine DP.e0 zr (mv (vp b0 0) (bZ zr (RL.nilCheck zr (bZ zr (RL.bA zr mT (bZ zr (RL.bB 0 v0_0 j fF (bZ zr ?_))))))))
  refine mv (vi aa.2) (bZ zr (mv (vp b0 0) (bZ zr (RL.nilCheck zr (bZ zr (RL.bA zr mT (bZ zr (RL.bB 0 v0_0 j fF ?_))))))))
  refine bZ zr (mv (vp b0 0) (bZ zr (RL.nilCheck zr (bZ zr (RL.bA zr mT (bZ zr (RL.bB 0 v0_0 j fF (bZ zr ?_))))))))
  refine mv (vi aa.2) (bZ zr ?_)
  obtain⟨aq,ad,o⟩:=bd o
  refine RL.bJ 1 j zr zr eF ad (bZ zr (RL.cO (f:=(fun x=>x)) 1 j (jv 1 j ad 0) (aY ad).2.1 Fd.self cH (bZ zr ?_)))
  obtain⟨ak,ae,o⟩:=bd o
  refine RL.bJ 1 j zr zr eF ae (bZ zr (RL.cO (f:=(fun x=>x)) 1 j (jv 1 j ae 0) (aY ae).2.1 Fd.self cH (bZ zr ?_)))
  obtain⟨ar,af,o⟩:=bd o
  refine RL.bJ 1 j zr zr eF af (sB zr ?_)
  have j:=j.sc Int ak
  refine RL.gj (f:=(fun _ y=>y)) 2 0 j (jv 2 j af 0) (aY af).2.1 zr Fs.self cH fun w j=>?_
  refine DP.d2 zt (DP.z (aG (RC.region (mv (vp b0 0) (RL.nilCheck zr (RL.bA zr mT (RL.bB 1 v0_0 j fF (mv (vi aa.2) ?_))))))))
  obtain⟨al,ag,o⟩:=bd o
  refine RL.bJ 2 j zr zr eF ag (RL.cO (f:=(fun x=>x)) 2 j (jv 2 j ag 0) (aY ag).2.1 Fd.self cH (aO (vi al) (RL.nil (bU ?_))))
  obtain rfl:=oi o
  exact⟨rfl,j.sp 3 [1,2]⟩
 ·intro r _ _ _ _
  exact r.elim
 rintro aa _ w rfl ⟨O,rfl,j⟩
 rw [Fo.fZ] at o
 refine aG (RC.sr (mv (vi aa.2) (aO (vi aa.2) (RL.nt (RC.ret ?_)))))
 obtain rfl:=oi o
 exact cD ⟨v0_0,zr,j.pk 2 [0,1]⟩
def qw (E:World) (V:List HP) (b0:Nat) (res: (List Int)) (v:Value) (w:World):Prop:=∃u0_0:Value,v = .tuple #[]/\Holds E w ([bc 121 b0 [u0_0],own 3 u0_0 res]++V)
theorem lR {p0_0: (List Int)} {res: (List Int)} (j:Holds E w (bc 121 b0 [v0_0]::own 3 v0_0 p0_0::V)) (o:cV N p0_0 p1 p2=some res):
    Calls bD 33 [(vp b0 0),(vi p1),(vi p2)].toArray w (gR (qw E V b0 res)):=by
 unfold cV at o
 refine enter Tryz.func33 zr zr (RC.sr (mv (vp b0 0) (mv (vi p1) ?_)))
 have j:=(j.pull 1).pull 1
 obtain⟨aa,af,o⟩:=bd o
 refine RL.call zt zr B2 [(vp b0 0),(vi p1)] zr (aF (fN N (p1:=p1) j af) ?_)
 rintro _ w ⟨ah,rfl,j⟩
 refine mv (vp b0 0) (mv (vi p2) ?_)
 have j:=(j.pull 1).pull 1
 obtain⟨ab,ag,o⟩:=bd o
 refine RL.call zt zr B2 [(vp b0 0),(vi p2)] zr (aF (fN N (p1:=p2) j ag) ?_)
 rintro _ w ⟨ae,rfl,j⟩
 refine aO (vi aa.1) (aO (vi ab.1) (RL.nt (RC.region (mv (vp b0 0) (RL.nilCheck zr (RL.bA zr mT (RL.bB 0 ae j fF (mv (vi aa.1) ?_))))))))
 refine mv (vi ab.1) (RL.max aa.1 ab.1 (mv (vi aa.1) (mv (vi ab.1) (RL.min aa.1 ab.1 ?_))))
 obtain⟨ai,ad,o⟩:=bd o
 refine RL.bJ 1 j zr zr eF ad ?_
 have j:=j.sc Int (if ab.1<aa.1 then ab.1 else aa.1)
 refine RL.gj (f:=(fun _ y=>y)) 2 0 j (jv 2 j ad 0) (aY ad).2.1 zr Fs.self cH fun w j=>?_
 refine RL.nil ?_
 obtain rfl:=oi o
 refine yE ?_
 exact Ed zr ⟨ae,zr,j.pk 7 [1,2]⟩
def qx (E:World) (V:List HP) (b0:Nat) (res: (List (List Int))×(List Int)) (v:Value) (w:World):Prop:=∃u0 u0_0:Value,v=u0/\Holds E w ([own 56 u0 res.1,bc 121 b0 [u0_0],own 3 u0_0 res.2]++V)
theorem pK {p0_0: (List Int)} {res: (List (List Int))×(List Int)} (o:Holds E w (bc 121 b0 [v0_0]::own 3 v0_0 p0_0::V)) (hb:hZ N p0_0=some res):
    Calls bD 55 [(vp b0 0)].toArray w (gR (qx E V b0 res)):=by
 unfold hZ at hb
 refine enter Tryz.func55 zr zr (RC.sr (aO (.slice none 0 0) (RL.ns (aO (.slice none 0 0) (RL.ns (RL.makeMap (κ:=Int) (ν:=Int) zr o fun ao w o=>(aO ao (RL.nq ?_))))))))
 refine RC.sr (mv (vp b0 0) (RL.nilCheck zr (RL.bA zr mT (RL.bB 1 v0_0 o fF (RL.fU 2 p0_0 o lM (mv (vi 0) (RL.nt ?_)))))))
 obtain⟨an,hN,hb⟩:=bd hb
 refine RC.fold (fun(ai:Nat) (an: (List Int)×(List (List Int))×(List (Int×Int))) U w=>∃(a3 a4:Value) (us110:List RV),SH E V [(0,vp b0 0),(3,a4),(4,ao),(12,vi p0_0.length),(13,vi ai)] [bc 121 b0 [a3],own 3 a3 an.1,mp ao an.2.2,own 56 a4 us110,iv (XS 3 Int) us110 an.2.1 none] U w) (fun(an: (List Int)×(List (List Int))×(List (Int×Int))) U w=>∃(aw au:Value) (us113:List RV),SH E V [(0,vp b0 0),(3,au)] [bc 121 b0 [aw],own 3 aw an.1,mp ao an.2.2,own 56 au us113,iv (XS 3 Int) us113 an.2.1 none] U w) hN ?_ ?_ ?_ ?_
 ·have o:=(o.xJ (XS 3 Int)).dH RV 56
  exact⟨v0_0,(.slice none 0 0),([]:List RV),o.sp 5 [3,4,2,0,1]⟩
 ·rintro hm an _ w ⟨ba,bb,us153,O,rfl,o⟩
  refine RC.sr (ic ((p0_0.length:Int)) ((p0_0.length:Int)) (RL.nq (RC.cT m4 (RC.ex ?_))))
  exact⟨rfl,ba,bb,us153,o.sp 5 [0,1,2,3,4]⟩
 ·rintro hm ai an s' _ w hk ⟨bk,a0,us116,O,rfl,o⟩ hb
  refine RC.sr (ic ((ai:Int)) ((p0_0.length:Int)) (RL.nq (RC.cS (m0 hk) (RC.ss (RC.bs (mv (vi ai) (aO (vi ai) (RL.ns ?_))))))))
  refine mv (vp b0 0) (mv (vi ai) ?_)
  have o:=(o.pull 1).pull 1
  obtain⟨ab,bf,hb⟩:=bd hb
  refine RL.call zt zr B2 [(vp b0 0),(vi ai)] zr (aF (fN N (p1:=(ai:Int)) o bf) ?_)
  rintro _ w ⟨av,rfl,o⟩
  refine aO (vi ab.1) (RL.nq (RC.sr (mv (vi ab.1) (mv (vi ai) (ic ab.1 ((ai:Int)) (RL.nt ?_))))))
  obtain⟨aa,hj,hb⟩:=bd hb
  refine RC.jn (fun(aa: (List (List Int))×(List (Int×Int))) U w=>∃(al:Value) (us124:List RV),SH E V [(0,vp b0 0),(3,al),(4,ao),(5,vi ai),(6,vi ab.1),(12,vi p0_0.length),(13,vi ai)] [bc 121 b0 [av],own 3 av ab.2,mp ao aa.2,own 56 al us124,iv (XS 3 Int) us124 aa.1 none] U w) aa ?_ ?_
  ·refine fq hj (fun hc hj=>?_) fun hc hj=>?_
   rotate_left
   ·refine RC.skip ?_
    obtain rfl:=oi hj
    exact⟨rfl,a0,us116,o.sp 7 [0,1,4,5,6]⟩
   refine RC.sr (mv ao (mv (vi ai) (mv a0 (RL.pR 5 6 an.2.1 zr o zr zr zr Ey ?_))))
   have o:=o.sc Int (an.2.1.length:Int)
   refine RL.mapUpdate 5 0 (ai:Int) o zr zr zr zr zr zo fun w o=>(RL.nt (RC.region (mv a0 ?_)))
   have o:=(o.dH Int 3).A2 (i:=0) rfl
   refine RL.eY ([rv (.slice none 0 0)]:List RV) o [(.slice none 0 0)] Au GX (fun M hs g=>⟨(g.sat 0 _ zr).1,zt⟩) fun bl w o=>?_
   obtain⟨bm,bh,hj⟩:=bd hj
   have o:=o.freeze 0
   refine RL.yY 9 0 10 2 zt zr o zr zr zr zr zr zr GY bh fun a7 w o=>?_
   refine aO a7 (RL.nil ?_)
   obtain rfl:=oi hj
   exact⟨rfl,a7,(us116++[rv (.slice none 0 0)]),o.sp 11 [4,5,8,9,10]⟩
  rintro _ w ⟨al,us124,O,rfl,o⟩
  refine aG ?_
  obtain⟨iR,ax,hb⟩:=bd hb
  obtain⟨ar,bj,hb⟩:=bd hb
  obtain⟨bn,a1,hb⟩:=bd hb
  refine RC.CA E V mixed [1,1,1,0,1,1,1,0,0,0,1,0,0,0,0] [11,12,14] (fun(x:Value×Value)=>(fun ak ag=>[(0,29,al),(1,30,ao),(2,31,(vi ab.1)),(3,32,(vi (cZ aa.2 ab.1 (0:Int)))),(4,33,al),(5,34,ao),(6,35,(vi ab.1)),(7,36,(vi (cZ aa.2 ab.1 (0:Int)))),(8,37,(yz al (Int.toNat (cZ aa.2 ab.1 (0:Int))) 1 0)),(9,38,(us124.getD (Int.toNat (cZ aa.2 ab.1 (0:Int))) yA).v),(10,39,(vi ai)),(11,40,ak),(12,41,ag),(13,42,(yz al (Int.toNat (cZ aa.2 ab.1 (0:Int))) 1 0))]) x.1 x.2) [(0,vp b0 0),(3,al),(4,ao),(5,vi ai),(6,vi ab.1),(12,vi p0_0.length),(13,vi ai)] [] (fun(D:Nat->Bool) (x:Value×Value)=>(fun ak ag=>[bif D 1 then (rd ak ([(ai:Int)]: (List Int))) else (bif D 0 then (own 3 ak ([(ai:Int)]: (List Int))) else aV),bif D 2 then aV else (bif D 1 then (own 3 ag ar) else aV),bc 121 b0 [av],own 3 av ab.2,mp ao aa.2,bif D 2 then (own 56 al (us124.set (Int.toNat (cZ aa.2 ab.1 (0:Int))) (rv ag))) else (own 56 al us124),bif D 2 then (iv (XS 3 Int) (us124.set (Int.toNat (cZ aa.2 ab.1 (0:Int))) (rv ag)) (aa.1.set (Int.toNat (cZ aa.2 ab.1 (0:Int))) ar) none) else (bif D 1 then (iv (XS 3 Int) us124 aa.1 (some (Int.toNat (cZ aa.2 ab.1 (0:Int))))) else (iv (XS 3 Int) us124 aa.1 none))]) x.1 x.2) (fun x=>by kernel_rfl) ?_ ⟨fun _=>jd gn,fun _=>jd gn,fun _=>jd gn,?_,fun _=>jd gn,fun _=>jd gn,fun _=>jd gn,?_,?_,?_,fun _=>jd gn,?_,?_,?_,?_,trivial⟩ ?_
  ·have o:=((o.drew).aV).aV
   exact⟨(undef,undef),dY.none,(Ba zr),zt,o⟩
  ·rintro D U w hD ah ae ⟨⟨ak,ag⟩,hv,ha,_,o⟩
   obtain⟨O,rfl⟩:=(ac (hv.at 1 rfl (ah.1 rfl)) (ac (hv.at 2 rfl (ah.2.1 rfl)) az)).eU
   refine RL.ox 4 ab.1 zt o zo ?_
   exact RL.nil ⟨rfl,(ak,ag),hv.pu 3,ha.u,zt,o⟩
  ·rintro D U w hD ah ae ⟨⟨ak,ag⟩,hv,ha,_,o⟩
   obtain⟨O,rfl⟩:=(ac (hv.at 5 rfl (ah.1 rfl)) (ac (hv.at 6 rfl (ah.2.1 rfl)) az)).eU
   refine RL.ox 4 ab.1 zt o zo ?_
   exact RL.nil ⟨rfl,(ak,ag),hv.pu 7,ha.u,zt,o⟩
  ·rintro D U w hD ah ae ⟨⟨ak,ag⟩,hv,ha,_,o⟩
   obtain⟨O,rfl⟩:=(ac (hv.at 4 rfl (ah.1 rfl)) (ac (hv.at 7 rfl (ah.2.1 rfl)) az)).eU
   have o:=((o.bV 5 (nh ae hD 14)).bV 6 (nh ae hD 14)).bV 6 (nf (fun h=>ft hD ((ae 9 _ rfl ((ae 12 _ rfl h).1 rfl)).1 rfl)))
   have hl141:=o.gD 6 rfl
   have hr142:=jh yA hl141 ax
   refine RL.bJ 5 o zr zr Au hr142 ?_
   have o:=(o.eR 5 (D 14) (nh ae hD 14) (own 56 al (us124.set (Int.toNat (cZ aa.2 ab.1 (0:Int))) (rv ag)))).eR 6 (D 12) (nf (fun h=>ft hD ((ae 9 _ rfl ((ae 12 _ rfl h).1 rfl)).1 rfl))) (iv (XS 3 Int) us124 aa.1 (some (Int.toNat (cZ aa.2 ab.1 (0:Int)))))
   have o:=o.eR 6 (D 14) (nh ae hD 14) (iv (XS 3 Int) (us124.set (Int.toNat (cZ aa.2 ab.1 (0:Int))) (rv ag)) (aa.1.set (Int.toNat (cZ aa.2 ab.1 (0:Int))) ar) none)
   exact RL.nil ⟨rfl,(ak,ag),hv.pu 8,ha.u,zt,o⟩
  ·rintro D U w hD ah ae ⟨⟨ak,ag⟩,hv,ha,_,o⟩
   obtain⟨O,rfl⟩:=(ac (hv.at 8 rfl (ah.1 rfl)) az).eU
   have o:=((o.bV 5 (nh ae hD 14)).bV 6 (nh ae hD 14)).bV 6 (nh ae hD 12)
   have hl143:=o.gD 6 rfl
   have hr144:=jh yA hl143 ax
   refine RL.tP 5 6 (cZ aa.2 ab.1 (0:Int)) (w6 3 Int) yA zr o zr (jv 5 o hr144 0) zr zr ax fF ?_
   have o:=(o.eR 5 (D 14) (nh ae hD 14) (own 56 al (us124.set (Int.toNat (cZ aa.2 ab.1 (0:Int))) (rv ag)))).eR 6 (D 12) (nh ae hD 12) (iv (XS 3 Int) us124 aa.1 (some (Int.toNat (cZ aa.2 ab.1 (0:Int)))))
   have o:=o.eR 6 (D 14) (nh ae hD 14) (iv (XS 3 Int) (us124.set (Int.toNat (cZ aa.2 ab.1 (0:Int))) (rv ag)) (aa.1.set (Int.toNat (cZ aa.2 ab.1 (0:Int))) ar) none)
   exact RL.nil ⟨rfl,(ak,ag),hv.pu 9,ha.u,zt,o⟩
  ·rintro D U w hD ah ae ⟨⟨ak,ag⟩,hv,ha,_,o⟩
   obtain⟨O,rfl⟩:=(ac (hv.at 10 rfl (ah.1 rfl)) az).eU
   have o:=((o.bV 0 (nh ae hD 12)).bV 0 hD).sc Int (ai:Int)
   refine RL.eY ([(ai:Int)]: (List Int)) o [(vi ai)] eF CB (fun M hs g=>⟨(g.sat 0 _ zr).1,zt⟩) fun a8 w o=>?_
   have o:=((o.pl 9 [0,3,4,5,6,7,8]).cF 0 true aV).eR 0 (D 12) (nh ae hD 12) (rd a8 ([(ai:Int)]: (List Int)))
   exact RL.nil ⟨rfl,(a8,ag),hv.pu 11,ha.u,zt,o⟩
  ·rintro D U w hD ah ae ⟨⟨ak,ag⟩,hv,ha,_,o⟩
   obtain⟨O,rfl⟩:=(ac (hv.at 9 rfl (ah.1 rfl)) (ac (hv.at 11 rfl (ah.2.1 rfl)) az)).eU
   have o:=(((((((o.bV 0 hD).cE 0 (ah.2.1 rfl)).bV 1 (nh ae hD 14)).bV 1 hD).bV 5 (nh ae hD 14)).bV 6 (nh ae hD 14)).bV 6 hD).xK (j:=6) (jj:=(cZ aa.2 ab.1 (0:Int))) (w6 3 Int) yA rfl ax
   have o:=o.freeze 1
   refine RL.app 0 1 o sV bj fun a2 w o=>?_
   have o:=((((o.pl 8 [1,0,3,4,5,6,7]).cF 0 true (bif D 11 then (own 3 ak ([(ai:Int)]: (List Int))) else aV)).cF 1 true aV).eR 1 (D 14) (nh ae hD 14) aV).eR 5 (D 14) (nh ae hD 14) (own 56 al (us124.set (Int.toNat (cZ aa.2 ab.1 (0:Int))) (rv a2)))
   have o:=(o.cF 6 true (iv (XS 3 Int) us124 aa.1 none)).eR 6 (D 14) (nh ae hD 14) (iv (XS 3 Int) (us124.set (Int.toNat (cZ aa.2 ab.1 (0:Int))) (rv a2)) (aa.1.set (Int.toNat (cZ aa.2 ab.1 (0:Int))) ar) none)
   exact RL.nil ⟨rfl,(ak,a2),hv.pu 12,ha.u,zt,o⟩
  ·rintro D U w hD ah ae ⟨⟨ak,ag⟩,hv,ha,_,o⟩
   obtain⟨O,rfl⟩:=(ac (hv.at 0 rfl (ah.1 rfl)) (ac (hv.at 3 rfl (ah.2.1 rfl)) az)).eU
   have o:=((o.bV 5 (nh ae hD 14)).bV 6 (nh ae hD 14)).cE 6 (ah.2.2.2.2.2.2.2.2.2.2.2.2.2.2.1 rfl)
   have hl147:=o.gD 6 rfl
   have hr148:=jh yA hl147 a1
   refine RL.bJ 5 o zr zr Au hr148 ?_
   have o:=(o.eR 5 (D 14) (nh ae hD 14) (own 56 al (us124.set (Int.toNat (cZ aa.2 ab.1 (0:Int))) (rv ag)))).cF (hb:=ah.2.2.2.2.2.2.2.2.2.2.2.2.2.2.1 rfl) 6 (D 12) (iv (XS 3 Int) us124 aa.1 none)
   have o:=o.eR 6 (D 14) (nh ae hD 14) (iv (XS 3 Int) (us124.set (Int.toNat (cZ aa.2 ab.1 (0:Int))) (rv ag)) (aa.1.set (Int.toNat (cZ aa.2 ab.1 (0:Int))) ar) none)
   exact RL.nil ⟨rfl,(ak,ag),hv.pu 13,ha.u,zt,o⟩
  ·rintro D U w hD ah ae ⟨⟨ak,ag⟩,hv,ha,_,o⟩
   obtain⟨O,rfl⟩:=(ac (hv.at 12 rfl (ah.2.1 rfl)) (ac (hv.at 13 rfl (ah.1 rfl)) az)).eU
   have o:=((((o.bV 1 hD).cE 1 (ah.2.1 rfl)).bV 5 hD).bV 6 hD).cE 6 (ah.2.1 rfl)
   have hl149:=o.gD 6 rfl
   have hr150:=jh yA hl149 a1
   refine RL.rR 5 6 1 (cZ aa.2 ab.1 (0:Int)) (w6 3 Int) yA o zr zr (jv 5 o hr150 0) zr zr zr a1 fF fun w o=>?_
   have o:=((o.cF 1 true (bif D 12 then (own 3 ag ar) else aV)).cF 5 true (own 56 al us124)).cF 6 true (bif D 12 then (iv (XS 3 Int) us124 aa.1 (some (Int.toNat (cZ aa.2 ab.1 (0:Int))))) else (iv (XS 3 Int) us124 aa.1 none))
   exact RL.nil ⟨rfl,(ak,ag),hv.n1,ha,zt,o⟩
  rintro D U w ay ⟨⟨ak,ag⟩,hv,ha,_,o⟩
  have o:=(((o.cE 0 (jy ay 12)).cE 1 (jy ay 14)).cE 5 (jy ay 14)).cE 6 (jy ay 14)
  obtain⟨O,rfl⟩:=(ac (ha.at 0 rfl) (ac (ha.at 1 rfl) (ac (ha.at 2 rfl) (ac (ha.at 3 rfl) (ac (ha.at 4 rfl) (ac (ha.at 5 rfl) (ac (ha.at 6 rfl) az))))))).eU
  refine bU (aG (RC.region (RL.inc hk hm (mv (vi ((ai+1:Nat):Int)) (RL.nil ?_)))))
  obtain rfl:=oi hb
  exact⟨rfl,av,al,(us124.set (Int.toNat (cZ aa.2 ab.1 (0:Int))) (rv ag)),o.sp 7 [2,3,4,5,6]⟩
 rintro _ w ⟨aw,au,us113,O,rfl,o⟩
 refine aG (RC.sr (mv au (aO au (RL.nt (RC.ret ?_)))))
 obtain rfl:=oi hb
 have o:=o.xL (X:=(XS 3 Int)) (b:=4) (j:=3) rfl (fun M h u x cs=>(E2 3) M h u x cs) rfl rfl (by decide)
 exact cD ⟨au,aw,zr,o.pk 5 [3,0,1]⟩
theorem pL {p0:aI} {p1:je} {res:Bool} (j:Holds E w V) (h0:V[i0]? =some (rd v0 p0)) (h1:V[i1]? =some (pt v1 p1)) (hb:jl N p0 p1=some res):
    Calls bD 93 [v0,v1].toArray w (gR (bF E V res)):=by
 unfold jl at hb
 refine enter Tryz.func93 zr zr ?_
 have j:=(j.dup (i0+0) h0).ve (i:=i1+1) h1
 refine RC.sr (RL.dD 1 v0 j zr fun ag w j=>?_)
 refine aO (vb false) (RL.nq ?_)
 obtain⟨af,o,hb⟩:=bd hb
 refine RC.jn (fun(af:Bool)=>SH E V [(3,vb af)] []) af ?_ ?_
 ·refine RC.region (RL.gS 1 j zr xW o6 fun ah j=>(RL.bK p1.X 0 j cH (RL.bA zr jm (RL.aN 1 j zr eX cH (ic p1.X p0.X0 (mv (vb (decide (p1.X>=p0.X0))) (gv o (fun aa o=>?_) fun aa o=>?_)))))))
  rotate_left
  ·refine bS aa (bS aa (bS aa (bS aa (bS aa (gx aa (vb false) (mv (vb false) (n8 (n8 ?_))))))))
   refine n8 (n8 (n8 (RL.pick false (vb false) zr (mv (vb false) (n8 (n8 (n8 (n8 ?_))))))))
   refine n8 (RL.pick false (vb false) zr (aO (vb false) (RL.nil ?_)))
   obtain rfl:=oi o
   exact⟨rfl,j.sp 4 []⟩
  refine RL.gS (hg:=(cg aa)) 2 j zr xW o6 fun ai j=>(RL.bK (hg:=(cg aa)) p1.X 0 j cH (RL.bA (hg:=(cg aa)) zr j4 (RL.aN (hg:=(cg aa)) 2 j zr fY cH (RL.jP p1.X p0.X1 (cg aa) (gx aa (vb (decide (p1.X<p0.X1))) (mv (vb (decide (p1.X<p0.X1))) (gv o (fun ab o=>?_) fun ab o=>?_)))))))
  rotate_left
  ·refine bS ab (bS ab (bS ab (bS ab (bS ab (gx ab (vb false) (mv (vb false) (n8 (n8 ?_))))))))
   refine n8 (n8 (n8 (RL.pick false (vb false) zr (aO (vb false) (RL.nil ?_)))))
   obtain rfl:=oi o
   exact⟨rfl,j.sp 5 []⟩
  refine RL.gS (hg:=(cg ab)) 3 j zr xX o7 fun aj j=>(RL.bK (hg:=(cg ab)) p1.Y 0 j cH (RL.bA (hg:=(cg ab)) zr j3 (RL.aN (hg:=(cg ab)) 3 j zr fM cH (RL.jP p1.Y p0.Y0 (cg ab) (gx ab (vb (decide (p1.Y>=p0.Y0))) (mv (vb (decide (p1.Y>=p0.Y0))) (gv o (fun ad o=>?_) fun ad o=>?_)))))))
  ·refine RL.gS (hg:=(cg ad)) 4 j zr xX o7 fun ak j=>(RL.bK (hg:=(cg ad)) p1.Y 0 j cH (RL.bA (hg:=(cg ad)) zr nj (RL.aN (hg:=(cg ad)) 4 j zr i9 cH (RL.jP p1.Y p0.Y1 (cg ad) (gx ad (vb (decide (p1.Y<p0.Y1))) (aO (vb (decide (p1.Y<p0.Y1))) (RL.nil ?_)))))))
   obtain rfl:=oi o
   exact⟨rfl,j.sp 7 []⟩
  refine bS ad (bS ad (bS ad (bS ad (bS ad (gx ad (vb false) (aO (vb false) (RL.nil ?_)))))))
  obtain rfl:=oi o
  exact⟨rfl,j.sp 6 []⟩
 rintro _ w ⟨O,rfl,j⟩
 refine aG (RC.ret ?_)
 obtain rfl:=oi hb
 exact cD ⟨rfl,j.drop 0⟩
theorem nu {p0: (List aI)} {p1:je} {res:Bool} (j:Holds E w V) (h0:V[i0]? =some (rd v0 p0)) (h1:V[i1]? =some (rd v1 p1)) (o:iE N p0 p1=some res):
    Calls bD 79 [v0,v1].toArray w (gR (bF E V res)):=by
 unfold iE at o
 refine enter Tryz.func79 zr zr ?_
 have j:=(j.dup (i0+0) h0).dup (i1+1) h1
 refine RC.sr (RL.dD 0 v1 j zr fun aa w j=>?_)
 have j:=j.gm (i:=0) rfl
 refine aO (vb false) (RL.ns (mv v0 (RL.makeFunc [(vp aa 0)] ?_)))
 obtain⟨ab,ad,o⟩:=bd o
 refine RL.call trivial rfl GW [v0,(.func (.func 93) #[] #[(vp aa 0)])] rfl (aF (jO N (i0:=2) j rfl ⟨93,[(vp aa 0)],rfl,IJ,fun w Γl v y0 r i j hi hr=>by exact aF (pL N (i0:=i) (i1:=Γl.length+0) j hi (xE rfl) hr) fun _ _ h=>h⟩ ad) ?_)
 rintro _ w ⟨rfl,j⟩
 refine aO (vb ab) (RL.nt (RC.ret ?_))
 obtain rfl:=oi o
 exact cD ⟨rfl,j.drop 3⟩
def ml (E:World) (V:List HP) (b0:Nat) (v0_0 v0_1:Value) (v0_2 v0_3:Value) (v0_4 v0_5:Value) (v0_6 v0_7:Value) (v0_8 v0_9:Value) (v0_10 v0_11:Value) (res:dO×Bool) (v:Value) (w:World):Prop:=∃u0:Value,v = .tuple #[u0,(vb res.2)]/\Holds E w ([rd u0 res.1,bc 67 b0 [v0_0,v0_1,v0_2,v0_3,v0_4,v0_5,v0_6,v0_7,v0_8,v0_9,v0_10,v0_11]]++V)
def mm (E:World) (V:List HP) (b0:Nat) (v0_0 v0_1:Value) (v0_2 v0_3:Value) (v0_4 v0_5:Value) (v0_6 v0_7:Value) (v0_8 v0_9:Value) (v0_10 v0_11:Value) (r:dO×Bool) (U:Nat->Value) (w:World):Prop:=lK bD 66 Tryz.f56 (ml E V b0 v0_0 v0_1 v0_2 v0_3 v0_4 v0_5 v0_6 v0_7 v0_8 v0_9 v0_10 v0_11 r) .ret U w
theorem pM {p0_2: (List bM)} {p0_5: (List aH)} {p1:cK} {res:dO×Bool} (j:Holds E w (bc 67 b0 [v0_0,v0_1,v0_2,v0_3,v0_4,v0_5,v0_6,v0_7,v0_8,v0_9,v0_10,v0_11]::rd v0_2 p0_2::rd v0_5 p0_5::V)) (h1:V[i1]? =some (rd v1 p1)) (o:ig N p0_2 p0_5 p1=some res):
    Calls bD 56 [(vp b0 0),v1].toArray w (gR (ml E V b0 v0_0 v0_1 v0_2 v0_3 v0_4 v0_5 v0_6 v0_7 v0_8 v0_9 v0_10 v0_11 res)):=by
 unfold ig at o
 refine enter Tryz.func56 zr zr ?_
 have j:=j.dup (i1+3) h1
 refine RC.sr (RL.dD 0 v1 j zr fun ah w j=>?_)
 have j:=j.gm (i:=0) rfl
 refine RL.alloc j Ez.z fun ae w j=>?_
 refine aO (vb false) (RL.nq (RC.sr (mv (vp b0 0) (RL.nilCheck zr (RL.bA zr lD (RL.bA zr lX (RL.bB 3 v0_2 j tX (RL.bE 4 p0_2 j vz ?_))))))))
 refine mv (vi 0) (RL.nt ?_)
 obtain⟨bn,hN,o⟩:=bd o
 refine RC.range (fun(af:Nat) (al:Unit)=>SH E V [(0,vp b0 0),(3,vp ah 0),(4,vp ae 0),(14,v0_2),(15,vi p0_2.length),(16,vi af)] [bc 67 b0 [v0_0,v0_1,v0_2,v0_3,v0_4,v0_5,v0_6,v0_7,v0_8,v0_9,v0_10,v0_11],rd v0_2 p0_2,rd v0_5 p0_5,pt (vp ah 0) p1,raw 70 ae 2]) (fun(al:Unit)=>SH E V [(0,vp b0 0),(3,vp ah 0),(4,vp ae 0)] [bc 67 b0 [v0_0,v0_1,v0_2,v0_3,v0_4,v0_5,v0_6,v0_7,v0_8,v0_9,v0_10,v0_11],rd v0_2 p0_2,rd v0_5 p0_5,pt (vp ah 0) p1,raw 70 ae 2]) (mm E V b0 v0_0 v0_1 v0_2 v0_3 v0_4 v0_5 v0_6 v0_7 v0_8 v0_9 v0_10 v0_11) hN ?_ ?_ ?_ ?_ ?_
 ·exact j.sp 6 [3,4,5,1,0]
 ·rintro hm al _ w ⟨O,rfl,j⟩
  refine RC.sr (ic ((p0_2.length:Int)) ((p0_2.length:Int)) (RL.nq (RC.cT m4 (RC.ex ?_))))
  exact⟨rfl,j.sp 5 [0,1,2,3,4]⟩
 ·rintro hm af al fl _ w hk ⟨O,rfl,j⟩ o
  refine RC.sr (ic ((af:Int)) ((p0_2.length:Int)) (RL.nq (RC.cS (m0 hk) (RC.ss (RC.bs (mv (vi af) ?_))))))
  obtain⟨ax,a0,o⟩:=bd o
  refine RL.cC 1 j xV a0 fun bo j=>(RL.bT 0 ax j nG fun bp j=>(RL.alloc j BW.z fun bq w j=>?_))
  refine aO (vi af) (RL.bG 0 j 1 zr nG fun w j=>?_)
  refine RL.nq ?_
  obtain⟨aq,hj,o⟩:=bd o
  refine RC.jn (fun(aq:Bool)=>SH E V [(0,vp b0 0),(3,vp ah 0),(4,vp ae 0),(6,vi af),(14,v0_2),(15,vi p0_2.length),(16,vi af),(36,vb aq)] [bc 67 b0 [v0_0,v0_1,v0_2,v0_3,v0_4,v0_5,v0_6,v0_7,v0_8,v0_9,v0_10,v0_11],rd v0_2 p0_2,rd v0_5 p0_5,pt (vp ah 0) p1,raw 70 ae 2]) aq ?_ ?_
  ·refine RC.wz mixed [0,0,0,0,0,0,2,0,0,0,2,2,1,1,2,0] [0,1,2,3,4,5,6,7,8,9,12,13,10,11,14,15] ?_
   have j:=j.drew
   refine DP.e0 zr (RL.bA zr xY (bZ zr (RL.aN 0 j zr qU uQ (bZ zr (mv (vb ax.gE) (DP.d0 (gv hj (fun ai hj=>?_) fun ai hj=>?_)))))))
   rotate_left
   ·refine DP.e0 zr (bS ai (bZ zr (bS ai (bZ zr (bS ai (sB zr (bS ai (wC zr ?_))))))))
    refine gx ai (vb false) (bZ zr (mv (vb false) (bZ zr (n8 (DP.d0 (DP.e1 undef zr (fun w=>n8 DP.d1) (DP.e1 undef zr (fun w=>n8 DP.d1) (DP.e2 zr ?_))))))))
    refine n8 (Er zr (n8 (Er zr (n8 (wC zr (RL.pick false (vb false) zr (DP.d0 (DP.z ?_))))))))
    obtain rfl:=oi hj
    exact⟨rfl,j.sp 8 [3,4,5,6,7]⟩
   refine DP.e0 zr (RL.aX (hg:=(cg ai)) (f:=(fun x=>x)) 0 j zr Fd.self nG fun a1 j=>(bZ zr (RL.gS (hg:=(cg ai)) 7 j zr Ar tU fun br j=>(bZ zr (RL.bK (hg:=(cg ai)) p1.eK 0 j cH (sB zr ?_))))))
   obtain⟨ay,a2,hj⟩:=bd hj
   refine RL.call (cg ai) zr FO [a1,(vi p1.eK)] zr (aF (lF N (p1:=p1.eK) (i0:=1) j zr a2) ?_)
   rintro _ w ⟨rfl,j⟩
   refine wC zr (gx ai (vb ay) (bZ zr (mv (vb ay) (DP.d0 (gv hj (fun ab hj=>?_) fun ab hj=>?_)))))
   rotate_left
   ·refine DP.e0 zr (bS ab (DP.d0 (DP.e1 undef zr (fun w=>bS ab DP.d1) (DP.e1 undef zr (fun w=>bS ab DP.d1) (DP.e2 zr (bS ab (Er zr (bS ab ?_))))))))
    refine Er zr (bS ab (wC zr (gx ab (vb false) (DP.d0 (DP.z ?_)))))
    obtain rfl:=oi hj
    exact⟨rfl,j.sp 10 [5,6,7,8,9]⟩
   refine DP.e0 zr (RL.aX (hg:=(cg ab)) (f:=(fun x=>x)) 2 j zr Fd.self nG fun a3 j=>(DP.d0 (DP.Es 9 zr zr (cg ab) zr j zr zr As tV fun bt j=>(DP.uP (hg:=(cg ab)) p1.At 0 zr j Ev fun a4 a105 bu j=>(DP.e2 zr ?_)))))
   obtain⟨a5,a6,hj⟩:=bd hj
   refine RL.call (cg ab) zr BX [a3] zr (aF (gw N (i0:=3) j zr a6) ?_)
   rintro a7 w j
   refine DP.d2 (⟨zt,j.jA 1⟩) (DP.e2 zr (RL.eY (hg:=(cg ab)) ([a5]: (List aI)) j [a7] lq n9 (fun M hs g=>⟨(g.sat 0 _ zr).1,zt⟩) fun a8 w j=>(DP.d2 (⟨zt,j.jA 2⟩) (DP.e2 zr ?_))))
   have j:=j.freeze 0
   obtain⟨a9,ba,hj⟩:=bd hj
   refine RL.call (cg ab) zr G6 [a8,a4] zr (aF (nu N (i0:=0) (i1:=3) j zr zr ba) ?_)
   rintro _ w ⟨rfl,j⟩
   refine DP.d2 (⟨zt,j.jA 2⟩) (DP.e0 zr (gx ab (vb a9) (DP.d0 ?_)))
   have j:=j.pl 16 [0,1,3,4,5,6,7,8,9,10,11,12,13,14,15]
   refine DP.z ?_
   obtain rfl:=oi hj
   exact⟨rfl,j.sp 15 [10,11,12,13,14]⟩
  rintro _ w ⟨O,rfl,j⟩
  refine aG (fq o (fun hc o=>?_) fun hc o=>?_)
  rotate_left
  ·refine RC.skip (bU (aG (RC.region (RL.inc hk hm (mv (vi ((af+1:Nat):Int)) (RL.nil ?_))))))
   obtain rfl:=oi o
   exact⟨rfl,j.sp 5 [0,1,2,3,4]⟩
  refine RC.sr (mv (vi af) ?_)
  have j:=(j.sc Bool true).sc Int (af:Int)
  refine RL.build (⟨true,(af:Int)⟩:dO) trivial rfl j [(0,vb true),(1,vi af)] rfl EA rfl (fun M hs g=>by have h:=Bb M;exact dJ.cons (f:=fun(x:dO) y=>{x with bM:=y}) h CY (g.sat 1 _ rfl).1 fun _ h=>dJ.cons (f:=fun(x:dO) y=>{x with Number:=y}) h zj (g.sat 0 _ rfl).1 fun _ h=>dJ.nil h) fun bw j=>?_
  refine RL.bG 7 j 0 zr rl fun w j=>?_
  refine aO (vb true) (RL.nt (RC.rb (bL ?_)))
  obtain rfl:=oi o
  exact⟨rfl,wY 7 j rl fun bb j=>⟨bb,zr,j.pk 9 [0,4]⟩⟩
 ·intro r U w e hK
  subst e
  refine bL ?_
  obtain rfl:=oi o
  exact hK
 rintro al _ w rfl ⟨O,rfl,j⟩
 rw [Fo.fZ] at o
 refine aG (RC.seq (RC.sr (mv (vp b0 0) (RL.nilCheck zr (RL.bA zr pZ (RL.bB 0 v0_5 j zp (RL.bE 2 p0_5 j B1 (mv (vi 0) ?_))))))))
 refine RL.nt ?_
 obtain⟨bx,hN,o⟩:=bd o
 refine RC.range (fun(ag:Nat) (an:Unit)=>SH E V [(0,vp b0 0),(3,vp ah 0),(4,vp ae 0),(43,v0_5),(44,vi p0_5.length),(45,vi ag)] [bc 67 b0 [v0_0,v0_1,v0_2,v0_3,v0_4,v0_5,v0_6,v0_7,v0_8,v0_9,v0_10,v0_11],rd v0_2 p0_2,rd v0_5 p0_5,pt (vp ah 0) p1,raw 70 ae 2]) (fun(an:Unit)=>SH E V [(0,vp b0 0),(4,vp ae 0)] [bc 67 b0 [v0_0,v0_1,v0_2,v0_3,v0_4,v0_5,v0_6,v0_7,v0_8,v0_9,v0_10,v0_11],rd v0_2 p0_2,rd v0_5 p0_5,pt (vp ah 0) p1,raw 70 ae 2]) (mm E V b0 v0_0 v0_1 v0_2 v0_3 v0_4 v0_5 v0_6 v0_7 v0_8 v0_9 v0_10 v0_11) hN ?_ ?_ ?_ ?_ ?_
 ·exact j.sp 5 [0,1,2,3,4]
 ·rintro hm an _ w ⟨O,rfl,j⟩
  refine RC.sr (ic ((p0_5.length:Int)) ((p0_5.length:Int)) (RL.nq (RC.cT m4 (RC.ex ?_))))
  exact⟨rfl,j.sp 5 [0,1,2,3,4]⟩
 ·rintro hm ag an fl _ w hk ⟨O,rfl,j⟩ o
  refine RC.sr (ic ((ag:Int)) ((p0_5.length:Int)) (RL.nq (RC.cS (m0 hk) (RC.ss (RC.bs (mv (vi ag) ?_))))))
  obtain⟨av,bf,o⟩:=bd o
  refine RL.cC 2 j FR bf fun bz j=>(RL.bT 0 av j Be fun b1 j=>(RL.alloc j Da.z fun b2 w j=>?_))
  refine aO (vi ag) (RL.bG 0 j 1 zr Be fun w j=>?_)
  refine RL.nq ?_
  obtain⟨aw,hj,o⟩:=bd o
  refine RC.jn (fun(aw:Bool)=>SH E V [(0,vp b0 0),(3,vp ah 0),(4,vp ae 0),(8,vi ag),(43,v0_5),(44,vi p0_5.length),(45,vi ag),(61,vb aw)] [bc 67 b0 [v0_0,v0_1,v0_2,v0_3,v0_4,v0_5,v0_6,v0_7,v0_8,v0_9,v0_10,v0_11],rd v0_2 p0_2,rd v0_5 p0_5,pt (vp ah 0) p1,raw 70 ae 2]) aw ?_ ?_
  ·refine RC.region (RL.bA zr Bf (RL.aN 0 j zr nP cH (RL.gS 6 j zr Ar tU fun b3 j=>(RL.bK p1.eK 0 j cH (ic av.eK p1.eK (mv (vb (av.eK==p1.eK)) (gv hj (fun ad hj=>?_) fun ad hj=>?_)))))))
   rotate_left
   ·refine bS ad (bS ad (bS ad (bS ad (bS ad (gx ad (vb false) (RL.nil ?_))))))
    obtain rfl:=oi hj
    exact⟨rfl,j.sp 9 [4,5,6,7,8]⟩
   refine RL.bA (hg:=(cg ad)) zr Bg (RL.aX (hg:=(cg ad)) 1 j zr nQ xU fun bg j=>(RL.gS (hg:=(cg ad)) 8 j zr As tV fun b4 j=>(RL.bT (hg:=(cg ad)) 0 p1.At j Ev fun bh j=>?_)))
   obtain⟨bj,bk,hj⟩:=bd hj
   refine RL.call (cg ad) zr G6 [bg,bh] zr (aF (nu N (i0:=2) (i1:=0) j zr zr bk) ?_)
   rintro _ w ⟨rfl,j⟩
   refine gx ad (vb bj) (RL.nil ?_)
   obtain rfl:=oi hj
   exact⟨rfl,j.sp 12 [7,8,9,10,11]⟩
  rintro _ w ⟨O,rfl,j⟩
  refine aG (fq o (fun hc o=>?_) fun hc o=>?_)
  rotate_left
  ·refine RC.skip (bU (aG (RC.region (RL.inc hk hm (mv (vi ((ag+1:Nat):Int)) (RL.nil ?_))))))
   obtain rfl:=oi o
   exact⟨rfl,j.sp 5 [0,1,2,3,4]⟩
  refine RC.sr (mv (vi ag) ?_)
  have j:=j.sc Int (ag:Int)
  refine RL.build (⟨false,(ag:Int)⟩:dO) trivial rfl j [(1,vi ag)] rfl EA rfl (fun M hs g=>by have h:=Bb M;exact dJ.cons (f:=fun(x:dO) y=>{x with Number:=y}) h zj (g.sat 0 _ rfl).1 fun _ h=>dJ.nil h) fun b5 j=>?_
  refine RL.bG 6 j 0 zr rl fun w j=>?_
  refine aO (vb true) (RL.nt (RC.rb (bL ?_)))
  obtain rfl:=oi o
  exact⟨rfl,wY 6 j rl fun bl j=>⟨bl,zr,j.pk 8 [0,3]⟩⟩
 ·intro r U w e hK
  subst e
  refine bL ?_
  obtain rfl:=oi o
  exact hK
 rintro an _ w rfl ⟨O,rfl,j⟩
 rw [Fo.fZ] at o
 refine aG (RC.sr (RL.build (⟨false,0⟩:dO) trivial rfl j [] rfl EA rfl (fun M hs g=>by have h:=Bb M;exact dJ.nil h) fun b6 j=>?_))
 refine RL.bG 5 j 0 zr rl fun w j=>?_
 refine aO (vb false) (RL.nt (RC.ret ?_))
 obtain rfl:=oi o
 exact wY 5 j rl fun bm j=>⟨bm,zr,j.pk 7 [0,2]⟩
theorem nv {p0_8: (List Int)} {p0_9: (List Int)} {p1:dO} (j:Holds E w (bc 67 b0 [v0_0,v0_1,v0_2,v0_3,v0_4,v0_5,v0_6,v0_7,v0_8,v0_9,v0_10,v0_11]::rd v0_8 p0_8::rd v0_9 p0_9::V)) (h1:V[i1]? =some (rd v1 p1)) (o:fH N p0_8 p0_9 p1=some res):
    Calls bD 57 [(vp b0 0),v1].toArray w (gR (iA E V b0 v0_0 v0_1 v0_2 v0_3 v0_4 v0_5 v0_6 v0_7 v0_8 v0_9 v0_10 v0_11 res)):=by
 unfold fH at o
 refine enter Tryz.func57 zr zr ?_
 have j:=j.dup (i1+3) h1
 refine RC.sr (RL.dD 0 v1 j zr fun ag w j=>?_)
 refine aO (vi 0) (RL.nq (RC.sr (RL.bA zr Aw (RL.aN 0 j zr vv uQ (RL.nt (fq o (fun hc o=>?_) fun hc o=>?_))))))
 ·refine RC.seq (RC.wy mixed ?_)
  have j:=j.drew
  refine RO.go (mv (vp b0 0) (RO.nx (RL.nilCheck zr (RO.nx (RL.bA zr x0 (RO.nx (RL.bB 2 v0_9 j fF (RO.nx ?_))))))))
  refine RL.bA zr rV (RO.nx (RL.aN 0 j zr ni cH (RO.nx ?_)))
  obtain⟨aa,ae,o⟩:=bd o
  refine RL.cC 4 j eF ae fun ah j=>(RO.nx (RL.bK aa 0 j cH (RO.nx (aO (vi aa) (RO.last (aG (RC.rt ?_)))))))
  obtain rfl:=oi o
  exact cD ⟨rfl,j.pk 6 [3]⟩
 refine RC.ss (RC.wy mixed ?_)
 have j:=j.drew
 refine RO.go (mv (vp b0 0) (RO.nx (RL.nilCheck zr (RO.nx (RL.bA zr Av (RO.nx (RL.bB 2 v0_8 j fF (RO.nx ?_))))))))
 refine RL.bA zr rV (RO.nx (RL.aN 0 j zr ni cH (RO.nx ?_)))
 obtain⟨ab,af,o⟩:=bd o
 refine RL.cC 3 j eF af fun ai j=>(RO.nx (RL.bK ab 0 j cH (RO.nx (aO (vi ab) (RO.last (aG (RC.ret ?_)))))))
 obtain rfl:=oi o
 exact cD ⟨rfl,j.pk 6 [3]⟩
end Go.Gk
