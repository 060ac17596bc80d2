/-
  Printed texts: Go functions as plain functions, and that they are. No statement of the seed is proved here.
-/
import Derived.Test.YthioiiocofohiaaGreatDoorG1
import Derived.Test.YthioiiocofohiaaGreatDoorG2
import Derived.Test.YthioiiocofohiaaGreatDoorA2
set_option linter.unusedVariables false
set_option linter.unusedSimpArgs false
set_option linter.unusedSectionVars false
set_option maxRecDepth 100000
set_option maxHeartbeats 4000000
namespace Go.Gk
open Go Go.Proofs
variable (N:Nat) {E w:World} {b0 b1 i0 i1:Nat} {p0 p1 p2 res:Int} {v0 v0_0 v0_1 v0_10 v0_11 v0_2 v0_3 v0_4 v0_5 v0_6 v0_7 v0_8 v0_9 v1 v1_0 v2:Value} {V:List HP}
theorem mi {p0:bW} {res:Bool} (j:Holds E w V) (h0:V[i0]? =some (rd v0 p0)) (hb:jK N p0 p1=some res):
    Calls bF 79 [v0,(vi p1)].toArray w (gI (bE E V res)):=by
 unfold jK at hb
 refine enter Tryz.func79 zr zr ?_
 have j:=j.dup (i0+0) h0
 refine RC.sr (RL.dB 0 v0 j zr fun o w j=>?_)
 refine aK (vb false) (RL.ns (RL.aZ zr qp (RL.aM 0 j zr mE cQ (mv (vi p1) (ic p0.bU p1 (mv (vb (decide (p0.bU<=p1))) (RL.gs true (decide (p0.bU<=p1)) (vi p1) zr zr zr dW (RL.gs true (decide (p0.bU<=p1)) (vp o 4) zr zr zr (dN sj) ?_))))))))
 refine RL.gs true (decide (p0.bU<=p1)) (vi p0.To) rfl rfl rfl (bZ 0 rfl j (fun h=>by exact(cV h:cv (true&&((decide (p0.bU<=p1))==true)) (vp o 4)= (vp o 4))) rfl nP cQ) (RL.gs true (decide (p0.bU<=p1)) (vb (decide (p1<=p0.To))) rfl rfl rfl (eE .leq .i64 p1 p0.To rfl (fun h=>by exact(cV h:cv (true&&((decide (p0.bU<=p1))==true)) (vi p1)= (vi p1))) (fun h=>by exact(cV h:cv (true&&((decide (p0.bU<=p1))==true)) (vi p0.To)= (vi p0.To))) rfl) (RL.pick (decide (p0.bU<=p1)) (vb ((decide (p0.bU<=p1))&&(decide (p1<=p0.To)))) (i6 true) (aK (vb ((decide (p0.bU<=p1))&&(decide (p1<=p0.To)))) (RL.nt (RC.ret ?_)))))
 obtain rfl:=oi hb
 exact cL ⟨rfl,j.drop 2⟩
def xQ (E:World) (V:List HP) (res: (List Int)×Int) (v:Value) (w:World):Prop:=∃u0:Value,v = .tuple #[u0,(vi res.2)]/\Holds E w ([rd u0 res.1]++V)
theorem qL {p0: (List aA)} {res: (List Int)×Int} (j:Holds E w V) (h0:V[i0]? =some (rd v0 p0)) (o:kX N p0 p1 p2=some res):
    Calls bF 136 [v0,(vi p1),(vi p2)].toArray w (gI (xQ E V res)):=by
 unfold kX at o
 refine enter Tryz.func136 zr zr ?_
 have j:=j.dup (i0+0) h0
 refine RC.sr (aK (.slice none 0 0) (aK (vi 0) (RL.nq (RC.bs (mv v0 (RL.bD 0 p0 j nv (ic ((p0.length:Int)) 0 (aK (vb ((p0.length:Int)==0)) ?_))))))))
 refine RL.nt (eQ o (fun hc o=>?_) fun hc o=>?_)
 ·refine RC.sr (mv (vi p2) (aK (.slice none 0 0) (aK (vi p2) (RL.nt (RC.rb (bS ?_))))))
  obtain rfl:=oi o
  have j:=j.qY Int
  exact i5 ⟨(.slice none 0 0),zr,j.pk 2 [0]⟩
 refine RC.sr (mv (vi p1) (mv v0 ?_))
 obtain⟨ae,ag,o⟩:=bd o
 refine RL.cC 0 j ka ag fun al j=>(RL.iu 0 j zr nG fS fun an j=>(RL.bI ae.Y0 0 j cQ (ic p1 ae.Y0 (aK (vb (decide (p1<ae.Y0))) (RL.nt (eQ o (fun hc o=>?_) fun hc o=>?_))))))
 ·refine RC.seq (RC.xv mixed ?_)
  have j:=j.drew
  refine RO.go (mv (vi p2) (RO.nx (mv v0 (RO.nx ?_))))
  obtain⟨aa,ah,o⟩:=bd o
  refine RL.cC 2 j ka ah fun ao j=>(RO.nx (RL.iu 0 j zr nG fS fun aq j=>(RO.nx (RL.bI aa.Y0 0 j cQ (RO.nx (RL.min p2 aa.Y0 (RO.nx (aK (.slice none 0 0) ?_))))))))
  refine RO.nx (aK (vi (if aa.Y0<p2 then aa.Y0 else p2)) (RO.last (aG (RC.rb (bS ?_)))))
  obtain rfl:=oi o
  have j:=j.qY Int
  exact i5 ⟨(.slice none 0 0),zr,j.pk 6 [0]⟩
 refine RC.skip (bK (aG (RC.seq (RC.xv mixed ?_))))
 have j:=j.drew
 refine RO.go (mv v0 (RO.nx ?_))
 obtain⟨ai,aj,o⟩:=bd o
 refine RL.cC 2 j ka aj fun ar j=>(RO.nx (RL.iu 0 j zr ko dG fun au j=>(RO.nx (RL.bV 0 ai.Xs j fH fun af j=>(RO.nx (mv (vi p2) (RO.nx (mv v0 ?_))))))))
 refine RO.nx ?_
 obtain⟨ab,ak,o⟩:=bd o
 refine RL.cC 5 j ka ak fun av j=>(RO.nx (RL.iu 0 j zr lH eN fun aw j=>(RO.nx (RL.bI ab.Y1 0 j cQ (RO.nx (RL.min p2 ab.Y1 (RO.nx (aK af ?_))))))))
 refine RO.nx (aK (vi (if ab.Y1<p2 then ab.Y1 else p2)) (RO.last (aG (RC.ret ?_))))
 obtain rfl:=oi o
 exact i5 ⟨af,zr,j.pk 8 [2]⟩
theorem yM {p0: (List Int)} {p1: (List Int)} {p2:Bool->Bool->Option Bool} {res: (List Int)} (j:Holds E w V) (h0:V[i0]? =some (rd v0 p0)) (h1:V[i1]? =some (rd v1 p1)) (h2:It bF E V v2 p2 (fun(r:Bool)=>Value.bool r)) (hb:nU N p0 p1 p2=some res):
    Calls bF 137 [v0,v1,v2].toArray w (gI (kJ E V res)):=by
 unfold nU at hb
 refine enter Tryz.func137 zr zr ?_
 have j:=(j.dup (i0+0) h0).dup (i1+1) h1
 refine RC.sr (aK (.slice none 0 0) (RL.ns (aK (.slice none 0 0) (RL.ns (aK (vb false) (aK (vb false) (aK (vb false) (RL.nq ?_))))))))
 obtain⟨bu,hN,hb⟩:=bd hb
 refine RC.iter (fun(o: (List Int)×(List Int)×(List Int)×Bool×Bool×Bool) U w=>∃a7 a8 a9:Value,SH E V [(0,a7),(1,a8),(2,v2),(7,a9),(8,vb o.2.2.2.1),(9,vb o.2.2.2.2.1),(10,vb o.2.2.2.2.2)] [rd a7 o.1,rd a8 o.2.1,own 3 a9 o.2.2.1] U w) (fun(o: (List Int)×(List Int)×(List Int)×Bool×Bool×Bool) U w=>∃av:Value,SH E V [(7,av)] [own 3 av o.2.2.1] U w) (fun(r:Empty) _ _=>r.elim) hN ?_ ?_ ?_ ?_
 ·have j:=j.cH Int 3
  exact⟨v0,v1,(.slice none 0 0),j.sp 3 [2,1,0]⟩
 ·rintro o fl _ w ⟨ah,ad,ae,O,rfl,j⟩ hb
  refine RC.seq (RC.seq ?_)
  obtain⟨a1,hj,hb⟩:=bd hb
  refine RC.jn (fun(a1:Bool)=>SH E V [(0,ah),(1,ad),(2,v2),(7,ae),(8,vb o.2.2.2.1),(9,vb o.2.2.2.2.1),(10,vb o.2.2.2.2.2),(20,vb a1)] [rd ah o.1,rd ad o.2.1,own 3 ae o.2.2.1]) a1 ?_ ?_
  ·refine RC.region (mv ah (RL.bD 0 o.1 j lM (ic ((o.1.length:Int)) 0 (mv (vb (decide ((o.1.length:Int)>0))) (fM hj (fun ao hj=>?_) fun ao hj=>?_)))))
   ·refine bO ao (bO ao (bO ao (fJ ao (vb true) (RL.nil ?_))))
    obtain rfl:=oi hj
    exact⟨rfl,j.sp 3 [0,1,2]⟩
   refine RL.move ad (cg ao) (RL.bD (hg:=(cg ao)) 1 o.2.1 j lM (RL.i7 (o.2.1.length:Int) 0 (cg ao) (fJ ao (vb (decide ((o.2.1.length:Int)>0))) (RL.nil ?_))))
   obtain rfl:=oi hj
   exact⟨rfl,j.sp 3 [0,1,2]⟩
  rintro _ w ⟨O,rfl,j⟩
  refine aG (eQ hb (fun hc hb=>?_) fun hc hb=>?_)
  rotate_left
  ·refine RC.ex ?_
   obtain rfl:=oi hb
   exact⟨rfl,ae,j.sp 3 [2]⟩
  refine RC.sn (RC.bs (aK (vi 0) (RL.nq (RC.seq ?_))))
  obtain⟨a2,hj,hb⟩:=bd hb
  refine RC.jn (fun(a2:Bool)=>SH E V [(0,ah),(1,ad),(2,v2),(7,ae),(8,vb o.2.2.2.1),(9,vb o.2.2.2.2.1),(10,vb o.2.2.2.2.2),(37,vb a2)] [rd ah o.1,rd ad o.2.1,own 3 ae o.2.2.1]) a2 ?_ ?_
  ·refine RC.xv mixed ?_
   have j:=j.drew
   refine RO.go (mv ad (RO.nx (RL.bD 1 o.2.1 j lM (RO.nx (ic ((o.2.1.length:Int)) 0 (RO.nx (mv (vb ((o.2.1.length:Int)==0)) (fM hj (fun ai hj=>?_) fun ai hj=>?_))))))))
   ·refine RO.nx (bO ai (RO.nx (bO ai (RO.nx (bO ai (RO.nx (bO ai (RO.nx ?_))))))))
    refine yE (RO.nx (yE (RO.nx (yE (RO.nx (yE (RO.nx (yE ?_))))))))
    refine RO.nx (yE (RO.nx (yE (RO.nx (bO ai (RO.nx (fJ ai (vb true) (RO.last ?_))))))))
    obtain rfl:=oi hj
    exact⟨rfl,j.sp 3 [0,1,2]⟩
   refine RO.nx (RL.move ah (cg ai) (RO.nx (RL.bD (hg:=(cg ai)) 0 o.1 j lM (RO.nx (RL.i7 (o.1.length:Int) 0 (cg ai) (RO.nx (RL.move (vb (decide ((o.1.length:Int)>0))) (cg ai) (fM hj (fun af hj=>?_) fun af hj=>?_))))))))
   rotate_left
   ·refine RO.nx (bO af (RO.nx (bO af (RO.nx (bO af (RO.nx (bO af (RO.nx ?_))))))))
    refine bO af (RO.nx (bO af (RO.nx (bO af (RO.nx (fJ af (vb false) (hg:=(cg ai)) (RO.nx (fJ ai (vb false) ?_))))))))
    refine RO.last ?_
    obtain rfl:=oi hj
    exact⟨rfl,j.sp 3 [0,1,2]⟩
   refine RO.nx (RL.move ah (cg af) (RO.nx ?_))
   obtain⟨ax,bj,hj⟩:=bd hj
   refine RL.cC (hg:=(cg af)) 0 j eJ bj fun bx j=>(RO.nx (RL.bI (hg:=(cg af)) ax 0 j cQ (RO.nx (RL.move ad (cg af) (RO.nx ?_)))))
   obtain⟨ay,bk,hj⟩:=bd hj
   refine RL.cC (hg:=(cg af)) 2 j eJ bk fun bz j=>(RO.nx (RL.bI (hg:=(cg af)) ay 0 j cQ (RO.nx (RL.i7 ax ay (cg af) (RO.nx (fJ af (vb (decide (ax<=ay))) (hg:=(cg ai)) (RO.nx (fJ ai (vb (decide (ax<=ay))) ?_))))))))
   refine RO.last ?_
   obtain rfl:=oi hj
   exact⟨rfl,j.sp 5 [2,3,4]⟩
  rintro _ w ⟨O,rfl,j⟩
  refine aG ?_
  obtain⟨ag,hj,hb⟩:=bd hb
  refine RC.jn (fun(ag:Int)=>SH E V [(0,ah),(1,ad),(2,v2),(7,ae),(8,vb o.2.2.2.1),(9,vb o.2.2.2.2.1),(10,vb o.2.2.2.2.2),(11,vi ag)] [rd ah o.1,rd ad o.2.1,own 3 ae o.2.2.1]) ag ?_ ?_
  ·refine eQ hj (fun hc hj=>?_) fun hc hj=>?_
   ·refine RC.region (mv ah ?_)
    obtain⟨ba,bl,hj⟩:=bd hj
    refine RL.cC 0 j eJ bl fun b0 j=>(RL.bI ba 0 j cQ (aK (vi ba) (RL.nil ?_)))
    obtain rfl:=oi hj
    exact⟨rfl,j.sp 4 [1,2,3]⟩
   refine RC.region (mv ad ?_)
   obtain⟨bb,bm,hj⟩:=bd hj
   refine RL.cC 1 j eJ bm fun b1 j=>(RL.bI bb 0 j cQ (aK (vi bb) (RL.nil ?_)))
   obtain rfl:=oi hj
   exact⟨rfl,j.sp 4 [1,2,3]⟩
  rintro _ w ⟨O,rfl,j⟩
  refine aG (RC.seq (RC.seq ?_))
  obtain⟨a3,hj,hb⟩:=bd hb
  refine RC.jn (fun(a3:Bool)=>SH E V [(0,ah),(1,ad),(2,v2),(7,ae),(8,vb o.2.2.2.1),(9,vb o.2.2.2.2.1),(10,vb o.2.2.2.2.2),(11,vi ag),(53,vb a3)] [rd ah o.1,rd ad o.2.1,own 3 ae o.2.2.1]) a3 ?_ ?_
  ·refine RC.region (mv ah (RL.bD 0 o.1 j lM (ic ((o.1.length:Int)) 0 (mv (vb (decide ((o.1.length:Int)>0))) (fM hj (fun aj hj=>?_) fun aj hj=>?_)))))
   rotate_left
   ·refine bO aj (bO aj (bO aj (bO aj (bO aj (fJ aj (vb false) (RL.nil ?_))))))
    obtain rfl:=oi hj
    exact⟨rfl,j.sp 3 [0,1,2]⟩
   refine RL.move ah (cg aj) ?_
   obtain⟨a4,bn,hj⟩:=bd hj
   refine RL.cC (hg:=(cg aj)) 0 j eJ bn fun b2 j=>(RL.bI (hg:=(cg aj)) a4 0 j cQ (RL.move (vi ag) (cg aj) (RL.i7 a4 ag (cg aj) (fJ aj (vb (a4==ag)) (RL.nil ?_)))))
   obtain rfl:=oi hj
   exact⟨rfl,j.sp 4 [1,2,3]⟩
  rintro _ w ⟨O,rfl,j⟩
  refine aG ?_
  obtain⟨al,hj,hb⟩:=bd hb
  refine RC.jn (fun(al: (List Int)×Bool) U w=>∃an:Value,SH E V [(0,an),(1,ad),(2,v2),(7,ae),(8,vb al.2),(9,vb o.2.2.2.2.1),(10,vb o.2.2.2.2.2),(11,vi ag)] [rd ad o.2.1,own 3 ae o.2.2.1,rd an al.1] U w) al ?_ ?_
  ·refine eQ hj (fun hc hj=>?_) fun hc hj=>?_
   rotate_left
   ·refine RC.skip ?_
    obtain rfl:=oi hj
    exact⟨rfl,ah,j.sp 3 [1,2,0]⟩
   refine RC.region (mv ah ?_)
   obtain⟨b3,bo,hj⟩:=bd hj
   refine RL.cut 0 j eJ (.inr ⟨rfl,zr⟩) bo fun bc j=>(mv (vb o.2.2.2.1) (RL.not o.2.2.2.1 (aK bc (aK (vb (!o.2.2.2.1)) (RL.nil ?_)))))
   obtain rfl:=oi hj
   exact⟨rfl,bc,j.sp 4 [2,3,0]⟩
  rintro _ w ⟨an,O,rfl,j⟩
  refine aG (RC.seq (RC.seq ?_))
  obtain⟨a5,hj,hb⟩:=bd hb
  refine RC.jn (fun(a5:Bool)=>SH E V [(0,an),(1,ad),(2,v2),(7,ae),(8,vb al.2),(9,vb o.2.2.2.2.1),(10,vb o.2.2.2.2.2),(11,vi ag),(67,vb a5)] [rd an al.1,rd ad o.2.1,own 3 ae o.2.2.1]) a5 ?_ ?_
  ·refine RC.region (mv ad (RL.bD 0 o.2.1 j lM (ic ((o.2.1.length:Int)) 0 (mv (vb (decide ((o.2.1.length:Int)>0))) (fM hj (fun ak hj=>?_) fun ak hj=>?_)))))
   rotate_left
   ·refine bO ak (bO ak (bO ak (bO ak (bO ak (fJ ak (vb false) (RL.nil ?_))))))
    obtain rfl:=oi hj
    exact⟨rfl,j.sp 3 [2,0,1]⟩
   refine RL.move ad (cg ak) ?_
   obtain⟨a6,bp,hj⟩:=bd hj
   refine RL.cC (hg:=(cg ak)) 0 j eJ bp fun b4 j=>(RL.bI (hg:=(cg ak)) a6 0 j cQ (RL.move (vi ag) (cg ak) (RL.i7 a6 ag (cg ak) (fJ ak (vb (a6==ag)) (RL.nil ?_)))))
   obtain rfl:=oi hj
   exact⟨rfl,j.sp 4 [3,1,2]⟩
  rintro _ w ⟨O,rfl,j⟩
  refine aG ?_
  obtain⟨ar,hj,hb⟩:=bd hb
  refine RC.jn (fun(ar: (List Int)×Bool) U w=>∃au:Value,SH E V [(0,an),(1,au),(2,v2),(7,ae),(8,vb al.2),(9,vb ar.2),(10,vb o.2.2.2.2.2),(11,vi ag)] [rd an al.1,own 3 ae o.2.2.1,rd au ar.1] U w) ar ?_ ?_
  ·refine eQ hj (fun hc hj=>?_) fun hc hj=>?_
   rotate_left
   ·refine RC.skip ?_
    obtain rfl:=oi hj
    exact⟨rfl,ad,j.sp 3 [0,2,1]⟩
   refine RC.region (mv ad ?_)
   obtain⟨b5,bq,hj⟩:=bd hj
   refine RL.cut 1 j eJ (.inr ⟨rfl,zr⟩) bq fun bf j=>(mv (vb o.2.2.2.2.1) (RL.not o.2.2.2.2.1 (aK bf (aK (vb (!o.2.2.2.2.1)) (RL.nil ?_)))))
   obtain rfl:=oi hj
   exact⟨rfl,bf,j.sp 4 [1,3,0]⟩
  rintro _ w ⟨au,O,rfl,j⟩
  refine aG (RC.sr (mv v2 (mv (vb al.2) (mv (vb ar.2) ?_))))
  have j:=(j.sc Bool al.2).sc Bool ar.2
  obtain⟨aw,br,hb⟩:=bd hb
  refine RL.Cz 1 0 zt zr j zr h2 5 zr zr zr zr zr br fun w j=>(aK (vb aw) (RL.ns (mv (vb aw) (mv (vb o.2.2.2.2.2) (RL.Dk aw o.2.2.2.2.2 zr zr zr J3 (RL.nt ?_))))))
  obtain⟨az,hj,hb⟩:=bd hb
  refine RC.jn (fun(az: (List Int)×Bool) U w=>∃a0:Value,SH E V [(0,an),(1,au),(2,v2),(7,a0),(8,vb al.2),(9,vb ar.2),(10,vb az.2)] [rd an al.1,rd au ar.1,own 3 a0 az.1] U w) az ?_ ?_
  ·refine eQ hj (fun hc hj=>?_) fun hc hj=>?_
   rotate_left
   ·refine RC.skip ?_
    obtain rfl:=oi hj
    exact⟨rfl,ae,j.sp 5 [2,4,3]⟩
   refine RC.region (mv ae (mv (vi ag) ?_))
   have j:=j.sc Int ag
   refine RL.dS ([ag]: (List Int)) j [(vi ag)] eJ EY (fun M hs g=>⟨(g.sat 0 _ zr).1,zt⟩) fun b6 w j=>?_
   have j:=j.freeze 0
   obtain⟨b7,bt,hj⟩:=bd hj
   refine RL.app 5 0 j uz bt fun bg w j=>?_
   refine mv (vb aw) (aK bg (aK (vb aw) (RL.nil ?_)))
   obtain rfl:=oi hj
   exact⟨rfl,bg,j.sp 7 [4,6,5]⟩
  rintro _ w ⟨a0,O,rfl,j⟩
  refine bK ?_
  obtain rfl:=oi hb
  exact⟨rfl,an,au,a0,j.sp 3 [0,1,2]⟩
 ·intro r _ _ _ _
  exact r.elim
 rintro o _ w rfl ⟨av,O,rfl,j⟩
 rw [Fo.gl] at hb
 refine aG (RC.sr (mv av (aK av (RL.nt (RC.ret ?_)))))
 obtain rfl:=oi hb
 exact cL (j.pk 1 [0])
theorem xR {p0: (List aA)} {p1: (List aA)} {p2:Bool->Bool->Option Bool} {res: (List aA)} (j:Holds E w V) (h0:V[i0]? =some (rd v0 p0)) (h1:V[i1]? =some (rd v1 p1)) (h2:It bF E V v2 p2 (fun(r:Bool)=>Value.bool r)) (o:mV N p0 p1 p2=some res):
    Calls bF 114 [v0,v1,v2].toArray w (gI (kZ E V res)):=by
 unfold mV at o
 refine enter Tryz.func114 zr zr ?_
 have j:=(j.dup (i0+0) h0).dup (i1+1) h1
 refine RC.sr (aK (.slice none 0 0) (RL.ns (aK (.slice none 0 0) (RL.nq (RC.sr (mv v0 (RL.bD 1 p0 j nv (mv v1 ?_))))))))
 refine RL.bD 0 p1 j nv (RL.jA (p0.length:Int) (p1.length:Int) (ic ((IntKind.wrap .i64 ((p0.length:Int)+ (p1.length:Int)))) 0 (RL.nt (eQ o (fun hc o=>?_) fun hc o=>?_))))
 ·refine RC.sr (aK (.slice none 0 0) (RL.nt (RC.rt ?_)))
  obtain rfl:=oi o
  have j:=j.cH aA 187
  exact cL (j.pk 3 [0])
 refine RC.sx (aK (vi 0) (aK (vi 0) (RL.nq (RC.sr (mv v0 (mv v1 (RL.dS ([p0,p1]: (List (List aA))) j [v0,v1] BH FK (fun M hs g=>⟨(g.sat 1 _ zr).1,⟨(g.sat 0 _ zr).1,zt⟩⟩) fun ar w j=>(RL.dY 0 ([p0,p1]: (List (List aA))) j HZ ?_))))))))
 refine mv (vi 0) (RL.nt ?_)
 obtain⟨ad,hN,o⟩:=bd o
 refine RC.fold (fun(aj:Nat) (ad:Int×Int)=>SH E V [(0,v0),(1,v1),(2,v2),(7,(.slice none 0 0)),(8,vi ad.1),(9,vi ad.2),(25,ar),(26,(vi ((([p0,p1]: (List (List aA))).length:Nat):Int))),(27,vi aj)] [rd v0 p0,rd v1 p1,own 132 ar ([p0,p1]: (List (List aA)))]) (fun(ad:Int×Int)=>SH E V [(0,v0),(1,v1),(2,v2),(7,(.slice none 0 0)),(8,vi ad.1),(9,vi ad.2)] [rd v0 p0,rd v1 p1,own 132 ar ([p0,p1]: (List (List aA)))]) hN ?_ ?_ ?_ ?_
 ·exact j.sp 3 [2,1,0]
 ·rintro hm ad _ w ⟨O,rfl,j⟩
  refine RC.sr (ic (((([p0,p1]: (List (List aA))).length:Nat):Int)) (((([p0,p1]: (List (List aA))).length:Nat):Int)) (RL.nq (RC.cN lS (RC.ex ?_))))
  exact⟨rfl,j.sp 3 [0,1,2]⟩
 ·rintro hm aj ad s' _ w hk ⟨O,rfl,j⟩ o
  refine RC.sr (ic ((aj:Int)) (((([p0,p1]: (List (List aA))).length:Nat):Int)) (RL.nq (RC.cM (lR hk) (RC.ss (RC.bs (mv (vi aj) ?_))))))
  obtain⟨aw,a8,o⟩:=bd o
  refine RL.bQ 2 j zr zr BH a8 (RL.iX (f:=(fun x=>x)) 2 j (jG 2 j a8 0) (bB a8).2.1 Fd.self H0 fun ak j=>?_)
  refine aK (vi aj) (aK ak (RL.ns (mv ak (RL.bD 0 aw j nv (ic ((aw.length:Int)) 0 (RL.nt ?_))))))
  obtain⟨a5,hj,o⟩:=bd o
  refine RC.jn (fun(a5:Int×Int)=>SH E V [(0,v0),(1,v1),(2,v2),(7,(.slice none 0 0)),(8,vi a5.1),(9,vi a5.2),(25,ar),(26,(vi ((([p0,p1]: (List (List aA))).length:Nat):Int))),(27,vi aj)] [rd v0 p0,rd v1 p1,own 132 ar ([p0,p1]: (List (List aA)))]) a5 ?_ ?_
  ·refine eQ hj (fun hc hj=>?_) fun hc hj=>?_
   rotate_left
   ·refine RC.skip ?_
    obtain rfl:=oi hj
    exact⟨rfl,j.sp 4 [1,2,3]⟩
   refine RC.seq (RC.seq ?_)
   obtain⟨a9,hjj,hj⟩:=bd hj
   refine RC.jn (fun(a9:Bool)=>SH E V [(0,v0),(1,v1),(2,v2),(7,(.slice none 0 0)),(8,vi ad.1),(9,vi ad.2),(11,ak),(25,ar),(26,(vi ((([p0,p1]: (List (List aA))).length:Nat):Int))),(27,vi aj),(41,vb a9)] [rd v0 p0,rd v1 p1,rd ak aw,own 132 ar ([p0,p1]: (List (List aA)))]) a9 ?_ ?_
   ·refine RC.region (mv (vi aj) (ic ((aj:Int)) 0 (mv (vb ((aj:Int)==0)) (fM hjj (fun au hjj=>?_) fun au hjj=>?_))))
    ·refine bO au (bO au (bO au (fJ au (vb true) (RL.nil ?_))))
     obtain rfl:=oi hjj
     exact⟨rfl,j.sp 4 [1,2,0,3]⟩
    refine RL.move v0 (cg au) (RL.bD (hg:=(cg au)) 1 p0 j nv (RL.i7 (p0.length:Int) 0 (cg au) (fJ au (vb ((p0.length:Int)==0)) (RL.nil ?_))))
    obtain rfl:=oi hjj
    exact⟨rfl,j.sp 4 [1,2,0,3]⟩
   rintro _ w ⟨O,rfl,j⟩
   refine aG ?_
   obtain⟨al,hjj,hj⟩:=bd hj
   refine RC.jn (fun(al:Int×Int)=>SH E V [(0,v0),(1,v1),(2,v2),(7,(.slice none 0 0)),(8,vi al.1),(9,vi al.2),(11,ak),(25,ar),(26,(vi ((([p0,p1]: (List (List aA))).length:Nat):Int))),(27,vi aj)] [rd v0 p0,rd v1 p1,rd ak aw,own 132 ar ([p0,p1]: (List (List aA)))]) al ?_ ?_
   ·refine eQ hjj (fun hc hjj=>?_) fun hc hjj=>?_
    rotate_left
    ·refine RC.skip ?_
     obtain rfl:=oi hjj
     exact⟨rfl,j.sp 4 [0,1,2,3]⟩
    refine RC.xv mixed ?_
    have j:=j.drew
    refine RO.go (mv ak (RO.nx ?_))
    obtain⟨bj,bw,hjj⟩:=bd hjj
    refine RL.cC 2 j ka bw fun cd j=>(RO.nx (RL.iu 0 j zr nG fS fun cf j=>(RO.nx (RL.bI bj.Y0 0 j cQ (RO.nx (mv ak (RO.nx (mv ak ?_))))))))
    refine RO.nx (RL.bD 4 aw j nv (RO.nx (RL.jA (aw.length:Int) 1 (RO.nx ?_))))
    obtain⟨bk,bx,hjj⟩:=bd hjj
    refine RL.cC 4 j ka bx fun ch j=>(RO.nx (RL.iu 0 j zr lH eN fun cj j=>(RO.nx (RL.bI bk.Y1 0 j cQ (RO.nx (aK (vi bj.Y0) (RO.nx (aK (vi bk.Y1) ?_))))))))
    refine RO.last ?_
    obtain rfl:=oi hjj
    exact⟨rfl,j.sp 8 [4,5,6,7]⟩
   rintro _ w ⟨O,rfl,j⟩
   refine aG (RC.xv mixed ?_)
   have j:=j.drew
   refine RO.go (mv (vi al.1) (RO.nx (mv ak (RO.nx ?_))))
   obtain⟨a6,bz,hj⟩:=bd hj
   refine RL.cC 2 j ka bz fun ck j=>(RO.nx (RL.iu 0 j zr nG fS fun cl j=>(RO.nx (RL.bI a6.Y0 0 j cQ (RO.nx (RL.min al.1 a6.Y0 (RO.nx (mv (vi al.2) ?_))))))))
   refine RO.nx (mv ak (RO.nx (mv ak (RO.nx (RL.bD 4 aw j nv (RO.nx (RL.jA (aw.length:Int) 1 (RO.nx ?_))))))))
   obtain⟨a7,b0,hj⟩:=bd hj
   refine RL.cC 4 j ka b0 fun cm j=>(RO.nx (RL.iu 0 j zr lH eN fun cn j=>(RO.nx (RL.bI a7.Y1 0 j cQ (RO.nx (RL.max al.2 a7.Y1 (RO.nx (aK (vi (if a6.Y0<al.1 then a6.Y0 else al.1)) ?_))))))))
   refine RO.nx (aK (vi (if al.2<a7.Y1 then a7.Y1 else al.2)) (RO.last ?_))
   obtain rfl:=oi hj
   exact⟨rfl,j.sp 8 [4,5,7]⟩
  rintro _ w ⟨O,rfl,j⟩
  refine bK (aG (RC.region (RL.inc hk hm (mv (vi ((aj+1:Nat):Int)) (RL.nil ?_)))))
  obtain rfl:=oi o
  exact⟨rfl,j.sp 3 [0,1,2]⟩
 rintro _ w ⟨O,rfl,j⟩
 refine aG (RC.seq ?_)
 obtain⟨cp,hN,o⟩:=bd o
 refine RC.iter (fun(aa: (List aA)×(List aA)×(List aA)×Int) U w=>∃bl bm bn:Value,SH E V [(0,bl),(1,bm),(2,v2),(7,bn),(8,vi aa.2.2.2),(9,vi ad.2)] [rd bl aa.1,rd bm aa.2.1,own 187 bn aa.2.2.1] U w) (fun(aa: (List aA)×(List aA)×(List aA)×Int) U w=>∃a2:Value,SH E V [(7,a2)] [own 187 a2 aa.2.2.1] U w) (fun(r:Empty) _ _=>r.elim) hN ?_ ?_ ?_ ?_
 ·have j:=j.cH aA 187
  exact⟨v0,v1,(.slice none 0 0),j.sp 4 [1,2,0]⟩
 ·rintro aa fl _ w ⟨b1,ay,ag,O,rfl,j⟩ o
  refine RC.seq (RC.sr (mv (vi aa.2.2.2) (mv (vi ad.2) (ic aa.2.2.2 ad.2 (RL.nt (eQ o (fun hc o=>?_) fun hc o=>?_))))))
  rotate_left
  ·refine RC.ex ?_
   obtain rfl:=oi o
   exact⟨rfl,ag,j.sp 3 [2]⟩
  refine RC.sn (RC.block (RC.seq ?_))
  obtain⟨cq,hN,o⟩:=bd o
  refine RC.iter (fun(an: (List aA)) U w=>∃bp:Value,SH E V [(0,bp),(1,ay),(2,v2),(7,ag),(8,vi aa.2.2.2),(9,vi ad.2)] [rd ay aa.2.1,own 187 ag aa.2.2.1,rd bp an] U w) (fun(an: (List aA)) U w=>∃ao:Value,SH E V [(0,ao),(1,ay),(2,v2),(7,ag),(8,vi aa.2.2.2),(9,vi ad.2)] [rd ay aa.2.1,own 187 ag aa.2.2.1,rd ao an] U w) (fun(r:Empty) _ _=>r.elim) hN ?_ ?_ ?_ ?_
  ·exact⟨b1,j.sp 3 [1,2,0]⟩
  ·rintro an fl _ w ⟨az,O,rfl,j⟩ o
   refine RC.seq (RC.seq ?_)
   obtain⟨ba,hj,o⟩:=bd o
   refine RC.jn (fun(ba:Bool)=>SH E V [(0,az),(1,ay),(2,v2),(7,ag),(8,vi aa.2.2.2),(9,vi ad.2),(82,vb ba)] [rd az an,rd ay aa.2.1,own 187 ag aa.2.2.1]) ba ?_ ?_
   ·refine RC.region (mv az (RL.bD 2 an j nv (ic ((an.length:Int)) 0 (mv (vb (decide ((an.length:Int)>0))) (fM hj (fun ah hj=>?_) fun ah hj=>?_)))))
    rotate_left
    ·refine bO ah (bO ah (bO ah (bO ah (bO ah (bO ah (fJ ah (vb false) (RL.nil ?_)))))))
     obtain rfl:=oi hj
     exact⟨rfl,j.sp 3 [2,0,1]⟩
    refine RL.move az (cg ah) ?_
    obtain⟨bb,b2,hj⟩:=bd hj
    refine RL.cC (hg:=(cg ah)) 2 j ka b2 fun cr j=>(RL.iu (hg:=(cg ah)) 0 j zr lH eN fun ct j=>(RL.bI (hg:=(cg ah)) bb.Y1 0 j cQ (RL.move (vi aa.2.2.2) (cg ah) (RL.i7 bb.Y1 aa.2.2.2 (cg ah) (fJ ah (vb (decide (bb.Y1<=aa.2.2.2))) (RL.nil ?_))))))
    obtain rfl:=oi hj
    exact⟨rfl,j.sp 5 [4,2,3]⟩
   rintro _ w ⟨O,rfl,j⟩
   refine aG (eQ o (fun hc o=>?_) fun hc o=>?_)
   rotate_left
   ·refine RC.ex ?_
    obtain rfl:=oi o
    exact⟨rfl,az,j.sp 3 [1,2,0]⟩
   refine RC.sn (RC.block (RC.region (mv az ?_)))
   obtain⟨cu,b3,o⟩:=bd o
   refine RL.cut 0 j ka (.inr ⟨rfl,zr⟩) b3 fun bq j=>(aK bq (RL.nil (bK ?_)))
   obtain rfl:=oi o
   exact⟨rfl,bq,j.sp 4 [2,3,0]⟩
  ·intro r _ _ _ _
   exact r.elim
  rintro an _ w rfl ⟨ao,O,rfl,j⟩
  rw [Fo.gl] at o
  refine aG (RC.seq ?_)
  obtain⟨cv,hN,o⟩:=bd o
  refine RC.iter (fun(av: (List aA)) U w=>∃br:Value,SH E V [(0,ao),(1,br),(2,v2),(7,ag),(8,vi aa.2.2.2),(9,vi ad.2)] [rd ao an,own 187 ag aa.2.2.1,rd br av] U w) (fun(av: (List aA)) U w=>∃a0:Value,SH E V [(0,ao),(1,a0),(2,v2),(7,ag),(8,vi aa.2.2.2),(9,vi ad.2)] [rd ao an,own 187 ag aa.2.2.1,rd a0 av] U w) (fun(r:Empty) _ _=>r.elim) hN ?_ ?_ ?_ ?_
  ·exact⟨ay,j.sp 3 [2,1,0]⟩
  ·rintro av fl _ w ⟨a1,O,rfl,j⟩ o
   refine RC.seq (RC.seq ?_)
   obtain⟨bc,hj,o⟩:=bd o
   refine RC.jn (fun(bc:Bool)=>SH E V [(0,ao),(1,a1),(2,v2),(7,ag),(8,vi aa.2.2.2),(9,vi ad.2),(95,vb bc)] [rd ao an,rd a1 av,own 187 ag aa.2.2.1]) bc ?_ ?_
   ·refine RC.region (mv a1 (RL.bD 2 av j nv (ic ((av.length:Int)) 0 (mv (vb (decide ((av.length:Int)>0))) (fM hj (fun ai hj=>?_) fun ai hj=>?_)))))
    rotate_left
    ·refine bO ai (bO ai (bO ai (bO ai (bO ai (bO ai (fJ ai (vb false) (RL.nil ?_)))))))
     obtain rfl:=oi hj
     exact⟨rfl,j.sp 3 [0,2,1]⟩
    refine RL.move a1 (cg ai) ?_
    obtain⟨bf,b4,hj⟩:=bd hj
    refine RL.cC (hg:=(cg ai)) 2 j ka b4 fun cw j=>(RL.iu (hg:=(cg ai)) 0 j zr lH eN fun cx j=>(RL.bI (hg:=(cg ai)) bf.Y1 0 j cQ (RL.move (vi aa.2.2.2) (cg ai) (RL.i7 bf.Y1 aa.2.2.2 (cg ai) (fJ ai (vb (decide (bf.Y1<=aa.2.2.2))) (RL.nil ?_))))))
    obtain rfl:=oi hj
    exact⟨rfl,j.sp 5 [2,4,3]⟩
   rintro _ w ⟨O,rfl,j⟩
   refine aG (eQ o (fun hc o=>?_) fun hc o=>?_)
   rotate_left
   ·refine RC.ex ?_
    obtain rfl:=oi o
    exact⟨rfl,a1,j.sp 3 [0,2,1]⟩
   refine RC.sn (RC.block (RC.region (mv a1 ?_)))
   obtain⟨cy,b5,o⟩:=bd o
   refine RL.cut 1 j ka (.inr ⟨rfl,zr⟩) b5 fun bt j=>(aK bt (RL.nil (bK ?_)))
   obtain rfl:=oi o
   exact⟨rfl,bt,j.sp 4 [1,3,0]⟩
  ·intro r _ _ _ _
   exact r.elim
  rintro av _ w rfl ⟨a0,O,rfl,j⟩
  rw [Fo.gl] at o
  refine aG (RC.sr (mv ao (mv (vi aa.2.2.2) (mv (vi ad.2) ?_))))
  obtain⟨ae,b6,o⟩:=bd o
  refine RL.call zt zr H2 [ao,(vi aa.2.2.2),(vi ad.2)] zr (aF (qL N (p1:=aa.2.2.2) (p2:=ad.2) (i0:=0) j zr b6) ?_)
  rintro _ w ⟨a3,rfl,j⟩
  refine mv (.tuple #[a3,(vi ae.2)]) (RL.extract a3 (RL.extract (vi ae.2) (aK a3 (aK (vi ae.2) (RL.ns (mv a0 (mv (vi aa.2.2.2) (mv (vi ad.2) ?_))))))))
  obtain⟨af,b7,o⟩:=bd o
  refine RL.call zt zr H2 [a0,(vi aa.2.2.2),(vi ad.2)] zr (aF (qL N (p1:=aa.2.2.2) (p2:=ad.2) (i0:=3) j zr b7) ?_)
  rintro _ w ⟨a4,rfl,j⟩
  refine mv (.tuple #[a4,(vi af.2)]) (RL.extract a4 (RL.extract (vi af.2) (aK a4 (aK (vi af.2) (RL.ns (mv (vi ae.2) (mv (vi af.2) (RL.min ae.2 af.2 ?_))))))))
  refine aK (vi (if af.2<ae.2 then af.2 else ae.2)) (RL.ns (mv ag (mv (vi aa.2.2.2) (mv (vi (if af.2<ae.2 then af.2 else ae.2)) (mv a3 (mv a4 (mv v2 ?_)))))))
  obtain⟨b8,b9,o⟩:=bd o
  refine RL.call zt zr J4 [a3,a4,v2] zr (aF (yM N (i0:=1) (i1:=0) j zr zr (h2.lift 5 zr) b9) ?_)
  rintro ca w j
  have j:=((j.sc Int aa.2.2.2).sc Int (if af.2<ae.2 then af.2 else ae.2)).freeze 2
  refine RL.build (⟨aa.2.2.2,(if af.2<ae.2 then af.2 else ae.2),b8⟩:aA) trivial rfl j [(0,vi aa.2.2.2),(1,(vi (if af.2<ae.2 then af.2 else ae.2))),(2,ca)] rfl HV rfl (fun M hs g=>by have h:=uy M;exact cO.cons (f:=fun(x:aA) y=>{x with Y0:=y}) h qG (g.sat 1 _ rfl).1 fun _ h=>cO.cons (f:=fun(x:aA) y=>{x with Y1:=y}) h nc (g.sat 0 _ rfl).1 fun _ h=>cO.cons (f:=fun(x:aA) y=>{x with Xs:=y}) h qH (g.sat 2 _ rfl).1 fun _ h=>cO.nil h) fun cb j=>?_
  have j:=j.pull 7
  obtain⟨cz,cc,o⟩:=bd o
  refine RL.call zt zr HW [ag,cb] zr (aF (oV N (i1:=0) j zr cc) ?_)
  rintro bu w j
  refine aK bu (RL.nt (RC.region (mv (vi (if af.2<ae.2 then af.2 else ae.2)) (aK (vi (if af.2<ae.2 then af.2 else ae.2)) (RL.nil (bK ?_))))))
  obtain rfl:=oi o
  exact⟨rfl,ao,a0,bu,j.sp 10 [7,9,0]⟩
 ·intro r _ _ _ _
  exact r.elim
 rintro aa _ w rfl ⟨a2,O,rfl,j⟩
 rw [Fo.gl] at o
 refine aG (RC.sr (mv a2 (aK a2 (RL.nt (RC.ret ?_)))))
 obtain rfl:=oi o
 exact cL (j.pk 1 [0])
theorem rD {p0 p1 res:Bool} (o:Holds E w V) (j:mc N p0 p1=some res):
    Calls bF 115 [(vb p0),(vb p1)].toArray w (gI (bE E V res)):=by
 unfold mc at j
 refine enter Tryz.func115 rfl rfl (RC.sr (aK (vb false) (RL.ns (mv (vb p0) (mv (vb p0) (RL.gs true p0 (vb p1) rfl rfl rfl dW (RL.gs true p0 (vb (!p1)) rfl rfl rfl (Ir (b:=p1) rfl (fun h=>by exact(cV h:cv (true&&(p0==true)) (vb p1)= (vb p1)))) (RL.pick p0 (vb (p0&&(!p1))) (i6 true) ?_))))))))
 refine aK (vb (p0&&(!p1))) (RL.nt (RC.ret ?_))
 obtain rfl:=oi j
 exact cL ⟨rfl,o.drop 0⟩
theorem uO {p0: (List aA)} {p1: (List aA)} {res: (List aA)} (o:Holds E w V) (h0:V[i0]? =some (rd v0 p0)) (h1:V[i1]? =some (rd v1 p1)) (hb:jL N p0 p1=some res):
    Calls bF 80 [v0,v1].toArray w (gI (kZ E V res)):=by
 unfold jL at hb
 refine enter Tryz.func80 zr zr ?_
 have o:=(o.dup (i0+0) h0).dup (i1+1) h1
 refine RC.sr (aK (.slice none 0 0) (RL.ns (mv v0 (mv v1 ?_))))
 obtain⟨af,ab,hb⟩:=bd hb
 refine RL.call trivial rfl J6 [v0,v1,(.func (.func 115) #[] #[])] rfl (aF (xR N (i0:=1) (i1:=0) o rfl rfl ⟨115,[],rfl,J5,fun w Γl v v' y0 y1 r i j o hi hj hr=>by obtain rfl:=o.zY (γ:=Bool) hi;obtain rfl:=o.zY (γ:=Bool) hj;exact aF (rD N (p0:=y0) (p1:=y1) o hr) fun _ _ h=>h⟩ ab) ?_)
 rintro ae w o
 refine aK ae (RL.nt (RC.ret ?_))
 obtain rfl:=oi hb
 exact cL (o.pk 3 [0])
theorem uP {p0: (List aA)} (j:Holds E w V) (h0:V[i0]? =some (rd v0 p0)) (hb:kC N p0=some res):
    Calls bF 81 [v0].toArray w (gI (aQ E V res)):=by
 unfold kC at hb
 refine enter Tryz.func81 zr zr ?_
 have j:=j.dup (i0+0) h0
 refine RC.sr (aK (vi 0) (RL.ns (aK (vi 0) (RL.nq (RC.sr (mv v0 (RL.bD 0 p0 j nv (mv (vi 0) ?_))))))))
 refine RL.nt ?_
 obtain⟨o,hN,hb⟩:=bd hb
 refine RC.fold (fun(ad:Nat) (o:Int)=>SH E V [(3,vi o),(6,v0),(7,vi p0.length),(8,vi ad)] [rd v0 p0]) (fun(o:Int)=>SH E V [(3,vi o)] [rd v0 p0]) hN ?_ ?_ ?_ ?_
 ·exact j.sp 1 [0]
 ·rintro hm o _ w ⟨O,rfl,j⟩
  refine RC.sr (ic ((p0.length:Int)) ((p0.length:Int)) (RL.nq (RC.cN lS (RC.ex ?_))))
  exact⟨rfl,j.sp 1 [0]⟩
 ·rintro hm ad o s' _ w hk ⟨O,rfl,j⟩ hb
  refine RC.sr (ic ((ad:Int)) ((p0.length:Int)) (RL.nq (RC.cM (lR hk) (RC.ss (RC.bs ?_)))))
  obtain⟨ab,ah,hb⟩:=bd hb
  refine RL.cC 0 j ka ah fun ai j=>(RL.bV 0 ab j uA fun aj j=>(RL.alloc j BG.z fun ak w j=>?_))
  refine RL.bA 0 j 1 zr uA fun w j=>?_
  refine RL.nt (RC.region (mv (vi o) (RL.aZ zr ko (RL.aP 0 j zr dG fH fun al j=>(RL.bD 0 ab.Xs j lM (RL.quo (ab.Xs.length:Int) 2 zr zr zr zr (RL.jA o (IntKind.wrap .i64 (Int.tdiv (ab.Xs.length:Int) 2)) (aK (vi (IntKind.wrap .i64 (o+ (IntKind.wrap .i64 (Int.tdiv (ab.Xs.length:Int) 2))))) ?_))))))))
  refine RL.nil (bK (aG (RC.region (RL.inc hk hm (mv (vi ((ad+1:Nat):Int)) (RL.nil ?_))))))
  obtain rfl:=oi hb
  exact⟨rfl,j.sp 5 [4]⟩
 rintro _ w ⟨O,rfl,j⟩
 refine aG (RC.sr (mv (vi o) (aK (vi o) (RL.nt (RC.ret ?_)))))
 obtain rfl:=oi hb
 exact cL ⟨rfl,j.drop 1⟩
def rE (E:World) (V:List HP) (b1:Nat) (res:Int×(List Int)) (v:Value) (w:World):Prop:=∃u1_0:Value,v= (vi res.1)/\Holds E w ([bc 87 b1 [u1_0],own 3 u1_0 res.2]++V)
theorem kj {p1_0: (List Int)} {res:Int×(List Int)} (j:Holds E w (bc 87 b1 [v1_0]::own 3 v1_0 p1_0::V)) (o:eI N p0 p1_0=some res):
    Calls bF 116 [(vi p0),(vp b1 0)].toArray w (gI (rE E V b1 res)):=by
 unfold eI at o
 refine enter Tryz.func116 zr zr (RC.sr (aK (vi 0) (RL.nq ?_)))
 obtain⟨an,hN,o⟩:=bd o
 refine RC.iter (fun(aa:Int×(List Int))=>SH E V [(0,vi aa.1),(1,vp b1 0)] [bc 87 b1 [v1_0],own 3 v1_0 aa.2]) (fun(aa:Int×(List Int))=>SH E V [(0,vi aa.1),(1,vp b1 0)] [bc 87 b1 [v1_0],own 3 v1_0 aa.2]) (fun(r:Empty) _ _=>r.elim) hN ?_ ?_ ?_ ?_
 ·exact j.sp 2 [0,1]
 ·rintro aa fl _ w ⟨O,rfl,j⟩ o
  refine RC.seq (RC.sr (RL.aY 0 v1_0 j fH (mv (vi aa.1) ?_)))
  obtain⟨ai,ab,o⟩:=bd o
  refine RL.bQ 1 j zr zr eJ ab (RL.dL (f:=(fun x=>x)) 1 j (jG 1 j ab 0) (bB ab).2.1 Fd.self cQ (mv (vi aa.1) (ic ai aa.1 (RL.nt (eQ o (fun hc o=>?_) fun hc o=>?_)))))
  rotate_left
  ·refine RC.ex ?_
   obtain rfl:=oi o
   exact⟨rfl,j.sp 2 [0,1]⟩
  refine RC.sn (RC.block (RC.seq (RC.yC mixed [0,0,0,0,0,0,0,0,0,0,2] [0,1,2,3,4,5,6,7,8,9,10] ?_)))
  have j:=j.drew
  refine DP.e0 zr (RL.aY 0 v1_0 j fH (cB zr (mv (vi aa.1) (cB zr (RL.aY 0 v1_0 j fH (cB zr (RL.aY 0 v1_0 j fH (cB zr ?_))))))))
  refine mv (vi aa.1) (cB zr ?_)
  obtain⟨aq,ad,o⟩:=bd o
  refine RL.bQ 1 j zr zr eJ ad (cB zr (RL.dL (f:=(fun x=>x)) 1 j (jG 1 j ad 0) (bB ad).2.1 Fd.self cQ (cB zr ?_)))
  obtain⟨ak,ae,o⟩:=bd o
  refine RL.bQ 1 j zr zr eJ ae (cB zr (RL.dL (f:=(fun x=>x)) 1 j (jG 1 j ae 0) (bB ae).2.1 Fd.self cQ (cB zr ?_)))
  obtain⟨ar,af,o⟩:=bd o
  refine RL.bQ 1 j zr zr eJ af (um zr ?_)
  have j:=j.sc Int ak
  refine RL.gE (f:=(fun _ y=>y)) 2 0 j (jG 2 j af 0) (bB af).2.1 zr Fs.self cQ fun w j=>?_
  refine DP.d2 zt (DP.z (aG (RC.region (RL.aY 1 v1_0 j fH (mv (vi aa.1) ?_)))))
  obtain⟨al,ag,o⟩:=bd o
  refine RL.bQ 2 j zr zr eJ ag (RL.dL (f:=(fun x=>x)) 2 j (jG 2 j ag 0) (bB ag).2.1 Fd.self cQ (aK (vi al) (RL.nil (bK ?_))))
  obtain rfl:=oi o
  exact⟨rfl,j.sp 3 [1,2]⟩
 ·intro r _ _ _ _
  exact r.elim
 rintro aa _ w rfl ⟨O,rfl,j⟩
 rw [Fo.gl] at o
 refine aG (RC.sr (mv (vi aa.1) (aK (vi aa.1) (RL.nt (RC.ret ?_)))))
 obtain rfl:=oi o
 exact cL ⟨v1_0,zr,j.pk 2 [0,1]⟩
def uQ (E:World) (V:List HP) (res: (List (List aA))) (v:Value) (w:World):Prop:=Holds E w ([own 132 v res]++V)
theorem tA {p0: (List aA)} {res: (List (List aA))} (o:Holds E w V) (h0:V[i0]? =some (rd v0 p0)) (hb:j8 N p0=some res):
    Calls bF 82 [v0].toArray w (gI (uQ E V res)):=by
 unfold j8 at hb
 refine enter Tryz.func82 zr zr ?_
 have o:=o.dup (i0+0) h0
 refine RC.sr (aK (.slice none 0 0) (RL.ns (mv v0 ?_)))
 obtain⟨ao,c6,hb⟩:=bd hb
 refine RL.call zt zr IJ [v0] zr (aF (lN N (i0:=0) o zr c6) ?_)
 rintro ag w o
 refine aK ag (RL.ns (mv ag (RL.dY 0 ao o oG ?_)))
 obtain⟨bm,c7,hb⟩:=bd hb
 refine RL.mk (ao.length:Int) o uz Jg c7 fun a9 w o=>?_
 refine RL.pw o Jx fun af w o=>?_
 refine RL.gV 0 a9 o zr zr (iB 1 o) fH fun w o=>?_
 refine RL.nq (RC.sr (RL.aY 0 a9 o fH (RL.dY 1 bm o lM (mv (vi 0) (RL.nt ?_)))))
 obtain⟨bj,hN,hb⟩:=bd hb
 refine RC.fold (fun(a7:Nat) (bj: (List Int))=>SH E V [(0,v0),(3,ag),(4,vp af 0),(32,vi bm.length),(33,vi a7)] [rd v0 p0,own 74 ag ao,bc 87 af [a9],own 3 a9 bj]) (fun(bj: (List Int))=>SH E V [(0,v0),(3,ag),(4,vp af 0)] [rd v0 p0,own 74 ag ao,bc 87 af [a9],own 3 a9 bj]) hN ?_ ?_ ?_ ?_
 ·exact o.sp 4 [3,2,0,1]
 ·rintro hm bj _ w ⟨O,rfl,o⟩
  refine RC.sr (ic ((bm.length:Int)) ((bm.length:Int)) (RL.nq (RC.cN lS (RC.ex ?_))))
  exact⟨rfl,o.sp 4 [0,1,2,3]⟩
 ·rintro hm a7 bj s' _ w hk ⟨O,rfl,o⟩ hb
  refine RC.sr (ic ((a7:Int)) ((bm.length:Int)) (RL.nq (RC.cM (lR hk) (RC.ss (RC.bs (mv (vi a7) (aK (vi a7) (RL.nt ?_))))))))
  refine RC.region (RL.aY 2 a9 o fH (mv (vi a7) (mv (vi a7) ?_)))
  obtain⟨dt,ca,hb⟩:=bd hb
  refine RL.bQ 3 o zr zr eJ ca ?_
  have o:=o.sc Int (a7:Int)
  refine RL.gE (f:=(fun _ y=>y)) 4 0 o (jG 4 o ca 0) (bB ca).2.1 zr Fs.self cQ fun w o=>?_
  refine RL.nil (bK (aG (RC.region (RL.inc hk hm (mv (vi ((a7+1:Nat):Int)) (RL.nil ?_))))))
  obtain rfl:=oi hb
  exact⟨rfl,o.sp 5 [1,2,3,4]⟩
 rintro _ w ⟨O,rfl,o⟩
 refine aG (RC.sr (RL.makeFunc [(vp af 0)] (aK (.func (.func 116) #[] #[(vp af 0)]) (RL.ns (aK (vi 0) (aK (vi 0) (RL.nq (RC.sr ?_))))))))
 refine mv v0 (RL.bD 0 p0 o nv (mv (vi 0) (RL.nt ?_)))
 obtain⟨ab,hN,hb⟩:=bd hb
 refine RC.fold (fun(ax:Nat) (ab: (List Int)×Int×Int) U w=>∃cr:Value,SH E V [(0,v0),(3,ag),(4,vp af 0),(6,(.func (.func 116) #[] #[(vp af 0)])),(7,vi ab.2.1),(8,vi ab.2.2),(42,v0),(43,vi p0.length),(44,vi ax)] [rd v0 p0,own 74 ag ao,bc 87 af [cr],own 3 cr ab.1] U w) (fun(ab: (List Int)×Int×Int) U w=>∃bq:Value,SH E V [(3,ag),(6,(.func (.func 116) #[] #[(vp af 0)]))] [rd v0 p0,own 74 ag ao,bc 87 af [bq],own 3 bq ab.1] U w) hN ?_ ?_ ?_ ?_
 ·exact⟨a9,o.sp 4 [0,1,2,3]⟩
 ·rintro hm ab _ w ⟨c8,O,rfl,o⟩
  refine RC.sr (ic ((p0.length:Int)) ((p0.length:Int)) (RL.nq (RC.cN lS (RC.ex ?_))))
  exact⟨rfl,c8,o.sp 4 [0,1,2,3]⟩
 ·rintro hm ax ab s' _ w hk ⟨br,O,rfl,o⟩ hb
  refine RC.sr (ic ((ax:Int)) ((p0.length:Int)) (RL.nq (RC.cM (lR hk) (RC.ss (RC.bs (mv (vi ax) ?_))))))
  obtain⟨al,c9,hb⟩:=bd hb
  refine RL.cC 0 o ka c9 fun du o=>(RL.bV 0 al o uA fun dv o=>(RL.alloc o BG.z fun dw w o=>?_))
  refine aK (vi ax) (RL.bA 0 o 1 zr uA fun w o=>?_)
  refine RL.ns (RL.aZ zr ko (RL.aP 0 o zr dG fH fun dx o=>(RL.bD 0 al.Xs o lM (RL.quo (al.Xs.length:Int) 2 zr zr zr zr (aK (vi (IntKind.wrap .i64 (Int.tdiv (al.Xs.length:Int) 2))) (RL.nq (RC.seq ?_)))))))
  obtain⟨cb,hj,hb⟩:=bd hb
  refine RC.jn (fun(cb:Bool)=>SH E V [(0,v0),(3,ag),(4,vp af 0),(6,(.func (.func 116) #[] #[(vp af 0)])),(7,vi ab.2.1),(8,vi ab.2.2),(11,(vi (IntKind.wrap .i64 (Int.tdiv (al.Xs.length:Int) 2)))),(42,v0),(43,vi p0.length),(44,vi ax),(65,vb cb)] [rd v0 p0,own 74 ag ao,bc 87 af [br],own 3 br ab.1]) cb ?_ ?_
  ·refine RC.xv mixed ?_
   have o:=o.drew
   refine RO.go (mv (vi ax) (RO.nx (ic ((ax:Int)) 0 (RO.nx (mv (vb (decide ((ax:Int)>0))) (fM hj (fun av hj=>?_) fun av hj=>?_))))))
   rotate_left
   ·refine RO.nx (bO av (RO.nx (bO av (RO.nx (bO av (RO.nx (bO av (RO.nx ?_))))))))
    refine bO av (RO.nx (bO av (RO.nx (bO av (RO.nx (bO av (RO.nx (bO av ?_))))))))
    refine RO.nx (fJ av (vb false) (RO.last ?_))
    obtain rfl:=oi hj
    exact⟨rfl,o.sp 8 [4,5,6,7]⟩
   refine RO.nx (RL.move v0 (cg av) (RO.nx (RL.move (vi ax) (cg av) (RO.nx (RL.jA (hg:=(cg av)) (ax:Int) 1 (RO.nx ?_))))))
   obtain⟨cc,da,hj⟩:=bd hj
   refine RL.cC (hg:=(cg av)) 4 o ka da fun dy o=>(RO.nx (RL.iu (hg:=(cg av)) 0 o zr lH eN fun dz o=>(RO.nx (RL.bI (hg:=(cg av)) cc.Y1 0 o cQ (RO.nx (RL.aZ (hg:=(cg av)) zr nG (RO.nx (RL.aM (hg:=(cg av)) 3 o zr fS cQ ?_))))))))
   refine RO.nx (RL.i7 cc.Y1 al.Y0 (cg av) (RO.nx (fJ av (vb (cc.Y1==al.Y0)) (RO.last ?_))))
   obtain rfl:=oi hj
   exact⟨rfl,o.sp 10 [6,7,8,9]⟩
  rintro _ w ⟨O,rfl,o⟩
  refine aG ?_
  obtain⟨cd,hj,hb⟩:=bd hb
  refine RC.jn (fun(cd: (List Int)) U w=>∃bt:Value,SH E V [(0,v0),(3,ag),(4,vp af 0),(6,(.func (.func 116) #[] #[(vp af 0)])),(7,vi ab.2.1),(11,(vi (IntKind.wrap .i64 (Int.tdiv (al.Xs.length:Int) 2)))),(42,v0),(43,vi p0.length),(44,vi ax)] [rd v0 p0,own 74 ag ao,bc 87 af [bt],own 3 bt cd] U w) cd ?_ ?_
  ·refine eQ hj (fun hc hj=>?_) fun hc hj=>?_
   rotate_left
   ·refine RC.skip ?_
    obtain rfl:=oi hj
    exact⟨rfl,br,o.sp 4 [0,1,2,3]⟩
   refine RC.sr (mv (vi ab.2.2) (mv (vi ab.2.1) (aK (vi ab.2.2) (aK (vi ab.2.1) (RL.nt ?_)))))
   obtain⟨d0,hN,hj⟩:=bd hj
   refine RC.iter (fun(ad: (List Int)×Int×Int) U w=>∃ct:Value,SH E V [(0,v0),(3,ag),(4,vp af 0),(6,(.func (.func 116) #[] #[(vp af 0)])),(7,vi ab.2.1),(11,(vi (IntKind.wrap .i64 (Int.tdiv (al.Xs.length:Int) 2)))),(12,vi ad.2.1),(13,vi ad.2.2),(42,v0),(43,vi p0.length),(44,vi ax)] [rd v0 p0,own 74 ag ao,bc 87 af [ct],own 3 ct ad.1] U w) (fun(ad: (List Int)×Int×Int) U w=>∃bu:Value,SH E V [(0,v0),(3,ag),(4,vp af 0),(6,(.func (.func 116) #[] #[(vp af 0)])),(7,vi ab.2.1),(11,(vi (IntKind.wrap .i64 (Int.tdiv (al.Xs.length:Int) 2)))),(42,v0),(43,vi p0.length),(44,vi ax)] [rd v0 p0,own 74 ag ao,bc 87 af [bu],own 3 bu ad.1] U w) (fun(r:Empty) _ _=>r.elim) hN ?_ ?_ ?_ ?_
   ·exact⟨br,o.sp 4 [0,1,2,3]⟩
   ·rintro ad fl _ w ⟨bw,O,rfl,o⟩ hb
    refine RC.seq (RC.sr (mv (vi ad.2.1) (mv (vi ab.2.1) (ic ad.2.1 ab.2.1 (mv (vb (decide (ad.2.1<ab.2.1))) (RL.gs true (decide (ad.2.1<ab.2.1)) (vi ad.2.2) zr zr zr dW (RL.gs true (decide (ad.2.1<ab.2.1)) (vi ab.2.1) zr zr zr dW (RL.gs true (decide (ad.2.1<ab.2.1)) (vi (IntKind.wrap .i64 (Int.tdiv (al.Xs.length:Int) 2))) zr zr zr dW ?_))))))))
    refine RL.gs true (decide (ad.2.1<ab.2.1)) (vi (IntKind.wrap .i64 (ab.2.1+ (IntKind.wrap .i64 (Int.tdiv (al.Xs.length:Int) 2))))) rfl rfl rfl (Iq (bop:= .add) (K:= .i64) (a:=ab.2.1) (b:=(IntKind.wrap .i64 (Int.tdiv (al.Xs.length:Int) 2))) rfl (fun h=>by exact(cV h:cv (true&&((decide (ad.2.1<ab.2.1))==true)) (vi ab.2.1)= (vi ab.2.1))) (fun h=>by exact(cV h:cv (true&&((decide (ad.2.1<ab.2.1))==true)) (vi (IntKind.wrap .i64 (Int.tdiv (al.Xs.length:Int) 2)))= (vi (IntKind.wrap .i64 (Int.tdiv (al.Xs.length:Int) 2))))) rfl) (RL.gs true (decide (ad.2.1<ab.2.1)) (vb (decide (ad.2.2< (IntKind.wrap .i64 (ab.2.1+ (IntKind.wrap .i64 (Int.tdiv (al.Xs.length:Int) 2))))))) rfl rfl rfl (eE .lss .i64 ad.2.2 (IntKind.wrap .i64 (ab.2.1+ (IntKind.wrap .i64 (Int.tdiv (al.Xs.length:Int) 2)))) rfl (fun h=>by exact(cV h:cv (true&&((decide (ad.2.1<ab.2.1))==true)) (vi ad.2.2)= (vi ad.2.2))) (fun h=>by exact(cV h:cv (true&&((decide (ad.2.1<ab.2.1))==true)) (vi (IntKind.wrap .i64 (ab.2.1+ (IntKind.wrap .i64 (Int.tdiv (al.Xs.length:Int) 2)))))= (vi (IntKind.wrap .i64 (ab.2.1+ (IntKind.wrap .i64 (Int.tdiv (al.Xs.length:Int) 2))))))) rfl) (RL.pick (decide (ad.2.1<ab.2.1)) (vb ((decide (ad.2.1<ab.2.1))&&(decide (ad.2.2< (IntKind.wrap .i64 (ab.2.1+ (IntKind.wrap .i64 (Int.tdiv (al.Xs.length:Int) 2)))))))) (i6 true) (RL.nt (eQ hb (fun hc hb=>?_) fun hc hb=>?_))))
    rotate_left
    ·refine RC.ex ?_
     obtain rfl:=oi hb
     exact⟨rfl,bw,o.sp 4 [0,1,2,3]⟩
    refine RC.sn (RC.block (RC.seq (RC.seq ?_)))
    obtain⟨cf,hj,hb⟩:=bd hb
    refine RC.jn (fun(cf:Bool)=>SH E V [(0,v0),(3,ag),(4,vp af 0),(6,(.func (.func 116) #[] #[(vp af 0)])),(7,vi ab.2.1),(11,(vi (IntKind.wrap .i64 (Int.tdiv (al.Xs.length:Int) 2)))),(12,vi ad.2.1),(13,vi ad.2.2),(42,v0),(43,vi p0.length),(44,vi ax),(101,vb cf)] [rd v0 p0,own 74 ag ao,bc 87 af [bw],own 3 bw ad.1]) cf ?_ ?_
    ·refine RC.xv mixed ?_
     have o:=o.drew
     refine RO.go (mv ag (RO.nx (mv (vi ad.2.1) (RO.nx ?_))))
     obtain⟨cu,bz,hj⟩:=bd hj
     refine RL.bQ 1 o zr zr kH bz (RO.nx (RL.m8 (α:=aI) (jG 1 o bz 0) jy (RO.nx (RL.dL 1 o (jG 1 o bz 0) (bB bz).2.1 eW cQ (RO.nx (mv ag (RO.nx (mv (vi ad.2.2) ?_))))))))
     refine RO.nx ?_
     obtain⟨cw,b0,hj⟩:=bd hj
     refine RL.bQ 1 o zr zr kH b0 (RO.nx (RL.m8 (α:=aI) (jG 1 o b0 0) kI (RO.nx (RL.dL 1 o (jG 1 o b0 2) (bB b0).2.1 gz cQ (RO.nx (ic cu.X0 cw.X1 (RO.nx (mv (vb (decide (cu.X0<cw.X1))) ?_))))))))
     refine fM hj (fun an hj=>?_) fun an hj=>?_
     rotate_left
     ·refine RO.nx (bO an (RO.nx (bO an (RO.nx (bO an (RO.nx (bO an (RO.nx ?_))))))))
      refine bO an (RO.nx (bO an (RO.nx (bO an (RO.nx (bO an (RO.nx (bO an ?_))))))))
      refine RO.nx (bO an (RO.nx (bO an (RO.nx (fJ an (vb false) (RO.last ?_))))))
      obtain rfl:=oi hj
      exact⟨rfl,o.sp 4 [0,1,2,3]⟩
     refine RO.nx (RL.move ag (cg an) (RO.nx (RL.move (vi ad.2.2) (cg an) (RO.nx ?_))))
     obtain⟨cx,b1,hj⟩:=bd hj
     refine RL.bQ (hg:=(cg an)) 1 o zr zr kH b1 (RO.nx (RL.m8 (hg:=(cg an)) (α:=aI) (jG 1 o b1 0) jy (RO.nx (RL.dL (hg:=(cg an)) 1 o (jG 1 o b1 0) (bB b1).2.1 eW cQ (RO.nx (RL.move ag (cg an) (RO.nx (RL.move (vi ad.2.1) (cg an) ?_))))))))
     refine RO.nx ?_
     obtain⟨cy,b2,hj⟩:=bd hj
     refine RL.bQ (hg:=(cg an)) 1 o zr zr kH b2 (RO.nx (RL.m8 (hg:=(cg an)) (α:=aI) (jG 1 o b2 0) kI (RO.nx (RL.dL (hg:=(cg an)) 1 o (jG 1 o b2 2) (bB b2).2.1 gz cQ (RO.nx (RL.i7 cx.X0 cy.X1 (cg an) (RO.nx (fJ an (vb (decide (cx.X0<cy.X1))) ?_))))))))
     refine RO.last ?_
     obtain rfl:=oi hj
     exact⟨rfl,o.sp 4 [0,1,2,3]⟩
    rintro _ w ⟨O,rfl,o⟩
    refine aG ?_
    obtain⟨b3,hj,hb⟩:=bd hb
    refine RC.jn (fun(b3: (List Int)) U w=>∃bk:Value,SH E V [(0,v0),(3,ag),(4,vp af 0),(6,(.func (.func 116) #[] #[(vp af 0)])),(7,vi ab.2.1),(11,(vi (IntKind.wrap .i64 (Int.tdiv (al.Xs.length:Int) 2)))),(12,vi ad.2.1),(13,vi ad.2.2),(42,v0),(43,vi p0.length),(44,vi ax)] [rd v0 p0,own 74 ag ao,bc 87 af [bk],own 3 bk b3] U w) b3 ?_ ?_
    ·refine eQ hj (fun hc hj=>?_) fun hc hj=>?_
     rotate_left
     ·refine RC.skip ?_
      obtain rfl:=oi hj
      exact⟨rfl,bw,o.sp 4 [0,1,2,3]⟩
     refine RC.sr (mv (.func (.func 116) #[] #[(vp af 0)]) (mv (vi ad.2.1) ?_))
     have o:=(o.pull 3).pull 3
     obtain⟨bb,db,hj⟩:=bd hj
     refine RL.oO [(vp af 0)] FL [(vi ad.2.1)] (aF (kj N (p0:=ad.2.1) o db) ?_)
     rintro _ w ⟨d4,rfl,o⟩
     refine mv (.func (.func 116) #[] #[(vp af 0)]) (mv (vi ad.2.2) ?_)
     have o:=(o.pull 1).pull 1
     obtain⟨bf,dc,hj⟩:=bd hj
     refine RL.oO [(vp af 0)] FL [(vi ad.2.2)] (aF (kj N (p0:=ad.2.2) o dc) ?_)
     rintro _ w ⟨cz,rfl,o⟩
     refine aK (vi bb.1) (aK (vi bf.1) (RL.nt (RC.region (RL.aY 0 cz o fH (mv (vi bb.1) (mv (vi bf.1) (RL.max bb.1 bf.1 (mv (vi bb.1) ?_))))))))
     refine mv (vi bf.1) (RL.min bb.1 bf.1 ?_)
     obtain⟨d5,ch,hj⟩:=bd hj
     refine RL.bQ 1 o zr zr eJ ch ?_
     have o:=o.sc Int (if bf.1<bb.1 then bf.1 else bb.1)
     refine RL.gE (f:=(fun _ y=>y)) 2 0 o (jG 2 o ch 0) (bB ch).2.1 zr Fs.self cQ fun w o=>?_
     refine RL.nil ?_
     obtain rfl:=oi hj
     exact⟨rfl,cz,o.sp 9 [5,6,1,2]⟩
    rintro _ w ⟨bk,O,rfl,o⟩
    refine aG (RC.seq (RC.xv mixed ?_))
    have o:=o.drew
    refine RO.go (mv ag (RO.nx (mv (vi ad.2.1) (RO.nx ?_))))
    obtain⟨dd,b4,hb⟩:=bd hb
    refine RL.bQ 1 o zr zr kH b4 (RO.nx (RL.m8 (α:=aI) (jG 1 o b4 0) kI (RO.nx (RL.dL 1 o (jG 1 o b4 2) (bB b4).2.1 gz cQ (RO.nx (mv ag (RO.nx (mv (vi ad.2.2) ?_))))))))
    refine RO.nx ?_
    obtain⟨de,b5,hb⟩:=bd hb
    refine RL.bQ 1 o zr zr kH b5 (RO.nx (RL.m8 (α:=aI) (jG 1 o b5 0) kI (RO.nx (RL.dL 1 o (jG 1 o b5 2) (bB b5).2.1 gz cQ (RO.nx (ic dd.X1 de.X1 (RO.last (aG ?_))))))))
    obtain⟨b6,hj,hb⟩:=bd hb
    refine RC.jn (fun(b6:Int×Int)=>SH E V [(0,v0),(3,ag),(4,vp af 0),(6,(.func (.func 116) #[] #[(vp af 0)])),(7,vi ab.2.1),(11,(vi (IntKind.wrap .i64 (Int.tdiv (al.Xs.length:Int) 2)))),(12,vi b6.1),(13,vi b6.2),(42,v0),(43,vi p0.length),(44,vi ax)] [rd v0 p0,own 74 ag ao,bc 87 af [bk],own 3 bk b3]) b6 ?_ ?_
    ·refine eQ hj (fun hc hj=>?_) fun hc hj=>?_
     ·refine RC.region (mv (vi ad.2.1) (RL.jA ad.2.1 1 (aK (vi (IntKind.wrap .i64 (ad.2.1+1))) (RL.nil ?_))))
      obtain rfl:=oi hj
      exact⟨rfl,o.sp 4 [0,1,2,3]⟩
     refine RC.region (mv (vi ad.2.2) (RL.jA ad.2.2 1 (aK (vi (IntKind.wrap .i64 (ad.2.2+1))) (RL.nil ?_))))
     obtain rfl:=oi hj
     exact⟨rfl,o.sp 4 [0,1,2,3]⟩
    rintro _ w ⟨O,rfl,o⟩
    refine bK ?_
    obtain rfl:=oi hb
    exact⟨rfl,bk,o.sp 4 [0,1,2,3]⟩
   ·intro r _ _ _ _
    exact r.elim
   rintro ad _ w rfl ⟨bu,O,rfl,o⟩
   rw [Fo.gl] at hj
   obtain rfl:=oi hj
   exact⟨rfl,bu,o.sp 4 [0,1,2,3]⟩
  rintro _ w ⟨bt,O,rfl,o⟩
  refine aG (RC.region (mv (vi ab.2.1) (mv (vi ab.2.1) (mv (vi (IntKind.wrap .i64 (Int.tdiv (al.Xs.length:Int) 2))) (RL.jA ab.2.1 (IntKind.wrap .i64 (Int.tdiv (al.Xs.length:Int) 2)) (aK (vi ab.2.1) (aK (vi (IntKind.wrap .i64 (ab.2.1+ (IntKind.wrap .i64 (Int.tdiv (al.Xs.length:Int) 2))))) (RL.nil ?_))))))))
  refine bK (aG (RC.region (RL.inc hk hm (mv (vi ((ax+1:Nat):Int)) (RL.nil ?_)))))
  obtain rfl:=oi hb
  exact⟨rfl,bt,o.sp 4 [0,1,2,3]⟩
 rintro _ w ⟨bq,O,rfl,o⟩
 refine aG (RC.sr (RL.makeMap (κ:=Int) (ν:=Int) zr o fun a5 w o=>(aK a5 (RL.ns (aK (.slice none 0 0) (RL.nq (RC.sr (mv ag ?_))))))))
 refine RL.dY 2 ao o oG (mv (vi 0) (RL.nt ?_))
 obtain⟨aj,hN,hb⟩:=bd hb
 refine RC.fold (fun(a4:Nat) (aj: (List Int)×(List (Int×Int))×(List (List aI))) U w=>∃(c0 c1:Value) (us939:List RV),SH E V [(6,(.func (.func 116) #[] #[(vp af 0)])),(16,a5),(17,c1),(137,ag),(138,vi ao.length),(139,vi a4)] [bc 87 af [c0],own 3 c0 aj.1,mp a5 aj.2.1,own 74 ag ao,own 23 c1 us939,gL (XS 74 aI) us939 aj.2.2 none] U w) (fun(aj: (List Int)×(List (Int×Int))×(List (List aI))) U w=>∃(cj bg:Value) (us942:List RV),SH E V [(17,bg)] [bc 87 af [cj],own 3 cj aj.1,mp a5 aj.2.1,own 74 ag ao,own 23 bg us942,gL (XS 74 aI) us942 aj.2.2 none] U w) hN ?_ ?_ ?_ ?_
 ·have o:=(o.wY (XS 74 aI)).cH RV 23
  exact⟨bq,(.slice none 0 0),([]:List RV),o.sp 7 [5,6,2,4,0,1]⟩
 ·rintro hm aj _ w ⟨df,dg,us987,O,rfl,o⟩
  refine RC.sr (ic ((ao.length:Int)) ((ao.length:Int)) (RL.nq (RC.cN lS (RC.ex ?_))))
  exact⟨rfl,df,dg,us987,o.sp 6 [0,1,2,3,4,5]⟩
 ·rintro hm a4 aj s' _ w hk ⟨d6,ck,us945,O,rfl,o⟩ hb
  refine RC.sr (ic ((a4:Int)) ((ao.length:Int)) (RL.nq (RC.cM (lR hk) (RC.ss (RC.bs (mv (vi a4) ?_))))))
  obtain⟨ba,cl,hb⟩:=bd hb
  refine RL.bQ 3 o zr zr kH cl (RL.iX (f:=(fun x=>x)) 3 o (jG 3 o cl 0) (bB cl).2.1 Fd.self fK fun d7 o=>?_)
  refine RL.alloc o mI.z fun b7 w o=>?_
  refine aK (vi a4) (RL.bA 0 o 1 zr fK fun w o=>?_)
  refine RL.ns (mv (.func (.func 116) #[] #[(vp af 0)]) (mv (vi a4) ?_))
  have o:=(o.pull 3).pull 3
  obtain⟨a1,dh,hb⟩:=bd hb
  refine RL.oO [(vp af 0)] FL [(vi a4)] (aF (kj N (p0:=(a4:Int)) o dh) ?_)
  rintro _ w ⟨bn,rfl,o⟩
  refine aK (vi a1.1) (RL.ns (mv a5 (mv (vi a1.1) (RL.xo 6 a1.1 zr o zr zr zr wm (mv (.tuple #[(vi (dH aj.2.1 a1.1 (0:Int))),(vb (gK aj.2.1 a1.1))]) (RL.extract (vi (dH aj.2.1 a1.1 (0:Int))) (RL.extract (vb (gK aj.2.1 a1.1)) (aK (vi (dH aj.2.1 a1.1 (0:Int))) ?_))))))))
  refine aK (vb (gK aj.2.1 a1.1)) (RL.nq (RC.sr (mv (vb (gK aj.2.1 a1.1)) (RL.not (gK aj.2.1 a1.1) (RL.nt ?_)))))
  obtain⟨ae,hj,hb⟩:=bd hb
  refine RC.jn (fun(ae: (List (Int×Int))×(List (List aI))×Int) U w=>∃(a0:Value) (us956:List RV),SH E V [(6,(.func (.func 116) #[] #[(vp af 0)])),(16,a5),(17,a0),(19,vp b7 0),(21,vi ae.2.2),(137,ag),(138,vi ao.length),(139,vi a4)] [bc 87 af [bn],own 3 bn a1.2,mp a5 ae.1,bx 74 b7 ba,own 74 ag ao,own 23 a0 us956,gL (XS 74 aI) us956 ae.2.1 none] U w) ae ?_ ?_
  ·refine eQ hj (fun hc hj=>?_) fun hc hj=>?_
   rotate_left
   ·refine RC.skip ?_
    obtain rfl:=oi hj
    exact⟨rfl,ck,us945,o.sp 10 [0,1,6,2,7,8,9]⟩
   refine RC.sr (mv ck (RL.px 8 9 aj.2.2 o BF (aK (vi aj.2.2.length) (RL.ns (mv a5 (mv (vi a1.1) (mv (vi aj.2.2.length) ?_)))))))
   have o:=o.sc Int (aj.2.2.length:Int)
   refine RL.mapUpdate 7 0 a1.1 o zr zr zr zr zr wm fun w o=>(RL.nt (RC.region (mv ck ?_)))
   have o:=(o.cH aI 74).Bi (i:=0) rfl
   refine RL.dS ([rv (.slice none 0 0)]:List RV) o [(.slice none 0 0)] CK J7 (fun M hs g=>⟨(g.sat 0 _ zr).1,zt⟩) fun d8 w o=>?_
   obtain⟨d9,di,hj⟩:=bd hj
   have o:=o.freeze 0
   refine RL.xq 12 0 13 2 zr o zr zr zr zr zr zr LH di fun c2 w o=>?_
   refine aK c2 (RL.nil ?_)
   obtain rfl:=oi hj
   exact⟨rfl,c2,(us945++[rv (.slice none 0 0)]),o.sp 14 [4,5,10,6,11,12,13]⟩
  rintro _ w ⟨a0,us956,O,rfl,o⟩
  refine aG ?_
  obtain⟨ea,b8,hb⟩:=bd hb
  obtain⟨bh,dj,hb⟩:=bd hb
  obtain⟨eb,cm,hb⟩:=bd hb
  refine RC.Ds E V mixed [1,1,1,1,0,0,0,0,0,0,0] [6,7,8,10] (fun(x:Value×Value×Value)=>(fun ay aw ak=>[(0,163,a0),(1,164,(vi ae.2.2)),(2,165,a0),(3,166,(vi ae.2.2)),(4,167,(zd a0 (Int.toNat ae.2.2) 1 0)),(5,168,(us956.getD (Int.toNat ae.2.2) wi).v),(6,169,ay),(7,170,aw),(8,171,ak),(9,172,(zd a0 (Int.toNat ae.2.2) 1 0))]) x.1 x.2.1 x.2.2) [(6,(.func (.func 116) #[] #[(vp af 0)])),(16,a5),(17,a0),(19,vp b7 0),(21,vi ae.2.2),(137,ag),(138,vi ao.length),(139,vi a4)] [] (fun(D:Nat->Bool) (x:Value×Value×Value)=>(fun ay aw ak=>[bif D 0 then (rd ay ba) else aX,bif D 2 then (rd aw ([ba]: (List aI))) else (bif D 1 then (own 74 aw ([ba]: (List aI))) else aX),bif D 3 then aX else (bif D 2 then (own 74 ak bh) else aX),bc 87 af [bn],own 3 bn a1.2,mp a5 ae.1,bx 74 b7 ba,own 74 ag ao,bif D 3 then (own 23 a0 (us956.set (Int.toNat ae.2.2) (rv ak))) else (own 23 a0 us956),bif D 3 then (gL (XS 74 aI) (us956.set (Int.toNat ae.2.2) (rv ak)) (ae.2.1.set (Int.toNat ae.2.2) bh) none) else (bif D 2 then (gL (XS 74 aI) us956 ae.2.1 (some (Int.toNat ae.2.2))) else (gL (XS 74 aI) us956 ae.2.1 none))]) x.1 x.2.1 x.2.2) (fun x=>by kernel_rfl) ?_ ⟨fun _=>iT gn,fun _=>iT gn,fun _=>iT gn,fun _=>iT gn,?_,?_,?_,?_,?_,?_,?_,trivial⟩ ?_
  ·have o:=(((o.drew).aX).aX).aX
   exact⟨(undef,undef,undef),dX.none,(Cr zr),zt,o⟩
  ·rintro D U w hD ar ai ⟨⟨ay,aw,ak⟩,hv,ha,_,o⟩
   obtain⟨O,rfl⟩:=(ac (hv.at 2 rfl (ar.1 rfl)) (ac (hv.at 3 rfl (ar.2.1 rfl)) az)).eT
   have o:=((o.bN 8 (nh ai hD 10)).bN 9 (nh ai hD 10)).bN 9 (nf (fun h=>ft hD ((ai 5 _ rfl ((ai 8 _ rfl h).1 rfl)).1 rfl)))
   have hl974:=o.fR 9
   have hr975:=iC wi hl974 b8
   refine RL.bQ 8 o zr zr CK hr975 ?_
   have o:=(o.eA 8 (D 10) (nh ai hD 10) (own 23 a0 (us956.set (Int.toNat ae.2.2) (rv ak)))).eA 9 (D 8) (nf (fun h=>ft hD ((ai 5 _ rfl ((ai 8 _ rfl h).1 rfl)).1 rfl))) (gL (XS 74 aI) us956 ae.2.1 (some (Int.toNat ae.2.2)))
   have o:=o.eA 9 (D 10) (nh ai hD 10) (gL (XS 74 aI) (us956.set (Int.toNat ae.2.2) (rv ak)) (ae.2.1.set (Int.toNat ae.2.2) bh) none)
   exact RL.nil ⟨rfl,(ay,aw,ak),hv.pu 4,ha.u,zt,o⟩
  ·rintro D U w hD ar ai ⟨⟨ay,aw,ak⟩,hv,ha,_,o⟩
   obtain⟨O,rfl⟩:=(ac (hv.at 4 rfl (ar.1 rfl)) az).eT
   have o:=((o.bN 8 (nh ai hD 10)).bN 9 (nh ai hD 10)).bN 9 (nh ai hD 8)
   have hl976:=o.fR 9
   have hr977:=iC wi hl976 b8
   refine RL.r8 8 9 ae.2.2 (ud 74 aI) wi zr o zr (jG 8 o hr977 0) zr zr b8 xH ?_
   have o:=(o.eA 8 (D 10) (nh ai hD 10) (own 23 a0 (us956.set (Int.toNat ae.2.2) (rv ak)))).eA 9 (D 8) (nh ai hD 8) (gL (XS 74 aI) us956 ae.2.1 (some (Int.toNat ae.2.2)))
   have o:=o.eA 9 (D 10) (nh ai hD 10) (gL (XS 74 aI) (us956.set (Int.toNat ae.2.2) (rv ak)) (ae.2.1.set (Int.toNat ae.2.2) bh) none)
   exact RL.nil ⟨rfl,(ay,aw,ak),hv.pu 5,ha.u,zt,o⟩
  ·rintro D U w hD ar ai ⟨⟨ay,aw,ak⟩,hv,ha,_,o⟩
   obtain⟨O,rfl⟩:=(ac (ha.at 3 rfl) az).eT
   have o:=o.bN 0 hD
   refine RL.aP (f:=(fun x=>x)) 6 o zr Fd.self fK fun dk o=>?_
   have o:=(o.pl 11 [0,2,3,4,5,6,7,8,9,10]).cG 0 true aX
   exact RL.nil ⟨rfl,(dk,aw,ak),hv.pu 6,ha.u,zt,o⟩
  ·rintro D U w hD ar ai ⟨⟨ay,aw,ak⟩,hv,ha,_,o⟩
   obtain⟨O,rfl⟩:=(ac (hv.at 6 rfl (ar.1 rfl)) az).eT
   have o:=((o.cF 0 (ar.1 rfl)).bN 1 (nh ai hD 8)).bN 1 hD
   refine RL.dS ([ba]: (List aI)) o [ay] kH mI (fun M hs g=>⟨(g.sat 0 _ zr).1,zt⟩) fun c3 w o=>?_
   have o:=(((o.pl 11 [1,0,3,4,5,6,7,8,9,10]).cG (hb:=ar.1 rfl) 0 (D 6) aX).cG 1 true aX).eA 1 (D 8) (nh ai hD 8) (rd c3 ([ba]: (List aI)))
   exact RL.nil ⟨rfl,(ay,c3,ak),hv.pu 7,ha.u,zt,o⟩
  ·rintro D U w hD ar ai ⟨⟨ay,aw,ak⟩,hv,ha,_,o⟩
   obtain⟨O,rfl⟩:=(ac (hv.at 5 rfl (ar.1 rfl)) (ac (hv.at 7 rfl (ar.2.1 rfl)) az)).eT
   have o:=(((((((o.bN 1 hD).cF 1 (ar.2.1 rfl)).bN 2 (nh ai hD 10)).bN 2 hD).bN 8 (nh ai hD 10)).bN 9 (nh ai hD 10)).bN 9 hD).xp (j:=9) (jj:=ae.2.2) (ud 74 aI) wi rfl b8
   have o:=o.freeze 2
   refine RL.app 0 2 o Ei dj fun cn w o=>?_
   have o:=((((o.pl 11 [1,2,0,4,5,6,7,8,9,10]).cG 1 true (bif D 7 then (own 74 aw ([ba]: (List aI))) else aX)).cG 2 true aX).eA 2 (D 10) (nh ai hD 10) aX).eA 8 (D 10) (nh ai hD 10) (own 23 a0 (us956.set (Int.toNat ae.2.2) (rv cn)))
   have o:=(o.cG 9 true (gL (XS 74 aI) us956 ae.2.1 none)).eA 9 (D 10) (nh ai hD 10) (gL (XS 74 aI) (us956.set (Int.toNat ae.2.2) (rv cn)) (ae.2.1.set (Int.toNat ae.2.2) bh) none)
   exact RL.nil ⟨rfl,(ay,aw,cn),hv.pu 8,ha.u,zt,o⟩
  ·rintro D U w hD ar ai ⟨⟨ay,aw,ak⟩,hv,ha,_,o⟩
   obtain⟨O,rfl⟩:=(ac (hv.at 0 rfl (ar.1 rfl)) (ac (hv.at 1 rfl (ar.2.1 rfl)) az)).eT
   have o:=((o.bN 8 (nh ai hD 10)).bN 9 (nh ai hD 10)).cF 9 (ar.2.2.2.2.2.2.2.2.2.2.1 rfl)
   have hl981:=o.fR 9
   have hr982:=iC wi hl981 cm
   refine RL.bQ 8 o zr zr CK hr982 ?_
   have o:=((o.eA 8 (D 10) (nh ai hD 10) (own 23 a0 (us956.set (Int.toNat ae.2.2) (rv ak)))).cG (hb:=ar.2.2.2.2.2.2.2.2.2.2.1 rfl) 9 (D 8) (gL (XS 74 aI) us956 ae.2.1 none)).eA 9 (D 10) (nh ai hD 10) (gL (XS 74 aI) (us956.set (Int.toNat ae.2.2) (rv ak)) (ae.2.1.set (Int.toNat ae.2.2) bh) none)
   exact RL.nil ⟨rfl,(ay,aw,ak),hv.pu 9,ha.u,zt,o⟩
  ·rintro D U w hD ar ai ⟨⟨ay,aw,ak⟩,hv,ha,_,o⟩
   obtain⟨O,rfl⟩:=(ac (hv.at 8 rfl (ar.2.1 rfl)) (ac (hv.at 9 rfl (ar.1 rfl)) az)).eT
   have o:=((((o.bN 2 hD).cF 2 (ar.2.1 rfl)).bN 8 hD).bN 9 hD).cF 9 (ar.2.1 rfl)
   have hl983:=o.fR 9
   have hr984:=iC wi hl983 cm
   refine RL.qe 8 9 2 ae.2.2 (ud 74 aI) wi o zr zr (jG 8 o hr984 0) zr zr zr cm xH fun w o=>?_
   have o:=((o.cG 2 true (bif D 8 then (own 74 ak bh) else aX)).cG 8 true (own 23 a0 us956)).cG 9 true (bif D 8 then (gL (XS 74 aI) us956 ae.2.1 (some (Int.toNat ae.2.2))) else (gL (XS 74 aI) us956 ae.2.1 none))
   exact RL.nil ⟨rfl,(ay,aw,ak),hv.n1,ha,zt,o⟩
  rintro D U w bo ⟨⟨ay,aw,ak⟩,hv,ha,_,o⟩
  have o:=((((o.cF 0 (jk bo 6)).cF 1 (jk bo 8)).cF 2 (jk bo 10)).cF 8 (jk bo 10)).cF 9 (jk bo 10)
  obtain⟨O,rfl⟩:=(ac (ha.at 0 rfl) (ac (ha.at 1 rfl) (ac (ha.at 2 rfl) (ac (ha.at 3 rfl) (ac (ha.at 4 rfl) (ac (ha.at 5 rfl) (ac (ha.at 6 rfl) (ac (ha.at 7 rfl) az)))))))).eT
  refine bK (aG (RC.region (RL.inc hk hm (mv (vi ((a4+1:Nat):Int)) (RL.nil ?_)))))
  obtain rfl:=oi hb
  exact⟨rfl,bn,a0,(us956.set (Int.toNat ae.2.2) (rv ak)),o.sp 10 [3,4,5,7,8,9]⟩
 rintro _ w ⟨cj,bg,us942,O,rfl,o⟩
 refine aG (RC.sr (aK (.slice none 0 0) (RL.nq (RC.sr (mv bg (RL.px 4 5 aj.2.2 o BF (mv (vi 0) (RL.nt ?_))))))))
 have o:=o.wZ (X:=(XS 74 aI)) (b:=5) (j:=4) rfl (fun M h u x cs=>(Fg 74) M h u x cs) rfl rfl (by decide)
 obtain⟨bl,hN,hb⟩:=bd hb
 refine RC.fold (fun(b9:Nat) (bl: (List (List aA))) U w=>∃c4:Value,SH E V [(23,c4),(174,bg),(175,vi aj.2.2.length),(176,vi b9)] [own 23 bg aj.2.2,own 132 c4 bl] U w) (fun(bl: (List (List aA))) U w=>∃bp:Value,SH E V [(23,bp)] [own 23 bg aj.2.2,own 132 bp bl] U w) hN ?_ ?_ ?_ ?_
 ·have o:=o.cH (List aA) 132
  exact⟨(.slice none 0 0),o.sp 7 [5,0]⟩
 ·rintro hm bl _ w ⟨dm,O,rfl,o⟩
  refine RC.sr (ic ((aj.2.2.length:Int)) ((aj.2.2.length:Int)) (RL.nq (RC.cN lS (RC.ex ?_))))
  exact⟨rfl,dm,o.sp 2 [0,1]⟩
 ·rintro hm b9 bl s' _ w hk ⟨dn,O,rfl,o⟩ hb
  refine RC.sr (ic ((b9:Int)) ((aj.2.2.length:Int)) (RL.nq (RC.cM (lR hk) (RC.ss (RC.bs ?_)))))
  obtain⟨ec,cp,hb⟩:=bd hb
  refine RL.bQ 0 o zr zr CK cp (RL.iX (f:=(fun x=>x)) 0 o (jG 0 o cp 0) (bB cp).2.1 Fd.self xH fun cq o=>?_)
  refine aK cq (RL.nt (RC.region (mv dn (mv cq ?_))))
  obtain⟨dp,dq,hb⟩:=bd hb
  refine RL.call zt zr FD [cq] zr (aF (kL N (i0:=0) o zr dq) ?_)
  rintro dr w o
  have o:=o.freeze 0
  refine RL.dS ([dp]: (List (List aA))) o [dr] BH FK (fun M hs g=>⟨(g.sat 0 _ zr).1,zt⟩) fun ed w o=>?_
  have o:=o.freeze 0
  obtain⟨ee,ds,hb⟩:=bd hb
  refine RL.app 4 0 o H4 ds fun c5 w o=>?_
  refine aK c5 (RL.nil (bK (aG (RC.region (RL.inc hk hm (mv (vi ((b9+1:Nat):Int)) (RL.nil ?_)))))))
  obtain rfl:=oi hb
  exact⟨rfl,c5,o.sp 5 [3,4]⟩
 rintro _ w ⟨bp,O,rfl,o⟩
 refine aG (RC.sr (mv bp (aK bp (RL.nt (RC.ret ?_)))))
 obtain rfl:=oi hb
 exact cL (o.pk 2 [1])
def rF (E:World) (V:List HP) (b0:Nat) (v0_0 v0_1:Value) (v0_2 v0_3:Value) (v0_6 v0_7:Value) (v0_8 v0_9:Value) (v0_10 v0_11:Value) (res:Bool×(List (List aA))×(List aH)) (v:Value) (w:World):Prop:=∃u0_4 u0_5:Value,v= (vb res.1)/\Holds E w ([bc 126 b0 [v0_0,v0_1,v0_2,v0_3,u0_4,u0_5,v0_6,v0_7,v0_8,v0_9,v0_10,v0_11],own 132 u0_4 res.2.1,own 134 u0_5 res.2.2]++V)
theorem qQ {p0_0: (List (List aI))} {p0_2: (List bW)} {p0_4: (List (List aA))} {p0_5: (List aH)} {res:Bool×(List (List aA))×(List aH)} (j:Holds E w (bc 126 b0 [v0_0,v0_1,v0_2,v0_3,v0_4,v0_5,v0_6,v0_7,v0_8,v0_9,v0_10,v0_11]::rd v0_0 p0_0::rd v0_2 p0_2::own 132 v0_4 p0_4::own 134 v0_5 p0_5::V)) (o:iN N p0_0 p0_2 p0_4 p0_5=some res):
    Calls bF 51 [(vp b0 0)].toArray w (gI (rF E V b0 v0_0 v0_1 v0_2 v0_3 v0_6 v0_7 v0_8 v0_9 v0_10 v0_11 res)):=by
 unfold iN at o
 refine enter Tryz.func51 zr zr (RC.sr (aK (vb false) (RL.ns (aK (vb true) (RL.nq (RC.sr (mv (vp b0 0) (RL.nilCheck zr ?_))))))))
 refine RL.aZ zr kp (RL.aZ zr vE (RL.aY 0 v0_0 j Eh (RL.bD 1 p0_0 j BF (mv (vi 0) (RL.nt ?_)))))
 obtain⟨aa,hN,o⟩:=bd o
 refine RC.fold (fun(ab:Nat) (aa: (List (List aA))×(List aH)×Bool) U w=>∃bf bg:Value,SH E V [(0,vp b0 0),(3,vb aa.2.2),(16,v0_0),(17,vi p0_0.length),(18,vi ab)] [bc 126 b0 [v0_0,v0_1,v0_2,v0_3,bf,bg,v0_6,v0_7,v0_8,v0_9,v0_10,v0_11],own 132 bf aa.1,own 134 bg aa.2.1,rd v0_0 p0_0,rd v0_2 p0_2] U w) (fun(aa: (List (List aA))×(List aH)×Bool) U w=>∃au al:Value,SH E V [(0,vp b0 0),(3,vb aa.2.2)] [bc 126 b0 [v0_0,v0_1,v0_2,v0_3,au,al,v0_6,v0_7,v0_8,v0_9,v0_10,v0_11],own 132 au aa.1,own 134 al aa.2.1,rd v0_0 p0_0,rd v0_2 p0_2] U w) hN ?_ ?_ ?_ ?_
 ·exact⟨v0_4,v0_5,j.sp 5 [0,3,4,1,2]⟩
 ·rintro hm aa _ w ⟨bq,br,O,rfl,j⟩
  refine RC.sr (ic ((p0_0.length:Int)) ((p0_0.length:Int)) (RL.nq (RC.cN lS (RC.ex ?_))))
  exact⟨rfl,bq,br,j.sp 5 [0,1,2,3,4]⟩
 ·rintro hm ab aa s' _ w hk ⟨af,ag,O,rfl,j⟩ o
  refine RC.sr (ic ((ab:Int)) ((p0_0.length:Int)) (RL.nq (RC.cM (lR hk) (RC.ss (RC.bs (mv (vi ab) ?_))))))
  obtain⟨a2,bt,o⟩:=bd o
  refine RL.cC 3 j CK bt fun cp j=>(RL.bV 0 a2 j xH fun ah j=>(aK (vi ab) (aK ah (RL.ns (aK (.slice none 0 0) (RL.nq (RC.sr (mv (vp b0 0) ?_))))))))
  refine RL.nilCheck zr (RL.aZ zr kp (RL.aZ zr mJ (RL.aY 2 v0_2 j vF (RL.bD 6 p0_2 j xI (mv (vi 0) (RL.nt ?_))))))
  obtain⟨av,hN,o⟩:=bd o
  refine RC.fold (fun(az:Nat) (av: (List aI)) U w=>∃bh:Value,SH E V [(0,vp b0 0),(3,vb aa.2.2),(4,vi ab),(5,ah),(6,bh),(16,v0_0),(17,vi p0_0.length),(18,vi ab),(27,v0_2),(28,vi p0_2.length),(29,vi az)] [bc 126 b0 [v0_0,v0_1,v0_2,v0_3,af,ag,v0_6,v0_7,v0_8,v0_9,v0_10,v0_11],rd v0_0 p0_0,rd v0_2 p0_2,own 132 af aa.1,own 134 ag aa.2.1,rd ah a2,own 74 bh av] U w) (fun(av: (List aI)) U w=>∃a0:Value,SH E V [(0,vp b0 0),(3,vb aa.2.2),(4,vi ab),(5,ah),(6,a0),(16,v0_0),(17,vi p0_0.length),(18,vi ab)] [bc 126 b0 [v0_0,v0_1,v0_2,v0_3,af,ag,v0_6,v0_7,v0_8,v0_9,v0_10,v0_11],rd v0_0 p0_0,rd v0_2 p0_2,own 132 af aa.1,own 134 ag aa.2.1,rd ah a2,own 74 a0 av] U w) hN ?_ ?_ ?_ ?_
  ·have j:=j.cH aI 74
   exact⟨(.slice none 0 0),j.sp 8 [3,6,7,4,5,1,0]⟩
  ·rintro hm av _ w ⟨bu,O,rfl,j⟩
   refine RC.sr (ic ((p0_2.length:Int)) ((p0_2.length:Int)) (RL.nq (RC.cN lS (RC.ex ?_))))
   exact⟨rfl,bu,j.sp 7 [0,1,2,3,4,5,6]⟩
  ·rintro hm az av s' _ w hk ⟨bj,O,rfl,j⟩ o
   refine RC.sr (ic ((az:Int)) ((p0_2.length:Int)) (RL.nq (RC.cM (lR hk) (RC.ss (RC.bs ?_)))))
   obtain⟨bw,bx,o⟩:=bd o
   refine RL.cC 2 j Al bx fun cq j=>(RL.bV 0 bw j lf fun cr j=>(RL.alloc j zp.z fun ct w j=>?_))
   refine RL.bA 0 j 1 zr lf fun w j=>?_
   refine RL.ns (RL.aP (f:=(fun x=>x)) 0 j zr Fd.self lf fun bz j=>(mv (vi ab) ?_))
   obtain⟨cu,b1,o⟩:=bd o
   refine RL.call zt zr IM [bz,(vi ab)] zr (aF (mi N (p1:=(ab:Int)) (i0:=0) j zr b1) ?_)
   rintro _ w ⟨rfl,j⟩
   refine RL.nt ?_
   obtain⟨a6,hj,o⟩:=bd o
   refine RC.jn (fun(a6: (List aI)) U w=>∃a3:Value,SH E V [(0,vp b0 0),(3,vb aa.2.2),(4,vi ab),(5,ah),(6,a3),(16,v0_0),(17,vi p0_0.length),(18,vi ab),(27,v0_2),(28,vi p0_2.length),(29,vi az)] [bc 126 b0 [v0_0,v0_1,v0_2,v0_3,af,ag,v0_6,v0_7,v0_8,v0_9,v0_10,v0_11],rd v0_0 p0_0,rd v0_2 p0_2,own 132 af aa.1,own 134 ag aa.2.1,rd ah a2,own 74 a3 a6] U w) a6 ?_ ?_
   ·refine eQ hj (fun hc hj=>?_) fun hc hj=>?_
    rotate_left
    ·refine RC.skip ?_
     obtain rfl:=oi hj
     exact⟨rfl,bj,j.sp 11 [4,5,6,7,8,9,10]⟩
    refine RC.region (mv bj (RL.aP (f:=(fun x=>x)) 1 j zr Fd.self lf fun b3 j=>?_))
    obtain⟨b4,b5,hj⟩:=bd hj
    refine RL.call zt zr Ej [b3] zr (aF (gQ N (i0:=0) j zr b5) ?_)
    rintro b6 w j
    refine RL.dS ([b4]: (List aI)) j [b6] kH mI (fun M hs g=>⟨(g.sat 0 _ zr).1,zt⟩) fun cv w j=>?_
    have j:=j.freeze 0
    obtain⟨cw,b7,hj⟩:=bd hj
    refine RL.app 13 0 j Ei b7 fun bk w j=>?_
    refine aK bk (RL.nil ?_)
    obtain rfl:=oi hj
    exact⟨rfl,bk,j.sp 14 [7,8,9,10,11,12,13]⟩
   rintro _ w ⟨a3,O,rfl,j⟩
   refine bK (aG (RC.region (RL.inc hk hm (mv (vi ((az+1:Nat):Int)) (RL.nil ?_)))))
   obtain rfl:=oi o
   exact⟨rfl,a3,j.sp 7 [0,1,2,3,4,5,6]⟩
  rintro _ w ⟨a0,O,rfl,j⟩
  refine aG (RC.sr (mv ah ?_))
  obtain⟨cx,b8,o⟩:=bd o
  refine RL.call zt zr FD [ah] zr (aF (kL N (i0:=5) j zr b8) ?_)
  rintro b9 w j
  refine mv a0 ?_
  have j:=j.freeze 7
  obtain⟨cy,ca,o⟩:=bd o
  refine RL.call zt zr FD [a0] zr (aF (kL N (i0:=7) j zr ca) ?_)
  rintro cb w j
  have j:=(j.freeze 1).freeze 0
  obtain⟨cz,cc,o⟩:=bd o
  refine RL.call zt zr LF [b9,cb] zr (aF (uO N (i0:=1) (i1:=0) j zr zr cc) ?_)
  rintro a1 w j
  refine aK a1 (RL.nq ?_)
  obtain⟨an,hj,o⟩:=bd o
  refine RC.jn (fun(an:Bool×(List aA)) U w=>∃ao:Value,SH E V [(0,vp b0 0),(3,vb an.1),(4,vi ab),(9,ao),(16,v0_0),(17,vi p0_0.length),(18,vi ab)] [bc 126 b0 [v0_0,v0_1,v0_2,v0_3,af,ag,v0_6,v0_7,v0_8,v0_9,v0_10,v0_11],rd v0_0 p0_0,rd v0_2 p0_2,own 132 af aa.1,own 134 ag aa.2.1,rd ao an.2] U w) an ?_ ?_
  ·refine RC.region (mv (vb aa.2.2) (mv (vb aa.2.2) (fM hj (fun ai hj=>?_) fun ai hj=>?_)))
   rotate_left
   ·refine bO ai (bO ai (bO ai (fJ ai (vb false) (aK (vb false) (RL.nil ?_)))))
    obtain rfl:=oi hj
    have j:=j.freeze 0
    exact⟨rfl,a1,j.sp 10 [3,4,5,6,7,0]⟩
   refine RL.move a1 (cg ai) ?_
   have j:=j.freeze 0
   obtain⟨a7,cd,hj⟩:=bd hj
   refine RL.call (cg ai) zr LG [a1] zr (aF (uP N (i0:=0) j zr cd) ?_)
   rintro _ w ⟨rfl,j⟩
   refine RL.i7 a7 2000 (cg ai) (fJ ai (vb (decide (a7<=2000))) (aK (vb (decide (a7<=2000))) (RL.nil ?_)))
   obtain rfl:=oi hj
   exact⟨rfl,a1,j.sp 10 [3,4,5,6,7,0]⟩
  rintro _ w ⟨ao,O,rfl,j⟩
  refine aG (RC.sr (mv (vp b0 0) (mv (vp b0 0) (RL.nilCheck zr (RL.aZ zr Dy (RL.aY 0 af j H3 (mv ao (RL.dS ([an.2]: (List (List aA))) j [ao] BH FK (fun M hs g=>⟨(g.sat 5 _ zr).1,zt⟩) fun c0 w j=>?_))))))))
  have j:=j.freeze 0
  obtain⟨bl,cf,o⟩:=bd o
  refine RL.app 4 0 j H4 cf fun aq w j=>?_
  refine RL.nilCheck zr (RL.aZ zr Dy (RL.gV 1 aq j zr zr (iB 4 j) H3 fun w j=>?_))
  refine RL.ns (mv ao ?_)
  obtain⟨ar,ch,o⟩:=bd o
  refine RL.call zt zr LI [ao] zr (aF (tA N (i0:=6) j zr ch) ?_)
  rintro a8 w j
  refine RL.dY 0 ar j HZ (mv (vi 0) (RL.nt ?_))
  obtain⟨aw,hN,o⟩:=bd o
  refine RC.fold (fun(a4:Nat) (aw: (List aH)) U w=>∃bm:Value,SH E V [(0,vp b0 0),(3,vb an.1),(4,vi ab),(16,v0_0),(17,vi p0_0.length),(18,vi ab),(64,a8),(65,vi ar.length),(66,vi a4)] [bc 126 b0 [v0_0,v0_1,v0_2,v0_3,aq,bm,v0_6,v0_7,v0_8,v0_9,v0_10,v0_11],own 134 bm aw,rd v0_0 p0_0,rd v0_2 p0_2,own 132 aq bl,own 132 a8 ar] U w) (fun(aw: (List aH)) U w=>∃a5:Value,SH E V [(0,vp b0 0),(3,vb an.1),(16,v0_0),(17,vi p0_0.length),(18,vi ab)] [bc 126 b0 [v0_0,v0_1,v0_2,v0_3,aq,a5,v0_6,v0_7,v0_8,v0_9,v0_10,v0_11],own 134 a5 aw,rd v0_0 p0_0,rd v0_2 p0_2,own 132 aq bl,own 132 a8 ar] U w) hN ?_ ?_ ?_ ?_
  ·exact⟨ag,j.sp 8 [2,6,3,4,5,0]⟩
  ·rintro hm aw _ w ⟨cj,O,rfl,j⟩
   refine RC.sr (ic ((ar.length:Int)) ((ar.length:Int)) (RL.nq (RC.cN lS (RC.ex ?_))))
   exact⟨rfl,cj,j.sp 6 [0,1,2,3,4,5]⟩
  ·rintro hm a4 aw s' _ w hk ⟨a9,O,rfl,j⟩ o
   refine RC.sr (ic ((a4:Int)) ((ar.length:Int)) (RL.nq (RC.cM (lR hk) (RC.ss (RC.bs ?_)))))
   obtain⟨bn,ba,o⟩:=bd o
   refine RL.bQ 5 j zr zr BH ba (RL.iX (f:=(fun x=>x)) 5 j (jG 5 j ba 0) (bB ba).2.1 Fd.self H0 fun ax j=>?_)
   refine aK ax (RL.nt ?_)
   have j:=j.drew
   refine RC.Fu (fun w=>Holds E w ([bc 126 b0 [v0_0,v0_1,v0_2,v0_3,aq,a9,v0_6,v0_7,v0_8,v0_9,v0_10,v0_11]]++V)) mixed zr [1,1,1,1,1,1,1,0,2,0,2,2,0,0,2] [0,1,2,3,4,5,6,7,8,9,10,11,12,13,14] (j.pk 7 [1]) (DP.e1 (vp b0 0) zr (fun w=>RL.move (vp b0 0) zt DP.d1) (DP.e1 (vp b0 0) zr (fun w=>RL.move (vp b0 0) zt DP.d1) (DP.e1 (vp b0 0) zr (fun w=>RL.nilCheck zr DP.d1) (DP.e1 (vp b0 5) zr (fun w=>RL.aZ zr lI DP.d1) (DP.IF a9 zr (fun w j=>RL.aY 0 a9 j qJ DP.d1) (DP.e1 (vi ab) zr (fun w=>RL.move (vi ab) zt DP.d1) (DP.e1 ax zr (fun w=>RL.move ax zt DP.d1) (DP.e0 zr ?_))))))))
   refine mv ax (um zr ?_)
   obtain⟨bo,ck,o⟩:=bd o
   refine RL.call zt zr IJ [ax] zr (aF (lN N (i0:=0) j zr ck) ?_)
   rintro cl w j
   refine DP.d2 (j.pk 8 [2]) (DP.e0 zr ?_)
   have j:=(j.sc Int (ab:Int)).freeze 1
   refine RL.build (⟨(ab:Int),bn,bo⟩:aH) trivial rfl j [(0,vi ab),(1,ax),(2,cl)] rfl J8 rfl (fun M hs g=>by have h:=xG M;exact cO.cons (f:=fun(x:aH) y=>{x with cX:=y}) h uu (g.sat 0 _ rfl).1 fun _ h=>cO.cons (f:=fun(x:aH) y=>{x with Set:=y}) h uv (g.sat 2 _ rfl).1 fun _ h=>cO.cons (f:=fun(x:aH) y=>{x with iZ:=y}) h uw (g.sat 1 _ rfl).1 fun _ h=>cO.nil h) fun cm j=>?_
   refine um zr (RL.dS ([(⟨(ab:Int),bn,bo⟩:aH)]: (List aH)) j [cm] zu Dz (fun M hs g=>⟨(g.sat 0 _ zr).1,zt⟩) fun c1 w j=>(DP.d2 (j.pk 11 [5]) (DP.e2 zr ?_)))
   have j:=j.freeze 0
   obtain⟨c2,cn,o⟩:=bd o
   refine RL.app 6 0 j J9 cn fun bp w j=>?_
   refine DP.d2 (j.pk 11 [5]) (DP.e0 zr (RL.nilCheck zr (cB zr (RL.aZ zr lI (DP.d0 (DP.My zr zr (RL.gV 5 bp j zr zr (iB 6 j) qJ fun w j=>?_)))))))
   refine DP.d2 zt (DP.z (bK (aG (RC.region (RL.inc hk hm (mv (vi ((a4+1:Nat):Int)) (RL.nil ?_)))))))
   obtain rfl:=oi o
   exact⟨rfl,bp,j.sp 11 [5,6,7,8,9,10]⟩
  rintro _ w ⟨a5,O,rfl,j⟩
  refine bK (aG (RC.region (RL.inc hk hm (mv (vi ((ab+1:Nat):Int)) (RL.nil ?_)))))
  obtain rfl:=oi o
  exact⟨rfl,aq,a5,j.sp 6 [0,4,1,2,3]⟩
 rintro _ w ⟨au,al,O,rfl,j⟩
 refine aG (RC.seq ?_)
 obtain⟨bb,hj,o⟩:=bd o
 refine RC.jn (fun(bb:Bool)=>SH E V [(0,vp b0 0),(2,vb bb)] [bc 126 b0 [v0_0,v0_1,v0_2,v0_3,au,al,v0_6,v0_7,v0_8,v0_9,v0_10,v0_11],rd v0_0 p0_0,rd v0_2 p0_2,own 132 au aa.1,own 134 al aa.2.1]) bb ?_ ?_
 ·refine RC.region (mv (vb aa.2.2) (mv (vb aa.2.2) (fM hj (fun ae hj=>?_) fun ae hj=>?_)))
  ·refine RL.move (vp b0 0) (cg ae) (RL.nilCheck (hg:=(cg ae)) zr (RL.aZ (hg:=(cg ae)) zr lI (RL.aY (hg:=(cg ae)) 0 al j qJ (RL.dY (hg:=(cg ae)) 2 aa.2.1 j wo (RL.i7 (aa.2.1.length:Int) 2000 (cg ae) (fJ ae (vb (decide ((aa.2.1.length:Int)<=2000))) (aK (vb (decide ((aa.2.1.length:Int)<=2000))) (RL.nil ?_))))))))
   obtain rfl:=oi hj
   exact⟨rfl,j.sp 5 [0,3,4,1,2]⟩
  refine bO ae (bO ae (bO ae (bO ae (bO ae (bO ae (fJ ae (vb false) (aK (vb false) (RL.nil ?_))))))))
  obtain rfl:=oi hj
  exact⟨rfl,j.sp 5 [0,3,4,1,2]⟩
 rintro _ w ⟨O,rfl,j⟩
 refine aG (RC.ret ?_)
 obtain rfl:=oi o
 exact cL ⟨au,al,zr,j.pk 5 [0,3,4]⟩
end Go.Gk
namespace Go.Gk
open Go Go.Proofs
variable (N:Nat) {E w:World} {b0 i0 i1:Nat} {p0 p1 p2 res:Int} {v0 v0_0 v0_1 v0_10 v0_11 v0_2 v0_3 v0_4 v0_5 v0_6 v0_7 v0_8 v0_9 v1:Value} {V:List HP}
theorem vM {p0 p1:aI} {res:Bool} (j:Holds E w V) (h0:V[i0]? =some (rd v0 p0)) (h1:V[i1]? =some (rd v1 p1)) (hb:o6 N p0 p1=some res):
    Calls bF 85 [v0,v1].toArray w (gI (bE E V res)):=by
 unfold o6 at hb
 refine enter Tryz.func85 zr zr ?_
 have j:=(j.dup (i0+0) h0).dup (i1+1) h1
 refine RC.sr (RL.dB 1 v0 j zr fun o w j=>?_)
 refine RL.dB 1 v1 j zr fun aa w j=>?_
 refine aK (vb false) (RL.ns (RL.aZ zr jy (RL.aM 1 j zr eW cQ (RL.aZ zr kI (RL.aM 0 j zr gz cQ (ic p0.X0 p1.X1 (mv (vb (decide (p0.X0<p1.X1))) (RL.gs true (decide (p0.X0<p1.X1)) (vp aa 0) zr zr zr (dN jy) ?_))))))))
 refine RL.gs true (decide (p0.X0<p1.X1)) (vi p1.X0) rfl rfl rfl (bZ 0 rfl j (fun h=>by exact(cV h:cv (true&&((decide (p0.X0<p1.X1))==true)) (vp aa 0)= (vp aa 0))) rfl eW cQ) (RL.gs true (decide (p0.X0<p1.X1)) (vp o 2) rfl rfl rfl (dN kI) (RL.gs true (decide (p0.X0<p1.X1)) (vi p0.X1) rfl rfl rfl (bZ 1 rfl j (fun h=>by exact(cV h:cv (true&&((decide (p0.X0<p1.X1))==true)) (vp o 2)= (vp o 2))) rfl gz cQ) (RL.gs true (decide (p0.X0<p1.X1)) (vb (decide (p1.X0<p0.X1))) rfl rfl rfl (eE .lss .i64 p1.X0 p0.X1 rfl (fun h=>by exact(cV h:cv (true&&((decide (p0.X0<p1.X1))==true)) (vi p1.X0)= (vi p1.X0))) (fun h=>by exact(cV h:cv (true&&((decide (p0.X0<p1.X1))==true)) (vi p0.X1)= (vi p0.X1))) rfl) (RL.pick (decide (p0.X0<p1.X1)) (vb ((decide (p0.X0<p1.X1))&&(decide (p1.X0<p0.X1)))) (i6 true) (aK (vb ((decide (p0.X0<p1.X1))&&(decide (p1.X0<p0.X1)))) (RL.ns (RL.aZ rfl jX (RL.aM 1 j rfl fC cQ ?_))))))))
 refine RL.aZ rfl n7 (RL.aM 0 j rfl jN cQ (ic p0.Y0 p1.Y1 (mv (vb (decide (p0.Y0<p1.Y1))) (RL.gs true (decide (p0.Y0<p1.Y1)) (vp aa 1) rfl rfl rfl (dN jX) (RL.gs true (decide (p0.Y0<p1.Y1)) (vi p1.Y0) rfl rfl rfl (bZ 0 rfl j (fun h=>by exact(cV h:cv (true&&((decide (p0.Y0<p1.Y1))==true)) (vp aa 1)= (vp aa 1))) rfl fC cQ) (RL.gs true (decide (p0.Y0<p1.Y1)) (vp o 3) rfl rfl rfl (dN n7) (RL.gs true (decide (p0.Y0<p1.Y1)) (vi p0.Y1) rfl rfl rfl (bZ 1 rfl j (fun h=>by exact(cV h:cv (true&&((decide (p0.Y0<p1.Y1))==true)) (vp o 3)= (vp o 3))) rfl jN cQ) (RL.gs true (decide (p0.Y0<p1.Y1)) (vb (decide (p1.Y0<p0.Y1))) rfl rfl rfl (eE .lss .i64 p1.Y0 p0.Y1 rfl (fun h=>by exact(cV h:cv (true&&((decide (p0.Y0<p1.Y1))==true)) (vi p1.Y0)= (vi p1.Y0))) (fun h=>by exact(cV h:cv (true&&((decide (p0.Y0<p1.Y1))==true)) (vi p0.Y1)= (vi p0.Y1))) rfl) ?_))))))))
 refine RL.pick (decide (p0.Y0<p1.Y1)) (vb ((decide (p0.Y0<p1.Y1))&&(decide (p1.Y0<p0.Y1)))) (i6 true) (aK (vb ((decide (p0.Y0<p1.Y1))&&(decide (p1.Y0<p0.Y1)))) (RL.ns (mv (vb ((decide (p0.X0<p1.X1))&&(decide (p1.X0<p0.X1)))) (mv (vb ((decide (p0.X0<p1.X1))&&(decide (p1.X0<p0.X1)))) (RL.gs true ((decide (p0.X0<p1.X1))&&(decide (p1.X0<p0.X1))) (vp o 3) rfl rfl rfl (dN n7) (RL.gs true ((decide (p0.X0<p1.X1))&&(decide (p1.X0<p0.X1))) (vi p0.Y1) rfl rfl rfl (bZ 1 rfl j (fun h=>by exact(cV h:cv (true&&(((decide (p0.X0<p1.X1))&&(decide (p1.X0<p0.X1)))==true)) (vp o 3)= (vp o 3))) rfl jN cQ) (RL.gs true ((decide (p0.X0<p1.X1))&&(decide (p1.X0<p0.X1))) (vp aa 1) rfl rfl rfl (dN jX) (RL.gs true ((decide (p0.X0<p1.X1))&&(decide (p1.X0<p0.X1))) (vi p1.Y0) rfl rfl rfl (bZ 0 rfl j (fun h=>by exact(cV h:cv (true&&(((decide (p0.X0<p1.X1))&&(decide (p1.X0<p0.X1)))==true)) (vp aa 1)= (vp aa 1))) rfl fC cQ) ?_))))))))
 refine RL.gs true ((decide (p0.X0<p1.X1))&&(decide (p1.X0<p0.X1))) (vb (p0.Y1==p1.Y0)) rfl rfl rfl (eE .eql .i64 p0.Y1 p1.Y0 rfl (fun h=>by exact(cV h:cv (true&&(((decide (p0.X0<p1.X1))&&(decide (p1.X0<p0.X1)))==true)) (vi p0.Y1)= (vi p0.Y1))) (fun h=>by exact(cV h:cv (true&&(((decide (p0.X0<p1.X1))&&(decide (p1.X0<p0.X1)))==true)) (vi p1.Y0)= (vi p1.Y0))) rfl) (RL.gs true ((decide (p0.X0<p1.X1))&&(decide (p1.X0<p0.X1))) (vb (p0.Y1==p1.Y0)) rfl rfl rfl (dW (hx:=fun h=>by exact(cV h:cv (true&&(((decide (p0.X0<p1.X1))&&(decide (p1.X0<p0.X1)))==true)) (vb (p0.Y1==p1.Y0))= (vb (p0.Y1==p1.Y0))))) (RL.gs (true&&(((decide (p0.X0<p1.X1))&&(decide (p1.X0<p0.X1)))==true)) (p0.Y1==p1.Y0) (vp aa 3) rfl rfl rfl (dN n7) (RL.gs (true&&(((decide (p0.X0<p1.X1))&&(decide (p1.X0<p0.X1)))==true)) (p0.Y1==p1.Y0) (vi p1.Y1) rfl rfl rfl (bZ 0 rfl j (fun h=>by exact(cV h:cv ((true&&(((decide (p0.X0<p1.X1))&&(decide (p1.X0<p0.X1)))==true))&&((p0.Y1==p1.Y0)==false)) (vp aa 3)= (vp aa 3))) rfl jN cQ) (RL.gs (true&&(((decide (p0.X0<p1.X1))&&(decide (p1.X0<p0.X1)))==true)) (p0.Y1==p1.Y0) (vp o 1) rfl rfl rfl (dN jX) (RL.gs (true&&(((decide (p0.X0<p1.X1))&&(decide (p1.X0<p0.X1)))==true)) (p0.Y1==p1.Y0) (vi p0.Y0) rfl rfl rfl (bZ 1 rfl j (fun h=>by exact(cV h:cv ((true&&(((decide (p0.X0<p1.X1))&&(decide (p1.X0<p0.X1)))==true))&&((p0.Y1==p1.Y0)==false)) (vp o 1)= (vp o 1))) rfl fC cQ) (RL.gs (true&&(((decide (p0.X0<p1.X1))&&(decide (p1.X0<p0.X1)))==true)) (p0.Y1==p1.Y0) (vb (p1.Y1==p0.Y0)) rfl rfl rfl (eE .eql .i64 p1.Y1 p0.Y0 rfl (fun h=>by exact(cV h:cv ((true&&(((decide (p0.X0<p1.X1))&&(decide (p1.X0<p0.X1)))==true))&&((p0.Y1==p1.Y0)==false)) (vi p1.Y1)= (vi p1.Y1))) (fun h=>by exact(cV h:cv ((true&&(((decide (p0.X0<p1.X1))&&(decide (p1.X0<p0.X1)))==true))&&((p0.Y1==p1.Y0)==false)) (vi p0.Y0)= (vi p0.Y0))) rfl) (RL.gs true ((decide (p0.X0<p1.X1))&&(decide (p1.X0<p0.X1))) (vb ((p0.Y1==p1.Y0)||(p1.Y1==p0.Y0))) rfl rfl rfl (oQ (p0.Y1==p1.Y0) rfl (fun h=>by exact(cV h:cv (true&&(((decide (p0.X0<p1.X1))&&(decide (p1.X0<p0.X1)))==true)) (vb (p0.Y1==p1.Y0))= (vb (p0.Y1==p1.Y0)))) (fun h=>by exact nS (true&&(((decide (p0.X0<p1.X1))&&(decide (p1.X0<p0.X1)))==true)) h)) (RL.pick ((decide (p0.X0<p1.X1))&&(decide (p1.X0<p0.X1))) (vb (((decide (p0.X0<p1.X1))&&(decide (p1.X0<p0.X1)))&&((p0.Y1==p1.Y0)||(p1.Y1==p0.Y0)))) (i6 true) ?_))))))))
 refine mv (vb (((decide (p0.X0<p1.X1))&&(decide (p1.X0<p0.X1)))&&((p0.Y1==p1.Y0)||(p1.Y1==p0.Y0)))) (RL.gs true (((decide (p0.X0<p1.X1))&&(decide (p1.X0<p0.X1)))&&((p0.Y1==p1.Y0)||(p1.Y1==p0.Y0))) (vb ((decide (p0.Y0<p1.Y1))&&(decide (p1.Y0<p0.Y1)))) rfl rfl rfl dW (RL.gs true (((decide (p0.X0<p1.X1))&&(decide (p1.X0<p0.X1)))&&((p0.Y1==p1.Y0)||(p1.Y1==p0.Y0))) (vb ((decide (p0.Y0<p1.Y1))&&(decide (p1.Y0<p0.Y1)))) rfl rfl rfl (dW (hx:=fun h=>by exact(cV h:cv (true&&((((decide (p0.X0<p1.X1))&&(decide (p1.X0<p0.X1)))&&((p0.Y1==p1.Y0)||(p1.Y1==p0.Y0)))==false)) (vb ((decide (p0.Y0<p1.Y1))&&(decide (p1.Y0<p0.Y1))))= (vb ((decide (p0.Y0<p1.Y1))&&(decide (p1.Y0<p0.Y1))))))) (RL.gs (true&&((((decide (p0.X0<p1.X1))&&(decide (p1.X0<p0.X1)))&&((p0.Y1==p1.Y0)||(p1.Y1==p0.Y0)))==false)) ((decide (p0.Y0<p1.Y1))&&(decide (p1.Y0<p0.Y1))) (vp o 2) rfl rfl rfl (dN kI) (RL.gs (true&&((((decide (p0.X0<p1.X1))&&(decide (p1.X0<p0.X1)))&&((p0.Y1==p1.Y0)||(p1.Y1==p0.Y0)))==false)) ((decide (p0.Y0<p1.Y1))&&(decide (p1.Y0<p0.Y1))) (vi p0.X1) rfl rfl rfl (bZ 1 rfl j (fun h=>by exact(cV h:cv ((true&&((((decide (p0.X0<p1.X1))&&(decide (p1.X0<p0.X1)))&&((p0.Y1==p1.Y0)||(p1.Y1==p0.Y0)))==false))&&(((decide (p0.Y0<p1.Y1))&&(decide (p1.Y0<p0.Y1)))==true)) (vp o 2)= (vp o 2))) rfl gz cQ) (RL.gs (true&&((((decide (p0.X0<p1.X1))&&(decide (p1.X0<p0.X1)))&&((p0.Y1==p1.Y0)||(p1.Y1==p0.Y0)))==false)) ((decide (p0.Y0<p1.Y1))&&(decide (p1.Y0<p0.Y1))) (vp aa 0) rfl rfl rfl (dN jy) (RL.gs (true&&((((decide (p0.X0<p1.X1))&&(decide (p1.X0<p0.X1)))&&((p0.Y1==p1.Y0)||(p1.Y1==p0.Y0)))==false)) ((decide (p0.Y0<p1.Y1))&&(decide (p1.Y0<p0.Y1))) (vi p1.X0) rfl rfl rfl (bZ 0 rfl j (fun h=>by exact(cV h:cv ((true&&((((decide (p0.X0<p1.X1))&&(decide (p1.X0<p0.X1)))&&((p0.Y1==p1.Y0)||(p1.Y1==p0.Y0)))==false))&&(((decide (p0.Y0<p1.Y1))&&(decide (p1.Y0<p0.Y1)))==true)) (vp aa 0)= (vp aa 0))) rfl eW cQ) (RL.gs (true&&((((decide (p0.X0<p1.X1))&&(decide (p1.X0<p0.X1)))&&((p0.Y1==p1.Y0)||(p1.Y1==p0.Y0)))==false)) ((decide (p0.Y0<p1.Y1))&&(decide (p1.Y0<p0.Y1))) (vb (p0.X1==p1.X0)) rfl rfl rfl (eE .eql .i64 p0.X1 p1.X0 rfl (fun h=>by exact(cV h:cv ((true&&((((decide (p0.X0<p1.X1))&&(decide (p1.X0<p0.X1)))&&((p0.Y1==p1.Y0)||(p1.Y1==p0.Y0)))==false))&&(((decide (p0.Y0<p1.Y1))&&(decide (p1.Y0<p0.Y1)))==true)) (vi p0.X1)= (vi p0.X1))) (fun h=>by exact(cV h:cv ((true&&((((decide (p0.X0<p1.X1))&&(decide (p1.X0<p0.X1)))&&((p0.Y1==p1.Y0)||(p1.Y1==p0.Y0)))==false))&&(((decide (p0.Y0<p1.Y1))&&(decide (p1.Y0<p0.Y1)))==true)) (vi p1.X0)= (vi p1.X0))) rfl) (RL.gs (true&&((((decide (p0.X0<p1.X1))&&(decide (p1.X0<p0.X1)))&&((p0.Y1==p1.Y0)||(p1.Y1==p0.Y0)))==false)) ((decide (p0.Y0<p1.Y1))&&(decide (p1.Y0<p0.Y1))) (vb (p0.X1==p1.X0)) rfl rfl rfl (dW (hx:=fun h=>by exact(cV h:cv ((true&&((((decide (p0.X0<p1.X1))&&(decide (p1.X0<p0.X1)))&&((p0.Y1==p1.Y0)||(p1.Y1==p0.Y0)))==false))&&(((decide (p0.Y0<p1.Y1))&&(decide (p1.Y0<p0.Y1)))==true)) (vb (p0.X1==p1.X0))= (vb (p0.X1==p1.X0))))) ?_))))))))
 refine RL.gs ((true&&((((decide (p0.X0<p1.X1))&&(decide (p1.X0<p0.X1)))&&((p0.Y1==p1.Y0)||(p1.Y1==p0.Y0)))==false))&&(((decide (p0.Y0<p1.Y1))&&(decide (p1.Y0<p0.Y1)))==true)) (p0.X1==p1.X0) (vp aa 2) rfl rfl rfl (dN kI) (RL.gs ((true&&((((decide (p0.X0<p1.X1))&&(decide (p1.X0<p0.X1)))&&((p0.Y1==p1.Y0)||(p1.Y1==p0.Y0)))==false))&&(((decide (p0.Y0<p1.Y1))&&(decide (p1.Y0<p0.Y1)))==true)) (p0.X1==p1.X0) (vi p1.X1) rfl rfl rfl (bZ 0 rfl j (fun h=>by exact(cV h:cv (((true&&((((decide (p0.X0<p1.X1))&&(decide (p1.X0<p0.X1)))&&((p0.Y1==p1.Y0)||(p1.Y1==p0.Y0)))==false))&&(((decide (p0.Y0<p1.Y1))&&(decide (p1.Y0<p0.Y1)))==true))&&((p0.X1==p1.X0)==false)) (vp aa 2)= (vp aa 2))) rfl gz cQ) (RL.gs ((true&&((((decide (p0.X0<p1.X1))&&(decide (p1.X0<p0.X1)))&&((p0.Y1==p1.Y0)||(p1.Y1==p0.Y0)))==false))&&(((decide (p0.Y0<p1.Y1))&&(decide (p1.Y0<p0.Y1)))==true)) (p0.X1==p1.X0) (vp o 0) rfl rfl rfl (dN jy) (RL.gs ((true&&((((decide (p0.X0<p1.X1))&&(decide (p1.X0<p0.X1)))&&((p0.Y1==p1.Y0)||(p1.Y1==p0.Y0)))==false))&&(((decide (p0.Y0<p1.Y1))&&(decide (p1.Y0<p0.Y1)))==true)) (p0.X1==p1.X0) (vi p0.X0) rfl rfl rfl (bZ 1 rfl j (fun h=>by exact(cV h:cv (((true&&((((decide (p0.X0<p1.X1))&&(decide (p1.X0<p0.X1)))&&((p0.Y1==p1.Y0)||(p1.Y1==p0.Y0)))==false))&&(((decide (p0.Y0<p1.Y1))&&(decide (p1.Y0<p0.Y1)))==true))&&((p0.X1==p1.X0)==false)) (vp o 0)= (vp o 0))) rfl eW cQ) (RL.gs ((true&&((((decide (p0.X0<p1.X1))&&(decide (p1.X0<p0.X1)))&&((p0.Y1==p1.Y0)||(p1.Y1==p0.Y0)))==false))&&(((decide (p0.Y0<p1.Y1))&&(decide (p1.Y0<p0.Y1)))==true)) (p0.X1==p1.X0) (vb (p1.X1==p0.X0)) rfl rfl rfl (eE .eql .i64 p1.X1 p0.X0 rfl (fun h=>by exact(cV h:cv (((true&&((((decide (p0.X0<p1.X1))&&(decide (p1.X0<p0.X1)))&&((p0.Y1==p1.Y0)||(p1.Y1==p0.Y0)))==false))&&(((decide (p0.Y0<p1.Y1))&&(decide (p1.Y0<p0.Y1)))==true))&&((p0.X1==p1.X0)==false)) (vi p1.X1)= (vi p1.X1))) (fun h=>by exact(cV h:cv (((true&&((((decide (p0.X0<p1.X1))&&(decide (p1.X0<p0.X1)))&&((p0.Y1==p1.Y0)||(p1.Y1==p0.Y0)))==false))&&(((decide (p0.Y0<p1.Y1))&&(decide (p1.Y0<p0.Y1)))==true))&&((p0.X1==p1.X0)==false)) (vi p0.X0)= (vi p0.X0))) rfl) (RL.gs (true&&((((decide (p0.X0<p1.X1))&&(decide (p1.X0<p0.X1)))&&((p0.Y1==p1.Y0)||(p1.Y1==p0.Y0)))==false)) ((decide (p0.Y0<p1.Y1))&&(decide (p1.Y0<p0.Y1))) (vb ((p0.X1==p1.X0)||(p1.X1==p0.X0))) rfl rfl rfl (oQ (p0.X1==p1.X0) rfl (fun h=>by exact(cV h:cv ((true&&((((decide (p0.X0<p1.X1))&&(decide (p1.X0<p0.X1)))&&((p0.Y1==p1.Y0)||(p1.Y1==p0.Y0)))==false))&&(((decide (p0.Y0<p1.Y1))&&(decide (p1.Y0<p0.Y1)))==true)) (vb (p0.X1==p1.X0))= (vb (p0.X1==p1.X0)))) (fun h=>by exact nS ((true&&((((decide (p0.X0<p1.X1))&&(decide (p1.X0<p0.X1)))&&((p0.Y1==p1.Y0)||(p1.Y1==p0.Y0)))==false))&&(((decide (p0.Y0<p1.Y1))&&(decide (p1.Y0<p0.Y1)))==true)) h)) (RL.gs true (((decide (p0.X0<p1.X1))&&(decide (p1.X0<p0.X1)))&&((p0.Y1==p1.Y0)||(p1.Y1==p0.Y0))) (vb (((decide (p0.Y0<p1.Y1))&&(decide (p1.Y0<p0.Y1)))&&((p0.X1==p1.X0)||(p1.X1==p0.X0)))) rfl rfl rfl (oQ ((decide (p0.Y0<p1.Y1))&&(decide (p1.Y0<p0.Y1))) rfl (fun h=>by exact(cV h:cv (true&&((((decide (p0.X0<p1.X1))&&(decide (p1.X0<p0.X1)))&&((p0.Y1==p1.Y0)||(p1.Y1==p0.Y0)))==false)) (vb ((decide (p0.Y0<p1.Y1))&&(decide (p1.Y0<p0.Y1))))= (vb ((decide (p0.Y0<p1.Y1))&&(decide (p1.Y0<p0.Y1)))))) (fun h=>by exact i6 (h:=h) (true&&((((decide (p0.X0<p1.X1))&&(decide (p1.X0<p0.X1)))&&((p0.Y1==p1.Y0)||(p1.Y1==p0.Y0)))==false)))) (RL.pick (((decide (p0.X0<p1.X1))&&(decide (p1.X0<p0.X1)))&&((p0.Y1==p1.Y0)||(p1.Y1==p0.Y0))) (vb ((((decide (p0.X0<p1.X1))&&(decide (p1.X0<p0.X1)))&&((p0.Y1==p1.Y0)||(p1.Y1==p0.Y0)))||(((decide (p0.Y0<p1.Y1))&&(decide (p1.Y0<p0.Y1)))&&((p0.X1==p1.X0)||(p1.X1==p0.X0))))) (nS true rfl) (aK (vb ((((decide (p0.X0<p1.X1))&&(decide (p1.X0<p0.X1)))&&((p0.Y1==p1.Y0)||(p1.Y1==p0.Y0)))||(((decide (p0.Y0<p1.Y1))&&(decide (p1.Y0<p0.Y1)))&&((p0.X1==p1.X0)||(p1.X1==p0.X0))))) ?_))))))))
 refine RL.nt (RC.ret ?_)
 obtain rfl:=oi hb
 exact cL ⟨rfl,j.drop 4⟩
theorem pf {p0:aI} {p1:bW} {res:Bool} (j:Holds E w V) (h0:V[i0]? =some (rd v0 p0)) (h1:V[i1]? =some (pt v1 p1)) (o:iY N p0 p1=some res):
    Calls bF 84 [v0,v1].toArray w (gI (bE E V res)):=by
 unfold iY at o
 refine enter Tryz.func84 zr zr ?_
 have j:=(j.dup (i0+0) h0).xk (i:=i1+1) h1
 refine RC.sr (RL.dB 1 v0 j zr fun ah w j=>?_)
 have j:=j.gJ (i:=0) rfl
 refine aK (vb false) (RL.nq (RC.yC mixed [1,0,2,2,0] [0,1,2,3,4] ?_))
 have j:=j.drew
 refine DP.wJ p0 0 zr j fK fun aa a33 ai j=>(DP.e0 zr (RL.bV 3 p1 j lf fun ab j=>(um zr ?_)))
 obtain⟨aj,ad,o⟩:=bd o
 refine RL.call zt zr Ej [ab] zr (aF (gQ N (i0:=0) j zr ad) ?_)
 rintro ae w j
 refine DP.d2 (⟨zt,j.j9 2⟩) (DP.e2 zr ?_)
 obtain⟨af,ag,o⟩:=bd o
 refine RL.call zt zr LK [aa,ae] zr (aF (vM N (i0:=3) (i1:=0) j zr zr ag) ?_)
 rintro _ w ⟨rfl,j⟩
 refine DP.d2 (⟨zt,j.j9 2⟩) (DP.e0 zr (aK (vb af) (DP.d0 ?_)))
 have j:=j.pl 7 [0,1,3,4,5,6]
 refine DP.z (aG (RC.ret ?_))
 obtain rfl:=oi o
 exact cL ⟨rfl,j.drop 6⟩
theorem kq {p0: (List aI)} {p1:aI->Option Bool} {res:Bool} (j:Holds E w V) (h0:V[i0]? =some (rd v0 p0)) (h1:GS bF E V v1 p1 (fun(r:Bool)=>Value.bool r)) (o:fL N p0 p1=some res):
    Calls bF 83 [v0,v1].toArray w (gI (bE E V res)):=by
 unfold fL at o
 refine enter Tryz.func83 zr zr ?_
 have j:=j.dup (i0+0) h0
 refine RC.sr (aK (vb false) (RL.ns (mv v0 (mv v1 ?_))))
 obtain⟨aa,ab,o⟩:=bd o
 refine RL.call zt zr HU [v0,v1] zr (aF (o9 N (i0:=0) j zr (h1.lift 1 zr) ab) ?_)
 rintro _ w ⟨rfl,j⟩
 refine ic aa 0 (aK (vb (decide (aa>=0))) (RL.nt (RC.ret ?_)))
 obtain rfl:=oi o
 exact cL ⟨rfl,j.drop 1⟩
def rG (E:World) (V:List HP) (b0:Nat) (v0_0 v0_1:Value) (v0_2 v0_3:Value) (v0_4 v0_5:Value) (v0_7 v0_8:Value) (v0_9 v0_10 v0_11:Value) (res: (List (List Int))) (v:Value) (w:World):Prop:=∃u0_6:Value,v = .tuple #[]/\Holds E w ([bc 126 b0 [v0_0,v0_1,v0_2,v0_3,v0_4,v0_5,u0_6,v0_7,v0_8,v0_9,v0_10,v0_11],own 87 u0_6 res]++V)
theorem qR {p0_2: (List bW)} {p0_5: (List aH)} {p0_6: (List (List Int))} {res: (List (List Int))} (j:Holds E w (bc 126 b0 [v0_0,v0_1,v0_2,v0_3,v0_4,v0_5,v0_6,v0_7,v0_8,v0_9,v0_10,v0_11]::rd v0_2 p0_2::rd v0_5 p0_5::own 87 v0_6 p0_6::V)) (hb:iO N p0_2 p0_5 p0_6=some res):
    Calls bF 52 [(vp b0 0)].toArray w (gI (rG E V b0 v0_0 v0_1 v0_2 v0_3 v0_4 v0_5 v0_7 v0_8 v0_9 v0_10 v0_11 res)):=by
 unfold iO at hb
 refine enter Tryz.func52 zr zr (RC.sr (mv (vp b0 0) (RL.nilCheck zr (RL.aZ zr kp (RL.aZ zr mJ (RL.aY 0 v0_2 j vF (RL.bD 1 p0_2 j xI (mv (vi 0) ?_))))))))
 refine RL.nt ?_
 obtain⟨af,hN,hb⟩:=bd hb
 refine RC.fold (fun(ai:Nat) (af: (List (List Int))) U w=>∃az:Value,SH E V [(0,vp b0 0),(11,v0_2),(12,vi p0_2.length),(13,vi ai)] [bc 126 b0 [v0_0,v0_1,v0_2,v0_3,v0_4,v0_5,az,v0_7,v0_8,v0_9,v0_10,v0_11],own 87 az af,rd v0_2 p0_2,rd v0_5 p0_5] U w) (fun(af: (List (List Int))) U w=>∃aq:Value,SH E V [(0,vp b0 0)] [bc 126 b0 [v0_0,v0_1,v0_2,v0_3,v0_4,v0_5,aq,v0_7,v0_8,v0_9,v0_10,v0_11],own 87 aq af,rd v0_2 p0_2,rd v0_5 p0_5] U w) hN ?_ ?_ ?_ ?_
 ·exact⟨v0_6,j.sp 4 [0,3,1,2]⟩
 ·rintro hm af _ w ⟨a4,O,rfl,j⟩
  refine RC.sr (ic ((p0_2.length:Int)) ((p0_2.length:Int)) (RL.nq (RC.cN lS (RC.ex ?_))))
  exact⟨rfl,a4,j.sp 4 [0,1,2,3]⟩
 ·rintro hm ai af s' _ w hk ⟨ah,O,rfl,j⟩ hb
  refine RC.sr (ic ((ai:Int)) ((p0_2.length:Int)) (RL.nq (RC.cM (lR hk) (RC.ss (RC.bs ?_)))))
  obtain⟨aj,a5,hb⟩:=bd hb
  refine RL.cC 2 j Al a5 fun bk j=>(RL.bV 0 aj j lf fun bl j=>(RL.alloc j zp.z fun ag w j=>?_))
  refine RL.bA 0 j 1 zr lf fun w j=>?_
  refine RL.ns (aK (.slice none 0 0) (RL.nq (RC.sr (mv (vp b0 0) (RL.nilCheck zr (RL.aZ zr lI (RL.aY 3 v0_5 j qJ (RL.bD 6 p0_5 j wo ?_))))))))
  refine mv (vi 0) (RL.nt ?_)
  have j:=j.gJ (i:=0) rfl
  obtain⟨ak,hN,hb⟩:=bd hb
  refine RC.fold (fun(ab:Nat) (ak: (List Int)) U w=>∃a0:Value,SH E V [(0,vp b0 0),(3,vp ag 0),(4,a0),(11,v0_2),(12,vi p0_2.length),(13,vi ai),(20,v0_5),(21,vi p0_5.length),(22,vi ab)] [bc 126 b0 [v0_0,v0_1,v0_2,v0_3,v0_4,v0_5,ah,v0_7,v0_8,v0_9,v0_10,v0_11],rd v0_2 p0_2,rd v0_5 p0_5,own 87 ah af,pt (vp ag 0) aj,own 3 a0 ak] U w) (fun(ak: (List Int)) U w=>∃ao:Value,SH E V [(0,vp b0 0),(4,ao),(11,v0_2),(12,vi p0_2.length),(13,vi ai)] [bc 126 b0 [v0_0,v0_1,v0_2,v0_3,v0_4,v0_5,ah,v0_7,v0_8,v0_9,v0_10,v0_11],rd v0_2 p0_2,rd v0_5 p0_5,own 87 ah af,pt (vp ag 0) aj,own 3 ao ak] U w) hN ?_ ?_ ?_ ?_
  ·have j:=j.cH Int 3
   exact⟨(.slice none 0 0),j.sp 8 [4,6,7,5,1,0]⟩
  ·rintro hm ak _ w ⟨a6,O,rfl,j⟩
   refine RC.sr (ic ((p0_5.length:Int)) ((p0_5.length:Int)) (RL.nq (RC.cN lS (RC.ex ?_))))
   exact⟨rfl,a6,j.sp 6 [0,1,2,3,4,5]⟩
  ·rintro hm ab ak s' _ w hk ⟨ar,O,rfl,j⟩ hb
   refine RC.sr (ic ((ab:Int)) ((p0_5.length:Int)) (RL.nq (RC.cM (lR hk) (RC.ss (RC.bs (mv (vi ab) ?_))))))
   obtain⟨aw,a7,hb⟩:=bd hb
   refine RL.cC 2 j zu a7 fun bm j=>(RL.bV 0 aw j zv fun bn j=>(RL.alloc j Dz.z fun bo w j=>?_))
   refine aK (vi ab) (RL.bA 0 j 1 zr zv fun w j=>?_)
   refine RL.nq ?_
   obtain⟨ax,o,hb⟩:=bd hb
   refine RC.jn (fun(ax:Bool)=>SH E V [(0,vp b0 0),(3,vp ag 0),(4,ar),(5,vi ab),(11,v0_2),(12,vi p0_2.length),(13,vi ai),(20,v0_5),(21,vi p0_5.length),(22,vi ab),(40,vb ax)] [bc 126 b0 [v0_0,v0_1,v0_2,v0_3,v0_4,v0_5,ah,v0_7,v0_8,v0_9,v0_10,v0_11],rd v0_2 p0_2,rd v0_5 p0_5,own 87 ah af,pt (vp ag 0) aj,own 3 ar ak]) ax ?_ ?_
   ·refine RC.region (RL.iu 7 j zr w4 sf fun bp j=>(RL.bI aj.ik 0 j xK (mv (vb aj.ik) (fM o (fun ad o=>?_) fun ad o=>?_))))
    rotate_left
    ·refine bO ad (bO ad (bO ad (bO ad (fJ ad (vb false) (mv (vb false) (oT (oT (oT ?_))))))))
     refine oT (RL.pick false (vb false) zr (RL.nil ?_))
     obtain rfl:=oi o
     exact⟨rfl,j.sp 10 [4,5,6,7,8,9]⟩
    refine RL.bV (hg:=(cg ad)) 8 aj j lf fun a8 j=>(RL.aZ (hg:=(cg ad)) zr w5 (RL.aM (hg:=(cg ad)) 2 j zr km cQ ?_))
    obtain⟨a1,a9,o⟩:=bd o
    refine RL.call (cg ad) zr IM [a8,(vi aw.cX)] zr (aF (mi N (p1:=aw.cX) (i0:=0) j zr a9) ?_)
    rintro _ w ⟨rfl,j⟩
    refine fJ ad (vb a1) (mv (vb a1) (fM o (fun ae o=>?_) fun ae o=>?_))
    rotate_left
    ·refine bO ae (bO ae (bO ae (bO ae (fJ ae (vb false) (RL.nil ?_)))))
     obtain rfl:=oi o
     exact⟨rfl,j.sp 11 [5,6,7,8,9,10]⟩
    refine RL.aZ (hg:=(cg ae)) zr w6 (RL.aP (hg:=(cg ae)) 2 j zr kn xH fun ba j=>(RL.makeFunc (hg:=(cg ae)) [(vp ag 0)] ?_))
    obtain⟨bb,bf,o⟩:=bd o
    refine RL.call (cg ae) rfl Ka [ba,(.func (.func 84) #[] #[(vp ag 0)])] rfl (aF (kq N (i0:=0) j rfl ⟨84,[(vp ag 0)],rfl,LL,fun w Γl v y0 r i j hi hr=>by exact aF (pf N (i0:=i) (i1:=Γl.length+10) j hi (z5 rfl) hr) fun _ _ h=>h⟩ bf) ?_)
    rintro _ w ⟨rfl,j⟩
    refine fJ ae (vb bb) (RL.nil ?_)
    obtain rfl:=oi o
    exact⟨rfl,j.sp 12 [6,7,8,9,10,11]⟩
   rintro _ w ⟨O,rfl,j⟩
   refine aG ?_
   obtain⟨ay,o,hb⟩:=bd hb
   refine RC.jn (fun(ay: (List Int)) U w=>∃au:Value,SH E V [(0,vp b0 0),(3,vp ag 0),(4,au),(11,v0_2),(12,vi p0_2.length),(13,vi ai),(20,v0_5),(21,vi p0_5.length),(22,vi ab)] [bc 126 b0 [v0_0,v0_1,v0_2,v0_3,v0_4,v0_5,ah,v0_7,v0_8,v0_9,v0_10,v0_11],rd v0_2 p0_2,rd v0_5 p0_5,own 87 ah af,pt (vp ag 0) aj,own 3 au ay] U w) ay ?_ ?_
   ·refine eQ o (fun hc o=>?_) fun hc o=>?_
    rotate_left
    ·refine RC.skip ?_
     obtain rfl:=oi o
     exact⟨rfl,ar,j.sp 6 [0,1,2,3,4,5]⟩
    refine RC.region (mv ar (mv (vi ab) ?_))
    have j:=j.sc Int (ab:Int)
    refine RL.dS ([(ab:Int)]: (List Int)) j [(vi ab)] eJ EY (fun M hs g=>⟨(g.sat 0 _ zr).1,zt⟩) fun bq w j=>?_
    have j:=j.freeze 0
    obtain⟨br,bh,o⟩:=bd o
    refine RL.app 7 0 j uz bh fun a2 w j=>?_
    refine aK a2 (RL.nil ?_)
    obtain rfl:=oi o
    exact⟨rfl,a2,j.sp 8 [2,3,4,5,6,7]⟩
   rintro _ w ⟨au,O,rfl,j⟩
   refine bK (aG (RC.region (RL.inc hk hm (mv (vi ((ab+1:Nat):Int)) (RL.nil ?_)))))
   obtain rfl:=oi hb
   exact⟨rfl,au,j.sp 6 [0,1,2,3,4,5]⟩
  rintro _ w ⟨ao,O,rfl,j⟩
  refine aG (RC.region (mv (vp b0 0) (mv (vp b0 0) (RL.nilCheck zr (RL.aZ zr w7 (RL.aY 0 ah j DA (mv ao ?_)))))))
  have j:=j.freeze 5
  refine RL.dS ([ak]: (List (List Int))) j [ao] xL Kb (fun M hs g=>⟨(g.sat 5 _ zr).1,zt⟩) fun bt w j=>?_
  have j:=j.freeze 0
  obtain⟨bu,bj,hb⟩:=bd hb
  refine RL.app 4 0 j H5 bj fun a3 w j=>?_
  refine RL.nilCheck zr (RL.aZ zr w7 (RL.gV 1 a3 j zr zr (iB 4 j) DA fun w j=>?_))
  refine RL.nil (bK (aG (RC.region (RL.inc hk hm (mv (vi ((ai+1:Nat):Int)) (RL.nil ?_))))))
  obtain rfl:=oi hb
  exact⟨rfl,a3,j.sp 7 [1,4,2,3]⟩
 rintro _ w ⟨aq,O,rfl,j⟩
 obtain rfl:=oi hb
 refine y8 ?_
 exact E2 ⟨aq,zr,j.pk 4 [0,1]⟩
def tB (E:World) (V:List HP) (res: ((List Int))) (v:Value) (w:World):Prop:=∃(ub0:Nat) (u0_0:Value),v=vp ub0 0/\Holds E w ([bc 176 ub0 [u0_0],own 3 u0_0 res]++V)
theorem ny {res: ((List Int))} (j:Holds E w V) (hb:iG N p0=some res):
    Calls bF 61 [(vi p0)].toArray w (gI (tB E V res)):=by
 unfold iG at hb
 refine enter Tryz.func61 zr zr (RC.sr (aK (.pointer none) (RL.ns (mv (vi p0) ?_))))
 obtain⟨af,aj,hb⟩:=bd hb
 refine RL.mk p0 j uz Jg aj fun o w j=>?_
 refine RL.Fb (zs:=[(.slice none 0 0)]) (cs:=[o]) zt zr [(0,o)] zr Kc ⟨(iB 0 j),zt⟩ zr (RL.Dp (cs:=[o]) zt zr j zr (Bc.all (⟨(iB 0 j),zt⟩:Bc [o])) fun ab w j=>?_)
 refine aK (vp ab 0) (RL.nq (RC.sr (mv (vp ab 0) (RL.nilCheck zr (RL.aZ zr nH (RL.aY 0 o j fH (RL.dY 1 af j lM (mv (vi 0) ?_))))))))
 refine RL.nt ?_
 obtain⟨ae,hN,hb⟩:=bd hb
 refine RC.fold (fun(ad:Nat) (ae: (List Int))=>SH E V [(3,vp ab 0),(13,vi af.length),(14,vi ad)] [bc 176 ab [o],own 3 o ae]) (fun(ae: (List Int))=>SH E V [(3,vp ab 0)] [bc 176 ab [o],own 3 o ae]) hN ?_ ?_ ?_ ?_
 ·exact j.sp 2 [0,1]
 ·rintro hm ae _ w ⟨O,rfl,j⟩
  refine RC.sr (ic ((af.length:Int)) ((af.length:Int)) (RL.nq (RC.cN lS (RC.ex ?_))))
  exact⟨rfl,j.sp 2 [0,1]⟩
 ·rintro hm ad ae s' _ w hk ⟨O,rfl,j⟩ hb
  refine RC.sr (ic ((ad:Int)) ((af.length:Int)) (RL.nq (RC.cM (lR hk) (RC.ss (RC.bs (mv (vi ad) (aK (vi ad) (RL.nt ?_))))))))
  refine RC.region (mv (vp ab 0) (RL.nilCheck zr (RL.aZ zr nH (RL.aY 0 o j fH (mv (vi ad) (mv (vi ad) ?_))))))
  obtain⟨al,ag,hb⟩:=bd hb
  refine RL.bQ 1 j zr zr eJ ag ?_
  have j:=j.sc Int (ad:Int)
  refine RL.gE (f:=(fun _ y=>y)) 2 0 j (jG 2 j ag 0) (bB ag).2.1 zr Fs.self cQ fun w j=>?_
  refine RL.nil (bK (aG (RC.region (RL.inc hk hm (mv (vi ((ad+1:Nat):Int)) (RL.nil ?_))))))
  obtain rfl:=oi hb
  exact⟨rfl,j.sp 3 [1,2]⟩
 rintro _ w ⟨O,rfl,j⟩
 refine aG (RC.sr (mv (vp ab 0) (aK (vp ab 0) (RL.nt (RC.ret ?_)))))
 obtain rfl:=oi hb
 exact cL ⟨ab,o,zr,j.pk 2 [0,1]⟩
def sT (E:World) (V:List HP) (b0:Nat) (res:Int×(List Int)) (v:Value) (w:World):Prop:=∃u0_0:Value,v= (vi res.1)/\Holds E w ([bc 176 b0 [u0_0],own 3 u0_0 res.2]++V)
theorem f9 {p0_0: (List Int)} {res:Int×(List Int)} (j:Holds E w (bc 176 b0 [v0_0]::own 3 v0_0 p0_0::V)) (o:dO N p0_0 p1=some res):
    Calls bF 64 [(vp b0 0),(vi p1)].toArray w (gI (sT E V b0 res)):=by
 unfold dO at o
 refine enter Tryz.func64 zr zr (RC.sr (aK (vi 0) (RL.nq ?_)))
 obtain⟨an,hN,o⟩:=bd o
 refine RC.iter (fun(aa: (List Int)×Int)=>SH E V [(0,vp b0 0),(1,vi aa.2)] [bc 176 b0 [v0_0],own 3 v0_0 aa.1]) (fun(aa: (List Int)×Int)=>SH E V [(0,vp b0 0),(1,vi aa.2)] [bc 176 b0 [v0_0],own 3 v0_0 aa.1]) (fun(r:Empty) _ _=>r.elim) hN ?_ ?_ ?_ ?_
 ·exact j.sp 2 [0,1]
 ·rintro aa fl _ w ⟨O,rfl,j⟩ o
  refine RC.seq (RC.sr (mv (vp b0 0) (RL.nilCheck zr (RL.aZ zr nH (RL.aY 0 v0_0 j fH (mv (vi aa.2) ?_))))))
  obtain⟨ai,ab,o⟩:=bd o
  refine RL.bQ 1 j zr zr eJ ab (RL.dL (f:=(fun x=>x)) 1 j (jG 1 j ab 0) (bB ab).2.1 Fd.self cQ (mv (vi aa.2) (ic ai aa.2 (RL.nt (eQ o (fun hc o=>?_) fun hc o=>?_)))))
  rotate_left
  ·refine RC.ex ?_
   obtain rfl:=oi o
   exact⟨rfl,j.sp 2 [0,1]⟩
  refine RC.sn (RC.block (RC.seq (RC.yC mixed [0,0,0,0,0,0,0,0,0,0,0,0,0,0,0,0,0,0,0,2] [0,1,2,3,4,5,6,7,8,9,10,11,12,13,14,15,16,17,18,19] ?_)))
  have j:=j.drew
  refine DP.e0 zr (mv (vp b0 0) (cB zr (RL.nilCheck zr (cB zr (RL.aZ zr nH (cB zr (RL.aY 0 v0_0 j fH (cB zr ?_))))))))
  refine mv (vi aa.2) (cB zr (mv (vp b0 0) (cB zr (RL.nilCheck zr (cB zr (RL.aZ zr nH (cB zr (RL.aY 0 v0_0 j fH ?_))))))))
  refine cB zr (mv (vp b0 0) (cB zr (RL.nilCheck zr (cB zr (RL.aZ zr nH (cB zr (RL.aY 0 v0_0 j fH (cB zr ?_))))))))
  refine mv (vi aa.2) (cB zr ?_)
  obtain⟨aq,ad,o⟩:=bd o
  refine RL.bQ 1 j zr zr eJ ad (cB zr (RL.dL (f:=(fun x=>x)) 1 j (jG 1 j ad 0) (bB ad).2.1 Fd.self cQ (cB zr ?_)))
  obtain⟨ak,ae,o⟩:=bd o
  refine RL.bQ 1 j zr zr eJ ae (cB zr (RL.dL (f:=(fun x=>x)) 1 j (jG 1 j ae 0) (bB ae).2.1 Fd.self cQ (cB zr ?_)))
  obtain⟨ar,af,o⟩:=bd o
  refine RL.bQ 1 j zr zr eJ af (um zr ?_)
  have j:=j.sc Int ak
  refine RL.gE (f:=(fun _ y=>y)) 2 0 j (jG 2 j af 0) (bB af).2.1 zr Fs.self cQ fun w j=>?_
  refine DP.d2 zt (DP.z (aG (RC.region (mv (vp b0 0) (RL.nilCheck zr (RL.aZ zr nH (RL.aY 1 v0_0 j fH (mv (vi aa.2) ?_))))))))
  obtain⟨al,ag,o⟩:=bd o
  refine RL.bQ 2 j zr zr eJ ag (RL.dL (f:=(fun x=>x)) 2 j (jG 2 j ag 0) (bB ag).2.1 Fd.self cQ (aK (vi al) (RL.nil (bK ?_))))
  obtain rfl:=oi o
  exact⟨rfl,j.sp 3 [1,2]⟩
 ·intro r _ _ _ _
  exact r.elim
 rintro aa _ w rfl ⟨O,rfl,j⟩
 rw [Fo.gl] at o
 refine aG (RC.sr (mv (vi aa.2) (aK (vi aa.2) (RL.nt (RC.ret ?_)))))
 obtain rfl:=oi o
 exact cL ⟨v0_0,zr,j.pk 2 [0,1]⟩
def rH (E:World) (V:List HP) (b0:Nat) (res: (List Int)) (v:Value) (w:World):Prop:=∃u0_0:Value,v = .tuple #[]/\Holds E w ([bc 176 b0 [u0_0],own 3 u0_0 res]++V)
theorem mB {p0_0: (List Int)} {res: (List Int)} (j:Holds E w (bc 176 b0 [v0_0]::own 3 v0_0 p0_0::V)) (o:dI N p0_0 p1 p2=some res):
    Calls bF 63 [(vp b0 0),(vi p1),(vi p2)].toArray w (gI (rH E V b0 res)):=by
 unfold dI at o
 refine enter Tryz.func63 zr zr (RC.sr (mv (vp b0 0) (mv (vi p1) ?_)))
 have j:=(j.pull 1).pull 1
 obtain⟨aa,af,o⟩:=bd o
 refine RL.call zt zr En [(vp b0 0),(vi p1)] zr (aF (f9 N (p1:=p1) j af) ?_)
 rintro _ w ⟨ah,rfl,j⟩
 refine mv (vp b0 0) (mv (vi p2) ?_)
 have j:=(j.pull 1).pull 1
 obtain⟨ab,ag,o⟩:=bd o
 refine RL.call zt zr En [(vp b0 0),(vi p2)] zr (aF (f9 N (p1:=p2) j ag) ?_)
 rintro _ w ⟨ae,rfl,j⟩
 refine aK (vi aa.1) (aK (vi ab.1) (RL.nt (RC.region (mv (vp b0 0) (RL.nilCheck zr (RL.aZ zr nH (RL.aY 0 ae j fH (mv (vi aa.1) ?_))))))))
 refine mv (vi ab.1) (RL.max aa.1 ab.1 (mv (vi aa.1) (mv (vi ab.1) (RL.min aa.1 ab.1 ?_))))
 obtain⟨ai,ad,o⟩:=bd o
 refine RL.bQ 1 j zr zr eJ ad ?_
 have j:=j.sc Int (if ab.1<aa.1 then ab.1 else aa.1)
 refine RL.gE (f:=(fun _ y=>y)) 2 0 j (jG 2 j ad 0) (bB ad).2.1 zr Fs.self cQ fun w j=>?_
 refine RL.nil ?_
 obtain rfl:=oi o
 refine y8 ?_
 exact E2 ⟨ae,zr,j.pk 7 [1,2]⟩
def rI (E:World) (V:List HP) (b0:Nat) (res: (List (List Int))×(List Int)) (v:Value) (w:World):Prop:=∃u0 u0_0:Value,v=u0/\Holds E w ([own 87 u0 res.1,bc 176 b0 [u0_0],own 3 u0_0 res.2]++V)
theorem qS {p0_0: (List Int)} {res: (List (List Int))×(List Int)} (o:Holds E w (bc 176 b0 [v0_0]::own 3 v0_0 p0_0::V)) (hb:iP N p0_0=some res):
    Calls bF 86 [(vp b0 0)].toArray w (gI (rI E V b0 res)):=by
 unfold iP at hb
 refine enter Tryz.func86 zr zr (RC.sr (aK (.slice none 0 0) (RL.ns (aK (.slice none 0 0) (RL.ns (RL.makeMap (κ:=Int) (ν:=Int) zr o fun ao w o=>(aK ao (RL.nq ?_))))))))
 refine RC.sr (mv (vp b0 0) (RL.nilCheck zr (RL.aZ zr nH (RL.aY 1 v0_0 o fH (RL.dY 2 p0_0 o lM (mv (vi 0) (RL.nt ?_)))))))
 obtain⟨an,hN,hb⟩:=bd hb
 refine RC.fold (fun(ai:Nat) (an: (List Int)×(List (List Int))×(List (Int×Int))) U w=>∃(a3 a4:Value) (us110:List RV),SH E V [(0,vp b0 0),(3,a4),(4,ao),(12,vi p0_0.length),(13,vi ai)] [bc 176 b0 [a3],own 3 a3 an.1,mp ao an.2.2,own 87 a4 us110,gL (XS 3 Int) us110 an.2.1 none] U w) (fun(an: (List Int)×(List (List Int))×(List (Int×Int))) U w=>∃(aw au:Value) (us113:List RV),SH E V [(0,vp b0 0),(3,au)] [bc 176 b0 [aw],own 3 aw an.1,mp ao an.2.2,own 87 au us113,gL (XS 3 Int) us113 an.2.1 none] U w) hN ?_ ?_ ?_ ?_
 ·have o:=(o.wY (XS 3 Int)).cH RV 87
  exact⟨v0_0,(.slice none 0 0),([]:List RV),o.sp 5 [3,4,2,0,1]⟩
 ·rintro hm an _ w ⟨ba,bb,us153,O,rfl,o⟩
  refine RC.sr (ic ((p0_0.length:Int)) ((p0_0.length:Int)) (RL.nq (RC.cN lS (RC.ex ?_))))
  exact⟨rfl,ba,bb,us153,o.sp 5 [0,1,2,3,4]⟩
 ·rintro hm ai an s' _ w hk ⟨bk,a0,us116,O,rfl,o⟩ hb
  refine RC.sr (ic ((ai:Int)) ((p0_0.length:Int)) (RL.nq (RC.cM (lR hk) (RC.ss (RC.bs (mv (vi ai) (aK (vi ai) (RL.ns ?_))))))))
  refine mv (vp b0 0) (mv (vi ai) ?_)
  have o:=(o.pull 1).pull 1
  obtain⟨ab,bf,hb⟩:=bd hb
  refine RL.call zt zr En [(vp b0 0),(vi ai)] zr (aF (f9 N (p1:=(ai:Int)) o bf) ?_)
  rintro _ w ⟨av,rfl,o⟩
  refine aK (vi ab.1) (RL.nq (RC.sr (mv (vi ab.1) (mv (vi ai) (ic ab.1 ((ai:Int)) (RL.nt ?_))))))
  obtain⟨aa,hj,hb⟩:=bd hb
  refine RC.jn (fun(aa: (List (List Int))×(List (Int×Int))) U w=>∃(al:Value) (us124:List RV),SH E V [(0,vp b0 0),(3,al),(4,ao),(5,vi ai),(6,vi ab.1),(12,vi p0_0.length),(13,vi ai)] [bc 176 b0 [av],own 3 av ab.2,mp ao aa.2,own 87 al us124,gL (XS 3 Int) us124 aa.1 none] U w) aa ?_ ?_
  ·refine eQ hj (fun hc hj=>?_) fun hc hj=>?_
   rotate_left
   ·refine RC.skip ?_
    obtain rfl:=oi hj
    exact⟨rfl,a0,us116,o.sp 7 [0,1,4,5,6]⟩
   refine RC.sr (mv ao (mv (vi ai) (mv a0 (RL.px 5 6 an.2.1 o DB ?_))))
   have o:=o.sc Int (an.2.1.length:Int)
   refine RL.mapUpdate 5 0 (ai:Int) o zr zr zr zr zr wm fun w o=>(RL.nt (RC.region (mv a0 ?_)))
   have o:=(o.cH Int 3).Bi (i:=0) rfl
   refine RL.dS ([rv (.slice none 0 0)]:List RV) o [(.slice none 0 0)] xL Kb (fun M hs g=>⟨(g.sat 0 _ zr).1,zt⟩) fun bl w o=>?_
   obtain⟨bm,bh,hj⟩:=bd hj
   have o:=o.freeze 0
   refine RL.xq 9 0 10 2 zr o zr zr zr zr zr zr H5 bh fun a7 w o=>?_
   refine aK a7 (RL.nil ?_)
   obtain rfl:=oi hj
   exact⟨rfl,a7,(us116++[rv (.slice none 0 0)]),o.sp 11 [4,5,8,9,10]⟩
  rintro _ w ⟨al,us124,O,rfl,o⟩
  refine aG ?_
  obtain⟨bn,ax,hb⟩:=bd hb
  obtain⟨ar,bj,hb⟩:=bd hb
  obtain⟨bo,a1,hb⟩:=bd hb
  refine RC.Ds E V mixed [1,1,1,0,1,1,1,0,0,0,1,0,0,0,0] [11,12,14] (fun(x:Value×Value)=>(fun ak ag=>[(0,29,al),(1,30,ao),(2,31,(vi ab.1)),(3,32,(vi (dH aa.2 ab.1 (0:Int)))),(4,33,al),(5,34,ao),(6,35,(vi ab.1)),(7,36,(vi (dH aa.2 ab.1 (0:Int)))),(8,37,(zd al (Int.toNat (dH aa.2 ab.1 (0:Int))) 1 0)),(9,38,(us124.getD (Int.toNat (dH aa.2 ab.1 (0:Int))) wi).v),(10,39,(vi ai)),(11,40,ak),(12,41,ag),(13,42,(zd al (Int.toNat (dH aa.2 ab.1 (0:Int))) 1 0))]) x.1 x.2) [(0,vp b0 0),(3,al),(4,ao),(5,vi ai),(6,vi ab.1),(12,vi p0_0.length),(13,vi ai)] [] (fun(D:Nat->Bool) (x:Value×Value)=>(fun ak ag=>[bif D 1 then (rd ak ([(ai:Int)]: (List Int))) else (bif D 0 then (own 3 ak ([(ai:Int)]: (List Int))) else aX),bif D 2 then aX else (bif D 1 then (own 3 ag ar) else aX),bc 176 b0 [av],own 3 av ab.2,mp ao aa.2,bif D 2 then (own 87 al (us124.set (Int.toNat (dH aa.2 ab.1 (0:Int))) (rv ag))) else (own 87 al us124),bif D 2 then (gL (XS 3 Int) (us124.set (Int.toNat (dH aa.2 ab.1 (0:Int))) (rv ag)) (aa.1.set (Int.toNat (dH aa.2 ab.1 (0:Int))) ar) none) else (bif D 1 then (gL (XS 3 Int) us124 aa.1 (some (Int.toNat (dH aa.2 ab.1 (0:Int))))) else (gL (XS 3 Int) us124 aa.1 none))]) x.1 x.2) (fun x=>by kernel_rfl) ?_ ⟨fun _=>iT gn,fun _=>iT gn,fun _=>iT gn,?_,fun _=>iT gn,fun _=>iT gn,fun _=>iT gn,?_,?_,?_,fun _=>iT gn,?_,?_,?_,?_,trivial⟩ ?_
  ·have o:=((o.drew).aX).aX
   exact⟨(undef,undef),dX.none,(Cr zr),zt,o⟩
  ·rintro D U w hD ah ae ⟨⟨ak,ag⟩,hv,ha,_,o⟩
   obtain⟨O,rfl⟩:=(ac (hv.at 1 rfl (ah.1 rfl)) (ac (hv.at 2 rfl (ah.2.1 rfl)) az)).eT
   refine RL.pr 4 ab.1 zt o wm ?_
   exact RL.nil ⟨rfl,(ak,ag),hv.pu 3,ha.u,zt,o⟩
  ·rintro D U w hD ah ae ⟨⟨ak,ag⟩,hv,ha,_,o⟩
   obtain⟨O,rfl⟩:=(ac (hv.at 5 rfl (ah.1 rfl)) (ac (hv.at 6 rfl (ah.2.1 rfl)) az)).eT
   refine RL.pr 4 ab.1 zt o wm ?_
   exact RL.nil ⟨rfl,(ak,ag),hv.pu 7,ha.u,zt,o⟩
  ·rintro D U w hD ah ae ⟨⟨ak,ag⟩,hv,ha,_,o⟩
   obtain⟨O,rfl⟩:=(ac (hv.at 4 rfl (ah.1 rfl)) (ac (hv.at 7 rfl (ah.2.1 rfl)) az)).eT
   have o:=((o.bN 5 (nh ae hD 14)).bN 6 (nh ae hD 14)).bN 6 (nf (fun h=>ft hD ((ae 9 _ rfl ((ae 12 _ rfl h).1 rfl)).1 rfl)))
   have hl141:=o.fR 6
   have hr142:=iC wi hl141 ax
   refine RL.bQ 5 o zr zr xL hr142 ?_
   have o:=(o.eA 5 (D 14) (nh ae hD 14) (own 87 al (us124.set (Int.toNat (dH aa.2 ab.1 (0:Int))) (rv ag)))).eA 6 (D 12) (nf (fun h=>ft hD ((ae 9 _ rfl ((ae 12 _ rfl h).1 rfl)).1 rfl))) (gL (XS 3 Int) us124 aa.1 (some (Int.toNat (dH aa.2 ab.1 (0:Int)))))
   have o:=o.eA 6 (D 14) (nh ae hD 14) (gL (XS 3 Int) (us124.set (Int.toNat (dH aa.2 ab.1 (0:Int))) (rv ag)) (aa.1.set (Int.toNat (dH aa.2 ab.1 (0:Int))) ar) none)
   exact RL.nil ⟨rfl,(ak,ag),hv.pu 8,ha.u,zt,o⟩
  ·rintro D U w hD ah ae ⟨⟨ak,ag⟩,hv,ha,_,o⟩
   obtain⟨O,rfl⟩:=(ac (hv.at 8 rfl (ah.1 rfl)) az).eT
   have o:=((o.bN 5 (nh ae hD 14)).bN 6 (nh ae hD 14)).bN 6 (nh ae hD 12)
   have hl143:=o.fR 6
   have hr144:=iC wi hl143 ax
   refine RL.r8 5 6 (dH aa.2 ab.1 (0:Int)) (ud 3 Int) wi zr o zr (jG 5 o hr144 0) zr zr ax fH ?_
   have o:=(o.eA 5 (D 14) (nh ae hD 14) (own 87 al (us124.set (Int.toNat (dH aa.2 ab.1 (0:Int))) (rv ag)))).eA 6 (D 12) (nh ae hD 12) (gL (XS 3 Int) us124 aa.1 (some (Int.toNat (dH aa.2 ab.1 (0:Int)))))
   have o:=o.eA 6 (D 14) (nh ae hD 14) (gL (XS 3 Int) (us124.set (Int.toNat (dH aa.2 ab.1 (0:Int))) (rv ag)) (aa.1.set (Int.toNat (dH aa.2 ab.1 (0:Int))) ar) none)
   exact RL.nil ⟨rfl,(ak,ag),hv.pu 9,ha.u,zt,o⟩
  ·rintro D U w hD ah ae ⟨⟨ak,ag⟩,hv,ha,_,o⟩
   obtain⟨O,rfl⟩:=(ac (hv.at 10 rfl (ah.1 rfl)) az).eT
   have o:=((o.bN 0 (nh ae hD 12)).bN 0 hD).sc Int (ai:Int)
   refine RL.dS ([(ai:Int)]: (List Int)) o [(vi ai)] eJ EY (fun M hs g=>⟨(g.sat 0 _ zr).1,zt⟩) fun a8 w o=>?_
   have o:=((o.pl 9 [0,3,4,5,6,7,8]).cG 0 true aX).eA 0 (D 12) (nh ae hD 12) (rd a8 ([(ai:Int)]: (List Int)))
   exact RL.nil ⟨rfl,(a8,ag),hv.pu 11,ha.u,zt,o⟩
  ·rintro D U w hD ah ae ⟨⟨ak,ag⟩,hv,ha,_,o⟩
   obtain⟨O,rfl⟩:=(ac (hv.at 9 rfl (ah.1 rfl)) (ac (hv.at 11 rfl (ah.2.1 rfl)) az)).eT
   have o:=(((((((o.bN 0 hD).cF 0 (ah.2.1 rfl)).bN 1 (nh ae hD 14)).bN 1 hD).bN 5 (nh ae hD 14)).bN 6 (nh ae hD 14)).bN 6 hD).xp (j:=6) (jj:=(dH aa.2 ab.1 (0:Int))) (ud 3 Int) wi rfl ax
   have o:=o.freeze 1
   refine RL.app 0 1 o uz bj fun a2 w o=>?_
   have o:=((((o.pl 8 [1,0,3,4,5,6,7]).cG 0 true (bif D 11 then (own 3 ak ([(ai:Int)]: (List Int))) else aX)).cG 1 true aX).eA 1 (D 14) (nh ae hD 14) aX).eA 5 (D 14) (nh ae hD 14) (own 87 al (us124.set (Int.toNat (dH aa.2 ab.1 (0:Int))) (rv a2)))
   have o:=(o.cG 6 true (gL (XS 3 Int) us124 aa.1 none)).eA 6 (D 14) (nh ae hD 14) (gL (XS 3 Int) (us124.set (Int.toNat (dH aa.2 ab.1 (0:Int))) (rv a2)) (aa.1.set (Int.toNat (dH aa.2 ab.1 (0:Int))) ar) none)
   exact RL.nil ⟨rfl,(ak,a2),hv.pu 12,ha.u,zt,o⟩
  ·rintro D U w hD ah ae ⟨⟨ak,ag⟩,hv,ha,_,o⟩
   obtain⟨O,rfl⟩:=(ac (hv.at 0 rfl (ah.1 rfl)) (ac (hv.at 3 rfl (ah.2.1 rfl)) az)).eT
   have o:=((o.bN 5 (nh ae hD 14)).bN 6 (nh ae hD 14)).cF 6 (ah.2.2.2.2.2.2.2.2.2.2.2.2.2.2.1 rfl)
   have hl147:=o.fR 6
   have hr148:=iC wi hl147 a1
   refine RL.bQ 5 o zr zr xL hr148 ?_
   have o:=(o.eA 5 (D 14) (nh ae hD 14) (own 87 al (us124.set (Int.toNat (dH aa.2 ab.1 (0:Int))) (rv ag)))).cG (hb:=ah.2.2.2.2.2.2.2.2.2.2.2.2.2.2.1 rfl) 6 (D 12) (gL (XS 3 Int) us124 aa.1 none)
   have o:=o.eA 6 (D 14) (nh ae hD 14) (gL (XS 3 Int) (us124.set (Int.toNat (dH aa.2 ab.1 (0:Int))) (rv ag)) (aa.1.set (Int.toNat (dH aa.2 ab.1 (0:Int))) ar) none)
   exact RL.nil ⟨rfl,(ak,ag),hv.pu 13,ha.u,zt,o⟩
  ·rintro D U w hD ah ae ⟨⟨ak,ag⟩,hv,ha,_,o⟩
   obtain⟨O,rfl⟩:=(ac (hv.at 12 rfl (ah.2.1 rfl)) (ac (hv.at 13 rfl (ah.1 rfl)) az)).eT
   have o:=((((o.bN 1 hD).cF 1 (ah.2.1 rfl)).bN 5 hD).bN 6 hD).cF 6 (ah.2.1 rfl)
   have hl149:=o.fR 6
   have hr150:=iC wi hl149 a1
   refine RL.qe 5 6 1 (dH aa.2 ab.1 (0:Int)) (ud 3 Int) wi o zr zr (jG 5 o hr150 0) zr zr zr a1 fH fun w o=>?_
   have o:=((o.cG 1 true (bif D 12 then (own 3 ag ar) else aX)).cG 5 true (own 87 al us124)).cG 6 true (bif D 12 then (gL (XS 3 Int) us124 aa.1 (some (Int.toNat (dH aa.2 ab.1 (0:Int))))) else (gL (XS 3 Int) us124 aa.1 none))
   exact RL.nil ⟨rfl,(ak,ag),hv.n1,ha,zt,o⟩
  rintro D U w ay ⟨⟨ak,ag⟩,hv,ha,_,o⟩
  have o:=(((o.cF 0 (jk ay 12)).cF 1 (jk ay 14)).cF 5 (jk ay 14)).cF 6 (jk ay 14)
  obtain⟨O,rfl⟩:=(ac (ha.at 0 rfl) (ac (ha.at 1 rfl) (ac (ha.at 2 rfl) (ac (ha.at 3 rfl) (ac (ha.at 4 rfl) (ac (ha.at 5 rfl) (ac (ha.at 6 rfl) az))))))).eT
  refine bK (aG (RC.region (RL.inc hk hm (mv (vi ((ai+1:Nat):Int)) (RL.nil ?_)))))
  obtain rfl:=oi hb
  exact⟨rfl,av,al,(us124.set (Int.toNat (dH aa.2 ab.1 (0:Int))) (rv ag)),o.sp 7 [2,3,4,5,6]⟩
 rintro _ w ⟨aw,au,us113,O,rfl,o⟩
 refine aG (RC.sr (mv au (aK au (RL.nt (RC.ret ?_)))))
 obtain rfl:=oi hb
 have o:=o.wZ (X:=(XS 3 Int)) (b:=4) (j:=3) rfl (fun M h u x cs=>(Fg 3) M h u x cs) rfl rfl (by decide)
 exact cL ⟨au,aw,zr,o.pk 5 [3,0,1]⟩
theorem qT {p0:aI} {p1:eV} {res:Bool} (j:Holds E w V) (h0:V[i0]? =some (rd v0 p0)) (h1:V[i1]? =some (pt v1 p1)) (hb:jV N p0 p1=some res):
    Calls bF 138 [v0,v1].toArray w (gI (bE E V res)):=by
 unfold jV at hb
 refine enter Tryz.func138 zr zr ?_
 have j:=(j.dup (i0+0) h0).xk (i:=i1+1) h1
 refine RC.sr (RL.dB 1 v0 j zr fun ag w j=>?_)
 refine aK (vb false) (RL.nq ?_)
 obtain⟨af,o,hb⟩:=bd hb
 refine RC.jn (fun(af:Bool)=>SH E V [(3,vb af)] []) af ?_ ?_
 ·refine RC.region (RL.iu 1 j zr rm kF fun ah j=>(RL.bI p1.X 0 j cQ (RL.aZ zr jy (RL.aM 1 j zr eW cQ (ic p1.X p0.X0 (mv (vb (decide (p1.X>=p0.X0))) (fM o (fun aa o=>?_) fun aa o=>?_)))))))
  rotate_left
  ·refine bO aa (bO aa (bO aa (bO aa (bO aa (fJ aa (vb false) (mv (vb false) (oT (oT ?_))))))))
   refine oT (oT (oT (RL.pick false (vb false) zr (mv (vb false) (oT (oT (oT (oT ?_))))))))
   refine oT (RL.pick false (vb false) zr (aK (vb false) (RL.nil ?_)))
   obtain rfl:=oi o
   exact⟨rfl,j.sp 4 []⟩
  refine RL.iu (hg:=(cg aa)) 2 j zr rm kF fun ai j=>(RL.bI (hg:=(cg aa)) p1.X 0 j cQ (RL.aZ (hg:=(cg aa)) zr kI (RL.aM (hg:=(cg aa)) 2 j zr gz cQ (RL.i7 p1.X p0.X1 (cg aa) (fJ aa (vb (decide (p1.X<p0.X1))) (mv (vb (decide (p1.X<p0.X1))) (fM o (fun ab o=>?_) fun ab o=>?_)))))))
  rotate_left
  ·refine bO ab (bO ab (bO ab (bO ab (bO ab (fJ ab (vb false) (mv (vb false) (oT (oT ?_))))))))
   refine oT (oT (oT (RL.pick false (vb false) zr (aK (vb false) (RL.nil ?_)))))
   obtain rfl:=oi o
   exact⟨rfl,j.sp 5 []⟩
  refine RL.iu (hg:=(cg ab)) 3 j zr o7 jw fun aj j=>(RL.bI (hg:=(cg ab)) p1.Y 0 j cQ (RL.aZ (hg:=(cg ab)) zr jX (RL.aM (hg:=(cg ab)) 3 j zr fC cQ (RL.i7 p1.Y p0.Y0 (cg ab) (fJ ab (vb (decide (p1.Y>=p0.Y0))) (mv (vb (decide (p1.Y>=p0.Y0))) (fM o (fun ad o=>?_) fun ad o=>?_)))))))
  ·refine RL.iu (hg:=(cg ad)) 4 j zr o7 jw fun ak j=>(RL.bI (hg:=(cg ad)) p1.Y 0 j cQ (RL.aZ (hg:=(cg ad)) zr n7 (RL.aM (hg:=(cg ad)) 4 j zr jN cQ (RL.i7 p1.Y p0.Y1 (cg ad) (fJ ad (vb (decide (p1.Y<p0.Y1))) (aK (vb (decide (p1.Y<p0.Y1))) (RL.nil ?_)))))))
   obtain rfl:=oi o
   exact⟨rfl,j.sp 7 []⟩
  refine bO ad (bO ad (bO ad (bO ad (bO ad (fJ ad (vb false) (aK (vb false) (RL.nil ?_)))))))
  obtain rfl:=oi o
  exact⟨rfl,j.sp 6 []⟩
 rintro _ w ⟨O,rfl,j⟩
 refine aG (RC.ret ?_)
 obtain rfl:=oi hb
 exact cL ⟨rfl,j.drop 0⟩
theorem oj {p0: (List aI)} {p1:eV} {res:Bool} (j:Holds E w V) (h0:V[i0]? =some (rd v0 p0)) (h1:V[i1]? =some (rd v1 p1)) (o:je N p0 p1=some res):
    Calls bF 118 [v0,v1].toArray w (gI (bE E V res)):=by
 unfold je at o
 refine enter Tryz.func118 zr zr ?_
 have j:=(j.dup (i0+0) h0).dup (i1+1) h1
 refine RC.sr (RL.dB 0 v1 j zr fun aa w j=>?_)
 have j:=j.gJ (i:=0) rfl
 refine aK (vb false) (RL.ns (mv v0 (RL.makeFunc [(vp aa 0)] ?_)))
 obtain⟨ab,ad,o⟩:=bd o
 refine RL.call trivial rfl Ka [v0,(.func (.func 138) #[] #[(vp aa 0)])] rfl (aF (kq N (i0:=2) j rfl ⟨138,[(vp aa 0)],rfl,Kj,fun w Γl v y0 r i j hi hr=>by exact aF (qT N (i0:=i) (i1:=Γl.length+0) j hi (z5 rfl) hr) fun _ _ h=>h⟩ ad) ?_)
 rintro _ w ⟨rfl,j⟩
 refine aK (vb ab) (RL.nt (RC.ret ?_))
 obtain rfl:=oi o
 exact cL ⟨rfl,j.drop 3⟩
def mZ (E:World) (V:List HP) (b0:Nat) (v0_0 v0_1:Value) (v0_2 v0_3:Value) (v0_4 v0_5:Value) (v0_6 v0_7:Value) (v0_8 v0_9:Value) (v0_10 v0_11:Value) (res:dQ×Bool) (v:Value) (w:World):Prop:=∃u0:Value,v = .tuple #[u0,(vb res.2)]/\Holds E w ([rd u0 res.1,bc 126 b0 [v0_0,v0_1,v0_2,v0_3,v0_4,v0_5,v0_6,v0_7,v0_8,v0_9,v0_10,v0_11]]++V)
def m0 (E:World) (V:List HP) (b0:Nat) (v0_0 v0_1:Value) (v0_2 v0_3:Value) (v0_4 v0_5:Value) (v0_6 v0_7:Value) (v0_8 v0_9:Value) (v0_10 v0_11:Value) (r:dQ×Bool) (U:Nat->Value) (w:World):Prop:=l5 bF 66 Tryz.f87 (mZ E V b0 v0_0 v0_1 v0_2 v0_3 v0_4 v0_5 v0_6 v0_7 v0_8 v0_9 v0_10 v0_11 r) .ret U w
theorem qU {p0_2: (List bW)} {p0_5: (List aH)} {p1:cU} {res:dQ×Bool} (j:Holds E w (bc 126 b0 [v0_0,v0_1,v0_2,v0_3,v0_4,v0_5,v0_6,v0_7,v0_8,v0_9,v0_10,v0_11]::rd v0_2 p0_2::rd v0_5 p0_5::V)) (h1:V[i1]? =some (rd v1 p1)) (o:iQ N p0_2 p0_5 p1=some res):
    Calls bF 87 [(vp b0 0),v1].toArray w (gI (mZ E V b0 v0_0 v0_1 v0_2 v0_3 v0_4 v0_5 v0_6 v0_7 v0_8 v0_9 v0_10 v0_11 res)):=by
 unfold iQ at o
 refine enter Tryz.func87 zr zr ?_
 have j:=j.dup (i1+3) h1
 refine RC.sr (RL.dB 0 v1 j zr fun ah w j=>?_)
 have j:=j.gJ (i:=0) rfl
 refine RL.alloc j Hj.z fun ae w j=>?_
 refine aK (vb false) (RL.nq (RC.sr (mv (vp b0 0) (RL.nilCheck zr (RL.aZ zr kp (RL.aZ zr mJ (RL.aY 3 v0_2 j vF (RL.bD 4 p0_2 j xI ?_))))))))
 refine mv (vi 0) (RL.nt ?_)
 obtain⟨bn,hN,o⟩:=bd o
 refine RC.range (fun(af:Nat) (al:Unit)=>SH E V [(0,vp b0 0),(3,vp ah 0),(4,vp ae 0),(14,v0_2),(15,vi p0_2.length),(16,vi af)] [bc 126 b0 [v0_0,v0_1,v0_2,v0_3,v0_4,v0_5,v0_6,v0_7,v0_8,v0_9,v0_10,v0_11],rd v0_2 p0_2,rd v0_5 p0_5,pt (vp ah 0) p1,raw 41 ae 2]) (fun(al:Unit)=>SH E V [(0,vp b0 0),(3,vp ah 0),(4,vp ae 0)] [bc 126 b0 [v0_0,v0_1,v0_2,v0_3,v0_4,v0_5,v0_6,v0_7,v0_8,v0_9,v0_10,v0_11],rd v0_2 p0_2,rd v0_5 p0_5,pt (vp ah 0) p1,raw 41 ae 2]) (m0 E V b0 v0_0 v0_1 v0_2 v0_3 v0_4 v0_5 v0_6 v0_7 v0_8 v0_9 v0_10 v0_11) hN ?_ ?_ ?_ ?_ ?_
 ·exact j.sp 6 [3,4,5,1,0]
 ·rintro hm al _ w ⟨O,rfl,j⟩
  refine RC.sr (ic ((p0_2.length:Int)) ((p0_2.length:Int)) (RL.nq (RC.cN lS (RC.ex ?_))))
  exact⟨rfl,j.sp 5 [0,1,2,3,4]⟩
 ·rintro hm af al fl _ w hk ⟨O,rfl,j⟩ o
  refine RC.sr (ic ((af:Int)) ((p0_2.length:Int)) (RL.nq (RC.cM (lR hk) (RC.ss (RC.bs (mv (vi af) ?_))))))
  obtain⟨ax,a0,o⟩:=bd o
  refine RL.cC 1 j Al a0 fun bo j=>(RL.bV 0 ax j lf fun bp j=>(RL.alloc j zp.z fun bq w j=>?_))
  refine aK (vi af) (RL.bA 0 j 1 zr lf fun w j=>?_)
  refine RL.nq ?_
  obtain⟨aq,hj,o⟩:=bd o
  refine RC.jn (fun(aq:Bool)=>SH E V [(0,vp b0 0),(3,vp ah 0),(4,vp ae 0),(6,vi af),(14,v0_2),(15,vi p0_2.length),(16,vi af),(36,vb aq)] [bc 126 b0 [v0_0,v0_1,v0_2,v0_3,v0_4,v0_5,v0_6,v0_7,v0_8,v0_9,v0_10,v0_11],rd v0_2 p0_2,rd v0_5 p0_5,pt (vp ah 0) p1,raw 41 ae 2]) aq ?_ ?_
  ·refine RC.yC mixed [0,0,0,0,0,0,2,0,0,0,2,2,1,1,2,0] [0,1,2,3,4,5,6,7,8,9,12,13,10,11,14,15] ?_
   have j:=j.drew
   refine DP.e0 zr (RL.aZ zr w4 (cB zr (RL.aM 0 j zr sf xK (cB zr (mv (vb ax.ik) (DP.d0 (fM hj (fun ai hj=>?_) fun ai hj=>?_)))))))
   rotate_left
   ·refine DP.e0 zr (bO ai (cB zr (bO ai (cB zr (bO ai (um zr (bO ai (yD zr ?_))))))))
    refine fJ ai (vb false) (cB zr (mv (vb false) (cB zr (oT (DP.d0 (DP.e1 undef zr (fun w=>oT DP.d1) (DP.e1 undef zr (fun w=>oT DP.d1) (DP.e2 zr ?_))))))))
    refine oT (Hd zr (oT (Hd zr (oT (yD zr (RL.pick false (vb false) zr (DP.d0 (DP.z ?_))))))))
    obtain rfl:=oi hj
    exact⟨rfl,j.sp 8 [3,4,5,6,7]⟩
   refine DP.e0 zr (RL.aP (hg:=(cg ai)) (f:=(fun x=>x)) 0 j zr Fd.self lf fun a1 j=>(cB zr (RL.iu (hg:=(cg ai)) 7 j zr CM vC fun br j=>(cB zr (RL.bI (hg:=(cg ai)) p1.cX 0 j cQ (um zr ?_))))))
   obtain⟨ay,a2,hj⟩:=bd hj
   refine RL.call (cg ai) zr IM [a1,(vi p1.cX)] zr (aF (mi N (p1:=p1.cX) (i0:=1) j zr a2) ?_)
   rintro _ w ⟨rfl,j⟩
   refine yD zr (fJ ai (vb ay) (cB zr (mv (vb ay) (DP.d0 (fM hj (fun ab hj=>?_) fun ab hj=>?_)))))
   rotate_left
   ·refine DP.e0 zr (bO ab (DP.d0 (DP.e1 undef zr (fun w=>bO ab DP.d1) (DP.e1 undef zr (fun w=>bO ab DP.d1) (DP.e2 zr (bO ab (Hd zr (bO ab ?_))))))))
    refine Hd zr (bO ab (yD zr (fJ ab (vb false) (DP.d0 (DP.z ?_)))))
    obtain rfl:=oi hj
    exact⟨rfl,j.sp 10 [5,6,7,8,9]⟩
   refine DP.e0 zr (RL.aP (hg:=(cg ab)) (f:=(fun x=>x)) 2 j zr Fd.self lf fun a3 j=>(DP.d0 (DP.He 9 zr zr (cg ab) zr j zr zr CN vD fun bt j=>(DP.wJ (hg:=(cg ab)) p1.At 0 zr j sK fun a4 a105 bu j=>(DP.e2 zr ?_)))))
   obtain⟨a5,a6,hj⟩:=bd hj
   refine RL.call (cg ab) zr Ej [a3] zr (aF (gQ N (i0:=3) j zr a6) ?_)
   rintro a7 w j
   refine DP.d2 (⟨zt,j.j9 1⟩) (DP.e2 zr (RL.dS (hg:=(cg ab)) ([a5]: (List aI)) j [a7] kH mI (fun M hs g=>⟨(g.sat 0 _ zr).1,zt⟩) fun a8 w j=>(DP.d2 (⟨zt,j.j9 2⟩) (DP.e2 zr ?_))))
   have j:=j.freeze 0
   obtain⟨a9,ba,hj⟩:=bd hj
   refine RL.call (cg ab) zr H7 [a8,a4] zr (aF (oj N (i0:=0) (i1:=3) j zr zr ba) ?_)
   rintro _ w ⟨rfl,j⟩
   refine DP.d2 (⟨zt,j.j9 2⟩) (DP.e0 zr (fJ ab (vb a9) (DP.d0 ?_)))
   have j:=j.pl 16 [0,1,3,4,5,6,7,8,9,10,11,12,13,14,15]
   refine DP.z ?_
   obtain rfl:=oi hj
   exact⟨rfl,j.sp 15 [10,11,12,13,14]⟩
  rintro _ w ⟨O,rfl,j⟩
  refine aG (eQ o (fun hc o=>?_) fun hc o=>?_)
  rotate_left
  ·refine RC.skip (bK (aG (RC.region (RL.inc hk hm (mv (vi ((af+1:Nat):Int)) (RL.nil ?_))))))
   obtain rfl:=oi o
   exact⟨rfl,j.sp 5 [0,1,2,3,4]⟩
  refine RC.sr (mv (vi af) ?_)
  have j:=(j.sc Bool true).sc Int (af:Int)
  refine RL.build (⟨true,(af:Int)⟩:dQ) trivial rfl j [(0,vb true),(1,vi af)] rfl Eo rfl (fun M hs g=>by have h:=xF M;exact cO.cons (f:=fun(x:dQ) y=>{x with bW:=y}) h BE (g.sat 1 _ rfl).1 fun _ h=>cO.cons (f:=fun(x:dQ) y=>{x with Number:=y}) h ux (g.sat 0 _ rfl).1 fun _ h=>cO.nil h) fun bw j=>?_
  refine RL.bA 7 j 0 zr rn fun w j=>?_
  refine aK (vb true) (RL.nt (RC.rb (bS ?_)))
  obtain rfl:=oi o
  exact⟨rfl,za 7 j rn fun bb j=>⟨bb,zr,j.pk 9 [0,4]⟩⟩
 ·intro r U w e hK
  subst e
  refine bS ?_
  obtain rfl:=oi o
  exact hK
 rintro al _ w rfl ⟨O,rfl,j⟩
 rw [Fo.gl] at o
 refine aG (RC.seq (RC.sr (mv (vp b0 0) (RL.nilCheck zr (RL.aZ zr lI (RL.aY 0 v0_5 j qJ (RL.bD 2 p0_5 j wo (mv (vi 0) ?_))))))))
 refine RL.nt ?_
 obtain⟨bx,hN,o⟩:=bd o
 refine RC.range (fun(ag:Nat) (an:Unit)=>SH E V [(0,vp b0 0),(3,vp ah 0),(4,vp ae 0),(43,v0_5),(44,vi p0_5.length),(45,vi ag)] [bc 126 b0 [v0_0,v0_1,v0_2,v0_3,v0_4,v0_5,v0_6,v0_7,v0_8,v0_9,v0_10,v0_11],rd v0_2 p0_2,rd v0_5 p0_5,pt (vp ah 0) p1,raw 41 ae 2]) (fun(an:Unit)=>SH E V [(0,vp b0 0),(4,vp ae 0)] [bc 126 b0 [v0_0,v0_1,v0_2,v0_3,v0_4,v0_5,v0_6,v0_7,v0_8,v0_9,v0_10,v0_11],rd v0_2 p0_2,rd v0_5 p0_5,pt (vp ah 0) p1,raw 41 ae 2]) (m0 E V b0 v0_0 v0_1 v0_2 v0_3 v0_4 v0_5 v0_6 v0_7 v0_8 v0_9 v0_10 v0_11) hN ?_ ?_ ?_ ?_ ?_
 ·exact j.sp 5 [0,1,2,3,4]
 ·rintro hm an _ w ⟨O,rfl,j⟩
  refine RC.sr (ic ((p0_5.length:Int)) ((p0_5.length:Int)) (RL.nq (RC.cN lS (RC.ex ?_))))
  exact⟨rfl,j.sp 5 [0,1,2,3,4]⟩
 ·rintro hm ag an fl _ w hk ⟨O,rfl,j⟩ o
  refine RC.sr (ic ((ag:Int)) ((p0_5.length:Int)) (RL.nq (RC.cM (lR hk) (RC.ss (RC.bs (mv (vi ag) ?_))))))
  obtain⟨av,bf,o⟩:=bd o
  refine RL.cC 2 j zu bf fun bz j=>(RL.bV 0 av j zv fun b1 j=>(RL.alloc j Dz.z fun b2 w j=>?_))
  refine aK (vi ag) (RL.bA 0 j 1 zr zv fun w j=>?_)
  refine RL.nq ?_
  obtain⟨aw,hj,o⟩:=bd o
  refine RC.jn (fun(aw:Bool)=>SH E V [(0,vp b0 0),(3,vp ah 0),(4,vp ae 0),(8,vi ag),(43,v0_5),(44,vi p0_5.length),(45,vi ag),(61,vb aw)] [bc 126 b0 [v0_0,v0_1,v0_2,v0_3,v0_4,v0_5,v0_6,v0_7,v0_8,v0_9,v0_10,v0_11],rd v0_2 p0_2,rd v0_5 p0_5,pt (vp ah 0) p1,raw 41 ae 2]) aw ?_ ?_
  ·refine RC.region (RL.aZ zr w5 (RL.aM 0 j zr km cQ (RL.iu 6 j zr CM vC fun b3 j=>(RL.bI p1.cX 0 j cQ (ic av.cX p1.cX (mv (vb (av.cX==p1.cX)) (fM hj (fun ad hj=>?_) fun ad hj=>?_)))))))
   rotate_left
   ·refine bO ad (bO ad (bO ad (bO ad (bO ad (fJ ad (vb false) (RL.nil ?_))))))
    obtain rfl:=oi hj
    exact⟨rfl,j.sp 9 [4,5,6,7,8]⟩
   refine RL.aZ (hg:=(cg ad)) zr w6 (RL.aP (hg:=(cg ad)) 1 j zr kn xH fun bg j=>(RL.iu (hg:=(cg ad)) 8 j zr CN vD fun b4 j=>(RL.bV (hg:=(cg ad)) 0 p1.At j sK fun bh j=>?_)))
   obtain⟨bj,bk,hj⟩:=bd hj
   refine RL.call (cg ad) zr H7 [bg,bh] zr (aF (oj N (i0:=2) (i1:=0) j zr zr bk) ?_)
   rintro _ w ⟨rfl,j⟩
   refine fJ ad (vb bj) (RL.nil ?_)
   obtain rfl:=oi hj
   exact⟨rfl,j.sp 12 [7,8,9,10,11]⟩
  rintro _ w ⟨O,rfl,j⟩
  refine aG (eQ o (fun hc o=>?_) fun hc o=>?_)
  rotate_left
  ·refine RC.skip (bK (aG (RC.region (RL.inc hk hm (mv (vi ((ag+1:Nat):Int)) (RL.nil ?_))))))
   obtain rfl:=oi o
   exact⟨rfl,j.sp 5 [0,1,2,3,4]⟩
  refine RC.sr (mv (vi ag) ?_)
  have j:=j.sc Int (ag:Int)
  refine RL.build (⟨false,(ag:Int)⟩:dQ) trivial rfl j [(1,vi ag)] rfl Eo rfl (fun M hs g=>by have h:=xF M;exact cO.cons (f:=fun(x:dQ) y=>{x with Number:=y}) h ux (g.sat 0 _ rfl).1 fun _ h=>cO.nil h) fun b5 j=>?_
  refine RL.bA 6 j 0 zr rn fun w j=>?_
  refine aK (vb true) (RL.nt (RC.rb (bS ?_)))
  obtain rfl:=oi o
  exact⟨rfl,za 6 j rn fun bl j=>⟨bl,zr,j.pk 8 [0,3]⟩⟩
 ·intro r U w e hK
  subst e
  refine bS ?_
  obtain rfl:=oi o
  exact hK
 rintro an _ w rfl ⟨O,rfl,j⟩
 rw [Fo.gl] at o
 refine aG (RC.sr (RL.build (⟨false,0⟩:dQ) trivial rfl j [] rfl Eo rfl (fun M hs g=>by have h:=xF M;exact cO.nil h) fun b6 j=>?_))
 refine RL.bA 5 j 0 zr rn fun w j=>?_
 refine aK (vb false) (RL.nt (RC.ret ?_))
 obtain rfl:=oi o
 exact za 5 j rn fun bm j=>⟨bm,zr,j.pk 7 [0,2]⟩
theorem oq {p0_8: (List Int)} {p0_9: (List Int)} {p1:dQ} (j:Holds E w (bc 126 b0 [v0_0,v0_1,v0_2,v0_3,v0_4,v0_5,v0_6,v0_7,v0_8,v0_9,v0_10,v0_11]::rd v0_8 p0_8::rd v0_9 p0_9::V)) (h1:V[i1]? =some (rd v1 p1)) (o:fZ N p0_8 p0_9 p1=some res):
    Calls bF 88 [(vp b0 0),v1].toArray w (gI (i9 E V b0 v0_0 v0_1 v0_2 v0_3 v0_4 v0_5 v0_6 v0_7 v0_8 v0_9 v0_10 v0_11 res)):=by
 unfold fZ at o
 refine enter Tryz.func88 zr zr ?_
 have j:=j.dup (i1+3) h1
 refine RC.sr (RL.dB 0 v1 j zr fun ag w j=>?_)
 refine aK (vi 0) (RL.nq (RC.sr (RL.aZ zr CO (RL.aM 0 j zr xE xK (RL.nt (eQ o (fun hc o=>?_) fun hc o=>?_))))))
 ·refine RC.seq (RC.xv mixed ?_)
  have j:=j.drew
  refine RO.go (mv (vp b0 0) (RO.nx (RL.nilCheck zr (RO.nx (RL.aZ zr uC (RO.nx (RL.aY 2 v0_9 j fH (RO.nx ?_))))))))
  refine RL.aZ zr tn (RO.nx (RL.aM 0 j zr n0 cQ (RO.nx ?_)))
  obtain⟨aa,ae,o⟩:=bd o
  refine RL.cC 4 j eJ ae fun ah j=>(RO.nx (RL.bI aa 0 j cQ (RO.nx (aK (vi aa) (RO.last (aG (RC.rt ?_)))))))
  obtain rfl:=oi o
  exact cL ⟨rfl,j.pk 6 [3]⟩
 refine RC.ss (RC.xv mixed ?_)
 have j:=j.drew
 refine RO.go (mv (vp b0 0) (RO.nx (RL.nilCheck zr (RO.nx (RL.aZ zr sm (RO.nx (RL.aY 2 v0_8 j fH (RO.nx ?_))))))))
 refine RL.aZ zr tn (RO.nx (RL.aM 0 j zr n0 cQ (RO.nx ?_)))
 obtain⟨ab,af,o⟩:=bd o
 refine RL.cC 3 j eJ af fun ai j=>(RO.nx (RL.bI ab 0 j cQ (RO.nx (aK (vi ab) (RO.last (aG (RC.ret ?_)))))))
 obtain rfl:=oi o
 exact cL ⟨rfl,j.pk 6 [3]⟩
end Go.Gk
