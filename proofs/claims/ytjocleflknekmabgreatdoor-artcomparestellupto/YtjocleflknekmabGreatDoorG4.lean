/-
  Printed texts: Go functions as plain functions, and that they are. No statement of the seed is proved here.
-/
import Derived.Test.YtjocleflknekmabGreatDoorG1
import Derived.Test.YtjocleflknekmabGreatDoorG2
import Derived.Test.YtjocleflknekmabGreatDoorG3
import Derived.Test.YtjocleflknekmabGreatDoorA2
set_option linter.unusedVariables false
set_option linter.unusedSimpArgs false
set_option linter.unusedSectionVars false
set_option maxRecDepth 100000
set_option maxHeartbeats 40000000
namespace Go.Gk
open Go Go.Proofs
variable (N:Nat) {E w:World} {b0 b1 i0 i1:Nat} {p0 res:Int} {v0 v0_0 v0_1 v0_10 v0_11 v0_2 v0_3 v0_4 v0_5 v0_6 v0_7 v0_8 v0_9 v1 v1_0 v2:Value} {V:List HP}
theorem zP {p0: (List Int)} {p1: (List Int)} {p2:Bool->Bool->Option Bool} {res: (List Int)} (j:Holds E w V) (h0:V[i0]? =some (rd v0 p0)) (h1:V[i1]? =some (rd v1 p1)) (h2:H0 bB E V v2 p2 (fun(r:Bool)=>Value.bool r)) (hb:oE N p0 p1 p2=some res):
    Calls bB 162 [v0,v1,v2].toArray w (gr (lf E V res)):=by
 unfold oE at hb
 refine enter Tryz.func162 zr zr ?_
 have j:=(j.dup (i0+0) h0).dup (i1+1) h1
 refine RC.sr (aM (.slice none 0 0) (RL.ns (aM (.slice none 0 0) (RL.ns (aM (vb false) (aM (vb false) (aM (vb false) (RL.nq ?_))))))))
 obtain⟨bu,hN,hb⟩:=bd hb
 refine RC.iter (fun(o: (List Int)×(List Int)×(List Int)×Bool×Bool×Bool) U w=>∃a7 a8 a9:Value,SH E V [(0,a7),(1,a8),(2,v2),(7,a9),(8,vb o.2.2.2.1),(9,vb o.2.2.2.2.1),(10,vb o.2.2.2.2.2)] [rd a7 o.1,rd a8 o.2.1,own 3 a9 o.2.2.1] U w) (fun(o: (List Int)×(List Int)×(List Int)×Bool×Bool×Bool) U w=>∃av:Value,SH E V [(7,av)] [own 3 av o.2.2.1] U w) (fun(r:Empty) _ _=>r.elim) hN ?_ ?_ ?_ ?_
 ·have j:=j.cW Int 3
  exact⟨v0,v1,(.slice none 0 0),j.sp 3 [2,1,0]⟩
 ·rintro o fl _ w ⟨ah,ad,ae,O,rfl,j⟩ hb
  refine RC.seq (RC.seq ?_)
  obtain⟨a1,hj,hb⟩:=bd hb
  refine RC.jn (fun(a1:Bool)=>SH E V [(0,ah),(1,ad),(2,v2),(7,ae),(8,vb o.2.2.2.1),(9,vb o.2.2.2.2.1),(10,vb o.2.2.2.2.2),(20,vb a1)] [rd ah o.1,rd ad o.2.1,own 3 ae o.2.2.1]) a1 ?_ ?_
  ·refine RC.region (mv ah (RL.bF 0 o.1 j nC (ic ((o.1.length:Int)) 0 (mv (vb (decide ((o.1.length:Int)>0))) (gZ hj (fun ao hj=>?_) fun ao hj=>?_)))))
   ·refine bZ ao (bZ ao (bZ ao (g9 ao (vb true) (RL.nil ?_))))
    obtain rfl:=oi hj
    exact⟨rfl,j.sp 3 [0,1,2]⟩
   refine RL.move ad (cg ao) (RL.bF (hg:=(cg ao)) 1 o.2.1 j nC (RL.kI (o.2.1.length:Int) 0 (cg ao) (g9 ao (vb (decide ((o.2.1.length:Int)>0))) (RL.nil ?_))))
   obtain rfl:=oi hj
   exact⟨rfl,j.sp 3 [0,1,2]⟩
  rintro _ w ⟨O,rfl,j⟩
  refine aG (eH hb (fun hc hb=>?_) fun hc hb=>?_)
  rotate_left
  ·refine RC.ex ?_
   obtain rfl:=oi hb
   exact⟨rfl,ae,j.sp 3 [2]⟩
  refine RC.sn (RC.bs (aM (vi 0) (RL.nq (RC.seq ?_))))
  obtain⟨a2,hj,hb⟩:=bd hb
  refine RC.jn (fun(a2:Bool)=>SH E V [(0,ah),(1,ad),(2,v2),(7,ae),(8,vb o.2.2.2.1),(9,vb o.2.2.2.2.1),(10,vb o.2.2.2.2.2),(37,vb a2)] [rd ah o.1,rd ad o.2.1,own 3 ae o.2.2.1]) a2 ?_ ?_
  ·refine RC.zA mixed ?_
   have j:=j.drew
   refine RO.go (mv ad (RO.nx (RL.bF 1 o.2.1 j nC (RO.nx (ic ((o.2.1.length:Int)) 0 (RO.nx (mv (vb ((o.2.1.length:Int)==0)) (gZ hj (fun ai hj=>?_) fun ai hj=>?_))))))))
   ·refine RO.nx (bZ ai (RO.nx (bZ ai (RO.nx (bZ ai (RO.nx (bZ ai (RO.nx ?_))))))))
    refine JO (RO.nx (JO (RO.nx (JO (RO.nx (JO (RO.nx (JO ?_))))))))
    refine RO.nx (JO (RO.nx (JO (RO.nx (bZ ai (RO.nx (g9 ai (vb true) (RO.last ?_))))))))
    obtain rfl:=oi hj
    exact⟨rfl,j.sp 3 [0,1,2]⟩
   refine RO.nx (RL.move ah (cg ai) (RO.nx (RL.bF (hg:=(cg ai)) 0 o.1 j nC (RO.nx (RL.kI (o.1.length:Int) 0 (cg ai) (RO.nx (RL.move (vb (decide ((o.1.length:Int)>0))) (cg ai) (gZ hj (fun af hj=>?_) fun af hj=>?_))))))))
   rotate_left
   ·refine RO.nx (bZ af (RO.nx (bZ af (RO.nx (bZ af (RO.nx (bZ af (RO.nx ?_))))))))
    refine bZ af (RO.nx (bZ af (RO.nx (bZ af (RO.nx (g9 af (vb false) (hg:=(cg ai)) (RO.nx (g9 ai (vb false) ?_))))))))
    refine RO.last ?_
    obtain rfl:=oi hj
    exact⟨rfl,j.sp 3 [0,1,2]⟩
   refine RO.nx (RL.move ah (cg af) (RO.nx ?_))
   obtain⟨ax,bj,hj⟩:=bd hj
   refine RL.cA (hg:=(cg af)) 0 j fV bj fun bx j=>(RO.nx (RL.bQ (hg:=(cg af)) ax 0 j dE (RO.nx (RL.move ad (cg af) (RO.nx ?_)))))
   obtain⟨ay,bk,hj⟩:=bd hj
   refine RL.cA (hg:=(cg af)) 2 j fV bk fun bz j=>(RO.nx (RL.bQ (hg:=(cg af)) ay 0 j dE (RO.nx (RL.kI ax ay (cg af) (RO.nx (g9 af (vb (decide (ax<=ay))) (hg:=(cg ai)) (RO.nx (g9 ai (vb (decide (ax<=ay))) ?_))))))))
   refine RO.last ?_
   obtain rfl:=oi hj
   exact⟨rfl,j.sp 5 [2,3,4]⟩
  rintro _ w ⟨O,rfl,j⟩
  refine aG ?_
  obtain⟨ag,hj,hb⟩:=bd hb
  refine RC.jn (fun(ag:Int)=>SH E V [(0,ah),(1,ad),(2,v2),(7,ae),(8,vb o.2.2.2.1),(9,vb o.2.2.2.2.1),(10,vb o.2.2.2.2.2),(11,vi ag)] [rd ah o.1,rd ad o.2.1,own 3 ae o.2.2.1]) ag ?_ ?_
  ·refine eH hj (fun hc hj=>?_) fun hc hj=>?_
   ·refine RC.region (mv ah ?_)
    obtain⟨ba,bl,hj⟩:=bd hj
    refine RL.cA 0 j fV bl fun b0 j=>(RL.bQ ba 0 j dE (aM (vi ba) (RL.nil ?_)))
    obtain rfl:=oi hj
    exact⟨rfl,j.sp 4 [1,2,3]⟩
   refine RC.region (mv ad ?_)
   obtain⟨bb,bm,hj⟩:=bd hj
   refine RL.cA 1 j fV bm fun b1 j=>(RL.bQ bb 0 j dE (aM (vi bb) (RL.nil ?_)))
   obtain rfl:=oi hj
   exact⟨rfl,j.sp 4 [1,2,3]⟩
  rintro _ w ⟨O,rfl,j⟩
  refine aG (RC.seq (RC.seq ?_))
  obtain⟨a3,hj,hb⟩:=bd hb
  refine RC.jn (fun(a3:Bool)=>SH E V [(0,ah),(1,ad),(2,v2),(7,ae),(8,vb o.2.2.2.1),(9,vb o.2.2.2.2.1),(10,vb o.2.2.2.2.2),(11,vi ag),(53,vb a3)] [rd ah o.1,rd ad o.2.1,own 3 ae o.2.2.1]) a3 ?_ ?_
  ·refine RC.region (mv ah (RL.bF 0 o.1 j nC (ic ((o.1.length:Int)) 0 (mv (vb (decide ((o.1.length:Int)>0))) (gZ hj (fun aj hj=>?_) fun aj hj=>?_)))))
   rotate_left
   ·refine bZ aj (bZ aj (bZ aj (bZ aj (bZ aj (g9 aj (vb false) (RL.nil ?_))))))
    obtain rfl:=oi hj
    exact⟨rfl,j.sp 3 [0,1,2]⟩
   refine RL.move ah (cg aj) ?_
   obtain⟨a4,bn,hj⟩:=bd hj
   refine RL.cA (hg:=(cg aj)) 0 j fV bn fun b2 j=>(RL.bQ (hg:=(cg aj)) a4 0 j dE (RL.move (vi ag) (cg aj) (RL.kI a4 ag (cg aj) (g9 aj (vb (a4==ag)) (RL.nil ?_)))))
   obtain rfl:=oi hj
   exact⟨rfl,j.sp 4 [1,2,3]⟩
  rintro _ w ⟨O,rfl,j⟩
  refine aG ?_
  obtain⟨al,hj,hb⟩:=bd hb
  refine RC.jn (fun(al: (List Int)×Bool) U w=>∃an:Value,SH E V [(0,an),(1,ad),(2,v2),(7,ae),(8,vb al.2),(9,vb o.2.2.2.2.1),(10,vb o.2.2.2.2.2),(11,vi ag)] [rd ad o.2.1,own 3 ae o.2.2.1,rd an al.1] U w) al ?_ ?_
  ·refine eH hj (fun hc hj=>?_) fun hc hj=>?_
   rotate_left
   ·refine RC.skip ?_
    obtain rfl:=oi hj
    exact⟨rfl,ah,j.sp 3 [1,2,0]⟩
   refine RC.region (mv ah ?_)
   obtain⟨b3,bo,hj⟩:=bd hj
   refine RL.cut 0 j fV (.inr ⟨rfl,zr⟩) bo fun bc j=>(mv (vb o.2.2.2.1) (RL.not o.2.2.2.1 (aM bc (aM (vb (!o.2.2.2.1)) (RL.nil ?_)))))
   obtain rfl:=oi hj
   exact⟨rfl,bc,j.sp 4 [2,3,0]⟩
  rintro _ w ⟨an,O,rfl,j⟩
  refine aG (RC.seq (RC.seq ?_))
  obtain⟨a5,hj,hb⟩:=bd hb
  refine RC.jn (fun(a5:Bool)=>SH E V [(0,an),(1,ad),(2,v2),(7,ae),(8,vb al.2),(9,vb o.2.2.2.2.1),(10,vb o.2.2.2.2.2),(11,vi ag),(67,vb a5)] [rd an al.1,rd ad o.2.1,own 3 ae o.2.2.1]) a5 ?_ ?_
  ·refine RC.region (mv ad (RL.bF 0 o.2.1 j nC (ic ((o.2.1.length:Int)) 0 (mv (vb (decide ((o.2.1.length:Int)>0))) (gZ hj (fun ak hj=>?_) fun ak hj=>?_)))))
   rotate_left
   ·refine bZ ak (bZ ak (bZ ak (bZ ak (bZ ak (g9 ak (vb false) (RL.nil ?_))))))
    obtain rfl:=oi hj
    exact⟨rfl,j.sp 3 [2,0,1]⟩
   refine RL.move ad (cg ak) ?_
   obtain⟨a6,bp,hj⟩:=bd hj
   refine RL.cA (hg:=(cg ak)) 0 j fV bp fun b4 j=>(RL.bQ (hg:=(cg ak)) a6 0 j dE (RL.move (vi ag) (cg ak) (RL.kI a6 ag (cg ak) (g9 ak (vb (a6==ag)) (RL.nil ?_)))))
   obtain rfl:=oi hj
   exact⟨rfl,j.sp 4 [3,1,2]⟩
  rintro _ w ⟨O,rfl,j⟩
  refine aG ?_
  obtain⟨ar,hj,hb⟩:=bd hb
  refine RC.jn (fun(ar: (List Int)×Bool) U w=>∃au:Value,SH E V [(0,an),(1,au),(2,v2),(7,ae),(8,vb al.2),(9,vb ar.2),(10,vb o.2.2.2.2.2),(11,vi ag)] [rd an al.1,own 3 ae o.2.2.1,rd au ar.1] U w) ar ?_ ?_
  ·refine eH hj (fun hc hj=>?_) fun hc hj=>?_
   rotate_left
   ·refine RC.skip ?_
    obtain rfl:=oi hj
    exact⟨rfl,ad,j.sp 3 [0,2,1]⟩
   refine RC.region (mv ad ?_)
   obtain⟨b5,bq,hj⟩:=bd hj
   refine RL.cut 1 j fV (.inr ⟨rfl,zr⟩) bq fun bf j=>(mv (vb o.2.2.2.2.1) (RL.not o.2.2.2.2.1 (aM bf (aM (vb (!o.2.2.2.2.1)) (RL.nil ?_)))))
   obtain rfl:=oi hj
   exact⟨rfl,bf,j.sp 4 [1,3,0]⟩
  rintro _ w ⟨au,O,rfl,j⟩
  refine aG (RC.sr (mv v2 (mv (vb al.2) (mv (vb ar.2) ?_))))
  have j:=(j.sc Bool al.2).sc Bool ar.2
  obtain⟨aw,br,hb⟩:=bd hb
  refine RL.qG 1 0 zt j h2 5 br fun w j=>(aM (vb aw) (RL.ns (mv (vb aw) (mv (vb o.2.2.2.2.2) (RL.Ig (a:=aw) (b:=o.2.2.2.2.2) zt zr zr zr NV (RL.nt ?_))))))
  obtain⟨az,hj,hb⟩:=bd hb
  refine RC.jn (fun(az: (List Int)×Bool) U w=>∃a0:Value,SH E V [(0,an),(1,au),(2,v2),(7,a0),(8,vb al.2),(9,vb ar.2),(10,vb az.2)] [rd an al.1,rd au ar.1,own 3 a0 az.1] U w) az ?_ ?_
  ·refine eH hj (fun hc hj=>?_) fun hc hj=>?_
   rotate_left
   ·refine RC.skip ?_
    obtain rfl:=oi hj
    exact⟨rfl,ae,j.sp 5 [2,4,3]⟩
   refine RC.region (mv ae (mv (vi ag) ?_))
   have j:=j.sc Int ag
   refine RL.eF ([ag]: (List Int)) j [(vi ag)] fV H5 (fun M hs g=>⟨(g.sat 0 _ zr).1,zt⟩) fun b6 w j=>?_
   have j:=j.freeze 0
   obtain⟨b7,bt,hj⟩:=bd hj
   refine RL.app 5 0 j wL bt fun bg w j=>?_
   refine mv (vb aw) (aM bg (aM (vb aw) (RL.nil ?_)))
   obtain rfl:=oi hj
   exact⟨rfl,bg,j.sp 7 [4,6,5]⟩
  rintro _ w ⟨a0,O,rfl,j⟩
  refine bO ?_
  obtain rfl:=oi hb
  exact⟨rfl,an,au,a0,j.sp 3 [0,1,2]⟩
 ·intro r _ _ _ _
  exact r.elim
 rintro o _ w rfl ⟨av,O,rfl,j⟩
 rw [Fo.fW] at hb
 refine aG (RC.sr (mv av (aM av (RL.nt (RC.ret ?_)))))
 obtain rfl:=oi hb
 exact bU (j.pk 1 [0])
theorem yN {p0: (List aA)} {p1: (List aA)} {p2:Bool->Bool->Option Bool} {res: (List aA)} (j:Holds E w V) (h0:V[i0]? =some (rd v0 p0)) (h1:V[i1]? =some (rd v1 p1)) (h2:H0 bB E V v2 p2 (fun(r:Bool)=>Value.bool r)) (o:nA N p0 p1 p2=some res):
    Calls bB 124 [v0,v1,v2].toArray w (gr (lJ E V res)):=by
 unfold nA at o
 refine enter Tryz.func124 zr zr ?_
 have j:=(j.dup (i0+0) h0).dup (i1+1) h1
 refine RC.sr (aM (.slice none 0 0) (RL.ns (aM (.slice none 0 0) (RL.nq (RC.sr (mv v0 (RL.bF 1 p0 j nU (mv v1 ?_))))))))
 refine RL.bF 0 p1 j nU (RL.jQ (p0.length:Int) (p1.length:Int) (ic ((IntKind.wrap .i64 ((p0.length:Int)+ (p1.length:Int)))) 0 (RL.nt (eH o (fun hc o=>?_) fun hc o=>?_))))
 ·refine RC.sr (aM (.slice none 0 0) (RL.nt (RC.rt ?_)))
  obtain rfl:=oi o
  have j:=j.cW aA 153
  exact bU (j.pk 3 [0])
 refine RC.sx (aM (vi 0) (aM (vi 0) (RL.nq (RC.sr (mv v0 (mv v1 (RL.eF ([p0,p1]: (List (List aA))) j [v0,v1] G1 G2 (fun M hs g=>⟨(g.sat 1 _ zr).1,⟨(g.sat 0 _ zr).1,zt⟩⟩) fun ar w j=>(RL.eO 0 ([p0,p1]: (List (List aA))) j K1 ?_))))))))
 refine mv (vi 0) (RL.nt ?_)
 obtain⟨ad,hN,o⟩:=bd o
 refine RC.fold (fun(aj:Nat) (ad:Int×Int)=>SH E V [(0,v0),(1,v1),(2,v2),(7,(.slice none 0 0)),(8,vi ad.1),(9,vi ad.2),(25,ar),(26,(vi ((([p0,p1]: (List (List aA))).length:Nat):Int))),(27,vi aj)] [rd v0 p0,rd v1 p1,own 113 ar ([p0,p1]: (List (List aA)))]) (fun(ad:Int×Int)=>SH E V [(0,v0),(1,v1),(2,v2),(7,(.slice none 0 0)),(8,vi ad.1),(9,vi ad.2)] [rd v0 p0,rd v1 p1,own 113 ar ([p0,p1]: (List (List aA)))]) hN ?_ ?_ ?_ ?_
 ·exact j.sp 3 [2,1,0]
 ·rintro hm ad _ w ⟨O,rfl,j⟩
  refine RC.sr (ic (((([p0,p1]: (List (List aA))).length:Nat):Int)) (((([p0,p1]: (List (List aA))).length:Nat):Int)) (RL.nq (RC.cP mz (RC.ex ?_))))
  exact⟨rfl,j.sp 3 [0,1,2]⟩
 ·rintro hm aj ad s' _ w hk ⟨O,rfl,j⟩ o
  refine RC.sr (ic ((aj:Int)) (((([p0,p1]: (List (List aA))).length:Nat):Int)) (RL.nq (RC.cO (my hk) (RC.ss (RC.bs (mv (vi aj) ?_))))))
  obtain⟨aw,a8,o⟩:=bd o
  refine RL.bY 2 j zr zr G1 a8 (RL.kh (f:=(fun x=>x)) 2 j (kC 2 j a8 0) (bG a8).2.1 Fd.self Jm fun ak j=>?_)
  refine aM (vi aj) (aM ak (RL.ns (mv ak (RL.bF 0 aw j nU (ic ((aw.length:Int)) 0 (RL.nt ?_))))))
  obtain⟨a5,hj,o⟩:=bd o
  refine RC.jn (fun(a5:Int×Int)=>SH E V [(0,v0),(1,v1),(2,v2),(7,(.slice none 0 0)),(8,vi a5.1),(9,vi a5.2),(25,ar),(26,(vi ((([p0,p1]: (List (List aA))).length:Nat):Int))),(27,vi aj)] [rd v0 p0,rd v1 p1,own 113 ar ([p0,p1]: (List (List aA)))]) a5 ?_ ?_
  ·refine eH hj (fun hc hj=>?_) fun hc hj=>?_
   rotate_left
   ·refine RC.skip ?_
    obtain rfl:=oi hj
    exact⟨rfl,j.sp 4 [1,2,3]⟩
   refine RC.seq (RC.seq ?_)
   obtain⟨a9,hjj,hj⟩:=bd hj
   refine RC.jn (fun(a9:Bool)=>SH E V [(0,v0),(1,v1),(2,v2),(7,(.slice none 0 0)),(8,vi ad.1),(9,vi ad.2),(11,ak),(25,ar),(26,(vi ((([p0,p1]: (List (List aA))).length:Nat):Int))),(27,vi aj),(41,vb a9)] [rd v0 p0,rd v1 p1,rd ak aw,own 113 ar ([p0,p1]: (List (List aA)))]) a9 ?_ ?_
   ·refine RC.region (mv (vi aj) (ic ((aj:Int)) 0 (mv (vb ((aj:Int)==0)) (gZ hjj (fun au hjj=>?_) fun au hjj=>?_))))
    ·refine bZ au (bZ au (bZ au (g9 au (vb true) (RL.nil ?_))))
     obtain rfl:=oi hjj
     exact⟨rfl,j.sp 4 [1,2,0,3]⟩
    refine RL.move v0 (cg au) (RL.bF (hg:=(cg au)) 1 p0 j nU (RL.kI (p0.length:Int) 0 (cg au) (g9 au (vb ((p0.length:Int)==0)) (RL.nil ?_))))
    obtain rfl:=oi hjj
    exact⟨rfl,j.sp 4 [1,2,0,3]⟩
   rintro _ w ⟨O,rfl,j⟩
   refine aG ?_
   obtain⟨al,hjj,hj⟩:=bd hj
   refine RC.jn (fun(al:Int×Int)=>SH E V [(0,v0),(1,v1),(2,v2),(7,(.slice none 0 0)),(8,vi al.1),(9,vi al.2),(11,ak),(25,ar),(26,(vi ((([p0,p1]: (List (List aA))).length:Nat):Int))),(27,vi aj)] [rd v0 p0,rd v1 p1,rd ak aw,own 113 ar ([p0,p1]: (List (List aA)))]) al ?_ ?_
   ·refine eH hjj (fun hc hjj=>?_) fun hc hjj=>?_
    rotate_left
    ·refine RC.skip ?_
     obtain rfl:=oi hjj
     exact⟨rfl,j.sp 4 [0,1,2,3]⟩
    refine RC.zA mixed ?_
    have j:=j.drew
    refine RO.go (mv ak (RO.nx ?_))
    obtain⟨bj,bw,hjj⟩:=bd hjj
    refine RL.cA 2 j ky bw fun cd j=>(RO.nx (RL.fB 0 j zr n8 fT fun cf j=>(RO.nx (RL.bQ bj.Y0 0 j dE (RO.nx (mv ak (RO.nx (mv ak ?_))))))))
    refine RO.nx (RL.bF 4 aw j nU (RO.nx (RL.jQ (aw.length:Int) 1 (RO.nx ?_))))
    obtain⟨bk,bx,hjj⟩:=bd hjj
    refine RL.cA 4 j ky bx fun ch j=>(RO.nx (RL.fB 0 j zr mc eK fun cj j=>(RO.nx (RL.bQ bk.Y1 0 j dE (RO.nx (aM (vi bj.Y0) (RO.nx (aM (vi bk.Y1) ?_))))))))
    refine RO.last ?_
    obtain rfl:=oi hjj
    exact⟨rfl,j.sp 8 [4,5,6,7]⟩
   rintro _ w ⟨O,rfl,j⟩
   refine aG (RC.zA mixed ?_)
   have j:=j.drew
   refine RO.go (mv (vi al.1) (RO.nx (mv ak (RO.nx ?_))))
   obtain⟨a6,bz,hj⟩:=bd hj
   refine RL.cA 2 j ky bz fun ck j=>(RO.nx (RL.fB 0 j zr n8 fT fun cl j=>(RO.nx (RL.bQ a6.Y0 0 j dE (RO.nx (RL.min al.1 a6.Y0 (RO.nx (mv (vi al.2) ?_))))))))
   refine RO.nx (mv ak (RO.nx (mv ak (RO.nx (RL.bF 4 aw j nU (RO.nx (RL.jQ (aw.length:Int) 1 (RO.nx ?_))))))))
   obtain⟨a7,b0,hj⟩:=bd hj
   refine RL.cA 4 j ky b0 fun cm j=>(RO.nx (RL.fB 0 j zr mc eK fun cn j=>(RO.nx (RL.bQ a7.Y1 0 j dE (RO.nx (RL.max al.2 a7.Y1 (RO.nx (aM (vi (if a6.Y0<al.1 then a6.Y0 else al.1)) ?_))))))))
   refine RO.nx (aM (vi (if al.2<a7.Y1 then a7.Y1 else al.2)) (RO.last ?_))
   obtain rfl:=oi hj
   exact⟨rfl,j.sp 8 [4,5,7]⟩
  rintro _ w ⟨O,rfl,j⟩
  refine bO (aG (RC.region (RL.inc hk hm (mv (vi ((aj+1:Nat):Int)) (RL.nil ?_)))))
  obtain rfl:=oi o
  exact⟨rfl,j.sp 3 [0,1,2]⟩
 rintro _ w ⟨O,rfl,j⟩
 refine aG (RC.seq ?_)
 obtain⟨cp,hN,o⟩:=bd o
 refine RC.iter (fun(aa: (List aA)×(List aA)×(List aA)×Int) U w=>∃bl bm bn:Value,SH E V [(0,bl),(1,bm),(2,v2),(7,bn),(8,vi aa.2.2.2),(9,vi ad.2)] [rd bl aa.1,rd bm aa.2.1,own 153 bn aa.2.2.1] U w) (fun(aa: (List aA)×(List aA)×(List aA)×Int) U w=>∃a2:Value,SH E V [(7,a2)] [own 153 a2 aa.2.2.1] U w) (fun(r:Empty) _ _=>r.elim) hN ?_ ?_ ?_ ?_
 ·have j:=j.cW aA 153
  exact⟨v0,v1,(.slice none 0 0),j.sp 4 [1,2,0]⟩
 ·rintro aa fl _ w ⟨b1,ay,ag,O,rfl,j⟩ o
  refine RC.seq (RC.sr (mv (vi aa.2.2.2) (mv (vi ad.2) (ic aa.2.2.2 ad.2 (RL.nt (eH o (fun hc o=>?_) fun hc o=>?_))))))
  rotate_left
  ·refine RC.ex ?_
   obtain rfl:=oi o
   exact⟨rfl,ag,j.sp 3 [2]⟩
  refine RC.sn (RC.block (RC.seq ?_))
  obtain⟨cq,hN,o⟩:=bd o
  refine RC.iter (fun(an: (List aA)) U w=>∃bp:Value,SH E V [(0,bp),(1,ay),(2,v2),(7,ag),(8,vi aa.2.2.2),(9,vi ad.2)] [rd ay aa.2.1,own 153 ag aa.2.2.1,rd bp an] U w) (fun(an: (List aA)) U w=>∃ao:Value,SH E V [(0,ao),(1,ay),(2,v2),(7,ag),(8,vi aa.2.2.2),(9,vi ad.2)] [rd ay aa.2.1,own 153 ag aa.2.2.1,rd ao an] U w) (fun(r:Empty) _ _=>r.elim) hN ?_ ?_ ?_ ?_
  ·exact⟨b1,j.sp 3 [1,2,0]⟩
  ·rintro an fl _ w ⟨az,O,rfl,j⟩ o
   refine RC.seq (RC.seq ?_)
   obtain⟨ba,hj,o⟩:=bd o
   refine RC.jn (fun(ba:Bool)=>SH E V [(0,az),(1,ay),(2,v2),(7,ag),(8,vi aa.2.2.2),(9,vi ad.2),(82,vb ba)] [rd az an,rd ay aa.2.1,own 153 ag aa.2.2.1]) ba ?_ ?_
   ·refine RC.region (mv az (RL.bF 2 an j nU (ic ((an.length:Int)) 0 (mv (vb (decide ((an.length:Int)>0))) (gZ hj (fun ah hj=>?_) fun ah hj=>?_)))))
    rotate_left
    ·refine bZ ah (bZ ah (bZ ah (bZ ah (bZ ah (bZ ah (g9 ah (vb false) (RL.nil ?_)))))))
     obtain rfl:=oi hj
     exact⟨rfl,j.sp 3 [2,0,1]⟩
    refine RL.move az (cg ah) ?_
    obtain⟨bb,b2,hj⟩:=bd hj
    refine RL.cA (hg:=(cg ah)) 2 j ky b2 fun cr j=>(RL.fB (hg:=(cg ah)) 0 j zr mc eK fun ct j=>(RL.bQ (hg:=(cg ah)) bb.Y1 0 j dE (RL.move (vi aa.2.2.2) (cg ah) (RL.kI bb.Y1 aa.2.2.2 (cg ah) (g9 ah (vb (decide (bb.Y1<=aa.2.2.2))) (RL.nil ?_))))))
    obtain rfl:=oi hj
    exact⟨rfl,j.sp 5 [4,2,3]⟩
   rintro _ w ⟨O,rfl,j⟩
   refine aG (eH o (fun hc o=>?_) fun hc o=>?_)
   rotate_left
   ·refine RC.ex ?_
    obtain rfl:=oi o
    exact⟨rfl,az,j.sp 3 [1,2,0]⟩
   refine RC.sn (RC.block (RC.region (mv az ?_)))
   obtain⟨cu,b3,o⟩:=bd o
   refine RL.cut 0 j ky (.inr ⟨rfl,zr⟩) b3 fun bq j=>(aM bq (RL.nil (bO ?_)))
   obtain rfl:=oi o
   exact⟨rfl,bq,j.sp 4 [2,3,0]⟩
  ·intro r _ _ _ _
   exact r.elim
  rintro an _ w rfl ⟨ao,O,rfl,j⟩
  rw [Fo.fW] at o
  refine aG (RC.seq ?_)
  obtain⟨cv,hN,o⟩:=bd o
  refine RC.iter (fun(av: (List aA)) U w=>∃br:Value,SH E V [(0,ao),(1,br),(2,v2),(7,ag),(8,vi aa.2.2.2),(9,vi ad.2)] [rd ao an,own 153 ag aa.2.2.1,rd br av] U w) (fun(av: (List aA)) U w=>∃a0:Value,SH E V [(0,ao),(1,a0),(2,v2),(7,ag),(8,vi aa.2.2.2),(9,vi ad.2)] [rd ao an,own 153 ag aa.2.2.1,rd a0 av] U w) (fun(r:Empty) _ _=>r.elim) hN ?_ ?_ ?_ ?_
  ·exact⟨ay,j.sp 3 [2,1,0]⟩
  ·rintro av fl _ w ⟨a1,O,rfl,j⟩ o
   refine RC.seq (RC.seq ?_)
   obtain⟨bc,hj,o⟩:=bd o
   refine RC.jn (fun(bc:Bool)=>SH E V [(0,ao),(1,a1),(2,v2),(7,ag),(8,vi aa.2.2.2),(9,vi ad.2),(95,vb bc)] [rd ao an,rd a1 av,own 153 ag aa.2.2.1]) bc ?_ ?_
   ·refine RC.region (mv a1 (RL.bF 2 av j nU (ic ((av.length:Int)) 0 (mv (vb (decide ((av.length:Int)>0))) (gZ hj (fun ai hj=>?_) fun ai hj=>?_)))))
    rotate_left
    ·refine bZ ai (bZ ai (bZ ai (bZ ai (bZ ai (bZ ai (g9 ai (vb false) (RL.nil ?_)))))))
     obtain rfl:=oi hj
     exact⟨rfl,j.sp 3 [0,2,1]⟩
    refine RL.move a1 (cg ai) ?_
    obtain⟨bf,b4,hj⟩:=bd hj
    refine RL.cA (hg:=(cg ai)) 2 j ky b4 fun cw j=>(RL.fB (hg:=(cg ai)) 0 j zr mc eK fun cx j=>(RL.bQ (hg:=(cg ai)) bf.Y1 0 j dE (RL.move (vi aa.2.2.2) (cg ai) (RL.kI bf.Y1 aa.2.2.2 (cg ai) (g9 ai (vb (decide (bf.Y1<=aa.2.2.2))) (RL.nil ?_))))))
    obtain rfl:=oi hj
    exact⟨rfl,j.sp 5 [2,4,3]⟩
   rintro _ w ⟨O,rfl,j⟩
   refine aG (eH o (fun hc o=>?_) fun hc o=>?_)
   rotate_left
   ·refine RC.ex ?_
    obtain rfl:=oi o
    exact⟨rfl,a1,j.sp 3 [0,2,1]⟩
   refine RC.sn (RC.block (RC.region (mv a1 ?_)))
   obtain⟨cy,b5,o⟩:=bd o
   refine RL.cut 1 j ky (.inr ⟨rfl,zr⟩) b5 fun bt j=>(aM bt (RL.nil (bO ?_)))
   obtain rfl:=oi o
   exact⟨rfl,bt,j.sp 4 [1,3,0]⟩
  ·intro r _ _ _ _
   exact r.elim
  rintro av _ w rfl ⟨a0,O,rfl,j⟩
  rw [Fo.fW] at o
  refine aG (RC.sr (mv ao (mv (vi aa.2.2.2) (mv (vi ad.2) ?_))))
  obtain⟨ae,b6,o⟩:=bd o
  refine RL.call zt zr Jn [ao,(vi aa.2.2.2),(vi ad.2)] zr (aF (rC N (p1:=aa.2.2.2) (p2:=ad.2) (i0:=0) j zr b6) ?_)
  rintro _ w ⟨a3,rfl,j⟩
  refine mv (.tuple #[a3,(vi ae.2)]) (RL.extract a3 (RL.extract (vi ae.2) (aM a3 (aM (vi ae.2) (RL.ns (mv a0 (mv (vi aa.2.2.2) (mv (vi ad.2) ?_))))))))
  obtain⟨af,b7,o⟩:=bd o
  refine RL.call zt zr Jn [a0,(vi aa.2.2.2),(vi ad.2)] zr (aF (rC N (p1:=aa.2.2.2) (p2:=ad.2) (i0:=3) j zr b7) ?_)
  rintro _ w ⟨a4,rfl,j⟩
  refine mv (.tuple #[a4,(vi af.2)]) (RL.extract a4 (RL.extract (vi af.2) (aM a4 (aM (vi af.2) (RL.ns (mv (vi ae.2) (mv (vi af.2) (RL.min ae.2 af.2 ?_))))))))
  refine aM (vi (if af.2<ae.2 then af.2 else ae.2)) (RL.ns (mv ag (mv (vi aa.2.2.2) (mv (vi (if af.2<ae.2 then af.2 else ae.2)) (mv a3 (mv a4 (mv v2 ?_)))))))
  obtain⟨b8,b9,o⟩:=bd o
  refine RL.call zt zr K2 [a3,a4,v2] zr (aF (zP N (i0:=1) (i1:=0) j zr zr (h2.lift 5 zr) b9) ?_)
  rintro ca w j
  have j:=((j.sc Int aa.2.2.2).sc Int (if af.2<ae.2 then af.2 else ae.2)).freeze 2
  refine RL.build (⟨aa.2.2.2,(if af.2<ae.2 then af.2 else ae.2),b8⟩:aA) trivial rfl j [(0,vi aa.2.2.2),(1,(vi (if af.2<ae.2 then af.2 else ae.2))),(2,ca)] rfl Jk rfl (fun M hs g=>by have h:=vB M;exact cZ.cons (f:=fun(x:aA) y=>{x with Y0:=y}) h rz (g.sat 1 _ rfl).1 fun _ h=>cZ.cons (f:=fun(x:aA) y=>{x with Y1:=y}) h nO (g.sat 0 _ rfl).1 fun _ h=>cZ.cons (f:=fun(x:aA) y=>{x with Xs:=y}) h rA (g.sat 2 _ rfl).1 fun _ h=>cZ.nil h) fun cb j=>?_
  have j:=j.pull 7
  obtain⟨cz,cc,o⟩:=bd o
  refine RL.call zt zr KU [ag,cb] zr (aF (pq N (i1:=0) j zr cc) ?_)
  rintro bu w j
  refine aM bu (RL.nt (RC.region (mv (vi (if af.2<ae.2 then af.2 else ae.2)) (aM (vi (if af.2<ae.2 then af.2 else ae.2)) (RL.nil (bO ?_))))))
  obtain rfl:=oi o
  exact⟨rfl,ao,a0,bu,j.sp 10 [7,9,0]⟩
 ·intro r _ _ _ _
  exact r.elim
 rintro aa _ w rfl ⟨a2,O,rfl,j⟩
 rw [Fo.fW] at o
 refine aG (RC.sr (mv a2 (aM a2 (RL.nt (RC.ret ?_)))))
 obtain rfl:=oi o
 exact bU (j.pk 1 [0])
theorem sR {p0 p1 res:Bool} (o:Holds E w V) (j:mC N p0 p1=some res):
    Calls bB 125 [(vb p0),(vb p1)].toArray w (gr (bA E V res)):=by
 unfold mC at j
 refine enter Tryz.func125 rfl rfl (RC.sr (aM (vb false) (RL.ns (mv (vb p0) (mv (vb p0) (RL.gs true p0 (vb p1) rfl rfl rfl dQ (RL.gs true p0 (vb (!p1)) rfl rfl rfl (Jz (b:=p1) rfl (fun h=>by exact(dI h:cv (true&&(p0==true)) (vb p1)= (vb p1)))) (RL.pick p0 (vb (p0&&(!p1))) (kg true) ?_))))))))
 refine aM (vb (p0&&(!p1))) (RL.nt (RC.ret ?_))
 obtain rfl:=oi j
 exact bU ⟨rfl,o.drop 0⟩
theorem vP {p0: (List aA)} {p1: (List aA)} {res: (List aA)} (o:Holds E w V) (h0:V[i0]? =some (rd v0 p0)) (h1:V[i1]? =some (rd v1 p1)) (hb:jW N p0 p1=some res):
    Calls bB 94 [v0,v1].toArray w (gr (lJ E V res)):=by
 unfold jW at hb
 refine enter Tryz.func94 zr zr ?_
 have o:=(o.dup (i0+0) h0).dup (i1+1) h1
 refine RC.sr (aM (.slice none 0 0) (RL.ns (mv v0 (mv v1 ?_))))
 obtain⟨af,ab,hb⟩:=bd hb
 refine RL.call trivial rfl K4 [v0,v1,(.func (.func 125) #[] #[])] rfl (aF (yN N (i0:=1) (i1:=0) o rfl rfl ⟨125,[],rfl,K3,fun w Γl v v' y0 y1 r i j o hi hj hr=>by obtain rfl:=o.xG (γ:=Bool) hi;obtain rfl:=o.xG (γ:=Bool) hj;exact aF (sR N (p0:=y0) (p1:=y1) o hr) fun _ _ h=>h⟩ ab) ?_)
 rintro ae w o
 refine aM ae (RL.nt (RC.ret ?_))
 obtain rfl:=oi hb
 exact bU (o.pk 3 [0])
theorem vQ {p0: (List aA)} (j:Holds E w V) (h0:V[i0]? =some (rd v0 p0)) (hb:k7 N p0=some res):
    Calls bB 95 [v0].toArray w (gr (aH E V res)):=by
 unfold k7 at hb
 refine enter Tryz.func95 zr zr ?_
 have j:=j.dup (i0+0) h0
 refine RC.sr (aM (vi 0) (RL.ns (aM (vi 0) (RL.nq (RC.sr (mv v0 (RL.bF 0 p0 j nU (mv (vi 0) ?_))))))))
 refine RL.nt ?_
 obtain⟨o,hN,hb⟩:=bd hb
 refine RC.fold (fun(ad:Nat) (o:Int)=>SH E V [(3,vi o),(6,v0),(7,vi p0.length),(8,vi ad)] [rd v0 p0]) (fun(o:Int)=>SH E V [(3,vi o)] [rd v0 p0]) hN ?_ ?_ ?_ ?_
 ·exact j.sp 1 [0]
 ·rintro hm o _ w ⟨O,rfl,j⟩
  refine RC.sr (ic ((p0.length:Int)) ((p0.length:Int)) (RL.nq (RC.cP mz (RC.ex ?_))))
  exact⟨rfl,j.sp 1 [0]⟩
 ·rintro hm ad o s' _ w hk ⟨O,rfl,j⟩ hb
  refine RC.sr (ic ((ad:Int)) ((p0.length:Int)) (RL.nq (RC.cO (my hk) (RC.ss (RC.bs ?_)))))
  obtain⟨ab,ah,hb⟩:=bd hb
  refine RL.cA 0 j ky ah fun ai j=>(RL.bC 0 ab j vF fun aj j=>(RL.alloc j Cp.z fun ak w j=>?_))
  refine RL.bD 0 j 1 zr vF fun w j=>?_
  refine RL.nt (RC.region (mv (vi o) (RL.bH zr kO (RL.aN 0 j zr dF fU fun al j=>(RL.bF 0 ab.Xs j nC (RL.quo (ab.Xs.length:Int) 2 zr zr zr zr (RL.jQ o (IntKind.wrap .i64 (Int.tdiv (ab.Xs.length:Int) 2)) (aM (vi (IntKind.wrap .i64 (o+ (IntKind.wrap .i64 (Int.tdiv (ab.Xs.length:Int) 2))))) ?_))))))))
  refine RL.nil (bO (aG (RC.region (RL.inc hk hm (mv (vi ((ad+1:Nat):Int)) (RL.nil ?_))))))
  obtain rfl:=oi hb
  exact⟨rfl,j.sp 5 [4]⟩
 rintro _ w ⟨O,rfl,j⟩
 refine aG (RC.sr (mv (vi o) (aM (vi o) (RL.nt (RC.ret ?_)))))
 obtain rfl:=oi hb
 exact bU ⟨rfl,j.drop 1⟩
def sS (E:World) (V:List HP) (b1:Nat) (res:Int×(List Int)) (v:Value) (w:World):Prop:=∃u1_0:Value,v= (vi res.1)/\Holds E w ([bc 68 b1 [u1_0],own 3 u1_0 res.2]++V)
theorem kM {p1_0: (List Int)} {res:Int×(List Int)} (j:Holds E w (bc 68 b1 [v1_0]::own 3 v1_0 p1_0::V)) (o:eG N p0 p1_0=some res):
    Calls bB 126 [(vi p0),(vp b1 0)].toArray w (gr (sS E V b1 res)):=by
 unfold eG at o
 refine enter Tryz.func126 zr zr (RC.sr (aM (vi 0) (RL.nq ?_)))
 obtain⟨an,hN,o⟩:=bd o
 refine RC.iter (fun(aa:Int×(List Int))=>SH E V [(0,vi aa.1),(1,vp b1 0)] [bc 68 b1 [v1_0],own 3 v1_0 aa.2]) (fun(aa:Int×(List Int))=>SH E V [(0,vi aa.1),(1,vp b1 0)] [bc 68 b1 [v1_0],own 3 v1_0 aa.2]) (fun(r:Empty) _ _=>r.elim) hN ?_ ?_ ?_ ?_
 ·exact j.sp 2 [0,1]
 ·rintro aa fl _ w ⟨O,rfl,j⟩ o
  refine RC.seq (RC.sr (RL.bV 0 v1_0 j fU (mv (vi aa.1) ?_)))
  obtain⟨ai,ab,o⟩:=bd o
  refine RL.bY 1 j zr zr fV ab (RL.dX (f:=(fun x=>x)) 1 j (kC 1 j ab 0) (bG ab).2.1 Fd.self dE (mv (vi aa.1) (ic ai aa.1 (RL.nt (eH o (fun hc o=>?_) fun hc o=>?_)))))
  rotate_left
  ·refine RC.ex ?_
   obtain rfl:=oi o
   exact⟨rfl,j.sp 2 [0,1]⟩
  refine RC.sn (RC.block (RC.seq (RC.Cg mixed [0,0,0,0,0,0,0,0,0,0,2] [0,1,2,3,4,5,6,7,8,9,10] ?_)))
  have j:=j.drew
  refine DP.e0 zr (RL.bV 0 v1_0 j fU (dA zr (mv (vi aa.1) (dA zr (RL.bV 0 v1_0 j fU (dA zr (RL.bV 0 v1_0 j fU (dA zr ?_))))))))
  refine mv (vi aa.1) (dA zr ?_)
  obtain⟨aq,ad,o⟩:=bd o
  refine RL.bY 1 j zr zr fV ad (dA zr (RL.dX (f:=(fun x=>x)) 1 j (kC 1 j ad 0) (bG ad).2.1 Fd.self dE (dA zr ?_)))
  obtain⟨ak,ae,o⟩:=bd o
  refine RL.bY 1 j zr zr fV ae (dA zr (RL.dX (f:=(fun x=>x)) 1 j (kC 1 j ae 0) (bG ae).2.1 Fd.self dE (dA zr ?_)))
  obtain⟨ar,af,o⟩:=bd o
  refine RL.bY 1 j zr zr fV af (xt zr ?_)
  have j:=j.sc Int ak
  refine RL.iH (f:=(fun _ y=>y)) 2 0 j (kC 2 j af 0) (bG af).2.1 zr Fs.self dE fun w j=>?_
  refine DP.d2 zt (DP.z (aG (RC.region (RL.bV 1 v1_0 j fU (mv (vi aa.1) ?_)))))
  obtain⟨al,ag,o⟩:=bd o
  refine RL.bY 2 j zr zr fV ag (RL.dX (f:=(fun x=>x)) 2 j (kC 2 j ag 0) (bG ag).2.1 Fd.self dE (aM (vi al) (RL.nil (bO ?_))))
  obtain rfl:=oi o
  exact⟨rfl,j.sp 3 [1,2]⟩
 ·intro r _ _ _ _
  exact r.elim
 rintro aa _ w rfl ⟨O,rfl,j⟩
 rw [Fo.fW] at o
 refine aG (RC.sr (mv (vi aa.1) (aM (vi aa.1) (RL.nt (RC.ret ?_)))))
 obtain rfl:=oi o
 exact bU ⟨v1_0,zr,j.pk 2 [0,1]⟩
def vR (E:World) (V:List HP) (res: (List (List aA))) (v:Value) (w:World):Prop:=Holds E w ([own 113 v res]++V)
theorem uR {p0: (List aA)} {res: (List (List aA))} (o:Holds E w V) (h0:V[i0]? =some (rd v0 p0)) (hb:ku N p0=some res):
    Calls bB 96 [v0].toArray w (gr (vR E V res)):=by
 unfold ku at hb
 refine enter Tryz.func96 zr zr ?_
 have o:=o.dup (i0+0) h0
 refine RC.sr (aM (.slice none 0 0) (RL.ns (mv v0 ?_)))
 obtain⟨aq,c7,hb⟩:=bd hb
 refine RL.call zt zr JV [v0] zr (aF (mh N (i0:=0) o zr c7) ?_)
 rintro ah w o
 refine aM ah (RL.ns (mv ah (RL.eO 0 aq o sB ?_)))
 obtain⟨bn,c8,hb⟩:=bd hb
 refine RL.mk (aq.length:Int) zr o zr zr wL KQ c8 fun ba w o=>?_
 refine RL.vl zr o KP zr fun ag w o=>?_
 refine RL.jS 0 ba o zr zr (ki 1 o) fU fun w o=>?_
 refine RL.nq (RC.sr (RL.bV 0 ba o fU (RL.eO 1 bn o nC (mv (vi 0) (RL.nt ?_)))))
 obtain⟨bk,hN,hb⟩:=bd hb
 refine RC.fold (fun(a8:Nat) (bk: (List Int))=>SH E V [(0,v0),(3,ah),(4,vp ag 0),(32,vi bn.length),(33,vi a8)] [rd v0 p0,own 83 ah aq,bc 68 ag [ba],own 3 ba bk]) (fun(bk: (List Int))=>SH E V [(0,v0),(3,ah),(4,vp ag 0)] [rd v0 p0,own 83 ah aq,bc 68 ag [ba],own 3 ba bk]) hN ?_ ?_ ?_ ?_
 ·exact o.sp 4 [3,2,0,1]
 ·rintro hm bk _ w ⟨O,rfl,o⟩
  refine RC.sr (ic ((bn.length:Int)) ((bn.length:Int)) (RL.nq (RC.cP mz (RC.ex ?_))))
  exact⟨rfl,o.sp 4 [0,1,2,3]⟩
 ·rintro hm a8 bk s' _ w hk ⟨O,rfl,o⟩ hb
  refine RC.sr (ic ((a8:Int)) ((bn.length:Int)) (RL.nq (RC.cO (my hk) (RC.ss (RC.bs (mv (vi a8) (aM (vi a8) (RL.nt ?_))))))))
  refine RC.region (RL.bV 2 ba o fU (mv (vi a8) (mv (vi a8) ?_)))
  obtain⟨du,cb,hb⟩:=bd hb
  refine RL.bY 3 o zr zr fV cb ?_
  have o:=o.sc Int (a8:Int)
  refine RL.iH (f:=(fun _ y=>y)) 4 0 o (kC 4 o cb 0) (bG cb).2.1 zr Fs.self dE fun w o=>?_
  refine RL.nil (bO (aG (RC.region (RL.inc hk hm (mv (vi ((a8+1:Nat):Int)) (RL.nil ?_))))))
  obtain rfl:=oi hb
  exact⟨rfl,o.sp 5 [1,2,3,4]⟩
 rintro _ w ⟨O,rfl,o⟩
 refine aG (RC.sr (RL.makeFunc [(vp ag 0)] (aM (.func (.func 126) #[] #[(vp ag 0)]) (RL.ns (aM (vi 0) (aM (vi 0) (RL.nq (RC.sr ?_))))))))
 refine mv v0 (RL.bF 0 p0 o nU (mv (vi 0) (RL.nt ?_)))
 obtain⟨ad,hN,hb⟩:=bd hb
 refine RC.fold (fun(ay:Nat) (ad: (List Int)×Int×Int) U w=>∃ct:Value,SH E V [(0,v0),(3,ah),(4,vp ag 0),(6,(.func (.func 126) #[] #[(vp ag 0)])),(7,vi ad.2.1),(8,vi ad.2.2),(42,v0),(43,vi p0.length),(44,vi ay)] [rd v0 p0,own 83 ah aq,bc 68 ag [ct],own 3 ct ad.1] U w) (fun(ad: (List Int)×Int×Int) U w=>∃br:Value,SH E V [(3,ah),(6,(.func (.func 126) #[] #[(vp ag 0)]))] [rd v0 p0,own 83 ah aq,bc 68 ag [br],own 3 br ad.1] U w) hN ?_ ?_ ?_ ?_
 ·exact⟨ba,o.sp 4 [0,1,2,3]⟩
 ·rintro hm ad _ w ⟨c9,O,rfl,o⟩
  refine RC.sr (ic ((p0.length:Int)) ((p0.length:Int)) (RL.nq (RC.cP mz (RC.ex ?_))))
  exact⟨rfl,c9,o.sp 4 [0,1,2,3]⟩
 ·rintro hm ay ad s' _ w hk ⟨bt,O,rfl,o⟩ hb
  refine RC.sr (ic ((ay:Int)) ((p0.length:Int)) (RL.nq (RC.cO (my hk) (RC.ss (RC.bs (mv (vi ay) ?_))))))
  obtain⟨an,da,hb⟩:=bd hb
  refine RL.cA 0 o ky da fun dv o=>(RL.bC 0 an o vF fun dw o=>(RL.alloc o Cp.z fun dx w o=>?_))
  refine aM (vi ay) (RL.bD 0 o 1 zr vF fun w o=>?_)
  refine RL.ns (RL.bH zr kO (RL.aN 0 o zr dF fU fun dy o=>(RL.bF 0 an.Xs o nC (RL.quo (an.Xs.length:Int) 2 zr zr zr zr (aM (vi (IntKind.wrap .i64 (Int.tdiv (an.Xs.length:Int) 2))) (RL.nq (RC.seq ?_)))))))
  obtain⟨cc,hj,hb⟩:=bd hb
  refine RC.jn (fun(cc:Bool)=>SH E V [(0,v0),(3,ah),(4,vp ag 0),(6,(.func (.func 126) #[] #[(vp ag 0)])),(7,vi ad.2.1),(8,vi ad.2.2),(11,(vi (IntKind.wrap .i64 (Int.tdiv (an.Xs.length:Int) 2)))),(42,v0),(43,vi p0.length),(44,vi ay),(65,vb cc)] [rd v0 p0,own 83 ah aq,bc 68 ag [bt],own 3 bt ad.1]) cc ?_ ?_
  ·refine RC.zA mixed ?_
   have o:=o.drew
   refine RO.go (mv (vi ay) (RO.nx (ic ((ay:Int)) 0 (RO.nx (mv (vb (decide ((ay:Int)>0))) (gZ hj (fun aw hj=>?_) fun aw hj=>?_))))))
   rotate_left
   ·refine RO.nx (bZ aw (RO.nx (bZ aw (RO.nx (bZ aw (RO.nx (bZ aw (RO.nx ?_))))))))
    refine bZ aw (RO.nx (bZ aw (RO.nx (bZ aw (RO.nx (bZ aw (RO.nx (bZ aw ?_))))))))
    refine RO.nx (g9 aw (vb false) (RO.last ?_))
    obtain rfl:=oi hj
    exact⟨rfl,o.sp 8 [4,5,6,7]⟩
   refine RO.nx (RL.move v0 (cg aw) (RO.nx (RL.move (vi ay) (cg aw) (RO.nx (RL.jQ (hg:=(cg aw)) (ay:Int) 1 (RO.nx ?_))))))
   obtain⟨cd,db,hj⟩:=bd hj
   refine RL.cA (hg:=(cg aw)) 4 o ky db fun dz o=>(RO.nx (RL.fB (hg:=(cg aw)) 0 o zr mc eK fun d0 o=>(RO.nx (RL.bQ (hg:=(cg aw)) cd.Y1 0 o dE (RO.nx (RL.bH (hg:=(cg aw)) zr n8 (RO.nx (RL.aP (hg:=(cg aw)) 3 o zr fT dE ?_))))))))
   refine RO.nx (RL.kI cd.Y1 an.Y0 (cg aw) (RO.nx (g9 aw (vb (cd.Y1==an.Y0)) (RO.last ?_))))
   obtain rfl:=oi hj
   exact⟨rfl,o.sp 10 [6,7,8,9]⟩
  rintro _ w ⟨O,rfl,o⟩
  refine aG ?_
  obtain⟨cf,hj,hb⟩:=bd hb
  refine RC.jn (fun(cf: (List Int)) U w=>∃bu:Value,SH E V [(0,v0),(3,ah),(4,vp ag 0),(6,(.func (.func 126) #[] #[(vp ag 0)])),(7,vi ad.2.1),(11,(vi (IntKind.wrap .i64 (Int.tdiv (an.Xs.length:Int) 2)))),(42,v0),(43,vi p0.length),(44,vi ay)] [rd v0 p0,own 83 ah aq,bc 68 ag [bu],own 3 bu cf] U w) cf ?_ ?_
  ·refine eH hj (fun hc hj=>?_) fun hc hj=>?_
   rotate_left
   ·refine RC.skip ?_
    obtain rfl:=oi hj
    exact⟨rfl,bt,o.sp 4 [0,1,2,3]⟩
   refine RC.sr (mv (vi ad.2.2) (mv (vi ad.2.1) (aM (vi ad.2.2) (aM (vi ad.2.1) (RL.nt ?_)))))
   obtain⟨d3,hN,hj⟩:=bd hj
   refine RC.iter (fun(ae: (List Int)×Int×Int) U w=>∃cu:Value,SH E V [(0,v0),(3,ah),(4,vp ag 0),(6,(.func (.func 126) #[] #[(vp ag 0)])),(7,vi ad.2.1),(11,(vi (IntKind.wrap .i64 (Int.tdiv (an.Xs.length:Int) 2)))),(12,vi ae.2.1),(13,vi ae.2.2),(42,v0),(43,vi p0.length),(44,vi ay)] [rd v0 p0,own 83 ah aq,bc 68 ag [cu],own 3 cu ae.1] U w) (fun(ae: (List Int)×Int×Int) U w=>∃bw:Value,SH E V [(0,v0),(3,ah),(4,vp ag 0),(6,(.func (.func 126) #[] #[(vp ag 0)])),(7,vi ad.2.1),(11,(vi (IntKind.wrap .i64 (Int.tdiv (an.Xs.length:Int) 2)))),(42,v0),(43,vi p0.length),(44,vi ay)] [rd v0 p0,own 83 ah aq,bc 68 ag [bw],own 3 bw ae.1] U w) (fun(r:Empty) _ _=>r.elim) hN ?_ ?_ ?_ ?_
   ·exact⟨bt,o.sp 4 [0,1,2,3]⟩
   ·rintro ae fl _ w ⟨bz,O,rfl,o⟩ hb
    refine RC.seq (RC.sr (mv (vi ae.2.1) (mv (vi ad.2.1) (ic ae.2.1 ad.2.1 (mv (vb (decide (ae.2.1<ad.2.1))) (RL.gs true (decide (ae.2.1<ad.2.1)) (vi ae.2.2) zr zr zr dQ (RL.gs true (decide (ae.2.1<ad.2.1)) (vi ad.2.1) zr zr zr dQ (RL.gs true (decide (ae.2.1<ad.2.1)) (vi (IntKind.wrap .i64 (Int.tdiv (an.Xs.length:Int) 2))) zr zr zr dQ ?_))))))))
    refine RL.gs true (decide (ae.2.1<ad.2.1)) (vi (IntKind.wrap .i64 (ad.2.1+ (IntKind.wrap .i64 (Int.tdiv (an.Xs.length:Int) 2))))) rfl rfl rfl (Jy (bop:= .add) (K:= .i64) (a:=ad.2.1) (b:=(IntKind.wrap .i64 (Int.tdiv (an.Xs.length:Int) 2))) rfl (fun h=>by exact(dI h:cv (true&&((decide (ae.2.1<ad.2.1))==true)) (vi ad.2.1)= (vi ad.2.1))) (fun h=>by exact(dI h:cv (true&&((decide (ae.2.1<ad.2.1))==true)) (vi (IntKind.wrap .i64 (Int.tdiv (an.Xs.length:Int) 2)))= (vi (IntKind.wrap .i64 (Int.tdiv (an.Xs.length:Int) 2))))) rfl) (RL.gs true (decide (ae.2.1<ad.2.1)) (vb (decide (ae.2.2< (IntKind.wrap .i64 (ad.2.1+ (IntKind.wrap .i64 (Int.tdiv (an.Xs.length:Int) 2))))))) rfl rfl rfl (eM .lss .i64 ae.2.2 (IntKind.wrap .i64 (ad.2.1+ (IntKind.wrap .i64 (Int.tdiv (an.Xs.length:Int) 2)))) rfl (fun h=>by exact(dI h:cv (true&&((decide (ae.2.1<ad.2.1))==true)) (vi ae.2.2)= (vi ae.2.2))) (fun h=>by exact(dI h:cv (true&&((decide (ae.2.1<ad.2.1))==true)) (vi (IntKind.wrap .i64 (ad.2.1+ (IntKind.wrap .i64 (Int.tdiv (an.Xs.length:Int) 2)))))= (vi (IntKind.wrap .i64 (ad.2.1+ (IntKind.wrap .i64 (Int.tdiv (an.Xs.length:Int) 2))))))) rfl) (RL.pick (decide (ae.2.1<ad.2.1)) (vb ((decide (ae.2.1<ad.2.1))&&(decide (ae.2.2< (IntKind.wrap .i64 (ad.2.1+ (IntKind.wrap .i64 (Int.tdiv (an.Xs.length:Int) 2)))))))) (kg true) (RL.nt (eH hb (fun hc hb=>?_) fun hc hb=>?_))))
    rotate_left
    ·refine RC.ex ?_
     obtain rfl:=oi hb
     exact⟨rfl,bz,o.sp 4 [0,1,2,3]⟩
    refine RC.sn (RC.block (RC.seq (RC.seq ?_)))
    obtain⟨ch,hj,hb⟩:=bd hb
    refine RC.jn (fun(ch:Bool)=>SH E V [(0,v0),(3,ah),(4,vp ag 0),(6,(.func (.func 126) #[] #[(vp ag 0)])),(7,vi ad.2.1),(11,(vi (IntKind.wrap .i64 (Int.tdiv (an.Xs.length:Int) 2)))),(12,vi ae.2.1),(13,vi ae.2.2),(42,v0),(43,vi p0.length),(44,vi ay),(101,vb ch)] [rd v0 p0,own 83 ah aq,bc 68 ag [bz],own 3 bz ae.1]) ch ?_ ?_
    ·refine RC.zA mixed ?_
     have o:=o.drew
     refine RO.go (mv ah (RO.nx (mv (vi ae.2.1) (RO.nx ?_))))
     obtain⟨cw,b0,hj⟩:=bd hj
     refine RL.bY 1 o zr zr mH b0 (RO.nx (RL.m4 (α:=aJ) (kC 1 o b0 0) kn (RO.nx (RL.dX 1 o (kC 1 o b0 0) (bG b0).2.1 fK dE (RO.nx (mv ah (RO.nx (mv (vi ae.2.2) ?_))))))))
     refine RO.nx ?_
     obtain⟨cx,b1,hj⟩:=bd hj
     refine RL.bY 1 o zr zr mH b1 (RO.nx (RL.m4 (α:=aJ) (kC 1 o b1 0) ld (RO.nx (RL.dX 1 o (kC 1 o b1 2) (bG b1).2.1 gE dE (RO.nx (ic cw.X0 cx.X1 (RO.nx (mv (vb (decide (cw.X0<cx.X1))) ?_))))))))
     refine gZ hj (fun ao hj=>?_) fun ao hj=>?_
     rotate_left
     ·refine RO.nx (bZ ao (RO.nx (bZ ao (RO.nx (bZ ao (RO.nx (bZ ao (RO.nx ?_))))))))
      refine bZ ao (RO.nx (bZ ao (RO.nx (bZ ao (RO.nx (bZ ao (RO.nx (bZ ao ?_))))))))
      refine RO.nx (bZ ao (RO.nx (bZ ao (RO.nx (g9 ao (vb false) (RO.last ?_))))))
      obtain rfl:=oi hj
      exact⟨rfl,o.sp 4 [0,1,2,3]⟩
     refine RO.nx (RL.move ah (cg ao) (RO.nx (RL.move (vi ae.2.2) (cg ao) (RO.nx ?_))))
     obtain⟨cy,b2,hj⟩:=bd hj
     refine RL.bY (hg:=(cg ao)) 1 o zr zr mH b2 (RO.nx (RL.m4 (hg:=(cg ao)) (α:=aJ) (kC 1 o b2 0) kn (RO.nx (RL.dX (hg:=(cg ao)) 1 o (kC 1 o b2 0) (bG b2).2.1 fK dE (RO.nx (RL.move ah (cg ao) (RO.nx (RL.move (vi ae.2.1) (cg ao) ?_))))))))
     refine RO.nx ?_
     obtain⟨cz,b3,hj⟩:=bd hj
     refine RL.bY (hg:=(cg ao)) 1 o zr zr mH b3 (RO.nx (RL.m4 (hg:=(cg ao)) (α:=aJ) (kC 1 o b3 0) ld (RO.nx (RL.dX (hg:=(cg ao)) 1 o (kC 1 o b3 2) (bG b3).2.1 gE dE (RO.nx (RL.kI cy.X0 cz.X1 (cg ao) (RO.nx (g9 ao (vb (decide (cy.X0<cz.X1))) ?_))))))))
     refine RO.last ?_
     obtain rfl:=oi hj
     exact⟨rfl,o.sp 4 [0,1,2,3]⟩
    rintro _ w ⟨O,rfl,o⟩
    refine aG ?_
    obtain⟨b4,hj,hb⟩:=bd hb
    refine RC.jn (fun(b4: (List Int)) U w=>∃bl:Value,SH E V [(0,v0),(3,ah),(4,vp ag 0),(6,(.func (.func 126) #[] #[(vp ag 0)])),(7,vi ad.2.1),(11,(vi (IntKind.wrap .i64 (Int.tdiv (an.Xs.length:Int) 2)))),(12,vi ae.2.1),(13,vi ae.2.2),(42,v0),(43,vi p0.length),(44,vi ay)] [rd v0 p0,own 83 ah aq,bc 68 ag [bl],own 3 bl b4] U w) b4 ?_ ?_
    ·refine eH hj (fun hc hj=>?_) fun hc hj=>?_
     rotate_left
     ·refine RC.skip ?_
      obtain rfl:=oi hj
      exact⟨rfl,bz,o.sp 4 [0,1,2,3]⟩
     refine RC.sr (mv (.func (.func 126) #[] #[(vp ag 0)]) (mv (vi ae.2.1) ?_))
     have o:=(o.pull 3).pull 3
     obtain⟨bf,dc,hj⟩:=bd hj
     refine RL.BM (cap:=[(vp ag 0)]) zt zr G4 zr [(vi ae.2.1)] zr (aF (kM N (p0:=ae.2.1) o dc) ?_)
     rintro _ w ⟨d5,rfl,o⟩
     refine mv (.func (.func 126) #[] #[(vp ag 0)]) (mv (vi ae.2.2) ?_)
     have o:=(o.pull 1).pull 1
     obtain⟨bg,dd,hj⟩:=bd hj
     refine RL.BM (cap:=[(vp ag 0)]) zt zr G4 zr [(vi ae.2.2)] zr (aF (kM N (p0:=ae.2.2) o dd) ?_)
     rintro _ w ⟨c0,rfl,o⟩
     refine aM (vi bf.1) (aM (vi bg.1) (RL.nt (RC.region (RL.bV 0 c0 o fU (mv (vi bf.1) (mv (vi bg.1) (RL.max bf.1 bg.1 (mv (vi bf.1) ?_))))))))
     refine mv (vi bg.1) (RL.min bf.1 bg.1 ?_)
     obtain⟨d6,cj,hj⟩:=bd hj
     refine RL.bY 1 o zr zr fV cj ?_
     have o:=o.sc Int (if bg.1<bf.1 then bg.1 else bf.1)
     refine RL.iH (f:=(fun _ y=>y)) 2 0 o (kC 2 o cj 0) (bG cj).2.1 zr Fs.self dE fun w o=>?_
     refine RL.nil ?_
     obtain rfl:=oi hj
     exact⟨rfl,c0,o.sp 9 [5,6,1,2]⟩
    rintro _ w ⟨bl,O,rfl,o⟩
    refine aG (RC.seq (RC.zA mixed ?_))
    have o:=o.drew
    refine RO.go (mv ah (RO.nx (mv (vi ae.2.1) (RO.nx ?_))))
    obtain⟨de,b5,hb⟩:=bd hb
    refine RL.bY 1 o zr zr mH b5 (RO.nx (RL.m4 (α:=aJ) (kC 1 o b5 0) ld (RO.nx (RL.dX 1 o (kC 1 o b5 2) (bG b5).2.1 gE dE (RO.nx (mv ah (RO.nx (mv (vi ae.2.2) ?_))))))))
    refine RO.nx ?_
    obtain⟨df,b6,hb⟩:=bd hb
    refine RL.bY 1 o zr zr mH b6 (RO.nx (RL.m4 (α:=aJ) (kC 1 o b6 0) ld (RO.nx (RL.dX 1 o (kC 1 o b6 2) (bG b6).2.1 gE dE (RO.nx (ic de.X1 df.X1 (RO.last (aG ?_))))))))
    obtain⟨b7,hj,hb⟩:=bd hb
    refine RC.jn (fun(b7:Int×Int)=>SH E V [(0,v0),(3,ah),(4,vp ag 0),(6,(.func (.func 126) #[] #[(vp ag 0)])),(7,vi ad.2.1),(11,(vi (IntKind.wrap .i64 (Int.tdiv (an.Xs.length:Int) 2)))),(12,vi b7.1),(13,vi b7.2),(42,v0),(43,vi p0.length),(44,vi ay)] [rd v0 p0,own 83 ah aq,bc 68 ag [bl],own 3 bl b4]) b7 ?_ ?_
    ·refine eH hj (fun hc hj=>?_) fun hc hj=>?_
     ·refine RC.region (mv (vi ae.2.1) (RL.jQ ae.2.1 1 (aM (vi (IntKind.wrap .i64 (ae.2.1+1))) (RL.nil ?_))))
      obtain rfl:=oi hj
      exact⟨rfl,o.sp 4 [0,1,2,3]⟩
     refine RC.region (mv (vi ae.2.2) (RL.jQ ae.2.2 1 (aM (vi (IntKind.wrap .i64 (ae.2.2+1))) (RL.nil ?_))))
     obtain rfl:=oi hj
     exact⟨rfl,o.sp 4 [0,1,2,3]⟩
    rintro _ w ⟨O,rfl,o⟩
    refine bO ?_
    obtain rfl:=oi hb
    exact⟨rfl,bl,o.sp 4 [0,1,2,3]⟩
   ·intro r _ _ _ _
    exact r.elim
   rintro ae _ w rfl ⟨bw,O,rfl,o⟩
   rw [Fo.fW] at hj
   obtain rfl:=oi hj
   exact⟨rfl,bw,o.sp 4 [0,1,2,3]⟩
  rintro _ w ⟨bu,O,rfl,o⟩
  refine aG (RC.region (mv (vi ad.2.1) (mv (vi ad.2.1) (mv (vi (IntKind.wrap .i64 (Int.tdiv (an.Xs.length:Int) 2))) (RL.jQ ad.2.1 (IntKind.wrap .i64 (Int.tdiv (an.Xs.length:Int) 2)) (aM (vi ad.2.1) (aM (vi (IntKind.wrap .i64 (ad.2.1+ (IntKind.wrap .i64 (Int.tdiv (an.Xs.length:Int) 2))))) (RL.nil ?_))))))))
  refine bO (aG (RC.region (RL.inc hk hm (mv (vi ((ay+1:Nat):Int)) (RL.nil ?_)))))
  obtain rfl:=oi hb
  exact⟨rfl,bu,o.sp 4 [0,1,2,3]⟩
 rintro _ w ⟨br,O,rfl,o⟩
 refine aG (RC.sr (RL.makeMap (κ:=Int) (ν:=Int) o fun a6 w o=>(aM a6 (RL.ns (aM (.slice none 0 0) (RL.nq (RC.sr (mv ah ?_))))))))
 refine RL.eO 2 aq o sB (mv (vi 0) (RL.nt ?_))
 obtain⟨ak,hN,hb⟩:=bd hb
 refine RC.fold (fun(a5:Nat) (ak: (List Int)×(List (Int×Int))×(List (List aJ))) U w=>∃(c1 c2:Value) (us939:List RV),SH E V [(6,(.func (.func 126) #[] #[(vp ag 0)])),(16,a6),(17,c2),(137,ah),(138,vi aq.length),(139,vi a5)] [bc 68 ag [c1],own 3 c1 ak.1,mp a6 ak.2.1,own 83 ah aq,own 28 c2 us939,gV (XS 83 aJ) us939 ak.2.2 none] U w) (fun(ak: (List Int)×(List (Int×Int))×(List (List aJ))) U w=>∃(ck bh:Value) (us942:List RV),SH E V [(17,bh)] [bc 68 ag [ck],own 3 ck ak.1,mp a6 ak.2.1,own 83 ah aq,own 28 bh us942,gV (XS 83 aJ) us942 ak.2.2 none] U w) hN ?_ ?_ ?_ ?_
 ·have o:=(o.xT (XS 83 aJ)).cW RV 28
  exact⟨br,(.slice none 0 0),([]:List RV),o.sp 7 [5,6,2,4,0,1]⟩
 ·rintro hm ak _ w ⟨dg,dh,us987,O,rfl,o⟩
  refine RC.sr (ic ((aq.length:Int)) ((aq.length:Int)) (RL.nq (RC.cP mz (RC.ex ?_))))
  exact⟨rfl,dg,dh,us987,o.sp 6 [0,1,2,3,4,5]⟩
 ·rintro hm a5 ak s' _ w hk ⟨d7,cl,us945,O,rfl,o⟩ hb
  refine RC.sr (ic ((a5:Int)) ((aq.length:Int)) (RL.nq (RC.cO (my hk) (RC.ss (RC.bs (mv (vi a5) ?_))))))
  obtain⟨bb,cm,hb⟩:=bd hb
  refine RL.bY 3 o zr zr mH cm (RL.kh (f:=(fun x=>x)) 3 o (kC 3 o cm 0) (bG cm).2.1 Fd.self jf fun d8 o=>?_)
  refine RL.alloc o pH.z fun b8 w o=>?_
  refine aM (vi a5) (RL.bD 0 o 1 zr jf fun w o=>?_)
  refine RL.ns (mv (.func (.func 126) #[] #[(vp ag 0)]) (mv (vi a5) ?_))
  have o:=(o.pull 3).pull 3
  obtain⟨a2,di,hb⟩:=bd hb
  refine RL.BM (cap:=[(vp ag 0)]) zt zr G4 zr [(vi a5)] zr (aF (kM N (p0:=(a5:Int)) o di) ?_)
  rintro _ w ⟨bo,rfl,o⟩
  refine aM (vi a2.1) (RL.ns (mv a6 (mv (vi a2.1) (RL.pS 6 a2.1 o zr yB (mv (.tuple #[(vi (dH ak.2.1 a2.1 (0:Int))),(vb (fR ak.2.1 a2.1))]) (RL.extract (vi (dH ak.2.1 a2.1 (0:Int))) (RL.extract (vb (fR ak.2.1 a2.1)) (aM (vi (dH ak.2.1 a2.1 (0:Int))) ?_))))))))
  refine aM (vb (fR ak.2.1 a2.1)) (RL.nq (RC.sr (mv (vb (fR ak.2.1 a2.1)) (RL.not (fR ak.2.1 a2.1) (RL.nt ?_)))))
  obtain⟨af,hj,hb⟩:=bd hb
  refine RC.jn (fun(af: (List (Int×Int))×(List (List aJ))×Int) U w=>∃(a1:Value) (us956:List RV),SH E V [(6,(.func (.func 126) #[] #[(vp ag 0)])),(16,a6),(17,a1),(19,vp b8 0),(21,vi af.2.2),(137,ah),(138,vi aq.length),(139,vi a5)] [bc 68 ag [bo],own 3 bo a2.2,mp a6 af.1,bx 83 b8 bb,own 83 ah aq,own 28 a1 us956,gV (XS 83 aJ) us956 af.2.1 none] U w) af ?_ ?_
  ·refine eH hj (fun hc hj=>?_) fun hc hj=>?_
   rotate_left
   ·refine RC.skip ?_
    obtain rfl:=oi hj
    exact⟨rfl,cl,us945,o.sp 10 [0,1,6,2,7,8,9]⟩
   refine RC.sr (mv cl (RL.oD 8 9 ak.2.2 o Co (aM (vi ak.2.2.length) (RL.ns (mv a6 (mv (vi a2.1) (mv (vi ak.2.2.length) ?_)))))))
   have o:=o.sc Int (ak.2.2.length:Int)
   refine RL.mapUpdate 7 0 a2.1 o zr zr zr zr yB fun w o=>(RL.nt (RC.region (mv cl ?_)))
   have o:=(o.cW aJ 83).B4 (i:=0) rfl
   refine RL.eF ([rv (.slice none 0 0)]:List RV) o [(.slice none 0 0)] Fc MR (fun M hs g=>⟨(g.sat 0 _ zr).1,zt⟩) fun d9 w o=>?_
   obtain⟨ea,dj,hj⟩:=bd hj
   have o:=o.freeze 0
   refine RL.yg 12 0 13 2 zr o zr zr zr zr zr zr MS dj fun c3 w o=>?_
   refine aM c3 (RL.nil ?_)
   obtain rfl:=oi hj
   exact⟨rfl,c3,(us945++[rv (.slice none 0 0)]),o.sp 14 [4,5,10,6,11,12,13]⟩
  rintro _ w ⟨a1,us956,O,rfl,o⟩
  refine aG ?_
  obtain⟨eb,b9,hb⟩:=bd hb
  obtain⟨bj,dk,hb⟩:=bd hb
  obtain⟨ec,cn,hb⟩:=bd hb
  refine RC.Gf E V mixed [1,1,1,1,0,0,0,0,0,0,0] [6,7,8,10] (fun(x:Value×Value×Value)=>(fun a0 ax al=>[(0,163,a1),(1,164,(vi af.2.2)),(2,165,a1),(3,166,(vi af.2.2)),(4,167,(z8 a1 (Int.toNat af.2.2) 1 0)),(5,168,(us956.getD (Int.toNat af.2.2) xp).v),(6,169,a0),(7,170,ax),(8,171,al),(9,172,(z8 a1 (Int.toNat af.2.2) 1 0))]) x.1 x.2.1 x.2.2) [(6,(.func (.func 126) #[] #[(vp ag 0)])),(16,a6),(17,a1),(19,vp b8 0),(21,vi af.2.2),(137,ah),(138,vi aq.length),(139,vi a5)] [] (fun(D:Nat->Bool) (x:Value×Value×Value)=>(fun a0 ax al=>[bif D 0 then (rd a0 bb) else aW,bif D 2 then (rd ax ([bb]: (List aJ))) else (bif D 1 then (own 83 ax ([bb]: (List aJ))) else aW),bif D 3 then aW else (bif D 2 then (own 83 al bj) else aW),bc 68 ag [bo],own 3 bo a2.2,mp a6 af.1,bx 83 b8 bb,own 83 ah aq,bif D 3 then (own 28 a1 (us956.set (Int.toNat af.2.2) (rv al))) else (own 28 a1 us956),bif D 3 then (gV (XS 83 aJ) (us956.set (Int.toNat af.2.2) (rv al)) (af.2.1.set (Int.toNat af.2.2) bj) none) else (bif D 2 then (gV (XS 83 aJ) us956 af.2.1 (some (Int.toNat af.2.2))) else (gV (XS 83 aJ) us956 af.2.1 none))]) x.1 x.2.1 x.2.2) (fun x=>by kernel_rfl) ?_ ⟨fun _=>jZ gn,fun _=>jZ gn,fun _=>jZ gn,fun _=>jZ gn,?_,?_,?_,?_,?_,?_,?_,trivial⟩ ?_
  ·have o:=(((o.drew).aW).aW).aW
   exact⟨(undef,undef,undef),eB.none,(Et zr),zt,o⟩
  ·rintro D U w hD au aj ⟨⟨a0,ax,al⟩,hv,ha,_,o⟩
   obtain⟨O,rfl⟩:=(ac (hv.at 2 rfl (au.1 rfl)) (ac (hv.at 3 rfl (au.2.1 rfl)) az)).fC
   have o:=((o.bP 8 (nh aj hD 10)).bP 9 (nh aj hD 10)).bP 9 (nf (fun h=>ft hD ((aj 5 _ rfl ((aj 8 _ rfl h).1 rfl)).1 rfl)))
   have hl974:=o.fS 9
   have hr975:=iN xp hl974 b9
   refine RL.bY 8 o zr zr Fc hr975 ?_
   have o:=(o.dY 8 (D 10) (nh aj hD 10) (own 28 a1 (us956.set (Int.toNat af.2.2) (rv al)))).dY 9 (D 8) (nf (fun h=>ft hD ((aj 5 _ rfl ((aj 8 _ rfl h).1 rfl)).1 rfl))) (gV (XS 83 aJ) us956 af.2.1 (some (Int.toNat af.2.2)))
   have o:=o.dY 9 (D 10) (nh aj hD 10) (gV (XS 83 aJ) (us956.set (Int.toNat af.2.2) (rv al)) (af.2.1.set (Int.toNat af.2.2) bj) none)
   exact RL.nil ⟨rfl,(a0,ax,al),hv.pu 4,ha.u,zt,o⟩
  ·rintro D U w hD au aj ⟨⟨a0,ax,al⟩,hv,ha,_,o⟩
   obtain⟨O,rfl⟩:=(ac (hv.at 4 rfl (au.1 rfl)) az).fC
   have o:=((o.bP 8 (nh aj hD 10)).bP 9 (nh aj hD 10)).bP 9 (nh aj hD 8)
   have hl976:=o.fS 9
   have hr977:=iN xp hl976 b9
   refine RL.tB 8 9 af.2.2 (vn 83 aJ) xp zr o zr (kC 8 o hr977 0) zr zr b9 A1 ?_
   have o:=(o.dY 8 (D 10) (nh aj hD 10) (own 28 a1 (us956.set (Int.toNat af.2.2) (rv al)))).dY 9 (D 8) (nh aj hD 8) (gV (XS 83 aJ) us956 af.2.1 (some (Int.toNat af.2.2)))
   have o:=o.dY 9 (D 10) (nh aj hD 10) (gV (XS 83 aJ) (us956.set (Int.toNat af.2.2) (rv al)) (af.2.1.set (Int.toNat af.2.2) bj) none)
   exact RL.nil ⟨rfl,(a0,ax,al),hv.pu 5,ha.u,zt,o⟩
  ·rintro D U w hD au aj ⟨⟨a0,ax,al⟩,hv,ha,_,o⟩
   obtain⟨O,rfl⟩:=(ac (ha.at 3 rfl) az).fC
   have o:=o.bP 0 hD
   refine RL.aN (f:=(fun x=>x)) 6 o zr Fd.self jf fun dm o=>?_
   have o:=(o.pl 11 [0,2,3,4,5,6,7,8,9,10]).cI 0 true rfl aW
   exact RL.nil ⟨rfl,(dm,ax,al),hv.pu 6,ha.u,zt,o⟩
  ·rintro D U w hD au aj ⟨⟨a0,ax,al⟩,hv,ha,_,o⟩
   obtain⟨O,rfl⟩:=(ac (hv.at 6 rfl (au.1 rfl)) az).fC
   have o:=((o.cH 0 (au.1 rfl)).bP 1 (nh aj hD 8)).bP 1 hD
   refine RL.eF ([bb]: (List aJ)) o [a0] mH pH (fun M hs g=>⟨(g.sat 0 _ zr).1,zt⟩) fun c4 w o=>?_
   have o:=(((o.pl 11 [1,0,3,4,5,6,7,8,9,10]).cI 0 (D 6) (au.1 rfl) aW).cI 1 true rfl aW).dY 1 (D 8) (nh aj hD 8) (rd c4 ([bb]: (List aJ)))
   exact RL.nil ⟨rfl,(a0,c4,al),hv.pu 7,ha.u,zt,o⟩
  ·rintro D U w hD au aj ⟨⟨a0,ax,al⟩,hv,ha,_,o⟩
   obtain⟨O,rfl⟩:=(ac (hv.at 5 rfl (au.1 rfl)) (ac (hv.at 7 rfl (au.2.1 rfl)) az)).fC
   have o:=(((((((o.bP 1 hD).cH 1 (au.2.1 rfl)).bP 2 (nh aj hD 10)).bP 2 hD).bP 8 (nh aj hD 10)).bP 9 (nh aj hD 10)).bP 9 hD).yf (j:=9) (jj:=af.2.2) (vn 83 aJ) xp rfl b9
   have o:=o.freeze 2
   refine RL.app 0 2 o Ff dk fun cp w o=>?_
   have o:=((((o.pl 11 [1,2,0,4,5,6,7,8,9,10]).cI 1 true rfl (bif D 7 then (own 83 ax ([bb]: (List aJ))) else aW)).cI 2 true rfl aW).dY 2 (D 10) (nh aj hD 10) aW).dY 8 (D 10) (nh aj hD 10) (own 28 a1 (us956.set (Int.toNat af.2.2) (rv cp)))
   have o:=(o.cI 9 true rfl (gV (XS 83 aJ) us956 af.2.1 none)).dY 9 (D 10) (nh aj hD 10) (gV (XS 83 aJ) (us956.set (Int.toNat af.2.2) (rv cp)) (af.2.1.set (Int.toNat af.2.2) bj) none)
   exact RL.nil ⟨rfl,(a0,ax,cp),hv.pu 8,ha.u,zt,o⟩
  ·rintro D U w hD au aj ⟨⟨a0,ax,al⟩,hv,ha,_,o⟩
   obtain⟨O,rfl⟩:=(ac (hv.at 0 rfl (au.1 rfl)) (ac (hv.at 1 rfl (au.2.1 rfl)) az)).fC
   have o:=((o.bP 8 (nh aj hD 10)).bP 9 (nh aj hD 10)).cH 9 (au.2.2.2.2.2.2.2.2.2.2.1 rfl)
   have hl981:=o.fS 9
   have hr982:=iN xp hl981 cn
   refine RL.bY 8 o zr zr Fc hr982 ?_
   have o:=((o.dY 8 (D 10) (nh aj hD 10) (own 28 a1 (us956.set (Int.toNat af.2.2) (rv al)))).cI 9 (D 8) (au.2.2.2.2.2.2.2.2.2.2.1 rfl) (gV (XS 83 aJ) us956 af.2.1 none)).dY 9 (D 10) (nh aj hD 10) (gV (XS 83 aJ) (us956.set (Int.toNat af.2.2) (rv al)) (af.2.1.set (Int.toNat af.2.2) bj) none)
   exact RL.nil ⟨rfl,(a0,ax,al),hv.pu 9,ha.u,zt,o⟩
  ·rintro D U w hD au aj ⟨⟨a0,ax,al⟩,hv,ha,_,o⟩
   obtain⟨O,rfl⟩:=(ac (hv.at 8 rfl (au.2.1 rfl)) (ac (hv.at 9 rfl (au.1 rfl)) az)).fC
   have o:=((((o.bP 2 hD).cH 2 (au.2.1 rfl)).bP 8 hD).bP 9 hD).cH 9 (au.2.1 rfl)
   have hl983:=o.fS 9
   have hr984:=iN xp hl983 cn
   refine RL.qJ 8 9 2 af.2.2 (vn 83 aJ) xp o zr zr (kC 8 o hr984 0) zr zr zr cn A1 fun w o=>?_
   have o:=((o.cI 2 true rfl (bif D 8 then (own 83 al bj) else aW)).cI 8 true rfl (own 28 a1 us956)).cI 9 true rfl (bif D 8 then (gV (XS 83 aJ) us956 af.2.1 (some (Int.toNat af.2.2))) else (gV (XS 83 aJ) us956 af.2.1 none))
   exact RL.nil ⟨rfl,(a0,ax,al),hv.n1,ha,zt,o⟩
  rintro D U w bp ⟨⟨a0,ax,al⟩,hv,ha,_,o⟩
  have o:=((((o.cH 0 (kD bp 6)).cH 1 (kD bp 8)).cH 2 (kD bp 10)).cH 8 (kD bp 10)).cH 9 (kD bp 10)
  obtain⟨O,rfl⟩:=(ac (ha.at 0 rfl) (ac (ha.at 1 rfl) (ac (ha.at 2 rfl) (ac (ha.at 3 rfl) (ac (ha.at 4 rfl) (ac (ha.at 5 rfl) (ac (ha.at 6 rfl) (ac (ha.at 7 rfl) az)))))))).fC
  refine bO (aG (RC.region (RL.inc hk hm (mv (vi ((a5+1:Nat):Int)) (RL.nil ?_)))))
  obtain rfl:=oi hb
  exact⟨rfl,bo,a1,(us956.set (Int.toNat af.2.2) (rv al)),o.sp 10 [3,4,5,7,8,9]⟩
 rintro _ w ⟨ck,bh,us942,O,rfl,o⟩
 refine aG (RC.sr (aM (.slice none 0 0) (RL.nq (RC.sr (mv bh (RL.oD 4 5 ak.2.2 o Co (mv (vi 0) (RL.nt ?_))))))))
 have o:=o.xU (X:=(XS 83 aJ)) (b:=5) (j:=4) rfl (fun M h u x cs=>(GA 83) M h u x cs) rfl rfl (by decide)
 obtain⟨bm,hN,hb⟩:=bd hb
 refine RC.fold (fun(ca:Nat) (bm: (List (List aA))) U w=>∃c5:Value,SH E V [(23,c5),(174,bh),(175,vi ak.2.2.length),(176,vi ca)] [own 28 bh ak.2.2,own 113 c5 bm] U w) (fun(bm: (List (List aA))) U w=>∃bq:Value,SH E V [(23,bq)] [own 28 bh ak.2.2,own 113 bq bm] U w) hN ?_ ?_ ?_ ?_
 ·have o:=o.cW (List aA) 113
  exact⟨(.slice none 0 0),o.sp 7 [5,0]⟩
 ·rintro hm bm _ w ⟨dn,O,rfl,o⟩
  refine RC.sr (ic ((ak.2.2.length:Int)) ((ak.2.2.length:Int)) (RL.nq (RC.cP mz (RC.ex ?_))))
  exact⟨rfl,dn,o.sp 2 [0,1]⟩
 ·rintro hm ca bm s' _ w hk ⟨dp,O,rfl,o⟩ hb
  refine RC.sr (ic ((ca:Int)) ((ak.2.2.length:Int)) (RL.nq (RC.cO (my hk) (RC.ss (RC.bs ?_)))))
  obtain⟨ed,cq,hb⟩:=bd hb
  refine RL.bY 0 o zr zr Fc cq (RL.kh (f:=(fun x=>x)) 0 o (kC 0 o cq 0) (bG cq).2.1 Fd.self A1 fun cr o=>?_)
  refine aM cr (RL.nt (RC.region (mv dp (mv cr ?_))))
  obtain⟨dq,dr,hb⟩:=bd hb
  refine RL.call zt zr GX [cr] zr (aF (ln N (i0:=0) o zr dr) ?_)
  rintro ds w o
  have o:=o.freeze 0
  refine RL.eF ([dq]: (List (List aA))) o [ds] G1 G2 (fun M hs g=>⟨(g.sat 0 _ zr).1,zt⟩) fun ee w o=>?_
  have o:=o.freeze 0
  obtain⟨ef,dt,hb⟩:=bd hb
  refine RL.app 4 0 o K6 dt fun c6 w o=>?_
  refine aM c6 (RL.nil (bO (aG (RC.region (RL.inc hk hm (mv (vi ((ca+1:Nat):Int)) (RL.nil ?_)))))))
  obtain rfl:=oi hb
  exact⟨rfl,c6,o.sp 5 [3,4]⟩
 rintro _ w ⟨bq,O,rfl,o⟩
 refine aG (RC.sr (mv bq (aM bq (RL.nt (RC.ret ?_)))))
 obtain rfl:=oi hb
 exact bU (o.pk 2 [1])
def sT (E:World) (V:List HP) (b0:Nat) (v0_0 v0_1:Value) (v0_2 v0_3:Value) (v0_6 v0_7:Value) (v0_8 v0_9:Value) (v0_10 v0_11:Value) (res:Bool×(List (List aA))×(List aI)) (v:Value) (w:World):Prop:=∃u0_4 u0_5:Value,v= (vb res.1)/\Holds E w ([bc 71 b0 [v0_0,v0_1,v0_2,v0_3,u0_4,u0_5,v0_6,v0_7,v0_8,v0_9,v0_10,v0_11],own 113 u0_4 res.2.1,own 171 u0_5 res.2.2]++V)
theorem rO {p0_0: (List (List aJ))} {p0_2: (List cN)} {p0_4: (List (List aA))} {p0_5: (List aI)} {res:Bool×(List (List aA))×(List aI)} (j:Holds E w (bc 71 b0 [v0_0,v0_1,v0_2,v0_3,v0_4,v0_5,v0_6,v0_7,v0_8,v0_9,v0_10,v0_11]::rd v0_0 p0_0::rd v0_2 p0_2::own 113 v0_4 p0_4::own 171 v0_5 p0_5::V)) (o:i7 N p0_0 p0_2 p0_4 p0_5=some res):
    Calls bB 48 [(vp b0 0)].toArray w (gr (sT E V b0 v0_0 v0_1 v0_2 v0_3 v0_6 v0_7 v0_8 v0_9 v0_10 v0_11 res)):=by
 unfold i7 at o
 refine enter Tryz.func48 zr zr (RC.sr (aM (vb false) (RL.ns (aM (vb true) (RL.nq (RC.sr (mv (vp b0 0) (RL.nilCheck zr ?_))))))))
 refine RL.bH zr qV (RL.bH zr wK (RL.bV 0 v0_0 j Fb (RL.bF 1 p0_0 j Co (mv (vi 0) (RL.nt ?_)))))
 obtain⟨aa,hN,o⟩:=bd o
 refine RC.fold (fun(ab:Nat) (aa: (List (List aA))×(List aI)×Bool) U w=>∃bf bg:Value,SH E V [(0,vp b0 0),(3,vb aa.2.2),(16,v0_0),(17,vi p0_0.length),(18,vi ab)] [bc 71 b0 [v0_0,v0_1,v0_2,v0_3,bf,bg,v0_6,v0_7,v0_8,v0_9,v0_10,v0_11],own 113 bf aa.1,own 171 bg aa.2.1,rd v0_0 p0_0,rd v0_2 p0_2] U w) (fun(aa: (List (List aA))×(List aI)×Bool) U w=>∃au al:Value,SH E V [(0,vp b0 0),(3,vb aa.2.2)] [bc 71 b0 [v0_0,v0_1,v0_2,v0_3,au,al,v0_6,v0_7,v0_8,v0_9,v0_10,v0_11],own 113 au aa.1,own 171 al aa.2.1,rd v0_0 p0_0,rd v0_2 p0_2] U w) hN ?_ ?_ ?_ ?_
 ·exact⟨v0_4,v0_5,j.sp 5 [0,3,4,1,2]⟩
 ·rintro hm aa _ w ⟨bq,br,O,rfl,j⟩
  refine RC.sr (ic ((p0_0.length:Int)) ((p0_0.length:Int)) (RL.nq (RC.cP mz (RC.ex ?_))))
  exact⟨rfl,bq,br,j.sp 5 [0,1,2,3,4]⟩
 ·rintro hm ab aa s' _ w hk ⟨af,ag,O,rfl,j⟩ o
  refine RC.sr (ic ((ab:Int)) ((p0_0.length:Int)) (RL.nq (RC.cO (my hk) (RC.ss (RC.bs (mv (vi ab) ?_))))))
  obtain⟨a2,bt,o⟩:=bd o
  refine RL.cA 3 j Fc bt fun cp j=>(RL.bC 0 a2 j A1 fun ah j=>(aM (vi ab) (aM ah (RL.ns (aM (.slice none 0 0) (RL.nq (RC.sr (mv (vp b0 0) ?_))))))))
  refine RL.nilCheck zr (RL.bH zr qV (RL.bH zr pI (RL.bV 2 v0_2 j zJ (RL.bF 6 p0_2 j A2 (mv (vi 0) (RL.nt ?_))))))
  obtain⟨av,hN,o⟩:=bd o
  refine RC.fold (fun(az:Nat) (av: (List aJ)) U w=>∃bh:Value,SH E V [(0,vp b0 0),(3,vb aa.2.2),(4,vi ab),(5,ah),(6,bh),(16,v0_0),(17,vi p0_0.length),(18,vi ab),(27,v0_2),(28,vi p0_2.length),(29,vi az)] [bc 71 b0 [v0_0,v0_1,v0_2,v0_3,af,ag,v0_6,v0_7,v0_8,v0_9,v0_10,v0_11],rd v0_0 p0_0,rd v0_2 p0_2,own 113 af aa.1,own 171 ag aa.2.1,rd ah a2,own 83 bh av] U w) (fun(av: (List aJ)) U w=>∃a0:Value,SH E V [(0,vp b0 0),(3,vb aa.2.2),(4,vi ab),(5,ah),(6,a0),(16,v0_0),(17,vi p0_0.length),(18,vi ab)] [bc 71 b0 [v0_0,v0_1,v0_2,v0_3,af,ag,v0_6,v0_7,v0_8,v0_9,v0_10,v0_11],rd v0_0 p0_0,rd v0_2 p0_2,own 113 af aa.1,own 171 ag aa.2.1,rd ah a2,own 83 a0 av] U w) hN ?_ ?_ ?_ ?_
  ·have j:=j.cW aJ 83
   exact⟨(.slice none 0 0),j.sp 8 [3,6,7,4,5,1,0]⟩
  ·rintro hm av _ w ⟨bu,O,rfl,j⟩
   refine RC.sr (ic ((p0_2.length:Int)) ((p0_2.length:Int)) (RL.nq (RC.cP mz (RC.ex ?_))))
   exact⟨rfl,bu,j.sp 7 [0,1,2,3,4,5,6]⟩
  ·rintro hm az av s' _ w hk ⟨bj,O,rfl,j⟩ o
   refine RC.sr (ic ((az:Int)) ((p0_2.length:Int)) (RL.nq (RC.cO (my hk) (RC.ss (RC.bs ?_)))))
   obtain⟨bw,bx,o⟩:=bd o
   refine RL.cA 2 j Cq bx fun cq j=>(RL.bC 0 bw j oY fun cr j=>(RL.alloc j Fh.z fun ct w j=>?_))
   refine RL.bD 0 j 1 zr oY fun w j=>?_
   refine RL.ns (RL.aN (f:=(fun x=>x)) 0 j zr Fd.self oY fun bz j=>(mv (vi ab) ?_))
   obtain⟨cu,b1,o⟩:=bd o
   refine RL.call zt zr JX [bz,(vi ab)] zr (aF (mL N (p1:=(ab:Int)) (i0:=0) j zr b1) ?_)
   rintro _ w ⟨rfl,j⟩
   refine RL.nt ?_
   obtain⟨a6,hj,o⟩:=bd o
   refine RC.jn (fun(a6: (List aJ)) U w=>∃a3:Value,SH E V [(0,vp b0 0),(3,vb aa.2.2),(4,vi ab),(5,ah),(6,a3),(16,v0_0),(17,vi p0_0.length),(18,vi ab),(27,v0_2),(28,vi p0_2.length),(29,vi az)] [bc 71 b0 [v0_0,v0_1,v0_2,v0_3,af,ag,v0_6,v0_7,v0_8,v0_9,v0_10,v0_11],rd v0_0 p0_0,rd v0_2 p0_2,own 113 af aa.1,own 171 ag aa.2.1,rd ah a2,own 83 a3 a6] U w) a6 ?_ ?_
   ·refine eH hj (fun hc hj=>?_) fun hc hj=>?_
    rotate_left
    ·refine RC.skip ?_
     obtain rfl:=oi hj
     exact⟨rfl,bj,j.sp 11 [4,5,6,7,8,9,10]⟩
    refine RC.region (mv bj (RL.aN (f:=(fun x=>x)) 1 j zr Fd.self oY fun b3 j=>?_))
    obtain⟨b4,b5,hj⟩:=bd hj
    refine RL.call zt zr Fi [b3] zr (aF (gO N (i0:=0) j zr b5) ?_)
    rintro b6 w j
    refine RL.eF ([b4]: (List aJ)) j [b6] mH pH (fun M hs g=>⟨(g.sat 0 _ zr).1,zt⟩) fun cv w j=>?_
    have j:=j.freeze 0
    obtain⟨cw,b7,hj⟩:=bd hj
    refine RL.app 13 0 j Ff b7 fun bk w j=>?_
    refine aM bk (RL.nil ?_)
    obtain rfl:=oi hj
    exact⟨rfl,bk,j.sp 14 [7,8,9,10,11,12,13]⟩
   rintro _ w ⟨a3,O,rfl,j⟩
   refine bO (aG (RC.region (RL.inc hk hm (mv (vi ((az+1:Nat):Int)) (RL.nil ?_)))))
   obtain rfl:=oi o
   exact⟨rfl,a3,j.sp 7 [0,1,2,3,4,5,6]⟩
  rintro _ w ⟨a0,O,rfl,j⟩
  refine aG (RC.sr (mv ah ?_))
  obtain⟨cx,b8,o⟩:=bd o
  refine RL.call zt zr GX [ah] zr (aF (ln N (i0:=5) j zr b8) ?_)
  rintro b9 w j
  refine mv a0 ?_
  have j:=j.freeze 7
  obtain⟨cy,ca,o⟩:=bd o
  refine RL.call zt zr GX [a0] zr (aF (ln N (i0:=7) j zr ca) ?_)
  rintro cb w j
  have j:=(j.freeze 1).freeze 0
  obtain⟨cz,cc,o⟩:=bd o
  refine RL.call zt zr MP [b9,cb] zr (aF (vP N (i0:=1) (i1:=0) j zr zr cc) ?_)
  rintro a1 w j
  refine aM a1 (RL.nq ?_)
  obtain⟨an,hj,o⟩:=bd o
  refine RC.jn (fun(an:Bool×(List aA)) U w=>∃ao:Value,SH E V [(0,vp b0 0),(3,vb an.1),(4,vi ab),(9,ao),(16,v0_0),(17,vi p0_0.length),(18,vi ab)] [bc 71 b0 [v0_0,v0_1,v0_2,v0_3,af,ag,v0_6,v0_7,v0_8,v0_9,v0_10,v0_11],rd v0_0 p0_0,rd v0_2 p0_2,own 113 af aa.1,own 171 ag aa.2.1,rd ao an.2] U w) an ?_ ?_
  ·refine RC.region (mv (vb aa.2.2) (mv (vb aa.2.2) (gZ hj (fun ai hj=>?_) fun ai hj=>?_)))
   rotate_left
   ·refine bZ ai (bZ ai (bZ ai (g9 ai (vb false) (aM (vb false) (RL.nil ?_)))))
    obtain rfl:=oi hj
    have j:=j.freeze 0
    exact⟨rfl,a1,j.sp 10 [3,4,5,6,7,0]⟩
   refine RL.move a1 (cg ai) ?_
   have j:=j.freeze 0
   obtain⟨a7,cd,hj⟩:=bd hj
   refine RL.call (cg ai) zr MQ [a1] zr (aF (vQ N (i0:=0) j zr cd) ?_)
   rintro _ w ⟨rfl,j⟩
   refine RL.kI a7 2000 (cg ai) (g9 ai (vb (decide (a7<=2000))) (aM (vb (decide (a7<=2000))) (RL.nil ?_)))
   obtain rfl:=oi hj
   exact⟨rfl,a1,j.sp 10 [3,4,5,6,7,0]⟩
  rintro _ w ⟨ao,O,rfl,j⟩
  refine aG (RC.sr (mv (vp b0 0) (mv (vp b0 0) (RL.nilCheck zr (RL.bH zr G3 (RL.bV 0 af j K5 (mv ao (RL.eF ([an.2]: (List (List aA))) j [ao] G1 G2 (fun M hs g=>⟨(g.sat 5 _ zr).1,zt⟩) fun c0 w j=>?_))))))))
  have j:=j.freeze 0
  obtain⟨bl,cf,o⟩:=bd o
  refine RL.app 4 0 j K6 cf fun aq w j=>?_
  refine RL.nilCheck zr (RL.bH zr G3 (RL.jS 1 aq j zr zr (ki 4 j) K5 fun w j=>?_))
  refine RL.ns (mv ao ?_)
  obtain⟨ar,ch,o⟩:=bd o
  refine RL.call zt zr MT [ao] zr (aF (uR N (i0:=6) j zr ch) ?_)
  rintro a8 w j
  refine RL.eO 0 ar j K1 (mv (vi 0) (RL.nt ?_))
  obtain⟨aw,hN,o⟩:=bd o
  refine RC.fold (fun(a4:Nat) (aw: (List aI)) U w=>∃bm:Value,SH E V [(0,vp b0 0),(3,vb an.1),(4,vi ab),(16,v0_0),(17,vi p0_0.length),(18,vi ab),(64,a8),(65,vi ar.length),(66,vi a4)] [bc 71 b0 [v0_0,v0_1,v0_2,v0_3,aq,bm,v0_6,v0_7,v0_8,v0_9,v0_10,v0_11],own 171 bm aw,rd v0_0 p0_0,rd v0_2 p0_2,own 113 aq bl,own 113 a8 ar] U w) (fun(aw: (List aI)) U w=>∃a5:Value,SH E V [(0,vp b0 0),(3,vb an.1),(16,v0_0),(17,vi p0_0.length),(18,vi ab)] [bc 71 b0 [v0_0,v0_1,v0_2,v0_3,aq,a5,v0_6,v0_7,v0_8,v0_9,v0_10,v0_11],own 171 a5 aw,rd v0_0 p0_0,rd v0_2 p0_2,own 113 aq bl,own 113 a8 ar] U w) hN ?_ ?_ ?_ ?_
  ·exact⟨ag,j.sp 8 [2,6,3,4,5,0]⟩
  ·rintro hm aw _ w ⟨cj,O,rfl,j⟩
   refine RC.sr (ic ((ar.length:Int)) ((ar.length:Int)) (RL.nq (RC.cP mz (RC.ex ?_))))
   exact⟨rfl,cj,j.sp 6 [0,1,2,3,4,5]⟩
  ·rintro hm a4 aw s' _ w hk ⟨a9,O,rfl,j⟩ o
   refine RC.sr (ic ((a4:Int)) ((ar.length:Int)) (RL.nq (RC.cO (my hk) (RC.ss (RC.bs ?_)))))
   obtain⟨bn,ba,o⟩:=bd o
   refine RL.bY 5 j zr zr G1 ba (RL.kh (f:=(fun x=>x)) 5 j (kC 5 j ba 0) (bG ba).2.1 Fd.self Jm fun ax j=>?_)
   refine aM ax (RL.nt ?_)
   have j:=j.drew
   refine RC.E6 (fun w=>Holds E w ([bc 71 b0 [v0_0,v0_1,v0_2,v0_3,aq,a9,v0_6,v0_7,v0_8,v0_9,v0_10,v0_11]]++V)) mixed zr [1,1,1,1,1,1,1,0,2,0,2,2,0,0,2] [0,1,2,3,4,5,6,7,8,9,10,11,12,13,14] (j.pk 7 [1]) (DP.e1 (vp b0 0) zr (fun w=>RL.move (vp b0 0) zt DP.d1) (DP.e1 (vp b0 0) zr (fun w=>RL.move (vp b0 0) zt DP.d1) (DP.e1 (vp b0 0) zr (fun w=>RL.nilCheck zr DP.d1) (DP.e1 (vp b0 5) zr (fun w=>RL.bH zr wO DP.d1) (DP.Je a9 zr (fun w j=>RL.bV 0 a9 j Fp DP.d1) (DP.e1 (vi ab) zr (fun w=>RL.move (vi ab) zt DP.d1) (DP.e1 ax zr (fun w=>RL.move ax zt DP.d1) (DP.e0 zr ?_))))))))
   refine mv ax (xt zr ?_)
   obtain⟨bo,ck,o⟩:=bd o
   refine RL.call zt zr JV [ax] zr (aF (mh N (i0:=0) j zr ck) ?_)
   rintro cl w j
   refine DP.d2 (j.pk 8 [2]) (DP.e0 zr ?_)
   have j:=(j.sc Int (ab:Int)).freeze 1
   refine RL.build (⟨(ab:Int),bn,bo⟩:aI) trivial rfl j [(0,vi ab),(1,ax),(2,cl)] rfl K7 rfl (fun M hs g=>by have h:=yu M;exact cZ.cons (f:=fun(x:aI) y=>{x with eU:=y}) h vv (g.sat 0 _ rfl).1 fun _ h=>cZ.cons (f:=fun(x:aI) y=>{x with Set:=y}) h vx (g.sat 2 _ rfl).1 fun _ h=>cZ.cons (f:=fun(x:aI) y=>{x with nT:=y}) h vz (g.sat 1 _ rfl).1 fun _ h=>cZ.nil h) fun cm j=>?_
   refine xt zr (RL.eF ([(⟨(ab:Int),bn,bo⟩:aI)]: (List aI)) j [cm] JY G5 (fun M hs g=>⟨(g.sat 0 _ zr).1,zt⟩) fun c1 w j=>(DP.d2 (j.pk 11 [5]) (DP.e2 zr ?_)))
   have j:=j.freeze 0
   obtain⟨c2,cn,o⟩:=bd o
   refine RL.app 6 0 j MU cn fun bp w j=>?_
   refine DP.d2 (j.pk 11 [5]) (DP.e0 zr (RL.nilCheck zr (dA zr (RL.bH zr wO (DP.d0 (DP.NU zr zr (RL.jS 5 bp j zr zr (ki 6 j) Fp fun w j=>?_)))))))
   refine DP.d2 zt (DP.z (bO (aG (RC.region (RL.inc hk hm (mv (vi ((a4+1:Nat):Int)) (RL.nil ?_)))))))
   obtain rfl:=oi o
   exact⟨rfl,bp,j.sp 11 [5,6,7,8,9,10]⟩
  rintro _ w ⟨a5,O,rfl,j⟩
  refine bO (aG (RC.region (RL.inc hk hm (mv (vi ((ab+1:Nat):Int)) (RL.nil ?_)))))
  obtain rfl:=oi o
  exact⟨rfl,aq,a5,j.sp 6 [0,4,1,2,3]⟩
 rintro _ w ⟨au,al,O,rfl,j⟩
 refine aG (RC.seq ?_)
 obtain⟨bb,hj,o⟩:=bd o
 refine RC.jn (fun(bb:Bool)=>SH E V [(0,vp b0 0),(2,vb bb)] [bc 71 b0 [v0_0,v0_1,v0_2,v0_3,au,al,v0_6,v0_7,v0_8,v0_9,v0_10,v0_11],rd v0_0 p0_0,rd v0_2 p0_2,own 113 au aa.1,own 171 al aa.2.1]) bb ?_ ?_
 ·refine RC.region (mv (vb aa.2.2) (mv (vb aa.2.2) (gZ hj (fun ae hj=>?_) fun ae hj=>?_)))
  ·refine RL.move (vp b0 0) (cg ae) (RL.nilCheck (hg:=(cg ae)) zr (RL.bH (hg:=(cg ae)) zr wO (RL.bV (hg:=(cg ae)) 0 al j Fp (RL.eO (hg:=(cg ae)) 2 aa.2.1 j Iz (RL.kI (aa.2.1.length:Int) 2000 (cg ae) (g9 ae (vb (decide ((aa.2.1.length:Int)<=2000))) (aM (vb (decide ((aa.2.1.length:Int)<=2000))) (RL.nil ?_))))))))
   obtain rfl:=oi hj
   exact⟨rfl,j.sp 5 [0,3,4,1,2]⟩
  refine bZ ae (bZ ae (bZ ae (bZ ae (bZ ae (bZ ae (g9 ae (vb false) (aM (vb false) (RL.nil ?_))))))))
  obtain rfl:=oi hj
  exact⟨rfl,j.sp 5 [0,3,4,1,2]⟩
 rintro _ w ⟨O,rfl,j⟩
 refine aG (RC.ret ?_)
 obtain rfl:=oi o
 exact bU ⟨au,al,zr,j.pk 5 [0,3,4]⟩
end Go.Gk
namespace Go.Gk
open Go Go.Proofs
variable (N:Nat) {E w:World} {b0 i0 i1:Nat} {p0 p1 p2 res:Int} {v0 v0_0 v0_1 v0_10 v0_11 v0_2 v0_3 v0_4 v0_5 v0_6 v0_7 v0_8 v0_9 v1:Value} {V:List HP}
theorem wT {p0 p1:aJ} {res:Bool} (j:Holds E w V) (h0:V[i0]? =some (rd v0 p0)) (h1:V[i1]? =some (rd v1 p1)) (hb:pE N p0 p1=some res):
    Calls bB 99 [v0,v1].toArray w (gr (bA E V res)):=by
 unfold pE at hb
 refine enter Tryz.func99 zr zr ?_
 have j:=(j.dup (i0+0) h0).dup (i1+1) h1
 refine RC.sr (RL.cQ 1 v0 j zr fun o w j=>?_)
 refine RL.cQ 1 v1 j zr fun aa w j=>?_
 refine aM (vb false) (RL.ns (RL.bH zr kn (RL.aP 1 j zr fK dE (RL.bH zr ld (RL.aP 0 j zr gE dE (ic p0.X0 p1.X1 (mv (vb (decide (p0.X0<p1.X1))) (RL.gs true (decide (p0.X0<p1.X1)) (vp aa 0) zr zr zr (fA kn) ?_))))))))
 refine RL.gs true (decide (p0.X0<p1.X1)) (vi p1.X0) rfl rfl rfl (cL 0 rfl j (fun h=>by exact(dI h:cv (true&&((decide (p0.X0<p1.X1))==true)) (vp aa 0)= (vp aa 0))) rfl fK dE) (RL.gs true (decide (p0.X0<p1.X1)) (vp o 2) rfl rfl rfl (fA ld) (RL.gs true (decide (p0.X0<p1.X1)) (vi p0.X1) rfl rfl rfl (cL 1 rfl j (fun h=>by exact(dI h:cv (true&&((decide (p0.X0<p1.X1))==true)) (vp o 2)= (vp o 2))) rfl gE dE) (RL.gs true (decide (p0.X0<p1.X1)) (vb (decide (p1.X0<p0.X1))) rfl rfl rfl (eM .lss .i64 p1.X0 p0.X1 rfl (fun h=>by exact(dI h:cv (true&&((decide (p0.X0<p1.X1))==true)) (vi p1.X0)= (vi p1.X0))) (fun h=>by exact(dI h:cv (true&&((decide (p0.X0<p1.X1))==true)) (vi p0.X1)= (vi p0.X1))) rfl) (RL.pick (decide (p0.X0<p1.X1)) (vb ((decide (p0.X0<p1.X1))&&(decide (p1.X0<p0.X1)))) (kg true) (aM (vb ((decide (p0.X0<p1.X1))&&(decide (p1.X0<p0.X1)))) (RL.ns (RL.bH rfl k9 (RL.aP 1 j rfl gl dE ?_))))))))
 refine RL.bH rfl oI (RL.aP 0 j rfl j3 dE (ic p0.Y0 p1.Y1 (mv (vb (decide (p0.Y0<p1.Y1))) (RL.gs true (decide (p0.Y0<p1.Y1)) (vp aa 1) rfl rfl rfl (fA k9) (RL.gs true (decide (p0.Y0<p1.Y1)) (vi p1.Y0) rfl rfl rfl (cL 0 rfl j (fun h=>by exact(dI h:cv (true&&((decide (p0.Y0<p1.Y1))==true)) (vp aa 1)= (vp aa 1))) rfl gl dE) (RL.gs true (decide (p0.Y0<p1.Y1)) (vp o 3) rfl rfl rfl (fA oI) (RL.gs true (decide (p0.Y0<p1.Y1)) (vi p0.Y1) rfl rfl rfl (cL 1 rfl j (fun h=>by exact(dI h:cv (true&&((decide (p0.Y0<p1.Y1))==true)) (vp o 3)= (vp o 3))) rfl j3 dE) (RL.gs true (decide (p0.Y0<p1.Y1)) (vb (decide (p1.Y0<p0.Y1))) rfl rfl rfl (eM .lss .i64 p1.Y0 p0.Y1 rfl (fun h=>by exact(dI h:cv (true&&((decide (p0.Y0<p1.Y1))==true)) (vi p1.Y0)= (vi p1.Y0))) (fun h=>by exact(dI h:cv (true&&((decide (p0.Y0<p1.Y1))==true)) (vi p0.Y1)= (vi p0.Y1))) rfl) ?_))))))))
 refine RL.pick (decide (p0.Y0<p1.Y1)) (vb ((decide (p0.Y0<p1.Y1))&&(decide (p1.Y0<p0.Y1)))) (kg true) (aM (vb ((decide (p0.Y0<p1.Y1))&&(decide (p1.Y0<p0.Y1)))) (RL.ns (mv (vb ((decide (p0.X0<p1.X1))&&(decide (p1.X0<p0.X1)))) (mv (vb ((decide (p0.X0<p1.X1))&&(decide (p1.X0<p0.X1)))) (RL.gs true ((decide (p0.X0<p1.X1))&&(decide (p1.X0<p0.X1))) (vp o 3) rfl rfl rfl (fA oI) (RL.gs true ((decide (p0.X0<p1.X1))&&(decide (p1.X0<p0.X1))) (vi p0.Y1) rfl rfl rfl (cL 1 rfl j (fun h=>by exact(dI h:cv (true&&(((decide (p0.X0<p1.X1))&&(decide (p1.X0<p0.X1)))==true)) (vp o 3)= (vp o 3))) rfl j3 dE) (RL.gs true ((decide (p0.X0<p1.X1))&&(decide (p1.X0<p0.X1))) (vp aa 1) rfl rfl rfl (fA k9) (RL.gs true ((decide (p0.X0<p1.X1))&&(decide (p1.X0<p0.X1))) (vi p1.Y0) rfl rfl rfl (cL 0 rfl j (fun h=>by exact(dI h:cv (true&&(((decide (p0.X0<p1.X1))&&(decide (p1.X0<p0.X1)))==true)) (vp aa 1)= (vp aa 1))) rfl gl dE) ?_))))))))
 refine RL.gs true ((decide (p0.X0<p1.X1))&&(decide (p1.X0<p0.X1))) (vb (p0.Y1==p1.Y0)) rfl rfl rfl (eM .eql .i64 p0.Y1 p1.Y0 rfl (fun h=>by exact(dI h:cv (true&&(((decide (p0.X0<p1.X1))&&(decide (p1.X0<p0.X1)))==true)) (vi p0.Y1)= (vi p0.Y1))) (fun h=>by exact(dI h:cv (true&&(((decide (p0.X0<p1.X1))&&(decide (p1.X0<p0.X1)))==true)) (vi p1.Y0)= (vi p1.Y0))) rfl) (RL.gs true ((decide (p0.X0<p1.X1))&&(decide (p1.X0<p0.X1))) (vb (p0.Y1==p1.Y0)) rfl rfl rfl (dQ (hx:=fun h=>by exact(dI h:cv (true&&(((decide (p0.X0<p1.X1))&&(decide (p1.X0<p0.X1)))==true)) (vb (p0.Y1==p1.Y0))= (vb (p0.Y1==p1.Y0))))) (RL.gs (true&&(((decide (p0.X0<p1.X1))&&(decide (p1.X0<p0.X1)))==true)) (p0.Y1==p1.Y0) (vp aa 3) rfl rfl rfl (fA oI) (RL.gs (true&&(((decide (p0.X0<p1.X1))&&(decide (p1.X0<p0.X1)))==true)) (p0.Y1==p1.Y0) (vi p1.Y1) rfl rfl rfl (cL 0 rfl j (fun h=>by exact(dI h:cv ((true&&(((decide (p0.X0<p1.X1))&&(decide (p1.X0<p0.X1)))==true))&&((p0.Y1==p1.Y0)==false)) (vp aa 3)= (vp aa 3))) rfl j3 dE) (RL.gs (true&&(((decide (p0.X0<p1.X1))&&(decide (p1.X0<p0.X1)))==true)) (p0.Y1==p1.Y0) (vp o 1) rfl rfl rfl (fA k9) (RL.gs (true&&(((decide (p0.X0<p1.X1))&&(decide (p1.X0<p0.X1)))==true)) (p0.Y1==p1.Y0) (vi p0.Y0) rfl rfl rfl (cL 1 rfl j (fun h=>by exact(dI h:cv ((true&&(((decide (p0.X0<p1.X1))&&(decide (p1.X0<p0.X1)))==true))&&((p0.Y1==p1.Y0)==false)) (vp o 1)= (vp o 1))) rfl gl dE) (RL.gs (true&&(((decide (p0.X0<p1.X1))&&(decide (p1.X0<p0.X1)))==true)) (p0.Y1==p1.Y0) (vb (p1.Y1==p0.Y0)) rfl rfl rfl (eM .eql .i64 p1.Y1 p0.Y0 rfl (fun h=>by exact(dI h:cv ((true&&(((decide (p0.X0<p1.X1))&&(decide (p1.X0<p0.X1)))==true))&&((p0.Y1==p1.Y0)==false)) (vi p1.Y1)= (vi p1.Y1))) (fun h=>by exact(dI h:cv ((true&&(((decide (p0.X0<p1.X1))&&(decide (p1.X0<p0.X1)))==true))&&((p0.Y1==p1.Y0)==false)) (vi p0.Y0)= (vi p0.Y0))) rfl) (RL.gs true ((decide (p0.X0<p1.X1))&&(decide (p1.X0<p0.X1))) (vb ((p0.Y1==p1.Y0)||(p1.Y1==p0.Y0))) rfl rfl rfl (tz (p0.Y1==p1.Y0) rfl (fun h=>by exact(dI h:cv (true&&(((decide (p0.X0<p1.X1))&&(decide (p1.X0<p0.X1)))==true)) (vb (p0.Y1==p1.Y0))= (vb (p0.Y1==p1.Y0)))) (fun h=>by exact nz (h:=h) (true&&(((decide (p0.X0<p1.X1))&&(decide (p1.X0<p0.X1)))==true)))) (RL.pick ((decide (p0.X0<p1.X1))&&(decide (p1.X0<p0.X1))) (vb (((decide (p0.X0<p1.X1))&&(decide (p1.X0<p0.X1)))&&((p0.Y1==p1.Y0)||(p1.Y1==p0.Y0)))) (kg true) ?_))))))))
 refine mv (vb (((decide (p0.X0<p1.X1))&&(decide (p1.X0<p0.X1)))&&((p0.Y1==p1.Y0)||(p1.Y1==p0.Y0)))) (RL.gs true (((decide (p0.X0<p1.X1))&&(decide (p1.X0<p0.X1)))&&((p0.Y1==p1.Y0)||(p1.Y1==p0.Y0))) (vb ((decide (p0.Y0<p1.Y1))&&(decide (p1.Y0<p0.Y1)))) rfl rfl rfl dQ (RL.gs true (((decide (p0.X0<p1.X1))&&(decide (p1.X0<p0.X1)))&&((p0.Y1==p1.Y0)||(p1.Y1==p0.Y0))) (vb ((decide (p0.Y0<p1.Y1))&&(decide (p1.Y0<p0.Y1)))) rfl rfl rfl (dQ (hx:=fun h=>by exact(dI h:cv (true&&((((decide (p0.X0<p1.X1))&&(decide (p1.X0<p0.X1)))&&((p0.Y1==p1.Y0)||(p1.Y1==p0.Y0)))==false)) (vb ((decide (p0.Y0<p1.Y1))&&(decide (p1.Y0<p0.Y1))))= (vb ((decide (p0.Y0<p1.Y1))&&(decide (p1.Y0<p0.Y1))))))) (RL.gs (true&&((((decide (p0.X0<p1.X1))&&(decide (p1.X0<p0.X1)))&&((p0.Y1==p1.Y0)||(p1.Y1==p0.Y0)))==false)) ((decide (p0.Y0<p1.Y1))&&(decide (p1.Y0<p0.Y1))) (vp o 2) rfl rfl rfl (fA ld) (RL.gs (true&&((((decide (p0.X0<p1.X1))&&(decide (p1.X0<p0.X1)))&&((p0.Y1==p1.Y0)||(p1.Y1==p0.Y0)))==false)) ((decide (p0.Y0<p1.Y1))&&(decide (p1.Y0<p0.Y1))) (vi p0.X1) rfl rfl rfl (cL 1 rfl j (fun h=>by exact(dI h:cv ((true&&((((decide (p0.X0<p1.X1))&&(decide (p1.X0<p0.X1)))&&((p0.Y1==p1.Y0)||(p1.Y1==p0.Y0)))==false))&&(((decide (p0.Y0<p1.Y1))&&(decide (p1.Y0<p0.Y1)))==true)) (vp o 2)= (vp o 2))) rfl gE dE) (RL.gs (true&&((((decide (p0.X0<p1.X1))&&(decide (p1.X0<p0.X1)))&&((p0.Y1==p1.Y0)||(p1.Y1==p0.Y0)))==false)) ((decide (p0.Y0<p1.Y1))&&(decide (p1.Y0<p0.Y1))) (vp aa 0) rfl rfl rfl (fA kn) (RL.gs (true&&((((decide (p0.X0<p1.X1))&&(decide (p1.X0<p0.X1)))&&((p0.Y1==p1.Y0)||(p1.Y1==p0.Y0)))==false)) ((decide (p0.Y0<p1.Y1))&&(decide (p1.Y0<p0.Y1))) (vi p1.X0) rfl rfl rfl (cL 0 rfl j (fun h=>by exact(dI h:cv ((true&&((((decide (p0.X0<p1.X1))&&(decide (p1.X0<p0.X1)))&&((p0.Y1==p1.Y0)||(p1.Y1==p0.Y0)))==false))&&(((decide (p0.Y0<p1.Y1))&&(decide (p1.Y0<p0.Y1)))==true)) (vp aa 0)= (vp aa 0))) rfl fK dE) (RL.gs (true&&((((decide (p0.X0<p1.X1))&&(decide (p1.X0<p0.X1)))&&((p0.Y1==p1.Y0)||(p1.Y1==p0.Y0)))==false)) ((decide (p0.Y0<p1.Y1))&&(decide (p1.Y0<p0.Y1))) (vb (p0.X1==p1.X0)) rfl rfl rfl (eM .eql .i64 p0.X1 p1.X0 rfl (fun h=>by exact(dI h:cv ((true&&((((decide (p0.X0<p1.X1))&&(decide (p1.X0<p0.X1)))&&((p0.Y1==p1.Y0)||(p1.Y1==p0.Y0)))==false))&&(((decide (p0.Y0<p1.Y1))&&(decide (p1.Y0<p0.Y1)))==true)) (vi p0.X1)= (vi p0.X1))) (fun h=>by exact(dI h:cv ((true&&((((decide (p0.X0<p1.X1))&&(decide (p1.X0<p0.X1)))&&((p0.Y1==p1.Y0)||(p1.Y1==p0.Y0)))==false))&&(((decide (p0.Y0<p1.Y1))&&(decide (p1.Y0<p0.Y1)))==true)) (vi p1.X0)= (vi p1.X0))) rfl) (RL.gs (true&&((((decide (p0.X0<p1.X1))&&(decide (p1.X0<p0.X1)))&&((p0.Y1==p1.Y0)||(p1.Y1==p0.Y0)))==false)) ((decide (p0.Y0<p1.Y1))&&(decide (p1.Y0<p0.Y1))) (vb (p0.X1==p1.X0)) rfl rfl rfl (dQ (hx:=fun h=>by exact(dI h:cv ((true&&((((decide (p0.X0<p1.X1))&&(decide (p1.X0<p0.X1)))&&((p0.Y1==p1.Y0)||(p1.Y1==p0.Y0)))==false))&&(((decide (p0.Y0<p1.Y1))&&(decide (p1.Y0<p0.Y1)))==true)) (vb (p0.X1==p1.X0))= (vb (p0.X1==p1.X0))))) ?_))))))))
 refine RL.gs ((true&&((((decide (p0.X0<p1.X1))&&(decide (p1.X0<p0.X1)))&&((p0.Y1==p1.Y0)||(p1.Y1==p0.Y0)))==false))&&(((decide (p0.Y0<p1.Y1))&&(decide (p1.Y0<p0.Y1)))==true)) (p0.X1==p1.X0) (vp aa 2) rfl rfl rfl (fA ld) (RL.gs ((true&&((((decide (p0.X0<p1.X1))&&(decide (p1.X0<p0.X1)))&&((p0.Y1==p1.Y0)||(p1.Y1==p0.Y0)))==false))&&(((decide (p0.Y0<p1.Y1))&&(decide (p1.Y0<p0.Y1)))==true)) (p0.X1==p1.X0) (vi p1.X1) rfl rfl rfl (cL 0 rfl j (fun h=>by exact(dI h:cv (((true&&((((decide (p0.X0<p1.X1))&&(decide (p1.X0<p0.X1)))&&((p0.Y1==p1.Y0)||(p1.Y1==p0.Y0)))==false))&&(((decide (p0.Y0<p1.Y1))&&(decide (p1.Y0<p0.Y1)))==true))&&((p0.X1==p1.X0)==false)) (vp aa 2)= (vp aa 2))) rfl gE dE) (RL.gs ((true&&((((decide (p0.X0<p1.X1))&&(decide (p1.X0<p0.X1)))&&((p0.Y1==p1.Y0)||(p1.Y1==p0.Y0)))==false))&&(((decide (p0.Y0<p1.Y1))&&(decide (p1.Y0<p0.Y1)))==true)) (p0.X1==p1.X0) (vp o 0) rfl rfl rfl (fA kn) (RL.gs ((true&&((((decide (p0.X0<p1.X1))&&(decide (p1.X0<p0.X1)))&&((p0.Y1==p1.Y0)||(p1.Y1==p0.Y0)))==false))&&(((decide (p0.Y0<p1.Y1))&&(decide (p1.Y0<p0.Y1)))==true)) (p0.X1==p1.X0) (vi p0.X0) rfl rfl rfl (cL 1 rfl j (fun h=>by exact(dI h:cv (((true&&((((decide (p0.X0<p1.X1))&&(decide (p1.X0<p0.X1)))&&((p0.Y1==p1.Y0)||(p1.Y1==p0.Y0)))==false))&&(((decide (p0.Y0<p1.Y1))&&(decide (p1.Y0<p0.Y1)))==true))&&((p0.X1==p1.X0)==false)) (vp o 0)= (vp o 0))) rfl fK dE) (RL.gs ((true&&((((decide (p0.X0<p1.X1))&&(decide (p1.X0<p0.X1)))&&((p0.Y1==p1.Y0)||(p1.Y1==p0.Y0)))==false))&&(((decide (p0.Y0<p1.Y1))&&(decide (p1.Y0<p0.Y1)))==true)) (p0.X1==p1.X0) (vb (p1.X1==p0.X0)) rfl rfl rfl (eM .eql .i64 p1.X1 p0.X0 rfl (fun h=>by exact(dI h:cv (((true&&((((decide (p0.X0<p1.X1))&&(decide (p1.X0<p0.X1)))&&((p0.Y1==p1.Y0)||(p1.Y1==p0.Y0)))==false))&&(((decide (p0.Y0<p1.Y1))&&(decide (p1.Y0<p0.Y1)))==true))&&((p0.X1==p1.X0)==false)) (vi p1.X1)= (vi p1.X1))) (fun h=>by exact(dI h:cv (((true&&((((decide (p0.X0<p1.X1))&&(decide (p1.X0<p0.X1)))&&((p0.Y1==p1.Y0)||(p1.Y1==p0.Y0)))==false))&&(((decide (p0.Y0<p1.Y1))&&(decide (p1.Y0<p0.Y1)))==true))&&((p0.X1==p1.X0)==false)) (vi p0.X0)= (vi p0.X0))) rfl) (RL.gs (true&&((((decide (p0.X0<p1.X1))&&(decide (p1.X0<p0.X1)))&&((p0.Y1==p1.Y0)||(p1.Y1==p0.Y0)))==false)) ((decide (p0.Y0<p1.Y1))&&(decide (p1.Y0<p0.Y1))) (vb ((p0.X1==p1.X0)||(p1.X1==p0.X0))) rfl rfl rfl (tz (p0.X1==p1.X0) rfl (fun h=>by exact(dI h:cv ((true&&((((decide (p0.X0<p1.X1))&&(decide (p1.X0<p0.X1)))&&((p0.Y1==p1.Y0)||(p1.Y1==p0.Y0)))==false))&&(((decide (p0.Y0<p1.Y1))&&(decide (p1.Y0<p0.Y1)))==true)) (vb (p0.X1==p1.X0))= (vb (p0.X1==p1.X0)))) (fun h=>by exact nz (h:=h) ((true&&((((decide (p0.X0<p1.X1))&&(decide (p1.X0<p0.X1)))&&((p0.Y1==p1.Y0)||(p1.Y1==p0.Y0)))==false))&&(((decide (p0.Y0<p1.Y1))&&(decide (p1.Y0<p0.Y1)))==true)))) (RL.gs true (((decide (p0.X0<p1.X1))&&(decide (p1.X0<p0.X1)))&&((p0.Y1==p1.Y0)||(p1.Y1==p0.Y0))) (vb (((decide (p0.Y0<p1.Y1))&&(decide (p1.Y0<p0.Y1)))&&((p0.X1==p1.X0)||(p1.X1==p0.X0)))) rfl rfl rfl (tz ((decide (p0.Y0<p1.Y1))&&(decide (p1.Y0<p0.Y1))) rfl (fun h=>by exact(dI h:cv (true&&((((decide (p0.X0<p1.X1))&&(decide (p1.X0<p0.X1)))&&((p0.Y1==p1.Y0)||(p1.Y1==p0.Y0)))==false)) (vb ((decide (p0.Y0<p1.Y1))&&(decide (p1.Y0<p0.Y1))))= (vb ((decide (p0.Y0<p1.Y1))&&(decide (p1.Y0<p0.Y1)))))) (fun h=>by exact kg (h:=h) (true&&((((decide (p0.X0<p1.X1))&&(decide (p1.X0<p0.X1)))&&((p0.Y1==p1.Y0)||(p1.Y1==p0.Y0)))==false)))) (RL.pick (((decide (p0.X0<p1.X1))&&(decide (p1.X0<p0.X1)))&&((p0.Y1==p1.Y0)||(p1.Y1==p0.Y0))) (vb ((((decide (p0.X0<p1.X1))&&(decide (p1.X0<p0.X1)))&&((p0.Y1==p1.Y0)||(p1.Y1==p0.Y0)))||(((decide (p0.Y0<p1.Y1))&&(decide (p1.Y0<p0.Y1)))&&((p0.X1==p1.X0)||(p1.X1==p0.X0))))) (nz true) (aM (vb ((((decide (p0.X0<p1.X1))&&(decide (p1.X0<p0.X1)))&&((p0.Y1==p1.Y0)||(p1.Y1==p0.Y0)))||(((decide (p0.Y0<p1.Y1))&&(decide (p1.Y0<p0.Y1)))&&((p0.X1==p1.X0)||(p1.X1==p0.X0))))) ?_))))))))
 refine RL.nt (RC.ret ?_)
 obtain rfl:=oi hb
 exact bU ⟨rfl,j.drop 4⟩
theorem pM {p0:aJ} {p1:cN} {res:Bool} (j:Holds E w V) (h0:V[i0]? =some (rd v0 p0)) (h1:V[i1]? =some (pt v1 p1)) (o:ji N p0 p1=some res):
    Calls bB 98 [v0,v1].toArray w (gr (bA E V res)):=by
 unfold ji at o
 refine enter Tryz.func98 zr zr ?_
 have j:=(j.dup (i0+0) h0).uC (i:=i1+1) h1
 refine RC.sr (RL.cQ 1 v0 j zr fun ah w j=>?_)
 have j:=j.hZ (i:=0) rfl
 refine aM (vb false) (RL.nq (RC.Cg mixed [1,0,2,2,0] [0,1,2,3,4] ?_))
 have j:=j.drew
 refine DP.AU p0 0 zr zt j jf fun aa a33 ai j=>(DP.e0 zr (RL.bC 3 p1 j oY fun ab j=>(xt zr ?_)))
 obtain⟨aj,ad,o⟩:=bd o
 refine RL.call zt zr Fi [ab] zr (aF (gO N (i0:=0) j zr ad) ?_)
 rintro ae w j
 refine DP.d2 (⟨zt,j.m5 2⟩) (DP.e2 zr ?_)
 obtain⟨af,ag,o⟩:=bd o
 refine RL.call zt zr MW [aa,ae] zr (aF (wT N (i0:=3) (i1:=0) j zr zr ag) ?_)
 rintro _ w ⟨rfl,j⟩
 refine DP.d2 (⟨zt,j.m5 2⟩) (DP.e0 zr (aM (vb af) (DP.d0 ?_)))
 have j:=j.pl 7 [0,1,3,4,5,6]
 refine DP.z (aG (RC.ret ?_))
 obtain rfl:=oi o
 exact bU ⟨rfl,j.drop 6⟩
theorem kQ {p0: (List aJ)} {p1:aJ->Option Bool} {res:Bool} (j:Holds E w V) (h0:V[i0]? =some (rd v0 p0)) (h1:Ef bB E V v1 p1 (fun(r:Bool)=>Value.bool r)) (o:fN N p0 p1=some res):
    Calls bB 97 [v0,v1].toArray w (gr (bA E V res)):=by
 unfold fN at o
 refine enter Tryz.func97 zr zr ?_
 have j:=j.dup (i0+0) h0
 refine RC.sr (aM (vb false) (RL.ns (mv v0 (mv v1 ?_))))
 obtain⟨aa,ab,o⟩:=bd o
 refine RL.call zt zr Jj [v0,v1] zr (aF (pL N (i0:=0) j zr (h1.lift 1 zr) ab) ?_)
 rintro _ w ⟨rfl,j⟩
 refine ic aa 0 (aM (vb (decide (aa>=0))) (RL.nt (RC.ret ?_)))
 obtain rfl:=oi o
 exact bU ⟨rfl,j.drop 1⟩
def sU (E:World) (V:List HP) (b0:Nat) (v0_0 v0_1:Value) (v0_2 v0_3:Value) (v0_4 v0_5:Value) (v0_7 v0_8:Value) (v0_9 v0_10 v0_11:Value) (res: (List (List Int))) (v:Value) (w:World):Prop:=∃u0_6:Value,v = .tuple #[]/\Holds E w ([bc 71 b0 [v0_0,v0_1,v0_2,v0_3,v0_4,v0_5,u0_6,v0_7,v0_8,v0_9,v0_10,v0_11],own 68 u0_6 res]++V)
theorem rP {p0_2: (List cN)} {p0_5: (List aI)} {p0_6: (List (List Int))} {res: (List (List Int))} (j:Holds E w (bc 71 b0 [v0_0,v0_1,v0_2,v0_3,v0_4,v0_5,v0_6,v0_7,v0_8,v0_9,v0_10,v0_11]::rd v0_2 p0_2::rd v0_5 p0_5::own 68 v0_6 p0_6::V)) (hb:i9 N p0_2 p0_5 p0_6=some res):
    Calls bB 49 [(vp b0 0)].toArray w (gr (sU E V b0 v0_0 v0_1 v0_2 v0_3 v0_4 v0_5 v0_7 v0_8 v0_9 v0_10 v0_11 res)):=by
 unfold i9 at hb
 refine enter Tryz.func49 zr zr (RC.sr (mv (vp b0 0) (RL.nilCheck zr (RL.bH zr qV (RL.bH zr pI (RL.bV 0 v0_2 j zJ (RL.bF 1 p0_2 j A2 (mv (vi 0) ?_))))))))
 refine RL.nt ?_
 obtain⟨af,hN,hb⟩:=bd hb
 refine RC.fold (fun(ai:Nat) (af: (List (List Int))) U w=>∃az:Value,SH E V [(0,vp b0 0),(11,v0_2),(12,vi p0_2.length),(13,vi ai)] [bc 71 b0 [v0_0,v0_1,v0_2,v0_3,v0_4,v0_5,az,v0_7,v0_8,v0_9,v0_10,v0_11],own 68 az af,rd v0_2 p0_2,rd v0_5 p0_5] U w) (fun(af: (List (List Int))) U w=>∃aq:Value,SH E V [(0,vp b0 0)] [bc 71 b0 [v0_0,v0_1,v0_2,v0_3,v0_4,v0_5,aq,v0_7,v0_8,v0_9,v0_10,v0_11],own 68 aq af,rd v0_2 p0_2,rd v0_5 p0_5] U w) hN ?_ ?_ ?_ ?_
 ·exact⟨v0_6,j.sp 4 [0,3,1,2]⟩
 ·rintro hm af _ w ⟨a4,O,rfl,j⟩
  refine RC.sr (ic ((p0_2.length:Int)) ((p0_2.length:Int)) (RL.nq (RC.cP mz (RC.ex ?_))))
  exact⟨rfl,a4,j.sp 4 [0,1,2,3]⟩
 ·rintro hm ai af s' _ w hk ⟨ah,O,rfl,j⟩ hb
  refine RC.sr (ic ((ai:Int)) ((p0_2.length:Int)) (RL.nq (RC.cO (my hk) (RC.ss (RC.bs ?_)))))
  obtain⟨aj,a5,hb⟩:=bd hb
  refine RL.cA 2 j Cq a5 fun bk j=>(RL.bC 0 aj j oY fun bl j=>(RL.alloc j Fh.z fun ag w j=>?_))
  refine RL.bD 0 j 1 zr oY fun w j=>?_
  refine RL.ns (aM (.slice none 0 0) (RL.nq (RC.sr (mv (vp b0 0) (RL.nilCheck zr (RL.bH zr wO (RL.bV 3 v0_5 j Fp (RL.bF 6 p0_5 j Iz ?_))))))))
  refine mv (vi 0) (RL.nt ?_)
  have j:=j.hZ (i:=0) rfl
  obtain⟨ak,hN,hb⟩:=bd hb
  refine RC.fold (fun(ab:Nat) (ak: (List Int)) U w=>∃a0:Value,SH E V [(0,vp b0 0),(3,vp ag 0),(4,a0),(11,v0_2),(12,vi p0_2.length),(13,vi ai),(20,v0_5),(21,vi p0_5.length),(22,vi ab)] [bc 71 b0 [v0_0,v0_1,v0_2,v0_3,v0_4,v0_5,ah,v0_7,v0_8,v0_9,v0_10,v0_11],rd v0_2 p0_2,rd v0_5 p0_5,own 68 ah af,pt (vp ag 0) aj,own 3 a0 ak] U w) (fun(ak: (List Int)) U w=>∃ao:Value,SH E V [(0,vp b0 0),(4,ao),(11,v0_2),(12,vi p0_2.length),(13,vi ai)] [bc 71 b0 [v0_0,v0_1,v0_2,v0_3,v0_4,v0_5,ah,v0_7,v0_8,v0_9,v0_10,v0_11],rd v0_2 p0_2,rd v0_5 p0_5,own 68 ah af,pt (vp ag 0) aj,own 3 ao ak] U w) hN ?_ ?_ ?_ ?_
  ·have j:=j.cW Int 3
   exact⟨(.slice none 0 0),j.sp 8 [4,6,7,5,1,0]⟩
  ·rintro hm ak _ w ⟨a6,O,rfl,j⟩
   refine RC.sr (ic ((p0_5.length:Int)) ((p0_5.length:Int)) (RL.nq (RC.cP mz (RC.ex ?_))))
   exact⟨rfl,a6,j.sp 6 [0,1,2,3,4,5]⟩
  ·rintro hm ab ak s' _ w hk ⟨ar,O,rfl,j⟩ hb
   refine RC.sr (ic ((ab:Int)) ((p0_5.length:Int)) (RL.nq (RC.cO (my hk) (RC.ss (RC.bs (mv (vi ab) ?_))))))
   obtain⟨aw,a7,hb⟩:=bd hb
   refine RL.cA 2 j JY a7 fun bm j=>(RL.bC 0 aw j Ev fun bn j=>(RL.alloc j G5.z fun bo w j=>?_))
   refine aM (vi ab) (RL.bD 0 j 1 zr Ev fun w j=>?_)
   refine RL.nq ?_
   obtain⟨ax,o,hb⟩:=bd hb
   refine RC.jn (fun(ax:Bool)=>SH E V [(0,vp b0 0),(3,vp ag 0),(4,ar),(5,vi ab),(11,v0_2),(12,vi p0_2.length),(13,vi ai),(20,v0_5),(21,vi p0_5.length),(22,vi ab),(40,vb ax)] [bc 71 b0 [v0_0,v0_1,v0_2,v0_3,v0_4,v0_5,ah,v0_7,v0_8,v0_9,v0_10,v0_11],rd v0_2 p0_2,rd v0_5 p0_5,own 68 ah af,pt (vp ag 0) aj,own 3 ar ak]) ax ?_ ?_
   ·refine RC.region (RL.fB 7 j zr Dt wF fun bp j=>(RL.bQ aj.jJ 0 j LU (mv (vb aj.jJ) (gZ o (fun ad o=>?_) fun ad o=>?_))))
    rotate_left
    ·refine bZ ad (bZ ad (bZ ad (bZ ad (g9 ad (vb false) (mv (vb false) (oG (oG (oG ?_))))))))
     refine oG (RL.pick false (vb false) zr (RL.nil ?_))
     obtain rfl:=oi o
     exact⟨rfl,j.sp 10 [4,5,6,7,8,9]⟩
    refine RL.bC (hg:=(cg ad)) 8 aj j oY fun a8 j=>(RL.bH (hg:=(cg ad)) zr Ew (RL.aP (hg:=(cg ad)) 2 j zr pd dE ?_))
    obtain⟨a1,a9,o⟩:=bd o
    refine RL.call (cg ad) zr JX [a8,(vi aw.eU)] zr (aF (mL N (p1:=aw.eU) (i0:=0) j zr a9) ?_)
    rintro _ w ⟨rfl,j⟩
    refine g9 ad (vb a1) (mv (vb a1) (gZ o (fun ae o=>?_) fun ae o=>?_))
    rotate_left
    ·refine bZ ae (bZ ae (bZ ae (bZ ae (g9 ae (vb false) (RL.nil ?_)))))
     obtain rfl:=oi o
     exact⟨rfl,j.sp 11 [5,6,7,8,9,10]⟩
    refine RL.bH (hg:=(cg ae)) zr Ex (RL.aN (hg:=(cg ae)) 2 j zr pf A1 fun ba j=>(RL.makeFunc (hg:=(cg ae)) [(vp ag 0)] ?_))
    obtain⟨bb,bf,o⟩:=bd o
    refine RL.call (cg ae) rfl K8 [ba,(.func (.func 98) #[] #[(vp ag 0)])] rfl (aF (kQ N (i0:=0) j rfl ⟨98,[(vp ag 0)],rfl,MX,fun w Γl v y0 r i j hi hr=>by exact aF (pM N (i0:=i) (i1:=Γl.length+10) j hi uA hr) fun _ _ h=>h⟩ bf) ?_)
    rintro _ w ⟨rfl,j⟩
    refine g9 ae (vb bb) (RL.nil ?_)
    obtain rfl:=oi o
    exact⟨rfl,j.sp 12 [6,7,8,9,10,11]⟩
   rintro _ w ⟨O,rfl,j⟩
   refine aG ?_
   obtain⟨ay,o,hb⟩:=bd hb
   refine RC.jn (fun(ay: (List Int)) U w=>∃au:Value,SH E V [(0,vp b0 0),(3,vp ag 0),(4,au),(11,v0_2),(12,vi p0_2.length),(13,vi ai),(20,v0_5),(21,vi p0_5.length),(22,vi ab)] [bc 71 b0 [v0_0,v0_1,v0_2,v0_3,v0_4,v0_5,ah,v0_7,v0_8,v0_9,v0_10,v0_11],rd v0_2 p0_2,rd v0_5 p0_5,own 68 ah af,pt (vp ag 0) aj,own 3 au ay] U w) ay ?_ ?_
   ·refine eH o (fun hc o=>?_) fun hc o=>?_
    rotate_left
    ·refine RC.skip ?_
     obtain rfl:=oi o
     exact⟨rfl,ar,j.sp 6 [0,1,2,3,4,5]⟩
    refine RC.region (mv ar (mv (vi ab) ?_))
    have j:=j.sc Int (ab:Int)
    refine RL.eF ([(ab:Int)]: (List Int)) j [(vi ab)] fV H5 (fun M hs g=>⟨(g.sat 0 _ zr).1,zt⟩) fun bq w j=>?_
    have j:=j.freeze 0
    obtain⟨br,bh,o⟩:=bd o
    refine RL.app 7 0 j wL bh fun a2 w j=>?_
    refine aM a2 (RL.nil ?_)
    obtain rfl:=oi o
    exact⟨rfl,a2,j.sp 8 [2,3,4,5,6,7]⟩
   rintro _ w ⟨au,O,rfl,j⟩
   refine bO (aG (RC.region (RL.inc hk hm (mv (vi ((ab+1:Nat):Int)) (RL.nil ?_)))))
   obtain rfl:=oi hb
   exact⟨rfl,au,j.sp 6 [0,1,2,3,4,5]⟩
  rintro _ w ⟨ao,O,rfl,j⟩
  refine aG (RC.region (mv (vp b0 0) (mv (vp b0 0) (RL.nilCheck zr (RL.bH zr Du (RL.bV 0 ah j JZ (mv ao ?_)))))))
  have j:=j.freeze 5
  refine RL.eF ([ak]: (List (List Int))) j [ao] Fq K9 (fun M hs g=>⟨(g.sat 5 _ zr).1,zt⟩) fun bt w j=>?_
  have j:=j.freeze 0
  obtain⟨bu,bj,hb⟩:=bd hb
  refine RL.app 4 0 j La bj fun a3 w j=>?_
  refine RL.nilCheck zr (RL.bH zr Du (RL.jS 1 a3 j zr zr (ki 4 j) JZ fun w j=>?_))
  refine RL.nil (bO (aG (RC.region (RL.inc hk hm (mv (vi ((ai+1:Nat):Int)) (RL.nil ?_))))))
  obtain rfl:=oi hb
  exact⟨rfl,a3,j.sp 7 [1,4,2,3]⟩
 rintro _ w ⟨aq,O,rfl,j⟩
 obtain rfl:=oi hb
 refine Ed ?_
 exact Jw zr ⟨aq,zr,j.pk 4 [0,1]⟩
def uS (E:World) (V:List HP) (res: ((List Int))) (v:Value) (w:World):Prop:=∃(ub0:Nat) (u0_0:Value),v=vp ub0 0/\Holds E w ([bc 204 ub0 [u0_0],own 3 u0_0 res]++V)
theorem t9 {res: ((List Int))} (j:Holds E w V) (hb:jX N p0=some res):
    Calls bB 100 [(vi p0)].toArray w (gr (uS E V res)):=by
 unfold jX at hb
 refine enter Tryz.func100 zr zr (RC.sr (aM (.pointer none) (RL.ns (mv (vi p0) ?_))))
 obtain⟨af,aj,hb⟩:=bd hb
 refine RL.mk p0 zr j zr zr wL KQ aj fun o w j=>?_
 refine RL.JE (zs:=[(.slice none 0 0)]) (cs:=[o]) zt zr [(0,o)] zr Lb ⟨(ki 0 j),zt⟩ zr (RL.xV [o] zr j zr (vm.all (⟨(ki 0 j),zt⟩:vm [o])) fun ab w j=>?_)
 refine aM (vp ab 0) (RL.nq (RC.sr (mv (vp ab 0) (RL.nilCheck zr (RL.bH zr n9 (RL.bV 0 o j fU (RL.eO 1 af j nC (mv (vi 0) ?_))))))))
 refine RL.nt ?_
 obtain⟨ae,hN,hb⟩:=bd hb
 refine RC.fold (fun(ad:Nat) (ae: (List Int))=>SH E V [(3,vp ab 0),(13,vi af.length),(14,vi ad)] [bc 204 ab [o],own 3 o ae]) (fun(ae: (List Int))=>SH E V [(3,vp ab 0)] [bc 204 ab [o],own 3 o ae]) hN ?_ ?_ ?_ ?_
 ·exact j.sp 2 [0,1]
 ·rintro hm ae _ w ⟨O,rfl,j⟩
  refine RC.sr (ic ((af.length:Int)) ((af.length:Int)) (RL.nq (RC.cP mz (RC.ex ?_))))
  exact⟨rfl,j.sp 2 [0,1]⟩
 ·rintro hm ad ae s' _ w hk ⟨O,rfl,j⟩ hb
  refine RC.sr (ic ((ad:Int)) ((af.length:Int)) (RL.nq (RC.cO (my hk) (RC.ss (RC.bs (mv (vi ad) (aM (vi ad) (RL.nt ?_))))))))
  refine RC.region (mv (vp ab 0) (RL.nilCheck zr (RL.bH zr n9 (RL.bV 0 o j fU (mv (vi ad) (mv (vi ad) ?_))))))
  obtain⟨al,ag,hb⟩:=bd hb
  refine RL.bY 1 j zr zr fV ag ?_
  have j:=j.sc Int (ad:Int)
  refine RL.iH (f:=(fun _ y=>y)) 2 0 j (kC 2 j ag 0) (bG ag).2.1 zr Fs.self dE fun w j=>?_
  refine RL.nil (bO (aG (RC.region (RL.inc hk hm (mv (vi ((ad+1:Nat):Int)) (RL.nil ?_))))))
  obtain rfl:=oi hb
  exact⟨rfl,j.sp 3 [1,2]⟩
 rintro _ w ⟨O,rfl,j⟩
 refine aG (RC.sr (mv (vp ab 0) (aM (vp ab 0) (RL.nt (RC.ret ?_)))))
 obtain rfl:=oi hb
 exact bU ⟨ab,o,zr,j.pk 2 [0,1]⟩
def uc (E:World) (V:List HP) (b0:Nat) (res:Int×(List Int)) (v:Value) (w:World):Prop:=∃u0_0:Value,v= (vi res.1)/\Holds E w ([bc 204 b0 [u0_0],own 3 u0_0 res.2]++V)
theorem lq {p0_0: (List Int)} {res:Int×(List Int)} (j:Holds E w (bc 204 b0 [v0_0]::own 3 v0_0 p0_0::V)) (o:fI N p0_0 p1=some res):
    Calls bB 127 [(vp b0 0),(vi p1)].toArray w (gr (uc E V b0 res)):=by
 unfold fI at o
 refine enter Tryz.func127 zr zr (RC.sr (aM (vi 0) (RL.nq ?_)))
 obtain⟨an,hN,o⟩:=bd o
 refine RC.iter (fun(aa: (List Int)×Int)=>SH E V [(0,vp b0 0),(1,vi aa.2)] [bc 204 b0 [v0_0],own 3 v0_0 aa.1]) (fun(aa: (List Int)×Int)=>SH E V [(0,vp b0 0),(1,vi aa.2)] [bc 204 b0 [v0_0],own 3 v0_0 aa.1]) (fun(r:Empty) _ _=>r.elim) hN ?_ ?_ ?_ ?_
 ·exact j.sp 2 [0,1]
 ·rintro aa fl _ w ⟨O,rfl,j⟩ o
  refine RC.seq (RC.sr (mv (vp b0 0) (RL.nilCheck zr (RL.bH zr n9 (RL.bV 0 v0_0 j fU (mv (vi aa.2) ?_))))))
  obtain⟨ai,ab,o⟩:=bd o
  refine RL.bY 1 j zr zr fV ab (RL.dX (f:=(fun x=>x)) 1 j (kC 1 j ab 0) (bG ab).2.1 Fd.self dE (mv (vi aa.2) (ic ai aa.2 (RL.nt (eH o (fun hc o=>?_) fun hc o=>?_)))))
  rotate_left
  ·refine RC.ex ?_
   obtain rfl:=oi o
   exact⟨rfl,j.sp 2 [0,1]⟩
  refine RC.sn (RC.block (RC.seq (RC.Cg mixed [0,0,0,0,0,0,0,0,0,0,0,0,0,0,0,0,0,0,0,2] [0,1,2,3,4,5,6,7,8,9,10,11,12,13,14,15,16,17,18,19] ?_)))
  have j:=j.drew
  refine DP.e0 zr (mv (vp b0 0) (dA zr (RL.nilCheck zr (dA zr (RL.bH zr n9 (dA zr (RL.bV 0 v0_0 j fU (dA zr ?_))))))))
  refine mv (vi aa.2) (dA zr (mv (vp b0 0) (dA zr (RL.nilCheck zr (dA zr (RL.bH zr n9 (dA zr (RL.bV 0 v0_0 j fU ?_))))))))
  refine dA zr (mv (vp b0 0) (dA zr (RL.nilCheck zr (dA zr (RL.bH zr n9 (dA zr (RL.bV 0 v0_0 j fU (dA zr ?_))))))))
  refine mv (vi aa.2) (dA zr ?_)
  obtain⟨aq,ad,o⟩:=bd o
  refine RL.bY 1 j zr zr fV ad (dA zr (RL.dX (f:=(fun x=>x)) 1 j (kC 1 j ad 0) (bG ad).2.1 Fd.self dE (dA zr ?_)))
  obtain⟨ak,ae,o⟩:=bd o
  refine RL.bY 1 j zr zr fV ae (dA zr (RL.dX (f:=(fun x=>x)) 1 j (kC 1 j ae 0) (bG ae).2.1 Fd.self dE (dA zr ?_)))
  obtain⟨ar,af,o⟩:=bd o
  refine RL.bY 1 j zr zr fV af (xt zr ?_)
  have j:=j.sc Int ak
  refine RL.iH (f:=(fun _ y=>y)) 2 0 j (kC 2 j af 0) (bG af).2.1 zr Fs.self dE fun w j=>?_
  refine DP.d2 zt (DP.z (aG (RC.region (mv (vp b0 0) (RL.nilCheck zr (RL.bH zr n9 (RL.bV 1 v0_0 j fU (mv (vi aa.2) ?_))))))))
  obtain⟨al,ag,o⟩:=bd o
  refine RL.bY 2 j zr zr fV ag (RL.dX (f:=(fun x=>x)) 2 j (kC 2 j ag 0) (bG ag).2.1 Fd.self dE (aM (vi al) (RL.nil (bO ?_))))
  obtain rfl:=oi o
  exact⟨rfl,j.sp 3 [1,2]⟩
 ·intro r _ _ _ _
  exact r.elim
 rintro aa _ w rfl ⟨O,rfl,j⟩
 rw [Fo.fW] at o
 refine aG (RC.sr (mv (vi aa.2) (aM (vi aa.2) (RL.nt (RC.ret ?_)))))
 obtain rfl:=oi o
 exact bU ⟨v0_0,zr,j.pk 2 [0,1]⟩
def sV (E:World) (V:List HP) (b0:Nat) (res: (List Int)) (v:Value) (w:World):Prop:=∃u0_0:Value,v = .tuple #[]/\Holds E w ([bc 204 b0 [u0_0],own 3 u0_0 res]++V)
theorem rQ {p0_0: (List Int)} {res: (List Int)} (j:Holds E w (bc 204 b0 [v0_0]::own 3 v0_0 p0_0::V)) (o:fZ N p0_0 p1 p2=some res):
    Calls bB 101 [(vp b0 0),(vi p1),(vi p2)].toArray w (gr (sV E V b0 res)):=by
 unfold fZ at o
 refine enter Tryz.func101 zr zr (RC.sr (mv (vp b0 0) (mv (vi p1) ?_)))
 have j:=(j.pull 1).pull 1
 obtain⟨aa,af,o⟩:=bd o
 refine RL.call zt zr G6 [(vp b0 0),(vi p1)] zr (aF (lq N (p1:=p1) j af) ?_)
 rintro _ w ⟨ah,rfl,j⟩
 refine mv (vp b0 0) (mv (vi p2) ?_)
 have j:=(j.pull 1).pull 1
 obtain⟨ab,ag,o⟩:=bd o
 refine RL.call zt zr G6 [(vp b0 0),(vi p2)] zr (aF (lq N (p1:=p2) j ag) ?_)
 rintro _ w ⟨ae,rfl,j⟩
 refine aM (vi aa.1) (aM (vi ab.1) (RL.nt (RC.region (mv (vp b0 0) (RL.nilCheck zr (RL.bH zr n9 (RL.bV 0 ae j fU (mv (vi aa.1) ?_))))))))
 refine mv (vi ab.1) (RL.max aa.1 ab.1 (mv (vi aa.1) (mv (vi ab.1) (RL.min aa.1 ab.1 ?_))))
 obtain⟨ai,ad,o⟩:=bd o
 refine RL.bY 1 j zr zr fV ad ?_
 have j:=j.sc Int (if ab.1<aa.1 then ab.1 else aa.1)
 refine RL.iH (f:=(fun _ y=>y)) 2 0 j (kC 2 j ad 0) (bG ad).2.1 zr Fs.self dE fun w j=>?_
 refine RL.nil ?_
 obtain rfl:=oi o
 refine Ed ?_
 exact Jw zr ⟨ae,zr,j.pk 7 [1,2]⟩
def sW (E:World) (V:List HP) (b0:Nat) (res: (List (List Int))×(List Int)) (v:Value) (w:World):Prop:=∃u0 u0_0:Value,v=u0/\Holds E w ([own 68 u0 res.1,bc 204 b0 [u0_0],own 3 u0_0 res.2]++V)
theorem rR {p0_0: (List Int)} {res: (List (List Int))×(List Int)} (o:Holds E w (bc 204 b0 [v0_0]::own 3 v0_0 p0_0::V)) (hb:ja N p0_0=some res):
    Calls bB 102 [(vp b0 0)].toArray w (gr (sW E V b0 res)):=by
 unfold ja at hb
 refine enter Tryz.func102 zr zr (RC.sr (aM (.slice none 0 0) (RL.ns (aM (.slice none 0 0) (RL.ns (RL.makeMap (κ:=Int) (ν:=Int) o fun aq w o=>(aM aq (RL.nq ?_))))))))
 refine RC.sr (mv (vp b0 0) (RL.nilCheck zr (RL.bH zr n9 (RL.bV 1 v0_0 o fU (RL.eO 2 p0_0 o nC (mv (vi 0) (RL.nt ?_)))))))
 obtain⟨ao,hN,hb⟩:=bd hb
 refine RC.fold (fun(ai:Nat) (ao: (List Int)×(List (List Int))×(List (Int×Int))) U w=>∃(a4 a5:Value) (us110:List RV),SH E V [(0,vp b0 0),(3,a5),(4,aq),(12,vi p0_0.length),(13,vi ai)] [bc 204 b0 [a4],own 3 a4 ao.1,mp aq ao.2.2,own 68 a5 us110,gV (XS 3 Int) us110 ao.2.1 none] U w) (fun(ao: (List Int)×(List (List Int))×(List (Int×Int))) U w=>∃(ax av:Value) (us113:List RV),SH E V [(0,vp b0 0),(3,av)] [bc 204 b0 [ax],own 3 ax ao.1,mp aq ao.2.2,own 68 av us113,gV (XS 3 Int) us113 ao.2.1 none] U w) hN ?_ ?_ ?_ ?_
 ·have o:=(o.xT (XS 3 Int)).cW RV 68
  exact⟨v0_0,(.slice none 0 0),([]:List RV),o.sp 5 [3,4,2,0,1]⟩
 ·rintro hm ao _ w ⟨bb,bf,us153,O,rfl,o⟩
  refine RC.sr (ic ((p0_0.length:Int)) ((p0_0.length:Int)) (RL.nq (RC.cP mz (RC.ex ?_))))
  exact⟨rfl,bb,bf,us153,o.sp 5 [0,1,2,3,4]⟩
 ·rintro hm ai ao s' _ w hk ⟨bl,a1,us116,O,rfl,o⟩ hb
  refine RC.sr (ic ((ai:Int)) ((p0_0.length:Int)) (RL.nq (RC.cO (my hk) (RC.ss (RC.bs (mv (vi ai) (aM (vi ai) (RL.ns ?_))))))))
  refine mv (vp b0 0) (mv (vi ai) ?_)
  have o:=(o.pull 1).pull 1
  obtain⟨ab,bg,hb⟩:=bd hb
  refine RL.call zt zr G6 [(vp b0 0),(vi ai)] zr (aF (lq N (p1:=(ai:Int)) o bg) ?_)
  rintro _ w ⟨aw,rfl,o⟩
  refine aM (vi ab.1) (RL.nq (RC.sr (mv (vi ab.1) (mv (vi ai) (ic ab.1 ((ai:Int)) (RL.nt ?_))))))
  obtain⟨aa,hj,hb⟩:=bd hb
  refine RC.jn (fun(aa: (List (List Int))×(List (Int×Int))) U w=>∃(an:Value) (us124:List RV),SH E V [(0,vp b0 0),(3,an),(4,aq),(5,vi ai),(6,vi ab.1),(12,vi p0_0.length),(13,vi ai)] [bc 204 b0 [aw],own 3 aw ab.2,mp aq aa.2,own 68 an us124,gV (XS 3 Int) us124 aa.1 none] U w) aa ?_ ?_
  ·refine eH hj (fun hc hj=>?_) fun hc hj=>?_
   rotate_left
   ·refine RC.skip ?_
    obtain rfl:=oi hj
    exact⟨rfl,a1,us116,o.sp 7 [0,1,4,5,6]⟩
   refine RC.sr (mv aq (mv (vi ai) (mv a1 (RL.oD 5 6 ao.2.1 o J0 ?_))))
   have o:=o.sc Int (ao.2.1.length:Int)
   refine RL.mapUpdate 5 0 (ai:Int) o zr zr zr zr yB fun w o=>(RL.nt (RC.region (mv a1 ?_)))
   have o:=(o.cW Int 3).B4 (i:=0) rfl
   refine RL.eF ([rv (.slice none 0 0)]:List RV) o [(.slice none 0 0)] Fq K9 (fun M hs g=>⟨(g.sat 0 _ zr).1,zt⟩) fun bm w o=>?_
   obtain⟨bn,bj,hj⟩:=bd hj
   have o:=o.freeze 0
   refine RL.yg 9 0 10 2 zr o zr zr zr zr zr zr La bj fun a8 w o=>?_
   refine aM a8 (RL.nil ?_)
   obtain rfl:=oi hj
   exact⟨rfl,a8,(us116++[rv (.slice none 0 0)]),o.sp 11 [4,5,8,9,10]⟩
  rintro _ w ⟨an,us124,O,rfl,o⟩
  refine aG ?_
  obtain⟨bo,ay,hb⟩:=bd hb
  obtain⟨au,bk,hb⟩:=bd hb
  obtain⟨bp,a2,hb⟩:=bd hb
  refine RC.Gf E V mixed [1,1,1,0,1,1,1,0,0,0,1,0,0,0,0] [11,12,14] (fun(x:Value×Value)=>(fun ak ag=>[(0,29,an),(1,30,aq),(2,31,(vi ab.1)),(3,32,(vi (dH aa.2 ab.1 (0:Int)))),(4,33,an),(5,34,aq),(6,35,(vi ab.1)),(7,36,(vi (dH aa.2 ab.1 (0:Int)))),(8,37,(z8 an (Int.toNat (dH aa.2 ab.1 (0:Int))) 1 0)),(9,38,(us124.getD (Int.toNat (dH aa.2 ab.1 (0:Int))) xp).v),(10,39,(vi ai)),(11,40,ak),(12,41,ag),(13,42,(z8 an (Int.toNat (dH aa.2 ab.1 (0:Int))) 1 0))]) x.1 x.2) [(0,vp b0 0),(3,an),(4,aq),(5,vi ai),(6,vi ab.1),(12,vi p0_0.length),(13,vi ai)] [] (fun(D:Nat->Bool) (x:Value×Value)=>(fun ak ag=>[bif D 1 then (rd ak ([(ai:Int)]: (List Int))) else (bif D 0 then (own 3 ak ([(ai:Int)]: (List Int))) else aW),bif D 2 then aW else (bif D 1 then (own 3 ag au) else aW),bc 204 b0 [aw],own 3 aw ab.2,mp aq aa.2,bif D 2 then (own 68 an (us124.set (Int.toNat (dH aa.2 ab.1 (0:Int))) (rv ag))) else (own 68 an us124),bif D 2 then (gV (XS 3 Int) (us124.set (Int.toNat (dH aa.2 ab.1 (0:Int))) (rv ag)) (aa.1.set (Int.toNat (dH aa.2 ab.1 (0:Int))) au) none) else (bif D 1 then (gV (XS 3 Int) us124 aa.1 (some (Int.toNat (dH aa.2 ab.1 (0:Int))))) else (gV (XS 3 Int) us124 aa.1 none))]) x.1 x.2) (fun x=>by kernel_rfl) ?_ ⟨fun _=>jZ gn,fun _=>jZ gn,fun _=>jZ gn,?_,fun _=>jZ gn,fun _=>jZ gn,fun _=>jZ gn,?_,?_,?_,fun _=>jZ gn,?_,?_,?_,?_,trivial⟩ ?_
  ·have o:=((o.drew).aW).aW
   exact⟨(undef,undef),eB.none,(Et zr),zt,o⟩
  ·rintro D U w hD ah ae ⟨⟨ak,ag⟩,hv,ha,_,o⟩
   obtain⟨O,rfl⟩:=(ac (hv.at 1 rfl (ah.1 rfl)) (ac (hv.at 2 rfl (ah.2.1 rfl)) az)).fC
   refine RL.r5 4 ab.1 zr o zr zr zr yB ?_
   exact RL.nil ⟨rfl,(ak,ag),hv.pu 3,ha.u,zt,o⟩
  ·rintro D U w hD ah ae ⟨⟨ak,ag⟩,hv,ha,_,o⟩
   obtain⟨O,rfl⟩:=(ac (hv.at 5 rfl (ah.1 rfl)) (ac (hv.at 6 rfl (ah.2.1 rfl)) az)).fC
   refine RL.r5 4 ab.1 zr o zr zr zr yB ?_
   exact RL.nil ⟨rfl,(ak,ag),hv.pu 7,ha.u,zt,o⟩
  ·rintro D U w hD ah ae ⟨⟨ak,ag⟩,hv,ha,_,o⟩
   obtain⟨O,rfl⟩:=(ac (hv.at 4 rfl (ah.1 rfl)) (ac (hv.at 7 rfl (ah.2.1 rfl)) az)).fC
   have o:=((o.bP 5 (nh ae hD 14)).bP 6 (nh ae hD 14)).bP 6 (nf (fun h=>ft hD ((ae 9 _ rfl ((ae 12 _ rfl h).1 rfl)).1 rfl)))
   have hl141:=o.fS 6
   have hr142:=iN xp hl141 ay
   refine RL.bY 5 o zr zr Fq hr142 ?_
   have o:=(o.dY 5 (D 14) (nh ae hD 14) (own 68 an (us124.set (Int.toNat (dH aa.2 ab.1 (0:Int))) (rv ag)))).dY 6 (D 12) (nf (fun h=>ft hD ((ae 9 _ rfl ((ae 12 _ rfl h).1 rfl)).1 rfl))) (gV (XS 3 Int) us124 aa.1 (some (Int.toNat (dH aa.2 ab.1 (0:Int)))))
   have o:=o.dY 6 (D 14) (nh ae hD 14) (gV (XS 3 Int) (us124.set (Int.toNat (dH aa.2 ab.1 (0:Int))) (rv ag)) (aa.1.set (Int.toNat (dH aa.2 ab.1 (0:Int))) au) none)
   exact RL.nil ⟨rfl,(ak,ag),hv.pu 8,ha.u,zt,o⟩
  ·rintro D U w hD ah ae ⟨⟨ak,ag⟩,hv,ha,_,o⟩
   obtain⟨O,rfl⟩:=(ac (hv.at 8 rfl (ah.1 rfl)) az).fC
   have o:=((o.bP 5 (nh ae hD 14)).bP 6 (nh ae hD 14)).bP 6 (nh ae hD 12)
   have hl143:=o.fS 6
   have hr144:=iN xp hl143 ay
   refine RL.tB 5 6 (dH aa.2 ab.1 (0:Int)) (vn 3 Int) xp zr o zr (kC 5 o hr144 0) zr zr ay fU ?_
   have o:=(o.dY 5 (D 14) (nh ae hD 14) (own 68 an (us124.set (Int.toNat (dH aa.2 ab.1 (0:Int))) (rv ag)))).dY 6 (D 12) (nh ae hD 12) (gV (XS 3 Int) us124 aa.1 (some (Int.toNat (dH aa.2 ab.1 (0:Int)))))
   have o:=o.dY 6 (D 14) (nh ae hD 14) (gV (XS 3 Int) (us124.set (Int.toNat (dH aa.2 ab.1 (0:Int))) (rv ag)) (aa.1.set (Int.toNat (dH aa.2 ab.1 (0:Int))) au) none)
   exact RL.nil ⟨rfl,(ak,ag),hv.pu 9,ha.u,zt,o⟩
  ·rintro D U w hD ah ae ⟨⟨ak,ag⟩,hv,ha,_,o⟩
   obtain⟨O,rfl⟩:=(ac (hv.at 10 rfl (ah.1 rfl)) az).fC
   have o:=((o.bP 0 (nh ae hD 12)).bP 0 hD).sc Int (ai:Int)
   refine RL.eF ([(ai:Int)]: (List Int)) o [(vi ai)] fV H5 (fun M hs g=>⟨(g.sat 0 _ zr).1,zt⟩) fun a9 w o=>?_
   have o:=((o.pl 9 [0,3,4,5,6,7,8]).cI 0 true rfl aW).dY 0 (D 12) (nh ae hD 12) (rd a9 ([(ai:Int)]: (List Int)))
   exact RL.nil ⟨rfl,(a9,ag),hv.pu 11,ha.u,zt,o⟩
  ·rintro D U w hD ah ae ⟨⟨ak,ag⟩,hv,ha,_,o⟩
   obtain⟨O,rfl⟩:=(ac (hv.at 9 rfl (ah.1 rfl)) (ac (hv.at 11 rfl (ah.2.1 rfl)) az)).fC
   have o:=(((((((o.bP 0 hD).cH 0 (ah.2.1 rfl)).bP 1 (nh ae hD 14)).bP 1 hD).bP 5 (nh ae hD 14)).bP 6 (nh ae hD 14)).bP 6 hD).yf (j:=6) (jj:=(dH aa.2 ab.1 (0:Int))) (vn 3 Int) xp rfl ay
   have o:=o.freeze 1
   refine RL.app 0 1 o wL bk fun a3 w o=>?_
   have o:=((((o.pl 8 [1,0,3,4,5,6,7]).cI 0 true rfl (bif D 11 then (own 3 ak ([(ai:Int)]: (List Int))) else aW)).cI 1 true rfl aW).dY 1 (D 14) (nh ae hD 14) aW).dY 5 (D 14) (nh ae hD 14) (own 68 an (us124.set (Int.toNat (dH aa.2 ab.1 (0:Int))) (rv a3)))
   have o:=(o.cI 6 true rfl (gV (XS 3 Int) us124 aa.1 none)).dY 6 (D 14) (nh ae hD 14) (gV (XS 3 Int) (us124.set (Int.toNat (dH aa.2 ab.1 (0:Int))) (rv a3)) (aa.1.set (Int.toNat (dH aa.2 ab.1 (0:Int))) au) none)
   exact RL.nil ⟨rfl,(ak,a3),hv.pu 12,ha.u,zt,o⟩
  ·rintro D U w hD ah ae ⟨⟨ak,ag⟩,hv,ha,_,o⟩
   obtain⟨O,rfl⟩:=(ac (hv.at 0 rfl (ah.1 rfl)) (ac (hv.at 3 rfl (ah.2.1 rfl)) az)).fC
   have o:=((o.bP 5 (nh ae hD 14)).bP 6 (nh ae hD 14)).cH 6 (ah.2.2.2.2.2.2.2.2.2.2.2.2.2.2.1 rfl)
   have hl147:=o.fS 6
   have hr148:=iN xp hl147 a2
   refine RL.bY 5 o zr zr Fq hr148 ?_
   have o:=(o.dY 5 (D 14) (nh ae hD 14) (own 68 an (us124.set (Int.toNat (dH aa.2 ab.1 (0:Int))) (rv ag)))).cI 6 (D 12) (ah.2.2.2.2.2.2.2.2.2.2.2.2.2.2.1 rfl) (gV (XS 3 Int) us124 aa.1 none)
   have o:=o.dY 6 (D 14) (nh ae hD 14) (gV (XS 3 Int) (us124.set (Int.toNat (dH aa.2 ab.1 (0:Int))) (rv ag)) (aa.1.set (Int.toNat (dH aa.2 ab.1 (0:Int))) au) none)
   exact RL.nil ⟨rfl,(ak,ag),hv.pu 13,ha.u,zt,o⟩
  ·rintro D U w hD ah ae ⟨⟨ak,ag⟩,hv,ha,_,o⟩
   obtain⟨O,rfl⟩:=(ac (hv.at 12 rfl (ah.2.1 rfl)) (ac (hv.at 13 rfl (ah.1 rfl)) az)).fC
   have o:=((((o.bP 1 hD).cH 1 (ah.2.1 rfl)).bP 5 hD).bP 6 hD).cH 6 (ah.2.1 rfl)
   have hl149:=o.fS 6
   have hr150:=iN xp hl149 a2
   refine RL.qJ 5 6 1 (dH aa.2 ab.1 (0:Int)) (vn 3 Int) xp o zr zr (kC 5 o hr150 0) zr zr zr a2 fU fun w o=>?_
   have o:=((o.cI 1 true rfl (bif D 12 then (own 3 ag au) else aW)).cI 5 true rfl (own 68 an us124)).cI 6 true rfl (bif D 12 then (gV (XS 3 Int) us124 aa.1 (some (Int.toNat (dH aa.2 ab.1 (0:Int))))) else (gV (XS 3 Int) us124 aa.1 none))
   exact RL.nil ⟨rfl,(ak,ag),hv.n1,ha,zt,o⟩
  rintro D U w a0 ⟨⟨ak,ag⟩,hv,ha,_,o⟩
  have o:=(((o.cH 0 (kD a0 12)).cH 1 (kD a0 14)).cH 5 (kD a0 14)).cH 6 (kD a0 14)
  obtain⟨O,rfl⟩:=(ac (ha.at 0 rfl) (ac (ha.at 1 rfl) (ac (ha.at 2 rfl) (ac (ha.at 3 rfl) (ac (ha.at 4 rfl) (ac (ha.at 5 rfl) (ac (ha.at 6 rfl) az))))))).fC
  refine bO (aG (RC.region (RL.inc hk hm (mv (vi ((ai+1:Nat):Int)) (RL.nil ?_)))))
  obtain rfl:=oi hb
  exact⟨rfl,aw,an,(us124.set (Int.toNat (dH aa.2 ab.1 (0:Int))) (rv ag)),o.sp 7 [2,3,4,5,6]⟩
 rintro _ w ⟨ax,av,us113,O,rfl,o⟩
 refine aG (RC.sr (mv av (aM av (RL.nt (RC.ret ?_)))))
 obtain rfl:=oi hb
 have o:=o.xU (X:=(XS 3 Int)) (b:=4) (j:=3) rfl (fun M h u x cs=>(GA 3) M h u x cs) rfl rfl (by decide)
 exact bU ⟨av,ax,zr,o.pk 5 [3,0,1]⟩
theorem rS {p0:aJ} {p1:ka} {res:Bool} (j:Holds E w V) (h0:V[i0]? =some (rd v0 p0)) (h1:V[i1]? =some (pt v1 p1)) (hb:kl N p0 p1=some res):
    Calls bB 163 [v0,v1].toArray w (gr (bA E V res)):=by
 unfold kl at hb
 refine enter Tryz.func163 zr zr ?_
 have j:=(j.dup (i0+0) h0).uC (i:=i1+1) h1
 refine RC.sr (RL.cQ 1 v0 j zr fun ag w j=>?_)
 refine aM (vb false) (RL.nq ?_)
 obtain⟨af,o,hb⟩:=bd hb
 refine RC.jn (fun(af:Bool)=>SH E V [(3,vb af)] []) af ?_ ?_
 ·refine RC.region (RL.fB 1 j zr A3 qP fun ah j=>(RL.bQ p1.X 0 j dE (RL.bH zr kn (RL.aP 1 j zr fK dE (ic p1.X p0.X0 (mv (vb (decide (p1.X>=p0.X0))) (gZ o (fun aa o=>?_) fun aa o=>?_)))))))
  rotate_left
  ·refine bZ aa (bZ aa (bZ aa (bZ aa (bZ aa (g9 aa (vb false) (mv (vb false) (oG (oG ?_))))))))
   refine oG (oG (oG (RL.pick false (vb false) zr (mv (vb false) (oG (oG (oG (oG ?_))))))))
   refine oG (RL.pick false (vb false) zr (aM (vb false) (RL.nil ?_)))
   obtain rfl:=oi o
   exact⟨rfl,j.sp 4 []⟩
  refine RL.fB (hg:=(cg aa)) 2 j zr A3 qP fun ai j=>(RL.bQ (hg:=(cg aa)) p1.X 0 j dE (RL.bH (hg:=(cg aa)) zr ld (RL.aP (hg:=(cg aa)) 2 j zr gE dE (RL.kI p1.X p0.X1 (cg aa) (g9 aa (vb (decide (p1.X<p0.X1))) (mv (vb (decide (p1.X<p0.X1))) (gZ o (fun ab o=>?_) fun ab o=>?_)))))))
  rotate_left
  ·refine bZ ab (bZ ab (bZ ab (bZ ab (bZ ab (g9 ab (vb false) (mv (vb false) (oG (oG ?_))))))))
   refine oG (oG (oG (RL.pick false (vb false) zr (aM (vb false) (RL.nil ?_)))))
   obtain rfl:=oi o
   exact⟨rfl,j.sp 5 []⟩
  refine RL.fB (hg:=(cg ab)) 3 j zr A4 qQ fun aj j=>(RL.bQ (hg:=(cg ab)) p1.Y 0 j dE (RL.bH (hg:=(cg ab)) zr k9 (RL.aP (hg:=(cg ab)) 3 j zr gl dE (RL.kI p1.Y p0.Y0 (cg ab) (g9 ab (vb (decide (p1.Y>=p0.Y0))) (mv (vb (decide (p1.Y>=p0.Y0))) (gZ o (fun ad o=>?_) fun ad o=>?_)))))))
  ·refine RL.fB (hg:=(cg ad)) 4 j zr A4 qQ fun ak j=>(RL.bQ (hg:=(cg ad)) p1.Y 0 j dE (RL.bH (hg:=(cg ad)) zr oI (RL.aP (hg:=(cg ad)) 4 j zr j3 dE (RL.kI p1.Y p0.Y1 (cg ad) (g9 ad (vb (decide (p1.Y<p0.Y1))) (aM (vb (decide (p1.Y<p0.Y1))) (RL.nil ?_)))))))
   obtain rfl:=oi o
   exact⟨rfl,j.sp 7 []⟩
  refine bZ ad (bZ ad (bZ ad (bZ ad (bZ ad (g9 ad (vb false) (aM (vb false) (RL.nil ?_)))))))
  obtain rfl:=oi o
  exact⟨rfl,j.sp 6 []⟩
 rintro _ w ⟨O,rfl,j⟩
 refine aG (RC.ret ?_)
 obtain rfl:=oi hb
 exact bU ⟨rfl,j.drop 0⟩
theorem oN {p0: (List aJ)} {p1:ka} {res:Bool} (j:Holds E w V) (h0:V[i0]? =some (rd v0 p0)) (h1:V[i1]? =some (rd v1 p1)) (o:jl N p0 p1=some res):
    Calls bB 128 [v0,v1].toArray w (gr (bA E V res)):=by
 unfold jl at o
 refine enter Tryz.func128 zr zr ?_
 have j:=(j.dup (i0+0) h0).dup (i1+1) h1
 refine RC.sr (RL.cQ 0 v1 j zr fun aa w j=>?_)
 have j:=j.hZ (i:=0) rfl
 refine aM (vb false) (RL.ns (mv v0 (RL.makeFunc [(vp aa 0)] ?_)))
 obtain⟨ab,ad,o⟩:=bd o
 refine RL.call trivial rfl K8 [v0,(.func (.func 163) #[] #[(vp aa 0)])] rfl (aF (kQ N (i0:=2) j rfl ⟨163,[(vp aa 0)],rfl,Lh,fun w Γl v y0 r i j hi hr=>by exact aF (rS N (i0:=i) (i1:=Γl.length+0) j hi uA hr) fun _ _ h=>h⟩ ad) ?_)
 rintro _ w ⟨rfl,j⟩
 refine aM (vb ab) (RL.nt (RC.ret ?_))
 obtain rfl:=oi o
 exact bU ⟨rfl,j.drop 3⟩
def nG (E:World) (V:List HP) (b0:Nat) (v0_0 v0_1:Value) (v0_2 v0_3:Value) (v0_4 v0_5:Value) (v0_6 v0_7:Value) (v0_8 v0_9:Value) (v0_10 v0_11:Value) (res:kb×Bool) (v:Value) (w:World):Prop:=∃u0:Value,v = .tuple #[u0,(vb res.2)]/\Holds E w ([rd u0 res.1,bc 71 b0 [v0_0,v0_1,v0_2,v0_3,v0_4,v0_5,v0_6,v0_7,v0_8,v0_9,v0_10,v0_11]]++V)
def nH (E:World) (V:List HP) (b0:Nat) (v0_0 v0_1:Value) (v0_2 v0_3:Value) (v0_4 v0_5:Value) (v0_6 v0_7:Value) (v0_8 v0_9:Value) (v0_10 v0_11:Value) (r:kb×Bool) (U:Nat->Value) (w:World):Prop:=mu bB 66 Tryz.f103 (nG E V b0 v0_0 v0_1 v0_2 v0_3 v0_4 v0_5 v0_6 v0_7 v0_8 v0_9 v0_10 v0_11 r) .ret U w
theorem rT {p0_2: (List cN)} {p0_5: (List aI)} {p1:eQ} {res:kb×Bool} (j:Holds E w (bc 71 b0 [v0_0,v0_1,v0_2,v0_3,v0_4,v0_5,v0_6,v0_7,v0_8,v0_9,v0_10,v0_11]::rd v0_2 p0_2::rd v0_5 p0_5::V)) (h1:V[i1]? =some (rd v1 p1)) (o:jc N p0_2 p0_5 p1=some res):
    Calls bB 103 [(vp b0 0),v1].toArray w (gr (nG E V b0 v0_0 v0_1 v0_2 v0_3 v0_4 v0_5 v0_6 v0_7 v0_8 v0_9 v0_10 v0_11 res)):=by
 unfold jc at o
 refine enter Tryz.func103 zr zr ?_
 have j:=j.dup (i1+3) h1
 refine RC.sr (RL.cQ 0 v1 j zr fun ah w j=>?_)
 have j:=j.hZ (i:=0) rfl
 refine RL.alloc j G7.z fun ae w j=>?_
 refine aM (vb false) (RL.nq (RC.sr (mv (vp b0 0) (RL.nilCheck zr (RL.bH zr qV (RL.bH zr pI (RL.bV 3 v0_2 j zJ (RL.bF 4 p0_2 j A2 ?_))))))))
 refine mv (vi 0) (RL.nt ?_)
 obtain⟨bm,hN,o⟩:=bd o
 refine RC.range (fun(af:Nat) (al:Unit)=>SH E V [(0,vp b0 0),(3,vp ah 0),(4,vp ae 0),(14,v0_2),(15,vi p0_2.length),(16,vi af)] [bc 71 b0 [v0_0,v0_1,v0_2,v0_3,v0_4,v0_5,v0_6,v0_7,v0_8,v0_9,v0_10,v0_11],rd v0_2 p0_2,rd v0_5 p0_5,pt (vp ah 0) p1,raw 179 ae 2]) (fun(al:Unit)=>SH E V [(0,vp b0 0),(3,vp ah 0),(4,vp ae 0)] [bc 71 b0 [v0_0,v0_1,v0_2,v0_3,v0_4,v0_5,v0_6,v0_7,v0_8,v0_9,v0_10,v0_11],rd v0_2 p0_2,rd v0_5 p0_5,pt (vp ah 0) p1,raw 179 ae 2]) (nH E V b0 v0_0 v0_1 v0_2 v0_3 v0_4 v0_5 v0_6 v0_7 v0_8 v0_9 v0_10 v0_11) hN ?_ ?_ ?_ ?_ ?_
 ·exact j.sp 6 [3,4,5,1,0]
 ·rintro hm al _ w ⟨O,rfl,j⟩
  refine RC.sr (ic ((p0_2.length:Int)) ((p0_2.length:Int)) (RL.nq (RC.cP mz (RC.ex ?_))))
  exact⟨rfl,j.sp 5 [0,1,2,3,4]⟩
 ·rintro hm af al fl _ w hk ⟨O,rfl,j⟩ o
  refine RC.sr (ic ((af:Int)) ((p0_2.length:Int)) (RL.nq (RC.cO (my hk) (RC.ss (RC.bs (mv (vi af) ?_))))))
  obtain⟨ax,a0,o⟩:=bd o
  refine RL.cA 1 j Cq a0 fun bn j=>(RL.bC 0 ax j oY fun bo j=>(RL.alloc j Fh.z fun bp w j=>?_))
  refine aM (vi af) (RL.bD 0 j 1 zr oY fun w j=>?_)
  refine RL.nq ?_
  obtain⟨aq,hj,o⟩:=bd o
  refine RC.jn (fun(aq:Bool)=>SH E V [(0,vp b0 0),(3,vp ah 0),(4,vp ae 0),(6,vi af),(14,v0_2),(15,vi p0_2.length),(16,vi af),(36,vb aq)] [bc 71 b0 [v0_0,v0_1,v0_2,v0_3,v0_4,v0_5,v0_6,v0_7,v0_8,v0_9,v0_10,v0_11],rd v0_2 p0_2,rd v0_5 p0_5,pt (vp ah 0) p1,raw 179 ae 2]) aq ?_ ?_
  ·refine RC.Cg mixed [0,0,0,0,0,0,2,0,0,0,2,2,1,1,2,0] [0,1,2,3,4,5,6,7,8,9,12,13,10,11,14,15] ?_
   have j:=j.drew
   refine DP.e0 zr (RL.bH zr Dt (dA zr (RL.aP 0 j zr wF LU (dA zr (mv (vb ax.jJ) (DP.d0 (gZ hj (fun ai hj=>?_) fun ai hj=>?_)))))))
   rotate_left
   ·refine DP.e0 zr (bZ ai (dA zr (bZ ai (dA zr (bZ ai (xt zr (bZ ai (Dh zr ?_))))))))
    refine g9 ai (vb false) (dA zr (mv (vb false) (dA zr (oG (DP.d0 (DP.e1 undef zr (fun w=>oG DP.d1) (DP.e1 undef zr (fun w=>oG DP.d1) (DP.e2 zr ?_))))))))
    refine oG (Iq zr (oG (Iq zr (oG (Dh zr (RL.pick false (vb false) zr (DP.d0 (DP.z ?_))))))))
    obtain rfl:=oi hj
    exact⟨rfl,j.sp 8 [3,4,5,6,7]⟩
   refine DP.e0 zr (RL.aN (hg:=(cg ai)) (f:=(fun x=>x)) 0 j zr Fd.self oY fun a1 j=>(dA zr (RL.fB (hg:=(cg ai)) 7 j zr Dr wG fun bq j=>(dA zr (RL.bQ (hg:=(cg ai)) p1.eU 0 j dE (xt zr ?_))))))
   obtain⟨ay,a2,hj⟩:=bd hj
   refine RL.call (cg ai) zr JX [a1,(vi p1.eU)] zr (aF (mL N (p1:=p1.eU) (i0:=1) j zr a2) ?_)
   rintro _ w ⟨rfl,j⟩
   refine Dh zr (g9 ai (vb ay) (dA zr (mv (vb ay) (DP.d0 (gZ hj (fun ab hj=>?_) fun ab hj=>?_)))))
   rotate_left
   ·refine DP.e0 zr (bZ ab (DP.d0 (DP.e1 undef zr (fun w=>bZ ab DP.d1) (DP.e1 undef zr (fun w=>bZ ab DP.d1) (DP.e2 zr (bZ ab (Iq zr (bZ ab ?_))))))))
    refine Iq zr (bZ ab (Dh zr (g9 ab (vb false) (DP.d0 (DP.z ?_)))))
    obtain rfl:=oi hj
    exact⟨rfl,j.sp 10 [5,6,7,8,9]⟩
   refine DP.e0 zr (RL.aN (hg:=(cg ab)) (f:=(fun x=>x)) 2 j zr Fd.self oY fun a3 j=>(DP.d0 (DP.Ky 9 zr zr (cg ab) zr j zr zr Ds wH fun br j=>(DP.AU p1.At 0 zr (cg ab) j Iy fun a4 a105 bt j=>(DP.e2 zr ?_)))))
   obtain⟨a5,a6,hj⟩:=bd hj
   refine RL.call (cg ab) zr Fi [a3] zr (aF (gO N (i0:=3) j zr a6) ?_)
   rintro a7 w j
   refine DP.d2 (⟨zt,j.m5 1⟩) (DP.e2 zr (RL.eF (hg:=(cg ab)) ([a5]: (List aJ)) j [a7] mH pH (fun M hs g=>⟨(g.sat 0 _ zr).1,zt⟩) fun a8 w j=>(DP.d2 (⟨zt,j.m5 2⟩) (DP.e2 zr ?_))))
   have j:=j.freeze 0
   obtain⟨gK,a9,hj⟩:=bd hj
   refine RL.call (cg ab) zr Jo [a8,a4] zr (aF (oN N (i0:=0) (i1:=3) j zr zr a9) ?_)
   rintro _ w ⟨rfl,j⟩
   refine DP.d2 (⟨zt,j.m5 2⟩) (DP.e0 zr (g9 ab (vb gK) (DP.d0 ?_)))
   have j:=j.pl 16 [0,1,3,4,5,6,7,8,9,10,11,12,13,14,15]
   refine DP.z ?_
   obtain rfl:=oi hj
   exact⟨rfl,j.sp 15 [10,11,12,13,14]⟩
  rintro _ w ⟨O,rfl,j⟩
  refine aG (eH o (fun hc o=>?_) fun hc o=>?_)
  rotate_left
  ·refine RC.skip (bO (aG (RC.region (RL.inc hk hm (mv (vi ((af+1:Nat):Int)) (RL.nil ?_))))))
   obtain rfl:=oi o
   exact⟨rfl,j.sp 5 [0,1,2,3,4]⟩
  refine RC.sr (mv (vi af) ?_)
  have j:=(j.sc Bool true).sc Int (af:Int)
  refine RL.build (⟨true,(af:Int)⟩:kb) trivial rfl j [(0,vb true),(1,vi af)] rfl G8 rfl (fun M hs g=>by have h:=GO M;exact cZ.cons (f:=fun(x:kb) y=>{x with cN:=y}) h GM (g.sat 1 _ rfl).1 fun _ h=>cZ.cons (f:=fun(x:kb) y=>{x with Number:=y}) h Ck (g.sat 0 _ rfl).1 fun _ h=>cZ.nil h) fun bu j=>?_
  refine RL.bD 7 j 0 zr vG fun w j=>?_
  refine aM (vb true) (RL.nt (RC.rb (bN ?_)))
  obtain rfl:=oi o
  exact⟨rfl,z6 7 j vG fun ba j=>⟨ba,zr,j.pk 9 [0,4]⟩⟩
 ·intro r U w e hK
  subst e
  refine bN ?_
  obtain rfl:=oi o
  exact hK
 rintro al _ w rfl ⟨O,rfl,j⟩
 rw [Fo.fW] at o
 refine aG (RC.seq (RC.sr (mv (vp b0 0) (RL.nilCheck zr (RL.bH zr wO (RL.bV 0 v0_5 j Fp (RL.bF 2 p0_5 j Iz (mv (vi 0) ?_))))))))
 refine RL.nt ?_
 obtain⟨bw,hN,o⟩:=bd o
 refine RC.range (fun(ag:Nat) (an:Unit)=>SH E V [(0,vp b0 0),(3,vp ah 0),(4,vp ae 0),(43,v0_5),(44,vi p0_5.length),(45,vi ag)] [bc 71 b0 [v0_0,v0_1,v0_2,v0_3,v0_4,v0_5,v0_6,v0_7,v0_8,v0_9,v0_10,v0_11],rd v0_2 p0_2,rd v0_5 p0_5,pt (vp ah 0) p1,raw 179 ae 2]) (fun(an:Unit)=>SH E V [(0,vp b0 0),(4,vp ae 0)] [bc 71 b0 [v0_0,v0_1,v0_2,v0_3,v0_4,v0_5,v0_6,v0_7,v0_8,v0_9,v0_10,v0_11],rd v0_2 p0_2,rd v0_5 p0_5,pt (vp ah 0) p1,raw 179 ae 2]) (nH E V b0 v0_0 v0_1 v0_2 v0_3 v0_4 v0_5 v0_6 v0_7 v0_8 v0_9 v0_10 v0_11) hN ?_ ?_ ?_ ?_ ?_
 ·exact j.sp 5 [0,1,2,3,4]
 ·rintro hm an _ w ⟨O,rfl,j⟩
  refine RC.sr (ic ((p0_5.length:Int)) ((p0_5.length:Int)) (RL.nq (RC.cP mz (RC.ex ?_))))
  exact⟨rfl,j.sp 5 [0,1,2,3,4]⟩
 ·rintro hm ag an fl _ w hk ⟨O,rfl,j⟩ o
  refine RC.sr (ic ((ag:Int)) ((p0_5.length:Int)) (RL.nq (RC.cO (my hk) (RC.ss (RC.bs (mv (vi ag) ?_))))))
  obtain⟨av,bb,o⟩:=bd o
  refine RL.cA 2 j JY bb fun bx j=>(RL.bC 0 av j Ev fun bz j=>(RL.alloc j G5.z fun b1 w j=>?_))
  refine aM (vi ag) (RL.bD 0 j 1 zr Ev fun w j=>?_)
  refine RL.nq ?_
  obtain⟨aw,hj,o⟩:=bd o
  refine RC.jn (fun(aw:Bool)=>SH E V [(0,vp b0 0),(3,vp ah 0),(4,vp ae 0),(8,vi ag),(43,v0_5),(44,vi p0_5.length),(45,vi ag),(61,vb aw)] [bc 71 b0 [v0_0,v0_1,v0_2,v0_3,v0_4,v0_5,v0_6,v0_7,v0_8,v0_9,v0_10,v0_11],rd v0_2 p0_2,rd v0_5 p0_5,pt (vp ah 0) p1,raw 179 ae 2]) aw ?_ ?_
  ·refine RC.region (RL.bH zr Ew (RL.aP 0 j zr pd dE (RL.fB 6 j zr Dr wG fun b2 j=>(RL.bQ p1.eU 0 j dE (ic av.eU p1.eU (mv (vb (av.eU==p1.eU)) (gZ hj (fun ad hj=>?_) fun ad hj=>?_)))))))
   rotate_left
   ·refine bZ ad (bZ ad (bZ ad (bZ ad (bZ ad (g9 ad (vb false) (RL.nil ?_))))))
    obtain rfl:=oi hj
    exact⟨rfl,j.sp 9 [4,5,6,7,8]⟩
   refine RL.bH (hg:=(cg ad)) zr Ex (RL.aN (hg:=(cg ad)) 1 j zr pf A1 fun bf j=>(RL.fB (hg:=(cg ad)) 8 j zr Ds wH fun b3 j=>(RL.bC (hg:=(cg ad)) 0 p1.At j Iy fun bg j=>?_)))
   obtain⟨bh,bj,hj⟩:=bd hj
   refine RL.call (cg ad) zr Jo [bf,bg] zr (aF (oN N (i0:=2) (i1:=0) j zr zr bj) ?_)
   rintro _ w ⟨rfl,j⟩
   refine g9 ad (vb bh) (RL.nil ?_)
   obtain rfl:=oi hj
   exact⟨rfl,j.sp 12 [7,8,9,10,11]⟩
  rintro _ w ⟨O,rfl,j⟩
  refine aG (eH o (fun hc o=>?_) fun hc o=>?_)
  rotate_left
  ·refine RC.skip (bO (aG (RC.region (RL.inc hk hm (mv (vi ((ag+1:Nat):Int)) (RL.nil ?_))))))
   obtain rfl:=oi o
   exact⟨rfl,j.sp 5 [0,1,2,3,4]⟩
  refine RC.sr (mv (vi ag) ?_)
  have j:=j.sc Int (ag:Int)
  refine RL.build (⟨false,(ag:Int)⟩:kb) trivial rfl j [(1,vi ag)] rfl G8 rfl (fun M hs g=>by have h:=GO M;exact cZ.cons (f:=fun(x:kb) y=>{x with Number:=y}) h Ck (g.sat 0 _ rfl).1 fun _ h=>cZ.nil h) fun b4 j=>?_
  refine RL.bD 6 j 0 zr vG fun w j=>?_
  refine aM (vb true) (RL.nt (RC.rb (bN ?_)))
  obtain rfl:=oi o
  exact⟨rfl,z6 6 j vG fun bk j=>⟨bk,zr,j.pk 8 [0,3]⟩⟩
 ·intro r U w e hK
  subst e
  refine bN ?_
  obtain rfl:=oi o
  exact hK
 rintro an _ w rfl ⟨O,rfl,j⟩
 rw [Fo.fW] at o
 refine aG (RC.sr (RL.build (⟨false,0⟩:kb) trivial rfl j [] rfl G8 rfl (fun M hs g=>by have h:=GO M;exact cZ.nil h) fun b5 j=>?_))
 refine RL.bD 5 j 0 zr vG fun w j=>?_
 refine aM (vb false) (RL.nt (RC.ret ?_))
 obtain rfl:=oi o
 exact z6 5 j vG fun bl j=>⟨bl,zr,j.pk 7 [0,2]⟩
def o1 (E:World) (V:List HP) (b0:Nat) (v0_0 v0_1:Value) (v0_2 v0_3:Value) (v0_4 v0_5:Value) (v0_6 v0_7:Value) (v0_8 v0_9:Value) (v0_10 v0_11:Value) (res:Int) (v:Value) (w:World):Prop:=v= (vi res)/\Holds E w ([bc 71 b0 [v0_0,v0_1,v0_2,v0_3,v0_4,v0_5,v0_6,v0_7,v0_8,v0_9,v0_10,v0_11]]++V)
theorem oO {p0_8: (List Int)} {p0_9: (List Int)} {p1:kb} (j:Holds E w (bc 71 b0 [v0_0,v0_1,v0_2,v0_3,v0_4,v0_5,v0_6,v0_7,v0_8,v0_9,v0_10,v0_11]::rd v0_8 p0_8::rd v0_9 p0_9::V)) (h1:V[i1]? =some (rd v1 p1)) (o:gk N p0_8 p0_9 p1=some res):
    Calls bB 104 [(vp b0 0),v1].toArray w (gr (o1 E V b0 v0_0 v0_1 v0_2 v0_3 v0_4 v0_5 v0_6 v0_7 v0_8 v0_9 v0_10 v0_11 res)):=by
 unfold gk at o
 refine enter Tryz.func104 zr zr ?_
 have j:=j.dup (i1+3) h1
 refine RC.sr (RL.cQ 0 v1 j zr fun ag w j=>?_)
 refine aM (vi 0) (RL.nq (RC.sr (RL.bH zr IC (RL.aP 0 j zr GL LU (RL.nt (eH o (fun hc o=>?_) fun hc o=>?_))))))
 ·refine RC.seq (RC.zA mixed ?_)
  have j:=j.drew
  refine RO.go (mv (vp b0 0) (RO.nx (RL.nilCheck zr (RO.nx (RL.bH zr A5 (RO.nx (RL.bV 2 v0_9 j fU (RO.nx ?_))))))))
  refine RL.bH zr Ey (RO.nx (RL.aP 0 j zr Cj dE (RO.nx ?_)))
  obtain⟨aa,ae,o⟩:=bd o
  refine RL.cA 4 j fV ae fun ah j=>(RO.nx (RL.bQ aa 0 j dE (RO.nx (aM (vi aa) (RO.last (aG (RC.rt ?_)))))))
  obtain rfl:=oi o
  exact bU ⟨rfl,j.pk 6 [3]⟩
 refine RC.ss (RC.zA mixed ?_)
 have j:=j.drew
 refine RO.go (mv (vp b0 0) (RO.nx (RL.nilCheck zr (RO.nx (RL.bH zr Dv (RO.nx (RL.bV 2 v0_8 j fU (RO.nx ?_))))))))
 refine RL.bH zr Ey (RO.nx (RL.aP 0 j zr Cj dE (RO.nx ?_)))
 obtain⟨ab,af,o⟩:=bd o
 refine RL.cA 3 j fV af fun ai j=>(RO.nx (RL.bQ ab 0 j dE (RO.nx (aM (vi ab) (RO.last (aG (RC.ret ?_)))))))
 obtain rfl:=oi o
 exact bU ⟨rfl,j.pk 6 [3]⟩
end Go.Gk
