/-
  Printed texts: Go functions as plain functions, and that they are. No statement of the seed is proved here.
-/
import Derived.Test.YtgjiokjfpghfgabGreatDoorG1
import Derived.Test.YtgjiokjfpghfgabGreatDoorG2
import Derived.Test.YtgjiokjfpghfgabGreatDoorG3
import Derived.Test.YtgjiokjfpghfgabGreatDoorG4
import Derived.Test.YtgjiokjfpghfgabGreatDoorA2
set_option linter.unusedVariables false
set_option linter.unusedSimpArgs false
set_option linter.unusedSectionVars false
set_option maxRecDepth 100000
set_option maxHeartbeats 4000000
namespace Go.Gk
open Go Go.Proofs
variable (N:Nat) {E w:World} {b0 b1 b1h b2 b3 b3h i0 i1:Nat} {p0 p1 p2 res:Int} {v0 v0_0 v0_1 v0_10 v0_11 v0_2 v0_3 v0_4 v0_5 v0_6 v0_7 v0_8 v0_9 v1 v1h_0 v1h_1 v1h_10 v1h_11 v1h_2 v1h_3 v1h_4 v1h_5 v1h_6 v1h_7 v1h_8 v1h_9 v2_0 v3h_0:Value} {V:List HP}
theorem lS {p0 p1:Test} (j:Holds E w V) (h0:V[i0]? =some (rd v0 p0)) (h1:V[i1]? =some (rd v1 p1)) (o:fE N p0 p1=some res):
    Calls bD 15 [v0,v1].toArray w (gR (aP E V res)):=by
 unfold fE at o
 refine enter Tryz.func15 zr zr ?_
 have j:=(j.dup (i0+0) h0).dup (i1+1) h1
 refine RC.sr (RL.dD 1 v0 j zr fun an w j=>?_)
 have j:=j.gm (i:=0) rfl
 refine RL.dD 1 v1 j zr fun ao w j=>?_
 have j:=j.gm (i:=0) rfl
 refine aO (vi 0) (RL.nq (RC.wz mixed [0,0,0,0,2,1,1,1,1,2,2,2,0] [0,1,2,3,5,6,7,8,4,9,10,11,12] ?_))
 have j:=j.drew
 refine DP.e0 zr (RL.gS 1 j zr qc k6 fun aq j=>(bZ zr (RL.bT 0 p0.A j mS fun ad j=>(bZ zr (RL.gS 2 j zr qc k6 fun ar j=>(bZ zr (RL.bT 0 p1.A j mS fun ae j=>(DP.d0 ?_))))))))
 refine DP.Es 5 zr zr zt zr j zr zr qd k7 fun au j=>(DP.uP p0.B 0 zr j mS fun af a39 av j=>(DP.Es 7 zr zr zt zr j zr zr qd k7 fun aw j=>(DP.uP p1.B 0 zr j mS fun ag a43 ax j=>(DP.e2 zr ?_))))
 obtain⟨aa,ah,o⟩:=bd o
 refine RL.call zt zr B0 [ad,ae] zr (aF (eQ N (i0:=8) (i1:=6) j zr zr ah) ?_)
 rintro _ w ⟨rfl,j⟩
 refine DP.d2 (⟨⟨zt,j.jA 3⟩,j.jA 0⟩) (DP.e2 zr ?_)
 obtain⟨ab,ai,o⟩:=bd o
 refine RL.call zt zr B0 [af,ag] zr (aF (eQ N (i0:=4) (i1:=1) j zr zr ai) ?_)
 rintro _ w ⟨rfl,j⟩
 refine DP.d2 (⟨⟨zt,j.jA 3⟩,j.jA 0⟩) (DP.e2 zr ?_)
 have j:=(j.sc Int aa).sc Int ab
 refine RL.eY ([aa,ab]: (List Int)) j [(vi aa),(vi ab)] eF CB (fun M hs g=>⟨(g.sat 1 _ zr).1,⟨(g.sat 0 _ zr).1,zt⟩⟩) fun aj w j=>(DP.d2 (⟨⟨zt,j.jA 6⟩,j.jA 3⟩) (DP.e2 zr ?_))
 have j:=j.freeze 0
 obtain⟨ak,al,o⟩:=bd o
 refine RL.call zt zr IS [aj] zr (aF (wH N (i0:=0) j zr al) ?_)
 rintro _ w ⟨rfl,j⟩
 refine DP.d2 (⟨⟨zt,j.jA 6⟩,j.jA 3⟩) (DP.e0 zr (aO (vi ak) (DP.d0 ?_)))
 have j:=j.pl 17 [0,1,2,4,5,7,8,9,10,11,12,13,14,15,16]
 refine DP.z (aG (RC.ret ?_))
 obtain rfl:=oi o
 exact cD ⟨rfl,j.drop 15⟩
def tk (E:World) (V:List HP) (r:Option ((List (List aI))×(List aI)×(List bM)×(List cK)×(List (List aA))×(List aH)×(List (List Int))×(List cI)×(List Int)×(List Int)×(List Int)×(List dO))×Int) (U:Nat->Value) (w:World):Prop:=lK bD 63 Tryz.f8 (mb E V r) .ret U w
theorem wI {p0:iD} {p1: (List Test)} {res:Option ((List (List aI))×(List aI)×(List bM)×(List cK)×(List (List aA))×(List aH)×(List (List Int))×(List cI)×(List Int)×(List Int)×(List Int)×(List dO))×Int} (j:Holds E w V) (h0:V[i0]? =some (rd v0 p0)) (h1:V[i1]? =some (rd v1 p1)) (o:ij N p0 p1=some res):
    Calls bD 8 [v0,v1].toArray w (gR (mb E V res)):=by
 unfold ij at o
 refine enter Tryz.func8 zr zr ?_
 have j:=(j.dup (i0+0) h0).dup (i1+1) h1
 refine RC.sr (RL.dD 1 v0 j zr fun ah w j=>?_)
 refine aO (.pointer none) (aO (vi 0) (RL.ns (RL.aX (f:=(fun x=>x)) 0 j zr Fd.self oG fun bw j=>?_)))
 obtain⟨ag,bz,o⟩:=bd o
 refine RL.call zt zr Ha [bw] zr (aF (qy N (i0:=0) j zr bz) ?_)
 rintro _ w hK49
 rcases a5:ag.1 with _ | aa
 ·replace o:=FC a5 o
  obtain⟨rfl,j⟩:=CP a5 hK49
  refine mv (.tuple #[(.pointer none),(vi ag.2)]) (RL.extract (.pointer none) (RL.extract (vi ag.2) (aO (.pointer none) (aO (vi ag.2) (RL.nq (RC.sr (mv (vi ag.2) (ic ag.2 0 ?_))))))))
  refine RL.nt (fq o (fun hc o=>?_) fun hc o=>?_)
  ·refine RC.sr (mv (vi ag.2) (aO (.pointer none) (aO (vi ag.2) (RL.nt (RC.rt ?_)))))
   obtain rfl:=oi o
   exact jw ⟨rfl,j.drop 4⟩
  refine RC.ss (RC.sr (mv v1 (RL.bE 2 p1 j zq (ic ((p1.length:Int)) 2000 (RL.nt (fq o (fun hc o=>?_) fun hc o=>?_))))))
  ·refine RC.sr (aO (.pointer none) (aO (vi 2) (RL.nt (RC.rt ?_))))
   obtain rfl:=oi o
   exact jw ⟨rfl,j.drop 4⟩
  refine RC.ss (RC.sr (mv v1 (RL.bE 2 p1 j zq (mv (vi 0) (RL.nt ?_)))))
  obtain⟨c0,hN,o⟩:=bd o
  refine RC.range (fun(ai:Nat) (a6:Unit)=>SH E V [(1,v1),(2,vp ah 0),(6,(.pointer none)),(21,v1),(22,vi p1.length),(23,vi ai)] [rd v1 p1,bx 27 ah p0]) (fun(a6:Unit)=>SH E V [(6,(.pointer none))] [rd v1 p1,bx 27 ah p0]) (tk E V) hN ?_ ?_ ?_ ?_ ?_
  ·exact j.sp 4 [2,1]
  ·rintro hm a6 _ w ⟨O,rfl,j⟩
   refine RC.sr (ic ((p1.length:Int)) ((p1.length:Int)) (RL.nq (RC.cT m4 (RC.ex ?_))))
   exact⟨rfl,j.sp 2 [0,1]⟩
  ·rintro hm ai a6 fl _ w hk ⟨O,rfl,j⟩ o
   refine RC.sr (ic ((ai:Int)) ((p1.length:Int)) (RL.nq (RC.cS (m0 hk) (RC.ss (RC.bs (mv (vi ai) ?_))))))
   obtain⟨bm,b1,o⟩:=bd o
   refine RL.cC 0 j x6 b1 fun c1 j=>(RL.bT 0 bm j uR fun c2 j=>(RL.alloc j EB.z fun bn w j=>?_))
   refine aO (vi ai) (RL.bG 0 j 1 zr uR fun w j=>?_)
   refine RL.nt (RC.block (RC.seq ?_))
   obtain⟨a9,hj,o⟩:=bd o
   refine RC.jn (fun(a9:Bool)=>SH E V [(1,v1),(2,vp ah 0),(6,(.pointer none)),(8,vi ai),(9,vp bn 0),(21,v1),(22,vi p1.length),(23,vi ai),(28,vb a9)] [rd v1 p1,bx 27 ah p0,bx 40 bn bm]) a9 ?_ ?_
   ·refine RC.region (RL.aX (f:=(fun x=>x)) 4 j zr Fd.self oG fun b2 j=>(RL.bA zr qc (RL.aX 1 j zr k6 mS fun b3 j=>?_)))
    obtain⟨bo,b4,hj⟩:=bd hj
    refine RL.call zt zr zu [b2,b3] zr (aF (fO N (i0:=1) (i1:=0) j zr zr b4) ?_)
    rintro _ w ⟨rfl,j⟩
    refine ic bo 0 (mv (vb (decide (bo<0))) (gv hj (fun al hj=>?_) fun al hj=>?_))
    ·refine bS al (bS al (bS al (bS al (bS al (gx al (vb true) (aO (vb true) (RL.nil ?_)))))))
     obtain rfl:=oi hj
     exact⟨rfl,j.sp 7 [5,6,2]⟩
    refine RL.aX (hg:=(cg al)) (f:=(fun x=>x)) 6 j zr Fd.self oG fun b5 j=>(RL.bA (hg:=(cg al)) zr qd (RL.aX (hg:=(cg al)) 3 j zr k7 mS fun b6 j=>?_))
    obtain⟨ba,b7,hj⟩:=bd hj
    refine RL.call (cg al) zr zu [b5,b6] zr (aF (fO N (i0:=1) (i1:=0) j zr zr b7) ?_)
    rintro _ w ⟨rfl,j⟩
    refine RL.jP ba 0 (cg al) (gx al (vb (decide (ba<0))) (aO (vb (decide (ba<0))) (RL.nil ?_)))
    obtain rfl:=oi hj
    exact⟨rfl,j.sp 9 [7,8,4]⟩
   rintro _ w ⟨O,rfl,j⟩
   refine aG (fq o (fun hc o=>?_) fun hc o=>?_)
   ·refine RC.sr (aO (.pointer none) (aO (vi 9) (RL.nt (RC.rb (iY (bL ?_))))))
    obtain rfl:=oi o
    exact⟨rfl,jw ⟨rfl,j.drop 3⟩⟩
   refine RC.sr (RL.bA zr qd (RL.aX 2 j zr k7 mS fun b8 j=>(RL.bA zr qc (RL.aX 3 j zr k6 mS fun b9 j=>?_))))
   obtain⟨bp,ca,o⟩:=bd o
   refine RL.call zt zr B0 [b8,b9] zr (aF (eQ N (i0:=1) (i1:=0) j zr zr ca) ?_)
   rintro _ w ⟨rfl,j⟩
   refine ic bp 0 (aO (vb (decide (bp<=0))) (RL.nt (fq o (fun hc o=>?_) fun hc o=>?_)))
   ·refine RC.sr (aO (.pointer none) (aO (vi 8) (RL.nt (RC.rb (iY (bL ?_))))))
    obtain rfl:=oi o
    exact⟨rfl,jw ⟨rfl,j.drop 5⟩⟩
   refine RC.seq ?_
   obtain⟨bb,hj,o⟩:=bd o
   refine RC.jn (fun(bb:Bool)=>SH E V [(1,v1),(2,vp ah 0),(6,(.pointer none)),(21,v1),(22,vi p1.length),(23,vi ai),(48,vb bb)] [rd v1 p1,bx 27 ah p0]) bb ?_ ?_
   ·refine RC.wz mixed [0,0,0,0,0,0,0,0,0,2,0,0,0] [0,1,2,3,4,5,6,7,8,9,10,11,12] ?_
    have j:=j.drew
    refine DP.e0 zr (mv (vi ai) (bZ zr (ic ((ai:Int)) 0 (bZ zr (mv (vb (decide ((ai:Int)>0))) (DP.d0 (gv hj (fun ae hj=>?_) fun ae hj=>?_)))))))
    rotate_left
    ·refine DP.e0 zr (bS ae (bZ zr (bS ae (bZ zr (bS ae (bZ zr (bS ae (bZ zr ?_))))))))
     refine bS ae (bZ zr (bS ae (sB zr (bS ae (wC zr (bS ae (bZ zr (gx ae (vb false) ?_))))))))
     refine bZ zr (aO (vb false) (DP.d0 (DP.z ?_)))
     obtain rfl:=oi hj
     exact⟨rfl,j.sp 5 [2,3]⟩
    refine DP.e0 zr (RL.aX (hg:=(cg ae)) (f:=(fun x=>x)) 4 j zr Fd.self uR fun cb j=>(bZ zr (RL.move v1 (cg ae) (bZ zr (RL.move (vi ai) (cg ae) (bZ zr (RL.jC (hg:=(cg ae)) (ai:Int) 1 (bZ zr ?_))))))))
    obtain⟨cc,cd,hj⟩:=bd hj
    refine RL.cC (hg:=(cg ae)) 3 j x6 cd fun c3 j=>(bZ zr (RL.bT (hg:=(cg ae)) 0 cc j uR fun cf j=>(sB zr ?_)))
    obtain⟨bf,ch,hj⟩:=bd hj
    refine RL.call (cg ae) zr Hb [cb,cf] zr (aF (lS N (i0:=2) (i1:=0) j zr zr ch) ?_)
    rintro _ w ⟨rfl,j⟩
    refine wC zr (RL.jP bf 0 (cg ae) (bZ zr (gx ae (vb (decide (bf<=0))) (bZ zr (aO (vb (decide (bf<=0))) (DP.d0 (DP.z ?_)))))))
    obtain rfl:=oi hj
    exact⟨rfl,j.sp 8 [5,6]⟩
   rintro _ w ⟨O,rfl,j⟩
   refine aG (fq o (fun hc o=>?_) fun hc o=>?_)
   rotate_left
   ·refine RC.skip (bU (bU (aG (RC.region (RL.inc hk hm (mv (vi ((ai+1:Nat):Int)) (RL.nil ?_)))))))
    obtain rfl:=oi o
    exact⟨rfl,j.sp 2 [0,1]⟩
   refine RC.sr (aO (.pointer none) (aO (vi 8) (RL.nt (RC.rb (iY (bL ?_))))))
   obtain rfl:=oi o
   exact⟨rfl,jw ⟨rfl,j.drop 2⟩⟩
  ·intro r U w e hK
   subst e
   refine bL ?_
   obtain rfl:=oi o
   exact hK
  rintro a6 _ w rfl ⟨O,rfl,j⟩
  rw [Fo.fZ] at o
  refine aG (RC.sr (mv (.pointer none) (aO (.pointer none) (aO (vi 0) (RL.nt (RC.ret ?_))))))
  obtain rfl:=oi o
  exact jw ⟨rfl,j.drop 2⟩
 replace o:=FD a5 o
 obtain⟨aj,ao,aq,ar,au,av,aw,ax,ay,az,a0,a1,a2,rfl,j⟩:=CQ a5 hK49
 refine mv (.tuple #[(vp aj 0),(vi ag.2)]) (RL.extract (vp aj 0) (RL.extract (vi ag.2) (aO (vp aj 0) (aO (vi ag.2) (RL.nq (RC.sr (mv (vi ag.2) (ic ag.2 0 ?_))))))))
 refine RL.nt (fq o (fun hc o=>?_) fun hc o=>?_)
 ·refine RC.sr (mv (vi ag.2) (aO (.pointer none) (aO (vi ag.2) (RL.nt (RC.rt ?_)))))
  obtain rfl:=oi o
  exact jw ⟨rfl,j.drop 17⟩
 refine RC.ss (RC.sr (mv v1 (RL.bE 15 p1 j zq (ic ((p1.length:Int)) 2000 (RL.nt (fq o (fun hc o=>?_) fun hc o=>?_))))))
 ·refine RC.sr (aO (.pointer none) (aO (vi 2) (RL.nt (RC.rt ?_))))
  obtain rfl:=oi o
  exact jw ⟨rfl,j.drop 17⟩
 refine RC.ss (RC.sr (mv v1 (RL.bE 15 p1 j zq (mv (vi 0) (RL.nt ?_)))))
 obtain⟨c4,hN,o⟩:=bd o
 refine RC.range (fun(ak:Nat) (a7:Unit)=>SH E V [(1,v1),(2,vp ah 0),(6,vp aj 0),(21,v1),(22,vi p1.length),(23,vi ak)] [rd v1 p1,bx 27 ah p0,bc 67 aj [ao,aq,ar,au,av,aw,ax,ay,az,a0,a1,a2],rd ao aa.1,rd aq aa.2.1,rd ar aa.2.2.1,rd au aa.2.2.2.1,own 96 av aa.2.2.2.2.1,rd aw aa.2.2.2.2.2.1,rd ax aa.2.2.2.2.2.2.1,own 116 ay aa.2.2.2.2.2.2.2.1,rd az aa.2.2.2.2.2.2.2.2.1,rd a0 aa.2.2.2.2.2.2.2.2.2.1,own 3 a1 aa.2.2.2.2.2.2.2.2.2.2.1,own 70 a2 aa.2.2.2.2.2.2.2.2.2.2.2]) (fun(a7:Unit)=>SH E V [(6,vp aj 0)] [rd v1 p1,bx 27 ah p0,bc 67 aj [ao,aq,ar,au,av,aw,ax,ay,az,a0,a1,a2],rd ao aa.1,rd aq aa.2.1,rd ar aa.2.2.1,rd au aa.2.2.2.1,own 96 av aa.2.2.2.2.1,rd aw aa.2.2.2.2.2.1,rd ax aa.2.2.2.2.2.2.1,own 116 ay aa.2.2.2.2.2.2.2.1,rd az aa.2.2.2.2.2.2.2.2.1,rd a0 aa.2.2.2.2.2.2.2.2.2.1,own 3 a1 aa.2.2.2.2.2.2.2.2.2.2.1,own 70 a2 aa.2.2.2.2.2.2.2.2.2.2.2]) (tk E V) hN ?_ ?_ ?_ ?_ ?_
 ·exact j.sp 17 [15,14,0,1,2,3,4,5,6,7,8,9,10,11,12]
 ·rintro hm a7 _ w ⟨O,rfl,j⟩
  refine RC.sr (ic ((p1.length:Int)) ((p1.length:Int)) (RL.nq (RC.cT m4 (RC.ex ?_))))
  exact⟨rfl,j.sp 15 [0,1,2,3,4,5,6,7,8,9,10,11,12,13,14]⟩
 ·rintro hm ak a7 fl _ w hk ⟨O,rfl,j⟩ o
  refine RC.sr (ic ((ak:Int)) ((p1.length:Int)) (RL.nq (RC.cS (m0 hk) (RC.ss (RC.bs (mv (vi ak) ?_))))))
  obtain⟨bq,cj,o⟩:=bd o
  refine RL.cC 0 j x6 cj fun c5 j=>(RL.bT 0 bq j uR fun c6 j=>(RL.alloc j EB.z fun br w j=>?_))
  refine aO (vi ak) (RL.bG 0 j 1 zr uR fun w j=>?_)
  refine RL.nt (RC.block (RC.seq ?_))
  obtain⟨bh,hj,o⟩:=bd o
  refine RC.jn (fun(bh:Bool)=>SH E V [(1,v1),(2,vp ah 0),(6,vp aj 0),(8,vi ak),(9,vp br 0),(21,v1),(22,vi p1.length),(23,vi ak),(28,vb bh)] [rd v1 p1,bx 27 ah p0,bc 67 aj [ao,aq,ar,au,av,aw,ax,ay,az,a0,a1,a2],rd ao aa.1,rd aq aa.2.1,rd ar aa.2.2.1,rd au aa.2.2.2.1,own 96 av aa.2.2.2.2.1,rd aw aa.2.2.2.2.2.1,rd ax aa.2.2.2.2.2.2.1,own 116 ay aa.2.2.2.2.2.2.2.1,rd az aa.2.2.2.2.2.2.2.2.1,rd a0 aa.2.2.2.2.2.2.2.2.2.1,own 3 a1 aa.2.2.2.2.2.2.2.2.2.2.1,own 70 a2 aa.2.2.2.2.2.2.2.2.2.2.2,bx 40 br bq]) bh ?_ ?_
  ·refine RC.region (RL.aX (f:=(fun x=>x)) 4 j zr Fd.self oG fun ck j=>(RL.bA zr qc (RL.aX 1 j zr k6 mS fun cl j=>?_)))
   obtain⟨bt,cm,hj⟩:=bd hj
   refine RL.call zt zr zu [ck,cl] zr (aF (fO N (i0:=1) (i1:=0) j zr zr cm) ?_)
   rintro _ w ⟨rfl,j⟩
   refine ic bt 0 (mv (vb (decide (bt<0))) (gv hj (fun an hj=>?_) fun an hj=>?_))
   ·refine bS an (bS an (bS an (bS an (bS an (gx an (vb true) (aO (vb true) (RL.nil ?_)))))))
    obtain rfl:=oi hj
    exact⟨rfl,j.sp 20 [5,6,7,8,9,10,11,12,13,14,15,16,17,18,19,2]⟩
   refine RL.aX (hg:=(cg an)) (f:=(fun x=>x)) 6 j zr Fd.self oG fun cn j=>(RL.bA (hg:=(cg an)) zr qd (RL.aX (hg:=(cg an)) 3 j zr k7 mS fun cp j=>?_))
   obtain⟨bj,cq,hj⟩:=bd hj
   refine RL.call (cg an) zr zu [cn,cp] zr (aF (fO N (i0:=1) (i1:=0) j zr zr cq) ?_)
   rintro _ w ⟨rfl,j⟩
   refine RL.jP bj 0 (cg an) (gx an (vb (decide (bj<0))) (aO (vb (decide (bj<0))) (RL.nil ?_)))
   obtain rfl:=oi hj
   exact⟨rfl,j.sp 22 [7,8,9,10,11,12,13,14,15,16,17,18,19,20,21,4]⟩
  rintro _ w ⟨O,rfl,j⟩
  refine aG (fq o (fun hc o=>?_) fun hc o=>?_)
  ·refine RC.sr (aO (.pointer none) (aO (vi 9) (RL.nt (RC.rb (iY (bL ?_))))))
   obtain rfl:=oi o
   exact⟨rfl,jw ⟨rfl,j.drop 16⟩⟩
  refine RC.sr (RL.bA zr qd (RL.aX 15 j zr k7 mS fun cr j=>(RL.bA zr qc (RL.aX 16 j zr k6 mS fun ct j=>?_))))
  obtain⟨bu,cu,o⟩:=bd o
  refine RL.call zt zr B0 [cr,ct] zr (aF (eQ N (i0:=1) (i1:=0) j zr zr cu) ?_)
  rintro _ w ⟨rfl,j⟩
  refine ic bu 0 (aO (vb (decide (bu<=0))) (RL.nt (fq o (fun hc o=>?_) fun hc o=>?_)))
  ·refine RC.sr (aO (.pointer none) (aO (vi 8) (RL.nt (RC.rb (iY (bL ?_))))))
   obtain rfl:=oi o
   exact⟨rfl,jw ⟨rfl,j.drop 18⟩⟩
  refine RC.seq ?_
  obtain⟨bk,hj,o⟩:=bd o
  refine RC.jn (fun(bk:Bool)=>SH E V [(1,v1),(2,vp ah 0),(6,vp aj 0),(21,v1),(22,vi p1.length),(23,vi ak),(48,vb bk)] [rd v1 p1,bx 27 ah p0,bc 67 aj [ao,aq,ar,au,av,aw,ax,ay,az,a0,a1,a2],rd ao aa.1,rd aq aa.2.1,rd ar aa.2.2.1,rd au aa.2.2.2.1,own 96 av aa.2.2.2.2.1,rd aw aa.2.2.2.2.2.1,rd ax aa.2.2.2.2.2.2.1,own 116 ay aa.2.2.2.2.2.2.2.1,rd az aa.2.2.2.2.2.2.2.2.1,rd a0 aa.2.2.2.2.2.2.2.2.2.1,own 3 a1 aa.2.2.2.2.2.2.2.2.2.2.1,own 70 a2 aa.2.2.2.2.2.2.2.2.2.2.2]) bk ?_ ?_
  ·refine RC.wz mixed [0,0,0,0,0,0,0,0,0,2,0,0,0] [0,1,2,3,4,5,6,7,8,9,10,11,12] ?_
   have j:=j.drew
   refine DP.e0 zr (mv (vi ak) (bZ zr (ic ((ak:Int)) 0 (bZ zr (mv (vb (decide ((ak:Int)>0))) (DP.d0 (gv hj (fun af hj=>?_) fun af hj=>?_)))))))
   rotate_left
   ·refine DP.e0 zr (bS af (bZ zr (bS af (bZ zr (bS af (bZ zr (bS af (bZ zr ?_))))))))
    refine bS af (bZ zr (bS af (sB zr (bS af (wC zr (bS af (bZ zr (gx af (vb false) ?_))))))))
    refine bZ zr (aO (vb false) (DP.d0 (DP.z ?_)))
    obtain rfl:=oi hj
    exact⟨rfl,j.sp 18 [2,3,4,5,6,7,8,9,10,11,12,13,14,15,16]⟩
   refine DP.e0 zr (RL.aX (hg:=(cg af)) (f:=(fun x=>x)) 17 j zr Fd.self uR fun cv j=>(bZ zr (RL.move v1 (cg af) (bZ zr (RL.move (vi ak) (cg af) (bZ zr (RL.jC (hg:=(cg af)) (ak:Int) 1 (bZ zr ?_))))))))
   obtain⟨cw,cx,hj⟩:=bd hj
   refine RL.cC (hg:=(cg af)) 3 j x6 cx fun c7 j=>(bZ zr (RL.bT (hg:=(cg af)) 0 cw j uR fun cy j=>(sB zr ?_)))
   obtain⟨bl,cz,hj⟩:=bd hj
   refine RL.call (cg af) zr Hb [cv,cy] zr (aF (lS N (i0:=2) (i1:=0) j zr zr cz) ?_)
   rintro _ w ⟨rfl,j⟩
   refine wC zr (RL.jP bl 0 (cg af) (bZ zr (gx af (vb (decide (bl<=0))) (bZ zr (aO (vb (decide (bl<=0))) (DP.d0 (DP.z ?_)))))))
   obtain rfl:=oi hj
   exact⟨rfl,j.sp 21 [5,6,7,8,9,10,11,12,13,14,15,16,17,18,19]⟩
  rintro _ w ⟨O,rfl,j⟩
  refine aG (fq o (fun hc o=>?_) fun hc o=>?_)
  rotate_left
  ·refine RC.skip (bU (bU (aG (RC.region (RL.inc hk hm (mv (vi ((ak+1:Nat):Int)) (RL.nil ?_)))))))
   obtain rfl:=oi o
   exact⟨rfl,j.sp 15 [0,1,2,3,4,5,6,7,8,9,10,11,12,13,14]⟩
  refine RC.sr (aO (.pointer none) (aO (vi 8) (RL.nt (RC.rb (iY (bL ?_))))))
  obtain rfl:=oi o
  exact⟨rfl,jw ⟨rfl,j.drop 15⟩⟩
 ·intro r U w e hK
  subst e
  refine bL ?_
  obtain rfl:=oi o
  exact hK
 rintro a7 _ w rfl ⟨O,rfl,j⟩
 rw [Fo.fZ] at o
 refine aG (RC.sr (mv (vp aj 0) (aO (vp aj 0) (aO (vi 0) (RL.nt (RC.ret ?_))))))
 obtain rfl:=oi o
 exact jw ⟨aj,ao,aq,ar,au,av,aw,ax,ay,az,a0,a1,a2,zr,j.pk 15 [2,3,4,5,6,7,8,9,10,11,12,13,14]⟩
theorem pD {res:Bool} (o:Holds E w V) (j:lz N p0 p1 p2=some res):
    Calls bD 17 [(vi p0),(vi p1),(vi p2)].toArray w (gR (bF E V res)):=by
 unfold lz at j
 refine enter Tryz.func17 zr zr (RC.sr (aO (vb false) (RL.ns (mv (vi p0) (mv (vi p1) (ic p0 p1 (mv (vb (decide (p0>=p1))) (RL.gs true (decide (p0>=p1)) (vi p0) zr zr zr eC ?_))))))))
 refine RL.gs true (decide (p0>=p1)) (vi p2) rfl rfl rfl eC (RL.gs true (decide (p0>=p1)) (vb (decide (p0<=p2))) rfl rfl rfl (eP .leq .i64 p0 p2 rfl (fun h=>by exact(cR h:cv (true&&((decide (p0>=p1))==true)) (vi p0)= (vi p0))) (fun h=>by exact(cR h:cv (true&&((decide (p0>=p1))==true)) (vi p2)= (vi p2))) rfl) (RL.pick (decide (p0>=p1)) (vb ((decide (p0>=p1))&&(decide (p0<=p2)))) (iX true) (aO (vb ((decide (p0>=p1))&&(decide (p0<=p2)))) (RL.nt (RC.ret ?_)))))
 obtain rfl:=oi j
 exact cD ⟨rfl,o.drop 0⟩
def pN (E:World) (V:List HP) (b1 b1h:Nat) (v1h_0 v1h_1:Value) (v1h_2 v1h_3:Value) (v1h_4 v1h_5:Value) (v1h_6 v1h_7:Value) (v1h_8 v1h_9:Value) (v1h_10 v1h_11:Value) (res:Bool) (v:Value) (w:World):Prop:=v= (vb res)/\Holds E w ([bc 43 b1 [(vp b1h 0)],bc 67 b1h [v1h_0,v1h_1,v1h_2,v1h_3,v1h_4,v1h_5,v1h_6,v1h_7,v1h_8,v1h_9,v1h_10,v1h_11]]++V)
theorem jq {p1h_5: (List aH)} {res:Bool} (j:Holds E w (bc 43 b1 [(vp b1h 0)]::bc 67 b1h [v1h_0,v1h_1,v1h_2,v1h_3,v1h_4,v1h_5,v1h_6,v1h_7,v1h_8,v1h_9,v1h_10,v1h_11]::rd v1h_5 p1h_5::V)) (o:eV N p0 p1h_5=some res):
    Calls bD 16 [(vi p0),(vp b1 0)].toArray w (gR (pN E V b1 b1h v1h_0 v1h_1 v1h_2 v1h_3 v1h_4 v1h_5 v1h_6 v1h_7 v1h_8 v1h_9 v1h_10 v1h_11 res)):=by
 unfold eV at o
 refine enter Tryz.func16 zr zr (RC.sr (aO (vb false) (RL.ns (mv (vi p0) (RL.bB 0 (vp b1h 0) j FV (RL.nilCheck zr (RL.bA zr pZ (RL.bB 1 v1h_5 j zp ?_))))))))
 refine RL.bE 2 p1h_5 j B1 (RL.jC (p1h_5.length:Int) 1 ?_)
 obtain⟨aa,ab,o⟩:=bd o
 refine RL.call zt zr Hc [(vi p0),(vi 0),(vi (IntKind.wrap .i64 ((p1h_5.length:Int) - 1)))] zr (aF (pD N (p0:=p0) (p1:=0) (p2:=(IntKind.wrap .i64 ((p1h_5.length:Int) - 1))) j ab) ?_)
 rintro _ w ⟨rfl,j⟩
 refine aO (vb aa) (RL.nt (RC.ret ?_))
 obtain rfl:=oi o
 exact cD ⟨rfl,j.pk 3 [0,1]⟩
def rD (E:World) (V:List HP) (r:Int) (U:Nat->Value) (w:World):Prop:=lK bD 19 Tryz.f37 (aP E V r) .ret U w
theorem qz {p0: (List eT)} {p1:eT} (o:Holds E w V) (h0:V[i0]? =some (rd v0 p0)) (h1:V[i1]? =some (rd v1 p1)) (hb:lA N p0 p1=some res):
    Calls bD 37 [v0,v1].toArray w (gR (aP E V res)):=by
 unfold lA at hb
 refine enter Tryz.func37 zr zr ?_
 have o:=(o.dup (i0+0) h0).dup (i1+1) h1
 refine RC.sr (RL.dD 0 v1 o zr fun ae w o=>?_)
 refine aO (vi 0) (RL.nq (RC.sr (mv v0 (RL.bE 2 p0 o Db (mv (vi 0) (RL.nt ?_))))))
 obtain⟨an,hN,hb⟩:=bd hb
 refine RC.range (fun(ab:Nat) (ad:Unit)=>SH E V [(0,v0),(3,vp ae 0),(7,vi p0.length),(8,vi ab)] [rd v0 p0,bx 72 ae p1]) (fun(ad:Unit)=>SH E V [] [rd v0 p0,bx 72 ae p1]) (rD E V) hN ?_ ?_ ?_ ?_ ?_
 ·exact o.sp 3 [2,0]
 ·rintro hm ad _ w ⟨O,rfl,o⟩
  refine RC.sr (ic ((p0.length:Int)) ((p0.length:Int)) (RL.nq (RC.cT m4 (RC.ex ?_))))
  exact⟨rfl,o.sp 2 [0,1]⟩
 ·rintro hm ab ad fl _ w hk ⟨O,rfl,o⟩ hb
  refine RC.sr (ic ((ab:Int)) ((p0.length:Int)) (RL.nq (RC.cS (m0 hk) (RC.ss (RC.bs (mv (vi ab) (aO (vi ab) (RL.nq ?_))))))))
  refine RC.wy mixed ?_
  have o:=o.drew
  refine RO.go (RL.aX (f:=(fun x=>x)) 1 o zr Fd.self wF fun aq o=>(RO.nx (mv v0 (RO.nx (mv (vi ab) (RO.nx ?_))))))
  obtain⟨ah,aj,hb⟩:=bd hb
  refine RL.cC 1 o Dc aj fun ar o=>(RO.nx (RL.bT 0 ah o wF fun au o=>(RO.nx (RL.seq (i:=2) (j:=0) (a:=p1) (b:=ah) zt zr o zr zr zr zr He zr (RO.last (aG (fq hb (fun hc hb=>?_) fun hc hb=>?_)))))))
  rotate_left
  ·refine RC.skip (bU (aG (RC.region (RL.inc hk hm (mv (vi ((ab+1:Nat):Int)) (RL.nil ?_))))))
   obtain rfl:=oi hb
   exact⟨rfl,o.sp 5 [3,4]⟩
  refine RC.sr (mv (vi ab) (aO (vi ab) (RL.nt (RC.rb (bL ?_)))))
  obtain rfl:=oi hb
  exact⟨rfl,cD ⟨rfl,o.drop 5⟩⟩
 ·intro r U w e hK
  subst e
  refine bL ?_
  obtain rfl:=oi hb
  exact hK
 rintro ad _ w rfl ⟨O,rfl,o⟩
 rw [Fo.fZ] at hb
 refine aG (RC.sr (aO (vi (-1)) (RL.nt (RC.ret ?_))))
 obtain rfl:=oi hb
 exact cD ⟨rfl,o.drop 2⟩
theorem oM {p0: (List eT)} {p1:eT} {res:Bool} (j:Holds E w V) (h0:V[i0]? =some (rd v0 p0)) (h1:V[i1]? =some (rd v1 p1)) (o:gH N p0 p1=some res):
    Calls bD 18 [v0,v1].toArray w (gR (bF E V res)):=by
 unfold gH at o
 refine enter Tryz.func18 zr zr ?_
 have j:=(j.dup (i0+0) h0).dup (i1+1) h1
 refine RC.sr (RL.dD 0 v1 j zr fun ae w j=>?_)
 refine aO (vb false) (RL.ns (mv v0 (RL.aX (f:=(fun x=>x)) 0 j zr Fd.self wF fun ab j=>?_)))
 obtain⟨aa,ad,o⟩:=bd o
 refine RL.call zt zr IT [v0,ab] zr (aF (qz N (i0:=3) (i1:=0) j zr zr ad) ?_)
 rintro _ w ⟨rfl,j⟩
 refine ic aa 0 (aO (vb (decide (aa>=0))) (RL.nt (RC.ret ?_)))
 obtain rfl:=oi o
 exact cD ⟨rfl,j.drop 4⟩
def r9 (E:World) (V:List HP) (b0:Nat) (v0_0 v0_1:Value) (v0_2 v0_3:Value) (v0_4 v0_5:Value) (v0_6 v0_7:Value) (v0_8 v0_9:Value) (v0_10 v0_11:Value) (r:Int) (U:Nat->Value) (w:World):Prop:=lK bD 112 Tryz.f9 (iA E V b0 v0_0 v0_1 v0_2 v0_3 v0_4 v0_5 v0_6 v0_7 v0_8 v0_9 v0_10 v0_11 r) .ret U w
theorem mI {p0_0: (List (List aI))} {p0_1: (List aI)} {p0_2: (List bM)} {p0_3: (List cK)} {p0_4: (List (List aA))} {p0_5: (List aH)} {p0_6: (List (List Int))} {p0_7: (List cI)} {p0_8: (List Int)} {p0_9: (List Int)} {p0_10: (List Int)} {p0_11: (List dO)} {p1: (List eT)} (o:Holds E w (bc 67 b0 [v0_0,v0_1,v0_2,v0_3,v0_4,v0_5,v0_6,v0_7,v0_8,v0_9,v0_10,v0_11]::rd v0_0 p0_0::rd v0_1 p0_1::rd v0_2 p0_2::rd v0_3 p0_3::rd v0_4 p0_4::rd v0_5 p0_5::rd v0_6 p0_6::rd v0_7 p0_7::rd v0_8 p0_8::rd v0_9 p0_9::rd v0_10 p0_10::rd v0_11 p0_11::V)) (h1:V[i1]? =some (rd v1 p1)) (hb:gr N p0_0 p0_1 p0_2 p0_3 p0_4 p0_5 p0_6 p0_7 p0_8 p0_9 p0_10 p0_11 p1=some res):
    Calls bD 9 [(vp b0 0),v1].toArray w (gR (iA E V b0 v0_0 v0_1 v0_2 v0_3 v0_4 v0_5 v0_6 v0_7 v0_8 v0_9 v0_10 v0_11 res)):=by
 unfold gr at hb
 refine enter Tryz.func9 zr zr ?_
 have o:=o.dup (i1+13) h1
 refine RC.sr (RL.Fy (v:=(vp b0 0)) zt zr o zr zr fun ae w o=>?_)
 refine aO (vi 0) (RL.nq (RC.sr (mv v1 (RL.bE 1 p1 o Db (ic ((p1.length:Int)) 20 (RL.nt (fq hb (fun hc hb=>?_) fun hc hb=>?_)))))))
 ·refine RC.sr (aO (vi 2) (RL.nt (RC.rt ?_)))
  obtain rfl:=oi hb
  exact cD ⟨rfl,o.pk 15 [2]⟩
 refine RC.sx (RL.makeFunc [(vp ae 0)] (aO (.func (.func 16) #[] #[(vp ae 0)]) (RL.nq (RC.sr (mv v1 (RL.bE 1 p1 o Db (mv (vi 0) (RL.nt ?_))))))))
 obtain⟨bj,hN,hb⟩:=bd hb
 refine RC.range (fun(ag:Nat) (an:Unit)=>SH E V [(0,vp b0 0),(1,v1),(2,vp ae 0),(5,(.func (.func 16) #[] #[(vp ae 0)])),(13,v1),(14,vi p1.length),(15,vi ag)] [bc 67 b0 [v0_0,v0_1,v0_2,v0_3,v0_4,v0_5,v0_6,v0_7,v0_8,v0_9,v0_10,v0_11],rd v0_0 p0_0,rd v0_1 p0_1,rd v0_2 p0_2,rd v0_3 p0_3,rd v0_4 p0_4,rd v0_5 p0_5,rd v0_6 p0_6,rd v0_7 p0_7,rd v0_8 p0_8,rd v0_9 p0_9,rd v0_10 p0_10,rd v0_11 p0_11,rd v1 p1,bc 43 ae [(vp b0 0)]]) (fun(an:Unit)=>SH E V [(0,vp b0 0)] [bc 67 b0 [v0_0,v0_1,v0_2,v0_3,v0_4,v0_5,v0_6,v0_7,v0_8,v0_9,v0_10,v0_11],rd v0_0 p0_0,rd v0_1 p0_1,rd v0_2 p0_2,rd v0_3 p0_3,rd v0_4 p0_4,rd v0_5 p0_5,rd v0_6 p0_6,rd v0_7 p0_7,rd v0_8 p0_8,rd v0_9 p0_9,rd v0_10 p0_10,rd v0_11 p0_11,rd v1 p1,bc 43 ae [(vp b0 0)]]) (r9 E V b0 v0_0 v0_1 v0_2 v0_3 v0_4 v0_5 v0_6 v0_7 v0_8 v0_9 v0_10 v0_11) hN ?_ ?_ ?_ ?_ ?_
 ·exact o.sp 15 [2,3,4,5,6,7,8,9,10,11,12,13,14,1,0]
 ·rintro hm an _ w ⟨O,rfl,o⟩
  refine RC.sr (ic ((p1.length:Int)) ((p1.length:Int)) (RL.nq (RC.cT m4 (RC.ex ?_))))
  exact⟨rfl,o.sp 15 [0,1,2,3,4,5,6,7,8,9,10,11,12,13,14]⟩
 ·rintro hm ag an fl _ w hk ⟨O,rfl,o⟩ hb
  refine RC.sr (ic ((ag:Int)) ((p1.length:Int)) (RL.nq (RC.cS (m0 hk) (RC.ss (RC.bs (mv (vi ag) ?_))))))
  obtain⟨j,a0,hb⟩:=bd hb
  refine RL.cC 13 o Dc a0 fun bl o=>(RL.bT 0 j o wF fun bm o=>(RL.alloc o FW.z fun ad w o=>?_))
  refine aO (vi ag) (RL.bG 0 o 1 zr wF fun w o=>?_)
  refine RL.nq (RC.seq ?_)
  obtain⟨ao,hj,hb⟩:=bd hb
  refine RC.jn (fun(ao:Bool)=>SH E V [(0,vp b0 0),(1,v1),(2,vp ae 0),(5,(.func (.func 16) #[] #[(vp ae 0)])),(6,vi ag),(7,vp ad 0),(13,v1),(14,vi p1.length),(15,vi ag),(42,vb ao)] [bc 67 b0 [v0_0,v0_1,v0_2,v0_3,v0_4,v0_5,v0_6,v0_7,v0_8,v0_9,v0_10,v0_11],rd v0_0 p0_0,rd v0_1 p0_1,rd v0_2 p0_2,rd v0_3 p0_3,rd v0_4 p0_4,rd v0_5 p0_5,rd v0_6 p0_6,rd v0_7 p0_7,rd v0_8 p0_8,rd v0_9 p0_9,rd v0_10 p0_10,rd v0_11 p0_11,rd v1 p1,bc 43 ae [(vp b0 0)],bx 72 ad j]) ao ?_ ?_
  ·refine RC.region (RL.bA rfl rW (RL.aN 0 o rfl lW uQ (mv (vb j.Open) (RL.gs true j.Open (vp ad 3) rfl rfl rfl (dQ x8) (RL.gs true j.Open (vi j.A) rfl rfl rfl (bX 0 rfl o (fun h=>by exact(cR h:cv (true&&(j.Open==true)) (vp ad 3)= (vp ad 3))) rfl qV cH) (RL.gs true j.Open (vb (j.A != 0)) rfl rfl rfl (eP .neq .i64 j.A 0 rfl (fun h=>by exact(cR h:cv (true&&(j.Open==true)) (vi j.A)= (vi j.A))) (fun _=>rfl) rfl) (RL.gs true j.Open (vb (j.A != 0)) rfl rfl rfl (eC (hx:=fun h=>by exact(cR h:cv (true&&(j.Open==true)) (vb (j.A != 0))= (vb (j.A != 0))))) (RL.gs (true&&(j.Open==true)) (j.A != 0) (vp ad 4) rfl rfl rfl (dQ x9) ?_))))))))
   refine RL.gs (true&&(j.Open==true)) (j.A != 0) (vi j.B) rfl rfl rfl (bX 0 rfl o (fun h=>by exact(cR h:cv ((true&&(j.Open==true))&&((j.A != 0)==false)) (vp ad 4)= (vp ad 4))) rfl qW cH) (RL.gs (true&&(j.Open==true)) (j.A != 0) (vb (j.B != 0)) rfl rfl rfl (eP .neq .i64 j.B 0 rfl (fun h=>by exact(cR h:cv ((true&&(j.Open==true))&&((j.A != 0)==false)) (vi j.B)= (vi j.B))) (fun _=>rfl) rfl) (RL.gs true j.Open (vb ((j.A != 0)||(j.B != 0))) rfl rfl rfl (oX (j.A != 0) rfl (fun h=>by exact(cR h:cv (true&&(j.Open==true)) (vb (j.A != 0))= (vb (j.A != 0)))) (fun h=>by exact px (true&&(j.Open==true)) h)) (RL.pick j.Open (vb (j.Open&&((j.A != 0)||(j.B != 0)))) (iX true) (mv (vb (j.Open&&((j.A != 0)||(j.B != 0)))) (gv hj (fun ah hj=>?_) fun ah hj=>?_)))))
   ·refine bS ah (bS ah (bS ah (bS ah (CX (CX (CX (CX (bS ah ?_))))))))
    refine gx ah (vb true) (RL.nil ?_)
    obtain rfl:=oi hj
    exact⟨rfl,o.sp 18 [3,4,5,6,7,8,9,10,11,12,13,14,15,16,17,0]⟩
   refine RL.bA (hg:=(cg ah)) zr rW (RL.aN (hg:=(cg ah)) 0 o zr lW uQ (RL.not (hg:=(cg ah)) j.Open (RL.move (vb (!j.Open)) (cg ah) (gv hj (fun aj hj=>?_) fun aj hj=>?_))))
   ·refine RL.bA (hg:=(cg aj)) rfl t8 (RL.aX (hg:=(cg aj)) 0 o rfl m7 rl fun bn o=>(RL.build (⟨false,0⟩:dO) (cg aj) rfl o [] rfl EA rfl (fun M hs g=>by have h:=Bb M;exact dJ.nil h) fun bo o=>?_))
    refine RL.Jn 1 0 j.dO (⟨false,0⟩:dO) (cg aj) zr o zr zr zr zr Hd zr (gx aj (vb (!(decide (j.dO= (⟨false,0⟩:dO))))) (hg:=(cg ah)) (gx ah (vb (!(decide (j.dO= (⟨false,0⟩:dO))))) (RL.nil ?_)))
    obtain rfl:=oi hj
    exact⟨rfl,o.sp 20 [5,6,7,8,9,10,11,12,13,14,15,16,17,18,19,2]⟩
   refine bS aj (bS aj (bS aj (bS aj (gx aj (vb false) (hg:=(cg ah)) (gx ah (vb false) (RL.nil ?_))))))
   obtain rfl:=oi hj
   exact⟨rfl,o.sp 18 [3,4,5,6,7,8,9,10,11,12,13,14,15,16,17,0]⟩
  rintro _ w ⟨O,rfl,o⟩
  refine aG (fq hb (fun hc hb=>?_) fun hc hb=>?_)
  ·refine RC.sr (aO (vi 3) (RL.nt (RC.rt (iY (bL ?_)))))
   obtain rfl:=oi hb
   exact⟨rfl,cD ⟨rfl,o.pk 16 [0]⟩⟩
  refine RC.ss ?_
  obtain⟨aq,hj,hb⟩:=bd hb
  refine RC.jn (fun(aq:Bool)=>SH E V [(0,vp b0 0),(1,v1),(2,vp ae 0),(5,(.func (.func 16) #[] #[(vp ae 0)])),(6,vi ag),(7,vp ad 0),(8,vb aq),(13,v1),(14,vi p1.length),(15,vi ag)] [bc 67 b0 [v0_0,v0_1,v0_2,v0_3,v0_4,v0_5,v0_6,v0_7,v0_8,v0_9,v0_10,v0_11],rd v0_0 p0_0,rd v0_1 p0_1,rd v0_2 p0_2,rd v0_3 p0_3,rd v0_4 p0_4,rd v0_5 p0_5,rd v0_6 p0_6,rd v0_7 p0_7,rd v0_8 p0_8,rd v0_9 p0_9,rd v0_10 p0_10,rd v0_11 p0_11,rd v1 p1,bc 43 ae [(vp b0 0)],bx 72 ad j]) aq ?_ ?_
  ·refine RC.region (mv (.func (.func 16) #[] #[(vp ae 0)]) (RL.bA zr x8 (RL.aN 15 o zr qV cH ?_)))
   have o:=((o.dup 6 rfl).pull 1).pull 16
   obtain⟨a1,a2,hj⟩:=bd hj
   refine RL.pw [(vp ae 0)] FX [(vi j.A)] (aF (jq N (p0:=j.A) o a2) ?_)
   rintro _ w ⟨rfl,o⟩
   refine mv (vb a1) (gv hj (fun ak hj=>?_) fun ak hj=>?_)
   rotate_left
   ·refine bS ak (bS ak (bS ak (bS ak (gx ak (vb false) (aO (vb false) (RL.nil ?_))))))
    obtain rfl:=oi hj
    exact⟨rfl,o.sp 18 [1,3,4,5,6,7,8,9,10,11,12,13,14,15,0,17]⟩
   refine RL.move (.func (.func 16) #[] #[(vp ae 0)]) (cg ak) (RL.bA (hg:=(cg ak)) zr x9 (RL.aN (hg:=(cg ak)) 17 o zr qW cH ?_))
   have o:=((o.dup 8 rfl).pull 2).pull 2
   obtain⟨ay,a3,hj⟩:=bd hj
   refine RL.pw (hg:=(cg ak)) [(vp ae 0)] FX [(vi j.B)] (aF (jq N (p0:=j.B) o a3) ?_)
   rintro _ w ⟨rfl,o⟩
   refine gx ak (vb ay) (aO (vb ay) (RL.nil ?_))
   obtain rfl:=oi hj
   exact⟨rfl,o.sp 20 [1,5,6,7,8,9,10,11,12,13,14,15,16,17,0,19]⟩
  rintro _ w ⟨O,rfl,o⟩
  refine aG (RC.seq (RC.sr (RL.bA zr rW (RL.aN 15 o zr lW uQ (RL.nt ?_)))))
  obtain⟨ar,hj,hb⟩:=bd hb
  refine RC.jn (fun(ar:Bool)=>SH E V [(0,vp b0 0),(1,v1),(2,vp ae 0),(5,(.func (.func 16) #[] #[(vp ae 0)])),(6,vi ag),(7,vp ad 0),(8,vb ar),(13,v1),(14,vi p1.length),(15,vi ag)] [bc 67 b0 [v0_0,v0_1,v0_2,v0_3,v0_4,v0_5,v0_6,v0_7,v0_8,v0_9,v0_10,v0_11],rd v0_0 p0_0,rd v0_1 p0_1,rd v0_2 p0_2,rd v0_3 p0_3,rd v0_4 p0_4,rd v0_5 p0_5,rd v0_6 p0_6,rd v0_7 p0_7,rd v0_8 p0_8,rd v0_9 p0_9,rd v0_10 p0_10,rd v0_11 p0_11,rd v1 p1,bc 43 ae [(vp b0 0)],bx 72 ad j]) ar ?_ ?_
  ·refine fq hj (fun hc hj=>?_) fun hc hj=>?_
   rotate_left
   ·refine RC.skip ?_
    obtain rfl:=oi hj
    exact⟨rfl,o.sp 16 [0,1,2,3,4,5,6,7,8,9,10,11,12,13,14,15]⟩
   refine RC.region (mv (.func (.func 16) #[] #[(vp ae 0)]) (RL.bA zr t8 (RL.bA zr rV (RL.aN (f:=(fun x=>x.dO.Number)) 15 o zr (Fd.comp (f:=fun(x:eT)=>x.dO) (fun(x:dO)=>x.Number) m7 ni) cH ?_))))
   have o:=((o.dup 6 rfl).pull 1).pull 16
   obtain⟨a4,a5,hj⟩:=bd hj
   refine RL.pw [(vp ae 0)] FX [(vi j.dO.Number)] (aF (jq N (p0:=j.dO.Number) o a5) ?_)
   rintro _ w ⟨rfl,o⟩
   refine aO (vb a4) (RL.nil ?_)
   obtain rfl:=oi hj
   exact⟨rfl,o.sp 18 [1,3,4,5,6,7,8,9,10,11,12,13,14,15,0,17]⟩
  rintro _ w ⟨O,rfl,o⟩
  refine aG (RC.seq (RC.sr (RL.bA rfl rW (RL.aN 15 o rfl lW uQ (mv (vb j.Open) (RL.gs true j.Open (vp ad 1) rfl rfl rfl (dQ t8) (RL.gs true j.Open (vp ad 1) rfl rfl rfl (dQ (hx:=fun h=>by exact(cR h:cv (true&&(j.Open==true)) (vp ad 1)= (vp ad 1))) Aw) (RL.gs true j.Open (vb j.dO.bM) rfl rfl rfl (bX (f:=(fun x=>x.dO.bM)) 15 rfl o (fun h=>by exact(cR h:cv (true&&(j.Open==true)) (vp ad 1)= (vp ad 1))) rfl (Fd.comp (f:=fun(x:eT)=>x.dO) (fun(x:dO)=>x.bM) m7 vv) uQ) ?_))))))))
  refine RL.pick j.Open (vb (j.Open&&j.dO.bM)) (iX true) (RL.nt ?_)
  obtain⟨al,hj,hb⟩:=bd hb
  refine RC.jn (fun(al:Bool)=>SH E V [(0,vp b0 0),(1,v1),(2,vp ae 0),(5,(.func (.func 16) #[] #[(vp ae 0)])),(6,vi ag),(7,vp ad 0),(8,vb al),(13,v1),(14,vi p1.length),(15,vi ag)] [bc 67 b0 [v0_0,v0_1,v0_2,v0_3,v0_4,v0_5,v0_6,v0_7,v0_8,v0_9,v0_10,v0_11],rd v0_0 p0_0,rd v0_1 p0_1,rd v0_2 p0_2,rd v0_3 p0_3,rd v0_4 p0_4,rd v0_5 p0_5,rd v0_6 p0_6,rd v0_7 p0_7,rd v0_8 p0_8,rd v0_9 p0_9,rd v0_10 p0_10,rd v0_11 p0_11,rd v1 p1,bc 43 ae [(vp b0 0)],bx 72 ad j]) al ?_ ?_
  ·refine fq hj (fun hc hj=>?_) fun hc hj=>?_
   rotate_left
   ·refine RC.skip ?_
    obtain rfl:=oi hj
    exact⟨rfl,o.sp 16 [0,1,2,3,4,5,6,7,8,9,10,11,12,13,14,15]⟩
   obtain⟨au,hjj,hj⟩:=bd hj
   refine RC.jn (fun(au:Bool)=>SH E V [(0,vp b0 0),(1,v1),(2,vp ae 0),(5,(.func (.func 16) #[] #[(vp ae 0)])),(6,vi ag),(7,vp ad 0),(8,vb au),(13,v1),(14,vi p1.length),(15,vi ag)] [bc 67 b0 [v0_0,v0_1,v0_2,v0_3,v0_4,v0_5,v0_6,v0_7,v0_8,v0_9,v0_10,v0_11],rd v0_0 p0_0,rd v0_1 p0_1,rd v0_2 p0_2,rd v0_3 p0_3,rd v0_4 p0_4,rd v0_5 p0_5,rd v0_6 p0_6,rd v0_7 p0_7,rd v0_8 p0_8,rd v0_9 p0_9,rd v0_10 p0_10,rd v0_11 p0_11,rd v1 p1,bc 43 ae [(vp b0 0)],bx 72 ad j]) au ?_ ?_
   ·refine RC.wz mixed [0,0,0,0,0,0,0,0,0,0,2,0,0,0,0,0,0,0,0,0,0,0,0,0,0] [0,1,2,3,4,5,6,7,8,9,10,11,12,13,14,15,16,17,18,19,20,21,22,23,24] ?_
    have o:=o.drew
    refine DP.e0 zr (RL.bA zr t8 (bZ zr (RL.bA zr rV (bZ zr (RL.aN (f:=(fun x=>x.dO.Number)) 15 o zr (Fd.comp (f:=fun(x:eT)=>x.dO) (fun(x:dO)=>x.Number) m7 ni) cH (bZ zr (RL.bB 14 (vp b0 0) o FV (bZ zr ?_))))))))
    refine RL.nilCheck zr (bZ zr (RL.bA zr lD (bZ zr (RL.bA zr lX (bZ zr (RL.bB 0 v0_2 o tX (bZ zr (RL.bE 3 p0_2 o vz ?_))))))))
    refine bZ zr (RL.jC (p0_2.length:Int) 1 (sB zr ?_))
    obtain⟨a6,a7,hjj⟩:=bd hjj
    refine RL.call zt zr Hc [(vi j.dO.Number),(vi 0),(vi (IntKind.wrap .i64 ((p0_2.length:Int) - 1)))] zr (aF (pD N (p0:=j.dO.Number) (p1:=0) (p2:=(IntKind.wrap .i64 ((p0_2.length:Int) - 1))) o a7) ?_)
    rintro _ w ⟨rfl,o⟩
    refine wC zr (mv (vb a6) (DP.d0 (gv hjj (fun af hjj=>?_) fun af hjj=>?_)))
    rotate_left
    ·refine DP.e0 zr (bS af (bZ zr (bS af (bZ zr (bS af (bZ zr (bS af (bZ zr ?_))))))))
     refine bS af (bZ zr (bS af (bZ zr (bS af (bZ zr (bS af (bZ zr (bS af ?_))))))))
     refine bZ zr (bS af (bZ zr (bS af (bZ zr (gx af (vb false) (bZ zr (aO (vb false) (DP.d0 ?_))))))))
     refine DP.z ?_
     obtain rfl:=oi hjj
     exact⟨rfl,o.sp 16 [0,1,2,3,4,5,6,7,8,9,10,11,12,13,14,15]⟩
    refine DP.e0 zr (RL.bB (hg:=(cg af)) 14 (vp b0 0) o FV (bZ zr (RL.nilCheck (hg:=(cg af)) zr (bZ zr (RL.bA (hg:=(cg af)) zr lD (bZ zr (RL.bA (hg:=(cg af)) zr lX (bZ zr ?_))))))))
    refine RL.bB (hg:=(cg af)) 0 v0_2 o tX (bZ zr (RL.bA (hg:=(cg af)) zr t8 (bZ zr (RL.bA (hg:=(cg af)) zr rV (bZ zr (RL.aN (hg:=(cg af)) (f:=(fun x=>x.dO.Number)) 15 o zr (Fd.comp (f:=fun(x:eT)=>x.dO) (fun(x:dO)=>x.Number) m7 ni) cH (bZ zr ?_)))))))
    obtain⟨av,a8,hjj⟩:=bd hjj
    refine RL.cC (hg:=(cg af)) 3 o xV a8 fun bp o=>(bZ zr (RL.gS (hg:=(cg af)) 0 o zr xY qU fun bq o=>(bZ zr (RL.bK (hg:=(cg af)) av.gE 0 o uQ (bZ zr (gx af (vb av.gE) (bZ zr (aO (vb av.gE) ?_))))))))
    refine DP.d0 (DP.z ?_)
    obtain rfl:=oi hjj
    exact⟨rfl,o.sp 18 [2,3,4,5,6,7,8,9,10,11,12,13,14,15,16,17]⟩
   rintro _ w ⟨O,rfl,o⟩
   obtain rfl:=oi hj
   exact⟨rfl,o.sp 16 [0,1,2,3,4,5,6,7,8,9,10,11,12,13,14,15]⟩
  rintro _ w ⟨O,rfl,o⟩
  refine aG (RC.bs (mv (vb al) (RL.not al (aO (vb (!al)) (RL.nt (fq hb (fun hc hb=>?_) fun hc hb=>?_))))))
  ·refine RC.sr (aO (vi 9) (RL.nt (RC.rb (iY (bL ?_)))))
   obtain rfl:=oi hb
   exact⟨rfl,cD ⟨rfl,o.pk 16 [0]⟩⟩
  refine RC.sr (RL.bA rfl rW (RL.aN 15 o rfl lW uQ (RL.not j.Open (mv (vb (!j.Open)) (RL.gs true (!j.Open) (vp ad 4) rfl rfl rfl (dQ x9) (RL.gs true (!j.Open) (vi j.B) rfl rfl rfl (bX 15 rfl o (fun h=>by exact(cR h:cv (true&&((!j.Open)==true)) (vp ad 4)= (vp ad 4))) rfl qW cH) (RL.gs true (!j.Open) (vp ad 3) rfl rfl rfl (dQ x8) (RL.gs true (!j.Open) (vi j.A) rfl rfl rfl (bX 15 rfl o (fun h=>by exact(cR h:cv (true&&((!j.Open)==true)) (vp ad 3)= (vp ad 3))) rfl qV cH) ?_))))))))
  refine RL.gs true (!j.Open) (vb (decide (j.B<=j.A))) rfl rfl rfl (eP .leq .i64 j.B j.A rfl (fun h=>by exact(cR h:cv (true&&((!j.Open)==true)) (vi j.B)= (vi j.B))) (fun h=>by exact(cR h:cv (true&&((!j.Open)==true)) (vi j.A)= (vi j.A))) rfl) (RL.pick (!j.Open) (vb ((!j.Open)&&(decide (j.B<=j.A)))) (iX true) (aO (vb ((!j.Open)&&(decide (j.B<=j.A)))) (RL.nt (fq hb (fun hc hb=>?_) fun hc hb=>?_))))
  ·refine RC.sr (aO (vi 8) (RL.nt (RC.rb (iY (bL ?_)))))
   obtain rfl:=oi hb
   exact⟨rfl,cD ⟨rfl,o.pk 16 [0]⟩⟩
  refine RC.seq (RC.wz mixed [0,0,0,0,2,0] [0,1,2,3,4,5] ?_)
  have o:=o.drew
  refine DP.e0 zr (mv v1 (bZ zr (mv (vi ag) (bZ zr ?_))))
  obtain⟨br,a9,hb⟩:=bd hb
  refine RL.cut (hl:= .inr ⟨rfl,zr⟩) 13 o Dc (.inl zr) a9 fun ba o=>(bZ zr (RL.aX (f:=(fun x=>x)) 16 o zr Fd.self wF fun bb o=>(sB zr ?_)))
  obtain⟨bf,bg,hb⟩:=bd hb
  refine RL.call zt zr IU [ba,bb] zr (aF (oM N (i0:=1) (i1:=0) o zr zr bg) ?_)
  rintro _ w ⟨rfl,o⟩
  refine wC zr (aO (vb bf) (DP.d0 (DP.z (aG (fq hb (fun hc hb=>?_) fun hc hb=>?_)))))
  rotate_left
  ·refine RC.skip (bU (bU (aG (RC.region (RL.inc hk hm (mv (vi ((ag+1:Nat):Int)) (RL.nil ?_)))))))
   obtain rfl:=oi hb
   exact⟨rfl,o.sp 18 [2,3,4,5,6,7,8,9,10,11,12,13,14,15,16]⟩
  refine RC.sr (aO (vi 7) (RL.nt (RC.rb (iY (bL ?_)))))
  obtain rfl:=oi hb
  exact⟨rfl,cD ⟨rfl,o.pk 18 [2]⟩⟩
 ·intro r U w e hK
  subst e
  refine bL ?_
  obtain rfl:=oi hb
  exact hK
 rintro an _ w rfl ⟨O,rfl,o⟩
 rw [Fo.fZ] at hb
 refine aG (RC.sr (aO (vi 0) (RL.nt (RC.ret ?_))))
 obtain rfl:=oi hb
 exact cD ⟨rfl,o.pk 15 [0]⟩
theorem mJ {p0:dO} (j:Holds E w V) (h0:V[i0]? =some (rd v0 p0)) (h1:V[i1]? =some (pt v1 p1)) (o:fJ N p0 p1=some res):
    Calls bD 30 [v0,v1].toArray w (gR (aP E V res)):=by
 unfold fJ at o
 refine enter Tryz.func30 zr zr ?_
 have j:=(j.dup (i0+0) h0).ve (i:=i1+1) h1
 refine RC.sr (RL.dD 1 v0 j zr fun ab w j=>?_)
 refine aO (vi 0) (RL.nq (RC.sr (RL.bA zr Aw (RL.aN 0 j zr vv uQ (RL.nt (fq o (fun hc o=>?_) fun hc o=>?_))))))
 rotate_left
 ·refine RC.sx (RL.bA zr rV (RL.aN 0 j zr ni cH (aO (vi p0.Number) (RL.nt (RC.ret ?_)))))
  obtain rfl:=oi o
  exact cD ⟨rfl,j.drop 3⟩
 refine RC.sr (RL.bK p1 1 j cH (RL.bA zr rV (RL.aN 0 j zr ni cH (RL.jC p1 p0.Number (aO (vi (IntKind.wrap .i64 (p1+p0.Number))) (RL.nt (RC.rt ?_)))))))
 obtain rfl:=oi o
 exact cD ⟨rfl,j.drop 3⟩
def sd (E:World) (V:List HP) (b2:Nat) (v2_0:Value) (p2_0: (List (Int×Bool))) (b3 b3h:Nat) (res: (List Int)) (v:Value) (w:World):Prop:=∃u3h_0:Value,v = .tuple #[]/\Holds E w ([bc 85 b2 [v2_0],mp v2_0 p2_0,bc 86 b3 [(vp b3h 0)],bc 121 b3h [u3h_0],own 3 u3h_0 res]++V)
theorem mK {p2_0: (List (Int×Bool))} {p3h_0: (List Int)} {res: (List Int)} (j:Holds E w (bc 85 b2 [v2_0]::mp v2_0 p2_0::bc 86 b3 [(vp b3h 0)]::bc 121 b3h [v3h_0]::own 3 v3h_0 p3h_0::V)) (hb:gu N p0 p1 p2_0 p3h_0=some res):
    Calls bD 32 [(vi p0),(vi p1),(vp b2 0),(vp b3 0)].toArray w (gR (sd E V b2 v2_0 p2_0 b3 b3h res)):=by
 unfold gu at hb
 refine enter Tryz.func32 zr zr (RC.seq ?_)
 obtain⟨ae,o,hb⟩:=bd hb
 refine RC.jn (fun(ae:Bool)=>SH E V [(0,vi p0),(1,vi p1),(2,vp b2 0),(3,vp b3 0),(15,vb ae)] [bc 85 b2 [v2_0],mp v2_0 p2_0,bc 86 b3 [(vp b3h 0)],bc 121 b3h [v3h_0],own 3 v3h_0 p3h_0]) ae ?_ ?_
 ·refine RC.region (RL.bB 0 v2_0 j Dd (mv (vi p0) (RL.ox 1 p0 zt j EC (RL.not (cZ p2_0 p0 (false:Bool)) (mv (vb (!(cZ p2_0 p0 (false:Bool)))) (gv o (fun aa o=>?_) fun aa o=>?_))))))
  ·refine RL.bB (hg:=(cg aa)) 0 v2_0 j Dd (RL.move (vi p1) (cg aa) (RL.ox 1 p1 (cg aa) j EC (RL.not (hg:=(cg aa)) (cZ p2_0 p1 (false:Bool)) (gx aa (vb (!(cZ p2_0 p1 (false:Bool)))) (RL.nil ?_)))))
   obtain rfl:=oi o
   exact⟨rfl,j.sp 5 [0,1,2,3,4]⟩
  refine bS aa (bS aa (bS aa (bS aa (gx aa (vb false) (RL.nil ?_)))))
  obtain rfl:=oi o
  exact⟨rfl,j.sp 5 [0,1,2,3,4]⟩
 rintro _ w ⟨O,rfl,j⟩
 refine aG ?_
 obtain⟨af,o,hb⟩:=bd hb
 refine RC.jn (fun(af: (List Int)) U w=>∃ad:Value,SH E V [(2,vp b2 0),(3,vp b3 0)] [bc 85 b2 [v2_0],mp v2_0 p2_0,bc 86 b3 [(vp b3h 0)],bc 121 b3h [ad],own 3 ad af] U w) af ?_ ?_
 ·refine fq o (fun hc o=>?_) fun hc o=>?_
  rotate_left
  ·refine RC.skip ?_
   obtain rfl:=oi o
   exact⟨rfl,v3h_0,j.sp 5 [0,1,2,3,4]⟩
  refine RC.region (RL.bB 2 (vp b3h 0) j De (mv (vi p0) (mv (vi p1) ?_)))
  have j:=(j.pull 4).pull 4
  obtain⟨aj,ah,o⟩:=bd o
  refine RL.call zt zr G1 [(vp b3h 0),(vi p0),(vi p1)] zr (aF (lR N (p1:=p0) (p2:=p1) j ah) ?_)
  rintro _ w ⟨ai,rfl,j⟩
  refine RL.nil ?_
  obtain rfl:=oi o
  exact⟨rfl,ai,j.sp 7 [2,3,4,0,1]⟩
 rintro _ w ⟨ad,O,rfl,j⟩
 obtain rfl:=oi hb
 refine yE ?_
 exact Ed zr ⟨ad,zr,j.pk 5 [0,1,2,3,4]⟩
def uV (E:World) (V:List HP) (b0:Nat) (v0_0 v0_1:Value) (v0_2 v0_3:Value) (v0_4 v0_5:Value) (v0_6 v0_7:Value) (v0_8 v0_9:Value) (v0_10 v0_11:Value) (res: (List Int)) (v:Value) (w:World):Prop:=Holds E w ([own 3 v res,bc 67 b0 [v0_0,v0_1,v0_2,v0_3,v0_4,v0_5,v0_6,v0_7,v0_8,v0_9,v0_10,v0_11]]++V)
theorem oN {p0_2: (List bM)} {p0_3: (List cK)} {p0_5: (List aH)} {p0_6: (List (List Int))} {p0_10: (List Int)} {p0_11: (List dO)} {p1: (List eT)} {res: (List Int)} (j:Holds E w (bc 67 b0 [v0_0,v0_1,v0_2,v0_3,v0_4,v0_5,v0_6,v0_7,v0_8,v0_9,v0_10,v0_11]::rd v0_2 p0_2::rd v0_3 p0_3::rd v0_5 p0_5::rd v0_6 p0_6::rd v0_10 p0_10::rd v0_11 p0_11::V)) (h1:V[i1]? =some (rd v1 p1)) (hb:dF N p0_2 p0_3 p0_5 p0_6 p0_10 p0_11 p1=some res):
    Calls bD 13 [(vp b0 0),v1].toArray w (gR (uV E V b0 v0_0 v0_1 v0_2 v0_3 v0_4 v0_5 v0_6 v0_7 v0_8 v0_9 v0_10 v0_11 res)):=by
 unfold dF at hb
 refine enter Tryz.func13 zr zr ?_
 have j:=j.dup (i1+7) h1
 refine RC.sr (aO (.slice none 0 0) (RL.ns (mv (vp b0 0) (RL.nilCheck zr (RL.bA zr pZ (RL.bB 1 v0_5 j zp (RL.bE 4 p0_5 j B1 (RL.alloc j CB.z fun ab w j=>?_))))))))
 have j:=j.sc Int (p0_5.length:Int)
 refine RL.bG 1 j 0 zr cH fun w j=>?_
 refine RL.ns ?_
 have j:=j.gm (i:=1) rfl
 refine RL.makeFunc [(vp ab 0)] (aO (.func (.func 30) #[] #[(vp ab 0)]) (RL.ns (RL.makeMap (κ:=Int) (ν:=Bool) zr j fun ae w j=>(RL.pQ zr j IV zr fun ad w j=>?_))))
 refine RL.g9 0 ae j zr zr (Fx j (i:=1) zr) Dd fun w j=>?_
 refine RL.nq (RC.sr (mv v1 (RL.bE 4 p1 j Db (mv (vi 0) (RL.nt ?_)))))
 obtain⟨ah,hN,hb⟩:=bd hb
 refine RC.fold (fun(a9:Nat) (ah: (List (Int×Bool)))=>SH E V [(0,vp b0 0),(1,v1),(5,vp ab 0),(6,(.func (.func 30) #[] #[(vp ab 0)])),(7,vp ad 0),(32,v1),(33,vi p1.length),(34,vi a9)] [bc 67 b0 [v0_0,v0_1,v0_2,v0_3,v0_4,v0_5,v0_6,v0_7,v0_8,v0_9,v0_10,v0_11],rd v0_2 p0_2,rd v0_3 p0_3,rd v0_5 p0_5,rd v0_6 p0_6,rd v0_10 p0_10,rd v0_11 p0_11,rd v1 p1,pt (vp ab 0) (p0_5.length:Int),bc 85 ad [ae],mp ae ah]) (fun(ah: (List (Int×Bool)))=>SH E V [(0,vp b0 0),(1,v1),(5,vp ab 0),(6,(.func (.func 30) #[] #[(vp ab 0)])),(7,vp ad 0)] [bc 67 b0 [v0_0,v0_1,v0_2,v0_3,v0_4,v0_5,v0_6,v0_7,v0_8,v0_9,v0_10,v0_11],rd v0_2 p0_2,rd v0_3 p0_3,rd v0_5 p0_5,rd v0_6 p0_6,rd v0_10 p0_10,rd v0_11 p0_11,rd v1 p1,pt (vp ab 0) (p0_5.length:Int),bc 85 ad [ae],mp ae ah]) hN ?_ ?_ ?_ ?_
 ·exact j.sp 12 [5,6,7,8,9,10,11,4,3,0,1]
 ·rintro hm ah _ w ⟨O,rfl,j⟩
  refine RC.sr (ic ((p1.length:Int)) ((p1.length:Int)) (RL.nq (RC.cT m4 (RC.ex ?_))))
  exact⟨rfl,j.sp 11 [0,1,2,3,4,5,6,7,8,9,10]⟩
 ·rintro hm a9 ah s' _ w hk ⟨O,rfl,j⟩ hb
  refine RC.sr (ic ((a9:Int)) ((p1.length:Int)) (RL.nq (RC.cS (m0 hk) (RC.ss (RC.bs ?_)))))
  obtain⟨b8,b9,hb⟩:=bd hb
  refine RL.cC 7 j Dc b9 fun db j=>(RL.bT 0 b8 j wF fun dc j=>(RL.alloc j FW.z fun dd w j=>?_))
  refine RL.bG 0 j 1 zr wF fun w j=>?_
  refine RL.ns (RL.bA zr rW (RL.aN 0 j zr lW uQ (RL.nt ?_)))
  obtain⟨bo,hj,hb⟩:=bd hb
  refine RC.jn (fun(bo: (List (Int×Bool)))=>SH E V [(0,vp b0 0),(1,v1),(5,vp ab 0),(6,(.func (.func 30) #[] #[(vp ab 0)])),(7,vp ad 0),(32,v1),(33,vi p1.length),(34,vi a9)] [bc 67 b0 [v0_0,v0_1,v0_2,v0_3,v0_4,v0_5,v0_6,v0_7,v0_8,v0_9,v0_10,v0_11],rd v0_2 p0_2,rd v0_3 p0_3,rd v0_5 p0_5,rd v0_6 p0_6,rd v0_10 p0_10,rd v0_11 p0_11,rd v1 p1,pt (vp ab 0) (p0_5.length:Int),bc 85 ad [ae],mp ae bo]) bo ?_ ?_
  ·refine fq hj (fun hc hj=>?_) fun hc hj=>?_
   rotate_left
   ·refine RC.skip ?_
    obtain rfl:=oi hj
    exact⟨rfl,j.sp 14 [3,4,5,6,7,8,9,10,11,12,13]⟩
   have j:=j.drew
   refine RC.CW (fun w=>Holds E w ([bc 85 ad [ae]]++V)) mixed zr [1,0,0,0,2,2] [0,1,2,3,4,5] (j.pk 14 [12]) (DP.FH ae zr (fun w j=>RL.bB 0 ae j Dd DP.d1) (DP.e0 zr (mv (.func (.func 30) #[] #[(vp ab 0)]) (bZ zr (RL.bA zr t8 (bZ zr (RL.aX 0 j zr m7 rl fun ca j=>(sB zr ?_))))))))
   obtain⟨cb,cc,hj⟩:=bd hj
   refine RL.pw [(vp ab 0)] Hf [ca] (aF (mJ N (i0:=0) (i1:=12) j zr zr cc) ?_)
   rintro _ w ⟨rfl,j⟩
   refine DP.d2 (j.pk 15 [13]) (DP.e2 zr ?_)
   have j:=j.sc Bool true
   refine RL.mapUpdate 15 0 cb j zr zr zr zr zr EC fun w j=>(DP.d2 (j.pk 16 [14]) (DP.z ?_))
   obtain rfl:=oi hj
   exact⟨rfl,j.sp 16 [5,6,7,8,9,10,11,12,13,14,15]⟩
  rintro _ w ⟨O,rfl,j⟩
  refine bU (aG (RC.region (RL.inc hk hm (mv (vi ((a9+1:Nat):Int)) (RL.nil ?_)))))
  obtain rfl:=oi hb
  exact⟨rfl,j.sp 11 [0,1,2,3,4,5,6,7,8,9,10]⟩
 rintro _ w ⟨O,rfl,j⟩
 refine aG (RC.seq ?_)
 obtain⟨cd,cf,hb⟩:=bd hb
 refine RC.CA E V mixed [0,1,1,1,1,0,0,1,0,0,0] [8,9,10] (fun(x:Nat×Value×Nat)=>(fun aa ak o=>[(0,46,(vi p0_5.length)),(1,47,(vp b0 0)),(2,48,(vp b0 0)),(3,49,(vp b0 0)),(4,50,(vp b0 2)),(5,51,v0_2),(6,52,(vi p0_2.length)),(7,53,(vi (IntKind.wrap .i64 ((p0_5.length:Int)+ (p0_2.length:Int))))),(8,54,(vp aa 0)),(9,10,(vp o 0))]) x.1 x.2.1 x.2.2) [(0,vp b0 0),(1,v1),(5,vp ab 0),(6,(.func (.func 30) #[] #[(vp ab 0)])),(7,vp ad 0)] [] (fun(D:Nat->Bool) (x:Nat×Value×Nat)=>(fun aa ak o=>[bif D 0 then (bc 121 aa [ak]) else aV,bif D 0 then (own 3 ak cd) else aV,bif D 2 then (bc 86 o [(vp aa 0)]) else (bif D 1 then (bc 86 o [(.pointer none)]) else aV),bc 67 b0 [v0_0,v0_1,v0_2,v0_3,v0_4,v0_5,v0_6,v0_7,v0_8,v0_9,v0_10,v0_11],rd v0_2 p0_2,rd v0_3 p0_3,rd v0_5 p0_5,rd v0_6 p0_6,rd v0_10 p0_10,rd v0_11 p0_11,rd v1 p1,pt (vp ab 0) (p0_5.length:Int),bc 85 ad [ae],mp ae ah]) x.1 x.2.1 x.2.2) (fun x=>by kernel_rfl) ?_ ⟨?_,fun _=>jd gn,fun _=>uO gn,fun _=>lU gn lD,fun _=>lU gn lX,?_,?_,fun _=>Ep gn rfl,?_,?_,?_,trivial⟩ ?_
 ·have j:=(((j.drew).aV).aV).aV
  exact⟨(0,undef,0),dY.none,(Ba zr),zt,j⟩
 ·rintro D U w hD au a0 ⟨⟨aa,ak,o⟩,hv,ha,_,j⟩
  obtain⟨O,rfl⟩:=(ac (ha.at 2 rfl) az).eU
  refine RL.bK (p0_5.length:Int) 11 j cH ?_
  exact RL.nil ⟨rfl,(aa,ak,o),hv.pu 0,ha.u,zt,j⟩
 ·rintro D U w hD au a0 ⟨⟨aa,ak,o⟩,hv,ha,_,j⟩
  obtain⟨O,rfl⟩:=(ac (hv.at 4 rfl (au.1 rfl)) az).eU
  refine RL.bB 3 v0_2 j tX ?_
  exact RL.nil ⟨rfl,(aa,ak,o),hv.pu 5,ha.u,zt,j⟩
 ·rintro D U w hD au a0 ⟨⟨aa,ak,o⟩,hv,ha,_,j⟩
  obtain⟨O,rfl⟩:=(ac (hv.at 5 rfl (au.1 rfl)) az).eU
  refine RL.bE 4 p0_2 j vz ?_
  exact RL.nil ⟨rfl,(aa,ak,o),hv.pu 6,ha.u,zt,j⟩
 ·rintro D U w hD au a0 ⟨⟨aa,ak,o⟩,hv,ha,_,j⟩
  obtain⟨O,rfl⟩:=(ac (hv.at 7 rfl (au.1 rfl)) az).eU
  have j:=((j.bV 0 hD).bV 1 hD).bV 2 (nh a0 hD 10)
  refine RL.call zt zr G0 [(vi (IntKind.wrap .i64 ((p0_5.length:Int)+ (p0_2.length:Int))))] zr (aF (mH N (p0:=(IntKind.wrap .i64 ((p0_5.length:Int)+ (p0_2.length:Int)))) j cf) ?_)
  rintro _ w ⟨b1,ch,rfl,j⟩
  have j:=(((j.pl 16 [0,1,4,5,6,7,8,9,10,11,12,13,14,15]).cF 0 true aV).cF 1 true aV).eR 2 (D 10) (nh a0 hD 10) (bc 86 o [(vp b1 0)])
  exact RL.nil ⟨rfl,(b1,ch,o),hv.pu 8,ha.u,zt,j⟩
 ·rintro D U w hD au a0 ⟨⟨aa,ak,o⟩,hv,ha,_,j⟩
  obtain⟨O,rfl⟩:=(az (U:=U)).eU
  have j:=(j.bV 2 (nh a0 hD 10)).bV 2 hD
  refine RL.pQ zr j IW zr fun b2 w j=>?_
  have j:=((j.pl 15 [1,2,0,4,5,6,7,8,9,10,11,12,13,14]).cF 2 true aV).eR 2 (D 10) (nh a0 hD 10) (bc 86 b2 [(vp aa 0)])
  exact RL.nil ⟨rfl,(aa,ak,b2),hv.pu 9,ha.u,zt,j⟩
 ·rintro D U w hD au a0 ⟨⟨aa,ak,o⟩,hv,ha,_,j⟩
  obtain⟨O,rfl⟩:=(ac (hv.at 8 rfl (au.2.1 rfl)) (ac (hv.at 9 rfl (au.1 rfl)) az)).eU
  have j:=((j.cE 0 (au.2.1 rfl)).bV 2 hD).cE 2 (au.1 rfl)
  refine RL.g9 2 (vp aa 0) j zr zr zr De fun w j=>?_
  have j:=(j.cF (hb:=au.2.1 rfl) 0 (D 8) aV).cF 2 true (bif D 9 then (bc 86 o [(.pointer none)]) else aV)
  exact RL.nil ⟨rfl,(aa,ak,o),hv.n1,ha,zt,j⟩
 rintro D U w bh ⟨⟨aa,ak,o⟩,hv,ha,_,j⟩
 have j:=((j.cE 0 (jy bh 8)).cE 1 (jy bh 8)).cE 2 (jy bh 10)
 obtain⟨O,rfl⟩:=(ac (hv.at 9 rfl (jy bh 9)) (ac (ha.at 0 rfl) (ac (ha.at 1 rfl) (ac (ha.at 2 rfl) (ac (ha.at 3 rfl) (ac (ha.at 4 rfl) az)))))).eU
 refine aG (RC.sr (RL.makeFunc [(vp ad 0),(vp o 0)] (aO (.func (.func 32) #[] #[(vp ad 0),(vp o 0)]) (RL.nq (RC.sr (mv (vp b0 0) (RL.nilCheck zr (RL.bA zr xZ ?_))))))))
 refine RL.bB 3 v0_6 j Ex (RL.bE 7 p0_6 j Ey (mv (vi 0) (RL.nt ?_)))
 obtain⟨a5,hN,hb⟩:=bd hb
 refine RC.fold (fun(av:Nat) (a5: (List Int)) U w=>∃b3:Value,SH E V [(0,vp b0 0),(1,v1),(5,vp ab 0),(6,(.func (.func 30) #[] #[(vp ab 0)])),(7,vp ad 0),(10,vp o 0),(11,(.func (.func 32) #[] #[(vp ad 0),(vp o 0)])),(59,v0_6),(60,vi p0_6.length),(61,vi av)] [bc 67 b0 [v0_0,v0_1,v0_2,v0_3,v0_4,v0_5,v0_6,v0_7,v0_8,v0_9,v0_10,v0_11],rd v0_2 p0_2,rd v0_3 p0_3,rd v0_5 p0_5,rd v0_6 p0_6,rd v0_10 p0_10,rd v0_11 p0_11,rd v1 p1,pt (vp ab 0) (p0_5.length:Int),bc 85 ad [ae],mp ae ah,bc 86 o [(vp aa 0)],bc 121 aa [b3],own 3 b3 a5] U w) (fun(a5: (List Int)) U w=>∃bj:Value,SH E V [(0,vp b0 0),(1,v1),(6,(.func (.func 30) #[] #[(vp ab 0)])),(7,vp ad 0),(10,vp o 0),(11,(.func (.func 32) #[] #[(vp ad 0),(vp o 0)]))] [bc 67 b0 [v0_0,v0_1,v0_2,v0_3,v0_4,v0_5,v0_6,v0_7,v0_8,v0_9,v0_10,v0_11],rd v0_2 p0_2,rd v0_3 p0_3,rd v0_5 p0_5,rd v0_6 p0_6,rd v0_10 p0_10,rd v0_11 p0_11,rd v1 p1,pt (vp ab 0) (p0_5.length:Int),bc 85 ad [ae],mp ae ah,bc 86 o [(vp aa 0)],bc 121 aa [bj],own 3 bj a5] U w) hN ?_ ?_ ?_ ?_
 ·exact⟨ak,j.sp 14 [3,4,5,6,7,8,9,10,11,12,13,2,0,1]⟩
 ·rintro hm a5 _ w ⟨cj,O,rfl,j⟩
  refine RC.sr (ic ((p0_6.length:Int)) ((p0_6.length:Int)) (RL.nq (RC.cT m4 (RC.ex ?_))))
  exact⟨rfl,cj,j.sp 14 [0,1,2,3,4,5,6,7,8,9,10,11,12,13]⟩
 ·rintro hm av a5 s' _ w hk ⟨ck,O,rfl,j⟩ hb
  refine RC.sr (ic ((av:Int)) ((p0_6.length:Int)) (RL.nq (RC.cS (m0 hk) (RC.ss (RC.bs (mv (vi av) ?_))))))
  obtain⟨a3,cl,hb⟩:=bd hb
  refine RL.cC 4 j Au cl fun de j=>(RL.bT 0 a3 j fF fun ba j=>(aO (vi av) (aO ba (RL.ns (mv ba (RL.bE 0 a3 j lM (mv (vi 0) (RL.nt ?_))))))))
  obtain⟨a6,hN,hb⟩:=bd hb
  refine RC.fold (fun(bk:Nat) (a6: (List Int)) U w=>∃b4:Value,SH E V [(0,vp b0 0),(1,v1),(5,vp ab 0),(6,(.func (.func 30) #[] #[(vp ab 0)])),(7,vp ad 0),(10,vp o 0),(11,(.func (.func 32) #[] #[(vp ad 0),(vp o 0)])),(12,vi av),(59,v0_6),(60,vi p0_6.length),(61,vi av),(66,ba),(67,vi a3.length),(68,vi bk)] [bc 67 b0 [v0_0,v0_1,v0_2,v0_3,v0_4,v0_5,v0_6,v0_7,v0_8,v0_9,v0_10,v0_11],rd v0_2 p0_2,rd v0_3 p0_3,rd v0_5 p0_5,rd v0_6 p0_6,rd v0_10 p0_10,rd v0_11 p0_11,rd v1 p1,pt (vp ab 0) (p0_5.length:Int),bc 85 ad [ae],mp ae ah,bc 86 o [(vp aa 0)],bc 121 aa [b4],own 3 b4 a6,rd ba a3] U w) (fun(a6: (List Int)) U w=>∃bl:Value,SH E V [(0,vp b0 0),(1,v1),(5,vp ab 0),(6,(.func (.func 30) #[] #[(vp ab 0)])),(7,vp ad 0),(10,vp o 0),(11,(.func (.func 32) #[] #[(vp ad 0),(vp o 0)])),(59,v0_6),(60,vi p0_6.length),(61,vi av)] [bc 67 b0 [v0_0,v0_1,v0_2,v0_3,v0_4,v0_5,v0_6,v0_7,v0_8,v0_9,v0_10,v0_11],rd v0_2 p0_2,rd v0_3 p0_3,rd v0_5 p0_5,rd v0_6 p0_6,rd v0_10 p0_10,rd v0_11 p0_11,rd v1 p1,pt (vp ab 0) (p0_5.length:Int),bc 85 ad [ae],mp ae ah,bc 86 o [(vp aa 0)],bc 121 aa [bl],own 3 bl a6,rd ba a3] U w) hN ?_ ?_ ?_ ?_
  ·exact⟨ck,j.sp 16 [2,3,4,5,6,7,8,9,10,11,12,13,14,15,0]⟩
  ·rintro hm a6 _ w ⟨cm,O,rfl,j⟩
   refine RC.sr (ic ((a3.length:Int)) ((a3.length:Int)) (RL.nq (RC.cT m4 (RC.ex ?_))))
   exact⟨rfl,cm,j.sp 15 [0,1,2,3,4,5,6,7,8,9,10,11,12,13,14]⟩
  ·rintro hm bk a6 s' _ w hk ⟨df,O,rfl,j⟩ hb
   refine RC.sr (ic ((bk:Int)) ((a3.length:Int)) (RL.nq (RC.cS (m0 hk) (RC.ss (RC.bs ?_)))))
   obtain⟨bb,cn,hb⟩:=bd hb
   refine RL.cC 14 j eF cn fun dg j=>(RL.bK bb 0 j cH (aO (vi bb) (RL.nt (RC.region (mv (.func (.func 32) #[] #[(vp ad 0),(vp o 0)]) (mv (vi bb) (RL.bK (p0_5.length:Int) 9 j cH (mv (vi av) ?_))))))))
   refine RL.jC (p0_5.length:Int) (av:Int) ?_
   have j:=((((j.pull 14).pull 14).pull 14).pull 14).pull 14
   obtain⟨dh,cp,hb⟩:=bd hb
   refine RL.pw [(vp ad 0),(vp o 0)] Hg [(vi bb),(vi (IntKind.wrap .i64 ((p0_5.length:Int)+ (av:Int))))] (aF (mK N (p0:=bb) (p1:=(IntKind.wrap .i64 ((p0_5.length:Int)+ (av:Int)))) j cp) ?_)
   rintro _ w ⟨cq,rfl,j⟩
   refine RL.nil (bU (aG (RC.region (RL.inc hk hm (mv (vi ((bk+1:Nat):Int)) (RL.nil ?_))))))
   obtain rfl:=oi hb
   exact⟨rfl,cq,j.sp 21 [6,7,8,9,10,11,12,13,14,0,1,2,3,4,20]⟩
  rintro _ w ⟨bl,O,rfl,j⟩
  refine bU (aG (RC.region (RL.inc hk hm (mv (vi ((av+1:Nat):Int)) (RL.nil ?_)))))
  obtain rfl:=oi hb
  exact⟨rfl,bl,j.sp 15 [0,1,2,3,4,5,6,7,8,9,10,11,12,13]⟩
 rintro _ w ⟨bj,O,rfl,j⟩
 refine aG (RC.seq (RC.sr (mv v1 (RL.bE 7 p1 j Db (mv (vi 0) (RL.nt ?_))))))
 obtain⟨a7,hN,hb⟩:=bd hb
 refine RC.fold (fun(bf:Nat) (a7: (List Int)) U w=>∃b5:Value,SH E V [(0,vp b0 0),(6,(.func (.func 30) #[] #[(vp ab 0)])),(7,vp ad 0),(10,vp o 0),(11,(.func (.func 32) #[] #[(vp ad 0),(vp o 0)])),(80,v1),(81,vi p1.length),(82,vi bf)] [bc 67 b0 [v0_0,v0_1,v0_2,v0_3,v0_4,v0_5,v0_6,v0_7,v0_8,v0_9,v0_10,v0_11],rd v0_2 p0_2,rd v0_3 p0_3,rd v0_5 p0_5,rd v0_6 p0_6,rd v0_10 p0_10,rd v0_11 p0_11,pt (vp ab 0) (p0_5.length:Int),bc 85 ad [ae],mp ae ah,bc 86 o [(vp aa 0)],bc 121 aa [b5],own 3 b5 a7,rd v1 p1] U w) (fun(a7: (List Int)) U w=>∃bm:Value,SH E V [(0,vp b0 0),(6,(.func (.func 30) #[] #[(vp ab 0)])),(7,vp ad 0),(10,vp o 0)] [bc 67 b0 [v0_0,v0_1,v0_2,v0_3,v0_4,v0_5,v0_6,v0_7,v0_8,v0_9,v0_10,v0_11],rd v0_2 p0_2,rd v0_3 p0_3,rd v0_5 p0_5,rd v0_6 p0_6,rd v0_10 p0_10,rd v0_11 p0_11,pt (vp ab 0) (p0_5.length:Int),bc 85 ad [ae],mp ae ah,bc 86 o [(vp aa 0)],bc 121 aa [bm],own 3 bm a7,rd v1 p1] U w) hN ?_ ?_ ?_ ?_
 ·exact⟨bj,j.sp 14 [0,1,2,3,4,5,6,8,9,10,11,12,13,7]⟩
 ·rintro hm a7 _ w ⟨cr,O,rfl,j⟩
  refine RC.sr (ic ((p1.length:Int)) ((p1.length:Int)) (RL.nq (RC.cT m4 (RC.ex ?_))))
  exact⟨rfl,cr,j.sp 14 [0,1,2,3,4,5,6,7,8,9,10,11,12,13]⟩
 ·rintro hm bf a7 s' _ w hk ⟨ct,O,rfl,j⟩ hb
  refine RC.sr (ic ((bf:Int)) ((p1.length:Int)) (RL.nq (RC.cS (m0 hk) (RC.ss (RC.bs ?_)))))
  obtain⟨a8,cu,hb⟩:=bd hb
  refine RL.cC 13 j Dc cu fun di j=>(RL.bT 0 a8 j wF fun dj j=>(RL.alloc j FW.z fun dk w j=>?_))
  refine RL.bG 0 j 1 zr wF fun w j=>?_
  refine RL.ns (RL.bA zr rW (RL.aN 0 j zr lW uQ (RL.not a8.Open (RL.nt ?_))))
  obtain⟨bp,hj,hb⟩:=bd hb
  refine RC.jn (fun(bp: (List Int)) U w=>∃bn:Value,SH E V [(0,vp b0 0),(6,(.func (.func 30) #[] #[(vp ab 0)])),(7,vp ad 0),(10,vp o 0),(11,(.func (.func 32) #[] #[(vp ad 0),(vp o 0)])),(80,v1),(81,vi p1.length),(82,vi bf)] [bc 67 b0 [v0_0,v0_1,v0_2,v0_3,v0_4,v0_5,v0_6,v0_7,v0_8,v0_9,v0_10,v0_11],rd v0_2 p0_2,rd v0_3 p0_3,rd v0_5 p0_5,rd v0_6 p0_6,rd v0_10 p0_10,rd v0_11 p0_11,pt (vp ab 0) (p0_5.length:Int),bc 85 ad [ae],mp ae ah,bc 86 o [(vp aa 0)],bc 121 aa [bn],own 3 bn bp,rd v1 p1] U w) bp ?_ ?_
  ·refine fq hj (fun hc hj=>?_) fun hc hj=>?_
   rotate_left
   ·refine RC.skip ?_
    obtain rfl:=oi hj
    exact⟨rfl,ct,j.sp 17 [3,4,5,6,7,8,9,10,11,12,13,14,15,16]⟩
   refine RC.region (mv (.func (.func 32) #[] #[(vp ad 0),(vp o 0)]) (RL.bA zr x8 (RL.aN 0 j zr qV cH (RL.bA zr x9 (RL.aN 0 j zr qW cH ?_)))))
   have j:=((((j.pull 15).pull 15).pull 15).pull 15).pull 15
   obtain⟨dm,cv,hj⟩:=bd hj
   refine RL.pw [(vp ad 0),(vp o 0)] Hg [(vi a8.A),(vi a8.B)] (aF (mK N (p0:=a8.A) (p1:=a8.B) j cv) ?_)
   rintro _ w ⟨cw,rfl,j⟩
   refine RL.nil ?_
   obtain rfl:=oi hj
   exact⟨rfl,cw,j.sp 22 [8,9,10,11,12,13,14,15,0,1,2,3,4,21]⟩
  rintro _ w ⟨bn,O,rfl,j⟩
  refine bU (aG (RC.region (RL.inc hk hm (mv (vi ((bf+1:Nat):Int)) (RL.nil ?_)))))
  obtain rfl:=oi hb
  exact⟨rfl,bn,j.sp 14 [0,1,2,3,4,5,6,7,8,9,10,11,12,13]⟩
 rintro _ w ⟨bm,O,rfl,j⟩
 refine aG (RC.sr (RL.makeMap (κ:=Int) (ν:=Int) zr j fun ax w j=>(aO ax (RL.ns (mv (vp b0 0) (RL.nilCheck zr (RL.bA zr lD (RL.bA zr tZ ?_))))))))
 refine RL.bB 1 v0_3 j BY (RL.bE 3 p0_3 j C2 ?_)
 obtain⟨dn,cx,hb⟩:=bd hb
 refine RL.mk (p0_3.length:Int) j sV Ge cx fun aw w j=>?_
 refine aO aw (RL.nq (RC.sr (mv (vp b0 0) (RL.nilCheck zr (RL.bA zr Ay (RL.bB 2 v0_11 j FU (RL.bE 8 p0_11 j IX (mv (vi 0) ?_))))))))
 refine RL.nt ?_
 obtain⟨ag,hN,hb⟩:=bd hb
 refine RC.fold (fun(al:Nat) (ag: (List Int)×(List (Int×Int))×(List Int)) U w=>∃b6:Value,SH E V [(0,vp b0 0),(6,(.func (.func 30) #[] #[(vp ab 0)])),(7,vp ad 0),(10,vp o 0),(18,ax),(19,aw),(107,v0_11),(108,vi p0_11.length),(109,vi al)] [bc 67 b0 [v0_0,v0_1,v0_2,v0_3,v0_4,v0_5,v0_6,v0_7,v0_8,v0_9,v0_10,v0_11],rd v0_2 p0_2,rd v0_3 p0_3,rd v0_5 p0_5,rd v0_6 p0_6,rd v0_10 p0_10,rd v0_11 p0_11,pt (vp ab 0) (p0_5.length:Int),bc 85 ad [ae],mp ae ah,bc 86 o [(vp aa 0)],bc 121 aa [b6],own 3 b6 ag.1,mp ax ag.2.1,own 3 aw ag.2.2] U w) (fun(ag: (List Int)×(List (Int×Int))×(List Int)) U w=>∃bq:Value,SH E V [(0,vp b0 0),(19,aw)] [bc 67 b0 [v0_0,v0_1,v0_2,v0_3,v0_4,v0_5,v0_6,v0_7,v0_8,v0_9,v0_10,v0_11],rd v0_2 p0_2,rd v0_3 p0_3,rd v0_5 p0_5,rd v0_6 p0_6,rd v0_10 p0_10,rd v0_11 p0_11,pt (vp ab 0) (p0_5.length:Int),bc 85 ad [ae],mp ae ah,bc 86 o [(vp aa 0)],bc 121 aa [bq],own 3 bq ag.1,mp ax ag.2.1,own 3 aw ag.2.2] U w) hN ?_ ?_ ?_ ?_
 ·exact⟨bm,j.sp 16 [2,3,4,5,6,7,8,9,10,11,12,13,14,1,0]⟩
 ·rintro hm ag _ w ⟨cy,O,rfl,j⟩
  refine RC.sr (ic ((p0_11.length:Int)) ((p0_11.length:Int)) (RL.nq (RC.cT m4 (RC.ex ?_))))
  exact⟨rfl,cy,j.sp 15 [0,1,2,3,4,5,6,7,8,9,10,11,12,13,14]⟩
 ·rintro hm al ag s' _ w hk ⟨br,O,rfl,j⟩ hb
  refine RC.sr (ic ((al:Int)) ((p0_11.length:Int)) (RL.nq (RC.cS (m0 hk) (RC.ss (RC.bs (mv (vi al) ?_))))))
  obtain⟨cz,c0,hb⟩:=bd hb
  refine RL.cC 6 j G9 c0 fun dp j=>(RL.bT 0 cz j rl fun dq j=>(RL.alloc j Ez.z fun dr w j=>?_))
  refine aO (vi al) (RL.bG 0 j 1 zr rl fun w j=>?_)
  refine RL.ns (mv (.func (.func 30) #[] #[(vp ab 0)]) (RL.aX (f:=(fun x=>x)) 0 j zr Fd.self rl fun c1 j=>?_))
  obtain⟨aq,c2,hb⟩:=bd hb
  refine RL.pw [(vp ab 0)] Hf [c1] (aF (mJ N (i0:=0) (i1:=11) j zr zr c2) ?_)
  rintro _ w ⟨rfl,j⟩
  refine aO (vi aq) (RL.nq (RC.seq ?_))
  obtain⟨bt,hj,hb⟩:=bd hb
  refine RC.jn (fun(bt:Bool)=>SH E V [(0,vp b0 0),(6,(.func (.func 30) #[] #[(vp ab 0)])),(7,vp ad 0),(10,vp o 0),(18,ax),(19,aw),(20,vi al),(22,vi aq),(107,v0_11),(108,vi p0_11.length),(109,vi al),(129,vb bt)] [bc 67 b0 [v0_0,v0_1,v0_2,v0_3,v0_4,v0_5,v0_6,v0_7,v0_8,v0_9,v0_10,v0_11],rd v0_2 p0_2,rd v0_3 p0_3,rd v0_5 p0_5,rd v0_6 p0_6,rd v0_10 p0_10,rd v0_11 p0_11,pt (vp ab 0) (p0_5.length:Int),bc 85 ad [ae],mp ae ah,bc 86 o [(vp aa 0)],bc 121 aa [br],own 3 br ag.1,mp ax ag.2.1,own 3 aw ag.2.2]) bt ?_ ?_
  ·refine RC.region (mv (vp b0 0) (RL.nilCheck zr (RL.bA zr Ax (RL.bB 4 v0_10 j fF (mv (vi al) ?_)))))
   obtain⟨bu,c3,hj⟩:=bd hj
   refine RL.cC 9 j eF c3 fun ds j=>(RL.bK bu 0 j cH (ic bu 0 (mv (vb (decide (bu<0))) (gv hj (fun a1 hj=>?_) fun a1 hj=>?_))))
   ·refine bS a1 (bS a1 (bS a1 (gx a1 (vb true) (RL.nil ?_))))
    obtain rfl:=oi hj
    exact⟨rfl,j.sp 20 [5,6,7,8,9,10,11,12,13,14,15,16,17,18,19]⟩
   refine RL.bB (hg:=(cg a1)) 13 ae j Dd (RL.move (vi aq) (cg a1) (RL.ox 14 aq (cg a1) j EC (gx a1 (vb (cZ ah aq (false:Bool))) (RL.nil ?_))))
   obtain rfl:=oi hj
   exact⟨rfl,j.sp 20 [5,6,7,8,9,10,11,12,13,14,15,16,17,18,19]⟩
  rintro _ w ⟨O,rfl,j⟩
  refine aG (fq hb (fun hc hb=>?_) fun hc hb=>?_)
  ·refine RC.sr (mv aw (mv (vi al) ?_))
   obtain⟨dt,bw,hb⟩:=bd hb
   refine RL.bJ 14 j zr zr eF bw ?_
   have j:=j.sc Int (-1)
   refine RL.gj (f:=(fun _ y=>y)) 15 0 j (jv 15 j bw 0) (aY bw).2.1 zr Fs.self cH fun w j=>?_
   refine RL.nt (RC.ex (Fh (aG (RC.region (RL.inc hk hm (mv (vi ((al+1:Nat):Int)) (RL.nil ?_)))))))
   obtain rfl:=oi hb
   exact⟨rfl,br,j.sp 16 [1,2,3,4,5,6,7,8,9,10,11,12,13,14,15]⟩
  refine RC.ss (RC.sr (mv ax (RL.bB 10 (vp aa 0) j De (mv (vi aq) ?_))))
  have j:=(j.pull 12).pull 12
  obtain⟨a2,c4,hb⟩:=bd hb
  refine RL.call zt zr B2 [(vp aa 0),(vi aq)] zr (aF (fN N (p1:=aq) j c4) ?_)
  rintro _ w ⟨c5,rfl,j⟩
  refine RL.yQ 15 a2.1 zt zr j zr zr zr zo (mv (.tuple #[(vi (cZ ag.2.1 a2.1 (0:Int))),(vb (iu ag.2.1 a2.1))]) (RL.extract (vi (cZ ag.2.1 a2.1 (0:Int))) (RL.extract (vb (iu ag.2.1 a2.1)) (aO (vi (cZ ag.2.1 a2.1 (0:Int))) (aO (vb (iu ag.2.1 a2.1)) (RL.ns (mv (vb (iu ag.2.1 a2.1)) (RL.not (iu ag.2.1 a2.1) ?_))))))))
  refine RL.nt ?_
  obtain⟨bg,hj,hb⟩:=bd hb
  refine RC.jn (fun(bg: (List Int)×(List (Int×Int))) U w=>∃bx:Value,SH E V [(0,vp b0 0),(6,(.func (.func 30) #[] #[(vp ab 0)])),(7,vp ad 0),(10,vp o 0),(18,ax),(19,aw),(20,vi al),(22,vi aq),(107,v0_11),(108,vi p0_11.length),(109,vi al)] [bc 67 b0 [v0_0,v0_1,v0_2,v0_3,v0_4,v0_5,v0_6,v0_7,v0_8,v0_9,v0_10,v0_11],rd v0_2 p0_2,rd v0_3 p0_3,rd v0_5 p0_5,rd v0_6 p0_6,rd v0_10 p0_10,rd v0_11 p0_11,pt (vp ab 0) (p0_5.length:Int),bc 85 ad [ae],mp ae ah,bc 86 o [(vp aa 0)],bc 121 aa [bx],own 3 bx bg.1,mp ax bg.2,own 3 aw ag.2.2] U w) bg ?_ ?_
  ·refine fq hj (fun hc hj=>?_) fun hc hj=>?_
   rotate_left
   ·refine RC.skip ?_
    obtain rfl:=oi hj
    exact⟨rfl,c5,j.sp 17 [2,3,4,5,6,7,8,9,10,11,12,0,1,15,16]⟩
   refine RC.region (mv ax (RL.bB 12 (vp aa 0) j De (mv (vi aq) ?_)))
   have j:=(j.pull 1).pull 1
   obtain⟨c6,c7,hj⟩:=bd hj
   refine RL.call zt zr B2 [(vp aa 0),(vi aq)] zr (aF (fN N (p1:=aq) j c7) ?_)
   rintro _ w ⟨c8,rfl,j⟩
   refine mv (vi al) ?_
   have j:=j.sc Int (al:Int)
   refine RL.mapUpdate 18 0 c6.1 j zr zr zr zr zr zo fun w j=>(RL.nil ?_)
   obtain rfl:=oi hj
   exact⟨rfl,c8,j.sp 20 [5,6,7,8,9,10,11,12,13,14,15,1,2,18,19]⟩
  rintro _ w ⟨bx,O,rfl,j⟩
  refine aG (RC.region (mv aw (mv (vi al) (mv ax (RL.bB 10 (vp aa 0) j De (mv (vi aq) ?_))))))
  have j:=(j.pull 12).pull 12
  obtain⟨b7,c9,hb⟩:=bd hb
  refine RL.call zt zr B2 [(vp aa 0),(vi aq)] zr (aF (fN N (p1:=aq) j c9) ?_)
  rintro _ w ⟨da,rfl,j⟩
  refine RL.ox 15 b7.1 zt j zo ?_
  obtain⟨du,bz,hb⟩:=bd hb
  refine RL.bJ 16 j zr zr eF bz ?_
  have j:=j.sc Int (cZ bg.2 b7.1 (0:Int))
  refine RL.gj (f:=(fun _ y=>y)) 17 0 j (jv 17 j bz 0) (aY bz).2.1 zr Fs.self cH fun w j=>?_
  refine RL.nil (bU (aG (RC.region (RL.inc hk hm (mv (vi ((al+1:Nat):Int)) (RL.nil ?_))))))
  obtain rfl:=oi hb
  exact⟨rfl,da,j.sp 18 [3,4,5,6,7,8,9,10,11,12,13,1,2,16,17]⟩
 rintro _ w ⟨bq,O,rfl,j⟩
 refine aG (RC.sr (mv aw (aO aw (RL.nt (RC.ret ?_)))))
 obtain rfl:=oi hb
 exact cD (j.pk 15 [14,0])
end Go.Gk
namespace Go.Gk
open Go Go.Proofs
variable (N:Nat) {E w:World} {b0 i0 i1 i2 i3:Nat} {v0 v0_0 v0_1 v0_10 v0_11 v0_2 v0_3 v0_4 v0_5 v0_6 v0_7 v0_8 v0_9 v1 v2 v3:Value} {V:List HP}
def wJ (E:World) (V:List HP) (b0:Nat) (v0_0 v0_1:Value) (v0_2 v0_3:Value) (v0_4 v0_5:Value) (v0_6 v0_7:Value) (v0_8 v0_9:Value) (v0_10 v0_11:Value) (res: (List Bool)) (v:Value) (w:World):Prop:=Holds E w ([own 4 v res,bc 67 b0 [v0_0,v0_1,v0_2,v0_3,v0_4,v0_5,v0_6,v0_7,v0_8,v0_9,v0_10,v0_11]]++V)
theorem vH {p0_0: (List (List aI))} {p0_1: (List aI)} {p0_2: (List bM)} {p0_3: (List cK)} {p0_5: (List aH)} {p0_6: (List (List Int))} {p0_10: (List Int)} {p0_11: (List dO)} {p1: (List Test)} {p2: (List eT)} {res: (List Bool)} (j:Holds E w (bc 67 b0 [v0_0,v0_1,v0_2,v0_3,v0_4,v0_5,v0_6,v0_7,v0_8,v0_9,v0_10,v0_11]::rd v0_0 p0_0::rd v0_1 p0_1::rd v0_2 p0_2::rd v0_3 p0_3::rd v0_5 p0_5::rd v0_6 p0_6::rd v0_10 p0_10::rd v0_11 p0_11::V)) (h1:V[i1]? =some (rd v1 p1)) (h2:V[i2]? =some (rd v2 p2)) (hb:mg N p0_0 p0_1 p0_2 p0_3 p0_5 p0_6 p0_10 p0_11 p1 p2=some res):
    Calls bD 10 [(vp b0 0),v1,v2].toArray w (gR (wJ E V b0 v0_0 v0_1 v0_2 v0_3 v0_4 v0_5 v0_6 v0_7 v0_8 v0_9 v0_10 v0_11 res)):=by
 unfold mg at hb
 refine enter Tryz.func10 zr zr ?_
 have j:=(j.dup (i1+9) h1).dup (i2+10) h2
 refine RC.sr (aO (.slice none 0 0) (RL.ns (mv (vp b0 0) (mv v2 ?_))))
 have j:=((((((j.dup 10 rfl).dup 10 rfl).dup 10 rfl).dup 10 rfl).dup 10 rfl).dup 10 rfl).pull 8
 obtain⟨au,bf,hb⟩:=bd hb
 refine RL.call zt zr Hh [(vp b0 0),v2] zr (aF (oN N (i1:=0) j zr bf) ?_)
 rintro ah w j
 refine aO ah (RL.ns (aO (.slice none 0 0) (RL.nq (RC.sr (mv v1 (RL.bE 3 p1 j zq (mv (vi 0) (RL.nt ?_))))))))
 obtain⟨ai,hN,hb⟩:=bd hb
 refine RC.fold (fun(ak:Nat) (ai: (List Bool)) U w=>∃a6:Value,SH E V [(0,vp b0 0),(7,ah),(8,a6),(16,v1),(17,vi p1.length),(18,vi ak)] [bc 67 b0 [v0_0,v0_1,v0_2,v0_3,v0_4,v0_5,v0_6,v0_7,v0_8,v0_9,v0_10,v0_11],rd v0_0 p0_0,rd v0_1 p0_1,rd v0_2 p0_2,rd v0_3 p0_3,rd v0_5 p0_5,rd v0_6 p0_6,rd v0_10 p0_10,rd v0_11 p0_11,own 3 ah au,rd v1 p1,own 4 a6 ai] U w) (fun(ai: (List Bool)) U w=>∃an:Value,SH E V [(0,vp b0 0),(8,an)] [bc 67 b0 [v0_0,v0_1,v0_2,v0_3,v0_4,v0_5,v0_6,v0_7,v0_8,v0_9,v0_10,v0_11],rd v0_0 p0_0,rd v0_1 p0_1,rd v0_2 p0_2,rd v0_3 p0_3,rd v0_5 p0_5,rd v0_6 p0_6,rd v0_10 p0_10,rd v0_11 p0_11,own 3 ah au,rd v1 p1,own 4 an ai] U w) hN ?_ ?_ ?_ ?_
 ·have j:=j.dH Bool 4
  exact⟨(.slice none 0 0),j.sp 14 [2,6,7,8,9,10,11,12,13,1,4,0]⟩
 ·rintro hm ai _ w ⟨bh,O,rfl,j⟩
  refine RC.sr (ic ((p1.length:Int)) ((p1.length:Int)) (RL.nq (RC.cT m4 (RC.ex ?_))))
  exact⟨rfl,bh,j.sp 12 [0,1,2,3,4,5,6,7,8,9,10,11]⟩
 ·rintro hm ak ai s' _ w hk ⟨av,O,rfl,j⟩ hb
  refine RC.sr (ic ((ak:Int)) ((p1.length:Int)) (RL.nq (RC.cS (m0 hk) (RC.ss (RC.bs ?_)))))
  obtain⟨al,bj,hb⟩:=bd hb
  refine RL.cC 10 j x6 bj fun bk j=>(RL.bT 0 al j uR fun bl j=>(RL.alloc j EB.z fun aw w j=>?_))
  refine RL.bG 0 j 1 zr uR fun w j=>?_
  refine RL.nq ?_
  obtain⟨ax,bm,hb⟩:=bd hb
  obtain⟨a1,bn,hb⟩:=bd hb
  refine RC.CA E V mixed [1,1,1,0,1,0,0,1,1,1,0,1,0,0,1,1] [5,12] (fun(x:Value×Value)=>(fun ae af=>[(0,22,(vp b0 0)),(1,23,(vp b0 0)),(2,24,(vp b0 0)),(3,25,(.agg ([v0_0,v0_1,v0_2,v0_3]:List Value).toArray)),(4,26,(vp aw 0)),(5,27,ae),(6,28,(vi ax)),(7,29,(vp b0 0)),(8,30,(vp b0 0)),(9,31,(vp b0 0)),(10,32,(.agg ([v0_0,v0_1,v0_2,v0_3]:List Value).toArray)),(11,33,(vp aw 2)),(12,34,af),(13,35,(vi a1)),(14,11,(vi ax)),(15,12,(vi a1))]) x.1 x.2) [(0,vp b0 0),(7,ah),(8,av),(10,vp aw 0),(16,v1),(17,vi p1.length),(18,vi ak)] [] (fun(D:Nat->Bool) (x:Value×Value)=>(fun ae af=>[bif D 0 then (rd ae al.A) else aV,bif D 1 then (rd af al.B) else aV,bx 40 aw al,rd bl al,pt bk al,bc 67 b0 [v0_0,v0_1,v0_2,v0_3,v0_4,v0_5,v0_6,v0_7,v0_8,v0_9,v0_10,v0_11],rd v0_0 p0_0,rd v0_1 p0_1,rd v0_2 p0_2,rd v0_3 p0_3,rd v0_5 p0_5,rd v0_6 p0_6,rd v0_10 p0_10,rd v0_11 p0_11,own 3 ah au,rd v1 p1,own 4 av ai]) x.1 x.2) (fun x=>by kernel_rfl) ?_ ⟨fun _=>jd gn,fun _=>uO gn,fun _=>lU gn lD,?_,fun _=>lU gn qc,?_,?_,fun _=>jd gn,fun _=>uO gn,fun _=>lU gn lD,?_,fun _=>lU gn qd,?_,?_,fun _=>Gt gn rfl,fun _=>Gt gn rfl,trivial⟩ ?_
  ·have j:=((j.drew).aV).aV
   exact⟨(undef,undef),dY.none,(Ba zr),zt,j⟩
  ·rintro D U w hD ad ao ⟨⟨ae,af⟩,o,ha,_,j⟩
   obtain⟨O,rfl⟩:=(ac (o.at 2 rfl (ad.1 rfl)) az).eU
   refine RL.y4 (cs:=[v0_0,v0_1,v0_2,v0_3]) 5 zt zr j zr zr oG zr zr ?_
   exact RL.nil ⟨rfl,(ae,af),o.pu 3,ha.u,zt,j⟩
  ·rintro D U w hD ad ao ⟨⟨ae,af⟩,o,ha,_,j⟩
   obtain⟨O,rfl⟩:=(ac (o.at 4 rfl (ad.1 rfl)) az).eU
   have j:=j.bV 0 hD
   refine RL.aX 2 j zr k6 mS fun bo j=>?_
   have j:=(j.pl 18 [0,2,3,4,5,6,7,8,9,10,11,12,13,14,15,16,17]).cF 0 true aV
   exact RL.nil ⟨rfl,(bo,af),o.pu 5,ha.u,zt,j⟩
  ·rintro D U w hD ad ao ⟨⟨ae,af⟩,o,ha,_,j⟩
   obtain⟨O,rfl⟩:=(ac (o.at 3 rfl (ad.1 rfl)) (ac (o.at 5 rfl (ad.2.1 rfl)) az)).eU
   have j:=(j.cE 0 (ad.2.1 rfl)).xI (cs:=[v0_0,v0_1,v0_2,v0_3]) (x:=(⟨p0_0,p0_1,p0_2,p0_3⟩:iD)) (fun M hs g=>⟨[v0_0],[v0_1,v0_2,v0_3],rfl,(ky (g.sat 6 _ rfl).1),⟨[v0_1],[v0_2,v0_3],rfl,(ky (g.sat 7 _ rfl).1),⟨[v0_2],[v0_3],rfl,(ky (g.sat 8 _ rfl).1),(ky (g.sat 9 _ rfl).1)⟩⟩⟩) rfl
   refine RL.call zt zr zu [(.agg ([v0_0,v0_1,v0_2,v0_3]:List Value).toArray),ae] zr (aF (fO N (i0:=0) (i1:=1) j zr zr bm) ?_)
   rintro _ w ⟨rfl,j⟩
   have j:=(j.pl 18 [1,2,3,4,5,6,7,8,9,10,11,12,13,14,15,16,17]).cF (hb:=ad.2.1 rfl) 0 (D 5) aV
   exact RL.nil ⟨rfl,(ae,af),o.pu 6,ha.u,zt,j⟩
  ·rintro D U w hD ad ao ⟨⟨ae,af⟩,o,ha,_,j⟩
   obtain⟨O,rfl⟩:=(ac (o.at 9 rfl (ad.1 rfl)) az).eU
   refine RL.y4 (cs:=[v0_0,v0_1,v0_2,v0_3]) 5 zt zr j zr zr oG zr zr ?_
   exact RL.nil ⟨rfl,(ae,af),o.pu 10,ha.u,zt,j⟩
  ·rintro D U w hD ad ao ⟨⟨ae,af⟩,o,ha,_,j⟩
   obtain⟨O,rfl⟩:=(ac (o.at 11 rfl (ad.1 rfl)) az).eU
   have j:=j.bV 1 hD
   refine RL.aX 2 j zr k7 mS fun bp j=>?_
   have j:=(j.pl 18 [1,0,3,4,5,6,7,8,9,10,11,12,13,14,15,16,17]).cF 1 true aV
   exact RL.nil ⟨rfl,(ae,bp),o.pu 12,ha.u,zt,j⟩
  ·rintro D U w hD ad ao ⟨⟨ae,af⟩,o,ha,_,j⟩
   obtain⟨O,rfl⟩:=(ac (o.at 10 rfl (ad.1 rfl)) (ac (o.at 12 rfl (ad.2.1 rfl)) az)).eU
   have j:=(j.cE 1 (ad.2.1 rfl)).xI (cs:=[v0_0,v0_1,v0_2,v0_3]) (x:=(⟨p0_0,p0_1,p0_2,p0_3⟩:iD)) (fun M hs g=>⟨[v0_0],[v0_1,v0_2,v0_3],rfl,(ky (g.sat 6 _ rfl).1),⟨[v0_1],[v0_2,v0_3],rfl,(ky (g.sat 7 _ rfl).1),⟨[v0_2],[v0_3],rfl,(ky (g.sat 8 _ rfl).1),(ky (g.sat 9 _ rfl).1)⟩⟩⟩) rfl
   refine RL.call zt zr zu [(.agg ([v0_0,v0_1,v0_2,v0_3]:List Value).toArray),af] zr (aF (fO N (i0:=0) (i1:=2) j zr zr bn) ?_)
   rintro _ w ⟨rfl,j⟩
   have j:=(j.pl 18 [1,2,3,4,5,6,7,8,9,10,11,12,13,14,15,16,17]).cF (hb:=ad.2.1 rfl) 1 (D 12) aV
   exact RL.nil ⟨rfl,(ae,af),o.pu 13,ha.u,zt,j⟩
  rintro D U w ay ⟨⟨ae,af⟩,o,ha,_,j⟩
  have j:=(j.cE 0 (jy ay 5)).cE 1 (jy ay 12)
  obtain⟨O,rfl⟩:=(ac (o.at 14 rfl (jy ay 14)) (ac (o.at 15 rfl (jy ay 15)) (ac (ha.at 0 rfl) (ac (ha.at 1 rfl) (ac (ha.at 2 rfl) (ac (ha.at 3 rfl) (ac (ha.at 4 rfl) (ac (ha.at 5 rfl) (ac (ha.at 6 rfl) az))))))))).eU
  refine aG ?_
  obtain⟨a2,hj,hb⟩:=bd hb
  refine RC.jn (fun(a2: (List Bool)) U w=>∃a0:Value,SH E V [(0,vp b0 0),(7,ah),(8,a0),(16,v1),(17,vi p1.length),(18,vi ak)] [bc 67 b0 [v0_0,v0_1,v0_2,v0_3,v0_4,v0_5,v0_6,v0_7,v0_8,v0_9,v0_10,v0_11],rd v0_0 p0_0,rd v0_1 p0_1,rd v0_2 p0_2,rd v0_3 p0_3,rd v0_5 p0_5,rd v0_6 p0_6,rd v0_10 p0_10,rd v0_11 p0_11,own 3 ah au,rd v1 p1,own 4 a0 a2] U w) a2 ?_ ?_
  ·refine RC.wz mixed [1,0,0,0,0,0,0,0,0,0,0,0,0,0,0,0,0,2,2,0] [0,1,2,3,4,5,6,7,8,9,10,11,12,13,14,15,16,17,18,19] ?_
   have j:=j.drew
   refine DP.e1 av zr (fun w=>RL.move av zt DP.d1) (DP.e0 zr (mv ah (bZ zr (mv (vi ax) (bZ zr ?_)))))
   obtain⟨a9,a3,hj⟩:=bd hj
   refine RL.bJ 14 j zr zr eF a3 (bZ zr (RL.cO (f:=(fun x=>x)) 14 j (jv 14 j a3 0) (aY a3).2.1 Fd.self cH (bZ zr (ic a9 0 (bZ zr (mv (vb (decide (a9>=0))) (DP.d0 (gv hj (fun aa hj=>?_) fun aa hj=>?_))))))))
   rotate_left
   ·refine DP.e0 zr (bS aa (bZ zr (bS aa (bZ zr (bS aa (bZ zr (bS aa (bZ zr ?_))))))))
    refine bS aa (bZ zr (bS aa (bZ zr (bS aa (bZ zr (bS aa (bZ zr (bS aa ?_))))))))
    refine bZ zr (gx aa (vb false) (sB zr ?_))
    have j:=j.sc Bool false
    refine RL.eY ([false]: (List Bool)) j [(vb false)] Df Js (fun M hs g=>⟨(g.sat 0 _ zr).1,zt⟩) fun bt w j=>(Er zr ?_)
    have j:=j.freeze 0
    obtain⟨bu,bq,hj⟩:=bd hj
    refine RL.app 18 0 j Hi bq fun ba w j=>?_
    refine wC zr (aO ba (DP.d0 (DP.z ?_)))
    obtain rfl:=oi hj
    exact⟨rfl,ba,j.sp 19 [7,8,9,10,11,12,13,14,15,16,17,18]⟩
   refine DP.e0 zr (RL.move ah (cg aa) (bZ zr (RL.move (vi ax) (cg aa) (bZ zr ?_))))
   obtain⟨aq,a4,hj⟩:=bd hj
   refine RL.bJ (hg:=(cg aa)) 14 j zr zr eF a4 (bZ zr (RL.cO (hg:=(cg aa)) (f:=(fun x=>x)) 14 j (jv 14 j a4 0) (aY a4).2.1 Fd.self cH (bZ zr (RL.move ah (cg aa) (bZ zr (RL.move (vi a1) (cg aa) (bZ zr ?_)))))))
   obtain⟨ar,a5,hj⟩:=bd hj
   refine RL.bJ (hg:=(cg aa)) 14 j zr zr eF a5 (bZ zr (RL.cO (hg:=(cg aa)) (f:=(fun x=>x)) 14 j (jv 14 j a5 0) (aY a5).2.1 Fd.self cH (bZ zr (RL.jP aq ar (cg aa) (bZ zr (gx aa (vb (aq==ar)) (sB zr ?_)))))))
   have j:=j.sc Bool (aq==ar)
   refine RL.eY ([(aq==ar)]: (List Bool)) j [(vb (aq==ar))] Df Js (fun M hs g=>⟨(g.sat 0 _ zr).1,zt⟩) fun bw w j=>(Er zr ?_)
   have j:=j.freeze 0
   obtain⟨bz,br,hj⟩:=bd hj
   refine RL.app 18 0 j Hi br fun bb w j=>?_
   refine wC zr (aO bb (DP.d0 (DP.z ?_)))
   obtain rfl:=oi hj
   exact⟨rfl,bb,j.sp 19 [7,8,9,10,11,12,13,14,15,16,17,18]⟩
  rintro _ w ⟨a0,O,rfl,j⟩
  refine bU (aG (RC.region (RL.inc hk hm (mv (vi ((ak+1:Nat):Int)) (RL.nil ?_)))))
  obtain rfl:=oi hb
  exact⟨rfl,a0,j.sp 12 [0,1,2,3,4,5,6,7,8,9,10,11]⟩
 rintro _ w ⟨an,O,rfl,j⟩
 refine aG (RC.sr (mv an (aO an (RL.nt (RC.ret ?_)))))
 obtain rfl:=oi hb
 exact cD (j.pk 12 [11,0])
def wK (E:World) (V:List HP) (res: (List Bool)×Int) (v:Value) (w:World):Prop:=∃u0:Value,v = .tuple #[u0,(vi res.2)]/\Holds E w ([own 4 u0 res.1]++V)
theorem qA {p0:iD} {p1: (List Test)} {p2: (List eT)} {res: (List Bool)×Int} (j:Holds E w V) (h0:V[i0]? =some (rd v0 p0)) (h1:V[i1]? =some (rd v1 p1)) (h2:V[i2]? =some (rd v2 p2)) (o:fK N p0 p1 p2=some res):
    Calls bD 4 [v0,v1,v2].toArray w (gR (wK E V res)):=by
 unfold fK at o
 refine enter Tryz.func4 zr zr ?_
 have j:=((j.dup (i0+0) h0).dup (i1+1) h1).dup (i2+2) h2
 refine RC.sr (RL.dD 2 v0 j zr fun al w j=>?_)
 refine aO (.slice none 0 0) (aO (vi 0) (RL.ns (RL.aX (f:=(fun x=>x)) 0 j zr Fd.self oG fun ah j=>(mv v1 ?_))))
 obtain⟨aa,ai,o⟩:=bd o
 refine RL.call zt zr JF [ah,v1] zr (aF (wI N (i0:=0) (i1:=3) j zr zr ai) ?_)
 rintro _ w hK49
 rcases af:aa.1 with _ | an
 ·replace o:=FC af o
  obtain⟨rfl,j⟩:=CP af hK49
  refine mv (.tuple #[(.pointer none),(vi aa.2)]) (RL.extract (.pointer none) (RL.extract (vi aa.2) (aO (.pointer none) (aO (vi aa.2) (RL.nq (RC.sr (mv (vi aa.2) (ic aa.2 0 ?_))))))))
  refine RL.nt (fq o (fun hc o=>?_) fun hc o=>?_)
  rotate_left
  ·cases o
  refine RC.sr (mv (vi aa.2) (aO (.slice none 0 0) (aO (vi aa.2) (RL.nt (RC.rt ?_)))))
  obtain rfl:=oi o
  have j:=j.dH Bool 4
  exact jw ⟨(.slice none 0 0),zr,j.pk 6 [0]⟩
 replace o:=FD af o
 obtain⟨ab,ao,aq,ar,au,av,aw,ax,ay,az,a0,a1,a2,rfl,j⟩:=CQ af hK49
 refine mv (.tuple #[(vp ab 0),(vi aa.2)]) (RL.extract (vp ab 0) (RL.extract (vi aa.2) (aO (vp ab 0) (aO (vi aa.2) (RL.nq (RC.sr (mv (vi aa.2) (ic aa.2 0 ?_))))))))
 refine RL.nt (fq o (fun hc o=>?_) fun hc o=>?_)
 ·refine RC.sr (mv (vi aa.2) (aO (.slice none 0 0) (aO (vi aa.2) (RL.nt (RC.rt ?_)))))
  obtain rfl:=oi o
  have j:=j.dH Bool 4
  exact jw ⟨(.slice none 0 0),zr,j.pk 19 [0]⟩
 refine RC.ss (RC.sr (mv (vp ab 0) (mv v2 ?_)))
 have j:=((((((((((((j.freeze 5).freeze 8).freeze 11).freeze 12).dup 12 rfl).dup 12 rfl).dup 12 rfl).dup 12 rfl).dup 12 rfl).dup 12 rfl).dup 12 rfl).dup 12 rfl).dup 12 rfl
 have j:=(((j.dup 12 rfl).dup 12 rfl).dup 12 rfl).pull 12
 obtain⟨ae,aj,o⟩:=bd o
 refine RL.call zt zr Jr [(vp ab 0),v2] zr (aF (mI N (i1:=15) j zr aj) ?_)
 rintro _ w ⟨rfl,j⟩
 refine aO (vi ae) (RL.ns (mv (vi ae) (ic ae 0 (RL.nt (fq o (fun hc o=>?_) fun hc o=>?_)))))
 ·refine RC.sr (mv (vi ae) (aO (.slice none 0 0) (aO (vi ae) (RL.nt (RC.rt ?_)))))
  obtain rfl:=oi o
  have j:=j.dH Bool 4
  exact jw ⟨(.slice none 0 0),zr,j.pk 20 [0]⟩
 refine RC.sx (mv (vp ab 0) (mv v1 (mv v2 ?_)))
 have j:=((((((((j.dup 13 rfl).dup 13 rfl).dup 10 rfl).dup 10 rfl).dup 9 rfl).dup 9 rfl).dup 9 rfl).dup 9 rfl).pull 8
 obtain⟨a3,ak,o⟩:=bd o
 refine RL.call zt zr IY [(vp ab 0),v1,v2] zr (aF (vH N (i1:=17) (i2:=16) j zr zr ak) ?_)
 rintro ag w j
 refine aO ag (aO (vi 0) (RL.nt (RC.ret ?_)))
 obtain rfl:=oi o
 exact jw ⟨ag,zr,j.pk 21 [0]⟩
theorem ny {p0:iD} {p1: (List eT)} {p2 p3:fB} {res:Bool×Int} (j:Holds E w V) (h0:V[i0]? =some (rd v0 p0)) (h1:V[i1]? =some (rd v1 p1)) (h2:V[i2]? =some (rd v2 p2)) (h3:V[i3]? =some (rd v3 p3)) (o:dU N p0 p1 p2 p3=some res):
    Calls bD 6 [v0,v1,v2,v3].toArray w (gR (lE E V res)):=by
 unfold dU at o
 refine enter Tryz.func6 zr zr ?_
 have j:=(((j.dup (i0+0) h0).dup (i1+1) h1).dup (i2+2) h2).dup (i3+3) h3
 refine RC.sr (RL.dD 3 v0 j zr fun a6 w j=>?_)
 have j:=j.gm (i:=0) rfl
 refine RL.dD 2 v2 j zr fun a7 w j=>?_
 have j:=j.gm (i:=0) rfl
 refine RL.dD 2 v3 j zr fun a8 w j=>?_
 have j:=j.gm (i:=0) rfl
 refine aO (vb false) (aO (vi 0) (RL.ns (RL.bT 2 p0 j oG fun aw j=>?_)))
 obtain⟨ab,ax,o⟩:=bd o
 refine RL.call zt zr Ha [aw] zr (aF (qy N (i0:=0) j zr ax) ?_)
 rintro _ w hK51
 rcases aj:ab.1 with _ | a9
 ·replace o:=FC aj o
  obtain⟨rfl,j⟩:=CP aj hK51
  refine mv (.tuple #[(.pointer none),(vi ab.2)]) (RL.extract (.pointer none) (RL.extract (vi ab.2) (aO (.pointer none) (aO (vi ab.2) (RL.nq (RC.sr (mv (vi ab.2) (ic ab.2 0 ?_))))))))
  refine RL.nt (fq o (fun hc o=>?_) fun hc o=>?_)
  rotate_left
  ·cases o
  refine RC.sr (mv (vi ab.2) (aO (vb false) (aO (vi ab.2) (RL.nt (RC.rt ?_)))))
  obtain rfl:=oi o
  exact jw ⟨rfl,j.drop 8⟩
 replace o:=FD aj o
 obtain⟨ah,ba,bb,bc,bf,bg,bh,bj,bk,bl,bm,bn,bo,rfl,j⟩:=CQ aj hK51
 refine mv (.tuple #[(vp ah 0),(vi ab.2)]) (RL.extract (vp ah 0) (RL.extract (vi ab.2) (aO (vp ah 0) (aO (vi ab.2) (RL.nq (RC.sr (mv (vi ab.2) (ic ab.2 0 ?_))))))))
 refine RL.nt (fq o (fun hc o=>?_) fun hc o=>?_)
 ·refine RC.sr (mv (vi ab.2) (aO (vb false) (aO (vi ab.2) (RL.nt (RC.rt ?_)))))
  obtain rfl:=oi o
  exact jw ⟨rfl,j.drop 21⟩
 refine RC.ss (RC.sr (mv (vp ah 0) (mv v1 ?_)))
 have j:=((((((((((((j.freeze 5).freeze 8).freeze 11).freeze 12).dup 12 rfl).dup 12 rfl).dup 12 rfl).dup 12 rfl).dup 12 rfl).dup 12 rfl).dup 12 rfl).dup 12 rfl).dup 12 rfl
 have j:=(((j.dup 12 rfl).dup 12 rfl).dup 12 rfl).pull 12
 obtain⟨ai,ay,o⟩:=bd o
 refine RL.call zt zr Jr [(vp ah 0),v1] zr (aF (mI N (i1:=19) j zr ay) ?_)
 rintro _ w ⟨rfl,j⟩
 refine aO (vi ai) (RL.ns (mv (vi ai) (ic ai 0 (RL.nt (fq o (fun hc o=>?_) fun hc o=>?_)))))
 ·refine RC.sr (mv (vi ai) (aO (vb false) (aO (vi ai) (RL.nt (RC.rt ?_)))))
  obtain rfl:=oi o
  exact jw ⟨rfl,j.drop 22⟩
 refine RC.ss (RC.wz mixed [0,0,2,1,1,2,0,0] [0,1,3,4,2,5,6,7] ?_)
 have j:=j.drew
 refine DP.e0 zr (RL.bT 17 p0 j oG fun az j=>(bZ zr (RL.bT 17 p2 j mS fun a0 j=>(DP.d0 (DP.uP p0 19 zr j oG fun a1 a56 bp j=>(DP.uP p3 19 zr j mS fun a2 a59 bq j=>(DP.e2 zr ?_)))))))
 obtain⟨ad,a3,o⟩:=bd o
 refine RL.call zt zr zu [az,a0] zr (aF (fO N (i0:=5) (i1:=4) j zr zr a3) ?_)
 rintro _ w ⟨rfl,j⟩
 refine DP.d2 (⟨⟨zt,j.jA 2⟩,j.jA 0⟩) (DP.e2 zr ?_)
 obtain⟨af,a4,o⟩:=bd o
 refine RL.call zt zr zu [a1,a2] zr (aF (fO N (i0:=3) (i1:=1) j zr zr a4) ?_)
 rintro _ w ⟨rfl,j⟩
 refine DP.d2 (⟨⟨zt,j.jA 2⟩,j.jA 0⟩) (DP.e0 zr (aO (vi ad) (bZ zr (aO (vi af) (DP.d0 ?_)))))
 have j:=j.pl 28 [1,3,4,5,6,7,8,9,10,11,12,13,14,15,16,17,18,19,20,21,22,23,24,25,26,27]
 refine DP.z (aG (RC.seq (RC.sr (mv (vi ad) (ic ad 0 (mv (vb (decide (ad<0))) (RL.gs true (decide (ad<0)) (vi af) rfl rfl rfl eC (RL.gs true (decide (ad<0)) (vb (decide (af<0))) rfl rfl rfl (eP .lss .i64 af 0 rfl (fun h=>by exact(cR h:cv (true&&((decide (ad<0))==false)) (vi af)= (vi af))) (fun _=>rfl) rfl) ?_))))))))
 refine RL.pick (decide (ad<0)) (vb ((decide (ad<0))||(decide (af<0)))) (px true zr) (RL.nt (fq o (fun hc o=>?_) fun hc o=>?_))
 ·refine RC.sr (aO (vb false) (aO (vi 9) (RL.nt (RC.rt ?_))))
  obtain rfl:=oi o
  exact jw ⟨rfl,j.drop 26⟩
 refine RC.sx (mv (vp ah 0) (mv v1 ?_))
 have j:=((((((j.dup 17 rfl).dup 17 rfl).dup 14 rfl).dup 14 rfl).dup 13 rfl).dup 13 rfl).pull 10
 obtain⟨br,a5,o⟩:=bd o
 refine RL.call zt zr Hh [(vp ah 0),v1] zr (aF (oN N (i1:=24) j zr a5) ?_)
 rintro ak w j
 refine aO ak (RL.nq ?_)
 obtain⟨al,hj,o⟩:=bd o
 refine RC.jn (fun(al:Bool)=>SH E V [(8,vb al),(9,vi 0)] []) al ?_ ?_
 ·refine RC.wy mixed ?_
  have j:=j.drew
  refine RO.go (mv ak (RO.nx (mv (vi ad) (RO.nx ?_))))
  obtain⟨av,an,hj⟩:=bd hj
  refine RL.bJ 0 j zr zr eF an (RO.nx (RL.cO (f:=(fun x=>x)) 0 j (jv 0 j an 0) (aY an).2.1 Fd.self cH (RO.nx (ic av 0 (RO.nx (mv (vb (decide (av>=0))) (gv hj (fun aa hj=>?_) fun aa hj=>?_)))))))
  rotate_left
  ·refine RO.nx (bS aa (RO.nx (bS aa (RO.nx (bS aa (RO.nx (bS aa (RO.nx ?_))))))))
   refine bS aa (RO.nx (bS aa (RO.nx (bS aa (RO.nx (bS aa (RO.nx (bS aa ?_))))))))
   refine RO.nx (gx aa (vb false) (RO.nx (aO (vb false) (RO.nx (aO (vi 0) (RO.last ?_))))))
   obtain rfl:=oi hj
   exact⟨rfl,j.sp 28 []⟩
  refine RO.nx (RL.move ak (cg aa) (RO.nx (RL.move (vi ad) (cg aa) (RO.nx ?_))))
  obtain⟨ao,aq,hj⟩:=bd hj
  refine RL.bJ (hg:=(cg aa)) 0 j zr zr eF aq (RO.nx (RL.cO (hg:=(cg aa)) (f:=(fun x=>x)) 0 j (jv 0 j aq 0) (aY aq).2.1 Fd.self cH (RO.nx (RL.move ak (cg aa) (RO.nx (RL.move (vi af) (cg aa) (RO.nx ?_)))))))
  obtain⟨ar,au,hj⟩:=bd hj
  refine RL.bJ (hg:=(cg aa)) 0 j zr zr eF au (RO.nx (RL.cO (hg:=(cg aa)) (f:=(fun x=>x)) 0 j (jv 0 j au 0) (aY au).2.1 Fd.self cH (RO.nx (RL.jP ao ar (cg aa) (RO.nx (gx aa (vb (ao==ar)) (RO.nx (aO (vb (ao==ar)) ?_))))))))
  refine RO.nx (aO (vi 0) (RO.last ?_))
  obtain rfl:=oi hj
  exact⟨rfl,j.sp 28 []⟩
 rintro _ w ⟨O,rfl,j⟩
 refine aG (RC.ret ?_)
 obtain rfl:=oi o
 exact jw ⟨rfl,j.drop 0⟩
theorem k9 {res:Bool} (j:Holds E w V) (hb:fL N=some res):
    Calls bD 5 [].toArray w (gR (bF E V res)):=by
 unfold fL at hb
 refine enter Tryz.func5 zr zr (RC.sr (aO (vb false) (RL.ns ?_)))
 have j:=(j.sc Int 1).sc Int 1
 refine RL.build (⟨0,0,1,1⟩:aI) trivial rfl j [(2,vi 1),(3,vi 1)] rfl BV rfl (fun M hs g=>by have h:=rT M;exact dJ.cons (f:=fun(x:aI) y=>{x with X1:=y}) h oA (g.sat 1 _ rfl).1 fun _ h=>dJ.cons (f:=fun(x:aI) y=>{x with Y1:=y}) h qT (g.sat 0 _ rfl).1 fun _ h=>dJ.nil h) fun ae j=>?_
 refine RL.eY ([(⟨0,0,1,1⟩:aI)]: (List aI)) j [ae] lq n9 (fun M hs g=>⟨(g.sat 0 _ zr).1,zt⟩) fun af w j=>?_
 have j:=j.freeze 0
 refine RL.eY ([([(⟨0,0,1,1⟩:aI)]: (List aI))]: (List (List aI))) j [af] Ap GU (fun M hs g=>⟨(g.sat 0 _ zr).1,zt⟩) fun ad w j=>?_
 have j:=(j.sc cX ⟨[97]⟩).sc cX ⟨[49]⟩
 refine RL.build (⟨⟨[97]⟩,⟨[49]⟩,0,⟨0,0⟩⟩:cK) trivial rfl j [(0,(str ⟨[97]⟩)),(1,(str ⟨[49]⟩))] rfl IZ rfl (fun M hs g=>by have h:=FK M;exact dJ.cons (f:=fun(x:cK) y=>{x with Part:=y}) h BP (g.sat 1 _ rfl).1 fun _ h=>dJ.cons (f:=fun(x:cK) y=>{x with fB:=y}) h BQ (g.sat 0 _ rfl).1 fun _ h=>dJ.nil h) fun ag j=>?_
 refine RL.eY ([(⟨⟨[97]⟩,⟨[49]⟩,0,⟨0,0⟩⟩:cK)]: (List cK)) j [ag] BZ FM (fun M hs g=>⟨(g.sat 0 _ zr).1,zt⟩) fun aa w j=>(RL.CK (zs:=[(.slice none 0 0),(.slice none 0 0),(.slice none 0 0),(.slice none 0 0)]) (cs:=[ad,(.slice none 0 0),(.slice none 0 0),aa]) zt zr [(0,ad),(3,aa)] zr I0 ⟨(iI 4 j),(iI 0 j),zt⟩ zr (RL.alloc j I1.z fun al w j=>?_))
 have j:=((((j.freeze 5).vc aI).vc bM).freeze 3).xI (cs:=[ad,(.slice none 0 0),(.slice none 0 0),aa]) (x:=(⟨([([(⟨0,0,1,1⟩:aI)]: (List aI))]: (List (List aI))),([]: (List aI)),([]: (List bM)),([(⟨⟨[97]⟩,⟨[49]⟩,0,⟨0,0⟩⟩:cK)]: (List cK))⟩:iD)) (fun M hs g=>⟨[ad],[(.slice none 0 0),(.slice none 0 0),aa],rfl,(ky (g.sat 7 _ rfl).1),⟨[(.slice none 0 0)],[(.slice none 0 0),aa],rfl,(ky (g.sat 1 _ rfl).1),⟨[(.slice none 0 0)],[aa],rfl,(ky (g.sat 0 _ rfl).1),(ky (g.sat 3 _ rfl).1)⟩⟩⟩) rfl
 refine RL.bG 3 j 0 zr oG fun w j=>?_
 refine RL.ns (RL.aX (f:=(fun x=>x)) 3 j zr Fd.self oG fun ah j=>?_)
 have j:=(j.sc cX ⟨[97]⟩).sc cX ⟨[49]⟩
 refine RL.build (⟨⟨[97]⟩,⟨[49]⟩⟩:fB) trivial rfl j [(0,(str ⟨[97]⟩)),(1,(str ⟨[49]⟩))] rfl FN rfl (fun M hs g=>by have h:=CZ M;exact dJ.cons (f:=fun(x:fB) y=>{x with Part:=y}) h vt (g.sat 1 _ rfl).1 fun _ h=>dJ.cons (f:=fun(x:fB) y=>{x with fB:=y}) h vu (g.sat 0 _ rfl).1 fun _ h=>dJ.nil h) fun ai j=>?_
 have j:=(j.sc cX ⟨[97]⟩).sc cX ⟨[49]⟩
 refine RL.build (⟨⟨[97]⟩,⟨[49]⟩⟩:fB) trivial rfl j [(0,(str ⟨[97]⟩)),(1,(str ⟨[49]⟩))] rfl FN rfl (fun M hs g=>by have h:=CZ M;exact dJ.cons (f:=fun(x:fB) y=>{x with Part:=y}) h vt (g.sat 1 _ rfl).1 fun _ h=>dJ.cons (f:=fun(x:fB) y=>{x with fB:=y}) h vu (g.sat 0 _ rfl).1 fun _ h=>dJ.nil h) fun aj j=>?_
 have j:=j.vc eT
 obtain⟨o,ak,hb⟩:=bd hb
 refine RL.call zt zr Ju [ah,(.slice none 0 0),ai,aj] zr (aF (ny N (i0:=7) (i1:=0) (i2:=4) (i3:=1) j zr zr zr zr ak) ?_)
 rintro _ w ⟨rfl,j⟩
 refine mv (.tuple #[(vb o.1),(vi o.2)]) (RL.extract (vb o.1) (RL.extract (vi o.2) (aO (vb o.1) (aO (vi o.2) (RL.ns (mv (vi o.2) (ic o.2 0 (mv (vb (o.2==0)) ?_))))))))
 refine RL.gs true (o.2==0) (vb o.1) zr zr zr eC (RL.pick (o.2==0) (vb ((o.2==0)&&o.1)) (iX true) (aO (vb ((o.2==0)&&o.1)) (RL.nt (RC.ret ?_))))
 obtain rfl:=oi hb
 exact cD ⟨rfl,j.drop 21⟩
def vI (E:World) (V:List HP) (r:Bool×Int) (U:Nat->Value) (w:World):Prop:=lK bD 37 Tryz.f7 (lE E V r) .ret U w
theorem uW {p0:iD} {p1: (List Test)} {p2: (List eT)} {res:Bool×Int} (j:Holds E w V) (h0:V[i0]? =some (rd v0 p0)) (h1:V[i1]? =some (rd v1 p1)) (h2:V[i2]? =some (rd v2 p2)) (o:lB N p0 p1 p2=some res):
    Calls bD 7 [v0,v1,v2].toArray w (gR (lE E V res)):=by
 unfold lB at o
 refine enter Tryz.func7 zr zr ?_
 have j:=((j.dup (i0+0) h0).dup (i1+1) h1).dup (i2+2) h2
 refine RC.sr (RL.dD 2 v0 j zr fun au w j=>?_)
 refine aO (vb false) (aO (vi 0) (RL.ns (RL.aX (f:=(fun x=>x)) 0 j zr Fd.self oG fun ak j=>(mv v1 (mv v2 ?_)))))
 obtain⟨aa,al,o⟩:=bd o
 refine RL.call zt zr Jt [ak,v1,v2] zr (aF (qA N (i0:=0) (i1:=3) (i2:=2) j zr zr zr al) ?_)
 rintro _ w ⟨ab,rfl,j⟩
 refine mv (.tuple #[ab,(vi aa.2)]) (RL.extract ab (RL.extract (vi aa.2) (aO ab (aO (vi aa.2) (RL.nq (RC.sr (mv (vi aa.2) (ic aa.2 0 ?_))))))))
 refine RL.nt (fq o (fun hc o=>?_) fun hc o=>?_)
 ·refine RC.sr (mv (vi aa.2) (aO (vb false) (aO (vi aa.2) (RL.nt (RC.rt ?_)))))
  obtain rfl:=oi o
  exact jw ⟨rfl,j.drop 6⟩
 refine RC.ss (RC.sr (mv v1 (RL.bE 4 p1 j zq (mv (vi 0) (RL.nt ?_)))))
 obtain⟨av,hN,o⟩:=bd o
 refine RC.range (fun(ad:Nat) (ae:Unit)=>SH E V [(8,ab),(22,v1),(23,vi p1.length),(24,vi ad)] [own 4 ab aa.1,rd v1 p1]) (fun(ae:Unit)=>SH E V [] [own 4 ab aa.1,rd v1 p1]) (vI E V) hN ?_ ?_ ?_ ?_ ?_
 ·exact j.sp 6 [0,4]
 ·rintro hm ae _ w ⟨O,rfl,j⟩
  refine RC.sr (ic ((p1.length:Int)) ((p1.length:Int)) (RL.nq (RC.cT m4 (RC.ex ?_))))
  exact⟨rfl,j.sp 2 [0,1]⟩
 ·rintro hm ad ae fl _ w hk ⟨O,rfl,j⟩ o
  refine RC.sr (ic ((ad:Int)) ((p1.length:Int)) (RL.nq (RC.cS (m0 hk) (RC.ss (RC.bs (mv (vi ad) ?_))))))
  obtain⟨aj,ao,o⟩:=bd o
  refine RL.cC 1 j x6 ao fun ax j=>(RL.bT 0 aj j uR fun ay j=>(RL.alloc j EB.z fun az w j=>?_))
  refine aO (vi ad) (RL.bG 0 j 1 zr uR fun w j=>?_)
  refine RL.nq (RC.wy mixed ?_)
  have j:=j.drew
  refine RO.go (mv ab (RO.nx (mv (vi ad) (RO.nx ?_))))
  obtain⟨aq,ag,o⟩:=bd o
  refine RL.bJ 3 j zr zr Df ag (RO.nx (RL.cO (f:=(fun x=>x)) 3 j (jv 3 j ag 0) (aY ag).2.1 Fd.self uQ (RO.nx (RL.bA zr Dg (RO.nx (RL.aN 0 j zr xg uQ (RO.nx (RL.xG aq aj.Joined zt zr zr zr E6 ?_))))))))
  refine RO.last (aG (fq o (fun hc o=>?_) fun hc o=>?_))
  rotate_left
  ·refine RC.skip (bU (aG (RC.region (RL.inc hk hm (mv (vi ((ad+1:Nat):Int)) (RL.nil ?_))))))
   obtain rfl:=oi o
   exact⟨rfl,j.sp 5 [3,4]⟩
  refine RC.sr (aO (vb false) (aO (vi 0) (RL.nt (RC.rb (bL ?_)))))
  obtain rfl:=oi o
  exact⟨rfl,jw ⟨rfl,j.drop 5⟩⟩
 ·intro r U w e hK
  subst e
  refine bL ?_
  obtain rfl:=oi o
  exact hK
 rintro ae _ w rfl ⟨O,rfl,j⟩
 rw [Fo.fZ] at o
 refine aG (RC.sr (aO (vb true) (aO (vi 0) (RL.nt (RC.ret ?_)))))
 obtain rfl:=oi o
 exact jw ⟨rfl,j.drop 2⟩
def jR (E:World) (V:List HP) (r:Bool) (U:Nat->Value) (w:World):Prop:=lK bD 96 Tryz.f3 (bF E V r) .ret U w
theorem jL {p0:iD} {p1: (List Test)} {p2: (List eT)} {res:Bool} (j:Holds E w V) (h0:V[i0]? =some (rd v0 p0)) (h1:V[i1]? =some (rd v1 p1)) (h2:V[i2]? =some (rd v2 p2)) (o:dI N p0 p1 p2=some res):
    Calls bD 3 [v0,v1,v2].toArray w (gR (bF E V res)):=by
 unfold dI at o
 refine enter Tryz.func3 zr zr ?_
 have j:=((j.dup (i0+0) h0).dup (i1+1) h1).dup (i2+2) h2
 refine RC.sr (RL.dD 2 v0 j zr fun ak w j=>?_)
 refine aO (vb false) (RL.ns (RL.aX (f:=(fun x=>x)) 0 j zr Fd.self oG fun a3 j=>(mv v1 (mv v2 ?_))))
 obtain⟨af,a4,o⟩:=bd o
 refine RL.call zt zr Jt [a3,v1,v2] zr (aF (qA N (i0:=0) (i1:=3) (i2:=2) j zr zr zr a4) ?_)
 rintro _ w ⟨ag,rfl,j⟩
 refine mv (.tuple #[ag,(vi af.2)]) (RL.extract ag (RL.extract (vi af.2) (aO ag (aO (vi af.2) (RL.nq (RC.sr (mv (vi af.2) (ic af.2 0 ?_))))))))
 refine RL.nt (fq o (fun hc o=>?_) fun hc o=>?_)
 ·refine RC.seq ?_
  obtain⟨ar,hj,o⟩:=bd o
  refine RC.jn (fun(ar:Bool)=>SH E V [(6,vb ar)] []) ar ?_ ?_
  ·refine RC.region (mv ag (RL.fU 0 af.1 j Hj (ic ((af.1.length:Int)) 0 (mv (vb ((af.1.length:Int)==0)) (gv hj (fun an hj=>?_) fun an hj=>?_)))))
   rotate_left
   ·refine bS an (gx an (vb false) (aO (vb false) (RL.nil ?_)))
    obtain rfl:=oi hj
    exact⟨rfl,j.sp 6 []⟩
   obtain⟨a0,a5,hj⟩:=bd hj
   refine RL.call (cg an) zr Jv [] zr (aF (k9 N j a5) ?_)
   rintro _ w ⟨rfl,j⟩
   refine gx an (vb a0) (aO (vb a0) (RL.nil ?_))
   obtain rfl:=oi hj
   exact⟨rfl,j.sp 6 []⟩
  rintro _ w ⟨O,rfl,j⟩
  refine aG (RC.rt ?_)
  obtain rfl:=oi o
  exact cD ⟨rfl,j.drop 0⟩
 refine RC.ss (RC.sr (mv ag (RL.fU 0 af.1 j Hj (mv v1 (RL.bE 4 p1 j zq (ic ((af.1.length:Int)) ((p1.length:Int)) (RL.nt (fq o (fun hc o=>?_) fun hc o=>?_))))))))
 ·refine RC.sr (aO (vb false) (RL.nt (RC.rt ?_)))
  obtain rfl:=oi o
  exact cD ⟨rfl,j.drop 6⟩
 refine RC.sx (aO (vb true) (RL.nq (RC.sr (aO (vi 0) (RL.nt ?_)))))
 obtain⟨bn,hN,o⟩:=bd o
 refine RC.iter (fun(ab:Bool×Int)=>SH E V [(1,v1),(2,v2),(3,vp ak 0),(7,ag),(9,vb ab.1),(10,vi ab.2)] [rd v1 p1,rd v2 p2,bx 27 ak p0,own 4 ag af.1]) (fun(ab:Bool×Int)=>SH E V [(1,v1),(2,v2),(3,vp ak 0),(9,vb ab.1)] [rd v1 p1,rd v2 p2,bx 27 ak p0,own 4 ag af.1]) (jR E V) hN ?_ ?_ ?_ ?_
 ·exact j.sp 6 [4,3,2,0]
 ·rintro ab fl _ w ⟨O,rfl,j⟩ o
  refine RC.seq (RC.sr (mv (vi ab.2) (mv v1 (RL.bE 0 p1 j zq (ic ab.2 ((p1.length:Int)) (RL.nt (fq o (fun hc o=>?_) fun hc o=>?_)))))))
  rotate_left
  ·refine RC.ex ?_
   obtain rfl:=oi o
   exact⟨rfl,j.sp 4 [0,1,2,3]⟩
  refine RC.ss (RC.block (RC.seq (RC.wz mixed [0,0,0,0,0,0,0,0,0,0,0,0,2,0,0,0,0,0] [0,1,2,3,4,5,6,7,8,9,10,11,12,13,14,15,16,17] ?_)))
  have j:=j.drew
  refine DP.e0 zr (RL.aX (f:=(fun x=>x)) 2 j zr Fd.self oG fun a7 j=>(bZ zr (mv v2 (bZ zr (mv v1 (bZ zr (mv (vi ab.2) (bZ zr ?_))))))))
  obtain⟨a8,a9,o⟩:=bd o
  refine RL.cC 1 j x6 a9 fun bp j=>(bZ zr (RL.gS 0 j zr qc k6 fun bq j=>(bZ zr (RL.bT 0 a8.A j mS fun ba j=>(bZ zr (mv v1 (bZ zr (mv (vi ab.2) ?_))))))))
  refine bZ zr ?_
  obtain⟨bb,bc,o⟩:=bd o
  refine RL.cC 4 j x6 bc fun br j=>(bZ zr (RL.gS 0 j zr qd k7 fun bs j=>(bZ zr (RL.bT 0 bb.B j mS fun bf j=>(sB zr ?_)))))
  obtain⟨ai,bg,o⟩:=bd o
  refine RL.call zt zr Ju [a7,v2,ba,bf] zr (aF (ny N (i0:=6) (i1:=8) (i2:=3) (i3:=0) j zr zr zr zr bg) ?_)
  rintro _ w ⟨rfl,j⟩
  refine wC zr (mv (.tuple #[(vb ai.1),(vi ai.2)]) (bZ zr (RL.extract (vb ai.1) (bZ zr (RL.extract (vi ai.2) (bZ zr (aO (vb ai.1) (bZ zr ?_))))))))
  refine aO (vi ai.2) (DP.d0 (DP.z (aG (RC.seq (RC.seq ?_)))))
  obtain⟨au,hj,o⟩:=bd o
  refine RC.jn (fun(au:Bool)=>SH E V [(1,v1),(2,v2),(3,vp ak 0),(7,ag),(9,vb ab.1),(10,vi ab.2),(65,vb au)] [rd v1 p1,rd v2 p2,bx 27 ak p0,own 4 ag af.1]) au ?_ ?_
  ·refine RC.region (mv (vi ai.2) (ic ai.2 0 (mv (vb (ai.2 != 0)) (gv hj (fun ae hj=>?_) fun ae hj=>?_))))
   ·refine bS ae (bS ae (bS ae (bS ae (bS ae (bS ae (gx ae (vb true) (RL.nil ?_)))))))
    obtain rfl:=oi hj
    exact⟨rfl,j.sp 11 [7,8,9,10]⟩
   refine RL.move (vb ai.1) (cg ae) (RL.move ag (cg ae) (RL.move (vi ab.2) (cg ae) ?_))
   obtain⟨a1,av,hj⟩:=bd hj
   refine RL.bJ (hg:=(cg ae)) 10 j zr zr Df av (RL.cO (hg:=(cg ae)) (f:=(fun x=>x)) 10 j (jv 10 j av 0) (aY av).2.1 Fd.self uQ (RL.xG ai.1 a1 (cg ae) zr zr zr E6 (gx ae (vb (ai.1 != a1)) (RL.nil ?_))))
   obtain rfl:=oi hj
   exact⟨rfl,j.sp 11 [7,8,9,10]⟩
  rintro _ w ⟨O,rfl,j⟩
  refine aG (fq o (fun hc o=>?_) fun hc o=>?_)
  ·refine RC.sr (aO (vb false) (RL.nt (RC.rt (iY (bL ?_)))))
   obtain rfl:=oi o
   exact⟨rfl,cD ⟨rfl,j.drop 4⟩⟩
  refine RC.sn ?_
  obtain⟨aw,hj,o⟩:=bd o
  refine RC.jn (fun(aw:Bool)=>SH E V [(1,v1),(2,v2),(3,vp ak 0),(7,ag),(9,vb aw),(10,vi ab.2)] [rd v1 p1,rd v2 p2,bx 27 ak p0,own 4 ag af.1]) aw ?_ ?_
  ·refine RC.wy mixed ?_
   have j:=j.drew
   refine RO.go (mv (vb ab.1) (RO.nx (mv (vb ab.1) (gv hj (fun ad hj=>?_) fun ad hj=>?_))))
   rotate_left
   ·refine RO.nx (bS ad (RO.nx (bS ad (RO.nx (bS ad (RO.nx (bS ad (RO.nx ?_))))))))
    refine bS ad (RO.nx (bS ad (RO.nx (bS ad (RO.nx (bS ad (RO.nx (bS ad ?_))))))))
    refine RO.nx (bS ad (RO.nx (gx ad (vb false) (RO.nx (aO (vb false) (RO.last ?_))))))
    obtain rfl:=oi hj
    exact⟨rfl,j.sp 4 [0,1,2,3]⟩
   refine RO.nx (RL.move ag (cg ad) (RO.nx (RL.move (vi ab.2) (cg ad) (RO.nx ?_))))
   obtain⟨ax,ay,hj⟩:=bd hj
   refine RL.bJ (hg:=(cg ad)) 3 j zr zr Df ay (RO.nx (RL.cO (hg:=(cg ad)) (f:=(fun x=>x)) 3 j (jv 3 j ay 0) (aY ay).2.1 Fd.self uQ (RO.nx (RL.move v1 (cg ad) (RO.nx (RL.move (vi ab.2) (cg ad) (RO.nx ?_)))))))
   obtain⟨aq,bh,hj⟩:=bd hj
   refine RL.cC (hg:=(cg ad)) 0 j x6 bh fun bt j=>(RO.nx (RL.gS (hg:=(cg ad)) 0 j zr Dg xg fun bu j=>(RO.nx (RL.bK (hg:=(cg ad)) aq.Joined 0 j uQ (RO.nx (RL.AY ax aq.Joined (cg ad) zr zr zr E6 (RO.nx (gx ad (vb (ax==aq.Joined)) ?_))))))))
   refine RO.nx (aO (vb (ax==aq.Joined)) (RO.last ?_))
   obtain rfl:=oi hj
   exact⟨rfl,j.sp 6 [2,3,4,5]⟩
  rintro _ w ⟨O,rfl,j⟩
  refine bU (aG (RC.region (mv (vi ab.2) (RL.jC ab.2 1 (aO (vi (IntKind.wrap .i64 (ab.2+1))) (RL.nil ?_))))))
  obtain rfl:=oi o
  exact⟨rfl,j.sp 4 [0,1,2,3]⟩
 ·intro r U w e hK
  subst e
  refine bL ?_
  obtain rfl:=oi o
  exact hK
 rintro ab _ w rfl ⟨O,rfl,j⟩
 rw [Fo.fZ] at o
 refine aG (RC.sr (RL.aX (f:=(fun x=>x)) 2 j zr Fd.self oG fun bk j=>(mv v1 (mv v2 ?_))))
 obtain⟨ah,bl,o⟩:=bd o
 refine RL.call zt zr JG [bk,v1,v2] zr (aF (uW N (i0:=0) (i1:=1) (i2:=2) j zr zr zr bl) ?_)
 rintro _ w ⟨rfl,j⟩
 refine mv (.tuple #[(vb ah.1),(vi ah.2)]) (RL.extract (vb ah.1) (RL.extract (vi ah.2) (aO (vb ah.1) (aO (vi ah.2) (RL.nq ?_)))))
 obtain⟨az,hj,o⟩:=bd o
 refine RC.jn (fun(az:Bool)=>SH E V [(6,vb az)] []) az ?_ ?_
 ·refine RC.region (mv (vi ah.2) (ic ah.2 0 (mv (vb (ah.2==0)) (gv hj (fun aj hj=>?_) fun aj hj=>?_))))
  rotate_left
  ·refine bS aj (bS aj (bS aj (gx aj (vb false) (mv (vb false) (n8 (RL.pick false (vb false) zr (aO (vb false) (RL.nil ?_))))))))
   obtain rfl:=oi hj
   exact⟨rfl,j.sp 5 []⟩
  refine RL.move (vb ah.1) (cg aj) (RL.move (vb ab.1) (cg aj) (RL.AY ah.1 ab.1 (cg aj) zr zr zr E6 (gx aj (vb (ah.1==ab.1)) (mv (vb (ah.1==ab.1)) (gv hj (fun ao hj=>?_) fun ao hj=>?_)))))
  rotate_left
  ·refine bS ao (gx ao (vb false) (aO (vb false) (RL.nil ?_)))
   obtain rfl:=oi hj
   exact⟨rfl,j.sp 5 []⟩
  obtain⟨a2,bm,hj⟩:=bd hj
  refine RL.call (cg ao) zr Jv [] zr (aF (k9 N j bm) ?_)
  rintro _ w ⟨rfl,j⟩
  refine gx ao (vb a2) (aO (vb a2) (RL.nil ?_))
  obtain rfl:=oi hj
  exact⟨rfl,j.sp 5 []⟩
 rintro _ w ⟨O,rfl,j⟩
 refine aG (RC.ret ?_)
 obtain rfl:=oi o
 exact cD ⟨rfl,j.drop 0⟩
end Go.Gk
