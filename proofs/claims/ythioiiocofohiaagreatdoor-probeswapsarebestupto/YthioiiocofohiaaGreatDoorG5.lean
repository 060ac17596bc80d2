/-
  Printed texts: Go functions as plain functions, and that they are. No statement of the seed is proved here.
-/
import Derived.Test.YthioiiocofohiaaGreatDoorG1
import Derived.Test.YthioiiocofohiaaGreatDoorG2
import Derived.Test.YthioiiocofohiaaGreatDoorG3
import Derived.Test.YthioiiocofohiaaGreatDoorG4
import Derived.Test.YthioiiocofohiaaGreatDoorA2
set_option linter.unusedVariables false
set_option linter.unusedSimpArgs false
set_option linter.unusedSectionVars false
set_option maxRecDepth 100000
set_option maxHeartbeats 40000000
namespace Go.Gk
open Go Go.Proofs
variable (N:Nat) {E w:World} {b0 b1 b1h b2 b3 b3h i0 i1:Nat} {p0 p1 p2 p3 res:Int} {v0 v0_0 v0_1 v0_10 v0_11 v0_2 v0_3 v0_4 v0_5 v0_6 v0_7 v0_8 v0_9 v1 v1h_0 v1h_1 v1h_10 v1h_11 v1h_2 v1h_3 v1h_4 v1h_5 v1h_6 v1h_7 v1h_8 v1h_9 v2_0 v3h_0:Value} {V:List HP}
theorem nV {p0 p1:Test} (j:Holds E w V) (h0:V[i0]? =some (rd v0 p0)) (h1:V[i1]? =some (rd v1 p1)) (o:gv N p0 p1=some res):
    Calls bN 58 [v0,v1].toArray w (iE (aS E V res)):=by
 unfold gv at o
 refine enter Tryz.func58 zr zr ?_
 have j:=(j.dup (i0+0) h0).dup (i1+1) h1
 refine RC.sr (RL.dJ 1 v0 j zr fun an w j=>?_)
 have j:=j.hG (i:=0) rfl
 refine RL.dJ 1 v1 j zr fun ao w j=>?_
 have j:=j.hG (i:=0) rfl
 refine aT (vi 0) (RL.nq (RC.AE mixed [0,0,0,0,2,1,1,1,1,2,2,2,0] [0,1,2,3,5,6,7,8,4,9,10,11,12] ?_))
 have j:=j.drew
 refine DP.e0 zr (RL.iT 1 j zr vE n0 fun aq j=>(cM zr (RL.bY 0 p0.A j qo fun ad j=>(cM zr (RL.iT 2 j zr vE n0 fun ar j=>(cM zr (RL.bY 0 p1.A j qo fun ae j=>(DP.d0 ?_))))))))
 refine DP.JR 5 zr j zr vF n7 fun au j=>(DP.yI p0.B 0 zr j qo fun af a39 av j=>(DP.JR 7 zr j zr vF n7 fun aw j=>(DP.yI p1.B 0 zr j qo fun ag a43 ax j=>(DP.e2 zr ?_))))
 obtain⟨aa,ah,o⟩:=bd o
 refine RL.call zt zr GQ [ad,ae] zr (aF (fO N (i0:=8) (i1:=6) j zr zr ah) ?_)
 rintro _ w ⟨rfl,j⟩
 refine DP.d2 (⟨⟨zt,j.kW 3⟩,j.kW 0⟩) (DP.e2 zr ?_)
 obtain⟨ab,ai,o⟩:=bd o
 refine RL.call zt zr GQ [af,ag] zr (aF (fO N (i0:=4) (i1:=1) j zr zr ai) ?_)
 rintro _ w ⟨rfl,j⟩
 refine DP.d2 (⟨⟨zt,j.kW 3⟩,j.kW 0⟩) (DP.e2 zr ?_)
 have j:=(j.sc Int aa).sc Int ab
 refine RL.fR ([aa,ab]: (List Int)) j [(vi aa),(vi ab)] fI Hy (fun M hs g=>⟨(g.sat 1 _ zr).1,⟨(g.sat 0 _ zr).1,zt⟩⟩) fun aj w j=>(DP.d2 (⟨⟨zt,j.kW 6⟩,j.kW 3⟩) (DP.e2 zr ?_))
 have j:=j.freeze 0
 obtain⟨ak,al,o⟩:=bd o
 refine RL.call zt zr OP [aj] zr (aF (AO N (i0:=0) j zr al) ?_)
 rintro _ w ⟨rfl,j⟩
 refine DP.d2 (⟨⟨zt,j.kW 6⟩,j.kW 3⟩) (DP.e0 zr (aT (vi ak) (DP.d0 ?_)))
 have j:=j.pl 17 [0,1,2,4,5,7,8,9,10,11,12,13,14,15,16]
 refine DP.z (aG (RC.ret ?_))
 obtain rfl:=oi o
 exact cK ⟨rfl,j.drop 15⟩
def wP (E:World) (V:List HP) (r:Option ((List (List aH))×(List aH)×(List cD)×(List dD)×(List (List aA))×(List aJ)×(List (List Int))×(List cU)×(List Int)×(List Int)×(List Int)×(List fJ))×Int) (U:Nat->Value) (w:World):Prop:=nL bN 63 Tryz.f28 (ov E V r) .ret U w
theorem AP {p0:fz} {p1: (List Test)} {res:Option ((List (List aH))×(List aH)×(List cD)×(List dD)×(List (List aA))×(List aJ)×(List (List Int))×(List cU)×(List Int)×(List Int)×(List Int)×(List fJ))×Int} (j:Holds E w V) (h0:V[i0]? =some (rd v0 p0)) (h1:V[i1]? =some (rd v1 p1)) (o:kL N p0 p1=some res):
    Calls bN 28 [v0,v1].toArray w (iE (ov E V res)):=by
 unfold kL at o
 refine enter Tryz.func28 zr zr ?_
 have j:=(j.dup (i0+0) h0).dup (i1+1) h1
 refine RC.sr (RL.dJ 1 v0 j zr fun ah w j=>?_)
 refine aT (.pointer none) (aT (vi 0) (RL.ns (RL.aV (f:=(fun x=>x)) 0 j zr Fd.self mx fun bw j=>?_)))
 obtain⟨ag,bz,o⟩:=bd o
 refine RL.call zt zr Nf [bw] zr (aF (tP N (i0:=0) j zr bz) ?_)
 rintro _ w hK49
 rcases a5:ag.1 with _ | aa
 ·replace o:=Lq a5 o
  obtain⟨rfl,j⟩:=HU a5 hK49
  refine mv (.tuple #[(.pointer none),(vi ag.2)]) (RL.extract (.pointer none) (RL.extract (vi ag.2) (aT (.pointer none) (aT (vi ag.2) (RL.nq (RC.sr (mv (vi ag.2) (ic ag.2 0 ?_))))))))
  refine RL.nt (fK o (fun hc o=>?_) fun hc o=>?_)
  ·refine RC.sr (mv (vi ag.2) (aT (.pointer none) (aT (vi ag.2) (RL.nt (RC.rt ?_)))))
   obtain rfl:=oi o
   exact kC ⟨rfl,j.drop 4⟩
  refine RC.ss (RC.sr (mv v1 (RL.bM 2 p1 j vD (ic ((p1.length:Int)) 2000 (RL.nt (fK o (fun hc o=>?_) fun hc o=>?_))))))
  ·refine RC.sr (aT (.pointer none) (aT (vi 2) (RL.nt (RC.rt ?_))))
   obtain rfl:=oi o
   exact kC ⟨rfl,j.drop 4⟩
  refine RC.ss (RC.sr (mv v1 (RL.bM 2 p1 j vD (mv (vi 0) (RL.nt ?_)))))
  obtain⟨c0,hN,o⟩:=bd o
  refine RC.range (fun(ai:Nat) (a6:Unit)=>SH E V [(1,v1),(2,vp ah 0),(6,(.pointer none)),(21,v1),(22,vi p1.length),(23,vi ai)] [rd v1 p1,bx 27 ah p0]) (fun(a6:Unit)=>SH E V [(6,(.pointer none))] [rd v1 p1,bx 27 ah p0]) (wP E V) hN ?_ ?_ ?_ ?_ ?_
  ·exact j.sp 4 [2,1]
  ·rintro hm a6 _ w ⟨O,rfl,j⟩
   refine RC.sr (ic ((p1.length:Int)) ((p1.length:Int)) (RL.nq (RC.dC oE (RC.ex ?_))))
   exact⟨rfl,j.sp 2 [0,1]⟩
  ·rintro hm ai a6 fl _ w hk ⟨O,rfl,j⟩ o
   refine RC.sr (ic ((ai:Int)) ((p1.length:Int)) (RL.nq (RC.dB (oD hk) (RC.ss (RC.bs (mv (vi ai) ?_))))))
   obtain⟨bm,b1,o⟩:=bd o
   refine RL.cJ 0 j AL b1 fun c1 j=>(RL.bY 0 bm j qO fun c2 j=>(RL.alloc j Ng.z fun bn w j=>?_))
   refine aT (vi ai) (RL.bW 0 j 1 zr qO fun w j=>?_)
   refine RL.nt (RC.block (RC.seq ?_))
   obtain⟨a9,hj,o⟩:=bd o
   refine RC.jn (fun(a9:Bool)=>SH E V [(1,v1),(2,vp ah 0),(6,(.pointer none)),(8,vi ai),(9,vp bn 0),(21,v1),(22,vi p1.length),(23,vi ai),(28,vb a9)] [rd v1 p1,bx 27 ah p0,bx 53 bn bm]) a9 ?_ ?_
   ·refine RC.region (RL.aV (f:=(fun x=>x)) 4 j zr Fd.self mx fun b2 j=>(RL.bO zr vE (RL.aV 1 j zr n0 qo fun b3 j=>?_)))
    obtain⟨bo,b4,hj⟩:=bd hj
    refine RL.call zt zr DL [b2,b3] zr (aF (gG N (i0:=1) (i1:=0) j zr zr b4) ?_)
    rintro _ w ⟨rfl,j⟩
    refine ic bo 0 (mv (vb (decide (bo<0))) (iA hj (fun al hj=>?_) fun al hj=>?_))
    ·refine cH al (cH al (cH al (cH al (cH al (iF al (vb true) (aT (vb true) (RL.nil ?_)))))))
     obtain rfl:=oi hj
     exact⟨rfl,j.sp 7 [5,6,2]⟩
    refine RL.aV (hg:=(cg al)) (f:=(fun x=>x)) 6 j zr Fd.self mx fun b5 j=>(RL.bO (hg:=(cg al)) zr vF (RL.aV (hg:=(cg al)) 3 j zr n7 qo fun b6 j=>?_))
    obtain⟨ba,b7,hj⟩:=bd hj
    refine RL.call (cg al) zr DL [b5,b6] zr (aF (gG N (i0:=1) (i1:=0) j zr zr b7) ?_)
    rintro _ w ⟨rfl,j⟩
    refine RL.lN ba 0 (cg al) (iF al (vb (decide (ba<0))) (aT (vb (decide (ba<0))) (RL.nil ?_)))
    obtain rfl:=oi hj
    exact⟨rfl,j.sp 9 [7,8,4]⟩
   rintro _ w ⟨O,rfl,j⟩
   refine aG (fK o (fun hc o=>?_) fun hc o=>?_)
   ·refine RC.sr (aT (.pointer none) (aT (vi 9) (RL.nt (RC.rb (kh (bZ ?_))))))
    obtain rfl:=oi o
    exact⟨rfl,kC ⟨rfl,j.drop 3⟩⟩
   refine RC.sr (RL.bO zr vF (RL.aV 2 j zr n7 qo fun b8 j=>(RL.bO zr vE (RL.aV 3 j zr n0 qo fun b9 j=>?_))))
   obtain⟨bp,ca,o⟩:=bd o
   refine RL.call zt zr GQ [b8,b9] zr (aF (fO N (i0:=1) (i1:=0) j zr zr ca) ?_)
   rintro _ w ⟨rfl,j⟩
   refine ic bp 0 (aT (vb (decide (bp<=0))) (RL.nt (fK o (fun hc o=>?_) fun hc o=>?_)))
   ·refine RC.sr (aT (.pointer none) (aT (vi 8) (RL.nt (RC.rb (kh (bZ ?_))))))
    obtain rfl:=oi o
    exact⟨rfl,kC ⟨rfl,j.drop 5⟩⟩
   refine RC.seq ?_
   obtain⟨bb,hj,o⟩:=bd o
   refine RC.jn (fun(bb:Bool)=>SH E V [(1,v1),(2,vp ah 0),(6,(.pointer none)),(21,v1),(22,vi p1.length),(23,vi ai),(48,vb bb)] [rd v1 p1,bx 27 ah p0]) bb ?_ ?_
   ·refine RC.AE mixed [0,0,0,0,0,0,0,0,0,2,0,0,0] [0,1,2,3,4,5,6,7,8,9,10,11,12] ?_
    have j:=j.drew
    refine DP.e0 zr (mv (vi ai) (cM zr (ic ((ai:Int)) 0 (cM zr (mv (vb (decide ((ai:Int)>0))) (DP.d0 (iA hj (fun ae hj=>?_) fun ae hj=>?_)))))))
    rotate_left
    ·refine DP.e0 zr (cH ae (cM zr (cH ae (cM zr (cH ae (cM zr (cH ae (cM zr ?_))))))))
     refine cH ae (cM zr (cH ae (xt zr (cH ae (B6 zr (cH ae (cM zr (iF ae (vb false) ?_))))))))
     refine cM zr (aT (vb false) (DP.d0 (DP.z ?_)))
     obtain rfl:=oi hj
     exact⟨rfl,j.sp 5 [2,3]⟩
    refine DP.e0 zr (RL.aV (hg:=(cg ae)) (f:=(fun x=>x)) 4 j zr Fd.self qO fun cb j=>(cM zr (RL.move v1 (cg ae) (cM zr (RL.move (vi ai) (cg ae) (cM zr (RL.ja (hg:=(cg ae)) (ai:Int) 1 (cM zr ?_))))))))
    obtain⟨cc,cd,hj⟩:=bd hj
    refine RL.cJ (hg:=(cg ae)) 3 j AL cd fun c3 j=>(cM zr (RL.bY (hg:=(cg ae)) 0 cc j qO fun cf j=>(xt zr ?_)))
    obtain⟨bf,ch,hj⟩:=bd hj
    refine RL.call (cg ae) zr Nh [cb,cf] zr (aF (nV N (i0:=2) (i1:=0) j zr zr ch) ?_)
    rintro _ w ⟨rfl,j⟩
    refine B6 zr (RL.lN bf 0 (cg ae) (cM zr (iF ae (vb (decide (bf<=0))) (cM zr (aT (vb (decide (bf<=0))) (DP.d0 (DP.z ?_)))))))
    obtain rfl:=oi hj
    exact⟨rfl,j.sp 8 [5,6]⟩
   rintro _ w ⟨O,rfl,j⟩
   refine aG (fK o (fun hc o=>?_) fun hc o=>?_)
   rotate_left
   ·refine RC.skip (cA (cA (aG (RC.region (RL.inc hk hm (mv (vi ((ai+1:Nat):Int)) (RL.nil ?_)))))))
    obtain rfl:=oi o
    exact⟨rfl,j.sp 2 [0,1]⟩
   refine RC.sr (aT (.pointer none) (aT (vi 8) (RL.nt (RC.rb (kh (bZ ?_))))))
   obtain rfl:=oi o
   exact⟨rfl,kC ⟨rfl,j.drop 2⟩⟩
  ·intro r U w e hK
   subst e
   refine bZ ?_
   obtain rfl:=oi o
   exact hK
  rintro a6 _ w rfl ⟨O,rfl,j⟩
  rw [Fo.gm] at o
  refine aG (RC.sr (mv (.pointer none) (aT (.pointer none) (aT (vi 0) (RL.nt (RC.ret ?_))))))
  obtain rfl:=oi o
  exact kC ⟨rfl,j.drop 2⟩
 replace o:=Lr a5 o
 obtain⟨aj,ao,aq,ar,au,av,aw,ax,ay,az,a0,a1,a2,rfl,j⟩:=HV a5 hK49
 refine mv (.tuple #[(vp aj 0),(vi ag.2)]) (RL.extract (vp aj 0) (RL.extract (vi ag.2) (aT (vp aj 0) (aT (vi ag.2) (RL.nq (RC.sr (mv (vi ag.2) (ic ag.2 0 ?_))))))))
 refine RL.nt (fK o (fun hc o=>?_) fun hc o=>?_)
 ·refine RC.sr (mv (vi ag.2) (aT (.pointer none) (aT (vi ag.2) (RL.nt (RC.rt ?_)))))
  obtain rfl:=oi o
  exact kC ⟨rfl,j.drop 17⟩
 refine RC.ss (RC.sr (mv v1 (RL.bM 15 p1 j vD (ic ((p1.length:Int)) 2000 (RL.nt (fK o (fun hc o=>?_) fun hc o=>?_))))))
 ·refine RC.sr (aT (.pointer none) (aT (vi 2) (RL.nt (RC.rt ?_))))
  obtain rfl:=oi o
  exact kC ⟨rfl,j.drop 17⟩
 refine RC.ss (RC.sr (mv v1 (RL.bM 15 p1 j vD (mv (vi 0) (RL.nt ?_)))))
 obtain⟨c4,hN,o⟩:=bd o
 refine RC.range (fun(ak:Nat) (a7:Unit)=>SH E V [(1,v1),(2,vp ah 0),(6,vp aj 0),(21,v1),(22,vi p1.length),(23,vi ak)] [rd v1 p1,bx 27 ah p0,bc 126 aj [ao,aq,ar,au,av,aw,ax,ay,az,a0,a1,a2],rd ao aa.1,rd aq aa.2.1,rd ar aa.2.2.1,rd au aa.2.2.2.1,own 132 av aa.2.2.2.2.1,rd aw aa.2.2.2.2.2.1,rd ax aa.2.2.2.2.2.2.1,own 129 ay aa.2.2.2.2.2.2.2.1,rd az aa.2.2.2.2.2.2.2.2.1,rd a0 aa.2.2.2.2.2.2.2.2.2.1,own 3 a1 aa.2.2.2.2.2.2.2.2.2.2.1,own 41 a2 aa.2.2.2.2.2.2.2.2.2.2.2]) (fun(a7:Unit)=>SH E V [(6,vp aj 0)] [rd v1 p1,bx 27 ah p0,bc 126 aj [ao,aq,ar,au,av,aw,ax,ay,az,a0,a1,a2],rd ao aa.1,rd aq aa.2.1,rd ar aa.2.2.1,rd au aa.2.2.2.1,own 132 av aa.2.2.2.2.1,rd aw aa.2.2.2.2.2.1,rd ax aa.2.2.2.2.2.2.1,own 129 ay aa.2.2.2.2.2.2.2.1,rd az aa.2.2.2.2.2.2.2.2.1,rd a0 aa.2.2.2.2.2.2.2.2.2.1,own 3 a1 aa.2.2.2.2.2.2.2.2.2.2.1,own 41 a2 aa.2.2.2.2.2.2.2.2.2.2.2]) (wP E V) hN ?_ ?_ ?_ ?_ ?_
 ·exact j.sp 17 [15,14,0,1,2,3,4,5,6,7,8,9,10,11,12]
 ·rintro hm a7 _ w ⟨O,rfl,j⟩
  refine RC.sr (ic ((p1.length:Int)) ((p1.length:Int)) (RL.nq (RC.dC oE (RC.ex ?_))))
  exact⟨rfl,j.sp 15 [0,1,2,3,4,5,6,7,8,9,10,11,12,13,14]⟩
 ·rintro hm ak a7 fl _ w hk ⟨O,rfl,j⟩ o
  refine RC.sr (ic ((ak:Int)) ((p1.length:Int)) (RL.nq (RC.dB (oD hk) (RC.ss (RC.bs (mv (vi ak) ?_))))))
  obtain⟨bq,cj,o⟩:=bd o
  refine RL.cJ 0 j AL cj fun c5 j=>(RL.bY 0 bq j qO fun c6 j=>(RL.alloc j Ng.z fun br w j=>?_))
  refine aT (vi ak) (RL.bW 0 j 1 zr qO fun w j=>?_)
  refine RL.nt (RC.block (RC.seq ?_))
  obtain⟨bh,hj,o⟩:=bd o
  refine RC.jn (fun(bh:Bool)=>SH E V [(1,v1),(2,vp ah 0),(6,vp aj 0),(8,vi ak),(9,vp br 0),(21,v1),(22,vi p1.length),(23,vi ak),(28,vb bh)] [rd v1 p1,bx 27 ah p0,bc 126 aj [ao,aq,ar,au,av,aw,ax,ay,az,a0,a1,a2],rd ao aa.1,rd aq aa.2.1,rd ar aa.2.2.1,rd au aa.2.2.2.1,own 132 av aa.2.2.2.2.1,rd aw aa.2.2.2.2.2.1,rd ax aa.2.2.2.2.2.2.1,own 129 ay aa.2.2.2.2.2.2.2.1,rd az aa.2.2.2.2.2.2.2.2.1,rd a0 aa.2.2.2.2.2.2.2.2.2.1,own 3 a1 aa.2.2.2.2.2.2.2.2.2.2.1,own 41 a2 aa.2.2.2.2.2.2.2.2.2.2.2,bx 53 br bq]) bh ?_ ?_
  ·refine RC.region (RL.aV (f:=(fun x=>x)) 4 j zr Fd.self mx fun ck j=>(RL.bO zr vE (RL.aV 1 j zr n0 qo fun cl j=>?_)))
   obtain⟨bt,cm,hj⟩:=bd hj
   refine RL.call zt zr DL [ck,cl] zr (aF (gG N (i0:=1) (i1:=0) j zr zr cm) ?_)
   rintro _ w ⟨rfl,j⟩
   refine ic bt 0 (mv (vb (decide (bt<0))) (iA hj (fun an hj=>?_) fun an hj=>?_))
   ·refine cH an (cH an (cH an (cH an (cH an (iF an (vb true) (aT (vb true) (RL.nil ?_)))))))
    obtain rfl:=oi hj
    exact⟨rfl,j.sp 20 [5,6,7,8,9,10,11,12,13,14,15,16,17,18,19,2]⟩
   refine RL.aV (hg:=(cg an)) (f:=(fun x=>x)) 6 j zr Fd.self mx fun cn j=>(RL.bO (hg:=(cg an)) zr vF (RL.aV (hg:=(cg an)) 3 j zr n7 qo fun cp j=>?_))
   obtain⟨bj,cq,hj⟩:=bd hj
   refine RL.call (cg an) zr DL [cn,cp] zr (aF (gG N (i0:=1) (i1:=0) j zr zr cq) ?_)
   rintro _ w ⟨rfl,j⟩
   refine RL.lN bj 0 (cg an) (iF an (vb (decide (bj<0))) (aT (vb (decide (bj<0))) (RL.nil ?_)))
   obtain rfl:=oi hj
   exact⟨rfl,j.sp 22 [7,8,9,10,11,12,13,14,15,16,17,18,19,20,21,4]⟩
  rintro _ w ⟨O,rfl,j⟩
  refine aG (fK o (fun hc o=>?_) fun hc o=>?_)
  ·refine RC.sr (aT (.pointer none) (aT (vi 9) (RL.nt (RC.rb (kh (bZ ?_))))))
   obtain rfl:=oi o
   exact⟨rfl,kC ⟨rfl,j.drop 16⟩⟩
  refine RC.sr (RL.bO zr vF (RL.aV 15 j zr n7 qo fun cr j=>(RL.bO zr vE (RL.aV 16 j zr n0 qo fun ct j=>?_))))
  obtain⟨bu,cu,o⟩:=bd o
  refine RL.call zt zr GQ [cr,ct] zr (aF (fO N (i0:=1) (i1:=0) j zr zr cu) ?_)
  rintro _ w ⟨rfl,j⟩
  refine ic bu 0 (aT (vb (decide (bu<=0))) (RL.nt (fK o (fun hc o=>?_) fun hc o=>?_)))
  ·refine RC.sr (aT (.pointer none) (aT (vi 8) (RL.nt (RC.rb (kh (bZ ?_))))))
   obtain rfl:=oi o
   exact⟨rfl,kC ⟨rfl,j.drop 18⟩⟩
  refine RC.seq ?_
  obtain⟨bk,hj,o⟩:=bd o
  refine RC.jn (fun(bk:Bool)=>SH E V [(1,v1),(2,vp ah 0),(6,vp aj 0),(21,v1),(22,vi p1.length),(23,vi ak),(48,vb bk)] [rd v1 p1,bx 27 ah p0,bc 126 aj [ao,aq,ar,au,av,aw,ax,ay,az,a0,a1,a2],rd ao aa.1,rd aq aa.2.1,rd ar aa.2.2.1,rd au aa.2.2.2.1,own 132 av aa.2.2.2.2.1,rd aw aa.2.2.2.2.2.1,rd ax aa.2.2.2.2.2.2.1,own 129 ay aa.2.2.2.2.2.2.2.1,rd az aa.2.2.2.2.2.2.2.2.1,rd a0 aa.2.2.2.2.2.2.2.2.2.1,own 3 a1 aa.2.2.2.2.2.2.2.2.2.2.1,own 41 a2 aa.2.2.2.2.2.2.2.2.2.2.2]) bk ?_ ?_
  ·refine RC.AE mixed [0,0,0,0,0,0,0,0,0,2,0,0,0] [0,1,2,3,4,5,6,7,8,9,10,11,12] ?_
   have j:=j.drew
   refine DP.e0 zr (mv (vi ak) (cM zr (ic ((ak:Int)) 0 (cM zr (mv (vb (decide ((ak:Int)>0))) (DP.d0 (iA hj (fun af hj=>?_) fun af hj=>?_)))))))
   rotate_left
   ·refine DP.e0 zr (cH af (cM zr (cH af (cM zr (cH af (cM zr (cH af (cM zr ?_))))))))
    refine cH af (cM zr (cH af (xt zr (cH af (B6 zr (cH af (cM zr (iF af (vb false) ?_))))))))
    refine cM zr (aT (vb false) (DP.d0 (DP.z ?_)))
    obtain rfl:=oi hj
    exact⟨rfl,j.sp 18 [2,3,4,5,6,7,8,9,10,11,12,13,14,15,16]⟩
   refine DP.e0 zr (RL.aV (hg:=(cg af)) (f:=(fun x=>x)) 17 j zr Fd.self qO fun cv j=>(cM zr (RL.move v1 (cg af) (cM zr (RL.move (vi ak) (cg af) (cM zr (RL.ja (hg:=(cg af)) (ak:Int) 1 (cM zr ?_))))))))
   obtain⟨cw,cx,hj⟩:=bd hj
   refine RL.cJ (hg:=(cg af)) 3 j AL cx fun c7 j=>(cM zr (RL.bY (hg:=(cg af)) 0 cw j qO fun cy j=>(xt zr ?_)))
   obtain⟨bl,cz,hj⟩:=bd hj
   refine RL.call (cg af) zr Nh [cv,cy] zr (aF (nV N (i0:=2) (i1:=0) j zr zr cz) ?_)
   rintro _ w ⟨rfl,j⟩
   refine B6 zr (RL.lN bl 0 (cg af) (cM zr (iF af (vb (decide (bl<=0))) (cM zr (aT (vb (decide (bl<=0))) (DP.d0 (DP.z ?_)))))))
   obtain rfl:=oi hj
   exact⟨rfl,j.sp 21 [5,6,7,8,9,10,11,12,13,14,15,16,17,18,19]⟩
  rintro _ w ⟨O,rfl,j⟩
  refine aG (fK o (fun hc o=>?_) fun hc o=>?_)
  rotate_left
  ·refine RC.skip (cA (cA (aG (RC.region (RL.inc hk hm (mv (vi ((ak+1:Nat):Int)) (RL.nil ?_)))))))
   obtain rfl:=oi o
   exact⟨rfl,j.sp 15 [0,1,2,3,4,5,6,7,8,9,10,11,12,13,14]⟩
  refine RC.sr (aT (.pointer none) (aT (vi 8) (RL.nt (RC.rb (kh (bZ ?_))))))
  obtain rfl:=oi o
  exact⟨rfl,kC ⟨rfl,j.drop 15⟩⟩
 ·intro r U w e hK
  subst e
  refine bZ ?_
  obtain rfl:=oi o
  exact hK
 rintro a7 _ w rfl ⟨O,rfl,j⟩
 rw [Fo.gm] at o
 refine aG (RC.sr (mv (vp aj 0) (aT (vp aj 0) (aT (vi 0) (RL.nt (RC.ret ?_))))))
 obtain rfl:=oi o
 exact kC ⟨aj,ao,aq,ar,au,av,aw,ax,ay,az,a0,a1,a2,zr,j.pk 15 [2,3,4,5,6,7,8,9,10,11,12,13,14]⟩
theorem u9 {p0:fz} {p1: (List Test)} (j:Holds E w V) (h0:V[i0]? =some (rd v0 p0)) (h1:V[i1]? =some (rd v1 p1)) (hb:fA N p0 p1=some res):
    Calls bN 9 [v0,v1].toArray w (iE (aS E V res)):=by
 unfold fA at hb
 refine enter Tryz.func9 zr zr ?_
 have j:=(j.dup (i0+0) h0).dup (i1+1) h1
 refine RC.sr (RL.dJ 1 v0 j zr fun ag w j=>?_)
 refine aT (vi 0) (RL.ns (RL.aV (f:=(fun x=>x)) 0 j zr Fd.self mx fun ae j=>(mv v1 ?_)))
 obtain⟨o,af,hb⟩:=bd hb
 refine RL.call zt zr OQ [ae,v1] zr (aF (AP N (i0:=0) (i1:=2) j zr zr af) ?_)
 rintro _ w hK49
 rcases ab:o.1 with _ | ah
 ·replace hb:=Lq ab hb
  obtain⟨rfl,j⟩:=HU ab hK49
  refine mv (.tuple #[(.pointer none),(vi o.2)]) (RL.extract (.pointer none) (RL.extract (vi o.2) (aT (.pointer none) (aT (vi o.2) (RL.ns (mv (vi o.2) (aT (vi o.2) (RL.nt ?_))))))))
  refine RC.ret ?_
  obtain rfl:=oi hb
  exact cK ⟨rfl,j.drop 4⟩
 replace hb:=Lr ab hb
 obtain⟨ad,ai,aj,ak,al,an,ao,aq,ar,au,av,aw,ax,rfl,j⟩:=HV ab hK49
 refine mv (.tuple #[(vp ad 0),(vi o.2)]) (RL.extract (vp ad 0) (RL.extract (vi o.2) (aT (vp ad 0) (aT (vi o.2) (RL.ns (mv (vi o.2) (aT (vi o.2) (RL.nt ?_))))))))
 refine RC.ret ?_
 obtain rfl:=oi hb
 exact cK ⟨rfl,j.drop 17⟩
theorem kZ {res:Bool} (o:Holds E w V) (j:il N p0 p1 p2=some res):
    Calls bN 41 [(vi p0),(vi p1),(vi p2)].toArray w (iE (bV E V res)):=by
 unfold il at j
 refine enter Tryz.func41 zr zr (RC.sr (aT (vb false) (RL.ns (mv (vi p0) (mv (vi p1) (ic p0 p1 (mv (vb (decide (p0>=p1))) (RL.gs true (decide (p0>=p1)) (vi p0) zr zr zr dW ?_))))))))
 refine RL.gs true (decide (p0>=p1)) (vi p2) rfl rfl rfl dW (RL.gs true (decide (p0>=p1)) (vb (decide (p0<=p2))) rfl rfl rfl (eN .leq .i64 p0 p2 rfl (fun h=>by exact(dG h:cv (true&&((decide (p0>=p1))==true)) (vi p0)= (vi p0))) (fun h=>by exact(dG h:cv (true&&((decide (p0>=p1))==true)) (vi p2)= (vi p2))) rfl) (RL.pick (decide (p0>=p1)) (vb ((decide (p0>=p1))&&(decide (p0<=p2)))) (kg true) (aT (vb ((decide (p0>=p1))&&(decide (p0<=p2)))) (RL.nt (RC.ret ?_)))))
 obtain rfl:=oi j
 exact cK ⟨rfl,o.drop 0⟩
theorem mG {p0:fz} {p1: (List Test)} (j:Holds E w V) (h0:V[i0]? =some (rd v0 p0)) (h1:V[i1]? =some (rd v1 p1)) (o:hU N p0 p1 p2 p3=some res):
    Calls bN 38 [v0,v1,(vi p2),(vi p3)].toArray w (iE (aS E V res)):=by
 unfold hU at o
 refine enter Tryz.func38 zr zr ?_
 have j:=(j.dup (i0+0) h0).dup (i1+1) h1
 refine RC.sr (RL.dJ 1 v0 j zr fun an w j=>?_)
 refine aT (vi 0) (RL.nq (RC.sr (RL.aV (f:=(fun x=>x)) 0 j zr Fd.self mx fun ai j=>(mv v1 ?_))))
 obtain⟨ad,aj,o⟩:=bd o
 refine RL.call zt zr PK [ai,v1] zr (aF (u9 N (i0:=0) (i1:=2) j zr zr aj) ?_)
 rintro _ w ⟨rfl,j⟩
 refine aT (vi ad) (RL.ns (mv (vi ad) (ic ad 0 (RL.nt (fK o (fun hc o=>?_) fun hc o=>?_)))))
 ·refine RC.sr (mv (vi ad) (aT (vi ad) (RL.nt (RC.rt ?_))))
  obtain rfl:=oi o
  exact cK ⟨rfl,j.drop 4⟩
 refine RC.ss (RC.seq ?_)
 obtain⟨af,hj,o⟩:=bd o
 refine RC.jn (fun(af:Bool)=>SH E V [(23,vb af)] []) af ?_ ?_
 ·refine RC.region (mv (vi p2) ?_)
  obtain⟨ag,ak,hj⟩:=bd hj
  refine RL.call zt zr Ik [(vi p2),(vi 1),(vi 1000000)] zr (aF (kZ N (p0:=p2) (p1:=1) (p2:=1000000) j ak) ?_)
  rintro _ w ⟨rfl,j⟩
  refine RL.not ag (mv (vb (!ag)) (iA hj (fun ab hj=>?_) fun ab hj=>?_))
  ·refine cH ab (cH ab (cH ab (iF ab (vb true) (RL.nil ?_))))
   obtain rfl:=oi hj
   exact⟨rfl,j.sp 4 []⟩
  refine RL.move (vi p3) (cg ab) ?_
  obtain⟨ah,al,hj⟩:=bd hj
  refine RL.call (cg ab) zr Ik [(vi p3),(vi 0),(vi 1000)] zr (aF (kZ N (p0:=p3) (p1:=0) (p2:=1000) j al) ?_)
  rintro _ w ⟨rfl,j⟩
  refine RL.not (hg:=(cg ab)) ah (iF ab (vb (!ah)) (RL.nil ?_))
  obtain rfl:=oi hj
  exact⟨rfl,j.sp 4 []⟩
 rintro _ w ⟨O,rfl,j⟩
 refine aG (fK o (fun hc o=>?_) fun hc o=>?_)
 ·refine RC.sr (aT (vi 1) (RL.nt (RC.rt ?_)))
  obtain rfl:=oi o
  exact cK ⟨rfl,j.drop 0⟩
 refine RC.sx (aT (vi 0) (RL.nt (RC.ret ?_)))
 obtain rfl:=oi o
 exact cK ⟨rfl,j.drop 0⟩
def Cu (E:World) (V:List HP) (res:aX) (v:Value) (w:World):Prop:=Holds E w ([rd v res]++V)
theorem iq {p0:fz} {p1:Test} {p2:Bool} {res:aX} (j:Holds E w V) (h0:V[i0]? =some (rd v0 p0)) (h1:V[i1]? =some (rd v1 p1)) (hb:gw N p0 p1 p2=some res):
    Calls bN 39 [v0,v1,(vb p2)].toArray w (iE (Cu E V res)):=by
 unfold gw at hb
 refine enter Tryz.func39 zr zr ?_
 have j:=(j.dup (i0+0) h0).dup (i1+1) h1
 refine RC.sr (RL.dJ 1 v0 j zr fun a4 w j=>?_)
 refine RL.dJ 1 v1 j zr fun a5 w j=>?_
 refine RL.alloc j Nj.z fun a6 w j=>?_
 refine RL.nq ?_
 obtain⟨a9,ba,hb⟩:=bd hb
 obtain⟨a0,bb,hb⟩:=bd hb
 obtain⟨bc,bf,hb⟩:=bd hb
 obtain⟨a1,bg,hb⟩:=bd hb
 refine RC.BX E V mixed [1,0,0,1,0,0,0,0,0,1,0,0,1,0,0,0,0,0,0,0,0,0] [1,2,4,6,7,8,10,11,13,15,16,17,18,19,20,21] (fun(x:Value×Value×Value×Value×Value×Value×Value×Value×Value×Value×Value×Value×Nat×Nat)=>(fun aj af ag ak al an ao ah ai aq ar au ab ad=>[(0,9,(vp a4 3)),(1,10,aj),(2,11,af),(3,12,(vp a5 0)),(4,13,ag),(5,14,(vi a9)),(6,15,ak),(7,16,al),(8,17,an),(9,18,(vp a4 3)),(10,19,ao),(11,20,ah),(12,21,(vp a5 2)),(13,22,ai),(14,23,(vi bc)),(15,24,aq),(16,25,ar),(17,26,au),(18,7,(vp ab 0)),(19,8,(vp ad 0))]) x.1 x.2.1 x.2.2.1 x.2.2.2.1 x.2.2.2.2.1 x.2.2.2.2.2.1 x.2.2.2.2.2.2.1 x.2.2.2.2.2.2.2.1 x.2.2.2.2.2.2.2.2.1 x.2.2.2.2.2.2.2.2.2.1 x.2.2.2.2.2.2.2.2.2.2.1 x.2.2.2.2.2.2.2.2.2.2.2.1 x.2.2.2.2.2.2.2.2.2.2.2.2.1 x.2.2.2.2.2.2.2.2.2.2.2.2.2) [(2,vb p2),(3,vp a4 0),(4,vp a5 0),(6,vp a6 0)] [] (fun(D:Nat->Bool) (x:Value×Value×Value×Value×Value×Value×Value×Value×Value×Value×Value×Value×Nat×Nat)=>(fun aj af ag ak al an ao ah ai aq ar au ab ad=>[bif D 0 then (rd aj p0.bL) else aM,bif D 1 then (rd af p0) else aM,bif D 2 then (rd ag p1.A) else aM,bif D 3 then (pt ak a0) else aM,bif D 4 then (pt al a0.At) else aM,bif D 5 then (rd an a0.At) else aM,bif D 6 then (rd ao p0.bL) else aM,bif D 7 then (rd ah p0) else aM,bif D 8 then (rd ai p1.B) else aM,bif D 9 then (pt aq a1) else aM,bif D 10 then (pt ar a1.At) else aM,bif D 11 then (rd au a1.At) else aM,bif D 14 then (bx 76 ab a0.At) else (bif D 12 then (raw 76 ab 2) else aM),bif D 15 then (bx 76 ad a1.At) else (bif D 13 then (raw 76 ad 2) else aM),raw 100 a6 4,bx 53 a5 p1,bx 27 a4 p0,rd v1 p1,rd v0 p0]) x.1 x.2.1 x.2.2.1 x.2.2.2.1 x.2.2.2.2.1 x.2.2.2.2.2.1 x.2.2.2.2.2.2.1 x.2.2.2.2.2.2.2.1 x.2.2.2.2.2.2.2.2.1 x.2.2.2.2.2.2.2.2.2.1 x.2.2.2.2.2.2.2.2.2.2.1 x.2.2.2.2.2.2.2.2.2.2.2.1 x.2.2.2.2.2.2.2.2.2.2.2.2.1 x.2.2.2.2.2.2.2.2.2.2.2.2.2) (fun x=>by kernel_rfl) ?_ ⟨fun _=>nA gn tx,?_,?_,fun _=>nA gn vE,?_,?_,?_,?_,?_,fun _=>nA gn tx,?_,?_,fun _=>nA gn vF,?_,?_,?_,?_,?_,?_,?_,?_,?_,trivial⟩ ?_
 ·have j:=((((((((((((j.drew).aM).aM).aM).aM).aM).aM).aM).aM).aM).aM).aM).aM
  have j:=(j.aM).aM
  exact⟨(undef,undef,undef,undef,undef,undef,undef,undef,undef,undef,undef,undef,0,0),eD.none,(AF zr),zt,j⟩
 ·rintro D U w hD o aw ⟨⟨aj,af,ag,ak,al,an,ao,ah,ai,aq,ar,au,ab,ad⟩,hv,ha,_,j⟩
  obtain⟨O,rfl⟩:=(ac (hv.at 0 rfl (o.1 rfl)) az).dH
  have j:=j.bK 0 hD
  refine RL.aV 16 j zr pK DH fun bh j=>?_
  have j:=(j.pl 20 [0,2,3,4,5,6,7,8,9,10,11,12,13,14,15,16,17,18,19]).bF 0 true rfl aM
  exact RL.nil ⟨rfl,(bh,af,ag,ak,al,an,ao,ah,ai,aq,ar,au,ab,ad),hv.pu 1,ha.u,zt,j⟩
 ·rintro D U w hD o aw ⟨⟨aj,af,ag,ak,al,an,ao,ah,ai,aq,ar,au,ab,ad⟩,hv,ha,_,j⟩
  obtain⟨O,rfl⟩:=(ac (ha.at 1 rfl) az).dH
  have j:=j.bK 1 hD
  refine RL.aV (f:=(fun x=>x)) 16 j zr Fd.self mx fun bj j=>?_
  have j:=(j.pl 20 [1,0,3,4,5,6,7,8,9,10,11,12,13,14,15,16,17,18,19]).bF 1 true rfl aM
  exact RL.nil ⟨rfl,(aj,bj,ag,ak,al,an,ao,ah,ai,aq,ar,au,ab,ad),hv.pu 2,ha.u,zt,j⟩
 ·rintro D U w hD o aw ⟨⟨aj,af,ag,ak,al,an,ao,ah,ai,aq,ar,au,ab,ad⟩,hv,ha,_,j⟩
  obtain⟨O,rfl⟩:=(ac (hv.at 3 rfl (o.1 rfl)) az).dH
  have j:=j.bK 2 hD
  refine RL.aV 15 j zr n0 qo fun bk j=>?_
  have j:=(j.pl 20 [1,2,0,4,5,6,7,8,9,10,11,12,13,14,15,16,17,18,19]).bF 2 true rfl aM
  exact RL.nil ⟨rfl,(aj,af,bk,ak,al,an,ao,ah,ai,aq,ar,au,ab,ad),hv.pu 4,ha.u,zt,j⟩
 ·rintro D U w hD o aw ⟨⟨aj,af,ag,ak,al,an,ao,ah,ai,aq,ar,au,ab,ad⟩,hv,ha,_,j⟩
  obtain⟨O,rfl⟩:=(ac (hv.at 2 rfl (o.1 rfl)) (ac (hv.at 4 rfl (o.2.1 rfl)) az)).dH
  have j:=(j.bE 1 (o.1 rfl)).bE 2 (o.2.1 rfl)
  refine RL.call zt zr DL [af,ag] zr (aF (gG N (i0:=1) (i1:=2) j zr zr ba) ?_)
  rintro _ w ⟨rfl,j⟩
  have j:=(j.bF 1 (D 2) (o.1 rfl) aM).bF 2 (D 4) (o.2.1 rfl) aM
  exact RL.nil ⟨rfl,(aj,af,ag,ak,al,an,ao,ah,ai,aq,ar,au,ab,ad),hv.pu 5,ha.u,zt,j⟩
 ·rintro D U w hD o aw ⟨⟨aj,af,ag,ak,al,an,ao,ah,ai,aq,ar,au,ab,ad⟩,hv,ha,_,j⟩
  obtain⟨O,rfl⟩:=(ac (hv.at 1 rfl (o.1 rfl)) (ac (hv.at 5 rfl (o.2.1 rfl)) az)).dH
  have j:=(j.bE 0 (o.1 rfl)).bK 3 hD
  refine RL.cJ 0 j DI bb fun bl j=>?_
  have j:=((j.pl 20 [1,2,3,0,5,6,7,8,9,10,11,12,13,14,15,16,17,18,19]).bF 0 (D 1) (o.1 rfl) aM).bF 3 true rfl aM
  exact RL.nil ⟨rfl,(aj,af,ag,bl,al,an,ao,ah,ai,aq,ar,au,ab,ad),hv.pu 6,ha.u,zt,j⟩
 ·rintro D U w hD o aw ⟨⟨aj,af,ag,ak,al,an,ao,ah,ai,aq,ar,au,ab,ad⟩,hv,ha,_,j⟩
  obtain⟨O,rfl⟩:=(ac (hv.at 6 rfl (o.1 rfl)) az).dH
  have j:=(j.bE 3 (o.1 rfl)).bK 4 hD
  refine RL.iT 3 j zr zy rj fun bm j=>?_
  have j:=((j.pl 20 [1,2,3,4,0,6,7,8,9,10,11,12,13,14,15,16,17,18,19]).bF 3 (D 6) (o.1 rfl) aM).bF 4 true rfl aM
  exact RL.nil ⟨rfl,(aj,af,ag,ak,bm,an,ao,ah,ai,aq,ar,au,ab,ad),hv.pu 7,ha.u,zt,j⟩
 ·rintro D U w hD o aw ⟨⟨aj,af,ag,ak,al,an,ao,ah,ai,aq,ar,au,ab,ad⟩,hv,ha,_,j⟩
  obtain⟨O,rfl⟩:=(ac (hv.at 7 rfl (o.1 rfl)) az).dH
  have j:=(j.bE 4 (o.1 rfl)).bK 5 hD
  refine RL.bY 4 a0.At j uT fun bn j=>?_
  have j:=((j.pl 20 [1,2,3,4,5,0,7,8,9,10,11,12,13,14,15,16,17,18,19]).bF 4 (D 7) (o.1 rfl) aM).bF 5 true rfl aM
  exact RL.nil ⟨rfl,(aj,af,ag,ak,al,bn,ao,ah,ai,aq,ar,au,ab,ad),hv.pu 8,ha.u,zt,j⟩
 ·rintro D U w hD o aw ⟨⟨aj,af,ag,ak,al,an,ao,ah,ai,aq,ar,au,ab,ad⟩,hv,ha,_,j⟩
  obtain⟨O,rfl⟩:=(ac (hv.at 9 rfl (o.1 rfl)) az).dH
  have j:=j.bK 6 hD
  refine RL.aV 16 j zr pK DH fun bo j=>?_
  have j:=(j.pl 20 [1,2,3,4,5,6,0,8,9,10,11,12,13,14,15,16,17,18,19]).bF 6 true rfl aM
  exact RL.nil ⟨rfl,(aj,af,ag,ak,al,an,bo,ah,ai,aq,ar,au,ab,ad),hv.pu 10,ha.u,zt,j⟩
 ·rintro D U w hD o aw ⟨⟨aj,af,ag,ak,al,an,ao,ah,ai,aq,ar,au,ab,ad⟩,hv,ha,_,j⟩
  obtain⟨O,rfl⟩:=(ac (ha.at 1 rfl) az).dH
  have j:=j.bK 7 hD
  refine RL.aV (f:=(fun x=>x)) 16 j zr Fd.self mx fun bp j=>?_
  have j:=(j.pl 20 [1,2,3,4,5,6,7,0,9,10,11,12,13,14,15,16,17,18,19]).bF 7 true rfl aM
  exact RL.nil ⟨rfl,(aj,af,ag,ak,al,an,ao,bp,ai,aq,ar,au,ab,ad),hv.pu 11,ha.u,zt,j⟩
 ·rintro D U w hD o aw ⟨⟨aj,af,ag,ak,al,an,ao,ah,ai,aq,ar,au,ab,ad⟩,hv,ha,_,j⟩
  obtain⟨O,rfl⟩:=(ac (hv.at 12 rfl (o.1 rfl)) az).dH
  have j:=j.bK 8 hD
  refine RL.aV 15 j zr n7 qo fun bq j=>?_
  have j:=(j.pl 20 [1,2,3,4,5,6,7,8,0,10,11,12,13,14,15,16,17,18,19]).bF 8 true rfl aM
  exact RL.nil ⟨rfl,(aj,af,ag,ak,al,an,ao,ah,bq,aq,ar,au,ab,ad),hv.pu 13,ha.u,zt,j⟩
 ·rintro D U w hD o aw ⟨⟨aj,af,ag,ak,al,an,ao,ah,ai,aq,ar,au,ab,ad⟩,hv,ha,_,j⟩
  obtain⟨O,rfl⟩:=(ac (hv.at 11 rfl (o.1 rfl)) (ac (hv.at 13 rfl (o.2.1 rfl)) az)).dH
  have j:=(j.bE 7 (o.1 rfl)).bE 8 (o.2.1 rfl)
  refine RL.call zt zr DL [ah,ai] zr (aF (gG N (i0:=7) (i1:=8) j zr zr bf) ?_)
  rintro _ w ⟨rfl,j⟩
  have j:=(j.bF 7 (D 11) (o.1 rfl) aM).bF 8 (D 13) (o.2.1 rfl) aM
  exact RL.nil ⟨rfl,(aj,af,ag,ak,al,an,ao,ah,ai,aq,ar,au,ab,ad),hv.pu 14,ha.u,zt,j⟩
 ·rintro D U w hD o aw ⟨⟨aj,af,ag,ak,al,an,ao,ah,ai,aq,ar,au,ab,ad⟩,hv,ha,_,j⟩
  obtain⟨O,rfl⟩:=(ac (hv.at 10 rfl (o.1 rfl)) (ac (hv.at 14 rfl (o.2.1 rfl)) az)).dH
  have j:=(j.bE 6 (o.1 rfl)).bK 9 hD
  refine RL.cJ 6 j DI bg fun br j=>?_
  have j:=((j.pl 20 [1,2,3,4,5,6,7,8,9,0,11,12,13,14,15,16,17,18,19]).bF 6 (D 10) (o.1 rfl) aM).bF 9 true rfl aM
  exact RL.nil ⟨rfl,(aj,af,ag,ak,al,an,ao,ah,ai,br,ar,au,ab,ad),hv.pu 15,ha.u,zt,j⟩
 ·rintro D U w hD o aw ⟨⟨aj,af,ag,ak,al,an,ao,ah,ai,aq,ar,au,ab,ad⟩,hv,ha,_,j⟩
  obtain⟨O,rfl⟩:=(ac (hv.at 15 rfl (o.1 rfl)) az).dH
  have j:=(j.bE 9 (o.1 rfl)).bK 10 hD
  refine RL.iT 9 j zr zy rj fun bs j=>?_
  have j:=((j.pl 20 [1,2,3,4,5,6,7,8,9,10,0,12,13,14,15,16,17,18,19]).bF 9 (D 15) (o.1 rfl) aM).bF 10 true rfl aM
  exact RL.nil ⟨rfl,(aj,af,ag,ak,al,an,ao,ah,ai,aq,bs,au,ab,ad),hv.pu 16,ha.u,zt,j⟩
 ·rintro D U w hD o aw ⟨⟨aj,af,ag,ak,al,an,ao,ah,ai,aq,ar,au,ab,ad⟩,hv,ha,_,j⟩
  obtain⟨O,rfl⟩:=(ac (hv.at 16 rfl (o.1 rfl)) az).dH
  have j:=(j.bE 10 (o.1 rfl)).bK 11 hD
  refine RL.bY 10 a1.At j uT fun bt j=>?_
  have j:=((j.pl 20 [1,2,3,4,5,6,7,8,9,10,11,0,13,14,15,16,17,18,19]).bF 10 (D 16) (o.1 rfl) aM).bF 11 true rfl aM
  exact RL.nil ⟨rfl,(aj,af,ag,ak,al,an,ao,ah,ai,aq,ar,bt,ab,ad),hv.pu 17,ha.u,zt,j⟩
 ·rintro D U w hD o aw ⟨⟨aj,af,ag,ak,al,an,ao,ah,ai,aq,ar,au,ab,ad⟩,hv,ha,_,j⟩
  obtain⟨O,rfl⟩:=(az (U:=U)).dH
  have j:=(j.bK 12 (nh aw hD 20)).bK 12 hD
  refine RL.alloc j LF.z fun a7 w j=>?_
  have j:=((j.pl 20 [1,2,3,4,5,6,7,8,9,10,11,12,0,14,15,16,17,18,19]).bF 12 true rfl aM).fD 12 (D 20) (nh aw hD 20) (bx 76 a7 a0.At)
  exact RL.nil ⟨rfl,(aj,af,ag,ak,al,an,ao,ah,ai,aq,ar,au,a7,ad),hv.pu 18,ha.u,zt,j⟩
 ·rintro D U w hD o aw ⟨⟨aj,af,ag,ak,al,an,ao,ah,ai,aq,ar,au,ab,ad⟩,hv,ha,_,j⟩
  obtain⟨O,rfl⟩:=(az (U:=U)).dH
  have j:=(j.bK 13 (nh aw hD 21)).bK 13 hD
  refine RL.alloc j LF.z fun a8 w j=>?_
  have j:=((j.pl 20 [1,2,3,4,5,6,7,8,9,10,11,12,13,0,15,16,17,18,19]).bF 13 true rfl aM).fD 13 (D 21) (nh aw hD 21) (bx 76 a8 a1.At)
  exact RL.nil ⟨rfl,(aj,af,ag,ak,al,an,ao,ah,ai,aq,ar,au,ab,a8),hv.pu 19,ha.u,zt,j⟩
 ·rintro D U w hD o aw ⟨⟨aj,af,ag,ak,al,an,ao,ah,ai,aq,ar,au,ab,ad⟩,hv,ha,_,j⟩
  obtain⟨O,rfl⟩:=(ac (hv.at 8 rfl (o.2.1 rfl)) (ac (hv.at 18 rfl (o.1 rfl)) az)).dH
  have j:=((j.bE 5 (o.2.1 rfl)).bK 12 hD).bE 12 (o.1 rfl)
  refine RL.bW 12 j 5 zr uT fun w j=>?_
  have j:=(j.bF 5 (D 8) (o.2.1 rfl) aM).bF 12 true rfl (bif D 18 then (raw 76 ab 2) else aM)
  exact RL.nil ⟨rfl,(aj,af,ag,ak,al,an,ao,ah,ai,aq,ar,au,ab,ad),hv.n1,ha,zt,j⟩
 ·rintro D U w hD o aw ⟨⟨aj,af,ag,ak,al,an,ao,ah,ai,aq,ar,au,ab,ad⟩,hv,ha,_,j⟩
  obtain⟨O,rfl⟩:=(ac (hv.at 17 rfl (o.2.1 rfl)) (ac (hv.at 19 rfl (o.1 rfl)) az)).dH
  have j:=((j.bE 11 (o.2.1 rfl)).bK 13 hD).bE 13 (o.1 rfl)
  refine RL.bW 13 j 11 zr uT fun w j=>?_
  have j:=(j.bF 11 (D 17) (o.2.1 rfl) aM).bF 13 true rfl (bif D 19 then (raw 76 ad 2) else aM)
  exact RL.nil ⟨rfl,(aj,af,ag,ak,al,an,ao,ah,ai,aq,ar,au,ab,ad),hv.n1,ha,zt,j⟩
 rintro D U w ax ⟨⟨aj,af,ag,ak,al,an,ao,ah,ai,aq,ar,au,ab,ad⟩,hv,ha,_,j⟩
 have j:=((((((j.bE 0 (gq ax 1)).bE 1 (gq ax 2)).bE 2 (gq ax 4)).bE 3 (gq ax 6)).bE 4 (gq ax 7)).bE 5 (gq ax 8)).bE 6 (gq ax 10)
 have j:=((((((j.bE 7 (gq ax 11)).bE 8 (gq ax 13)).bE 9 (gq ax 15)).bE 10 (gq ax 16)).bE 11 (gq ax 17)).bE 12 (gq ax 20)).bE 13 (gq ax 21)
 obtain⟨O,rfl⟩:=(ac (hv.at 18 rfl (gq ax 18)) (ac (hv.at 19 rfl (gq ax 19)) (ac (ha.at 0 rfl) (ac (ha.at 1 rfl) (ac (ha.at 2 rfl) (ac (ha.at 3 rfl) az)))))).dH
 refine aG (RC.seq (RC.sr (mv (vb p2) (RL.nt ?_))))
 obtain⟨a2,hj,hb⟩:=bd hb
 refine RC.jn (fun(a2:bH×bH)=>SH E V [(6,vp a6 0),(7,vp ab 0),(8,vp ad 0)] [raw 100 a6 4,bx 76 ab a2.1,bx 76 ad a2.2]) a2 ?_ ?_
 ·refine fK hj (fun hc hj=>?_) fun hc hj=>?_
  rotate_left
  ·refine RC.skip ?_
   obtain rfl:=oi hj
   exact⟨rfl,j.sp 19 [14,12,13]⟩
  refine RC.region (RL.aV (f:=(fun x=>x)) 13 j zr Fd.self uT fun b0 j=>(RL.aV (f:=(fun x=>x)) 13 j zr Fd.self uT fun b1 j=>(RL.kU 14 j 1 zr uT fun w j=>?_)))
  refine RL.kU 15 j 0 zr uT fun w j=>?_
  refine RL.nil ?_
  obtain rfl:=oi hj
  exact⟨rfl,j.sp 21 [16,14,15]⟩
 rintro _ w ⟨O,rfl,j⟩
 refine aG (RC.sr (RL.aV (f:=(fun x=>x)) 1 j rfl Fd.self uT fun bw j=>(RL.aV (f:=(fun x=>x)) 3 j rfl Fd.self uT fun bz j=>(RL.HS (⟨a2.1,a2.2⟩:aX) trivial rfl j [(0,bw),(1,bz)] rfl LG rfl (fun M hs g=>by have h:=qM M;exact dA.cons (f:=fun(x:aX) y=>{x with e0:=y}) h xG (g.sat 1 _ rfl).1 fun _ h=>dA.cons (f:=fun(x:aX) y=>{x with e1:=y}) h xI (g.sat 0 _ rfl).1 fun _ h=>dA.nil h) fun b2 j=>?_))))
 refine RL.bW 3 j 0 zr nT fun w j=>?_
 refine RL.nt (RC.ret ?_)
 obtain rfl:=oi hb
 exact JF 3 zr j zr zr nT fun b3 j=>(j.pk 7 [0])
theorem tQ (o:Holds E w V) (j:m9 N p0 p1=some res):
    Calls bN 65 [(vi p0),(vi p1)].toArray w (iE (aS E V res)):=by
 unfold m9 at j
 refine enter Tryz.func65 zr zr (RC.sr (aT (vi 0) (RL.ns (mv (vi p0) (mv (vi p1) (RL.ja p0 p1 (mv (vi p1) (mv (vi p0) ?_))))))))
 refine RL.ja p1 p0 (RL.max (IntKind.wrap .i64 (p0 - p1)) (IntKind.wrap .i64 (p1 - p0)) (aT (vi (if (IntKind.wrap .i64 (p0 - p1))< (IntKind.wrap .i64 (p1 - p0)) then (IntKind.wrap .i64 (p1 - p0)) else (IntKind.wrap .i64 (p0 - p1)))) (RL.nt (RC.ret ?_))))
 obtain rfl:=oi j
 exact cK ⟨rfl,o.drop 0⟩
theorem lu {p0 p1:aX} (j:Holds E w V) (h0:V[i0]? =some (rd v0 p0)) (h1:V[i1]? =some (rd v1 p1)) (hb:iR N p0 p1 p2=some res):
    Calls bN 40 [v0,v1,(vi p2)].toArray w (iE (aS E V res)):=by
 unfold iR at hb
 refine enter Tryz.func40 zr zr ?_
 have j:=(j.dup (i0+0) h0).dup (i1+1) h1
 refine RC.sr (RL.dJ 1 v0 j zr fun aq w j=>?_)
 refine RL.dJ 1 v1 j zr fun ad w j=>?_
 refine aT (vi 0) (RL.ns (aT (vi 0) (RL.nq (RC.sr (RL.aV (f:=(fun x=>x)) 1 j zr Fd.self nT fun af j=>(mv (vi 0) (RL.nt ?_)))))))
 obtain⟨ar,hN,hb⟩:=bd hb
 refine RC.iter (fun(o:Int×Int)=>SH E V [(2,vi p2),(4,vp ad 0),(7,vi o.1),(10,af),(11,vi o.2)] [bx 100 ad p1,rd af p0]) (fun(o:Int×Int)=>SH E V [(2,vi p2),(7,vi o.1)] [bx 100 ad p1,rd af p0]) (fun(r:Empty) _ _=>r.elim) hN ?_ ?_ ?_ ?_
 ·exact j.sp 5 [1,0]
 ·rintro o fl _ w ⟨O,rfl,j⟩ hb
  refine RC.sr (ic o.2 2 (RL.nq (fK hb (fun hc hb=>?_) fun hc hb=>?_)))
  rotate_left
  ·refine RC.ex ?_
   obtain rfl:=oi hb
   exact⟨rfl,j.sp 2 [0,1]⟩
  refine RC.ss (RC.bs (mv (vi o.2) ?_))
  obtain⟨aa,ag,hb⟩:=bd hb
  refine RL.HR (i:=1) (f:=fun(x:aX)=>x.gt aa) zt zr j zr zr zr zr (F3.PE ag) (oT aa) uT fun av j=>(RL.alloc j LF.z fun ai w j=>?_)
  refine aT (vi o.2) (RL.bW 0 j 1 zr uT fun w j=>?_)
  refine RL.nt ?_
  have j:=j.drew
  refine RC.GH (fun w=>Holds E w ([bx 76 ai (p0.gt aa),bx 100 ad p1]++V)) mixed zr [1,0,0,0,0,0,0,2,1,1,1,1,1,1,2,0,0] [0,1,2,3,4,5,6,8,9,10,11,12,13,7,14,15,16] (j.pk 4 [0,2]) (DP.e1 (vi o.1) zr (fun w=>RL.move (vi o.1) zt DP.d1) (DP.e0 zr (RL.bO zr xL (cM zr (RL.aR 0 j zr nX cW (cM zr (mv (vi o.2) (cM zr ?_))))))))
  refine RL.Kz zt zr zr zr (F3.at ag) (cM zr (RL.bO zr xL (cM zr (RL.aR (f:=(fun x=>(x.gt aa).X)) 2 j zr (Fd.comp (f:=fun(x:aX)=>x.gt aa) (fun(x:bH)=>x.X) (oT aa) nX) cW (DP.d0 (DP.e1 (vp ai 1) zr (fun w=>RL.bO zr xM DP.d1) (DP.JQ (vi (p0.gt aa).Y) zr (fun w j=>RL.aR 0 j zr nY cW DP.d1) (DP.e1 (vi o.2) zr (fun w=>RL.move (vi o.2) zt DP.d1) ?_))))))))
  refine DP.e1 (vp ad (aa.val*2)) zr (fun w=>RL.Kz zt zr zr zr (F3.at ag) DP.d1) (DP.e1 (vp ad ((aa.val*2)+1)) zr (fun w=>RL.bO zr xM DP.d1) (DP.JQ (vi (p1.gt aa).Y) zr (fun w j=>RL.aR (f:=(fun x=>(x.gt aa).Y)) 1 j zr (Fd.comp (f:=fun(x:aX)=>x.gt aa) (fun(x:bH)=>x.Y) (oT aa) nY) cW DP.d1) (DP.e2 zr ?_)))
  obtain⟨ae,al,hb⟩:=bd hb
  refine RL.call zt zr Nk [(vi (p0.gt aa).X),(vi (p1.gt aa).X)] zr (aF (tQ N (p0:=(p0.gt aa).X) (p1:=(p1.gt aa).X) j al) ?_)
  rintro _ w ⟨rfl,j⟩
  refine DP.d2 (j.pk 4 [0,2]) (DP.e2 zr ?_)
  obtain⟨ah,an,hb⟩:=bd hb
  refine RL.call zt zr Nk [(vi (p0.gt aa).Y),(vi (p1.gt aa).Y)] zr (aF (tQ N (p0:=(p0.gt aa).Y) (p1:=(p1.gt aa).Y) j an) ?_)
  rintro _ w ⟨rfl,j⟩
  refine DP.d2 (j.pk 4 [0,2]) (DP.e0 zr (RL.Mh o.1 ae ah zt zr zr zr zr (cM zr (aT (vi (if (if o.1<ae then ae else o.1)<ah then ah else (if o.1<ae then ae else o.1))) (DP.d0 (DP.z (cA (aG ?_))))))))
  refine RC.region (RL.ja o.2 1 (mv (vi (IntKind.wrap .i64 (o.2+1))) (RL.nil ?_)))
  obtain rfl:=oi hb
  exact⟨rfl,j.sp 4 [2,3]⟩
 ·intro r _ _ _ _
  exact r.elim
 rintro o _ w rfl ⟨O,rfl,j⟩
 rw [Fo.gm] at hb
 refine aG (RC.sr (mv (vi o.1) (mv (vi p2) (RL.ja o.1 p2 (RL.ja (IntKind.wrap .i64 (o.1+p2)) 1 (mv (vi p2) ?_))))))
 obtain⟨aw,ao,hb⟩:=bd hb
 refine RL.quo (IntKind.wrap .i64 ((IntKind.wrap .i64 (o.1+p2)) - 1)) p2 (PC ao) (aT (vi (IntKind.wrap .i64 (Int.tdiv (IntKind.wrap .i64 ((IntKind.wrap .i64 (o.1+p2)) - 1)) p2))) (RL.nt (RC.ret ?_)))
 obtain rfl:=oi hb
 exact cK ⟨rfl,j.drop 2⟩
def s9 (E:World) (V:List HP) (b1 b1h:Nat) (v1h_0 v1h_1:Value) (v1h_2 v1h_3:Value) (v1h_4 v1h_5:Value) (v1h_6 v1h_7:Value) (v1h_8 v1h_9:Value) (v1h_10 v1h_11:Value) (res:Bool) (v:Value) (w:World):Prop:=v= (vb res)/\Holds E w ([bc 68 b1 [(vp b1h 0)],bc 126 b1h [v1h_0,v1h_1,v1h_2,v1h_3,v1h_4,v1h_5,v1h_6,v1h_7,v1h_8,v1h_9,v1h_10,v1h_11]]++V)
theorem kO {p1h_5: (List aJ)} {res:Bool} (j:Holds E w (bc 68 b1 [(vp b1h 0)]::bc 126 b1h [v1h_0,v1h_1,v1h_2,v1h_3,v1h_4,v1h_5,v1h_6,v1h_7,v1h_8,v1h_9,v1h_10,v1h_11]::rd v1h_5 p1h_5::V)) (o:iU N p0 p1h_5=some res):
    Calls bN 59 [(vi p0),(vp b1 0)].toArray w (iE (s9 E V b1 b1h v1h_0 v1h_1 v1h_2 v1h_3 v1h_4 v1h_5 v1h_6 v1h_7 v1h_8 v1h_9 v1h_10 v1h_11 res)):=by
 unfold iU at o
 refine enter Tryz.func59 zr zr (RC.sr (aT (vb false) (RL.ns (mv (vi p0) (RL.bS 0 (vp b1h 0) j LH (RL.nilCheck zr (RL.bO zr qB (RL.bS 1 v1h_5 j yj ?_))))))))
 refine RL.bM 2 p1h_5 j Bl (RL.ja (p1h_5.length:Int) 1 ?_)
 obtain⟨aa,ab,o⟩:=bd o
 refine RL.call zt zr Ik [(vi p0),(vi 0),(vi (IntKind.wrap .i64 ((p1h_5.length:Int) - 1)))] zr (aF (kZ N (p0:=p0) (p1:=0) (p2:=(IntKind.wrap .i64 ((p1h_5.length:Int) - 1))) j ab) ?_)
 rintro _ w ⟨rfl,j⟩
 refine aT (vb aa) (RL.nt (RC.ret ?_))
 obtain rfl:=oi o
 exact cK ⟨rfl,j.pk 3 [0,1]⟩
def va (E:World) (V:List HP) (r:Int) (U:Nat->Value) (w:World):Prop:=nL bN 19 Tryz.f32 (aS E V r) .ret U w
theorem tR {p0: (List lK)} {p1:lK} (j:Holds E w V) (h0:V[i0]? =some (rd v0 p0)) (h1:V[i1]? =some (rd v1 p1)) (o:ny N p0 p1=some res):
    Calls bN 32 [v0,v1].toArray w (iE (aS E V res)):=by
 unfold ny at o
 refine enter Tryz.func32 zr zr ?_
 have j:=(j.dup (i0+0) h0).dup (i1+1) h1
 refine RC.sr (RL.dJ 0 v1 j zr fun ad w j=>?_)
 refine aT (vi 0) (RL.nq (RC.sr (mv v0 (RL.bM 2 p0 j Iq (mv (vi 0) (RL.nt ?_))))))
 obtain⟨al,hN,o⟩:=bd o
 refine RC.range (fun(aa:Nat) (ab:Unit)=>SH E V [(0,v0),(3,vp ad 0),(7,vi p0.length),(8,vi aa)] [rd v0 p0,bx 43 ad p1]) (fun(ab:Unit)=>SH E V [] [rd v0 p0,bx 43 ad p1]) (va E V) hN ?_ ?_ ?_ ?_ ?_
 ·exact j.sp 3 [2,0]
 ·rintro hm ab _ w ⟨O,rfl,j⟩
  refine RC.sr (ic ((p0.length:Int)) ((p0.length:Int)) (RL.nq (RC.dC oE (RC.ex ?_))))
  exact⟨rfl,j.sp 2 [0,1]⟩
 ·rintro hm aa ab fl _ w hk ⟨O,rfl,j⟩ o
  refine RC.sr (ic ((aa:Int)) ((p0.length:Int)) (RL.nq (RC.dB (oD hk) (RC.ss (RC.bs (mv (vi aa) (aT (vi aa) (RL.nq ?_))))))))
  refine RC.AA mixed ?_
  have j:=j.drew
  refine RO.go (RL.aV (f:=(fun x=>x)) 1 j zr Fd.self AM fun ao j=>(RO.nx (mv v0 (RO.nx (mv (vi aa) (RO.nx ?_))))))
  obtain⟨ag,ai,o⟩:=bd o
  refine RL.cJ 1 j Ir ai fun aq j=>(RO.nx (RL.bY 0 ag j AM fun ar j=>(RO.nx (RL.seq 2 0 p1 ag zt zr j zr zr zr zr Nr zr (RO.last (aG (fK o (fun hc o=>?_) fun hc o=>?_)))))))
  rotate_left
  ·refine RC.skip (cA (aG (RC.region (RL.inc hk hm (mv (vi ((aa+1:Nat):Int)) (RL.nil ?_))))))
   obtain rfl:=oi o
   exact⟨rfl,j.sp 5 [3,4]⟩
  refine RC.sr (mv (vi aa) (aT (vi aa) (RL.nt (RC.rb (bZ ?_)))))
  obtain rfl:=oi o
  exact⟨rfl,cK ⟨rfl,j.drop 5⟩⟩
 ·intro r U w e hK
  subst e
  refine bZ ?_
  obtain rfl:=oi o
  exact hK
 rintro ab _ w rfl ⟨O,rfl,j⟩
 rw [Fo.gm] at o
 refine aG (RC.sr (aT (vi (-1)) (RL.nt (RC.ret ?_))))
 obtain rfl:=oi o
 exact cK ⟨rfl,j.drop 2⟩
theorem rz {p0: (List lK)} {p1:lK} {res:Bool} (j:Holds E w V) (h0:V[i0]? =some (rd v0 p0)) (h1:V[i1]? =some (rd v1 p1)) (o:lV N p0 p1=some res):
    Calls bN 13 [v0,v1].toArray w (iE (bV E V res)):=by
 unfold lV at o
 refine enter Tryz.func13 zr zr ?_
 have j:=(j.dup (i0+0) h0).dup (i1+1) h1
 refine RC.sr (RL.dJ 0 v1 j zr fun ae w j=>?_)
 refine aT (vb false) (RL.ns (mv v0 (RL.aV (f:=(fun x=>x)) 0 j zr Fd.self AM fun ab j=>?_)))
 obtain⟨aa,ad,o⟩:=bd o
 refine RL.call zt zr OX [v0,ab] zr (aF (tR N (i0:=3) (i1:=0) j zr zr ad) ?_)
 rintro _ w ⟨rfl,j⟩
 refine ic aa 0 (aT (vb (decide (aa>=0))) (RL.nt (RC.ret ?_)))
 obtain rfl:=oi o
 exact cK ⟨rfl,j.drop 4⟩
def vO (E:World) (V:List HP) (b0:Nat) (v0_0 v0_1:Value) (v0_2 v0_3:Value) (v0_4 v0_5:Value) (v0_6 v0_7:Value) (v0_8 v0_9:Value) (v0_10 v0_11:Value) (r:Int) (U:Nat->Value) (w:World):Prop:=nL bN 112 Tryz.f30 (jF E V b0 v0_0 v0_1 v0_2 v0_3 v0_4 v0_5 v0_6 v0_7 v0_8 v0_9 v0_10 v0_11 r) .ret U w
theorem vc {p0_0: (List (List aH))} {p0_1: (List aH)} {p0_2: (List cD)} {p0_3: (List dD)} {p0_4: (List (List aA))} {p0_5: (List aJ)} {p0_6: (List (List Int))} {p0_7: (List cU)} {p0_8: (List Int)} {p0_9: (List Int)} {p0_10: (List Int)} {p0_11: (List fJ)} {p1: (List lK)} (o:Holds E w (bc 126 b0 [v0_0,v0_1,v0_2,v0_3,v0_4,v0_5,v0_6,v0_7,v0_8,v0_9,v0_10,v0_11]::rd v0_0 p0_0::rd v0_1 p0_1::rd v0_2 p0_2::rd v0_3 p0_3::rd v0_4 p0_4::rd v0_5 p0_5::rd v0_6 p0_6::rd v0_7 p0_7::rd v0_8 p0_8::rd v0_9 p0_9::rd v0_10 p0_10::rd v0_11 p0_11::V)) (h1:V[i1]? =some (rd v1 p1)) (hb:mw N p0_0 p0_1 p0_2 p0_3 p0_4 p0_5 p0_6 p0_7 p0_8 p0_9 p0_10 p0_11 p1=some res):
    Calls bN 30 [(vp b0 0),v1].toArray w (iE (jF E V b0 v0_0 v0_1 v0_2 v0_3 v0_4 v0_5 v0_6 v0_7 v0_8 v0_9 v0_10 v0_11 res)):=by
 unfold mw at hb
 refine enter Tryz.func30 zr zr ?_
 have o:=o.dup (i1+13) h1
 refine RC.sr (RL.Li (v:=(vp b0 0)) zt zr o zr zr fun ae w o=>?_)
 refine aT (vi 0) (RL.nq (RC.sr (mv v1 (RL.bM 1 p1 o Iq (ic ((p1.length:Int)) 20 (RL.nt (fK hb (fun hc hb=>?_) fun hc hb=>?_)))))))
 ·refine RC.sr (aT (vi 2) (RL.nt (RC.rt ?_)))
  obtain rfl:=oi hb
  exact cK ⟨rfl,o.pk 15 [2]⟩
 refine RC.sx (RL.makeFunc [(vp ae 0)] (aT (.func (.func 59) #[] #[(vp ae 0)]) (RL.nq (RC.sr (mv v1 (RL.bM 1 p1 o Iq (mv (vi 0) (RL.nt ?_))))))))
 obtain⟨bj,hN,hb⟩:=bd hb
 refine RC.range (fun(ag:Nat) (an:Unit)=>SH E V [(0,vp b0 0),(1,v1),(2,vp ae 0),(5,(.func (.func 59) #[] #[(vp ae 0)])),(13,v1),(14,vi p1.length),(15,vi ag)] [bc 126 b0 [v0_0,v0_1,v0_2,v0_3,v0_4,v0_5,v0_6,v0_7,v0_8,v0_9,v0_10,v0_11],rd v0_0 p0_0,rd v0_1 p0_1,rd v0_2 p0_2,rd v0_3 p0_3,rd v0_4 p0_4,rd v0_5 p0_5,rd v0_6 p0_6,rd v0_7 p0_7,rd v0_8 p0_8,rd v0_9 p0_9,rd v0_10 p0_10,rd v0_11 p0_11,rd v1 p1,bc 68 ae [(vp b0 0)]]) (fun(an:Unit)=>SH E V [(0,vp b0 0)] [bc 126 b0 [v0_0,v0_1,v0_2,v0_3,v0_4,v0_5,v0_6,v0_7,v0_8,v0_9,v0_10,v0_11],rd v0_0 p0_0,rd v0_1 p0_1,rd v0_2 p0_2,rd v0_3 p0_3,rd v0_4 p0_4,rd v0_5 p0_5,rd v0_6 p0_6,rd v0_7 p0_7,rd v0_8 p0_8,rd v0_9 p0_9,rd v0_10 p0_10,rd v0_11 p0_11,rd v1 p1,bc 68 ae [(vp b0 0)]]) (vO E V b0 v0_0 v0_1 v0_2 v0_3 v0_4 v0_5 v0_6 v0_7 v0_8 v0_9 v0_10 v0_11) hN ?_ ?_ ?_ ?_ ?_
 ·exact o.sp 15 [2,3,4,5,6,7,8,9,10,11,12,13,14,1,0]
 ·rintro hm an _ w ⟨O,rfl,o⟩
  refine RC.sr (ic ((p1.length:Int)) ((p1.length:Int)) (RL.nq (RC.dC oE (RC.ex ?_))))
  exact⟨rfl,o.sp 15 [0,1,2,3,4,5,6,7,8,9,10,11,12,13,14]⟩
 ·rintro hm ag an fl _ w hk ⟨O,rfl,o⟩ hb
  refine RC.sr (ic ((ag:Int)) ((p1.length:Int)) (RL.nq (RC.dB (oD hk) (RC.ss (RC.bs (mv (vi ag) ?_))))))
  obtain⟨j,a0,hb⟩:=bd hb
  refine RL.cJ 13 o Ir a0 fun bl o=>(RL.bY 0 j o AM fun bm o=>(RL.alloc o LI.z fun ad w o=>?_))
  refine aT (vi ag) (RL.bW 0 o 1 zr AM fun w o=>?_)
  refine RL.nq (RC.seq ?_)
  obtain⟨ao,hj,hb⟩:=bd hb
  refine RC.jn (fun(ao:Bool)=>SH E V [(0,vp b0 0),(1,v1),(2,vp ae 0),(5,(.func (.func 59) #[] #[(vp ae 0)])),(6,vi ag),(7,vp ad 0),(13,v1),(14,vi p1.length),(15,vi ag),(42,vb ao)] [bc 126 b0 [v0_0,v0_1,v0_2,v0_3,v0_4,v0_5,v0_6,v0_7,v0_8,v0_9,v0_10,v0_11],rd v0_0 p0_0,rd v0_1 p0_1,rd v0_2 p0_2,rd v0_3 p0_3,rd v0_4 p0_4,rd v0_5 p0_5,rd v0_6 p0_6,rd v0_7 p0_7,rd v0_8 p0_8,rd v0_9 p0_9,rd v0_10 p0_10,rd v0_11 p0_11,rd v1 p1,bc 68 ae [(vp b0 0)],bx 43 ad j]) ao ?_ ?_
  ·refine RC.region (RL.bO rfl vG (RL.aR 0 o rfl n9 yk (mv (vb j.Open) (RL.gs true j.Open (vp ad 3) rfl rfl rfl (eO Cm) (RL.gs true j.Open (vi j.A) rfl rfl rfl (cG 0 rfl o (fun h=>by exact(dG h:cv (true&&(j.Open==true)) (vp ad 3)= (vp ad 3))) rfl uw cW) (RL.gs true j.Open (vb (j.A != 0)) rfl rfl rfl (eN .neq .i64 j.A 0 rfl (fun h=>by exact(dG h:cv (true&&(j.Open==true)) (vi j.A)= (vi j.A))) (fun _=>rfl) rfl) (RL.gs true j.Open (vb (j.A != 0)) rfl rfl rfl (dW (hx:=fun h=>by exact(dG h:cv (true&&(j.Open==true)) (vb (j.A != 0))= (vb (j.A != 0))))) (RL.gs (true&&(j.Open==true)) (j.A != 0) (vp ad 4) rfl rfl rfl (eO Cn) ?_))))))))
   refine RL.gs (true&&(j.Open==true)) (j.A != 0) (vi j.B) rfl rfl rfl (cG 0 rfl o (fun h=>by exact(dG h:cv ((true&&(j.Open==true))&&((j.A != 0)==false)) (vp ad 4)= (vp ad 4))) rfl ux cW) (RL.gs (true&&(j.Open==true)) (j.A != 0) (vb (j.B != 0)) rfl rfl rfl (eN .neq .i64 j.B 0 rfl (fun h=>by exact(dG h:cv ((true&&(j.Open==true))&&((j.A != 0)==false)) (vi j.B)= (vi j.B))) (fun _=>rfl) rfl) (RL.gs true j.Open (vb ((j.A != 0)||(j.B != 0))) rfl rfl rfl (rR (j.A != 0) rfl (fun h=>by exact(dG h:cv (true&&(j.Open==true)) (vb (j.A != 0))= (vb (j.A != 0)))) (fun h=>by exact oZ (h:=h) (true&&(j.Open==true)))) (RL.pick j.Open (vb (j.Open&&((j.A != 0)||(j.B != 0)))) (kg true) (mv (vb (j.Open&&((j.A != 0)||(j.B != 0)))) (iA hj (fun ah hj=>?_) fun ah hj=>?_)))))
   ·refine cH ah (cH ah (cH ah (cH ah (H0 (H0 (H0 (H0 (cH ah ?_))))))))
    refine iF ah (vb true) (RL.nil ?_)
    obtain rfl:=oi hj
    exact⟨rfl,o.sp 18 [3,4,5,6,7,8,9,10,11,12,13,14,15,16,17,0]⟩
   refine RL.bO (hg:=(cg ah)) zr vG (RL.aR (hg:=(cg ah)) 0 o zr n9 yk (RL.not (hg:=(cg ah)) j.Open (RL.move (vb (!j.Open)) (cg ah) (iA hj (fun aj hj=>?_) fun aj hj=>?_))))
   ·refine RL.bO (hg:=(cg aj)) rfl xN (RL.aV (hg:=(cg aj)) 0 o rfl pD uU fun bn o=>(RL.build (⟨false,0⟩:fJ) (cg aj) rfl o [] rfl JV rfl (fun M hs g=>by have h:=FT M;exact dA.nil h) fun bo o=>?_))
    refine RL.Pn 1 0 j.fJ (⟨false,0⟩:fJ) (cg aj) zr o zr zr zr zr Nq zr (iF aj (vb (!(decide (j.fJ= (⟨false,0⟩:fJ))))) (hg:=(cg ah)) (iF ah (vb (!(decide (j.fJ= (⟨false,0⟩:fJ))))) (RL.nil ?_)))
    obtain rfl:=oi hj
    exact⟨rfl,o.sp 20 [5,6,7,8,9,10,11,12,13,14,15,16,17,18,19,2]⟩
   refine cH aj (cH aj (cH aj (cH aj (iF aj (vb false) (hg:=(cg ah)) (iF ah (vb false) (RL.nil ?_))))))
   obtain rfl:=oi hj
   exact⟨rfl,o.sp 18 [3,4,5,6,7,8,9,10,11,12,13,14,15,16,17,0]⟩
  rintro _ w ⟨O,rfl,o⟩
  refine aG (fK hb (fun hc hb=>?_) fun hc hb=>?_)
  ·refine RC.sr (aT (vi 3) (RL.nt (RC.rt (kh (bZ ?_)))))
   obtain rfl:=oi hb
   exact⟨rfl,cK ⟨rfl,o.pk 16 [0]⟩⟩
  refine RC.ss ?_
  obtain⟨aq,hj,hb⟩:=bd hb
  refine RC.jn (fun(aq:Bool)=>SH E V [(0,vp b0 0),(1,v1),(2,vp ae 0),(5,(.func (.func 59) #[] #[(vp ae 0)])),(6,vi ag),(7,vp ad 0),(8,vb aq),(13,v1),(14,vi p1.length),(15,vi ag)] [bc 126 b0 [v0_0,v0_1,v0_2,v0_3,v0_4,v0_5,v0_6,v0_7,v0_8,v0_9,v0_10,v0_11],rd v0_0 p0_0,rd v0_1 p0_1,rd v0_2 p0_2,rd v0_3 p0_3,rd v0_4 p0_4,rd v0_5 p0_5,rd v0_6 p0_6,rd v0_7 p0_7,rd v0_8 p0_8,rd v0_9 p0_9,rd v0_10 p0_10,rd v0_11 p0_11,rd v1 p1,bc 68 ae [(vp b0 0)],bx 43 ad j]) aq ?_ ?_
  ·refine RC.region (mv (.func (.func 59) #[] #[(vp ae 0)]) (RL.bO zr Cm (RL.aR 15 o zr uw cW ?_)))
   have o:=((o.dup 6 rfl).pull 1).pull 16
   obtain⟨a1,a2,hj⟩:=bd hj
   refine RL.sE [(vp ae 0)] LJ [(vi j.A)] (aF (kO N (p0:=j.A) o a2) ?_)
   rintro _ w ⟨rfl,o⟩
   refine mv (vb a1) (iA hj (fun ak hj=>?_) fun ak hj=>?_)
   rotate_left
   ·refine cH ak (cH ak (cH ak (cH ak (iF ak (vb false) (aT (vb false) (RL.nil ?_))))))
    obtain rfl:=oi hj
    exact⟨rfl,o.sp 18 [1,3,4,5,6,7,8,9,10,11,12,13,14,15,0,17]⟩
   refine RL.move (.func (.func 59) #[] #[(vp ae 0)]) (cg ak) (RL.bO (hg:=(cg ak)) zr Cn (RL.aR (hg:=(cg ak)) 17 o zr ux cW ?_))
   have o:=((o.dup 8 rfl).pull 2).pull 2
   obtain⟨ay,a3,hj⟩:=bd hj
   refine RL.sE (hg:=(cg ak)) [(vp ae 0)] LJ [(vi j.B)] (aF (kO N (p0:=j.B) o a3) ?_)
   rintro _ w ⟨rfl,o⟩
   refine iF ak (vb ay) (aT (vb ay) (RL.nil ?_))
   obtain rfl:=oi hj
   exact⟨rfl,o.sp 20 [1,5,6,7,8,9,10,11,12,13,14,15,16,17,0,19]⟩
  rintro _ w ⟨O,rfl,o⟩
  refine aG (RC.seq (RC.sr (RL.bO zr vG (RL.aR 15 o zr n9 yk (RL.nt ?_)))))
  obtain⟨ar,hj,hb⟩:=bd hb
  refine RC.jn (fun(ar:Bool)=>SH E V [(0,vp b0 0),(1,v1),(2,vp ae 0),(5,(.func (.func 59) #[] #[(vp ae 0)])),(6,vi ag),(7,vp ad 0),(8,vb ar),(13,v1),(14,vi p1.length),(15,vi ag)] [bc 126 b0 [v0_0,v0_1,v0_2,v0_3,v0_4,v0_5,v0_6,v0_7,v0_8,v0_9,v0_10,v0_11],rd v0_0 p0_0,rd v0_1 p0_1,rd v0_2 p0_2,rd v0_3 p0_3,rd v0_4 p0_4,rd v0_5 p0_5,rd v0_6 p0_6,rd v0_7 p0_7,rd v0_8 p0_8,rd v0_9 p0_9,rd v0_10 p0_10,rd v0_11 p0_11,rd v1 p1,bc 68 ae [(vp b0 0)],bx 43 ad j]) ar ?_ ?_
  ·refine fK hj (fun hc hj=>?_) fun hc hj=>?_
   rotate_left
   ·refine RC.skip ?_
    obtain rfl:=oi hj
    exact⟨rfl,o.sp 16 [0,1,2,3,4,5,6,7,8,9,10,11,12,13,14,15]⟩
   refine RC.region (mv (.func (.func 59) #[] #[(vp ae 0)]) (RL.bO zr xN (RL.bO zr vC (RL.aR (f:=(fun x=>x.fJ.Number)) 15 o zr (Fd.comp (f:=fun(x:lK)=>x.fJ) (fun(x:fJ)=>x.Number) pD pM) cW ?_))))
   have o:=((o.dup 6 rfl).pull 1).pull 16
   obtain⟨a4,a5,hj⟩:=bd hj
   refine RL.sE [(vp ae 0)] LJ [(vi j.fJ.Number)] (aF (kO N (p0:=j.fJ.Number) o a5) ?_)
   rintro _ w ⟨rfl,o⟩
   refine aT (vb a4) (RL.nil ?_)
   obtain rfl:=oi hj
   exact⟨rfl,o.sp 18 [1,3,4,5,6,7,8,9,10,11,12,13,14,15,0,17]⟩
  rintro _ w ⟨O,rfl,o⟩
  refine aG (RC.seq (RC.sr (RL.bO rfl vG (RL.aR 15 o rfl n9 yk (mv (vb j.Open) (RL.gs true j.Open (vp ad 1) rfl rfl rfl (eO xN) (RL.gs true j.Open (vp ad 1) rfl rfl rfl (eO (hx:=fun h=>by exact(dG h:cv (true&&(j.Open==true)) (vp ad 1)= (vp ad 1))) EY) (RL.gs true j.Open (vb j.fJ.cD) rfl rfl rfl (cG (f:=(fun x=>x.fJ.cD)) 15 rfl o (fun h=>by exact(dG h:cv (true&&(j.Open==true)) (vp ad 1)= (vp ad 1))) rfl (Fd.comp (f:=fun(x:lK)=>x.fJ) (fun(x:fJ)=>x.cD) pD zu) yk) ?_))))))))
  refine RL.pick j.Open (vb (j.Open&&j.fJ.cD)) (kg true) (RL.nt ?_)
  obtain⟨al,hj,hb⟩:=bd hb
  refine RC.jn (fun(al:Bool)=>SH E V [(0,vp b0 0),(1,v1),(2,vp ae 0),(5,(.func (.func 59) #[] #[(vp ae 0)])),(6,vi ag),(7,vp ad 0),(8,vb al),(13,v1),(14,vi p1.length),(15,vi ag)] [bc 126 b0 [v0_0,v0_1,v0_2,v0_3,v0_4,v0_5,v0_6,v0_7,v0_8,v0_9,v0_10,v0_11],rd v0_0 p0_0,rd v0_1 p0_1,rd v0_2 p0_2,rd v0_3 p0_3,rd v0_4 p0_4,rd v0_5 p0_5,rd v0_6 p0_6,rd v0_7 p0_7,rd v0_8 p0_8,rd v0_9 p0_9,rd v0_10 p0_10,rd v0_11 p0_11,rd v1 p1,bc 68 ae [(vp b0 0)],bx 43 ad j]) al ?_ ?_
  ·refine fK hj (fun hc hj=>?_) fun hc hj=>?_
   rotate_left
   ·refine RC.skip ?_
    obtain rfl:=oi hj
    exact⟨rfl,o.sp 16 [0,1,2,3,4,5,6,7,8,9,10,11,12,13,14,15]⟩
   obtain⟨au,hjj,hj⟩:=bd hj
   refine RC.jn (fun(au:Bool)=>SH E V [(0,vp b0 0),(1,v1),(2,vp ae 0),(5,(.func (.func 59) #[] #[(vp ae 0)])),(6,vi ag),(7,vp ad 0),(8,vb au),(13,v1),(14,vi p1.length),(15,vi ag)] [bc 126 b0 [v0_0,v0_1,v0_2,v0_3,v0_4,v0_5,v0_6,v0_7,v0_8,v0_9,v0_10,v0_11],rd v0_0 p0_0,rd v0_1 p0_1,rd v0_2 p0_2,rd v0_3 p0_3,rd v0_4 p0_4,rd v0_5 p0_5,rd v0_6 p0_6,rd v0_7 p0_7,rd v0_8 p0_8,rd v0_9 p0_9,rd v0_10 p0_10,rd v0_11 p0_11,rd v1 p1,bc 68 ae [(vp b0 0)],bx 43 ad j]) au ?_ ?_
   ·refine RC.AE mixed [0,0,0,0,0,0,0,0,0,0,2,0,0,0,0,0,0,0,0,0,0,0,0,0,0] [0,1,2,3,4,5,6,7,8,9,10,11,12,13,14,15,16,17,18,19,20,21,22,23,24] ?_
    have o:=o.drew
    refine DP.e0 zr (RL.bO zr xN (cM zr (RL.bO zr vC (cM zr (RL.aR (f:=(fun x=>x.fJ.Number)) 15 o zr (Fd.comp (f:=fun(x:lK)=>x.fJ) (fun(x:fJ)=>x.Number) pD pM) cW (cM zr (RL.bS 14 (vp b0 0) o LH (cM zr ?_))))))))
    refine RL.nilCheck zr (cM zr (RL.bO zr mW (cM zr (RL.bO zr oc (cM zr (RL.bS 0 v0_2 o xK (cM zr (RL.bM 3 p0_2 o zw ?_))))))))
    refine cM zr (RL.ja (p0_2.length:Int) 1 (xt zr ?_))
    obtain⟨a6,a7,hjj⟩:=bd hjj
    refine RL.call zt zr Ik [(vi j.fJ.Number),(vi 0),(vi (IntKind.wrap .i64 ((p0_2.length:Int) - 1)))] zr (aF (kZ N (p0:=j.fJ.Number) (p1:=0) (p2:=(IntKind.wrap .i64 ((p0_2.length:Int) - 1))) o a7) ?_)
    rintro _ w ⟨rfl,o⟩
    refine B6 zr (mv (vb a6) (DP.d0 (iA hjj (fun af hjj=>?_) fun af hjj=>?_)))
    rotate_left
    ·refine DP.e0 zr (cH af (cM zr (cH af (cM zr (cH af (cM zr (cH af (cM zr ?_))))))))
     refine cH af (cM zr (cH af (cM zr (cH af (cM zr (cH af (cM zr (cH af ?_))))))))
     refine cM zr (cH af (cM zr (cH af (cM zr (iF af (vb false) (cM zr (aT (vb false) (DP.d0 ?_))))))))
     refine DP.z ?_
     obtain rfl:=oi hjj
     exact⟨rfl,o.sp 16 [0,1,2,3,4,5,6,7,8,9,10,11,12,13,14,15]⟩
    refine DP.e0 zr (RL.bS (hg:=(cg af)) 14 (vp b0 0) o LH (cM zr (RL.nilCheck (hg:=(cg af)) zr (cM zr (RL.bO (hg:=(cg af)) zr mW (cM zr (RL.bO (hg:=(cg af)) zr oc (cM zr ?_))))))))
    refine RL.bS (hg:=(cg af)) 0 v0_2 o xK (cM zr (RL.bO (hg:=(cg af)) zr xN (cM zr (RL.bO (hg:=(cg af)) zr vC (cM zr (RL.aR (hg:=(cg af)) (f:=(fun x=>x.fJ.Number)) 15 o zr (Fd.comp (f:=fun(x:lK)=>x.fJ) (fun(x:fJ)=>x.Number) pD pM) cW (cM zr ?_)))))))
    obtain⟨av,a8,hjj⟩:=bd hjj
    refine RL.cJ (hg:=(cg af)) 3 o Ce a8 fun bp o=>(cM zr (RL.iT (hg:=(cg af)) 0 o zr yT uv fun bq o=>(cM zr (RL.cB (hg:=(cg af)) av.iO 0 o yk (cM zr (iF af (vb av.iO) (cM zr (aT (vb av.iO) ?_))))))))
    refine DP.d0 (DP.z ?_)
    obtain rfl:=oi hjj
    exact⟨rfl,o.sp 18 [2,3,4,5,6,7,8,9,10,11,12,13,14,15,16,17]⟩
   rintro _ w ⟨O,rfl,o⟩
   obtain rfl:=oi hj
   exact⟨rfl,o.sp 16 [0,1,2,3,4,5,6,7,8,9,10,11,12,13,14,15]⟩
  rintro _ w ⟨O,rfl,o⟩
  refine aG (RC.bs (mv (vb al) (RL.not al (aT (vb (!al)) (RL.nt (fK hb (fun hc hb=>?_) fun hc hb=>?_))))))
  ·refine RC.sr (aT (vi 9) (RL.nt (RC.rb (kh (bZ ?_)))))
   obtain rfl:=oi hb
   exact⟨rfl,cK ⟨rfl,o.pk 16 [0]⟩⟩
  refine RC.sr (RL.bO rfl vG (RL.aR 15 o rfl n9 yk (RL.not j.Open (mv (vb (!j.Open)) (RL.gs true (!j.Open) (vp ad 4) rfl rfl rfl (eO Cn) (RL.gs true (!j.Open) (vi j.B) rfl rfl rfl (cG 15 rfl o (fun h=>by exact(dG h:cv (true&&((!j.Open)==true)) (vp ad 4)= (vp ad 4))) rfl ux cW) (RL.gs true (!j.Open) (vp ad 3) rfl rfl rfl (eO Cm) (RL.gs true (!j.Open) (vi j.A) rfl rfl rfl (cG 15 rfl o (fun h=>by exact(dG h:cv (true&&((!j.Open)==true)) (vp ad 3)= (vp ad 3))) rfl uw cW) ?_))))))))
  refine RL.gs true (!j.Open) (vb (decide (j.B<=j.A))) rfl rfl rfl (eN .leq .i64 j.B j.A rfl (fun h=>by exact(dG h:cv (true&&((!j.Open)==true)) (vi j.B)= (vi j.B))) (fun h=>by exact(dG h:cv (true&&((!j.Open)==true)) (vi j.A)= (vi j.A))) rfl) (RL.pick (!j.Open) (vb ((!j.Open)&&(decide (j.B<=j.A)))) (kg true) (aT (vb ((!j.Open)&&(decide (j.B<=j.A)))) (RL.nt (fK hb (fun hc hb=>?_) fun hc hb=>?_))))
  ·refine RC.sr (aT (vi 8) (RL.nt (RC.rb (kh (bZ ?_)))))
   obtain rfl:=oi hb
   exact⟨rfl,cK ⟨rfl,o.pk 16 [0]⟩⟩
  refine RC.seq (RC.AE mixed [0,0,0,0,2,0] [0,1,2,3,4,5] ?_)
  have o:=o.drew
  refine DP.e0 zr (mv v1 (cM zr (mv (vi ag) (cM zr ?_))))
  obtain⟨br,a9,hb⟩:=bd hb
  refine RL.cut (hl:= .inr ⟨rfl,zr⟩) 13 o Ir (.inl zr) a9 fun ba o=>(cM zr (RL.aV (f:=(fun x=>x)) 16 o zr Fd.self AM fun bb o=>(xt zr ?_)))
  obtain⟨bf,bg,hb⟩:=bd hb
  refine RL.call zt zr OY [ba,bb] zr (aF (rz N (i0:=1) (i1:=0) o zr zr bg) ?_)
  rintro _ w ⟨rfl,o⟩
  refine B6 zr (aT (vb bf) (DP.d0 (DP.z (aG (fK hb (fun hc hb=>?_) fun hc hb=>?_)))))
  rotate_left
  ·refine RC.skip (cA (cA (aG (RC.region (RL.inc hk hm (mv (vi ((ag+1:Nat):Int)) (RL.nil ?_)))))))
   obtain rfl:=oi hb
   exact⟨rfl,o.sp 18 [2,3,4,5,6,7,8,9,10,11,12,13,14,15,16]⟩
  refine RC.sr (aT (vi 7) (RL.nt (RC.rb (kh (bZ ?_)))))
  obtain rfl:=oi hb
  exact⟨rfl,cK ⟨rfl,o.pk 18 [2]⟩⟩
 ·intro r U w e hK
  subst e
  refine bZ ?_
  obtain rfl:=oi hb
  exact hK
 rintro an _ w rfl ⟨O,rfl,o⟩
 rw [Fo.gm] at hb
 refine aG (RC.sr (aT (vi 0) (RL.nt (RC.ret ?_))))
 obtain rfl:=oi hb
 exact cK ⟨rfl,o.pk 15 [0]⟩
theorem o8 {p0:fJ} (j:Holds E w V) (h0:V[i0]? =some (rd v0 p0)) (h1:V[i1]? =some (pt v1 p1)) (o:jd N p0 p1=some res):
    Calls bN 60 [v0,v1].toArray w (iE (aS E V res)):=by
 unfold jd at o
 refine enter Tryz.func60 zr zr ?_
 have j:=(j.dup (i0+0) h0).y7 (i:=i1+1) h1
 refine RC.sr (RL.dJ 1 v0 j zr fun ab w j=>?_)
 refine aT (vi 0) (RL.nq (RC.sr (RL.bO zr EY (RL.aR 0 j zr zu yk (RL.nt (fK o (fun hc o=>?_) fun hc o=>?_))))))
 rotate_left
 ·refine RC.sx (RL.bO zr vC (RL.aR 0 j zr pM cW (aT (vi p0.Number) (RL.nt (RC.ret ?_)))))
  obtain rfl:=oi o
  exact cK ⟨rfl,j.drop 3⟩
 refine RC.sr (RL.cB p1 1 j cW (RL.bO zr vC (RL.aR 0 j zr pM cW (RL.ja p1 p0.Number (aT (vi (IntKind.wrap .i64 (p1+p0.Number))) (RL.nt (RC.rt ?_)))))))
 obtain rfl:=oi o
 exact cK ⟨rfl,j.drop 3⟩
def vP (E:World) (V:List HP) (b2:Nat) (v2_0:Value) (p2_0: (List (Int×Bool))) (b3 b3h:Nat) (res: (List Int)) (v:Value) (w:World):Prop:=∃u3h_0:Value,v = .tuple #[]/\Holds E w ([bc 143 b2 [v2_0],mp v2_0 p2_0,bc 144 b3 [(vp b3h 0)],bc 176 b3h [u3h_0],own 3 u3h_0 res]++V)
theorem o9 {p2_0: (List (Int×Bool))} {p3h_0: (List Int)} {res: (List Int)} (j:Holds E w (bc 143 b2 [v2_0]::mp v2_0 p2_0::bc 144 b3 [(vp b3h 0)]::bc 176 b3h [v3h_0]::own 3 v3h_0 p3h_0::V)) (hb:ko N p0 p1 p2_0 p3h_0=some res):
    Calls bN 62 [(vi p0),(vi p1),(vp b2 0),(vp b3 0)].toArray w (iE (vP E V b2 v2_0 p2_0 b3 b3h res)):=by
 unfold ko at hb
 refine enter Tryz.func62 zr zr (RC.seq ?_)
 obtain⟨ae,o,hb⟩:=bd hb
 refine RC.jn (fun(ae:Bool)=>SH E V [(0,vi p0),(1,vi p1),(2,vp b2 0),(3,vp b3 0),(15,vb ae)] [bc 143 b2 [v2_0],mp v2_0 p2_0,bc 144 b3 [(vp b3h 0)],bc 176 b3h [v3h_0],own 3 v3h_0 p3h_0]) ae ?_ ?_
 ·refine RC.region (RL.bS 0 v2_0 j DN (mv (vi p0) (RL.q8 1 p0 zt j F6 (RL.not (eJ p2_0 p0 (false:Bool)) (mv (vb (!(eJ p2_0 p0 (false:Bool)))) (iA o (fun aa o=>?_) fun aa o=>?_))))))
  ·refine RL.bS (hg:=(cg aa)) 0 v2_0 j DN (RL.move (vi p1) (cg aa) (RL.q8 1 p1 (cg aa) j F6 (RL.not (hg:=(cg aa)) (eJ p2_0 p1 (false:Bool)) (iF aa (vb (!(eJ p2_0 p1 (false:Bool)))) (RL.nil ?_)))))
   obtain rfl:=oi o
   exact⟨rfl,j.sp 5 [0,1,2,3,4]⟩
  refine cH aa (cH aa (cH aa (cH aa (iF aa (vb false) (RL.nil ?_)))))
  obtain rfl:=oi o
  exact⟨rfl,j.sp 5 [0,1,2,3,4]⟩
 rintro _ w ⟨O,rfl,j⟩
 refine aG ?_
 obtain⟨af,o,hb⟩:=bd hb
 refine RC.jn (fun(af: (List Int)) U w=>∃ad:Value,SH E V [(2,vp b2 0),(3,vp b3 0)] [bc 143 b2 [v2_0],mp v2_0 p2_0,bc 144 b3 [(vp b3h 0)],bc 176 b3h [ad],own 3 ad af] U w) af ?_ ?_
 ·refine fK o (fun hc o=>?_) fun hc o=>?_
  rotate_left
  ·refine RC.skip ?_
   obtain rfl:=oi o
   exact⟨rfl,v3h_0,j.sp 5 [0,1,2,3,4]⟩
  refine RC.region (RL.bS 2 (vp b3h 0) j DO (mv (vi p0) (mv (vi p1) ?_)))
  have j:=(j.pull 4).pull 4
  obtain⟨aj,ah,o⟩:=bd o
  refine RL.call zt zr M5 [(vp b3h 0),(vi p0),(vi p1)] zr (aF (nU N (p1:=p0) (p2:=p1) j ah) ?_)
  rintro _ w ⟨ai,rfl,j⟩
  refine RL.nil ?_
  obtain rfl:=oi o
  exact⟨rfl,ai,j.sp 7 [2,3,4,0,1]⟩
 rintro _ w ⟨ad,O,rfl,j⟩
 obtain rfl:=oi hb
 refine C1 ?_
 exact Jz zr ⟨ad,zr,j.pk 5 [0,1,2,3,4]⟩
end Go.Gk
namespace Go.Gk
open Go Go.Proofs
variable (N:Nat) {E w:World} {i0 i1:Nat} {p2 p3:Int} {v0 v1:Value} {V:List HP}
theorem zH {p0:fz} {p1: (List Test)} {res: (List Touch)×Int} (j:Holds E w V) (h0:V[i0]? =some (rd v0 p0)) (h1:V[i1]? =some (rd v1 p1)) (hb:lU N p0 p1 p2 p3=some res):
    Calls bN 22 [v0,v1,(vi p2),(vi p3)].toArray w (iE (vj E V res)):=by
 unfold lU at hb
 refine enter Tryz.func22 zr zr ?_
 have j:=(j.dup (i0+0) h0).dup (i1+1) h1
 refine RC.sr (RL.dJ 1 v0 j zr fun ak w j=>?_)
 refine aT (.slice none 0 0) (aT (vi 0) (RL.nq (RC.sr (RL.aV (f:=(fun x=>x)) 0 j zr Fd.self mx fun cu j=>(mv v1 (mv (vi p2) (mv (vi p3) ?_)))))))
 obtain⟨b4,cv,hb⟩:=bd hb
 refine RL.call zt zr LD [cu,v1,(vi p2),(vi p3)] zr (aF (mG N (p2:=p2) (p3:=p3) (i0:=0) (i1:=2) j zr zr cv) ?_)
 rintro _ w ⟨rfl,j⟩
 refine aT (vi b4) (RL.ns (mv (vi b4) (ic b4 0 (RL.nt (fK hb (fun hc hb=>?_) fun hc hb=>?_)))))
 ·refine RC.sr (mv (vi b4) (aT (.slice none 0 0) (aT (vi b4) (RL.nt (RC.rt ?_)))))
  obtain rfl:=oi hb
  have j:=j.eC Touch 66
  exact kC ⟨(.slice none 0 0),zr,j.pk 5 [0]⟩
 refine RC.sx ?_
 have j:=(j.sc Bool false).sc Bool true
 refine RL.fR ([false,true]: (List Bool)) j [(vb false),(vb true)] GS PL (fun M hs g=>⟨(g.sat 1 _ zr).1,⟨(g.sat 0 _ zr).1,zt⟩⟩) fun a2 w j=>(aT a2 (RL.ns (mv v1 (RL.bM 5 p1 j vD (RL.ja (p1.length:Int) 1 ?_)))))
 obtain⟨d9,cw,hb⟩:=bd hb
 refine RL.mk (IntKind.wrap .i64 ((p1.length:Int)+1)) j OR Ni cw fun ah w j=>?_
 refine aT ah (RL.nq (RC.sr (mv v1 (RL.bM 6 p1 j vD (RL.ja (p1.length:Int) 1 (aT (vi (IntKind.wrap .i64 ((p1.length:Int) - 1))) (RL.nt ?_)))))))
 obtain⟨ea,hN,hb⟩:=bd hb
 refine RC.iter (fun(ag: (List cE)×Int)=>SH E V [(1,v1),(2,vi p2),(3,vi p3),(4,vp ak 0),(11,a2),(12,ah),(13,vi ag.2)] [rd v1 p1,bx 27 ak p0,own 4 a2 ([false,true]: (List Bool)),own 103 ah ag.1]) (fun(ag: (List cE)×Int)=>SH E V [(1,v1),(2,vi p2),(3,vi p3),(4,vp ak 0),(12,ah)] [rd v1 p1,bx 27 ak p0,own 4 a2 ([false,true]: (List Bool)),own 103 ah ag.1]) (fun(r:Empty) _ _=>r.elim) hN ?_ ?_ ?_ ?_
 ·exact j.sp 8 [6,5,1,0]
 ·rintro ag fl _ w ⟨O,rfl,j⟩ hb
  refine RC.seq (RC.sr (mv (vi ag.2) (ic ag.2 0 (RL.nt (fK hb (fun hc hb=>?_) fun hc hb=>?_)))))
  rotate_left
  ·refine RC.ex ?_
   obtain rfl:=oi hb
   exact⟨rfl,j.sp 4 [0,1,2,3]⟩
  refine RC.ss (RC.bs (mv a2 (RL.gK 2 ([false,true]: (List Bool)) j OS (mv (vi 0) (RL.nt ?_)))))
  obtain⟨bq,hN,hb⟩:=bd hb
  refine RC.fold (fun(bk:Nat) (bq: (List cE))=>SH E V [(1,v1),(2,vi p2),(3,vi p3),(4,vp ak 0),(11,a2),(12,ah),(13,vi ag.2),(47,a2),(48,(vi ((([false,true]: (List Bool)).length:Nat):Int))),(49,vi bk)] [rd v1 p1,bx 27 ak p0,own 4 a2 ([false,true]: (List Bool)),own 103 ah bq]) (fun(bq: (List cE))=>SH E V [(1,v1),(2,vi p2),(3,vi p3),(4,vp ak 0),(11,a2),(12,ah),(13,vi ag.2)] [rd v1 p1,bx 27 ak p0,own 4 a2 ([false,true]: (List Bool)),own 103 ah bq]) hN ?_ ?_ ?_ ?_
  ·exact j.sp 4 [0,1,2,3]
  ·rintro hm bq _ w ⟨O,rfl,j⟩
   refine RC.sr (ic (((([false,true]: (List Bool)).length:Nat):Int)) (((([false,true]: (List Bool)).length:Nat):Int)) (RL.nq (RC.dC oE (RC.ex ?_))))
   exact⟨rfl,j.sp 4 [0,1,2,3]⟩
  ·rintro hm bk bq s' _ w hk ⟨O,rfl,j⟩ hb
   refine RC.sr (ic ((bk:Int)) (((([false,true]: (List Bool)).length:Nat):Int)) (RL.nq (RC.dB (oD hk) (RC.ss (RC.bs (mv (vi bk) ?_))))))
   obtain⟨b8,cj,hb⟩:=bd hb
   refine RL.bU 2 j zr zr GS cj (RL.dE (f:=(fun x=>x)) 2 j (jy 2 j cj 0) (bC cj).2.1 Fd.self yk (aT (vi bk) (aT (vb b8) (RL.nq ?_))))
   obtain⟨bw,cx,hb⟩:=bd hb
   obtain⟨bp,cy,hb⟩:=bd hb
   refine RC.BX E V mixed [0,1,1,1,0,0,1,0,0,0] [0,4,5,7,8,9] (fun(x:Value×Value×Value×Value×Nat)=>(fun a3 a6 a4 a7 ay=>[(0,54,a3),(1,55,v1),(2,56,(vi ag.2)),(3,57,(vi (IntKind.wrap .i64 (ag.2 - 1)))),(4,58,a6),(5,59,a4),(6,60,(vb b8)),(7,61,a7),(8,16,(vp ay 0))]) x.1 x.2.1 x.2.2.1 x.2.2.2.1 x.2.2.2.2) [(1,v1),(2,vi p2),(3,vi p3),(4,vp ak 0),(11,a2),(12,ah),(13,vi ag.2),(14,vi bk),(15,vb b8),(47,a2),(48,(vi ((([false,true]: (List Bool)).length:Nat):Int))),(49,vi bk)] [] (fun(D:Nat->Bool) (x:Value×Value×Value×Value×Nat)=>(fun a3 a6 a4 a7 ay=>[bif D 0 then (rd a3 p0) else aM,bif D 1 then (pt a6 bw) else aM,bif D 2 then (rd a4 bw) else aM,bif D 3 then (rd a7 bp) else aM,bif D 5 then (bx 100 ay bp) else (bif D 4 then (bx 100 ay (⟨(⟨0,0⟩:bH),(⟨0,0⟩:bH)⟩:aX)) else aM),rd v1 p1,bx 27 ak p0,own 4 a2 ([false,true]: (List Bool)),own 103 ah bq]) x.1 x.2.1 x.2.2.1 x.2.2.2.1 x.2.2.2.2) (fun x=>by kernel_rfl) ?_ ⟨?_,fun _=>g8 gn,fun _=>g8 gn,fun _=>BZ gn,?_,?_,fun _=>g8 gn,?_,?_,?_,trivial⟩ ?_
   ·have j:=(((((j.drew).aM).aM).aM).aM).aM
    exact⟨(undef,undef,undef,undef,0),eD.none,(AF zr),zt,j⟩
   ·rintro D U w hD aa af ⟨⟨a3,a6,a4,a7,ay⟩,hv,o,_,j⟩
    obtain⟨O,rfl⟩:=(ac (o.at 3 rfl) az).dH
    have j:=j.bK 0 hD
    refine RL.aV (f:=(fun x=>x)) 6 j zr Fd.self mx fun cz j=>?_
    have j:=(j.pl 10 [0,2,3,4,5,6,7,8,9]).bF 0 true rfl aM
    exact RL.nil ⟨rfl,(cz,a6,a4,a7,ay),hv.pu 0,o.u,zt,j⟩
   ·rintro D U w hD aa af ⟨⟨a3,a6,a4,a7,ay⟩,hv,o,_,j⟩
    obtain⟨O,rfl⟩:=(ac (hv.at 1 rfl (aa.1 rfl)) (ac (hv.at 3 rfl (aa.2.1 rfl)) az)).dH
    have j:=j.bK 1 hD
    refine RL.cJ 5 j AL cx fun c0 j=>?_
    have j:=(j.pl 10 [1,0,3,4,5,6,7,8,9]).bF 1 true rfl aM
    exact RL.nil ⟨rfl,(a3,c0,a4,a7,ay),hv.pu 4,o.u,zt,j⟩
   ·rintro D U w hD aa af ⟨⟨a3,a6,a4,a7,ay⟩,hv,o,_,j⟩
    obtain⟨O,rfl⟩:=(ac (hv.at 4 rfl (aa.1 rfl)) az).dH
    have j:=(j.bE 1 (aa.1 rfl)).bK 2 hD
    refine RL.bY 1 bw j qO fun c1 j=>?_
    have j:=((j.pl 10 [1,2,0,4,5,6,7,8,9]).bF 1 (D 4) (aa.1 rfl) aM).bF 2 true rfl aM
    exact RL.nil ⟨rfl,(a3,a6,c1,a7,ay),hv.pu 5,o.u,zt,j⟩
   ·rintro D U w hD aa af ⟨⟨a3,a6,a4,a7,ay⟩,hv,o,_,j⟩
    obtain⟨O,rfl⟩:=(ac (hv.at 0 rfl (aa.1 rfl)) (ac (hv.at 5 rfl (aa.2.1 rfl)) (ac (hv.at 6 rfl (aa.2.2.1 rfl)) az))).dH
    have j:=((j.bE 0 (aa.1 rfl)).bE 2 (aa.2.1 rfl)).bK 3 hD
    refine RL.call zt zr Cl [a3,a4,(vb b8)] zr (aF (iq N (p2:=b8) (i0:=0) (i1:=2) j zr zr cy) ?_)
    rintro c2 w j
    have j:=(((j.pl 10 [1,2,3,0,5,6,7,8,9]).bF 0 (D 0) (aa.1 rfl) aM).bF 2 (D 5) (aa.2.1 rfl) aM).bF 3 true rfl aM
    exact RL.nil ⟨rfl,(a3,a6,a4,c2,ay),hv.pu 7,o.u,zt,j⟩
   ·rintro D U w hD aa af ⟨⟨a3,a6,a4,a7,ay⟩,hv,o,_,j⟩
    obtain⟨O,rfl⟩:=(az (U:=U)).dH
    have j:=(j.bK 4 (nh af hD 9)).bK 4 hD
    refine RL.jN j DM fun cl w j=>?_
    have j:=j.mK (i:=0) (x:=(⟨(⟨0,0⟩:bH),(⟨0,0⟩:bH)⟩:aX)) rfl (fun M hs g=>⟨[(vi 0),(vi 0)],[(vi 0),(vi 0)],rfl,⟨[(vi 0)],[(vi 0)],rfl,rfl,rfl⟩,⟨[(vi 0)],[(vi 0)],rfl,rfl,rfl⟩⟩)
    have j:=((j.pl 10 [1,2,3,4,0,6,7,8,9]).bF 4 true rfl aM).fD 4 (D 9) (nh af hD 9) (bx 100 cl bp)
    exact RL.nil ⟨rfl,(a3,a6,a4,a7,cl),hv.pu 8,o.u,zt,j⟩
   ·rintro D U w hD aa af ⟨⟨a3,a6,a4,a7,ay⟩,hv,o,_,j⟩
    obtain⟨O,rfl⟩:=(ac (hv.at 7 rfl (aa.2.1 rfl)) (ac (hv.at 8 rfl (aa.1 rfl)) az)).dH
    have j:=((j.bE 3 (aa.2.1 rfl)).bK 4 hD).bE 4 (aa.1 rfl)
    refine RL.kU 4 j 3 zr nT fun w j=>?_
    have j:=(j.bF 3 (D 7) (aa.2.1 rfl) aM).bF 4 true rfl (bif D 8 then (bx 100 ay (⟨(⟨0,0⟩:bH),(⟨0,0⟩:bH)⟩:aX)) else aM)
    exact RL.nil ⟨rfl,(a3,a6,a4,a7,ay),hv.n1,o,zt,j⟩
   rintro D U w ai ⟨⟨a3,a6,a4,a7,ay⟩,hv,o,_,j⟩
   have j:=((((j.bE 0 (gq ai 0)).bE 1 (gq ai 4)).bE 2 (gq ai 5)).bE 3 (gq ai 7)).bE 4 (gq ai 9)
   obtain⟨O,rfl⟩:=(ac (hv.at 8 rfl (gq ai 8)) (ac (o.at 0 rfl) (ac (o.at 1 rfl) (ac (o.at 2 rfl) (ac (o.at 3 rfl) (ac (o.at 4 rfl) (ac (o.at 5 rfl) (ac (o.at 6 rfl) (ac (o.at 7 rfl) (ac (o.at 8 rfl) (ac (o.at 9 rfl) (ac (o.at 10 rfl) (ac (o.at 11 rfl) az))))))))))))).dH
   refine aG (RC.seq ?_)
   obtain⟨b9,c3,hb⟩:=bd hb
   obtain⟨cm,c4,hb⟩:=bd hb
   obtain⟨bt,c5,hb⟩:=bd hb
   obtain⟨bu,cb,hb⟩:=bd hb
   refine RC.BX E V mixed [0,0,1,1,0,0,0,1,0,1,1,1,0,0,0,1,1] [0,1,4,5,6] (fun(x:Value×Value×Value×Value×Value)=>(fun al an ar ao aq=>[(0,62,al),(1,63,an),(2,64,v1),(3,65,(vi ag.2)),(4,66,ar),(5,67,ao),(6,68,aq),(7,69,(vi p2)),(8,70,(vi bt)),(9,71,ah),(10,72,(vi ag.2)),(11,73,(vi (IntKind.wrap .i64 (ag.2+1)))),(12,74,(v8 ah (Int.toNat (IntKind.wrap .i64 (ag.2+1))) 2 0)),(13,75,(v8 ah (Int.toNat (IntKind.wrap .i64 (ag.2+1))) 2 0)),(14,76,(vi bu.e0)),(15,77,(vi (IntKind.wrap .i64 (bt+bu.e0)))),(16,17,(vi (IntKind.wrap .i64 (bt+bu.e0))))]) x.1 x.2.1 x.2.2.1 x.2.2.2.1 x.2.2.2.2) [(1,v1),(2,vi p2),(3,vi p3),(4,vp ak 0),(11,a2),(12,ah),(13,vi ag.2),(14,vi bk),(16,vp ay 0),(47,a2),(48,(vi ((([false,true]: (List Bool)).length:Nat):Int))),(49,vi bk)] [] (fun(D:Nat->Bool) (x:Value×Value×Value×Value×Value)=>(fun al an ar ao aq=>[bif D 0 then (rd al bp) else aM,bif D 1 then (rd an p0) else aM,bif D 2 then (pt ar b9) else aM,bif D 3 then (rd ao b9) else aM,bif D 4 then (rd aq cm) else aM,rd a3 p0,pt a6 bw,rd a4 bw,rd a7 bp,bx 100 ay bp,rd v1 p1,bx 27 ak p0,own 4 a2 ([false,true]: (List Bool)),own 103 ah bq]) x.1 x.2.1 x.2.2.1 x.2.2.2.1 x.2.2.2.2) (fun x=>by kernel_rfl) ?_ ⟨?_,?_,fun _=>g8 gn,fun _=>g8 gn,?_,?_,?_,fun _=>g8 gn,?_,fun _=>g8 gn,fun _=>g8 gn,fun _=>BZ gn,?_,?_,?_,fun _=>BZ gn,fun _=>JP gn rfl,trivial⟩ ?_
   ·have j:=(((((j.drew).aM).aM).aM).aM).aM
    exact⟨(undef,undef,undef,undef,undef),eD.none,(AF zr),zt,j⟩
   ·rintro D U w hD aa af ⟨⟨al,an,ar,ao,aq⟩,hv,o,_,j⟩
    obtain⟨O,rfl⟩:=(ac (o.at 8 rfl) az).dH
    have j:=j.bK 0 hD
    refine RL.aV (f:=(fun x=>x)) 9 j zr Fd.self nT fun c6 j=>?_
    have j:=(j.pl 15 [0,2,3,4,5,6,7,8,9,10,11,12,13,14]).bF 0 true rfl aM
    exact RL.nil ⟨rfl,(c6,an,ar,ao,aq),hv.pu 0,o.u,zt,j⟩
   ·rintro D U w hD aa af ⟨⟨al,an,ar,ao,aq⟩,hv,o,_,j⟩
    obtain⟨O,rfl⟩:=(ac (o.at 3 rfl) az).dH
    have j:=j.bK 1 hD
    refine RL.aV (f:=(fun x=>x)) 11 j zr Fd.self mx fun c7 j=>?_
    have j:=(j.pl 15 [1,0,3,4,5,6,7,8,9,10,11,12,13,14]).bF 1 true rfl aM
    exact RL.nil ⟨rfl,(al,c7,ar,ao,aq),hv.pu 1,o.u,zt,j⟩
   ·rintro D U w hD aa af ⟨⟨al,an,ar,ao,aq⟩,hv,o,_,j⟩
    obtain⟨O,rfl⟩:=(ac (hv.at 2 rfl (aa.1 rfl)) (ac (hv.at 3 rfl (aa.2.1 rfl)) az)).dH
    have j:=j.bK 2 hD
    refine RL.cJ 10 j AL c3 fun c8 j=>?_
    have j:=(j.pl 15 [1,2,0,4,5,6,7,8,9,10,11,12,13,14]).bF 2 true rfl aM
    exact RL.nil ⟨rfl,(al,an,c8,ao,aq),hv.pu 4,o.u,zt,j⟩
   ·rintro D U w hD aa af ⟨⟨al,an,ar,ao,aq⟩,hv,o,_,j⟩
    obtain⟨O,rfl⟩:=(ac (hv.at 4 rfl (aa.1 rfl)) az).dH
    have j:=(j.bE 2 (aa.1 rfl)).bK 3 hD
    refine RL.bY 2 b9 j qO fun c9 j=>?_
    have j:=((j.pl 15 [1,2,3,0,5,6,7,8,9,10,11,12,13,14]).bF 2 (D 4) (aa.1 rfl) aM).bF 3 true rfl aM
    exact RL.nil ⟨rfl,(al,an,ar,c9,aq),hv.pu 5,o.u,zt,j⟩
   ·rintro D U w hD aa af ⟨⟨al,an,ar,ao,aq⟩,hv,o,_,j⟩
    obtain⟨O,rfl⟩:=(ac (hv.at 1 rfl (aa.1 rfl)) (ac (hv.at 5 rfl (aa.2.1 rfl)) az)).dH
    have j:=((j.bE 1 (aa.1 rfl)).bE 3 (aa.2.1 rfl)).bK 4 hD
    refine RL.call zt zr Cl [an,ao,(vb false)] zr (aF (iq N (p2:=false) (i0:=1) (i1:=3) j zr zr c4) ?_)
    rintro da w j
    have j:=(((j.pl 15 [1,2,3,4,0,6,7,8,9,10,11,12,13,14]).bF 1 (D 1) (aa.1 rfl) aM).bF 3 (D 5) (aa.2.1 rfl) aM).bF 4 true rfl aM
    exact RL.nil ⟨rfl,(al,an,ar,ao,da),hv.pu 6,o.u,zt,j⟩
   ·rintro D U w hD aa af ⟨⟨al,an,ar,ao,aq⟩,hv,o,_,j⟩
    obtain⟨O,rfl⟩:=(ac (hv.at 0 rfl (aa.1 rfl)) (ac (hv.at 6 rfl (aa.2.1 rfl)) (ac (hv.at 7 rfl (aa.2.2.1 rfl)) az))).dH
    have j:=(j.bE 0 (aa.1 rfl)).bE 4 (aa.2.1 rfl)
    refine RL.call zt zr GU [al,aq,(vi p2)] zr (aF (lu N (p2:=p2) (i0:=0) (i1:=4) j zr zr c5) ?_)
    rintro _ w ⟨rfl,j⟩
    have j:=(j.bF 0 (D 0) (aa.1 rfl) aM).bF 4 (D 6) (aa.2.1 rfl) aM
    exact RL.nil ⟨rfl,(al,an,ar,ao,aq),hv.pu 8,o.u,zt,j⟩
   ·rintro D U w hD aa af ⟨⟨al,an,ar,ao,aq⟩,hv,o,_,j⟩
    obtain⟨O,rfl⟩:=(ac (hv.at 9 rfl (aa.1 rfl)) (ac (hv.at 11 rfl (aa.2.1 rfl)) az)).dH
    refine RL.bU 13 j zr zr Il cb ?_
    exact RL.nil ⟨rfl,(al,an,ar,ao,aq),hv.pu 12,o.u,zt,j⟩
   ·rintro D U w hD aa af ⟨⟨al,an,ar,ao,aq⟩,hv,o,_,j⟩
    obtain⟨O,rfl⟩:=(ac (hv.at 12 rfl (aa.1 rfl)) az).dH
    refine RL.rU (α:=cE) (jy 13 j cb 0) F4 ?_
    exact RL.nil ⟨rfl,(al,an,ar,ao,aq),hv.pu 13,o.u,zt,j⟩
   ·rintro D U w hD aa af ⟨⟨al,an,ar,ao,aq⟩,hv,o,_,j⟩
    obtain⟨O,rfl⟩:=(ac (hv.at 13 rfl (aa.1 rfl)) az).dH
    refine RL.dE 13 j (jy 13 j cb 0) (bC cb).2.1 vg cW ?_
    exact RL.nil ⟨rfl,(al,an,ar,ao,aq),hv.pu 14,o.u,zt,j⟩
   rintro D U w ai ⟨⟨al,an,ar,ao,aq⟩,hv,o,_,j⟩
   have j:=((((j.bE 0 (gq ai 0)).bE 1 (gq ai 1)).bE 2 (gq ai 4)).bE 3 (gq ai 5)).bE 4 (gq ai 6)
   obtain⟨O,rfl⟩:=(ac (hv.at 16 rfl (gq ai 16)) (ac (o.at 0 rfl) (ac (o.at 1 rfl) (ac (o.at 2 rfl) (ac (o.at 3 rfl) (ac (o.at 4 rfl) (ac (o.at 5 rfl) (ac (o.at 6 rfl) (ac (o.at 7 rfl) (ac (o.at 8 rfl) (ac (o.at 9 rfl) (ac (o.at 10 rfl) (ac (o.at 11 rfl) az))))))))))))).dH
   refine aG (RC.seq ?_)
   obtain⟨ck,db,hb⟩:=bd hb
   obtain⟨dc,dd,hb⟩:=bd hb
   obtain⟨bz,de,hb⟩:=bd hb
   obtain⟨b0,cc,hb⟩:=bd hb
   refine RC.BX E V mixed [0,0,1,1,0,0,0,1,0,1,1,1,0,0,0,1,1] [0,1,4,5,6] (fun(x:Value×Value×Value×Value×Value)=>(fun au av a0 aw ax=>[(0,78,au),(1,79,av),(2,80,v1),(3,81,(vi ag.2)),(4,82,a0),(5,83,aw),(6,84,ax),(7,85,(vi p2)),(8,86,(vi bz)),(9,87,ah),(10,88,(vi ag.2)),(11,89,(vi (IntKind.wrap .i64 (ag.2+1)))),(12,90,(v8 ah (Int.toNat (IntKind.wrap .i64 (ag.2+1))) 2 0)),(13,91,(v8 ah (Int.toNat (IntKind.wrap .i64 (ag.2+1))) 2 1)),(14,92,(vi b0.e1)),(15,93,(vi (IntKind.wrap .i64 (bz+b0.e1)))),(16,18,(vi (IntKind.wrap .i64 (bz+b0.e1))))]) x.1 x.2.1 x.2.2.1 x.2.2.2.1 x.2.2.2.2) [(1,v1),(2,vi p2),(3,vi p3),(4,vp ak 0),(11,a2),(12,ah),(13,vi ag.2),(14,vi bk),(16,vp ay 0),(17,(vi (IntKind.wrap .i64 (bt+bu.e0)))),(47,a2),(48,(vi ((([false,true]: (List Bool)).length:Nat):Int))),(49,vi bk)] [] (fun(D:Nat->Bool) (x:Value×Value×Value×Value×Value)=>(fun au av a0 aw ax=>[bif D 0 then (rd au bp) else aM,bif D 1 then (rd av p0) else aM,bif D 2 then (pt a0 ck) else aM,bif D 3 then (rd aw ck) else aM,bif D 4 then (rd ax dc) else aM,rd al bp,rd an p0,pt ar b9,rd ao b9,rd aq cm,rd a3 p0,pt a6 bw,rd a4 bw,rd a7 bp,bx 100 ay bp,rd v1 p1,bx 27 ak p0,own 4 a2 ([false,true]: (List Bool)),own 103 ah bq]) x.1 x.2.1 x.2.2.1 x.2.2.2.1 x.2.2.2.2) (fun x=>by kernel_rfl) ?_ ⟨?_,?_,fun _=>g8 gn,fun _=>g8 gn,?_,?_,?_,fun _=>g8 gn,?_,fun _=>g8 gn,fun _=>g8 gn,fun _=>BZ gn,?_,?_,?_,fun _=>BZ gn,fun _=>JP gn rfl,trivial⟩ ?_
   ·have j:=(((((j.drew).aM).aM).aM).aM).aM
    exact⟨(undef,undef,undef,undef,undef),eD.none,(AF zr),zt,j⟩
   ·rintro D U w hD aa af ⟨⟨au,av,a0,aw,ax⟩,hv,o,_,j⟩
    obtain⟨O,rfl⟩:=(ac (o.at 8 rfl) az).dH
    have j:=j.bK 0 hD
    refine RL.aV (f:=(fun x=>x)) 14 j zr Fd.self nT fun df j=>?_
    have j:=(j.pl 20 [0,2,3,4,5,6,7,8,9,10,11,12,13,14,15,16,17,18,19]).bF 0 true rfl aM
    exact RL.nil ⟨rfl,(df,av,a0,aw,ax),hv.pu 0,o.u,zt,j⟩
   ·rintro D U w hD aa af ⟨⟨au,av,a0,aw,ax⟩,hv,o,_,j⟩
    obtain⟨O,rfl⟩:=(ac (o.at 3 rfl) az).dH
    have j:=j.bK 1 hD
    refine RL.aV (f:=(fun x=>x)) 16 j zr Fd.self mx fun dg j=>?_
    have j:=(j.pl 20 [1,0,3,4,5,6,7,8,9,10,11,12,13,14,15,16,17,18,19]).bF 1 true rfl aM
    exact RL.nil ⟨rfl,(au,dg,a0,aw,ax),hv.pu 1,o.u,zt,j⟩
   ·rintro D U w hD aa af ⟨⟨au,av,a0,aw,ax⟩,hv,o,_,j⟩
    obtain⟨O,rfl⟩:=(ac (hv.at 2 rfl (aa.1 rfl)) (ac (hv.at 3 rfl (aa.2.1 rfl)) az)).dH
    have j:=j.bK 2 hD
    refine RL.cJ 15 j AL db fun dh j=>?_
    have j:=(j.pl 20 [1,2,0,4,5,6,7,8,9,10,11,12,13,14,15,16,17,18,19]).bF 2 true rfl aM
    exact RL.nil ⟨rfl,(au,av,dh,aw,ax),hv.pu 4,o.u,zt,j⟩
   ·rintro D U w hD aa af ⟨⟨au,av,a0,aw,ax⟩,hv,o,_,j⟩
    obtain⟨O,rfl⟩:=(ac (hv.at 4 rfl (aa.1 rfl)) az).dH
    have j:=(j.bE 2 (aa.1 rfl)).bK 3 hD
    refine RL.bY 2 ck j qO fun di j=>?_
    have j:=((j.pl 20 [1,2,3,0,5,6,7,8,9,10,11,12,13,14,15,16,17,18,19]).bF 2 (D 4) (aa.1 rfl) aM).bF 3 true rfl aM
    exact RL.nil ⟨rfl,(au,av,a0,di,ax),hv.pu 5,o.u,zt,j⟩
   ·rintro D U w hD aa af ⟨⟨au,av,a0,aw,ax⟩,hv,o,_,j⟩
    obtain⟨O,rfl⟩:=(ac (hv.at 1 rfl (aa.1 rfl)) (ac (hv.at 5 rfl (aa.2.1 rfl)) az)).dH
    have j:=((j.bE 1 (aa.1 rfl)).bE 3 (aa.2.1 rfl)).bK 4 hD
    refine RL.call zt zr Cl [av,aw,(vb true)] zr (aF (iq N (p2:=true) (i0:=1) (i1:=3) j zr zr dd) ?_)
    rintro dj w j
    have j:=(((j.pl 20 [1,2,3,4,0,6,7,8,9,10,11,12,13,14,15,16,17,18,19]).bF 1 (D 1) (aa.1 rfl) aM).bF 3 (D 5) (aa.2.1 rfl) aM).bF 4 true rfl aM
    exact RL.nil ⟨rfl,(au,av,a0,aw,dj),hv.pu 6,o.u,zt,j⟩
   ·rintro D U w hD aa af ⟨⟨au,av,a0,aw,ax⟩,hv,o,_,j⟩
    obtain⟨O,rfl⟩:=(ac (hv.at 0 rfl (aa.1 rfl)) (ac (hv.at 6 rfl (aa.2.1 rfl)) (ac (hv.at 7 rfl (aa.2.2.1 rfl)) az))).dH
    have j:=(j.bE 0 (aa.1 rfl)).bE 4 (aa.2.1 rfl)
    refine RL.call zt zr GU [au,ax,(vi p2)] zr (aF (lu N (p2:=p2) (i0:=0) (i1:=4) j zr zr de) ?_)
    rintro _ w ⟨rfl,j⟩
    have j:=(j.bF 0 (D 0) (aa.1 rfl) aM).bF 4 (D 6) (aa.2.1 rfl) aM
    exact RL.nil ⟨rfl,(au,av,a0,aw,ax),hv.pu 8,o.u,zt,j⟩
   ·rintro D U w hD aa af ⟨⟨au,av,a0,aw,ax⟩,hv,o,_,j⟩
    obtain⟨O,rfl⟩:=(ac (hv.at 9 rfl (aa.1 rfl)) (ac (hv.at 11 rfl (aa.2.1 rfl)) az)).dH
    refine RL.bU 18 j zr zr Il cc ?_
    exact RL.nil ⟨rfl,(au,av,a0,aw,ax),hv.pu 12,o.u,zt,j⟩
   ·rintro D U w hD aa af ⟨⟨au,av,a0,aw,ax⟩,hv,o,_,j⟩
    obtain⟨O,rfl⟩:=(ac (hv.at 12 rfl (aa.1 rfl)) az).dH
    refine RL.rU (α:=cE) (jy 18 j cc 0) F5 ?_
    exact RL.nil ⟨rfl,(au,av,a0,aw,ax),hv.pu 13,o.u,zt,j⟩
   ·rintro D U w hD aa af ⟨⟨au,av,a0,aw,ax⟩,hv,o,_,j⟩
    obtain⟨O,rfl⟩:=(ac (hv.at 13 rfl (aa.1 rfl)) az).dH
    refine RL.dE 18 j (jy 18 j cc 1) (bC cc).2.1 vh cW ?_
    exact RL.nil ⟨rfl,(au,av,a0,aw,ax),hv.pu 14,o.u,zt,j⟩
   rintro D U w ai ⟨⟨au,av,a0,aw,ax⟩,hv,o,_,j⟩
   have j:=((((j.bE 0 (gq ai 0)).bE 1 (gq ai 1)).bE 2 (gq ai 4)).bE 3 (gq ai 5)).bE 4 (gq ai 6)
   obtain⟨O,rfl⟩:=(ac (hv.at 16 rfl (gq ai 16)) (ac (o.at 0 rfl) (ac (o.at 1 rfl) (ac (o.at 2 rfl) (ac (o.at 3 rfl) (ac (o.at 4 rfl) (ac (o.at 5 rfl) (ac (o.at 6 rfl) (ac (o.at 7 rfl) (ac (o.at 8 rfl) (ac (o.at 9 rfl) (ac (o.at 10 rfl) (ac (o.at 11 rfl) (ac (o.at 12 rfl) az)))))))))))))).dH
   refine aG (RC.region (mv ah (mv (vi ag.2) (mv (vi bk) (mv (vi (IntKind.wrap .i64 (bt+bu.e0))) (mv (vi (IntKind.wrap .i64 (bz+b0.e1))) (RL.min (IntKind.wrap .i64 (bt+bu.e0)) (IntKind.wrap .i64 (bz+b0.e1)) ?_)))))))
   obtain⟨ec,cd,hb⟩:=bd hb
   refine RL.bU 18 j zr zr Il cd ?_
   obtain⟨cf,dk,hb⟩:=bd hb
   refine RL.rU (α:=cE) (jy 18 j cd 0) (Im.at dk) ?_
   have j:=j.sc Int (if (IntKind.wrap .i64 (bz+b0.e1))< (IntKind.wrap .i64 (bt+bu.e0)) then (IntKind.wrap .i64 (bz+b0.e1)) else (IntKind.wrap .i64 (bt+bu.e0)))
   refine RL.fQ (hm:=Ca cf) (f:=(fun x y=>x.st cf y)) 19 0 j (jy 19 j cd (cf.val*1)) (bC cd).2.1 zr (B9 cf) cW fun w j=>?_
   refine RL.nil (cA (aG (RC.region (RL.inc hk hm (mv (vi ((bk+1:Nat):Int)) (RL.nil ?_))))))
   obtain rfl:=oi hb
   exact⟨rfl,j.sp 20 [16,17,18,19]⟩
  rintro _ w ⟨O,rfl,j⟩
  refine cA (aG (RC.region (mv (vi ag.2) (RL.ja ag.2 1 (aT (vi (IntKind.wrap .i64 (ag.2 - 1))) (RL.nil ?_))))))
  obtain rfl:=oi hb
  exact⟨rfl,j.sp 4 [0,1,2,3]⟩
 ·intro r _ _ _ _
  exact r.elim
 rintro ag _ w rfl ⟨O,rfl,j⟩
 rw [Fo.gm] at hb
 refine aG (RC.sr (aT (.slice none 0 0) (RL.ns (RL.jN j DM fun br w j=>?_))))
 have j:=j.mK (i:=0) (x:=(⟨(⟨0,0⟩:bH),(⟨0,0⟩:bH)⟩:aX)) rfl (fun M hs g=>⟨[(vi 0),(vi 0)],[(vi 0),(vi 0)],rfl,⟨[(vi 0)],[(vi 0)],rfl,rfl,rfl⟩,⟨[(vi 0)],[(vi 0)],rfl,rfl,rfl⟩⟩)
 refine RL.ns (aT (vi 0) (RL.nq (RC.sr (mv v1 (RL.bM 1 p1 j vD (mv (vi 0) (RL.nt ?_)))))))
 obtain⟨aj,hN,hb⟩:=bd hb
 refine RC.fold (fun(a1:Nat) (aj: (List Touch)×aX×Int) U w=>∃cn:Value,SH E V [(2,vi p2),(3,vi p3),(4,vp ak 0),(12,ah),(19,cn),(20,vp br 0),(21,vi aj.2.2),(103,v1),(104,vi p1.length),(105,vi a1)] [bx 27 ak p0,own 103 ah ag.1,bx 100 br aj.2.1,rd v1 p1,own 66 cn aj.1] U w) (fun(aj: (List Touch)×aX×Int) U w=>∃b2:Value,SH E V [(19,b2)] [bx 27 ak p0,own 103 ah ag.1,bx 100 br aj.2.1,rd v1 p1,own 66 b2 aj.1] U w) hN ?_ ?_ ?_ ?_
 ·have j:=j.eC Touch 66
  exact⟨(.slice none 0 0),j.sp 6 [3,5,1,2,0]⟩
 ·rintro hm aj _ w ⟨dm,O,rfl,j⟩
  refine RC.sr (ic ((p1.length:Int)) ((p1.length:Int)) (RL.nq (RC.dC oE (RC.ex ?_))))
  exact⟨rfl,dm,j.sp 5 [0,1,2,3,4]⟩
 ·rintro hm a1 aj s' _ w hk ⟨b1,O,rfl,j⟩ hb
  refine RC.sr (ic ((a1:Int)) ((p1.length:Int)) (RL.nq (RC.dB (oD hk) (RC.ss (RC.bs (mv (vi a1) ?_))))))
  obtain⟨bo,dn,hb⟩:=bd hb
  refine RL.cJ 3 j AL dn fun cp j=>(RL.bY 0 bo j qO fun cq j=>(RL.jN j Nl fun b3 w j=>?_))
  have j:=j.mK (i:=0) (x:=(⟨(⟨⟨[]⟩,⟨[]⟩⟩:fE),(⟨⟨[]⟩,⟨[]⟩⟩:fE),false⟩:Test)) rfl (fun M hs g=>⟨[(str ⟨[]⟩),(str ⟨[]⟩)],[(str ⟨[]⟩),(str ⟨[]⟩),(vb false)],rfl,⟨[(str ⟨[]⟩)],[(str ⟨[]⟩)],rfl,rfl,rfl⟩,⟨[(str ⟨[]⟩),(str ⟨[]⟩)],[(vb false)],rfl,⟨[(str ⟨[]⟩)],[(str ⟨[]⟩)],rfl,rfl,rfl⟩,rfl⟩⟩)
  refine aT (vi a1) (RL.kU 0 j 1 zr qO fun w j=>?_)
  refine RL.nq ?_
  obtain⟨cr,dp,hb⟩:=bd hb
  obtain⟨a8,dq,hb⟩:=bd hb
  refine RC.BX E V mixed [0,0,0,0,1,0,1] [0,1,2,3] (fun(x:Value×Value×Value×Value)=>(fun a9 ba bb bc=>[(0,110,a9),(1,111,ba),(2,112,bb),(3,113,bc),(4,114,(vi p2)),(5,115,(vi a8)),(6,24,(vi a8))]) x.1 x.2.1 x.2.2.1 x.2.2.2) [(2,vi p2),(3,vi p3),(4,vp ak 0),(12,ah),(19,b1),(20,vp br 0),(21,vi aj.2.2),(22,vi a1),(23,vp b3 0),(103,v1),(104,vi p1.length),(105,vi a1)] [] (fun(D:Nat->Bool) (x:Value×Value×Value×Value)=>(fun a9 ba bb bc=>[bif D 0 then (rd a9 aj.2.1) else aM,bif D 1 then (rd ba p0) else aM,bif D 2 then (rd bb bo) else aM,bif D 3 then (rd bc cr) else aM,bx 53 b3 bo,rd cq bo,pt cp bo,bx 27 ak p0,own 103 ah ag.1,bx 100 br aj.2.1,rd v1 p1,own 66 b1 aj.1]) x.1 x.2.1 x.2.2.1 x.2.2.2) (fun x=>by kernel_rfl) ?_ ⟨?_,?_,?_,?_,fun _=>g8 gn,?_,fun _=>JP gn rfl,trivial⟩ ?_
  ·have j:=((((j.drew).aM).aM).aM).aM
   exact⟨(undef,undef,undef,undef),eD.none,(AF zr),zt,j⟩
  ·rintro D U w hD aa af ⟨⟨a9,ba,bb,bc⟩,hv,o,_,j⟩
   obtain⟨O,rfl⟩:=(ac (o.at 5 rfl) az).dH
   have j:=j.bK 0 hD
   refine RL.aV (f:=(fun x=>x)) 9 j zr Fd.self nT fun dr j=>?_
   have j:=(j.pl 13 [0,2,3,4,5,6,7,8,9,10,11,12]).bF 0 true rfl aM
   exact RL.nil ⟨rfl,(dr,ba,bb,bc),hv.pu 0,o.u,zt,j⟩
  ·rintro D U w hD aa af ⟨⟨a9,ba,bb,bc⟩,hv,o,_,j⟩
   obtain⟨O,rfl⟩:=(ac (o.at 2 rfl) az).dH
   have j:=j.bK 1 hD
   refine RL.aV (f:=(fun x=>x)) 7 j zr Fd.self mx fun ds j=>?_
   have j:=(j.pl 13 [1,0,3,4,5,6,7,8,9,10,11,12]).bF 1 true rfl aM
   exact RL.nil ⟨rfl,(a9,ds,bb,bc),hv.pu 1,o.u,zt,j⟩
  ·rintro D U w hD aa af ⟨⟨a9,ba,bb,bc⟩,hv,o,_,j⟩
   obtain⟨O,rfl⟩:=(ac (o.at 8 rfl) az).dH
   have j:=j.bK 2 hD
   refine RL.aV (f:=(fun x=>x)) 4 j zr Fd.self qO fun dt j=>?_
   have j:=(j.pl 13 [1,2,0,4,5,6,7,8,9,10,11,12]).bF 2 true rfl aM
   exact RL.nil ⟨rfl,(a9,ba,dt,bc),hv.pu 2,o.u,zt,j⟩
  ·rintro D U w hD aa af ⟨⟨a9,ba,bb,bc⟩,hv,o,_,j⟩
   obtain⟨O,rfl⟩:=(ac (hv.at 1 rfl (aa.1 rfl)) (ac (hv.at 2 rfl (aa.2.1 rfl)) az)).dH
   have j:=((j.bE 1 (aa.1 rfl)).bE 2 (aa.2.1 rfl)).bK 3 hD
   refine RL.call zt zr Cl [ba,bb,(vb false)] zr (aF (iq N (p2:=false) (i0:=1) (i1:=2) j zr zr dp) ?_)
   rintro du w j
   have j:=(((j.pl 13 [1,2,3,0,5,6,7,8,9,10,11,12]).bF 1 (D 1) (aa.1 rfl) aM).bF 2 (D 2) (aa.2.1 rfl) aM).bF 3 true rfl aM
   exact RL.nil ⟨rfl,(a9,ba,bb,du),hv.pu 3,o.u,zt,j⟩
  ·rintro D U w hD aa af ⟨⟨a9,ba,bb,bc⟩,hv,o,_,j⟩
   obtain⟨O,rfl⟩:=(ac (hv.at 0 rfl (aa.1 rfl)) (ac (hv.at 3 rfl (aa.2.1 rfl)) (ac (hv.at 4 rfl (aa.2.2.1 rfl)) az))).dH
   have j:=(j.bE 0 (aa.1 rfl)).bE 3 (aa.2.1 rfl)
   refine RL.call zt zr GU [a9,bc,(vi p2)] zr (aF (lu N (p2:=p2) (i0:=0) (i1:=3) j zr zr dq) ?_)
   rintro _ w ⟨rfl,j⟩
   have j:=(j.bF 0 (D 0) (aa.1 rfl) aM).bF 3 (D 3) (aa.2.1 rfl) aM
   exact RL.nil ⟨rfl,(a9,ba,bb,bc),hv.pu 5,o.u,zt,j⟩
  rintro D U w ai ⟨⟨a9,ba,bb,bc⟩,hv,o,_,j⟩
  have j:=(((j.bE 0 (gq ai 0)).bE 1 (gq ai 1)).bE 2 (gq ai 2)).bE 3 (gq ai 3)
  obtain⟨O,rfl⟩:=(ac (hv.at 6 rfl (gq ai 6)) (ac (o.at 0 rfl) (ac (o.at 1 rfl) (ac (o.at 2 rfl) (ac (o.at 3 rfl) (ac (o.at 4 rfl) (ac (o.at 5 rfl) (ac (o.at 6 rfl) (ac (o.at 7 rfl) (ac (o.at 8 rfl) (ac (o.at 9 rfl) (ac (o.at 10 rfl) (ac (o.at 11 rfl) az))))))))))))).dH
  refine aG (RC.seq ?_)
  obtain⟨dv,dw,hb⟩:=bd hb
  obtain⟨a5,dx,hb⟩:=bd hb
  refine RC.BX E V mixed [0,0,0,0,1,0,1] [0,1,2,3] (fun(x:Value×Value×Value×Value)=>(fun bf bg bh bj=>[(0,116,bf),(1,117,bg),(2,118,bh),(3,119,bj),(4,120,(vi p2)),(5,121,(vi a5)),(6,25,(vi a5))]) x.1 x.2.1 x.2.2.1 x.2.2.2) [(2,vi p2),(3,vi p3),(4,vp ak 0),(12,ah),(19,b1),(20,vp br 0),(21,vi aj.2.2),(22,vi a1),(23,vp b3 0),(24,vi a8),(103,v1),(104,vi p1.length),(105,vi a1)] [] (fun(D:Nat->Bool) (x:Value×Value×Value×Value)=>(fun bf bg bh bj=>[bif D 0 then (rd bf aj.2.1) else aM,bif D 1 then (rd bg p0) else aM,bif D 2 then (rd bh bo) else aM,bif D 3 then (rd bj dv) else aM,rd a9 aj.2.1,rd ba p0,rd bb bo,rd bc cr,bx 53 b3 bo,rd cq bo,pt cp bo,bx 27 ak p0,own 103 ah ag.1,bx 100 br aj.2.1,rd v1 p1,own 66 b1 aj.1]) x.1 x.2.1 x.2.2.1 x.2.2.2) (fun x=>by kernel_rfl) ?_ ⟨?_,?_,?_,?_,fun _=>g8 gn,?_,fun _=>JP gn rfl,trivial⟩ ?_
  ·have j:=((((j.drew).aM).aM).aM).aM
   exact⟨(undef,undef,undef,undef),eD.none,(AF zr),zt,j⟩
  ·rintro D U w hD aa af ⟨⟨bf,bg,bh,bj⟩,hv,o,_,j⟩
   obtain⟨O,rfl⟩:=(ac (o.at 5 rfl) az).dH
   have j:=j.bK 0 hD
   refine RL.aV (f:=(fun x=>x)) 13 j zr Fd.self nT fun dy j=>?_
   have j:=(j.pl 17 [0,2,3,4,5,6,7,8,9,10,11,12,13,14,15,16]).bF 0 true rfl aM
   exact RL.nil ⟨rfl,(dy,bg,bh,bj),hv.pu 0,o.u,zt,j⟩
  ·rintro D U w hD aa af ⟨⟨bf,bg,bh,bj⟩,hv,o,_,j⟩
   obtain⟨O,rfl⟩:=(ac (o.at 2 rfl) az).dH
   have j:=j.bK 1 hD
   refine RL.aV (f:=(fun x=>x)) 11 j zr Fd.self mx fun dz j=>?_
   have j:=(j.pl 17 [1,0,3,4,5,6,7,8,9,10,11,12,13,14,15,16]).bF 1 true rfl aM
   exact RL.nil ⟨rfl,(bf,dz,bh,bj),hv.pu 1,o.u,zt,j⟩
  ·rintro D U w hD aa af ⟨⟨bf,bg,bh,bj⟩,hv,o,_,j⟩
   obtain⟨O,rfl⟩:=(ac (o.at 8 rfl) az).dH
   have j:=j.bK 2 hD
   refine RL.aV (f:=(fun x=>x)) 8 j zr Fd.self qO fun d0 j=>?_
   have j:=(j.pl 17 [1,2,0,4,5,6,7,8,9,10,11,12,13,14,15,16]).bF 2 true rfl aM
   exact RL.nil ⟨rfl,(bf,bg,d0,bj),hv.pu 2,o.u,zt,j⟩
  ·rintro D U w hD aa af ⟨⟨bf,bg,bh,bj⟩,hv,o,_,j⟩
   obtain⟨O,rfl⟩:=(ac (hv.at 1 rfl (aa.1 rfl)) (ac (hv.at 2 rfl (aa.2.1 rfl)) az)).dH
   have j:=((j.bE 1 (aa.1 rfl)).bE 2 (aa.2.1 rfl)).bK 3 hD
   refine RL.call zt zr Cl [bg,bh,(vb true)] zr (aF (iq N (p2:=true) (i0:=1) (i1:=2) j zr zr dw) ?_)
   rintro d3 w j
   have j:=(((j.pl 17 [1,2,3,0,5,6,7,8,9,10,11,12,13,14,15,16]).bF 1 (D 1) (aa.1 rfl) aM).bF 2 (D 2) (aa.2.1 rfl) aM).bF 3 true rfl aM
   exact RL.nil ⟨rfl,(bf,bg,bh,d3),hv.pu 3,o.u,zt,j⟩
  ·rintro D U w hD aa af ⟨⟨bf,bg,bh,bj⟩,hv,o,_,j⟩
   obtain⟨O,rfl⟩:=(ac (hv.at 0 rfl (aa.1 rfl)) (ac (hv.at 3 rfl (aa.2.1 rfl)) (ac (hv.at 4 rfl (aa.2.2.1 rfl)) az))).dH
   have j:=(j.bE 0 (aa.1 rfl)).bE 3 (aa.2.1 rfl)
   refine RL.call zt zr GU [bf,bj,(vi p2)] zr (aF (lu N (p2:=p2) (i0:=0) (i1:=3) j zr zr dx) ?_)
   rintro _ w ⟨rfl,j⟩
   have j:=(j.bF 0 (D 0) (aa.1 rfl) aM).bF 3 (D 3) (aa.2.1 rfl) aM
   exact RL.nil ⟨rfl,(bf,bg,bh,bj),hv.pu 5,o.u,zt,j⟩
  rintro D U w ai ⟨⟨bf,bg,bh,bj⟩,hv,o,_,j⟩
  have j:=(((j.bE 0 (gq ai 0)).bE 1 (gq ai 1)).bE 2 (gq ai 2)).bE 3 (gq ai 3)
  obtain⟨O,rfl⟩:=(ac (hv.at 6 rfl (gq ai 6)) (ac (o.at 0 rfl) (ac (o.at 1 rfl) (ac (o.at 2 rfl) (ac (o.at 3 rfl) (ac (o.at 4 rfl) (ac (o.at 5 rfl) (ac (o.at 6 rfl) (ac (o.at 7 rfl) (ac (o.at 8 rfl) (ac (o.at 9 rfl) (ac (o.at 10 rfl) (ac (o.at 11 rfl) (ac (o.at 12 rfl) az)))))))))))))).dH
  refine aG (RC.seq (RC.AA mixed ?_))
  have j:=j.drew
  refine RO.go (mv (vi a5) (RO.nx (mv ah (RO.nx (mv (vi a1) (RO.nx (RL.ja (a1:Int) 1 (RO.nx ?_))))))))
  obtain⟨bl,cg,hb⟩:=bd hb
  refine RL.bU 12 j zr zr Il cg (RO.nx (RL.rU (α:=cE) (jy 12 j cg 0) F5 (RO.nx (RL.dE 12 j (jy 12 j cg 1) (bC cg).2.1 vh cW (RO.nx (RL.ja a5 bl.e1 (RO.nx (mv (vi a8) ?_))))))))
  refine RO.nx (mv ah (RO.nx (mv (vi a1) (RO.nx (RL.ja (a1:Int) 1 (RO.nx ?_))))))
  obtain⟨bm,ch,hb⟩:=bd hb
  refine RL.bU 12 j zr zr Il ch (RO.nx (RL.rU (α:=cE) (jy 12 j ch 0) F4 (RO.nx (RL.dE 12 j (jy 12 j ch 0) (bC ch).2.1 vg cW (RO.nx (RL.ja a8 bm.e0 (RO.nx (ic ((IntKind.wrap .i64 (a5+bl.e1))) ((IntKind.wrap .i64 (a8+bm.e0))) ?_))))))))
  refine RO.nx (aT (vb (decide ((IntKind.wrap .i64 (a5+bl.e1))< (IntKind.wrap .i64 (a8+bm.e0))))) (RO.last (aG (RC.seq (RC.sr (mv (vb (decide ((IntKind.wrap .i64 (a5+bl.e1))< (IntKind.wrap .i64 (a8+bm.e0))))) (RL.nt ?_)))))))
  obtain⟨bn,hj,hb⟩:=bd hb
  refine RC.jn (fun(bn:Int)=>SH E V [(2,vi p2),(3,vi p3),(4,vp ak 0),(12,ah),(19,b1),(20,vp br 0),(21,vi aj.2.2),(22,vi a1),(23,vp b3 0),(24,vi bn),(26,(vb (decide ((IntKind.wrap .i64 (a5+bl.e1))< (IntKind.wrap .i64 (a8+bm.e0)))))),(103,v1),(104,vi p1.length),(105,vi a1)] [bx 27 ak p0,own 103 ah ag.1,own 66 b1 aj.1,bx 100 br aj.2.1,bx 53 b3 bo,rd v1 p1]) bn ?_ ?_
  ·refine fK hj (fun hc hj=>?_) fun hc hj=>?_
   rotate_left
   ·refine RC.skip ?_
    obtain rfl:=oi hj
    exact⟨rfl,j.sp 16 [11,12,15,13,8,14]⟩
   refine RC.region (mv (vi a5) (aT (vi a5) (RL.nil ?_)))
   obtain rfl:=oi hj
   exact⟨rfl,j.sp 16 [11,12,15,13,8,14]⟩
  rintro _ w ⟨O,rfl,j⟩
  refine aG (RC.sr (mv (vi aj.2.2) (mv (vi bn) (mv (vi p3) (RL.ja bn p3 (RL.ja aj.2.2 (IntKind.wrap .i64 (bn+p3)) (aT (vi (IntKind.wrap .i64 (aj.2.2+ (IntKind.wrap .i64 (bn+p3))))) (RL.ns ?_))))))))
  refine RL.aV (f:=(fun x=>x)) 0 j zr Fd.self mx fun d4 j=>(RL.aV (f:=(fun x=>x)) 5 j zr Fd.self qO fun d5 j=>(mv (vb (decide ((IntKind.wrap .i64 (a5+bl.e1))< (IntKind.wrap .i64 (a8+bm.e0))))) ?_))
  obtain⟨ed,d6,hb⟩:=bd hb
  refine RL.call zt zr Cl [d4,d5,(vb (decide ((IntKind.wrap .i64 (a5+bl.e1))< (IntKind.wrap .i64 (a8+bm.e0)))))] zr (aF (iq N (p2:=(decide ((IntKind.wrap .i64 (a5+bl.e1))< (IntKind.wrap .i64 (a8+bm.e0))))) (i0:=1) (i1:=0) j zr zr d6) ?_)
  rintro ee w j
  refine RL.kU 6 j 0 zr nT fun w j=>?_
  refine RL.nt (RC.region (mv b1 (mv (vi a1) (mv (vb (decide ((IntKind.wrap .i64 (a5+bl.e1))< (IntKind.wrap .i64 (a8+bm.e0))))) (mv (vi (IntKind.wrap .i64 (aj.2.2+ (IntKind.wrap .i64 (bn+p3))))) ?_)))))
  have j:=((j.sc Int (a1:Int)).sc Bool (decide ((IntKind.wrap .i64 (a5+bl.e1))< (IntKind.wrap .i64 (a8+bm.e0))))).sc Int (IntKind.wrap .i64 (aj.2.2+ (IntKind.wrap .i64 (bn+p3))))
  refine RL.build (⟨(a1:Int),(decide ((IntKind.wrap .i64 (a5+bl.e1))< (IntKind.wrap .i64 (a8+bm.e0)))),(IntKind.wrap .i64 (aj.2.2+ (IntKind.wrap .i64 (bn+p3))))⟩:Touch) trivial rfl j [(0,vi a1),(1,(vb (decide ((IntKind.wrap .i64 (a5+bl.e1))< (IntKind.wrap .i64 (a8+bm.e0)))))),(2,(vi (IntKind.wrap .i64 (aj.2.2+ (IntKind.wrap .i64 (bn+p3))))))] rfl Nm rfl (fun M hs g=>by have h:=FU M;exact dA.cons (f:=fun(x:Touch) y=>{x with Test:=y}) h zo (g.sat 2 _ rfl).1 fun _ h=>dA.cons (f:=fun(x:Touch) y=>{x with nW:=y}) h zp (g.sat 1 _ rfl).1 fun _ h=>dA.cons (f:=fun(x:Touch) y=>{x with qy:=y}) h zq (g.sat 0 _ rfl).1 fun _ h=>dA.nil h) fun d7 j=>?_
  refine RL.fR ([(⟨(a1:Int),(decide ((IntKind.wrap .i64 (a5+bl.e1))< (IntKind.wrap .i64 (a8+bm.e0)))),(IntKind.wrap .i64 (aj.2.2+ (IntKind.wrap .i64 (bn+p3))))⟩:Touch)]: (List Touch)) j [d7] Io Nn (fun M hs g=>⟨(g.sat 0 _ zr).1,zt⟩) fun ef w j=>?_
  have j:=j.freeze 0
  obtain⟨eg,d8,hb⟩:=bd hb
  refine RL.app 10 0 j Np d8 fun ct w j=>?_
  refine aT ct (RL.nil (cA (aG (RC.region (RL.inc hk hm (mv (vi ((a1+1:Nat):Int)) (RL.nil ?_)))))))
  obtain rfl:=oi hb
  exact⟨rfl,ct,j.sp 14 [8,9,11,13,10]⟩
 rintro _ w ⟨b2,O,rfl,j⟩
 refine aG (RC.sr (mv b2 (aT b2 (aT (vi 0) (RL.nt (RC.ret ?_))))))
 obtain rfl:=oi hb
 exact kC ⟨b2,zr,j.pk 5 [4]⟩
theorem xT {p0:fz} {p1: (List Test)} {res: (List Touch)×Int} (j:Holds E w V) (h0:V[i0]? =some (rd v0 p0)) (h1:V[i1]? =some (rd v1 p1)) (o:mM N p0 p1 p2 p3=some res):
    Calls bN 23 [v0,v1,(vi p2),(vi p3)].toArray w (iE (vj E V res)):=by
 unfold mM at o
 refine enter Tryz.func23 zr zr ?_
 have j:=(j.dup (i0+0) h0).dup (i1+1) h1
 refine RC.sr (RL.dJ 1 v0 j zr fun bb w j=>?_)
 refine aT (.slice none 0 0) (aT (vi 0) (RL.nq (RC.sr (RL.aV (f:=(fun x=>x)) 0 j zr Fd.self mx fun bw j=>(mv v1 (mv (vi p2) (mv (vi p3) ?_)))))))
 obtain⟨bc,bz,o⟩:=bd o
 refine RL.call zt zr LD [bw,v1,(vi p2),(vi p3)] zr (aF (mG N (p2:=p2) (p3:=p3) (i0:=0) (i1:=2) j zr zr bz) ?_)
 rintro _ w ⟨rfl,j⟩
 refine aT (vi bc) (RL.ns (mv (vi bc) (ic bc 0 (RL.nt (fK o (fun hc o=>?_) fun hc o=>?_)))))
 ·refine RC.sr (mv (vi bc) (aT (.slice none 0 0) (aT (vi bc) (RL.nt (RC.rt ?_)))))
  obtain rfl:=oi o
  have j:=j.eC Touch 66
  exact kC ⟨(.slice none 0 0),zr,j.pk 5 [0]⟩
 refine RC.sx (mv v1 (RL.bM 2 p1 j vD ?_))
 obtain⟨cp,b0,o⟩:=bd o
 refine RL.mk (p1.length:Int) j Ny Nz b0 fun ah w j=>?_
 refine aT ah (RL.nq (RC.sr (mv v1 (RL.bM 3 p1 j vD (mv (vi 0) (RL.nt ?_))))))
 obtain⟨au,hN,o⟩:=bd o
 refine RC.fold (fun(ay:Nat) (au: (List bD))=>SH E V [(1,v1),(2,vi p2),(3,vi p3),(4,vp bb 0),(11,ah),(35,v1),(36,vi p1.length),(37,vi ay)] [rd v1 p1,bx 27 bb p0,own 105 ah au]) (fun(au: (List bD))=>SH E V [(1,v1),(2,vi p2),(3,vi p3),(11,ah)] [rd v1 p1,bx 27 bb p0,own 105 ah au]) hN ?_ ?_ ?_ ?_
 ·exact j.sp 5 [3,2,0]
 ·rintro hm au _ w ⟨O,rfl,j⟩
  refine RC.sr (ic ((p1.length:Int)) ((p1.length:Int)) (RL.nq (RC.dC oE (RC.ex ?_))))
  exact⟨rfl,j.sp 3 [0,1,2]⟩
 ·rintro hm ay au s' _ w hk ⟨O,rfl,j⟩ o
  refine RC.sr (ic ((ay:Int)) ((p1.length:Int)) (RL.nq (RC.dB (oD hk) (RC.ss (RC.bs (mv (vi ay) ?_))))))
  obtain⟨a9,b1,o⟩:=bd o
  refine RL.cJ 0 j AL b1 fun b2 j=>(RL.bY 0 a9 j qO fun b3 j=>(RL.jN j Nl fun br w j=>?_))
  have j:=j.mK (i:=0) (x:=(⟨(⟨⟨[]⟩,⟨[]⟩⟩:fE),(⟨⟨[]⟩,⟨[]⟩⟩:fE),false⟩:Test)) rfl (fun M hs g=>⟨[(str ⟨[]⟩),(str ⟨[]⟩)],[(str ⟨[]⟩),(str ⟨[]⟩),(vb false)],rfl,⟨[(str ⟨[]⟩)],[(str ⟨[]⟩)],rfl,rfl,rfl⟩,⟨[(str ⟨[]⟩),(str ⟨[]⟩)],[(vb false)],rfl,⟨[(str ⟨[]⟩)],[(str ⟨[]⟩)],rfl,rfl,rfl⟩,rfl⟩⟩)
  refine aT (vi ay) (RL.kU 0 j 1 zr qO fun w j=>?_)
  refine RL.nt ?_
  obtain⟨bf,b4,o⟩:=bd o
  obtain⟨bg,b5,o⟩:=bd o
  obtain⟨cq,bm,o⟩:=bd o
  refine RC.BX E V mixed [1,1,0,0,0,0,0,0,0,0,0] [2,3,4,5,6,7,8,10] (fun(x:Value×Value×Value×Value×Value×Value×Value)=>(fun ai aj ak al an ao aq=>[(0,42,ah),(1,43,(vi ay)),(2,44,ai),(3,45,aj),(4,46,ak),(5,47,al),(6,48,an),(7,49,ao),(8,50,aq),(9,51,(v8 ah (Int.toNat (ay:Int)) 8 0))]) x.1 x.2.1 x.2.2.1 x.2.2.2.1 x.2.2.2.2.1 x.2.2.2.2.2.1 x.2.2.2.2.2.2) [(1,v1),(2,vi p2),(3,vi p3),(4,vp bb 0),(11,ah),(12,vi ay),(13,vp br 0),(35,v1),(36,vi p1.length),(37,vi ay)] [] (fun(D:Nat->Bool) (x:Value×Value×Value×Value×Value×Value×Value)=>(fun ai aj ak al an ao aq=>[bif D 0 then (rd ai p0) else aM,bif D 1 then (rd aj a9) else aM,bif D 2 then (rd ak bf) else aM,bif D 3 then (rd al p0) else aM,bif D 4 then (rd an a9) else aM,bif D 5 then (rd ao bg) else aM,bif D 6 then (rd aq (⟨bf,bg⟩:bD)) else aM,bx 53 br a9,rd b3 a9,pt b2 a9,rd v1 p1,bx 27 bb p0,bif D 7 then (own 105 ah (au.set (Int.toNat (ay:Int)) (⟨bf,bg⟩:bD))) else (own 105 ah au)]) x.1 x.2.1 x.2.2.1 x.2.2.2.1 x.2.2.2.2.1 x.2.2.2.2.2.1 x.2.2.2.2.2.2) (fun x=>by kernel_rfl) ?_ ⟨fun _=>g8 gn,fun _=>g8 gn,?_,?_,?_,?_,?_,?_,?_,?_,?_,trivial⟩ ?_
  ·have j:=(((((((j.drew).aM).aM).aM).aM).aM).aM).aM
   exact⟨(undef,undef,undef,undef,undef,undef,undef),eD.none,(AF zr),zt,j⟩
  ·rintro D U w hD ae a1 ⟨⟨ai,aj,ak,al,an,ao,aq⟩,hv,ha,_,j⟩
   obtain⟨O,rfl⟩:=(ac (ha.at 3 rfl) az).dH
   have j:=j.bK 0 hD
   refine RL.aV (f:=(fun x=>x)) 11 j zr Fd.self mx fun b6 j=>?_
   have j:=(j.pl 14 [0,2,3,4,5,6,7,8,9,10,11,12,13]).bF 0 true rfl aM
   exact RL.nil ⟨rfl,(b6,aj,ak,al,an,ao,aq),hv.pu 2,ha.u,zt,j⟩
  ·rintro D U w hD ae a1 ⟨⟨ai,aj,ak,al,an,ao,aq⟩,hv,ha,_,j⟩
   obtain⟨O,rfl⟩:=(ac (ha.at 6 rfl) az).dH
   have j:=j.bK 1 hD
   refine RL.aV (f:=(fun x=>x)) 7 j zr Fd.self qO fun b7 j=>?_
   have j:=(j.pl 14 [1,0,3,4,5,6,7,8,9,10,11,12,13]).bF 1 true rfl aM
   exact RL.nil ⟨rfl,(ai,b7,ak,al,an,ao,aq),hv.pu 3,ha.u,zt,j⟩
  ·rintro D U w hD ae a1 ⟨⟨ai,aj,ak,al,an,ao,aq⟩,hv,ha,_,j⟩
   obtain⟨O,rfl⟩:=(ac (hv.at 2 rfl (ae.1 rfl)) (ac (hv.at 3 rfl (ae.2.1 rfl)) az)).dH
   have j:=((j.bE 0 (ae.1 rfl)).bE 1 (ae.2.1 rfl)).bK 2 hD
   refine RL.call zt zr Cl [ai,aj,(vb false)] zr (aF (iq N (p2:=false) (i0:=0) (i1:=1) j zr zr b4) ?_)
   rintro b8 w j
   have j:=(((j.pl 14 [1,2,0,4,5,6,7,8,9,10,11,12,13]).bF 0 (D 2) (ae.1 rfl) aM).bF 1 (D 3) (ae.2.1 rfl) aM).bF 2 true rfl aM
   exact RL.nil ⟨rfl,(ai,aj,b8,al,an,ao,aq),hv.pu 4,ha.u,zt,j⟩
  ·rintro D U w hD ae a1 ⟨⟨ai,aj,ak,al,an,ao,aq⟩,hv,ha,_,j⟩
   obtain⟨O,rfl⟩:=(ac (ha.at 3 rfl) az).dH
   have j:=j.bK 3 hD
   refine RL.aV (f:=(fun x=>x)) 11 j zr Fd.self mx fun b9 j=>?_
   have j:=(j.pl 14 [1,2,3,0,5,6,7,8,9,10,11,12,13]).bF 3 true rfl aM
   exact RL.nil ⟨rfl,(ai,aj,ak,b9,an,ao,aq),hv.pu 5,ha.u,zt,j⟩
  ·rintro D U w hD ae a1 ⟨⟨ai,aj,ak,al,an,ao,aq⟩,hv,ha,_,j⟩
   obtain⟨O,rfl⟩:=(ac (ha.at 6 rfl) az).dH
   have j:=j.bK 4 hD
   refine RL.aV (f:=(fun x=>x)) 7 j zr Fd.self qO fun ca j=>?_
   have j:=(j.pl 14 [1,2,3,4,0,6,7,8,9,10,11,12,13]).bF 4 true rfl aM
   exact RL.nil ⟨rfl,(ai,aj,ak,al,ca,ao,aq),hv.pu 6,ha.u,zt,j⟩
  ·rintro D U w hD ae a1 ⟨⟨ai,aj,ak,al,an,ao,aq⟩,hv,ha,_,j⟩
   obtain⟨O,rfl⟩:=(ac (hv.at 5 rfl (ae.1 rfl)) (ac (hv.at 6 rfl (ae.2.1 rfl)) az)).dH
   have j:=((j.bE 3 (ae.1 rfl)).bE 4 (ae.2.1 rfl)).bK 5 hD
   refine RL.call zt zr Cl [al,an,(vb true)] zr (aF (iq N (p2:=true) (i0:=3) (i1:=4) j zr zr b5) ?_)
   rintro cb w j
   have j:=(((j.pl 14 [1,2,3,4,5,0,7,8,9,10,11,12,13]).bF 3 (D 5) (ae.1 rfl) aM).bF 4 (D 6) (ae.2.1 rfl) aM).bF 5 true rfl aM
   exact RL.nil ⟨rfl,(ai,aj,ak,al,an,cb,aq),hv.pu 7,ha.u,zt,j⟩
  ·rintro D U w hD ae a1 ⟨⟨ai,aj,ak,al,an,ao,aq⟩,hv,ha,_,j⟩
   obtain⟨O,rfl⟩:=(ac (hv.at 4 rfl (ae.1 rfl)) (ac (hv.at 7 rfl (ae.2.1 rfl)) az)).dH
   have j:=((j.bE 2 (ae.1 rfl)).bE 5 (ae.2.1 rfl)).bK 6 hD
   refine RL.HS (⟨bf,bg⟩:bD) trivial rfl j [(0,ak),(1,ao)] rfl LL rfl (fun M hs g=>by have h:=pO M;exact dA.cons (f:=fun(x:bD) y=>{x with e0:=y}) h sR (g.sat 2 _ rfl).1 fun _ h=>dA.cons (f:=fun(x:bD) y=>{x with e1:=y}) h sT (g.sat 5 _ rfl).1 fun _ h=>dA.nil h) fun cc j=>?_
   have j:=(((j.pl 14 [1,2,3,4,5,6,0,8,9,10,11,12,13]).bF 2 (D 4) (ae.1 rfl) aM).bF 5 (D 7) (ae.2.1 rfl) aM).bF 6 true rfl aM
   exact RL.nil ⟨rfl,(ai,aj,ak,al,an,ao,cc),hv.pu 8,ha.u,zt,j⟩
  ·rintro D U w hD ae a1 ⟨⟨ai,aj,ak,al,an,ao,aq⟩,hv,ha,_,j⟩
   obtain⟨O,rfl⟩:=(ac (hv.at 0 rfl (ae.1 rfl)) (ac (hv.at 1 rfl (ae.2.1 rfl)) az)).dH
   have j:=j.bK 12 (nh a1 hD 10)
   refine RL.bU 12 j zr zr It bm ?_
   have j:=j.fD 12 (D 10) (nh a1 hD 10) (own 105 ah (au.set (Int.toNat (ay:Int)) (⟨bf,bg⟩:bD)))
   exact RL.nil ⟨rfl,(ai,aj,ak,al,an,ao,aq),hv.pu 9,ha.u,zt,j⟩
  ·rintro D U w hD ae a1 ⟨⟨ai,aj,ak,al,an,ao,aq⟩,hv,ha,_,j⟩
   obtain⟨O,rfl⟩:=(ac (hv.at 8 rfl (ae.2.1 rfl)) (ac (hv.at 9 rfl (ae.1 rfl)) az)).dH
   have j:=(j.bE 6 (ae.2.1 rfl)).bK 12 hD
   refine RL.fQ (f:=(fun _ y=>y)) 12 6 j (jy 12 j bm 0) (bC bm).2.1 zr Fs.self NA fun w j=>?_
   have j:=(j.bF 6 (D 8) (ae.2.1 rfl) aM).bF 12 true rfl (own 105 ah au)
   exact RL.nil ⟨rfl,(ai,aj,ak,al,an,ao,aq),hv.n1,ha,zt,j⟩
  rintro D U w a6 ⟨⟨ai,aj,ak,al,an,ao,aq⟩,hv,ha,_,j⟩
  have j:=((((((j.bE 0 (gq a6 2)).bE 1 (gq a6 3)).bE 2 (gq a6 4)).bE 3 (gq a6 5)).bE 4 (gq a6 6)).bE 5 (gq a6 7)).bE 6 (gq a6 8)
  have j:=j.bE 12 (gq a6 10)
  obtain⟨O,rfl⟩:=(ac (ha.at 0 rfl) (ac (ha.at 1 rfl) (ac (ha.at 2 rfl) (ac (ha.at 3 rfl) (ac (ha.at 4 rfl) (ac (ha.at 5 rfl) (ac (ha.at 6 rfl) (ac (ha.at 7 rfl) (ac (ha.at 8 rfl) (ac (ha.at 9 rfl) az)))))))))).dH
  refine cA (aG (RC.region (RL.inc hk hm (mv (vi ((ay+1:Nat):Int)) (RL.nil ?_)))))
  obtain rfl:=oi o
  exact⟨rfl,j.sp 13 [10,11,12]⟩
 rintro _ w ⟨O,rfl,j⟩
 refine aG (RC.sr (mv v1 (RL.bM 0 p1 j vD ?_)))
 obtain⟨cr,cd,o⟩:=bd o
 refine RL.mk (p1.length:Int) j NB Pv cd fun av w j=>?_
 refine aT av (RL.ns (aT (.slice none 0 0) (RL.ns (RL.jN j DM fun ax w j=>?_))))
 have j:=j.mK (i:=0) (x:=(⟨(⟨0,0⟩:bH),(⟨0,0⟩:bH)⟩:aX)) rfl (fun M hs g=>⟨[(vi 0),(vi 0)],[(vi 0),(vi 0)],rfl,⟨[(vi 0)],[(vi 0)],rfl,rfl,rfl⟩,⟨[(vi 0)],[(vi 0)],rfl,rfl,rfl⟩⟩)
 refine RL.ns (aT (vi 0) (RL.nq (RC.sr (mv v1 (RL.bM 2 p1 j vD (mv (vi 0) (RL.nt ?_)))))))
 obtain⟨aa,hN,o⟩:=bd o
 refine RC.fold (fun(a2:Nat) (aa: (List Bool)×(List Touch)×aX×Int) U w=>∃bt:Value,SH E V [(1,v1),(2,vi p2),(3,vi p3),(11,ah),(14,av),(15,bt),(16,vp ax 0),(17,vi aa.2.2.2),(57,vi p1.length),(58,vi a2)] [rd v1 p1,own 105 ah au,own 4 av aa.1,bx 100 ax aa.2.2.1,own 66 bt aa.2.1] U w) (fun(aa: (List Bool)×(List Touch)×aX×Int) U w=>∃ba:Value,SH E V [(15,ba)] [rd v1 p1,own 105 ah au,own 4 av aa.1,bx 100 ax aa.2.2.1,own 66 ba aa.2.1] U w) hN ?_ ?_ ?_ ?_
 ·have j:=j.eC Touch 66
  exact⟨(.slice none 0 0),j.sp 6 [3,5,2,1,0]⟩
 ·rintro hm aa _ w ⟨cf,O,rfl,j⟩
  refine RC.sr (ic ((p1.length:Int)) ((p1.length:Int)) (RL.nq (RC.dC oE (RC.ex ?_))))
  exact⟨rfl,cf,j.sp 5 [0,1,2,3,4]⟩
 ·rintro hm a2 aa s' _ w hk ⟨a0,O,rfl,j⟩ o
  refine RC.sr (ic ((a2:Int)) ((p1.length:Int)) (RL.nq (RC.dB (oD hk) (RC.ss (RC.bs (aT (vi (-1)) (aT (vi 0) (aT (vi 0) ?_))))))))
  refine RL.nq (RC.sr (mv v1 (RL.bM 0 p1 j vD (mv (vi 0) (RL.nt ?_)))))
  obtain⟨ad,hN,o⟩:=bd o
  refine RC.fold (fun(aw:Nat) (ad:Int×Int×Int)=>SH E V [(1,v1),(2,vi p2),(3,vi p3),(11,ah),(14,av),(15,a0),(16,vp ax 0),(17,vi aa.2.2.2),(18,vi ad.1),(19,vi ad.2.1),(20,vi ad.2.2),(57,vi p1.length),(58,vi a2),(61,vi p1.length),(62,vi aw)] [rd v1 p1,own 105 ah au,own 4 av aa.1,own 66 a0 aa.2.1,bx 100 ax aa.2.2.1]) (fun(ad:Int×Int×Int)=>SH E V [(1,v1),(2,vi p2),(3,vi p3),(11,ah),(14,av),(15,a0),(16,vp ax 0),(17,vi aa.2.2.2),(18,vi ad.1),(19,vi ad.2.1),(20,vi ad.2.2),(57,vi p1.length),(58,vi a2)] [rd v1 p1,own 105 ah au,own 4 av aa.1,own 66 a0 aa.2.1,bx 100 ax aa.2.2.1]) hN ?_ ?_ ?_ ?_
  ·exact j.sp 5 [0,1,2,4,3]
  ·rintro hm ad _ w ⟨O,rfl,j⟩
   refine RC.sr (ic ((p1.length:Int)) ((p1.length:Int)) (RL.nq (RC.dC oE (RC.ex ?_))))
   exact⟨rfl,j.sp 5 [0,1,2,3,4]⟩
  ·rintro hm aw ad s' _ w hk ⟨O,rfl,j⟩ o
   refine RC.sr (ic ((aw:Int)) ((p1.length:Int)) (RL.nq (RC.dB (oD hk) (RC.ss (RC.bs (mv (vi aw) (aT (vi aw) (RL.ns ?_))))))))
   refine mv (vi 0) (RL.nt ?_)
   obtain⟨ct,hN,o⟩:=bd o
   refine RC.iter (fun(ab:Int×Int×Int×Int)=>SH E V [(1,v1),(2,vi p2),(3,vi p3),(11,ah),(14,av),(15,a0),(16,vp ax 0),(17,vi aa.2.2.2),(18,vi ab.1),(19,vi ab.2.1),(20,vi ab.2.2.1),(21,vi aw),(57,vi p1.length),(58,vi a2),(61,vi p1.length),(62,vi aw),(65,vi ab.2.2.2)] [rd v1 p1,own 105 ah au,own 4 av aa.1,own 66 a0 aa.2.1,bx 100 ax aa.2.2.1]) (fun(ab:Int×Int×Int×Int)=>SH E V [(1,v1),(2,vi p2),(3,vi p3),(11,ah),(14,av),(15,a0),(16,vp ax 0),(17,vi aa.2.2.2),(18,vi ab.1),(19,vi ab.2.1),(20,vi ab.2.2.1),(57,vi p1.length),(58,vi a2),(61,vi p1.length),(62,vi aw)] [rd v1 p1,own 105 ah au,own 4 av aa.1,own 66 a0 aa.2.1,bx 100 ax aa.2.2.1]) (fun(r:Empty) _ _=>r.elim) hN ?_ ?_ ?_ ?_
   ·exact j.sp 5 [0,1,2,3,4]
   ·rintro ab fl _ w ⟨O,rfl,j⟩ o
    refine RC.sr (ic ab.2.2.2 2 (RL.nq (fK o (fun hc o=>?_) fun hc o=>?_)))
    rotate_left
    ·refine RC.ex ?_
     obtain rfl:=oi o
     exact⟨rfl,j.sp 5 [0,1,2,3,4]⟩
    refine RC.ss (RC.bs (mv (vi ab.2.2.2) (aT (vi ab.2.2.2) (RL.nq (RC.sr (mv av (mv (vi aw) ?_)))))))
    obtain⟨cw,bn,o⟩:=bd o
    refine RL.bU 2 j zr zr GS bn (RL.dE (f:=(fun x=>x)) 2 j (jy 2 j bn 0) (bC bn).2.1 Fd.self yk (RL.nt (fK o (fun hc o=>?_) fun hc o=>?_)))
    ·refine RC.ex (HD (aG (RC.region (RL.ja ab.2.2.2 1 (mv (vi (IntKind.wrap .i64 (ab.2.2.2+1))) (RL.nil ?_))))))
     obtain rfl:=oi o
     exact⟨rfl,j.sp 5 [0,1,2,3,4]⟩
    refine RC.ss (RC.AE mixed [0,0,0,0,0,0,0,0,2,0] [0,1,2,3,4,5,6,7,8,9] ?_)
    have j:=j.drew
    refine DP.e0 zr (RL.aV (f:=(fun x=>x)) 4 j zr Fd.self nT fun cg j=>(cM zr (mv ah (cM zr (mv (vi aw) (cM zr (mv (vi ab.2.2.2) (cM zr ?_))))))))
    obtain⟨cx,bk,o⟩:=bd o
    refine RL.bU 2 j zr zr It bk (cM zr ?_)
    obtain⟨bo,ch,o⟩:=bd o
    refine RL.rU (α:=bD) (jy 2 j bk 0) (Is.at ch) (cM zr (RL.lG (f:=(fun x=>x.gt bo)) 2 j (jy 2 j bk (bo.val*4)) (bC bk).2.1 (oG bo) nT fun cj j=>?_))
    refine cM zr (mv (vi p2) (xt zr ?_))
    obtain⟨a3,ck,o⟩:=bd o
    refine RL.call zt zr GU [cg,cj,(vi p2)] zr (aF (lu N (p2:=p2) (i0:=1) (i1:=0) j zr zr ck) ?_)
    rintro _ w ⟨rfl,j⟩
    refine B6 zr (aT (vi a3) (DP.d0 (DP.z (aG (RC.sr (mv (vi ab.1) (ic ab.1 0 (mv (vb (decide (ab.1<0))) ?_))))))))
    refine RL.gs true (decide (ab.1<0)) (vi a3) rfl rfl rfl dW (RL.gs true (decide (ab.1<0)) (vi ab.2.2.1) rfl rfl rfl dW (RL.gs true (decide (ab.1<0)) (vb (decide (a3<ab.2.2.1))) rfl rfl rfl (eN .lss .i64 a3 ab.2.2.1 rfl (fun h=>by exact(dG h:cv (true&&((decide (ab.1<0))==false)) (vi a3)= (vi a3))) (fun h=>by exact(dG h:cv (true&&((decide (ab.1<0))==false)) (vi ab.2.2.1)= (vi ab.2.2.1))) rfl) (RL.pick (decide (ab.1<0)) (vb ((decide (ab.1<0))||(decide (a3<ab.2.2.1)))) (oZ true) (RL.nt ?_))))
    obtain⟨bh,hj,o⟩:=bd o
    refine RC.jn (fun(bh:Int×Int×Int)=>SH E V [(1,v1),(2,vi p2),(3,vi p3),(11,ah),(14,av),(15,a0),(16,vp ax 0),(17,vi aa.2.2.2),(18,vi bh.1),(19,vi bh.2.1),(20,vi bh.2.2),(21,vi aw),(57,vi p1.length),(58,vi a2),(61,vi p1.length),(62,vi aw),(65,vi ab.2.2.2)] [rd v1 p1,own 105 ah au,own 4 av aa.1,own 66 a0 aa.2.1,bx 100 ax aa.2.2.1]) bh ?_ ?_
    ·refine fK hj (fun hc hj=>?_) fun hc hj=>?_
     rotate_left
     ·refine RC.skip ?_
      obtain rfl:=oi hj
      exact⟨rfl,j.sp 7 [2,3,4,5,6]⟩
     refine RC.region (mv (vi aw) (mv (vi ab.2.2.2) (mv (vi a3) (aT (vi aw) (aT (vi ab.2.2.2) (aT (vi a3) (RL.nil ?_)))))))
     obtain rfl:=oi hj
     exact⟨rfl,j.sp 7 [2,3,4,5,6]⟩
    rintro _ w ⟨O,rfl,j⟩
    refine cA (aG (RC.region (RL.ja ab.2.2.2 1 (mv (vi (IntKind.wrap .i64 (ab.2.2.2+1))) (RL.nil ?_)))))
    obtain rfl:=oi o
    exact⟨rfl,j.sp 5 [0,1,2,3,4]⟩
   ·intro r _ _ _ _
    exact r.elim
   rintro ab _ w rfl ⟨O,rfl,j⟩
   rw [Fo.gm] at o
   refine cA (aG (RC.region (RL.inc hk hm (mv (vi ((aw+1:Nat):Int)) (RL.nil ?_)))))
   obtain rfl:=oi o
   exact⟨rfl,j.sp 5 [0,1,2,3,4]⟩
  rintro _ w ⟨O,rfl,j⟩
  refine aG (RC.sr (mv av (mv (vi ad.1) ?_)))
  obtain⟨cy,bp,o⟩:=bd o
  refine RL.bU 2 j zr zr GS bp ?_
  have j:=j.sc Bool true
  refine RL.fQ (f:=(fun _ y=>y)) 3 0 j (jy 3 j bp 0) (bC bp).2.1 zr Fs.self yk fun w j=>?_
  refine RL.ns (mv (vi aa.2.2.2) (mv (vi ad.2.2) (mv (vi p3) (RL.ja ad.2.2 p3 (RL.ja aa.2.2.2 (IntKind.wrap .i64 (ad.2.2+p3)) (aT (vi (IntKind.wrap .i64 (aa.2.2.2+ (IntKind.wrap .i64 (ad.2.2+p3))))) (RL.ns (mv ah ?_))))))))
  refine mv (vi ad.1) (mv (vi ad.2.1) ?_)
  obtain⟨cz,bl,o⟩:=bd o
  refine RL.bU 2 j zr zr It bl ?_
  obtain⟨bq,cl,o⟩:=bd o
  refine RL.rU (α:=bD) (jy 2 j bl 0) (Is.at cl) (RL.lG (f:=(fun x=>x.gt bq)) 2 j (jy 2 j bl (bq.val*4)) (bC bl).2.1 (oG bq) nT fun c0 j=>?_)
  refine RL.kU 6 j 0 zr nT fun w j=>?_
  refine RL.nt (RC.region (mv a0 (mv (vi ad.1) (mv (vi ad.2.1) (ic ad.2.1 1 (mv (vi (IntKind.wrap .i64 (aa.2.2.2+ (IntKind.wrap .i64 (ad.2.2+p3))))) ?_))))))
  have j:=((j.sc Int ad.1).sc Bool (ad.2.1==1)).sc Int (IntKind.wrap .i64 (aa.2.2.2+ (IntKind.wrap .i64 (ad.2.2+p3))))
  refine RL.build (⟨ad.1,(ad.2.1==1),(IntKind.wrap .i64 (aa.2.2.2+ (IntKind.wrap .i64 (ad.2.2+p3))))⟩:Touch) trivial rfl j [(0,vi ad.1),(1,(vb (ad.2.1==1))),(2,(vi (IntKind.wrap .i64 (aa.2.2.2+ (IntKind.wrap .i64 (ad.2.2+p3))))))] rfl Nm rfl (fun M hs g=>by have h:=FU M;exact dA.cons (f:=fun(x:Touch) y=>{x with Test:=y}) h zo (g.sat 2 _ rfl).1 fun _ h=>dA.cons (f:=fun(x:Touch) y=>{x with nW:=y}) h zp (g.sat 1 _ rfl).1 fun _ h=>dA.cons (f:=fun(x:Touch) y=>{x with qy:=y}) h zq (g.sat 0 _ rfl).1 fun _ h=>dA.nil h) fun cm j=>?_
  refine RL.fR ([(⟨ad.1,(ad.2.1==1),(IntKind.wrap .i64 (aa.2.2.2+ (IntKind.wrap .i64 (ad.2.2+p3))))⟩:Touch)]: (List Touch)) j [cm] Io Nn (fun M hs g=>⟨(g.sat 0 _ zr).1,zt⟩) fun c1 w j=>?_
  have j:=j.freeze 0
  obtain⟨c2,cn,o⟩:=bd o
  refine RL.app 10 0 j Np cn fun bu w j=>?_
  refine aT bu (RL.nil (cA (aG (RC.region (RL.inc hk hm (mv (vi ((a2+1:Nat):Int)) (RL.nil ?_)))))))
  obtain rfl:=oi o
  exact⟨rfl,bu,j.sp 12 [7,8,9,11,10]⟩
 rintro _ w ⟨ba,O,rfl,j⟩
 refine aG (RC.sr (mv ba (aT ba (aT (vi 0) (RL.nt (RC.ret ?_))))))
 obtain rfl:=oi o
 exact kC ⟨ba,zr,j.pk 5 [4]⟩
end Go.Gk
