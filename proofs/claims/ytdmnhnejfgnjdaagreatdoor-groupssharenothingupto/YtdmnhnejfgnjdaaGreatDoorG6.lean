/-
  Printed texts: Go functions as plain functions, and that they are. No statement of the seed is proved here.
-/
import Derived.Test.YtdmnhnejfgnjdaaGreatDoorG1
import Derived.Test.YtdmnhnejfgnjdaaGreatDoorG2
import Derived.Test.YtdmnhnejfgnjdaaGreatDoorG3
import Derived.Test.YtdmnhnejfgnjdaaGreatDoorG4
import Derived.Test.YtdmnhnejfgnjdaaGreatDoorG5
import Derived.Test.YtdmnhnejfgnjdaaGreatDoorA2
set_option linter.unusedVariables false
set_option linter.unusedSimpArgs false
set_option linter.unusedSectionVars false
set_option maxRecDepth 100000
set_option maxHeartbeats 4000000
namespace Go.Gk
open Go Go.Proofs
def jO (E:World) (Γ:List HP) (b0:Nat) (v0_0:Value) (v0_1:Value) (v0_2:Value) (v0_3:Value) (v0_4:Value) (v0_5:Value) (v0_6:Value) (res: (List aX)×(List Int)×(List Int)×(List Int)×(List fZ)) (v:Value) (w:World):Prop:=∃u0_7 u0_8 u0_9 u0_10 u0_11:Value,v = .tuple #[]∧Holds E w ([bc 57 b0 [v0_0,v0_1,v0_2,v0_3,v0_4,v0_5,v0_6,u0_7,u0_8,u0_9,u0_10,u0_11],own 42 u0_7 res.1,rd u0_8 res.2.1,rd u0_9 res.2.2.1,own 3 u0_10 res.2.2.2.1,own 102 u0_11 res.2.2.2.2]++Γ)
theorem jD (N:Nat) {E w:World} {Γ:List HP} {b0:Nat} {v0_0:Value} {v0_1:Value} {v0_2:Value} {p0_2: (List bB)} {v0_3:Value} {p0_3: (List cE)} {v0_4:Value} {v0_5:Value} {p0_5: (List aC)} {v0_6:Value} {p0_6: (List (List Int))} {v0_8:Value} {p0_8: (List Int)} {v0_9:Value} {p0_9: (List Int)} {v0_10:Value} {p0_10: (List Int)} {v0_11:Value} {p0_11: (List fZ)} {res: (List aX)×(List Int)×(List Int)×(List Int)×(List fZ)} (hw:Holds E w (bc 57 b0 [v0_0,v0_1,v0_2,v0_3,v0_4,v0_5,v0_6,(.slice none 0 0),v0_8,v0_9,v0_10,v0_11]::rd v0_2 p0_2::rd v0_3 p0_3::rd v0_5 p0_5::rd v0_6 p0_6::own 3 v0_8 p0_8::own 3 v0_9 p0_9::own 3 v0_10 p0_10::own 102 v0_11 p0_11::Γ)) (hb:cN N p0_2 p0_3 p0_5 p0_6 p0_8 p0_9 p0_10 p0_11=some res):
    Calls Tryz.prog 22 [(vp b0 0)].toArray w (fu (jO E Γ b0 v0_0 v0_1 v0_2 v0_3 v0_4 v0_5 v0_6 res)):=by
 unfold cN at hb
 refine enter Tryz.func22 zr zr (Nat.le_of_ble_eq_true zr) (RC.sr (mv (vp b0 0) zr zr (RL.nilCheck zt zr zr (RL.bD zt zr zr oe (RL.bF (i:=0) (v:=v0_5) zt zr hw zr zr zr wj (RL.bA (i:=3) (l:=p0_5) zt zr hw zr zr y9 (aN (vi (p0_5.length:Int)) zr zr (RL.ns ?_))))))))
 refine mv (vi (p0_5.length:Int)) zr zr (mv (vp b0 0) zr zr (RL.nilCheck zt zr zr (RL.bD zt zr zr lQ (RL.bD zt zr zr jM (RL.bF (i:=0) (v:=v0_2) zt zr hw zr zr zr qQ (RL.bA (i:=1) (l:=p0_2) zt zr hw zr zr sL (RL.gq (a:=(p0_5.length:Int)) (b:=(p0_2.length:Int)) zt zr zr zr zr ?_)))))))
 obtain⟨eu,di,hb⟩:=bd hb
 refine RL.call zt zr DR [(vi (IntKind.wrap .i64 ((p0_5.length:Int)+ (p0_2.length:Int))))] zr (aF (nO N (p0:=(IntKind.wrap .i64 ((p0_5.length:Int)+ (p0_2.length:Int)))) hw di) ?_)
 rintro _ w ⟨a4,dj,rfl,hw⟩
 refine aN (vp a4 0) zr zr (RL.nq (RC.sr (mv (vp b0 0) zr zr (RL.nilCheck zt zr zr (RL.bD zt zr zr wo (RL.bF (i:=2) (v:=v0_6) zt zr hw zr zr zr Bx (RL.bA (i:=6) (l:=p0_6) zt zr hw zr zr Bz (mv (vi 0) zr zr ?_))))))))
 refine RL.nt ?_
 obtain⟨bn,hN,hb⟩:=bd hb
 refine RC.fold (fun(ba:Nat) (bn: (List Int)) (σ:Nat→Value) (w:World)=>∃cw:Value,agree σ [(0,(vp b0 0)),(2,(vi (p0_5.length:Int))),(3,(vp a4 0)),(35,v0_6),(36,(vi (p0_6.length:Int))),(37,(vi (ba:Int)))]∧Holds E w ([bc 57 b0 [v0_0,v0_1,v0_2,v0_3,v0_4,v0_5,v0_6,(.slice none 0 0),v0_8,v0_9,v0_10,v0_11],rd v0_2 p0_2,rd v0_3 p0_3,rd v0_5 p0_5,rd v0_6 p0_6,own 3 v0_8 p0_8,own 3 v0_9 p0_9,own 3 v0_10 p0_10,own 102 v0_11 p0_11,bc 127 a4 [cw],own 3 cw bn]++Γ)) (fun(bn: (List Int)) (σ:Nat→Value) (w:World)=>∃b1:Value,agree σ [(0,(vp b0 0)),(2,(vi (p0_5.length:Int))),(3,(vp a4 0))]∧Holds E w ([bc 57 b0 [v0_0,v0_1,v0_2,v0_3,v0_4,v0_5,v0_6,(.slice none 0 0),v0_8,v0_9,v0_10,v0_11],rd v0_2 p0_2,rd v0_3 p0_3,rd v0_5 p0_5,rd v0_6 p0_6,own 3 v0_8 p0_8,own 3 v0_9 p0_9,own 3 v0_10 p0_10,own 102 v0_11 p0_11,bc 127 a4 [b1],own 3 b1 bn]++Γ)) hN ?_ ?_ ?_ ?_
 ·exact⟨dj,(ag zr),hw.pk 11 [2,3,4,5,6,7,8,9,10,0,1] zr⟩
 ·intro hm bn σ w hI
  obtain⟨dk,ha,hw⟩:=hI
  obtain⟨τ,rfl⟩:=ha.aO
  refine RC.sr (ic ((p0_6.length:Int)) ((p0_6.length:Int)) zr zr zr zr (RL.nq (RC.cG k6 (RC.ex ?_))))
  exact⟨rfl,dk,(ag zr),hw.pk 11 [0,1,2,3,4,5,6,7,8,9,10] zr⟩
 ·intro hm ba bn s' σ w hk hI hb
  obtain⟨dm,ha,hw⟩:=hI
  obtain⟨τ,rfl⟩:=ha.aO
  refine RC.sr (ic ((ba:Int)) ((p0_6.length:Int)) zr zr zr zr (RL.nq (RC.cF (kZ hk) (RC.ss (RC.bs (mv (vi (ba:Int)) zr zr ?_))))))
  obtain⟨bm,dn,hb⟩:=bd hb
  refine RL.bO (i:=4) zt zr hw zr zr zr xP dn fun ew hw=>(RL.bT (i:=0) (x:=bm) zt zr hw zr zr cT fun b2 hw=>(aN (vi (ba:Int)) zr zr (aN b2 zr zr (RL.ns (mv b2 zr zr (RL.bA (i:=0) (l:=bm) zt zr hw zr zr iO (mv (vi 0) zr zr (RL.nt ?_))))))))
  obtain⟨bq,hN,hb⟩:=bd hb
  refine RC.fold (fun(b5:Nat) (bq: (List Int)) (σ:Nat→Value) (w:World)=>∃cx:Value,agree σ [(0,(vp b0 0)),(2,(vi (p0_5.length:Int))),(3,(vp a4 0)),(4,(vi (ba:Int))),(35,v0_6),(36,(vi (p0_6.length:Int))),(37,(vi (ba:Int))),(42,b2),(43,(vi (bm.length:Int))),(44,(vi (b5:Int)))]∧Holds E w ([bc 57 b0 [v0_0,v0_1,v0_2,v0_3,v0_4,v0_5,v0_6,(.slice none 0 0),v0_8,v0_9,v0_10,v0_11],rd v0_2 p0_2,rd v0_3 p0_3,rd v0_5 p0_5,rd v0_6 p0_6,own 3 v0_8 p0_8,own 3 v0_9 p0_9,own 3 v0_10 p0_10,own 102 v0_11 p0_11,bc 127 a4 [cx],own 3 cx bq,rd b2 bm]++Γ)) (fun(bq: (List Int)) (σ:Nat→Value) (w:World)=>∃b6:Value,agree σ [(0,(vp b0 0)),(2,(vi (p0_5.length:Int))),(3,(vp a4 0)),(35,v0_6),(36,(vi (p0_6.length:Int))),(37,(vi (ba:Int)))]∧Holds E w ([bc 57 b0 [v0_0,v0_1,v0_2,v0_3,v0_4,v0_5,v0_6,(.slice none 0 0),v0_8,v0_9,v0_10,v0_11],rd v0_2 p0_2,rd v0_3 p0_3,rd v0_5 p0_5,rd v0_6 p0_6,own 3 v0_8 p0_8,own 3 v0_9 p0_9,own 3 v0_10 p0_10,own 102 v0_11 p0_11,bc 127 a4 [b6],own 3 b6 bq,rd b2 bm]++Γ)) hN ?_ ?_ ?_ ?_
  ·exact⟨dm,(ag zr),hw.pk 13 [2,3,4,5,6,7,8,9,10,11,12,0] zr⟩
  ·intro hm bq σ w hI
   obtain⟨dp,ha,hw⟩:=hI
   obtain⟨τ,rfl⟩:=ha.aO
   refine RC.sr (ic ((bm.length:Int)) ((bm.length:Int)) zr zr zr zr (RL.nq (RC.cG k6 (RC.ex ?_))))
   exact⟨rfl,dp,(ag zr),hw.pk 12 [0,1,2,3,4,5,6,7,8,9,10,11] zr⟩
  ·intro hm b5 bq s' σ w hk hI hb
   obtain⟨ey,ha,hw⟩:=hI
   obtain⟨τ,rfl⟩:=ha.aO
   refine RC.sr (ic ((b5:Int)) ((bm.length:Int)) zr zr zr zr (RL.nq (RC.cF (kZ hk) (RC.ss (RC.bs ?_)))))
   obtain⟨b3,dq,hb⟩:=bd hb
   refine RL.bO (i:=11) zt zr hw zr zr zr dB dq fun ez hw=>(RL.aY (i:=0) (y:=b3) zt zr hw zr zr bV (aN (vi b3) zr zr (RL.nt (RC.region (mv (vp a4 0) zr zr (mv (vi b3) zr zr (mv (vi (p0_5.length:Int)) zr zr (mv (vi (ba:Int)) zr zr ?_))))))))
   refine RL.gq (a:=(p0_5.length:Int)) (b:=(ba:Int)) zt zr zr zr zr ?_
   have hw:=hw.pull (i:=11) rfl
   have hw:=hw.pull (i:=11) rfl
   obtain⟨e1,dr,hb⟩:=bd hb
   refine RL.call zt zr DS [(vp a4 0),(vi b3),(vi (IntKind.wrap .i64 ((p0_5.length:Int)+ (ba:Int))))] zr (aF (mj N (p1:=b3) (p2:=(IntKind.wrap .i64 ((p0_5.length:Int)+ (ba:Int)))) hw dr) ?_)
   rintro _ w ⟨ds,rfl,hw⟩
   refine RL.nil (bI (aG (RC.region (RL.inc zt zr hk hm zr zr (mv (vi ((b5+1:Nat):Int)) zr zr (RL.nil ?_))))))
   obtain rfl:=oi hb
   exact⟨rfl,ds,(ag zr),hw.pk 15 [3,4,5,6,7,8,9,10,11,0,1,14] zr⟩
  intro σ w hJ
  obtain⟨b6,ha,hw⟩:=hJ
  obtain⟨τ,rfl⟩:=ha.aO
  refine bI (aG (RC.region (RL.inc zt zr hk hm zr zr (mv (vi ((ba+1:Nat):Int)) zr zr (RL.nil ?_)))))
  obtain rfl:=oi hb
  exact⟨rfl,b6,(ag zr),hw.pk 12 [0,1,2,3,4,5,6,7,8,9,10] zr⟩
 intro σ w hJ
 obtain⟨b1,ha,hw⟩:=hJ
 obtain⟨τ,rfl⟩:=ha.aO
 refine aG (RC.seq ?_)
 obtain⟨dt,du,hb⟩:=bd hb
 obtain⟨dv,dw,hb⟩:=bd hb
 refine RC.sG (E:=E) (Γ:=Γ) mixed rfl [1,1,1,0,1,1,1,1,0,0,0,1,1,0,1,1,0] [3,10,13,16] (fun(x:Value×Value)=>(fun ae ah=>[(0,56,(vp b0 0)),(1,57,(vp b0 0)),(2,58,(vi (p0_5.length:Int))),(3,59,ae),(4,60,(vp b0 0)),(5,61,(vp b0 0)),(6,62,(vp b0 0)),(7,63,(vp b0 2)),(8,64,v0_2),(9,65,(vi (p0_2.length:Int))),(10,66,ah),(11,67,(vp b0 0)),(12,68,(vp b0 8)),(14,69,(vp b0 0)),(15,70,(vp b0 9))]) x.1 x.2) [(0,(vp b0 0)),(2,(vi (p0_5.length:Int))),(3,(vp a4 0))] [] (fun(D:Nat→Bool) (x:Value×Value)=>(fun ae ah=>[bif D 0 then (own 3 ae dt) else aI,bif D 1 then (own 3 ah dv) else aI,bif D 3 then (bc 57 b0 [v0_0,v0_1,v0_2,v0_3,v0_4,v0_5,v0_6,(.slice none 0 0),ae,ah,v0_10,v0_11]) else (bif D 2 then (bc 57 b0 [v0_0,v0_1,v0_2,v0_3,v0_4,v0_5,v0_6,(.slice none 0 0),ae,v0_9,v0_10,v0_11]) else (bc 57 b0 [v0_0,v0_1,v0_2,v0_3,v0_4,v0_5,v0_6,(.slice none 0 0),v0_8,v0_9,v0_10,v0_11])),rd v0_2 p0_2,rd v0_3 p0_3,rd v0_5 p0_5,rd v0_6 p0_6,own 3 v0_8 p0_8,own 3 v0_9 p0_9,own 3 v0_10 p0_10,own 102 v0_11 p0_11,bc 127 a4 [b1],own 3 b1 bn]) x.1 x.2) (fun x=>by kernel_rfl) ?_ ⟨fun _=>dX gn rfl,fun _=>dX gn rfl,fun _=>dX gn rfl,?_,fun _=>dX gn rfl,fun _=>pY gn rfl,fun _=>fJ gn lQ rfl,fun _=>fJ gn jM rfl,?_,?_,?_,fun _=>pY gn rfl,fun _=>fJ gn wq rfl,?_,fun _=>pY gn rfl,fun _=>fJ gn tX rfl,?_,trivial⟩ ?_
 ·have hw:=hw.drew
  have hw:=hw.aI
  have hw:=hw.aI
  exact⟨(undef,undef),doneV.none,(ag zr),zt,hw⟩
 ·rintro D σ w hD hdep hcl ⟨⟨ae,ah⟩,hv,ha,_,hw⟩
  obtain⟨τ,rfl⟩:=(ac (hv.at 2 rfl (hdep.1 rfl)) az).aO
  have hw:=hw.aQ (i:=0) rfl hD
  have hw:=hw.aQ (i:=2) rfl (nf (fun h=>ft hD ((hcl 16 _ rfl h).2.2.2.2.2.2.1 rfl)))
  have hw:=hw.aQ (i:=2) rfl (nf (fun h=>ft hD ((hcl 13 _ rfl h).2.1 rfl)))
  refine RL.mk (k:=(p0_5.length:Int)) zt zr hw zr zr p6 B7 du fun ck w hw=>?_
  have hw:=hw.pl 14 [0,2,3,4,5,6,7,8,9,10,11,12,13] rfl
  have hw:=hw.aT (i:=0) (b:=true) rfl rfl (aI)
  have hw:=hw.cJ (i:=2) (b:=D 13) rfl (nf (fun h=>ft hD ((hcl 13 _ rfl h).2.1 rfl))) (bc 57 b0 [v0_0,v0_1,v0_2,v0_3,v0_4,v0_5,v0_6,(.slice none 0 0),ck,v0_9,v0_10,v0_11])
  have hw:=hw.cJ (i:=2) (b:=D 16) rfl (nf (fun h=>ft hD ((hcl 16 _ rfl h).2.2.2.2.2.2.1 rfl))) (bc 57 b0 [v0_0,v0_1,v0_2,v0_3,v0_4,v0_5,v0_6,(.slice none 0 0),ck,ah,v0_10,v0_11])
  exact RL.nil ⟨rfl,(ck,ah),hv.put 3 zr zr,ha.up zr,zt,hw⟩
 ·rintro D σ w hD hdep hcl ⟨⟨ae,ah⟩,hv,ha,_,hw⟩
  obtain⟨τ,rfl⟩:=(ac (hv.at 7 rfl (hdep.1 rfl)) az).aO
  have hw:=hw.aQ (i:=2) rfl (nf (fun h=>ft hD ((hcl 16 _ rfl h).2.2.2.2.2.2.2.2.2.2.2.1 rfl)))
  have hw:=hw.aQ (i:=2) rfl (nf (fun h=>ft hD ((hcl 13 _ rfl h).2.2.2.2.2.2.2.2.2.2.1 rfl)))
  refine RL.bF (i:=2) (v:=v0_2) zt zr hw zr zr zr qQ ?_
  have hw:=hw.cJ (i:=2) (b:=D 13) rfl (nf (fun h=>ft hD ((hcl 13 _ rfl h).2.2.2.2.2.2.2.2.2.2.1 rfl))) (bc 57 b0 [v0_0,v0_1,v0_2,v0_3,v0_4,v0_5,v0_6,(.slice none 0 0),ae,v0_9,v0_10,v0_11])
  have hw:=hw.cJ (i:=2) (b:=D 16) rfl (nf (fun h=>ft hD ((hcl 16 _ rfl h).2.2.2.2.2.2.2.2.2.2.2.1 rfl))) (bc 57 b0 [v0_0,v0_1,v0_2,v0_3,v0_4,v0_5,v0_6,(.slice none 0 0),ae,ah,v0_10,v0_11])
  exact RL.nil ⟨rfl,(ae,ah),hv.put 8 zr zr,ha.up zr,zt,hw⟩
 ·rintro D σ w hD hdep hcl ⟨⟨ae,ah⟩,hv,ha,_,hw⟩
  obtain⟨τ,rfl⟩:=(ac (hv.at 8 rfl (hdep.1 rfl)) az).aO
  refine RL.bA (i:=3) (l:=p0_2) zt zr hw zr zr sL ?_
  exact RL.nil ⟨rfl,(ae,ah),hv.put 9 zr zr,ha.up zr,zt,hw⟩
 ·rintro D σ w hD hdep hcl ⟨⟨ae,ah⟩,hv,ha,_,hw⟩
  obtain⟨τ,rfl⟩:=(ac (hv.at 9 rfl (hdep.1 rfl)) az).aO
  have hw:=hw.aQ (i:=1) rfl hD
  have hw:=hw.aQ (i:=2) rfl (nf (fun h=>ft hD ((hcl 16 _ rfl h).2.1 rfl)))
  refine RL.mk (k:=(p0_2.length:Int)) zt zr hw zr zr p6 B7 dw fun cy w hw=>?_
  have hw:=hw.pl 14 [1,0,3,4,5,6,7,8,9,10,11,12,13] rfl
  have hw:=hw.aT (i:=1) (b:=true) rfl rfl (aI)
  have hw:=hw.cJ (i:=2) (b:=D 16) rfl (nf (fun h=>ft hD ((hcl 16 _ rfl h).2.1 rfl))) (bc 57 b0 [v0_0,v0_1,v0_2,v0_3,v0_4,v0_5,v0_6,(.slice none 0 0),ae,cy,v0_10,v0_11])
  exact RL.nil ⟨rfl,(ae,cy),hv.put 10 zr zr,ha.up zr,zt,hw⟩
 ·rintro D σ w hD hdep hcl ⟨⟨ae,ah⟩,hv,ha,_,hw⟩
  obtain⟨τ,rfl⟩:=(ac (hv.at 3 rfl (hdep.2.1 rfl)) (ac (hv.at 12 rfl (hdep.1 rfl)) az)).aO
  have hw:=hw.aS (i:=0) rfl (hdep.2.1 rfl)
  have hw:=hw.aQ (i:=2) rfl (nf (fun h=>ft hD ((hcl 16 _ rfl h).2.2.1 rfl)))
  have hw:=hw.aQ (i:=2) rfl hD
  refine RL.fQ (i:=2) (v:=ae) zt hw zr zr zr zr (gh hw (i:=0) zr) cT fun w hw=>?_
  have hw:=hw.aT (i:=0) (b:=D 3) rfl (hdep.2.1 rfl) (aI)
  have hw:=hw.aT (i:=2) (b:=true) rfl rfl (bc 57 b0 [v0_0,v0_1,v0_2,v0_3,v0_4,v0_5,v0_6,(.slice none 0 0),v0_8,v0_9,v0_10,v0_11])
  have hw:=hw.cJ (i:=2) (b:=D 16) rfl (nf (fun h=>ft hD ((hcl 16 _ rfl h).2.2.1 rfl))) (bc 57 b0 [v0_0,v0_1,v0_2,v0_3,v0_4,v0_5,v0_6,(.slice none 0 0),ae,ah,v0_10,v0_11])
  exact RL.nil ⟨rfl,(ae,ah),hv.no zr,ha,zt,hw⟩
 ·rintro D σ w hD hdep hcl ⟨⟨ae,ah⟩,hv,ha,_,hw⟩
  obtain⟨τ,rfl⟩:=(ac (hv.at 10 rfl (hdep.2.1 rfl)) (ac (hv.at 14 rfl (hdep.1 rfl)) az)).aO
  have hw:=hw.aS (i:=1) rfl (hdep.2.1 rfl)
  have hw:=hw.aQ (i:=2) rfl hD
  have hw:=hw.aS (i:=2) rfl (hdep.2.2.1 rfl)
  refine RL.fQ (i:=2) (v:=ah) zt hw zr zr zr zr (gh hw (i:=1) zr) cT fun w hw=>?_
  have hw:=hw.aT (i:=1) (b:=D 10) rfl (hdep.2.1 rfl) (aI)
  have hw:=hw.aT (i:=2) (b:=true) rfl rfl (bif D 13 then (bc 57 b0 [v0_0,v0_1,v0_2,v0_3,v0_4,v0_5,v0_6,(.slice none 0 0),ae,v0_9,v0_10,v0_11]) else (bc 57 b0 [v0_0,v0_1,v0_2,v0_3,v0_4,v0_5,v0_6,(.slice none 0 0),v0_8,v0_9,v0_10,v0_11]))
  exact RL.nil ⟨rfl,(ae,ah),hv.no zr,ha,zt,hw⟩
 rintro D σ w hall ⟨⟨ae,ah⟩,hv,ha,_,hw⟩
 have hw:=hw.aS (i:=0) rfl (hall 3 (by decide))
 have hw:=hw.aS (i:=1) rfl (hall 10 (by decide))
 have hw:=hw.aS (i:=2) rfl (hall 16 (by decide))
 obtain⟨τ,rfl⟩:=(ac (ha.at 0 rfl) (ac (ha.at 1 rfl) (ac (ha.at 2 rfl) az))).aO
 refine aG (RC.seq (RC.sr (mv (vp a4 0) zr zr ?_)))
 have hw:=hw.pull (i:=12) rfl
 have hw:=hw.pull (i:=12) rfl
 obtain⟨a0,dx,hb⟩:=bd hb
 refine RL.call zt zr DT [(vp a4 0)] zr (aF (ml N hw dx) ?_)
 rintro a5 w ⟨_,e2,rfl,hw⟩
 refine RL.cW (i:=0) (l:=a0.1) zt zr hw zr zr Bz (mv (vi 0) zr zr (RL.nt ?_))
 obtain⟨av,hN,hb⟩:=bd hb
 refine RC.fold (fun(bh:Nat) (av: (List aX)×(List Int)×(List Int)) (σ:Nat→Value) (w:World)=>∃(cz:Value) (us450:List aW),agree σ [(0,(vp b0 0)),(2,(vi (p0_5.length:Int))),(72,a5),(73,(vi (a0.1.length:Int))),(74,(vi (bh:Int)))]∧Holds E w ([bc 57 b0 [v0_0,v0_1,v0_2,v0_3,v0_4,v0_5,v0_6,cz,ae,ah,v0_10,v0_11],own 42 cz us450,eZ aV us450 av.1 none,rd v0_2 p0_2,rd v0_3 p0_3,rd v0_5 p0_5,rd v0_6 p0_6,own 3 ae av.2.1,own 3 ah av.2.2,own 3 v0_10 p0_10,own 102 v0_11 p0_11,own 39 a5 a0.1]++Γ)) (fun(av: (List aX)×(List Int)×(List Int)) (σ:Nat→Value) (w:World)=>∃(af:Value) (us452:List aW),agree σ [(0,(vp b0 0))]∧Holds E w ([bc 57 b0 [v0_0,v0_1,v0_2,v0_3,v0_4,v0_5,v0_6,af,ae,ah,v0_10,v0_11],own 42 af us452,eZ aV us452 av.1 none,rd v0_2 p0_2,rd v0_3 p0_3,rd v0_5 p0_5,rd v0_6 p0_6,own 3 ae av.2.1,own 3 ah av.2.2,own 3 v0_10 p0_10,own 102 v0_11 p0_11,own 39 a5 a0.1]++Γ)) hN ?_ ?_ ?_ ?_
 ·have hw:=hw.tG aV
  have hw:=hw.bW aW 42
  exact⟨(.slice none 0 0),([]:List aW),(ag zr),hw.pk 18 [7,0,1,8,9,10,11,5,6,14,15,2] zr⟩
 ·intro hm av σ w hI
  obtain⟨dy,us616,ha,hw⟩:=hI
  obtain⟨τ,rfl⟩:=ha.aO
  refine RC.sr (ic ((a0.1.length:Int)) ((a0.1.length:Int)) zr zr zr zr (RL.nq (RC.cG k6 (RC.ex ?_))))
  exact⟨rfl,dy,us616,⟨rfl,zt⟩,hw.pk 12 [0,1,2,3,4,5,6,7,8,9,10,11] zr⟩
 ·intro hm bh av s' σ w hk hI hb
  obtain⟨a1,us454,ha,hw⟩:=hI
  obtain⟨τ,rfl⟩:=ha.aO
  refine RC.sr (ic ((bh:Int)) ((a0.1.length:Int)) zr zr zr zr (RL.nq (RC.cF (kZ hk) (RC.ss (RC.bs ?_)))))
  obtain⟨bf,cl,hb⟩:=bd hb
  refine RL.aZ (i:=11) zt zr hw zr zr zr xP cl (RL.eV (i:=11) (f:=(fun x=>x)) zt zr hw zr (f0 hw (i:=11) zr cl 0) zr (aP cl).2.1 Fd.self cT fun bj hw=>(aN bj zr zr (RL.ns (RL.ry zt zr hw DU zr fun bk w hw=>(RL.nq (RC.sr (mv bj zr zr (RL.bA (i:=1) (l:=bf) zt zr hw zr zr iO ?_))))))))
  refine mv (vi 0) zr zr (RL.nt ?_)
  obtain⟨ab,hN,hb⟩:=bd hb
  refine RC.fold (fun(br:Nat) (ab: (List Int)×(List Int)×(List Int)×(List Int)) (σ:Nat→Value) (w:World)=>∃c0 c1:Value,agree σ [(0,(vp b0 0)),(2,(vi (p0_5.length:Int))),(10,(vp bk 0)),(72,a5),(73,(vi (a0.1.length:Int))),(74,(vi (bh:Int))),(78,bj),(79,(vi (bf.length:Int))),(80,(vi (br:Int)))]∧Holds E w ([bc 57 b0 [v0_0,v0_1,v0_2,v0_3,v0_4,v0_5,v0_6,a1,ae,ah,v0_10,v0_11],rd v0_2 p0_2,rd v0_3 p0_3,rd v0_5 p0_5,rd v0_6 p0_6,own 42 a1 us454,eZ aV us454 av.1 none,own 3 ae ab.1,own 3 ah ab.2.1,own 3 v0_10 p0_10,own 102 v0_11 p0_11,bc 42 bk [c0,c1,(.slice none 0 0)],own 3 c0 ab.2.2.1,own 3 c1 ab.2.2.2,own 39 a5 a0.1,rd bj bf]++Γ)) (fun(ab: (List Int)×(List Int)×(List Int)×(List Int)) (σ:Nat→Value) (w:World)=>∃bb a8:Value,agree σ [(0,(vp b0 0)),(2,(vi (p0_5.length:Int))),(10,(vp bk 0)),(72,a5),(73,(vi (a0.1.length:Int))),(74,(vi (bh:Int)))]∧Holds E w ([bc 57 b0 [v0_0,v0_1,v0_2,v0_3,v0_4,v0_5,v0_6,a1,ae,ah,v0_10,v0_11],rd v0_2 p0_2,rd v0_3 p0_3,rd v0_5 p0_5,rd v0_6 p0_6,own 42 a1 us454,eZ aV us454 av.1 none,own 3 ae ab.1,own 3 ah ab.2.1,own 3 v0_10 p0_10,own 102 v0_11 p0_11,bc 42 bk [bb,a8,(.slice none 0 0)],own 3 bb ab.2.2.1,own 3 a8 ab.2.2.2,own 39 a5 a0.1,rd bj bf]++Γ)) hN ?_ ?_ ?_ ?_
  ·have hw:=hw.bW Int 3
   have hw:=hw.bW Int 3
   exact⟨(.slice none 0 0),(.slice none 0 0),(ag zr),hw.pk 16 [4,7,8,9,10,5,6,11,12,13,14,2,1,0,15,3] zr⟩
  ·intro hm ab σ w hI
   obtain⟨dz,d0,ha,hw⟩:=hI
   obtain⟨τ,rfl⟩:=ha.aO
   refine RC.sr (ic ((bf.length:Int)) ((bf.length:Int)) zr zr zr zr (RL.nq (RC.cG k6 (RC.ex ?_))))
   exact⟨rfl,dz,d0,(ag zr),hw.pk 16 [0,1,2,3,4,5,6,7,8,9,10,11,12,13,14,15] zr⟩
  ·intro hm br ab s' σ w hk hI hb
   obtain⟨b7,cm,ha,hw⟩:=hI
   obtain⟨τ,rfl⟩:=ha.aO
   refine RC.sr (ic ((br:Int)) ((bf.length:Int)) zr zr zr zr (RL.nq (RC.cF (kZ hk) (RC.ss (RC.bs ?_)))))
   obtain⟨aw,d3,hb⟩:=bd hb
   refine RL.bO (i:=15) zt zr hw zr zr zr dB d3 fun e3 hw=>(RL.aY (i:=0) (y:=aw) zt zr hw zr zr bV (aN (vi aw) zr zr (RL.nt (RC.bs (mv (vi aw) zr zr (mv (vi (p0_5.length:Int)) zr zr (ic aw ((p0_5.length:Int)) zr zr zr zr (aN (vb (decide (aw< (p0_5.length:Int)))) zr zr ?_))))))))
   refine RL.nt ?_
   obtain⟨bt,hj,hb⟩:=bd hb
   refine RC.jn (fun(bt: (List Int)×(List Int)×(List Int)×(List Int)) (σ:Nat→Value) (w:World)=>∃b8 b9:Value,agree σ [(0,(vp b0 0)),(2,(vi (p0_5.length:Int))),(10,(vp bk 0)),(72,a5),(73,(vi (a0.1.length:Int))),(74,(vi (bh:Int))),(78,bj),(79,(vi (bf.length:Int))),(80,(vi (br:Int)))]∧Holds E w ([bc 57 b0 [v0_0,v0_1,v0_2,v0_3,v0_4,v0_5,v0_6,a1,ae,ah,v0_10,v0_11],rd v0_2 p0_2,rd v0_3 p0_3,rd v0_5 p0_5,rd v0_6 p0_6,own 42 a1 us454,eZ aV us454 av.1 none,own 3 ae bt.1,own 3 ah bt.2.1,own 3 v0_10 p0_10,own 102 v0_11 p0_11,bc 42 bk [b8,b9,(.slice none 0 0)],own 3 b8 bt.2.2.1,own 3 b9 bt.2.2.2,own 39 a5 a0.1,rd bj bf]++Γ)) bt ?_ ?_
   ·refine eI hj zr (fun hc hj=>?_) fun hc hj=>?_
    ·refine RC.seq (RC.An mixed rfl [0,0,0,0,0,0,0,0,0,0,0,2] [0,1,2,3,4,5,6,7,8,9,10,11] (by kernel_rfl) ?_)
     have hw:=hw.drew
     refine DP.e0 zr zr (mv (vp b0 0) zr zr (cY zr zr (RL.nilCheck zt zr zr (cY zr zr (RL.bD zt zr zr wq (cY zr zr (RL.bF (i:=1) (v:=ae) zt zr hw zr zr zr cT (cY zr zr ?_))))))))
     refine mv (vi aw) zr zr (cY zr zr (mv (vp b0 0) zr zr (cY zr zr (RL.nilCheck zt zr zr (cY zr zr (RL.bD zt zr zr mF (cY zr zr (RL.bF (i:=1) (v:=a1) zt zr hw zr zr zr vg ?_))))))))
     refine cY zr zr (RL.mz (i:=6) (b:=7) (xs:=av.1) zt zr hw zr zr zr za (cY zr zr ?_))
     obtain⟨e4,cn,hj⟩:=bd hj
     refine RL.aZ (i:=8) zt zr hw zr zr zr dB cn (yO zr zr ?_)
     have hw:=hw.sc (γ:=Int) (av.1.length:Int)
     refine RL.eP (i:=9) (j:=0) (f:=(fun _ y=>y)) trivial hw rfl rfl (f0 hw (i:=9) rfl cn 0) rfl (aP cn).2.1 rfl Fs.self (by decide) bV fun w hw=>(DP.d2 trivial (DP.z (aG (RC.region (RL.bD trivial rfl rfl og (RL.bF (i:=13) (v:=b7) trivial rfl hw rfl rfl rfl cT (mv (vi aw) rfl rfl ?_)))))))
     have hw:=hw.sc (γ:=Int) aw
     refine RL.dQ (l:=([aw]: (List Int))) zt zr hw [(vi aw)] zr zr zr dB zY (fun M hs g=>⟨(g.sat 0 _ zr).1,zt⟩) fun e5 w hw=>?_
     have hw:=hw.freeze (i:=0) rfl
     obtain⟨e6,d4,hj⟩:=bd hj
     refine RL.app (i:=16) (j:=0) zt zr hw zr zr zr zr p6 d4 fun c2 w hw=>(RL.bD zt zr zr og (RL.fQ (i:=15) (v:=c2) zt hw zr zr zr zr (gh hw (i:=16) zr) cT fun w hw=>(RL.nil ?_)))
     obtain rfl:=oi hj
     exact⟨rfl,c2,cm,(ag zr),hw.pk 20 [4,5,6,7,8,9,10,11,12,13,14,15,16,17,18,19] zr⟩
    refine RC.sr (mv (vp b0 0) zr zr (RL.nilCheck zt zr zr (RL.bD zt zr zr lQ (RL.bD zt zr zr jM (RL.bF (i:=1) (v:=v0_2) zt zr hw zr zr zr qQ (mv (vi aw) zr zr (mv (vi (p0_5.length:Int)) zr zr (RL.gq (a:=aw) (b:=(p0_5.length:Int)) zt zr zr zr zr ?_))))))))
    obtain⟨c3,d5,hj⟩:=bd hj
    refine RL.bO (i:=2) zt zr hw zr zr zr tT d5 fun e7 hw=>(RL.gJ (i:=0) (f:=fun(x:bB)=>x.bP) zt zr hw zr zr p9 j5 fun e8 hw=>(RL.aY (i:=0) (y:=c3.bP) zt zr hw zr zr Bw (aN (vb c3.bP) zr zr (RL.nt ?_))))
    obtain⟨ca,hjj,hj⟩:=bd hj
    refine RC.jn (fun(ca: (List Int)×(List Int)) (σ:Nat→Value) (w:World)=>∃cb:Value,agree σ [(0,(vp b0 0)),(2,(vi (p0_5.length:Int))),(10,(vp bk 0)),(72,a5),(73,(vi (a0.1.length:Int))),(74,(vi (bh:Int))),(78,bj),(79,(vi (bf.length:Int))),(80,(vi (br:Int)))]∧Holds E w ([bc 57 b0 [v0_0,v0_1,v0_2,v0_3,v0_4,v0_5,v0_6,a1,ae,ah,v0_10,v0_11],rd v0_2 p0_2,rd v0_3 p0_3,rd v0_5 p0_5,rd v0_6 p0_6,own 42 a1 us454,eZ aV us454 av.1 none,own 3 ae ab.1,own 3 ah ca.1,own 3 v0_10 p0_10,own 102 v0_11 p0_11,bc 42 bk [b7,cb,(.slice none 0 0)],own 3 cb ca.2,own 3 b7 ab.2.2.1,own 39 a5 a0.1,rd bj bf]++Γ)) ca ?_ ?_
    ·refine eI hjj zr (fun hc hjj=>?_) fun hc hjj=>?_
     rotate_left
     ·refine RC.region (mv (vp b0 0) zr zr (RL.nilCheck zt zr zr (RL.bD zt zr zr tX (RL.bF (i:=3) (v:=ah) zt zr hw zr zr zr cT (mv (vi aw) zr zr (mv (vi (p0_5.length:Int)) zr zr (RL.gq (a:=aw) (b:=(p0_5.length:Int)) zt zr zr zr zr ?_)))))))
      obtain⟨e9,cp,hjj⟩:=bd hjj
      refine RL.aZ (i:=11) zt zr hw zr zr zr dB cp ?_
      have hw:=hw.sc (γ:=Int) (-1)
      refine RL.eP (i:=12) (j:=0) (f:=(fun _ y=>y)) trivial hw rfl rfl (f0 hw (i:=12) rfl cp 0) rfl (aP cp).2.1 rfl Fs.self (by decide) bV fun w hw=>(RL.nil ?_)
      obtain rfl:=oi hjj
      exact⟨rfl,cm,(ag zr),hw.pk 20 [4,5,6,7,8,9,10,11,12,13,14,15,17,16,18,19] zr⟩
     refine RC.seq (RC.An mixed rfl [0,0,0,0,0,0,0,0,0,0,0,0,0,2] [0,1,2,3,4,5,6,7,8,9,10,11,12,13] (by kernel_rfl) ?_)
     have hw:=hw.drew
     refine DP.e0 zr zr (mv (vp b0 0) zr zr (cY zr zr (RL.nilCheck zt zr zr (cY zr zr (RL.bD zt zr zr tX (cY zr zr (RL.bF (i:=3) (v:=ah) zt zr hw zr zr zr cT (cY zr zr ?_))))))))
     refine mv (vi aw) zr zr (cY zr zr (mv (vi (p0_5.length:Int)) zr zr (cY zr zr (RL.gq (a:=aw) (b:=(p0_5.length:Int)) zt zr zr zr zr (cY zr zr (mv (vp b0 0) zr zr (cY zr zr (RL.nilCheck zt zr zr ?_))))))))
     refine cY zr zr (RL.bD zt zr zr mF (cY zr zr (RL.bF (i:=3) (v:=a1) zt zr hw zr zr zr vg (cY zr zr (RL.mz (i:=8) (b:=9) (xs:=av.1) zt zr hw zr zr zr za (cY zr zr ?_))))))
     obtain⟨fa,cq,hjj⟩:=bd hjj
     refine RL.aZ (i:=11) zt zr hw zr zr zr dB cq (yO zr zr ?_)
     have hw:=hw.sc (γ:=Int) (av.1.length:Int)
     refine RL.eP (i:=12) (j:=0) (f:=(fun _ y=>y)) trivial hw rfl rfl (f0 hw (i:=12) rfl cq 0) rfl (aP cq).2.1 rfl Fs.self (by decide) bV fun w hw=>(DP.d2 trivial (DP.z (aG (RC.region (RL.bD trivial rfl rfl tY (RL.bF (i:=15) (v:=cm) trivial rfl hw rfl rfl rfl cT (mv (vi aw) rfl rfl (mv (vi (p0_5.length:Int)) rfl rfl ?_))))))))
     refine RL.gq (a:=aw) (b:=(p0_5.length:Int)) zt zr zr zr zr ?_
     have hw:=hw.sc (γ:=Int) (IntKind.wrap .i64 (aw - (p0_5.length:Int)))
     refine RL.dQ (l:=([(IntKind.wrap .i64 (aw - (p0_5.length:Int)))]: (List Int))) zt zr hw [(vi (IntKind.wrap .i64 (aw - (p0_5.length:Int))))] zr zr zr dB zY (fun M hs g=>⟨(g.sat 0 _ zr).1,zt⟩) fun fb w hw=>?_
     have hw:=hw.freeze (i:=0) rfl
     obtain⟨fc,d6,hjj⟩:=bd hjj
     refine RL.app (i:=19) (j:=0) zt zr hw zr zr zr zr p6 d6 fun c4 w hw=>(RL.bD zt zr zr tY (RL.fQ (i:=17) (v:=c4) zt hw zr zr zr zr (gh hw (i:=19) zr) cT fun w hw=>(RL.nil ?_)))
     obtain rfl:=oi hjj
     exact⟨rfl,c4,(ag zr),hw.pk 22 [6,7,8,9,10,11,12,13,14,15,16,17,19,18,20,21] zr⟩
    rintro σ w ⟨cb,ha,hw⟩
    obtain⟨τ,rfl⟩:=ha.aO
    obtain rfl:=oi hj
    exact⟨rfl,b7,cb,(ag zr),hw.pk 16 [0,1,2,3,4,5,6,7,8,9,10,11,13,12,14,15] zr⟩
   rintro σ w ⟨b8,b9,ha,hw⟩
   obtain⟨τ,rfl⟩:=ha.aO
   refine bI (bI (aG (RC.region (RL.inc zt zr hk hm zr zr (mv (vi ((br+1:Nat):Int)) zr zr (RL.nil ?_))))))
   obtain rfl:=oi hb
   exact⟨rfl,b8,b9,(ag zr),hw.pk 16 [0,1,2,3,4,5,6,7,8,9,10,11,12,13,14,15] zr⟩
  intro σ w hJ
  obtain⟨bb,a8,ha,hw⟩:=hJ
  obtain⟨τ,rfl⟩:=ha.aO
  refine aG (RC.sr (RL.bD zt zr zr og (RL.bF (i:=11) (v:=bb) zt zr hw zr zr zr cT (RL.cW (i:=12) (l:=ab.2.2.1) zt zr hw zr zr iO (RL.bD zt zr zr tY (RL.bF (i:=11) (v:=a8) zt zr hw zr zr zr cT (RL.cW (i:=13) (l:=ab.2.2.2) zt zr hw zr zr iO (RL.gq (a:=(ab.2.2.1.length:Int)) (b:=(ab.2.2.2.length:Int)) zt zr zr zr zr ?_))))))))
  refine ic ((IntKind.wrap .i64 ((ab.2.2.1.length:Int)+ (ab.2.2.2.length:Int)))) 0 zr zr zr zr (RL.nt ?_)
  obtain⟨cr,hj,hb⟩:=bd hb
  refine RC.jn (fun(cr: (List aX)) (σ:Nat→Value) (w:World)=>∃(cc:Value) (us608:List aW),agree σ [(0,(vp b0 0)),(2,(vi (p0_5.length:Int))),(72,a5),(73,(vi (a0.1.length:Int))),(74,(vi (bh:Int)))]∧Holds E w ([bc 57 b0 [v0_0,v0_1,v0_2,v0_3,v0_4,v0_5,v0_6,cc,ae,ah,v0_10,v0_11],own 42 cc us608,eZ aV us608 cr none,rd v0_2 p0_2,rd v0_3 p0_3,rd v0_5 p0_5,rd v0_6 p0_6,own 3 ae ab.1,own 3 ah ab.2.1,own 3 v0_10 p0_10,own 102 v0_11 p0_11,own 39 a5 a0.1]++Γ)) cr ?_ ?_
  ·refine eI hj zr (fun hc hj=>?_) fun hc hj=>?_
   rotate_left
   ·refine RC.skip ?_
    obtain rfl:=oi hj
    exact⟨rfl,a1,us454,(ag zr),hw.pk 16 [0,5,6,1,2,3,4,7,8,9,10,14] zr⟩
   obtain⟨d7,d8,hj⟩:=bd hj
   refine RC.sG (E:=E) (Γ:=Γ) mixed rfl [1,1,1,1,0,0,0,0,1,1,0] [6,7,10] (fun(x:Value×Value)=>(fun a6 a3=>[(0,155,(vp b0 0)),(1,156,(vp b0 0)),(2,157,(vp b0 0)),(3,158,(vp b0 7)),(4,159,a1),(5,160,(.agg ([bb,a8,(.slice none 0 0)]:List Value).toArray)),(6,161,a6),(7,162,a3),(8,163,(vp b0 0)),(9,164,(vp b0 7))]) x.1 x.2) [(0,(vp b0 0)),(2,(vi (p0_5.length:Int))),(10,(vp bk 0)),(72,a5),(73,(vi (a0.1.length:Int))),(74,(vi (bh:Int)))] [] (fun(D:Nat→Bool) (x:Value×Value)=>(fun a6 a3=>[bif D 1 then (rd a6 ([(⟨ab.2.2.1,ab.2.2.2,(rv (.slice none 0 0))⟩:aW)]:List aW)) else (bif D 0 then (own 42 a6 ([(⟨ab.2.2.1,ab.2.2.2,(rv (.slice none 0 0))⟩:aW)]:List aW)) else aI),bif D 1 then (aI) else (bif D 0 then (own 73 (.slice none 0 0) ([]: (List dC))) else aI),bif D 2 then (bc 57 b0 [v0_0,v0_1,v0_2,v0_3,v0_4,v0_5,v0_6,a3,ae,ah,v0_10,v0_11]) else (bc 57 b0 [v0_0,v0_1,v0_2,v0_3,v0_4,v0_5,v0_6,a1,ae,ah,v0_10,v0_11]),rd v0_2 p0_2,rd v0_3 p0_3,rd v0_5 p0_5,rd v0_6 p0_6,bif D 1 then (own 42 a3 (us454++[(⟨ab.2.2.1,ab.2.2.2,(rv (.slice none 0 0))⟩:aW)])) else (own 42 a1 us454),bif D 1 then (eZ aV (us454++[(⟨ab.2.2.1,ab.2.2.2,(rv (.slice none 0 0))⟩:aW)]) d7 none) else (eZ aV us454 av.1 none),own 3 ae ab.1,own 3 ah ab.2.1,own 3 v0_10 p0_10,own 102 v0_11 p0_11,bc 42 bk [bb,a8,(.slice none 0 0)],bif D 0 then (rd bb ab.2.2.1) else (own 3 bb ab.2.2.1),bif D 0 then (rd a8 ab.2.2.2) else (own 3 a8 ab.2.2.2),own 39 a5 a0.1,rd bj bf]) x.1 x.2) (fun x=>by kernel_rfl) ?_ ⟨fun _=>dX gn rfl,fun _=>dX gn rfl,fun _=>pY gn rfl,fun _=>fJ gn mF rfl,?_,?_,?_,?_,fun _=>pY gn rfl,fun _=>fJ gn mF rfl,?_,trivial⟩ ?_
   ·have hw:=hw.drew
    have hw:=hw.aI
    have hw:=hw.aI
    exact⟨(undef,undef),doneV.none,(ag zr),zt,hw⟩
   ·rintro D σ w hD hdep hcl ⟨⟨a6,a3⟩,hv,ha,_,hw⟩
    obtain⟨τ,rfl⟩:=(ac (hv.at 3 rfl (hdep.1 rfl)) az).aO
    have hw:=hw.aQ (i:=2) rfl (nf (fun h=>ft hD ((hcl 10 _ rfl h).2.2.2.2.2.2.2.1 rfl)))
    refine RL.bF (i:=2) (v:=a1) zt zr hw zr zr zr vg ?_
    have hw:=hw.cJ (i:=2) (b:=D 10) rfl (nf (fun h=>ft hD ((hcl 10 _ rfl h).2.2.2.2.2.2.2.1 rfl))) (bc 57 b0 [v0_0,v0_1,v0_2,v0_3,v0_4,v0_5,v0_6,a3,ae,ah,v0_10,v0_11])
    exact RL.nil ⟨rfl,(a6,a3),hv.put 4 zr zr,ha.up zr,zt,hw⟩
   ·rintro D σ w hD hdep hcl ⟨⟨a6,a3⟩,hv,ha,_,hw⟩
    obtain⟨τ,rfl⟩:=(ac (ha.at 2 rfl) az).aO
    refine RL.yD (i:=13) (cs:=[bb,a8,(.slice none 0 0)]) zt zr hw zr zr BB zr ?_
    exact RL.nil ⟨rfl,(a6,a3),hv.put 5 zr zr,ha.up zr,zt,hw⟩
   ·rintro D σ w hD hdep hcl ⟨⟨a6,a3⟩,hv,ha,_,hw⟩
    obtain⟨τ,rfl⟩:=(ac (hv.at 5 rfl (hdep.1 rfl)) az).aO
    have hw:=hw.aQ (i:=0) rfl (nf (fun h=>ft hD ((hcl 7 _ rfl h).2.1 rfl)))
    have hw:=hw.aQ (i:=0) rfl hD
    have hw:=hw.aQ (i:=1) rfl (nf (fun h=>ft hD ((hcl 7 _ rfl h).2.1 rfl)))
    have hw:=hw.aQ (i:=1) rfl hD
    have hw:=hw.aQ (i:=14) rfl hD
    have hw:=hw.aQ (i:=15) rfl hD
    have hw:=hw.bW dC 73
    have hw:=hw.wR (i:=0) rfl
    have hw:=hw.freeze (i:=16) rfl
    have hw:=hw.freeze (i:=17) rfl
    have hw:=hw.Bh (cs:=[bb,a8,(.slice none 0 0)]) (x:=(⟨ab.2.2.1,ab.2.2.2,(rv (.slice none 0 0))⟩:aW)) (fun M hs g=>⟨[bb],[a8,(.slice none 0 0)],rfl,(tF rfl (g.sat 16 _ rfl).1),⟨[a8],[(.slice none 0 0)],rfl,(tF rfl (g.sat 17 _ rfl).1),(tF rfl (g.sat 0 _ rfl).1)⟩⟩) rfl
    refine RL.dQ (l:=([(⟨ab.2.2.1,ab.2.2.2,(rv (.slice none 0 0))⟩:aW)]:List aW)) zt zr hw [(.agg ([bb,a8,(.slice none 0 0)]:List Value).toArray)] zr zr zr tZ Cw (fun M hs g=>⟨(g.sat 0 _ zr).1,zt⟩) fun c5 w hw=>?_
    have hw:=hw.pl 22 [0,3,6,7,8,9,10,11,12,13,14,15,16,17,18,19,20,21] rfl
    have hw:=hw.aT (i:=0) (b:=true) rfl rfl (aI)
    have hw:=hw.cJ (i:=0) (b:=D 7) rfl (nf (fun h=>ft hD ((hcl 7 _ rfl h).2.1 rfl))) (rd c5 ([(⟨ab.2.2.1,ab.2.2.2,(rv (.slice none 0 0))⟩:aW)]:List aW))
    have hw:=hw.aT (i:=1) (b:=true) rfl rfl (aI)
    have hw:=hw.cJ (i:=1) (b:=D 7) rfl (nf (fun h=>ft hD ((hcl 7 _ rfl h).2.1 rfl))) (aI)
    have hw:=hw.aT (i:=14) (b:=true) rfl rfl (own 3 bb ab.2.2.1)
    have hw:=hw.aT (i:=15) (b:=true) rfl rfl (own 3 a8 ab.2.2.2)
    exact RL.nil ⟨rfl,(c5,a3),hv.put 6 zr zr,ha.up zr,zt,hw⟩
   ·rintro D σ w hD hdep hcl ⟨⟨a6,a3⟩,hv,ha,_,hw⟩
    obtain⟨τ,rfl⟩:=(ac (hv.at 4 rfl (hdep.1 rfl)) (ac (hv.at 6 rfl (hdep.2.1 rfl)) az)).aO
    have hw:=hw.aQ (i:=0) rfl hD
    have hw:=hw.aS (i:=0) rfl (hdep.2.1 rfl)
    have hw:=hw.aQ (i:=1) rfl hD
    have hw:=hw.aS (i:=1) rfl (hdep.2.1 rfl)
    have hw:=hw.aQ (i:=2) rfl (nf (fun h=>ft hD ((hcl 10 _ rfl h).2.1 rfl)))
    have hw:=hw.aQ (i:=7) rfl hD
    have hw:=hw.aQ (i:=8) rfl hD
    have hw:=hw.freeze (i:=0) rfl
    refine RL.xA (i:=7) (j:=0) (b:=8) (o:=1) (X:=aV) (ur:=(⟨ab.2.2.1,ab.2.2.2,(rv (.slice none 0 0))⟩:aW)) (xr:=(⟨ab.2.2.1,ab.2.2.2,([]: (List dC))⟩:aX)) (u:=(.slice none 0 0)) (y:=([]: (List dC))) (fun _ _ ho=>⟨⟨rfl,rfl⟩,ho⟩) trivial rfl hw rfl rfl rfl rfl rfl rfl (by decide) (by decide) (by decide) DV d8 fun c6 w hw=>?_
    have hw:=hw.aT (i:=0) (b:=true) rfl rfl (bif D 6 then (own 42 a6 ([(⟨ab.2.2.1,ab.2.2.2,(rv (.slice none 0 0))⟩:aW)]:List aW)) else aI)
    have hw:=hw.aT (i:=1) (b:=true) rfl rfl (bif D 6 then (own 73 (.slice none 0 0) ([]: (List dC))) else aI)
    have hw:=hw.cJ (i:=2) (b:=D 10) rfl (nf (fun h=>ft hD ((hcl 10 _ rfl h).2.1 rfl))) (bc 57 b0 [v0_0,v0_1,v0_2,v0_3,v0_4,v0_5,v0_6,c6,ae,ah,v0_10,v0_11])
    have hw:=hw.aT (i:=7) (b:=true) rfl rfl (own 42 a1 us454)
    have hw:=hw.aT (i:=8) (b:=true) rfl rfl (eZ aV us454 av.1 none)
    exact RL.nil ⟨rfl,(a6,c6),hv.put 7 zr zr,ha.up zr,zt,hw⟩
   ·rintro D σ w hD hdep hcl ⟨⟨a6,a3⟩,hv,ha,_,hw⟩
    obtain⟨τ,rfl⟩:=(ac (hv.at 7 rfl (hdep.2.1 rfl)) (ac (hv.at 9 rfl (hdep.1 rfl)) az)).aO
    have hw:=hw.aQ (i:=2) rfl hD
    have hw:=hw.aS (i:=7) rfl (hdep.2.1 rfl)
    have hw:=hw.aS (i:=8) rfl (hdep.2.1 rfl)
    refine RL.fQ (i:=2) (v:=a3) zt hw zr zr zr zr (gh hw (i:=7) zr) vg fun w hw=>?_
    have hw:=hw.aT (i:=2) (b:=true) rfl rfl (bc 57 b0 [v0_0,v0_1,v0_2,v0_3,v0_4,v0_5,v0_6,a1,ae,ah,v0_10,v0_11])
    have hw:=hw.aT (i:=7) (b:=D 7) rfl (hdep.2.1 rfl) (own 42 a1 us454)
    have hw:=hw.aT (i:=8) (b:=D 7) rfl (hdep.2.1 rfl) (eZ aV us454 av.1 none)
    exact RL.nil ⟨rfl,(a6,a3),hv.no zr,ha,zt,hw⟩
   rintro D σ w hall ⟨⟨a6,a3⟩,hv,ha,_,hw⟩
   have hw:=hw.aS (i:=0) rfl (hall 7 (by decide))
   have hw:=hw.aS (i:=1) rfl (hall 7 (by decide))
   have hw:=hw.aS (i:=2) rfl (hall 10 (by decide))
   have hw:=hw.aS (i:=7) rfl (hall 7 (by decide))
   have hw:=hw.aS (i:=8) rfl (hall 7 (by decide))
   have hw:=hw.aS (i:=14) rfl (hall 6 (by decide))
   have hw:=hw.aS (i:=15) rfl (hall 6 (by decide))
   obtain⟨τ,rfl⟩:=(ac (ha.at 0 rfl) (ac (ha.at 1 rfl) (ac (ha.at 2 rfl) (ac (ha.at 3 rfl) (ac (ha.at 4 rfl) (ac (ha.at 5 rfl) az)))))).aO
   obtain rfl:=oi hj
   exact⟨rfl,a3,(us454++[(⟨ab.2.2.1,ab.2.2.2,(rv (.slice none 0 0))⟩:aW)]),(ag zr),hw.pk 18 [2,7,8,3,4,5,6,9,10,11,12,16] zr⟩
  rintro σ w ⟨cc,us608,ha,hw⟩
  obtain⟨τ,rfl⟩:=ha.aO
  refine bI (aG (RC.region (RL.inc zt zr hk hm zr zr (mv (vi ((bh+1:Nat):Int)) zr zr (RL.nil ?_)))))
  obtain rfl:=oi hb
  exact⟨rfl,cc,us608,(ag zr),hw.pk 12 [0,1,2,3,4,5,6,7,8,9,10,11] zr⟩
 intro σ w hJ
 obtain⟨af,us452,ha,hw⟩:=hJ
 obtain⟨τ,rfl⟩:=ha.aO
 refine aG (RC.sr (mv (vp b0 0) zr zr (RL.nilCheck zt zr zr (RL.bD zt zr zr lQ (RL.bD zt zr zr p8 (RL.bF (i:=0) (v:=v0_3) zt zr hw zr zr zr xN (RL.bA (i:=4) (l:=p0_3) zt zr hw zr zr yX (mv (vi 0) zr zr ?_))))))))
 refine RL.nt ?_
 obtain⟨ad,hN,hb⟩:=bd hb
 refine RC.fold (fun(bo:Nat) (ad: (List aX)×(List Int)×(List Int)×(List Int)×(List fZ)) (σ:Nat→Value) (w:World)=>∃(c7:Value) (c8:Value) (c9:Value) (da:Value) (us831:List aW),agree σ [(0,(vp b0 0)),(170,v0_3),(171,(vi (p0_3.length:Int))),(172,(vi (bo:Int)))]∧Holds E w ([bc 57 b0 [v0_0,v0_1,v0_2,v0_3,v0_4,v0_5,v0_6,af,c7,c8,c9,da],rd c7 ad.2.1,rd c8 ad.2.2.1,own 3 c9 ad.2.2.2.1,own 102 da ad.2.2.2.2,rd v0_2 p0_2,rd v0_3 p0_3,rd v0_5 p0_5,rd v0_6 p0_6,own 42 af us831,eZ aV us831 ad.1 none]++Γ)) (fun(ad: (List aX)×(List Int)×(List Int)×(List Int)×(List fZ)) (σ:Nat→Value) (w:World)=>∃(cd:Value) (cf:Value) (cg:Value) (ch:Value) (us836:List aW),agree σ [(0,(vp b0 0))]∧Holds E w ([bc 57 b0 [v0_0,v0_1,v0_2,v0_3,v0_4,v0_5,v0_6,af,cd,cf,cg,ch],rd cd ad.2.1,rd cf ad.2.2.1,own 3 cg ad.2.2.2.1,own 102 ch ad.2.2.2.2,rd v0_2 p0_2,rd v0_3 p0_3,rd v0_5 p0_5,rd v0_6 p0_6,own 42 af us836,eZ aV us836 ad.1 none]++Γ)) hN ?_ ?_ ?_ ?_
 ·have hw:=hw.freeze (i:=7) rfl
  have hw:=hw.freeze (i:=8) rfl
  exact⟨ae,ah,v0_10,v0_11,us452,(ag zr),hw.pk 12 [0,7,8,9,10,3,4,5,6,1,2] zr⟩
 ·intro hm ad σ w hI
  obtain⟨d9,ea,eb,ec,us944,ha,hw⟩:=hI
  obtain⟨τ,rfl⟩:=ha.aO
  refine RC.sr (ic ((p0_3.length:Int)) ((p0_3.length:Int)) zr zr zr zr (RL.nq (RC.cG k6 (RC.ex ?_))))
  exact⟨rfl,d9,ea,eb,ec,us944,⟨rfl,zt⟩,hw.pk 11 [0,1,2,3,4,5,6,7,8,9,10] zr⟩
 ·intro hm bo ad s' σ w hk hI hb
  obtain⟨ax,ay,bg,a2,us841,ha,hw⟩:=hI
  obtain⟨τ,rfl⟩:=ha.aO
  refine RC.sr (ic ((bo:Int)) ((p0_3.length:Int)) zr zr zr zr (RL.nq (RC.cF (kZ hk) (RC.ss (RC.bs ?_)))))
  obtain⟨bu,ed,hb⟩:=bd hb
  refine RL.bO (i:=6) zt zr hw zr zr zr Aq ed fun ee hw=>(RL.bT (i:=0) (x:=bu) zt zr hw zr zr rJ fun ef hw=>(RL.alloc zt zr hw Bq.z fun db w hw=>(RL.bC (i:=0) (j:=1) zt hw zr zr zr zr rJ zr fun w hw=>(RL.ns (mv (vp b0 0) zr zr (RL.aU (i:=0) (f:=(fun x=>x)) zt zr hw zr zr Fd.self rJ fun dc hw=>?_))))))
  have hw:=hw.dup (i:=11) rfl
  have hw:=hw.dup (i:=10) rfl
  have hw:=hw.pull (i:=6) rfl
  obtain⟨a7,eg,hb⟩:=bd hb
  refine RL.call zt zr DX [(vp b0 0),dc] zr (aF (mn N (i1:=0) hw zr eg) ?_)
  rintro _ w ⟨ct,rfl,hw⟩
  refine mv (.tuple #[ct,(vb a7.2)]) zr zr (RL.extract (v:=ct) zt zr zr zr (RL.extract (v:=(vb a7.2)) zt zr zr zr (RL.alloc zt zr hw zb.z fun bw w hw=>(RL.bC (i:=0) (j:=1) zt hw zr zr zr zr oV zr fun w hw=>(aN (vb a7.2) zr zr (RL.ns (aN (vi (-1)) zr zr (RL.nq ?_))))))))
  refine RC.sr (mv (vb a7.2) zr zr (RL.nt ?_))
  obtain⟨a9,hj,hb⟩:=bd hb
  refine RC.jn (fun(a9: (List aX)×Int) (σ:Nat→Value) (w:World)=>∃(us889:List aW),agree σ [(0,(vp b0 0)),(15,(vp bw 0)),(17,(vi a9.2)),(170,v0_3),(171,(vi (p0_3.length:Int))),(172,(vi (bo:Int)))]∧Holds E w ([bc 57 b0 [v0_0,v0_1,v0_2,v0_3,v0_4,v0_5,v0_6,af,ax,ay,bg,a2],rd v0_2 p0_2,rd v0_3 p0_3,rd v0_5 p0_5,rd v0_6 p0_6,own 42 af us889,eZ aV us889 a9.1 none,rd ax ad.2.1,rd ay ad.2.2.1,own 3 bg ad.2.2.2.1,own 102 a2 ad.2.2.2.2,bx 102 bw a7.1]++Γ)) a9 ?_ ?_
  ·refine eI hj zr (fun hc hj=>?_) fun hc hj=>?_
   rotate_left
   ·refine RC.skip ?_
    obtain rfl:=oi hj
    exact⟨rfl,us841,(ag zr),hw.pk 18 [2,12,13,14,15,16,17,8,9,10,11,0] zr⟩
   refine RC.sr (mv (vp b0 0) zr zr (RL.aU (i:=0) (f:=(fun x=>x)) zt zr hw zr zr Fd.self oV fun dd hw=>?_))
   have hw:=hw.dup (i:=10) rfl
   have hw:=hw.dup (i:=10) rfl
   have hw:=hw.pull (i:=5) rfl
   obtain⟨aa,eh,hj⟩:=bd hj
   refine RL.call zt zr DY [(vp b0 0),dd] zr (aF (kl N (i1:=0) hw zr eh) ?_)
   rintro _ w ⟨rfl,hw⟩
   refine aN (vi aa) zr zr (RL.nt ?_)
   obtain⟨fe,b4,hj⟩:=bd hj
   obtain⟨bz,ei,hj⟩:=bd hj
   obtain⟨bl,ej,hj⟩:=bd hj
   obtain⟨bp,cj,hj⟩:=bd hj
   refine RC.sG (E:=E) (Γ:=Γ) mixed rfl [1,1,1,0,1,1,1,1,0,1,0,0,0,0,0,0,0,0,0,0] [13,14,15,16,19] (fun(x:Value×Value×Value×Value)=>(fun al an ak ai=>[(0,186,(vp b0 0)),(1,187,(vp b0 0)),(2,188,(vp b0 7)),(3,189,af),(4,190,(vi aa)),(5,191,(vp b0 0)),(6,192,(vp b0 0)),(7,193,(vp b0 7)),(8,194,af),(9,195,(vi aa)),(10,196,(elA af (Int.toNat aa) 3 0)),(11,197,(elA af (Int.toNat aa) 3 2)),(12,198,(us841.getD (Int.toNat aa) (default:aW)).cB.v),(13,199,al),(14,200,an),(15,201,ak),(16,202,ai),(17,203,(elA af (Int.toNat aa) 3 0)),(18,204,(elA af (Int.toNat aa) 3 2))]) x.1 x.2.1 x.2.2.1 x.2.2.2) [(0,(vp b0 0)),(14,(vp db 0)),(15,(vp bw 0)),(17,(vi aa)),(170,v0_3),(171,(vi (p0_3.length:Int))),(172,(vi (bo:Int)))] [] (fun(D:Nat→Bool) (x:Value×Value×Value×Value)=>(fun al an ak ai=>[bif D 0 then (rd al bu) else aI,bif D 1 then (rd an bz) else aI,bif D 3 then (rd ak ([bz]: (List dC))) else (bif D 2 then (own 73 ak ([bz]: (List dC))) else aI),bif D 4 then (aI) else (bif D 3 then (own 73 ai bl) else aI),bc 57 b0 [v0_0,v0_1,v0_2,v0_3,v0_4,v0_5,v0_6,af,ax,ay,bg,a2],rd dd a7.1,bx 102 bw a7.1,rd ct a7.1,aI,rd dc bu,bx 71 db bu,rd ef bu,pt ee bu,aI,rd ax ad.2.1,rd ay ad.2.2.1,own 3 bg ad.2.2.2.1,own 102 a2 ad.2.2.2.2,rd v0_2 p0_2,rd v0_3 p0_3,rd v0_5 p0_5,rd v0_6 p0_6,bif D 4 then (own 42 af (us841.set (Int.toNat aa) {(us841.getD (Int.toNat aa) (default:aW)) with cB:=rv ai})) else (own 42 af us841),bif D 4 then (eZ aV (us841.set (Int.toNat aa) {(us841.getD (Int.toNat aa) (default:aW)) with cB:=rv ai}) (ad.1.set (Int.toNat aa) {bp with cB:=bl}) none) else (bif D 3 then (eZ aV us841 ad.1 (some (Int.toNat aa))) else (eZ aV us841 ad.1 none))]) x.1 x.2.1 x.2.2.1 x.2.2.2) (fun x=>by kernel_rfl) ?_ ⟨fun _=>dX gn rfl,fun _=>pY gn rfl,fun _=>fJ gn mF rfl,?_,fun _=>dX gn rfl,fun _=>dX gn rfl,fun _=>pY gn rfl,fun _=>fJ gn mF rfl,?_,fun _=>dX gn rfl,?_,?_,?_,?_,?_,?_,?_,?_,?_,?_,trivial⟩ ?_
   ·have hw:=hw.drew
    have hw:=hw.aI
    have hw:=hw.aI
    have hw:=hw.aI
    have hw:=hw.aI
    exact⟨(undef,undef,undef,undef),doneV.none,(ag zr),zt,hw⟩
   ·rintro D σ w hD hdep hcl ⟨⟨al,an,ak,ai⟩,hv,ha,_,hw⟩
    obtain⟨τ,rfl⟩:=(ac (hv.at 2 rfl (hdep.1 rfl)) az).aO
    refine RL.bF (i:=4) (v:=af) zt zr hw zr zr zr vg ?_
    exact RL.nil ⟨rfl,(al,an,ak,ai),hv.put 3 zr zr,ha.up zr,zt,hw⟩
   ·rintro D σ w hD hdep hcl ⟨⟨al,an,ak,ai⟩,hv,ha,_,hw⟩
    obtain⟨τ,rfl⟩:=(ac (hv.at 7 rfl (hdep.1 rfl)) az).aO
    refine RL.bF (i:=4) (v:=af) zt zr hw zr zr zr vg ?_
    exact RL.nil ⟨rfl,(al,an,ak,ai),hv.put 8 zr zr,ha.up zr,zt,hw⟩
   ·rintro D σ w hD hdep hcl ⟨⟨al,an,ak,ai⟩,hv,ha,_,hw⟩
    obtain⟨τ,rfl⟩:=(ac (hv.at 8 rfl (hdep.1 rfl)) (ac (hv.at 9 rfl (hdep.2.1 rfl)) az)).aO
    have hw:=hw.aQ (i:=22) rfl (nf (fun h=>ft hD ((hcl 19 _ rfl h).2.2.2.2.2.2.2.2.2.2.2.2.2.1 rfl)))
    have hw:=hw.aQ (i:=23) rfl (nf (fun h=>ft hD ((hcl 19 _ rfl h).2.2.2.2.2.2.2.2.2.2.2.2.2.1 rfl)))
    have hw:=hw.aQ (i:=23) rfl (nf (fun h=>ft hD ((hcl 11 _ rfl ((hcl 12 _ rfl ((hcl 16 _ rfl h).1 rfl)).1 rfl)).1 rfl)))
    have hl912:=hw.eD (j:=23) rfl
    have hr913:=gj (default:aW) hl912 b4
    refine RL.aZ (i:=22) zt zr hw zr zr zr tZ hr913 ?_
    have hw:=hw.cJ (i:=22) (b:=D 19) rfl (nf (fun h=>ft hD ((hcl 19 _ rfl h).2.2.2.2.2.2.2.2.2.2.2.2.2.1 rfl))) (own 42 af (us841.set (Int.toNat aa) {(us841.getD (Int.toNat aa) (default:aW)) with cB:=rv ai}))
    have hw:=hw.cJ (i:=23) (b:=D 16) rfl (nf (fun h=>ft hD ((hcl 11 _ rfl ((hcl 12 _ rfl ((hcl 16 _ rfl h).1 rfl)).1 rfl)).1 rfl))) (eZ aV us841 ad.1 (some (Int.toNat aa)))
    have hw:=hw.cJ (i:=23) (b:=D 19) rfl (nf (fun h=>ft hD ((hcl 19 _ rfl h).2.2.2.2.2.2.2.2.2.2.2.2.2.1 rfl))) (eZ aV (us841.set (Int.toNat aa) {(us841.getD (Int.toNat aa) (default:aW)) with cB:=rv ai}) (ad.1.set (Int.toNat aa) {bp with cB:=bl}) none)
    exact RL.nil ⟨rfl,(al,an,ak,ai),hv.put 10 zr zr,ha.up zr,zt,hw⟩
   ·rintro D σ w hD hdep hcl ⟨⟨al,an,ak,ai⟩,hv,ha,_,hw⟩
    obtain⟨τ,rfl⟩:=(ac (hv.at 10 rfl (hdep.1 rfl)) az).aO
    have hw:=hw.aQ (i:=22) rfl (nf (fun h=>ft hD ((hcl 19 _ rfl h).2.2.2.2.2.2.2.2.2.2.2.2.2.2.1 rfl)))
    have hw:=hw.aQ (i:=23) rfl (nf (fun h=>ft hD ((hcl 19 _ rfl h).2.2.2.2.2.2.2.2.2.2.2.2.2.2.1 rfl)))
    have hw:=hw.aQ (i:=23) rfl (nf (fun h=>ft hD ((hcl 12 _ rfl ((hcl 16 _ rfl h).1 rfl)).1 rfl)))
    have hl914:=hw.eD (j:=23) rfl
    have hr915:=gj (default:aW) hl914 b4
    refine RL.gO (α:=aW) zt zr zr (f0 hw (i:=22) zr hr915 0) t3 ?_
    have hw:=hw.cJ (i:=22) (b:=D 19) rfl (nf (fun h=>ft hD ((hcl 19 _ rfl h).2.2.2.2.2.2.2.2.2.2.2.2.2.2.1 rfl))) (own 42 af (us841.set (Int.toNat aa) {(us841.getD (Int.toNat aa) (default:aW)) with cB:=rv ai}))
    have hw:=hw.cJ (i:=23) (b:=D 16) rfl (nf (fun h=>ft hD ((hcl 12 _ rfl ((hcl 16 _ rfl h).1 rfl)).1 rfl))) (eZ aV us841 ad.1 (some (Int.toNat aa)))
    have hw:=hw.cJ (i:=23) (b:=D 19) rfl (nf (fun h=>ft hD ((hcl 19 _ rfl h).2.2.2.2.2.2.2.2.2.2.2.2.2.2.1 rfl))) (eZ aV (us841.set (Int.toNat aa) {(us841.getD (Int.toNat aa) (default:aW)) with cB:=rv ai}) (ad.1.set (Int.toNat aa) {bp with cB:=bl}) none)
    exact RL.nil ⟨rfl,(al,an,ak,ai),hv.put 11 zr zr,ha.up zr,zt,hw⟩
   ·rintro D σ w hD hdep hcl ⟨⟨al,an,ak,ai⟩,hv,ha,_,hw⟩
    obtain⟨τ,rfl⟩:=(ac (hv.at 11 rfl (hdep.1 rfl)) az).aO
    have hw:=hw.aQ (i:=22) rfl (nf (fun h=>ft hD ((hcl 19 _ rfl h).2.2.2.2.2.2.2.2.2.2.2.2.2.2.2.1 rfl)))
    have hw:=hw.aQ (i:=23) rfl (nf (fun h=>ft hD ((hcl 19 _ rfl h).2.2.2.2.2.2.2.2.2.2.2.2.2.2.2.1 rfl)))
    have hw:=hw.aQ (i:=23) rfl (nf (fun h=>ft hD ((hcl 16 _ rfl h).1 rfl)))
    have hl916:=hw.eD (j:=23) rfl
    have hr917:=gj (default:aW) hl916 b4
    refine RL.pV (i:=22) (b:=23) (jj:=aa) mE (default:aW) zt zr hw zr (f0 hw (i:=22) zr hr917 2) zr zr b4 zd ?_
    have hw:=hw.cJ (i:=22) (b:=D 19) rfl (nf (fun h=>ft hD ((hcl 19 _ rfl h).2.2.2.2.2.2.2.2.2.2.2.2.2.2.2.1 rfl))) (own 42 af (us841.set (Int.toNat aa) {(us841.getD (Int.toNat aa) (default:aW)) with cB:=rv ai}))
    have hw:=hw.cJ (i:=23) (b:=D 16) rfl (nf (fun h=>ft hD ((hcl 16 _ rfl h).1 rfl))) (eZ aV us841 ad.1 (some (Int.toNat aa)))
    have hw:=hw.cJ (i:=23) (b:=D 19) rfl (nf (fun h=>ft hD ((hcl 19 _ rfl h).2.2.2.2.2.2.2.2.2.2.2.2.2.2.2.1 rfl))) (eZ aV (us841.set (Int.toNat aa) {(us841.getD (Int.toNat aa) (default:aW)) with cB:=rv ai}) (ad.1.set (Int.toNat aa) {bp with cB:=bl}) none)
    exact RL.nil ⟨rfl,(al,an,ak,ai),hv.put 12 zr zr,ha.up zr,zt,hw⟩
   ·rintro D σ w hD hdep hcl ⟨⟨al,an,ak,ai⟩,hv,ha,_,hw⟩
    obtain⟨τ,rfl⟩:=(ac (ha.at 1 rfl) az).aO
    have hw:=hw.aQ (i:=0) rfl hD
    refine RL.aU (i:=10) (f:=(fun x=>x)) zt zr hw zr zr Fd.self rJ fun ek hw=>?_
    have hw:=hw.pl 25 [0,2,3,4,5,6,7,8,9,10,11,12,13,14,15,16,17,18,19,20,21,22,23,24] rfl
    have hw:=hw.aT (i:=0) (b:=true) rfl rfl (aI)
    exact RL.nil ⟨rfl,(ek,an,ak,ai),hv.put 13 zr zr,ha.up zr,zt,hw⟩
   ·rintro D σ w hD hdep hcl ⟨⟨al,an,ak,ai⟩,hv,ha,_,hw⟩
    obtain⟨τ,rfl⟩:=(ac (hv.at 13 rfl (hdep.1 rfl)) az).aO
    have hw:=hw.aS (i:=0) rfl (hdep.1 rfl)
    have hw:=hw.aQ (i:=1) rfl hD
    refine RL.call zt zr Ar [al] zr (aF (iC N (i0:=0) hw zr ei) ?_)
    rintro el w hw
    have hw:=hw.pl 25 [1,0,3,4,5,6,7,8,9,10,11,12,13,14,15,16,17,18,19,20,21,22,23,24] rfl
    have hw:=hw.aT (i:=0) (b:=D 13) rfl (hdep.1 rfl) (aI)
    have hw:=hw.aT (i:=1) (b:=true) rfl rfl (aI)
    exact RL.nil ⟨rfl,(al,el,ak,ai),hv.put 14 zr zr,ha.up zr,zt,hw⟩
   ·rintro D σ w hD hdep hcl ⟨⟨al,an,ak,ai⟩,hv,ha,_,hw⟩
    obtain⟨τ,rfl⟩:=(ac (hv.at 14 rfl (hdep.1 rfl)) az).aO
    have hw:=hw.aS (i:=1) rfl (hdep.1 rfl)
    have hw:=hw.aQ (i:=2) rfl (nf (fun h=>ft hD ((hcl 16 _ rfl h).2.1 rfl)))
    have hw:=hw.aQ (i:=2) rfl hD
    refine RL.dQ (l:=([bz]: (List dC))) zt zr hw [an] zr zr zr Cy Bs (fun M hs g=>⟨(g.sat 1 _ zr).1,zt⟩) fun de w hw=>?_
    have hw:=hw.pl 25 [1,2,0,4,5,6,7,8,9,10,11,12,13,14,15,16,17,18,19,20,21,22,23,24] rfl
    have hw:=hw.aT (i:=1) (b:=D 14) rfl (hdep.1 rfl) (aI)
    have hw:=hw.aT (i:=2) (b:=true) rfl rfl (aI)
    have hw:=hw.cJ (i:=2) (b:=D 16) rfl (nf (fun h=>ft hD ((hcl 16 _ rfl h).2.1 rfl))) (rd de ([bz]: (List dC)))
    exact RL.nil ⟨rfl,(al,an,de,ai),hv.put 15 zr zr,ha.up zr,zt,hw⟩
   ·rintro D σ w hD hdep hcl ⟨⟨al,an,ak,ai⟩,hv,ha,_,hw⟩
    obtain⟨τ,rfl⟩:=(ac (hv.at 12 rfl (hdep.1 rfl)) (ac (hv.at 15 rfl (hdep.2.1 rfl)) az)).aO
    have hw:=hw.aQ (i:=2) rfl hD
    have hw:=hw.aS (i:=2) rfl (hdep.2.1 rfl)
    have hw:=hw.aQ (i:=3) rfl (nf (fun h=>ft hD ((hcl 19 _ rfl h).2.1 rfl)))
    have hw:=hw.aQ (i:=3) rfl hD
    have hw:=hw.aQ (i:=22) rfl (nf (fun h=>ft hD ((hcl 19 _ rfl h).2.1 rfl)))
    have hw:=hw.aQ (i:=23) rfl (nf (fun h=>ft hD ((hcl 19 _ rfl h).2.1 rfl)))
    have hw:=hw.aQ (i:=23) rfl hD
    have hw:=hw.tH (j:=23) (jj:=aa) mE (default:aW) rfl b4
    have hw:=hw.freeze (i:=3) rfl
    refine RL.app (i:=0) (j:=3) zt zr hw zr zr zr zr DZ ej fun cu w hw=>?_
    have hw:=hw.pl 25 [1,2,3,0,5,6,7,8,9,10,11,12,13,14,15,16,17,18,19,20,21,22,23,24] rfl
    have hw:=hw.aT (i:=2) (b:=true) rfl rfl (bif D 15 then (own 73 ak ([bz]: (List dC))) else aI)
    have hw:=hw.aT (i:=3) (b:=true) rfl rfl (aI)
    have hw:=hw.cJ (i:=3) (b:=D 19) rfl (nf (fun h=>ft hD ((hcl 19 _ rfl h).2.1 rfl))) (aI)
    have hw:=hw.cJ (i:=22) (b:=D 19) rfl (nf (fun h=>ft hD ((hcl 19 _ rfl h).2.1 rfl))) (own 42 af (us841.set (Int.toNat aa) {(us841.getD (Int.toNat aa) (default:aW)) with cB:=rv cu}))
    have hw:=hw.aT (i:=23) (b:=true) rfl rfl (eZ aV us841 ad.1 none)
    have hw:=hw.cJ (i:=23) (b:=D 19) rfl (nf (fun h=>ft hD ((hcl 19 _ rfl h).2.1 rfl))) (eZ aV (us841.set (Int.toNat aa) {(us841.getD (Int.toNat aa) (default:aW)) with cB:=rv cu}) (ad.1.set (Int.toNat aa) {bp with cB:=bl}) none)
    exact RL.nil ⟨rfl,(al,an,ak,cu),hv.put 16 zr zr,ha.up zr,zt,hw⟩
   ·rintro D σ w hD hdep hcl ⟨⟨al,an,ak,ai⟩,hv,ha,_,hw⟩
    obtain⟨τ,rfl⟩:=(ac (hv.at 3 rfl (hdep.1 rfl)) (ac (hv.at 4 rfl (hdep.2.1 rfl)) az)).aO
    have hw:=hw.aQ (i:=22) rfl (nf (fun h=>ft hD ((hcl 18 _ rfl ((hcl 19 _ rfl h).1 rfl)).1 rfl)))
    have hw:=hw.aQ (i:=23) rfl (nf (fun h=>ft hD ((hcl 18 _ rfl ((hcl 19 _ rfl h).1 rfl)).1 rfl)))
    have hw:=hw.aS (i:=23) rfl (hdep.2.2.2.2.2.2.2.2.2.2.2.2.2.2.2.2.2.2.1 rfl)
    have hl922:=hw.eD (j:=23) rfl
    have hr923:=gj (default:aW) hl922 cj
    refine RL.aZ (i:=22) zt zr hw zr zr zr tZ hr923 ?_
    have hw:=hw.cJ (i:=22) (b:=D 19) rfl (nf (fun h=>ft hD ((hcl 18 _ rfl ((hcl 19 _ rfl h).1 rfl)).1 rfl))) (own 42 af (us841.set (Int.toNat aa) {(us841.getD (Int.toNat aa) (default:aW)) with cB:=rv ai}))
    have hw:=hw.aT (i:=23) (b:=D 16) rfl (hdep.2.2.2.2.2.2.2.2.2.2.2.2.2.2.2.2.2.2.1 rfl) (eZ aV us841 ad.1 none)
    have hw:=hw.cJ (i:=23) (b:=D 19) rfl (nf (fun h=>ft hD ((hcl 18 _ rfl ((hcl 19 _ rfl h).1 rfl)).1 rfl))) (eZ aV (us841.set (Int.toNat aa) {(us841.getD (Int.toNat aa) (default:aW)) with cB:=rv ai}) (ad.1.set (Int.toNat aa) {bp with cB:=bl}) none)
    exact RL.nil ⟨rfl,(al,an,ak,ai),hv.put 17 zr zr,ha.up zr,zt,hw⟩
   ·rintro D σ w hD hdep hcl ⟨⟨al,an,ak,ai⟩,hv,ha,_,hw⟩
    obtain⟨τ,rfl⟩:=(ac (hv.at 17 rfl (hdep.1 rfl)) az).aO
    have hw:=hw.aQ (i:=22) rfl (nf (fun h=>ft hD ((hcl 19 _ rfl h).1 rfl)))
    have hw:=hw.aQ (i:=23) rfl (nf (fun h=>ft hD ((hcl 19 _ rfl h).1 rfl)))
    have hw:=hw.aS (i:=23) rfl (hdep.2.2.2.2.2.2.2.2.2.2.2.2.2.2.2.2.2.1 rfl)
    have hl924:=hw.eD (j:=23) rfl
    have hr925:=gj (default:aW) hl924 cj
    refine RL.gO (α:=aW) zt zr zr (f0 hw (i:=22) zr hr925 0) t3 ?_
    have hw:=hw.cJ (i:=22) (b:=D 19) rfl (nf (fun h=>ft hD ((hcl 19 _ rfl h).1 rfl))) (own 42 af (us841.set (Int.toNat aa) {(us841.getD (Int.toNat aa) (default:aW)) with cB:=rv ai}))
    have hw:=hw.aT (i:=23) (b:=D 16) rfl (hdep.2.2.2.2.2.2.2.2.2.2.2.2.2.2.2.2.2.1 rfl) (eZ aV us841 ad.1 none)
    have hw:=hw.cJ (i:=23) (b:=D 19) rfl (nf (fun h=>ft hD ((hcl 19 _ rfl h).1 rfl))) (eZ aV (us841.set (Int.toNat aa) {(us841.getD (Int.toNat aa) (default:aW)) with cB:=rv ai}) (ad.1.set (Int.toNat aa) {bp with cB:=bl}) none)
    exact RL.nil ⟨rfl,(al,an,ak,ai),hv.put 18 zr zr,ha.up zr,zt,hw⟩
   ·rintro D σ w hD hdep hcl ⟨⟨al,an,ak,ai⟩,hv,ha,_,hw⟩
    obtain⟨τ,rfl⟩:=(ac (hv.at 16 rfl (hdep.2.1 rfl)) (ac (hv.at 18 rfl (hdep.1 rfl)) az)).aO
    have hw:=hw.aQ (i:=3) rfl hD
    have hw:=hw.aS (i:=3) rfl (hdep.2.1 rfl)
    have hw:=hw.aQ (i:=22) rfl hD
    have hw:=hw.aQ (i:=23) rfl hD
    have hw:=hw.aS (i:=23) rfl (hdep.2.1 rfl)
    have hl926:=hw.eD (j:=23) rfl
    have hr927:=gj (default:aW) hl926 cj
    refine RL.n7 (i:=22) (b:=23) (o:=3) (jj:=aa) mE (default:aW) trivial hw rfl rfl (f0 hw (i:=22) rfl hr927 2) rfl rfl (.inr rfl) rfl cj (by decide) (by decide) (by decide) zd fun w hw=>?_
    have hw:=hw.aT (i:=3) (b:=true) rfl rfl (bif D 16 then (own 73 ai bl) else aI)
    have hw:=hw.aT (i:=22) (b:=true) rfl rfl (own 42 af us841)
    have hw:=hw.aT (i:=23) (b:=true) rfl rfl (bif D 16 then (eZ aV us841 ad.1 (some (Int.toNat aa))) else (eZ aV us841 ad.1 none))
    exact RL.nil ⟨rfl,(al,an,ak,ai),hv.no zr,ha,zt,hw⟩
   rintro D σ w hall ⟨⟨al,an,ak,ai⟩,hv,ha,_,hw⟩
   have hw:=hw.aS (i:=0) rfl (hall 13 (by decide))
   have hw:=hw.aS (i:=1) rfl (hall 14 (by decide))
   have hw:=hw.aS (i:=2) rfl (hall 16 (by decide))
   have hw:=hw.aS (i:=3) rfl (hall 19 (by decide))
   have hw:=hw.aS (i:=22) rfl (hall 19 (by decide))
   have hw:=hw.aS (i:=23) rfl (hall 19 (by decide))
   obtain⟨τ,rfl⟩:=(ac (ha.at 0 rfl) (ac (ha.at 1 rfl) (ac (ha.at 2 rfl) (ac (ha.at 3 rfl) (ac (ha.at 4 rfl) (ac (ha.at 5 rfl) (ac (ha.at 6 rfl) az))))))).aO
   obtain rfl:=oi hj
   exact⟨rfl,(us841.set (Int.toNat aa) {(us841.getD (Int.toNat aa) (default:aW)) with cB:=rv ai}),(ag zr),hw.pk 24 [4,18,19,20,21,22,23,14,15,16,17,6] zr⟩
  rintro σ w ⟨us889,ha,hw⟩
  obtain⟨τ,rfl⟩:=ha.aO
  refine aG ?_
  obtain⟨en,eo,hb⟩:=bd hb
  obtain⟨ep,er,hb⟩:=bd hb
  refine RC.sG (E:=E) (Γ:=Γ) mixed rfl [1,1,1,1,1,0,1,0,0,1,1,1,0,0,0,0,1,1,0,1,1,0] [7,8,13,14,15,18,21] (fun(x:Value×Value×Value×Value×Value)=>(fun aq au ar aj ao=>[(0,205,(vp b0 0)),(1,206,(vp b0 0)),(2,207,(vp b0 0)),(3,208,(vp b0 0)),(4,209,(vp b0 10)),(5,210,bg),(6,211,(vi a9.2)),(7,212,aq),(8,213,aj),(9,214,(vp b0 0)),(10,215,(vp b0 0)),(11,216,(vp b0 11)),(12,217,a2),(13,218,au),(14,219,ar),(15,220,ao),(16,221,(vp b0 0)),(17,222,(vp b0 10)),(19,223,(vp b0 0)),(20,224,(vp b0 11))]) x.1 x.2.1 x.2.2.1 x.2.2.2.1 x.2.2.2.2) [(0,(vp b0 0)),(15,(vp bw 0)),(17,(vi a9.2)),(170,v0_3),(171,(vi (p0_3.length:Int))),(172,(vi (bo:Int)))] [] (fun(D:Nat→Bool) (x:Value×Value×Value×Value×Value)=>(fun aq au ar aj ao=>[bif D 1 then (rd aq ([a9.2]: (List Int))) else (bif D 0 then (own 3 aq ([a9.2]: (List Int))) else aI),bif D 2 then (rd au a7.1) else aI,bif D 4 then (rd ar ([a7.1]: (List fZ))) else (bif D 3 then (own 102 ar ([a7.1]: (List fZ))) else aI),bif D 6 then (bc 57 b0 [v0_0,v0_1,v0_2,v0_3,v0_4,v0_5,v0_6,af,ax,ay,aj,ao]) else (bif D 5 then (bc 57 b0 [v0_0,v0_1,v0_2,v0_3,v0_4,v0_5,v0_6,af,ax,ay,aj,a2]) else (bc 57 b0 [v0_0,v0_1,v0_2,v0_3,v0_4,v0_5,v0_6,af,ax,ay,bg,a2])),rd v0_2 p0_2,rd v0_3 p0_3,rd v0_5 p0_5,rd v0_6 p0_6,own 42 af us889,eZ aV us889 a9.1 none,rd ax ad.2.1,rd ay ad.2.2.1,bif D 1 then (own 3 aj en) else (own 3 bg ad.2.2.2.1),bif D 4 then (own 102 ao ep) else (own 102 a2 ad.2.2.2.2),bx 102 bw a7.1]) x.1 x.2.1 x.2.2.1 x.2.2.2.1 x.2.2.2.2) (fun x=>by kernel_rfl) ?_ ⟨fun _=>dX gn rfl,fun _=>dX gn rfl,fun _=>dX gn rfl,fun _=>pY gn rfl,fun _=>fJ gn wu rfl,?_,fun _=>dX gn rfl,?_,?_,fun _=>dX gn rfl,fun _=>pY gn rfl,fun _=>fJ gn ze rfl,?_,?_,?_,?_,fun _=>pY gn rfl,fun _=>fJ gn wu rfl,?_,fun _=>pY gn rfl,fun _=>fJ gn ze rfl,?_,trivial⟩ ?_
  ·have hw:=hw.drew
   have hw:=hw.aI
   have hw:=hw.aI
   have hw:=hw.aI
   exact⟨(undef,undef,undef,undef,undef),doneV.none,(ag zr),zt,hw⟩
  ·rintro D σ w hD hdep hcl ⟨⟨aq,au,ar,aj,ao⟩,hv,ha,_,hw⟩
   obtain⟨τ,rfl⟩:=(ac (hv.at 4 rfl (hdep.1 rfl)) az).aO
   have hw:=hw.aQ (i:=3) rfl (nf (fun h=>ft hD ((hcl 21 _ rfl h).2.2.2.2.2.2.2.2.1 rfl)))
   have hw:=hw.aQ (i:=3) rfl (nf (fun h=>ft hD ((hcl 18 _ rfl h).2.2.2.2.2.2.2.2.1 rfl)))
   refine RL.bF (i:=3) (v:=bg) zt zr hw zr zr zr cT ?_
   have hw:=hw.cJ (i:=3) (b:=D 18) rfl (nf (fun h=>ft hD ((hcl 18 _ rfl h).2.2.2.2.2.2.2.2.1 rfl))) (bc 57 b0 [v0_0,v0_1,v0_2,v0_3,v0_4,v0_5,v0_6,af,ax,ay,aj,a2])
   have hw:=hw.cJ (i:=3) (b:=D 21) rfl (nf (fun h=>ft hD ((hcl 21 _ rfl h).2.2.2.2.2.2.2.2.1 rfl))) (bc 57 b0 [v0_0,v0_1,v0_2,v0_3,v0_4,v0_5,v0_6,af,ax,ay,aj,ao])
   exact RL.nil ⟨rfl,(aq,au,ar,aj,ao),hv.put 5 zr zr,ha.up zr,zt,hw⟩
  ·rintro D σ w hD hdep hcl ⟨⟨aq,au,ar,aj,ao⟩,hv,ha,_,hw⟩
   obtain⟨τ,rfl⟩:=(ac (hv.at 6 rfl (hdep.1 rfl)) az).aO
   have hw:=hw.aQ (i:=0) rfl (nf (fun h=>ft hD ((hcl 8 _ rfl h).2.1 rfl)))
   have hw:=hw.aQ (i:=0) rfl hD
   have hw:=hw.sc (γ:=Int) a9.2
   refine RL.dQ (l:=([a9.2]: (List Int))) zt zr hw [(vi a9.2)] zr zr zr dB zY (fun M hs g=>⟨(g.sat 0 _ zr).1,zt⟩) fun df w hw=>?_
   have hw:=hw.pl 17 [0,3,4,5,6,7,8,9,10,11,12,13,14,15,16] rfl
   have hw:=hw.aT (i:=0) (b:=true) rfl rfl (aI)
   have hw:=hw.cJ (i:=0) (b:=D 8) rfl (nf (fun h=>ft hD ((hcl 8 _ rfl h).2.1 rfl))) (rd df ([a9.2]: (List Int)))
   exact RL.nil ⟨rfl,(df,au,ar,aj,ao),hv.put 7 zr zr,ha.up zr,zt,hw⟩
  ·rintro D σ w hD hdep hcl ⟨⟨aq,au,ar,aj,ao⟩,hv,ha,_,hw⟩
   obtain⟨τ,rfl⟩:=(ac (hv.at 5 rfl (hdep.1 rfl)) (ac (hv.at 7 rfl (hdep.2.1 rfl)) az)).aO
   have hw:=hw.aQ (i:=0) rfl hD
   have hw:=hw.aS (i:=0) rfl (hdep.2.1 rfl)
   have hw:=hw.aQ (i:=3) rfl (nf (fun h=>ft hD ((hcl 21 _ rfl h).2.2.2.2.2.2.2.2.2.2.2.1 rfl)))
   have hw:=hw.aQ (i:=3) rfl (nf (fun h=>ft hD ((hcl 18 _ rfl h).2.1 rfl)))
   have hw:=hw.aQ (i:=12) rfl hD
   have hw:=hw.freeze (i:=0) rfl
   refine RL.app (i:=12) (j:=0) zt zr hw zr zr zr zr p6 eo fun cv w hw=>?_
   have hw:=hw.aT (i:=0) (b:=true) rfl rfl (bif D 7 then (own 3 aq ([a9.2]: (List Int))) else aI)
   have hw:=hw.cJ (i:=3) (b:=D 18) rfl (nf (fun h=>ft hD ((hcl 18 _ rfl h).2.1 rfl))) (bc 57 b0 [v0_0,v0_1,v0_2,v0_3,v0_4,v0_5,v0_6,af,ax,ay,cv,a2])
   have hw:=hw.cJ (i:=3) (b:=D 21) rfl (nf (fun h=>ft hD ((hcl 21 _ rfl h).2.2.2.2.2.2.2.2.2.2.2.1 rfl))) (bc 57 b0 [v0_0,v0_1,v0_2,v0_3,v0_4,v0_5,v0_6,af,ax,ay,cv,ao])
   have hw:=hw.aT (i:=12) (b:=true) rfl rfl (own 3 bg ad.2.2.2.1)
   exact RL.nil ⟨rfl,(aq,au,ar,cv,ao),hv.put 8 zr zr,ha.up zr,zt,hw⟩
  ·rintro D σ w hD hdep hcl ⟨⟨aq,au,ar,aj,ao⟩,hv,ha,_,hw⟩
   obtain⟨τ,rfl⟩:=(ac (hv.at 11 rfl (hdep.1 rfl)) az).aO
   have hw:=hw.aQ (i:=3) rfl (nf (fun h=>ft hD ((hcl 21 _ rfl h).2.2.2.2.2.2.2.2.2.2.2.2.2.2.2.1 rfl)))
   have hw:=hw.aQ (i:=3) rfl (nf (fun h=>ft hD ((hcl 18 _ rfl h).2.2.2.2.2.2.2.2.2.2.2.2.2.2.2.1 rfl)))
   refine RL.bF (i:=3) (v:=a2) zt zr hw zr zr zr Cz ?_
   have hw:=hw.cJ (i:=3) (b:=D 18) rfl (nf (fun h=>ft hD ((hcl 18 _ rfl h).2.2.2.2.2.2.2.2.2.2.2.2.2.2.2.1 rfl))) (bc 57 b0 [v0_0,v0_1,v0_2,v0_3,v0_4,v0_5,v0_6,af,ax,ay,aj,a2])
   have hw:=hw.cJ (i:=3) (b:=D 21) rfl (nf (fun h=>ft hD ((hcl 21 _ rfl h).2.2.2.2.2.2.2.2.2.2.2.2.2.2.2.1 rfl))) (bc 57 b0 [v0_0,v0_1,v0_2,v0_3,v0_4,v0_5,v0_6,af,ax,ay,aj,ao])
   exact RL.nil ⟨rfl,(aq,au,ar,aj,ao),hv.put 12 zr zr,ha.up zr,zt,hw⟩
  ·rintro D σ w hD hdep hcl ⟨⟨aq,au,ar,aj,ao⟩,hv,ha,_,hw⟩
   obtain⟨τ,rfl⟩:=(ac (ha.at 1 rfl) az).aO
   have hw:=hw.aQ (i:=1) rfl hD
   refine RL.aU (i:=14) (f:=(fun x=>x)) zt zr hw zr zr Fd.self oV fun et hw=>?_
   have hw:=hw.pl 16 [1,0,3,4,5,6,7,8,9,10,11,12,13,14,15] rfl
   have hw:=hw.aT (i:=1) (b:=true) rfl rfl (aI)
   exact RL.nil ⟨rfl,(aq,et,ar,aj,ao),hv.put 13 zr zr,ha.up zr,zt,hw⟩
  ·rintro D σ w hD hdep hcl ⟨⟨aq,au,ar,aj,ao⟩,hv,ha,_,hw⟩
   obtain⟨τ,rfl⟩:=(ac (hv.at 13 rfl (hdep.1 rfl)) az).aO
   have hw:=hw.aS (i:=1) rfl (hdep.1 rfl)
   have hw:=hw.aQ (i:=2) rfl (nf (fun h=>ft hD ((hcl 15 _ rfl h).2.1 rfl)))
   have hw:=hw.aQ (i:=2) rfl hD
   refine RL.dQ (l:=([a7.1]: (List fZ))) zt zr hw [au] zr zr zr D0 zb (fun M hs g=>⟨(g.sat 1 _ zr).1,zt⟩) fun dg w hw=>?_
   have hw:=hw.pl 16 [1,2,0,4,5,6,7,8,9,10,11,12,13,14,15] rfl
   have hw:=hw.aT (i:=1) (b:=D 13) rfl (hdep.1 rfl) (aI)
   have hw:=hw.aT (i:=2) (b:=true) rfl rfl (aI)
   have hw:=hw.cJ (i:=2) (b:=D 15) rfl (nf (fun h=>ft hD ((hcl 15 _ rfl h).2.1 rfl))) (rd dg ([a7.1]: (List fZ)))
   exact RL.nil ⟨rfl,(aq,au,dg,aj,ao),hv.put 14 zr zr,ha.up zr,zt,hw⟩
  ·rintro D σ w hD hdep hcl ⟨⟨aq,au,ar,aj,ao⟩,hv,ha,_,hw⟩
   obtain⟨τ,rfl⟩:=(ac (hv.at 12 rfl (hdep.1 rfl)) (ac (hv.at 14 rfl (hdep.2.1 rfl)) az)).aO
   have hw:=hw.aQ (i:=2) rfl hD
   have hw:=hw.aS (i:=2) rfl (hdep.2.1 rfl)
   have hw:=hw.aQ (i:=3) rfl (nf (fun h=>ft hD ((hcl 21 _ rfl h).2.1 rfl)))
   have hw:=hw.aQ (i:=3) rfl (nf (fun h=>ft hD ((hcl 18 _ rfl h).2.2.1 rfl)))
   have hw:=hw.aQ (i:=13) rfl hD
   have hw:=hw.freeze (i:=2) rfl
   refine RL.app (i:=13) (j:=2) zt zr hw zr zr zr zr D1 er fun dh w hw=>?_
   have hw:=hw.aT (i:=2) (b:=true) rfl rfl (bif D 14 then (own 102 ar ([a7.1]: (List fZ))) else aI)
   have hw:=hw.cJ (i:=3) (b:=D 18) rfl (nf (fun h=>ft hD ((hcl 18 _ rfl h).2.2.1 rfl))) (bc 57 b0 [v0_0,v0_1,v0_2,v0_3,v0_4,v0_5,v0_6,af,ax,ay,aj,a2])
   have hw:=hw.cJ (i:=3) (b:=D 21) rfl (nf (fun h=>ft hD ((hcl 21 _ rfl h).2.1 rfl))) (bc 57 b0 [v0_0,v0_1,v0_2,v0_3,v0_4,v0_5,v0_6,af,ax,ay,aj,dh])
   have hw:=hw.aT (i:=13) (b:=true) rfl rfl (own 102 a2 ad.2.2.2.2)
   exact RL.nil ⟨rfl,(aq,au,ar,aj,dh),hv.put 15 zr zr,ha.up zr,zt,hw⟩
  ·rintro D σ w hD hdep hcl ⟨⟨aq,au,ar,aj,ao⟩,hv,ha,_,hw⟩
   obtain⟨τ,rfl⟩:=(ac (hv.at 8 rfl (hdep.2.1 rfl)) (ac (hv.at 17 rfl (hdep.1 rfl)) az)).aO
   have hw:=hw.aQ (i:=3) rfl (nf (fun h=>ft hD ((hcl 21 _ rfl h).2.2.1 rfl)))
   have hw:=hw.aQ (i:=3) rfl hD
   have hw:=hw.aS (i:=12) rfl (hdep.2.1 rfl)
   refine RL.fQ (i:=3) (v:=aj) zt hw zr zr zr zr (gh hw (i:=12) zr) cT fun w hw=>?_
   have hw:=hw.aT (i:=3) (b:=true) rfl rfl (bc 57 b0 [v0_0,v0_1,v0_2,v0_3,v0_4,v0_5,v0_6,af,ax,ay,bg,a2])
   have hw:=hw.cJ (i:=3) (b:=D 21) rfl (nf (fun h=>ft hD ((hcl 21 _ rfl h).2.2.1 rfl))) (bc 57 b0 [v0_0,v0_1,v0_2,v0_3,v0_4,v0_5,v0_6,af,ax,ay,aj,ao])
   have hw:=hw.aT (i:=12) (b:=D 8) rfl (hdep.2.1 rfl) (own 3 bg ad.2.2.2.1)
   exact RL.nil ⟨rfl,(aq,au,ar,aj,ao),hv.no zr,ha,zt,hw⟩
  ·rintro D σ w hD hdep hcl ⟨⟨aq,au,ar,aj,ao⟩,hv,ha,_,hw⟩
   obtain⟨τ,rfl⟩:=(ac (hv.at 15 rfl (hdep.2.1 rfl)) (ac (hv.at 19 rfl (hdep.1 rfl)) az)).aO
   have hw:=hw.aQ (i:=3) rfl hD
   have hw:=hw.aS (i:=3) rfl (hdep.2.2.1 rfl)
   have hw:=hw.aS (i:=13) rfl (hdep.2.1 rfl)
   refine RL.fQ (i:=3) (v:=ao) zt hw zr zr zr zr (gh hw (i:=13) zr) Cz fun w hw=>?_
   have hw:=hw.aT (i:=3) (b:=true) rfl rfl (bif D 18 then (bc 57 b0 [v0_0,v0_1,v0_2,v0_3,v0_4,v0_5,v0_6,af,ax,ay,aj,a2]) else (bc 57 b0 [v0_0,v0_1,v0_2,v0_3,v0_4,v0_5,v0_6,af,ax,ay,bg,a2]))
   have hw:=hw.aT (i:=13) (b:=D 15) rfl (hdep.2.1 rfl) (own 102 a2 ad.2.2.2.2)
   exact RL.nil ⟨rfl,(aq,au,ar,aj,ao),hv.no zr,ha,zt,hw⟩
  rintro D σ w hall ⟨⟨aq,au,ar,aj,ao⟩,hv,ha,_,hw⟩
  have hw:=hw.aS (i:=0) rfl (hall 8 (by decide))
  have hw:=hw.aS (i:=1) rfl (hall 13 (by decide))
  have hw:=hw.aS (i:=2) rfl (hall 15 (by decide))
  have hw:=hw.aS (i:=3) rfl (hall 21 (by decide))
  have hw:=hw.aS (i:=12) rfl (hall 8 (by decide))
  have hw:=hw.aS (i:=13) rfl (hall 15 (by decide))
  obtain⟨τ,rfl⟩:=(ac (ha.at 0 rfl) (ac (ha.at 1 rfl) (ac (ha.at 2 rfl) (ac (ha.at 3 rfl) (ac (ha.at 4 rfl) (ac (ha.at 5 rfl) az)))))).aO
  refine bI (aG (RC.region (RL.inc zt zr hk hm zr zr (mv (vi ((bo+1:Nat):Int)) zr zr (RL.nil ?_)))))
  obtain rfl:=oi hb
  exact⟨rfl,ax,ay,aj,ao,us889,(ag zr),hw.pk 15 [3,10,11,12,13,4,5,6,7,8,9] zr⟩
 intro σ w hJ
 obtain⟨cd,cf,cg,ch,us836,ha,hw⟩:=hJ
 obtain⟨τ,rfl⟩:=ha.aO
 obtain rfl:=oi hb
 have hw:=hw.tI (X:=aV) (b:=10) (j:=9) rfl (fun M h u x cs=>tQ M h u x cs) rfl rfl (by decide)
 refine wN ?_
 exact A5 zr ⟨af,cd,cf,cg,ch,zr,hw.pk 11 [0,9,1,2,3,4] zr⟩
def nV (E:World) (Γ:List HP) (res:Option ((List (List aD))×(List aD)×(List bB)×(List cE)×(List (List aA))×(List aC)×(List (List Int))×(List aX)×(List Int)×(List Int)×(List Int)×(List fZ))×Int) (v:Value) (w:World):Prop:=AU res.1 (v = .tuple #[(.pointer none),(vi res.2)]∧Holds E w Γ) (fun y=>∃(ub0:Nat) (u0_0:Value) (u0_1:Value) (u0_2:Value) (u0_3:Value) (u0_4:Value) (u0_5:Value) (u0_6:Value) (u0_7:Value) (u0_8:Value) (u0_9:Value) (u0_10:Value) (u0_11:Value),v = .tuple #[vp ub0 0,(vi res.2)]∧Holds E w ([bc 57 ub0 [u0_0,u0_1,u0_2,u0_3,u0_4,u0_5,u0_6,u0_7,u0_8,u0_9,u0_10,u0_11],rd u0_0 y.1,rd u0_1 y.2.1,rd u0_2 y.2.2.1,rd u0_3 y.2.2.2.1,own 63 u0_4 y.2.2.2.2.1,rd u0_5 y.2.2.2.2.2.1,rd u0_6 y.2.2.2.2.2.2.1,own 42 u0_7 y.2.2.2.2.2.2.2.1,rd u0_8 y.2.2.2.2.2.2.2.2.1,rd u0_9 y.2.2.2.2.2.2.2.2.2.1,own 3 u0_10 y.2.2.2.2.2.2.2.2.2.2.1,own 102 u0_11 y.2.2.2.2.2.2.2.2.2.2.2]++Γ))
def kX (E:World) (Γ:List HP) (r:Option ((List (List aD))×(List aD)×(List bB)×(List cE)×(List (List aA))×(List aC)×(List (List Int))×(List aX)×(List Int)×(List Int)×(List Int)×(List fZ))×Int) (σ:Nat→Value) (w:World):Prop:=jU Tryz.prog 112 Tryz.f9 (nV E Γ r) .ret σ w
theorem km (N:Nat) {E w:World} {Γ:List HP} {i0:Nat} {v0:Value} {p0:ju} {res:Option ((List (List aD))×(List aD)×(List bB)×(List cE)×(List (List aA))×(List aC)×(List (List Int))×(List aX)×(List Int)×(List Int)×(List Int)×(List fZ))×Int} (hw:Holds E w Γ) (h0:Γ[i0]? =some (rd v0 p0)) (hb:dL N p0=some res):
    Calls Tryz.prog 9 [v0].toArray w (fu (nV E Γ res)):=by
 unfold dL at hb
 refine enter Tryz.func9 zr zr (Nat.le_of_ble_eq_true zr) ?_
 have hw:=hw.dup (i:=i0+0) h0
 refine RC.sr (RL.dP (i:=0) (v:=v0) zt zr hw zr zr fun ai w hw=>(aN (.pointer none) zr zr (aN (vi 0) zr zr (RL.nq (RC.sr (RL.bD zt zr zr p5 (RL.aU (i:=0) (f:=(fun x=>x.aJ)) zt zr hw zr zr lh xF fun cm hw=>(RL.bA (i:=0) (l:=p0.aJ) zt zr hw zr zr vd ?_))))))))
 refine ic ((p0.aJ.length:Int)) 0 zr zr zr zr (RL.nt (eI hb zr (fun hc hb=>?_) fun hc hb=>?_))
 ·refine RC.sr (aN (.pointer none) zr zr (aN (vi 9) zr zr (RL.nt (RC.rt ?_))))
  obtain rfl:=oi hb
  exact kz zr zr zr ⟨rfl,hw.drop 3 zr⟩
 refine RC.ss (RC.sr (RL.bD zt zr zr p5 (RL.aU (i:=1) (f:=(fun x=>x.aJ)) zt zr hw zr zr lh xF fun cn hw=>(RL.bA (i:=0) (l:=p0.aJ) zt zr hw zr zr vd (ic ((p0.aJ.length:Int)) 16 zr zr zr zr (RL.nt (eI hb zr (fun hc hb=>?_) fun hc hb=>?_)))))))
 ·refine RC.sr (aN (.pointer none) zr zr (aN (vi 2) zr zr (RL.nt (RC.rt ?_))))
  obtain rfl:=oi hb
  exact kz zr zr zr ⟨rfl,hw.drop 4 zr⟩
 refine RC.sx (RL.bD zt zr zr yU (RL.aU (i:=2) (f:=(fun x=>x.bZ)) zt zr hw zr zr rF sK fun cp hw=>(RL.bA (i:=0) (l:=p0.bZ) zt zr hw zr zr mc (aN (vi (p0.bZ.length:Int)) zr zr (RL.nq (RC.sr (RL.bD zt zr zr p5 (RL.aU (i:=3) (f:=(fun x=>x.aJ)) zt zr hw zr zr lh xF fun ba hw=>?_))))))))
 refine RL.bA (i:=0) (l:=p0.aJ) zt zr hw zr zr vd (mv (vi 0) zr zr (RL.nt ?_))
 obtain⟨cq,hN,hb⟩:=bd hb
 refine RC.range (fun(a5:Nat) (aq:Int) (σ:Nat→Value) (w:World)=>agree σ [(1,(vp ai 0)),(4,(vi aq)),(28,ba),(29,(vi (p0.aJ.length:Int))),(30,(vi (a5:Int)))]∧Holds E w ([bx 27 ai p0,rd ba p0.aJ]++Γ)) (fun(aq:Int) (σ:Nat→Value) (w:World)=>agree σ [(1,(vp ai 0)),(4,(vi aq))]∧Holds E w ([bx 27 ai p0,rd ba p0.aJ]++Γ)) (kX E Γ) hN ?_ ?_ ?_ ?_ ?_
 ·exact⟨(ag zr),hw.pk 6 [4,0] zr⟩
 ·intro hm aq σ w hI
  obtain⟨ha,hw⟩:=hI
  obtain⟨τ,rfl⟩:=ha.aO
  refine RC.sr (ic ((p0.aJ.length:Int)) ((p0.aJ.length:Int)) zr zr zr zr (RL.nq (RC.cG k6 (RC.ex ?_))))
  exact⟨rfl,(ag zr),hw.pk 2 [0,1] zr⟩
 ·intro hm a5 aq fl σ w hk hI hb
  obtain⟨ha,hw⟩:=hI
  obtain⟨τ,rfl⟩:=ha.aO
  refine RC.sr (ic ((a5:Int)) ((p0.aJ.length:Int)) zr zr zr zr (RL.nq (RC.cF (kZ hk) (RC.ss (RC.bs ?_)))))
  obtain⟨a6,bh,hb⟩:=bd hb
  refine RL.bO (i:=1) zt zr hw zr zr zr xG bh fun cr hw=>(RL.bT (i:=0) (x:=a6) zt zr hw zr zr sK fun a7 hw=>(aN a7 zr zr (RL.nq (RC.sr (mv a7 zr zr ?_)))))
  obtain⟨aw,bj,hb⟩:=bd hb
  refine RL.call zt zr Cc [a7] zr (aF (jz N (i0:=0) hw zr bj) ?_)
  rintro _ w ⟨rfl,hw⟩
  refine aN (vi aw) zr zr (RL.ns (mv (vi aw) zr zr (ic aw 0 zr zr zr zr (RL.nt (eI hb zr (fun hc hb=>?_) fun hc hb=>?_)))))
  ·refine RC.sr (mv (vi aw) zr zr (aN (.pointer none) zr zr (aN (vi aw) zr zr (RL.nt (RC.rt (j7 (bK ?_)))))))
   obtain rfl:=oi hb
   exact⟨rfl,kz zr zr zr ⟨rfl,hw.drop 4 zr⟩⟩
  refine RC.sn (RC.region (mv (vi aq) zr zr (mv a7 zr zr (RL.bA (i:=0) (l:=a6) zt zr hw zr zr mc (RL.gq (a:=aq) (b:=(a6.length:Int)) zt zr zr zr zr (aN (vi (IntKind.wrap .i64 (aq+ (a6.length:Int)))) zr zr (RL.nil (bI ?_))))))))
  refine aG (RC.region (RL.inc zt zr hk hm zr zr (mv (vi ((a5+1:Nat):Int)) zr zr (RL.nil ?_))))
  obtain rfl:=oi hb
  exact⟨rfl,(ag zr),hw.pk 4 [2,3] zr⟩
 ·intro r σ w e hK
  subst e
  refine bK ?_
  obtain rfl:=oi hb
  exact hK
 intro aq σ w e hJ
 subst e
 rw [Fo.eC] at hb
 obtain⟨ha,hw⟩:=hJ
 obtain⟨τ,rfl⟩:=ha.aO
 refine aG (RC.seq (RC.sr (RL.bD zt zr zr yU (RL.aU (i:=0) (f:=(fun x=>x.bZ)) zt zr hw zr zr rF sK fun bk hw=>?_))))
 obtain⟨ax,bl,hb⟩:=bd hb
 refine RL.call zt zr Cc [bk] zr (aF (jz N (i0:=0) hw zr bl) ?_)
 rintro _ w ⟨rfl,hw⟩
 refine aN (vi ax) zr zr (RL.ns (mv (vi ax) zr zr (ic ax 0 zr zr zr zr (RL.nt (eI hb zr (fun hc hb=>?_) fun hc hb=>?_)))))
 ·refine RC.sr (mv (vi ax) zr zr (aN (.pointer none) zr zr (aN (vi ax) zr zr (RL.nt (RC.rt ?_)))))
  obtain rfl:=oi hb
  exact kz zr zr zr ⟨rfl,hw.drop 3 zr⟩
 refine RC.ss (RC.sr (mv (vi aq) zr zr (ic aq 2000 zr zr zr zr (RL.nt (eI hb zr (fun hc hb=>?_) fun hc hb=>?_)))))
 ·refine RC.sr (aN (.pointer none) zr zr (aN (vi 2) zr zr (RL.nt (RC.rt ?_))))
  obtain rfl:=oi hb
  exact kz zr zr zr ⟨rfl,hw.drop 3 zr⟩
 refine RC.ss (RC.sr (RL.aU (i:=1) (f:=(fun x=>x)) zt zr hw zr zr Fd.self tR fun bm hw=>?_))
 obtain⟨ay,bn,hb⟩:=bd hb
 refine RL.call zt zr Dm [bm] zr (aF (mK N (i0:=0) hw zr bn) ?_)
 rintro _ w ⟨rfl,hw⟩
 refine aN (vi ay) zr zr (RL.ns (mv (vi ay) zr zr (ic ay 0 zr zr zr zr (RL.nt (eI hb zr (fun hc hb=>?_) fun hc hb=>?_)))))
 ·refine RC.sr (mv (vi ay) zr zr (aN (.pointer none) zr zr (aN (vi ay) zr zr (RL.nt (RC.rt ?_)))))
  obtain rfl:=oi hb
  exact kz zr zr zr ⟨rfl,hw.drop 4 zr⟩
 refine RC.ss (RC.sr (RL.aU (i:=2) (f:=(fun x=>x)) zt zr hw zr zr Fd.self tR fun bo hw=>?_))
 obtain⟨a0,bp,hb⟩:=bd hb
 refine RL.call zt zr Dz [bo] zr (aF (mO N (i0:=0) hw zr bp) ?_)
 rintro _ w ⟨rfl,hw⟩
 refine aN (vi a0) zr zr (RL.ns (mv (vi a0) zr zr (ic a0 0 zr zr zr zr (RL.nt (eI hb zr (fun hc hb=>?_) fun hc hb=>?_)))))
 ·refine RC.sr (mv (vi a0) zr zr (aN (.pointer none) zr zr (aN (vi a0) zr zr (RL.nt (RC.rt ?_)))))
  obtain rfl:=oi hb
  exact kz zr zr zr ⟨rfl,hw.drop 5 zr⟩
 refine RC.ss (RC.sr (RL.bD zt zr zr jM (RL.aU (i:=3) (f:=(fun x=>x.aK)) zt zr hw zr zr kb qQ fun al hw=>(RL.bA (i:=0) (l:=p0.aK) zt zr hw zr zr sL (mv (vi 0) zr zr (RL.nt ?_))))))
 obtain⟨ct,hN,hb⟩:=bd hb
 refine RC.range (fun(ao:Nat) (a8:Unit) (σ:Nat→Value) (w:World)=>agree σ [(1,(vp ai 0)),(63,al),(64,(vi (p0.aK.length:Int))),(65,(vi (ao:Int)))]∧Holds E w ([bx 27 ai p0,rd al p0.aK]++Γ)) (fun(a8:Unit) (σ:Nat→Value) (w:World)=>agree σ [(1,(vp ai 0))]∧Holds E w ([bx 27 ai p0,rd al p0.aK]++Γ)) (kX E Γ) hN ?_ ?_ ?_ ?_ ?_
 ·exact⟨(ag zr),hw.pk 6 [4,0] zr⟩
 ·intro hm a8 σ w hI
  obtain⟨ha,hw⟩:=hI
  obtain⟨τ,rfl⟩:=ha.aO
  refine RC.sr (ic ((p0.aK.length:Int)) ((p0.aK.length:Int)) zr zr zr zr (RL.nq (RC.cG k6 (RC.ex ?_))))
  exact⟨rfl,⟨rfl,zt⟩,hw.pk 2 [0,1] zr⟩
 ·intro hm ao a8 fl σ w hk hI hb
  obtain⟨ha,hw⟩:=hI
  obtain⟨τ,rfl⟩:=ha.aO
  refine RC.sr (ic ((ao:Int)) ((p0.aK.length:Int)) zr zr zr zr (RL.nq (RC.cF (kZ hk) (RC.ss (RC.bs (mv (vi (ao:Int)) zr zr ?_))))))
  obtain⟨aa,bq,hb⟩:=bd hb
  refine RL.bO (i:=1) zt zr hw zr zr zr tT bq fun cu hw=>(RL.bT (i:=0) (x:=aa) zt zr hw zr zr kc fun cw hw=>(RL.alloc zt zr hw xK.z fun ah w hw=>(aN (vi (ao:Int)) zr zr (RL.bC (i:=0) (j:=1) zt hw zr zr zr zr kc zr fun w hw=>(RL.ns (RL.bD zt zr zr jM (RL.aU (i:=3) (f:=(fun x=>x.aK)) zt zr hw zr zr kb qQ fun cx hw=>(mv (vi (ao:Int)) zr zr ?_))))))))
  obtain⟨an,br,hb⟩:=bd hb
  refine RL.cut (i:=0) zt zr hw zr zr tT (.inr ⟨rfl,zr⟩) (.inl zr) br fun au hw=>(RL.bA (i:=0) (l:=an) zt zr hw zr zr sL (mv (vi 0) zr zr (RL.nt ?_)))
  obtain⟨cy,hN,hb⟩:=bd hb
  refine RC.range (fun(av:Nat) (a9:Unit) (σ:Nat→Value) (w:World)=>agree σ [(1,(vp ai 0)),(12,(vp ah 0)),(63,al),(64,(vi (p0.aK.length:Int))),(65,(vi (ao:Int))),(73,au),(74,(vi (an.length:Int))),(75,(vi (av:Int)))]∧Holds E w ([bx 27 ai p0,bx 47 ah aa,rd al p0.aK,rd au an]++Γ)) (fun(a9:Unit) (σ:Nat→Value) (w:World)=>agree σ [(1,(vp ai 0)),(63,al),(64,(vi (p0.aK.length:Int))),(65,(vi (ao:Int)))]∧Holds E w ([bx 27 ai p0,bx 47 ah aa,rd al p0.aK,rd au an]++Γ)) (kX E Γ) hN ?_ ?_ ?_ ?_ ?_
  ·exact⟨(ag zr),hw.pk 7 [5,2,6,0] zr⟩
  ·intro hm a9 σ w hI
   obtain⟨ha,hw⟩:=hI
   obtain⟨τ,rfl⟩:=ha.aO
   refine RC.sr (ic ((an.length:Int)) ((an.length:Int)) zr zr zr zr (RL.nq (RC.cG k6 (RC.ex ?_))))
   exact⟨rfl,(ag zr),hw.pk 4 [0,1,2,3] zr⟩
  ·intro hm av a9 fl σ w hk hI hb
   obtain⟨ha,hw⟩:=hI
   obtain⟨τ,rfl⟩:=ha.aO
   refine RC.sr (ic ((av:Int)) ((an.length:Int)) zr zr zr zr (RL.nq (RC.cF (kZ hk) (RC.ss (RC.bs ?_)))))
   obtain⟨o,bt,hb⟩:=bd hb
   refine RL.bO (i:=3) zt zr hw zr zr zr tT bt fun bf hw=>(RL.bT (i:=0) (x:=o) zt zr hw zr zr kc fun bg hw=>(RL.alloc zt zr hw xK.z fun ak w hw=>(RL.bC (i:=0) (j:=1) zt hw zr zr zr zr kc zr fun w hw=>(RL.nq ?_))))
   obtain⟨bb,hj,hb⟩:=bd hb
   refine RC.jn (fun(bb:Bool) (σ:Nat→Value) (w:World)=>agree σ [(1,(vp ai 0)),(12,(vp ah 0)),(63,al),(64,(vi (p0.aK.length:Int))),(65,(vi (ao:Int))),(73,au),(74,(vi (an.length:Int))),(75,(vi (av:Int))),(98,(vb bb))]∧Holds E w ([bx 27 ai p0,bx 47 ah aa,rd al p0.aK,rd au an]++Γ)) bb ?_ ?_
   ·refine fW hj (fun aj hj=>?_) fun aj hj=>?_
    rotate_left
    ·refine RC.sG (E:=E) (Γ:=Γ) mixed rfl [1,0,1,0,1,1,0,0,0,0,0,0,1,1,1,1,1,1,1,1] [] (fun(x:Unit)=>[(0,79,(vp ah 3)),(1,80,(vi aa.bN)),(2,81,(vp ak 4)),(3,82,(vi o.To)),(4,83,(vb (decide (aa.bN≤o.To)))),(5,84,(vb (decide (aa.bN≤o.To)))),(6,85,(cv (true&&((decide (aa.bN≤o.To))==true)) (vp ak 3))),(7,86,(cv (true&&((decide (aa.bN≤o.To))==true)) (vi o.bN))),(8,87,(cv (true&&((decide (aa.bN≤o.To))==true)) (vp ah 4))),(9,88,(cv (true&&((decide (aa.bN≤o.To))==true)) (vi aa.To))),(10,89,(cv (true&&((decide (aa.bN≤o.To))==true)) (vb (decide (o.bN≤aa.To))))),(11,90,(vb ((decide (aa.bN≤o.To))&&(decide (o.bN≤aa.To))))),(12,91,(vb ((decide (aa.bN≤o.To))&&(decide (o.bN≤aa.To))))),(13,92,undef),(14,93,undef),(15,94,undef),(16,95,undef),(17,96,undef),(18,97,undef),(19,98,(vb false))]) [(1,(vp ai 0)),(12,(vp ah 0)),(14,(vp ak 0)),(63,al),(64,(vi (p0.aK.length:Int))),(65,(vi (ao:Int))),(73,au),(74,(vi (an.length:Int))),(75,(vi (av:Int)))] [] (fun(D:Nat→Bool) (x:Unit)=>[bx 47 ak o,rd bg o,pt bf o,bx 27 ai p0,bx 47 ah aa,rd al p0.aK,rd au an]) (fun x=>by kernel_rfl) ?_ ⟨fun _=>fJ gn oc rfl,?_,fun _=>fJ gn p7 rfl,?_,fun _=>xD gn rfl,fun _=>dX gn rfl,?_,?_,?_,?_,?_,?_,fun _=>dX gn rfl,fun _=>ig aj rfl,fun _=>ig aj rfl,fun _=>ig aj rfl,fun _=>ig aj rfl,fun _=>ig aj rfl,fun _=>ig aj rfl,fun _=>yL gn aj rfl,trivial⟩ ?_
     ·have hw:=hw.drew
      exact⟨(),doneV.none,(ag zr),zt,hw⟩
     ·rintro D σ w hD hdep hcl ⟨_,hv,ha,_,hw⟩
      obtain⟨τ,rfl⟩:=(ac (hv.at 0 rfl (hdep.1 rfl)) az).aO
      refine RL.aL (i:=4) (f:=(fun x=>x.bN)) zt zr hw zr zr jk bV ?_
      exact RL.nil ⟨rfl,(),hv.put 1 zr zr,ha.up zr,zt,hw⟩
     ·rintro D σ w hD hdep hcl ⟨_,hv,ha,_,hw⟩
      obtain⟨τ,rfl⟩:=(ac (hv.at 2 rfl (hdep.1 rfl)) az).aO
      refine RL.aL (i:=0) (f:=(fun x=>x.To)) zt zr hw zr zr j4 bV ?_
      exact RL.nil ⟨rfl,(),hv.put 3 zr zr,ha.up zr,zt,hw⟩
     ·rintro D σ w hD hdep hcl ⟨_,hv,ha,_,hw⟩
      obtain⟨τ,rfl⟩:=(ac (hv.at 5 rfl (hdep.1 rfl)) (ac (ha.at 2 rfl) az)).aO
      refine RL.gs (c:=true) (b:=(decide (aa.bN≤o.To))) (v:=(vp ak 3)) zr zr zr (dE zr (fun _=>zr) oc) ?_
      exact RL.nil ⟨rfl,(),hv.put 6 zr zr,ha.up zr,zt,hw⟩
     ·rintro D σ w hD hdep hcl ⟨_,hv,ha,_,hw⟩
      obtain⟨τ,rfl⟩:=(ac (hv.at 5 rfl (hdep.2.1 rfl)) (ac (hv.at 6 rfl (hdep.1 rfl)) az)).aO
      refine RL.gs (c:=true) (b:=(decide (aa.bN≤o.To))) (v:=(vi o.bN)) rfl rfl rfl (bL (i:=0) (f:=(fun x=>x.bN)) rfl hw (fun h=>by exact(cD h:cv (true&&((decide (aa.bN≤o.To))==true)) (vp ak 3)= (vp ak 3))) rfl jk bV) ?_
      exact RL.nil ⟨rfl,(),hv.put 7 zr zr,ha.up zr,zt,hw⟩
     ·rintro D σ w hD hdep hcl ⟨_,hv,ha,_,hw⟩
      obtain⟨τ,rfl⟩:=(ac (hv.at 5 rfl (hdep.1 rfl)) (ac (ha.at 1 rfl) az)).aO
      refine RL.gs (c:=true) (b:=(decide (aa.bN≤o.To))) (v:=(vp ah 4)) zr zr zr (dE zr (fun _=>zr) p7) ?_
      exact RL.nil ⟨rfl,(),hv.put 8 zr zr,ha.up zr,zt,hw⟩
     ·rintro D σ w hD hdep hcl ⟨_,hv,ha,_,hw⟩
      obtain⟨τ,rfl⟩:=(ac (hv.at 5 rfl (hdep.2.1 rfl)) (ac (hv.at 8 rfl (hdep.1 rfl)) az)).aO
      refine RL.gs (c:=true) (b:=(decide (aa.bN≤o.To))) (v:=(vi aa.To)) rfl rfl rfl (bL (i:=4) (f:=(fun x=>x.To)) rfl hw (fun h=>by exact(cD h:cv (true&&((decide (aa.bN≤o.To))==true)) (vp ah 4)= (vp ah 4))) rfl j4 bV) ?_
      exact RL.nil ⟨rfl,(),hv.put 9 zr zr,ha.up zr,zt,hw⟩
     ·rintro D σ w hD hdep hcl ⟨_,hv,ha,_,hw⟩
      obtain⟨τ,rfl⟩:=(ac (hv.at 5 rfl (hdep.2.2.1 rfl)) (ac (hv.at 7 rfl (hdep.1 rfl)) (ac (hv.at 9 rfl (hdep.2.1 rfl)) az))).aO
      refine RL.gs (c:=true) (b:=(decide (aa.bN≤o.To))) (v:=(vb (decide (o.bN≤aa.To)))) rfl rfl rfl (dO (bop:= .leq) (K:= .i64) (a:=o.bN) (b:=aa.To) rfl (fun h=>by exact(cD h:cv (true&&((decide (aa.bN≤o.To))==true)) (vi o.bN)= (vi o.bN))) (fun h=>by exact(cD h:cv (true&&((decide (aa.bN≤o.To))==true)) (vi aa.To)= (vi aa.To))) rfl) ?_
      exact RL.nil ⟨rfl,(),hv.put 10 zr zr,ha.up zr,zt,hw⟩
     ·rintro D σ w hD hdep hcl ⟨_,hv,ha,_,hw⟩
      obtain⟨τ,rfl⟩:=(ac (hv.at 5 rfl (hdep.1 rfl)) (ac (hv.at 10 rfl (hdep.2.1 rfl)) az)).aO
      refine RL.pick (b:=(decide (aa.bN≤o.To))) (v:=(vb ((decide (aa.bN≤o.To))&&(decide (o.bN≤aa.To))))) zt zr zr (hZ (c:=true) zr) ?_
      exact RL.nil ⟨rfl,(),hv.put 11 zr zr,ha.up zr,zt,hw⟩
     rintro D σ w hall ⟨_,hv,ha,_,hw⟩
     obtain⟨τ,rfl⟩:=(ac (hv.at 19 rfl (hall 19 (by decide))) (ac (ha.at 0 rfl) (ac (ha.at 1 rfl) (ac (ha.at 2 rfl) (ac (ha.at 3 rfl) (ac (ha.at 4 rfl) (ac (ha.at 5 rfl) (ac (ha.at 6 rfl) (ac (ha.at 7 rfl) (ac (ha.at 8 rfl) az)))))))))).aO
     obtain rfl:=oi hj
     exact⟨rfl,(ag zr),hw.pk 7 [3,4,5,6] zr⟩
    obtain⟨bu,bw,hj⟩:=bd hj
    obtain⟨bz,b0,hj⟩:=bd hj
    obtain⟨bc,b1,hj⟩:=bd hj
    refine RC.sG (E:=E) (Γ:=Γ) mixed rfl [1,0,1,0,1,1,0,0,0,0,0,0,1,0,0,0,0,0,1,1] [13,14,15,16] (fun(x:Value×Value×Value×Value)=>(fun ab ad ae af=>[(0,79,(vp ah 3)),(1,80,(vi aa.bN)),(2,81,(vp ak 4)),(3,82,(vi o.To)),(4,83,(vb (decide (aa.bN≤o.To)))),(5,84,(vb (decide (aa.bN≤o.To)))),(6,85,(cv (true&&((decide (aa.bN≤o.To))==true)) (vp ak 3))),(7,86,(cv (true&&((decide (aa.bN≤o.To))==true)) (vi o.bN))),(8,87,(cv (true&&((decide (aa.bN≤o.To))==true)) (vp ah 4))),(9,88,(cv (true&&((decide (aa.bN≤o.To))==true)) (vi aa.To))),(10,89,(cv (true&&((decide (aa.bN≤o.To))==true)) (vb (decide (o.bN≤aa.To))))),(11,90,(vb ((decide (aa.bN≤o.To))&&(decide (o.bN≤aa.To))))),(12,91,(vb ((decide (aa.bN≤o.To))&&(decide (o.bN≤aa.To))))),(13,92,ab),(14,93,ad),(15,94,ae),(16,95,af),(17,96,(vi bc)),(18,97,(vb (bc==0))),(19,98,(vb (bc==0)))]) x.1 x.2.1 x.2.2.1 x.2.2.2) [(1,(vp ai 0)),(12,(vp ah 0)),(14,(vp ak 0)),(63,al),(64,(vi (p0.aK.length:Int))),(65,(vi (ao:Int))),(73,au),(74,(vi (an.length:Int))),(75,(vi (av:Int)))] [] (fun(D:Nat→Bool) (x:Value×Value×Value×Value)=>(fun ab ad ae af=>[bif D 0 then (rd ab aa) else aI,bif D 1 then (rd ad bu) else aI,bif D 2 then (rd ae o) else aI,bif D 3 then (rd af bz) else aI,bx 47 ak o,rd bg o,pt bf o,bx 27 ai p0,bx 47 ah aa,rd al p0.aK,rd au an]) x.1 x.2.1 x.2.2.1 x.2.2.2) (fun x=>by kernel_rfl) ?_ ⟨fun _=>fJ gn oc rfl,?_,fun _=>fJ gn p7 rfl,?_,fun _=>xD gn rfl,fun _=>dX gn rfl,?_,?_,?_,?_,?_,?_,fun _=>dX gn rfl,?_,?_,?_,?_,?_,fun _=>xD (gy aj rfl) rfl,fun _=>yK gn aj rfl,trivial⟩ ?_
    ·have hw:=hw.drew
     have hw:=hw.aI
     have hw:=hw.aI
     have hw:=hw.aI
     have hw:=hw.aI
     exact⟨(undef,undef,undef,undef),doneV.none,(ag zr),zt,hw⟩
    ·rintro D σ w hD hdep hcl ⟨⟨ab,ad,ae,af⟩,hv,ha,_,hw⟩
     obtain⟨τ,rfl⟩:=(ac (hv.at 0 rfl (hdep.1 rfl)) az).aO
     refine RL.aL (i:=8) (f:=(fun x=>x.bN)) zt zr hw zr zr jk bV ?_
     exact RL.nil ⟨rfl,(ab,ad,ae,af),hv.put 1 zr zr,ha.up zr,zt,hw⟩
    ·rintro D σ w hD hdep hcl ⟨⟨ab,ad,ae,af⟩,hv,ha,_,hw⟩
     obtain⟨τ,rfl⟩:=(ac (hv.at 2 rfl (hdep.1 rfl)) az).aO
     refine RL.aL (i:=4) (f:=(fun x=>x.To)) zt zr hw zr zr j4 bV ?_
     exact RL.nil ⟨rfl,(ab,ad,ae,af),hv.put 3 zr zr,ha.up zr,zt,hw⟩
    ·rintro D σ w hD hdep hcl ⟨⟨ab,ad,ae,af⟩,hv,ha,_,hw⟩
     obtain⟨τ,rfl⟩:=(ac (hv.at 5 rfl (hdep.1 rfl)) (ac (ha.at 2 rfl) az)).aO
     refine RL.gs (c:=true) (b:=(decide (aa.bN≤o.To))) (v:=(vp ak 3)) zr zr zr (dE zr (fun _=>zr) oc) ?_
     exact RL.nil ⟨rfl,(ab,ad,ae,af),hv.put 6 zr zr,ha.up zr,zt,hw⟩
    ·rintro D σ w hD hdep hcl ⟨⟨ab,ad,ae,af⟩,hv,ha,_,hw⟩
     obtain⟨τ,rfl⟩:=(ac (hv.at 5 rfl (hdep.2.1 rfl)) (ac (hv.at 6 rfl (hdep.1 rfl)) az)).aO
     refine RL.gs (c:=true) (b:=(decide (aa.bN≤o.To))) (v:=(vi o.bN)) rfl rfl rfl (bL (i:=4) (f:=(fun x=>x.bN)) rfl hw (fun h=>by exact(cD h:cv (true&&((decide (aa.bN≤o.To))==true)) (vp ak 3)= (vp ak 3))) rfl jk bV) ?_
     exact RL.nil ⟨rfl,(ab,ad,ae,af),hv.put 7 zr zr,ha.up zr,zt,hw⟩
    ·rintro D σ w hD hdep hcl ⟨⟨ab,ad,ae,af⟩,hv,ha,_,hw⟩
     obtain⟨τ,rfl⟩:=(ac (hv.at 5 rfl (hdep.1 rfl)) (ac (ha.at 1 rfl) az)).aO
     refine RL.gs (c:=true) (b:=(decide (aa.bN≤o.To))) (v:=(vp ah 4)) zr zr zr (dE zr (fun _=>zr) p7) ?_
     exact RL.nil ⟨rfl,(ab,ad,ae,af),hv.put 8 zr zr,ha.up zr,zt,hw⟩
    ·rintro D σ w hD hdep hcl ⟨⟨ab,ad,ae,af⟩,hv,ha,_,hw⟩
     obtain⟨τ,rfl⟩:=(ac (hv.at 5 rfl (hdep.2.1 rfl)) (ac (hv.at 8 rfl (hdep.1 rfl)) az)).aO
     refine RL.gs (c:=true) (b:=(decide (aa.bN≤o.To))) (v:=(vi aa.To)) rfl rfl rfl (bL (i:=8) (f:=(fun x=>x.To)) rfl hw (fun h=>by exact(cD h:cv (true&&((decide (aa.bN≤o.To))==true)) (vp ah 4)= (vp ah 4))) rfl j4 bV) ?_
     exact RL.nil ⟨rfl,(ab,ad,ae,af),hv.put 9 zr zr,ha.up zr,zt,hw⟩
    ·rintro D σ w hD hdep hcl ⟨⟨ab,ad,ae,af⟩,hv,ha,_,hw⟩
     obtain⟨τ,rfl⟩:=(ac (hv.at 5 rfl (hdep.2.2.1 rfl)) (ac (hv.at 7 rfl (hdep.1 rfl)) (ac (hv.at 9 rfl (hdep.2.1 rfl)) az))).aO
     refine RL.gs (c:=true) (b:=(decide (aa.bN≤o.To))) (v:=(vb (decide (o.bN≤aa.To)))) rfl rfl rfl (dO (bop:= .leq) (K:= .i64) (a:=o.bN) (b:=aa.To) rfl (fun h=>by exact(cD h:cv (true&&((decide (aa.bN≤o.To))==true)) (vi o.bN)= (vi o.bN))) (fun h=>by exact(cD h:cv (true&&((decide (aa.bN≤o.To))==true)) (vi aa.To)= (vi aa.To))) rfl) ?_
     exact RL.nil ⟨rfl,(ab,ad,ae,af),hv.put 10 zr zr,ha.up zr,zt,hw⟩
    ·rintro D σ w hD hdep hcl ⟨⟨ab,ad,ae,af⟩,hv,ha,_,hw⟩
     obtain⟨τ,rfl⟩:=(ac (hv.at 5 rfl (hdep.1 rfl)) (ac (hv.at 10 rfl (hdep.2.1 rfl)) az)).aO
     refine RL.pick (b:=(decide (aa.bN≤o.To))) (v:=(vb ((decide (aa.bN≤o.To))&&(decide (o.bN≤aa.To))))) zt zr zr (hZ (c:=true) zr) ?_
     exact RL.nil ⟨rfl,(ab,ad,ae,af),hv.put 11 zr zr,ha.up zr,zt,hw⟩
    ·rintro D σ w hD hdep hcl ⟨⟨ab,ad,ae,af⟩,hv,ha,_,hw⟩
     obtain⟨τ,rfl⟩:=(ac (hv.at 12 rfl (hdep.1 rfl)) (ac (ha.at 1 rfl) az)).aO
     have hw:=hw.aQ (i:=0) rfl hD
     refine RL.aU (i:=8) (f:=(fun x=>x)) (cg aj) zr hw zr zr Fd.self kc fun b2 hw=>?_
     have hw:=hw.pl 12 [0,2,3,4,5,6,7,8,9,10,11] rfl
     have hw:=hw.aT (i:=0) (b:=true) rfl rfl (aI)
     exact RL.nil ⟨rfl,(b2,ad,ae,af),hv.put 13 zr zr,ha.up zr,zt,hw⟩
    ·rintro D σ w hD hdep hcl ⟨⟨ab,ad,ae,af⟩,hv,ha,_,hw⟩
     obtain⟨τ,rfl⟩:=(ac (hv.at 12 rfl (hdep.2.1 rfl)) (ac (hv.at 13 rfl (hdep.1 rfl)) az)).aO
     have hw:=hw.aS (i:=0) rfl (hdep.1 rfl)
     have hw:=hw.aQ (i:=1) rfl hD
     refine RL.call (cg aj) zr xM [ab] zr (aF (eB N (i0:=0) hw zr bw) ?_)
     rintro b3 w hw
     have hw:=hw.pl 12 [1,0,3,4,5,6,7,8,9,10,11] rfl
     have hw:=hw.aT (i:=0) (b:=D 13) rfl (hdep.1 rfl) (aI)
     have hw:=hw.aT (i:=1) (b:=true) rfl rfl (aI)
     exact RL.nil ⟨rfl,(ab,b3,ae,af),hv.put 14 zr zr,ha.up zr,zt,hw⟩
    ·rintro D σ w hD hdep hcl ⟨⟨ab,ad,ae,af⟩,hv,ha,_,hw⟩
     obtain⟨τ,rfl⟩:=(ac (hv.at 12 rfl (hdep.1 rfl)) (ac (ha.at 2 rfl) az)).aO
     have hw:=hw.aQ (i:=2) rfl hD
     refine RL.aU (i:=4) (f:=(fun x=>x)) (cg aj) zr hw zr zr Fd.self kc fun b4 hw=>?_
     have hw:=hw.pl 12 [1,2,0,4,5,6,7,8,9,10,11] rfl
     have hw:=hw.aT (i:=2) (b:=true) rfl rfl (aI)
     exact RL.nil ⟨rfl,(ab,ad,b4,af),hv.put 15 zr zr,ha.up zr,zt,hw⟩
    ·rintro D σ w hD hdep hcl ⟨⟨ab,ad,ae,af⟩,hv,ha,_,hw⟩
     obtain⟨τ,rfl⟩:=(ac (hv.at 12 rfl (hdep.2.2.1 rfl)) (ac (hv.at 15 rfl (hdep.1 rfl)) az)).aO
     have hw:=hw.aS (i:=2) rfl (hdep.1 rfl)
     have hw:=hw.aQ (i:=3) rfl hD
     refine RL.call (cg aj) zr xM [ae] zr (aF (eB N (i0:=2) hw zr b0) ?_)
     rintro b5 w hw
     have hw:=hw.pl 12 [1,2,3,0,5,6,7,8,9,10,11] rfl
     have hw:=hw.aT (i:=2) (b:=D 15) rfl (hdep.1 rfl) (aI)
     have hw:=hw.aT (i:=3) (b:=true) rfl rfl (aI)
     exact RL.nil ⟨rfl,(ab,ad,ae,b5),hv.put 16 zr zr,ha.up zr,zt,hw⟩
    ·rintro D σ w hD hdep hcl ⟨⟨ab,ad,ae,af⟩,hv,ha,_,hw⟩
     obtain⟨τ,rfl⟩:=(ac (hv.at 12 rfl (hdep.2.2.2.1 rfl)) (ac (hv.at 14 rfl (hdep.1 rfl)) (ac (hv.at 16 rfl (hdep.2.1 rfl)) az))).aO
     have hw:=hw.aS (i:=1) rfl (hdep.1 rfl)
     have hw:=hw.aS (i:=3) rfl (hdep.2.1 rfl)
     refine RL.call (cg aj) zr DA [ad,af] zr (aF (t9 N (i0:=1) (i1:=3) hw zr zr b1) ?_)
     rintro _ w ⟨rfl,hw⟩
     have hw:=hw.aT (i:=1) (b:=D 14) rfl (hdep.1 rfl) (aI)
     have hw:=hw.aT (i:=3) (b:=D 16) rfl (hdep.2.1 rfl) (aI)
     exact RL.nil ⟨rfl,(ab,ad,ae,af),hv.put 17 zr zr,ha.up zr,zt,hw⟩
    rintro D σ w hall ⟨⟨ab,ad,ae,af⟩,hv,ha,_,hw⟩
    have hw:=hw.aS (i:=0) rfl (hall 13 (by decide))
    have hw:=hw.aS (i:=1) rfl (hall 14 (by decide))
    have hw:=hw.aS (i:=2) rfl (hall 15 (by decide))
    have hw:=hw.aS (i:=3) rfl (hall 16 (by decide))
    obtain⟨τ,rfl⟩:=(ac (hv.at 19 rfl (hall 19 (by decide))) (ac (ha.at 0 rfl) (ac (ha.at 1 rfl) (ac (ha.at 2 rfl) (ac (ha.at 3 rfl) (ac (ha.at 4 rfl) (ac (ha.at 5 rfl) (ac (ha.at 6 rfl) (ac (ha.at 7 rfl) (ac (ha.at 8 rfl) az)))))))))).aO
    obtain rfl:=oi hj
    exact⟨rfl,(ag zr),hw.pk 11 [7,8,9,10] zr⟩
   rintro σ w ⟨ha,hw⟩
   obtain⟨τ,rfl⟩:=ha.aO
   refine aG (eI hb zr (fun hc hb=>?_) fun hc hb=>?_)
   rotate_left
   ·refine RC.skip (bI (aG (RC.region (RL.inc zt zr hk hm zr zr (mv (vi ((av+1:Nat):Int)) zr zr (RL.nil ?_))))))
    obtain rfl:=oi hb
    exact⟨rfl,(ag zr),hw.pk 4 [0,1,2,3] zr⟩
   refine RC.sr (aN (.pointer none) zr zr (aN (vi 12) zr zr (RL.nt (RC.rb (bK ?_)))))
   obtain rfl:=oi hb
   exact⟨rfl,kz zr zr zr ⟨rfl,hw.drop 4 zr⟩⟩
  ·intro r σ w e hK
   subst e
   refine j7 (bK ?_)
   obtain rfl:=oi hb
   exact⟨rfl,hK⟩
  intro a9 σ w e hJ
  subst e
  rw [Fo.eC] at hb
  obtain⟨ha,hw⟩:=hJ
  obtain⟨τ,rfl⟩:=ha.aO
  refine bI (aG (RC.region (RL.inc zt zr hk hm zr zr (mv (vi ((ao+1:Nat):Int)) zr zr (RL.nil ?_)))))
  obtain rfl:=oi hb
  exact⟨rfl,(ag zr),hw.pk 4 [0,2] zr⟩
 ·intro r σ w e hK
  subst e
  refine bK ?_
  obtain rfl:=oi hb
  exact hK
 intro a8 σ w e hJ
 subst e
 rw [Fo.eC] at hb
 obtain⟨ha,hw⟩:=hJ
 obtain⟨τ,rfl⟩:=ha.aO
 refine aG (RC.sr (RL.aU (i:=0) (f:=(fun x=>x)) zt zr hw zr zr Fd.self tR fun b6 hw=>?_))
 obtain⟨cs,hcs,hv200,hw⟩:=hw.Ak (i:=0) rfl rfl
 obtain⟨a1,a2,a3,a4,rfl⟩:=C3 hcs
 have hw:=hw.gZ (i:=0) (k:=0) (f:=fun x=>x.aJ) rfl lh rfl rfl rfl
 have hw:=hw.gZ (i:=1) (k:=1) (f:=fun x=>x.bZ) rfl rF rfl rfl rfl
 have hw:=hw.gZ (i:=2) (k:=2) (f:=fun x=>x.aK) rfl kb rfl rfl rfl
 have hw:=hw.gZ (i:=3) (k:=3) (f:=fun x=>x.aR) rfl mD rfl rfl rfl
 refine RL.Bn (zs:=[(.slice none 0 0),(.slice none 0 0),(.slice none 0 0),(.slice none 0 0),(.slice none 0 0),(.slice none 0 0),(.slice none 0 0),(.slice none 0 0),(.slice none 0 0),(.slice none 0 0),(.slice none 0 0),(.slice none 0 0)]) (cs:=[a1,a2,a3,a4,(.slice none 0 0),(.slice none 0 0),(.slice none 0 0),(.slice none 0 0),(.slice none 0 0),(.slice none 0 0),(.slice none 0 0),(.slice none 0 0)]) zt zr [(0,b6)] [(0,[a1,a2,a3,a4])] zr DB ⟨rfl,(congrArg Value.cells hv200),zt⟩ zr (RL.wT (cs:=[a1,a2,a3,a4,(.slice none 0 0),(.slice none 0 0),(.slice none 0 0),(.slice none 0 0),(.slice none 0 0),(.slice none 0 0),(.slice none 0 0),(.slice none 0 0)]) zt zr hw zr (uP.all (⟨(rf hw (i:=3) zr),(rf hw (i:=2) zr),(rf hw (i:=1) zr),(rf hw (i:=0) zr),zr,zr,zr,zr,zr,zr,zr,zr,zt⟩:uP [a1,a2,a3,a4,(.slice none 0 0),(.slice none 0 0),(.slice none 0 0),(.slice none 0 0),(.slice none 0 0),(.slice none 0 0),(.slice none 0 0),(.slice none 0 0)])) fun ar w hw=>(aN (vp ar 0) zr zr (RL.nq (RC.sr (mv (vp ar 0) zr zr ?_)))))
 have hw:=hw.bW (List aA) 63
 have hw:=hw.bW aC 65
 have hw:=hw.pull (i:=0) rfl
 have hw:=hw.pull (i:=2) rfl
 have hw:=hw.dup (i:=6) rfl
 have hw:=hw.dup (i:=9) rfl
 have hw:=hw.pull (i:=6) rfl
 obtain⟨b7,b8,hb⟩:=bd hb
 refine RL.call zt zr DM [(vp ar 0)] zr (aF (mh N hw b8) ?_)
 rintro _ w ⟨b9,ca,rfl,hw⟩
 refine RL.not (b:=b7.1) zt zr zr (RL.nt (eI hb zr (fun hc hb=>?_) fun hc hb=>?_))
 ·refine RC.sr (aN (.pointer none) zr zr (aN (vi 2) zr zr (RL.nt (RC.rt ?_))))
  obtain rfl:=oi hb
  exact kz zr zr zr ⟨rfl,hw.drop 14 zr⟩
 refine RC.sx (mv (vp ar 0) zr zr ?_)
 have hw:=hw.freeze (i:=2) rfl
 have hw:=hw.bW (List Int) 39
 have hw:=hw.pull (i:=0) rfl
 have hw:=hw.dup (i:=4) rfl
 have hw:=hw.dup (i:=10) rfl
 have hw:=hw.pull (i:=4) rfl
 obtain⟨cz,cb,hb⟩:=bd hb
 refine RL.call zt zr DQ [(vp ar 0)] zr (aF (mi N hw cb) ?_)
 rintro _ w ⟨cc,rfl,hw⟩
 refine RL.ns (mv (vp ar 0) zr zr ?_)
 have hw:=hw.freeze (i:=1) rfl
 have hw:=hw.bW Int 3
 have hw:=hw.bW Int 3
 have hw:=hw.bW Int 3
 have hw:=hw.bW fZ 102
 have hw:=hw.pull (i:=0) rfl
 have hw:=hw.pull (i:=2) rfl
 have hw:=hw.pull (i:=4) rfl
 have hw:=hw.pull (i:=6) rfl
 have hw:=hw.dup (i:=9) rfl
 have hw:=hw.dup (i:=14) rfl
 have hw:=hw.dup (i:=19) rfl
 have hw:=hw.dup (i:=21) rfl
 have hw:=hw.pull (i:=12) rfl
 obtain⟨c0,cd,hb⟩:=bd hb
 refine RL.call zt zr D2 [(vp ar 0)] zr (aF (jD N hw cd) ?_)
 rintro _ w ⟨cf,ch,cj,ck,cl,rfl,hw⟩
 refine RL.ns (mv (vp ar 0) zr zr (aN (vp ar 0) zr zr (aN (vi 0) zr zr (RL.nt (RC.ret ?_)))))
 obtain rfl:=oi hb
 exact kz zr zr zr ⟨ar,a1,a2,a3,a4,b9,ca,cc,cf,ch,cj,ck,cl,zr,hw.pk 27 [0,22,21,20,19,14,15,11,1,2,3,4,5] zr⟩
def q7 (E:World) (Γ:List HP) (res: (List aX)×Int) (v:Value) (w:World):Prop:=∃u0:Value,v = .tuple #[u0,(vi res.2)]∧Holds E w ([own 42 u0 res.1]++Γ)
theorem qs (N:Nat) {E w:World} {Γ:List HP} {i0:Nat} {v0:Value} {p0:ju} {res: (List aX)×Int} (hw:Holds E w Γ) (h0:Γ[i0]? =some (rd v0 p0)) (hb:fI N p0=some res):
    Calls Tryz.prog 4 [v0].toArray w (fu (q7 E Γ res)):=by
 unfold fI at hb
 refine enter Tryz.func4 zr zr (Nat.le_of_ble_eq_true zr) ?_
 have hw:=hw.dup (i:=i0+0) h0
 refine RC.sr (RL.dP (i:=0) (v:=v0) zt zr hw zr zr fun af w hw=>(aN (.slice none 0 0) zr zr (aN (vi 0) zr zr (RL.ns (RL.aU (i:=0) (f:=(fun x=>x)) zt zr hw zr zr Fd.self tR fun ad hw=>?_)))))
 obtain⟨j,ae,hb⟩:=bd hb
 refine RL.call zt zr D3 [ad] zr (aF (km N (i0:=0) hw zr ae) ?_)
 rintro _ w hK49
 rcases o:j.1 with _ | ag
 ·replace hb:=Bl o hb
  obtain⟨rfl,hw⟩:=yE o hK49
  refine mv (.tuple #[(.pointer none),(vi j.2)]) zr zr (RL.extract (v:=(.pointer none)) zt zr zr zr (RL.extract (v:=(vi j.2)) zt zr zr zr (aN (.pointer none) zr zr (aN (vi j.2) zr zr (RL.nq (RC.sr (mv (vi j.2) zr zr (ic (j.2) 0 zr zr zr zr ?_))))))))
  refine RL.nt (eI hb zr (fun hc hb=>?_) fun hc hb=>?_)
  rotate_left
  ·cases hb
  refine RC.sr (mv (vi j.2) zr zr (aN (.slice none 0 0) zr zr (aN (vi j.2) zr zr (RL.nt (RC.rt ?_)))))
  obtain rfl:=oi hb
  have hw:=hw.bW aX 42
  exact kz zr zr zr ⟨(.slice none 0 0),zr,hw.pk 4 [0] zr⟩
 replace hb:=Bm o hb
 obtain⟨aa,ah,ai,aj,ak,al,an,ao,ab,aq,ar,au,av,rfl,hw⟩:=yF o hK49
 refine mv (.tuple #[(vp aa 0),(vi j.2)]) zr zr (RL.extract (v:=(vp aa 0)) zt zr zr zr (RL.extract (v:=(vi j.2)) zt zr zr zr (aN (vp aa 0) zr zr (aN (vi j.2) zr zr (RL.nq (RC.sr (mv (vi j.2) zr zr (ic (j.2) 0 zr zr zr zr ?_))))))))
 refine RL.nt (eI hb zr (fun hc hb=>?_) fun hc hb=>?_)
 ·refine RC.sr (mv (vi j.2) zr zr (aN (.slice none 0 0) zr zr (aN (vi j.2) zr zr (RL.nt (RC.rt ?_)))))
  obtain rfl:=oi hb
  have hw:=hw.bW aX 42
  exact kz zr zr zr ⟨(.slice none 0 0),zr,hw.pk 17 [0] zr⟩
 refine RC.sx (mv (vp aa 0) zr zr (RL.nilCheck zt zr zr (RL.bD zt zr zr mF (RL.bF (i:=0) (v:=ab) zt zr hw zr zr zr vg (aN ab zr zr (aN (vi 0) zr zr (RL.nt (RC.ret ?_))))))))
 obtain rfl:=oi hb
 exact kz zr zr zr ⟨ab,zr,hw.pk 16 [8] zr⟩
def mo (E:World) (Γ:List HP) (res:Bool) (v:Value) (w:World):Prop:=v= (vb res)∧Holds E w Γ
theorem i5 (N:Nat) {E w:World} {Γ:List HP} {res:Bool} (hw:Holds E w Γ) (hb:cU N=some res):
    Calls Tryz.prog 5 [].toArray w (fu (mo E Γ res)):=by
 unfold cU at hb
 refine enter Tryz.func5 zr zr (Nat.le_of_ble_eq_true zr) (RC.sr (aN (vb false) zr zr (RL.ns ?_)))
 have hw:=hw.sc (γ:=Int) 2
 refine RL.build (y:=(⟨⟨0,0⟩,2,0,0,false⟩:bB)) trivial rfl hw [(1,(vi 2))] rfl D4 rfl (fun M hs g=>by have h:=Bo M;exact cC.cons (f:=fun(x:bB) y=>{x with cH:=y}) rfl h xE (by decide) (g.sat 0 _ rfl).1 fun _ h=>cC.nil h) fun ae hw=>?_
 obtain⟨o,af,hb⟩:=bd hb
 refine RL.call zt zr Ce [ae] zr (aF (lu N (i0:=0) hw zr af) ?_)
 rintro _ w ⟨ad,rfl,hw⟩
 refine mv (.tuple #[ad,(vi o.2)]) zr zr (RL.extract (v:=ad) zt zr zr zr (RL.extract (v:=(vi o.2)) zt zr zr zr (RL.alloc zt zr hw kA.z fun ag w hw=>(RL.bC (i:=0) (j:=1) zt hw zr zr zr zr eW zr fun w hw=>(aN (vi o.2) zr zr (RL.nq ?_))))))
 obtain⟨ab,hj,hb⟩:=bd hb
 refine RC.jn (fun(ab:Bool) (σ:Nat→Value) (w:World)=>agree σ [(0,(vb ab))]∧Holds E w ([]++Γ)) ab ?_ ?_
 ·refine RC.region (mv (vi o.2) zr zr (ic (o.2) 0 zr zr zr zr (mv (vb (o.2==0)) zr zr (fW hj (fun aa hj=>?_) fun aa hj=>?_))))
  rotate_left
  ·refine sk rfl (.inl (cb aa)) rfl (sk rfl (.inl (cb aa)) rfl (sk rfl (.inl (cb aa)) rfl (RL.pick (b:=(o.2==0)) (v:=(vb false)) trivial rfl rfl (by rw [aa];rfl) (aN (vb false) rfl rfl (RL.nil ?_)))))
   obtain rfl:=oi hj
   exact⟨rfl,⟨rfl,zt⟩,hw.pk 4 [] zr⟩
  refine RL.aU (i:=0) (f:=(fun x=>x)) (cg aa) zr hw zr zr Fd.self eW fun ah hw=>?_
  have hw:=hw.sc (γ:=Int) (-1)
  have hw:=hw.sc (γ:=Int) (-1)
  have hw:=hw.sc (γ:=Int) 1
  have hw:=hw.sc (γ:=Int) 1
  refine RL.build (y:=(⟨(-1),(-1),1,1⟩:aD)) (cg aa) rfl hw [(0,(vi (-1))),(1,(vi (-1))),(2,(vi 1)),(3,(vi 1))] rfl xJ rfl (fun M hs g=>by have h:=n9 M;exact cC.cons (f:=fun(x:aD) y=>{x with X0:=y}) rfl h k9 (by decide) (g.sat 3 _ rfl).1 fun _ h=>cC.cons (f:=fun(x:aD) y=>{x with Y0:=y}) rfl h ng (by decide) (g.sat 2 _ rfl).1 fun _ h=>cC.cons (f:=fun(x:aD) y=>{x with X1:=y}) rfl h ld (by decide) (g.sat 1 _ rfl).1 fun _ h=>cC.cons (f:=fun(x:aD) y=>{x with Y1:=y}) rfl h nh (by decide) (g.sat 0 _ rfl).1 fun _ h=>cC.nil h) fun ai hw=>(RL.seq (i:=5) (j:=0) (a:=o.1) (b:=(⟨(-1),(-1),1,1⟩:aD)) (cg aa) rfl hw rfl rfl rfl rfl AW rfl (RL.pick (b:=(o.2==0)) (v:=(vb (decide (o.1= (⟨(-1),(-1),1,1⟩:aD))))) trivial rfl rfl (by rw [aa];rfl) (aN (vb (decide (o.1= (⟨(-1),(-1),1,1⟩:aD)))) rfl rfl (RL.nil ?_))))
  obtain rfl:=oi hj
  exact⟨rfl,⟨rfl,zt⟩,hw.pk 10 [] zr⟩
 rintro σ w ⟨ha,hw⟩
 obtain⟨τ,rfl⟩:=ha.aO
 refine aG (RC.ret ?_)
 obtain rfl:=oi hb
 exact bQ zr zr ⟨rfl,hw.drop 0 zr⟩
def ph (E:World) (Γ:List HP) (res:bX) (v:Value) (w:World):Prop:=Holds E w ([rd v res]++Γ)
theorem ow (N:Nat) {E w:World} {Γ:List HP} {i0:Nat} {v0:Value} {p0: (List aA)} {res:bX} (hw:Holds E w Γ) (h0:Γ[i0]? =some (rd v0 p0)) (hb:gu N p0=some res):
    Calls Tryz.prog 11 [v0].toArray w (fu (ph E Γ res)):=by
 unfold gu at hb
 refine enter Tryz.func11 zr zr (Nat.le_of_ble_eq_true zr) ?_
 have hw:=hw.dup (i:=i0+0) h0
 refine RC.sr (RL.alloc trivial rfl hw D5.z fun ag w hw=>(RL.nq (RC.An mixed rfl [0,0,0,0,0,0,0,0,0,0,0,2] [0,1,2,3,4,5,6,7,8,9,10,11] (by kernel_rfl) ?_)))
 have hw:=hw.drew
 refine DP.e0 zr zr (mv v0 zr zr (cY zr zr ?_))
 obtain⟨ab,ad,hb⟩:=bd hb
 refine RL.bO (i:=1) zt zr hw zr zr zr jl ad fun ah hw=>(cY zr zr (RL.gJ (i:=0) (f:=fun(x:aA)=>x.Xs) zt zr hw zr zr iF bR fun ai hw=>(cY zr zr (RL.bT (i:=0) (x:=ab.Xs) zt zr hw zr zr cT fun aj hw=>(cY zr zr ?_)))))
 obtain⟨o,ae,hb⟩:=bd hb
 refine RL.bO (i:=0) zt zr hw zr zr zr dB ae fun ak hw=>(cY zr zr (RL.aY (i:=0) (y:=o) zt zr hw zr zr bV (cY zr zr (mv v0 zr zr (cY zr zr ?_)))))
 obtain⟨aa,af,hb⟩:=bd hb
 refine RL.bO (i:=5) zt zr hw zr zr zr jl af fun al hw=>(cY zr zr (RL.gJ (i:=0) (f:=fun(x:aA)=>x.Y0) zt zr hw zr zr kQ cQ fun an hw=>(cY zr zr (RL.aY (i:=0) (y:=aa.Y0) zt zr hw zr zr bV (cY zr zr ?_)))))
 have hw:=hw.sc (γ:=Int) o
 have hw:=hw.sc (γ:=Int) aa.Y0
 refine RL.build (y:=(⟨o,aa.Y0⟩:bX)) trivial rfl hw [(0,(vi o)),(1,(vi aa.Y0))] rfl D6 rfl (fun M hs g=>by have h:=tP M;exact cC.cons (f:=fun(x:bX) y=>{x with X:=y}) rfl h v7 (by decide) (g.sat 1 _ rfl).1 fun _ h=>cC.cons (f:=fun(x:bX) y=>{x with Y:=y}) rfl h v8 (by decide) (g.sat 0 _ rfl).1 fun _ h=>cC.nil h) fun ao hw=>(yO rfl rfl (RL.bC (i:=9) (j:=0) trivial hw rfl rfl rfl rfl xL rfl fun w hw=>(DP.d2 trivial (DP.z (aG (RC.ret ?_))))))
 obtain rfl:=oi hb
 exact Aa (i:=9) zr hw zr zr xL fun aq hw=>(hw.pk 12 [0] zr)
end Go.Gk
