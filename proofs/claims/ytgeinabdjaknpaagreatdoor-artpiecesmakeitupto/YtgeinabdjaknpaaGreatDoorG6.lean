/-
  Printed texts: Go functions as plain functions, and that they are. No statement of the seed is proved here.
-/
import Derived.Test.YtgeinabdjaknpaaGreatDoorG1
import Derived.Test.YtgeinabdjaknpaaGreatDoorG2
import Derived.Test.YtgeinabdjaknpaaGreatDoorG3
import Derived.Test.YtgeinabdjaknpaaGreatDoorG4
import Derived.Test.YtgeinabdjaknpaaGreatDoorG5
import Derived.Test.YtgeinabdjaknpaaGreatDoorA2
set_option linter.unusedVariables false
set_option linter.unusedSimpArgs false
set_option linter.unusedSectionVars false
set_option maxRecDepth 100000
set_option maxHeartbeats 4000000
namespace Go.Gk
open Go Go.Proofs
def jY (E:World) (Γ:List HP) (b0:Nat) (v0_0:Value) (v0_1:Value) (v0_2:Value) (v0_3:Value) (v0_4:Value) (v0_5:Value) (v0_6:Value) (res: (List bT)×(List Int)×(List Int)×(List Int)×(List gk)) (v:Value) (w:World):Prop:=∃u0_7 u0_8 u0_9 u0_10 u0_11:Value,v = .tuple #[]∧Holds E w ([bc 56 b0 [v0_0,v0_1,v0_2,v0_3,v0_4,v0_5,v0_6,u0_7,u0_8,u0_9,u0_10,u0_11],own 108 u0_7 res.1,rd u0_8 res.2.1,rd u0_9 res.2.2.1,own 3 u0_10 res.2.2.2.1,own 110 u0_11 res.2.2.2.2]++Γ)
theorem jM (N:Nat) {E w:World} {Γ:List HP} {b0:Nat} {v0_0:Value} {v0_1:Value} {v0_2:Value} {p0_2: (List bD)} {v0_3:Value} {p0_3: (List cT)} {v0_4:Value} {v0_5:Value} {p0_5: (List aD)} {v0_6:Value} {p0_6: (List (List Int))} {v0_8:Value} {p0_8: (List Int)} {v0_9:Value} {p0_9: (List Int)} {v0_10:Value} {p0_10: (List Int)} {v0_11:Value} {p0_11: (List gk)} {res: (List bT)×(List Int)×(List Int)×(List Int)×(List gk)} (hw:Holds E w (bc 56 b0 [v0_0,v0_1,v0_2,v0_3,v0_4,v0_5,v0_6,(.slice none 0 0),v0_8,v0_9,v0_10,v0_11]::rd v0_2 p0_2::rd v0_3 p0_3::rd v0_5 p0_5::rd v0_6 p0_6::own 3 v0_8 p0_8::own 3 v0_9 p0_9::own 3 v0_10 p0_10::own 110 v0_11 p0_11::Γ)) (hb:cO N p0_2 p0_3 p0_5 p0_6 p0_8 p0_9 p0_10 p0_11=some res):
    Calls Tryz.prog 27 [(vp b0 0)].toArray w (fw (jY E Γ b0 v0_0 v0_1 v0_2 v0_3 v0_4 v0_5 v0_6 res)):=by
 unfold cO at hb
 refine enter Tryz.func27 zr zr (Nat.le_of_ble_eq_true zr) (RC.sr (mv (vp b0 0) zr zr (RL.nilCheck zt zr zr (RL.bF zt zr zr l9 (RL.bE (i:=0) (v:=v0_5) zt zr hw zr zr zr uO (RL.bG (i:=3) (l:=p0_5) zt zr hw zr zr yE (aM (vi (p0_5.length:Int)) zr zr (RL.ns ?_))))))))
 refine mv (vi (p0_5.length:Int)) zr zr (mv (vp b0 0) zr zr (RL.nilCheck zt zr zr (RL.bF zt zr zr mS (RL.bF zt zr zr ll (RL.bE (i:=0) (v:=v0_2) zt zr hw zr zr zr tC (RL.bG (i:=1) (l:=p0_2) zt zr hw zr zr uJ (RL.gQ (a:=(p0_5.length:Int)) (b:=(p0_2.length:Int)) zt zr zr zr zr ?_)))))))
 obtain⟨et,di,hb⟩:=bd hb
 refine RL.call zt zr EM [(vi (IntKind.wrap .i64 ((p0_5.length:Int)+ (p0_2.length:Int))))] zr (aF (n7 N (p0:=(IntKind.wrap .i64 ((p0_5.length:Int)+ (p0_2.length:Int)))) hw di) ?_)
 rintro _ w ⟨a4,dj,rfl,hw⟩
 refine aM (vp a4 0) zr zr (RL.nq (RC.sr (mv (vp b0 0) zr zr (RL.nilCheck zt zr zr (RL.bF zt zr zr xl (RL.bE (i:=2) (v:=v0_6) zt zr hw zr zr zr Ch (RL.bG (i:=6) (l:=p0_6) zt zr hw zr zr Ci (mv (vi 0) zr zr ?_))))))))
 refine RL.nt ?_
 obtain⟨bn,hN,hb⟩:=bd hb
 refine RC.fold (fun(ba:Nat) (bn: (List Int)) (σ:Nat→Value) (w:World)=>∃cw:Value,agree σ [(0,(vp b0 0)),(2,(vi (p0_5.length:Int))),(3,(vp a4 0)),(35,v0_6),(36,(vi (p0_6.length:Int))),(37,(vi (ba:Int)))]∧Holds E w ([bc 56 b0 [v0_0,v0_1,v0_2,v0_3,v0_4,v0_5,v0_6,(.slice none 0 0),v0_8,v0_9,v0_10,v0_11],rd v0_2 p0_2,rd v0_3 p0_3,rd v0_5 p0_5,rd v0_6 p0_6,own 3 v0_8 p0_8,own 3 v0_9 p0_9,own 3 v0_10 p0_10,own 110 v0_11 p0_11,bc 133 a4 [cw],own 3 cw bn]++Γ)) (fun(bn: (List Int)) (σ:Nat→Value) (w:World)=>∃b1:Value,agree σ [(0,(vp b0 0)),(2,(vi (p0_5.length:Int))),(3,(vp a4 0))]∧Holds E w ([bc 56 b0 [v0_0,v0_1,v0_2,v0_3,v0_4,v0_5,v0_6,(.slice none 0 0),v0_8,v0_9,v0_10,v0_11],rd v0_2 p0_2,rd v0_3 p0_3,rd v0_5 p0_5,rd v0_6 p0_6,own 3 v0_8 p0_8,own 3 v0_9 p0_9,own 3 v0_10 p0_10,own 110 v0_11 p0_11,bc 133 a4 [b1],own 3 b1 bn]++Γ)) hN ?_ ?_ ?_ ?_
 ·exact⟨dj,(ag zr),hw.pk 11 [2,3,4,5,6,7,8,9,10,0,1] zr⟩
 ·intro hm bn σ w hI
  obtain⟨dk,ha,hw⟩:=hI
  obtain⟨τ,rfl⟩:=ha.aO
  refine RC.sr (ic ((p0_6.length:Int)) ((p0_6.length:Int)) zr zr zr zr (RL.nq (RC.cH lZ (RC.ex ?_))))
  exact⟨rfl,dk,(ag zr),hw.pk 11 [0,1,2,3,4,5,6,7,8,9,10] zr⟩
 ·intro hm ba bn s' σ w hk hI hb
  obtain⟨dm,ha,hw⟩:=hI
  obtain⟨τ,rfl⟩:=ha.aO
  refine RC.sr (ic ((ba:Int)) ((p0_6.length:Int)) zr zr zr zr (RL.nq (RC.cG (lY hk) (RC.ss (RC.bs (mv (vi (ba:Int)) zr zr ?_))))))
  obtain⟨bm,dn,hb⟩:=bd hb
  refine RL.bO (i:=4) zt zr hw zr zr zr yG dn fun eu hw=>(RL.bP (i:=0) (x:=bm) zt zr hw zr zr dL fun b2 hw=>(aM (vi (ba:Int)) zr zr (aM b2 zr zr (RL.ns (mv b2 zr zr (RL.bG (i:=0) (l:=bm) zt zr hw zr zr jH (mv (vi 0) zr zr (RL.nt ?_))))))))
  obtain⟨bq,hN,hb⟩:=bd hb
  refine RC.fold (fun(b5:Nat) (bq: (List Int)) (σ:Nat→Value) (w:World)=>∃cx:Value,agree σ [(0,(vp b0 0)),(2,(vi (p0_5.length:Int))),(3,(vp a4 0)),(4,(vi (ba:Int))),(35,v0_6),(36,(vi (p0_6.length:Int))),(37,(vi (ba:Int))),(42,b2),(43,(vi (bm.length:Int))),(44,(vi (b5:Int)))]∧Holds E w ([bc 56 b0 [v0_0,v0_1,v0_2,v0_3,v0_4,v0_5,v0_6,(.slice none 0 0),v0_8,v0_9,v0_10,v0_11],rd v0_2 p0_2,rd v0_3 p0_3,rd v0_5 p0_5,rd v0_6 p0_6,own 3 v0_8 p0_8,own 3 v0_9 p0_9,own 3 v0_10 p0_10,own 110 v0_11 p0_11,bc 133 a4 [cx],own 3 cx bq,rd b2 bm]++Γ)) (fun(bq: (List Int)) (σ:Nat→Value) (w:World)=>∃b6:Value,agree σ [(0,(vp b0 0)),(2,(vi (p0_5.length:Int))),(3,(vp a4 0)),(35,v0_6),(36,(vi (p0_6.length:Int))),(37,(vi (ba:Int)))]∧Holds E w ([bc 56 b0 [v0_0,v0_1,v0_2,v0_3,v0_4,v0_5,v0_6,(.slice none 0 0),v0_8,v0_9,v0_10,v0_11],rd v0_2 p0_2,rd v0_3 p0_3,rd v0_5 p0_5,rd v0_6 p0_6,own 3 v0_8 p0_8,own 3 v0_9 p0_9,own 3 v0_10 p0_10,own 110 v0_11 p0_11,bc 133 a4 [b6],own 3 b6 bq,rd b2 bm]++Γ)) hN ?_ ?_ ?_ ?_
  ·exact⟨dm,(ag zr),hw.pk 13 [2,3,4,5,6,7,8,9,10,11,12,0] zr⟩
  ·intro hm bq σ w hI
   obtain⟨dp,ha,hw⟩:=hI
   obtain⟨τ,rfl⟩:=ha.aO
   refine RC.sr (ic ((bm.length:Int)) ((bm.length:Int)) zr zr zr zr (RL.nq (RC.cH lZ (RC.ex ?_))))
   exact⟨rfl,dp,(ag zr),hw.pk 12 [0,1,2,3,4,5,6,7,8,9,10,11] zr⟩
  ·intro hm b5 bq s' σ w hk hI hb
   obtain⟨ew,ha,hw⟩:=hI
   obtain⟨τ,rfl⟩:=ha.aO
   refine RC.sr (ic ((b5:Int)) ((bm.length:Int)) zr zr zr zr (RL.nq (RC.cG (lY hk) (RC.ss (RC.bs ?_)))))
   obtain⟨b3,dq,hb⟩:=bd hb
   refine RL.bO (i:=11) zt zr hw zr zr zr dM dq fun ey hw=>(RL.bA (i:=0) (y:=b3) zt zr hw zr zr bX (aM (vi b3) zr zr (RL.nt (RC.region (mv (vp a4 0) zr zr (mv (vi b3) zr zr (mv (vi (p0_5.length:Int)) zr zr (mv (vi (ba:Int)) zr zr ?_))))))))
   refine RL.gQ (a:=(p0_5.length:Int)) (b:=(ba:Int)) zt zr zr zr zr ?_
   have hw:=hw.pull (i:=11) rfl
   have hw:=hw.pull (i:=11) rfl
   obtain⟨ez,dr,hb⟩:=bd hb
   refine RL.call zt zr EN [(vp a4 0),(vi b3),(vi (IntKind.wrap .i64 ((p0_5.length:Int)+ (ba:Int))))] zr (aF (mF N (p1:=b3) (p2:=(IntKind.wrap .i64 ((p0_5.length:Int)+ (ba:Int)))) hw dr) ?_)
   rintro _ w ⟨ds,rfl,hw⟩
   refine RL.nil (bJ (aG (RC.region (RL.inc zt zr hk hm zr zr (mv (vi ((b5+1:Nat):Int)) zr zr (RL.nil ?_))))))
   obtain rfl:=oi hb
   exact⟨rfl,ds,(ag zr),hw.pk 15 [3,4,5,6,7,8,9,10,11,0,1,14] zr⟩
  intro σ w hJ
  obtain⟨b6,ha,hw⟩:=hJ
  obtain⟨τ,rfl⟩:=ha.aO
  refine bJ (aG (RC.region (RL.inc zt zr hk hm zr zr (mv (vi ((ba+1:Nat):Int)) zr zr (RL.nil ?_)))))
  obtain rfl:=oi hb
  exact⟨rfl,b6,(ag zr),hw.pk 12 [0,1,2,3,4,5,6,7,8,9,10] zr⟩
 intro σ w hJ
 obtain⟨b1,ha,hw⟩:=hJ
 obtain⟨τ,rfl⟩:=ha.aO
 refine aG (RC.seq ?_)
 obtain⟨dt,du,hb⟩:=bd hb
 obtain⟨zG,dv,hb⟩:=bd hb
 refine RC.tw (E:=E) (Γ:=Γ) mixed rfl [1,1,1,0,1,1,1,1,0,0,0,1,1,0,1,1,0] [3,10,13,16] (fun(x:Value×Value)=>(fun ae ah=>[(0,56,(vp b0 0)),(1,57,(vp b0 0)),(2,58,(vi (p0_5.length:Int))),(3,59,ae),(4,60,(vp b0 0)),(5,61,(vp b0 0)),(6,62,(vp b0 0)),(7,63,(vp b0 2)),(8,64,v0_2),(9,65,(vi (p0_2.length:Int))),(10,66,ah),(11,67,(vp b0 0)),(12,68,(vp b0 8)),(14,69,(vp b0 0)),(15,70,(vp b0 9))]) x.1 x.2) [(0,(vp b0 0)),(2,(vi (p0_5.length:Int))),(3,(vp a4 0))] [] (fun(D:Nat→Bool) (x:Value×Value)=>(fun ae ah=>[bif D 0 then (own 3 ae dt) else aK,bif D 1 then (own 3 ah zG) else aK,bif D 3 then (bc 56 b0 [v0_0,v0_1,v0_2,v0_3,v0_4,v0_5,v0_6,(.slice none 0 0),ae,ah,v0_10,v0_11]) else (bif D 2 then (bc 56 b0 [v0_0,v0_1,v0_2,v0_3,v0_4,v0_5,v0_6,(.slice none 0 0),ae,v0_9,v0_10,v0_11]) else (bc 56 b0 [v0_0,v0_1,v0_2,v0_3,v0_4,v0_5,v0_6,(.slice none 0 0),v0_8,v0_9,v0_10,v0_11])),rd v0_2 p0_2,rd v0_3 p0_3,rd v0_5 p0_5,rd v0_6 p0_6,own 3 v0_8 p0_8,own 3 v0_9 p0_9,own 3 v0_10 p0_10,own 110 v0_11 p0_11,bc 133 a4 [b1],own 3 b1 bn]) x.1 x.2) (fun x=>by kernel_rfl) ?_ ⟨fun _=>eA gn rfl,fun _=>eA gn rfl,fun _=>eA gn rfl,?_,fun _=>eA gn rfl,fun _=>qp gn rfl,fun _=>fN gn mS rfl,fun _=>fN gn ll rfl,?_,?_,?_,fun _=>qp gn rfl,fun _=>fN gn xm rfl,?_,fun _=>qp gn rfl,fun _=>fN gn uQ rfl,?_,trivial⟩ ?_
 ·have hw:=hw.drew
  have hw:=hw.aK
  have hw:=hw.aK
  exact⟨(undef,undef),doneV.none,(ag zr),zt,hw⟩
 ·rintro D σ w hD hdep hcl ⟨⟨ae,ah⟩,hv,ha,_,hw⟩
  obtain⟨τ,rfl⟩:=(ac (hv.at 2 rfl (hdep.1 rfl)) az).aO
  have hw:=hw.aP (i:=0) rfl hD
  have hw:=hw.aP (i:=2) rfl (nf (fun h=>ft hD ((hcl 16 _ rfl h).2.2.2.2.2.2.1 rfl)))
  have hw:=hw.aP (i:=2) rfl (nf (fun h=>ft hD ((hcl 13 _ rfl h).2.1 rfl)))
  refine RL.mk (k:=(p0_5.length:Int)) zt zr hw zr zr qx CV du fun ck w hw=>?_
  have hw:=hw.pl 14 [0,2,3,4,5,6,7,8,9,10,11,12,13] rfl
  have hw:=hw.aS (i:=0) (b:=true) rfl rfl (aK)
  have hw:=hw.cK (i:=2) (b:=D 13) rfl (nf (fun h=>ft hD ((hcl 13 _ rfl h).2.1 rfl))) (bc 56 b0 [v0_0,v0_1,v0_2,v0_3,v0_4,v0_5,v0_6,(.slice none 0 0),ck,v0_9,v0_10,v0_11])
  have hw:=hw.cK (i:=2) (b:=D 16) rfl (nf (fun h=>ft hD ((hcl 16 _ rfl h).2.2.2.2.2.2.1 rfl))) (bc 56 b0 [v0_0,v0_1,v0_2,v0_3,v0_4,v0_5,v0_6,(.slice none 0 0),ck,ah,v0_10,v0_11])
  exact RL.nil ⟨rfl,(ck,ah),hv.put 3 zr zr,ha.up zr,zt,hw⟩
 ·rintro D σ w hD hdep hcl ⟨⟨ae,ah⟩,hv,ha,_,hw⟩
  obtain⟨τ,rfl⟩:=(ac (hv.at 7 rfl (hdep.1 rfl)) az).aO
  have hw:=hw.aP (i:=2) rfl (nf (fun h=>ft hD ((hcl 16 _ rfl h).2.2.2.2.2.2.2.2.2.2.2.1 rfl)))
  have hw:=hw.aP (i:=2) rfl (nf (fun h=>ft hD ((hcl 13 _ rfl h).2.2.2.2.2.2.2.2.2.2.1 rfl)))
  refine RL.bE (i:=2) (v:=v0_2) zt zr hw zr zr zr tC ?_
  have hw:=hw.cK (i:=2) (b:=D 13) rfl (nf (fun h=>ft hD ((hcl 13 _ rfl h).2.2.2.2.2.2.2.2.2.2.1 rfl))) (bc 56 b0 [v0_0,v0_1,v0_2,v0_3,v0_4,v0_5,v0_6,(.slice none 0 0),ae,v0_9,v0_10,v0_11])
  have hw:=hw.cK (i:=2) (b:=D 16) rfl (nf (fun h=>ft hD ((hcl 16 _ rfl h).2.2.2.2.2.2.2.2.2.2.2.1 rfl))) (bc 56 b0 [v0_0,v0_1,v0_2,v0_3,v0_4,v0_5,v0_6,(.slice none 0 0),ae,ah,v0_10,v0_11])
  exact RL.nil ⟨rfl,(ae,ah),hv.put 8 zr zr,ha.up zr,zt,hw⟩
 ·rintro D σ w hD hdep hcl ⟨⟨ae,ah⟩,hv,ha,_,hw⟩
  obtain⟨τ,rfl⟩:=(ac (hv.at 8 rfl (hdep.1 rfl)) az).aO
  refine RL.bG (i:=3) (l:=p0_2) zt zr hw zr zr uJ ?_
  exact RL.nil ⟨rfl,(ae,ah),hv.put 9 zr zr,ha.up zr,zt,hw⟩
 ·rintro D σ w hD hdep hcl ⟨⟨ae,ah⟩,hv,ha,_,hw⟩
  obtain⟨τ,rfl⟩:=(ac (hv.at 9 rfl (hdep.1 rfl)) az).aO
  have hw:=hw.aP (i:=1) rfl hD
  have hw:=hw.aP (i:=2) rfl (nf (fun h=>ft hD ((hcl 16 _ rfl h).2.1 rfl)))
  refine RL.mk (k:=(p0_2.length:Int)) zt zr hw zr zr qx CV dv fun cy w hw=>?_
  have hw:=hw.pl 14 [1,0,3,4,5,6,7,8,9,10,11,12,13] rfl
  have hw:=hw.aS (i:=1) (b:=true) rfl rfl (aK)
  have hw:=hw.cK (i:=2) (b:=D 16) rfl (nf (fun h=>ft hD ((hcl 16 _ rfl h).2.1 rfl))) (bc 56 b0 [v0_0,v0_1,v0_2,v0_3,v0_4,v0_5,v0_6,(.slice none 0 0),ae,cy,v0_10,v0_11])
  exact RL.nil ⟨rfl,(ae,cy),hv.put 10 zr zr,ha.up zr,zt,hw⟩
 ·rintro D σ w hD hdep hcl ⟨⟨ae,ah⟩,hv,ha,_,hw⟩
  obtain⟨τ,rfl⟩:=(ac (hv.at 3 rfl (hdep.2.1 rfl)) (ac (hv.at 12 rfl (hdep.1 rfl)) az)).aO
  have hw:=hw.aR (i:=0) rfl (hdep.2.1 rfl)
  have hw:=hw.aP (i:=2) rfl (nf (fun h=>ft hD ((hcl 16 _ rfl h).2.2.1 rfl)))
  have hw:=hw.aP (i:=2) rfl hD
  refine RL.fU (i:=2) (v:=ae) zt hw zr zr zr zr (gm hw (i:=0) zr) dL fun w hw=>?_
  have hw:=hw.aS (i:=0) (b:=D 3) rfl (hdep.2.1 rfl) (aK)
  have hw:=hw.aS (i:=2) (b:=true) rfl rfl (bc 56 b0 [v0_0,v0_1,v0_2,v0_3,v0_4,v0_5,v0_6,(.slice none 0 0),v0_8,v0_9,v0_10,v0_11])
  have hw:=hw.cK (i:=2) (b:=D 16) rfl (nf (fun h=>ft hD ((hcl 16 _ rfl h).2.2.1 rfl))) (bc 56 b0 [v0_0,v0_1,v0_2,v0_3,v0_4,v0_5,v0_6,(.slice none 0 0),ae,ah,v0_10,v0_11])
  exact RL.nil ⟨rfl,(ae,ah),hv.no zr,ha,zt,hw⟩
 ·rintro D σ w hD hdep hcl ⟨⟨ae,ah⟩,hv,ha,_,hw⟩
  obtain⟨τ,rfl⟩:=(ac (hv.at 10 rfl (hdep.2.1 rfl)) (ac (hv.at 14 rfl (hdep.1 rfl)) az)).aO
  have hw:=hw.aR (i:=1) rfl (hdep.2.1 rfl)
  have hw:=hw.aP (i:=2) rfl hD
  have hw:=hw.aR (i:=2) rfl (hdep.2.2.1 rfl)
  refine RL.fU (i:=2) (v:=ah) zt hw zr zr zr zr (gm hw (i:=1) zr) dL fun w hw=>?_
  have hw:=hw.aS (i:=1) (b:=D 10) rfl (hdep.2.1 rfl) (aK)
  have hw:=hw.aS (i:=2) (b:=true) rfl rfl (bif D 13 then (bc 56 b0 [v0_0,v0_1,v0_2,v0_3,v0_4,v0_5,v0_6,(.slice none 0 0),ae,v0_9,v0_10,v0_11]) else (bc 56 b0 [v0_0,v0_1,v0_2,v0_3,v0_4,v0_5,v0_6,(.slice none 0 0),v0_8,v0_9,v0_10,v0_11]))
  exact RL.nil ⟨rfl,(ae,ah),hv.no zr,ha,zt,hw⟩
 rintro D σ w hall ⟨⟨ae,ah⟩,hv,ha,_,hw⟩
 have hw:=hw.aR (i:=0) rfl (hall 3 (by decide))
 have hw:=hw.aR (i:=1) rfl (hall 10 (by decide))
 have hw:=hw.aR (i:=2) rfl (hall 16 (by decide))
 obtain⟨τ,rfl⟩:=(ac (ha.at 0 rfl) (ac (ha.at 1 rfl) (ac (ha.at 2 rfl) az))).aO
 refine aG (RC.seq (RC.sr (mv (vp a4 0) zr zr ?_)))
 have hw:=hw.pull (i:=12) rfl
 have hw:=hw.pull (i:=12) rfl
 obtain⟨a0,dw,hb⟩:=bd hb
 refine RL.call zt zr EO [(vp a4 0)] zr (aF (mG N hw dw) ?_)
 rintro a5 w ⟨_,e1,rfl,hw⟩
 refine RL.dC (i:=0) (l:=a0.1) zt zr hw zr zr Ci (mv (vi 0) zr zr (RL.nt ?_))
 obtain⟨av,hN,hb⟩:=bd hb
 refine RC.fold (fun(bh:Nat) (av: (List bT)×(List Int)×(List Int)) (σ:Nat→Value) (w:World)=>∃(cz:Value) (us450:List aX),agree σ [(0,(vp b0 0)),(2,(vi (p0_5.length:Int))),(72,a5),(73,(vi (a0.1.length:Int))),(74,(vi (bh:Int)))]∧Holds E w ([bc 56 b0 [v0_0,v0_1,v0_2,v0_3,v0_4,v0_5,v0_6,cz,ae,ah,v0_10,v0_11],own 108 cz us450,eX aV us450 av.1 none,rd v0_2 p0_2,rd v0_3 p0_3,rd v0_5 p0_5,rd v0_6 p0_6,own 3 ae av.2.1,own 3 ah av.2.2,own 3 v0_10 p0_10,own 110 v0_11 p0_11,own 53 a5 a0.1]++Γ)) (fun(av: (List bT)×(List Int)×(List Int)) (σ:Nat→Value) (w:World)=>∃(af:Value) (us452:List aX),agree σ [(0,(vp b0 0))]∧Holds E w ([bc 56 b0 [v0_0,v0_1,v0_2,v0_3,v0_4,v0_5,v0_6,af,ae,ah,v0_10,v0_11],own 108 af us452,eX aV us452 av.1 none,rd v0_2 p0_2,rd v0_3 p0_3,rd v0_5 p0_5,rd v0_6 p0_6,own 3 ae av.2.1,own 3 ah av.2.2,own 3 v0_10 p0_10,own 110 v0_11 p0_11,own 53 a5 a0.1]++Γ)) hN ?_ ?_ ?_ ?_
 ·have hw:=hw.uu aV
  have hw:=hw.bV aX 108
  exact⟨(.slice none 0 0),([]:List aX),(ag zr),hw.pk 18 [7,0,1,8,9,10,11,5,6,14,15,2] zr⟩
 ·intro hm av σ w hI
  obtain⟨dx,us616,ha,hw⟩:=hI
  obtain⟨τ,rfl⟩:=ha.aO
  refine RC.sr (ic ((a0.1.length:Int)) ((a0.1.length:Int)) zr zr zr zr (RL.nq (RC.cH lZ (RC.ex ?_))))
  exact⟨rfl,dx,us616,⟨rfl,zt⟩,hw.pk 12 [0,1,2,3,4,5,6,7,8,9,10,11] zr⟩
 ·intro hm bh av s' σ w hk hI hb
  obtain⟨a1,us454,ha,hw⟩:=hI
  obtain⟨τ,rfl⟩:=ha.aO
  refine RC.sr (ic ((bh:Int)) ((a0.1.length:Int)) zr zr zr zr (RL.nq (RC.cG (lY hk) (RC.ss (RC.bs ?_)))))
  obtain⟨bf,cl,hb⟩:=bd hb
  refine RL.bB (i:=11) zt zr hw zr zr zr yG cl (RL.gl (i:=11) (f:=(fun x=>x)) zt zr hw zr (gS hw (i:=11) zr cl 0) zr (aQ cl).2.1 Fd.self dL fun bj hw=>(aM bj zr zr (RL.ns (RL.r6 zt zr hw Dm zr fun bk w hw=>(RL.nq (RC.sr (mv bj zr zr (RL.bG (i:=1) (l:=bf) zt zr hw zr zr jH ?_))))))))
  refine mv (vi 0) zr zr (RL.nt ?_)
  obtain⟨ab,hN,hb⟩:=bd hb
  refine RC.fold (fun(br:Nat) (ab: (List Int)×(List Int)×(List Int)×(List Int)) (σ:Nat→Value) (w:World)=>∃c0 c1:Value,agree σ [(0,(vp b0 0)),(2,(vi (p0_5.length:Int))),(10,(vp bk 0)),(72,a5),(73,(vi (a0.1.length:Int))),(74,(vi (bh:Int))),(78,bj),(79,(vi (bf.length:Int))),(80,(vi (br:Int)))]∧Holds E w ([bc 56 b0 [v0_0,v0_1,v0_2,v0_3,v0_4,v0_5,v0_6,a1,ae,ah,v0_10,v0_11],rd v0_2 p0_2,rd v0_3 p0_3,rd v0_5 p0_5,rd v0_6 p0_6,own 108 a1 us454,eX aV us454 av.1 none,own 3 ae ab.1,own 3 ah ab.2.1,own 3 v0_10 p0_10,own 110 v0_11 p0_11,bc 108 bk [c0,c1,(.slice none 0 0)],own 3 c0 ab.2.2.1,own 3 c1 ab.2.2.2,own 53 a5 a0.1,rd bj bf]++Γ)) (fun(ab: (List Int)×(List Int)×(List Int)×(List Int)) (σ:Nat→Value) (w:World)=>∃bb a8:Value,agree σ [(0,(vp b0 0)),(2,(vi (p0_5.length:Int))),(10,(vp bk 0)),(72,a5),(73,(vi (a0.1.length:Int))),(74,(vi (bh:Int)))]∧Holds E w ([bc 56 b0 [v0_0,v0_1,v0_2,v0_3,v0_4,v0_5,v0_6,a1,ae,ah,v0_10,v0_11],rd v0_2 p0_2,rd v0_3 p0_3,rd v0_5 p0_5,rd v0_6 p0_6,own 108 a1 us454,eX aV us454 av.1 none,own 3 ae ab.1,own 3 ah ab.2.1,own 3 v0_10 p0_10,own 110 v0_11 p0_11,bc 108 bk [bb,a8,(.slice none 0 0)],own 3 bb ab.2.2.1,own 3 a8 ab.2.2.2,own 53 a5 a0.1,rd bj bf]++Γ)) hN ?_ ?_ ?_ ?_
  ·have hw:=hw.bV Int 3
   have hw:=hw.bV Int 3
   exact⟨(.slice none 0 0),(.slice none 0 0),(ag zr),hw.pk 16 [4,7,8,9,10,5,6,11,12,13,14,2,1,0,15,3] zr⟩
  ·intro hm ab σ w hI
   obtain⟨dy,dz,ha,hw⟩:=hI
   obtain⟨τ,rfl⟩:=ha.aO
   refine RC.sr (ic ((bf.length:Int)) ((bf.length:Int)) zr zr zr zr (RL.nq (RC.cH lZ (RC.ex ?_))))
   exact⟨rfl,dy,dz,(ag zr),hw.pk 16 [0,1,2,3,4,5,6,7,8,9,10,11,12,13,14,15] zr⟩
  ·intro hm br ab s' σ w hk hI hb
   obtain⟨b7,cm,ha,hw⟩:=hI
   obtain⟨τ,rfl⟩:=ha.aO
   refine RC.sr (ic ((br:Int)) ((bf.length:Int)) zr zr zr zr (RL.nq (RC.cG (lY hk) (RC.ss (RC.bs ?_)))))
   obtain⟨aw,d0,hb⟩:=bd hb
   refine RL.bO (i:=15) zt zr hw zr zr zr dM d0 fun e2 hw=>(RL.bA (i:=0) (y:=aw) zt zr hw zr zr bX (aM (vi aw) zr zr (RL.nt (RC.bs (mv (vi aw) zr zr (mv (vi (p0_5.length:Int)) zr zr (ic aw ((p0_5.length:Int)) zr zr zr zr (aM (vb (decide (aw< (p0_5.length:Int)))) zr zr ?_))))))))
   refine RL.nt ?_
   obtain⟨bt,hj,hb⟩:=bd hb
   refine RC.jn (fun(bt: (List Int)×(List Int)×(List Int)×(List Int)) (σ:Nat→Value) (w:World)=>∃b8 b9:Value,agree σ [(0,(vp b0 0)),(2,(vi (p0_5.length:Int))),(10,(vp bk 0)),(72,a5),(73,(vi (a0.1.length:Int))),(74,(vi (bh:Int))),(78,bj),(79,(vi (bf.length:Int))),(80,(vi (br:Int)))]∧Holds E w ([bc 56 b0 [v0_0,v0_1,v0_2,v0_3,v0_4,v0_5,v0_6,a1,ae,ah,v0_10,v0_11],rd v0_2 p0_2,rd v0_3 p0_3,rd v0_5 p0_5,rd v0_6 p0_6,own 108 a1 us454,eX aV us454 av.1 none,own 3 ae bt.1,own 3 ah bt.2.1,own 3 v0_10 p0_10,own 110 v0_11 p0_11,bc 108 bk [b8,b9,(.slice none 0 0)],own 3 b8 bt.2.2.1,own 3 b9 bt.2.2.2,own 53 a5 a0.1,rd bj bf]++Γ)) bt ?_ ?_
   ·refine eI hj zr (fun hc hj=>?_) fun hc hj=>?_
    ·refine RC.seq (RC.BH mixed rfl [0,0,0,0,0,0,0,0,0,0,0,2] [0,1,2,3,4,5,6,7,8,9,10,11] (by kernel_rfl) ?_)
     have hw:=hw.drew
     refine DP.e0 zr zr (mv (vp b0 0) zr zr (dO zr zr (RL.nilCheck zt zr zr (dO zr zr (RL.bF zt zr zr xm (dO zr zr (RL.bE (i:=1) (v:=ae) zt zr hw zr zr zr dL (dO zr zr ?_))))))))
     refine mv (vi aw) zr zr (dO zr zr (mv (vp b0 0) zr zr (dO zr zr (RL.nilCheck zt zr zr (dO zr zr (RL.bF zt zr zr qz (dO zr zr (RL.bE (i:=1) (v:=a1) zt zr hw zr zr zr yH ?_))))))))
     refine dO zr zr (RL.mM (i:=6) (b:=7) (xs:=av.1) zt zr hw zr zr zr Dn (dO zr zr ?_))
     obtain⟨e3,cn,hj⟩:=bd hj
     refine RL.bB (i:=8) zt zr hw zr zr zr dM cn (AV zr zr ?_)
     have hw:=hw.sc (γ:=Int) (av.1.length:Int)
     refine RL.eO (i:=9) (j:=0) (f:=(fun _ y=>y)) trivial hw rfl rfl (gS hw (i:=9) rfl cn 0) rfl (aQ cn).2.1 rfl Fs.self (by decide) bX fun w hw=>(DP.d2 trivial (DP.z (aG (RC.region (RL.bF trivial rfl rfl uR (RL.bE (i:=13) (v:=b7) trivial rfl hw rfl rfl rfl dL (mv (vi aw) rfl rfl ?_)))))))
     have hw:=hw.sc (γ:=Int) aw
     refine RL.dY (l:=([aw]: (List Int))) zt zr hw [(vi aw)] zr zr zr dM AW (fun M hs g=>⟨(g.sat 0 _ zr).1,zt⟩) fun e4 w hw=>?_
     have hw:=hw.freeze (i:=0) rfl
     obtain⟨e5,d3,hj⟩:=bd hj
     refine RL.app (i:=16) (j:=0) zt zr hw zr zr zr zr qx d3 fun c2 w hw=>(RL.bF zt zr zr uR (RL.fU (i:=15) (v:=c2) zt hw zr zr zr zr (gm hw (i:=16) zr) dL fun w hw=>(RL.nil ?_)))
     obtain rfl:=oi hj
     exact⟨rfl,c2,cm,(ag zr),hw.pk 20 [4,5,6,7,8,9,10,11,12,13,14,15,16,17,18,19] zr⟩
    refine RC.sr (mv (vp b0 0) zr zr (RL.nilCheck zt zr zr (RL.bF zt zr zr mS (RL.bF zt zr zr ll (RL.bE (i:=1) (v:=v0_2) zt zr hw zr zr zr tC (mv (vi aw) zr zr (mv (vi (p0_5.length:Int)) zr zr (RL.gQ (a:=aw) (b:=(p0_5.length:Int)) zt zr zr zr zr ?_))))))))
    obtain⟨c3,d4,hj⟩:=bd hj
    refine RL.bO (i:=2) zt zr hw zr zr zr vY d4 fun e6 hw=>(RL.gR (i:=0) (f:=fun(x:bD)=>x.cI) zt zr hw zr zr sm lE fun e7 hw=>(RL.bA (i:=0) (y:=c3.cI) zt zr hw zr zr Cz (aM (vb c3.cI) zr zr (RL.nt ?_))))
    obtain⟨ca,hjj,hj⟩:=bd hj
    refine RC.jn (fun(ca: (List Int)×(List Int)) (σ:Nat→Value) (w:World)=>∃cb:Value,agree σ [(0,(vp b0 0)),(2,(vi (p0_5.length:Int))),(10,(vp bk 0)),(72,a5),(73,(vi (a0.1.length:Int))),(74,(vi (bh:Int))),(78,bj),(79,(vi (bf.length:Int))),(80,(vi (br:Int)))]∧Holds E w ([bc 56 b0 [v0_0,v0_1,v0_2,v0_3,v0_4,v0_5,v0_6,a1,ae,ah,v0_10,v0_11],rd v0_2 p0_2,rd v0_3 p0_3,rd v0_5 p0_5,rd v0_6 p0_6,own 108 a1 us454,eX aV us454 av.1 none,own 3 ae ab.1,own 3 ah ca.1,own 3 v0_10 p0_10,own 110 v0_11 p0_11,bc 108 bk [b7,cb,(.slice none 0 0)],own 3 cb ca.2,own 3 b7 ab.2.2.1,own 53 a5 a0.1,rd bj bf]++Γ)) ca ?_ ?_
    ·refine eI hjj zr (fun hc hjj=>?_) fun hc hjj=>?_
     rotate_left
     ·refine RC.region (mv (vp b0 0) zr zr (RL.nilCheck zt zr zr (RL.bF zt zr zr uQ (RL.bE (i:=3) (v:=ah) zt zr hw zr zr zr dL (mv (vi aw) zr zr (mv (vi (p0_5.length:Int)) zr zr (RL.gQ (a:=aw) (b:=(p0_5.length:Int)) zt zr zr zr zr ?_)))))))
      obtain⟨e8,cp,hjj⟩:=bd hjj
      refine RL.bB (i:=11) zt zr hw zr zr zr dM cp ?_
      have hw:=hw.sc (γ:=Int) (-1)
      refine RL.eO (i:=12) (j:=0) (f:=(fun _ y=>y)) trivial hw rfl rfl (gS hw (i:=12) rfl cp 0) rfl (aQ cp).2.1 rfl Fs.self (by decide) bX fun w hw=>(RL.nil ?_)
      obtain rfl:=oi hjj
      exact⟨rfl,cm,(ag zr),hw.pk 20 [4,5,6,7,8,9,10,11,12,13,14,15,17,16,18,19] zr⟩
     refine RC.seq (RC.BH mixed rfl [0,0,0,0,0,0,0,0,0,0,0,0,0,2] [0,1,2,3,4,5,6,7,8,9,10,11,12,13] (by kernel_rfl) ?_)
     have hw:=hw.drew
     refine DP.e0 zr zr (mv (vp b0 0) zr zr (dO zr zr (RL.nilCheck zt zr zr (dO zr zr (RL.bF zt zr zr uQ (dO zr zr (RL.bE (i:=3) (v:=ah) zt zr hw zr zr zr dL (dO zr zr ?_))))))))
     refine mv (vi aw) zr zr (dO zr zr (mv (vi (p0_5.length:Int)) zr zr (dO zr zr (RL.gQ (a:=aw) (b:=(p0_5.length:Int)) zt zr zr zr zr (dO zr zr (mv (vp b0 0) zr zr (dO zr zr (RL.nilCheck zt zr zr ?_))))))))
     refine dO zr zr (RL.bF zt zr zr qz (dO zr zr (RL.bE (i:=3) (v:=a1) zt zr hw zr zr zr yH (dO zr zr (RL.mM (i:=8) (b:=9) (xs:=av.1) zt zr hw zr zr zr Dn (dO zr zr ?_))))))
     obtain⟨e9,cq,hjj⟩:=bd hjj
     refine RL.bB (i:=11) zt zr hw zr zr zr dM cq (AV zr zr ?_)
     have hw:=hw.sc (γ:=Int) (av.1.length:Int)
     refine RL.eO (i:=12) (j:=0) (f:=(fun _ y=>y)) trivial hw rfl rfl (gS hw (i:=12) rfl cq 0) rfl (aQ cq).2.1 rfl Fs.self (by decide) bX fun w hw=>(DP.d2 trivial (DP.z (aG (RC.region (RL.bF trivial rfl rfl uS (RL.bE (i:=15) (v:=cm) trivial rfl hw rfl rfl rfl dL (mv (vi aw) rfl rfl (mv (vi (p0_5.length:Int)) rfl rfl ?_))))))))
     refine RL.gQ (a:=aw) (b:=(p0_5.length:Int)) zt zr zr zr zr ?_
     have hw:=hw.sc (γ:=Int) (IntKind.wrap .i64 (aw - (p0_5.length:Int)))
     refine RL.dY (l:=([(IntKind.wrap .i64 (aw - (p0_5.length:Int)))]: (List Int))) zt zr hw [(vi (IntKind.wrap .i64 (aw - (p0_5.length:Int))))] zr zr zr dM AW (fun M hs g=>⟨(g.sat 0 _ zr).1,zt⟩) fun fa w hw=>?_
     have hw:=hw.freeze (i:=0) rfl
     obtain⟨fb,d5,hjj⟩:=bd hjj
     refine RL.app (i:=19) (j:=0) zt zr hw zr zr zr zr qx d5 fun c4 w hw=>(RL.bF zt zr zr uS (RL.fU (i:=17) (v:=c4) zt hw zr zr zr zr (gm hw (i:=19) zr) dL fun w hw=>(RL.nil ?_)))
     obtain rfl:=oi hjj
     exact⟨rfl,c4,(ag zr),hw.pk 22 [6,7,8,9,10,11,12,13,14,15,16,17,19,18,20,21] zr⟩
    rintro σ w ⟨cb,ha,hw⟩
    obtain⟨τ,rfl⟩:=ha.aO
    obtain rfl:=oi hj
    exact⟨rfl,b7,cb,(ag zr),hw.pk 16 [0,1,2,3,4,5,6,7,8,9,10,11,13,12,14,15] zr⟩
   rintro σ w ⟨b8,b9,ha,hw⟩
   obtain⟨τ,rfl⟩:=ha.aO
   refine bJ (bJ (aG (RC.region (RL.inc zt zr hk hm zr zr (mv (vi ((br+1:Nat):Int)) zr zr (RL.nil ?_))))))
   obtain rfl:=oi hb
   exact⟨rfl,b8,b9,(ag zr),hw.pk 16 [0,1,2,3,4,5,6,7,8,9,10,11,12,13,14,15] zr⟩
  intro σ w hJ
  obtain⟨bb,a8,ha,hw⟩:=hJ
  obtain⟨τ,rfl⟩:=ha.aO
  refine aG (RC.sr (RL.bF zt zr zr uR (RL.bE (i:=11) (v:=bb) zt zr hw zr zr zr dL (RL.dC (i:=12) (l:=ab.2.2.1) zt zr hw zr zr jH (RL.bF zt zr zr uS (RL.bE (i:=11) (v:=a8) zt zr hw zr zr zr dL (RL.dC (i:=13) (l:=ab.2.2.2) zt zr hw zr zr jH (RL.gQ (a:=(ab.2.2.1.length:Int)) (b:=(ab.2.2.2.length:Int)) zt zr zr zr zr ?_))))))))
  refine ic ((IntKind.wrap .i64 ((ab.2.2.1.length:Int)+ (ab.2.2.2.length:Int)))) 0 zr zr zr zr (RL.nt ?_)
  obtain⟨cr,hj,hb⟩:=bd hb
  refine RC.jn (fun(cr: (List bT)) (σ:Nat→Value) (w:World)=>∃(cc:Value) (us608:List aX),agree σ [(0,(vp b0 0)),(2,(vi (p0_5.length:Int))),(72,a5),(73,(vi (a0.1.length:Int))),(74,(vi (bh:Int)))]∧Holds E w ([bc 56 b0 [v0_0,v0_1,v0_2,v0_3,v0_4,v0_5,v0_6,cc,ae,ah,v0_10,v0_11],own 108 cc us608,eX aV us608 cr none,rd v0_2 p0_2,rd v0_3 p0_3,rd v0_5 p0_5,rd v0_6 p0_6,own 3 ae ab.1,own 3 ah ab.2.1,own 3 v0_10 p0_10,own 110 v0_11 p0_11,own 53 a5 a0.1]++Γ)) cr ?_ ?_
  ·refine eI hj zr (fun hc hj=>?_) fun hc hj=>?_
   rotate_left
   ·refine RC.skip ?_
    obtain rfl:=oi hj
    exact⟨rfl,a1,us454,(ag zr),hw.pk 16 [0,5,6,1,2,3,4,7,8,9,10,14] zr⟩
   obtain⟨d6,d7,hj⟩:=bd hj
   refine RC.tw (E:=E) (Γ:=Γ) mixed rfl [1,1,1,1,0,0,0,0,1,1,0] [6,7,10] (fun(x:Value×Value)=>(fun a6 a3=>[(0,155,(vp b0 0)),(1,156,(vp b0 0)),(2,157,(vp b0 0)),(3,158,(vp b0 7)),(4,159,a1),(5,160,(.agg ([bb,a8,(.slice none 0 0)]:List Value).toArray)),(6,161,a6),(7,162,a3),(8,163,(vp b0 0)),(9,164,(vp b0 7))]) x.1 x.2) [(0,(vp b0 0)),(2,(vi (p0_5.length:Int))),(10,(vp bk 0)),(72,a5),(73,(vi (a0.1.length:Int))),(74,(vi (bh:Int)))] [] (fun(D:Nat→Bool) (x:Value×Value)=>(fun a6 a3=>[bif D 1 then (rd a6 ([(⟨ab.2.2.1,ab.2.2.2,(rv (.slice none 0 0))⟩:aX)]:List aX)) else (bif D 0 then (own 108 a6 ([(⟨ab.2.2.1,ab.2.2.2,(rv (.slice none 0 0))⟩:aX)]:List aX)) else aK),bif D 1 then (aK) else (bif D 0 then (own 94 (.slice none 0 0) ([]: (List fC))) else aK),bif D 2 then (bc 56 b0 [v0_0,v0_1,v0_2,v0_3,v0_4,v0_5,v0_6,a3,ae,ah,v0_10,v0_11]) else (bc 56 b0 [v0_0,v0_1,v0_2,v0_3,v0_4,v0_5,v0_6,a1,ae,ah,v0_10,v0_11]),rd v0_2 p0_2,rd v0_3 p0_3,rd v0_5 p0_5,rd v0_6 p0_6,bif D 1 then (own 108 a3 (us454++[(⟨ab.2.2.1,ab.2.2.2,(rv (.slice none 0 0))⟩:aX)])) else (own 108 a1 us454),bif D 1 then (eX aV (us454++[(⟨ab.2.2.1,ab.2.2.2,(rv (.slice none 0 0))⟩:aX)]) d6 none) else (eX aV us454 av.1 none),own 3 ae ab.1,own 3 ah ab.2.1,own 3 v0_10 p0_10,own 110 v0_11 p0_11,bc 108 bk [bb,a8,(.slice none 0 0)],bif D 0 then (rd bb ab.2.2.1) else (own 3 bb ab.2.2.1),bif D 0 then (rd a8 ab.2.2.2) else (own 3 a8 ab.2.2.2),own 53 a5 a0.1,rd bj bf]) x.1 x.2) (fun x=>by kernel_rfl) ?_ ⟨fun _=>eA gn rfl,fun _=>eA gn rfl,fun _=>qp gn rfl,fun _=>fN gn qz rfl,?_,?_,?_,?_,fun _=>qp gn rfl,fun _=>fN gn qz rfl,?_,trivial⟩ ?_
   ·have hw:=hw.drew
    have hw:=hw.aK
    have hw:=hw.aK
    exact⟨(undef,undef),doneV.none,(ag zr),zt,hw⟩
   ·rintro D σ w hD hdep hcl ⟨⟨a6,a3⟩,hv,ha,_,hw⟩
    obtain⟨τ,rfl⟩:=(ac (hv.at 3 rfl (hdep.1 rfl)) az).aO
    have hw:=hw.aP (i:=2) rfl (nf (fun h=>ft hD ((hcl 10 _ rfl h).2.2.2.2.2.2.2.1 rfl)))
    refine RL.bE (i:=2) (v:=a1) zt zr hw zr zr zr yH ?_
    have hw:=hw.cK (i:=2) (b:=D 10) rfl (nf (fun h=>ft hD ((hcl 10 _ rfl h).2.2.2.2.2.2.2.1 rfl))) (bc 56 b0 [v0_0,v0_1,v0_2,v0_3,v0_4,v0_5,v0_6,a3,ae,ah,v0_10,v0_11])
    exact RL.nil ⟨rfl,(a6,a3),hv.put 4 zr zr,ha.up zr,zt,hw⟩
   ·rintro D σ w hD hdep hcl ⟨⟨a6,a3⟩,hv,ha,_,hw⟩
    obtain⟨τ,rfl⟩:=(ac (ha.at 2 rfl) az).aO
    refine RL.zz (i:=13) (cs:=[bb,a8,(.slice none 0 0)]) zt zr hw zr zr Dp zr ?_
    exact RL.nil ⟨rfl,(a6,a3),hv.put 5 zr zr,ha.up zr,zt,hw⟩
   ·rintro D σ w hD hdep hcl ⟨⟨a6,a3⟩,hv,ha,_,hw⟩
    obtain⟨τ,rfl⟩:=(ac (hv.at 5 rfl (hdep.1 rfl)) az).aO
    have hw:=hw.aP (i:=0) rfl (nf (fun h=>ft hD ((hcl 7 _ rfl h).2.1 rfl)))
    have hw:=hw.aP (i:=0) rfl hD
    have hw:=hw.aP (i:=1) rfl (nf (fun h=>ft hD ((hcl 7 _ rfl h).2.1 rfl)))
    have hw:=hw.aP (i:=1) rfl hD
    have hw:=hw.aP (i:=14) rfl hD
    have hw:=hw.aP (i:=15) rfl hD
    have hw:=hw.bV fC 94
    have hw:=hw.xL (i:=0) rfl
    have hw:=hw.freeze (i:=16) rfl
    have hw:=hw.freeze (i:=17) rfl
    have hw:=hw.B2 (cs:=[bb,a8,(.slice none 0 0)]) (x:=(⟨ab.2.2.1,ab.2.2.2,(rv (.slice none 0 0))⟩:aX)) (fun M hs g=>⟨[bb],[a8,(.slice none 0 0)],rfl,(uq rfl (g.sat 16 _ rfl).1),⟨[a8],[(.slice none 0 0)],rfl,(uq rfl (g.sat 17 _ rfl).1),(uq rfl (g.sat 0 _ rfl).1)⟩⟩) rfl
    refine RL.dY (l:=([(⟨ab.2.2.1,ab.2.2.2,(rv (.slice none 0 0))⟩:aX)]:List aX)) zt zr hw [(.agg ([bb,a8,(.slice none 0 0)]:List Value).toArray)] zr zr zr Ck Dq (fun M hs g=>⟨(g.sat 0 _ zr).1,zt⟩) fun c5 w hw=>?_
    have hw:=hw.pl 22 [0,3,6,7,8,9,10,11,12,13,14,15,16,17,18,19,20,21] rfl
    have hw:=hw.aS (i:=0) (b:=true) rfl rfl (aK)
    have hw:=hw.cK (i:=0) (b:=D 7) rfl (nf (fun h=>ft hD ((hcl 7 _ rfl h).2.1 rfl))) (rd c5 ([(⟨ab.2.2.1,ab.2.2.2,(rv (.slice none 0 0))⟩:aX)]:List aX))
    have hw:=hw.aS (i:=1) (b:=true) rfl rfl (aK)
    have hw:=hw.cK (i:=1) (b:=D 7) rfl (nf (fun h=>ft hD ((hcl 7 _ rfl h).2.1 rfl))) (aK)
    have hw:=hw.aS (i:=14) (b:=true) rfl rfl (own 3 bb ab.2.2.1)
    have hw:=hw.aS (i:=15) (b:=true) rfl rfl (own 3 a8 ab.2.2.2)
    exact RL.nil ⟨rfl,(c5,a3),hv.put 6 zr zr,ha.up zr,zt,hw⟩
   ·rintro D σ w hD hdep hcl ⟨⟨a6,a3⟩,hv,ha,_,hw⟩
    obtain⟨τ,rfl⟩:=(ac (hv.at 4 rfl (hdep.1 rfl)) (ac (hv.at 6 rfl (hdep.2.1 rfl)) az)).aO
    have hw:=hw.aP (i:=0) rfl hD
    have hw:=hw.aR (i:=0) rfl (hdep.2.1 rfl)
    have hw:=hw.aP (i:=1) rfl hD
    have hw:=hw.aR (i:=1) rfl (hdep.2.1 rfl)
    have hw:=hw.aP (i:=2) rfl (nf (fun h=>ft hD ((hcl 10 _ rfl h).2.1 rfl)))
    have hw:=hw.aP (i:=7) rfl hD
    have hw:=hw.aP (i:=8) rfl hD
    have hw:=hw.freeze (i:=0) rfl
    refine RL.yq (i:=7) (j:=0) (b:=8) (o:=1) (X:=aV) (ur:=(⟨ab.2.2.1,ab.2.2.2,(rv (.slice none 0 0))⟩:aX)) (xr:=(⟨ab.2.2.1,ab.2.2.2,([]: (List fC))⟩:bT)) (u:=(.slice none 0 0)) (y:=([]: (List fC))) (fun _ _ ho=>⟨⟨rfl,rfl⟩,ho⟩) trivial rfl hw rfl rfl rfl rfl rfl rfl (by decide) (by decide) (by decide) EP d7 fun c6 w hw=>?_
    have hw:=hw.aS (i:=0) (b:=true) rfl rfl (bif D 6 then (own 108 a6 ([(⟨ab.2.2.1,ab.2.2.2,(rv (.slice none 0 0))⟩:aX)]:List aX)) else aK)
    have hw:=hw.aS (i:=1) (b:=true) rfl rfl (bif D 6 then (own 94 (.slice none 0 0) ([]: (List fC))) else aK)
    have hw:=hw.cK (i:=2) (b:=D 10) rfl (nf (fun h=>ft hD ((hcl 10 _ rfl h).2.1 rfl))) (bc 56 b0 [v0_0,v0_1,v0_2,v0_3,v0_4,v0_5,v0_6,c6,ae,ah,v0_10,v0_11])
    have hw:=hw.aS (i:=7) (b:=true) rfl rfl (own 108 a1 us454)
    have hw:=hw.aS (i:=8) (b:=true) rfl rfl (eX aV us454 av.1 none)
    exact RL.nil ⟨rfl,(a6,c6),hv.put 7 zr zr,ha.up zr,zt,hw⟩
   ·rintro D σ w hD hdep hcl ⟨⟨a6,a3⟩,hv,ha,_,hw⟩
    obtain⟨τ,rfl⟩:=(ac (hv.at 7 rfl (hdep.2.1 rfl)) (ac (hv.at 9 rfl (hdep.1 rfl)) az)).aO
    have hw:=hw.aP (i:=2) rfl hD
    have hw:=hw.aR (i:=7) rfl (hdep.2.1 rfl)
    have hw:=hw.aR (i:=8) rfl (hdep.2.1 rfl)
    refine RL.fU (i:=2) (v:=a3) zt hw zr zr zr zr (gm hw (i:=7) zr) yH fun w hw=>?_
    have hw:=hw.aS (i:=2) (b:=true) rfl rfl (bc 56 b0 [v0_0,v0_1,v0_2,v0_3,v0_4,v0_5,v0_6,a1,ae,ah,v0_10,v0_11])
    have hw:=hw.aS (i:=7) (b:=D 7) rfl (hdep.2.1 rfl) (own 108 a1 us454)
    have hw:=hw.aS (i:=8) (b:=D 7) rfl (hdep.2.1 rfl) (eX aV us454 av.1 none)
    exact RL.nil ⟨rfl,(a6,a3),hv.no zr,ha,zt,hw⟩
   rintro D σ w hall ⟨⟨a6,a3⟩,hv,ha,_,hw⟩
   have hw:=hw.aR (i:=0) rfl (hall 7 (by decide))
   have hw:=hw.aR (i:=1) rfl (hall 7 (by decide))
   have hw:=hw.aR (i:=2) rfl (hall 10 (by decide))
   have hw:=hw.aR (i:=7) rfl (hall 7 (by decide))
   have hw:=hw.aR (i:=8) rfl (hall 7 (by decide))
   have hw:=hw.aR (i:=14) rfl (hall 6 (by decide))
   have hw:=hw.aR (i:=15) rfl (hall 6 (by decide))
   obtain⟨τ,rfl⟩:=(ac (ha.at 0 rfl) (ac (ha.at 1 rfl) (ac (ha.at 2 rfl) (ac (ha.at 3 rfl) (ac (ha.at 4 rfl) (ac (ha.at 5 rfl) az)))))).aO
   obtain rfl:=oi hj
   exact⟨rfl,a3,(us454++[(⟨ab.2.2.1,ab.2.2.2,(rv (.slice none 0 0))⟩:aX)]),(ag zr),hw.pk 18 [2,7,8,3,4,5,6,9,10,11,12,16] zr⟩
  rintro σ w ⟨cc,us608,ha,hw⟩
  obtain⟨τ,rfl⟩:=ha.aO
  refine bJ (aG (RC.region (RL.inc zt zr hk hm zr zr (mv (vi ((bh+1:Nat):Int)) zr zr (RL.nil ?_)))))
  obtain rfl:=oi hb
  exact⟨rfl,cc,us608,(ag zr),hw.pk 12 [0,1,2,3,4,5,6,7,8,9,10,11] zr⟩
 intro σ w hJ
 obtain⟨af,us452,ha,hw⟩:=hJ
 obtain⟨τ,rfl⟩:=ha.aO
 refine aG (RC.sr (mv (vp b0 0) zr zr (RL.nilCheck zt zr zr (RL.bF zt zr zr mS (RL.bF zt zr zr uM (RL.bE (i:=0) (v:=v0_3) zt zr hw zr zr zr Bh (RL.bG (i:=4) (l:=p0_3) zt zr hw zr zr Ca (mv (vi 0) zr zr ?_))))))))
 refine RL.nt ?_
 obtain⟨ad,hN,hb⟩:=bd hb
 refine RC.fold (fun(bo:Nat) (ad: (List bT)×(List Int)×(List Int)×(List Int)×(List gk)) (σ:Nat→Value) (w:World)=>∃(c7:Value) (c8:Value) (c9:Value) (da:Value) (us831:List aX),agree σ [(0,(vp b0 0)),(170,v0_3),(171,(vi (p0_3.length:Int))),(172,(vi (bo:Int)))]∧Holds E w ([bc 56 b0 [v0_0,v0_1,v0_2,v0_3,v0_4,v0_5,v0_6,af,c7,c8,c9,da],rd c7 ad.2.1,rd c8 ad.2.2.1,own 3 c9 ad.2.2.2.1,own 110 da ad.2.2.2.2,rd v0_2 p0_2,rd v0_3 p0_3,rd v0_5 p0_5,rd v0_6 p0_6,own 108 af us831,eX aV us831 ad.1 none]++Γ)) (fun(ad: (List bT)×(List Int)×(List Int)×(List Int)×(List gk)) (σ:Nat→Value) (w:World)=>∃(cd:Value) (cf:Value) (cg:Value) (ch:Value) (us836:List aX),agree σ [(0,(vp b0 0))]∧Holds E w ([bc 56 b0 [v0_0,v0_1,v0_2,v0_3,v0_4,v0_5,v0_6,af,cd,cf,cg,ch],rd cd ad.2.1,rd cf ad.2.2.1,own 3 cg ad.2.2.2.1,own 110 ch ad.2.2.2.2,rd v0_2 p0_2,rd v0_3 p0_3,rd v0_5 p0_5,rd v0_6 p0_6,own 108 af us836,eX aV us836 ad.1 none]++Γ)) hN ?_ ?_ ?_ ?_
 ·have hw:=hw.freeze (i:=7) rfl
  have hw:=hw.freeze (i:=8) rfl
  exact⟨ae,ah,v0_10,v0_11,us452,(ag zr),hw.pk 12 [0,7,8,9,10,3,4,5,6,1,2] zr⟩
 ·intro hm ad σ w hI
  obtain⟨d8,d9,ea,eb,us944,ha,hw⟩:=hI
  obtain⟨τ,rfl⟩:=ha.aO
  refine RC.sr (ic ((p0_3.length:Int)) ((p0_3.length:Int)) zr zr zr zr (RL.nq (RC.cH lZ (RC.ex ?_))))
  exact⟨rfl,d8,d9,ea,eb,us944,⟨rfl,zt⟩,hw.pk 11 [0,1,2,3,4,5,6,7,8,9,10] zr⟩
 ·intro hm bo ad s' σ w hk hI hb
  obtain⟨ax,ay,bg,a2,us841,ha,hw⟩:=hI
  obtain⟨τ,rfl⟩:=ha.aO
  refine RC.sr (ic ((bo:Int)) ((p0_3.length:Int)) zr zr zr zr (RL.nq (RC.cG (lY hk) (RC.ss (RC.bs ?_)))))
  obtain⟨bu,ec,hb⟩:=bd hb
  refine RL.bO (i:=6) zt zr hw zr zr zr Cb ec fun ed hw=>(RL.bP (i:=0) (x:=bu) zt zr hw zr zr vZ fun ee hw=>(RL.alloc zt zr hw C2.z fun db w hw=>(RL.bC (i:=0) (j:=1) zt hw zr zr zr zr vZ zr fun w hw=>(RL.ns (mv (vp b0 0) zr zr (RL.aY (i:=0) (f:=(fun x=>x)) zt zr hw zr zr Fd.self vZ fun dc hw=>?_))))))
  have hw:=hw.dup (i:=11) rfl
  have hw:=hw.dup (i:=10) rfl
  have hw:=hw.pull (i:=6) rfl
  obtain⟨a7,ef,hb⟩:=bd hb
  refine RL.call zt zr ER [(vp b0 0),dc] zr (aF (mI N (i1:=0) hw zr ef) ?_)
  rintro _ w ⟨ct,rfl,hw⟩
  refine mv (.tuple #[ct,(vb a7.2)]) zr zr (RL.extract (v:=ct) zt zr zr zr (RL.extract (v:=(vb a7.2)) zt zr zr zr (RL.alloc zt zr hw z7.z fun bw w hw=>(RL.bC (i:=0) (j:=1) zt hw zr zr zr zr pq zr fun w hw=>(aM (vb a7.2) zr zr (RL.ns (aM (vi (-1)) zr zr (RL.nq ?_))))))))
  refine RC.sr (mv (vb a7.2) zr zr (RL.nt ?_))
  obtain⟨a9,hj,hb⟩:=bd hb
  refine RC.jn (fun(a9: (List bT)×Int) (σ:Nat→Value) (w:World)=>∃(us889:List aX),agree σ [(0,(vp b0 0)),(15,(vp bw 0)),(17,(vi a9.2)),(170,v0_3),(171,(vi (p0_3.length:Int))),(172,(vi (bo:Int)))]∧Holds E w ([bc 56 b0 [v0_0,v0_1,v0_2,v0_3,v0_4,v0_5,v0_6,af,ax,ay,bg,a2],rd v0_2 p0_2,rd v0_3 p0_3,rd v0_5 p0_5,rd v0_6 p0_6,own 108 af us889,eX aV us889 a9.1 none,rd ax ad.2.1,rd ay ad.2.2.1,own 3 bg ad.2.2.2.1,own 110 a2 ad.2.2.2.2,bx 110 bw a7.1]++Γ)) a9 ?_ ?_
  ·refine eI hj zr (fun hc hj=>?_) fun hc hj=>?_
   rotate_left
   ·refine RC.skip ?_
    obtain rfl:=oi hj
    exact⟨rfl,us841,(ag zr),hw.pk 18 [2,12,13,14,15,16,17,8,9,10,11,0] zr⟩
   refine RC.sr (mv (vp b0 0) zr zr (RL.aY (i:=0) (f:=(fun x=>x)) zt zr hw zr zr Fd.self pq fun dd hw=>?_))
   have hw:=hw.dup (i:=10) rfl
   have hw:=hw.dup (i:=10) rfl
   have hw:=hw.pull (i:=5) rfl
   obtain⟨aa,eg,hj⟩:=bd hj
   refine RL.call zt zr ES [(vp b0 0),dd] zr (aF (kD N (i1:=0) hw zr eg) ?_)
   rintro _ w ⟨rfl,hw⟩
   refine aM (vi aa) zr zr (RL.nt ?_)
   obtain⟨fc,b4,hj⟩:=bd hj
   obtain⟨bz,eh,hj⟩:=bd hj
   obtain⟨bl,ei,hj⟩:=bd hj
   obtain⟨bp,cj,hj⟩:=bd hj
   refine RC.tw (E:=E) (Γ:=Γ) mixed rfl [1,1,1,0,1,1,1,1,0,1,0,0,0,0,0,0,0,0,0,0] [13,14,15,16,19] (fun(x:Value×Value×Value×Value)=>(fun al an ak ai=>[(0,186,(vp b0 0)),(1,187,(vp b0 0)),(2,188,(vp b0 7)),(3,189,af),(4,190,(vi aa)),(5,191,(vp b0 0)),(6,192,(vp b0 0)),(7,193,(vp b0 7)),(8,194,af),(9,195,(vi aa)),(10,196,(elA af (Int.toNat aa) 3 0)),(11,197,(elA af (Int.toNat aa) 3 2)),(12,198,(us841.getD (Int.toNat aa) (default:aX)).eY.v),(13,199,al),(14,200,an),(15,201,ak),(16,202,ai),(17,203,(elA af (Int.toNat aa) 3 0)),(18,204,(elA af (Int.toNat aa) 3 2))]) x.1 x.2.1 x.2.2.1 x.2.2.2) [(0,(vp b0 0)),(14,(vp db 0)),(15,(vp bw 0)),(17,(vi aa)),(170,v0_3),(171,(vi (p0_3.length:Int))),(172,(vi (bo:Int)))] [] (fun(D:Nat→Bool) (x:Value×Value×Value×Value)=>(fun al an ak ai=>[bif D 0 then (rd al bu) else aK,bif D 1 then (rd an bz) else aK,bif D 3 then (rd ak ([bz]: (List fC))) else (bif D 2 then (own 94 ak ([bz]: (List fC))) else aK),bif D 4 then (aK) else (bif D 3 then (own 94 ai bl) else aK),bc 56 b0 [v0_0,v0_1,v0_2,v0_3,v0_4,v0_5,v0_6,af,ax,ay,bg,a2],rd dd a7.1,bx 110 bw a7.1,rd ct a7.1,aK,rd dc bu,bx 90 db bu,rd ee bu,pt ed bu,aK,rd ax ad.2.1,rd ay ad.2.2.1,own 3 bg ad.2.2.2.1,own 110 a2 ad.2.2.2.2,rd v0_2 p0_2,rd v0_3 p0_3,rd v0_5 p0_5,rd v0_6 p0_6,bif D 4 then (own 108 af (us841.set (Int.toNat aa) {(us841.getD (Int.toNat aa) (default:aX)) with eY:=rv ai})) else (own 108 af us841),bif D 4 then (eX aV (us841.set (Int.toNat aa) {(us841.getD (Int.toNat aa) (default:aX)) with eY:=rv ai}) (ad.1.set (Int.toNat aa) {bp with eY:=bl}) none) else (bif D 3 then (eX aV us841 ad.1 (some (Int.toNat aa))) else (eX aV us841 ad.1 none))]) x.1 x.2.1 x.2.2.1 x.2.2.2) (fun x=>by kernel_rfl) ?_ ⟨fun _=>eA gn rfl,fun _=>qp gn rfl,fun _=>fN gn qz rfl,?_,fun _=>eA gn rfl,fun _=>eA gn rfl,fun _=>qp gn rfl,fun _=>fN gn qz rfl,?_,fun _=>eA gn rfl,?_,?_,?_,?_,?_,?_,?_,?_,?_,?_,trivial⟩ ?_
   ·have hw:=hw.drew
    have hw:=hw.aK
    have hw:=hw.aK
    have hw:=hw.aK
    have hw:=hw.aK
    exact⟨(undef,undef,undef,undef),doneV.none,(ag zr),zt,hw⟩
   ·rintro D σ w hD hdep hcl ⟨⟨al,an,ak,ai⟩,hv,ha,_,hw⟩
    obtain⟨τ,rfl⟩:=(ac (hv.at 2 rfl (hdep.1 rfl)) az).aO
    refine RL.bE (i:=4) (v:=af) zt zr hw zr zr zr yH ?_
    exact RL.nil ⟨rfl,(al,an,ak,ai),hv.put 3 zr zr,ha.up zr,zt,hw⟩
   ·rintro D σ w hD hdep hcl ⟨⟨al,an,ak,ai⟩,hv,ha,_,hw⟩
    obtain⟨τ,rfl⟩:=(ac (hv.at 7 rfl (hdep.1 rfl)) az).aO
    refine RL.bE (i:=4) (v:=af) zt zr hw zr zr zr yH ?_
    exact RL.nil ⟨rfl,(al,an,ak,ai),hv.put 8 zr zr,ha.up zr,zt,hw⟩
   ·rintro D σ w hD hdep hcl ⟨⟨al,an,ak,ai⟩,hv,ha,_,hw⟩
    obtain⟨τ,rfl⟩:=(ac (hv.at 8 rfl (hdep.1 rfl)) (ac (hv.at 9 rfl (hdep.2.1 rfl)) az)).aO
    have hw:=hw.aP (i:=22) rfl (nf (fun h=>ft hD ((hcl 19 _ rfl h).2.2.2.2.2.2.2.2.2.2.2.2.2.1 rfl)))
    have hw:=hw.aP (i:=23) rfl (nf (fun h=>ft hD ((hcl 19 _ rfl h).2.2.2.2.2.2.2.2.2.2.2.2.2.1 rfl)))
    have hw:=hw.aP (i:=23) rfl (nf (fun h=>ft hD ((hcl 11 _ rfl ((hcl 12 _ rfl ((hcl 16 _ rfl h).1 rfl)).1 rfl)).1 rfl)))
    have hl912:=hw.eE (j:=23) rfl
    have hr913:=gp (default:aX) hl912 b4
    refine RL.bB (i:=22) zt zr hw zr zr zr Ck hr913 ?_
    have hw:=hw.cK (i:=22) (b:=D 19) rfl (nf (fun h=>ft hD ((hcl 19 _ rfl h).2.2.2.2.2.2.2.2.2.2.2.2.2.1 rfl))) (own 108 af (us841.set (Int.toNat aa) {(us841.getD (Int.toNat aa) (default:aX)) with eY:=rv ai}))
    have hw:=hw.cK (i:=23) (b:=D 16) rfl (nf (fun h=>ft hD ((hcl 11 _ rfl ((hcl 12 _ rfl ((hcl 16 _ rfl h).1 rfl)).1 rfl)).1 rfl))) (eX aV us841 ad.1 (some (Int.toNat aa)))
    have hw:=hw.cK (i:=23) (b:=D 19) rfl (nf (fun h=>ft hD ((hcl 19 _ rfl h).2.2.2.2.2.2.2.2.2.2.2.2.2.1 rfl))) (eX aV (us841.set (Int.toNat aa) {(us841.getD (Int.toNat aa) (default:aX)) with eY:=rv ai}) (ad.1.set (Int.toNat aa) {bp with eY:=bl}) none)
    exact RL.nil ⟨rfl,(al,an,ak,ai),hv.put 10 zr zr,ha.up zr,zt,hw⟩
   ·rintro D σ w hD hdep hcl ⟨⟨al,an,ak,ai⟩,hv,ha,_,hw⟩
    obtain⟨τ,rfl⟩:=(ac (hv.at 10 rfl (hdep.1 rfl)) az).aO
    have hw:=hw.aP (i:=22) rfl (nf (fun h=>ft hD ((hcl 19 _ rfl h).2.2.2.2.2.2.2.2.2.2.2.2.2.2.1 rfl)))
    have hw:=hw.aP (i:=23) rfl (nf (fun h=>ft hD ((hcl 19 _ rfl h).2.2.2.2.2.2.2.2.2.2.2.2.2.2.1 rfl)))
    have hw:=hw.aP (i:=23) rfl (nf (fun h=>ft hD ((hcl 12 _ rfl ((hcl 16 _ rfl h).1 rfl)).1 rfl)))
    have hl914:=hw.eE (j:=23) rfl
    have hr915:=gp (default:aX) hl914 b4
    refine RL.i7 (α:=aX) zt zr zr (gS hw (i:=22) zr hr915 0) xV ?_
    have hw:=hw.cK (i:=22) (b:=D 19) rfl (nf (fun h=>ft hD ((hcl 19 _ rfl h).2.2.2.2.2.2.2.2.2.2.2.2.2.2.1 rfl))) (own 108 af (us841.set (Int.toNat aa) {(us841.getD (Int.toNat aa) (default:aX)) with eY:=rv ai}))
    have hw:=hw.cK (i:=23) (b:=D 16) rfl (nf (fun h=>ft hD ((hcl 12 _ rfl ((hcl 16 _ rfl h).1 rfl)).1 rfl))) (eX aV us841 ad.1 (some (Int.toNat aa)))
    have hw:=hw.cK (i:=23) (b:=D 19) rfl (nf (fun h=>ft hD ((hcl 19 _ rfl h).2.2.2.2.2.2.2.2.2.2.2.2.2.2.1 rfl))) (eX aV (us841.set (Int.toNat aa) {(us841.getD (Int.toNat aa) (default:aX)) with eY:=rv ai}) (ad.1.set (Int.toNat aa) {bp with eY:=bl}) none)
    exact RL.nil ⟨rfl,(al,an,ak,ai),hv.put 11 zr zr,ha.up zr,zt,hw⟩
   ·rintro D σ w hD hdep hcl ⟨⟨al,an,ak,ai⟩,hv,ha,_,hw⟩
    obtain⟨τ,rfl⟩:=(ac (hv.at 11 rfl (hdep.1 rfl)) az).aO
    have hw:=hw.aP (i:=22) rfl (nf (fun h=>ft hD ((hcl 19 _ rfl h).2.2.2.2.2.2.2.2.2.2.2.2.2.2.2.1 rfl)))
    have hw:=hw.aP (i:=23) rfl (nf (fun h=>ft hD ((hcl 19 _ rfl h).2.2.2.2.2.2.2.2.2.2.2.2.2.2.2.1 rfl)))
    have hw:=hw.aP (i:=23) rfl (nf (fun h=>ft hD ((hcl 16 _ rfl h).1 rfl)))
    have hl916:=hw.eE (j:=23) rfl
    have hr917:=gp (default:aX) hl916 b4
    refine RL.qm (i:=22) (b:=23) (jj:=aa) mR (default:aX) zt zr hw zr (gS hw (i:=22) zr hr917 2) zr zr b4 BK ?_
    have hw:=hw.cK (i:=22) (b:=D 19) rfl (nf (fun h=>ft hD ((hcl 19 _ rfl h).2.2.2.2.2.2.2.2.2.2.2.2.2.2.2.1 rfl))) (own 108 af (us841.set (Int.toNat aa) {(us841.getD (Int.toNat aa) (default:aX)) with eY:=rv ai}))
    have hw:=hw.cK (i:=23) (b:=D 16) rfl (nf (fun h=>ft hD ((hcl 16 _ rfl h).1 rfl))) (eX aV us841 ad.1 (some (Int.toNat aa)))
    have hw:=hw.cK (i:=23) (b:=D 19) rfl (nf (fun h=>ft hD ((hcl 19 _ rfl h).2.2.2.2.2.2.2.2.2.2.2.2.2.2.2.1 rfl))) (eX aV (us841.set (Int.toNat aa) {(us841.getD (Int.toNat aa) (default:aX)) with eY:=rv ai}) (ad.1.set (Int.toNat aa) {bp with eY:=bl}) none)
    exact RL.nil ⟨rfl,(al,an,ak,ai),hv.put 12 zr zr,ha.up zr,zt,hw⟩
   ·rintro D σ w hD hdep hcl ⟨⟨al,an,ak,ai⟩,hv,ha,_,hw⟩
    obtain⟨τ,rfl⟩:=(ac (ha.at 1 rfl) az).aO
    have hw:=hw.aP (i:=0) rfl hD
    refine RL.aY (i:=10) (f:=(fun x=>x)) zt zr hw zr zr Fd.self vZ fun ej hw=>?_
    have hw:=hw.pl 25 [0,2,3,4,5,6,7,8,9,10,11,12,13,14,15,16,17,18,19,20,21,22,23,24] rfl
    have hw:=hw.aS (i:=0) (b:=true) rfl rfl (aK)
    exact RL.nil ⟨rfl,(ej,an,ak,ai),hv.put 13 zr zr,ha.up zr,zt,hw⟩
   ·rintro D σ w hD hdep hcl ⟨⟨al,an,ak,ai⟩,hv,ha,_,hw⟩
    obtain⟨τ,rfl⟩:=(ac (hv.at 13 rfl (hdep.1 rfl)) az).aO
    have hw:=hw.aR (i:=0) rfl (hdep.1 rfl)
    have hw:=hw.aP (i:=1) rfl hD
    refine RL.call zt zr Cc [al] zr (aF (jX N (i0:=0) hw zr eh) ?_)
    rintro ek w hw
    have hw:=hw.pl 25 [1,0,3,4,5,6,7,8,9,10,11,12,13,14,15,16,17,18,19,20,21,22,23,24] rfl
    have hw:=hw.aS (i:=0) (b:=D 13) rfl (hdep.1 rfl) (aK)
    have hw:=hw.aS (i:=1) (b:=true) rfl rfl (aK)
    exact RL.nil ⟨rfl,(al,ek,ak,ai),hv.put 14 zr zr,ha.up zr,zt,hw⟩
   ·rintro D σ w hD hdep hcl ⟨⟨al,an,ak,ai⟩,hv,ha,_,hw⟩
    obtain⟨τ,rfl⟩:=(ac (hv.at 14 rfl (hdep.1 rfl)) az).aO
    have hw:=hw.aR (i:=1) rfl (hdep.1 rfl)
    have hw:=hw.aP (i:=2) rfl (nf (fun h=>ft hD ((hcl 16 _ rfl h).2.1 rfl)))
    have hw:=hw.aP (i:=2) rfl hD
    refine RL.dY (l:=([bz]: (List fC))) zt zr hw [an] zr zr zr Dt C9 (fun M hs g=>⟨(g.sat 1 _ zr).1,zt⟩) fun de w hw=>?_
    have hw:=hw.pl 25 [1,2,0,4,5,6,7,8,9,10,11,12,13,14,15,16,17,18,19,20,21,22,23,24] rfl
    have hw:=hw.aS (i:=1) (b:=D 14) rfl (hdep.1 rfl) (aK)
    have hw:=hw.aS (i:=2) (b:=true) rfl rfl (aK)
    have hw:=hw.cK (i:=2) (b:=D 16) rfl (nf (fun h=>ft hD ((hcl 16 _ rfl h).2.1 rfl))) (rd de ([bz]: (List fC)))
    exact RL.nil ⟨rfl,(al,an,de,ai),hv.put 15 zr zr,ha.up zr,zt,hw⟩
   ·rintro D σ w hD hdep hcl ⟨⟨al,an,ak,ai⟩,hv,ha,_,hw⟩
    obtain⟨τ,rfl⟩:=(ac (hv.at 12 rfl (hdep.1 rfl)) (ac (hv.at 15 rfl (hdep.2.1 rfl)) az)).aO
    have hw:=hw.aP (i:=2) rfl hD
    have hw:=hw.aR (i:=2) rfl (hdep.2.1 rfl)
    have hw:=hw.aP (i:=3) rfl (nf (fun h=>ft hD ((hcl 19 _ rfl h).2.1 rfl)))
    have hw:=hw.aP (i:=3) rfl hD
    have hw:=hw.aP (i:=22) rfl (nf (fun h=>ft hD ((hcl 19 _ rfl h).2.1 rfl)))
    have hw:=hw.aP (i:=23) rfl (nf (fun h=>ft hD ((hcl 19 _ rfl h).2.1 rfl)))
    have hw:=hw.aP (i:=23) rfl hD
    have hw:=hw.uv (j:=23) (jj:=aa) mR (default:aX) rfl b4
    have hw:=hw.freeze (i:=3) rfl
    refine RL.app (i:=0) (j:=3) zt zr hw zr zr zr zr Du ei fun cu w hw=>?_
    have hw:=hw.pl 25 [1,2,3,0,5,6,7,8,9,10,11,12,13,14,15,16,17,18,19,20,21,22,23,24] rfl
    have hw:=hw.aS (i:=2) (b:=true) rfl rfl (bif D 15 then (own 94 ak ([bz]: (List fC))) else aK)
    have hw:=hw.aS (i:=3) (b:=true) rfl rfl (aK)
    have hw:=hw.cK (i:=3) (b:=D 19) rfl (nf (fun h=>ft hD ((hcl 19 _ rfl h).2.1 rfl))) (aK)
    have hw:=hw.cK (i:=22) (b:=D 19) rfl (nf (fun h=>ft hD ((hcl 19 _ rfl h).2.1 rfl))) (own 108 af (us841.set (Int.toNat aa) {(us841.getD (Int.toNat aa) (default:aX)) with eY:=rv cu}))
    have hw:=hw.aS (i:=23) (b:=true) rfl rfl (eX aV us841 ad.1 none)
    have hw:=hw.cK (i:=23) (b:=D 19) rfl (nf (fun h=>ft hD ((hcl 19 _ rfl h).2.1 rfl))) (eX aV (us841.set (Int.toNat aa) {(us841.getD (Int.toNat aa) (default:aX)) with eY:=rv cu}) (ad.1.set (Int.toNat aa) {bp with eY:=bl}) none)
    exact RL.nil ⟨rfl,(al,an,ak,cu),hv.put 16 zr zr,ha.up zr,zt,hw⟩
   ·rintro D σ w hD hdep hcl ⟨⟨al,an,ak,ai⟩,hv,ha,_,hw⟩
    obtain⟨τ,rfl⟩:=(ac (hv.at 3 rfl (hdep.1 rfl)) (ac (hv.at 4 rfl (hdep.2.1 rfl)) az)).aO
    have hw:=hw.aP (i:=22) rfl (nf (fun h=>ft hD ((hcl 18 _ rfl ((hcl 19 _ rfl h).1 rfl)).1 rfl)))
    have hw:=hw.aP (i:=23) rfl (nf (fun h=>ft hD ((hcl 18 _ rfl ((hcl 19 _ rfl h).1 rfl)).1 rfl)))
    have hw:=hw.aR (i:=23) rfl (hdep.2.2.2.2.2.2.2.2.2.2.2.2.2.2.2.2.2.2.1 rfl)
    have hl922:=hw.eE (j:=23) rfl
    have hr923:=gp (default:aX) hl922 cj
    refine RL.bB (i:=22) zt zr hw zr zr zr Ck hr923 ?_
    have hw:=hw.cK (i:=22) (b:=D 19) rfl (nf (fun h=>ft hD ((hcl 18 _ rfl ((hcl 19 _ rfl h).1 rfl)).1 rfl))) (own 108 af (us841.set (Int.toNat aa) {(us841.getD (Int.toNat aa) (default:aX)) with eY:=rv ai}))
    have hw:=hw.aS (i:=23) (b:=D 16) rfl (hdep.2.2.2.2.2.2.2.2.2.2.2.2.2.2.2.2.2.2.1 rfl) (eX aV us841 ad.1 none)
    have hw:=hw.cK (i:=23) (b:=D 19) rfl (nf (fun h=>ft hD ((hcl 18 _ rfl ((hcl 19 _ rfl h).1 rfl)).1 rfl))) (eX aV (us841.set (Int.toNat aa) {(us841.getD (Int.toNat aa) (default:aX)) with eY:=rv ai}) (ad.1.set (Int.toNat aa) {bp with eY:=bl}) none)
    exact RL.nil ⟨rfl,(al,an,ak,ai),hv.put 17 zr zr,ha.up zr,zt,hw⟩
   ·rintro D σ w hD hdep hcl ⟨⟨al,an,ak,ai⟩,hv,ha,_,hw⟩
    obtain⟨τ,rfl⟩:=(ac (hv.at 17 rfl (hdep.1 rfl)) az).aO
    have hw:=hw.aP (i:=22) rfl (nf (fun h=>ft hD ((hcl 19 _ rfl h).1 rfl)))
    have hw:=hw.aP (i:=23) rfl (nf (fun h=>ft hD ((hcl 19 _ rfl h).1 rfl)))
    have hw:=hw.aR (i:=23) rfl (hdep.2.2.2.2.2.2.2.2.2.2.2.2.2.2.2.2.2.1 rfl)
    have hl924:=hw.eE (j:=23) rfl
    have hr925:=gp (default:aX) hl924 cj
    refine RL.i7 (α:=aX) zt zr zr (gS hw (i:=22) zr hr925 0) xV ?_
    have hw:=hw.cK (i:=22) (b:=D 19) rfl (nf (fun h=>ft hD ((hcl 19 _ rfl h).1 rfl))) (own 108 af (us841.set (Int.toNat aa) {(us841.getD (Int.toNat aa) (default:aX)) with eY:=rv ai}))
    have hw:=hw.aS (i:=23) (b:=D 16) rfl (hdep.2.2.2.2.2.2.2.2.2.2.2.2.2.2.2.2.2.1 rfl) (eX aV us841 ad.1 none)
    have hw:=hw.cK (i:=23) (b:=D 19) rfl (nf (fun h=>ft hD ((hcl 19 _ rfl h).1 rfl))) (eX aV (us841.set (Int.toNat aa) {(us841.getD (Int.toNat aa) (default:aX)) with eY:=rv ai}) (ad.1.set (Int.toNat aa) {bp with eY:=bl}) none)
    exact RL.nil ⟨rfl,(al,an,ak,ai),hv.put 18 zr zr,ha.up zr,zt,hw⟩
   ·rintro D σ w hD hdep hcl ⟨⟨al,an,ak,ai⟩,hv,ha,_,hw⟩
    obtain⟨τ,rfl⟩:=(ac (hv.at 16 rfl (hdep.2.1 rfl)) (ac (hv.at 18 rfl (hdep.1 rfl)) az)).aO
    have hw:=hw.aP (i:=3) rfl hD
    have hw:=hw.aR (i:=3) rfl (hdep.2.1 rfl)
    have hw:=hw.aP (i:=22) rfl hD
    have hw:=hw.aP (i:=23) rfl hD
    have hw:=hw.aR (i:=23) rfl (hdep.2.1 rfl)
    have hl926:=hw.eE (j:=23) rfl
    have hr927:=gp (default:aX) hl926 cj
    refine RL.oA (i:=22) (b:=23) (o:=3) (jj:=aa) mR (default:aX) trivial hw rfl rfl (gS hw (i:=22) rfl hr927 2) rfl rfl (.inr rfl) rfl cj (by decide) (by decide) (by decide) BK fun w hw=>?_
    have hw:=hw.aS (i:=3) (b:=true) rfl rfl (bif D 16 then (own 94 ai bl) else aK)
    have hw:=hw.aS (i:=22) (b:=true) rfl rfl (own 108 af us841)
    have hw:=hw.aS (i:=23) (b:=true) rfl rfl (bif D 16 then (eX aV us841 ad.1 (some (Int.toNat aa))) else (eX aV us841 ad.1 none))
    exact RL.nil ⟨rfl,(al,an,ak,ai),hv.no zr,ha,zt,hw⟩
   rintro D σ w hall ⟨⟨al,an,ak,ai⟩,hv,ha,_,hw⟩
   have hw:=hw.aR (i:=0) rfl (hall 13 (by decide))
   have hw:=hw.aR (i:=1) rfl (hall 14 (by decide))
   have hw:=hw.aR (i:=2) rfl (hall 16 (by decide))
   have hw:=hw.aR (i:=3) rfl (hall 19 (by decide))
   have hw:=hw.aR (i:=22) rfl (hall 19 (by decide))
   have hw:=hw.aR (i:=23) rfl (hall 19 (by decide))
   obtain⟨τ,rfl⟩:=(ac (ha.at 0 rfl) (ac (ha.at 1 rfl) (ac (ha.at 2 rfl) (ac (ha.at 3 rfl) (ac (ha.at 4 rfl) (ac (ha.at 5 rfl) (ac (ha.at 6 rfl) az))))))).aO
   obtain rfl:=oi hj
   exact⟨rfl,(us841.set (Int.toNat aa) {(us841.getD (Int.toNat aa) (default:aX)) with eY:=rv ai}),(ag zr),hw.pk 24 [4,18,19,20,21,22,23,14,15,16,17,6] zr⟩
  rintro σ w ⟨us889,ha,hw⟩
  obtain⟨τ,rfl⟩:=ha.aO
  refine aG ?_
  obtain⟨el,en,hb⟩:=bd hb
  obtain⟨eo,ep,hb⟩:=bd hb
  refine RC.tw (E:=E) (Γ:=Γ) mixed rfl [1,1,1,1,1,0,1,0,0,1,1,1,0,0,0,0,1,1,0,1,1,0] [7,8,13,14,15,18,21] (fun(x:Value×Value×Value×Value×Value)=>(fun aq au ar aj ao=>[(0,205,(vp b0 0)),(1,206,(vp b0 0)),(2,207,(vp b0 0)),(3,208,(vp b0 0)),(4,209,(vp b0 10)),(5,210,bg),(6,211,(vi a9.2)),(7,212,aq),(8,213,aj),(9,214,(vp b0 0)),(10,215,(vp b0 0)),(11,216,(vp b0 11)),(12,217,a2),(13,218,au),(14,219,ar),(15,220,ao),(16,221,(vp b0 0)),(17,222,(vp b0 10)),(19,223,(vp b0 0)),(20,224,(vp b0 11))]) x.1 x.2.1 x.2.2.1 x.2.2.2.1 x.2.2.2.2) [(0,(vp b0 0)),(15,(vp bw 0)),(17,(vi a9.2)),(170,v0_3),(171,(vi (p0_3.length:Int))),(172,(vi (bo:Int)))] [] (fun(D:Nat→Bool) (x:Value×Value×Value×Value×Value)=>(fun aq au ar aj ao=>[bif D 1 then (rd aq ([a9.2]: (List Int))) else (bif D 0 then (own 3 aq ([a9.2]: (List Int))) else aK),bif D 2 then (rd au a7.1) else aK,bif D 4 then (rd ar ([a7.1]: (List gk))) else (bif D 3 then (own 110 ar ([a7.1]: (List gk))) else aK),bif D 6 then (bc 56 b0 [v0_0,v0_1,v0_2,v0_3,v0_4,v0_5,v0_6,af,ax,ay,aj,ao]) else (bif D 5 then (bc 56 b0 [v0_0,v0_1,v0_2,v0_3,v0_4,v0_5,v0_6,af,ax,ay,aj,a2]) else (bc 56 b0 [v0_0,v0_1,v0_2,v0_3,v0_4,v0_5,v0_6,af,ax,ay,bg,a2])),rd v0_2 p0_2,rd v0_3 p0_3,rd v0_5 p0_5,rd v0_6 p0_6,own 108 af us889,eX aV us889 a9.1 none,rd ax ad.2.1,rd ay ad.2.2.1,bif D 1 then (own 3 aj el) else (own 3 bg ad.2.2.2.1),bif D 4 then (own 110 ao eo) else (own 110 a2 ad.2.2.2.2),bx 110 bw a7.1]) x.1 x.2.1 x.2.2.1 x.2.2.2.1 x.2.2.2.2) (fun x=>by kernel_rfl) ?_ ⟨fun _=>eA gn rfl,fun _=>eA gn rfl,fun _=>eA gn rfl,fun _=>qp gn rfl,fun _=>fN gn z9 rfl,?_,fun _=>eA gn rfl,?_,?_,fun _=>eA gn rfl,fun _=>qp gn rfl,fun _=>fN gn Aa rfl,?_,?_,?_,?_,fun _=>qp gn rfl,fun _=>fN gn z9 rfl,?_,fun _=>qp gn rfl,fun _=>fN gn Aa rfl,?_,trivial⟩ ?_
  ·have hw:=hw.drew
   have hw:=hw.aK
   have hw:=hw.aK
   have hw:=hw.aK
   exact⟨(undef,undef,undef,undef,undef),doneV.none,(ag zr),zt,hw⟩
  ·rintro D σ w hD hdep hcl ⟨⟨aq,au,ar,aj,ao⟩,hv,ha,_,hw⟩
   obtain⟨τ,rfl⟩:=(ac (hv.at 4 rfl (hdep.1 rfl)) az).aO
   have hw:=hw.aP (i:=3) rfl (nf (fun h=>ft hD ((hcl 21 _ rfl h).2.2.2.2.2.2.2.2.1 rfl)))
   have hw:=hw.aP (i:=3) rfl (nf (fun h=>ft hD ((hcl 18 _ rfl h).2.2.2.2.2.2.2.2.1 rfl)))
   refine RL.bE (i:=3) (v:=bg) zt zr hw zr zr zr dL ?_
   have hw:=hw.cK (i:=3) (b:=D 18) rfl (nf (fun h=>ft hD ((hcl 18 _ rfl h).2.2.2.2.2.2.2.2.1 rfl))) (bc 56 b0 [v0_0,v0_1,v0_2,v0_3,v0_4,v0_5,v0_6,af,ax,ay,aj,a2])
   have hw:=hw.cK (i:=3) (b:=D 21) rfl (nf (fun h=>ft hD ((hcl 21 _ rfl h).2.2.2.2.2.2.2.2.1 rfl))) (bc 56 b0 [v0_0,v0_1,v0_2,v0_3,v0_4,v0_5,v0_6,af,ax,ay,aj,ao])
   exact RL.nil ⟨rfl,(aq,au,ar,aj,ao),hv.put 5 zr zr,ha.up zr,zt,hw⟩
  ·rintro D σ w hD hdep hcl ⟨⟨aq,au,ar,aj,ao⟩,hv,ha,_,hw⟩
   obtain⟨τ,rfl⟩:=(ac (hv.at 6 rfl (hdep.1 rfl)) az).aO
   have hw:=hw.aP (i:=0) rfl (nf (fun h=>ft hD ((hcl 8 _ rfl h).2.1 rfl)))
   have hw:=hw.aP (i:=0) rfl hD
   have hw:=hw.sc (γ:=Int) a9.2
   refine RL.dY (l:=([a9.2]: (List Int))) zt zr hw [(vi a9.2)] zr zr zr dM AW (fun M hs g=>⟨(g.sat 0 _ zr).1,zt⟩) fun df w hw=>?_
   have hw:=hw.pl 17 [0,3,4,5,6,7,8,9,10,11,12,13,14,15,16] rfl
   have hw:=hw.aS (i:=0) (b:=true) rfl rfl (aK)
   have hw:=hw.cK (i:=0) (b:=D 8) rfl (nf (fun h=>ft hD ((hcl 8 _ rfl h).2.1 rfl))) (rd df ([a9.2]: (List Int)))
   exact RL.nil ⟨rfl,(df,au,ar,aj,ao),hv.put 7 zr zr,ha.up zr,zt,hw⟩
  ·rintro D σ w hD hdep hcl ⟨⟨aq,au,ar,aj,ao⟩,hv,ha,_,hw⟩
   obtain⟨τ,rfl⟩:=(ac (hv.at 5 rfl (hdep.1 rfl)) (ac (hv.at 7 rfl (hdep.2.1 rfl)) az)).aO
   have hw:=hw.aP (i:=0) rfl hD
   have hw:=hw.aR (i:=0) rfl (hdep.2.1 rfl)
   have hw:=hw.aP (i:=3) rfl (nf (fun h=>ft hD ((hcl 21 _ rfl h).2.2.2.2.2.2.2.2.2.2.2.1 rfl)))
   have hw:=hw.aP (i:=3) rfl (nf (fun h=>ft hD ((hcl 18 _ rfl h).2.1 rfl)))
   have hw:=hw.aP (i:=12) rfl hD
   have hw:=hw.freeze (i:=0) rfl
   refine RL.app (i:=12) (j:=0) zt zr hw zr zr zr zr qx en fun cv w hw=>?_
   have hw:=hw.aS (i:=0) (b:=true) rfl rfl (bif D 7 then (own 3 aq ([a9.2]: (List Int))) else aK)
   have hw:=hw.cK (i:=3) (b:=D 18) rfl (nf (fun h=>ft hD ((hcl 18 _ rfl h).2.1 rfl))) (bc 56 b0 [v0_0,v0_1,v0_2,v0_3,v0_4,v0_5,v0_6,af,ax,ay,cv,a2])
   have hw:=hw.cK (i:=3) (b:=D 21) rfl (nf (fun h=>ft hD ((hcl 21 _ rfl h).2.2.2.2.2.2.2.2.2.2.2.1 rfl))) (bc 56 b0 [v0_0,v0_1,v0_2,v0_3,v0_4,v0_5,v0_6,af,ax,ay,cv,ao])
   have hw:=hw.aS (i:=12) (b:=true) rfl rfl (own 3 bg ad.2.2.2.1)
   exact RL.nil ⟨rfl,(aq,au,ar,cv,ao),hv.put 8 zr zr,ha.up zr,zt,hw⟩
  ·rintro D σ w hD hdep hcl ⟨⟨aq,au,ar,aj,ao⟩,hv,ha,_,hw⟩
   obtain⟨τ,rfl⟩:=(ac (hv.at 11 rfl (hdep.1 rfl)) az).aO
   have hw:=hw.aP (i:=3) rfl (nf (fun h=>ft hD ((hcl 21 _ rfl h).2.2.2.2.2.2.2.2.2.2.2.2.2.2.2.1 rfl)))
   have hw:=hw.aP (i:=3) rfl (nf (fun h=>ft hD ((hcl 18 _ rfl h).2.2.2.2.2.2.2.2.2.2.2.2.2.2.2.1 rfl)))
   refine RL.bE (i:=3) (v:=a2) zt zr hw zr zr zr Dv ?_
   have hw:=hw.cK (i:=3) (b:=D 18) rfl (nf (fun h=>ft hD ((hcl 18 _ rfl h).2.2.2.2.2.2.2.2.2.2.2.2.2.2.2.1 rfl))) (bc 56 b0 [v0_0,v0_1,v0_2,v0_3,v0_4,v0_5,v0_6,af,ax,ay,aj,a2])
   have hw:=hw.cK (i:=3) (b:=D 21) rfl (nf (fun h=>ft hD ((hcl 21 _ rfl h).2.2.2.2.2.2.2.2.2.2.2.2.2.2.2.1 rfl))) (bc 56 b0 [v0_0,v0_1,v0_2,v0_3,v0_4,v0_5,v0_6,af,ax,ay,aj,ao])
   exact RL.nil ⟨rfl,(aq,au,ar,aj,ao),hv.put 12 zr zr,ha.up zr,zt,hw⟩
  ·rintro D σ w hD hdep hcl ⟨⟨aq,au,ar,aj,ao⟩,hv,ha,_,hw⟩
   obtain⟨τ,rfl⟩:=(ac (ha.at 1 rfl) az).aO
   have hw:=hw.aP (i:=1) rfl hD
   refine RL.aY (i:=14) (f:=(fun x=>x)) zt zr hw zr zr Fd.self pq fun er hw=>?_
   have hw:=hw.pl 16 [1,0,3,4,5,6,7,8,9,10,11,12,13,14,15] rfl
   have hw:=hw.aS (i:=1) (b:=true) rfl rfl (aK)
   exact RL.nil ⟨rfl,(aq,er,ar,aj,ao),hv.put 13 zr zr,ha.up zr,zt,hw⟩
  ·rintro D σ w hD hdep hcl ⟨⟨aq,au,ar,aj,ao⟩,hv,ha,_,hw⟩
   obtain⟨τ,rfl⟩:=(ac (hv.at 13 rfl (hdep.1 rfl)) az).aO
   have hw:=hw.aR (i:=1) rfl (hdep.1 rfl)
   have hw:=hw.aP (i:=2) rfl (nf (fun h=>ft hD ((hcl 15 _ rfl h).2.1 rfl)))
   have hw:=hw.aP (i:=2) rfl hD
   refine RL.dY (l:=([a7.1]: (List gk))) zt zr hw [au] zr zr zr ET z7 (fun M hs g=>⟨(g.sat 1 _ zr).1,zt⟩) fun dg w hw=>?_
   have hw:=hw.pl 16 [1,2,0,4,5,6,7,8,9,10,11,12,13,14,15] rfl
   have hw:=hw.aS (i:=1) (b:=D 13) rfl (hdep.1 rfl) (aK)
   have hw:=hw.aS (i:=2) (b:=true) rfl rfl (aK)
   have hw:=hw.cK (i:=2) (b:=D 15) rfl (nf (fun h=>ft hD ((hcl 15 _ rfl h).2.1 rfl))) (rd dg ([a7.1]: (List gk)))
   exact RL.nil ⟨rfl,(aq,au,dg,aj,ao),hv.put 14 zr zr,ha.up zr,zt,hw⟩
  ·rintro D σ w hD hdep hcl ⟨⟨aq,au,ar,aj,ao⟩,hv,ha,_,hw⟩
   obtain⟨τ,rfl⟩:=(ac (hv.at 12 rfl (hdep.1 rfl)) (ac (hv.at 14 rfl (hdep.2.1 rfl)) az)).aO
   have hw:=hw.aP (i:=2) rfl hD
   have hw:=hw.aR (i:=2) rfl (hdep.2.1 rfl)
   have hw:=hw.aP (i:=3) rfl (nf (fun h=>ft hD ((hcl 21 _ rfl h).2.1 rfl)))
   have hw:=hw.aP (i:=3) rfl (nf (fun h=>ft hD ((hcl 18 _ rfl h).2.2.1 rfl)))
   have hw:=hw.aP (i:=13) rfl hD
   have hw:=hw.freeze (i:=2) rfl
   refine RL.app (i:=13) (j:=2) zt zr hw zr zr zr zr EU ep fun dh w hw=>?_
   have hw:=hw.aS (i:=2) (b:=true) rfl rfl (bif D 14 then (own 110 ar ([a7.1]: (List gk))) else aK)
   have hw:=hw.cK (i:=3) (b:=D 18) rfl (nf (fun h=>ft hD ((hcl 18 _ rfl h).2.2.1 rfl))) (bc 56 b0 [v0_0,v0_1,v0_2,v0_3,v0_4,v0_5,v0_6,af,ax,ay,aj,a2])
   have hw:=hw.cK (i:=3) (b:=D 21) rfl (nf (fun h=>ft hD ((hcl 21 _ rfl h).2.1 rfl))) (bc 56 b0 [v0_0,v0_1,v0_2,v0_3,v0_4,v0_5,v0_6,af,ax,ay,aj,dh])
   have hw:=hw.aS (i:=13) (b:=true) rfl rfl (own 110 a2 ad.2.2.2.2)
   exact RL.nil ⟨rfl,(aq,au,ar,aj,dh),hv.put 15 zr zr,ha.up zr,zt,hw⟩
  ·rintro D σ w hD hdep hcl ⟨⟨aq,au,ar,aj,ao⟩,hv,ha,_,hw⟩
   obtain⟨τ,rfl⟩:=(ac (hv.at 8 rfl (hdep.2.1 rfl)) (ac (hv.at 17 rfl (hdep.1 rfl)) az)).aO
   have hw:=hw.aP (i:=3) rfl (nf (fun h=>ft hD ((hcl 21 _ rfl h).2.2.1 rfl)))
   have hw:=hw.aP (i:=3) rfl hD
   have hw:=hw.aR (i:=12) rfl (hdep.2.1 rfl)
   refine RL.fU (i:=3) (v:=aj) zt hw zr zr zr zr (gm hw (i:=12) zr) dL fun w hw=>?_
   have hw:=hw.aS (i:=3) (b:=true) rfl rfl (bc 56 b0 [v0_0,v0_1,v0_2,v0_3,v0_4,v0_5,v0_6,af,ax,ay,bg,a2])
   have hw:=hw.cK (i:=3) (b:=D 21) rfl (nf (fun h=>ft hD ((hcl 21 _ rfl h).2.2.1 rfl))) (bc 56 b0 [v0_0,v0_1,v0_2,v0_3,v0_4,v0_5,v0_6,af,ax,ay,aj,ao])
   have hw:=hw.aS (i:=12) (b:=D 8) rfl (hdep.2.1 rfl) (own 3 bg ad.2.2.2.1)
   exact RL.nil ⟨rfl,(aq,au,ar,aj,ao),hv.no zr,ha,zt,hw⟩
  ·rintro D σ w hD hdep hcl ⟨⟨aq,au,ar,aj,ao⟩,hv,ha,_,hw⟩
   obtain⟨τ,rfl⟩:=(ac (hv.at 15 rfl (hdep.2.1 rfl)) (ac (hv.at 19 rfl (hdep.1 rfl)) az)).aO
   have hw:=hw.aP (i:=3) rfl hD
   have hw:=hw.aR (i:=3) rfl (hdep.2.2.1 rfl)
   have hw:=hw.aR (i:=13) rfl (hdep.2.1 rfl)
   refine RL.fU (i:=3) (v:=ao) zt hw zr zr zr zr (gm hw (i:=13) zr) Dv fun w hw=>?_
   have hw:=hw.aS (i:=3) (b:=true) rfl rfl (bif D 18 then (bc 56 b0 [v0_0,v0_1,v0_2,v0_3,v0_4,v0_5,v0_6,af,ax,ay,aj,a2]) else (bc 56 b0 [v0_0,v0_1,v0_2,v0_3,v0_4,v0_5,v0_6,af,ax,ay,bg,a2]))
   have hw:=hw.aS (i:=13) (b:=D 15) rfl (hdep.2.1 rfl) (own 110 a2 ad.2.2.2.2)
   exact RL.nil ⟨rfl,(aq,au,ar,aj,ao),hv.no zr,ha,zt,hw⟩
  rintro D σ w hall ⟨⟨aq,au,ar,aj,ao⟩,hv,ha,_,hw⟩
  have hw:=hw.aR (i:=0) rfl (hall 8 (by decide))
  have hw:=hw.aR (i:=1) rfl (hall 13 (by decide))
  have hw:=hw.aR (i:=2) rfl (hall 15 (by decide))
  have hw:=hw.aR (i:=3) rfl (hall 21 (by decide))
  have hw:=hw.aR (i:=12) rfl (hall 8 (by decide))
  have hw:=hw.aR (i:=13) rfl (hall 15 (by decide))
  obtain⟨τ,rfl⟩:=(ac (ha.at 0 rfl) (ac (ha.at 1 rfl) (ac (ha.at 2 rfl) (ac (ha.at 3 rfl) (ac (ha.at 4 rfl) (ac (ha.at 5 rfl) az)))))).aO
  refine bJ (aG (RC.region (RL.inc zt zr hk hm zr zr (mv (vi ((bo+1:Nat):Int)) zr zr (RL.nil ?_)))))
  obtain rfl:=oi hb
  exact⟨rfl,ax,ay,aj,ao,us889,(ag zr),hw.pk 15 [3,10,11,12,13,4,5,6,7,8,9] zr⟩
 intro σ w hJ
 obtain⟨cd,cf,cg,ch,us836,ha,hw⟩:=hJ
 obtain⟨τ,rfl⟩:=ha.aO
 obtain rfl:=oi hb
 have hw:=hw.uw (X:=aV) (b:=10) (j:=9) rfl (fun M h u x cs=>uF M h u x cs) rfl rfl (by decide)
 refine xH ?_
 exact BQ zr ⟨af,cd,cf,cg,ch,zr,hw.pk 11 [0,9,1,2,3,4] zr⟩
def om (E:World) (Γ:List HP) (res:Option ((List (List aC))×(List aC)×(List bD)×(List cT)×(List (List aA))×(List aD)×(List (List Int))×(List bT)×(List Int)×(List Int)×(List Int)×(List gk))×Int) (v:Value) (w:World):Prop:=Bb res.1 (v = .tuple #[(.pointer none),(vi res.2)]∧Holds E w Γ) (fun y=>∃(ub0:Nat) (u0_0:Value) (u0_1:Value) (u0_2:Value) (u0_3:Value) (u0_4:Value) (u0_5:Value) (u0_6:Value) (u0_7:Value) (u0_8:Value) (u0_9:Value) (u0_10:Value) (u0_11:Value),v = .tuple #[vp ub0 0,(vi res.2)]∧Holds E w ([bc 56 ub0 [u0_0,u0_1,u0_2,u0_3,u0_4,u0_5,u0_6,u0_7,u0_8,u0_9,u0_10,u0_11],rd u0_0 y.1,rd u0_1 y.2.1,rd u0_2 y.2.2.1,rd u0_3 y.2.2.2.1,own 58 u0_4 y.2.2.2.2.1,rd u0_5 y.2.2.2.2.2.1,rd u0_6 y.2.2.2.2.2.2.1,own 108 u0_7 y.2.2.2.2.2.2.2.1,rd u0_8 y.2.2.2.2.2.2.2.2.1,rd u0_9 y.2.2.2.2.2.2.2.2.2.1,own 3 u0_10 y.2.2.2.2.2.2.2.2.2.2.1,own 110 u0_11 y.2.2.2.2.2.2.2.2.2.2.2]++Γ))
def lx (E:World) (Γ:List HP) (r:Option ((List (List aC))×(List aC)×(List bD)×(List cT)×(List (List aA))×(List aD)×(List (List Int))×(List bT)×(List Int)×(List Int)×(List Int)×(List gk))×Int) (σ:Nat→Value) (w:World):Prop:=kc Tryz.prog 112 Tryz.f11 (om E Γ r) .ret σ w
theorem kE (N:Nat) {E w:World} {Γ:List HP} {i0:Nat} {v0:Value} {p0:jQ} {res:Option ((List (List aC))×(List aC)×(List bD)×(List cT)×(List (List aA))×(List aD)×(List (List Int))×(List bT)×(List Int)×(List Int)×(List Int)×(List gk))×Int} (hw:Holds E w Γ) (h0:Γ[i0]? =some (rd v0 p0)) (hb:dX N p0=some res):
    Calls Tryz.prog 11 [v0].toArray w (fw (om E Γ res)):=by
 unfold dX at hb
 refine enter Tryz.func11 zr zr (Nat.le_of_ble_eq_true zr) ?_
 have hw:=hw.dup (i:=i0+0) h0
 refine RC.sr (RL.dN (i:=0) (v:=v0) zt zr hw zr zr fun ai w hw=>(aM (.pointer none) zr zr (aM (vi 0) zr zr (RL.nq (RC.sr (RL.bF zt zr zr qu (RL.aY (i:=0) (f:=(fun x=>x.aJ)) zt zr hw zr zr lF yw fun cm hw=>(RL.bG (i:=0) (l:=p0.aJ) zt zr hw zr zr tB ?_))))))))
 refine ic ((p0.aJ.length:Int)) 0 zr zr zr zr (RL.nt (eI hb zr (fun hc hb=>?_) fun hc hb=>?_))
 ·refine RC.sr (aM (.pointer none) zr zr (aM (vi 9) zr zr (RL.nt (RC.rt ?_))))
  obtain rfl:=oi hb
  exact i5 zr zr zr ⟨rfl,hw.drop 3 zr⟩
 refine RC.ss (RC.sr (RL.bF zt zr zr qu (RL.aY (i:=1) (f:=(fun x=>x.aJ)) zt zr hw zr zr lF yw fun cn hw=>(RL.bG (i:=0) (l:=p0.aJ) zt zr hw zr zr tB (ic ((p0.aJ.length:Int)) 16 zr zr zr zr (RL.nt (eI hb zr (fun hc hb=>?_) fun hc hb=>?_)))))))
 ·refine RC.sr (aM (.pointer none) zr zr (aM (vi 2) zr zr (RL.nt (RC.rt ?_))))
  obtain rfl:=oi hb
  exact i5 zr zr zr ⟨rfl,hw.drop 4 zr⟩
 refine RC.sx (RL.bF zt zr zr zR (RL.aY (i:=2) (f:=(fun x=>x.bY)) zt zr hw zr zr sg qw fun cp hw=>(RL.bG (i:=0) (l:=p0.bY) zt zr hw zr zr lj (aM (vi (p0.bY.length:Int)) zr zr (RL.nq (RC.sr (RL.bF zt zr zr qu (RL.aY (i:=3) (f:=(fun x=>x.aJ)) zt zr hw zr zr lF yw fun ba hw=>?_))))))))
 refine RL.bG (i:=0) (l:=p0.aJ) zt zr hw zr zr tB (mv (vi 0) zr zr (RL.nt ?_))
 obtain⟨cq,hN,hb⟩:=bd hb
 refine RC.range (fun(a5:Nat) (aq:Int) (σ:Nat→Value) (w:World)=>agree σ [(1,(vp ai 0)),(4,(vi aq)),(28,ba),(29,(vi (p0.aJ.length:Int))),(30,(vi (a5:Int)))]∧Holds E w ([bx 27 ai p0,rd ba p0.aJ]++Γ)) (fun(aq:Int) (σ:Nat→Value) (w:World)=>agree σ [(1,(vp ai 0)),(4,(vi aq))]∧Holds E w ([bx 27 ai p0,rd ba p0.aJ]++Γ)) (lx E Γ) hN ?_ ?_ ?_ ?_ ?_
 ·exact⟨(ag zr),hw.pk 6 [4,0] zr⟩
 ·intro hm aq σ w hI
  obtain⟨ha,hw⟩:=hI
  obtain⟨τ,rfl⟩:=ha.aO
  refine RC.sr (ic ((p0.aJ.length:Int)) ((p0.aJ.length:Int)) zr zr zr zr (RL.nq (RC.cH lZ (RC.ex ?_))))
  exact⟨rfl,(ag zr),hw.pk 2 [0,1] zr⟩
 ·intro hm a5 aq fl σ w hk hI hb
  obtain⟨ha,hw⟩:=hI
  obtain⟨τ,rfl⟩:=ha.aO
  refine RC.sr (ic ((a5:Int)) ((p0.aJ.length:Int)) zr zr zr zr (RL.nq (RC.cG (lY hk) (RC.ss (RC.bs ?_)))))
  obtain⟨a6,bh,hb⟩:=bd hb
  refine RL.bO (i:=1) zt zr hw zr zr zr uH bh fun cr hw=>(RL.bP (i:=0) (x:=a6) zt zr hw zr zr qw fun a7 hw=>(aM a7 zr zr (RL.nq (RC.sr (mv a7 zr zr ?_)))))
  obtain⟨aw,bj,hb⟩:=bd hb
  refine RL.call zt zr B9 [a7] zr (aF (hB N (i0:=0) hw zr bj) ?_)
  rintro _ w ⟨rfl,hw⟩
  refine aM (vi aw) zr zr (RL.ns (mv (vi aw) zr zr (ic aw 0 zr zr zr zr (RL.nt (eI hb zr (fun hc hb=>?_) fun hc hb=>?_)))))
  ·refine RC.sr (mv (vi aw) zr zr (aM (.pointer none) zr zr (aM (vi aw) zr zr (RL.nt (RC.rt (lf (bL ?_)))))))
   obtain rfl:=oi hb
   exact⟨rfl,i5 zr zr zr ⟨rfl,hw.drop 4 zr⟩⟩
  refine RC.sn (RC.region (mv (vi aq) zr zr (mv a7 zr zr (RL.bG (i:=0) (l:=a6) zt zr hw zr zr lj (RL.gQ (a:=aq) (b:=(a6.length:Int)) zt zr zr zr zr (aM (vi (IntKind.wrap .i64 (aq+ (a6.length:Int)))) zr zr (RL.nil (bJ ?_))))))))
  refine aG (RC.region (RL.inc zt zr hk hm zr zr (mv (vi ((a5+1:Nat):Int)) zr zr (RL.nil ?_))))
  obtain rfl:=oi hb
  exact⟨rfl,(ag zr),hw.pk 4 [2,3] zr⟩
 ·intro r σ w e hK
  subst e
  refine bL ?_
  obtain rfl:=oi hb
  exact hK
 intro aq σ w e hJ
 subst e
 rw [Fo.eT] at hb
 obtain⟨ha,hw⟩:=hJ
 obtain⟨τ,rfl⟩:=ha.aO
 refine aG (RC.seq (RC.sr (RL.bF zt zr zr zR (RL.aY (i:=0) (f:=(fun x=>x.bY)) zt zr hw zr zr sg qw fun bk hw=>?_))))
 obtain⟨ax,bl,hb⟩:=bd hb
 refine RL.call zt zr B9 [bk] zr (aF (hB N (i0:=0) hw zr bl) ?_)
 rintro _ w ⟨rfl,hw⟩
 refine aM (vi ax) zr zr (RL.ns (mv (vi ax) zr zr (ic ax 0 zr zr zr zr (RL.nt (eI hb zr (fun hc hb=>?_) fun hc hb=>?_)))))
 ·refine RC.sr (mv (vi ax) zr zr (aM (.pointer none) zr zr (aM (vi ax) zr zr (RL.nt (RC.rt ?_)))))
  obtain rfl:=oi hb
  exact i5 zr zr zr ⟨rfl,hw.drop 3 zr⟩
 refine RC.ss (RC.sr (mv (vi aq) zr zr (ic aq 2000 zr zr zr zr (RL.nt (eI hb zr (fun hc hb=>?_) fun hc hb=>?_)))))
 ·refine RC.sr (aM (.pointer none) zr zr (aM (vi 2) zr zr (RL.nt (RC.rt ?_))))
  obtain rfl:=oi hb
  exact i5 zr zr zr ⟨rfl,hw.drop 3 zr⟩
 refine RC.ss (RC.sr (RL.aY (i:=1) (f:=(fun x=>x)) zt zr hw zr zr Fd.self uG fun bm hw=>?_))
 obtain⟨ay,bn,hb⟩:=bd hb
 refine RL.call zt zr El [bm] zr (aF (mX N (i0:=0) hw zr bn) ?_)
 rintro _ w ⟨rfl,hw⟩
 refine aM (vi ay) zr zr (RL.ns (mv (vi ay) zr zr (ic ay 0 zr zr zr zr (RL.nt (eI hb zr (fun hc hb=>?_) fun hc hb=>?_)))))
 ·refine RC.sr (mv (vi ay) zr zr (aM (.pointer none) zr zr (aM (vi ay) zr zr (RL.nt (RC.rt ?_)))))
  obtain rfl:=oi hb
  exact i5 zr zr zr ⟨rfl,hw.drop 4 zr⟩
 refine RC.ss (RC.sr (RL.aY (i:=2) (f:=(fun x=>x)) zt zr hw zr zr Fd.self uG fun bo hw=>?_))
 obtain⟨a0,bp,hb⟩:=bd hb
 refine RL.call zt zr Ez [bo] zr (aF (m4 N (i0:=0) hw zr bp) ?_)
 rintro _ w ⟨rfl,hw⟩
 refine aM (vi a0) zr zr (RL.ns (mv (vi a0) zr zr (ic a0 0 zr zr zr zr (RL.nt (eI hb zr (fun hc hb=>?_) fun hc hb=>?_)))))
 ·refine RC.sr (mv (vi a0) zr zr (aM (.pointer none) zr zr (aM (vi a0) zr zr (RL.nt (RC.rt ?_)))))
  obtain rfl:=oi hb
  exact i5 zr zr zr ⟨rfl,hw.drop 5 zr⟩
 refine RC.ss (RC.sr (RL.bF zt zr zr ll (RL.aY (i:=3) (f:=(fun x=>x.aT)) zt zr hw zr zr mQ tC fun al hw=>(RL.bG (i:=0) (l:=p0.aT) zt zr hw zr zr uJ (mv (vi 0) zr zr (RL.nt ?_))))))
 obtain⟨ct,hN,hb⟩:=bd hb
 refine RC.range (fun(ao:Nat) (a8:Unit) (σ:Nat→Value) (w:World)=>agree σ [(1,(vp ai 0)),(63,al),(64,(vi (p0.aT.length:Int))),(65,(vi (ao:Int)))]∧Holds E w ([bx 27 ai p0,rd al p0.aT]++Γ)) (fun(a8:Unit) (σ:Nat→Value) (w:World)=>agree σ [(1,(vp ai 0))]∧Holds E w ([bx 27 ai p0,rd al p0.aT]++Γ)) (lx E Γ) hN ?_ ?_ ?_ ?_ ?_
 ·exact⟨(ag zr),hw.pk 6 [4,0] zr⟩
 ·intro hm a8 σ w hI
  obtain⟨ha,hw⟩:=hI
  obtain⟨τ,rfl⟩:=ha.aO
  refine RC.sr (ic ((p0.aT.length:Int)) ((p0.aT.length:Int)) zr zr zr zr (RL.nq (RC.cH lZ (RC.ex ?_))))
  exact⟨rfl,⟨rfl,zt⟩,hw.pk 2 [0,1] zr⟩
 ·intro hm ao a8 fl σ w hk hI hb
  obtain⟨ha,hw⟩:=hI
  obtain⟨τ,rfl⟩:=ha.aO
  refine RC.sr (ic ((ao:Int)) ((p0.aT.length:Int)) zr zr zr zr (RL.nq (RC.cG (lY hk) (RC.ss (RC.bs (mv (vi (ao:Int)) zr zr ?_))))))
  obtain⟨aa,bq,hb⟩:=bd hb
  refine RL.bO (i:=1) zt zr hw zr zr zr vY bq fun cu hw=>(RL.bP (i:=0) (x:=aa) zt zr hw zr zr kr fun cw hw=>(RL.alloc zt zr hw yA.z fun ah w hw=>(aM (vi (ao:Int)) zr zr (RL.bC (i:=0) (j:=1) zt hw zr zr zr zr kr zr fun w hw=>(RL.ns (RL.bF zt zr zr ll (RL.aY (i:=3) (f:=(fun x=>x.aT)) zt zr hw zr zr mQ tC fun cx hw=>(mv (vi (ao:Int)) zr zr ?_))))))))
  obtain⟨an,br,hb⟩:=bd hb
  refine RL.cut (i:=0) zt zr hw zr zr vY (.inr ⟨rfl,zr⟩) (.inl zr) br fun au hw=>(RL.bG (i:=0) (l:=an) zt zr hw zr zr uJ (mv (vi 0) zr zr (RL.nt ?_)))
  obtain⟨cy,hN,hb⟩:=bd hb
  refine RC.range (fun(av:Nat) (a9:Unit) (σ:Nat→Value) (w:World)=>agree σ [(1,(vp ai 0)),(12,(vp ah 0)),(63,al),(64,(vi (p0.aT.length:Int))),(65,(vi (ao:Int))),(73,au),(74,(vi (an.length:Int))),(75,(vi (av:Int)))]∧Holds E w ([bx 27 ai p0,bx 65 ah aa,rd al p0.aT,rd au an]++Γ)) (fun(a9:Unit) (σ:Nat→Value) (w:World)=>agree σ [(1,(vp ai 0)),(63,al),(64,(vi (p0.aT.length:Int))),(65,(vi (ao:Int)))]∧Holds E w ([bx 27 ai p0,bx 65 ah aa,rd al p0.aT,rd au an]++Γ)) (lx E Γ) hN ?_ ?_ ?_ ?_ ?_
  ·exact⟨(ag zr),hw.pk 7 [5,2,6,0] zr⟩
  ·intro hm a9 σ w hI
   obtain⟨ha,hw⟩:=hI
   obtain⟨τ,rfl⟩:=ha.aO
   refine RC.sr (ic ((an.length:Int)) ((an.length:Int)) zr zr zr zr (RL.nq (RC.cH lZ (RC.ex ?_))))
   exact⟨rfl,(ag zr),hw.pk 4 [0,1,2,3] zr⟩
  ·intro hm av a9 fl σ w hk hI hb
   obtain⟨ha,hw⟩:=hI
   obtain⟨τ,rfl⟩:=ha.aO
   refine RC.sr (ic ((av:Int)) ((an.length:Int)) zr zr zr zr (RL.nq (RC.cG (lY hk) (RC.ss (RC.bs ?_)))))
   obtain⟨o,bt,hb⟩:=bd hb
   refine RL.bO (i:=3) zt zr hw zr zr zr vY bt fun bf hw=>(RL.bP (i:=0) (x:=o) zt zr hw zr zr kr fun bg hw=>(RL.alloc zt zr hw yA.z fun ak w hw=>(RL.bC (i:=0) (j:=1) zt hw zr zr zr zr kr zr fun w hw=>(RL.nq ?_))))
   obtain⟨bb,hj,hb⟩:=bd hb
   refine RC.jn (fun(bb:Bool) (σ:Nat→Value) (w:World)=>agree σ [(1,(vp ai 0)),(12,(vp ah 0)),(63,al),(64,(vi (p0.aT.length:Int))),(65,(vi (ao:Int))),(73,au),(74,(vi (an.length:Int))),(75,(vi (av:Int))),(98,(vb bb))]∧Holds E w ([bx 27 ai p0,bx 65 ah aa,rd al p0.aT,rd au an]++Γ)) bb ?_ ?_
   ·refine fH hj (fun aj hj=>?_) fun aj hj=>?_
    rotate_left
    ·refine RC.tw (E:=E) (Γ:=Γ) mixed rfl [1,0,1,0,1,1,0,0,0,0,0,0,1,1,1,1,1,1,1,1] [] (fun(x:Unit)=>[(0,79,(vp ah 3)),(1,80,(vi aa.bN)),(2,81,(vp ak 4)),(3,82,(vi o.To)),(4,83,(vb (decide (aa.bN≤o.To)))),(5,84,(vb (decide (aa.bN≤o.To)))),(6,85,(cv (true&&((decide (aa.bN≤o.To))==true)) (vp ak 3))),(7,86,(cv (true&&((decide (aa.bN≤o.To))==true)) (vi o.bN))),(8,87,(cv (true&&((decide (aa.bN≤o.To))==true)) (vp ah 4))),(9,88,(cv (true&&((decide (aa.bN≤o.To))==true)) (vi aa.To))),(10,89,(cv (true&&((decide (aa.bN≤o.To))==true)) (vb (decide (o.bN≤aa.To))))),(11,90,(vb ((decide (aa.bN≤o.To))&&(decide (o.bN≤aa.To))))),(12,91,(vb ((decide (aa.bN≤o.To))&&(decide (o.bN≤aa.To))))),(13,92,undef),(14,93,undef),(15,94,undef),(16,95,undef),(17,96,undef),(18,97,undef),(19,98,(vb false))]) [(1,(vp ai 0)),(12,(vp ah 0)),(14,(vp ak 0)),(63,al),(64,(vi (p0.aT.length:Int))),(65,(vi (ao:Int))),(73,au),(74,(vi (an.length:Int))),(75,(vi (av:Int)))] [] (fun(D:Nat→Bool) (x:Unit)=>[bx 65 ak o,rd bg o,pt bf o,bx 27 ai p0,bx 65 ah aa,rd al p0.aT,rd au an]) (fun x=>by kernel_rfl) ?_ ⟨fun _=>fN gn oE rfl,?_,fun _=>fN gn qy rfl,?_,fun _=>yu gn rfl,fun _=>eA gn rfl,?_,?_,?_,?_,?_,?_,fun _=>eA gn rfl,fun _=>iw aj rfl,fun _=>iw aj rfl,fun _=>iw aj rfl,fun _=>iw aj rfl,fun _=>iw aj rfl,fun _=>iw aj rfl,fun _=>zJ gn aj rfl,trivial⟩ ?_
     ·have hw:=hw.drew
      exact⟨(),doneV.none,(ag zr),zt,hw⟩
     ·rintro D σ w hD hdep hcl ⟨_,hv,ha,_,hw⟩
      obtain⟨τ,rfl⟩:=(ac (hv.at 0 rfl (hdep.1 rfl)) az).aO
      refine RL.aL (i:=4) (f:=(fun x=>x.bN)) zt zr hw zr zr jz bX ?_
      exact RL.nil ⟨rfl,(),hv.put 1 zr zr,ha.up zr,zt,hw⟩
     ·rintro D σ w hD hdep hcl ⟨_,hv,ha,_,hw⟩
      obtain⟨τ,rfl⟩:=(ac (hv.at 2 rfl (hdep.1 rfl)) az).aO
      refine RL.aL (i:=0) (f:=(fun x=>x.To)) zt zr hw zr zr ki bX ?_
      exact RL.nil ⟨rfl,(),hv.put 3 zr zr,ha.up zr,zt,hw⟩
     ·rintro D σ w hD hdep hcl ⟨_,hv,ha,_,hw⟩
      obtain⟨τ,rfl⟩:=(ac (hv.at 5 rfl (hdep.1 rfl)) (ac (ha.at 2 rfl) az)).aO
      refine RL.gs (c:=true) (b:=(decide (aa.bN≤o.To))) (v:=(vp ak 3)) zr zr zr (dD zr (fun _=>zr) oE) ?_
      exact RL.nil ⟨rfl,(),hv.put 6 zr zr,ha.up zr,zt,hw⟩
     ·rintro D σ w hD hdep hcl ⟨_,hv,ha,_,hw⟩
      obtain⟨τ,rfl⟩:=(ac (hv.at 5 rfl (hdep.2.1 rfl)) (ac (hv.at 6 rfl (hdep.1 rfl)) az)).aO
      refine RL.gs (c:=true) (b:=(decide (aa.bN≤o.To))) (v:=(vi o.bN)) rfl rfl rfl (bK (i:=0) (f:=(fun x=>x.bN)) rfl hw (fun h=>by exact(cC h:cv (true&&((decide (aa.bN≤o.To))==true)) (vp ak 3)= (vp ak 3))) rfl jz bX) ?_
      exact RL.nil ⟨rfl,(),hv.put 7 zr zr,ha.up zr,zt,hw⟩
     ·rintro D σ w hD hdep hcl ⟨_,hv,ha,_,hw⟩
      obtain⟨τ,rfl⟩:=(ac (hv.at 5 rfl (hdep.1 rfl)) (ac (ha.at 1 rfl) az)).aO
      refine RL.gs (c:=true) (b:=(decide (aa.bN≤o.To))) (v:=(vp ah 4)) zr zr zr (dD zr (fun _=>zr) qy) ?_
      exact RL.nil ⟨rfl,(),hv.put 8 zr zr,ha.up zr,zt,hw⟩
     ·rintro D σ w hD hdep hcl ⟨_,hv,ha,_,hw⟩
      obtain⟨τ,rfl⟩:=(ac (hv.at 5 rfl (hdep.2.1 rfl)) (ac (hv.at 8 rfl (hdep.1 rfl)) az)).aO
      refine RL.gs (c:=true) (b:=(decide (aa.bN≤o.To))) (v:=(vi aa.To)) rfl rfl rfl (bK (i:=4) (f:=(fun x=>x.To)) rfl hw (fun h=>by exact(cC h:cv (true&&((decide (aa.bN≤o.To))==true)) (vp ah 4)= (vp ah 4))) rfl ki bX) ?_
      exact RL.nil ⟨rfl,(),hv.put 9 zr zr,ha.up zr,zt,hw⟩
     ·rintro D σ w hD hdep hcl ⟨_,hv,ha,_,hw⟩
      obtain⟨τ,rfl⟩:=(ac (hv.at 5 rfl (hdep.2.2.1 rfl)) (ac (hv.at 7 rfl (hdep.1 rfl)) (ac (hv.at 9 rfl (hdep.2.1 rfl)) az))).aO
      refine RL.gs (c:=true) (b:=(decide (aa.bN≤o.To))) (v:=(vb (decide (o.bN≤aa.To)))) rfl rfl rfl (cV (bop:= .leq) (K:= .i64) (a:=o.bN) (b:=aa.To) rfl (fun h=>by exact(cC h:cv (true&&((decide (aa.bN≤o.To))==true)) (vi o.bN)= (vi o.bN))) (fun h=>by exact(cC h:cv (true&&((decide (aa.bN≤o.To))==true)) (vi aa.To)= (vi aa.To))) rfl) ?_
      exact RL.nil ⟨rfl,(),hv.put 10 zr zr,ha.up zr,zt,hw⟩
     ·rintro D σ w hD hdep hcl ⟨_,hv,ha,_,hw⟩
      obtain⟨τ,rfl⟩:=(ac (hv.at 5 rfl (hdep.1 rfl)) (ac (hv.at 10 rfl (hdep.2.1 rfl)) az)).aO
      refine RL.pick (b:=(decide (aa.bN≤o.To))) (v:=(vb ((decide (aa.bN≤o.To))&&(decide (o.bN≤aa.To))))) zt zr zr (gW (c:=true) zr) ?_
      exact RL.nil ⟨rfl,(),hv.put 11 zr zr,ha.up zr,zt,hw⟩
     rintro D σ w hall ⟨_,hv,ha,_,hw⟩
     obtain⟨τ,rfl⟩:=(ac (hv.at 19 rfl (hall 19 (by decide))) (ac (ha.at 0 rfl) (ac (ha.at 1 rfl) (ac (ha.at 2 rfl) (ac (ha.at 3 rfl) (ac (ha.at 4 rfl) (ac (ha.at 5 rfl) (ac (ha.at 6 rfl) (ac (ha.at 7 rfl) (ac (ha.at 8 rfl) az)))))))))).aO
     obtain rfl:=oi hj
     exact⟨rfl,(ag zr),hw.pk 7 [3,4,5,6] zr⟩
    obtain⟨bu,bw,hj⟩:=bd hj
    obtain⟨bz,b0,hj⟩:=bd hj
    obtain⟨bc,b1,hj⟩:=bd hj
    refine RC.tw (E:=E) (Γ:=Γ) mixed rfl [1,0,1,0,1,1,0,0,0,0,0,0,1,0,0,0,0,0,1,1] [13,14,15,16] (fun(x:Value×Value×Value×Value)=>(fun ab ad ae af=>[(0,79,(vp ah 3)),(1,80,(vi aa.bN)),(2,81,(vp ak 4)),(3,82,(vi o.To)),(4,83,(vb (decide (aa.bN≤o.To)))),(5,84,(vb (decide (aa.bN≤o.To)))),(6,85,(cv (true&&((decide (aa.bN≤o.To))==true)) (vp ak 3))),(7,86,(cv (true&&((decide (aa.bN≤o.To))==true)) (vi o.bN))),(8,87,(cv (true&&((decide (aa.bN≤o.To))==true)) (vp ah 4))),(9,88,(cv (true&&((decide (aa.bN≤o.To))==true)) (vi aa.To))),(10,89,(cv (true&&((decide (aa.bN≤o.To))==true)) (vb (decide (o.bN≤aa.To))))),(11,90,(vb ((decide (aa.bN≤o.To))&&(decide (o.bN≤aa.To))))),(12,91,(vb ((decide (aa.bN≤o.To))&&(decide (o.bN≤aa.To))))),(13,92,ab),(14,93,ad),(15,94,ae),(16,95,af),(17,96,(vi bc)),(18,97,(vb (bc==0))),(19,98,(vb (bc==0)))]) x.1 x.2.1 x.2.2.1 x.2.2.2) [(1,(vp ai 0)),(12,(vp ah 0)),(14,(vp ak 0)),(63,al),(64,(vi (p0.aT.length:Int))),(65,(vi (ao:Int))),(73,au),(74,(vi (an.length:Int))),(75,(vi (av:Int)))] [] (fun(D:Nat→Bool) (x:Value×Value×Value×Value)=>(fun ab ad ae af=>[bif D 0 then (rd ab aa) else aK,bif D 1 then (rd ad bu) else aK,bif D 2 then (rd ae o) else aK,bif D 3 then (rd af bz) else aK,bx 65 ak o,rd bg o,pt bf o,bx 27 ai p0,bx 65 ah aa,rd al p0.aT,rd au an]) x.1 x.2.1 x.2.2.1 x.2.2.2) (fun x=>by kernel_rfl) ?_ ⟨fun _=>fN gn oE rfl,?_,fun _=>fN gn qy rfl,?_,fun _=>yu gn rfl,fun _=>eA gn rfl,?_,?_,?_,?_,?_,?_,fun _=>eA gn rfl,?_,?_,?_,?_,?_,fun _=>yu (gy aj rfl) rfl,fun _=>zI gn aj rfl,trivial⟩ ?_
    ·have hw:=hw.drew
     have hw:=hw.aK
     have hw:=hw.aK
     have hw:=hw.aK
     have hw:=hw.aK
     exact⟨(undef,undef,undef,undef),doneV.none,(ag zr),zt,hw⟩
    ·rintro D σ w hD hdep hcl ⟨⟨ab,ad,ae,af⟩,hv,ha,_,hw⟩
     obtain⟨τ,rfl⟩:=(ac (hv.at 0 rfl (hdep.1 rfl)) az).aO
     refine RL.aL (i:=8) (f:=(fun x=>x.bN)) zt zr hw zr zr jz bX ?_
     exact RL.nil ⟨rfl,(ab,ad,ae,af),hv.put 1 zr zr,ha.up zr,zt,hw⟩
    ·rintro D σ w hD hdep hcl ⟨⟨ab,ad,ae,af⟩,hv,ha,_,hw⟩
     obtain⟨τ,rfl⟩:=(ac (hv.at 2 rfl (hdep.1 rfl)) az).aO
     refine RL.aL (i:=4) (f:=(fun x=>x.To)) zt zr hw zr zr ki bX ?_
     exact RL.nil ⟨rfl,(ab,ad,ae,af),hv.put 3 zr zr,ha.up zr,zt,hw⟩
    ·rintro D σ w hD hdep hcl ⟨⟨ab,ad,ae,af⟩,hv,ha,_,hw⟩
     obtain⟨τ,rfl⟩:=(ac (hv.at 5 rfl (hdep.1 rfl)) (ac (ha.at 2 rfl) az)).aO
     refine RL.gs (c:=true) (b:=(decide (aa.bN≤o.To))) (v:=(vp ak 3)) zr zr zr (dD zr (fun _=>zr) oE) ?_
     exact RL.nil ⟨rfl,(ab,ad,ae,af),hv.put 6 zr zr,ha.up zr,zt,hw⟩
    ·rintro D σ w hD hdep hcl ⟨⟨ab,ad,ae,af⟩,hv,ha,_,hw⟩
     obtain⟨τ,rfl⟩:=(ac (hv.at 5 rfl (hdep.2.1 rfl)) (ac (hv.at 6 rfl (hdep.1 rfl)) az)).aO
     refine RL.gs (c:=true) (b:=(decide (aa.bN≤o.To))) (v:=(vi o.bN)) rfl rfl rfl (bK (i:=4) (f:=(fun x=>x.bN)) rfl hw (fun h=>by exact(cC h:cv (true&&((decide (aa.bN≤o.To))==true)) (vp ak 3)= (vp ak 3))) rfl jz bX) ?_
     exact RL.nil ⟨rfl,(ab,ad,ae,af),hv.put 7 zr zr,ha.up zr,zt,hw⟩
    ·rintro D σ w hD hdep hcl ⟨⟨ab,ad,ae,af⟩,hv,ha,_,hw⟩
     obtain⟨τ,rfl⟩:=(ac (hv.at 5 rfl (hdep.1 rfl)) (ac (ha.at 1 rfl) az)).aO
     refine RL.gs (c:=true) (b:=(decide (aa.bN≤o.To))) (v:=(vp ah 4)) zr zr zr (dD zr (fun _=>zr) qy) ?_
     exact RL.nil ⟨rfl,(ab,ad,ae,af),hv.put 8 zr zr,ha.up zr,zt,hw⟩
    ·rintro D σ w hD hdep hcl ⟨⟨ab,ad,ae,af⟩,hv,ha,_,hw⟩
     obtain⟨τ,rfl⟩:=(ac (hv.at 5 rfl (hdep.2.1 rfl)) (ac (hv.at 8 rfl (hdep.1 rfl)) az)).aO
     refine RL.gs (c:=true) (b:=(decide (aa.bN≤o.To))) (v:=(vi aa.To)) rfl rfl rfl (bK (i:=8) (f:=(fun x=>x.To)) rfl hw (fun h=>by exact(cC h:cv (true&&((decide (aa.bN≤o.To))==true)) (vp ah 4)= (vp ah 4))) rfl ki bX) ?_
     exact RL.nil ⟨rfl,(ab,ad,ae,af),hv.put 9 zr zr,ha.up zr,zt,hw⟩
    ·rintro D σ w hD hdep hcl ⟨⟨ab,ad,ae,af⟩,hv,ha,_,hw⟩
     obtain⟨τ,rfl⟩:=(ac (hv.at 5 rfl (hdep.2.2.1 rfl)) (ac (hv.at 7 rfl (hdep.1 rfl)) (ac (hv.at 9 rfl (hdep.2.1 rfl)) az))).aO
     refine RL.gs (c:=true) (b:=(decide (aa.bN≤o.To))) (v:=(vb (decide (o.bN≤aa.To)))) rfl rfl rfl (cV (bop:= .leq) (K:= .i64) (a:=o.bN) (b:=aa.To) rfl (fun h=>by exact(cC h:cv (true&&((decide (aa.bN≤o.To))==true)) (vi o.bN)= (vi o.bN))) (fun h=>by exact(cC h:cv (true&&((decide (aa.bN≤o.To))==true)) (vi aa.To)= (vi aa.To))) rfl) ?_
     exact RL.nil ⟨rfl,(ab,ad,ae,af),hv.put 10 zr zr,ha.up zr,zt,hw⟩
    ·rintro D σ w hD hdep hcl ⟨⟨ab,ad,ae,af⟩,hv,ha,_,hw⟩
     obtain⟨τ,rfl⟩:=(ac (hv.at 5 rfl (hdep.1 rfl)) (ac (hv.at 10 rfl (hdep.2.1 rfl)) az)).aO
     refine RL.pick (b:=(decide (aa.bN≤o.To))) (v:=(vb ((decide (aa.bN≤o.To))&&(decide (o.bN≤aa.To))))) zt zr zr (gW (c:=true) zr) ?_
     exact RL.nil ⟨rfl,(ab,ad,ae,af),hv.put 11 zr zr,ha.up zr,zt,hw⟩
    ·rintro D σ w hD hdep hcl ⟨⟨ab,ad,ae,af⟩,hv,ha,_,hw⟩
     obtain⟨τ,rfl⟩:=(ac (hv.at 12 rfl (hdep.1 rfl)) (ac (ha.at 1 rfl) az)).aO
     have hw:=hw.aP (i:=0) rfl hD
     refine RL.aY (i:=8) (f:=(fun x=>x)) (cg aj) zr hw zr zr Fd.self kr fun b2 hw=>?_
     have hw:=hw.pl 12 [0,2,3,4,5,6,7,8,9,10,11] rfl
     have hw:=hw.aS (i:=0) (b:=true) rfl rfl (aK)
     exact RL.nil ⟨rfl,(b2,ad,ae,af),hv.put 13 zr zr,ha.up zr,zt,hw⟩
    ·rintro D σ w hD hdep hcl ⟨⟨ab,ad,ae,af⟩,hv,ha,_,hw⟩
     obtain⟨τ,rfl⟩:=(ac (hv.at 12 rfl (hdep.2.1 rfl)) (ac (hv.at 13 rfl (hdep.1 rfl)) az)).aO
     have hw:=hw.aR (i:=0) rfl (hdep.1 rfl)
     have hw:=hw.aP (i:=1) rfl hD
     refine RL.call (cg aj) zr yC [ab] zr (aF (eD N (i0:=0) hw zr bw) ?_)
     rintro b3 w hw
     have hw:=hw.pl 12 [1,0,3,4,5,6,7,8,9,10,11] rfl
     have hw:=hw.aS (i:=0) (b:=D 13) rfl (hdep.1 rfl) (aK)
     have hw:=hw.aS (i:=1) (b:=true) rfl rfl (aK)
     exact RL.nil ⟨rfl,(ab,b3,ae,af),hv.put 14 zr zr,ha.up zr,zt,hw⟩
    ·rintro D σ w hD hdep hcl ⟨⟨ab,ad,ae,af⟩,hv,ha,_,hw⟩
     obtain⟨τ,rfl⟩:=(ac (hv.at 12 rfl (hdep.1 rfl)) (ac (ha.at 2 rfl) az)).aO
     have hw:=hw.aP (i:=2) rfl hD
     refine RL.aY (i:=4) (f:=(fun x=>x)) (cg aj) zr hw zr zr Fd.self kr fun b4 hw=>?_
     have hw:=hw.pl 12 [1,2,0,4,5,6,7,8,9,10,11] rfl
     have hw:=hw.aS (i:=2) (b:=true) rfl rfl (aK)
     exact RL.nil ⟨rfl,(ab,ad,b4,af),hv.put 15 zr zr,ha.up zr,zt,hw⟩
    ·rintro D σ w hD hdep hcl ⟨⟨ab,ad,ae,af⟩,hv,ha,_,hw⟩
     obtain⟨τ,rfl⟩:=(ac (hv.at 12 rfl (hdep.2.2.1 rfl)) (ac (hv.at 15 rfl (hdep.1 rfl)) az)).aO
     have hw:=hw.aR (i:=2) rfl (hdep.1 rfl)
     have hw:=hw.aP (i:=3) rfl hD
     refine RL.call (cg aj) zr yC [ae] zr (aF (eD N (i0:=2) hw zr b0) ?_)
     rintro b5 w hw
     have hw:=hw.pl 12 [1,2,3,0,5,6,7,8,9,10,11] rfl
     have hw:=hw.aS (i:=2) (b:=D 15) rfl (hdep.1 rfl) (aK)
     have hw:=hw.aS (i:=3) (b:=true) rfl rfl (aK)
     exact RL.nil ⟨rfl,(ab,ad,ae,b5),hv.put 16 zr zr,ha.up zr,zt,hw⟩
    ·rintro D σ w hD hdep hcl ⟨⟨ab,ad,ae,af⟩,hv,ha,_,hw⟩
     obtain⟨τ,rfl⟩:=(ac (hv.at 12 rfl (hdep.2.2.2.1 rfl)) (ac (hv.at 14 rfl (hdep.1 rfl)) (ac (hv.at 16 rfl (hdep.2.1 rfl)) az))).aO
     have hw:=hw.aR (i:=1) rfl (hdep.1 rfl)
     have hw:=hw.aR (i:=3) rfl (hdep.2.1 rfl)
     refine RL.call (cg aj) zr EA [ad,af] zr (aF (uW N (i0:=1) (i1:=3) hw zr zr b1) ?_)
     rintro _ w ⟨rfl,hw⟩
     have hw:=hw.aS (i:=1) (b:=D 14) rfl (hdep.1 rfl) (aK)
     have hw:=hw.aS (i:=3) (b:=D 16) rfl (hdep.2.1 rfl) (aK)
     exact RL.nil ⟨rfl,(ab,ad,ae,af),hv.put 17 zr zr,ha.up zr,zt,hw⟩
    rintro D σ w hall ⟨⟨ab,ad,ae,af⟩,hv,ha,_,hw⟩
    have hw:=hw.aR (i:=0) rfl (hall 13 (by decide))
    have hw:=hw.aR (i:=1) rfl (hall 14 (by decide))
    have hw:=hw.aR (i:=2) rfl (hall 15 (by decide))
    have hw:=hw.aR (i:=3) rfl (hall 16 (by decide))
    obtain⟨τ,rfl⟩:=(ac (hv.at 19 rfl (hall 19 (by decide))) (ac (ha.at 0 rfl) (ac (ha.at 1 rfl) (ac (ha.at 2 rfl) (ac (ha.at 3 rfl) (ac (ha.at 4 rfl) (ac (ha.at 5 rfl) (ac (ha.at 6 rfl) (ac (ha.at 7 rfl) (ac (ha.at 8 rfl) az)))))))))).aO
    obtain rfl:=oi hj
    exact⟨rfl,(ag zr),hw.pk 11 [7,8,9,10] zr⟩
   rintro σ w ⟨ha,hw⟩
   obtain⟨τ,rfl⟩:=ha.aO
   refine aG (eI hb zr (fun hc hb=>?_) fun hc hb=>?_)
   rotate_left
   ·refine RC.skip (bJ (aG (RC.region (RL.inc zt zr hk hm zr zr (mv (vi ((av+1:Nat):Int)) zr zr (RL.nil ?_))))))
    obtain rfl:=oi hb
    exact⟨rfl,(ag zr),hw.pk 4 [0,1,2,3] zr⟩
   refine RC.sr (aM (.pointer none) zr zr (aM (vi 12) zr zr (RL.nt (RC.rb (bL ?_)))))
   obtain rfl:=oi hb
   exact⟨rfl,i5 zr zr zr ⟨rfl,hw.drop 4 zr⟩⟩
  ·intro r σ w e hK
   subst e
   refine lf (bL ?_)
   obtain rfl:=oi hb
   exact⟨rfl,hK⟩
  intro a9 σ w e hJ
  subst e
  rw [Fo.eT] at hb
  obtain⟨ha,hw⟩:=hJ
  obtain⟨τ,rfl⟩:=ha.aO
  refine bJ (aG (RC.region (RL.inc zt zr hk hm zr zr (mv (vi ((ao+1:Nat):Int)) zr zr (RL.nil ?_)))))
  obtain rfl:=oi hb
  exact⟨rfl,(ag zr),hw.pk 4 [0,2] zr⟩
 ·intro r σ w e hK
  subst e
  refine bL ?_
  obtain rfl:=oi hb
  exact hK
 intro a8 σ w e hJ
 subst e
 rw [Fo.eT] at hb
 obtain⟨ha,hw⟩:=hJ
 obtain⟨τ,rfl⟩:=ha.aO
 refine aG (RC.sr (RL.aY (i:=0) (f:=(fun x=>x)) zt zr hw zr zr Fd.self uG fun b6 hw=>?_))
 obtain⟨cs,hcs,hv200,hw⟩:=hw.Bc (i:=0) rfl rfl
 obtain⟨a1,a2,a3,a4,rfl⟩:=D3 hcs
 have hw:=hw.iz (i:=0) (k:=0) (f:=fun x=>x.aJ) rfl lF rfl rfl rfl
 have hw:=hw.iz (i:=1) (k:=1) (f:=fun x=>x.bY) rfl sg rfl rfl rfl
 have hw:=hw.iz (i:=2) (k:=2) (f:=fun x=>x.aT) rfl mQ rfl rfl rfl
 have hw:=hw.iz (i:=3) (k:=3) (f:=fun x=>x.bH) rfl pd rfl rfl rfl
 refine RL.B7 (zs:=[(.slice none 0 0),(.slice none 0 0),(.slice none 0 0),(.slice none 0 0),(.slice none 0 0),(.slice none 0 0),(.slice none 0 0),(.slice none 0 0),(.slice none 0 0),(.slice none 0 0),(.slice none 0 0),(.slice none 0 0)]) (cs:=[a1,a2,a3,a4,(.slice none 0 0),(.slice none 0 0),(.slice none 0 0),(.slice none 0 0),(.slice none 0 0),(.slice none 0 0),(.slice none 0 0),(.slice none 0 0)]) zt zr [(0,b6)] [(0,[a1,a2,a3,a4])] zr EB ⟨rfl,(congrArg Value.cells hv200),zt⟩ zr (RL.xN (cs:=[a1,a2,a3,a4,(.slice none 0 0),(.slice none 0 0),(.slice none 0 0),(.slice none 0 0),(.slice none 0 0),(.slice none 0 0),(.slice none 0 0),(.slice none 0 0)]) zt zr hw zr (vF.all (⟨(rO hw (i:=3) zr),(rO hw (i:=2) zr),(rO hw (i:=1) zr),(rO hw (i:=0) zr),zr,zr,zr,zr,zr,zr,zr,zr,zt⟩:vF [a1,a2,a3,a4,(.slice none 0 0),(.slice none 0 0),(.slice none 0 0),(.slice none 0 0),(.slice none 0 0),(.slice none 0 0),(.slice none 0 0),(.slice none 0 0)])) fun ar w hw=>(aM (vp ar 0) zr zr (RL.nq (RC.sr (mv (vp ar 0) zr zr ?_)))))
 have hw:=hw.bV (List aA) 58
 have hw:=hw.bV aD 67
 have hw:=hw.pull (i:=0) rfl
 have hw:=hw.pull (i:=2) rfl
 have hw:=hw.dup (i:=6) rfl
 have hw:=hw.dup (i:=9) rfl
 have hw:=hw.pull (i:=6) rfl
 obtain⟨b7,b8,hb⟩:=bd hb
 refine RL.call zt zr EI [(vp ar 0)] zr (aF (mD N hw b8) ?_)
 rintro _ w ⟨b9,ca,rfl,hw⟩
 refine RL.not (b:=b7.1) zt zr zr (RL.nt (eI hb zr (fun hc hb=>?_) fun hc hb=>?_))
 ·refine RC.sr (aM (.pointer none) zr zr (aM (vi 2) zr zr (RL.nt (RC.rt ?_))))
  obtain rfl:=oi hb
  exact i5 zr zr zr ⟨rfl,hw.drop 14 zr⟩
 refine RC.sx (mv (vp ar 0) zr zr ?_)
 have hw:=hw.freeze (i:=2) rfl
 have hw:=hw.bV (List Int) 53
 have hw:=hw.pull (i:=0) rfl
 have hw:=hw.dup (i:=4) rfl
 have hw:=hw.dup (i:=10) rfl
 have hw:=hw.pull (i:=4) rfl
 obtain⟨cz,cb,hb⟩:=bd hb
 refine RL.call zt zr EL [(vp ar 0)] zr (aF (mE N hw cb) ?_)
 rintro _ w ⟨cc,rfl,hw⟩
 refine RL.ns (mv (vp ar 0) zr zr ?_)
 have hw:=hw.freeze (i:=1) rfl
 have hw:=hw.bV Int 3
 have hw:=hw.bV Int 3
 have hw:=hw.bV Int 3
 have hw:=hw.bV gk 110
 have hw:=hw.pull (i:=0) rfl
 have hw:=hw.pull (i:=2) rfl
 have hw:=hw.pull (i:=4) rfl
 have hw:=hw.pull (i:=6) rfl
 have hw:=hw.dup (i:=9) rfl
 have hw:=hw.dup (i:=14) rfl
 have hw:=hw.dup (i:=19) rfl
 have hw:=hw.dup (i:=21) rfl
 have hw:=hw.pull (i:=12) rfl
 obtain⟨c0,cd,hb⟩:=bd hb
 refine RL.call zt zr EV [(vp ar 0)] zr (aF (jM N hw cd) ?_)
 rintro _ w ⟨cf,ch,cj,ck,cl,rfl,hw⟩
 refine RL.ns (mv (vp ar 0) zr zr (aM (vp ar 0) zr zr (aM (vi 0) zr zr (RL.nt (RC.ret ?_)))))
 obtain rfl:=oi hb
 exact i5 zr zr zr ⟨ar,a1,a2,a3,a4,b9,ca,cc,cf,ch,cj,ck,cl,zr,hw.pk 27 [0,22,21,20,19,14,15,11,1,2,3,4,5] zr⟩
def qO (E:World) (Γ:List HP) (res: (List (List aC))×Int) (v:Value) (w:World):Prop:=∃u0:Value,v = .tuple #[u0,(vi res.2)]∧Holds E w ([own 23 u0 res.1]++Γ)
theorem pJ (N:Nat) {E w:World} {Γ:List HP} {i0:Nat} {v0:Value} {p0:jQ} {res: (List (List aC))×Int} (hw:Holds E w Γ) (h0:Γ[i0]? =some (rd v0 p0)) (hb:fj N p0=some res):
    Calls Tryz.prog 4 [v0].toArray w (fw (qO E Γ res)):=by
 unfold fj at hb
 refine enter Tryz.func4 zr zr (Nat.le_of_ble_eq_true zr) ?_
 have hw:=hw.dup (i:=i0+0) h0
 refine RC.sr (RL.dN (i:=0) (v:=v0) zt zr hw zr zr fun az w hw=>(aM (.slice none 0 0) zr zr (aM (vi 0) zr zr (RL.ns (RL.aY (i:=0) (f:=(fun x=>x)) zt zr hw zr zr Fd.self uG fun ao hw=>?_)))))
 obtain⟨o,aq,hb⟩:=bd hb
 refine RL.call zt zr Cl [ao] zr (aF (kE N (i0:=0) hw zr aq) ?_)
 rintro _ w hK49
 rcases ae:o.1 with _ | aa
 ·replace hb:=B5 ae hb
  obtain⟨rfl,hw⟩:=zA ae hK49
  refine mv (.tuple #[(.pointer none),(vi o.2)]) zr zr (RL.extract (v:=(.pointer none)) zt zr zr zr (RL.extract (v:=(vi o.2)) zt zr zr zr (aM (.pointer none) zr zr (aM (vi o.2) zr zr (RL.nq (RC.sr (mv (vi o.2) zr zr (ic (o.2) 0 zr zr zr zr ?_))))))))
  refine RL.nt (eI hb zr (fun hc hb=>?_) fun hc hb=>?_)
  rotate_left
  ·cases hb
  refine RC.sr (mv (vi o.2) zr zr (aM (.slice none 0 0) zr zr (aM (vi o.2) zr zr (RL.nt (RC.rt ?_)))))
  obtain rfl:=oi hb
  have hw:=hw.bV (List aC) 23
  exact i5 zr zr zr ⟨(.slice none 0 0),zr,hw.pk 4 [0] zr⟩
 replace hb:=B6 ae hb
 obtain⟨af,a0,a1,a2,a3,ah,a4,a5,a6,a7,a8,a9,ba,rfl,hw⟩:=zB ae hK49
 refine mv (.tuple #[(vp af 0),(vi o.2)]) zr zr (RL.extract (v:=(vp af 0)) zt zr zr zr (RL.extract (v:=(vi o.2)) zt zr zr zr (aM (vp af 0) zr zr (aM (vi o.2) zr zr (RL.nq (RC.sr (mv (vi o.2) zr zr (ic (o.2) 0 zr zr zr zr ?_))))))))
 refine RL.nt (eI hb zr (fun hc hb=>?_) fun hc hb=>?_)
 ·refine RC.sr (mv (vi o.2) zr zr (aM (.slice none 0 0) zr zr (aM (vi o.2) zr zr (RL.nt (RC.rt ?_)))))
  obtain rfl:=oi hb
  have hw:=hw.bV (List aC) 23
  exact i5 zr zr zr ⟨(.slice none 0 0),zr,hw.pk 17 [0] zr⟩
 refine RC.sx (aM (.slice none 0 0) zr zr (RL.nq (RC.sr (mv (vp af 0) zr zr (RL.nilCheck zt zr zr (RL.bF zt zr zr xh (RL.bE (i:=0) (v:=ah) zt zr hw zr zr zr Cf (RL.dC (i:=5) (l:=aa.2.2.2.2.1) zt zr hw zr zr Ce ?_))))))))
 refine mv (vi 0) zr zr (RL.nt ?_)
 obtain⟨ab,hN,hb⟩:=bd hb
 refine RC.fold (fun(ai:Nat) (ab: (List (List aC))) (σ:Nat→Value) (w:World)=>∃al:Value,agree σ [(6,al),(20,ah),(21,(vi (aa.2.2.2.2.1.length:Int))),(22,(vi (ai:Int)))]∧Holds E w ([own 58 ah aa.2.2.2.2.1,own 23 al ab]++Γ)) (fun(ab: (List (List aC))) (σ:Nat→Value) (w:World)=>∃ad:Value,agree σ [(6,ad)]∧Holds E w ([own 58 ah aa.2.2.2.2.1,own 23 ad ab]++Γ)) hN ?_ ?_ ?_ ?_
 ·have hw:=hw.bV (List aC) 23
  exact⟨(.slice none 0 0),(ag zr),hw.pk 17 [6,0] zr⟩
 ·intro hm ab σ w hI
  obtain⟨ar,ha,hw⟩:=hI
  obtain⟨τ,rfl⟩:=ha.aO
  refine RC.sr (ic ((aa.2.2.2.2.1.length:Int)) ((aa.2.2.2.2.1.length:Int)) zr zr zr zr (RL.nq (RC.cH lZ (RC.ex ?_))))
  exact⟨rfl,ar,⟨rfl,zt⟩,hw.pk 2 [0,1] zr⟩
 ·intro hm ai ab s' σ w hk hI hb
  obtain⟨au,ha,hw⟩:=hI
  obtain⟨τ,rfl⟩:=ha.aO
  refine RC.sr (ic ((ai:Int)) ((aa.2.2.2.2.1.length:Int)) zr zr zr zr (RL.nq (RC.cG (lY hk) (RC.ss (RC.bs ?_)))))
  obtain⟨bb,aj,hb⟩:=bd hb
  refine RL.bB (i:=0) zt zr hw zr zr zr yD aj (RL.gl (i:=0) (f:=(fun x=>x)) zt zr hw zr (gS hw (i:=0) zr aj 0) zr (aQ aj).2.1 Fd.self Bj fun ak hw=>(aM ak zr zr (RL.nt (RC.region (mv au zr zr (mv ak zr zr ?_))))))
  obtain⟨av,aw,hb⟩:=bd hb
  refine RL.call zt zr zT [ak] zr (aF (fo N (i0:=0) hw zr aw) ?_)
  rintro ax w hw
  have hw:=hw.freeze (i:=0) rfl
  refine RL.dY (l:=([av]: (List (List aC)))) zt zr hw [ax] zr zr zr uH Dg (fun M hs g=>⟨(g.sat 0 _ zr).1,zt⟩) fun bc w hw=>?_
  have hw:=hw.freeze (i:=0) rfl
  obtain⟨bf,ay,hb⟩:=bd hb
  refine RL.app (i:=4) (j:=0) zt zr hw zr zr zr zr Dh ay fun an w hw=>(aM an zr zr (RL.nil (bJ (aG (RC.region (RL.inc zt zr hk hm zr zr (mv (vi ((ai+1:Nat):Int)) zr zr (RL.nil ?_))))))))
  obtain rfl:=oi hb
  exact⟨rfl,an,(ag zr),hw.pk 5 [3,4] zr⟩
 intro σ w hJ
 obtain⟨ad,ha,hw⟩:=hJ
 obtain⟨τ,rfl⟩:=ha.aO
 refine aG (RC.sr (mv ad zr zr (aM ad zr zr (aM (vi 0) zr zr (RL.nt (RC.ret ?_))))))
 obtain rfl:=oi hb
 exact i5 zr zr zr ⟨ad,zr,hw.pk 2 [1] zr⟩
def mJ (E:World) (Γ:List HP) (res:Bool) (v:Value) (w:World):Prop:=v= (vb res)∧Holds E w Γ
theorem gw (N:Nat) {E w:World} {Γ:List HP} {res:Bool} (hw:Holds E w Γ) (hb:cM N=some res):
    Calls Tryz.prog 5 [].toArray w (fw (mJ E Γ res)):=by
 unfold cM at hb
 refine enter Tryz.func5 zr zr (Nat.le_of_ble_eq_true zr) (RC.sr (aM (vb false) zr zr (RL.ns ?_)))
 have hw:=hw.sc (γ:=Int) 2
 refine RL.build (y:=(⟨⟨0,0⟩,2,0,0,false⟩:bD)) trivial rfl hw [(1,(vi 2))] rfl EW rfl (fun M hs g=>by have h:=B8 M;exact cB.cons (f:=fun(x:bD) y=>{x with cD:=y}) rfl h yv (by decide) (g.sat 0 _ rfl).1 fun _ h=>cB.nil h) fun ae hw=>?_
 obtain⟨o,af,hb⟩:=bd hb
 refine RL.call zt zr C1 [ae] zr (aF (lM N (i0:=0) hw zr af) ?_)
 rintro _ w ⟨ad,rfl,hw⟩
 refine mv (.tuple #[ad,(vi o.2)]) zr zr (RL.extract (v:=ad) zt zr zr zr (RL.extract (v:=(vi o.2)) zt zr zr zr (RL.alloc zt zr hw kP.z fun ag w hw=>(RL.bC (i:=0) (j:=1) zt hw zr zr zr zr eM zr fun w hw=>(aM (vi o.2) zr zr (RL.nq ?_))))))
 obtain⟨ab,hj,hb⟩:=bd hb
 refine RC.jn (fun(ab:Bool) (σ:Nat→Value) (w:World)=>agree σ [(0,(vb ab))]∧Holds E w ([]++Γ)) ab ?_ ?_
 ·refine RC.region (mv (vi o.2) zr zr (ic (o.2) 0 zr zr zr zr (mv (vb (o.2==0)) zr zr (fH hj (fun aa hj=>?_) fun aa hj=>?_))))
  rotate_left
  ·refine sk rfl (.inl (cb aa)) rfl (sk rfl (.inl (cb aa)) rfl (sk rfl (.inl (cb aa)) rfl (RL.pick (b:=(o.2==0)) (v:=(vb false)) trivial rfl rfl (by rw [aa];rfl) (aM (vb false) rfl rfl (RL.nil ?_)))))
   obtain rfl:=oi hj
   exact⟨rfl,⟨rfl,zt⟩,hw.pk 4 [] zr⟩
  refine RL.aY (i:=0) (f:=(fun x=>x)) (cg aa) zr hw zr zr Fd.self eM fun ah hw=>?_
  have hw:=hw.sc (γ:=Int) (-1)
  have hw:=hw.sc (γ:=Int) (-1)
  have hw:=hw.sc (γ:=Int) 1
  have hw:=hw.sc (γ:=Int) 1
  refine RL.build (y:=(⟨(-1),(-1),1,1⟩:aC)) (cg aa) rfl hw [(0,(vi (-1))),(1,(vi (-1))),(2,(vi 1)),(3,(vi 1))] rfl yz rfl (fun M hs g=>by have h:=oD M;exact cB.cons (f:=fun(x:aC) y=>{x with X0:=y}) rfl h lB (by decide) (g.sat 3 _ rfl).1 fun _ h=>cB.cons (f:=fun(x:aC) y=>{x with Y0:=y}) rfl h nz (by decide) (g.sat 2 _ rfl).1 fun _ h=>cB.cons (f:=fun(x:aC) y=>{x with X1:=y}) rfl h lC (by decide) (g.sat 1 _ rfl).1 fun _ h=>cB.cons (f:=fun(x:aC) y=>{x with Y1:=y}) rfl h nA (by decide) (g.sat 0 _ rfl).1 fun _ h=>cB.nil h) fun ai hw=>(RL.seq (i:=5) (j:=0) (a:=o.1) (b:=(⟨(-1),(-1),1,1⟩:aC)) (cg aa) rfl hw rfl rfl rfl rfl zU rfl (RL.pick (b:=(o.2==0)) (v:=(vb (decide (o.1= (⟨(-1),(-1),1,1⟩:aC))))) trivial rfl rfl (by rw [aa];rfl) (aM (vb (decide (o.1= (⟨(-1),(-1),1,1⟩:aC)))) rfl rfl (RL.nil ?_))))
  obtain rfl:=oi hj
  exact⟨rfl,⟨rfl,zt⟩,hw.pk 10 [] zr⟩
 rintro σ w ⟨ha,hw⟩
 obtain⟨τ,rfl⟩:=ha.aO
 refine aG (RC.ret ?_)
 obtain rfl:=oi hb
 exact bQ zr zr ⟨rfl,hw.drop 0 zr⟩
end Go.Gk
