/-
  Printed texts: Go functions as plain functions, and that they are. No statement of the seed is proved here.
-/
import Derived.Test.YtgjiokjfpghfgaaGreatDoorG1
import Derived.Test.YtgjiokjfpghfgaaGreatDoorG2
import Derived.Test.YtgjiokjfpghfgaaGreatDoorG3
import Derived.Test.YtgjiokjfpghfgaaGreatDoorA2
set_option linter.unusedVariables false
set_option linter.unusedSimpArgs false
set_option linter.unusedSectionVars false
set_option maxRecDepth 100000
set_option maxHeartbeats 4000000
namespace Go.Gk
open Go Go.Proofs
variable (N:Nat) {E w:World} {b0 i0 i1:Nat} {res:Int} {v0 v0_0 v0_1 v0_10 v0_11 v0_2 v0_3 v0_4 v0_5 v0_6 v0_8 v0_9 v1:Value} {V:List HP}
def mb (E:World) (V:List HP) (b0:Nat) (v0_0 v0_1:Value) (v0_2 v0_3:Value) (v0_4 v0_5 v0_6:Value) (res: (List cL)×(List Int)×(List Int)×(List Int)×(List iN)) (v:Value) (w:World):Prop:=∃u0_7 u0_8 u0_9 u0_10 u0_11:Value,v = .tuple #[]/\Holds E w ([bc 73 b0 [v0_0,v0_1,v0_2,v0_3,v0_4,v0_5,v0_6,u0_7,u0_8,u0_9,u0_10,u0_11],own 123 u0_7 res.1,rd u0_8 res.2.1,rd u0_9 res.2.2.1,own 3 u0_10 res.2.2.2.1,own 125 u0_11 res.2.2.2.2]++V)
theorem lX {p0_2: (List bH)} {p0_3: (List bW)} {p0_5: (List aI)} {p0_6: (List (List Int))} {p0_8: (List Int)} {p0_9: (List Int)} {p0_10: (List Int)} {p0_11: (List iN)} {res: (List cL)×(List Int)×(List Int)×(List Int)×(List iN)} (hw:Holds E w (bc 73 b0 [v0_0,v0_1,v0_2,v0_3,v0_4,v0_5,v0_6,(.slice none 0 0),v0_8,v0_9,v0_10,v0_11]::rd v0_2 p0_2::rd v0_3 p0_3::rd v0_5 p0_5::rd v0_6 p0_6::own 3 v0_8 p0_8::own 3 v0_9 p0_9::own 3 v0_10 p0_10::own 125 v0_11 p0_11::V)) (hb:eI N p0_2 p0_3 p0_5 p0_6 p0_8 p0_9 p0_10 p0_11=some res):
    Calls bG 53 [(vp b0 0)].toArray w (gF (mb E V b0 v0_0 v0_1 v0_2 v0_3 v0_4 v0_5 v0_6 res)):=by
 unfold eI at hb
 refine enter Tryz.func53 zr zr (RC.sr (mv (vp b0 0) (RL.nilCheck zr (RL.bF zr tG (RL.bK 0 v0_5 hw Bh (RL.bO 3 p0_5 hw DN (aN (vi p0_5.length) (RL.ns ?_))))))))
 refine mv (vi p0_5.length) (mv (vp b0 0) (RL.nilCheck zr (RL.bF zr pU (RL.bF zr ma (RL.bK 0 v0_2 hw uq (RL.bO 1 p0_2 hw vX (RL.jV (p0_5.length:Int) (p0_2.length:Int) ?_)))))))
 obtain⟨e7,dt,hb⟩:=bd hb
 refine RL.call zt zr HE [(vi (IntKind.wrap .i64 ((p0_5.length:Int)+ (p0_2.length:Int))))] zr (aD (q9 N (p0:=(IntKind.wrap .i64 ((p0_5.length:Int)+ (p0_2.length:Int)))) hw dt) ?_)
 rintro _ w ⟨ba,du,rfl,hw⟩
 refine aN (vp ba 0) (RL.nq (RC.sr (mv (vp b0 0) (RL.nilCheck zr (RL.bF zr zv (RL.bK 2 v0_6 hw EZ (RL.bO 6 p0_6 hw E0 (mv (vi 0) ?_))))))))
 refine RL.nt ?_
 obtain⟨b1,hN,hb⟩:=bd hb
 refine RC.fold (fun(bk:Nat) (b1: (List Int)) U w=>∃c6:Value,SH E V [(0,vp b0 0),(2,vi p0_5.length),(3,vp ba 0),(35,v0_6),(36,vi p0_6.length),(37,vi bk)] [bc 73 b0 [v0_0,v0_1,v0_2,v0_3,v0_4,v0_5,v0_6,(.slice none 0 0),v0_8,v0_9,v0_10,v0_11],rd v0_2 p0_2,rd v0_3 p0_3,rd v0_5 p0_5,rd v0_6 p0_6,own 3 v0_8 p0_8,own 3 v0_9 p0_9,own 3 v0_10 p0_10,own 125 v0_11 p0_11,bc 154 ba [c6],own 3 c6 b1] U w) (fun(b1: (List Int)) U w=>∃cb:Value,SH E V [(0,vp b0 0),(2,vi p0_5.length),(3,vp ba 0)] [bc 73 b0 [v0_0,v0_1,v0_2,v0_3,v0_4,v0_5,v0_6,(.slice none 0 0),v0_8,v0_9,v0_10,v0_11],rd v0_2 p0_2,rd v0_3 p0_3,rd v0_5 p0_5,rd v0_6 p0_6,own 3 v0_8 p0_8,own 3 v0_9 p0_9,own 3 v0_10 p0_10,own 125 v0_11 p0_11,bc 154 ba [cb],own 3 cb b1] U w) hN ?_ ?_ ?_ ?_
 ·exact⟨du,hw.sp 11 [2,3,4,5,6,7,8,9,10,0,1]⟩
 ·rintro hm b1 _ w ⟨dv,O,rfl,hw⟩
  refine RC.sr (ic ((p0_6.length:Int)) ((p0_6.length:Int)) (RL.nq (RC.dX px (RC.ex ?_))))
  exact⟨rfl,dv,hw.sp 11 [0,1,2,3,4,5,6,7,8,9,10]⟩
 ·rintro hm bk b1 s' _ w hk ⟨dw,O,rfl,hw⟩ hb
  refine RC.sr (ic ((bk:Int)) ((p0_6.length:Int)) (RL.nq (RC.dW (pw hk) (RC.ss (RC.bs (mv (vi bk) ?_))))))
  obtain⟨bu,dx,hb⟩:=bd hb
  refine RL.cQ 4 hw Bi dx fun e8 hw=>(RL.cG 0 bu hw fw fun cc hw=>(aN (vi bk) (aN cc (RL.ns (mv cc (RL.bO 0 bu hw lT (mv (vi 0) (RL.nt ?_))))))))
  obtain⟨b5,hN,hb⟩:=bd hb
  refine RC.fold (fun(cg:Nat) (b5: (List Int)) U w=>∃c7:Value,SH E V [(0,vp b0 0),(2,vi p0_5.length),(3,vp ba 0),(4,vi bk),(35,v0_6),(36,vi p0_6.length),(37,vi bk),(42,cc),(43,vi bu.length),(44,vi cg)] [bc 73 b0 [v0_0,v0_1,v0_2,v0_3,v0_4,v0_5,v0_6,(.slice none 0 0),v0_8,v0_9,v0_10,v0_11],rd v0_2 p0_2,rd v0_3 p0_3,rd v0_5 p0_5,rd v0_6 p0_6,own 3 v0_8 p0_8,own 3 v0_9 p0_9,own 3 v0_10 p0_10,own 125 v0_11 p0_11,bc 154 ba [c7],own 3 c7 b5,rd cc bu] U w) (fun(b5: (List Int)) U w=>∃ch:Value,SH E V [(0,vp b0 0),(2,vi p0_5.length),(3,vp ba 0),(35,v0_6),(36,vi p0_6.length),(37,vi bk)] [bc 73 b0 [v0_0,v0_1,v0_2,v0_3,v0_4,v0_5,v0_6,(.slice none 0 0),v0_8,v0_9,v0_10,v0_11],rd v0_2 p0_2,rd v0_3 p0_3,rd v0_5 p0_5,rd v0_6 p0_6,own 3 v0_8 p0_8,own 3 v0_9 p0_9,own 3 v0_10 p0_10,own 125 v0_11 p0_11,bc 154 ba [ch],own 3 ch b5,rd cc bu] U w) hN ?_ ?_ ?_ ?_
  ·exact⟨dw,hw.sp 13 [2,3,4,5,6,7,8,9,10,11,12,0]⟩
  ·rintro hm b5 _ w ⟨dy,O,rfl,hw⟩
   refine RC.sr (ic ((bu.length:Int)) ((bu.length:Int)) (RL.nq (RC.dX px (RC.ex ?_))))
   exact⟨rfl,dy,hw.sp 12 [0,1,2,3,4,5,6,7,8,9,10,11]⟩
  ·rintro hm cg b5 s' _ w hk ⟨e9,O,rfl,hw⟩ hb
   refine RC.sr (ic ((cg:Int)) ((bu.length:Int)) (RL.nq (RC.dW (pw hk) (RC.ss (RC.bs ?_)))))
   obtain⟨cd,dz,hb⟩:=bd hb
   refine RL.cQ 11 hw fx dz fun fa hw=>(RL.bQ cd 0 hw cV (aN (vi cd) (RL.nt (RC.region (mv (vp ba 0) (mv (vi cd) (mv (vi p0_5.length) (mv (vi bk) ?_))))))))
   refine RL.jV (p0_5.length:Int) (bk:Int) ?_
   have hw:=(hw.pull 11).pull 11
   obtain⟨fb,d3,hb⟩:=bd hb
   refine RL.call zt zr HF [(vp ba 0),(vi cd),(vi (IntKind.wrap .i64 ((p0_5.length:Int)+ (bk:Int))))] zr (aD (pF N (p1:=cd) (p2:=(IntKind.wrap .i64 ((p0_5.length:Int)+ (bk:Int)))) hw d3) ?_)
   rintro _ w ⟨d4,rfl,hw⟩
   refine RL.nil (bZ (aJ (RC.region (RL.inc hk hm (mv (vi ((cg+1:Nat):Int)) (RL.nil ?_))))))
   obtain rfl:=oi hb
   exact⟨rfl,d4,hw.sp 15 [3,4,5,6,7,8,9,10,11,0,1,14]⟩
  rintro _ w ⟨ch,O,rfl,hw⟩
  refine bZ (aJ (RC.region (RL.inc hk hm (mv (vi ((bk+1:Nat):Int)) (RL.nil ?_)))))
  obtain rfl:=oi hb
  exact⟨rfl,ch,hw.sp 12 [0,1,2,3,4,5,6,7,8,9,10]⟩
 rintro _ w ⟨cb,O,rfl,hw⟩
 refine aJ (RC.seq ?_)
 obtain⟨d5,d6,hb⟩:=bd hb
 obtain⟨d7,d8,hb⟩:=bd hb
 refine RC.Dq E V mixed [1,1,1,0,1,1,1,1,0,0,0,1,1,0,1,1,0] [3,10,13,16] (fun(x:Value×Value)=>(fun an ao=>[(0,56,(vp b0 0)),(1,57,(vp b0 0)),(2,58,(vi p0_5.length)),(3,59,an),(4,60,(vp b0 0)),(5,61,(vp b0 0)),(6,62,(vp b0 0)),(7,63,(vp b0 2)),(8,64,v0_2),(9,65,(vi p0_2.length)),(10,66,ao),(11,67,(vp b0 0)),(12,68,(vp b0 8)),(14,69,(vp b0 0)),(15,70,(vp b0 9))]) x.1 x.2) [(0,vp b0 0),(2,vi p0_5.length),(3,vp ba 0)] [] (fun(D:Nat->Bool) (x:Value×Value)=>(fun an ao=>[bif D 0 then (own 3 an d5) else aX,bif D 1 then (own 3 ao d7) else aX,bif D 3 then (bc 73 b0 [v0_0,v0_1,v0_2,v0_3,v0_4,v0_5,v0_6,(.slice none 0 0),an,ao,v0_10,v0_11]) else (bif D 2 then (bc 73 b0 [v0_0,v0_1,v0_2,v0_3,v0_4,v0_5,v0_6,(.slice none 0 0),an,v0_9,v0_10,v0_11]) else (bc 73 b0 [v0_0,v0_1,v0_2,v0_3,v0_4,v0_5,v0_6,(.slice none 0 0),v0_8,v0_9,v0_10,v0_11])),rd v0_2 p0_2,rd v0_3 p0_3,rd v0_5 p0_5,rd v0_6 p0_6,own 3 v0_8 p0_8,own 3 v0_9 p0_9,own 3 v0_10 p0_10,own 125 v0_11 p0_11,bc 154 ba [cb],own 3 cb b1]) x.1 x.2) (fun x=>by kernel_rfl) ?_ ⟨fun _=>jJ gn,fun _=>jJ gn,fun _=>jJ gn,?_,fun _=>jJ gn,fun _=>wZ gn,fun _=>nK gn pU,fun _=>nK gn ma,?_,?_,?_,fun _=>wZ gn,fun _=>nK gn zw,?_,fun _=>wZ gn,fun _=>nK gn xl,?_,trivial⟩ ?_
 ·have hw:=((hw.drew).aX).aX
  exact⟨(undef,undef),eC.none,(B1 zr),zt,hw⟩
 ·rintro D U w hD af ad ⟨⟨an,ao⟩,hv,ha,_,hw⟩
  obtain⟨O,rfl⟩:=(ac (hv.at 2 rfl (af.1 rfl)) az).fG
  have hw:=((hw.bP 0 hD).bP 2 (nh ad hD 16)).bP 2 (nh ad hD 13)
  refine RL.mk (p0_5.length:Int) zr hw zr zr tE FD d6 fun cw w hw=>?_
  have hw:=(((hw.pl 14 [0,2,3,4,5,6,7,8,9,10,11,12,13]).cC 0 true rfl aX).eP 2 (D 13) (nh ad hD 13) (bc 73 b0 [v0_0,v0_1,v0_2,v0_3,v0_4,v0_5,v0_6,(.slice none 0 0),cw,v0_9,v0_10,v0_11])).eP 2 (D 16) (nh ad hD 16) (bc 73 b0 [v0_0,v0_1,v0_2,v0_3,v0_4,v0_5,v0_6,(.slice none 0 0),cw,ao,v0_10,v0_11])
  exact RL.nil ⟨rfl,(cw,ao),hv.pu 3,ha.u,zt,hw⟩
 ·rintro D U w hD af ad ⟨⟨an,ao⟩,hv,ha,_,hw⟩
  obtain⟨O,rfl⟩:=(ac (hv.at 7 rfl (af.1 rfl)) az).fG
  have hw:=(hw.bP 2 (nh ad hD 16)).bP 2 (nh ad hD 13)
  refine RL.bK 2 v0_2 hw uq ?_
  have hw:=(hw.eP 2 (D 13) (nh ad hD 13) (bc 73 b0 [v0_0,v0_1,v0_2,v0_3,v0_4,v0_5,v0_6,(.slice none 0 0),an,v0_9,v0_10,v0_11])).eP 2 (D 16) (nh ad hD 16) (bc 73 b0 [v0_0,v0_1,v0_2,v0_3,v0_4,v0_5,v0_6,(.slice none 0 0),an,ao,v0_10,v0_11])
  exact RL.nil ⟨rfl,(an,ao),hv.pu 8,ha.u,zt,hw⟩
 ·rintro D U w hD af ad ⟨⟨an,ao⟩,hv,ha,_,hw⟩
  obtain⟨O,rfl⟩:=(ac (hv.at 8 rfl (af.1 rfl)) az).fG
  refine RL.bO 3 p0_2 hw vX ?_
  exact RL.nil ⟨rfl,(an,ao),hv.pu 9,ha.u,zt,hw⟩
 ·rintro D U w hD af ad ⟨⟨an,ao⟩,hv,ha,_,hw⟩
  obtain⟨O,rfl⟩:=(ac (hv.at 9 rfl (af.1 rfl)) az).fG
  have hw:=(hw.bP 1 hD).bP 2 (nh ad hD 16)
  refine RL.mk (p0_2.length:Int) zr hw zr zr tE FD d8 fun c8 w hw=>?_
  have hw:=((hw.pl 14 [1,0,3,4,5,6,7,8,9,10,11,12,13]).cC 1 true rfl aX).eP 2 (D 16) (nh ad hD 16) (bc 73 b0 [v0_0,v0_1,v0_2,v0_3,v0_4,v0_5,v0_6,(.slice none 0 0),an,c8,v0_10,v0_11])
  exact RL.nil ⟨rfl,(an,c8),hv.pu 10,ha.u,zt,hw⟩
 ·rintro D U w hD af ad ⟨⟨an,ao⟩,hv,ha,_,hw⟩
  obtain⟨O,rfl⟩:=(ac (hv.at 3 rfl (af.2.1 rfl)) (ac (hv.at 12 rfl (af.1 rfl)) az)).fG
  have hw:=((hw.cB 0 (af.2.1 rfl)).bP 2 (nh ad hD 16)).bP 2 hD
  refine RL.gj 2 an hw zr zr (dP 0 hw) fw fun w hw=>?_
  have hw:=((hw.cC 0 (D 3) (af.2.1 rfl) aX).cC 2 true rfl (bc 73 b0 [v0_0,v0_1,v0_2,v0_3,v0_4,v0_5,v0_6,(.slice none 0 0),v0_8,v0_9,v0_10,v0_11])).eP 2 (D 16) (nh ad hD 16) (bc 73 b0 [v0_0,v0_1,v0_2,v0_3,v0_4,v0_5,v0_6,(.slice none 0 0),an,ao,v0_10,v0_11])
  exact RL.nil ⟨rfl,(an,ao),hv.n1,ha,zt,hw⟩
 ·rintro D U w hD af ad ⟨⟨an,ao⟩,hv,ha,_,hw⟩
  obtain⟨O,rfl⟩:=(ac (hv.at 10 rfl (af.2.1 rfl)) (ac (hv.at 14 rfl (af.1 rfl)) az)).fG
  have hw:=((hw.cB 1 (af.2.1 rfl)).bP 2 hD).cB 2 (af.2.2.1 rfl)
  refine RL.gj 2 ao hw zr zr (dP 1 hw) fw fun w hw=>?_
  have hw:=(hw.cC 1 (D 10) (af.2.1 rfl) aX).cC 2 true rfl (bif D 13 then (bc 73 b0 [v0_0,v0_1,v0_2,v0_3,v0_4,v0_5,v0_6,(.slice none 0 0),an,v0_9,v0_10,v0_11]) else (bc 73 b0 [v0_0,v0_1,v0_2,v0_3,v0_4,v0_5,v0_6,(.slice none 0 0),v0_8,v0_9,v0_10,v0_11]))
  exact RL.nil ⟨rfl,(an,ao),hv.n1,ha,zt,hw⟩
 rintro D U w a8 ⟨⟨an,ao⟩,hv,ha,_,hw⟩
 have hw:=((hw.cB 0 (kS a8 3)).cB 1 (kS a8 10)).cB 2 (kS a8 16)
 obtain⟨O,rfl⟩:=(ac (ha.at 0 rfl) (ac (ha.at 1 rfl) (ac (ha.at 2 rfl) az))).fG
 refine aJ (RC.seq (RC.sr (mv (vp ba 0) ?_)))
 have hw:=(hw.pull 12).pull 12
 obtain⟨a9,d9,hb⟩:=bd hb
 refine RL.call zt zr HG [(vp ba 0)] zr (aD (pG N hw d9) ?_)
 rintro bl w ⟨_,fc,rfl,hw⟩
 refine RL.fU 0 a9.1 hw E0 (mv (vi 0) (RL.nt ?_))
 obtain⟨a6,hN,hb⟩:=bd hb
 refine RC.fold (fun(bp:Nat) (a6: (List cL)×(List Int)×(List Int)) U w=>∃(c9:Value) (us442:List bN),SH E V [(0,vp b0 0),(2,vi p0_5.length),(72,bl),(73,vi a9.1.length),(74,vi bp)] [bc 73 b0 [v0_0,v0_1,v0_2,v0_3,v0_4,v0_5,v0_6,c9,an,ao,v0_10,v0_11],own 123 c9 us442,hL bL us442 a6.1 none,rd v0_2 p0_2,rd v0_3 p0_3,rd v0_5 p0_5,rd v0_6 p0_6,own 3 an a6.2.1,own 3 ao a6.2.2,own 3 v0_10 p0_10,own 125 v0_11 p0_11,own 70 bl a9.1] U w) (fun(a6: (List cL)×(List Int)×(List Int)) U w=>∃(ak:Value) (us444:List bN),SH E V [(0,vp b0 0)] [bc 73 b0 [v0_0,v0_1,v0_2,v0_3,v0_4,v0_5,v0_6,ak,an,ao,v0_10,v0_11],own 123 ak us444,hL bL us444 a6.1 none,rd v0_2 p0_2,rd v0_3 p0_3,rd v0_5 p0_5,rd v0_6 p0_6,own 3 an a6.2.1,own 3 ao a6.2.2,own 3 v0_10 p0_10,own 125 v0_11 p0_11,own 70 bl a9.1] U w) hN ?_ ?_ ?_ ?_
 ·have hw:=(hw.wV bL).dD bN 123
  exact⟨(.slice none 0 0),([]:List bN),hw.sp 18 [7,0,1,8,9,10,11,5,6,14,15,2]⟩
 ·rintro hm a6 _ w ⟨ea,us604,O,rfl,hw⟩
  refine RC.sr (ic ((a9.1.length:Int)) ((a9.1.length:Int)) (RL.nq (RC.dX px (RC.ex ?_))))
  exact⟨rfl,ea,us604,hw.sp 12 [0,1,2,3,4,5,6,7,8,9,10,11]⟩
 ·rintro hm bp a6 s' _ w hk ⟨bh,us446,O,rfl,hw⟩ hb
  refine RC.sr (ic ((bp:Int)) ((a9.1.length:Int)) (RL.nq (RC.dW (pw hk) (RC.ss (RC.bs ?_)))))
  obtain⟨bn,cx,hb⟩:=bd hb
  refine RL.bM 11 hw zr zr Bi cx (RL.kj (f:=(fun x=>x)) 11 hw (jQ 11 hw cx 0) (aY cx).2.1 Fd.self fw fun bq hw=>?_)
  refine aN bq (RL.ns (RL.nW hw Gd fun bw w hw=>?_))
  refine RL.nq (RC.sr (mv bq (RL.bO 1 bn hw lT (mv (vi 0) (RL.nt ?_)))))
  obtain⟨au,hN,hb⟩:=bd hb
  refine RC.fold (fun(b6:Nat) (au: (List Int)×(List Int)×(List Int)×(List Int)) U w=>∃da db:Value,SH E V [(0,vp b0 0),(2,vi p0_5.length),(10,vp bw 0),(72,bl),(73,vi a9.1.length),(74,vi bp),(78,bq),(79,vi bn.length),(80,vi b6)] [bc 73 b0 [v0_0,v0_1,v0_2,v0_3,v0_4,v0_5,v0_6,bh,an,ao,v0_10,v0_11],rd v0_2 p0_2,rd v0_3 p0_3,rd v0_5 p0_5,rd v0_6 p0_6,own 123 bh us446,hL bL us446 a6.1 none,own 3 an au.1,own 3 ao au.2.1,own 3 v0_10 p0_10,own 125 v0_11 p0_11,bc 123 bw [da,db,(.slice none 0 0)],own 3 da au.2.2.1,own 3 db au.2.2.2,own 70 bl a9.1,rd bq bn] U w) (fun(au: (List Int)×(List Int)×(List Int)×(List Int)) U w=>∃bz br:Value,SH E V [(0,vp b0 0),(2,vi p0_5.length),(10,vp bw 0),(72,bl),(73,vi a9.1.length),(74,vi bp)] [bc 73 b0 [v0_0,v0_1,v0_2,v0_3,v0_4,v0_5,v0_6,bh,an,ao,v0_10,v0_11],rd v0_2 p0_2,rd v0_3 p0_3,rd v0_5 p0_5,rd v0_6 p0_6,own 123 bh us446,hL bL us446 a6.1 none,own 3 an au.1,own 3 ao au.2.1,own 3 v0_10 p0_10,own 125 v0_11 p0_11,bc 123 bw [bz,br,(.slice none 0 0)],own 3 bz au.2.2.1,own 3 br au.2.2.2,own 70 bl a9.1,rd bq bn] U w) hN ?_ ?_ ?_ ?_
  ·have hw:=(hw.dD Int 3).dD Int 3
   exact⟨(.slice none 0 0),(.slice none 0 0),hw.sp 16 [4,7,8,9,10,5,6,11,12,13,14,2,1,0,15,3]⟩
  ·rintro hm au _ w ⟨eb,ec,O,rfl,hw⟩
   refine RC.sr (ic ((bn.length:Int)) ((bn.length:Int)) (RL.nq (RC.dX px (RC.ex ?_))))
   exact⟨rfl,eb,ec,hw.sp 16 [0,1,2,3,4,5,6,7,8,9,10,11,12,13,14,15]⟩
  ·rintro hm b6 au s' _ w hk ⟨cj,cy,O,rfl,hw⟩ hb
   refine RC.sr (ic ((b6:Int)) ((bn.length:Int)) (RL.nq (RC.dW (pw hk) (RC.ss (RC.bs ?_)))))
   obtain⟨a3,ed,hb⟩:=bd hb
   refine RL.cQ 15 hw fx ed fun fe hw=>(RL.bQ a3 0 hw cV (aN (vi a3) (RL.nt (RC.bs (mv (vi a3) (mv (vi p0_5.length) (ic a3 ((p0_5.length:Int)) (aN (vb (decide (a3< (p0_5.length:Int)))) ?_))))))))
   refine RL.nt ?_
   obtain⟨b7,hj,hb⟩:=bd hb
   refine RC.jn (fun(b7: (List Int)×(List Int)×(List Int)×(List Int)) U w=>∃ck cl:Value,SH E V [(0,vp b0 0),(2,vi p0_5.length),(10,vp bw 0),(72,bl),(73,vi a9.1.length),(74,vi bp),(78,bq),(79,vi bn.length),(80,vi b6)] [bc 73 b0 [v0_0,v0_1,v0_2,v0_3,v0_4,v0_5,v0_6,bh,an,ao,v0_10,v0_11],rd v0_2 p0_2,rd v0_3 p0_3,rd v0_5 p0_5,rd v0_6 p0_6,own 123 bh us446,hL bL us446 a6.1 none,own 3 an b7.1,own 3 ao b7.2.1,own 3 v0_10 p0_10,own 125 v0_11 p0_11,bc 123 bw [ck,cl,(.slice none 0 0)],own 3 ck b7.2.2.1,own 3 cl b7.2.2.2,own 70 bl a9.1,rd bq bn] U w) b7 ?_ ?_
   ·refine fZ hj (fun hc hj=>?_) fun hc hj=>?_
    ·refine RC.seq (RC.Ah mixed [0,0,0,0,0,0,0,0,0,0,0,2] [0,1,2,3,4,5,6,7,8,9,10,11] ?_)
     have hw:=hw.drew
     refine DP.e0 zr (mv (vp b0 0) (dJ zr (RL.nilCheck zr (dJ zr (RL.bF zr zw (dJ zr (RL.bK 1 an hw fw (dJ zr ?_))))))))
     refine mv (vi a3) (dJ zr (mv (vp b0 0) (dJ zr (RL.nilCheck zr (dJ zr (RL.bF zr tH (dJ zr (RL.bK 1 bh hw Bj ?_))))))))
     refine dJ zr (RL.pL 6 7 a6.1 zr hw zr zr zr Ge (dJ zr ?_))
     obtain⟨ff,cz,hj⟩:=bd hj
     refine RL.bM 8 hw zr zr fx cz (uB zr ?_)
     have hw:=hw.sc Int (a6.1.length:Int)
     refine RL.fJ (f:=(fun _ y=>y)) 9 0 hw (jQ 9 hw cz 0) (aY cz).2.1 zr Fs.self cV fun w hw=>?_
     refine DP.d2 zt (DP.z (aJ (RC.region (RL.bF zr xm (RL.bK 13 cj hw fw (mv (vi a3) ?_))))))
     have hw:=hw.sc Int a3
     refine RL.fI ([a3]: (List Int)) hw [(vi a3)] fx Dr (fun M hs g=>⟨(g.sat 0 _ zr).1,zt⟩) fun fg w hw=>?_
     have hw:=hw.freeze 0
     obtain⟨fh,ee,hj⟩:=bd hj
     refine RL.app 16 0 hw tE ee fun dc w hw=>?_
     refine RL.bF zr xm (RL.gj 15 dc hw zr zr (dP 16 hw) fw fun w hw=>?_)
     refine RL.nil ?_
     obtain rfl:=oi hj
     exact⟨rfl,dc,cy,hw.sp 20 [4,5,6,7,8,9,10,11,12,13,14,15,16,17,18,19]⟩
    refine RC.sr (mv (vp b0 0) (RL.nilCheck zr (RL.bF zr pU (RL.bF zr ma (RL.bK 1 v0_2 hw uq (mv (vi a3) (mv (vi p0_5.length) (RL.jV a3 (p0_5.length:Int) ?_))))))))
    obtain⟨dd,ef,hj⟩:=bd hj
    refine RL.cQ 2 hw xf ef fun fi hw=>(RL.iT 0 hw zr zu tx fun fj hw=>(RL.bQ dd.iF 0 hw GO (aN (vb dd.iF) (RL.nt ?_))))
    obtain⟨cm,hjj,hj⟩:=bd hj
    refine RC.jn (fun(cm: (List Int)×(List Int)) U w=>∃cn:Value,SH E V [(0,vp b0 0),(2,vi p0_5.length),(10,vp bw 0),(72,bl),(73,vi a9.1.length),(74,vi bp),(78,bq),(79,vi bn.length),(80,vi b6)] [bc 73 b0 [v0_0,v0_1,v0_2,v0_3,v0_4,v0_5,v0_6,bh,an,ao,v0_10,v0_11],rd v0_2 p0_2,rd v0_3 p0_3,rd v0_5 p0_5,rd v0_6 p0_6,own 123 bh us446,hL bL us446 a6.1 none,own 3 an au.1,own 3 ao cm.1,own 3 v0_10 p0_10,own 125 v0_11 p0_11,bc 123 bw [cj,cn,(.slice none 0 0)],own 3 cn cm.2,own 3 cj au.2.2.1,own 70 bl a9.1,rd bq bn] U w) cm ?_ ?_
    ·refine fZ hjj (fun hc hjj=>?_) fun hc hjj=>?_
     rotate_left
     ·refine RC.region (mv (vp b0 0) (RL.nilCheck zr (RL.bF zr xl (RL.bK 3 ao hw fw (mv (vi a3) (mv (vi p0_5.length) (RL.jV a3 (p0_5.length:Int) ?_)))))))
      obtain⟨fk,c0,hjj⟩:=bd hjj
      refine RL.bM 11 hw zr zr fx c0 ?_
      have hw:=hw.sc Int (-1)
      refine RL.fJ (f:=(fun _ y=>y)) 12 0 hw (jQ 12 hw c0 0) (aY c0).2.1 zr Fs.self cV fun w hw=>?_
      refine RL.nil ?_
      obtain rfl:=oi hjj
      exact⟨rfl,cy,hw.sp 20 [4,5,6,7,8,9,10,11,12,13,14,15,17,16,18,19]⟩
     refine RC.seq (RC.Ah mixed [0,0,0,0,0,0,0,0,0,0,0,0,0,2] [0,1,2,3,4,5,6,7,8,9,10,11,12,13] ?_)
     have hw:=hw.drew
     refine DP.e0 zr (mv (vp b0 0) (dJ zr (RL.nilCheck zr (dJ zr (RL.bF zr xl (dJ zr (RL.bK 3 ao hw fw (dJ zr ?_))))))))
     refine mv (vi a3) (dJ zr (mv (vi p0_5.length) (dJ zr (RL.jV a3 (p0_5.length:Int) (dJ zr (mv (vp b0 0) (dJ zr (RL.nilCheck zr ?_))))))))
     refine dJ zr (RL.bF zr tH (dJ zr (RL.bK 3 bh hw Bj (dJ zr (RL.pL 8 9 a6.1 zr hw zr zr zr Ge (dJ zr ?_))))))
     obtain⟨fl,c1,hjj⟩:=bd hjj
     refine RL.bM 11 hw zr zr fx c1 (uB zr ?_)
     have hw:=hw.sc Int (a6.1.length:Int)
     refine RL.fJ (f:=(fun _ y=>y)) 12 0 hw (jQ 12 hw c1 0) (aY c1).2.1 zr Fs.self cV fun w hw=>?_
     refine DP.d2 zt (DP.z (aJ (RC.region (RL.bF zr xn (RL.bK 15 cy hw fw (mv (vi a3) (mv (vi p0_5.length) (RL.jV a3 (p0_5.length:Int) ?_))))))))
     have hw:=hw.sc Int (IntKind.wrap .i64 (a3 - (p0_5.length:Int)))
     refine RL.fI ([(IntKind.wrap .i64 (a3 - (p0_5.length:Int)))]: (List Int)) hw [(vi (IntKind.wrap .i64 (a3 - (p0_5.length:Int))))] fx Dr (fun M hs g=>⟨(g.sat 0 _ zr).1,zt⟩) fun fm w hw=>?_
     have hw:=hw.freeze 0
     obtain⟨fo,eg,hjj⟩:=bd hjj
     refine RL.app 19 0 hw tE eg fun de w hw=>?_
     refine RL.bF zr xn (RL.gj 17 de hw zr zr (dP 19 hw) fw fun w hw=>?_)
     refine RL.nil ?_
     obtain rfl:=oi hjj
     exact⟨rfl,de,hw.sp 22 [6,7,8,9,10,11,12,13,14,15,16,17,19,18,20,21]⟩
    rintro _ w ⟨cn,O,rfl,hw⟩
    obtain rfl:=oi hj
    exact⟨rfl,cj,cn,hw.sp 16 [0,1,2,3,4,5,6,7,8,9,10,11,13,12,14,15]⟩
   rintro _ w ⟨ck,cl,O,rfl,hw⟩
   refine bZ (bZ (aJ (RC.region (RL.inc hk hm (mv (vi ((b6+1:Nat):Int)) (RL.nil ?_))))))
   obtain rfl:=oi hb
   exact⟨rfl,ck,cl,hw.sp 16 [0,1,2,3,4,5,6,7,8,9,10,11,12,13,14,15]⟩
  rintro _ w ⟨bz,br,O,rfl,hw⟩
  refine aJ (RC.sr (RL.bF zr xm (RL.bK 11 bz hw fw (RL.fU 12 au.2.2.1 hw lT (RL.bF zr xn (RL.bK 11 br hw fw (RL.fU 13 au.2.2.2 hw lT (RL.jV (au.2.2.1.length:Int) (au.2.2.2.length:Int) ?_))))))))
  refine ic ((IntKind.wrap .i64 ((au.2.2.1.length:Int)+ (au.2.2.2.length:Int)))) 0 (RL.nt ?_)
  obtain⟨c2,hj,hb⟩:=bd hb
  refine RC.jn (fun(c2: (List cL)) U w=>∃(cp:Value) (us598:List bN),SH E V [(0,vp b0 0),(2,vi p0_5.length),(72,bl),(73,vi a9.1.length),(74,vi bp)] [bc 73 b0 [v0_0,v0_1,v0_2,v0_3,v0_4,v0_5,v0_6,cp,an,ao,v0_10,v0_11],own 123 cp us598,hL bL us598 c2 none,rd v0_2 p0_2,rd v0_3 p0_3,rd v0_5 p0_5,rd v0_6 p0_6,own 3 an au.1,own 3 ao au.2.1,own 3 v0_10 p0_10,own 125 v0_11 p0_11,own 70 bl a9.1] U w) c2 ?_ ?_
  ·refine fZ hj (fun hc hj=>?_) fun hc hj=>?_
   rotate_left
   ·refine RC.skip ?_
    obtain rfl:=oi hj
    exact⟨rfl,bh,us446,hw.sp 16 [0,5,6,1,2,3,4,7,8,9,10,14]⟩
   have hw:=hw.drew
   refine RC.A3 (fun w=>Holds E w ([bc 73 b0 [v0_0,v0_1,v0_2,v0_3,v0_4,v0_5,v0_6,bh,an,ao,v0_10,v0_11]]++V)) mixed zr [1,1,1,1,1,0,2,2,0,0,2] [0,1,2,3,4,5,6,7,8,9,10] (hw.pk 16 [0]) (DP.e1 (vp b0 0) zr (fun w=>RL.move (vp b0 0) zt DP.d1) (DP.e1 (vp b0 0) zr (fun w=>RL.move (vp b0 0) zt DP.d1) (DP.e1 (vp b0 0) zr (fun w=>RL.nilCheck zr DP.d1) (DP.e1 (vp b0 7) zr (fun w=>RL.bF zr tH DP.d1) (DP.DH bh zr (fun w hw=>RL.bK 0 bh hw Bj DP.d1) (DP.e0 zr (RL.yf (cs:=[bz,br,(.slice none 0 0)]) 11 zt zr hw zr zr Gf zr (uB zr ?_))))))))
   have hw:=((((hw.dD fH 29).Aa (i:=0) rfl).freeze 14).freeze 15).mF (cs:=[bz,br,(.slice none 0 0)]) (x:=(⟨au.2.2.1,au.2.2.2,(rv (.slice none 0 0))⟩:bN)) (fun M hs g=>⟨[bz],[br,(.slice none 0 0)],rfl,(cF (g.sat 14 _ rfl).1),⟨[br],[(.slice none 0 0)],rfl,(cF (g.sat 15 _ rfl).1),(cF (g.sat 0 _ rfl).1)⟩⟩) rfl
   refine RL.fI ([(⟨au.2.2.1,au.2.2.2,(rv (.slice none 0 0))⟩:bN)]:List bN) hw [(.agg ([bz,br,(.slice none 0 0)]:List Value).toArray)] E1 Gg (fun M hs g=>⟨(g.sat 0 _ zr).1,zt⟩) fun fp w hw=>(DP.d2 (hw.pk 20 [4]) (DP.e2 zr ?_))
   obtain⟨fq,eh,hj⟩:=bd hj
   have hw:=hw.freeze 0
   refine RL.A0 (i:=9) (j:=0) (b:=10) (o:=3) (X:=bL) (ur:=(⟨au.2.2.1,au.2.2.2,(rv (.slice none 0 0))⟩:bN)) (xr:=(⟨au.2.2.1,au.2.2.2,([]: (List fH))⟩:cL)) (u:=(.slice none 0 0)) (y:=([]: (List fH))) (fun _ _ ho=>⟨⟨rfl,rfl⟩,ho⟩) trivial rfl hw rfl rfl rfl rfl rfl rfl (by decide) (by decide) (by decide) HH eh fun df w hw=>?_
   refine DP.d2 (hw.pk 20 [4]) (DP.e0 zr (RL.nilCheck zr (dJ zr (RL.bF zr tH (DP.d0 (DP.G4 zr zr (RL.gj 4 df hw zr zr (dP 9 hw) Bj fun w hw=>?_)))))))
   refine DP.d2 zt (DP.z ?_)
   obtain rfl:=oi hj
   exact⟨rfl,df,(us446++[(⟨au.2.2.1,au.2.2.2,(rv (.slice none 0 0))⟩:bN)]),hw.sp 20 [4,9,10,5,6,7,8,11,12,13,14,18]⟩
  rintro _ w ⟨cp,us598,O,rfl,hw⟩
  refine bZ (aJ (RC.region (RL.inc hk hm (mv (vi ((bp+1:Nat):Int)) (RL.nil ?_)))))
  obtain rfl:=oi hb
  exact⟨rfl,cp,us598,hw.sp 12 [0,1,2,3,4,5,6,7,8,9,10,11]⟩
 rintro _ w ⟨ak,us444,O,rfl,hw⟩
 refine aJ (RC.sr (mv (vp b0 0) (RL.nilCheck zr (RL.bF zr pU (RL.bF zr rI (RL.bK 0 v0_3 hw zn (RL.bO 4 p0_3 hw Cn (mv (vi 0) ?_))))))))
 refine RL.nt ?_
 obtain⟨aj,hN,hb⟩:=bd hb
 refine RC.fold (fun(b3:Nat) (aj: (List cL)×(List Int)×(List Int)×(List Int)×(List iN)) U w=>∃(dg dh:Value) (di dj:Value) (us819:List bN),SH E V [(0,vp b0 0),(170,v0_3),(171,vi p0_3.length),(172,vi b3)] [bc 73 b0 [v0_0,v0_1,v0_2,v0_3,v0_4,v0_5,v0_6,ak,dg,dh,di,dj],rd dg aj.2.1,rd dh aj.2.2.1,own 3 di aj.2.2.2.1,own 125 dj aj.2.2.2.2,rd v0_2 p0_2,rd v0_3 p0_3,rd v0_5 p0_5,rd v0_6 p0_6,own 123 ak us819,hL bL us819 aj.1 none] U w) (fun(aj: (List cL)×(List Int)×(List Int)×(List Int)×(List iN)) U w=>∃(cq cr:Value) (ct cu:Value) (us824:List bN),SH E V [(0,vp b0 0)] [bc 73 b0 [v0_0,v0_1,v0_2,v0_3,v0_4,v0_5,v0_6,ak,cq,cr,ct,cu],rd cq aj.2.1,rd cr aj.2.2.1,own 3 ct aj.2.2.2.1,own 125 cu aj.2.2.2.2,rd v0_2 p0_2,rd v0_3 p0_3,rd v0_5 p0_5,rd v0_6 p0_6,own 123 ak us824,hL bL us824 aj.1 none] U w) hN ?_ ?_ ?_ ?_
 ·have hw:=(hw.freeze 7).freeze 8
  exact⟨an,ao,v0_10,v0_11,us444,hw.sp 12 [0,7,8,9,10,3,4,5,6,1,2]⟩
 ·rintro hm aj _ w ⟨ei,ej,ek,el,us932,O,rfl,hw⟩
  refine RC.sr (ic ((p0_3.length:Int)) ((p0_3.length:Int)) (RL.nq (RC.dX px (RC.ex ?_))))
  exact⟨rfl,ei,ej,ek,el,us932,hw.sp 11 [0,1,2,3,4,5,6,7,8,9,10]⟩
 ·rintro hm b3 aj s' _ w hk ⟨a4,a5,bm,a7,us829,O,rfl,hw⟩ hb
  refine RC.sr (ic ((b3:Int)) ((p0_3.length:Int)) (RL.nq (RC.dW (pw hk) (RC.ss (RC.bs ?_)))))
  obtain⟨b8,en,hb⟩:=bd hb
  refine RL.cQ 6 hw Bg en fun eo hw=>(RL.cG 0 b8 hw uX fun ep hw=>(RL.alloc hw EV.z fun dk w hw=>?_))
  refine RL.aZ 0 hw 1 zr uX fun w hw=>?_
  refine RL.ns (mv (vp b0 0) (RL.aR (f:=(fun x=>x)) 0 hw zr Fd.self uX fun dm hw=>?_))
  have hw:=((hw.dup 11 rfl).dup 10 rfl).pull 6
  obtain⟨bb,er,hb⟩:=bd hb
  refine RL.call zt zr HI [(vp b0 0),dm] zr (aD (pI N (i1:=0) hw zr er) ?_)
  rintro _ w ⟨c3,rfl,hw⟩
  refine mv (.tuple #[c3,(vb bb.2)]) (RL.extract c3 (RL.extract (vb bb.2) (RL.alloc hw Cx.z fun b9 w hw=>?_)))
  refine RL.aZ 0 hw 1 zr sE fun w hw=>?_
  refine aN (vb bb.2) (RL.ns (aN (vi (-1)) (RL.nq (RC.sr (mv (vb bb.2) (RL.nt ?_))))))
  obtain⟨bj,hj,hb⟩:=bd hb
  refine RC.jn (fun(bj: (List cL)×Int) U w=>∃(us877:List bN),SH E V [(0,vp b0 0),(15,vp b9 0),(17,vi bj.2),(170,v0_3),(171,vi p0_3.length),(172,vi b3)] [bc 73 b0 [v0_0,v0_1,v0_2,v0_3,v0_4,v0_5,v0_6,ak,a4,a5,bm,a7],rd v0_2 p0_2,rd v0_3 p0_3,rd v0_5 p0_5,rd v0_6 p0_6,own 123 ak us877,hL bL us877 bj.1 none,rd a4 aj.2.1,rd a5 aj.2.2.1,own 3 bm aj.2.2.2.1,own 125 a7 aj.2.2.2.2,bx 125 b9 bb.1] U w) bj ?_ ?_
  ·refine fZ hj (fun hc hj=>?_) fun hc hj=>?_
   rotate_left
   ·refine RC.skip ?_
    obtain rfl:=oi hj
    exact⟨rfl,us829,hw.sp 18 [2,12,13,14,15,16,17,8,9,10,11,0]⟩
   refine RC.sr (mv (vp b0 0) (RL.aR (f:=(fun x=>x)) 0 hw zr Fd.self sE fun dn hw=>?_))
   have hw:=((hw.dup 10 rfl).dup 10 rfl).pull 5
   obtain⟨ai,et,hj⟩:=bd hj
   refine RL.call zt zr HJ [(vp b0 0),dn] zr (aD (mQ N (i1:=0) hw zr et) ?_)
   rintro _ w ⟨rfl,hw⟩
   refine aN (vi ai) (RL.nt ?_)
   obtain⟨fr,cf,hj⟩:=bd hj
   obtain⟨ca,eu,hj⟩:=bd hj
   obtain⟨bt,ev,hj⟩:=bd hj
   obtain⟨b4,cv,hj⟩:=bd hj
   refine RC.Dq E V mixed [1,1,1,0,1,1,1,1,0,1,0,0,0,0,0,0,0,0,0,0] [13,14,15,16,19] (fun(x:Value×Value×Value×Value)=>(fun aw ax av al=>[(0,186,(vp b0 0)),(1,187,(vp b0 0)),(2,188,(vp b0 7)),(3,189,ak),(4,190,(vi ai)),(5,191,(vp b0 0)),(6,192,(vp b0 0)),(7,193,(vp b0 7)),(8,194,ak),(9,195,(vi ai)),(10,196,(xO ak (Int.toNat ai) 3 0)),(11,197,(xO ak (Int.toNat ai) 3 2)),(12,198,(us829.getD (Int.toNat ai) (default:bN)).hU.v),(13,199,aw),(14,200,ax),(15,201,av),(16,202,al),(17,203,(xO ak (Int.toNat ai) 3 0)),(18,204,(xO ak (Int.toNat ai) 3 2))]) x.1 x.2.1 x.2.2.1 x.2.2.2) [(0,vp b0 0),(14,vp dk 0),(15,vp b9 0),(17,vi ai),(170,v0_3),(171,vi p0_3.length),(172,vi b3)] [] (fun(D:Nat->Bool) (x:Value×Value×Value×Value)=>(fun aw ax av al=>[bif D 0 then (rd aw b8) else aX,bif D 1 then (rd ax ca) else aX,bif D 3 then (rd av ([ca]: (List fH))) else (bif D 2 then (own 29 av ([ca]: (List fH))) else aX),bif D 4 then aX else (bif D 3 then (own 29 al bt) else aX),bc 73 b0 [v0_0,v0_1,v0_2,v0_3,v0_4,v0_5,v0_6,ak,a4,a5,bm,a7],rd dn bb.1,bx 125 b9 bb.1,rd c3 bb.1,aX,rd dm b8,bx 92 dk b8,rd ep b8,pt eo b8,aX,rd a4 aj.2.1,rd a5 aj.2.2.1,own 3 bm aj.2.2.2.1,own 125 a7 aj.2.2.2.2,rd v0_2 p0_2,rd v0_3 p0_3,rd v0_5 p0_5,rd v0_6 p0_6,bif D 4 then (own 123 ak (us829.set (Int.toNat ai) {(us829.getD (Int.toNat ai) (default:bN)) with hU:=rv al})) else (own 123 ak us829),bif D 4 then (hL bL (us829.set (Int.toNat ai) {(us829.getD (Int.toNat ai) (default:bN)) with hU:=rv al}) (aj.1.set (Int.toNat ai) {b4 with hU:=bt}) none) else (bif D 3 then (hL bL us829 aj.1 (some (Int.toNat ai))) else (hL bL us829 aj.1 none))]) x.1 x.2.1 x.2.2.1 x.2.2.2) (fun x=>by kernel_rfl) ?_ ⟨fun _=>jJ gn,fun _=>wZ gn,fun _=>nK gn tH,?_,fun _=>jJ gn,fun _=>jJ gn,fun _=>wZ gn,fun _=>nK gn tH,?_,fun _=>jJ gn,?_,?_,?_,?_,?_,?_,?_,?_,?_,?_,trivial⟩ ?_
   ·have hw:=((((hw.drew).aX).aX).aX).aX
    exact⟨(undef,undef,undef,undef),eC.none,(B1 zr),zt,hw⟩
   ·rintro D U w hD af ad ⟨⟨aw,ax,av,al⟩,hv,ha,_,hw⟩
    obtain⟨O,rfl⟩:=(ac (hv.at 2 rfl (af.1 rfl)) az).fG
    refine RL.bK 4 ak hw Bj ?_
    exact RL.nil ⟨rfl,(aw,ax,av,al),hv.pu 3,ha.u,zt,hw⟩
   ·rintro D U w hD af ad ⟨⟨aw,ax,av,al⟩,hv,ha,_,hw⟩
    obtain⟨O,rfl⟩:=(ac (hv.at 7 rfl (af.1 rfl)) az).fG
    refine RL.bK 4 ak hw Bj ?_
    exact RL.nil ⟨rfl,(aw,ax,av,al),hv.pu 8,ha.u,zt,hw⟩
   ·rintro D U w hD af ad ⟨⟨aw,ax,av,al⟩,hv,ha,_,hw⟩
    obtain⟨O,rfl⟩:=(ac (hv.at 8 rfl (af.1 rfl)) (ac (hv.at 9 rfl (af.2.1 rfl)) az)).fG
    have hw:=((hw.bP 22 (nh ad hD 19)).bP 23 (nh ad hD 19)).bP 23 (nf (fun h=>ft hD ((ad 11 _ rfl ((ad 12 _ rfl ((ad 16 _ rfl h).1 rfl)).1 rfl)).1 rfl)))
    have hl900:=hw.ga 23 rfl
    have hr901:=jl (default:bN) hl900 cf
    refine RL.bM 22 hw zr zr E1 hr901 ?_
    have hw:=(hw.eP 22 (D 19) (nh ad hD 19) (own 123 ak (us829.set (Int.toNat ai) {(us829.getD (Int.toNat ai) (default:bN)) with hU:=rv al}))).eP 23 (D 16) (nf (fun h=>ft hD ((ad 11 _ rfl ((ad 12 _ rfl ((ad 16 _ rfl h).1 rfl)).1 rfl)).1 rfl))) (hL bL us829 aj.1 (some (Int.toNat ai)))
    have hw:=hw.eP 23 (D 19) (nh ad hD 19) (hL bL (us829.set (Int.toNat ai) {(us829.getD (Int.toNat ai) (default:bN)) with hU:=rv al}) (aj.1.set (Int.toNat ai) {b4 with hU:=bt}) none)
    exact RL.nil ⟨rfl,(aw,ax,av,al),hv.pu 10,ha.u,zt,hw⟩
   ·rintro D U w hD af ad ⟨⟨aw,ax,av,al⟩,hv,ha,_,hw⟩
    obtain⟨O,rfl⟩:=(ac (hv.at 10 rfl (af.1 rfl)) az).fG
    have hw:=((hw.bP 22 (nh ad hD 19)).bP 23 (nh ad hD 19)).bP 23 (nf (fun h=>ft hD ((ad 12 _ rfl ((ad 16 _ rfl h).1 rfl)).1 rfl)))
    have hl902:=hw.ga 23 rfl
    have hr903:=jl (default:bN) hl902 cf
    refine RL.l4 (α:=bN) (jQ 22 hw hr903 0) Ap ?_
    have hw:=(hw.eP 22 (D 19) (nh ad hD 19) (own 123 ak (us829.set (Int.toNat ai) {(us829.getD (Int.toNat ai) (default:bN)) with hU:=rv al}))).eP 23 (D 16) (nf (fun h=>ft hD ((ad 12 _ rfl ((ad 16 _ rfl h).1 rfl)).1 rfl))) (hL bL us829 aj.1 (some (Int.toNat ai)))
    have hw:=hw.eP 23 (D 19) (nh ad hD 19) (hL bL (us829.set (Int.toNat ai) {(us829.getD (Int.toNat ai) (default:bN)) with hU:=rv al}) (aj.1.set (Int.toNat ai) {b4 with hU:=bt}) none)
    exact RL.nil ⟨rfl,(aw,ax,av,al),hv.pu 11,ha.u,zt,hw⟩
   ·rintro D U w hD af ad ⟨⟨aw,ax,av,al⟩,hv,ha,_,hw⟩
    obtain⟨O,rfl⟩:=(ac (hv.at 11 rfl (af.1 rfl)) az).fG
    have hw:=((hw.bP 22 (nh ad hD 19)).bP 23 (nh ad hD 19)).bP 23 (nh ad hD 16)
    have hl904:=hw.ga 23 rfl
    have hr905:=jl (default:bN) hl904 cf
    refine RL.tt 22 23 ai pR (default:bN) zr hw zr (jQ 22 hw hr905 2) zr zr cf Ek ?_
    have hw:=(hw.eP 22 (D 19) (nh ad hD 19) (own 123 ak (us829.set (Int.toNat ai) {(us829.getD (Int.toNat ai) (default:bN)) with hU:=rv al}))).eP 23 (D 16) (nh ad hD 16) (hL bL us829 aj.1 (some (Int.toNat ai)))
    have hw:=hw.eP 23 (D 19) (nh ad hD 19) (hL bL (us829.set (Int.toNat ai) {(us829.getD (Int.toNat ai) (default:bN)) with hU:=rv al}) (aj.1.set (Int.toNat ai) {b4 with hU:=bt}) none)
    exact RL.nil ⟨rfl,(aw,ax,av,al),hv.pu 12,ha.u,zt,hw⟩
   ·rintro D U w hD af ad ⟨⟨aw,ax,av,al⟩,hv,ha,_,hw⟩
    obtain⟨O,rfl⟩:=(ac (ha.at 1 rfl) az).fG
    have hw:=hw.bP 0 hD
    refine RL.aR (f:=(fun x=>x)) 10 hw zr Fd.self uX fun ew hw=>?_
    have hw:=(hw.pl 25 [0,2,3,4,5,6,7,8,9,10,11,12,13,14,15,16,17,18,19,20,21,22,23,24]).cC 0 true rfl aX
    exact RL.nil ⟨rfl,(ew,ax,av,al),hv.pu 13,ha.u,zt,hw⟩
   ·rintro D U w hD af ad ⟨⟨aw,ax,av,al⟩,hv,ha,_,hw⟩
    obtain⟨O,rfl⟩:=(ac (hv.at 13 rfl (af.1 rfl)) az).fG
    have hw:=(hw.cB 0 (af.1 rfl)).bP 1 hD
    refine RL.call zt zr DM [aw] zr (aD (kP N (i0:=0) hw zr eu) ?_)
    rintro ey w hw
    have hw:=((hw.pl 25 [1,0,3,4,5,6,7,8,9,10,11,12,13,14,15,16,17,18,19,20,21,22,23,24]).cC 0 (D 13) (af.1 rfl) aX).cC 1 true rfl aX
    exact RL.nil ⟨rfl,(aw,ey,av,al),hv.pu 14,ha.u,zt,hw⟩
   ·rintro D U w hD af ad ⟨⟨aw,ax,av,al⟩,hv,ha,_,hw⟩
    obtain⟨O,rfl⟩:=(ac (hv.at 14 rfl (af.1 rfl)) az).fG
    have hw:=((hw.cB 1 (af.1 rfl)).bP 2 (nh ad hD 16)).bP 2 hD
    refine RL.fI ([ca]: (List fH)) hw [ax] Gi FT (fun M hs g=>⟨(g.sat 1 _ zr).1,zt⟩) fun dp w hw=>?_
    have hw:=(((hw.pl 25 [1,2,0,4,5,6,7,8,9,10,11,12,13,14,15,16,17,18,19,20,21,22,23,24]).cC 1 (D 14) (af.1 rfl) aX).cC 2 true rfl aX).eP 2 (D 16) (nh ad hD 16) (rd dp ([ca]: (List fH)))
    exact RL.nil ⟨rfl,(aw,ax,dp,al),hv.pu 15,ha.u,zt,hw⟩
   ·rintro D U w hD af ad ⟨⟨aw,ax,av,al⟩,hv,ha,_,hw⟩
    obtain⟨O,rfl⟩:=(ac (hv.at 12 rfl (af.1 rfl)) (ac (hv.at 15 rfl (af.2.1 rfl)) az)).fG
    have hw:=(((((((hw.bP 2 hD).cB 2 (af.2.1 rfl)).bP 3 (nh ad hD 19)).bP 3 hD).bP 22 (nh ad hD 19)).bP 23 (nh ad hD 19)).bP 23 hD).wW (j:=23) (jj:=ai) pR (default:bN) rfl cf
    have hw:=hw.freeze 3
    refine RL.app 0 3 hw Gj ev fun c4 w hw=>?_
    have hw:=((((hw.pl 25 [1,2,3,0,5,6,7,8,9,10,11,12,13,14,15,16,17,18,19,20,21,22,23,24]).cC 2 true rfl (bif D 15 then (own 29 av ([ca]: (List fH))) else aX)).cC 3 true rfl aX).eP 3 (D 19) (nh ad hD 19) aX).eP 22 (D 19) (nh ad hD 19) (own 123 ak (us829.set (Int.toNat ai) {(us829.getD (Int.toNat ai) (default:bN)) with hU:=rv c4}))
    have hw:=(hw.cC 23 true rfl (hL bL us829 aj.1 none)).eP 23 (D 19) (nh ad hD 19) (hL bL (us829.set (Int.toNat ai) {(us829.getD (Int.toNat ai) (default:bN)) with hU:=rv c4}) (aj.1.set (Int.toNat ai) {b4 with hU:=bt}) none)
    exact RL.nil ⟨rfl,(aw,ax,av,c4),hv.pu 16,ha.u,zt,hw⟩
   ·rintro D U w hD af ad ⟨⟨aw,ax,av,al⟩,hv,ha,_,hw⟩
    obtain⟨O,rfl⟩:=(ac (hv.at 3 rfl (af.1 rfl)) (ac (hv.at 4 rfl (af.2.1 rfl)) az)).fG
    have hw:=hw.bP 22 (nf (fun h=>ft hD ((ad 18 _ rfl ((ad 19 _ rfl h).1 rfl)).1 rfl)))
    have hw:=hw.bP 23 (nf (fun h=>ft hD ((ad 18 _ rfl ((ad 19 _ rfl h).1 rfl)).1 rfl)))
    have hw:=hw.cB 23 (af.2.2.2.2.2.2.2.2.2.2.2.2.2.2.2.2.2.2.1 rfl)
    have hl910:=hw.ga 23 rfl
    have hr911:=jl (default:bN) hl910 cv
    refine RL.bM 22 hw zr zr E1 hr911 ?_
    have hw:=hw.eP 22 (D 19) (nf (fun h=>ft hD ((ad 18 _ rfl ((ad 19 _ rfl h).1 rfl)).1 rfl))) (own 123 ak (us829.set (Int.toNat ai) {(us829.getD (Int.toNat ai) (default:bN)) with hU:=rv al}))
    have hw:=(hw.cC 23 (D 16) (af.2.2.2.2.2.2.2.2.2.2.2.2.2.2.2.2.2.2.1 rfl) (hL bL us829 aj.1 none)).eP 23 (D 19) (nf (fun h=>ft hD ((ad 18 _ rfl ((ad 19 _ rfl h).1 rfl)).1 rfl))) (hL bL (us829.set (Int.toNat ai) {(us829.getD (Int.toNat ai) (default:bN)) with hU:=rv al}) (aj.1.set (Int.toNat ai) {b4 with hU:=bt}) none)
    exact RL.nil ⟨rfl,(aw,ax,av,al),hv.pu 17,ha.u,zt,hw⟩
   ·rintro D U w hD af ad ⟨⟨aw,ax,av,al⟩,hv,ha,_,hw⟩
    obtain⟨O,rfl⟩:=(ac (hv.at 17 rfl (af.1 rfl)) az).fG
    have hw:=((hw.bP 22 (nh ad hD 19)).bP 23 (nh ad hD 19)).cB 23 (af.2.2.2.2.2.2.2.2.2.2.2.2.2.2.2.2.2.1 rfl)
    have hl912:=hw.ga 23 rfl
    have hr913:=jl (default:bN) hl912 cv
    refine RL.l4 (α:=bN) (jQ 22 hw hr913 0) Ap ?_
    have hw:=(hw.eP 22 (D 19) (nh ad hD 19) (own 123 ak (us829.set (Int.toNat ai) {(us829.getD (Int.toNat ai) (default:bN)) with hU:=rv al}))).cC 23 (D 16) (af.2.2.2.2.2.2.2.2.2.2.2.2.2.2.2.2.2.1 rfl) (hL bL us829 aj.1 none)
    have hw:=hw.eP 23 (D 19) (nh ad hD 19) (hL bL (us829.set (Int.toNat ai) {(us829.getD (Int.toNat ai) (default:bN)) with hU:=rv al}) (aj.1.set (Int.toNat ai) {b4 with hU:=bt}) none)
    exact RL.nil ⟨rfl,(aw,ax,av,al),hv.pu 18,ha.u,zt,hw⟩
   ·rintro D U w hD af ad ⟨⟨aw,ax,av,al⟩,hv,ha,_,hw⟩
    obtain⟨O,rfl⟩:=(ac (hv.at 16 rfl (af.2.1 rfl)) (ac (hv.at 18 rfl (af.1 rfl)) az)).fG
    have hw:=((((hw.bP 3 hD).cB 3 (af.2.1 rfl)).bP 22 hD).bP 23 hD).cB 23 (af.2.1 rfl)
    have hl914:=hw.ga 23 rfl
    have hr915:=jl (default:bN) hl914 cv
    refine RL.rE 22 23 3 ai pR (default:bN) hw zr zr (jQ 22 hw hr915 2) zr zr zr cv Ek fun w hw=>?_
    have hw:=((hw.cC 3 true rfl (bif D 16 then (own 29 al bt) else aX)).cC 22 true rfl (own 123 ak us829)).cC 23 true rfl (bif D 16 then (hL bL us829 aj.1 (some (Int.toNat ai))) else (hL bL us829 aj.1 none))
    exact RL.nil ⟨rfl,(aw,ax,av,al),hv.n1,ha,zt,hw⟩
   rintro D U w a8 ⟨⟨aw,ax,av,al⟩,hv,ha,_,hw⟩
   have hw:=(((((hw.cB 0 (kS a8 13)).cB 1 (kS a8 14)).cB 2 (kS a8 16)).cB 3 (kS a8 19)).cB 22 (kS a8 19)).cB 23 (kS a8 19)
   obtain⟨O,rfl⟩:=(ac (ha.at 0 rfl) (ac (ha.at 1 rfl) (ac (ha.at 2 rfl) (ac (ha.at 3 rfl) (ac (ha.at 4 rfl) (ac (ha.at 5 rfl) (ac (ha.at 6 rfl) az))))))).fG
   obtain rfl:=oi hj
   exact⟨rfl,(us829.set (Int.toNat ai) {(us829.getD (Int.toNat ai) (default:bN)) with hU:=rv al}),hw.sp 24 [4,18,19,20,21,22,23,14,15,16,17,6]⟩
  rintro _ w ⟨us877,O,rfl,hw⟩
  refine aJ ?_
  obtain⟨ez,e3,hb⟩:=bd hb
  obtain⟨e4,e5,hb⟩:=bd hb
  refine RC.Dq E V mixed [1,1,1,1,1,0,1,0,0,1,1,1,0,0,0,0,1,1,0,1,1,0] [7,8,13,14,15,18,21] (fun(x:Value×Value×Value×Value×Value)=>(fun a0 a2 a1 ar ay=>[(0,205,(vp b0 0)),(1,206,(vp b0 0)),(2,207,(vp b0 0)),(3,208,(vp b0 0)),(4,209,(vp b0 10)),(5,210,bm),(6,211,(vi bj.2)),(7,212,a0),(8,213,ar),(9,214,(vp b0 0)),(10,215,(vp b0 0)),(11,216,(vp b0 11)),(12,217,a7),(13,218,a2),(14,219,a1),(15,220,ay),(16,221,(vp b0 0)),(17,222,(vp b0 10)),(19,223,(vp b0 0)),(20,224,(vp b0 11))]) x.1 x.2.1 x.2.2.1 x.2.2.2.1 x.2.2.2.2) [(0,vp b0 0),(15,vp b9 0),(17,vi bj.2),(170,v0_3),(171,vi p0_3.length),(172,vi b3)] [] (fun(D:Nat->Bool) (x:Value×Value×Value×Value×Value)=>(fun a0 a2 a1 ar ay=>[bif D 1 then (rd a0 ([bj.2]: (List Int))) else (bif D 0 then (own 3 a0 ([bj.2]: (List Int))) else aX),bif D 2 then (rd a2 bb.1) else aX,bif D 4 then (rd a1 ([bb.1]: (List iN))) else (bif D 3 then (own 125 a1 ([bb.1]: (List iN))) else aX),bif D 6 then (bc 73 b0 [v0_0,v0_1,v0_2,v0_3,v0_4,v0_5,v0_6,ak,a4,a5,ar,ay]) else (bif D 5 then (bc 73 b0 [v0_0,v0_1,v0_2,v0_3,v0_4,v0_5,v0_6,ak,a4,a5,ar,a7]) else (bc 73 b0 [v0_0,v0_1,v0_2,v0_3,v0_4,v0_5,v0_6,ak,a4,a5,bm,a7])),rd v0_2 p0_2,rd v0_3 p0_3,rd v0_5 p0_5,rd v0_6 p0_6,own 123 ak us877,hL bL us877 bj.1 none,rd a4 aj.2.1,rd a5 aj.2.2.1,bif D 1 then (own 3 ar ez) else (own 3 bm aj.2.2.2.1),bif D 4 then (own 125 ay e4) else (own 125 a7 aj.2.2.2.2),bx 125 b9 bb.1]) x.1 x.2.1 x.2.2.1 x.2.2.2.1 x.2.2.2.2) (fun x=>by kernel_rfl) ?_ ⟨fun _=>jJ gn,fun _=>jJ gn,fun _=>jJ gn,fun _=>wZ gn,fun _=>nK gn xo,?_,fun _=>jJ gn,?_,?_,fun _=>jJ gn,fun _=>wZ gn,fun _=>nK gn Cz,?_,?_,?_,?_,fun _=>wZ gn,fun _=>nK gn xo,?_,fun _=>wZ gn,fun _=>nK gn Cz,?_,trivial⟩ ?_
  ·have hw:=(((hw.drew).aX).aX).aX
   exact⟨(undef,undef,undef,undef,undef),eC.none,(B1 zr),zt,hw⟩
  ·rintro D U w hD af ad ⟨⟨a0,a2,a1,ar,ay⟩,hv,ha,_,hw⟩
   obtain⟨O,rfl⟩:=(ac (hv.at 4 rfl (af.1 rfl)) az).fG
   have hw:=(hw.bP 3 (nh ad hD 21)).bP 3 (nh ad hD 18)
   refine RL.bK 3 bm hw fw ?_
   have hw:=(hw.eP 3 (D 18) (nh ad hD 18) (bc 73 b0 [v0_0,v0_1,v0_2,v0_3,v0_4,v0_5,v0_6,ak,a4,a5,ar,a7])).eP 3 (D 21) (nh ad hD 21) (bc 73 b0 [v0_0,v0_1,v0_2,v0_3,v0_4,v0_5,v0_6,ak,a4,a5,ar,ay])
   exact RL.nil ⟨rfl,(a0,a2,a1,ar,ay),hv.pu 5,ha.u,zt,hw⟩
  ·rintro D U w hD af ad ⟨⟨a0,a2,a1,ar,ay⟩,hv,ha,_,hw⟩
   obtain⟨O,rfl⟩:=(ac (hv.at 6 rfl (af.1 rfl)) az).fG
   have hw:=((hw.bP 0 (nh ad hD 8)).bP 0 hD).sc Int bj.2
   refine RL.fI ([bj.2]: (List Int)) hw [(vi bj.2)] fx Dr (fun M hs g=>⟨(g.sat 0 _ zr).1,zt⟩) fun dq w hw=>?_
   have hw:=((hw.pl 17 [0,3,4,5,6,7,8,9,10,11,12,13,14,15,16]).cC 0 true rfl aX).eP 0 (D 8) (nh ad hD 8) (rd dq ([bj.2]: (List Int)))
   exact RL.nil ⟨rfl,(dq,a2,a1,ar,ay),hv.pu 7,ha.u,zt,hw⟩
  ·rintro D U w hD af ad ⟨⟨a0,a2,a1,ar,ay⟩,hv,ha,_,hw⟩
   obtain⟨O,rfl⟩:=(ac (hv.at 5 rfl (af.1 rfl)) (ac (hv.at 7 rfl (af.2.1 rfl)) az)).fG
   have hw:=(((((hw.bP 0 hD).cB 0 (af.2.1 rfl)).bP 3 (nh ad hD 21)).bP 3 (nh ad hD 18)).bP 12 hD).freeze 0
   refine RL.app 12 0 hw tE e3 fun c5 w hw=>?_
   have hw:=((hw.cC 0 true rfl (bif D 7 then (own 3 a0 ([bj.2]: (List Int))) else aX)).eP 3 (D 18) (nh ad hD 18) (bc 73 b0 [v0_0,v0_1,v0_2,v0_3,v0_4,v0_5,v0_6,ak,a4,a5,c5,a7])).eP 3 (D 21) (nh ad hD 21) (bc 73 b0 [v0_0,v0_1,v0_2,v0_3,v0_4,v0_5,v0_6,ak,a4,a5,c5,ay])
   have hw:=hw.cC 12 true rfl (own 3 bm aj.2.2.2.1)
   exact RL.nil ⟨rfl,(a0,a2,a1,c5,ay),hv.pu 8,ha.u,zt,hw⟩
  ·rintro D U w hD af ad ⟨⟨a0,a2,a1,ar,ay⟩,hv,ha,_,hw⟩
   obtain⟨O,rfl⟩:=(ac (hv.at 11 rfl (af.1 rfl)) az).fG
   have hw:=(hw.bP 3 (nh ad hD 21)).bP 3 (nh ad hD 18)
   refine RL.bK 3 a7 hw Gl ?_
   have hw:=(hw.eP 3 (D 18) (nh ad hD 18) (bc 73 b0 [v0_0,v0_1,v0_2,v0_3,v0_4,v0_5,v0_6,ak,a4,a5,ar,a7])).eP 3 (D 21) (nh ad hD 21) (bc 73 b0 [v0_0,v0_1,v0_2,v0_3,v0_4,v0_5,v0_6,ak,a4,a5,ar,ay])
   exact RL.nil ⟨rfl,(a0,a2,a1,ar,ay),hv.pu 12,ha.u,zt,hw⟩
  ·rintro D U w hD af ad ⟨⟨a0,a2,a1,ar,ay⟩,hv,ha,_,hw⟩
   obtain⟨O,rfl⟩:=(ac (ha.at 1 rfl) az).fG
   have hw:=hw.bP 1 hD
   refine RL.aR (f:=(fun x=>x)) 14 hw zr Fd.self sE fun e6 hw=>?_
   have hw:=(hw.pl 16 [1,0,3,4,5,6,7,8,9,10,11,12,13,14,15]).cC 1 true rfl aX
   exact RL.nil ⟨rfl,(a0,e6,a1,ar,ay),hv.pu 13,ha.u,zt,hw⟩
  ·rintro D U w hD af ad ⟨⟨a0,a2,a1,ar,ay⟩,hv,ha,_,hw⟩
   obtain⟨O,rfl⟩:=(ac (hv.at 13 rfl (af.1 rfl)) az).fG
   have hw:=((hw.cB 1 (af.1 rfl)).bP 2 (nh ad hD 15)).bP 2 hD
   refine RL.fI ([bb.1]: (List iN)) hw [a2] HK Cx (fun M hs g=>⟨(g.sat 1 _ zr).1,zt⟩) fun dr w hw=>?_
   have hw:=(((hw.pl 16 [1,2,0,4,5,6,7,8,9,10,11,12,13,14,15]).cC 1 (D 13) (af.1 rfl) aX).cC 2 true rfl aX).eP 2 (D 15) (nh ad hD 15) (rd dr ([bb.1]: (List iN)))
   exact RL.nil ⟨rfl,(a0,a2,dr,ar,ay),hv.pu 14,ha.u,zt,hw⟩
  ·rintro D U w hD af ad ⟨⟨a0,a2,a1,ar,ay⟩,hv,ha,_,hw⟩
   obtain⟨O,rfl⟩:=(ac (hv.at 12 rfl (af.1 rfl)) (ac (hv.at 14 rfl (af.2.1 rfl)) az)).fG
   have hw:=(((((hw.bP 2 hD).cB 2 (af.2.1 rfl)).bP 3 (nh ad hD 21)).bP 3 (nh ad hD 18)).bP 13 hD).freeze 2
   refine RL.app 13 2 hw HL e5 fun ds w hw=>?_
   have hw:=((hw.cC 2 true rfl (bif D 14 then (own 125 a1 ([bb.1]: (List iN))) else aX)).eP 3 (D 18) (nh ad hD 18) (bc 73 b0 [v0_0,v0_1,v0_2,v0_3,v0_4,v0_5,v0_6,ak,a4,a5,ar,a7])).eP 3 (D 21) (nh ad hD 21) (bc 73 b0 [v0_0,v0_1,v0_2,v0_3,v0_4,v0_5,v0_6,ak,a4,a5,ar,ds])
   have hw:=hw.cC 13 true rfl (own 125 a7 aj.2.2.2.2)
   exact RL.nil ⟨rfl,(a0,a2,a1,ar,ds),hv.pu 15,ha.u,zt,hw⟩
  ·rintro D U w hD af ad ⟨⟨a0,a2,a1,ar,ay⟩,hv,ha,_,hw⟩
   obtain⟨O,rfl⟩:=(ac (hv.at 8 rfl (af.2.1 rfl)) (ac (hv.at 17 rfl (af.1 rfl)) az)).fG
   have hw:=((hw.bP 3 (nh ad hD 21)).bP 3 hD).cB 12 (af.2.1 rfl)
   refine RL.gj 3 ar hw zr zr (dP 12 hw) fw fun w hw=>?_
   have hw:=((hw.cC 3 true rfl (bc 73 b0 [v0_0,v0_1,v0_2,v0_3,v0_4,v0_5,v0_6,ak,a4,a5,bm,a7])).eP 3 (D 21) (nh ad hD 21) (bc 73 b0 [v0_0,v0_1,v0_2,v0_3,v0_4,v0_5,v0_6,ak,a4,a5,ar,ay])).cC 12 (D 8) (af.2.1 rfl) (own 3 bm aj.2.2.2.1)
   exact RL.nil ⟨rfl,(a0,a2,a1,ar,ay),hv.n1,ha,zt,hw⟩
  ·rintro D U w hD af ad ⟨⟨a0,a2,a1,ar,ay⟩,hv,ha,_,hw⟩
   obtain⟨O,rfl⟩:=(ac (hv.at 15 rfl (af.2.1 rfl)) (ac (hv.at 19 rfl (af.1 rfl)) az)).fG
   have hw:=((hw.bP 3 hD).cB 3 (af.2.2.1 rfl)).cB 13 (af.2.1 rfl)
   refine RL.gj 3 ay hw zr zr (dP 13 hw) Gl fun w hw=>?_
   have hw:=(hw.cC 3 true rfl (bif D 18 then (bc 73 b0 [v0_0,v0_1,v0_2,v0_3,v0_4,v0_5,v0_6,ak,a4,a5,ar,a7]) else (bc 73 b0 [v0_0,v0_1,v0_2,v0_3,v0_4,v0_5,v0_6,ak,a4,a5,bm,a7]))).cC 13 (D 15) (af.2.1 rfl) (own 125 a7 aj.2.2.2.2)
   exact RL.nil ⟨rfl,(a0,a2,a1,ar,ay),hv.n1,ha,zt,hw⟩
  rintro D U w a8 ⟨⟨a0,a2,a1,ar,ay⟩,hv,ha,_,hw⟩
  have hw:=(((((hw.cB 0 (kS a8 8)).cB 1 (kS a8 13)).cB 2 (kS a8 15)).cB 3 (kS a8 21)).cB 12 (kS a8 8)).cB 13 (kS a8 15)
  obtain⟨O,rfl⟩:=(ac (ha.at 0 rfl) (ac (ha.at 1 rfl) (ac (ha.at 2 rfl) (ac (ha.at 3 rfl) (ac (ha.at 4 rfl) (ac (ha.at 5 rfl) az)))))).fG
  refine bZ (aJ (RC.region (RL.inc hk hm (mv (vi ((b3+1:Nat):Int)) (RL.nil ?_)))))
  obtain rfl:=oi hb
  exact⟨rfl,a4,a5,ar,ay,us877,hw.sp 15 [3,10,11,12,13,4,5,6,7,8,9]⟩
 rintro _ w ⟨cq,cr,ct,cu,us824,O,rfl,hw⟩
 obtain rfl:=oi hb
 have hw:=hw.wX (X:=bL) (b:=10) (j:=9) rfl (fun M h u x cs=>w9 M h u x cs) rfl rfl (by decide)
 refine zZ ?_
 exact Ew zr ⟨ak,cq,cr,ct,cu,zr,hw.pk 11 [0,9,1,2,3,4]⟩
def rn (E:World) (V:List HP) (res:Option ((List (List aG))×(List aG)×(List bH)×(List bW)×(List (List aA))×(List aI)×(List (List Int))×(List cL)×(List Int)×(List Int)×(List Int)×(List iN))×Int) (v:Value) (w:World):Prop:=DF res.1 (v = .tuple #[(.pointer none),(vi res.2)]/\Holds E w V) (fun y=>∃(ub0:Nat) (u0_0 u0_1:Value) (u0_2 u0_3:Value) (u0_4 u0_5:Value) (u0_6 u0_7:Value) (u0_8 u0_9:Value) (u0_10 u0_11:Value),v = .tuple #[vp ub0 0,(vi res.2)]/\Holds E w ([bc 73 ub0 [u0_0,u0_1,u0_2,u0_3,u0_4,u0_5,u0_6,u0_7,u0_8,u0_9,u0_10,u0_11],rd u0_0 y.1,rd u0_1 y.2.1,rd u0_2 y.2.2.1,rd u0_3 y.2.2.2.1,own 40 u0_4 y.2.2.2.2.1,rd u0_5 y.2.2.2.2.2.1,rd u0_6 y.2.2.2.2.2.2.1,own 123 u0_7 y.2.2.2.2.2.2.2.1,rd u0_8 y.2.2.2.2.2.2.2.2.1,rd u0_9 y.2.2.2.2.2.2.2.2.2.1,own 3 u0_10 y.2.2.2.2.2.2.2.2.2.2.1,own 125 u0_11 y.2.2.2.2.2.2.2.2.2.2.2]++V))
def nQ (E:World) (V:List HP) (r:Option ((List (List aG))×(List aG)×(List bH)×(List bW)×(List (List aA))×(List aI)×(List (List Int))×(List cL)×(List Int)×(List Int)×(List Int)×(List iN))×Int) (U:Nat->Value) (w:World):Prop:=mi bG 112 Tryz.f25 (rn E V r) .ret U w
theorem qg {p0:eL} {res:Option ((List (List aG))×(List aG)×(List bH)×(List bW)×(List (List aA))×(List aI)×(List (List Int))×(List cL)×(List Int)×(List Int)×(List Int)×(List iN))×Int} (j:Holds E w V) (h0:V[i0]? =some (rd v0 p0)) (o:eJ N p0=some res):
    Calls bG 25 [v0].toArray w (gF (rn E V res)):=by
 unfold eJ at o
 refine enter Tryz.func25 zr zr ?_
 have j:=j.dup (i0+0) h0
 refine RC.sr (RL.cX 0 v0 j zr fun ao w j=>?_)
 refine aN (.pointer none) (aN (vi 0) (RL.nq (RC.sr (RL.bF zr jK (RL.aR 0 j zr i6 pz fun c2 j=>(RL.bO 0 p0.aH j tC (ic ((p0.aH.length:Int)) 0 (RL.nt ?_))))))))
 refine fZ o (fun hc o=>?_) fun hc o=>?_
 ·refine RC.sr (aN (.pointer none) (aN (vi 9) (RL.nt (RC.rt ?_))))
  obtain rfl:=oi o
  exact qQ ⟨rfl,j.drop 3⟩
 refine RC.ss (RC.sr (RL.bF zr jK (RL.aR 1 j zr i6 pz fun c3 j=>(RL.bO 0 p0.aH j tC (ic ((p0.aH.length:Int)) 16 (RL.nt (fZ o (fun hc o=>?_) fun hc o=>?_)))))))
 ·refine RC.sr (aN (.pointer none) (aN (vi 2) (RL.nt (RC.rt ?_))))
  obtain rfl:=oi o
  exact qQ ⟨rfl,j.drop 4⟩
 refine RC.sx (RL.bF zr xc (RL.aR 2 j zr su pS fun c4 j=>(RL.bO 0 p0.cI j pT (aN (vi p0.cI.length) (RL.nq (RC.sr (RL.bF zr jK (RL.aR 3 j zr i6 pz fun bp j=>?_))))))))
 refine RL.bO 0 p0.aH j tC (mv (vi 0) (RL.nt ?_))
 obtain⟨c5,hN,o⟩:=bd o
 refine RC.range (fun(bk:Nat) (ay:Int)=>SH E V [(1,vp ao 0),(4,vi ay),(28,bp),(29,vi p0.aH.length),(30,vi bk)] [bx 27 ao p0,rd bp p0.aH]) (fun(ay:Int)=>SH E V [(1,vp ao 0),(4,vi ay)] [bx 27 ao p0,rd bp p0.aH]) (nQ E V) hN ?_ ?_ ?_ ?_ ?_
 ·exact j.sp 6 [4,0]
 ·rintro hm ay _ w ⟨O,rfl,j⟩
  refine RC.sr (ic ((p0.aH.length:Int)) ((p0.aH.length:Int)) (RL.nq (RC.dX px (RC.ex ?_))))
  exact⟨rfl,j.sp 2 [0,1]⟩
 ·rintro hm bk ay fl _ w hk ⟨O,rfl,j⟩ o
  refine RC.sr (ic ((bk:Int)) ((p0.aH.length:Int)) (RL.nq (RC.dW (pw hk) (RC.ss (RC.bs ?_)))))
  obtain⟨bl,bz,o⟩:=bd o
  refine RL.cQ 1 j tD bz fun c6 j=>(RL.cG 0 bl j pS fun bm j=>(aN bm (RL.nq (RC.sr (mv bm ?_)))))
  obtain⟨a8,b0,o⟩:=bd o
  refine RL.call zt zr DK [bm] zr (aD (iA N (i0:=0) j zr b0) ?_)
  rintro _ w ⟨rfl,j⟩
  refine aN (vi a8) (RL.ns (mv (vi a8) (ic a8 0 (RL.nt (fZ o (fun hc o=>?_) fun hc o=>?_)))))
  ·refine RC.sr (mv (vi a8) (aN (.pointer none) (aN (vi a8) (RL.nt (RC.rt (oI (cH ?_)))))))
   obtain rfl:=oi o
   exact⟨rfl,qQ ⟨rfl,j.drop 4⟩⟩
  refine RC.sn (RC.region (mv (vi ay) (mv bm (RL.bO 0 bl j pT (RL.jV ay (bl.length:Int) (aN (vi (IntKind.wrap .i64 (ay+ (bl.length:Int)))) (RL.nil (bZ ?_))))))))
  refine aJ (RC.region (RL.inc hk hm (mv (vi ((bk+1:Nat):Int)) (RL.nil ?_))))
  obtain rfl:=oi o
  exact⟨rfl,j.sp 4 [2,3]⟩
 ·intro r U w e hK
  subst e
  refine cH ?_
  obtain rfl:=oi o
  exact hK
 rintro ay _ w rfl ⟨O,rfl,j⟩
 rw [Fo.gL] at o
 refine aJ (RC.seq (RC.sr (RL.bF zr xc (RL.aR 0 j zr su pS fun b1 j=>?_))))
 obtain⟨ba,b2,o⟩:=bd o
 refine RL.call zt zr DK [b1] zr (aD (iA N (i0:=0) j zr b2) ?_)
 rintro _ w ⟨rfl,j⟩
 refine aN (vi ba) (RL.ns (mv (vi ba) (ic ba 0 (RL.nt (fZ o (fun hc o=>?_) fun hc o=>?_)))))
 ·refine RC.sr (mv (vi ba) (aN (.pointer none) (aN (vi ba) (RL.nt (RC.rt ?_)))))
  obtain rfl:=oi o
  exact qQ ⟨rfl,j.drop 3⟩
 refine RC.ss (RC.sr (mv (vi ay) (ic ay 2000 (RL.nt (fZ o (fun hc o=>?_) fun hc o=>?_)))))
 ·refine RC.sr (aN (.pointer none) (aN (vi 2) (RL.nt (RC.rt ?_))))
  obtain rfl:=oi o
  exact qQ ⟨rfl,j.drop 3⟩
 refine RC.ss (RC.sr (RL.aR (f:=(fun x=>x)) 1 j zr Fd.self fN fun b3 j=>?_))
 obtain⟨bb,b4,o⟩:=bd o
 refine RL.call zt zr Hl [b3] zr (aD (pX N (i0:=0) j zr b4) ?_)
 rintro _ w ⟨rfl,j⟩
 refine aN (vi bb) (RL.ns (mv (vi bb) (ic bb 0 (RL.nt (fZ o (fun hc o=>?_) fun hc o=>?_)))))
 ·refine RC.sr (mv (vi bb) (aN (.pointer none) (aN (vi bb) (RL.nt (RC.rt ?_)))))
  obtain rfl:=oi o
  exact qQ ⟨rfl,j.drop 4⟩
 refine RC.ss (RC.sr (RL.aR (f:=(fun x=>x)) 2 j zr Fd.self fN fun b5 j=>?_))
 obtain⟨bc,b6,o⟩:=bd o
 refine RL.call zt zr Hs [b5] zr (aD (p6 N (i0:=0) j zr b6) ?_)
 rintro _ w ⟨rfl,j⟩
 refine aN (vi bc) (RL.ns (mv (vi bc) (ic bc 0 (RL.nt (fZ o (fun hc o=>?_) fun hc o=>?_)))))
 ·refine RC.sr (mv (vi bc) (aN (.pointer none) (aN (vi bc) (RL.nt (RC.rt ?_)))))
  obtain rfl:=oi o
  exact qQ ⟨rfl,j.drop 5⟩
 refine RC.ss (RC.sr (RL.bF zr ma (RL.aR 3 j zr oc uq fun av j=>(RL.bO 0 p0.aU j vX (mv (vi 0) (RL.nt ?_))))))
 obtain⟨c7,hN,o⟩:=bd o
 refine RC.range (fun(ax:Nat) (bn:Unit)=>SH E V [(1,vp ao 0),(63,av),(64,vi p0.aU.length),(65,vi ax)] [bx 27 ao p0,rd av p0.aU]) (fun(bn:Unit)=>SH E V [(1,vp ao 0)] [bx 27 ao p0,rd av p0.aU]) (nQ E V) hN ?_ ?_ ?_ ?_ ?_
 ·exact j.sp 6 [4,0]
 ·rintro hm bn _ w ⟨O,rfl,j⟩
  refine RC.sr (ic ((p0.aU.length:Int)) ((p0.aU.length:Int)) (RL.nq (RC.dX px (RC.ex ?_))))
  exact⟨rfl,j.sp 2 [0,1]⟩
 ·rintro hm ax bn fl _ w hk ⟨O,rfl,j⟩ o
  refine RC.sr (ic ((ax:Int)) ((p0.aU.length:Int)) (RL.nq (RC.dW (pw hk) (RC.ss (RC.bs (mv (vi ax) ?_))))))
  obtain⟨ad,b7,o⟩:=bd o
  refine RL.cQ 1 j xf b7 fun c8 j=>(RL.cG 0 ad j mZ fun c9 j=>(RL.alloc j zk.z fun an w j=>?_))
  refine aN (vi ax) (RL.aZ 0 j 1 zr mZ fun w j=>?_)
  refine RL.ns (RL.bF zr ma (RL.aR 3 j zr oc uq fun da j=>(mv (vi ax) ?_)))
  obtain⟨aw,b8,o⟩:=bd o
  refine RL.cut (hl:= .inr ⟨rfl,zr⟩) 0 zr j zr zr xf (.inl zr) b8 fun a2 j=>(RL.bO 0 aw j vX (mv (vi 0) (RL.nt ?_)))
  obtain⟨db,hN,o⟩:=bd o
  refine RC.range (fun(a5:Nat) (bo:Unit)=>SH E V [(1,vp ao 0),(12,vp an 0),(63,av),(64,vi p0.aU.length),(65,vi ax),(73,a2),(74,vi aw.length),(75,vi a5)] [bx 27 ao p0,bx 48 an ad,rd av p0.aU,rd a2 aw]) (fun(bo:Unit)=>SH E V [(1,vp ao 0),(63,av),(64,vi p0.aU.length),(65,vi ax)] [bx 27 ao p0,bx 48 an ad,rd av p0.aU,rd a2 aw]) (nQ E V) hN ?_ ?_ ?_ ?_ ?_
  ·exact j.sp 7 [5,2,6,0]
  ·rintro hm bo _ w ⟨O,rfl,j⟩
   refine RC.sr (ic ((aw.length:Int)) ((aw.length:Int)) (RL.nq (RC.dX px (RC.ex ?_))))
   exact⟨rfl,j.sp 4 [0,1,2,3]⟩
  ·rintro hm a5 bo fl _ w hk ⟨O,rfl,j⟩ o
   refine RC.sr (ic ((a5:Int)) ((aw.length:Int)) (RL.nq (RC.dW (pw hk) (RC.ss (RC.bs ?_)))))
   obtain⟨ab,b9,o⟩:=bd o
   refine RL.cQ 3 j xf b9 fun bu j=>(RL.cG 0 ab j mZ fun bw j=>(RL.alloc j zk.z fun au w j=>?_))
   refine RL.aZ 0 j 1 zr mZ fun w j=>?_
   refine RL.nq ?_
   obtain⟨bq,hj,o⟩:=bd o
   refine RC.jn (fun(bq:Bool)=>SH E V [(1,vp ao 0),(12,vp an 0),(63,av),(64,vi p0.aU.length),(65,vi ax),(73,a2),(74,vi aw.length),(75,vi a5),(98,vb bq)] [bx 27 ao p0,bx 48 an ad,rd av p0.aU,rd a2 aw]) bq ?_ ?_
   ·refine iz hj (fun ar hj=>?_) fun ar hj=>?_
    rotate_left
    ·refine RC.Dq E V mixed [1,0,1,0,1,1,0,0,0,0,0,0,1,1,1,1,1,1,1,1] [] (fun(x:Unit)=>[(0,79,(vp an 3)),(1,80,(vi ad.cM)),(2,81,(vp au 4)),(3,82,(vi ab.To)),(4,83,(vb (decide (ad.cM<=ab.To)))),(5,84,(vb (decide (ad.cM<=ab.To)))),(6,85,(cv (true&&((decide (ad.cM<=ab.To))==true)) (vp au 3))),(7,86,(cv (true&&((decide (ad.cM<=ab.To))==true)) (vi ab.cM))),(8,87,(cv (true&&((decide (ad.cM<=ab.To))==true)) (vp an 4))),(9,88,(cv (true&&((decide (ad.cM<=ab.To))==true)) (vi ad.To))),(10,89,(cv (true&&((decide (ad.cM<=ab.To))==true)) (vb (decide (ab.cM<=ad.To))))),(11,90,(vb ((decide (ad.cM<=ab.To))&&(decide (ab.cM<=ad.To))))),(12,91,(vb ((decide (ad.cM<=ab.To))&&(decide (ab.cM<=ad.To))))),(13,92,undef),(14,93,undef),(15,94,undef),(16,95,undef),(17,96,undef),(18,97,undef),(19,98,(vb false))]) [(1,vp ao 0),(12,vp an 0),(14,vp au 0),(63,av),(64,vi p0.aU.length),(65,vi ax),(73,a2),(74,vi aw.length),(75,vi a5)] [] (fun(D:Nat->Bool) (x:Unit)=>[bx 48 au ab,rd bw ab,pt bu ab,bx 27 ao p0,bx 48 an ad,rd av p0.aU,rd a2 aw]) (fun x=>by kernel_rfl) ?_ ⟨fun _=>nK gn rH,?_,fun _=>nK gn tF,?_,fun _=>EL gn rfl,fun _=>jJ gn,?_,?_,?_,?_,?_,?_,fun _=>jJ gn,fun _=>A2 ar,fun _=>A2 ar,fun _=>A2 ar,fun _=>A2 ar,fun _=>A2 ar,fun _=>A2 ar,fun _=>G3 gn ar rfl,trivial⟩ ?_
     ·have j:=j.drew
      exact⟨(),eC.none,(B1 zr),zt,j⟩
     ·rintro D U w hD af al ⟨_,hv,ha,_,j⟩
      obtain⟨O,rfl⟩:=(ac (hv.at 0 rfl (af.1 rfl)) az).fG
      refine RL.aS 4 j zr lG cV ?_
      exact RL.nil ⟨rfl,(),hv.pu 1,ha.u,zt,j⟩
     ·rintro D U w hD af al ⟨_,hv,ha,_,j⟩
      obtain⟨O,rfl⟩:=(ac (hv.at 2 rfl (af.1 rfl)) az).fG
      refine RL.aS 0 j zr my cV ?_
      exact RL.nil ⟨rfl,(),hv.pu 3,ha.u,zt,j⟩
     ·rintro D U w hD af al ⟨_,hv,ha,_,j⟩
      obtain⟨O,rfl⟩:=(ac (hv.at 5 rfl (af.1 rfl)) (ac (ha.at 2 rfl) az)).fG
      refine RL.gs true (decide (ad.cM<=ab.To)) (vp au 3) zr zr zr (eW rH) ?_
      exact RL.nil ⟨rfl,(),hv.pu 6,ha.u,zt,j⟩
     ·rintro D U w hD af al ⟨_,hv,ha,_,j⟩
      obtain⟨O,rfl⟩:=(ac (hv.at 5 rfl (af.2.1 rfl)) (ac (hv.at 6 rfl (af.1 rfl)) az)).fG
      refine RL.gs true (decide (ad.cM<=ab.To)) (vi ab.cM) rfl rfl rfl (bX 0 rfl j (fun h=>by exact(dE h:cv (true&&((decide (ad.cM<=ab.To))==true)) (vp au 3)= (vp au 3))) rfl lG cV) ?_
      exact RL.nil ⟨rfl,(),hv.pu 7,ha.u,zt,j⟩
     ·rintro D U w hD af al ⟨_,hv,ha,_,j⟩
      obtain⟨O,rfl⟩:=(ac (hv.at 5 rfl (af.1 rfl)) (ac (ha.at 1 rfl) az)).fG
      refine RL.gs true (decide (ad.cM<=ab.To)) (vp an 4) zr zr zr (eW tF) ?_
      exact RL.nil ⟨rfl,(),hv.pu 8,ha.u,zt,j⟩
     ·rintro D U w hD af al ⟨_,hv,ha,_,j⟩
      obtain⟨O,rfl⟩:=(ac (hv.at 5 rfl (af.2.1 rfl)) (ac (hv.at 8 rfl (af.1 rfl)) az)).fG
      refine RL.gs true (decide (ad.cM<=ab.To)) (vi ad.To) rfl rfl rfl (bX 4 rfl j (fun h=>by exact(dE h:cv (true&&((decide (ad.cM<=ab.To))==true)) (vp an 4)= (vp an 4))) rfl my cV) ?_
      exact RL.nil ⟨rfl,(),hv.pu 9,ha.u,zt,j⟩
     ·rintro D U w hD af al ⟨_,hv,ha,_,j⟩
      obtain⟨O,rfl⟩:=(ac (hv.at 5 rfl (af.2.2.1 rfl)) (ac (hv.at 7 rfl (af.1 rfl)) (ac (hv.at 9 rfl (af.2.1 rfl)) az))).fG
      refine RL.gs true (decide (ad.cM<=ab.To)) (vb (decide (ab.cM<=ad.To))) rfl rfl rfl (fE .leq .i64 ab.cM ad.To rfl (fun h=>by exact(dE h:cv (true&&((decide (ad.cM<=ab.To))==true)) (vi ab.cM)= (vi ab.cM))) (fun h=>by exact(dE h:cv (true&&((decide (ad.cM<=ab.To))==true)) (vi ad.To)= (vi ad.To))) rfl) ?_
      exact RL.nil ⟨rfl,(),hv.pu 10,ha.u,zt,j⟩
     ·rintro D U w hD af al ⟨_,hv,ha,_,j⟩
      obtain⟨O,rfl⟩:=(ac (hv.at 5 rfl (af.1 rfl)) (ac (hv.at 10 rfl (af.2.1 rfl)) az)).fG
      refine RL.pick (decide (ad.cM<=ab.To)) (vb ((decide (ad.cM<=ab.To))&&(decide (ab.cM<=ad.To)))) (jk true) ?_
      exact RL.nil ⟨rfl,(),hv.pu 11,ha.u,zt,j⟩
     rintro D U w a6 ⟨_,hv,ha,_,j⟩
     obtain⟨O,rfl⟩:=(ac (hv.at 19 rfl (kS a6 19)) (ac (ha.at 0 rfl) (ac (ha.at 1 rfl) (ac (ha.at 2 rfl) (ac (ha.at 3 rfl) (ac (ha.at 4 rfl) (ac (ha.at 5 rfl) (ac (ha.at 6 rfl) (ac (ha.at 7 rfl) (ac (ha.at 8 rfl) az)))))))))).fG
     obtain rfl:=oi hj
     exact⟨rfl,j.sp 7 [3,4,5,6]⟩
    obtain⟨ca,cb,hj⟩:=bd hj
    obtain⟨cc,cd,hj⟩:=bd hj
    obtain⟨br,cf,hj⟩:=bd hj
    refine RC.Dq E V mixed [1,0,1,0,1,1,0,0,0,0,0,0,1,0,0,0,0,0,1,1] [13,14,15,16] (fun(x:Value×Value×Value×Value)=>(fun ag ah ai aj=>[(0,79,(vp an 3)),(1,80,(vi ad.cM)),(2,81,(vp au 4)),(3,82,(vi ab.To)),(4,83,(vb (decide (ad.cM<=ab.To)))),(5,84,(vb (decide (ad.cM<=ab.To)))),(6,85,(cv (true&&((decide (ad.cM<=ab.To))==true)) (vp au 3))),(7,86,(cv (true&&((decide (ad.cM<=ab.To))==true)) (vi ab.cM))),(8,87,(cv (true&&((decide (ad.cM<=ab.To))==true)) (vp an 4))),(9,88,(cv (true&&((decide (ad.cM<=ab.To))==true)) (vi ad.To))),(10,89,(cv (true&&((decide (ad.cM<=ab.To))==true)) (vb (decide (ab.cM<=ad.To))))),(11,90,(vb ((decide (ad.cM<=ab.To))&&(decide (ab.cM<=ad.To))))),(12,91,(vb ((decide (ad.cM<=ab.To))&&(decide (ab.cM<=ad.To))))),(13,92,ag),(14,93,ah),(15,94,ai),(16,95,aj),(17,96,(vi br)),(18,97,(vb (br==0))),(19,98,(vb (br==0)))]) x.1 x.2.1 x.2.2.1 x.2.2.2) [(1,vp ao 0),(12,vp an 0),(14,vp au 0),(63,av),(64,vi p0.aU.length),(65,vi ax),(73,a2),(74,vi aw.length),(75,vi a5)] [] (fun(D:Nat->Bool) (x:Value×Value×Value×Value)=>(fun ag ah ai aj=>[bif D 0 then (rd ag ad) else aX,bif D 1 then (rd ah ca) else aX,bif D 2 then (rd ai ab) else aX,bif D 3 then (rd aj cc) else aX,bx 48 au ab,rd bw ab,pt bu ab,bx 27 ao p0,bx 48 an ad,rd av p0.aU,rd a2 aw]) x.1 x.2.1 x.2.2.1 x.2.2.2) (fun x=>by kernel_rfl) ?_ ⟨fun _=>nK gn rH,?_,fun _=>nK gn tF,?_,fun _=>EL gn rfl,fun _=>jJ gn,?_,?_,?_,?_,?_,?_,fun _=>jJ gn,?_,?_,?_,?_,?_,fun _=>EL (gy ar rfl) rfl,fun _=>G2 gn ar rfl,trivial⟩ ?_
    ·have j:=((((j.drew).aX).aX).aX).aX
     exact⟨(undef,undef,undef,undef),eC.none,(B1 zr),zt,j⟩
    ·rintro D U w hD af al ⟨⟨ag,ah,ai,aj⟩,hv,ha,_,j⟩
     obtain⟨O,rfl⟩:=(ac (hv.at 0 rfl (af.1 rfl)) az).fG
     refine RL.aS 8 j zr lG cV ?_
     exact RL.nil ⟨rfl,(ag,ah,ai,aj),hv.pu 1,ha.u,zt,j⟩
    ·rintro D U w hD af al ⟨⟨ag,ah,ai,aj⟩,hv,ha,_,j⟩
     obtain⟨O,rfl⟩:=(ac (hv.at 2 rfl (af.1 rfl)) az).fG
     refine RL.aS 4 j zr my cV ?_
     exact RL.nil ⟨rfl,(ag,ah,ai,aj),hv.pu 3,ha.u,zt,j⟩
    ·rintro D U w hD af al ⟨⟨ag,ah,ai,aj⟩,hv,ha,_,j⟩
     obtain⟨O,rfl⟩:=(ac (hv.at 5 rfl (af.1 rfl)) (ac (ha.at 2 rfl) az)).fG
     refine RL.gs true (decide (ad.cM<=ab.To)) (vp au 3) zr zr zr (eW rH) ?_
     exact RL.nil ⟨rfl,(ag,ah,ai,aj),hv.pu 6,ha.u,zt,j⟩
    ·rintro D U w hD af al ⟨⟨ag,ah,ai,aj⟩,hv,ha,_,j⟩
     obtain⟨O,rfl⟩:=(ac (hv.at 5 rfl (af.2.1 rfl)) (ac (hv.at 6 rfl (af.1 rfl)) az)).fG
     refine RL.gs true (decide (ad.cM<=ab.To)) (vi ab.cM) rfl rfl rfl (bX 4 rfl j (fun h=>by exact(dE h:cv (true&&((decide (ad.cM<=ab.To))==true)) (vp au 3)= (vp au 3))) rfl lG cV) ?_
     exact RL.nil ⟨rfl,(ag,ah,ai,aj),hv.pu 7,ha.u,zt,j⟩
    ·rintro D U w hD af al ⟨⟨ag,ah,ai,aj⟩,hv,ha,_,j⟩
     obtain⟨O,rfl⟩:=(ac (hv.at 5 rfl (af.1 rfl)) (ac (ha.at 1 rfl) az)).fG
     refine RL.gs true (decide (ad.cM<=ab.To)) (vp an 4) zr zr zr (eW tF) ?_
     exact RL.nil ⟨rfl,(ag,ah,ai,aj),hv.pu 8,ha.u,zt,j⟩
    ·rintro D U w hD af al ⟨⟨ag,ah,ai,aj⟩,hv,ha,_,j⟩
     obtain⟨O,rfl⟩:=(ac (hv.at 5 rfl (af.2.1 rfl)) (ac (hv.at 8 rfl (af.1 rfl)) az)).fG
     refine RL.gs true (decide (ad.cM<=ab.To)) (vi ad.To) rfl rfl rfl (bX 8 rfl j (fun h=>by exact(dE h:cv (true&&((decide (ad.cM<=ab.To))==true)) (vp an 4)= (vp an 4))) rfl my cV) ?_
     exact RL.nil ⟨rfl,(ag,ah,ai,aj),hv.pu 9,ha.u,zt,j⟩
    ·rintro D U w hD af al ⟨⟨ag,ah,ai,aj⟩,hv,ha,_,j⟩
     obtain⟨O,rfl⟩:=(ac (hv.at 5 rfl (af.2.2.1 rfl)) (ac (hv.at 7 rfl (af.1 rfl)) (ac (hv.at 9 rfl (af.2.1 rfl)) az))).fG
     refine RL.gs true (decide (ad.cM<=ab.To)) (vb (decide (ab.cM<=ad.To))) rfl rfl rfl (fE .leq .i64 ab.cM ad.To rfl (fun h=>by exact(dE h:cv (true&&((decide (ad.cM<=ab.To))==true)) (vi ab.cM)= (vi ab.cM))) (fun h=>by exact(dE h:cv (true&&((decide (ad.cM<=ab.To))==true)) (vi ad.To)= (vi ad.To))) rfl) ?_
     exact RL.nil ⟨rfl,(ag,ah,ai,aj),hv.pu 10,ha.u,zt,j⟩
    ·rintro D U w hD af al ⟨⟨ag,ah,ai,aj⟩,hv,ha,_,j⟩
     obtain⟨O,rfl⟩:=(ac (hv.at 5 rfl (af.1 rfl)) (ac (hv.at 10 rfl (af.2.1 rfl)) az)).fG
     refine RL.pick (decide (ad.cM<=ab.To)) (vb ((decide (ad.cM<=ab.To))&&(decide (ab.cM<=ad.To)))) (jk true) ?_
     exact RL.nil ⟨rfl,(ag,ah,ai,aj),hv.pu 11,ha.u,zt,j⟩
    ·rintro D U w hD af al ⟨⟨ag,ah,ai,aj⟩,hv,ha,_,j⟩
     obtain⟨O,rfl⟩:=(ac (hv.at 12 rfl (af.1 rfl)) (ac (ha.at 1 rfl) az)).fG
     have j:=j.bP 0 hD
     refine RL.aR (hg:=(cg ar)) (f:=(fun x=>x)) 8 j zr Fd.self mZ fun ch j=>?_
     have j:=(j.pl 12 [0,2,3,4,5,6,7,8,9,10,11]).cC 0 true rfl aX
     exact RL.nil ⟨rfl,(ch,ah,ai,aj),hv.pu 13,ha.u,zt,j⟩
    ·rintro D U w hD af al ⟨⟨ag,ah,ai,aj⟩,hv,ha,_,j⟩
     obtain⟨O,rfl⟩:=(ac (hv.at 12 rfl (af.2.1 rfl)) (ac (hv.at 13 rfl (af.1 rfl)) az)).fG
     have j:=(j.cB 0 (af.1 rfl)).bP 1 hD
     refine RL.call (cg ar) zr Bf [ag] zr (aD (fY N (i0:=0) j zr cb) ?_)
     rintro cj w j
     have j:=((j.pl 12 [1,0,3,4,5,6,7,8,9,10,11]).cC 0 (D 13) (af.1 rfl) aX).cC 1 true rfl aX
     exact RL.nil ⟨rfl,(ag,cj,ai,aj),hv.pu 14,ha.u,zt,j⟩
    ·rintro D U w hD af al ⟨⟨ag,ah,ai,aj⟩,hv,ha,_,j⟩
     obtain⟨O,rfl⟩:=(ac (hv.at 12 rfl (af.1 rfl)) (ac (ha.at 2 rfl) az)).fG
     have j:=j.bP 2 hD
     refine RL.aR (hg:=(cg ar)) (f:=(fun x=>x)) 4 j zr Fd.self mZ fun ck j=>?_
     have j:=(j.pl 12 [1,2,0,4,5,6,7,8,9,10,11]).cC 2 true rfl aX
     exact RL.nil ⟨rfl,(ag,ah,ck,aj),hv.pu 15,ha.u,zt,j⟩
    ·rintro D U w hD af al ⟨⟨ag,ah,ai,aj⟩,hv,ha,_,j⟩
     obtain⟨O,rfl⟩:=(ac (hv.at 12 rfl (af.2.2.1 rfl)) (ac (hv.at 15 rfl (af.1 rfl)) az)).fG
     have j:=(j.cB 2 (af.1 rfl)).bP 3 hD
     refine RL.call (cg ar) zr Bf [ai] zr (aD (fY N (i0:=2) j zr cd) ?_)
     rintro cl w j
     have j:=((j.pl 12 [1,2,3,0,5,6,7,8,9,10,11]).cC 2 (D 15) (af.1 rfl) aX).cC 3 true rfl aX
     exact RL.nil ⟨rfl,(ag,ah,ai,cl),hv.pu 16,ha.u,zt,j⟩
    ·rintro D U w hD af al ⟨⟨ag,ah,ai,aj⟩,hv,ha,_,j⟩
     obtain⟨O,rfl⟩:=(ac (hv.at 12 rfl (af.2.2.2.1 rfl)) (ac (hv.at 14 rfl (af.1 rfl)) (ac (hv.at 16 rfl (af.2.1 rfl)) az))).fG
     have j:=(j.cB 1 (af.1 rfl)).cB 3 (af.2.1 rfl)
     refine RL.call (cg ar) zr Ht [ah,aj] zr (aD (xt N (i0:=1) (i1:=3) j zr zr cf) ?_)
     rintro _ w ⟨rfl,j⟩
     have j:=(j.cC 1 (D 14) (af.1 rfl) aX).cC 3 (D 16) (af.2.1 rfl) aX
     exact RL.nil ⟨rfl,(ag,ah,ai,aj),hv.pu 17,ha.u,zt,j⟩
    rintro D U w a6 ⟨⟨ag,ah,ai,aj⟩,hv,ha,_,j⟩
    have j:=(((j.cB 0 (kS a6 13)).cB 1 (kS a6 14)).cB 2 (kS a6 15)).cB 3 (kS a6 16)
    obtain⟨O,rfl⟩:=(ac (hv.at 19 rfl (kS a6 19)) (ac (ha.at 0 rfl) (ac (ha.at 1 rfl) (ac (ha.at 2 rfl) (ac (ha.at 3 rfl) (ac (ha.at 4 rfl) (ac (ha.at 5 rfl) (ac (ha.at 6 rfl) (ac (ha.at 7 rfl) (ac (ha.at 8 rfl) az)))))))))).fG
    obtain rfl:=oi hj
    exact⟨rfl,j.sp 11 [7,8,9,10]⟩
   rintro _ w ⟨O,rfl,j⟩
   refine aJ (fZ o (fun hc o=>?_) fun hc o=>?_)
   rotate_left
   ·refine RC.skip (bZ (aJ (RC.region (RL.inc hk hm (mv (vi ((a5+1:Nat):Int)) (RL.nil ?_))))))
    obtain rfl:=oi o
    exact⟨rfl,j.sp 4 [0,1,2,3]⟩
   refine RC.sr (aN (.pointer none) (aN (vi 12) (RL.nt (RC.rb (cH ?_)))))
   obtain rfl:=oi o
   exact⟨rfl,qQ ⟨rfl,j.drop 4⟩⟩
  ·intro r U w e hK
   subst e
   refine oI (cH ?_)
   obtain rfl:=oi o
   exact⟨rfl,hK⟩
  rintro bo _ w rfl ⟨O,rfl,j⟩
  rw [Fo.gL] at o
  refine bZ (aJ (RC.region (RL.inc hk hm (mv (vi ((ax+1:Nat):Int)) (RL.nil ?_)))))
  obtain rfl:=oi o
  exact⟨rfl,j.sp 4 [0,2]⟩
 ·intro r U w e hK
  subst e
  refine cH ?_
  obtain rfl:=oi o
  exact hK
 rintro bn _ w rfl ⟨O,rfl,j⟩
 rw [Fo.gL] at o
 refine aJ (RC.sr (RL.aR (f:=(fun x=>x)) 0 j zr Fd.self fN fun cm j=>?_))
 obtain⟨cs,hcs,hv224,j⟩:=j.DG (i:=0) rfl rfl
 obtain⟨bf,bg,bh,bj,rfl⟩:=Fk hcs
 have j:=(((j.kM (i:=0) (k:=0) (f:=fun x=>x.aH) rfl i6 rfl rfl rfl).kM (i:=1) (k:=1) (f:=fun x=>x.cI) rfl su rfl rfl rfl).kM (i:=2) (k:=2) (f:=fun x=>x.aU) rfl oc rfl rfl rfl).kM (i:=3) (k:=3) (f:=fun x=>x.bC) rfl oe rfl rfl rfl
 refine RL.EJ (zs:=[(.slice none 0 0),(.slice none 0 0),(.slice none 0 0),(.slice none 0 0),(.slice none 0 0),(.slice none 0 0),(.slice none 0 0),(.slice none 0 0),(.slice none 0 0),(.slice none 0 0),(.slice none 0 0),(.slice none 0 0)]) (cs:=[bf,bg,bh,bj,(.slice none 0 0),(.slice none 0 0),(.slice none 0 0),(.slice none 0 0),(.slice none 0 0),(.slice none 0 0),(.slice none 0 0),(.slice none 0 0)]) zt zr [(0,cm)] [(0,[bf,bg,bh,bj])] zr Hu ⟨rfl,(congrArg Value.cells hv224),zt⟩ zr (RL.Ac (cs:=[bf,bg,bh,bj,(.slice none 0 0),(.slice none 0 0),(.slice none 0 0),(.slice none 0 0),(.slice none 0 0),(.slice none 0 0),(.slice none 0 0),(.slice none 0 0)]) zt zr j zr (sd.all (⟨(uA 3 j zr),(uA 2 j zr),(uA 1 j zr),(uA 0 j zr),zr,zr,zr,zr,zr,zr,zr,zr,zt⟩:sd [bf,bg,bh,bj,(.slice none 0 0),(.slice none 0 0),(.slice none 0 0),(.slice none 0 0),(.slice none 0 0),(.slice none 0 0),(.slice none 0 0),(.slice none 0 0)])) fun a1 w j=>?_)
 refine aN (vp a1 0) (RL.nq (RC.sr (mv (vp a1 0) ?_)))
 have j:=((((((j.dD (List aA) 40).dD aI 114).pull 0).pull 2).dup 6 rfl).dup 9 rfl).pull 6
 obtain⟨cn,cp,o⟩:=bd o
 refine RL.call zt zr HA [(vp a1 0)] zr (aD (pD N j cp) ?_)
 rintro _ w ⟨cq,cr,rfl,j⟩
 refine RL.not cn.1 (RL.nt (fZ o (fun hc o=>?_) fun hc o=>?_))
 ·refine RC.sr (aN (.pointer none) (aN (vi 2) (RL.nt (RC.rt ?_))))
  obtain rfl:=oi o
  exact qQ ⟨rfl,j.drop 14⟩
 refine RC.sx (mv (vp a1 0) ?_)
 have j:=(((((j.freeze 2).dD (List Int) 70).pull 0).dup 4 rfl).dup 10 rfl).pull 4
 obtain⟨dc,ct,o⟩:=bd o
 refine RL.call zt zr HD [(vp a1 0)] zr (aD (pE N j ct) ?_)
 rintro _ w ⟨cu,rfl,j⟩
 refine RL.ns (mv (vp a1 0) ?_)
 have j:=((((((((((((j.freeze 1).dD Int 3).dD Int 3).dD Int 3).dD iN 125).pull 0).pull 2).pull 4).pull 6).dup 9 rfl).dup 14 rfl).dup 19 rfl).dup 21 rfl
 have j:=j.pull 12
 obtain⟨dd,cw,o⟩:=bd o
 refine RL.call zt zr HM [(vp a1 0)] zr (aD (lX N j cw) ?_)
 rintro _ w ⟨cx,cy,cz,c0,c1,rfl,j⟩
 refine RL.ns (mv (vp a1 0) (aN (vp a1 0) (aN (vi 0) (RL.nt (RC.ret ?_)))))
 obtain rfl:=oi o
 exact qQ ⟨a1,bf,bg,bh,bj,cq,cr,cu,cx,cy,cz,c0,c1,zr,j.pk 27 [0,22,21,20,19,14,15,11,1,2,3,4,5]⟩
theorem ju {p0:eL} (j:Holds E w V) (h0:V[i0]? =some (rd v0 p0)) (hb:dH N p0=some res):
    Calls bG 13 [v0].toArray w (gF (aQ E V res)):=by
 unfold dH at hb
 refine enter Tryz.func13 zr zr ?_
 have j:=j.dup (i0+0) h0
 refine RC.sr (RL.cX 0 v0 j zr fun ag w j=>?_)
 refine aN (vi 0) (RL.ns (RL.aR (f:=(fun x=>x)) 0 j zr Fd.self fN fun ae j=>?_))
 obtain⟨o,af,hb⟩:=bd hb
 refine RL.call zt zr Gm [ae] zr (aD (qg N (i0:=0) j zr af) ?_)
 rintro _ w hK49
 rcases ab:o.1 with _ | ah
 ·replace hb:=Fq ab hb
  obtain⟨rfl,j⟩:=Ed ab hK49
  refine mv (.tuple #[(.pointer none),(vi o.2)]) (RL.extract (.pointer none) (RL.extract (vi o.2) (aN (.pointer none) (aN (vi o.2) (RL.ns (mv (vi o.2) (aN (vi o.2) (RL.nt ?_))))))))
  refine RC.ret ?_
  obtain rfl:=oi hb
  exact cA ⟨rfl,j.drop 3⟩
 replace hb:=Ft ab hb
 obtain⟨ad,ai,aj,ak,al,an,ao,aq,ar,au,av,aw,ax,rfl,j⟩:=Ee ab hK49
 refine mv (.tuple #[(vp ad 0),(vi o.2)]) (RL.extract (vp ad 0) (RL.extract (vi o.2) (aN (vp ad 0) (aN (vi o.2) (RL.ns (mv (vi o.2) (aN (vi o.2) (RL.nt ?_))))))))
 refine RC.ret ?_
 obtain rfl:=oi hb
 exact cA ⟨rfl,j.drop 16⟩
theorem rR {p0 p1 res:Bool} (o:Holds E w V) (j:kO N p0 p1=some res):
    Calls bG 20 [(vb p0),(vb p1)].toArray w (gF (bD E V res)):=by
 unfold kO at j
 refine enter Tryz.func20 zr zr (RC.sr (aN (vb false) (RL.ns (mv (vb p0) (mv (vb p0) (RL.gs true p0 (vb p1) zr zr zr dO (RL.pick p0 (vb (p0||p1)) (o8 true zr) (aN (vb (p0||p1)) ?_))))))))
 refine RL.nt (RC.ret ?_)
 obtain rfl:=oi j
 exact cA ⟨rfl,o.drop 0⟩
theorem ux {p0: (List aA)} {p1: (List aA)} {res: (List aA)} (o:Holds E w V) (h0:V[i0]? =some (rd v0 p0)) (h1:V[i1]? =some (rd v1 p1)) (hb:ml N p0 p1=some res):
    Calls bG 9 [v0,v1].toArray w (gF (i7 E V res)):=by
 unfold ml at hb
 refine enter Tryz.func9 zr zr ?_
 have o:=(o.dup (i0+0) h0).dup (i1+1) h1
 refine RC.sr (aN (.slice none 0 0) (RL.ns (mv v0 (mv v1 ?_))))
 obtain⟨af,ab,hb⟩:=bd hb
 refine RL.call trivial rfl F1 [v0,v1,(.func (.func 20) #[] #[])] rfl (aD (p7 N (i0:=1) (i1:=0) o rfl rfl ⟨20,[],rfl,HN,fun w Γl v v' y0 y1 r i j o hi hj hr=>by obtain rfl:=o.vS (γ:=Bool) hi;obtain rfl:=o.vS (γ:=Bool) hj;exact aD (rR N (p0:=y0) (p1:=y1) o hr) fun _ _ h=>h⟩ ab) ?_)
 rintro ae w o
 refine aN ae (RL.nt (RC.ret ?_))
 obtain rfl:=oi hb
 exact cA (o.pk 3 [0])
def tM (E:World) (V:List HP) (res: (List aG)×Int) (v:Value) (w:World):Prop:=∃u0:Value,v = .tuple #[u0,(vi res.2)]/\Holds E w ([own 42 u0 res.1]++V)
theorem nA {p0: (List aA)} {res: (List aG)×Int} (j:Holds E w V) (h0:V[i0]? =some (rd v0 p0)) (o:gS N p0=some res):
    Calls bG 17 [v0].toArray w (gF (tM E V res)):=by
 unfold gS at o
 refine enter Tryz.func17 zr zr ?_
 have j:=j.dup (i0+0) h0
 refine RC.sr (aN (.slice none 0 0) (aN (vi 0) (RL.nq (RC.sr (mv v0 ?_)))))
 obtain⟨ab,ad,o⟩:=bd o
 refine RL.call zt zr F3 [v0] zr (aD (nz N (i0:=0) j zr ad) ?_)
 rintro _ w ⟨rfl,j⟩
 refine ic ab 2000 (RL.nt (fZ o (fun hc o=>?_) fun hc o=>?_))
 ·refine RC.sr (aN (.slice none 0 0) (aN (vi 2) (RL.nt (RC.rt ?_))))
  obtain rfl:=oi o
  have j:=j.dD aG 42
  exact qQ ⟨(.slice none 0 0),zr,j.pk 2 [0]⟩
 refine RC.sx (mv v0 ?_)
 obtain⟨ag,af,o⟩:=bd o
 refine RL.call zt zr DJ [v0] zr (aD (jt N (i0:=0) j zr af) ?_)
 rintro aa w j
 refine aN aa (aN (vi 0) (RL.nt (RC.ret ?_)))
 obtain rfl:=oi o
 exact qQ ⟨aa,zr,j.pk 2 [0]⟩
def oW (E:World) (V:List HP) (res: (List (List aG))) (v:Value) (w:World):Prop:=Holds E w ([own 23 v res]++V)
theorem ov {p0: (List (List aG))} {res: (List (List aG))} (j:Holds E w V) (h0:V[i0]? =some (rd v0 p0)) (o:j3 N p0=some res):
    Calls bG 40 [v0].toArray w (gF (oW E V res)):=by
 unfold j3 at o
 refine enter Tryz.func40 zr zr ?_
 have j:=j.dup (i0+0) h0
 refine RC.sr (aN (.slice none 0 0) (RL.nq (RC.sr (mv v0 (RL.z9 0 zr j zr zr zr tC (RL.nt (RC.cond (ze v0) zr (fun hc=>?_) (fun hc=>?_))))))))
 ·have hx:=j.DC (i:=0) rfl hc
  rw [hx] at o
  replace o:some ([]: (List (List aG)))=_:=o
  refine RC.sr (aN (.slice none 0 0) (RL.nt (RC.rt ?_)))
  obtain rfl:=oi o
  have j:=j.dD (List aG) 23
  exact cA (j.pk 2 [0])
 refine RC.sx (RL.fI ([]: (List (List aG))) j [] tD F6 (fun M hs g=>zt) fun ae w j=>(mv v0 ?_))
 obtain⟨af,ab,o⟩:=bd o
 refine RL.app 0 1 j F7 ab fun ad w j=>?_
 refine aN ad (RL.nt (RC.ret ?_))
 obtain rfl:=oi o
 exact cA (j.pk 2 [0])
def re (E:World) (V:List HP) (res: (List bH)) (v:Value) (w:World):Prop:=Holds E w ([own 48 v res]++V)
theorem qh {p0: (List bH)} {res: (List bH)} (j:Holds E w V) (h0:V[i0]? =some (rd v0 p0)) (o:jN N p0=some res):
    Calls bG 41 [v0].toArray w (gF (re E V res)):=by
 unfold jN at o
 refine enter Tryz.func41 zr zr ?_
 have j:=j.dup (i0+0) h0
 refine RC.sr (aN (.slice none 0 0) (RL.nq (RC.sr (mv v0 (RL.z9 0 zr j zr zr zr vX (RL.nt (RC.cond (ze v0) zr (fun hc=>?_) (fun hc=>?_))))))))
 ·have hx:=j.DC (i:=0) rfl hc
  rw [hx] at o
  replace o:some ([]: (List bH))=_:=o
  refine RC.sr (aN (.slice none 0 0) (RL.nt (RC.rt ?_)))
  obtain rfl:=oi o
  have j:=j.dD bH 48
  exact cA (j.pk 2 [0])
 refine RC.sx (RL.fI ([]: (List bH)) j [] xf zk (fun M hs g=>zt) fun ae w j=>(mv v0 ?_))
 obtain⟨af,ab,o⟩:=bd o
 refine RL.app 0 1 j HQ ab fun ad w j=>?_
 refine aN ad (RL.nt (RC.ret ?_))
 obtain rfl:=oi o
 exact cA (j.pk 2 [0])
def rf (E:World) (V:List HP) (res: (List bW)) (v:Value) (w:World):Prop:=Holds E w ([own 92 v res]++V)
theorem qj {p0: (List bW)} {res: (List bW)} (j:Holds E w V) (h0:V[i0]? =some (rd v0 p0)) (o:jO N p0=some res):
    Calls bG 42 [v0].toArray w (gF (rf E V res)):=by
 unfold jO at o
 refine enter Tryz.func42 zr zr ?_
 have j:=j.dup (i0+0) h0
 refine RC.sr (aN (.slice none 0 0) (RL.nq (RC.sr (mv v0 (RL.z9 0 zr j zr zr zr Cn (RL.nt (RC.cond (ze v0) zr (fun hc=>?_) (fun hc=>?_))))))))
 ·have hx:=j.DC (i:=0) rfl hc
  rw [hx] at o
  replace o:some ([]: (List bW))=_:=o
  refine RC.sr (aN (.slice none 0 0) (RL.nt (RC.rt ?_)))
  obtain rfl:=oi o
  have j:=j.dD bW 92
  exact cA (j.pk 2 [0])
 refine RC.sx (RL.fI ([]: (List bW)) j [] Bg EV (fun M hs g=>zt) fun ae w j=>(mv v0 ?_))
 obtain⟨af,ab,o⟩:=bd o
 refine RL.app 0 1 j HS ab fun ad w j=>?_
 refine aN ad (RL.nt (RC.ret ?_))
 obtain rfl:=oi o
 exact cA (j.pk 2 [0])
end Go.Gk
namespace Go.Gk
open Go Go.Proofs
variable (N:Nat) {E w:World} {i0 i1 i2 i3 i4:Nat} {p1 res:Int} {v0 v1 v2 v3 v4:Value} {V:List HP}
def xu (E:World) (V:List HP) (res: ((List (List aG))×(List aG)×(List bH)×(List bW))) (v:Value) (w:World):Prop:=∃u0_0 u0_1 u0_2 u0_3:Value,v= (.agg ([u0_0,u0_1,u0_2,u0_3]:List Value).toArray)/\Holds E w ([own 23 u0_0 res.1,own 42 u0_1 res.2.1,own 48 u0_2 res.2.2.1,own 92 u0_3 res.2.2.2]++V)
theorem rp {p0:eL} {res: ((List (List aG))×(List aG)×(List bH)×(List bW))} (j:Holds E w V) (h0:V[i0]? =some (rd v0 p0)) (o:kT N p0=some res):
    Calls bG 18 [v0].toArray w (gF (xu E V res)):=by
 unfold kT at o
 refine enter Tryz.func18 zr zr ?_
 have j:=j.dup (i0+0) h0
 refine RC.sr (RL.cX 0 v0 j zr fun ab w j=>?_)
 refine RL.nW j E2 fun an w j=>?_
 refine RL.ns (RL.bF zr jK (RL.aR 1 j zr i6 pz fun av j=>?_))
 obtain⟨al,aw,o⟩:=bd o
 refine RL.call zt zr HO [av] zr (aD (ov N (i0:=0) j zr aw) ?_)
 rintro aa w j
 refine RL.bF zr jK ?_
 obtain⟨cs,hcs,j⟩:=j.DB (i:=3) rfl
 obtain⟨a3,ag,ad,ae,rfl⟩:=Fk hcs
 have j:=(((j.kM (i:=0) (k:=0) (f:=fun x=>x.aH) rfl i6 rfl rfl rfl).kM (i:=1) (k:=1) (f:=fun x=>x.cI) rfl su rfl rfl rfl).kM (i:=2) (k:=2) (f:=fun x=>x.aU) rfl oc rfl rfl rfl).kM (i:=3) (k:=3) (f:=fun x=>x.bC) rfl oe rfl rfl rfl
 refine RL.gj 8 aa j zr zr (dP 5 j) pz fun w j=>?_
 refine RL.nq (RC.sr (RL.bF zr jK (RL.bK 8 aa j pz (RL.fU 5 al j tC (mv (vi 0) (RL.nt ?_))))))
 obtain⟨ah,hN,o⟩:=bd o
 refine RC.fold (fun(af:Nat) (ah: (List (List aG)))=>SH E V [(1,vp ab 0),(2,vp an 0),(10,vi al.length),(11,vi af)] [bc 27 ab [aa,ag,ad,ae],own 23 aa ah,rd ag p0.cI,rd ad p0.aU,rd ae p0.bC,bc 27 an [(.slice none 0 0),(.slice none 0 0),(.slice none 0 0),(.slice none 0 0)]]) (fun(ah: (List (List aG)))=>SH E V [(1,vp ab 0),(2,vp an 0)] [bc 27 ab [aa,ag,ad,ae],own 23 aa ah,rd ag p0.cI,rd ad p0.aU,rd ae p0.bC,bc 27 an [(.slice none 0 0),(.slice none 0 0),(.slice none 0 0),(.slice none 0 0)]]) hN ?_ ?_ ?_ ?_
 ·exact j.sp 10 [8,5,2,1,0,7]
 ·rintro hm ah _ w ⟨O,rfl,j⟩
  refine RC.sr (ic ((al.length:Int)) ((al.length:Int)) (RL.nq (RC.dX px (RC.ex ?_))))
  exact⟨rfl,j.sp 6 [0,1,2,3,4,5]⟩
 ·rintro hm af ah s' _ w hk ⟨O,rfl,j⟩ o
  refine RC.sr (ic ((af:Int)) ((al.length:Int)) (RL.nq (RC.dW (pw hk) (RC.ss (RC.bs (mv (vi af) (aN (vi af) (RL.nt ?_))))))))
  have j:=j.drew
  refine RC.A3 (fun w=>Holds E w ([bc 27 ab [aa,ag,ad,ae]]++V)) mixed zr [1,1,1,0,0,0,0,0,2,0,2] [0,1,2,3,4,5,6,7,8,9,10] (j.pk 6 [0]) (DP.e1 (vp ab 0) zr (fun w=>RL.bF zr jK DP.d1) (DP.DH aa zr (fun w j=>RL.bK 0 aa j pz DP.d1) (DP.e1 (vi af) zr (fun w=>RL.move (vi af) zt DP.d1) (DP.e0 zr (RL.bF zr jK (dJ zr (RL.bK 0 aa j pz (dJ zr ?_))))))))
  refine mv (vi af) (dJ zr ?_)
  obtain⟨a4,ao,o⟩:=bd o
  refine RL.bM 1 j zr zr tD ao (dJ zr (RL.kj (f:=(fun x=>x)) 1 j (jQ 1 j ao 0) (aY ao).2.1 Fd.self pS fun ay j=>?_))
  refine uB zr ?_
  obtain⟨a5,az,o⟩:=bd o
  refine RL.call zt zr ET [ay] zr (aD (j8 N (i0:=0) j zr az) ?_)
  rintro a6 w j
  refine DP.d2 (j.pk 8 [2]) (DP.e0 zr ?_)
  obtain⟨a7,aq,o⟩:=bd o
  refine RL.bM 3 j zr zr tD aq (uB zr ?_)
  have j:=j.freeze 0
  refine RL.fJ (f:=(fun _ y=>y)) 3 0 j (jQ 3 j aq 0) (aY aq).2.1 zr Fs.self pS fun w j=>?_
  refine DP.d2 (j.pk 8 [2]) (DP.z (bZ (aJ (RC.region (RL.inc hk hm (mv (vi ((af+1:Nat):Int)) (RL.nil ?_)))))))
  obtain rfl:=oi o
  exact⟨rfl,j.sp 8 [2,3,4,5,6,7]⟩
 rintro _ w ⟨O,rfl,j⟩
 refine aJ (RC.seq ?_)
 have j:=j.drew
 refine RC.A3 (fun w=>Holds E w ([bc 27 ab [aa,ag,ad,ae]]++V)) mixed zr [0,0,2,1,1,2,1,1,2,1,2,0,2,0,2] [0,1,3,4,6,7,2,9,5,8,10,11,12,13,14] (j.pk 6 [0]) (DP.e0 zr (RL.bF zr xc (dJ zr (RL.bK 0 ag j pS (DP.d0 (DP.e1 (vp ab 2) zr (fun w=>RL.bF zr ma DP.d1) (DP.DH ad zr (fun w j=>RL.bK 0 ad j uq DP.d1) (DP.e1 (vp ab 3) zr (fun w=>RL.bF zr rI DP.d1) ?_))))))))
 refine DP.DH ae zr (fun w j=>RL.bK 0 ae j zn DP.d1) (DP.e2 zr ?_)
 obtain⟨a8,a0,o⟩:=bd o
 refine RL.call zt zr ET [ag] zr (aD (j8 N (i0:=2) j zr a0) ?_)
 rintro ai w j
 refine DP.d2 (j.pk 7 [1]) (DP.e1 (vp ab 1) zr (fun w=>RL.bF zr xc DP.d1) (DP.e2 zr ?_))
 obtain⟨a9,a1,o⟩:=bd o
 refine RL.call zt zr HR [ad] zr (aD (qh N (i0:=4) j zr a1) ?_)
 rintro aj w j
 refine DP.d2 (j.pk 8 [2]) (DP.e2 zr ?_)
 obtain⟨ba,a2,o⟩:=bd o
 refine RL.call zt zr HT [ae] zr (aD (qj N (i0:=6) j zr a2) ?_)
 rintro ak w j
 refine DP.d2 (j.pk 9 [3]) (DP.G4 zr zr (RL.gj 3 ai j zr zr (dP 2 j) pS fun w j=>?_))
 refine Ai zr (RL.bF zr ma (uB zr (RL.gj 3 aj j zr zr (dP 1 j) uq fun w j=>?_)))
 refine Ai zr (RL.bF zr rI (uB zr (RL.gj 3 ak j zr zr (dP 0 j) zn fun w j=>?_)))
 refine DP.d2 zt (DP.z (aJ (RC.sr (RL.yf (cs:=[aa,ai,aj,ak]) 3 zt zr j zr zr fN zr (RL.tr 8 [aa,ai,aj,ak] j zr zr zr (sd.all (⟨(dP 4 j),(dP 2 j),(dP 1 j),(dP 0 j),zt⟩:sd [aa,ai,aj,ak])) fN zr zr fun w j=>?_)))))
 refine RL.nt (RC.ret ?_)
 obtain rfl:=oi o
 exact Fp (i:=8) (cs:=[aa,ai,aj,ak]) zr j zr zr fN zr ⟨aa,ai,aj,ak,zr,j.pk 9 [4,2,1,0]⟩
theorem oX {p0:eL} {p2: (List aG)} {res:eL×Int} (j:Holds E w V) (h0:V[i0]? =some (rd v0 p0)) (h2:V[i2]? =some (rd v2 p2)) (o:iQ N p0 p1 p2=some res):
    Calls bG 8 [v0,(vi p1),v2,(.func (.func 9) #[] #[])].toArray w (gF (g9 E V res)):=by
 unfold iQ at o
 refine enter Tryz.func8 zr zr ?_
 have j:=(j.dup (i0+0) h0).dup (i2+1) h2
 refine RC.sr (RL.cX 1 v0 j zr fun bj w j=>?_)
 refine RL.alloc j A9.z fun bk w j=>?_
 refine aN (vi 0) (RL.nq (RC.sr (RL.aR (f:=(fun x=>x)) 1 j zr Fd.self fN fun ao j=>?_)))
 obtain⟨ad,aq,o⟩:=bd o
 refine RL.call zt zr DQ [ao] zr (aD (ju N (i0:=0) j zr aq) ?_)
 rintro _ w ⟨rfl,j⟩
 refine aN (vi ad) (RL.ns (mv (vi ad) (ic ad 0 (RL.nt (fZ o (fun hc o=>?_) fun hc o=>?_)))))
 ·refine RC.sr (RL.mE [(.slice none 0 0),(.slice none 0 0),(.slice none 0 0),(.slice none 0 0)] [(.slice none 0 0),(.slice none 0 0),(.slice none 0 0),(.slice none 0 0)] [] vY (mv (vi ad) ?_))
  have j:=((((j.dF (List aG)).dF aG).dF bH).dF bW).mF (cs:=[(.slice none 0 0),(.slice none 0 0),(.slice none 0 0),(.slice none 0 0)]) (x:=(⟨([]: (List (List aG))),([]: (List aG)),([]: (List bH)),([]: (List bW))⟩:eL)) (fun M hs g=>⟨[(.slice none 0 0)],[(.slice none 0 0),(.slice none 0 0),(.slice none 0 0)],rfl,(cF (g.sat 3 _ rfl).1),⟨[(.slice none 0 0)],[(.slice none 0 0),(.slice none 0 0)],rfl,(cF (g.sat 2 _ rfl).1),⟨[(.slice none 0 0)],[(.slice none 0 0)],rfl,(cF (g.sat 1 _ rfl).1),(cF (g.sat 0 _ rfl).1)⟩⟩⟩) rfl
  refine RL.aZ 6 j 0 zr fN fun w j=>?_
  refine aN (vi ad) (RL.nt (RC.rt ?_))
  obtain rfl:=oi o
  exact kV 6 j fN fun ar j=>⟨ar,zr,j.pk 11 [0]⟩
 refine RC.ss (RC.sr (mv (vi p1) (RL.bF zr jK (RL.aR 2 j zr i6 pz fun bl j=>(RL.bO 0 p0.aH j tC (RL.jV (p0.aH.length:Int) 1 ?_))))))
 obtain⟨au,av,o⟩:=bd o
 refine RL.call zt zr Be [(vi p1),(vi 0),(vi (IntKind.wrap .i64 ((p0.aH.length:Int) - 1)))] zr (aD (gJ N (p0:=p1) (p1:=0) (p2:=(IntKind.wrap .i64 ((p0.aH.length:Int) - 1))) j av) ?_)
 rintro _ w ⟨rfl,j⟩
 refine RL.not au (RL.nt (fZ o (fun hc o=>?_) fun hc o=>?_))
 ·refine RC.sr (RL.mE [(.slice none 0 0),(.slice none 0 0),(.slice none 0 0),(.slice none 0 0)] [(.slice none 0 0),(.slice none 0 0),(.slice none 0 0),(.slice none 0 0)] [] vY ?_)
  have j:=((((j.dF (List aG)).dF aG).dF bH).dF bW).mF (cs:=[(.slice none 0 0),(.slice none 0 0),(.slice none 0 0),(.slice none 0 0)]) (x:=(⟨([]: (List (List aG))),([]: (List aG)),([]: (List bH)),([]: (List bW))⟩:eL)) (fun M hs g=>⟨[(.slice none 0 0)],[(.slice none 0 0),(.slice none 0 0),(.slice none 0 0)],rfl,(cF (g.sat 3 _ rfl).1),⟨[(.slice none 0 0)],[(.slice none 0 0),(.slice none 0 0)],rfl,(cF (g.sat 2 _ rfl).1),⟨[(.slice none 0 0)],[(.slice none 0 0)],rfl,(cF (g.sat 1 _ rfl).1),(cF (g.sat 0 _ rfl).1)⟩⟩⟩) rfl
  refine RL.aZ 7 j 0 zr fN fun w j=>?_
  refine aN (vi 9) (RL.nt (RC.rt ?_))
  obtain rfl:=oi o
  exact kV 7 j fN fun aw j=>⟨aw,zr,j.pk 12 [0]⟩
 refine RC.ss (RC.sr (mv v2 ?_))
 obtain⟨ae,ax,o⟩:=bd o
 refine RL.call zt zr DK [v2] zr (aD (iA N (i0:=4) j zr ax) ?_)
 rintro _ w ⟨rfl,j⟩
 refine aN (vi ae) (RL.ns (mv (vi ae) (ic ae 0 (RL.nt (fZ o (fun hc o=>?_) fun hc o=>?_)))))
 ·refine RC.sr (RL.mE [(.slice none 0 0),(.slice none 0 0),(.slice none 0 0),(.slice none 0 0)] [(.slice none 0 0),(.slice none 0 0),(.slice none 0 0),(.slice none 0 0)] [] vY (mv (vi ae) ?_))
  have j:=((((j.dF (List aG)).dF aG).dF bH).dF bW).mF (cs:=[(.slice none 0 0),(.slice none 0 0),(.slice none 0 0),(.slice none 0 0)]) (x:=(⟨([]: (List (List aG))),([]: (List aG)),([]: (List bH)),([]: (List bW))⟩:eL)) (fun M hs g=>⟨[(.slice none 0 0)],[(.slice none 0 0),(.slice none 0 0),(.slice none 0 0)],rfl,(cF (g.sat 3 _ rfl).1),⟨[(.slice none 0 0)],[(.slice none 0 0),(.slice none 0 0)],rfl,(cF (g.sat 2 _ rfl).1),⟨[(.slice none 0 0)],[(.slice none 0 0)],rfl,(cF (g.sat 1 _ rfl).1),(cF (g.sat 0 _ rfl).1)⟩⟩⟩) rfl
  refine RL.aZ 7 j 0 zr fN fun w j=>?_
  refine aN (vi ae) (RL.nt (RC.rt ?_))
  obtain rfl:=oi o
  exact kV 7 j fN fun ay j=>⟨ay,zr,j.pk 12 [0]⟩
 refine RC.sx (mv (.func (.func 9) #[] #[]) (RL.bF zr jK (RL.aR 3 j zr i6 pz fun bm j=>(mv (vi p1) ?_))))
 obtain⟨az,a0,o⟩:=bd o
 refine RL.cQ 0 j tD a0 fun bn j=>(RL.cG 0 az j pS fun a1 j=>?_)
 obtain⟨bo,a2,o⟩:=bd o
 refine RL.call zt zr xe [a1] zr (aD (fO N (i0:=0) j zr a2) ?_)
 rintro a3 w j
 refine mv v2 ?_
 obtain⟨bp,a4,o⟩:=bd o
 refine RL.call zt zr xe [v2] zr (aD (fO N (i0:=8) j zr a4) ?_)
 rintro a5 w j
 have j:=(j.freeze 1).freeze 0
 obtain⟨bq,a6,o⟩:=bd o
 refine RL.uJ [] zr Iw zr [a3,a5] zr (aD (ux N (i0:=1) (i1:=0) j zr zr a6) ?_)
 rintro a7 w j
 have j:=j.freeze 0
 obtain⟨ab,a8,o⟩:=bd o
 refine RL.call zt zr Gn [a7] zr (aD (nA N (i0:=0) j zr a8) ?_)
 rintro _ w ⟨ai,rfl,j⟩
 refine mv (.tuple #[ai,(vi ab.2)]) (RL.extract ai (RL.extract (vi ab.2) (aN ai (aN (vi ab.2) (RL.nq (RC.sr (mv (vi ab.2) (ic ab.2 0 ?_))))))))
 refine RL.nt (fZ o (fun hc o=>?_) fun hc o=>?_)
 ·refine RC.sr (RL.mE [(.slice none 0 0),(.slice none 0 0),(.slice none 0 0),(.slice none 0 0)] [(.slice none 0 0),(.slice none 0 0),(.slice none 0 0),(.slice none 0 0)] [] vY (mv (vi ab.2) ?_))
  have j:=((((j.dF (List aG)).dF aG).dF bH).dF bW).mF (cs:=[(.slice none 0 0),(.slice none 0 0),(.slice none 0 0),(.slice none 0 0)]) (x:=(⟨([]: (List (List aG))),([]: (List aG)),([]: (List bH)),([]: (List bW))⟩:eL)) (fun M hs g=>⟨[(.slice none 0 0)],[(.slice none 0 0),(.slice none 0 0),(.slice none 0 0)],rfl,(cF (g.sat 3 _ rfl).1),⟨[(.slice none 0 0)],[(.slice none 0 0),(.slice none 0 0)],rfl,(cF (g.sat 2 _ rfl).1),⟨[(.slice none 0 0)],[(.slice none 0 0)],rfl,(cF (g.sat 1 _ rfl).1),(cF (g.sat 0 _ rfl).1)⟩⟩⟩) rfl
  refine RL.aZ 14 j 0 zr fN fun w j=>?_
  refine aN (vi ab.2) (RL.nt (RC.rt ?_))
  obtain rfl:=oi o
  exact kV 14 j fN fun a9 j=>⟨a9,zr,j.pk 19 [0]⟩
 refine RC.sx (RL.aR (f:=(fun x=>x)) 10 j zr Fd.self fN fun ba j=>?_)
 obtain⟨aj,bb,o⟩:=bd o
 refine RL.call zt zr Gp [ba] zr (aD (rp N (i0:=0) j zr bb) ?_)
 rintro _ w ⟨ak,al,af,ag,rfl,j⟩
 refine RL.nW j E2 fun br w j=>?_
 refine RL.tr 0 [ak,al,af,ag] j zr zr zr (sd.all (⟨(dP 1 j),(dP 2 j),(dP 3 j),(dP 4 j),zt⟩:sd [ak,al,af,ag])) fN zr zr fun w j=>?_
 refine RL.ns (RL.bF zr jK (RL.bK 0 ak j pz (mv (vi p1) (mv ai ?_))))
 obtain⟨bs,an,o⟩:=bd o
 refine RL.bM 1 j zr zr tD an ?_
 have j:=j.freeze 6
 refine RL.fJ (f:=(fun _ y=>y)) 1 6 j (jQ 1 j an 0) (aY an).2.1 zr Fs.self pS fun w j=>?_
 refine RL.nq (RC.sr ?_)
 have j:=((((j.freeze 1).freeze 2).freeze 3).freeze 4).uP (i:=0) (x:=(⟨(aj.1.set (Int.toNat p1) ab.1),aj.2.1,aj.2.2.1,aj.2.2.2⟩:eL)) rfl (fun M hs g=>⟨[ak],[al,af,ag],rfl,(cF (g.sat 1 _ rfl).1),⟨[al],[af,ag],rfl,(cF (g.sat 2 _ rfl).1),⟨[af],[ag],rfl,(cF (g.sat 3 _ rfl).1),(cF (g.sat 4 _ rfl).1)⟩⟩⟩)
 refine RL.aR (f:=(fun x=>x)) 0 j zr Fd.self fN fun bc j=>?_
 obtain⟨ah,bf,o⟩:=bd o
 refine RL.call zt zr DQ [bc] zr (aD (ju N (i0:=0) j zr bf) ?_)
 rintro _ w ⟨rfl,j⟩
 refine aN (vi ah) (RL.ns (mv (vi ah) (ic ah 0 (RL.nt (fZ o (fun hc o=>?_) fun hc o=>?_)))))
 rotate_left
 ·refine RC.sx (RL.aR (f:=(fun x=>x)) 1 j zr Fd.self fN fun bt j=>(RL.aZ 17 j 0 zr fN fun w j=>?_))
  refine aN (vi 0) (RL.nt (RC.ret ?_))
  obtain rfl:=oi o
  exact kV 17 j fN fun bg j=>⟨bg,zr,j.pk 22 [0]⟩
 refine RC.sr (RL.mE [(.slice none 0 0),(.slice none 0 0),(.slice none 0 0),(.slice none 0 0)] [(.slice none 0 0),(.slice none 0 0),(.slice none 0 0),(.slice none 0 0)] [] vY (mv (vi ah) ?_))
 have j:=((((j.dF (List aG)).dF aG).dF bH).dF bW).mF (cs:=[(.slice none 0 0),(.slice none 0 0),(.slice none 0 0),(.slice none 0 0)]) (x:=(⟨([]: (List (List aG))),([]: (List aG)),([]: (List bH)),([]: (List bW))⟩:eL)) (fun M hs g=>⟨[(.slice none 0 0)],[(.slice none 0 0),(.slice none 0 0),(.slice none 0 0)],rfl,(cF (g.sat 3 _ rfl).1),⟨[(.slice none 0 0)],[(.slice none 0 0),(.slice none 0 0)],rfl,(cF (g.sat 2 _ rfl).1),⟨[(.slice none 0 0)],[(.slice none 0 0)],rfl,(cF (g.sat 1 _ rfl).1),(cF (g.sat 0 _ rfl).1)⟩⟩⟩) rfl
 refine RL.aZ 21 j 0 zr fN fun w j=>?_
 refine aN (vi ah) (RL.nt (RC.rt ?_))
 obtain rfl:=oi o
 exact kV 21 j fN fun bh j=>⟨bh,zr,j.pk 26 [0]⟩
theorem u7 {p0:eL} {p2: (List aG)} {res:eL×Int} (j:Holds E w V) (h0:V[i0]? =some (rd v0 p0)) (h2:V[i2]? =some (rd v2 p2)) (o:lQ N p0 p1 p2=some res):
    Calls bG 4 [v0,(vi p1),v2].toArray w (gF (g9 E V res)):=by
 unfold lQ at o
 refine enter Tryz.func4 zr zr ?_
 have j:=(j.dup (i0+0) h0).dup (i2+1) h2
 refine RC.sr (RL.cX 1 v0 j zr fun ag w j=>?_)
 refine RL.alloc j A9.z fun ah w j=>?_
 refine aN (vi 0) (RL.ns (RL.aR (f:=(fun x=>x)) 1 j zr Fd.self fN fun ab j=>(mv (vi p1) (mv v2 ?_))))
 obtain⟨aa,ad,o⟩:=bd o
 refine RL.call zt zr Ig [ab,(vi p1),v2,(.func (.func 9) #[] #[])] zr (aD (oX N (p1:=p1) (i0:=0) (i2:=3) j zr zr ad) ?_)
 rintro _ w ⟨ae,rfl,j⟩
 refine RL.extract ae (RL.extract (vi aa.2) (RL.aZ 2 j 0 zr fN fun w j=>?_))
 refine aN (vi aa.2) (RL.nt (RC.ret ?_))
 obtain rfl:=oi o
 exact kV 2 j fN fun af j=>⟨af,zr,j.pk 7 [0]⟩
theorem gG {res:Bool} (j:Holds E w V) (hb:cU N=some res):
    Calls bG 5 [].toArray w (gF (bD E V res)):=by
 unfold cU at hb
 refine enter Tryz.func5 zr zr (RC.sr (aN (vb false) (RL.ns ?_)))
 have j:=j.sc Int 2
 refine RL.build (⟨⟨0,0⟩,2,0,0,false⟩:bH) trivial rfl j [(1,vi 2)] rfl HU rfl (fun M hs g=>by have h:=ES M;exact dR.cons (f:=fun(x:bH) y=>{x with eD:=y}) h A7 (g.sat 0 _ rfl).1 fun _ h=>dR.nil h) fun ag j=>?_
 obtain⟨o,ah,hb⟩:=bd hb
 refine RL.call zt zr FI [ag] zr (aD (oq N (i0:=0) j zr ah) ?_)
 rintro _ w ⟨af,rfl,j⟩
 refine mv (.tuple #[af,(vi o.2)]) (RL.extract af (RL.extract (vi o.2) (RL.alloc j nL.z fun ai w j=>?_)))
 refine RL.aZ 0 j 1 zr gU fun w j=>?_
 refine aN (vi o.2) (RL.nq ?_)
 obtain⟨ae,hj,hb⟩:=bd hb
 refine RC.jn (fun(ae:Bool)=>SH E V [(0,vb ae)] []) ae ?_ ?_
 ·refine RC.region (mv (vi o.2) (ic o.2 0 (mv (vb (o.2==0)) (iz hj (fun aa hj=>?_) fun aa hj=>?_))))
  rotate_left
  ·refine cD aa (cD aa (cD aa (iJ aa (vb false) (aN (vb false) (RL.nil ?_)))))
   obtain rfl:=oi hj
   exact⟨rfl,j.sp 4 []⟩
  refine RL.aR (hg:=(cg aa)) (f:=(fun x=>x)) 0 j zr Fd.self gU fun aj j=>?_
  have j:=(((j.sc Int (-1)).sc Int (-1)).sc Int 1).sc Int 1
  refine RL.build (⟨(-1),(-1),1,1⟩:aG) (cg aa) rfl j [(0,(vi (-1))),(1,(vi (-1))),(2,vi 1),(3,vi 1)] rfl Bc rfl (fun M hs g=>by have h:=rG M;exact dR.cons (f:=fun(x:aG) y=>{x with X0:=y}) h n7 (g.sat 3 _ rfl).1 fun _ h=>dR.cons (f:=fun(x:aG) y=>{x with Y0:=y}) h qD (g.sat 2 _ rfl).1 fun _ h=>dR.cons (f:=fun(x:aG) y=>{x with X1:=y}) h n8 (g.sat 1 _ rfl).1 fun _ h=>dR.cons (f:=fun(x:aG) y=>{x with Y1:=y}) h qE (g.sat 0 _ rfl).1 fun _ h=>dR.nil h) fun ak j=>?_
  refine RL.seq 5 0 o.1 (⟨(-1),(-1),1,1⟩:aG) (cg aa) zr j zr zr zr zr Eg zr (iJ aa (vb (decide (o.1= (⟨(-1),(-1),1,1⟩:aG)))) (aN (vb (decide (o.1= (⟨(-1),(-1),1,1⟩:aG)))) (RL.nil ?_)))
  obtain rfl:=oi hj
  exact⟨rfl,j.sp 10 []⟩
 rintro _ w ⟨O,rfl,j⟩
 refine aJ (RC.ret ?_)
 obtain rfl:=oi hb
 exact cA ⟨rfl,j.drop 0⟩
theorem ox {p0:eL} {p2: (List aG)} {res:eL×Int} (j:Holds E w V) (h0:V[i0]? =some (rd v0 p0)) (h2:V[i2]? =some (rd v2 p2)) (o:iw N p0 p1 p2=some res):
    Calls bG 8 [v0,(vi p1),v2,(.func (.func 11) #[] #[])].toArray w (gF (g9 E V res)):=by
 unfold iw at o
 refine enter Tryz.func8 zr zr ?_
 have j:=(j.dup (i0+0) h0).dup (i2+1) h2
 refine RC.sr (RL.cX 1 v0 j zr fun bj w j=>?_)
 refine RL.alloc j A9.z fun bk w j=>?_
 refine aN (vi 0) (RL.nq (RC.sr (RL.aR (f:=(fun x=>x)) 1 j zr Fd.self fN fun ao j=>?_)))
 obtain⟨ad,aq,o⟩:=bd o
 refine RL.call zt zr DQ [ao] zr (aD (ju N (i0:=0) j zr aq) ?_)
 rintro _ w ⟨rfl,j⟩
 refine aN (vi ad) (RL.ns (mv (vi ad) (ic ad 0 (RL.nt (fZ o (fun hc o=>?_) fun hc o=>?_)))))
 ·refine RC.sr (RL.mE [(.slice none 0 0),(.slice none 0 0),(.slice none 0 0),(.slice none 0 0)] [(.slice none 0 0),(.slice none 0 0),(.slice none 0 0),(.slice none 0 0)] [] vY (mv (vi ad) ?_))
  have j:=((((j.dF (List aG)).dF aG).dF bH).dF bW).mF (cs:=[(.slice none 0 0),(.slice none 0 0),(.slice none 0 0),(.slice none 0 0)]) (x:=(⟨([]: (List (List aG))),([]: (List aG)),([]: (List bH)),([]: (List bW))⟩:eL)) (fun M hs g=>⟨[(.slice none 0 0)],[(.slice none 0 0),(.slice none 0 0),(.slice none 0 0)],rfl,(cF (g.sat 3 _ rfl).1),⟨[(.slice none 0 0)],[(.slice none 0 0),(.slice none 0 0)],rfl,(cF (g.sat 2 _ rfl).1),⟨[(.slice none 0 0)],[(.slice none 0 0)],rfl,(cF (g.sat 1 _ rfl).1),(cF (g.sat 0 _ rfl).1)⟩⟩⟩) rfl
  refine RL.aZ 6 j 0 zr fN fun w j=>?_
  refine aN (vi ad) (RL.nt (RC.rt ?_))
  obtain rfl:=oi o
  exact kV 6 j fN fun ar j=>⟨ar,zr,j.pk 11 [0]⟩
 refine RC.ss (RC.sr (mv (vi p1) (RL.bF zr jK (RL.aR 2 j zr i6 pz fun bl j=>(RL.bO 0 p0.aH j tC (RL.jV (p0.aH.length:Int) 1 ?_))))))
 obtain⟨au,av,o⟩:=bd o
 refine RL.call zt zr Be [(vi p1),(vi 0),(vi (IntKind.wrap .i64 ((p0.aH.length:Int) - 1)))] zr (aD (gJ N (p0:=p1) (p1:=0) (p2:=(IntKind.wrap .i64 ((p0.aH.length:Int) - 1))) j av) ?_)
 rintro _ w ⟨rfl,j⟩
 refine RL.not au (RL.nt (fZ o (fun hc o=>?_) fun hc o=>?_))
 ·refine RC.sr (RL.mE [(.slice none 0 0),(.slice none 0 0),(.slice none 0 0),(.slice none 0 0)] [(.slice none 0 0),(.slice none 0 0),(.slice none 0 0),(.slice none 0 0)] [] vY ?_)
  have j:=((((j.dF (List aG)).dF aG).dF bH).dF bW).mF (cs:=[(.slice none 0 0),(.slice none 0 0),(.slice none 0 0),(.slice none 0 0)]) (x:=(⟨([]: (List (List aG))),([]: (List aG)),([]: (List bH)),([]: (List bW))⟩:eL)) (fun M hs g=>⟨[(.slice none 0 0)],[(.slice none 0 0),(.slice none 0 0),(.slice none 0 0)],rfl,(cF (g.sat 3 _ rfl).1),⟨[(.slice none 0 0)],[(.slice none 0 0),(.slice none 0 0)],rfl,(cF (g.sat 2 _ rfl).1),⟨[(.slice none 0 0)],[(.slice none 0 0)],rfl,(cF (g.sat 1 _ rfl).1),(cF (g.sat 0 _ rfl).1)⟩⟩⟩) rfl
  refine RL.aZ 7 j 0 zr fN fun w j=>?_
  refine aN (vi 9) (RL.nt (RC.rt ?_))
  obtain rfl:=oi o
  exact kV 7 j fN fun aw j=>⟨aw,zr,j.pk 12 [0]⟩
 refine RC.ss (RC.sr (mv v2 ?_))
 obtain⟨ae,ax,o⟩:=bd o
 refine RL.call zt zr DK [v2] zr (aD (iA N (i0:=4) j zr ax) ?_)
 rintro _ w ⟨rfl,j⟩
 refine aN (vi ae) (RL.ns (mv (vi ae) (ic ae 0 (RL.nt (fZ o (fun hc o=>?_) fun hc o=>?_)))))
 ·refine RC.sr (RL.mE [(.slice none 0 0),(.slice none 0 0),(.slice none 0 0),(.slice none 0 0)] [(.slice none 0 0),(.slice none 0 0),(.slice none 0 0),(.slice none 0 0)] [] vY (mv (vi ae) ?_))
  have j:=((((j.dF (List aG)).dF aG).dF bH).dF bW).mF (cs:=[(.slice none 0 0),(.slice none 0 0),(.slice none 0 0),(.slice none 0 0)]) (x:=(⟨([]: (List (List aG))),([]: (List aG)),([]: (List bH)),([]: (List bW))⟩:eL)) (fun M hs g=>⟨[(.slice none 0 0)],[(.slice none 0 0),(.slice none 0 0),(.slice none 0 0)],rfl,(cF (g.sat 3 _ rfl).1),⟨[(.slice none 0 0)],[(.slice none 0 0),(.slice none 0 0)],rfl,(cF (g.sat 2 _ rfl).1),⟨[(.slice none 0 0)],[(.slice none 0 0)],rfl,(cF (g.sat 1 _ rfl).1),(cF (g.sat 0 _ rfl).1)⟩⟩⟩) rfl
  refine RL.aZ 7 j 0 zr fN fun w j=>?_
  refine aN (vi ae) (RL.nt (RC.rt ?_))
  obtain rfl:=oi o
  exact kV 7 j fN fun ay j=>⟨ay,zr,j.pk 12 [0]⟩
 refine RC.sx (mv (.func (.func 11) #[] #[]) (RL.bF zr jK (RL.aR 3 j zr i6 pz fun bm j=>(mv (vi p1) ?_))))
 obtain⟨az,a0,o⟩:=bd o
 refine RL.cQ 0 j tD a0 fun bn j=>(RL.cG 0 az j pS fun a1 j=>?_)
 obtain⟨bo,a2,o⟩:=bd o
 refine RL.call zt zr xe [a1] zr (aD (fO N (i0:=0) j zr a2) ?_)
 rintro a3 w j
 refine mv v2 ?_
 obtain⟨bp,a4,o⟩:=bd o
 refine RL.call zt zr xe [v2] zr (aD (fO N (i0:=8) j zr a4) ?_)
 rintro a5 w j
 have j:=(j.freeze 1).freeze 0
 obtain⟨bq,a6,o⟩:=bd o
 refine RL.uJ [] zr F2 zr [a3,a5] zr (aD (ny N (i0:=1) (i1:=0) j zr zr a6) ?_)
 rintro a7 w j
 have j:=j.freeze 0
 obtain⟨ab,a8,o⟩:=bd o
 refine RL.call zt zr Gn [a7] zr (aD (nA N (i0:=0) j zr a8) ?_)
 rintro _ w ⟨ai,rfl,j⟩
 refine mv (.tuple #[ai,(vi ab.2)]) (RL.extract ai (RL.extract (vi ab.2) (aN ai (aN (vi ab.2) (RL.nq (RC.sr (mv (vi ab.2) (ic ab.2 0 ?_))))))))
 refine RL.nt (fZ o (fun hc o=>?_) fun hc o=>?_)
 ·refine RC.sr (RL.mE [(.slice none 0 0),(.slice none 0 0),(.slice none 0 0),(.slice none 0 0)] [(.slice none 0 0),(.slice none 0 0),(.slice none 0 0),(.slice none 0 0)] [] vY (mv (vi ab.2) ?_))
  have j:=((((j.dF (List aG)).dF aG).dF bH).dF bW).mF (cs:=[(.slice none 0 0),(.slice none 0 0),(.slice none 0 0),(.slice none 0 0)]) (x:=(⟨([]: (List (List aG))),([]: (List aG)),([]: (List bH)),([]: (List bW))⟩:eL)) (fun M hs g=>⟨[(.slice none 0 0)],[(.slice none 0 0),(.slice none 0 0),(.slice none 0 0)],rfl,(cF (g.sat 3 _ rfl).1),⟨[(.slice none 0 0)],[(.slice none 0 0),(.slice none 0 0)],rfl,(cF (g.sat 2 _ rfl).1),⟨[(.slice none 0 0)],[(.slice none 0 0)],rfl,(cF (g.sat 1 _ rfl).1),(cF (g.sat 0 _ rfl).1)⟩⟩⟩) rfl
  refine RL.aZ 14 j 0 zr fN fun w j=>?_
  refine aN (vi ab.2) (RL.nt (RC.rt ?_))
  obtain rfl:=oi o
  exact kV 14 j fN fun a9 j=>⟨a9,zr,j.pk 19 [0]⟩
 refine RC.sx (RL.aR (f:=(fun x=>x)) 10 j zr Fd.self fN fun ba j=>?_)
 obtain⟨aj,bb,o⟩:=bd o
 refine RL.call zt zr Gp [ba] zr (aD (rp N (i0:=0) j zr bb) ?_)
 rintro _ w ⟨ak,al,af,ag,rfl,j⟩
 refine RL.nW j E2 fun br w j=>?_
 refine RL.tr 0 [ak,al,af,ag] j zr zr zr (sd.all (⟨(dP 1 j),(dP 2 j),(dP 3 j),(dP 4 j),zt⟩:sd [ak,al,af,ag])) fN zr zr fun w j=>?_
 refine RL.ns (RL.bF zr jK (RL.bK 0 ak j pz (mv (vi p1) (mv ai ?_))))
 obtain⟨bs,an,o⟩:=bd o
 refine RL.bM 1 j zr zr tD an ?_
 have j:=j.freeze 6
 refine RL.fJ (f:=(fun _ y=>y)) 1 6 j (jQ 1 j an 0) (aY an).2.1 zr Fs.self pS fun w j=>?_
 refine RL.nq (RC.sr ?_)
 have j:=((((j.freeze 1).freeze 2).freeze 3).freeze 4).uP (i:=0) (x:=(⟨(aj.1.set (Int.toNat p1) ab.1),aj.2.1,aj.2.2.1,aj.2.2.2⟩:eL)) rfl (fun M hs g=>⟨[ak],[al,af,ag],rfl,(cF (g.sat 1 _ rfl).1),⟨[al],[af,ag],rfl,(cF (g.sat 2 _ rfl).1),⟨[af],[ag],rfl,(cF (g.sat 3 _ rfl).1),(cF (g.sat 4 _ rfl).1)⟩⟩⟩)
 refine RL.aR (f:=(fun x=>x)) 0 j zr Fd.self fN fun bc j=>?_
 obtain⟨ah,bf,o⟩:=bd o
 refine RL.call zt zr DQ [bc] zr (aD (ju N (i0:=0) j zr bf) ?_)
 rintro _ w ⟨rfl,j⟩
 refine aN (vi ah) (RL.ns (mv (vi ah) (ic ah 0 (RL.nt (fZ o (fun hc o=>?_) fun hc o=>?_)))))
 rotate_left
 ·refine RC.sx (RL.aR (f:=(fun x=>x)) 1 j zr Fd.self fN fun bt j=>(RL.aZ 17 j 0 zr fN fun w j=>?_))
  refine aN (vi 0) (RL.nt (RC.ret ?_))
  obtain rfl:=oi o
  exact kV 17 j fN fun bg j=>⟨bg,zr,j.pk 22 [0]⟩
 refine RC.sr (RL.mE [(.slice none 0 0),(.slice none 0 0),(.slice none 0 0),(.slice none 0 0)] [(.slice none 0 0),(.slice none 0 0),(.slice none 0 0),(.slice none 0 0)] [] vY (mv (vi ah) ?_))
 have j:=((((j.dF (List aG)).dF aG).dF bH).dF bW).mF (cs:=[(.slice none 0 0),(.slice none 0 0),(.slice none 0 0),(.slice none 0 0)]) (x:=(⟨([]: (List (List aG))),([]: (List aG)),([]: (List bH)),([]: (List bW))⟩:eL)) (fun M hs g=>⟨[(.slice none 0 0)],[(.slice none 0 0),(.slice none 0 0),(.slice none 0 0)],rfl,(cF (g.sat 3 _ rfl).1),⟨[(.slice none 0 0)],[(.slice none 0 0),(.slice none 0 0)],rfl,(cF (g.sat 2 _ rfl).1),⟨[(.slice none 0 0)],[(.slice none 0 0)],rfl,(cF (g.sat 1 _ rfl).1),(cF (g.sat 0 _ rfl).1)⟩⟩⟩) rfl
 refine RL.aZ 21 j 0 zr fN fun w j=>?_
 refine aN (vi ah) (RL.nt (RC.rt ?_))
 obtain rfl:=oi o
 exact kV 21 j fN fun bh j=>⟨bh,zr,j.pk 26 [0]⟩
theorem sQ {p0:eL} {p2: (List aG)} {res:eL×Int} (j:Holds E w V) (h0:V[i0]? =some (rd v0 p0)) (h2:V[i2]? =some (rd v2 p2)) (o:j4 N p0 p1 p2=some res):
    Calls bG 6 [v0,(vi p1),v2].toArray w (gF (g9 E V res)):=by
 unfold j4 at o
 refine enter Tryz.func6 zr zr ?_
 have j:=(j.dup (i0+0) h0).dup (i2+1) h2
 refine RC.sr (RL.cX 1 v0 j zr fun ag w j=>?_)
 refine RL.alloc j A9.z fun ah w j=>?_
 refine aN (vi 0) (RL.ns (RL.aR (f:=(fun x=>x)) 1 j zr Fd.self fN fun ab j=>(mv (vi p1) (mv v2 ?_))))
 obtain⟨aa,ad,o⟩:=bd o
 refine RL.call zt zr Ig [ab,(vi p1),v2,(.func (.func 11) #[] #[])] zr (aD (ox N (p1:=p1) (i0:=0) (i2:=3) j zr zr ad) ?_)
 rintro _ w ⟨ae,rfl,j⟩
 refine RL.extract ae (RL.extract (vi aa.2) (RL.aZ 2 j 0 zr fN fun w j=>?_))
 refine aN (vi aa.2) (RL.nt (RC.ret ?_))
 obtain rfl:=oi o
 exact kV 2 j fN fun af j=>⟨af,zr,j.pk 7 [0]⟩
def kU (E:World) (V:List HP) (res:Int×Bool) (v:Value) (w:World):Prop:=v = .tuple #[(vi res.1),(vb res.2)]/\Holds E w V
theorem kE {p0: (List bW)} {p1:fH} {p2:bW->fH->Option Int} {res:Int×Bool} (o:Holds E w V) (h0:V[i0]? =some (rd v0 p0)) (h1:V[i1]? =some (rd v1 p1)) (h2:EE bG E V v2 p2 (fun(r:Int)=>Value.int .i64 r)) (hb:eA N p0 p1 p2=some res):
    Calls bG 54 [v0,v1,v2].toArray w (gF (kU E V res)):=by
 unfold eA at hb
 refine enter Tryz.func54 zr zr ?_
 have o:=(o.dup (i0+0) h0).dup (i1+1) h1
 refine RC.sr (RL.cX 0 v1 o zr fun ae w o=>?_)
 refine aN (vi 0) (aN (vb false) (RL.ns (mv v0 (RL.bO 2 p0 o Cn (aN (vi p0.length) (RL.ns (mv (vi p0.length) (aN (vi 0) ?_))))))))
 refine aN (vi p0.length) (RL.nq ?_)
 obtain⟨av,hN,hb⟩:=bd hb
 refine RC.iter (fun(j:Int×Int)=>SH E V [(0,v0),(2,v2),(4,vp ae 0),(8,vi p0.length),(9,vi j.1),(10,vi j.2)] [rd v0 p0,bx 29 ae p1]) (fun(j:Int×Int)=>SH E V [(0,v0),(2,v2),(4,vp ae 0),(8,vi p0.length),(9,vi j.1)] [rd v0 p0,bx 29 ae p1]) (fun(r:Empty) _ _=>r.elim) hN ?_ ?_ ?_ ?_
 ·exact o.sp 3 [2,0]
 ·rintro j fl _ w ⟨O,rfl,o⟩ hb
  refine RC.seq (RC.sr (mv (vi j.1) (mv (vi j.2) (ic j.1 j.2 (RL.nt (fZ hb (fun hc hb=>?_) fun hc hb=>?_))))))
  rotate_left
  ·refine RC.ex ?_
   obtain rfl:=oi hb
   exact⟨rfl,o.sp 2 [0,1]⟩
  refine RC.sn (RC.bs (mv (vi j.1) (mv (vi j.2) (RL.jV j.1 j.2 (RL.conv (IntKind.wrap .i64 (j.1+j.2)) zt zr zr ⟨_,EU⟩ El (RL.bin (v:=(.int .u64 (IntKind.wrap .u64 (IntKind.wrap .i64 (j.1+j.2))))) (v':=(.int .u64 1)) (u:=(.int .u64 (Int.fdiv (IntKind.wrap .u64 (IntKind.wrap .i64 (j.1+j.2))) 2))) zt zr zr zr (fun _=>zr) (fun _=>zr) (RL.conv (Int.fdiv (IntKind.wrap .u64 (IntKind.wrap .i64 (j.1+j.2))) 2) zt zr zr ⟨_,El⟩ EU (aN (vi (IntKind.wrap .i64 (Int.fdiv (IntKind.wrap .u64 (IntKind.wrap .i64 (j.1+j.2))) 2))) ?_))))))))
  refine RL.nq (RC.Ah mixed [0,0,0,0,0,0,2,0] [0,1,2,3,4,5,6,7] ?_)
  have o:=o.drew
  refine DP.e0 zr (mv v2 (dJ zr (mv v0 (dJ zr (mv (vi (IntKind.wrap .i64 (Int.fdiv (IntKind.wrap .u64 (IntKind.wrap .i64 (j.1+j.2))) 2))) (dJ zr ?_))))))
  obtain⟨ak,al,hb⟩:=bd hb
  refine RL.cQ 0 o Bg al fun ax o=>(dJ zr (RL.cG 0 ak o uX fun ay o=>(dJ zr (RL.aR (f:=(fun x=>x)) 3 o zr Fd.self pA fun az o=>(uB zr ?_)))))
  obtain⟨an,ao,hb⟩:=bd hb
  refine RL.zd 1 0 zt zr o zr h2 5 zr zr zr zr zr ao fun w o=>(Ai zr (ic an 0 (DP.d0 (DP.z (aJ ?_)))))
  obtain⟨af,hj,hb⟩:=bd hb
  refine RC.jn (fun(af:Int×Int)=>SH E V [(0,v0),(2,v2),(4,vp ae 0),(8,vi p0.length),(9,vi af.1),(10,vi af.2)] [rd v0 p0,bx 29 ae p1]) af ?_ ?_
  ·refine fZ hj (fun hc hj=>?_) fun hc hj=>?_
   rotate_left
   ·refine RC.region (mv (vi (IntKind.wrap .i64 (Int.fdiv (IntKind.wrap .u64 (IntKind.wrap .i64 (j.1+j.2))) 2))) (aN (vi (IntKind.wrap .i64 (Int.fdiv (IntKind.wrap .u64 (IntKind.wrap .i64 (j.1+j.2))) 2))) (RL.nil ?_)))
    obtain rfl:=oi hj
    exact⟨rfl,o.sp 5 [3,4]⟩
   refine RC.region (mv (vi (IntKind.wrap .i64 (Int.fdiv (IntKind.wrap .u64 (IntKind.wrap .i64 (j.1+j.2))) 2))) (RL.jV (IntKind.wrap .i64 (Int.fdiv (IntKind.wrap .u64 (IntKind.wrap .i64 (j.1+j.2))) 2)) 1 (aN (vi (IntKind.wrap .i64 ((IntKind.wrap .i64 (Int.fdiv (IntKind.wrap .u64 (IntKind.wrap .i64 (j.1+j.2))) 2))+1))) (RL.nil ?_))))
   obtain rfl:=oi hj
   exact⟨rfl,o.sp 5 [3,4]⟩
  rintro _ w ⟨O,rfl,o⟩
  refine bZ ?_
  obtain rfl:=oi hb
  exact⟨rfl,o.sp 2 [0,1]⟩
 ·intro r _ _ _ _
  exact r.elim
 rintro j _ w rfl ⟨O,rfl,o⟩
 rw [Fo.gL] at hb
 refine aJ (RC.seq ?_)
 obtain⟨ah,hj,hb⟩:=bd hb
 refine RC.jn (fun(ah:Bool)=>SH E V [(6,vi j.1),(7,vb ah)] []) ah ?_ ?_
 ·refine RC.Ah mixed [1,0,0,0,0,0,0,0,0,0,0,2,0,0,0,0] [0,1,2,3,4,5,6,7,8,9,10,11,12,13,14,15] ?_
  have o:=o.drew
  refine DP.e1 (vi j.1) zr (fun w=>RL.move (vi j.1) zt DP.d1) (DP.e0 zr (mv (vi j.1) (dJ zr (mv (vi p0.length) (dJ zr (ic j.1 ((p0.length:Int)) (dJ zr (mv (vb (decide (j.1< (p0.length:Int)))) ?_))))))))
  refine DP.d0 (iz hj (fun ab hj=>?_) fun ab hj=>?_)
  rotate_left
  ·refine DP.e0 zr (cD ab (dJ zr (cD ab (dJ zr (cD ab (dJ zr (cD ab (dJ zr ?_))))))))
   refine cD ab (dJ zr (cD ab (uB zr (cD ab (Ai zr (cD ab (dJ zr (iJ ab (vb false) ?_))))))))
   refine dJ zr (aN (vi j.1) (dJ zr (aN (vb false) (DP.d0 (DP.z ?_)))))
   obtain rfl:=oi hj
   exact⟨rfl,o.sp 2 []⟩
  refine DP.e0 zr (RL.move v2 (cg ab) (dJ zr (RL.move v0 (cg ab) (dJ zr (RL.move (vi j.1) (cg ab) (dJ zr ?_))))))
  obtain⟨aq,ar,hj⟩:=bd hj
  refine RL.cQ (hg:=(cg ab)) 0 o Bg ar fun a0 o=>(dJ zr (RL.cG (hg:=(cg ab)) 0 aq o uX fun a1 o=>(dJ zr (RL.aR (hg:=(cg ab)) (f:=(fun x=>x)) 3 o zr Fd.self pA fun a2 o=>(uB zr ?_)))))
  obtain⟨ai,au,hj⟩:=bd hj
  refine RL.zd 1 0 (cg ab) zr o zr h2 5 zr zr zr zr zr au fun w o=>(Ai zr (RL.k7 ai 0 (cg ab) (dJ zr (iJ ab (vb (ai==0)) (dJ zr (aN (vi j.1) (dJ zr (aN (vb (ai==0)) ?_))))))))
  refine DP.d0 (DP.z ?_)
  obtain rfl:=oi hj
  exact⟨rfl,o.sp 5 []⟩
 rintro _ w ⟨O,rfl,o⟩
 refine aJ (RC.ret ?_)
 obtain rfl:=oi hb
 exact qQ ⟨rfl,o.drop 0⟩
theorem rh {p0:bW} {p1:fH} (j:Holds E w V) (h0:V[i0]? =some (rd v0 p0)) (h1:V[i1]? =some (rd v1 p1)) (o:fX N p0 p1=some res):
    Calls bG 55 [v0,v1].toArray w (gF (aQ E V res)):=by
 unfold fX at o
 refine enter Tryz.func55 zr zr ?_
 have j:=(j.dup (i0+0) h0).dup (i1+1) h1
 refine RC.sr (RL.cX 1 v0 j zr fun ah w j=>?_)
 have j:=j.ki (i:=0) rfl
 refine RL.cX 1 v1 j zr fun ai w j=>?_
 have j:=j.ki (i:=0) rfl
 refine aN (vi 0) (RL.nq (RC.Ah mixed [0,2,1,2,0] [0,2,1,3,4] ?_))
 have j:=j.drew
 refine DP.e0 zr (RL.cG 1 p0 j uX fun aa j=>(DP.d0 (DP.yr p1 1 zr zt j pA fun ab a35 aj j=>(DP.e2 zr ?_))))
 obtain⟨ak,ad,o⟩:=bd o
 refine RL.call zt zr DM [aa] zr (aD (kP N (i0:=2) j zr ad) ?_)
 rintro ae w j
 refine DP.d2 (⟨zt,j.lS 1⟩) (DP.e2 zr ?_)
 obtain⟨af,ag,o⟩:=bd o
 refine RL.call zt zr FW [ae,ab] zr (aD (ll N (i0:=0) (i1:=2) j zr zr ag) ?_)
 rintro _ w ⟨rfl,j⟩
 refine DP.d2 (⟨zt,j.lS 1⟩) (DP.e0 zr (aN (vi af) (DP.d0 ?_)))
 have j:=j.pl 8 [0,2,3,4,5,6,7]
 refine DP.z (aJ (RC.ret ?_))
 obtain rfl:=oi o
 exact cA ⟨rfl,j.drop 7⟩
theorem oy {p0:eL} {p1:fH} (o:Holds E w V) (h0:V[i0]? =some (rd v0 p0)) (h1:V[i1]? =some (rd v1 p1)) (hb:jF N p0 p1=some res):
    Calls bG 26 [v0,v1].toArray w (gF (aQ E V res)):=by
 unfold jF at hb
 refine enter Tryz.func26 zr zr ?_
 have o:=(o.dup (i0+0) h0).dup (i1+1) h1
 refine RC.sr (RL.cX 1 v0 o zr fun ai w o=>?_)
 refine RL.cX 1 v1 o zr fun aj w o=>?_
 refine aN (vi 0) (RL.ns (RL.bF zr rI (RL.aR 1 o zr oe zn fun ad o=>(RL.aR (f:=(fun x=>x)) 1 o zr Fd.self pA fun ae o=>?_))))
 obtain⟨aa,af,hb⟩:=bd hb
 refine RL.call trivial rfl HW [ad,ae,(.func (.func 55) #[] #[])] rfl (aD (kE N (i0:=1) (i1:=0) o rfl rfl ⟨55,[],rfl,HV,fun w Γl v v' y0 y1 r i j o hi hj hr=>by exact aD (rh N (i0:=i) (i1:=j) o hi hj hr) fun _ _ h=>h⟩ af) ?_)
 rintro _ w ⟨rfl,o⟩
 refine mv (.tuple #[(vi aa.1),(vb aa.2)]) (RL.extract (vi aa.1) (RL.extract (vb aa.2) (aN (vi aa.1) (aN (vb aa.2) (RL.nq (RC.sr (mv (vb aa.2) (RL.not aa.2 ?_))))))))
 refine RL.nt (fZ hb (fun hc hb=>?_) fun hc hb=>?_)
 ·refine RC.sr (aN (vi (-1)) (RL.nt (RC.rt ?_)))
  obtain rfl:=oi hb
  exact cA ⟨rfl,o.drop 6⟩
 refine RC.sx (mv (vi aa.1) (aN (vi aa.1) (RL.nt (RC.ret ?_))))
 obtain rfl:=oi hb
 exact cA ⟨rfl,o.drop 6⟩
def tN (E:World) (V:List HP) (res:Int×Bool×Int) (v:Value) (w:World):Prop:=v = .tuple #[(vi res.1),(vb res.2.1),(vi res.2.2)]/\Holds E w V
theorem nB {p0:eL} {p1:fH} {res:Int×Bool×Int} (j:Holds E w V) (h0:V[i0]? =some (rd v0 p0)) (h1:V[i1]? =some (rd v1 p1)) (o:cE N p0 p1=some res):
    Calls bG 12 [v0,v1].toArray w (gF (tN E V res)):=by
 unfold cE at o
 refine enter Tryz.func12 zr zr ?_
 have j:=(j.dup (i0+0) h0).dup (i1+1) h1
 refine RC.sr (RL.cX 1 v0 j zr fun ay w j=>?_)
 refine RL.cX 1 v1 j zr fun az w j=>?_
 refine aN (vi 0) (aN (vb false) (aN (vi 0) (RL.ns (RL.aR (f:=(fun x=>x)) 1 j zr Fd.self fN fun ak j=>?_))))
 obtain⟨aa,al,o⟩:=bd o
 refine RL.call zt zr Gm [ak] zr (aD (qg N (i0:=0) j zr al) ?_)
 rintro _ w hK50
 rcases af:aa.1 with _ | a0
 ·replace o:=Fq af o
  obtain⟨rfl,j⟩:=Ed af hK50
  refine mv (.tuple #[(.pointer none),(vi aa.2)]) (RL.extract (.pointer none) (RL.extract (vi aa.2) (aN (.pointer none) (aN (vi aa.2) (RL.nq (RC.sr (mv (vi aa.2) (ic aa.2 0 ?_))))))))
  refine RL.nt (fZ o (fun hc o=>?_) fun hc o=>?_)
  ·refine RC.sr (mv (vi aa.2) (aN (vi 0) (aN (vb false) (aN (vi aa.2) (RL.nt (RC.rt ?_))))))
   obtain rfl:=oi o
   exact AV ⟨rfl,j.drop 5⟩
  refine RC.sx (RL.aR (f:=(fun x=>x)) 2 j zr Fd.self fN fun an j=>(RL.aR (f:=(fun x=>x)) 2 j zr Fd.self pA fun ao j=>?_))
  obtain⟨ag,aq,o⟩:=bd o
  refine RL.call zt zr Gq [an,ao] zr (aD (oy N (i0:=1) (i1:=0) j zr zr aq) ?_)
  rintro _ w ⟨rfl,j⟩
  refine aN (vi ag) (RL.nq (RC.sr (mv (vi ag) (ic ag 0 (RL.nt (fZ o (fun hc o=>?_) fun hc o=>?_))))))
  rotate_left
  ·cases o
  refine RC.sr (aN (vi 0) (aN (vb false) (aN (vi 9) (RL.nt (RC.rt ?_)))))
  obtain rfl:=oi o
  exact AV ⟨rfl,j.drop 7⟩
 replace o:=Ft af o
 obtain⟨ad,a1,a2,a3,a4,a5,a6,a7,a8,a9,ba,aj,bb,rfl,j⟩:=Ee af hK50
 refine mv (.tuple #[(vp ad 0),(vi aa.2)]) (RL.extract (vp ad 0) (RL.extract (vi aa.2) (aN (vp ad 0) (aN (vi aa.2) (RL.nq (RC.sr (mv (vi aa.2) (ic aa.2 0 ?_))))))))
 refine RL.nt (fZ o (fun hc o=>?_) fun hc o=>?_)
 ·refine RC.sr (mv (vi aa.2) (aN (vi 0) (aN (vb false) (aN (vi aa.2) (RL.nt (RC.rt ?_))))))
  obtain rfl:=oi o
  exact AV ⟨rfl,j.drop 18⟩
 refine RC.sx (RL.aR (f:=(fun x=>x)) 15 j zr Fd.self fN fun ar j=>(RL.aR (f:=(fun x=>x)) 15 j zr Fd.self pA fun au j=>?_))
 obtain⟨ae,av,o⟩:=bd o
 refine RL.call zt zr Gq [ar,au] zr (aD (oy N (i0:=1) (i1:=0) j zr zr av) ?_)
 rintro _ w ⟨rfl,j⟩
 refine aN (vi ae) (RL.nq (RC.sr (mv (vi ae) (ic ae 0 (RL.nt (fZ o (fun hc o=>?_) fun hc o=>?_))))))
 ·refine RC.sr (aN (vi 0) (aN (vb false) (aN (vi 9) (RL.nt (RC.rt ?_)))))
  obtain rfl:=oi o
  exact AV ⟨rfl,j.drop 20⟩
 refine RC.ss (RC.sr (mv (vp ad 0) (RL.nilCheck zr (RL.bF zr xo (RL.bK 2 aj j fw (mv (vi ae) ?_))))))
 obtain⟨aw,ah,o⟩:=bd o
 refine RL.bM 13 j zr zr fx ah (RL.dN (f:=(fun x=>x)) 13 j (jQ 13 j ah 0) (aY ah).2.1 Fd.self cV (ic aw 0 (RL.nt (fZ o (fun hc o=>?_) fun hc o=>?_))))
 ·refine RC.sr (aN (vi 0) (aN (vb false) (aN (vi 0) (RL.nt (RC.rt ?_)))))
  obtain rfl:=oi o
  exact AV ⟨rfl,j.drop 20⟩
 refine RC.sx (mv (vp ad 0) (RL.nilCheck zr (RL.bF zr xo (RL.bK 2 aj j fw (mv (vi ae) ?_)))))
 obtain⟨ax,ai,o⟩:=bd o
 refine RL.bM 13 j zr zr fx ai (RL.dN (f:=(fun x=>x)) 13 j (jQ 13 j ai 0) (aY ai).2.1 Fd.self cV (aN (vi ax) (aN (vb true) (aN (vi 0) (RL.nt (RC.ret ?_))))))
 obtain rfl:=oi o
 exact AV ⟨rfl,j.drop 20⟩
theorem hZ {p0:eL} {p1 p2:fH} {res:Bool} (hw:Holds E w V) (h0:V[i0]? =some (rd v0 p0)) (h1:V[i1]? =some (rd v1 p1)) (h2:V[i2]? =some (rd v2 p2)) (hb:cN N p0 p1 p2=some res):
    Calls bG 7 [v0,v1,v2].toArray w (gF (bD E V res)):=by
 unfold cN at hb
 refine enter Tryz.func7 zr zr ?_
 have hw:=((hw.dup (i0+0) h0).dup (i1+1) h1).dup (i2+2) h2
 refine RC.sr (RL.cX 2 v0 hw zr fun aj w hw=>?_)
 refine RL.cX 2 v1 hw zr fun ak w hw=>?_
 refine RL.cX 2 v2 hw zr fun al w hw=>?_
 refine aN (vb false) (RL.ns (RL.aR (f:=(fun x=>x)) 2 hw zr Fd.self fN fun ad hw=>(RL.aR (f:=(fun x=>x)) 2 hw zr Fd.self pA fun ae hw=>?_)))
 obtain⟨j,af,hb⟩:=bd hb
 refine RL.call zt zr Gr [ad,ae] zr (aD (nB N (i0:=1) (i1:=0) hw zr zr af) ?_)
 rintro _ w ⟨rfl,hw⟩
 refine mv (.tuple #[(vi j.1),(vb j.2.1),(vi j.2.2)]) (RL.extract (vi j.1) (RL.extract (vb j.2.1) (RL.extract (vi j.2.2) (aN (vi j.1) (aN (vb j.2.1) (aN (vi j.2.2) (RL.ns (RL.aR (f:=(fun x=>x)) 4 hw zr Fd.self fN fun ag hw=>?_))))))))
 refine RL.aR (f:=(fun x=>x)) 3 hw zr Fd.self pA fun ah hw=>?_
 obtain⟨o,ai,hb⟩:=bd hb
 refine RL.call zt zr Gr [ag,ah] zr (aD (nB N (i0:=1) (i1:=0) hw zr zr ai) ?_)
 rintro _ w ⟨rfl,hw⟩
 refine mv (.tuple #[(vi o.1),(vb o.2.1),(vi o.2.2)]) (RL.extract (vi o.1) (RL.extract (vb o.2.1) (RL.extract (vi o.2.2) (aN (vi o.1) (aN (vb o.2.1) (aN (vi o.2.2) (RL.ns (mv (vi j.2.2) ?_))))))))
 refine ic j.2.2 0 (mv (vb (j.2.2==0)) (RL.gs true (j.2.2==0) (vi o.2.2) rfl rfl rfl dO (RL.gs true (j.2.2==0) (vb (o.2.2==0)) rfl rfl rfl (fE .eql .i64 o.2.2 0 rfl (fun h=>by exact(dE h:cv (true&&((j.2.2==0)==true)) (vi o.2.2)= (vi o.2.2))) (fun _=>rfl) rfl) (RL.pick (j.2.2==0) (vb ((j.2.2==0)&&(o.2.2==0))) (jk true) (mv (vb ((j.2.2==0)&&(o.2.2==0))) (RL.gs true ((j.2.2==0)&&(o.2.2==0)) (vb j.2.1) rfl rfl rfl dO (RL.pick ((j.2.2==0)&&(o.2.2==0)) (vb (((j.2.2==0)&&(o.2.2==0))&&j.2.1)) (jk true) (mv (vb (((j.2.2==0)&&(o.2.2==0))&&j.2.1)) ?_))))))))
 refine RL.gs true (((j.2.2==0)&&(o.2.2==0))&&j.2.1) (vb o.2.1) rfl rfl rfl dO (RL.pick (((j.2.2==0)&&(o.2.2==0))&&j.2.1) (vb ((((j.2.2==0)&&(o.2.2==0))&&j.2.1)&&o.2.1)) (jk true) (mv (vb ((((j.2.2==0)&&(o.2.2==0))&&j.2.1)&&o.2.1)) (RL.gs true ((((j.2.2==0)&&(o.2.2==0))&&j.2.1)&&o.2.1) (vi j.1) rfl rfl rfl dO (RL.gs true ((((j.2.2==0)&&(o.2.2==0))&&j.2.1)&&o.2.1) (vi o.1) rfl rfl rfl dO (RL.gs true ((((j.2.2==0)&&(o.2.2==0))&&j.2.1)&&o.2.1) (vb (j.1==o.1)) rfl rfl rfl (fE .eql .i64 j.1 o.1 rfl (fun h=>by exact(dE h:cv (true&&(((((j.2.2==0)&&(o.2.2==0))&&j.2.1)&&o.2.1)==true)) (vi j.1)= (vi j.1))) (fun h=>by exact(dE h:cv (true&&(((((j.2.2==0)&&(o.2.2==0))&&j.2.1)&&o.2.1)==true)) (vi o.1)= (vi o.1))) rfl) (RL.pick ((((j.2.2==0)&&(o.2.2==0))&&j.2.1)&&o.2.1) (vb (((((j.2.2==0)&&(o.2.2==0))&&j.2.1)&&o.2.1)&&(j.1==o.1))) (jk true) (aN (vb (((((j.2.2==0)&&(o.2.2==0))&&j.2.1)&&o.2.1)&&(j.1==o.1))) (RL.nt ?_))))))))
 refine RC.ret ?_
 obtain rfl:=oi hb
 exact cA ⟨rfl,hw.drop 10⟩
theorem jS {p0:eL} {p2: (List aG)} {p3 p4:fH} {res:Bool} (j:Holds E w V) (h0:V[i0]? =some (rd v0 p0)) (h2:V[i2]? =some (rd v2 p2)) (h3:V[i3]? =some (rd v3 p3)) (h4:V[i4]? =some (rd v4 p4)) (hb:dG N p0 p1 p2 p3 p4=some res):
    Calls bG 3 [v0,(vi p1),v2,v3,v4].toArray w (gF (bD E V res)):=by
 unfold dG at hb
 refine enter Tryz.func3 zr zr ?_
 have j:=(((j.dup (i0+0) h0).dup (i2+1) h2).dup (i3+2) h3).dup (i4+3) h4
 refine RC.sr (RL.cX 3 v0 j zr fun bq w j=>?_)
 refine RL.cX 2 v3 j zr fun ar w j=>?_
 refine RL.cX 2 v4 j zr fun au w j=>?_
 refine aN (vb false) (RL.ns (RL.aR (f:=(fun x=>x)) 2 j zr Fd.self fN fun a3 j=>(mv (vi p1) (mv v2 ?_))))
 obtain⟨ag,a4,hb⟩:=bd hb
 refine RL.call zt zr Ix [a3,(vi p1),v2] zr (aD (u7 N (p1:=p1) (i0:=0) (i2:=6) j zr zr a4) ?_)
 rintro _ w ⟨av,rfl,j⟩
 refine mv (.tuple #[av,(vi ag.2)]) (RL.extract av (RL.extract (vi ag.2) (RL.alloc j A9.z fun br w j=>?_)))
 refine RL.aZ 0 j 1 zr fN fun w j=>?_
 refine aN (vi ag.2) (RL.nq (RC.sr (mv (vi ag.2) (ic ag.2 0 (RL.nt (fZ hb (fun hc hb=>?_) fun hc hb=>?_))))))
 ·refine RC.seq ?_
  obtain⟨al,o,hb⟩:=bd hb
  refine RC.jn (fun(al:Bool)=>SH E V [(10,vb al)] []) al ?_ ?_
  ·refine RC.region (RL.bF zr jK (RL.aR 0 j zr i6 pz fun bs j=>(RL.bO 0 ag.1.aH j tC (ic ((ag.1.aH.length:Int)) 0 (mv (vb ((ag.1.aH.length:Int)==0)) (iz o (fun ai o=>?_) fun ai o=>?_))))))
   rotate_left
   ·refine cD ai (iJ ai (vb false) (aN (vb false) (RL.nil ?_)))
    obtain rfl:=oi o
    exact⟨rfl,j.sp 11 []⟩
   obtain⟨aw,a5,o⟩:=bd o
   refine RL.call (cg ai) zr GP [] zr (aD (gG N j a5) ?_)
   rintro _ w ⟨rfl,j⟩
   refine iJ ai (vb aw) (aN (vb aw) (RL.nil ?_))
   obtain rfl:=oi o
   exact⟨rfl,j.sp 11 []⟩
  rintro _ w ⟨O,rfl,j⟩
  refine aJ (RC.rt ?_)
  obtain rfl:=oi hb
  exact cA ⟨rfl,j.drop 0⟩
 refine RC.sx (RL.aR (f:=(fun x=>x)) 5 j zr Fd.self fN fun a6 j=>(mv (vi p1) (mv v2 ?_)))
 obtain⟨ae,a7,hb⟩:=bd hb
 refine RL.call zt zr Iy [a6,(vi p1),v2] zr (aD (sQ N (p1:=p1) (i0:=0) (i2:=9) j zr zr a7) ?_)
 rintro _ w ⟨ax,rfl,j⟩
 refine mv (.tuple #[ax,(vi ae.2)]) (RL.extract ax (RL.extract (vi ae.2) (RL.alloc j A9.z fun ay w j=>?_)))
 refine RL.aZ 0 j 1 zr fN fun w j=>?_
 refine aN (vi ae.2) (RL.ns (RL.aR (f:=(fun x=>x)) 8 j zr Fd.self fN fun a8 j=>(RL.aR (f:=(fun x=>x)) 8 j zr Fd.self pA fun a9 j=>(RL.aR (f:=(fun x=>x)) 8 j zr Fd.self pA fun ba j=>?_))))
 obtain⟨ah,bb,hb⟩:=bd hb
 refine RL.call zt zr HX [a8,a9,ba] zr (aD (hZ N (i0:=2) (i1:=1) (i2:=0) j zr zr zr bb) ?_)
 rintro _ w ⟨rfl,j⟩
 refine aN (vb ah) (RL.nq (RC.seq ?_))
 obtain⟨an,o,hb⟩:=bd hb
 refine RC.jn (fun(an:Bool)=>SH E V [(8,vp ar 0),(9,vp au 0),(13,vp ay 0),(14,vi ae.2),(15,vb ah),(50,vb an)] [bx 29 ar p3,bx 29 au p4,bx 27 ay ae.1]) an ?_ ?_
 ·refine RC.region (mv (vb ah) (mv (vb ah) (iz o (fun ab o=>?_) fun ab o=>?_)))
  rotate_left
  ·refine cD ab (cD ab (cD ab (cD ab (cD ab (iJ ab (vb false) (RL.nil ?_))))))
   obtain rfl:=oi o
   exact⟨rfl,j.sp 16 [10,9,3]⟩
  refine RL.aR (hg:=(cg ab)) (f:=(fun x=>x)) 6 j zr Fd.self fN fun bc j=>(RL.aR (hg:=(cg ab)) (f:=(fun x=>x)) 11 j zr Fd.self pA fun bf j=>(RL.aR (hg:=(cg ab)) (f:=(fun x=>x)) 11 j zr Fd.self pA fun bg j=>?_))
  obtain⟨az,bh,o⟩:=bd o
  refine RL.call (cg ab) zr HX [bc,bf,bg] zr (aD (hZ N (i0:=2) (i1:=1) (i2:=0) j zr zr zr bh) ?_)
  rintro _ w ⟨rfl,j⟩
  refine RL.not (hg:=(cg ab)) az (iJ ab (vb (!az)) (RL.nil ?_))
  obtain rfl:=oi o
  exact⟨rfl,j.sp 19 [13,12,6]⟩
 rintro _ w ⟨O,rfl,j⟩
 refine aJ (fZ hb (fun hc hb=>?_) fun hc hb=>?_)
 ·refine RC.sr (aN (vb false) (RL.nt (RC.rt ?_)))
  obtain rfl:=oi hb
  exact cA ⟨rfl,j.drop 3⟩
 refine RC.ss ?_
 obtain⟨ao,o,hb⟩:=bd hb
 refine RC.jn (fun(ao:Bool)=>SH E V [(10,vb ao)] []) ao ?_ ?_
 ·refine RC.region (mv (vi ae.2) (ic ae.2 0 (mv (vb (ae.2 != 0)) (RL.gs true (ae.2 != 0) (vb ah) zr zr zr dO (RL.pick (ae.2 != 0) (vb ((ae.2 != 0)||ah)) (o8 true zr) (mv (vb ((ae.2 != 0)||ah)) (iz o (fun af o=>?_) fun af o=>?_)))))))
  ·refine cD af (cD af (cD af (iJ af (vb true) (mv (vb true) (mI (mI (mI (mI ?_))))))))
   refine mI (RL.pick true (vb true) zr (mv (vb true) ?_))
   obtain⟨a0,bj,o⟩:=bd o
   refine RL.call ⟨_,zr,zr⟩ zr GP [] zr (aD (gG N j bj) ?_)
   rintro _ w ⟨rfl,j⟩
   refine RL.pick true (vb a0) zr (aN (vb a0) (RL.nil ?_))
   obtain rfl:=oi o
   exact⟨rfl,j.sp 3 []⟩
  refine RL.aR (hg:=(cg af)) (f:=(fun x=>x)) 0 j zr Fd.self pA fun bt j=>(RL.aR (hg:=(cg af)) (f:=(fun x=>x)) 2 j zr Fd.self pA fun bu j=>(RL.seq 1 0 p3 p4 (cg af) zr j zr zr zr zr Gs zr (iJ af (vb (decide (p3=p4))) (mv (vb (decide (p3=p4))) (iz o (fun ad o=>?_) fun ad o=>?_)))))
  ·refine cD ad (cD ad (cD ad (cD ad (cD ad (iJ ad (vb true) (mv (vb true) ?_))))))
   obtain⟨a1,bk,o⟩:=bd o
   refine RL.call ⟨_,zr,zr⟩ zr GP [] zr (aD (gG N j bk) ?_)
   rintro _ w ⟨rfl,j⟩
   refine RL.pick true (vb a1) zr (aN (vb a1) (RL.nil ?_))
   obtain rfl:=oi o
   exact⟨rfl,j.sp 5 []⟩
  refine RL.aR (hg:=(cg ad)) (f:=(fun x=>x)) 4 j zr Fd.self fN fun bl j=>(RL.aR (hg:=(cg ad)) (f:=(fun x=>x)) 3 j zr Fd.self pA fun bm j=>(RL.aR (hg:=(cg ad)) (f:=(fun x=>x)) 5 j zr Fd.self pA fun bn j=>?_))
  obtain⟨aq,bo,o⟩:=bd o
  refine RL.call (cg ad) zr HX [bl,bm,bn] zr (aD (hZ N (i0:=2) (i1:=1) (i2:=0) j zr zr zr bo) ?_)
  rintro _ w ⟨rfl,j⟩
  refine RL.not (hg:=(cg ad)) aq (iJ ad (vb (!aq)) (mv (vb (!aq)) (iz o (fun aj o=>?_) fun aj o=>?_)))
  rotate_left
  ·refine cD aj (iJ aj (vb false) (aN (vb false) (RL.nil ?_)))
   obtain rfl:=oi o
   exact⟨rfl,j.sp 8 []⟩
  obtain⟨a2,bp,o⟩:=bd o
  refine RL.call (cg aj) zr GP [] zr (aD (gG N j bp) ?_)
  rintro _ w ⟨rfl,j⟩
  refine iJ aj (vb a2) (aN (vb a2) (RL.nil ?_))
  obtain rfl:=oi o
  exact⟨rfl,j.sp 8 []⟩
 rintro _ w ⟨O,rfl,j⟩
 refine aJ (RC.ret ?_)
 obtain rfl:=oi hb
 exact cA ⟨rfl,j.drop 0⟩
end Go.Gk
