/-
  Printed texts: Go functions as plain functions, and that they are. No statement of the seed is proved here.
-/
import Derived.Test.YthioiiocofohiaaGreatDoorG1
import Derived.Test.YthioiiocofohiaaGreatDoorG2
import Derived.Test.YthioiiocofohiaaGreatDoorG3
import Derived.Test.YthioiiocofohiaaGreatDoorA2
set_option linter.unusedVariables false
set_option linter.unusedSimpArgs false
set_option linter.unusedSectionVars false
set_option maxRecDepth 100000
set_option maxHeartbeats 40000000
namespace Go.Gk
open Go Go.Proofs
variable (N:Nat) {E w:World} {b0 i0 i1:Nat} {res:Int} {v0 v0_0 v0_1 v0_10 v0_11 v0_2 v0_3 v0_4 v0_5 v0_6 v0_8 v0_9 v1 v2:Value} {V:List HP}
def oU (E:World) (V:List HP) (b0:Nat) (v0_0 v0_1:Value) (v0_2 v0_3:Value) (v0_4 v0_5 v0_6:Value) (res: (List cU)×(List Int)×(List Int)×(List Int)×(List fJ)) (v:Value) (w:World):Prop:=∃u0_7 u0_8 u0_9 u0_10 u0_11:Value,v = .tuple #[]/\Holds E w ([bc 126 b0 [v0_0,v0_1,v0_2,v0_3,v0_4,v0_5,v0_6,u0_7,u0_8,u0_9,u0_10,u0_11],own 129 u0_7 res.1,rd u0_8 res.2.1,rd u0_9 res.2.2.1,own 3 u0_10 res.2.2.2.1,own 41 u0_11 res.2.2.2.2]++V)
theorem oL {p0_2: (List cD)} {p0_3: (List dD)} {p0_5: (List aJ)} {p0_6: (List (List Int))} {p0_8: (List Int)} {p0_9: (List Int)} {p0_10: (List Int)} {p0_11: (List fJ)} {res: (List cU)×(List Int)×(List Int)×(List Int)×(List fJ)} (hw:Holds E w (bc 126 b0 [v0_0,v0_1,v0_2,v0_3,v0_4,v0_5,v0_6,(.slice none 0 0),v0_8,v0_9,v0_10,v0_11]::rd v0_2 p0_2::rd v0_3 p0_3::rd v0_5 p0_5::rd v0_6 p0_6::own 3 v0_8 p0_8::own 3 v0_9 p0_9::own 3 v0_10 p0_10::own 41 v0_11 p0_11::V)) (hb:fF N p0_2 p0_3 p0_5 p0_6 p0_8 p0_9 p0_10 p0_11=some res):
    Calls bN 53 [(vp b0 0)].toArray w (iE (oU E V b0 v0_0 v0_1 v0_2 v0_3 v0_4 v0_5 v0_6 res)):=by
 unfold fF at hb
 refine enter Tryz.func53 zr zr (RC.sr (mv (vp b0 0) (RL.nilCheck zr (RL.bO zr qB (RL.bS 0 v0_5 hw yj (RL.bM 3 p0_5 hw Bl (aT (vi p0_5.length) (RL.ns ?_))))))))
 refine mv (vi p0_5.length) (mv (vp b0 0) (RL.nilCheck zr (RL.bO zr mW (RL.bO zr oc (RL.bS 0 v0_2 hw xK (RL.bM 1 p0_2 hw zw (RL.ja (p0_5.length:Int) (p0_2.length:Int) ?_)))))))
 obtain⟨e7,dt,hb⟩:=bd hb
 refine RL.call zt zr M4 [(vi (IntKind.wrap .i64 ((p0_5.length:Int)+ (p0_2.length:Int))))] zr (aF (o7 N (p0:=(IntKind.wrap .i64 ((p0_5.length:Int)+ (p0_2.length:Int)))) hw dt) ?_)
 rintro _ w ⟨ba,du,rfl,hw⟩
 refine aT (vp ba 0) (RL.nq (RC.sr (mv (vp b0 0) (RL.nilCheck zr (RL.bO zr yU (RL.bS 2 v0_6 hw F0 (RL.bM 6 p0_6 hw F1 (mv (vi 0) ?_))))))))
 refine RL.nt ?_
 obtain⟨b1,hN,hb⟩:=bd hb
 refine RC.fold (fun(bk:Nat) (b1: (List Int)) U w=>∃c6:Value,SH E V [(0,vp b0 0),(2,vi p0_5.length),(3,vp ba 0),(35,v0_6),(36,vi p0_6.length),(37,vi bk)] [bc 126 b0 [v0_0,v0_1,v0_2,v0_3,v0_4,v0_5,v0_6,(.slice none 0 0),v0_8,v0_9,v0_10,v0_11],rd v0_2 p0_2,rd v0_3 p0_3,rd v0_5 p0_5,rd v0_6 p0_6,own 3 v0_8 p0_8,own 3 v0_9 p0_9,own 3 v0_10 p0_10,own 41 v0_11 p0_11,bc 176 ba [c6],own 3 c6 b1] U w) (fun(b1: (List Int)) U w=>∃cb:Value,SH E V [(0,vp b0 0),(2,vi p0_5.length),(3,vp ba 0)] [bc 126 b0 [v0_0,v0_1,v0_2,v0_3,v0_4,v0_5,v0_6,(.slice none 0 0),v0_8,v0_9,v0_10,v0_11],rd v0_2 p0_2,rd v0_3 p0_3,rd v0_5 p0_5,rd v0_6 p0_6,own 3 v0_8 p0_8,own 3 v0_9 p0_9,own 3 v0_10 p0_10,own 41 v0_11 p0_11,bc 176 ba [cb],own 3 cb b1] U w) hN ?_ ?_ ?_ ?_
 ·exact⟨du,hw.sp 11 [2,3,4,5,6,7,8,9,10,0,1]⟩
 ·rintro hm b1 _ w ⟨dv,O,rfl,hw⟩
  refine RC.sr (ic ((p0_6.length:Int)) ((p0_6.length:Int)) (RL.nq (RC.dC oE (RC.ex ?_))))
  exact⟨rfl,dv,hw.sp 11 [0,1,2,3,4,5,6,7,8,9,10]⟩
 ·rintro hm bk b1 s' _ w hk ⟨dw,O,rfl,hw⟩ hb
  refine RC.sr (ic ((bk:Int)) ((p0_6.length:Int)) (RL.nq (RC.dB (oD hk) (RC.ss (RC.bs (mv (vi bk) ?_))))))
  obtain⟨bu,dx,hb⟩:=bd hb
  refine RL.cJ 4 hw zz dx fun e8 hw=>(RL.bY 0 bu hw gx fun cc hw=>(aT (vi bk) (aT cc (RL.ns (mv cc (RL.bM 0 bu hw nN (mv (vi 0) (RL.nt ?_))))))))
  obtain⟨b5,hN,hb⟩:=bd hb
  refine RC.fold (fun(cg:Nat) (b5: (List Int)) U w=>∃c7:Value,SH E V [(0,vp b0 0),(2,vi p0_5.length),(3,vp ba 0),(4,vi bk),(35,v0_6),(36,vi p0_6.length),(37,vi bk),(42,cc),(43,vi bu.length),(44,vi cg)] [bc 126 b0 [v0_0,v0_1,v0_2,v0_3,v0_4,v0_5,v0_6,(.slice none 0 0),v0_8,v0_9,v0_10,v0_11],rd v0_2 p0_2,rd v0_3 p0_3,rd v0_5 p0_5,rd v0_6 p0_6,own 3 v0_8 p0_8,own 3 v0_9 p0_9,own 3 v0_10 p0_10,own 41 v0_11 p0_11,bc 176 ba [c7],own 3 c7 b5,rd cc bu] U w) (fun(b5: (List Int)) U w=>∃ch:Value,SH E V [(0,vp b0 0),(2,vi p0_5.length),(3,vp ba 0),(35,v0_6),(36,vi p0_6.length),(37,vi bk)] [bc 126 b0 [v0_0,v0_1,v0_2,v0_3,v0_4,v0_5,v0_6,(.slice none 0 0),v0_8,v0_9,v0_10,v0_11],rd v0_2 p0_2,rd v0_3 p0_3,rd v0_5 p0_5,rd v0_6 p0_6,own 3 v0_8 p0_8,own 3 v0_9 p0_9,own 3 v0_10 p0_10,own 41 v0_11 p0_11,bc 176 ba [ch],own 3 ch b5,rd cc bu] U w) hN ?_ ?_ ?_ ?_
  ·exact⟨dw,hw.sp 13 [2,3,4,5,6,7,8,9,10,11,12,0]⟩
  ·rintro hm b5 _ w ⟨dy,O,rfl,hw⟩
   refine RC.sr (ic ((bu.length:Int)) ((bu.length:Int)) (RL.nq (RC.dC oE (RC.ex ?_))))
   exact⟨rfl,dy,hw.sp 12 [0,1,2,3,4,5,6,7,8,9,10,11]⟩
  ·rintro hm cg b5 s' _ w hk ⟨e9,O,rfl,hw⟩ hb
   refine RC.sr (ic ((cg:Int)) ((bu.length:Int)) (RL.nq (RC.dB (oD hk) (RC.ss (RC.bs ?_)))))
   obtain⟨cd,dz,hb⟩:=bd hb
   refine RL.cJ 11 hw fI dz fun fa hw=>(RL.cB cd 0 hw cW (aT (vi cd) (RL.nt (RC.region (mv (vp ba 0) (mv (vi cd) (mv (vi p0_5.length) (mv (vi bk) ?_))))))))
   refine RL.ja (p0_5.length:Int) (bk:Int) ?_
   have hw:=(hw.pull 11).pull 11
   obtain⟨fb,d3,hb⟩:=bd hb
   refine RL.call zt zr M5 [(vp ba 0),(vi cd),(vi (IntKind.wrap .i64 ((p0_5.length:Int)+ (bk:Int))))] zr (aF (nU N (p1:=cd) (p2:=(IntKind.wrap .i64 ((p0_5.length:Int)+ (bk:Int)))) hw d3) ?_)
   rintro _ w ⟨d4,rfl,hw⟩
   refine RL.nil (cA (aG (RC.region (RL.inc hk hm (mv (vi ((cg+1:Nat):Int)) (RL.nil ?_))))))
   obtain rfl:=oi hb
   exact⟨rfl,d4,hw.sp 15 [3,4,5,6,7,8,9,10,11,0,1,14]⟩
  rintro _ w ⟨ch,O,rfl,hw⟩
  refine cA (aG (RC.region (RL.inc hk hm (mv (vi ((bk+1:Nat):Int)) (RL.nil ?_)))))
  obtain rfl:=oi hb
  exact⟨rfl,ch,hw.sp 12 [0,1,2,3,4,5,6,7,8,9,10]⟩
 rintro _ w ⟨cb,O,rfl,hw⟩
 refine aG (RC.seq ?_)
 obtain⟨d5,d6,hb⟩:=bd hb
 obtain⟨d7,d8,hb⟩:=bd hb
 refine RC.BX E V mixed [1,1,1,0,1,1,1,1,0,0,0,1,1,0,1,1,0] [3,10,13,16] (fun(x:Value×Value)=>(fun an ao=>[(0,56,(vp b0 0)),(1,57,(vp b0 0)),(2,58,(vi p0_5.length)),(3,59,an),(4,60,(vp b0 0)),(5,61,(vp b0 0)),(6,62,(vp b0 0)),(7,63,(vp b0 2)),(8,64,v0_2),(9,65,(vi p0_2.length)),(10,66,ao),(11,67,(vp b0 0)),(12,68,(vp b0 8)),(14,69,(vp b0 0)),(15,70,(vp b0 9))]) x.1 x.2) [(0,vp b0 0),(2,vi p0_5.length),(3,vp ba 0)] [] (fun(D:Nat->Bool) (x:Value×Value)=>(fun an ao=>[bif D 0 then (own 3 an d5) else aM,bif D 1 then (own 3 ao d7) else aM,bif D 3 then (bc 126 b0 [v0_0,v0_1,v0_2,v0_3,v0_4,v0_5,v0_6,(.slice none 0 0),an,ao,v0_10,v0_11]) else (bif D 2 then (bc 126 b0 [v0_0,v0_1,v0_2,v0_3,v0_4,v0_5,v0_6,(.slice none 0 0),an,v0_9,v0_10,v0_11]) else (bc 126 b0 [v0_0,v0_1,v0_2,v0_3,v0_4,v0_5,v0_6,(.slice none 0 0),v0_8,v0_9,v0_10,v0_11])),rd v0_2 p0_2,rd v0_3 p0_3,rd v0_5 p0_5,rd v0_6 p0_6,own 3 v0_8 p0_8,own 3 v0_9 p0_9,own 3 v0_10 p0_10,own 41 v0_11 p0_11,bc 176 ba [cb],own 3 cb b1]) x.1 x.2) (fun x=>by kernel_rfl) ?_ ⟨fun _=>g8 gn,fun _=>g8 gn,fun _=>g8 gn,?_,fun _=>g8 gn,fun _=>AB gn,fun _=>nA gn mW,fun _=>nA gn oc,?_,?_,?_,fun _=>AB gn,fun _=>nA gn Cg,?_,fun _=>AB gn,fun _=>nA gn yV,?_,trivial⟩ ?_
 ·have hw:=((hw.drew).aM).aM
  exact⟨(undef,undef),eD.none,(AF zr),zt,hw⟩
 ·rintro D U w hD af ad ⟨⟨an,ao⟩,hv,ha,_,hw⟩
  obtain⟨O,rfl⟩:=(ac (hv.at 2 rfl (af.1 rfl)) az).dH
  have hw:=((hw.bK 0 hD).bK 2 (nh ad hD 16)).bK 2 (nh ad hD 13)
  refine RL.mk (p0_5.length:Int) hw wB L5 d6 fun cw w hw=>?_
  have hw:=(((hw.pl 14 [0,2,3,4,5,6,7,8,9,10,11,12,13]).bF 0 true rfl aM).fD 2 (D 13) (nh ad hD 13) (bc 126 b0 [v0_0,v0_1,v0_2,v0_3,v0_4,v0_5,v0_6,(.slice none 0 0),cw,v0_9,v0_10,v0_11])).fD 2 (D 16) (nh ad hD 16) (bc 126 b0 [v0_0,v0_1,v0_2,v0_3,v0_4,v0_5,v0_6,(.slice none 0 0),cw,ao,v0_10,v0_11])
  exact RL.nil ⟨rfl,(cw,ao),hv.pu 3,ha.u,zt,hw⟩
 ·rintro D U w hD af ad ⟨⟨an,ao⟩,hv,ha,_,hw⟩
  obtain⟨O,rfl⟩:=(ac (hv.at 7 rfl (af.1 rfl)) az).dH
  have hw:=(hw.bK 2 (nh ad hD 16)).bK 2 (nh ad hD 13)
  refine RL.bS 2 v0_2 hw xK ?_
  have hw:=(hw.fD 2 (D 13) (nh ad hD 13) (bc 126 b0 [v0_0,v0_1,v0_2,v0_3,v0_4,v0_5,v0_6,(.slice none 0 0),an,v0_9,v0_10,v0_11])).fD 2 (D 16) (nh ad hD 16) (bc 126 b0 [v0_0,v0_1,v0_2,v0_3,v0_4,v0_5,v0_6,(.slice none 0 0),an,ao,v0_10,v0_11])
  exact RL.nil ⟨rfl,(an,ao),hv.pu 8,ha.u,zt,hw⟩
 ·rintro D U w hD af ad ⟨⟨an,ao⟩,hv,ha,_,hw⟩
  obtain⟨O,rfl⟩:=(ac (hv.at 8 rfl (af.1 rfl)) az).dH
  refine RL.bM 3 p0_2 hw zw ?_
  exact RL.nil ⟨rfl,(an,ao),hv.pu 9,ha.u,zt,hw⟩
 ·rintro D U w hD af ad ⟨⟨an,ao⟩,hv,ha,_,hw⟩
  obtain⟨O,rfl⟩:=(ac (hv.at 9 rfl (af.1 rfl)) az).dH
  have hw:=(hw.bK 1 hD).bK 2 (nh ad hD 16)
  refine RL.mk (p0_2.length:Int) hw wB L5 d8 fun c8 w hw=>?_
  have hw:=((hw.pl 14 [1,0,3,4,5,6,7,8,9,10,11,12,13]).bF 1 true rfl aM).fD 2 (D 16) (nh ad hD 16) (bc 126 b0 [v0_0,v0_1,v0_2,v0_3,v0_4,v0_5,v0_6,(.slice none 0 0),an,c8,v0_10,v0_11])
  exact RL.nil ⟨rfl,(an,c8),hv.pu 10,ha.u,zt,hw⟩
 ·rintro D U w hD af ad ⟨⟨an,ao⟩,hv,ha,_,hw⟩
  obtain⟨O,rfl⟩:=(ac (hv.at 3 rfl (af.2.1 rfl)) (ac (hv.at 12 rfl (af.1 rfl)) az)).dH
  have hw:=((hw.bE 0 (af.2.1 rfl)).bK 2 (nh ad hD 16)).bK 2 hD
  refine RL.jg 2 an hw zr zr (jM 0 hw) gx fun w hw=>?_
  have hw:=((hw.bF 0 (D 3) (af.2.1 rfl) aM).bF 2 true rfl (bc 126 b0 [v0_0,v0_1,v0_2,v0_3,v0_4,v0_5,v0_6,(.slice none 0 0),v0_8,v0_9,v0_10,v0_11])).fD 2 (D 16) (nh ad hD 16) (bc 126 b0 [v0_0,v0_1,v0_2,v0_3,v0_4,v0_5,v0_6,(.slice none 0 0),an,ao,v0_10,v0_11])
  exact RL.nil ⟨rfl,(an,ao),hv.n1,ha,zt,hw⟩
 ·rintro D U w hD af ad ⟨⟨an,ao⟩,hv,ha,_,hw⟩
  obtain⟨O,rfl⟩:=(ac (hv.at 10 rfl (af.2.1 rfl)) (ac (hv.at 14 rfl (af.1 rfl)) az)).dH
  have hw:=((hw.bE 1 (af.2.1 rfl)).bK 2 hD).bE 2 (af.2.2.1 rfl)
  refine RL.jg 2 ao hw zr zr (jM 1 hw) gx fun w hw=>?_
  have hw:=(hw.bF 1 (D 10) (af.2.1 rfl) aM).bF 2 true rfl (bif D 13 then (bc 126 b0 [v0_0,v0_1,v0_2,v0_3,v0_4,v0_5,v0_6,(.slice none 0 0),an,v0_9,v0_10,v0_11]) else (bc 126 b0 [v0_0,v0_1,v0_2,v0_3,v0_4,v0_5,v0_6,(.slice none 0 0),v0_8,v0_9,v0_10,v0_11]))
  exact RL.nil ⟨rfl,(an,ao),hv.n1,ha,zt,hw⟩
 rintro D U w a8 ⟨⟨an,ao⟩,hv,ha,_,hw⟩
 have hw:=((hw.bE 0 (gq a8 3)).bE 1 (gq a8 10)).bE 2 (gq a8 16)
 obtain⟨O,rfl⟩:=(ac (ha.at 0 rfl) (ac (ha.at 1 rfl) (ac (ha.at 2 rfl) az))).dH
 refine aG (RC.seq (RC.sr (mv (vp ba 0) ?_)))
 have hw:=(hw.pull 12).pull 12
 obtain⟨a9,d9,hb⟩:=bd hb
 refine RL.call zt zr OJ [(vp ba 0)] zr (aF (sY N hw d9) ?_)
 rintro bl w ⟨_,fc,rfl,hw⟩
 refine RL.gK 0 a9.1 hw F1 (mv (vi 0) (RL.nt ?_))
 obtain⟨a6,hN,hb⟩:=bd hb
 refine RC.fold (fun(bp:Nat) (a6: (List cU)×(List Int)×(List Int)) U w=>∃(c9:Value) (us442:List cF),SH E V [(0,vp b0 0),(2,vi p0_5.length),(72,bl),(73,vi a9.1.length),(74,vi bp)] [bc 126 b0 [v0_0,v0_1,v0_2,v0_3,v0_4,v0_5,v0_6,c9,an,ao,v0_10,v0_11],own 129 c9 us442,jz cC us442 a6.1 none,rd v0_2 p0_2,rd v0_3 p0_3,rd v0_5 p0_5,rd v0_6 p0_6,own 3 an a6.2.1,own 3 ao a6.2.2,own 3 v0_10 p0_10,own 41 v0_11 p0_11,own 87 bl a9.1] U w) (fun(a6: (List cU)×(List Int)×(List Int)) U w=>∃(ak:Value) (us444:List cF),SH E V [(0,vp b0 0)] [bc 126 b0 [v0_0,v0_1,v0_2,v0_3,v0_4,v0_5,v0_6,ak,an,ao,v0_10,v0_11],own 129 ak us444,jz cC us444 a6.1 none,rd v0_2 p0_2,rd v0_3 p0_3,rd v0_5 p0_5,rd v0_6 p0_6,own 3 an a6.2.1,own 3 ao a6.2.2,own 3 v0_10 p0_10,own 41 v0_11 p0_11,own 87 bl a9.1] U w) hN ?_ ?_ ?_ ?_
 ·have hw:=(hw.BT cC).eC cF 129
  exact⟨(.slice none 0 0),([]:List cF),hw.sp 18 [7,0,1,8,9,10,11,5,6,14,15,2]⟩
 ·rintro hm a6 _ w ⟨ea,us604,O,rfl,hw⟩
  refine RC.sr (ic ((a9.1.length:Int)) ((a9.1.length:Int)) (RL.nq (RC.dC oE (RC.ex ?_))))
  exact⟨rfl,ea,us604,hw.sp 12 [0,1,2,3,4,5,6,7,8,9,10,11]⟩
 ·rintro hm bp a6 s' _ w hk ⟨bh,us446,O,rfl,hw⟩ hb
  refine RC.sr (ic ((bp:Int)) ((a9.1.length:Int)) (RL.nq (RC.dB (oD hk) (RC.ss (RC.bs ?_)))))
  obtain⟨bn,cx,hb⟩:=bd hb
  refine RL.bU 11 hw zr zr zz cx (RL.lG (f:=(fun x=>x)) 11 hw (jy 11 hw cx 0) (bC cx).2.1 Fd.self gx fun bq hw=>?_)
  refine aT bq (RL.ns (RL.jN hw M6 fun bw w hw=>?_))
  refine RL.nq (RC.sr (mv bq (RL.bM 1 bn hw nN (mv (vi 0) (RL.nt ?_)))))
  obtain⟨au,hN,hb⟩:=bd hb
  refine RC.fold (fun(b6:Nat) (au: (List Int)×(List Int)×(List Int)×(List Int)) U w=>∃da db:Value,SH E V [(0,vp b0 0),(2,vi p0_5.length),(10,vp bw 0),(72,bl),(73,vi a9.1.length),(74,vi bp),(78,bq),(79,vi bn.length),(80,vi b6)] [bc 126 b0 [v0_0,v0_1,v0_2,v0_3,v0_4,v0_5,v0_6,bh,an,ao,v0_10,v0_11],rd v0_2 p0_2,rd v0_3 p0_3,rd v0_5 p0_5,rd v0_6 p0_6,own 129 bh us446,jz cC us446 a6.1 none,own 3 an au.1,own 3 ao au.2.1,own 3 v0_10 p0_10,own 41 v0_11 p0_11,bc 129 bw [da,db,(.slice none 0 0)],own 3 da au.2.2.1,own 3 db au.2.2.2,own 87 bl a9.1,rd bq bn] U w) (fun(au: (List Int)×(List Int)×(List Int)×(List Int)) U w=>∃bz br:Value,SH E V [(0,vp b0 0),(2,vi p0_5.length),(10,vp bw 0),(72,bl),(73,vi a9.1.length),(74,vi bp)] [bc 126 b0 [v0_0,v0_1,v0_2,v0_3,v0_4,v0_5,v0_6,bh,an,ao,v0_10,v0_11],rd v0_2 p0_2,rd v0_3 p0_3,rd v0_5 p0_5,rd v0_6 p0_6,own 129 bh us446,jz cC us446 a6.1 none,own 3 an au.1,own 3 ao au.2.1,own 3 v0_10 p0_10,own 41 v0_11 p0_11,bc 129 bw [bz,br,(.slice none 0 0)],own 3 bz au.2.2.1,own 3 br au.2.2.2,own 87 bl a9.1,rd bq bn] U w) hN ?_ ?_ ?_ ?_
  ·have hw:=(hw.eC Int 3).eC Int 3
   exact⟨(.slice none 0 0),(.slice none 0 0),hw.sp 16 [4,7,8,9,10,5,6,11,12,13,14,2,1,0,15,3]⟩
  ·rintro hm au _ w ⟨eb,ec,O,rfl,hw⟩
   refine RC.sr (ic ((bn.length:Int)) ((bn.length:Int)) (RL.nq (RC.dC oE (RC.ex ?_))))
   exact⟨rfl,eb,ec,hw.sp 16 [0,1,2,3,4,5,6,7,8,9,10,11,12,13,14,15]⟩
  ·rintro hm b6 au s' _ w hk ⟨cj,cy,O,rfl,hw⟩ hb
   refine RC.sr (ic ((b6:Int)) ((bn.length:Int)) (RL.nq (RC.dB (oD hk) (RC.ss (RC.bs ?_)))))
   obtain⟨a3,ed,hb⟩:=bd hb
   refine RL.cJ 15 hw fI ed fun fe hw=>(RL.cB a3 0 hw cW (aT (vi a3) (RL.nt (RC.bs (mv (vi a3) (mv (vi p0_5.length) (ic a3 ((p0_5.length:Int)) (aT (vb (decide (a3< (p0_5.length:Int)))) ?_))))))))
   refine RL.nt ?_
   obtain⟨b7,hj,hb⟩:=bd hb
   refine RC.jn (fun(b7: (List Int)×(List Int)×(List Int)×(List Int)) U w=>∃ck cl:Value,SH E V [(0,vp b0 0),(2,vi p0_5.length),(10,vp bw 0),(72,bl),(73,vi a9.1.length),(74,vi bp),(78,bq),(79,vi bn.length),(80,vi b6)] [bc 126 b0 [v0_0,v0_1,v0_2,v0_3,v0_4,v0_5,v0_6,bh,an,ao,v0_10,v0_11],rd v0_2 p0_2,rd v0_3 p0_3,rd v0_5 p0_5,rd v0_6 p0_6,own 129 bh us446,jz cC us446 a6.1 none,own 3 an b7.1,own 3 ao b7.2.1,own 3 v0_10 p0_10,own 41 v0_11 p0_11,bc 129 bw [ck,cl,(.slice none 0 0)],own 3 ck b7.2.2.1,own 3 cl b7.2.2.2,own 87 bl a9.1,rd bq bn] U w) b7 ?_ ?_
   ·refine fK hj (fun hc hj=>?_) fun hc hj=>?_
    ·refine RC.seq (RC.AE mixed [0,0,0,0,0,0,0,0,0,0,0,2] [0,1,2,3,4,5,6,7,8,9,10,11] ?_)
     have hw:=hw.drew
     refine DP.e0 zr (mv (vp b0 0) (cM zr (RL.nilCheck zr (cM zr (RL.bO zr Cg (cM zr (RL.bS 1 an hw gx (cM zr ?_))))))))
     refine mv (vi a3) (cM zr (mv (vp b0 0) (cM zr (RL.nilCheck zr (cM zr (RL.bO zr uz (cM zr (RL.bS 1 bh hw Bm ?_))))))))
     refine cM zr (RL.tn 6 7 a6.1 zr hw zr zr zr KP (cM zr ?_))
     obtain⟨ff,cz,hj⟩:=bd hj
     refine RL.bU 8 hw zr zr fI cz (xt zr ?_)
     have hw:=hw.sc Int (a6.1.length:Int)
     refine RL.fQ (f:=(fun _ y=>y)) 9 0 hw (jy 9 hw cz 0) (bC cz).2.1 zr Fs.self cW fun w hw=>?_
     refine DP.d2 zt (DP.z (aG (RC.region (RL.bO zr Ch (RL.bS 13 cj hw gx (mv (vi a3) ?_))))))
     have hw:=hw.sc Int a3
     refine RL.fR ([a3]: (List Int)) hw [(vi a3)] fI Hy (fun M hs g=>⟨(g.sat 0 _ zr).1,zt⟩) fun fg w hw=>?_
     have hw:=hw.freeze 0
     obtain⟨fh,ee,hj⟩:=bd hj
     refine RL.app 16 0 hw wB ee fun dc w hw=>?_
     refine RL.bO zr Ch (RL.jg 15 dc hw zr zr (jM 16 hw) gx fun w hw=>?_)
     refine RL.nil ?_
     obtain rfl:=oi hj
     exact⟨rfl,dc,cy,hw.sp 20 [4,5,6,7,8,9,10,11,12,13,14,15,16,17,18,19]⟩
    refine RC.sr (mv (vp b0 0) (RL.nilCheck zr (RL.bO zr mW (RL.bO zr oc (RL.bS 1 v0_2 hw xK (mv (vi a3) (mv (vi p0_5.length) (RL.ja a3 (p0_5.length:Int) ?_))))))))
    obtain⟨dd,ef,hj⟩:=bd hj
    refine RL.cJ 2 hw Ce ef fun fi hw=>(RL.iT 0 hw zr yT uv fun fj hw=>(RL.cB dd.iO 0 hw yk (aT (vb dd.iO) (RL.nt ?_))))
    obtain⟨cm,hjj,hj⟩:=bd hj
    refine RC.jn (fun(cm: (List Int)×(List Int)) U w=>∃cn:Value,SH E V [(0,vp b0 0),(2,vi p0_5.length),(10,vp bw 0),(72,bl),(73,vi a9.1.length),(74,vi bp),(78,bq),(79,vi bn.length),(80,vi b6)] [bc 126 b0 [v0_0,v0_1,v0_2,v0_3,v0_4,v0_5,v0_6,bh,an,ao,v0_10,v0_11],rd v0_2 p0_2,rd v0_3 p0_3,rd v0_5 p0_5,rd v0_6 p0_6,own 129 bh us446,jz cC us446 a6.1 none,own 3 an au.1,own 3 ao cm.1,own 3 v0_10 p0_10,own 41 v0_11 p0_11,bc 129 bw [cj,cn,(.slice none 0 0)],own 3 cn cm.2,own 3 cj au.2.2.1,own 87 bl a9.1,rd bq bn] U w) cm ?_ ?_
    ·refine fK hjj (fun hc hjj=>?_) fun hc hjj=>?_
     rotate_left
     ·refine RC.region (mv (vp b0 0) (RL.nilCheck zr (RL.bO zr yV (RL.bS 3 ao hw gx (mv (vi a3) (mv (vi p0_5.length) (RL.ja a3 (p0_5.length:Int) ?_)))))))
      obtain⟨fk,c0,hjj⟩:=bd hjj
      refine RL.bU 11 hw zr zr fI c0 ?_
      have hw:=hw.sc Int (-1)
      refine RL.fQ (f:=(fun _ y=>y)) 12 0 hw (jy 12 hw c0 0) (bC c0).2.1 zr Fs.self cW fun w hw=>?_
      refine RL.nil ?_
      obtain rfl:=oi hjj
      exact⟨rfl,cy,hw.sp 20 [4,5,6,7,8,9,10,11,12,13,14,15,17,16,18,19]⟩
     refine RC.seq (RC.AE mixed [0,0,0,0,0,0,0,0,0,0,0,0,0,2] [0,1,2,3,4,5,6,7,8,9,10,11,12,13] ?_)
     have hw:=hw.drew
     refine DP.e0 zr (mv (vp b0 0) (cM zr (RL.nilCheck zr (cM zr (RL.bO zr yV (cM zr (RL.bS 3 ao hw gx (cM zr ?_))))))))
     refine mv (vi a3) (cM zr (mv (vi p0_5.length) (cM zr (RL.ja a3 (p0_5.length:Int) (cM zr (mv (vp b0 0) (cM zr (RL.nilCheck zr ?_))))))))
     refine cM zr (RL.bO zr uz (cM zr (RL.bS 3 bh hw Bm (cM zr (RL.tn 8 9 a6.1 zr hw zr zr zr KP (cM zr ?_))))))
     obtain⟨fl,c1,hjj⟩:=bd hjj
     refine RL.bU 11 hw zr zr fI c1 (xt zr ?_)
     have hw:=hw.sc Int (a6.1.length:Int)
     refine RL.fQ (f:=(fun _ y=>y)) 12 0 hw (jy 12 hw c1 0) (bC c1).2.1 zr Fs.self cW fun w hw=>?_
     refine DP.d2 zt (DP.z (aG (RC.region (RL.bO zr Ci (RL.bS 15 cy hw gx (mv (vi a3) (mv (vi p0_5.length) (RL.ja a3 (p0_5.length:Int) ?_))))))))
     have hw:=hw.sc Int (IntKind.wrap .i64 (a3 - (p0_5.length:Int)))
     refine RL.fR ([(IntKind.wrap .i64 (a3 - (p0_5.length:Int)))]: (List Int)) hw [(vi (IntKind.wrap .i64 (a3 - (p0_5.length:Int))))] fI Hy (fun M hs g=>⟨(g.sat 0 _ zr).1,zt⟩) fun fm w hw=>?_
     have hw:=hw.freeze 0
     obtain⟨fo,eg,hjj⟩:=bd hjj
     refine RL.app 19 0 hw wB eg fun de w hw=>?_
     refine RL.bO zr Ci (RL.jg 17 de hw zr zr (jM 19 hw) gx fun w hw=>?_)
     refine RL.nil ?_
     obtain rfl:=oi hjj
     exact⟨rfl,de,hw.sp 22 [6,7,8,9,10,11,12,13,14,15,16,17,19,18,20,21]⟩
    rintro _ w ⟨cn,O,rfl,hw⟩
    obtain rfl:=oi hj
    exact⟨rfl,cj,cn,hw.sp 16 [0,1,2,3,4,5,6,7,8,9,10,11,13,12,14,15]⟩
   rintro _ w ⟨ck,cl,O,rfl,hw⟩
   refine cA (cA (aG (RC.region (RL.inc hk hm (mv (vi ((b6+1:Nat):Int)) (RL.nil ?_))))))
   obtain rfl:=oi hb
   exact⟨rfl,ck,cl,hw.sp 16 [0,1,2,3,4,5,6,7,8,9,10,11,12,13,14,15]⟩
  rintro _ w ⟨bz,br,O,rfl,hw⟩
  refine aG (RC.sr (RL.bO zr Ch (RL.bS 11 bz hw gx (RL.gK 12 au.2.2.1 hw nN (RL.bO zr Ci (RL.bS 11 br hw gx (RL.gK 13 au.2.2.2 hw nN (RL.ja (au.2.2.1.length:Int) (au.2.2.2.length:Int) ?_))))))))
  refine ic ((IntKind.wrap .i64 ((au.2.2.1.length:Int)+ (au.2.2.2.length:Int)))) 0 (RL.nt ?_)
  obtain⟨c2,hj,hb⟩:=bd hb
  refine RC.jn (fun(c2: (List cU)) U w=>∃(cp:Value) (us598:List cF),SH E V [(0,vp b0 0),(2,vi p0_5.length),(72,bl),(73,vi a9.1.length),(74,vi bp)] [bc 126 b0 [v0_0,v0_1,v0_2,v0_3,v0_4,v0_5,v0_6,cp,an,ao,v0_10,v0_11],own 129 cp us598,jz cC us598 c2 none,rd v0_2 p0_2,rd v0_3 p0_3,rd v0_5 p0_5,rd v0_6 p0_6,own 3 an au.1,own 3 ao au.2.1,own 3 v0_10 p0_10,own 41 v0_11 p0_11,own 87 bl a9.1] U w) c2 ?_ ?_
  ·refine fK hj (fun hc hj=>?_) fun hc hj=>?_
   rotate_left
   ·refine RC.skip ?_
    obtain rfl:=oi hj
    exact⟨rfl,bh,us446,hw.sp 16 [0,5,6,1,2,3,4,7,8,9,10,14]⟩
   have hw:=hw.drew
   refine RC.GH (fun w=>Holds E w ([bc 126 b0 [v0_0,v0_1,v0_2,v0_3,v0_4,v0_5,v0_6,bh,an,ao,v0_10,v0_11]]++V)) mixed zr [1,1,1,1,1,0,2,2,0,0,2] [0,1,2,3,4,5,6,7,8,9,10] (hw.pk 16 [0]) (DP.e1 (vp b0 0) zr (fun w=>RL.move (vp b0 0) zt DP.d1) (DP.e1 (vp b0 0) zr (fun w=>RL.move (vp b0 0) zt DP.d1) (DP.e1 (vp b0 0) zr (fun w=>RL.nilCheck zr DP.d1) (DP.e1 (vp b0 7) zr (fun w=>RL.bO zr uz DP.d1) (DP.JQ bh zr (fun w hw=>RL.bS 0 bh hw Bm DP.d1) (DP.e0 zr (RL.HQ (i:=11) (cs:=[bz,br,(.slice none 0 0)]) zt zr hw zr zr M7 zr (xt zr ?_))))))))
   have hw:=((((hw.eC fE 51).FK (i:=0) rfl).freeze 14).freeze 15).HL (cs:=[bz,br,(.slice none 0 0)]) (x:=(⟨au.2.2.1,au.2.2.2,(rv (.slice none 0 0))⟩:cF)) (fun M hs g=>⟨[bz],[br,(.slice none 0 0)],rfl,(tm (g.sat 14 _ rfl).1),⟨[br],[(.slice none 0 0)],rfl,(tm (g.sat 15 _ rfl).1),(tm (g.sat 0 _ rfl).1)⟩⟩) rfl
   refine RL.fR ([(⟨au.2.2.1,au.2.2.2,(rv (.slice none 0 0))⟩:cF)]:List cF) hw [(.agg ([bz,br,(.slice none 0 0)]:List Value).toArray)] Ii M8 (fun M hs g=>⟨(g.sat 0 _ zr).1,zt⟩) fun fp w hw=>(DP.d2 (hw.pk 20 [4]) (DP.e2 zr ?_))
   obtain⟨fq,eh,hj⟩:=bd hj
   have hw:=hw.freeze 0
   refine RL.GD (i:=9) (j:=0) (b:=10) (o:=3) (X:=cC) (ur:=(⟨au.2.2.1,au.2.2.2,(rv (.slice none 0 0))⟩:cF)) (xr:=(⟨au.2.2.1,au.2.2.2,([]: (List fE))⟩:cU)) (u:=(.slice none 0 0)) (y:=([]: (List fE))) (fun _ _ ho=>⟨⟨rfl,rfl⟩,ho⟩) trivial rfl hw rfl rfl rfl rfl rfl rfl (by decide) (by decide) (by decide) M9 eh fun df w hw=>?_
   refine DP.d2 (hw.pk 20 [4]) (DP.e0 zr (RL.nilCheck zr (cM zr (RL.bO zr uz (DP.d0 (DP.Pt zr zr (RL.jg 4 df hw zr zr (jM 9 hw) Bm fun w hw=>?_)))))))
   refine DP.d2 zt (DP.z ?_)
   obtain rfl:=oi hj
   exact⟨rfl,df,(us446++[(⟨au.2.2.1,au.2.2.2,(rv (.slice none 0 0))⟩:cF)]),hw.sp 20 [4,9,10,5,6,7,8,11,12,13,14,18]⟩
  rintro _ w ⟨cp,us598,O,rfl,hw⟩
  refine cA (aG (RC.region (RL.inc hk hm (mv (vi ((bp+1:Nat):Int)) (RL.nil ?_)))))
  obtain rfl:=oi hb
  exact⟨rfl,cp,us598,hw.sp 12 [0,1,2,3,4,5,6,7,8,9,10,11]⟩
 rintro _ w ⟨ak,us444,O,rfl,hw⟩
 refine aG (RC.sr (mv (vp b0 0) (RL.nilCheck zr (RL.bO zr mW (RL.bO zr tx (RL.bS 0 v0_3 hw DH (RL.bM 4 p0_3 hw H6 (mv (vi 0) ?_))))))))
 refine RL.nt ?_
 obtain⟨aj,hN,hb⟩:=bd hb
 refine RC.fold (fun(b3:Nat) (aj: (List cU)×(List Int)×(List Int)×(List Int)×(List fJ)) U w=>∃(dg dh:Value) (di dj:Value) (us819:List cF),SH E V [(0,vp b0 0),(170,v0_3),(171,vi p0_3.length),(172,vi b3)] [bc 126 b0 [v0_0,v0_1,v0_2,v0_3,v0_4,v0_5,v0_6,ak,dg,dh,di,dj],rd dg aj.2.1,rd dh aj.2.2.1,own 3 di aj.2.2.2.1,own 41 dj aj.2.2.2.2,rd v0_2 p0_2,rd v0_3 p0_3,rd v0_5 p0_5,rd v0_6 p0_6,own 129 ak us819,jz cC us819 aj.1 none] U w) (fun(aj: (List cU)×(List Int)×(List Int)×(List Int)×(List fJ)) U w=>∃(cq cr:Value) (ct cu:Value) (us824:List cF),SH E V [(0,vp b0 0)] [bc 126 b0 [v0_0,v0_1,v0_2,v0_3,v0_4,v0_5,v0_6,ak,cq,cr,ct,cu],rd cq aj.2.1,rd cr aj.2.2.1,own 3 ct aj.2.2.2.1,own 41 cu aj.2.2.2.2,rd v0_2 p0_2,rd v0_3 p0_3,rd v0_5 p0_5,rd v0_6 p0_6,own 129 ak us824,jz cC us824 aj.1 none] U w) hN ?_ ?_ ?_ ?_
 ·have hw:=(hw.freeze 7).freeze 8
  exact⟨an,ao,v0_10,v0_11,us444,hw.sp 12 [0,7,8,9,10,3,4,5,6,1,2]⟩
 ·rintro hm aj _ w ⟨ei,ej,ek,el,us932,O,rfl,hw⟩
  refine RC.sr (ic ((p0_3.length:Int)) ((p0_3.length:Int)) (RL.nq (RC.dC oE (RC.ex ?_))))
  exact⟨rfl,ei,ej,ek,el,us932,hw.sp 11 [0,1,2,3,4,5,6,7,8,9,10]⟩
 ·rintro hm b3 aj s' _ w hk ⟨a4,a5,bm,a7,us829,O,rfl,hw⟩ hb
  refine RC.sr (ic ((b3:Int)) ((p0_3.length:Int)) (RL.nq (RC.dB (oD hk) (RC.ss (RC.bs ?_)))))
  obtain⟨b8,en,hb⟩:=bd hb
  refine RL.cJ 6 hw DI en fun eo hw=>(RL.bY 0 b8 hw zx fun ep hw=>(RL.alloc hw LA.z fun dk w hw=>?_))
  refine RL.bW 0 hw 1 zr zx fun w hw=>?_
  refine RL.ns (mv (vp b0 0) (RL.aV (f:=(fun x=>x)) 0 hw zr Fd.self zx fun dm hw=>?_))
  have hw:=((hw.dup 11 rfl).dup 10 rfl).pull 6
  obtain⟨bb,er,hb⟩:=bd hb
  refine RL.call zt zr OK [(vp b0 0),dm] zr (aF (s8 N (i1:=0) hw zr er) ?_)
  rintro _ w ⟨c3,rfl,hw⟩
  refine mv (.tuple #[c3,(vb bb.2)]) (RL.extract c3 (RL.extract (vb bb.2) (RL.alloc hw JU.z fun b9 w hw=>?_)))
  refine RL.bW 0 hw 1 zr uU fun w hw=>?_
  refine aT (vb bb.2) (RL.ns (aT (vi (-1)) (RL.nq (RC.sr (mv (vb bb.2) (RL.nt ?_))))))
  obtain⟨bj,hj,hb⟩:=bd hb
  refine RC.jn (fun(bj: (List cU)×Int) U w=>∃(us877:List cF),SH E V [(0,vp b0 0),(15,vp b9 0),(17,vi bj.2),(170,v0_3),(171,vi p0_3.length),(172,vi b3)] [bc 126 b0 [v0_0,v0_1,v0_2,v0_3,v0_4,v0_5,v0_6,ak,a4,a5,bm,a7],rd v0_2 p0_2,rd v0_3 p0_3,rd v0_5 p0_5,rd v0_6 p0_6,own 129 ak us877,jz cC us877 bj.1 none,rd a4 aj.2.1,rd a5 aj.2.2.1,own 3 bm aj.2.2.2.1,own 41 a7 aj.2.2.2.2,bx 41 b9 bb.1] U w) bj ?_ ?_
  ·refine fK hj (fun hc hj=>?_) fun hc hj=>?_
   rotate_left
   ·refine RC.skip ?_
    obtain rfl:=oi hj
    exact⟨rfl,us829,hw.sp 18 [2,12,13,14,15,16,17,8,9,10,11,0]⟩
   refine RC.sr (mv (vp b0 0) (RL.aV (f:=(fun x=>x)) 0 hw zr Fd.self uU fun dn hw=>?_))
   have hw:=((hw.dup 10 rfl).dup 10 rfl).pull 5
   obtain⟨ai,et,hj⟩:=bd hj
   refine RL.call zt zr OL [(vp b0 0),dn] zr (aF (pX N (i1:=0) hw zr et) ?_)
   rintro _ w ⟨rfl,hw⟩
   refine aT (vi ai) (RL.nt ?_)
   obtain⟨fr,cf,hj⟩:=bd hj
   obtain⟨ca,eu,hj⟩:=bd hj
   obtain⟨bt,ev,hj⟩:=bd hj
   obtain⟨b4,cv,hj⟩:=bd hj
   refine RC.BX E V mixed [1,1,1,0,1,1,1,1,0,1,0,0,0,0,0,0,0,0,0,0] [13,14,15,16,19] (fun(x:Value×Value×Value×Value)=>(fun aw ax av al=>[(0,186,(vp b0 0)),(1,187,(vp b0 0)),(2,188,(vp b0 7)),(3,189,ak),(4,190,(vi ai)),(5,191,(vp b0 0)),(6,192,(vp b0 0)),(7,193,(vp b0 7)),(8,194,ak),(9,195,(vi ai)),(10,196,(v8 ak (Int.toNat ai) 3 0)),(11,197,(v8 ak (Int.toNat ai) 3 2)),(12,198,(us829.getD (Int.toNat ai) (default:cF)).jC.v),(13,199,aw),(14,200,ax),(15,201,av),(16,202,al),(17,203,(v8 ak (Int.toNat ai) 3 0)),(18,204,(v8 ak (Int.toNat ai) 3 2))]) x.1 x.2.1 x.2.2.1 x.2.2.2) [(0,vp b0 0),(14,vp dk 0),(15,vp b9 0),(17,vi ai),(170,v0_3),(171,vi p0_3.length),(172,vi b3)] [] (fun(D:Nat->Bool) (x:Value×Value×Value×Value)=>(fun aw ax av al=>[bif D 0 then (rd aw b8) else aM,bif D 1 then (rd ax ca) else aM,bif D 3 then (rd av ([ca]: (List fE))) else (bif D 2 then (own 51 av ([ca]: (List fE))) else aM),bif D 4 then aM else (bif D 3 then (own 51 al bt) else aM),bc 126 b0 [v0_0,v0_1,v0_2,v0_3,v0_4,v0_5,v0_6,ak,a4,a5,bm,a7],rd dn bb.1,bx 41 b9 bb.1,rd c3 bb.1,aM,rd dm b8,bx 78 dk b8,rd ep b8,pt eo b8,aM,rd a4 aj.2.1,rd a5 aj.2.2.1,own 3 bm aj.2.2.2.1,own 41 a7 aj.2.2.2.2,rd v0_2 p0_2,rd v0_3 p0_3,rd v0_5 p0_5,rd v0_6 p0_6,bif D 4 then (own 129 ak (us829.set (Int.toNat ai) {(us829.getD (Int.toNat ai) (default:cF)) with jC:=rv al})) else (own 129 ak us829),bif D 4 then (jz cC (us829.set (Int.toNat ai) {(us829.getD (Int.toNat ai) (default:cF)) with jC:=rv al}) (aj.1.set (Int.toNat ai) {b4 with jC:=bt}) none) else (bif D 3 then (jz cC us829 aj.1 (some (Int.toNat ai))) else (jz cC us829 aj.1 none))]) x.1 x.2.1 x.2.2.1 x.2.2.2) (fun x=>by kernel_rfl) ?_ ⟨fun _=>g8 gn,fun _=>AB gn,fun _=>nA gn uz,?_,fun _=>g8 gn,fun _=>g8 gn,fun _=>AB gn,fun _=>nA gn uz,?_,fun _=>g8 gn,?_,?_,?_,?_,?_,?_,?_,?_,?_,?_,trivial⟩ ?_
   ·have hw:=((((hw.drew).aM).aM).aM).aM
    exact⟨(undef,undef,undef,undef),eD.none,(AF zr),zt,hw⟩
   ·rintro D U w hD af ad ⟨⟨aw,ax,av,al⟩,hv,ha,_,hw⟩
    obtain⟨O,rfl⟩:=(ac (hv.at 2 rfl (af.1 rfl)) az).dH
    refine RL.bS 4 ak hw Bm ?_
    exact RL.nil ⟨rfl,(aw,ax,av,al),hv.pu 3,ha.u,zt,hw⟩
   ·rintro D U w hD af ad ⟨⟨aw,ax,av,al⟩,hv,ha,_,hw⟩
    obtain⟨O,rfl⟩:=(ac (hv.at 7 rfl (af.1 rfl)) az).dH
    refine RL.bS 4 ak hw Bm ?_
    exact RL.nil ⟨rfl,(aw,ax,av,al),hv.pu 8,ha.u,zt,hw⟩
   ·rintro D U w hD af ad ⟨⟨aw,ax,av,al⟩,hv,ha,_,hw⟩
    obtain⟨O,rfl⟩:=(ac (hv.at 8 rfl (af.1 rfl)) (ac (hv.at 9 rfl (af.2.1 rfl)) az)).dH
    have hw:=((hw.bK 22 (nh ad hD 19)).bK 23 (nh ad hD 19)).bK 23 (nf (fun h=>ft hD ((ad 11 _ rfl ((ad 12 _ rfl ((ad 16 _ rfl h).1 rfl)).1 rfl)).1 rfl)))
    have hl900:=hw.ik 23 rfl
    have hr901:=kG (default:cF) hl900 cf
    refine RL.bU 22 hw zr zr Ii hr901 ?_
    have hw:=(hw.fD 22 (D 19) (nh ad hD 19) (own 129 ak (us829.set (Int.toNat ai) {(us829.getD (Int.toNat ai) (default:cF)) with jC:=rv al}))).fD 23 (D 16) (nf (fun h=>ft hD ((ad 11 _ rfl ((ad 12 _ rfl ((ad 16 _ rfl h).1 rfl)).1 rfl)).1 rfl))) (jz cC us829 aj.1 (some (Int.toNat ai)))
    have hw:=hw.fD 23 (D 19) (nh ad hD 19) (jz cC (us829.set (Int.toNat ai) {(us829.getD (Int.toNat ai) (default:cF)) with jC:=rv al}) (aj.1.set (Int.toNat ai) {b4 with jC:=bt}) none)
    exact RL.nil ⟨rfl,(aw,ax,av,al),hv.pu 10,ha.u,zt,hw⟩
   ·rintro D U w hD af ad ⟨⟨aw,ax,av,al⟩,hv,ha,_,hw⟩
    obtain⟨O,rfl⟩:=(ac (hv.at 10 rfl (af.1 rfl)) az).dH
    have hw:=((hw.bK 22 (nh ad hD 19)).bK 23 (nh ad hD 19)).bK 23 (nf (fun h=>ft hD ((ad 12 _ rfl ((ad 16 _ rfl h).1 rfl)).1 rfl)))
    have hl902:=hw.ik 23 rfl
    have hr903:=kG (default:cF) hl902 cf
    refine RL.oN (α:=cF) zt (jy 22 hw hr903 0) F2 ?_
    have hw:=(hw.fD 22 (D 19) (nh ad hD 19) (own 129 ak (us829.set (Int.toNat ai) {(us829.getD (Int.toNat ai) (default:cF)) with jC:=rv al}))).fD 23 (D 16) (nf (fun h=>ft hD ((ad 12 _ rfl ((ad 16 _ rfl h).1 rfl)).1 rfl))) (jz cC us829 aj.1 (some (Int.toNat ai)))
    have hw:=hw.fD 23 (D 19) (nh ad hD 19) (jz cC (us829.set (Int.toNat ai) {(us829.getD (Int.toNat ai) (default:cF)) with jC:=rv al}) (aj.1.set (Int.toNat ai) {b4 with jC:=bt}) none)
    exact RL.nil ⟨rfl,(aw,ax,av,al),hv.pu 11,ha.u,zt,hw⟩
   ·rintro D U w hD af ad ⟨⟨aw,ax,av,al⟩,hv,ha,_,hw⟩
    obtain⟨O,rfl⟩:=(ac (hv.at 11 rfl (af.1 rfl)) az).dH
    have hw:=((hw.bK 22 (nh ad hD 19)).bK 23 (nh ad hD 19)).bK 23 (nh ad hD 16)
    have hl904:=hw.ik 23 rfl
    have hr905:=kG (default:cF) hl904 cf
    refine RL.xz 22 23 ai tv (default:cF) zr hw zr (jy 22 hw hr905 2) zr zr cf KR ?_
    have hw:=(hw.fD 22 (D 19) (nh ad hD 19) (own 129 ak (us829.set (Int.toNat ai) {(us829.getD (Int.toNat ai) (default:cF)) with jC:=rv al}))).fD 23 (D 16) (nh ad hD 16) (jz cC us829 aj.1 (some (Int.toNat ai)))
    have hw:=hw.fD 23 (D 19) (nh ad hD 19) (jz cC (us829.set (Int.toNat ai) {(us829.getD (Int.toNat ai) (default:cF)) with jC:=rv al}) (aj.1.set (Int.toNat ai) {b4 with jC:=bt}) none)
    exact RL.nil ⟨rfl,(aw,ax,av,al),hv.pu 12,ha.u,zt,hw⟩
   ·rintro D U w hD af ad ⟨⟨aw,ax,av,al⟩,hv,ha,_,hw⟩
    obtain⟨O,rfl⟩:=(ac (ha.at 1 rfl) az).dH
    have hw:=hw.bK 0 hD
    refine RL.aV (f:=(fun x=>x)) 10 hw zr Fd.self zx fun ew hw=>?_
    have hw:=(hw.pl 25 [0,2,3,4,5,6,7,8,9,10,11,12,13,14,15,16,17,18,19,20,21,22,23,24]).bF 0 true rfl aM
    exact RL.nil ⟨rfl,(ew,ax,av,al),hv.pu 13,ha.u,zt,hw⟩
   ·rintro D U w hD af ad ⟨⟨aw,ax,av,al⟩,hv,ha,_,hw⟩
    obtain⟨O,rfl⟩:=(ac (hv.at 13 rfl (af.1 rfl)) az).dH
    have hw:=(hw.bE 0 (af.1 rfl)).bK 1 hD
    refine RL.call zt zr JT [aw] zr (aF (mX N (i0:=0) hw zr eu) ?_)
    rintro ey w hw
    have hw:=((hw.pl 25 [1,0,3,4,5,6,7,8,9,10,11,12,13,14,15,16,17,18,19,20,21,22,23,24]).bF 0 (D 13) (af.1 rfl) aM).bF 1 true rfl aM
    exact RL.nil ⟨rfl,(aw,ey,av,al),hv.pu 14,ha.u,zt,hw⟩
   ·rintro D U w hD af ad ⟨⟨aw,ax,av,al⟩,hv,ha,_,hw⟩
    obtain⟨O,rfl⟩:=(ac (hv.at 14 rfl (af.1 rfl)) az).dH
    have hw:=((hw.bE 1 (af.1 rfl)).bK 2 (nh ad hD 16)).bK 2 hD
    refine RL.fR ([ca]: (List fE)) hw [ax] Nb MO (fun M hs g=>⟨(g.sat 1 _ zr).1,zt⟩) fun dp w hw=>?_
    have hw:=(((hw.pl 25 [1,2,0,4,5,6,7,8,9,10,11,12,13,14,15,16,17,18,19,20,21,22,23,24]).bF 1 (D 14) (af.1 rfl) aM).bF 2 true rfl aM).fD 2 (D 16) (nh ad hD 16) (rd dp ([ca]: (List fE)))
    exact RL.nil ⟨rfl,(aw,ax,dp,al),hv.pu 15,ha.u,zt,hw⟩
   ·rintro D U w hD af ad ⟨⟨aw,ax,av,al⟩,hv,ha,_,hw⟩
    obtain⟨O,rfl⟩:=(ac (hv.at 12 rfl (af.1 rfl)) (ac (hv.at 15 rfl (af.2.1 rfl)) az)).dH
    have hw:=(((((((hw.bK 2 hD).bE 2 (af.2.1 rfl)).bK 3 (nh ad hD 19)).bK 3 hD).bK 22 (nh ad hD 19)).bK 23 (nh ad hD 19)).bK 23 hD).BU (j:=23) (jj:=ai) tv (default:cF) rfl cf
    have hw:=hw.freeze 3
    refine RL.app 0 3 hw Nc ev fun c4 w hw=>?_
    have hw:=((((hw.pl 25 [1,2,3,0,5,6,7,8,9,10,11,12,13,14,15,16,17,18,19,20,21,22,23,24]).bF 2 true rfl (bif D 15 then (own 51 av ([ca]: (List fE))) else aM)).bF 3 true rfl aM).fD 3 (D 19) (nh ad hD 19) aM).fD 22 (D 19) (nh ad hD 19) (own 129 ak (us829.set (Int.toNat ai) {(us829.getD (Int.toNat ai) (default:cF)) with jC:=rv c4}))
    have hw:=(hw.bF 23 true rfl (jz cC us829 aj.1 none)).fD 23 (D 19) (nh ad hD 19) (jz cC (us829.set (Int.toNat ai) {(us829.getD (Int.toNat ai) (default:cF)) with jC:=rv c4}) (aj.1.set (Int.toNat ai) {b4 with jC:=bt}) none)
    exact RL.nil ⟨rfl,(aw,ax,av,c4),hv.pu 16,ha.u,zt,hw⟩
   ·rintro D U w hD af ad ⟨⟨aw,ax,av,al⟩,hv,ha,_,hw⟩
    obtain⟨O,rfl⟩:=(ac (hv.at 3 rfl (af.1 rfl)) (ac (hv.at 4 rfl (af.2.1 rfl)) az)).dH
    have hw:=hw.bK 22 (nf (fun h=>ft hD ((ad 18 _ rfl ((ad 19 _ rfl h).1 rfl)).1 rfl)))
    have hw:=hw.bK 23 (nf (fun h=>ft hD ((ad 18 _ rfl ((ad 19 _ rfl h).1 rfl)).1 rfl)))
    have hw:=hw.bE 23 (af.2.2.2.2.2.2.2.2.2.2.2.2.2.2.2.2.2.2.1 rfl)
    have hl910:=hw.ik 23 rfl
    have hr911:=kG (default:cF) hl910 cv
    refine RL.bU 22 hw zr zr Ii hr911 ?_
    have hw:=hw.fD 22 (D 19) (nf (fun h=>ft hD ((ad 18 _ rfl ((ad 19 _ rfl h).1 rfl)).1 rfl))) (own 129 ak (us829.set (Int.toNat ai) {(us829.getD (Int.toNat ai) (default:cF)) with jC:=rv al}))
    have hw:=(hw.bF 23 (D 16) (af.2.2.2.2.2.2.2.2.2.2.2.2.2.2.2.2.2.2.1 rfl) (jz cC us829 aj.1 none)).fD 23 (D 19) (nf (fun h=>ft hD ((ad 18 _ rfl ((ad 19 _ rfl h).1 rfl)).1 rfl))) (jz cC (us829.set (Int.toNat ai) {(us829.getD (Int.toNat ai) (default:cF)) with jC:=rv al}) (aj.1.set (Int.toNat ai) {b4 with jC:=bt}) none)
    exact RL.nil ⟨rfl,(aw,ax,av,al),hv.pu 17,ha.u,zt,hw⟩
   ·rintro D U w hD af ad ⟨⟨aw,ax,av,al⟩,hv,ha,_,hw⟩
    obtain⟨O,rfl⟩:=(ac (hv.at 17 rfl (af.1 rfl)) az).dH
    have hw:=((hw.bK 22 (nh ad hD 19)).bK 23 (nh ad hD 19)).bE 23 (af.2.2.2.2.2.2.2.2.2.2.2.2.2.2.2.2.2.1 rfl)
    have hl912:=hw.ik 23 rfl
    have hr913:=kG (default:cF) hl912 cv
    refine RL.oN (α:=cF) zt (jy 22 hw hr913 0) F2 ?_
    have hw:=(hw.fD 22 (D 19) (nh ad hD 19) (own 129 ak (us829.set (Int.toNat ai) {(us829.getD (Int.toNat ai) (default:cF)) with jC:=rv al}))).bF 23 (D 16) (af.2.2.2.2.2.2.2.2.2.2.2.2.2.2.2.2.2.1 rfl) (jz cC us829 aj.1 none)
    have hw:=hw.fD 23 (D 19) (nh ad hD 19) (jz cC (us829.set (Int.toNat ai) {(us829.getD (Int.toNat ai) (default:cF)) with jC:=rv al}) (aj.1.set (Int.toNat ai) {b4 with jC:=bt}) none)
    exact RL.nil ⟨rfl,(aw,ax,av,al),hv.pu 18,ha.u,zt,hw⟩
   ·rintro D U w hD af ad ⟨⟨aw,ax,av,al⟩,hv,ha,_,hw⟩
    obtain⟨O,rfl⟩:=(ac (hv.at 16 rfl (af.2.1 rfl)) (ac (hv.at 18 rfl (af.1 rfl)) az)).dH
    have hw:=((((hw.bK 3 hD).bE 3 (af.2.1 rfl)).bK 22 hD).bK 23 hD).bE 23 (af.2.1 rfl)
    have hl914:=hw.ik 23 rfl
    have hr915:=kG (default:cF) hl914 cv
    refine RL.vz 22 23 3 ai tv (default:cF) hw zr zr (jy 22 hw hr915 2) zr zr zr cv KR fun w hw=>?_
    have hw:=((hw.bF 3 true rfl (bif D 16 then (own 51 al bt) else aM)).bF 22 true rfl (own 129 ak us829)).bF 23 true rfl (bif D 16 then (jz cC us829 aj.1 (some (Int.toNat ai))) else (jz cC us829 aj.1 none))
    exact RL.nil ⟨rfl,(aw,ax,av,al),hv.n1,ha,zt,hw⟩
   rintro D U w a8 ⟨⟨aw,ax,av,al⟩,hv,ha,_,hw⟩
   have hw:=(((((hw.bE 0 (gq a8 13)).bE 1 (gq a8 14)).bE 2 (gq a8 16)).bE 3 (gq a8 19)).bE 22 (gq a8 19)).bE 23 (gq a8 19)
   obtain⟨O,rfl⟩:=(ac (ha.at 0 rfl) (ac (ha.at 1 rfl) (ac (ha.at 2 rfl) (ac (ha.at 3 rfl) (ac (ha.at 4 rfl) (ac (ha.at 5 rfl) (ac (ha.at 6 rfl) az))))))).dH
   obtain rfl:=oi hj
   exact⟨rfl,(us829.set (Int.toNat ai) {(us829.getD (Int.toNat ai) (default:cF)) with jC:=rv al}),hw.sp 24 [4,18,19,20,21,22,23,14,15,16,17,6]⟩
  rintro _ w ⟨us877,O,rfl,hw⟩
  refine aG ?_
  obtain⟨ez,e3,hb⟩:=bd hb
  obtain⟨e4,e5,hb⟩:=bd hb
  refine RC.BX E V mixed [1,1,1,1,1,0,1,0,0,1,1,1,0,0,0,0,1,1,0,1,1,0] [7,8,13,14,15,18,21] (fun(x:Value×Value×Value×Value×Value)=>(fun a0 a2 a1 ar ay=>[(0,205,(vp b0 0)),(1,206,(vp b0 0)),(2,207,(vp b0 0)),(3,208,(vp b0 0)),(4,209,(vp b0 10)),(5,210,bm),(6,211,(vi bj.2)),(7,212,a0),(8,213,ar),(9,214,(vp b0 0)),(10,215,(vp b0 0)),(11,216,(vp b0 11)),(12,217,a7),(13,218,a2),(14,219,a1),(15,220,ay),(16,221,(vp b0 0)),(17,222,(vp b0 10)),(19,223,(vp b0 0)),(20,224,(vp b0 11))]) x.1 x.2.1 x.2.2.1 x.2.2.2.1 x.2.2.2.2) [(0,vp b0 0),(15,vp b9 0),(17,vi bj.2),(170,v0_3),(171,vi p0_3.length),(172,vi b3)] [] (fun(D:Nat->Bool) (x:Value×Value×Value×Value×Value)=>(fun a0 a2 a1 ar ay=>[bif D 1 then (rd a0 ([bj.2]: (List Int))) else (bif D 0 then (own 3 a0 ([bj.2]: (List Int))) else aM),bif D 2 then (rd a2 bb.1) else aM,bif D 4 then (rd a1 ([bb.1]: (List fJ))) else (bif D 3 then (own 41 a1 ([bb.1]: (List fJ))) else aM),bif D 6 then (bc 126 b0 [v0_0,v0_1,v0_2,v0_3,v0_4,v0_5,v0_6,ak,a4,a5,ar,ay]) else (bif D 5 then (bc 126 b0 [v0_0,v0_1,v0_2,v0_3,v0_4,v0_5,v0_6,ak,a4,a5,ar,a7]) else (bc 126 b0 [v0_0,v0_1,v0_2,v0_3,v0_4,v0_5,v0_6,ak,a4,a5,bm,a7])),rd v0_2 p0_2,rd v0_3 p0_3,rd v0_5 p0_5,rd v0_6 p0_6,own 129 ak us877,jz cC us877 bj.1 none,rd a4 aj.2.1,rd a5 aj.2.2.1,bif D 1 then (own 3 ar ez) else (own 3 bm aj.2.2.2.1),bif D 4 then (own 41 ay e4) else (own 41 a7 aj.2.2.2.2),bx 41 b9 bb.1]) x.1 x.2.1 x.2.2.1 x.2.2.2.1 x.2.2.2.2) (fun x=>by kernel_rfl) ?_ ⟨fun _=>g8 gn,fun _=>g8 gn,fun _=>g8 gn,fun _=>AB gn,fun _=>nA gn Cj,?_,fun _=>g8 gn,?_,?_,fun _=>g8 gn,fun _=>AB gn,fun _=>nA gn Ck,?_,?_,?_,?_,fun _=>AB gn,fun _=>nA gn Cj,?_,fun _=>AB gn,fun _=>nA gn Ck,?_,trivial⟩ ?_
  ·have hw:=(((hw.drew).aM).aM).aM
   exact⟨(undef,undef,undef,undef,undef),eD.none,(AF zr),zt,hw⟩
  ·rintro D U w hD af ad ⟨⟨a0,a2,a1,ar,ay⟩,hv,ha,_,hw⟩
   obtain⟨O,rfl⟩:=(ac (hv.at 4 rfl (af.1 rfl)) az).dH
   have hw:=(hw.bK 3 (nh ad hD 21)).bK 3 (nh ad hD 18)
   refine RL.bS 3 bm hw gx ?_
   have hw:=(hw.fD 3 (D 18) (nh ad hD 18) (bc 126 b0 [v0_0,v0_1,v0_2,v0_3,v0_4,v0_5,v0_6,ak,a4,a5,ar,a7])).fD 3 (D 21) (nh ad hD 21) (bc 126 b0 [v0_0,v0_1,v0_2,v0_3,v0_4,v0_5,v0_6,ak,a4,a5,ar,ay])
   exact RL.nil ⟨rfl,(a0,a2,a1,ar,ay),hv.pu 5,ha.u,zt,hw⟩
  ·rintro D U w hD af ad ⟨⟨a0,a2,a1,ar,ay⟩,hv,ha,_,hw⟩
   obtain⟨O,rfl⟩:=(ac (hv.at 6 rfl (af.1 rfl)) az).dH
   have hw:=((hw.bK 0 (nh ad hD 8)).bK 0 hD).sc Int bj.2
   refine RL.fR ([bj.2]: (List Int)) hw [(vi bj.2)] fI Hy (fun M hs g=>⟨(g.sat 0 _ zr).1,zt⟩) fun dq w hw=>?_
   have hw:=((hw.pl 17 [0,3,4,5,6,7,8,9,10,11,12,13,14,15,16]).bF 0 true rfl aM).fD 0 (D 8) (nh ad hD 8) (rd dq ([bj.2]: (List Int)))
   exact RL.nil ⟨rfl,(dq,a2,a1,ar,ay),hv.pu 7,ha.u,zt,hw⟩
  ·rintro D U w hD af ad ⟨⟨a0,a2,a1,ar,ay⟩,hv,ha,_,hw⟩
   obtain⟨O,rfl⟩:=(ac (hv.at 5 rfl (af.1 rfl)) (ac (hv.at 7 rfl (af.2.1 rfl)) az)).dH
   have hw:=(((((hw.bK 0 hD).bE 0 (af.2.1 rfl)).bK 3 (nh ad hD 21)).bK 3 (nh ad hD 18)).bK 12 hD).freeze 0
   refine RL.app 12 0 hw wB e3 fun c5 w hw=>?_
   have hw:=((hw.bF 0 true rfl (bif D 7 then (own 3 a0 ([bj.2]: (List Int))) else aM)).fD 3 (D 18) (nh ad hD 18) (bc 126 b0 [v0_0,v0_1,v0_2,v0_3,v0_4,v0_5,v0_6,ak,a4,a5,c5,a7])).fD 3 (D 21) (nh ad hD 21) (bc 126 b0 [v0_0,v0_1,v0_2,v0_3,v0_4,v0_5,v0_6,ak,a4,a5,c5,ay])
   have hw:=hw.bF 12 true rfl (own 3 bm aj.2.2.2.1)
   exact RL.nil ⟨rfl,(a0,a2,a1,c5,ay),hv.pu 8,ha.u,zt,hw⟩
  ·rintro D U w hD af ad ⟨⟨a0,a2,a1,ar,ay⟩,hv,ha,_,hw⟩
   obtain⟨O,rfl⟩:=(ac (hv.at 11 rfl (af.1 rfl)) az).dH
   have hw:=(hw.bK 3 (nh ad hD 21)).bK 3 (nh ad hD 18)
   refine RL.bS 3 a7 hw Ij ?_
   have hw:=(hw.fD 3 (D 18) (nh ad hD 18) (bc 126 b0 [v0_0,v0_1,v0_2,v0_3,v0_4,v0_5,v0_6,ak,a4,a5,ar,a7])).fD 3 (D 21) (nh ad hD 21) (bc 126 b0 [v0_0,v0_1,v0_2,v0_3,v0_4,v0_5,v0_6,ak,a4,a5,ar,ay])
   exact RL.nil ⟨rfl,(a0,a2,a1,ar,ay),hv.pu 12,ha.u,zt,hw⟩
  ·rintro D U w hD af ad ⟨⟨a0,a2,a1,ar,ay⟩,hv,ha,_,hw⟩
   obtain⟨O,rfl⟩:=(ac (ha.at 1 rfl) az).dH
   have hw:=hw.bK 1 hD
   refine RL.aV (f:=(fun x=>x)) 14 hw zr Fd.self uU fun e6 hw=>?_
   have hw:=(hw.pl 16 [1,0,3,4,5,6,7,8,9,10,11,12,13,14,15]).bF 1 true rfl aM
   exact RL.nil ⟨rfl,(a0,e6,a1,ar,ay),hv.pu 13,ha.u,zt,hw⟩
  ·rintro D U w hD af ad ⟨⟨a0,a2,a1,ar,ay⟩,hv,ha,_,hw⟩
   obtain⟨O,rfl⟩:=(ac (hv.at 13 rfl (af.1 rfl)) az).dH
   have hw:=((hw.bE 1 (af.1 rfl)).bK 2 (nh ad hD 15)).bK 2 hD
   refine RL.fR ([bb.1]: (List fJ)) hw [a2] KS JU (fun M hs g=>⟨(g.sat 1 _ zr).1,zt⟩) fun dr w hw=>?_
   have hw:=(((hw.pl 16 [1,2,0,4,5,6,7,8,9,10,11,12,13,14,15]).bF 1 (D 13) (af.1 rfl) aM).bF 2 true rfl aM).fD 2 (D 15) (nh ad hD 15) (rd dr ([bb.1]: (List fJ)))
   exact RL.nil ⟨rfl,(a0,a2,dr,ar,ay),hv.pu 14,ha.u,zt,hw⟩
  ·rintro D U w hD af ad ⟨⟨a0,a2,a1,ar,ay⟩,hv,ha,_,hw⟩
   obtain⟨O,rfl⟩:=(ac (hv.at 12 rfl (af.1 rfl)) (ac (hv.at 14 rfl (af.2.1 rfl)) az)).dH
   have hw:=(((((hw.bK 2 hD).bE 2 (af.2.1 rfl)).bK 3 (nh ad hD 21)).bK 3 (nh ad hD 18)).bK 13 hD).freeze 2
   refine RL.app 13 2 hw Nd e5 fun ds w hw=>?_
   have hw:=((hw.bF 2 true rfl (bif D 14 then (own 41 a1 ([bb.1]: (List fJ))) else aM)).fD 3 (D 18) (nh ad hD 18) (bc 126 b0 [v0_0,v0_1,v0_2,v0_3,v0_4,v0_5,v0_6,ak,a4,a5,ar,a7])).fD 3 (D 21) (nh ad hD 21) (bc 126 b0 [v0_0,v0_1,v0_2,v0_3,v0_4,v0_5,v0_6,ak,a4,a5,ar,ds])
   have hw:=hw.bF 13 true rfl (own 41 a7 aj.2.2.2.2)
   exact RL.nil ⟨rfl,(a0,a2,a1,ar,ds),hv.pu 15,ha.u,zt,hw⟩
  ·rintro D U w hD af ad ⟨⟨a0,a2,a1,ar,ay⟩,hv,ha,_,hw⟩
   obtain⟨O,rfl⟩:=(ac (hv.at 8 rfl (af.2.1 rfl)) (ac (hv.at 17 rfl (af.1 rfl)) az)).dH
   have hw:=((hw.bK 3 (nh ad hD 21)).bK 3 hD).bE 12 (af.2.1 rfl)
   refine RL.jg 3 ar hw zr zr (jM 12 hw) gx fun w hw=>?_
   have hw:=((hw.bF 3 true rfl (bc 126 b0 [v0_0,v0_1,v0_2,v0_3,v0_4,v0_5,v0_6,ak,a4,a5,bm,a7])).fD 3 (D 21) (nh ad hD 21) (bc 126 b0 [v0_0,v0_1,v0_2,v0_3,v0_4,v0_5,v0_6,ak,a4,a5,ar,ay])).bF 12 (D 8) (af.2.1 rfl) (own 3 bm aj.2.2.2.1)
   exact RL.nil ⟨rfl,(a0,a2,a1,ar,ay),hv.n1,ha,zt,hw⟩
  ·rintro D U w hD af ad ⟨⟨a0,a2,a1,ar,ay⟩,hv,ha,_,hw⟩
   obtain⟨O,rfl⟩:=(ac (hv.at 15 rfl (af.2.1 rfl)) (ac (hv.at 19 rfl (af.1 rfl)) az)).dH
   have hw:=((hw.bK 3 hD).bE 3 (af.2.2.1 rfl)).bE 13 (af.2.1 rfl)
   refine RL.jg 3 ay hw zr zr (jM 13 hw) Ij fun w hw=>?_
   have hw:=(hw.bF 3 true rfl (bif D 18 then (bc 126 b0 [v0_0,v0_1,v0_2,v0_3,v0_4,v0_5,v0_6,ak,a4,a5,ar,a7]) else (bc 126 b0 [v0_0,v0_1,v0_2,v0_3,v0_4,v0_5,v0_6,ak,a4,a5,bm,a7]))).bF 13 (D 15) (af.2.1 rfl) (own 41 a7 aj.2.2.2.2)
   exact RL.nil ⟨rfl,(a0,a2,a1,ar,ay),hv.n1,ha,zt,hw⟩
  rintro D U w a8 ⟨⟨a0,a2,a1,ar,ay⟩,hv,ha,_,hw⟩
  have hw:=(((((hw.bE 0 (gq a8 8)).bE 1 (gq a8 13)).bE 2 (gq a8 15)).bE 3 (gq a8 21)).bE 12 (gq a8 8)).bE 13 (gq a8 15)
  obtain⟨O,rfl⟩:=(ac (ha.at 0 rfl) (ac (ha.at 1 rfl) (ac (ha.at 2 rfl) (ac (ha.at 3 rfl) (ac (ha.at 4 rfl) (ac (ha.at 5 rfl) az)))))).dH
  refine cA (aG (RC.region (RL.inc hk hm (mv (vi ((b3+1:Nat):Int)) (RL.nil ?_)))))
  obtain rfl:=oi hb
  exact⟨rfl,a4,a5,ar,ay,us877,hw.sp 15 [3,10,11,12,13,4,5,6,7,8,9]⟩
 rintro _ w ⟨cq,cr,ct,cu,us824,O,rfl,hw⟩
 obtain rfl:=oi hb
 have hw:=hw.BV (X:=cC) (b:=10) (j:=9) rfl (fun M h u x cs=>Cc M h u x cs) rfl rfl (by decide)
 refine C1 ?_
 exact Jz zr ⟨ak,cq,cr,ct,cu,zr,hw.pk 11 [0,9,1,2,3,4]⟩
def qT (E:World) (V:List HP) (r:Option ((List (List aH))×(List aH)×(List cD)×(List dD)×(List (List aA))×(List aJ)×(List (List Int))×(List cU)×(List Int)×(List Int)×(List Int)×(List fJ))×Int) (U:Nat->Value) (w:World):Prop:=nL bN 112 Tryz.f26 (ov E V r) .ret U w
theorem tP {p0:fz} {res:Option ((List (List aH))×(List aH)×(List cD)×(List dD)×(List (List aA))×(List aJ)×(List (List Int))×(List cU)×(List Int)×(List Int)×(List Int)×(List fJ))×Int} (j:Holds E w V) (h0:V[i0]? =some (rd v0 p0)) (o:gC N p0=some res):
    Calls bN 26 [v0].toArray w (iE (ov E V res)):=by
 unfold gC at o
 refine enter Tryz.func26 zr zr ?_
 have j:=j.dup (i0+0) h0
 refine RC.sr (RL.dJ 0 v0 j zr fun an w j=>?_)
 refine aT (.pointer none) (aT (vi 0) (RL.nq (RC.sr (RL.bO zr xJ (RL.aV 0 j zr rk GM fun c1 j=>(RL.bM 0 p0.aI j DF (ic ((p0.aI.length:Int)) 0 (RL.nt ?_))))))))
 refine fK o (fun hc o=>?_) fun hc o=>?_
 ·refine RC.sr (aT (.pointer none) (aT (vi 9) (RL.nt (RC.rt ?_))))
  obtain rfl:=oi o
  exact kC ⟨rfl,j.drop 3⟩
 refine RC.ss (RC.sr (RL.bO zr xJ (RL.aV 1 j zr rk GM fun c2 j=>(RL.bM 0 p0.aI j DF (ic ((p0.aI.length:Int)) 16 (RL.nt (fK o (fun hc o=>?_) fun hc o=>?_)))))))
 ·refine RC.sr (aT (.pointer none) (aT (vi 2) (RL.nt (RC.rt ?_))))
  obtain rfl:=oi o
  exact kC ⟨rfl,j.drop 4⟩
 refine RC.sx (RL.bO zr H4 (RL.aV 2 j zr zj Cd fun c3 j=>(RL.bM 0 p0.cQ j tw (aT (vi p0.cQ.length) (RL.nq (RC.sr (RL.bO zr xJ (RL.aV 3 j zr rk GM fun bo j=>?_))))))))
 refine RL.bM 0 p0.aI j DF (mv (vi 0) (RL.nt ?_))
 obtain⟨c4,hN,o⟩:=bd o
 refine RC.range (fun(bj:Nat) (ax:Int)=>SH E V [(1,vp an 0),(4,vi ax),(28,bo),(29,vi p0.aI.length),(30,vi bj)] [bx 27 an p0,rd bo p0.aI]) (fun(ax:Int)=>SH E V [(1,vp an 0),(4,vi ax)] [bx 27 an p0,rd bo p0.aI]) (qT E V) hN ?_ ?_ ?_ ?_ ?_
 ·exact j.sp 6 [4,0]
 ·rintro hm ax _ w ⟨O,rfl,j⟩
  refine RC.sr (ic ((p0.aI.length:Int)) ((p0.aI.length:Int)) (RL.nq (RC.dC oE (RC.ex ?_))))
  exact⟨rfl,j.sp 2 [0,1]⟩
 ·rintro hm bj ax fl _ w hk ⟨O,rfl,j⟩ o
  refine RC.sr (ic ((bj:Int)) ((p0.aI.length:Int)) (RL.nq (RC.dB (oD hk) (RC.ss (RC.bs ?_)))))
  obtain⟨bk,bw,o⟩:=bd o
  refine RL.cJ 1 j EW bw fun c5 j=>(RL.bY 0 bk j Cd fun bl j=>(aT bl (RL.nq (RC.sr (mv bl ?_)))))
  obtain⟨a7,bz,o⟩:=bd o
  refine RL.call zt zr Mz [bl] zr (aF (oH N (i0:=0) j zr bz) ?_)
  rintro _ w ⟨rfl,j⟩
  refine aT (vi a7) (RL.ns (mv (vi a7) (ic a7 0 (RL.nt (fK o (fun hc o=>?_) fun hc o=>?_)))))
  ·refine RC.sr (mv (vi a7) (aT (.pointer none) (aT (vi a7) (RL.nt (RC.rt (kh (bZ ?_)))))))
   obtain rfl:=oi o
   exact⟨rfl,kC ⟨rfl,j.drop 4⟩⟩
  refine RC.sn (RC.region (mv (vi ax) (mv bl (RL.bM 0 bk j tw (RL.ja ax (bk.length:Int) (aT (vi (IntKind.wrap .i64 (ax+ (bk.length:Int)))) (RL.nil (cA ?_))))))))
  refine aG (RC.region (RL.inc hk hm (mv (vi ((bj+1:Nat):Int)) (RL.nil ?_))))
  obtain rfl:=oi o
  exact⟨rfl,j.sp 4 [2,3]⟩
 ·intro r U w e hK
  subst e
  refine bZ ?_
  obtain rfl:=oi o
  exact hK
 rintro ax _ w rfl ⟨O,rfl,j⟩
 rw [Fo.gm] at o
 refine aG (RC.seq (RC.sr (RL.bO zr H4 (RL.aV 0 j zr zj Cd fun b0 j=>?_))))
 obtain⟨a9,b1,o⟩:=bd o
 refine RL.call zt zr Mz [b0] zr (aF (oH N (i0:=0) j zr b1) ?_)
 rintro _ w ⟨rfl,j⟩
 refine aT (vi a9) (RL.ns (mv (vi a9) (ic a9 0 (RL.nt (fK o (fun hc o=>?_) fun hc o=>?_)))))
 ·refine RC.sr (mv (vi a9) (aT (.pointer none) (aT (vi a9) (RL.nt (RC.rt ?_)))))
  obtain rfl:=oi o
  exact kC ⟨rfl,j.drop 3⟩
 refine RC.ss (RC.sr (mv (vi ax) (ic ax 2000 (RL.nt (fK o (fun hc o=>?_) fun hc o=>?_)))))
 ·refine RC.sr (aT (.pointer none) (aT (vi 2) (RL.nt (RC.rt ?_))))
  obtain rfl:=oi o
  exact kC ⟨rfl,j.drop 3⟩
 refine RC.ss (RC.sr (RL.aV (f:=(fun x=>x)) 1 j zr Fd.self mx fun b2 j=>?_))
 obtain⟨ba,b3,o⟩:=bd o
 refine RL.call zt zr Ou [b2] zr (aF (tE N (i0:=0) j zr b3) ?_)
 rintro _ w ⟨rfl,j⟩
 refine aT (vi ba) (RL.ns (mv (vi ba) (ic ba 0 (RL.nt (fK o (fun hc o=>?_) fun hc o=>?_)))))
 ·refine RC.sr (mv (vi ba) (aT (.pointer none) (aT (vi ba) (RL.nt (RC.rt ?_)))))
  obtain rfl:=oi o
  exact kC ⟨rfl,j.drop 4⟩
 refine RC.ss (RC.sr (RL.aV (f:=(fun x=>x)) 2 j zr Fd.self mx fun b4 j=>?_))
 obtain⟨bb,b5,o⟩:=bd o
 refine RL.call zt zr Oy [b4] zr (aF (tI N (i0:=0) j zr b5) ?_)
 rintro _ w ⟨rfl,j⟩
 refine aT (vi bb) (RL.ns (mv (vi bb) (ic bb 0 (RL.nt (fK o (fun hc o=>?_) fun hc o=>?_)))))
 ·refine RC.sr (mv (vi bb) (aT (.pointer none) (aT (vi bb) (RL.nt (RC.rt ?_)))))
  obtain rfl:=oi o
  exact kC ⟨rfl,j.drop 5⟩
 refine RC.ss (RC.sr (RL.bO zr oc (RL.aV 3 j zr tu xK fun au j=>(RL.bM 0 p0.aQ j zw (mv (vi 0) (RL.nt ?_))))))
 obtain⟨c6,hN,o⟩:=bd o
 refine RC.range (fun(aw:Nat) (bm:Unit)=>SH E V [(1,vp an 0),(63,au),(64,vi p0.aQ.length),(65,vi aw)] [bx 27 an p0,rd au p0.aQ]) (fun(bm:Unit)=>SH E V [(1,vp an 0)] [bx 27 an p0,rd au p0.aQ]) (qT E V) hN ?_ ?_ ?_ ?_ ?_
 ·exact j.sp 6 [4,0]
 ·rintro hm bm _ w ⟨O,rfl,j⟩
  refine RC.sr (ic ((p0.aQ.length:Int)) ((p0.aQ.length:Int)) (RL.nq (RC.dC oE (RC.ex ?_))))
  exact⟨rfl,j.sp 2 [0,1]⟩
 ·rintro hm aw bm fl _ w hk ⟨O,rfl,j⟩ o
  refine RC.sr (ic ((aw:Int)) ((p0.aQ.length:Int)) (RL.nq (RC.dB (oD hk) (RC.ss (RC.bs (mv (vi aw) ?_))))))
  obtain⟨eX,b6,o⟩:=bd o
  refine RL.cJ 1 j Ce b6 fun c7 j=>(RL.bY 0 eX j mD fun c8 j=>(RL.alloc j Bj.z fun al w j=>?_))
  refine aT (vi aw) (RL.bW 0 j 1 zr mD fun w j=>?_)
  refine RL.ns (RL.bO zr oc (RL.aV 3 j zr tu xK fun c9 j=>(mv (vi aw) ?_)))
  obtain⟨av,b7,o⟩:=bd o
  refine RL.cut (hl:= .inr ⟨rfl,zr⟩) 0 j Ce (.inl zr) b7 fun a1 j=>(RL.bM 0 av j zw (mv (vi 0) (RL.nt ?_)))
  obtain⟨da,hN,o⟩:=bd o
  refine RC.range (fun(a4:Nat) (bn:Unit)=>SH E V [(1,vp an 0),(12,vp al 0),(63,au),(64,vi p0.aQ.length),(65,vi aw),(73,a1),(74,vi av.length),(75,vi a4)] [bx 27 an p0,bx 117 al eX,rd au p0.aQ,rd a1 av]) (fun(bn:Unit)=>SH E V [(1,vp an 0),(63,au),(64,vi p0.aQ.length),(65,vi aw)] [bx 27 an p0,bx 117 al eX,rd au p0.aQ,rd a1 av]) (qT E V) hN ?_ ?_ ?_ ?_ ?_
  ·exact j.sp 7 [5,2,6,0]
  ·rintro hm bn _ w ⟨O,rfl,j⟩
   refine RC.sr (ic ((av.length:Int)) ((av.length:Int)) (RL.nq (RC.dC oE (RC.ex ?_))))
   exact⟨rfl,j.sp 4 [0,1,2,3]⟩
  ·rintro hm a4 bn fl _ w hk ⟨O,rfl,j⟩ o
   refine RC.sr (ic ((a4:Int)) ((av.length:Int)) (RL.nq (RC.dB (oD hk) (RC.ss (RC.bs ?_)))))
   obtain⟨ab,b8,o⟩:=bd o
   refine RL.cJ 3 j Ce b8 fun bt j=>(RL.bY 0 ab j mD fun bu j=>(RL.alloc j Bj.z fun ar w j=>?_))
   refine RL.bW 0 j 1 zr mD fun w j=>?_
   refine RL.nq ?_
   obtain⟨bp,hj,o⟩:=bd o
   refine RC.jn (fun(bp:Bool)=>SH E V [(1,vp an 0),(12,vp al 0),(63,au),(64,vi p0.aQ.length),(65,vi aw),(73,a1),(74,vi av.length),(75,vi a4),(98,vb bp)] [bx 27 an p0,bx 117 al eX,rd au p0.aQ,rd a1 av]) bp ?_ ?_
   ·refine iA hj (fun aq hj=>?_) fun aq hj=>?_
    rotate_left
    ·refine RC.BX E V mixed [1,0,1,0,1,1,0,0,0,0,0,0,1,1,1,1,1,1,1,1] [] (fun(x:Unit)=>[(0,79,(vp al 3)),(1,80,(vi eX.cZ)),(2,81,(vp ar 4)),(3,82,(vi ab.To)),(4,83,(vb (decide (eX.cZ<=ab.To)))),(5,84,(vb (decide (eX.cZ<=ab.To)))),(6,85,(cv (true&&((decide (eX.cZ<=ab.To))==true)) (vp ar 3))),(7,86,(cv (true&&((decide (eX.cZ<=ab.To))==true)) (vi ab.cZ))),(8,87,(cv (true&&((decide (eX.cZ<=ab.To))==true)) (vp al 4))),(9,88,(cv (true&&((decide (eX.cZ<=ab.To))==true)) (vi eX.To))),(10,89,(cv (true&&((decide (eX.cZ<=ab.To))==true)) (vb (decide (ab.cZ<=eX.To))))),(11,90,(vb ((decide (eX.cZ<=ab.To))&&(decide (ab.cZ<=eX.To))))),(12,91,(vb ((decide (eX.cZ<=ab.To))&&(decide (ab.cZ<=eX.To))))),(13,92,undef),(14,93,undef),(15,94,undef),(16,95,undef),(17,96,undef),(18,97,undef),(19,98,(vb false))]) [(1,vp an 0),(12,vp al 0),(14,vp ar 0),(63,au),(64,vi p0.aQ.length),(65,vi aw),(73,a1),(74,vi av.length),(75,vi a4)] [] (fun(D:Nat->Bool) (x:Unit)=>[bx 117 ar ab,rd bu ab,pt bt ab,bx 27 an p0,bx 117 al eX,rd au p0.aQ,rd a1 av]) (fun x=>by kernel_rfl) ?_ ⟨fun _=>nA gn r8,?_,fun _=>nA gn uy,?_,fun _=>Lu gn rfl,fun _=>g8 gn,?_,?_,?_,?_,?_,?_,fun _=>g8 gn,fun _=>GG aq,fun _=>GG aq,fun _=>GG aq,fun _=>GG aq,fun _=>GG aq,fun _=>GG aq,fun _=>Oj gn aq rfl,trivial⟩ ?_
     ·have j:=j.drew
      exact⟨(),eD.none,(AF zr),zt,j⟩
     ·rintro D U w hD ae ak ⟨_,hv,ha,_,j⟩
      obtain⟨O,rfl⟩:=(ac (hv.at 0 rfl (ae.1 rfl)) az).dH
      refine RL.aR 4 j zr nZ cW ?_
      exact RL.nil ⟨rfl,(),hv.pu 1,ha.u,zt,j⟩
     ·rintro D U w hD ae ak ⟨_,hv,ha,_,j⟩
      obtain⟨O,rfl⟩:=(ac (hv.at 2 rfl (ae.1 rfl)) az).dH
      refine RL.aR 0 j zr pC cW ?_
      exact RL.nil ⟨rfl,(),hv.pu 3,ha.u,zt,j⟩
     ·rintro D U w hD ae ak ⟨_,hv,ha,_,j⟩
      obtain⟨O,rfl⟩:=(ac (hv.at 5 rfl (ae.1 rfl)) (ac (ha.at 2 rfl) az)).dH
      refine RL.gs true (decide (eX.cZ<=ab.To)) (vp ar 3) zr zr zr (eO r8) ?_
      exact RL.nil ⟨rfl,(),hv.pu 6,ha.u,zt,j⟩
     ·rintro D U w hD ae ak ⟨_,hv,ha,_,j⟩
      obtain⟨O,rfl⟩:=(ac (hv.at 5 rfl (ae.2.1 rfl)) (ac (hv.at 6 rfl (ae.1 rfl)) az)).dH
      refine RL.gs true (decide (eX.cZ<=ab.To)) (vi ab.cZ) rfl rfl rfl (cG 0 rfl j (fun h=>by exact(dG h:cv (true&&((decide (eX.cZ<=ab.To))==true)) (vp ar 3)= (vp ar 3))) rfl nZ cW) ?_
      exact RL.nil ⟨rfl,(),hv.pu 7,ha.u,zt,j⟩
     ·rintro D U w hD ae ak ⟨_,hv,ha,_,j⟩
      obtain⟨O,rfl⟩:=(ac (hv.at 5 rfl (ae.1 rfl)) (ac (ha.at 1 rfl) az)).dH
      refine RL.gs true (decide (eX.cZ<=ab.To)) (vp al 4) zr zr zr (eO uy) ?_
      exact RL.nil ⟨rfl,(),hv.pu 8,ha.u,zt,j⟩
     ·rintro D U w hD ae ak ⟨_,hv,ha,_,j⟩
      obtain⟨O,rfl⟩:=(ac (hv.at 5 rfl (ae.2.1 rfl)) (ac (hv.at 8 rfl (ae.1 rfl)) az)).dH
      refine RL.gs true (decide (eX.cZ<=ab.To)) (vi eX.To) rfl rfl rfl (cG 4 rfl j (fun h=>by exact(dG h:cv (true&&((decide (eX.cZ<=ab.To))==true)) (vp al 4)= (vp al 4))) rfl pC cW) ?_
      exact RL.nil ⟨rfl,(),hv.pu 9,ha.u,zt,j⟩
     ·rintro D U w hD ae ak ⟨_,hv,ha,_,j⟩
      obtain⟨O,rfl⟩:=(ac (hv.at 5 rfl (ae.2.2.1 rfl)) (ac (hv.at 7 rfl (ae.1 rfl)) (ac (hv.at 9 rfl (ae.2.1 rfl)) az))).dH
      refine RL.gs true (decide (eX.cZ<=ab.To)) (vb (decide (ab.cZ<=eX.To))) rfl rfl rfl (eN .leq .i64 ab.cZ eX.To rfl (fun h=>by exact(dG h:cv (true&&((decide (eX.cZ<=ab.To))==true)) (vi ab.cZ)= (vi ab.cZ))) (fun h=>by exact(dG h:cv (true&&((decide (eX.cZ<=ab.To))==true)) (vi eX.To)= (vi eX.To))) rfl) ?_
      exact RL.nil ⟨rfl,(),hv.pu 10,ha.u,zt,j⟩
     ·rintro D U w hD ae ak ⟨_,hv,ha,_,j⟩
      obtain⟨O,rfl⟩:=(ac (hv.at 5 rfl (ae.1 rfl)) (ac (hv.at 10 rfl (ae.2.1 rfl)) az)).dH
      refine RL.pick (decide (eX.cZ<=ab.To)) (vb ((decide (eX.cZ<=ab.To))&&(decide (ab.cZ<=eX.To)))) (kg true) ?_
      exact RL.nil ⟨rfl,(),hv.pu 11,ha.u,zt,j⟩
     rintro D U w a5 ⟨_,hv,ha,_,j⟩
     obtain⟨O,rfl⟩:=(ac (hv.at 19 rfl (gq a5 19)) (ac (ha.at 0 rfl) (ac (ha.at 1 rfl) (ac (ha.at 2 rfl) (ac (ha.at 3 rfl) (ac (ha.at 4 rfl) (ac (ha.at 5 rfl) (ac (ha.at 6 rfl) (ac (ha.at 7 rfl) (ac (ha.at 8 rfl) az)))))))))).dH
     obtain rfl:=oi hj
     exact⟨rfl,j.sp 7 [3,4,5,6]⟩
    obtain⟨b9,ca,hj⟩:=bd hj
    obtain⟨cb,cc,hj⟩:=bd hj
    obtain⟨bq,cd,hj⟩:=bd hj
    refine RC.BX E V mixed [1,0,1,0,1,1,0,0,0,0,0,0,1,0,0,0,0,0,1,1] [13,14,15,16] (fun(x:Value×Value×Value×Value)=>(fun af ag ah ai=>[(0,79,(vp al 3)),(1,80,(vi eX.cZ)),(2,81,(vp ar 4)),(3,82,(vi ab.To)),(4,83,(vb (decide (eX.cZ<=ab.To)))),(5,84,(vb (decide (eX.cZ<=ab.To)))),(6,85,(cv (true&&((decide (eX.cZ<=ab.To))==true)) (vp ar 3))),(7,86,(cv (true&&((decide (eX.cZ<=ab.To))==true)) (vi ab.cZ))),(8,87,(cv (true&&((decide (eX.cZ<=ab.To))==true)) (vp al 4))),(9,88,(cv (true&&((decide (eX.cZ<=ab.To))==true)) (vi eX.To))),(10,89,(cv (true&&((decide (eX.cZ<=ab.To))==true)) (vb (decide (ab.cZ<=eX.To))))),(11,90,(vb ((decide (eX.cZ<=ab.To))&&(decide (ab.cZ<=eX.To))))),(12,91,(vb ((decide (eX.cZ<=ab.To))&&(decide (ab.cZ<=eX.To))))),(13,92,af),(14,93,ag),(15,94,ah),(16,95,ai),(17,96,(vi bq)),(18,97,(vb (bq==0))),(19,98,(vb (bq==0)))]) x.1 x.2.1 x.2.2.1 x.2.2.2) [(1,vp an 0),(12,vp al 0),(14,vp ar 0),(63,au),(64,vi p0.aQ.length),(65,vi aw),(73,a1),(74,vi av.length),(75,vi a4)] [] (fun(D:Nat->Bool) (x:Value×Value×Value×Value)=>(fun af ag ah ai=>[bif D 0 then (rd af eX) else aM,bif D 1 then (rd ag b9) else aM,bif D 2 then (rd ah ab) else aM,bif D 3 then (rd ai cb) else aM,bx 117 ar ab,rd bu ab,pt bt ab,bx 27 an p0,bx 117 al eX,rd au p0.aQ,rd a1 av]) x.1 x.2.1 x.2.2.1 x.2.2.2) (fun x=>by kernel_rfl) ?_ ⟨fun _=>nA gn r8,?_,fun _=>nA gn uy,?_,fun _=>Lu gn rfl,fun _=>g8 gn,?_,?_,?_,?_,?_,?_,fun _=>g8 gn,?_,?_,?_,?_,?_,fun _=>Lu (gy aq rfl) rfl,fun _=>Oi gn aq rfl,trivial⟩ ?_
    ·have j:=((((j.drew).aM).aM).aM).aM
     exact⟨(undef,undef,undef,undef),eD.none,(AF zr),zt,j⟩
    ·rintro D U w hD ae ak ⟨⟨af,ag,ah,ai⟩,hv,ha,_,j⟩
     obtain⟨O,rfl⟩:=(ac (hv.at 0 rfl (ae.1 rfl)) az).dH
     refine RL.aR 8 j zr nZ cW ?_
     exact RL.nil ⟨rfl,(af,ag,ah,ai),hv.pu 1,ha.u,zt,j⟩
    ·rintro D U w hD ae ak ⟨⟨af,ag,ah,ai⟩,hv,ha,_,j⟩
     obtain⟨O,rfl⟩:=(ac (hv.at 2 rfl (ae.1 rfl)) az).dH
     refine RL.aR 4 j zr pC cW ?_
     exact RL.nil ⟨rfl,(af,ag,ah,ai),hv.pu 3,ha.u,zt,j⟩
    ·rintro D U w hD ae ak ⟨⟨af,ag,ah,ai⟩,hv,ha,_,j⟩
     obtain⟨O,rfl⟩:=(ac (hv.at 5 rfl (ae.1 rfl)) (ac (ha.at 2 rfl) az)).dH
     refine RL.gs true (decide (eX.cZ<=ab.To)) (vp ar 3) zr zr zr (eO r8) ?_
     exact RL.nil ⟨rfl,(af,ag,ah,ai),hv.pu 6,ha.u,zt,j⟩
    ·rintro D U w hD ae ak ⟨⟨af,ag,ah,ai⟩,hv,ha,_,j⟩
     obtain⟨O,rfl⟩:=(ac (hv.at 5 rfl (ae.2.1 rfl)) (ac (hv.at 6 rfl (ae.1 rfl)) az)).dH
     refine RL.gs true (decide (eX.cZ<=ab.To)) (vi ab.cZ) rfl rfl rfl (cG 4 rfl j (fun h=>by exact(dG h:cv (true&&((decide (eX.cZ<=ab.To))==true)) (vp ar 3)= (vp ar 3))) rfl nZ cW) ?_
     exact RL.nil ⟨rfl,(af,ag,ah,ai),hv.pu 7,ha.u,zt,j⟩
    ·rintro D U w hD ae ak ⟨⟨af,ag,ah,ai⟩,hv,ha,_,j⟩
     obtain⟨O,rfl⟩:=(ac (hv.at 5 rfl (ae.1 rfl)) (ac (ha.at 1 rfl) az)).dH
     refine RL.gs true (decide (eX.cZ<=ab.To)) (vp al 4) zr zr zr (eO uy) ?_
     exact RL.nil ⟨rfl,(af,ag,ah,ai),hv.pu 8,ha.u,zt,j⟩
    ·rintro D U w hD ae ak ⟨⟨af,ag,ah,ai⟩,hv,ha,_,j⟩
     obtain⟨O,rfl⟩:=(ac (hv.at 5 rfl (ae.2.1 rfl)) (ac (hv.at 8 rfl (ae.1 rfl)) az)).dH
     refine RL.gs true (decide (eX.cZ<=ab.To)) (vi eX.To) rfl rfl rfl (cG 8 rfl j (fun h=>by exact(dG h:cv (true&&((decide (eX.cZ<=ab.To))==true)) (vp al 4)= (vp al 4))) rfl pC cW) ?_
     exact RL.nil ⟨rfl,(af,ag,ah,ai),hv.pu 9,ha.u,zt,j⟩
    ·rintro D U w hD ae ak ⟨⟨af,ag,ah,ai⟩,hv,ha,_,j⟩
     obtain⟨O,rfl⟩:=(ac (hv.at 5 rfl (ae.2.2.1 rfl)) (ac (hv.at 7 rfl (ae.1 rfl)) (ac (hv.at 9 rfl (ae.2.1 rfl)) az))).dH
     refine RL.gs true (decide (eX.cZ<=ab.To)) (vb (decide (ab.cZ<=eX.To))) rfl rfl rfl (eN .leq .i64 ab.cZ eX.To rfl (fun h=>by exact(dG h:cv (true&&((decide (eX.cZ<=ab.To))==true)) (vi ab.cZ)= (vi ab.cZ))) (fun h=>by exact(dG h:cv (true&&((decide (eX.cZ<=ab.To))==true)) (vi eX.To)= (vi eX.To))) rfl) ?_
     exact RL.nil ⟨rfl,(af,ag,ah,ai),hv.pu 10,ha.u,zt,j⟩
    ·rintro D U w hD ae ak ⟨⟨af,ag,ah,ai⟩,hv,ha,_,j⟩
     obtain⟨O,rfl⟩:=(ac (hv.at 5 rfl (ae.1 rfl)) (ac (hv.at 10 rfl (ae.2.1 rfl)) az)).dH
     refine RL.pick (decide (eX.cZ<=ab.To)) (vb ((decide (eX.cZ<=ab.To))&&(decide (ab.cZ<=eX.To)))) (kg true) ?_
     exact RL.nil ⟨rfl,(af,ag,ah,ai),hv.pu 11,ha.u,zt,j⟩
    ·rintro D U w hD ae ak ⟨⟨af,ag,ah,ai⟩,hv,ha,_,j⟩
     obtain⟨O,rfl⟩:=(ac (hv.at 12 rfl (ae.1 rfl)) (ac (ha.at 1 rfl) az)).dH
     have j:=j.bK 0 hD
     refine RL.aV (hg:=(cg aq)) (f:=(fun x=>x)) 8 j zr Fd.self mD fun cf j=>?_
     have j:=(j.pl 12 [0,2,3,4,5,6,7,8,9,10,11]).bF 0 true rfl aM
     exact RL.nil ⟨rfl,(cf,ag,ah,ai),hv.pu 13,ha.u,zt,j⟩
    ·rintro D U w hD ae ak ⟨⟨af,ag,ah,ai⟩,hv,ha,_,j⟩
     obtain⟨O,rfl⟩:=(ac (hv.at 12 rfl (ae.2.1 rfl)) (ac (hv.at 13 rfl (ae.1 rfl)) az)).dH
     have j:=(j.bE 0 (ae.1 rfl)).bK 1 hD
     refine RL.call (cg aq) zr GP [af] zr (aF (hZ N (i0:=0) j zr ca) ?_)
     rintro ch w j
     have j:=((j.pl 12 [1,0,3,4,5,6,7,8,9,10,11]).bF 0 (D 13) (ae.1 rfl) aM).bF 1 true rfl aM
     exact RL.nil ⟨rfl,(af,ch,ah,ai),hv.pu 14,ha.u,zt,j⟩
    ·rintro D U w hD ae ak ⟨⟨af,ag,ah,ai⟩,hv,ha,_,j⟩
     obtain⟨O,rfl⟩:=(ac (hv.at 12 rfl (ae.1 rfl)) (ac (ha.at 2 rfl) az)).dH
     have j:=j.bK 2 hD
     refine RL.aV (hg:=(cg aq)) (f:=(fun x=>x)) 4 j zr Fd.self mD fun cj j=>?_
     have j:=(j.pl 12 [1,2,0,4,5,6,7,8,9,10,11]).bF 2 true rfl aM
     exact RL.nil ⟨rfl,(af,ag,cj,ai),hv.pu 15,ha.u,zt,j⟩
    ·rintro D U w hD ae ak ⟨⟨af,ag,ah,ai⟩,hv,ha,_,j⟩
     obtain⟨O,rfl⟩:=(ac (hv.at 12 rfl (ae.2.2.1 rfl)) (ac (hv.at 15 rfl (ae.1 rfl)) az)).dH
     have j:=(j.bE 2 (ae.1 rfl)).bK 3 hD
     refine RL.call (cg aq) zr GP [ah] zr (aF (hZ N (i0:=2) j zr cc) ?_)
     rintro ck w j
     have j:=((j.pl 12 [1,2,3,0,5,6,7,8,9,10,11]).bF 2 (D 15) (ae.1 rfl) aM).bF 3 true rfl aM
     exact RL.nil ⟨rfl,(af,ag,ah,ck),hv.pu 16,ha.u,zt,j⟩
    ·rintro D U w hD ae ak ⟨⟨af,ag,ah,ai⟩,hv,ha,_,j⟩
     obtain⟨O,rfl⟩:=(ac (hv.at 12 rfl (ae.2.2.2.1 rfl)) (ac (hv.at 14 rfl (ae.1 rfl)) (ac (hv.at 16 rfl (ae.2.1 rfl)) az))).dH
     have j:=(j.bE 1 (ae.1 rfl)).bE 3 (ae.2.1 rfl)
     refine RL.call (cg aq) zr Oz [ag,ai] zr (aF (Cs N (i0:=1) (i1:=3) j zr zr cd) ?_)
     rintro _ w ⟨rfl,j⟩
     have j:=(j.bF 1 (D 14) (ae.1 rfl) aM).bF 3 (D 16) (ae.2.1 rfl) aM
     exact RL.nil ⟨rfl,(af,ag,ah,ai),hv.pu 17,ha.u,zt,j⟩
    rintro D U w a5 ⟨⟨af,ag,ah,ai⟩,hv,ha,_,j⟩
    have j:=(((j.bE 0 (gq a5 13)).bE 1 (gq a5 14)).bE 2 (gq a5 15)).bE 3 (gq a5 16)
    obtain⟨O,rfl⟩:=(ac (hv.at 19 rfl (gq a5 19)) (ac (ha.at 0 rfl) (ac (ha.at 1 rfl) (ac (ha.at 2 rfl) (ac (ha.at 3 rfl) (ac (ha.at 4 rfl) (ac (ha.at 5 rfl) (ac (ha.at 6 rfl) (ac (ha.at 7 rfl) (ac (ha.at 8 rfl) az)))))))))).dH
    obtain rfl:=oi hj
    exact⟨rfl,j.sp 11 [7,8,9,10]⟩
   rintro _ w ⟨O,rfl,j⟩
   refine aG (fK o (fun hc o=>?_) fun hc o=>?_)
   rotate_left
   ·refine RC.skip (cA (aG (RC.region (RL.inc hk hm (mv (vi ((a4+1:Nat):Int)) (RL.nil ?_))))))
    obtain rfl:=oi o
    exact⟨rfl,j.sp 4 [0,1,2,3]⟩
   refine RC.sr (aT (.pointer none) (aT (vi 12) (RL.nt (RC.rb (bZ ?_)))))
   obtain rfl:=oi o
   exact⟨rfl,kC ⟨rfl,j.drop 4⟩⟩
  ·intro r U w e hK
   subst e
   refine kh (bZ ?_)
   obtain rfl:=oi o
   exact⟨rfl,hK⟩
  rintro bn _ w rfl ⟨O,rfl,j⟩
  rw [Fo.gm] at o
  refine cA (aG (RC.region (RL.inc hk hm (mv (vi ((aw+1:Nat):Int)) (RL.nil ?_)))))
  obtain rfl:=oi o
  exact⟨rfl,j.sp 4 [0,2]⟩
 ·intro r U w e hK
  subst e
  refine bZ ?_
  obtain rfl:=oi o
  exact hK
 rintro bm _ w rfl ⟨O,rfl,j⟩
 rw [Fo.gm] at o
 refine aG (RC.sr (RL.aV (f:=(fun x=>x)) 0 j zr Fd.self mx fun cl j=>?_))
 obtain⟨cs,hcs,hv224,j⟩:=j.JO (i:=0) rfl rfl
 obtain⟨bc,bf,bg,bh,rfl⟩:=Oe hcs
 have j:=(((j.lF (i:=0) (k:=0) (f:=fun x=>x.aI) rfl rk rfl rfl rfl).lF (i:=1) (k:=1) (f:=fun x=>x.cQ) rfl zj rfl rfl rfl).lF (i:=2) (k:=2) (f:=fun x=>x.aQ) rfl tu rfl rfl rfl).lF (i:=3) (k:=3) (f:=fun x=>x.bL) rfl pK rfl rfl rfl
 refine RL.Ls (zs:=[(.slice none 0 0),(.slice none 0 0),(.slice none 0 0),(.slice none 0 0),(.slice none 0 0),(.slice none 0 0),(.slice none 0 0),(.slice none 0 0),(.slice none 0 0),(.slice none 0 0),(.slice none 0 0),(.slice none 0 0)]) (cs:=[bc,bf,bg,bh,(.slice none 0 0),(.slice none 0 0),(.slice none 0 0),(.slice none 0 0),(.slice none 0 0),(.slice none 0 0),(.slice none 0 0),(.slice none 0 0)]) zt zr [(0,cl)] [(0,[bc,bf,bg,bh])] zr MS ⟨rfl,(congrArg Value.cells hv224),zt⟩ zr (RL.FM (cs:=[bc,bf,bg,bh,(.slice none 0 0),(.slice none 0 0),(.slice none 0 0),(.slice none 0 0),(.slice none 0 0),(.slice none 0 0),(.slice none 0 0),(.slice none 0 0)]) zt zr j zr (Dh.all (⟨(yR 3 j zr),(yR 2 j zr),(yR 1 j zr),(yR 0 j zr),zr,zr,zr,zr,zr,zr,zr,zr,zt⟩:Dh [bc,bf,bg,bh,(.slice none 0 0),(.slice none 0 0),(.slice none 0 0),(.slice none 0 0),(.slice none 0 0),(.slice none 0 0),(.slice none 0 0),(.slice none 0 0)])) fun a0 w j=>?_)
 refine aT (vp a0 0) (RL.nq (RC.sr (mv (vp a0 0) ?_)))
 have j:=((((((j.eC (List aA) 132).eC aJ 134).pull 0).pull 2).dup 6 rfl).dup 9 rfl).pull 6
 obtain⟨cm,cn,o⟩:=bd o
 refine RL.call zt zr OE [(vp a0 0)] zr (aF (sW N j cn) ?_)
 rintro _ w ⟨cp,cq,rfl,j⟩
 refine RL.not cm.1 (RL.nt (fK o (fun hc o=>?_) fun hc o=>?_))
 ·refine RC.sr (aT (.pointer none) (aT (vi 2) (RL.nt (RC.rt ?_))))
  obtain rfl:=oi o
  exact kC ⟨rfl,j.drop 14⟩
 refine RC.sx (mv (vp a0 0) ?_)
 have j:=(((((j.freeze 2).eC (List Int) 87).pull 0).dup 4 rfl).dup 10 rfl).pull 4
 obtain⟨db,cr,o⟩:=bd o
 refine RL.call zt zr OI [(vp a0 0)] zr (aF (sX N j cr) ?_)
 rintro _ w ⟨ct,rfl,j⟩
 refine RL.ns (mv (vp a0 0) ?_)
 have j:=((((((((((((j.freeze 1).eC Int 3).eC Int 3).eC Int 3).eC fJ 41).pull 0).pull 2).pull 4).pull 6).dup 9 rfl).dup 14 rfl).dup 19 rfl).dup 21 rfl
 have j:=j.pull 12
 obtain⟨dc,cu,o⟩:=bd o
 refine RL.call zt zr OM [(vp a0 0)] zr (aF (oL N j cu) ?_)
 rintro _ w ⟨cw,cx,cy,cz,c0,rfl,j⟩
 refine RL.ns (mv (vp a0 0) (aT (vp a0 0) (aT (vi 0) (RL.nt (RC.ret ?_)))))
 obtain rfl:=oi o
 exact kC ⟨a0,bc,bf,bg,bh,cp,cq,ct,cw,cx,cy,cz,c0,zr,j.pk 27 [0,22,21,20,19,14,15,11,1,2,3,4,5]⟩
def m0 (E:World) (V:List HP) (res:Int×Bool) (v:Value) (w:World):Prop:=v = .tuple #[(vi res.1),(vb res.2)]/\Holds E w V
theorem mP {p0: (List dD)} {p1:fE} {p2:dD->fE->Option Int} {res:Int×Bool} (o:Holds E w V) (h0:V[i0]? =some (rd v0 p0)) (h1:V[i1]? =some (rd v1 p1)) (h2:Ld bN E V v2 p2 (fun(r:Int)=>Value.int .i64 r)) (hb:fC N p0 p1 p2=some res):
    Calls bN 91 [v0,v1,v2].toArray w (iE (m0 E V res)):=by
 unfold fC at hb
 refine enter Tryz.func91 zr zr ?_
 have o:=(o.dup (i0+0) h0).dup (i1+1) h1
 refine RC.sr (RL.dJ 0 v1 o zr fun ae w o=>?_)
 refine aT (vi 0) (aT (vb false) (RL.ns (mv v0 (RL.bM 2 p0 o H6 (aT (vi p0.length) (RL.ns (mv (vi p0.length) (aT (vi 0) ?_))))))))
 refine aT (vi p0.length) (RL.nq ?_)
 obtain⟨av,hN,hb⟩:=bd hb
 refine RC.iter (fun(j:Int×Int)=>SH E V [(0,v0),(2,v2),(4,vp ae 0),(8,vi p0.length),(9,vi j.1),(10,vi j.2)] [rd v0 p0,bx 51 ae p1]) (fun(j:Int×Int)=>SH E V [(0,v0),(2,v2),(4,vp ae 0),(8,vi p0.length),(9,vi j.1)] [rd v0 p0,bx 51 ae p1]) (fun(r:Empty) _ _=>r.elim) hN ?_ ?_ ?_ ?_
 ·exact o.sp 3 [2,0]
 ·rintro j fl _ w ⟨O,rfl,o⟩ hb
  refine RC.seq (RC.sr (mv (vi j.1) (mv (vi j.2) (ic j.1 j.2 (RL.nt (fK hb (fun hc hb=>?_) fun hc hb=>?_))))))
  rotate_left
  ·refine RC.ex ?_
   obtain rfl:=oi hb
   exact⟨rfl,o.sp 2 [0,1]⟩
  refine RC.sn (RC.bs (mv (vi j.1) (mv (vi j.2) (RL.ja j.1 j.2 (RL.conv (IntKind.wrap .i64 (j.1+j.2)) zt zr zr ⟨_,Hz⟩ KT (RL.bin (v:=(.int .u64 (IntKind.wrap .u64 (IntKind.wrap .i64 (j.1+j.2))))) (v':=(.int .u64 1)) (u:=(.int .u64 (Int.fdiv (IntKind.wrap .u64 (IntKind.wrap .i64 (j.1+j.2))) 2))) zt zr zr zr (fun _=>zr) (fun _=>zr) (RL.conv (Int.fdiv (IntKind.wrap .u64 (IntKind.wrap .i64 (j.1+j.2))) 2) zt zr zr ⟨_,KT⟩ Hz (aT (vi (IntKind.wrap .i64 (Int.fdiv (IntKind.wrap .u64 (IntKind.wrap .i64 (j.1+j.2))) 2))) ?_))))))))
  refine RL.nq (RC.AE mixed [0,0,0,0,0,0,2,0] [0,1,2,3,4,5,6,7] ?_)
  have o:=o.drew
  refine DP.e0 zr (mv v2 (cM zr (mv v0 (cM zr (mv (vi (IntKind.wrap .i64 (Int.fdiv (IntKind.wrap .u64 (IntKind.wrap .i64 (j.1+j.2))) 2))) (cM zr ?_))))))
  obtain⟨ak,al,hb⟩:=bd hb
  refine RL.cJ 0 o DI al fun ax o=>(cM zr (RL.bY 0 ak o zx fun ay o=>(cM zr (RL.aV (f:=(fun x=>x)) 3 o zr Fd.self qo fun az o=>(xt zr ?_)))))
  obtain⟨an,ao,hb⟩:=bd hb
  refine RL.EK 1 0 zt zr o zr h2 5 zr zr zr zr zr ao fun w o=>(B6 zr (ic an 0 (DP.d0 (DP.z (aG ?_)))))
  obtain⟨af,hj,hb⟩:=bd hb
  refine RC.jn (fun(af:Int×Int)=>SH E V [(0,v0),(2,v2),(4,vp ae 0),(8,vi p0.length),(9,vi af.1),(10,vi af.2)] [rd v0 p0,bx 51 ae p1]) af ?_ ?_
  ·refine fK hj (fun hc hj=>?_) fun hc hj=>?_
   rotate_left
   ·refine RC.region (mv (vi (IntKind.wrap .i64 (Int.fdiv (IntKind.wrap .u64 (IntKind.wrap .i64 (j.1+j.2))) 2))) (aT (vi (IntKind.wrap .i64 (Int.fdiv (IntKind.wrap .u64 (IntKind.wrap .i64 (j.1+j.2))) 2))) (RL.nil ?_)))
    obtain rfl:=oi hj
    exact⟨rfl,o.sp 5 [3,4]⟩
   refine RC.region (mv (vi (IntKind.wrap .i64 (Int.fdiv (IntKind.wrap .u64 (IntKind.wrap .i64 (j.1+j.2))) 2))) (RL.ja (IntKind.wrap .i64 (Int.fdiv (IntKind.wrap .u64 (IntKind.wrap .i64 (j.1+j.2))) 2)) 1 (aT (vi (IntKind.wrap .i64 ((IntKind.wrap .i64 (Int.fdiv (IntKind.wrap .u64 (IntKind.wrap .i64 (j.1+j.2))) 2))+1))) (RL.nil ?_))))
   obtain rfl:=oi hj
   exact⟨rfl,o.sp 5 [3,4]⟩
  rintro _ w ⟨O,rfl,o⟩
  refine cA ?_
  obtain rfl:=oi hb
  exact⟨rfl,o.sp 2 [0,1]⟩
 ·intro r _ _ _ _
  exact r.elim
 rintro j _ w rfl ⟨O,rfl,o⟩
 rw [Fo.gm] at hb
 refine aG (RC.seq ?_)
 obtain⟨ah,hj,hb⟩:=bd hb
 refine RC.jn (fun(ah:Bool)=>SH E V [(6,vi j.1),(7,vb ah)] []) ah ?_ ?_
 ·refine RC.AE mixed [1,0,0,0,0,0,0,0,0,0,0,2,0,0,0,0] [0,1,2,3,4,5,6,7,8,9,10,11,12,13,14,15] ?_
  have o:=o.drew
  refine DP.e1 (vi j.1) zr (fun w=>RL.move (vi j.1) zt DP.d1) (DP.e0 zr (mv (vi j.1) (cM zr (mv (vi p0.length) (cM zr (ic j.1 ((p0.length:Int)) (cM zr (mv (vb (decide (j.1< (p0.length:Int)))) ?_))))))))
  refine DP.d0 (iA hj (fun ab hj=>?_) fun ab hj=>?_)
  rotate_left
  ·refine DP.e0 zr (cH ab (cM zr (cH ab (cM zr (cH ab (cM zr (cH ab (cM zr ?_))))))))
   refine cH ab (cM zr (cH ab (xt zr (cH ab (B6 zr (cH ab (cM zr (iF ab (vb false) ?_))))))))
   refine cM zr (aT (vi j.1) (cM zr (aT (vb false) (DP.d0 (DP.z ?_)))))
   obtain rfl:=oi hj
   exact⟨rfl,o.sp 2 []⟩
  refine DP.e0 zr (RL.move v2 (cg ab) (cM zr (RL.move v0 (cg ab) (cM zr (RL.move (vi j.1) (cg ab) (cM zr ?_))))))
  obtain⟨aq,ar,hj⟩:=bd hj
  refine RL.cJ (hg:=(cg ab)) 0 o DI ar fun a0 o=>(cM zr (RL.bY (hg:=(cg ab)) 0 aq o zx fun a1 o=>(cM zr (RL.aV (hg:=(cg ab)) (f:=(fun x=>x)) 3 o zr Fd.self qo fun a2 o=>(xt zr ?_)))))
  obtain⟨ai,au,hj⟩:=bd hj
  refine RL.EK 1 0 (cg ab) zr o zr h2 5 zr zr zr zr zr au fun w o=>(B6 zr (RL.lN ai 0 (cg ab) (cM zr (iF ab (vb (ai==0)) (cM zr (aT (vi j.1) (cM zr (aT (vb (ai==0)) ?_))))))))
  refine DP.d0 (DP.z ?_)
  obtain rfl:=oi hj
  exact⟨rfl,o.sp 5 []⟩
 rintro _ w ⟨O,rfl,o⟩
 refine aG (RC.ret ?_)
 obtain rfl:=oi hb
 exact kC ⟨rfl,o.drop 0⟩
theorem u7 {p0:dD} {p1:fE} (j:Holds E w V) (h0:V[i0]? =some (rd v0 p0)) (h1:V[i1]? =some (rd v1 p1)) (o:hQ N p0 p1=some res):
    Calls bN 92 [v0,v1].toArray w (iE (aS E V res)):=by
 unfold hQ at o
 refine enter Tryz.func92 zr zr ?_
 have j:=(j.dup (i0+0) h0).dup (i1+1) h1
 refine RC.sr (RL.dJ 1 v0 j zr fun ah w j=>?_)
 have j:=j.hG (i:=0) rfl
 refine RL.dJ 1 v1 j zr fun ai w j=>?_
 have j:=j.hG (i:=0) rfl
 refine aT (vi 0) (RL.nq (RC.AE mixed [0,2,1,2,0] [0,2,1,3,4] ?_))
 have j:=j.drew
 refine DP.e0 zr (RL.bY 1 p0 j zx fun aa j=>(DP.d0 (DP.yI p1 1 zr j qo fun ab a35 aj j=>(DP.e2 zr ?_))))
 obtain⟨ak,ad,o⟩:=bd o
 refine RL.call zt zr JT [aa] zr (aF (mX N (i0:=2) j zr ad) ?_)
 rintro ae w j
 refine DP.d2 (⟨zt,j.kW 1⟩) (DP.e2 zr ?_)
 obtain⟨af,ag,o⟩:=bd o
 refine RL.call zt zr GQ [ae,ab] zr (aF (fO N (i0:=0) (i1:=2) j zr zr ag) ?_)
 rintro _ w ⟨rfl,j⟩
 refine DP.d2 (⟨zt,j.kW 1⟩) (DP.e0 zr (aT (vi af) (DP.d0 ?_)))
 have j:=j.pl 8 [0,2,3,4,5,6,7]
 refine DP.z (aG (RC.ret ?_))
 obtain rfl:=oi o
 exact cK ⟨rfl,j.drop 7⟩
theorem gG {p0:fz} {p1:fE} (o:Holds E w V) (h0:V[i0]? =some (rd v0 p0)) (h1:V[i1]? =some (rd v1 p1)) (hb:dZ N p0 p1=some res):
    Calls bN 56 [v0,v1].toArray w (iE (aS E V res)):=by
 unfold dZ at hb
 refine enter Tryz.func56 zr zr ?_
 have o:=(o.dup (i0+0) h0).dup (i1+1) h1
 refine RC.sr (RL.dJ 1 v0 o zr fun ai w o=>?_)
 refine RL.dJ 1 v1 o zr fun aj w o=>?_
 refine aT (vi 0) (RL.ns (RL.bO zr tx (RL.aV 1 o zr pK DH fun ad o=>(RL.aV (f:=(fun x=>x)) 1 o zr Fd.self qo fun ae o=>?_))))
 obtain⟨aa,af,hb⟩:=bd hb
 refine RL.call trivial rfl OO [ad,ae,(.func (.func 92) #[] #[])] rfl (aF (mP N (i0:=1) (i1:=0) o rfl rfl ⟨92,[],rfl,ON,fun w Γl v v' y0 y1 r i j o hi hj hr=>by exact aF (u7 N (i0:=i) (i1:=j) o hi hj hr) fun _ _ h=>h⟩ af) ?_)
 rintro _ w ⟨rfl,o⟩
 refine mv (.tuple #[(vi aa.1),(vb aa.2)]) (RL.extract (vi aa.1) (RL.extract (vb aa.2) (aT (vi aa.1) (aT (vb aa.2) (RL.nq (RC.sr (mv (vb aa.2) (RL.not aa.2 ?_))))))))
 refine RL.nt (fK hb (fun hc hb=>?_) fun hc hb=>?_)
 ·refine RC.sr (aT (vi (-1)) (RL.nt (RC.rt ?_)))
  obtain rfl:=oi hb
  exact cK ⟨rfl,o.drop 6⟩
 refine RC.sx (mv (vi aa.1) (aT (vi aa.1) (RL.nt (RC.ret ?_))))
 obtain rfl:=oi hb
 exact cK ⟨rfl,o.drop 6⟩
def Ct (E:World) (V:List HP) (r:Int) (U:Nat->Value) (w:World):Prop:=nL bN 18 Tryz.f94 (aS E V r) .ret U w
theorem AO {p0: (List Int)} (j:Holds E w V) (h0:V[i0]? =some (rd v0 p0)) (o:pH N p0=some res):
    Calls bN 94 [v0].toArray w (iE (aS E V res)):=by
 unfold pH at o
 refine enter Tryz.func94 zr zr ?_
 have j:=j.dup (i0+0) h0
 refine RC.sr (aT (vi 0) (RL.ns (aT (vi 0) (RL.nq (RC.sr (mv v0 (RL.bM 0 p0 j nN (mv (vi 0) ?_))))))))
 refine RL.nt ?_
 obtain⟨ak,hN,o⟩:=bd o
 refine RC.range (fun(ab:Nat) (ad:Unit)=>SH E V [(3,vi 0),(6,v0),(7,vi p0.length),(8,vi ab)] [rd v0 p0]) (fun(ad:Unit)=>SH E V [(3,vi 0)] [rd v0 p0]) (Ct E V) hN ?_ ?_ ?_ ?_ ?_
 ·exact j.sp 1 [0]
 ·rintro hm ad _ w ⟨O,rfl,j⟩
  refine RC.sr (ic ((p0.length:Int)) ((p0.length:Int)) (RL.nq (RC.dC oE (RC.ex ?_))))
  exact⟨rfl,j.sp 1 [0]⟩
 ·rintro hm ab ad fl _ w hk ⟨O,rfl,j⟩ o
  refine RC.sr (ic ((ab:Int)) ((p0.length:Int)) (RL.nq (RC.dB (oD hk) (RC.ss (RC.bs ?_)))))
  obtain⟨aa,ah,o⟩:=bd o
  refine RL.cJ 0 j fI ah fun an j=>(RL.cB aa 0 j cW (aT (vi aa) (RL.ns (mv (vi aa) (mv (vi 0) (ic aa 0 (RL.nt (fK o (fun hc o=>?_) fun hc o=>?_))))))))
  rotate_left
  ·refine RC.skip (cA (aG (RC.region (RL.inc hk hm (mv (vi ((ab+1:Nat):Int)) (RL.nil ?_))))))
   obtain rfl:=oi o
   exact⟨rfl,j.sp 2 [1]⟩
  refine RC.sr (mv (vi aa) (aT (vi aa) (RL.nt (RC.rb (bZ ?_)))))
  obtain rfl:=oi o
  exact⟨rfl,cK ⟨rfl,j.drop 2⟩⟩
 ·intro r U w e hK
  subst e
  refine bZ ?_
  obtain rfl:=oi o
  exact hK
 rintro ad _ w rfl ⟨O,rfl,j⟩
 rw [Fo.gm] at o
 refine aG (RC.sr (mv (vi 0) (aT (vi 0) (RL.nt (RC.ret ?_)))))
 obtain rfl:=oi o
 exact cK ⟨rfl,j.drop 1⟩
end Go.Gk
