/-
  Printed texts: Go functions as plain functions, and that they are. No statement of the seed is proved here.
-/
import Derived.Test.YtjocleflknekmabGreatDoorG1
import Derived.Test.YtjocleflknekmabGreatDoorG2
import Derived.Test.YtjocleflknekmabGreatDoorG3
import Derived.Test.YtjocleflknekmabGreatDoorG4
import Derived.Test.YtjocleflknekmabGreatDoorA2
set_option linter.unusedVariables false
set_option linter.unusedSimpArgs false
set_option linter.unusedSectionVars false
set_option maxRecDepth 100000
set_option maxHeartbeats 40000000
namespace Go.Gk
open Go Go.Proofs
variable (N:Nat) {E w:World} {b0 i0 i1 i2:Nat} {v0 v0_0 v0_1 v0_10 v0_11 v0_2 v0_3 v0_4 v0_5 v0_6 v0_8 v0_9 v1 v2:Value} {V:List HP}
def nP (E:World) (V:List HP) (b0:Nat) (v0_0 v0_1:Value) (v0_2 v0_3:Value) (v0_4 v0_5 v0_6:Value) (res: (List bJ)×(List Int)×(List Int)×(List Int)×(List kb)) (v:Value) (w:World):Prop:=∃u0_7 u0_8 u0_9 u0_10 u0_11:Value,v = .tuple #[]/\Holds E w ([bc 71 b0 [v0_0,v0_1,v0_2,v0_3,v0_4,v0_5,v0_6,u0_7,u0_8,u0_9,u0_10,u0_11],own 73 u0_7 res.1,rd u0_8 res.2.1,rd u0_9 res.2.2.1,own 3 u0_10 res.2.2.2.1,own 179 u0_11 res.2.2.2.2]++V)
theorem nI {p0_2: (List cN)} {p0_3: (List eQ)} {p0_5: (List aI)} {p0_6: (List (List Int))} {p0_8: (List Int)} {p0_9: (List Int)} {p0_10: (List Int)} {p0_11: (List kb)} {res: (List bJ)×(List Int)×(List Int)×(List Int)×(List kb)} (hw:Holds E w (bc 71 b0 [v0_0,v0_1,v0_2,v0_3,v0_4,v0_5,v0_6,(.slice none 0 0),v0_8,v0_9,v0_10,v0_11]::rd v0_2 p0_2::rd v0_3 p0_3::rd v0_5 p0_5::rd v0_6 p0_6::own 3 v0_8 p0_8::own 3 v0_9 p0_9::own 3 v0_10 p0_10::own 179 v0_11 p0_11::V)) (hb:eW N p0_2 p0_3 p0_5 p0_6 p0_8 p0_9 p0_10 p0_11=some res):
    Calls bB 50 [(vp b0 0)].toArray w (gr (nP E V b0 v0_0 v0_1 v0_2 v0_3 v0_4 v0_5 v0_6 res)):=by
 unfold eW at hb
 refine enter Tryz.func50 zr zr (RC.sr (mv (vp b0 0) (RL.nilCheck zr (RL.bH zr wO (RL.bV 0 v0_5 hw Fp (RL.bF 3 p0_5 hw Iz (aM (vi p0_5.length) (RL.ns ?_))))))))
 refine mv (vi p0_5.length) (mv (vp b0 0) (RL.nilCheck zr (RL.bH zr qV (RL.bH zr pI (RL.bV 0 v0_2 hw zJ (RL.bF 1 p0_2 hw A2 (RL.jQ (p0_5.length:Int) (p0_2.length:Int) ?_)))))))
 obtain⟨e7,dt,hb⟩:=bd hb
 refine RL.call zt zr Lc [(vi (IntKind.wrap .i64 ((p0_5.length:Int)+ (p0_2.length:Int))))] zr (aF (t9 N (p0:=(IntKind.wrap .i64 ((p0_5.length:Int)+ (p0_2.length:Int)))) hw dt) ?_)
 rintro _ w ⟨ba,du,rfl,hw⟩
 refine aM (vp ba 0) (RL.nq (RC.sr (mv (vp b0 0) (RL.nilCheck zr (RL.bH zr Du (RL.bV 2 v0_6 hw JZ (RL.bF 6 p0_6 hw J0 (mv (vi 0) ?_))))))))
 refine RL.nt ?_
 obtain⟨b1,hN,hb⟩:=bd hb
 refine RC.fold (fun(bk:Nat) (b1: (List Int)) U w=>∃c6:Value,SH E V [(0,vp b0 0),(2,vi p0_5.length),(3,vp ba 0),(35,v0_6),(36,vi p0_6.length),(37,vi bk)] [bc 71 b0 [v0_0,v0_1,v0_2,v0_3,v0_4,v0_5,v0_6,(.slice none 0 0),v0_8,v0_9,v0_10,v0_11],rd v0_2 p0_2,rd v0_3 p0_3,rd v0_5 p0_5,rd v0_6 p0_6,own 3 v0_8 p0_8,own 3 v0_9 p0_9,own 3 v0_10 p0_10,own 179 v0_11 p0_11,bc 204 ba [c6],own 3 c6 b1] U w) (fun(b1: (List Int)) U w=>∃cb:Value,SH E V [(0,vp b0 0),(2,vi p0_5.length),(3,vp ba 0)] [bc 71 b0 [v0_0,v0_1,v0_2,v0_3,v0_4,v0_5,v0_6,(.slice none 0 0),v0_8,v0_9,v0_10,v0_11],rd v0_2 p0_2,rd v0_3 p0_3,rd v0_5 p0_5,rd v0_6 p0_6,own 3 v0_8 p0_8,own 3 v0_9 p0_9,own 3 v0_10 p0_10,own 179 v0_11 p0_11,bc 204 ba [cb],own 3 cb b1] U w) hN ?_ ?_ ?_ ?_
 ·exact⟨du,hw.sp 11 [2,3,4,5,6,7,8,9,10,0,1]⟩
 ·rintro hm b1 _ w ⟨dv,O,rfl,hw⟩
  refine RC.sr (ic ((p0_6.length:Int)) ((p0_6.length:Int)) (RL.nq (RC.cP mz (RC.ex ?_))))
  exact⟨rfl,dv,hw.sp 11 [0,1,2,3,4,5,6,7,8,9,10]⟩
 ·rintro hm bk b1 s' _ w hk ⟨dw,O,rfl,hw⟩ hb
  refine RC.sr (ic ((bk:Int)) ((p0_6.length:Int)) (RL.nq (RC.cO (my hk) (RC.ss (RC.bs (mv (vi bk) ?_))))))
  obtain⟨bu,dx,hb⟩:=bd hb
  refine RL.cA 4 hw Fq dx fun e8 hw=>(RL.bC 0 bu hw fU fun cc hw=>(aM (vi bk) (aM cc (RL.ns (mv cc (RL.bF 0 bu hw nC (mv (vi 0) (RL.nt ?_))))))))
  obtain⟨b5,hN,hb⟩:=bd hb
  refine RC.fold (fun(cg:Nat) (b5: (List Int)) U w=>∃c7:Value,SH E V [(0,vp b0 0),(2,vi p0_5.length),(3,vp ba 0),(4,vi bk),(35,v0_6),(36,vi p0_6.length),(37,vi bk),(42,cc),(43,vi bu.length),(44,vi cg)] [bc 71 b0 [v0_0,v0_1,v0_2,v0_3,v0_4,v0_5,v0_6,(.slice none 0 0),v0_8,v0_9,v0_10,v0_11],rd v0_2 p0_2,rd v0_3 p0_3,rd v0_5 p0_5,rd v0_6 p0_6,own 3 v0_8 p0_8,own 3 v0_9 p0_9,own 3 v0_10 p0_10,own 179 v0_11 p0_11,bc 204 ba [c7],own 3 c7 b5,rd cc bu] U w) (fun(b5: (List Int)) U w=>∃ch:Value,SH E V [(0,vp b0 0),(2,vi p0_5.length),(3,vp ba 0),(35,v0_6),(36,vi p0_6.length),(37,vi bk)] [bc 71 b0 [v0_0,v0_1,v0_2,v0_3,v0_4,v0_5,v0_6,(.slice none 0 0),v0_8,v0_9,v0_10,v0_11],rd v0_2 p0_2,rd v0_3 p0_3,rd v0_5 p0_5,rd v0_6 p0_6,own 3 v0_8 p0_8,own 3 v0_9 p0_9,own 3 v0_10 p0_10,own 179 v0_11 p0_11,bc 204 ba [ch],own 3 ch b5,rd cc bu] U w) hN ?_ ?_ ?_ ?_
  ·exact⟨dw,hw.sp 13 [2,3,4,5,6,7,8,9,10,11,12,0]⟩
  ·rintro hm b5 _ w ⟨dy,O,rfl,hw⟩
   refine RC.sr (ic ((bu.length:Int)) ((bu.length:Int)) (RL.nq (RC.cP mz (RC.ex ?_))))
   exact⟨rfl,dy,hw.sp 12 [0,1,2,3,4,5,6,7,8,9,10,11]⟩
  ·rintro hm cg b5 s' _ w hk ⟨e9,O,rfl,hw⟩ hb
   refine RC.sr (ic ((cg:Int)) ((bu.length:Int)) (RL.nq (RC.cO (my hk) (RC.ss (RC.bs ?_)))))
   obtain⟨cd,dz,hb⟩:=bd hb
   refine RL.cA 11 hw fV dz fun fa hw=>(RL.bQ cd 0 hw dE (aM (vi cd) (RL.nt (RC.region (mv (vp ba 0) (mv (vi cd) (mv (vi p0_5.length) (mv (vi bk) ?_))))))))
   refine RL.jQ (p0_5.length:Int) (bk:Int) ?_
   have hw:=(hw.pull 11).pull 11
   obtain⟨fb,d3,hb⟩:=bd hb
   refine RL.call zt zr Ld [(vp ba 0),(vi cd),(vi (IntKind.wrap .i64 ((p0_5.length:Int)+ (bk:Int))))] zr (aF (rQ N (p1:=cd) (p2:=(IntKind.wrap .i64 ((p0_5.length:Int)+ (bk:Int)))) hw d3) ?_)
   rintro _ w ⟨d4,rfl,hw⟩
   refine RL.nil (bO (aG (RC.region (RL.inc hk hm (mv (vi ((cg+1:Nat):Int)) (RL.nil ?_))))))
   obtain rfl:=oi hb
   exact⟨rfl,d4,hw.sp 15 [3,4,5,6,7,8,9,10,11,0,1,14]⟩
  rintro _ w ⟨ch,O,rfl,hw⟩
  refine bO (aG (RC.region (RL.inc hk hm (mv (vi ((bk+1:Nat):Int)) (RL.nil ?_)))))
  obtain rfl:=oi hb
  exact⟨rfl,ch,hw.sp 12 [0,1,2,3,4,5,6,7,8,9,10]⟩
 rintro _ w ⟨cb,O,rfl,hw⟩
 refine aG (RC.seq ?_)
 obtain⟨d5,d6,hb⟩:=bd hb
 obtain⟨d7,d8,hb⟩:=bd hb
 refine RC.Gf E V mixed [1,1,1,0,1,1,1,1,0,0,0,1,1,0,1,1,0] [3,10,13,16] (fun(x:Value×Value)=>(fun an ao=>[(0,56,(vp b0 0)),(1,57,(vp b0 0)),(2,58,(vi p0_5.length)),(3,59,an),(4,60,(vp b0 0)),(5,61,(vp b0 0)),(6,62,(vp b0 0)),(7,63,(vp b0 2)),(8,64,v0_2),(9,65,(vi p0_2.length)),(10,66,ao),(11,67,(vp b0 0)),(12,68,(vp b0 8)),(14,69,(vp b0 0)),(15,70,(vp b0 9))]) x.1 x.2) [(0,vp b0 0),(2,vi p0_5.length),(3,vp ba 0)] [] (fun(D:Nat->Bool) (x:Value×Value)=>(fun an ao=>[bif D 0 then (own 3 an d5) else aW,bif D 1 then (own 3 ao d7) else aW,bif D 3 then (bc 71 b0 [v0_0,v0_1,v0_2,v0_3,v0_4,v0_5,v0_6,(.slice none 0 0),an,ao,v0_10,v0_11]) else (bif D 2 then (bc 71 b0 [v0_0,v0_1,v0_2,v0_3,v0_4,v0_5,v0_6,(.slice none 0 0),an,v0_9,v0_10,v0_11]) else (bc 71 b0 [v0_0,v0_1,v0_2,v0_3,v0_4,v0_5,v0_6,(.slice none 0 0),v0_8,v0_9,v0_10,v0_11])),rd v0_2 p0_2,rd v0_3 p0_3,rd v0_5 p0_5,rd v0_6 p0_6,own 3 v0_8 p0_8,own 3 v0_9 p0_9,own 3 v0_10 p0_10,own 179 v0_11 p0_11,bc 204 ba [cb],own 3 cb b1]) x.1 x.2) (fun x=>by kernel_rfl) ?_ ⟨fun _=>jZ gn,fun _=>jZ gn,fun _=>jZ gn,?_,fun _=>jZ gn,fun _=>AL gn,fun _=>pF gn qV,fun _=>pF gn pI,?_,?_,?_,fun _=>AL gn,fun _=>pF gn Dv,?_,fun _=>AL gn,fun _=>pF gn A5,?_,trivial⟩ ?_
 ·have hw:=((hw.drew).aW).aW
  exact⟨(undef,undef),eB.none,(Et zr),zt,hw⟩
 ·rintro D U w hD af ad ⟨⟨an,ao⟩,hv,ha,_,hw⟩
  obtain⟨O,rfl⟩:=(ac (hv.at 2 rfl (af.1 rfl)) az).fC
  have hw:=((hw.bP 0 hD).bP 2 (nh ad hD 16)).bP 2 (nh ad hD 13)
  refine RL.mk (p0_5.length:Int) zr hw zr zr wL KQ d6 fun cw w hw=>?_
  have hw:=(((hw.pl 14 [0,2,3,4,5,6,7,8,9,10,11,12,13]).cI 0 true rfl aW).dY 2 (D 13) (nh ad hD 13) (bc 71 b0 [v0_0,v0_1,v0_2,v0_3,v0_4,v0_5,v0_6,(.slice none 0 0),cw,v0_9,v0_10,v0_11])).dY 2 (D 16) (nh ad hD 16) (bc 71 b0 [v0_0,v0_1,v0_2,v0_3,v0_4,v0_5,v0_6,(.slice none 0 0),cw,ao,v0_10,v0_11])
  exact RL.nil ⟨rfl,(cw,ao),hv.pu 3,ha.u,zt,hw⟩
 ·rintro D U w hD af ad ⟨⟨an,ao⟩,hv,ha,_,hw⟩
  obtain⟨O,rfl⟩:=(ac (hv.at 7 rfl (af.1 rfl)) az).fC
  have hw:=(hw.bP 2 (nh ad hD 16)).bP 2 (nh ad hD 13)
  refine RL.bV 2 v0_2 hw zJ ?_
  have hw:=(hw.dY 2 (D 13) (nh ad hD 13) (bc 71 b0 [v0_0,v0_1,v0_2,v0_3,v0_4,v0_5,v0_6,(.slice none 0 0),an,v0_9,v0_10,v0_11])).dY 2 (D 16) (nh ad hD 16) (bc 71 b0 [v0_0,v0_1,v0_2,v0_3,v0_4,v0_5,v0_6,(.slice none 0 0),an,ao,v0_10,v0_11])
  exact RL.nil ⟨rfl,(an,ao),hv.pu 8,ha.u,zt,hw⟩
 ·rintro D U w hD af ad ⟨⟨an,ao⟩,hv,ha,_,hw⟩
  obtain⟨O,rfl⟩:=(ac (hv.at 8 rfl (af.1 rfl)) az).fC
  refine RL.bF 3 p0_2 hw A2 ?_
  exact RL.nil ⟨rfl,(an,ao),hv.pu 9,ha.u,zt,hw⟩
 ·rintro D U w hD af ad ⟨⟨an,ao⟩,hv,ha,_,hw⟩
  obtain⟨O,rfl⟩:=(ac (hv.at 9 rfl (af.1 rfl)) az).fC
  have hw:=(hw.bP 1 hD).bP 2 (nh ad hD 16)
  refine RL.mk (p0_2.length:Int) zr hw zr zr wL KQ d8 fun c8 w hw=>?_
  have hw:=((hw.pl 14 [1,0,3,4,5,6,7,8,9,10,11,12,13]).cI 1 true rfl aW).dY 2 (D 16) (nh ad hD 16) (bc 71 b0 [v0_0,v0_1,v0_2,v0_3,v0_4,v0_5,v0_6,(.slice none 0 0),an,c8,v0_10,v0_11])
  exact RL.nil ⟨rfl,(an,c8),hv.pu 10,ha.u,zt,hw⟩
 ·rintro D U w hD af ad ⟨⟨an,ao⟩,hv,ha,_,hw⟩
  obtain⟨O,rfl⟩:=(ac (hv.at 3 rfl (af.2.1 rfl)) (ac (hv.at 12 rfl (af.1 rfl)) az)).fC
  have hw:=((hw.cH 0 (af.2.1 rfl)).bP 2 (nh ad hD 16)).bP 2 hD
  refine RL.jS 2 an hw zr zr (ki 0 hw) fU fun w hw=>?_
  have hw:=((hw.cI 0 (D 3) (af.2.1 rfl) aW).cI 2 true rfl (bc 71 b0 [v0_0,v0_1,v0_2,v0_3,v0_4,v0_5,v0_6,(.slice none 0 0),v0_8,v0_9,v0_10,v0_11])).dY 2 (D 16) (nh ad hD 16) (bc 71 b0 [v0_0,v0_1,v0_2,v0_3,v0_4,v0_5,v0_6,(.slice none 0 0),an,ao,v0_10,v0_11])
  exact RL.nil ⟨rfl,(an,ao),hv.n1,ha,zt,hw⟩
 ·rintro D U w hD af ad ⟨⟨an,ao⟩,hv,ha,_,hw⟩
  obtain⟨O,rfl⟩:=(ac (hv.at 10 rfl (af.2.1 rfl)) (ac (hv.at 14 rfl (af.1 rfl)) az)).fC
  have hw:=((hw.cH 1 (af.2.1 rfl)).bP 2 hD).cH 2 (af.2.2.1 rfl)
  refine RL.jS 2 ao hw zr zr (ki 1 hw) fU fun w hw=>?_
  have hw:=(hw.cI 1 (D 10) (af.2.1 rfl) aW).cI 2 true rfl (bif D 13 then (bc 71 b0 [v0_0,v0_1,v0_2,v0_3,v0_4,v0_5,v0_6,(.slice none 0 0),an,v0_9,v0_10,v0_11]) else (bc 71 b0 [v0_0,v0_1,v0_2,v0_3,v0_4,v0_5,v0_6,(.slice none 0 0),v0_8,v0_9,v0_10,v0_11]))
  exact RL.nil ⟨rfl,(an,ao),hv.n1,ha,zt,hw⟩
 rintro D U w a8 ⟨⟨an,ao⟩,hv,ha,_,hw⟩
 have hw:=((hw.cH 0 (kD a8 3)).cH 1 (kD a8 10)).cH 2 (kD a8 16)
 obtain⟨O,rfl⟩:=(ac (ha.at 0 rfl) (ac (ha.at 1 rfl) (ac (ha.at 2 rfl) az))).fC
 refine aG (RC.seq (RC.sr (mv (vp ba 0) ?_)))
 have hw:=(hw.pull 12).pull 12
 obtain⟨a9,d9,hb⟩:=bd hb
 refine RL.call zt zr Le [(vp ba 0)] zr (aF (rR N hw d9) ?_)
 rintro bl w ⟨_,fc,rfl,hw⟩
 refine RL.eO 0 a9.1 hw J0 (mv (vi 0) (RL.nt ?_))
 obtain⟨a6,hN,hb⟩:=bd hb
 refine RC.fold (fun(bp:Nat) (a6: (List bJ)×(List Int)×(List Int)) U w=>∃(c9:Value) (us442:List cF),SH E V [(0,vp b0 0),(2,vi p0_5.length),(72,bl),(73,vi a9.1.length),(74,vi bp)] [bc 71 b0 [v0_0,v0_1,v0_2,v0_3,v0_4,v0_5,v0_6,c9,an,ao,v0_10,v0_11],own 73 c9 us442,gV bX us442 a6.1 none,rd v0_2 p0_2,rd v0_3 p0_3,rd v0_5 p0_5,rd v0_6 p0_6,own 3 an a6.2.1,own 3 ao a6.2.2,own 3 v0_10 p0_10,own 179 v0_11 p0_11,own 68 bl a9.1] U w) (fun(a6: (List bJ)×(List Int)×(List Int)) U w=>∃(ak:Value) (us444:List cF),SH E V [(0,vp b0 0)] [bc 71 b0 [v0_0,v0_1,v0_2,v0_3,v0_4,v0_5,v0_6,ak,an,ao,v0_10,v0_11],own 73 ak us444,gV bX us444 a6.1 none,rd v0_2 p0_2,rd v0_3 p0_3,rd v0_5 p0_5,rd v0_6 p0_6,own 3 an a6.2.1,own 3 ao a6.2.2,own 3 v0_10 p0_10,own 179 v0_11 p0_11,own 68 bl a9.1] U w) hN ?_ ?_ ?_ ?_
 ·have hw:=(hw.xT bX).cW cF 73
  exact⟨(.slice none 0 0),([]:List cF),hw.sp 18 [7,0,1,8,9,10,11,5,6,14,15,2]⟩
 ·rintro hm a6 _ w ⟨ea,us604,O,rfl,hw⟩
  refine RC.sr (ic ((a9.1.length:Int)) ((a9.1.length:Int)) (RL.nq (RC.cP mz (RC.ex ?_))))
  exact⟨rfl,ea,us604,hw.sp 12 [0,1,2,3,4,5,6,7,8,9,10,11]⟩
 ·rintro hm bp a6 s' _ w hk ⟨bh,us446,O,rfl,hw⟩ hb
  refine RC.sr (ic ((bp:Int)) ((a9.1.length:Int)) (RL.nq (RC.cO (my hk) (RC.ss (RC.bs ?_)))))
  obtain⟨bn,cx,hb⟩:=bd hb
  refine RL.bY 11 hw zr zr Fq cx (RL.kh (f:=(fun x=>x)) 11 hw (kC 11 hw cx 0) (bG cx).2.1 Fd.self fU fun bq hw=>?_)
  refine aM bq (RL.ns (RL.vl zr hw MZ zr fun bw w hw=>?_))
  refine RL.nq (RC.sr (mv bq (RL.bF 1 bn hw nC (mv (vi 0) (RL.nt ?_)))))
  obtain⟨au,hN,hb⟩:=bd hb
  refine RC.fold (fun(b6:Nat) (au: (List Int)×(List Int)×(List Int)×(List Int)) U w=>∃da db:Value,SH E V [(0,vp b0 0),(2,vi p0_5.length),(10,vp bw 0),(72,bl),(73,vi a9.1.length),(74,vi bp),(78,bq),(79,vi bn.length),(80,vi b6)] [bc 71 b0 [v0_0,v0_1,v0_2,v0_3,v0_4,v0_5,v0_6,bh,an,ao,v0_10,v0_11],rd v0_2 p0_2,rd v0_3 p0_3,rd v0_5 p0_5,rd v0_6 p0_6,own 73 bh us446,gV bX us446 a6.1 none,own 3 an au.1,own 3 ao au.2.1,own 3 v0_10 p0_10,own 179 v0_11 p0_11,bc 73 bw [da,db,(.slice none 0 0)],own 3 da au.2.2.1,own 3 db au.2.2.2,own 68 bl a9.1,rd bq bn] U w) (fun(au: (List Int)×(List Int)×(List Int)×(List Int)) U w=>∃bz br:Value,SH E V [(0,vp b0 0),(2,vi p0_5.length),(10,vp bw 0),(72,bl),(73,vi a9.1.length),(74,vi bp)] [bc 71 b0 [v0_0,v0_1,v0_2,v0_3,v0_4,v0_5,v0_6,bh,an,ao,v0_10,v0_11],rd v0_2 p0_2,rd v0_3 p0_3,rd v0_5 p0_5,rd v0_6 p0_6,own 73 bh us446,gV bX us446 a6.1 none,own 3 an au.1,own 3 ao au.2.1,own 3 v0_10 p0_10,own 179 v0_11 p0_11,bc 73 bw [bz,br,(.slice none 0 0)],own 3 bz au.2.2.1,own 3 br au.2.2.2,own 68 bl a9.1,rd bq bn] U w) hN ?_ ?_ ?_ ?_
  ·have hw:=(hw.cW Int 3).cW Int 3
   exact⟨(.slice none 0 0),(.slice none 0 0),hw.sp 16 [4,7,8,9,10,5,6,11,12,13,14,2,1,0,15,3]⟩
  ·rintro hm au _ w ⟨eb,ec,O,rfl,hw⟩
   refine RC.sr (ic ((bn.length:Int)) ((bn.length:Int)) (RL.nq (RC.cP mz (RC.ex ?_))))
   exact⟨rfl,eb,ec,hw.sp 16 [0,1,2,3,4,5,6,7,8,9,10,11,12,13,14,15]⟩
  ·rintro hm b6 au s' _ w hk ⟨cj,cy,O,rfl,hw⟩ hb
   refine RC.sr (ic ((b6:Int)) ((bn.length:Int)) (RL.nq (RC.cO (my hk) (RC.ss (RC.bs ?_)))))
   obtain⟨a3,ed,hb⟩:=bd hb
   refine RL.cA 15 hw fV ed fun fe hw=>(RL.bQ a3 0 hw dE (aM (vi a3) (RL.nt (RC.bs (mv (vi a3) (mv (vi p0_5.length) (ic a3 ((p0_5.length:Int)) (aM (vb (decide (a3< (p0_5.length:Int)))) ?_))))))))
   refine RL.nt ?_
   obtain⟨b7,hj,hb⟩:=bd hb
   refine RC.jn (fun(b7: (List Int)×(List Int)×(List Int)×(List Int)) U w=>∃ck cl:Value,SH E V [(0,vp b0 0),(2,vi p0_5.length),(10,vp bw 0),(72,bl),(73,vi a9.1.length),(74,vi bp),(78,bq),(79,vi bn.length),(80,vi b6)] [bc 71 b0 [v0_0,v0_1,v0_2,v0_3,v0_4,v0_5,v0_6,bh,an,ao,v0_10,v0_11],rd v0_2 p0_2,rd v0_3 p0_3,rd v0_5 p0_5,rd v0_6 p0_6,own 73 bh us446,gV bX us446 a6.1 none,own 3 an b7.1,own 3 ao b7.2.1,own 3 v0_10 p0_10,own 179 v0_11 p0_11,bc 73 bw [ck,cl,(.slice none 0 0)],own 3 ck b7.2.2.1,own 3 cl b7.2.2.2,own 68 bl a9.1,rd bq bn] U w) b7 ?_ ?_
   ·refine eH hj (fun hc hj=>?_) fun hc hj=>?_
    ·refine RC.seq (RC.Cg mixed [0,0,0,0,0,0,0,0,0,0,0,2] [0,1,2,3,4,5,6,7,8,9,10,11] ?_)
     have hw:=hw.drew
     refine DP.e0 zr (mv (vp b0 0) (dA zr (RL.nilCheck zr (dA zr (RL.bH zr Dv (dA zr (RL.bV 1 an hw fU (dA zr ?_))))))))
     refine mv (vi a3) (dA zr (mv (vp b0 0) (dA zr (RL.nilCheck zr (dA zr (RL.bH zr uL (dA zr (RL.bV 1 bh hw Dw ?_))))))))
     refine dA zr (RL.oD 6 7 a6.1 hw J3 (dA zr ?_))
     obtain⟨ff,cz,hj⟩:=bd hj
     refine RL.bY 8 hw zr zr fV cz (xt zr ?_)
     have hw:=hw.sc Int (a6.1.length:Int)
     refine RL.iH (f:=(fun _ y=>y)) 9 0 hw (kC 9 hw cz 0) (bG cz).2.1 zr Fs.self dE fun w hw=>?_
     refine DP.d2 zt (DP.z (aG (RC.region (RL.bH zr Dx (RL.bV 13 cj hw fU (mv (vi a3) ?_))))))
     have hw:=hw.sc Int a3
     refine RL.eF ([a3]: (List Int)) hw [(vi a3)] fV H5 (fun M hs g=>⟨(g.sat 0 _ zr).1,zt⟩) fun fg w hw=>?_
     have hw:=hw.freeze 0
     obtain⟨fh,ee,hj⟩:=bd hj
     refine RL.app 16 0 hw wL ee fun dc w hw=>?_
     refine RL.bH zr Dx (RL.jS 15 dc hw zr zr (ki 16 hw) fU fun w hw=>?_)
     refine RL.nil ?_
     obtain rfl:=oi hj
     exact⟨rfl,dc,cy,hw.sp 20 [4,5,6,7,8,9,10,11,12,13,14,15,16,17,18,19]⟩
    refine RC.sr (mv (vp b0 0) (RL.nilCheck zr (RL.bH zr qV (RL.bH zr pI (RL.bV 1 v0_2 hw zJ (mv (vi a3) (mv (vi p0_5.length) (RL.jQ a3 (p0_5.length:Int) ?_))))))))
    obtain⟨dd,ef,hj⟩:=bd hj
    refine RL.cA 2 hw Cq ef fun fi hw=>(RL.fB 0 hw zr Dt wF fun fj hw=>(RL.bQ dd.jJ 0 hw LU (aM (vb dd.jJ) (RL.nt ?_))))
    obtain⟨cm,hjj,hj⟩:=bd hj
    refine RC.jn (fun(cm: (List Int)×(List Int)) U w=>∃cn:Value,SH E V [(0,vp b0 0),(2,vi p0_5.length),(10,vp bw 0),(72,bl),(73,vi a9.1.length),(74,vi bp),(78,bq),(79,vi bn.length),(80,vi b6)] [bc 71 b0 [v0_0,v0_1,v0_2,v0_3,v0_4,v0_5,v0_6,bh,an,ao,v0_10,v0_11],rd v0_2 p0_2,rd v0_3 p0_3,rd v0_5 p0_5,rd v0_6 p0_6,own 73 bh us446,gV bX us446 a6.1 none,own 3 an au.1,own 3 ao cm.1,own 3 v0_10 p0_10,own 179 v0_11 p0_11,bc 73 bw [cj,cn,(.slice none 0 0)],own 3 cn cm.2,own 3 cj au.2.2.1,own 68 bl a9.1,rd bq bn] U w) cm ?_ ?_
    ·refine eH hjj (fun hc hjj=>?_) fun hc hjj=>?_
     rotate_left
     ·refine RC.region (mv (vp b0 0) (RL.nilCheck zr (RL.bH zr A5 (RL.bV 3 ao hw fU (mv (vi a3) (mv (vi p0_5.length) (RL.jQ a3 (p0_5.length:Int) ?_)))))))
      obtain⟨fk,c0,hjj⟩:=bd hjj
      refine RL.bY 11 hw zr zr fV c0 ?_
      have hw:=hw.sc Int (-1)
      refine RL.iH (f:=(fun _ y=>y)) 12 0 hw (kC 12 hw c0 0) (bG c0).2.1 zr Fs.self dE fun w hw=>?_
      refine RL.nil ?_
      obtain rfl:=oi hjj
      exact⟨rfl,cy,hw.sp 20 [4,5,6,7,8,9,10,11,12,13,14,15,17,16,18,19]⟩
     refine RC.seq (RC.Cg mixed [0,0,0,0,0,0,0,0,0,0,0,0,0,2] [0,1,2,3,4,5,6,7,8,9,10,11,12,13] ?_)
     have hw:=hw.drew
     refine DP.e0 zr (mv (vp b0 0) (dA zr (RL.nilCheck zr (dA zr (RL.bH zr A5 (dA zr (RL.bV 3 ao hw fU (dA zr ?_))))))))
     refine mv (vi a3) (dA zr (mv (vi p0_5.length) (dA zr (RL.jQ a3 (p0_5.length:Int) (dA zr (mv (vp b0 0) (dA zr (RL.nilCheck zr ?_))))))))
     refine dA zr (RL.bH zr uL (dA zr (RL.bV 3 bh hw Dw (dA zr (RL.oD 8 9 a6.1 hw J3 (dA zr ?_))))))
     obtain⟨fl,c1,hjj⟩:=bd hjj
     refine RL.bY 11 hw zr zr fV c1 (xt zr ?_)
     have hw:=hw.sc Int (a6.1.length:Int)
     refine RL.iH (f:=(fun _ y=>y)) 12 0 hw (kC 12 hw c1 0) (bG c1).2.1 zr Fs.self dE fun w hw=>?_
     refine DP.d2 zt (DP.z (aG (RC.region (RL.bH zr Dy (RL.bV 15 cy hw fU (mv (vi a3) (mv (vi p0_5.length) (RL.jQ a3 (p0_5.length:Int) ?_))))))))
     have hw:=hw.sc Int (IntKind.wrap .i64 (a3 - (p0_5.length:Int)))
     refine RL.eF ([(IntKind.wrap .i64 (a3 - (p0_5.length:Int)))]: (List Int)) hw [(vi (IntKind.wrap .i64 (a3 - (p0_5.length:Int))))] fV H5 (fun M hs g=>⟨(g.sat 0 _ zr).1,zt⟩) fun fm w hw=>?_
     have hw:=hw.freeze 0
     obtain⟨fo,eg,hjj⟩:=bd hjj
     refine RL.app 19 0 hw wL eg fun de w hw=>?_
     refine RL.bH zr Dy (RL.jS 17 de hw zr zr (ki 19 hw) fU fun w hw=>?_)
     refine RL.nil ?_
     obtain rfl:=oi hjj
     exact⟨rfl,de,hw.sp 22 [6,7,8,9,10,11,12,13,14,15,16,17,19,18,20,21]⟩
    rintro _ w ⟨cn,O,rfl,hw⟩
    obtain rfl:=oi hj
    exact⟨rfl,cj,cn,hw.sp 16 [0,1,2,3,4,5,6,7,8,9,10,11,13,12,14,15]⟩
   rintro _ w ⟨ck,cl,O,rfl,hw⟩
   refine bO (bO (aG (RC.region (RL.inc hk hm (mv (vi ((b6+1:Nat):Int)) (RL.nil ?_))))))
   obtain rfl:=oi hb
   exact⟨rfl,ck,cl,hw.sp 16 [0,1,2,3,4,5,6,7,8,9,10,11,12,13,14,15]⟩
  rintro _ w ⟨bz,br,O,rfl,hw⟩
  refine aG (RC.sr (RL.bH zr Dx (RL.bV 11 bz hw fU (RL.eO 12 au.2.2.1 hw nC (RL.bH zr Dy (RL.bV 11 br hw fU (RL.eO 13 au.2.2.2 hw nC (RL.jQ (au.2.2.1.length:Int) (au.2.2.2.length:Int) ?_))))))))
  refine ic ((IntKind.wrap .i64 ((au.2.2.1.length:Int)+ (au.2.2.2.length:Int)))) 0 (RL.nt ?_)
  obtain⟨c2,hj,hb⟩:=bd hb
  refine RC.jn (fun(c2: (List bJ)) U w=>∃(cp:Value) (us598:List cF),SH E V [(0,vp b0 0),(2,vi p0_5.length),(72,bl),(73,vi a9.1.length),(74,vi bp)] [bc 71 b0 [v0_0,v0_1,v0_2,v0_3,v0_4,v0_5,v0_6,cp,an,ao,v0_10,v0_11],own 73 cp us598,gV bX us598 c2 none,rd v0_2 p0_2,rd v0_3 p0_3,rd v0_5 p0_5,rd v0_6 p0_6,own 3 an au.1,own 3 ao au.2.1,own 3 v0_10 p0_10,own 179 v0_11 p0_11,own 68 bl a9.1] U w) c2 ?_ ?_
  ·refine eH hj (fun hc hj=>?_) fun hc hj=>?_
   rotate_left
   ·refine RC.skip ?_
    obtain rfl:=oi hj
    exact⟨rfl,bh,us446,hw.sp 16 [0,5,6,1,2,3,4,7,8,9,10,14]⟩
   have hw:=hw.drew
   refine RC.E6 (fun w=>Holds E w ([bc 71 b0 [v0_0,v0_1,v0_2,v0_3,v0_4,v0_5,v0_6,bh,an,ao,v0_10,v0_11]]++V)) mixed zr [1,1,1,1,1,0,2,2,0,0,2] [0,1,2,3,4,5,6,7,8,9,10] (hw.pk 16 [0]) (DP.e1 (vp b0 0) zr (fun w=>RL.move (vp b0 0) zt DP.d1) (DP.e1 (vp b0 0) zr (fun w=>RL.move (vp b0 0) zt DP.d1) (DP.e1 (vp b0 0) zr (fun w=>RL.nilCheck zr DP.d1) (DP.e1 (vp b0 7) zr (fun w=>RL.bH zr uL DP.d1) (DP.Je bh zr (fun w hw=>RL.bV 0 bh hw Dw DP.d1) (DP.e0 zr (RL.yi 11 [bz,br,(.slice none 0 0)] zr hw zr zr IA zr (xt zr ?_))))))))
   have hw:=((((hw.cW aX 34).B4 (i:=0) rfl).freeze 14).freeze 15).Gu (cs:=[bz,br,(.slice none 0 0)]) (x:=(⟨au.2.2.1,au.2.2.2,(rv (.slice none 0 0))⟩:cF)) (fun M hs g=>⟨[bz],[br,(.slice none 0 0)],rfl,(r7 (g.sat 14 _ rfl).1),⟨[br],[(.slice none 0 0)],rfl,(r7 (g.sat 15 _ rfl).1),(r7 (g.sat 0 _ rfl).1)⟩⟩) rfl
   refine RL.eF ([(⟨au.2.2.1,au.2.2.2,(rv (.slice none 0 0))⟩:cF)]:List cF) hw [(.agg ([bz,br,(.slice none 0 0)]:List Value).toArray)] IB Lg (fun M hs g=>⟨(g.sat 0 _ zr).1,zt⟩) fun fp w hw=>(DP.d2 (hw.pk 20 [4]) (DP.e2 zr ?_))
   obtain⟨fq,eh,hj⟩:=bd hj
   have hw:=hw.freeze 0
   refine RL.E3 (i:=9) (j:=0) (b:=10) (o:=3) (X:=bX) (ur:=(⟨au.2.2.1,au.2.2.2,(rv (.slice none 0 0))⟩:cF)) (xr:=(⟨au.2.2.1,au.2.2.2,([]: (List aX))⟩:bJ)) (u:=(.slice none 0 0)) (y:=([]: (List aX))) (fun _ _ ho=>⟨⟨rfl,rfl⟩,ho⟩) trivial rfl hw rfl rfl rfl rfl rfl rfl (by decide) (by decide) (by decide) M1 eh fun df w hw=>?_
   refine DP.d2 (hw.pk 20 [4]) (DP.e0 zr (RL.nilCheck zr (dA zr (RL.bH zr uL (DP.d0 (DP.NU zr zr (RL.jS 4 df hw zr zr (ki 9 hw) Dw fun w hw=>?_)))))))
   refine DP.d2 zt (DP.z ?_)
   obtain rfl:=oi hj
   exact⟨rfl,df,(us446++[(⟨au.2.2.1,au.2.2.2,(rv (.slice none 0 0))⟩:cF)]),hw.sp 20 [4,9,10,5,6,7,8,11,12,13,14,18]⟩
  rintro _ w ⟨cp,us598,O,rfl,hw⟩
  refine bO (aG (RC.region (RL.inc hk hm (mv (vi ((bp+1:Nat):Int)) (RL.nil ?_)))))
  obtain rfl:=oi hb
  exact⟨rfl,cp,us598,hw.sp 12 [0,1,2,3,4,5,6,7,8,9,10,11]⟩
 rintro _ w ⟨ak,us444,O,rfl,hw⟩
 refine aG (RC.sr (mv (vp b0 0) (RL.nilCheck zr (RL.bH zr qV (RL.bH zr wN (RL.bV 0 v0_3 hw Fj (RL.bF 4 p0_3 hw GY (mv (vi 0) ?_))))))))
 refine RL.nt ?_
 obtain⟨aj,hN,hb⟩:=bd hb
 refine RC.fold (fun(b3:Nat) (aj: (List bJ)×(List Int)×(List Int)×(List Int)×(List kb)) U w=>∃(dg dh:Value) (di dj:Value) (us819:List cF),SH E V [(0,vp b0 0),(170,v0_3),(171,vi p0_3.length),(172,vi b3)] [bc 71 b0 [v0_0,v0_1,v0_2,v0_3,v0_4,v0_5,v0_6,ak,dg,dh,di,dj],rd dg aj.2.1,rd dh aj.2.2.1,own 3 di aj.2.2.2.1,own 179 dj aj.2.2.2.2,rd v0_2 p0_2,rd v0_3 p0_3,rd v0_5 p0_5,rd v0_6 p0_6,own 73 ak us819,gV bX us819 aj.1 none] U w) (fun(aj: (List bJ)×(List Int)×(List Int)×(List Int)×(List kb)) U w=>∃(cq cr:Value) (ct cu:Value) (us824:List cF),SH E V [(0,vp b0 0)] [bc 71 b0 [v0_0,v0_1,v0_2,v0_3,v0_4,v0_5,v0_6,ak,cq,cr,ct,cu],rd cq aj.2.1,rd cr aj.2.2.1,own 3 ct aj.2.2.2.1,own 179 cu aj.2.2.2.2,rd v0_2 p0_2,rd v0_3 p0_3,rd v0_5 p0_5,rd v0_6 p0_6,own 73 ak us824,gV bX us824 aj.1 none] U w) hN ?_ ?_ ?_ ?_
 ·have hw:=(hw.freeze 7).freeze 8
  exact⟨an,ao,v0_10,v0_11,us444,hw.sp 12 [0,7,8,9,10,3,4,5,6,1,2]⟩
 ·rintro hm aj _ w ⟨ei,ej,ek,el,us932,O,rfl,hw⟩
  refine RC.sr (ic ((p0_3.length:Int)) ((p0_3.length:Int)) (RL.nq (RC.cP mz (RC.ex ?_))))
  exact⟨rfl,ei,ej,ek,el,us932,hw.sp 11 [0,1,2,3,4,5,6,7,8,9,10]⟩
 ·rintro hm b3 aj s' _ w hk ⟨a4,a5,bm,a7,us829,O,rfl,hw⟩ hb
  refine RC.sr (ic ((b3:Int)) ((p0_3.length:Int)) (RL.nq (RC.cO (my hk) (RC.ss (RC.bs ?_)))))
  obtain⟨b8,en,hb⟩:=bd hb
  refine RL.cA 6 hw Fk en fun eo hw=>(RL.bC 0 b8 hw uK fun ep hw=>(RL.alloc hw JW.z fun dk w hw=>?_))
  refine RL.bD 0 hw 1 zr uK fun w hw=>?_
  refine RL.ns (mv (vp b0 0) (RL.aN (f:=(fun x=>x)) 0 hw zr Fd.self uK fun dm hw=>?_))
  have hw:=((hw.dup 11 rfl).dup 10 rfl).pull 6
  obtain⟨bb,er,hb⟩:=bd hb
  refine RL.call zt zr Li [(vp b0 0),dm] zr (aF (rT N (i1:=0) hw zr er) ?_)
  rintro _ w ⟨c3,rfl,hw⟩
  refine mv (.tuple #[c3,(vb bb.2)]) (RL.extract c3 (RL.extract (vb bb.2) (RL.alloc hw G7.z fun b9 w hw=>?_)))
  refine RL.bD 0 hw 1 zr vG fun w hw=>?_
  refine aM (vb bb.2) (RL.ns (aM (vi (-1)) (RL.nq (RC.sr (mv (vb bb.2) (RL.nt ?_))))))
  obtain⟨bj,hj,hb⟩:=bd hb
  refine RC.jn (fun(bj: (List bJ)×Int) U w=>∃(us877:List cF),SH E V [(0,vp b0 0),(15,vp b9 0),(17,vi bj.2),(170,v0_3),(171,vi p0_3.length),(172,vi b3)] [bc 71 b0 [v0_0,v0_1,v0_2,v0_3,v0_4,v0_5,v0_6,ak,a4,a5,bm,a7],rd v0_2 p0_2,rd v0_3 p0_3,rd v0_5 p0_5,rd v0_6 p0_6,own 73 ak us877,gV bX us877 bj.1 none,rd a4 aj.2.1,rd a5 aj.2.2.1,own 3 bm aj.2.2.2.1,own 179 a7 aj.2.2.2.2,bx 179 b9 bb.1] U w) bj ?_ ?_
  ·refine eH hj (fun hc hj=>?_) fun hc hj=>?_
   rotate_left
   ·refine RC.skip ?_
    obtain rfl:=oi hj
    exact⟨rfl,us829,hw.sp 18 [2,12,13,14,15,16,17,8,9,10,11,0]⟩
   refine RC.sr (mv (vp b0 0) (RL.aN (f:=(fun x=>x)) 0 hw zr Fd.self vG fun dn hw=>?_))
   have hw:=((hw.dup 10 rfl).dup 10 rfl).pull 5
   obtain⟨ai,et,hj⟩:=bd hj
   refine RL.call zt zr Lj [(vp b0 0),dn] zr (aF (oO N (i1:=0) hw zr et) ?_)
   rintro _ w ⟨rfl,hw⟩
   refine aM (vi ai) (RL.nt ?_)
   obtain⟨fr,cf,hj⟩:=bd hj
   obtain⟨ca,eu,hj⟩:=bd hj
   obtain⟨bt,ev,hj⟩:=bd hj
   obtain⟨b4,cv,hj⟩:=bd hj
   refine RC.Gf E V mixed [1,1,1,0,1,1,1,1,0,1,0,0,0,0,0,0,0,0,0,0] [13,14,15,16,19] (fun(x:Value×Value×Value×Value)=>(fun aw ax av al=>[(0,186,(vp b0 0)),(1,187,(vp b0 0)),(2,188,(vp b0 7)),(3,189,ak),(4,190,(vi ai)),(5,191,(vp b0 0)),(6,192,(vp b0 0)),(7,193,(vp b0 7)),(8,194,ak),(9,195,(vi ai)),(10,196,(z8 ak (Int.toNat ai) 3 0)),(11,197,(z8 ak (Int.toNat ai) 3 2)),(12,198,(us829.getD (Int.toNat ai) (default:cF)).aS.v),(13,199,aw),(14,200,ax),(15,201,av),(16,202,al),(17,203,(z8 ak (Int.toNat ai) 3 0)),(18,204,(z8 ak (Int.toNat ai) 3 2))]) x.1 x.2.1 x.2.2.1 x.2.2.2) [(0,vp b0 0),(14,vp dk 0),(15,vp b9 0),(17,vi ai),(170,v0_3),(171,vi p0_3.length),(172,vi b3)] [] (fun(D:Nat->Bool) (x:Value×Value×Value×Value)=>(fun aw ax av al=>[bif D 0 then (rd aw b8) else aW,bif D 1 then (rd ax ca) else aW,bif D 3 then (rd av ([ca]: (List aX))) else (bif D 2 then (own 34 av ([ca]: (List aX))) else aW),bif D 4 then aW else (bif D 3 then (own 34 al bt) else aW),bc 71 b0 [v0_0,v0_1,v0_2,v0_3,v0_4,v0_5,v0_6,ak,a4,a5,bm,a7],rd dn bb.1,bx 179 b9 bb.1,rd c3 bb.1,aW,rd dm b8,bx 79 dk b8,rd ep b8,pt eo b8,aW,rd a4 aj.2.1,rd a5 aj.2.2.1,own 3 bm aj.2.2.2.1,own 179 a7 aj.2.2.2.2,rd v0_2 p0_2,rd v0_3 p0_3,rd v0_5 p0_5,rd v0_6 p0_6,bif D 4 then (own 73 ak (us829.set (Int.toNat ai) {(us829.getD (Int.toNat ai) (default:cF)) with aS:=rv al})) else (own 73 ak us829),bif D 4 then (gV bX (us829.set (Int.toNat ai) {(us829.getD (Int.toNat ai) (default:cF)) with aS:=rv al}) (aj.1.set (Int.toNat ai) {b4 with aS:=bt}) none) else (bif D 3 then (gV bX us829 aj.1 (some (Int.toNat ai))) else (gV bX us829 aj.1 none))]) x.1 x.2.1 x.2.2.1 x.2.2.2) (fun x=>by kernel_rfl) ?_ ⟨fun _=>jZ gn,fun _=>AL gn,fun _=>pF gn uL,?_,fun _=>jZ gn,fun _=>jZ gn,fun _=>AL gn,fun _=>pF gn uL,?_,fun _=>jZ gn,?_,?_,?_,?_,?_,?_,?_,?_,?_,?_,trivial⟩ ?_
   ·have hw:=((((hw.drew).aW).aW).aW).aW
    exact⟨(undef,undef,undef,undef),eB.none,(Et zr),zt,hw⟩
   ·rintro D U w hD af ad ⟨⟨aw,ax,av,al⟩,hv,ha,_,hw⟩
    obtain⟨O,rfl⟩:=(ac (hv.at 2 rfl (af.1 rfl)) az).fC
    refine RL.bV 4 ak hw Dw ?_
    exact RL.nil ⟨rfl,(aw,ax,av,al),hv.pu 3,ha.u,zt,hw⟩
   ·rintro D U w hD af ad ⟨⟨aw,ax,av,al⟩,hv,ha,_,hw⟩
    obtain⟨O,rfl⟩:=(ac (hv.at 7 rfl (af.1 rfl)) az).fC
    refine RL.bV 4 ak hw Dw ?_
    exact RL.nil ⟨rfl,(aw,ax,av,al),hv.pu 8,ha.u,zt,hw⟩
   ·rintro D U w hD af ad ⟨⟨aw,ax,av,al⟩,hv,ha,_,hw⟩
    obtain⟨O,rfl⟩:=(ac (hv.at 8 rfl (af.1 rfl)) (ac (hv.at 9 rfl (af.2.1 rfl)) az)).fC
    have hw:=((hw.bP 22 (nh ad hD 19)).bP 23 (nh ad hD 19)).bP 23 (nf (fun h=>ft hD ((ad 11 _ rfl ((ad 12 _ rfl ((ad 16 _ rfl h).1 rfl)).1 rfl)).1 rfl)))
    have hl900:=hw.fS 23
    have hr901:=iN (default:cF) hl900 cf
    refine RL.bY 22 hw zr zr IB hr901 ?_
    have hw:=(hw.dY 22 (D 19) (nh ad hD 19) (own 73 ak (us829.set (Int.toNat ai) {(us829.getD (Int.toNat ai) (default:cF)) with aS:=rv al}))).dY 23 (D 16) (nf (fun h=>ft hD ((ad 11 _ rfl ((ad 12 _ rfl ((ad 16 _ rfl h).1 rfl)).1 rfl)).1 rfl))) (gV bX us829 aj.1 (some (Int.toNat ai)))
    have hw:=hw.dY 23 (D 19) (nh ad hD 19) (gV bX (us829.set (Int.toNat ai) {(us829.getD (Int.toNat ai) (default:cF)) with aS:=rv al}) (aj.1.set (Int.toNat ai) {b4 with aS:=bt}) none)
    exact RL.nil ⟨rfl,(aw,ax,av,al),hv.pu 10,ha.u,zt,hw⟩
   ·rintro D U w hD af ad ⟨⟨aw,ax,av,al⟩,hv,ha,_,hw⟩
    obtain⟨O,rfl⟩:=(ac (hv.at 10 rfl (af.1 rfl)) az).fC
    have hw:=((hw.bP 22 (nh ad hD 19)).bP 23 (nh ad hD 19)).bP 23 (nf (fun h=>ft hD ((ad 12 _ rfl ((ad 16 _ rfl h).1 rfl)).1 rfl)))
    have hl902:=hw.fS 23
    have hr903:=iN (default:cF) hl902 cf
    refine RL.m4 (α:=cF) (kC 22 hw hr903 0) Dz ?_
    have hw:=(hw.dY 22 (D 19) (nh ad hD 19) (own 73 ak (us829.set (Int.toNat ai) {(us829.getD (Int.toNat ai) (default:cF)) with aS:=rv al}))).dY 23 (D 16) (nf (fun h=>ft hD ((ad 12 _ rfl ((ad 16 _ rfl h).1 rfl)).1 rfl))) (gV bX us829 aj.1 (some (Int.toNat ai)))
    have hw:=hw.dY 23 (D 19) (nh ad hD 19) (gV bX (us829.set (Int.toNat ai) {(us829.getD (Int.toNat ai) (default:cF)) with aS:=rv al}) (aj.1.set (Int.toNat ai) {b4 with aS:=bt}) none)
    exact RL.nil ⟨rfl,(aw,ax,av,al),hv.pu 11,ha.u,zt,hw⟩
   ·rintro D U w hD af ad ⟨⟨aw,ax,av,al⟩,hv,ha,_,hw⟩
    obtain⟨O,rfl⟩:=(ac (hv.at 11 rfl (af.1 rfl)) az).fC
    have hw:=((hw.bP 22 (nh ad hD 19)).bP 23 (nh ad hD 19)).bP 23 (nh ad hD 16)
    have hl904:=hw.fS 23
    have hr905:=iN (default:cF) hl904 cf
    refine RL.tB 22 23 ai su (default:cF) zr hw zr (kC 22 hw hr905 2) zr zr cf xK ?_
    have hw:=(hw.dY 22 (D 19) (nh ad hD 19) (own 73 ak (us829.set (Int.toNat ai) {(us829.getD (Int.toNat ai) (default:cF)) with aS:=rv al}))).dY 23 (D 16) (nh ad hD 16) (gV bX us829 aj.1 (some (Int.toNat ai)))
    have hw:=hw.dY 23 (D 19) (nh ad hD 19) (gV bX (us829.set (Int.toNat ai) {(us829.getD (Int.toNat ai) (default:cF)) with aS:=rv al}) (aj.1.set (Int.toNat ai) {b4 with aS:=bt}) none)
    exact RL.nil ⟨rfl,(aw,ax,av,al),hv.pu 12,ha.u,zt,hw⟩
   ·rintro D U w hD af ad ⟨⟨aw,ax,av,al⟩,hv,ha,_,hw⟩
    obtain⟨O,rfl⟩:=(ac (ha.at 1 rfl) az).fC
    have hw:=hw.bP 0 hD
    refine RL.aN (f:=(fun x=>x)) 10 hw zr Fd.self uK fun ew hw=>?_
    have hw:=(hw.pl 25 [0,2,3,4,5,6,7,8,9,10,11,12,13,14,15,16,17,18,19,20,21,22,23,24]).cI 0 true rfl aW
    exact RL.nil ⟨rfl,(ew,ax,av,al),hv.pu 13,ha.u,zt,hw⟩
   ·rintro D U w hD af ad ⟨⟨aw,ax,av,al⟩,hv,ha,_,hw⟩
    obtain⟨O,rfl⟩:=(ac (hv.at 13 rfl (af.1 rfl)) az).fC
    have hw:=(hw.cH 0 (af.1 rfl)).bP 1 hD
    refine RL.call zt zr Fm [aw] zr (aF (jr N (i0:=0) hw zr eu) ?_)
    rintro ey w hw
    have hw:=((hw.pl 25 [1,0,3,4,5,6,7,8,9,10,11,12,13,14,15,16,17,18,19,20,21,22,23,24]).cI 0 (D 13) (af.1 rfl) aW).cI 1 true rfl aW
    exact RL.nil ⟨rfl,(aw,ey,av,al),hv.pu 14,ha.u,zt,hw⟩
   ·rintro D U w hD af ad ⟨⟨aw,ax,av,al⟩,hv,ha,_,hw⟩
    obtain⟨O,rfl⟩:=(ac (hv.at 14 rfl (af.1 rfl)) az).fC
    have hw:=((hw.cH 1 (af.1 rfl)).bP 2 (nh ad hD 16)).bP 2 hD
    refine RL.eF ([ca]: (List aX)) hw [ax] qU sA (fun M hs g=>⟨(g.sat 1 _ zr).1,zt⟩) fun dp w hw=>?_
    have hw:=(((hw.pl 25 [1,2,0,4,5,6,7,8,9,10,11,12,13,14,15,16,17,18,19,20,21,22,23,24]).cI 1 (D 14) (af.1 rfl) aW).cI 2 true rfl aW).dY 2 (D 16) (nh ad hD 16) (rd dp ([ca]: (List aX)))
    exact RL.nil ⟨rfl,(aw,ax,dp,al),hv.pu 15,ha.u,zt,hw⟩
   ·rintro D U w hD af ad ⟨⟨aw,ax,av,al⟩,hv,ha,_,hw⟩
    obtain⟨O,rfl⟩:=(ac (hv.at 12 rfl (af.1 rfl)) (ac (hv.at 15 rfl (af.2.1 rfl)) az)).fC
    have hw:=(((((((hw.bP 2 hD).cH 2 (af.2.1 rfl)).bP 3 (nh ad hD 19)).bP 3 hD).bP 22 (nh ad hD 19)).bP 23 (nh ad hD 19)).bP 23 hD).yf (j:=23) (jj:=ai) su (default:cF) rfl cf
    have hw:=hw.freeze 3
    refine RL.app 0 3 hw zK ev fun c4 w hw=>?_
    have hw:=((((hw.pl 25 [1,2,3,0,5,6,7,8,9,10,11,12,13,14,15,16,17,18,19,20,21,22,23,24]).cI 2 true rfl (bif D 15 then (own 34 av ([ca]: (List aX))) else aW)).cI 3 true rfl aW).dY 3 (D 19) (nh ad hD 19) aW).dY 22 (D 19) (nh ad hD 19) (own 73 ak (us829.set (Int.toNat ai) {(us829.getD (Int.toNat ai) (default:cF)) with aS:=rv c4}))
    have hw:=(hw.cI 23 true rfl (gV bX us829 aj.1 none)).dY 23 (D 19) (nh ad hD 19) (gV bX (us829.set (Int.toNat ai) {(us829.getD (Int.toNat ai) (default:cF)) with aS:=rv c4}) (aj.1.set (Int.toNat ai) {b4 with aS:=bt}) none)
    exact RL.nil ⟨rfl,(aw,ax,av,c4),hv.pu 16,ha.u,zt,hw⟩
   ·rintro D U w hD af ad ⟨⟨aw,ax,av,al⟩,hv,ha,_,hw⟩
    obtain⟨O,rfl⟩:=(ac (hv.at 3 rfl (af.1 rfl)) (ac (hv.at 4 rfl (af.2.1 rfl)) az)).fC
    have hw:=hw.bP 22 (nf (fun h=>ft hD ((ad 18 _ rfl ((ad 19 _ rfl h).1 rfl)).1 rfl)))
    have hw:=hw.bP 23 (nf (fun h=>ft hD ((ad 18 _ rfl ((ad 19 _ rfl h).1 rfl)).1 rfl)))
    have hw:=hw.cH 23 (af.2.2.2.2.2.2.2.2.2.2.2.2.2.2.2.2.2.2.1 rfl)
    have hl910:=hw.fS 23
    have hr911:=iN (default:cF) hl910 cv
    refine RL.bY 22 hw zr zr IB hr911 ?_
    have hw:=hw.dY 22 (D 19) (nf (fun h=>ft hD ((ad 18 _ rfl ((ad 19 _ rfl h).1 rfl)).1 rfl))) (own 73 ak (us829.set (Int.toNat ai) {(us829.getD (Int.toNat ai) (default:cF)) with aS:=rv al}))
    have hw:=(hw.cI 23 (D 16) (af.2.2.2.2.2.2.2.2.2.2.2.2.2.2.2.2.2.2.1 rfl) (gV bX us829 aj.1 none)).dY 23 (D 19) (nf (fun h=>ft hD ((ad 18 _ rfl ((ad 19 _ rfl h).1 rfl)).1 rfl))) (gV bX (us829.set (Int.toNat ai) {(us829.getD (Int.toNat ai) (default:cF)) with aS:=rv al}) (aj.1.set (Int.toNat ai) {b4 with aS:=bt}) none)
    exact RL.nil ⟨rfl,(aw,ax,av,al),hv.pu 17,ha.u,zt,hw⟩
   ·rintro D U w hD af ad ⟨⟨aw,ax,av,al⟩,hv,ha,_,hw⟩
    obtain⟨O,rfl⟩:=(ac (hv.at 17 rfl (af.1 rfl)) az).fC
    have hw:=((hw.bP 22 (nh ad hD 19)).bP 23 (nh ad hD 19)).cH 23 (af.2.2.2.2.2.2.2.2.2.2.2.2.2.2.2.2.2.1 rfl)
    have hl912:=hw.fS 23
    have hr913:=iN (default:cF) hl912 cv
    refine RL.m4 (α:=cF) (kC 22 hw hr913 0) Dz ?_
    have hw:=(hw.dY 22 (D 19) (nh ad hD 19) (own 73 ak (us829.set (Int.toNat ai) {(us829.getD (Int.toNat ai) (default:cF)) with aS:=rv al}))).cI 23 (D 16) (af.2.2.2.2.2.2.2.2.2.2.2.2.2.2.2.2.2.1 rfl) (gV bX us829 aj.1 none)
    have hw:=hw.dY 23 (D 19) (nh ad hD 19) (gV bX (us829.set (Int.toNat ai) {(us829.getD (Int.toNat ai) (default:cF)) with aS:=rv al}) (aj.1.set (Int.toNat ai) {b4 with aS:=bt}) none)
    exact RL.nil ⟨rfl,(aw,ax,av,al),hv.pu 18,ha.u,zt,hw⟩
   ·rintro D U w hD af ad ⟨⟨aw,ax,av,al⟩,hv,ha,_,hw⟩
    obtain⟨O,rfl⟩:=(ac (hv.at 16 rfl (af.2.1 rfl)) (ac (hv.at 18 rfl (af.1 rfl)) az)).fC
    have hw:=((((hw.bP 3 hD).cH 3 (af.2.1 rfl)).bP 22 hD).bP 23 hD).cH 23 (af.2.1 rfl)
    have hl914:=hw.fS 23
    have hr915:=iN (default:cF) hl914 cv
    refine RL.qJ 22 23 3 ai su (default:cF) hw zr zr (kC 22 hw hr915 2) zr zr zr cv xK fun w hw=>?_
    have hw:=((hw.cI 3 true rfl (bif D 16 then (own 34 al bt) else aW)).cI 22 true rfl (own 73 ak us829)).cI 23 true rfl (bif D 16 then (gV bX us829 aj.1 (some (Int.toNat ai))) else (gV bX us829 aj.1 none))
    exact RL.nil ⟨rfl,(aw,ax,av,al),hv.n1,ha,zt,hw⟩
   rintro D U w a8 ⟨⟨aw,ax,av,al⟩,hv,ha,_,hw⟩
   have hw:=(((((hw.cH 0 (kD a8 13)).cH 1 (kD a8 14)).cH 2 (kD a8 16)).cH 3 (kD a8 19)).cH 22 (kD a8 19)).cH 23 (kD a8 19)
   obtain⟨O,rfl⟩:=(ac (ha.at 0 rfl) (ac (ha.at 1 rfl) (ac (ha.at 2 rfl) (ac (ha.at 3 rfl) (ac (ha.at 4 rfl) (ac (ha.at 5 rfl) (ac (ha.at 6 rfl) az))))))).fC
   obtain rfl:=oi hj
   exact⟨rfl,(us829.set (Int.toNat ai) {(us829.getD (Int.toNat ai) (default:cF)) with aS:=rv al}),hw.sp 24 [4,18,19,20,21,22,23,14,15,16,17,6]⟩
  rintro _ w ⟨us877,O,rfl,hw⟩
  refine aG ?_
  obtain⟨ez,e3,hb⟩:=bd hb
  obtain⟨e4,e5,hb⟩:=bd hb
  refine RC.Gf E V mixed [1,1,1,1,1,0,1,0,0,1,1,1,0,0,0,0,1,1,0,1,1,0] [7,8,13,14,15,18,21] (fun(x:Value×Value×Value×Value×Value)=>(fun a0 a2 a1 ar ay=>[(0,205,(vp b0 0)),(1,206,(vp b0 0)),(2,207,(vp b0 0)),(3,208,(vp b0 0)),(4,209,(vp b0 10)),(5,210,bm),(6,211,(vi bj.2)),(7,212,a0),(8,213,ar),(9,214,(vp b0 0)),(10,215,(vp b0 0)),(11,216,(vp b0 11)),(12,217,a7),(13,218,a2),(14,219,a1),(15,220,ay),(16,221,(vp b0 0)),(17,222,(vp b0 10)),(19,223,(vp b0 0)),(20,224,(vp b0 11))]) x.1 x.2.1 x.2.2.1 x.2.2.2.1 x.2.2.2.2) [(0,vp b0 0),(15,vp b9 0),(17,vi bj.2),(170,v0_3),(171,vi p0_3.length),(172,vi b3)] [] (fun(D:Nat->Bool) (x:Value×Value×Value×Value×Value)=>(fun a0 a2 a1 ar ay=>[bif D 1 then (rd a0 ([bj.2]: (List Int))) else (bif D 0 then (own 3 a0 ([bj.2]: (List Int))) else aW),bif D 2 then (rd a2 bb.1) else aW,bif D 4 then (rd a1 ([bb.1]: (List kb))) else (bif D 3 then (own 179 a1 ([bb.1]: (List kb))) else aW),bif D 6 then (bc 71 b0 [v0_0,v0_1,v0_2,v0_3,v0_4,v0_5,v0_6,ak,a4,a5,ar,ay]) else (bif D 5 then (bc 71 b0 [v0_0,v0_1,v0_2,v0_3,v0_4,v0_5,v0_6,ak,a4,a5,ar,a7]) else (bc 71 b0 [v0_0,v0_1,v0_2,v0_3,v0_4,v0_5,v0_6,ak,a4,a5,bm,a7])),rd v0_2 p0_2,rd v0_3 p0_3,rd v0_5 p0_5,rd v0_6 p0_6,own 73 ak us877,gV bX us877 bj.1 none,rd a4 aj.2.1,rd a5 aj.2.2.1,bif D 1 then (own 3 ar ez) else (own 3 bm aj.2.2.2.1),bif D 4 then (own 179 ay e4) else (own 179 a7 aj.2.2.2.2),bx 179 b9 bb.1]) x.1 x.2.1 x.2.2.1 x.2.2.2.1 x.2.2.2.2) (fun x=>by kernel_rfl) ?_ ⟨fun _=>jZ gn,fun _=>jZ gn,fun _=>jZ gn,fun _=>AL gn,fun _=>pF gn yC,?_,fun _=>jZ gn,?_,?_,fun _=>jZ gn,fun _=>AL gn,fun _=>pF gn G9,?_,?_,?_,?_,fun _=>AL gn,fun _=>pF gn yC,?_,fun _=>AL gn,fun _=>pF gn G9,?_,trivial⟩ ?_
  ·have hw:=(((hw.drew).aW).aW).aW
   exact⟨(undef,undef,undef,undef,undef),eB.none,(Et zr),zt,hw⟩
  ·rintro D U w hD af ad ⟨⟨a0,a2,a1,ar,ay⟩,hv,ha,_,hw⟩
   obtain⟨O,rfl⟩:=(ac (hv.at 4 rfl (af.1 rfl)) az).fC
   have hw:=(hw.bP 3 (nh ad hD 21)).bP 3 (nh ad hD 18)
   refine RL.bV 3 bm hw fU ?_
   have hw:=(hw.dY 3 (D 18) (nh ad hD 18) (bc 71 b0 [v0_0,v0_1,v0_2,v0_3,v0_4,v0_5,v0_6,ak,a4,a5,ar,a7])).dY 3 (D 21) (nh ad hD 21) (bc 71 b0 [v0_0,v0_1,v0_2,v0_3,v0_4,v0_5,v0_6,ak,a4,a5,ar,ay])
   exact RL.nil ⟨rfl,(a0,a2,a1,ar,ay),hv.pu 5,ha.u,zt,hw⟩
  ·rintro D U w hD af ad ⟨⟨a0,a2,a1,ar,ay⟩,hv,ha,_,hw⟩
   obtain⟨O,rfl⟩:=(ac (hv.at 6 rfl (af.1 rfl)) az).fC
   have hw:=((hw.bP 0 (nh ad hD 8)).bP 0 hD).sc Int bj.2
   refine RL.eF ([bj.2]: (List Int)) hw [(vi bj.2)] fV H5 (fun M hs g=>⟨(g.sat 0 _ zr).1,zt⟩) fun dq w hw=>?_
   have hw:=((hw.pl 17 [0,3,4,5,6,7,8,9,10,11,12,13,14,15,16]).cI 0 true rfl aW).dY 0 (D 8) (nh ad hD 8) (rd dq ([bj.2]: (List Int)))
   exact RL.nil ⟨rfl,(dq,a2,a1,ar,ay),hv.pu 7,ha.u,zt,hw⟩
  ·rintro D U w hD af ad ⟨⟨a0,a2,a1,ar,ay⟩,hv,ha,_,hw⟩
   obtain⟨O,rfl⟩:=(ac (hv.at 5 rfl (af.1 rfl)) (ac (hv.at 7 rfl (af.2.1 rfl)) az)).fC
   have hw:=(((((hw.bP 0 hD).cH 0 (af.2.1 rfl)).bP 3 (nh ad hD 21)).bP 3 (nh ad hD 18)).bP 12 hD).freeze 0
   refine RL.app 12 0 hw wL e3 fun c5 w hw=>?_
   have hw:=((hw.cI 0 true rfl (bif D 7 then (own 3 a0 ([bj.2]: (List Int))) else aW)).dY 3 (D 18) (nh ad hD 18) (bc 71 b0 [v0_0,v0_1,v0_2,v0_3,v0_4,v0_5,v0_6,ak,a4,a5,c5,a7])).dY 3 (D 21) (nh ad hD 21) (bc 71 b0 [v0_0,v0_1,v0_2,v0_3,v0_4,v0_5,v0_6,ak,a4,a5,c5,ay])
   have hw:=hw.cI 12 true rfl (own 3 bm aj.2.2.2.1)
   exact RL.nil ⟨rfl,(a0,a2,a1,c5,ay),hv.pu 8,ha.u,zt,hw⟩
  ·rintro D U w hD af ad ⟨⟨a0,a2,a1,ar,ay⟩,hv,ha,_,hw⟩
   obtain⟨O,rfl⟩:=(ac (hv.at 11 rfl (af.1 rfl)) az).fC
   have hw:=(hw.bP 3 (nh ad hD 21)).bP 3 (nh ad hD 18)
   refine RL.bV 3 a7 hw Ll ?_
   have hw:=(hw.dY 3 (D 18) (nh ad hD 18) (bc 71 b0 [v0_0,v0_1,v0_2,v0_3,v0_4,v0_5,v0_6,ak,a4,a5,ar,a7])).dY 3 (D 21) (nh ad hD 21) (bc 71 b0 [v0_0,v0_1,v0_2,v0_3,v0_4,v0_5,v0_6,ak,a4,a5,ar,ay])
   exact RL.nil ⟨rfl,(a0,a2,a1,ar,ay),hv.pu 12,ha.u,zt,hw⟩
  ·rintro D U w hD af ad ⟨⟨a0,a2,a1,ar,ay⟩,hv,ha,_,hw⟩
   obtain⟨O,rfl⟩:=(ac (ha.at 1 rfl) az).fC
   have hw:=hw.bP 1 hD
   refine RL.aN (f:=(fun x=>x)) 14 hw zr Fd.self vG fun e6 hw=>?_
   have hw:=(hw.pl 16 [1,0,3,4,5,6,7,8,9,10,11,12,13,14,15]).cI 1 true rfl aW
   exact RL.nil ⟨rfl,(a0,e6,a1,ar,ay),hv.pu 13,ha.u,zt,hw⟩
  ·rintro D U w hD af ad ⟨⟨a0,a2,a1,ar,ay⟩,hv,ha,_,hw⟩
   obtain⟨O,rfl⟩:=(ac (hv.at 13 rfl (af.1 rfl)) az).fC
   have hw:=((hw.cH 1 (af.1 rfl)).bP 2 (nh ad hD 15)).bP 2 hD
   refine RL.eF ([bb.1]: (List kb)) hw [a2] M3 G7 (fun M hs g=>⟨(g.sat 1 _ zr).1,zt⟩) fun dr w hw=>?_
   have hw:=(((hw.pl 16 [1,2,0,4,5,6,7,8,9,10,11,12,13,14,15]).cI 1 (D 13) (af.1 rfl) aW).cI 2 true rfl aW).dY 2 (D 15) (nh ad hD 15) (rd dr ([bb.1]: (List kb)))
   exact RL.nil ⟨rfl,(a0,a2,dr,ar,ay),hv.pu 14,ha.u,zt,hw⟩
  ·rintro D U w hD af ad ⟨⟨a0,a2,a1,ar,ay⟩,hv,ha,_,hw⟩
   obtain⟨O,rfl⟩:=(ac (hv.at 12 rfl (af.1 rfl)) (ac (hv.at 14 rfl (af.2.1 rfl)) az)).fC
   have hw:=(((((hw.bP 2 hD).cH 2 (af.2.1 rfl)).bP 3 (nh ad hD 21)).bP 3 (nh ad hD 18)).bP 13 hD).freeze 2
   refine RL.app 13 2 hw M4 e5 fun ds w hw=>?_
   have hw:=((hw.cI 2 true rfl (bif D 14 then (own 179 a1 ([bb.1]: (List kb))) else aW)).dY 3 (D 18) (nh ad hD 18) (bc 71 b0 [v0_0,v0_1,v0_2,v0_3,v0_4,v0_5,v0_6,ak,a4,a5,ar,a7])).dY 3 (D 21) (nh ad hD 21) (bc 71 b0 [v0_0,v0_1,v0_2,v0_3,v0_4,v0_5,v0_6,ak,a4,a5,ar,ds])
   have hw:=hw.cI 13 true rfl (own 179 a7 aj.2.2.2.2)
   exact RL.nil ⟨rfl,(a0,a2,a1,ar,ds),hv.pu 15,ha.u,zt,hw⟩
  ·rintro D U w hD af ad ⟨⟨a0,a2,a1,ar,ay⟩,hv,ha,_,hw⟩
   obtain⟨O,rfl⟩:=(ac (hv.at 8 rfl (af.2.1 rfl)) (ac (hv.at 17 rfl (af.1 rfl)) az)).fC
   have hw:=((hw.bP 3 (nh ad hD 21)).bP 3 hD).cH 12 (af.2.1 rfl)
   refine RL.jS 3 ar hw zr zr (ki 12 hw) fU fun w hw=>?_
   have hw:=((hw.cI 3 true rfl (bc 71 b0 [v0_0,v0_1,v0_2,v0_3,v0_4,v0_5,v0_6,ak,a4,a5,bm,a7])).dY 3 (D 21) (nh ad hD 21) (bc 71 b0 [v0_0,v0_1,v0_2,v0_3,v0_4,v0_5,v0_6,ak,a4,a5,ar,ay])).cI 12 (D 8) (af.2.1 rfl) (own 3 bm aj.2.2.2.1)
   exact RL.nil ⟨rfl,(a0,a2,a1,ar,ay),hv.n1,ha,zt,hw⟩
  ·rintro D U w hD af ad ⟨⟨a0,a2,a1,ar,ay⟩,hv,ha,_,hw⟩
   obtain⟨O,rfl⟩:=(ac (hv.at 15 rfl (af.2.1 rfl)) (ac (hv.at 19 rfl (af.1 rfl)) az)).fC
   have hw:=((hw.bP 3 hD).cH 3 (af.2.2.1 rfl)).cH 13 (af.2.1 rfl)
   refine RL.jS 3 ay hw zr zr (ki 13 hw) Ll fun w hw=>?_
   have hw:=(hw.cI 3 true rfl (bif D 18 then (bc 71 b0 [v0_0,v0_1,v0_2,v0_3,v0_4,v0_5,v0_6,ak,a4,a5,ar,a7]) else (bc 71 b0 [v0_0,v0_1,v0_2,v0_3,v0_4,v0_5,v0_6,ak,a4,a5,bm,a7]))).cI 13 (D 15) (af.2.1 rfl) (own 179 a7 aj.2.2.2.2)
   exact RL.nil ⟨rfl,(a0,a2,a1,ar,ay),hv.n1,ha,zt,hw⟩
  rintro D U w a8 ⟨⟨a0,a2,a1,ar,ay⟩,hv,ha,_,hw⟩
  have hw:=(((((hw.cH 0 (kD a8 8)).cH 1 (kD a8 13)).cH 2 (kD a8 15)).cH 3 (kD a8 21)).cH 12 (kD a8 8)).cH 13 (kD a8 15)
  obtain⟨O,rfl⟩:=(ac (ha.at 0 rfl) (ac (ha.at 1 rfl) (ac (ha.at 2 rfl) (ac (ha.at 3 rfl) (ac (ha.at 4 rfl) (ac (ha.at 5 rfl) az)))))).fC
  refine bO (aG (RC.region (RL.inc hk hm (mv (vi ((b3+1:Nat):Int)) (RL.nil ?_)))))
  obtain rfl:=oi hb
  exact⟨rfl,a4,a5,ar,ay,us877,hw.sp 15 [3,10,11,12,13,4,5,6,7,8,9]⟩
 rintro _ w ⟨cq,cr,ct,cu,us824,O,rfl,hw⟩
 obtain rfl:=oi hb
 have hw:=hw.xU (X:=bX) (b:=10) (j:=9) rfl (fun M h u x cs=>AX M h u x cs) rfl rfl (by decide)
 refine Ed ?_
 exact Jw zr ⟨ak,cq,cr,ct,cu,zr,hw.pk 11 [0,9,1,2,3,4]⟩
def pN (E:World) (V:List HP) (r:Option ((List (List aJ))×(List aJ)×(List cN)×(List eQ)×(List (List aA))×(List aI)×(List (List Int))×(List bJ)×(List Int)×(List Int)×(List Int)×(List kb))×Int) (U:Nat->Value) (w:World):Prop:=mu bB 112 Tryz.f21 (pJ E V r) .ret U w
theorem sX {p0:kr} {res:Option ((List (List aJ))×(List aJ)×(List cN)×(List eQ)×(List (List aA))×(List aI)×(List (List Int))×(List bJ)×(List Int)×(List Int)×(List Int)×(List kb))×Int} (j:Holds E w V) (h0:V[i0]? =some (rd v0 p0)) (o:gF N p0=some res):
    Calls bB 21 [v0].toArray w (gr (pJ E V res)):=by
 unfold gF at o
 refine enter Tryz.func21 zr zr ?_
 have j:=j.dup (i0+0) h0
 refine RC.sr (RL.cQ 0 v0 j zr fun ao w j=>?_)
 refine aM (.pointer none) (aM (vi 0) (RL.nq (RC.sr (RL.bH zr wK (RL.aN 0 j zr p5 Fb fun c2 j=>(RL.bF 0 p0.aO j Co (ic ((p0.aO.length:Int)) 0 (RL.nt ?_))))))))
 refine eH o (fun hc o=>?_) fun hc o=>?_
 ·refine RC.sr (aM (.pointer none) (aM (vi 9) (RL.nt (RC.rt ?_))))
  obtain rfl:=oi o
  exact oz ⟨rfl,j.drop 3⟩
 refine RC.ss (RC.sr (RL.bH zr wK (RL.aN 1 j zr p5 Fb fun c3 j=>(RL.bF 0 p0.aO j Co (ic ((p0.aO.length:Int)) 16 (RL.nt (eH o (fun hc o=>?_) fun hc o=>?_)))))))
 ·refine RC.sr (aM (.pointer none) (aM (vi 2) (RL.nt (RC.rt ?_))))
  obtain rfl:=oi o
  exact oz ⟨rfl,j.drop 4⟩
 refine RC.sx (RL.bH zr GW (RL.aN 2 j zr yr A1 fun c4 j=>(RL.bF 0 p0.eC j sB (aM (vi p0.eC.length) (RL.nq (RC.sr (RL.bH zr wK (RL.aN 3 j zr p5 Fb fun bp j=>?_))))))))
 refine RL.bF 0 p0.aO j Co (mv (vi 0) (RL.nt ?_))
 obtain⟨c5,hN,o⟩:=bd o
 refine RC.range (fun(bk:Nat) (ay:Int)=>SH E V [(1,vp ao 0),(4,vi ay),(28,bp),(29,vi p0.aO.length),(30,vi bk)] [bx 32 ao p0,rd bp p0.aO]) (fun(ay:Int)=>SH E V [(1,vp ao 0),(4,vi ay)] [bx 32 ao p0,rd bp p0.aO]) (pN E V) hN ?_ ?_ ?_ ?_ ?_
 ·exact j.sp 6 [4,0]
 ·rintro hm ay _ w ⟨O,rfl,j⟩
  refine RC.sr (ic ((p0.aO.length:Int)) ((p0.aO.length:Int)) (RL.nq (RC.cP mz (RC.ex ?_))))
  exact⟨rfl,j.sp 2 [0,1]⟩
 ·rintro hm bk ay fl _ w hk ⟨O,rfl,j⟩ o
  refine RC.sr (ic ((bk:Int)) ((p0.aO.length:Int)) (RL.nq (RC.cO (my hk) (RC.ss (RC.bs ?_)))))
  obtain⟨bl,bz,o⟩:=bd o
  refine RL.cA 1 j Fc bz fun c6 j=>(RL.bC 0 bl j A1 fun bm j=>(aM bm (RL.nq (RC.sr (mv bm ?_)))))
  obtain⟨a8,b0,o⟩:=bd o
  refine RL.call zt zr KW [bm] zr (aF (nF N (i0:=0) j zr b0) ?_)
  rintro _ w ⟨rfl,j⟩
  refine aM (vi a8) (RL.ns (mv (vi a8) (ic a8 0 (RL.nt (eH o (fun hc o=>?_) fun hc o=>?_)))))
  ·refine RC.sr (mv (vi a8) (aM (.pointer none) (aM (vi a8) (RL.nt (RC.rt (iA (bN ?_)))))))
   obtain rfl:=oi o
   exact⟨rfl,oz ⟨rfl,j.drop 4⟩⟩
  refine RC.sn (RC.region (mv (vi ay) (mv bm (RL.bF 0 bl j sB (RL.jQ ay (bl.length:Int) (aM (vi (IntKind.wrap .i64 (ay+ (bl.length:Int)))) (RL.nil (bO ?_))))))))
  refine aG (RC.region (RL.inc hk hm (mv (vi ((bk+1:Nat):Int)) (RL.nil ?_))))
  obtain rfl:=oi o
  exact⟨rfl,j.sp 4 [2,3]⟩
 ·intro r U w e hK
  subst e
  refine bN ?_
  obtain rfl:=oi o
  exact hK
 rintro ay _ w rfl ⟨O,rfl,j⟩
 rw [Fo.fW] at o
 refine aG (RC.seq (RC.sr (RL.bH zr GW (RL.aN 0 j zr yr A1 fun b1 j=>?_))))
 obtain⟨ba,b2,o⟩:=bd o
 refine RL.call zt zr KW [b1] zr (aF (nF N (i0:=0) j zr b2) ?_)
 rintro _ w ⟨rfl,j⟩
 refine aM (vi ba) (RL.ns (mv (vi ba) (ic ba 0 (RL.nt (eH o (fun hc o=>?_) fun hc o=>?_)))))
 ·refine RC.sr (mv (vi ba) (aM (.pointer none) (aM (vi ba) (RL.nt (RC.rt ?_)))))
  obtain rfl:=oi o
  exact oz ⟨rfl,j.drop 3⟩
 refine RC.ss (RC.sr (mv (vi ay) (ic ay 2000 (RL.nt (eH o (fun hc o=>?_) fun hc o=>?_)))))
 ·refine RC.sr (aM (.pointer none) (aM (vi 2) (RL.nt (RC.rt ?_))))
  obtain rfl:=oi o
  exact oz ⟨rfl,j.drop 3⟩
 refine RC.ss (RC.sr (RL.aN (f:=(fun x=>x)) 1 j zr Fd.self wI fun b3 j=>?_))
 obtain⟨bb,b4,o⟩:=bd o
 refine RL.call zt zr ML [b3] zr (aF (sP N (i0:=0) j zr b4) ?_)
 rintro _ w ⟨rfl,j⟩
 refine aM (vi bb) (RL.ns (mv (vi bb) (ic bb 0 (RL.nt (eH o (fun hc o=>?_) fun hc o=>?_)))))
 ·refine RC.sr (mv (vi bb) (aM (.pointer none) (aM (vi bb) (RL.nt (RC.rt ?_)))))
  obtain rfl:=oi o
  exact oz ⟨rfl,j.drop 4⟩
 refine RC.ss (RC.sr (RL.aN (f:=(fun x=>x)) 2 j zr Fd.self wI fun b5 j=>?_))
 obtain⟨bc,b6,o⟩:=bd o
 refine RL.call zt zr MM [b5] zr (aF (sQ N (i0:=0) j zr b6) ?_)
 rintro _ w ⟨rfl,j⟩
 refine aM (vi bc) (RL.ns (mv (vi bc) (ic bc 0 (RL.nt (eH o (fun hc o=>?_) fun hc o=>?_)))))
 ·refine RC.sr (mv (vi bc) (aM (.pointer none) (aM (vi bc) (RL.nt (RC.rt ?_)))))
  obtain rfl:=oi o
  exact oz ⟨rfl,j.drop 5⟩
 refine RC.ss (RC.sr (RL.bH zr pI (RL.aN 3 j zr sq zJ fun av j=>(RL.bF 0 p0.bL j A2 (mv (vi 0) (RL.nt ?_))))))
 obtain⟨c7,hN,o⟩:=bd o
 refine RC.range (fun(ax:Nat) (bn:Unit)=>SH E V [(1,vp ao 0),(63,av),(64,vi p0.bL.length),(65,vi ax)] [bx 32 ao p0,rd av p0.bL]) (fun(bn:Unit)=>SH E V [(1,vp ao 0)] [bx 32 ao p0,rd av p0.bL]) (pN E V) hN ?_ ?_ ?_ ?_ ?_
 ·exact j.sp 6 [4,0]
 ·rintro hm bn _ w ⟨O,rfl,j⟩
  refine RC.sr (ic ((p0.bL.length:Int)) ((p0.bL.length:Int)) (RL.nq (RC.cP mz (RC.ex ?_))))
  exact⟨rfl,j.sp 2 [0,1]⟩
 ·rintro hm ax bn fl _ w hk ⟨O,rfl,j⟩ o
  refine RC.sr (ic ((ax:Int)) ((p0.bL.length:Int)) (RL.nq (RC.cO (my hk) (RC.ss (RC.bs (mv (vi ax) ?_))))))
  obtain⟨ad,b7,o⟩:=bd o
  refine RL.cA 1 j Cq b7 fun c8 j=>(RL.bC 0 ad j oY fun c9 j=>(RL.alloc j Fh.z fun an w j=>?_))
  refine aM (vi ax) (RL.bD 0 j 1 zr oY fun w j=>?_)
  refine RL.ns (RL.bH zr pI (RL.aN 3 j zr sq zJ fun da j=>(mv (vi ax) ?_)))
  obtain⟨aw,b8,o⟩:=bd o
  refine RL.cut (hl:= .inr ⟨rfl,zr⟩) 0 j Cq (.inl zr) b8 fun a2 j=>(RL.bF 0 aw j A2 (mv (vi 0) (RL.nt ?_)))
  obtain⟨db,hN,o⟩:=bd o
  refine RC.range (fun(a5:Nat) (bo:Unit)=>SH E V [(1,vp ao 0),(12,vp an 0),(63,av),(64,vi p0.bL.length),(65,vi ax),(73,a2),(74,vi aw.length),(75,vi a5)] [bx 32 ao p0,bx 87 an ad,rd av p0.bL,rd a2 aw]) (fun(bo:Unit)=>SH E V [(1,vp ao 0),(63,av),(64,vi p0.bL.length),(65,vi ax)] [bx 32 ao p0,bx 87 an ad,rd av p0.bL,rd a2 aw]) (pN E V) hN ?_ ?_ ?_ ?_ ?_
  ·exact j.sp 7 [5,2,6,0]
  ·rintro hm bo _ w ⟨O,rfl,j⟩
   refine RC.sr (ic ((aw.length:Int)) ((aw.length:Int)) (RL.nq (RC.cP mz (RC.ex ?_))))
   exact⟨rfl,j.sp 4 [0,1,2,3]⟩
  ·rintro hm a5 bo fl _ w hk ⟨O,rfl,j⟩ o
   refine RC.sr (ic ((a5:Int)) ((aw.length:Int)) (RL.nq (RC.cO (my hk) (RC.ss (RC.bs ?_)))))
   obtain⟨ab,b9,o⟩:=bd o
   refine RL.cA 3 j Cq b9 fun bu j=>(RL.bC 0 ab j oY fun bw j=>(RL.alloc j Fh.z fun au w j=>?_))
   refine RL.bD 0 j 1 zr oY fun w j=>?_
   refine RL.nq ?_
   obtain⟨bq,hj,o⟩:=bd o
   refine RC.jn (fun(bq:Bool)=>SH E V [(1,vp ao 0),(12,vp an 0),(63,av),(64,vi p0.bL.length),(65,vi ax),(73,a2),(74,vi aw.length),(75,vi a5),(98,vb bq)] [bx 32 ao p0,bx 87 an ad,rd av p0.bL,rd a2 aw]) bq ?_ ?_
   ·refine gZ hj (fun ar hj=>?_) fun ar hj=>?_
    rotate_left
    ·refine RC.Gf E V mixed [1,0,1,0,1,1,0,0,0,0,0,0,1,1,1,1,1,1,1,1] [] (fun(x:Unit)=>[(0,79,(vp an 3)),(1,80,(vi ad.dD)),(2,81,(vp au 4)),(3,82,(vi ab.To)),(4,83,(vb (decide (ad.dD<=ab.To)))),(5,84,(vb (decide (ad.dD<=ab.To)))),(6,85,(cv (true&&((decide (ad.dD<=ab.To))==true)) (vp au 3))),(7,86,(cv (true&&((decide (ad.dD<=ab.To))==true)) (vi ab.dD))),(8,87,(cv (true&&((decide (ad.dD<=ab.To))==true)) (vp an 4))),(9,88,(cv (true&&((decide (ad.dD<=ab.To))==true)) (vi ad.To))),(10,89,(cv (true&&((decide (ad.dD<=ab.To))==true)) (vb (decide (ab.dD<=ad.To))))),(11,90,(vb ((decide (ad.dD<=ab.To))&&(decide (ab.dD<=ad.To))))),(12,91,(vb ((decide (ad.dD<=ab.To))&&(decide (ab.dD<=ad.To))))),(13,92,undef),(14,93,undef),(15,94,undef),(16,95,undef),(17,96,undef),(18,97,undef),(19,98,(vb false))]) [(1,vp ao 0),(12,vp an 0),(14,vp au 0),(63,av),(64,vi p0.bL.length),(65,vi ax),(73,a2),(74,vi aw.length),(75,vi a5)] [] (fun(D:Nat->Bool) (x:Unit)=>[bx 87 au ab,rd bw ab,pt bu ab,bx 32 ao p0,bx 87 an ad,rd av p0.bL,rd a2 aw]) (fun x=>by kernel_rfl) ?_ ⟨fun _=>pF gn uJ,?_,fun _=>pF gn wM,?_,fun _=>JK gn rfl,fun _=>jZ gn,?_,?_,?_,?_,?_,?_,fun _=>jZ gn,fun _=>E5 ar,fun _=>E5 ar,fun _=>E5 ar,fun _=>E5 ar,fun _=>E5 ar,fun _=>E5 ar,fun _=>Mc gn ar rfl,trivial⟩ ?_
     ·have j:=j.drew
      exact⟨(),eB.none,(Et zr),zt,j⟩
     ·rintro D U w hD af al ⟨_,hv,ha,_,j⟩
      obtain⟨O,rfl⟩:=(ac (hv.at 0 rfl (af.1 rfl)) az).fC
      refine RL.aP 4 j zr m6 dE ?_
      exact RL.nil ⟨rfl,(),hv.pu 1,ha.u,zt,j⟩
     ·rintro D U w hD af al ⟨_,hv,ha,_,j⟩
      obtain⟨O,rfl⟩:=(ac (hv.at 2 rfl (af.1 rfl)) az).fC
      refine RL.aP 0 j zr ou dE ?_
      exact RL.nil ⟨rfl,(),hv.pu 3,ha.u,zt,j⟩
     ·rintro D U w hD af al ⟨_,hv,ha,_,j⟩
      obtain⟨O,rfl⟩:=(ac (hv.at 5 rfl (af.1 rfl)) (ac (ha.at 2 rfl) az)).fC
      refine RL.gs true (decide (ad.dD<=ab.To)) (vp au 3) zr zr zr (fA uJ) ?_
      exact RL.nil ⟨rfl,(),hv.pu 6,ha.u,zt,j⟩
     ·rintro D U w hD af al ⟨_,hv,ha,_,j⟩
      obtain⟨O,rfl⟩:=(ac (hv.at 5 rfl (af.2.1 rfl)) (ac (hv.at 6 rfl (af.1 rfl)) az)).fC
      refine RL.gs true (decide (ad.dD<=ab.To)) (vi ab.dD) rfl rfl rfl (cL 0 rfl j (fun h=>by exact(dI h:cv (true&&((decide (ad.dD<=ab.To))==true)) (vp au 3)= (vp au 3))) rfl m6 dE) ?_
      exact RL.nil ⟨rfl,(),hv.pu 7,ha.u,zt,j⟩
     ·rintro D U w hD af al ⟨_,hv,ha,_,j⟩
      obtain⟨O,rfl⟩:=(ac (hv.at 5 rfl (af.1 rfl)) (ac (ha.at 1 rfl) az)).fC
      refine RL.gs true (decide (ad.dD<=ab.To)) (vp an 4) zr zr zr (fA wM) ?_
      exact RL.nil ⟨rfl,(),hv.pu 8,ha.u,zt,j⟩
     ·rintro D U w hD af al ⟨_,hv,ha,_,j⟩
      obtain⟨O,rfl⟩:=(ac (hv.at 5 rfl (af.2.1 rfl)) (ac (hv.at 8 rfl (af.1 rfl)) az)).fC
      refine RL.gs true (decide (ad.dD<=ab.To)) (vi ad.To) rfl rfl rfl (cL 4 rfl j (fun h=>by exact(dI h:cv (true&&((decide (ad.dD<=ab.To))==true)) (vp an 4)= (vp an 4))) rfl ou dE) ?_
      exact RL.nil ⟨rfl,(),hv.pu 9,ha.u,zt,j⟩
     ·rintro D U w hD af al ⟨_,hv,ha,_,j⟩
      obtain⟨O,rfl⟩:=(ac (hv.at 5 rfl (af.2.2.1 rfl)) (ac (hv.at 7 rfl (af.1 rfl)) (ac (hv.at 9 rfl (af.2.1 rfl)) az))).fC
      refine RL.gs true (decide (ad.dD<=ab.To)) (vb (decide (ab.dD<=ad.To))) rfl rfl rfl (eM .leq .i64 ab.dD ad.To rfl (fun h=>by exact(dI h:cv (true&&((decide (ad.dD<=ab.To))==true)) (vi ab.dD)= (vi ab.dD))) (fun h=>by exact(dI h:cv (true&&((decide (ad.dD<=ab.To))==true)) (vi ad.To)= (vi ad.To))) rfl) ?_
      exact RL.nil ⟨rfl,(),hv.pu 10,ha.u,zt,j⟩
     ·rintro D U w hD af al ⟨_,hv,ha,_,j⟩
      obtain⟨O,rfl⟩:=(ac (hv.at 5 rfl (af.1 rfl)) (ac (hv.at 10 rfl (af.2.1 rfl)) az)).fC
      refine RL.pick (decide (ad.dD<=ab.To)) (vb ((decide (ad.dD<=ab.To))&&(decide (ab.dD<=ad.To)))) (kg true) ?_
      exact RL.nil ⟨rfl,(),hv.pu 11,ha.u,zt,j⟩
     rintro D U w a6 ⟨_,hv,ha,_,j⟩
     obtain⟨O,rfl⟩:=(ac (hv.at 19 rfl (kD a6 19)) (ac (ha.at 0 rfl) (ac (ha.at 1 rfl) (ac (ha.at 2 rfl) (ac (ha.at 3 rfl) (ac (ha.at 4 rfl) (ac (ha.at 5 rfl) (ac (ha.at 6 rfl) (ac (ha.at 7 rfl) (ac (ha.at 8 rfl) az)))))))))).fC
     obtain rfl:=oi hj
     exact⟨rfl,j.sp 7 [3,4,5,6]⟩
    obtain⟨ca,cb,hj⟩:=bd hj
    obtain⟨cc,cd,hj⟩:=bd hj
    obtain⟨br,cf,hj⟩:=bd hj
    refine RC.Gf E V mixed [1,0,1,0,1,1,0,0,0,0,0,0,1,0,0,0,0,0,1,1] [13,14,15,16] (fun(x:Value×Value×Value×Value)=>(fun ag ah ai aj=>[(0,79,(vp an 3)),(1,80,(vi ad.dD)),(2,81,(vp au 4)),(3,82,(vi ab.To)),(4,83,(vb (decide (ad.dD<=ab.To)))),(5,84,(vb (decide (ad.dD<=ab.To)))),(6,85,(cv (true&&((decide (ad.dD<=ab.To))==true)) (vp au 3))),(7,86,(cv (true&&((decide (ad.dD<=ab.To))==true)) (vi ab.dD))),(8,87,(cv (true&&((decide (ad.dD<=ab.To))==true)) (vp an 4))),(9,88,(cv (true&&((decide (ad.dD<=ab.To))==true)) (vi ad.To))),(10,89,(cv (true&&((decide (ad.dD<=ab.To))==true)) (vb (decide (ab.dD<=ad.To))))),(11,90,(vb ((decide (ad.dD<=ab.To))&&(decide (ab.dD<=ad.To))))),(12,91,(vb ((decide (ad.dD<=ab.To))&&(decide (ab.dD<=ad.To))))),(13,92,ag),(14,93,ah),(15,94,ai),(16,95,aj),(17,96,(vi br)),(18,97,(vb (br==0))),(19,98,(vb (br==0)))]) x.1 x.2.1 x.2.2.1 x.2.2.2) [(1,vp ao 0),(12,vp an 0),(14,vp au 0),(63,av),(64,vi p0.bL.length),(65,vi ax),(73,a2),(74,vi aw.length),(75,vi a5)] [] (fun(D:Nat->Bool) (x:Value×Value×Value×Value)=>(fun ag ah ai aj=>[bif D 0 then (rd ag ad) else aW,bif D 1 then (rd ah ca) else aW,bif D 2 then (rd ai ab) else aW,bif D 3 then (rd aj cc) else aW,bx 87 au ab,rd bw ab,pt bu ab,bx 32 ao p0,bx 87 an ad,rd av p0.bL,rd a2 aw]) x.1 x.2.1 x.2.2.1 x.2.2.2) (fun x=>by kernel_rfl) ?_ ⟨fun _=>pF gn uJ,?_,fun _=>pF gn wM,?_,fun _=>JK gn rfl,fun _=>jZ gn,?_,?_,?_,?_,?_,?_,fun _=>jZ gn,?_,?_,?_,?_,?_,fun _=>JK (gy ar rfl) rfl,fun _=>Mb gn ar rfl,trivial⟩ ?_
    ·have j:=((((j.drew).aW).aW).aW).aW
     exact⟨(undef,undef,undef,undef),eB.none,(Et zr),zt,j⟩
    ·rintro D U w hD af al ⟨⟨ag,ah,ai,aj⟩,hv,ha,_,j⟩
     obtain⟨O,rfl⟩:=(ac (hv.at 0 rfl (af.1 rfl)) az).fC
     refine RL.aP 8 j zr m6 dE ?_
     exact RL.nil ⟨rfl,(ag,ah,ai,aj),hv.pu 1,ha.u,zt,j⟩
    ·rintro D U w hD af al ⟨⟨ag,ah,ai,aj⟩,hv,ha,_,j⟩
     obtain⟨O,rfl⟩:=(ac (hv.at 2 rfl (af.1 rfl)) az).fC
     refine RL.aP 4 j zr ou dE ?_
     exact RL.nil ⟨rfl,(ag,ah,ai,aj),hv.pu 3,ha.u,zt,j⟩
    ·rintro D U w hD af al ⟨⟨ag,ah,ai,aj⟩,hv,ha,_,j⟩
     obtain⟨O,rfl⟩:=(ac (hv.at 5 rfl (af.1 rfl)) (ac (ha.at 2 rfl) az)).fC
     refine RL.gs true (decide (ad.dD<=ab.To)) (vp au 3) zr zr zr (fA uJ) ?_
     exact RL.nil ⟨rfl,(ag,ah,ai,aj),hv.pu 6,ha.u,zt,j⟩
    ·rintro D U w hD af al ⟨⟨ag,ah,ai,aj⟩,hv,ha,_,j⟩
     obtain⟨O,rfl⟩:=(ac (hv.at 5 rfl (af.2.1 rfl)) (ac (hv.at 6 rfl (af.1 rfl)) az)).fC
     refine RL.gs true (decide (ad.dD<=ab.To)) (vi ab.dD) rfl rfl rfl (cL 4 rfl j (fun h=>by exact(dI h:cv (true&&((decide (ad.dD<=ab.To))==true)) (vp au 3)= (vp au 3))) rfl m6 dE) ?_
     exact RL.nil ⟨rfl,(ag,ah,ai,aj),hv.pu 7,ha.u,zt,j⟩
    ·rintro D U w hD af al ⟨⟨ag,ah,ai,aj⟩,hv,ha,_,j⟩
     obtain⟨O,rfl⟩:=(ac (hv.at 5 rfl (af.1 rfl)) (ac (ha.at 1 rfl) az)).fC
     refine RL.gs true (decide (ad.dD<=ab.To)) (vp an 4) zr zr zr (fA wM) ?_
     exact RL.nil ⟨rfl,(ag,ah,ai,aj),hv.pu 8,ha.u,zt,j⟩
    ·rintro D U w hD af al ⟨⟨ag,ah,ai,aj⟩,hv,ha,_,j⟩
     obtain⟨O,rfl⟩:=(ac (hv.at 5 rfl (af.2.1 rfl)) (ac (hv.at 8 rfl (af.1 rfl)) az)).fC
     refine RL.gs true (decide (ad.dD<=ab.To)) (vi ad.To) rfl rfl rfl (cL 8 rfl j (fun h=>by exact(dI h:cv (true&&((decide (ad.dD<=ab.To))==true)) (vp an 4)= (vp an 4))) rfl ou dE) ?_
     exact RL.nil ⟨rfl,(ag,ah,ai,aj),hv.pu 9,ha.u,zt,j⟩
    ·rintro D U w hD af al ⟨⟨ag,ah,ai,aj⟩,hv,ha,_,j⟩
     obtain⟨O,rfl⟩:=(ac (hv.at 5 rfl (af.2.2.1 rfl)) (ac (hv.at 7 rfl (af.1 rfl)) (ac (hv.at 9 rfl (af.2.1 rfl)) az))).fC
     refine RL.gs true (decide (ad.dD<=ab.To)) (vb (decide (ab.dD<=ad.To))) rfl rfl rfl (eM .leq .i64 ab.dD ad.To rfl (fun h=>by exact(dI h:cv (true&&((decide (ad.dD<=ab.To))==true)) (vi ab.dD)= (vi ab.dD))) (fun h=>by exact(dI h:cv (true&&((decide (ad.dD<=ab.To))==true)) (vi ad.To)= (vi ad.To))) rfl) ?_
     exact RL.nil ⟨rfl,(ag,ah,ai,aj),hv.pu 10,ha.u,zt,j⟩
    ·rintro D U w hD af al ⟨⟨ag,ah,ai,aj⟩,hv,ha,_,j⟩
     obtain⟨O,rfl⟩:=(ac (hv.at 5 rfl (af.1 rfl)) (ac (hv.at 10 rfl (af.2.1 rfl)) az)).fC
     refine RL.pick (decide (ad.dD<=ab.To)) (vb ((decide (ad.dD<=ab.To))&&(decide (ab.dD<=ad.To)))) (kg true) ?_
     exact RL.nil ⟨rfl,(ag,ah,ai,aj),hv.pu 11,ha.u,zt,j⟩
    ·rintro D U w hD af al ⟨⟨ag,ah,ai,aj⟩,hv,ha,_,j⟩
     obtain⟨O,rfl⟩:=(ac (hv.at 12 rfl (af.1 rfl)) (ac (ha.at 1 rfl) az)).fC
     have j:=j.bP 0 hD
     refine RL.aN (hg:=(cg ar)) (f:=(fun x=>x)) 8 j zr Fd.self oY fun ch j=>?_
     have j:=(j.pl 12 [0,2,3,4,5,6,7,8,9,10,11]).cI 0 true rfl aW
     exact RL.nil ⟨rfl,(ch,ah,ai,aj),hv.pu 13,ha.u,zt,j⟩
    ·rintro D U w hD af al ⟨⟨ag,ah,ai,aj⟩,hv,ha,_,j⟩
     obtain⟨O,rfl⟩:=(ac (hv.at 12 rfl (af.2.1 rfl)) (ac (hv.at 13 rfl (af.1 rfl)) az)).fC
     have j:=(j.cH 0 (af.1 rfl)).bP 1 hD
     refine RL.call (cg ar) zr Fi [ag] zr (aF (gO N (i0:=0) j zr cb) ?_)
     rintro cj w j
     have j:=((j.pl 12 [1,0,3,4,5,6,7,8,9,10,11]).cI 0 (D 13) (af.1 rfl) aW).cI 1 true rfl aW
     exact RL.nil ⟨rfl,(ag,cj,ai,aj),hv.pu 14,ha.u,zt,j⟩
    ·rintro D U w hD af al ⟨⟨ag,ah,ai,aj⟩,hv,ha,_,j⟩
     obtain⟨O,rfl⟩:=(ac (hv.at 12 rfl (af.1 rfl)) (ac (ha.at 2 rfl) az)).fC
     have j:=j.bP 2 hD
     refine RL.aN (hg:=(cg ar)) (f:=(fun x=>x)) 4 j zr Fd.self oY fun ck j=>?_
     have j:=(j.pl 12 [1,2,0,4,5,6,7,8,9,10,11]).cI 2 true rfl aW
     exact RL.nil ⟨rfl,(ag,ah,ck,aj),hv.pu 15,ha.u,zt,j⟩
    ·rintro D U w hD af al ⟨⟨ag,ah,ai,aj⟩,hv,ha,_,j⟩
     obtain⟨O,rfl⟩:=(ac (hv.at 12 rfl (af.2.2.1 rfl)) (ac (hv.at 15 rfl (af.1 rfl)) az)).fC
     have j:=(j.cH 2 (af.1 rfl)).bP 3 hD
     refine RL.call (cg ar) zr Fi [ai] zr (aF (gO N (i0:=2) j zr cd) ?_)
     rintro cl w j
     have j:=((j.pl 12 [1,2,3,0,5,6,7,8,9,10,11]).cI 2 (D 15) (af.1 rfl) aW).cI 3 true rfl aW
     exact RL.nil ⟨rfl,(ag,ah,ai,cl),hv.pu 16,ha.u,zt,j⟩
    ·rintro D U w hD af al ⟨⟨ag,ah,ai,aj⟩,hv,ha,_,j⟩
     obtain⟨O,rfl⟩:=(ac (hv.at 12 rfl (af.2.2.2.1 rfl)) (ac (hv.at 14 rfl (af.1 rfl)) (ac (hv.at 16 rfl (af.2.1 rfl)) az))).fC
     have j:=(j.cH 1 (af.1 rfl)).cH 3 (af.2.1 rfl)
     refine RL.call (cg ar) zr MN [ah,aj] zr (aF (Bf N (i0:=1) (i1:=3) j zr zr cf) ?_)
     rintro _ w ⟨rfl,j⟩
     have j:=(j.cI 1 (D 14) (af.1 rfl) aW).cI 3 (D 16) (af.2.1 rfl) aW
     exact RL.nil ⟨rfl,(ag,ah,ai,aj),hv.pu 17,ha.u,zt,j⟩
    rintro D U w a6 ⟨⟨ag,ah,ai,aj⟩,hv,ha,_,j⟩
    have j:=(((j.cH 0 (kD a6 13)).cH 1 (kD a6 14)).cH 2 (kD a6 15)).cH 3 (kD a6 16)
    obtain⟨O,rfl⟩:=(ac (hv.at 19 rfl (kD a6 19)) (ac (ha.at 0 rfl) (ac (ha.at 1 rfl) (ac (ha.at 2 rfl) (ac (ha.at 3 rfl) (ac (ha.at 4 rfl) (ac (ha.at 5 rfl) (ac (ha.at 6 rfl) (ac (ha.at 7 rfl) (ac (ha.at 8 rfl) az)))))))))).fC
    obtain rfl:=oi hj
    exact⟨rfl,j.sp 11 [7,8,9,10]⟩
   rintro _ w ⟨O,rfl,j⟩
   refine aG (eH o (fun hc o=>?_) fun hc o=>?_)
   rotate_left
   ·refine RC.skip (bO (aG (RC.region (RL.inc hk hm (mv (vi ((a5+1:Nat):Int)) (RL.nil ?_))))))
    obtain rfl:=oi o
    exact⟨rfl,j.sp 4 [0,1,2,3]⟩
   refine RC.sr (aM (.pointer none) (aM (vi 12) (RL.nt (RC.rb (bN ?_)))))
   obtain rfl:=oi o
   exact⟨rfl,oz ⟨rfl,j.drop 4⟩⟩
  ·intro r U w e hK
   subst e
   refine iA (bN ?_)
   obtain rfl:=oi o
   exact⟨rfl,hK⟩
  rintro bo _ w rfl ⟨O,rfl,j⟩
  rw [Fo.fW] at o
  refine bO (aG (RC.region (RL.inc hk hm (mv (vi ((ax+1:Nat):Int)) (RL.nil ?_)))))
  obtain rfl:=oi o
  exact⟨rfl,j.sp 4 [0,2]⟩
 ·intro r U w e hK
  subst e
  refine bN ?_
  obtain rfl:=oi o
  exact hK
 rintro bn _ w rfl ⟨O,rfl,j⟩
 rw [Fo.fW] at o
 refine aG (RC.sr (RL.aN (f:=(fun x=>x)) 0 j zr Fd.self wI fun cm j=>?_))
 obtain⟨cs,hcs,hv224,j⟩:=j.Em (i:=0) rfl rfl
 obtain⟨bf,bg,bh,bj,rfl⟩:=L5 hcs
 have j:=(((j.jI (i:=0) (k:=0) (f:=fun x=>x.aO) rfl p5 rfl rfl rfl).jI (i:=1) (k:=1) (f:=fun x=>x.eC) rfl yr rfl rfl rfl).jI (i:=2) (k:=2) (f:=fun x=>x.bL) rfl sq rfl rfl rfl).jI (i:=3) (k:=3) (f:=fun x=>x.bM) rfl p6 rfl rfl rfl
 refine RL.GD (zs:=[(.slice none 0 0),(.slice none 0 0),(.slice none 0 0),(.slice none 0 0),(.slice none 0 0),(.slice none 0 0),(.slice none 0 0),(.slice none 0 0),(.slice none 0 0),(.slice none 0 0),(.slice none 0 0),(.slice none 0 0)]) (cs:=[bf,bg,bh,bj,(.slice none 0 0),(.slice none 0 0),(.slice none 0 0),(.slice none 0 0),(.slice none 0 0),(.slice none 0 0),(.slice none 0 0),(.slice none 0 0)]) zt zr [(0,cm)] [(0,[bf,bg,bh,bj])] zr MO ⟨rfl,(congrArg Value.cells hv224),zt⟩ zr (RL.xV [bf,bg,bh,bj,(.slice none 0 0),(.slice none 0 0),(.slice none 0 0),(.slice none 0 0),(.slice none 0 0),(.slice none 0 0),(.slice none 0 0),(.slice none 0 0)] zr j zr (vm.all (⟨(np 3 j),(np 2 j),(np 1 j),(np 0 j),zr,zr,zr,zr,zr,zr,zr,zr,zt⟩:vm [bf,bg,bh,bj,(.slice none 0 0),(.slice none 0 0),(.slice none 0 0),(.slice none 0 0),(.slice none 0 0),(.slice none 0 0),(.slice none 0 0),(.slice none 0 0)])) fun a1 w j=>?_)
 refine aM (vp a1 0) (RL.nq (RC.sr (mv (vp a1 0) ?_)))
 have j:=((((((j.cW (List aA) 113).cW aI 171).pull 0).pull 2).dup 6 rfl).dup 9 rfl).pull 6
 obtain⟨cn,cp,o⟩:=bd o
 refine RL.call zt zr MV [(vp a1 0)] zr (aF (rO N j cp) ?_)
 rintro _ w ⟨cq,cr,rfl,j⟩
 refine RL.not cn.1 (RL.nt (eH o (fun hc o=>?_) fun hc o=>?_))
 ·refine RC.sr (aM (.pointer none) (aM (vi 2) (RL.nt (RC.rt ?_))))
  obtain rfl:=oi o
  exact oz ⟨rfl,j.drop 14⟩
 refine RC.sx (mv (vp a1 0) ?_)
 have j:=(((((j.freeze 2).cW (List Int) 68).pull 0).dup 4 rfl).dup 10 rfl).pull 4
 obtain⟨dc,ct,o⟩:=bd o
 refine RL.call zt zr MY [(vp a1 0)] zr (aF (rP N j ct) ?_)
 rintro _ w ⟨cu,rfl,j⟩
 refine RL.ns (mv (vp a1 0) ?_)
 have j:=((((((((((((j.freeze 1).cW Int 3).cW Int 3).cW Int 3).cW kb 179).pull 0).pull 2).pull 4).pull 6).dup 9 rfl).dup 14 rfl).dup 19 rfl).dup 21 rfl
 have j:=j.pull 12
 obtain⟨dd,cw,o⟩:=bd o
 refine RL.call zt zr M5 [(vp a1 0)] zr (aF (nI N j cw) ?_)
 rintro _ w ⟨cx,cy,cz,c0,c1,rfl,j⟩
 refine RL.ns (mv (vp a1 0) (aM (vp a1 0) (aM (vi 0) (RL.nt (RC.ret ?_)))))
 obtain rfl:=oi o
 exact oz ⟨a1,bf,bg,bh,bj,cq,cr,cu,cx,cy,cz,c0,c1,zr,j.pk 27 [0,22,21,20,19,14,15,11,1,2,3,4,5]⟩
theorem uT {p0: (List aL)} {p1:bK} {p2:kr} {res:Option ((List (List aJ))×(List aJ)×(List cN)×(List eQ)×(List (List aA))×(List aI)×(List (List Int))×(List bJ)×(List Int)×(List Int)×(List Int)×(List kb))×Int} (j:Holds E w V) (h0:V[i0]? =some (rd v0 p0)) (h1:V[i1]? =some (rd v1 p1)) (h2:V[i2]? =some (rd v2 p2)) (o:jm N p0 p1 p2=some res):
    Calls bB 8 [v0,v1,v2].toArray w (gr (pJ E V res)):=by
 unfold jm at o
 refine enter Tryz.func8 zr zr ?_
 have j:=((j.dup (i0+0) h0).dup (i1+1) h1).dup (i2+2) h2
 refine RC.sr (RL.cQ 1 v1 j zr fun a0 w j=>?_)
 refine RL.cQ 1 v2 j zr fun a1 w j=>?_
 refine aM (.pointer none) (aM (vi 0) (RL.nq (RC.sr (mv v0 (RL.aN (f:=(fun x=>x)) 1 j zr Fd.self yv fun af j=>?_)))))
 obtain⟨aa,ag,o⟩:=bd o
 refine RL.call zt zr KL [v0,af] zr (aF (nE N (i0:=5) (i1:=0) j zr zr ag) ?_)
 rintro _ w ⟨rfl,j⟩
 refine aM (vi aa) (RL.ns (mv (vi aa) (ic aa 0 (RL.nt (eH o (fun hc o=>?_) fun hc o=>?_)))))
 ·refine RC.sr (mv (vi aa) (aM (.pointer none) (aM (vi aa) (RL.nt (RC.rt ?_)))))
  obtain rfl:=oi o
  exact oz ⟨rfl,j.drop 6⟩
 refine RC.sx (RL.aN (f:=(fun x=>x)) 1 j zr Fd.self wI fun ai j=>?_)
 obtain⟨ab,aj,o⟩:=bd o
 refine RL.call zt zr Lm [ai] zr (aF (sX N (i0:=0) j zr aj) ?_)
 rintro _ w hK52
 rcases ad:ab.1 with _ | a2
 ·replace o:=JH ad o
  obtain⟨rfl,j⟩:=GB ad hK52
  refine RL.extract (.pointer none) (RL.extract (vi ab.2) (aM (.pointer none) (aM (vi ab.2) (RL.nt (RC.ret ?_)))))
  obtain rfl:=oi o
  exact oz ⟨rfl,j.drop 7⟩
 replace o:=JI ad o
 obtain⟨ae,ak,al,an,ao,aq,ar,au,av,aw,ax,ay,az,rfl,j⟩:=GC ad hK52
 refine RL.extract (vp ae 0) (RL.extract (vi ab.2) (aM (vp ae 0) (aM (vi ab.2) (RL.nt (RC.ret ?_)))))
 obtain rfl:=oi o
 exact oz ⟨ae,ak,al,an,ao,aq,ar,au,av,aw,ax,ay,az,zr,j.pk 20 [0,1,2,3,4,5,6,7,8,9,10,11,12]⟩
def yO (E:World) (V:List HP) (res: (List (aX×Int))) (v:Value) (w:World):Prop:=Holds E w ([mp v res]++V)
theorem nQ {p0:bK} {res: (List (aX×Int))} (j:Holds E w V) (h0:V[i0]? =some (rd v0 p0)) (o:km N p0=some res):
    Calls bB 9 [v0].toArray w (gr (yO E V res)):=by
 unfold km at o
 refine enter Tryz.func9 zr zr ?_
 have j:=j.dup (i0+0) h0
 refine RC.sr (RL.cQ 0 v0 j zr fun ar w j=>?_)
 refine aM (.map none) (RL.ns (RL.makeMap (κ:=aX) (ν:=Int) j fun aa w j=>(aM aa (RL.nq (RC.sr (RL.bH zr sw (RL.aN 1 j zr jE Cn fun ae j=>(RL.bF 0 p0.bE j GU ?_))))))))
 refine mv (vi 0) (RL.nt ?_)
 obtain⟨af,hN,o⟩:=bd o
 refine RC.fold (fun(ab:Nat) (af: (List (aX×Int)))=>SH E V [(3,aa),(10,ae),(11,vi p0.bE.length),(12,vi ab)] [mp aa af,rd ae p0.bE]) (fun(af: (List (aX×Int)))=>SH E V [(3,aa)] [mp aa af,rd ae p0.bE]) hN ?_ ?_ ?_ ?_
 ·exact j.sp 4 [1,0]
 ·rintro hm af _ w ⟨O,rfl,j⟩
  refine RC.sr (ic ((p0.bE.length:Int)) ((p0.bE.length:Int)) (RL.nq (RC.cP mz (RC.ex ?_))))
  exact⟨rfl,j.sp 2 [0,1]⟩
 ·rintro hm ab af s' _ w hk ⟨O,rfl,j⟩ o
  refine RC.sr (ic ((ab:Int)) ((p0.bE.length:Int)) (RL.nq (RC.cO (my hk) (RC.ss (RC.bs (mv (vi ab) ?_))))))
  obtain⟨ad,ao,o⟩:=bd o
  refine RL.cA 1 j Dm ao fun au j=>(RL.bC 0 ad j A0 fun av j=>(RL.alloc j Iv.z fun aw w j=>?_))
  refine aM (vi ab) (RL.bD 0 j 1 zr A0 fun w j=>?_)
  refine RL.ns (RL.bH zr yz (RL.aN 0 j zr si xK fun al j=>(RL.bF 0 ad.aS j rJ (mv (vi 0) (RL.nt ?_)))))
  obtain⟨ag,hN,o⟩:=bd o
  refine RC.fold (fun(aj:Nat) (ag: (List (aX×Int)))=>SH E V [(3,aa),(4,vi ab),(10,ae),(11,vi p0.bE.length),(12,vi ab),(18,al),(19,vi ad.aS.length),(20,vi aj)] [mp aa ag,rd ae p0.bE,rd al ad.aS]) (fun(ag: (List (aX×Int)))=>SH E V [(3,aa),(10,ae),(11,vi p0.bE.length),(12,vi ab)] [mp aa ag,rd ae p0.bE,rd al ad.aS]) hN ?_ ?_ ?_ ?_
  ·exact j.sp 6 [4,5,0]
  ·rintro hm ag _ w ⟨O,rfl,j⟩
   refine RC.sr (ic ((ad.aS.length:Int)) ((ad.aS.length:Int)) (RL.nq (RC.cP mz (RC.ex ?_))))
   exact⟨rfl,j.sp 3 [0,1,2]⟩
  ·rintro hm aj ag s' _ w hk ⟨O,rfl,j⟩ o
   refine RC.sr (ic ((aj:Int)) ((ad.aS.length:Int)) (RL.nq (RC.cO (my hk) (RC.ss (RC.bs ?_)))))
   obtain⟨an,aq,o⟩:=bd o
   refine RL.cA 2 j qU aq fun ax j=>(RL.bC 0 an j gT fun ay j=>(RL.alloc j sA.z fun az w j=>?_))
   refine RL.bD 0 j 1 zr gT fun w j=>?_
   refine RL.nt (RC.region (mv aa (RL.aN (f:=(fun x=>x)) 0 j zr Fd.self gT fun a0 j=>(mv (vi ab) ?_))))
   have j:=j.sc Int (ab:Int)
   refine RL.mapUpdate 5 0 an j zr (nM 1 j) zr zr Ha fun w j=>(RL.nil (bO (aG (RC.region (RL.inc hk hm (mv (vi ((aj+1:Nat):Int)) (RL.nil ?_)))))))
   obtain rfl:=oi o
   exact⟨rfl,j.sp 8 [5,6,7]⟩
  rintro _ w ⟨O,rfl,j⟩
  refine bO (aG (RC.region (RL.inc hk hm (mv (vi ((ab+1:Nat):Int)) (RL.nil ?_)))))
  obtain rfl:=oi o
  exact⟨rfl,j.sp 3 [0,1]⟩
 rintro _ w ⟨O,rfl,j⟩
 refine aG (RC.sr (mv aa (aM aa (RL.nt (RC.ret ?_)))))
 obtain rfl:=oi o
 exact bU (j.pk 2 [0])
theorem vS {p0: (List aL)} {p1:Part} {res: (List aX)} (j:Holds E w V) (h0:V[i0]? =some (rd v0 p0)) (h1:V[i1]? =some (rd v1 p1)) (o:k8 N p0 p1=some res):
    Calls bB 22 [v0,v1].toArray w (gr (lI E V res)):=by
 unfold k8 at o
 refine enter Tryz.func22 zr zr ?_
 have j:=(j.dup (i0+0) h0).dup (i1+1) h1
 refine RC.sr (RL.cQ 0 v1 j zr fun ag w j=>?_)
 refine aM (.slice none 0 0) (RL.ns (aM (.slice none 0 0) (RL.nq (RC.sr (mv v0 (mv v0 (RL.bH zr Dl (RL.aP 0 j zr wC pQ ?_))))))))
 obtain⟨ay,an,o⟩:=bd o
 refine RL.call zt zr JS [v0,(str p1.ju)] zr (aF (mI N (p1:=p1.ju) (i0:=2) j zr an) ?_)
 rintro _ w ⟨rfl,j⟩
 obtain⟨aa,ao,o⟩:=bd o
 refine RL.cA 2 j E9 ao fun az j=>(RL.fB 0 j zr AY pG fun a0 j=>(RL.bC 0 aa.aS j GP fun ah j=>(RL.bF 0 aa.aS j yx (mv (vi 0) (RL.nt ?_)))))
 obtain⟨ab,hN,o⟩:=bd o
 refine RC.fold (fun(af:Nat) (ab: (List aX)) U w=>∃ai:Value,SH E V [(3,vp ag 0),(5,ai),(15,ah),(16,vi aa.aS.length),(17,vi af)] [bx 93 ag p1,rd ah aa.aS,own 34 ai ab] U w) (fun(ab: (List aX)) U w=>∃ad:Value,SH E V [(5,ad)] [bx 93 ag p1,rd ah aa.aS,own 34 ad ab] U w) hN ?_ ?_ ?_ ?_
 ·have j:=j.cW aX 34
  exact⟨(.slice none 0 0),j.sp 7 [4,1,0]⟩
 ·rintro hm ab _ w ⟨ar,O,rfl,j⟩
  refine RC.sr (ic ((aa.aS.length:Int)) ((aa.aS.length:Int)) (RL.nq (RC.cP mz (RC.ex ?_))))
  exact⟨rfl,ar,j.sp 3 [0,1,2]⟩
 ·rintro hm af ab s' _ w hk ⟨au,O,rfl,j⟩ o
  refine RC.sr (ic ((af:Int)) ((aa.aS.length:Int)) (RL.nq (RC.cO (my hk) (RC.ss (RC.bs ?_)))))
  obtain⟨ae,av,o⟩:=bd o
  refine RL.cA 1 j xu av fun a1 j=>(RL.bC 0 ae j vC fun a2 j=>(RL.alloc j GQ.z fun a3 w j=>?_))
  refine RL.bD 0 j 1 zr vC fun w j=>?_
  refine RL.nt (RC.region (mv au (RL.bH zr yy (RL.aP 3 j zr pV pQ (RL.bH zr vD (RL.aP 0 j zr mE pQ ?_))))))
  have j:=(j.sc bR p1.Name).sc bR ae.Name
  refine RL.build (⟨p1.Name,ae.Name⟩:aX) trivial rfl j [(0,(str p1.Name)),(1,(str ae.Name))] rfl KZ rfl (fun M hs g=>by have h:=GN M;exact cZ.cons (f:=fun(x:aX) y=>{x with Part:=y}) h Ch (g.sat 1 _ rfl).1 fun _ h=>cZ.cons (f:=fun(x:aX) y=>{x with aX:=y}) h Ci (g.sat 0 _ rfl).1 fun _ h=>cZ.nil h) fun aw j=>?_
  refine RL.eF ([(⟨p1.Name,ae.Name⟩:aX)]: (List aX)) j [aw] qU sA (fun M hs g=>⟨(g.sat 0 _ zr).1,zt⟩) fun a4 w j=>?_
  have j:=j.freeze 0
  obtain⟨a5,ax,o⟩:=bd o
  refine RL.app 9 0 j zK ax fun al w j=>?_
  refine aM al (RL.nil (bO (aG (RC.region (RL.inc hk hm (mv (vi ((af+1:Nat):Int)) (RL.nil ?_)))))))
  obtain rfl:=oi o
  exact⟨rfl,al,j.sp 10 [7,8,9]⟩
 rintro _ w ⟨ad,O,rfl,j⟩
 refine aG (RC.sr (mv ad (aM ad (RL.nt (RC.ret ?_)))))
 obtain rfl:=oi o
 exact bU (j.pk 3 [2])
end Go.Gk
