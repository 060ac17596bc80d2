/-
  Printed texts: Go functions as plain functions, and that they are. No statement of the seed is proved here.
-/
import Derived.Test.YtllecmpemokbfaaGreatDoorG1
import Derived.Test.YtllecmpemokbfaaGreatDoorG2
import Derived.Test.YtllecmpemokbfaaGreatDoorG3
import Derived.Test.YtllecmpemokbfaaGreatDoorA2
set_option linter.unusedVariables false
set_option linter.unusedSimpArgs false
set_option linter.unusedSectionVars false
set_option maxRecDepth 100000
set_option maxHeartbeats 4000000
namespace Go.Gk
open Go Go.Proofs
variable (N:Nat) {E w:World} {b0 i0 i1:Nat} {res:Int} {v0 v0_0 v0_1 v0_10 v0_11 v0_2 v0_3 v0_4 v0_5 v0_6 v0_8 v0_9 v1:Value} {V:List HP}
def o8 (E:World) (V:List HP) (b0:Nat) (v0_0 v0_1:Value) (v0_2 v0_3:Value) (v0_4 v0_5 v0_6:Value) (res: (List eB)×(List Int)×(List Int)×(List Int)×(List lT)) (v:Value) (w:World):Prop:=∃u0_7 u0_8 u0_9 u0_10 u0_11:Value,v = .tuple #[]/\Holds E w ([bc 102 b0 [v0_0,v0_1,v0_2,v0_3,v0_4,v0_5,v0_6,u0_7,u0_8,u0_9,u0_10,u0_11],own 138 u0_7 res.1,rd u0_8 res.2.1,rd u0_9 res.2.2.1,own 3 u0_10 res.2.2.2.1,own 140 u0_11 res.2.2.2.2]++V)
theorem oT {p0_2: (List bJ)} {p0_3: (List cU)} {p0_5: (List aN)} {p0_6: (List (List Int))} {p0_8: (List Int)} {p0_9: (List Int)} {p0_10: (List Int)} {p0_11: (List lT)} {res: (List eB)×(List Int)×(List Int)×(List Int)×(List lT)} (hw:Holds E w (bc 102 b0 [v0_0,v0_1,v0_2,v0_3,v0_4,v0_5,v0_6,(.slice none 0 0),v0_8,v0_9,v0_10,v0_11]::rd v0_2 p0_2::rd v0_3 p0_3::rd v0_5 p0_5::rd v0_6 p0_6::own 3 v0_8 p0_8::own 3 v0_9 p0_9::own 3 v0_10 p0_10::own 140 v0_11 p0_11::V)) (hb:f0 N p0_2 p0_3 p0_5 p0_6 p0_8 p0_9 p0_10 p0_11=some res):
    Calls bD 73 [(vp b0 0)].toArray w (gm (o8 E V b0 v0_0 v0_1 v0_2 v0_3 v0_4 v0_5 v0_6 res)):=by
 unfold f0 at hb
 refine enter Tryz.func73 zr zr (RC.sr (mv (vp b0 0) (RL.nilCheck zr (RL.aX zr uo (RL.cA 0 v0_5 hw Fa (RL.bA 3 p0_5 hw HC (aP (vi p0_5.length) (RL.ns ?_))))))))
 refine mv (vi p0_5.length) (mv (vp b0 0) (RL.nilCheck zr (RL.aX zr qC (RL.aX zr jm (RL.cA 0 v0_2 hw o4 (RL.bA 1 p0_2 hw tF (RL.gQ (p0_5.length:Int) (p0_2.length:Int) ?_)))))))
 obtain⟨e7,dt,hb⟩:=bd hb
 refine RL.call zt zr Kb [(vi (IntKind.wrap .i64 ((p0_5.length:Int)+ (p0_2.length:Int))))] zr (aC (uX N (p0:=(IntKind.wrap .i64 ((p0_5.length:Int)+ (p0_2.length:Int)))) hw dt) ?_)
 rintro _ w ⟨ba,du,rfl,hw⟩
 refine aP (vp ba 0) (RL.nq (RC.sr (mv (vp b0 0) (RL.nilCheck zr (RL.aX zr Bh (RL.cA 2 v0_6 hw IY (RL.bA 6 p0_6 hw IZ (mv (vi 0) ?_))))))))
 refine RL.nt ?_
 obtain⟨b1,hN,hb⟩:=bd hb
 refine RC.fold (fun(bk:Nat) (b1: (List Int)) U w=>∃c6:Value,SH E V [(0,vp b0 0),(2,vi p0_5.length),(3,vp ba 0),(35,v0_6),(36,vi p0_6.length),(37,vi bk)] [bc 102 b0 [v0_0,v0_1,v0_2,v0_3,v0_4,v0_5,v0_6,(.slice none 0 0),v0_8,v0_9,v0_10,v0_11],rd v0_2 p0_2,rd v0_3 p0_3,rd v0_5 p0_5,rd v0_6 p0_6,own 3 v0_8 p0_8,own 3 v0_9 p0_9,own 3 v0_10 p0_10,own 140 v0_11 p0_11,bc 176 ba [c6],own 3 c6 b1] U w) (fun(b1: (List Int)) U w=>∃cb:Value,SH E V [(0,vp b0 0),(2,vi p0_5.length),(3,vp ba 0)] [bc 102 b0 [v0_0,v0_1,v0_2,v0_3,v0_4,v0_5,v0_6,(.slice none 0 0),v0_8,v0_9,v0_10,v0_11],rd v0_2 p0_2,rd v0_3 p0_3,rd v0_5 p0_5,rd v0_6 p0_6,own 3 v0_8 p0_8,own 3 v0_9 p0_9,own 3 v0_10 p0_10,own 140 v0_11 p0_11,bc 176 ba [cb],own 3 cb b1] U w) hN ?_ ?_ ?_ ?_
 ·exact⟨du,hw.sp 11 [2,3,4,5,6,7,8,9,10,0,1]⟩
 ·rintro hm b1 _ w ⟨dv,O,rfl,hw⟩
  refine RC.sr (ic ((p0_6.length:Int)) ((p0_6.length:Int)) (RL.nq (RC.eZ r5 (RC.ex ?_))))
  exact⟨rfl,dv,hw.sp 11 [0,1,2,3,4,5,6,7,8,9,10]⟩
 ·rintro hm bk b1 s' _ w hk ⟨dw,O,rfl,hw⟩ hb
  refine RC.sr (ic ((bk:Int)) ((p0_6.length:Int)) (RL.nq (RC.eY (rZ hk) (RC.ss (RC.bs (mv (vi bk) ?_))))))
  obtain⟨bu,dx,hb⟩:=bd hb
  refine RL.bP 4 hw Fb dx fun e8 hw=>(RL.bF 0 bu hw iq fun cc hw=>(aP (vi bk) (aP cc (RL.ns (mv cc (RL.bA 0 bu hw nr (mv (vi 0) (RL.nt ?_))))))))
  obtain⟨b5,hN,hb⟩:=bd hb
  refine RC.fold (fun(cg:Nat) (b5: (List Int)) U w=>∃c7:Value,SH E V [(0,vp b0 0),(2,vi p0_5.length),(3,vp ba 0),(4,vi bk),(35,v0_6),(36,vi p0_6.length),(37,vi bk),(42,cc),(43,vi bu.length),(44,vi cg)] [bc 102 b0 [v0_0,v0_1,v0_2,v0_3,v0_4,v0_5,v0_6,(.slice none 0 0),v0_8,v0_9,v0_10,v0_11],rd v0_2 p0_2,rd v0_3 p0_3,rd v0_5 p0_5,rd v0_6 p0_6,own 3 v0_8 p0_8,own 3 v0_9 p0_9,own 3 v0_10 p0_10,own 140 v0_11 p0_11,bc 176 ba [c7],own 3 c7 b5,rd cc bu] U w) (fun(b5: (List Int)) U w=>∃ch:Value,SH E V [(0,vp b0 0),(2,vi p0_5.length),(3,vp ba 0),(35,v0_6),(36,vi p0_6.length),(37,vi bk)] [bc 102 b0 [v0_0,v0_1,v0_2,v0_3,v0_4,v0_5,v0_6,(.slice none 0 0),v0_8,v0_9,v0_10,v0_11],rd v0_2 p0_2,rd v0_3 p0_3,rd v0_5 p0_5,rd v0_6 p0_6,own 3 v0_8 p0_8,own 3 v0_9 p0_9,own 3 v0_10 p0_10,own 140 v0_11 p0_11,bc 176 ba [ch],own 3 ch b5,rd cc bu] U w) hN ?_ ?_ ?_ ?_
  ·exact⟨dw,hw.sp 13 [2,3,4,5,6,7,8,9,10,11,12,0]⟩
  ·rintro hm b5 _ w ⟨dy,O,rfl,hw⟩
   refine RC.sr (ic ((bu.length:Int)) ((bu.length:Int)) (RL.nq (RC.eZ r5 (RC.ex ?_))))
   exact⟨rfl,dy,hw.sp 12 [0,1,2,3,4,5,6,7,8,9,10,11]⟩
  ·rintro hm cg b5 s' _ w hk ⟨e9,O,rfl,hw⟩ hb
   refine RC.sr (ic ((cg:Int)) ((bu.length:Int)) (RL.nq (RC.eY (rZ hk) (RC.ss (RC.bs ?_)))))
   obtain⟨cd,dz,hb⟩:=bd hb
   refine RL.bP 11 hw fG dz fun fa hw=>(RL.bG cd 0 hw cF (aP (vi cd) (RL.nt (RC.region (mv (vp ba 0) (mv (vi cd) (mv (vi p0_5.length) (mv (vi bk) ?_))))))))
   refine RL.gQ (p0_5.length:Int) (bk:Int) ?_
   have hw:=(hw.pull 11).pull 11
   obtain⟨fb,d3,hb⟩:=bd hb
   refine RL.call zt zr Kc [(vp ba 0),(vi cd),(vi (IntKind.wrap .i64 ((p0_5.length:Int)+ (bk:Int))))] zr (aC (tm N (p1:=cd) (p2:=(IntKind.wrap .i64 ((p0_5.length:Int)+ (bk:Int)))) hw d3) ?_)
   rintro _ w ⟨d4,rfl,hw⟩
   refine RL.nil (bQ (aJ (RC.region (RL.inc hk hm (mv (vi ((cg+1:Nat):Int)) (RL.nil ?_))))))
   obtain rfl:=oi hb
   exact⟨rfl,d4,hw.sp 15 [3,4,5,6,7,8,9,10,11,0,1,14]⟩
  rintro _ w ⟨ch,O,rfl,hw⟩
  refine bQ (aJ (RC.region (RL.inc hk hm (mv (vi ((bk+1:Nat):Int)) (RL.nil ?_)))))
  obtain rfl:=oi hb
  exact⟨rfl,ch,hw.sp 12 [0,1,2,3,4,5,6,7,8,9,10]⟩
 rintro _ w ⟨cb,O,rfl,hw⟩
 refine aJ (RC.seq ?_)
 obtain⟨d5,d6,hb⟩:=bd hb
 obtain⟨d7,d8,hb⟩:=bd hb
 refine RC.Hd E V mixed [1,1,1,0,1,1,1,1,0,0,0,1,1,0,1,1,0] [3,10,13,16] (fun(x:Value×Value)=>(fun an ao=>[(0,56,(vp b0 0)),(1,57,(vp b0 0)),(2,58,(vi p0_5.length)),(3,59,an),(4,60,(vp b0 0)),(5,61,(vp b0 0)),(6,62,(vp b0 0)),(7,63,(vp b0 2)),(8,64,v0_2),(9,65,(vi p0_2.length)),(10,66,ao),(11,67,(vp b0 0)),(12,68,(vp b0 8)),(14,69,(vp b0 0)),(15,70,(vp b0 9))]) x.1 x.2) [(0,vp b0 0),(2,vi p0_5.length),(3,vp ba 0)] [] (fun(D:Nat->Bool) (x:Value×Value)=>(fun an ao=>[bif D 0 then (own 3 an d5) else bH,bif D 1 then (own 3 ao d7) else bH,bif D 3 then (bc 102 b0 [v0_0,v0_1,v0_2,v0_3,v0_4,v0_5,v0_6,(.slice none 0 0),an,ao,v0_10,v0_11]) else (bif D 2 then (bc 102 b0 [v0_0,v0_1,v0_2,v0_3,v0_4,v0_5,v0_6,(.slice none 0 0),an,v0_9,v0_10,v0_11]) else (bc 102 b0 [v0_0,v0_1,v0_2,v0_3,v0_4,v0_5,v0_6,(.slice none 0 0),v0_8,v0_9,v0_10,v0_11])),rd v0_2 p0_2,rd v0_3 p0_3,rd v0_5 p0_5,rd v0_6 p0_6,own 3 v0_8 p0_8,own 3 v0_9 p0_9,own 3 v0_10 p0_10,own 140 v0_11 p0_11,bc 176 ba [cb],own 3 cb b1]) x.1 x.2) (fun x=>by kernel_rfl) ?_ ⟨fun _=>lP gn,fun _=>lP gn,fun _=>lP gn,?_,fun _=>lP gn,fun _=>A3 gn,fun _=>qO gn qC,fun _=>qO gn jm,?_,?_,?_,fun _=>A3 gn,fun _=>qO gn Bi,?_,fun _=>A3 gn,fun _=>qO gn yx,?_,trivial⟩ ?_
 ·have hw:=((hw.drew).bH).bH
  exact⟨(undef,undef),fU.none,(FQ zr),zt,hw⟩
 ·rintro D U w hD af ad ⟨⟨an,ao⟩,hv,ha,_,hw⟩
  obtain⟨O,rfl⟩:=(ac (hv.at 2 rfl (af.1 rfl)) az).ir
  have hw:=((hw.cL 0 hD).cL 2 (nh ad hD 16)).cL 2 (nh ad hD 13)
  refine RL.mk (p0_5.length:Int) hw uM JC d6 fun cw w hw=>?_
  have hw:=(((hw.pl 14 [0,2,3,4,5,6,7,8,9,10,11,12,13]).dF 0 true rfl bH).gC 2 (D 13) (nh ad hD 13) (bc 102 b0 [v0_0,v0_1,v0_2,v0_3,v0_4,v0_5,v0_6,(.slice none 0 0),cw,v0_9,v0_10,v0_11])).gC 2 (D 16) (nh ad hD 16) (bc 102 b0 [v0_0,v0_1,v0_2,v0_3,v0_4,v0_5,v0_6,(.slice none 0 0),cw,ao,v0_10,v0_11])
  exact RL.nil ⟨rfl,(cw,ao),hv.pu 3,ha.u,zt,hw⟩
 ·rintro D U w hD af ad ⟨⟨an,ao⟩,hv,ha,_,hw⟩
  obtain⟨O,rfl⟩:=(ac (hv.at 7 rfl (af.1 rfl)) az).ir
  have hw:=(hw.cL 2 (nh ad hD 16)).cL 2 (nh ad hD 13)
  refine RL.cA 2 v0_2 hw o4 ?_
  have hw:=(hw.gC 2 (D 13) (nh ad hD 13) (bc 102 b0 [v0_0,v0_1,v0_2,v0_3,v0_4,v0_5,v0_6,(.slice none 0 0),an,v0_9,v0_10,v0_11])).gC 2 (D 16) (nh ad hD 16) (bc 102 b0 [v0_0,v0_1,v0_2,v0_3,v0_4,v0_5,v0_6,(.slice none 0 0),an,ao,v0_10,v0_11])
  exact RL.nil ⟨rfl,(an,ao),hv.pu 8,ha.u,zt,hw⟩
 ·rintro D U w hD af ad ⟨⟨an,ao⟩,hv,ha,_,hw⟩
  obtain⟨O,rfl⟩:=(ac (hv.at 8 rfl (af.1 rfl)) az).ir
  refine RL.bA 3 p0_2 hw tF ?_
  exact RL.nil ⟨rfl,(an,ao),hv.pu 9,ha.u,zt,hw⟩
 ·rintro D U w hD af ad ⟨⟨an,ao⟩,hv,ha,_,hw⟩
  obtain⟨O,rfl⟩:=(ac (hv.at 9 rfl (af.1 rfl)) az).ir
  have hw:=(hw.cL 1 hD).cL 2 (nh ad hD 16)
  refine RL.mk (p0_2.length:Int) hw uM JC d8 fun c8 w hw=>?_
  have hw:=((hw.pl 14 [1,0,3,4,5,6,7,8,9,10,11,12,13]).dF 1 true rfl bH).gC 2 (D 16) (nh ad hD 16) (bc 102 b0 [v0_0,v0_1,v0_2,v0_3,v0_4,v0_5,v0_6,(.slice none 0 0),an,c8,v0_10,v0_11])
  exact RL.nil ⟨rfl,(an,c8),hv.pu 10,ha.u,zt,hw⟩
 ·rintro D U w hD af ad ⟨⟨an,ao⟩,hv,ha,_,hw⟩
  obtain⟨O,rfl⟩:=(ac (hv.at 3 rfl (af.2.1 rfl)) (ac (hv.at 12 rfl (af.1 rfl)) az)).ir
  have hw:=((hw.dE 0 (af.2.1 rfl)).cL 2 (nh ad hD 16)).cL 2 hD
  refine RL.gW 2 an hw zr zr (eM 0 hw) iq fun w hw=>?_
  have hw:=((hw.dF 0 (D 3) (af.2.1 rfl) bH).dF 2 true rfl (bc 102 b0 [v0_0,v0_1,v0_2,v0_3,v0_4,v0_5,v0_6,(.slice none 0 0),v0_8,v0_9,v0_10,v0_11])).gC 2 (D 16) (nh ad hD 16) (bc 102 b0 [v0_0,v0_1,v0_2,v0_3,v0_4,v0_5,v0_6,(.slice none 0 0),an,ao,v0_10,v0_11])
  exact RL.nil ⟨rfl,(an,ao),hv.n1,ha,zt,hw⟩
 ·rintro D U w hD af ad ⟨⟨an,ao⟩,hv,ha,_,hw⟩
  obtain⟨O,rfl⟩:=(ac (hv.at 10 rfl (af.2.1 rfl)) (ac (hv.at 14 rfl (af.1 rfl)) az)).ir
  have hw:=((hw.dE 1 (af.2.1 rfl)).cL 2 hD).dE 2 (af.2.2.1 rfl)
  refine RL.gW 2 ao hw zr zr (eM 1 hw) iq fun w hw=>?_
  have hw:=(hw.dF 1 (D 10) (af.2.1 rfl) bH).dF 2 true rfl (bif D 13 then (bc 102 b0 [v0_0,v0_1,v0_2,v0_3,v0_4,v0_5,v0_6,(.slice none 0 0),an,v0_9,v0_10,v0_11]) else (bc 102 b0 [v0_0,v0_1,v0_2,v0_3,v0_4,v0_5,v0_6,(.slice none 0 0),v0_8,v0_9,v0_10,v0_11]))
  exact RL.nil ⟨rfl,(an,ao),hv.n1,ha,zt,hw⟩
 rintro D U w a8 ⟨⟨an,ao⟩,hv,ha,_,hw⟩
 have hw:=((hw.dE 0 (nn a8 3)).dE 1 (nn a8 10)).dE 2 (nn a8 16)
 obtain⟨O,rfl⟩:=(ac (ha.at 0 rfl) (ac (ha.at 1 rfl) (ac (ha.at 2 rfl) az))).ir
 refine aJ (RC.seq (RC.sr (mv (vp ba 0) ?_)))
 have hw:=(hw.pull 12).pull 12
 obtain⟨a9,d9,hb⟩:=bd hb
 refine RL.call zt zr Kd [(vp ba 0)] zr (aC (tn N hw d9) ?_)
 rintro bl w ⟨_,fc,rfl,hw⟩
 refine RL.fY 0 a9.1 hw IZ (mv (vi 0) (RL.nt ?_))
 obtain⟨a6,hN,hb⟩:=bd hb
 refine RC.fold (fun(bp:Nat) (a6: (List eB)×(List Int)×(List Int)) U w=>∃(c9:Value) (us442:List cI),SH E V [(0,vp b0 0),(2,vi p0_5.length),(72,bl),(73,vi a9.1.length),(74,vi bp)] [bc 102 b0 [v0_0,v0_1,v0_2,v0_3,v0_4,v0_5,v0_6,c9,an,ao,v0_10,v0_11],own 138 c9 us442,jZ cC us442 a6.1 none,rd v0_2 p0_2,rd v0_3 p0_3,rd v0_5 p0_5,rd v0_6 p0_6,own 3 an a6.2.1,own 3 ao a6.2.2,own 3 v0_10 p0_10,own 140 v0_11 p0_11,own 73 bl a9.1] U w) (fun(a6: (List eB)×(List Int)×(List Int)) U w=>∃(ak:Value) (us444:List cI),SH E V [(0,vp b0 0)] [bc 102 b0 [v0_0,v0_1,v0_2,v0_3,v0_4,v0_5,v0_6,ak,an,ao,v0_10,v0_11],own 138 ak us444,jZ cC us444 a6.1 none,rd v0_2 p0_2,rd v0_3 p0_3,rd v0_5 p0_5,rd v0_6 p0_6,own 3 an a6.2.1,own 3 ao a6.2.2,own 3 v0_10 p0_10,own 140 v0_11 p0_11,own 73 bl a9.1] U w) hN ?_ ?_ ?_ ?_
 ·have hw:=(hw.AZ cC).cX cI 138
  exact⟨(.slice none 0 0),([]:List cI),hw.sp 18 [7,0,1,8,9,10,11,5,6,14,15,2]⟩
 ·rintro hm a6 _ w ⟨ea,us604,O,rfl,hw⟩
  refine RC.sr (ic ((a9.1.length:Int)) ((a9.1.length:Int)) (RL.nq (RC.eZ r5 (RC.ex ?_))))
  exact⟨rfl,ea,us604,hw.sp 12 [0,1,2,3,4,5,6,7,8,9,10,11]⟩
 ·rintro hm bp a6 s' _ w hk ⟨bh,us446,O,rfl,hw⟩ hb
  refine RC.sr (ic ((bp:Int)) ((a9.1.length:Int)) (RL.nq (RC.eY (rZ hk) (RC.ss (RC.bs ?_)))))
  obtain⟨bn,cx,hb⟩:=bd hb
  refine RL.bX 11 hw zr zr Fb cx (RL.ld (f:=(fun x=>x)) 11 hw (kJ 11 hw cx 0) (bE cx).2.1 Fd.self iq fun bq hw=>?_)
  refine aP bq (RL.ns (RL.pP hw Ke fun bw w hw=>?_))
  refine RL.nq (RC.sr (mv bq (RL.bA 1 bn hw nr (mv (vi 0) (RL.nt ?_)))))
  obtain⟨au,hN,hb⟩:=bd hb
  refine RC.fold (fun(b6:Nat) (au: (List Int)×(List Int)×(List Int)×(List Int)) U w=>∃da db:Value,SH E V [(0,vp b0 0),(2,vi p0_5.length),(10,vp bw 0),(72,bl),(73,vi a9.1.length),(74,vi bp),(78,bq),(79,vi bn.length),(80,vi b6)] [bc 102 b0 [v0_0,v0_1,v0_2,v0_3,v0_4,v0_5,v0_6,bh,an,ao,v0_10,v0_11],rd v0_2 p0_2,rd v0_3 p0_3,rd v0_5 p0_5,rd v0_6 p0_6,own 138 bh us446,jZ cC us446 a6.1 none,own 3 an au.1,own 3 ao au.2.1,own 3 v0_10 p0_10,own 140 v0_11 p0_11,bc 138 bw [da,db,(.slice none 0 0)],own 3 da au.2.2.1,own 3 db au.2.2.2,own 73 bl a9.1,rd bq bn] U w) (fun(au: (List Int)×(List Int)×(List Int)×(List Int)) U w=>∃bz br:Value,SH E V [(0,vp b0 0),(2,vi p0_5.length),(10,vp bw 0),(72,bl),(73,vi a9.1.length),(74,vi bp)] [bc 102 b0 [v0_0,v0_1,v0_2,v0_3,v0_4,v0_5,v0_6,bh,an,ao,v0_10,v0_11],rd v0_2 p0_2,rd v0_3 p0_3,rd v0_5 p0_5,rd v0_6 p0_6,own 138 bh us446,jZ cC us446 a6.1 none,own 3 an au.1,own 3 ao au.2.1,own 3 v0_10 p0_10,own 140 v0_11 p0_11,bc 138 bw [bz,br,(.slice none 0 0)],own 3 bz au.2.2.1,own 3 br au.2.2.2,own 73 bl a9.1,rd bq bn] U w) hN ?_ ?_ ?_ ?_
  ·have hw:=(hw.cX Int 3).cX Int 3
   exact⟨(.slice none 0 0),(.slice none 0 0),hw.sp 16 [4,7,8,9,10,5,6,11,12,13,14,2,1,0,15,3]⟩
  ·rintro hm au _ w ⟨eb,ec,O,rfl,hw⟩
   refine RC.sr (ic ((bn.length:Int)) ((bn.length:Int)) (RL.nq (RC.eZ r5 (RC.ex ?_))))
   exact⟨rfl,eb,ec,hw.sp 16 [0,1,2,3,4,5,6,7,8,9,10,11,12,13,14,15]⟩
  ·rintro hm b6 au s' _ w hk ⟨cj,cy,O,rfl,hw⟩ hb
   refine RC.sr (ic ((b6:Int)) ((bn.length:Int)) (RL.nq (RC.eY (rZ hk) (RC.ss (RC.bs ?_)))))
   obtain⟨a3,ed,hb⟩:=bd hb
   refine RL.bP 15 hw fG ed fun fe hw=>(RL.bG a3 0 hw cF (aP (vi a3) (RL.nt (RC.bs (mv (vi a3) (mv (vi p0_5.length) (ic a3 ((p0_5.length:Int)) (aP (vb (decide (a3< (p0_5.length:Int)))) ?_))))))))
   refine RL.nt ?_
   obtain⟨b7,hj,hb⟩:=bd hb
   refine RC.jn (fun(b7: (List Int)×(List Int)×(List Int)×(List Int)) U w=>∃ck cl:Value,SH E V [(0,vp b0 0),(2,vi p0_5.length),(10,vp bw 0),(72,bl),(73,vi a9.1.length),(74,vi bp),(78,bq),(79,vi bn.length),(80,vi b6)] [bc 102 b0 [v0_0,v0_1,v0_2,v0_3,v0_4,v0_5,v0_6,bh,an,ao,v0_10,v0_11],rd v0_2 p0_2,rd v0_3 p0_3,rd v0_5 p0_5,rd v0_6 p0_6,own 138 bh us446,jZ cC us446 a6.1 none,own 3 an b7.1,own 3 ao b7.2.1,own 3 v0_10 p0_10,own 140 v0_11 p0_11,bc 138 bw [ck,cl,(.slice none 0 0)],own 3 ck b7.2.2.1,own 3 cl b7.2.2.2,own 73 bl a9.1,rd bq bn] U w) b7 ?_ ?_
   ·refine dW hj (fun hc hj=>?_) fun hc hj=>?_
    ·refine RC.seq (RC.xq mixed [0,0,0,0,0,0,0,0,0,0,0,2] [0,1,2,3,4,5,6,7,8,9,10,11] ?_)
     have hw:=hw.drew
     refine DP.e0 zr (mv (vp b0 0) (bW zr (RL.nilCheck zr (bW zr (RL.aX zr Bi (bW zr (RL.cA 1 an hw iq (bW zr ?_))))))))
     refine mv (vi a3) (bW zr (mv (vp b0 0) (bW zr (RL.nilCheck zr (bW zr (RL.aX zr uq (bW zr (RL.cA 1 bh hw Fc ?_))))))))
     refine bW zr (RL.tx 6 7 a6.1 zr hw zr zr zr Kf (bW zr ?_))
     obtain⟨ff,cz,hj⟩:=bd hj
     refine RL.bX 8 hw zr zr fG cz (r6 zr ?_)
     have hw:=hw.sc Int (a6.1.length:Int)
     refine RL.gp (f:=(fun _ y=>y)) 9 0 hw (kJ 9 hw cz 0) (bE cz).2.1 zr Fs.self cF fun w hw=>?_
     refine DP.d2 zt (DP.z (aJ (RC.region (RL.aX zr Bj (RL.cA 13 cj hw iq (mv (vi a3) ?_))))))
     have hw:=hw.sc Int a3
     refine RL.eX ([a3]: (List Int)) hw [(vi a3)] fG Gh (fun M hs g=>⟨(g.sat 0 _ zr).1,zt⟩) fun fg w hw=>?_
     have hw:=hw.freeze 0
     obtain⟨fh,ee,hj⟩:=bd hj
     refine RL.app 16 0 hw uM ee fun dc w hw=>?_
     refine RL.aX zr Bj (RL.gW 15 dc hw zr zr (eM 16 hw) iq fun w hw=>?_)
     refine RL.nil ?_
     obtain rfl:=oi hj
     exact⟨rfl,dc,cy,hw.sp 20 [4,5,6,7,8,9,10,11,12,13,14,15,16,17,18,19]⟩
    refine RC.sr (mv (vp b0 0) (RL.nilCheck zr (RL.aX zr qC (RL.aX zr jm (RL.cA 1 v0_2 hw o4 (mv (vi a3) (mv (vi p0_5.length) (RL.gQ a3 (p0_5.length:Int) ?_))))))))
    obtain⟨dd,ef,hj⟩:=bd hj
    refine RL.bP 2 hw tg ef fun fi hw=>(RL.eT 0 hw zr DA xt fun fj hw=>(RL.bG dd.kx 0 hw Hg (aP (vb dd.kx) (RL.nt ?_))))
    obtain⟨cm,hjj,hj⟩:=bd hj
    refine RC.jn (fun(cm: (List Int)×(List Int)) U w=>∃cn:Value,SH E V [(0,vp b0 0),(2,vi p0_5.length),(10,vp bw 0),(72,bl),(73,vi a9.1.length),(74,vi bp),(78,bq),(79,vi bn.length),(80,vi b6)] [bc 102 b0 [v0_0,v0_1,v0_2,v0_3,v0_4,v0_5,v0_6,bh,an,ao,v0_10,v0_11],rd v0_2 p0_2,rd v0_3 p0_3,rd v0_5 p0_5,rd v0_6 p0_6,own 138 bh us446,jZ cC us446 a6.1 none,own 3 an au.1,own 3 ao cm.1,own 3 v0_10 p0_10,own 140 v0_11 p0_11,bc 138 bw [cj,cn,(.slice none 0 0)],own 3 cn cm.2,own 3 cj au.2.2.1,own 73 bl a9.1,rd bq bn] U w) cm ?_ ?_
    ·refine dW hjj (fun hc hjj=>?_) fun hc hjj=>?_
     rotate_left
     ·refine RC.region (mv (vp b0 0) (RL.nilCheck zr (RL.aX zr yx (RL.cA 3 ao hw iq (mv (vi a3) (mv (vi p0_5.length) (RL.gQ a3 (p0_5.length:Int) ?_)))))))
      obtain⟨fk,c0,hjj⟩:=bd hjj
      refine RL.bX 11 hw zr zr fG c0 ?_
      have hw:=hw.sc Int (-1)
      refine RL.gp (f:=(fun _ y=>y)) 12 0 hw (kJ 12 hw c0 0) (bE c0).2.1 zr Fs.self cF fun w hw=>?_
      refine RL.nil ?_
      obtain rfl:=oi hjj
      exact⟨rfl,cy,hw.sp 20 [4,5,6,7,8,9,10,11,12,13,14,15,17,16,18,19]⟩
     refine RC.seq (RC.xq mixed [0,0,0,0,0,0,0,0,0,0,0,0,0,2] [0,1,2,3,4,5,6,7,8,9,10,11,12,13] ?_)
     have hw:=hw.drew
     refine DP.e0 zr (mv (vp b0 0) (bW zr (RL.nilCheck zr (bW zr (RL.aX zr yx (bW zr (RL.cA 3 ao hw iq (bW zr ?_))))))))
     refine mv (vi a3) (bW zr (mv (vi p0_5.length) (bW zr (RL.gQ a3 (p0_5.length:Int) (bW zr (mv (vp b0 0) (bW zr (RL.nilCheck zr ?_))))))))
     refine bW zr (RL.aX zr uq (bW zr (RL.cA 3 bh hw Fc (bW zr (RL.tx 8 9 a6.1 zr hw zr zr zr Kf (bW zr ?_))))))
     obtain⟨fl,c1,hjj⟩:=bd hjj
     refine RL.bX 11 hw zr zr fG c1 (r6 zr ?_)
     have hw:=hw.sc Int (a6.1.length:Int)
     refine RL.gp (f:=(fun _ y=>y)) 12 0 hw (kJ 12 hw c1 0) (bE c1).2.1 zr Fs.self cF fun w hw=>?_
     refine DP.d2 zt (DP.z (aJ (RC.region (RL.aX zr Bl (RL.cA 15 cy hw iq (mv (vi a3) (mv (vi p0_5.length) (RL.gQ a3 (p0_5.length:Int) ?_))))))))
     have hw:=hw.sc Int (IntKind.wrap .i64 (a3 - (p0_5.length:Int)))
     refine RL.eX ([(IntKind.wrap .i64 (a3 - (p0_5.length:Int)))]: (List Int)) hw [(vi (IntKind.wrap .i64 (a3 - (p0_5.length:Int))))] fG Gh (fun M hs g=>⟨(g.sat 0 _ zr).1,zt⟩) fun fm w hw=>?_
     have hw:=hw.freeze 0
     obtain⟨fo,eg,hjj⟩:=bd hjj
     refine RL.app 19 0 hw uM eg fun de w hw=>?_
     refine RL.aX zr Bl (RL.gW 17 de hw zr zr (eM 19 hw) iq fun w hw=>?_)
     refine RL.nil ?_
     obtain rfl:=oi hjj
     exact⟨rfl,de,hw.sp 22 [6,7,8,9,10,11,12,13,14,15,16,17,19,18,20,21]⟩
    rintro _ w ⟨cn,O,rfl,hw⟩
    obtain rfl:=oi hj
    exact⟨rfl,cj,cn,hw.sp 16 [0,1,2,3,4,5,6,7,8,9,10,11,13,12,14,15]⟩
   rintro _ w ⟨ck,cl,O,rfl,hw⟩
   refine bQ (bQ (aJ (RC.region (RL.inc hk hm (mv (vi ((b6+1:Nat):Int)) (RL.nil ?_))))))
   obtain rfl:=oi hb
   exact⟨rfl,ck,cl,hw.sp 16 [0,1,2,3,4,5,6,7,8,9,10,11,12,13,14,15]⟩
  rintro _ w ⟨bz,br,O,rfl,hw⟩
  refine aJ (RC.sr (RL.aX zr Bj (RL.cA 11 bz hw iq (RL.fY 12 au.2.2.1 hw nr (RL.aX zr Bl (RL.cA 11 br hw iq (RL.fY 13 au.2.2.2 hw nr (RL.gQ (au.2.2.1.length:Int) (au.2.2.2.length:Int) ?_))))))))
  refine ic ((IntKind.wrap .i64 ((au.2.2.1.length:Int)+ (au.2.2.2.length:Int)))) 0 (RL.nt ?_)
  obtain⟨c2,hj,hb⟩:=bd hb
  refine RC.jn (fun(c2: (List eB)) U w=>∃(cp:Value) (us598:List cI),SH E V [(0,vp b0 0),(2,vi p0_5.length),(72,bl),(73,vi a9.1.length),(74,vi bp)] [bc 102 b0 [v0_0,v0_1,v0_2,v0_3,v0_4,v0_5,v0_6,cp,an,ao,v0_10,v0_11],own 138 cp us598,jZ cC us598 c2 none,rd v0_2 p0_2,rd v0_3 p0_3,rd v0_5 p0_5,rd v0_6 p0_6,own 3 an au.1,own 3 ao au.2.1,own 3 v0_10 p0_10,own 140 v0_11 p0_11,own 73 bl a9.1] U w) c2 ?_ ?_
  ·refine dW hj (fun hc hj=>?_) fun hc hj=>?_
   rotate_left
   ·refine RC.skip ?_
    obtain rfl:=oi hj
    exact⟨rfl,bh,us446,hw.sp 16 [0,5,6,1,2,3,4,7,8,9,10,14]⟩
   have hw:=hw.drew
   refine RC.Dw (fun w=>Holds E w ([bc 102 b0 [v0_0,v0_1,v0_2,v0_3,v0_4,v0_5,v0_6,bh,an,ao,v0_10,v0_11]]++V)) mixed zr [1,1,1,1,1,0,2,2,0,0,2] [0,1,2,3,4,5,6,7,8,9,10] (hw.pk 16 [0]) (DP.e1 (vp b0 0) zr (fun w=>RL.move (vp b0 0) zt DP.d1) (DP.e1 (vp b0 0) zr (fun w=>RL.move (vp b0 0) zt DP.d1) (DP.e1 (vp b0 0) zr (fun w=>RL.nilCheck zr DP.d1) (DP.e1 (vp b0 7) zr (fun w=>RL.aX zr uq DP.d1) (DP.He bh zr (fun w hw=>RL.cA 0 bh hw Fc DP.d1) (DP.e0 zr (RL.Cf (cs:=[bz,br,(.slice none 0 0)]) 11 zt zr hw zr zr Kg zr (r6 zr ?_))))))))
   have hw:=((((hw.cX ik 125).Ed (i:=0) rfl).freeze 14).freeze 15).mR (cs:=[bz,br,(.slice none 0 0)]) (x:=(⟨au.2.2.1,au.2.2.2,(rv (.slice none 0 0))⟩:cI)) (fun M hs g=>⟨[bz],[br,(.slice none 0 0)],rfl,(cB (g.sat 14 _ rfl).1),⟨[br],[(.slice none 0 0)],rfl,(cB (g.sat 15 _ rfl).1),(cB (g.sat 0 _ rfl).1)⟩⟩) rfl
   refine RL.eX ([(⟨au.2.2.1,au.2.2.2,(rv (.slice none 0 0))⟩:cI)]:List cI) hw [(.agg ([bz,br,(.slice none 0 0)]:List Value).toArray)] I0 Kh (fun M hs g=>⟨(g.sat 0 _ zr).1,zt⟩) fun fp w hw=>(DP.d2 (hw.pk 20 [4]) (DP.e2 zr ?_))
   obtain⟨fq,eh,hj⟩:=bd hj
   have hw:=hw.freeze 0
   refine RL.E1 (i:=9) (j:=0) (b:=10) (o:=3) (X:=cC) (ur:=(⟨au.2.2.1,au.2.2.2,(rv (.slice none 0 0))⟩:cI)) (xr:=(⟨au.2.2.1,au.2.2.2,([]: (List ik))⟩:eB)) (u:=(.slice none 0 0)) (y:=([]: (List ik))) (fun _ _ ho=>⟨⟨rfl,rfl⟩,ho⟩) trivial rfl hw rfl rfl rfl rfl rfl rfl (by decide) (by decide) (by decide) LW eh fun df w hw=>?_
   refine DP.d2 (hw.pk 20 [4]) (DP.e0 zr (RL.nilCheck zr (bW zr (RL.aX zr uq (DP.d0 (DP.La zr zr (RL.gW 4 df hw zr zr (eM 9 hw) Fc fun w hw=>?_)))))))
   refine DP.d2 zt (DP.z ?_)
   obtain rfl:=oi hj
   exact⟨rfl,df,(us446++[(⟨au.2.2.1,au.2.2.2,(rv (.slice none 0 0))⟩:cI)]),hw.sp 20 [4,9,10,5,6,7,8,11,12,13,14,18]⟩
  rintro _ w ⟨cp,us598,O,rfl,hw⟩
  refine bQ (aJ (RC.region (RL.inc hk hm (mv (vi ((bp+1:Nat):Int)) (RL.nil ?_)))))
  obtain rfl:=oi hb
  exact⟨rfl,cp,us598,hw.sp 12 [0,1,2,3,4,5,6,7,8,9,10,11]⟩
 rintro _ w ⟨ak,us444,O,rfl,hw⟩
 refine aJ (RC.sr (mv (vp b0 0) (RL.nilCheck zr (RL.aX zr qC (RL.aX zr o6 (RL.cA 0 v0_3 hw yl (RL.bA 4 p0_3 hw Be (mv (vi 0) ?_))))))))
 refine RL.nt ?_
 obtain⟨aj,hN,hb⟩:=bd hb
 refine RC.fold (fun(b3:Nat) (aj: (List eB)×(List Int)×(List Int)×(List Int)×(List lT)) U w=>∃(dg dh:Value) (di dj:Value) (us819:List cI),SH E V [(0,vp b0 0),(170,v0_3),(171,vi p0_3.length),(172,vi b3)] [bc 102 b0 [v0_0,v0_1,v0_2,v0_3,v0_4,v0_5,v0_6,ak,dg,dh,di,dj],rd dg aj.2.1,rd dh aj.2.2.1,own 3 di aj.2.2.2.1,own 140 dj aj.2.2.2.2,rd v0_2 p0_2,rd v0_3 p0_3,rd v0_5 p0_5,rd v0_6 p0_6,own 138 ak us819,jZ cC us819 aj.1 none] U w) (fun(aj: (List eB)×(List Int)×(List Int)×(List Int)×(List lT)) U w=>∃(cq cr:Value) (ct cu:Value) (us824:List cI),SH E V [(0,vp b0 0)] [bc 102 b0 [v0_0,v0_1,v0_2,v0_3,v0_4,v0_5,v0_6,ak,cq,cr,ct,cu],rd cq aj.2.1,rd cr aj.2.2.1,own 3 ct aj.2.2.2.1,own 140 cu aj.2.2.2.2,rd v0_2 p0_2,rd v0_3 p0_3,rd v0_5 p0_5,rd v0_6 p0_6,own 138 ak us824,jZ cC us824 aj.1 none] U w) hN ?_ ?_ ?_ ?_
 ·have hw:=(hw.freeze 7).freeze 8
  exact⟨an,ao,v0_10,v0_11,us444,hw.sp 12 [0,7,8,9,10,3,4,5,6,1,2]⟩
 ·rintro hm aj _ w ⟨ei,ej,ek,el,us932,O,rfl,hw⟩
  refine RC.sr (ic ((p0_3.length:Int)) ((p0_3.length:Int)) (RL.nq (RC.eZ r5 (RC.ex ?_))))
  exact⟨rfl,ei,ej,ek,el,us932,hw.sp 11 [0,1,2,3,4,5,6,7,8,9,10]⟩
 ·rintro hm b3 aj s' _ w hk ⟨a4,a5,bm,a7,us829,O,rfl,hw⟩ hb
  refine RC.sr (ic ((b3:Int)) ((p0_3.length:Int)) (RL.nq (RC.eY (rZ hk) (RC.ss (RC.bs ?_)))))
  obtain⟨b8,en,hb⟩:=bd hb
  refine RL.bP 6 hw Cy en fun eo hw=>(RL.bF 0 b8 hw wv fun ep hw=>(RL.alloc hw Gl.z fun dk w hw=>?_))
  refine RL.aY 0 hw 1 zr wv fun w hw=>?_
  refine RL.ns (mv (vp b0 0) (RL.aV (f:=(fun x=>x)) 0 hw zr Fd.self wv fun dm hw=>?_))
  have hw:=((hw.dup 11 rfl).dup 10 rfl).pull 6
  obtain⟨bb,er,hb⟩:=bd hb
  refine RL.call zt zr Kj [(vp b0 0),dm] zr (aC (tq N (i1:=0) hw zr er) ?_)
  rintro _ w ⟨c3,rfl,hw⟩
  refine mv (.tuple #[c3,(vb bb.2)]) (RL.extract c3 (RL.extract (vb bb.2) (RL.alloc hw Gs.z fun b9 w hw=>?_)))
  refine RL.aY 0 hw 1 zr wx fun w hw=>?_
  refine aP (vb bb.2) (RL.ns (aP (vi (-1)) (RL.nq (RC.sr (mv (vb bb.2) (RL.nt ?_))))))
  obtain⟨bj,hj,hb⟩:=bd hb
  refine RC.jn (fun(bj: (List eB)×Int) U w=>∃(us877:List cI),SH E V [(0,vp b0 0),(15,vp b9 0),(17,vi bj.2),(170,v0_3),(171,vi p0_3.length),(172,vi b3)] [bc 102 b0 [v0_0,v0_1,v0_2,v0_3,v0_4,v0_5,v0_6,ak,a4,a5,bm,a7],rd v0_2 p0_2,rd v0_3 p0_3,rd v0_5 p0_5,rd v0_6 p0_6,own 138 ak us877,jZ cC us877 bj.1 none,rd a4 aj.2.1,rd a5 aj.2.2.1,own 3 bm aj.2.2.2.1,own 140 a7 aj.2.2.2.2,bx 140 b9 bb.1] U w) bj ?_ ?_
  ·refine dW hj (fun hc hj=>?_) fun hc hj=>?_
   rotate_left
   ·refine RC.skip ?_
    obtain rfl:=oi hj
    exact⟨rfl,us829,hw.sp 18 [2,12,13,14,15,16,17,8,9,10,11,0]⟩
   refine RC.sr (mv (vp b0 0) (RL.aV (f:=(fun x=>x)) 0 hw zr Fd.self wx fun dn hw=>?_))
   have hw:=((hw.dup 10 rfl).dup 10 rfl).pull 5
   obtain⟨ai,et,hj⟩:=bd hj
   refine RL.call zt zr Kk [(vp b0 0),dn] zr (aC (pY N (i1:=0) hw zr et) ?_)
   rintro _ w ⟨rfl,hw⟩
   refine aP (vi ai) (RL.nt ?_)
   obtain⟨fr,cf,hj⟩:=bd hj
   obtain⟨ca,eu,hj⟩:=bd hj
   obtain⟨bt,ev,hj⟩:=bd hj
   obtain⟨b4,cv,hj⟩:=bd hj
   refine RC.Hd E V mixed [1,1,1,0,1,1,1,1,0,1,0,0,0,0,0,0,0,0,0,0] [13,14,15,16,19] (fun(x:Value×Value×Value×Value)=>(fun aw ax av al=>[(0,186,(vp b0 0)),(1,187,(vp b0 0)),(2,188,(vp b0 7)),(3,189,ak),(4,190,(vi ai)),(5,191,(vp b0 0)),(6,192,(vp b0 0)),(7,193,(vp b0 7)),(8,194,ak),(9,195,(vi ai)),(10,196,(BS ak (Int.toNat ai) 3 0)),(11,197,(BS ak (Int.toNat ai) 3 2)),(12,198,(us829.getD (Int.toNat ai) (default:cI)).j4.v),(13,199,aw),(14,200,ax),(15,201,av),(16,202,al),(17,203,(BS ak (Int.toNat ai) 3 0)),(18,204,(BS ak (Int.toNat ai) 3 2))]) x.1 x.2.1 x.2.2.1 x.2.2.2) [(0,vp b0 0),(14,vp dk 0),(15,vp b9 0),(17,vi ai),(170,v0_3),(171,vi p0_3.length),(172,vi b3)] [] (fun(D:Nat->Bool) (x:Value×Value×Value×Value)=>(fun aw ax av al=>[bif D 0 then (rd aw b8) else bH,bif D 1 then (rd ax ca) else bH,bif D 3 then (rd av ([ca]: (List ik))) else (bif D 2 then (own 125 av ([ca]: (List ik))) else bH),bif D 4 then bH else (bif D 3 then (own 125 al bt) else bH),bc 102 b0 [v0_0,v0_1,v0_2,v0_3,v0_4,v0_5,v0_6,ak,a4,a5,bm,a7],rd dn bb.1,bx 140 b9 bb.1,rd c3 bb.1,bH,rd dm b8,bx 49 dk b8,rd ep b8,pt eo b8,bH,rd a4 aj.2.1,rd a5 aj.2.2.1,own 3 bm aj.2.2.2.1,own 140 a7 aj.2.2.2.2,rd v0_2 p0_2,rd v0_3 p0_3,rd v0_5 p0_5,rd v0_6 p0_6,bif D 4 then (own 138 ak (us829.set (Int.toNat ai) {(us829.getD (Int.toNat ai) (default:cI)) with j4:=rv al})) else (own 138 ak us829),bif D 4 then (jZ cC (us829.set (Int.toNat ai) {(us829.getD (Int.toNat ai) (default:cI)) with j4:=rv al}) (aj.1.set (Int.toNat ai) {b4 with j4:=bt}) none) else (bif D 3 then (jZ cC us829 aj.1 (some (Int.toNat ai))) else (jZ cC us829 aj.1 none))]) x.1 x.2.1 x.2.2.1 x.2.2.2) (fun x=>by kernel_rfl) ?_ ⟨fun _=>lP gn,fun _=>A3 gn,fun _=>qO gn uq,?_,fun _=>lP gn,fun _=>lP gn,fun _=>A3 gn,fun _=>qO gn uq,?_,fun _=>lP gn,?_,?_,?_,?_,?_,?_,?_,?_,?_,?_,trivial⟩ ?_
   ·have hw:=((((hw.drew).bH).bH).bH).bH
    exact⟨(undef,undef,undef,undef),fU.none,(FQ zr),zt,hw⟩
   ·rintro D U w hD af ad ⟨⟨aw,ax,av,al⟩,hv,ha,_,hw⟩
    obtain⟨O,rfl⟩:=(ac (hv.at 2 rfl (af.1 rfl)) az).ir
    refine RL.cA 4 ak hw Fc ?_
    exact RL.nil ⟨rfl,(aw,ax,av,al),hv.pu 3,ha.u,zt,hw⟩
   ·rintro D U w hD af ad ⟨⟨aw,ax,av,al⟩,hv,ha,_,hw⟩
    obtain⟨O,rfl⟩:=(ac (hv.at 7 rfl (af.1 rfl)) az).ir
    refine RL.cA 4 ak hw Fc ?_
    exact RL.nil ⟨rfl,(aw,ax,av,al),hv.pu 8,ha.u,zt,hw⟩
   ·rintro D U w hD af ad ⟨⟨aw,ax,av,al⟩,hv,ha,_,hw⟩
    obtain⟨O,rfl⟩:=(ac (hv.at 8 rfl (af.1 rfl)) (ac (hv.at 9 rfl (af.2.1 rfl)) az)).ir
    have hw:=((hw.cL 22 (nh ad hD 19)).cL 23 (nh ad hD 19)).cL 23 (nf (fun h=>ft hD ((ad 11 _ rfl ((ad 12 _ rfl ((ad 16 _ rfl h).1 rfl)).1 rfl)).1 rfl)))
    have hl900:=hw.iY 23 rfl
    have hr901:=lf (default:cI) hl900 cf
    refine RL.bX 22 hw zr zr I0 hr901 ?_
    have hw:=(hw.gC 22 (D 19) (nh ad hD 19) (own 138 ak (us829.set (Int.toNat ai) {(us829.getD (Int.toNat ai) (default:cI)) with j4:=rv al}))).gC 23 (D 16) (nf (fun h=>ft hD ((ad 11 _ rfl ((ad 12 _ rfl ((ad 16 _ rfl h).1 rfl)).1 rfl)).1 rfl))) (jZ cC us829 aj.1 (some (Int.toNat ai)))
    have hw:=hw.gC 23 (D 19) (nh ad hD 19) (jZ cC (us829.set (Int.toNat ai) {(us829.getD (Int.toNat ai) (default:cI)) with j4:=rv al}) (aj.1.set (Int.toNat ai) {b4 with j4:=bt}) none)
    exact RL.nil ⟨rfl,(aw,ax,av,al),hv.pu 10,ha.u,zt,hw⟩
   ·rintro D U w hD af ad ⟨⟨aw,ax,av,al⟩,hv,ha,_,hw⟩
    obtain⟨O,rfl⟩:=(ac (hv.at 10 rfl (af.1 rfl)) az).ir
    have hw:=((hw.cL 22 (nh ad hD 19)).cL 23 (nh ad hD 19)).cL 23 (nf (fun h=>ft hD ((ad 12 _ rfl ((ad 16 _ rfl h).1 rfl)).1 rfl)))
    have hl902:=hw.iY 23 rfl
    have hr903:=lf (default:cI) hl902 cf
    refine RL.nk (α:=cI) zt (kJ 22 hw hr903 0) Et ?_
    have hw:=(hw.gC 22 (D 19) (nh ad hD 19) (own 138 ak (us829.set (Int.toNat ai) {(us829.getD (Int.toNat ai) (default:cI)) with j4:=rv al}))).gC 23 (D 16) (nf (fun h=>ft hD ((ad 12 _ rfl ((ad 16 _ rfl h).1 rfl)).1 rfl))) (jZ cC us829 aj.1 (some (Int.toNat ai)))
    have hw:=hw.gC 23 (D 19) (nh ad hD 19) (jZ cC (us829.set (Int.toNat ai) {(us829.getD (Int.toNat ai) (default:cI)) with j4:=rv al}) (aj.1.set (Int.toNat ai) {b4 with j4:=bt}) none)
    exact RL.nil ⟨rfl,(aw,ax,av,al),hv.pu 11,ha.u,zt,hw⟩
   ·rintro D U w hD af ad ⟨⟨aw,ax,av,al⟩,hv,ha,_,hw⟩
    obtain⟨O,rfl⟩:=(ac (hv.at 11 rfl (af.1 rfl)) az).ir
    have hw:=((hw.cL 22 (nh ad hD 19)).cL 23 (nh ad hD 19)).cL 23 (nh ad hD 16)
    have hl904:=hw.iY 23 rfl
    have hr905:=lf (default:cI) hl904 cf
    refine RL.xo 22 23 ai tD (default:cI) zr hw zr (kJ 22 hw hr905 2) zr zr cf Ib ?_
    have hw:=(hw.gC 22 (D 19) (nh ad hD 19) (own 138 ak (us829.set (Int.toNat ai) {(us829.getD (Int.toNat ai) (default:cI)) with j4:=rv al}))).gC 23 (D 16) (nh ad hD 16) (jZ cC us829 aj.1 (some (Int.toNat ai)))
    have hw:=hw.gC 23 (D 19) (nh ad hD 19) (jZ cC (us829.set (Int.toNat ai) {(us829.getD (Int.toNat ai) (default:cI)) with j4:=rv al}) (aj.1.set (Int.toNat ai) {b4 with j4:=bt}) none)
    exact RL.nil ⟨rfl,(aw,ax,av,al),hv.pu 12,ha.u,zt,hw⟩
   ·rintro D U w hD af ad ⟨⟨aw,ax,av,al⟩,hv,ha,_,hw⟩
    obtain⟨O,rfl⟩:=(ac (ha.at 1 rfl) az).ir
    have hw:=hw.cL 0 hD
    refine RL.aV (f:=(fun x=>x)) 10 hw zr Fd.self wv fun ew hw=>?_
    have hw:=(hw.pl 25 [0,2,3,4,5,6,7,8,9,10,11,12,13,14,15,16,17,18,19,20,21,22,23,24]).dF 0 true rfl bH
    exact RL.nil ⟨rfl,(ew,ax,av,al),hv.pu 13,ha.u,zt,hw⟩
   ·rintro D U w hD af ad ⟨⟨aw,ax,av,al⟩,hv,ha,_,hw⟩
    obtain⟨O,rfl⟩:=(ac (hv.at 13 rfl (af.1 rfl)) az).ir
    have hw:=(hw.dE 0 (af.1 rfl)).cL 1 hD
    refine RL.call zt zr IU [aw] zr (aC (o7 N (i0:=0) hw zr eu) ?_)
    rintro ey w hw
    have hw:=((hw.pl 25 [1,0,3,4,5,6,7,8,9,10,11,12,13,14,15,16,17,18,19,20,21,22,23,24]).dF 0 (D 13) (af.1 rfl) bH).dF 1 true rfl bH
    exact RL.nil ⟨rfl,(aw,ey,av,al),hv.pu 14,ha.u,zt,hw⟩
   ·rintro D U w hD af ad ⟨⟨aw,ax,av,al⟩,hv,ha,_,hw⟩
    obtain⟨O,rfl⟩:=(ac (hv.at 14 rfl (af.1 rfl)) az).ir
    have hw:=((hw.dE 1 (af.1 rfl)).cL 2 (nh ad hD 16)).cL 2 hD
    refine RL.eX ([ca]: (List ik)) hw [ax] Kl H7 (fun M hs g=>⟨(g.sat 1 _ zr).1,zt⟩) fun dp w hw=>?_
    have hw:=(((hw.pl 25 [1,2,0,4,5,6,7,8,9,10,11,12,13,14,15,16,17,18,19,20,21,22,23,24]).dF 1 (D 14) (af.1 rfl) bH).dF 2 true rfl bH).gC 2 (D 16) (nh ad hD 16) (rd dp ([ca]: (List ik)))
    exact RL.nil ⟨rfl,(aw,ax,dp,al),hv.pu 15,ha.u,zt,hw⟩
   ·rintro D U w hD af ad ⟨⟨aw,ax,av,al⟩,hv,ha,_,hw⟩
    obtain⟨O,rfl⟩:=(ac (hv.at 12 rfl (af.1 rfl)) (ac (hv.at 15 rfl (af.2.1 rfl)) az)).ir
    have hw:=(((((((hw.cL 2 hD).dE 2 (af.2.1 rfl)).cL 3 (nh ad hD 19)).cL 3 hD).cL 22 (nh ad hD 19)).cL 23 (nh ad hD 19)).cL 23 hD).A0 (j:=23) (jj:=ai) tD (default:cI) rfl cf
    have hw:=hw.freeze 3
    refine RL.app 0 3 hw Km ev fun c4 w hw=>?_
    have hw:=((((hw.pl 25 [1,2,3,0,5,6,7,8,9,10,11,12,13,14,15,16,17,18,19,20,21,22,23,24]).dF 2 true rfl (bif D 15 then (own 125 av ([ca]: (List ik))) else bH)).dF 3 true rfl bH).gC 3 (D 19) (nh ad hD 19) bH).gC 22 (D 19) (nh ad hD 19) (own 138 ak (us829.set (Int.toNat ai) {(us829.getD (Int.toNat ai) (default:cI)) with j4:=rv c4}))
    have hw:=(hw.dF 23 true rfl (jZ cC us829 aj.1 none)).gC 23 (D 19) (nh ad hD 19) (jZ cC (us829.set (Int.toNat ai) {(us829.getD (Int.toNat ai) (default:cI)) with j4:=rv c4}) (aj.1.set (Int.toNat ai) {b4 with j4:=bt}) none)
    exact RL.nil ⟨rfl,(aw,ax,av,c4),hv.pu 16,ha.u,zt,hw⟩
   ·rintro D U w hD af ad ⟨⟨aw,ax,av,al⟩,hv,ha,_,hw⟩
    obtain⟨O,rfl⟩:=(ac (hv.at 3 rfl (af.1 rfl)) (ac (hv.at 4 rfl (af.2.1 rfl)) az)).ir
    have hw:=hw.cL 22 (nf (fun h=>ft hD ((ad 18 _ rfl ((ad 19 _ rfl h).1 rfl)).1 rfl)))
    have hw:=hw.cL 23 (nf (fun h=>ft hD ((ad 18 _ rfl ((ad 19 _ rfl h).1 rfl)).1 rfl)))
    have hw:=hw.dE 23 (af.2.2.2.2.2.2.2.2.2.2.2.2.2.2.2.2.2.2.1 rfl)
    have hl910:=hw.iY 23 rfl
    have hr911:=lf (default:cI) hl910 cv
    refine RL.bX 22 hw zr zr I0 hr911 ?_
    have hw:=hw.gC 22 (D 19) (nf (fun h=>ft hD ((ad 18 _ rfl ((ad 19 _ rfl h).1 rfl)).1 rfl))) (own 138 ak (us829.set (Int.toNat ai) {(us829.getD (Int.toNat ai) (default:cI)) with j4:=rv al}))
    have hw:=(hw.dF 23 (D 16) (af.2.2.2.2.2.2.2.2.2.2.2.2.2.2.2.2.2.2.1 rfl) (jZ cC us829 aj.1 none)).gC 23 (D 19) (nf (fun h=>ft hD ((ad 18 _ rfl ((ad 19 _ rfl h).1 rfl)).1 rfl))) (jZ cC (us829.set (Int.toNat ai) {(us829.getD (Int.toNat ai) (default:cI)) with j4:=rv al}) (aj.1.set (Int.toNat ai) {b4 with j4:=bt}) none)
    exact RL.nil ⟨rfl,(aw,ax,av,al),hv.pu 17,ha.u,zt,hw⟩
   ·rintro D U w hD af ad ⟨⟨aw,ax,av,al⟩,hv,ha,_,hw⟩
    obtain⟨O,rfl⟩:=(ac (hv.at 17 rfl (af.1 rfl)) az).ir
    have hw:=((hw.cL 22 (nh ad hD 19)).cL 23 (nh ad hD 19)).dE 23 (af.2.2.2.2.2.2.2.2.2.2.2.2.2.2.2.2.2.1 rfl)
    have hl912:=hw.iY 23 rfl
    have hr913:=lf (default:cI) hl912 cv
    refine RL.nk (α:=cI) zt (kJ 22 hw hr913 0) Et ?_
    have hw:=(hw.gC 22 (D 19) (nh ad hD 19) (own 138 ak (us829.set (Int.toNat ai) {(us829.getD (Int.toNat ai) (default:cI)) with j4:=rv al}))).dF 23 (D 16) (af.2.2.2.2.2.2.2.2.2.2.2.2.2.2.2.2.2.1 rfl) (jZ cC us829 aj.1 none)
    have hw:=hw.gC 23 (D 19) (nh ad hD 19) (jZ cC (us829.set (Int.toNat ai) {(us829.getD (Int.toNat ai) (default:cI)) with j4:=rv al}) (aj.1.set (Int.toNat ai) {b4 with j4:=bt}) none)
    exact RL.nil ⟨rfl,(aw,ax,av,al),hv.pu 18,ha.u,zt,hw⟩
   ·rintro D U w hD af ad ⟨⟨aw,ax,av,al⟩,hv,ha,_,hw⟩
    obtain⟨O,rfl⟩:=(ac (hv.at 16 rfl (af.2.1 rfl)) (ac (hv.at 18 rfl (af.1 rfl)) az)).ir
    have hw:=((((hw.cL 3 hD).dE 3 (af.2.1 rfl)).cL 22 hD).cL 23 hD).dE 23 (af.2.1 rfl)
    have hl914:=hw.iY 23 rfl
    have hr915:=lf (default:cI) hl914 cv
    refine RL.vt 22 23 3 ai tD (default:cI) hw zr zr (kJ 22 hw hr915 2) zr zr zr cv Ib fun w hw=>?_
    have hw:=((hw.dF 3 true rfl (bif D 16 then (own 125 al bt) else bH)).dF 22 true rfl (own 138 ak us829)).dF 23 true rfl (bif D 16 then (jZ cC us829 aj.1 (some (Int.toNat ai))) else (jZ cC us829 aj.1 none))
    exact RL.nil ⟨rfl,(aw,ax,av,al),hv.n1,ha,zt,hw⟩
   rintro D U w a8 ⟨⟨aw,ax,av,al⟩,hv,ha,_,hw⟩
   have hw:=(((((hw.dE 0 (nn a8 13)).dE 1 (nn a8 14)).dE 2 (nn a8 16)).dE 3 (nn a8 19)).dE 22 (nn a8 19)).dE 23 (nn a8 19)
   obtain⟨O,rfl⟩:=(ac (ha.at 0 rfl) (ac (ha.at 1 rfl) (ac (ha.at 2 rfl) (ac (ha.at 3 rfl) (ac (ha.at 4 rfl) (ac (ha.at 5 rfl) (ac (ha.at 6 rfl) az))))))).ir
   obtain rfl:=oi hj
   exact⟨rfl,(us829.set (Int.toNat ai) {(us829.getD (Int.toNat ai) (default:cI)) with j4:=rv al}),hw.sp 24 [4,18,19,20,21,22,23,14,15,16,17,6]⟩
  rintro _ w ⟨us877,O,rfl,hw⟩
  refine aJ ?_
  obtain⟨ez,e3,hb⟩:=bd hb
  obtain⟨e4,e5,hb⟩:=bd hb
  refine RC.Hd E V mixed [1,1,1,1,1,0,1,0,0,1,1,1,0,0,0,0,1,1,0,1,1,0] [7,8,13,14,15,18,21] (fun(x:Value×Value×Value×Value×Value)=>(fun a0 a2 a1 ar ay=>[(0,205,(vp b0 0)),(1,206,(vp b0 0)),(2,207,(vp b0 0)),(3,208,(vp b0 0)),(4,209,(vp b0 10)),(5,210,bm),(6,211,(vi bj.2)),(7,212,a0),(8,213,ar),(9,214,(vp b0 0)),(10,215,(vp b0 0)),(11,216,(vp b0 11)),(12,217,a7),(13,218,a2),(14,219,a1),(15,220,ay),(16,221,(vp b0 0)),(17,222,(vp b0 10)),(19,223,(vp b0 0)),(20,224,(vp b0 11))]) x.1 x.2.1 x.2.2.1 x.2.2.2.1 x.2.2.2.2) [(0,vp b0 0),(15,vp b9 0),(17,vi bj.2),(170,v0_3),(171,vi p0_3.length),(172,vi b3)] [] (fun(D:Nat->Bool) (x:Value×Value×Value×Value×Value)=>(fun a0 a2 a1 ar ay=>[bif D 1 then (rd a0 ([bj.2]: (List Int))) else (bif D 0 then (own 3 a0 ([bj.2]: (List Int))) else bH),bif D 2 then (rd a2 bb.1) else bH,bif D 4 then (rd a1 ([bb.1]: (List lT))) else (bif D 3 then (own 140 a1 ([bb.1]: (List lT))) else bH),bif D 6 then (bc 102 b0 [v0_0,v0_1,v0_2,v0_3,v0_4,v0_5,v0_6,ak,a4,a5,ar,ay]) else (bif D 5 then (bc 102 b0 [v0_0,v0_1,v0_2,v0_3,v0_4,v0_5,v0_6,ak,a4,a5,ar,a7]) else (bc 102 b0 [v0_0,v0_1,v0_2,v0_3,v0_4,v0_5,v0_6,ak,a4,a5,bm,a7])),rd v0_2 p0_2,rd v0_3 p0_3,rd v0_5 p0_5,rd v0_6 p0_6,own 138 ak us877,jZ cC us877 bj.1 none,rd a4 aj.2.1,rd a5 aj.2.2.1,bif D 1 then (own 3 ar ez) else (own 3 bm aj.2.2.2.1),bif D 4 then (own 140 ay e4) else (own 140 a7 aj.2.2.2.2),bx 140 b9 bb.1]) x.1 x.2.1 x.2.2.1 x.2.2.2.1 x.2.2.2.2) (fun x=>by kernel_rfl) ?_ ⟨fun _=>lP gn,fun _=>lP gn,fun _=>lP gn,fun _=>A3 gn,fun _=>qO gn Eu,?_,fun _=>lP gn,?_,?_,fun _=>lP gn,fun _=>A3 gn,fun _=>qO gn Ev,?_,?_,?_,?_,fun _=>A3 gn,fun _=>qO gn Eu,?_,fun _=>A3 gn,fun _=>qO gn Ev,?_,trivial⟩ ?_
  ·have hw:=(((hw.drew).bH).bH).bH
   exact⟨(undef,undef,undef,undef,undef),fU.none,(FQ zr),zt,hw⟩
  ·rintro D U w hD af ad ⟨⟨a0,a2,a1,ar,ay⟩,hv,ha,_,hw⟩
   obtain⟨O,rfl⟩:=(ac (hv.at 4 rfl (af.1 rfl)) az).ir
   have hw:=(hw.cL 3 (nh ad hD 21)).cL 3 (nh ad hD 18)
   refine RL.cA 3 bm hw iq ?_
   have hw:=(hw.gC 3 (D 18) (nh ad hD 18) (bc 102 b0 [v0_0,v0_1,v0_2,v0_3,v0_4,v0_5,v0_6,ak,a4,a5,ar,a7])).gC 3 (D 21) (nh ad hD 21) (bc 102 b0 [v0_0,v0_1,v0_2,v0_3,v0_4,v0_5,v0_6,ak,a4,a5,ar,ay])
   exact RL.nil ⟨rfl,(a0,a2,a1,ar,ay),hv.pu 5,ha.u,zt,hw⟩
  ·rintro D U w hD af ad ⟨⟨a0,a2,a1,ar,ay⟩,hv,ha,_,hw⟩
   obtain⟨O,rfl⟩:=(ac (hv.at 6 rfl (af.1 rfl)) az).ir
   have hw:=((hw.cL 0 (nh ad hD 8)).cL 0 hD).sc Int bj.2
   refine RL.eX ([bj.2]: (List Int)) hw [(vi bj.2)] fG Gh (fun M hs g=>⟨(g.sat 0 _ zr).1,zt⟩) fun dq w hw=>?_
   have hw:=((hw.pl 17 [0,3,4,5,6,7,8,9,10,11,12,13,14,15,16]).dF 0 true rfl bH).gC 0 (D 8) (nh ad hD 8) (rd dq ([bj.2]: (List Int)))
   exact RL.nil ⟨rfl,(dq,a2,a1,ar,ay),hv.pu 7,ha.u,zt,hw⟩
  ·rintro D U w hD af ad ⟨⟨a0,a2,a1,ar,ay⟩,hv,ha,_,hw⟩
   obtain⟨O,rfl⟩:=(ac (hv.at 5 rfl (af.1 rfl)) (ac (hv.at 7 rfl (af.2.1 rfl)) az)).ir
   have hw:=(((((hw.cL 0 hD).dE 0 (af.2.1 rfl)).cL 3 (nh ad hD 21)).cL 3 (nh ad hD 18)).cL 12 hD).freeze 0
   refine RL.app 12 0 hw uM e3 fun c5 w hw=>?_
   have hw:=((hw.dF 0 true rfl (bif D 7 then (own 3 a0 ([bj.2]: (List Int))) else bH)).gC 3 (D 18) (nh ad hD 18) (bc 102 b0 [v0_0,v0_1,v0_2,v0_3,v0_4,v0_5,v0_6,ak,a4,a5,c5,a7])).gC 3 (D 21) (nh ad hD 21) (bc 102 b0 [v0_0,v0_1,v0_2,v0_3,v0_4,v0_5,v0_6,ak,a4,a5,c5,ay])
   have hw:=hw.dF 12 true rfl (own 3 bm aj.2.2.2.1)
   exact RL.nil ⟨rfl,(a0,a2,a1,c5,ay),hv.pu 8,ha.u,zt,hw⟩
  ·rintro D U w hD af ad ⟨⟨a0,a2,a1,ar,ay⟩,hv,ha,_,hw⟩
   obtain⟨O,rfl⟩:=(ac (hv.at 11 rfl (af.1 rfl)) az).ir
   have hw:=(hw.cL 3 (nh ad hD 21)).cL 3 (nh ad hD 18)
   refine RL.cA 3 a7 hw Ic ?_
   have hw:=(hw.gC 3 (D 18) (nh ad hD 18) (bc 102 b0 [v0_0,v0_1,v0_2,v0_3,v0_4,v0_5,v0_6,ak,a4,a5,ar,a7])).gC 3 (D 21) (nh ad hD 21) (bc 102 b0 [v0_0,v0_1,v0_2,v0_3,v0_4,v0_5,v0_6,ak,a4,a5,ar,ay])
   exact RL.nil ⟨rfl,(a0,a2,a1,ar,ay),hv.pu 12,ha.u,zt,hw⟩
  ·rintro D U w hD af ad ⟨⟨a0,a2,a1,ar,ay⟩,hv,ha,_,hw⟩
   obtain⟨O,rfl⟩:=(ac (ha.at 1 rfl) az).ir
   have hw:=hw.cL 1 hD
   refine RL.aV (f:=(fun x=>x)) 14 hw zr Fd.self wx fun e6 hw=>?_
   have hw:=(hw.pl 16 [1,0,3,4,5,6,7,8,9,10,11,12,13,14,15]).dF 1 true rfl bH
   exact RL.nil ⟨rfl,(a0,e6,a1,ar,ay),hv.pu 13,ha.u,zt,hw⟩
  ·rintro D U w hD af ad ⟨⟨a0,a2,a1,ar,ay⟩,hv,ha,_,hw⟩
   obtain⟨O,rfl⟩:=(ac (hv.at 13 rfl (af.1 rfl)) az).ir
   have hw:=((hw.dE 1 (af.1 rfl)).cL 2 (nh ad hD 15)).cL 2 hD
   refine RL.eX ([bb.1]: (List lT)) hw [a2] Kn Gs (fun M hs g=>⟨(g.sat 1 _ zr).1,zt⟩) fun dr w hw=>?_
   have hw:=(((hw.pl 16 [1,2,0,4,5,6,7,8,9,10,11,12,13,14,15]).dF 1 (D 13) (af.1 rfl) bH).dF 2 true rfl bH).gC 2 (D 15) (nh ad hD 15) (rd dr ([bb.1]: (List lT)))
   exact RL.nil ⟨rfl,(a0,a2,dr,ar,ay),hv.pu 14,ha.u,zt,hw⟩
  ·rintro D U w hD af ad ⟨⟨a0,a2,a1,ar,ay⟩,hv,ha,_,hw⟩
   obtain⟨O,rfl⟩:=(ac (hv.at 12 rfl (af.1 rfl)) (ac (hv.at 14 rfl (af.2.1 rfl)) az)).ir
   have hw:=(((((hw.cL 2 hD).dE 2 (af.2.1 rfl)).cL 3 (nh ad hD 21)).cL 3 (nh ad hD 18)).cL 13 hD).freeze 2
   refine RL.app 13 2 hw Ko e5 fun ds w hw=>?_
   have hw:=((hw.dF 2 true rfl (bif D 14 then (own 140 a1 ([bb.1]: (List lT))) else bH)).gC 3 (D 18) (nh ad hD 18) (bc 102 b0 [v0_0,v0_1,v0_2,v0_3,v0_4,v0_5,v0_6,ak,a4,a5,ar,a7])).gC 3 (D 21) (nh ad hD 21) (bc 102 b0 [v0_0,v0_1,v0_2,v0_3,v0_4,v0_5,v0_6,ak,a4,a5,ar,ds])
   have hw:=hw.dF 13 true rfl (own 140 a7 aj.2.2.2.2)
   exact RL.nil ⟨rfl,(a0,a2,a1,ar,ds),hv.pu 15,ha.u,zt,hw⟩
  ·rintro D U w hD af ad ⟨⟨a0,a2,a1,ar,ay⟩,hv,ha,_,hw⟩
   obtain⟨O,rfl⟩:=(ac (hv.at 8 rfl (af.2.1 rfl)) (ac (hv.at 17 rfl (af.1 rfl)) az)).ir
   have hw:=((hw.cL 3 (nh ad hD 21)).cL 3 hD).dE 12 (af.2.1 rfl)
   refine RL.gW 3 ar hw zr zr (eM 12 hw) iq fun w hw=>?_
   have hw:=((hw.dF 3 true rfl (bc 102 b0 [v0_0,v0_1,v0_2,v0_3,v0_4,v0_5,v0_6,ak,a4,a5,bm,a7])).gC 3 (D 21) (nh ad hD 21) (bc 102 b0 [v0_0,v0_1,v0_2,v0_3,v0_4,v0_5,v0_6,ak,a4,a5,ar,ay])).dF 12 (D 8) (af.2.1 rfl) (own 3 bm aj.2.2.2.1)
   exact RL.nil ⟨rfl,(a0,a2,a1,ar,ay),hv.n1,ha,zt,hw⟩
  ·rintro D U w hD af ad ⟨⟨a0,a2,a1,ar,ay⟩,hv,ha,_,hw⟩
   obtain⟨O,rfl⟩:=(ac (hv.at 15 rfl (af.2.1 rfl)) (ac (hv.at 19 rfl (af.1 rfl)) az)).ir
   have hw:=((hw.cL 3 hD).dE 3 (af.2.2.1 rfl)).dE 13 (af.2.1 rfl)
   refine RL.gW 3 ay hw zr zr (eM 13 hw) Ic fun w hw=>?_
   have hw:=(hw.dF 3 true rfl (bif D 18 then (bc 102 b0 [v0_0,v0_1,v0_2,v0_3,v0_4,v0_5,v0_6,ak,a4,a5,ar,a7]) else (bc 102 b0 [v0_0,v0_1,v0_2,v0_3,v0_4,v0_5,v0_6,ak,a4,a5,bm,a7]))).dF 13 (D 15) (af.2.1 rfl) (own 140 a7 aj.2.2.2.2)
   exact RL.nil ⟨rfl,(a0,a2,a1,ar,ay),hv.n1,ha,zt,hw⟩
  rintro D U w a8 ⟨⟨a0,a2,a1,ar,ay⟩,hv,ha,_,hw⟩
  have hw:=(((((hw.dE 0 (nn a8 8)).dE 1 (nn a8 13)).dE 2 (nn a8 15)).dE 3 (nn a8 21)).dE 12 (nn a8 8)).dE 13 (nn a8 15)
  obtain⟨O,rfl⟩:=(ac (ha.at 0 rfl) (ac (ha.at 1 rfl) (ac (ha.at 2 rfl) (ac (ha.at 3 rfl) (ac (ha.at 4 rfl) (ac (ha.at 5 rfl) az)))))).ir
  refine bQ (aJ (RC.region (RL.inc hk hm (mv (vi ((b3+1:Nat):Int)) (RL.nil ?_)))))
  obtain rfl:=oi hb
  exact⟨rfl,a4,a5,ar,ay,us877,hw.sp 15 [3,10,11,12,13,4,5,6,7,8,9]⟩
 rintro _ w ⟨cq,cr,ct,cu,us824,O,rfl,hw⟩
 obtain rfl:=oi hb
 have hw:=hw.A1 (X:=cC) (b:=10) (j:=9) rfl (fun M h u x cs=>Ba M h u x cs) rfl rfl (by decide)
 refine D6 ?_
 exact Iw zr ⟨ak,cq,cr,ct,cu,zr,hw.pk 11 [0,9,1,2,3,4]⟩
def ve (E:World) (V:List HP) (res:Option ((List (List aG))×(List aG)×(List bJ)×(List cU)×(List (List aA))×(List aN)×(List (List Int))×(List eB)×(List Int)×(List Int)×(List Int)×(List lT))×Int) (v:Value) (w:World):Prop:=Jf res.1 (v = .tuple #[(.pointer none),(vi res.2)]/\Holds E w V) (fun y=>∃(ub0:Nat) (u0_0 u0_1:Value) (u0_2 u0_3:Value) (u0_4 u0_5:Value) (u0_6 u0_7:Value) (u0_8 u0_9:Value) (u0_10 u0_11:Value),v = .tuple #[vp ub0 0,(vi res.2)]/\Holds E w ([bc 102 ub0 [u0_0,u0_1,u0_2,u0_3,u0_4,u0_5,u0_6,u0_7,u0_8,u0_9,u0_10,u0_11],rd u0_0 y.1,rd u0_1 y.2.1,rd u0_2 y.2.2.1,rd u0_3 y.2.2.2.1,own 38 u0_4 y.2.2.2.2.1,rd u0_5 y.2.2.2.2.2.1,rd u0_6 y.2.2.2.2.2.2.1,own 138 u0_7 y.2.2.2.2.2.2.2.1,rd u0_8 y.2.2.2.2.2.2.2.2.1,rd u0_9 y.2.2.2.2.2.2.2.2.2.1,own 3 u0_10 y.2.2.2.2.2.2.2.2.2.2.1,own 140 u0_11 y.2.2.2.2.2.2.2.2.2.2.2]++V))
def qV (E:World) (V:List HP) (r:Option ((List (List aG))×(List aG)×(List bJ)×(List cU)×(List (List aA))×(List aN)×(List (List Int))×(List eB)×(List Int)×(List Int)×(List Int)×(List lT))×Int) (U:Nat->Value) (w:World):Prop:=l6 bD 112 Tryz.f36 (ve E V r) .ret U w
theorem yY {p0:fu} {res:Option ((List (List aG))×(List aG)×(List bJ)×(List cU)×(List (List aA))×(List aN)×(List (List Int))×(List eB)×(List Int)×(List Int)×(List Int)×(List lT))×Int} (j:Holds E w V) (h0:V[i0]? =some (rd v0 p0)) (o:kf N p0=some res):
    Calls bD 36 [v0].toArray w (gm (ve E V res)):=by
 unfold kf at o
 refine enter Tryz.func36 zr zr ?_
 have j:=j.dup (i0+0) h0
 refine RC.sr (RL.dA 0 v0 j zr fun ao w j=>?_)
 refine aP (.pointer none) (aP (vi 0) (RL.nq (RC.sr (RL.aX zr fB (RL.aV 0 j zr dX lk fun c2 j=>(RL.bA 0 p0.aI j oN (ic ((p0.aI.length:Int)) 0 (RL.nt ?_))))))))
 refine dW o (fun hc o=>?_) fun hc o=>?_
 ·refine RC.sr (aP (.pointer none) (aP (vi 9) (RL.nt (RC.rt ?_))))
  obtain rfl:=oi o
  exact vo ⟨rfl,j.drop 3⟩
 refine RC.ss (RC.sr (RL.aX zr fB (RL.aV 1 j zr dX lk fun c3 j=>(RL.bA 0 p0.aI j oN (ic ((p0.aI.length:Int)) 16 (RL.nt (dW o (fun hc o=>?_) fun hc o=>?_)))))))
 ·refine RC.sr (aP (.pointer none) (aP (vi 2) (RL.nt (RC.rt ?_))))
  obtain rfl:=oi o
  exact vo ⟨rfl,j.drop 4⟩
 refine RC.sx (RL.aX zr tE (RL.aV 2 j zr nV nL fun c4 j=>(RL.bA 0 p0.bZ j mS (aP (vi p0.bZ.length) (RL.nq (RC.sr (RL.aX zr fB (RL.aV 3 j zr dX lk fun bp j=>?_))))))))
 refine RL.bA 0 p0.aI j oN (mv (vi 0) (RL.nt ?_))
 obtain⟨c5,hN,o⟩:=bd o
 refine RC.range (fun(bk:Nat) (ay:Int)=>SH E V [(1,vp ao 0),(4,vi ay),(28,bp),(29,vi p0.aI.length),(30,vi bk)] [bx 27 ao p0,rd bp p0.aI]) (fun(ay:Int)=>SH E V [(1,vp ao 0),(4,vi ay)] [bx 27 ao p0,rd bp p0.aI]) (qV E V) hN ?_ ?_ ?_ ?_ ?_
 ·exact j.sp 6 [4,0]
 ·rintro hm ay _ w ⟨O,rfl,j⟩
  refine RC.sr (ic ((p0.aI.length:Int)) ((p0.aI.length:Int)) (RL.nq (RC.eZ r5 (RC.ex ?_))))
  exact⟨rfl,j.sp 2 [0,1]⟩
 ·rintro hm bk ay fl _ w hk ⟨O,rfl,j⟩ o
  refine RC.sr (ic ((bk:Int)) ((p0.aI.length:Int)) (RL.nq (RC.eY (rZ hk) (RC.ss (RC.bs ?_)))))
  obtain⟨bl,bz,o⟩:=bd o
  refine RL.bP 1 j oz bz fun c6 j=>(RL.bF 0 bl j nL fun bm j=>(aP bm (RL.nq (RC.sr (mv bm ?_)))))
  obtain⟨a8,b0,o⟩:=bd o
  refine RL.call zt zr HB [bm] zr (aC (kj N (i0:=0) j zr b0) ?_)
  rintro _ w ⟨rfl,j⟩
  refine aP (vi a8) (RL.ns (mv (vi a8) (ic a8 0 (RL.nt (dW o (fun hc o=>?_) fun hc o=>?_)))))
  ·refine RC.sr (mv (vi a8) (aP (.pointer none) (aP (vi a8) (RL.nt (RC.rt (nS (bL ?_)))))))
   obtain rfl:=oi o
   exact⟨rfl,vo ⟨rfl,j.drop 4⟩⟩
  refine RC.sn (RC.region (mv (vi ay) (mv bm (RL.bA 0 bl j mS (RL.gQ ay (bl.length:Int) (aP (vi (IntKind.wrap .i64 (ay+ (bl.length:Int)))) (RL.nil (bQ ?_))))))))
  refine aJ (RC.region (RL.inc hk hm (mv (vi ((bk+1:Nat):Int)) (RL.nil ?_))))
  obtain rfl:=oi o
  exact⟨rfl,j.sp 4 [2,3]⟩
 ·intro r U w e hK
  subst e
  refine bL ?_
  obtain rfl:=oi o
  exact hK
 rintro ay _ w rfl ⟨O,rfl,j⟩
 rw [Fo.dQ] at o
 refine aJ (RC.seq (RC.sr (RL.aX zr tE (RL.aV 0 j zr nV nL fun b1 j=>?_))))
 obtain⟨ba,b2,o⟩:=bd o
 refine RL.call zt zr HB [b1] zr (aC (kj N (i0:=0) j zr b2) ?_)
 rintro _ w ⟨rfl,j⟩
 refine aP (vi ba) (RL.ns (mv (vi ba) (ic ba 0 (RL.nt (dW o (fun hc o=>?_) fun hc o=>?_)))))
 ·refine RC.sr (mv (vi ba) (aP (.pointer none) (aP (vi ba) (RL.nt (RC.rt ?_)))))
  obtain rfl:=oi o
  exact vo ⟨rfl,j.drop 3⟩
 refine RC.ss (RC.sr (mv (vi ay) (ic ay 2000 (RL.nt (dW o (fun hc o=>?_) fun hc o=>?_)))))
 ·refine RC.sr (aP (.pointer none) (aP (vi 2) (RL.nt (RC.rt ?_))))
  obtain rfl:=oi o
  exact vo ⟨rfl,j.drop 3⟩
 refine RC.ss (RC.sr (RL.aV (f:=(fun x=>x)) 1 j zr Fd.self eJ fun b3 j=>?_))
 obtain⟨bb,b4,o⟩:=bd o
 refine RL.call zt zr LH [b3] zr (aC (tI N (i0:=0) j zr b4) ?_)
 rintro _ w ⟨rfl,j⟩
 refine aP (vi bb) (RL.ns (mv (vi bb) (ic bb 0 (RL.nt (dW o (fun hc o=>?_) fun hc o=>?_)))))
 ·refine RC.sr (mv (vi bb) (aP (.pointer none) (aP (vi bb) (RL.nt (RC.rt ?_)))))
  obtain rfl:=oi o
  exact vo ⟨rfl,j.drop 4⟩
 refine RC.ss (RC.sr (RL.aV (f:=(fun x=>x)) 2 j zr Fd.self eJ fun b5 j=>?_))
 obtain⟨bc,b6,o⟩:=bd o
 refine RL.call zt zr LN [b5] zr (aC (tL N (i0:=0) j zr b6) ?_)
 rintro _ w ⟨rfl,j⟩
 refine aP (vi bc) (RL.ns (mv (vi bc) (ic bc 0 (RL.nt (dW o (fun hc o=>?_) fun hc o=>?_)))))
 ·refine RC.sr (mv (vi bc) (aP (.pointer none) (aP (vi bc) (RL.nt (RC.rt ?_)))))
  obtain rfl:=oi o
  exact vo ⟨rfl,j.drop 5⟩
 refine RC.ss (RC.sr (RL.aX zr jm (RL.aV 3 j zr hU o4 fun av j=>(RL.bA 0 p0.aR j tF (mv (vi 0) (RL.nt ?_))))))
 obtain⟨c7,hN,o⟩:=bd o
 refine RC.range (fun(ax:Nat) (bn:Unit)=>SH E V [(1,vp ao 0),(63,av),(64,vi p0.aR.length),(65,vi ax)] [bx 27 ao p0,rd av p0.aR]) (fun(bn:Unit)=>SH E V [(1,vp ao 0)] [bx 27 ao p0,rd av p0.aR]) (qV E V) hN ?_ ?_ ?_ ?_ ?_
 ·exact j.sp 6 [4,0]
 ·rintro hm bn _ w ⟨O,rfl,j⟩
  refine RC.sr (ic ((p0.aR.length:Int)) ((p0.aR.length:Int)) (RL.nq (RC.eZ r5 (RC.ex ?_))))
  exact⟨rfl,j.sp 2 [0,1]⟩
 ·rintro hm ax bn fl _ w hk ⟨O,rfl,j⟩ o
  refine RC.sr (ic ((ax:Int)) ((p0.aR.length:Int)) (RL.nq (RC.eY (rZ hk) (RC.ss (RC.bs (mv (vi ax) ?_))))))
  obtain⟨ad,b7,o⟩:=bd o
  refine RL.bP 1 j tg b7 fun c8 j=>(RL.bF 0 ad j mJ fun c9 j=>(RL.alloc j Cx.z fun an w j=>?_))
  refine aP (vi ax) (RL.aY 0 j 1 zr mJ fun w j=>?_)
  refine RL.ns (RL.aX zr jm (RL.aV 3 j zr hU o4 fun da j=>(mv (vi ax) ?_)))
  obtain⟨aw,b8,o⟩:=bd o
  refine RL.cut (hl:= .inr ⟨rfl,zr⟩) 0 j tg (.inl zr) b8 fun a2 j=>(RL.bA 0 aw j tF (mv (vi 0) (RL.nt ?_)))
  obtain⟨db,hN,o⟩:=bd o
  refine RC.range (fun(a5:Nat) (bo:Unit)=>SH E V [(1,vp ao 0),(12,vp an 0),(63,av),(64,vi p0.aR.length),(65,vi ax),(73,a2),(74,vi aw.length),(75,vi a5)] [bx 27 ao p0,bx 46 an ad,rd av p0.aR,rd a2 aw]) (fun(bo:Unit)=>SH E V [(1,vp ao 0),(63,av),(64,vi p0.aR.length),(65,vi ax)] [bx 27 ao p0,bx 46 an ad,rd av p0.aR,rd a2 aw]) (qV E V) hN ?_ ?_ ?_ ?_ ?_
  ·exact j.sp 7 [5,2,6,0]
  ·rintro hm bo _ w ⟨O,rfl,j⟩
   refine RC.sr (ic ((aw.length:Int)) ((aw.length:Int)) (RL.nq (RC.eZ r5 (RC.ex ?_))))
   exact⟨rfl,j.sp 4 [0,1,2,3]⟩
  ·rintro hm a5 bo fl _ w hk ⟨O,rfl,j⟩ o
   refine RC.sr (ic ((a5:Int)) ((aw.length:Int)) (RL.nq (RC.eY (rZ hk) (RC.ss (RC.bs ?_)))))
   obtain⟨ab,b9,o⟩:=bd o
   refine RL.bP 3 j tg b9 fun bu j=>(RL.bF 0 ab j mJ fun bw j=>(RL.alloc j Cx.z fun au w j=>?_))
   refine RL.aY 0 j 1 zr mJ fun w j=>?_
   refine RL.nq ?_
   obtain⟨bq,hj,o⟩:=bd o
   refine RC.jn (fun(bq:Bool)=>SH E V [(1,vp ao 0),(12,vp an 0),(63,av),(64,vi p0.aR.length),(65,vi ax),(73,a2),(74,vi aw.length),(75,vi a5),(98,vb bq)] [bx 27 ao p0,bx 46 an ad,rd av p0.aR,rd a2 aw]) bq ?_ ?_
   ·refine gu hj (fun ar hj=>?_) fun ar hj=>?_
    rotate_left
    ·refine RC.Hd E V mixed [1,0,1,0,1,1,0,0,0,0,0,0,1,1,1,1,1,1,1,1] [] (fun(x:Unit)=>[(0,79,(vp an 3)),(1,80,(vi ad.cH)),(2,81,(vp au 4)),(3,82,(vi ab.To)),(4,83,(vb (decide (ad.cH<=ab.To)))),(5,84,(vb (decide (ad.cH<=ab.To)))),(6,85,(cv (true&&((decide (ad.cH<=ab.To))==true)) (vp au 3))),(7,86,(cv (true&&((decide (ad.cH<=ab.To))==true)) (vi ab.cH))),(8,87,(cv (true&&((decide (ad.cH<=ab.To))==true)) (vp an 4))),(9,88,(cv (true&&((decide (ad.cH<=ab.To))==true)) (vi ad.To))),(10,89,(cv (true&&((decide (ad.cH<=ab.To))==true)) (vb (decide (ab.cH<=ad.To))))),(11,90,(vb ((decide (ad.cH<=ab.To))&&(decide (ab.cH<=ad.To))))),(12,91,(vb ((decide (ad.cH<=ab.To))&&(decide (ab.cH<=ad.To))))),(13,92,undef),(14,93,undef),(15,94,undef),(16,95,undef),(17,96,undef),(18,97,undef),(19,98,(vb false))]) [(1,vp ao 0),(12,vp an 0),(14,vp au 0),(63,av),(64,vi p0.aR.length),(65,vi ax),(73,a2),(74,vi aw.length),(75,vi a5)] [] (fun(D:Nat->Bool) (x:Unit)=>[bx 46 au ab,rd bw ab,pt bu ab,bx 27 ao p0,bx 46 an ad,rd av p0.aR,rd a2 aw]) (fun x=>by kernel_rfl) ?_ ⟨fun _=>qO gn o5,?_,fun _=>qO gn qQ,?_,fun _=>IJ gn rfl,fun _=>lP gn,?_,?_,?_,?_,?_,?_,fun _=>lP gn,fun _=>E3 ar,fun _=>E3 ar,fun _=>E3 ar,fun _=>E3 ar,fun _=>E3 ar,fun _=>E3 ar,fun _=>Lp gn ar rfl,trivial⟩ ?_
     ·have j:=j.drew
      exact⟨(),fU.none,(FQ zr),zt,j⟩
     ·rintro D U w hD af al ⟨_,hv,ha,_,j⟩
      obtain⟨O,rfl⟩:=(ac (hv.at 0 rfl (af.1 rfl)) az).ir
      refine RL.aL 4 j zr j8 cF ?_
      exact RL.nil ⟨rfl,(),hv.pu 1,ha.u,zt,j⟩
     ·rintro D U w hD af al ⟨_,hv,ha,_,j⟩
      obtain⟨O,rfl⟩:=(ac (hv.at 2 rfl (af.1 rfl)) az).ir
      refine RL.aL 0 j zr lK cF ?_
      exact RL.nil ⟨rfl,(),hv.pu 3,ha.u,zt,j⟩
     ·rintro D U w hD af al ⟨_,hv,ha,_,j⟩
      obtain⟨O,rfl⟩:=(ac (hv.at 5 rfl (af.1 rfl)) (ac (ha.at 2 rfl) az)).ir
      refine RL.gs true (decide (ad.cH<=ab.To)) (vp au 3) zr zr zr (dP o5) ?_
      exact RL.nil ⟨rfl,(),hv.pu 6,ha.u,zt,j⟩
     ·rintro D U w hD af al ⟨_,hv,ha,_,j⟩
      obtain⟨O,rfl⟩:=(ac (hv.at 5 rfl (af.2.1 rfl)) (ac (hv.at 6 rfl (af.1 rfl)) az)).ir
      refine RL.gs true (decide (ad.cH<=ab.To)) (vi ab.cH) rfl rfl rfl (bT 0 rfl j (fun h=>by exact(cG h:cv (true&&((decide (ad.cH<=ab.To))==true)) (vp au 3)= (vp au 3))) rfl j8 cF) ?_
      exact RL.nil ⟨rfl,(),hv.pu 7,ha.u,zt,j⟩
     ·rintro D U w hD af al ⟨_,hv,ha,_,j⟩
      obtain⟨O,rfl⟩:=(ac (hv.at 5 rfl (af.1 rfl)) (ac (ha.at 1 rfl) az)).ir
      refine RL.gs true (decide (ad.cH<=ab.To)) (vp an 4) zr zr zr (dP qQ) ?_
      exact RL.nil ⟨rfl,(),hv.pu 8,ha.u,zt,j⟩
     ·rintro D U w hD af al ⟨_,hv,ha,_,j⟩
      obtain⟨O,rfl⟩:=(ac (hv.at 5 rfl (af.2.1 rfl)) (ac (hv.at 8 rfl (af.1 rfl)) az)).ir
      refine RL.gs true (decide (ad.cH<=ab.To)) (vi ad.To) rfl rfl rfl (bT 4 rfl j (fun h=>by exact(cG h:cv (true&&((decide (ad.cH<=ab.To))==true)) (vp an 4)= (vp an 4))) rfl lK cF) ?_
      exact RL.nil ⟨rfl,(),hv.pu 9,ha.u,zt,j⟩
     ·rintro D U w hD af al ⟨_,hv,ha,_,j⟩
      obtain⟨O,rfl⟩:=(ac (hv.at 5 rfl (af.2.2.1 rfl)) (ac (hv.at 7 rfl (af.1 rfl)) (ac (hv.at 9 rfl (af.2.1 rfl)) az))).ir
      refine RL.gs true (decide (ad.cH<=ab.To)) (vb (decide (ab.cH<=ad.To))) rfl rfl rfl (dK .leq .i64 ab.cH ad.To rfl (fun h=>by exact(cG h:cv (true&&((decide (ad.cH<=ab.To))==true)) (vi ab.cH)= (vi ab.cH))) (fun h=>by exact(cG h:cv (true&&((decide (ad.cH<=ab.To))==true)) (vi ad.To)= (vi ad.To))) rfl) ?_
      exact RL.nil ⟨rfl,(),hv.pu 10,ha.u,zt,j⟩
     ·rintro D U w hD af al ⟨_,hv,ha,_,j⟩
      obtain⟨O,rfl⟩:=(ac (hv.at 5 rfl (af.1 rfl)) (ac (hv.at 10 rfl (af.2.1 rfl)) az)).ir
      refine RL.pick (decide (ad.cH<=ab.To)) (vb ((decide (ad.cH<=ab.To))&&(decide (ab.cH<=ad.To)))) (gr true) ?_
      exact RL.nil ⟨rfl,(),hv.pu 11,ha.u,zt,j⟩
     rintro D U w a6 ⟨_,hv,ha,_,j⟩
     obtain⟨O,rfl⟩:=(ac (hv.at 19 rfl (nn a6 19)) (ac (ha.at 0 rfl) (ac (ha.at 1 rfl) (ac (ha.at 2 rfl) (ac (ha.at 3 rfl) (ac (ha.at 4 rfl) (ac (ha.at 5 rfl) (ac (ha.at 6 rfl) (ac (ha.at 7 rfl) (ac (ha.at 8 rfl) az)))))))))).ir
     obtain rfl:=oi hj
     exact⟨rfl,j.sp 7 [3,4,5,6]⟩
    obtain⟨ca,cb,hj⟩:=bd hj
    obtain⟨cc,cd,hj⟩:=bd hj
    obtain⟨br,cf,hj⟩:=bd hj
    refine RC.Hd E V mixed [1,0,1,0,1,1,0,0,0,0,0,0,1,0,0,0,0,0,1,1] [13,14,15,16] (fun(x:Value×Value×Value×Value)=>(fun ag ah ai aj=>[(0,79,(vp an 3)),(1,80,(vi ad.cH)),(2,81,(vp au 4)),(3,82,(vi ab.To)),(4,83,(vb (decide (ad.cH<=ab.To)))),(5,84,(vb (decide (ad.cH<=ab.To)))),(6,85,(cv (true&&((decide (ad.cH<=ab.To))==true)) (vp au 3))),(7,86,(cv (true&&((decide (ad.cH<=ab.To))==true)) (vi ab.cH))),(8,87,(cv (true&&((decide (ad.cH<=ab.To))==true)) (vp an 4))),(9,88,(cv (true&&((decide (ad.cH<=ab.To))==true)) (vi ad.To))),(10,89,(cv (true&&((decide (ad.cH<=ab.To))==true)) (vb (decide (ab.cH<=ad.To))))),(11,90,(vb ((decide (ad.cH<=ab.To))&&(decide (ab.cH<=ad.To))))),(12,91,(vb ((decide (ad.cH<=ab.To))&&(decide (ab.cH<=ad.To))))),(13,92,ag),(14,93,ah),(15,94,ai),(16,95,aj),(17,96,(vi br)),(18,97,(vb (br==0))),(19,98,(vb (br==0)))]) x.1 x.2.1 x.2.2.1 x.2.2.2) [(1,vp ao 0),(12,vp an 0),(14,vp au 0),(63,av),(64,vi p0.aR.length),(65,vi ax),(73,a2),(74,vi aw.length),(75,vi a5)] [] (fun(D:Nat->Bool) (x:Value×Value×Value×Value)=>(fun ag ah ai aj=>[bif D 0 then (rd ag ad) else bH,bif D 1 then (rd ah ca) else bH,bif D 2 then (rd ai ab) else bH,bif D 3 then (rd aj cc) else bH,bx 46 au ab,rd bw ab,pt bu ab,bx 27 ao p0,bx 46 an ad,rd av p0.aR,rd a2 aw]) x.1 x.2.1 x.2.2.1 x.2.2.2) (fun x=>by kernel_rfl) ?_ ⟨fun _=>qO gn o5,?_,fun _=>qO gn qQ,?_,fun _=>IJ gn rfl,fun _=>lP gn,?_,?_,?_,?_,?_,?_,fun _=>lP gn,?_,?_,?_,?_,?_,fun _=>IJ (gy ar rfl) rfl,fun _=>Lo gn ar rfl,trivial⟩ ?_
    ·have j:=((((j.drew).bH).bH).bH).bH
     exact⟨(undef,undef,undef,undef),fU.none,(FQ zr),zt,j⟩
    ·rintro D U w hD af al ⟨⟨ag,ah,ai,aj⟩,hv,ha,_,j⟩
     obtain⟨O,rfl⟩:=(ac (hv.at 0 rfl (af.1 rfl)) az).ir
     refine RL.aL 8 j zr j8 cF ?_
     exact RL.nil ⟨rfl,(ag,ah,ai,aj),hv.pu 1,ha.u,zt,j⟩
    ·rintro D U w hD af al ⟨⟨ag,ah,ai,aj⟩,hv,ha,_,j⟩
     obtain⟨O,rfl⟩:=(ac (hv.at 2 rfl (af.1 rfl)) az).ir
     refine RL.aL 4 j zr lK cF ?_
     exact RL.nil ⟨rfl,(ag,ah,ai,aj),hv.pu 3,ha.u,zt,j⟩
    ·rintro D U w hD af al ⟨⟨ag,ah,ai,aj⟩,hv,ha,_,j⟩
     obtain⟨O,rfl⟩:=(ac (hv.at 5 rfl (af.1 rfl)) (ac (ha.at 2 rfl) az)).ir
     refine RL.gs true (decide (ad.cH<=ab.To)) (vp au 3) zr zr zr (dP o5) ?_
     exact RL.nil ⟨rfl,(ag,ah,ai,aj),hv.pu 6,ha.u,zt,j⟩
    ·rintro D U w hD af al ⟨⟨ag,ah,ai,aj⟩,hv,ha,_,j⟩
     obtain⟨O,rfl⟩:=(ac (hv.at 5 rfl (af.2.1 rfl)) (ac (hv.at 6 rfl (af.1 rfl)) az)).ir
     refine RL.gs true (decide (ad.cH<=ab.To)) (vi ab.cH) rfl rfl rfl (bT 4 rfl j (fun h=>by exact(cG h:cv (true&&((decide (ad.cH<=ab.To))==true)) (vp au 3)= (vp au 3))) rfl j8 cF) ?_
     exact RL.nil ⟨rfl,(ag,ah,ai,aj),hv.pu 7,ha.u,zt,j⟩
    ·rintro D U w hD af al ⟨⟨ag,ah,ai,aj⟩,hv,ha,_,j⟩
     obtain⟨O,rfl⟩:=(ac (hv.at 5 rfl (af.1 rfl)) (ac (ha.at 1 rfl) az)).ir
     refine RL.gs true (decide (ad.cH<=ab.To)) (vp an 4) zr zr zr (dP qQ) ?_
     exact RL.nil ⟨rfl,(ag,ah,ai,aj),hv.pu 8,ha.u,zt,j⟩
    ·rintro D U w hD af al ⟨⟨ag,ah,ai,aj⟩,hv,ha,_,j⟩
     obtain⟨O,rfl⟩:=(ac (hv.at 5 rfl (af.2.1 rfl)) (ac (hv.at 8 rfl (af.1 rfl)) az)).ir
     refine RL.gs true (decide (ad.cH<=ab.To)) (vi ad.To) rfl rfl rfl (bT 8 rfl j (fun h=>by exact(cG h:cv (true&&((decide (ad.cH<=ab.To))==true)) (vp an 4)= (vp an 4))) rfl lK cF) ?_
     exact RL.nil ⟨rfl,(ag,ah,ai,aj),hv.pu 9,ha.u,zt,j⟩
    ·rintro D U w hD af al ⟨⟨ag,ah,ai,aj⟩,hv,ha,_,j⟩
     obtain⟨O,rfl⟩:=(ac (hv.at 5 rfl (af.2.2.1 rfl)) (ac (hv.at 7 rfl (af.1 rfl)) (ac (hv.at 9 rfl (af.2.1 rfl)) az))).ir
     refine RL.gs true (decide (ad.cH<=ab.To)) (vb (decide (ab.cH<=ad.To))) rfl rfl rfl (dK .leq .i64 ab.cH ad.To rfl (fun h=>by exact(cG h:cv (true&&((decide (ad.cH<=ab.To))==true)) (vi ab.cH)= (vi ab.cH))) (fun h=>by exact(cG h:cv (true&&((decide (ad.cH<=ab.To))==true)) (vi ad.To)= (vi ad.To))) rfl) ?_
     exact RL.nil ⟨rfl,(ag,ah,ai,aj),hv.pu 10,ha.u,zt,j⟩
    ·rintro D U w hD af al ⟨⟨ag,ah,ai,aj⟩,hv,ha,_,j⟩
     obtain⟨O,rfl⟩:=(ac (hv.at 5 rfl (af.1 rfl)) (ac (hv.at 10 rfl (af.2.1 rfl)) az)).ir
     refine RL.pick (decide (ad.cH<=ab.To)) (vb ((decide (ad.cH<=ab.To))&&(decide (ab.cH<=ad.To)))) (gr true) ?_
     exact RL.nil ⟨rfl,(ag,ah,ai,aj),hv.pu 11,ha.u,zt,j⟩
    ·rintro D U w hD af al ⟨⟨ag,ah,ai,aj⟩,hv,ha,_,j⟩
     obtain⟨O,rfl⟩:=(ac (hv.at 12 rfl (af.1 rfl)) (ac (ha.at 1 rfl) az)).ir
     have j:=j.cL 0 hD
     refine RL.aV (hg:=(cg ar)) (f:=(fun x=>x)) 8 j zr Fd.self mJ fun ch j=>?_
     have j:=(j.pl 12 [0,2,3,4,5,6,7,8,9,10,11]).dF 0 true rfl bH
     exact RL.nil ⟨rfl,(ch,ah,ai,aj),hv.pu 13,ha.u,zt,j⟩
    ·rintro D U w hD af al ⟨⟨ag,ah,ai,aj⟩,hv,ha,_,j⟩
     obtain⟨O,rfl⟩:=(ac (hv.at 12 rfl (af.2.1 rfl)) (ac (hv.at 13 rfl (af.1 rfl)) az)).ir
     have j:=(j.dE 0 (af.1 rfl)).cL 1 hD
     refine RL.call (cg ar) zr E9 [ag] zr (aC (iV N (i0:=0) j zr cb) ?_)
     rintro cj w j
     have j:=((j.pl 12 [1,0,3,4,5,6,7,8,9,10,11]).dF 0 (D 13) (af.1 rfl) bH).dF 1 true rfl bH
     exact RL.nil ⟨rfl,(ag,cj,ai,aj),hv.pu 14,ha.u,zt,j⟩
    ·rintro D U w hD af al ⟨⟨ag,ah,ai,aj⟩,hv,ha,_,j⟩
     obtain⟨O,rfl⟩:=(ac (hv.at 12 rfl (af.1 rfl)) (ac (ha.at 2 rfl) az)).ir
     have j:=j.cL 2 hD
     refine RL.aV (hg:=(cg ar)) (f:=(fun x=>x)) 4 j zr Fd.self mJ fun ck j=>?_
     have j:=(j.pl 12 [1,2,0,4,5,6,7,8,9,10,11]).dF 2 true rfl bH
     exact RL.nil ⟨rfl,(ag,ah,ck,aj),hv.pu 15,ha.u,zt,j⟩
    ·rintro D U w hD af al ⟨⟨ag,ah,ai,aj⟩,hv,ha,_,j⟩
     obtain⟨O,rfl⟩:=(ac (hv.at 12 rfl (af.2.2.1 rfl)) (ac (hv.at 15 rfl (af.1 rfl)) az)).ir
     have j:=(j.dE 2 (af.1 rfl)).cL 3 hD
     refine RL.call (cg ar) zr E9 [ai] zr (aC (iV N (i0:=2) j zr cd) ?_)
     rintro cl w j
     have j:=((j.pl 12 [1,2,3,0,5,6,7,8,9,10,11]).dF 2 (D 15) (af.1 rfl) bH).dF 3 true rfl bH
     exact RL.nil ⟨rfl,(ag,ah,ai,cl),hv.pu 16,ha.u,zt,j⟩
    ·rintro D U w hD af al ⟨⟨ag,ah,ai,aj⟩,hv,ha,_,j⟩
     obtain⟨O,rfl⟩:=(ac (hv.at 12 rfl (af.2.2.2.1 rfl)) (ac (hv.at 14 rfl (af.1 rfl)) (ac (hv.at 16 rfl (af.2.1 rfl)) az))).ir
     have j:=(j.dE 1 (af.1 rfl)).dE 3 (af.2.1 rfl)
     refine RL.call (cg ar) zr LO [ah,aj] zr (aC (Bp N (i0:=1) (i1:=3) j zr zr cf) ?_)
     rintro _ w ⟨rfl,j⟩
     have j:=(j.dF 1 (D 14) (af.1 rfl) bH).dF 3 (D 16) (af.2.1 rfl) bH
     exact RL.nil ⟨rfl,(ag,ah,ai,aj),hv.pu 17,ha.u,zt,j⟩
    rintro D U w a6 ⟨⟨ag,ah,ai,aj⟩,hv,ha,_,j⟩
    have j:=(((j.dE 0 (nn a6 13)).dE 1 (nn a6 14)).dE 2 (nn a6 15)).dE 3 (nn a6 16)
    obtain⟨O,rfl⟩:=(ac (hv.at 19 rfl (nn a6 19)) (ac (ha.at 0 rfl) (ac (ha.at 1 rfl) (ac (ha.at 2 rfl) (ac (ha.at 3 rfl) (ac (ha.at 4 rfl) (ac (ha.at 5 rfl) (ac (ha.at 6 rfl) (ac (ha.at 7 rfl) (ac (ha.at 8 rfl) az)))))))))).ir
    obtain rfl:=oi hj
    exact⟨rfl,j.sp 11 [7,8,9,10]⟩
   rintro _ w ⟨O,rfl,j⟩
   refine aJ (dW o (fun hc o=>?_) fun hc o=>?_)
   rotate_left
   ·refine RC.skip (bQ (aJ (RC.region (RL.inc hk hm (mv (vi ((a5+1:Nat):Int)) (RL.nil ?_))))))
    obtain rfl:=oi o
    exact⟨rfl,j.sp 4 [0,1,2,3]⟩
   refine RC.sr (aP (.pointer none) (aP (vi 12) (RL.nt (RC.rb (bL ?_)))))
   obtain rfl:=oi o
   exact⟨rfl,vo ⟨rfl,j.drop 4⟩⟩
  ·intro r U w e hK
   subst e
   refine nS (bL ?_)
   obtain rfl:=oi o
   exact⟨rfl,hK⟩
  rintro bo _ w rfl ⟨O,rfl,j⟩
  rw [Fo.dQ] at o
  refine bQ (aJ (RC.region (RL.inc hk hm (mv (vi ((ax+1:Nat):Int)) (RL.nil ?_)))))
  obtain rfl:=oi o
  exact⟨rfl,j.sp 4 [0,2]⟩
 ·intro r U w e hK
  subst e
  refine bL ?_
  obtain rfl:=oi o
  exact hK
 rintro bn _ w rfl ⟨O,rfl,j⟩
 rw [Fo.dQ] at o
 refine aJ (RC.sr (RL.aV (f:=(fun x=>x)) 0 j zr Fd.self eJ fun cm j=>?_))
 obtain⟨cs,hcs,hv224,j⟩:=j.Hv (i:=0) rfl rfl
 obtain⟨bf,bg,bh,bj,rfl⟩:=ID hcs
 have j:=(((j.mN (i:=0) (k:=0) (f:=fun x=>x.aI) rfl dX rfl rfl rfl).mN (i:=1) (k:=1) (f:=fun x=>x.bZ) rfl nV rfl rfl rfl).mN (i:=2) (k:=2) (f:=fun x=>x.aR) rfl hU rfl rfl rfl).mN (i:=3) (k:=3) (f:=fun x=>x.bI) rfl lC rfl rfl rfl
 refine RL.IH (zs:=[(.slice none 0 0),(.slice none 0 0),(.slice none 0 0),(.slice none 0 0),(.slice none 0 0),(.slice none 0 0),(.slice none 0 0),(.slice none 0 0),(.slice none 0 0),(.slice none 0 0),(.slice none 0 0),(.slice none 0 0)]) (cs:=[bf,bg,bh,bj,(.slice none 0 0),(.slice none 0 0),(.slice none 0 0),(.slice none 0 0),(.slice none 0 0),(.slice none 0 0),(.slice none 0 0),(.slice none 0 0)]) zt zr [(0,cm)] [(0,[bf,bg,bh,bj])] zr JT ⟨rfl,(congrArg Value.cells hv224),zt⟩ zr (RL.Ef (cs:=[bf,bg,bh,bj,(.slice none 0 0),(.slice none 0 0),(.slice none 0 0),(.slice none 0 0),(.slice none 0 0),(.slice none 0 0),(.slice none 0 0),(.slice none 0 0)]) zt zr j zr (v8.all (⟨(yu 3 j zr),(yu 2 j zr),(yu 1 j zr),(yu 0 j zr),zr,zr,zr,zr,zr,zr,zr,zr,zt⟩:v8 [bf,bg,bh,bj,(.slice none 0 0),(.slice none 0 0),(.slice none 0 0),(.slice none 0 0),(.slice none 0 0),(.slice none 0 0),(.slice none 0 0),(.slice none 0 0)])) fun a1 w j=>?_)
 refine aP (vp a1 0) (RL.nq (RC.sr (mv (vp a1 0) ?_)))
 have j:=((((((j.cX (List aA) 38).cX aN 130).pull 0).pull 2).dup 6 rfl).dup 9 rfl).pull 6
 obtain⟨cn,cp,o⟩:=bd o
 refine RL.call zt zr LU [(vp a1 0)] zr (aC (tj N j cp) ?_)
 rintro _ w ⟨cq,cr,rfl,j⟩
 refine RL.not cn.1 (RL.nt (dW o (fun hc o=>?_) fun hc o=>?_))
 ·refine RC.sr (aP (.pointer none) (aP (vi 2) (RL.nt (RC.rt ?_))))
  obtain rfl:=oi o
  exact vo ⟨rfl,j.drop 14⟩
 refine RC.sx (mv (vp a1 0) ?_)
 have j:=(((((j.freeze 2).cX (List Int) 73).pull 0).dup 4 rfl).dup 10 rfl).pull 4
 obtain⟨dc,ct,o⟩:=bd o
 refine RL.call zt zr LV [(vp a1 0)] zr (aC (tk N j ct) ?_)
 rintro _ w ⟨cu,rfl,j⟩
 refine RL.ns (mv (vp a1 0) ?_)
 have j:=((((((((((((j.freeze 1).cX Int 3).cX Int 3).cX Int 3).cX lT 140).pull 0).pull 2).pull 4).pull 6).dup 9 rfl).dup 14 rfl).dup 19 rfl).dup 21 rfl
 have j:=j.pull 12
 obtain⟨dd,cw,o⟩:=bd o
 refine RL.call zt zr LX [(vp a1 0)] zr (aC (oT N j cw) ?_)
 rintro _ w ⟨cx,cy,cz,c0,c1,rfl,j⟩
 refine RL.ns (mv (vp a1 0) (aP (vp a1 0) (aP (vi 0) (RL.nt (RC.ret ?_)))))
 obtain rfl:=oi o
 exact vo ⟨a1,bf,bg,bh,bj,cq,cr,cu,cx,cy,cz,c0,c1,zr,j.pk 27 [0,22,21,20,19,14,15,11,1,2,3,4,5]⟩
theorem lr {p0:fu} (j:Holds E w V) (h0:V[i0]? =some (rd v0 p0)) (hb:eO N p0=some res):
    Calls bD 19 [v0].toArray w (gm (aU E V res)):=by
 unfold eO at hb
 refine enter Tryz.func19 zr zr ?_
 have j:=j.dup (i0+0) h0
 refine RC.sr (RL.dA 0 v0 j zr fun ag w j=>?_)
 refine aP (vi 0) (RL.ns (RL.aV (f:=(fun x=>x)) 0 j zr Fd.self eJ fun ae j=>?_))
 obtain⟨o,af,hb⟩:=bd hb
 refine RL.call zt zr LY [ae] zr (aC (yY N (i0:=0) j zr af) ?_)
 rintro _ w hK49
 rcases ab:o.1 with _ | ah
 ·replace hb:=Lj ab hb
  obtain⟨rfl,j⟩:=Js ab hK49
  refine mv (.tuple #[(.pointer none),(vi o.2)]) (RL.extract (.pointer none) (RL.extract (vi o.2) (aP (.pointer none) (aP (vi o.2) (RL.ns (mv (vi o.2) (aP (vi o.2) (RL.nt ?_))))))))
  refine RC.ret ?_
  obtain rfl:=oi hb
  exact bM ⟨rfl,j.drop 3⟩
 replace hb:=Ll ab hb
 obtain⟨ad,ai,aj,ak,al,an,ao,aq,ar,au,av,aw,ax,rfl,j⟩:=Jt ab hK49
 refine mv (.tuple #[(vp ad 0),(vi o.2)]) (RL.extract (vp ad 0) (RL.extract (vi o.2) (aP (vp ad 0) (aP (vi o.2) (RL.ns (mv (vi o.2) (aP (vi o.2) (RL.nt ?_))))))))
 refine RC.ret ?_
 obtain rfl:=oi hb
 exact bM ⟨rfl,j.drop 16⟩
theorem vI {p0 p1 res:Bool} (o:Holds E w V) (j:ni N p0 p1=some res):
    Calls bD 26 [(vb p0),(vb p1)].toArray w (gm (aS E V res)):=by
 unfold ni at j
 refine enter Tryz.func26 zr zr (RC.sr (aP (vb false) (RL.ns (mv (vb p0) (mv (vb p0) (RL.gs true p0 (vb p1) zr zr zr cE (RL.pick p0 (vb (p0||p1)) (nz true) (aP (vb (p0||p1)) ?_))))))))
 refine RL.nt (RC.ret ?_)
 obtain rfl:=oi j
 exact bM ⟨rfl,o.drop 0⟩
theorem yp {p0: (List aA)} {p1: (List aA)} {res: (List aA)} (o:Holds E w V) (h0:V[i0]? =some (rd v0 p0)) (h1:V[i1]? =some (rd v1 p1)) (hb:py N p0 p1=some res):
    Calls bD 11 [v0,v1].toArray w (gm (kU E V res)):=by
 unfold py at hb
 refine enter Tryz.func11 zr zr ?_
 have o:=(o.dup (i0+0) h0).dup (i1+1) h1
 refine RC.sr (aP (.slice none 0 0) (RL.ns (mv v0 (mv v1 ?_))))
 obtain⟨af,ab,hb⟩:=bd hb
 refine RL.call trivial rfl JX [v0,v1,(.func (.func 26) #[] #[])] rfl (aC (tM N (i0:=1) (i1:=0) o rfl rfl ⟨26,[],rfl,LZ,fun w Γl v v' y0 y1 r i j o hi hj hr=>by obtain rfl:=o.zU (γ:=Bool) hi;obtain rfl:=o.zU (γ:=Bool) hj;exact aC (vI N (p0:=y0) (p1:=y1) o hr) fun _ _ h=>h⟩ ab) ?_)
 rintro ae w o
 refine aP ae (RL.nt (RC.ret ?_))
 obtain rfl:=oi hb
 exact bM (o.pk 3 [0])
def xB (E:World) (V:List HP) (res: (List aG)×Int) (v:Value) (w:World):Prop:=∃u0:Value,v = .tuple #[u0,(vi res.2)]/\Holds E w ([own 51 u0 res.1]++V)
theorem qH {p0: (List aA)} {res: (List aG)×Int} (j:Holds E w V) (h0:V[i0]? =some (rd v0 p0)) (o:jK N p0=some res):
    Calls bD 23 [v0].toArray w (gm (xB E V res)):=by
 unfold jK at o
 refine enter Tryz.func23 zr zr ?_
 have j:=j.dup (i0+0) h0
 refine RC.sr (aP (.slice none 0 0) (aP (vi 0) (RL.nq (RC.sr (mv v0 ?_)))))
 obtain⟨ab,ad,o⟩:=bd o
 refine RL.call zt zr JZ [v0] zr (aC (qG N (i0:=0) j zr ad) ?_)
 rintro _ w ⟨rfl,j⟩
 refine ic ab 2000 (RL.nt (dW o (fun hc o=>?_) fun hc o=>?_))
 ·refine RC.sr (aP (.slice none 0 0) (aP (vi 2) (RL.nt (RC.rt ?_))))
  obtain rfl:=oi o
  have j:=j.cX aG 51
  exact vo ⟨(.slice none 0 0),zr,j.pk 2 [0]⟩
 refine RC.sx (mv v0 ?_)
 obtain⟨ag,af,o⟩:=bd o
 refine RL.call zt zr HA [v0] zr (aC (lq N (i0:=0) j zr af) ?_)
 rintro aa w j
 refine aP aa (aP (vi 0) (RL.nt (RC.ret ?_)))
 obtain rfl:=oi o
 exact vo ⟨aa,zr,j.pk 2 [0]⟩
theorem rB {p0: (List (List aG))} {res: (List (List aG))} (j:Holds E w V) (h0:V[i0]? =some (rd v0 p0)) (o:kg N p0=some res):
    Calls bD 50 [v0].toArray w (gm (ll E V res)):=by
 unfold kg at o
 refine enter Tryz.func50 zr zr ?_
 have j:=j.dup (i0+0) h0
 refine RC.sr (aP (.slice none 0 0) (RL.nq (RC.sr (mv v0 (RL.Ec 0 zr j zr zr zr oN (RL.nt (RC.cond (Dn v0) zr (fun hc=>?_) (fun hc=>?_))))))))
 ·have hx:=j.Hs (i:=0) rfl hc
  rw [hx] at o
  replace o:some ([]: (List (List aG)))=_:=o
  refine RC.sr (aP (.slice none 0 0) (RL.nt (RC.rt ?_)))
  obtain rfl:=oi o
  have j:=j.cX (List aG) 23
  exact bM (j.pk 2 [0])
 refine RC.sx (RL.eX ([]: (List (List aG))) j [] oz Gp (fun M hs g=>zt) fun ae w j=>(mv v0 ?_))
 obtain⟨af,ab,o⟩:=bd o
 refine RL.app 0 1 j Dz ab fun ad w j=>?_
 refine aP ad (RL.nt (RC.ret ?_))
 obtain rfl:=oi o
 exact bM (j.pk 2 [0])
def uZ (E:World) (V:List HP) (res: (List bJ)) (v:Value) (w:World):Prop:=Holds E w ([own 46 v res]++V)
theorem tT {p0: (List bJ)} {res: (List bJ)} (j:Holds E w V) (h0:V[i0]? =some (rd v0 p0)) (o:lV N p0=some res):
    Calls bD 51 [v0].toArray w (gm (uZ E V res)):=by
 unfold lV at o
 refine enter Tryz.func51 zr zr ?_
 have j:=j.dup (i0+0) h0
 refine RC.sr (aP (.slice none 0 0) (RL.nq (RC.sr (mv v0 (RL.Ec 0 zr j zr zr zr tF (RL.nt (RC.cond (Dn v0) zr (fun hc=>?_) (fun hc=>?_))))))))
 ·have hx:=j.Hs (i:=0) rfl hc
  rw [hx] at o
  replace o:some ([]: (List bJ))=_:=o
  refine RC.sr (aP (.slice none 0 0) (RL.nt (RC.rt ?_)))
  obtain rfl:=oi o
  have j:=j.cX bJ 46
  exact bM (j.pk 2 [0])
 refine RC.sx (RL.eX ([]: (List bJ)) j [] tg Cx (fun M hs g=>zt) fun ae w j=>(mv v0 ?_))
 obtain⟨af,ab,o⟩:=bd o
 refine RL.app 0 1 j L2 ab fun ad w j=>?_
 refine aP ad (RL.nt (RC.ret ?_))
 obtain rfl:=oi o
 exact bM (j.pk 2 [0])
def u3 (E:World) (V:List HP) (res: (List cU)) (v:Value) (w:World):Prop:=Holds E w ([own 49 v res]++V)
theorem tU {p0: (List cU)} {res: (List cU)} (j:Holds E w V) (h0:V[i0]? =some (rd v0 p0)) (o:lW N p0=some res):
    Calls bD 52 [v0].toArray w (gm (u3 E V res)):=by
 unfold lW at o
 refine enter Tryz.func52 zr zr ?_
 have j:=j.dup (i0+0) h0
 refine RC.sr (aP (.slice none 0 0) (RL.nq (RC.sr (mv v0 (RL.Ec 0 zr j zr zr zr Be (RL.nt (RC.cond (Dn v0) zr (fun hc=>?_) (fun hc=>?_))))))))
 ·have hx:=j.Hs (i:=0) rfl hc
  rw [hx] at o
  replace o:some ([]: (List cU))=_:=o
  refine RC.sr (aP (.slice none 0 0) (RL.nt (RC.rt ?_)))
  obtain rfl:=oi o
  have j:=j.cX cU 49
  exact bM (j.pk 2 [0])
 refine RC.sx (RL.eX ([]: (List cU)) j [] Cy Gl (fun M hs g=>zt) fun ae w j=>(mv v0 ?_))
 obtain⟨af,ab,o⟩:=bd o
 refine RL.app 0 1 j L4 ab fun ad w j=>?_
 refine aP ad (RL.nt (RC.ret ?_))
 obtain rfl:=oi o
 exact bM (j.pk 2 [0])
end Go.Gk
