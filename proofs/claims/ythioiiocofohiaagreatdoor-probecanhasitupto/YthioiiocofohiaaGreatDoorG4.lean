/-
  Printed texts: Go functions as plain functions, and that they are. No statement of the seed is proved here.
-/
import Derived.Test.YthioiiocofohiaaGreatDoorG1
import Derived.Test.YthioiiocofohiaaGreatDoorG2
import Derived.Test.YthioiiocofohiaaGreatDoorG3
import Derived.Test.YthioiiocofohiaaGreatDoorA2
set_option linter.unusedVariables false
set_option linter.unusedSimpArgs false
set_option linter.unusedSectionVars false
set_option maxRecDepth 100000
set_option maxHeartbeats 4000000
namespace Go.Gk
open Go Go.Proofs
variable (N:Nat) {E w:World} {b0 b2 b2h b3 i0 i1:Nat} {p0 p1 p2:Int} {v0 v0_0 v0_1 v0_10 v0_11 v0_2 v0_3 v0_4 v0_5 v0_6 v0_8 v0_9 v1 v2h_0 v2h_1 v2h_10 v2h_11 v2h_2 v2h_3 v2h_4 v2h_5 v2h_6 v2h_7 v2h_8 v2h_9 v3_0:Value} {V:List HP}
def mW (E:World) (V:List HP) (b0:Nat) (v0_0 v0_1:Value) (v0_2 v0_3:Value) (v0_4 v0_5 v0_6:Value) (res: (List cE)×(List Int)×(List Int)×(List Int)×(List dF)) (v:Value) (w:World):Prop:=∃u0_7 u0_8 u0_9 u0_10 u0_11:Value,v = .tuple #[]/\Holds E w ([bc 126 b0 [v0_0,v0_1,v0_2,v0_3,v0_4,v0_5,v0_6,u0_7,u0_8,u0_9,u0_10,u0_11],own 129 u0_7 res.1,rd u0_8 res.2.1,rd u0_9 res.2.2.1,own 3 u0_10 res.2.2.2.1,own 41 u0_11 res.2.2.2.2]++V)
theorem mO {p0_2: (List bQ)} {p0_3: (List cQ)} {p0_5: (List aH)} {p0_6: (List (List Int))} {p0_8: (List Int)} {p0_9: (List Int)} {p0_10: (List Int)} {p0_11: (List dF)} {res: (List cE)×(List Int)×(List Int)×(List Int)×(List dF)} (hw:Holds E w (bc 126 b0 [v0_0,v0_1,v0_2,v0_3,v0_4,v0_5,v0_6,(.slice none 0 0),v0_8,v0_9,v0_10,v0_11]::rd v0_2 p0_2::rd v0_3 p0_3::rd v0_5 p0_5::rd v0_6 p0_6::own 3 v0_8 p0_8::own 3 v0_9 p0_9::own 3 v0_10 p0_10::own 41 v0_11 p0_11::V)) (hb:eP N p0_2 p0_3 p0_5 p0_6 p0_8 p0_9 p0_10 p0_11=some res):
    Calls bG 53 [(vp b0 0)].toArray w (gH (mW E V b0 v0_0 v0_1 v0_2 v0_3 v0_4 v0_5 v0_6 res)):=by
 unfold eP at hb
 refine enter Tryz.func53 zr zr (RC.sr (mv (vp b0 0) (RL.nilCheck zr (RL.aY zr lz (RL.aW 0 v0_5 hw qj (RL.bB 3 p0_5 hw vK (aM (vi p0_5.length) (RL.ns ?_))))))))
 refine mv (vi p0_5.length) (mv (vp b0 0) (RL.nilCheck zr (RL.aY zr ke (RL.aY zr mq (RL.aW 0 v0_2 hw u7 (RL.bB 1 p0_2 hw wY (RL.jl (p0_5.length:Int) (p0_2.length:Int) ?_)))))))
 obtain⟨e6,ds,hb⟩:=bd hb
 refine RL.call zt zr Jl [(vi (IntKind.wrap .i64 ((p0_5.length:Int)+ (p0_2.length:Int))))] zr (aF (m6 N (p0:=(IntKind.wrap .i64 ((p0_5.length:Int)+ (p0_2.length:Int)))) hw ds) ?_)
 rintro _ w ⟨a9,dt,rfl,hw⟩
 refine aM (vp a9 0) (RL.nq (RC.sr (mv (vp b0 0) (RL.nilCheck zr (RL.aY zr wv (RL.aW 2 v0_6 hw CR (RL.bB 6 p0_6 hw CS (mv (vi 0) ?_))))))))
 refine RL.nt ?_
 obtain⟨bz,hN,hb⟩:=bd hb
 refine RC.fold (fun(bj:Nat) (bz: (List Int)) U w=>∃c5:Value,SH E V [(0,vp b0 0),(2,vi p0_5.length),(3,vp a9 0),(35,v0_6),(36,vi p0_6.length),(37,vi bj)] [bc 126 b0 [v0_0,v0_1,v0_2,v0_3,v0_4,v0_5,v0_6,(.slice none 0 0),v0_8,v0_9,v0_10,v0_11],rd v0_2 p0_2,rd v0_3 p0_3,rd v0_5 p0_5,rd v0_6 p0_6,own 3 v0_8 p0_8,own 3 v0_9 p0_9,own 3 v0_10 p0_10,own 41 v0_11 p0_11,bc 176 a9 [c5],own 3 c5 bz] U w) (fun(bz: (List Int)) U w=>∃ca:Value,SH E V [(0,vp b0 0),(2,vi p0_5.length),(3,vp a9 0)] [bc 126 b0 [v0_0,v0_1,v0_2,v0_3,v0_4,v0_5,v0_6,(.slice none 0 0),v0_8,v0_9,v0_10,v0_11],rd v0_2 p0_2,rd v0_3 p0_3,rd v0_5 p0_5,rd v0_6 p0_6,own 3 v0_8 p0_8,own 3 v0_9 p0_9,own 3 v0_10 p0_10,own 41 v0_11 p0_11,bc 176 a9 [ca],own 3 ca bz] U w) hN ?_ ?_ ?_ ?_
 ·exact⟨dt,hw.sp 11 [2,3,4,5,6,7,8,9,10,0,1]⟩
 ·rintro hm bz _ w ⟨du,O,rfl,hw⟩
  refine RC.sr (ic ((p0_6.length:Int)) ((p0_6.length:Int)) (RL.nq (RC.cO l9 (RC.ex ?_))))
  exact⟨rfl,du,hw.sp 11 [0,1,2,3,4,5,6,7,8,9,10]⟩
 ·rintro hm bj bz s' _ w hk ⟨dv,O,rfl,hw⟩ hb
  refine RC.sr (ic ((bj:Int)) ((p0_6.length:Int)) (RL.nq (RC.cN (l8 hk) (RC.ss (RC.bs (mv (vi bj) ?_))))))
  obtain⟨bt,dw,hb⟩:=bd hb
  refine RL.cC 4 hw w3 dw fun e7 hw=>(RL.bO 0 bt hw fz fun cb hw=>(aM (vi bj) (aM cb (RL.ns (mv cb (RL.bB 0 bt hw lQ (mv (vi 0) (RL.nt ?_))))))))
  obtain⟨b4,hN,hb⟩:=bd hb
  refine RC.fold (fun(cf:Nat) (b4: (List Int)) U w=>∃c6:Value,SH E V [(0,vp b0 0),(2,vi p0_5.length),(3,vp a9 0),(4,vi bj),(35,v0_6),(36,vi p0_6.length),(37,vi bj),(42,cb),(43,vi bt.length),(44,vi cf)] [bc 126 b0 [v0_0,v0_1,v0_2,v0_3,v0_4,v0_5,v0_6,(.slice none 0 0),v0_8,v0_9,v0_10,v0_11],rd v0_2 p0_2,rd v0_3 p0_3,rd v0_5 p0_5,rd v0_6 p0_6,own 3 v0_8 p0_8,own 3 v0_9 p0_9,own 3 v0_10 p0_10,own 41 v0_11 p0_11,bc 176 a9 [c6],own 3 c6 b4,rd cb bt] U w) (fun(b4: (List Int)) U w=>∃cg:Value,SH E V [(0,vp b0 0),(2,vi p0_5.length),(3,vp a9 0),(35,v0_6),(36,vi p0_6.length),(37,vi bj)] [bc 126 b0 [v0_0,v0_1,v0_2,v0_3,v0_4,v0_5,v0_6,(.slice none 0 0),v0_8,v0_9,v0_10,v0_11],rd v0_2 p0_2,rd v0_3 p0_3,rd v0_5 p0_5,rd v0_6 p0_6,own 3 v0_8 p0_8,own 3 v0_9 p0_9,own 3 v0_10 p0_10,own 41 v0_11 p0_11,bc 176 a9 [cg],own 3 cg b4,rd cb bt] U w) hN ?_ ?_ ?_ ?_
  ·exact⟨dv,hw.sp 13 [2,3,4,5,6,7,8,9,10,11,12,0]⟩
  ·rintro hm b4 _ w ⟨dx,O,rfl,hw⟩
   refine RC.sr (ic ((bt.length:Int)) ((bt.length:Int)) (RL.nq (RC.cO l9 (RC.ex ?_))))
   exact⟨rfl,dx,hw.sp 12 [0,1,2,3,4,5,6,7,8,9,10,11]⟩
  ·rintro hm cf b4 s' _ w hk ⟨e8,O,rfl,hw⟩ hb
   refine RC.sr (ic ((cf:Int)) ((bt.length:Int)) (RL.nq (RC.cN (l8 hk) (RC.ss (RC.bs ?_)))))
   obtain⟨cc,dy,hb⟩:=bd hb
   refine RL.cC 11 hw eD dy fun e9 hw=>(RL.bI cc 0 hw cH (aM (vi cc) (RL.nt (RC.region (mv (vp a9 0) (mv (vi cc) (mv (vi p0_5.length) (mv (vi bj) ?_))))))))
   refine RL.jl (p0_5.length:Int) (bj:Int) ?_
   have hw:=(hw.pull 11).pull 11
   obtain⟨fa,dz,hb⟩:=bd hb
   refine RL.call zt zr Jm [(vp a9 0),(vi cc),(vi (IntKind.wrap .i64 ((p0_5.length:Int)+ (bj:Int))))] zr (aF (mg N (p1:=cc) (p2:=(IntKind.wrap .i64 ((p0_5.length:Int)+ (bj:Int)))) hw dz) ?_)
   rintro _ w ⟨d3,rfl,hw⟩
   refine RL.nil (bL (aG (RC.region (RL.inc hk hm (mv (vi ((cf+1:Nat):Int)) (RL.nil ?_))))))
   obtain rfl:=oi hb
   exact⟨rfl,d3,hw.sp 15 [3,4,5,6,7,8,9,10,11,0,1,14]⟩
  rintro _ w ⟨cg,O,rfl,hw⟩
  refine bL (aG (RC.region (RL.inc hk hm (mv (vi ((bj+1:Nat):Int)) (RL.nil ?_)))))
  obtain rfl:=oi hb
  exact⟨rfl,cg,hw.sp 12 [0,1,2,3,4,5,6,7,8,9,10]⟩
 rintro _ w ⟨ca,O,rfl,hw⟩
 refine aG (RC.seq ?_)
 obtain⟨d4,d5,hb⟩:=bd hb
 obtain⟨d6,d7,hb⟩:=bd hb
 refine RC.Ei E V mixed [1,1,1,0,1,1,1,1,0,0,0,1,1,0,1,1,0] [3,10,13,16] (fun(x:Value×Value)=>(fun al an=>[(0,56,(vp b0 0)),(1,57,(vp b0 0)),(2,58,(vi p0_5.length)),(3,59,al),(4,60,(vp b0 0)),(5,61,(vp b0 0)),(6,62,(vp b0 0)),(7,63,(vp b0 2)),(8,64,v0_2),(9,65,(vi p0_2.length)),(10,66,an),(11,67,(vp b0 0)),(12,68,(vp b0 8)),(14,69,(vp b0 0)),(15,70,(vp b0 9))]) x.1 x.2) [(0,vp b0 0),(2,vi p0_5.length),(3,vp a9 0)] [] (fun(D:Nat->Bool) (x:Value×Value)=>(fun al an=>[bif D 0 then (own 3 al d4) else aX,bif D 1 then (own 3 an d6) else aX,bif D 3 then (bc 126 b0 [v0_0,v0_1,v0_2,v0_3,v0_4,v0_5,v0_6,(.slice none 0 0),al,an,v0_10,v0_11]) else (bif D 2 then (bc 126 b0 [v0_0,v0_1,v0_2,v0_3,v0_4,v0_5,v0_6,(.slice none 0 0),al,v0_9,v0_10,v0_11]) else (bc 126 b0 [v0_0,v0_1,v0_2,v0_3,v0_4,v0_5,v0_6,(.slice none 0 0),v0_8,v0_9,v0_10,v0_11])),rd v0_2 p0_2,rd v0_3 p0_3,rd v0_5 p0_5,rd v0_6 p0_6,own 3 v0_8 p0_8,own 3 v0_9 p0_9,own 3 v0_10 p0_10,own 41 v0_11 p0_11,bc 176 a9 [ca],own 3 ca bz]) x.1 x.2) (fun x=>by kernel_rfl) ?_ ⟨fun _=>jD gn,fun _=>jD gn,fun _=>jD gn,?_,fun _=>jD gn,fun _=>vX gn,fun _=>mi gn ke,fun _=>mi gn mq,?_,?_,?_,fun _=>vX gn,fun _=>mi gn rM,?_,fun _=>vX gn,fun _=>mi gn tX,?_,trivial⟩ ?_
 ·have hw:=((hw.drew).aX).aX
  exact⟨(undef,undef),eF.none,(CN zr),zt,hw⟩
 ·rintro D U w hD af ad ⟨⟨al,an⟩,hv,ha,_,hw⟩
  obtain⟨O,rfl⟩:=(ac (hv.at 2 rfl (af.1 rfl)) az).fx
  have hw:=((hw.cA 0 hD).cA 2 (nh ad hD 16)).cA 2 (nh ad hD 13)
  refine RL.mk (p0_5.length:Int) hw tU Ii d5 fun cv w hw=>?_
  have hw:=(((hw.pl 14 [0,2,3,4,5,6,7,8,9,10,11,12,13]).cK 0 true aX).fu 2 (D 13) (nh ad hD 13) (bc 126 b0 [v0_0,v0_1,v0_2,v0_3,v0_4,v0_5,v0_6,(.slice none 0 0),cv,v0_9,v0_10,v0_11])).fu 2 (D 16) (nh ad hD 16) (bc 126 b0 [v0_0,v0_1,v0_2,v0_3,v0_4,v0_5,v0_6,(.slice none 0 0),cv,an,v0_10,v0_11])
  exact RL.nil ⟨rfl,(cv,an),hv.pu 3,ha.u,zt,hw⟩
 ·rintro D U w hD af ad ⟨⟨al,an⟩,hv,ha,_,hw⟩
  obtain⟨O,rfl⟩:=(ac (hv.at 7 rfl (af.1 rfl)) az).fx
  have hw:=(hw.cA 2 (nh ad hD 16)).cA 2 (nh ad hD 13)
  refine RL.aW 2 v0_2 hw u7 ?_
  have hw:=(hw.fu 2 (D 13) (nh ad hD 13) (bc 126 b0 [v0_0,v0_1,v0_2,v0_3,v0_4,v0_5,v0_6,(.slice none 0 0),al,v0_9,v0_10,v0_11])).fu 2 (D 16) (nh ad hD 16) (bc 126 b0 [v0_0,v0_1,v0_2,v0_3,v0_4,v0_5,v0_6,(.slice none 0 0),al,an,v0_10,v0_11])
  exact RL.nil ⟨rfl,(al,an),hv.pu 8,ha.u,zt,hw⟩
 ·rintro D U w hD af ad ⟨⟨al,an⟩,hv,ha,_,hw⟩
  obtain⟨O,rfl⟩:=(ac (hv.at 8 rfl (af.1 rfl)) az).fx
  refine RL.bB 3 p0_2 hw wY ?_
  exact RL.nil ⟨rfl,(al,an),hv.pu 9,ha.u,zt,hw⟩
 ·rintro D U w hD af ad ⟨⟨al,an⟩,hv,ha,_,hw⟩
  obtain⟨O,rfl⟩:=(ac (hv.at 9 rfl (af.1 rfl)) az).fx
  have hw:=(hw.cA 1 hD).cA 2 (nh ad hD 16)
  refine RL.mk (p0_2.length:Int) hw tU Ii d7 fun c7 w hw=>?_
  have hw:=((hw.pl 14 [1,0,3,4,5,6,7,8,9,10,11,12,13]).cK 1 true aX).fu 2 (D 16) (nh ad hD 16) (bc 126 b0 [v0_0,v0_1,v0_2,v0_3,v0_4,v0_5,v0_6,(.slice none 0 0),al,c7,v0_10,v0_11])
  exact RL.nil ⟨rfl,(al,c7),hv.pu 10,ha.u,zt,hw⟩
 ·rintro D U w hD af ad ⟨⟨al,an⟩,hv,ha,_,hw⟩
  obtain⟨O,rfl⟩:=(ac (hv.at 3 rfl (af.2.1 rfl)) (ac (hv.at 12 rfl (af.1 rfl)) az)).fx
  have hw:=((hw.cJ 0 (af.2.1 rfl)).cA 2 (nh ad hD 16)).cA 2 hD
  refine RL.gK 2 al hw zr zr (ir 0 hw) fz fun w hw=>?_
  have hw:=((hw.cK (hb:=af.2.1 rfl) 0 (D 3) aX).cK 2 true (bc 126 b0 [v0_0,v0_1,v0_2,v0_3,v0_4,v0_5,v0_6,(.slice none 0 0),v0_8,v0_9,v0_10,v0_11])).fu 2 (D 16) (nh ad hD 16) (bc 126 b0 [v0_0,v0_1,v0_2,v0_3,v0_4,v0_5,v0_6,(.slice none 0 0),al,an,v0_10,v0_11])
  exact RL.nil ⟨rfl,(al,an),hv.n1,ha,zt,hw⟩
 ·rintro D U w hD af ad ⟨⟨al,an⟩,hv,ha,_,hw⟩
  obtain⟨O,rfl⟩:=(ac (hv.at 10 rfl (af.2.1 rfl)) (ac (hv.at 14 rfl (af.1 rfl)) az)).fx
  have hw:=((hw.cJ 1 (af.2.1 rfl)).cA 2 hD).cJ 2 (af.2.2.1 rfl)
  refine RL.gK 2 an hw zr zr (ir 1 hw) fz fun w hw=>?_
  have hw:=(hw.cK (hb:=af.2.1 rfl) 1 (D 10) aX).cK 2 true (bif D 13 then (bc 126 b0 [v0_0,v0_1,v0_2,v0_3,v0_4,v0_5,v0_6,(.slice none 0 0),al,v0_9,v0_10,v0_11]) else (bc 126 b0 [v0_0,v0_1,v0_2,v0_3,v0_4,v0_5,v0_6,(.slice none 0 0),v0_8,v0_9,v0_10,v0_11]))
  exact RL.nil ⟨rfl,(al,an),hv.n1,ha,zt,hw⟩
 rintro D U w a7 ⟨⟨al,an⟩,hv,ha,_,hw⟩
 have hw:=((hw.cJ 0 (jT a7 3)).cJ 1 (jT a7 10)).cJ 2 (jT a7 16)
 obtain⟨O,rfl⟩:=(ac (ha.at 0 rfl) (ac (ha.at 1 rfl) (ac (ha.at 2 rfl) az))).fx
 refine aG (RC.seq (RC.sr (mv (vp a9 0) ?_)))
 have hw:=(hw.pull 12).pull 12
 obtain⟨a8,d8,hb⟩:=bd hb
 refine RL.call zt zr KS [(vp a9 0)] zr (aF (qx N hw d8) ?_)
 rintro bk w ⟨_,fb,rfl,hw⟩
 refine RL.fG 0 a8.1 hw CS (mv (vi 0) (RL.nt ?_))
 obtain⟨a5,hN,hb⟩:=bd hb
 refine RC.fold (fun(bo:Nat) (a5: (List cE)×(List Int)×(List Int)) U w=>∃(c8:Value) (us442:List cD),SH E V [(0,vp b0 0),(2,vi p0_5.length),(72,bk),(73,vi a8.1.length),(74,vi bo)] [bc 126 b0 [v0_0,v0_1,v0_2,v0_3,v0_4,v0_5,v0_6,c8,al,an,v0_10,v0_11],own 129 c8 us442,iN bZ us442 a5.1 none,rd v0_2 p0_2,rd v0_3 p0_3,rd v0_5 p0_5,rd v0_6 p0_6,own 3 al a5.2.1,own 3 an a5.2.2,own 3 v0_10 p0_10,own 41 v0_11 p0_11,own 87 bk a8.1] U w) (fun(a5: (List cE)×(List Int)×(List Int)) U w=>∃(aj:Value) (us444:List cD),SH E V [(0,vp b0 0)] [bc 126 b0 [v0_0,v0_1,v0_2,v0_3,v0_4,v0_5,v0_6,aj,al,an,v0_10,v0_11],own 129 aj us444,iN bZ us444 a5.1 none,rd v0_2 p0_2,rd v0_3 p0_3,rd v0_5 p0_5,rd v0_6 p0_6,own 3 al a5.2.1,own 3 an a5.2.2,own 3 v0_10 p0_10,own 41 v0_11 p0_11,own 87 bk a8.1] U w) hN ?_ ?_ ?_ ?_
 ·have hw:=(hw.zj bZ).cS cD 129
  exact⟨(.slice none 0 0),([]:List cD),hw.sp 18 [7,0,1,8,9,10,11,5,6,14,15,2]⟩
 ·rintro hm a5 _ w ⟨d9,us604,O,rfl,hw⟩
  refine RC.sr (ic ((a8.1.length:Int)) ((a8.1.length:Int)) (RL.nq (RC.cO l9 (RC.ex ?_))))
  exact⟨rfl,d9,us604,hw.sp 12 [0,1,2,3,4,5,6,7,8,9,10,11]⟩
 ·rintro hm bo a5 s' _ w hk ⟨bg,us446,O,rfl,hw⟩ hb
  refine RC.sr (ic ((bo:Int)) ((a8.1.length:Int)) (RL.nq (RC.cN (l8 hk) (RC.ss (RC.bs ?_)))))
  obtain⟨bm,cw,hb⟩:=bd hb
  refine RL.bY 11 hw zr zr w3 cw (RL.kK (f:=(fun x=>x)) 11 hw (jZ 11 hw cw 0) (bC cw).2.1 Fd.self fz fun bp hw=>?_)
  refine aM bp (RL.ns (RL.o4 hw Jn fun bu w hw=>?_))
  refine RL.nq (RC.sr (mv bp (RL.bB 1 bm hw lQ (mv (vi 0) (RL.nt ?_)))))
  obtain⟨ar,hN,hb⟩:=bd hb
  refine RC.fold (fun(b5:Nat) (ar: (List Int)×(List Int)×(List Int)×(List Int)) U w=>∃c9 da:Value,SH E V [(0,vp b0 0),(2,vi p0_5.length),(10,vp bu 0),(72,bk),(73,vi a8.1.length),(74,vi bo),(78,bp),(79,vi bm.length),(80,vi b5)] [bc 126 b0 [v0_0,v0_1,v0_2,v0_3,v0_4,v0_5,v0_6,bg,al,an,v0_10,v0_11],rd v0_2 p0_2,rd v0_3 p0_3,rd v0_5 p0_5,rd v0_6 p0_6,own 129 bg us446,iN bZ us446 a5.1 none,own 3 al ar.1,own 3 an ar.2.1,own 3 v0_10 p0_10,own 41 v0_11 p0_11,bc 129 bu [c9,da,(.slice none 0 0)],own 3 c9 ar.2.2.1,own 3 da ar.2.2.2,own 87 bk a8.1,rd bp bm] U w) (fun(ar: (List Int)×(List Int)×(List Int)×(List Int)) U w=>∃bw bq:Value,SH E V [(0,vp b0 0),(2,vi p0_5.length),(10,vp bu 0),(72,bk),(73,vi a8.1.length),(74,vi bo)] [bc 126 b0 [v0_0,v0_1,v0_2,v0_3,v0_4,v0_5,v0_6,bg,al,an,v0_10,v0_11],rd v0_2 p0_2,rd v0_3 p0_3,rd v0_5 p0_5,rd v0_6 p0_6,own 129 bg us446,iN bZ us446 a5.1 none,own 3 al ar.1,own 3 an ar.2.1,own 3 v0_10 p0_10,own 41 v0_11 p0_11,bc 129 bu [bw,bq,(.slice none 0 0)],own 3 bw ar.2.2.1,own 3 bq ar.2.2.2,own 87 bk a8.1,rd bp bm] U w) hN ?_ ?_ ?_ ?_
  ·have hw:=(hw.cS Int 3).cS Int 3
   exact⟨(.slice none 0 0),(.slice none 0 0),hw.sp 16 [4,7,8,9,10,5,6,11,12,13,14,2,1,0,15,3]⟩
  ·rintro hm ar _ w ⟨ea,eb,O,rfl,hw⟩
   refine RC.sr (ic ((bm.length:Int)) ((bm.length:Int)) (RL.nq (RC.cO l9 (RC.ex ?_))))
   exact⟨rfl,ea,eb,hw.sp 16 [0,1,2,3,4,5,6,7,8,9,10,11,12,13,14,15]⟩
  ·rintro hm b5 ar s' _ w hk ⟨ch,cx,O,rfl,hw⟩ hb
   refine RC.sr (ic ((b5:Int)) ((bm.length:Int)) (RL.nq (RC.cN (l8 hk) (RC.ss (RC.bs ?_)))))
   obtain⟨a2,ec,hb⟩:=bd hb
   refine RL.cC 15 hw eD ec fun fc hw=>(RL.bI a2 0 hw cH (aM (vi a2) (RL.nt (RC.bs (mv (vi a2) (mv (vi p0_5.length) (ic a2 ((p0_5.length:Int)) (aM (vb (decide (a2< (p0_5.length:Int)))) ?_))))))))
   refine RL.nt ?_
   obtain⟨b6,hj,hb⟩:=bd hb
   refine RC.jn (fun(b6: (List Int)×(List Int)×(List Int)×(List Int)) U w=>∃cj ck:Value,SH E V [(0,vp b0 0),(2,vi p0_5.length),(10,vp bu 0),(72,bk),(73,vi a8.1.length),(74,vi bo),(78,bp),(79,vi bm.length),(80,vi b5)] [bc 126 b0 [v0_0,v0_1,v0_2,v0_3,v0_4,v0_5,v0_6,bg,al,an,v0_10,v0_11],rd v0_2 p0_2,rd v0_3 p0_3,rd v0_5 p0_5,rd v0_6 p0_6,own 129 bg us446,iN bZ us446 a5.1 none,own 3 al b6.1,own 3 an b6.2.1,own 3 v0_10 p0_10,own 41 v0_11 p0_11,bc 129 bu [cj,ck,(.slice none 0 0)],own 3 cj b6.2.2.1,own 3 ck b6.2.2.2,own 87 bk a8.1,rd bp bm] U w) b6 ?_ ?_
   ·refine eL hj (fun hc hj=>?_) fun hc hj=>?_
    ·refine RC.seq (RC.wk mixed [0,0,0,0,0,0,0,0,0,0,0,2] [0,1,2,3,4,5,6,7,8,9,10,11] ?_)
     have hw:=hw.drew
     refine DP.e0 zr (mv (vp b0 0) (bU zr (RL.nilCheck zr (bU zr (RL.aY zr rM (bU zr (RL.aW 1 al hw fz (bU zr ?_))))))))
     refine mv (vi a2) (bU zr (mv (vp b0 0) (bU zr (RL.nilCheck zr (bU zr (RL.aY zr pS (bU zr (RL.aW 1 bg hw w4 ?_))))))))
     refine bU zr (RL.qG 6 7 a5.1 hw Hf (bU zr ?_))
     obtain⟨fe,cy,hj⟩:=bd hj
     refine RL.bY 8 hw zr zr eD cy (sS zr ?_)
     have hw:=hw.sc Int (a5.1.length:Int)
     refine RL.gr (f:=(fun _ y=>y)) 9 0 hw (jZ 9 hw cy 0) (bC cy).2.1 zr Fs.self cH fun w hw=>?_
     refine DP.d2 zt (DP.z (aG (RC.region (RL.aY zr zB (RL.aW 13 ch hw fz (mv (vi a2) ?_))))))
     have hw:=hw.sc Int a2
     refine RL.eJ ([a2]: (List Int)) hw [(vi a2)] eD Ej (fun M hs g=>⟨(g.sat 0 _ zr).1,zt⟩) fun ff w hw=>?_
     have hw:=hw.freeze 0
     obtain⟨fg,ed,hj⟩:=bd hj
     refine RL.app 16 0 hw tU ed fun db w hw=>?_
     refine RL.aY zr zB (RL.gK 15 db hw zr zr (ir 16 hw) fz fun w hw=>?_)
     refine RL.nil ?_
     obtain rfl:=oi hj
     exact⟨rfl,db,cx,hw.sp 20 [4,5,6,7,8,9,10,11,12,13,14,15,16,17,18,19]⟩
    refine RC.sr (mv (vp b0 0) (RL.nilCheck zr (RL.aY zr ke (RL.aY zr mq (RL.aW 1 v0_2 hw u7 (mv (vi a2) (mv (vi p0_5.length) (RL.jl a2 (p0_5.length:Int) ?_))))))))
    obtain⟨dc,ee,hj⟩:=bd hj
    refine RL.cC 2 hw zz ee fun fh hw=>(RL.ig 0 hw zr wq rI fun fi hw=>(RL.bI dc.gL 0 hw xU (aM (vb dc.gL) (RL.nt ?_))))
    obtain⟨cl,hjj,hj⟩:=bd hj
    refine RC.jn (fun(cl: (List Int)×(List Int)) U w=>∃cm:Value,SH E V [(0,vp b0 0),(2,vi p0_5.length),(10,vp bu 0),(72,bk),(73,vi a8.1.length),(74,vi bo),(78,bp),(79,vi bm.length),(80,vi b5)] [bc 126 b0 [v0_0,v0_1,v0_2,v0_3,v0_4,v0_5,v0_6,bg,al,an,v0_10,v0_11],rd v0_2 p0_2,rd v0_3 p0_3,rd v0_5 p0_5,rd v0_6 p0_6,own 129 bg us446,iN bZ us446 a5.1 none,own 3 al ar.1,own 3 an cl.1,own 3 v0_10 p0_10,own 41 v0_11 p0_11,bc 129 bu [ch,cm,(.slice none 0 0)],own 3 cm cl.2,own 3 ch ar.2.2.1,own 87 bk a8.1,rd bp bm] U w) cl ?_ ?_
    ·refine eL hjj (fun hc hjj=>?_) fun hc hjj=>?_
     rotate_left
     ·refine RC.region (mv (vp b0 0) (RL.nilCheck zr (RL.aY zr tX (RL.aW 3 an hw fz (mv (vi a2) (mv (vi p0_5.length) (RL.jl a2 (p0_5.length:Int) ?_)))))))
      obtain⟨fj,cz,hjj⟩:=bd hjj
      refine RL.bY 11 hw zr zr eD cz ?_
      have hw:=hw.sc Int (-1)
      refine RL.gr (f:=(fun _ y=>y)) 12 0 hw (jZ 12 hw cz 0) (bC cz).2.1 zr Fs.self cH fun w hw=>?_
      refine RL.nil ?_
      obtain rfl:=oi hjj
      exact⟨rfl,cx,hw.sp 20 [4,5,6,7,8,9,10,11,12,13,14,15,17,16,18,19]⟩
     refine RC.seq (RC.wk mixed [0,0,0,0,0,0,0,0,0,0,0,0,0,2] [0,1,2,3,4,5,6,7,8,9,10,11,12,13] ?_)
     have hw:=hw.drew
     refine DP.e0 zr (mv (vp b0 0) (bU zr (RL.nilCheck zr (bU zr (RL.aY zr tX (bU zr (RL.aW 3 an hw fz (bU zr ?_))))))))
     refine mv (vi a2) (bU zr (mv (vi p0_5.length) (bU zr (RL.jl a2 (p0_5.length:Int) (bU zr (mv (vp b0 0) (bU zr (RL.nilCheck zr ?_))))))))
     refine bU zr (RL.aY zr pS (bU zr (RL.aW 3 bg hw w4 (bU zr (RL.qG 8 9 a5.1 hw Hf (bU zr ?_))))))
     obtain⟨fk,c0,hjj⟩:=bd hjj
     refine RL.bY 11 hw zr zr eD c0 (sS zr ?_)
     have hw:=hw.sc Int (a5.1.length:Int)
     refine RL.gr (f:=(fun _ y=>y)) 12 0 hw (jZ 12 hw c0 0) (bC c0).2.1 zr Fs.self cH fun w hw=>?_
     refine DP.d2 zt (DP.z (aG (RC.region (RL.aY zr zC (RL.aW 15 cx hw fz (mv (vi a2) (mv (vi p0_5.length) (RL.jl a2 (p0_5.length:Int) ?_))))))))
     have hw:=hw.sc Int (IntKind.wrap .i64 (a2 - (p0_5.length:Int)))
     refine RL.eJ ([(IntKind.wrap .i64 (a2 - (p0_5.length:Int)))]: (List Int)) hw [(vi (IntKind.wrap .i64 (a2 - (p0_5.length:Int))))] eD Ej (fun M hs g=>⟨(g.sat 0 _ zr).1,zt⟩) fun fl w hw=>?_
     have hw:=hw.freeze 0
     obtain⟨fm,ef,hjj⟩:=bd hjj
     refine RL.app 19 0 hw tU ef fun dd w hw=>?_
     refine RL.aY zr zC (RL.gK 17 dd hw zr zr (ir 19 hw) fz fun w hw=>?_)
     refine RL.nil ?_
     obtain rfl:=oi hjj
     exact⟨rfl,dd,hw.sp 22 [6,7,8,9,10,11,12,13,14,15,16,17,19,18,20,21]⟩
    rintro _ w ⟨cm,O,rfl,hw⟩
    obtain rfl:=oi hj
    exact⟨rfl,ch,cm,hw.sp 16 [0,1,2,3,4,5,6,7,8,9,10,11,13,12,14,15]⟩
   rintro _ w ⟨cj,ck,O,rfl,hw⟩
   refine bL (bL (aG (RC.region (RL.inc hk hm (mv (vi ((b5+1:Nat):Int)) (RL.nil ?_))))))
   obtain rfl:=oi hb
   exact⟨rfl,cj,ck,hw.sp 16 [0,1,2,3,4,5,6,7,8,9,10,11,12,13,14,15]⟩
  rintro _ w ⟨bw,bq,O,rfl,hw⟩
  refine aG (RC.sr (RL.aY zr zB (RL.aW 11 bw hw fz (RL.fG 12 ar.2.2.1 hw lQ (RL.aY zr zC (RL.aW 11 bq hw fz (RL.fG 13 ar.2.2.2 hw lQ (RL.jl (ar.2.2.1.length:Int) (ar.2.2.2.length:Int) ?_))))))))
  refine ic ((IntKind.wrap .i64 ((ar.2.2.1.length:Int)+ (ar.2.2.2.length:Int)))) 0 (RL.nt ?_)
  obtain⟨c1,hj,hb⟩:=bd hb
  refine RC.jn (fun(c1: (List cE)) U w=>∃(cn:Value) (us598:List cD),SH E V [(0,vp b0 0),(2,vi p0_5.length),(72,bk),(73,vi a8.1.length),(74,vi bo)] [bc 126 b0 [v0_0,v0_1,v0_2,v0_3,v0_4,v0_5,v0_6,cn,al,an,v0_10,v0_11],own 129 cn us598,iN bZ us598 c1 none,rd v0_2 p0_2,rd v0_3 p0_3,rd v0_5 p0_5,rd v0_6 p0_6,own 3 al ar.1,own 3 an ar.2.1,own 3 v0_10 p0_10,own 41 v0_11 p0_11,own 87 bk a8.1] U w) c1 ?_ ?_
  ·refine eL hj (fun hc hj=>?_) fun hc hj=>?_
   rotate_left
   ·refine RC.skip ?_
    obtain rfl:=oi hj
    exact⟨rfl,bg,us446,hw.sp 16 [0,5,6,1,2,3,4,7,8,9,10,14]⟩
   have hw:=hw.drew
   refine RC.EH (fun w=>Holds E w ([bc 126 b0 [v0_0,v0_1,v0_2,v0_3,v0_4,v0_5,v0_6,bg,al,an,v0_10,v0_11]]++V)) mixed zr [1,1,1,1,1,0,2,2,0,0,2] [0,1,2,3,4,5,6,7,8,9,10] (hw.pk 16 [0]) (DP.e1 (vp b0 0) zr (fun w=>RL.move (vp b0 0) zt DP.d1) (DP.e1 (vp b0 0) zr (fun w=>RL.move (vp b0 0) zt DP.d1) (DP.e1 (vp b0 0) zr (fun w=>RL.nilCheck zr DP.d1) (DP.e1 (vp b0 7) zr (fun w=>RL.aY zr pS DP.d1) (DP.HJ bg zr (fun w hw=>RL.aW 0 bg hw w4 DP.d1) (DP.e0 zr (RL.EB (i:=11) (cs:=[bw,bq,(.slice none 0 0)]) zt zr hw zr zr Jo zr (sS zr ?_))))))))
   have hw:=((((hw.cS fN 51).CF (i:=0) rfl).freeze 14).freeze 15).zi (cs:=[bw,bq,(.slice none 0 0)]) (x:=(⟨ar.2.2.1,ar.2.2.2,(rv (.slice none 0 0))⟩:cD)) (fun M hs g=>⟨[bw],[bq,(.slice none 0 0)],rfl,(kX (g.sat 14 _ rfl).1),⟨[bq],[(.slice none 0 0)],rfl,(kX (g.sat 15 _ rfl).1),(kX (g.sat 0 _ rfl).1)⟩⟩) rfl
   refine RL.eJ ([(⟨ar.2.2.1,ar.2.2.2,(rv (.slice none 0 0))⟩:cD)]:List cD) hw [(.agg ([bw,bq,(.slice none 0 0)]:List Value).toArray)] CT Jp (fun M hs g=>⟨(g.sat 0 _ zr).1,zt⟩) fun fo w hw=>(DP.d2 (hw.pk 20 [4]) (DP.e2 zr ?_))
   obtain⟨fp,eg,hj⟩:=bd hj
   have hw:=hw.freeze 0
   refine RL.Dp (i:=9) (j:=0) (b:=10) (o:=3) (X:=bZ) (ur:=(⟨ar.2.2.1,ar.2.2.2,(rv (.slice none 0 0))⟩:cD)) (xr:=(⟨ar.2.2.1,ar.2.2.2,([]: (List fN))⟩:cE)) (u:=(.slice none 0 0)) (y:=([]: (List fN))) (fun _ _ ho=>⟨⟨rfl,rfl⟩,ho⟩) trivial rfl hw rfl rfl rfl rfl rfl rfl (by decide) (by decide) (by decide) Jq eg fun de w hw=>?_
   refine DP.d2 (hw.pk 20 [4]) (DP.e0 zr (RL.nilCheck zr (bU zr (RL.aY zr pS (DP.d0 (DP.Lu zr zr (RL.gK 4 de hw zr zr (ir 9 hw) w4 fun w hw=>?_)))))))
   refine DP.d2 zt (DP.z ?_)
   obtain rfl:=oi hj
   exact⟨rfl,de,(us446++[(⟨ar.2.2.1,ar.2.2.2,(rv (.slice none 0 0))⟩:cD)]),hw.sp 20 [4,9,10,5,6,7,8,11,12,13,14,18]⟩
  rintro _ w ⟨cn,us598,O,rfl,hw⟩
  refine bL (aG (RC.region (RL.inc hk hm (mv (vi ((bo+1:Nat):Int)) (RL.nil ?_)))))
  obtain rfl:=oi hb
  exact⟨rfl,cn,us598,hw.sp 12 [0,1,2,3,4,5,6,7,8,9,10,11]⟩
 rintro _ w ⟨aj,us444,O,rfl,hw⟩
 refine aG (RC.sr (mv (vp b0 0) (RL.nilCheck zr (RL.aY zr ke (RL.aY zr u9 (RL.aW 0 v0_3 hw DE (RL.bB 4 p0_3 hw ET (mv (vi 0) ?_))))))))
 refine RL.nt ?_
 obtain⟨ai,hN,hb⟩:=bd hb
 refine RC.fold (fun(b2:Nat) (ai: (List cE)×(List Int)×(List Int)×(List Int)×(List dF)) U w=>∃(df dg:Value) (dh di:Value) (us819:List cD),SH E V [(0,vp b0 0),(170,v0_3),(171,vi p0_3.length),(172,vi b2)] [bc 126 b0 [v0_0,v0_1,v0_2,v0_3,v0_4,v0_5,v0_6,aj,df,dg,dh,di],rd df ai.2.1,rd dg ai.2.2.1,own 3 dh ai.2.2.2.1,own 41 di ai.2.2.2.2,rd v0_2 p0_2,rd v0_3 p0_3,rd v0_5 p0_5,rd v0_6 p0_6,own 129 aj us819,iN bZ us819 ai.1 none] U w) (fun(ai: (List cE)×(List Int)×(List Int)×(List Int)×(List dF)) U w=>∃(cp cq:Value) (cr ct:Value) (us824:List cD),SH E V [(0,vp b0 0)] [bc 126 b0 [v0_0,v0_1,v0_2,v0_3,v0_4,v0_5,v0_6,aj,cp,cq,cr,ct],rd cp ai.2.1,rd cq ai.2.2.1,own 3 cr ai.2.2.2.1,own 41 ct ai.2.2.2.2,rd v0_2 p0_2,rd v0_3 p0_3,rd v0_5 p0_5,rd v0_6 p0_6,own 129 aj us824,iN bZ us824 ai.1 none] U w) hN ?_ ?_ ?_ ?_
 ·have hw:=(hw.freeze 7).freeze 8
  exact⟨al,an,v0_10,v0_11,us444,hw.sp 12 [0,7,8,9,10,3,4,5,6,1,2]⟩
 ·rintro hm ai _ w ⟨eh,ei,ej,ek,us932,O,rfl,hw⟩
  refine RC.sr (ic ((p0_3.length:Int)) ((p0_3.length:Int)) (RL.nq (RC.cO l9 (RC.ex ?_))))
  exact⟨rfl,eh,ei,ej,ek,us932,hw.sp 11 [0,1,2,3,4,5,6,7,8,9,10]⟩
 ·rintro hm b2 ai s' _ w hk ⟨a3,a4,bl,a6,us829,O,rfl,hw⟩ hb
  refine RC.sr (ic ((b2:Int)) ((p0_3.length:Int)) (RL.nq (RC.cN (l8 hk) (RC.ss (RC.bs ?_)))))
  obtain⟨b7,el,hb⟩:=bd hb
  refine RL.cC 6 hw DF el fun en hw=>(RL.bO 0 b7 hw wZ fun eo hw=>(RL.alloc hw HO.z fun dj w hw=>?_))
  refine RL.bA 0 hw 1 zr wZ fun w hw=>?_
  refine RL.ns (mv (vp b0 0) (RL.aS (f:=(fun x=>x)) 0 hw zr Fd.self wZ fun dk hw=>?_))
  have hw:=((hw.dup 11 rfl).dup 10 rfl).pull 6
  obtain⟨ba,ep,hb⟩:=bd hb
  refine RL.call zt zr KT [(vp b0 0),dk] zr (aF (qz N (i1:=0) hw zr ep) ?_)
  rintro _ w ⟨c2,rfl,hw⟩
  refine mv (.tuple #[c2,(vb ba.2)]) (RL.extract c2 (RL.extract (vb ba.2) (RL.alloc hw Gv.z fun b8 w hw=>?_)))
  refine RL.bA 0 hw 1 zr qQ fun w hw=>?_
  refine aM (vb ba.2) (RL.ns (aM (vi (-1)) (RL.nq (RC.sr (mv (vb ba.2) (RL.nt ?_))))))
  obtain⟨bh,hj,hb⟩:=bd hb
  refine RC.jn (fun(bh: (List cE)×Int) U w=>∃(us877:List cD),SH E V [(0,vp b0 0),(15,vp b8 0),(17,vi bh.2),(170,v0_3),(171,vi p0_3.length),(172,vi b2)] [bc 126 b0 [v0_0,v0_1,v0_2,v0_3,v0_4,v0_5,v0_6,aj,a3,a4,bl,a6],rd v0_2 p0_2,rd v0_3 p0_3,rd v0_5 p0_5,rd v0_6 p0_6,own 129 aj us877,iN bZ us877 bh.1 none,rd a3 ai.2.1,rd a4 ai.2.2.1,own 3 bl ai.2.2.2.1,own 41 a6 ai.2.2.2.2,bx 41 b8 ba.1] U w) bh ?_ ?_
  ·refine eL hj (fun hc hj=>?_) fun hc hj=>?_
   rotate_left
   ·refine RC.skip ?_
    obtain rfl:=oi hj
    exact⟨rfl,us829,hw.sp 18 [2,12,13,14,15,16,17,8,9,10,11,0]⟩
   refine RC.sr (mv (vp b0 0) (RL.aS (f:=(fun x=>x)) 0 hw zr Fd.self qQ fun dm hw=>?_))
   have hw:=((hw.dup 10 rfl).dup 10 rfl).pull 5
   obtain⟨ah,er,hj⟩:=bd hj
   refine RL.call zt zr KU [(vp b0 0),dm] zr (aF (nT N (i1:=0) hw zr er) ?_)
   rintro _ w ⟨rfl,hw⟩
   refine aM (vi ah) (RL.nt ?_)
   obtain⟨fq,cd,hj⟩:=bd hj
   obtain⟨b9,et,hj⟩:=bd hj
   obtain⟨br,eu,hj⟩:=bd hj
   obtain⟨b3,cu,hj⟩:=bd hj
   refine RC.Ei E V mixed [1,1,1,0,1,1,1,1,0,1,0,0,0,0,0,0,0,0,0,0] [13,14,15,16,19] (fun(x:Value×Value×Value×Value)=>(fun av aw au ak=>[(0,186,(vp b0 0)),(1,187,(vp b0 0)),(2,188,(vp b0 7)),(3,189,aj),(4,190,(vi ah)),(5,191,(vp b0 0)),(6,192,(vp b0 0)),(7,193,(vp b0 7)),(8,194,aj),(9,195,(vi ah)),(10,196,(Ad aj (Int.toNat ah) 3 0)),(11,197,(Ad aj (Int.toNat ah) 3 2)),(12,198,(us829.getD (Int.toNat ah) (default:cD)).gM.v),(13,199,av),(14,200,aw),(15,201,au),(16,202,ak),(17,203,(Ad aj (Int.toNat ah) 3 0)),(18,204,(Ad aj (Int.toNat ah) 3 2))]) x.1 x.2.1 x.2.2.1 x.2.2.2) [(0,vp b0 0),(14,vp dj 0),(15,vp b8 0),(17,vi ah),(170,v0_3),(171,vi p0_3.length),(172,vi b2)] [] (fun(D:Nat->Bool) (x:Value×Value×Value×Value)=>(fun av aw au ak=>[bif D 0 then (rd av b7) else aX,bif D 1 then (rd aw b9) else aX,bif D 3 then (rd au ([b9]: (List fN))) else (bif D 2 then (own 51 au ([b9]: (List fN))) else aX),bif D 4 then aX else (bif D 3 then (own 51 ak br) else aX),bc 126 b0 [v0_0,v0_1,v0_2,v0_3,v0_4,v0_5,v0_6,aj,a3,a4,bl,a6],rd dm ba.1,bx 41 b8 ba.1,rd c2 ba.1,aX,rd dk b7,bx 78 dj b7,rd eo b7,pt en b7,aX,rd a3 ai.2.1,rd a4 ai.2.2.1,own 3 bl ai.2.2.2.1,own 41 a6 ai.2.2.2.2,rd v0_2 p0_2,rd v0_3 p0_3,rd v0_5 p0_5,rd v0_6 p0_6,bif D 4 then (own 129 aj (us829.set (Int.toNat ah) {(us829.getD (Int.toNat ah) (default:cD)) with gM:=rv ak})) else (own 129 aj us829),bif D 4 then (iN bZ (us829.set (Int.toNat ah) {(us829.getD (Int.toNat ah) (default:cD)) with gM:=rv ak}) (ai.1.set (Int.toNat ah) {b3 with gM:=br}) none) else (bif D 3 then (iN bZ us829 ai.1 (some (Int.toNat ah))) else (iN bZ us829 ai.1 none))]) x.1 x.2.1 x.2.2.1 x.2.2.2) (fun x=>by kernel_rfl) ?_ ⟨fun _=>jD gn,fun _=>vX gn,fun _=>mi gn pS,?_,fun _=>jD gn,fun _=>jD gn,fun _=>vX gn,fun _=>mi gn pS,?_,fun _=>jD gn,?_,?_,?_,?_,?_,?_,?_,?_,?_,?_,trivial⟩ ?_
   ·have hw:=((((hw.drew).aX).aX).aX).aX
    exact⟨(undef,undef,undef,undef),eF.none,(CN zr),zt,hw⟩
   ·rintro D U w hD af ad ⟨⟨av,aw,au,ak⟩,hv,ha,_,hw⟩
    obtain⟨O,rfl⟩:=(ac (hv.at 2 rfl (af.1 rfl)) az).fx
    refine RL.aW 4 aj hw w4 ?_
    exact RL.nil ⟨rfl,(av,aw,au,ak),hv.pu 3,ha.u,zt,hw⟩
   ·rintro D U w hD af ad ⟨⟨av,aw,au,ak⟩,hv,ha,_,hw⟩
    obtain⟨O,rfl⟩:=(ac (hv.at 7 rfl (af.1 rfl)) az).fx
    refine RL.aW 4 aj hw w4 ?_
    exact RL.nil ⟨rfl,(av,aw,au,ak),hv.pu 8,ha.u,zt,hw⟩
   ·rintro D U w hD af ad ⟨⟨av,aw,au,ak⟩,hv,ha,_,hw⟩
    obtain⟨O,rfl⟩:=(ac (hv.at 8 rfl (af.1 rfl)) (ac (hv.at 9 rfl (af.2.1 rfl)) az)).fx
    have hw:=((hw.cA 22 (nh ad hD 19)).cA 23 (nh ad hD 19)).cA 23 (nf (fun h=>ft hD ((ad 11 _ rfl ((ad 12 _ rfl ((ad 16 _ rfl h).1 rfl)).1 rfl)).1 rfl)))
    have hl900:=hw.gI 23
    have hr901:=jH (default:cD) hl900 cd
    refine RL.bY 22 hw zr zr CT hr901 ?_
    have hw:=(hw.fu 22 (D 19) (nh ad hD 19) (own 129 aj (us829.set (Int.toNat ah) {(us829.getD (Int.toNat ah) (default:cD)) with gM:=rv ak}))).fu 23 (D 16) (nf (fun h=>ft hD ((ad 11 _ rfl ((ad 12 _ rfl ((ad 16 _ rfl h).1 rfl)).1 rfl)).1 rfl))) (iN bZ us829 ai.1 (some (Int.toNat ah)))
    have hw:=hw.fu 23 (D 19) (nh ad hD 19) (iN bZ (us829.set (Int.toNat ah) {(us829.getD (Int.toNat ah) (default:cD)) with gM:=rv ak}) (ai.1.set (Int.toNat ah) {b3 with gM:=br}) none)
    exact RL.nil ⟨rfl,(av,aw,au,ak),hv.pu 10,ha.u,zt,hw⟩
   ·rintro D U w hD af ad ⟨⟨av,aw,au,ak⟩,hv,ha,_,hw⟩
    obtain⟨O,rfl⟩:=(ac (hv.at 10 rfl (af.1 rfl)) az).fx
    have hw:=((hw.cA 22 (nh ad hD 19)).cA 23 (nh ad hD 19)).cA 23 (nf (fun h=>ft hD ((ad 12 _ rfl ((ad 16 _ rfl h).1 rfl)).1 rfl)))
    have hl902:=hw.gI 23
    have hr903:=jH (default:cD) hl902 cd
    refine RL.mS (α:=cD) (jZ 22 hw hr903 0) zD ?_
    have hw:=(hw.fu 22 (D 19) (nh ad hD 19) (own 129 aj (us829.set (Int.toNat ah) {(us829.getD (Int.toNat ah) (default:cD)) with gM:=rv ak}))).fu 23 (D 16) (nf (fun h=>ft hD ((ad 12 _ rfl ((ad 16 _ rfl h).1 rfl)).1 rfl))) (iN bZ us829 ai.1 (some (Int.toNat ah)))
    have hw:=hw.fu 23 (D 19) (nh ad hD 19) (iN bZ (us829.set (Int.toNat ah) {(us829.getD (Int.toNat ah) (default:cD)) with gM:=rv ak}) (ai.1.set (Int.toNat ah) {b3 with gM:=br}) none)
    exact RL.nil ⟨rfl,(av,aw,au,ak),hv.pu 11,ha.u,zt,hw⟩
   ·rintro D U w hD af ad ⟨⟨av,aw,au,ak⟩,hv,ha,_,hw⟩
    obtain⟨O,rfl⟩:=(ac (hv.at 11 rfl (af.1 rfl)) az).fx
    have hw:=((hw.cA 22 (nh ad hD 19)).cA 23 (nh ad hD 19)).cA 23 (nh ad hD 16)
    have hl904:=hw.gI 23
    have hr905:=jH (default:cD) hl904 cd
    refine RL.uX 22 23 ah qO (default:cD) zr hw zr (jZ 22 hw hr905 2) zr zr cd E1 ?_
    have hw:=(hw.fu 22 (D 19) (nh ad hD 19) (own 129 aj (us829.set (Int.toNat ah) {(us829.getD (Int.toNat ah) (default:cD)) with gM:=rv ak}))).fu 23 (D 16) (nh ad hD 16) (iN bZ us829 ai.1 (some (Int.toNat ah)))
    have hw:=hw.fu 23 (D 19) (nh ad hD 19) (iN bZ (us829.set (Int.toNat ah) {(us829.getD (Int.toNat ah) (default:cD)) with gM:=rv ak}) (ai.1.set (Int.toNat ah) {b3 with gM:=br}) none)
    exact RL.nil ⟨rfl,(av,aw,au,ak),hv.pu 12,ha.u,zt,hw⟩
   ·rintro D U w hD af ad ⟨⟨av,aw,au,ak⟩,hv,ha,_,hw⟩
    obtain⟨O,rfl⟩:=(ac (ha.at 1 rfl) az).fx
    have hw:=hw.cA 0 hD
    refine RL.aS (f:=(fun x=>x)) 10 hw zr Fd.self wZ fun ev hw=>?_
    have hw:=(hw.pl 25 [0,2,3,4,5,6,7,8,9,10,11,12,13,14,15,16,17,18,19,20,21,22,23,24]).cK 0 true aX
    exact RL.nil ⟨rfl,(ev,aw,au,ak),hv.pu 13,ha.u,zt,hw⟩
   ·rintro D U w hD af ad ⟨⟨av,aw,au,ak⟩,hv,ha,_,hw⟩
    obtain⟨O,rfl⟩:=(ac (hv.at 13 rfl (af.1 rfl)) az).fx
    have hw:=(hw.cJ 0 (af.1 rfl)).cA 1 hD
    refine RL.call zt zr Gt [av] zr (aF (lA N (i0:=0) hw zr et) ?_)
    rintro ew w hw
    have hw:=((hw.pl 25 [1,0,3,4,5,6,7,8,9,10,11,12,13,14,15,16,17,18,19,20,21,22,23,24]).cK (hb:=af.1 rfl) 0 (D 13) aX).cK 1 true aX
    exact RL.nil ⟨rfl,(av,ew,au,ak),hv.pu 14,ha.u,zt,hw⟩
   ·rintro D U w hD af ad ⟨⟨av,aw,au,ak⟩,hv,ha,_,hw⟩
    obtain⟨O,rfl⟩:=(ac (hv.at 14 rfl (af.1 rfl)) az).fx
    have hw:=((hw.cJ 1 (af.1 rfl)).cA 2 (nh ad hD 16)).cA 2 hD
    refine RL.eJ ([b9]: (List fN)) hw [aw] Js I6 (fun M hs g=>⟨(g.sat 1 _ zr).1,zt⟩) fun dn w hw=>?_
    have hw:=(((hw.pl 25 [1,2,0,4,5,6,7,8,9,10,11,12,13,14,15,16,17,18,19,20,21,22,23,24]).cK (hb:=af.1 rfl) 1 (D 14) aX).cK 2 true aX).fu 2 (D 16) (nh ad hD 16) (rd dn ([b9]: (List fN)))
    exact RL.nil ⟨rfl,(av,aw,dn,ak),hv.pu 15,ha.u,zt,hw⟩
   ·rintro D U w hD af ad ⟨⟨av,aw,au,ak⟩,hv,ha,_,hw⟩
    obtain⟨O,rfl⟩:=(ac (hv.at 12 rfl (af.1 rfl)) (ac (hv.at 15 rfl (af.2.1 rfl)) az)).fx
    have hw:=(((((((hw.cA 2 hD).cJ 2 (af.2.1 rfl)).cA 3 (nh ad hD 19)).cA 3 hD).cA 22 (nh ad hD 19)).cA 23 (nh ad hD 19)).cA 23 hD).zk (j:=23) (jj:=ah) qO (default:cD) rfl cd
    have hw:=hw.freeze 3
    refine RL.app 0 3 hw Jt eu fun c3 w hw=>?_
    have hw:=((((hw.pl 25 [1,2,3,0,5,6,7,8,9,10,11,12,13,14,15,16,17,18,19,20,21,22,23,24]).cK 2 true (bif D 15 then (own 51 au ([b9]: (List fN))) else aX)).cK 3 true aX).fu 3 (D 19) (nh ad hD 19) aX).fu 22 (D 19) (nh ad hD 19) (own 129 aj (us829.set (Int.toNat ah) {(us829.getD (Int.toNat ah) (default:cD)) with gM:=rv c3}))
    have hw:=(hw.cK 23 true (iN bZ us829 ai.1 none)).fu 23 (D 19) (nh ad hD 19) (iN bZ (us829.set (Int.toNat ah) {(us829.getD (Int.toNat ah) (default:cD)) with gM:=rv c3}) (ai.1.set (Int.toNat ah) {b3 with gM:=br}) none)
    exact RL.nil ⟨rfl,(av,aw,au,c3),hv.pu 16,ha.u,zt,hw⟩
   ·rintro D U w hD af ad ⟨⟨av,aw,au,ak⟩,hv,ha,_,hw⟩
    obtain⟨O,rfl⟩:=(ac (hv.at 3 rfl (af.1 rfl)) (ac (hv.at 4 rfl (af.2.1 rfl)) az)).fx
    have hw:=hw.cA 22 (nf (fun h=>ft hD ((ad 18 _ rfl ((ad 19 _ rfl h).1 rfl)).1 rfl)))
    have hw:=hw.cA 23 (nf (fun h=>ft hD ((ad 18 _ rfl ((ad 19 _ rfl h).1 rfl)).1 rfl)))
    have hw:=hw.cJ 23 (af.2.2.2.2.2.2.2.2.2.2.2.2.2.2.2.2.2.2.1 rfl)
    have hl910:=hw.gI 23
    have hr911:=jH (default:cD) hl910 cu
    refine RL.bY 22 hw zr zr CT hr911 ?_
    have hw:=hw.fu 22 (D 19) (nf (fun h=>ft hD ((ad 18 _ rfl ((ad 19 _ rfl h).1 rfl)).1 rfl))) (own 129 aj (us829.set (Int.toNat ah) {(us829.getD (Int.toNat ah) (default:cD)) with gM:=rv ak}))
    have hw:=(hw.cK (hb:=af.2.2.2.2.2.2.2.2.2.2.2.2.2.2.2.2.2.2.1 rfl) 23 (D 16) (iN bZ us829 ai.1 none)).fu 23 (D 19) (nf (fun h=>ft hD ((ad 18 _ rfl ((ad 19 _ rfl h).1 rfl)).1 rfl))) (iN bZ (us829.set (Int.toNat ah) {(us829.getD (Int.toNat ah) (default:cD)) with gM:=rv ak}) (ai.1.set (Int.toNat ah) {b3 with gM:=br}) none)
    exact RL.nil ⟨rfl,(av,aw,au,ak),hv.pu 17,ha.u,zt,hw⟩
   ·rintro D U w hD af ad ⟨⟨av,aw,au,ak⟩,hv,ha,_,hw⟩
    obtain⟨O,rfl⟩:=(ac (hv.at 17 rfl (af.1 rfl)) az).fx
    have hw:=((hw.cA 22 (nh ad hD 19)).cA 23 (nh ad hD 19)).cJ 23 (af.2.2.2.2.2.2.2.2.2.2.2.2.2.2.2.2.2.1 rfl)
    have hl912:=hw.gI 23
    have hr913:=jH (default:cD) hl912 cu
    refine RL.mS (α:=cD) (jZ 22 hw hr913 0) zD ?_
    have hw:=(hw.fu 22 (D 19) (nh ad hD 19) (own 129 aj (us829.set (Int.toNat ah) {(us829.getD (Int.toNat ah) (default:cD)) with gM:=rv ak}))).cK (hb:=af.2.2.2.2.2.2.2.2.2.2.2.2.2.2.2.2.2.1 rfl) 23 (D 16) (iN bZ us829 ai.1 none)
    have hw:=hw.fu 23 (D 19) (nh ad hD 19) (iN bZ (us829.set (Int.toNat ah) {(us829.getD (Int.toNat ah) (default:cD)) with gM:=rv ak}) (ai.1.set (Int.toNat ah) {b3 with gM:=br}) none)
    exact RL.nil ⟨rfl,(av,aw,au,ak),hv.pu 18,ha.u,zt,hw⟩
   ·rintro D U w hD af ad ⟨⟨av,aw,au,ak⟩,hv,ha,_,hw⟩
    obtain⟨O,rfl⟩:=(ac (hv.at 16 rfl (af.2.1 rfl)) (ac (hv.at 18 rfl (af.1 rfl)) az)).fx
    have hw:=((((hw.cA 3 hD).cJ 3 (af.2.1 rfl)).cA 22 hD).cA 23 hD).cJ 23 (af.2.1 rfl)
    have hl914:=hw.gI 23
    have hr915:=jH (default:cD) hl914 cu
    refine RL.sP 22 23 3 ah qO (default:cD) hw zr zr (jZ 22 hw hr915 2) zr zr zr cu E1 fun w hw=>?_
    have hw:=((hw.cK 3 true (bif D 16 then (own 51 ak br) else aX)).cK 22 true (own 129 aj us829)).cK 23 true (bif D 16 then (iN bZ us829 ai.1 (some (Int.toNat ah))) else (iN bZ us829 ai.1 none))
    exact RL.nil ⟨rfl,(av,aw,au,ak),hv.n1,ha,zt,hw⟩
   rintro D U w a7 ⟨⟨av,aw,au,ak⟩,hv,ha,_,hw⟩
   have hw:=(((((hw.cJ 0 (jT a7 13)).cJ 1 (jT a7 14)).cJ 2 (jT a7 16)).cJ 3 (jT a7 19)).cJ 22 (jT a7 19)).cJ 23 (jT a7 19)
   obtain⟨O,rfl⟩:=(ac (ha.at 0 rfl) (ac (ha.at 1 rfl) (ac (ha.at 2 rfl) (ac (ha.at 3 rfl) (ac (ha.at 4 rfl) (ac (ha.at 5 rfl) (ac (ha.at 6 rfl) az))))))).fx
   obtain rfl:=oi hj
   exact⟨rfl,(us829.set (Int.toNat ah) {(us829.getD (Int.toNat ah) (default:cD)) with gM:=rv ak}),hw.sp 24 [4,18,19,20,21,22,23,14,15,16,17,6]⟩
  rintro _ w ⟨us877,O,rfl,hw⟩
  refine aG ?_
  obtain⟨ey,ez,hb⟩:=bd hb
  obtain⟨e3,e4,hb⟩:=bd hb
  refine RC.Ei E V mixed [1,1,1,1,1,0,1,0,0,1,1,1,0,0,0,0,1,1,0,1,1,0] [7,8,13,14,15,18,21] (fun(x:Value×Value×Value×Value×Value)=>(fun ay a1 a0 aq ax=>[(0,205,(vp b0 0)),(1,206,(vp b0 0)),(2,207,(vp b0 0)),(3,208,(vp b0 0)),(4,209,(vp b0 10)),(5,210,bl),(6,211,(vi bh.2)),(7,212,ay),(8,213,aq),(9,214,(vp b0 0)),(10,215,(vp b0 0)),(11,216,(vp b0 11)),(12,217,a6),(13,218,a1),(14,219,a0),(15,220,ax),(16,221,(vp b0 0)),(17,222,(vp b0 10)),(19,223,(vp b0 0)),(20,224,(vp b0 11))]) x.1 x.2.1 x.2.2.1 x.2.2.2.1 x.2.2.2.2) [(0,vp b0 0),(15,vp b8 0),(17,vi bh.2),(170,v0_3),(171,vi p0_3.length),(172,vi b2)] [] (fun(D:Nat->Bool) (x:Value×Value×Value×Value×Value)=>(fun ay a1 a0 aq ax=>[bif D 1 then (rd ay ([bh.2]: (List Int))) else (bif D 0 then (own 3 ay ([bh.2]: (List Int))) else aX),bif D 2 then (rd a1 ba.1) else aX,bif D 4 then (rd a0 ([ba.1]: (List dF))) else (bif D 3 then (own 41 a0 ([ba.1]: (List dF))) else aX),bif D 6 then (bc 126 b0 [v0_0,v0_1,v0_2,v0_3,v0_4,v0_5,v0_6,aj,a3,a4,aq,ax]) else (bif D 5 then (bc 126 b0 [v0_0,v0_1,v0_2,v0_3,v0_4,v0_5,v0_6,aj,a3,a4,aq,a6]) else (bc 126 b0 [v0_0,v0_1,v0_2,v0_3,v0_4,v0_5,v0_6,aj,a3,a4,bl,a6])),rd v0_2 p0_2,rd v0_3 p0_3,rd v0_5 p0_5,rd v0_6 p0_6,own 129 aj us877,iN bZ us877 bh.1 none,rd a3 ai.2.1,rd a4 ai.2.2.1,bif D 1 then (own 3 aq ey) else (own 3 bl ai.2.2.2.1),bif D 4 then (own 41 ax e3) else (own 41 a6 ai.2.2.2.2),bx 41 b8 ba.1]) x.1 x.2.1 x.2.2.1 x.2.2.2.1 x.2.2.2.2) (fun x=>by kernel_rfl) ?_ ⟨fun _=>jD gn,fun _=>jD gn,fun _=>jD gn,fun _=>vX gn,fun _=>mi gn zF,?_,fun _=>jD gn,?_,?_,fun _=>jD gn,fun _=>vX gn,fun _=>mi gn zG,?_,?_,?_,?_,fun _=>vX gn,fun _=>mi gn zF,?_,fun _=>vX gn,fun _=>mi gn zG,?_,trivial⟩ ?_
  ·have hw:=(((hw.drew).aX).aX).aX
   exact⟨(undef,undef,undef,undef,undef),eF.none,(CN zr),zt,hw⟩
  ·rintro D U w hD af ad ⟨⟨ay,a1,a0,aq,ax⟩,hv,ha,_,hw⟩
   obtain⟨O,rfl⟩:=(ac (hv.at 4 rfl (af.1 rfl)) az).fx
   have hw:=(hw.cA 3 (nh ad hD 21)).cA 3 (nh ad hD 18)
   refine RL.aW 3 bl hw fz ?_
   have hw:=(hw.fu 3 (D 18) (nh ad hD 18) (bc 126 b0 [v0_0,v0_1,v0_2,v0_3,v0_4,v0_5,v0_6,aj,a3,a4,aq,a6])).fu 3 (D 21) (nh ad hD 21) (bc 126 b0 [v0_0,v0_1,v0_2,v0_3,v0_4,v0_5,v0_6,aj,a3,a4,aq,ax])
   exact RL.nil ⟨rfl,(ay,a1,a0,aq,ax),hv.pu 5,ha.u,zt,hw⟩
  ·rintro D U w hD af ad ⟨⟨ay,a1,a0,aq,ax⟩,hv,ha,_,hw⟩
   obtain⟨O,rfl⟩:=(ac (hv.at 6 rfl (af.1 rfl)) az).fx
   have hw:=((hw.cA 0 (nh ad hD 8)).cA 0 hD).sc Int bh.2
   refine RL.eJ ([bh.2]: (List Int)) hw [(vi bh.2)] eD Ej (fun M hs g=>⟨(g.sat 0 _ zr).1,zt⟩) fun dp w hw=>?_
   have hw:=((hw.pl 17 [0,3,4,5,6,7,8,9,10,11,12,13,14,15,16]).cK 0 true aX).fu 0 (D 8) (nh ad hD 8) (rd dp ([bh.2]: (List Int)))
   exact RL.nil ⟨rfl,(dp,a1,a0,aq,ax),hv.pu 7,ha.u,zt,hw⟩
  ·rintro D U w hD af ad ⟨⟨ay,a1,a0,aq,ax⟩,hv,ha,_,hw⟩
   obtain⟨O,rfl⟩:=(ac (hv.at 5 rfl (af.1 rfl)) (ac (hv.at 7 rfl (af.2.1 rfl)) az)).fx
   have hw:=(((((hw.cA 0 hD).cJ 0 (af.2.1 rfl)).cA 3 (nh ad hD 21)).cA 3 (nh ad hD 18)).cA 12 hD).freeze 0
   refine RL.app 12 0 hw tU ez fun c4 w hw=>?_
   have hw:=((hw.cK 0 true (bif D 7 then (own 3 ay ([bh.2]: (List Int))) else aX)).fu 3 (D 18) (nh ad hD 18) (bc 126 b0 [v0_0,v0_1,v0_2,v0_3,v0_4,v0_5,v0_6,aj,a3,a4,c4,a6])).fu 3 (D 21) (nh ad hD 21) (bc 126 b0 [v0_0,v0_1,v0_2,v0_3,v0_4,v0_5,v0_6,aj,a3,a4,c4,ax])
   have hw:=hw.cK 12 true (own 3 bl ai.2.2.2.1)
   exact RL.nil ⟨rfl,(ay,a1,a0,c4,ax),hv.pu 8,ha.u,zt,hw⟩
  ·rintro D U w hD af ad ⟨⟨ay,a1,a0,aq,ax⟩,hv,ha,_,hw⟩
   obtain⟨O,rfl⟩:=(ac (hv.at 11 rfl (af.1 rfl)) az).fx
   have hw:=(hw.cA 3 (nh ad hD 21)).cA 3 (nh ad hD 18)
   refine RL.aW 3 a6 hw E2 ?_
   have hw:=(hw.fu 3 (D 18) (nh ad hD 18) (bc 126 b0 [v0_0,v0_1,v0_2,v0_3,v0_4,v0_5,v0_6,aj,a3,a4,aq,a6])).fu 3 (D 21) (nh ad hD 21) (bc 126 b0 [v0_0,v0_1,v0_2,v0_3,v0_4,v0_5,v0_6,aj,a3,a4,aq,ax])
   exact RL.nil ⟨rfl,(ay,a1,a0,aq,ax),hv.pu 12,ha.u,zt,hw⟩
  ·rintro D U w hD af ad ⟨⟨ay,a1,a0,aq,ax⟩,hv,ha,_,hw⟩
   obtain⟨O,rfl⟩:=(ac (ha.at 1 rfl) az).fx
   have hw:=hw.cA 1 hD
   refine RL.aS (f:=(fun x=>x)) 14 hw zr Fd.self qQ fun e5 hw=>?_
   have hw:=(hw.pl 16 [1,0,3,4,5,6,7,8,9,10,11,12,13,14,15]).cK 1 true aX
   exact RL.nil ⟨rfl,(ay,e5,a0,aq,ax),hv.pu 13,ha.u,zt,hw⟩
  ·rintro D U w hD af ad ⟨⟨ay,a1,a0,aq,ax⟩,hv,ha,_,hw⟩
   obtain⟨O,rfl⟩:=(ac (hv.at 13 rfl (af.1 rfl)) az).fx
   have hw:=((hw.cJ 1 (af.1 rfl)).cA 2 (nh ad hD 15)).cA 2 hD
   refine RL.eJ ([ba.1]: (List dF)) hw [a1] Hh Gv (fun M hs g=>⟨(g.sat 1 _ zr).1,zt⟩) fun dq w hw=>?_
   have hw:=(((hw.pl 16 [1,2,0,4,5,6,7,8,9,10,11,12,13,14,15]).cK (hb:=af.1 rfl) 1 (D 13) aX).cK 2 true aX).fu 2 (D 15) (nh ad hD 15) (rd dq ([ba.1]: (List dF)))
   exact RL.nil ⟨rfl,(ay,a1,dq,aq,ax),hv.pu 14,ha.u,zt,hw⟩
  ·rintro D U w hD af ad ⟨⟨ay,a1,a0,aq,ax⟩,hv,ha,_,hw⟩
   obtain⟨O,rfl⟩:=(ac (hv.at 12 rfl (af.1 rfl)) (ac (hv.at 14 rfl (af.2.1 rfl)) az)).fx
   have hw:=(((((hw.cA 2 hD).cJ 2 (af.2.1 rfl)).cA 3 (nh ad hD 21)).cA 3 (nh ad hD 18)).cA 13 hD).freeze 2
   refine RL.app 13 2 hw Ju e4 fun dr w hw=>?_
   have hw:=((hw.cK 2 true (bif D 14 then (own 41 a0 ([ba.1]: (List dF))) else aX)).fu 3 (D 18) (nh ad hD 18) (bc 126 b0 [v0_0,v0_1,v0_2,v0_3,v0_4,v0_5,v0_6,aj,a3,a4,aq,a6])).fu 3 (D 21) (nh ad hD 21) (bc 126 b0 [v0_0,v0_1,v0_2,v0_3,v0_4,v0_5,v0_6,aj,a3,a4,aq,dr])
   have hw:=hw.cK 13 true (own 41 a6 ai.2.2.2.2)
   exact RL.nil ⟨rfl,(ay,a1,a0,aq,dr),hv.pu 15,ha.u,zt,hw⟩
  ·rintro D U w hD af ad ⟨⟨ay,a1,a0,aq,ax⟩,hv,ha,_,hw⟩
   obtain⟨O,rfl⟩:=(ac (hv.at 8 rfl (af.2.1 rfl)) (ac (hv.at 17 rfl (af.1 rfl)) az)).fx
   have hw:=((hw.cA 3 (nh ad hD 21)).cA 3 hD).cJ 12 (af.2.1 rfl)
   refine RL.gK 3 aq hw zr zr (ir 12 hw) fz fun w hw=>?_
   have hw:=((hw.cK 3 true (bc 126 b0 [v0_0,v0_1,v0_2,v0_3,v0_4,v0_5,v0_6,aj,a3,a4,bl,a6])).fu 3 (D 21) (nh ad hD 21) (bc 126 b0 [v0_0,v0_1,v0_2,v0_3,v0_4,v0_5,v0_6,aj,a3,a4,aq,ax])).cK (hb:=af.2.1 rfl) 12 (D 8) (own 3 bl ai.2.2.2.1)
   exact RL.nil ⟨rfl,(ay,a1,a0,aq,ax),hv.n1,ha,zt,hw⟩
  ·rintro D U w hD af ad ⟨⟨ay,a1,a0,aq,ax⟩,hv,ha,_,hw⟩
   obtain⟨O,rfl⟩:=(ac (hv.at 15 rfl (af.2.1 rfl)) (ac (hv.at 19 rfl (af.1 rfl)) az)).fx
   have hw:=((hw.cA 3 hD).cJ 3 (af.2.2.1 rfl)).cJ 13 (af.2.1 rfl)
   refine RL.gK 3 ax hw zr zr (ir 13 hw) E2 fun w hw=>?_
   have hw:=(hw.cK 3 true (bif D 18 then (bc 126 b0 [v0_0,v0_1,v0_2,v0_3,v0_4,v0_5,v0_6,aj,a3,a4,aq,a6]) else (bc 126 b0 [v0_0,v0_1,v0_2,v0_3,v0_4,v0_5,v0_6,aj,a3,a4,bl,a6]))).cK (hb:=af.2.1 rfl) 13 (D 15) (own 41 a6 ai.2.2.2.2)
   exact RL.nil ⟨rfl,(ay,a1,a0,aq,ax),hv.n1,ha,zt,hw⟩
  rintro D U w a7 ⟨⟨ay,a1,a0,aq,ax⟩,hv,ha,_,hw⟩
  have hw:=(((((hw.cJ 0 (jT a7 8)).cJ 1 (jT a7 13)).cJ 2 (jT a7 15)).cJ 3 (jT a7 21)).cJ 12 (jT a7 8)).cJ 13 (jT a7 15)
  obtain⟨O,rfl⟩:=(ac (ha.at 0 rfl) (ac (ha.at 1 rfl) (ac (ha.at 2 rfl) (ac (ha.at 3 rfl) (ac (ha.at 4 rfl) (ac (ha.at 5 rfl) az)))))).fx
  refine bL (aG (RC.region (RL.inc hk hm (mv (vi ((b2+1:Nat):Int)) (RL.nil ?_)))))
  obtain rfl:=oi hb
  exact⟨rfl,a3,a4,aq,ax,us877,hw.sp 15 [3,10,11,12,13,4,5,6,7,8,9]⟩
 rintro _ w ⟨cp,cq,cr,ct,us824,O,rfl,hw⟩
 obtain rfl:=oi hb
 have hw:=hw.zm (X:=bZ) (b:=10) (j:=9) rfl (fun M h u x cs=>zy M h u x cs) rfl rfl (by decide)
 refine yn ?_
 exact En ⟨aj,cp,cq,cr,ct,zr,hw.pk 11 [0,9,1,2,3,4]⟩
def oV (E:World) (V:List HP) (r:Option ((List (List aI))×(List aI)×(List bQ)×(List cQ)×(List (List aA))×(List aH)×(List (List Int))×(List cE)×(List Int)×(List Int)×(List Int)×(List dF))×Int) (U:Nat->Value) (w:World):Prop:=l6 bG 112 Tryz.f26 (mF E V r) .ret U w
theorem nU {p0:iu} {res:Option ((List (List aI))×(List aI)×(List bQ)×(List cQ)×(List (List aA))×(List aH)×(List (List Int))×(List cE)×(List Int)×(List Int)×(List Int)×(List dF))×Int} (j:Holds E w V) (h0:V[i0]? =some (rd v0 p0)) (hb:fB N p0=some res):
    Calls bG 26 [v0].toArray w (gH (mF E V res)):=by
 unfold fB at hb
 refine enter Tryz.func26 zr zr ?_
 have j:=j.dup (i0+0) h0
 refine RC.sr (RL.cY 0 v0 j zr fun al w j=>?_)
 refine aM (.pointer none) (aM (vi 0) (RL.nq (RC.sr (RL.aY zr u6 (RL.aS 0 j zr pg DB fun c0 j=>(RL.bB 0 p0.aK j A0 (ic ((p0.aK.length:Int)) 0 (RL.nt ?_))))))))
 refine eL hb (fun hc hb=>?_) fun hc hb=>?_
 ·refine RC.sr (aM (.pointer none) (aM (vi 9) (RL.nt (RC.rt ?_))))
  obtain rfl:=oi hb
  exact iL ⟨rfl,j.drop 3⟩
 refine RC.ss (RC.sr (RL.aY zr u6 (RL.aS 1 j zr pg DB fun c1 j=>(RL.bB 0 p0.aK j A0 (ic ((p0.aK.length:Int)) 16 (RL.nt (eL hb (fun hc hb=>?_) fun hc hb=>?_)))))))
 ·refine RC.sr (aM (.pointer none) (aM (vi 2) (RL.nt (RC.rt ?_))))
  obtain rfl:=oi hb
  exact iL ⟨rfl,j.drop 4⟩
 refine RC.sx (RL.aY zr ER (RL.aS 2 j zr wP wX fun c2 j=>(RL.bB 0 p0.dA j og (aM (vi p0.dA.length) (RL.nq (RC.sr (RL.aY zr u6 (RL.aS 3 j zr pg DB fun bn j=>?_))))))))
 refine RL.bB 0 p0.aK j A0 (mv (vi 0) (RL.nt ?_))
 obtain⟨c3,hN,hb⟩:=bd hb
 refine RC.range (fun(bh:Nat) (aw:Int)=>SH E V [(1,vp al 0),(4,vi aw),(28,bn),(29,vi p0.aK.length),(30,vi bh)] [bx 27 al p0,rd bn p0.aK]) (fun(aw:Int)=>SH E V [(1,vp al 0),(4,vi aw)] [bx 27 al p0,rd bn p0.aK]) (oV E V) hN ?_ ?_ ?_ ?_ ?_
 ·exact j.sp 6 [4,0]
 ·rintro hm aw _ w ⟨O,rfl,j⟩
  refine RC.sr (ic ((p0.aK.length:Int)) ((p0.aK.length:Int)) (RL.nq (RC.cO l9 (RC.ex ?_))))
  exact⟨rfl,j.sp 2 [0,1]⟩
 ·rintro hm bh aw fl _ w hk ⟨O,rfl,j⟩ hb
  refine RC.sr (ic ((bh:Int)) ((p0.aK.length:Int)) (RL.nq (RC.cN (l8 hk) (RC.ss (RC.bs ?_)))))
  obtain⟨bj,bu,hb⟩:=bd hb
  refine RL.cC 1 j B6 bu fun c4 j=>(RL.bO 0 bj j wX fun bk j=>(aM bk (RL.nq (RC.sr (mv bk ?_)))))
  obtain⟨a6,bw,hb⟩:=bd hb
  refine RL.call zt zr IM [bk] zr (aF (mK N (i0:=0) j zr bw) ?_)
  rintro _ w ⟨rfl,j⟩
  refine aM (vi a6) (RL.ns (mv (vi a6) (ic a6 0 (RL.nt (eL hb (fun hc hb=>?_) fun hc hb=>?_)))))
  ·refine RC.sr (mv (vi a6) (aM (.pointer none) (aM (vi a6) (RL.nt (RC.rt (jF (bV ?_)))))))
   obtain rfl:=oi hb
   exact⟨rfl,iL ⟨rfl,j.drop 4⟩⟩
  refine RC.sn (RC.region (mv (vi aw) (mv bk (RL.bB 0 bj j og (RL.jl aw (bj.length:Int) (aM (vi (IntKind.wrap .i64 (aw+ (bj.length:Int)))) (RL.nil (bL ?_))))))))
  refine aG (RC.region (RL.inc hk hm (mv (vi ((bh+1:Nat):Int)) (RL.nil ?_))))
  obtain rfl:=oi hb
  exact⟨rfl,j.sp 4 [2,3]⟩
 ·intro r U w e hK
  subst e
  refine bV ?_
  obtain rfl:=oi hb
  exact hK
 rintro aw _ w rfl ⟨O,rfl,j⟩
 rw [Fo.f0] at hb
 refine aG (RC.seq (RC.sr (RL.aY zr ER (RL.aS 0 j zr wP wX fun bz j=>?_))))
 obtain⟨a8,b0,hb⟩:=bd hb
 refine RL.call zt zr IM [bz] zr (aF (mK N (i0:=0) j zr b0) ?_)
 rintro _ w ⟨rfl,j⟩
 refine aM (vi a8) (RL.ns (mv (vi a8) (ic a8 0 (RL.nt (eL hb (fun hc hb=>?_) fun hc hb=>?_)))))
 ·refine RC.sr (mv (vi a8) (aM (.pointer none) (aM (vi a8) (RL.nt (RC.rt ?_)))))
  obtain rfl:=oi hb
  exact iL ⟨rfl,j.drop 3⟩
 refine RC.ss (RC.sr (mv (vi aw) (ic aw 2000 (RL.nt (eL hb (fun hc hb=>?_) fun hc hb=>?_)))))
 ·refine RC.sr (aM (.pointer none) (aM (vi 2) (RL.nt (RC.rt ?_))))
  obtain rfl:=oi hb
  exact iL ⟨rfl,j.drop 3⟩
 refine RC.ss (RC.sr (RL.aS (f:=(fun x=>x)) 1 j zr Fd.self nj fun b1 j=>?_))
 obtain⟨a9,b2,hb⟩:=bd hb
 refine RL.call zt zr KF [b1] zr (aF (qV N (i0:=0) j zr b2) ?_)
 rintro _ w ⟨rfl,j⟩
 refine aM (vi a9) (RL.ns (mv (vi a9) (ic a9 0 (RL.nt (eL hb (fun hc hb=>?_) fun hc hb=>?_)))))
 ·refine RC.sr (mv (vi a9) (aM (.pointer none) (aM (vi a9) (RL.nt (RC.rt ?_)))))
  obtain rfl:=oi hb
  exact iL ⟨rfl,j.drop 4⟩
 refine RC.ss (RC.sr (RL.aS (f:=(fun x=>x)) 2 j zr Fd.self nj fun b3 j=>?_))
 obtain⟨ba,b4,hb⟩:=bd hb
 refine RL.call zt zr KJ [b3] zr (aF (qZ N (i0:=0) j zr b4) ?_)
 rintro _ w ⟨rfl,j⟩
 refine aM (vi ba) (RL.ns (mv (vi ba) (ic ba 0 (RL.nt (eL hb (fun hc hb=>?_) fun hc hb=>?_)))))
 ·refine RC.sr (mv (vi ba) (aM (.pointer none) (aM (vi ba) (RL.nt (RC.rt ?_)))))
  obtain rfl:=oi hb
  exact iL ⟨rfl,j.drop 5⟩
 refine RC.ss (RC.sr (RL.aY zr mq (RL.aS 3 j zr qK u7 fun ar j=>(RL.bB 0 p0.aT j wY (mv (vi 0) (RL.nt ?_))))))
 obtain⟨c5,hN,hb⟩:=bd hb
 refine RC.range (fun(av:Nat) (bl:Unit)=>SH E V [(1,vp al 0),(63,ar),(64,vi p0.aT.length),(65,vi av)] [bx 27 al p0,rd ar p0.aT]) (fun(bl:Unit)=>SH E V [(1,vp al 0)] [bx 27 al p0,rd ar p0.aT]) (oV E V) hN ?_ ?_ ?_ ?_ ?_
 ·exact j.sp 6 [4,0]
 ·rintro hm bl _ w ⟨O,rfl,j⟩
  refine RC.sr (ic ((p0.aT.length:Int)) ((p0.aT.length:Int)) (RL.nq (RC.cO l9 (RC.ex ?_))))
  exact⟨rfl,j.sp 2 [0,1]⟩
 ·rintro hm av bl fl _ w hk ⟨O,rfl,j⟩ hb
  refine RC.sr (ic ((av:Int)) ((p0.aT.length:Int)) (RL.nq (RC.cN (l8 hk) (RC.ss (RC.bs (mv (vi av) ?_))))))
  obtain⟨eG,b5,hb⟩:=bd hb
  refine RL.cC 1 j zz b5 fun c6 j=>(RL.bO 0 eG j kW fun c7 j=>(RL.alloc j yH.z fun ak w j=>?_))
  refine aM (vi av) (RL.bA 0 j 1 zr kW fun w j=>?_)
  refine RL.ns (RL.aY zr mq (RL.aS 3 j zr qK u7 fun c8 j=>(mv (vi av) ?_)))
  obtain⟨au,b6,hb⟩:=bd hb
  refine RL.cut (hl:= .inr ⟨rfl,zr⟩) 0 j zz (.inl zr) b6 fun a0 j=>(RL.bB 0 au j wY (mv (vi 0) (RL.nt ?_)))
  obtain⟨c9,hN,hb⟩:=bd hb
  refine RC.range (fun(a3:Nat) (bm:Unit)=>SH E V [(1,vp al 0),(12,vp ak 0),(63,ar),(64,vi p0.aT.length),(65,vi av),(73,a0),(74,vi au.length),(75,vi a3)] [bx 27 al p0,bx 117 ak eG,rd ar p0.aT,rd a0 au]) (fun(bm:Unit)=>SH E V [(1,vp al 0),(63,ar),(64,vi p0.aT.length),(65,vi av)] [bx 27 al p0,bx 117 ak eG,rd ar p0.aT,rd a0 au]) (oV E V) hN ?_ ?_ ?_ ?_ ?_
  ·exact j.sp 7 [5,2,6,0]
  ·rintro hm bm _ w ⟨O,rfl,j⟩
   refine RC.sr (ic ((au.length:Int)) ((au.length:Int)) (RL.nq (RC.cO l9 (RC.ex ?_))))
   exact⟨rfl,j.sp 4 [0,1,2,3]⟩
  ·rintro hm a3 bm fl _ w hk ⟨O,rfl,j⟩ hb
   refine RC.sr (ic ((a3:Int)) ((au.length:Int)) (RL.nq (RC.cN (l8 hk) (RC.ss (RC.bs ?_)))))
   obtain⟨aa,b7,hb⟩:=bd hb
   refine RL.cC 3 j zz b7 fun br j=>(RL.bO 0 aa j kW fun bt j=>(RL.alloc j yH.z fun aq w j=>?_))
   refine RL.bA 0 j 1 zr kW fun w j=>?_
   refine RL.nq ?_
   obtain⟨bo,hj,hb⟩:=bd hb
   refine RC.jn (fun(bo:Bool)=>SH E V [(1,vp al 0),(12,vp ak 0),(63,ar),(64,vi p0.aT.length),(65,vi av),(73,a0),(74,vi au.length),(75,vi a3),(98,vb bo)] [bx 27 al p0,bx 117 ak eG,rd ar p0.aT,rd a0 au]) bo ?_ ?_
   ·refine fM hj (fun ao hj=>?_) fun ao hj=>?_
    rotate_left
    ·refine RC.Ei E V mixed [1,0,1,0,1,1,0,0,0,0,0,0,1,1,1,1,1,1,1,1] [] (fun(x:Unit)=>[(0,79,(vp ak 3)),(1,80,(vi eG.bR)),(2,81,(vp aq 4)),(3,82,(vi aa.To)),(4,83,(vb (decide (eG.bR<=aa.To)))),(5,84,(vb (decide (eG.bR<=aa.To)))),(6,85,(cv (true&&((decide (eG.bR<=aa.To))==true)) (vp aq 3))),(7,86,(cv (true&&((decide (eG.bR<=aa.To))==true)) (vi aa.bR))),(8,87,(cv (true&&((decide (eG.bR<=aa.To))==true)) (vp ak 4))),(9,88,(cv (true&&((decide (eG.bR<=aa.To))==true)) (vi eG.To))),(10,89,(cv (true&&((decide (eG.bR<=aa.To))==true)) (vb (decide (aa.bR<=eG.To))))),(11,90,(vb ((decide (eG.bR<=aa.To))&&(decide (aa.bR<=eG.To))))),(12,91,(vb ((decide (eG.bR<=aa.To))&&(decide (aa.bR<=eG.To))))),(13,92,undef),(14,93,undef),(15,94,undef),(16,95,undef),(17,96,undef),(18,97,undef),(19,98,(vb false))]) [(1,vp al 0),(12,vp ak 0),(14,vp aq 0),(63,ar),(64,vi p0.aT.length),(65,vi av),(73,a0),(74,vi au.length),(75,vi a3)] [] (fun(D:Nat->Bool) (x:Unit)=>[bx 117 aq aa,rd bt aa,pt br aa,bx 27 al p0,bx 117 ak eG,rd ar p0.aT,rd a0 au]) (fun x=>by kernel_rfl) ?_ ⟨fun _=>mi gn pR,?_,fun _=>mi gn rL,?_,fun _=>HI gn rfl,fun _=>jD gn,?_,?_,?_,?_,?_,?_,fun _=>jD gn,fun _=>Dr ao,fun _=>Dr ao,fun _=>Dr ao,fun _=>Dr ao,fun _=>Dr ao,fun _=>Dr ao,fun _=>Kx gn ao rfl,trivial⟩ ?_
     ·have j:=j.drew
      exact⟨(),eF.none,(CN zr),zt,j⟩
     ·rintro D U w hD ad aj ⟨_,o,ha,_,j⟩
      obtain⟨O,rfl⟩:=(ac (o.at 0 rfl (ad.1 rfl)) az).fx
      refine RL.aL 4 j zr mj cH ?_
      exact RL.nil ⟨rfl,(),o.pu 1,ha.u,zt,j⟩
     ·rintro D U w hD ad aj ⟨_,o,ha,_,j⟩
      obtain⟨O,rfl⟩:=(ac (o.at 2 rfl (ad.1 rfl)) az).fx
      refine RL.aL 0 j zr nB cH ?_
      exact RL.nil ⟨rfl,(),o.pu 3,ha.u,zt,j⟩
     ·rintro D U w hD ad aj ⟨_,o,ha,_,j⟩
      obtain⟨O,rfl⟩:=(ac (o.at 5 rfl (ad.1 rfl)) (ac (ha.at 2 rfl) az)).fx
      refine RL.gs true (decide (eG.bR<=aa.To)) (vp aq 3) zr zr zr (dN pR) ?_
      exact RL.nil ⟨rfl,(),o.pu 6,ha.u,zt,j⟩
     ·rintro D U w hD ad aj ⟨_,o,ha,_,j⟩
      obtain⟨O,rfl⟩:=(ac (o.at 5 rfl (ad.2.1 rfl)) (ac (o.at 6 rfl (ad.1 rfl)) az)).fx
      refine RL.gs true (decide (eG.bR<=aa.To)) (vi aa.bR) rfl rfl rfl (bW 0 rfl j (fun h=>by exact(cT h:cv (true&&((decide (eG.bR<=aa.To))==true)) (vp aq 3)= (vp aq 3))) rfl mj cH) ?_
      exact RL.nil ⟨rfl,(),o.pu 7,ha.u,zt,j⟩
     ·rintro D U w hD ad aj ⟨_,o,ha,_,j⟩
      obtain⟨O,rfl⟩:=(ac (o.at 5 rfl (ad.1 rfl)) (ac (ha.at 1 rfl) az)).fx
      refine RL.gs true (decide (eG.bR<=aa.To)) (vp ak 4) zr zr zr (dN rL) ?_
      exact RL.nil ⟨rfl,(),o.pu 8,ha.u,zt,j⟩
     ·rintro D U w hD ad aj ⟨_,o,ha,_,j⟩
      obtain⟨O,rfl⟩:=(ac (o.at 5 rfl (ad.2.1 rfl)) (ac (o.at 8 rfl (ad.1 rfl)) az)).fx
      refine RL.gs true (decide (eG.bR<=aa.To)) (vi eG.To) rfl rfl rfl (bW 4 rfl j (fun h=>by exact(cT h:cv (true&&((decide (eG.bR<=aa.To))==true)) (vp ak 4)= (vp ak 4))) rfl nB cH) ?_
      exact RL.nil ⟨rfl,(),o.pu 9,ha.u,zt,j⟩
     ·rintro D U w hD ad aj ⟨_,o,ha,_,j⟩
      obtain⟨O,rfl⟩:=(ac (o.at 5 rfl (ad.2.2.1 rfl)) (ac (o.at 7 rfl (ad.1 rfl)) (ac (o.at 9 rfl (ad.2.1 rfl)) az))).fx
      refine RL.gs true (decide (eG.bR<=aa.To)) (vb (decide (aa.bR<=eG.To))) rfl rfl rfl (dY .leq .i64 aa.bR eG.To rfl (fun h=>by exact(cT h:cv (true&&((decide (eG.bR<=aa.To))==true)) (vi aa.bR)= (vi aa.bR))) (fun h=>by exact(cT h:cv (true&&((decide (eG.bR<=aa.To))==true)) (vi eG.To)= (vi eG.To))) rfl) ?_
      exact RL.nil ⟨rfl,(),o.pu 10,ha.u,zt,j⟩
     ·rintro D U w hD ad aj ⟨_,o,ha,_,j⟩
      obtain⟨O,rfl⟩:=(ac (o.at 5 rfl (ad.1 rfl)) (ac (o.at 10 rfl (ad.2.1 rfl)) az)).fx
      refine RL.pick (decide (eG.bR<=aa.To)) (vb ((decide (eG.bR<=aa.To))&&(decide (aa.bR<=eG.To)))) (je true) ?_
      exact RL.nil ⟨rfl,(),o.pu 11,ha.u,zt,j⟩
     rintro D U w a4 ⟨_,o,ha,_,j⟩
     obtain⟨O,rfl⟩:=(ac (o.at 19 rfl (jT a4 19)) (ac (ha.at 0 rfl) (ac (ha.at 1 rfl) (ac (ha.at 2 rfl) (ac (ha.at 3 rfl) (ac (ha.at 4 rfl) (ac (ha.at 5 rfl) (ac (ha.at 6 rfl) (ac (ha.at 7 rfl) (ac (ha.at 8 rfl) az)))))))))).fx
     obtain rfl:=oi hj
     exact⟨rfl,j.sp 7 [3,4,5,6]⟩
    obtain⟨b8,b9,hj⟩:=bd hj
    obtain⟨ca,cb,hj⟩:=bd hj
    obtain⟨bp,cc,hj⟩:=bd hj
    refine RC.Ei E V mixed [1,0,1,0,1,1,0,0,0,0,0,0,1,0,0,0,0,0,1,1] [13,14,15,16] (fun(x:Value×Value×Value×Value)=>(fun ae af ag ah=>[(0,79,(vp ak 3)),(1,80,(vi eG.bR)),(2,81,(vp aq 4)),(3,82,(vi aa.To)),(4,83,(vb (decide (eG.bR<=aa.To)))),(5,84,(vb (decide (eG.bR<=aa.To)))),(6,85,(cv (true&&((decide (eG.bR<=aa.To))==true)) (vp aq 3))),(7,86,(cv (true&&((decide (eG.bR<=aa.To))==true)) (vi aa.bR))),(8,87,(cv (true&&((decide (eG.bR<=aa.To))==true)) (vp ak 4))),(9,88,(cv (true&&((decide (eG.bR<=aa.To))==true)) (vi eG.To))),(10,89,(cv (true&&((decide (eG.bR<=aa.To))==true)) (vb (decide (aa.bR<=eG.To))))),(11,90,(vb ((decide (eG.bR<=aa.To))&&(decide (aa.bR<=eG.To))))),(12,91,(vb ((decide (eG.bR<=aa.To))&&(decide (aa.bR<=eG.To))))),(13,92,ae),(14,93,af),(15,94,ag),(16,95,ah),(17,96,(vi bp)),(18,97,(vb (bp==0))),(19,98,(vb (bp==0)))]) x.1 x.2.1 x.2.2.1 x.2.2.2) [(1,vp al 0),(12,vp ak 0),(14,vp aq 0),(63,ar),(64,vi p0.aT.length),(65,vi av),(73,a0),(74,vi au.length),(75,vi a3)] [] (fun(D:Nat->Bool) (x:Value×Value×Value×Value)=>(fun ae af ag ah=>[bif D 0 then (rd ae eG) else aX,bif D 1 then (rd af b8) else aX,bif D 2 then (rd ag aa) else aX,bif D 3 then (rd ah ca) else aX,bx 117 aq aa,rd bt aa,pt br aa,bx 27 al p0,bx 117 ak eG,rd ar p0.aT,rd a0 au]) x.1 x.2.1 x.2.2.1 x.2.2.2) (fun x=>by kernel_rfl) ?_ ⟨fun _=>mi gn pR,?_,fun _=>mi gn rL,?_,fun _=>HI gn rfl,fun _=>jD gn,?_,?_,?_,?_,?_,?_,fun _=>jD gn,?_,?_,?_,?_,?_,fun _=>HI (gy ao rfl) rfl,fun _=>Kw gn ao rfl,trivial⟩ ?_
    ·have j:=((((j.drew).aX).aX).aX).aX
     exact⟨(undef,undef,undef,undef),eF.none,(CN zr),zt,j⟩
    ·rintro D U w hD ad aj ⟨⟨ae,af,ag,ah⟩,o,ha,_,j⟩
     obtain⟨O,rfl⟩:=(ac (o.at 0 rfl (ad.1 rfl)) az).fx
     refine RL.aL 8 j zr mj cH ?_
     exact RL.nil ⟨rfl,(ae,af,ag,ah),o.pu 1,ha.u,zt,j⟩
    ·rintro D U w hD ad aj ⟨⟨ae,af,ag,ah⟩,o,ha,_,j⟩
     obtain⟨O,rfl⟩:=(ac (o.at 2 rfl (ad.1 rfl)) az).fx
     refine RL.aL 4 j zr nB cH ?_
     exact RL.nil ⟨rfl,(ae,af,ag,ah),o.pu 3,ha.u,zt,j⟩
    ·rintro D U w hD ad aj ⟨⟨ae,af,ag,ah⟩,o,ha,_,j⟩
     obtain⟨O,rfl⟩:=(ac (o.at 5 rfl (ad.1 rfl)) (ac (ha.at 2 rfl) az)).fx
     refine RL.gs true (decide (eG.bR<=aa.To)) (vp aq 3) zr zr zr (dN pR) ?_
     exact RL.nil ⟨rfl,(ae,af,ag,ah),o.pu 6,ha.u,zt,j⟩
    ·rintro D U w hD ad aj ⟨⟨ae,af,ag,ah⟩,o,ha,_,j⟩
     obtain⟨O,rfl⟩:=(ac (o.at 5 rfl (ad.2.1 rfl)) (ac (o.at 6 rfl (ad.1 rfl)) az)).fx
     refine RL.gs true (decide (eG.bR<=aa.To)) (vi aa.bR) rfl rfl rfl (bW 4 rfl j (fun h=>by exact(cT h:cv (true&&((decide (eG.bR<=aa.To))==true)) (vp aq 3)= (vp aq 3))) rfl mj cH) ?_
     exact RL.nil ⟨rfl,(ae,af,ag,ah),o.pu 7,ha.u,zt,j⟩
    ·rintro D U w hD ad aj ⟨⟨ae,af,ag,ah⟩,o,ha,_,j⟩
     obtain⟨O,rfl⟩:=(ac (o.at 5 rfl (ad.1 rfl)) (ac (ha.at 1 rfl) az)).fx
     refine RL.gs true (decide (eG.bR<=aa.To)) (vp ak 4) zr zr zr (dN rL) ?_
     exact RL.nil ⟨rfl,(ae,af,ag,ah),o.pu 8,ha.u,zt,j⟩
    ·rintro D U w hD ad aj ⟨⟨ae,af,ag,ah⟩,o,ha,_,j⟩
     obtain⟨O,rfl⟩:=(ac (o.at 5 rfl (ad.2.1 rfl)) (ac (o.at 8 rfl (ad.1 rfl)) az)).fx
     refine RL.gs true (decide (eG.bR<=aa.To)) (vi eG.To) rfl rfl rfl (bW 8 rfl j (fun h=>by exact(cT h:cv (true&&((decide (eG.bR<=aa.To))==true)) (vp ak 4)= (vp ak 4))) rfl nB cH) ?_
     exact RL.nil ⟨rfl,(ae,af,ag,ah),o.pu 9,ha.u,zt,j⟩
    ·rintro D U w hD ad aj ⟨⟨ae,af,ag,ah⟩,o,ha,_,j⟩
     obtain⟨O,rfl⟩:=(ac (o.at 5 rfl (ad.2.2.1 rfl)) (ac (o.at 7 rfl (ad.1 rfl)) (ac (o.at 9 rfl (ad.2.1 rfl)) az))).fx
     refine RL.gs true (decide (eG.bR<=aa.To)) (vb (decide (aa.bR<=eG.To))) rfl rfl rfl (dY .leq .i64 aa.bR eG.To rfl (fun h=>by exact(cT h:cv (true&&((decide (eG.bR<=aa.To))==true)) (vi aa.bR)= (vi aa.bR))) (fun h=>by exact(cT h:cv (true&&((decide (eG.bR<=aa.To))==true)) (vi eG.To)= (vi eG.To))) rfl) ?_
     exact RL.nil ⟨rfl,(ae,af,ag,ah),o.pu 10,ha.u,zt,j⟩
    ·rintro D U w hD ad aj ⟨⟨ae,af,ag,ah⟩,o,ha,_,j⟩
     obtain⟨O,rfl⟩:=(ac (o.at 5 rfl (ad.1 rfl)) (ac (o.at 10 rfl (ad.2.1 rfl)) az)).fx
     refine RL.pick (decide (eG.bR<=aa.To)) (vb ((decide (eG.bR<=aa.To))&&(decide (aa.bR<=eG.To)))) (je true) ?_
     exact RL.nil ⟨rfl,(ae,af,ag,ah),o.pu 11,ha.u,zt,j⟩
    ·rintro D U w hD ad aj ⟨⟨ae,af,ag,ah⟩,o,ha,_,j⟩
     obtain⟨O,rfl⟩:=(ac (o.at 12 rfl (ad.1 rfl)) (ac (ha.at 1 rfl) az)).fx
     have j:=j.cA 0 hD
     refine RL.aS (hg:=(cg ao)) (f:=(fun x=>x)) 8 j zr Fd.self kW fun cd j=>?_
     have j:=(j.pl 12 [0,2,3,4,5,6,7,8,9,10,11]).cK 0 true aX
     exact RL.nil ⟨rfl,(cd,af,ag,ah),o.pu 13,ha.u,zt,j⟩
    ·rintro D U w hD ad aj ⟨⟨ae,af,ag,ah⟩,o,ha,_,j⟩
     obtain⟨O,rfl⟩:=(ac (o.at 12 rfl (ad.2.1 rfl)) (ac (o.at 13 rfl (ad.1 rfl)) az)).fx
     have j:=(j.cJ 0 (ad.1 rfl)).cA 1 hD
     refine RL.call (cg ao) zr DD [ae] zr (aF (gD N (i0:=0) j zr b9) ?_)
     rintro cf w j
     have j:=((j.pl 12 [1,0,3,4,5,6,7,8,9,10,11]).cK (hb:=ad.1 rfl) 0 (D 13) aX).cK 1 true aX
     exact RL.nil ⟨rfl,(ae,cf,ag,ah),o.pu 14,ha.u,zt,j⟩
    ·rintro D U w hD ad aj ⟨⟨ae,af,ag,ah⟩,o,ha,_,j⟩
     obtain⟨O,rfl⟩:=(ac (o.at 12 rfl (ad.1 rfl)) (ac (ha.at 2 rfl) az)).fx
     have j:=j.cA 2 hD
     refine RL.aS (hg:=(cg ao)) (f:=(fun x=>x)) 4 j zr Fd.self kW fun ch j=>?_
     have j:=(j.pl 12 [1,2,0,4,5,6,7,8,9,10,11]).cK 2 true aX
     exact RL.nil ⟨rfl,(ae,af,ch,ah),o.pu 15,ha.u,zt,j⟩
    ·rintro D U w hD ad aj ⟨⟨ae,af,ag,ah⟩,o,ha,_,j⟩
     obtain⟨O,rfl⟩:=(ac (o.at 12 rfl (ad.2.2.1 rfl)) (ac (o.at 15 rfl (ad.1 rfl)) az)).fx
     have j:=(j.cJ 2 (ad.1 rfl)).cA 3 hD
     refine RL.call (cg ao) zr DD [ag] zr (aF (gD N (i0:=2) j zr cb) ?_)
     rintro cj w j
     have j:=((j.pl 12 [1,2,3,0,5,6,7,8,9,10,11]).cK (hb:=ad.1 rfl) 2 (D 15) aX).cK 3 true aX
     exact RL.nil ⟨rfl,(ae,af,ag,cj),o.pu 16,ha.u,zt,j⟩
    ·rintro D U w hD ad aj ⟨⟨ae,af,ag,ah⟩,o,ha,_,j⟩
     obtain⟨O,rfl⟩:=(ac (o.at 12 rfl (ad.2.2.2.1 rfl)) (ac (o.at 14 rfl (ad.1 rfl)) (ac (o.at 16 rfl (ad.2.1 rfl)) az))).fx
     have j:=(j.cJ 1 (ad.1 rfl)).cJ 3 (ad.2.1 rfl)
     refine RL.call (cg ao) zr Gu [af,ah] zr (aF (nr N (i0:=1) (i1:=3) j zr zr cc) ?_)
     rintro _ w ⟨rfl,j⟩
     have j:=(j.cK (hb:=ad.1 rfl) 1 (D 14) aX).cK (hb:=ad.2.1 rfl) 3 (D 16) aX
     exact RL.nil ⟨rfl,(ae,af,ag,ah),o.pu 17,ha.u,zt,j⟩
    rintro D U w a4 ⟨⟨ae,af,ag,ah⟩,o,ha,_,j⟩
    have j:=(((j.cJ 0 (jT a4 13)).cJ 1 (jT a4 14)).cJ 2 (jT a4 15)).cJ 3 (jT a4 16)
    obtain⟨O,rfl⟩:=(ac (o.at 19 rfl (jT a4 19)) (ac (ha.at 0 rfl) (ac (ha.at 1 rfl) (ac (ha.at 2 rfl) (ac (ha.at 3 rfl) (ac (ha.at 4 rfl) (ac (ha.at 5 rfl) (ac (ha.at 6 rfl) (ac (ha.at 7 rfl) (ac (ha.at 8 rfl) az)))))))))).fx
    obtain rfl:=oi hj
    exact⟨rfl,j.sp 11 [7,8,9,10]⟩
   rintro _ w ⟨O,rfl,j⟩
   refine aG (eL hb (fun hc hb=>?_) fun hc hb=>?_)
   rotate_left
   ·refine RC.skip (bL (aG (RC.region (RL.inc hk hm (mv (vi ((a3+1:Nat):Int)) (RL.nil ?_))))))
    obtain rfl:=oi hb
    exact⟨rfl,j.sp 4 [0,1,2,3]⟩
   refine RC.sr (aM (.pointer none) (aM (vi 12) (RL.nt (RC.rb (bV ?_)))))
   obtain rfl:=oi hb
   exact⟨rfl,iL ⟨rfl,j.drop 4⟩⟩
  ·intro r U w e hK
   subst e
   refine jF (bV ?_)
   obtain rfl:=oi hb
   exact⟨rfl,hK⟩
  rintro bm _ w rfl ⟨O,rfl,j⟩
  rw [Fo.f0] at hb
  refine bL (aG (RC.region (RL.inc hk hm (mv (vi ((av+1:Nat):Int)) (RL.nil ?_)))))
  obtain rfl:=oi hb
  exact⟨rfl,j.sp 4 [0,2]⟩
 ·intro r U w e hK
  subst e
  refine bV ?_
  obtain rfl:=oi hb
  exact hK
 rintro bl _ w rfl ⟨O,rfl,j⟩
 rw [Fo.f0] at hb
 refine aG (RC.sr (RL.aS (f:=(fun x=>x)) 0 j zr Fd.self nj fun ck j=>?_))
 obtain⟨cs,hcs,hv224,j⟩:=j.Gm (i:=0) rfl rfl
 obtain⟨bb,bc,bf,bg,rfl⟩:=Ks hcs
 have j:=(((j.iY (i:=0) (k:=0) (f:=fun x=>x.aK) rfl pg rfl rfl rfl).iY (i:=1) (k:=1) (f:=fun x=>x.dA) rfl wP rfl rfl rfl).iY (i:=2) (k:=2) (f:=fun x=>x.aT) rfl qK rfl rfl rfl).iY (i:=3) (k:=3) (f:=fun x=>x.bD) rfl qL rfl rfl rfl
 refine RL.HF (zs:=[(.slice none 0 0),(.slice none 0 0),(.slice none 0 0),(.slice none 0 0),(.slice none 0 0),(.slice none 0 0),(.slice none 0 0),(.slice none 0 0),(.slice none 0 0),(.slice none 0 0),(.slice none 0 0),(.slice none 0 0)]) (cs:=[bb,bc,bf,bg,(.slice none 0 0),(.slice none 0 0),(.slice none 0 0),(.slice none 0 0),(.slice none 0 0),(.slice none 0 0),(.slice none 0 0),(.slice none 0 0)]) zt zr [(0,ck)] [(0,[bb,bc,bf,bg])] zr Ja ⟨rfl,(congrArg Value.cells hv224),zt⟩ zr (RL.CH (cs:=[bb,bc,bf,bg,(.slice none 0 0),(.slice none 0 0),(.slice none 0 0),(.slice none 0 0),(.slice none 0 0),(.slice none 0 0),(.slice none 0 0),(.slice none 0 0)]) zt zr j zr (Ay.all (⟨(wj 3 j zr),(wj 2 j zr),(wj 1 j zr),(wj 0 j zr),zr,zr,zr,zr,zr,zr,zr,zr,zt⟩:Ay [bb,bc,bf,bg,(.slice none 0 0),(.slice none 0 0),(.slice none 0 0),(.slice none 0 0),(.slice none 0 0),(.slice none 0 0),(.slice none 0 0),(.slice none 0 0)])) fun ay w j=>?_)
 refine aM (vp ay 0) (RL.nq (RC.sr (mv (vp ay 0) ?_)))
 have j:=((((((j.cS (List aA) 132).cS aH 134).pull 0).pull 2).dup 6 rfl).dup 9 rfl).pull 6
 obtain⟨cl,cm,hb⟩:=bd hb
 refine RL.call zt zr KO [(vp ay 0)] zr (aF (qu N j cm) ?_)
 rintro _ w ⟨cn,cp,rfl,j⟩
 refine RL.not cl.1 (RL.nt (eL hb (fun hc hb=>?_) fun hc hb=>?_))
 ·refine RC.sr (aM (.pointer none) (aM (vi 2) (RL.nt (RC.rt ?_))))
  obtain rfl:=oi hb
  exact iL ⟨rfl,j.drop 14⟩
 refine RC.sx (mv (vp ay 0) ?_)
 have j:=(((((j.freeze 2).cS (List Int) 87).pull 0).dup 4 rfl).dup 10 rfl).pull 4
 obtain⟨da,cq,hb⟩:=bd hb
 refine RL.call zt zr KR [(vp ay 0)] zr (aF (qw N j cq) ?_)
 rintro _ w ⟨cr,rfl,j⟩
 refine RL.ns (mv (vp ay 0) ?_)
 have j:=((((((((((((j.freeze 1).cS Int 3).cS Int 3).cS Int 3).cS dF 41).pull 0).pull 2).pull 4).pull 6).dup 9 rfl).dup 14 rfl).dup 19 rfl).dup 21 rfl
 have j:=j.pull 12
 obtain⟨db,ct,hb⟩:=bd hb
 refine RL.call zt zr KW [(vp ay 0)] zr (aF (mO N j ct) ?_)
 rintro _ w ⟨cu,cw,cx,cy,cz,rfl,j⟩
 refine RL.ns (mv (vp ay 0) (aM (vp ay 0) (aM (vi 0) (RL.nt (RC.ret ?_)))))
 obtain rfl:=oi hb
 exact iL ⟨ay,bb,bc,bf,bg,cn,cp,cr,cu,cw,cx,cy,cz,zr,j.pk 27 [0,22,21,20,19,14,15,11,1,2,3,4,5]⟩
theorem mX {res:Bool} (o:Holds E w V) (j:jL N p0 p1 p2=some res):
    Calls bG 41 [(vi p0),(vi p1),(vi p2)].toArray w (gH (bF E V res)):=by
 unfold jL at j
 refine enter Tryz.func41 zr zr (RC.sr (aM (vb false) (RL.ns (mv (vi p0) (mv (vi p1) (ic p0 p1 (mv (vb (decide (p0>=p1))) (RL.gs true (decide (p0>=p1)) (vi p0) zr zr zr dR ?_))))))))
 refine RL.gs true (decide (p0>=p1)) (vi p2) rfl rfl rfl dR (RL.gs true (decide (p0>=p1)) (vb (decide (p0<=p2))) rfl rfl rfl (dY .leq .i64 p0 p2 rfl (fun h=>by exact(cT h:cv (true&&((decide (p0>=p1))==true)) (vi p0)= (vi p0))) (fun h=>by exact(cT h:cv (true&&((decide (p0>=p1))==true)) (vi p2)= (vi p2))) rfl) (RL.pick (decide (p0>=p1)) (vb ((decide (p0>=p1))&&(decide (p0<=p2)))) (je true) (aM (vb ((decide (p0>=p1))&&(decide (p0<=p2)))) (RL.nt (RC.ret ?_)))))
 obtain rfl:=oi j
 exact cF ⟨rfl,o.drop 0⟩
def um (E:World) (V:List HP) (b2 b3 b2h:Nat) (v2h_0 v2h_1:Value) (v2h_2 v2h_3:Value) (v2h_4 v2h_5:Value) (v2h_6 v2h_7:Value) (v2h_8 v2h_9:Value) (v2h_10 v2h_11:Value) (res: (List bS)) (v:Value) (w:World):Prop:=∃u3_0:Value,v = .tuple #[]/\Holds E w ([bc 68 b2 [(vp b2h 0)],bc 29 b3 [u3_0],own 43 u3_0 res,bc 126 b2h [v2h_0,v2h_1,v2h_2,v2h_3,v2h_4,v2h_5,v2h_6,v2h_7,v2h_8,v2h_9,v2h_10,v2h_11]]++V)
theorem nV {p0:dF} {p3_0: (List bS)} {p2h_7: (List cE)} {res: (List bS)} (j:Holds E w (bc 68 b2 [(vp b2h 0)]::bc 29 b3 [v3_0]::own 43 v3_0 p3_0::bc 126 b2h [v2h_0,v2h_1,v2h_2,v2h_3,v2h_4,v2h_5,v2h_6,v2h_7,v2h_8,v2h_9,v2h_10,v2h_11]::rd v2h_7 p2h_7::V)) (h0:V[i0]? =some (rd v0 p0)) (hb:gl N p0 p1 p3_0 p2h_7=some res):
    Calls bG 54 [v0,(vi p1),(vp b2 0),(vp b3 0)].toArray w (gH (um E V b2 b3 b2h v2h_0 v2h_1 v2h_2 v2h_3 v2h_4 v2h_5 v2h_6 v2h_7 v2h_8 v2h_9 v2h_10 v2h_11 res)):=by
 unfold gl at hb
 refine enter Tryz.func54 zr zr ?_
 have j:=j.dup (i0+5) h0
 refine RC.sr (RL.cY 0 v0 j zr fun ah w j=>?_)
 refine RL.nq ?_
 obtain⟨af,hj,hb⟩:=bd hb
 refine RC.jn (fun(af:Bool)=>SH E V [(2,vp b2 0),(3,vp b3 0),(4,vp ah 0),(19,vb af)] [bc 68 b2 [(vp b2h 0)],bc 126 b2h [v2h_0,v2h_1,v2h_2,v2h_3,v2h_4,v2h_5,v2h_6,v2h_7,v2h_8,v2h_9,v2h_10,v2h_11],rd v2h_7 p2h_7,bc 29 b3 [v3_0],own 43 v3_0 p3_0,bx 41 ah p0]) af ?_ ?_
 ·refine RC.region (mv (vi p1) (ic p1 0 (mv (vb (decide (p1>=0))) (fM hj (fun o hj=>?_) fun o hj=>?_))))
  rotate_left
  ·refine bJ o (bJ o (bJ o (bJ o (bJ o (bJ o (bJ o (bJ o (bJ o ?_))))))))
   refine bJ o (fI o (vb false) (RL.nil ?_))
   obtain rfl:=oi hj
   exact⟨rfl,j.sp 7 [2,5,6,3,4,0]⟩
  refine RL.aW (hg:=(cg o)) 2 (vp b2h 0) j vZ (RL.nilCheck (hg:=(cg o)) zr (RL.aY (hg:=(cg o)) zr pS (RL.aW (hg:=(cg o)) 5 v2h_7 j w4 (RL.move (vi p1) (cg o) ?_))))
  obtain⟨ad,aj,hj⟩:=bd hj
  refine RL.cC (hg:=(cg o)) 6 j CT aj fun aq j=>(RL.ig (hg:=(cg o)) 0 j zr zD B5 fun ar j=>(RL.bO (hg:=(cg o)) 0 ad.gM j E1 fun au j=>(RL.bB (hg:=(cg o)) 0 ad.gM j Jv (RL.jk (ad.gM.length:Int) 1 (cg o) (fI o (vb (decide ((ad.gM.length:Int)>1))) (RL.nil ?_))))))
  obtain rfl:=oi hj
  exact⟨rfl,j.sp 10 [5,8,9,6,7,3]⟩
 rintro _ w ⟨O,rfl,j⟩
 refine aG ?_
 obtain⟨ag,hj,hb⟩:=bd hb
 refine RC.jn (fun(ag: (List bS)) U w=>∃ae:Value,SH E V [(2,vp b2 0),(3,vp b3 0)] [bc 68 b2 [(vp b2h 0)],bc 126 b2h [v2h_0,v2h_1,v2h_2,v2h_3,v2h_4,v2h_5,v2h_6,v2h_7,v2h_8,v2h_9,v2h_10,v2h_11],rd v2h_7 p2h_7,bc 29 b3 [ae],own 43 ae ag] U w) ag ?_ ?_
 ·refine eL hj (fun hc hj=>?_) fun hc hj=>?_
  rotate_left
  ·refine RC.skip ?_
   obtain rfl:=oi hj
   exact⟨rfl,v3_0,j.sp 6 [0,1,2,3,4]⟩
  refine RC.region (RL.aW 3 v3_0 j DJ (RL.aS (f:=(fun x=>x)) 5 j zr Fd.self qQ fun al j=>?_))
  have j:=j.sc Bool true
  refine RL.build (⟨true,p0,0,0⟩:bS) trivial rfl j [(0,vb true),(1,al)] rfl Jw rfl (fun M hs g=>by have h:=EO M;exact cL.cons (f:=fun(x:bS) y=>{x with Open:=y}) h Dw (g.sat 0 _ rfl).1 fun _ h=>cL.cons (f:=fun(x:bS) y=>{x with dF:=y}) h Dx (g.sat 1 _ rfl).1 fun _ h=>cL.nil h) fun an j=>?_
  refine RL.eJ ([(⟨true,p0,0,0⟩:bS)]: (List bS)) j [an] va A4 (fun M hs g=>⟨(g.sat 0 _ zr).1,zt⟩) fun av w j=>?_
  have j:=j.freeze 0
  obtain⟨aw,ao,hj⟩:=bd hj
  refine RL.app 8 0 j HU ao fun ai w j=>?_
  refine RL.gK 7 ai j zr zr (ir 8 j) DJ fun w j=>?_
  refine RL.nil ?_
  obtain rfl:=oi hj
  exact⟨rfl,ai,j.sp 10 [4,5,6,7,8]⟩
 rintro _ w ⟨ae,O,rfl,j⟩
 obtain rfl:=oi hb
 refine yn ?_
 exact En ⟨ae,zr,j.pk 5 [0,3,4,1]⟩
def zM (E:World) (V:List HP) (res:eK) (v:Value) (w:World):Prop:=Holds E w ([rd v res]++V)
theorem sF {p0 p1:aI} {res:eK} (j:Holds E w V) (h0:V[i0]? =some (rd v0 p0)) (h1:V[i1]? =some (rd v1 p1)) (o:nG N p0 p1 p2=some res):
    Calls bG 89 [v0,v1,(vi p2)].toArray w (gH (zM E V res)):=by
 unfold nG at o
 refine enter Tryz.func89 zr zr ?_
 have j:=(j.dup (i0+0) h0).dup (i1+1) h1
 refine RC.sr (RL.cY 1 v0 j zr fun aa w j=>?_)
 refine RL.cY 1 v1 j zr fun ab w j=>?_
 refine RL.alloc j HV.z fun ad w j=>?_
 refine RL.ns (RL.aY zr jh (RL.aL 2 j zr eM cH (RL.aY zr jh (RL.aL 1 j zr eM cH (mv (vi p2) (RL.jl p1.X0 p2 (RL.max p0.X0 (IntKind.wrap .i64 (p1.X0 - p2)) (RL.aY zr jM ?_))))))))
 refine RL.aL 2 j zr eY cH (RL.aY zr jM (RL.aL 1 j zr eY cH (mv (vi p2) (RL.jl p1.Y0 p2 (RL.max p0.Y0 (IntKind.wrap .i64 (p1.Y0 - p2)) ?_)))))
 have j:=(j.sc Int (if p0.X0< (IntKind.wrap .i64 (p1.X0 - p2)) then (IntKind.wrap .i64 (p1.X0 - p2)) else p0.X0)).sc Int (if p0.Y0< (IntKind.wrap .i64 (p1.Y0 - p2)) then (IntKind.wrap .i64 (p1.Y0 - p2)) else p0.Y0)
 refine RL.build (⟨(if p0.X0< (IntKind.wrap .i64 (p1.X0 - p2)) then (IntKind.wrap .i64 (p1.X0 - p2)) else p0.X0),(if p0.Y0< (IntKind.wrap .i64 (p1.Y0 - p2)) then (IntKind.wrap .i64 (p1.Y0 - p2)) else p0.Y0)⟩:eK) trivial rfl j [(0,(vi (if p0.X0< (IntKind.wrap .i64 (p1.X0 - p2)) then (IntKind.wrap .i64 (p1.X0 - p2)) else p0.X0))),(1,(vi (if p0.Y0< (IntKind.wrap .i64 (p1.Y0 - p2)) then (IntKind.wrap .i64 (p1.Y0 - p2)) else p0.Y0)))] rfl KY rfl (fun M hs g=>by have h:=wo M;exact cL.cons (f:=fun(x:eK) y=>{x with X:=y}) h B3 (g.sat 1 _ rfl).1 fun _ h=>cL.cons (f:=fun(x:eK) y=>{x with Y:=y}) h B4 (g.sat 0 _ rfl).1 fun _ h=>cL.nil h) fun ae j=>?_
 refine RL.bA 3 j 0 zr r5 fun w j=>?_
 refine RL.nt (RC.ret ?_)
 obtain rfl:=oi o
 exact Es 3 zr j zr zr r5 fun af j=>(j.pk 9 [0])
theorem sG {p0 p1:eK} {res:Bool} (j:Holds E w V) (h0:V[i0]? =some (rd v0 p0)) (h1:V[i1]? =some (rd v1 p1)) (hb:nH N p0 p1=some res):
    Calls bG 90 [v0,v1].toArray w (gH (bF E V res)):=by
 unfold nH at hb
 refine enter Tryz.func90 zr zr ?_
 have j:=(j.dup (i0+0) h0).dup (i1+1) h1
 refine RC.sr (RL.cY 1 v0 j zr fun o w j=>?_)
 refine RL.cY 1 v1 j zr fun aa w j=>?_
 refine aM (vb false) (RL.ns (RL.aY zr oO (RL.aL 1 j zr jg cH (RL.aY zr oO (RL.aL 0 j zr jg cH (ic p0.Y p1.Y (mv (vb (decide (p0.Y<p1.Y))) (RL.gs true (decide (p0.Y<p1.Y)) (vp o 1) zr zr zr (dN oO) ?_))))))))
 refine RL.gs true (decide (p0.Y<p1.Y)) (vi p0.Y) rfl rfl rfl (bW 1 rfl j (fun h=>by exact(cT h:cv (true&&((decide (p0.Y<p1.Y))==false)) (vp o 1)= (vp o 1))) rfl jg cH) (RL.gs true (decide (p0.Y<p1.Y)) (vp aa 1) rfl rfl rfl (dN oO) (RL.gs true (decide (p0.Y<p1.Y)) (vi p1.Y) rfl rfl rfl (bW 0 rfl j (fun h=>by exact(cT h:cv (true&&((decide (p0.Y<p1.Y))==false)) (vp aa 1)= (vp aa 1))) rfl jg cH) (RL.gs true (decide (p0.Y<p1.Y)) (vb (p0.Y==p1.Y)) rfl rfl rfl (dY .eql .i64 p0.Y p1.Y rfl (fun h=>by exact(cT h:cv (true&&((decide (p0.Y<p1.Y))==false)) (vi p0.Y)= (vi p0.Y))) (fun h=>by exact(cT h:cv (true&&((decide (p0.Y<p1.Y))==false)) (vi p1.Y)= (vi p1.Y))) rfl) (RL.gs true (decide (p0.Y<p1.Y)) (vb (p0.Y==p1.Y)) rfl rfl rfl (dR (hx:=fun h=>by exact(cT h:cv (true&&((decide (p0.Y<p1.Y))==false)) (vb (p0.Y==p1.Y))= (vb (p0.Y==p1.Y))))) (RL.gs (true&&((decide (p0.Y<p1.Y))==false)) (p0.Y==p1.Y) (vp o 0) rfl rfl rfl (dN qP) (RL.gs (true&&((decide (p0.Y<p1.Y))==false)) (p0.Y==p1.Y) (vi p0.X) rfl rfl rfl (bW 1 rfl j (fun h=>by exact(cT h:cv ((true&&((decide (p0.Y<p1.Y))==false))&&((p0.Y==p1.Y)==true)) (vp o 0)= (vp o 0))) rfl kr cH) (RL.gs (true&&((decide (p0.Y<p1.Y))==false)) (p0.Y==p1.Y) (vp aa 0) rfl rfl rfl (dN qP) (RL.gs (true&&((decide (p0.Y<p1.Y))==false)) (p0.Y==p1.Y) (vi p1.X) rfl rfl rfl (bW 0 rfl j (fun h=>by exact(cT h:cv ((true&&((decide (p0.Y<p1.Y))==false))&&((p0.Y==p1.Y)==true)) (vp aa 0)= (vp aa 0))) rfl kr cH) ?_))))))))
 refine RL.gs (true&&((decide (p0.Y<p1.Y))==false)) (p0.Y==p1.Y) (vb (decide (p0.X<p1.X))) rfl rfl rfl (dY .lss .i64 p0.X p1.X rfl (fun h=>by exact(cT h:cv ((true&&((decide (p0.Y<p1.Y))==false))&&((p0.Y==p1.Y)==true)) (vi p0.X)= (vi p0.X))) (fun h=>by exact(cT h:cv ((true&&((decide (p0.Y<p1.Y))==false))&&((p0.Y==p1.Y)==true)) (vi p1.X)= (vi p1.X))) rfl) (RL.gs true (decide (p0.Y<p1.Y)) (vb ((p0.Y==p1.Y)&&(decide (p0.X<p1.X)))) rfl rfl rfl (oy (p0.Y==p1.Y) rfl (fun h=>by exact(cT h:cv (true&&((decide (p0.Y<p1.Y))==false)) (vb (p0.Y==p1.Y))= (vb (p0.Y==p1.Y)))) (fun h=>by exact je (h:=h) (true&&((decide (p0.Y<p1.Y))==false)))) (RL.pick (decide (p0.Y<p1.Y)) (vb ((decide (p0.Y<p1.Y))||((p0.Y==p1.Y)&&(decide (p0.X<p1.X))))) (nE true rfl) (aM (vb ((decide (p0.Y<p1.Y))||((p0.Y==p1.Y)&&(decide (p0.X<p1.X))))) (RL.nt (RC.ret ?_)))))
 obtain rfl:=oi hb
 exact cF ⟨rfl,j.drop 4⟩
end Go.Gk
