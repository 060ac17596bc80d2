/-
  Printed texts: Go functions as plain functions, and that they are. No statement of the seed is proved here.
-/
import Derived.Test.YtllecmpemokbfabGreatDoorG1
import Derived.Test.YtllecmpemokbfabGreatDoorG2
import Derived.Test.YtllecmpemokbfabGreatDoorG3
import Derived.Test.YtllecmpemokbfabGreatDoorA2
set_option linter.unusedVariables false
set_option linter.unusedSimpArgs false
set_option linter.unusedSectionVars false
set_option maxRecDepth 100000
set_option maxHeartbeats 4000000
namespace Go.Gk
open Go Go.Proofs
variable (N:Nat) {E w:World} {b0 b1 b1h i0 i1:Nat} {p0 p1 p2 res:Int} {v0 v0_0 v0_1 v0_10 v0_11 v0_2 v0_3 v0_4 v0_5 v0_6 v0_8 v0_9 v1 v1h_0 v1h_1 v1h_10 v1h_11 v1h_2 v1h_3 v1h_4 v1h_5 v1h_6 v1h_7 v1h_8 v1h_9:Value} {V:List HP}
def lT (E:World) (V:List HP) (b0:Nat) (v0_0 v0_1:Value) (v0_2 v0_3:Value) (v0_4 v0_5 v0_6:Value) (res: (List cP)×(List Int)×(List Int)×(List Int)×(List eZ)) (v:Value) (w:World):Prop:=∃u0_7 u0_8 u0_9 u0_10 u0_11:Value,v = .tuple #[]/\Holds E w ([bc 57 b0 [v0_0,v0_1,v0_2,v0_3,v0_4,v0_5,v0_6,u0_7,u0_8,u0_9,u0_10,u0_11],own 105 u0_7 res.1,rd u0_8 res.2.1,rd u0_9 res.2.2.1,own 3 u0_10 res.2.2.2.1,own 67 u0_11 res.2.2.2.2]++V)
theorem lK {p0_2: (List bU)} {p0_3: (List cT)} {p0_5: (List aH)} {p0_6: (List (List Int))} {p0_8: (List Int)} {p0_9: (List Int)} {p0_10: (List Int)} {p0_11: (List eZ)} {res: (List cP)×(List Int)×(List Int)×(List Int)×(List eZ)} (hw:Holds E w (bc 57 b0 [v0_0,v0_1,v0_2,v0_3,v0_4,v0_5,v0_6,(.slice none 0 0),v0_8,v0_9,v0_10,v0_11]::rd v0_2 p0_2::rd v0_3 p0_3::rd v0_5 p0_5::rd v0_6 p0_6::own 3 v0_8 p0_8::own 3 v0_9 p0_9::own 3 v0_10 p0_10::own 67 v0_11 p0_11::V)) (hb:dZ N p0_2 p0_3 p0_5 p0_6 p0_8 p0_9 p0_10 p0_11=some res):
    Calls bC 18 [(vp b0 0)].toArray w (gE (lT E V b0 v0_0 v0_1 v0_2 v0_3 v0_4 v0_5 v0_6 res)):=by
 unfold dZ at hb
 refine enter Tryz.func18 zr zr (RC.sr (mv (vp b0 0) (RL.nilCheck zr (RL.bA zr ph (RL.aX 0 v0_5 hw ym (RL.bF 3 p0_5 hw AV (aP (vi p0_5.length) (RL.ns ?_))))))))
 refine mv (vi p0_5.length) (mv (vp b0 0) (RL.nilCheck zr (RL.bA zr lS (RL.bA zr lq (RL.aX 0 v0_2 hw tn (RL.bF 1 p0_2 hw uL (RL.jq (p0_5.length:Int) (p0_2.length:Int) ?_)))))))
 obtain⟨e6,ds,hb⟩:=bd hb
 refine RL.call zt zr FB [(vi (IntKind.wrap .i64 ((p0_5.length:Int)+ (p0_2.length:Int))))] zr (aF (lX N (p0:=(IntKind.wrap .i64 ((p0_5.length:Int)+ (p0_2.length:Int)))) hw ds) ?_)
 rintro _ w ⟨a9,dt,rfl,hw⟩
 refine aP (vp a9 0) (RL.nq (RC.sr (mv (vp b0 0) (RL.nilCheck zr (RL.bA zr w8 (RL.aX 2 v0_6 hw Dg (RL.bF 6 p0_6 hw Dh (mv (vi 0) ?_))))))))
 refine RL.nt ?_
 obtain⟨bz,hN,hb⟩:=bd hb
 refine RC.fold (fun(bj:Nat) (bz: (List Int)) U w=>∃c5:Value,SH E V [(0,vp b0 0),(2,vi p0_5.length),(3,vp a9 0),(35,v0_6),(36,vi p0_6.length),(37,vi bj)] [bc 57 b0 [v0_0,v0_1,v0_2,v0_3,v0_4,v0_5,v0_6,(.slice none 0 0),v0_8,v0_9,v0_10,v0_11],rd v0_2 p0_2,rd v0_3 p0_3,rd v0_5 p0_5,rd v0_6 p0_6,own 3 v0_8 p0_8,own 3 v0_9 p0_9,own 3 v0_10 p0_10,own 67 v0_11 p0_11,bc 112 a9 [c5],own 3 c5 bz] U w) (fun(bz: (List Int)) U w=>∃ca:Value,SH E V [(0,vp b0 0),(2,vi p0_5.length),(3,vp a9 0)] [bc 57 b0 [v0_0,v0_1,v0_2,v0_3,v0_4,v0_5,v0_6,(.slice none 0 0),v0_8,v0_9,v0_10,v0_11],rd v0_2 p0_2,rd v0_3 p0_3,rd v0_5 p0_5,rd v0_6 p0_6,own 3 v0_8 p0_8,own 3 v0_9 p0_9,own 3 v0_10 p0_10,own 67 v0_11 p0_11,bc 112 a9 [ca],own 3 ca bz] U w) hN ?_ ?_ ?_ ?_
 ·exact⟨dt,hw.sp 11 [2,3,4,5,6,7,8,9,10,0,1]⟩
 ·rintro hm bz _ w ⟨du,O,rfl,hw⟩
  refine RC.sr (ic ((p0_6.length:Int)) ((p0_6.length:Int)) (RL.nq (RC.cY nb (RC.ex ?_))))
  exact⟨rfl,du,hw.sp 11 [0,1,2,3,4,5,6,7,8,9,10]⟩
 ·rintro hm bj bz s' _ w hk ⟨dv,O,rfl,hw⟩ hb
  refine RC.sr (ic ((bj:Int)) ((p0_6.length:Int)) (RL.nq (RC.cX (na hk) (RC.ss (RC.bs (mv (vi bj) ?_))))))
  obtain⟨bt,dw,hb⟩:=bd hb
  refine RL.cF 4 hw zh dw fun e7 hw=>(RL.bY 0 bt hw eJ fun cb hw=>(aP (vi bj) (aP cb (RL.ns (mv cb (RL.bF 0 bt hw ln (mv (vi 0) (RL.nt ?_))))))))
  obtain⟨b4,hN,hb⟩:=bd hb
  refine RC.fold (fun(cf:Nat) (b4: (List Int)) U w=>∃c6:Value,SH E V [(0,vp b0 0),(2,vi p0_5.length),(3,vp a9 0),(4,vi bj),(35,v0_6),(36,vi p0_6.length),(37,vi bj),(42,cb),(43,vi bt.length),(44,vi cf)] [bc 57 b0 [v0_0,v0_1,v0_2,v0_3,v0_4,v0_5,v0_6,(.slice none 0 0),v0_8,v0_9,v0_10,v0_11],rd v0_2 p0_2,rd v0_3 p0_3,rd v0_5 p0_5,rd v0_6 p0_6,own 3 v0_8 p0_8,own 3 v0_9 p0_9,own 3 v0_10 p0_10,own 67 v0_11 p0_11,bc 112 a9 [c6],own 3 c6 b4,rd cb bt] U w) (fun(b4: (List Int)) U w=>∃cg:Value,SH E V [(0,vp b0 0),(2,vi p0_5.length),(3,vp a9 0),(35,v0_6),(36,vi p0_6.length),(37,vi bj)] [bc 57 b0 [v0_0,v0_1,v0_2,v0_3,v0_4,v0_5,v0_6,(.slice none 0 0),v0_8,v0_9,v0_10,v0_11],rd v0_2 p0_2,rd v0_3 p0_3,rd v0_5 p0_5,rd v0_6 p0_6,own 3 v0_8 p0_8,own 3 v0_9 p0_9,own 3 v0_10 p0_10,own 67 v0_11 p0_11,bc 112 a9 [cg],own 3 cg b4,rd cb bt] U w) hN ?_ ?_ ?_ ?_
  ·exact⟨dv,hw.sp 13 [2,3,4,5,6,7,8,9,10,11,12,0]⟩
  ·rintro hm b4 _ w ⟨dx,O,rfl,hw⟩
   refine RC.sr (ic ((bt.length:Int)) ((bt.length:Int)) (RL.nq (RC.cY nb (RC.ex ?_))))
   exact⟨rfl,dx,hw.sp 12 [0,1,2,3,4,5,6,7,8,9,10,11]⟩
  ·rintro hm cf b4 s' _ w hk ⟨e8,O,rfl,hw⟩ hb
   refine RC.sr (ic ((cf:Int)) ((bt.length:Int)) (RL.nq (RC.cX (na hk) (RC.ss (RC.bs ?_)))))
   obtain⟨cc,dy,hb⟩:=bd hb
   refine RL.cF 11 hw eC dy fun e9 hw=>(RL.bH cc 0 hw cE (aP (vi cc) (RL.nt (RC.region (mv (vp a9 0) (mv (vi cc) (mv (vi p0_5.length) (mv (vi bj) ?_))))))))
   refine RL.jq (p0_5.length:Int) (bj:Int) ?_
   have hw:=(hw.pull 11).pull 11
   obtain⟨fa,dz,hb⟩:=bd hb
   refine RL.call zt zr FC [(vp a9 0),(vi cc),(vi (IntKind.wrap .i64 ((p0_5.length:Int)+ (bj:Int))))] zr (aF (lf N (p1:=cc) (p2:=(IntKind.wrap .i64 ((p0_5.length:Int)+ (bj:Int)))) hw dz) ?_)
   rintro _ w ⟨d3,rfl,hw⟩
   refine RL.nil (bT (aG (RC.region (RL.inc hk hm (mv (vi ((cf+1:Nat):Int)) (RL.nil ?_))))))
   obtain rfl:=oi hb
   exact⟨rfl,d3,hw.sp 15 [3,4,5,6,7,8,9,10,11,0,1,14]⟩
  rintro _ w ⟨cg,O,rfl,hw⟩
  refine bT (aG (RC.region (RL.inc hk hm (mv (vi ((bj+1:Nat):Int)) (RL.nil ?_)))))
  obtain rfl:=oi hb
  exact⟨rfl,cg,hw.sp 12 [0,1,2,3,4,5,6,7,8,9,10]⟩
 rintro _ w ⟨ca,O,rfl,hw⟩
 refine aG (RC.seq ?_)
 obtain⟨d4,d5,hb⟩:=bd hb
 obtain⟨d6,d7,hb⟩:=bd hb
 refine RC.BO E V mixed [1,1,1,0,1,1,1,1,0,0,0,1,1,0,1,1,0] [3,10,13,16] (fun(x:Value×Value)=>(fun al an=>[(0,56,(vp b0 0)),(1,57,(vp b0 0)),(2,58,(vi p0_5.length)),(3,59,al),(4,60,(vp b0 0)),(5,61,(vp b0 0)),(6,62,(vp b0 0)),(7,63,(vp b0 2)),(8,64,v0_2),(9,65,(vi p0_2.length)),(10,66,an),(11,67,(vp b0 0)),(12,68,(vp b0 8)),(14,69,(vp b0 0)),(15,70,(vp b0 9))]) x.1 x.2) [(0,vp b0 0),(2,vi p0_5.length),(3,vp a9 0)] [] (fun(D:Nat->Bool) (x:Value×Value)=>(fun al an=>[bif D 0 then (own 3 al d4) else aT,bif D 1 then (own 3 an d6) else aT,bif D 3 then (bc 57 b0 [v0_0,v0_1,v0_2,v0_3,v0_4,v0_5,v0_6,(.slice none 0 0),al,an,v0_10,v0_11]) else (bif D 2 then (bc 57 b0 [v0_0,v0_1,v0_2,v0_3,v0_4,v0_5,v0_6,(.slice none 0 0),al,v0_9,v0_10,v0_11]) else (bc 57 b0 [v0_0,v0_1,v0_2,v0_3,v0_4,v0_5,v0_6,(.slice none 0 0),v0_8,v0_9,v0_10,v0_11])),rd v0_2 p0_2,rd v0_3 p0_3,rd v0_5 p0_5,rd v0_6 p0_6,own 3 v0_8 p0_8,own 3 v0_9 p0_9,own 3 v0_10 p0_10,own 67 v0_11 p0_11,bc 112 a9 [ca],own 3 ca bz]) x.1 x.2) (fun x=>by kernel_rfl) ?_ ⟨fun _=>i7 gn,fun _=>i7 gn,fun _=>i7 gn,?_,fun _=>i7 gn,fun _=>vG gn,fun _=>mq gn lS,fun _=>mq gn lq,?_,?_,?_,fun _=>vG gn,fun _=>mq gn zi,?_,fun _=>vG gn,fun _=>mq gn w9,?_,trivial⟩ ?_
 ·have hw:=((hw.drew).aT).aT
  exact⟨(undef,undef),dU.none,(AF zr),zt,hw⟩
 ·rintro D U w hD af ad ⟨⟨al,an⟩,hv,ha,_,hw⟩
  obtain⟨O,rfl⟩:=(ac (hv.at 2 rfl (af.1 rfl)) az).eO
  have hw:=((hw.bN 0 hD).bN 2 (nh ad hD 16)).bN 2 (nh ad hD 13)
  refine RL.mk (p0_5.length:Int) hw r7 EJ d5 fun cv w hw=>?_
  have hw:=(((hw.pl 14 [0,2,3,4,5,6,7,8,9,10,11,12,13]).cD 0 true aT).eF 2 (D 13) (nh ad hD 13) (bc 57 b0 [v0_0,v0_1,v0_2,v0_3,v0_4,v0_5,v0_6,(.slice none 0 0),cv,v0_9,v0_10,v0_11])).eF 2 (D 16) (nh ad hD 16) (bc 57 b0 [v0_0,v0_1,v0_2,v0_3,v0_4,v0_5,v0_6,(.slice none 0 0),cv,an,v0_10,v0_11])
  exact RL.nil ⟨rfl,(cv,an),hv.pu 3,ha.u,zt,hw⟩
 ·rintro D U w hD af ad ⟨⟨al,an⟩,hv,ha,_,hw⟩
  obtain⟨O,rfl⟩:=(ac (hv.at 7 rfl (af.1 rfl)) az).eO
  have hw:=(hw.bN 2 (nh ad hD 16)).bN 2 (nh ad hD 13)
  refine RL.aX 2 v0_2 hw tn ?_
  have hw:=(hw.eF 2 (D 13) (nh ad hD 13) (bc 57 b0 [v0_0,v0_1,v0_2,v0_3,v0_4,v0_5,v0_6,(.slice none 0 0),al,v0_9,v0_10,v0_11])).eF 2 (D 16) (nh ad hD 16) (bc 57 b0 [v0_0,v0_1,v0_2,v0_3,v0_4,v0_5,v0_6,(.slice none 0 0),al,an,v0_10,v0_11])
  exact RL.nil ⟨rfl,(al,an),hv.pu 8,ha.u,zt,hw⟩
 ·rintro D U w hD af ad ⟨⟨al,an⟩,hv,ha,_,hw⟩
  obtain⟨O,rfl⟩:=(ac (hv.at 8 rfl (af.1 rfl)) az).eO
  refine RL.bF 3 p0_2 hw uL ?_
  exact RL.nil ⟨rfl,(al,an),hv.pu 9,ha.u,zt,hw⟩
 ·rintro D U w hD af ad ⟨⟨al,an⟩,hv,ha,_,hw⟩
  obtain⟨O,rfl⟩:=(ac (hv.at 9 rfl (af.1 rfl)) az).eO
  have hw:=(hw.bN 1 hD).bN 2 (nh ad hD 16)
  refine RL.mk (p0_2.length:Int) hw r7 EJ d7 fun c7 w hw=>?_
  have hw:=((hw.pl 14 [1,0,3,4,5,6,7,8,9,10,11,12,13]).cD 1 true aT).eF 2 (D 16) (nh ad hD 16) (bc 57 b0 [v0_0,v0_1,v0_2,v0_3,v0_4,v0_5,v0_6,(.slice none 0 0),al,c7,v0_10,v0_11])
  exact RL.nil ⟨rfl,(al,c7),hv.pu 10,ha.u,zt,hw⟩
 ·rintro D U w hD af ad ⟨⟨al,an⟩,hv,ha,_,hw⟩
  obtain⟨O,rfl⟩:=(ac (hv.at 3 rfl (af.2.1 rfl)) (ac (hv.at 12 rfl (af.1 rfl)) az)).eO
  have hw:=((hw.cC 0 (af.2.1 rfl)).bN 2 (nh ad hD 16)).bN 2 hD
  refine RL.gH 2 al hw zr zr (hL 0 hw) eJ fun w hw=>?_
  have hw:=((hw.cD (hb:=af.2.1 rfl) 0 (D 3) aT).cD 2 true (bc 57 b0 [v0_0,v0_1,v0_2,v0_3,v0_4,v0_5,v0_6,(.slice none 0 0),v0_8,v0_9,v0_10,v0_11])).eF 2 (D 16) (nh ad hD 16) (bc 57 b0 [v0_0,v0_1,v0_2,v0_3,v0_4,v0_5,v0_6,(.slice none 0 0),al,an,v0_10,v0_11])
  exact RL.nil ⟨rfl,(al,an),hv.n1,ha,zt,hw⟩
 ·rintro D U w hD af ad ⟨⟨al,an⟩,hv,ha,_,hw⟩
  obtain⟨O,rfl⟩:=(ac (hv.at 10 rfl (af.2.1 rfl)) (ac (hv.at 14 rfl (af.1 rfl)) az)).eO
  have hw:=((hw.cC 1 (af.2.1 rfl)).bN 2 hD).cC 2 (af.2.2.1 rfl)
  refine RL.gH 2 an hw zr zr (hL 1 hw) eJ fun w hw=>?_
  have hw:=(hw.cD (hb:=af.2.1 rfl) 1 (D 10) aT).cD 2 true (bif D 13 then (bc 57 b0 [v0_0,v0_1,v0_2,v0_3,v0_4,v0_5,v0_6,(.slice none 0 0),al,v0_9,v0_10,v0_11]) else (bc 57 b0 [v0_0,v0_1,v0_2,v0_3,v0_4,v0_5,v0_6,(.slice none 0 0),v0_8,v0_9,v0_10,v0_11]))
  exact RL.nil ⟨rfl,(al,an),hv.n1,ha,zt,hw⟩
 rintro D U w a7 ⟨⟨al,an⟩,hv,ha,_,hw⟩
 have hw:=((hw.cC 0 (jO a7 3)).cC 1 (jO a7 10)).cC 2 (jO a7 16)
 obtain⟨O,rfl⟩:=(ac (ha.at 0 rfl) (ac (ha.at 1 rfl) (ac (ha.at 2 rfl) az))).eO
 refine aG (RC.seq (RC.sr (mv (vp a9 0) ?_)))
 have hw:=(hw.pull 12).pull 12
 obtain⟨a8,d8,hb⟩:=bd hb
 refine RL.call zt zr Hf [(vp a9 0)] zr (aF (oU N hw d8) ?_)
 rintro bk w ⟨_,fb,rfl,hw⟩
 refine RL.fQ 0 a8.1 hw Dh (mv (vi 0) (RL.nt ?_))
 obtain⟨a5,hN,hb⟩:=bd hb
 refine RC.fold (fun(bo:Nat) (a5: (List cP)×(List Int)×(List Int)) U w=>∃(c8:Value) (us442:List bO),SH E V [(0,vp b0 0),(2,vi p0_5.length),(72,bk),(73,vi a8.1.length),(74,vi bo)] [bc 57 b0 [v0_0,v0_1,v0_2,v0_3,v0_4,v0_5,v0_6,c8,al,an,v0_10,v0_11],own 105 c8 us442,gT bI us442 a5.1 none,rd v0_2 p0_2,rd v0_3 p0_3,rd v0_5 p0_5,rd v0_6 p0_6,own 3 al a5.2.1,own 3 an a5.2.2,own 3 v0_10 p0_10,own 67 v0_11 p0_11,own 43 bk a8.1] U w) (fun(a5: (List cP)×(List Int)×(List Int)) U w=>∃(aj:Value) (us444:List bO),SH E V [(0,vp b0 0)] [bc 57 b0 [v0_0,v0_1,v0_2,v0_3,v0_4,v0_5,v0_6,aj,al,an,v0_10,v0_11],own 105 aj us444,gT bI us444 a5.1 none,rd v0_2 p0_2,rd v0_3 p0_3,rd v0_5 p0_5,rd v0_6 p0_6,own 3 al a5.2.1,own 3 an a5.2.2,own 3 v0_10 p0_10,own 67 v0_11 p0_11,own 43 bk a8.1] U w) hN ?_ ?_ ?_ ?_
 ·have hw:=(hw.wP bI).dP bO 105
  exact⟨(.slice none 0 0),([]:List bO),hw.sp 18 [7,0,1,8,9,10,11,5,6,14,15,2]⟩
 ·rintro hm a5 _ w ⟨d9,us604,O,rfl,hw⟩
  refine RC.sr (ic ((a8.1.length:Int)) ((a8.1.length:Int)) (RL.nq (RC.cY nb (RC.ex ?_))))
  exact⟨rfl,d9,us604,hw.sp 12 [0,1,2,3,4,5,6,7,8,9,10,11]⟩
 ·rintro hm bo a5 s' _ w hk ⟨bg,us446,O,rfl,hw⟩ hb
  refine RC.sr (ic ((bo:Int)) ((a8.1.length:Int)) (RL.nq (RC.cX (na hk) (RC.ss (RC.bs ?_)))))
  obtain⟨bm,cw,hb⟩:=bd hb
  refine RL.bK 11 hw zr zr zh cw (RL.kp (f:=(fun x=>x)) 11 hw (jl 11 hw cw 0) (aV cw).2.1 Fd.self eJ fun bp hw=>?_)
  refine aP bp (RL.ns (RL.o4 zr hw FD zr fun bu w hw=>?_))
  refine RL.nq (RC.sr (mv bp (RL.bF 1 bm hw ln (mv (vi 0) (RL.nt ?_)))))
  obtain⟨ar,hN,hb⟩:=bd hb
  refine RC.fold (fun(b5:Nat) (ar: (List Int)×(List Int)×(List Int)×(List Int)) U w=>∃c9 da:Value,SH E V [(0,vp b0 0),(2,vi p0_5.length),(10,vp bu 0),(72,bk),(73,vi a8.1.length),(74,vi bo),(78,bp),(79,vi bm.length),(80,vi b5)] [bc 57 b0 [v0_0,v0_1,v0_2,v0_3,v0_4,v0_5,v0_6,bg,al,an,v0_10,v0_11],rd v0_2 p0_2,rd v0_3 p0_3,rd v0_5 p0_5,rd v0_6 p0_6,own 105 bg us446,gT bI us446 a5.1 none,own 3 al ar.1,own 3 an ar.2.1,own 3 v0_10 p0_10,own 67 v0_11 p0_11,bc 105 bu [c9,da,(.slice none 0 0)],own 3 c9 ar.2.2.1,own 3 da ar.2.2.2,own 43 bk a8.1,rd bp bm] U w) (fun(ar: (List Int)×(List Int)×(List Int)×(List Int)) U w=>∃bw bq:Value,SH E V [(0,vp b0 0),(2,vi p0_5.length),(10,vp bu 0),(72,bk),(73,vi a8.1.length),(74,vi bo)] [bc 57 b0 [v0_0,v0_1,v0_2,v0_3,v0_4,v0_5,v0_6,bg,al,an,v0_10,v0_11],rd v0_2 p0_2,rd v0_3 p0_3,rd v0_5 p0_5,rd v0_6 p0_6,own 105 bg us446,gT bI us446 a5.1 none,own 3 al ar.1,own 3 an ar.2.1,own 3 v0_10 p0_10,own 67 v0_11 p0_11,bc 105 bu [bw,bq,(.slice none 0 0)],own 3 bw ar.2.2.1,own 3 bq ar.2.2.2,own 43 bk a8.1,rd bp bm] U w) hN ?_ ?_ ?_ ?_
  ·have hw:=(hw.dP Int 3).dP Int 3
   exact⟨(.slice none 0 0),(.slice none 0 0),hw.sp 16 [4,7,8,9,10,5,6,11,12,13,14,2,1,0,15,3]⟩
  ·rintro hm ar _ w ⟨ea,eb,O,rfl,hw⟩
   refine RC.sr (ic ((bm.length:Int)) ((bm.length:Int)) (RL.nq (RC.cY nb (RC.ex ?_))))
   exact⟨rfl,ea,eb,hw.sp 16 [0,1,2,3,4,5,6,7,8,9,10,11,12,13,14,15]⟩
  ·rintro hm b5 ar s' _ w hk ⟨ch,cx,O,rfl,hw⟩ hb
   refine RC.sr (ic ((b5:Int)) ((bm.length:Int)) (RL.nq (RC.cX (na hk) (RC.ss (RC.bs ?_)))))
   obtain⟨a2,ec,hb⟩:=bd hb
   refine RL.cF 15 hw eC ec fun fc hw=>(RL.bH a2 0 hw cE (aP (vi a2) (RL.nt (RC.bs (mv (vi a2) (mv (vi p0_5.length) (ic a2 ((p0_5.length:Int)) (aP (vb (decide (a2< (p0_5.length:Int)))) ?_))))))))
   refine RL.nt ?_
   obtain⟨b6,hj,hb⟩:=bd hb
   refine RC.jn (fun(b6: (List Int)×(List Int)×(List Int)×(List Int)) U w=>∃cj ck:Value,SH E V [(0,vp b0 0),(2,vi p0_5.length),(10,vp bu 0),(72,bk),(73,vi a8.1.length),(74,vi bo),(78,bp),(79,vi bm.length),(80,vi b5)] [bc 57 b0 [v0_0,v0_1,v0_2,v0_3,v0_4,v0_5,v0_6,bg,al,an,v0_10,v0_11],rd v0_2 p0_2,rd v0_3 p0_3,rd v0_5 p0_5,rd v0_6 p0_6,own 105 bg us446,gT bI us446 a5.1 none,own 3 al b6.1,own 3 an b6.2.1,own 3 v0_10 p0_10,own 67 v0_11 p0_11,bc 105 bu [cj,ck,(.slice none 0 0)],own 3 cj b6.2.2.1,own 3 ck b6.2.2.2,own 43 bk a8.1,rd bp bm] U w) b6 ?_ ?_
   ·refine fE hj (fun hc hj=>?_) fun hc hj=>?_
    ·refine RC.seq (RC.ye mixed [0,0,0,0,0,0,0,0,0,0,0,2] [0,1,2,3,4,5,6,7,8,9,10,11] ?_)
     have hw:=hw.drew
     refine DP.e0 zr (mv (vp b0 0) (cJ zr (RL.nilCheck zr (cJ zr (RL.bA zr zi (cJ zr (RL.aX 1 al hw eJ (cJ zr ?_))))))))
     refine mv (vi a2) (cJ zr (mv (vp b0 0) (cJ zr (RL.nilCheck zr (cJ zr (RL.bA zr tr (cJ zr (RL.aX 1 bg hw AX ?_))))))))
     refine cJ zr (RL.o5 6 7 a5.1 zr hw zr zr zr FE (cJ zr ?_))
     obtain⟨fe,cy,hj⟩:=bd hj
     refine RL.bK 8 hw zr zr eC cy (uF zr ?_)
     have hw:=hw.sc Int (a5.1.length:Int)
     refine RL.fJ (f:=(fun _ y=>y)) 9 0 hw (jl 9 hw cy 0) (aV cy).2.1 zr Fs.self cE fun w hw=>?_
     refine DP.d2 zt (DP.z (aG (RC.region (RL.bA zr xc (RL.aX 13 ch hw eJ (mv (vi a2) ?_))))))
     have hw:=hw.sc Int a2
     refine RL.fy ([a2]: (List Int)) hw [(vi a2)] eC BW (fun M hs g=>⟨(g.sat 0 _ zr).1,zt⟩) fun ff w hw=>?_
     have hw:=hw.freeze 0
     obtain⟨fg,ed,hj⟩:=bd hj
     refine RL.app 16 0 hw r7 ed fun db w hw=>?_
     refine RL.bA zr xc (RL.gH 15 db hw zr zr (hL 16 hw) eJ fun w hw=>?_)
     refine RL.nil ?_
     obtain rfl:=oi hj
     exact⟨rfl,db,cx,hw.sp 20 [4,5,6,7,8,9,10,11,12,13,14,15,16,17,18,19]⟩
    refine RC.sr (mv (vp b0 0) (RL.nilCheck zr (RL.bA zr lS (RL.bA zr lq (RL.aX 1 v0_2 hw tn (mv (vi a2) (mv (vi p0_5.length) (RL.jq a2 (p0_5.length:Int) ?_))))))))
    obtain⟨dc,ee,hj⟩:=bd hj
    refine RL.cF 2 hw w4 ee fun fh hw=>(RL.iw 0 hw zr w7 qe fun fi hw=>(RL.bH dc.gh 0 hw wo (aP (vb dc.gh) (RL.nt ?_))))
    obtain⟨cl,hjj,hj⟩:=bd hj
    refine RC.jn (fun(cl: (List Int)×(List Int)) U w=>∃cm:Value,SH E V [(0,vp b0 0),(2,vi p0_5.length),(10,vp bu 0),(72,bk),(73,vi a8.1.length),(74,vi bo),(78,bp),(79,vi bm.length),(80,vi b5)] [bc 57 b0 [v0_0,v0_1,v0_2,v0_3,v0_4,v0_5,v0_6,bg,al,an,v0_10,v0_11],rd v0_2 p0_2,rd v0_3 p0_3,rd v0_5 p0_5,rd v0_6 p0_6,own 105 bg us446,gT bI us446 a5.1 none,own 3 al ar.1,own 3 an cl.1,own 3 v0_10 p0_10,own 67 v0_11 p0_11,bc 105 bu [ch,cm,(.slice none 0 0)],own 3 cm cl.2,own 3 ch ar.2.2.1,own 43 bk a8.1,rd bp bm] U w) cl ?_ ?_
    ·refine fE hjj (fun hc hjj=>?_) fun hc hjj=>?_
     rotate_left
     ·refine RC.region (mv (vp b0 0) (RL.nilCheck zr (RL.bA zr w9 (RL.aX 3 an hw eJ (mv (vi a2) (mv (vi p0_5.length) (RL.jq a2 (p0_5.length:Int) ?_)))))))
      obtain⟨fj,cz,hjj⟩:=bd hjj
      refine RL.bK 11 hw zr zr eC cz ?_
      have hw:=hw.sc Int (-1)
      refine RL.fJ (f:=(fun _ y=>y)) 12 0 hw (jl 12 hw cz 0) (aV cz).2.1 zr Fs.self cE fun w hw=>?_
      refine RL.nil ?_
      obtain rfl:=oi hjj
      exact⟨rfl,cx,hw.sp 20 [4,5,6,7,8,9,10,11,12,13,14,15,17,16,18,19]⟩
     refine RC.seq (RC.ye mixed [0,0,0,0,0,0,0,0,0,0,0,0,0,2] [0,1,2,3,4,5,6,7,8,9,10,11,12,13] ?_)
     have hw:=hw.drew
     refine DP.e0 zr (mv (vp b0 0) (cJ zr (RL.nilCheck zr (cJ zr (RL.bA zr w9 (cJ zr (RL.aX 3 an hw eJ (cJ zr ?_))))))))
     refine mv (vi a2) (cJ zr (mv (vi p0_5.length) (cJ zr (RL.jq a2 (p0_5.length:Int) (cJ zr (mv (vp b0 0) (cJ zr (RL.nilCheck zr ?_))))))))
     refine cJ zr (RL.bA zr tr (cJ zr (RL.aX 3 bg hw AX (cJ zr (RL.o5 8 9 a5.1 zr hw zr zr zr FE (cJ zr ?_))))))
     obtain⟨fk,c0,hjj⟩:=bd hjj
     refine RL.bK 11 hw zr zr eC c0 (uF zr ?_)
     have hw:=hw.sc Int (a5.1.length:Int)
     refine RL.fJ (f:=(fun _ y=>y)) 12 0 hw (jl 12 hw c0 0) (aV c0).2.1 zr Fs.self cE fun w hw=>?_
     refine DP.d2 zt (DP.z (aG (RC.region (RL.bA zr xd (RL.aX 15 cx hw eJ (mv (vi a2) (mv (vi p0_5.length) (RL.jq a2 (p0_5.length:Int) ?_))))))))
     have hw:=hw.sc Int (IntKind.wrap .i64 (a2 - (p0_5.length:Int)))
     refine RL.fy ([(IntKind.wrap .i64 (a2 - (p0_5.length:Int)))]: (List Int)) hw [(vi (IntKind.wrap .i64 (a2 - (p0_5.length:Int))))] eC BW (fun M hs g=>⟨(g.sat 0 _ zr).1,zt⟩) fun fl w hw=>?_
     have hw:=hw.freeze 0
     obtain⟨fm,ef,hjj⟩:=bd hjj
     refine RL.app 19 0 hw r7 ef fun dd w hw=>?_
     refine RL.bA zr xd (RL.gH 17 dd hw zr zr (hL 19 hw) eJ fun w hw=>?_)
     refine RL.nil ?_
     obtain rfl:=oi hjj
     exact⟨rfl,dd,hw.sp 22 [6,7,8,9,10,11,12,13,14,15,16,17,19,18,20,21]⟩
    rintro _ w ⟨cm,O,rfl,hw⟩
    obtain rfl:=oi hj
    exact⟨rfl,ch,cm,hw.sp 16 [0,1,2,3,4,5,6,7,8,9,10,11,13,12,14,15]⟩
   rintro _ w ⟨cj,ck,O,rfl,hw⟩
   refine bT (bT (aG (RC.region (RL.inc hk hm (mv (vi ((b5+1:Nat):Int)) (RL.nil ?_))))))
   obtain rfl:=oi hb
   exact⟨rfl,cj,ck,hw.sp 16 [0,1,2,3,4,5,6,7,8,9,10,11,12,13,14,15]⟩
  rintro _ w ⟨bw,bq,O,rfl,hw⟩
  refine aG (RC.sr (RL.bA zr xc (RL.aX 11 bw hw eJ (RL.fQ 12 ar.2.2.1 hw ln (RL.bA zr xd (RL.aX 11 bq hw eJ (RL.fQ 13 ar.2.2.2 hw ln (RL.jq (ar.2.2.1.length:Int) (ar.2.2.2.length:Int) ?_))))))))
  refine ic ((IntKind.wrap .i64 ((ar.2.2.1.length:Int)+ (ar.2.2.2.length:Int)))) 0 (RL.nt ?_)
  obtain⟨c1,hj,hb⟩:=bd hb
  refine RC.jn (fun(c1: (List cP)) U w=>∃(cn:Value) (us598:List bO),SH E V [(0,vp b0 0),(2,vi p0_5.length),(72,bk),(73,vi a8.1.length),(74,vi bo)] [bc 57 b0 [v0_0,v0_1,v0_2,v0_3,v0_4,v0_5,v0_6,cn,al,an,v0_10,v0_11],own 105 cn us598,gT bI us598 c1 none,rd v0_2 p0_2,rd v0_3 p0_3,rd v0_5 p0_5,rd v0_6 p0_6,own 3 al ar.1,own 3 an ar.2.1,own 3 v0_10 p0_10,own 67 v0_11 p0_11,own 43 bk a8.1] U w) c1 ?_ ?_
  ·refine fE hj (fun hc hj=>?_) fun hc hj=>?_
   rotate_left
   ·refine RC.skip ?_
    obtain rfl:=oi hj
    exact⟨rfl,bg,us446,hw.sp 16 [0,5,6,1,2,3,4,7,8,9,10,14]⟩
   have hw:=hw.drew
   refine RC.BS (fun w=>Holds E w ([bc 57 b0 [v0_0,v0_1,v0_2,v0_3,v0_4,v0_5,v0_6,bg,al,an,v0_10,v0_11]]++V)) mixed zr [1,1,1,1,1,0,2,2,0,0,2] [0,1,2,3,4,5,6,7,8,9,10] (hw.pk 16 [0]) (DP.e1 (vp b0 0) zr (fun w=>RL.move (vp b0 0) zt DP.d1) (DP.e1 (vp b0 0) zr (fun w=>RL.move (vp b0 0) zt DP.d1) (DP.e1 (vp b0 0) zr (fun w=>RL.nilCheck zr DP.d1) (DP.e1 (vp b0 7) zr (fun w=>RL.bA zr tr DP.d1) (DP.Ef bg zr (fun w hw=>RL.aX 0 bg hw AX DP.d1) (DP.e0 zr (RL.BJ (i:=11) (cs:=[bw,bq,(.slice none 0 0)]) zt zr hw zr zr FF zr (uF zr ?_))))))))
   have hw:=((((hw.dP eK 29).zS (i:=0) rfl).freeze 14).freeze 15).BE (cs:=[bw,bq,(.slice none 0 0)]) (x:=(⟨ar.2.2.1,ar.2.2.2,(rv (.slice none 0 0))⟩:bO)) (fun M hs g=>⟨[bw],[bq,(.slice none 0 0)],rfl,(o1 (g.sat 14 _ rfl).1),⟨[bq],[(.slice none 0 0)],rfl,(o1 (g.sat 15 _ rfl).1),(o1 (g.sat 0 _ rfl).1)⟩⟩) rfl
   refine RL.fy ([(⟨ar.2.2.1,ar.2.2.2,(rv (.slice none 0 0))⟩:bO)]:List bO) hw [(.agg ([bw,bq,(.slice none 0 0)]:List Value).toArray)] Et FG (fun M hs g=>⟨(g.sat 0 _ zr).1,zt⟩) fun fo w hw=>(DP.d2 (hw.pk 20 [4]) (DP.e2 zr ?_))
   obtain⟨fp,eg,hj⟩:=bd hj
   have hw:=hw.freeze 0
   refine RL.AA (i:=9) (j:=0) (b:=10) (o:=3) (X:=bI) (ur:=(⟨ar.2.2.1,ar.2.2.2,(rv (.slice none 0 0))⟩:bO)) (xr:=(⟨ar.2.2.1,ar.2.2.2,([]: (List eK))⟩:cP)) (u:=(.slice none 0 0)) (y:=([]: (List eK))) (fun _ _ ho=>⟨⟨rfl,rfl⟩,ho⟩) trivial rfl hw rfl rfl rfl rfl rfl rfl (by decide) (by decide) (by decide) Hg eg fun de w hw=>?_
   refine DP.d2 (hw.pk 20 [4]) (DP.e0 zr (RL.nilCheck zr (cJ zr (RL.bA zr tr (DP.d0 (DP.HQ zr zr (RL.gH 4 de hw zr zr (hL 9 hw) AX fun w hw=>?_)))))))
   refine DP.d2 zt (DP.z ?_)
   obtain rfl:=oi hj
   exact⟨rfl,de,(us446++[(⟨ar.2.2.1,ar.2.2.2,(rv (.slice none 0 0))⟩:bO)]),hw.sp 20 [4,9,10,5,6,7,8,11,12,13,14,18]⟩
  rintro _ w ⟨cn,us598,O,rfl,hw⟩
  refine bT (aG (RC.region (RL.inc hk hm (mv (vi ((bo+1:Nat):Int)) (RL.nil ?_)))))
  obtain rfl:=oi hb
  exact⟨rfl,cn,us598,hw.sp 12 [0,1,2,3,4,5,6,7,8,9,10,11]⟩
 rintro _ w ⟨aj,us444,O,rfl,hw⟩
 refine aG (RC.sr (mv (vp b0 0) (RL.nilCheck zr (RL.bA zr lS (RL.bA zr tq (RL.aX 0 v0_3 hw AR (RL.bF 4 p0_3 hw BZ (mv (vi 0) ?_))))))))
 refine RL.nt ?_
 obtain⟨ai,hN,hb⟩:=bd hb
 refine RC.fold (fun(b2:Nat) (ai: (List cP)×(List Int)×(List Int)×(List Int)×(List eZ)) U w=>∃(df dg:Value) (dh di:Value) (us819:List bO),SH E V [(0,vp b0 0),(170,v0_3),(171,vi p0_3.length),(172,vi b2)] [bc 57 b0 [v0_0,v0_1,v0_2,v0_3,v0_4,v0_5,v0_6,aj,df,dg,dh,di],rd df ai.2.1,rd dg ai.2.2.1,own 3 dh ai.2.2.2.1,own 67 di ai.2.2.2.2,rd v0_2 p0_2,rd v0_3 p0_3,rd v0_5 p0_5,rd v0_6 p0_6,own 105 aj us819,gT bI us819 ai.1 none] U w) (fun(ai: (List cP)×(List Int)×(List Int)×(List Int)×(List eZ)) U w=>∃(cp cq:Value) (cr ct:Value) (us824:List bO),SH E V [(0,vp b0 0)] [bc 57 b0 [v0_0,v0_1,v0_2,v0_3,v0_4,v0_5,v0_6,aj,cp,cq,cr,ct],rd cp ai.2.1,rd cq ai.2.2.1,own 3 cr ai.2.2.2.1,own 67 ct ai.2.2.2.2,rd v0_2 p0_2,rd v0_3 p0_3,rd v0_5 p0_5,rd v0_6 p0_6,own 105 aj us824,gT bI us824 ai.1 none] U w) hN ?_ ?_ ?_ ?_
 ·have hw:=(hw.freeze 7).freeze 8
  exact⟨al,an,v0_10,v0_11,us444,hw.sp 12 [0,7,8,9,10,3,4,5,6,1,2]⟩
 ·rintro hm ai _ w ⟨eh,ei,ej,ek,us932,O,rfl,hw⟩
  refine RC.sr (ic ((p0_3.length:Int)) ((p0_3.length:Int)) (RL.nq (RC.cY nb (RC.ex ?_))))
  exact⟨rfl,eh,ei,ej,ek,us932,hw.sp 11 [0,1,2,3,4,5,6,7,8,9,10]⟩
 ·rintro hm b2 ai s' _ w hk ⟨a3,a4,bl,a6,us829,O,rfl,hw⟩ hb
  refine RC.sr (ic ((b2:Int)) ((p0_3.length:Int)) (RL.nq (RC.cX (na hk) (RC.ss (RC.bs ?_)))))
  obtain⟨b7,el,hb⟩:=bd hb
  refine RL.cF 6 hw AU el fun en hw=>(RL.bY 0 b7 hw uN fun eo hw=>(RL.alloc hw El.z fun dj w hw=>?_))
  refine RL.bJ 0 hw 1 zr uN fun w hw=>?_
  refine RL.ns (mv (vp b0 0) (RL.aZ (f:=(fun x=>x)) 0 hw zr Fd.self uN fun dk hw=>?_))
  have hw:=((hw.dup 11 rfl).dup 10 rfl).pull 6
  obtain⟨ba,ep,hb⟩:=bd hb
  refine RL.call zt zr Hi [(vp b0 0),dk] zr (aF (oW N (i1:=0) hw zr ep) ?_)
  rintro _ w ⟨c2,rfl,hw⟩
  refine mv (.tuple #[c2,(vb ba.2)]) (RL.extract c2 (RL.extract (vb ba.2) (RL.alloc hw Di.z fun b8 w hw=>?_)))
  refine RL.bJ 0 hw 1 zr qB fun w hw=>?_
  refine aP (vb ba.2) (RL.ns (aP (vi (-1)) (RL.nq (RC.sr (mv (vb ba.2) (RL.nt ?_))))))
  obtain⟨bh,hj,hb⟩:=bd hb
  refine RC.jn (fun(bh: (List cP)×Int) U w=>∃(us877:List bO),SH E V [(0,vp b0 0),(15,vp b8 0),(17,vi bh.2),(170,v0_3),(171,vi p0_3.length),(172,vi b2)] [bc 57 b0 [v0_0,v0_1,v0_2,v0_3,v0_4,v0_5,v0_6,aj,a3,a4,bl,a6],rd v0_2 p0_2,rd v0_3 p0_3,rd v0_5 p0_5,rd v0_6 p0_6,own 105 aj us877,gT bI us877 bh.1 none,rd a3 ai.2.1,rd a4 ai.2.2.1,own 3 bl ai.2.2.2.1,own 67 a6 ai.2.2.2.2,bx 67 b8 ba.1] U w) bh ?_ ?_
  ·refine fE hj (fun hc hj=>?_) fun hc hj=>?_
   rotate_left
   ·refine RC.skip ?_
    obtain rfl:=oi hj
    exact⟨rfl,us829,hw.sp 18 [2,12,13,14,15,16,17,8,9,10,11,0]⟩
   refine RC.sr (mv (vp b0 0) (RL.aZ (f:=(fun x=>x)) 0 hw zr Fd.self qB fun dm hw=>?_))
   have hw:=((hw.dup 10 rfl).dup 10 rfl).pull 5
   obtain⟨ah,er,hj⟩:=bd hj
   refine RL.call zt zr Hj [(vp b0 0),dm] zr (aF (mE N (i1:=0) hw zr er) ?_)
   rintro _ w ⟨rfl,hw⟩
   refine aP (vi ah) (RL.nt ?_)
   obtain⟨fq,cd,hj⟩:=bd hj
   obtain⟨b9,et,hj⟩:=bd hj
   obtain⟨br,eu,hj⟩:=bd hj
   obtain⟨b3,cu,hj⟩:=bd hj
   refine RC.BO E V mixed [1,1,1,0,1,1,1,1,0,1,0,0,0,0,0,0,0,0,0,0] [13,14,15,16,19] (fun(x:Value×Value×Value×Value)=>(fun av aw au ak=>[(0,186,(vp b0 0)),(1,187,(vp b0 0)),(2,188,(vp b0 7)),(3,189,aj),(4,190,(vi ah)),(5,191,(vp b0 0)),(6,192,(vp b0 0)),(7,193,(vp b0 7)),(8,194,aj),(9,195,(vi ah)),(10,196,(xB aj (Int.toNat ah) 3 0)),(11,197,(xB aj (Int.toNat ah) 3 2)),(12,198,(us829.getD (Int.toNat ah) (default:bO)).gV.v),(13,199,av),(14,200,aw),(15,201,au),(16,202,ak),(17,203,(xB aj (Int.toNat ah) 3 0)),(18,204,(xB aj (Int.toNat ah) 3 2))]) x.1 x.2.1 x.2.2.1 x.2.2.2) [(0,vp b0 0),(14,vp dj 0),(15,vp b8 0),(17,vi ah),(170,v0_3),(171,vi p0_3.length),(172,vi b2)] [] (fun(D:Nat->Bool) (x:Value×Value×Value×Value)=>(fun av aw au ak=>[bif D 0 then (rd av b7) else aT,bif D 1 then (rd aw b9) else aT,bif D 3 then (rd au ([b9]: (List eK))) else (bif D 2 then (own 29 au ([b9]: (List eK))) else aT),bif D 4 then aT else (bif D 3 then (own 29 ak br) else aT),bc 57 b0 [v0_0,v0_1,v0_2,v0_3,v0_4,v0_5,v0_6,aj,a3,a4,bl,a6],rd dm ba.1,bx 67 b8 ba.1,rd c2 ba.1,aT,rd dk b7,bx 50 dj b7,rd eo b7,pt en b7,aT,rd a3 ai.2.1,rd a4 ai.2.2.1,own 3 bl ai.2.2.2.1,own 67 a6 ai.2.2.2.2,rd v0_2 p0_2,rd v0_3 p0_3,rd v0_5 p0_5,rd v0_6 p0_6,bif D 4 then (own 105 aj (us829.set (Int.toNat ah) {(us829.getD (Int.toNat ah) (default:bO)) with gV:=rv ak})) else (own 105 aj us829),bif D 4 then (gT bI (us829.set (Int.toNat ah) {(us829.getD (Int.toNat ah) (default:bO)) with gV:=rv ak}) (ai.1.set (Int.toNat ah) {b3 with gV:=br}) none) else (bif D 3 then (gT bI us829 ai.1 (some (Int.toNat ah))) else (gT bI us829 ai.1 none))]) x.1 x.2.1 x.2.2.1 x.2.2.2) (fun x=>by kernel_rfl) ?_ ⟨fun _=>i7 gn,fun _=>vG gn,fun _=>mq gn tr,?_,fun _=>i7 gn,fun _=>i7 gn,fun _=>vG gn,fun _=>mq gn tr,?_,fun _=>i7 gn,?_,?_,?_,?_,?_,?_,?_,?_,?_,?_,trivial⟩ ?_
   ·have hw:=((((hw.drew).aT).aT).aT).aT
    exact⟨(undef,undef,undef,undef),dU.none,(AF zr),zt,hw⟩
   ·rintro D U w hD af ad ⟨⟨av,aw,au,ak⟩,hv,ha,_,hw⟩
    obtain⟨O,rfl⟩:=(ac (hv.at 2 rfl (af.1 rfl)) az).eO
    refine RL.aX 4 aj hw AX ?_
    exact RL.nil ⟨rfl,(av,aw,au,ak),hv.pu 3,ha.u,zt,hw⟩
   ·rintro D U w hD af ad ⟨⟨av,aw,au,ak⟩,hv,ha,_,hw⟩
    obtain⟨O,rfl⟩:=(ac (hv.at 7 rfl (af.1 rfl)) az).eO
    refine RL.aX 4 aj hw AX ?_
    exact RL.nil ⟨rfl,(av,aw,au,ak),hv.pu 8,ha.u,zt,hw⟩
   ·rintro D U w hD af ad ⟨⟨av,aw,au,ak⟩,hv,ha,_,hw⟩
    obtain⟨O,rfl⟩:=(ac (hv.at 8 rfl (af.1 rfl)) (ac (hv.at 9 rfl (af.2.1 rfl)) az)).eO
    have hw:=((hw.bN 22 (nh ad hD 19)).bN 23 (nh ad hD 19)).bN 23 (nf (fun h=>ft hD ((ad 11 _ rfl ((ad 12 _ rfl ((ad 16 _ rfl h).1 rfl)).1 rfl)).1 rfl)))
    have hl900:=hw.fR 23 rfl
    have hr901:=iR (default:bO) hl900 cd
    refine RL.bK 22 hw zr zr Et hr901 ?_
    have hw:=(hw.eF 22 (D 19) (nh ad hD 19) (own 105 aj (us829.set (Int.toNat ah) {(us829.getD (Int.toNat ah) (default:bO)) with gV:=rv ak}))).eF 23 (D 16) (nf (fun h=>ft hD ((ad 11 _ rfl ((ad 12 _ rfl ((ad 16 _ rfl h).1 rfl)).1 rfl)).1 rfl))) (gT bI us829 ai.1 (some (Int.toNat ah)))
    have hw:=hw.eF 23 (D 19) (nh ad hD 19) (gT bI (us829.set (Int.toNat ah) {(us829.getD (Int.toNat ah) (default:bO)) with gV:=rv ak}) (ai.1.set (Int.toNat ah) {b3 with gV:=br}) none)
    exact RL.nil ⟨rfl,(av,aw,au,ak),hv.pu 10,ha.u,zt,hw⟩
   ·rintro D U w hD af ad ⟨⟨av,aw,au,ak⟩,hv,ha,_,hw⟩
    obtain⟨O,rfl⟩:=(ac (hv.at 10 rfl (af.1 rfl)) az).eO
    have hw:=((hw.bN 22 (nh ad hD 19)).bN 23 (nh ad hD 19)).bN 23 (nf (fun h=>ft hD ((ad 12 _ rfl ((ad 16 _ rfl h).1 rfl)).1 rfl)))
    have hl902:=hw.fR 23 rfl
    have hr903:=iR (default:bO) hl902 cd
    refine RL.lN (α:=bO) (jl 22 hw hr903 0) Ab ?_
    have hw:=(hw.eF 22 (D 19) (nh ad hD 19) (own 105 aj (us829.set (Int.toNat ah) {(us829.getD (Int.toNat ah) (default:bO)) with gV:=rv ak}))).eF 23 (D 16) (nf (fun h=>ft hD ((ad 12 _ rfl ((ad 16 _ rfl h).1 rfl)).1 rfl))) (gT bI us829 ai.1 (some (Int.toNat ah)))
    have hw:=hw.eF 23 (D 19) (nh ad hD 19) (gT bI (us829.set (Int.toNat ah) {(us829.getD (Int.toNat ah) (default:bO)) with gV:=rv ak}) (ai.1.set (Int.toNat ah) {b3 with gV:=br}) none)
    exact RL.nil ⟨rfl,(av,aw,au,ak),hv.pu 11,ha.u,zt,hw⟩
   ·rintro D U w hD af ad ⟨⟨av,aw,au,ak⟩,hv,ha,_,hw⟩
    obtain⟨O,rfl⟩:=(ac (hv.at 11 rfl (af.1 rfl)) az).eO
    have hw:=((hw.bN 22 (nh ad hD 19)).bN 23 (nh ad hD 19)).bN 23 (nh ad hD 16)
    have hl904:=hw.fR 23 rfl
    have hr905:=iR (default:bO) hl904 cd
    refine RL.tf 22 23 ah pf (default:bO) zr hw zr (jl 22 hw hr905 2) zr zr cd DM ?_
    have hw:=(hw.eF 22 (D 19) (nh ad hD 19) (own 105 aj (us829.set (Int.toNat ah) {(us829.getD (Int.toNat ah) (default:bO)) with gV:=rv ak}))).eF 23 (D 16) (nh ad hD 16) (gT bI us829 ai.1 (some (Int.toNat ah)))
    have hw:=hw.eF 23 (D 19) (nh ad hD 19) (gT bI (us829.set (Int.toNat ah) {(us829.getD (Int.toNat ah) (default:bO)) with gV:=rv ak}) (ai.1.set (Int.toNat ah) {b3 with gV:=br}) none)
    exact RL.nil ⟨rfl,(av,aw,au,ak),hv.pu 12,ha.u,zt,hw⟩
   ·rintro D U w hD af ad ⟨⟨av,aw,au,ak⟩,hv,ha,_,hw⟩
    obtain⟨O,rfl⟩:=(ac (ha.at 1 rfl) az).eO
    have hw:=hw.bN 0 hD
    refine RL.aZ (f:=(fun x=>x)) 10 hw zr Fd.self uN fun ev hw=>?_
    have hw:=(hw.pl 25 [0,2,3,4,5,6,7,8,9,10,11,12,13,14,15,16,17,18,19,20,21,22,23,24]).cD 0 true aT
    exact RL.nil ⟨rfl,(ev,aw,au,ak),hv.pu 13,ha.u,zt,hw⟩
   ·rintro D U w hD af ad ⟨⟨av,aw,au,ak⟩,hv,ha,_,hw⟩
    obtain⟨O,rfl⟩:=(ac (hv.at 13 rfl (af.1 rfl)) az).eO
    have hw:=(hw.cC 0 (af.1 rfl)).bN 1 hD
    refine RL.call zt zr De [av] zr (aF (ku N (i0:=0) hw zr et) ?_)
    rintro ew w hw
    have hw:=((hw.pl 25 [1,0,3,4,5,6,7,8,9,10,11,12,13,14,15,16,17,18,19,20,21,22,23,24]).cD (hb:=af.1 rfl) 0 (D 13) aT).cD 1 true aT
    exact RL.nil ⟨rfl,(av,ew,au,ak),hv.pu 14,ha.u,zt,hw⟩
   ·rintro D U w hD af ad ⟨⟨av,aw,au,ak⟩,hv,ha,_,hw⟩
    obtain⟨O,rfl⟩:=(ac (hv.at 14 rfl (af.1 rfl)) az).eO
    have hw:=((hw.cC 1 (af.1 rfl)).bN 2 (nh ad hD 16)).bN 2 hD
    refine RL.fy ([b9]: (List eK)) hw [aw] FI Fh (fun M hs g=>⟨(g.sat 1 _ zr).1,zt⟩) fun dn w hw=>?_
    have hw:=(((hw.pl 25 [1,2,0,4,5,6,7,8,9,10,11,12,13,14,15,16,17,18,19,20,21,22,23,24]).cD (hb:=af.1 rfl) 1 (D 14) aT).cD 2 true aT).eF 2 (D 16) (nh ad hD 16) (rd dn ([b9]: (List eK)))
    exact RL.nil ⟨rfl,(av,aw,dn,ak),hv.pu 15,ha.u,zt,hw⟩
   ·rintro D U w hD af ad ⟨⟨av,aw,au,ak⟩,hv,ha,_,hw⟩
    obtain⟨O,rfl⟩:=(ac (hv.at 12 rfl (af.1 rfl)) (ac (hv.at 15 rfl (af.2.1 rfl)) az)).eO
    have hw:=(((((((hw.bN 2 hD).cC 2 (af.2.1 rfl)).bN 3 (nh ad hD 19)).bN 3 hD).bN 22 (nh ad hD 19)).bN 23 (nh ad hD 19)).bN 23 hD).wQ (j:=23) (jj:=ah) pf (default:bO) rfl cd
    have hw:=hw.freeze 3
    refine RL.app 0 3 hw FJ eu fun c3 w hw=>?_
    have hw:=((((hw.pl 25 [1,2,3,0,5,6,7,8,9,10,11,12,13,14,15,16,17,18,19,20,21,22,23,24]).cD 2 true (bif D 15 then (own 29 au ([b9]: (List eK))) else aT)).cD 3 true aT).eF 3 (D 19) (nh ad hD 19) aT).eF 22 (D 19) (nh ad hD 19) (own 105 aj (us829.set (Int.toNat ah) {(us829.getD (Int.toNat ah) (default:bO)) with gV:=rv c3}))
    have hw:=(hw.cD 23 true (gT bI us829 ai.1 none)).eF 23 (D 19) (nh ad hD 19) (gT bI (us829.set (Int.toNat ah) {(us829.getD (Int.toNat ah) (default:bO)) with gV:=rv c3}) (ai.1.set (Int.toNat ah) {b3 with gV:=br}) none)
    exact RL.nil ⟨rfl,(av,aw,au,c3),hv.pu 16,ha.u,zt,hw⟩
   ·rintro D U w hD af ad ⟨⟨av,aw,au,ak⟩,hv,ha,_,hw⟩
    obtain⟨O,rfl⟩:=(ac (hv.at 3 rfl (af.1 rfl)) (ac (hv.at 4 rfl (af.2.1 rfl)) az)).eO
    have hw:=hw.bN 22 (nf (fun h=>ft hD ((ad 18 _ rfl ((ad 19 _ rfl h).1 rfl)).1 rfl)))
    have hw:=hw.bN 23 (nf (fun h=>ft hD ((ad 18 _ rfl ((ad 19 _ rfl h).1 rfl)).1 rfl)))
    have hw:=hw.cC 23 (af.2.2.2.2.2.2.2.2.2.2.2.2.2.2.2.2.2.2.1 rfl)
    have hl910:=hw.fR 23 rfl
    have hr911:=iR (default:bO) hl910 cu
    refine RL.bK 22 hw zr zr Et hr911 ?_
    have hw:=hw.eF 22 (D 19) (nf (fun h=>ft hD ((ad 18 _ rfl ((ad 19 _ rfl h).1 rfl)).1 rfl))) (own 105 aj (us829.set (Int.toNat ah) {(us829.getD (Int.toNat ah) (default:bO)) with gV:=rv ak}))
    have hw:=(hw.cD (hb:=af.2.2.2.2.2.2.2.2.2.2.2.2.2.2.2.2.2.2.1 rfl) 23 (D 16) (gT bI us829 ai.1 none)).eF 23 (D 19) (nf (fun h=>ft hD ((ad 18 _ rfl ((ad 19 _ rfl h).1 rfl)).1 rfl))) (gT bI (us829.set (Int.toNat ah) {(us829.getD (Int.toNat ah) (default:bO)) with gV:=rv ak}) (ai.1.set (Int.toNat ah) {b3 with gV:=br}) none)
    exact RL.nil ⟨rfl,(av,aw,au,ak),hv.pu 17,ha.u,zt,hw⟩
   ·rintro D U w hD af ad ⟨⟨av,aw,au,ak⟩,hv,ha,_,hw⟩
    obtain⟨O,rfl⟩:=(ac (hv.at 17 rfl (af.1 rfl)) az).eO
    have hw:=((hw.bN 22 (nh ad hD 19)).bN 23 (nh ad hD 19)).cC 23 (af.2.2.2.2.2.2.2.2.2.2.2.2.2.2.2.2.2.1 rfl)
    have hl912:=hw.fR 23 rfl
    have hr913:=iR (default:bO) hl912 cu
    refine RL.lN (α:=bO) (jl 22 hw hr913 0) Ab ?_
    have hw:=(hw.eF 22 (D 19) (nh ad hD 19) (own 105 aj (us829.set (Int.toNat ah) {(us829.getD (Int.toNat ah) (default:bO)) with gV:=rv ak}))).cD (hb:=af.2.2.2.2.2.2.2.2.2.2.2.2.2.2.2.2.2.1 rfl) 23 (D 16) (gT bI us829 ai.1 none)
    have hw:=hw.eF 23 (D 19) (nh ad hD 19) (gT bI (us829.set (Int.toNat ah) {(us829.getD (Int.toNat ah) (default:bO)) with gV:=rv ak}) (ai.1.set (Int.toNat ah) {b3 with gV:=br}) none)
    exact RL.nil ⟨rfl,(av,aw,au,ak),hv.pu 18,ha.u,zt,hw⟩
   ·rintro D U w hD af ad ⟨⟨av,aw,au,ak⟩,hv,ha,_,hw⟩
    obtain⟨O,rfl⟩:=(ac (hv.at 16 rfl (af.2.1 rfl)) (ac (hv.at 18 rfl (af.1 rfl)) az)).eO
    have hw:=((((hw.bN 3 hD).cC 3 (af.2.1 rfl)).bN 22 hD).bN 23 hD).cC 23 (af.2.1 rfl)
    have hl914:=hw.fR 23 rfl
    have hr915:=iR (default:bO) hl914 cu
    refine RL.q7 22 23 3 ah pf (default:bO) hw zr zr (jl 22 hw hr915 2) zr zr zr cu DM fun w hw=>?_
    have hw:=((hw.cD 3 true (bif D 16 then (own 29 ak br) else aT)).cD 22 true (own 105 aj us829)).cD 23 true (bif D 16 then (gT bI us829 ai.1 (some (Int.toNat ah))) else (gT bI us829 ai.1 none))
    exact RL.nil ⟨rfl,(av,aw,au,ak),hv.n1,ha,zt,hw⟩
   rintro D U w a7 ⟨⟨av,aw,au,ak⟩,hv,ha,_,hw⟩
   have hw:=(((((hw.cC 0 (jO a7 13)).cC 1 (jO a7 14)).cC 2 (jO a7 16)).cC 3 (jO a7 19)).cC 22 (jO a7 19)).cC 23 (jO a7 19)
   obtain⟨O,rfl⟩:=(ac (ha.at 0 rfl) (ac (ha.at 1 rfl) (ac (ha.at 2 rfl) (ac (ha.at 3 rfl) (ac (ha.at 4 rfl) (ac (ha.at 5 rfl) (ac (ha.at 6 rfl) az))))))).eO
   obtain rfl:=oi hj
   exact⟨rfl,(us829.set (Int.toNat ah) {(us829.getD (Int.toNat ah) (default:bO)) with gV:=rv ak}),hw.sp 24 [4,18,19,20,21,22,23,14,15,16,17,6]⟩
  rintro _ w ⟨us877,O,rfl,hw⟩
  refine aG ?_
  obtain⟨ey,ez,hb⟩:=bd hb
  obtain⟨e3,e4,hb⟩:=bd hb
  refine RC.BO E V mixed [1,1,1,1,1,0,1,0,0,1,1,1,0,0,0,0,1,1,0,1,1,0] [7,8,13,14,15,18,21] (fun(x:Value×Value×Value×Value×Value)=>(fun ay a1 a0 aq ax=>[(0,205,(vp b0 0)),(1,206,(vp b0 0)),(2,207,(vp b0 0)),(3,208,(vp b0 0)),(4,209,(vp b0 10)),(5,210,bl),(6,211,(vi bh.2)),(7,212,ay),(8,213,aq),(9,214,(vp b0 0)),(10,215,(vp b0 0)),(11,216,(vp b0 11)),(12,217,a6),(13,218,a1),(14,219,a0),(15,220,ax),(16,221,(vp b0 0)),(17,222,(vp b0 10)),(19,223,(vp b0 0)),(20,224,(vp b0 11))]) x.1 x.2.1 x.2.2.1 x.2.2.2.1 x.2.2.2.2) [(0,vp b0 0),(15,vp b8 0),(17,vi bh.2),(170,v0_3),(171,vi p0_3.length),(172,vi b2)] [] (fun(D:Nat->Bool) (x:Value×Value×Value×Value×Value)=>(fun ay a1 a0 aq ax=>[bif D 1 then (rd ay ([bh.2]: (List Int))) else (bif D 0 then (own 3 ay ([bh.2]: (List Int))) else aT),bif D 2 then (rd a1 ba.1) else aT,bif D 4 then (rd a0 ([ba.1]: (List eZ))) else (bif D 3 then (own 67 a0 ([ba.1]: (List eZ))) else aT),bif D 6 then (bc 57 b0 [v0_0,v0_1,v0_2,v0_3,v0_4,v0_5,v0_6,aj,a3,a4,aq,ax]) else (bif D 5 then (bc 57 b0 [v0_0,v0_1,v0_2,v0_3,v0_4,v0_5,v0_6,aj,a3,a4,aq,a6]) else (bc 57 b0 [v0_0,v0_1,v0_2,v0_3,v0_4,v0_5,v0_6,aj,a3,a4,bl,a6])),rd v0_2 p0_2,rd v0_3 p0_3,rd v0_5 p0_5,rd v0_6 p0_6,own 105 aj us877,gT bI us877 bh.1 none,rd a3 ai.2.1,rd a4 ai.2.2.1,bif D 1 then (own 3 aq ey) else (own 3 bl ai.2.2.2.1),bif D 4 then (own 67 ax e3) else (own 67 a6 ai.2.2.2.2),bx 67 b8 ba.1]) x.1 x.2.1 x.2.2.1 x.2.2.2.1 x.2.2.2.2) (fun x=>by kernel_rfl) ?_ ⟨fun _=>i7 gn,fun _=>i7 gn,fun _=>i7 gn,fun _=>vG gn,fun _=>mq gn uO,?_,fun _=>i7 gn,?_,?_,fun _=>i7 gn,fun _=>vG gn,fun _=>mq gn zk,?_,?_,?_,?_,fun _=>vG gn,fun _=>mq gn uO,?_,fun _=>vG gn,fun _=>mq gn zk,?_,trivial⟩ ?_
  ·have hw:=(((hw.drew).aT).aT).aT
   exact⟨(undef,undef,undef,undef,undef),dU.none,(AF zr),zt,hw⟩
  ·rintro D U w hD af ad ⟨⟨ay,a1,a0,aq,ax⟩,hv,ha,_,hw⟩
   obtain⟨O,rfl⟩:=(ac (hv.at 4 rfl (af.1 rfl)) az).eO
   have hw:=(hw.bN 3 (nh ad hD 21)).bN 3 (nh ad hD 18)
   refine RL.aX 3 bl hw eJ ?_
   have hw:=(hw.eF 3 (D 18) (nh ad hD 18) (bc 57 b0 [v0_0,v0_1,v0_2,v0_3,v0_4,v0_5,v0_6,aj,a3,a4,aq,a6])).eF 3 (D 21) (nh ad hD 21) (bc 57 b0 [v0_0,v0_1,v0_2,v0_3,v0_4,v0_5,v0_6,aj,a3,a4,aq,ax])
   exact RL.nil ⟨rfl,(ay,a1,a0,aq,ax),hv.pu 5,ha.u,zt,hw⟩
  ·rintro D U w hD af ad ⟨⟨ay,a1,a0,aq,ax⟩,hv,ha,_,hw⟩
   obtain⟨O,rfl⟩:=(ac (hv.at 6 rfl (af.1 rfl)) az).eO
   have hw:=((hw.bN 0 (nh ad hD 8)).bN 0 hD).sc Int bh.2
   refine RL.fy ([bh.2]: (List Int)) hw [(vi bh.2)] eC BW (fun M hs g=>⟨(g.sat 0 _ zr).1,zt⟩) fun dp w hw=>?_
   have hw:=((hw.pl 17 [0,3,4,5,6,7,8,9,10,11,12,13,14,15,16]).cD 0 true aT).eF 0 (D 8) (nh ad hD 8) (rd dp ([bh.2]: (List Int)))
   exact RL.nil ⟨rfl,(dp,a1,a0,aq,ax),hv.pu 7,ha.u,zt,hw⟩
  ·rintro D U w hD af ad ⟨⟨ay,a1,a0,aq,ax⟩,hv,ha,_,hw⟩
   obtain⟨O,rfl⟩:=(ac (hv.at 5 rfl (af.1 rfl)) (ac (hv.at 7 rfl (af.2.1 rfl)) az)).eO
   have hw:=(((((hw.bN 0 hD).cC 0 (af.2.1 rfl)).bN 3 (nh ad hD 21)).bN 3 (nh ad hD 18)).bN 12 hD).freeze 0
   refine RL.app 12 0 hw r7 ez fun c4 w hw=>?_
   have hw:=((hw.cD 0 true (bif D 7 then (own 3 ay ([bh.2]: (List Int))) else aT)).eF 3 (D 18) (nh ad hD 18) (bc 57 b0 [v0_0,v0_1,v0_2,v0_3,v0_4,v0_5,v0_6,aj,a3,a4,c4,a6])).eF 3 (D 21) (nh ad hD 21) (bc 57 b0 [v0_0,v0_1,v0_2,v0_3,v0_4,v0_5,v0_6,aj,a3,a4,c4,ax])
   have hw:=hw.cD 12 true (own 3 bl ai.2.2.2.1)
   exact RL.nil ⟨rfl,(ay,a1,a0,c4,ax),hv.pu 8,ha.u,zt,hw⟩
  ·rintro D U w hD af ad ⟨⟨ay,a1,a0,aq,ax⟩,hv,ha,_,hw⟩
   obtain⟨O,rfl⟩:=(ac (hv.at 11 rfl (af.1 rfl)) az).eO
   have hw:=(hw.bN 3 (nh ad hD 21)).bN 3 (nh ad hD 18)
   refine RL.aX 3 a6 hw Eu ?_
   have hw:=(hw.eF 3 (D 18) (nh ad hD 18) (bc 57 b0 [v0_0,v0_1,v0_2,v0_3,v0_4,v0_5,v0_6,aj,a3,a4,aq,a6])).eF 3 (D 21) (nh ad hD 21) (bc 57 b0 [v0_0,v0_1,v0_2,v0_3,v0_4,v0_5,v0_6,aj,a3,a4,aq,ax])
   exact RL.nil ⟨rfl,(ay,a1,a0,aq,ax),hv.pu 12,ha.u,zt,hw⟩
  ·rintro D U w hD af ad ⟨⟨ay,a1,a0,aq,ax⟩,hv,ha,_,hw⟩
   obtain⟨O,rfl⟩:=(ac (ha.at 1 rfl) az).eO
   have hw:=hw.bN 1 hD
   refine RL.aZ (f:=(fun x=>x)) 14 hw zr Fd.self qB fun e5 hw=>?_
   have hw:=(hw.pl 16 [1,0,3,4,5,6,7,8,9,10,11,12,13,14,15]).cD 1 true aT
   exact RL.nil ⟨rfl,(ay,e5,a0,aq,ax),hv.pu 13,ha.u,zt,hw⟩
  ·rintro D U w hD af ad ⟨⟨ay,a1,a0,aq,ax⟩,hv,ha,_,hw⟩
   obtain⟨O,rfl⟩:=(ac (hv.at 13 rfl (af.1 rfl)) az).eO
   have hw:=((hw.cC 1 (af.1 rfl)).bN 2 (nh ad hD 15)).bN 2 hD
   refine RL.fy ([ba.1]: (List eZ)) hw [a1] FK Di (fun M hs g=>⟨(g.sat 1 _ zr).1,zt⟩) fun dq w hw=>?_
   have hw:=(((hw.pl 16 [1,2,0,4,5,6,7,8,9,10,11,12,13,14,15]).cD (hb:=af.1 rfl) 1 (D 13) aT).cD 2 true aT).eF 2 (D 15) (nh ad hD 15) (rd dq ([ba.1]: (List eZ)))
   exact RL.nil ⟨rfl,(ay,a1,dq,aq,ax),hv.pu 14,ha.u,zt,hw⟩
  ·rintro D U w hD af ad ⟨⟨ay,a1,a0,aq,ax⟩,hv,ha,_,hw⟩
   obtain⟨O,rfl⟩:=(ac (hv.at 12 rfl (af.1 rfl)) (ac (hv.at 14 rfl (af.2.1 rfl)) az)).eO
   have hw:=(((((hw.bN 2 hD).cC 2 (af.2.1 rfl)).bN 3 (nh ad hD 21)).bN 3 (nh ad hD 18)).bN 13 hD).freeze 2
   refine RL.app 13 2 hw Hk e4 fun dr w hw=>?_
   have hw:=((hw.cD 2 true (bif D 14 then (own 67 a0 ([ba.1]: (List eZ))) else aT)).eF 3 (D 18) (nh ad hD 18) (bc 57 b0 [v0_0,v0_1,v0_2,v0_3,v0_4,v0_5,v0_6,aj,a3,a4,aq,a6])).eF 3 (D 21) (nh ad hD 21) (bc 57 b0 [v0_0,v0_1,v0_2,v0_3,v0_4,v0_5,v0_6,aj,a3,a4,aq,dr])
   have hw:=hw.cD 13 true (own 67 a6 ai.2.2.2.2)
   exact RL.nil ⟨rfl,(ay,a1,a0,aq,dr),hv.pu 15,ha.u,zt,hw⟩
  ·rintro D U w hD af ad ⟨⟨ay,a1,a0,aq,ax⟩,hv,ha,_,hw⟩
   obtain⟨O,rfl⟩:=(ac (hv.at 8 rfl (af.2.1 rfl)) (ac (hv.at 17 rfl (af.1 rfl)) az)).eO
   have hw:=((hw.bN 3 (nh ad hD 21)).bN 3 hD).cC 12 (af.2.1 rfl)
   refine RL.gH 3 aq hw zr zr (hL 12 hw) eJ fun w hw=>?_
   have hw:=((hw.cD 3 true (bc 57 b0 [v0_0,v0_1,v0_2,v0_3,v0_4,v0_5,v0_6,aj,a3,a4,bl,a6])).eF 3 (D 21) (nh ad hD 21) (bc 57 b0 [v0_0,v0_1,v0_2,v0_3,v0_4,v0_5,v0_6,aj,a3,a4,aq,ax])).cD (hb:=af.2.1 rfl) 12 (D 8) (own 3 bl ai.2.2.2.1)
   exact RL.nil ⟨rfl,(ay,a1,a0,aq,ax),hv.n1,ha,zt,hw⟩
  ·rintro D U w hD af ad ⟨⟨ay,a1,a0,aq,ax⟩,hv,ha,_,hw⟩
   obtain⟨O,rfl⟩:=(ac (hv.at 15 rfl (af.2.1 rfl)) (ac (hv.at 19 rfl (af.1 rfl)) az)).eO
   have hw:=((hw.bN 3 hD).cC 3 (af.2.2.1 rfl)).cC 13 (af.2.1 rfl)
   refine RL.gH 3 ax hw zr zr (hL 13 hw) Eu fun w hw=>?_
   have hw:=(hw.cD 3 true (bif D 18 then (bc 57 b0 [v0_0,v0_1,v0_2,v0_3,v0_4,v0_5,v0_6,aj,a3,a4,aq,a6]) else (bc 57 b0 [v0_0,v0_1,v0_2,v0_3,v0_4,v0_5,v0_6,aj,a3,a4,bl,a6]))).cD (hb:=af.2.1 rfl) 13 (D 15) (own 67 a6 ai.2.2.2.2)
   exact RL.nil ⟨rfl,(ay,a1,a0,aq,ax),hv.n1,ha,zt,hw⟩
  rintro D U w a7 ⟨⟨ay,a1,a0,aq,ax⟩,hv,ha,_,hw⟩
  have hw:=(((((hw.cC 0 (jO a7 8)).cC 1 (jO a7 13)).cC 2 (jO a7 15)).cC 3 (jO a7 21)).cC 12 (jO a7 8)).cC 13 (jO a7 15)
  obtain⟨O,rfl⟩:=(ac (ha.at 0 rfl) (ac (ha.at 1 rfl) (ac (ha.at 2 rfl) (ac (ha.at 3 rfl) (ac (ha.at 4 rfl) (ac (ha.at 5 rfl) az)))))).eO
  refine bT (aG (RC.region (RL.inc hk hm (mv (vi ((b2+1:Nat):Int)) (RL.nil ?_)))))
  obtain rfl:=oi hb
  exact⟨rfl,a3,a4,aq,ax,us877,hw.sp 15 [3,10,11,12,13,4,5,6,7,8,9]⟩
 rintro _ w ⟨cp,cq,cr,ct,us824,O,rfl,hw⟩
 obtain rfl:=oi hb
 have hw:=hw.wR (X:=bI) (b:=10) (j:=9) rfl (fun M h u x cs=>wZ M h u x cs) rfl rfl (by decide)
 refine xF ?_
 exact CT zr ⟨aj,cp,cq,cr,ct,zr,hw.pk 11 [0,9,1,2,3,4]⟩
def qS (E:World) (V:List HP) (res:Option ((List (List aI))×(List aI)×(List bU)×(List cT)×(List (List aA))×(List aH)×(List (List Int))×(List cP)×(List Int)×(List Int)×(List Int)×(List eZ))×Int) (v:Value) (w:World):Prop:=BK res.1 (v = .tuple #[(.pointer none),(vi res.2)]/\Holds E w V) (fun y=>∃(ub0:Nat) (u0_0 u0_1:Value) (u0_2 u0_3:Value) (u0_4 u0_5:Value) (u0_6 u0_7:Value) (u0_8 u0_9:Value) (u0_10 u0_11:Value),v = .tuple #[vp ub0 0,(vi res.2)]/\Holds E w ([bc 57 ub0 [u0_0,u0_1,u0_2,u0_3,u0_4,u0_5,u0_6,u0_7,u0_8,u0_9,u0_10,u0_11],rd u0_0 y.1,rd u0_1 y.2.1,rd u0_2 y.2.2.1,rd u0_3 y.2.2.2.1,own 85 u0_4 y.2.2.2.2.1,rd u0_5 y.2.2.2.2.2.1,rd u0_6 y.2.2.2.2.2.2.1,own 105 u0_7 y.2.2.2.2.2.2.2.1,rd u0_8 y.2.2.2.2.2.2.2.2.1,rd u0_9 y.2.2.2.2.2.2.2.2.2.1,own 3 u0_10 y.2.2.2.2.2.2.2.2.2.2.1,own 67 u0_11 y.2.2.2.2.2.2.2.2.2.2.2]++V))
def nr (E:World) (V:List HP) (r:Option ((List (List aI))×(List aI)×(List bU)×(List cT)×(List (List aA))×(List aH)×(List (List Int))×(List cP)×(List Int)×(List Int)×(List Int)×(List eZ))×Int) (U:Nat->Value) (w:World):Prop:=lM bC 112 Tryz.f7 (qS E V r) .ret U w
theorem pG {p0:jS} {res:Option ((List (List aI))×(List aI)×(List bU)×(List cT)×(List (List aA))×(List aH)×(List (List Int))×(List cP)×(List Int)×(List Int)×(List Int)×(List eZ))×Int} (j:Holds E w V) (h0:V[i0]? =some (rd v0 p0)) (hb:fV N p0=some res):
    Calls bC 7 [v0].toArray w (gE (qS E V res)):=by
 unfold fV at hb
 refine enter Tryz.func7 zr zr ?_
 have j:=j.dup (i0+0) h0
 refine RC.sr (RL.dC 0 v0 j zr fun an w j=>?_)
 refine aP (.pointer none) (aP (vi 0) (RL.nq (RC.sr (RL.bA zr tm (RL.aZ 0 j zr nF AK fun c1 j=>(RL.bF 0 p0.aJ j yi (ic ((p0.aJ.length:Int)) 0 (RL.nt ?_))))))))
 refine fE hb (fun hc hb=>?_) fun hc hb=>?_
 ·refine RC.sr (aP (.pointer none) (aP (vi 9) (RL.nt (RC.rt ?_))))
  obtain rfl:=oi hb
  exact nZ ⟨rfl,j.drop 3⟩
 refine RC.ss (RC.sr (RL.bA zr tm (RL.aZ 1 j zr nF AK fun c2 j=>(RL.bF 0 p0.aJ j yi (ic ((p0.aJ.length:Int)) 16 (RL.nt (fE hb (fun hc hb=>?_) fun hc hb=>?_)))))))
 ·refine RC.sr (aP (.pointer none) (aP (vi 2) (RL.nt (RC.rt ?_))))
  obtain rfl:=oi hb
  exact nZ ⟨rfl,j.drop 4⟩
 refine RC.sx (RL.bA zr BV (RL.aZ 2 j zr uG w3 fun c3 j=>(RL.bF 0 p0.dJ j pg (aP (vi p0.dJ.length) (RL.nq (RC.sr (RL.bA zr tm (RL.aZ 3 j zr nF AK fun bo j=>?_))))))))
 refine RL.bF 0 p0.aJ j yi (mv (vi 0) (RL.nt ?_))
 obtain⟨c4,hN,hb⟩:=bd hb
 refine RC.range (fun(bj:Nat) (ax:Int)=>SH E V [(1,vp an 0),(4,vi ax),(28,bo),(29,vi p0.aJ.length),(30,vi bj)] [bx 27 an p0,rd bo p0.aJ]) (fun(ax:Int)=>SH E V [(1,vp an 0),(4,vi ax)] [bx 27 an p0,rd bo p0.aJ]) (nr E V) hN ?_ ?_ ?_ ?_ ?_
 ·exact j.sp 6 [4,0]
 ·rintro hm ax _ w ⟨O,rfl,j⟩
  refine RC.sr (ic ((p0.aJ.length:Int)) ((p0.aJ.length:Int)) (RL.nq (RC.cY nb (RC.ex ?_))))
  exact⟨rfl,j.sp 2 [0,1]⟩
 ·rintro hm bj ax fl _ w hk ⟨O,rfl,j⟩ hb
  refine RC.sr (ic ((bj:Int)) ((p0.aJ.length:Int)) (RL.nq (RC.cX (na hk) (RC.ss (RC.bs ?_)))))
  obtain⟨bk,bw,hb⟩:=bd hb
  refine RL.cF 1 j zd bw fun c5 j=>(RL.bY 0 bk j w3 fun bl j=>(aP bl (RL.nq (RC.sr (mv bl ?_)))))
  obtain⟨a7,bz,hb⟩:=bd hb
  refine RL.call zt zr E8 [bl] zr (aF (lG N (i0:=0) j zr bz) ?_)
  rintro _ w ⟨rfl,j⟩
  refine aP (vi a7) (RL.ns (mv (vi a7) (ic a7 0 (RL.nt (fE hb (fun hc hb=>?_) fun hc hb=>?_)))))
  ·refine RC.sr (mv (vi a7) (aP (.pointer none) (aP (vi a7) (RL.nt (RC.rt (lj (bZ ?_)))))))
   obtain rfl:=oi hb
   exact⟨rfl,nZ ⟨rfl,j.drop 4⟩⟩
  refine RC.sn (RC.region (mv (vi ax) (mv bl (RL.bF 0 bk j pg (RL.jq ax (bk.length:Int) (aP (vi (IntKind.wrap .i64 (ax+ (bk.length:Int)))) (RL.nil (bT ?_))))))))
  refine aG (RC.region (RL.inc hk hm (mv (vi ((bj+1:Nat):Int)) (RL.nil ?_))))
  obtain rfl:=oi hb
  exact⟨rfl,j.sp 4 [2,3]⟩
 ·intro r U w e hK
  subst e
  refine bZ ?_
  obtain rfl:=oi hb
  exact hK
 rintro ax _ w rfl ⟨O,rfl,j⟩
 rw [Fo.gm] at hb
 refine aG (RC.seq (RC.sr (RL.bA zr BV (RL.aZ 0 j zr uG w3 fun b0 j=>?_))))
 obtain⟨a9,b1,hb⟩:=bd hb
 refine RL.call zt zr E8 [b0] zr (aF (lG N (i0:=0) j zr b1) ?_)
 rintro _ w ⟨rfl,j⟩
 refine aP (vi a9) (RL.ns (mv (vi a9) (ic a9 0 (RL.nt (fE hb (fun hc hb=>?_) fun hc hb=>?_)))))
 ·refine RC.sr (mv (vi a9) (aP (.pointer none) (aP (vi a9) (RL.nt (RC.rt ?_)))))
  obtain rfl:=oi hb
  exact nZ ⟨rfl,j.drop 3⟩
 refine RC.ss (RC.sr (mv (vi ax) (ic ax 2000 (RL.nt (fE hb (fun hc hb=>?_) fun hc hb=>?_)))))
 ·refine RC.sr (aP (.pointer none) (aP (vi 2) (RL.nt (RC.rt ?_))))
  obtain rfl:=oi hb
  exact nZ ⟨rfl,j.drop 3⟩
 refine RC.ss (RC.sr (RL.aZ (f:=(fun x=>x)) 1 j zr Fd.self r5 fun b2 j=>?_))
 obtain⟨ba,b3,hb⟩:=bd hb
 refine RL.call zt zr GN [b2] zr (aF (pr N (i0:=0) j zr b3) ?_)
 rintro _ w ⟨rfl,j⟩
 refine aP (vi ba) (RL.ns (mv (vi ba) (ic ba 0 (RL.nt (fE hb (fun hc hb=>?_) fun hc hb=>?_)))))
 ·refine RC.sr (mv (vi ba) (aP (.pointer none) (aP (vi ba) (RL.nt (RC.rt ?_)))))
  obtain rfl:=oi hb
  exact nZ ⟨rfl,j.drop 4⟩
 refine RC.ss (RC.sr (RL.aZ (f:=(fun x=>x)) 2 j zr Fd.self r5 fun b4 j=>?_))
 obtain⟨bb,b5,hb⟩:=bd hb
 refine RL.call zt zr GZ [b4] zr (aF (pz N (i0:=0) j zr b5) ?_)
 rintro _ w ⟨rfl,j⟩
 refine aP (vi bb) (RL.ns (mv (vi bb) (ic bb 0 (RL.nt (fE hb (fun hc hb=>?_) fun hc hb=>?_)))))
 ·refine RC.sr (mv (vi bb) (aP (.pointer none) (aP (vi bb) (RL.nt (RC.rt ?_)))))
  obtain rfl:=oi hb
  exact nZ ⟨rfl,j.drop 5⟩
 refine RC.ss (RC.sr (RL.bA zr lq (RL.aZ 3 j zr o9 tn fun au j=>(RL.bF 0 p0.aS j uL (mv (vi 0) (RL.nt ?_))))))
 obtain⟨c6,hN,hb⟩:=bd hb
 refine RC.range (fun(aw:Nat) (bm:Unit)=>SH E V [(1,vp an 0),(63,au),(64,vi p0.aS.length),(65,vi aw)] [bx 27 an p0,rd au p0.aS]) (fun(bm:Unit)=>SH E V [(1,vp an 0)] [bx 27 an p0,rd au p0.aS]) (nr E V) hN ?_ ?_ ?_ ?_ ?_
 ·exact j.sp 6 [4,0]
 ·rintro hm bm _ w ⟨O,rfl,j⟩
  refine RC.sr (ic ((p0.aS.length:Int)) ((p0.aS.length:Int)) (RL.nq (RC.cY nb (RC.ex ?_))))
  exact⟨rfl,j.sp 2 [0,1]⟩
 ·rintro hm aw bm fl _ w hk ⟨O,rfl,j⟩ hb
  refine RC.sr (ic ((aw:Int)) ((p0.aS.length:Int)) (RL.nq (RC.cX (na hk) (RC.ss (RC.bs (mv (vi aw) ?_))))))
  obtain⟨ab,b6,hb⟩:=bd hb
  refine RL.cF 1 j w4 b6 fun c7 j=>(RL.bY 0 ab j mN fun c8 j=>(RL.alloc j AP.z fun al w j=>?_))
  refine aP (vi aw) (RL.bJ 0 j 1 zr mN fun w j=>?_)
  refine RL.ns (RL.bA zr lq (RL.aZ 3 j zr o9 tn fun c9 j=>(mv (vi aw) ?_)))
  obtain⟨av,b7,hb⟩:=bd hb
  refine RL.cut (hl:= .inr ⟨rfl,zr⟩) 0 j w4 (.inl zr) b7 fun a1 j=>(RL.bF 0 av j uL (mv (vi 0) (RL.nt ?_)))
  obtain⟨da,hN,hb⟩:=bd hb
  refine RC.range (fun(a4:Nat) (bn:Unit)=>SH E V [(1,vp an 0),(12,vp al 0),(63,au),(64,vi p0.aS.length),(65,vi aw),(73,a1),(74,vi av.length),(75,vi a4)] [bx 27 an p0,bx 61 al ab,rd au p0.aS,rd a1 av]) (fun(bn:Unit)=>SH E V [(1,vp an 0),(63,au),(64,vi p0.aS.length),(65,vi aw)] [bx 27 an p0,bx 61 al ab,rd au p0.aS,rd a1 av]) (nr E V) hN ?_ ?_ ?_ ?_ ?_
  ·exact j.sp 7 [5,2,6,0]
  ·rintro hm bn _ w ⟨O,rfl,j⟩
   refine RC.sr (ic ((av.length:Int)) ((av.length:Int)) (RL.nq (RC.cY nb (RC.ex ?_))))
   exact⟨rfl,j.sp 4 [0,1,2,3]⟩
  ·rintro hm a4 bn fl _ w hk ⟨O,rfl,j⟩ hb
   refine RC.sr (ic ((a4:Int)) ((av.length:Int)) (RL.nq (RC.cX (na hk) (RC.ss (RC.bs ?_)))))
   obtain⟨aa,b8,hb⟩:=bd hb
   refine RL.cF 3 j w4 b8 fun bt j=>(RL.bY 0 aa j mN fun bu j=>(RL.alloc j AP.z fun ar w j=>?_))
   refine RL.bJ 0 j 1 zr mN fun w j=>?_
   refine RL.nq ?_
   obtain⟨bp,hj,hb⟩:=bd hb
   refine RC.jn (fun(bp:Bool)=>SH E V [(1,vp an 0),(12,vp al 0),(63,au),(64,vi p0.aS.length),(65,vi aw),(73,a1),(74,vi av.length),(75,vi a4),(98,vb bp)] [bx 27 an p0,bx 61 al ab,rd au p0.aS,rd a1 av]) bp ?_ ?_
   ·refine gC hj (fun aq hj=>?_) fun aq hj=>?_
    rotate_left
    ·refine RC.BO E V mixed [1,0,1,0,1,1,0,0,0,0,0,0,1,1,1,1,1,1,1,1] [] (fun(x:Unit)=>[(0,79,(vp al 3)),(1,80,(vi ab.cK)),(2,81,(vp ar 4)),(3,82,(vi aa.To)),(4,83,(vb (decide (ab.cK<=aa.To)))),(5,84,(vb (decide (ab.cK<=aa.To)))),(6,85,(cv (true&&((decide (ab.cK<=aa.To))==true)) (vp ar 3))),(7,86,(cv (true&&((decide (ab.cK<=aa.To))==true)) (vi aa.cK))),(8,87,(cv (true&&((decide (ab.cK<=aa.To))==true)) (vp al 4))),(9,88,(cv (true&&((decide (ab.cK<=aa.To))==true)) (vi ab.To))),(10,89,(cv (true&&((decide (ab.cK<=aa.To))==true)) (vb (decide (aa.cK<=ab.To))))),(11,90,(vb ((decide (ab.cK<=aa.To))&&(decide (aa.cK<=ab.To))))),(12,91,(vb ((decide (ab.cK<=aa.To))&&(decide (aa.cK<=ab.To))))),(13,92,undef),(14,93,undef),(15,94,undef),(16,95,undef),(17,96,undef),(18,97,undef),(19,98,(vb false))]) [(1,vp an 0),(12,vp al 0),(14,vp ar 0),(63,au),(64,vi p0.aS.length),(65,vi aw),(73,a1),(74,vi av.length),(75,vi a4)] [] (fun(D:Nat->Bool) (x:Unit)=>[bx 61 ar aa,rd bu aa,pt bt aa,bx 27 an p0,bx 61 al ab,rd au p0.aS,rd a1 av]) (fun x=>by kernel_rfl) ?_ ⟨fun _=>mq gn ra,?_,fun _=>mq gn tp,?_,fun _=>Ee gn rfl,fun _=>i7 gn,?_,?_,?_,?_,?_,?_,fun _=>i7 gn,fun _=>AD aq,fun _=>AD aq,fun _=>AD aq,fun _=>AD aq,fun _=>AD aq,fun _=>AD aq,fun _=>Gs gn aq rfl,trivial⟩ ?_
     ·have j:=j.drew
      exact⟨(),dU.none,(AF zr),zt,j⟩
     ·rintro D U w hD ae ak ⟨_,o,ha,_,j⟩
      obtain⟨O,rfl⟩:=(ac (o.at 0 rfl (ae.1 rfl)) az).eO
      refine RL.aM 4 j zr lk cE ?_
      exact RL.nil ⟨rfl,(),o.pu 1,ha.u,zt,j⟩
     ·rintro D U w hD ae ak ⟨_,o,ha,_,j⟩
      obtain⟨O,rfl⟩:=(ac (o.at 2 rfl (ae.1 rfl)) az).eO
      refine RL.aM 0 j zr mg cE ?_
      exact RL.nil ⟨rfl,(),o.pu 3,ha.u,zt,j⟩
     ·rintro D U w hD ae ak ⟨_,o,ha,_,j⟩
      obtain⟨O,rfl⟩:=(ac (o.at 5 rfl (ae.1 rfl)) (ac (ha.at 2 rfl) az)).eO
      refine RL.gs true (decide (ab.cK<=aa.To)) (vp ar 3) zr zr zr (dI ra) ?_
      exact RL.nil ⟨rfl,(),o.pu 6,ha.u,zt,j⟩
     ·rintro D U w hD ae ak ⟨_,o,ha,_,j⟩
      obtain⟨O,rfl⟩:=(ac (o.at 5 rfl (ae.2.1 rfl)) (ac (o.at 6 rfl (ae.1 rfl)) az)).eO
      refine RL.gs true (decide (ab.cK<=aa.To)) (vi aa.cK) rfl rfl rfl (bQ 0 rfl j (fun h=>by exact(cI h:cv (true&&((decide (ab.cK<=aa.To))==true)) (vp ar 3)= (vp ar 3))) rfl lk cE) ?_
      exact RL.nil ⟨rfl,(),o.pu 7,ha.u,zt,j⟩
     ·rintro D U w hD ae ak ⟨_,o,ha,_,j⟩
      obtain⟨O,rfl⟩:=(ac (o.at 5 rfl (ae.1 rfl)) (ac (ha.at 1 rfl) az)).eO
      refine RL.gs true (decide (ab.cK<=aa.To)) (vp al 4) zr zr zr (dI tp) ?_
      exact RL.nil ⟨rfl,(),o.pu 8,ha.u,zt,j⟩
     ·rintro D U w hD ae ak ⟨_,o,ha,_,j⟩
      obtain⟨O,rfl⟩:=(ac (o.at 5 rfl (ae.2.1 rfl)) (ac (o.at 8 rfl (ae.1 rfl)) az)).eO
      refine RL.gs true (decide (ab.cK<=aa.To)) (vi ab.To) rfl rfl rfl (bQ 4 rfl j (fun h=>by exact(cI h:cv (true&&((decide (ab.cK<=aa.To))==true)) (vp al 4)= (vp al 4))) rfl mg cE) ?_
      exact RL.nil ⟨rfl,(),o.pu 9,ha.u,zt,j⟩
     ·rintro D U w hD ae ak ⟨_,o,ha,_,j⟩
      obtain⟨O,rfl⟩:=(ac (o.at 5 rfl (ae.2.2.1 rfl)) (ac (o.at 7 rfl (ae.1 rfl)) (ac (o.at 9 rfl (ae.2.1 rfl)) az))).eO
      refine RL.gs true (decide (ab.cK<=aa.To)) (vb (decide (aa.cK<=ab.To))) rfl rfl rfl (dT .leq .i64 aa.cK ab.To rfl (fun h=>by exact(cI h:cv (true&&((decide (ab.cK<=aa.To))==true)) (vi aa.cK)= (vi aa.cK))) (fun h=>by exact(cI h:cv (true&&((decide (ab.cK<=aa.To))==true)) (vi ab.To)= (vi ab.To))) rfl) ?_
      exact RL.nil ⟨rfl,(),o.pu 10,ha.u,zt,j⟩
     ·rintro D U w hD ae ak ⟨_,o,ha,_,j⟩
      obtain⟨O,rfl⟩:=(ac (o.at 5 rfl (ae.1 rfl)) (ac (o.at 10 rfl (ae.2.1 rfl)) az)).eO
      refine RL.pick (decide (ab.cK<=aa.To)) (vb ((decide (ab.cK<=aa.To))&&(decide (aa.cK<=ab.To)))) (gG true) ?_
      exact RL.nil ⟨rfl,(),o.pu 11,ha.u,zt,j⟩
     rintro D U w a5 ⟨_,o,ha,_,j⟩
     obtain⟨O,rfl⟩:=(ac (o.at 19 rfl (jO a5 19)) (ac (ha.at 0 rfl) (ac (ha.at 1 rfl) (ac (ha.at 2 rfl) (ac (ha.at 3 rfl) (ac (ha.at 4 rfl) (ac (ha.at 5 rfl) (ac (ha.at 6 rfl) (ac (ha.at 7 rfl) (ac (ha.at 8 rfl) az)))))))))).eO
     obtain rfl:=oi hj
     exact⟨rfl,j.sp 7 [3,4,5,6]⟩
    obtain⟨b9,ca,hj⟩:=bd hj
    obtain⟨cb,cc,hj⟩:=bd hj
    obtain⟨bq,cd,hj⟩:=bd hj
    refine RC.BO E V mixed [1,0,1,0,1,1,0,0,0,0,0,0,1,0,0,0,0,0,1,1] [13,14,15,16] (fun(x:Value×Value×Value×Value)=>(fun af ag ah ai=>[(0,79,(vp al 3)),(1,80,(vi ab.cK)),(2,81,(vp ar 4)),(3,82,(vi aa.To)),(4,83,(vb (decide (ab.cK<=aa.To)))),(5,84,(vb (decide (ab.cK<=aa.To)))),(6,85,(cv (true&&((decide (ab.cK<=aa.To))==true)) (vp ar 3))),(7,86,(cv (true&&((decide (ab.cK<=aa.To))==true)) (vi aa.cK))),(8,87,(cv (true&&((decide (ab.cK<=aa.To))==true)) (vp al 4))),(9,88,(cv (true&&((decide (ab.cK<=aa.To))==true)) (vi ab.To))),(10,89,(cv (true&&((decide (ab.cK<=aa.To))==true)) (vb (decide (aa.cK<=ab.To))))),(11,90,(vb ((decide (ab.cK<=aa.To))&&(decide (aa.cK<=ab.To))))),(12,91,(vb ((decide (ab.cK<=aa.To))&&(decide (aa.cK<=ab.To))))),(13,92,af),(14,93,ag),(15,94,ah),(16,95,ai),(17,96,(vi bq)),(18,97,(vb (bq==0))),(19,98,(vb (bq==0)))]) x.1 x.2.1 x.2.2.1 x.2.2.2) [(1,vp an 0),(12,vp al 0),(14,vp ar 0),(63,au),(64,vi p0.aS.length),(65,vi aw),(73,a1),(74,vi av.length),(75,vi a4)] [] (fun(D:Nat->Bool) (x:Value×Value×Value×Value)=>(fun af ag ah ai=>[bif D 0 then (rd af ab) else aT,bif D 1 then (rd ag b9) else aT,bif D 2 then (rd ah aa) else aT,bif D 3 then (rd ai cb) else aT,bx 61 ar aa,rd bu aa,pt bt aa,bx 27 an p0,bx 61 al ab,rd au p0.aS,rd a1 av]) x.1 x.2.1 x.2.2.1 x.2.2.2) (fun x=>by kernel_rfl) ?_ ⟨fun _=>mq gn ra,?_,fun _=>mq gn tp,?_,fun _=>Ee gn rfl,fun _=>i7 gn,?_,?_,?_,?_,?_,?_,fun _=>i7 gn,?_,?_,?_,?_,?_,fun _=>Ee (gy aq rfl) rfl,fun _=>Gr gn aq rfl,trivial⟩ ?_
    ·have j:=((((j.drew).aT).aT).aT).aT
     exact⟨(undef,undef,undef,undef),dU.none,(AF zr),zt,j⟩
    ·rintro D U w hD ae ak ⟨⟨af,ag,ah,ai⟩,o,ha,_,j⟩
     obtain⟨O,rfl⟩:=(ac (o.at 0 rfl (ae.1 rfl)) az).eO
     refine RL.aM 8 j zr lk cE ?_
     exact RL.nil ⟨rfl,(af,ag,ah,ai),o.pu 1,ha.u,zt,j⟩
    ·rintro D U w hD ae ak ⟨⟨af,ag,ah,ai⟩,o,ha,_,j⟩
     obtain⟨O,rfl⟩:=(ac (o.at 2 rfl (ae.1 rfl)) az).eO
     refine RL.aM 4 j zr mg cE ?_
     exact RL.nil ⟨rfl,(af,ag,ah,ai),o.pu 3,ha.u,zt,j⟩
    ·rintro D U w hD ae ak ⟨⟨af,ag,ah,ai⟩,o,ha,_,j⟩
     obtain⟨O,rfl⟩:=(ac (o.at 5 rfl (ae.1 rfl)) (ac (ha.at 2 rfl) az)).eO
     refine RL.gs true (decide (ab.cK<=aa.To)) (vp ar 3) zr zr zr (dI ra) ?_
     exact RL.nil ⟨rfl,(af,ag,ah,ai),o.pu 6,ha.u,zt,j⟩
    ·rintro D U w hD ae ak ⟨⟨af,ag,ah,ai⟩,o,ha,_,j⟩
     obtain⟨O,rfl⟩:=(ac (o.at 5 rfl (ae.2.1 rfl)) (ac (o.at 6 rfl (ae.1 rfl)) az)).eO
     refine RL.gs true (decide (ab.cK<=aa.To)) (vi aa.cK) rfl rfl rfl (bQ 4 rfl j (fun h=>by exact(cI h:cv (true&&((decide (ab.cK<=aa.To))==true)) (vp ar 3)= (vp ar 3))) rfl lk cE) ?_
     exact RL.nil ⟨rfl,(af,ag,ah,ai),o.pu 7,ha.u,zt,j⟩
    ·rintro D U w hD ae ak ⟨⟨af,ag,ah,ai⟩,o,ha,_,j⟩
     obtain⟨O,rfl⟩:=(ac (o.at 5 rfl (ae.1 rfl)) (ac (ha.at 1 rfl) az)).eO
     refine RL.gs true (decide (ab.cK<=aa.To)) (vp al 4) zr zr zr (dI tp) ?_
     exact RL.nil ⟨rfl,(af,ag,ah,ai),o.pu 8,ha.u,zt,j⟩
    ·rintro D U w hD ae ak ⟨⟨af,ag,ah,ai⟩,o,ha,_,j⟩
     obtain⟨O,rfl⟩:=(ac (o.at 5 rfl (ae.2.1 rfl)) (ac (o.at 8 rfl (ae.1 rfl)) az)).eO
     refine RL.gs true (decide (ab.cK<=aa.To)) (vi ab.To) rfl rfl rfl (bQ 8 rfl j (fun h=>by exact(cI h:cv (true&&((decide (ab.cK<=aa.To))==true)) (vp al 4)= (vp al 4))) rfl mg cE) ?_
     exact RL.nil ⟨rfl,(af,ag,ah,ai),o.pu 9,ha.u,zt,j⟩
    ·rintro D U w hD ae ak ⟨⟨af,ag,ah,ai⟩,o,ha,_,j⟩
     obtain⟨O,rfl⟩:=(ac (o.at 5 rfl (ae.2.2.1 rfl)) (ac (o.at 7 rfl (ae.1 rfl)) (ac (o.at 9 rfl (ae.2.1 rfl)) az))).eO
     refine RL.gs true (decide (ab.cK<=aa.To)) (vb (decide (aa.cK<=ab.To))) rfl rfl rfl (dT .leq .i64 aa.cK ab.To rfl (fun h=>by exact(cI h:cv (true&&((decide (ab.cK<=aa.To))==true)) (vi aa.cK)= (vi aa.cK))) (fun h=>by exact(cI h:cv (true&&((decide (ab.cK<=aa.To))==true)) (vi ab.To)= (vi ab.To))) rfl) ?_
     exact RL.nil ⟨rfl,(af,ag,ah,ai),o.pu 10,ha.u,zt,j⟩
    ·rintro D U w hD ae ak ⟨⟨af,ag,ah,ai⟩,o,ha,_,j⟩
     obtain⟨O,rfl⟩:=(ac (o.at 5 rfl (ae.1 rfl)) (ac (o.at 10 rfl (ae.2.1 rfl)) az)).eO
     refine RL.pick (decide (ab.cK<=aa.To)) (vb ((decide (ab.cK<=aa.To))&&(decide (aa.cK<=ab.To)))) (gG true) ?_
     exact RL.nil ⟨rfl,(af,ag,ah,ai),o.pu 11,ha.u,zt,j⟩
    ·rintro D U w hD ae ak ⟨⟨af,ag,ah,ai⟩,o,ha,_,j⟩
     obtain⟨O,rfl⟩:=(ac (o.at 12 rfl (ae.1 rfl)) (ac (ha.at 1 rfl) az)).eO
     have j:=j.bN 0 hD
     refine RL.aZ (hg:=(cg aq)) (f:=(fun x=>x)) 8 j zr Fd.self mN fun cf j=>?_
     have j:=(j.pl 12 [0,2,3,4,5,6,7,8,9,10,11]).cD 0 true aT
     exact RL.nil ⟨rfl,(cf,ag,ah,ai),o.pu 13,ha.u,zt,j⟩
    ·rintro D U w hD ae ak ⟨⟨af,ag,ah,ai⟩,o,ha,_,j⟩
     obtain⟨O,rfl⟩:=(ac (o.at 12 rfl (ae.2.1 rfl)) (ac (o.at 13 rfl (ae.1 rfl)) az)).eO
     have j:=(j.cC 0 (ae.1 rfl)).bN 1 hD
     refine RL.call (cg aq) zr AQ [af] zr (aF (fN N (i0:=0) j zr ca) ?_)
     rintro ch w j
     have j:=((j.pl 12 [1,0,3,4,5,6,7,8,9,10,11]).cD (hb:=ae.1 rfl) 0 (D 13) aT).cD 1 true aT
     exact RL.nil ⟨rfl,(af,ch,ah,ai),o.pu 14,ha.u,zt,j⟩
    ·rintro D U w hD ae ak ⟨⟨af,ag,ah,ai⟩,o,ha,_,j⟩
     obtain⟨O,rfl⟩:=(ac (o.at 12 rfl (ae.1 rfl)) (ac (ha.at 2 rfl) az)).eO
     have j:=j.bN 2 hD
     refine RL.aZ (hg:=(cg aq)) (f:=(fun x=>x)) 4 j zr Fd.self mN fun cj j=>?_
     have j:=(j.pl 12 [1,2,0,4,5,6,7,8,9,10,11]).cD 2 true aT
     exact RL.nil ⟨rfl,(af,ag,cj,ai),o.pu 15,ha.u,zt,j⟩
    ·rintro D U w hD ae ak ⟨⟨af,ag,ah,ai⟩,o,ha,_,j⟩
     obtain⟨O,rfl⟩:=(ac (o.at 12 rfl (ae.2.2.1 rfl)) (ac (o.at 15 rfl (ae.1 rfl)) az)).eO
     have j:=(j.cC 2 (ae.1 rfl)).bN 3 hD
     refine RL.call (cg aq) zr AQ [ah] zr (aF (fN N (i0:=2) j zr cc) ?_)
     rintro ck w j
     have j:=((j.pl 12 [1,2,3,0,5,6,7,8,9,10,11]).cD (hb:=ae.1 rfl) 2 (D 15) aT).cD 3 true aT
     exact RL.nil ⟨rfl,(af,ag,ah,ck),o.pu 16,ha.u,zt,j⟩
    ·rintro D U w hD ae ak ⟨⟨af,ag,ah,ai⟩,o,ha,_,j⟩
     obtain⟨O,rfl⟩:=(ac (o.at 12 rfl (ae.2.2.2.1 rfl)) (ac (o.at 14 rfl (ae.1 rfl)) (ac (o.at 16 rfl (ae.2.1 rfl)) az))).eO
     have j:=(j.cC 1 (ae.1 rfl)).cC 3 (ae.2.1 rfl)
     refine RL.call (cg aq) zr G0 [ag,ai] zr (aF (xk N (i0:=1) (i1:=3) j zr zr cd) ?_)
     rintro _ w ⟨rfl,j⟩
     have j:=(j.cD (hb:=ae.1 rfl) 1 (D 14) aT).cD (hb:=ae.2.1 rfl) 3 (D 16) aT
     exact RL.nil ⟨rfl,(af,ag,ah,ai),o.pu 17,ha.u,zt,j⟩
    rintro D U w a5 ⟨⟨af,ag,ah,ai⟩,o,ha,_,j⟩
    have j:=(((j.cC 0 (jO a5 13)).cC 1 (jO a5 14)).cC 2 (jO a5 15)).cC 3 (jO a5 16)
    obtain⟨O,rfl⟩:=(ac (o.at 19 rfl (jO a5 19)) (ac (ha.at 0 rfl) (ac (ha.at 1 rfl) (ac (ha.at 2 rfl) (ac (ha.at 3 rfl) (ac (ha.at 4 rfl) (ac (ha.at 5 rfl) (ac (ha.at 6 rfl) (ac (ha.at 7 rfl) (ac (ha.at 8 rfl) az)))))))))).eO
    obtain rfl:=oi hj
    exact⟨rfl,j.sp 11 [7,8,9,10]⟩
   rintro _ w ⟨O,rfl,j⟩
   refine aG (fE hb (fun hc hb=>?_) fun hc hb=>?_)
   rotate_left
   ·refine RC.skip (bT (aG (RC.region (RL.inc hk hm (mv (vi ((a4+1:Nat):Int)) (RL.nil ?_))))))
    obtain rfl:=oi hb
    exact⟨rfl,j.sp 4 [0,1,2,3]⟩
   refine RC.sr (aP (.pointer none) (aP (vi 12) (RL.nt (RC.rb (bZ ?_)))))
   obtain rfl:=oi hb
   exact⟨rfl,nZ ⟨rfl,j.drop 4⟩⟩
  ·intro r U w e hK
   subst e
   refine lj (bZ ?_)
   obtain rfl:=oi hb
   exact⟨rfl,hK⟩
  rintro bn _ w rfl ⟨O,rfl,j⟩
  rw [Fo.gm] at hb
  refine bT (aG (RC.region (RL.inc hk hm (mv (vi ((aw+1:Nat):Int)) (RL.nil ?_)))))
  obtain rfl:=oi hb
  exact⟨rfl,j.sp 4 [0,2]⟩
 ·intro r U w e hK
  subst e
  refine bZ ?_
  obtain rfl:=oi hb
  exact hK
 rintro bm _ w rfl ⟨O,rfl,j⟩
 rw [Fo.gm] at hb
 refine aG (RC.sr (RL.aZ (f:=(fun x=>x)) 0 j zr Fd.self r5 fun cl j=>?_))
 obtain⟨cs,hcs,hv224,j⟩:=j.C7 (i:=0) rfl rfl
 obtain⟨bc,bf,bg,bh,rfl⟩:=Gm hcs
 have j:=(((j.ko (i:=0) (k:=0) (f:=fun x=>x.aJ) rfl nF rfl rfl rfl).ko (i:=1) (k:=1) (f:=fun x=>x.dJ) rfl uG rfl rfl rfl).ko (i:=2) (k:=2) (f:=fun x=>x.aS) rfl o9 rfl rfl rfl).ko (i:=3) (k:=3) (f:=fun x=>x.bE) rfl pd rfl rfl rfl
 refine RL.Ec (zs:=[(.slice none 0 0),(.slice none 0 0),(.slice none 0 0),(.slice none 0 0),(.slice none 0 0),(.slice none 0 0),(.slice none 0 0),(.slice none 0 0),(.slice none 0 0),(.slice none 0 0),(.slice none 0 0),(.slice none 0 0)]) (cs:=[bc,bf,bg,bh,(.slice none 0 0),(.slice none 0 0),(.slice none 0 0),(.slice none 0 0),(.slice none 0 0),(.slice none 0 0),(.slice none 0 0),(.slice none 0 0)]) zt zr [(0,cl)] [(0,[bc,bf,bg,bh])] zr G1 ⟨rfl,(congrArg Value.cells hv224),zt⟩ zr (RL.zU (cs:=[bc,bf,bg,bh,(.slice none 0 0),(.slice none 0 0),(.slice none 0 0),(.slice none 0 0),(.slice none 0 0),(.slice none 0 0),(.slice none 0 0),(.slice none 0 0)]) zt zr j zr (xU.all (⟨(uh 3 j zr),(uh 2 j zr),(uh 1 j zr),(uh 0 j zr),zr,zr,zr,zr,zr,zr,zr,zr,zt⟩:xU [bc,bf,bg,bh,(.slice none 0 0),(.slice none 0 0),(.slice none 0 0),(.slice none 0 0),(.slice none 0 0),(.slice none 0 0),(.slice none 0 0),(.slice none 0 0)])) fun a0 w j=>?_)
 refine aP (vp a0 0) (RL.nq (RC.sr (mv (vp a0 0) ?_)))
 have j:=((((((j.dP (List aA) 85).dP aH 98).pull 0).pull 2).dup 6 rfl).dup 9 rfl).pull 6
 obtain⟨cm,cn,hb⟩:=bd hb
 refine RL.call zt zr Hb [(vp a0 0)] zr (aF (oS N j cn) ?_)
 rintro _ w ⟨cp,cq,rfl,j⟩
 refine RL.not cm.1 (RL.nt (fE hb (fun hc hb=>?_) fun hc hb=>?_))
 ·refine RC.sr (aP (.pointer none) (aP (vi 2) (RL.nt (RC.rt ?_))))
  obtain rfl:=oi hb
  exact nZ ⟨rfl,j.drop 14⟩
 refine RC.sx (mv (vp a0 0) ?_)
 have j:=(((((j.freeze 2).dP (List Int) 43).pull 0).dup 4 rfl).dup 10 rfl).pull 4
 obtain⟨db,cr,hb⟩:=bd hb
 refine RL.call zt zr He [(vp a0 0)] zr (aF (oT N j cr) ?_)
 rintro _ w ⟨ct,rfl,j⟩
 refine RL.ns (mv (vp a0 0) ?_)
 have j:=((((((((((((j.freeze 1).dP Int 3).dP Int 3).dP Int 3).dP eZ 67).pull 0).pull 2).pull 4).pull 6).dup 9 rfl).dup 14 rfl).dup 19 rfl).dup 21 rfl
 have j:=j.pull 12
 obtain⟨dc,cu,hb⟩:=bd hb
 refine RL.call zt zr Hl [(vp a0 0)] zr (aF (lK N j cu) ?_)
 rintro _ w ⟨cw,cx,cy,cz,c0,rfl,j⟩
 refine RL.ns (mv (vp a0 0) (aP (vp a0 0) (aP (vi 0) (RL.nt (RC.ret ?_)))))
 obtain rfl:=oi hb
 exact nZ ⟨a0,bc,bf,bg,bh,cp,cq,ct,cw,cx,cy,cz,c0,zr,j.pk 27 [0,22,21,20,19,14,15,11,1,2,3,4,5]⟩
theorem oL {res:Bool} (o:Holds E w V) (j:l6 N p0 p1 p2=some res):
    Calls bC 20 [(vi p0),(vi p1),(vi p2)].toArray w (gE (bB E V res)):=by
 unfold l6 at j
 refine enter Tryz.func20 zr zr (RC.sr (aP (vb false) (RL.ns (mv (vi p0) (mv (vi p1) (ic p0 p1 (mv (vb (decide (p0>=p1))) (RL.gs true (decide (p0>=p1)) (vi p0) zr zr zr dD ?_))))))))
 refine RL.gs true (decide (p0>=p1)) (vi p2) rfl rfl rfl dD (RL.gs true (decide (p0>=p1)) (vb (decide (p0<=p2))) rfl rfl rfl (dT .leq .i64 p0 p2 rfl (fun h=>by exact(cI h:cv (true&&((decide (p0>=p1))==true)) (vi p0)= (vi p0))) (fun h=>by exact(cI h:cv (true&&((decide (p0>=p1))==true)) (vi p2)= (vi p2))) rfl) (RL.pick (decide (p0>=p1)) (vb ((decide (p0>=p1))&&(decide (p0<=p2)))) (gG true) (aP (vb ((decide (p0>=p1))&&(decide (p0<=p2)))) (RL.nt (RC.ret ?_)))))
 obtain rfl:=oi j
 exact cB ⟨rfl,o.drop 0⟩
def oX (E:World) (V:List HP) (b1 b1h:Nat) (v1h_0 v1h_1:Value) (v1h_2 v1h_3:Value) (v1h_4 v1h_5:Value) (v1h_6 v1h_7:Value) (v1h_8 v1h_9:Value) (v1h_10 v1h_11:Value) (res:Bool) (v:Value) (w:World):Prop:=v= (vb res)/\Holds E w ([bc 38 b1 [(vp b1h 0)],bc 57 b1h [v1h_0,v1h_1,v1h_2,v1h_3,v1h_4,v1h_5,v1h_6,v1h_7,v1h_8,v1h_9,v1h_10,v1h_11]]++V)
theorem iX {p1h_5: (List aH)} {res:Bool} (j:Holds E w (bc 38 b1 [(vp b1h 0)]::bc 57 b1h [v1h_0,v1h_1,v1h_2,v1h_3,v1h_4,v1h_5,v1h_6,v1h_7,v1h_8,v1h_9,v1h_10,v1h_11]::rd v1h_5 p1h_5::V)) (o:gq N p0 p1h_5=some res):
    Calls bC 19 [(vi p0),(vp b1 0)].toArray w (gE (oX E V b1 b1h v1h_0 v1h_1 v1h_2 v1h_3 v1h_4 v1h_5 v1h_6 v1h_7 v1h_8 v1h_9 v1h_10 v1h_11 res)):=by
 unfold gq at o
 refine enter Tryz.func19 zr zr (RC.sr (aP (vb false) (RL.ns (mv (vi p0) (RL.aX 0 (vp b1h 0) j Ev (RL.nilCheck zr (RL.bA zr ph (RL.aX 1 v1h_5 j ym ?_))))))))
 refine RL.bF 2 p1h_5 j AV (RL.jq (p1h_5.length:Int) 1 ?_)
 obtain⟨aa,ab,o⟩:=bd o
 refine RL.call zt zr FL [(vi p0),(vi 0),(vi (IntKind.wrap .i64 ((p1h_5.length:Int) - 1)))] zr (aF (oL N (p0:=p0) (p1:=0) (p2:=(IntKind.wrap .i64 ((p1h_5.length:Int) - 1))) j ab) ?_)
 rintro _ w ⟨rfl,j⟩
 refine aP (vb aa) (RL.nt (RC.ret ?_))
 obtain rfl:=oi o
 exact cB ⟨rfl,j.pk 3 [0,1]⟩
def qL (E:World) (V:List HP) (r:Int) (U:Nat->Value) (w:World):Prop:=lM bC 19 Tryz.f51 (aO E V r) .ret U w
theorem pH {p0: (List kA)} {p1:kA} (o:Holds E w V) (h0:V[i0]? =some (rd v0 p0)) (h1:V[i1]? =some (rd v1 p1)) (hb:kU N p0 p1=some res):
    Calls bC 51 [v0,v1].toArray w (gE (aO E V res)):=by
 unfold kU at hb
 refine enter Tryz.func51 zr zr ?_
 have o:=(o.dup (i0+0) h0).dup (i1+1) h1
 refine RC.sr (RL.dC 0 v1 o zr fun ae w o=>?_)
 refine aP (vi 0) (RL.nq (RC.sr (mv v0 (RL.bF 2 p0 o B9 (mv (vi 0) (RL.nt ?_))))))
 obtain⟨an,hN,hb⟩:=bd hb
 refine RC.range (fun(ab:Nat) (ad:Unit)=>SH E V [(0,v0),(3,vp ae 0),(7,vi p0.length),(8,vi ab)] [rd v0 p0,bx 69 ae p1]) (fun(ad:Unit)=>SH E V [] [rd v0 p0,bx 69 ae p1]) (qL E V) hN ?_ ?_ ?_ ?_ ?_
 ·exact o.sp 3 [2,0]
 ·rintro hm ad _ w ⟨O,rfl,o⟩
  refine RC.sr (ic ((p0.length:Int)) ((p0.length:Int)) (RL.nq (RC.cY nb (RC.ex ?_))))
  exact⟨rfl,o.sp 2 [0,1]⟩
 ·rintro hm ab ad fl _ w hk ⟨O,rfl,o⟩ hb
  refine RC.sr (ic ((ab:Int)) ((p0.length:Int)) (RL.nq (RC.cX (na hk) (RC.ss (RC.bs (mv (vi ab) (aP (vi ab) (RL.nq ?_))))))))
  refine RC.wg mixed ?_
  have o:=o.drew
  refine RO.go (RL.aZ (f:=(fun x=>x)) 1 o zr Fd.self vL fun aq o=>(RO.nx (mv v0 (RO.nx (mv (vi ab) (RO.nx ?_))))))
  obtain⟨ah,aj,hb⟩:=bd hb
  refine RL.cF 1 o Ca aj fun ar o=>(RO.nx (RL.bY 0 ah o vL fun au o=>(RO.nx (RL.seq (i:=2) (j:=0) (a:=p1) (b:=ah) zt zr o zr zr zr zr FN zr (RO.last (aG (fE hb (fun hc hb=>?_) fun hc hb=>?_)))))))
  rotate_left
  ·refine RC.skip (bT (aG (RC.region (RL.inc hk hm (mv (vi ((ab+1:Nat):Int)) (RL.nil ?_))))))
   obtain rfl:=oi hb
   exact⟨rfl,o.sp 5 [3,4]⟩
  refine RC.sr (mv (vi ab) (aP (vi ab) (RL.nt (RC.rb (bZ ?_)))))
  obtain rfl:=oi hb
  exact⟨rfl,cB ⟨rfl,o.drop 5⟩⟩
 ·intro r U w e hK
  subst e
  refine bZ ?_
  obtain rfl:=oi hb
  exact hK
 rintro ad _ w rfl ⟨O,rfl,o⟩
 rw [Fo.gm] at hb
 refine aG (RC.sr (aP (vi (-1)) (RL.nt (RC.ret ?_))))
 obtain rfl:=oi hb
 exact cB ⟨rfl,o.drop 2⟩
theorem nN {p0: (List kA)} {p1:kA} {res:Bool} (j:Holds E w V) (h0:V[i0]? =some (rd v0 p0)) (h1:V[i1]? =some (rd v1 p1)) (o:jC N p0 p1=some res):
    Calls bC 21 [v0,v1].toArray w (gE (bB E V res)):=by
 unfold jC at o
 refine enter Tryz.func21 zr zr ?_
 have j:=(j.dup (i0+0) h0).dup (i1+1) h1
 refine RC.sr (RL.dC 0 v1 j zr fun ae w j=>?_)
 refine aP (vb false) (RL.ns (mv v0 (RL.aZ (f:=(fun x=>x)) 0 j zr Fd.self vL fun ab j=>?_)))
 obtain⟨aa,ad,o⟩:=bd o
 refine RL.call zt zr Hm [v0,ab] zr (aF (pH N (i0:=3) (i1:=0) j zr zr ad) ?_)
 rintro _ w ⟨rfl,j⟩
 refine ic aa 0 (aP (vb (decide (aa>=0))) (RL.nt (RC.ret ?_)))
 obtain rfl:=oi o
 exact cB ⟨rfl,j.drop 4⟩
end Go.Gk
