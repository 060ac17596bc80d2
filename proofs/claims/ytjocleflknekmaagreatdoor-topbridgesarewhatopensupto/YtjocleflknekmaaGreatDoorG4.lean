/-
  Printed texts: Go functions as plain functions, and that they are. No statement of the seed is proved here.
-/
import Derived.Test.YtjocleflknekmaaGreatDoorG1
import Derived.Test.YtjocleflknekmaaGreatDoorG2
import Derived.Test.YtjocleflknekmaaGreatDoorG3
import Derived.Test.YtjocleflknekmaaGreatDoorA2
set_option linter.unusedVariables false
set_option linter.unusedSimpArgs false
set_option linter.unusedSectionVars false
set_option maxRecDepth 100000
set_option maxHeartbeats 40000000
namespace Go.Gk
open Go Go.Proofs
variable (N:Nat) {E w:World} {b0 i0 i1:Nat} {res:Int} {v0 v0_0 v0_1 v0_10 v0_11 v0_2 v0_3 v0_4 v0_5 v0_6 v0_8 v0_9 v1 v2:Value} {V:List HP}
def m0 (E:World) (V:List HP) (b0:Nat) (v0_0 v0_1:Value) (v0_2 v0_3:Value) (v0_4 v0_5 v0_6:Value) (res: (List cU)×(List Int)×(List Int)×(List Int)×(List bE)) (v:Value) (w:World):Prop:=∃u0_7 u0_8 u0_9 u0_10 u0_11:Value,v = .tuple #[]/\Holds E w ([bc 79 b0 [v0_0,v0_1,v0_2,v0_3,v0_4,v0_5,v0_6,u0_7,u0_8,u0_9,u0_10,u0_11],own 120 u0_7 res.1,rd u0_8 res.2.1,rd u0_9 res.2.2.1,own 3 u0_10 res.2.2.2.1,own 38 u0_11 res.2.2.2.2]++V)
theorem mO {p0_2: (List bW)} {p0_3: (List dL)} {p0_5: (List aH)} {p0_6: (List (List Int))} {p0_8: (List Int)} {p0_9: (List Int)} {p0_10: (List Int)} {p0_11: (List bE)} {res: (List cU)×(List Int)×(List Int)×(List Int)×(List bE)} (hw:Holds E w (bc 79 b0 [v0_0,v0_1,v0_2,v0_3,v0_4,v0_5,v0_6,(.slice none 0 0),v0_8,v0_9,v0_10,v0_11]::rd v0_2 p0_2::rd v0_3 p0_3::rd v0_5 p0_5::rd v0_6 p0_6::own 3 v0_8 p0_8::own 3 v0_9 p0_9::own 3 v0_10 p0_10::own 38 v0_11 p0_11::V)) (hb:eT N p0_2 p0_3 p0_5 p0_6 p0_8 p0_9 p0_10 p0_11=some res):
    Calls bH 25 [(vp b0 0)].toArray w (gI (m0 E V b0 v0_0 v0_1 v0_2 v0_3 v0_4 v0_5 v0_6 res)):=by
 unfold eT at hb
 refine enter Tryz.func25 zr zr (RC.sr (mv (vp b0 0) (RL.nilCheck zr (RL.bF zr qG (RL.bA 0 v0_5 hw Ad (RL.bK 3 p0_5 hw C1 (aM (vi p0_5.length) (RL.ns ?_))))))))
 refine mv (vi p0_5.length) (mv (vp b0 0) (RL.nilCheck zr (RL.bF zr l3 (RL.bF zr mu (RL.bA 0 v0_2 hw uL (RL.bK 1 p0_2 hw wq (RL.jo (p0_5.length:Int) (p0_2.length:Int) ?_)))))))
 obtain⟨e7,dt,hb⟩:=bd hb
 refine RL.call zt zr H4 [(vi (IntKind.wrap .i64 ((p0_5.length:Int)+ (p0_2.length:Int))))] zr (aF (m8 N (p0:=(IntKind.wrap .i64 ((p0_5.length:Int)+ (p0_2.length:Int)))) hw dt) ?_)
 rintro _ w ⟨ba,du,rfl,hw⟩
 refine aM (vp ba 0) (RL.nq (RC.sr (mv (vp b0 0) (RL.nilCheck zr (RL.bF zr uO (RL.bA 2 v0_6 hw C2 (RL.bK 6 p0_6 hw Ee (mv (vi 0) ?_))))))))
 refine RL.nt ?_
 obtain⟨b1,hN,hb⟩:=bd hb
 refine RC.fold (fun(bk:Nat) (b1: (List Int)) U w=>∃c6:Value,SH E V [(0,vp b0 0),(2,vi p0_5.length),(3,vp ba 0),(35,v0_6),(36,vi p0_6.length),(37,vi bk)] [bc 79 b0 [v0_0,v0_1,v0_2,v0_3,v0_4,v0_5,v0_6,(.slice none 0 0),v0_8,v0_9,v0_10,v0_11],rd v0_2 p0_2,rd v0_3 p0_3,rd v0_5 p0_5,rd v0_6 p0_6,own 3 v0_8 p0_8,own 3 v0_9 p0_9,own 3 v0_10 p0_10,own 38 v0_11 p0_11,bc 128 ba [c6],own 3 c6 b1] U w) (fun(b1: (List Int)) U w=>∃cb:Value,SH E V [(0,vp b0 0),(2,vi p0_5.length),(3,vp ba 0)] [bc 79 b0 [v0_0,v0_1,v0_2,v0_3,v0_4,v0_5,v0_6,(.slice none 0 0),v0_8,v0_9,v0_10,v0_11],rd v0_2 p0_2,rd v0_3 p0_3,rd v0_5 p0_5,rd v0_6 p0_6,own 3 v0_8 p0_8,own 3 v0_9 p0_9,own 3 v0_10 p0_10,own 38 v0_11 p0_11,bc 128 ba [cb],own 3 cb b1] U w) hN ?_ ?_ ?_ ?_
 ·exact⟨du,hw.sp 11 [2,3,4,5,6,7,8,9,10,0,1]⟩
 ·rintro hm b1 _ w ⟨dv,O,rfl,hw⟩
  refine RC.sr (ic ((p0_6.length:Int)) ((p0_6.length:Int)) (RL.nq (RC.cX mT (RC.ex ?_))))
  exact⟨rfl,dv,hw.sp 11 [0,1,2,3,4,5,6,7,8,9,10]⟩
 ·rintro hm bk b1 s' _ w hk ⟨dw,O,rfl,hw⟩ hb
  refine RC.sr (ic ((bk:Int)) ((p0_6.length:Int)) (RL.nq (RC.cW (mS hk) (RC.ss (RC.bs (mv (vi bk) ?_))))))
  obtain⟨bu,dx,hb⟩:=bd hb
  refine RL.cG 4 hw yM dx fun e8 hw=>(RL.bU 0 bu hw fx fun cc hw=>(aM (vi bk) (aM cc (RL.ns (mv cc (RL.bK 0 bu hw lZ (mv (vi 0) (RL.nt ?_))))))))
  obtain⟨b5,hN,hb⟩:=bd hb
  refine RC.fold (fun(cg:Nat) (b5: (List Int)) U w=>∃c7:Value,SH E V [(0,vp b0 0),(2,vi p0_5.length),(3,vp ba 0),(4,vi bk),(35,v0_6),(36,vi p0_6.length),(37,vi bk),(42,cc),(43,vi bu.length),(44,vi cg)] [bc 79 b0 [v0_0,v0_1,v0_2,v0_3,v0_4,v0_5,v0_6,(.slice none 0 0),v0_8,v0_9,v0_10,v0_11],rd v0_2 p0_2,rd v0_3 p0_3,rd v0_5 p0_5,rd v0_6 p0_6,own 3 v0_8 p0_8,own 3 v0_9 p0_9,own 3 v0_10 p0_10,own 38 v0_11 p0_11,bc 128 ba [c7],own 3 c7 b5,rd cc bu] U w) (fun(b5: (List Int)) U w=>∃ch:Value,SH E V [(0,vp b0 0),(2,vi p0_5.length),(3,vp ba 0),(35,v0_6),(36,vi p0_6.length),(37,vi bk)] [bc 79 b0 [v0_0,v0_1,v0_2,v0_3,v0_4,v0_5,v0_6,(.slice none 0 0),v0_8,v0_9,v0_10,v0_11],rd v0_2 p0_2,rd v0_3 p0_3,rd v0_5 p0_5,rd v0_6 p0_6,own 3 v0_8 p0_8,own 3 v0_9 p0_9,own 3 v0_10 p0_10,own 38 v0_11 p0_11,bc 128 ba [ch],own 3 ch b5,rd cc bu] U w) hN ?_ ?_ ?_ ?_
  ·exact⟨dw,hw.sp 13 [2,3,4,5,6,7,8,9,10,11,12,0]⟩
  ·rintro hm b5 _ w ⟨dy,O,rfl,hw⟩
   refine RC.sr (ic ((bu.length:Int)) ((bu.length:Int)) (RL.nq (RC.cX mT (RC.ex ?_))))
   exact⟨rfl,dy,hw.sp 12 [0,1,2,3,4,5,6,7,8,9,10,11]⟩
  ·rintro hm cg b5 s' _ w hk ⟨e9,O,rfl,hw⟩ hb
   refine RC.sr (ic ((cg:Int)) ((bu.length:Int)) (RL.nq (RC.cW (mS hk) (RC.ss (RC.bs ?_)))))
   obtain⟨cd,dz,hb⟩:=bd hb
   refine RL.cG 11 hw eI dz fun fa hw=>(RL.bJ cd 0 hw cP (aM (vi cd) (RL.nt (RC.region (mv (vp ba 0) (mv (vi cd) (mv (vi p0_5.length) (mv (vi bk) ?_))))))))
   refine RL.jo (p0_5.length:Int) (bk:Int) ?_
   have hw:=(hw.pull 11).pull 11
   obtain⟨fb,d3,hb⟩:=bd hb
   refine RL.call zt zr H5 [(vp ba 0),(vi cd),(vi (IntKind.wrap .i64 ((p0_5.length:Int)+ (bk:Int))))] zr (aF (mh N (p1:=cd) (p2:=(IntKind.wrap .i64 ((p0_5.length:Int)+ (bk:Int)))) hw d3) ?_)
   rintro _ w ⟨d4,rfl,hw⟩
   refine RL.nil (bQ (aG (RC.region (RL.inc hk hm (mv (vi ((cg+1:Nat):Int)) (RL.nil ?_))))))
   obtain rfl:=oi hb
   exact⟨rfl,d4,hw.sp 15 [3,4,5,6,7,8,9,10,11,0,1,14]⟩
  rintro _ w ⟨ch,O,rfl,hw⟩
  refine bQ (aG (RC.region (RL.inc hk hm (mv (vi ((bk+1:Nat):Int)) (RL.nil ?_)))))
  obtain rfl:=oi hb
  exact⟨rfl,ch,hw.sp 12 [0,1,2,3,4,5,6,7,8,9,10]⟩
 rintro _ w ⟨cb,O,rfl,hw⟩
 refine aG (RC.seq ?_)
 obtain⟨d5,d6,hb⟩:=bd hb
 obtain⟨d7,d8,hb⟩:=bd hb
 refine RC.Ba E V mixed [1,1,1,0,1,1,1,1,0,0,0,1,1,0,1,1,0] [3,10,13,16] (fun(x:Value×Value)=>(fun an ao=>[(0,56,(vp b0 0)),(1,57,(vp b0 0)),(2,58,(vi p0_5.length)),(3,59,an),(4,60,(vp b0 0)),(5,61,(vp b0 0)),(6,62,(vp b0 0)),(7,63,(vp b0 2)),(8,64,v0_2),(9,65,(vi p0_2.length)),(10,66,ao),(11,67,(vp b0 0)),(12,68,(vp b0 8)),(14,69,(vp b0 0)),(15,70,(vp b0 9))]) x.1 x.2) [(0,vp b0 0),(2,vi p0_5.length),(3,vp ba 0)] [] (fun(D:Nat->Bool) (x:Value×Value)=>(fun an ao=>[bif D 0 then (own 3 an d5) else aU,bif D 1 then (own 3 ao d7) else aU,bif D 3 then (bc 79 b0 [v0_0,v0_1,v0_2,v0_3,v0_4,v0_5,v0_6,(.slice none 0 0),an,ao,v0_10,v0_11]) else (bif D 2 then (bc 79 b0 [v0_0,v0_1,v0_2,v0_3,v0_4,v0_5,v0_6,(.slice none 0 0),an,v0_9,v0_10,v0_11]) else (bc 79 b0 [v0_0,v0_1,v0_2,v0_3,v0_4,v0_5,v0_6,(.slice none 0 0),v0_8,v0_9,v0_10,v0_11])),rd v0_2 p0_2,rd v0_3 p0_3,rd v0_5 p0_5,rd v0_6 p0_6,own 3 v0_8 p0_8,own 3 v0_9 p0_9,own 3 v0_10 p0_10,own 38 v0_11 p0_11,bc 128 ba [cb],own 3 cb b1]) x.1 x.2) (fun x=>by kernel_rfl) ?_ ⟨fun _=>gA gn,fun _=>gA gn,fun _=>gA gn,?_,fun _=>gA gn,fun _=>qB gn,fun _=>lH gn l3,fun _=>lH gn mu,?_,?_,?_,fun _=>qB gn,fun _=>lH gn Bi,?_,fun _=>qB gn,fun _=>lH gn yN,?_,trivial⟩ ?_
 ·have hw:=((hw.drew).aU).aU
  exact⟨(undef,undef),dX.none,(zZ zr),zt,hw⟩
 ·rintro D U w hD af ad ⟨⟨an,ao⟩,hv,ha,_,hw⟩
  obtain⟨O,rfl⟩:=(ac (hv.at 2 rfl (af.1 rfl)) az).dT
  have hw:=((hw.bM 0 hD).bM 2 (nh ad hD 16)).bM 2 (nh ad hD 13)
  refine RL.mk (p0_5.length:Int) hw tE Hg d6 fun cw w hw=>?_
  have hw:=(((hw.pl 14 [0,2,3,4,5,6,7,8,9,10,11,12,13]).bS 0 true rfl aU).fw 2 (D 13) (nh ad hD 13) (bc 79 b0 [v0_0,v0_1,v0_2,v0_3,v0_4,v0_5,v0_6,(.slice none 0 0),cw,v0_9,v0_10,v0_11])).fw 2 (D 16) (nh ad hD 16) (bc 79 b0 [v0_0,v0_1,v0_2,v0_3,v0_4,v0_5,v0_6,(.slice none 0 0),cw,ao,v0_10,v0_11])
  exact RL.nil ⟨rfl,(cw,ao),hv.pu 3,ha.u,zt,hw⟩
 ·rintro D U w hD af ad ⟨⟨an,ao⟩,hv,ha,_,hw⟩
  obtain⟨O,rfl⟩:=(ac (hv.at 7 rfl (af.1 rfl)) az).dT
  have hw:=(hw.bM 2 (nh ad hD 16)).bM 2 (nh ad hD 13)
  refine RL.bA 2 v0_2 hw uL ?_
  have hw:=(hw.fw 2 (D 13) (nh ad hD 13) (bc 79 b0 [v0_0,v0_1,v0_2,v0_3,v0_4,v0_5,v0_6,(.slice none 0 0),an,v0_9,v0_10,v0_11])).fw 2 (D 16) (nh ad hD 16) (bc 79 b0 [v0_0,v0_1,v0_2,v0_3,v0_4,v0_5,v0_6,(.slice none 0 0),an,ao,v0_10,v0_11])
  exact RL.nil ⟨rfl,(an,ao),hv.pu 8,ha.u,zt,hw⟩
 ·rintro D U w hD af ad ⟨⟨an,ao⟩,hv,ha,_,hw⟩
  obtain⟨O,rfl⟩:=(ac (hv.at 8 rfl (af.1 rfl)) az).dT
  refine RL.bK 3 p0_2 hw wq ?_
  exact RL.nil ⟨rfl,(an,ao),hv.pu 9,ha.u,zt,hw⟩
 ·rintro D U w hD af ad ⟨⟨an,ao⟩,hv,ha,_,hw⟩
  obtain⟨O,rfl⟩:=(ac (hv.at 9 rfl (af.1 rfl)) az).dT
  have hw:=(hw.bM 1 hD).bM 2 (nh ad hD 16)
  refine RL.mk (p0_2.length:Int) hw tE Hg d8 fun c8 w hw=>?_
  have hw:=((hw.pl 14 [1,0,3,4,5,6,7,8,9,10,11,12,13]).bS 1 true rfl aU).fw 2 (D 16) (nh ad hD 16) (bc 79 b0 [v0_0,v0_1,v0_2,v0_3,v0_4,v0_5,v0_6,(.slice none 0 0),an,c8,v0_10,v0_11])
  exact RL.nil ⟨rfl,(an,c8),hv.pu 10,ha.u,zt,hw⟩
 ·rintro D U w hD af ad ⟨⟨an,ao⟩,hv,ha,_,hw⟩
  obtain⟨O,rfl⟩:=(ac (hv.at 3 rfl (af.2.1 rfl)) (ac (hv.at 12 rfl (af.1 rfl)) az)).dT
  have hw:=((hw.bR 0 (af.2.1 rfl)).bM 2 (nh ad hD 16)).bM 2 hD
  refine RL.ir 2 an hw zr zr (jw 0 hw) fx fun w hw=>?_
  have hw:=((hw.bS 0 (D 3) (af.2.1 rfl) aU).bS 2 true rfl (bc 79 b0 [v0_0,v0_1,v0_2,v0_3,v0_4,v0_5,v0_6,(.slice none 0 0),v0_8,v0_9,v0_10,v0_11])).fw 2 (D 16) (nh ad hD 16) (bc 79 b0 [v0_0,v0_1,v0_2,v0_3,v0_4,v0_5,v0_6,(.slice none 0 0),an,ao,v0_10,v0_11])
  exact RL.nil ⟨rfl,(an,ao),hv.n1,ha,zt,hw⟩
 ·rintro D U w hD af ad ⟨⟨an,ao⟩,hv,ha,_,hw⟩
  obtain⟨O,rfl⟩:=(ac (hv.at 10 rfl (af.2.1 rfl)) (ac (hv.at 14 rfl (af.1 rfl)) az)).dT
  have hw:=((hw.bR 1 (af.2.1 rfl)).bM 2 hD).bR 2 (af.2.2.1 rfl)
  refine RL.ir 2 ao hw zr zr (jw 1 hw) fx fun w hw=>?_
  have hw:=(hw.bS 1 (D 10) (af.2.1 rfl) aU).bS 2 true rfl (bif D 13 then (bc 79 b0 [v0_0,v0_1,v0_2,v0_3,v0_4,v0_5,v0_6,(.slice none 0 0),an,v0_9,v0_10,v0_11]) else (bc 79 b0 [v0_0,v0_1,v0_2,v0_3,v0_4,v0_5,v0_6,(.slice none 0 0),v0_8,v0_9,v0_10,v0_11]))
  exact RL.nil ⟨rfl,(an,ao),hv.n1,ha,zt,hw⟩
 rintro D U w a8 ⟨⟨an,ao⟩,hv,ha,_,hw⟩
 have hw:=((hw.bR 0 (gR a8 3)).bR 1 (gR a8 10)).bR 2 (gR a8 16)
 obtain⟨O,rfl⟩:=(ac (ha.at 0 rfl) (ac (ha.at 1 rfl) (ac (ha.at 2 rfl) az))).dT
 refine aG (RC.seq (RC.sr (mv (vp ba 0) ?_)))
 have hw:=(hw.pull 12).pull 12
 obtain⟨a9,d9,hb⟩:=bd hb
 refine RL.call zt zr JO [(vp ba 0)] zr (aF (qo N hw d9) ?_)
 rintro bl w ⟨_,fc,rfl,hw⟩
 refine RL.eK 0 a9.1 hw Ee (mv (vi 0) (RL.nt ?_))
 obtain⟨a6,hN,hb⟩:=bd hb
 refine RC.fold (fun(bp:Nat) (a6: (List cU)×(List Int)×(List Int)) U w=>∃(c9:Value) (us442:List cB),SH E V [(0,vp b0 0),(2,vi p0_5.length),(72,bl),(73,vi a9.1.length),(74,vi bp)] [bc 79 b0 [v0_0,v0_1,v0_2,v0_3,v0_4,v0_5,v0_6,c9,an,ao,v0_10,v0_11],own 120 c9 us442,iH bX us442 a6.1 none,rd v0_2 p0_2,rd v0_3 p0_3,rd v0_5 p0_5,rd v0_6 p0_6,own 3 an a6.2.1,own 3 ao a6.2.2,own 3 v0_10 p0_10,own 38 v0_11 p0_11,own 63 bl a9.1] U w) (fun(a6: (List cU)×(List Int)×(List Int)) U w=>∃(ak:Value) (us444:List cB),SH E V [(0,vp b0 0)] [bc 79 b0 [v0_0,v0_1,v0_2,v0_3,v0_4,v0_5,v0_6,ak,an,ao,v0_10,v0_11],own 120 ak us444,iH bX us444 a6.1 none,rd v0_2 p0_2,rd v0_3 p0_3,rd v0_5 p0_5,rd v0_6 p0_6,own 3 an a6.2.1,own 3 ao a6.2.2,own 3 v0_10 p0_10,own 38 v0_11 p0_11,own 63 bl a9.1] U w) hN ?_ ?_ ?_ ?_
 ·have hw:=(hw.yu bX).cV cB 120
  exact⟨(.slice none 0 0),([]:List cB),hw.sp 18 [7,0,1,8,9,10,11,5,6,14,15,2]⟩
 ·rintro hm a6 _ w ⟨ea,us604,O,rfl,hw⟩
  refine RC.sr (ic ((a9.1.length:Int)) ((a9.1.length:Int)) (RL.nq (RC.cX mT (RC.ex ?_))))
  exact⟨rfl,ea,us604,hw.sp 12 [0,1,2,3,4,5,6,7,8,9,10,11]⟩
 ·rintro hm bp a6 s' _ w hk ⟨bh,us446,O,rfl,hw⟩ hb
  refine RC.sr (ic ((bp:Int)) ((a9.1.length:Int)) (RL.nq (RC.cW (mS hk) (RC.ss (RC.bs ?_)))))
  obtain⟨bn,cx,hb⟩:=bd hb
  refine RL.bL 11 hw zr zr yM cx (RL.gJ (f:=(fun x=>x)) 11 hw (jr 11 hw cx 0) (aZ cx).2.1 Fd.self fx fun bq hw=>?_)
  refine aM bq (RL.ns (RL.nM hw H6 fun bw w hw=>?_))
  refine RL.nq (RC.sr (mv bq (RL.bK 1 bn hw lZ (mv (vi 0) (RL.nt ?_)))))
  obtain⟨au,hN,hb⟩:=bd hb
  refine RC.fold (fun(b6:Nat) (au: (List Int)×(List Int)×(List Int)×(List Int)) U w=>∃da db:Value,SH E V [(0,vp b0 0),(2,vi p0_5.length),(10,vp bw 0),(72,bl),(73,vi a9.1.length),(74,vi bp),(78,bq),(79,vi bn.length),(80,vi b6)] [bc 79 b0 [v0_0,v0_1,v0_2,v0_3,v0_4,v0_5,v0_6,bh,an,ao,v0_10,v0_11],rd v0_2 p0_2,rd v0_3 p0_3,rd v0_5 p0_5,rd v0_6 p0_6,own 120 bh us446,iH bX us446 a6.1 none,own 3 an au.1,own 3 ao au.2.1,own 3 v0_10 p0_10,own 38 v0_11 p0_11,bc 120 bw [da,db,(.slice none 0 0)],own 3 da au.2.2.1,own 3 db au.2.2.2,own 63 bl a9.1,rd bq bn] U w) (fun(au: (List Int)×(List Int)×(List Int)×(List Int)) U w=>∃bz br:Value,SH E V [(0,vp b0 0),(2,vi p0_5.length),(10,vp bw 0),(72,bl),(73,vi a9.1.length),(74,vi bp)] [bc 79 b0 [v0_0,v0_1,v0_2,v0_3,v0_4,v0_5,v0_6,bh,an,ao,v0_10,v0_11],rd v0_2 p0_2,rd v0_3 p0_3,rd v0_5 p0_5,rd v0_6 p0_6,own 120 bh us446,iH bX us446 a6.1 none,own 3 an au.1,own 3 ao au.2.1,own 3 v0_10 p0_10,own 38 v0_11 p0_11,bc 120 bw [bz,br,(.slice none 0 0)],own 3 bz au.2.2.1,own 3 br au.2.2.2,own 63 bl a9.1,rd bq bn] U w) hN ?_ ?_ ?_ ?_
  ·have hw:=(hw.cV Int 3).cV Int 3
   exact⟨(.slice none 0 0),(.slice none 0 0),hw.sp 16 [4,7,8,9,10,5,6,11,12,13,14,2,1,0,15,3]⟩
  ·rintro hm au _ w ⟨eb,ec,O,rfl,hw⟩
   refine RC.sr (ic ((bn.length:Int)) ((bn.length:Int)) (RL.nq (RC.cX mT (RC.ex ?_))))
   exact⟨rfl,eb,ec,hw.sp 16 [0,1,2,3,4,5,6,7,8,9,10,11,12,13,14,15]⟩
  ·rintro hm b6 au s' _ w hk ⟨cj,cy,O,rfl,hw⟩ hb
   refine RC.sr (ic ((b6:Int)) ((bn.length:Int)) (RL.nq (RC.cW (mS hk) (RC.ss (RC.bs ?_)))))
   obtain⟨a3,ed,hb⟩:=bd hb
   refine RL.cG 15 hw eI ed fun fe hw=>(RL.bJ a3 0 hw cP (aM (vi a3) (RL.nt (RC.bs (mv (vi a3) (mv (vi p0_5.length) (ic a3 ((p0_5.length:Int)) (aM (vb (decide (a3< (p0_5.length:Int)))) ?_))))))))
   refine RL.nt ?_
   obtain⟨b7,hj,hb⟩:=bd hb
   refine RC.jn (fun(b7: (List Int)×(List Int)×(List Int)×(List Int)) U w=>∃ck cl:Value,SH E V [(0,vp b0 0),(2,vi p0_5.length),(10,vp bw 0),(72,bl),(73,vi a9.1.length),(74,vi bp),(78,bq),(79,vi bn.length),(80,vi b6)] [bc 79 b0 [v0_0,v0_1,v0_2,v0_3,v0_4,v0_5,v0_6,bh,an,ao,v0_10,v0_11],rd v0_2 p0_2,rd v0_3 p0_3,rd v0_5 p0_5,rd v0_6 p0_6,own 120 bh us446,iH bX us446 a6.1 none,own 3 an b7.1,own 3 ao b7.2.1,own 3 v0_10 p0_10,own 38 v0_11 p0_11,bc 120 bw [ck,cl,(.slice none 0 0)],own 3 ck b7.2.2.1,own 3 cl b7.2.2.2,own 63 bl a9.1,rd bq bn] U w) b7 ?_ ?_
   ·refine fy hj (fun hc hj=>?_) fun hc hj=>?_
    ·refine RC.seq (RC.yF mixed [0,0,0,0,0,0,0,0,0,0,0,2] [0,1,2,3,4,5,6,7,8,9,10,11] ?_)
     have hw:=hw.drew
     refine DP.e0 zr (mv (vp b0 0) (cT zr (RL.nilCheck zr (cT zr (RL.bF zr Bi (cT zr (RL.bA 1 an hw fx (cT zr ?_))))))))
     refine mv (vi a3) (cT zr (mv (vp b0 0) (cT zr (RL.nilCheck zr (cT zr (RL.bF zr uP (cT zr (RL.bA 1 bh hw C4 ?_))))))))
     refine cT zr (RL.qx 6 7 a6.1 zr hw zr zr zr H7 (cT zr ?_))
     obtain⟨ff,cz,hj⟩:=bd hj
     refine RL.bL 8 hw zr zr eI cz (vF zr ?_)
     have hw:=hw.sc Int (a6.1.length:Int)
     refine RL.gx (f:=(fun _ y=>y)) 9 0 hw (jr 9 hw cz 0) (aZ cz).2.1 zr Fs.self cP fun w hw=>?_
     refine DP.d2 zt (DP.z (aG (RC.region (RL.bF zr yO (RL.bA 13 cj hw fx (mv (vi a3) ?_))))))
     have hw:=hw.sc Int a3
     refine RL.eH ([a3]: (List Int)) hw [(vi a3)] eI D1 (fun M hs g=>⟨(g.sat 0 _ zr).1,zt⟩) fun fg w hw=>?_
     have hw:=hw.freeze 0
     obtain⟨fh,ee,hj⟩:=bd hj
     refine RL.app 16 0 hw tE ee fun dc w hw=>?_
     refine RL.bF zr yO (RL.ir 15 dc hw zr zr (jw 16 hw) fx fun w hw=>?_)
     refine RL.nil ?_
     obtain rfl:=oi hj
     exact⟨rfl,dc,cy,hw.sp 20 [4,5,6,7,8,9,10,11,12,13,14,15,16,17,18,19]⟩
    refine RC.sr (mv (vp b0 0) (RL.nilCheck zr (RL.bF zr l3 (RL.bF zr mu (RL.bA 1 v0_2 hw uL (mv (vi a3) (mv (vi p0_5.length) (RL.jo a3 (p0_5.length:Int) ?_))))))))
    obtain⟨dd,ef,hj⟩:=bd hj
    refine RL.cG 2 hw yI ef fun fi hw=>(RL.i7 0 hw zr yL ry fun fj hw=>(RL.bJ dd.gD 0 hw xo (aM (vb dd.gD) (RL.nt ?_))))
    obtain⟨cm,hjj,hj⟩:=bd hj
    refine RC.jn (fun(cm: (List Int)×(List Int)) U w=>∃cn:Value,SH E V [(0,vp b0 0),(2,vi p0_5.length),(10,vp bw 0),(72,bl),(73,vi a9.1.length),(74,vi bp),(78,bq),(79,vi bn.length),(80,vi b6)] [bc 79 b0 [v0_0,v0_1,v0_2,v0_3,v0_4,v0_5,v0_6,bh,an,ao,v0_10,v0_11],rd v0_2 p0_2,rd v0_3 p0_3,rd v0_5 p0_5,rd v0_6 p0_6,own 120 bh us446,iH bX us446 a6.1 none,own 3 an au.1,own 3 ao cm.1,own 3 v0_10 p0_10,own 38 v0_11 p0_11,bc 120 bw [cj,cn,(.slice none 0 0)],own 3 cn cm.2,own 3 cj au.2.2.1,own 63 bl a9.1,rd bq bn] U w) cm ?_ ?_
    ·refine fy hjj (fun hc hjj=>?_) fun hc hjj=>?_
     rotate_left
     ·refine RC.region (mv (vp b0 0) (RL.nilCheck zr (RL.bF zr yN (RL.bA 3 ao hw fx (mv (vi a3) (mv (vi p0_5.length) (RL.jo a3 (p0_5.length:Int) ?_)))))))
      obtain⟨fk,c0,hjj⟩:=bd hjj
      refine RL.bL 11 hw zr zr eI c0 ?_
      have hw:=hw.sc Int (-1)
      refine RL.gx (f:=(fun _ y=>y)) 12 0 hw (jr 12 hw c0 0) (aZ c0).2.1 zr Fs.self cP fun w hw=>?_
      refine RL.nil ?_
      obtain rfl:=oi hjj
      exact⟨rfl,cy,hw.sp 20 [4,5,6,7,8,9,10,11,12,13,14,15,17,16,18,19]⟩
     refine RC.seq (RC.yF mixed [0,0,0,0,0,0,0,0,0,0,0,0,0,2] [0,1,2,3,4,5,6,7,8,9,10,11,12,13] ?_)
     have hw:=hw.drew
     refine DP.e0 zr (mv (vp b0 0) (cT zr (RL.nilCheck zr (cT zr (RL.bF zr yN (cT zr (RL.bA 3 ao hw fx (cT zr ?_))))))))
     refine mv (vi a3) (cT zr (mv (vi p0_5.length) (cT zr (RL.jo a3 (p0_5.length:Int) (cT zr (mv (vp b0 0) (cT zr (RL.nilCheck zr ?_))))))))
     refine cT zr (RL.bF zr uP (cT zr (RL.bA 3 bh hw C4 (cT zr (RL.qx 8 9 a6.1 zr hw zr zr zr H7 (cT zr ?_))))))
     obtain⟨fl,c1,hjj⟩:=bd hjj
     refine RL.bL 11 hw zr zr eI c1 (vF zr ?_)
     have hw:=hw.sc Int (a6.1.length:Int)
     refine RL.gx (f:=(fun _ y=>y)) 12 0 hw (jr 12 hw c1 0) (aZ c1).2.1 zr Fs.self cP fun w hw=>?_
     refine DP.d2 zt (DP.z (aG (RC.region (RL.bF zr yP (RL.bA 15 cy hw fx (mv (vi a3) (mv (vi p0_5.length) (RL.jo a3 (p0_5.length:Int) ?_))))))))
     have hw:=hw.sc Int (IntKind.wrap .i64 (a3 - (p0_5.length:Int)))
     refine RL.eH ([(IntKind.wrap .i64 (a3 - (p0_5.length:Int)))]: (List Int)) hw [(vi (IntKind.wrap .i64 (a3 - (p0_5.length:Int))))] eI D1 (fun M hs g=>⟨(g.sat 0 _ zr).1,zt⟩) fun fm w hw=>?_
     have hw:=hw.freeze 0
     obtain⟨fo,eg,hjj⟩:=bd hjj
     refine RL.app 19 0 hw tE eg fun de w hw=>?_
     refine RL.bF zr yP (RL.ir 17 de hw zr zr (jw 19 hw) fx fun w hw=>?_)
     refine RL.nil ?_
     obtain rfl:=oi hjj
     exact⟨rfl,de,hw.sp 22 [6,7,8,9,10,11,12,13,14,15,16,17,19,18,20,21]⟩
    rintro _ w ⟨cn,O,rfl,hw⟩
    obtain rfl:=oi hj
    exact⟨rfl,cj,cn,hw.sp 16 [0,1,2,3,4,5,6,7,8,9,10,11,13,12,14,15]⟩
   rintro _ w ⟨ck,cl,O,rfl,hw⟩
   refine bQ (bQ (aG (RC.region (RL.inc hk hm (mv (vi ((b6+1:Nat):Int)) (RL.nil ?_))))))
   obtain rfl:=oi hb
   exact⟨rfl,ck,cl,hw.sp 16 [0,1,2,3,4,5,6,7,8,9,10,11,12,13,14,15]⟩
  rintro _ w ⟨bz,br,O,rfl,hw⟩
  refine aG (RC.sr (RL.bF zr yO (RL.bA 11 bz hw fx (RL.eK 12 au.2.2.1 hw lZ (RL.bF zr yP (RL.bA 11 br hw fx (RL.eK 13 au.2.2.2 hw lZ (RL.jo (au.2.2.1.length:Int) (au.2.2.2.length:Int) ?_))))))))
  refine ic ((IntKind.wrap .i64 ((au.2.2.1.length:Int)+ (au.2.2.2.length:Int)))) 0 (RL.nt ?_)
  obtain⟨c2,hj,hb⟩:=bd hb
  refine RC.jn (fun(c2: (List cU)) U w=>∃(cp:Value) (us598:List cB),SH E V [(0,vp b0 0),(2,vi p0_5.length),(72,bl),(73,vi a9.1.length),(74,vi bp)] [bc 79 b0 [v0_0,v0_1,v0_2,v0_3,v0_4,v0_5,v0_6,cp,an,ao,v0_10,v0_11],own 120 cp us598,iH bX us598 c2 none,rd v0_2 p0_2,rd v0_3 p0_3,rd v0_5 p0_5,rd v0_6 p0_6,own 3 an au.1,own 3 ao au.2.1,own 3 v0_10 p0_10,own 38 v0_11 p0_11,own 63 bl a9.1] U w) c2 ?_ ?_
  ·refine fy hj (fun hc hj=>?_) fun hc hj=>?_
   rotate_left
   ·refine RC.skip ?_
    obtain rfl:=oi hj
    exact⟨rfl,bh,us446,hw.sp 16 [0,5,6,1,2,3,4,7,8,9,10,14]⟩
   have hw:=hw.drew
   refine RC.CN (fun w=>Holds E w ([bc 79 b0 [v0_0,v0_1,v0_2,v0_3,v0_4,v0_5,v0_6,bh,an,ao,v0_10,v0_11]]++V)) mixed zr [1,1,1,1,1,0,2,2,0,0,2] [0,1,2,3,4,5,6,7,8,9,10] (hw.pk 16 [0]) (DP.e1 (vp b0 0) zr (fun w=>RL.move (vp b0 0) zt DP.d1) (DP.e1 (vp b0 0) zr (fun w=>RL.move (vp b0 0) zt DP.d1) (DP.e1 (vp b0 0) zr (fun w=>RL.nilCheck zr DP.d1) (DP.e1 (vp b0 7) zr (fun w=>RL.bF zr uP DP.d1) (DP.Gc bh zr (fun w hw=>RL.bA 0 bh hw C4 DP.d1) (DP.e0 zr (RL.DR (i:=11) (cs:=[bz,br,(.slice none 0 0)]) zt zr hw zr zr H8 zr (vF zr ?_))))))))
   have hw:=((((hw.cV fX 29).B0 (i:=0) rfl).freeze 14).freeze 15).A6 (cs:=[bz,br,(.slice none 0 0)]) (x:=(⟨au.2.2.1,au.2.2.2,(rv (.slice none 0 0))⟩:cB)) (fun M hs g=>⟨[bz],[br,(.slice none 0 0)],rfl,(mV (g.sat 14 _ rfl).1),⟨[br],[(.slice none 0 0)],rfl,(mV (g.sat 15 _ rfl).1),(mV (g.sat 0 _ rfl).1)⟩⟩) rfl
   refine RL.eH ([(⟨au.2.2.1,au.2.2.2,(rv (.slice none 0 0))⟩:cB)]:List cB) hw [(.agg ([bz,br,(.slice none 0 0)]:List Value).toArray)] GV H9 (fun M hs g=>⟨(g.sat 0 _ zr).1,zt⟩) fun fp w hw=>(DP.d2 (hw.pk 20 [4]) (DP.e2 zr ?_))
   obtain⟨fq,eh,hj⟩:=bd hj
   have hw:=hw.freeze 0
   refine RL.CK (i:=9) (j:=0) (b:=10) (o:=3) (X:=bX) (ur:=(⟨au.2.2.1,au.2.2.2,(rv (.slice none 0 0))⟩:cB)) (xr:=(⟨au.2.2.1,au.2.2.2,([]: (List fX))⟩:cU)) (u:=(.slice none 0 0)) (y:=([]: (List fX))) (fun _ _ ho=>⟨⟨rfl,rfl⟩,ho⟩) trivial rfl hw rfl rfl rfl rfl rfl rfl (by decide) (by decide) (by decide) JP eh fun df w hw=>?_
   refine DP.d2 (hw.pk 20 [4]) (DP.e0 zr (RL.nilCheck zr (cT zr (RL.bF zr uP (DP.d0 (DP.Ko zr zr (RL.ir 4 df hw zr zr (jw 9 hw) C4 fun w hw=>?_)))))))
   refine DP.d2 zt (DP.z ?_)
   obtain rfl:=oi hj
   exact⟨rfl,df,(us446++[(⟨au.2.2.1,au.2.2.2,(rv (.slice none 0 0))⟩:cB)]),hw.sp 20 [4,9,10,5,6,7,8,11,12,13,14,18]⟩
  rintro _ w ⟨cp,us598,O,rfl,hw⟩
  refine bQ (aG (RC.region (RL.inc hk hm (mv (vi ((bp+1:Nat):Int)) (RL.nil ?_)))))
  obtain rfl:=oi hb
  exact⟨rfl,cp,us598,hw.sp 12 [0,1,2,3,4,5,6,7,8,9,10,11]⟩
 rintro _ w ⟨ak,us444,O,rfl,hw⟩
 refine aG (RC.sr (mv (vp b0 0) (RL.nilCheck zr (RL.bF zr l3 (RL.bF zr uN (RL.bA 0 v0_3 hw C0 (RL.bK 4 p0_3 hw D3 (mv (vi 0) ?_))))))))
 refine RL.nt ?_
 obtain⟨aj,hN,hb⟩:=bd hb
 refine RC.fold (fun(b3:Nat) (aj: (List cU)×(List Int)×(List Int)×(List Int)×(List bE)) U w=>∃(dg dh:Value) (di dj:Value) (us819:List cB),SH E V [(0,vp b0 0),(170,v0_3),(171,vi p0_3.length),(172,vi b3)] [bc 79 b0 [v0_0,v0_1,v0_2,v0_3,v0_4,v0_5,v0_6,ak,dg,dh,di,dj],rd dg aj.2.1,rd dh aj.2.2.1,own 3 di aj.2.2.2.1,own 38 dj aj.2.2.2.2,rd v0_2 p0_2,rd v0_3 p0_3,rd v0_5 p0_5,rd v0_6 p0_6,own 120 ak us819,iH bX us819 aj.1 none] U w) (fun(aj: (List cU)×(List Int)×(List Int)×(List Int)×(List bE)) U w=>∃(cq cr:Value) (ct cu:Value) (us824:List cB),SH E V [(0,vp b0 0)] [bc 79 b0 [v0_0,v0_1,v0_2,v0_3,v0_4,v0_5,v0_6,ak,cq,cr,ct,cu],rd cq aj.2.1,rd cr aj.2.2.1,own 3 ct aj.2.2.2.1,own 38 cu aj.2.2.2.2,rd v0_2 p0_2,rd v0_3 p0_3,rd v0_5 p0_5,rd v0_6 p0_6,own 120 ak us824,iH bX us824 aj.1 none] U w) hN ?_ ?_ ?_ ?_
 ·have hw:=(hw.freeze 7).freeze 8
  exact⟨an,ao,v0_10,v0_11,us444,hw.sp 12 [0,7,8,9,10,3,4,5,6,1,2]⟩
 ·rintro hm aj _ w ⟨ei,ej,ek,el,us932,O,rfl,hw⟩
  refine RC.sr (ic ((p0_3.length:Int)) ((p0_3.length:Int)) (RL.nq (RC.cX mT (RC.ex ?_))))
  exact⟨rfl,ei,ej,ek,el,us932,hw.sp 11 [0,1,2,3,4,5,6,7,8,9,10]⟩
 ·rintro hm b3 aj s' _ w hk ⟨a4,a5,bm,a7,us829,O,rfl,hw⟩ hb
  refine RC.sr (ic ((b3:Int)) ((p0_3.length:Int)) (RL.nq (RC.cW (mS hk) (RC.ss (RC.bs ?_)))))
  obtain⟨b8,en,hb⟩:=bd hb
  refine RL.cG 6 hw D4 en fun eo hw=>(RL.bU 0 b8 hw wu fun ep hw=>(RL.alloc hw HI.z fun dk w hw=>?_))
  refine RL.bC 0 hw 1 zr wu fun w hw=>?_
  refine RL.ns (mv (vp b0 0) (RL.aR (f:=(fun x=>x)) 0 hw zr Fd.self wu fun dm hw=>?_))
  have hw:=((hw.dup 11 rfl).dup 10 rfl).pull 6
  obtain⟨bb,er,hb⟩:=bd hb
  refine RL.call zt zr JR [(vp b0 0),dm] zr (aF (qq N (i1:=0) hw zr er) ?_)
  rintro _ w ⟨c3,rfl,hw⟩
  refine mv (.tuple #[c3,(vb bb.2)]) (RL.extract c3 (RL.extract (vb bb.2) (RL.alloc hw nz.z fun b9 w hw=>?_)))
  refine RL.bC 0 hw 1 zr dD fun w hw=>?_
  refine aM (vb bb.2) (RL.ns (aM (vi (-1)) (RL.nq (RC.sr (mv (vb bb.2) (RL.nt ?_))))))
  obtain⟨bj,hj,hb⟩:=bd hb
  refine RC.jn (fun(bj: (List cU)×Int) U w=>∃(us877:List cB),SH E V [(0,vp b0 0),(15,vp b9 0),(17,vi bj.2),(170,v0_3),(171,vi p0_3.length),(172,vi b3)] [bc 79 b0 [v0_0,v0_1,v0_2,v0_3,v0_4,v0_5,v0_6,ak,a4,a5,bm,a7],rd v0_2 p0_2,rd v0_3 p0_3,rd v0_5 p0_5,rd v0_6 p0_6,own 120 ak us877,iH bX us877 bj.1 none,rd a4 aj.2.1,rd a5 aj.2.2.1,own 3 bm aj.2.2.2.1,own 38 a7 aj.2.2.2.2,bx 38 b9 bb.1] U w) bj ?_ ?_
  ·refine fy hj (fun hc hj=>?_) fun hc hj=>?_
   rotate_left
   ·refine RC.skip ?_
    obtain rfl:=oi hj
    exact⟨rfl,us829,hw.sp 18 [2,12,13,14,15,16,17,8,9,10,11,0]⟩
   refine RC.sr (mv (vp b0 0) (RL.aR (f:=(fun x=>x)) 0 hw zr Fd.self dD fun dn hw=>?_))
   have hw:=((hw.dup 10 rfl).dup 10 rfl).pull 5
   obtain⟨ai,et,hj⟩:=bd hj
   refine RL.call zt zr JS [(vp b0 0),dn] zr (aF (nW N (i1:=0) hw zr et) ?_)
   rintro _ w ⟨rfl,hw⟩
   refine aM (vi ai) (RL.nt ?_)
   obtain⟨fr,cf,hj⟩:=bd hj
   obtain⟨ca,eu,hj⟩:=bd hj
   obtain⟨bt,ev,hj⟩:=bd hj
   obtain⟨b4,cv,hj⟩:=bd hj
   refine RC.Ba E V mixed [1,1,1,0,1,1,1,1,0,1,0,0,0,0,0,0,0,0,0,0] [13,14,15,16,19] (fun(x:Value×Value×Value×Value)=>(fun aw ax av al=>[(0,186,(vp b0 0)),(1,187,(vp b0 0)),(2,188,(vp b0 7)),(3,189,ak),(4,190,(vi ai)),(5,191,(vp b0 0)),(6,192,(vp b0 0)),(7,193,(vp b0 7)),(8,194,ak),(9,195,(vi ai)),(10,196,(zg ak (Int.toNat ai) 3 0)),(11,197,(zg ak (Int.toNat ai) 3 2)),(12,198,(us829.getD (Int.toNat ai) (default:cB)).iI.v),(13,199,aw),(14,200,ax),(15,201,av),(16,202,al),(17,203,(zg ak (Int.toNat ai) 3 0)),(18,204,(zg ak (Int.toNat ai) 3 2))]) x.1 x.2.1 x.2.2.1 x.2.2.2) [(0,vp b0 0),(14,vp dk 0),(15,vp b9 0),(17,vi ai),(170,v0_3),(171,vi p0_3.length),(172,vi b3)] [] (fun(D:Nat->Bool) (x:Value×Value×Value×Value)=>(fun aw ax av al=>[bif D 0 then (rd aw b8) else aU,bif D 1 then (rd ax ca) else aU,bif D 3 then (rd av ([ca]: (List fX))) else (bif D 2 then (own 29 av ([ca]: (List fX))) else aU),bif D 4 then aU else (bif D 3 then (own 29 al bt) else aU),bc 79 b0 [v0_0,v0_1,v0_2,v0_3,v0_4,v0_5,v0_6,ak,a4,a5,bm,a7],rd dn bb.1,bx 38 b9 bb.1,rd c3 bb.1,aU,rd dm b8,bx 87 dk b8,rd ep b8,pt eo b8,aU,rd a4 aj.2.1,rd a5 aj.2.2.1,own 3 bm aj.2.2.2.1,own 38 a7 aj.2.2.2.2,rd v0_2 p0_2,rd v0_3 p0_3,rd v0_5 p0_5,rd v0_6 p0_6,bif D 4 then (own 120 ak (us829.set (Int.toNat ai) {(us829.getD (Int.toNat ai) (default:cB)) with iI:=rv al})) else (own 120 ak us829),bif D 4 then (iH bX (us829.set (Int.toNat ai) {(us829.getD (Int.toNat ai) (default:cB)) with iI:=rv al}) (aj.1.set (Int.toNat ai) {b4 with iI:=bt}) none) else (bif D 3 then (iH bX us829 aj.1 (some (Int.toNat ai))) else (iH bX us829 aj.1 none))]) x.1 x.2.1 x.2.2.1 x.2.2.2) (fun x=>by kernel_rfl) ?_ ⟨fun _=>gA gn,fun _=>qB gn,fun _=>lH gn uP,?_,fun _=>gA gn,fun _=>gA gn,fun _=>qB gn,fun _=>lH gn uP,?_,fun _=>gA gn,?_,?_,?_,?_,?_,?_,?_,?_,?_,?_,trivial⟩ ?_
   ·have hw:=((((hw.drew).aU).aU).aU).aU
    exact⟨(undef,undef,undef,undef),dX.none,(zZ zr),zt,hw⟩
   ·rintro D U w hD af ad ⟨⟨aw,ax,av,al⟩,hv,ha,_,hw⟩
    obtain⟨O,rfl⟩:=(ac (hv.at 2 rfl (af.1 rfl)) az).dT
    refine RL.bA 4 ak hw C4 ?_
    exact RL.nil ⟨rfl,(aw,ax,av,al),hv.pu 3,ha.u,zt,hw⟩
   ·rintro D U w hD af ad ⟨⟨aw,ax,av,al⟩,hv,ha,_,hw⟩
    obtain⟨O,rfl⟩:=(ac (hv.at 7 rfl (af.1 rfl)) az).dT
    refine RL.bA 4 ak hw C4 ?_
    exact RL.nil ⟨rfl,(aw,ax,av,al),hv.pu 8,ha.u,zt,hw⟩
   ·rintro D U w hD af ad ⟨⟨aw,ax,av,al⟩,hv,ha,_,hw⟩
    obtain⟨O,rfl⟩:=(ac (hv.at 8 rfl (af.1 rfl)) (ac (hv.at 9 rfl (af.2.1 rfl)) az)).dT
    have hw:=((hw.bM 22 (nh ad hD 19)).bM 23 (nh ad hD 19)).bM 23 (nf (fun h=>ft hD ((ad 11 _ rfl ((ad 12 _ rfl ((ad 16 _ rfl h).1 rfl)).1 rfl)).1 rfl)))
    have hl900:=hw.gK 23 rfl
    have hr901:=jy (default:cB) hl900 cf
    refine RL.bL 22 hw zr zr GV hr901 ?_
    have hw:=(hw.fw 22 (D 19) (nh ad hD 19) (own 120 ak (us829.set (Int.toNat ai) {(us829.getD (Int.toNat ai) (default:cB)) with iI:=rv al}))).fw 23 (D 16) (nf (fun h=>ft hD ((ad 11 _ rfl ((ad 12 _ rfl ((ad 16 _ rfl h).1 rfl)).1 rfl)).1 rfl))) (iH bX us829 aj.1 (some (Int.toNat ai)))
    have hw:=hw.fw 23 (D 19) (nh ad hD 19) (iH bX (us829.set (Int.toNat ai) {(us829.getD (Int.toNat ai) (default:cB)) with iI:=rv al}) (aj.1.set (Int.toNat ai) {b4 with iI:=bt}) none)
    exact RL.nil ⟨rfl,(aw,ax,av,al),hv.pu 10,ha.u,zt,hw⟩
   ·rintro D U w hD af ad ⟨⟨aw,ax,av,al⟩,hv,ha,_,hw⟩
    obtain⟨O,rfl⟩:=(ac (hv.at 10 rfl (af.1 rfl)) az).dT
    have hw:=((hw.bM 22 (nh ad hD 19)).bM 23 (nh ad hD 19)).bM 23 (nf (fun h=>ft hD ((ad 12 _ rfl ((ad 16 _ rfl h).1 rfl)).1 rfl)))
    have hl902:=hw.gK 23 rfl
    have hr903:=jy (default:cB) hl902 cf
    refine RL.mU (α:=cB) (jr 22 hw hr903 0) Cf ?_
    have hw:=(hw.fw 22 (D 19) (nh ad hD 19) (own 120 ak (us829.set (Int.toNat ai) {(us829.getD (Int.toNat ai) (default:cB)) with iI:=rv al}))).fw 23 (D 16) (nf (fun h=>ft hD ((ad 12 _ rfl ((ad 16 _ rfl h).1 rfl)).1 rfl))) (iH bX us829 aj.1 (some (Int.toNat ai)))
    have hw:=hw.fw 23 (D 19) (nh ad hD 19) (iH bX (us829.set (Int.toNat ai) {(us829.getD (Int.toNat ai) (default:cB)) with iI:=rv al}) (aj.1.set (Int.toNat ai) {b4 with iI:=bt}) none)
    exact RL.nil ⟨rfl,(aw,ax,av,al),hv.pu 11,ha.u,zt,hw⟩
   ·rintro D U w hD af ad ⟨⟨aw,ax,av,al⟩,hv,ha,_,hw⟩
    obtain⟨O,rfl⟩:=(ac (hv.at 11 rfl (af.1 rfl)) az).dT
    have hw:=((hw.bM 22 (nh ad hD 19)).bM 23 (nh ad hD 19)).bM 23 (nh ad hD 16)
    have hl904:=hw.gK 23 rfl
    have hr905:=jy (default:cB) hl904 cf
    refine RL.uC 22 23 ai qF (default:cB) zr hw zr (jr 22 hw hr905 2) zr zr cf Gh ?_
    have hw:=(hw.fw 22 (D 19) (nh ad hD 19) (own 120 ak (us829.set (Int.toNat ai) {(us829.getD (Int.toNat ai) (default:cB)) with iI:=rv al}))).fw 23 (D 16) (nh ad hD 16) (iH bX us829 aj.1 (some (Int.toNat ai)))
    have hw:=hw.fw 23 (D 19) (nh ad hD 19) (iH bX (us829.set (Int.toNat ai) {(us829.getD (Int.toNat ai) (default:cB)) with iI:=rv al}) (aj.1.set (Int.toNat ai) {b4 with iI:=bt}) none)
    exact RL.nil ⟨rfl,(aw,ax,av,al),hv.pu 12,ha.u,zt,hw⟩
   ·rintro D U w hD af ad ⟨⟨aw,ax,av,al⟩,hv,ha,_,hw⟩
    obtain⟨O,rfl⟩:=(ac (ha.at 1 rfl) az).dT
    have hw:=hw.bM 0 hD
    refine RL.aR (f:=(fun x=>x)) 10 hw zr Fd.self wu fun ew hw=>?_
    have hw:=(hw.pl 25 [0,2,3,4,5,6,7,8,9,10,11,12,13,14,15,16,17,18,19,20,21,22,23,24]).bS 0 true rfl aU
    exact RL.nil ⟨rfl,(ew,ax,av,al),hv.pu 13,ha.u,zt,hw⟩
   ·rintro D U w hD af ad ⟨⟨aw,ax,av,al⟩,hv,ha,_,hw⟩
    obtain⟨O,rfl⟩:=(ac (hv.at 13 rfl (af.1 rfl)) az).dT
    have hw:=(hw.bR 0 (af.1 rfl)).bM 1 hD
    refine RL.call zt zr FD [aw] zr (aF (lq N (i0:=0) hw zr eu) ?_)
    rintro ey w hw
    have hw:=((hw.pl 25 [1,0,3,4,5,6,7,8,9,10,11,12,13,14,15,16,17,18,19,20,21,22,23,24]).bS 0 (D 13) (af.1 rfl) aU).bS 1 true rfl aU
    exact RL.nil ⟨rfl,(aw,ey,av,al),hv.pu 14,ha.u,zt,hw⟩
   ·rintro D U w hD af ad ⟨⟨aw,ax,av,al⟩,hv,ha,_,hw⟩
    obtain⟨O,rfl⟩:=(ac (hv.at 14 rfl (af.1 rfl)) az).dT
    have hw:=((hw.bR 1 (af.1 rfl)).bM 2 (nh ad hD 16)).bM 2 hD
    refine RL.eH ([ca]: (List fX)) hw [ax] Ib HQ (fun M hs g=>⟨(g.sat 1 _ zr).1,zt⟩) fun dp w hw=>?_
    have hw:=(((hw.pl 25 [1,2,0,4,5,6,7,8,9,10,11,12,13,14,15,16,17,18,19,20,21,22,23,24]).bS 1 (D 14) (af.1 rfl) aU).bS 2 true rfl aU).fw 2 (D 16) (nh ad hD 16) (rd dp ([ca]: (List fX)))
    exact RL.nil ⟨rfl,(aw,ax,dp,al),hv.pu 15,ha.u,zt,hw⟩
   ·rintro D U w hD af ad ⟨⟨aw,ax,av,al⟩,hv,ha,_,hw⟩
    obtain⟨O,rfl⟩:=(ac (hv.at 12 rfl (af.1 rfl)) (ac (hv.at 15 rfl (af.2.1 rfl)) az)).dT
    have hw:=(((((((hw.bM 2 hD).bR 2 (af.2.1 rfl)).bM 3 (nh ad hD 19)).bM 3 hD).bM 22 (nh ad hD 19)).bM 23 (nh ad hD 19)).bM 23 hD).yv (j:=23) (jj:=ai) qF (default:cB) rfl cf
    have hw:=hw.freeze 3
    refine RL.app 0 3 hw Ic ev fun c4 w hw=>?_
    have hw:=((((hw.pl 25 [1,2,3,0,5,6,7,8,9,10,11,12,13,14,15,16,17,18,19,20,21,22,23,24]).bS 2 true rfl (bif D 15 then (own 29 av ([ca]: (List fX))) else aU)).bS 3 true rfl aU).fw 3 (D 19) (nh ad hD 19) aU).fw 22 (D 19) (nh ad hD 19) (own 120 ak (us829.set (Int.toNat ai) {(us829.getD (Int.toNat ai) (default:cB)) with iI:=rv c4}))
    have hw:=(hw.bS 23 true rfl (iH bX us829 aj.1 none)).fw 23 (D 19) (nh ad hD 19) (iH bX (us829.set (Int.toNat ai) {(us829.getD (Int.toNat ai) (default:cB)) with iI:=rv c4}) (aj.1.set (Int.toNat ai) {b4 with iI:=bt}) none)
    exact RL.nil ⟨rfl,(aw,ax,av,c4),hv.pu 16,ha.u,zt,hw⟩
   ·rintro D U w hD af ad ⟨⟨aw,ax,av,al⟩,hv,ha,_,hw⟩
    obtain⟨O,rfl⟩:=(ac (hv.at 3 rfl (af.1 rfl)) (ac (hv.at 4 rfl (af.2.1 rfl)) az)).dT
    have hw:=hw.bM 22 (nf (fun h=>ft hD ((ad 18 _ rfl ((ad 19 _ rfl h).1 rfl)).1 rfl)))
    have hw:=hw.bM 23 (nf (fun h=>ft hD ((ad 18 _ rfl ((ad 19 _ rfl h).1 rfl)).1 rfl)))
    have hw:=hw.bR 23 (af.2.2.2.2.2.2.2.2.2.2.2.2.2.2.2.2.2.2.1 rfl)
    have hl910:=hw.gK 23 rfl
    have hr911:=jy (default:cB) hl910 cv
    refine RL.bL 22 hw zr zr GV hr911 ?_
    have hw:=hw.fw 22 (D 19) (nf (fun h=>ft hD ((ad 18 _ rfl ((ad 19 _ rfl h).1 rfl)).1 rfl))) (own 120 ak (us829.set (Int.toNat ai) {(us829.getD (Int.toNat ai) (default:cB)) with iI:=rv al}))
    have hw:=(hw.bS 23 (D 16) (af.2.2.2.2.2.2.2.2.2.2.2.2.2.2.2.2.2.2.1 rfl) (iH bX us829 aj.1 none)).fw 23 (D 19) (nf (fun h=>ft hD ((ad 18 _ rfl ((ad 19 _ rfl h).1 rfl)).1 rfl))) (iH bX (us829.set (Int.toNat ai) {(us829.getD (Int.toNat ai) (default:cB)) with iI:=rv al}) (aj.1.set (Int.toNat ai) {b4 with iI:=bt}) none)
    exact RL.nil ⟨rfl,(aw,ax,av,al),hv.pu 17,ha.u,zt,hw⟩
   ·rintro D U w hD af ad ⟨⟨aw,ax,av,al⟩,hv,ha,_,hw⟩
    obtain⟨O,rfl⟩:=(ac (hv.at 17 rfl (af.1 rfl)) az).dT
    have hw:=((hw.bM 22 (nh ad hD 19)).bM 23 (nh ad hD 19)).bR 23 (af.2.2.2.2.2.2.2.2.2.2.2.2.2.2.2.2.2.1 rfl)
    have hl912:=hw.gK 23 rfl
    have hr913:=jy (default:cB) hl912 cv
    refine RL.mU (α:=cB) (jr 22 hw hr913 0) Cf ?_
    have hw:=(hw.fw 22 (D 19) (nh ad hD 19) (own 120 ak (us829.set (Int.toNat ai) {(us829.getD (Int.toNat ai) (default:cB)) with iI:=rv al}))).bS 23 (D 16) (af.2.2.2.2.2.2.2.2.2.2.2.2.2.2.2.2.2.1 rfl) (iH bX us829 aj.1 none)
    have hw:=hw.fw 23 (D 19) (nh ad hD 19) (iH bX (us829.set (Int.toNat ai) {(us829.getD (Int.toNat ai) (default:cB)) with iI:=rv al}) (aj.1.set (Int.toNat ai) {b4 with iI:=bt}) none)
    exact RL.nil ⟨rfl,(aw,ax,av,al),hv.pu 18,ha.u,zt,hw⟩
   ·rintro D U w hD af ad ⟨⟨aw,ax,av,al⟩,hv,ha,_,hw⟩
    obtain⟨O,rfl⟩:=(ac (hv.at 16 rfl (af.2.1 rfl)) (ac (hv.at 18 rfl (af.1 rfl)) az)).dT
    have hw:=((((hw.bM 3 hD).bR 3 (af.2.1 rfl)).bM 22 hD).bM 23 hD).bR 23 (af.2.1 rfl)
    have hl914:=hw.gK 23 rfl
    have hr915:=jy (default:cB) hl914 cv
    refine RL.sD 22 23 3 ai qF (default:cB) hw zr zr (jr 22 hw hr915 2) zr zr zr cv Gh fun w hw=>?_
    have hw:=((hw.bS 3 true rfl (bif D 16 then (own 29 al bt) else aU)).bS 22 true rfl (own 120 ak us829)).bS 23 true rfl (bif D 16 then (iH bX us829 aj.1 (some (Int.toNat ai))) else (iH bX us829 aj.1 none))
    exact RL.nil ⟨rfl,(aw,ax,av,al),hv.n1,ha,zt,hw⟩
   rintro D U w a8 ⟨⟨aw,ax,av,al⟩,hv,ha,_,hw⟩
   have hw:=(((((hw.bR 0 (gR a8 13)).bR 1 (gR a8 14)).bR 2 (gR a8 16)).bR 3 (gR a8 19)).bR 22 (gR a8 19)).bR 23 (gR a8 19)
   obtain⟨O,rfl⟩:=(ac (ha.at 0 rfl) (ac (ha.at 1 rfl) (ac (ha.at 2 rfl) (ac (ha.at 3 rfl) (ac (ha.at 4 rfl) (ac (ha.at 5 rfl) (ac (ha.at 6 rfl) az))))))).dT
   obtain rfl:=oi hj
   exact⟨rfl,(us829.set (Int.toNat ai) {(us829.getD (Int.toNat ai) (default:cB)) with iI:=rv al}),hw.sp 24 [4,18,19,20,21,22,23,14,15,16,17,6]⟩
  rintro _ w ⟨us877,O,rfl,hw⟩
  refine aG ?_
  obtain⟨ez,e3,hb⟩:=bd hb
  obtain⟨e4,e5,hb⟩:=bd hb
  refine RC.Ba E V mixed [1,1,1,1,1,0,1,0,0,1,1,1,0,0,0,0,1,1,0,1,1,0] [7,8,13,14,15,18,21] (fun(x:Value×Value×Value×Value×Value)=>(fun a0 a2 a1 ar ay=>[(0,205,(vp b0 0)),(1,206,(vp b0 0)),(2,207,(vp b0 0)),(3,208,(vp b0 0)),(4,209,(vp b0 10)),(5,210,bm),(6,211,(vi bj.2)),(7,212,a0),(8,213,ar),(9,214,(vp b0 0)),(10,215,(vp b0 0)),(11,216,(vp b0 11)),(12,217,a7),(13,218,a2),(14,219,a1),(15,220,ay),(16,221,(vp b0 0)),(17,222,(vp b0 10)),(19,223,(vp b0 0)),(20,224,(vp b0 11))]) x.1 x.2.1 x.2.2.1 x.2.2.2.1 x.2.2.2.2) [(0,vp b0 0),(15,vp b9 0),(17,vi bj.2),(170,v0_3),(171,vi p0_3.length),(172,vi b3)] [] (fun(D:Nat->Bool) (x:Value×Value×Value×Value×Value)=>(fun a0 a2 a1 ar ay=>[bif D 1 then (rd a0 ([bj.2]: (List Int))) else (bif D 0 then (own 3 a0 ([bj.2]: (List Int))) else aU),bif D 2 then (rd a2 bb.1) else aU,bif D 4 then (rd a1 ([bb.1]: (List bE))) else (bif D 3 then (own 38 a1 ([bb.1]: (List bE))) else aU),bif D 6 then (bc 79 b0 [v0_0,v0_1,v0_2,v0_3,v0_4,v0_5,v0_6,ak,a4,a5,ar,ay]) else (bif D 5 then (bc 79 b0 [v0_0,v0_1,v0_2,v0_3,v0_4,v0_5,v0_6,ak,a4,a5,ar,a7]) else (bc 79 b0 [v0_0,v0_1,v0_2,v0_3,v0_4,v0_5,v0_6,ak,a4,a5,bm,a7])),rd v0_2 p0_2,rd v0_3 p0_3,rd v0_5 p0_5,rd v0_6 p0_6,own 120 ak us877,iH bX us877 bj.1 none,rd a4 aj.2.1,rd a5 aj.2.2.1,bif D 1 then (own 3 ar ez) else (own 3 bm aj.2.2.2.1),bif D 4 then (own 38 ay e4) else (own 38 a7 aj.2.2.2.2),bx 38 b9 bb.1]) x.1 x.2.1 x.2.2.1 x.2.2.2.1 x.2.2.2.2) (fun x=>by kernel_rfl) ?_ ⟨fun _=>gA gn,fun _=>gA gn,fun _=>gA gn,fun _=>qB gn,fun _=>lH gn uQ,?_,fun _=>gA gn,?_,?_,fun _=>gA gn,fun _=>qB gn,fun _=>lH gn sH,?_,?_,?_,?_,fun _=>qB gn,fun _=>lH gn uQ,?_,fun _=>qB gn,fun _=>lH gn sH,?_,trivial⟩ ?_
  ·have hw:=(((hw.drew).aU).aU).aU
   exact⟨(undef,undef,undef,undef,undef),dX.none,(zZ zr),zt,hw⟩
  ·rintro D U w hD af ad ⟨⟨a0,a2,a1,ar,ay⟩,hv,ha,_,hw⟩
   obtain⟨O,rfl⟩:=(ac (hv.at 4 rfl (af.1 rfl)) az).dT
   have hw:=(hw.bM 3 (nh ad hD 21)).bM 3 (nh ad hD 18)
   refine RL.bA 3 bm hw fx ?_
   have hw:=(hw.fw 3 (D 18) (nh ad hD 18) (bc 79 b0 [v0_0,v0_1,v0_2,v0_3,v0_4,v0_5,v0_6,ak,a4,a5,ar,a7])).fw 3 (D 21) (nh ad hD 21) (bc 79 b0 [v0_0,v0_1,v0_2,v0_3,v0_4,v0_5,v0_6,ak,a4,a5,ar,ay])
   exact RL.nil ⟨rfl,(a0,a2,a1,ar,ay),hv.pu 5,ha.u,zt,hw⟩
  ·rintro D U w hD af ad ⟨⟨a0,a2,a1,ar,ay⟩,hv,ha,_,hw⟩
   obtain⟨O,rfl⟩:=(ac (hv.at 6 rfl (af.1 rfl)) az).dT
   have hw:=((hw.bM 0 (nh ad hD 8)).bM 0 hD).sc Int bj.2
   refine RL.eH ([bj.2]: (List Int)) hw [(vi bj.2)] eI D1 (fun M hs g=>⟨(g.sat 0 _ zr).1,zt⟩) fun dq w hw=>?_
   have hw:=((hw.pl 17 [0,3,4,5,6,7,8,9,10,11,12,13,14,15,16]).bS 0 true rfl aU).fw 0 (D 8) (nh ad hD 8) (rd dq ([bj.2]: (List Int)))
   exact RL.nil ⟨rfl,(dq,a2,a1,ar,ay),hv.pu 7,ha.u,zt,hw⟩
  ·rintro D U w hD af ad ⟨⟨a0,a2,a1,ar,ay⟩,hv,ha,_,hw⟩
   obtain⟨O,rfl⟩:=(ac (hv.at 5 rfl (af.1 rfl)) (ac (hv.at 7 rfl (af.2.1 rfl)) az)).dT
   have hw:=(((((hw.bM 0 hD).bR 0 (af.2.1 rfl)).bM 3 (nh ad hD 21)).bM 3 (nh ad hD 18)).bM 12 hD).freeze 0
   refine RL.app 12 0 hw tE e3 fun c5 w hw=>?_
   have hw:=((hw.bS 0 true rfl (bif D 7 then (own 3 a0 ([bj.2]: (List Int))) else aU)).fw 3 (D 18) (nh ad hD 18) (bc 79 b0 [v0_0,v0_1,v0_2,v0_3,v0_4,v0_5,v0_6,ak,a4,a5,c5,a7])).fw 3 (D 21) (nh ad hD 21) (bc 79 b0 [v0_0,v0_1,v0_2,v0_3,v0_4,v0_5,v0_6,ak,a4,a5,c5,ay])
   have hw:=hw.bS 12 true rfl (own 3 bm aj.2.2.2.1)
   exact RL.nil ⟨rfl,(a0,a2,a1,c5,ay),hv.pu 8,ha.u,zt,hw⟩
  ·rintro D U w hD af ad ⟨⟨a0,a2,a1,ar,ay⟩,hv,ha,_,hw⟩
   obtain⟨O,rfl⟩:=(ac (hv.at 11 rfl (af.1 rfl)) az).dT
   have hw:=(hw.bM 3 (nh ad hD 21)).bM 3 (nh ad hD 18)
   refine RL.bA 3 a7 hw Bj ?_
   have hw:=(hw.fw 3 (D 18) (nh ad hD 18) (bc 79 b0 [v0_0,v0_1,v0_2,v0_3,v0_4,v0_5,v0_6,ak,a4,a5,ar,a7])).fw 3 (D 21) (nh ad hD 21) (bc 79 b0 [v0_0,v0_1,v0_2,v0_3,v0_4,v0_5,v0_6,ak,a4,a5,ar,ay])
   exact RL.nil ⟨rfl,(a0,a2,a1,ar,ay),hv.pu 12,ha.u,zt,hw⟩
  ·rintro D U w hD af ad ⟨⟨a0,a2,a1,ar,ay⟩,hv,ha,_,hw⟩
   obtain⟨O,rfl⟩:=(ac (ha.at 1 rfl) az).dT
   have hw:=hw.bM 1 hD
   refine RL.aR (f:=(fun x=>x)) 14 hw zr Fd.self dD fun e6 hw=>?_
   have hw:=(hw.pl 16 [1,0,3,4,5,6,7,8,9,10,11,12,13,14,15]).bS 1 true rfl aU
   exact RL.nil ⟨rfl,(a0,e6,a1,ar,ay),hv.pu 13,ha.u,zt,hw⟩
  ·rintro D U w hD af ad ⟨⟨a0,a2,a1,ar,ay⟩,hv,ha,_,hw⟩
   obtain⟨O,rfl⟩:=(ac (hv.at 13 rfl (af.1 rfl)) az).dT
   have hw:=((hw.bR 1 (af.1 rfl)).bM 2 (nh ad hD 15)).bM 2 hD
   refine RL.eH ([bb.1]: (List bE)) hw [a2] mw nz (fun M hs g=>⟨(g.sat 1 _ zr).1,zt⟩) fun dr w hw=>?_
   have hw:=(((hw.pl 16 [1,2,0,4,5,6,7,8,9,10,11,12,13,14,15]).bS 1 (D 13) (af.1 rfl) aU).bS 2 true rfl aU).fw 2 (D 15) (nh ad hD 15) (rd dr ([bb.1]: (List bE)))
   exact RL.nil ⟨rfl,(a0,a2,dr,ar,ay),hv.pu 14,ha.u,zt,hw⟩
  ·rintro D U w hD af ad ⟨⟨a0,a2,a1,ar,ay⟩,hv,ha,_,hw⟩
   obtain⟨O,rfl⟩:=(ac (hv.at 12 rfl (af.1 rfl)) (ac (hv.at 14 rfl (af.2.1 rfl)) az)).dT
   have hw:=(((((hw.bM 2 hD).bR 2 (af.2.1 rfl)).bM 3 (nh ad hD 21)).bM 3 (nh ad hD 18)).bM 13 hD).freeze 2
   refine RL.app 13 2 hw Bl e5 fun ds w hw=>?_
   have hw:=((hw.bS 2 true rfl (bif D 14 then (own 38 a1 ([bb.1]: (List bE))) else aU)).fw 3 (D 18) (nh ad hD 18) (bc 79 b0 [v0_0,v0_1,v0_2,v0_3,v0_4,v0_5,v0_6,ak,a4,a5,ar,a7])).fw 3 (D 21) (nh ad hD 21) (bc 79 b0 [v0_0,v0_1,v0_2,v0_3,v0_4,v0_5,v0_6,ak,a4,a5,ar,ds])
   have hw:=hw.bS 13 true rfl (own 38 a7 aj.2.2.2.2)
   exact RL.nil ⟨rfl,(a0,a2,a1,ar,ds),hv.pu 15,ha.u,zt,hw⟩
  ·rintro D U w hD af ad ⟨⟨a0,a2,a1,ar,ay⟩,hv,ha,_,hw⟩
   obtain⟨O,rfl⟩:=(ac (hv.at 8 rfl (af.2.1 rfl)) (ac (hv.at 17 rfl (af.1 rfl)) az)).dT
   have hw:=((hw.bM 3 (nh ad hD 21)).bM 3 hD).bR 12 (af.2.1 rfl)
   refine RL.ir 3 ar hw zr zr (jw 12 hw) fx fun w hw=>?_
   have hw:=((hw.bS 3 true rfl (bc 79 b0 [v0_0,v0_1,v0_2,v0_3,v0_4,v0_5,v0_6,ak,a4,a5,bm,a7])).fw 3 (D 21) (nh ad hD 21) (bc 79 b0 [v0_0,v0_1,v0_2,v0_3,v0_4,v0_5,v0_6,ak,a4,a5,ar,ay])).bS 12 (D 8) (af.2.1 rfl) (own 3 bm aj.2.2.2.1)
   exact RL.nil ⟨rfl,(a0,a2,a1,ar,ay),hv.n1,ha,zt,hw⟩
  ·rintro D U w hD af ad ⟨⟨a0,a2,a1,ar,ay⟩,hv,ha,_,hw⟩
   obtain⟨O,rfl⟩:=(ac (hv.at 15 rfl (af.2.1 rfl)) (ac (hv.at 19 rfl (af.1 rfl)) az)).dT
   have hw:=((hw.bM 3 hD).bR 3 (af.2.2.1 rfl)).bR 13 (af.2.1 rfl)
   refine RL.ir 3 ay hw zr zr (jw 13 hw) Bj fun w hw=>?_
   have hw:=(hw.bS 3 true rfl (bif D 18 then (bc 79 b0 [v0_0,v0_1,v0_2,v0_3,v0_4,v0_5,v0_6,ak,a4,a5,ar,a7]) else (bc 79 b0 [v0_0,v0_1,v0_2,v0_3,v0_4,v0_5,v0_6,ak,a4,a5,bm,a7]))).bS 13 (D 15) (af.2.1 rfl) (own 38 a7 aj.2.2.2.2)
   exact RL.nil ⟨rfl,(a0,a2,a1,ar,ay),hv.n1,ha,zt,hw⟩
  rintro D U w a8 ⟨⟨a0,a2,a1,ar,ay⟩,hv,ha,_,hw⟩
  have hw:=(((((hw.bR 0 (gR a8 8)).bR 1 (gR a8 13)).bR 2 (gR a8 15)).bR 3 (gR a8 21)).bR 12 (gR a8 8)).bR 13 (gR a8 15)
  obtain⟨O,rfl⟩:=(ac (ha.at 0 rfl) (ac (ha.at 1 rfl) (ac (ha.at 2 rfl) (ac (ha.at 3 rfl) (ac (ha.at 4 rfl) (ac (ha.at 5 rfl) az)))))).dT
  refine bQ (aG (RC.region (RL.inc hk hm (mv (vi ((b3+1:Nat):Int)) (RL.nil ?_)))))
  obtain rfl:=oi hb
  exact⟨rfl,a4,a5,ar,ay,us877,hw.sp 15 [3,10,11,12,13,4,5,6,7,8,9]⟩
 rintro _ w ⟨cq,cr,ct,cu,us824,O,rfl,hw⟩
 obtain rfl:=oi hb
 have hw:=hw.yw (X:=bX) (b:=10) (j:=9) rfl (fun M h u x cs=>yG M h u x cs) rfl rfl (by decide)
 refine zn ?_
 exact Fi zr ⟨ak,cq,cr,ct,cu,zr,hw.pk 11 [0,9,1,2,3,4]⟩
def sj (E:World) (V:List HP) (res:Option ((List (List aI))×(List aI)×(List bW)×(List dL)×(List (List aA))×(List aH)×(List (List Int))×(List cU)×(List Int)×(List Int)×(List Int)×(List bE))×Int) (v:Value) (w:World):Prop:=B3 res.1 (v = .tuple #[(.pointer none),(vi res.2)]/\Holds E w V) (fun y=>∃(ub0:Nat) (u0_0 u0_1:Value) (u0_2 u0_3:Value) (u0_4 u0_5:Value) (u0_6 u0_7:Value) (u0_8 u0_9:Value) (u0_10 u0_11:Value),v = .tuple #[vp ub0 0,(vi res.2)]/\Holds E w ([bc 79 ub0 [u0_0,u0_1,u0_2,u0_3,u0_4,u0_5,u0_6,u0_7,u0_8,u0_9,u0_10,u0_11],rd u0_0 y.1,rd u0_1 y.2.1,rd u0_2 y.2.2.1,rd u0_3 y.2.2.2.1,own 100 u0_4 y.2.2.2.2.1,rd u0_5 y.2.2.2.2.2.1,rd u0_6 y.2.2.2.2.2.2.1,own 120 u0_7 y.2.2.2.2.2.2.2.1,rd u0_8 y.2.2.2.2.2.2.2.2.1,rd u0_9 y.2.2.2.2.2.2.2.2.2.1,own 3 u0_10 y.2.2.2.2.2.2.2.2.2.2.1,own 38 u0_11 y.2.2.2.2.2.2.2.2.2.2.2]++V))
def oR (E:World) (V:List HP) (r:Option ((List (List aI))×(List aI)×(List bW)×(List dL)×(List (List aA))×(List aH)×(List (List Int))×(List cU)×(List Int)×(List Int)×(List Int)×(List bE))×Int) (U:Nat->Value) (w:World):Prop:=mc bH 112 Tryz.f9 (sj E V r) .ret U w
theorem nX {p0:iW} {res:Option ((List (List aI))×(List aI)×(List bW)×(List dL)×(List (List aA))×(List aH)×(List (List Int))×(List cU)×(List Int)×(List Int)×(List Int)×(List bE))×Int} (j:Holds E w V) (h0:V[i0]? =some (rd v0 p0)) (o:gu N p0=some res):
    Calls bH 9 [v0].toArray w (gI (sj E V res)):=by
 unfold gu at o
 refine enter Tryz.func9 zr zr ?_
 have j:=j.dup (i0+0) h0
 refine RC.sr (RL.cR 0 v0 j zr fun ao w j=>?_)
 refine aM (.pointer none) (aM (vi 0) (RL.nq (RC.sr (RL.bF zr uK (RL.aR 0 j zr o5 CT fun c2 j=>(RL.bK 0 p0.aN j z9 (ic ((p0.aN.length:Int)) 0 (RL.nt ?_))))))))
 refine fy o (fun hc o=>?_) fun hc o=>?_
 ·refine RC.sr (aM (.pointer none) (aM (vi 9) (RL.nt (RC.rt ?_))))
  obtain rfl:=oi o
  exact lM ⟨rfl,j.drop 3⟩
 refine RC.ss (RC.sr (RL.bF zr uK (RL.aR 1 j zr o5 CT fun c3 j=>(RL.bK 0 p0.aN j z9 (ic ((p0.aN.length:Int)) 16 (RL.nt (fy o (fun hc o=>?_) fun hc o=>?_)))))))
 ·refine RC.sr (aM (.pointer none) (aM (vi 2) (RL.nt (RC.rt ?_))))
  obtain rfl:=oi o
  exact lM ⟨rfl,j.drop 4⟩
 refine RC.sx (RL.bF zr D0 (RL.aR 2 j zr wk yH fun c4 j=>(RL.bK 0 p0.dH j qg (aM (vi p0.dH.length) (RL.nq (RC.sr (RL.bF zr uK (RL.aR 3 j zr o5 CT fun bp j=>?_))))))))
 refine RL.bK 0 p0.aN j z9 (mv (vi 0) (RL.nt ?_))
 obtain⟨c5,hN,o⟩:=bd o
 refine RC.range (fun(bk:Nat) (ay:Int)=>SH E V [(1,vp ao 0),(4,vi ay),(28,bp),(29,vi p0.aN.length),(30,vi bk)] [bx 27 ao p0,rd bp p0.aN]) (fun(ay:Int)=>SH E V [(1,vp ao 0),(4,vi ay)] [bx 27 ao p0,rd bp p0.aN]) (oR E V) hN ?_ ?_ ?_ ?_ ?_
 ·exact j.sp 6 [4,0]
 ·rintro hm ay _ w ⟨O,rfl,j⟩
  refine RC.sr (ic ((p0.aN.length:Int)) ((p0.aN.length:Int)) (RL.nq (RC.cX mT (RC.ex ?_))))
  exact⟨rfl,j.sp 2 [0,1]⟩
 ·rintro hm bk ay fl _ w hk ⟨O,rfl,j⟩ o
  refine RC.sr (ic ((bk:Int)) ((p0.aN.length:Int)) (RL.nq (RC.cW (mS hk) (RC.ss (RC.bs ?_)))))
  obtain⟨bl,bz,o⟩:=bd o
  refine RL.cG 1 j CU bz fun c6 j=>(RL.bU 0 bl j yH fun bm j=>(aM bm (RL.nq (RC.sr (mv bm ?_)))))
  obtain⟨a8,b0,o⟩:=bd o
  refine RL.call zt zr GQ [bm] zr (aF (km N (i0:=0) j zr b0) ?_)
  rintro _ w ⟨rfl,j⟩
  refine aM (vi a8) (RL.ns (mv (vi a8) (ic a8 0 (RL.nt (fy o (fun hc o=>?_) fun hc o=>?_)))))
  ·refine RC.sr (mv (vi a8) (aM (.pointer none) (aM (vi a8) (RL.nt (RC.rt (mn (cF ?_)))))))
   obtain rfl:=oi o
   exact⟨rfl,lM ⟨rfl,j.drop 4⟩⟩
  refine RC.sn (RC.region (mv (vi ay) (mv bm (RL.bK 0 bl j qg (RL.jo ay (bl.length:Int) (aM (vi (IntKind.wrap .i64 (ay+ (bl.length:Int)))) (RL.nil (bQ ?_))))))))
  refine aG (RC.region (RL.inc hk hm (mv (vi ((bk+1:Nat):Int)) (RL.nil ?_))))
  obtain rfl:=oi o
  exact⟨rfl,j.sp 4 [2,3]⟩
 ·intro r U w e hK
  subst e
  refine cF ?_
  obtain rfl:=oi o
  exact hK
 rintro ay _ w rfl ⟨O,rfl,j⟩
 rw [Fo.fW] at o
 refine aG (RC.seq (RC.sr (RL.bF zr D0 (RL.aR 0 j zr wk yH fun b1 j=>?_))))
 obtain⟨ba,b2,o⟩:=bd o
 refine RL.call zt zr GQ [b1] zr (aF (km N (i0:=0) j zr b2) ?_)
 rintro _ w ⟨rfl,j⟩
 refine aM (vi ba) (RL.ns (mv (vi ba) (ic ba 0 (RL.nt (fy o (fun hc o=>?_) fun hc o=>?_)))))
 ·refine RC.sr (mv (vi ba) (aM (.pointer none) (aM (vi ba) (RL.nt (RC.rt ?_)))))
  obtain rfl:=oi o
  exact lM ⟨rfl,j.drop 3⟩
 refine RC.ss (RC.sr (mv (vi ay) (ic ay 2000 (RL.nt (fy o (fun hc o=>?_) fun hc o=>?_)))))
 ·refine RC.sr (aM (.pointer none) (aM (vi 2) (RL.nt (RC.rt ?_))))
  obtain rfl:=oi o
  exact lM ⟨rfl,j.drop 3⟩
 refine RC.ss (RC.sr (RL.aR (f:=(fun x=>x)) 1 j zr Fd.self tD fun b3 j=>?_))
 obtain⟨bb,b4,o⟩:=bd o
 refine RL.call zt zr Jm [b3] zr (aF (qM N (i0:=0) j zr b4) ?_)
 rintro _ w ⟨rfl,j⟩
 refine aM (vi bb) (RL.ns (mv (vi bb) (ic bb 0 (RL.nt (fy o (fun hc o=>?_) fun hc o=>?_)))))
 ·refine RC.sr (mv (vi bb) (aM (.pointer none) (aM (vi bb) (RL.nt (RC.rt ?_)))))
  obtain rfl:=oi o
  exact lM ⟨rfl,j.drop 4⟩
 refine RC.ss (RC.sr (RL.aR (f:=(fun x=>x)) 2 j zr Fd.self tD fun b5 j=>?_))
 obtain⟨bc,b6,o⟩:=bd o
 refine RL.call zt zr Jy [b5] zr (aF (qQ N (i0:=0) j zr b6) ?_)
 rintro _ w ⟨rfl,j⟩
 refine aM (vi bc) (RL.ns (mv (vi bc) (ic bc 0 (RL.nt (fy o (fun hc o=>?_) fun hc o=>?_)))))
 ·refine RC.sr (mv (vi bc) (aM (.pointer none) (aM (vi bc) (RL.nt (RC.rt ?_)))))
  obtain rfl:=oi o
  exact lM ⟨rfl,j.drop 5⟩
 refine RC.ss (RC.sr (RL.bF zr mu (RL.aR 3 j zr qD uL fun av j=>(RL.bK 0 p0.aL j wq (mv (vi 0) (RL.nt ?_))))))
 obtain⟨c7,hN,o⟩:=bd o
 refine RC.range (fun(ax:Nat) (bn:Unit)=>SH E V [(1,vp ao 0),(63,av),(64,vi p0.aL.length),(65,vi ax)] [bx 27 ao p0,rd av p0.aL]) (fun(bn:Unit)=>SH E V [(1,vp ao 0)] [bx 27 ao p0,rd av p0.aL]) (oR E V) hN ?_ ?_ ?_ ?_ ?_
 ·exact j.sp 6 [4,0]
 ·rintro hm bn _ w ⟨O,rfl,j⟩
  refine RC.sr (ic ((p0.aL.length:Int)) ((p0.aL.length:Int)) (RL.nq (RC.cX mT (RC.ex ?_))))
  exact⟨rfl,j.sp 2 [0,1]⟩
 ·rintro hm ax bn fl _ w hk ⟨O,rfl,j⟩ o
  refine RC.sr (ic ((ax:Int)) ((p0.aL.length:Int)) (RL.nq (RC.cW (mS hk) (RC.ss (RC.bs (mv (vi ax) ?_))))))
  obtain⟨ad,b7,o⟩:=bd o
  refine RL.cG 1 j yI b7 fun c8 j=>(RL.bU 0 ad j ot fun c9 j=>(RL.alloc j CY.z fun an w j=>?_))
  refine aM (vi ax) (RL.bC 0 j 1 zr ot fun w j=>?_)
  refine RL.ns (RL.bF zr mu (RL.aR 3 j zr qD uL fun da j=>(mv (vi ax) ?_)))
  obtain⟨aw,b8,o⟩:=bd o
  refine RL.cut (hl:= .inr ⟨rfl,zr⟩) 0 j yI (.inl zr) b8 fun a2 j=>(RL.bK 0 aw j wq (mv (vi 0) (RL.nt ?_)))
  obtain⟨db,hN,o⟩:=bd o
  refine RC.range (fun(a5:Nat) (bo:Unit)=>SH E V [(1,vp ao 0),(12,vp an 0),(63,av),(64,vi p0.aL.length),(65,vi ax),(73,a2),(74,vi aw.length),(75,vi a5)] [bx 27 ao p0,bx 71 an ad,rd av p0.aL,rd a2 aw]) (fun(bo:Unit)=>SH E V [(1,vp ao 0),(63,av),(64,vi p0.aL.length),(65,vi ax)] [bx 27 ao p0,bx 71 an ad,rd av p0.aL,rd a2 aw]) (oR E V) hN ?_ ?_ ?_ ?_ ?_
  ·exact j.sp 7 [5,2,6,0]
  ·rintro hm bo _ w ⟨O,rfl,j⟩
   refine RC.sr (ic ((aw.length:Int)) ((aw.length:Int)) (RL.nq (RC.cX mT (RC.ex ?_))))
   exact⟨rfl,j.sp 4 [0,1,2,3]⟩
  ·rintro hm a5 bo fl _ w hk ⟨O,rfl,j⟩ o
   refine RC.sr (ic ((a5:Int)) ((aw.length:Int)) (RL.nq (RC.cW (mS hk) (RC.ss (RC.bs ?_)))))
   obtain⟨ab,b9,o⟩:=bd o
   refine RL.cG 3 j yI b9 fun bu j=>(RL.bU 0 ab j ot fun bw j=>(RL.alloc j CY.z fun au w j=>?_))
   refine RL.bC 0 j 1 zr ot fun w j=>?_
   refine RL.nq ?_
   obtain⟨bq,hj,o⟩:=bd o
   refine RC.jn (fun(bq:Bool)=>SH E V [(1,vp ao 0),(12,vp an 0),(63,av),(64,vi p0.aL.length),(65,vi ax),(73,a2),(74,vi aw.length),(75,vi a5),(98,vb bq)] [bx 27 ao p0,bx 71 an ad,rd av p0.aL,rd a2 aw]) bq ?_ ?_
   ·refine gv hj (fun ar hj=>?_) fun ar hj=>?_
    rotate_left
    ·refine RC.Ba E V mixed [1,0,1,0,1,1,0,0,0,0,0,0,1,1,1,1,1,1,1,1] [] (fun(x:Unit)=>[(0,79,(vp an 3)),(1,80,(vi ad.cZ)),(2,81,(vp au 4)),(3,82,(vi ab.To)),(4,83,(vb (decide (ad.cZ<=ab.To)))),(5,84,(vb (decide (ad.cZ<=ab.To)))),(6,85,(cv (true&&((decide (ad.cZ<=ab.To))==true)) (vp au 3))),(7,86,(cv (true&&((decide (ad.cZ<=ab.To))==true)) (vi ab.cZ))),(8,87,(cv (true&&((decide (ad.cZ<=ab.To))==true)) (vp an 4))),(9,88,(cv (true&&((decide (ad.cZ<=ab.To))==true)) (vi ad.To))),(10,89,(cv (true&&((decide (ad.cZ<=ab.To))==true)) (vb (decide (ab.cZ<=ad.To))))),(11,90,(vb ((decide (ad.cZ<=ab.To))&&(decide (ab.cZ<=ad.To))))),(12,91,(vb ((decide (ad.cZ<=ab.To))&&(decide (ab.cZ<=ad.To))))),(13,92,undef),(14,93,undef),(15,94,undef),(16,95,undef),(17,96,undef),(18,97,undef),(19,98,(vb false))]) [(1,vp ao 0),(12,vp an 0),(14,vp au 0),(63,av),(64,vi p0.aL.length),(65,vi ax),(73,a2),(74,vi aw.length),(75,vi a5)] [] (fun(D:Nat->Bool) (x:Unit)=>[bx 71 au ab,rd bw ab,pt bu ab,bx 27 ao p0,bx 71 an ad,rd av p0.aL,rd a2 aw]) (fun x=>by kernel_rfl) ?_ ⟨fun _=>lH gn sG,?_,fun _=>lH gn uM,?_,fun _=>CM gn,fun _=>gA gn,?_,?_,?_,?_,?_,?_,fun _=>gA gn,fun _=>tq ar,fun _=>tq ar,fun _=>tq ar,fun _=>tq ar,fun _=>tq ar,fun _=>tq ar,fun _=>Hu gn ar rfl,trivial⟩ ?_
     ·have j:=j.drew
      exact⟨(),dX.none,(zZ zr),zt,j⟩
     ·rintro D U w hD af al ⟨_,hv,ha,_,j⟩
      obtain⟨O,rfl⟩:=(ac (hv.at 0 rfl (af.1 rfl)) az).dT
      refine RL.aO 4 j zr mo cP ?_
      exact RL.nil ⟨rfl,(),hv.pu 1,ha.u,zt,j⟩
     ·rintro D U w hD af al ⟨_,hv,ha,_,j⟩
      obtain⟨O,rfl⟩:=(ac (hv.at 2 rfl (af.1 rfl)) az).dT
      refine RL.aO 0 j zr nG cP ?_
      exact RL.nil ⟨rfl,(),hv.pu 3,ha.u,zt,j⟩
     ·rintro D U w hD af al ⟨_,hv,ha,_,j⟩
      obtain⟨O,rfl⟩:=(ac (hv.at 5 rfl (af.1 rfl)) (ac (ha.at 2 rfl) az)).dT
      refine RL.gs true (decide (ad.cZ<=ab.To)) (vp au 3) zr zr zr (dZ sG) ?_
      exact RL.nil ⟨rfl,(),hv.pu 6,ha.u,zt,j⟩
     ·rintro D U w hD af al ⟨_,hv,ha,_,j⟩
      obtain⟨O,rfl⟩:=(ac (hv.at 5 rfl (af.2.1 rfl)) (ac (hv.at 6 rfl (af.1 rfl)) az)).dT
      refine RL.gs true (decide (ad.cZ<=ab.To)) (vi ab.cZ) rfl rfl rfl (cD 0 rfl j (fun h=>by exact(cY h:cv (true&&((decide (ad.cZ<=ab.To))==true)) (vp au 3)= (vp au 3))) rfl mo cP) ?_
      exact RL.nil ⟨rfl,(),hv.pu 7,ha.u,zt,j⟩
     ·rintro D U w hD af al ⟨_,hv,ha,_,j⟩
      obtain⟨O,rfl⟩:=(ac (hv.at 5 rfl (af.1 rfl)) (ac (ha.at 1 rfl) az)).dT
      refine RL.gs true (decide (ad.cZ<=ab.To)) (vp an 4) zr zr zr (dZ uM) ?_
      exact RL.nil ⟨rfl,(),hv.pu 8,ha.u,zt,j⟩
     ·rintro D U w hD af al ⟨_,hv,ha,_,j⟩
      obtain⟨O,rfl⟩:=(ac (hv.at 5 rfl (af.2.1 rfl)) (ac (hv.at 8 rfl (af.1 rfl)) az)).dT
      refine RL.gs true (decide (ad.cZ<=ab.To)) (vi ad.To) rfl rfl rfl (cD 4 rfl j (fun h=>by exact(cY h:cv (true&&((decide (ad.cZ<=ab.To))==true)) (vp an 4)= (vp an 4))) rfl nG cP) ?_
      exact RL.nil ⟨rfl,(),hv.pu 9,ha.u,zt,j⟩
     ·rintro D U w hD af al ⟨_,hv,ha,_,j⟩
      obtain⟨O,rfl⟩:=(ac (hv.at 5 rfl (af.2.2.1 rfl)) (ac (hv.at 7 rfl (af.1 rfl)) (ac (hv.at 9 rfl (af.2.1 rfl)) az))).dT
      refine RL.gs true (decide (ad.cZ<=ab.To)) (vb (decide (ab.cZ<=ad.To))) rfl rfl rfl (eG .leq .i64 ab.cZ ad.To rfl (fun h=>by exact(cY h:cv (true&&((decide (ad.cZ<=ab.To))==true)) (vi ab.cZ)= (vi ab.cZ))) (fun h=>by exact(cY h:cv (true&&((decide (ad.cZ<=ab.To))==true)) (vi ad.To)= (vi ad.To))) rfl) ?_
      exact RL.nil ⟨rfl,(),hv.pu 10,ha.u,zt,j⟩
     ·rintro D U w hD af al ⟨_,hv,ha,_,j⟩
      obtain⟨O,rfl⟩:=(ac (hv.at 5 rfl (af.1 rfl)) (ac (hv.at 10 rfl (af.2.1 rfl)) az)).dT
      refine RL.pick (decide (ad.cZ<=ab.To)) (vb ((decide (ad.cZ<=ab.To))&&(decide (ab.cZ<=ad.To)))) (iX true) ?_
      exact RL.nil ⟨rfl,(),hv.pu 11,ha.u,zt,j⟩
     rintro D U w a6 ⟨_,hv,ha,_,j⟩
     obtain⟨O,rfl⟩:=(ac (hv.at 19 rfl (gR a6 19)) (ac (ha.at 0 rfl) (ac (ha.at 1 rfl) (ac (ha.at 2 rfl) (ac (ha.at 3 rfl) (ac (ha.at 4 rfl) (ac (ha.at 5 rfl) (ac (ha.at 6 rfl) (ac (ha.at 7 rfl) (ac (ha.at 8 rfl) az)))))))))).dT
     obtain rfl:=oi hj
     exact⟨rfl,j.sp 7 [3,4,5,6]⟩
    obtain⟨ca,cb,hj⟩:=bd hj
    obtain⟨cc,cd,hj⟩:=bd hj
    obtain⟨br,cf,hj⟩:=bd hj
    refine RC.Ba E V mixed [1,0,1,0,1,1,0,0,0,0,0,0,1,0,0,0,0,0,1,1] [13,14,15,16] (fun(x:Value×Value×Value×Value)=>(fun ag ah ai aj=>[(0,79,(vp an 3)),(1,80,(vi ad.cZ)),(2,81,(vp au 4)),(3,82,(vi ab.To)),(4,83,(vb (decide (ad.cZ<=ab.To)))),(5,84,(vb (decide (ad.cZ<=ab.To)))),(6,85,(cv (true&&((decide (ad.cZ<=ab.To))==true)) (vp au 3))),(7,86,(cv (true&&((decide (ad.cZ<=ab.To))==true)) (vi ab.cZ))),(8,87,(cv (true&&((decide (ad.cZ<=ab.To))==true)) (vp an 4))),(9,88,(cv (true&&((decide (ad.cZ<=ab.To))==true)) (vi ad.To))),(10,89,(cv (true&&((decide (ad.cZ<=ab.To))==true)) (vb (decide (ab.cZ<=ad.To))))),(11,90,(vb ((decide (ad.cZ<=ab.To))&&(decide (ab.cZ<=ad.To))))),(12,91,(vb ((decide (ad.cZ<=ab.To))&&(decide (ab.cZ<=ad.To))))),(13,92,ag),(14,93,ah),(15,94,ai),(16,95,aj),(17,96,(vi br)),(18,97,(vb (br==0))),(19,98,(vb (br==0)))]) x.1 x.2.1 x.2.2.1 x.2.2.2) [(1,vp ao 0),(12,vp an 0),(14,vp au 0),(63,av),(64,vi p0.aL.length),(65,vi ax),(73,a2),(74,vi aw.length),(75,vi a5)] [] (fun(D:Nat->Bool) (x:Value×Value×Value×Value)=>(fun ag ah ai aj=>[bif D 0 then (rd ag ad) else aU,bif D 1 then (rd ah ca) else aU,bif D 2 then (rd ai ab) else aU,bif D 3 then (rd aj cc) else aU,bx 71 au ab,rd bw ab,pt bu ab,bx 27 ao p0,bx 71 an ad,rd av p0.aL,rd a2 aw]) x.1 x.2.1 x.2.2.1 x.2.2.2) (fun x=>by kernel_rfl) ?_ ⟨fun _=>lH gn sG,?_,fun _=>lH gn uM,?_,fun _=>CM gn,fun _=>gA gn,?_,?_,?_,?_,?_,?_,fun _=>gA gn,?_,?_,?_,?_,?_,fun _=>CM (gy ar),fun _=>Ht gn ar rfl,trivial⟩ ?_
    ·have j:=((((j.drew).aU).aU).aU).aU
     exact⟨(undef,undef,undef,undef),dX.none,(zZ zr),zt,j⟩
    ·rintro D U w hD af al ⟨⟨ag,ah,ai,aj⟩,hv,ha,_,j⟩
     obtain⟨O,rfl⟩:=(ac (hv.at 0 rfl (af.1 rfl)) az).dT
     refine RL.aO 8 j zr mo cP ?_
     exact RL.nil ⟨rfl,(ag,ah,ai,aj),hv.pu 1,ha.u,zt,j⟩
    ·rintro D U w hD af al ⟨⟨ag,ah,ai,aj⟩,hv,ha,_,j⟩
     obtain⟨O,rfl⟩:=(ac (hv.at 2 rfl (af.1 rfl)) az).dT
     refine RL.aO 4 j zr nG cP ?_
     exact RL.nil ⟨rfl,(ag,ah,ai,aj),hv.pu 3,ha.u,zt,j⟩
    ·rintro D U w hD af al ⟨⟨ag,ah,ai,aj⟩,hv,ha,_,j⟩
     obtain⟨O,rfl⟩:=(ac (hv.at 5 rfl (af.1 rfl)) (ac (ha.at 2 rfl) az)).dT
     refine RL.gs true (decide (ad.cZ<=ab.To)) (vp au 3) zr zr zr (dZ sG) ?_
     exact RL.nil ⟨rfl,(ag,ah,ai,aj),hv.pu 6,ha.u,zt,j⟩
    ·rintro D U w hD af al ⟨⟨ag,ah,ai,aj⟩,hv,ha,_,j⟩
     obtain⟨O,rfl⟩:=(ac (hv.at 5 rfl (af.2.1 rfl)) (ac (hv.at 6 rfl (af.1 rfl)) az)).dT
     refine RL.gs true (decide (ad.cZ<=ab.To)) (vi ab.cZ) rfl rfl rfl (cD 4 rfl j (fun h=>by exact(cY h:cv (true&&((decide (ad.cZ<=ab.To))==true)) (vp au 3)= (vp au 3))) rfl mo cP) ?_
     exact RL.nil ⟨rfl,(ag,ah,ai,aj),hv.pu 7,ha.u,zt,j⟩
    ·rintro D U w hD af al ⟨⟨ag,ah,ai,aj⟩,hv,ha,_,j⟩
     obtain⟨O,rfl⟩:=(ac (hv.at 5 rfl (af.1 rfl)) (ac (ha.at 1 rfl) az)).dT
     refine RL.gs true (decide (ad.cZ<=ab.To)) (vp an 4) zr zr zr (dZ uM) ?_
     exact RL.nil ⟨rfl,(ag,ah,ai,aj),hv.pu 8,ha.u,zt,j⟩
    ·rintro D U w hD af al ⟨⟨ag,ah,ai,aj⟩,hv,ha,_,j⟩
     obtain⟨O,rfl⟩:=(ac (hv.at 5 rfl (af.2.1 rfl)) (ac (hv.at 8 rfl (af.1 rfl)) az)).dT
     refine RL.gs true (decide (ad.cZ<=ab.To)) (vi ad.To) rfl rfl rfl (cD 8 rfl j (fun h=>by exact(cY h:cv (true&&((decide (ad.cZ<=ab.To))==true)) (vp an 4)= (vp an 4))) rfl nG cP) ?_
     exact RL.nil ⟨rfl,(ag,ah,ai,aj),hv.pu 9,ha.u,zt,j⟩
    ·rintro D U w hD af al ⟨⟨ag,ah,ai,aj⟩,hv,ha,_,j⟩
     obtain⟨O,rfl⟩:=(ac (hv.at 5 rfl (af.2.2.1 rfl)) (ac (hv.at 7 rfl (af.1 rfl)) (ac (hv.at 9 rfl (af.2.1 rfl)) az))).dT
     refine RL.gs true (decide (ad.cZ<=ab.To)) (vb (decide (ab.cZ<=ad.To))) rfl rfl rfl (eG .leq .i64 ab.cZ ad.To rfl (fun h=>by exact(cY h:cv (true&&((decide (ad.cZ<=ab.To))==true)) (vi ab.cZ)= (vi ab.cZ))) (fun h=>by exact(cY h:cv (true&&((decide (ad.cZ<=ab.To))==true)) (vi ad.To)= (vi ad.To))) rfl) ?_
     exact RL.nil ⟨rfl,(ag,ah,ai,aj),hv.pu 10,ha.u,zt,j⟩
    ·rintro D U w hD af al ⟨⟨ag,ah,ai,aj⟩,hv,ha,_,j⟩
     obtain⟨O,rfl⟩:=(ac (hv.at 5 rfl (af.1 rfl)) (ac (hv.at 10 rfl (af.2.1 rfl)) az)).dT
     refine RL.pick (decide (ad.cZ<=ab.To)) (vb ((decide (ad.cZ<=ab.To))&&(decide (ab.cZ<=ad.To)))) (iX true) ?_
     exact RL.nil ⟨rfl,(ag,ah,ai,aj),hv.pu 11,ha.u,zt,j⟩
    ·rintro D U w hD af al ⟨⟨ag,ah,ai,aj⟩,hv,ha,_,j⟩
     obtain⟨O,rfl⟩:=(ac (hv.at 12 rfl (af.1 rfl)) (ac (ha.at 1 rfl) az)).dT
     have j:=j.bM 0 hD
     refine RL.aR (hg:=(cg ar)) (f:=(fun x=>x)) 8 j zr Fd.self ot fun ch j=>?_
     have j:=(j.pl 12 [0,2,3,4,5,6,7,8,9,10,11]).bS 0 true rfl aU
     exact RL.nil ⟨rfl,(ch,ah,ai,aj),hv.pu 13,ha.u,zt,j⟩
    ·rintro D U w hD af al ⟨⟨ag,ah,ai,aj⟩,hv,ha,_,j⟩
     obtain⟨O,rfl⟩:=(ac (hv.at 12 rfl (af.2.1 rfl)) (ac (hv.at 13 rfl (af.1 rfl)) az)).dT
     have j:=(j.bR 0 (af.1 rfl)).bM 1 hD
     refine RL.call (cg ar) zr CZ [ag] zr (aF (gH N (i0:=0) j zr cb) ?_)
     rintro cj w j
     have j:=((j.pl 12 [1,0,3,4,5,6,7,8,9,10,11]).bS 0 (D 13) (af.1 rfl) aU).bS 1 true rfl aU
     exact RL.nil ⟨rfl,(ag,cj,ai,aj),hv.pu 14,ha.u,zt,j⟩
    ·rintro D U w hD af al ⟨⟨ag,ah,ai,aj⟩,hv,ha,_,j⟩
     obtain⟨O,rfl⟩:=(ac (hv.at 12 rfl (af.1 rfl)) (ac (ha.at 2 rfl) az)).dT
     have j:=j.bM 2 hD
     refine RL.aR (hg:=(cg ar)) (f:=(fun x=>x)) 4 j zr Fd.self ot fun ck j=>?_
     have j:=(j.pl 12 [1,2,0,4,5,6,7,8,9,10,11]).bS 2 true rfl aU
     exact RL.nil ⟨rfl,(ag,ah,ck,aj),hv.pu 15,ha.u,zt,j⟩
    ·rintro D U w hD af al ⟨⟨ag,ah,ai,aj⟩,hv,ha,_,j⟩
     obtain⟨O,rfl⟩:=(ac (hv.at 12 rfl (af.2.2.1 rfl)) (ac (hv.at 15 rfl (af.1 rfl)) az)).dT
     have j:=(j.bR 2 (af.1 rfl)).bM 3 hD
     refine RL.call (cg ar) zr CZ [ai] zr (aF (gH N (i0:=2) j zr cd) ?_)
     rintro cl w j
     have j:=((j.pl 12 [1,2,3,0,5,6,7,8,9,10,11]).bS 2 (D 15) (af.1 rfl) aU).bS 3 true rfl aU
     exact RL.nil ⟨rfl,(ag,ah,ai,cl),hv.pu 16,ha.u,zt,j⟩
    ·rintro D U w hD af al ⟨⟨ag,ah,ai,aj⟩,hv,ha,_,j⟩
     obtain⟨O,rfl⟩:=(ac (hv.at 12 rfl (af.2.2.2.1 rfl)) (ac (hv.at 14 rfl (af.1 rfl)) (ac (hv.at 16 rfl (af.2.1 rfl)) az))).dT
     have j:=(j.bR 1 (af.1 rfl)).bR 3 (af.2.1 rfl)
     refine RL.call (cg ar) zr Jz [ah,aj] zr (aF (yV N (i0:=1) (i1:=3) j zr zr cf) ?_)
     rintro _ w ⟨rfl,j⟩
     have j:=(j.bS 1 (D 14) (af.1 rfl) aU).bS 3 (D 16) (af.2.1 rfl) aU
     exact RL.nil ⟨rfl,(ag,ah,ai,aj),hv.pu 17,ha.u,zt,j⟩
    rintro D U w a6 ⟨⟨ag,ah,ai,aj⟩,hv,ha,_,j⟩
    have j:=(((j.bR 0 (gR a6 13)).bR 1 (gR a6 14)).bR 2 (gR a6 15)).bR 3 (gR a6 16)
    obtain⟨O,rfl⟩:=(ac (hv.at 19 rfl (gR a6 19)) (ac (ha.at 0 rfl) (ac (ha.at 1 rfl) (ac (ha.at 2 rfl) (ac (ha.at 3 rfl) (ac (ha.at 4 rfl) (ac (ha.at 5 rfl) (ac (ha.at 6 rfl) (ac (ha.at 7 rfl) (ac (ha.at 8 rfl) az)))))))))).dT
    obtain rfl:=oi hj
    exact⟨rfl,j.sp 11 [7,8,9,10]⟩
   rintro _ w ⟨O,rfl,j⟩
   refine aG (fy o (fun hc o=>?_) fun hc o=>?_)
   rotate_left
   ·refine RC.skip (bQ (aG (RC.region (RL.inc hk hm (mv (vi ((a5+1:Nat):Int)) (RL.nil ?_))))))
    obtain rfl:=oi o
    exact⟨rfl,j.sp 4 [0,1,2,3]⟩
   refine RC.sr (aM (.pointer none) (aM (vi 12) (RL.nt (RC.rb (cF ?_)))))
   obtain rfl:=oi o
   exact⟨rfl,lM ⟨rfl,j.drop 4⟩⟩
  ·intro r U w e hK
   subst e
   refine mn (cF ?_)
   obtain rfl:=oi o
   exact⟨rfl,hK⟩
  rintro bo _ w rfl ⟨O,rfl,j⟩
  rw [Fo.fW] at o
  refine bQ (aG (RC.region (RL.inc hk hm (mv (vi ((ax+1:Nat):Int)) (RL.nil ?_)))))
  obtain rfl:=oi o
  exact⟨rfl,j.sp 4 [0,2]⟩
 ·intro r U w e hK
  subst e
  refine cF ?_
  obtain rfl:=oi o
  exact hK
 rintro bn _ w rfl ⟨O,rfl,j⟩
 rw [Fo.fW] at o
 refine aG (RC.sr (RL.aR (f:=(fun x=>x)) 0 j zr Fd.self tD fun cm j=>?_))
 obtain⟨cs,hcs,hv224,j⟩:=j.Fz (i:=0) rfl rfl
 obtain⟨bf,bg,bh,bj,rfl⟩:=I0 hcs
 have j:=(((j.jq (i:=0) (k:=0) (f:=fun x=>x.aN) rfl o5 rfl rfl rfl).jq (i:=1) (k:=1) (f:=fun x=>x.dH) rfl wk rfl rfl rfl).jq (i:=2) (k:=2) (f:=fun x=>x.aL) rfl qD rfl rfl rfl).jq (i:=3) (k:=3) (f:=fun x=>x.bD) rfl qE rfl rfl rfl
 refine RL.GJ (zs:=[(.slice none 0 0),(.slice none 0 0),(.slice none 0 0),(.slice none 0 0),(.slice none 0 0),(.slice none 0 0),(.slice none 0 0),(.slice none 0 0),(.slice none 0 0),(.slice none 0 0),(.slice none 0 0),(.slice none 0 0)]) (cs:=[bf,bg,bh,bj,(.slice none 0 0),(.slice none 0 0),(.slice none 0 0),(.slice none 0 0),(.slice none 0 0),(.slice none 0 0),(.slice none 0 0),(.slice none 0 0)]) zt zr [(0,cm)] [(0,[bf,bg,bh,bj])] zr JA ⟨rfl,(congrArg Value.cells hv224),zt⟩ zr (RL.B2 (cs:=[bf,bg,bh,bj,(.slice none 0 0),(.slice none 0 0),(.slice none 0 0),(.slice none 0 0),(.slice none 0 0),(.slice none 0 0),(.slice none 0 0),(.slice none 0 0)]) zt zr j zr (zG.all (⟨(vP 3 j zr),(vP 2 j zr),(vP 1 j zr),(vP 0 j zr),zr,zr,zr,zr,zr,zr,zr,zr,zt⟩:zG [bf,bg,bh,bj,(.slice none 0 0),(.slice none 0 0),(.slice none 0 0),(.slice none 0 0),(.slice none 0 0),(.slice none 0 0),(.slice none 0 0),(.slice none 0 0)])) fun a1 w j=>?_)
 refine aM (vp a1 0) (RL.nq (RC.sr (mv (vp a1 0) ?_)))
 have j:=((((((j.cV (List aA) 100).cV aH 113).pull 0).pull 2).dup 6 rfl).dup 9 rfl).pull 6
 obtain⟨cn,cp,o⟩:=bd o
 refine RL.call zt zr JK [(vp a1 0)] zr (aF (ql N j cp) ?_)
 rintro _ w ⟨cq,cr,rfl,j⟩
 refine RL.not cn.1 (RL.nt (fy o (fun hc o=>?_) fun hc o=>?_))
 ·refine RC.sr (aM (.pointer none) (aM (vi 2) (RL.nt (RC.rt ?_))))
  obtain rfl:=oi o
  exact lM ⟨rfl,j.drop 14⟩
 refine RC.sx (mv (vp a1 0) ?_)
 have j:=(((((j.freeze 2).cV (List Int) 63).pull 0).dup 4 rfl).dup 10 rfl).pull 4
 obtain⟨dc,ct,o⟩:=bd o
 refine RL.call zt zr JN [(vp a1 0)] zr (aF (qm N j ct) ?_)
 rintro _ w ⟨cu,rfl,j⟩
 refine RL.ns (mv (vp a1 0) ?_)
 have j:=((((((((((((j.freeze 1).cV Int 3).cV Int 3).cV Int 3).cV bE 38).pull 0).pull 2).pull 4).pull 6).dup 9 rfl).dup 14 rfl).dup 19 rfl).dup 21 rfl
 have j:=j.pull 12
 obtain⟨dd,cw,o⟩:=bd o
 refine RL.call zt zr JT [(vp a1 0)] zr (aF (mO N j cw) ?_)
 rintro _ w ⟨cx,cy,cz,c0,c1,rfl,j⟩
 refine RL.ns (mv (vp a1 0) (aM (vp a1 0) (aM (vi 0) (RL.nt (RC.ret ?_)))))
 obtain rfl:=oi o
 exact lM ⟨a1,bf,bg,bh,bj,cq,cr,cu,cx,cy,cz,c0,c1,zr,j.pk 27 [0,22,21,20,19,14,15,11,1,2,3,4,5]⟩
theorem kY {p0: (List dL)} {p1:fX} {p2:dL->fX->Option Int} {res:Int×Bool} (o:Holds E w V) (h0:V[i0]? =some (rd v0 p0)) (h1:V[i1]? =some (rd v1 p1)) (h2:Gx bH E V v2 p2 (fun(r:Int)=>Value.int .i64 r)) (hb:eL N p0 p1 p2=some res):
    Calls bH 31 [v0,v1,v2].toArray w (gI (iD E V res)):=by
 unfold eL at hb
 refine enter Tryz.func31 zr zr ?_
 have o:=(o.dup (i0+0) h0).dup (i1+1) h1
 refine RC.sr (RL.cR 0 v1 o zr fun ae w o=>?_)
 refine aM (vi 0) (aM (vb false) (RL.ns (mv v0 (RL.bK 2 p0 o D3 (aM (vi p0.length) (RL.ns (mv (vi p0.length) (aM (vi 0) ?_))))))))
 refine aM (vi p0.length) (RL.nq ?_)
 obtain⟨av,hN,hb⟩:=bd hb
 refine RC.iter (fun(j:Int×Int)=>SH E V [(0,v0),(2,v2),(4,vp ae 0),(8,vi p0.length),(9,vi j.1),(10,vi j.2)] [rd v0 p0,bx 29 ae p1]) (fun(j:Int×Int)=>SH E V [(0,v0),(2,v2),(4,vp ae 0),(8,vi p0.length),(9,vi j.1)] [rd v0 p0,bx 29 ae p1]) (fun(r:Empty) _ _=>r.elim) hN ?_ ?_ ?_ ?_
 ·exact o.sp 3 [2,0]
 ·rintro j fl _ w ⟨O,rfl,o⟩ hb
  refine RC.seq (RC.sr (mv (vi j.1) (mv (vi j.2) (ic j.1 j.2 (RL.nt (fy hb (fun hc hb=>?_) fun hc hb=>?_))))))
  rotate_left
  ·refine RC.ex ?_
   obtain rfl:=oi hb
   exact⟨rfl,o.sp 2 [0,1]⟩
  refine RC.sn (RC.bs (mv (vi j.1) (mv (vi j.2) (RL.jo j.1 j.2 (RL.conv (IntKind.wrap .i64 (j.1+j.2)) zr zr ⟨_,Be⟩ Cg (RL.bin (v:=(.int .u64 (IntKind.wrap .u64 (IntKind.wrap .i64 (j.1+j.2))))) (v':=(.int .u64 1)) (u:=(.int .u64 (Int.fdiv (IntKind.wrap .u64 (IntKind.wrap .i64 (j.1+j.2))) 2))) zt zr zr zr (fun _=>zr) (fun _=>zr) (RL.conv (Int.fdiv (IntKind.wrap .u64 (IntKind.wrap .i64 (j.1+j.2))) 2) zr zr ⟨_,Cg⟩ Be (aM (vi (IntKind.wrap .i64 (Int.fdiv (IntKind.wrap .u64 (IntKind.wrap .i64 (j.1+j.2))) 2))) ?_))))))))
  refine RL.nq (RC.yF mixed [0,0,0,0,0,0,2,0] [0,1,2,3,4,5,6,7] ?_)
  have o:=o.drew
  refine DP.e0 zr (mv v2 (cT zr (mv v0 (cT zr (mv (vi (IntKind.wrap .i64 (Int.fdiv (IntKind.wrap .u64 (IntKind.wrap .i64 (j.1+j.2))) 2))) (cT zr ?_))))))
  obtain⟨ak,al,hb⟩:=bd hb
  refine RL.cG 0 o D4 al fun ax o=>(cT zr (RL.bU 0 ak o wu fun ay o=>(cT zr (RL.aR (f:=(fun x=>x)) 3 o zr Fd.self oj fun az o=>(vF zr ?_)))))
  obtain⟨an,ao,hb⟩:=bd hb
  refine RL.A4 1 0 zt zr o zr h2 5 zr zr zr zr zr ao fun w o=>(B8 zr (ic an 0 (DP.d0 (DP.z (aG ?_)))))
  obtain⟨af,hj,hb⟩:=bd hb
  refine RC.jn (fun(af:Int×Int)=>SH E V [(0,v0),(2,v2),(4,vp ae 0),(8,vi p0.length),(9,vi af.1),(10,vi af.2)] [rd v0 p0,bx 29 ae p1]) af ?_ ?_
  ·refine fy hj (fun hc hj=>?_) fun hc hj=>?_
   rotate_left
   ·refine RC.region (mv (vi (IntKind.wrap .i64 (Int.fdiv (IntKind.wrap .u64 (IntKind.wrap .i64 (j.1+j.2))) 2))) (aM (vi (IntKind.wrap .i64 (Int.fdiv (IntKind.wrap .u64 (IntKind.wrap .i64 (j.1+j.2))) 2))) (RL.nil ?_)))
    obtain rfl:=oi hj
    exact⟨rfl,o.sp 5 [3,4]⟩
   refine RC.region (mv (vi (IntKind.wrap .i64 (Int.fdiv (IntKind.wrap .u64 (IntKind.wrap .i64 (j.1+j.2))) 2))) (RL.jo (IntKind.wrap .i64 (Int.fdiv (IntKind.wrap .u64 (IntKind.wrap .i64 (j.1+j.2))) 2)) 1 (aM (vi (IntKind.wrap .i64 ((IntKind.wrap .i64 (Int.fdiv (IntKind.wrap .u64 (IntKind.wrap .i64 (j.1+j.2))) 2))+1))) (RL.nil ?_))))
   obtain rfl:=oi hj
   exact⟨rfl,o.sp 5 [3,4]⟩
  rintro _ w ⟨O,rfl,o⟩
  refine bQ ?_
  obtain rfl:=oi hb
  exact⟨rfl,o.sp 2 [0,1]⟩
 ·intro r _ _ _ _
  exact r.elim
 rintro j _ w rfl ⟨O,rfl,o⟩
 rw [Fo.fW] at hb
 refine aG (RC.seq ?_)
 obtain⟨ah,hj,hb⟩:=bd hb
 refine RC.jn (fun(ah:Bool)=>SH E V [(6,vi j.1),(7,vb ah)] []) ah ?_ ?_
 ·refine RC.yF mixed [1,0,0,0,0,0,0,0,0,0,0,2,0,0,0,0] [0,1,2,3,4,5,6,7,8,9,10,11,12,13,14,15] ?_
  have o:=o.drew
  refine DP.e1 (vi j.1) zr (fun w=>RL.move (vi j.1) zt DP.d1) (DP.e0 zr (mv (vi j.1) (cT zr (mv (vi p0.length) (cT zr (ic j.1 ((p0.length:Int)) (cT zr (mv (vb (decide (j.1< (p0.length:Int)))) ?_))))))))
  refine DP.d0 (gv hj (fun ab hj=>?_) fun ab hj=>?_)
  rotate_left
  ·refine DP.e0 zr (cA ab (cT zr (cA ab (cT zr (cA ab (cT zr (cA ab (cT zr ?_))))))))
   refine cA ab (cT zr (cA ab (vF zr (cA ab (B8 zr (cA ab (cT zr (gw ab (vb false) ?_))))))))
   refine cT zr (aM (vi j.1) (cT zr (aM (vb false) (DP.d0 (DP.z ?_)))))
   obtain rfl:=oi hj
   exact⟨rfl,o.sp 2 []⟩
  refine DP.e0 zr (RL.move v2 (cg ab) (cT zr (RL.move v0 (cg ab) (cT zr (RL.move (vi j.1) (cg ab) (cT zr ?_))))))
  obtain⟨aq,ar,hj⟩:=bd hj
  refine RL.cG (hg:=(cg ab)) 0 o D4 ar fun a0 o=>(cT zr (RL.bU (hg:=(cg ab)) 0 aq o wu fun a1 o=>(cT zr (RL.aR (hg:=(cg ab)) (f:=(fun x=>x)) 3 o zr Fd.self oj fun a2 o=>(vF zr ?_)))))
  obtain⟨ai,au,hj⟩:=bd hj
  refine RL.A4 1 0 (cg ab) zr o zr h2 5 zr zr zr zr zr au fun w o=>(B8 zr (RL.kz ai 0 (cg ab) (cT zr (gw ab (vb (ai==0)) (cT zr (aM (vi j.1) (cT zr (aM (vb (ai==0)) ?_))))))))
  refine DP.d0 (DP.z ?_)
  obtain rfl:=oi hj
  exact⟨rfl,o.sp 5 []⟩
 rintro _ w ⟨O,rfl,o⟩
 refine aG (RC.ret ?_)
 obtain rfl:=oi hb
 exact lM ⟨rfl,o.drop 0⟩
theorem rX {p0:dL} {p1:fX} (j:Holds E w V) (h0:V[i0]? =some (rd v0 p0)) (h1:V[i1]? =some (rd v1 p1)) (o:gE N p0 p1=some res):
    Calls bH 32 [v0,v1].toArray w (gI (aT E V res)):=by
 unfold gE at o
 refine enter Tryz.func32 zr zr ?_
 have j:=(j.dup (i0+0) h0).dup (i1+1) h1
 refine RC.sr (RL.cR 1 v0 j zr fun ah w j=>?_)
 have j:=j.gm (i:=0) rfl
 refine RL.cR 1 v1 j zr fun ai w j=>?_
 have j:=j.gm (i:=0) rfl
 refine aM (vi 0) (RL.nq (RC.yF mixed [0,2,1,2,0] [0,2,1,3,4] ?_))
 have j:=j.drew
 refine DP.e0 zr (RL.bU 1 p0 j wu fun aa j=>(DP.d0 (DP.wj p1 1 zr j oj fun ab a35 aj j=>(DP.e2 zr ?_))))
 obtain⟨ak,ad,o⟩:=bd o
 refine RL.call zt zr FD [aa] zr (aF (lq N (i0:=2) j zr ad) ?_)
 rintro ae w j
 refine DP.d2 (⟨zt,j.kV 1⟩) (DP.e2 zr ?_)
 obtain⟨af,ag,o⟩:=bd o
 refine RL.call zt zr HS [ae,ab] zr (aF (l5 N (i0:=0) (i1:=2) j zr zr ag) ?_)
 rintro _ w ⟨rfl,j⟩
 refine DP.d2 (⟨zt,j.kV 1⟩) (DP.e0 zr (aM (vi af) (DP.d0 ?_)))
 have j:=j.pl 8 [0,2,3,4,5,6,7]
 refine DP.z (aG (RC.ret ?_))
 obtain rfl:=oi o
 exact cH ⟨rfl,j.drop 7⟩
theorem kM {p0:iW} {p1:fX} (o:Holds E w V) (h0:V[i0]? =some (rd v0 p0)) (h1:V[i1]? =some (rd v1 p1)) (hb:gL N p0 p1=some res):
    Calls bH 15 [v0,v1].toArray w (gI (aT E V res)):=by
 unfold gL at hb
 refine enter Tryz.func15 zr zr ?_
 have o:=(o.dup (i0+0) h0).dup (i1+1) h1
 refine RC.sr (RL.cR 1 v0 o zr fun ai w o=>?_)
 refine RL.cR 1 v1 o zr fun aj w o=>?_
 refine aM (vi 0) (RL.ns (RL.bF zr uN (RL.aR 1 o zr qE C0 fun ad o=>(RL.aR (f:=(fun x=>x)) 1 o zr Fd.self oj fun ae o=>?_))))
 obtain⟨aa,af,hb⟩:=bd hb
 refine RL.call trivial rfl JW [ad,ae,(.func (.func 32) #[] #[])] rfl (aF (kY N (i0:=1) (i1:=0) o rfl rfl ⟨32,[],rfl,JV,fun w Γl v v' y0 y1 r i j o hi hj hr=>by exact aF (rX N (i0:=i) (i1:=j) o hi hj hr) fun _ _ h=>h⟩ af) ?_)
 rintro _ w ⟨rfl,o⟩
 refine mv (.tuple #[(vi aa.1),(vb aa.2)]) (RL.extract (vi aa.1) (RL.extract (vb aa.2) (aM (vi aa.1) (aM (vb aa.2) (RL.nq (RC.sr (mv (vb aa.2) (RL.not aa.2 ?_))))))))
 refine RL.nt (fy hb (fun hc hb=>?_) fun hc hb=>?_)
 ·refine RC.sr (aM (vi (-1)) (RL.nt (RC.rt ?_)))
  obtain rfl:=oi hb
  exact cH ⟨rfl,o.drop 6⟩
 refine RC.sx (mv (vi aa.1) (aM (vi aa.1) (RL.nt (RC.ret ?_))))
 obtain rfl:=oi hb
 exact cH ⟨rfl,o.drop 6⟩
end Go.Gk
