/-
  Printed texts: Go functions as plain functions, and that they are. No statement of the seed is proved here.
-/
import Derived.Test.YtgjiokjfpghfgacGreatDoorG1
import Derived.Test.YtgjiokjfpghfgacGreatDoorG2
import Derived.Test.YtgjiokjfpghfgacGreatDoorG3
import Derived.Test.YtgjiokjfpghfgacGreatDoorA2
set_option linter.unusedVariables false
set_option linter.unusedSimpArgs false
set_option linter.unusedSectionVars false
set_option maxRecDepth 100000
set_option maxHeartbeats 4000000
namespace Go.Gk
open Go Go.Proofs
variable (N:Nat) {E w:World} {b0 b2 b2h b3 i0 i1:Nat} {p0 p1 p2:Int} {v0 v0_0 v0_1 v0_10 v0_11 v0_2 v0_3 v0_4 v0_5 v0_6 v0_8 v0_9 v1 v2h_0 v2h_1 v2h_10 v2h_11 v2h_2 v2h_3 v2h_4 v2h_5 v2h_6 v2h_7 v2h_8 v2h_9 v3_0:Value} {V:List HP}
def mF (E:World) (V:List HP) (b0:Nat) (v0_0 v0_1:Value) (v0_2 v0_3:Value) (v0_4 v0_5 v0_6:Value) (res: (List cL)×(List Int)×(List Int)×(List Int)×(List dO)) (v:Value) (w:World):Prop:=∃u0_7 u0_8 u0_9 u0_10 u0_11:Value,v = .tuple #[]/\Holds E w ([bc 69 b0 [v0_0,v0_1,v0_2,v0_3,v0_4,v0_5,v0_6,u0_7,u0_8,u0_9,u0_10,u0_11],own 73 u0_7 res.1,rd u0_8 res.2.1,rd u0_9 res.2.2.1,own 3 u0_10 res.2.2.2.1,own 38 u0_11 res.2.2.2.2]++V)
theorem mo {p0_2: (List bU)} {p0_3: (List cV)} {p0_5: (List aH)} {p0_6: (List (List Int))} {p0_8: (List Int)} {p0_9: (List Int)} {p0_10: (List Int)} {p0_11: (List dO)} {res: (List cL)×(List Int)×(List Int)×(List Int)×(List dO)} (hw:Holds E w (bc 69 b0 [v0_0,v0_1,v0_2,v0_3,v0_4,v0_5,v0_6,(.slice none 0 0),v0_8,v0_9,v0_10,v0_11]::rd v0_2 p0_2::rd v0_3 p0_3::rd v0_5 p0_5::rd v0_6 p0_6::own 3 v0_8 p0_8::own 3 v0_9 p0_9::own 3 v0_10 p0_10::own 38 v0_11 p0_11::V)) (hb:eK N p0_2 p0_3 p0_5 p0_6 p0_8 p0_9 p0_10 p0_11=some res):
    Calls bF 20 [(vp b0 0)].toArray w (gT (mF E V b0 v0_0 v0_1 v0_2 v0_3 v0_4 v0_5 v0_6 res)):=by
 unfold eK at hb
 refine enter Tryz.func20 zr zr (RC.sr (mv (vp b0 0) (RL.nilCheck zr (RL.aZ zr mE (RL.aU 0 v0_5 hw vq (RL.bE 3 p0_5 hw z8 (aP (vi p0_5.length) (RL.ns ?_))))))))
 refine mv (vi p0_5.length) (mv (vp b0 0) (RL.nilCheck zr (RL.aZ zr mD (RL.aZ zr lV (RL.aU 0 v0_2 hw uz (RL.bE 1 p0_2 hw wg (RL.jo (p0_5.length:Int) (p0_2.length:Int) ?_)))))))
 obtain⟨e6,ds,hb⟩:=bd hb
 refine RL.call zt zr HK [(vi (IntKind.wrap .i64 ((p0_5.length:Int)+ (p0_2.length:Int))))] zr (aF (mL N (p0:=(IntKind.wrap .i64 ((p0_5.length:Int)+ (p0_2.length:Int)))) hw ds) ?_)
 rintro _ w ⟨a9,dt,rfl,hw⟩
 refine aP (vp a9 0) (RL.nq (RC.sr (mv (vp b0 0) (RL.nilCheck zr (RL.aZ zr yK (RL.aU 2 v0_6 hw Fp (RL.bE 6 p0_6 hw Fq (mv (vi 0) ?_))))))))
 refine RL.nt ?_
 obtain⟨bz,hN,hb⟩:=bd hb
 refine RC.fold (fun(bj:Nat) (bz: (List Int)) U w=>∃c5:Value,SH E V [(0,vp b0 0),(2,vi p0_5.length),(3,vp a9 0),(35,v0_6),(36,vi p0_6.length),(37,vi bj)] [bc 69 b0 [v0_0,v0_1,v0_2,v0_3,v0_4,v0_5,v0_6,(.slice none 0 0),v0_8,v0_9,v0_10,v0_11],rd v0_2 p0_2,rd v0_3 p0_3,rd v0_5 p0_5,rd v0_6 p0_6,own 3 v0_8 p0_8,own 3 v0_9 p0_9,own 3 v0_10 p0_10,own 38 v0_11 p0_11,bc 117 a9 [c5],own 3 c5 bz] U w) (fun(bz: (List Int)) U w=>∃ca:Value,SH E V [(0,vp b0 0),(2,vi p0_5.length),(3,vp a9 0)] [bc 69 b0 [v0_0,v0_1,v0_2,v0_3,v0_4,v0_5,v0_6,(.slice none 0 0),v0_8,v0_9,v0_10,v0_11],rd v0_2 p0_2,rd v0_3 p0_3,rd v0_5 p0_5,rd v0_6 p0_6,own 3 v0_8 p0_8,own 3 v0_9 p0_9,own 3 v0_10 p0_10,own 38 v0_11 p0_11,bc 117 a9 [ca],own 3 ca bz] U w) hN ?_ ?_ ?_ ?_
 ·exact⟨dt,hw.sp 11 [2,3,4,5,6,7,8,9,10,0,1]⟩
 ·rintro hm bz _ w ⟨du,O,rfl,hw⟩
  refine RC.sr (ic ((p0_6.length:Int)) ((p0_6.length:Int)) (RL.nq (RC.cT mc (RC.ex ?_))))
  exact⟨rfl,du,hw.sp 11 [0,1,2,3,4,5,6,7,8,9,10]⟩
 ·rintro hm bj bz s' _ w hk ⟨dv,O,rfl,hw⟩ hb
  refine RC.sr (ic ((bj:Int)) ((p0_6.length:Int)) (RL.nq (RC.cS (mb hk) (RC.ss (RC.bs (mv (vi bj) ?_))))))
  obtain⟨bt,dw,hb⟩:=bd hb
  refine RL.cB 4 hw A8 dw fun e7 hw=>(RL.bP 0 bt hw eU fun cb hw=>(aP (vi bj) (aP cb (RL.ns (mv cb (RL.bE 0 bt hw lx (mv (vi 0) (RL.nt ?_))))))))
  obtain⟨b4,hN,hb⟩:=bd hb
  refine RC.fold (fun(cf:Nat) (b4: (List Int)) U w=>∃c6:Value,SH E V [(0,vp b0 0),(2,vi p0_5.length),(3,vp a9 0),(4,vi bj),(35,v0_6),(36,vi p0_6.length),(37,vi bj),(42,cb),(43,vi bt.length),(44,vi cf)] [bc 69 b0 [v0_0,v0_1,v0_2,v0_3,v0_4,v0_5,v0_6,(.slice none 0 0),v0_8,v0_9,v0_10,v0_11],rd v0_2 p0_2,rd v0_3 p0_3,rd v0_5 p0_5,rd v0_6 p0_6,own 3 v0_8 p0_8,own 3 v0_9 p0_9,own 3 v0_10 p0_10,own 38 v0_11 p0_11,bc 117 a9 [c6],own 3 c6 b4,rd cb bt] U w) (fun(b4: (List Int)) U w=>∃cg:Value,SH E V [(0,vp b0 0),(2,vi p0_5.length),(3,vp a9 0),(35,v0_6),(36,vi p0_6.length),(37,vi bj)] [bc 69 b0 [v0_0,v0_1,v0_2,v0_3,v0_4,v0_5,v0_6,(.slice none 0 0),v0_8,v0_9,v0_10,v0_11],rd v0_2 p0_2,rd v0_3 p0_3,rd v0_5 p0_5,rd v0_6 p0_6,own 3 v0_8 p0_8,own 3 v0_9 p0_9,own 3 v0_10 p0_10,own 38 v0_11 p0_11,bc 117 a9 [cg],own 3 cg b4,rd cb bt] U w) hN ?_ ?_ ?_ ?_
  ·exact⟨dv,hw.sp 13 [2,3,4,5,6,7,8,9,10,11,12,0]⟩
  ·rintro hm b4 _ w ⟨dx,O,rfl,hw⟩
   refine RC.sr (ic ((bt.length:Int)) ((bt.length:Int)) (RL.nq (RC.cT mc (RC.ex ?_))))
   exact⟨rfl,dx,hw.sp 12 [0,1,2,3,4,5,6,7,8,9,10,11]⟩
  ·rintro hm cf b4 s' _ w hk ⟨e8,O,rfl,hw⟩ hb
   refine RC.sr (ic ((cf:Int)) ((bt.length:Int)) (RL.nq (RC.cS (mb hk) (RC.ss (RC.bs ?_)))))
   obtain⟨cc,dy,hb⟩:=bd hb
   refine RL.cB 11 hw eE dy fun e9 hw=>(RL.bG cc 0 hw cG (aP (vi cc) (RL.nt (RC.region (mv (vp a9 0) (mv (vi cc) (mv (vi p0_5.length) (mv (vi bj) ?_))))))))
   refine RL.jo (p0_5.length:Int) (bj:Int) ?_
   have hw:=(hw.pull 11).pull 11
   obtain⟨fa,dz,hb⟩:=bd hb
   refine RL.call zt zr HL [(vp a9 0),(vi cc),(vi (IntKind.wrap .i64 ((p0_5.length:Int)+ (bj:Int))))] zr (aF (lP N (p1:=cc) (p2:=(IntKind.wrap .i64 ((p0_5.length:Int)+ (bj:Int)))) hw dz) ?_)
   rintro _ w ⟨d3,rfl,hw⟩
   refine RL.nil (bT (aG (RC.region (RL.inc hk hm (mv (vi ((cf+1:Nat):Int)) (RL.nil ?_))))))
   obtain rfl:=oi hb
   exact⟨rfl,d3,hw.sp 15 [3,4,5,6,7,8,9,10,11,0,1,14]⟩
  rintro _ w ⟨cg,O,rfl,hw⟩
  refine bT (aG (RC.region (RL.inc hk hm (mv (vi ((bj+1:Nat):Int)) (RL.nil ?_)))))
  obtain rfl:=oi hb
  exact⟨rfl,cg,hw.sp 12 [0,1,2,3,4,5,6,7,8,9,10]⟩
 rintro _ w ⟨ca,O,rfl,hw⟩
 refine aG (RC.seq ?_)
 obtain⟨d4,d5,hb⟩:=bd hb
 obtain⟨d6,d7,hb⟩:=bd hb
 refine RC.DA E V mixed [1,1,1,0,1,1,1,1,0,0,0,1,1,0,1,1,0] [3,10,13,16] (fun(x:Value×Value)=>(fun al an=>[(0,56,(vp b0 0)),(1,57,(vp b0 0)),(2,58,(vi p0_5.length)),(3,59,al),(4,60,(vp b0 0)),(5,61,(vp b0 0)),(6,62,(vp b0 0)),(7,63,(vp b0 2)),(8,64,v0_2),(9,65,(vi p0_2.length)),(10,66,an),(11,67,(vp b0 0)),(12,68,(vp b0 8)),(14,69,(vp b0 0)),(15,70,(vp b0 9))]) x.1 x.2) [(0,vp b0 0),(2,vi p0_5.length),(3,vp a9 0)] [] (fun(D:Nat->Bool) (x:Value×Value)=>(fun al an=>[bif D 0 then (own 3 al d4) else aY,bif D 1 then (own 3 an d6) else aY,bif D 3 then (bc 69 b0 [v0_0,v0_1,v0_2,v0_3,v0_4,v0_5,v0_6,(.slice none 0 0),al,an,v0_10,v0_11]) else (bif D 2 then (bc 69 b0 [v0_0,v0_1,v0_2,v0_3,v0_4,v0_5,v0_6,(.slice none 0 0),al,v0_9,v0_10,v0_11]) else (bc 69 b0 [v0_0,v0_1,v0_2,v0_3,v0_4,v0_5,v0_6,(.slice none 0 0),v0_8,v0_9,v0_10,v0_11])),rd v0_2 p0_2,rd v0_3 p0_3,rd v0_5 p0_5,rd v0_6 p0_6,own 3 v0_8 p0_8,own 3 v0_9 p0_9,own 3 v0_10 p0_10,own 38 v0_11 p0_11,bc 117 a9 [ca],own 3 ca bz]) x.1 x.2) (fun x=>by kernel_rfl) ?_ ⟨fun _=>jF gn,fun _=>jF gn,fun _=>jF gn,?_,fun _=>jF gn,fun _=>xh gn,fun _=>nb gn mD,fun _=>nb gn lV,?_,?_,?_,fun _=>xh gn,fun _=>nb gn uC,?_,fun _=>xh gn,fun _=>nb gn wj,?_,trivial⟩ ?_
 ·have hw:=((hw.drew).aY).aY
  exact⟨(undef,undef),eC.none,(Cq zr),zt,hw⟩
 ·rintro D U w hD af ad ⟨⟨al,an⟩,hv,ha,_,hw⟩
  obtain⟨O,rfl⟩:=(ac (hv.at 2 rfl (af.1 rfl)) az).fC
  have hw:=((hw.bX 0 hD).bX 2 (nh ad hD 16)).bX 2 (nh ad hD 13)
  refine RL.mk (p0_5.length:Int) hw tp GY d5 fun cv w hw=>?_
  have hw:=(((hw.pl 14 [0,2,3,4,5,6,7,8,9,10,11,12,13]).cO 0 true aY).eR 2 (D 13) (nh ad hD 13) (bc 69 b0 [v0_0,v0_1,v0_2,v0_3,v0_4,v0_5,v0_6,(.slice none 0 0),cv,v0_9,v0_10,v0_11])).eR 2 (D 16) (nh ad hD 16) (bc 69 b0 [v0_0,v0_1,v0_2,v0_3,v0_4,v0_5,v0_6,(.slice none 0 0),cv,an,v0_10,v0_11])
  exact RL.nil ⟨rfl,(cv,an),hv.pu 3,ha.u,zt,hw⟩
 ·rintro D U w hD af ad ⟨⟨al,an⟩,hv,ha,_,hw⟩
  obtain⟨O,rfl⟩:=(ac (hv.at 7 rfl (af.1 rfl)) az).fC
  have hw:=(hw.bX 2 (nh ad hD 16)).bX 2 (nh ad hD 13)
  refine RL.aU 2 v0_2 hw uz ?_
  have hw:=(hw.eR 2 (D 13) (nh ad hD 13) (bc 69 b0 [v0_0,v0_1,v0_2,v0_3,v0_4,v0_5,v0_6,(.slice none 0 0),al,v0_9,v0_10,v0_11])).eR 2 (D 16) (nh ad hD 16) (bc 69 b0 [v0_0,v0_1,v0_2,v0_3,v0_4,v0_5,v0_6,(.slice none 0 0),al,an,v0_10,v0_11])
  exact RL.nil ⟨rfl,(al,an),hv.pu 8,ha.u,zt,hw⟩
 ·rintro D U w hD af ad ⟨⟨al,an⟩,hv,ha,_,hw⟩
  obtain⟨O,rfl⟩:=(ac (hv.at 8 rfl (af.1 rfl)) az).fC
  refine RL.bE 3 p0_2 hw wg ?_
  exact RL.nil ⟨rfl,(al,an),hv.pu 9,ha.u,zt,hw⟩
 ·rintro D U w hD af ad ⟨⟨al,an⟩,hv,ha,_,hw⟩
  obtain⟨O,rfl⟩:=(ac (hv.at 9 rfl (af.1 rfl)) az).fC
  have hw:=(hw.bX 1 hD).bX 2 (nh ad hD 16)
  refine RL.mk (p0_2.length:Int) hw tp GY d7 fun c7 w hw=>?_
  have hw:=((hw.pl 14 [1,0,3,4,5,6,7,8,9,10,11,12,13]).cO 1 true aY).eR 2 (D 16) (nh ad hD 16) (bc 69 b0 [v0_0,v0_1,v0_2,v0_3,v0_4,v0_5,v0_6,(.slice none 0 0),al,c7,v0_10,v0_11])
  exact RL.nil ⟨rfl,(al,c7),hv.pu 10,ha.u,zt,hw⟩
 ·rintro D U w hD af ad ⟨⟨al,an⟩,hv,ha,_,hw⟩
  obtain⟨O,rfl⟩:=(ac (hv.at 3 rfl (af.2.1 rfl)) (ac (hv.at 12 rfl (af.1 rfl)) az)).fC
  have hw:=((hw.cN 0 (af.2.1 rfl)).bX 2 (nh ad hD 16)).bX 2 hD
  refine RL.gz 2 al hw zr zr (gZ 0 hw) eU fun w hw=>?_
  have hw:=((hw.cO (hb:=af.2.1 rfl) 0 (D 3) aY).cO 2 true (bc 69 b0 [v0_0,v0_1,v0_2,v0_3,v0_4,v0_5,v0_6,(.slice none 0 0),v0_8,v0_9,v0_10,v0_11])).eR 2 (D 16) (nh ad hD 16) (bc 69 b0 [v0_0,v0_1,v0_2,v0_3,v0_4,v0_5,v0_6,(.slice none 0 0),al,an,v0_10,v0_11])
  exact RL.nil ⟨rfl,(al,an),hv.n1,ha,zt,hw⟩
 ·rintro D U w hD af ad ⟨⟨al,an⟩,hv,ha,_,hw⟩
  obtain⟨O,rfl⟩:=(ac (hv.at 10 rfl (af.2.1 rfl)) (ac (hv.at 14 rfl (af.1 rfl)) az)).fC
  have hw:=((hw.cN 1 (af.2.1 rfl)).bX 2 hD).cN 2 (af.2.2.1 rfl)
  refine RL.gz 2 an hw zr zr (gZ 1 hw) eU fun w hw=>?_
  have hw:=(hw.cO (hb:=af.2.1 rfl) 1 (D 10) aY).cO 2 true (bif D 13 then (bc 69 b0 [v0_0,v0_1,v0_2,v0_3,v0_4,v0_5,v0_6,(.slice none 0 0),al,v0_9,v0_10,v0_11]) else (bc 69 b0 [v0_0,v0_1,v0_2,v0_3,v0_4,v0_5,v0_6,(.slice none 0 0),v0_8,v0_9,v0_10,v0_11]))
  exact RL.nil ⟨rfl,(al,an),hv.n1,ha,zt,hw⟩
 rintro D U w a7 ⟨⟨al,an⟩,hv,ha,_,hw⟩
 have hw:=((hw.cN 0 (jS a7 3)).cN 1 (jS a7 10)).cN 2 (jS a7 16)
 obtain⟨O,rfl⟩:=(ac (ha.at 0 rfl) (ac (ha.at 1 rfl) (ac (ha.at 2 rfl) az))).fC
 refine aG (RC.seq (RC.sr (mv (vp a9 0) ?_)))
 have hw:=(hw.pull 12).pull 12
 obtain⟨a8,d8,hb⟩:=bd hb
 refine RL.call zt zr Jr [(vp a9 0)] zr (aF (pO N hw d8) ?_)
 rintro bk w ⟨_,fb,rfl,hw⟩
 refine RL.fA 0 a8.1 hw Fq (mv (vi 0) (RL.nt ?_))
 obtain⟨a5,hN,hb⟩:=bd hb
 refine RC.fold (fun(bo:Nat) (a5: (List cL)×(List Int)×(List Int)) U w=>∃(c8:Value) (us442:List bZ),SH E V [(0,vp b0 0),(2,vi p0_5.length),(72,bk),(73,vi a8.1.length),(74,vi bo)] [bc 69 b0 [v0_0,v0_1,v0_2,v0_3,v0_4,v0_5,v0_6,c8,al,an,v0_10,v0_11],own 73 c8 us442,iC bS us442 a5.1 none,rd v0_2 p0_2,rd v0_3 p0_3,rd v0_5 p0_5,rd v0_6 p0_6,own 3 al a5.2.1,own 3 an a5.2.2,own 3 v0_10 p0_10,own 38 v0_11 p0_11,own 46 bk a8.1] U w) (fun(a5: (List cL)×(List Int)×(List Int)) U w=>∃(aj:Value) (us444:List bZ),SH E V [(0,vp b0 0)] [bc 69 b0 [v0_0,v0_1,v0_2,v0_3,v0_4,v0_5,v0_6,aj,al,an,v0_10,v0_11],own 73 aj us444,iC bS us444 a5.1 none,rd v0_2 p0_2,rd v0_3 p0_3,rd v0_5 p0_5,rd v0_6 p0_6,own 3 al a5.2.1,own 3 an a5.2.2,own 3 v0_10 p0_10,own 38 v0_11 p0_11,own 46 bk a8.1] U w) hN ?_ ?_ ?_ ?_
 ·have hw:=(hw.yr bS).dB bZ 73
  exact⟨(.slice none 0 0),([]:List bZ),hw.sp 18 [7,0,1,8,9,10,11,5,6,14,15,2]⟩
 ·rintro hm a5 _ w ⟨d9,us604,O,rfl,hw⟩
  refine RC.sr (ic ((a8.1.length:Int)) ((a8.1.length:Int)) (RL.nq (RC.cT mc (RC.ex ?_))))
  exact⟨rfl,d9,us604,hw.sp 12 [0,1,2,3,4,5,6,7,8,9,10,11]⟩
 ·rintro hm bo a5 s' _ w hk ⟨bg,us446,O,rfl,hw⟩ hb
  refine RC.sr (ic ((bo:Int)) ((a8.1.length:Int)) (RL.nq (RC.cS (mb hk) (RC.ss (RC.bs ?_)))))
  obtain⟨bm,cw,hb⟩:=bd hb
  refine RL.bV 11 hw zr zr A8 cw (RL.jR (f:=(fun x=>x)) 11 hw (jQ 11 hw cw 0) (bB cw).2.1 Fd.self eU fun bp hw=>?_)
  refine aP bp (RL.ns (RL.oE hw Js fun bu w hw=>?_))
  refine RL.nq (RC.sr (mv bp (RL.bE 1 bm hw lx (mv (vi 0) (RL.nt ?_)))))
  obtain⟨ar,hN,hb⟩:=bd hb
  refine RC.fold (fun(b5:Nat) (ar: (List Int)×(List Int)×(List Int)×(List Int)) U w=>∃c9 da:Value,SH E V [(0,vp b0 0),(2,vi p0_5.length),(10,vp bu 0),(72,bk),(73,vi a8.1.length),(74,vi bo),(78,bp),(79,vi bm.length),(80,vi b5)] [bc 69 b0 [v0_0,v0_1,v0_2,v0_3,v0_4,v0_5,v0_6,bg,al,an,v0_10,v0_11],rd v0_2 p0_2,rd v0_3 p0_3,rd v0_5 p0_5,rd v0_6 p0_6,own 73 bg us446,iC bS us446 a5.1 none,own 3 al ar.1,own 3 an ar.2.1,own 3 v0_10 p0_10,own 38 v0_11 p0_11,bc 73 bu [c9,da,(.slice none 0 0)],own 3 c9 ar.2.2.1,own 3 da ar.2.2.2,own 46 bk a8.1,rd bp bm] U w) (fun(ar: (List Int)×(List Int)×(List Int)×(List Int)) U w=>∃bw bq:Value,SH E V [(0,vp b0 0),(2,vi p0_5.length),(10,vp bu 0),(72,bk),(73,vi a8.1.length),(74,vi bo)] [bc 69 b0 [v0_0,v0_1,v0_2,v0_3,v0_4,v0_5,v0_6,bg,al,an,v0_10,v0_11],rd v0_2 p0_2,rd v0_3 p0_3,rd v0_5 p0_5,rd v0_6 p0_6,own 73 bg us446,iC bS us446 a5.1 none,own 3 al ar.1,own 3 an ar.2.1,own 3 v0_10 p0_10,own 38 v0_11 p0_11,bc 73 bu [bw,bq,(.slice none 0 0)],own 3 bw ar.2.2.1,own 3 bq ar.2.2.2,own 46 bk a8.1,rd bp bm] U w) hN ?_ ?_ ?_ ?_
  ·have hw:=(hw.dB Int 3).dB Int 3
   exact⟨(.slice none 0 0),(.slice none 0 0),hw.sp 16 [4,7,8,9,10,5,6,11,12,13,14,2,1,0,15,3]⟩
  ·rintro hm ar _ w ⟨ea,eb,O,rfl,hw⟩
   refine RC.sr (ic ((bm.length:Int)) ((bm.length:Int)) (RL.nq (RC.cT mc (RC.ex ?_))))
   exact⟨rfl,ea,eb,hw.sp 16 [0,1,2,3,4,5,6,7,8,9,10,11,12,13,14,15]⟩
  ·rintro hm b5 ar s' _ w hk ⟨ch,cx,O,rfl,hw⟩ hb
   refine RC.sr (ic ((b5:Int)) ((bm.length:Int)) (RL.nq (RC.cS (mb hk) (RC.ss (RC.bs ?_)))))
   obtain⟨a2,ec,hb⟩:=bd hb
   refine RL.cB 15 hw eE ec fun fc hw=>(RL.bG a2 0 hw cG (aP (vi a2) (RL.nt (RC.bs (mv (vi a2) (mv (vi p0_5.length) (ic a2 ((p0_5.length:Int)) (aP (vb (decide (a2< (p0_5.length:Int)))) ?_))))))))
   refine RL.nt ?_
   obtain⟨b6,hj,hb⟩:=bd hb
   refine RC.jn (fun(b6: (List Int)×(List Int)×(List Int)×(List Int)) U w=>∃cj ck:Value,SH E V [(0,vp b0 0),(2,vi p0_5.length),(10,vp bu 0),(72,bk),(73,vi a8.1.length),(74,vi bo),(78,bp),(79,vi bm.length),(80,vi b5)] [bc 69 b0 [v0_0,v0_1,v0_2,v0_3,v0_4,v0_5,v0_6,bg,al,an,v0_10,v0_11],rd v0_2 p0_2,rd v0_3 p0_3,rd v0_5 p0_5,rd v0_6 p0_6,own 73 bg us446,iC bS us446 a5.1 none,own 3 al b6.1,own 3 an b6.2.1,own 3 v0_10 p0_10,own 38 v0_11 p0_11,bc 73 bu [cj,ck,(.slice none 0 0)],own 3 cj b6.2.2.1,own 3 ck b6.2.2.2,own 46 bk a8.1,rd bp bm] U w) b6 ?_ ?_
   ·refine fH hj (fun hc hj=>?_) fun hc hj=>?_
    ·refine RC.seq (RC.yC mixed [0,0,0,0,0,0,0,0,0,0,0,2] [0,1,2,3,4,5,6,7,8,9,10,11] ?_)
     have hw:=hw.drew
     refine DP.e0 zr (mv (vp b0 0) (cE zr (RL.nilCheck zr (cE zr (RL.aZ zr uC (cE zr (RL.aU 1 al hw eU (cE zr ?_))))))))
     refine mv (vi a2) (cE zr (mv (vp b0 0) (cE zr (RL.nilCheck zr (cE zr (RL.aZ zr sf (cE zr (RL.aU 1 bg hw A9 ?_))))))))
     refine cE zr (RL.pX 6 7 a5.1 zr hw zr zr zr HM (cE zr ?_))
     obtain⟨fe,cy,hj⟩:=bd hj
     refine RL.bV 8 hw zr zr eE cy (vX zr ?_)
     have hw:=hw.sc Int (a5.1.length:Int)
     refine RL.ga (f:=(fun _ y=>y)) 9 0 hw (jQ 9 hw cy 0) (bB cy).2.1 zr Fs.self cG fun w hw=>?_
     refine DP.d2 zt (DP.z (aG (RC.region (RL.aZ zr Ba (RL.aU 13 ch hw eU (mv (vi a2) ?_))))))
     have hw:=hw.sc Int a2
     refine RL.eP ([a2]: (List Int)) hw [(vi a2)] eE DO (fun M hs g=>⟨(g.sat 0 _ zr).1,zt⟩) fun ff w hw=>?_
     have hw:=hw.freeze 0
     obtain⟨fg,ed,hj⟩:=bd hj
     refine RL.app 16 0 hw tp ed fun db w hw=>?_
     refine RL.aZ zr Ba (RL.gz 15 db hw zr zr (gZ 16 hw) eU fun w hw=>?_)
     refine RL.nil ?_
     obtain rfl:=oi hj
     exact⟨rfl,db,cx,hw.sp 20 [4,5,6,7,8,9,10,11,12,13,14,15,16,17,18,19]⟩
    refine RC.sr (mv (vp b0 0) (RL.nilCheck zr (RL.aZ zr mD (RL.aZ zr lV (RL.aU 1 v0_2 hw uz (mv (vi a2) (mv (vi p0_5.length) (RL.jo a2 (p0_5.length:Int) ?_))))))))
    obtain⟨dc,ee,hj⟩:=bd hj
    refine RL.cB 2 hw yF ee fun fh hw=>(RL.ig 0 hw zr yH qU fun fi hw=>(RL.bG dc.gA 0 hw xU (aP (vb dc.gA) (RL.nt ?_))))
    obtain⟨cl,hjj,hj⟩:=bd hj
    refine RC.jn (fun(cl: (List Int)×(List Int)) U w=>∃cm:Value,SH E V [(0,vp b0 0),(2,vi p0_5.length),(10,vp bu 0),(72,bk),(73,vi a8.1.length),(74,vi bo),(78,bp),(79,vi bm.length),(80,vi b5)] [bc 69 b0 [v0_0,v0_1,v0_2,v0_3,v0_4,v0_5,v0_6,bg,al,an,v0_10,v0_11],rd v0_2 p0_2,rd v0_3 p0_3,rd v0_5 p0_5,rd v0_6 p0_6,own 73 bg us446,iC bS us446 a5.1 none,own 3 al ar.1,own 3 an cl.1,own 3 v0_10 p0_10,own 38 v0_11 p0_11,bc 73 bu [ch,cm,(.slice none 0 0)],own 3 cm cl.2,own 3 ch ar.2.2.1,own 46 bk a8.1,rd bp bm] U w) cl ?_ ?_
    ·refine fH hjj (fun hc hjj=>?_) fun hc hjj=>?_
     rotate_left
     ·refine RC.region (mv (vp b0 0) (RL.nilCheck zr (RL.aZ zr wj (RL.aU 3 an hw eU (mv (vi a2) (mv (vi p0_5.length) (RL.jo a2 (p0_5.length:Int) ?_)))))))
      obtain⟨fj,cz,hjj⟩:=bd hjj
      refine RL.bV 11 hw zr zr eE cz ?_
      have hw:=hw.sc Int (-1)
      refine RL.ga (f:=(fun _ y=>y)) 12 0 hw (jQ 12 hw cz 0) (bB cz).2.1 zr Fs.self cG fun w hw=>?_
      refine RL.nil ?_
      obtain rfl:=oi hjj
      exact⟨rfl,cx,hw.sp 20 [4,5,6,7,8,9,10,11,12,13,14,15,17,16,18,19]⟩
     refine RC.seq (RC.yC mixed [0,0,0,0,0,0,0,0,0,0,0,0,0,2] [0,1,2,3,4,5,6,7,8,9,10,11,12,13] ?_)
     have hw:=hw.drew
     refine DP.e0 zr (mv (vp b0 0) (cE zr (RL.nilCheck zr (cE zr (RL.aZ zr wj (cE zr (RL.aU 3 an hw eU (cE zr ?_))))))))
     refine mv (vi a2) (cE zr (mv (vi p0_5.length) (cE zr (RL.jo a2 (p0_5.length:Int) (cE zr (mv (vp b0 0) (cE zr (RL.nilCheck zr ?_))))))))
     refine cE zr (RL.aZ zr sf (cE zr (RL.aU 3 bg hw A9 (cE zr (RL.pX 8 9 a5.1 zr hw zr zr zr HM (cE zr ?_))))))
     obtain⟨fk,c0,hjj⟩:=bd hjj
     refine RL.bV 11 hw zr zr eE c0 (vX zr ?_)
     have hw:=hw.sc Int (a5.1.length:Int)
     refine RL.ga (f:=(fun _ y=>y)) 12 0 hw (jQ 12 hw c0 0) (bB c0).2.1 zr Fs.self cG fun w hw=>?_
     refine DP.d2 zt (DP.z (aG (RC.region (RL.aZ zr Bb (RL.aU 15 cx hw eU (mv (vi a2) (mv (vi p0_5.length) (RL.jo a2 (p0_5.length:Int) ?_))))))))
     have hw:=hw.sc Int (IntKind.wrap .i64 (a2 - (p0_5.length:Int)))
     refine RL.eP ([(IntKind.wrap .i64 (a2 - (p0_5.length:Int)))]: (List Int)) hw [(vi (IntKind.wrap .i64 (a2 - (p0_5.length:Int))))] eE DO (fun M hs g=>⟨(g.sat 0 _ zr).1,zt⟩) fun fl w hw=>?_
     have hw:=hw.freeze 0
     obtain⟨fm,ef,hjj⟩:=bd hjj
     refine RL.app 19 0 hw tp ef fun dd w hw=>?_
     refine RL.aZ zr Bb (RL.gz 17 dd hw zr zr (gZ 19 hw) eU fun w hw=>?_)
     refine RL.nil ?_
     obtain rfl:=oi hjj
     exact⟨rfl,dd,hw.sp 22 [6,7,8,9,10,11,12,13,14,15,16,17,19,18,20,21]⟩
    rintro _ w ⟨cm,O,rfl,hw⟩
    obtain rfl:=oi hj
    exact⟨rfl,ch,cm,hw.sp 16 [0,1,2,3,4,5,6,7,8,9,10,11,13,12,14,15]⟩
   rintro _ w ⟨cj,ck,O,rfl,hw⟩
   refine bT (bT (aG (RC.region (RL.inc hk hm (mv (vi ((b5+1:Nat):Int)) (RL.nil ?_))))))
   obtain rfl:=oi hb
   exact⟨rfl,cj,ck,hw.sp 16 [0,1,2,3,4,5,6,7,8,9,10,11,12,13,14,15]⟩
  rintro _ w ⟨bw,bq,O,rfl,hw⟩
  refine aG (RC.sr (RL.aZ zr Ba (RL.aU 11 bw hw eU (RL.fA 12 ar.2.2.1 hw lx (RL.aZ zr Bb (RL.aU 11 bq hw eU (RL.fA 13 ar.2.2.2 hw lx (RL.jo (ar.2.2.1.length:Int) (ar.2.2.2.length:Int) ?_))))))))
  refine ic ((IntKind.wrap .i64 ((ar.2.2.1.length:Int)+ (ar.2.2.2.length:Int)))) 0 (RL.nt ?_)
  obtain⟨c1,hj,hb⟩:=bd hb
  refine RC.jn (fun(c1: (List cL)) U w=>∃(cn:Value) (us598:List bZ),SH E V [(0,vp b0 0),(2,vi p0_5.length),(72,bk),(73,vi a8.1.length),(74,vi bo)] [bc 69 b0 [v0_0,v0_1,v0_2,v0_3,v0_4,v0_5,v0_6,cn,al,an,v0_10,v0_11],own 73 cn us598,iC bS us598 c1 none,rd v0_2 p0_2,rd v0_3 p0_3,rd v0_5 p0_5,rd v0_6 p0_6,own 3 al ar.1,own 3 an ar.2.1,own 3 v0_10 p0_10,own 38 v0_11 p0_11,own 46 bk a8.1] U w) c1 ?_ ?_
  ·refine fH hj (fun hc hj=>?_) fun hc hj=>?_
   rotate_left
   ·refine RC.skip ?_
    obtain rfl:=oi hj
    exact⟨rfl,bg,us446,hw.sp 16 [0,5,6,1,2,3,4,7,8,9,10,14]⟩
   have hw:=hw.drew
   refine RC.DE (fun w=>Holds E w ([bc 69 b0 [v0_0,v0_1,v0_2,v0_3,v0_4,v0_5,v0_6,bg,al,an,v0_10,v0_11]]++V)) mixed zr [1,1,1,1,1,0,2,2,0,0,2] [0,1,2,3,4,5,6,7,8,9,10] (hw.pk 16 [0]) (DP.e1 (vp b0 0) zr (fun w=>RL.move (vp b0 0) zt DP.d1) (DP.e1 (vp b0 0) zr (fun w=>RL.move (vp b0 0) zt DP.d1) (DP.e1 (vp b0 0) zr (fun w=>RL.nilCheck zr DP.d1) (DP.e1 (vp b0 7) zr (fun w=>RL.aZ zr sf DP.d1) (DP.Gr bg zr (fun w hw=>RL.aU 0 bg hw A9 DP.d1) (DP.e0 zr (RL.Dw (i:=11) (cs:=[bw,bq,(.slice none 0 0)]) zt zr hw zr zr Jt zr (vX zr ?_))))))))
   have hw:=((((hw.dB fD 29).BO (i:=0) rfl).freeze 14).freeze 15).Ds (cs:=[bw,bq,(.slice none 0 0)]) (x:=(⟨ar.2.2.1,ar.2.2.2,(rv (.slice none 0 0))⟩:bZ)) (fun M hs g=>⟨[bw],[bq,(.slice none 0 0)],rfl,(pW (g.sat 14 _ rfl).1),⟨[bq],[(.slice none 0 0)],rfl,(pW (g.sat 15 _ rfl).1),(pW (g.sat 0 _ rfl).1)⟩⟩) rfl
   refine RL.eP ([(⟨ar.2.2.1,ar.2.2.2,(rv (.slice none 0 0))⟩:bZ)]:List bZ) hw [(.agg ([bw,bq,(.slice none 0 0)]:List Value).toArray)] Ft Ju (fun M hs g=>⟨(g.sat 0 _ zr).1,zt⟩) fun fo w hw=>(DP.d2 (hw.pk 20 [4]) (DP.e2 zr ?_))
   obtain⟨fp,eg,hj⟩:=bd hj
   have hw:=hw.freeze 0
   refine RL.Cm (i:=9) (j:=0) (b:=10) (o:=3) (X:=bS) (ur:=(⟨ar.2.2.1,ar.2.2.2,(rv (.slice none 0 0))⟩:bZ)) (xr:=(⟨ar.2.2.1,ar.2.2.2,([]: (List fD))⟩:cL)) (u:=(.slice none 0 0)) (y:=([]: (List fD))) (fun _ _ ho=>⟨⟨rfl,rfl⟩,ho⟩) trivial rfl hw rfl rfl rfl rfl rfl rfl (by decide) (by decide) (by decide) Jv eg fun de w hw=>?_
   refine DP.d2 (hw.pk 20 [4]) (DP.e0 zr (RL.nilCheck zr (cE zr (RL.aZ zr sf (DP.d0 (DP.Ki zr zr (RL.gz 4 de hw zr zr (gZ 9 hw) A9 fun w hw=>?_)))))))
   refine DP.d2 zt (DP.z ?_)
   obtain rfl:=oi hj
   exact⟨rfl,de,(us446++[(⟨ar.2.2.1,ar.2.2.2,(rv (.slice none 0 0))⟩:bZ)]),hw.sp 20 [4,9,10,5,6,7,8,11,12,13,14,18]⟩
  rintro _ w ⟨cn,us598,O,rfl,hw⟩
  refine bT (aG (RC.region (RL.inc hk hm (mv (vi ((bo+1:Nat):Int)) (RL.nil ?_)))))
  obtain rfl:=oi hb
  exact⟨rfl,cn,us598,hw.sp 12 [0,1,2,3,4,5,6,7,8,9,10,11]⟩
 rintro _ w ⟨aj,us444,O,rfl,hw⟩
 refine aG (RC.sr (mv (vp b0 0) (RL.nilCheck zr (RL.aZ zr mD (RL.aZ zr uB (RL.aU 0 v0_3 hw CD (RL.bE 4 p0_3 hw DR (mv (vi 0) ?_))))))))
 refine RL.nt ?_
 obtain⟨ai,hN,hb⟩:=bd hb
 refine RC.fold (fun(b2:Nat) (ai: (List cL)×(List Int)×(List Int)×(List Int)×(List dO)) U w=>∃(df dg:Value) (dh di:Value) (us819:List bZ),SH E V [(0,vp b0 0),(170,v0_3),(171,vi p0_3.length),(172,vi b2)] [bc 69 b0 [v0_0,v0_1,v0_2,v0_3,v0_4,v0_5,v0_6,aj,df,dg,dh,di],rd df ai.2.1,rd dg ai.2.2.1,own 3 dh ai.2.2.2.1,own 38 di ai.2.2.2.2,rd v0_2 p0_2,rd v0_3 p0_3,rd v0_5 p0_5,rd v0_6 p0_6,own 73 aj us819,iC bS us819 ai.1 none] U w) (fun(ai: (List cL)×(List Int)×(List Int)×(List Int)×(List dO)) U w=>∃(cp cq:Value) (cr ct:Value) (us824:List bZ),SH E V [(0,vp b0 0)] [bc 69 b0 [v0_0,v0_1,v0_2,v0_3,v0_4,v0_5,v0_6,aj,cp,cq,cr,ct],rd cp ai.2.1,rd cq ai.2.2.1,own 3 cr ai.2.2.2.1,own 38 ct ai.2.2.2.2,rd v0_2 p0_2,rd v0_3 p0_3,rd v0_5 p0_5,rd v0_6 p0_6,own 73 aj us824,iC bS us824 ai.1 none] U w) hN ?_ ?_ ?_ ?_
 ·have hw:=(hw.freeze 7).freeze 8
  exact⟨al,an,v0_10,v0_11,us444,hw.sp 12 [0,7,8,9,10,3,4,5,6,1,2]⟩
 ·rintro hm ai _ w ⟨eh,ei,ej,ek,us932,O,rfl,hw⟩
  refine RC.sr (ic ((p0_3.length:Int)) ((p0_3.length:Int)) (RL.nq (RC.cT mc (RC.ex ?_))))
  exact⟨rfl,eh,ei,ej,ek,us932,hw.sp 11 [0,1,2,3,4,5,6,7,8,9,10]⟩
 ·rintro hm b2 ai s' _ w hk ⟨a3,a4,bl,a6,us829,O,rfl,hw⟩ hb
  refine RC.sr (ic ((b2:Int)) ((p0_3.length:Int)) (RL.nq (RC.cS (mb hk) (RC.ss (RC.bs ?_)))))
  obtain⟨b7,el,hb⟩:=bd hb
  refine RL.cB 6 hw CE el fun en hw=>(RL.bP 0 b7 hw wi fun eo hw=>(RL.alloc hw Gx.z fun dj w hw=>?_))
  refine RL.bA 0 hw 1 zr wi fun w hw=>?_
  refine RL.ns (mv (vp b0 0) (RL.aX (f:=(fun x=>x)) 0 hw zr Fd.self wi fun dk hw=>?_))
  have hw:=((hw.dup 11 rfl).dup 10 rfl).pull 6
  obtain⟨ba,ep,hb⟩:=bd hb
  refine RL.call zt zr Jx [(vp b0 0),dk] zr (aF (pQ N (i1:=0) hw zr ep) ?_)
  rintro _ w ⟨c2,rfl,hw⟩
  refine mv (.tuple #[c2,(vb ba.2)]) (RL.extract c2 (RL.extract (vb ba.2) (RL.alloc hw Fu.z fun b8 w hw=>?_)))
  refine RL.bA 0 hw 1 zr ql fun w hw=>?_
  refine aP (vb ba.2) (RL.ns (aP (vi (-1)) (RL.nq (RC.sr (mv (vb ba.2) (RL.nt ?_))))))
  obtain⟨bh,hj,hb⟩:=bd hb
  refine RC.jn (fun(bh: (List cL)×Int) U w=>∃(us877:List bZ),SH E V [(0,vp b0 0),(15,vp b8 0),(17,vi bh.2),(170,v0_3),(171,vi p0_3.length),(172,vi b2)] [bc 69 b0 [v0_0,v0_1,v0_2,v0_3,v0_4,v0_5,v0_6,aj,a3,a4,bl,a6],rd v0_2 p0_2,rd v0_3 p0_3,rd v0_5 p0_5,rd v0_6 p0_6,own 73 aj us877,iC bS us877 bh.1 none,rd a3 ai.2.1,rd a4 ai.2.2.1,own 3 bl ai.2.2.2.1,own 38 a6 ai.2.2.2.2,bx 38 b8 ba.1] U w) bh ?_ ?_
  ·refine fH hj (fun hc hj=>?_) fun hc hj=>?_
   rotate_left
   ·refine RC.skip ?_
    obtain rfl:=oi hj
    exact⟨rfl,us829,hw.sp 18 [2,12,13,14,15,16,17,8,9,10,11,0]⟩
   refine RC.sr (mv (vp b0 0) (RL.aX (f:=(fun x=>x)) 0 hw zr Fd.self ql fun dm hw=>?_))
   have hw:=((hw.dup 10 rfl).dup 10 rfl).pull 5
   obtain⟨ah,er,hj⟩:=bd hj
   refine RL.call zt zr Jy [(vp b0 0),dm] zr (aF (ny N (i1:=0) hw zr er) ?_)
   rintro _ w ⟨rfl,hw⟩
   refine aP (vi ah) (RL.nt ?_)
   obtain⟨fq,cd,hj⟩:=bd hj
   obtain⟨b9,et,hj⟩:=bd hj
   obtain⟨br,eu,hj⟩:=bd hj
   obtain⟨b3,cu,hj⟩:=bd hj
   refine RC.DA E V mixed [1,1,1,0,1,1,1,1,0,1,0,0,0,0,0,0,0,0,0,0] [13,14,15,16,19] (fun(x:Value×Value×Value×Value)=>(fun av aw au ak=>[(0,186,(vp b0 0)),(1,187,(vp b0 0)),(2,188,(vp b0 7)),(3,189,aj),(4,190,(vi ah)),(5,191,(vp b0 0)),(6,192,(vp b0 0)),(7,193,(vp b0 7)),(8,194,aj),(9,195,(vi ah)),(10,196,(zj aj (Int.toNat ah) 3 0)),(11,197,(zj aj (Int.toNat ah) 3 2)),(12,198,(us829.getD (Int.toNat ah) (default:bZ)).gC.v),(13,199,av),(14,200,aw),(15,201,au),(16,202,ak),(17,203,(zj aj (Int.toNat ah) 3 0)),(18,204,(zj aj (Int.toNat ah) 3 2))]) x.1 x.2.1 x.2.2.1 x.2.2.2) [(0,vp b0 0),(14,vp dj 0),(15,vp b8 0),(17,vi ah),(170,v0_3),(171,vi p0_3.length),(172,vi b2)] [] (fun(D:Nat->Bool) (x:Value×Value×Value×Value)=>(fun av aw au ak=>[bif D 0 then (rd av b7) else aY,bif D 1 then (rd aw b9) else aY,bif D 3 then (rd au ([b9]: (List fD))) else (bif D 2 then (own 29 au ([b9]: (List fD))) else aY),bif D 4 then aY else (bif D 3 then (own 29 ak br) else aY),bc 69 b0 [v0_0,v0_1,v0_2,v0_3,v0_4,v0_5,v0_6,aj,a3,a4,bl,a6],rd dm ba.1,bx 38 b8 ba.1,rd c2 ba.1,aY,rd dk b7,bx 54 dj b7,rd eo b7,pt en b7,aY,rd a3 ai.2.1,rd a4 ai.2.2.1,own 3 bl ai.2.2.2.1,own 38 a6 ai.2.2.2.2,rd v0_2 p0_2,rd v0_3 p0_3,rd v0_5 p0_5,rd v0_6 p0_6,bif D 4 then (own 73 aj (us829.set (Int.toNat ah) {(us829.getD (Int.toNat ah) (default:bZ)) with gC:=rv ak})) else (own 73 aj us829),bif D 4 then (iC bS (us829.set (Int.toNat ah) {(us829.getD (Int.toNat ah) (default:bZ)) with gC:=rv ak}) (ai.1.set (Int.toNat ah) {b3 with gC:=br}) none) else (bif D 3 then (iC bS us829 ai.1 (some (Int.toNat ah))) else (iC bS us829 ai.1 none))]) x.1 x.2.1 x.2.2.1 x.2.2.2) (fun x=>by kernel_rfl) ?_ ⟨fun _=>jF gn,fun _=>xh gn,fun _=>nb gn sf,?_,fun _=>jF gn,fun _=>jF gn,fun _=>xh gn,fun _=>nb gn sf,?_,fun _=>jF gn,?_,?_,?_,?_,?_,?_,?_,?_,?_,?_,trivial⟩ ?_
   ·have hw:=((((hw.drew).aY).aY).aY).aY
    exact⟨(undef,undef,undef,undef),eC.none,(Cq zr),zt,hw⟩
   ·rintro D U w hD af ad ⟨⟨av,aw,au,ak⟩,hv,ha,_,hw⟩
    obtain⟨O,rfl⟩:=(ac (hv.at 2 rfl (af.1 rfl)) az).fC
    refine RL.aU 4 aj hw A9 ?_
    exact RL.nil ⟨rfl,(av,aw,au,ak),hv.pu 3,ha.u,zt,hw⟩
   ·rintro D U w hD af ad ⟨⟨av,aw,au,ak⟩,hv,ha,_,hw⟩
    obtain⟨O,rfl⟩:=(ac (hv.at 7 rfl (af.1 rfl)) az).fC
    refine RL.aU 4 aj hw A9 ?_
    exact RL.nil ⟨rfl,(av,aw,au,ak),hv.pu 8,ha.u,zt,hw⟩
   ·rintro D U w hD af ad ⟨⟨av,aw,au,ak⟩,hv,ha,_,hw⟩
    obtain⟨O,rfl⟩:=(ac (hv.at 8 rfl (af.1 rfl)) (ac (hv.at 9 rfl (af.2.1 rfl)) az)).fC
    have hw:=((hw.bX 22 (nh ad hD 19)).bX 23 (nh ad hD 19)).bX 23 (nf (fun h=>ft hD ((ad 11 _ rfl ((ad 12 _ rfl ((ad 16 _ rfl h).1 rfl)).1 rfl)).1 rfl)))
    have hl900:=hw.gv 23 rfl
    have hr901:=jr (default:bZ) hl900 cd
    refine RL.bV 22 hw zr zr Ft hr901 ?_
    have hw:=(hw.eR 22 (D 19) (nh ad hD 19) (own 73 aj (us829.set (Int.toNat ah) {(us829.getD (Int.toNat ah) (default:bZ)) with gC:=rv ak}))).eR 23 (D 16) (nf (fun h=>ft hD ((ad 11 _ rfl ((ad 12 _ rfl ((ad 16 _ rfl h).1 rfl)).1 rfl)).1 rfl))) (iC bS us829 ai.1 (some (Int.toNat ah)))
    have hw:=hw.eR 23 (D 19) (nh ad hD 19) (iC bS (us829.set (Int.toNat ah) {(us829.getD (Int.toNat ah) (default:bZ)) with gC:=rv ak}) (ai.1.set (Int.toNat ah) {b3 with gC:=br}) none)
    exact RL.nil ⟨rfl,(av,aw,au,ak),hv.pu 10,ha.u,zt,hw⟩
   ·rintro D U w hD af ad ⟨⟨av,aw,au,ak⟩,hv,ha,_,hw⟩
    obtain⟨O,rfl⟩:=(ac (hv.at 10 rfl (af.1 rfl)) az).fC
    have hw:=((hw.bX 22 (nh ad hD 19)).bX 23 (nh ad hD 19)).bX 23 (nf (fun h=>ft hD ((ad 12 _ rfl ((ad 16 _ rfl h).1 rfl)).1 rfl)))
    have hl902:=hw.gv 23 rfl
    have hr903:=jr (default:bZ) hl902 cd
    refine RL.my (α:=bZ) (jQ 22 hw hr903 0) Be ?_
    have hw:=(hw.eR 22 (D 19) (nh ad hD 19) (own 73 aj (us829.set (Int.toNat ah) {(us829.getD (Int.toNat ah) (default:bZ)) with gC:=rv ak}))).eR 23 (D 16) (nf (fun h=>ft hD ((ad 12 _ rfl ((ad 16 _ rfl h).1 rfl)).1 rfl))) (iC bS us829 ai.1 (some (Int.toNat ah)))
    have hw:=hw.eR 23 (D 19) (nh ad hD 19) (iC bS (us829.set (Int.toNat ah) {(us829.getD (Int.toNat ah) (default:bZ)) with gC:=rv ak}) (ai.1.set (Int.toNat ah) {b3 with gC:=br}) none)
    exact RL.nil ⟨rfl,(av,aw,au,ak),hv.pu 11,ha.u,zt,hw⟩
   ·rintro D U w hD af ad ⟨⟨av,aw,au,ak⟩,hv,ha,_,hw⟩
    obtain⟨O,rfl⟩:=(ac (hv.at 11 rfl (af.1 rfl)) az).fC
    have hw:=((hw.bX 22 (nh ad hD 19)).bX 23 (nh ad hD 19)).bX 23 (nh ad hD 16)
    have hl904:=hw.gv 23 rfl
    have hr905:=jr (default:bZ) hl904 cd
    refine RL.uo 22 23 ah qh (default:bZ) zr hw zr (jQ 22 hw hr905 2) zr zr cd GC ?_
    have hw:=(hw.eR 22 (D 19) (nh ad hD 19) (own 73 aj (us829.set (Int.toNat ah) {(us829.getD (Int.toNat ah) (default:bZ)) with gC:=rv ak}))).eR 23 (D 16) (nh ad hD 16) (iC bS us829 ai.1 (some (Int.toNat ah)))
    have hw:=hw.eR 23 (D 19) (nh ad hD 19) (iC bS (us829.set (Int.toNat ah) {(us829.getD (Int.toNat ah) (default:bZ)) with gC:=rv ak}) (ai.1.set (Int.toNat ah) {b3 with gC:=br}) none)
    exact RL.nil ⟨rfl,(av,aw,au,ak),hv.pu 12,ha.u,zt,hw⟩
   ·rintro D U w hD af ad ⟨⟨av,aw,au,ak⟩,hv,ha,_,hw⟩
    obtain⟨O,rfl⟩:=(ac (ha.at 1 rfl) az).fC
    have hw:=hw.bX 0 hD
    refine RL.aX (f:=(fun x=>x)) 10 hw zr Fd.self wi fun ev hw=>?_
    have hw:=(hw.pl 25 [0,2,3,4,5,6,7,8,9,10,11,12,13,14,15,16,17,18,19,20,21,22,23,24]).cO 0 true aY
    exact RL.nil ⟨rfl,(ev,aw,au,ak),hv.pu 13,ha.u,zt,hw⟩
   ·rintro D U w hD af ad ⟨⟨av,aw,au,ak⟩,hv,ha,_,hw⟩
    obtain⟨O,rfl⟩:=(ac (hv.at 13 rfl (af.1 rfl)) az).fC
    have hw:=(hw.cN 0 (af.1 rfl)).bX 1 hD
    refine RL.call zt zr Fj [av] zr (aF (k6 N (i0:=0) hw zr et) ?_)
    rintro ew w hw
    have hw:=((hw.pl 25 [1,0,3,4,5,6,7,8,9,10,11,12,13,14,15,16,17,18,19,20,21,22,23,24]).cO (hb:=af.1 rfl) 0 (D 13) aY).cO 1 true aY
    exact RL.nil ⟨rfl,(av,ew,au,ak),hv.pu 14,ha.u,zt,hw⟩
   ·rintro D U w hD af ad ⟨⟨av,aw,au,ak⟩,hv,ha,_,hw⟩
    obtain⟨O,rfl⟩:=(ac (hv.at 14 rfl (af.1 rfl)) az).fC
    have hw:=((hw.cN 1 (af.1 rfl)).bX 2 (nh ad hD 16)).bX 2 hD
    refine RL.eP ([b9]: (List fD)) hw [aw] Jz Hu (fun M hs g=>⟨(g.sat 1 _ zr).1,zt⟩) fun dn w hw=>?_
    have hw:=(((hw.pl 25 [1,2,0,4,5,6,7,8,9,10,11,12,13,14,15,16,17,18,19,20,21,22,23,24]).cO (hb:=af.1 rfl) 1 (D 14) aY).cO 2 true aY).eR 2 (D 16) (nh ad hD 16) (rd dn ([b9]: (List fD)))
    exact RL.nil ⟨rfl,(av,aw,dn,ak),hv.pu 15,ha.u,zt,hw⟩
   ·rintro D U w hD af ad ⟨⟨av,aw,au,ak⟩,hv,ha,_,hw⟩
    obtain⟨O,rfl⟩:=(ac (hv.at 12 rfl (af.1 rfl)) (ac (hv.at 15 rfl (af.2.1 rfl)) az)).fC
    have hw:=(((((((hw.bX 2 hD).cN 2 (af.2.1 rfl)).bX 3 (nh ad hD 19)).bX 3 hD).bX 22 (nh ad hD 19)).bX 23 (nh ad hD 19)).bX 23 hD).yt (j:=23) (jj:=ah) qh (default:bZ) rfl cd
    have hw:=hw.freeze 3
    refine RL.app 0 3 hw JA eu fun c3 w hw=>?_
    have hw:=((((hw.pl 25 [1,2,3,0,5,6,7,8,9,10,11,12,13,14,15,16,17,18,19,20,21,22,23,24]).cO 2 true (bif D 15 then (own 29 au ([b9]: (List fD))) else aY)).cO 3 true aY).eR 3 (D 19) (nh ad hD 19) aY).eR 22 (D 19) (nh ad hD 19) (own 73 aj (us829.set (Int.toNat ah) {(us829.getD (Int.toNat ah) (default:bZ)) with gC:=rv c3}))
    have hw:=(hw.cO 23 true (iC bS us829 ai.1 none)).eR 23 (D 19) (nh ad hD 19) (iC bS (us829.set (Int.toNat ah) {(us829.getD (Int.toNat ah) (default:bZ)) with gC:=rv c3}) (ai.1.set (Int.toNat ah) {b3 with gC:=br}) none)
    exact RL.nil ⟨rfl,(av,aw,au,c3),hv.pu 16,ha.u,zt,hw⟩
   ·rintro D U w hD af ad ⟨⟨av,aw,au,ak⟩,hv,ha,_,hw⟩
    obtain⟨O,rfl⟩:=(ac (hv.at 3 rfl (af.1 rfl)) (ac (hv.at 4 rfl (af.2.1 rfl)) az)).fC
    have hw:=hw.bX 22 (nf (fun h=>ft hD ((ad 18 _ rfl ((ad 19 _ rfl h).1 rfl)).1 rfl)))
    have hw:=hw.bX 23 (nf (fun h=>ft hD ((ad 18 _ rfl ((ad 19 _ rfl h).1 rfl)).1 rfl)))
    have hw:=hw.cN 23 (af.2.2.2.2.2.2.2.2.2.2.2.2.2.2.2.2.2.2.1 rfl)
    have hl910:=hw.gv 23 rfl
    have hr911:=jr (default:bZ) hl910 cu
    refine RL.bV 22 hw zr zr Ft hr911 ?_
    have hw:=hw.eR 22 (D 19) (nf (fun h=>ft hD ((ad 18 _ rfl ((ad 19 _ rfl h).1 rfl)).1 rfl))) (own 73 aj (us829.set (Int.toNat ah) {(us829.getD (Int.toNat ah) (default:bZ)) with gC:=rv ak}))
    have hw:=(hw.cO (hb:=af.2.2.2.2.2.2.2.2.2.2.2.2.2.2.2.2.2.2.1 rfl) 23 (D 16) (iC bS us829 ai.1 none)).eR 23 (D 19) (nf (fun h=>ft hD ((ad 18 _ rfl ((ad 19 _ rfl h).1 rfl)).1 rfl))) (iC bS (us829.set (Int.toNat ah) {(us829.getD (Int.toNat ah) (default:bZ)) with gC:=rv ak}) (ai.1.set (Int.toNat ah) {b3 with gC:=br}) none)
    exact RL.nil ⟨rfl,(av,aw,au,ak),hv.pu 17,ha.u,zt,hw⟩
   ·rintro D U w hD af ad ⟨⟨av,aw,au,ak⟩,hv,ha,_,hw⟩
    obtain⟨O,rfl⟩:=(ac (hv.at 17 rfl (af.1 rfl)) az).fC
    have hw:=((hw.bX 22 (nh ad hD 19)).bX 23 (nh ad hD 19)).cN 23 (af.2.2.2.2.2.2.2.2.2.2.2.2.2.2.2.2.2.1 rfl)
    have hl912:=hw.gv 23 rfl
    have hr913:=jr (default:bZ) hl912 cu
    refine RL.my (α:=bZ) (jQ 22 hw hr913 0) Be ?_
    have hw:=(hw.eR 22 (D 19) (nh ad hD 19) (own 73 aj (us829.set (Int.toNat ah) {(us829.getD (Int.toNat ah) (default:bZ)) with gC:=rv ak}))).cO (hb:=af.2.2.2.2.2.2.2.2.2.2.2.2.2.2.2.2.2.1 rfl) 23 (D 16) (iC bS us829 ai.1 none)
    have hw:=hw.eR 23 (D 19) (nh ad hD 19) (iC bS (us829.set (Int.toNat ah) {(us829.getD (Int.toNat ah) (default:bZ)) with gC:=rv ak}) (ai.1.set (Int.toNat ah) {b3 with gC:=br}) none)
    exact RL.nil ⟨rfl,(av,aw,au,ak),hv.pu 18,ha.u,zt,hw⟩
   ·rintro D U w hD af ad ⟨⟨av,aw,au,ak⟩,hv,ha,_,hw⟩
    obtain⟨O,rfl⟩:=(ac (hv.at 16 rfl (af.2.1 rfl)) (ac (hv.at 18 rfl (af.1 rfl)) az)).fC
    have hw:=((((hw.bX 3 hD).cN 3 (af.2.1 rfl)).bX 22 hD).bX 23 hD).cN 23 (af.2.1 rfl)
    have hl914:=hw.gv 23 rfl
    have hr915:=jr (default:bZ) hl914 cu
    refine RL.r7 22 23 3 ah qh (default:bZ) hw zr zr (jQ 22 hw hr915 2) zr zr zr cu GC fun w hw=>?_
    have hw:=((hw.cO 3 true (bif D 16 then (own 29 ak br) else aY)).cO 22 true (own 73 aj us829)).cO 23 true (bif D 16 then (iC bS us829 ai.1 (some (Int.toNat ah))) else (iC bS us829 ai.1 none))
    exact RL.nil ⟨rfl,(av,aw,au,ak),hv.n1,ha,zt,hw⟩
   rintro D U w a7 ⟨⟨av,aw,au,ak⟩,hv,ha,_,hw⟩
   have hw:=(((((hw.cN 0 (jS a7 13)).cN 1 (jS a7 14)).cN 2 (jS a7 16)).cN 3 (jS a7 19)).cN 22 (jS a7 19)).cN 23 (jS a7 19)
   obtain⟨O,rfl⟩:=(ac (ha.at 0 rfl) (ac (ha.at 1 rfl) (ac (ha.at 2 rfl) (ac (ha.at 3 rfl) (ac (ha.at 4 rfl) (ac (ha.at 5 rfl) (ac (ha.at 6 rfl) az))))))).fC
   obtain rfl:=oi hj
   exact⟨rfl,(us829.set (Int.toNat ah) {(us829.getD (Int.toNat ah) (default:bZ)) with gC:=rv ak}),hw.sp 24 [4,18,19,20,21,22,23,14,15,16,17,6]⟩
  rintro _ w ⟨us877,O,rfl,hw⟩
  refine aG ?_
  obtain⟨ey,ez,hb⟩:=bd hb
  obtain⟨e3,e4,hb⟩:=bd hb
  refine RC.DA E V mixed [1,1,1,1,1,0,1,0,0,1,1,1,0,0,0,0,1,1,0,1,1,0] [7,8,13,14,15,18,21] (fun(x:Value×Value×Value×Value×Value)=>(fun ay a1 a0 aq ax=>[(0,205,(vp b0 0)),(1,206,(vp b0 0)),(2,207,(vp b0 0)),(3,208,(vp b0 0)),(4,209,(vp b0 10)),(5,210,bl),(6,211,(vi bh.2)),(7,212,ay),(8,213,aq),(9,214,(vp b0 0)),(10,215,(vp b0 0)),(11,216,(vp b0 11)),(12,217,a6),(13,218,a1),(14,219,a0),(15,220,ax),(16,221,(vp b0 0)),(17,222,(vp b0 10)),(19,223,(vp b0 0)),(20,224,(vp b0 11))]) x.1 x.2.1 x.2.2.1 x.2.2.2.1 x.2.2.2.2) [(0,vp b0 0),(15,vp b8 0),(17,vi bh.2),(170,v0_3),(171,vi p0_3.length),(172,vi b2)] [] (fun(D:Nat->Bool) (x:Value×Value×Value×Value×Value)=>(fun ay a1 a0 aq ax=>[bif D 1 then (rd ay ([bh.2]: (List Int))) else (bif D 0 then (own 3 ay ([bh.2]: (List Int))) else aY),bif D 2 then (rd a1 ba.1) else aY,bif D 4 then (rd a0 ([ba.1]: (List dO))) else (bif D 3 then (own 38 a0 ([ba.1]: (List dO))) else aY),bif D 6 then (bc 69 b0 [v0_0,v0_1,v0_2,v0_3,v0_4,v0_5,v0_6,aj,a3,a4,aq,ax]) else (bif D 5 then (bc 69 b0 [v0_0,v0_1,v0_2,v0_3,v0_4,v0_5,v0_6,aj,a3,a4,aq,a6]) else (bc 69 b0 [v0_0,v0_1,v0_2,v0_3,v0_4,v0_5,v0_6,aj,a3,a4,bl,a6])),rd v0_2 p0_2,rd v0_3 p0_3,rd v0_5 p0_5,rd v0_6 p0_6,own 73 aj us877,iC bS us877 bh.1 none,rd a3 ai.2.1,rd a4 ai.2.2.1,bif D 1 then (own 3 aq ey) else (own 3 bl ai.2.2.2.1),bif D 4 then (own 38 ax e3) else (own 38 a6 ai.2.2.2.2),bx 38 b8 ba.1]) x.1 x.2.1 x.2.2.1 x.2.2.2.1 x.2.2.2.2) (fun x=>by kernel_rfl) ?_ ⟨fun _=>jF gn,fun _=>jF gn,fun _=>jF gn,fun _=>xh gn,fun _=>nb gn Bf,?_,fun _=>jF gn,?_,?_,fun _=>jF gn,fun _=>xh gn,fun _=>nb gn Bg,?_,?_,?_,?_,fun _=>xh gn,fun _=>nb gn Bf,?_,fun _=>xh gn,fun _=>nb gn Bg,?_,trivial⟩ ?_
  ·have hw:=(((hw.drew).aY).aY).aY
   exact⟨(undef,undef,undef,undef,undef),eC.none,(Cq zr),zt,hw⟩
  ·rintro D U w hD af ad ⟨⟨ay,a1,a0,aq,ax⟩,hv,ha,_,hw⟩
   obtain⟨O,rfl⟩:=(ac (hv.at 4 rfl (af.1 rfl)) az).fC
   have hw:=(hw.bX 3 (nh ad hD 21)).bX 3 (nh ad hD 18)
   refine RL.aU 3 bl hw eU ?_
   have hw:=(hw.eR 3 (D 18) (nh ad hD 18) (bc 69 b0 [v0_0,v0_1,v0_2,v0_3,v0_4,v0_5,v0_6,aj,a3,a4,aq,a6])).eR 3 (D 21) (nh ad hD 21) (bc 69 b0 [v0_0,v0_1,v0_2,v0_3,v0_4,v0_5,v0_6,aj,a3,a4,aq,ax])
   exact RL.nil ⟨rfl,(ay,a1,a0,aq,ax),hv.pu 5,ha.u,zt,hw⟩
  ·rintro D U w hD af ad ⟨⟨ay,a1,a0,aq,ax⟩,hv,ha,_,hw⟩
   obtain⟨O,rfl⟩:=(ac (hv.at 6 rfl (af.1 rfl)) az).fC
   have hw:=((hw.bX 0 (nh ad hD 8)).bX 0 hD).sc Int bh.2
   refine RL.eP ([bh.2]: (List Int)) hw [(vi bh.2)] eE DO (fun M hs g=>⟨(g.sat 0 _ zr).1,zt⟩) fun dp w hw=>?_
   have hw:=((hw.pl 17 [0,3,4,5,6,7,8,9,10,11,12,13,14,15,16]).cO 0 true aY).eR 0 (D 8) (nh ad hD 8) (rd dp ([bh.2]: (List Int)))
   exact RL.nil ⟨rfl,(dp,a1,a0,aq,ax),hv.pu 7,ha.u,zt,hw⟩
  ·rintro D U w hD af ad ⟨⟨ay,a1,a0,aq,ax⟩,hv,ha,_,hw⟩
   obtain⟨O,rfl⟩:=(ac (hv.at 5 rfl (af.1 rfl)) (ac (hv.at 7 rfl (af.2.1 rfl)) az)).fC
   have hw:=(((((hw.bX 0 hD).cN 0 (af.2.1 rfl)).bX 3 (nh ad hD 21)).bX 3 (nh ad hD 18)).bX 12 hD).freeze 0
   refine RL.app 12 0 hw tp ez fun c4 w hw=>?_
   have hw:=((hw.cO 0 true (bif D 7 then (own 3 ay ([bh.2]: (List Int))) else aY)).eR 3 (D 18) (nh ad hD 18) (bc 69 b0 [v0_0,v0_1,v0_2,v0_3,v0_4,v0_5,v0_6,aj,a3,a4,c4,a6])).eR 3 (D 21) (nh ad hD 21) (bc 69 b0 [v0_0,v0_1,v0_2,v0_3,v0_4,v0_5,v0_6,aj,a3,a4,c4,ax])
   have hw:=hw.cO 12 true (own 3 bl ai.2.2.2.1)
   exact RL.nil ⟨rfl,(ay,a1,a0,c4,ax),hv.pu 8,ha.u,zt,hw⟩
  ·rintro D U w hD af ad ⟨⟨ay,a1,a0,aq,ax⟩,hv,ha,_,hw⟩
   obtain⟨O,rfl⟩:=(ac (hv.at 11 rfl (af.1 rfl)) az).fC
   have hw:=(hw.bX 3 (nh ad hD 21)).bX 3 (nh ad hD 18)
   refine RL.aU 3 a6 hw GD ?_
   have hw:=(hw.eR 3 (D 18) (nh ad hD 18) (bc 69 b0 [v0_0,v0_1,v0_2,v0_3,v0_4,v0_5,v0_6,aj,a3,a4,aq,a6])).eR 3 (D 21) (nh ad hD 21) (bc 69 b0 [v0_0,v0_1,v0_2,v0_3,v0_4,v0_5,v0_6,aj,a3,a4,aq,ax])
   exact RL.nil ⟨rfl,(ay,a1,a0,aq,ax),hv.pu 12,ha.u,zt,hw⟩
  ·rintro D U w hD af ad ⟨⟨ay,a1,a0,aq,ax⟩,hv,ha,_,hw⟩
   obtain⟨O,rfl⟩:=(ac (ha.at 1 rfl) az).fC
   have hw:=hw.bX 1 hD
   refine RL.aX (f:=(fun x=>x)) 14 hw zr Fd.self ql fun e5 hw=>?_
   have hw:=(hw.pl 16 [1,0,3,4,5,6,7,8,9,10,11,12,13,14,15]).cO 1 true aY
   exact RL.nil ⟨rfl,(ay,e5,a0,aq,ax),hv.pu 13,ha.u,zt,hw⟩
  ·rintro D U w hD af ad ⟨⟨ay,a1,a0,aq,ax⟩,hv,ha,_,hw⟩
   obtain⟨O,rfl⟩:=(ac (hv.at 13 rfl (af.1 rfl)) az).fC
   have hw:=((hw.cN 1 (af.1 rfl)).bX 2 (nh ad hD 15)).bX 2 hD
   refine RL.eP ([ba.1]: (List dO)) hw [a1] HO Fu (fun M hs g=>⟨(g.sat 1 _ zr).1,zt⟩) fun dq w hw=>?_
   have hw:=(((hw.pl 16 [1,2,0,4,5,6,7,8,9,10,11,12,13,14,15]).cO (hb:=af.1 rfl) 1 (D 13) aY).cO 2 true aY).eR 2 (D 15) (nh ad hD 15) (rd dq ([ba.1]: (List dO)))
   exact RL.nil ⟨rfl,(ay,a1,dq,aq,ax),hv.pu 14,ha.u,zt,hw⟩
  ·rintro D U w hD af ad ⟨⟨ay,a1,a0,aq,ax⟩,hv,ha,_,hw⟩
   obtain⟨O,rfl⟩:=(ac (hv.at 12 rfl (af.1 rfl)) (ac (hv.at 14 rfl (af.2.1 rfl)) az)).fC
   have hw:=(((((hw.bX 2 hD).cN 2 (af.2.1 rfl)).bX 3 (nh ad hD 21)).bX 3 (nh ad hD 18)).bX 13 hD).freeze 2
   refine RL.app 13 2 hw JB e4 fun dr w hw=>?_
   have hw:=((hw.cO 2 true (bif D 14 then (own 38 a0 ([ba.1]: (List dO))) else aY)).eR 3 (D 18) (nh ad hD 18) (bc 69 b0 [v0_0,v0_1,v0_2,v0_3,v0_4,v0_5,v0_6,aj,a3,a4,aq,a6])).eR 3 (D 21) (nh ad hD 21) (bc 69 b0 [v0_0,v0_1,v0_2,v0_3,v0_4,v0_5,v0_6,aj,a3,a4,aq,dr])
   have hw:=hw.cO 13 true (own 38 a6 ai.2.2.2.2)
   exact RL.nil ⟨rfl,(ay,a1,a0,aq,dr),hv.pu 15,ha.u,zt,hw⟩
  ·rintro D U w hD af ad ⟨⟨ay,a1,a0,aq,ax⟩,hv,ha,_,hw⟩
   obtain⟨O,rfl⟩:=(ac (hv.at 8 rfl (af.2.1 rfl)) (ac (hv.at 17 rfl (af.1 rfl)) az)).fC
   have hw:=((hw.bX 3 (nh ad hD 21)).bX 3 hD).cN 12 (af.2.1 rfl)
   refine RL.gz 3 aq hw zr zr (gZ 12 hw) eU fun w hw=>?_
   have hw:=((hw.cO 3 true (bc 69 b0 [v0_0,v0_1,v0_2,v0_3,v0_4,v0_5,v0_6,aj,a3,a4,bl,a6])).eR 3 (D 21) (nh ad hD 21) (bc 69 b0 [v0_0,v0_1,v0_2,v0_3,v0_4,v0_5,v0_6,aj,a3,a4,aq,ax])).cO (hb:=af.2.1 rfl) 12 (D 8) (own 3 bl ai.2.2.2.1)
   exact RL.nil ⟨rfl,(ay,a1,a0,aq,ax),hv.n1,ha,zt,hw⟩
  ·rintro D U w hD af ad ⟨⟨ay,a1,a0,aq,ax⟩,hv,ha,_,hw⟩
   obtain⟨O,rfl⟩:=(ac (hv.at 15 rfl (af.2.1 rfl)) (ac (hv.at 19 rfl (af.1 rfl)) az)).fC
   have hw:=((hw.bX 3 hD).cN 3 (af.2.2.1 rfl)).cN 13 (af.2.1 rfl)
   refine RL.gz 3 ax hw zr zr (gZ 13 hw) GD fun w hw=>?_
   have hw:=(hw.cO 3 true (bif D 18 then (bc 69 b0 [v0_0,v0_1,v0_2,v0_3,v0_4,v0_5,v0_6,aj,a3,a4,aq,a6]) else (bc 69 b0 [v0_0,v0_1,v0_2,v0_3,v0_4,v0_5,v0_6,aj,a3,a4,bl,a6]))).cO (hb:=af.2.1 rfl) 13 (D 15) (own 38 a6 ai.2.2.2.2)
   exact RL.nil ⟨rfl,(ay,a1,a0,aq,ax),hv.n1,ha,zt,hw⟩
  rintro D U w a7 ⟨⟨ay,a1,a0,aq,ax⟩,hv,ha,_,hw⟩
  have hw:=(((((hw.cN 0 (jS a7 8)).cN 1 (jS a7 13)).cN 2 (jS a7 15)).cN 3 (jS a7 21)).cN 12 (jS a7 8)).cN 13 (jS a7 15)
  obtain⟨O,rfl⟩:=(ac (ha.at 0 rfl) (ac (ha.at 1 rfl) (ac (ha.at 2 rfl) (ac (ha.at 3 rfl) (ac (ha.at 4 rfl) (ac (ha.at 5 rfl) az)))))).fC
  refine bT (aG (RC.region (RL.inc hk hm (mv (vi ((b2+1:Nat):Int)) (RL.nil ?_)))))
  obtain rfl:=oi hb
  exact⟨rfl,a3,a4,aq,ax,us877,hw.sp 15 [3,10,11,12,13,4,5,6,7,8,9]⟩
 rintro _ w ⟨cp,cq,cr,ct,us824,O,rfl,hw⟩
 obtain rfl:=oi hb
 have hw:=hw.yu (X:=bS) (b:=10) (j:=9) rfl (fun M h u x cs=>yE M h u x cs) rfl rfl (by decide)
 refine xG ?_
 exact Dh zr ⟨aj,cp,cq,cr,ct,zr,hw.pk 11 [0,9,1,2,3,4]⟩
def rN (E:World) (V:List HP) (res:Option ((List (List aI))×(List aI)×(List bU)×(List cV)×(List (List aA))×(List aH)×(List (List Int))×(List cL)×(List Int)×(List Int)×(List Int)×(List dO))×Int) (v:Value) (w:World):Prop:=Dx res.1 (v = .tuple #[(.pointer none),(vi res.2)]/\Holds E w V) (fun y=>∃(ub0:Nat) (u0_0 u0_1:Value) (u0_2 u0_3:Value) (u0_4 u0_5:Value) (u0_6 u0_7:Value) (u0_8 u0_9:Value) (u0_10 u0_11:Value),v = .tuple #[vp ub0 0,(vi res.2)]/\Holds E w ([bc 69 ub0 [u0_0,u0_1,u0_2,u0_3,u0_4,u0_5,u0_6,u0_7,u0_8,u0_9,u0_10,u0_11],rd u0_0 y.1,rd u0_1 y.2.1,rd u0_2 y.2.2.1,rd u0_3 y.2.2.2.1,own 76 u0_4 y.2.2.2.2.1,rd u0_5 y.2.2.2.2.2.1,rd u0_6 y.2.2.2.2.2.2.1,own 73 u0_7 y.2.2.2.2.2.2.2.1,rd u0_8 y.2.2.2.2.2.2.2.2.1,rd u0_9 y.2.2.2.2.2.2.2.2.2.1,own 3 u0_10 y.2.2.2.2.2.2.2.2.2.2.1,own 38 u0_11 y.2.2.2.2.2.2.2.2.2.2.2]++V))
def ox (E:World) (V:List HP) (r:Option ((List (List aI))×(List aI)×(List bU)×(List cV)×(List (List aA))×(List aH)×(List (List Int))×(List cL)×(List Int)×(List Int)×(List Int)×(List dO))×Int) (U:Nat->Value) (w:World):Prop:=mx bF 112 Tryz.f7 (rN E V r) .ret U w
theorem qD {p0:jT} {res:Option ((List (List aI))×(List aI)×(List bU)×(List cV)×(List (List aA))×(List aH)×(List (List Int))×(List cL)×(List Int)×(List Int)×(List Int)×(List dO))×Int} (j:Holds E w V) (h0:V[i0]? =some (rd v0 p0)) (hb:fZ N p0=some res):
    Calls bF 7 [v0].toArray w (gT (rN E V res)):=by
 unfold fZ at hb
 refine enter Tryz.func7 zr zr ?_
 have j:=j.dup (i0+0) h0
 refine RC.sr (RL.dD 0 v0 j zr fun an w j=>?_)
 refine aP (.pointer none) (aP (vi 0) (RL.nq (RC.sr (RL.aZ zr uy (RL.aX 0 j zr oL Cy fun c1 j=>(RL.bE 0 p0.aL j z5 (ic ((p0.aL.length:Int)) 0 (RL.nt ?_))))))))
 refine fH hb (fun hc hb=>?_) fun hc hb=>?_
 ·refine RC.sr (aP (.pointer none) (aP (vi 9) (RL.nt (RC.rt ?_))))
  obtain rfl:=oi hb
  exact ma ⟨rfl,j.drop 3⟩
 refine RC.ss (RC.sr (RL.aZ zr uy (RL.aX 1 j zr oL Cy fun c2 j=>(RL.bE 0 p0.aL j z5 (ic ((p0.aL.length:Int)) 16 (RL.nt (fH hb (fun hc hb=>?_) fun hc hb=>?_)))))))
 ·refine RC.sr (aP (.pointer none) (aP (vi 2) (RL.nt (RC.rt ?_))))
  obtain rfl:=oi hb
  exact ma ⟨rfl,j.drop 4⟩
 refine RC.sx (RL.aZ zr DN (RL.aX 2 j zr vY we fun c3 j=>(RL.bE 0 p0.dU j nL (aP (vi p0.dU.length) (RL.nq (RC.sr (RL.aZ zr uy (RL.aX 3 j zr oL Cy fun bo j=>?_))))))))
 refine RL.bE 0 p0.aL j z5 (mv (vi 0) (RL.nt ?_))
 obtain⟨c4,hN,hb⟩:=bd hb
 refine RC.range (fun(bj:Nat) (ax:Int)=>SH E V [(1,vp an 0),(4,vi ax),(28,bo),(29,vi p0.aL.length),(30,vi bj)] [bx 27 an p0,rd bo p0.aL]) (fun(ax:Int)=>SH E V [(1,vp an 0),(4,vi ax)] [bx 27 an p0,rd bo p0.aL]) (ox E V) hN ?_ ?_ ?_ ?_ ?_
 ·exact j.sp 6 [4,0]
 ·rintro hm ax _ w ⟨O,rfl,j⟩
  refine RC.sr (ic ((p0.aL.length:Int)) ((p0.aL.length:Int)) (RL.nq (RC.cT mc (RC.ex ?_))))
  exact⟨rfl,j.sp 2 [0,1]⟩
 ·rintro hm bj ax fl _ w hk ⟨O,rfl,j⟩ hb
  refine RC.sr (ic ((bj:Int)) ((p0.aL.length:Int)) (RL.nq (RC.cS (mb hk) (RC.ss (RC.bs ?_)))))
  obtain⟨bk,bw,hb⟩:=bd hb
  refine RL.cB 1 j A2 bw fun c5 j=>(RL.bP 0 bk j we fun bl j=>(aP bl (RL.nq (RC.sr (mv bl ?_)))))
  obtain⟨a7,bz,hb⟩:=bd hb
  refine RL.call zt zr Hm [bl] zr (aF (mj N (i0:=0) j zr bz) ?_)
  rintro _ w ⟨rfl,j⟩
  refine aP (vi a7) (RL.ns (mv (vi a7) (ic a7 0 (RL.nt (fH hb (fun hc hb=>?_) fun hc hb=>?_)))))
  ·refine RC.sr (mv (vi a7) (aP (.pointer none) (aP (vi a7) (RL.nt (RC.rt (lR (cC ?_)))))))
   obtain rfl:=oi hb
   exact⟨rfl,ma ⟨rfl,j.drop 4⟩⟩
  refine RC.sn (RC.region (mv (vi ax) (mv bl (RL.bE 0 bk j nL (RL.jo ax (bk.length:Int) (aP (vi (IntKind.wrap .i64 (ax+ (bk.length:Int)))) (RL.nil (bT ?_))))))))
  refine aG (RC.region (RL.inc hk hm (mv (vi ((bj+1:Nat):Int)) (RL.nil ?_))))
  obtain rfl:=oi hb
  exact⟨rfl,j.sp 4 [2,3]⟩
 ·intro r U w e hK
  subst e
  refine cC ?_
  obtain rfl:=oi hb
  exact hK
 rintro ax _ w rfl ⟨O,rfl,j⟩
 rw [Fo.gx] at hb
 refine aG (RC.seq (RC.sr (RL.aZ zr DN (RL.aX 0 j zr vY we fun b0 j=>?_))))
 obtain⟨a9,b1,hb⟩:=bd hb
 refine RL.call zt zr Hm [b0] zr (aF (mj N (i0:=0) j zr b1) ?_)
 rintro _ w ⟨rfl,j⟩
 refine aP (vi a9) (RL.ns (mv (vi a9) (ic a9 0 (RL.nt (fH hb (fun hc hb=>?_) fun hc hb=>?_)))))
 ·refine RC.sr (mv (vi a9) (aP (.pointer none) (aP (vi a9) (RL.nt (RC.rt ?_)))))
  obtain rfl:=oi hb
  exact ma ⟨rfl,j.drop 3⟩
 refine RC.ss (RC.sr (mv (vi ax) (ic ax 2000 (RL.nt (fH hb (fun hc hb=>?_) fun hc hb=>?_)))))
 ·refine RC.sr (aP (.pointer none) (aP (vi 2) (RL.nt (RC.rt ?_))))
  obtain rfl:=oi hb
  exact ma ⟨rfl,j.drop 3⟩
 refine RC.ss (RC.sr (RL.aX (f:=(fun x=>x)) 1 j zr Fd.self vo fun b2 j=>?_))
 obtain⟨ba,b3,hb⟩:=bd hb
 refine RL.call zt zr I2 [b2] zr (aF (qq N (i0:=0) j zr b3) ?_)
 rintro _ w ⟨rfl,j⟩
 refine aP (vi ba) (RL.ns (mv (vi ba) (ic ba 0 (RL.nt (fH hb (fun hc hb=>?_) fun hc hb=>?_)))))
 ·refine RC.sr (mv (vi ba) (aP (.pointer none) (aP (vi ba) (RL.nt (RC.rt ?_)))))
  obtain rfl:=oi hb
  exact ma ⟨rfl,j.drop 4⟩
 refine RC.ss (RC.sr (RL.aX (f:=(fun x=>x)) 2 j zr Fd.self vo fun b4 j=>?_))
 obtain⟨bb,b5,hb⟩:=bd hb
 refine RL.call zt zr Jc [b4] zr (aF (qw N (i0:=0) j zr b5) ?_)
 rintro _ w ⟨rfl,j⟩
 refine aP (vi bb) (RL.ns (mv (vi bb) (ic bb 0 (RL.nt (fH hb (fun hc hb=>?_) fun hc hb=>?_)))))
 ·refine RC.sr (mv (vi bb) (aP (.pointer none) (aP (vi bb) (RL.nt (RC.rt ?_)))))
  obtain rfl:=oi hb
  exact ma ⟨rfl,j.drop 5⟩
 refine RC.ss (RC.sr (RL.aZ zr lV (RL.aX 3 j zr qd uz fun au j=>(RL.bE 0 p0.aV j wg (mv (vi 0) (RL.nt ?_))))))
 obtain⟨c6,hN,hb⟩:=bd hb
 refine RC.range (fun(aw:Nat) (bm:Unit)=>SH E V [(1,vp an 0),(63,au),(64,vi p0.aV.length),(65,vi aw)] [bx 27 an p0,rd au p0.aV]) (fun(bm:Unit)=>SH E V [(1,vp an 0)] [bx 27 an p0,rd au p0.aV]) (ox E V) hN ?_ ?_ ?_ ?_ ?_
 ·exact j.sp 6 [4,0]
 ·rintro hm bm _ w ⟨O,rfl,j⟩
  refine RC.sr (ic ((p0.aV.length:Int)) ((p0.aV.length:Int)) (RL.nq (RC.cT mc (RC.ex ?_))))
  exact⟨rfl,j.sp 2 [0,1]⟩
 ·rintro hm aw bm fl _ w hk ⟨O,rfl,j⟩ hb
  refine RC.sr (ic ((aw:Int)) ((p0.aV.length:Int)) (RL.nq (RC.cS (mb hk) (RC.ss (RC.bs (mv (vi aw) ?_))))))
  obtain⟨ab,b6,hb⟩:=bd hb
  refine RL.cB 1 j yF b6 fun c7 j=>(RL.bP 0 ab j nM fun c8 j=>(RL.alloc j CB.z fun al w j=>?_))
  refine aP (vi aw) (RL.bA 0 j 1 zr nM fun w j=>?_)
  refine RL.ns (RL.aZ zr lV (RL.aX 3 j zr qd uz fun c9 j=>(mv (vi aw) ?_)))
  obtain⟨av,b7,hb⟩:=bd hb
  refine RL.cut (hl:= .inr ⟨rfl,zr⟩) 0 j yF (.inl zr) b7 fun a1 j=>(RL.bE 0 av j wg (mv (vi 0) (RL.nt ?_)))
  obtain⟨da,hN,hb⟩:=bd hb
  refine RC.range (fun(a4:Nat) (bn:Unit)=>SH E V [(1,vp an 0),(12,vp al 0),(63,au),(64,vi p0.aV.length),(65,vi aw),(73,a1),(74,vi av.length),(75,vi a4)] [bx 27 an p0,bx 60 al ab,rd au p0.aV,rd a1 av]) (fun(bn:Unit)=>SH E V [(1,vp an 0),(63,au),(64,vi p0.aV.length),(65,vi aw)] [bx 27 an p0,bx 60 al ab,rd au p0.aV,rd a1 av]) (ox E V) hN ?_ ?_ ?_ ?_ ?_
  ·exact j.sp 7 [5,2,6,0]
  ·rintro hm bn _ w ⟨O,rfl,j⟩
   refine RC.sr (ic ((av.length:Int)) ((av.length:Int)) (RL.nq (RC.cT mc (RC.ex ?_))))
   exact⟨rfl,j.sp 4 [0,1,2,3]⟩
  ·rintro hm a4 bn fl _ w hk ⟨O,rfl,j⟩ hb
   refine RC.sr (ic ((a4:Int)) ((av.length:Int)) (RL.nq (RC.cS (mb hk) (RC.ss (RC.bs ?_)))))
   obtain⟨aa,b8,hb⟩:=bd hb
   refine RL.cB 3 j yF b8 fun bt j=>(RL.bP 0 aa j nM fun bu j=>(RL.alloc j CB.z fun ar w j=>?_))
   refine RL.bA 0 j 1 zr nM fun w j=>?_
   refine RL.nq ?_
   obtain⟨bp,hj,hb⟩:=bd hb
   refine RC.jn (fun(bp:Bool)=>SH E V [(1,vp an 0),(12,vp al 0),(63,au),(64,vi p0.aV.length),(65,vi aw),(73,a1),(74,vi av.length),(75,vi a4),(98,vb bp)] [bx 27 an p0,bx 60 al ab,rd au p0.aV,rd a1 av]) bp ?_ ?_
   ·refine fY hj (fun aq hj=>?_) fun aq hj=>?_
    rotate_left
    ·refine RC.DA E V mixed [1,0,1,0,1,1,0,0,0,0,0,0,1,1,1,1,1,1,1,1] [] (fun(x:Unit)=>[(0,79,(vp al 3)),(1,80,(vi ab.bM)),(2,81,(vp ar 4)),(3,82,(vi aa.To)),(4,83,(vb (decide (ab.bM<=aa.To)))),(5,84,(vb (decide (ab.bM<=aa.To)))),(6,85,(cv (true&&((decide (ab.bM<=aa.To))==true)) (vp ar 3))),(7,86,(cv (true&&((decide (ab.bM<=aa.To))==true)) (vi aa.bM))),(8,87,(cv (true&&((decide (ab.bM<=aa.To))==true)) (vp al 4))),(9,88,(cv (true&&((decide (ab.bM<=aa.To))==true)) (vi ab.To))),(10,89,(cv (true&&((decide (ab.bM<=aa.To))==true)) (vb (decide (aa.bM<=ab.To))))),(11,90,(vb ((decide (ab.bM<=aa.To))&&(decide (aa.bM<=ab.To))))),(12,91,(vb ((decide (ab.bM<=aa.To))&&(decide (aa.bM<=ab.To))))),(13,92,undef),(14,93,undef),(15,94,undef),(16,95,undef),(17,96,undef),(18,97,undef),(19,98,(vb false))]) [(1,vp an 0),(12,vp al 0),(14,vp ar 0),(63,au),(64,vi p0.aV.length),(65,vi aw),(73,a1),(74,vi av.length),(75,vi a4)] [] (fun(D:Nat->Bool) (x:Unit)=>[bx 60 ar aa,rd bu aa,pt bt aa,bx 27 an p0,bx 60 al ab,rd au p0.aV,rd a1 av]) (fun x=>by kernel_rfl) ?_ ⟨fun _=>nb gn sd,?_,fun _=>nb gn uA,?_,fun _=>Gq gn rfl,fun _=>jF gn,?_,?_,?_,?_,?_,?_,fun _=>jF gn,fun _=>Co aq,fun _=>Co aq,fun _=>Co aq,fun _=>Co aq,fun _=>Co aq,fun _=>Co aq,fun _=>IG gn aq rfl,trivial⟩ ?_
     ·have j:=j.drew
      exact⟨(),eC.none,(Cq zr),zt,j⟩
     ·rintro D U w hD ae ak ⟨_,o,ha,_,j⟩
      obtain⟨O,rfl⟩:=(ac (o.at 0 rfl (ae.1 rfl)) az).fC
      refine RL.aK 4 j zr lS cG ?_
      exact RL.nil ⟨rfl,(),o.pu 1,ha.u,zt,j⟩
     ·rintro D U w hD ae ak ⟨_,o,ha,_,j⟩
      obtain⟨O,rfl⟩:=(ac (o.at 2 rfl (ae.1 rfl)) az).fC
      refine RL.aK 0 j zr m0 cG ?_
      exact RL.nil ⟨rfl,(),o.pu 3,ha.u,zt,j⟩
     ·rintro D U w hD ae ak ⟨_,o,ha,_,j⟩
      obtain⟨O,rfl⟩:=(ac (o.at 5 rfl (ae.1 rfl)) (ac (ha.at 2 rfl) az)).fC
      refine RL.gs true (decide (ab.bM<=aa.To)) (vp ar 3) zr zr zr (dI sd) ?_
      exact RL.nil ⟨rfl,(),o.pu 6,ha.u,zt,j⟩
     ·rintro D U w hD ae ak ⟨_,o,ha,_,j⟩
      obtain⟨O,rfl⟩:=(ac (o.at 5 rfl (ae.2.1 rfl)) (ac (o.at 6 rfl (ae.1 rfl)) az)).fC
      refine RL.gs true (decide (ab.bM<=aa.To)) (vi aa.bM) rfl rfl rfl (bQ 0 rfl j (fun h=>by exact(cQ h:cv (true&&((decide (ab.bM<=aa.To))==true)) (vp ar 3)= (vp ar 3))) rfl lS cG) ?_
      exact RL.nil ⟨rfl,(),o.pu 7,ha.u,zt,j⟩
     ·rintro D U w hD ae ak ⟨_,o,ha,_,j⟩
      obtain⟨O,rfl⟩:=(ac (o.at 5 rfl (ae.1 rfl)) (ac (ha.at 1 rfl) az)).fC
      refine RL.gs true (decide (ab.bM<=aa.To)) (vp al 4) zr zr zr (dI uA) ?_
      exact RL.nil ⟨rfl,(),o.pu 8,ha.u,zt,j⟩
     ·rintro D U w hD ae ak ⟨_,o,ha,_,j⟩
      obtain⟨O,rfl⟩:=(ac (o.at 5 rfl (ae.2.1 rfl)) (ac (o.at 8 rfl (ae.1 rfl)) az)).fC
      refine RL.gs true (decide (ab.bM<=aa.To)) (vi ab.To) rfl rfl rfl (bQ 4 rfl j (fun h=>by exact(cQ h:cv (true&&((decide (ab.bM<=aa.To))==true)) (vp al 4)= (vp al 4))) rfl m0 cG) ?_
      exact RL.nil ⟨rfl,(),o.pu 9,ha.u,zt,j⟩
     ·rintro D U w hD ae ak ⟨_,o,ha,_,j⟩
      obtain⟨O,rfl⟩:=(ac (o.at 5 rfl (ae.2.2.1 rfl)) (ac (o.at 7 rfl (ae.1 rfl)) (ac (o.at 9 rfl (ae.2.1 rfl)) az))).fC
      refine RL.gs true (decide (ab.bM<=aa.To)) (vb (decide (aa.bM<=ab.To))) rfl rfl rfl (dT .leq .i64 aa.bM ab.To rfl (fun h=>by exact(cQ h:cv (true&&((decide (ab.bM<=aa.To))==true)) (vi aa.bM)= (vi aa.bM))) (fun h=>by exact(cQ h:cv (true&&((decide (ab.bM<=aa.To))==true)) (vi ab.To)= (vi ab.To))) rfl) ?_
      exact RL.nil ⟨rfl,(),o.pu 10,ha.u,zt,j⟩
     ·rintro D U w hD ae ak ⟨_,o,ha,_,j⟩
      obtain⟨O,rfl⟩:=(ac (o.at 5 rfl (ae.1 rfl)) (ac (o.at 10 rfl (ae.2.1 rfl)) az)).fC
      refine RL.pick (decide (ab.bM<=aa.To)) (vb ((decide (ab.bM<=aa.To))&&(decide (aa.bM<=ab.To)))) (iU true) ?_
      exact RL.nil ⟨rfl,(),o.pu 11,ha.u,zt,j⟩
     rintro D U w a5 ⟨_,o,ha,_,j⟩
     obtain⟨O,rfl⟩:=(ac (o.at 19 rfl (jS a5 19)) (ac (ha.at 0 rfl) (ac (ha.at 1 rfl) (ac (ha.at 2 rfl) (ac (ha.at 3 rfl) (ac (ha.at 4 rfl) (ac (ha.at 5 rfl) (ac (ha.at 6 rfl) (ac (ha.at 7 rfl) (ac (ha.at 8 rfl) az)))))))))).fC
     obtain rfl:=oi hj
     exact⟨rfl,j.sp 7 [3,4,5,6]⟩
    obtain⟨b9,ca,hj⟩:=bd hj
    obtain⟨cb,cc,hj⟩:=bd hj
    obtain⟨bq,cd,hj⟩:=bd hj
    refine RC.DA E V mixed [1,0,1,0,1,1,0,0,0,0,0,0,1,0,0,0,0,0,1,1] [13,14,15,16] (fun(x:Value×Value×Value×Value)=>(fun af ag ah ai=>[(0,79,(vp al 3)),(1,80,(vi ab.bM)),(2,81,(vp ar 4)),(3,82,(vi aa.To)),(4,83,(vb (decide (ab.bM<=aa.To)))),(5,84,(vb (decide (ab.bM<=aa.To)))),(6,85,(cv (true&&((decide (ab.bM<=aa.To))==true)) (vp ar 3))),(7,86,(cv (true&&((decide (ab.bM<=aa.To))==true)) (vi aa.bM))),(8,87,(cv (true&&((decide (ab.bM<=aa.To))==true)) (vp al 4))),(9,88,(cv (true&&((decide (ab.bM<=aa.To))==true)) (vi ab.To))),(10,89,(cv (true&&((decide (ab.bM<=aa.To))==true)) (vb (decide (aa.bM<=ab.To))))),(11,90,(vb ((decide (ab.bM<=aa.To))&&(decide (aa.bM<=ab.To))))),(12,91,(vb ((decide (ab.bM<=aa.To))&&(decide (aa.bM<=ab.To))))),(13,92,af),(14,93,ag),(15,94,ah),(16,95,ai),(17,96,(vi bq)),(18,97,(vb (bq==0))),(19,98,(vb (bq==0)))]) x.1 x.2.1 x.2.2.1 x.2.2.2) [(1,vp an 0),(12,vp al 0),(14,vp ar 0),(63,au),(64,vi p0.aV.length),(65,vi aw),(73,a1),(74,vi av.length),(75,vi a4)] [] (fun(D:Nat->Bool) (x:Value×Value×Value×Value)=>(fun af ag ah ai=>[bif D 0 then (rd af ab) else aY,bif D 1 then (rd ag b9) else aY,bif D 2 then (rd ah aa) else aY,bif D 3 then (rd ai cb) else aY,bx 60 ar aa,rd bu aa,pt bt aa,bx 27 an p0,bx 60 al ab,rd au p0.aV,rd a1 av]) x.1 x.2.1 x.2.2.1 x.2.2.2) (fun x=>by kernel_rfl) ?_ ⟨fun _=>nb gn sd,?_,fun _=>nb gn uA,?_,fun _=>Gq gn rfl,fun _=>jF gn,?_,?_,?_,?_,?_,?_,fun _=>jF gn,?_,?_,?_,?_,?_,fun _=>Gq (gy aq rfl) rfl,fun _=>IF gn aq rfl,trivial⟩ ?_
    ·have j:=((((j.drew).aY).aY).aY).aY
     exact⟨(undef,undef,undef,undef),eC.none,(Cq zr),zt,j⟩
    ·rintro D U w hD ae ak ⟨⟨af,ag,ah,ai⟩,o,ha,_,j⟩
     obtain⟨O,rfl⟩:=(ac (o.at 0 rfl (ae.1 rfl)) az).fC
     refine RL.aK 8 j zr lS cG ?_
     exact RL.nil ⟨rfl,(af,ag,ah,ai),o.pu 1,ha.u,zt,j⟩
    ·rintro D U w hD ae ak ⟨⟨af,ag,ah,ai⟩,o,ha,_,j⟩
     obtain⟨O,rfl⟩:=(ac (o.at 2 rfl (ae.1 rfl)) az).fC
     refine RL.aK 4 j zr m0 cG ?_
     exact RL.nil ⟨rfl,(af,ag,ah,ai),o.pu 3,ha.u,zt,j⟩
    ·rintro D U w hD ae ak ⟨⟨af,ag,ah,ai⟩,o,ha,_,j⟩
     obtain⟨O,rfl⟩:=(ac (o.at 5 rfl (ae.1 rfl)) (ac (ha.at 2 rfl) az)).fC
     refine RL.gs true (decide (ab.bM<=aa.To)) (vp ar 3) zr zr zr (dI sd) ?_
     exact RL.nil ⟨rfl,(af,ag,ah,ai),o.pu 6,ha.u,zt,j⟩
    ·rintro D U w hD ae ak ⟨⟨af,ag,ah,ai⟩,o,ha,_,j⟩
     obtain⟨O,rfl⟩:=(ac (o.at 5 rfl (ae.2.1 rfl)) (ac (o.at 6 rfl (ae.1 rfl)) az)).fC
     refine RL.gs true (decide (ab.bM<=aa.To)) (vi aa.bM) rfl rfl rfl (bQ 4 rfl j (fun h=>by exact(cQ h:cv (true&&((decide (ab.bM<=aa.To))==true)) (vp ar 3)= (vp ar 3))) rfl lS cG) ?_
     exact RL.nil ⟨rfl,(af,ag,ah,ai),o.pu 7,ha.u,zt,j⟩
    ·rintro D U w hD ae ak ⟨⟨af,ag,ah,ai⟩,o,ha,_,j⟩
     obtain⟨O,rfl⟩:=(ac (o.at 5 rfl (ae.1 rfl)) (ac (ha.at 1 rfl) az)).fC
     refine RL.gs true (decide (ab.bM<=aa.To)) (vp al 4) zr zr zr (dI uA) ?_
     exact RL.nil ⟨rfl,(af,ag,ah,ai),o.pu 8,ha.u,zt,j⟩
    ·rintro D U w hD ae ak ⟨⟨af,ag,ah,ai⟩,o,ha,_,j⟩
     obtain⟨O,rfl⟩:=(ac (o.at 5 rfl (ae.2.1 rfl)) (ac (o.at 8 rfl (ae.1 rfl)) az)).fC
     refine RL.gs true (decide (ab.bM<=aa.To)) (vi ab.To) rfl rfl rfl (bQ 8 rfl j (fun h=>by exact(cQ h:cv (true&&((decide (ab.bM<=aa.To))==true)) (vp al 4)= (vp al 4))) rfl m0 cG) ?_
     exact RL.nil ⟨rfl,(af,ag,ah,ai),o.pu 9,ha.u,zt,j⟩
    ·rintro D U w hD ae ak ⟨⟨af,ag,ah,ai⟩,o,ha,_,j⟩
     obtain⟨O,rfl⟩:=(ac (o.at 5 rfl (ae.2.2.1 rfl)) (ac (o.at 7 rfl (ae.1 rfl)) (ac (o.at 9 rfl (ae.2.1 rfl)) az))).fC
     refine RL.gs true (decide (ab.bM<=aa.To)) (vb (decide (aa.bM<=ab.To))) rfl rfl rfl (dT .leq .i64 aa.bM ab.To rfl (fun h=>by exact(cQ h:cv (true&&((decide (ab.bM<=aa.To))==true)) (vi aa.bM)= (vi aa.bM))) (fun h=>by exact(cQ h:cv (true&&((decide (ab.bM<=aa.To))==true)) (vi ab.To)= (vi ab.To))) rfl) ?_
     exact RL.nil ⟨rfl,(af,ag,ah,ai),o.pu 10,ha.u,zt,j⟩
    ·rintro D U w hD ae ak ⟨⟨af,ag,ah,ai⟩,o,ha,_,j⟩
     obtain⟨O,rfl⟩:=(ac (o.at 5 rfl (ae.1 rfl)) (ac (o.at 10 rfl (ae.2.1 rfl)) az)).fC
     refine RL.pick (decide (ab.bM<=aa.To)) (vb ((decide (ab.bM<=aa.To))&&(decide (aa.bM<=ab.To)))) (iU true) ?_
     exact RL.nil ⟨rfl,(af,ag,ah,ai),o.pu 11,ha.u,zt,j⟩
    ·rintro D U w hD ae ak ⟨⟨af,ag,ah,ai⟩,o,ha,_,j⟩
     obtain⟨O,rfl⟩:=(ac (o.at 12 rfl (ae.1 rfl)) (ac (ha.at 1 rfl) az)).fC
     have j:=j.bX 0 hD
     refine RL.aX (hg:=(cg aq)) (f:=(fun x=>x)) 8 j zr Fd.self nM fun cf j=>?_
     have j:=(j.pl 12 [0,2,3,4,5,6,7,8,9,10,11]).cO 0 true aY
     exact RL.nil ⟨rfl,(cf,ag,ah,ai),o.pu 13,ha.u,zt,j⟩
    ·rintro D U w hD ae ak ⟨⟨af,ag,ah,ai⟩,o,ha,_,j⟩
     obtain⟨O,rfl⟩:=(ac (o.at 12 rfl (ae.2.1 rfl)) (ac (o.at 13 rfl (ae.1 rfl)) az)).fC
     have j:=(j.cN 0 (ae.1 rfl)).bX 1 hD
     refine RL.call (cg aq) zr CC [af] zr (aF (gq N (i0:=0) j zr ca) ?_)
     rintro ch w j
     have j:=((j.pl 12 [1,0,3,4,5,6,7,8,9,10,11]).cO (hb:=ae.1 rfl) 0 (D 13) aY).cO 1 true aY
     exact RL.nil ⟨rfl,(af,ch,ah,ai),o.pu 14,ha.u,zt,j⟩
    ·rintro D U w hD ae ak ⟨⟨af,ag,ah,ai⟩,o,ha,_,j⟩
     obtain⟨O,rfl⟩:=(ac (o.at 12 rfl (ae.1 rfl)) (ac (ha.at 2 rfl) az)).fC
     have j:=j.bX 2 hD
     refine RL.aX (hg:=(cg aq)) (f:=(fun x=>x)) 4 j zr Fd.self nM fun cj j=>?_
     have j:=(j.pl 12 [1,2,0,4,5,6,7,8,9,10,11]).cO 2 true aY
     exact RL.nil ⟨rfl,(af,ag,cj,ai),o.pu 15,ha.u,zt,j⟩
    ·rintro D U w hD ae ak ⟨⟨af,ag,ah,ai⟩,o,ha,_,j⟩
     obtain⟨O,rfl⟩:=(ac (o.at 12 rfl (ae.2.2.1 rfl)) (ac (o.at 15 rfl (ae.1 rfl)) az)).fC
     have j:=(j.cN 2 (ae.1 rfl)).bX 3 hD
     refine RL.call (cg aq) zr CC [ah] zr (aF (gq N (i0:=2) j zr cc) ?_)
     rintro ck w j
     have j:=((j.pl 12 [1,2,3,0,5,6,7,8,9,10,11]).cO (hb:=ae.1 rfl) 2 (D 15) aY).cO 3 true aY
     exact RL.nil ⟨rfl,(af,ag,ah,ck),o.pu 16,ha.u,zt,j⟩
    ·rintro D U w hD ae ak ⟨⟨af,ag,ah,ai⟩,o,ha,_,j⟩
     obtain⟨O,rfl⟩:=(ac (o.at 12 rfl (ae.2.2.2.1 rfl)) (ac (o.at 14 rfl (ae.1 rfl)) (ac (o.at 16 rfl (ae.2.1 rfl)) az))).fC
     have j:=(j.cN 1 (ae.1 rfl)).cN 3 (ae.2.1 rfl)
     refine RL.call (cg aq) zr Fk [ag,ai] zr (aF (mT N (i0:=1) (i1:=3) j zr zr cd) ?_)
     rintro _ w ⟨rfl,j⟩
     have j:=(j.cO (hb:=ae.1 rfl) 1 (D 14) aY).cO (hb:=ae.2.1 rfl) 3 (D 16) aY
     exact RL.nil ⟨rfl,(af,ag,ah,ai),o.pu 17,ha.u,zt,j⟩
    rintro D U w a5 ⟨⟨af,ag,ah,ai⟩,o,ha,_,j⟩
    have j:=(((j.cN 0 (jS a5 13)).cN 1 (jS a5 14)).cN 2 (jS a5 15)).cN 3 (jS a5 16)
    obtain⟨O,rfl⟩:=(ac (o.at 19 rfl (jS a5 19)) (ac (ha.at 0 rfl) (ac (ha.at 1 rfl) (ac (ha.at 2 rfl) (ac (ha.at 3 rfl) (ac (ha.at 4 rfl) (ac (ha.at 5 rfl) (ac (ha.at 6 rfl) (ac (ha.at 7 rfl) (ac (ha.at 8 rfl) az)))))))))).fC
    obtain rfl:=oi hj
    exact⟨rfl,j.sp 11 [7,8,9,10]⟩
   rintro _ w ⟨O,rfl,j⟩
   refine aG (fH hb (fun hc hb=>?_) fun hc hb=>?_)
   rotate_left
   ·refine RC.skip (bT (aG (RC.region (RL.inc hk hm (mv (vi ((a4+1:Nat):Int)) (RL.nil ?_))))))
    obtain rfl:=oi hb
    exact⟨rfl,j.sp 4 [0,1,2,3]⟩
   refine RC.sr (aP (.pointer none) (aP (vi 12) (RL.nt (RC.rb (cC ?_)))))
   obtain rfl:=oi hb
   exact⟨rfl,ma ⟨rfl,j.drop 4⟩⟩
  ·intro r U w e hK
   subst e
   refine lR (cC ?_)
   obtain rfl:=oi hb
   exact⟨rfl,hK⟩
  rintro bn _ w rfl ⟨O,rfl,j⟩
  rw [Fo.gx] at hb
  refine bT (aG (RC.region (RL.inc hk hm (mv (vi ((aw+1:Nat):Int)) (RL.nil ?_)))))
  obtain rfl:=oi hb
  exact⟨rfl,j.sp 4 [0,2]⟩
 ·intro r U w e hK
  subst e
  refine cC ?_
  obtain rfl:=oi hb
  exact hK
 rintro bm _ w rfl ⟨O,rfl,j⟩
 rw [Fo.gx] at hb
 refine aG (RC.sr (RL.aX (f:=(fun x=>x)) 0 j zr Fd.self vo fun cl j=>?_))
 obtain⟨cs,hcs,hv224,j⟩:=j.Ff (i:=0) rfl rfl
 obtain⟨bc,bf,bg,bh,rfl⟩:=IB hcs
 have j:=(((j.iT (i:=0) (k:=0) (f:=fun x=>x.aL) rfl oL rfl rfl rfl).iT (i:=1) (k:=1) (f:=fun x=>x.dU) rfl vY rfl rfl rfl).iT (i:=2) (k:=2) (f:=fun x=>x.aV) rfl qd rfl rfl rfl).iT (i:=3) (k:=3) (f:=fun x=>x.bH) rfl qe rfl rfl rfl
 refine RL.Gn (zs:=[(.slice none 0 0),(.slice none 0 0),(.slice none 0 0),(.slice none 0 0),(.slice none 0 0),(.slice none 0 0),(.slice none 0 0),(.slice none 0 0),(.slice none 0 0),(.slice none 0 0),(.slice none 0 0),(.slice none 0 0)]) (cs:=[bc,bf,bg,bh,(.slice none 0 0),(.slice none 0 0),(.slice none 0 0),(.slice none 0 0),(.slice none 0 0),(.slice none 0 0),(.slice none 0 0),(.slice none 0 0)]) zt zr [(0,cl)] [(0,[bc,bf,bg,bh])] zr Jd ⟨rfl,(congrArg Value.cells hv224),zt⟩ zr (RL.BQ (cs:=[bc,bf,bg,bh,(.slice none 0 0),(.slice none 0 0),(.slice none 0 0),(.slice none 0 0),(.slice none 0 0),(.slice none 0 0),(.slice none 0 0),(.slice none 0 0)]) zt zr j zr (zG.all (⟨(vD 3 j zr),(vD 2 j zr),(vD 1 j zr),(vD 0 j zr),zr,zr,zr,zr,zr,zr,zr,zr,zt⟩:zG [bc,bf,bg,bh,(.slice none 0 0),(.slice none 0 0),(.slice none 0 0),(.slice none 0 0),(.slice none 0 0),(.slice none 0 0),(.slice none 0 0),(.slice none 0 0)])) fun a0 w j=>?_)
 refine aP (vp a0 0) (RL.nq (RC.sr (mv (vp a0 0) ?_)))
 have j:=((((((j.dB (List aA) 76).dB aH 78).pull 0).pull 2).dup 6 rfl).dup 9 rfl).pull 6
 obtain⟨cm,cn,hb⟩:=bd hb
 refine RL.call zt zr Jn [(vp a0 0)] zr (aF (pM N j cn) ?_)
 rintro _ w ⟨cp,cq,rfl,j⟩
 refine RL.not cm.1 (RL.nt (fH hb (fun hc hb=>?_) fun hc hb=>?_))
 ·refine RC.sr (aP (.pointer none) (aP (vi 2) (RL.nt (RC.rt ?_))))
  obtain rfl:=oi hb
  exact ma ⟨rfl,j.drop 14⟩
 refine RC.sx (mv (vp a0 0) ?_)
 have j:=(((((j.freeze 2).dB (List Int) 46).pull 0).dup 4 rfl).dup 10 rfl).pull 4
 obtain⟨db,cr,hb⟩:=bd hb
 refine RL.call zt zr Jq [(vp a0 0)] zr (aF (pN N j cr) ?_)
 rintro _ w ⟨ct,rfl,j⟩
 refine RL.ns (mv (vp a0 0) ?_)
 have j:=((((((((((((j.freeze 1).dB Int 3).dB Int 3).dB Int 3).dB dO 38).pull 0).pull 2).pull 4).pull 6).dup 9 rfl).dup 14 rfl).dup 19 rfl).dup 21 rfl
 have j:=j.pull 12
 obtain⟨dc,cu,hb⟩:=bd hb
 refine RL.call zt zr JC [(vp a0 0)] zr (aF (mo N j cu) ?_)
 rintro _ w ⟨cw,cx,cy,cz,c0,rfl,j⟩
 refine RL.ns (mv (vp a0 0) (aP (vp a0 0) (aP (vi 0) (RL.nt (RC.ret ?_)))))
 obtain rfl:=oi hb
 exact ma ⟨a0,bc,bf,bg,bh,cp,cq,ct,cw,cx,cy,cz,c0,zr,j.pk 27 [0,22,21,20,19,14,15,11,1,2,3,4,5]⟩
theorem mG {res:Bool} (o:Holds E w V) (j:jw N p0 p1 p2=some res):
    Calls bF 21 [(vi p0),(vi p1),(vi p2)].toArray w (gT (bD E V res)):=by
 unfold jw at j
 refine enter Tryz.func21 zr zr (RC.sr (aP (vb false) (RL.ns (mv (vi p0) (mv (vi p1) (ic p0 p1 (mv (vb (decide (p0>=p1))) (RL.gs true (decide (p0>=p1)) (vi p0) zr zr zr dQ ?_))))))))
 refine RL.gs true (decide (p0>=p1)) (vi p2) rfl rfl rfl dQ (RL.gs true (decide (p0>=p1)) (vb (decide (p0<=p2))) rfl rfl rfl (dT .leq .i64 p0 p2 rfl (fun h=>by exact(cQ h:cv (true&&((decide (p0>=p1))==true)) (vi p0)= (vi p0))) (fun h=>by exact(cQ h:cv (true&&((decide (p0>=p1))==true)) (vi p2)= (vi p2))) rfl) (RL.pick (decide (p0>=p1)) (vb ((decide (p0>=p1))&&(decide (p0<=p2)))) (iU true) (aP (vb ((decide (p0>=p1))&&(decide (p0<=p2)))) (RL.nt (RC.ret ?_)))))
 obtain rfl:=oi j
 exact cI ⟨rfl,o.drop 0⟩
def tF (E:World) (V:List HP) (b2 b3 b2h:Nat) (v2h_0 v2h_1:Value) (v2h_2 v2h_3:Value) (v2h_4 v2h_5:Value) (v2h_6 v2h_7:Value) (v2h_8 v2h_9:Value) (v2h_10 v2h_11:Value) (res: (List bY)) (v:Value) (w:World):Prop:=∃u3_0:Value,v = .tuple #[]/\Holds E w ([bc 42 b2 [(vp b2h 0)],bc 30 b3 [u3_0],own 40 u3_0 res,bc 69 b2h [v2h_0,v2h_1,v2h_2,v2h_3,v2h_4,v2h_5,v2h_6,v2h_7,v2h_8,v2h_9,v2h_10,v2h_11]]++V)
theorem nz {p0:dO} {p3_0: (List bY)} {p2h_7: (List cL)} {res: (List bY)} (j:Holds E w (bc 42 b2 [(vp b2h 0)]::bc 30 b3 [v3_0]::own 40 v3_0 p3_0::bc 69 b2h [v2h_0,v2h_1,v2h_2,v2h_3,v2h_4,v2h_5,v2h_6,v2h_7,v2h_8,v2h_9,v2h_10,v2h_11]::rd v2h_7 p2h_7::V)) (h0:V[i0]? =some (rd v0 p0)) (hb:f0 N p0 p1 p3_0 p2h_7=some res):
    Calls bF 22 [v0,(vi p1),(vp b2 0),(vp b3 0)].toArray w (gT (tF E V b2 b3 b2h v2h_0 v2h_1 v2h_2 v2h_3 v2h_4 v2h_5 v2h_6 v2h_7 v2h_8 v2h_9 v2h_10 v2h_11 res)):=by
 unfold f0 at hb
 refine enter Tryz.func22 zr zr ?_
 have j:=j.dup (i0+5) h0
 refine RC.sr (RL.dD 0 v0 j zr fun ah w j=>?_)
 refine RL.nq ?_
 obtain⟨af,hj,hb⟩:=bd hb
 refine RC.jn (fun(af:Bool)=>SH E V [(2,vp b2 0),(3,vp b3 0),(4,vp ah 0),(19,vb af)] [bc 42 b2 [(vp b2h 0)],bc 69 b2h [v2h_0,v2h_1,v2h_2,v2h_3,v2h_4,v2h_5,v2h_6,v2h_7,v2h_8,v2h_9,v2h_10,v2h_11],rd v2h_7 p2h_7,bc 30 b3 [v3_0],own 40 v3_0 p3_0,bx 38 ah p0]) af ?_ ?_
 ·refine RC.region (mv (vi p1) (ic p1 0 (mv (vb (decide (p1>=0))) (fY hj (fun o hj=>?_) fun o hj=>?_))))
  rotate_left
  ·refine bR o (bR o (bR o (bR o (bR o (bR o (bR o (bR o (bR o ?_))))))))
   refine bR o (fV o (vb false) (RL.nil ?_))
   obtain rfl:=oi hj
   exact⟨rfl,j.sp 7 [2,5,6,3,4,0]⟩
  refine RL.aU (hg:=(cg o)) 2 (vp b2h 0) j vr (RL.nilCheck (hg:=(cg o)) zr (RL.aZ (hg:=(cg o)) zr sf (RL.aU (hg:=(cg o)) 5 v2h_7 j A9 (RL.move (vi p1) (cg o) ?_))))
  obtain⟨ad,aj,hj⟩:=bd hj
  refine RL.cB (hg:=(cg o)) 6 j Ft aj fun aq j=>(RL.ig (hg:=(cg o)) 0 j zr Be A1 fun ar j=>(RL.bP (hg:=(cg o)) 0 ad.gC j GC fun au j=>(RL.bE (hg:=(cg o)) 0 ad.gC j JE (RL.jY (ad.gC.length:Int) 1 (cg o) (fV o (vb (decide ((ad.gC.length:Int)>1))) (RL.nil ?_))))))
  obtain rfl:=oi hj
  exact⟨rfl,j.sp 10 [5,8,9,6,7,3]⟩
 rintro _ w ⟨O,rfl,j⟩
 refine aG ?_
 obtain⟨ag,hj,hb⟩:=bd hb
 refine RC.jn (fun(ag: (List bY)) U w=>∃ae:Value,SH E V [(2,vp b2 0),(3,vp b3 0)] [bc 42 b2 [(vp b2h 0)],bc 69 b2h [v2h_0,v2h_1,v2h_2,v2h_3,v2h_4,v2h_5,v2h_6,v2h_7,v2h_8,v2h_9,v2h_10,v2h_11],rd v2h_7 p2h_7,bc 30 b3 [ae],own 40 ae ag] U w) ag ?_ ?_
 ·refine fH hj (fun hc hj=>?_) fun hc hj=>?_
  rotate_left
  ·refine RC.skip ?_
   obtain rfl:=oi hj
   exact⟨rfl,v3_0,j.sp 6 [0,1,2,3,4]⟩
  refine RC.region (RL.aU 3 v3_0 j CJ (RL.aX (f:=(fun x=>x)) 5 j zr Fd.self ql fun al j=>?_))
  have j:=j.sc Bool true
  refine RL.build (⟨true,p0,0,0⟩:bY) trivial rfl j [(0,vb true),(1,al)] rfl HQ rfl (fun M hs g=>by have h:=DM M;exact cH.cons (f:=fun(x:bY) y=>{x with Open:=y}) h Cu (g.sat 0 _ rfl).1 fun _ h=>cH.cons (f:=fun(x:bY) y=>{x with dO:=y}) h Cv (g.sat 1 _ rfl).1 fun _ h=>cH.nil h) fun an j=>?_
  refine RL.eP ([(⟨true,p0,0,0⟩:bY)]: (List bY)) j [an] vt yL (fun M hs g=>⟨(g.sat 0 _ zr).1,zt⟩) fun av w j=>?_
  have j:=j.freeze 0
  obtain⟨aw,ao,hj⟩:=bd hj
  refine RL.app 8 0 j GG ao fun ai w j=>?_
  refine RL.gz 7 ai j zr zr (gZ 8 j) CJ fun w j=>?_
  refine RL.nil ?_
  obtain rfl:=oi hj
  exact⟨rfl,ai,j.sp 10 [4,5,6,7,8]⟩
 rintro _ w ⟨ae,O,rfl,j⟩
 obtain rfl:=oi hb
 refine xG ?_
 exact Dh zr ⟨ae,zr,j.pk 5 [0,3,4,1]⟩
def yT (E:World) (V:List HP) (res:eF) (v:Value) (w:World):Prop:=Holds E w ([rd v res]++V)
theorem rO {p0 p1:aI} {res:eF} (j:Holds E w V) (h0:V[i0]? =some (rd v0 p0)) (h1:V[i1]? =some (rd v1 p1)) (o:m9 N p0 p1 p2=some res):
    Calls bF 55 [v0,v1,(vi p2)].toArray w (gT (yT E V res)):=by
 unfold m9 at o
 refine enter Tryz.func55 zr zr ?_
 have j:=(j.dup (i0+0) h0).dup (i1+1) h1
 refine RC.sr (RL.dD 1 v0 j zr fun aa w j=>?_)
 refine RL.dD 1 v1 j zr fun ab w j=>?_
 refine RL.alloc j GH.z fun ad w j=>?_
 refine RL.ns (RL.aZ zr iX (RL.aK 2 j zr eG cG (RL.aZ zr iX (RL.aK 1 j zr eG cG (mv (vi p2) (RL.jo p1.X0 p2 (RL.max p0.X0 (IntKind.wrap .i64 (p1.X0 - p2)) (RL.aZ zr jy ?_))))))))
 refine RL.aK 2 j zr eQ cG (RL.aZ zr jy (RL.aK 1 j zr eQ cG (mv (vi p2) (RL.jo p1.Y0 p2 (RL.max p0.Y0 (IntKind.wrap .i64 (p1.Y0 - p2)) ?_)))))
 have j:=(j.sc Int (if p0.X0< (IntKind.wrap .i64 (p1.X0 - p2)) then (IntKind.wrap .i64 (p1.X0 - p2)) else p0.X0)).sc Int (if p0.Y0< (IntKind.wrap .i64 (p1.Y0 - p2)) then (IntKind.wrap .i64 (p1.Y0 - p2)) else p0.Y0)
 refine RL.build (⟨(if p0.X0< (IntKind.wrap .i64 (p1.X0 - p2)) then (IntKind.wrap .i64 (p1.X0 - p2)) else p0.X0),(if p0.Y0< (IntKind.wrap .i64 (p1.Y0 - p2)) then (IntKind.wrap .i64 (p1.Y0 - p2)) else p0.Y0)⟩:eF) trivial rfl j [(0,(vi (if p0.X0< (IntKind.wrap .i64 (p1.X0 - p2)) then (IntKind.wrap .i64 (p1.X0 - p2)) else p0.X0))),(1,(vi (if p0.Y0< (IntKind.wrap .i64 (p1.Y0 - p2)) then (IntKind.wrap .i64 (p1.Y0 - p2)) else p0.Y0)))] rfl JG rfl (fun M hs g=>by have h:=vE M;exact cH.cons (f:=fun(x:eF) y=>{x with X:=y}) h AZ (g.sat 1 _ rfl).1 fun _ h=>cH.cons (f:=fun(x:eF) y=>{x with Y:=y}) h A0 (g.sat 0 _ rfl).1 fun _ h=>cH.nil h) fun ae j=>?_
 refine RL.bA 3 j 0 zr rp fun w j=>?_
 refine RL.nt (RC.ret ?_)
 obtain rfl:=oi o
 exact Dl 3 zr j zr zr rp fun af j=>(j.pk 9 [0])
theorem rP {p0 p1:eF} {res:Bool} (j:Holds E w V) (h0:V[i0]? =some (rd v0 p0)) (h1:V[i1]? =some (rd v1 p1)) (hb:na N p0 p1=some res):
    Calls bF 56 [v0,v1].toArray w (gT (bD E V res)):=by
 unfold na at hb
 refine enter Tryz.func56 zr zr ?_
 have j:=(j.dup (i0+0) h0).dup (i1+1) h1
 refine RC.sr (RL.dD 1 v0 j zr fun o w j=>?_)
 refine RL.dD 1 v1 j zr fun aa w j=>?_
 refine aP (vb false) (RL.ns (RL.aZ zr oh (RL.aK 1 j zr iW cG (RL.aZ zr oh (RL.aK 0 j zr iW cG (ic p0.Y p1.Y (mv (vb (decide (p0.Y<p1.Y))) (RL.gs true (decide (p0.Y<p1.Y)) (vp o 1) zr zr zr (dI oh) ?_))))))))
 refine RL.gs true (decide (p0.Y<p1.Y)) (vi p0.Y) rfl rfl rfl (bQ 1 rfl j (fun h=>by exact(cQ h:cv (true&&((decide (p0.Y<p1.Y))==false)) (vp o 1)= (vp o 1))) rfl iW cG) (RL.gs true (decide (p0.Y<p1.Y)) (vp aa 1) rfl rfl rfl (dI oh) (RL.gs true (decide (p0.Y<p1.Y)) (vi p1.Y) rfl rfl rfl (bQ 0 rfl j (fun h=>by exact(cQ h:cv (true&&((decide (p0.Y<p1.Y))==false)) (vp aa 1)= (vp aa 1))) rfl iW cG) (RL.gs true (decide (p0.Y<p1.Y)) (vb (p0.Y==p1.Y)) rfl rfl rfl (dT .eql .i64 p0.Y p1.Y rfl (fun h=>by exact(cQ h:cv (true&&((decide (p0.Y<p1.Y))==false)) (vi p0.Y)= (vi p0.Y))) (fun h=>by exact(cQ h:cv (true&&((decide (p0.Y<p1.Y))==false)) (vi p1.Y)= (vi p1.Y))) rfl) (RL.gs true (decide (p0.Y<p1.Y)) (vb (p0.Y==p1.Y)) rfl rfl rfl (dQ (hx:=fun h=>by exact(cQ h:cv (true&&((decide (p0.Y<p1.Y))==false)) (vb (p0.Y==p1.Y))= (vb (p0.Y==p1.Y))))) (RL.gs (true&&((decide (p0.Y<p1.Y))==false)) (p0.Y==p1.Y) (vp o 0) rfl rfl rfl (dI qj) (RL.gs (true&&((decide (p0.Y<p1.Y))==false)) (p0.Y==p1.Y) (vi p0.X) rfl rfl rfl (bQ 1 rfl j (fun h=>by exact(cQ h:cv ((true&&((decide (p0.Y<p1.Y))==false))&&((p0.Y==p1.Y)==true)) (vp o 0)= (vp o 0))) rfl kc cG) (RL.gs (true&&((decide (p0.Y<p1.Y))==false)) (p0.Y==p1.Y) (vp aa 0) rfl rfl rfl (dI qj) (RL.gs (true&&((decide (p0.Y<p1.Y))==false)) (p0.Y==p1.Y) (vi p1.X) rfl rfl rfl (bQ 0 rfl j (fun h=>by exact(cQ h:cv ((true&&((decide (p0.Y<p1.Y))==false))&&((p0.Y==p1.Y)==true)) (vp aa 0)= (vp aa 0))) rfl kc cG) ?_))))))))
 refine RL.gs (true&&((decide (p0.Y<p1.Y))==false)) (p0.Y==p1.Y) (vb (decide (p0.X<p1.X))) rfl rfl rfl (dT .lss .i64 p0.X p1.X rfl (fun h=>by exact(cQ h:cv ((true&&((decide (p0.Y<p1.Y))==false))&&((p0.Y==p1.Y)==true)) (vi p0.X)= (vi p0.X))) (fun h=>by exact(cQ h:cv ((true&&((decide (p0.Y<p1.Y))==false))&&((p0.Y==p1.Y)==true)) (vi p1.X)= (vi p1.X))) rfl) (RL.gs true (decide (p0.Y<p1.Y)) (vb ((p0.Y==p1.Y)&&(decide (p0.X<p1.X)))) rfl rfl rfl (nU (p0.Y==p1.Y) rfl (fun h=>by exact(cQ h:cv (true&&((decide (p0.Y<p1.Y))==false)) (vb (p0.Y==p1.Y))= (vb (p0.Y==p1.Y)))) (fun h=>by exact iU (h:=h) (true&&((decide (p0.Y<p1.Y))==false)))) (RL.pick (decide (p0.Y<p1.Y)) (vb ((decide (p0.Y<p1.Y))||((p0.Y==p1.Y)&&(decide (p0.X<p1.X))))) (m7 true rfl) (aP (vb ((decide (p0.Y<p1.Y))||((p0.Y==p1.Y)&&(decide (p0.X<p1.X))))) (RL.nt (RC.ret ?_)))))
 obtain rfl:=oi hb
 exact cI ⟨rfl,j.drop 4⟩
end Go.Gk
