/-
  Printed texts: Go functions as plain functions, and that they are. No statement of the seed is proved here.
-/
import Derived.Test.YtgjiokjfpghfgabGreatDoorG1
import Derived.Test.YtgjiokjfpghfgabGreatDoorG2
import Derived.Test.YtgjiokjfpghfgabGreatDoorG3
import Derived.Test.YtgjiokjfpghfgabGreatDoorA2
set_option linter.unusedVariables false
set_option linter.unusedSimpArgs false
set_option linter.unusedSectionVars false
set_option maxRecDepth 100000
set_option maxHeartbeats 4000000
namespace Go.Gk
open Go Go.Proofs
variable (N:Nat) {E w:World} {b0 i0 i1:Nat} {res:Int} {v0 v0_0 v0_1 v0_10 v0_11 v0_2 v0_3 v0_4 v0_5 v0_6 v0_8 v0_9 v1 v2:Value} {V:List HP}
def mA (E:World) (V:List HP) (b0:Nat) (v0_0 v0_1:Value) (v0_2 v0_3:Value) (v0_4 v0_5 v0_6:Value) (res: (List cI)×(List Int)×(List Int)×(List Int)×(List dO)) (v:Value) (w:World):Prop:=∃u0_7 u0_8 u0_9 u0_10 u0_11:Value,v = .tuple #[]/\Holds E w ([bc 67 b0 [v0_0,v0_1,v0_2,v0_3,v0_4,v0_5,v0_6,u0_7,u0_8,u0_9,u0_10,u0_11],own 116 u0_7 res.1,rd u0_8 res.2.1,rd u0_9 res.2.2.1,own 3 u0_10 res.2.2.2.1,own 70 u0_11 res.2.2.2.2]++V)
theorem mn {p0_2: (List bM)} {p0_3: (List cK)} {p0_5: (List aH)} {p0_6: (List (List Int))} {p0_8: (List Int)} {p0_9: (List Int)} {p0_10: (List Int)} {p0_11: (List dO)} {res: (List cI)×(List Int)×(List Int)×(List Int)×(List dO)} (hw:Holds E w (bc 67 b0 [v0_0,v0_1,v0_2,v0_3,v0_4,v0_5,v0_6,(.slice none 0 0),v0_8,v0_9,v0_10,v0_11]::rd v0_2 p0_2::rd v0_3 p0_3::rd v0_5 p0_5::rd v0_6 p0_6::own 3 v0_8 p0_8::own 3 v0_9 p0_9::own 3 v0_10 p0_10::own 70 v0_11 p0_11::V)) (hb:eL N p0_2 p0_3 p0_5 p0_6 p0_8 p0_9 p0_10 p0_11=some res):
    Calls bD 26 [(vp b0 0)].toArray w (gR (mA E V b0 v0_0 v0_1 v0_2 v0_3 v0_4 v0_5 v0_6 res)):=by
 unfold eL at hb
 refine enter Tryz.func26 zr zr (RC.sr (mv (vp b0 0) (RL.nilCheck zr (RL.bA zr pZ (RL.bB 0 v0_5 hw zp (RL.bE 3 p0_5 hw B1 (aO (vi p0_5.length) (RL.ns ?_))))))))
 refine mv (vi p0_5.length) (mv (vp b0 0) (RL.nilCheck zr (RL.bA zr lD (RL.bA zr lX (RL.bB 0 v0_2 hw tX (RL.bE 1 p0_2 hw vz (RL.jC (p0_5.length:Int) (p0_2.length:Int) ?_)))))))
 obtain⟨e5,ds,hb⟩:=bd hb
 refine RL.call zt zr G0 [(vi (IntKind.wrap .i64 ((p0_5.length:Int)+ (p0_2.length:Int))))] zr (aF (mH N (p0:=(IntKind.wrap .i64 ((p0_5.length:Int)+ (p0_2.length:Int)))) hw ds) ?_)
 rintro _ w ⟨a9,dt,rfl,hw⟩
 refine aO (vp a9 0) (RL.nq (RC.sr (mv (vp b0 0) (RL.nilCheck zr (RL.bA zr xZ (RL.bB 2 v0_6 hw Ex (RL.bE 6 p0_6 hw Ey (mv (vi 0) ?_))))))))
 refine RL.nt ?_
 obtain⟨bz,hN,hb⟩:=bd hb
 refine RC.fold (fun(bj:Nat) (bz: (List Int)) U w=>∃c5:Value,SH E V [(0,vp b0 0),(2,vi p0_5.length),(3,vp a9 0),(35,v0_6),(36,vi p0_6.length),(37,vi bj)] [bc 67 b0 [v0_0,v0_1,v0_2,v0_3,v0_4,v0_5,v0_6,(.slice none 0 0),v0_8,v0_9,v0_10,v0_11],rd v0_2 p0_2,rd v0_3 p0_3,rd v0_5 p0_5,rd v0_6 p0_6,own 3 v0_8 p0_8,own 3 v0_9 p0_9,own 3 v0_10 p0_10,own 70 v0_11 p0_11,bc 121 a9 [c5],own 3 c5 bz] U w) (fun(bz: (List Int)) U w=>∃ca:Value,SH E V [(0,vp b0 0),(2,vi p0_5.length),(3,vp a9 0)] [bc 67 b0 [v0_0,v0_1,v0_2,v0_3,v0_4,v0_5,v0_6,(.slice none 0 0),v0_8,v0_9,v0_10,v0_11],rd v0_2 p0_2,rd v0_3 p0_3,rd v0_5 p0_5,rd v0_6 p0_6,own 3 v0_8 p0_8,own 3 v0_9 p0_9,own 3 v0_10 p0_10,own 70 v0_11 p0_11,bc 121 a9 [ca],own 3 ca bz] U w) hN ?_ ?_ ?_ ?_
 ·exact⟨dt,hw.sp 11 [2,3,4,5,6,7,8,9,10,0,1]⟩
 ·rintro hm bz _ w ⟨du,O,rfl,hw⟩
  refine RC.sr (ic ((p0_6.length:Int)) ((p0_6.length:Int)) (RL.nq (RC.cT m4 (RC.ex ?_))))
  exact⟨rfl,du,hw.sp 11 [0,1,2,3,4,5,6,7,8,9,10]⟩
 ·rintro hm bj bz s' _ w hk ⟨dv,O,rfl,hw⟩ hb
  refine RC.sr (ic ((bj:Int)) ((p0_6.length:Int)) (RL.nq (RC.cS (m0 hk) (RC.ss (RC.bs (mv (vi bj) ?_))))))
  obtain⟨bt,dw,hb⟩:=bd hb
  refine RL.cC 4 hw Au dw fun e6 hw=>(RL.bT 0 bt hw fF fun cb hw=>(aO (vi bj) (aO cb (RL.ns (mv cb (RL.bE 0 bt hw lM (mv (vi 0) (RL.nt ?_))))))))
  obtain⟨b4,hN,hb⟩:=bd hb
  refine RC.fold (fun(cf:Nat) (b4: (List Int)) U w=>∃c6:Value,SH E V [(0,vp b0 0),(2,vi p0_5.length),(3,vp a9 0),(4,vi bj),(35,v0_6),(36,vi p0_6.length),(37,vi bj),(42,cb),(43,vi bt.length),(44,vi cf)] [bc 67 b0 [v0_0,v0_1,v0_2,v0_3,v0_4,v0_5,v0_6,(.slice none 0 0),v0_8,v0_9,v0_10,v0_11],rd v0_2 p0_2,rd v0_3 p0_3,rd v0_5 p0_5,rd v0_6 p0_6,own 3 v0_8 p0_8,own 3 v0_9 p0_9,own 3 v0_10 p0_10,own 70 v0_11 p0_11,bc 121 a9 [c6],own 3 c6 b4,rd cb bt] U w) (fun(b4: (List Int)) U w=>∃cg:Value,SH E V [(0,vp b0 0),(2,vi p0_5.length),(3,vp a9 0),(35,v0_6),(36,vi p0_6.length),(37,vi bj)] [bc 67 b0 [v0_0,v0_1,v0_2,v0_3,v0_4,v0_5,v0_6,(.slice none 0 0),v0_8,v0_9,v0_10,v0_11],rd v0_2 p0_2,rd v0_3 p0_3,rd v0_5 p0_5,rd v0_6 p0_6,own 3 v0_8 p0_8,own 3 v0_9 p0_9,own 3 v0_10 p0_10,own 70 v0_11 p0_11,bc 121 a9 [cg],own 3 cg b4,rd cb bt] U w) hN ?_ ?_ ?_ ?_
  ·exact⟨dv,hw.sp 13 [2,3,4,5,6,7,8,9,10,11,12,0]⟩
  ·rintro hm b4 _ w ⟨dx,O,rfl,hw⟩
   refine RC.sr (ic ((bt.length:Int)) ((bt.length:Int)) (RL.nq (RC.cT m4 (RC.ex ?_))))
   exact⟨rfl,dx,hw.sp 12 [0,1,2,3,4,5,6,7,8,9,10,11]⟩
  ·rintro hm cf b4 s' _ w hk ⟨e7,O,rfl,hw⟩ hb
   refine RC.sr (ic ((cf:Int)) ((bt.length:Int)) (RL.nq (RC.cS (m0 hk) (RC.ss (RC.bs ?_)))))
   obtain⟨cc,dy,hb⟩:=bd hb
   refine RL.cC 11 hw eF dy fun e8 hw=>(RL.bK cc 0 hw cH (aO (vi cc) (RL.nt (RC.region (mv (vp a9 0) (mv (vi cc) (mv (vi p0_5.length) (mv (vi bj) ?_))))))))
   refine RL.jC (p0_5.length:Int) (bj:Int) ?_
   have hw:=(hw.pull 11).pull 11
   obtain⟨e9,dz,hb⟩:=bd hb
   refine RL.call zt zr G1 [(vp a9 0),(vi cc),(vi (IntKind.wrap .i64 ((p0_5.length:Int)+ (bj:Int))))] zr (aF (lR N (p1:=cc) (p2:=(IntKind.wrap .i64 ((p0_5.length:Int)+ (bj:Int)))) hw dz) ?_)
   rintro _ w ⟨d3,rfl,hw⟩
   refine RL.nil (bU (aG (RC.region (RL.inc hk hm (mv (vi ((cf+1:Nat):Int)) (RL.nil ?_))))))
   obtain rfl:=oi hb
   exact⟨rfl,d3,hw.sp 15 [3,4,5,6,7,8,9,10,11,0,1,14]⟩
  rintro _ w ⟨cg,O,rfl,hw⟩
  refine bU (aG (RC.region (RL.inc hk hm (mv (vi ((bj+1:Nat):Int)) (RL.nil ?_)))))
  obtain rfl:=oi hb
  exact⟨rfl,cg,hw.sp 12 [0,1,2,3,4,5,6,7,8,9,10]⟩
 rintro _ w ⟨ca,O,rfl,hw⟩
 refine aG (RC.seq ?_)
 obtain⟨d4,d5,hb⟩:=bd hb
 obtain⟨CS,d6,hb⟩:=bd hb
 refine RC.CA E V mixed [1,1,1,0,1,1,1,1,0,0,0,1,1,0,1,1,0] [3,10,13,16] (fun(x:Value×Value)=>(fun al an=>[(0,56,(vp b0 0)),(1,57,(vp b0 0)),(2,58,(vi p0_5.length)),(3,59,al),(4,60,(vp b0 0)),(5,61,(vp b0 0)),(6,62,(vp b0 0)),(7,63,(vp b0 2)),(8,64,v0_2),(9,65,(vi p0_2.length)),(10,66,an),(11,67,(vp b0 0)),(12,68,(vp b0 8)),(14,69,(vp b0 0)),(15,70,(vp b0 9))]) x.1 x.2) [(0,vp b0 0),(2,vi p0_5.length),(3,vp a9 0)] [] (fun(D:Nat->Bool) (x:Value×Value)=>(fun al an=>[bif D 0 then (own 3 al d4) else aV,bif D 1 then (own 3 an CS) else aV,bif D 3 then (bc 67 b0 [v0_0,v0_1,v0_2,v0_3,v0_4,v0_5,v0_6,(.slice none 0 0),al,an,v0_10,v0_11]) else (bif D 2 then (bc 67 b0 [v0_0,v0_1,v0_2,v0_3,v0_4,v0_5,v0_6,(.slice none 0 0),al,v0_9,v0_10,v0_11]) else (bc 67 b0 [v0_0,v0_1,v0_2,v0_3,v0_4,v0_5,v0_6,(.slice none 0 0),v0_8,v0_9,v0_10,v0_11])),rd v0_2 p0_2,rd v0_3 p0_3,rd v0_5 p0_5,rd v0_6 p0_6,own 3 v0_8 p0_8,own 3 v0_9 p0_9,own 3 v0_10 p0_10,own 70 v0_11 p0_11,bc 121 a9 [ca],own 3 ca bz]) x.1 x.2) (fun x=>by kernel_rfl) ?_ ⟨fun _=>jd gn,fun _=>jd gn,fun _=>jd gn,?_,fun _=>jd gn,fun _=>uO gn,fun _=>lU gn lD,fun _=>lU gn lX,?_,?_,?_,fun _=>uO gn,fun _=>lU gn Av,?_,fun _=>uO gn,fun _=>lU gn x0,?_,trivial⟩ ?_
 ·have hw:=((hw.drew).aV).aV
  exact⟨(undef,undef),dY.none,(Ba zr),zt,hw⟩
 ·rintro D U w hD af ad ⟨⟨al,an⟩,hv,ha,_,hw⟩
  obtain⟨O,rfl⟩:=(ac (hv.at 2 rfl (af.1 rfl)) az).eU
  have hw:=((hw.bV 0 hD).bV 2 (nh ad hD 16)).bV 2 (nh ad hD 13)
  refine RL.mk (p0_5.length:Int) hw sV Ge d5 fun cv w hw=>?_
  have hw:=(((hw.pl 14 [0,2,3,4,5,6,7,8,9,10,11,12,13]).cF 0 true aV).eR 2 (D 13) (nh ad hD 13) (bc 67 b0 [v0_0,v0_1,v0_2,v0_3,v0_4,v0_5,v0_6,(.slice none 0 0),cv,v0_9,v0_10,v0_11])).eR 2 (D 16) (nh ad hD 16) (bc 67 b0 [v0_0,v0_1,v0_2,v0_3,v0_4,v0_5,v0_6,(.slice none 0 0),cv,an,v0_10,v0_11])
  exact RL.nil ⟨rfl,(cv,an),hv.pu 3,ha.u,zt,hw⟩
 ·rintro D U w hD af ad ⟨⟨al,an⟩,hv,ha,_,hw⟩
  obtain⟨O,rfl⟩:=(ac (hv.at 7 rfl (af.1 rfl)) az).eU
  have hw:=(hw.bV 2 (nh ad hD 16)).bV 2 (nh ad hD 13)
  refine RL.bB 2 v0_2 hw tX ?_
  have hw:=(hw.eR 2 (D 13) (nh ad hD 13) (bc 67 b0 [v0_0,v0_1,v0_2,v0_3,v0_4,v0_5,v0_6,(.slice none 0 0),al,v0_9,v0_10,v0_11])).eR 2 (D 16) (nh ad hD 16) (bc 67 b0 [v0_0,v0_1,v0_2,v0_3,v0_4,v0_5,v0_6,(.slice none 0 0),al,an,v0_10,v0_11])
  exact RL.nil ⟨rfl,(al,an),hv.pu 8,ha.u,zt,hw⟩
 ·rintro D U w hD af ad ⟨⟨al,an⟩,hv,ha,_,hw⟩
  obtain⟨O,rfl⟩:=(ac (hv.at 8 rfl (af.1 rfl)) az).eU
  refine RL.bE 3 p0_2 hw vz ?_
  exact RL.nil ⟨rfl,(al,an),hv.pu 9,ha.u,zt,hw⟩
 ·rintro D U w hD af ad ⟨⟨al,an⟩,hv,ha,_,hw⟩
  obtain⟨O,rfl⟩:=(ac (hv.at 9 rfl (af.1 rfl)) az).eU
  have hw:=(hw.bV 1 hD).bV 2 (nh ad hD 16)
  refine RL.mk (p0_2.length:Int) hw sV Ge d6 fun c7 w hw=>?_
  have hw:=((hw.pl 14 [1,0,3,4,5,6,7,8,9,10,11,12,13]).cF 1 true aV).eR 2 (D 16) (nh ad hD 16) (bc 67 b0 [v0_0,v0_1,v0_2,v0_3,v0_4,v0_5,v0_6,(.slice none 0 0),al,c7,v0_10,v0_11])
  exact RL.nil ⟨rfl,(al,c7),hv.pu 10,ha.u,zt,hw⟩
 ·rintro D U w hD af ad ⟨⟨al,an⟩,hv,ha,_,hw⟩
  obtain⟨O,rfl⟩:=(ac (hv.at 3 rfl (af.2.1 rfl)) (ac (hv.at 12 rfl (af.1 rfl)) az)).eU
  have hw:=((hw.cE 0 (af.2.1 rfl)).bV 2 (nh ad hD 16)).bV 2 hD
  refine RL.g9 2 al hw zr zr (iI 0 hw) fF fun w hw=>?_
  have hw:=((hw.cF (hb:=af.2.1 rfl) 0 (D 3) aV).cF 2 true (bc 67 b0 [v0_0,v0_1,v0_2,v0_3,v0_4,v0_5,v0_6,(.slice none 0 0),v0_8,v0_9,v0_10,v0_11])).eR 2 (D 16) (nh ad hD 16) (bc 67 b0 [v0_0,v0_1,v0_2,v0_3,v0_4,v0_5,v0_6,(.slice none 0 0),al,an,v0_10,v0_11])
  exact RL.nil ⟨rfl,(al,an),hv.n1,ha,zt,hw⟩
 ·rintro D U w hD af ad ⟨⟨al,an⟩,hv,ha,_,hw⟩
  obtain⟨O,rfl⟩:=(ac (hv.at 10 rfl (af.2.1 rfl)) (ac (hv.at 14 rfl (af.1 rfl)) az)).eU
  have hw:=((hw.cE 1 (af.2.1 rfl)).bV 2 hD).cE 2 (af.2.2.1 rfl)
  refine RL.g9 2 an hw zr zr (iI 1 hw) fF fun w hw=>?_
  have hw:=(hw.cF (hb:=af.2.1 rfl) 1 (D 10) aV).cF 2 true (bif D 13 then (bc 67 b0 [v0_0,v0_1,v0_2,v0_3,v0_4,v0_5,v0_6,(.slice none 0 0),al,v0_9,v0_10,v0_11]) else (bc 67 b0 [v0_0,v0_1,v0_2,v0_3,v0_4,v0_5,v0_6,(.slice none 0 0),v0_8,v0_9,v0_10,v0_11]))
  exact RL.nil ⟨rfl,(al,an),hv.n1,ha,zt,hw⟩
 rintro D U w a7 ⟨⟨al,an⟩,hv,ha,_,hw⟩
 have hw:=((hw.cE 0 (jy a7 3)).cE 1 (jy a7 10)).cE 2 (jy a7 16)
 obtain⟨O,rfl⟩:=(ac (ha.at 0 rfl) (ac (ha.at 1 rfl) (ac (ha.at 2 rfl) az))).eU
 refine aG (RC.seq (RC.sr (mv (vp a9 0) ?_)))
 have hw:=(hw.pull 12).pull 12
 obtain⟨a8,d7,hb⟩:=bd hb
 refine RL.call zt zr IH [(vp a9 0)] zr (aF (pK N hw d7) ?_)
 rintro bk w ⟨_,fa,rfl,hw⟩
 refine RL.fU 0 a8.1 hw Ey (mv (vi 0) (RL.nt ?_))
 obtain⟨a5,hN,hb⟩:=bd hb
 refine RC.fold (fun(bo:Nat) (a5: (List cI)×(List Int)×(List Int)) U w=>∃(c8:Value) (us442:List bW),SH E V [(0,vp b0 0),(2,vi p0_5.length),(72,bk),(73,vi a8.1.length),(74,vi bo)] [bc 67 b0 [v0_0,v0_1,v0_2,v0_3,v0_4,v0_5,v0_6,c8,al,an,v0_10,v0_11],own 116 c8 us442,iv bO us442 a5.1 none,rd v0_2 p0_2,rd v0_3 p0_3,rd v0_5 p0_5,rd v0_6 p0_6,own 3 al a5.2.1,own 3 an a5.2.2,own 3 v0_10 p0_10,own 70 v0_11 p0_11,own 56 bk a8.1] U w) (fun(a5: (List cI)×(List Int)×(List Int)) U w=>∃(aj:Value) (us444:List bW),SH E V [(0,vp b0 0)] [bc 67 b0 [v0_0,v0_1,v0_2,v0_3,v0_4,v0_5,v0_6,aj,al,an,v0_10,v0_11],own 116 aj us444,iv bO us444 a5.1 none,rd v0_2 p0_2,rd v0_3 p0_3,rd v0_5 p0_5,rd v0_6 p0_6,own 3 al a5.2.1,own 3 an a5.2.2,own 3 v0_10 p0_10,own 70 v0_11 p0_11,own 56 bk a8.1] U w) hN ?_ ?_ ?_ ?_
 ·have hw:=(hw.xJ bO).dH bW 116
  exact⟨(.slice none 0 0),([]:List bW),hw.sp 18 [7,0,1,8,9,10,11,5,6,14,15,2]⟩
 ·rintro hm a5 _ w ⟨d8,us604,O,rfl,hw⟩
  refine RC.sr (ic ((a8.1.length:Int)) ((a8.1.length:Int)) (RL.nq (RC.cT m4 (RC.ex ?_))))
  exact⟨rfl,d8,us604,hw.sp 12 [0,1,2,3,4,5,6,7,8,9,10,11]⟩
 ·rintro hm bo a5 s' _ w hk ⟨bg,us446,O,rfl,hw⟩ hb
  refine RC.sr (ic ((bo:Int)) ((a8.1.length:Int)) (RL.nq (RC.cS (m0 hk) (RC.ss (RC.bs ?_)))))
  obtain⟨bm,cw,hb⟩:=bd hb
  refine RL.bJ 11 hw zr zr Au cw (RL.kP (f:=(fun x=>x)) 11 hw (jv 11 hw cw 0) (aY cw).2.1 Fd.self fF fun bp hw=>?_)
  refine aO bp (RL.ns (RL.pQ zr hw G2 zr fun bu w hw=>?_))
  refine RL.nq (RC.sr (mv bp (RL.bE 1 bm hw lM (mv (vi 0) (RL.nt ?_)))))
  obtain⟨ar,hN,hb⟩:=bd hb
  refine RC.fold (fun(b5:Nat) (ar: (List Int)×(List Int)×(List Int)×(List Int)) U w=>∃c9 da:Value,SH E V [(0,vp b0 0),(2,vi p0_5.length),(10,vp bu 0),(72,bk),(73,vi a8.1.length),(74,vi bo),(78,bp),(79,vi bm.length),(80,vi b5)] [bc 67 b0 [v0_0,v0_1,v0_2,v0_3,v0_4,v0_5,v0_6,bg,al,an,v0_10,v0_11],rd v0_2 p0_2,rd v0_3 p0_3,rd v0_5 p0_5,rd v0_6 p0_6,own 116 bg us446,iv bO us446 a5.1 none,own 3 al ar.1,own 3 an ar.2.1,own 3 v0_10 p0_10,own 70 v0_11 p0_11,bc 116 bu [c9,da,(.slice none 0 0)],own 3 c9 ar.2.2.1,own 3 da ar.2.2.2,own 56 bk a8.1,rd bp bm] U w) (fun(ar: (List Int)×(List Int)×(List Int)×(List Int)) U w=>∃bw bq:Value,SH E V [(0,vp b0 0),(2,vi p0_5.length),(10,vp bu 0),(72,bk),(73,vi a8.1.length),(74,vi bo)] [bc 67 b0 [v0_0,v0_1,v0_2,v0_3,v0_4,v0_5,v0_6,bg,al,an,v0_10,v0_11],rd v0_2 p0_2,rd v0_3 p0_3,rd v0_5 p0_5,rd v0_6 p0_6,own 116 bg us446,iv bO us446 a5.1 none,own 3 al ar.1,own 3 an ar.2.1,own 3 v0_10 p0_10,own 70 v0_11 p0_11,bc 116 bu [bw,bq,(.slice none 0 0)],own 3 bw ar.2.2.1,own 3 bq ar.2.2.2,own 56 bk a8.1,rd bp bm] U w) hN ?_ ?_ ?_ ?_
  ·have hw:=(hw.dH Int 3).dH Int 3
   exact⟨(.slice none 0 0),(.slice none 0 0),hw.sp 16 [4,7,8,9,10,5,6,11,12,13,14,2,1,0,15,3]⟩
  ·rintro hm ar _ w ⟨d9,ea,O,rfl,hw⟩
   refine RC.sr (ic ((bm.length:Int)) ((bm.length:Int)) (RL.nq (RC.cT m4 (RC.ex ?_))))
   exact⟨rfl,d9,ea,hw.sp 16 [0,1,2,3,4,5,6,7,8,9,10,11,12,13,14,15]⟩
  ·rintro hm b5 ar s' _ w hk ⟨ch,cx,O,rfl,hw⟩ hb
   refine RC.sr (ic ((b5:Int)) ((bm.length:Int)) (RL.nq (RC.cS (m0 hk) (RC.ss (RC.bs ?_)))))
   obtain⟨a2,eb,hb⟩:=bd hb
   refine RL.cC 15 hw eF eb fun fb hw=>(RL.bK a2 0 hw cH (aO (vi a2) (RL.nt (RC.bs (mv (vi a2) (mv (vi p0_5.length) (ic a2 ((p0_5.length:Int)) (aO (vb (decide (a2< (p0_5.length:Int)))) ?_))))))))
   refine RL.nt ?_
   obtain⟨b6,hj,hb⟩:=bd hb
   refine RC.jn (fun(b6: (List Int)×(List Int)×(List Int)×(List Int)) U w=>∃cj ck:Value,SH E V [(0,vp b0 0),(2,vi p0_5.length),(10,vp bu 0),(72,bk),(73,vi a8.1.length),(74,vi bo),(78,bp),(79,vi bm.length),(80,vi b5)] [bc 67 b0 [v0_0,v0_1,v0_2,v0_3,v0_4,v0_5,v0_6,bg,al,an,v0_10,v0_11],rd v0_2 p0_2,rd v0_3 p0_3,rd v0_5 p0_5,rd v0_6 p0_6,own 116 bg us446,iv bO us446 a5.1 none,own 3 al b6.1,own 3 an b6.2.1,own 3 v0_10 p0_10,own 70 v0_11 p0_11,bc 116 bu [cj,ck,(.slice none 0 0)],own 3 cj b6.2.2.1,own 3 ck b6.2.2.2,own 56 bk a8.1,rd bp bm] U w) b6 ?_ ?_
   ·refine fq hj (fun hc hj=>?_) fun hc hj=>?_
    ·refine RC.seq (RC.wz mixed [0,0,0,0,0,0,0,0,0,0,0,2] [0,1,2,3,4,5,6,7,8,9,10,11] ?_)
     have hw:=hw.drew
     refine DP.e0 zr (mv (vp b0 0) (bZ zr (RL.nilCheck zr (bZ zr (RL.bA zr Av (bZ zr (RL.bB 1 al hw fF (bZ zr ?_))))))))
     refine mv (vi a2) (bZ zr (mv (vp b0 0) (bZ zr (RL.nilCheck zr (bZ zr (RL.bA zr t7 (bZ zr (RL.bB 1 bg hw B3 ?_))))))))
     refine bZ zr (RL.pR 6 7 a5.1 zr hw zr zr zr G3 (bZ zr ?_))
     obtain⟨fc,cy,hj⟩:=bd hj
     refine RL.bJ 8 hw zr zr eF cy (sB zr ?_)
     have hw:=hw.sc Int (a5.1.length:Int)
     refine RL.gj (f:=(fun _ y=>y)) 9 0 hw (jv 9 hw cy 0) (aY cy).2.1 zr Fs.self cH fun w hw=>?_
     refine DP.d2 zt (DP.z (aG (RC.region (RL.bA zr x4 (RL.bB 13 ch hw fF (mv (vi a2) ?_))))))
     have hw:=hw.sc Int a2
     refine RL.eY ([a2]: (List Int)) hw [(vi a2)] eF CB (fun M hs g=>⟨(g.sat 0 _ zr).1,zt⟩) fun fe w hw=>?_
     have hw:=hw.freeze 0
     obtain⟨ff,ec,hj⟩:=bd hj
     refine RL.app 16 0 hw sV ec fun db w hw=>?_
     refine RL.bA zr x4 (RL.g9 15 db hw zr zr (iI 16 hw) fF fun w hw=>?_)
     refine RL.nil ?_
     obtain rfl:=oi hj
     exact⟨rfl,db,cx,hw.sp 20 [4,5,6,7,8,9,10,11,12,13,14,15,16,17,18,19]⟩
    refine RC.sr (mv (vp b0 0) (RL.nilCheck zr (RL.bA zr lD (RL.bA zr lX (RL.bB 1 v0_2 hw tX (mv (vi a2) (mv (vi p0_5.length) (RL.jC a2 (p0_5.length:Int) ?_))))))))
    obtain⟨dc,ed,hj⟩:=bd hj
    refine RL.cC 2 hw xV ed fun fg hw=>(RL.gS 0 hw zr xY qU fun fh hw=>(RL.bK dc.gE 0 hw uQ (aO (vb dc.gE) (RL.nt ?_))))
    obtain⟨cl,hjj,hj⟩:=bd hj
    refine RC.jn (fun(cl: (List Int)×(List Int)) U w=>∃cm:Value,SH E V [(0,vp b0 0),(2,vi p0_5.length),(10,vp bu 0),(72,bk),(73,vi a8.1.length),(74,vi bo),(78,bp),(79,vi bm.length),(80,vi b5)] [bc 67 b0 [v0_0,v0_1,v0_2,v0_3,v0_4,v0_5,v0_6,bg,al,an,v0_10,v0_11],rd v0_2 p0_2,rd v0_3 p0_3,rd v0_5 p0_5,rd v0_6 p0_6,own 116 bg us446,iv bO us446 a5.1 none,own 3 al ar.1,own 3 an cl.1,own 3 v0_10 p0_10,own 70 v0_11 p0_11,bc 116 bu [ch,cm,(.slice none 0 0)],own 3 cm cl.2,own 3 ch ar.2.2.1,own 56 bk a8.1,rd bp bm] U w) cl ?_ ?_
    ·refine fq hjj (fun hc hjj=>?_) fun hc hjj=>?_
     rotate_left
     ·refine RC.region (mv (vp b0 0) (RL.nilCheck zr (RL.bA zr x0 (RL.bB 3 an hw fF (mv (vi a2) (mv (vi p0_5.length) (RL.jC a2 (p0_5.length:Int) ?_)))))))
      obtain⟨fi,cz,hjj⟩:=bd hjj
      refine RL.bJ 11 hw zr zr eF cz ?_
      have hw:=hw.sc Int (-1)
      refine RL.gj (f:=(fun _ y=>y)) 12 0 hw (jv 12 hw cz 0) (aY cz).2.1 zr Fs.self cH fun w hw=>?_
      refine RL.nil ?_
      obtain rfl:=oi hjj
      exact⟨rfl,cx,hw.sp 20 [4,5,6,7,8,9,10,11,12,13,14,15,17,16,18,19]⟩
     refine RC.seq (RC.wz mixed [0,0,0,0,0,0,0,0,0,0,0,0,0,2] [0,1,2,3,4,5,6,7,8,9,10,11,12,13] ?_)
     have hw:=hw.drew
     refine DP.e0 zr (mv (vp b0 0) (bZ zr (RL.nilCheck zr (bZ zr (RL.bA zr x0 (bZ zr (RL.bB 3 an hw fF (bZ zr ?_))))))))
     refine mv (vi a2) (bZ zr (mv (vi p0_5.length) (bZ zr (RL.jC a2 (p0_5.length:Int) (bZ zr (mv (vp b0 0) (bZ zr (RL.nilCheck zr ?_))))))))
     refine bZ zr (RL.bA zr t7 (bZ zr (RL.bB 3 bg hw B3 (bZ zr (RL.pR 8 9 a5.1 zr hw zr zr zr G3 (bZ zr ?_))))))
     obtain⟨fj,c0,hjj⟩:=bd hjj
     refine RL.bJ 11 hw zr zr eF c0 (sB zr ?_)
     have hw:=hw.sc Int (a5.1.length:Int)
     refine RL.gj (f:=(fun _ y=>y)) 12 0 hw (jv 12 hw c0 0) (aY c0).2.1 zr Fs.self cH fun w hw=>?_
     refine DP.d2 zt (DP.z (aG (RC.region (RL.bA zr x5 (RL.bB 15 cx hw fF (mv (vi a2) (mv (vi p0_5.length) (RL.jC a2 (p0_5.length:Int) ?_))))))))
     have hw:=hw.sc Int (IntKind.wrap .i64 (a2 - (p0_5.length:Int)))
     refine RL.eY ([(IntKind.wrap .i64 (a2 - (p0_5.length:Int)))]: (List Int)) hw [(vi (IntKind.wrap .i64 (a2 - (p0_5.length:Int))))] eF CB (fun M hs g=>⟨(g.sat 0 _ zr).1,zt⟩) fun fk w hw=>?_
     have hw:=hw.freeze 0
     obtain⟨fl,ee,hjj⟩:=bd hjj
     refine RL.app 19 0 hw sV ee fun dd w hw=>?_
     refine RL.bA zr x5 (RL.g9 17 dd hw zr zr (iI 19 hw) fF fun w hw=>?_)
     refine RL.nil ?_
     obtain rfl:=oi hjj
     exact⟨rfl,dd,hw.sp 22 [6,7,8,9,10,11,12,13,14,15,16,17,19,18,20,21]⟩
    rintro _ w ⟨cm,O,rfl,hw⟩
    obtain rfl:=oi hj
    exact⟨rfl,ch,cm,hw.sp 16 [0,1,2,3,4,5,6,7,8,9,10,11,13,12,14,15]⟩
   rintro _ w ⟨cj,ck,O,rfl,hw⟩
   refine bU (bU (aG (RC.region (RL.inc hk hm (mv (vi ((b5+1:Nat):Int)) (RL.nil ?_))))))
   obtain rfl:=oi hb
   exact⟨rfl,cj,ck,hw.sp 16 [0,1,2,3,4,5,6,7,8,9,10,11,12,13,14,15]⟩
  rintro _ w ⟨bw,bq,O,rfl,hw⟩
  refine aG (RC.sr (RL.bA zr x4 (RL.bB 11 bw hw fF (RL.fU 12 ar.2.2.1 hw lM (RL.bA zr x5 (RL.bB 11 bq hw fF (RL.fU 13 ar.2.2.2 hw lM (RL.jC (ar.2.2.1.length:Int) (ar.2.2.2.length:Int) ?_))))))))
  refine ic ((IntKind.wrap .i64 ((ar.2.2.1.length:Int)+ (ar.2.2.2.length:Int)))) 0 (RL.nt ?_)
  obtain⟨c1,hj,hb⟩:=bd hb
  refine RC.jn (fun(c1: (List cI)) U w=>∃(cn:Value) (us598:List bW),SH E V [(0,vp b0 0),(2,vi p0_5.length),(72,bk),(73,vi a8.1.length),(74,vi bo)] [bc 67 b0 [v0_0,v0_1,v0_2,v0_3,v0_4,v0_5,v0_6,cn,al,an,v0_10,v0_11],own 116 cn us598,iv bO us598 c1 none,rd v0_2 p0_2,rd v0_3 p0_3,rd v0_5 p0_5,rd v0_6 p0_6,own 3 al ar.1,own 3 an ar.2.1,own 3 v0_10 p0_10,own 70 v0_11 p0_11,own 56 bk a8.1] U w) c1 ?_ ?_
  ·refine fq hj (fun hc hj=>?_) fun hc hj=>?_
   rotate_left
   ·refine RC.skip ?_
    obtain rfl:=oi hj
    exact⟨rfl,bg,us446,hw.sp 16 [0,5,6,1,2,3,4,7,8,9,10,14]⟩
   have hw:=hw.drew
   refine RC.CW (fun w=>Holds E w ([bc 67 b0 [v0_0,v0_1,v0_2,v0_3,v0_4,v0_5,v0_6,bg,al,an,v0_10,v0_11]]++V)) mixed zr [1,1,1,1,1,0,2,2,0,0,2] [0,1,2,3,4,5,6,7,8,9,10] (hw.pk 16 [0]) (DP.e1 (vp b0 0) zr (fun w=>RL.move (vp b0 0) zt DP.d1) (DP.e1 (vp b0 0) zr (fun w=>RL.move (vp b0 0) zt DP.d1) (DP.e1 (vp b0 0) zr (fun w=>RL.nilCheck zr DP.d1) (DP.e1 (vp b0 7) zr (fun w=>RL.bA zr t7 DP.d1) (DP.FH bg zr (fun w hw=>RL.bB 0 bg hw B3 DP.d1) (DP.e0 zr (RL.CO (i:=11) (cs:=[bw,bq,(.slice none 0 0)]) zt zr hw zr zr G4 zr (sB zr ?_))))))))
   have hw:=((((hw.dH fB 38).A2 (i:=0) rfl).freeze 14).freeze 15).xI (cs:=[bw,bq,(.slice none 0 0)]) (x:=(⟨ar.2.2.1,ar.2.2.2,(rv (.slice none 0 0))⟩:bW)) (fun M hs g=>⟨[bw],[bq,(.slice none 0 0)],rfl,(ky (g.sat 14 _ rfl).1),⟨[bq],[(.slice none 0 0)],rfl,(ky (g.sat 15 _ rfl).1),(ky (g.sat 0 _ rfl).1)⟩⟩) rfl
   refine RL.eY ([(⟨ar.2.2.1,ar.2.2.2,(rv (.slice none 0 0))⟩:bW)]:List bW) hw [(.agg ([bw,bq,(.slice none 0 0)]:List Value).toArray)] FT G5 (fun M hs g=>⟨(g.sat 0 _ zr).1,zt⟩) fun fm w hw=>(DP.d2 (hw.pk 20 [4]) (DP.e2 zr ?_))
   obtain⟨fo,ef,hj⟩:=bd hj
   have hw:=hw.freeze 0
   refine RL.BL (i:=9) (j:=0) (b:=10) (o:=3) (X:=bO) (ur:=(⟨ar.2.2.1,ar.2.2.2,(rv (.slice none 0 0))⟩:bW)) (xr:=(⟨ar.2.2.1,ar.2.2.2,([]: (List fB))⟩:cI)) (u:=(.slice none 0 0)) (y:=([]: (List fB))) (fun _ _ ho=>⟨⟨rfl,rfl⟩,ho⟩) trivial rfl hw rfl rfl rfl rfl rfl rfl (by decide) (by decide) (by decide) II ef fun de w hw=>?_
   refine DP.d2 (hw.pk 20 [4]) (DP.e0 zr (RL.nilCheck zr (bZ zr (RL.bA zr t7 (DP.d0 (DP.Jq zr zr (RL.g9 4 de hw zr zr (iI 9 hw) B3 fun w hw=>?_)))))))
   refine DP.d2 zt (DP.z ?_)
   obtain rfl:=oi hj
   exact⟨rfl,de,(us446++[(⟨ar.2.2.1,ar.2.2.2,(rv (.slice none 0 0))⟩:bW)]),hw.sp 20 [4,9,10,5,6,7,8,11,12,13,14,18]⟩
  rintro _ w ⟨cn,us598,O,rfl,hw⟩
  refine bU (aG (RC.region (RL.inc hk hm (mv (vi ((bo+1:Nat):Int)) (RL.nil ?_)))))
  obtain rfl:=oi hb
  exact⟨rfl,cn,us598,hw.sp 12 [0,1,2,3,4,5,6,7,8,9,10,11]⟩
 rintro _ w ⟨aj,us444,O,rfl,hw⟩
 refine aG (RC.sr (mv (vp b0 0) (RL.nilCheck zr (RL.bA zr lD (RL.bA zr tZ (RL.bB 0 v0_3 hw BY (RL.bE 4 p0_3 hw C2 (mv (vi 0) ?_))))))))
 refine RL.nt ?_
 obtain⟨ai,hN,hb⟩:=bd hb
 refine RC.fold (fun(b2:Nat) (ai: (List cI)×(List Int)×(List Int)×(List Int)×(List dO)) U w=>∃(df dg:Value) (dh di:Value) (us819:List bW),SH E V [(0,vp b0 0),(170,v0_3),(171,vi p0_3.length),(172,vi b2)] [bc 67 b0 [v0_0,v0_1,v0_2,v0_3,v0_4,v0_5,v0_6,aj,df,dg,dh,di],rd df ai.2.1,rd dg ai.2.2.1,own 3 dh ai.2.2.2.1,own 70 di ai.2.2.2.2,rd v0_2 p0_2,rd v0_3 p0_3,rd v0_5 p0_5,rd v0_6 p0_6,own 116 aj us819,iv bO us819 ai.1 none] U w) (fun(ai: (List cI)×(List Int)×(List Int)×(List Int)×(List dO)) U w=>∃(cp cq:Value) (cr ct:Value) (us824:List bW),SH E V [(0,vp b0 0)] [bc 67 b0 [v0_0,v0_1,v0_2,v0_3,v0_4,v0_5,v0_6,aj,cp,cq,cr,ct],rd cp ai.2.1,rd cq ai.2.2.1,own 3 cr ai.2.2.2.1,own 70 ct ai.2.2.2.2,rd v0_2 p0_2,rd v0_3 p0_3,rd v0_5 p0_5,rd v0_6 p0_6,own 116 aj us824,iv bO us824 ai.1 none] U w) hN ?_ ?_ ?_ ?_
 ·have hw:=(hw.freeze 7).freeze 8
  exact⟨al,an,v0_10,v0_11,us444,hw.sp 12 [0,7,8,9,10,3,4,5,6,1,2]⟩
 ·rintro hm ai _ w ⟨eg,eh,ei,ej,us932,O,rfl,hw⟩
  refine RC.sr (ic ((p0_3.length:Int)) ((p0_3.length:Int)) (RL.nq (RC.cT m4 (RC.ex ?_))))
  exact⟨rfl,eg,eh,ei,ej,us932,hw.sp 11 [0,1,2,3,4,5,6,7,8,9,10]⟩
 ·rintro hm b2 ai s' _ w hk ⟨a3,a4,bl,a6,us829,O,rfl,hw⟩ hb
  refine RC.sr (ic ((b2:Int)) ((p0_3.length:Int)) (RL.nq (RC.cS (m0 hk) (RC.ss (RC.bs ?_)))))
  obtain⟨b7,ek,hb⟩:=bd hb
  refine RL.cC 6 hw BZ ek fun el hw=>(RL.bT 0 b7 hw vB fun en hw=>(RL.alloc hw FM.z fun dj w hw=>?_))
  refine RL.bG 0 hw 1 zr vB fun w hw=>?_
  refine RL.ns (mv (vp b0 0) (RL.aX (f:=(fun x=>x)) 0 hw zr Fd.self vB fun dk hw=>?_))
  have hw:=((hw.dup 11 rfl).dup 10 rfl).pull 6
  obtain⟨ba,eo,hb⟩:=bd hb
  refine RL.call zt zr IK [(vp b0 0),dk] zr (aF (pM N (i1:=0) hw zr eo) ?_)
  rintro _ w ⟨c2,rfl,hw⟩
  refine mv (.tuple #[c2,(vb ba.2)]) (RL.extract c2 (RL.extract (vb ba.2) (RL.alloc hw Ez.z fun b8 w hw=>?_)))
  refine RL.bG 0 hw 1 zr rl fun w hw=>?_
  refine aO (vb ba.2) (RL.ns (aO (vi (-1)) (RL.nq (RC.sr (mv (vb ba.2) (RL.nt ?_))))))
  obtain⟨bh,hj,hb⟩:=bd hb
  refine RC.jn (fun(bh: (List cI)×Int) U w=>∃(us877:List bW),SH E V [(0,vp b0 0),(15,vp b8 0),(17,vi bh.2),(170,v0_3),(171,vi p0_3.length),(172,vi b2)] [bc 67 b0 [v0_0,v0_1,v0_2,v0_3,v0_4,v0_5,v0_6,aj,a3,a4,bl,a6],rd v0_2 p0_2,rd v0_3 p0_3,rd v0_5 p0_5,rd v0_6 p0_6,own 116 aj us877,iv bO us877 bh.1 none,rd a3 ai.2.1,rd a4 ai.2.2.1,own 3 bl ai.2.2.2.1,own 70 a6 ai.2.2.2.2,bx 70 b8 ba.1] U w) bh ?_ ?_
  ·refine fq hj (fun hc hj=>?_) fun hc hj=>?_
   rotate_left
   ·refine RC.skip ?_
    obtain rfl:=oi hj
    exact⟨rfl,us829,hw.sp 18 [2,12,13,14,15,16,17,8,9,10,11,0]⟩
   refine RC.sr (mv (vp b0 0) (RL.aX (f:=(fun x=>x)) 0 hw zr Fd.self rl fun dm hw=>?_))
   have hw:=((hw.dup 10 rfl).dup 10 rfl).pull 5
   obtain⟨ah,ep,hj⟩:=bd hj
   refine RL.call zt zr IL [(vp b0 0),dm] zr (aF (nv N (i1:=0) hw zr ep) ?_)
   rintro _ w ⟨rfl,hw⟩
   refine aO (vi ah) (RL.nt ?_)
   obtain⟨fp,cd,hj⟩:=bd hj
   obtain⟨b9,er,hj⟩:=bd hj
   obtain⟨br,et,hj⟩:=bd hj
   obtain⟨b3,cu,hj⟩:=bd hj
   refine RC.CA E V mixed [1,1,1,0,1,1,1,1,0,1,0,0,0,0,0,0,0,0,0,0] [13,14,15,16,19] (fun(x:Value×Value×Value×Value)=>(fun av aw au ak=>[(0,186,(vp b0 0)),(1,187,(vp b0 0)),(2,188,(vp b0 7)),(3,189,aj),(4,190,(vi ah)),(5,191,(vp b0 0)),(6,192,(vp b0 0)),(7,193,(vp b0 7)),(8,194,aj),(9,195,(vi ah)),(10,196,(yz aj (Int.toNat ah) 3 0)),(11,197,(yz aj (Int.toNat ah) 3 2)),(12,198,(us829.getD (Int.toNat ah) (default:bW)).iw.v),(13,199,av),(14,200,aw),(15,201,au),(16,202,ak),(17,203,(yz aj (Int.toNat ah) 3 0)),(18,204,(yz aj (Int.toNat ah) 3 2))]) x.1 x.2.1 x.2.2.1 x.2.2.2) [(0,vp b0 0),(14,vp dj 0),(15,vp b8 0),(17,vi ah),(170,v0_3),(171,vi p0_3.length),(172,vi b2)] [] (fun(D:Nat->Bool) (x:Value×Value×Value×Value)=>(fun av aw au ak=>[bif D 0 then (rd av b7) else aV,bif D 1 then (rd aw b9) else aV,bif D 3 then (rd au ([b9]: (List fB))) else (bif D 2 then (own 38 au ([b9]: (List fB))) else aV),bif D 4 then aV else (bif D 3 then (own 38 ak br) else aV),bc 67 b0 [v0_0,v0_1,v0_2,v0_3,v0_4,v0_5,v0_6,aj,a3,a4,bl,a6],rd dm ba.1,bx 70 b8 ba.1,rd c2 ba.1,aV,rd dk b7,bx 53 dj b7,rd en b7,pt el b7,aV,rd a3 ai.2.1,rd a4 ai.2.2.1,own 3 bl ai.2.2.2.1,own 70 a6 ai.2.2.2.2,rd v0_2 p0_2,rd v0_3 p0_3,rd v0_5 p0_5,rd v0_6 p0_6,bif D 4 then (own 116 aj (us829.set (Int.toNat ah) {(us829.getD (Int.toNat ah) (default:bW)) with iw:=rv ak})) else (own 116 aj us829),bif D 4 then (iv bO (us829.set (Int.toNat ah) {(us829.getD (Int.toNat ah) (default:bW)) with iw:=rv ak}) (ai.1.set (Int.toNat ah) {b3 with iw:=br}) none) else (bif D 3 then (iv bO us829 ai.1 (some (Int.toNat ah))) else (iv bO us829 ai.1 none))]) x.1 x.2.1 x.2.2.1 x.2.2.2) (fun x=>by kernel_rfl) ?_ ⟨fun _=>jd gn,fun _=>uO gn,fun _=>lU gn t7,?_,fun _=>jd gn,fun _=>jd gn,fun _=>uO gn,fun _=>lU gn t7,?_,fun _=>jd gn,?_,?_,?_,?_,?_,?_,?_,?_,?_,?_,trivial⟩ ?_
   ·have hw:=((((hw.drew).aV).aV).aV).aV
    exact⟨(undef,undef,undef,undef),dY.none,(Ba zr),zt,hw⟩
   ·rintro D U w hD af ad ⟨⟨av,aw,au,ak⟩,hv,ha,_,hw⟩
    obtain⟨O,rfl⟩:=(ac (hv.at 2 rfl (af.1 rfl)) az).eU
    refine RL.bB 4 aj hw B3 ?_
    exact RL.nil ⟨rfl,(av,aw,au,ak),hv.pu 3,ha.u,zt,hw⟩
   ·rintro D U w hD af ad ⟨⟨av,aw,au,ak⟩,hv,ha,_,hw⟩
    obtain⟨O,rfl⟩:=(ac (hv.at 7 rfl (af.1 rfl)) az).eU
    refine RL.bB 4 aj hw B3 ?_
    exact RL.nil ⟨rfl,(av,aw,au,ak),hv.pu 8,ha.u,zt,hw⟩
   ·rintro D U w hD af ad ⟨⟨av,aw,au,ak⟩,hv,ha,_,hw⟩
    obtain⟨O,rfl⟩:=(ac (hv.at 8 rfl (af.1 rfl)) (ac (hv.at 9 rfl (af.2.1 rfl)) az)).eU
    have hw:=((hw.bV 22 (nh ad hD 19)).bV 23 (nh ad hD 19)).bV 23 (nf (fun h=>ft hD ((ad 11 _ rfl ((ad 12 _ rfl ((ad 16 _ rfl h).1 rfl)).1 rfl)).1 rfl)))
    have hl900:=hw.gD 23 rfl
    have hr901:=jh (default:bW) hl900 cd
    refine RL.bJ 22 hw zr zr FT hr901 ?_
    have hw:=(hw.eR 22 (D 19) (nh ad hD 19) (own 116 aj (us829.set (Int.toNat ah) {(us829.getD (Int.toNat ah) (default:bW)) with iw:=rv ak}))).eR 23 (D 16) (nf (fun h=>ft hD ((ad 11 _ rfl ((ad 12 _ rfl ((ad 16 _ rfl h).1 rfl)).1 rfl)).1 rfl))) (iv bO us829 ai.1 (some (Int.toNat ah)))
    have hw:=hw.eR 23 (D 19) (nh ad hD 19) (iv bO (us829.set (Int.toNat ah) {(us829.getD (Int.toNat ah) (default:bW)) with iw:=rv ak}) (ai.1.set (Int.toNat ah) {b3 with iw:=br}) none)
    exact RL.nil ⟨rfl,(av,aw,au,ak),hv.pu 10,ha.u,zt,hw⟩
   ·rintro D U w hD af ad ⟨⟨av,aw,au,ak⟩,hv,ha,_,hw⟩
    obtain⟨O,rfl⟩:=(ac (hv.at 10 rfl (af.1 rfl)) az).eU
    have hw:=((hw.bV 22 (nh ad hD 19)).bV 23 (nh ad hD 19)).bV 23 (nf (fun h=>ft hD ((ad 12 _ rfl ((ad 16 _ rfl h).1 rfl)).1 rfl)))
    have hl902:=hw.gD 23 rfl
    have hr903:=jh (default:bW) hl902 cd
    refine RL.mq (α:=bW) (jv 22 hw hr903 0) Bh ?_
    have hw:=(hw.eR 22 (D 19) (nh ad hD 19) (own 116 aj (us829.set (Int.toNat ah) {(us829.getD (Int.toNat ah) (default:bW)) with iw:=rv ak}))).eR 23 (D 16) (nf (fun h=>ft hD ((ad 12 _ rfl ((ad 16 _ rfl h).1 rfl)).1 rfl))) (iv bO us829 ai.1 (some (Int.toNat ah)))
    have hw:=hw.eR 23 (D 19) (nh ad hD 19) (iv bO (us829.set (Int.toNat ah) {(us829.getD (Int.toNat ah) (default:bW)) with iw:=rv ak}) (ai.1.set (Int.toNat ah) {b3 with iw:=br}) none)
    exact RL.nil ⟨rfl,(av,aw,au,ak),hv.pu 11,ha.u,zt,hw⟩
   ·rintro D U w hD af ad ⟨⟨av,aw,au,ak⟩,hv,ha,_,hw⟩
    obtain⟨O,rfl⟩:=(ac (hv.at 11 rfl (af.1 rfl)) az).eU
    have hw:=((hw.bV 22 (nh ad hD 19)).bV 23 (nh ad hD 19)).bV 23 (nh ad hD 16)
    have hl904:=hw.gD 23 rfl
    have hr905:=jh (default:bW) hl904 cd
    refine RL.tP 22 23 ah pX (default:bW) zr hw zr (jv 22 hw hr905 2) zr zr cd E7 ?_
    have hw:=(hw.eR 22 (D 19) (nh ad hD 19) (own 116 aj (us829.set (Int.toNat ah) {(us829.getD (Int.toNat ah) (default:bW)) with iw:=rv ak}))).eR 23 (D 16) (nh ad hD 16) (iv bO us829 ai.1 (some (Int.toNat ah)))
    have hw:=hw.eR 23 (D 19) (nh ad hD 19) (iv bO (us829.set (Int.toNat ah) {(us829.getD (Int.toNat ah) (default:bW)) with iw:=rv ak}) (ai.1.set (Int.toNat ah) {b3 with iw:=br}) none)
    exact RL.nil ⟨rfl,(av,aw,au,ak),hv.pu 12,ha.u,zt,hw⟩
   ·rintro D U w hD af ad ⟨⟨av,aw,au,ak⟩,hv,ha,_,hw⟩
    obtain⟨O,rfl⟩:=(ac (ha.at 1 rfl) az).eU
    have hw:=hw.bV 0 hD
    refine RL.aX (f:=(fun x=>x)) 10 hw zr Fd.self vB fun eu hw=>?_
    have hw:=(hw.pl 25 [0,2,3,4,5,6,7,8,9,10,11,12,13,14,15,16,17,18,19,20,21,22,23,24]).cF 0 true aV
    exact RL.nil ⟨rfl,(eu,aw,au,ak),hv.pu 13,ha.u,zt,hw⟩
   ·rintro D U w hD af ad ⟨⟨av,aw,au,ak⟩,hv,ha,_,hw⟩
    obtain⟨O,rfl⟩:=(ac (hv.at 13 rfl (af.1 rfl)) az).eU
    have hw:=(hw.cE 0 (af.1 rfl)).bV 1 hD
    refine RL.call zt zr Ew [av] zr (aF (kS N (i0:=0) hw zr er) ?_)
    rintro ev w hw
    have hw:=((hw.pl 25 [1,0,3,4,5,6,7,8,9,10,11,12,13,14,15,16,17,18,19,20,21,22,23,24]).cF (hb:=af.1 rfl) 0 (D 13) aV).cF 1 true aV
    exact RL.nil ⟨rfl,(av,ev,au,ak),hv.pu 14,ha.u,zt,hw⟩
   ·rintro D U w hD af ad ⟨⟨av,aw,au,ak⟩,hv,ha,_,hw⟩
    obtain⟨O,rfl⟩:=(ac (hv.at 14 rfl (af.1 rfl)) az).eU
    have hw:=((hw.cE 1 (af.1 rfl)).bV 2 (nh ad hD 16)).bV 2 hD
    refine RL.eY ([b9]: (List fB)) hw [aw] G7 GL (fun M hs g=>⟨(g.sat 1 _ zr).1,zt⟩) fun dn w hw=>?_
    have hw:=(((hw.pl 25 [1,2,0,4,5,6,7,8,9,10,11,12,13,14,15,16,17,18,19,20,21,22,23,24]).cF (hb:=af.1 rfl) 1 (D 14) aV).cF 2 true aV).eR 2 (D 16) (nh ad hD 16) (rd dn ([b9]: (List fB)))
    exact RL.nil ⟨rfl,(av,aw,dn,ak),hv.pu 15,ha.u,zt,hw⟩
   ·rintro D U w hD af ad ⟨⟨av,aw,au,ak⟩,hv,ha,_,hw⟩
    obtain⟨O,rfl⟩:=(ac (hv.at 12 rfl (af.1 rfl)) (ac (hv.at 15 rfl (af.2.1 rfl)) az)).eU
    have hw:=(((((((hw.bV 2 hD).cE 2 (af.2.1 rfl)).bV 3 (nh ad hD 19)).bV 3 hD).bV 22 (nh ad hD 19)).bV 23 (nh ad hD 19)).bV 23 hD).xK (j:=23) (jj:=ah) pX (default:bW) rfl cd
    have hw:=hw.freeze 3
    refine RL.app 0 3 hw G8 et fun c3 w hw=>?_
    have hw:=((((hw.pl 25 [1,2,3,0,5,6,7,8,9,10,11,12,13,14,15,16,17,18,19,20,21,22,23,24]).cF 2 true (bif D 15 then (own 38 au ([b9]: (List fB))) else aV)).cF 3 true aV).eR 3 (D 19) (nh ad hD 19) aV).eR 22 (D 19) (nh ad hD 19) (own 116 aj (us829.set (Int.toNat ah) {(us829.getD (Int.toNat ah) (default:bW)) with iw:=rv c3}))
    have hw:=(hw.cF 23 true (iv bO us829 ai.1 none)).eR 23 (D 19) (nh ad hD 19) (iv bO (us829.set (Int.toNat ah) {(us829.getD (Int.toNat ah) (default:bW)) with iw:=rv c3}) (ai.1.set (Int.toNat ah) {b3 with iw:=br}) none)
    exact RL.nil ⟨rfl,(av,aw,au,c3),hv.pu 16,ha.u,zt,hw⟩
   ·rintro D U w hD af ad ⟨⟨av,aw,au,ak⟩,hv,ha,_,hw⟩
    obtain⟨O,rfl⟩:=(ac (hv.at 3 rfl (af.1 rfl)) (ac (hv.at 4 rfl (af.2.1 rfl)) az)).eU
    have hw:=hw.bV 22 (nf (fun h=>ft hD ((ad 18 _ rfl ((ad 19 _ rfl h).1 rfl)).1 rfl)))
    have hw:=hw.bV 23 (nf (fun h=>ft hD ((ad 18 _ rfl ((ad 19 _ rfl h).1 rfl)).1 rfl)))
    have hw:=hw.cE 23 (af.2.2.2.2.2.2.2.2.2.2.2.2.2.2.2.2.2.2.1 rfl)
    have hl910:=hw.gD 23 rfl
    have hr911:=jh (default:bW) hl910 cu
    refine RL.bJ 22 hw zr zr FT hr911 ?_
    have hw:=hw.eR 22 (D 19) (nf (fun h=>ft hD ((ad 18 _ rfl ((ad 19 _ rfl h).1 rfl)).1 rfl))) (own 116 aj (us829.set (Int.toNat ah) {(us829.getD (Int.toNat ah) (default:bW)) with iw:=rv ak}))
    have hw:=(hw.cF (hb:=af.2.2.2.2.2.2.2.2.2.2.2.2.2.2.2.2.2.2.1 rfl) 23 (D 16) (iv bO us829 ai.1 none)).eR 23 (D 19) (nf (fun h=>ft hD ((ad 18 _ rfl ((ad 19 _ rfl h).1 rfl)).1 rfl))) (iv bO (us829.set (Int.toNat ah) {(us829.getD (Int.toNat ah) (default:bW)) with iw:=rv ak}) (ai.1.set (Int.toNat ah) {b3 with iw:=br}) none)
    exact RL.nil ⟨rfl,(av,aw,au,ak),hv.pu 17,ha.u,zt,hw⟩
   ·rintro D U w hD af ad ⟨⟨av,aw,au,ak⟩,hv,ha,_,hw⟩
    obtain⟨O,rfl⟩:=(ac (hv.at 17 rfl (af.1 rfl)) az).eU
    have hw:=((hw.bV 22 (nh ad hD 19)).bV 23 (nh ad hD 19)).cE 23 (af.2.2.2.2.2.2.2.2.2.2.2.2.2.2.2.2.2.1 rfl)
    have hl912:=hw.gD 23 rfl
    have hr913:=jh (default:bW) hl912 cu
    refine RL.mq (α:=bW) (jv 22 hw hr913 0) Bh ?_
    have hw:=(hw.eR 22 (D 19) (nh ad hD 19) (own 116 aj (us829.set (Int.toNat ah) {(us829.getD (Int.toNat ah) (default:bW)) with iw:=rv ak}))).cF (hb:=af.2.2.2.2.2.2.2.2.2.2.2.2.2.2.2.2.2.1 rfl) 23 (D 16) (iv bO us829 ai.1 none)
    have hw:=hw.eR 23 (D 19) (nh ad hD 19) (iv bO (us829.set (Int.toNat ah) {(us829.getD (Int.toNat ah) (default:bW)) with iw:=rv ak}) (ai.1.set (Int.toNat ah) {b3 with iw:=br}) none)
    exact RL.nil ⟨rfl,(av,aw,au,ak),hv.pu 18,ha.u,zt,hw⟩
   ·rintro D U w hD af ad ⟨⟨av,aw,au,ak⟩,hv,ha,_,hw⟩
    obtain⟨O,rfl⟩:=(ac (hv.at 16 rfl (af.2.1 rfl)) (ac (hv.at 18 rfl (af.1 rfl)) az)).eU
    have hw:=((((hw.bV 3 hD).cE 3 (af.2.1 rfl)).bV 22 hD).bV 23 hD).cE 23 (af.2.1 rfl)
    have hl914:=hw.gD 23 rfl
    have hr915:=jh (default:bW) hl914 cu
    refine RL.rR 22 23 3 ah pX (default:bW) hw zr zr (jv 22 hw hr915 2) zr zr zr cu E7 fun w hw=>?_
    have hw:=((hw.cF 3 true (bif D 16 then (own 38 ak br) else aV)).cF 22 true (own 116 aj us829)).cF 23 true (bif D 16 then (iv bO us829 ai.1 (some (Int.toNat ah))) else (iv bO us829 ai.1 none))
    exact RL.nil ⟨rfl,(av,aw,au,ak),hv.n1,ha,zt,hw⟩
   rintro D U w a7 ⟨⟨av,aw,au,ak⟩,hv,ha,_,hw⟩
   have hw:=(((((hw.cE 0 (jy a7 13)).cE 1 (jy a7 14)).cE 2 (jy a7 16)).cE 3 (jy a7 19)).cE 22 (jy a7 19)).cE 23 (jy a7 19)
   obtain⟨O,rfl⟩:=(ac (ha.at 0 rfl) (ac (ha.at 1 rfl) (ac (ha.at 2 rfl) (ac (ha.at 3 rfl) (ac (ha.at 4 rfl) (ac (ha.at 5 rfl) (ac (ha.at 6 rfl) az))))))).eU
   obtain rfl:=oi hj
   exact⟨rfl,(us829.set (Int.toNat ah) {(us829.getD (Int.toNat ah) (default:bW)) with iw:=rv ak}),hw.sp 24 [4,18,19,20,21,22,23,14,15,16,17,6]⟩
  rintro _ w ⟨us877,O,rfl,hw⟩
  refine aG ?_
  obtain⟨ew,ey,hb⟩:=bd hb
  obtain⟨ez,e3,hb⟩:=bd hb
  refine RC.CA E V mixed [1,1,1,1,1,0,1,0,0,1,1,1,0,0,0,0,1,1,0,1,1,0] [7,8,13,14,15,18,21] (fun(x:Value×Value×Value×Value×Value)=>(fun ay a1 a0 aq ax=>[(0,205,(vp b0 0)),(1,206,(vp b0 0)),(2,207,(vp b0 0)),(3,208,(vp b0 0)),(4,209,(vp b0 10)),(5,210,bl),(6,211,(vi bh.2)),(7,212,ay),(8,213,aq),(9,214,(vp b0 0)),(10,215,(vp b0 0)),(11,216,(vp b0 11)),(12,217,a6),(13,218,a1),(14,219,a0),(15,220,ax),(16,221,(vp b0 0)),(17,222,(vp b0 10)),(19,223,(vp b0 0)),(20,224,(vp b0 11))]) x.1 x.2.1 x.2.2.1 x.2.2.2.1 x.2.2.2.2) [(0,vp b0 0),(15,vp b8 0),(17,vi bh.2),(170,v0_3),(171,vi p0_3.length),(172,vi b2)] [] (fun(D:Nat->Bool) (x:Value×Value×Value×Value×Value)=>(fun ay a1 a0 aq ax=>[bif D 1 then (rd ay ([bh.2]: (List Int))) else (bif D 0 then (own 3 ay ([bh.2]: (List Int))) else aV),bif D 2 then (rd a1 ba.1) else aV,bif D 4 then (rd a0 ([ba.1]: (List dO))) else (bif D 3 then (own 70 a0 ([ba.1]: (List dO))) else aV),bif D 6 then (bc 67 b0 [v0_0,v0_1,v0_2,v0_3,v0_4,v0_5,v0_6,aj,a3,a4,aq,ax]) else (bif D 5 then (bc 67 b0 [v0_0,v0_1,v0_2,v0_3,v0_4,v0_5,v0_6,aj,a3,a4,aq,a6]) else (bc 67 b0 [v0_0,v0_1,v0_2,v0_3,v0_4,v0_5,v0_6,aj,a3,a4,bl,a6])),rd v0_2 p0_2,rd v0_3 p0_3,rd v0_5 p0_5,rd v0_6 p0_6,own 116 aj us877,iv bO us877 bh.1 none,rd a3 ai.2.1,rd a4 ai.2.2.1,bif D 1 then (own 3 aq ew) else (own 3 bl ai.2.2.2.1),bif D 4 then (own 70 ax ez) else (own 70 a6 ai.2.2.2.2),bx 70 b8 ba.1]) x.1 x.2.1 x.2.2.1 x.2.2.2.1 x.2.2.2.2) (fun x=>by kernel_rfl) ?_ ⟨fun _=>jd gn,fun _=>jd gn,fun _=>jd gn,fun _=>uO gn,fun _=>lU gn Ax,?_,fun _=>jd gn,?_,?_,fun _=>jd gn,fun _=>uO gn,fun _=>lU gn Ay,?_,?_,?_,?_,fun _=>uO gn,fun _=>lU gn Ax,?_,fun _=>uO gn,fun _=>lU gn Ay,?_,trivial⟩ ?_
  ·have hw:=(((hw.drew).aV).aV).aV
   exact⟨(undef,undef,undef,undef,undef),dY.none,(Ba zr),zt,hw⟩
  ·rintro D U w hD af ad ⟨⟨ay,a1,a0,aq,ax⟩,hv,ha,_,hw⟩
   obtain⟨O,rfl⟩:=(ac (hv.at 4 rfl (af.1 rfl)) az).eU
   have hw:=(hw.bV 3 (nh ad hD 21)).bV 3 (nh ad hD 18)
   refine RL.bB 3 bl hw fF ?_
   have hw:=(hw.eR 3 (D 18) (nh ad hD 18) (bc 67 b0 [v0_0,v0_1,v0_2,v0_3,v0_4,v0_5,v0_6,aj,a3,a4,aq,a6])).eR 3 (D 21) (nh ad hD 21) (bc 67 b0 [v0_0,v0_1,v0_2,v0_3,v0_4,v0_5,v0_6,aj,a3,a4,aq,ax])
   exact RL.nil ⟨rfl,(ay,a1,a0,aq,ax),hv.pu 5,ha.u,zt,hw⟩
  ·rintro D U w hD af ad ⟨⟨ay,a1,a0,aq,ax⟩,hv,ha,_,hw⟩
   obtain⟨O,rfl⟩:=(ac (hv.at 6 rfl (af.1 rfl)) az).eU
   have hw:=((hw.bV 0 (nh ad hD 8)).bV 0 hD).sc Int bh.2
   refine RL.eY ([bh.2]: (List Int)) hw [(vi bh.2)] eF CB (fun M hs g=>⟨(g.sat 0 _ zr).1,zt⟩) fun dp w hw=>?_
   have hw:=((hw.pl 17 [0,3,4,5,6,7,8,9,10,11,12,13,14,15,16]).cF 0 true aV).eR 0 (D 8) (nh ad hD 8) (rd dp ([bh.2]: (List Int)))
   exact RL.nil ⟨rfl,(dp,a1,a0,aq,ax),hv.pu 7,ha.u,zt,hw⟩
  ·rintro D U w hD af ad ⟨⟨ay,a1,a0,aq,ax⟩,hv,ha,_,hw⟩
   obtain⟨O,rfl⟩:=(ac (hv.at 5 rfl (af.1 rfl)) (ac (hv.at 7 rfl (af.2.1 rfl)) az)).eU
   have hw:=(((((hw.bV 0 hD).cE 0 (af.2.1 rfl)).bV 3 (nh ad hD 21)).bV 3 (nh ad hD 18)).bV 12 hD).freeze 0
   refine RL.app 12 0 hw sV ey fun c4 w hw=>?_
   have hw:=((hw.cF 0 true (bif D 7 then (own 3 ay ([bh.2]: (List Int))) else aV)).eR 3 (D 18) (nh ad hD 18) (bc 67 b0 [v0_0,v0_1,v0_2,v0_3,v0_4,v0_5,v0_6,aj,a3,a4,c4,a6])).eR 3 (D 21) (nh ad hD 21) (bc 67 b0 [v0_0,v0_1,v0_2,v0_3,v0_4,v0_5,v0_6,aj,a3,a4,c4,ax])
   have hw:=hw.cF 12 true (own 3 bl ai.2.2.2.1)
   exact RL.nil ⟨rfl,(ay,a1,a0,c4,ax),hv.pu 8,ha.u,zt,hw⟩
  ·rintro D U w hD af ad ⟨⟨ay,a1,a0,aq,ax⟩,hv,ha,_,hw⟩
   obtain⟨O,rfl⟩:=(ac (hv.at 11 rfl (af.1 rfl)) az).eU
   have hw:=(hw.bV 3 (nh ad hD 21)).bV 3 (nh ad hD 18)
   refine RL.bB 3 a6 hw FU ?_
   have hw:=(hw.eR 3 (D 18) (nh ad hD 18) (bc 67 b0 [v0_0,v0_1,v0_2,v0_3,v0_4,v0_5,v0_6,aj,a3,a4,aq,a6])).eR 3 (D 21) (nh ad hD 21) (bc 67 b0 [v0_0,v0_1,v0_2,v0_3,v0_4,v0_5,v0_6,aj,a3,a4,aq,ax])
   exact RL.nil ⟨rfl,(ay,a1,a0,aq,ax),hv.pu 12,ha.u,zt,hw⟩
  ·rintro D U w hD af ad ⟨⟨ay,a1,a0,aq,ax⟩,hv,ha,_,hw⟩
   obtain⟨O,rfl⟩:=(ac (ha.at 1 rfl) az).eU
   have hw:=hw.bV 1 hD
   refine RL.aX (f:=(fun x=>x)) 14 hw zr Fd.self rl fun e4 hw=>?_
   have hw:=(hw.pl 16 [1,0,3,4,5,6,7,8,9,10,11,12,13,14,15]).cF 1 true aV
   exact RL.nil ⟨rfl,(ay,e4,a0,aq,ax),hv.pu 13,ha.u,zt,hw⟩
  ·rintro D U w hD af ad ⟨⟨ay,a1,a0,aq,ax⟩,hv,ha,_,hw⟩
   obtain⟨O,rfl⟩:=(ac (hv.at 13 rfl (af.1 rfl)) az).eU
   have hw:=((hw.cE 1 (af.1 rfl)).bV 2 (nh ad hD 15)).bV 2 hD
   refine RL.eY ([ba.1]: (List dO)) hw [a1] G9 Ez (fun M hs g=>⟨(g.sat 1 _ zr).1,zt⟩) fun dq w hw=>?_
   have hw:=(((hw.pl 16 [1,2,0,4,5,6,7,8,9,10,11,12,13,14,15]).cF (hb:=af.1 rfl) 1 (D 13) aV).cF 2 true aV).eR 2 (D 15) (nh ad hD 15) (rd dq ([ba.1]: (List dO)))
   exact RL.nil ⟨rfl,(ay,a1,dq,aq,ax),hv.pu 14,ha.u,zt,hw⟩
  ·rintro D U w hD af ad ⟨⟨ay,a1,a0,aq,ax⟩,hv,ha,_,hw⟩
   obtain⟨O,rfl⟩:=(ac (hv.at 12 rfl (af.1 rfl)) (ac (hv.at 14 rfl (af.2.1 rfl)) az)).eU
   have hw:=(((((hw.bV 2 hD).cE 2 (af.2.1 rfl)).bV 3 (nh ad hD 21)).bV 3 (nh ad hD 18)).bV 13 hD).freeze 2
   refine RL.app 13 2 hw IM e3 fun dr w hw=>?_
   have hw:=((hw.cF 2 true (bif D 14 then (own 70 a0 ([ba.1]: (List dO))) else aV)).eR 3 (D 18) (nh ad hD 18) (bc 67 b0 [v0_0,v0_1,v0_2,v0_3,v0_4,v0_5,v0_6,aj,a3,a4,aq,a6])).eR 3 (D 21) (nh ad hD 21) (bc 67 b0 [v0_0,v0_1,v0_2,v0_3,v0_4,v0_5,v0_6,aj,a3,a4,aq,dr])
   have hw:=hw.cF 13 true (own 70 a6 ai.2.2.2.2)
   exact RL.nil ⟨rfl,(ay,a1,a0,aq,dr),hv.pu 15,ha.u,zt,hw⟩
  ·rintro D U w hD af ad ⟨⟨ay,a1,a0,aq,ax⟩,hv,ha,_,hw⟩
   obtain⟨O,rfl⟩:=(ac (hv.at 8 rfl (af.2.1 rfl)) (ac (hv.at 17 rfl (af.1 rfl)) az)).eU
   have hw:=((hw.bV 3 (nh ad hD 21)).bV 3 hD).cE 12 (af.2.1 rfl)
   refine RL.g9 3 aq hw zr zr (iI 12 hw) fF fun w hw=>?_
   have hw:=((hw.cF 3 true (bc 67 b0 [v0_0,v0_1,v0_2,v0_3,v0_4,v0_5,v0_6,aj,a3,a4,bl,a6])).eR 3 (D 21) (nh ad hD 21) (bc 67 b0 [v0_0,v0_1,v0_2,v0_3,v0_4,v0_5,v0_6,aj,a3,a4,aq,ax])).cF (hb:=af.2.1 rfl) 12 (D 8) (own 3 bl ai.2.2.2.1)
   exact RL.nil ⟨rfl,(ay,a1,a0,aq,ax),hv.n1,ha,zt,hw⟩
  ·rintro D U w hD af ad ⟨⟨ay,a1,a0,aq,ax⟩,hv,ha,_,hw⟩
   obtain⟨O,rfl⟩:=(ac (hv.at 15 rfl (af.2.1 rfl)) (ac (hv.at 19 rfl (af.1 rfl)) az)).eU
   have hw:=((hw.bV 3 hD).cE 3 (af.2.2.1 rfl)).cE 13 (af.2.1 rfl)
   refine RL.g9 3 ax hw zr zr (iI 13 hw) FU fun w hw=>?_
   have hw:=(hw.cF 3 true (bif D 18 then (bc 67 b0 [v0_0,v0_1,v0_2,v0_3,v0_4,v0_5,v0_6,aj,a3,a4,aq,a6]) else (bc 67 b0 [v0_0,v0_1,v0_2,v0_3,v0_4,v0_5,v0_6,aj,a3,a4,bl,a6]))).cF (hb:=af.2.1 rfl) 13 (D 15) (own 70 a6 ai.2.2.2.2)
   exact RL.nil ⟨rfl,(ay,a1,a0,aq,ax),hv.n1,ha,zt,hw⟩
  rintro D U w a7 ⟨⟨ay,a1,a0,aq,ax⟩,hv,ha,_,hw⟩
  have hw:=(((((hw.cE 0 (jy a7 8)).cE 1 (jy a7 13)).cE 2 (jy a7 15)).cE 3 (jy a7 21)).cE 12 (jy a7 8)).cE 13 (jy a7 15)
  obtain⟨O,rfl⟩:=(ac (ha.at 0 rfl) (ac (ha.at 1 rfl) (ac (ha.at 2 rfl) (ac (ha.at 3 rfl) (ac (ha.at 4 rfl) (ac (ha.at 5 rfl) az)))))).eU
  refine bU (aG (RC.region (RL.inc hk hm (mv (vi ((b2+1:Nat):Int)) (RL.nil ?_)))))
  obtain rfl:=oi hb
  exact⟨rfl,a3,a4,aq,ax,us877,hw.sp 15 [3,10,11,12,13,4,5,6,7,8,9]⟩
 rintro _ w ⟨cp,cq,cr,ct,us824,O,rfl,hw⟩
 obtain rfl:=oi hb
 have hw:=hw.xL (X:=bO) (b:=10) (j:=9) rfl (fun M h u x cs=>xT M h u x cs) rfl rfl (by decide)
 refine yE ?_
 exact Ed zr ⟨aj,cp,cq,cr,ct,zr,hw.pk 11 [0,9,1,2,3,4]⟩
def oq (E:World) (V:List HP) (r:Option ((List (List aI))×(List aI)×(List bM)×(List cK)×(List (List aA))×(List aH)×(List (List Int))×(List cI)×(List Int)×(List Int)×(List Int)×(List dO))×Int) (U:Nat->Value) (w:World):Prop:=lK bD 112 Tryz.f11 (mb E V r) .ret U w
theorem qy {p0:iD} {res:Option ((List (List aI))×(List aI)×(List bM)×(List cK)×(List (List aA))×(List aH)×(List (List Int))×(List cI)×(List Int)×(List Int)×(List Int)×(List dO))×Int} (j:Holds E w V) (h0:V[i0]? =some (rd v0 p0)) (hb:fI N p0=some res):
    Calls bD 11 [v0].toArray w (gR (mb E V res)):=by
 unfold fI at hb
 refine enter Tryz.func11 zr zr ?_
 have j:=j.dup (i0+0) h0
 refine RC.sr (RL.dD 0 v0 j zr fun an w j=>?_)
 refine aO (.pointer none) (aO (vi 0) (RL.nq (RC.sr (RL.bA zr tW (RL.aX 0 j zr oE BS fun c1 j=>(RL.bE 0 p0.aJ j zk (ic ((p0.aJ.length:Int)) 0 (RL.nt ?_))))))))
 refine fq hb (fun hc hb=>?_) fun hc hb=>?_
 ·refine RC.sr (aO (.pointer none) (aO (vi 9) (RL.nt (RC.rt ?_))))
  obtain rfl:=oi hb
  exact jw ⟨rfl,j.drop 3⟩
 refine RC.ss (RC.sr (RL.bA zr tW (RL.aX 1 j zr oE BS fun c2 j=>(RL.bE 0 p0.aJ j zk (ic ((p0.aJ.length:Int)) 16 (RL.nt (fq hb (fun hc hb=>?_) fun hc hb=>?_)))))))
 ·refine RC.sr (aO (.pointer none) (aO (vi 2) (RL.nt (RC.rt ?_))))
  obtain rfl:=oi hb
  exact jw ⟨rfl,j.drop 4⟩
 refine RC.sx (RL.bA zr C0 (RL.aX 2 j zr vr xU fun c3 j=>(RL.bE 0 p0.cW j pY (aO (vi p0.cW.length) (RL.nq (RC.sr (RL.bA zr tW (RL.aX 3 j zr oE BS fun bo j=>?_))))))))
 refine RL.bE 0 p0.aJ j zk (mv (vi 0) (RL.nt ?_))
 obtain⟨c4,hN,hb⟩:=bd hb
 refine RC.range (fun(bj:Nat) (ax:Int)=>SH E V [(1,vp an 0),(4,vi ax),(28,bo),(29,vi p0.aJ.length),(30,vi bj)] [bx 27 an p0,rd bo p0.aJ]) (fun(ax:Int)=>SH E V [(1,vp an 0),(4,vi ax)] [bx 27 an p0,rd bo p0.aJ]) (oq E V) hN ?_ ?_ ?_ ?_ ?_
 ·exact j.sp 6 [4,0]
 ·rintro hm ax _ w ⟨O,rfl,j⟩
  refine RC.sr (ic ((p0.aJ.length:Int)) ((p0.aJ.length:Int)) (RL.nq (RC.cT m4 (RC.ex ?_))))
  exact⟨rfl,j.sp 2 [0,1]⟩
 ·rintro hm bj ax fl _ w hk ⟨O,rfl,j⟩ hb
  refine RC.sr (ic ((bj:Int)) ((p0.aJ.length:Int)) (RL.nq (RC.cS (m0 hk) (RC.ss (RC.bs ?_)))))
  obtain⟨bk,bw,hb⟩:=bd hb
  refine RL.cC 1 j Ap bw fun c5 j=>(RL.bT 0 bk j xU fun bl j=>(aO bl (RL.nq (RC.sr (mv bl ?_)))))
  obtain⟨a7,bz,hb⟩:=bd hb
  refine RL.call zt zr GC [bl] zr (aF (mi N (i0:=0) j zr bz) ?_)
  rintro _ w ⟨rfl,j⟩
  refine aO (vi a7) (RL.ns (mv (vi a7) (ic a7 0 (RL.nt (fq hb (fun hc hb=>?_) fun hc hb=>?_)))))
  ·refine RC.sr (mv (vi a7) (aO (.pointer none) (aO (vi a7) (RL.nt (RC.rt (iY (bL ?_)))))))
   obtain rfl:=oi hb
   exact⟨rfl,jw ⟨rfl,j.drop 4⟩⟩
  refine RC.sn (RC.region (mv (vi ax) (mv bl (RL.bE 0 bk j pY (RL.jC ax (bk.length:Int) (aO (vi (IntKind.wrap .i64 (ax+ (bk.length:Int)))) (RL.nil (bU ?_))))))))
  refine aG (RC.region (RL.inc hk hm (mv (vi ((bj+1:Nat):Int)) (RL.nil ?_))))
  obtain rfl:=oi hb
  exact⟨rfl,j.sp 4 [2,3]⟩
 ·intro r U w e hK
  subst e
  refine bL ?_
  obtain rfl:=oi hb
  exact hK
 rintro ax _ w rfl ⟨O,rfl,j⟩
 rw [Fo.fZ] at hb
 refine aG (RC.seq (RC.sr (RL.bA zr C0 (RL.aX 0 j zr vr xU fun b0 j=>?_))))
 obtain⟨a9,b1,hb⟩:=bd hb
 refine RL.call zt zr GC [b0] zr (aF (mi N (i0:=0) j zr b1) ?_)
 rintro _ w ⟨rfl,j⟩
 refine aO (vi a9) (RL.ns (mv (vi a9) (ic a9 0 (RL.nt (fq hb (fun hc hb=>?_) fun hc hb=>?_)))))
 ·refine RC.sr (mv (vi a9) (aO (.pointer none) (aO (vi a9) (RL.nt (RC.rt ?_)))))
  obtain rfl:=oi hb
  exact jw ⟨rfl,j.drop 3⟩
 refine RC.ss (RC.sr (mv (vi ax) (ic ax 2000 (RL.nt (fq hb (fun hc hb=>?_) fun hc hb=>?_)))))
 ·refine RC.sr (aO (.pointer none) (aO (vi 2) (RL.nt (RC.rt ?_))))
  obtain rfl:=oi hb
  exact jw ⟨rfl,j.drop 3⟩
 refine RC.ss (RC.sr (RL.aX (f:=(fun x=>x)) 1 j zr Fd.self oG fun b2 j=>?_))
 obtain⟨ba,b3,hb⟩:=bd hb
 refine RL.call zt zr Ii [b2] zr (aF (qj N (i0:=0) j zr b3) ?_)
 rintro _ w ⟨rfl,j⟩
 refine aO (vi ba) (RL.ns (mv (vi ba) (ic ba 0 (RL.nt (fq hb (fun hc hb=>?_) fun hc hb=>?_)))))
 ·refine RC.sr (mv (vi ba) (aO (.pointer none) (aO (vi ba) (RL.nt (RC.rt ?_)))))
  obtain rfl:=oi hb
  exact jw ⟨rfl,j.drop 4⟩
 refine RC.ss (RC.sr (RL.aX (f:=(fun x=>x)) 2 j zr Fd.self oG fun b4 j=>?_))
 obtain⟨bb,b5,hb⟩:=bd hb
 refine RL.call zt zr Is [b4] zr (aF (qp N (i0:=0) j zr b5) ?_)
 rintro _ w ⟨rfl,j⟩
 refine aO (vi bb) (RL.ns (mv (vi bb) (ic bb 0 (RL.nt (fq hb (fun hc hb=>?_) fun hc hb=>?_)))))
 ·refine RC.sr (mv (vi bb) (aO (.pointer none) (aO (vi bb) (RL.nt (RC.rt ?_)))))
  obtain rfl:=oi hb
  exact jw ⟨rfl,j.drop 5⟩
 refine RC.ss (RC.sr (RL.bA zr lX (RL.aX 3 j zr pV tX fun au j=>(RL.bE 0 p0.aU j vz (mv (vi 0) (RL.nt ?_))))))
 obtain⟨c6,hN,hb⟩:=bd hb
 refine RC.range (fun(aw:Nat) (bm:Unit)=>SH E V [(1,vp an 0),(63,au),(64,vi p0.aU.length),(65,vi aw)] [bx 27 an p0,rd au p0.aU]) (fun(bm:Unit)=>SH E V [(1,vp an 0)] [bx 27 an p0,rd au p0.aU]) (oq E V) hN ?_ ?_ ?_ ?_ ?_
 ·exact j.sp 6 [4,0]
 ·rintro hm bm _ w ⟨O,rfl,j⟩
  refine RC.sr (ic ((p0.aU.length:Int)) ((p0.aU.length:Int)) (RL.nq (RC.cT m4 (RC.ex ?_))))
  exact⟨rfl,j.sp 2 [0,1]⟩
 ·rintro hm aw bm fl _ w hk ⟨O,rfl,j⟩ hb
  refine RC.sr (ic ((aw:Int)) ((p0.aU.length:Int)) (RL.nq (RC.cS (m0 hk) (RC.ss (RC.bs (mv (vi aw) ?_))))))
  obtain⟨ab,b6,hb⟩:=bd hb
  refine RL.cC 1 j xV b6 fun c7 j=>(RL.bT 0 ab j nG fun c8 j=>(RL.alloc j BW.z fun al w j=>?_))
  refine aO (vi aw) (RL.bG 0 j 1 zr nG fun w j=>?_)
  refine RL.ns (RL.bA zr lX (RL.aX 3 j zr pV tX fun c9 j=>(mv (vi aw) ?_)))
  obtain⟨av,b7,hb⟩:=bd hb
  refine RL.cut (hl:= .inr ⟨rfl,zr⟩) 0 j xV (.inl zr) b7 fun a1 j=>(RL.bE 0 av j vz (mv (vi 0) (RL.nt ?_)))
  obtain⟨da,hN,hb⟩:=bd hb
  refine RC.range (fun(a4:Nat) (bn:Unit)=>SH E V [(1,vp an 0),(12,vp al 0),(63,au),(64,vi p0.aU.length),(65,vi aw),(73,a1),(74,vi av.length),(75,vi a4)] [bx 27 an p0,bx 74 al ab,rd au p0.aU,rd a1 av]) (fun(bn:Unit)=>SH E V [(1,vp an 0),(63,au),(64,vi p0.aU.length),(65,vi aw)] [bx 27 an p0,bx 74 al ab,rd au p0.aU,rd a1 av]) (oq E V) hN ?_ ?_ ?_ ?_ ?_
  ·exact j.sp 7 [5,2,6,0]
  ·rintro hm bn _ w ⟨O,rfl,j⟩
   refine RC.sr (ic ((av.length:Int)) ((av.length:Int)) (RL.nq (RC.cT m4 (RC.ex ?_))))
   exact⟨rfl,j.sp 4 [0,1,2,3]⟩
  ·rintro hm a4 bn fl _ w hk ⟨O,rfl,j⟩ hb
   refine RC.sr (ic ((a4:Int)) ((av.length:Int)) (RL.nq (RC.cS (m0 hk) (RC.ss (RC.bs ?_)))))
   obtain⟨aa,b8,hb⟩:=bd hb
   refine RL.cC 3 j xV b8 fun bt j=>(RL.bT 0 aa j nG fun bu j=>(RL.alloc j BW.z fun ar w j=>?_))
   refine RL.bG 0 j 1 zr nG fun w j=>?_
   refine RL.nq ?_
   obtain⟨bp,hj,hb⟩:=bd hb
   refine RC.jn (fun(bp:Bool)=>SH E V [(1,vp an 0),(12,vp al 0),(63,au),(64,vi p0.aU.length),(65,vi aw),(73,a1),(74,vi av.length),(75,vi a4),(98,vb bp)] [bx 27 an p0,bx 74 al ab,rd au p0.aU,rd a1 av]) bp ?_ ?_
   ·refine gv hj (fun aq hj=>?_) fun aq hj=>?_
    rotate_left
    ·refine RC.CA E V mixed [1,0,1,0,1,1,0,0,0,0,0,0,1,1,1,1,1,1,1,1] [] (fun(x:Unit)=>[(0,79,(vp al 3)),(1,80,(vi ab.cQ)),(2,81,(vp ar 4)),(3,82,(vi aa.To)),(4,83,(vb (decide (ab.cQ<=aa.To)))),(5,84,(vb (decide (ab.cQ<=aa.To)))),(6,85,(cv (true&&((decide (ab.cQ<=aa.To))==true)) (vp ar 3))),(7,86,(cv (true&&((decide (ab.cQ<=aa.To))==true)) (vi aa.cQ))),(8,87,(cv (true&&((decide (ab.cQ<=aa.To))==true)) (vp al 4))),(9,88,(cv (true&&((decide (ab.cQ<=aa.To))==true)) (vi ab.To))),(10,89,(cv (true&&((decide (ab.cQ<=aa.To))==true)) (vb (decide (aa.cQ<=ab.To))))),(11,90,(vb ((decide (ab.cQ<=aa.To))&&(decide (aa.cQ<=ab.To))))),(12,91,(vb ((decide (ab.cQ<=aa.To))&&(decide (aa.cQ<=ab.To))))),(13,92,undef),(14,93,undef),(15,94,undef),(16,95,undef),(17,96,undef),(18,97,undef),(19,98,(vb false))]) [(1,vp an 0),(12,vp al 0),(14,vp ar 0),(63,au),(64,vi p0.aU.length),(65,vi aw),(73,a1),(74,vi av.length),(75,vi a4)] [] (fun(D:Nat->Bool) (x:Unit)=>[bx 74 ar aa,rd bu aa,pt bt aa,bx 27 an p0,bx 74 al ab,rd au p0.aU,rd a1 av]) (fun x=>by kernel_rfl) ?_ ⟨fun _=>lU gn rU,?_,fun _=>lU gn tY,?_,fun _=>FG gn rfl,fun _=>jd gn,?_,?_,?_,?_,?_,?_,fun _=>jd gn,fun _=>BN aq,fun _=>BN aq,fun _=>BN aq,fun _=>BN aq,fun _=>BN aq,fun _=>BN aq,fun _=>HW gn aq rfl,trivial⟩ ?_
     ·have j:=j.drew
      exact⟨(),dY.none,(Ba zr),zt,j⟩
     ·rintro D U w hD ae ak ⟨_,o,ha,_,j⟩
      obtain⟨O,rfl⟩:=(ac (o.at 0 rfl (ae.1 rfl)) az).eU
      refine RL.aN 4 j zr lV cH ?_
      exact RL.nil ⟨rfl,(),o.pu 1,ha.u,zt,j⟩
     ·rintro D U w hD ae ak ⟨_,o,ha,_,j⟩
      obtain⟨O,rfl⟩:=(ac (o.at 2 rfl (ae.1 rfl)) az).eU
      refine RL.aN 0 j zr m6 cH ?_
      exact RL.nil ⟨rfl,(),o.pu 3,ha.u,zt,j⟩
     ·rintro D U w hD ae ak ⟨_,o,ha,_,j⟩
      obtain⟨O,rfl⟩:=(ac (o.at 5 rfl (ae.1 rfl)) (ac (ha.at 2 rfl) az)).eU
      refine RL.gs true (decide (ab.cQ<=aa.To)) (vp ar 3) zr zr zr (dQ rU) ?_
      exact RL.nil ⟨rfl,(),o.pu 6,ha.u,zt,j⟩
     ·rintro D U w hD ae ak ⟨_,o,ha,_,j⟩
      obtain⟨O,rfl⟩:=(ac (o.at 5 rfl (ae.2.1 rfl)) (ac (o.at 6 rfl (ae.1 rfl)) az)).eU
      refine RL.gs true (decide (ab.cQ<=aa.To)) (vi aa.cQ) rfl rfl rfl (bX 0 rfl j (fun h=>by exact(cR h:cv (true&&((decide (ab.cQ<=aa.To))==true)) (vp ar 3)= (vp ar 3))) rfl lV cH) ?_
      exact RL.nil ⟨rfl,(),o.pu 7,ha.u,zt,j⟩
     ·rintro D U w hD ae ak ⟨_,o,ha,_,j⟩
      obtain⟨O,rfl⟩:=(ac (o.at 5 rfl (ae.1 rfl)) (ac (ha.at 1 rfl) az)).eU
      refine RL.gs true (decide (ab.cQ<=aa.To)) (vp al 4) zr zr zr (dQ tY) ?_
      exact RL.nil ⟨rfl,(),o.pu 8,ha.u,zt,j⟩
     ·rintro D U w hD ae ak ⟨_,o,ha,_,j⟩
      obtain⟨O,rfl⟩:=(ac (o.at 5 rfl (ae.2.1 rfl)) (ac (o.at 8 rfl (ae.1 rfl)) az)).eU
      refine RL.gs true (decide (ab.cQ<=aa.To)) (vi ab.To) rfl rfl rfl (bX 4 rfl j (fun h=>by exact(cR h:cv (true&&((decide (ab.cQ<=aa.To))==true)) (vp al 4)= (vp al 4))) rfl m6 cH) ?_
      exact RL.nil ⟨rfl,(),o.pu 9,ha.u,zt,j⟩
     ·rintro D U w hD ae ak ⟨_,o,ha,_,j⟩
      obtain⟨O,rfl⟩:=(ac (o.at 5 rfl (ae.2.2.1 rfl)) (ac (o.at 7 rfl (ae.1 rfl)) (ac (o.at 9 rfl (ae.2.1 rfl)) az))).eU
      refine RL.gs true (decide (ab.cQ<=aa.To)) (vb (decide (aa.cQ<=ab.To))) rfl rfl rfl (eP .leq .i64 aa.cQ ab.To rfl (fun h=>by exact(cR h:cv (true&&((decide (ab.cQ<=aa.To))==true)) (vi aa.cQ)= (vi aa.cQ))) (fun h=>by exact(cR h:cv (true&&((decide (ab.cQ<=aa.To))==true)) (vi ab.To)= (vi ab.To))) rfl) ?_
      exact RL.nil ⟨rfl,(),o.pu 10,ha.u,zt,j⟩
     ·rintro D U w hD ae ak ⟨_,o,ha,_,j⟩
      obtain⟨O,rfl⟩:=(ac (o.at 5 rfl (ae.1 rfl)) (ac (o.at 10 rfl (ae.2.1 rfl)) az)).eU
      refine RL.pick (decide (ab.cQ<=aa.To)) (vb ((decide (ab.cQ<=aa.To))&&(decide (aa.cQ<=ab.To)))) (iX true) ?_
      exact RL.nil ⟨rfl,(),o.pu 11,ha.u,zt,j⟩
     rintro D U w a5 ⟨_,o,ha,_,j⟩
     obtain⟨O,rfl⟩:=(ac (o.at 19 rfl (jy a5 19)) (ac (ha.at 0 rfl) (ac (ha.at 1 rfl) (ac (ha.at 2 rfl) (ac (ha.at 3 rfl) (ac (ha.at 4 rfl) (ac (ha.at 5 rfl) (ac (ha.at 6 rfl) (ac (ha.at 7 rfl) (ac (ha.at 8 rfl) az)))))))))).eU
     obtain rfl:=oi hj
     exact⟨rfl,j.sp 7 [3,4,5,6]⟩
    obtain⟨b9,ca,hj⟩:=bd hj
    obtain⟨cb,cc,hj⟩:=bd hj
    obtain⟨bq,cd,hj⟩:=bd hj
    refine RC.CA E V mixed [1,0,1,0,1,1,0,0,0,0,0,0,1,0,0,0,0,0,1,1] [13,14,15,16] (fun(x:Value×Value×Value×Value)=>(fun af ag ah ai=>[(0,79,(vp al 3)),(1,80,(vi ab.cQ)),(2,81,(vp ar 4)),(3,82,(vi aa.To)),(4,83,(vb (decide (ab.cQ<=aa.To)))),(5,84,(vb (decide (ab.cQ<=aa.To)))),(6,85,(cv (true&&((decide (ab.cQ<=aa.To))==true)) (vp ar 3))),(7,86,(cv (true&&((decide (ab.cQ<=aa.To))==true)) (vi aa.cQ))),(8,87,(cv (true&&((decide (ab.cQ<=aa.To))==true)) (vp al 4))),(9,88,(cv (true&&((decide (ab.cQ<=aa.To))==true)) (vi ab.To))),(10,89,(cv (true&&((decide (ab.cQ<=aa.To))==true)) (vb (decide (aa.cQ<=ab.To))))),(11,90,(vb ((decide (ab.cQ<=aa.To))&&(decide (aa.cQ<=ab.To))))),(12,91,(vb ((decide (ab.cQ<=aa.To))&&(decide (aa.cQ<=ab.To))))),(13,92,af),(14,93,ag),(15,94,ah),(16,95,ai),(17,96,(vi bq)),(18,97,(vb (bq==0))),(19,98,(vb (bq==0)))]) x.1 x.2.1 x.2.2.1 x.2.2.2) [(1,vp an 0),(12,vp al 0),(14,vp ar 0),(63,au),(64,vi p0.aU.length),(65,vi aw),(73,a1),(74,vi av.length),(75,vi a4)] [] (fun(D:Nat->Bool) (x:Value×Value×Value×Value)=>(fun af ag ah ai=>[bif D 0 then (rd af ab) else aV,bif D 1 then (rd ag b9) else aV,bif D 2 then (rd ah aa) else aV,bif D 3 then (rd ai cb) else aV,bx 74 ar aa,rd bu aa,pt bt aa,bx 27 an p0,bx 74 al ab,rd au p0.aU,rd a1 av]) x.1 x.2.1 x.2.2.1 x.2.2.2) (fun x=>by kernel_rfl) ?_ ⟨fun _=>lU gn rU,?_,fun _=>lU gn tY,?_,fun _=>FG gn rfl,fun _=>jd gn,?_,?_,?_,?_,?_,?_,fun _=>jd gn,?_,?_,?_,?_,?_,fun _=>FG (gy aq rfl) rfl,fun _=>HV gn aq rfl,trivial⟩ ?_
    ·have j:=((((j.drew).aV).aV).aV).aV
     exact⟨(undef,undef,undef,undef),dY.none,(Ba zr),zt,j⟩
    ·rintro D U w hD ae ak ⟨⟨af,ag,ah,ai⟩,o,ha,_,j⟩
     obtain⟨O,rfl⟩:=(ac (o.at 0 rfl (ae.1 rfl)) az).eU
     refine RL.aN 8 j zr lV cH ?_
     exact RL.nil ⟨rfl,(af,ag,ah,ai),o.pu 1,ha.u,zt,j⟩
    ·rintro D U w hD ae ak ⟨⟨af,ag,ah,ai⟩,o,ha,_,j⟩
     obtain⟨O,rfl⟩:=(ac (o.at 2 rfl (ae.1 rfl)) az).eU
     refine RL.aN 4 j zr m6 cH ?_
     exact RL.nil ⟨rfl,(af,ag,ah,ai),o.pu 3,ha.u,zt,j⟩
    ·rintro D U w hD ae ak ⟨⟨af,ag,ah,ai⟩,o,ha,_,j⟩
     obtain⟨O,rfl⟩:=(ac (o.at 5 rfl (ae.1 rfl)) (ac (ha.at 2 rfl) az)).eU
     refine RL.gs true (decide (ab.cQ<=aa.To)) (vp ar 3) zr zr zr (dQ rU) ?_
     exact RL.nil ⟨rfl,(af,ag,ah,ai),o.pu 6,ha.u,zt,j⟩
    ·rintro D U w hD ae ak ⟨⟨af,ag,ah,ai⟩,o,ha,_,j⟩
     obtain⟨O,rfl⟩:=(ac (o.at 5 rfl (ae.2.1 rfl)) (ac (o.at 6 rfl (ae.1 rfl)) az)).eU
     refine RL.gs true (decide (ab.cQ<=aa.To)) (vi aa.cQ) rfl rfl rfl (bX 4 rfl j (fun h=>by exact(cR h:cv (true&&((decide (ab.cQ<=aa.To))==true)) (vp ar 3)= (vp ar 3))) rfl lV cH) ?_
     exact RL.nil ⟨rfl,(af,ag,ah,ai),o.pu 7,ha.u,zt,j⟩
    ·rintro D U w hD ae ak ⟨⟨af,ag,ah,ai⟩,o,ha,_,j⟩
     obtain⟨O,rfl⟩:=(ac (o.at 5 rfl (ae.1 rfl)) (ac (ha.at 1 rfl) az)).eU
     refine RL.gs true (decide (ab.cQ<=aa.To)) (vp al 4) zr zr zr (dQ tY) ?_
     exact RL.nil ⟨rfl,(af,ag,ah,ai),o.pu 8,ha.u,zt,j⟩
    ·rintro D U w hD ae ak ⟨⟨af,ag,ah,ai⟩,o,ha,_,j⟩
     obtain⟨O,rfl⟩:=(ac (o.at 5 rfl (ae.2.1 rfl)) (ac (o.at 8 rfl (ae.1 rfl)) az)).eU
     refine RL.gs true (decide (ab.cQ<=aa.To)) (vi ab.To) rfl rfl rfl (bX 8 rfl j (fun h=>by exact(cR h:cv (true&&((decide (ab.cQ<=aa.To))==true)) (vp al 4)= (vp al 4))) rfl m6 cH) ?_
     exact RL.nil ⟨rfl,(af,ag,ah,ai),o.pu 9,ha.u,zt,j⟩
    ·rintro D U w hD ae ak ⟨⟨af,ag,ah,ai⟩,o,ha,_,j⟩
     obtain⟨O,rfl⟩:=(ac (o.at 5 rfl (ae.2.2.1 rfl)) (ac (o.at 7 rfl (ae.1 rfl)) (ac (o.at 9 rfl (ae.2.1 rfl)) az))).eU
     refine RL.gs true (decide (ab.cQ<=aa.To)) (vb (decide (aa.cQ<=ab.To))) rfl rfl rfl (eP .leq .i64 aa.cQ ab.To rfl (fun h=>by exact(cR h:cv (true&&((decide (ab.cQ<=aa.To))==true)) (vi aa.cQ)= (vi aa.cQ))) (fun h=>by exact(cR h:cv (true&&((decide (ab.cQ<=aa.To))==true)) (vi ab.To)= (vi ab.To))) rfl) ?_
     exact RL.nil ⟨rfl,(af,ag,ah,ai),o.pu 10,ha.u,zt,j⟩
    ·rintro D U w hD ae ak ⟨⟨af,ag,ah,ai⟩,o,ha,_,j⟩
     obtain⟨O,rfl⟩:=(ac (o.at 5 rfl (ae.1 rfl)) (ac (o.at 10 rfl (ae.2.1 rfl)) az)).eU
     refine RL.pick (decide (ab.cQ<=aa.To)) (vb ((decide (ab.cQ<=aa.To))&&(decide (aa.cQ<=ab.To)))) (iX true) ?_
     exact RL.nil ⟨rfl,(af,ag,ah,ai),o.pu 11,ha.u,zt,j⟩
    ·rintro D U w hD ae ak ⟨⟨af,ag,ah,ai⟩,o,ha,_,j⟩
     obtain⟨O,rfl⟩:=(ac (o.at 12 rfl (ae.1 rfl)) (ac (ha.at 1 rfl) az)).eU
     have j:=j.bV 0 hD
     refine RL.aX (hg:=(cg aq)) (f:=(fun x=>x)) 8 j zr Fd.self nG fun cf j=>?_
     have j:=(j.pl 12 [0,2,3,4,5,6,7,8,9,10,11]).cF 0 true aV
     exact RL.nil ⟨rfl,(cf,ag,ah,ai),o.pu 13,ha.u,zt,j⟩
    ·rintro D U w hD ae ak ⟨⟨af,ag,ah,ai⟩,o,ha,_,j⟩
     obtain⟨O,rfl⟩:=(ac (o.at 12 rfl (ae.2.1 rfl)) (ac (o.at 13 rfl (ae.1 rfl)) az)).eU
     have j:=(j.cE 0 (ae.1 rfl)).bV 1 hD
     refine RL.call (cg aq) zr BX [af] zr (aF (gw N (i0:=0) j zr ca) ?_)
     rintro ch w j
     have j:=((j.pl 12 [1,0,3,4,5,6,7,8,9,10,11]).cF (hb:=ae.1 rfl) 0 (D 13) aV).cF 1 true aV
     exact RL.nil ⟨rfl,(af,ch,ah,ai),o.pu 14,ha.u,zt,j⟩
    ·rintro D U w hD ae ak ⟨⟨af,ag,ah,ai⟩,o,ha,_,j⟩
     obtain⟨O,rfl⟩:=(ac (o.at 12 rfl (ae.1 rfl)) (ac (ha.at 2 rfl) az)).eU
     have j:=j.bV 2 hD
     refine RL.aX (hg:=(cg aq)) (f:=(fun x=>x)) 4 j zr Fd.self nG fun cj j=>?_
     have j:=(j.pl 12 [1,2,0,4,5,6,7,8,9,10,11]).cF 2 true aV
     exact RL.nil ⟨rfl,(af,ag,cj,ai),o.pu 15,ha.u,zt,j⟩
    ·rintro D U w hD ae ak ⟨⟨af,ag,ah,ai⟩,o,ha,_,j⟩
     obtain⟨O,rfl⟩:=(ac (o.at 12 rfl (ae.2.2.1 rfl)) (ac (o.at 15 rfl (ae.1 rfl)) az)).eU
     have j:=(j.cE 2 (ae.1 rfl)).bV 3 hD
     refine RL.call (cg aq) zr BX [ah] zr (aF (gw N (i0:=2) j zr cc) ?_)
     rintro ck w j
     have j:=((j.pl 12 [1,2,3,0,5,6,7,8,9,10,11]).cF (hb:=ae.1 rfl) 2 (D 15) aV).cF 3 true aV
     exact RL.nil ⟨rfl,(af,ag,ah,ck),o.pu 16,ha.u,zt,j⟩
    ·rintro D U w hD ae ak ⟨⟨af,ag,ah,ai⟩,o,ha,_,j⟩
     obtain⟨O,rfl⟩:=(ac (o.at 12 rfl (ae.2.2.2.1 rfl)) (ac (o.at 14 rfl (ae.1 rfl)) (ac (o.at 16 rfl (ae.2.1 rfl)) az))).eU
     have j:=(j.cE 1 (ae.1 rfl)).cE 3 (ae.2.1 rfl)
     refine RL.call (cg aq) zr It [ag,ai] zr (aF (ye N (i0:=1) (i1:=3) j zr zr cd) ?_)
     rintro _ w ⟨rfl,j⟩
     have j:=(j.cF (hb:=ae.1 rfl) 1 (D 14) aV).cF (hb:=ae.2.1 rfl) 3 (D 16) aV
     exact RL.nil ⟨rfl,(af,ag,ah,ai),o.pu 17,ha.u,zt,j⟩
    rintro D U w a5 ⟨⟨af,ag,ah,ai⟩,o,ha,_,j⟩
    have j:=(((j.cE 0 (jy a5 13)).cE 1 (jy a5 14)).cE 2 (jy a5 15)).cE 3 (jy a5 16)
    obtain⟨O,rfl⟩:=(ac (o.at 19 rfl (jy a5 19)) (ac (ha.at 0 rfl) (ac (ha.at 1 rfl) (ac (ha.at 2 rfl) (ac (ha.at 3 rfl) (ac (ha.at 4 rfl) (ac (ha.at 5 rfl) (ac (ha.at 6 rfl) (ac (ha.at 7 rfl) (ac (ha.at 8 rfl) az)))))))))).eU
    obtain rfl:=oi hj
    exact⟨rfl,j.sp 11 [7,8,9,10]⟩
   rintro _ w ⟨O,rfl,j⟩
   refine aG (fq hb (fun hc hb=>?_) fun hc hb=>?_)
   rotate_left
   ·refine RC.skip (bU (aG (RC.region (RL.inc hk hm (mv (vi ((a4+1:Nat):Int)) (RL.nil ?_))))))
    obtain rfl:=oi hb
    exact⟨rfl,j.sp 4 [0,1,2,3]⟩
   refine RC.sr (aO (.pointer none) (aO (vi 12) (RL.nt (RC.rb (bL ?_)))))
   obtain rfl:=oi hb
   exact⟨rfl,jw ⟨rfl,j.drop 4⟩⟩
  ·intro r U w e hK
   subst e
   refine iY (bL ?_)
   obtain rfl:=oi hb
   exact⟨rfl,hK⟩
  rintro bn _ w rfl ⟨O,rfl,j⟩
  rw [Fo.fZ] at hb
  refine bU (aG (RC.region (RL.inc hk hm (mv (vi ((aw+1:Nat):Int)) (RL.nil ?_)))))
  obtain rfl:=oi hb
  exact⟨rfl,j.sp 4 [0,2]⟩
 ·intro r U w e hK
  subst e
  refine bL ?_
  obtain rfl:=oi hb
  exact hK
 rintro bm _ w rfl ⟨O,rfl,j⟩
 rw [Fo.fZ] at hb
 refine aG (RC.sr (RL.aX (f:=(fun x=>x)) 0 j zr Fd.self oG fun cl j=>?_))
 obtain⟨cs,hcs,hv224,j⟩:=j.Eo (i:=0) rfl rfl
 obtain⟨bc,bf,bg,bh,rfl⟩:=HR hcs
 have j:=(((j.jS (i:=0) (k:=0) (f:=fun x=>x.aJ) rfl oE rfl rfl rfl).jS (i:=1) (k:=1) (f:=fun x=>x.cW) rfl vr rfl rfl rfl).jS (i:=2) (k:=2) (f:=fun x=>x.aU) rfl pV rfl rfl rfl).jS (i:=3) (k:=3) (f:=fun x=>x.aZ) rfl pW rfl rfl rfl
 refine RL.FE (zs:=[(.slice none 0 0),(.slice none 0 0),(.slice none 0 0),(.slice none 0 0),(.slice none 0 0),(.slice none 0 0),(.slice none 0 0),(.slice none 0 0),(.slice none 0 0),(.slice none 0 0),(.slice none 0 0),(.slice none 0 0)]) (cs:=[bc,bf,bg,bh,(.slice none 0 0),(.slice none 0 0),(.slice none 0 0),(.slice none 0 0),(.slice none 0 0),(.slice none 0 0),(.slice none 0 0),(.slice none 0 0)]) zt zr [(0,cl)] [(0,[bc,bf,bg,bh])] zr Iu ⟨rfl,(congrArg Value.cells hv224),zt⟩ zr (RL.A4 (cs:=[bc,bf,bg,bh,(.slice none 0 0),(.slice none 0 0),(.slice none 0 0),(.slice none 0 0),(.slice none 0 0),(.slice none 0 0),(.slice none 0 0),(.slice none 0 0)]) zt zr j zr (yT.all (⟨(u4 3 j zr),(u4 2 j zr),(u4 1 j zr),(u4 0 j zr),zr,zr,zr,zr,zr,zr,zr,zr,zt⟩:yT [bc,bf,bg,bh,(.slice none 0 0),(.slice none 0 0),(.slice none 0 0),(.slice none 0 0),(.slice none 0 0),(.slice none 0 0),(.slice none 0 0),(.slice none 0 0)])) fun a0 w j=>?_)
 refine aO (vp a0 0) (RL.nq (RC.sr (mv (vp a0 0) ?_)))
 have j:=((((((j.dH (List aA) 96).dH aH 109).pull 0).pull 2).dup 6 rfl).dup 9 rfl).pull 6
 obtain⟨cm,cn,hb⟩:=bd hb
 refine RL.call zt zr ID [(vp a0 0)] zr (aF (pI N j cn) ?_)
 rintro _ w ⟨cp,cq,rfl,j⟩
 refine RL.not cm.1 (RL.nt (fq hb (fun hc hb=>?_) fun hc hb=>?_))
 ·refine RC.sr (aO (.pointer none) (aO (vi 2) (RL.nt (RC.rt ?_))))
  obtain rfl:=oi hb
  exact jw ⟨rfl,j.drop 14⟩
 refine RC.sx (mv (vp a0 0) ?_)
 have j:=(((((j.freeze 2).dH (List Int) 56).pull 0).dup 4 rfl).dup 10 rfl).pull 4
 obtain⟨db,cr,hb⟩:=bd hb
 refine RL.call zt zr IG [(vp a0 0)] zr (aF (pJ N j cr) ?_)
 rintro _ w ⟨ct,rfl,j⟩
 refine RL.ns (mv (vp a0 0) ?_)
 have j:=((((((((((((j.freeze 1).dH Int 3).dH Int 3).dH Int 3).dH dO 70).pull 0).pull 2).pull 4).pull 6).dup 9 rfl).dup 14 rfl).dup 19 rfl).dup 21 rfl
 have j:=j.pull 12
 obtain⟨dc,cu,hb⟩:=bd hb
 refine RL.call zt zr IN [(vp a0 0)] zr (aF (mn N j cu) ?_)
 rintro _ w ⟨cw,cx,cy,cz,c0,rfl,j⟩
 refine RL.ns (mv (vp a0 0) (aO (vp a0 0) (aO (vi 0) (RL.nt (RC.ret ?_)))))
 obtain rfl:=oi hb
 exact jw ⟨a0,bc,bf,bg,bh,cp,cq,ct,cw,cx,cy,cz,c0,zr,j.pk 27 [0,22,21,20,19,14,15,11,1,2,3,4,5]⟩
def kX (E:World) (V:List HP) (res:Int×Bool) (v:Value) (w:World):Prop:=v = .tuple #[(vi res.1),(vb res.2)]/\Holds E w V
theorem kF {p0: (List cK)} {p1:fB} {p2:cK->fB->Option Int} {res:Int×Bool} (o:Holds E w V) (h0:V[i0]? =some (rd v0 p0)) (h1:V[i1]? =some (rd v1 p1)) (h2:Fu bD E V v2 p2 (fun(r:Int)=>Value.int .i64 r)) (hb:eD N p0 p1 p2=some res):
    Calls bD 27 [v0,v1,v2].toArray w (gR (kX E V res)):=by
 unfold eD at hb
 refine enter Tryz.func27 zr zr ?_
 have o:=(o.dup (i0+0) h0).dup (i1+1) h1
 refine RC.sr (RL.dD 0 v1 o zr fun ae w o=>?_)
 refine aO (vi 0) (aO (vb false) (RL.ns (mv v0 (RL.bE 2 p0 o C2 (aO (vi p0.length) (RL.ns (mv (vi p0.length) (aO (vi 0) ?_))))))))
 refine aO (vi p0.length) (RL.nq ?_)
 obtain⟨av,hN,hb⟩:=bd hb
 refine RC.iter (fun(j:Int×Int)=>SH E V [(0,v0),(2,v2),(4,vp ae 0),(8,vi p0.length),(9,vi j.1),(10,vi j.2)] [rd v0 p0,bx 38 ae p1]) (fun(j:Int×Int)=>SH E V [(0,v0),(2,v2),(4,vp ae 0),(8,vi p0.length),(9,vi j.1)] [rd v0 p0,bx 38 ae p1]) (fun(r:Empty) _ _=>r.elim) hN ?_ ?_ ?_ ?_
 ·exact o.sp 3 [2,0]
 ·rintro j fl _ w ⟨O,rfl,o⟩ hb
  refine RC.seq (RC.sr (mv (vi j.1) (mv (vi j.2) (ic j.1 j.2 (RL.nt (fq hb (fun hc hb=>?_) fun hc hb=>?_))))))
  rotate_left
  ·refine RC.ex ?_
   obtain rfl:=oi hb
   exact⟨rfl,o.sp 2 [0,1]⟩
  refine RC.sn (RC.bs (mv (vi j.1) (mv (vi j.2) (RL.jC j.1 j.2 (RL.conv (IntKind.wrap .i64 (j.1+j.2)) zt zr zr ⟨_,CC⟩ E8 (RL.bin (v:=(.int .u64 (IntKind.wrap .u64 (IntKind.wrap .i64 (j.1+j.2))))) (v':=(.int .u64 1)) (u:=(.int .u64 (Int.fdiv (IntKind.wrap .u64 (IntKind.wrap .i64 (j.1+j.2))) 2))) zt zr zr zr (fun _=>zr) (fun _=>zr) (RL.conv (Int.fdiv (IntKind.wrap .u64 (IntKind.wrap .i64 (j.1+j.2))) 2) zt zr zr ⟨_,E8⟩ CC (aO (vi (IntKind.wrap .i64 (Int.fdiv (IntKind.wrap .u64 (IntKind.wrap .i64 (j.1+j.2))) 2))) ?_))))))))
  refine RL.nq (RC.wz mixed [0,0,0,0,0,0,2,0] [0,1,2,3,4,5,6,7] ?_)
  have o:=o.drew
  refine DP.e0 zr (mv v2 (bZ zr (mv v0 (bZ zr (mv (vi (IntKind.wrap .i64 (Int.fdiv (IntKind.wrap .u64 (IntKind.wrap .i64 (j.1+j.2))) 2))) (bZ zr ?_))))))
  obtain⟨ak,al,hb⟩:=bd hb
  refine RL.cC 0 o BZ al fun ax o=>(bZ zr (RL.bT 0 ak o vB fun ay o=>(bZ zr (RL.aX (f:=(fun x=>x)) 3 o zr Fd.self mS fun az o=>(sB zr ?_)))))
  obtain⟨an,ao,hb⟩:=bd hb
  refine RL.Ag 1 0 zt zr o zr h2 5 zr zr zr zr zr ao fun w o=>(wC zr (ic an 0 (DP.d0 (DP.z (aG ?_)))))
  obtain⟨af,hj,hb⟩:=bd hb
  refine RC.jn (fun(af:Int×Int)=>SH E V [(0,v0),(2,v2),(4,vp ae 0),(8,vi p0.length),(9,vi af.1),(10,vi af.2)] [rd v0 p0,bx 38 ae p1]) af ?_ ?_
  ·refine fq hj (fun hc hj=>?_) fun hc hj=>?_
   rotate_left
   ·refine RC.region (mv (vi (IntKind.wrap .i64 (Int.fdiv (IntKind.wrap .u64 (IntKind.wrap .i64 (j.1+j.2))) 2))) (aO (vi (IntKind.wrap .i64 (Int.fdiv (IntKind.wrap .u64 (IntKind.wrap .i64 (j.1+j.2))) 2))) (RL.nil ?_)))
    obtain rfl:=oi hj
    exact⟨rfl,o.sp 5 [3,4]⟩
   refine RC.region (mv (vi (IntKind.wrap .i64 (Int.fdiv (IntKind.wrap .u64 (IntKind.wrap .i64 (j.1+j.2))) 2))) (RL.jC (IntKind.wrap .i64 (Int.fdiv (IntKind.wrap .u64 (IntKind.wrap .i64 (j.1+j.2))) 2)) 1 (aO (vi (IntKind.wrap .i64 ((IntKind.wrap .i64 (Int.fdiv (IntKind.wrap .u64 (IntKind.wrap .i64 (j.1+j.2))) 2))+1))) (RL.nil ?_))))
   obtain rfl:=oi hj
   exact⟨rfl,o.sp 5 [3,4]⟩
  rintro _ w ⟨O,rfl,o⟩
  refine bU ?_
  obtain rfl:=oi hb
  exact⟨rfl,o.sp 2 [0,1]⟩
 ·intro r _ _ _ _
  exact r.elim
 rintro j _ w rfl ⟨O,rfl,o⟩
 rw [Fo.fZ] at hb
 refine aG (RC.seq ?_)
 obtain⟨ah,hj,hb⟩:=bd hb
 refine RC.jn (fun(ah:Bool)=>SH E V [(6,vi j.1),(7,vb ah)] []) ah ?_ ?_
 ·refine RC.wz mixed [1,0,0,0,0,0,0,0,0,0,0,2,0,0,0,0] [0,1,2,3,4,5,6,7,8,9,10,11,12,13,14,15] ?_
  have o:=o.drew
  refine DP.e1 (vi j.1) zr (fun w=>RL.move (vi j.1) zt DP.d1) (DP.e0 zr (mv (vi j.1) (bZ zr (mv (vi p0.length) (bZ zr (ic j.1 ((p0.length:Int)) (bZ zr (mv (vb (decide (j.1< (p0.length:Int)))) ?_))))))))
  refine DP.d0 (gv hj (fun ab hj=>?_) fun ab hj=>?_)
  rotate_left
  ·refine DP.e0 zr (bS ab (bZ zr (bS ab (bZ zr (bS ab (bZ zr (bS ab (bZ zr ?_))))))))
   refine bS ab (bZ zr (bS ab (sB zr (bS ab (wC zr (bS ab (bZ zr (gx ab (vb false) ?_))))))))
   refine bZ zr (aO (vi j.1) (bZ zr (aO (vb false) (DP.d0 (DP.z ?_)))))
   obtain rfl:=oi hj
   exact⟨rfl,o.sp 2 []⟩
  refine DP.e0 zr (RL.move v2 (cg ab) (bZ zr (RL.move v0 (cg ab) (bZ zr (RL.move (vi j.1) (cg ab) (bZ zr ?_))))))
  obtain⟨aq,ar,hj⟩:=bd hj
  refine RL.cC (hg:=(cg ab)) 0 o BZ ar fun a0 o=>(bZ zr (RL.bT (hg:=(cg ab)) 0 aq o vB fun a1 o=>(bZ zr (RL.aX (hg:=(cg ab)) (f:=(fun x=>x)) 3 o zr Fd.self mS fun a2 o=>(sB zr ?_)))))
  obtain⟨ai,au,hj⟩:=bd hj
  refine RL.Ag 1 0 (cg ab) zr o zr h2 5 zr zr zr zr zr au fun w o=>(wC zr (RL.jP ai 0 (cg ab) (bZ zr (gx ab (vb (ai==0)) (bZ zr (aO (vi j.1) (bZ zr (aO (vb (ai==0)) ?_))))))))
  refine DP.d0 (DP.z ?_)
  obtain rfl:=oi hj
  exact⟨rfl,o.sp 5 []⟩
 rintro _ w ⟨O,rfl,o⟩
 refine aG (RC.ret ?_)
 obtain rfl:=oi hb
 exact jw ⟨rfl,o.drop 0⟩
theorem rC {p0:cK} {p1:fB} (j:Holds E w V) (h0:V[i0]? =some (rd v0 p0)) (h1:V[i1]? =some (rd v1 p1)) (o:gq N p0 p1=some res):
    Calls bD 28 [v0,v1].toArray w (gR (aP E V res)):=by
 unfold gq at o
 refine enter Tryz.func28 zr zr ?_
 have j:=(j.dup (i0+0) h0).dup (i1+1) h1
 refine RC.sr (RL.dD 1 v0 j zr fun ah w j=>?_)
 have j:=j.gm (i:=0) rfl
 refine RL.dD 1 v1 j zr fun ai w j=>?_
 have j:=j.gm (i:=0) rfl
 refine aO (vi 0) (RL.nq (RC.wz mixed [0,2,1,2,0] [0,2,1,3,4] ?_))
 have j:=j.drew
 refine DP.e0 zr (RL.bT 1 p0 j vB fun aa j=>(DP.d0 (DP.uP p1 1 zr j mS fun ab a35 aj j=>(DP.e2 zr ?_))))
 obtain⟨ak,ad,o⟩:=bd o
 refine RL.call zt zr Ew [aa] zr (aF (kS N (i0:=2) j zr ad) ?_)
 rintro ae w j
 refine DP.d2 (⟨zt,j.jA 1⟩) (DP.e2 zr ?_)
 obtain⟨af,ag,o⟩:=bd o
 refine RL.call zt zr B0 [ae,ab] zr (aF (eQ N (i0:=0) (i1:=2) j zr zr ag) ?_)
 rintro _ w ⟨rfl,j⟩
 refine DP.d2 (⟨zt,j.jA 1⟩) (DP.e0 zr (aO (vi af) (DP.d0 ?_)))
 have j:=j.pl 8 [0,2,3,4,5,6,7]
 refine DP.z (aG (RC.ret ?_))
 obtain rfl:=oi o
 exact cD ⟨rfl,j.drop 7⟩
theorem fO {p0:iD} {p1:fB} (o:Holds E w V) (h0:V[i0]? =some (rd v0 p0)) (h1:V[i1]? =some (rd v1 p1)) (hb:dE N p0 p1=some res):
    Calls bD 12 [v0,v1].toArray w (gR (aP E V res)):=by
 unfold dE at hb
 refine enter Tryz.func12 zr zr ?_
 have o:=(o.dup (i0+0) h0).dup (i1+1) h1
 refine RC.sr (RL.dD 1 v0 o zr fun ai w o=>?_)
 refine RL.dD 1 v1 o zr fun aj w o=>?_
 refine aO (vi 0) (RL.ns (RL.bA zr tZ (RL.aX 1 o zr pW BY fun ad o=>(RL.aX (f:=(fun x=>x)) 1 o zr Fd.self mS fun ae o=>?_))))
 obtain⟨aa,af,hb⟩:=bd hb
 refine RL.call trivial rfl IQ [ad,ae,(.func (.func 28) #[] #[])] rfl (aF (kF N (i0:=1) (i1:=0) o rfl rfl ⟨28,[],rfl,IP,fun w Γl v v' y0 y1 r i j o hi hj hr=>by exact aF (rC N (i0:=i) (i1:=j) o hi hj hr) fun _ _ h=>h⟩ af) ?_)
 rintro _ w ⟨rfl,o⟩
 refine mv (.tuple #[(vi aa.1),(vb aa.2)]) (RL.extract (vi aa.1) (RL.extract (vb aa.2) (aO (vi aa.1) (aO (vb aa.2) (RL.nq (RC.sr (mv (vb aa.2) (RL.not aa.2 ?_))))))))
 refine RL.nt (fq hb (fun hc hb=>?_) fun hc hb=>?_)
 ·refine RC.sr (aO (vi (-1)) (RL.nt (RC.rt ?_)))
  obtain rfl:=oi hb
  exact cD ⟨rfl,o.drop 6⟩
 refine RC.sx (mv (vi aa.1) (aO (vi aa.1) (RL.nt (RC.ret ?_))))
 obtain rfl:=oi hb
 exact cD ⟨rfl,o.drop 6⟩
def yf (E:World) (V:List HP) (r:Int) (U:Nat->Value) (w:World):Prop:=lK bD 18 Tryz.f36 (aP E V r) .ret U w
theorem wH {p0: (List Int)} (j:Holds E w V) (h0:V[i0]? =some (rd v0 p0)) (o:nb N p0=some res):
    Calls bD 36 [v0].toArray w (gR (aP E V res)):=by
 unfold nb at o
 refine enter Tryz.func36 zr zr ?_
 have j:=j.dup (i0+0) h0
 refine RC.sr (aO (vi 0) (RL.ns (aO (vi 0) (RL.nq (RC.sr (mv v0 (RL.bE 0 p0 j lM (mv (vi 0) ?_))))))))
 refine RL.nt ?_
 obtain⟨ak,hN,o⟩:=bd o
 refine RC.range (fun(ab:Nat) (ad:Unit)=>SH E V [(3,vi 0),(6,v0),(7,vi p0.length),(8,vi ab)] [rd v0 p0]) (fun(ad:Unit)=>SH E V [(3,vi 0)] [rd v0 p0]) (yf E V) hN ?_ ?_ ?_ ?_ ?_
 ·exact j.sp 1 [0]
 ·rintro hm ad _ w ⟨O,rfl,j⟩
  refine RC.sr (ic ((p0.length:Int)) ((p0.length:Int)) (RL.nq (RC.cT m4 (RC.ex ?_))))
  exact⟨rfl,j.sp 1 [0]⟩
 ·rintro hm ab ad fl _ w hk ⟨O,rfl,j⟩ o
  refine RC.sr (ic ((ab:Int)) ((p0.length:Int)) (RL.nq (RC.cS (m0 hk) (RC.ss (RC.bs ?_)))))
  obtain⟨aa,ah,o⟩:=bd o
  refine RL.cC 0 j eF ah fun an j=>(RL.bK aa 0 j cH (aO (vi aa) (RL.ns (mv (vi aa) (mv (vi 0) (ic aa 0 (RL.nt (fq o (fun hc o=>?_) fun hc o=>?_))))))))
  rotate_left
  ·refine RC.skip (bU (aG (RC.region (RL.inc hk hm (mv (vi ((ab+1:Nat):Int)) (RL.nil ?_))))))
   obtain rfl:=oi o
   exact⟨rfl,j.sp 2 [1]⟩
  refine RC.sr (mv (vi aa) (aO (vi aa) (RL.nt (RC.rb (bL ?_)))))
  obtain rfl:=oi o
  exact⟨rfl,cD ⟨rfl,j.drop 2⟩⟩
 ·intro r U w e hK
  subst e
  refine bL ?_
  obtain rfl:=oi o
  exact hK
 rintro ad _ w rfl ⟨O,rfl,j⟩
 rw [Fo.fZ] at o
 refine aG (RC.sr (mv (vi 0) (aO (vi 0) (RL.nt (RC.ret ?_)))))
 obtain rfl:=oi o
 exact cD ⟨rfl,j.drop 1⟩
end Go.Gk
