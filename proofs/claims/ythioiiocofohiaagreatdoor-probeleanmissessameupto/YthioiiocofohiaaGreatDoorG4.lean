/-
  Printed texts: Go functions as plain functions, and that they are. No statement of the seed is proved here.
-/
import Derived.Test.YthioiiocofohiaaGreatDoorG1
import Derived.Test.YthioiiocofohiaaGreatDoorG2
import Derived.Test.YthioiiocofohiaaGreatDoorG3
import Derived.Test.YthioiiocofohiaaGreatDoorA2
set_option linter.unusedVariables false
set_option linter.unusedSimpArgs false
set_option linter.unusedSectionVars false
set_option maxRecDepth 100000
set_option maxHeartbeats 4000000
namespace Go.Gk
open Go Go.Proofs
variable (N:Nat) {E w:World} {b0 b2 b2h b3 i0 i1:Nat} {p0 p1 p2:Int} {v0 v0_0 v0_1 v0_10 v0_11 v0_2 v0_3 v0_4 v0_5 v0_6 v0_8 v0_9 v1 v2h_0 v2h_1 v2h_10 v2h_11 v2h_2 v2h_3 v2h_4 v2h_5 v2h_6 v2h_7 v2h_8 v2h_9 v3_0:Value} {V:List HP}
def nA (E:World) (V:List HP) (b0:Nat) (v0_0 v0_1:Value) (v0_2 v0_3:Value) (v0_4 v0_5 v0_6:Value) (res: (List cI)×(List Int)×(List Int)×(List Int)×(List dU)) (v:Value) (w:World):Prop:=∃u0_7 u0_8 u0_9 u0_10 u0_11:Value,v = .tuple #[]/\Holds E w ([bc 126 b0 [v0_0,v0_1,v0_2,v0_3,v0_4,v0_5,v0_6,u0_7,u0_8,u0_9,u0_10,u0_11],own 129 u0_7 res.1,rd u0_8 res.2.1,rd u0_9 res.2.2.1,own 3 u0_10 res.2.2.2.1,own 41 u0_11 res.2.2.2.2]++V)
theorem ni {p0_2: (List bZ)} {p0_3: (List cY)} {p0_5: (List aH)} {p0_6: (List (List Int))} {p0_8: (List Int)} {p0_9: (List Int)} {p0_10: (List Int)} {p0_11: (List dU)} {res: (List cI)×(List Int)×(List Int)×(List Int)×(List dU)} (hw:Holds E w (bc 126 b0 [v0_0,v0_1,v0_2,v0_3,v0_4,v0_5,v0_6,(.slice none 0 0),v0_8,v0_9,v0_10,v0_11]::rd v0_2 p0_2::rd v0_3 p0_3::rd v0_5 p0_5::rd v0_6 p0_6::own 3 v0_8 p0_8::own 3 v0_9 p0_9::own 3 v0_10 p0_10::own 41 v0_11 p0_11::V)) (hb:eT N p0_2 p0_3 p0_5 p0_6 p0_8 p0_9 p0_10 p0_11=some res):
    Calls bE 53 [(vp b0 0)].toArray w (gF (nA E V b0 v0_0 v0_1 v0_2 v0_3 v0_4 v0_5 v0_6 res)):=by
 unfold eT at hb
 refine enter Tryz.func53 zr zr (RC.sr (mv (vp b0 0) (RL.nilCheck zr (RL.bB zr lW (RL.aX 0 v0_5 hw qN (RL.bC 3 p0_5 hw wK (aK (vi p0_5.length) (RL.ns ?_))))))))
 refine mv (vi p0_5.length) (mv (vp b0 0) (RL.nilCheck zr (RL.bB zr kx (RL.bB zr mT (RL.aX 0 v0_2 hw vY (RL.bC 1 p0_2 hw xV (RL.i6 (p0_5.length:Int) (p0_2.length:Int) ?_)))))))
 obtain⟨e6,ds,hb⟩:=bd hb
 refine RL.call zt zr KD [(vi (IntKind.wrap .i64 ((p0_5.length:Int)+ (p0_2.length:Int))))] zr (aF (nI N (p0:=(IntKind.wrap .i64 ((p0_5.length:Int)+ (p0_2.length:Int)))) hw ds) ?_)
 rintro _ w ⟨a9,dt,rfl,hw⟩
 refine aK (vp a9 0) (RL.nq (RC.sr (mv (vp b0 0) (RL.nilCheck zr (RL.bB zr xq (RL.aX 2 v0_6 hw DV (RL.bC 6 p0_6 hw DW (mv (vi 0) ?_))))))))
 refine RL.nt ?_
 obtain⟨bz,hN,hb⟩:=bd hb
 refine RC.fold (fun(bj:Nat) (bz: (List Int)) U w=>∃c5:Value,SH E V [(0,vp b0 0),(2,vi p0_5.length),(3,vp a9 0),(35,v0_6),(36,vi p0_6.length),(37,vi bj)] [bc 126 b0 [v0_0,v0_1,v0_2,v0_3,v0_4,v0_5,v0_6,(.slice none 0 0),v0_8,v0_9,v0_10,v0_11],rd v0_2 p0_2,rd v0_3 p0_3,rd v0_5 p0_5,rd v0_6 p0_6,own 3 v0_8 p0_8,own 3 v0_9 p0_9,own 3 v0_10 p0_10,own 41 v0_11 p0_11,bc 176 a9 [c5],own 3 c5 bz] U w) (fun(bz: (List Int)) U w=>∃ca:Value,SH E V [(0,vp b0 0),(2,vi p0_5.length),(3,vp a9 0)] [bc 126 b0 [v0_0,v0_1,v0_2,v0_3,v0_4,v0_5,v0_6,(.slice none 0 0),v0_8,v0_9,v0_10,v0_11],rd v0_2 p0_2,rd v0_3 p0_3,rd v0_5 p0_5,rd v0_6 p0_6,own 3 v0_8 p0_8,own 3 v0_9 p0_9,own 3 v0_10 p0_10,own 41 v0_11 p0_11,bc 176 a9 [ca],own 3 ca bz] U w) hN ?_ ?_ ?_ ?_
 ·exact⟨dt,hw.sp 11 [2,3,4,5,6,7,8,9,10,0,1]⟩
 ·rintro hm bz _ w ⟨du,O,rfl,hw⟩
  refine RC.sr (ic ((p0_6.length:Int)) ((p0_6.length:Int)) (RL.nq (RC.cH lD (RC.ex ?_))))
  exact⟨rfl,du,hw.sp 11 [0,1,2,3,4,5,6,7,8,9,10]⟩
 ·rintro hm bj bz s' _ w hk ⟨dv,O,rfl,hw⟩ hb
  refine RC.sr (ic ((bj:Int)) ((p0_6.length:Int)) (RL.nq (RC.cG (lC hk) (RC.ss (RC.bs (mv (vi bj) ?_))))))
  obtain⟨bt,dw,hb⟩:=bd hb
  refine RL.bW 4 hw xX dw fun e7 hw=>(RL.bL 0 bt hw fE fun cb hw=>(aK (vi bj) (aK cb (RL.ns (mv cb (RL.bC 0 bt hw l3 (mv (vi 0) (RL.nt ?_))))))))
  obtain⟨b4,hN,hb⟩:=bd hb
  refine RC.fold (fun(cf:Nat) (b4: (List Int)) U w=>∃c6:Value,SH E V [(0,vp b0 0),(2,vi p0_5.length),(3,vp a9 0),(4,vi bj),(35,v0_6),(36,vi p0_6.length),(37,vi bj),(42,cb),(43,vi bt.length),(44,vi cf)] [bc 126 b0 [v0_0,v0_1,v0_2,v0_3,v0_4,v0_5,v0_6,(.slice none 0 0),v0_8,v0_9,v0_10,v0_11],rd v0_2 p0_2,rd v0_3 p0_3,rd v0_5 p0_5,rd v0_6 p0_6,own 3 v0_8 p0_8,own 3 v0_9 p0_9,own 3 v0_10 p0_10,own 41 v0_11 p0_11,bc 176 a9 [c6],own 3 c6 b4,rd cb bt] U w) (fun(b4: (List Int)) U w=>∃cg:Value,SH E V [(0,vp b0 0),(2,vi p0_5.length),(3,vp a9 0),(35,v0_6),(36,vi p0_6.length),(37,vi bj)] [bc 126 b0 [v0_0,v0_1,v0_2,v0_3,v0_4,v0_5,v0_6,(.slice none 0 0),v0_8,v0_9,v0_10,v0_11],rd v0_2 p0_2,rd v0_3 p0_3,rd v0_5 p0_5,rd v0_6 p0_6,own 3 v0_8 p0_8,own 3 v0_9 p0_9,own 3 v0_10 p0_10,own 41 v0_11 p0_11,bc 176 a9 [cg],own 3 cg b4,rd cb bt] U w) hN ?_ ?_ ?_ ?_
  ·exact⟨dv,hw.sp 13 [2,3,4,5,6,7,8,9,10,11,12,0]⟩
  ·rintro hm b4 _ w ⟨dx,O,rfl,hw⟩
   refine RC.sr (ic ((bt.length:Int)) ((bt.length:Int)) (RL.nq (RC.cH lD (RC.ex ?_))))
   exact⟨rfl,dx,hw.sp 12 [0,1,2,3,4,5,6,7,8,9,10,11]⟩
  ·rintro hm cf b4 s' _ w hk ⟨e8,O,rfl,hw⟩ hb
   refine RC.sr (ic ((cf:Int)) ((bt.length:Int)) (RL.nq (RC.cG (lC hk) (RC.ss (RC.bs ?_)))))
   obtain⟨cc,dy,hb⟩:=bd hb
   refine RL.bW 11 hw dV dy fun e9 hw=>(RL.bH cc 0 hw cN (aK (vi cc) (RL.nt (RC.region (mv (vp a9 0) (mv (vi cc) (mv (vi p0_5.length) (mv (vi bj) ?_))))))))
   refine RL.i6 (p0_5.length:Int) (bj:Int) ?_
   have hw:=(hw.pull 11).pull 11
   obtain⟨fa,dz,hb⟩:=bd hb
   refine RL.call zt zr KE [(vp a9 0),(vi cc),(vi (IntKind.wrap .i64 ((p0_5.length:Int)+ (bj:Int))))] zr (aF (mJ N (p1:=cc) (p2:=(IntKind.wrap .i64 ((p0_5.length:Int)+ (bj:Int)))) hw dz) ?_)
   rintro _ w ⟨d3,rfl,hw⟩
   refine RL.nil (bI (aG (RC.region (RL.inc hk hm (mv (vi ((cf+1:Nat):Int)) (RL.nil ?_))))))
   obtain rfl:=oi hb
   exact⟨rfl,d3,hw.sp 15 [3,4,5,6,7,8,9,10,11,0,1,14]⟩
  rintro _ w ⟨cg,O,rfl,hw⟩
  refine bI (aG (RC.region (RL.inc hk hm (mv (vi ((bj+1:Nat):Int)) (RL.nil ?_)))))
  obtain rfl:=oi hb
  exact⟨rfl,cg,hw.sp 12 [0,1,2,3,4,5,6,7,8,9,10]⟩
 rintro _ w ⟨ca,O,rfl,hw⟩
 refine aG (RC.seq ?_)
 obtain⟨d4,d5,hb⟩:=bd hb
 obtain⟨d6,d7,hb⟩:=bd hb
 refine RC.Ew E V mixed [1,1,1,0,1,1,1,1,0,0,0,1,1,0,1,1,0] [3,10,13,16] (fun(x:Value×Value)=>(fun al an=>[(0,56,(vp b0 0)),(1,57,(vp b0 0)),(2,58,(vi p0_5.length)),(3,59,al),(4,60,(vp b0 0)),(5,61,(vp b0 0)),(6,62,(vp b0 0)),(7,63,(vp b0 2)),(8,64,v0_2),(9,65,(vi p0_2.length)),(10,66,an),(11,67,(vp b0 0)),(12,68,(vp b0 8)),(14,69,(vp b0 0)),(15,70,(vp b0 9))]) x.1 x.2) [(0,vp b0 0),(2,vi p0_5.length),(3,vp a9 0)] [] (fun(D:Nat->Bool) (x:Value×Value)=>(fun al an=>[bif D 0 then (own 3 al d4) else aZ,bif D 1 then (own 3 an d6) else aZ,bif D 3 then (bc 126 b0 [v0_0,v0_1,v0_2,v0_3,v0_4,v0_5,v0_6,(.slice none 0 0),al,an,v0_10,v0_11]) else (bif D 2 then (bc 126 b0 [v0_0,v0_1,v0_2,v0_3,v0_4,v0_5,v0_6,(.slice none 0 0),al,v0_9,v0_10,v0_11]) else (bc 126 b0 [v0_0,v0_1,v0_2,v0_3,v0_4,v0_5,v0_6,(.slice none 0 0),v0_8,v0_9,v0_10,v0_11])),rd v0_2 p0_2,rd v0_3 p0_3,rd v0_5 p0_5,rd v0_6 p0_6,own 3 v0_8 p0_8,own 3 v0_9 p0_9,own 3 v0_10 p0_10,own 41 v0_11 p0_11,bc 176 a9 [ca],own 3 ca bz]) x.1 x.2) (fun x=>by kernel_rfl) ?_ ⟨fun _=>jt gn,fun _=>jt gn,fun _=>jt gn,?_,fun _=>jt gn,fun _=>wY gn,fun _=>mN gn kx,fun _=>mN gn mT,?_,?_,?_,fun _=>wY gn,fun _=>mN gn sF,?_,fun _=>wY gn,fun _=>mN gn uV,?_,trivial⟩ ?_
 ·have hw:=((hw.drew).aZ).aZ
  exact⟨(undef,undef),dX.none,(CX zr),zt,hw⟩
 ·rintro D U w hD af ad ⟨⟨al,an⟩,hv,ha,_,hw⟩
  obtain⟨O,rfl⟩:=(ac (hv.at 2 rfl (af.1 rfl)) az).eV
  have hw:=((hw.cA 0 hD).cA 2 (nh ad hD 16)).cA 2 (nh ad hD 13)
  refine RL.mk (p0_5.length:Int) hw tM Ji d5 fun cv w hw=>?_
  have hw:=(((hw.pl 14 [0,2,3,4,5,6,7,8,9,10,11,12,13]).cL 0 true aZ).eY 2 (D 13) (nh ad hD 13) (bc 126 b0 [v0_0,v0_1,v0_2,v0_3,v0_4,v0_5,v0_6,(.slice none 0 0),cv,v0_9,v0_10,v0_11])).eY 2 (D 16) (nh ad hD 16) (bc 126 b0 [v0_0,v0_1,v0_2,v0_3,v0_4,v0_5,v0_6,(.slice none 0 0),cv,an,v0_10,v0_11])
  exact RL.nil ⟨rfl,(cv,an),hv.pu 3,ha.u,zt,hw⟩
 ·rintro D U w hD af ad ⟨⟨al,an⟩,hv,ha,_,hw⟩
  obtain⟨O,rfl⟩:=(ac (hv.at 7 rfl (af.1 rfl)) az).eV
  have hw:=(hw.cA 2 (nh ad hD 16)).cA 2 (nh ad hD 13)
  refine RL.aX 2 v0_2 hw vY ?_
  have hw:=(hw.eY 2 (D 13) (nh ad hD 13) (bc 126 b0 [v0_0,v0_1,v0_2,v0_3,v0_4,v0_5,v0_6,(.slice none 0 0),al,v0_9,v0_10,v0_11])).eY 2 (D 16) (nh ad hD 16) (bc 126 b0 [v0_0,v0_1,v0_2,v0_3,v0_4,v0_5,v0_6,(.slice none 0 0),al,an,v0_10,v0_11])
  exact RL.nil ⟨rfl,(al,an),hv.pu 8,ha.u,zt,hw⟩
 ·rintro D U w hD af ad ⟨⟨al,an⟩,hv,ha,_,hw⟩
  obtain⟨O,rfl⟩:=(ac (hv.at 8 rfl (af.1 rfl)) az).eV
  refine RL.bC 3 p0_2 hw xV ?_
  exact RL.nil ⟨rfl,(al,an),hv.pu 9,ha.u,zt,hw⟩
 ·rintro D U w hD af ad ⟨⟨al,an⟩,hv,ha,_,hw⟩
  obtain⟨O,rfl⟩:=(ac (hv.at 9 rfl (af.1 rfl)) az).eV
  have hw:=(hw.cA 1 hD).cA 2 (nh ad hD 16)
  refine RL.mk (p0_2.length:Int) hw tM Ji d7 fun c7 w hw=>?_
  have hw:=((hw.pl 14 [1,0,3,4,5,6,7,8,9,10,11,12,13]).cL 1 true aZ).eY 2 (D 16) (nh ad hD 16) (bc 126 b0 [v0_0,v0_1,v0_2,v0_3,v0_4,v0_5,v0_6,(.slice none 0 0),al,c7,v0_10,v0_11])
  exact RL.nil ⟨rfl,(al,c7),hv.pu 10,ha.u,zt,hw⟩
 ·rintro D U w hD af ad ⟨⟨al,an⟩,hv,ha,_,hw⟩
  obtain⟨O,rfl⟩:=(ac (hv.at 3 rfl (af.2.1 rfl)) (ac (hv.at 12 rfl (af.1 rfl)) az)).eV
  have hw:=((hw.cK 0 (af.2.1 rfl)).cA 2 (nh ad hD 16)).cA 2 hD
  refine RL.gU 2 al hw zr zr (iE 0 hw) fE fun w hw=>?_
  have hw:=((hw.cL (hb:=af.2.1 rfl) 0 (D 3) aZ).cL 2 true (bc 126 b0 [v0_0,v0_1,v0_2,v0_3,v0_4,v0_5,v0_6,(.slice none 0 0),v0_8,v0_9,v0_10,v0_11])).eY 2 (D 16) (nh ad hD 16) (bc 126 b0 [v0_0,v0_1,v0_2,v0_3,v0_4,v0_5,v0_6,(.slice none 0 0),al,an,v0_10,v0_11])
  exact RL.nil ⟨rfl,(al,an),hv.n1,ha,zt,hw⟩
 ·rintro D U w hD af ad ⟨⟨al,an⟩,hv,ha,_,hw⟩
  obtain⟨O,rfl⟩:=(ac (hv.at 10 rfl (af.2.1 rfl)) (ac (hv.at 14 rfl (af.1 rfl)) az)).eV
  have hw:=((hw.cK 1 (af.2.1 rfl)).cA 2 hD).cK 2 (af.2.2.1 rfl)
  refine RL.gU 2 an hw zr zr (iE 1 hw) fE fun w hw=>?_
  have hw:=(hw.cL (hb:=af.2.1 rfl) 1 (D 10) aZ).cL 2 true (bif D 13 then (bc 126 b0 [v0_0,v0_1,v0_2,v0_3,v0_4,v0_5,v0_6,(.slice none 0 0),al,v0_9,v0_10,v0_11]) else (bc 126 b0 [v0_0,v0_1,v0_2,v0_3,v0_4,v0_5,v0_6,(.slice none 0 0),v0_8,v0_9,v0_10,v0_11]))
  exact RL.nil ⟨rfl,(al,an),hv.n1,ha,zt,hw⟩
 rintro D U w a7 ⟨⟨al,an⟩,hv,ha,_,hw⟩
 have hw:=((hw.cK 0 (jC a7 3)).cK 1 (jC a7 10)).cK 2 (jC a7 16)
 obtain⟨O,rfl⟩:=(ac (ha.at 0 rfl) (ac (ha.at 1 rfl) (ac (ha.at 2 rfl) az))).eV
 refine aG (RC.seq (RC.sr (mv (vp a9 0) ?_)))
 have hw:=(hw.pull 12).pull 12
 obtain⟨a8,d8,hb⟩:=bd hb
 refine RL.call zt zr Mc [(vp a9 0)] zr (aF (qX N hw d8) ?_)
 rintro bk w ⟨_,fb,rfl,hw⟩
 refine RL.eH 0 a8.1 hw DW (mv (vi 0) (RL.nt ?_))
 obtain⟨a5,hN,hb⟩:=bd hb
 refine RC.fold (fun(bo:Nat) (a5: (List cI)×(List Int)×(List Int)) U w=>∃(c8:Value) (us442:List cE),SH E V [(0,vp b0 0),(2,vi p0_5.length),(72,bk),(73,vi a8.1.length),(74,vi bo)] [bc 126 b0 [v0_0,v0_1,v0_2,v0_3,v0_4,v0_5,v0_6,c8,al,an,v0_10,v0_11],own 129 c8 us442,iY cC us442 a5.1 none,rd v0_2 p0_2,rd v0_3 p0_3,rd v0_5 p0_5,rd v0_6 p0_6,own 3 al a5.2.1,own 3 an a5.2.2,own 3 v0_10 p0_10,own 41 v0_11 p0_11,own 87 bk a8.1] U w) (fun(a5: (List cI)×(List Int)×(List Int)) U w=>∃(aj:Value) (us444:List cE),SH E V [(0,vp b0 0)] [bc 126 b0 [v0_0,v0_1,v0_2,v0_3,v0_4,v0_5,v0_6,aj,al,an,v0_10,v0_11],own 129 aj us444,iY cC us444 a5.1 none,rd v0_2 p0_2,rd v0_3 p0_3,rd v0_5 p0_5,rd v0_6 p0_6,own 3 al a5.2.1,own 3 an a5.2.2,own 3 v0_10 p0_10,own 41 v0_11 p0_11,own 87 bk a8.1] U w) hN ?_ ?_ ?_ ?_
 ·have hw:=(hw.Ag cC).cT cE 129
  exact⟨(.slice none 0 0),([]:List cE),hw.sp 18 [7,0,1,8,9,10,11,5,6,14,15,2]⟩
 ·rintro hm a5 _ w ⟨d9,us604,O,rfl,hw⟩
  refine RC.sr (ic ((a8.1.length:Int)) ((a8.1.length:Int)) (RL.nq (RC.cH lD (RC.ex ?_))))
  exact⟨rfl,d9,us604,hw.sp 12 [0,1,2,3,4,5,6,7,8,9,10,11]⟩
 ·rintro hm bo a5 s' _ w hk ⟨bg,us446,O,rfl,hw⟩ hb
  refine RC.sr (ic ((bo:Int)) ((a8.1.length:Int)) (RL.nq (RC.cG (lC hk) (RC.ss (RC.bs ?_)))))
  obtain⟨bm,cw,hb⟩:=bd hb
  refine RL.bG 11 hw zr zr xX cw (RL.iD (f:=(fun x=>x)) 11 hw (iX 11 hw cw 0) (aU cw).2.1 Fd.self fE fun bp hw=>?_)
  refine aK bp (RL.ns (RL.pG hw KF fun bu w hw=>?_))
  refine RL.nq (RC.sr (mv bp (RL.bC 1 bm hw l3 (mv (vi 0) (RL.nt ?_)))))
  obtain⟨ar,hN,hb⟩:=bd hb
  refine RC.fold (fun(b5:Nat) (ar: (List Int)×(List Int)×(List Int)×(List Int)) U w=>∃c9 da:Value,SH E V [(0,vp b0 0),(2,vi p0_5.length),(10,vp bu 0),(72,bk),(73,vi a8.1.length),(74,vi bo),(78,bp),(79,vi bm.length),(80,vi b5)] [bc 126 b0 [v0_0,v0_1,v0_2,v0_3,v0_4,v0_5,v0_6,bg,al,an,v0_10,v0_11],rd v0_2 p0_2,rd v0_3 p0_3,rd v0_5 p0_5,rd v0_6 p0_6,own 129 bg us446,iY cC us446 a5.1 none,own 3 al ar.1,own 3 an ar.2.1,own 3 v0_10 p0_10,own 41 v0_11 p0_11,bc 129 bu [c9,da,(.slice none 0 0)],own 3 c9 ar.2.2.1,own 3 da ar.2.2.2,own 87 bk a8.1,rd bp bm] U w) (fun(ar: (List Int)×(List Int)×(List Int)×(List Int)) U w=>∃bw bq:Value,SH E V [(0,vp b0 0),(2,vi p0_5.length),(10,vp bu 0),(72,bk),(73,vi a8.1.length),(74,vi bo)] [bc 126 b0 [v0_0,v0_1,v0_2,v0_3,v0_4,v0_5,v0_6,bg,al,an,v0_10,v0_11],rd v0_2 p0_2,rd v0_3 p0_3,rd v0_5 p0_5,rd v0_6 p0_6,own 129 bg us446,iY cC us446 a5.1 none,own 3 al ar.1,own 3 an ar.2.1,own 3 v0_10 p0_10,own 41 v0_11 p0_11,bc 129 bu [bw,bq,(.slice none 0 0)],own 3 bw ar.2.2.1,own 3 bq ar.2.2.2,own 87 bk a8.1,rd bp bm] U w) hN ?_ ?_ ?_ ?_
  ·have hw:=(hw.cT Int 3).cT Int 3
   exact⟨(.slice none 0 0),(.slice none 0 0),hw.sp 16 [4,7,8,9,10,5,6,11,12,13,14,2,1,0,15,3]⟩
  ·rintro hm ar _ w ⟨ea,eb,O,rfl,hw⟩
   refine RC.sr (ic ((bm.length:Int)) ((bm.length:Int)) (RL.nq (RC.cH lD (RC.ex ?_))))
   exact⟨rfl,ea,eb,hw.sp 16 [0,1,2,3,4,5,6,7,8,9,10,11,12,13,14,15]⟩
  ·rintro hm b5 ar s' _ w hk ⟨ch,cx,O,rfl,hw⟩ hb
   refine RC.sr (ic ((b5:Int)) ((bm.length:Int)) (RL.nq (RC.cG (lC hk) (RC.ss (RC.bs ?_)))))
   obtain⟨a2,ec,hb⟩:=bd hb
   refine RL.bW 15 hw dV ec fun fc hw=>(RL.bH a2 0 hw cN (aK (vi a2) (RL.nt (RC.bs (mv (vi a2) (mv (vi p0_5.length) (ic a2 ((p0_5.length:Int)) (aK (vb (decide (a2< (p0_5.length:Int)))) ?_))))))))
   refine RL.nt ?_
   obtain⟨b6,hj,hb⟩:=bd hb
   refine RC.jn (fun(b6: (List Int)×(List Int)×(List Int)×(List Int)) U w=>∃cj ck:Value,SH E V [(0,vp b0 0),(2,vi p0_5.length),(10,vp bu 0),(72,bk),(73,vi a8.1.length),(74,vi bo),(78,bp),(79,vi bm.length),(80,vi b5)] [bc 126 b0 [v0_0,v0_1,v0_2,v0_3,v0_4,v0_5,v0_6,bg,al,an,v0_10,v0_11],rd v0_2 p0_2,rd v0_3 p0_3,rd v0_5 p0_5,rd v0_6 p0_6,own 129 bg us446,iY cC us446 a5.1 none,own 3 al b6.1,own 3 an b6.2.1,own 3 v0_10 p0_10,own 41 v0_11 p0_11,bc 129 bu [cj,ck,(.slice none 0 0)],own 3 cj b6.2.2.1,own 3 ck b6.2.2.2,own 87 bk a8.1,rd bp bm] U w) b6 ?_ ?_
   ·refine eI hj (fun hc hj=>?_) fun hc hj=>?_
    ·refine RC.seq (RC.xM mixed [0,0,0,0,0,0,0,0,0,0,0,2] [0,1,2,3,4,5,6,7,8,9,10,11] ?_)
     have hw:=hw.drew
     refine DP.e0 zr (mv (vp b0 0) (cB zr (RL.nilCheck zr (cB zr (RL.bB zr sF (cB zr (RL.aX 1 al hw fE (cB zr ?_))))))))
     refine mv (vi a2) (cB zr (mv (vp b0 0) (cB zr (RL.nilCheck zr (cB zr (RL.bB zr qx (cB zr (RL.aX 1 bg hw xY ?_))))))))
     refine cB zr (RL.rk 6 7 a5.1 hw IB (cB zr ?_))
     obtain⟨fe,cy,hj⟩:=bd hj
     refine RL.bG 8 hw zr zr dV cy (tL zr ?_)
     have hw:=hw.sc Int (a5.1.length:Int)
     refine RL.fA (f:=(fun _ y=>y)) 9 0 hw (iX 9 hw cy 0) (aU cy).2.1 zr Fs.self cN fun w hw=>?_
     refine DP.d2 zt (DP.z (aG (RC.region (RL.bB zr Ax (RL.aX 13 ch hw fE (mv (vi a2) ?_))))))
     have hw:=hw.sc Int a2
     refine RL.eE ([a2]: (List Int)) hw [(vi a2)] dV Ft (fun M hs g=>⟨(g.sat 0 _ zr).1,zt⟩) fun ff w hw=>?_
     have hw:=hw.freeze 0
     obtain⟨fg,ed,hj⟩:=bd hj
     refine RL.app 16 0 hw tM ed fun db w hw=>?_
     refine RL.bB zr Ax (RL.gU 15 db hw zr zr (iE 16 hw) fE fun w hw=>?_)
     refine RL.nil ?_
     obtain rfl:=oi hj
     exact⟨rfl,db,cx,hw.sp 20 [4,5,6,7,8,9,10,11,12,13,14,15,16,17,18,19]⟩
    refine RC.sr (mv (vp b0 0) (RL.nilCheck zr (RL.bB zr kx (RL.bB zr mT (RL.aX 1 v0_2 hw vY (mv (vi a2) (mv (vi p0_5.length) (RL.i6 a2 (p0_5.length:Int) ?_))))))))
    obtain⟨dc,ee,hj⟩:=bd hj
    refine RL.bW 2 hw Au ee fun fh hw=>(RL.iu 0 hw zr xn sA fun fi hw=>(RL.bH dc.ij 0 hw ux (aK (vb dc.ij) (RL.nt ?_))))
    obtain⟨cl,hjj,hj⟩:=bd hj
    refine RC.jn (fun(cl: (List Int)×(List Int)) U w=>∃cm:Value,SH E V [(0,vp b0 0),(2,vi p0_5.length),(10,vp bu 0),(72,bk),(73,vi a8.1.length),(74,vi bo),(78,bp),(79,vi bm.length),(80,vi b5)] [bc 126 b0 [v0_0,v0_1,v0_2,v0_3,v0_4,v0_5,v0_6,bg,al,an,v0_10,v0_11],rd v0_2 p0_2,rd v0_3 p0_3,rd v0_5 p0_5,rd v0_6 p0_6,own 129 bg us446,iY cC us446 a5.1 none,own 3 al ar.1,own 3 an cl.1,own 3 v0_10 p0_10,own 41 v0_11 p0_11,bc 129 bu [ch,cm,(.slice none 0 0)],own 3 cm cl.2,own 3 ch ar.2.2.1,own 87 bk a8.1,rd bp bm] U w) cl ?_ ?_
    ·refine eI hjj (fun hc hjj=>?_) fun hc hjj=>?_
     rotate_left
     ·refine RC.region (mv (vp b0 0) (RL.nilCheck zr (RL.bB zr uV (RL.aX 3 an hw fE (mv (vi a2) (mv (vi p0_5.length) (RL.i6 a2 (p0_5.length:Int) ?_)))))))
      obtain⟨fj,cz,hjj⟩:=bd hjj
      refine RL.bG 11 hw zr zr dV cz ?_
      have hw:=hw.sc Int (-1)
      refine RL.fA (f:=(fun _ y=>y)) 12 0 hw (iX 12 hw cz 0) (aU cz).2.1 zr Fs.self cN fun w hw=>?_
      refine RL.nil ?_
      obtain rfl:=oi hjj
      exact⟨rfl,cx,hw.sp 20 [4,5,6,7,8,9,10,11,12,13,14,15,17,16,18,19]⟩
     refine RC.seq (RC.xM mixed [0,0,0,0,0,0,0,0,0,0,0,0,0,2] [0,1,2,3,4,5,6,7,8,9,10,11,12,13] ?_)
     have hw:=hw.drew
     refine DP.e0 zr (mv (vp b0 0) (cB zr (RL.nilCheck zr (cB zr (RL.bB zr uV (cB zr (RL.aX 3 an hw fE (cB zr ?_))))))))
     refine mv (vi a2) (cB zr (mv (vi p0_5.length) (cB zr (RL.i6 a2 (p0_5.length:Int) (cB zr (mv (vp b0 0) (cB zr (RL.nilCheck zr ?_))))))))
     refine cB zr (RL.bB zr qx (cB zr (RL.aX 3 bg hw xY (cB zr (RL.rk 8 9 a5.1 hw IB (cB zr ?_))))))
     obtain⟨fk,c0,hjj⟩:=bd hjj
     refine RL.bG 11 hw zr zr dV c0 (tL zr ?_)
     have hw:=hw.sc Int (a5.1.length:Int)
     refine RL.fA (f:=(fun _ y=>y)) 12 0 hw (iX 12 hw c0 0) (aU c0).2.1 zr Fs.self cN fun w hw=>?_
     refine DP.d2 zt (DP.z (aG (RC.region (RL.bB zr Ay (RL.aX 15 cx hw fE (mv (vi a2) (mv (vi p0_5.length) (RL.i6 a2 (p0_5.length:Int) ?_))))))))
     have hw:=hw.sc Int (IntKind.wrap .i64 (a2 - (p0_5.length:Int)))
     refine RL.eE ([(IntKind.wrap .i64 (a2 - (p0_5.length:Int)))]: (List Int)) hw [(vi (IntKind.wrap .i64 (a2 - (p0_5.length:Int))))] dV Ft (fun M hs g=>⟨(g.sat 0 _ zr).1,zt⟩) fun fl w hw=>?_
     have hw:=hw.freeze 0
     obtain⟨fm,ef,hjj⟩:=bd hjj
     refine RL.app 19 0 hw tM ef fun dd w hw=>?_
     refine RL.bB zr Ay (RL.gU 17 dd hw zr zr (iE 19 hw) fE fun w hw=>?_)
     refine RL.nil ?_
     obtain rfl:=oi hjj
     exact⟨rfl,dd,hw.sp 22 [6,7,8,9,10,11,12,13,14,15,16,17,19,18,20,21]⟩
    rintro _ w ⟨cm,O,rfl,hw⟩
    obtain rfl:=oi hj
    exact⟨rfl,ch,cm,hw.sp 16 [0,1,2,3,4,5,6,7,8,9,10,11,13,12,14,15]⟩
   rintro _ w ⟨cj,ck,O,rfl,hw⟩
   refine bI (bI (aG (RC.region (RL.inc hk hm (mv (vi ((b5+1:Nat):Int)) (RL.nil ?_))))))
   obtain rfl:=oi hb
   exact⟨rfl,cj,ck,hw.sp 16 [0,1,2,3,4,5,6,7,8,9,10,11,12,13,14,15]⟩
  rintro _ w ⟨bw,bq,O,rfl,hw⟩
  refine aG (RC.sr (RL.bB zr Ax (RL.aX 11 bw hw fE (RL.eH 12 ar.2.2.1 hw l3 (RL.bB zr Ay (RL.aX 11 bq hw fE (RL.eH 13 ar.2.2.2 hw l3 (RL.i6 (ar.2.2.1.length:Int) (ar.2.2.2.length:Int) ?_))))))))
  refine ic ((IntKind.wrap .i64 ((ar.2.2.1.length:Int)+ (ar.2.2.2.length:Int)))) 0 (RL.nt ?_)
  obtain⟨c1,hj,hb⟩:=bd hb
  refine RC.jn (fun(c1: (List cI)) U w=>∃(cn:Value) (us598:List cE),SH E V [(0,vp b0 0),(2,vi p0_5.length),(72,bk),(73,vi a8.1.length),(74,vi bo)] [bc 126 b0 [v0_0,v0_1,v0_2,v0_3,v0_4,v0_5,v0_6,cn,al,an,v0_10,v0_11],own 129 cn us598,iY cC us598 c1 none,rd v0_2 p0_2,rd v0_3 p0_3,rd v0_5 p0_5,rd v0_6 p0_6,own 3 al ar.1,own 3 an ar.2.1,own 3 v0_10 p0_10,own 41 v0_11 p0_11,own 87 bk a8.1] U w) c1 ?_ ?_
  ·refine eI hj (fun hc hj=>?_) fun hc hj=>?_
   rotate_left
   ·refine RC.skip ?_
    obtain rfl:=oi hj
    exact⟨rfl,bg,us446,hw.sp 16 [0,5,6,1,2,3,4,7,8,9,10,14]⟩
   have hw:=hw.drew
   refine RC.FT (fun w=>Holds E w ([bc 126 b0 [v0_0,v0_1,v0_2,v0_3,v0_4,v0_5,v0_6,bg,al,an,v0_10,v0_11]]++V)) mixed zr [1,1,1,1,1,0,2,2,0,0,2] [0,1,2,3,4,5,6,7,8,9,10] (hw.pk 16 [0]) (DP.e1 (vp b0 0) zr (fun w=>RL.move (vp b0 0) zt DP.d1) (DP.e1 (vp b0 0) zr (fun w=>RL.move (vp b0 0) zt DP.d1) (DP.e1 (vp b0 0) zr (fun w=>RL.nilCheck zr DP.d1) (DP.e1 (vp b0 7) zr (fun w=>RL.bB zr qx DP.d1) (DP.Je bg zr (fun w hw=>RL.aX 0 bg hw xY DP.d1) (DP.e0 zr (RL.FK (i:=11) (cs:=[bw,bq,(.slice none 0 0)]) zt zr hw zr zr KG zr (tL zr ?_))))))))
   have hw:=((((hw.cT fV 51).DI (i:=0) rfl).freeze 14).freeze 15).Af (cs:=[bw,bq,(.slice none 0 0)]) (x:=(⟨ar.2.2.1,ar.2.2.2,(rv (.slice none 0 0))⟩:cE)) (fun M hs g=>⟨[bw],[bq,(.slice none 0 0)],rfl,(lz (g.sat 14 _ rfl).1),⟨[bq],[(.slice none 0 0)],rfl,(lz (g.sat 15 _ rfl).1),(lz (g.sat 0 _ rfl).1)⟩⟩) rfl
   refine RL.eE ([(⟨ar.2.2.1,ar.2.2.2,(rv (.slice none 0 0))⟩:cE)]:List cE) hw [(.agg ([bw,bq,(.slice none 0 0)]:List Value).toArray)] DX KH (fun M hs g=>⟨(g.sat 0 _ zr).1,zt⟩) fun fo w hw=>(DP.d2 (hw.pk 20 [4]) (DP.e2 zr ?_))
   obtain⟨fp,eg,hj⟩:=bd hj
   have hw:=hw.freeze 0
   refine RL.Eu (i:=9) (j:=0) (b:=10) (o:=3) (X:=cC) (ur:=(⟨ar.2.2.1,ar.2.2.2,(rv (.slice none 0 0))⟩:cE)) (xr:=(⟨ar.2.2.1,ar.2.2.2,([]: (List fV))⟩:cI)) (u:=(.slice none 0 0)) (y:=([]: (List fV))) (fun _ _ ho=>⟨⟨rfl,rfl⟩,ho⟩) trivial rfl hw rfl rfl rfl rfl rfl rfl (by decide) (by decide) (by decide) KI eg fun de w hw=>?_
   refine DP.d2 (hw.pk 20 [4]) (DP.e0 zr (RL.nilCheck zr (cB zr (RL.bB zr qx (DP.d0 (DP.MY zr zr (RL.gU 4 de hw zr zr (iE 9 hw) xY fun w hw=>?_)))))))
   refine DP.d2 zt (DP.z ?_)
   obtain rfl:=oi hj
   exact⟨rfl,de,(us446++[(⟨ar.2.2.1,ar.2.2.2,(rv (.slice none 0 0))⟩:cE)]),hw.sp 20 [4,9,10,5,6,7,8,11,12,13,14,18]⟩
  rintro _ w ⟨cn,us598,O,rfl,hw⟩
  refine bI (aG (RC.region (RL.inc hk hm (mv (vi ((bo+1:Nat):Int)) (RL.nil ?_)))))
  obtain rfl:=oi hb
  exact⟨rfl,cn,us598,hw.sp 12 [0,1,2,3,4,5,6,7,8,9,10,11]⟩
 rintro _ w ⟨aj,us444,O,rfl,hw⟩
 refine aG (RC.sr (mv (vp b0 0) (RL.nilCheck zr (RL.bB zr kx (RL.bB zr vZ (RL.aX 0 v0_3 hw EK (RL.bC 4 p0_3 hw F3 (mv (vi 0) ?_))))))))
 refine RL.nt ?_
 obtain⟨ai,hN,hb⟩:=bd hb
 refine RC.fold (fun(b2:Nat) (ai: (List cI)×(List Int)×(List Int)×(List Int)×(List dU)) U w=>∃(df dg:Value) (dh di:Value) (us819:List cE),SH E V [(0,vp b0 0),(170,v0_3),(171,vi p0_3.length),(172,vi b2)] [bc 126 b0 [v0_0,v0_1,v0_2,v0_3,v0_4,v0_5,v0_6,aj,df,dg,dh,di],rd df ai.2.1,rd dg ai.2.2.1,own 3 dh ai.2.2.2.1,own 41 di ai.2.2.2.2,rd v0_2 p0_2,rd v0_3 p0_3,rd v0_5 p0_5,rd v0_6 p0_6,own 129 aj us819,iY cC us819 ai.1 none] U w) (fun(ai: (List cI)×(List Int)×(List Int)×(List Int)×(List dU)) U w=>∃(cp cq:Value) (cr ct:Value) (us824:List cE),SH E V [(0,vp b0 0)] [bc 126 b0 [v0_0,v0_1,v0_2,v0_3,v0_4,v0_5,v0_6,aj,cp,cq,cr,ct],rd cp ai.2.1,rd cq ai.2.2.1,own 3 cr ai.2.2.2.1,own 41 ct ai.2.2.2.2,rd v0_2 p0_2,rd v0_3 p0_3,rd v0_5 p0_5,rd v0_6 p0_6,own 129 aj us824,iY cC us824 ai.1 none] U w) hN ?_ ?_ ?_ ?_
 ·have hw:=(hw.freeze 7).freeze 8
  exact⟨al,an,v0_10,v0_11,us444,hw.sp 12 [0,7,8,9,10,3,4,5,6,1,2]⟩
 ·rintro hm ai _ w ⟨eh,ei,ej,ek,us932,O,rfl,hw⟩
  refine RC.sr (ic ((p0_3.length:Int)) ((p0_3.length:Int)) (RL.nq (RC.cH lD (RC.ex ?_))))
  exact⟨rfl,eh,ei,ej,ek,us932,hw.sp 11 [0,1,2,3,4,5,6,7,8,9,10]⟩
 ·rintro hm b2 ai s' _ w hk ⟨a3,a4,bl,a6,us829,O,rfl,hw⟩ hb
  refine RC.sr (ic ((b2:Int)) ((p0_3.length:Int)) (RL.nq (RC.cG (lC hk) (RC.ss (RC.bs ?_)))))
  obtain⟨b7,el,hb⟩:=bd hb
  refine RL.bW 6 hw EL el fun en hw=>(RL.bL 0 b7 hw xW fun eo hw=>(RL.alloc hw Jk.z fun dj w hw=>?_))
  refine RL.bA 0 hw 1 zr xW fun w hw=>?_
  refine RL.ns (mv (vp b0 0) (RL.aQ (f:=(fun x=>x)) 0 hw zr Fd.self xW fun dk hw=>?_))
  have hw:=((hw.dup 11 rfl).dup 10 rfl).pull 6
  obtain⟨ba,ep,hb⟩:=bd hb
  refine RL.call zt zr Md [(vp b0 0),dk] zr (aF (qZ N (i1:=0) hw zr ep) ?_)
  rintro _ w ⟨c2,rfl,hw⟩
  refine mv (.tuple #[c2,(vb ba.2)]) (RL.extract c2 (RL.extract (vb ba.2) (RL.alloc hw HN.z fun b8 w hw=>?_)))
  refine RL.bA 0 hw 1 zr rB fun w hw=>?_
  refine aK (vb ba.2) (RL.ns (aK (vi (-1)) (RL.nq (RC.sr (mv (vb ba.2) (RL.nt ?_))))))
  obtain⟨bh,hj,hb⟩:=bd hb
  refine RC.jn (fun(bh: (List cI)×Int) U w=>∃(us877:List cE),SH E V [(0,vp b0 0),(15,vp b8 0),(17,vi bh.2),(170,v0_3),(171,vi p0_3.length),(172,vi b2)] [bc 126 b0 [v0_0,v0_1,v0_2,v0_3,v0_4,v0_5,v0_6,aj,a3,a4,bl,a6],rd v0_2 p0_2,rd v0_3 p0_3,rd v0_5 p0_5,rd v0_6 p0_6,own 129 aj us877,iY cC us877 bh.1 none,rd a3 ai.2.1,rd a4 ai.2.2.1,own 3 bl ai.2.2.2.1,own 41 a6 ai.2.2.2.2,bx 41 b8 ba.1] U w) bh ?_ ?_
  ·refine eI hj (fun hc hj=>?_) fun hc hj=>?_
   rotate_left
   ·refine RC.skip ?_
    obtain rfl:=oi hj
    exact⟨rfl,us829,hw.sp 18 [2,12,13,14,15,16,17,8,9,10,11,0]⟩
   refine RC.sr (mv (vp b0 0) (RL.aQ (f:=(fun x=>x)) 0 hw zr Fd.self rB fun dm hw=>?_))
   have hw:=((hw.dup 10 rfl).dup 10 rfl).pull 5
   obtain⟨ah,er,hj⟩:=bd hj
   refine RL.call zt zr Me [(vp b0 0),dm] zr (aF (oD N (i1:=0) hw zr er) ?_)
   rintro _ w ⟨rfl,hw⟩
   refine aK (vi ah) (RL.nt ?_)
   obtain⟨fq,cd,hj⟩:=bd hj
   obtain⟨b9,et,hj⟩:=bd hj
   obtain⟨br,eu,hj⟩:=bd hj
   obtain⟨b3,cu,hj⟩:=bd hj
   refine RC.Ew E V mixed [1,1,1,0,1,1,1,1,0,1,0,0,0,0,0,0,0,0,0,0] [13,14,15,16,19] (fun(x:Value×Value×Value×Value)=>(fun av aw au ak=>[(0,186,(vp b0 0)),(1,187,(vp b0 0)),(2,188,(vp b0 7)),(3,189,aj),(4,190,(vi ah)),(5,191,(vp b0 0)),(6,192,(vp b0 0)),(7,193,(vp b0 7)),(8,194,aj),(9,195,(vi ah)),(10,196,(Bb aj (Int.toNat ah) 3 0)),(11,197,(Bb aj (Int.toNat ah) 3 2)),(12,198,(us829.getD (Int.toNat ah) (default:cE)).gV.v),(13,199,av),(14,200,aw),(15,201,au),(16,202,ak),(17,203,(Bb aj (Int.toNat ah) 3 0)),(18,204,(Bb aj (Int.toNat ah) 3 2))]) x.1 x.2.1 x.2.2.1 x.2.2.2) [(0,vp b0 0),(14,vp dj 0),(15,vp b8 0),(17,vi ah),(170,v0_3),(171,vi p0_3.length),(172,vi b2)] [] (fun(D:Nat->Bool) (x:Value×Value×Value×Value)=>(fun av aw au ak=>[bif D 0 then (rd av b7) else aZ,bif D 1 then (rd aw b9) else aZ,bif D 3 then (rd au ([b9]: (List fV))) else (bif D 2 then (own 51 au ([b9]: (List fV))) else aZ),bif D 4 then aZ else (bif D 3 then (own 51 ak br) else aZ),bc 126 b0 [v0_0,v0_1,v0_2,v0_3,v0_4,v0_5,v0_6,aj,a3,a4,bl,a6],rd dm ba.1,bx 41 b8 ba.1,rd c2 ba.1,aZ,rd dk b7,bx 78 dj b7,rd eo b7,pt en b7,aZ,rd a3 ai.2.1,rd a4 ai.2.2.1,own 3 bl ai.2.2.2.1,own 41 a6 ai.2.2.2.2,rd v0_2 p0_2,rd v0_3 p0_3,rd v0_5 p0_5,rd v0_6 p0_6,bif D 4 then (own 129 aj (us829.set (Int.toNat ah) {(us829.getD (Int.toNat ah) (default:cE)) with gV:=rv ak})) else (own 129 aj us829),bif D 4 then (iY cC (us829.set (Int.toNat ah) {(us829.getD (Int.toNat ah) (default:cE)) with gV:=rv ak}) (ai.1.set (Int.toNat ah) {b3 with gV:=br}) none) else (bif D 3 then (iY cC us829 ai.1 (some (Int.toNat ah))) else (iY cC us829 ai.1 none))]) x.1 x.2.1 x.2.2.1 x.2.2.2) (fun x=>by kernel_rfl) ?_ ⟨fun _=>jt gn,fun _=>wY gn,fun _=>mN gn qx,?_,fun _=>jt gn,fun _=>jt gn,fun _=>wY gn,fun _=>mN gn qx,?_,fun _=>jt gn,?_,?_,?_,?_,?_,?_,?_,?_,?_,?_,trivial⟩ ?_
   ·have hw:=((((hw.drew).aZ).aZ).aZ).aZ
    exact⟨(undef,undef,undef,undef),dX.none,(CX zr),zt,hw⟩
   ·rintro D U w hD af ad ⟨⟨av,aw,au,ak⟩,hv,ha,_,hw⟩
    obtain⟨O,rfl⟩:=(ac (hv.at 2 rfl (af.1 rfl)) az).eV
    refine RL.aX 4 aj hw xY ?_
    exact RL.nil ⟨rfl,(av,aw,au,ak),hv.pu 3,ha.u,zt,hw⟩
   ·rintro D U w hD af ad ⟨⟨av,aw,au,ak⟩,hv,ha,_,hw⟩
    obtain⟨O,rfl⟩:=(ac (hv.at 7 rfl (af.1 rfl)) az).eV
    refine RL.aX 4 aj hw xY ?_
    exact RL.nil ⟨rfl,(av,aw,au,ak),hv.pu 8,ha.u,zt,hw⟩
   ·rintro D U w hD af ad ⟨⟨av,aw,au,ak⟩,hv,ha,_,hw⟩
    obtain⟨O,rfl⟩:=(ac (hv.at 8 rfl (af.1 rfl)) (ac (hv.at 9 rfl (af.2.1 rfl)) az)).eV
    have hw:=((hw.cA 22 (nh ad hD 19)).cA 23 (nh ad hD 19)).cA 23 (nf (fun h=>ft hD ((ad 11 _ rfl ((ad 12 _ rfl ((ad 16 _ rfl h).1 rfl)).1 rfl)).1 rfl)))
    have hl900:=hw.gQ 23
    have hr901:=jU (default:cE) hl900 cd
    refine RL.bG 22 hw zr zr DX hr901 ?_
    have hw:=(hw.eY 22 (D 19) (nh ad hD 19) (own 129 aj (us829.set (Int.toNat ah) {(us829.getD (Int.toNat ah) (default:cE)) with gV:=rv ak}))).eY 23 (D 16) (nf (fun h=>ft hD ((ad 11 _ rfl ((ad 12 _ rfl ((ad 16 _ rfl h).1 rfl)).1 rfl)).1 rfl))) (iY cC us829 ai.1 (some (Int.toNat ah)))
    have hw:=hw.eY 23 (D 19) (nh ad hD 19) (iY cC (us829.set (Int.toNat ah) {(us829.getD (Int.toNat ah) (default:cE)) with gV:=rv ak}) (ai.1.set (Int.toNat ah) {b3 with gV:=br}) none)
    exact RL.nil ⟨rfl,(av,aw,au,ak),hv.pu 10,ha.u,zt,hw⟩
   ·rintro D U w hD af ad ⟨⟨av,aw,au,ak⟩,hv,ha,_,hw⟩
    obtain⟨O,rfl⟩:=(ac (hv.at 10 rfl (af.1 rfl)) az).eV
    have hw:=((hw.cA 22 (nh ad hD 19)).cA 23 (nh ad hD 19)).cA 23 (nf (fun h=>ft hD ((ad 12 _ rfl ((ad 16 _ rfl h).1 rfl)).1 rfl)))
    have hl902:=hw.gQ 23
    have hr903:=jU (default:cE) hl902 cd
    refine RL.nr (α:=cE) (iX 22 hw hr903 0) Az ?_
    have hw:=(hw.eY 22 (D 19) (nh ad hD 19) (own 129 aj (us829.set (Int.toNat ah) {(us829.getD (Int.toNat ah) (default:cE)) with gV:=rv ak}))).eY 23 (D 16) (nf (fun h=>ft hD ((ad 12 _ rfl ((ad 16 _ rfl h).1 rfl)).1 rfl))) (iY cC us829 ai.1 (some (Int.toNat ah)))
    have hw:=hw.eY 23 (D 19) (nh ad hD 19) (iY cC (us829.set (Int.toNat ah) {(us829.getD (Int.toNat ah) (default:cE)) with gV:=rv ak}) (ai.1.set (Int.toNat ah) {b3 with gV:=br}) none)
    exact RL.nil ⟨rfl,(av,aw,au,ak),hv.pu 11,ha.u,zt,hw⟩
   ·rintro D U w hD af ad ⟨⟨av,aw,au,ak⟩,hv,ha,_,hw⟩
    obtain⟨O,rfl⟩:=(ac (hv.at 11 rfl (af.1 rfl)) az).eV
    have hw:=((hw.cA 22 (nh ad hD 19)).cA 23 (nh ad hD 19)).cA 23 (nh ad hD 16)
    have hl904:=hw.gQ 23
    have hr905:=jU (default:cE) hl904 cd
    refine RL.vS 22 23 ah rz (default:cE) zr hw zr (iX 22 hw hr905 2) zr zr cd Ga ?_
    have hw:=(hw.eY 22 (D 19) (nh ad hD 19) (own 129 aj (us829.set (Int.toNat ah) {(us829.getD (Int.toNat ah) (default:cE)) with gV:=rv ak}))).eY 23 (D 16) (nh ad hD 16) (iY cC us829 ai.1 (some (Int.toNat ah)))
    have hw:=hw.eY 23 (D 19) (nh ad hD 19) (iY cC (us829.set (Int.toNat ah) {(us829.getD (Int.toNat ah) (default:cE)) with gV:=rv ak}) (ai.1.set (Int.toNat ah) {b3 with gV:=br}) none)
    exact RL.nil ⟨rfl,(av,aw,au,ak),hv.pu 12,ha.u,zt,hw⟩
   ·rintro D U w hD af ad ⟨⟨av,aw,au,ak⟩,hv,ha,_,hw⟩
    obtain⟨O,rfl⟩:=(ac (ha.at 1 rfl) az).eV
    have hw:=hw.cA 0 hD
    refine RL.aQ (f:=(fun x=>x)) 10 hw zr Fd.self xW fun ev hw=>?_
    have hw:=(hw.pl 25 [0,2,3,4,5,6,7,8,9,10,11,12,13,14,15,16,17,18,19,20,21,22,23,24]).cL 0 true aZ
    exact RL.nil ⟨rfl,(ev,aw,au,ak),hv.pu 13,ha.u,zt,hw⟩
   ·rintro D U w hD af ad ⟨⟨av,aw,au,ak⟩,hv,ha,_,hw⟩
    obtain⟨O,rfl⟩:=(ac (hv.at 13 rfl (af.1 rfl)) az).eV
    have hw:=(hw.cK 0 (af.1 rfl)).cA 1 hD
    refine RL.call zt zr HK [av] zr (aF (lX N (i0:=0) hw zr et) ?_)
    rintro ew w hw
    have hw:=((hw.pl 25 [1,0,3,4,5,6,7,8,9,10,11,12,13,14,15,16,17,18,19,20,21,22,23,24]).cL (hb:=af.1 rfl) 0 (D 13) aZ).cL 1 true aZ
    exact RL.nil ⟨rfl,(av,ew,au,ak),hv.pu 14,ha.u,zt,hw⟩
   ·rintro D U w hD af ad ⟨⟨av,aw,au,ak⟩,hv,ha,_,hw⟩
    obtain⟨O,rfl⟩:=(ac (hv.at 14 rfl (af.1 rfl)) az).eV
    have hw:=((hw.cK 1 (af.1 rfl)).cA 2 (nh ad hD 16)).cA 2 hD
    refine RL.eE ([b9]: (List fV)) hw [aw] KK Kp (fun M hs g=>⟨(g.sat 1 _ zr).1,zt⟩) fun dn w hw=>?_
    have hw:=(((hw.pl 25 [1,2,0,4,5,6,7,8,9,10,11,12,13,14,15,16,17,18,19,20,21,22,23,24]).cL (hb:=af.1 rfl) 1 (D 14) aZ).cL 2 true aZ).eY 2 (D 16) (nh ad hD 16) (rd dn ([b9]: (List fV)))
    exact RL.nil ⟨rfl,(av,aw,dn,ak),hv.pu 15,ha.u,zt,hw⟩
   ·rintro D U w hD af ad ⟨⟨av,aw,au,ak⟩,hv,ha,_,hw⟩
    obtain⟨O,rfl⟩:=(ac (hv.at 12 rfl (af.1 rfl)) (ac (hv.at 15 rfl (af.2.1 rfl)) az)).eV
    have hw:=(((((((hw.cA 2 hD).cK 2 (af.2.1 rfl)).cA 3 (nh ad hD 19)).cA 3 hD).cA 22 (nh ad hD 19)).cA 23 (nh ad hD 19)).cA 23 hD).Ah (j:=23) (jj:=ah) rz (default:cE) rfl cd
    have hw:=hw.freeze 3
    refine RL.app 0 3 hw KL eu fun c3 w hw=>?_
    have hw:=((((hw.pl 25 [1,2,3,0,5,6,7,8,9,10,11,12,13,14,15,16,17,18,19,20,21,22,23,24]).cL 2 true (bif D 15 then (own 51 au ([b9]: (List fV))) else aZ)).cL 3 true aZ).eY 3 (D 19) (nh ad hD 19) aZ).eY 22 (D 19) (nh ad hD 19) (own 129 aj (us829.set (Int.toNat ah) {(us829.getD (Int.toNat ah) (default:cE)) with gV:=rv c3}))
    have hw:=(hw.cL 23 true (iY cC us829 ai.1 none)).eY 23 (D 19) (nh ad hD 19) (iY cC (us829.set (Int.toNat ah) {(us829.getD (Int.toNat ah) (default:cE)) with gV:=rv c3}) (ai.1.set (Int.toNat ah) {b3 with gV:=br}) none)
    exact RL.nil ⟨rfl,(av,aw,au,c3),hv.pu 16,ha.u,zt,hw⟩
   ·rintro D U w hD af ad ⟨⟨av,aw,au,ak⟩,hv,ha,_,hw⟩
    obtain⟨O,rfl⟩:=(ac (hv.at 3 rfl (af.1 rfl)) (ac (hv.at 4 rfl (af.2.1 rfl)) az)).eV
    have hw:=hw.cA 22 (nf (fun h=>ft hD ((ad 18 _ rfl ((ad 19 _ rfl h).1 rfl)).1 rfl)))
    have hw:=hw.cA 23 (nf (fun h=>ft hD ((ad 18 _ rfl ((ad 19 _ rfl h).1 rfl)).1 rfl)))
    have hw:=hw.cK 23 (af.2.2.2.2.2.2.2.2.2.2.2.2.2.2.2.2.2.2.1 rfl)
    have hl910:=hw.gQ 23
    have hr911:=jU (default:cE) hl910 cu
    refine RL.bG 22 hw zr zr DX hr911 ?_
    have hw:=hw.eY 22 (D 19) (nf (fun h=>ft hD ((ad 18 _ rfl ((ad 19 _ rfl h).1 rfl)).1 rfl))) (own 129 aj (us829.set (Int.toNat ah) {(us829.getD (Int.toNat ah) (default:cE)) with gV:=rv ak}))
    have hw:=(hw.cL (hb:=af.2.2.2.2.2.2.2.2.2.2.2.2.2.2.2.2.2.2.1 rfl) 23 (D 16) (iY cC us829 ai.1 none)).eY 23 (D 19) (nf (fun h=>ft hD ((ad 18 _ rfl ((ad 19 _ rfl h).1 rfl)).1 rfl))) (iY cC (us829.set (Int.toNat ah) {(us829.getD (Int.toNat ah) (default:cE)) with gV:=rv ak}) (ai.1.set (Int.toNat ah) {b3 with gV:=br}) none)
    exact RL.nil ⟨rfl,(av,aw,au,ak),hv.pu 17,ha.u,zt,hw⟩
   ·rintro D U w hD af ad ⟨⟨av,aw,au,ak⟩,hv,ha,_,hw⟩
    obtain⟨O,rfl⟩:=(ac (hv.at 17 rfl (af.1 rfl)) az).eV
    have hw:=((hw.cA 22 (nh ad hD 19)).cA 23 (nh ad hD 19)).cK 23 (af.2.2.2.2.2.2.2.2.2.2.2.2.2.2.2.2.2.1 rfl)
    have hl912:=hw.gQ 23
    have hr913:=jU (default:cE) hl912 cu
    refine RL.nr (α:=cE) (iX 22 hw hr913 0) Az ?_
    have hw:=(hw.eY 22 (D 19) (nh ad hD 19) (own 129 aj (us829.set (Int.toNat ah) {(us829.getD (Int.toNat ah) (default:cE)) with gV:=rv ak}))).cL (hb:=af.2.2.2.2.2.2.2.2.2.2.2.2.2.2.2.2.2.1 rfl) 23 (D 16) (iY cC us829 ai.1 none)
    have hw:=hw.eY 23 (D 19) (nh ad hD 19) (iY cC (us829.set (Int.toNat ah) {(us829.getD (Int.toNat ah) (default:cE)) with gV:=rv ak}) (ai.1.set (Int.toNat ah) {b3 with gV:=br}) none)
    exact RL.nil ⟨rfl,(av,aw,au,ak),hv.pu 18,ha.u,zt,hw⟩
   ·rintro D U w hD af ad ⟨⟨av,aw,au,ak⟩,hv,ha,_,hw⟩
    obtain⟨O,rfl⟩:=(ac (hv.at 16 rfl (af.2.1 rfl)) (ac (hv.at 18 rfl (af.1 rfl)) az)).eV
    have hw:=((((hw.cA 3 hD).cK 3 (af.2.1 rfl)).cA 22 hD).cA 23 hD).cK 23 (af.2.1 rfl)
    have hl914:=hw.gQ 23
    have hr915:=jU (default:cE) hl914 cu
    refine RL.tJ 22 23 3 ah rz (default:cE) hw zr zr (iX 22 hw hr915 2) zr zr zr cu Ga fun w hw=>?_
    have hw:=((hw.cL 3 true (bif D 16 then (own 51 ak br) else aZ)).cL 22 true (own 129 aj us829)).cL 23 true (bif D 16 then (iY cC us829 ai.1 (some (Int.toNat ah))) else (iY cC us829 ai.1 none))
    exact RL.nil ⟨rfl,(av,aw,au,ak),hv.n1,ha,zt,hw⟩
   rintro D U w a7 ⟨⟨av,aw,au,ak⟩,hv,ha,_,hw⟩
   have hw:=(((((hw.cK 0 (jC a7 13)).cK 1 (jC a7 14)).cK 2 (jC a7 16)).cK 3 (jC a7 19)).cK 22 (jC a7 19)).cK 23 (jC a7 19)
   obtain⟨O,rfl⟩:=(ac (ha.at 0 rfl) (ac (ha.at 1 rfl) (ac (ha.at 2 rfl) (ac (ha.at 3 rfl) (ac (ha.at 4 rfl) (ac (ha.at 5 rfl) (ac (ha.at 6 rfl) az))))))).eV
   obtain rfl:=oi hj
   exact⟨rfl,(us829.set (Int.toNat ah) {(us829.getD (Int.toNat ah) (default:cE)) with gV:=rv ak}),hw.sp 24 [4,18,19,20,21,22,23,14,15,16,17,6]⟩
  rintro _ w ⟨us877,O,rfl,hw⟩
  refine aG ?_
  obtain⟨ey,ez,hb⟩:=bd hb
  obtain⟨e3,e4,hb⟩:=bd hb
  refine RC.Ew E V mixed [1,1,1,1,1,0,1,0,0,1,1,1,0,0,0,0,1,1,0,1,1,0] [7,8,13,14,15,18,21] (fun(x:Value×Value×Value×Value×Value)=>(fun ay a1 a0 aq ax=>[(0,205,(vp b0 0)),(1,206,(vp b0 0)),(2,207,(vp b0 0)),(3,208,(vp b0 0)),(4,209,(vp b0 10)),(5,210,bl),(6,211,(vi bh.2)),(7,212,ay),(8,213,aq),(9,214,(vp b0 0)),(10,215,(vp b0 0)),(11,216,(vp b0 11)),(12,217,a6),(13,218,a1),(14,219,a0),(15,220,ax),(16,221,(vp b0 0)),(17,222,(vp b0 10)),(19,223,(vp b0 0)),(20,224,(vp b0 11))]) x.1 x.2.1 x.2.2.1 x.2.2.2.1 x.2.2.2.2) [(0,vp b0 0),(15,vp b8 0),(17,vi bh.2),(170,v0_3),(171,vi p0_3.length),(172,vi b2)] [] (fun(D:Nat->Bool) (x:Value×Value×Value×Value×Value)=>(fun ay a1 a0 aq ax=>[bif D 1 then (rd ay ([bh.2]: (List Int))) else (bif D 0 then (own 3 ay ([bh.2]: (List Int))) else aZ),bif D 2 then (rd a1 ba.1) else aZ,bif D 4 then (rd a0 ([ba.1]: (List dU))) else (bif D 3 then (own 41 a0 ([ba.1]: (List dU))) else aZ),bif D 6 then (bc 126 b0 [v0_0,v0_1,v0_2,v0_3,v0_4,v0_5,v0_6,aj,a3,a4,aq,ax]) else (bif D 5 then (bc 126 b0 [v0_0,v0_1,v0_2,v0_3,v0_4,v0_5,v0_6,aj,a3,a4,aq,a6]) else (bc 126 b0 [v0_0,v0_1,v0_2,v0_3,v0_4,v0_5,v0_6,aj,a3,a4,bl,a6])),rd v0_2 p0_2,rd v0_3 p0_3,rd v0_5 p0_5,rd v0_6 p0_6,own 129 aj us877,iY cC us877 bh.1 none,rd a3 ai.2.1,rd a4 ai.2.2.1,bif D 1 then (own 3 aq ey) else (own 3 bl ai.2.2.2.1),bif D 4 then (own 41 ax e3) else (own 41 a6 ai.2.2.2.2),bx 41 b8 ba.1]) x.1 x.2.1 x.2.2.1 x.2.2.2.1 x.2.2.2.2) (fun x=>by kernel_rfl) ?_ ⟨fun _=>jt gn,fun _=>jt gn,fun _=>jt gn,fun _=>wY gn,fun _=>mN gn AA,?_,fun _=>jt gn,?_,?_,fun _=>jt gn,fun _=>wY gn,fun _=>mN gn AB,?_,?_,?_,?_,fun _=>wY gn,fun _=>mN gn AA,?_,fun _=>wY gn,fun _=>mN gn AB,?_,trivial⟩ ?_
  ·have hw:=(((hw.drew).aZ).aZ).aZ
   exact⟨(undef,undef,undef,undef,undef),dX.none,(CX zr),zt,hw⟩
  ·rintro D U w hD af ad ⟨⟨ay,a1,a0,aq,ax⟩,hv,ha,_,hw⟩
   obtain⟨O,rfl⟩:=(ac (hv.at 4 rfl (af.1 rfl)) az).eV
   have hw:=(hw.cA 3 (nh ad hD 21)).cA 3 (nh ad hD 18)
   refine RL.aX 3 bl hw fE ?_
   have hw:=(hw.eY 3 (D 18) (nh ad hD 18) (bc 126 b0 [v0_0,v0_1,v0_2,v0_3,v0_4,v0_5,v0_6,aj,a3,a4,aq,a6])).eY 3 (D 21) (nh ad hD 21) (bc 126 b0 [v0_0,v0_1,v0_2,v0_3,v0_4,v0_5,v0_6,aj,a3,a4,aq,ax])
   exact RL.nil ⟨rfl,(ay,a1,a0,aq,ax),hv.pu 5,ha.u,zt,hw⟩
  ·rintro D U w hD af ad ⟨⟨ay,a1,a0,aq,ax⟩,hv,ha,_,hw⟩
   obtain⟨O,rfl⟩:=(ac (hv.at 6 rfl (af.1 rfl)) az).eV
   have hw:=((hw.cA 0 (nh ad hD 8)).cA 0 hD).sc Int bh.2
   refine RL.eE ([bh.2]: (List Int)) hw [(vi bh.2)] dV Ft (fun M hs g=>⟨(g.sat 0 _ zr).1,zt⟩) fun dp w hw=>?_
   have hw:=((hw.pl 17 [0,3,4,5,6,7,8,9,10,11,12,13,14,15,16]).cL 0 true aZ).eY 0 (D 8) (nh ad hD 8) (rd dp ([bh.2]: (List Int)))
   exact RL.nil ⟨rfl,(dp,a1,a0,aq,ax),hv.pu 7,ha.u,zt,hw⟩
  ·rintro D U w hD af ad ⟨⟨ay,a1,a0,aq,ax⟩,hv,ha,_,hw⟩
   obtain⟨O,rfl⟩:=(ac (hv.at 5 rfl (af.1 rfl)) (ac (hv.at 7 rfl (af.2.1 rfl)) az)).eV
   have hw:=(((((hw.cA 0 hD).cK 0 (af.2.1 rfl)).cA 3 (nh ad hD 21)).cA 3 (nh ad hD 18)).cA 12 hD).freeze 0
   refine RL.app 12 0 hw tM ez fun c4 w hw=>?_
   have hw:=((hw.cL 0 true (bif D 7 then (own 3 ay ([bh.2]: (List Int))) else aZ)).eY 3 (D 18) (nh ad hD 18) (bc 126 b0 [v0_0,v0_1,v0_2,v0_3,v0_4,v0_5,v0_6,aj,a3,a4,c4,a6])).eY 3 (D 21) (nh ad hD 21) (bc 126 b0 [v0_0,v0_1,v0_2,v0_3,v0_4,v0_5,v0_6,aj,a3,a4,c4,ax])
   have hw:=hw.cL 12 true (own 3 bl ai.2.2.2.1)
   exact RL.nil ⟨rfl,(ay,a1,a0,c4,ax),hv.pu 8,ha.u,zt,hw⟩
  ·rintro D U w hD af ad ⟨⟨ay,a1,a0,aq,ax⟩,hv,ha,_,hw⟩
   obtain⟨O,rfl⟩:=(ac (hv.at 11 rfl (af.1 rfl)) az).eV
   have hw:=(hw.cA 3 (nh ad hD 21)).cA 3 (nh ad hD 18)
   refine RL.aX 3 a6 hw Gb ?_
   have hw:=(hw.eY 3 (D 18) (nh ad hD 18) (bc 126 b0 [v0_0,v0_1,v0_2,v0_3,v0_4,v0_5,v0_6,aj,a3,a4,aq,a6])).eY 3 (D 21) (nh ad hD 21) (bc 126 b0 [v0_0,v0_1,v0_2,v0_3,v0_4,v0_5,v0_6,aj,a3,a4,aq,ax])
   exact RL.nil ⟨rfl,(ay,a1,a0,aq,ax),hv.pu 12,ha.u,zt,hw⟩
  ·rintro D U w hD af ad ⟨⟨ay,a1,a0,aq,ax⟩,hv,ha,_,hw⟩
   obtain⟨O,rfl⟩:=(ac (ha.at 1 rfl) az).eV
   have hw:=hw.cA 1 hD
   refine RL.aQ (f:=(fun x=>x)) 14 hw zr Fd.self rB fun e5 hw=>?_
   have hw:=(hw.pl 16 [1,0,3,4,5,6,7,8,9,10,11,12,13,14,15]).cL 1 true aZ
   exact RL.nil ⟨rfl,(ay,e5,a0,aq,ax),hv.pu 13,ha.u,zt,hw⟩
  ·rintro D U w hD af ad ⟨⟨ay,a1,a0,aq,ax⟩,hv,ha,_,hw⟩
   obtain⟨O,rfl⟩:=(ac (hv.at 13 rfl (af.1 rfl)) az).eV
   have hw:=((hw.cK 1 (af.1 rfl)).cA 2 (nh ad hD 15)).cA 2 hD
   refine RL.eE ([ba.1]: (List dU)) hw [a1] ID HN (fun M hs g=>⟨(g.sat 1 _ zr).1,zt⟩) fun dq w hw=>?_
   have hw:=(((hw.pl 16 [1,2,0,4,5,6,7,8,9,10,11,12,13,14,15]).cL (hb:=af.1 rfl) 1 (D 13) aZ).cL 2 true aZ).eY 2 (D 15) (nh ad hD 15) (rd dq ([ba.1]: (List dU)))
   exact RL.nil ⟨rfl,(ay,a1,dq,aq,ax),hv.pu 14,ha.u,zt,hw⟩
  ·rintro D U w hD af ad ⟨⟨ay,a1,a0,aq,ax⟩,hv,ha,_,hw⟩
   obtain⟨O,rfl⟩:=(ac (hv.at 12 rfl (af.1 rfl)) (ac (hv.at 14 rfl (af.2.1 rfl)) az)).eV
   have hw:=(((((hw.cA 2 hD).cK 2 (af.2.1 rfl)).cA 3 (nh ad hD 21)).cA 3 (nh ad hD 18)).cA 13 hD).freeze 2
   refine RL.app 13 2 hw KM e4 fun dr w hw=>?_
   have hw:=((hw.cL 2 true (bif D 14 then (own 41 a0 ([ba.1]: (List dU))) else aZ)).eY 3 (D 18) (nh ad hD 18) (bc 126 b0 [v0_0,v0_1,v0_2,v0_3,v0_4,v0_5,v0_6,aj,a3,a4,aq,a6])).eY 3 (D 21) (nh ad hD 21) (bc 126 b0 [v0_0,v0_1,v0_2,v0_3,v0_4,v0_5,v0_6,aj,a3,a4,aq,dr])
   have hw:=hw.cL 13 true (own 41 a6 ai.2.2.2.2)
   exact RL.nil ⟨rfl,(ay,a1,a0,aq,dr),hv.pu 15,ha.u,zt,hw⟩
  ·rintro D U w hD af ad ⟨⟨ay,a1,a0,aq,ax⟩,hv,ha,_,hw⟩
   obtain⟨O,rfl⟩:=(ac (hv.at 8 rfl (af.2.1 rfl)) (ac (hv.at 17 rfl (af.1 rfl)) az)).eV
   have hw:=((hw.cA 3 (nh ad hD 21)).cA 3 hD).cK 12 (af.2.1 rfl)
   refine RL.gU 3 aq hw zr zr (iE 12 hw) fE fun w hw=>?_
   have hw:=((hw.cL 3 true (bc 126 b0 [v0_0,v0_1,v0_2,v0_3,v0_4,v0_5,v0_6,aj,a3,a4,bl,a6])).eY 3 (D 21) (nh ad hD 21) (bc 126 b0 [v0_0,v0_1,v0_2,v0_3,v0_4,v0_5,v0_6,aj,a3,a4,aq,ax])).cL (hb:=af.2.1 rfl) 12 (D 8) (own 3 bl ai.2.2.2.1)
   exact RL.nil ⟨rfl,(ay,a1,a0,aq,ax),hv.n1,ha,zt,hw⟩
  ·rintro D U w hD af ad ⟨⟨ay,a1,a0,aq,ax⟩,hv,ha,_,hw⟩
   obtain⟨O,rfl⟩:=(ac (hv.at 15 rfl (af.2.1 rfl)) (ac (hv.at 19 rfl (af.1 rfl)) az)).eV
   have hw:=((hw.cA 3 hD).cK 3 (af.2.2.1 rfl)).cK 13 (af.2.1 rfl)
   refine RL.gU 3 ax hw zr zr (iE 13 hw) Gb fun w hw=>?_
   have hw:=(hw.cL 3 true (bif D 18 then (bc 126 b0 [v0_0,v0_1,v0_2,v0_3,v0_4,v0_5,v0_6,aj,a3,a4,aq,a6]) else (bc 126 b0 [v0_0,v0_1,v0_2,v0_3,v0_4,v0_5,v0_6,aj,a3,a4,bl,a6]))).cL (hb:=af.2.1 rfl) 13 (D 15) (own 41 a6 ai.2.2.2.2)
   exact RL.nil ⟨rfl,(ay,a1,a0,aq,ax),hv.n1,ha,zt,hw⟩
  rintro D U w a7 ⟨⟨ay,a1,a0,aq,ax⟩,hv,ha,_,hw⟩
  have hw:=(((((hw.cK 0 (jC a7 8)).cK 1 (jC a7 13)).cK 2 (jC a7 15)).cK 3 (jC a7 21)).cK 12 (jC a7 8)).cK 13 (jC a7 15)
  obtain⟨O,rfl⟩:=(ac (ha.at 0 rfl) (ac (ha.at 1 rfl) (ac (ha.at 2 rfl) (ac (ha.at 3 rfl) (ac (ha.at 4 rfl) (ac (ha.at 5 rfl) az)))))).eV
  refine bI (aG (RC.region (RL.inc hk hm (mv (vi ((b2+1:Nat):Int)) (RL.nil ?_)))))
  obtain rfl:=oi hb
  exact⟨rfl,a3,a4,aq,ax,us877,hw.sp 15 [3,10,11,12,13,4,5,6,7,8,9]⟩
 rintro _ w ⟨cp,cq,cr,ct,us824,O,rfl,hw⟩
 obtain rfl:=oi hb
 have hw:=hw.Ai (X:=cC) (b:=10) (j:=9) rfl (fun M h u x cs=>As M h u x cs) rfl rfl (by decide)
 refine xz ?_
 exact Ep ⟨aj,cp,cq,cr,ct,zr,hw.pk 11 [0,9,1,2,3,4]⟩
def pA (E:World) (V:List HP) (r:Option ((List (List aI))×(List aI)×(List bZ)×(List cY)×(List (List aA))×(List aH)×(List (List Int))×(List cI)×(List Int)×(List Int)×(List Int)×(List dU))×Int) (U:Nat->Value) (w:World):Prop:=ly bE 112 Tryz.f26 (m0 E V r) .ret U w
theorem rR {p0:gS} {res:Option ((List (List aI))×(List aI)×(List bZ)×(List cY)×(List (List aA))×(List aH)×(List (List Int))×(List cI)×(List Int)×(List Int)×(List Int)×(List dU))×Int} (j:Holds E w V) (h0:V[i0]? =some (rd v0 p0)) (hb:gD N p0=some res):
    Calls bE 26 [v0].toArray w (gF (m0 E V res)):=by
 unfold gD at hb
 refine enter Tryz.func26 zr zr ?_
 have j:=j.dup (i0+0) h0
 refine RC.sr (RL.dB 0 v0 j zr fun al w j=>?_)
 refine aK (.pointer none) (aK (vi 0) (RL.nq (RC.sr (RL.bB zr vX (RL.aQ 0 j zr pN EH fun c0 j=>(RL.bC 0 p0.aL j BW (ic ((p0.aL.length:Int)) 0 (RL.nt ?_))))))))
 refine eI hb (fun hc hb=>?_) fun hc hb=>?_
 ·refine RC.sr (aK (.pointer none) (aK (vi 9) (RL.nt (RC.rt ?_))))
  obtain rfl:=oi hb
  exact j9 ⟨rfl,j.drop 3⟩
 refine RC.ss (RC.sr (RL.bB zr vX (RL.aQ 1 j zr pN EH fun c1 j=>(RL.bC 0 p0.aL j BW (ic ((p0.aL.length:Int)) 16 (RL.nt (eI hb (fun hc hb=>?_) fun hc hb=>?_)))))))
 ·refine RC.sr (aK (.pointer none) (aK (vi 2) (RL.nt (RC.rt ?_))))
  obtain rfl:=oi hb
  exact j9 ⟨rfl,j.drop 4⟩
 refine RC.sx (RL.bB zr F1 (RL.aQ 2 j zr xO xU fun c2 j=>(RL.bC 0 p0.dL j oO (aK (vi p0.dL.length) (RL.nq (RC.sr (RL.bB zr vX (RL.aQ 3 j zr pN EH fun bn j=>?_))))))))
 refine RL.bC 0 p0.aL j BW (mv (vi 0) (RL.nt ?_))
 obtain⟨c3,hN,hb⟩:=bd hb
 refine RC.range (fun(bh:Nat) (aw:Int)=>SH E V [(1,vp al 0),(4,vi aw),(28,bn),(29,vi p0.aL.length),(30,vi bh)] [bx 27 al p0,rd bn p0.aL]) (fun(aw:Int)=>SH E V [(1,vp al 0),(4,vi aw)] [bx 27 al p0,rd bn p0.aL]) (pA E V) hN ?_ ?_ ?_ ?_ ?_
 ·exact j.sp 6 [4,0]
 ·rintro hm aw _ w ⟨O,rfl,j⟩
  refine RC.sr (ic ((p0.aL.length:Int)) ((p0.aL.length:Int)) (RL.nq (RC.cH lD (RC.ex ?_))))
  exact⟨rfl,j.sp 2 [0,1]⟩
 ·rintro hm bh aw fl _ w hk ⟨O,rfl,j⟩ hb
  refine RC.sr (ic ((bh:Int)) ((p0.aL.length:Int)) (RL.nq (RC.cG (lC hk) (RC.ss (RC.bs ?_)))))
  obtain⟨bj,bu,hb⟩:=bd hb
  refine RL.bW 1 j C2 bu fun c4 j=>(RL.bL 0 bj j xU fun bk j=>(aK bk (RL.nq (RC.sr (mv bk ?_)))))
  obtain⟨a6,bw,hb⟩:=bd hb
  refine RL.call zt zr Ka [bk] zr (aF (na N (i0:=0) j zr bw) ?_)
  rintro _ w ⟨rfl,j⟩
  refine aK (vi a6) (RL.ns (mv (vi a6) (ic a6 0 (RL.nt (eI hb (fun hc hb=>?_) fun hc hb=>?_)))))
  ·refine RC.sr (mv (vi a6) (aK (.pointer none) (aK (vi a6) (RL.nt (RC.rt (jS (bM ?_)))))))
   obtain rfl:=oi hb
   exact⟨rfl,j9 ⟨rfl,j.drop 4⟩⟩
  refine RC.sn (RC.region (mv (vi aw) (mv bk (RL.bC 0 bj j oO (RL.i6 aw (bj.length:Int) (aK (vi (IntKind.wrap .i64 (aw+ (bj.length:Int)))) (RL.nil (bI ?_))))))))
  refine aG (RC.region (RL.inc hk hm (mv (vi ((bh+1:Nat):Int)) (RL.nil ?_))))
  obtain rfl:=oi hb
  exact⟨rfl,j.sp 4 [2,3]⟩
 ·intro r U w e hK
  subst e
  refine bM ?_
  obtain rfl:=oi hb
  exact hK
 rintro aw _ w rfl ⟨O,rfl,j⟩
 rw [Fo.fB] at hb
 refine aG (RC.seq (RC.sr (RL.bB zr F1 (RL.aQ 0 j zr xO xU fun bz j=>?_))))
 obtain⟨a8,b0,hb⟩:=bd hb
 refine RL.call zt zr Ka [bz] zr (aF (na N (i0:=0) j zr b0) ?_)
 rintro _ w ⟨rfl,j⟩
 refine aK (vi a8) (RL.ns (mv (vi a8) (ic a8 0 (RL.nt (eI hb (fun hc hb=>?_) fun hc hb=>?_)))))
 ·refine RC.sr (mv (vi a8) (aK (.pointer none) (aK (vi a8) (RL.nt (RC.rt ?_)))))
  obtain rfl:=oi hb
  exact j9 ⟨rfl,j.drop 3⟩
 refine RC.ss (RC.sr (mv (vi aw) (ic aw 2000 (RL.nt (eI hb (fun hc hb=>?_) fun hc hb=>?_)))))
 ·refine RC.sr (aK (.pointer none) (aK (vi 2) (RL.nt (RC.rt ?_))))
  obtain rfl:=oi hb
  exact j9 ⟨rfl,j.drop 3⟩
 refine RC.ss (RC.sr (RL.aQ (f:=(fun x=>x)) 1 j zr Fd.self oN fun b1 j=>?_))
 obtain⟨a9,b2,hb⟩:=bd hb
 refine RL.call zt zr LZ [b1] zr (aF (rG N (i0:=0) j zr b2) ?_)
 rintro _ w ⟨rfl,j⟩
 refine aK (vi a9) (RL.ns (mv (vi a9) (ic a9 0 (RL.nt (eI hb (fun hc hb=>?_) fun hc hb=>?_)))))
 ·refine RC.sr (mv (vi a9) (aK (.pointer none) (aK (vi a9) (RL.nt (RC.rt ?_)))))
  obtain rfl:=oi hb
  exact j9 ⟨rfl,j.drop 4⟩
 refine RC.ss (RC.sr (RL.aQ (f:=(fun x=>x)) 2 j zr Fd.self oN fun b3 j=>?_))
 obtain⟨ba,b4,hb⟩:=bd hb
 refine RL.call zt zr L3 [b3] zr (aF (rK N (i0:=0) j zr b4) ?_)
 rintro _ w ⟨rfl,j⟩
 refine aK (vi ba) (RL.ns (mv (vi ba) (ic ba 0 (RL.nt (eI hb (fun hc hb=>?_) fun hc hb=>?_)))))
 ·refine RC.sr (mv (vi ba) (aK (.pointer none) (aK (vi ba) (RL.nt (RC.rt ?_)))))
  obtain rfl:=oi hb
  exact j9 ⟨rfl,j.drop 5⟩
 refine RC.ss (RC.sr (RL.bB zr mT (RL.aQ 3 j zr rp vY fun ar j=>(RL.bC 0 p0.aW j xV (mv (vi 0) (RL.nt ?_))))))
 obtain⟨c5,hN,hb⟩:=bd hb
 refine RC.range (fun(av:Nat) (bl:Unit)=>SH E V [(1,vp al 0),(63,ar),(64,vi p0.aW.length),(65,vi av)] [bx 27 al p0,rd ar p0.aW]) (fun(bl:Unit)=>SH E V [(1,vp al 0)] [bx 27 al p0,rd ar p0.aW]) (pA E V) hN ?_ ?_ ?_ ?_ ?_
 ·exact j.sp 6 [4,0]
 ·rintro hm bl _ w ⟨O,rfl,j⟩
  refine RC.sr (ic ((p0.aW.length:Int)) ((p0.aW.length:Int)) (RL.nq (RC.cH lD (RC.ex ?_))))
  exact⟨rfl,j.sp 2 [0,1]⟩
 ·rintro hm av bl fl _ w hk ⟨O,rfl,j⟩ hb
  refine RC.sr (ic ((av:Int)) ((p0.aW.length:Int)) (RL.nq (RC.cG (lC hk) (RC.ss (RC.bs (mv (vi av) ?_))))))
  obtain⟨eJ,b5,hb⟩:=bd hb
  refine RL.bW 1 j Au b5 fun c6 j=>(RL.bL 0 eJ j lx fun c7 j=>(RL.alloc j zD.z fun ak w j=>?_))
  refine aK (vi av) (RL.bA 0 j 1 zr lx fun w j=>?_)
  refine RL.ns (RL.bB zr mT (RL.aQ 3 j zr rp vY fun c8 j=>(mv (vi av) ?_)))
  obtain⟨au,b6,hb⟩:=bd hb
  refine RL.cut (hl:= .inr ⟨rfl,zr⟩) 0 j Au (.inl zr) b6 fun a0 j=>(RL.bC 0 au j xV (mv (vi 0) (RL.nt ?_)))
  obtain⟨c9,hN,hb⟩:=bd hb
  refine RC.range (fun(a3:Nat) (bm:Unit)=>SH E V [(1,vp al 0),(12,vp ak 0),(63,ar),(64,vi p0.aW.length),(65,vi av),(73,a0),(74,vi au.length),(75,vi a3)] [bx 27 al p0,bx 117 ak eJ,rd ar p0.aW,rd a0 au]) (fun(bm:Unit)=>SH E V [(1,vp al 0),(63,ar),(64,vi p0.aW.length),(65,vi av)] [bx 27 al p0,bx 117 ak eJ,rd ar p0.aW,rd a0 au]) (pA E V) hN ?_ ?_ ?_ ?_ ?_
  ·exact j.sp 7 [5,2,6,0]
  ·rintro hm bm _ w ⟨O,rfl,j⟩
   refine RC.sr (ic ((au.length:Int)) ((au.length:Int)) (RL.nq (RC.cH lD (RC.ex ?_))))
   exact⟨rfl,j.sp 4 [0,1,2,3]⟩
  ·rintro hm a3 bm fl _ w hk ⟨O,rfl,j⟩ hb
   refine RC.sr (ic ((a3:Int)) ((au.length:Int)) (RL.nq (RC.cG (lC hk) (RC.ss (RC.bs ?_)))))
   obtain⟨aa,b7,hb⟩:=bd hb
   refine RL.bW 3 j Au b7 fun br j=>(RL.bL 0 aa j lx fun bt j=>(RL.alloc j zD.z fun aq w j=>?_))
   refine RL.bA 0 j 1 zr lx fun w j=>?_
   refine RL.nq ?_
   obtain⟨bo,hj,hb⟩:=bd hb
   refine RC.jn (fun(bo:Bool)=>SH E V [(1,vp al 0),(12,vp ak 0),(63,ar),(64,vi p0.aW.length),(65,vi av),(73,a0),(74,vi au.length),(75,vi a3),(98,vb bo)] [bx 27 al p0,bx 117 ak eJ,rd ar p0.aW,rd a0 au]) bo ?_ ?_
   ·refine fU hj (fun ao hj=>?_) fun ao hj=>?_
    rotate_left
    ·refine RC.Ew E V mixed [1,0,1,0,1,1,0,0,0,0,0,0,1,1,1,1,1,1,1,1] [] (fun(x:Unit)=>[(0,79,(vp ak 3)),(1,80,(vi eJ.bU)),(2,81,(vp aq 4)),(3,82,(vi aa.To)),(4,83,(vb (decide (eJ.bU<=aa.To)))),(5,84,(vb (decide (eJ.bU<=aa.To)))),(6,85,(cv (true&&((decide (eJ.bU<=aa.To))==true)) (vp aq 3))),(7,86,(cv (true&&((decide (eJ.bU<=aa.To))==true)) (vi aa.bU))),(8,87,(cv (true&&((decide (eJ.bU<=aa.To))==true)) (vp ak 4))),(9,88,(cv (true&&((decide (eJ.bU<=aa.To))==true)) (vi eJ.To))),(10,89,(cv (true&&((decide (eJ.bU<=aa.To))==true)) (vb (decide (aa.bU<=eJ.To))))),(11,90,(vb ((decide (eJ.bU<=aa.To))&&(decide (aa.bU<=eJ.To))))),(12,91,(vb ((decide (eJ.bU<=aa.To))&&(decide (aa.bU<=eJ.To))))),(13,92,undef),(14,93,undef),(15,94,undef),(16,95,undef),(17,96,undef),(18,97,undef),(19,98,(vb false))]) [(1,vp al 0),(12,vp ak 0),(14,vp aq 0),(63,ar),(64,vi p0.aW.length),(65,vi av),(73,a0),(74,vi au.length),(75,vi a3)] [] (fun(D:Nat->Bool) (x:Unit)=>[bx 117 aq aa,rd bt aa,pt br aa,bx 27 al p0,bx 117 ak eJ,rd ar p0.aW,rd a0 au]) (fun x=>by kernel_rfl) ?_ ⟨fun _=>mN gn qw,?_,fun _=>mN gn sE,?_,fun _=>Jd gn rfl,fun _=>jt gn,?_,?_,?_,?_,?_,?_,fun _=>jt gn,fun _=>Ex ao,fun _=>Ex ao,fun _=>Ex ao,fun _=>Ex ao,fun _=>Ex ao,fun _=>Ex ao,fun _=>LQ gn ao rfl,trivial⟩ ?_
     ·have j:=j.drew
      exact⟨(),dX.none,(CX zr),zt,j⟩
     ·rintro D U w hD ad aj ⟨_,o,ha,_,j⟩
      obtain⟨O,rfl⟩:=(ac (o.at 0 rfl (ad.1 rfl)) az).eV
      refine RL.aM 4 j zr mO cN ?_
      exact RL.nil ⟨rfl,(),o.pu 1,ha.u,zt,j⟩
     ·rintro D U w hD ad aj ⟨_,o,ha,_,j⟩
      obtain⟨O,rfl⟩:=(ac (o.at 2 rfl (ad.1 rfl)) az).eV
      refine RL.aM 0 j zr n0 cN ?_
      exact RL.nil ⟨rfl,(),o.pu 3,ha.u,zt,j⟩
     ·rintro D U w hD ad aj ⟨_,o,ha,_,j⟩
      obtain⟨O,rfl⟩:=(ac (o.at 5 rfl (ad.1 rfl)) (ac (ha.at 2 rfl) az)).eV
      refine RL.gs true (decide (eJ.bU<=aa.To)) (vp aq 3) zr zr zr (dP qw) ?_
      exact RL.nil ⟨rfl,(),o.pu 6,ha.u,zt,j⟩
     ·rintro D U w hD ad aj ⟨_,o,ha,_,j⟩
      obtain⟨O,rfl⟩:=(ac (o.at 5 rfl (ad.2.1 rfl)) (ac (o.at 6 rfl (ad.1 rfl)) az)).eV
      refine RL.gs true (decide (eJ.bU<=aa.To)) (vi aa.bU) rfl rfl rfl (bX 0 rfl j (fun h=>by exact(cV h:cv (true&&((decide (eJ.bU<=aa.To))==true)) (vp aq 3)= (vp aq 3))) rfl mO cN) ?_
      exact RL.nil ⟨rfl,(),o.pu 7,ha.u,zt,j⟩
     ·rintro D U w hD ad aj ⟨_,o,ha,_,j⟩
      obtain⟨O,rfl⟩:=(ac (o.at 5 rfl (ad.1 rfl)) (ac (ha.at 1 rfl) az)).eV
      refine RL.gs true (decide (eJ.bU<=aa.To)) (vp ak 4) zr zr zr (dP sE) ?_
      exact RL.nil ⟨rfl,(),o.pu 8,ha.u,zt,j⟩
     ·rintro D U w hD ad aj ⟨_,o,ha,_,j⟩
      obtain⟨O,rfl⟩:=(ac (o.at 5 rfl (ad.2.1 rfl)) (ac (o.at 8 rfl (ad.1 rfl)) az)).eV
      refine RL.gs true (decide (eJ.bU<=aa.To)) (vi eJ.To) rfl rfl rfl (bX 4 rfl j (fun h=>by exact(cV h:cv (true&&((decide (eJ.bU<=aa.To))==true)) (vp ak 4)= (vp ak 4))) rfl n0 cN) ?_
      exact RL.nil ⟨rfl,(),o.pu 9,ha.u,zt,j⟩
     ·rintro D U w hD ad aj ⟨_,o,ha,_,j⟩
      obtain⟨O,rfl⟩:=(ac (o.at 5 rfl (ad.2.2.1 rfl)) (ac (o.at 7 rfl (ad.1 rfl)) (ac (o.at 9 rfl (ad.2.1 rfl)) az))).eV
      refine RL.gs true (decide (eJ.bU<=aa.To)) (vb (decide (aa.bU<=eJ.To))) rfl rfl rfl (dZ .leq .i64 aa.bU eJ.To rfl (fun h=>by exact(cV h:cv (true&&((decide (eJ.bU<=aa.To))==true)) (vi aa.bU)= (vi aa.bU))) (fun h=>by exact(cV h:cv (true&&((decide (eJ.bU<=aa.To))==true)) (vi eJ.To)= (vi eJ.To))) rfl) ?_
      exact RL.nil ⟨rfl,(),o.pu 10,ha.u,zt,j⟩
     ·rintro D U w hD ad aj ⟨_,o,ha,_,j⟩
      obtain⟨O,rfl⟩:=(ac (o.at 5 rfl (ad.1 rfl)) (ac (o.at 10 rfl (ad.2.1 rfl)) az)).eV
      refine RL.pick (decide (eJ.bU<=aa.To)) (vb ((decide (eJ.bU<=aa.To))&&(decide (aa.bU<=eJ.To)))) (iL true) ?_
      exact RL.nil ⟨rfl,(),o.pu 11,ha.u,zt,j⟩
     rintro D U w a4 ⟨_,o,ha,_,j⟩
     obtain⟨O,rfl⟩:=(ac (o.at 19 rfl (jC a4 19)) (ac (ha.at 0 rfl) (ac (ha.at 1 rfl) (ac (ha.at 2 rfl) (ac (ha.at 3 rfl) (ac (ha.at 4 rfl) (ac (ha.at 5 rfl) (ac (ha.at 6 rfl) (ac (ha.at 7 rfl) (ac (ha.at 8 rfl) az)))))))))).eV
     obtain rfl:=oi hj
     exact⟨rfl,j.sp 7 [3,4,5,6]⟩
    obtain⟨b8,b9,hj⟩:=bd hj
    obtain⟨ca,cb,hj⟩:=bd hj
    obtain⟨bp,cc,hj⟩:=bd hj
    refine RC.Ew E V mixed [1,0,1,0,1,1,0,0,0,0,0,0,1,0,0,0,0,0,1,1] [13,14,15,16] (fun(x:Value×Value×Value×Value)=>(fun ae af ag ah=>[(0,79,(vp ak 3)),(1,80,(vi eJ.bU)),(2,81,(vp aq 4)),(3,82,(vi aa.To)),(4,83,(vb (decide (eJ.bU<=aa.To)))),(5,84,(vb (decide (eJ.bU<=aa.To)))),(6,85,(cv (true&&((decide (eJ.bU<=aa.To))==true)) (vp aq 3))),(7,86,(cv (true&&((decide (eJ.bU<=aa.To))==true)) (vi aa.bU))),(8,87,(cv (true&&((decide (eJ.bU<=aa.To))==true)) (vp ak 4))),(9,88,(cv (true&&((decide (eJ.bU<=aa.To))==true)) (vi eJ.To))),(10,89,(cv (true&&((decide (eJ.bU<=aa.To))==true)) (vb (decide (aa.bU<=eJ.To))))),(11,90,(vb ((decide (eJ.bU<=aa.To))&&(decide (aa.bU<=eJ.To))))),(12,91,(vb ((decide (eJ.bU<=aa.To))&&(decide (aa.bU<=eJ.To))))),(13,92,ae),(14,93,af),(15,94,ag),(16,95,ah),(17,96,(vi bp)),(18,97,(vb (bp==0))),(19,98,(vb (bp==0)))]) x.1 x.2.1 x.2.2.1 x.2.2.2) [(1,vp al 0),(12,vp ak 0),(14,vp aq 0),(63,ar),(64,vi p0.aW.length),(65,vi av),(73,a0),(74,vi au.length),(75,vi a3)] [] (fun(D:Nat->Bool) (x:Value×Value×Value×Value)=>(fun ae af ag ah=>[bif D 0 then (rd ae eJ) else aZ,bif D 1 then (rd af b8) else aZ,bif D 2 then (rd ag aa) else aZ,bif D 3 then (rd ah ca) else aZ,bx 117 aq aa,rd bt aa,pt br aa,bx 27 al p0,bx 117 ak eJ,rd ar p0.aW,rd a0 au]) x.1 x.2.1 x.2.2.1 x.2.2.2) (fun x=>by kernel_rfl) ?_ ⟨fun _=>mN gn qw,?_,fun _=>mN gn sE,?_,fun _=>Jd gn rfl,fun _=>jt gn,?_,?_,?_,?_,?_,?_,fun _=>jt gn,?_,?_,?_,?_,?_,fun _=>Jd (gy ao rfl) rfl,fun _=>LP gn ao rfl,trivial⟩ ?_
    ·have j:=((((j.drew).aZ).aZ).aZ).aZ
     exact⟨(undef,undef,undef,undef),dX.none,(CX zr),zt,j⟩
    ·rintro D U w hD ad aj ⟨⟨ae,af,ag,ah⟩,o,ha,_,j⟩
     obtain⟨O,rfl⟩:=(ac (o.at 0 rfl (ad.1 rfl)) az).eV
     refine RL.aM 8 j zr mO cN ?_
     exact RL.nil ⟨rfl,(ae,af,ag,ah),o.pu 1,ha.u,zt,j⟩
    ·rintro D U w hD ad aj ⟨⟨ae,af,ag,ah⟩,o,ha,_,j⟩
     obtain⟨O,rfl⟩:=(ac (o.at 2 rfl (ad.1 rfl)) az).eV
     refine RL.aM 4 j zr n0 cN ?_
     exact RL.nil ⟨rfl,(ae,af,ag,ah),o.pu 3,ha.u,zt,j⟩
    ·rintro D U w hD ad aj ⟨⟨ae,af,ag,ah⟩,o,ha,_,j⟩
     obtain⟨O,rfl⟩:=(ac (o.at 5 rfl (ad.1 rfl)) (ac (ha.at 2 rfl) az)).eV
     refine RL.gs true (decide (eJ.bU<=aa.To)) (vp aq 3) zr zr zr (dP qw) ?_
     exact RL.nil ⟨rfl,(ae,af,ag,ah),o.pu 6,ha.u,zt,j⟩
    ·rintro D U w hD ad aj ⟨⟨ae,af,ag,ah⟩,o,ha,_,j⟩
     obtain⟨O,rfl⟩:=(ac (o.at 5 rfl (ad.2.1 rfl)) (ac (o.at 6 rfl (ad.1 rfl)) az)).eV
     refine RL.gs true (decide (eJ.bU<=aa.To)) (vi aa.bU) rfl rfl rfl (bX 4 rfl j (fun h=>by exact(cV h:cv (true&&((decide (eJ.bU<=aa.To))==true)) (vp aq 3)= (vp aq 3))) rfl mO cN) ?_
     exact RL.nil ⟨rfl,(ae,af,ag,ah),o.pu 7,ha.u,zt,j⟩
    ·rintro D U w hD ad aj ⟨⟨ae,af,ag,ah⟩,o,ha,_,j⟩
     obtain⟨O,rfl⟩:=(ac (o.at 5 rfl (ad.1 rfl)) (ac (ha.at 1 rfl) az)).eV
     refine RL.gs true (decide (eJ.bU<=aa.To)) (vp ak 4) zr zr zr (dP sE) ?_
     exact RL.nil ⟨rfl,(ae,af,ag,ah),o.pu 8,ha.u,zt,j⟩
    ·rintro D U w hD ad aj ⟨⟨ae,af,ag,ah⟩,o,ha,_,j⟩
     obtain⟨O,rfl⟩:=(ac (o.at 5 rfl (ad.2.1 rfl)) (ac (o.at 8 rfl (ad.1 rfl)) az)).eV
     refine RL.gs true (decide (eJ.bU<=aa.To)) (vi eJ.To) rfl rfl rfl (bX 8 rfl j (fun h=>by exact(cV h:cv (true&&((decide (eJ.bU<=aa.To))==true)) (vp ak 4)= (vp ak 4))) rfl n0 cN) ?_
     exact RL.nil ⟨rfl,(ae,af,ag,ah),o.pu 9,ha.u,zt,j⟩
    ·rintro D U w hD ad aj ⟨⟨ae,af,ag,ah⟩,o,ha,_,j⟩
     obtain⟨O,rfl⟩:=(ac (o.at 5 rfl (ad.2.2.1 rfl)) (ac (o.at 7 rfl (ad.1 rfl)) (ac (o.at 9 rfl (ad.2.1 rfl)) az))).eV
     refine RL.gs true (decide (eJ.bU<=aa.To)) (vb (decide (aa.bU<=eJ.To))) rfl rfl rfl (dZ .leq .i64 aa.bU eJ.To rfl (fun h=>by exact(cV h:cv (true&&((decide (eJ.bU<=aa.To))==true)) (vi aa.bU)= (vi aa.bU))) (fun h=>by exact(cV h:cv (true&&((decide (eJ.bU<=aa.To))==true)) (vi eJ.To)= (vi eJ.To))) rfl) ?_
     exact RL.nil ⟨rfl,(ae,af,ag,ah),o.pu 10,ha.u,zt,j⟩
    ·rintro D U w hD ad aj ⟨⟨ae,af,ag,ah⟩,o,ha,_,j⟩
     obtain⟨O,rfl⟩:=(ac (o.at 5 rfl (ad.1 rfl)) (ac (o.at 10 rfl (ad.2.1 rfl)) az)).eV
     refine RL.pick (decide (eJ.bU<=aa.To)) (vb ((decide (eJ.bU<=aa.To))&&(decide (aa.bU<=eJ.To)))) (iL true) ?_
     exact RL.nil ⟨rfl,(ae,af,ag,ah),o.pu 11,ha.u,zt,j⟩
    ·rintro D U w hD ad aj ⟨⟨ae,af,ag,ah⟩,o,ha,_,j⟩
     obtain⟨O,rfl⟩:=(ac (o.at 12 rfl (ad.1 rfl)) (ac (ha.at 1 rfl) az)).eV
     have j:=j.cA 0 hD
     refine RL.aQ (hg:=(cg ao)) (f:=(fun x=>x)) 8 j zr Fd.self lx fun cd j=>?_
     have j:=(j.pl 12 [0,2,3,4,5,6,7,8,9,10,11]).cL 0 true aZ
     exact RL.nil ⟨rfl,(cd,af,ag,ah),o.pu 13,ha.u,zt,j⟩
    ·rintro D U w hD ad aj ⟨⟨ae,af,ag,ah⟩,o,ha,_,j⟩
     obtain⟨O,rfl⟩:=(ac (o.at 12 rfl (ad.2.1 rfl)) (ac (o.at 13 rfl (ad.1 rfl)) az)).eV
     have j:=(j.cK 0 (ad.1 rfl)).cA 1 hD
     refine RL.call (cg ao) zr EJ [ae] zr (aF (gN N (i0:=0) j zr b9) ?_)
     rintro cf w j
     have j:=((j.pl 12 [1,0,3,4,5,6,7,8,9,10,11]).cL (hb:=ad.1 rfl) 0 (D 13) aZ).cL 1 true aZ
     exact RL.nil ⟨rfl,(ae,cf,ag,ah),o.pu 14,ha.u,zt,j⟩
    ·rintro D U w hD ad aj ⟨⟨ae,af,ag,ah⟩,o,ha,_,j⟩
     obtain⟨O,rfl⟩:=(ac (o.at 12 rfl (ad.1 rfl)) (ac (ha.at 2 rfl) az)).eV
     have j:=j.cA 2 hD
     refine RL.aQ (hg:=(cg ao)) (f:=(fun x=>x)) 4 j zr Fd.self lx fun ch j=>?_
     have j:=(j.pl 12 [1,2,0,4,5,6,7,8,9,10,11]).cL 2 true aZ
     exact RL.nil ⟨rfl,(ae,af,ch,ah),o.pu 15,ha.u,zt,j⟩
    ·rintro D U w hD ad aj ⟨⟨ae,af,ag,ah⟩,o,ha,_,j⟩
     obtain⟨O,rfl⟩:=(ac (o.at 12 rfl (ad.2.2.1 rfl)) (ac (o.at 15 rfl (ad.1 rfl)) az)).eV
     have j:=(j.cK 2 (ad.1 rfl)).cA 3 hD
     refine RL.call (cg ao) zr EJ [ag] zr (aF (gN N (i0:=2) j zr cb) ?_)
     rintro cj w j
     have j:=((j.pl 12 [1,2,3,0,5,6,7,8,9,10,11]).cL (hb:=ad.1 rfl) 2 (D 15) aZ).cL 3 true aZ
     exact RL.nil ⟨rfl,(ae,af,ag,cj),o.pu 16,ha.u,zt,j⟩
    ·rintro D U w hD ad aj ⟨⟨ae,af,ag,ah⟩,o,ha,_,j⟩
     obtain⟨O,rfl⟩:=(ac (o.at 12 rfl (ad.2.2.2.1 rfl)) (ac (o.at 14 rfl (ad.1 rfl)) (ac (o.at 16 rfl (ad.2.1 rfl)) az))).eV
     have j:=(j.cK 1 (ad.1 rfl)).cK 3 (ad.2.1 rfl)
     refine RL.call (cg ao) zr HL [af,ah] zr (aF (nU N (i0:=1) (i1:=3) j zr zr cc) ?_)
     rintro _ w ⟨rfl,j⟩
     have j:=(j.cL (hb:=ad.1 rfl) 1 (D 14) aZ).cL (hb:=ad.2.1 rfl) 3 (D 16) aZ
     exact RL.nil ⟨rfl,(ae,af,ag,ah),o.pu 17,ha.u,zt,j⟩
    rintro D U w a4 ⟨⟨ae,af,ag,ah⟩,o,ha,_,j⟩
    have j:=(((j.cK 0 (jC a4 13)).cK 1 (jC a4 14)).cK 2 (jC a4 15)).cK 3 (jC a4 16)
    obtain⟨O,rfl⟩:=(ac (o.at 19 rfl (jC a4 19)) (ac (ha.at 0 rfl) (ac (ha.at 1 rfl) (ac (ha.at 2 rfl) (ac (ha.at 3 rfl) (ac (ha.at 4 rfl) (ac (ha.at 5 rfl) (ac (ha.at 6 rfl) (ac (ha.at 7 rfl) (ac (ha.at 8 rfl) az)))))))))).eV
    obtain rfl:=oi hj
    exact⟨rfl,j.sp 11 [7,8,9,10]⟩
   rintro _ w ⟨O,rfl,j⟩
   refine aG (eI hb (fun hc hb=>?_) fun hc hb=>?_)
   rotate_left
   ·refine RC.skip (bI (aG (RC.region (RL.inc hk hm (mv (vi ((a3+1:Nat):Int)) (RL.nil ?_))))))
    obtain rfl:=oi hb
    exact⟨rfl,j.sp 4 [0,1,2,3]⟩
   refine RC.sr (aK (.pointer none) (aK (vi 12) (RL.nt (RC.rb (bM ?_)))))
   obtain rfl:=oi hb
   exact⟨rfl,j9 ⟨rfl,j.drop 4⟩⟩
  ·intro r U w e hK
   subst e
   refine jS (bM ?_)
   obtain rfl:=oi hb
   exact⟨rfl,hK⟩
  rintro bm _ w rfl ⟨O,rfl,j⟩
  rw [Fo.fB] at hb
  refine bI (aG (RC.region (RL.inc hk hm (mv (vi ((av+1:Nat):Int)) (RL.nil ?_)))))
  obtain rfl:=oi hb
  exact⟨rfl,j.sp 4 [0,2]⟩
 ·intro r U w e hK
  subst e
  refine bM ?_
  obtain rfl:=oi hb
  exact hK
 rintro bl _ w rfl ⟨O,rfl,j⟩
 rw [Fo.fB] at hb
 refine aG (RC.sr (RL.aQ (f:=(fun x=>x)) 0 j zr Fd.self oN fun ck j=>?_))
 obtain⟨cs,hcs,hv224,j⟩:=j.HE (i:=0) rfl rfl
 obtain⟨bb,bc,bf,bg,rfl⟩:=LL hcs
 have j:=(((j.iF (i:=0) (k:=0) (f:=fun x=>x.aL) rfl pN rfl rfl rfl).iF (i:=1) (k:=1) (f:=fun x=>x.dL) rfl xO rfl rfl rfl).iF (i:=2) (k:=2) (f:=fun x=>x.aW) rfl rp rfl rfl rfl).iF (i:=3) (k:=3) (f:=fun x=>x.bJ) rfl rq rfl rfl rfl
 refine RL.I9 (zs:=[(.slice none 0 0),(.slice none 0 0),(.slice none 0 0),(.slice none 0 0),(.slice none 0 0),(.slice none 0 0),(.slice none 0 0),(.slice none 0 0),(.slice none 0 0),(.slice none 0 0),(.slice none 0 0),(.slice none 0 0)]) (cs:=[bb,bc,bf,bg,(.slice none 0 0),(.slice none 0 0),(.slice none 0 0),(.slice none 0 0),(.slice none 0 0),(.slice none 0 0),(.slice none 0 0),(.slice none 0 0)]) zt zr [(0,ck)] [(0,[bb,bc,bf,bg])] zr Kt ⟨rfl,(congrArg Value.cells hv224),zt⟩ zr (RL.DK (cs:=[bb,bc,bf,bg,(.slice none 0 0),(.slice none 0 0),(.slice none 0 0),(.slice none 0 0),(.slice none 0 0),(.slice none 0 0),(.slice none 0 0),(.slice none 0 0)]) zt zr j zr (Bw.all (⟨(xk 3 j zr),(xk 2 j zr),(xk 1 j zr),(xk 0 j zr),zr,zr,zr,zr,zr,zr,zr,zr,zt⟩:Bw [bb,bc,bf,bg,(.slice none 0 0),(.slice none 0 0),(.slice none 0 0),(.slice none 0 0),(.slice none 0 0),(.slice none 0 0),(.slice none 0 0),(.slice none 0 0)])) fun ay w j=>?_)
 refine aK (vp ay 0) (RL.nq (RC.sr (mv (vp ay 0) ?_)))
 have j:=((((((j.cT (List aA) 132).cT aH 134).pull 0).pull 2).dup 6 rfl).dup 9 rfl).pull 6
 obtain⟨cl,cm,hb⟩:=bd hb
 refine RL.call zt zr L8 [(vp ay 0)] zr (aF (qV N j cm) ?_)
 rintro _ w ⟨cn,cp,rfl,j⟩
 refine RL.not cl.1 (RL.nt (eI hb (fun hc hb=>?_) fun hc hb=>?_))
 ·refine RC.sr (aK (.pointer none) (aK (vi 2) (RL.nt (RC.rt ?_))))
  obtain rfl:=oi hb
  exact j9 ⟨rfl,j.drop 14⟩
 refine RC.sx (mv (vp ay 0) ?_)
 have j:=(((((j.freeze 2).cT (List Int) 87).pull 0).dup 4 rfl).dup 10 rfl).pull 4
 obtain⟨da,cq,hb⟩:=bd hb
 refine RL.call zt zr Mb [(vp ay 0)] zr (aF (qW N j cq) ?_)
 rintro _ w ⟨cr,rfl,j⟩
 refine RL.ns (mv (vp ay 0) ?_)
 have j:=((((((((((((j.freeze 1).cT Int 3).cT Int 3).cT Int 3).cT dU 41).pull 0).pull 2).pull 4).pull 6).dup 9 rfl).dup 14 rfl).dup 19 rfl).dup 21 rfl
 have j:=j.pull 12
 obtain⟨db,ct,hb⟩:=bd hb
 refine RL.call zt zr Mf [(vp ay 0)] zr (aF (ni N j ct) ?_)
 rintro _ w ⟨cu,cw,cx,cy,cz,rfl,j⟩
 refine RL.ns (mv (vp ay 0) (aK (vp ay 0) (aK (vi 0) (RL.nt (RC.ret ?_)))))
 obtain rfl:=oi hb
 exact j9 ⟨ay,bb,bc,bf,bg,cn,cp,cr,cu,cw,cx,cy,cz,zr,j.pk 27 [0,22,21,20,19,14,15,11,1,2,3,4,5]⟩
theorem nB {res:Bool} (o:Holds E w V) (j:k9 N p0 p1 p2=some res):
    Calls bE 41 [(vi p0),(vi p1),(vi p2)].toArray w (gF (aY E V res)):=by
 unfold k9 at j
 refine enter Tryz.func41 zr zr (RC.sr (aK (vb false) (RL.ns (mv (vi p0) (mv (vi p1) (ic p0 p1 (mv (vb (decide (p0>=p1))) (RL.gs true (decide (p0>=p1)) (vi p0) zr zr zr dT ?_))))))))
 refine RL.gs true (decide (p0>=p1)) (vi p2) rfl rfl rfl dT (RL.gs true (decide (p0>=p1)) (vb (decide (p0<=p2))) rfl rfl rfl (dZ .leq .i64 p0 p2 rfl (fun h=>by exact(cV h:cv (true&&((decide (p0>=p1))==true)) (vi p0)= (vi p0))) (fun h=>by exact(cV h:cv (true&&((decide (p0>=p1))==true)) (vi p2)= (vi p2))) rfl) (RL.pick (decide (p0>=p1)) (vb ((decide (p0>=p1))&&(decide (p0<=p2)))) (iL true) (aK (vb ((decide (p0>=p1))&&(decide (p0<=p2)))) (RL.nt (RC.ret ?_)))))
 obtain rfl:=oi j
 exact cF ⟨rfl,o.drop 0⟩
def vf (E:World) (V:List HP) (b2 b3 b2h:Nat) (v2h_0 v2h_1:Value) (v2h_2 v2h_3:Value) (v2h_4 v2h_5:Value) (v2h_6 v2h_7:Value) (v2h_8 v2h_9:Value) (v2h_10 v2h_11:Value) (res: (List bQ)) (v:Value) (w:World):Prop:=∃u3_0:Value,v = .tuple #[]/\Holds E w ([bc 68 b2 [(vp b2h 0)],bc 29 b3 [u3_0],own 43 u3_0 res,bc 126 b2h [v2h_0,v2h_1,v2h_2,v2h_3,v2h_4,v2h_5,v2h_6,v2h_7,v2h_8,v2h_9,v2h_10,v2h_11]]++V)
theorem oE {p0:dU} {p3_0: (List bQ)} {p2h_7: (List cI)} {res: (List bQ)} (j:Holds E w (bc 68 b2 [(vp b2h 0)]::bc 29 b3 [v3_0]::own 43 v3_0 p3_0::bc 126 b2h [v2h_0,v2h_1,v2h_2,v2h_3,v2h_4,v2h_5,v2h_6,v2h_7,v2h_8,v2h_9,v2h_10,v2h_11]::rd v2h_7 p2h_7::V)) (h0:V[i0]? =some (rd v0 p0)) (hb:gE N p0 p1 p3_0 p2h_7=some res):
    Calls bE 54 [v0,(vi p1),(vp b2 0),(vp b3 0)].toArray w (gF (vf E V b2 b3 b2h v2h_0 v2h_1 v2h_2 v2h_3 v2h_4 v2h_5 v2h_6 v2h_7 v2h_8 v2h_9 v2h_10 v2h_11 res)):=by
 unfold gE at hb
 refine enter Tryz.func54 zr zr ?_
 have j:=j.dup (i0+5) h0
 refine RC.sr (RL.dB 0 v0 j zr fun ah w j=>?_)
 refine RL.nq ?_
 obtain⟨af,hj,hb⟩:=bd hb
 refine RC.jn (fun(af:Bool)=>SH E V [(2,vp b2 0),(3,vp b3 0),(4,vp ah 0),(19,vb af)] [bc 68 b2 [(vp b2h 0)],bc 126 b2h [v2h_0,v2h_1,v2h_2,v2h_3,v2h_4,v2h_5,v2h_6,v2h_7,v2h_8,v2h_9,v2h_10,v2h_11],rd v2h_7 p2h_7,bc 29 b3 [v3_0],own 43 v3_0 p3_0,bx 41 ah p0]) af ?_ ?_
 ·refine RC.region (mv (vi p1) (ic p1 0 (mv (vb (decide (p1>=0))) (fU hj (fun o hj=>?_) fun o hj=>?_))))
  rotate_left
  ·refine bN o (bN o (bN o (bN o (bN o (bN o (bN o (bN o (bN o ?_))))))))
   refine bN o (fP o (vb false) (RL.nil ?_))
   obtain rfl:=oi hj
   exact⟨rfl,j.sp 7 [2,5,6,3,4,0]⟩
  refine RL.aX (hg:=(cg o)) 2 (vp b2h 0) j w6 (RL.nilCheck (hg:=(cg o)) zr (RL.bB (hg:=(cg o)) zr qx (RL.aX (hg:=(cg o)) 5 v2h_7 j xY (RL.move (vi p1) (cg o) ?_))))
  obtain⟨ad,aj,hj⟩:=bd hj
  refine RL.bW (hg:=(cg o)) 6 j DX aj fun aq j=>(RL.iu (hg:=(cg o)) 0 j zr Az C0 fun ar j=>(RL.bL (hg:=(cg o)) 0 ad.gV j Ga fun au j=>(RL.bC (hg:=(cg o)) 0 ad.gV j KO (RL.jO (ad.gV.length:Int) 1 (cg o) (fP o (vb (decide ((ad.gV.length:Int)>1))) (RL.nil ?_))))))
  obtain rfl:=oi hj
  exact⟨rfl,j.sp 10 [5,8,9,6,7,3]⟩
 rintro _ w ⟨O,rfl,j⟩
 refine aG ?_
 obtain⟨ag,hj,hb⟩:=bd hb
 refine RC.jn (fun(ag: (List bQ)) U w=>∃ae:Value,SH E V [(2,vp b2 0),(3,vp b3 0)] [bc 68 b2 [(vp b2h 0)],bc 126 b2h [v2h_0,v2h_1,v2h_2,v2h_3,v2h_4,v2h_5,v2h_6,v2h_7,v2h_8,v2h_9,v2h_10,v2h_11],rd v2h_7 p2h_7,bc 29 b3 [ae],own 43 ae ag] U w) ag ?_ ?_
 ·refine eI hj (fun hc hj=>?_) fun hc hj=>?_
  rotate_left
  ·refine RC.skip ?_
   obtain rfl:=oi hj
   exact⟨rfl,v3_0,j.sp 6 [0,1,2,3,4]⟩
  refine RC.region (RL.aX 3 v3_0 j EP (RL.aQ (f:=(fun x=>x)) 5 j zr Fd.self rB fun al j=>?_))
  have j:=j.sc Bool true
  refine RL.build (⟨true,p0,0,0⟩:bQ) trivial rfl j [(0,vb true),(1,al)] rfl KP rfl (fun M hs g=>by have h:=C1 M;exact cO.cons (f:=fun(x:bQ) y=>{x with Open:=y}) h EC (g.sat 0 _ rfl).1 fun _ h=>cO.cons (f:=fun(x:bQ) y=>{x with dU:=y}) h ED (g.sat 1 _ rfl).1 fun _ h=>cO.nil h) fun an j=>?_
  refine RL.eE ([(⟨true,p0,0,0⟩:bQ)]: (List bQ)) j [an] w7 B0 (fun M hs g=>⟨(g.sat 0 _ zr).1,zt⟩) fun av w j=>?_
  have j:=j.freeze 0
  obtain⟨aw,ao,hj⟩:=bd hj
  refine RL.app 8 0 j Jo ao fun ai w j=>?_
  refine RL.gU 7 ai j zr zr (iE 8 j) EP fun w j=>?_
  refine RL.nil ?_
  obtain rfl:=oi hj
  exact⟨rfl,ai,j.sp 10 [4,5,6,7,8]⟩
 rintro _ w ⟨ae,O,rfl,j⟩
 obtain rfl:=oi hb
 refine xz ?_
 exact Ep ⟨ae,zr,j.pk 5 [0,3,4,1]⟩
def AL (E:World) (V:List HP) (res:eN) (v:Value) (w:World):Prop:=Holds E w ([rd v res]++V)
theorem tu {p0 p1:aI} {res:eN} (j:Holds E w V) (h0:V[i0]? =some (rd v0 p0)) (h1:V[i1]? =some (rd v1 p1)) (o:oe N p0 p1 p2=some res):
    Calls bE 89 [v0,v1,(vi p2)].toArray w (gF (AL E V res)):=by
 unfold oe at o
 refine enter Tryz.func89 zr zr ?_
 have j:=(j.dup (i0+0) h0).dup (i1+1) h1
 refine RC.sr (RL.dB 1 v0 j zr fun aa w j=>?_)
 refine RL.dB 1 v1 j zr fun ab w j=>?_
 refine RL.alloc j Jp.z fun ad w j=>?_
 refine RL.ns (RL.bB zr jv (RL.aM 2 j zr eO cN (RL.bB zr jv (RL.aM 1 j zr eO cN (mv (vi p2) (RL.i6 p1.X0 p2 (RL.max p0.X0 (IntKind.wrap .i64 (p1.X0 - p2)) (RL.bB zr jY ?_))))))))
 refine RL.aM 2 j zr fy cN (RL.bB zr jY (RL.aM 1 j zr fy cN (mv (vi p2) (RL.i6 p1.Y0 p2 (RL.max p0.Y0 (IntKind.wrap .i64 (p1.Y0 - p2)) ?_)))))
 have j:=(j.sc Int (if p0.X0< (IntKind.wrap .i64 (p1.X0 - p2)) then (IntKind.wrap .i64 (p1.X0 - p2)) else p0.X0)).sc Int (if p0.Y0< (IntKind.wrap .i64 (p1.Y0 - p2)) then (IntKind.wrap .i64 (p1.Y0 - p2)) else p0.Y0)
 refine RL.build (⟨(if p0.X0< (IntKind.wrap .i64 (p1.X0 - p2)) then (IntKind.wrap .i64 (p1.X0 - p2)) else p0.X0),(if p0.Y0< (IntKind.wrap .i64 (p1.Y0 - p2)) then (IntKind.wrap .i64 (p1.Y0 - p2)) else p0.Y0)⟩:eN) trivial rfl j [(0,(vi (if p0.X0< (IntKind.wrap .i64 (p1.X0 - p2)) then (IntKind.wrap .i64 (p1.X0 - p2)) else p0.X0))),(1,(vi (if p0.Y0< (IntKind.wrap .i64 (p1.Y0 - p2)) then (IntKind.wrap .i64 (p1.Y0 - p2)) else p0.Y0)))] rfl Mh rfl (fun M hs g=>by have h:=xm M;exact cO.cons (f:=fun(x:eN) y=>{x with X:=y}) h CY (g.sat 1 _ rfl).1 fun _ h=>cO.cons (f:=fun(x:eN) y=>{x with Y:=y}) h CZ (g.sat 0 _ rfl).1 fun _ h=>cO.nil h) fun ae j=>?_
 refine RL.bA 3 j 0 zr sU fun w j=>?_
 refine RL.nt (RC.ret ?_)
 obtain rfl:=oi o
 exact FB 3 zr j zr zr sU fun af j=>(j.pk 9 [0])
theorem tv {p0 p1:eN} {res:Bool} (j:Holds E w V) (h0:V[i0]? =some (rd v0 p0)) (h1:V[i1]? =some (rd v1 p1)) (hb:og N p0 p1=some res):
    Calls bE 90 [v0,v1].toArray w (gF (aY E V res)):=by
 unfold og at hb
 refine enter Tryz.func90 zr zr ?_
 have j:=(j.dup (i0+0) h0).dup (i1+1) h1
 refine RC.sr (RL.dB 1 v0 j zr fun o w j=>?_)
 refine RL.dB 1 v1 j zr fun aa w j=>?_
 refine aK (vb false) (RL.ns (RL.bB zr po (RL.aM 1 j zr ju cN (RL.bB zr po (RL.aM 0 j zr ju cN (ic p0.Y p1.Y (mv (vb (decide (p0.Y<p1.Y))) (RL.gs true (decide (p0.Y<p1.Y)) (vp o 1) zr zr zr (dP po) ?_))))))))
 refine RL.gs true (decide (p0.Y<p1.Y)) (vi p0.Y) rfl rfl rfl (bX 1 rfl j (fun h=>by exact(cV h:cv (true&&((decide (p0.Y<p1.Y))==false)) (vp o 1)= (vp o 1))) rfl ju cN) (RL.gs true (decide (p0.Y<p1.Y)) (vp aa 1) rfl rfl rfl (dP po) (RL.gs true (decide (p0.Y<p1.Y)) (vi p1.Y) rfl rfl rfl (bX 0 rfl j (fun h=>by exact(cV h:cv (true&&((decide (p0.Y<p1.Y))==false)) (vp aa 1)= (vp aa 1))) rfl ju cN) (RL.gs true (decide (p0.Y<p1.Y)) (vb (p0.Y==p1.Y)) rfl rfl rfl (dZ .eql .i64 p0.Y p1.Y rfl (fun h=>by exact(cV h:cv (true&&((decide (p0.Y<p1.Y))==false)) (vi p0.Y)= (vi p0.Y))) (fun h=>by exact(cV h:cv (true&&((decide (p0.Y<p1.Y))==false)) (vi p1.Y)= (vi p1.Y))) rfl) (RL.gs true (decide (p0.Y<p1.Y)) (vb (p0.Y==p1.Y)) rfl rfl rfl (dT (hx:=fun h=>by exact(cV h:cv (true&&((decide (p0.Y<p1.Y))==false)) (vb (p0.Y==p1.Y))= (vb (p0.Y==p1.Y))))) (RL.gs (true&&((decide (p0.Y<p1.Y))==false)) (p0.Y==p1.Y) (vp o 0) rfl rfl rfl (dP rA) (RL.gs (true&&((decide (p0.Y<p1.Y))==false)) (p0.Y==p1.Y) (vi p0.X) rfl rfl rfl (bX 1 rfl j (fun h=>by exact(cV h:cv ((true&&((decide (p0.Y<p1.Y))==false))&&((p0.Y==p1.Y)==true)) (vp o 0)= (vp o 0))) rfl kL cN) (RL.gs (true&&((decide (p0.Y<p1.Y))==false)) (p0.Y==p1.Y) (vp aa 0) rfl rfl rfl (dP rA) (RL.gs (true&&((decide (p0.Y<p1.Y))==false)) (p0.Y==p1.Y) (vi p1.X) rfl rfl rfl (bX 0 rfl j (fun h=>by exact(cV h:cv ((true&&((decide (p0.Y<p1.Y))==false))&&((p0.Y==p1.Y)==true)) (vp aa 0)= (vp aa 0))) rfl kL cN) ?_))))))))
 refine RL.gs (true&&((decide (p0.Y<p1.Y))==false)) (p0.Y==p1.Y) (vb (decide (p0.X<p1.X))) rfl rfl rfl (dZ .lss .i64 p0.X p1.X rfl (fun h=>by exact(cV h:cv ((true&&((decide (p0.Y<p1.Y))==false))&&((p0.Y==p1.Y)==true)) (vi p0.X)= (vi p0.X))) (fun h=>by exact(cV h:cv ((true&&((decide (p0.Y<p1.Y))==false))&&((p0.Y==p1.Y)==true)) (vi p1.X)= (vi p1.X))) rfl) (RL.gs true (decide (p0.Y<p1.Y)) (vb ((p0.Y==p1.Y)&&(decide (p0.X<p1.X)))) rfl rfl rfl (oY (p0.Y==p1.Y) rfl (fun h=>by exact(cV h:cv (true&&((decide (p0.Y<p1.Y))==false)) (vb (p0.Y==p1.Y))= (vb (p0.Y==p1.Y)))) (fun h=>by exact iL (h:=h) (true&&((decide (p0.Y<p1.Y))==false)))) (RL.pick (decide (p0.Y<p1.Y)) (vb ((decide (p0.Y<p1.Y))||((p0.Y==p1.Y)&&(decide (p0.X<p1.X))))) (oX true rfl) (aK (vb ((decide (p0.Y<p1.Y))||((p0.Y==p1.Y)&&(decide (p0.X<p1.X))))) (RL.nt (RC.ret ?_)))))
 obtain rfl:=oi hb
 exact cF ⟨rfl,j.drop 4⟩
end Go.Gk
