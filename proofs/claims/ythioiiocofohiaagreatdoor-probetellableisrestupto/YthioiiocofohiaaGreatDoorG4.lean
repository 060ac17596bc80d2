/-
  Printed texts: Go functions as plain functions, and that they are. No statement of the seed is proved here.
-/
import Derived.Test.YthioiiocofohiaaGreatDoorG1
import Derived.Test.YthioiiocofohiaaGreatDoorG2
import Derived.Test.YthioiiocofohiaaGreatDoorG3
import Derived.Test.YthioiiocofohiaaGreatDoorA2
set_option linter.unusedVariables false
set_option linter.unusedSimpArgs false
set_option linter.unusedSectionVars false
set_option maxRecDepth 100000
set_option maxHeartbeats 4000000
namespace Go.Gk
open Go Go.Proofs
variable (N:Nat) {E w:World} {b0 b2 b2h b3 i0 i1:Nat} {p0 p1 p2:Int} {v0 v0_0 v0_1 v0_10 v0_11 v0_2 v0_3 v0_4 v0_5 v0_6 v0_8 v0_9 v1 v2h_0 v2h_1 v2h_10 v2h_11 v2h_2 v2h_3 v2h_4 v2h_5 v2h_6 v2h_7 v2h_8 v2h_9 v3_0:Value} {V:List HP}
def ni (E:World) (V:List HP) (b0:Nat) (v0_0 v0_1:Value) (v0_2 v0_3:Value) (v0_4 v0_5 v0_6:Value) (res: (List cI)×(List Int)×(List Int)×(List Int)×(List dQ)) (v:Value) (w:World):Prop:=∃u0_7 u0_8 u0_9 u0_10 u0_11:Value,v = .tuple #[]/\Holds E w ([bc 126 b0 [v0_0,v0_1,v0_2,v0_3,v0_4,v0_5,v0_6,u0_7,u0_8,u0_9,u0_10,u0_11],own 129 u0_7 res.1,rd u0_8 res.2.1,rd u0_9 res.2.2.1,own 3 u0_10 res.2.2.2.1,own 41 u0_11 res.2.2.2.2]++V)
theorem m4 {p0_2: (List bW)} {p0_3: (List cU)} {p0_5: (List aH)} {p0_6: (List (List Int))} {p0_8: (List Int)} {p0_9: (List Int)} {p0_10: (List Int)} {p0_11: (List dQ)} {res: (List cI)×(List Int)×(List Int)×(List Int)×(List dQ)} (hw:Holds E w (bc 126 b0 [v0_0,v0_1,v0_2,v0_3,v0_4,v0_5,v0_6,(.slice none 0 0),v0_8,v0_9,v0_10,v0_11]::rd v0_2 p0_2::rd v0_3 p0_3::rd v0_5 p0_5::rd v0_6 p0_6::own 3 v0_8 p0_8::own 3 v0_9 p0_9::own 3 v0_10 p0_10::own 41 v0_11 p0_11::V)) (hb:eZ N p0_2 p0_3 p0_5 p0_6 p0_8 p0_9 p0_10 p0_11=some res):
    Calls bF 53 [(vp b0 0)].toArray w (gI (ni E V b0 v0_0 v0_1 v0_2 v0_3 v0_4 v0_5 v0_6 res)):=by
 unfold eZ at hb
 refine enter Tryz.func53 zr zr (RC.sr (mv (vp b0 0) (RL.nilCheck zr (RL.aZ zr lI (RL.aY 0 v0_5 hw qJ (RL.bD 3 p0_5 hw wo (aK (vi p0_5.length) (RL.ns ?_))))))))
 refine mv (vi p0_5.length) (mv (vp b0 0) (RL.nilCheck zr (RL.aZ zr kp (RL.aZ zr mJ (RL.aY 0 v0_2 hw vF (RL.bD 1 p0_2 hw xI (RL.jA (p0_5.length:Int) (p0_2.length:Int) ?_)))))))
 obtain⟨e6,ds,hb⟩:=bd hb
 refine RL.call zt zr Kd [(vi (IntKind.wrap .i64 ((p0_5.length:Int)+ (p0_2.length:Int))))] zr (aF (ny N (p0:=(IntKind.wrap .i64 ((p0_5.length:Int)+ (p0_2.length:Int)))) hw ds) ?_)
 rintro _ w ⟨a9,dt,rfl,hw⟩
 refine aK (vp a9 0) (RL.nq (RC.sr (mv (vp b0 0) (RL.nilCheck zr (RL.aZ zr w7 (RL.aY 2 v0_6 hw DA (RL.bD 6 p0_6 hw DB (mv (vi 0) ?_))))))))
 refine RL.nt ?_
 obtain⟨bz,hN,hb⟩:=bd hb
 refine RC.fold (fun(bj:Nat) (bz: (List Int)) U w=>∃c5:Value,SH E V [(0,vp b0 0),(2,vi p0_5.length),(3,vp a9 0),(35,v0_6),(36,vi p0_6.length),(37,vi bj)] [bc 126 b0 [v0_0,v0_1,v0_2,v0_3,v0_4,v0_5,v0_6,(.slice none 0 0),v0_8,v0_9,v0_10,v0_11],rd v0_2 p0_2,rd v0_3 p0_3,rd v0_5 p0_5,rd v0_6 p0_6,own 3 v0_8 p0_8,own 3 v0_9 p0_9,own 3 v0_10 p0_10,own 41 v0_11 p0_11,bc 176 a9 [c5],own 3 c5 bz] U w) (fun(bz: (List Int)) U w=>∃ca:Value,SH E V [(0,vp b0 0),(2,vi p0_5.length),(3,vp a9 0)] [bc 126 b0 [v0_0,v0_1,v0_2,v0_3,v0_4,v0_5,v0_6,(.slice none 0 0),v0_8,v0_9,v0_10,v0_11],rd v0_2 p0_2,rd v0_3 p0_3,rd v0_5 p0_5,rd v0_6 p0_6,own 3 v0_8 p0_8,own 3 v0_9 p0_9,own 3 v0_10 p0_10,own 41 v0_11 p0_11,bc 176 a9 [ca],own 3 ca bz] U w) hN ?_ ?_ ?_ ?_
 ·exact⟨dt,hw.sp 11 [2,3,4,5,6,7,8,9,10,0,1]⟩
 ·rintro hm bz _ w ⟨du,O,rfl,hw⟩
  refine RC.sr (ic ((p0_6.length:Int)) ((p0_6.length:Int)) (RL.nq (RC.cN lS (RC.ex ?_))))
  exact⟨rfl,du,hw.sp 11 [0,1,2,3,4,5,6,7,8,9,10]⟩
 ·rintro hm bj bz s' _ w hk ⟨dv,O,rfl,hw⟩ hb
  refine RC.sr (ic ((bj:Int)) ((p0_6.length:Int)) (RL.nq (RC.cM (lR hk) (RC.ss (RC.bs (mv (vi bj) ?_))))))
  obtain⟨bt,dw,hb⟩:=bd hb
  refine RL.cC 4 hw xL dw fun e7 hw=>(RL.bV 0 bt hw fH fun cb hw=>(aK (vi bj) (aK cb (RL.ns (mv cb (RL.bD 0 bt hw lM (mv (vi 0) (RL.nt ?_))))))))
  obtain⟨b4,hN,hb⟩:=bd hb
  refine RC.fold (fun(cf:Nat) (b4: (List Int)) U w=>∃c6:Value,SH E V [(0,vp b0 0),(2,vi p0_5.length),(3,vp a9 0),(4,vi bj),(35,v0_6),(36,vi p0_6.length),(37,vi bj),(42,cb),(43,vi bt.length),(44,vi cf)] [bc 126 b0 [v0_0,v0_1,v0_2,v0_3,v0_4,v0_5,v0_6,(.slice none 0 0),v0_8,v0_9,v0_10,v0_11],rd v0_2 p0_2,rd v0_3 p0_3,rd v0_5 p0_5,rd v0_6 p0_6,own 3 v0_8 p0_8,own 3 v0_9 p0_9,own 3 v0_10 p0_10,own 41 v0_11 p0_11,bc 176 a9 [c6],own 3 c6 b4,rd cb bt] U w) (fun(b4: (List Int)) U w=>∃cg:Value,SH E V [(0,vp b0 0),(2,vi p0_5.length),(3,vp a9 0),(35,v0_6),(36,vi p0_6.length),(37,vi bj)] [bc 126 b0 [v0_0,v0_1,v0_2,v0_3,v0_4,v0_5,v0_6,(.slice none 0 0),v0_8,v0_9,v0_10,v0_11],rd v0_2 p0_2,rd v0_3 p0_3,rd v0_5 p0_5,rd v0_6 p0_6,own 3 v0_8 p0_8,own 3 v0_9 p0_9,own 3 v0_10 p0_10,own 41 v0_11 p0_11,bc 176 a9 [cg],own 3 cg b4,rd cb bt] U w) hN ?_ ?_ ?_ ?_
  ·exact⟨dv,hw.sp 13 [2,3,4,5,6,7,8,9,10,11,12,0]⟩
  ·rintro hm b4 _ w ⟨dx,O,rfl,hw⟩
   refine RC.sr (ic ((bt.length:Int)) ((bt.length:Int)) (RL.nq (RC.cN lS (RC.ex ?_))))
   exact⟨rfl,dx,hw.sp 12 [0,1,2,3,4,5,6,7,8,9,10,11]⟩
  ·rintro hm cf b4 s' _ w hk ⟨e8,O,rfl,hw⟩ hb
   refine RC.sr (ic ((cf:Int)) ((bt.length:Int)) (RL.nq (RC.cM (lR hk) (RC.ss (RC.bs ?_)))))
   obtain⟨cc,dy,hb⟩:=bd hb
   refine RL.cC 11 hw eJ dy fun e9 hw=>(RL.bI cc 0 hw cQ (aK (vi cc) (RL.nt (RC.region (mv (vp a9 0) (mv (vi cc) (mv (vi p0_5.length) (mv (vi bj) ?_))))))))
   refine RL.jA (p0_5.length:Int) (bj:Int) ?_
   have hw:=(hw.pull 11).pull 11
   obtain⟨fa,dz,hb⟩:=bd hb
   refine RL.call zt zr Ke [(vp a9 0),(vi cc),(vi (IntKind.wrap .i64 ((p0_5.length:Int)+ (bj:Int))))] zr (aF (mB N (p1:=cc) (p2:=(IntKind.wrap .i64 ((p0_5.length:Int)+ (bj:Int)))) hw dz) ?_)
   rintro _ w ⟨d3,rfl,hw⟩
   refine RL.nil (bK (aG (RC.region (RL.inc hk hm (mv (vi ((cf+1:Nat):Int)) (RL.nil ?_))))))
   obtain rfl:=oi hb
   exact⟨rfl,d3,hw.sp 15 [3,4,5,6,7,8,9,10,11,0,1,14]⟩
  rintro _ w ⟨cg,O,rfl,hw⟩
  refine bK (aG (RC.region (RL.inc hk hm (mv (vi ((bj+1:Nat):Int)) (RL.nil ?_)))))
  obtain rfl:=oi hb
  exact⟨rfl,cg,hw.sp 12 [0,1,2,3,4,5,6,7,8,9,10]⟩
 rintro _ w ⟨ca,O,rfl,hw⟩
 refine aG (RC.seq ?_)
 obtain⟨d4,d5,hb⟩:=bd hb
 obtain⟨d6,d7,hb⟩:=bd hb
 refine RC.Ds E V mixed [1,1,1,0,1,1,1,1,0,0,0,1,1,0,1,1,0] [3,10,13,16] (fun(x:Value×Value)=>(fun al an=>[(0,56,(vp b0 0)),(1,57,(vp b0 0)),(2,58,(vi p0_5.length)),(3,59,al),(4,60,(vp b0 0)),(5,61,(vp b0 0)),(6,62,(vp b0 0)),(7,63,(vp b0 2)),(8,64,v0_2),(9,65,(vi p0_2.length)),(10,66,an),(11,67,(vp b0 0)),(12,68,(vp b0 8)),(14,69,(vp b0 0)),(15,70,(vp b0 9))]) x.1 x.2) [(0,vp b0 0),(2,vi p0_5.length),(3,vp a9 0)] [] (fun(D:Nat->Bool) (x:Value×Value)=>(fun al an=>[bif D 0 then (own 3 al d4) else aX,bif D 1 then (own 3 an d6) else aX,bif D 3 then (bc 126 b0 [v0_0,v0_1,v0_2,v0_3,v0_4,v0_5,v0_6,(.slice none 0 0),al,an,v0_10,v0_11]) else (bif D 2 then (bc 126 b0 [v0_0,v0_1,v0_2,v0_3,v0_4,v0_5,v0_6,(.slice none 0 0),al,v0_9,v0_10,v0_11]) else (bc 126 b0 [v0_0,v0_1,v0_2,v0_3,v0_4,v0_5,v0_6,(.slice none 0 0),v0_8,v0_9,v0_10,v0_11])),rd v0_2 p0_2,rd v0_3 p0_3,rd v0_5 p0_5,rd v0_6 p0_6,own 3 v0_8 p0_8,own 3 v0_9 p0_9,own 3 v0_10 p0_10,own 41 v0_11 p0_11,bc 176 a9 [ca],own 3 ca bz]) x.1 x.2) (fun x=>by kernel_rfl) ?_ ⟨fun _=>iT gn,fun _=>iT gn,fun _=>iT gn,?_,fun _=>iT gn,fun _=>wI gn,fun _=>mu gn kp,fun _=>mu gn mJ,?_,?_,?_,fun _=>wI gn,fun _=>mu gn sm,?_,fun _=>wI gn,fun _=>mu gn uC,?_,trivial⟩ ?_
 ·have hw:=((hw.drew).aX).aX
  exact⟨(undef,undef),dX.none,(Cr zr),zt,hw⟩
 ·rintro D U w hD af ad ⟨⟨al,an⟩,hv,ha,_,hw⟩
  obtain⟨O,rfl⟩:=(ac (hv.at 2 rfl (af.1 rfl)) az).eT
  have hw:=((hw.bN 0 hD).bN 2 (nh ad hD 16)).bN 2 (nh ad hD 13)
  refine RL.mk (p0_5.length:Int) hw uz Jg d5 fun cv w hw=>?_
  have hw:=(((hw.pl 14 [0,2,3,4,5,6,7,8,9,10,11,12,13]).cG 0 true aX).eA 2 (D 13) (nh ad hD 13) (bc 126 b0 [v0_0,v0_1,v0_2,v0_3,v0_4,v0_5,v0_6,(.slice none 0 0),cv,v0_9,v0_10,v0_11])).eA 2 (D 16) (nh ad hD 16) (bc 126 b0 [v0_0,v0_1,v0_2,v0_3,v0_4,v0_5,v0_6,(.slice none 0 0),cv,an,v0_10,v0_11])
  exact RL.nil ⟨rfl,(cv,an),hv.pu 3,ha.u,zt,hw⟩
 ·rintro D U w hD af ad ⟨⟨al,an⟩,hv,ha,_,hw⟩
  obtain⟨O,rfl⟩:=(ac (hv.at 7 rfl (af.1 rfl)) az).eT
  have hw:=(hw.bN 2 (nh ad hD 16)).bN 2 (nh ad hD 13)
  refine RL.aY 2 v0_2 hw vF ?_
  have hw:=(hw.eA 2 (D 13) (nh ad hD 13) (bc 126 b0 [v0_0,v0_1,v0_2,v0_3,v0_4,v0_5,v0_6,(.slice none 0 0),al,v0_9,v0_10,v0_11])).eA 2 (D 16) (nh ad hD 16) (bc 126 b0 [v0_0,v0_1,v0_2,v0_3,v0_4,v0_5,v0_6,(.slice none 0 0),al,an,v0_10,v0_11])
  exact RL.nil ⟨rfl,(al,an),hv.pu 8,ha.u,zt,hw⟩
 ·rintro D U w hD af ad ⟨⟨al,an⟩,hv,ha,_,hw⟩
  obtain⟨O,rfl⟩:=(ac (hv.at 8 rfl (af.1 rfl)) az).eT
  refine RL.bD 3 p0_2 hw xI ?_
  exact RL.nil ⟨rfl,(al,an),hv.pu 9,ha.u,zt,hw⟩
 ·rintro D U w hD af ad ⟨⟨al,an⟩,hv,ha,_,hw⟩
  obtain⟨O,rfl⟩:=(ac (hv.at 9 rfl (af.1 rfl)) az).eT
  have hw:=(hw.bN 1 hD).bN 2 (nh ad hD 16)
  refine RL.mk (p0_2.length:Int) hw uz Jg d7 fun c7 w hw=>?_
  have hw:=((hw.pl 14 [1,0,3,4,5,6,7,8,9,10,11,12,13]).cG 1 true aX).eA 2 (D 16) (nh ad hD 16) (bc 126 b0 [v0_0,v0_1,v0_2,v0_3,v0_4,v0_5,v0_6,(.slice none 0 0),al,c7,v0_10,v0_11])
  exact RL.nil ⟨rfl,(al,c7),hv.pu 10,ha.u,zt,hw⟩
 ·rintro D U w hD af ad ⟨⟨al,an⟩,hv,ha,_,hw⟩
  obtain⟨O,rfl⟩:=(ac (hv.at 3 rfl (af.2.1 rfl)) (ac (hv.at 12 rfl (af.1 rfl)) az)).eT
  have hw:=((hw.cF 0 (af.2.1 rfl)).bN 2 (nh ad hD 16)).bN 2 hD
  refine RL.gV 2 al hw zr zr (iB 0 hw) fH fun w hw=>?_
  have hw:=((hw.cG (hb:=af.2.1 rfl) 0 (D 3) aX).cG 2 true (bc 126 b0 [v0_0,v0_1,v0_2,v0_3,v0_4,v0_5,v0_6,(.slice none 0 0),v0_8,v0_9,v0_10,v0_11])).eA 2 (D 16) (nh ad hD 16) (bc 126 b0 [v0_0,v0_1,v0_2,v0_3,v0_4,v0_5,v0_6,(.slice none 0 0),al,an,v0_10,v0_11])
  exact RL.nil ⟨rfl,(al,an),hv.n1,ha,zt,hw⟩
 ·rintro D U w hD af ad ⟨⟨al,an⟩,hv,ha,_,hw⟩
  obtain⟨O,rfl⟩:=(ac (hv.at 10 rfl (af.2.1 rfl)) (ac (hv.at 14 rfl (af.1 rfl)) az)).eT
  have hw:=((hw.cF 1 (af.2.1 rfl)).bN 2 hD).cF 2 (af.2.2.1 rfl)
  refine RL.gV 2 an hw zr zr (iB 1 hw) fH fun w hw=>?_
  have hw:=(hw.cG (hb:=af.2.1 rfl) 1 (D 10) aX).cG 2 true (bif D 13 then (bc 126 b0 [v0_0,v0_1,v0_2,v0_3,v0_4,v0_5,v0_6,(.slice none 0 0),al,v0_9,v0_10,v0_11]) else (bc 126 b0 [v0_0,v0_1,v0_2,v0_3,v0_4,v0_5,v0_6,(.slice none 0 0),v0_8,v0_9,v0_10,v0_11]))
  exact RL.nil ⟨rfl,(al,an),hv.n1,ha,zt,hw⟩
 rintro D U w a7 ⟨⟨al,an⟩,hv,ha,_,hw⟩
 have hw:=((hw.cF 0 (jk a7 3)).cF 1 (jk a7 10)).cF 2 (jk a7 16)
 obtain⟨O,rfl⟩:=(ac (ha.at 0 rfl) (ac (ha.at 1 rfl) (ac (ha.at 2 rfl) az))).eT
 refine aG (RC.seq (RC.sr (mv (vp a9 0) ?_)))
 have hw:=(hw.pull 12).pull 12
 obtain⟨a8,d8,hb⟩:=bd hb
 refine RL.call zt zr LN [(vp a9 0)] zr (aF (qS N hw d8) ?_)
 rintro bk w ⟨_,fb,rfl,hw⟩
 refine RL.dY 0 a8.1 hw DB (mv (vi 0) (RL.nt ?_))
 obtain⟨a5,hN,hb⟩:=bd hb
 refine RC.fold (fun(bo:Nat) (a5: (List cI)×(List Int)×(List Int)) U w=>∃(c8:Value) (us442:List cD),SH E V [(0,vp b0 0),(2,vi p0_5.length),(72,bk),(73,vi a8.1.length),(74,vi bo)] [bc 126 b0 [v0_0,v0_1,v0_2,v0_3,v0_4,v0_5,v0_6,c8,al,an,v0_10,v0_11],own 129 c8 us442,gL cA us442 a5.1 none,rd v0_2 p0_2,rd v0_3 p0_3,rd v0_5 p0_5,rd v0_6 p0_6,own 3 al a5.2.1,own 3 an a5.2.2,own 3 v0_10 p0_10,own 41 v0_11 p0_11,own 87 bk a8.1] U w) (fun(a5: (List cI)×(List Int)×(List Int)) U w=>∃(aj:Value) (us444:List cD),SH E V [(0,vp b0 0)] [bc 126 b0 [v0_0,v0_1,v0_2,v0_3,v0_4,v0_5,v0_6,aj,al,an,v0_10,v0_11],own 129 aj us444,gL cA us444 a5.1 none,rd v0_2 p0_2,rd v0_3 p0_3,rd v0_5 p0_5,rd v0_6 p0_6,own 3 al a5.2.1,own 3 an a5.2.2,own 3 v0_10 p0_10,own 41 v0_11 p0_11,own 87 bk a8.1] U w) hN ?_ ?_ ?_ ?_
 ·have hw:=(hw.wY cA).cH cD 129
  exact⟨(.slice none 0 0),([]:List cD),hw.sp 18 [7,0,1,8,9,10,11,5,6,14,15,2]⟩
 ·rintro hm a5 _ w ⟨d9,us604,O,rfl,hw⟩
  refine RC.sr (ic ((a8.1.length:Int)) ((a8.1.length:Int)) (RL.nq (RC.cN lS (RC.ex ?_))))
  exact⟨rfl,d9,us604,hw.sp 12 [0,1,2,3,4,5,6,7,8,9,10,11]⟩
 ·rintro hm bo a5 s' _ w hk ⟨bg,us446,O,rfl,hw⟩ hb
  refine RC.sr (ic ((bo:Int)) ((a8.1.length:Int)) (RL.nq (RC.cM (lR hk) (RC.ss (RC.bs ?_)))))
  obtain⟨bm,cw,hb⟩:=bd hb
  refine RL.bQ 11 hw zr zr xL cw (RL.iX (f:=(fun x=>x)) 11 hw (jG 11 hw cw 0) (bB cw).2.1 Fd.self fH fun bp hw=>?_)
  refine aK bp (RL.ns (RL.pw hw Kf fun bu w hw=>?_))
  refine RL.nq (RC.sr (mv bp (RL.bD 1 bm hw lM (mv (vi 0) (RL.nt ?_)))))
  obtain⟨ar,hN,hb⟩:=bd hb
  refine RC.fold (fun(b5:Nat) (ar: (List Int)×(List Int)×(List Int)×(List Int)) U w=>∃c9 da:Value,SH E V [(0,vp b0 0),(2,vi p0_5.length),(10,vp bu 0),(72,bk),(73,vi a8.1.length),(74,vi bo),(78,bp),(79,vi bm.length),(80,vi b5)] [bc 126 b0 [v0_0,v0_1,v0_2,v0_3,v0_4,v0_5,v0_6,bg,al,an,v0_10,v0_11],rd v0_2 p0_2,rd v0_3 p0_3,rd v0_5 p0_5,rd v0_6 p0_6,own 129 bg us446,gL cA us446 a5.1 none,own 3 al ar.1,own 3 an ar.2.1,own 3 v0_10 p0_10,own 41 v0_11 p0_11,bc 129 bu [c9,da,(.slice none 0 0)],own 3 c9 ar.2.2.1,own 3 da ar.2.2.2,own 87 bk a8.1,rd bp bm] U w) (fun(ar: (List Int)×(List Int)×(List Int)×(List Int)) U w=>∃bw bq:Value,SH E V [(0,vp b0 0),(2,vi p0_5.length),(10,vp bu 0),(72,bk),(73,vi a8.1.length),(74,vi bo)] [bc 126 b0 [v0_0,v0_1,v0_2,v0_3,v0_4,v0_5,v0_6,bg,al,an,v0_10,v0_11],rd v0_2 p0_2,rd v0_3 p0_3,rd v0_5 p0_5,rd v0_6 p0_6,own 129 bg us446,gL cA us446 a5.1 none,own 3 al ar.1,own 3 an ar.2.1,own 3 v0_10 p0_10,own 41 v0_11 p0_11,bc 129 bu [bw,bq,(.slice none 0 0)],own 3 bw ar.2.2.1,own 3 bq ar.2.2.2,own 87 bk a8.1,rd bp bm] U w) hN ?_ ?_ ?_ ?_
  ·have hw:=(hw.cH Int 3).cH Int 3
   exact⟨(.slice none 0 0),(.slice none 0 0),hw.sp 16 [4,7,8,9,10,5,6,11,12,13,14,2,1,0,15,3]⟩
  ·rintro hm ar _ w ⟨ea,eb,O,rfl,hw⟩
   refine RC.sr (ic ((bm.length:Int)) ((bm.length:Int)) (RL.nq (RC.cN lS (RC.ex ?_))))
   exact⟨rfl,ea,eb,hw.sp 16 [0,1,2,3,4,5,6,7,8,9,10,11,12,13,14,15]⟩
  ·rintro hm b5 ar s' _ w hk ⟨ch,cx,O,rfl,hw⟩ hb
   refine RC.sr (ic ((b5:Int)) ((bm.length:Int)) (RL.nq (RC.cM (lR hk) (RC.ss (RC.bs ?_)))))
   obtain⟨a2,ec,hb⟩:=bd hb
   refine RL.cC 15 hw eJ ec fun fc hw=>(RL.bI a2 0 hw cQ (aK (vi a2) (RL.nt (RC.bs (mv (vi a2) (mv (vi p0_5.length) (ic a2 ((p0_5.length:Int)) (aK (vb (decide (a2< (p0_5.length:Int)))) ?_))))))))
   refine RL.nt ?_
   obtain⟨b6,hj,hb⟩:=bd hb
   refine RC.jn (fun(b6: (List Int)×(List Int)×(List Int)×(List Int)) U w=>∃cj ck:Value,SH E V [(0,vp b0 0),(2,vi p0_5.length),(10,vp bu 0),(72,bk),(73,vi a8.1.length),(74,vi bo),(78,bp),(79,vi bm.length),(80,vi b5)] [bc 126 b0 [v0_0,v0_1,v0_2,v0_3,v0_4,v0_5,v0_6,bg,al,an,v0_10,v0_11],rd v0_2 p0_2,rd v0_3 p0_3,rd v0_5 p0_5,rd v0_6 p0_6,own 129 bg us446,gL cA us446 a5.1 none,own 3 al b6.1,own 3 an b6.2.1,own 3 v0_10 p0_10,own 41 v0_11 p0_11,bc 129 bu [cj,ck,(.slice none 0 0)],own 3 cj b6.2.2.1,own 3 ck b6.2.2.2,own 87 bk a8.1,rd bp bm] U w) b6 ?_ ?_
   ·refine eQ hj (fun hc hj=>?_) fun hc hj=>?_
    ·refine RC.seq (RC.yC mixed [0,0,0,0,0,0,0,0,0,0,0,2] [0,1,2,3,4,5,6,7,8,9,10,11] ?_)
     have hw:=hw.drew
     refine DP.e0 zr (mv (vp b0 0) (cB zr (RL.nilCheck zr (cB zr (RL.aZ zr sm (cB zr (RL.aY 1 al hw fH (cB zr ?_))))))))
     refine mv (vi a2) (cB zr (mv (vp b0 0) (cB zr (RL.nilCheck zr (cB zr (RL.aZ zr qq (cB zr (RL.aY 1 bg hw xM ?_))))))))
     refine cB zr (RL.px 6 7 a5.1 hw H6 (cB zr ?_))
     obtain⟨fe,cy,hj⟩:=bd hj
     refine RL.bQ 8 hw zr zr eJ cy (um zr ?_)
     have hw:=hw.sc Int (a5.1.length:Int)
     refine RL.gE (f:=(fun _ y=>y)) 9 0 hw (jG 9 hw cy 0) (bB cy).2.1 zr Fs.self cQ fun w hw=>?_
     refine DP.d2 zt (DP.z (aG (RC.region (RL.aZ zr An (RL.aY 13 ch hw fH (mv (vi a2) ?_))))))
     have hw:=hw.sc Int a2
     refine RL.dS ([a2]: (List Int)) hw [(vi a2)] eJ EY (fun M hs g=>⟨(g.sat 0 _ zr).1,zt⟩) fun ff w hw=>?_
     have hw:=hw.freeze 0
     obtain⟨fg,ed,hj⟩:=bd hj
     refine RL.app 16 0 hw uz ed fun db w hw=>?_
     refine RL.aZ zr An (RL.gV 15 db hw zr zr (iB 16 hw) fH fun w hw=>?_)
     refine RL.nil ?_
     obtain rfl:=oi hj
     exact⟨rfl,db,cx,hw.sp 20 [4,5,6,7,8,9,10,11,12,13,14,15,16,17,18,19]⟩
    refine RC.sr (mv (vp b0 0) (RL.nilCheck zr (RL.aZ zr kp (RL.aZ zr mJ (RL.aY 1 v0_2 hw vF (mv (vi a2) (mv (vi p0_5.length) (RL.jA a2 (p0_5.length:Int) ?_))))))))
    obtain⟨dc,ee,hj⟩:=bd hj
    refine RL.cC 2 hw Al ee fun fh hw=>(RL.iu 0 hw zr w4 sf fun fi hw=>(RL.bI dc.ik 0 hw xK (aK (vb dc.ik) (RL.nt ?_))))
    obtain⟨cl,hjj,hj⟩:=bd hj
    refine RC.jn (fun(cl: (List Int)×(List Int)) U w=>∃cm:Value,SH E V [(0,vp b0 0),(2,vi p0_5.length),(10,vp bu 0),(72,bk),(73,vi a8.1.length),(74,vi bo),(78,bp),(79,vi bm.length),(80,vi b5)] [bc 126 b0 [v0_0,v0_1,v0_2,v0_3,v0_4,v0_5,v0_6,bg,al,an,v0_10,v0_11],rd v0_2 p0_2,rd v0_3 p0_3,rd v0_5 p0_5,rd v0_6 p0_6,own 129 bg us446,gL cA us446 a5.1 none,own 3 al ar.1,own 3 an cl.1,own 3 v0_10 p0_10,own 41 v0_11 p0_11,bc 129 bu [ch,cm,(.slice none 0 0)],own 3 cm cl.2,own 3 ch ar.2.2.1,own 87 bk a8.1,rd bp bm] U w) cl ?_ ?_
    ·refine eQ hjj (fun hc hjj=>?_) fun hc hjj=>?_
     rotate_left
     ·refine RC.region (mv (vp b0 0) (RL.nilCheck zr (RL.aZ zr uC (RL.aY 3 an hw fH (mv (vi a2) (mv (vi p0_5.length) (RL.jA a2 (p0_5.length:Int) ?_)))))))
      obtain⟨fj,cz,hjj⟩:=bd hjj
      refine RL.bQ 11 hw zr zr eJ cz ?_
      have hw:=hw.sc Int (-1)
      refine RL.gE (f:=(fun _ y=>y)) 12 0 hw (jG 12 hw cz 0) (bB cz).2.1 zr Fs.self cQ fun w hw=>?_
      refine RL.nil ?_
      obtain rfl:=oi hjj
      exact⟨rfl,cx,hw.sp 20 [4,5,6,7,8,9,10,11,12,13,14,15,17,16,18,19]⟩
     refine RC.seq (RC.yC mixed [0,0,0,0,0,0,0,0,0,0,0,0,0,2] [0,1,2,3,4,5,6,7,8,9,10,11,12,13] ?_)
     have hw:=hw.drew
     refine DP.e0 zr (mv (vp b0 0) (cB zr (RL.nilCheck zr (cB zr (RL.aZ zr uC (cB zr (RL.aY 3 an hw fH (cB zr ?_))))))))
     refine mv (vi a2) (cB zr (mv (vi p0_5.length) (cB zr (RL.jA a2 (p0_5.length:Int) (cB zr (mv (vp b0 0) (cB zr (RL.nilCheck zr ?_))))))))
     refine cB zr (RL.aZ zr qq (cB zr (RL.aY 3 bg hw xM (cB zr (RL.px 8 9 a5.1 hw H6 (cB zr ?_))))))
     obtain⟨fk,c0,hjj⟩:=bd hjj
     refine RL.bQ 11 hw zr zr eJ c0 (um zr ?_)
     have hw:=hw.sc Int (a5.1.length:Int)
     refine RL.gE (f:=(fun _ y=>y)) 12 0 hw (jG 12 hw c0 0) (bB c0).2.1 zr Fs.self cQ fun w hw=>?_
     refine DP.d2 zt (DP.z (aG (RC.region (RL.aZ zr Ao (RL.aY 15 cx hw fH (mv (vi a2) (mv (vi p0_5.length) (RL.jA a2 (p0_5.length:Int) ?_))))))))
     have hw:=hw.sc Int (IntKind.wrap .i64 (a2 - (p0_5.length:Int)))
     refine RL.dS ([(IntKind.wrap .i64 (a2 - (p0_5.length:Int)))]: (List Int)) hw [(vi (IntKind.wrap .i64 (a2 - (p0_5.length:Int))))] eJ EY (fun M hs g=>⟨(g.sat 0 _ zr).1,zt⟩) fun fl w hw=>?_
     have hw:=hw.freeze 0
     obtain⟨fm,ef,hjj⟩:=bd hjj
     refine RL.app 19 0 hw uz ef fun dd w hw=>?_
     refine RL.aZ zr Ao (RL.gV 17 dd hw zr zr (iB 19 hw) fH fun w hw=>?_)
     refine RL.nil ?_
     obtain rfl:=oi hjj
     exact⟨rfl,dd,hw.sp 22 [6,7,8,9,10,11,12,13,14,15,16,17,19,18,20,21]⟩
    rintro _ w ⟨cm,O,rfl,hw⟩
    obtain rfl:=oi hj
    exact⟨rfl,ch,cm,hw.sp 16 [0,1,2,3,4,5,6,7,8,9,10,11,13,12,14,15]⟩
   rintro _ w ⟨cj,ck,O,rfl,hw⟩
   refine bK (bK (aG (RC.region (RL.inc hk hm (mv (vi ((b5+1:Nat):Int)) (RL.nil ?_))))))
   obtain rfl:=oi hb
   exact⟨rfl,cj,ck,hw.sp 16 [0,1,2,3,4,5,6,7,8,9,10,11,12,13,14,15]⟩
  rintro _ w ⟨bw,bq,O,rfl,hw⟩
  refine aG (RC.sr (RL.aZ zr An (RL.aY 11 bw hw fH (RL.dY 12 ar.2.2.1 hw lM (RL.aZ zr Ao (RL.aY 11 bq hw fH (RL.dY 13 ar.2.2.2 hw lM (RL.jA (ar.2.2.1.length:Int) (ar.2.2.2.length:Int) ?_))))))))
  refine ic ((IntKind.wrap .i64 ((ar.2.2.1.length:Int)+ (ar.2.2.2.length:Int)))) 0 (RL.nt ?_)
  obtain⟨c1,hj,hb⟩:=bd hb
  refine RC.jn (fun(c1: (List cI)) U w=>∃(cn:Value) (us598:List cD),SH E V [(0,vp b0 0),(2,vi p0_5.length),(72,bk),(73,vi a8.1.length),(74,vi bo)] [bc 126 b0 [v0_0,v0_1,v0_2,v0_3,v0_4,v0_5,v0_6,cn,al,an,v0_10,v0_11],own 129 cn us598,gL cA us598 c1 none,rd v0_2 p0_2,rd v0_3 p0_3,rd v0_5 p0_5,rd v0_6 p0_6,own 3 al ar.1,own 3 an ar.2.1,own 3 v0_10 p0_10,own 41 v0_11 p0_11,own 87 bk a8.1] U w) c1 ?_ ?_
  ·refine eQ hj (fun hc hj=>?_) fun hc hj=>?_
   rotate_left
   ·refine RC.skip ?_
    obtain rfl:=oi hj
    exact⟨rfl,bg,us446,hw.sp 16 [0,5,6,1,2,3,4,7,8,9,10,14]⟩
   have hw:=hw.drew
   refine RC.Fu (fun w=>Holds E w ([bc 126 b0 [v0_0,v0_1,v0_2,v0_3,v0_4,v0_5,v0_6,bg,al,an,v0_10,v0_11]]++V)) mixed zr [1,1,1,1,1,0,2,2,0,0,2] [0,1,2,3,4,5,6,7,8,9,10] (hw.pk 16 [0]) (DP.e1 (vp b0 0) zr (fun w=>RL.move (vp b0 0) zt DP.d1) (DP.e1 (vp b0 0) zr (fun w=>RL.move (vp b0 0) zt DP.d1) (DP.e1 (vp b0 0) zr (fun w=>RL.nilCheck zr DP.d1) (DP.e1 (vp b0 7) zr (fun w=>RL.aZ zr qq DP.d1) (DP.IF bg zr (fun w hw=>RL.aY 0 bg hw xM DP.d1) (DP.e0 zr (RL.Fh (i:=11) (cs:=[bw,bq,(.slice none 0 0)]) zt zr hw zr zr Kg zr (um zr ?_))))))))
   have hw:=((((hw.cH fW 51).Bi (i:=0) rfl).freeze 14).freeze 15).z9 (cs:=[bw,bq,(.slice none 0 0)]) (x:=(⟨ar.2.2.1,ar.2.2.2,(rv (.slice none 0 0))⟩:cD)) (fun M hs g=>⟨[bw],[bq,(.slice none 0 0)],rfl,(lh (g.sat 14 _ rfl).1),⟨[bq],[(.slice none 0 0)],rfl,(lh (g.sat 15 _ rfl).1),(lh (g.sat 0 _ rfl).1)⟩⟩) rfl
   refine RL.dS ([(⟨ar.2.2.1,ar.2.2.2,(rv (.slice none 0 0))⟩:cD)]:List cD) hw [(.agg ([bw,bq,(.slice none 0 0)]:List Value).toArray)] DC Kh (fun M hs g=>⟨(g.sat 0 _ zr).1,zt⟩) fun fo w hw=>(DP.d2 (hw.pk 20 [4]) (DP.e2 zr ?_))
   obtain⟨fp,eg,hj⟩:=bd hj
   have hw:=hw.freeze 0
   refine RL.D5 (i:=9) (j:=0) (b:=10) (o:=3) (X:=cA) (ur:=(⟨ar.2.2.1,ar.2.2.2,(rv (.slice none 0 0))⟩:cD)) (xr:=(⟨ar.2.2.1,ar.2.2.2,([]: (List fW))⟩:cI)) (u:=(.slice none 0 0)) (y:=([]: (List fW))) (fun _ _ ho=>⟨⟨rfl,rfl⟩,ho⟩) trivial rfl hw rfl rfl rfl rfl rfl rfl (by decide) (by decide) (by decide) Ki eg fun de w hw=>?_
   refine DP.d2 (hw.pk 20 [4]) (DP.e0 zr (RL.nilCheck zr (cB zr (RL.aZ zr qq (DP.d0 (DP.My zr zr (RL.gV 4 de hw zr zr (iB 9 hw) xM fun w hw=>?_)))))))
   refine DP.d2 zt (DP.z ?_)
   obtain rfl:=oi hj
   exact⟨rfl,de,(us446++[(⟨ar.2.2.1,ar.2.2.2,(rv (.slice none 0 0))⟩:cD)]),hw.sp 20 [4,9,10,5,6,7,8,11,12,13,14,18]⟩
  rintro _ w ⟨cn,us598,O,rfl,hw⟩
  refine bK (aG (RC.region (RL.inc hk hm (mv (vi ((bo+1:Nat):Int)) (RL.nil ?_)))))
  obtain rfl:=oi hb
  exact⟨rfl,cn,us598,hw.sp 12 [0,1,2,3,4,5,6,7,8,9,10,11]⟩
 rintro _ w ⟨aj,us444,O,rfl,hw⟩
 refine aG (RC.sr (mv (vp b0 0) (RL.nilCheck zr (RL.aZ zr kp (RL.aZ zr vG (RL.aY 0 v0_3 hw Ek (RL.bD 4 p0_3 hw FE (mv (vi 0) ?_))))))))
 refine RL.nt ?_
 obtain⟨ai,hN,hb⟩:=bd hb
 refine RC.fold (fun(b2:Nat) (ai: (List cI)×(List Int)×(List Int)×(List Int)×(List dQ)) U w=>∃(df dg:Value) (dh di:Value) (us819:List cD),SH E V [(0,vp b0 0),(170,v0_3),(171,vi p0_3.length),(172,vi b2)] [bc 126 b0 [v0_0,v0_1,v0_2,v0_3,v0_4,v0_5,v0_6,aj,df,dg,dh,di],rd df ai.2.1,rd dg ai.2.2.1,own 3 dh ai.2.2.2.1,own 41 di ai.2.2.2.2,rd v0_2 p0_2,rd v0_3 p0_3,rd v0_5 p0_5,rd v0_6 p0_6,own 129 aj us819,gL cA us819 ai.1 none] U w) (fun(ai: (List cI)×(List Int)×(List Int)×(List Int)×(List dQ)) U w=>∃(cp cq:Value) (cr ct:Value) (us824:List cD),SH E V [(0,vp b0 0)] [bc 126 b0 [v0_0,v0_1,v0_2,v0_3,v0_4,v0_5,v0_6,aj,cp,cq,cr,ct],rd cp ai.2.1,rd cq ai.2.2.1,own 3 cr ai.2.2.2.1,own 41 ct ai.2.2.2.2,rd v0_2 p0_2,rd v0_3 p0_3,rd v0_5 p0_5,rd v0_6 p0_6,own 129 aj us824,gL cA us824 ai.1 none] U w) hN ?_ ?_ ?_ ?_
 ·have hw:=(hw.freeze 7).freeze 8
  exact⟨al,an,v0_10,v0_11,us444,hw.sp 12 [0,7,8,9,10,3,4,5,6,1,2]⟩
 ·rintro hm ai _ w ⟨eh,ei,ej,ek,us932,O,rfl,hw⟩
  refine RC.sr (ic ((p0_3.length:Int)) ((p0_3.length:Int)) (RL.nq (RC.cN lS (RC.ex ?_))))
  exact⟨rfl,eh,ei,ej,ek,us932,hw.sp 11 [0,1,2,3,4,5,6,7,8,9,10]⟩
 ·rintro hm b2 ai s' _ w hk ⟨a3,a4,bl,a6,us829,O,rfl,hw⟩ hb
  refine RC.sr (ic ((b2:Int)) ((p0_3.length:Int)) (RL.nq (RC.cM (lR hk) (RC.ss (RC.bs ?_)))))
  obtain⟨b7,el,hb⟩:=bd hb
  refine RL.cC 6 hw El el fun en hw=>(RL.bV 0 b7 hw xJ fun eo hw=>(RL.alloc hw IK.z fun dj w hw=>?_))
  refine RL.bA 0 hw 1 zr xJ fun w hw=>?_
  refine RL.ns (mv (vp b0 0) (RL.aP (f:=(fun x=>x)) 0 hw zr Fd.self xJ fun dk hw=>?_))
  have hw:=((hw.dup 11 rfl).dup 10 rfl).pull 6
  obtain⟨ba,ep,hb⟩:=bd hb
  refine RL.call zt zr LO [(vp b0 0),dk] zr (aF (qU N (i1:=0) hw zr ep) ?_)
  rintro _ w ⟨c2,rfl,hw⟩
  refine mv (.tuple #[c2,(vb ba.2)]) (RL.extract c2 (RL.extract (vb ba.2) (RL.alloc hw Hj.z fun b8 w hw=>?_)))
  refine RL.bA 0 hw 1 zr rn fun w hw=>?_
  refine aK (vb ba.2) (RL.ns (aK (vi (-1)) (RL.nq (RC.sr (mv (vb ba.2) (RL.nt ?_))))))
  obtain⟨bh,hj,hb⟩:=bd hb
  refine RC.jn (fun(bh: (List cI)×Int) U w=>∃(us877:List cD),SH E V [(0,vp b0 0),(15,vp b8 0),(17,vi bh.2),(170,v0_3),(171,vi p0_3.length),(172,vi b2)] [bc 126 b0 [v0_0,v0_1,v0_2,v0_3,v0_4,v0_5,v0_6,aj,a3,a4,bl,a6],rd v0_2 p0_2,rd v0_3 p0_3,rd v0_5 p0_5,rd v0_6 p0_6,own 129 aj us877,gL cA us877 bh.1 none,rd a3 ai.2.1,rd a4 ai.2.2.1,own 3 bl ai.2.2.2.1,own 41 a6 ai.2.2.2.2,bx 41 b8 ba.1] U w) bh ?_ ?_
  ·refine eQ hj (fun hc hj=>?_) fun hc hj=>?_
   rotate_left
   ·refine RC.skip ?_
    obtain rfl:=oi hj
    exact⟨rfl,us829,hw.sp 18 [2,12,13,14,15,16,17,8,9,10,11,0]⟩
   refine RC.sr (mv (vp b0 0) (RL.aP (f:=(fun x=>x)) 0 hw zr Fd.self rn fun dm hw=>?_))
   have hw:=((hw.dup 10 rfl).dup 10 rfl).pull 5
   obtain⟨ah,er,hj⟩:=bd hj
   refine RL.call zt zr LP [(vp b0 0),dm] zr (aF (oq N (i1:=0) hw zr er) ?_)
   rintro _ w ⟨rfl,hw⟩
   refine aK (vi ah) (RL.nt ?_)
   obtain⟨fq,cd,hj⟩:=bd hj
   obtain⟨b9,et,hj⟩:=bd hj
   obtain⟨br,eu,hj⟩:=bd hj
   obtain⟨b3,cu,hj⟩:=bd hj
   refine RC.Ds E V mixed [1,1,1,0,1,1,1,1,0,1,0,0,0,0,0,0,0,0,0,0] [13,14,15,16,19] (fun(x:Value×Value×Value×Value)=>(fun av aw au ak=>[(0,186,(vp b0 0)),(1,187,(vp b0 0)),(2,188,(vp b0 7)),(3,189,aj),(4,190,(vi ah)),(5,191,(vp b0 0)),(6,192,(vp b0 0)),(7,193,(vp b0 7)),(8,194,aj),(9,195,(vi ah)),(10,196,(zd aj (Int.toNat ah) 3 0)),(11,197,(zd aj (Int.toNat ah) 3 2)),(12,198,(us829.getD (Int.toNat ah) (default:cD)).gW.v),(13,199,av),(14,200,aw),(15,201,au),(16,202,ak),(17,203,(zd aj (Int.toNat ah) 3 0)),(18,204,(zd aj (Int.toNat ah) 3 2))]) x.1 x.2.1 x.2.2.1 x.2.2.2) [(0,vp b0 0),(14,vp dj 0),(15,vp b8 0),(17,vi ah),(170,v0_3),(171,vi p0_3.length),(172,vi b2)] [] (fun(D:Nat->Bool) (x:Value×Value×Value×Value)=>(fun av aw au ak=>[bif D 0 then (rd av b7) else aX,bif D 1 then (rd aw b9) else aX,bif D 3 then (rd au ([b9]: (List fW))) else (bif D 2 then (own 51 au ([b9]: (List fW))) else aX),bif D 4 then aX else (bif D 3 then (own 51 ak br) else aX),bc 126 b0 [v0_0,v0_1,v0_2,v0_3,v0_4,v0_5,v0_6,aj,a3,a4,bl,a6],rd dm ba.1,bx 41 b8 ba.1,rd c2 ba.1,aX,rd dk b7,bx 78 dj b7,rd eo b7,pt en b7,aX,rd a3 ai.2.1,rd a4 ai.2.2.1,own 3 bl ai.2.2.2.1,own 41 a6 ai.2.2.2.2,rd v0_2 p0_2,rd v0_3 p0_3,rd v0_5 p0_5,rd v0_6 p0_6,bif D 4 then (own 129 aj (us829.set (Int.toNat ah) {(us829.getD (Int.toNat ah) (default:cD)) with gW:=rv ak})) else (own 129 aj us829),bif D 4 then (gL cA (us829.set (Int.toNat ah) {(us829.getD (Int.toNat ah) (default:cD)) with gW:=rv ak}) (ai.1.set (Int.toNat ah) {b3 with gW:=br}) none) else (bif D 3 then (gL cA us829 ai.1 (some (Int.toNat ah))) else (gL cA us829 ai.1 none))]) x.1 x.2.1 x.2.2.1 x.2.2.2) (fun x=>by kernel_rfl) ?_ ⟨fun _=>iT gn,fun _=>wI gn,fun _=>mu gn qq,?_,fun _=>iT gn,fun _=>iT gn,fun _=>wI gn,fun _=>mu gn qq,?_,fun _=>iT gn,?_,?_,?_,?_,?_,?_,?_,?_,?_,?_,trivial⟩ ?_
   ·have hw:=((((hw.drew).aX).aX).aX).aX
    exact⟨(undef,undef,undef,undef),dX.none,(Cr zr),zt,hw⟩
   ·rintro D U w hD af ad ⟨⟨av,aw,au,ak⟩,hv,ha,_,hw⟩
    obtain⟨O,rfl⟩:=(ac (hv.at 2 rfl (af.1 rfl)) az).eT
    refine RL.aY 4 aj hw xM ?_
    exact RL.nil ⟨rfl,(av,aw,au,ak),hv.pu 3,ha.u,zt,hw⟩
   ·rintro D U w hD af ad ⟨⟨av,aw,au,ak⟩,hv,ha,_,hw⟩
    obtain⟨O,rfl⟩:=(ac (hv.at 7 rfl (af.1 rfl)) az).eT
    refine RL.aY 4 aj hw xM ?_
    exact RL.nil ⟨rfl,(av,aw,au,ak),hv.pu 8,ha.u,zt,hw⟩
   ·rintro D U w hD af ad ⟨⟨av,aw,au,ak⟩,hv,ha,_,hw⟩
    obtain⟨O,rfl⟩:=(ac (hv.at 8 rfl (af.1 rfl)) (ac (hv.at 9 rfl (af.2.1 rfl)) az)).eT
    have hw:=((hw.bN 22 (nh ad hD 19)).bN 23 (nh ad hD 19)).bN 23 (nf (fun h=>ft hD ((ad 11 _ rfl ((ad 12 _ rfl ((ad 16 _ rfl h).1 rfl)).1 rfl)).1 rfl)))
    have hl900:=hw.fR 23
    have hr901:=iC (default:cD) hl900 cd
    refine RL.bQ 22 hw zr zr DC hr901 ?_
    have hw:=(hw.eA 22 (D 19) (nh ad hD 19) (own 129 aj (us829.set (Int.toNat ah) {(us829.getD (Int.toNat ah) (default:cD)) with gW:=rv ak}))).eA 23 (D 16) (nf (fun h=>ft hD ((ad 11 _ rfl ((ad 12 _ rfl ((ad 16 _ rfl h).1 rfl)).1 rfl)).1 rfl))) (gL cA us829 ai.1 (some (Int.toNat ah)))
    have hw:=hw.eA 23 (D 19) (nh ad hD 19) (gL cA (us829.set (Int.toNat ah) {(us829.getD (Int.toNat ah) (default:cD)) with gW:=rv ak}) (ai.1.set (Int.toNat ah) {b3 with gW:=br}) none)
    exact RL.nil ⟨rfl,(av,aw,au,ak),hv.pu 10,ha.u,zt,hw⟩
   ·rintro D U w hD af ad ⟨⟨av,aw,au,ak⟩,hv,ha,_,hw⟩
    obtain⟨O,rfl⟩:=(ac (hv.at 10 rfl (af.1 rfl)) az).eT
    have hw:=((hw.bN 22 (nh ad hD 19)).bN 23 (nh ad hD 19)).bN 23 (nf (fun h=>ft hD ((ad 12 _ rfl ((ad 16 _ rfl h).1 rfl)).1 rfl)))
    have hl902:=hw.fR 23
    have hr903:=iC (default:cD) hl902 cd
    refine RL.m8 (α:=cD) (jG 22 hw hr903 0) Ap ?_
    have hw:=(hw.eA 22 (D 19) (nh ad hD 19) (own 129 aj (us829.set (Int.toNat ah) {(us829.getD (Int.toNat ah) (default:cD)) with gW:=rv ak}))).eA 23 (D 16) (nf (fun h=>ft hD ((ad 12 _ rfl ((ad 16 _ rfl h).1 rfl)).1 rfl))) (gL cA us829 ai.1 (some (Int.toNat ah)))
    have hw:=hw.eA 23 (D 19) (nh ad hD 19) (gL cA (us829.set (Int.toNat ah) {(us829.getD (Int.toNat ah) (default:cD)) with gW:=rv ak}) (ai.1.set (Int.toNat ah) {b3 with gW:=br}) none)
    exact RL.nil ⟨rfl,(av,aw,au,ak),hv.pu 11,ha.u,zt,hw⟩
   ·rintro D U w hD af ad ⟨⟨av,aw,au,ak⟩,hv,ha,_,hw⟩
    obtain⟨O,rfl⟩:=(ac (hv.at 11 rfl (af.1 rfl)) az).eT
    have hw:=((hw.bN 22 (nh ad hD 19)).bN 23 (nh ad hD 19)).bN 23 (nh ad hD 16)
    have hl904:=hw.fR 23
    have hr905:=iC (default:cD) hl904 cd
    refine RL.r8 22 23 ah rl (default:cD) zr hw zr (jG 22 hw hr905 2) zr zr cd FM ?_
    have hw:=(hw.eA 22 (D 19) (nh ad hD 19) (own 129 aj (us829.set (Int.toNat ah) {(us829.getD (Int.toNat ah) (default:cD)) with gW:=rv ak}))).eA 23 (D 16) (nh ad hD 16) (gL cA us829 ai.1 (some (Int.toNat ah)))
    have hw:=hw.eA 23 (D 19) (nh ad hD 19) (gL cA (us829.set (Int.toNat ah) {(us829.getD (Int.toNat ah) (default:cD)) with gW:=rv ak}) (ai.1.set (Int.toNat ah) {b3 with gW:=br}) none)
    exact RL.nil ⟨rfl,(av,aw,au,ak),hv.pu 12,ha.u,zt,hw⟩
   ·rintro D U w hD af ad ⟨⟨av,aw,au,ak⟩,hv,ha,_,hw⟩
    obtain⟨O,rfl⟩:=(ac (ha.at 1 rfl) az).eT
    have hw:=hw.bN 0 hD
    refine RL.aP (f:=(fun x=>x)) 10 hw zr Fd.self xJ fun ev hw=>?_
    have hw:=(hw.pl 25 [0,2,3,4,5,6,7,8,9,10,11,12,13,14,15,16,17,18,19,20,21,22,23,24]).cG 0 true aX
    exact RL.nil ⟨rfl,(ev,aw,au,ak),hv.pu 13,ha.u,zt,hw⟩
   ·rintro D U w hD af ad ⟨⟨av,aw,au,ak⟩,hv,ha,_,hw⟩
    obtain⟨O,rfl⟩:=(ac (hv.at 13 rfl (af.1 rfl)) az).eT
    have hw:=(hw.cF 0 (af.1 rfl)).bN 1 hD
    refine RL.call zt zr Hh [av] zr (aF (lJ N (i0:=0) hw zr et) ?_)
    rintro ew w hw
    have hw:=((hw.pl 25 [1,0,3,4,5,6,7,8,9,10,11,12,13,14,15,16,17,18,19,20,21,22,23,24]).cG (hb:=af.1 rfl) 0 (D 13) aX).cG 1 true aX
    exact RL.nil ⟨rfl,(av,ew,au,ak),hv.pu 14,ha.u,zt,hw⟩
   ·rintro D U w hD af ad ⟨⟨av,aw,au,ak⟩,hv,ha,_,hw⟩
    obtain⟨O,rfl⟩:=(ac (hv.at 14 rfl (af.1 rfl)) az).eT
    have hw:=((hw.cF 1 (af.1 rfl)).bN 2 (nh ad hD 16)).bN 2 hD
    refine RL.dS ([b9]: (List fW)) hw [aw] Kk JW (fun M hs g=>⟨(g.sat 1 _ zr).1,zt⟩) fun dn w hw=>?_
    have hw:=(((hw.pl 25 [1,2,0,4,5,6,7,8,9,10,11,12,13,14,15,16,17,18,19,20,21,22,23,24]).cG (hb:=af.1 rfl) 1 (D 14) aX).cG 2 true aX).eA 2 (D 16) (nh ad hD 16) (rd dn ([b9]: (List fW)))
    exact RL.nil ⟨rfl,(av,aw,dn,ak),hv.pu 15,ha.u,zt,hw⟩
   ·rintro D U w hD af ad ⟨⟨av,aw,au,ak⟩,hv,ha,_,hw⟩
    obtain⟨O,rfl⟩:=(ac (hv.at 12 rfl (af.1 rfl)) (ac (hv.at 15 rfl (af.2.1 rfl)) az)).eT
    have hw:=(((((((hw.bN 2 hD).cF 2 (af.2.1 rfl)).bN 3 (nh ad hD 19)).bN 3 hD).bN 22 (nh ad hD 19)).bN 23 (nh ad hD 19)).bN 23 hD).xp (j:=23) (jj:=ah) rl (default:cD) rfl cd
    have hw:=hw.freeze 3
    refine RL.app 0 3 hw Kl eu fun c3 w hw=>?_
    have hw:=((((hw.pl 25 [1,2,3,0,5,6,7,8,9,10,11,12,13,14,15,16,17,18,19,20,21,22,23,24]).cG 2 true (bif D 15 then (own 51 au ([b9]: (List fW))) else aX)).cG 3 true aX).eA 3 (D 19) (nh ad hD 19) aX).eA 22 (D 19) (nh ad hD 19) (own 129 aj (us829.set (Int.toNat ah) {(us829.getD (Int.toNat ah) (default:cD)) with gW:=rv c3}))
    have hw:=(hw.cG 23 true (gL cA us829 ai.1 none)).eA 23 (D 19) (nh ad hD 19) (gL cA (us829.set (Int.toNat ah) {(us829.getD (Int.toNat ah) (default:cD)) with gW:=rv c3}) (ai.1.set (Int.toNat ah) {b3 with gW:=br}) none)
    exact RL.nil ⟨rfl,(av,aw,au,c3),hv.pu 16,ha.u,zt,hw⟩
   ·rintro D U w hD af ad ⟨⟨av,aw,au,ak⟩,hv,ha,_,hw⟩
    obtain⟨O,rfl⟩:=(ac (hv.at 3 rfl (af.1 rfl)) (ac (hv.at 4 rfl (af.2.1 rfl)) az)).eT
    have hw:=hw.bN 22 (nf (fun h=>ft hD ((ad 18 _ rfl ((ad 19 _ rfl h).1 rfl)).1 rfl)))
    have hw:=hw.bN 23 (nf (fun h=>ft hD ((ad 18 _ rfl ((ad 19 _ rfl h).1 rfl)).1 rfl)))
    have hw:=hw.cF 23 (af.2.2.2.2.2.2.2.2.2.2.2.2.2.2.2.2.2.2.1 rfl)
    have hl910:=hw.fR 23
    have hr911:=iC (default:cD) hl910 cu
    refine RL.bQ 22 hw zr zr DC hr911 ?_
    have hw:=hw.eA 22 (D 19) (nf (fun h=>ft hD ((ad 18 _ rfl ((ad 19 _ rfl h).1 rfl)).1 rfl))) (own 129 aj (us829.set (Int.toNat ah) {(us829.getD (Int.toNat ah) (default:cD)) with gW:=rv ak}))
    have hw:=(hw.cG (hb:=af.2.2.2.2.2.2.2.2.2.2.2.2.2.2.2.2.2.2.1 rfl) 23 (D 16) (gL cA us829 ai.1 none)).eA 23 (D 19) (nf (fun h=>ft hD ((ad 18 _ rfl ((ad 19 _ rfl h).1 rfl)).1 rfl))) (gL cA (us829.set (Int.toNat ah) {(us829.getD (Int.toNat ah) (default:cD)) with gW:=rv ak}) (ai.1.set (Int.toNat ah) {b3 with gW:=br}) none)
    exact RL.nil ⟨rfl,(av,aw,au,ak),hv.pu 17,ha.u,zt,hw⟩
   ·rintro D U w hD af ad ⟨⟨av,aw,au,ak⟩,hv,ha,_,hw⟩
    obtain⟨O,rfl⟩:=(ac (hv.at 17 rfl (af.1 rfl)) az).eT
    have hw:=((hw.bN 22 (nh ad hD 19)).bN 23 (nh ad hD 19)).cF 23 (af.2.2.2.2.2.2.2.2.2.2.2.2.2.2.2.2.2.1 rfl)
    have hl912:=hw.fR 23
    have hr913:=iC (default:cD) hl912 cu
    refine RL.m8 (α:=cD) (jG 22 hw hr913 0) Ap ?_
    have hw:=(hw.eA 22 (D 19) (nh ad hD 19) (own 129 aj (us829.set (Int.toNat ah) {(us829.getD (Int.toNat ah) (default:cD)) with gW:=rv ak}))).cG (hb:=af.2.2.2.2.2.2.2.2.2.2.2.2.2.2.2.2.2.1 rfl) 23 (D 16) (gL cA us829 ai.1 none)
    have hw:=hw.eA 23 (D 19) (nh ad hD 19) (gL cA (us829.set (Int.toNat ah) {(us829.getD (Int.toNat ah) (default:cD)) with gW:=rv ak}) (ai.1.set (Int.toNat ah) {b3 with gW:=br}) none)
    exact RL.nil ⟨rfl,(av,aw,au,ak),hv.pu 18,ha.u,zt,hw⟩
   ·rintro D U w hD af ad ⟨⟨av,aw,au,ak⟩,hv,ha,_,hw⟩
    obtain⟨O,rfl⟩:=(ac (hv.at 16 rfl (af.2.1 rfl)) (ac (hv.at 18 rfl (af.1 rfl)) az)).eT
    have hw:=((((hw.bN 3 hD).cF 3 (af.2.1 rfl)).bN 22 hD).bN 23 hD).cF 23 (af.2.1 rfl)
    have hl914:=hw.fR 23
    have hr915:=iC (default:cD) hl914 cu
    refine RL.qe 22 23 3 ah rl (default:cD) hw zr zr (jG 22 hw hr915 2) zr zr zr cu FM fun w hw=>?_
    have hw:=((hw.cG 3 true (bif D 16 then (own 51 ak br) else aX)).cG 22 true (own 129 aj us829)).cG 23 true (bif D 16 then (gL cA us829 ai.1 (some (Int.toNat ah))) else (gL cA us829 ai.1 none))
    exact RL.nil ⟨rfl,(av,aw,au,ak),hv.n1,ha,zt,hw⟩
   rintro D U w a7 ⟨⟨av,aw,au,ak⟩,hv,ha,_,hw⟩
   have hw:=(((((hw.cF 0 (jk a7 13)).cF 1 (jk a7 14)).cF 2 (jk a7 16)).cF 3 (jk a7 19)).cF 22 (jk a7 19)).cF 23 (jk a7 19)
   obtain⟨O,rfl⟩:=(ac (ha.at 0 rfl) (ac (ha.at 1 rfl) (ac (ha.at 2 rfl) (ac (ha.at 3 rfl) (ac (ha.at 4 rfl) (ac (ha.at 5 rfl) (ac (ha.at 6 rfl) az))))))).eT
   obtain rfl:=oi hj
   exact⟨rfl,(us829.set (Int.toNat ah) {(us829.getD (Int.toNat ah) (default:cD)) with gW:=rv ak}),hw.sp 24 [4,18,19,20,21,22,23,14,15,16,17,6]⟩
  rintro _ w ⟨us877,O,rfl,hw⟩
  refine aG ?_
  obtain⟨ey,ez,hb⟩:=bd hb
  obtain⟨e3,e4,hb⟩:=bd hb
  refine RC.Ds E V mixed [1,1,1,1,1,0,1,0,0,1,1,1,0,0,0,0,1,1,0,1,1,0] [7,8,13,14,15,18,21] (fun(x:Value×Value×Value×Value×Value)=>(fun ay a1 a0 aq ax=>[(0,205,(vp b0 0)),(1,206,(vp b0 0)),(2,207,(vp b0 0)),(3,208,(vp b0 0)),(4,209,(vp b0 10)),(5,210,bl),(6,211,(vi bh.2)),(7,212,ay),(8,213,aq),(9,214,(vp b0 0)),(10,215,(vp b0 0)),(11,216,(vp b0 11)),(12,217,a6),(13,218,a1),(14,219,a0),(15,220,ax),(16,221,(vp b0 0)),(17,222,(vp b0 10)),(19,223,(vp b0 0)),(20,224,(vp b0 11))]) x.1 x.2.1 x.2.2.1 x.2.2.2.1 x.2.2.2.2) [(0,vp b0 0),(15,vp b8 0),(17,vi bh.2),(170,v0_3),(171,vi p0_3.length),(172,vi b2)] [] (fun(D:Nat->Bool) (x:Value×Value×Value×Value×Value)=>(fun ay a1 a0 aq ax=>[bif D 1 then (rd ay ([bh.2]: (List Int))) else (bif D 0 then (own 3 ay ([bh.2]: (List Int))) else aX),bif D 2 then (rd a1 ba.1) else aX,bif D 4 then (rd a0 ([ba.1]: (List dQ))) else (bif D 3 then (own 41 a0 ([ba.1]: (List dQ))) else aX),bif D 6 then (bc 126 b0 [v0_0,v0_1,v0_2,v0_3,v0_4,v0_5,v0_6,aj,a3,a4,aq,ax]) else (bif D 5 then (bc 126 b0 [v0_0,v0_1,v0_2,v0_3,v0_4,v0_5,v0_6,aj,a3,a4,aq,a6]) else (bc 126 b0 [v0_0,v0_1,v0_2,v0_3,v0_4,v0_5,v0_6,aj,a3,a4,bl,a6])),rd v0_2 p0_2,rd v0_3 p0_3,rd v0_5 p0_5,rd v0_6 p0_6,own 129 aj us877,gL cA us877 bh.1 none,rd a3 ai.2.1,rd a4 ai.2.2.1,bif D 1 then (own 3 aq ey) else (own 3 bl ai.2.2.2.1),bif D 4 then (own 41 ax e3) else (own 41 a6 ai.2.2.2.2),bx 41 b8 ba.1]) x.1 x.2.1 x.2.2.1 x.2.2.2.1 x.2.2.2.2) (fun x=>by kernel_rfl) ?_ ⟨fun _=>iT gn,fun _=>iT gn,fun _=>iT gn,fun _=>wI gn,fun _=>mu gn Aq,?_,fun _=>iT gn,?_,?_,fun _=>iT gn,fun _=>wI gn,fun _=>mu gn Ar,?_,?_,?_,?_,fun _=>wI gn,fun _=>mu gn Aq,?_,fun _=>wI gn,fun _=>mu gn Ar,?_,trivial⟩ ?_
  ·have hw:=(((hw.drew).aX).aX).aX
   exact⟨(undef,undef,undef,undef,undef),dX.none,(Cr zr),zt,hw⟩
  ·rintro D U w hD af ad ⟨⟨ay,a1,a0,aq,ax⟩,hv,ha,_,hw⟩
   obtain⟨O,rfl⟩:=(ac (hv.at 4 rfl (af.1 rfl)) az).eT
   have hw:=(hw.bN 3 (nh ad hD 21)).bN 3 (nh ad hD 18)
   refine RL.aY 3 bl hw fH ?_
   have hw:=(hw.eA 3 (D 18) (nh ad hD 18) (bc 126 b0 [v0_0,v0_1,v0_2,v0_3,v0_4,v0_5,v0_6,aj,a3,a4,aq,a6])).eA 3 (D 21) (nh ad hD 21) (bc 126 b0 [v0_0,v0_1,v0_2,v0_3,v0_4,v0_5,v0_6,aj,a3,a4,aq,ax])
   exact RL.nil ⟨rfl,(ay,a1,a0,aq,ax),hv.pu 5,ha.u,zt,hw⟩
  ·rintro D U w hD af ad ⟨⟨ay,a1,a0,aq,ax⟩,hv,ha,_,hw⟩
   obtain⟨O,rfl⟩:=(ac (hv.at 6 rfl (af.1 rfl)) az).eT
   have hw:=((hw.bN 0 (nh ad hD 8)).bN 0 hD).sc Int bh.2
   refine RL.dS ([bh.2]: (List Int)) hw [(vi bh.2)] eJ EY (fun M hs g=>⟨(g.sat 0 _ zr).1,zt⟩) fun dp w hw=>?_
   have hw:=((hw.pl 17 [0,3,4,5,6,7,8,9,10,11,12,13,14,15,16]).cG 0 true aX).eA 0 (D 8) (nh ad hD 8) (rd dp ([bh.2]: (List Int)))
   exact RL.nil ⟨rfl,(dp,a1,a0,aq,ax),hv.pu 7,ha.u,zt,hw⟩
  ·rintro D U w hD af ad ⟨⟨ay,a1,a0,aq,ax⟩,hv,ha,_,hw⟩
   obtain⟨O,rfl⟩:=(ac (hv.at 5 rfl (af.1 rfl)) (ac (hv.at 7 rfl (af.2.1 rfl)) az)).eT
   have hw:=(((((hw.bN 0 hD).cF 0 (af.2.1 rfl)).bN 3 (nh ad hD 21)).bN 3 (nh ad hD 18)).bN 12 hD).freeze 0
   refine RL.app 12 0 hw uz ez fun c4 w hw=>?_
   have hw:=((hw.cG 0 true (bif D 7 then (own 3 ay ([bh.2]: (List Int))) else aX)).eA 3 (D 18) (nh ad hD 18) (bc 126 b0 [v0_0,v0_1,v0_2,v0_3,v0_4,v0_5,v0_6,aj,a3,a4,c4,a6])).eA 3 (D 21) (nh ad hD 21) (bc 126 b0 [v0_0,v0_1,v0_2,v0_3,v0_4,v0_5,v0_6,aj,a3,a4,c4,ax])
   have hw:=hw.cG 12 true (own 3 bl ai.2.2.2.1)
   exact RL.nil ⟨rfl,(ay,a1,a0,c4,ax),hv.pu 8,ha.u,zt,hw⟩
  ·rintro D U w hD af ad ⟨⟨ay,a1,a0,aq,ax⟩,hv,ha,_,hw⟩
   obtain⟨O,rfl⟩:=(ac (hv.at 11 rfl (af.1 rfl)) az).eT
   have hw:=(hw.bN 3 (nh ad hD 21)).bN 3 (nh ad hD 18)
   refine RL.aY 3 a6 hw FN ?_
   have hw:=(hw.eA 3 (D 18) (nh ad hD 18) (bc 126 b0 [v0_0,v0_1,v0_2,v0_3,v0_4,v0_5,v0_6,aj,a3,a4,aq,a6])).eA 3 (D 21) (nh ad hD 21) (bc 126 b0 [v0_0,v0_1,v0_2,v0_3,v0_4,v0_5,v0_6,aj,a3,a4,aq,ax])
   exact RL.nil ⟨rfl,(ay,a1,a0,aq,ax),hv.pu 12,ha.u,zt,hw⟩
  ·rintro D U w hD af ad ⟨⟨ay,a1,a0,aq,ax⟩,hv,ha,_,hw⟩
   obtain⟨O,rfl⟩:=(ac (ha.at 1 rfl) az).eT
   have hw:=hw.bN 1 hD
   refine RL.aP (f:=(fun x=>x)) 14 hw zr Fd.self rn fun e5 hw=>?_
   have hw:=(hw.pl 16 [1,0,3,4,5,6,7,8,9,10,11,12,13,14,15]).cG 1 true aX
   exact RL.nil ⟨rfl,(ay,e5,a0,aq,ax),hv.pu 13,ha.u,zt,hw⟩
  ·rintro D U w hD af ad ⟨⟨ay,a1,a0,aq,ax⟩,hv,ha,_,hw⟩
   obtain⟨O,rfl⟩:=(ac (hv.at 13 rfl (af.1 rfl)) az).eT
   have hw:=((hw.cF 1 (af.1 rfl)).bN 2 (nh ad hD 15)).bN 2 hD
   refine RL.dS ([ba.1]: (List dQ)) hw [a1] H8 Hj (fun M hs g=>⟨(g.sat 1 _ zr).1,zt⟩) fun dq w hw=>?_
   have hw:=(((hw.pl 16 [1,2,0,4,5,6,7,8,9,10,11,12,13,14,15]).cG (hb:=af.1 rfl) 1 (D 13) aX).cG 2 true aX).eA 2 (D 15) (nh ad hD 15) (rd dq ([ba.1]: (List dQ)))
   exact RL.nil ⟨rfl,(ay,a1,dq,aq,ax),hv.pu 14,ha.u,zt,hw⟩
  ·rintro D U w hD af ad ⟨⟨ay,a1,a0,aq,ax⟩,hv,ha,_,hw⟩
   obtain⟨O,rfl⟩:=(ac (hv.at 12 rfl (af.1 rfl)) (ac (hv.at 14 rfl (af.2.1 rfl)) az)).eT
   have hw:=(((((hw.bN 2 hD).cF 2 (af.2.1 rfl)).bN 3 (nh ad hD 21)).bN 3 (nh ad hD 18)).bN 13 hD).freeze 2
   refine RL.app 13 2 hw Km e4 fun dr w hw=>?_
   have hw:=((hw.cG 2 true (bif D 14 then (own 41 a0 ([ba.1]: (List dQ))) else aX)).eA 3 (D 18) (nh ad hD 18) (bc 126 b0 [v0_0,v0_1,v0_2,v0_3,v0_4,v0_5,v0_6,aj,a3,a4,aq,a6])).eA 3 (D 21) (nh ad hD 21) (bc 126 b0 [v0_0,v0_1,v0_2,v0_3,v0_4,v0_5,v0_6,aj,a3,a4,aq,dr])
   have hw:=hw.cG 13 true (own 41 a6 ai.2.2.2.2)
   exact RL.nil ⟨rfl,(ay,a1,a0,aq,dr),hv.pu 15,ha.u,zt,hw⟩
  ·rintro D U w hD af ad ⟨⟨ay,a1,a0,aq,ax⟩,hv,ha,_,hw⟩
   obtain⟨O,rfl⟩:=(ac (hv.at 8 rfl (af.2.1 rfl)) (ac (hv.at 17 rfl (af.1 rfl)) az)).eT
   have hw:=((hw.bN 3 (nh ad hD 21)).bN 3 hD).cF 12 (af.2.1 rfl)
   refine RL.gV 3 aq hw zr zr (iB 12 hw) fH fun w hw=>?_
   have hw:=((hw.cG 3 true (bc 126 b0 [v0_0,v0_1,v0_2,v0_3,v0_4,v0_5,v0_6,aj,a3,a4,bl,a6])).eA 3 (D 21) (nh ad hD 21) (bc 126 b0 [v0_0,v0_1,v0_2,v0_3,v0_4,v0_5,v0_6,aj,a3,a4,aq,ax])).cG (hb:=af.2.1 rfl) 12 (D 8) (own 3 bl ai.2.2.2.1)
   exact RL.nil ⟨rfl,(ay,a1,a0,aq,ax),hv.n1,ha,zt,hw⟩
  ·rintro D U w hD af ad ⟨⟨ay,a1,a0,aq,ax⟩,hv,ha,_,hw⟩
   obtain⟨O,rfl⟩:=(ac (hv.at 15 rfl (af.2.1 rfl)) (ac (hv.at 19 rfl (af.1 rfl)) az)).eT
   have hw:=((hw.bN 3 hD).cF 3 (af.2.2.1 rfl)).cF 13 (af.2.1 rfl)
   refine RL.gV 3 ax hw zr zr (iB 13 hw) FN fun w hw=>?_
   have hw:=(hw.cG 3 true (bif D 18 then (bc 126 b0 [v0_0,v0_1,v0_2,v0_3,v0_4,v0_5,v0_6,aj,a3,a4,aq,a6]) else (bc 126 b0 [v0_0,v0_1,v0_2,v0_3,v0_4,v0_5,v0_6,aj,a3,a4,bl,a6]))).cG (hb:=af.2.1 rfl) 13 (D 15) (own 41 a6 ai.2.2.2.2)
   exact RL.nil ⟨rfl,(ay,a1,a0,aq,ax),hv.n1,ha,zt,hw⟩
  rintro D U w a7 ⟨⟨ay,a1,a0,aq,ax⟩,hv,ha,_,hw⟩
  have hw:=(((((hw.cF 0 (jk a7 8)).cF 1 (jk a7 13)).cF 2 (jk a7 15)).cF 3 (jk a7 21)).cF 12 (jk a7 8)).cF 13 (jk a7 15)
  obtain⟨O,rfl⟩:=(ac (ha.at 0 rfl) (ac (ha.at 1 rfl) (ac (ha.at 2 rfl) (ac (ha.at 3 rfl) (ac (ha.at 4 rfl) (ac (ha.at 5 rfl) az)))))).eT
  refine bK (aG (RC.region (RL.inc hk hm (mv (vi ((b2+1:Nat):Int)) (RL.nil ?_)))))
  obtain rfl:=oi hb
  exact⟨rfl,a3,a4,aq,ax,us877,hw.sp 15 [3,10,11,12,13,4,5,6,7,8,9]⟩
 rintro _ w ⟨cp,cq,cr,ct,us824,O,rfl,hw⟩
 obtain rfl:=oi hb
 have hw:=hw.wZ (X:=cA) (b:=10) (j:=9) rfl (fun M h u x cs=>Ak M h u x cs) rfl rfl (by decide)
 refine y8 ?_
 exact E2 ⟨aj,cp,cq,cr,ct,zr,hw.pk 11 [0,9,1,2,3,4]⟩
def pg (E:World) (V:List HP) (r:Option ((List (List aI))×(List aI)×(List bW)×(List cU)×(List (List aA))×(List aH)×(List (List Int))×(List cI)×(List Int)×(List Int)×(List Int)×(List dQ))×Int) (U:Nat->Value) (w:World):Prop:=l5 bF 112 Tryz.f26 (mS E V r) .ret U w
theorem mj {p0:gU} {res:Option ((List (List aI))×(List aI)×(List bW)×(List cU)×(List (List aA))×(List aH)×(List (List Int))×(List cI)×(List Int)×(List Int)×(List Int)×(List dQ))×Int} (j:Holds E w V) (h0:V[i0]? =some (rd v0 p0)) (hb:eF N p0=some res):
    Calls bF 26 [v0].toArray w (gI (mS E V res)):=by
 unfold eF at hb
 refine enter Tryz.func26 zr zr ?_
 have j:=j.dup (i0+0) h0
 refine RC.sr (RL.dB 0 v0 j zr fun al w j=>?_)
 refine aK (.pointer none) (aK (vi 0) (RL.nq (RC.sr (RL.aZ zr vE (RL.aP 0 j zr pE Eh fun c0 j=>(RL.bD 0 p0.aL j BF (ic ((p0.aL.length:Int)) 0 (RL.nt ?_))))))))
 refine eQ hb (fun hc hb=>?_) fun hc hb=>?_
 ·refine RC.sr (aK (.pointer none) (aK (vi 9) (RL.nt (RC.rt ?_))))
  obtain rfl:=oi hb
  exact i5 ⟨rfl,j.drop 3⟩
 refine RC.ss (RC.sr (RL.aZ zr vE (RL.aP 1 j zr pE Eh fun c1 j=>(RL.bD 0 p0.aL j BF (ic ((p0.aL.length:Int)) 16 (RL.nt (eQ hb (fun hc hb=>?_) fun hc hb=>?_)))))))
 ·refine RC.sr (aK (.pointer none) (aK (vi 2) (RL.nt (RC.rt ?_))))
  obtain rfl:=oi hb
  exact i5 ⟨rfl,j.drop 4⟩
 refine RC.sx (RL.aZ zr FC (RL.aP 2 j zr xA xH fun c2 j=>(RL.bD 0 p0.dF j oG (aK (vi p0.dF.length) (RL.nq (RC.sr (RL.aZ zr vE (RL.aP 3 j zr pE Eh fun bn j=>?_))))))))
 refine RL.bD 0 p0.aL j BF (mv (vi 0) (RL.nt ?_))
 obtain⟨c3,hN,hb⟩:=bd hb
 refine RC.range (fun(bh:Nat) (aw:Int)=>SH E V [(1,vp al 0),(4,vi aw),(28,bn),(29,vi p0.aL.length),(30,vi bh)] [bx 27 al p0,rd bn p0.aL]) (fun(aw:Int)=>SH E V [(1,vp al 0),(4,vi aw)] [bx 27 al p0,rd bn p0.aL]) (pg E V) hN ?_ ?_ ?_ ?_ ?_
 ·exact j.sp 6 [4,0]
 ·rintro hm aw _ w ⟨O,rfl,j⟩
  refine RC.sr (ic ((p0.aL.length:Int)) ((p0.aL.length:Int)) (RL.nq (RC.cN lS (RC.ex ?_))))
  exact⟨rfl,j.sp 2 [0,1]⟩
 ·rintro hm bh aw fl _ w hk ⟨O,rfl,j⟩ hb
  refine RC.sr (ic ((bh:Int)) ((p0.aL.length:Int)) (RL.nq (RC.cM (lR hk) (RC.ss (RC.bs ?_)))))
  obtain⟨bj,bu,hb⟩:=bd hb
  refine RL.cC 1 j CK bu fun c4 j=>(RL.bV 0 bj j xH fun bk j=>(aK bk (RL.nq (RC.sr (mv bk ?_)))))
  obtain⟨a6,bw,hb⟩:=bd hb
  refine RL.call zt zr JH [bk] zr (aF (mX N (i0:=0) j zr bw) ?_)
  rintro _ w ⟨rfl,j⟩
  refine aK (vi a6) (RL.ns (mv (vi a6) (ic a6 0 (RL.nt (eQ hb (fun hc hb=>?_) fun hc hb=>?_)))))
  ·refine RC.sr (mv (vi a6) (aK (.pointer none) (aK (vi a6) (RL.nt (RC.rt (jR (bS ?_)))))))
   obtain rfl:=oi hb
   exact⟨rfl,i5 ⟨rfl,j.drop 4⟩⟩
  refine RC.sn (RC.region (mv (vi aw) (mv bk (RL.bD 0 bj j oG (RL.jA aw (bj.length:Int) (aK (vi (IntKind.wrap .i64 (aw+ (bj.length:Int)))) (RL.nil (bK ?_))))))))
  refine aG (RC.region (RL.inc hk hm (mv (vi ((bh+1:Nat):Int)) (RL.nil ?_))))
  obtain rfl:=oi hb
  exact⟨rfl,j.sp 4 [2,3]⟩
 ·intro r U w e hK
  subst e
  refine bS ?_
  obtain rfl:=oi hb
  exact hK
 rintro aw _ w rfl ⟨O,rfl,j⟩
 rw [Fo.gl] at hb
 refine aG (RC.seq (RC.sr (RL.aZ zr FC (RL.aP 0 j zr xA xH fun bz j=>?_))))
 obtain⟨a8,b0,hb⟩:=bd hb
 refine RL.call zt zr JH [bz] zr (aF (mX N (i0:=0) j zr b0) ?_)
 rintro _ w ⟨rfl,j⟩
 refine aK (vi a8) (RL.ns (mv (vi a8) (ic a8 0 (RL.nt (eQ hb (fun hc hb=>?_) fun hc hb=>?_)))))
 ·refine RC.sr (mv (vi a8) (aK (.pointer none) (aK (vi a8) (RL.nt (RC.rt ?_)))))
  obtain rfl:=oi hb
  exact i5 ⟨rfl,j.drop 3⟩
 refine RC.ss (RC.sr (mv (vi aw) (ic aw 2000 (RL.nt (eQ hb (fun hc hb=>?_) fun hc hb=>?_)))))
 ·refine RC.sr (aK (.pointer none) (aK (vi 2) (RL.nt (RC.rt ?_))))
  obtain rfl:=oi hb
  exact i5 ⟨rfl,j.drop 3⟩
 refine RC.ss (RC.sr (RL.aP (f:=(fun x=>x)) 1 j zr Fd.self nF fun b1 j=>?_))
 obtain⟨a9,b2,hb⟩:=bd hb
 refine RL.call zt zr Lz [b1] zr (aF (ry N (i0:=0) j zr b2) ?_)
 rintro _ w ⟨rfl,j⟩
 refine aK (vi a9) (RL.ns (mv (vi a9) (ic a9 0 (RL.nt (eQ hb (fun hc hb=>?_) fun hc hb=>?_)))))
 ·refine RC.sr (mv (vi a9) (aK (.pointer none) (aK (vi a9) (RL.nt (RC.rt ?_)))))
  obtain rfl:=oi hb
  exact i5 ⟨rfl,j.drop 4⟩
 refine RC.ss (RC.sr (RL.aP (f:=(fun x=>x)) 2 j zr Fd.self nF fun b3 j=>?_))
 obtain⟨ba,b4,hb⟩:=bd hb
 refine RL.call zt zr LD [b3] zr (aF (rC N (i0:=0) j zr b4) ?_)
 rintro _ w ⟨rfl,j⟩
 refine aK (vi ba) (RL.ns (mv (vi ba) (ic ba 0 (RL.nt (eQ hb (fun hc hb=>?_) fun hc hb=>?_)))))
 ·refine RC.sr (mv (vi ba) (aK (.pointer none) (aK (vi ba) (RL.nt (RC.rt ?_)))))
  obtain rfl:=oi hb
  exact i5 ⟨rfl,j.drop 5⟩
 refine RC.ss (RC.sr (RL.aZ zr mJ (RL.aP 3 j zr rh vF fun ar j=>(RL.bD 0 p0.aV j xI (mv (vi 0) (RL.nt ?_))))))
 obtain⟨c5,hN,hb⟩:=bd hb
 refine RC.range (fun(av:Nat) (bl:Unit)=>SH E V [(1,vp al 0),(63,ar),(64,vi p0.aV.length),(65,vi av)] [bx 27 al p0,rd ar p0.aV]) (fun(bl:Unit)=>SH E V [(1,vp al 0)] [bx 27 al p0,rd ar p0.aV]) (pg E V) hN ?_ ?_ ?_ ?_ ?_
 ·exact j.sp 6 [4,0]
 ·rintro hm bl _ w ⟨O,rfl,j⟩
  refine RC.sr (ic ((p0.aV.length:Int)) ((p0.aV.length:Int)) (RL.nq (RC.cN lS (RC.ex ?_))))
  exact⟨rfl,j.sp 2 [0,1]⟩
 ·rintro hm av bl fl _ w hk ⟨O,rfl,j⟩ hb
  refine RC.sr (ic ((av:Int)) ((p0.aV.length:Int)) (RL.nq (RC.cM (lR hk) (RC.ss (RC.bs (mv (vi av) ?_))))))
  obtain⟨eR,b5,hb⟩:=bd hb
  refine RL.cC 1 j Al b5 fun c6 j=>(RL.bV 0 eR j lf fun c7 j=>(RL.alloc j zp.z fun ak w j=>?_))
  refine aK (vi av) (RL.bA 0 j 1 zr lf fun w j=>?_)
  refine RL.ns (RL.aZ zr mJ (RL.aP 3 j zr rh vF fun c8 j=>(mv (vi av) ?_)))
  obtain⟨au,b6,hb⟩:=bd hb
  refine RL.cut (hl:= .inr ⟨rfl,zr⟩) 0 j Al (.inl zr) b6 fun a0 j=>(RL.bD 0 au j xI (mv (vi 0) (RL.nt ?_)))
  obtain⟨c9,hN,hb⟩:=bd hb
  refine RC.range (fun(a3:Nat) (bm:Unit)=>SH E V [(1,vp al 0),(12,vp ak 0),(63,ar),(64,vi p0.aV.length),(65,vi av),(73,a0),(74,vi au.length),(75,vi a3)] [bx 27 al p0,bx 117 ak eR,rd ar p0.aV,rd a0 au]) (fun(bm:Unit)=>SH E V [(1,vp al 0),(63,ar),(64,vi p0.aV.length),(65,vi av)] [bx 27 al p0,bx 117 ak eR,rd ar p0.aV,rd a0 au]) (pg E V) hN ?_ ?_ ?_ ?_ ?_
  ·exact j.sp 7 [5,2,6,0]
  ·rintro hm bm _ w ⟨O,rfl,j⟩
   refine RC.sr (ic ((au.length:Int)) ((au.length:Int)) (RL.nq (RC.cN lS (RC.ex ?_))))
   exact⟨rfl,j.sp 4 [0,1,2,3]⟩
  ·rintro hm a3 bm fl _ w hk ⟨O,rfl,j⟩ hb
   refine RC.sr (ic ((a3:Int)) ((au.length:Int)) (RL.nq (RC.cM (lR hk) (RC.ss (RC.bs ?_)))))
   obtain⟨aa,b7,hb⟩:=bd hb
   refine RL.cC 3 j Al b7 fun br j=>(RL.bV 0 aa j lf fun bt j=>(RL.alloc j zp.z fun aq w j=>?_))
   refine RL.bA 0 j 1 zr lf fun w j=>?_
   refine RL.nq ?_
   obtain⟨bo,hj,hb⟩:=bd hb
   refine RC.jn (fun(bo:Bool)=>SH E V [(1,vp al 0),(12,vp ak 0),(63,ar),(64,vi p0.aV.length),(65,vi av),(73,a0),(74,vi au.length),(75,vi a3),(98,vb bo)] [bx 27 al p0,bx 117 ak eR,rd ar p0.aV,rd a0 au]) bo ?_ ?_
   ·refine fM hj (fun ao hj=>?_) fun ao hj=>?_
    rotate_left
    ·refine RC.Ds E V mixed [1,0,1,0,1,1,0,0,0,0,0,0,1,1,1,1,1,1,1,1] [] (fun(x:Unit)=>[(0,79,(vp ak 3)),(1,80,(vi eR.bU)),(2,81,(vp aq 4)),(3,82,(vi aa.To)),(4,83,(vb (decide (eR.bU<=aa.To)))),(5,84,(vb (decide (eR.bU<=aa.To)))),(6,85,(cv (true&&((decide (eR.bU<=aa.To))==true)) (vp aq 3))),(7,86,(cv (true&&((decide (eR.bU<=aa.To))==true)) (vi aa.bU))),(8,87,(cv (true&&((decide (eR.bU<=aa.To))==true)) (vp ak 4))),(9,88,(cv (true&&((decide (eR.bU<=aa.To))==true)) (vi eR.To))),(10,89,(cv (true&&((decide (eR.bU<=aa.To))==true)) (vb (decide (aa.bU<=eR.To))))),(11,90,(vb ((decide (eR.bU<=aa.To))&&(decide (aa.bU<=eR.To))))),(12,91,(vb ((decide (eR.bU<=aa.To))&&(decide (aa.bU<=eR.To))))),(13,92,undef),(14,93,undef),(15,94,undef),(16,95,undef),(17,96,undef),(18,97,undef),(19,98,(vb false))]) [(1,vp al 0),(12,vp ak 0),(14,vp aq 0),(63,ar),(64,vi p0.aV.length),(65,vi av),(73,a0),(74,vi au.length),(75,vi a3)] [] (fun(D:Nat->Bool) (x:Unit)=>[bx 117 aq aa,rd bt aa,pt br aa,bx 27 al p0,bx 117 ak eR,rd ar p0.aV,rd a0 au]) (fun x=>by kernel_rfl) ?_ ⟨fun _=>mu gn qp,?_,fun _=>mu gn sj,?_,fun _=>IE gn rfl,fun _=>iT gn,?_,?_,?_,?_,?_,?_,fun _=>iT gn,fun _=>D7 ao,fun _=>D7 ao,fun _=>D7 ao,fun _=>D7 ao,fun _=>D7 ao,fun _=>D7 ao,fun _=>Lr gn ao rfl,trivial⟩ ?_
     ·have j:=j.drew
      exact⟨(),dX.none,(Cr zr),zt,j⟩
     ·rintro D U w hD ad aj ⟨_,o,ha,_,j⟩
      obtain⟨O,rfl⟩:=(ac (o.at 0 rfl (ad.1 rfl)) az).eT
      refine RL.aM 4 j zr mE cQ ?_
      exact RL.nil ⟨rfl,(),o.pu 1,ha.u,zt,j⟩
     ·rintro D U w hD ad aj ⟨_,o,ha,_,j⟩
      obtain⟨O,rfl⟩:=(ac (o.at 2 rfl (ad.1 rfl)) az).eT
      refine RL.aM 0 j zr nP cQ ?_
      exact RL.nil ⟨rfl,(),o.pu 3,ha.u,zt,j⟩
     ·rintro D U w hD ad aj ⟨_,o,ha,_,j⟩
      obtain⟨O,rfl⟩:=(ac (o.at 5 rfl (ad.1 rfl)) (ac (ha.at 2 rfl) az)).eT
      refine RL.gs true (decide (eR.bU<=aa.To)) (vp aq 3) zr zr zr (dN qp) ?_
      exact RL.nil ⟨rfl,(),o.pu 6,ha.u,zt,j⟩
     ·rintro D U w hD ad aj ⟨_,o,ha,_,j⟩
      obtain⟨O,rfl⟩:=(ac (o.at 5 rfl (ad.2.1 rfl)) (ac (o.at 6 rfl (ad.1 rfl)) az)).eT
      refine RL.gs true (decide (eR.bU<=aa.To)) (vi aa.bU) rfl rfl rfl (bZ 0 rfl j (fun h=>by exact(cV h:cv (true&&((decide (eR.bU<=aa.To))==true)) (vp aq 3)= (vp aq 3))) rfl mE cQ) ?_
      exact RL.nil ⟨rfl,(),o.pu 7,ha.u,zt,j⟩
     ·rintro D U w hD ad aj ⟨_,o,ha,_,j⟩
      obtain⟨O,rfl⟩:=(ac (o.at 5 rfl (ad.1 rfl)) (ac (ha.at 1 rfl) az)).eT
      refine RL.gs true (decide (eR.bU<=aa.To)) (vp ak 4) zr zr zr (dN sj) ?_
      exact RL.nil ⟨rfl,(),o.pu 8,ha.u,zt,j⟩
     ·rintro D U w hD ad aj ⟨_,o,ha,_,j⟩
      obtain⟨O,rfl⟩:=(ac (o.at 5 rfl (ad.2.1 rfl)) (ac (o.at 8 rfl (ad.1 rfl)) az)).eT
      refine RL.gs true (decide (eR.bU<=aa.To)) (vi eR.To) rfl rfl rfl (bZ 4 rfl j (fun h=>by exact(cV h:cv (true&&((decide (eR.bU<=aa.To))==true)) (vp ak 4)= (vp ak 4))) rfl nP cQ) ?_
      exact RL.nil ⟨rfl,(),o.pu 9,ha.u,zt,j⟩
     ·rintro D U w hD ad aj ⟨_,o,ha,_,j⟩
      obtain⟨O,rfl⟩:=(ac (o.at 5 rfl (ad.2.2.1 rfl)) (ac (o.at 7 rfl (ad.1 rfl)) (ac (o.at 9 rfl (ad.2.1 rfl)) az))).eT
      refine RL.gs true (decide (eR.bU<=aa.To)) (vb (decide (aa.bU<=eR.To))) rfl rfl rfl (eE .leq .i64 aa.bU eR.To rfl (fun h=>by exact(cV h:cv (true&&((decide (eR.bU<=aa.To))==true)) (vi aa.bU)= (vi aa.bU))) (fun h=>by exact(cV h:cv (true&&((decide (eR.bU<=aa.To))==true)) (vi eR.To)= (vi eR.To))) rfl) ?_
      exact RL.nil ⟨rfl,(),o.pu 10,ha.u,zt,j⟩
     ·rintro D U w hD ad aj ⟨_,o,ha,_,j⟩
      obtain⟨O,rfl⟩:=(ac (o.at 5 rfl (ad.1 rfl)) (ac (o.at 10 rfl (ad.2.1 rfl)) az)).eT
      refine RL.pick (decide (eR.bU<=aa.To)) (vb ((decide (eR.bU<=aa.To))&&(decide (aa.bU<=eR.To)))) (i6 true) ?_
      exact RL.nil ⟨rfl,(),o.pu 11,ha.u,zt,j⟩
     rintro D U w a4 ⟨_,o,ha,_,j⟩
     obtain⟨O,rfl⟩:=(ac (o.at 19 rfl (jk a4 19)) (ac (ha.at 0 rfl) (ac (ha.at 1 rfl) (ac (ha.at 2 rfl) (ac (ha.at 3 rfl) (ac (ha.at 4 rfl) (ac (ha.at 5 rfl) (ac (ha.at 6 rfl) (ac (ha.at 7 rfl) (ac (ha.at 8 rfl) az)))))))))).eT
     obtain rfl:=oi hj
     exact⟨rfl,j.sp 7 [3,4,5,6]⟩
    obtain⟨b8,b9,hj⟩:=bd hj
    obtain⟨ca,cb,hj⟩:=bd hj
    obtain⟨bp,cc,hj⟩:=bd hj
    refine RC.Ds E V mixed [1,0,1,0,1,1,0,0,0,0,0,0,1,0,0,0,0,0,1,1] [13,14,15,16] (fun(x:Value×Value×Value×Value)=>(fun ae af ag ah=>[(0,79,(vp ak 3)),(1,80,(vi eR.bU)),(2,81,(vp aq 4)),(3,82,(vi aa.To)),(4,83,(vb (decide (eR.bU<=aa.To)))),(5,84,(vb (decide (eR.bU<=aa.To)))),(6,85,(cv (true&&((decide (eR.bU<=aa.To))==true)) (vp aq 3))),(7,86,(cv (true&&((decide (eR.bU<=aa.To))==true)) (vi aa.bU))),(8,87,(cv (true&&((decide (eR.bU<=aa.To))==true)) (vp ak 4))),(9,88,(cv (true&&((decide (eR.bU<=aa.To))==true)) (vi eR.To))),(10,89,(cv (true&&((decide (eR.bU<=aa.To))==true)) (vb (decide (aa.bU<=eR.To))))),(11,90,(vb ((decide (eR.bU<=aa.To))&&(decide (aa.bU<=eR.To))))),(12,91,(vb ((decide (eR.bU<=aa.To))&&(decide (aa.bU<=eR.To))))),(13,92,ae),(14,93,af),(15,94,ag),(16,95,ah),(17,96,(vi bp)),(18,97,(vb (bp==0))),(19,98,(vb (bp==0)))]) x.1 x.2.1 x.2.2.1 x.2.2.2) [(1,vp al 0),(12,vp ak 0),(14,vp aq 0),(63,ar),(64,vi p0.aV.length),(65,vi av),(73,a0),(74,vi au.length),(75,vi a3)] [] (fun(D:Nat->Bool) (x:Value×Value×Value×Value)=>(fun ae af ag ah=>[bif D 0 then (rd ae eR) else aX,bif D 1 then (rd af b8) else aX,bif D 2 then (rd ag aa) else aX,bif D 3 then (rd ah ca) else aX,bx 117 aq aa,rd bt aa,pt br aa,bx 27 al p0,bx 117 ak eR,rd ar p0.aV,rd a0 au]) x.1 x.2.1 x.2.2.1 x.2.2.2) (fun x=>by kernel_rfl) ?_ ⟨fun _=>mu gn qp,?_,fun _=>mu gn sj,?_,fun _=>IE gn rfl,fun _=>iT gn,?_,?_,?_,?_,?_,?_,fun _=>iT gn,?_,?_,?_,?_,?_,fun _=>IE (gy ao rfl) rfl,fun _=>Lq gn ao rfl,trivial⟩ ?_
    ·have j:=((((j.drew).aX).aX).aX).aX
     exact⟨(undef,undef,undef,undef),dX.none,(Cr zr),zt,j⟩
    ·rintro D U w hD ad aj ⟨⟨ae,af,ag,ah⟩,o,ha,_,j⟩
     obtain⟨O,rfl⟩:=(ac (o.at 0 rfl (ad.1 rfl)) az).eT
     refine RL.aM 8 j zr mE cQ ?_
     exact RL.nil ⟨rfl,(ae,af,ag,ah),o.pu 1,ha.u,zt,j⟩
    ·rintro D U w hD ad aj ⟨⟨ae,af,ag,ah⟩,o,ha,_,j⟩
     obtain⟨O,rfl⟩:=(ac (o.at 2 rfl (ad.1 rfl)) az).eT
     refine RL.aM 4 j zr nP cQ ?_
     exact RL.nil ⟨rfl,(ae,af,ag,ah),o.pu 3,ha.u,zt,j⟩
    ·rintro D U w hD ad aj ⟨⟨ae,af,ag,ah⟩,o,ha,_,j⟩
     obtain⟨O,rfl⟩:=(ac (o.at 5 rfl (ad.1 rfl)) (ac (ha.at 2 rfl) az)).eT
     refine RL.gs true (decide (eR.bU<=aa.To)) (vp aq 3) zr zr zr (dN qp) ?_
     exact RL.nil ⟨rfl,(ae,af,ag,ah),o.pu 6,ha.u,zt,j⟩
    ·rintro D U w hD ad aj ⟨⟨ae,af,ag,ah⟩,o,ha,_,j⟩
     obtain⟨O,rfl⟩:=(ac (o.at 5 rfl (ad.2.1 rfl)) (ac (o.at 6 rfl (ad.1 rfl)) az)).eT
     refine RL.gs true (decide (eR.bU<=aa.To)) (vi aa.bU) rfl rfl rfl (bZ 4 rfl j (fun h=>by exact(cV h:cv (true&&((decide (eR.bU<=aa.To))==true)) (vp aq 3)= (vp aq 3))) rfl mE cQ) ?_
     exact RL.nil ⟨rfl,(ae,af,ag,ah),o.pu 7,ha.u,zt,j⟩
    ·rintro D U w hD ad aj ⟨⟨ae,af,ag,ah⟩,o,ha,_,j⟩
     obtain⟨O,rfl⟩:=(ac (o.at 5 rfl (ad.1 rfl)) (ac (ha.at 1 rfl) az)).eT
     refine RL.gs true (decide (eR.bU<=aa.To)) (vp ak 4) zr zr zr (dN sj) ?_
     exact RL.nil ⟨rfl,(ae,af,ag,ah),o.pu 8,ha.u,zt,j⟩
    ·rintro D U w hD ad aj ⟨⟨ae,af,ag,ah⟩,o,ha,_,j⟩
     obtain⟨O,rfl⟩:=(ac (o.at 5 rfl (ad.2.1 rfl)) (ac (o.at 8 rfl (ad.1 rfl)) az)).eT
     refine RL.gs true (decide (eR.bU<=aa.To)) (vi eR.To) rfl rfl rfl (bZ 8 rfl j (fun h=>by exact(cV h:cv (true&&((decide (eR.bU<=aa.To))==true)) (vp ak 4)= (vp ak 4))) rfl nP cQ) ?_
     exact RL.nil ⟨rfl,(ae,af,ag,ah),o.pu 9,ha.u,zt,j⟩
    ·rintro D U w hD ad aj ⟨⟨ae,af,ag,ah⟩,o,ha,_,j⟩
     obtain⟨O,rfl⟩:=(ac (o.at 5 rfl (ad.2.2.1 rfl)) (ac (o.at 7 rfl (ad.1 rfl)) (ac (o.at 9 rfl (ad.2.1 rfl)) az))).eT
     refine RL.gs true (decide (eR.bU<=aa.To)) (vb (decide (aa.bU<=eR.To))) rfl rfl rfl (eE .leq .i64 aa.bU eR.To rfl (fun h=>by exact(cV h:cv (true&&((decide (eR.bU<=aa.To))==true)) (vi aa.bU)= (vi aa.bU))) (fun h=>by exact(cV h:cv (true&&((decide (eR.bU<=aa.To))==true)) (vi eR.To)= (vi eR.To))) rfl) ?_
     exact RL.nil ⟨rfl,(ae,af,ag,ah),o.pu 10,ha.u,zt,j⟩
    ·rintro D U w hD ad aj ⟨⟨ae,af,ag,ah⟩,o,ha,_,j⟩
     obtain⟨O,rfl⟩:=(ac (o.at 5 rfl (ad.1 rfl)) (ac (o.at 10 rfl (ad.2.1 rfl)) az)).eT
     refine RL.pick (decide (eR.bU<=aa.To)) (vb ((decide (eR.bU<=aa.To))&&(decide (aa.bU<=eR.To)))) (i6 true) ?_
     exact RL.nil ⟨rfl,(ae,af,ag,ah),o.pu 11,ha.u,zt,j⟩
    ·rintro D U w hD ad aj ⟨⟨ae,af,ag,ah⟩,o,ha,_,j⟩
     obtain⟨O,rfl⟩:=(ac (o.at 12 rfl (ad.1 rfl)) (ac (ha.at 1 rfl) az)).eT
     have j:=j.bN 0 hD
     refine RL.aP (hg:=(cg ao)) (f:=(fun x=>x)) 8 j zr Fd.self lf fun cd j=>?_
     have j:=(j.pl 12 [0,2,3,4,5,6,7,8,9,10,11]).cG 0 true aX
     exact RL.nil ⟨rfl,(cd,af,ag,ah),o.pu 13,ha.u,zt,j⟩
    ·rintro D U w hD ad aj ⟨⟨ae,af,ag,ah⟩,o,ha,_,j⟩
     obtain⟨O,rfl⟩:=(ac (o.at 12 rfl (ad.2.1 rfl)) (ac (o.at 13 rfl (ad.1 rfl)) az)).eT
     have j:=(j.cF 0 (ad.1 rfl)).bN 1 hD
     refine RL.call (cg ao) zr Ej [ae] zr (aF (gQ N (i0:=0) j zr b9) ?_)
     rintro cf w j
     have j:=((j.pl 12 [1,0,3,4,5,6,7,8,9,10,11]).cG (hb:=ad.1 rfl) 0 (D 13) aX).cG 1 true aX
     exact RL.nil ⟨rfl,(ae,cf,ag,ah),o.pu 14,ha.u,zt,j⟩
    ·rintro D U w hD ad aj ⟨⟨ae,af,ag,ah⟩,o,ha,_,j⟩
     obtain⟨O,rfl⟩:=(ac (o.at 12 rfl (ad.1 rfl)) (ac (ha.at 2 rfl) az)).eT
     have j:=j.bN 2 hD
     refine RL.aP (hg:=(cg ao)) (f:=(fun x=>x)) 4 j zr Fd.self lf fun ch j=>?_
     have j:=(j.pl 12 [1,2,0,4,5,6,7,8,9,10,11]).cG 2 true aX
     exact RL.nil ⟨rfl,(ae,af,ch,ah),o.pu 15,ha.u,zt,j⟩
    ·rintro D U w hD ad aj ⟨⟨ae,af,ag,ah⟩,o,ha,_,j⟩
     obtain⟨O,rfl⟩:=(ac (o.at 12 rfl (ad.2.2.1 rfl)) (ac (o.at 15 rfl (ad.1 rfl)) az)).eT
     have j:=(j.cF 2 (ad.1 rfl)).bN 3 hD
     refine RL.call (cg ao) zr Ej [ag] zr (aF (gQ N (i0:=2) j zr cb) ?_)
     rintro cj w j
     have j:=((j.pl 12 [1,2,3,0,5,6,7,8,9,10,11]).cG (hb:=ad.1 rfl) 2 (D 15) aX).cG 3 true aX
     exact RL.nil ⟨rfl,(ae,af,ag,cj),o.pu 16,ha.u,zt,j⟩
    ·rintro D U w hD ad aj ⟨⟨ae,af,ag,ah⟩,o,ha,_,j⟩
     obtain⟨O,rfl⟩:=(ac (o.at 12 rfl (ad.2.2.2.1 rfl)) (ac (o.at 14 rfl (ad.1 rfl)) (ac (o.at 16 rfl (ad.2.1 rfl)) az))).eT
     have j:=(j.cF 1 (ad.1 rfl)).cF 3 (ad.2.1 rfl)
     refine RL.call (cg ao) zr Hi [af,ah] zr (aF (nJ N (i0:=1) (i1:=3) j zr zr cc) ?_)
     rintro _ w ⟨rfl,j⟩
     have j:=(j.cG (hb:=ad.1 rfl) 1 (D 14) aX).cG (hb:=ad.2.1 rfl) 3 (D 16) aX
     exact RL.nil ⟨rfl,(ae,af,ag,ah),o.pu 17,ha.u,zt,j⟩
    rintro D U w a4 ⟨⟨ae,af,ag,ah⟩,o,ha,_,j⟩
    have j:=(((j.cF 0 (jk a4 13)).cF 1 (jk a4 14)).cF 2 (jk a4 15)).cF 3 (jk a4 16)
    obtain⟨O,rfl⟩:=(ac (o.at 19 rfl (jk a4 19)) (ac (ha.at 0 rfl) (ac (ha.at 1 rfl) (ac (ha.at 2 rfl) (ac (ha.at 3 rfl) (ac (ha.at 4 rfl) (ac (ha.at 5 rfl) (ac (ha.at 6 rfl) (ac (ha.at 7 rfl) (ac (ha.at 8 rfl) az)))))))))).eT
    obtain rfl:=oi hj
    exact⟨rfl,j.sp 11 [7,8,9,10]⟩
   rintro _ w ⟨O,rfl,j⟩
   refine aG (eQ hb (fun hc hb=>?_) fun hc hb=>?_)
   rotate_left
   ·refine RC.skip (bK (aG (RC.region (RL.inc hk hm (mv (vi ((a3+1:Nat):Int)) (RL.nil ?_))))))
    obtain rfl:=oi hb
    exact⟨rfl,j.sp 4 [0,1,2,3]⟩
   refine RC.sr (aK (.pointer none) (aK (vi 12) (RL.nt (RC.rb (bS ?_)))))
   obtain rfl:=oi hb
   exact⟨rfl,i5 ⟨rfl,j.drop 4⟩⟩
  ·intro r U w e hK
   subst e
   refine jR (bS ?_)
   obtain rfl:=oi hb
   exact⟨rfl,hK⟩
  rintro bm _ w rfl ⟨O,rfl,j⟩
  rw [Fo.gl] at hb
  refine bK (aG (RC.region (RL.inc hk hm (mv (vi ((av+1:Nat):Int)) (RL.nil ?_)))))
  obtain rfl:=oi hb
  exact⟨rfl,j.sp 4 [0,2]⟩
 ·intro r U w e hK
  subst e
  refine bS ?_
  obtain rfl:=oi hb
  exact hK
 rintro bl _ w rfl ⟨O,rfl,j⟩
 rw [Fo.gl] at hb
 refine aG (RC.sr (RL.aP (f:=(fun x=>x)) 0 j zr Fd.self nF fun ck j=>?_))
 obtain⟨cs,hcs,hv224,j⟩:=j.Hb (i:=0) rfl rfl
 obtain⟨bb,bc,bf,bg,rfl⟩:=Lm hcs
 have j:=(((j.iL (i:=0) (k:=0) (f:=fun x=>x.aL) rfl pE rfl rfl rfl).iL (i:=1) (k:=1) (f:=fun x=>x.dF) rfl xA rfl rfl rfl).iL (i:=2) (k:=2) (f:=fun x=>x.aV) rfl rh rfl rfl rfl).iL (i:=3) (k:=3) (f:=fun x=>x.bH) rfl ri rfl rfl rfl
 refine RL.IA (zs:=[(.slice none 0 0),(.slice none 0 0),(.slice none 0 0),(.slice none 0 0),(.slice none 0 0),(.slice none 0 0),(.slice none 0 0),(.slice none 0 0),(.slice none 0 0),(.slice none 0 0),(.slice none 0 0),(.slice none 0 0)]) (cs:=[bb,bc,bf,bg,(.slice none 0 0),(.slice none 0 0),(.slice none 0 0),(.slice none 0 0),(.slice none 0 0),(.slice none 0 0),(.slice none 0 0),(.slice none 0 0)]) zt zr [(0,ck)] [(0,[bb,bc,bf,bg])] zr J0 ⟨rfl,(congrArg Value.cells hv224),zt⟩ zr (RL.Dp (cs:=[bb,bc,bf,bg,(.slice none 0 0),(.slice none 0 0),(.slice none 0 0),(.slice none 0 0),(.slice none 0 0),(.slice none 0 0),(.slice none 0 0),(.slice none 0 0)]) zt zr j zr (Bc.all (⟨(wX 3 j zr),(wX 2 j zr),(wX 1 j zr),(wX 0 j zr),zr,zr,zr,zr,zr,zr,zr,zr,zt⟩:Bc [bb,bc,bf,bg,(.slice none 0 0),(.slice none 0 0),(.slice none 0 0),(.slice none 0 0),(.slice none 0 0),(.slice none 0 0),(.slice none 0 0),(.slice none 0 0)])) fun ay w j=>?_)
 refine aK (vp ay 0) (RL.nq (RC.sr (mv (vp ay 0) ?_)))
 have j:=((((((j.cH (List aA) 132).cH aH 134).pull 0).pull 2).dup 6 rfl).dup 9 rfl).pull 6
 obtain⟨cl,cm,hb⟩:=bd hb
 refine RL.call zt zr LJ [(vp ay 0)] zr (aF (qQ N j cm) ?_)
 rintro _ w ⟨cn,cp,rfl,j⟩
 refine RL.not cl.1 (RL.nt (eQ hb (fun hc hb=>?_) fun hc hb=>?_))
 ·refine RC.sr (aK (.pointer none) (aK (vi 2) (RL.nt (RC.rt ?_))))
  obtain rfl:=oi hb
  exact i5 ⟨rfl,j.drop 14⟩
 refine RC.sx (mv (vp ay 0) ?_)
 have j:=(((((j.freeze 2).cH (List Int) 87).pull 0).dup 4 rfl).dup 10 rfl).pull 4
 obtain⟨da,cq,hb⟩:=bd hb
 refine RL.call zt zr LM [(vp ay 0)] zr (aF (qR N j cq) ?_)
 rintro _ w ⟨cr,rfl,j⟩
 refine RL.ns (mv (vp ay 0) ?_)
 have j:=((((((((((((j.freeze 1).cH Int 3).cH Int 3).cH Int 3).cH dQ 41).pull 0).pull 2).pull 4).pull 6).dup 9 rfl).dup 14 rfl).dup 19 rfl).dup 21 rfl
 have j:=j.pull 12
 obtain⟨db,ct,hb⟩:=bd hb
 refine RL.call zt zr LQ [(vp ay 0)] zr (aF (m4 N j ct) ?_)
 rintro _ w ⟨cu,cw,cx,cy,cz,rfl,j⟩
 refine RL.ns (mv (vp ay 0) (aK (vp ay 0) (aK (vi 0) (RL.nt (RC.ret ?_)))))
 obtain rfl:=oi hb
 exact i5 ⟨ay,bb,bc,bf,bg,cn,cp,cr,cu,cw,cx,cy,cz,zr,j.pk 27 [0,22,21,20,19,14,15,11,1,2,3,4,5]⟩
theorem nj {res:Bool} (o:Holds E w V) (j:kY N p0 p1 p2=some res):
    Calls bF 41 [(vi p0),(vi p1),(vi p2)].toArray w (gI (bE E V res)):=by
 unfold kY at j
 refine enter Tryz.func41 zr zr (RC.sr (aK (vb false) (RL.ns (mv (vi p0) (mv (vi p1) (ic p0 p1 (mv (vb (decide (p0>=p1))) (RL.gs true (decide (p0>=p1)) (vi p0) zr zr zr dW ?_))))))))
 refine RL.gs true (decide (p0>=p1)) (vi p2) rfl rfl rfl dW (RL.gs true (decide (p0>=p1)) (vb (decide (p0<=p2))) rfl rfl rfl (eE .leq .i64 p0 p2 rfl (fun h=>by exact(cV h:cv (true&&((decide (p0>=p1))==true)) (vi p0)= (vi p0))) (fun h=>by exact(cV h:cv (true&&((decide (p0>=p1))==true)) (vi p2)= (vi p2))) rfl) (RL.pick (decide (p0>=p1)) (vb ((decide (p0>=p1))&&(decide (p0<=p2)))) (i6 true) (aK (vb ((decide (p0>=p1))&&(decide (p0<=p2)))) (RL.nt (RC.ret ?_)))))
 obtain rfl:=oi j
 exact cL ⟨rfl,o.drop 0⟩
def uR (E:World) (V:List HP) (b2 b3 b2h:Nat) (v2h_0 v2h_1:Value) (v2h_2 v2h_3:Value) (v2h_4 v2h_5:Value) (v2h_6 v2h_7:Value) (v2h_8 v2h_9:Value) (v2h_10 v2h_11:Value) (res: (List aT)) (v:Value) (w:World):Prop:=∃u3_0:Value,v = .tuple #[]/\Holds E w ([bc 68 b2 [(vp b2h 0)],bc 29 b3 [u3_0],own 43 u3_0 res,bc 126 b2h [v2h_0,v2h_1,v2h_2,v2h_3,v2h_4,v2h_5,v2h_6,v2h_7,v2h_8,v2h_9,v2h_10,v2h_11]]++V)
theorem ot {p0:dQ} {p3_0: (List aT)} {p2h_7: (List cI)} {res: (List aT)} (j:Holds E w (bc 68 b2 [(vp b2h 0)]::bc 29 b3 [v3_0]::own 43 v3_0 p3_0::bc 126 b2h [v2h_0,v2h_1,v2h_2,v2h_3,v2h_4,v2h_5,v2h_6,v2h_7,v2h_8,v2h_9,v2h_10,v2h_11]::rd v2h_7 p2h_7::V)) (h0:V[i0]? =some (rd v0 p0)) (hb:gA N p0 p1 p3_0 p2h_7=some res):
    Calls bF 54 [v0,(vi p1),(vp b2 0),(vp b3 0)].toArray w (gI (uR E V b2 b3 b2h v2h_0 v2h_1 v2h_2 v2h_3 v2h_4 v2h_5 v2h_6 v2h_7 v2h_8 v2h_9 v2h_10 v2h_11 res)):=by
 unfold gA at hb
 refine enter Tryz.func54 zr zr ?_
 have j:=j.dup (i0+5) h0
 refine RC.sr (RL.dB 0 v0 j zr fun ah w j=>?_)
 refine RL.nq ?_
 obtain⟨af,hj,hb⟩:=bd hb
 refine RC.jn (fun(af:Bool)=>SH E V [(2,vp b2 0),(3,vp b3 0),(4,vp ah 0),(19,vb af)] [bc 68 b2 [(vp b2h 0)],bc 126 b2h [v2h_0,v2h_1,v2h_2,v2h_3,v2h_4,v2h_5,v2h_6,v2h_7,v2h_8,v2h_9,v2h_10,v2h_11],rd v2h_7 p2h_7,bc 29 b3 [v3_0],own 43 v3_0 p3_0,bx 41 ah p0]) af ?_ ?_
 ·refine RC.region (mv (vi p1) (ic p1 0 (mv (vb (decide (p1>=0))) (fM hj (fun o hj=>?_) fun o hj=>?_))))
  rotate_left
  ·refine bO o (bO o (bO o (bO o (bO o (bO o (bO o (bO o (bO o ?_))))))))
   refine bO o (fJ o (vb false) (RL.nil ?_))
   obtain rfl:=oi hj
   exact⟨rfl,j.sp 7 [2,5,6,3,4,0]⟩
  refine RL.aY (hg:=(cg o)) 2 (vp b2h 0) j wM (RL.nilCheck (hg:=(cg o)) zr (RL.aZ (hg:=(cg o)) zr qq (RL.aY (hg:=(cg o)) 5 v2h_7 j xM (RL.move (vi p1) (cg o) ?_))))
  obtain⟨ad,aj,hj⟩:=bd hj
  refine RL.cC (hg:=(cg o)) 6 j DC aj fun aq j=>(RL.iu (hg:=(cg o)) 0 j zr Ap CI fun ar j=>(RL.bV (hg:=(cg o)) 0 ad.gW j FM fun au j=>(RL.bD (hg:=(cg o)) 0 ad.gW j Kn (RL.i7 (ad.gW.length:Int) 1 (cg o) (fJ o (vb (decide ((ad.gW.length:Int)>1))) (RL.nil ?_))))))
  obtain rfl:=oi hj
  exact⟨rfl,j.sp 10 [5,8,9,6,7,3]⟩
 rintro _ w ⟨O,rfl,j⟩
 refine aG ?_
 obtain⟨ag,hj,hb⟩:=bd hb
 refine RC.jn (fun(ag: (List aT)) U w=>∃ae:Value,SH E V [(2,vp b2 0),(3,vp b3 0)] [bc 68 b2 [(vp b2h 0)],bc 126 b2h [v2h_0,v2h_1,v2h_2,v2h_3,v2h_4,v2h_5,v2h_6,v2h_7,v2h_8,v2h_9,v2h_10,v2h_11],rd v2h_7 p2h_7,bc 29 b3 [ae],own 43 ae ag] U w) ag ?_ ?_
 ·refine eQ hj (fun hc hj=>?_) fun hc hj=>?_
  rotate_left
  ·refine RC.skip ?_
   obtain rfl:=oi hj
   exact⟨rfl,v3_0,j.sp 6 [0,1,2,3,4]⟩
  refine RC.region (RL.aY 3 v3_0 j yK (RL.aP (f:=(fun x=>x)) 5 j zr Fd.self rn fun al j=>?_))
  have j:=j.sc Bool true
  refine RL.build (⟨true,p0,0,0⟩:aT) trivial rfl j [(0,vb true),(1,al)] rfl Ko rfl (fun M hs g=>by have h:=CJ M;exact cO.cons (f:=fun(x:aT) y=>{x with Open:=y}) h Ec (g.sat 0 _ rfl).1 fun _ h=>cO.cons (f:=fun(x:aT) y=>{x with dQ:=y}) h Ed (g.sat 1 _ rfl).1 fun _ h=>cO.nil h) fun an j=>?_
  refine RL.dS ([(⟨true,p0,0,0⟩:aT)]: (List aT)) j [an] uD wN (fun M hs g=>⟨(g.sat 0 _ zr).1,zt⟩) fun av w j=>?_
  have j:=j.freeze 0
  obtain⟨aw,ao,hj⟩:=bd hj
  refine RL.app 8 0 j FO ao fun ai w j=>?_
  refine RL.gV 7 ai j zr zr (iB 8 j) yK fun w j=>?_
  refine RL.nil ?_
  obtain rfl:=oi hj
  exact⟨rfl,ai,j.sp 10 [4,5,6,7,8]⟩
 rintro _ w ⟨ae,O,rfl,j⟩
 obtain rfl:=oi hb
 refine y8 ?_
 exact E2 ⟨ae,zr,j.pk 5 [0,3,4,1]⟩
def Ay (E:World) (V:List HP) (res:eV) (v:Value) (w:World):Prop:=Holds E w ([rd v res]++V)
theorem tc {p0 p1:aI} {res:eV} (j:Holds E w V) (h0:V[i0]? =some (rd v0 p0)) (h1:V[i1]? =some (rd v1 p1)) (o:nV N p0 p1 p2=some res):
    Calls bF 89 [v0,v1,(vi p2)].toArray w (gI (Ay E V res)):=by
 unfold nV at o
 refine enter Tryz.func89 zr zr ?_
 have j:=(j.dup (i0+0) h0).dup (i1+1) h1
 refine RC.sr (RL.dB 1 v0 j zr fun aa w j=>?_)
 refine RL.dB 1 v1 j zr fun ab w j=>?_
 refine RL.alloc j IQ.z fun ad w j=>?_
 refine RL.ns (RL.aZ zr jy (RL.aM 2 j zr eW cQ (RL.aZ zr jy (RL.aM 1 j zr eW cQ (mv (vi p2) (RL.jA p1.X0 p2 (RL.max p0.X0 (IntKind.wrap .i64 (p1.X0 - p2)) (RL.aZ zr jX ?_))))))))
 refine RL.aM 2 j zr fC cQ (RL.aZ zr jX (RL.aM 1 j zr fC cQ (mv (vi p2) (RL.jA p1.Y0 p2 (RL.max p0.Y0 (IntKind.wrap .i64 (p1.Y0 - p2)) ?_)))))
 have j:=(j.sc Int (if p0.X0< (IntKind.wrap .i64 (p1.X0 - p2)) then (IntKind.wrap .i64 (p1.X0 - p2)) else p0.X0)).sc Int (if p0.Y0< (IntKind.wrap .i64 (p1.Y0 - p2)) then (IntKind.wrap .i64 (p1.Y0 - p2)) else p0.Y0)
 refine RL.build (⟨(if p0.X0< (IntKind.wrap .i64 (p1.X0 - p2)) then (IntKind.wrap .i64 (p1.X0 - p2)) else p0.X0),(if p0.Y0< (IntKind.wrap .i64 (p1.Y0 - p2)) then (IntKind.wrap .i64 (p1.Y0 - p2)) else p0.Y0)⟩:eV) trivial rfl j [(0,(vi (if p0.X0< (IntKind.wrap .i64 (p1.X0 - p2)) then (IntKind.wrap .i64 (p1.X0 - p2)) else p0.X0))),(1,(vi (if p0.Y0< (IntKind.wrap .i64 (p1.Y0 - p2)) then (IntKind.wrap .i64 (p1.Y0 - p2)) else p0.Y0)))] rfl LS rfl (fun M hs g=>by have h:=w3 M;exact cO.cons (f:=fun(x:eV) y=>{x with X:=y}) h CG (g.sat 1 _ rfl).1 fun _ h=>cO.cons (f:=fun(x:eV) y=>{x with Y:=y}) h CH (g.sat 0 _ rfl).1 fun _ h=>cO.nil h) fun ae j=>?_
 refine RL.bA 3 j 0 zr sK fun w j=>?_
 refine RL.nt (RC.ret ?_)
 obtain rfl:=oi o
 exact E6 3 zr j zr zr sK fun af j=>(j.pk 9 [0])
theorem te {p0 p1:eV} {res:Bool} (j:Holds E w V) (h0:V[i0]? =some (rd v0 p0)) (h1:V[i1]? =some (rd v1 p1)) (hb:nW N p0 p1=some res):
    Calls bF 90 [v0,v1].toArray w (gI (bE E V res)):=by
 unfold nW at hb
 refine enter Tryz.func90 zr zr ?_
 have j:=(j.dup (i0+0) h0).dup (i1+1) h1
 refine RC.sr (RL.dB 1 v0 j zr fun o w j=>?_)
 refine RL.dB 1 v1 j zr fun aa w j=>?_
 refine aK (vb false) (RL.ns (RL.aZ zr o7 (RL.aM 1 j zr jw cQ (RL.aZ zr o7 (RL.aM 0 j zr jw cQ (ic p0.Y p1.Y (mv (vb (decide (p0.Y<p1.Y))) (RL.gs true (decide (p0.Y<p1.Y)) (vp o 1) zr zr zr (dN o7) ?_))))))))
 refine RL.gs true (decide (p0.Y<p1.Y)) (vi p0.Y) rfl rfl rfl (bZ 1 rfl j (fun h=>by exact(cV h:cv (true&&((decide (p0.Y<p1.Y))==false)) (vp o 1)= (vp o 1))) rfl jw cQ) (RL.gs true (decide (p0.Y<p1.Y)) (vp aa 1) rfl rfl rfl (dN o7) (RL.gs true (decide (p0.Y<p1.Y)) (vi p1.Y) rfl rfl rfl (bZ 0 rfl j (fun h=>by exact(cV h:cv (true&&((decide (p0.Y<p1.Y))==false)) (vp aa 1)= (vp aa 1))) rfl jw cQ) (RL.gs true (decide (p0.Y<p1.Y)) (vb (p0.Y==p1.Y)) rfl rfl rfl (eE .eql .i64 p0.Y p1.Y rfl (fun h=>by exact(cV h:cv (true&&((decide (p0.Y<p1.Y))==false)) (vi p0.Y)= (vi p0.Y))) (fun h=>by exact(cV h:cv (true&&((decide (p0.Y<p1.Y))==false)) (vi p1.Y)= (vi p1.Y))) rfl) (RL.gs true (decide (p0.Y<p1.Y)) (vb (p0.Y==p1.Y)) rfl rfl rfl (dW (hx:=fun h=>by exact(cV h:cv (true&&((decide (p0.Y<p1.Y))==false)) (vb (p0.Y==p1.Y))= (vb (p0.Y==p1.Y))))) (RL.gs (true&&((decide (p0.Y<p1.Y))==false)) (p0.Y==p1.Y) (vp o 0) rfl rfl rfl (dN rm) (RL.gs (true&&((decide (p0.Y<p1.Y))==false)) (p0.Y==p1.Y) (vi p0.X) rfl rfl rfl (bZ 1 rfl j (fun h=>by exact(cV h:cv ((true&&((decide (p0.Y<p1.Y))==false))&&((p0.Y==p1.Y)==true)) (vp o 0)= (vp o 0))) rfl kF cQ) (RL.gs (true&&((decide (p0.Y<p1.Y))==false)) (p0.Y==p1.Y) (vp aa 0) rfl rfl rfl (dN rm) (RL.gs (true&&((decide (p0.Y<p1.Y))==false)) (p0.Y==p1.Y) (vi p1.X) rfl rfl rfl (bZ 0 rfl j (fun h=>by exact(cV h:cv ((true&&((decide (p0.Y<p1.Y))==false))&&((p0.Y==p1.Y)==true)) (vp aa 0)= (vp aa 0))) rfl kF cQ) ?_))))))))
 refine RL.gs (true&&((decide (p0.Y<p1.Y))==false)) (p0.Y==p1.Y) (vb (decide (p0.X<p1.X))) rfl rfl rfl (eE .lss .i64 p0.X p1.X rfl (fun h=>by exact(cV h:cv ((true&&((decide (p0.Y<p1.Y))==false))&&((p0.Y==p1.Y)==true)) (vi p0.X)= (vi p0.X))) (fun h=>by exact(cV h:cv ((true&&((decide (p0.Y<p1.Y))==false))&&((p0.Y==p1.Y)==true)) (vi p1.X)= (vi p1.X))) rfl) (RL.gs true (decide (p0.Y<p1.Y)) (vb ((p0.Y==p1.Y)&&(decide (p0.X<p1.X)))) rfl rfl rfl (oQ (p0.Y==p1.Y) rfl (fun h=>by exact(cV h:cv (true&&((decide (p0.Y<p1.Y))==false)) (vb (p0.Y==p1.Y))= (vb (p0.Y==p1.Y)))) (fun h=>by exact i6 (h:=h) (true&&((decide (p0.Y<p1.Y))==false)))) (RL.pick (decide (p0.Y<p1.Y)) (vb ((decide (p0.Y<p1.Y))||((p0.Y==p1.Y)&&(decide (p0.X<p1.X))))) (nS true rfl) (aK (vb ((decide (p0.Y<p1.Y))||((p0.Y==p1.Y)&&(decide (p0.X<p1.X))))) (RL.nt (RC.ret ?_)))))
 obtain rfl:=oi hb
 exact cL ⟨rfl,j.drop 4⟩
end Go.Gk
