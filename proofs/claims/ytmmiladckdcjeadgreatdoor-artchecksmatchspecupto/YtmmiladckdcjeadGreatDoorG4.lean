/-
  Printed texts: Go functions as plain functions, and that they are. No statement of the seed is proved here.
-/
import Derived.Test.YtmmiladckdcjeadGreatDoorG1
import Derived.Test.YtmmiladckdcjeadGreatDoorG2
import Derived.Test.YtmmiladckdcjeadGreatDoorG3
import Derived.Test.YtmmiladckdcjeadGreatDoorA2
set_option linter.unusedVariables false
set_option linter.unusedSimpArgs false
set_option linter.unusedSectionVars false
set_option maxRecDepth 100000
set_option maxHeartbeats 4000000
namespace Go.Gk
open Go Go.Proofs
variable (N:Nat) {E w:World} {b0 i0:Nat} {p0 p1 p2:Int} {v0 v0_0 v0_1 v0_10 v0_11 v0_2 v0_3 v0_4 v0_5 v0_6 v0_8 v0_9:Value} {V:List HP}
def pO (E:World) (V:List HP) (b0:Nat) (v0_0 v0_1:Value) (v0_2 v0_3:Value) (v0_4 v0_5 v0_6:Value) (res: (List cN)×(List Int)×(List Int)×(List Int)×(List j4)) (v:Value) (w:World):Prop:=∃u0_7 u0_8 u0_9 u0_10 u0_11:Value,v = .tuple #[]/\Holds E w ([bc 54 b0 [v0_0,v0_1,v0_2,v0_3,v0_4,v0_5,v0_6,u0_7,u0_8,u0_9,u0_10,u0_11],own 112 u0_7 res.1,rd u0_8 res.2.1,rd u0_9 res.2.2.1,own 3 u0_10 res.2.2.2.1,own 114 u0_11 res.2.2.2.2]++V)
theorem pB {p0_2: (List cE)} {p0_3: (List fP)} {p0_5: (List aK)} {p0_6: (List (List Int))} {p0_8: (List Int)} {p0_9: (List Int)} {p0_10: (List Int)} {p0_11: (List j4)} {res: (List cN)×(List Int)×(List Int)×(List Int)×(List j4)} (o:Holds E w (bc 54 b0 [v0_0,v0_1,v0_2,v0_3,v0_4,v0_5,v0_6,(.slice none 0 0),v0_8,v0_9,v0_10,v0_11]::rd v0_2 p0_2::rd v0_3 p0_3::rd v0_5 p0_5::rd v0_6 p0_6::own 3 v0_8 p0_8::own 3 v0_9 p0_9::own 3 v0_10 p0_10::own 114 v0_11 p0_11::V)) (hb:gA N p0_2 p0_3 p0_5 p0_6 p0_8 p0_9 p0_10 p0_11=some res):
    Calls bN 34 [(vp b0 0)].toArray w (gQ (pO E V b0 v0_0 v0_1 v0_2 v0_3 v0_4 v0_5 v0_6 res)):=by
 unfold gA at hb
 refine enter Tryz.func34 zr zr (RC.sr (mv (vp b0 0) (RL.nilCheck zr (RL.aZ zr wB (RL.bK 0 v0_5 o EY (RL.bC 3 p0_5 o HG (aP (vi p0_5.length) (RL.ns ?_))))))))
 refine mv (vi p0_5.length) (mv (vp b0 0) (RL.nilCheck zr (RL.aZ zr uL (RL.aZ zr iw (RL.bK 0 v0_2 o nQ (RL.bC 1 p0_2 o wy (RL.fO (p0_5.length:Int) (p0_2.length:Int) ?_)))))))
 obtain⟨e6,ds,hb⟩:=bd hb
 refine RL.call zt zr MX [(vi (IntKind.wrap .i64 ((p0_5.length:Int)+ (p0_2.length:Int))))] zr (aD (vU N (p0:=(IntKind.wrap .i64 ((p0_5.length:Int)+ (p0_2.length:Int)))) o ds) ?_)
 rintro _ w ⟨a9,dt,rfl,o⟩
 refine aP (vp a9 0) (RL.nq (RC.sr (mv (vp b0 0) (RL.nilCheck zr (RL.aZ zr E1 (RL.bK 2 v0_6 o zn (RL.bC 6 p0_6 o Gt (mv (vi 0) ?_))))))))
 refine RL.nt ?_
 obtain⟨bz,hN,hb⟩:=bd hb
 refine RC.fold (fun(bj:Nat) (bz: (List Int)) U w=>∃c5:Value,SH E V [(0,vp b0 0),(2,vi p0_5.length),(3,vp a9 0),(35,v0_6),(36,vi p0_6.length),(37,vi bj)] [bc 54 b0 [v0_0,v0_1,v0_2,v0_3,v0_4,v0_5,v0_6,(.slice none 0 0),v0_8,v0_9,v0_10,v0_11],rd v0_2 p0_2,rd v0_3 p0_3,rd v0_5 p0_5,rd v0_6 p0_6,own 3 v0_8 p0_8,own 3 v0_9 p0_9,own 3 v0_10 p0_10,own 114 v0_11 p0_11,bc 148 a9 [c5],own 3 c5 bz] U w) (fun(bz: (List Int)) U w=>∃ca:Value,SH E V [(0,vp b0 0),(2,vi p0_5.length),(3,vp a9 0)] [bc 54 b0 [v0_0,v0_1,v0_2,v0_3,v0_4,v0_5,v0_6,(.slice none 0 0),v0_8,v0_9,v0_10,v0_11],rd v0_2 p0_2,rd v0_3 p0_3,rd v0_5 p0_5,rd v0_6 p0_6,own 3 v0_8 p0_8,own 3 v0_9 p0_9,own 3 v0_10 p0_10,own 114 v0_11 p0_11,bc 148 a9 [ca],own 3 ca bz] U w) hN ?_ ?_ ?_ ?_
 ·exact⟨dt,o.sp 11 [2,3,4,5,6,7,8,9,10,0,1]⟩
 ·rintro hm bz _ w ⟨du,O,rfl,o⟩
  refine RC.sr (ic ((p0_6.length:Int)) ((p0_6.length:Int)) (RL.nq (RC.fw sf (RC.ex ?_))))
  exact⟨rfl,du,o.sp 11 [0,1,2,3,4,5,6,7,8,9,10]⟩
 ·rintro hm bj bz s' _ w hk ⟨dv,O,rfl,o⟩ hb
  refine RC.sr (ic ((bj:Int)) ((p0_6.length:Int)) (RL.nq (RC.fu (sd hk) (RC.ss (RC.bs (mv (vi bj) ?_))))))
  obtain⟨bt,dw,hb⟩:=bd hb
  refine RL.bM 4 o Aa dw fun e7 o=>(RL.bF 0 bt o fM fun cb o=>(aP (vi bj) (aP cb (RL.ns (mv cb (RL.bC 0 bt o mw (mv (vi 0) (RL.nt ?_))))))))
  obtain⟨b4,hN,hb⟩:=bd hb
  refine RC.fold (fun(cf:Nat) (b4: (List Int)) U w=>∃c6:Value,SH E V [(0,vp b0 0),(2,vi p0_5.length),(3,vp a9 0),(4,vi bj),(35,v0_6),(36,vi p0_6.length),(37,vi bj),(42,cb),(43,vi bt.length),(44,vi cf)] [bc 54 b0 [v0_0,v0_1,v0_2,v0_3,v0_4,v0_5,v0_6,(.slice none 0 0),v0_8,v0_9,v0_10,v0_11],rd v0_2 p0_2,rd v0_3 p0_3,rd v0_5 p0_5,rd v0_6 p0_6,own 3 v0_8 p0_8,own 3 v0_9 p0_9,own 3 v0_10 p0_10,own 114 v0_11 p0_11,bc 148 a9 [c6],own 3 c6 b4,rd cb bt] U w) (fun(b4: (List Int)) U w=>∃cg:Value,SH E V [(0,vp b0 0),(2,vi p0_5.length),(3,vp a9 0),(35,v0_6),(36,vi p0_6.length),(37,vi bj)] [bc 54 b0 [v0_0,v0_1,v0_2,v0_3,v0_4,v0_5,v0_6,(.slice none 0 0),v0_8,v0_9,v0_10,v0_11],rd v0_2 p0_2,rd v0_3 p0_3,rd v0_5 p0_5,rd v0_6 p0_6,own 3 v0_8 p0_8,own 3 v0_9 p0_9,own 3 v0_10 p0_10,own 114 v0_11 p0_11,bc 148 a9 [cg],own 3 cg b4,rd cb bt] U w) hN ?_ ?_ ?_ ?_
  ·exact⟨dv,o.sp 13 [2,3,4,5,6,7,8,9,10,11,12,0]⟩
  ·rintro hm b4 _ w ⟨dx,O,rfl,o⟩
   refine RC.sr (ic ((bt.length:Int)) ((bt.length:Int)) (RL.nq (RC.fw sf (RC.ex ?_))))
   exact⟨rfl,dx,o.sp 12 [0,1,2,3,4,5,6,7,8,9,10,11]⟩
  ·rintro hm cf b4 s' _ w hk ⟨e8,O,rfl,o⟩ hb
   refine RC.sr (ic ((cf:Int)) ((bt.length:Int)) (RL.nq (RC.fu (sd hk) (RC.ss (RC.bs ?_)))))
   obtain⟨cc,dy,hb⟩:=bd hb
   refine RL.bM 11 o eD dy fun e9 o=>(RL.bB cc 0 o cG (aP (vi cc) (RL.nt (RC.region (mv (vp a9 0) (mv (vi cc) (mv (vi p0_5.length) (mv (vi bj) ?_))))))))
   refine RL.fO (p0_5.length:Int) (bj:Int) ?_
   have o:=(o.pull 11).pull 11
   obtain⟨fa,dz,hb⟩:=bd hb
   refine RL.call zt zr MY [(vp a9 0),(vi cc),(vi (IntKind.wrap .i64 ((p0_5.length:Int)+ (bj:Int))))] zr (aD (uo N (p1:=cc) (p2:=(IntKind.wrap .i64 ((p0_5.length:Int)+ (bj:Int)))) o dz) ?_)
   rintro _ w ⟨d3,rfl,o⟩
   refine RL.nil (bO (aG (RC.region (RL.inc hk hm (mv (vi ((cf+1:Nat):Int)) (RL.nil ?_))))))
   obtain rfl:=oi hb
   exact⟨rfl,d3,o.sp 15 [3,4,5,6,7,8,9,10,11,0,1,14]⟩
  rintro _ w ⟨cg,O,rfl,o⟩
  refine bO (aG (RC.region (RL.inc hk hm (mv (vi ((bj+1:Nat):Int)) (RL.nil ?_)))))
  obtain rfl:=oi hb
  exact⟨rfl,cg,o.sp 12 [0,1,2,3,4,5,6,7,8,9,10]⟩
 rintro _ w ⟨ca,O,rfl,o⟩
 refine aG (RC.seq ?_)
 obtain⟨d4,d5,hb⟩:=bd hb
 obtain⟨d6,d7,hb⟩:=bd hb
 refine RC.ER E V mixed [1,1,1,0,1,1,1,1,0,0,0,1,1,0,1,1,0] [3,10,13,16] (fun(x:Value×Value)=>(fun al an=>[(0,56,(vp b0 0)),(1,57,(vp b0 0)),(2,58,(vi p0_5.length)),(3,59,al),(4,60,(vp b0 0)),(5,61,(vp b0 0)),(6,62,(vp b0 0)),(7,63,(vp b0 2)),(8,64,v0_2),(9,65,(vi p0_2.length)),(10,66,an),(11,67,(vp b0 0)),(12,68,(vp b0 8)),(14,69,(vp b0 0)),(15,70,(vp b0 9))]) x.1 x.2) [(0,vp b0 0),(2,vi p0_5.length),(3,vp a9 0)] [] (fun(D:Nat->Bool) (x:Value×Value)=>(fun al an=>[bif D 0 then (own 3 al d4) else aX,bif D 1 then (own 3 an d6) else aX,bif D 3 then (bc 54 b0 [v0_0,v0_1,v0_2,v0_3,v0_4,v0_5,v0_6,(.slice none 0 0),al,an,v0_10,v0_11]) else (bif D 2 then (bc 54 b0 [v0_0,v0_1,v0_2,v0_3,v0_4,v0_5,v0_6,(.slice none 0 0),al,v0_9,v0_10,v0_11]) else (bc 54 b0 [v0_0,v0_1,v0_2,v0_3,v0_4,v0_5,v0_6,(.slice none 0 0),v0_8,v0_9,v0_10,v0_11])),rd v0_2 p0_2,rd v0_3 p0_3,rd v0_5 p0_5,rd v0_6 p0_6,own 3 v0_8 p0_8,own 3 v0_9 p0_9,own 3 v0_10 p0_10,own 114 v0_11 p0_11,bc 148 a9 [ca],own 3 ca bz]) x.1 x.2) (fun x=>by kernel_rfl) ?_ ⟨fun _=>je gn,fun _=>je gn,fun _=>je gn,?_,fun _=>je gn,fun _=>wu gn,fun _=>mG gn uL,fun _=>mG gn iw,?_,?_,?_,fun _=>wu gn,fun _=>mG gn E2,?_,fun _=>wu gn,fun _=>mG gn Ct,?_,trivial⟩ ?_
 ·have o:=((o.drew).aX).aX
  exact⟨(undef,undef),eU.none,(DB zr),zt,o⟩
 ·rintro D U w hD ae ab ⟨⟨al,an⟩,hv,ha,_,o⟩
  obtain⟨O,rfl⟩:=(ac (hv.at 2 rfl (ae.1 rfl)) az).eN
  have o:=((o.bX 0 hD).bX 2 (nh ab hD 16)).bX 2 (nh ab hD 13)
  refine RL.mk (p0_5.length:Int) o rh K3 d5 fun cv w o=>?_
  have o:=(((o.pl 14 [0,2,3,4,5,6,7,8,9,10,11,12,13]).cD 0 true rfl aX).eY 2 (D 13) (nh ab hD 13) (bc 54 b0 [v0_0,v0_1,v0_2,v0_3,v0_4,v0_5,v0_6,(.slice none 0 0),cv,v0_9,v0_10,v0_11])).eY 2 (D 16) (nh ab hD 16) (bc 54 b0 [v0_0,v0_1,v0_2,v0_3,v0_4,v0_5,v0_6,(.slice none 0 0),cv,an,v0_10,v0_11])
  exact RL.nil ⟨rfl,(cv,an),hv.pu 3,ha.u,zt,o⟩
 ·rintro D U w hD ae ab ⟨⟨al,an⟩,hv,ha,_,o⟩
  obtain⟨O,rfl⟩:=(ac (hv.at 7 rfl (ae.1 rfl)) az).eN
  have o:=(o.bX 2 (nh ab hD 16)).bX 2 (nh ab hD 13)
  refine RL.bK 2 v0_2 o nQ ?_
  have o:=(o.eY 2 (D 13) (nh ab hD 13) (bc 54 b0 [v0_0,v0_1,v0_2,v0_3,v0_4,v0_5,v0_6,(.slice none 0 0),al,v0_9,v0_10,v0_11])).eY 2 (D 16) (nh ab hD 16) (bc 54 b0 [v0_0,v0_1,v0_2,v0_3,v0_4,v0_5,v0_6,(.slice none 0 0),al,an,v0_10,v0_11])
  exact RL.nil ⟨rfl,(al,an),hv.pu 8,ha.u,zt,o⟩
 ·rintro D U w hD ae ab ⟨⟨al,an⟩,hv,ha,_,o⟩
  obtain⟨O,rfl⟩:=(ac (hv.at 8 rfl (ae.1 rfl)) az).eN
  refine RL.bC 3 p0_2 o wy ?_
  exact RL.nil ⟨rfl,(al,an),hv.pu 9,ha.u,zt,o⟩
 ·rintro D U w hD ae ab ⟨⟨al,an⟩,hv,ha,_,o⟩
  obtain⟨O,rfl⟩:=(ac (hv.at 9 rfl (ae.1 rfl)) az).eN
  have o:=(o.bX 1 hD).bX 2 (nh ab hD 16)
  refine RL.mk (p0_2.length:Int) o rh K3 d7 fun c7 w o=>?_
  have o:=((o.pl 14 [1,0,3,4,5,6,7,8,9,10,11,12,13]).cD 1 true rfl aX).eY 2 (D 16) (nh ab hD 16) (bc 54 b0 [v0_0,v0_1,v0_2,v0_3,v0_4,v0_5,v0_6,(.slice none 0 0),al,c7,v0_10,v0_11])
  exact RL.nil ⟨rfl,(al,c7),hv.pu 10,ha.u,zt,o⟩
 ·rintro D U w hD ae ab ⟨⟨al,an⟩,hv,ha,_,o⟩
  obtain⟨O,rfl⟩:=(ac (hv.at 3 rfl (ae.2.1 rfl)) (ac (hv.at 12 rfl (ae.1 rfl)) az)).eN
  have o:=((o.cC 0 (ae.2.1 rfl)).bX 2 (nh ab hD 16)).bX 2 hD
  refine RL.iB 2 al o zr zr (iS 0 o) fM fun w o=>?_
  have o:=((o.cD 0 (D 3) (ae.2.1 rfl) aX).cD 2 true rfl (bc 54 b0 [v0_0,v0_1,v0_2,v0_3,v0_4,v0_5,v0_6,(.slice none 0 0),v0_8,v0_9,v0_10,v0_11])).eY 2 (D 16) (nh ab hD 16) (bc 54 b0 [v0_0,v0_1,v0_2,v0_3,v0_4,v0_5,v0_6,(.slice none 0 0),al,an,v0_10,v0_11])
  exact RL.nil ⟨rfl,(al,an),hv.n1,ha,zt,o⟩
 ·rintro D U w hD ae ab ⟨⟨al,an⟩,hv,ha,_,o⟩
  obtain⟨O,rfl⟩:=(ac (hv.at 10 rfl (ae.2.1 rfl)) (ac (hv.at 14 rfl (ae.1 rfl)) az)).eN
  have o:=((o.cC 1 (ae.2.1 rfl)).bX 2 hD).cC 2 (ae.2.2.1 rfl)
  refine RL.iB 2 an o zr zr (iS 1 o) fM fun w o=>?_
  have o:=(o.cD 1 (D 10) (ae.2.1 rfl) aX).cD 2 true rfl (bif D 13 then (bc 54 b0 [v0_0,v0_1,v0_2,v0_3,v0_4,v0_5,v0_6,(.slice none 0 0),al,v0_9,v0_10,v0_11]) else (bc 54 b0 [v0_0,v0_1,v0_2,v0_3,v0_4,v0_5,v0_6,(.slice none 0 0),v0_8,v0_9,v0_10,v0_11]))
  exact RL.nil ⟨rfl,(al,an),hv.n1,ha,zt,o⟩
 rintro D U w a7 ⟨⟨al,an⟩,hv,ha,_,o⟩
 have o:=((o.cC 0 (jQ a7 3)).cC 1 (jQ a7 10)).cC 2 (jQ a7 16)
 obtain⟨O,rfl⟩:=(ac (ha.at 0 rfl) (ac (ha.at 1 rfl) (ac (ha.at 2 rfl) az))).eN
 refine aG (RC.seq (RC.sr (mv (vp a9 0) ?_)))
 have o:=(o.pull 12).pull 12
 obtain⟨a8,d8,hb⟩:=bd hb
 refine RL.call zt zr MZ [(vp a9 0)] zr (aD (uq N o d8) ?_)
 rintro bk w ⟨_,fb,rfl,o⟩
 refine RL.fS 0 a8.1 o Gt (mv (vi 0) (RL.nt ?_))
 obtain⟨a5,hN,hb⟩:=bd hb
 refine RC.fold (fun(bo:Nat) (a5: (List cN)×(List Int)×(List Int)) U w=>∃(c8:Value) (us442:List aT),SH E V [(0,vp b0 0),(2,vi p0_5.length),(72,bk),(73,vi a8.1.length),(74,vi bo)] [bc 54 b0 [v0_0,v0_1,v0_2,v0_3,v0_4,v0_5,v0_6,c8,al,an,v0_10,v0_11],own 112 c8 us442,iz aW us442 a5.1 none,rd v0_2 p0_2,rd v0_3 p0_3,rd v0_5 p0_5,rd v0_6 p0_6,own 3 al a5.2.1,own 3 an a5.2.2,own 3 v0_10 p0_10,own 114 v0_11 p0_11,own 51 bk a8.1] U w) (fun(a5: (List cN)×(List Int)×(List Int)) U w=>∃(aj:Value) (us444:List aT),SH E V [(0,vp b0 0)] [bc 54 b0 [v0_0,v0_1,v0_2,v0_3,v0_4,v0_5,v0_6,aj,al,an,v0_10,v0_11],own 112 aj us444,iz aW us444 a5.1 none,rd v0_2 p0_2,rd v0_3 p0_3,rd v0_5 p0_5,rd v0_6 p0_6,own 3 al a5.2.1,own 3 an a5.2.2,own 3 v0_10 p0_10,own 114 v0_11 p0_11,own 51 bk a8.1] U w) hN ?_ ?_ ?_ ?_
 ·have o:=(o.zA aW).cQ aT 112
  exact⟨(.slice none 0 0),([]:List aT),o.sp 18 [7,0,1,8,9,10,11,5,6,14,15,2]⟩
 ·rintro hm a5 _ w ⟨d9,us604,O,rfl,o⟩
  refine RC.sr (ic ((a8.1.length:Int)) ((a8.1.length:Int)) (RL.nq (RC.fw sf (RC.ex ?_))))
  exact⟨rfl,d9,us604,o.sp 12 [0,1,2,3,4,5,6,7,8,9,10,11]⟩
 ·rintro hm bo a5 s' _ w hk ⟨bg,us446,O,rfl,o⟩ hb
  refine RC.sr (ic ((bo:Int)) ((a8.1.length:Int)) (RL.nq (RC.fu (sd hk) (RC.ss (RC.bs ?_)))))
  obtain⟨bm,cw,hb⟩:=bd hb
  refine RL.bS 11 o zr zr Aa cw (RL.kn (f:=(fun x=>x)) 11 o (jJ 11 o cw 0) (bI cw).2.1 Fd.self fM fun bp o=>?_)
  refine aP bp (RL.ns (RL.uD zr o HI zr fun bu w o=>?_))
  refine RL.nq (RC.sr (mv bp (RL.bC 1 bm o mw (mv (vi 0) (RL.nt ?_)))))
  obtain⟨ar,hN,hb⟩:=bd hb
  refine RC.fold (fun(b5:Nat) (ar: (List Int)×(List Int)×(List Int)×(List Int)) U w=>∃c9 da:Value,SH E V [(0,vp b0 0),(2,vi p0_5.length),(10,vp bu 0),(72,bk),(73,vi a8.1.length),(74,vi bo),(78,bp),(79,vi bm.length),(80,vi b5)] [bc 54 b0 [v0_0,v0_1,v0_2,v0_3,v0_4,v0_5,v0_6,bg,al,an,v0_10,v0_11],rd v0_2 p0_2,rd v0_3 p0_3,rd v0_5 p0_5,rd v0_6 p0_6,own 112 bg us446,iz aW us446 a5.1 none,own 3 al ar.1,own 3 an ar.2.1,own 3 v0_10 p0_10,own 114 v0_11 p0_11,bc 112 bu [c9,da,(.slice none 0 0)],own 3 c9 ar.2.2.1,own 3 da ar.2.2.2,own 51 bk a8.1,rd bp bm] U w) (fun(ar: (List Int)×(List Int)×(List Int)×(List Int)) U w=>∃bw bq:Value,SH E V [(0,vp b0 0),(2,vi p0_5.length),(10,vp bu 0),(72,bk),(73,vi a8.1.length),(74,vi bo)] [bc 54 b0 [v0_0,v0_1,v0_2,v0_3,v0_4,v0_5,v0_6,bg,al,an,v0_10,v0_11],rd v0_2 p0_2,rd v0_3 p0_3,rd v0_5 p0_5,rd v0_6 p0_6,own 112 bg us446,iz aW us446 a5.1 none,own 3 al ar.1,own 3 an ar.2.1,own 3 v0_10 p0_10,own 114 v0_11 p0_11,bc 112 bu [bw,bq,(.slice none 0 0)],own 3 bw ar.2.2.1,own 3 bq ar.2.2.2,own 51 bk a8.1,rd bp bm] U w) hN ?_ ?_ ?_ ?_
  ·have o:=(o.cQ Int 3).cQ Int 3
   exact⟨(.slice none 0 0),(.slice none 0 0),o.sp 16 [4,7,8,9,10,5,6,11,12,13,14,2,1,0,15,3]⟩
  ·rintro hm ar _ w ⟨ea,eb,O,rfl,o⟩
   refine RC.sr (ic ((bm.length:Int)) ((bm.length:Int)) (RL.nq (RC.fw sf (RC.ex ?_))))
   exact⟨rfl,ea,eb,o.sp 16 [0,1,2,3,4,5,6,7,8,9,10,11,12,13,14,15]⟩
  ·rintro hm b5 ar s' _ w hk ⟨ch,cx,O,rfl,o⟩ hb
   refine RC.sr (ic ((b5:Int)) ((bm.length:Int)) (RL.nq (RC.fu (sd hk) (RC.ss (RC.bs ?_)))))
   obtain⟨a2,ec,hb⟩:=bd hb
   refine RL.bM 15 o eD ec fun fc o=>(RL.bB a2 0 o cG (aP (vi a2) (RL.nt (RC.bs (mv (vi a2) (mv (vi p0_5.length) (ic a2 ((p0_5.length:Int)) (aP (vb (decide (a2< (p0_5.length:Int)))) ?_))))))))
   refine RL.nt ?_
   obtain⟨b6,hj,hb⟩:=bd hb
   refine RC.jn (fun(b6: (List Int)×(List Int)×(List Int)×(List Int)) U w=>∃cj ck:Value,SH E V [(0,vp b0 0),(2,vi p0_5.length),(10,vp bu 0),(72,bk),(73,vi a8.1.length),(74,vi bo),(78,bp),(79,vi bm.length),(80,vi b5)] [bc 54 b0 [v0_0,v0_1,v0_2,v0_3,v0_4,v0_5,v0_6,bg,al,an,v0_10,v0_11],rd v0_2 p0_2,rd v0_3 p0_3,rd v0_5 p0_5,rd v0_6 p0_6,own 112 bg us446,iz aW us446 a5.1 none,own 3 al b6.1,own 3 an b6.2.1,own 3 v0_10 p0_10,own 114 v0_11 p0_11,bc 112 bu [cj,ck,(.slice none 0 0)],own 3 cj b6.2.2.1,own 3 ck b6.2.2.2,own 51 bk a8.1,rd bp bm] U w) b6 ?_ ?_
   ·refine dX hj (fun hc hj=>?_) fun hc hj=>?_
    ·refine RC.seq (RC.vH mixed [0,0,0,0,0,0,0,0,0,0,0,2] [0,1,2,3,4,5,6,7,8,9,10,11] ?_)
     have o:=o.drew
     refine DP.e0 zr (mv (vp b0 0) (aY zr (RL.nilCheck zr (aY zr (RL.aZ zr E2 (aY zr (RL.bK 1 al o fM (aY zr ?_))))))))
     refine mv (vi a2) (aY zr (mv (vp b0 0) (aY zr (RL.nilCheck zr (aY zr (RL.aZ zr yp (aY zr (RL.bK 1 bg o vK ?_))))))))
     refine aY zr (RL.sg 6 7 a5.1 o Kn (aY zr ?_))
     obtain⟨fe,cy,hj⟩:=bd hj
     refine RL.bS 8 o zr zr eD cy (oN zr ?_)
     have o:=o.sc Int (a5.1.length:Int)
     refine RL.gR (f:=(fun _ y=>y)) 9 0 o (jJ 9 o cy 0) (bI cy).2.1 zr Fs.self cG fun w o=>?_
     refine DP.d2 zt (DP.z (aG (RC.region (RL.aZ zr tz (RL.bK 13 ch o fM (mv (vi a2) ?_))))))
     have o:=o.sc Int a2
     refine RL.dQ ([a2]: (List Int)) o [(vi a2)] eD CX (fun M hs g=>⟨(g.sat 0 _ zr).1,zt⟩) fun ff w o=>?_
     have o:=o.freeze 0
     obtain⟨fg,ed,hj⟩:=bd hj
     refine RL.app 16 0 o rh ed fun db w o=>?_
     refine RL.aZ zr tz (RL.iB 15 db o zr zr (iS 16 o) fM fun w o=>?_)
     refine RL.nil ?_
     obtain rfl:=oi hj
     exact⟨rfl,db,cx,o.sp 20 [4,5,6,7,8,9,10,11,12,13,14,15,16,17,18,19]⟩
    refine RC.sr (mv (vp b0 0) (RL.nilCheck zr (RL.aZ zr uL (RL.aZ zr iw (RL.bK 1 v0_2 o nQ (mv (vi a2) (mv (vi p0_5.length) (RL.fO a2 (p0_5.length:Int) ?_))))))))
    obtain⟨dc,ee,hj⟩:=bd hj
    refine RL.bM 2 o qE ee fun fh o=>(RL.dN 0 o zr yo qt fun fi o=>(RL.bB dc.fY 0 o BN (aP (vb dc.fY) (RL.nt ?_))))
    obtain⟨cl,hjj,hj⟩:=bd hj
    refine RC.jn (fun(cl: (List Int)×(List Int)) U w=>∃cm:Value,SH E V [(0,vp b0 0),(2,vi p0_5.length),(10,vp bu 0),(72,bk),(73,vi a8.1.length),(74,vi bo),(78,bp),(79,vi bm.length),(80,vi b5)] [bc 54 b0 [v0_0,v0_1,v0_2,v0_3,v0_4,v0_5,v0_6,bg,al,an,v0_10,v0_11],rd v0_2 p0_2,rd v0_3 p0_3,rd v0_5 p0_5,rd v0_6 p0_6,own 112 bg us446,iz aW us446 a5.1 none,own 3 al ar.1,own 3 an cl.1,own 3 v0_10 p0_10,own 114 v0_11 p0_11,bc 112 bu [ch,cm,(.slice none 0 0)],own 3 cm cl.2,own 3 ch ar.2.2.1,own 51 bk a8.1,rd bp bm] U w) cl ?_ ?_
    ·refine dX hjj (fun hc hjj=>?_) fun hc hjj=>?_
     rotate_left
     ·refine RC.region (mv (vp b0 0) (RL.nilCheck zr (RL.aZ zr Ct (RL.bK 3 an o fM (mv (vi a2) (mv (vi p0_5.length) (RL.fO a2 (p0_5.length:Int) ?_)))))))
      obtain⟨fj,cz,hjj⟩:=bd hjj
      refine RL.bS 11 o zr zr eD cz ?_
      have o:=o.sc Int (-1)
      refine RL.gR (f:=(fun _ y=>y)) 12 0 o (jJ 12 o cz 0) (bI cz).2.1 zr Fs.self cG fun w o=>?_
      refine RL.nil ?_
      obtain rfl:=oi hjj
      exact⟨rfl,cx,o.sp 20 [4,5,6,7,8,9,10,11,12,13,14,15,17,16,18,19]⟩
     refine RC.seq (RC.vH mixed [0,0,0,0,0,0,0,0,0,0,0,0,0,2] [0,1,2,3,4,5,6,7,8,9,10,11,12,13] ?_)
     have o:=o.drew
     refine DP.e0 zr (mv (vp b0 0) (aY zr (RL.nilCheck zr (aY zr (RL.aZ zr Ct (aY zr (RL.bK 3 an o fM (aY zr ?_))))))))
     refine mv (vi a2) (aY zr (mv (vi p0_5.length) (aY zr (RL.fO a2 (p0_5.length:Int) (aY zr (mv (vp b0 0) (aY zr (RL.nilCheck zr ?_))))))))
     refine aY zr (RL.aZ zr yp (aY zr (RL.bK 3 bg o vK (aY zr (RL.sg 8 9 a5.1 o Kn (aY zr ?_))))))
     obtain⟨fk,c0,hjj⟩:=bd hjj
     refine RL.bS 11 o zr zr eD c0 (oN zr ?_)
     have o:=o.sc Int (a5.1.length:Int)
     refine RL.gR (f:=(fun _ y=>y)) 12 0 o (jJ 12 o c0 0) (bI c0).2.1 zr Fs.self cG fun w o=>?_
     refine DP.d2 zt (DP.z (aG (RC.region (RL.aZ zr vl (RL.bK 15 cx o fM (mv (vi a2) (mv (vi p0_5.length) (RL.fO a2 (p0_5.length:Int) ?_))))))))
     have o:=o.sc Int (IntKind.wrap .i64 (a2 - (p0_5.length:Int)))
     refine RL.dQ ([(IntKind.wrap .i64 (a2 - (p0_5.length:Int)))]: (List Int)) o [(vi (IntKind.wrap .i64 (a2 - (p0_5.length:Int))))] eD CX (fun M hs g=>⟨(g.sat 0 _ zr).1,zt⟩) fun fl w o=>?_
     have o:=o.freeze 0
     obtain⟨fm,ef,hjj⟩:=bd hjj
     refine RL.app 19 0 o rh ef fun dd w o=>?_
     refine RL.aZ zr vl (RL.iB 17 dd o zr zr (iS 19 o) fM fun w o=>?_)
     refine RL.nil ?_
     obtain rfl:=oi hjj
     exact⟨rfl,dd,o.sp 22 [6,7,8,9,10,11,12,13,14,15,16,17,19,18,20,21]⟩
    rintro _ w ⟨cm,O,rfl,o⟩
    obtain rfl:=oi hj
    exact⟨rfl,ch,cm,o.sp 16 [0,1,2,3,4,5,6,7,8,9,10,11,13,12,14,15]⟩
   rintro _ w ⟨cj,ck,O,rfl,o⟩
   refine bO (bO (aG (RC.region (RL.inc hk hm (mv (vi ((b5+1:Nat):Int)) (RL.nil ?_))))))
   obtain rfl:=oi hb
   exact⟨rfl,cj,ck,o.sp 16 [0,1,2,3,4,5,6,7,8,9,10,11,12,13,14,15]⟩
  rintro _ w ⟨bw,bq,O,rfl,o⟩
  refine aG (RC.sr (RL.aZ zr tz (RL.bK 11 bw o fM (RL.fS 12 ar.2.2.1 o mw (RL.aZ zr vl (RL.bK 11 bq o fM (RL.fS 13 ar.2.2.2 o mw (RL.fO (ar.2.2.1.length:Int) (ar.2.2.2.length:Int) ?_))))))))
  refine ic ((IntKind.wrap .i64 ((ar.2.2.1.length:Int)+ (ar.2.2.2.length:Int)))) 0 (RL.nt ?_)
  obtain⟨c1,hj,hb⟩:=bd hb
  refine RC.jn (fun(c1: (List cN)) U w=>∃(cn:Value) (us598:List aT),SH E V [(0,vp b0 0),(2,vi p0_5.length),(72,bk),(73,vi a8.1.length),(74,vi bo)] [bc 54 b0 [v0_0,v0_1,v0_2,v0_3,v0_4,v0_5,v0_6,cn,al,an,v0_10,v0_11],own 112 cn us598,iz aW us598 c1 none,rd v0_2 p0_2,rd v0_3 p0_3,rd v0_5 p0_5,rd v0_6 p0_6,own 3 al ar.1,own 3 an ar.2.1,own 3 v0_10 p0_10,own 114 v0_11 p0_11,own 51 bk a8.1] U w) c1 ?_ ?_
  ·refine dX hj (fun hc hj=>?_) fun hc hj=>?_
   rotate_left
   ·refine RC.skip ?_
    obtain rfl:=oi hj
    exact⟨rfl,bg,us446,o.sp 16 [0,5,6,1,2,3,4,7,8,9,10,14]⟩
   have o:=o.drew
   refine RC.EU (fun w=>Holds E w ([bc 54 b0 [v0_0,v0_1,v0_2,v0_3,v0_4,v0_5,v0_6,bg,al,an,v0_10,v0_11]]++V)) mixed zr [1,1,1,1,1,0,2,2,0,0,2] [0,1,2,3,4,5,6,7,8,9,10] (o.pk 16 [0]) (DP.e1 (vp b0 0) zr (fun w=>RL.move (vp b0 0) zt DP.d1) (DP.e1 (vp b0 0) zr (fun w=>RL.move (vp b0 0) zt DP.d1) (DP.e1 (vp b0 0) zr (fun w=>RL.nilCheck zr DP.d1) (DP.e1 (vp b0 7) zr (fun w=>RL.aZ zr yp DP.d1) (DP.IV bg zr (fun w o=>RL.bK 0 bg o vK DP.d1) (DP.e0 zr (RL.Dl (cs:=[bw,bq,(.slice none 0 0)]) 11 zt zr o zr zr DL zr (oN zr ?_))))))))
   have o:=((((o.cQ fG 98).BF (i:=0) rfl).freeze 14).freeze 15).EK (cs:=[bw,bq,(.slice none 0 0)]) (x:=(⟨ar.2.2.1,ar.2.2.2,(rv (.slice none 0 0))⟩:aT)) (fun M hs g=>⟨[bw],[bq,(.slice none 0 0)],rfl,(rL (g.sat 14 _ rfl).1),⟨[bq],[(.slice none 0 0)],rfl,(rL (g.sat 15 _ rfl).1),(rL (g.sat 0 _ rfl).1)⟩⟩) rfl
   refine RL.dQ ([(⟨ar.2.2.1,ar.2.2.2,(rv (.slice none 0 0))⟩:aT)]:List aT) o [(.agg ([bw,bq,(.slice none 0 0)]:List Value).toArray)] Bm HJ (fun M hs g=>⟨(g.sat 0 _ zr).1,zt⟩) fun fo w o=>(DP.d2 (o.pk 20 [4]) (DP.e2 zr ?_))
   obtain⟨fp,eg,hj⟩:=bd hj
   have o:=o.freeze 0
   refine RL.yg 9 0 10 3 aW (⟨ar.2.2.1,ar.2.2.2,(rv (.slice none 0 0))⟩:aT) (⟨ar.2.2.1,ar.2.2.2,([]: (List fG))⟩:cN) (.slice none 0 0) ([]: (List fG)) (fun _ _ ho=>⟨⟨rfl,zr⟩,ho⟩) zr o zr zr zr zr zr zr Ko eg fun de w o=>?_
   refine DP.d2 (o.pk 20 [4]) (DP.e0 zr (RL.nilCheck zr (aY zr (RL.aZ zr yp (DP.d0 (DP.Me zr zr (RL.iB 4 de o zr zr (iS 9 o) vK fun w o=>?_)))))))
   refine DP.d2 zt (DP.z ?_)
   obtain rfl:=oi hj
   exact⟨rfl,de,(us446++[(⟨ar.2.2.1,ar.2.2.2,(rv (.slice none 0 0))⟩:aT)]),o.sp 20 [4,9,10,5,6,7,8,11,12,13,14,18]⟩
  rintro _ w ⟨cn,us598,O,rfl,o⟩
  refine bO (aG (RC.region (RL.inc hk hm (mv (vi ((bo+1:Nat):Int)) (RL.nil ?_)))))
  obtain rfl:=oi hb
  exact⟨rfl,cn,us598,o.sp 12 [0,1,2,3,4,5,6,7,8,9,10,11]⟩
 rintro _ w ⟨aj,us444,O,rfl,o⟩
 refine aG (RC.sr (mv (vp b0 0) (RL.nilCheck zr (RL.aZ zr uL (RL.aZ zr rR (RL.bK 0 v0_3 o Bj (RL.bC 4 p0_3 o Gp (mv (vi 0) ?_))))))))
 refine RL.nt ?_
 obtain⟨ai,hN,hb⟩:=bd hb
 refine RC.fold (fun(b2:Nat) (ai: (List cN)×(List Int)×(List Int)×(List Int)×(List j4)) U w=>∃(df dg:Value) (dh di:Value) (us819:List aT),SH E V [(0,vp b0 0),(170,v0_3),(171,vi p0_3.length),(172,vi b2)] [bc 54 b0 [v0_0,v0_1,v0_2,v0_3,v0_4,v0_5,v0_6,aj,df,dg,dh,di],rd df ai.2.1,rd dg ai.2.2.1,own 3 dh ai.2.2.2.1,own 114 di ai.2.2.2.2,rd v0_2 p0_2,rd v0_3 p0_3,rd v0_5 p0_5,rd v0_6 p0_6,own 112 aj us819,iz aW us819 ai.1 none] U w) (fun(ai: (List cN)×(List Int)×(List Int)×(List Int)×(List j4)) U w=>∃(cp cq:Value) (cr ct:Value) (us824:List aT),SH E V [(0,vp b0 0)] [bc 54 b0 [v0_0,v0_1,v0_2,v0_3,v0_4,v0_5,v0_6,aj,cp,cq,cr,ct],rd cp ai.2.1,rd cq ai.2.2.1,own 3 cr ai.2.2.2.1,own 114 ct ai.2.2.2.2,rd v0_2 p0_2,rd v0_3 p0_3,rd v0_5 p0_5,rd v0_6 p0_6,own 112 aj us824,iz aW us824 ai.1 none] U w) hN ?_ ?_ ?_ ?_
 ·have o:=(o.freeze 7).freeze 8
  exact⟨al,an,v0_10,v0_11,us444,o.sp 12 [0,7,8,9,10,3,4,5,6,1,2]⟩
 ·rintro hm ai _ w ⟨eh,ei,ej,ek,us932,O,rfl,o⟩
  refine RC.sr (ic ((p0_3.length:Int)) ((p0_3.length:Int)) (RL.nq (RC.fw sf (RC.ex ?_))))
  exact⟨rfl,eh,ei,ej,ek,us932,o.sp 11 [0,1,2,3,4,5,6,7,8,9,10]⟩
 ·rintro hm b2 ai s' _ w hk ⟨a3,a4,bl,a6,us829,O,rfl,o⟩ hb
  refine RC.sr (ic ((b2:Int)) ((p0_3.length:Int)) (RL.nq (RC.fu (sd hk) (RC.ss (RC.bs ?_)))))
  obtain⟨b7,el,hb⟩:=bd hb
  refine RL.bM 6 o Gq el fun en o=>(RL.bF 0 b7 o vJ fun eo o=>(RL.alloc o HB.z fun dj w o=>?_))
  refine RL.bZ 0 o 1 zr vJ fun w o=>?_
  refine RL.ns (mv (vp b0 0) (RL.bG (f:=(fun x=>x)) 0 o zr Fd.self vJ fun dk o=>?_))
  have o:=((o.dup 11 rfl).dup 10 rfl).pull 6
  obtain⟨ba,ep,hb⟩:=bd hb
  refine RL.call zt zr M1 [(vp b0 0),dk] zr (aD (uv N (i1:=0) o zr ep) ?_)
  rintro _ w ⟨c2,rfl,o⟩
  refine mv (.tuple #[c2,(vb ba.2)]) (RL.extract c2 (RL.extract (vb ba.2) (RL.alloc o DM.z fun b8 w o=>?_)))
  refine RL.bZ 0 o 1 zr pq fun w o=>?_
  refine aP (vb ba.2) (RL.ns (aP (vi (-1)) (RL.nq (RC.sr (mv (vb ba.2) (RL.nt ?_))))))
  obtain⟨bh,hj,hb⟩:=bd hb
  refine RC.jn (fun(bh: (List cN)×Int) U w=>∃(us877:List aT),SH E V [(0,vp b0 0),(15,vp b8 0),(17,vi bh.2),(170,v0_3),(171,vi p0_3.length),(172,vi b2)] [bc 54 b0 [v0_0,v0_1,v0_2,v0_3,v0_4,v0_5,v0_6,aj,a3,a4,bl,a6],rd v0_2 p0_2,rd v0_3 p0_3,rd v0_5 p0_5,rd v0_6 p0_6,own 112 aj us877,iz aW us877 bh.1 none,rd a3 ai.2.1,rd a4 ai.2.2.1,own 3 bl ai.2.2.2.1,own 114 a6 ai.2.2.2.2,bx 114 b8 ba.1] U w) bh ?_ ?_
  ·refine dX hj (fun hc hj=>?_) fun hc hj=>?_
   rotate_left
   ·refine RC.skip ?_
    obtain rfl:=oi hj
    exact⟨rfl,us829,o.sp 18 [2,12,13,14,15,16,17,8,9,10,11,0]⟩
   refine RC.sr (mv (vp b0 0) (RL.bG (f:=(fun x=>x)) 0 o zr Fd.self pq fun dm o=>?_))
   have o:=((o.dup 10 rfl).dup 10 rfl).pull 5
   obtain⟨ah,er,hj⟩:=bd hj
   refine RL.call zt zr M3 [(vp b0 0),dm] zr (aD (qL N (i1:=0) o zr er) ?_)
   rintro _ w ⟨rfl,o⟩
   refine aP (vi ah) (RL.nt ?_)
   obtain⟨fq,cd,hj⟩:=bd hj
   obtain⟨b9,et,hj⟩:=bd hj
   obtain⟨br,eu,hj⟩:=bd hj
   obtain⟨b3,cu,hj⟩:=bd hj
   refine RC.ER E V mixed [1,1,1,0,1,1,1,1,0,1,0,0,0,0,0,0,0,0,0,0] [13,14,15,16,19] (fun(x:Value×Value×Value×Value)=>(fun av aw au ak=>[(0,186,(vp b0 0)),(1,187,(vp b0 0)),(2,188,(vp b0 7)),(3,189,aj),(4,190,(vi ah)),(5,191,(vp b0 0)),(6,192,(vp b0 0)),(7,193,(vp b0 7)),(8,194,aj),(9,195,(vi ah)),(10,196,(zi aj (Int.toNat ah) 3 0)),(11,197,(zi aj (Int.toNat ah) 3 2)),(12,198,(us829.getD (Int.toNat ah) (default:aT)).gq.v),(13,199,av),(14,200,aw),(15,201,au),(16,202,ak),(17,203,(zi aj (Int.toNat ah) 3 0)),(18,204,(zi aj (Int.toNat ah) 3 2))]) x.1 x.2.1 x.2.2.1 x.2.2.2) [(0,vp b0 0),(14,vp dj 0),(15,vp b8 0),(17,vi ah),(170,v0_3),(171,vi p0_3.length),(172,vi b2)] [] (fun(D:Nat->Bool) (x:Value×Value×Value×Value)=>(fun av aw au ak=>[bif D 0 then (rd av b7) else aX,bif D 1 then (rd aw b9) else aX,bif D 3 then (rd au ([b9]: (List fG))) else (bif D 2 then (own 98 au ([b9]: (List fG))) else aX),bif D 4 then aX else (bif D 3 then (own 98 ak br) else aX),bc 54 b0 [v0_0,v0_1,v0_2,v0_3,v0_4,v0_5,v0_6,aj,a3,a4,bl,a6],rd dm ba.1,bx 114 b8 ba.1,rd c2 ba.1,aX,rd dk b7,bx 94 dj b7,rd eo b7,pt en b7,aX,rd a3 ai.2.1,rd a4 ai.2.2.1,own 3 bl ai.2.2.2.1,own 114 a6 ai.2.2.2.2,rd v0_2 p0_2,rd v0_3 p0_3,rd v0_5 p0_5,rd v0_6 p0_6,bif D 4 then (own 112 aj (us829.set (Int.toNat ah) {(us829.getD (Int.toNat ah) (default:aT)) with gq:=rv ak})) else (own 112 aj us829),bif D 4 then (iz aW (us829.set (Int.toNat ah) {(us829.getD (Int.toNat ah) (default:aT)) with gq:=rv ak}) (ai.1.set (Int.toNat ah) {b3 with gq:=br}) none) else (bif D 3 then (iz aW us829 ai.1 (some (Int.toNat ah))) else (iz aW us829 ai.1 none))]) x.1 x.2.1 x.2.2.1 x.2.2.2) (fun x=>by kernel_rfl) ?_ ⟨fun _=>je gn,fun _=>wu gn,fun _=>mG gn yp,?_,fun _=>je gn,fun _=>je gn,fun _=>wu gn,fun _=>mG gn yp,?_,fun _=>je gn,?_,?_,?_,?_,?_,?_,?_,?_,?_,?_,trivial⟩ ?_
   ·have o:=((((o.drew).aX).aX).aX).aX
    exact⟨(undef,undef,undef,undef),eU.none,(DB zr),zt,o⟩
   ·rintro D U w hD ae ab ⟨⟨av,aw,au,ak⟩,hv,ha,_,o⟩
    obtain⟨O,rfl⟩:=(ac (hv.at 2 rfl (ae.1 rfl)) az).eN
    refine RL.bK 4 aj o vK ?_
    exact RL.nil ⟨rfl,(av,aw,au,ak),hv.pu 3,ha.u,zt,o⟩
   ·rintro D U w hD ae ab ⟨⟨av,aw,au,ak⟩,hv,ha,_,o⟩
    obtain⟨O,rfl⟩:=(ac (hv.at 7 rfl (ae.1 rfl)) az).eN
    refine RL.bK 4 aj o vK ?_
    exact RL.nil ⟨rfl,(av,aw,au,ak),hv.pu 8,ha.u,zt,o⟩
   ·rintro D U w hD ae ab ⟨⟨av,aw,au,ak⟩,hv,ha,_,o⟩
    obtain⟨O,rfl⟩:=(ac (hv.at 8 rfl (ae.1 rfl)) (ac (hv.at 9 rfl (ae.2.1 rfl)) az)).eN
    have o:=((o.bX 22 (nh ab hD 19)).bX 23 (nh ab hD 19)).bX 23 (nf (fun h=>ft hD ((ab 11 _ rfl ((ab 12 _ rfl ((ab 16 _ rfl h).1 rfl)).1 rfl)).1 rfl)))
    have hl900:=o.eE 23
    have hr901:=fT (default:aT) hl900 cd
    refine RL.bS 22 o zr zr Bm hr901 ?_
    have o:=(o.eY 22 (D 19) (nh ab hD 19) (own 112 aj (us829.set (Int.toNat ah) {(us829.getD (Int.toNat ah) (default:aT)) with gq:=rv ak}))).eY 23 (D 16) (nf (fun h=>ft hD ((ab 11 _ rfl ((ab 12 _ rfl ((ab 16 _ rfl h).1 rfl)).1 rfl)).1 rfl))) (iz aW us829 ai.1 (some (Int.toNat ah)))
    have o:=o.eY 23 (D 19) (nh ab hD 19) (iz aW (us829.set (Int.toNat ah) {(us829.getD (Int.toNat ah) (default:aT)) with gq:=rv ak}) (ai.1.set (Int.toNat ah) {b3 with gq:=br}) none)
    exact RL.nil ⟨rfl,(av,aw,au,ak),hv.pu 10,ha.u,zt,o⟩
   ·rintro D U w hD ae ab ⟨⟨av,aw,au,ak⟩,hv,ha,_,o⟩
    obtain⟨O,rfl⟩:=(ac (hv.at 10 rfl (ae.1 rfl)) az).eN
    have o:=((o.bX 22 (nh ab hD 19)).bX 23 (nh ab hD 19)).bX 23 (nf (fun h=>ft hD ((ab 12 _ rfl ((ab 16 _ rfl h).1 rfl)).1 rfl)))
    have hl902:=o.eE 23
    have hr903:=fT (default:aT) hl902 cd
    refine RL.lh (α:=aT) zt (jJ 22 o hr903 0) zF ?_
    have o:=(o.eY 22 (D 19) (nh ab hD 19) (own 112 aj (us829.set (Int.toNat ah) {(us829.getD (Int.toNat ah) (default:aT)) with gq:=rv ak}))).eY 23 (D 16) (nf (fun h=>ft hD ((ab 12 _ rfl ((ab 16 _ rfl h).1 rfl)).1 rfl))) (iz aW us829 ai.1 (some (Int.toNat ah)))
    have o:=o.eY 23 (D 19) (nh ab hD 19) (iz aW (us829.set (Int.toNat ah) {(us829.getD (Int.toNat ah) (default:aT)) with gq:=rv ak}) (ai.1.set (Int.toNat ah) {b3 with gq:=br}) none)
    exact RL.nil ⟨rfl,(av,aw,au,ak),hv.pu 11,ha.u,zt,o⟩
   ·rintro D U w hD ae ab ⟨⟨av,aw,au,ak⟩,hv,ha,_,o⟩
    obtain⟨O,rfl⟩:=(ac (hv.at 11 rfl (ae.1 rfl)) az).eN
    have o:=((o.bX 22 (nh ab hD 19)).bX 23 (nh ab hD 19)).bX 23 (nh ab hD 16)
    have hl904:=o.eE 23
    have hr905:=fT (default:aT) hl904 cd
    refine RL.vk 22 23 ah n8 (default:aT) zr o zr (jJ 22 o hr905 2) zr zr cd FO ?_
    have o:=(o.eY 22 (D 19) (nh ab hD 19) (own 112 aj (us829.set (Int.toNat ah) {(us829.getD (Int.toNat ah) (default:aT)) with gq:=rv ak}))).eY 23 (D 16) (nh ab hD 16) (iz aW us829 ai.1 (some (Int.toNat ah)))
    have o:=o.eY 23 (D 19) (nh ab hD 19) (iz aW (us829.set (Int.toNat ah) {(us829.getD (Int.toNat ah) (default:aT)) with gq:=rv ak}) (ai.1.set (Int.toNat ah) {b3 with gq:=br}) none)
    exact RL.nil ⟨rfl,(av,aw,au,ak),hv.pu 12,ha.u,zt,o⟩
   ·rintro D U w hD ae ab ⟨⟨av,aw,au,ak⟩,hv,ha,_,o⟩
    obtain⟨O,rfl⟩:=(ac (ha.at 1 rfl) az).eN
    have o:=o.bX 0 hD
    refine RL.bG (f:=(fun x=>x)) 10 o zr Fd.self vJ fun ev o=>?_
    have o:=(o.pl 25 [0,2,3,4,5,6,7,8,9,10,11,12,13,14,15,16,17,18,19,20,21,22,23,24]).cD 0 true rfl aX
    exact RL.nil ⟨rfl,(ev,aw,au,ak),hv.pu 13,ha.u,zt,o⟩
   ·rintro D U w hD ae ab ⟨⟨av,aw,au,ak⟩,hv,ha,_,o⟩
    obtain⟨O,rfl⟩:=(ac (hv.at 13 rfl (ae.1 rfl)) az).eN
    have o:=(o.cC 0 (ae.1 rfl)).bX 1 hD
    refine RL.call zt zr Kg [av] zr (aD (pN N (i0:=0) o zr et) ?_)
    rintro ew w o
    have o:=((o.pl 25 [1,0,3,4,5,6,7,8,9,10,11,12,13,14,15,16,17,18,19,20,21,22,23,24]).cD 0 (D 13) (ae.1 rfl) aX).cD 1 true rfl aX
    exact RL.nil ⟨rfl,(av,ew,au,ak),hv.pu 14,ha.u,zt,o⟩
   ·rintro D U w hD ae ab ⟨⟨av,aw,au,ak⟩,hv,ha,_,o⟩
    obtain⟨O,rfl⟩:=(ac (hv.at 14 rfl (ae.1 rfl)) az).eN
    have o:=((o.cC 1 (ae.1 rfl)).bX 2 (nh ab hD 16)).bX 2 hD
    refine RL.dQ ([b9]: (List fG)) o [aw] JB Kf (fun M hs g=>⟨(g.sat 1 _ zr).1,zt⟩) fun dn w o=>?_
    have o:=(((o.pl 25 [1,2,0,4,5,6,7,8,9,10,11,12,13,14,15,16,17,18,19,20,21,22,23,24]).cD 1 (D 14) (ae.1 rfl) aX).cD 2 true rfl aX).eY 2 (D 16) (nh ab hD 16) (rd dn ([b9]: (List fG)))
    exact RL.nil ⟨rfl,(av,aw,dn,ak),hv.pu 15,ha.u,zt,o⟩
   ·rintro D U w hD ae ab ⟨⟨av,aw,au,ak⟩,hv,ha,_,o⟩
    obtain⟨O,rfl⟩:=(ac (hv.at 12 rfl (ae.1 rfl)) (ac (hv.at 15 rfl (ae.2.1 rfl)) az)).eN
    have o:=(((((((o.bX 2 hD).cC 2 (ae.2.1 rfl)).bX 3 (nh ab hD 19)).bX 3 hD).bX 22 (nh ab hD 19)).bX 23 (nh ab hD 19)).bX 23 hD).zS (j:=23) (jj:=ah) n8 (default:aT) rfl cd
    have o:=o.freeze 3
    refine RL.app 0 3 o JC eu fun c3 w o=>?_
    have o:=((((o.pl 25 [1,2,3,0,5,6,7,8,9,10,11,12,13,14,15,16,17,18,19,20,21,22,23,24]).cD 2 true rfl (bif D 15 then (own 98 au ([b9]: (List fG))) else aX)).cD 3 true rfl aX).eY 3 (D 19) (nh ab hD 19) aX).eY 22 (D 19) (nh ab hD 19) (own 112 aj (us829.set (Int.toNat ah) {(us829.getD (Int.toNat ah) (default:aT)) with gq:=rv c3}))
    have o:=(o.cD 23 true rfl (iz aW us829 ai.1 none)).eY 23 (D 19) (nh ab hD 19) (iz aW (us829.set (Int.toNat ah) {(us829.getD (Int.toNat ah) (default:aT)) with gq:=rv c3}) (ai.1.set (Int.toNat ah) {b3 with gq:=br}) none)
    exact RL.nil ⟨rfl,(av,aw,au,c3),hv.pu 16,ha.u,zt,o⟩
   ·rintro D U w hD ae ab ⟨⟨av,aw,au,ak⟩,hv,ha,_,o⟩
    obtain⟨O,rfl⟩:=(ac (hv.at 3 rfl (ae.1 rfl)) (ac (hv.at 4 rfl (ae.2.1 rfl)) az)).eN
    have o:=o.bX 22 (nf (fun h=>ft hD ((ab 18 _ rfl ((ab 19 _ rfl h).1 rfl)).1 rfl)))
    have o:=o.bX 23 (nf (fun h=>ft hD ((ab 18 _ rfl ((ab 19 _ rfl h).1 rfl)).1 rfl)))
    have o:=o.cC 23 (ae.2.2.2.2.2.2.2.2.2.2.2.2.2.2.2.2.2.2.1 rfl)
    have hl910:=o.eE 23
    have hr911:=fT (default:aT) hl910 cu
    refine RL.bS 22 o zr zr Bm hr911 ?_
    have o:=o.eY 22 (D 19) (nf (fun h=>ft hD ((ab 18 _ rfl ((ab 19 _ rfl h).1 rfl)).1 rfl))) (own 112 aj (us829.set (Int.toNat ah) {(us829.getD (Int.toNat ah) (default:aT)) with gq:=rv ak}))
    have o:=(o.cD 23 (D 16) (ae.2.2.2.2.2.2.2.2.2.2.2.2.2.2.2.2.2.2.1 rfl) (iz aW us829 ai.1 none)).eY 23 (D 19) (nf (fun h=>ft hD ((ab 18 _ rfl ((ab 19 _ rfl h).1 rfl)).1 rfl))) (iz aW (us829.set (Int.toNat ah) {(us829.getD (Int.toNat ah) (default:aT)) with gq:=rv ak}) (ai.1.set (Int.toNat ah) {b3 with gq:=br}) none)
    exact RL.nil ⟨rfl,(av,aw,au,ak),hv.pu 17,ha.u,zt,o⟩
   ·rintro D U w hD ae ab ⟨⟨av,aw,au,ak⟩,hv,ha,_,o⟩
    obtain⟨O,rfl⟩:=(ac (hv.at 17 rfl (ae.1 rfl)) az).eN
    have o:=((o.bX 22 (nh ab hD 19)).bX 23 (nh ab hD 19)).cC 23 (ae.2.2.2.2.2.2.2.2.2.2.2.2.2.2.2.2.2.1 rfl)
    have hl912:=o.eE 23
    have hr913:=fT (default:aT) hl912 cu
    refine RL.lh (α:=aT) zt (jJ 22 o hr913 0) zF ?_
    have o:=(o.eY 22 (D 19) (nh ab hD 19) (own 112 aj (us829.set (Int.toNat ah) {(us829.getD (Int.toNat ah) (default:aT)) with gq:=rv ak}))).cD 23 (D 16) (ae.2.2.2.2.2.2.2.2.2.2.2.2.2.2.2.2.2.1 rfl) (iz aW us829 ai.1 none)
    have o:=o.eY 23 (D 19) (nh ab hD 19) (iz aW (us829.set (Int.toNat ah) {(us829.getD (Int.toNat ah) (default:aT)) with gq:=rv ak}) (ai.1.set (Int.toNat ah) {b3 with gq:=br}) none)
    exact RL.nil ⟨rfl,(av,aw,au,ak),hv.pu 18,ha.u,zt,o⟩
   ·rintro D U w hD ae ab ⟨⟨av,aw,au,ak⟩,hv,ha,_,o⟩
    obtain⟨O,rfl⟩:=(ac (hv.at 16 rfl (ae.2.1 rfl)) (ac (hv.at 18 rfl (ae.1 rfl)) az)).eN
    have o:=((((o.bX 3 hD).cC 3 (ae.2.1 rfl)).bX 22 hD).bX 23 hD).cC 23 (ae.2.1 rfl)
    have hl914:=o.eE 23
    have hr915:=fT (default:aT) hl914 cu
    refine RL.tr 22 23 3 ah n8 (default:aT) o zr zr (jJ 22 o hr915 2) zr zr zr cu FO fun w o=>?_
    have o:=((o.cD 3 true rfl (bif D 16 then (own 98 ak br) else aX)).cD 22 true rfl (own 112 aj us829)).cD 23 true rfl (bif D 16 then (iz aW us829 ai.1 (some (Int.toNat ah))) else (iz aW us829 ai.1 none))
    exact RL.nil ⟨rfl,(av,aw,au,ak),hv.n1,ha,zt,o⟩
   rintro D U w a7 ⟨⟨av,aw,au,ak⟩,hv,ha,_,o⟩
   have o:=(((((o.cC 0 (jQ a7 13)).cC 1 (jQ a7 14)).cC 2 (jQ a7 16)).cC 3 (jQ a7 19)).cC 22 (jQ a7 19)).cC 23 (jQ a7 19)
   obtain⟨O,rfl⟩:=(ac (ha.at 0 rfl) (ac (ha.at 1 rfl) (ac (ha.at 2 rfl) (ac (ha.at 3 rfl) (ac (ha.at 4 rfl) (ac (ha.at 5 rfl) (ac (ha.at 6 rfl) az))))))).eN
   obtain rfl:=oi hj
   exact⟨rfl,(us829.set (Int.toNat ah) {(us829.getD (Int.toNat ah) (default:aT)) with gq:=rv ak}),o.sp 24 [4,18,19,20,21,22,23,14,15,16,17,6]⟩
  rintro _ w ⟨us877,O,rfl,o⟩
  refine aG ?_
  obtain⟨ey,ez,hb⟩:=bd hb
  obtain⟨e3,e4,hb⟩:=bd hb
  refine RC.ER E V mixed [1,1,1,1,1,0,1,0,0,1,1,1,0,0,0,0,1,1,0,1,1,0] [7,8,13,14,15,18,21] (fun(x:Value×Value×Value×Value×Value)=>(fun ay a1 a0 aq ax=>[(0,205,(vp b0 0)),(1,206,(vp b0 0)),(2,207,(vp b0 0)),(3,208,(vp b0 0)),(4,209,(vp b0 10)),(5,210,bl),(6,211,(vi bh.2)),(7,212,ay),(8,213,aq),(9,214,(vp b0 0)),(10,215,(vp b0 0)),(11,216,(vp b0 11)),(12,217,a6),(13,218,a1),(14,219,a0),(15,220,ax),(16,221,(vp b0 0)),(17,222,(vp b0 10)),(19,223,(vp b0 0)),(20,224,(vp b0 11))]) x.1 x.2.1 x.2.2.1 x.2.2.2.1 x.2.2.2.2) [(0,vp b0 0),(15,vp b8 0),(17,vi bh.2),(170,v0_3),(171,vi p0_3.length),(172,vi b2)] [] (fun(D:Nat->Bool) (x:Value×Value×Value×Value×Value)=>(fun ay a1 a0 aq ax=>[bif D 1 then (rd ay ([bh.2]: (List Int))) else (bif D 0 then (own 3 ay ([bh.2]: (List Int))) else aX),bif D 2 then (rd a1 ba.1) else aX,bif D 4 then (rd a0 ([ba.1]: (List j4))) else (bif D 3 then (own 114 a0 ([ba.1]: (List j4))) else aX),bif D 6 then (bc 54 b0 [v0_0,v0_1,v0_2,v0_3,v0_4,v0_5,v0_6,aj,a3,a4,aq,ax]) else (bif D 5 then (bc 54 b0 [v0_0,v0_1,v0_2,v0_3,v0_4,v0_5,v0_6,aj,a3,a4,aq,a6]) else (bc 54 b0 [v0_0,v0_1,v0_2,v0_3,v0_4,v0_5,v0_6,aj,a3,a4,bl,a6])),rd v0_2 p0_2,rd v0_3 p0_3,rd v0_5 p0_5,rd v0_6 p0_6,own 112 aj us877,iz aW us877 bh.1 none,rd a3 ai.2.1,rd a4 ai.2.2.1,bif D 1 then (own 3 aq ey) else (own 3 bl ai.2.2.2.1),bif D 4 then (own 114 ax e3) else (own 114 a6 ai.2.2.2.2),bx 114 b8 ba.1]) x.1 x.2.1 x.2.2.1 x.2.2.2.1 x.2.2.2.2) (fun x=>by kernel_rfl) ?_ ⟨fun _=>je gn,fun _=>je gn,fun _=>je gn,fun _=>wu gn,fun _=>mG gn HK,?_,fun _=>je gn,?_,?_,fun _=>je gn,fun _=>wu gn,fun _=>mG gn HL,?_,?_,?_,?_,fun _=>wu gn,fun _=>mG gn HK,?_,fun _=>wu gn,fun _=>mG gn HL,?_,trivial⟩ ?_
  ·have o:=(((o.drew).aX).aX).aX
   exact⟨(undef,undef,undef,undef,undef),eU.none,(DB zr),zt,o⟩
  ·rintro D U w hD ae ab ⟨⟨ay,a1,a0,aq,ax⟩,hv,ha,_,o⟩
   obtain⟨O,rfl⟩:=(ac (hv.at 4 rfl (ae.1 rfl)) az).eN
   have o:=(o.bX 3 (nh ab hD 21)).bX 3 (nh ab hD 18)
   refine RL.bK 3 bl o fM ?_
   have o:=(o.eY 3 (D 18) (nh ab hD 18) (bc 54 b0 [v0_0,v0_1,v0_2,v0_3,v0_4,v0_5,v0_6,aj,a3,a4,aq,a6])).eY 3 (D 21) (nh ab hD 21) (bc 54 b0 [v0_0,v0_1,v0_2,v0_3,v0_4,v0_5,v0_6,aj,a3,a4,aq,ax])
   exact RL.nil ⟨rfl,(ay,a1,a0,aq,ax),hv.pu 5,ha.u,zt,o⟩
  ·rintro D U w hD ae ab ⟨⟨ay,a1,a0,aq,ax⟩,hv,ha,_,o⟩
   obtain⟨O,rfl⟩:=(ac (hv.at 6 rfl (ae.1 rfl)) az).eN
   have o:=((o.bX 0 (nh ab hD 8)).bX 0 hD).sc Int bh.2
   refine RL.dQ ([bh.2]: (List Int)) o [(vi bh.2)] eD CX (fun M hs g=>⟨(g.sat 0 _ zr).1,zt⟩) fun dp w o=>?_
   have o:=((o.pl 17 [0,3,4,5,6,7,8,9,10,11,12,13,14,15,16]).cD 0 true rfl aX).eY 0 (D 8) (nh ab hD 8) (rd dp ([bh.2]: (List Int)))
   exact RL.nil ⟨rfl,(dp,a1,a0,aq,ax),hv.pu 7,ha.u,zt,o⟩
  ·rintro D U w hD ae ab ⟨⟨ay,a1,a0,aq,ax⟩,hv,ha,_,o⟩
   obtain⟨O,rfl⟩:=(ac (hv.at 5 rfl (ae.1 rfl)) (ac (hv.at 7 rfl (ae.2.1 rfl)) az)).eN
   have o:=(((((o.bX 0 hD).cC 0 (ae.2.1 rfl)).bX 3 (nh ab hD 21)).bX 3 (nh ab hD 18)).bX 12 hD).freeze 0
   refine RL.app 12 0 o rh ez fun c4 w o=>?_
   have o:=((o.cD 0 true rfl (bif D 7 then (own 3 ay ([bh.2]: (List Int))) else aX)).eY 3 (D 18) (nh ab hD 18) (bc 54 b0 [v0_0,v0_1,v0_2,v0_3,v0_4,v0_5,v0_6,aj,a3,a4,c4,a6])).eY 3 (D 21) (nh ab hD 21) (bc 54 b0 [v0_0,v0_1,v0_2,v0_3,v0_4,v0_5,v0_6,aj,a3,a4,c4,ax])
   have o:=o.cD 12 true rfl (own 3 bl ai.2.2.2.1)
   exact RL.nil ⟨rfl,(ay,a1,a0,c4,ax),hv.pu 8,ha.u,zt,o⟩
  ·rintro D U w hD ae ab ⟨⟨ay,a1,a0,aq,ax⟩,hv,ha,_,o⟩
   obtain⟨O,rfl⟩:=(ac (hv.at 11 rfl (ae.1 rfl)) az).eN
   have o:=(o.bX 3 (nh ab hD 21)).bX 3 (nh ab hD 18)
   refine RL.bK 3 a6 o Ly ?_
   have o:=(o.eY 3 (D 18) (nh ab hD 18) (bc 54 b0 [v0_0,v0_1,v0_2,v0_3,v0_4,v0_5,v0_6,aj,a3,a4,aq,a6])).eY 3 (D 21) (nh ab hD 21) (bc 54 b0 [v0_0,v0_1,v0_2,v0_3,v0_4,v0_5,v0_6,aj,a3,a4,aq,ax])
   exact RL.nil ⟨rfl,(ay,a1,a0,aq,ax),hv.pu 12,ha.u,zt,o⟩
  ·rintro D U w hD ae ab ⟨⟨ay,a1,a0,aq,ax⟩,hv,ha,_,o⟩
   obtain⟨O,rfl⟩:=(ac (ha.at 1 rfl) az).eN
   have o:=o.bX 1 hD
   refine RL.bG (f:=(fun x=>x)) 14 o zr Fd.self pq fun e5 o=>?_
   have o:=(o.pl 16 [1,0,3,4,5,6,7,8,9,10,11,12,13,14,15]).cD 1 true rfl aX
   exact RL.nil ⟨rfl,(ay,e5,a0,aq,ax),hv.pu 13,ha.u,zt,o⟩
  ·rintro D U w hD ae ab ⟨⟨ay,a1,a0,aq,ax⟩,hv,ha,_,o⟩
   obtain⟨O,rfl⟩:=(ac (hv.at 13 rfl (ae.1 rfl)) az).eN
   have o:=((o.cC 1 (ae.1 rfl)).bX 2 (nh ab hD 15)).bX 2 hD
   refine RL.dQ ([ba.1]: (List j4)) o [a1] M4 DM (fun M hs g=>⟨(g.sat 1 _ zr).1,zt⟩) fun dq w o=>?_
   have o:=(((o.pl 16 [1,2,0,4,5,6,7,8,9,10,11,12,13,14,15]).cD 1 (D 13) (ae.1 rfl) aX).cD 2 true rfl aX).eY 2 (D 15) (nh ab hD 15) (rd dq ([ba.1]: (List j4)))
   exact RL.nil ⟨rfl,(ay,a1,dq,aq,ax),hv.pu 14,ha.u,zt,o⟩
  ·rintro D U w hD ae ab ⟨⟨ay,a1,a0,aq,ax⟩,hv,ha,_,o⟩
   obtain⟨O,rfl⟩:=(ac (hv.at 12 rfl (ae.1 rfl)) (ac (hv.at 14 rfl (ae.2.1 rfl)) az)).eN
   have o:=(((((o.bX 2 hD).cC 2 (ae.2.1 rfl)).bX 3 (nh ab hD 21)).bX 3 (nh ab hD 18)).bX 13 hD).freeze 2
   refine RL.app 13 2 o M5 e4 fun dr w o=>?_
   have o:=((o.cD 2 true rfl (bif D 14 then (own 114 a0 ([ba.1]: (List j4))) else aX)).eY 3 (D 18) (nh ab hD 18) (bc 54 b0 [v0_0,v0_1,v0_2,v0_3,v0_4,v0_5,v0_6,aj,a3,a4,aq,a6])).eY 3 (D 21) (nh ab hD 21) (bc 54 b0 [v0_0,v0_1,v0_2,v0_3,v0_4,v0_5,v0_6,aj,a3,a4,aq,dr])
   have o:=o.cD 13 true rfl (own 114 a6 ai.2.2.2.2)
   exact RL.nil ⟨rfl,(ay,a1,a0,aq,dr),hv.pu 15,ha.u,zt,o⟩
  ·rintro D U w hD ae ab ⟨⟨ay,a1,a0,aq,ax⟩,hv,ha,_,o⟩
   obtain⟨O,rfl⟩:=(ac (hv.at 8 rfl (ae.2.1 rfl)) (ac (hv.at 17 rfl (ae.1 rfl)) az)).eN
   have o:=((o.bX 3 (nh ab hD 21)).bX 3 hD).cC 12 (ae.2.1 rfl)
   refine RL.iB 3 aq o zr zr (iS 12 o) fM fun w o=>?_
   have o:=((o.cD 3 true rfl (bc 54 b0 [v0_0,v0_1,v0_2,v0_3,v0_4,v0_5,v0_6,aj,a3,a4,bl,a6])).eY 3 (D 21) (nh ab hD 21) (bc 54 b0 [v0_0,v0_1,v0_2,v0_3,v0_4,v0_5,v0_6,aj,a3,a4,aq,ax])).cD 12 (D 8) (ae.2.1 rfl) (own 3 bl ai.2.2.2.1)
   exact RL.nil ⟨rfl,(ay,a1,a0,aq,ax),hv.n1,ha,zt,o⟩
  ·rintro D U w hD ae ab ⟨⟨ay,a1,a0,aq,ax⟩,hv,ha,_,o⟩
   obtain⟨O,rfl⟩:=(ac (hv.at 15 rfl (ae.2.1 rfl)) (ac (hv.at 19 rfl (ae.1 rfl)) az)).eN
   have o:=((o.bX 3 hD).cC 3 (ae.2.2.1 rfl)).cC 13 (ae.2.1 rfl)
   refine RL.iB 3 ax o zr zr (iS 13 o) Ly fun w o=>?_
   have o:=(o.cD 3 true rfl (bif D 18 then (bc 54 b0 [v0_0,v0_1,v0_2,v0_3,v0_4,v0_5,v0_6,aj,a3,a4,aq,a6]) else (bc 54 b0 [v0_0,v0_1,v0_2,v0_3,v0_4,v0_5,v0_6,aj,a3,a4,bl,a6]))).cD 13 (D 15) (ae.2.1 rfl) (own 114 a6 ai.2.2.2.2)
   exact RL.nil ⟨rfl,(ay,a1,a0,aq,ax),hv.n1,ha,zt,o⟩
  rintro D U w a7 ⟨⟨ay,a1,a0,aq,ax⟩,hv,ha,_,o⟩
  have o:=(((((o.cC 0 (jQ a7 8)).cC 1 (jQ a7 13)).cC 2 (jQ a7 15)).cC 3 (jQ a7 21)).cC 12 (jQ a7 8)).cC 13 (jQ a7 15)
  obtain⟨O,rfl⟩:=(ac (ha.at 0 rfl) (ac (ha.at 1 rfl) (ac (ha.at 2 rfl) (ac (ha.at 3 rfl) (ac (ha.at 4 rfl) (ac (ha.at 5 rfl) az)))))).eN
  refine bO (aG (RC.region (RL.inc hk hm (mv (vi ((b2+1:Nat):Int)) (RL.nil ?_)))))
  obtain rfl:=oi hb
  exact⟨rfl,a3,a4,aq,ax,us877,o.sp 15 [3,10,11,12,13,4,5,6,7,8,9]⟩
 rintro _ w ⟨cp,cq,cr,ct,us824,O,rfl,o⟩
 obtain rfl:=oi hb
 have o:=o.zB (X:=aW) (b:=10) (j:=9) rfl (fun M h u x cs=>xq M h u x cs) rfl rfl (by decide)
 refine CZ ?_
 exact IB zr ⟨aj,cp,cq,cr,ct,zr,o.pk 11 [0,9,1,2,3,4]⟩
def v9 (E:World) (V:List HP) (res:Option ((List (List aI))×(List aI)×(List cE)×(List fP)×(List (List aA))×(List aK)×(List (List Int))×(List cN)×(List Int)×(List Int)×(List Int)×(List j4))×Int) (v:Value) (w:World):Prop:=Iy res.1 (v = .tuple #[(.pointer none),(vi res.2)]/\Holds E w V) (fun y=>∃(ub0:Nat) (u0_0 u0_1:Value) (u0_2 u0_3:Value) (u0_4 u0_5:Value) (u0_6 u0_7:Value) (u0_8 u0_9:Value) (u0_10 u0_11:Value),v = .tuple #[vp ub0 0,(vi res.2)]/\Holds E w ([bc 54 ub0 [u0_0,u0_1,u0_2,u0_3,u0_4,u0_5,u0_6,u0_7,u0_8,u0_9,u0_10,u0_11],rd u0_0 y.1,rd u0_1 y.2.1,rd u0_2 y.2.2.1,rd u0_3 y.2.2.2.1,own 56 u0_4 y.2.2.2.2.1,rd u0_5 y.2.2.2.2.2.1,rd u0_6 y.2.2.2.2.2.2.1,own 112 u0_7 y.2.2.2.2.2.2.2.1,rd u0_8 y.2.2.2.2.2.2.2.2.1,rd u0_9 y.2.2.2.2.2.2.2.2.2.1,own 3 u0_10 y.2.2.2.2.2.2.2.2.2.2.1,own 114 u0_11 y.2.2.2.2.2.2.2.2.2.2.2]++V))
def rY (E:World) (V:List HP) (r:Option ((List (List aI))×(List aI)×(List cE)×(List fP)×(List (List aA))×(List aK)×(List (List Int))×(List cN)×(List Int)×(List Int)×(List Int)×(List j4))×Int) (U:Nat->Value) (w:World):Prop:=lS bN 112 Tryz.f14 (v9 E V r) .ret U w
theorem qM {p0:kH} {res:Option ((List (List aI))×(List aI)×(List cE)×(List fP)×(List (List aA))×(List aK)×(List (List Int))×(List cN)×(List Int)×(List Int)×(List Int)×(List j4))×Int} (j:Holds E w V) (h0:V[i0]? =some (rd v0 p0)) (o:iE N p0=some res):
    Calls bN 14 [v0].toArray w (gQ (v9 E V res)):=by
 unfold iE at o
 refine enter Tryz.func14 zr zr ?_
 have j:=j.dup (i0+0) h0
 refine RC.sr (RL.dK 0 v0 j zr fun ao w j=>?_)
 refine aP (.pointer none) (aP (vi 0) (RL.nq (RC.sr (RL.aZ zr me (RL.bG 0 j zr iW oQ fun c2 j=>(RL.bC 0 p0.aJ j oR (ic ((p0.aJ.length:Int)) 0 (RL.nt ?_))))))))
 refine dX o (fun hc o=>?_) fun hc o=>?_
 ·refine RC.sr (aP (.pointer none) (aP (vi 9) (RL.nt (RC.rt ?_))))
  obtain rfl:=oi o
  exact qA ⟨rfl,j.drop 3⟩
 refine RC.ss (RC.sr (RL.aZ zr me (RL.bG 1 j zr iW oQ fun c3 j=>(RL.bC 0 p0.aJ j oR (ic ((p0.aJ.length:Int)) 16 (RL.nt (dX o (fun hc o=>?_) fun hc o=>?_)))))))
 ·refine RC.sr (aP (.pointer none) (aP (vi 2) (RL.nt (RC.rt ?_))))
  obtain rfl:=oi o
  exact qA ⟨rfl,j.drop 4⟩
 refine RC.sx (RL.aZ zr Cr (RL.bG 2 j zr sq q9 fun c4 j=>(RL.bC 0 p0.cH j mH (aP (vi p0.cH.length) (RL.nq (RC.sr (RL.aZ zr me (RL.bG 3 j zr iW oQ fun bp j=>?_))))))))
 refine RL.bC 0 p0.aJ j oR (mv (vi 0) (RL.nt ?_))
 obtain⟨c5,hN,o⟩:=bd o
 refine RC.range (fun(bk:Nat) (ay:Int)=>SH E V [(1,vp ao 0),(4,vi ay),(28,bp),(29,vi p0.aJ.length),(30,vi bk)] [bx 27 ao p0,rd bp p0.aJ]) (fun(ay:Int)=>SH E V [(1,vp ao 0),(4,vi ay)] [bx 27 ao p0,rd bp p0.aJ]) (rY E V) hN ?_ ?_ ?_ ?_ ?_
 ·exact j.sp 6 [4,0]
 ·rintro hm ay _ w ⟨O,rfl,j⟩
  refine RC.sr (ic ((p0.aJ.length:Int)) ((p0.aJ.length:Int)) (RL.nq (RC.fw sf (RC.ex ?_))))
  exact⟨rfl,j.sp 2 [0,1]⟩
 ·rintro hm bk ay fl _ w hk ⟨O,rfl,j⟩ o
  refine RC.sr (ic ((bk:Int)) ((p0.aJ.length:Int)) (RL.nq (RC.fu (sd hk) (RC.ss (RC.bs ?_)))))
  obtain⟨bl,bz,o⟩:=bd o
  refine RL.bM 1 j rf bz fun c6 j=>(RL.bF 0 bl j q9 fun bm j=>(aP bm (RL.nq (RC.sr (mv bm ?_)))))
  obtain⟨a8,b0,o⟩:=bd o
  refine RL.call zt zr K8 [bm] zr (aD (pw N (i0:=0) j zr b0) ?_)
  rintro _ w ⟨rfl,j⟩
  refine aP (vi a8) (RL.ns (mv (vi a8) (ic a8 0 (RL.nt (dX o (fun hc o=>?_) fun hc o=>?_)))))
  ·refine RC.sr (mv (vi a8) (aP (.pointer none) (aP (vi a8) (RL.nt (RC.rt (oz (bQ ?_)))))))
   obtain rfl:=oi o
   exact⟨rfl,qA ⟨rfl,j.drop 4⟩⟩
  refine RC.sn (RC.region (mv (vi ay) (mv bm (RL.bC 0 bl j mH (RL.fO ay (bl.length:Int) (aP (vi (IntKind.wrap .i64 (ay+ (bl.length:Int)))) (RL.nil (bO ?_))))))))
  refine aG (RC.region (RL.inc hk hm (mv (vi ((bk+1:Nat):Int)) (RL.nil ?_))))
  obtain rfl:=oi o
  exact⟨rfl,j.sp 4 [2,3]⟩
 ·intro r U w e hK
  subst e
  refine bQ ?_
  obtain rfl:=oi o
  exact hK
 rintro ay _ w rfl ⟨O,rfl,j⟩
 rw [Fo.dB] at o
 refine aG (RC.seq (RC.sr (RL.aZ zr Cr (RL.bG 0 j zr sq q9 fun b1 j=>?_))))
 obtain⟨ba,b2,o⟩:=bd o
 refine RL.call zt zr K8 [b1] zr (aD (pw N (i0:=0) j zr b2) ?_)
 rintro _ w ⟨rfl,j⟩
 refine aP (vi ba) (RL.ns (mv (vi ba) (ic ba 0 (RL.nt (dX o (fun hc o=>?_) fun hc o=>?_)))))
 ·refine RC.sr (mv (vi ba) (aP (.pointer none) (aP (vi ba) (RL.nt (RC.rt ?_)))))
  obtain rfl:=oi o
  exact qA ⟨rfl,j.drop 3⟩
 refine RC.ss (RC.sr (mv (vi ay) (ic ay 2000 (RL.nt (dX o (fun hc o=>?_) fun hc o=>?_)))))
 ·refine RC.sr (aP (.pointer none) (aP (vi 2) (RL.nt (RC.rt ?_))))
  obtain rfl:=oi o
  exact qA ⟨rfl,j.drop 3⟩
 refine RC.ss (RC.sr (RL.bG (f:=(fun x=>x)) 1 j zr Fd.self rN fun b3 j=>?_))
 obtain⟨bb,b4,o⟩:=bd o
 refine RL.call zt zr ME [b3] zr (aD (uP N (i0:=0) j zr b4) ?_)
 rintro _ w ⟨rfl,j⟩
 refine aP (vi bb) (RL.ns (mv (vi bb) (ic bb 0 (RL.nt (dX o (fun hc o=>?_) fun hc o=>?_)))))
 ·refine RC.sr (mv (vi bb) (aP (.pointer none) (aP (vi bb) (RL.nt (RC.rt ?_)))))
  obtain rfl:=oi o
  exact qA ⟨rfl,j.drop 4⟩
 refine RC.ss (RC.sr (RL.bG (f:=(fun x=>x)) 2 j zr Fd.self rN fun b5 j=>?_))
 obtain⟨bc,b6,o⟩:=bd o
 refine RL.call zt zr ML [b5] zr (aD (uS N (i0:=0) j zr b6) ?_)
 rintro _ w ⟨rfl,j⟩
 refine aP (vi bc) (RL.ns (mv (vi bc) (ic bc 0 (RL.nt (dX o (fun hc o=>?_) fun hc o=>?_)))))
 ·refine RC.sr (mv (vi bc) (aP (.pointer none) (aP (vi bc) (RL.nt (RC.rt ?_)))))
  obtain rfl:=oi o
  exact qA ⟨rfl,j.drop 5⟩
 refine RC.ss (RC.sr (RL.aZ zr iw (RL.bG 3 j zr gU nQ fun av j=>(RL.bC 0 p0.aO j wy (mv (vi 0) (RL.nt ?_))))))
 obtain⟨c7,hN,o⟩:=bd o
 refine RC.range (fun(ax:Nat) (bn:Unit)=>SH E V [(1,vp ao 0),(63,av),(64,vi p0.aO.length),(65,vi ax)] [bx 27 ao p0,rd av p0.aO]) (fun(bn:Unit)=>SH E V [(1,vp ao 0)] [bx 27 ao p0,rd av p0.aO]) (rY E V) hN ?_ ?_ ?_ ?_ ?_
 ·exact j.sp 6 [4,0]
 ·rintro hm bn _ w ⟨O,rfl,j⟩
  refine RC.sr (ic ((p0.aO.length:Int)) ((p0.aO.length:Int)) (RL.nq (RC.fw sf (RC.ex ?_))))
  exact⟨rfl,j.sp 2 [0,1]⟩
 ·rintro hm ax bn fl _ w hk ⟨O,rfl,j⟩ o
  refine RC.sr (ic ((ax:Int)) ((p0.aO.length:Int)) (RL.nq (RC.fu (sd hk) (RC.ss (RC.bs (mv (vi ax) ?_))))))
  obtain⟨ad,b7,o⟩:=bd o
  refine RL.bM 1 j qE b7 fun c8 j=>(RL.bF 0 ad j mf fun c9 j=>(RL.alloc j EV.z fun an w j=>?_))
  refine aP (vi ax) (RL.bZ 0 j 1 zr mf fun w j=>?_)
  refine RL.ns (RL.aZ zr iw (RL.bG 3 j zr gU nQ fun da j=>(mv (vi ax) ?_)))
  obtain⟨aw,b8,o⟩:=bd o
  refine RL.cut (hl:= .inr ⟨rfl,zr⟩) 0 j qE (.inl zr) b8 fun a2 j=>(RL.bC 0 aw j wy (mv (vi 0) (RL.nt ?_)))
  obtain⟨db,hN,o⟩:=bd o
  refine RC.range (fun(a5:Nat) (bo:Unit)=>SH E V [(1,vp ao 0),(12,vp an 0),(63,av),(64,vi p0.aO.length),(65,vi ax),(73,a2),(74,vi aw.length),(75,vi a5)] [bx 27 ao p0,bx 70 an ad,rd av p0.aO,rd a2 aw]) (fun(bo:Unit)=>SH E V [(1,vp ao 0),(63,av),(64,vi p0.aO.length),(65,vi ax)] [bx 27 ao p0,bx 70 an ad,rd av p0.aO,rd a2 aw]) (rY E V) hN ?_ ?_ ?_ ?_ ?_
  ·exact j.sp 7 [5,2,6,0]
  ·rintro hm bo _ w ⟨O,rfl,j⟩
   refine RC.sr (ic ((aw.length:Int)) ((aw.length:Int)) (RL.nq (RC.fw sf (RC.ex ?_))))
   exact⟨rfl,j.sp 4 [0,1,2,3]⟩
  ·rintro hm a5 bo fl _ w hk ⟨O,rfl,j⟩ o
   refine RC.sr (ic ((a5:Int)) ((aw.length:Int)) (RL.nq (RC.fu (sd hk) (RC.ss (RC.bs ?_)))))
   obtain⟨ab,b9,o⟩:=bd o
   refine RL.bM 3 j qE b9 fun bu j=>(RL.bF 0 ab j mf fun bw j=>(RL.alloc j EV.z fun au w j=>?_))
   refine RL.bZ 0 j 1 zr mf fun w j=>?_
   refine RL.nq ?_
   obtain⟨bq,hj,o⟩:=bd o
   refine RC.jn (fun(bq:Bool)=>SH E V [(1,vp ao 0),(12,vp an 0),(63,av),(64,vi p0.aO.length),(65,vi ax),(73,a2),(74,vi aw.length),(75,vi a5),(98,vb bq)] [bx 27 ao p0,bx 70 an ad,rd av p0.aO,rd a2 aw]) bq ?_ ?_
   ·refine fN hj (fun ar hj=>?_) fun ar hj=>?_
    rotate_left
    ·refine RC.ER E V mixed [1,0,1,0,1,1,0,0,0,0,0,0,1,1,1,1,1,1,1,1] [] (fun(x:Unit)=>[(0,79,(vp an 3)),(1,80,(vi ad.cR)),(2,81,(vp au 4)),(3,82,(vi ab.To)),(4,83,(vb (decide (ad.cR<=ab.To)))),(5,84,(vb (decide (ad.cR<=ab.To)))),(6,85,(cv (true&&((decide (ad.cR<=ab.To))==true)) (vp au 3))),(7,86,(cv (true&&((decide (ad.cR<=ab.To))==true)) (vi ab.cR))),(8,87,(cv (true&&((decide (ad.cR<=ab.To))==true)) (vp an 4))),(9,88,(cv (true&&((decide (ad.cR<=ab.To))==true)) (vi ad.To))),(10,89,(cv (true&&((decide (ad.cR<=ab.To))==true)) (vb (decide (ab.cR<=ad.To))))),(11,90,(vb ((decide (ad.cR<=ab.To))&&(decide (ab.cR<=ad.To))))),(12,91,(vb ((decide (ad.cR<=ab.To))&&(decide (ab.cR<=ad.To))))),(13,92,undef),(14,93,undef),(15,94,undef),(16,95,undef),(17,96,undef),(18,97,undef),(19,98,(vb false))]) [(1,vp ao 0),(12,vp an 0),(14,vp au 0),(63,av),(64,vi p0.aO.length),(65,vi ax),(73,a2),(74,vi aw.length),(75,vi a5)] [] (fun(D:Nat->Bool) (x:Unit)=>[bx 70 au ab,rd bw ab,pt bu ab,bx 27 ao p0,bx 70 an ad,rd av p0.aO,rd a2 aw]) (fun x=>by kernel_rfl) ?_ ⟨fun _=>mG gn pM,?_,fun _=>mG gn rQ,?_,fun _=>Kb gn rfl,fun _=>je gn,?_,?_,?_,?_,?_,?_,fun _=>je gn,fun _=>sj ar,fun _=>sj ar,fun _=>sj ar,fun _=>sj ar,fun _=>sj ar,fun _=>sj ar,fun _=>KW gn ar rfl,trivial⟩ ?_
     ·have j:=j.drew
      exact⟨(),eU.none,(DB zr),zt,j⟩
     ·rintro D U w hD af al ⟨_,hv,ha,_,j⟩
      obtain⟨O,rfl⟩:=(ac (hv.at 0 rfl (af.1 rfl)) az).eN
      refine RL.aM 4 j zr kC cG ?_
      exact RL.nil ⟨rfl,(),hv.pu 1,ha.u,zt,j⟩
     ·rintro D U w hD af al ⟨_,hv,ha,_,j⟩
      obtain⟨O,rfl⟩:=(ac (hv.at 2 rfl (af.1 rfl)) az).eN
      refine RL.aM 0 j zr l7 cG ?_
      exact RL.nil ⟨rfl,(),hv.pu 3,ha.u,zt,j⟩
     ·rintro D U w hD af al ⟨_,hv,ha,_,j⟩
      obtain⟨O,rfl⟩:=(ac (hv.at 5 rfl (af.1 rfl)) (ac (ha.at 2 rfl) az)).eN
      refine RL.gs true (decide (ad.cR<=ab.To)) (vp au 3) zr zr zr (eC pM) ?_
      exact RL.nil ⟨rfl,(),hv.pu 6,ha.u,zt,j⟩
     ·rintro D U w hD af al ⟨_,hv,ha,_,j⟩
      obtain⟨O,rfl⟩:=(ac (hv.at 5 rfl (af.2.1 rfl)) (ac (hv.at 6 rfl (af.1 rfl)) az)).eN
      refine RL.gs true (decide (ad.cR<=ab.To)) (vi ab.cR) rfl rfl rfl (cB 0 rfl j (fun h=>by exact(cO h:cv (true&&((decide (ad.cR<=ab.To))==true)) (vp au 3)= (vp au 3))) rfl kC cG) ?_
      exact RL.nil ⟨rfl,(),hv.pu 7,ha.u,zt,j⟩
     ·rintro D U w hD af al ⟨_,hv,ha,_,j⟩
      obtain⟨O,rfl⟩:=(ac (hv.at 5 rfl (af.1 rfl)) (ac (ha.at 1 rfl) az)).eN
      refine RL.gs true (decide (ad.cR<=ab.To)) (vp an 4) zr zr zr (eC rQ) ?_
      exact RL.nil ⟨rfl,(),hv.pu 8,ha.u,zt,j⟩
     ·rintro D U w hD af al ⟨_,hv,ha,_,j⟩
      obtain⟨O,rfl⟩:=(ac (hv.at 5 rfl (af.2.1 rfl)) (ac (hv.at 8 rfl (af.1 rfl)) az)).eN
      refine RL.gs true (decide (ad.cR<=ab.To)) (vi ad.To) rfl rfl rfl (cB 4 rfl j (fun h=>by exact(cO h:cv (true&&((decide (ad.cR<=ab.To))==true)) (vp an 4)= (vp an 4))) rfl l7 cG) ?_
      exact RL.nil ⟨rfl,(),hv.pu 9,ha.u,zt,j⟩
     ·rintro D U w hD af al ⟨_,hv,ha,_,j⟩
      obtain⟨O,rfl⟩:=(ac (hv.at 5 rfl (af.2.2.1 rfl)) (ac (hv.at 7 rfl (af.1 rfl)) (ac (hv.at 9 rfl (af.2.1 rfl)) az))).eN
      refine RL.gs true (decide (ad.cR<=ab.To)) (vb (decide (ab.cR<=ad.To))) rfl rfl rfl (dL .leq .i64 ab.cR ad.To rfl (fun h=>by exact(cO h:cv (true&&((decide (ad.cR<=ab.To))==true)) (vi ab.cR)= (vi ab.cR))) (fun h=>by exact(cO h:cv (true&&((decide (ad.cR<=ab.To))==true)) (vi ad.To)= (vi ad.To))) rfl) ?_
      exact RL.nil ⟨rfl,(),hv.pu 10,ha.u,zt,j⟩
     ·rintro D U w hD af al ⟨_,hv,ha,_,j⟩
      obtain⟨O,rfl⟩:=(ac (hv.at 5 rfl (af.1 rfl)) (ac (hv.at 10 rfl (af.2.1 rfl)) az)).eN
      refine RL.pick (decide (ad.cR<=ab.To)) (vb ((decide (ad.cR<=ab.To))&&(decide (ab.cR<=ad.To)))) (gx true zr) ?_
      exact RL.nil ⟨rfl,(),hv.pu 11,ha.u,zt,j⟩
     rintro D U w a6 ⟨_,hv,ha,_,j⟩
     obtain⟨O,rfl⟩:=(ac (hv.at 19 rfl (jQ a6 19)) (ac (ha.at 0 rfl) (ac (ha.at 1 rfl) (ac (ha.at 2 rfl) (ac (ha.at 3 rfl) (ac (ha.at 4 rfl) (ac (ha.at 5 rfl) (ac (ha.at 6 rfl) (ac (ha.at 7 rfl) (ac (ha.at 8 rfl) az)))))))))).eN
     obtain rfl:=oi hj
     exact⟨rfl,j.sp 7 [3,4,5,6]⟩
    obtain⟨ca,cb,hj⟩:=bd hj
    obtain⟨cc,cd,hj⟩:=bd hj
    obtain⟨br,cf,hj⟩:=bd hj
    refine RC.ER E V mixed [1,0,1,0,1,1,0,0,0,0,0,0,1,0,0,0,0,0,1,1] [13,14,15,16] (fun(x:Value×Value×Value×Value)=>(fun ag ah ai aj=>[(0,79,(vp an 3)),(1,80,(vi ad.cR)),(2,81,(vp au 4)),(3,82,(vi ab.To)),(4,83,(vb (decide (ad.cR<=ab.To)))),(5,84,(vb (decide (ad.cR<=ab.To)))),(6,85,(cv (true&&((decide (ad.cR<=ab.To))==true)) (vp au 3))),(7,86,(cv (true&&((decide (ad.cR<=ab.To))==true)) (vi ab.cR))),(8,87,(cv (true&&((decide (ad.cR<=ab.To))==true)) (vp an 4))),(9,88,(cv (true&&((decide (ad.cR<=ab.To))==true)) (vi ad.To))),(10,89,(cv (true&&((decide (ad.cR<=ab.To))==true)) (vb (decide (ab.cR<=ad.To))))),(11,90,(vb ((decide (ad.cR<=ab.To))&&(decide (ab.cR<=ad.To))))),(12,91,(vb ((decide (ad.cR<=ab.To))&&(decide (ab.cR<=ad.To))))),(13,92,ag),(14,93,ah),(15,94,ai),(16,95,aj),(17,96,(vi br)),(18,97,(vb (br==0))),(19,98,(vb (br==0)))]) x.1 x.2.1 x.2.2.1 x.2.2.2) [(1,vp ao 0),(12,vp an 0),(14,vp au 0),(63,av),(64,vi p0.aO.length),(65,vi ax),(73,a2),(74,vi aw.length),(75,vi a5)] [] (fun(D:Nat->Bool) (x:Value×Value×Value×Value)=>(fun ag ah ai aj=>[bif D 0 then (rd ag ad) else aX,bif D 1 then (rd ah ca) else aX,bif D 2 then (rd ai ab) else aX,bif D 3 then (rd aj cc) else aX,bx 70 au ab,rd bw ab,pt bu ab,bx 27 ao p0,bx 70 an ad,rd av p0.aO,rd a2 aw]) x.1 x.2.1 x.2.2.1 x.2.2.2) (fun x=>by kernel_rfl) ?_ ⟨fun _=>mG gn pM,?_,fun _=>mG gn rQ,?_,fun _=>Kb gn rfl,fun _=>je gn,?_,?_,?_,?_,?_,?_,fun _=>je gn,?_,?_,?_,?_,?_,fun _=>Kb (gy ar) rfl,fun _=>KU gn ar rfl,trivial⟩ ?_
    ·have j:=((((j.drew).aX).aX).aX).aX
     exact⟨(undef,undef,undef,undef),eU.none,(DB zr),zt,j⟩
    ·rintro D U w hD af al ⟨⟨ag,ah,ai,aj⟩,hv,ha,_,j⟩
     obtain⟨O,rfl⟩:=(ac (hv.at 0 rfl (af.1 rfl)) az).eN
     refine RL.aM 8 j zr kC cG ?_
     exact RL.nil ⟨rfl,(ag,ah,ai,aj),hv.pu 1,ha.u,zt,j⟩
    ·rintro D U w hD af al ⟨⟨ag,ah,ai,aj⟩,hv,ha,_,j⟩
     obtain⟨O,rfl⟩:=(ac (hv.at 2 rfl (af.1 rfl)) az).eN
     refine RL.aM 4 j zr l7 cG ?_
     exact RL.nil ⟨rfl,(ag,ah,ai,aj),hv.pu 3,ha.u,zt,j⟩
    ·rintro D U w hD af al ⟨⟨ag,ah,ai,aj⟩,hv,ha,_,j⟩
     obtain⟨O,rfl⟩:=(ac (hv.at 5 rfl (af.1 rfl)) (ac (ha.at 2 rfl) az)).eN
     refine RL.gs true (decide (ad.cR<=ab.To)) (vp au 3) zr zr zr (eC pM) ?_
     exact RL.nil ⟨rfl,(ag,ah,ai,aj),hv.pu 6,ha.u,zt,j⟩
    ·rintro D U w hD af al ⟨⟨ag,ah,ai,aj⟩,hv,ha,_,j⟩
     obtain⟨O,rfl⟩:=(ac (hv.at 5 rfl (af.2.1 rfl)) (ac (hv.at 6 rfl (af.1 rfl)) az)).eN
     refine RL.gs true (decide (ad.cR<=ab.To)) (vi ab.cR) rfl rfl rfl (cB 4 rfl j (fun h=>by exact(cO h:cv (true&&((decide (ad.cR<=ab.To))==true)) (vp au 3)= (vp au 3))) rfl kC cG) ?_
     exact RL.nil ⟨rfl,(ag,ah,ai,aj),hv.pu 7,ha.u,zt,j⟩
    ·rintro D U w hD af al ⟨⟨ag,ah,ai,aj⟩,hv,ha,_,j⟩
     obtain⟨O,rfl⟩:=(ac (hv.at 5 rfl (af.1 rfl)) (ac (ha.at 1 rfl) az)).eN
     refine RL.gs true (decide (ad.cR<=ab.To)) (vp an 4) zr zr zr (eC rQ) ?_
     exact RL.nil ⟨rfl,(ag,ah,ai,aj),hv.pu 8,ha.u,zt,j⟩
    ·rintro D U w hD af al ⟨⟨ag,ah,ai,aj⟩,hv,ha,_,j⟩
     obtain⟨O,rfl⟩:=(ac (hv.at 5 rfl (af.2.1 rfl)) (ac (hv.at 8 rfl (af.1 rfl)) az)).eN
     refine RL.gs true (decide (ad.cR<=ab.To)) (vi ad.To) rfl rfl rfl (cB 8 rfl j (fun h=>by exact(cO h:cv (true&&((decide (ad.cR<=ab.To))==true)) (vp an 4)= (vp an 4))) rfl l7 cG) ?_
     exact RL.nil ⟨rfl,(ag,ah,ai,aj),hv.pu 9,ha.u,zt,j⟩
    ·rintro D U w hD af al ⟨⟨ag,ah,ai,aj⟩,hv,ha,_,j⟩
     obtain⟨O,rfl⟩:=(ac (hv.at 5 rfl (af.2.2.1 rfl)) (ac (hv.at 7 rfl (af.1 rfl)) (ac (hv.at 9 rfl (af.2.1 rfl)) az))).eN
     refine RL.gs true (decide (ad.cR<=ab.To)) (vb (decide (ab.cR<=ad.To))) rfl rfl rfl (dL .leq .i64 ab.cR ad.To rfl (fun h=>by exact(cO h:cv (true&&((decide (ad.cR<=ab.To))==true)) (vi ab.cR)= (vi ab.cR))) (fun h=>by exact(cO h:cv (true&&((decide (ad.cR<=ab.To))==true)) (vi ad.To)= (vi ad.To))) rfl) ?_
     exact RL.nil ⟨rfl,(ag,ah,ai,aj),hv.pu 10,ha.u,zt,j⟩
    ·rintro D U w hD af al ⟨⟨ag,ah,ai,aj⟩,hv,ha,_,j⟩
     obtain⟨O,rfl⟩:=(ac (hv.at 5 rfl (af.1 rfl)) (ac (hv.at 10 rfl (af.2.1 rfl)) az)).eN
     refine RL.pick (decide (ad.cR<=ab.To)) (vb ((decide (ad.cR<=ab.To))&&(decide (ab.cR<=ad.To)))) (gx true zr) ?_
     exact RL.nil ⟨rfl,(ag,ah,ai,aj),hv.pu 11,ha.u,zt,j⟩
    ·rintro D U w hD af al ⟨⟨ag,ah,ai,aj⟩,hv,ha,_,j⟩
     obtain⟨O,rfl⟩:=(ac (hv.at 12 rfl (af.1 rfl)) (ac (ha.at 1 rfl) az)).eN
     have j:=j.bX 0 hD
     refine RL.bG (hg:=(cg ar)) (f:=(fun x=>x)) 8 j zr Fd.self mf fun ch j=>?_
     have j:=(j.pl 12 [0,2,3,4,5,6,7,8,9,10,11]).cD 0 true rfl aX
     exact RL.nil ⟨rfl,(ch,ah,ai,aj),hv.pu 13,ha.u,zt,j⟩
    ·rintro D U w hD af al ⟨⟨ag,ah,ai,aj⟩,hv,ha,_,j⟩
     obtain⟨O,rfl⟩:=(ac (hv.at 12 rfl (af.2.1 rfl)) (ac (hv.at 13 rfl (af.1 rfl)) az)).eN
     have j:=(j.cC 0 (af.1 rfl)).bX 1 hD
     refine RL.call (cg ar) zr Gn [ag] zr (aD (jr N (i0:=0) j zr cb) ?_)
     rintro cj w j
     have j:=((j.pl 12 [1,0,3,4,5,6,7,8,9,10,11]).cD 0 (D 13) (af.1 rfl) aX).cD 1 true rfl aX
     exact RL.nil ⟨rfl,(ag,cj,ai,aj),hv.pu 14,ha.u,zt,j⟩
    ·rintro D U w hD af al ⟨⟨ag,ah,ai,aj⟩,hv,ha,_,j⟩
     obtain⟨O,rfl⟩:=(ac (hv.at 12 rfl (af.1 rfl)) (ac (ha.at 2 rfl) az)).eN
     have j:=j.bX 2 hD
     refine RL.bG (hg:=(cg ar)) (f:=(fun x=>x)) 4 j zr Fd.self mf fun ck j=>?_
     have j:=(j.pl 12 [1,2,0,4,5,6,7,8,9,10,11]).cD 2 true rfl aX
     exact RL.nil ⟨rfl,(ag,ah,ck,aj),hv.pu 15,ha.u,zt,j⟩
    ·rintro D U w hD af al ⟨⟨ag,ah,ai,aj⟩,hv,ha,_,j⟩
     obtain⟨O,rfl⟩:=(ac (hv.at 12 rfl (af.2.2.1 rfl)) (ac (hv.at 15 rfl (af.1 rfl)) az)).eN
     have j:=(j.cC 2 (af.1 rfl)).bX 3 hD
     refine RL.call (cg ar) zr Gn [ai] zr (aD (jr N (i0:=2) j zr cd) ?_)
     rintro cl w j
     have j:=((j.pl 12 [1,2,3,0,5,6,7,8,9,10,11]).cD 2 (D 15) (af.1 rfl) aX).cD 3 true rfl aX
     exact RL.nil ⟨rfl,(ag,ah,ai,cl),hv.pu 16,ha.u,zt,j⟩
    ·rintro D U w hD af al ⟨⟨ag,ah,ai,aj⟩,hv,ha,_,j⟩
     obtain⟨O,rfl⟩:=(ac (hv.at 12 rfl (af.2.2.2.1 rfl)) (ac (hv.at 14 rfl (af.1 rfl)) (ac (hv.at 16 rfl (af.2.1 rfl)) az))).eN
     have j:=(j.cC 1 (af.1 rfl)).cC 3 (af.2.1 rfl)
     refine RL.call (cg ar) zr MM [ah,aj] zr (aD (Cy N (i0:=1) (i1:=3) j zr zr cf) ?_)
     rintro _ w ⟨rfl,j⟩
     have j:=(j.cD 1 (D 14) (af.1 rfl) aX).cD 3 (D 16) (af.2.1 rfl) aX
     exact RL.nil ⟨rfl,(ag,ah,ai,aj),hv.pu 17,ha.u,zt,j⟩
    rintro D U w a6 ⟨⟨ag,ah,ai,aj⟩,hv,ha,_,j⟩
    have j:=(((j.cC 0 (jQ a6 13)).cC 1 (jQ a6 14)).cC 2 (jQ a6 15)).cC 3 (jQ a6 16)
    obtain⟨O,rfl⟩:=(ac (hv.at 19 rfl (jQ a6 19)) (ac (ha.at 0 rfl) (ac (ha.at 1 rfl) (ac (ha.at 2 rfl) (ac (ha.at 3 rfl) (ac (ha.at 4 rfl) (ac (ha.at 5 rfl) (ac (ha.at 6 rfl) (ac (ha.at 7 rfl) (ac (ha.at 8 rfl) az)))))))))).eN
    obtain rfl:=oi hj
    exact⟨rfl,j.sp 11 [7,8,9,10]⟩
   rintro _ w ⟨O,rfl,j⟩
   refine aG (dX o (fun hc o=>?_) fun hc o=>?_)
   rotate_left
   ·refine RC.skip (bO (aG (RC.region (RL.inc hk hm (mv (vi ((a5+1:Nat):Int)) (RL.nil ?_))))))
    obtain rfl:=oi o
    exact⟨rfl,j.sp 4 [0,1,2,3]⟩
   refine RC.sr (aP (.pointer none) (aP (vi 12) (RL.nt (RC.rb (bQ ?_)))))
   obtain rfl:=oi o
   exact⟨rfl,qA ⟨rfl,j.drop 4⟩⟩
  ·intro r U w e hK
   subst e
   refine oz (bQ ?_)
   obtain rfl:=oi o
   exact⟨rfl,hK⟩
  rintro bo _ w rfl ⟨O,rfl,j⟩
  rw [Fo.dB] at o
  refine bO (aG (RC.region (RL.inc hk hm (mv (vi ((ax+1:Nat):Int)) (RL.nil ?_)))))
  obtain rfl:=oi o
  exact⟨rfl,j.sp 4 [0,2]⟩
 ·intro r U w e hK
  subst e
  refine bQ ?_
  obtain rfl:=oi o
  exact hK
 rintro bn _ w rfl ⟨O,rfl,j⟩
 rw [Fo.dB] at o
 refine aG (RC.sr (RL.bG (f:=(fun x=>x)) 0 j zr Fd.self rN fun cm j=>?_))
 obtain⟨cs,hcs,hv224,j⟩:=j.FG (i:=0) rfl rfl
 obtain⟨bf,bg,bh,bj,rfl⟩:=KO hcs
 have j:=(((j.mV (i:=0) (k:=0) (f:=fun x=>x.aJ) rfl iW rfl rfl rfl).mV (i:=1) (k:=1) (f:=fun x=>x.cH) rfl sq rfl rfl rfl).mV (i:=2) (k:=2) (f:=fun x=>x.aO) rfl gU rfl rfl rfl).mV (i:=3) (k:=3) (f:=fun x=>x.bV) rfl oF rfl rfl rfl
 refine RL.Hn (zs:=[(.slice none 0 0),(.slice none 0 0),(.slice none 0 0),(.slice none 0 0),(.slice none 0 0),(.slice none 0 0),(.slice none 0 0),(.slice none 0 0),(.slice none 0 0),(.slice none 0 0),(.slice none 0 0),(.slice none 0 0)]) (cs:=[bf,bg,bh,bj,(.slice none 0 0),(.slice none 0 0),(.slice none 0 0),(.slice none 0 0),(.slice none 0 0),(.slice none 0 0),(.slice none 0 0),(.slice none 0 0)]) zt zr [(0,cm)] [(0,[bf,bg,bh,bj])] zr MN ⟨rfl,(congrArg Value.cells hv224),zt⟩ zr (RL.Ci [bf,bg,bh,bj,(.slice none 0 0),(.slice none 0 0),(.slice none 0 0),(.slice none 0 0),(.slice none 0 0),(.slice none 0 0),(.slice none 0 0),(.slice none 0 0)] zr j zr (w5.all (⟨(nK 3 j),(nK 2 j),(nK 1 j),(nK 0 j),zr,zr,zr,zr,zr,zr,zr,zr,zt⟩:w5 [bf,bg,bh,bj,(.slice none 0 0),(.slice none 0 0),(.slice none 0 0),(.slice none 0 0),(.slice none 0 0),(.slice none 0 0),(.slice none 0 0),(.slice none 0 0)])) fun a1 w j=>?_)
 refine aP (vp a1 0) (RL.nq (RC.sr (mv (vp a1 0) ?_)))
 have j:=((((((j.cQ (List aA) 56).cQ aK 60).pull 0).pull 2).dup 6 rfl).dup 9 rfl).pull 6
 obtain⟨cn,cp,o⟩:=bd o
 refine RL.call zt zr MT [(vp a1 0)] zr (aD (uk N j cp) ?_)
 rintro _ w ⟨cq,cr,rfl,j⟩
 refine RL.not cn.1 (RL.nt (dX o (fun hc o=>?_) fun hc o=>?_))
 ·refine RC.sr (aP (.pointer none) (aP (vi 2) (RL.nt (RC.rt ?_))))
  obtain rfl:=oi o
  exact qA ⟨rfl,j.drop 14⟩
 refine RC.sx (mv (vp a1 0) ?_)
 have j:=(((((j.freeze 2).cQ (List Int) 51).pull 0).dup 4 rfl).dup 10 rfl).pull 4
 obtain⟨dc,ct,o⟩:=bd o
 refine RL.call zt zr MW [(vp a1 0)] zr (aD (um N j ct) ?_)
 rintro _ w ⟨cu,rfl,j⟩
 refine RL.ns (mv (vp a1 0) ?_)
 have j:=((((((((((((j.freeze 1).cQ Int 3).cQ Int 3).cQ Int 3).cQ j4 114).pull 0).pull 2).pull 4).pull 6).dup 9 rfl).dup 14 rfl).dup 19 rfl).dup 21 rfl
 have j:=j.pull 12
 obtain⟨dd,cw,o⟩:=bd o
 refine RL.call zt zr M6 [(vp a1 0)] zr (aD (pB N j cw) ?_)
 rintro _ w ⟨cx,cy,cz,c0,c1,rfl,j⟩
 refine RL.ns (mv (vp a1 0) (aP (vp a1 0) (aP (vi 0) (RL.nt (RC.ret ?_)))))
 obtain rfl:=oi o
 exact qA ⟨a1,bf,bg,bh,bj,cq,cr,cu,cx,cy,cz,c0,c1,zr,j.pk 27 [0,22,21,20,19,14,15,11,1,2,3,4,5]⟩
theorem xE {p0:kH} {res: (List (List aI))×Int} (j:Holds E w V) (h0:V[i0]? =some (rd v0 p0)) (o:kf N p0=some res):
    Calls bN 4 [v0].toArray w (gQ (sw E V res)):=by
 unfold kf at o
 refine enter Tryz.func4 zr zr ?_
 have j:=j.dup (i0+0) h0
 refine RC.sr (RL.dK 0 v0 j zr fun a3 w j=>?_)
 refine aP (.slice none 0 0) (aP (vi 0) (RL.ns (RL.bG (f:=(fun x=>x)) 0 j zr Fd.self rN fun au j=>?_)))
 obtain⟨aa,av,o⟩:=bd o
 refine RL.call zt zr Kp [au] zr (aD (qM N (i0:=0) j zr av) ?_)
 rintro _ w hK49
 rcases af:aa.1 with _ | ab
 ·replace o:=J8 af o
  obtain⟨rfl,j⟩:=Hl af hK49
  refine mv (.tuple #[(.pointer none),(vi aa.2)]) (RL.extract (.pointer none) (RL.extract (vi aa.2) (aP (.pointer none) (aP (vi aa.2) (RL.nq (RC.sr (mv (vi aa.2) (ic aa.2 0 ?_))))))))
  refine RL.nt (dX o (fun hc o=>?_) fun hc o=>?_)
  rotate_left
  ·cases o
  refine RC.sr (mv (vi aa.2) (aP (.slice none 0 0) (aP (vi aa.2) (RL.nt (RC.rt ?_)))))
  obtain rfl:=oi o
  have j:=j.cQ (List aI) 23
  exact qA ⟨(.slice none 0 0),zr,j.pk 4 [0]⟩
 replace o:=J9 af o
 obtain⟨ag,a4,a5,a6,a7,ah,a8,a9,ba,bb,bc,bf,bg,rfl,j⟩:=Hm af hK49
 refine mv (.tuple #[(vp ag 0),(vi aa.2)]) (RL.extract (vp ag 0) (RL.extract (vi aa.2) (aP (vp ag 0) (aP (vi aa.2) (RL.nq (RC.sr (mv (vi aa.2) (ic aa.2 0 ?_))))))))
 refine RL.nt (dX o (fun hc o=>?_) fun hc o=>?_)
 ·refine RC.sr (mv (vi aa.2) (aP (.slice none 0 0) (aP (vi aa.2) (RL.nt (RC.rt ?_)))))
  obtain rfl:=oi o
  have j:=j.cQ (List aI) 23
  exact qA ⟨(.slice none 0 0),zr,j.pk 17 [0]⟩
 refine RC.sx (aP (.slice none 0 0) (RL.nq (RC.sr (mv (vp ag 0) (RL.nilCheck zr (RL.aZ zr EW (RL.bK 0 ah j Kk (RL.fS 5 ab.2.2.2.2.1 j Kj ?_))))))))
 refine mv (vi 0) (RL.nt ?_)
 obtain⟨ad,hN,o⟩:=bd o
 refine RC.fold (fun(ai:Nat) (ad: (List (List aI))) U w=>∃an:Value,SH E V [(6,an),(20,ah),(21,vi ab.2.2.2.2.1.length),(22,vi ai)] [own 56 ah ab.2.2.2.2.1,own 23 an ad] U w) (fun(ad: (List (List aI))) U w=>∃ae:Value,SH E V [(6,ae)] [own 56 ah ab.2.2.2.2.1,own 23 ae ad] U w) hN ?_ ?_ ?_ ?_
 ·have j:=j.cQ (List aI) 23
  exact⟨(.slice none 0 0),j.sp 17 [6,0]⟩
 ·rintro hm ad _ w ⟨ax,O,rfl,j⟩
  refine RC.sr (ic ((ab.2.2.2.2.1.length:Int)) ((ab.2.2.2.2.1.length:Int)) (RL.nq (RC.fw sf (RC.ex ?_))))
  exact⟨rfl,ax,j.sp 2 [0,1]⟩
 ·rintro hm ai ad s' _ w hk ⟨ay,O,rfl,j⟩ o
  refine RC.sr (ic ((ai:Int)) ((ab.2.2.2.2.1.length:Int)) (RL.nq (RC.fu (sd hk) (RC.ss (RC.bs ?_)))))
  obtain⟨bh,ak,o⟩:=bd o
  refine RL.bS 0 j zr zr Gr ak (RL.kn (f:=(fun x=>x)) 0 j (jJ 0 j ak 0) (bI ak).2.1 Fd.self IY fun al j=>?_)
  refine aP al (RL.nt (RC.region (mv ay (mv al ?_))))
  obtain⟨az,a0,o⟩:=bd o
  refine RL.call zt zr IW [al] zr (aD (lN N (i0:=0) j zr a0) ?_)
  rintro a1 w j
  have j:=j.freeze 0
  refine RL.dQ ([az]: (List (List aI))) j [a1] rf HF (fun M hs g=>⟨(g.sat 0 _ zr).1,zt⟩) fun bj w j=>?_
  have j:=j.freeze 0
  obtain⟨bk,a2,o⟩:=bd o
  refine RL.app 4 0 j EX a2 fun ar w j=>?_
  refine aP ar (RL.nil (bO (aG (RC.region (RL.inc hk hm (mv (vi ((ai+1:Nat):Int)) (RL.nil ?_)))))))
  obtain rfl:=oi o
  exact⟨rfl,ar,j.sp 5 [3,4]⟩
 rintro _ w ⟨ae,O,rfl,j⟩
 refine aG (RC.sr (mv ae (aP ae (aP (vi 0) (RL.nt (RC.ret ?_))))))
 obtain rfl:=oi o
 exact qA ⟨ae,zr,j.pk 2 [1]⟩
theorem sJ {res:Bool} (o:Holds E w V) (j:mF N p0 p1 p2=some res):
    Calls bN 114 [(vi p0),(vi p1),(vi p2)].toArray w (gQ (aU E V res)):=by
 unfold mF at j
 refine enter Tryz.func114 zr zr (RC.sr (aP (vb false) (RL.ns (mv (vi p0) (mv (vi p1) (ic p0 p1 (mv (vb (decide (p0>=p1))) (RL.gs true (decide (p0>=p1)) (vi p0) zr zr zr cI ?_))))))))
 refine RL.gs true (decide (p0>=p1)) (vi p2) rfl rfl rfl cI (RL.gs true (decide (p0>=p1)) (vb (decide (p0<=p2))) rfl rfl rfl (dL .leq .i64 p0 p2 rfl (fun h=>by exact(cO h:cv (true&&((decide (p0>=p1))==true)) (vi p0)= (vi p0))) (fun h=>by exact(cO h:cv (true&&((decide (p0>=p1))==true)) (vi p2)= (vi p2))) rfl) (RL.pick (decide (p0>=p1)) (vb ((decide (p0>=p1))&&(decide (p0<=p2)))) (gx true rfl) (aP (vb ((decide (p0>=p1))&&(decide (p0<=p2)))) (RL.nt (RC.ret ?_)))))
 obtain rfl:=oi j
 exact bY ⟨rfl,o.drop 0⟩
theorem eK {res:Bool} (o:Holds E w V) (j:cT N p0=some res):
    Calls bN 80 [(vi p0)].toArray w (gQ (aU E V res)):=by
 unfold cT at j
 refine enter Tryz.func80 zr zr (RC.sr (aP (vb false) (RL.ns (mv (vi p0) ?_))))
 obtain⟨aa,ab,j⟩:=bd j
 refine RL.call zt zr Lz [(vi p0),(vi (-1000000)),(vi 1000000)] zr (aD (sJ N (p0:=p0) (p1:=(-1000000)) (p2:=1000000) o ab) ?_)
 rintro _ w ⟨rfl,o⟩
 refine aP (vb aa) (RL.nt (RC.ret ?_))
 obtain rfl:=oi j
 exact bY ⟨rfl,o.drop 0⟩
end Go.Gk
