/-
  Printed texts: Go functions as plain functions, and that they are. No statement of the seed is proved here.
-/
import Derived.Test.YtmmiladckdcjeabGreatDoorG1
import Derived.Test.YtmmiladckdcjeabGreatDoorG2
import Derived.Test.YtmmiladckdcjeabGreatDoorG3
import Derived.Test.YtmmiladckdcjeabGreatDoorA2
set_option linter.unusedVariables false
set_option linter.unusedSimpArgs false
set_option linter.unusedSectionVars false
set_option maxRecDepth 100000
set_option maxHeartbeats 4000000
namespace Go.Gk
open Go Go.Proofs
variable (N:Nat) {E w:World} {b0 i0:Nat} {p0 p1 p2 res:Int} {v0 v0_0 v0_1 v0_10 v0_11 v0_2 v0_3 v0_4 v0_5 v0_6 v0_8 v0_9:Value} {V:List HP}
def p5 (E:World) (V:List HP) (b0:Nat) (v0_0 v0_1:Value) (v0_2 v0_3:Value) (v0_4 v0_5 v0_6:Value) (res: (List bQ)×(List Int)×(List Int)×(List Int)×(List ka)) (v:Value) (w:World):Prop:=∃u0_7 u0_8 u0_9 u0_10 u0_11:Value,v = .tuple #[]/\Holds E w ([bc 53 b0 [v0_0,v0_1,v0_2,v0_3,v0_4,v0_5,v0_6,u0_7,u0_8,u0_9,u0_10,u0_11],own 39 u0_7 res.1,rd u0_8 res.2.1,rd u0_9 res.2.2.1,own 3 u0_10 res.2.2.2.1,own 84 u0_11 res.2.2.2.2]++V)
theorem pP {p0_2: (List cA)} {p0_3: (List eQ)} {p0_5: (List aK)} {p0_6: (List (List Int))} {p0_8: (List Int)} {p0_9: (List Int)} {p0_10: (List Int)} {p0_11: (List ka)} {res: (List bQ)×(List Int)×(List Int)×(List Int)×(List ka)} (o:Holds E w (bc 53 b0 [v0_0,v0_1,v0_2,v0_3,v0_4,v0_5,v0_6,(.slice none 0 0),v0_8,v0_9,v0_10,v0_11]::rd v0_2 p0_2::rd v0_3 p0_3::rd v0_5 p0_5::rd v0_6 p0_6::own 3 v0_8 p0_8::own 3 v0_9 p0_9::own 3 v0_10 p0_10::own 84 v0_11 p0_11::V)) (hb:gu N p0_2 p0_3 p0_5 p0_6 p0_8 p0_9 p0_10 p0_11=some res):
    Calls bN 28 [(vp b0 0)].toArray w (gJ (p5 E V b0 v0_0 v0_1 v0_2 v0_3 v0_4 v0_5 v0_6 res)):=by
 unfold gu at hb
 refine enter Tryz.func28 zr zr (RC.sr (mv (vp b0 0) (RL.nilCheck zr (RL.aX zr yI (RL.bF 0 v0_5 o Gw (RL.bB 3 p0_5 o I2 (aP (vi p0_5.length) (RL.ns ?_))))))))
 refine mv (vi p0_5.length) (mv (vp b0 0) (RL.nilCheck zr (RL.aX zr tH (RL.aX zr iz (RL.bF 0 v0_2 o n7 (RL.bB 1 p0_2 o wO (RL.gk (p0_5.length:Int) (p0_2.length:Int) ?_)))))))
 obtain⟨e6,ds,hb⟩:=bd hb
 refine RL.call zt zr MZ [(vi (IntKind.wrap .i64 ((p0_5.length:Int)+ (p0_2.length:Int))))] zr (aD (we N (p0:=(IntKind.wrap .i64 ((p0_5.length:Int)+ (p0_2.length:Int)))) o ds) ?_)
 rintro _ w ⟨a9,dt,rfl,o⟩
 refine aP (vp a9 0) (RL.nq (RC.sr (mv (vp b0 0) (RL.nilCheck zr (RL.aX zr E6 (RL.bF 2 v0_6 o zU (RL.bB 6 p0_6 o Gx (mv (vi 0) ?_))))))))
 refine RL.nt ?_
 obtain⟨bz,hN,hb⟩:=bd hb
 refine RC.fold (fun(bj:Nat) (bz: (List Int)) U w=>∃c5:Value,SH E V [(0,vp b0 0),(2,vi p0_5.length),(3,vp a9 0),(35,v0_6),(36,vi p0_6.length),(37,vi bj)] [bc 53 b0 [v0_0,v0_1,v0_2,v0_3,v0_4,v0_5,v0_6,(.slice none 0 0),v0_8,v0_9,v0_10,v0_11],rd v0_2 p0_2,rd v0_3 p0_3,rd v0_5 p0_5,rd v0_6 p0_6,own 3 v0_8 p0_8,own 3 v0_9 p0_9,own 3 v0_10 p0_10,own 84 v0_11 p0_11,bc 140 a9 [c5],own 3 c5 bz] U w) (fun(bz: (List Int)) U w=>∃ca:Value,SH E V [(0,vp b0 0),(2,vi p0_5.length),(3,vp a9 0)] [bc 53 b0 [v0_0,v0_1,v0_2,v0_3,v0_4,v0_5,v0_6,(.slice none 0 0),v0_8,v0_9,v0_10,v0_11],rd v0_2 p0_2,rd v0_3 p0_3,rd v0_5 p0_5,rd v0_6 p0_6,own 3 v0_8 p0_8,own 3 v0_9 p0_9,own 3 v0_10 p0_10,own 84 v0_11 p0_11,bc 140 a9 [ca],own 3 ca bz] U w) hN ?_ ?_ ?_ ?_
 ·exact⟨dt,o.sp 11 [2,3,4,5,6,7,8,9,10,0,1]⟩
 ·rintro hm bz _ w ⟨du,O,rfl,o⟩
  refine RC.sr (ic ((p0_6.length:Int)) ((p0_6.length:Int)) (RL.nq (RC.fu sA (RC.ex ?_))))
  exact⟨rfl,du,o.sp 11 [0,1,2,3,4,5,6,7,8,9,10]⟩
 ·rintro hm bj bz s' _ w hk ⟨dv,O,rfl,o⟩ hb
  refine RC.sr (ic ((bj:Int)) ((p0_6.length:Int)) (RL.nq (RC.eZ (sw hk) (RC.ss (RC.bs (mv (vi bj) ?_))))))
  obtain⟨bt,dw,hb⟩:=bd hb
  refine RL.bO 4 o Ay dw fun e7 o=>(RL.bJ 0 bt o eV fun cb o=>(aP (vi bj) (aP cb (RL.ns (mv cb (RL.bB 0 bt o mB (mv (vi 0) (RL.nt ?_))))))))
  obtain⟨b4,hN,hb⟩:=bd hb
  refine RC.fold (fun(cf:Nat) (b4: (List Int)) U w=>∃c6:Value,SH E V [(0,vp b0 0),(2,vi p0_5.length),(3,vp a9 0),(4,vi bj),(35,v0_6),(36,vi p0_6.length),(37,vi bj),(42,cb),(43,vi bt.length),(44,vi cf)] [bc 53 b0 [v0_0,v0_1,v0_2,v0_3,v0_4,v0_5,v0_6,(.slice none 0 0),v0_8,v0_9,v0_10,v0_11],rd v0_2 p0_2,rd v0_3 p0_3,rd v0_5 p0_5,rd v0_6 p0_6,own 3 v0_8 p0_8,own 3 v0_9 p0_9,own 3 v0_10 p0_10,own 84 v0_11 p0_11,bc 140 a9 [c6],own 3 c6 b4,rd cb bt] U w) (fun(b4: (List Int)) U w=>∃cg:Value,SH E V [(0,vp b0 0),(2,vi p0_5.length),(3,vp a9 0),(35,v0_6),(36,vi p0_6.length),(37,vi bj)] [bc 53 b0 [v0_0,v0_1,v0_2,v0_3,v0_4,v0_5,v0_6,(.slice none 0 0),v0_8,v0_9,v0_10,v0_11],rd v0_2 p0_2,rd v0_3 p0_3,rd v0_5 p0_5,rd v0_6 p0_6,own 3 v0_8 p0_8,own 3 v0_9 p0_9,own 3 v0_10 p0_10,own 84 v0_11 p0_11,bc 140 a9 [cg],own 3 cg b4,rd cb bt] U w) hN ?_ ?_ ?_ ?_
  ·exact⟨dv,o.sp 13 [2,3,4,5,6,7,8,9,10,11,12,0]⟩
  ·rintro hm b4 _ w ⟨dx,O,rfl,o⟩
   refine RC.sr (ic ((bt.length:Int)) ((bt.length:Int)) (RL.nq (RC.fu sA (RC.ex ?_))))
   exact⟨rfl,dx,o.sp 12 [0,1,2,3,4,5,6,7,8,9,10,11]⟩
  ·rintro hm cf b4 s' _ w hk ⟨e8,O,rfl,o⟩ hb
   refine RC.sr (ic ((cf:Int)) ((bt.length:Int)) (RL.nq (RC.eZ (sw hk) (RC.ss (RC.bs ?_)))))
   obtain⟨cc,dy,hb⟩:=bd hb
   refine RL.bO 11 o eF dy fun e9 o=>(RL.bG cc 0 o cL (aP (vi cc) (RL.nt (RC.region (mv (vp a9 0) (mv (vi cc) (mv (vi p0_5.length) (mv (vi bj) ?_))))))))
   refine RL.gk (p0_5.length:Int) (bj:Int) ?_
   have o:=(o.pull 11).pull 11
   obtain⟨fa,dz,hb⟩:=bd hb
   refine RL.call zt zr M1 [(vp a9 0),(vi cc),(vi (IntKind.wrap .i64 ((p0_5.length:Int)+ (bj:Int))))] zr (aD (uE N (p1:=cc) (p2:=(IntKind.wrap .i64 ((p0_5.length:Int)+ (bj:Int)))) o dz) ?_)
   rintro _ w ⟨d3,rfl,o⟩
   refine RL.nil (bP (aH (RC.region (RL.inc hk hm (mv (vi ((cf+1:Nat):Int)) (RL.nil ?_))))))
   obtain rfl:=oi hb
   exact⟨rfl,d3,o.sp 15 [3,4,5,6,7,8,9,10,11,0,1,14]⟩
  rintro _ w ⟨cg,O,rfl,o⟩
  refine bP (aH (RC.region (RL.inc hk hm (mv (vi ((bj+1:Nat):Int)) (RL.nil ?_)))))
  obtain rfl:=oi hb
  exact⟨rfl,cg,o.sp 12 [0,1,2,3,4,5,6,7,8,9,10]⟩
 rintro _ w ⟨ca,O,rfl,o⟩
 refine aH (RC.seq ?_)
 obtain⟨d4,d5,hb⟩:=bd hb
 obtain⟨d6,d7,hb⟩:=bd hb
 refine RC.Gq E V mixed [1,1,1,0,1,1,1,1,0,0,0,1,1,0,1,1,0] [3,10,13,16] (fun(x:Value×Value)=>(fun al an=>[(0,56,(vp b0 0)),(1,57,(vp b0 0)),(2,58,(vi p0_5.length)),(3,59,al),(4,60,(vp b0 0)),(5,61,(vp b0 0)),(6,62,(vp b0 0)),(7,63,(vp b0 2)),(8,64,v0_2),(9,65,(vi p0_2.length)),(10,66,an),(11,67,(vp b0 0)),(12,68,(vp b0 8)),(14,69,(vp b0 0)),(15,70,(vp b0 9))]) x.1 x.2) [(0,vp b0 0),(2,vi p0_5.length),(3,vp a9 0)] [] (fun(D:Nat->Bool) (x:Value×Value)=>(fun al an=>[bif D 0 then (own 3 al d4) else bE,bif D 1 then (own 3 an d6) else bE,bif D 3 then (bc 53 b0 [v0_0,v0_1,v0_2,v0_3,v0_4,v0_5,v0_6,(.slice none 0 0),al,an,v0_10,v0_11]) else (bif D 2 then (bc 53 b0 [v0_0,v0_1,v0_2,v0_3,v0_4,v0_5,v0_6,(.slice none 0 0),al,v0_9,v0_10,v0_11]) else (bc 53 b0 [v0_0,v0_1,v0_2,v0_3,v0_4,v0_5,v0_6,(.slice none 0 0),v0_8,v0_9,v0_10,v0_11])),rd v0_2 p0_2,rd v0_3 p0_3,rd v0_5 p0_5,rd v0_6 p0_6,own 3 v0_8 p0_8,own 3 v0_9 p0_9,own 3 v0_10 p0_10,own 84 v0_11 p0_11,bc 140 a9 [ca],own 3 ca bz]) x.1 x.2) (fun x=>by kernel_rfl) ?_ ⟨fun _=>jL gn,fun _=>jL gn,fun _=>jL gn,?_,fun _=>jL gn,fun _=>xD gn,fun _=>nY gn tH,fun _=>nY gn iz,?_,?_,?_,fun _=>xD gn,fun _=>nY gn E7,?_,fun _=>xD gn,fun _=>nY gn CJ,?_,trivial⟩ ?_
 ·have o:=((o.drew).bE).bE
  exact⟨(undef,undef),fR.none,(E3 zr),zt,o⟩
 ·rintro D U w hD ae ab ⟨⟨al,an⟩,hv,ha,_,o⟩
  obtain⟨O,rfl⟩:=(ac (hv.at 2 rfl (ae.1 rfl)) az).fM
  have o:=((o.cD 0 hD).cD 2 (nh ab hD 16)).cD 2 (nh ab hD 13)
  refine RL.mk (p0_5.length:Int) o rC K4 d5 fun cv w o=>?_
  have o:=(((o.pl 14 [0,2,3,4,5,6,7,8,9,10,11,12,13]).cR 0 true rfl bE).fw 2 (D 13) (nh ab hD 13) (bc 53 b0 [v0_0,v0_1,v0_2,v0_3,v0_4,v0_5,v0_6,(.slice none 0 0),cv,v0_9,v0_10,v0_11])).fw 2 (D 16) (nh ab hD 16) (bc 53 b0 [v0_0,v0_1,v0_2,v0_3,v0_4,v0_5,v0_6,(.slice none 0 0),cv,an,v0_10,v0_11])
  exact RL.nil ⟨rfl,(cv,an),hv.pu 3,ha.u,zt,o⟩
 ·rintro D U w hD ae ab ⟨⟨al,an⟩,hv,ha,_,o⟩
  obtain⟨O,rfl⟩:=(ac (hv.at 7 rfl (ae.1 rfl)) az).fM
  have o:=(o.cD 2 (nh ab hD 16)).cD 2 (nh ab hD 13)
  refine RL.bF 2 v0_2 o n7 ?_
  have o:=(o.fw 2 (D 13) (nh ab hD 13) (bc 53 b0 [v0_0,v0_1,v0_2,v0_3,v0_4,v0_5,v0_6,(.slice none 0 0),al,v0_9,v0_10,v0_11])).fw 2 (D 16) (nh ab hD 16) (bc 53 b0 [v0_0,v0_1,v0_2,v0_3,v0_4,v0_5,v0_6,(.slice none 0 0),al,an,v0_10,v0_11])
  exact RL.nil ⟨rfl,(al,an),hv.pu 8,ha.u,zt,o⟩
 ·rintro D U w hD ae ab ⟨⟨al,an⟩,hv,ha,_,o⟩
  obtain⟨O,rfl⟩:=(ac (hv.at 8 rfl (ae.1 rfl)) az).fM
  refine RL.bB 3 p0_2 o wO ?_
  exact RL.nil ⟨rfl,(al,an),hv.pu 9,ha.u,zt,o⟩
 ·rintro D U w hD ae ab ⟨⟨al,an⟩,hv,ha,_,o⟩
  obtain⟨O,rfl⟩:=(ac (hv.at 9 rfl (ae.1 rfl)) az).fM
  have o:=(o.cD 1 hD).cD 2 (nh ab hD 16)
  refine RL.mk (p0_2.length:Int) o rC K4 d7 fun c7 w o=>?_
  have o:=((o.pl 14 [1,0,3,4,5,6,7,8,9,10,11,12,13]).cR 1 true rfl bE).fw 2 (D 16) (nh ab hD 16) (bc 53 b0 [v0_0,v0_1,v0_2,v0_3,v0_4,v0_5,v0_6,(.slice none 0 0),al,c7,v0_10,v0_11])
  exact RL.nil ⟨rfl,(al,c7),hv.pu 10,ha.u,zt,o⟩
 ·rintro D U w hD ae ab ⟨⟨al,an⟩,hv,ha,_,o⟩
  obtain⟨O,rfl⟩:=(ac (hv.at 3 rfl (ae.2.1 rfl)) (ac (hv.at 12 rfl (ae.1 rfl)) az)).fM
  have o:=((o.cQ 0 (ae.2.1 rfl)).cD 2 (nh ab hD 16)).cD 2 hD
  refine RL.iB 2 al o zr zr (iT 0 o) eV fun w o=>?_
  have o:=((o.cR 0 (D 3) (ae.2.1 rfl) bE).cR 2 true rfl (bc 53 b0 [v0_0,v0_1,v0_2,v0_3,v0_4,v0_5,v0_6,(.slice none 0 0),v0_8,v0_9,v0_10,v0_11])).fw 2 (D 16) (nh ab hD 16) (bc 53 b0 [v0_0,v0_1,v0_2,v0_3,v0_4,v0_5,v0_6,(.slice none 0 0),al,an,v0_10,v0_11])
  exact RL.nil ⟨rfl,(al,an),hv.n1,ha,zt,o⟩
 ·rintro D U w hD ae ab ⟨⟨al,an⟩,hv,ha,_,o⟩
  obtain⟨O,rfl⟩:=(ac (hv.at 10 rfl (ae.2.1 rfl)) (ac (hv.at 14 rfl (ae.1 rfl)) az)).fM
  have o:=((o.cQ 1 (ae.2.1 rfl)).cD 2 hD).cQ 2 (ae.2.2.1 rfl)
  refine RL.iB 2 an o zr zr (iT 1 o) eV fun w o=>?_
  have o:=(o.cR 1 (D 10) (ae.2.1 rfl) bE).cR 2 true rfl (bif D 13 then (bc 53 b0 [v0_0,v0_1,v0_2,v0_3,v0_4,v0_5,v0_6,(.slice none 0 0),al,v0_9,v0_10,v0_11]) else (bc 53 b0 [v0_0,v0_1,v0_2,v0_3,v0_4,v0_5,v0_6,(.slice none 0 0),v0_8,v0_9,v0_10,v0_11]))
  exact RL.nil ⟨rfl,(al,an),hv.n1,ha,zt,o⟩
 rintro D U w a7 ⟨⟨al,an⟩,hv,ha,_,o⟩
 have o:=((o.cQ 0 (kU a7 3)).cQ 1 (kU a7 10)).cQ 2 (kU a7 16)
 obtain⟨O,rfl⟩:=(ac (ha.at 0 rfl) (ac (ha.at 1 rfl) (ac (ha.at 2 rfl) az))).fM
 refine aH (RC.seq (RC.sr (mv (vp a9 0) ?_)))
 have o:=(o.pull 12).pull 12
 obtain⟨a8,d8,hb⟩:=bd hb
 refine RL.call zt zr M3 [(vp a9 0)] zr (aD (uF N o d8) ?_)
 rintro bk w ⟨_,fb,rfl,o⟩
 refine RL.fL 0 a8.1 o Gx (mv (vi 0) (RL.nt ?_))
 obtain⟨a5,hN,hb⟩:=bd hb
 refine RC.fold (fun(bo:Nat) (a5: (List bQ)×(List Int)×(List Int)) U w=>∃(c8:Value) (us442:List aT),SH E V [(0,vp b0 0),(2,vi p0_5.length),(72,bk),(73,vi a8.1.length),(74,vi bo)] [bc 53 b0 [v0_0,v0_1,v0_2,v0_3,v0_4,v0_5,v0_6,c8,al,an,v0_10,v0_11],own 39 c8 us442,iA aV us442 a5.1 none,rd v0_2 p0_2,rd v0_3 p0_3,rd v0_5 p0_5,rd v0_6 p0_6,own 3 al a5.2.1,own 3 an a5.2.2,own 3 v0_10 p0_10,own 84 v0_11 p0_11,own 36 bk a8.1] U w) (fun(a5: (List bQ)×(List Int)×(List Int)) U w=>∃(aj:Value) (us444:List aT),SH E V [(0,vp b0 0)] [bc 53 b0 [v0_0,v0_1,v0_2,v0_3,v0_4,v0_5,v0_6,aj,al,an,v0_10,v0_11],own 39 aj us444,iA aV us444 a5.1 none,rd v0_2 p0_2,rd v0_3 p0_3,rd v0_5 p0_5,rd v0_6 p0_6,own 3 al a5.2.1,own 3 an a5.2.2,own 3 v0_10 p0_10,own 84 v0_11 p0_11,own 36 bk a8.1] U w) hN ?_ ?_ ?_ ?_
 ·have o:=(o.z9 aV).cP aT 39
  exact⟨(.slice none 0 0),([]:List aT),o.sp 18 [7,0,1,8,9,10,11,5,6,14,15,2]⟩
 ·rintro hm a5 _ w ⟨d9,us604,O,rfl,o⟩
  refine RC.sr (ic ((a8.1.length:Int)) ((a8.1.length:Int)) (RL.nq (RC.fu sA (RC.ex ?_))))
  exact⟨rfl,d9,us604,o.sp 12 [0,1,2,3,4,5,6,7,8,9,10,11]⟩
 ·rintro hm bo a5 s' _ w hk ⟨bg,us446,O,rfl,o⟩ hb
  refine RC.sr (ic ((bo:Int)) ((a8.1.length:Int)) (RL.nq (RC.eZ (sw hk) (RC.ss (RC.bs ?_)))))
  obtain⟨bm,cw,hb⟩:=bd hb
  refine RL.bT 11 o zr zr Ay cw (RL.jM (f:=(fun x=>x)) 11 o (jz 11 o cw 0) (bH cw).2.1 Fd.self eV fun bp o=>?_)
  refine aP bp (RL.ns (RL.uO zr o Kq zr fun bu w o=>?_))
  refine RL.nq (RC.sr (mv bp (RL.bB 1 bm o mB (mv (vi 0) (RL.nt ?_)))))
  obtain⟨ar,hN,hb⟩:=bd hb
  refine RC.fold (fun(b5:Nat) (ar: (List Int)×(List Int)×(List Int)×(List Int)) U w=>∃c9 da:Value,SH E V [(0,vp b0 0),(2,vi p0_5.length),(10,vp bu 0),(72,bk),(73,vi a8.1.length),(74,vi bo),(78,bp),(79,vi bm.length),(80,vi b5)] [bc 53 b0 [v0_0,v0_1,v0_2,v0_3,v0_4,v0_5,v0_6,bg,al,an,v0_10,v0_11],rd v0_2 p0_2,rd v0_3 p0_3,rd v0_5 p0_5,rd v0_6 p0_6,own 39 bg us446,iA aV us446 a5.1 none,own 3 al ar.1,own 3 an ar.2.1,own 3 v0_10 p0_10,own 84 v0_11 p0_11,bc 39 bu [c9,da,(.slice none 0 0)],own 3 c9 ar.2.2.1,own 3 da ar.2.2.2,own 36 bk a8.1,rd bp bm] U w) (fun(ar: (List Int)×(List Int)×(List Int)×(List Int)) U w=>∃bw bq:Value,SH E V [(0,vp b0 0),(2,vi p0_5.length),(10,vp bu 0),(72,bk),(73,vi a8.1.length),(74,vi bo)] [bc 53 b0 [v0_0,v0_1,v0_2,v0_3,v0_4,v0_5,v0_6,bg,al,an,v0_10,v0_11],rd v0_2 p0_2,rd v0_3 p0_3,rd v0_5 p0_5,rd v0_6 p0_6,own 39 bg us446,iA aV us446 a5.1 none,own 3 al ar.1,own 3 an ar.2.1,own 3 v0_10 p0_10,own 84 v0_11 p0_11,bc 39 bu [bw,bq,(.slice none 0 0)],own 3 bw ar.2.2.1,own 3 bq ar.2.2.2,own 36 bk a8.1,rd bp bm] U w) hN ?_ ?_ ?_ ?_
  ·have o:=(o.cP Int 3).cP Int 3
   exact⟨(.slice none 0 0),(.slice none 0 0),o.sp 16 [4,7,8,9,10,5,6,11,12,13,14,2,1,0,15,3]⟩
  ·rintro hm ar _ w ⟨ea,eb,O,rfl,o⟩
   refine RC.sr (ic ((bm.length:Int)) ((bm.length:Int)) (RL.nq (RC.fu sA (RC.ex ?_))))
   exact⟨rfl,ea,eb,o.sp 16 [0,1,2,3,4,5,6,7,8,9,10,11,12,13,14,15]⟩
  ·rintro hm b5 ar s' _ w hk ⟨ch,cx,O,rfl,o⟩ hb
   refine RC.sr (ic ((b5:Int)) ((bm.length:Int)) (RL.nq (RC.eZ (sw hk) (RC.ss (RC.bs ?_)))))
   obtain⟨a2,ec,hb⟩:=bd hb
   refine RL.bO 15 o eF ec fun fc o=>(RL.bG a2 0 o cL (aP (vi a2) (RL.nt (RC.bs (mv (vi a2) (mv (vi p0_5.length) (ic a2 ((p0_5.length:Int)) (aP (vb (decide (a2< (p0_5.length:Int)))) ?_))))))))
   refine RL.nt ?_
   obtain⟨b6,hj,hb⟩:=bd hb
   refine RC.jn (fun(b6: (List Int)×(List Int)×(List Int)×(List Int)) U w=>∃cj ck:Value,SH E V [(0,vp b0 0),(2,vi p0_5.length),(10,vp bu 0),(72,bk),(73,vi a8.1.length),(74,vi bo),(78,bp),(79,vi bm.length),(80,vi b5)] [bc 53 b0 [v0_0,v0_1,v0_2,v0_3,v0_4,v0_5,v0_6,bg,al,an,v0_10,v0_11],rd v0_2 p0_2,rd v0_3 p0_3,rd v0_5 p0_5,rd v0_6 p0_6,own 39 bg us446,iA aV us446 a5.1 none,own 3 al b6.1,own 3 an b6.2.1,own 3 v0_10 p0_10,own 84 v0_11 p0_11,bc 39 bu [cj,ck,(.slice none 0 0)],own 3 cj b6.2.2.1,own 3 ck b6.2.2.2,own 36 bk a8.1,rd bp bm] U w) b6 ?_ ?_
   ·refine dT hj (fun hc hj=>?_) fun hc hj=>?_
    ·refine RC.seq (RC.vV mixed [0,0,0,0,0,0,0,0,0,0,0,2] [0,1,2,3,4,5,6,7,8,9,10,11] ?_)
     have o:=o.drew
     refine DP.e0 zr (mv (vp b0 0) (aW zr (RL.nilCheck zr (aW zr (RL.aX zr E7 (aW zr (RL.bF 1 al o eV (aW zr ?_))))))))
     refine mv (vi a2) (aW zr (mv (vp b0 0) (aW zr (RL.nilCheck zr (aW zr (RL.aX zr uW (aW zr (RL.bF 1 bg o pI ?_))))))))
     refine aW zr (RL.sB 6 7 a5.1 o CK (aW zr ?_))
     obtain⟨fe,cy,hj⟩:=bd hj
     refine RL.bT 8 o zr zr eF cy (oZ zr ?_)
     have o:=o.sc Int (a5.1.length:Int)
     refine RL.gK (f:=(fun _ y=>y)) 9 0 o (jz 9 o cy 0) (bH cy).2.1 zr Fs.self cL fun w o=>?_
     refine DP.d2 zt (DP.z (aH (RC.region (RL.aX zr qR (RL.bF 13 ch o eV (mv (vi a2) ?_))))))
     have o:=o.sc Int a2
     refine RL.dN ([a2]: (List Int)) o [(vi a2)] eF Dd (fun M hs g=>⟨(g.sat 0 _ zr).1,zt⟩) fun ff w o=>?_
     have o:=o.freeze 0
     obtain⟨fg,ed,hj⟩:=bd hj
     refine RL.app 16 0 o rC ed fun db w o=>?_
     refine RL.aX zr qR (RL.iB 15 db o zr zr (iT 16 o) eV fun w o=>?_)
     refine RL.nil ?_
     obtain rfl:=oi hj
     exact⟨rfl,db,cx,o.sp 20 [4,5,6,7,8,9,10,11,12,13,14,15,16,17,18,19]⟩
    refine RC.sr (mv (vp b0 0) (RL.nilCheck zr (RL.aX zr tH (RL.aX zr iz (RL.bF 1 v0_2 o n7 (mv (vi a2) (mv (vi p0_5.length) (RL.gk a2 (p0_5.length:Int) ?_))))))))
    obtain⟨dc,ee,hj⟩:=bd hj
    refine RL.bO 2 o qQ ee fun fh o=>(RL.dV 0 o zr yJ qF fun fi o=>(RL.bG dc.fY 0 o Ax (aP (vb dc.fY) (RL.nt ?_))))
    obtain⟨cl,hjj,hj⟩:=bd hj
    refine RC.jn (fun(cl: (List Int)×(List Int)) U w=>∃cm:Value,SH E V [(0,vp b0 0),(2,vi p0_5.length),(10,vp bu 0),(72,bk),(73,vi a8.1.length),(74,vi bo),(78,bp),(79,vi bm.length),(80,vi b5)] [bc 53 b0 [v0_0,v0_1,v0_2,v0_3,v0_4,v0_5,v0_6,bg,al,an,v0_10,v0_11],rd v0_2 p0_2,rd v0_3 p0_3,rd v0_5 p0_5,rd v0_6 p0_6,own 39 bg us446,iA aV us446 a5.1 none,own 3 al ar.1,own 3 an cl.1,own 3 v0_10 p0_10,own 84 v0_11 p0_11,bc 39 bu [ch,cm,(.slice none 0 0)],own 3 cm cl.2,own 3 ch ar.2.2.1,own 36 bk a8.1,rd bp bm] U w) cl ?_ ?_
    ·refine dT hjj (fun hc hjj=>?_) fun hc hjj=>?_
     rotate_left
     ·refine RC.region (mv (vp b0 0) (RL.nilCheck zr (RL.aX zr CJ (RL.bF 3 an o eV (mv (vi a2) (mv (vi p0_5.length) (RL.gk a2 (p0_5.length:Int) ?_)))))))
      obtain⟨fj,cz,hjj⟩:=bd hjj
      refine RL.bT 11 o zr zr eF cz ?_
      have o:=o.sc Int (-1)
      refine RL.gK (f:=(fun _ y=>y)) 12 0 o (jz 12 o cz 0) (bH cz).2.1 zr Fs.self cL fun w o=>?_
      refine RL.nil ?_
      obtain rfl:=oi hjj
      exact⟨rfl,cx,o.sp 20 [4,5,6,7,8,9,10,11,12,13,14,15,17,16,18,19]⟩
     refine RC.seq (RC.vV mixed [0,0,0,0,0,0,0,0,0,0,0,0,0,2] [0,1,2,3,4,5,6,7,8,9,10,11,12,13] ?_)
     have o:=o.drew
     refine DP.e0 zr (mv (vp b0 0) (aW zr (RL.nilCheck zr (aW zr (RL.aX zr CJ (aW zr (RL.bF 3 an o eV (aW zr ?_))))))))
     refine mv (vi a2) (aW zr (mv (vi p0_5.length) (aW zr (RL.gk a2 (p0_5.length:Int) (aW zr (mv (vp b0 0) (aW zr (RL.nilCheck zr ?_))))))))
     refine aW zr (RL.aX zr uW (aW zr (RL.bF 3 bg o pI (aW zr (RL.sB 8 9 a5.1 o CK (aW zr ?_))))))
     obtain⟨fk,c0,hjj⟩:=bd hjj
     refine RL.bT 11 o zr zr eF c0 (oZ zr ?_)
     have o:=o.sc Int (a5.1.length:Int)
     refine RL.gK (f:=(fun _ y=>y)) 12 0 o (jz 12 o c0 0) (bH c0).2.1 zr Fs.self cL fun w o=>?_
     refine DP.d2 zt (DP.z (aH (RC.region (RL.aX zr tI (RL.bF 15 cx o eV (mv (vi a2) (mv (vi p0_5.length) (RL.gk a2 (p0_5.length:Int) ?_))))))))
     have o:=o.sc Int (IntKind.wrap .i64 (a2 - (p0_5.length:Int)))
     refine RL.dN ([(IntKind.wrap .i64 (a2 - (p0_5.length:Int)))]: (List Int)) o [(vi (IntKind.wrap .i64 (a2 - (p0_5.length:Int))))] eF Dd (fun M hs g=>⟨(g.sat 0 _ zr).1,zt⟩) fun fl w o=>?_
     have o:=o.freeze 0
     obtain⟨fm,ef,hjj⟩:=bd hjj
     refine RL.app 19 0 o rC ef fun dd w o=>?_
     refine RL.aX zr tI (RL.iB 17 dd o zr zr (iT 19 o) eV fun w o=>?_)
     refine RL.nil ?_
     obtain rfl:=oi hjj
     exact⟨rfl,dd,o.sp 22 [6,7,8,9,10,11,12,13,14,15,16,17,19,18,20,21]⟩
    rintro _ w ⟨cm,O,rfl,o⟩
    obtain rfl:=oi hj
    exact⟨rfl,ch,cm,o.sp 16 [0,1,2,3,4,5,6,7,8,9,10,11,13,12,14,15]⟩
   rintro _ w ⟨cj,ck,O,rfl,o⟩
   refine bP (bP (aH (RC.region (RL.inc hk hm (mv (vi ((b5+1:Nat):Int)) (RL.nil ?_))))))
   obtain rfl:=oi hb
   exact⟨rfl,cj,ck,o.sp 16 [0,1,2,3,4,5,6,7,8,9,10,11,12,13,14,15]⟩
  rintro _ w ⟨bw,bq,O,rfl,o⟩
  refine aH (RC.sr (RL.aX zr qR (RL.bF 11 bw o eV (RL.fL 12 ar.2.2.1 o mB (RL.aX zr tI (RL.bF 11 bq o eV (RL.fL 13 ar.2.2.2 o mB (RL.gk (ar.2.2.1.length:Int) (ar.2.2.2.length:Int) ?_))))))))
  refine ic ((IntKind.wrap .i64 ((ar.2.2.1.length:Int)+ (ar.2.2.2.length:Int)))) 0 (RL.nt ?_)
  obtain⟨c1,hj,hb⟩:=bd hb
  refine RC.jn (fun(c1: (List bQ)) U w=>∃(cn:Value) (us598:List aT),SH E V [(0,vp b0 0),(2,vi p0_5.length),(72,bk),(73,vi a8.1.length),(74,vi bo)] [bc 53 b0 [v0_0,v0_1,v0_2,v0_3,v0_4,v0_5,v0_6,cn,al,an,v0_10,v0_11],own 39 cn us598,iA aV us598 c1 none,rd v0_2 p0_2,rd v0_3 p0_3,rd v0_5 p0_5,rd v0_6 p0_6,own 3 al ar.1,own 3 an ar.2.1,own 3 v0_10 p0_10,own 84 v0_11 p0_11,own 36 bk a8.1] U w) c1 ?_ ?_
  ·refine dT hj (fun hc hj=>?_) fun hc hj=>?_
   rotate_left
   ·refine RC.skip ?_
    obtain rfl:=oi hj
    exact⟨rfl,bg,us446,o.sp 16 [0,5,6,1,2,3,4,7,8,9,10,14]⟩
   have o:=o.drew
   refine RC.E2 (fun w=>Holds E w ([bc 53 b0 [v0_0,v0_1,v0_2,v0_3,v0_4,v0_5,v0_6,bg,al,an,v0_10,v0_11]]++V)) mixed zr [1,1,1,1,1,0,2,2,0,0,2] [0,1,2,3,4,5,6,7,8,9,10] (o.pk 16 [0]) (DP.e1 (vp b0 0) zr (fun w=>RL.move (vp b0 0) zt DP.d1) (DP.e1 (vp b0 0) zr (fun w=>RL.move (vp b0 0) zt DP.d1) (DP.e1 (vp b0 0) zr (fun w=>RL.nilCheck zr DP.d1) (DP.e1 (vp b0 7) zr (fun w=>RL.aX zr uW DP.d1) (DP.IX bg zr (fun w o=>RL.bF 0 bg o pI DP.d1) (DP.e0 zr (RL.DD (cs:=[bw,bq,(.slice none 0 0)]) 11 zt zr o zr zr yK zr (oZ zr ?_))))))))
   have o:=((((o.cP dB 64).B0 (i:=0) rfl).freeze 14).freeze 15).EU (cs:=[bw,bq,(.slice none 0 0)]) (x:=(⟨ar.2.2.1,ar.2.2.2,(rv (.slice none 0 0))⟩:aT)) (fun M hs g=>⟨[bw],[bq,(.slice none 0 0)],rfl,(rZ (g.sat 14 _ rfl).1),⟨[bq],[(.slice none 0 0)],rfl,(rZ (g.sat 15 _ rfl).1),(rZ (g.sat 0 _ rfl).1)⟩⟩) rfl
   refine RL.dN ([(⟨ar.2.2.1,ar.2.2.2,(rv (.slice none 0 0))⟩:aT)]:List aT) o [(.agg ([bw,bq,(.slice none 0 0)]:List Value).toArray)] uz Gy (fun M hs g=>⟨(g.sat 0 _ zr).1,zt⟩) fun fo w o=>(DP.d2 (o.pk 20 [4]) (DP.e2 zr ?_))
   obtain⟨fp,eg,hj⟩:=bd hj
   have o:=o.freeze 0
   refine RL.yC 9 0 10 3 aV (⟨ar.2.2.1,ar.2.2.2,(rv (.slice none 0 0))⟩:aT) (⟨ar.2.2.1,ar.2.2.2,([]: (List dB))⟩:bQ) (.slice none 0 0) ([]: (List dB)) (fun _ _ ho=>⟨⟨rfl,zr⟩,ho⟩) zr o zr zr zr zr zr zr Kr eg fun de w o=>?_
   refine DP.d2 (o.pk 20 [4]) (DP.e0 zr (RL.nilCheck zr (aW zr (RL.aX zr uW (DP.d0 (DP.Mi zr zr (RL.iB 4 de o zr zr (iT 9 o) pI fun w o=>?_)))))))
   refine DP.d2 zt (DP.z ?_)
   obtain rfl:=oi hj
   exact⟨rfl,de,(us446++[(⟨ar.2.2.1,ar.2.2.2,(rv (.slice none 0 0))⟩:aT)]),o.sp 20 [4,9,10,5,6,7,8,11,12,13,14,18]⟩
  rintro _ w ⟨cn,us598,O,rfl,o⟩
  refine bP (aH (RC.region (RL.inc hk hm (mv (vi ((bo+1:Nat):Int)) (RL.nil ?_)))))
  obtain rfl:=oi hb
  exact⟨rfl,cn,us598,o.sp 12 [0,1,2,3,4,5,6,7,8,9,10,11]⟩
 rintro _ w ⟨aj,us444,O,rfl,o⟩
 refine aH (RC.sr (mv (vp b0 0) (RL.nilCheck zr (RL.aX zr tH (RL.aX zr n8 (RL.bF 0 v0_3 o wR (RL.bB 4 p0_3 o DX (mv (vi 0) ?_))))))))
 refine RL.nt ?_
 obtain⟨ai,hN,hb⟩:=bd hb
 refine RC.fold (fun(b2:Nat) (ai: (List bQ)×(List Int)×(List Int)×(List Int)×(List ka)) U w=>∃(df dg:Value) (dh di:Value) (us819:List aT),SH E V [(0,vp b0 0),(170,v0_3),(171,vi p0_3.length),(172,vi b2)] [bc 53 b0 [v0_0,v0_1,v0_2,v0_3,v0_4,v0_5,v0_6,aj,df,dg,dh,di],rd df ai.2.1,rd dg ai.2.2.1,own 3 dh ai.2.2.2.1,own 84 di ai.2.2.2.2,rd v0_2 p0_2,rd v0_3 p0_3,rd v0_5 p0_5,rd v0_6 p0_6,own 39 aj us819,iA aV us819 ai.1 none] U w) (fun(ai: (List bQ)×(List Int)×(List Int)×(List Int)×(List ka)) U w=>∃(cp cq:Value) (cr ct:Value) (us824:List aT),SH E V [(0,vp b0 0)] [bc 53 b0 [v0_0,v0_1,v0_2,v0_3,v0_4,v0_5,v0_6,aj,cp,cq,cr,ct],rd cp ai.2.1,rd cq ai.2.2.1,own 3 cr ai.2.2.2.1,own 84 ct ai.2.2.2.2,rd v0_2 p0_2,rd v0_3 p0_3,rd v0_5 p0_5,rd v0_6 p0_6,own 39 aj us824,iA aV us824 ai.1 none] U w) hN ?_ ?_ ?_ ?_
 ·have o:=(o.freeze 7).freeze 8
  exact⟨al,an,v0_10,v0_11,us444,o.sp 12 [0,7,8,9,10,3,4,5,6,1,2]⟩
 ·rintro hm ai _ w ⟨eh,ei,ej,ek,us932,O,rfl,o⟩
  refine RC.sr (ic ((p0_3.length:Int)) ((p0_3.length:Int)) (RL.nq (RC.fu sA (RC.ex ?_))))
  exact⟨rfl,eh,ei,ej,ek,us932,o.sp 11 [0,1,2,3,4,5,6,7,8,9,10]⟩
 ·rintro hm b2 ai s' _ w hk ⟨a3,a4,bl,a6,us829,O,rfl,o⟩ hb
  refine RC.sr (ic ((b2:Int)) ((p0_3.length:Int)) (RL.nq (RC.eZ (sw hk) (RC.ss (RC.bs ?_)))))
  obtain⟨b7,el,hb⟩:=bd hb
  refine RL.bO 6 o BL el fun en o=>(RL.bJ 0 b7 o r8 fun eo o=>(RL.alloc o Gv.z fun dj w o=>?_))
  refine RL.bZ 0 o 1 zr r8 fun w o=>?_
  refine RL.ns (mv (vp b0 0) (RL.aZ (f:=(fun x=>x)) 0 o zr Fd.self r8 fun dk o=>?_))
  have o:=((o.dup 11 rfl).dup 10 rfl).pull 6
  obtain⟨ba,ep,hb⟩:=bd hb
  refine RL.call zt zr M4 [(vp b0 0),dk] zr (aD (uH N (i1:=0) o zr ep) ?_)
  rintro _ w ⟨c2,rfl,o⟩
  refine mv (.tuple #[c2,(vb ba.2)]) (RL.extract c2 (RL.extract (vb ba.2) (RL.alloc o Gz.z fun b8 w o=>?_)))
  refine RL.bZ 0 o 1 zr tJ fun w o=>?_
  refine aP (vb ba.2) (RL.ns (aP (vi (-1)) (RL.nq (RC.sr (mv (vb ba.2) (RL.nt ?_))))))
  obtain⟨bh,hj,hb⟩:=bd hb
  refine RC.jn (fun(bh: (List bQ)×Int) U w=>∃(us877:List aT),SH E V [(0,vp b0 0),(15,vp b8 0),(17,vi bh.2),(170,v0_3),(171,vi p0_3.length),(172,vi b2)] [bc 53 b0 [v0_0,v0_1,v0_2,v0_3,v0_4,v0_5,v0_6,aj,a3,a4,bl,a6],rd v0_2 p0_2,rd v0_3 p0_3,rd v0_5 p0_5,rd v0_6 p0_6,own 39 aj us877,iA aV us877 bh.1 none,rd a3 ai.2.1,rd a4 ai.2.2.1,own 3 bl ai.2.2.2.1,own 84 a6 ai.2.2.2.2,bx 84 b8 ba.1] U w) bh ?_ ?_
  ·refine dT hj (fun hc hj=>?_) fun hc hj=>?_
   rotate_left
   ·refine RC.skip ?_
    obtain rfl:=oi hj
    exact⟨rfl,us829,o.sp 18 [2,12,13,14,15,16,17,8,9,10,11,0]⟩
   refine RC.sr (mv (vp b0 0) (RL.aZ (f:=(fun x=>x)) 0 o zr Fd.self tJ fun dm o=>?_))
   have o:=((o.dup 10 rfl).dup 10 rfl).pull 5
   obtain⟨ah,er,hj⟩:=bd hj
   refine RL.call zt zr M5 [(vp b0 0),dm] zr (aD (qY N (i1:=0) o zr er) ?_)
   rintro _ w ⟨rfl,o⟩
   refine aP (vi ah) (RL.nt ?_)
   obtain⟨fq,cd,hj⟩:=bd hj
   obtain⟨b9,et,hj⟩:=bd hj
   obtain⟨br,eu,hj⟩:=bd hj
   obtain⟨b3,cu,hj⟩:=bd hj
   refine RC.Gq E V mixed [1,1,1,0,1,1,1,1,0,1,0,0,0,0,0,0,0,0,0,0] [13,14,15,16,19] (fun(x:Value×Value×Value×Value)=>(fun av aw au ak=>[(0,186,(vp b0 0)),(1,187,(vp b0 0)),(2,188,(vp b0 7)),(3,189,aj),(4,190,(vi ah)),(5,191,(vp b0 0)),(6,192,(vp b0 0)),(7,193,(vp b0 7)),(8,194,aj),(9,195,(vi ah)),(10,196,(zQ aj (Int.toNat ah) 3 0)),(11,197,(zQ aj (Int.toNat ah) 3 2)),(12,198,(us829.getD (Int.toNat ah) (default:aT)).eE.v),(13,199,av),(14,200,aw),(15,201,au),(16,202,ak),(17,203,(zQ aj (Int.toNat ah) 3 0)),(18,204,(zQ aj (Int.toNat ah) 3 2))]) x.1 x.2.1 x.2.2.1 x.2.2.2) [(0,vp b0 0),(14,vp dj 0),(15,vp b8 0),(17,vi ah),(170,v0_3),(171,vi p0_3.length),(172,vi b2)] [] (fun(D:Nat->Bool) (x:Value×Value×Value×Value)=>(fun av aw au ak=>[bif D 0 then (rd av b7) else bE,bif D 1 then (rd aw b9) else bE,bif D 3 then (rd au ([b9]: (List dB))) else (bif D 2 then (own 64 au ([b9]: (List dB))) else bE),bif D 4 then bE else (bif D 3 then (own 64 ak br) else bE),bc 53 b0 [v0_0,v0_1,v0_2,v0_3,v0_4,v0_5,v0_6,aj,a3,a4,bl,a6],rd dm ba.1,bx 84 b8 ba.1,rd c2 ba.1,bE,rd dk b7,bx 62 dj b7,rd eo b7,pt en b7,bE,rd a3 ai.2.1,rd a4 ai.2.2.1,own 3 bl ai.2.2.2.1,own 84 a6 ai.2.2.2.2,rd v0_2 p0_2,rd v0_3 p0_3,rd v0_5 p0_5,rd v0_6 p0_6,bif D 4 then (own 39 aj (us829.set (Int.toNat ah) {(us829.getD (Int.toNat ah) (default:aT)) with eE:=rv ak})) else (own 39 aj us829),bif D 4 then (iA aV (us829.set (Int.toNat ah) {(us829.getD (Int.toNat ah) (default:aT)) with eE:=rv ak}) (ai.1.set (Int.toNat ah) {b3 with eE:=br}) none) else (bif D 3 then (iA aV us829 ai.1 (some (Int.toNat ah))) else (iA aV us829 ai.1 none))]) x.1 x.2.1 x.2.2.1 x.2.2.2) (fun x=>by kernel_rfl) ?_ ⟨fun _=>jL gn,fun _=>xD gn,fun _=>nY gn uW,?_,fun _=>jL gn,fun _=>jL gn,fun _=>xD gn,fun _=>nY gn uW,?_,fun _=>jL gn,?_,?_,?_,?_,?_,?_,?_,?_,?_,?_,trivial⟩ ?_
   ·have o:=((((o.drew).bE).bE).bE).bE
    exact⟨(undef,undef,undef,undef),fR.none,(E3 zr),zt,o⟩
   ·rintro D U w hD ae ab ⟨⟨av,aw,au,ak⟩,hv,ha,_,o⟩
    obtain⟨O,rfl⟩:=(ac (hv.at 2 rfl (ae.1 rfl)) az).fM
    refine RL.bF 4 aj o pI ?_
    exact RL.nil ⟨rfl,(av,aw,au,ak),hv.pu 3,ha.u,zt,o⟩
   ·rintro D U w hD ae ab ⟨⟨av,aw,au,ak⟩,hv,ha,_,o⟩
    obtain⟨O,rfl⟩:=(ac (hv.at 7 rfl (ae.1 rfl)) az).fM
    refine RL.bF 4 aj o pI ?_
    exact RL.nil ⟨rfl,(av,aw,au,ak),hv.pu 8,ha.u,zt,o⟩
   ·rintro D U w hD ae ab ⟨⟨av,aw,au,ak⟩,hv,ha,_,o⟩
    obtain⟨O,rfl⟩:=(ac (hv.at 8 rfl (ae.1 rfl)) (ac (hv.at 9 rfl (ae.2.1 rfl)) az)).fM
    have o:=((o.cD 22 (nh ab hD 19)).cD 23 (nh ab hD 19)).cD 23 (nf (fun h=>ft hD ((ab 11 _ rfl ((ab 12 _ rfl ((ab 16 _ rfl h).1 rfl)).1 rfl)).1 rfl)))
    have hl900:=o.eH 23
    have hr901:=fU (default:aT) hl900 cd
    refine RL.bT 22 o zr zr uz hr901 ?_
    have o:=(o.fw 22 (D 19) (nh ab hD 19) (own 39 aj (us829.set (Int.toNat ah) {(us829.getD (Int.toNat ah) (default:aT)) with eE:=rv ak}))).fw 23 (D 16) (nf (fun h=>ft hD ((ab 11 _ rfl ((ab 12 _ rfl ((ab 16 _ rfl h).1 rfl)).1 rfl)).1 rfl))) (iA aV us829 ai.1 (some (Int.toNat ah)))
    have o:=o.fw 23 (D 19) (nh ab hD 19) (iA aV (us829.set (Int.toNat ah) {(us829.getD (Int.toNat ah) (default:aT)) with eE:=rv ak}) (ai.1.set (Int.toNat ah) {b3 with eE:=br}) none)
    exact RL.nil ⟨rfl,(av,aw,au,ak),hv.pu 10,ha.u,zt,o⟩
   ·rintro D U w hD ae ab ⟨⟨av,aw,au,ak⟩,hv,ha,_,o⟩
    obtain⟨O,rfl⟩:=(ac (hv.at 10 rfl (ae.1 rfl)) az).fM
    have o:=((o.cD 22 (nh ab hD 19)).cD 23 (nh ab hD 19)).cD 23 (nf (fun h=>ft hD ((ab 12 _ rfl ((ab 16 _ rfl h).1 rfl)).1 rfl)))
    have hl902:=o.eH 23
    have hr903:=fU (default:aT) hl902 cd
    refine RL.kz (α:=aT) (jz 22 o hr903 0) r9 ?_
    have o:=(o.fw 22 (D 19) (nh ab hD 19) (own 39 aj (us829.set (Int.toNat ah) {(us829.getD (Int.toNat ah) (default:aT)) with eE:=rv ak}))).fw 23 (D 16) (nf (fun h=>ft hD ((ab 12 _ rfl ((ab 16 _ rfl h).1 rfl)).1 rfl))) (iA aV us829 ai.1 (some (Int.toNat ah)))
    have o:=o.fw 23 (D 19) (nh ab hD 19) (iA aV (us829.set (Int.toNat ah) {(us829.getD (Int.toNat ah) (default:aT)) with eE:=rv ak}) (ai.1.set (Int.toNat ah) {b3 with eE:=br}) none)
    exact RL.nil ⟨rfl,(av,aw,au,ak),hv.pu 11,ha.u,zt,o⟩
   ·rintro D U w hD ae ab ⟨⟨av,aw,au,ak⟩,hv,ha,_,o⟩
    obtain⟨O,rfl⟩:=(ac (hv.at 11 rfl (ae.1 rfl)) az).fM
    have o:=((o.cD 22 (nh ab hD 19)).cD 23 (nh ab hD 19)).cD 23 (nh ab hD 16)
    have hl904:=o.eH 23
    have hr905:=fU (default:aT) hl904 cd
    refine RL.vC 22 23 ah ou (default:aT) zr o zr (jz 22 o hr905 2) zr zr cd zV ?_
    have o:=(o.fw 22 (D 19) (nh ab hD 19) (own 39 aj (us829.set (Int.toNat ah) {(us829.getD (Int.toNat ah) (default:aT)) with eE:=rv ak}))).fw 23 (D 16) (nh ab hD 16) (iA aV us829 ai.1 (some (Int.toNat ah)))
    have o:=o.fw 23 (D 19) (nh ab hD 19) (iA aV (us829.set (Int.toNat ah) {(us829.getD (Int.toNat ah) (default:aT)) with eE:=rv ak}) (ai.1.set (Int.toNat ah) {b3 with eE:=br}) none)
    exact RL.nil ⟨rfl,(av,aw,au,ak),hv.pu 12,ha.u,zt,o⟩
   ·rintro D U w hD ae ab ⟨⟨av,aw,au,ak⟩,hv,ha,_,o⟩
    obtain⟨O,rfl⟩:=(ac (ha.at 1 rfl) az).fM
    have o:=o.cD 0 hD
    refine RL.aZ (f:=(fun x=>x)) 10 o zr Fd.self r8 fun ev o=>?_
    have o:=(o.pl 25 [0,2,3,4,5,6,7,8,9,10,11,12,13,14,15,16,17,18,19,20,21,22,23,24]).cR 0 true rfl bE
    exact RL.nil ⟨rfl,(ev,aw,au,ak),hv.pu 13,ha.u,zt,o⟩
   ·rintro D U w hD ae ab ⟨⟨av,aw,au,ak⟩,hv,ha,_,o⟩
    obtain⟨O,rfl⟩:=(ac (hv.at 13 rfl (ae.1 rfl)) az).fM
    have o:=(o.cQ 0 (ae.1 rfl)).cD 1 hD
    refine RL.call zt zr I1 [av] zr (aD (nV N (i0:=0) o zr et) ?_)
    rintro ew w o
    have o:=((o.pl 25 [1,0,3,4,5,6,7,8,9,10,11,12,13,14,15,16,17,18,19,20,21,22,23,24]).cR 0 (D 13) (ae.1 rfl) bE).cR 1 true rfl bE
    exact RL.nil ⟨rfl,(av,ew,au,ak),hv.pu 14,ha.u,zt,o⟩
   ·rintro D U w hD ae ab ⟨⟨av,aw,au,ak⟩,hv,ha,_,o⟩
    obtain⟨O,rfl⟩:=(ac (hv.at 14 rfl (ae.1 rfl)) az).fM
    have o:=((o.cQ 1 (ae.1 rfl)).cD 2 (nh ab hD 16)).cD 2 hD
    refine RL.dN ([b9]: (List dB)) o [aw] GC HE (fun M hs g=>⟨(g.sat 1 _ zr).1,zt⟩) fun dn w o=>?_
    have o:=(((o.pl 25 [1,2,0,4,5,6,7,8,9,10,11,12,13,14,15,16,17,18,19,20,21,22,23,24]).cR 1 (D 14) (ae.1 rfl) bE).cR 2 true rfl bE).fw 2 (D 16) (nh ab hD 16) (rd dn ([b9]: (List dB)))
    exact RL.nil ⟨rfl,(av,aw,dn,ak),hv.pu 15,ha.u,zt,o⟩
   ·rintro D U w hD ae ab ⟨⟨av,aw,au,ak⟩,hv,ha,_,o⟩
    obtain⟨O,rfl⟩:=(ac (hv.at 12 rfl (ae.1 rfl)) (ac (hv.at 15 rfl (ae.2.1 rfl)) az)).fM
    have o:=(((((((o.cD 2 hD).cQ 2 (ae.2.1 rfl)).cD 3 (nh ab hD 19)).cD 3 hD).cD 22 (nh ab hD 19)).cD 23 (nh ab hD 19)).cD 23 hD).Al (j:=23) (jj:=ah) ou (default:aT) rfl cd
    have o:=o.freeze 3
    refine RL.app 0 3 o Lz eu fun c3 w o=>?_
    have o:=((((o.pl 25 [1,2,3,0,5,6,7,8,9,10,11,12,13,14,15,16,17,18,19,20,21,22,23,24]).cR 2 true rfl (bif D 15 then (own 64 au ([b9]: (List dB))) else bE)).cR 3 true rfl bE).fw 3 (D 19) (nh ab hD 19) bE).fw 22 (D 19) (nh ab hD 19) (own 39 aj (us829.set (Int.toNat ah) {(us829.getD (Int.toNat ah) (default:aT)) with eE:=rv c3}))
    have o:=(o.cR 23 true rfl (iA aV us829 ai.1 none)).fw 23 (D 19) (nh ab hD 19) (iA aV (us829.set (Int.toNat ah) {(us829.getD (Int.toNat ah) (default:aT)) with eE:=rv c3}) (ai.1.set (Int.toNat ah) {b3 with eE:=br}) none)
    exact RL.nil ⟨rfl,(av,aw,au,c3),hv.pu 16,ha.u,zt,o⟩
   ·rintro D U w hD ae ab ⟨⟨av,aw,au,ak⟩,hv,ha,_,o⟩
    obtain⟨O,rfl⟩:=(ac (hv.at 3 rfl (ae.1 rfl)) (ac (hv.at 4 rfl (ae.2.1 rfl)) az)).fM
    have o:=o.cD 22 (nf (fun h=>ft hD ((ab 18 _ rfl ((ab 19 _ rfl h).1 rfl)).1 rfl)))
    have o:=o.cD 23 (nf (fun h=>ft hD ((ab 18 _ rfl ((ab 19 _ rfl h).1 rfl)).1 rfl)))
    have o:=o.cQ 23 (ae.2.2.2.2.2.2.2.2.2.2.2.2.2.2.2.2.2.2.1 rfl)
    have hl910:=o.eH 23
    have hr911:=fU (default:aT) hl910 cu
    refine RL.bT 22 o zr zr uz hr911 ?_
    have o:=o.fw 22 (D 19) (nf (fun h=>ft hD ((ab 18 _ rfl ((ab 19 _ rfl h).1 rfl)).1 rfl))) (own 39 aj (us829.set (Int.toNat ah) {(us829.getD (Int.toNat ah) (default:aT)) with eE:=rv ak}))
    have o:=(o.cR 23 (D 16) (ae.2.2.2.2.2.2.2.2.2.2.2.2.2.2.2.2.2.2.1 rfl) (iA aV us829 ai.1 none)).fw 23 (D 19) (nf (fun h=>ft hD ((ab 18 _ rfl ((ab 19 _ rfl h).1 rfl)).1 rfl))) (iA aV (us829.set (Int.toNat ah) {(us829.getD (Int.toNat ah) (default:aT)) with eE:=rv ak}) (ai.1.set (Int.toNat ah) {b3 with eE:=br}) none)
    exact RL.nil ⟨rfl,(av,aw,au,ak),hv.pu 17,ha.u,zt,o⟩
   ·rintro D U w hD ae ab ⟨⟨av,aw,au,ak⟩,hv,ha,_,o⟩
    obtain⟨O,rfl⟩:=(ac (hv.at 17 rfl (ae.1 rfl)) az).fM
    have o:=((o.cD 22 (nh ab hD 19)).cD 23 (nh ab hD 19)).cQ 23 (ae.2.2.2.2.2.2.2.2.2.2.2.2.2.2.2.2.2.1 rfl)
    have hl912:=o.eH 23
    have hr913:=fU (default:aT) hl912 cu
    refine RL.kz (α:=aT) (jz 22 o hr913 0) r9 ?_
    have o:=(o.fw 22 (D 19) (nh ab hD 19) (own 39 aj (us829.set (Int.toNat ah) {(us829.getD (Int.toNat ah) (default:aT)) with eE:=rv ak}))).cR 23 (D 16) (ae.2.2.2.2.2.2.2.2.2.2.2.2.2.2.2.2.2.1 rfl) (iA aV us829 ai.1 none)
    have o:=o.fw 23 (D 19) (nh ab hD 19) (iA aV (us829.set (Int.toNat ah) {(us829.getD (Int.toNat ah) (default:aT)) with eE:=rv ak}) (ai.1.set (Int.toNat ah) {b3 with eE:=br}) none)
    exact RL.nil ⟨rfl,(av,aw,au,ak),hv.pu 18,ha.u,zt,o⟩
   ·rintro D U w hD ae ab ⟨⟨av,aw,au,ak⟩,hv,ha,_,o⟩
    obtain⟨O,rfl⟩:=(ac (hv.at 16 rfl (ae.2.1 rfl)) (ac (hv.at 18 rfl (ae.1 rfl)) az)).fM
    have o:=((((o.cD 3 hD).cQ 3 (ae.2.1 rfl)).cD 22 hD).cD 23 hD).cQ 23 (ae.2.1 rfl)
    have hl914:=o.eH 23
    have hr915:=fU (default:aT) hl914 cu
    refine RL.tz 22 23 3 ah ou (default:aT) o zr zr (jz 22 o hr915 2) zr zr zr cu zV fun w o=>?_
    have o:=((o.cR 3 true rfl (bif D 16 then (own 64 ak br) else bE)).cR 22 true rfl (own 39 aj us829)).cR 23 true rfl (bif D 16 then (iA aV us829 ai.1 (some (Int.toNat ah))) else (iA aV us829 ai.1 none))
    exact RL.nil ⟨rfl,(av,aw,au,ak),hv.n1,ha,zt,o⟩
   rintro D U w a7 ⟨⟨av,aw,au,ak⟩,hv,ha,_,o⟩
   have o:=(((((o.cQ 0 (kU a7 13)).cQ 1 (kU a7 14)).cQ 2 (kU a7 16)).cQ 3 (kU a7 19)).cQ 22 (kU a7 19)).cQ 23 (kU a7 19)
   obtain⟨O,rfl⟩:=(ac (ha.at 0 rfl) (ac (ha.at 1 rfl) (ac (ha.at 2 rfl) (ac (ha.at 3 rfl) (ac (ha.at 4 rfl) (ac (ha.at 5 rfl) (ac (ha.at 6 rfl) az))))))).fM
   obtain rfl:=oi hj
   exact⟨rfl,(us829.set (Int.toNat ah) {(us829.getD (Int.toNat ah) (default:aT)) with eE:=rv ak}),o.sp 24 [4,18,19,20,21,22,23,14,15,16,17,6]⟩
  rintro _ w ⟨us877,O,rfl,o⟩
  refine aH ?_
  obtain⟨ey,ez,hb⟩:=bd hb
  obtain⟨e3,e4,hb⟩:=bd hb
  refine RC.Gq E V mixed [1,1,1,1,1,0,1,0,0,1,1,1,0,0,0,0,1,1,0,1,1,0] [7,8,13,14,15,18,21] (fun(x:Value×Value×Value×Value×Value)=>(fun ay a1 a0 aq ax=>[(0,205,(vp b0 0)),(1,206,(vp b0 0)),(2,207,(vp b0 0)),(3,208,(vp b0 0)),(4,209,(vp b0 10)),(5,210,bl),(6,211,(vi bh.2)),(7,212,ay),(8,213,aq),(9,214,(vp b0 0)),(10,215,(vp b0 0)),(11,216,(vp b0 11)),(12,217,a6),(13,218,a1),(14,219,a0),(15,220,ax),(16,221,(vp b0 0)),(17,222,(vp b0 10)),(19,223,(vp b0 0)),(20,224,(vp b0 11))]) x.1 x.2.1 x.2.2.1 x.2.2.2.1 x.2.2.2.2) [(0,vp b0 0),(15,vp b8 0),(17,vi bh.2),(170,v0_3),(171,vi p0_3.length),(172,vi b2)] [] (fun(D:Nat->Bool) (x:Value×Value×Value×Value×Value)=>(fun ay a1 a0 aq ax=>[bif D 1 then (rd ay ([bh.2]: (List Int))) else (bif D 0 then (own 3 ay ([bh.2]: (List Int))) else bE),bif D 2 then (rd a1 ba.1) else bE,bif D 4 then (rd a0 ([ba.1]: (List ka))) else (bif D 3 then (own 84 a0 ([ba.1]: (List ka))) else bE),bif D 6 then (bc 53 b0 [v0_0,v0_1,v0_2,v0_3,v0_4,v0_5,v0_6,aj,a3,a4,aq,ax]) else (bif D 5 then (bc 53 b0 [v0_0,v0_1,v0_2,v0_3,v0_4,v0_5,v0_6,aj,a3,a4,aq,a6]) else (bc 53 b0 [v0_0,v0_1,v0_2,v0_3,v0_4,v0_5,v0_6,aj,a3,a4,bl,a6])),rd v0_2 p0_2,rd v0_3 p0_3,rd v0_5 p0_5,rd v0_6 p0_6,own 39 aj us877,iA aV us877 bh.1 none,rd a3 ai.2.1,rd a4 ai.2.2.1,bif D 1 then (own 3 aq ey) else (own 3 bl ai.2.2.2.1),bif D 4 then (own 84 ax e3) else (own 84 a6 ai.2.2.2.2),bx 84 b8 ba.1]) x.1 x.2.1 x.2.2.1 x.2.2.2.1 x.2.2.2.2) (fun x=>by kernel_rfl) ?_ ⟨fun _=>jL gn,fun _=>jL gn,fun _=>jL gn,fun _=>xD gn,fun _=>nY gn E8,?_,fun _=>jL gn,?_,?_,fun _=>jL gn,fun _=>xD gn,fun _=>nY gn HL,?_,?_,?_,?_,fun _=>xD gn,fun _=>nY gn E8,?_,fun _=>xD gn,fun _=>nY gn HL,?_,trivial⟩ ?_
  ·have o:=(((o.drew).bE).bE).bE
   exact⟨(undef,undef,undef,undef,undef),fR.none,(E3 zr),zt,o⟩
  ·rintro D U w hD ae ab ⟨⟨ay,a1,a0,aq,ax⟩,hv,ha,_,o⟩
   obtain⟨O,rfl⟩:=(ac (hv.at 4 rfl (ae.1 rfl)) az).fM
   have o:=(o.cD 3 (nh ab hD 21)).cD 3 (nh ab hD 18)
   refine RL.bF 3 bl o eV ?_
   have o:=(o.fw 3 (D 18) (nh ab hD 18) (bc 53 b0 [v0_0,v0_1,v0_2,v0_3,v0_4,v0_5,v0_6,aj,a3,a4,aq,a6])).fw 3 (D 21) (nh ab hD 21) (bc 53 b0 [v0_0,v0_1,v0_2,v0_3,v0_4,v0_5,v0_6,aj,a3,a4,aq,ax])
   exact RL.nil ⟨rfl,(ay,a1,a0,aq,ax),hv.pu 5,ha.u,zt,o⟩
  ·rintro D U w hD ae ab ⟨⟨ay,a1,a0,aq,ax⟩,hv,ha,_,o⟩
   obtain⟨O,rfl⟩:=(ac (hv.at 6 rfl (ae.1 rfl)) az).fM
   have o:=((o.cD 0 (nh ab hD 8)).cD 0 hD).sc Int bh.2
   refine RL.dN ([bh.2]: (List Int)) o [(vi bh.2)] eF Dd (fun M hs g=>⟨(g.sat 0 _ zr).1,zt⟩) fun dp w o=>?_
   have o:=((o.pl 17 [0,3,4,5,6,7,8,9,10,11,12,13,14,15,16]).cR 0 true rfl bE).fw 0 (D 8) (nh ab hD 8) (rd dp ([bh.2]: (List Int)))
   exact RL.nil ⟨rfl,(dp,a1,a0,aq,ax),hv.pu 7,ha.u,zt,o⟩
  ·rintro D U w hD ae ab ⟨⟨ay,a1,a0,aq,ax⟩,hv,ha,_,o⟩
   obtain⟨O,rfl⟩:=(ac (hv.at 5 rfl (ae.1 rfl)) (ac (hv.at 7 rfl (ae.2.1 rfl)) az)).fM
   have o:=(((((o.cD 0 hD).cQ 0 (ae.2.1 rfl)).cD 3 (nh ab hD 21)).cD 3 (nh ab hD 18)).cD 12 hD).freeze 0
   refine RL.app 12 0 o rC ez fun c4 w o=>?_
   have o:=((o.cR 0 true rfl (bif D 7 then (own 3 ay ([bh.2]: (List Int))) else bE)).fw 3 (D 18) (nh ab hD 18) (bc 53 b0 [v0_0,v0_1,v0_2,v0_3,v0_4,v0_5,v0_6,aj,a3,a4,c4,a6])).fw 3 (D 21) (nh ab hD 21) (bc 53 b0 [v0_0,v0_1,v0_2,v0_3,v0_4,v0_5,v0_6,aj,a3,a4,c4,ax])
   have o:=o.cR 12 true rfl (own 3 bl ai.2.2.2.1)
   exact RL.nil ⟨rfl,(ay,a1,a0,c4,ax),hv.pu 8,ha.u,zt,o⟩
  ·rintro D U w hD ae ab ⟨⟨ay,a1,a0,aq,ax⟩,hv,ha,_,o⟩
   obtain⟨O,rfl⟩:=(ac (hv.at 11 rfl (ae.1 rfl)) az).fM
   have o:=(o.cD 3 (nh ab hD 21)).cD 3 (nh ab hD 18)
   refine RL.bF 3 a6 o LA ?_
   have o:=(o.fw 3 (D 18) (nh ab hD 18) (bc 53 b0 [v0_0,v0_1,v0_2,v0_3,v0_4,v0_5,v0_6,aj,a3,a4,aq,a6])).fw 3 (D 21) (nh ab hD 21) (bc 53 b0 [v0_0,v0_1,v0_2,v0_3,v0_4,v0_5,v0_6,aj,a3,a4,aq,ax])
   exact RL.nil ⟨rfl,(ay,a1,a0,aq,ax),hv.pu 12,ha.u,zt,o⟩
  ·rintro D U w hD ae ab ⟨⟨ay,a1,a0,aq,ax⟩,hv,ha,_,o⟩
   obtain⟨O,rfl⟩:=(ac (ha.at 1 rfl) az).fM
   have o:=o.cD 1 hD
   refine RL.aZ (f:=(fun x=>x)) 14 o zr Fd.self tJ fun e5 o=>?_
   have o:=(o.pl 16 [1,0,3,4,5,6,7,8,9,10,11,12,13,14,15]).cR 1 true rfl bE
   exact RL.nil ⟨rfl,(ay,e5,a0,aq,ax),hv.pu 13,ha.u,zt,o⟩
  ·rintro D U w hD ae ab ⟨⟨ay,a1,a0,aq,ax⟩,hv,ha,_,o⟩
   obtain⟨O,rfl⟩:=(ac (hv.at 13 rfl (ae.1 rfl)) az).fM
   have o:=((o.cQ 1 (ae.1 rfl)).cD 2 (nh ab hD 15)).cD 2 hD
   refine RL.dN ([ba.1]: (List ka)) o [a1] M6 Gz (fun M hs g=>⟨(g.sat 1 _ zr).1,zt⟩) fun dq w o=>?_
   have o:=(((o.pl 16 [1,2,0,4,5,6,7,8,9,10,11,12,13,14,15]).cR 1 (D 13) (ae.1 rfl) bE).cR 2 true rfl bE).fw 2 (D 15) (nh ab hD 15) (rd dq ([ba.1]: (List ka)))
   exact RL.nil ⟨rfl,(ay,a1,dq,aq,ax),hv.pu 14,ha.u,zt,o⟩
  ·rintro D U w hD ae ab ⟨⟨ay,a1,a0,aq,ax⟩,hv,ha,_,o⟩
   obtain⟨O,rfl⟩:=(ac (hv.at 12 rfl (ae.1 rfl)) (ac (hv.at 14 rfl (ae.2.1 rfl)) az)).fM
   have o:=(((((o.cD 2 hD).cQ 2 (ae.2.1 rfl)).cD 3 (nh ab hD 21)).cD 3 (nh ab hD 18)).cD 13 hD).freeze 2
   refine RL.app 13 2 o M7 e4 fun dr w o=>?_
   have o:=((o.cR 2 true rfl (bif D 14 then (own 84 a0 ([ba.1]: (List ka))) else bE)).fw 3 (D 18) (nh ab hD 18) (bc 53 b0 [v0_0,v0_1,v0_2,v0_3,v0_4,v0_5,v0_6,aj,a3,a4,aq,a6])).fw 3 (D 21) (nh ab hD 21) (bc 53 b0 [v0_0,v0_1,v0_2,v0_3,v0_4,v0_5,v0_6,aj,a3,a4,aq,dr])
   have o:=o.cR 13 true rfl (own 84 a6 ai.2.2.2.2)
   exact RL.nil ⟨rfl,(ay,a1,a0,aq,dr),hv.pu 15,ha.u,zt,o⟩
  ·rintro D U w hD ae ab ⟨⟨ay,a1,a0,aq,ax⟩,hv,ha,_,o⟩
   obtain⟨O,rfl⟩:=(ac (hv.at 8 rfl (ae.2.1 rfl)) (ac (hv.at 17 rfl (ae.1 rfl)) az)).fM
   have o:=((o.cD 3 (nh ab hD 21)).cD 3 hD).cQ 12 (ae.2.1 rfl)
   refine RL.iB 3 aq o zr zr (iT 12 o) eV fun w o=>?_
   have o:=((o.cR 3 true rfl (bc 53 b0 [v0_0,v0_1,v0_2,v0_3,v0_4,v0_5,v0_6,aj,a3,a4,bl,a6])).fw 3 (D 21) (nh ab hD 21) (bc 53 b0 [v0_0,v0_1,v0_2,v0_3,v0_4,v0_5,v0_6,aj,a3,a4,aq,ax])).cR 12 (D 8) (ae.2.1 rfl) (own 3 bl ai.2.2.2.1)
   exact RL.nil ⟨rfl,(ay,a1,a0,aq,ax),hv.n1,ha,zt,o⟩
  ·rintro D U w hD ae ab ⟨⟨ay,a1,a0,aq,ax⟩,hv,ha,_,o⟩
   obtain⟨O,rfl⟩:=(ac (hv.at 15 rfl (ae.2.1 rfl)) (ac (hv.at 19 rfl (ae.1 rfl)) az)).fM
   have o:=((o.cD 3 hD).cQ 3 (ae.2.2.1 rfl)).cQ 13 (ae.2.1 rfl)
   refine RL.iB 3 ax o zr zr (iT 13 o) LA fun w o=>?_
   have o:=(o.cR 3 true rfl (bif D 18 then (bc 53 b0 [v0_0,v0_1,v0_2,v0_3,v0_4,v0_5,v0_6,aj,a3,a4,aq,a6]) else (bc 53 b0 [v0_0,v0_1,v0_2,v0_3,v0_4,v0_5,v0_6,aj,a3,a4,bl,a6]))).cR 13 (D 15) (ae.2.1 rfl) (own 84 a6 ai.2.2.2.2)
   exact RL.nil ⟨rfl,(ay,a1,a0,aq,ax),hv.n1,ha,zt,o⟩
  rintro D U w a7 ⟨⟨ay,a1,a0,aq,ax⟩,hv,ha,_,o⟩
  have o:=(((((o.cQ 0 (kU a7 8)).cQ 1 (kU a7 13)).cQ 2 (kU a7 15)).cQ 3 (kU a7 21)).cQ 12 (kU a7 8)).cQ 13 (kU a7 15)
  obtain⟨O,rfl⟩:=(ac (ha.at 0 rfl) (ac (ha.at 1 rfl) (ac (ha.at 2 rfl) (ac (ha.at 3 rfl) (ac (ha.at 4 rfl) (ac (ha.at 5 rfl) az)))))).fM
  refine bP (aH (RC.region (RL.inc hk hm (mv (vi ((b2+1:Nat):Int)) (RL.nil ?_)))))
  obtain rfl:=oi hb
  exact⟨rfl,a3,a4,aq,ax,us877,o.sp 15 [3,10,11,12,13,4,5,6,7,8,9]⟩
 rintro _ w ⟨cp,cq,cr,ct,us824,O,rfl,o⟩
 obtain rfl:=oi hb
 have o:=o.Aa (X:=aV) (b:=10) (j:=9) rfl (fun M h u x cs=>xN M h u x cs) rfl rfl (by decide)
 refine Df ?_
 exact ID zr ⟨aj,cp,cq,cr,ct,zr,o.pk 11 [0,9,1,2,3,4]⟩
def wy (E:World) (V:List HP) (res:Option ((List (List aI))×(List aI)×(List cA)×(List eQ)×(List (List aA))×(List aK)×(List (List Int))×(List bQ)×(List Int)×(List Int)×(List Int)×(List ka))×Int) (v:Value) (w:World):Prop:=Hr res.1 (v = .tuple #[(.pointer none),(vi res.2)]/\Holds E w V) (fun y=>∃(ub0:Nat) (u0_0 u0_1:Value) (u0_2 u0_3:Value) (u0_4 u0_5:Value) (u0_6 u0_7:Value) (u0_8 u0_9:Value) (u0_10 u0_11:Value),v = .tuple #[vp ub0 0,(vi res.2)]/\Holds E w ([bc 53 ub0 [u0_0,u0_1,u0_2,u0_3,u0_4,u0_5,u0_6,u0_7,u0_8,u0_9,u0_10,u0_11],rd u0_0 y.1,rd u0_1 y.2.1,rd u0_2 y.2.2.1,rd u0_3 y.2.2.2.1,own 91 u0_4 y.2.2.2.2.1,rd u0_5 y.2.2.2.2.2.1,rd u0_6 y.2.2.2.2.2.2.1,own 39 u0_7 y.2.2.2.2.2.2.2.1,rd u0_8 y.2.2.2.2.2.2.2.2.1,rd u0_9 y.2.2.2.2.2.2.2.2.2.1,own 3 u0_10 y.2.2.2.2.2.2.2.2.2.2.1,own 84 u0_11 y.2.2.2.2.2.2.2.2.2.2.2]++V))
def sj (E:World) (V:List HP) (r:Option ((List (List aI))×(List aI)×(List cA)×(List eQ)×(List (List aA))×(List aK)×(List (List Int))×(List bQ)×(List Int)×(List Int)×(List Int)×(List ka))×Int) (U:Nat->Value) (w:World):Prop:=lG bN 112 Tryz.f13 (wy E V r) .ret U w
theorem vh {p0:kY} {res:Option ((List (List aI))×(List aI)×(List cA)×(List eQ)×(List (List aA))×(List aK)×(List (List Int))×(List bQ)×(List Int)×(List Int)×(List Int)×(List ka))×Int} (j:Holds E w V) (h0:V[i0]? =some (rd v0 p0)) (o:jF N p0=some res):
    Calls bN 13 [v0].toArray w (gJ (wy E V res)):=by
 unfold jF at o
 refine enter Tryz.func13 zr zr ?_
 have j:=j.dup (i0+0) h0
 refine RC.sr (RL.dD 0 v0 j zr fun ao w j=>?_)
 refine aP (.pointer none) (aP (vi 0) (RL.nq (RC.sr (RL.aX zr mL (RL.aZ 0 j zr jf pY fun c2 j=>(RL.bB 0 p0.aJ j qP (ic ((p0.aJ.length:Int)) 0 (RL.nt ?_))))))))
 refine dT o (fun hc o=>?_) fun hc o=>?_
 ·refine RC.sr (aP (.pointer none) (aP (vi 9) (RL.nt (RC.rt ?_))))
  obtain rfl:=oi o
  exact qK ⟨rfl,j.drop 3⟩
 refine RC.ss (RC.sr (RL.aX zr mL (RL.aZ 1 j zr jf pY fun c3 j=>(RL.bB 0 p0.aJ j qP (ic ((p0.aJ.length:Int)) 16 (RL.nt (dT o (fun hc o=>?_) fun hc o=>?_)))))))
 ·refine RC.sr (aP (.pointer none) (aP (vi 2) (RL.nt (RC.rt ?_))))
  obtain rfl:=oi o
  exact qK ⟨rfl,j.drop 4⟩
 refine RC.sx (RL.aX zr CI (RL.aZ 2 j zr sF uy fun c4 j=>(RL.bB 0 p0.cI j nC (aP (vi p0.cI.length) (RL.nq (RC.sr (RL.aX zr mL (RL.aZ 3 j zr jf pY fun bp j=>?_))))))))
 refine RL.bB 0 p0.aJ j qP (mv (vi 0) (RL.nt ?_))
 obtain⟨c5,hN,o⟩:=bd o
 refine RC.range (fun(bk:Nat) (ay:Int)=>SH E V [(1,vp ao 0),(4,vi ay),(28,bp),(29,vi p0.aJ.length),(30,vi bk)] [bx 27 ao p0,rd bp p0.aJ]) (fun(ay:Int)=>SH E V [(1,vp ao 0),(4,vi ay)] [bx 27 ao p0,rd bp p0.aJ]) (sj E V) hN ?_ ?_ ?_ ?_ ?_
 ·exact j.sp 6 [4,0]
 ·rintro hm ay _ w ⟨O,rfl,j⟩
  refine RC.sr (ic ((p0.aJ.length:Int)) ((p0.aJ.length:Int)) (RL.nq (RC.fu sA (RC.ex ?_))))
  exact⟨rfl,j.sp 2 [0,1]⟩
 ·rintro hm bk ay fl _ w hk ⟨O,rfl,j⟩ o
  refine RC.sr (ic ((bk:Int)) ((p0.aJ.length:Int)) (RL.nq (RC.eZ (sw hk) (RC.ss (RC.bs ?_)))))
  obtain⟨bl,bz,o⟩:=bd o
  refine RL.bO 1 j uV bz fun c6 j=>(RL.bJ 0 bl j uy fun bm j=>(aP bm (RL.nq (RC.sr (mv bm ?_)))))
  obtain⟨a8,b0,o⟩:=bd o
  refine RL.call zt zr K8 [bm] zr (aD (pK N (i0:=0) j zr b0) ?_)
  rintro _ w ⟨rfl,j⟩
  refine aP (vi a8) (RL.ns (mv (vi a8) (ic a8 0 (RL.nt (dT o (fun hc o=>?_) fun hc o=>?_)))))
  ·refine RC.sr (mv (vi a8) (aP (.pointer none) (aP (vi a8) (RL.nt (RC.rt (oL (bR ?_)))))))
   obtain rfl:=oi o
   exact⟨rfl,qK ⟨rfl,j.drop 4⟩⟩
  refine RC.sn (RC.region (mv (vi ay) (mv bm (RL.bB 0 bl j nC (RL.gk ay (bl.length:Int) (aP (vi (IntKind.wrap .i64 (ay+ (bl.length:Int)))) (RL.nil (bP ?_))))))))
  refine aH (RC.region (RL.inc hk hm (mv (vi ((bk+1:Nat):Int)) (RL.nil ?_))))
  obtain rfl:=oi o
  exact⟨rfl,j.sp 4 [2,3]⟩
 ·intro r U w e hK
  subst e
  refine bR ?_
  obtain rfl:=oi o
  exact hK
 rintro ay _ w rfl ⟨O,rfl,j⟩
 rw [Fo.cZ] at o
 refine aH (RC.seq (RC.sr (RL.aX zr CI (RL.aZ 0 j zr sF uy fun b1 j=>?_))))
 obtain⟨ba,b2,o⟩:=bd o
 refine RL.call zt zr K8 [b1] zr (aD (pK N (i0:=0) j zr b2) ?_)
 rintro _ w ⟨rfl,j⟩
 refine aP (vi ba) (RL.ns (mv (vi ba) (ic ba 0 (RL.nt (dT o (fun hc o=>?_) fun hc o=>?_)))))
 ·refine RC.sr (mv (vi ba) (aP (.pointer none) (aP (vi ba) (RL.nt (RC.rt ?_)))))
  obtain rfl:=oi o
  exact qK ⟨rfl,j.drop 3⟩
 refine RC.ss (RC.sr (mv (vi ay) (ic ay 2000 (RL.nt (dT o (fun hc o=>?_) fun hc o=>?_)))))
 ·refine RC.sr (aP (.pointer none) (aP (vi 2) (RL.nt (RC.rt ?_))))
  obtain rfl:=oi o
  exact qK ⟨rfl,j.drop 3⟩
 refine RC.ss (RC.sr (RL.aZ (f:=(fun x=>x)) 1 j zr Fd.self ux fun b3 j=>?_))
 obtain⟨bb,b4,o⟩:=bd o
 refine RL.call zt zr MH [b3] zr (aD (u5 N (i0:=0) j zr b4) ?_)
 rintro _ w ⟨rfl,j⟩
 refine aP (vi bb) (RL.ns (mv (vi bb) (ic bb 0 (RL.nt (dT o (fun hc o=>?_) fun hc o=>?_)))))
 ·refine RC.sr (mv (vi bb) (aP (.pointer none) (aP (vi bb) (RL.nt (RC.rt ?_)))))
  obtain rfl:=oi o
  exact qK ⟨rfl,j.drop 4⟩
 refine RC.ss (RC.sr (RL.aZ (f:=(fun x=>x)) 2 j zr Fd.self ux fun b5 j=>?_))
 obtain⟨bc,b6,o⟩:=bd o
 refine RL.call zt zr MM [b5] zr (aD (u9 N (i0:=0) j zr b6) ?_)
 rintro _ w ⟨rfl,j⟩
 refine aP (vi bc) (RL.ns (mv (vi bc) (ic bc 0 (RL.nt (dT o (fun hc o=>?_) fun hc o=>?_)))))
 ·refine RC.sr (mv (vi bc) (aP (.pointer none) (aP (vi bc) (RL.nt (RC.rt ?_)))))
  obtain rfl:=oi o
  exact qK ⟨rfl,j.drop 5⟩
 refine RC.ss (RC.sr (RL.aX zr iz (RL.aZ 3 j zr gM n7 fun av j=>(RL.bB 0 p0.aN j wO (mv (vi 0) (RL.nt ?_))))))
 obtain⟨c7,hN,o⟩:=bd o
 refine RC.range (fun(ax:Nat) (bn:Unit)=>SH E V [(1,vp ao 0),(63,av),(64,vi p0.aN.length),(65,vi ax)] [bx 27 ao p0,rd av p0.aN]) (fun(bn:Unit)=>SH E V [(1,vp ao 0)] [bx 27 ao p0,rd av p0.aN]) (sj E V) hN ?_ ?_ ?_ ?_ ?_
 ·exact j.sp 6 [4,0]
 ·rintro hm bn _ w ⟨O,rfl,j⟩
  refine RC.sr (ic ((p0.aN.length:Int)) ((p0.aN.length:Int)) (RL.nq (RC.fu sA (RC.ex ?_))))
  exact⟨rfl,j.sp 2 [0,1]⟩
 ·rintro hm ax bn fl _ w hk ⟨O,rfl,j⟩ o
  refine RC.sr (ic ((ax:Int)) ((p0.aN.length:Int)) (RL.nq (RC.eZ (sw hk) (RC.ss (RC.bs (mv (vi ax) ?_))))))
  obtain⟨ad,b7,o⟩:=bd o
  refine RL.bO 1 j qQ b7 fun c8 j=>(RL.bJ 0 ad j mj fun c9 j=>(RL.alloc j E5.z fun an w j=>?_))
  refine aP (vi ax) (RL.bZ 0 j 1 zr mj fun w j=>?_)
  refine RL.ns (RL.aX zr iz (RL.aZ 3 j zr gM n7 fun da j=>(mv (vi ax) ?_)))
  obtain⟨aw,b8,o⟩:=bd o
  refine RL.cut (hl:= .inr ⟨rfl,zr⟩) 0 j qQ (.inl zr) b8 fun a2 j=>(RL.bB 0 aw j wO (mv (vi 0) (RL.nt ?_)))
  obtain⟨db,hN,o⟩:=bd o
  refine RC.range (fun(a5:Nat) (bo:Unit)=>SH E V [(1,vp ao 0),(12,vp an 0),(63,av),(64,vi p0.aN.length),(65,vi ax),(73,a2),(74,vi aw.length),(75,vi a5)] [bx 27 ao p0,bx 73 an ad,rd av p0.aN,rd a2 aw]) (fun(bo:Unit)=>SH E V [(1,vp ao 0),(63,av),(64,vi p0.aN.length),(65,vi ax)] [bx 27 ao p0,bx 73 an ad,rd av p0.aN,rd a2 aw]) (sj E V) hN ?_ ?_ ?_ ?_ ?_
  ·exact j.sp 7 [5,2,6,0]
  ·rintro hm bo _ w ⟨O,rfl,j⟩
   refine RC.sr (ic ((aw.length:Int)) ((aw.length:Int)) (RL.nq (RC.fu sA (RC.ex ?_))))
   exact⟨rfl,j.sp 4 [0,1,2,3]⟩
  ·rintro hm a5 bo fl _ w hk ⟨O,rfl,j⟩ o
   refine RC.sr (ic ((a5:Int)) ((aw.length:Int)) (RL.nq (RC.eZ (sw hk) (RC.ss (RC.bs ?_)))))
   obtain⟨ab,b9,o⟩:=bd o
   refine RL.bO 3 j qQ b9 fun bu j=>(RL.bJ 0 ab j mj fun bw j=>(RL.alloc j E5.z fun au w j=>?_))
   refine RL.bZ 0 j 1 zr mj fun w j=>?_
   refine RL.nq ?_
   obtain⟨bq,hj,o⟩:=bd o
   refine RC.jn (fun(bq:Bool)=>SH E V [(1,vp ao 0),(12,vp an 0),(63,av),(64,vi p0.aN.length),(65,vi ax),(73,a2),(74,vi aw.length),(75,vi a5),(98,vb bq)] [bx 27 ao p0,bx 73 an ad,rd av p0.aN,rd a2 aw]) bq ?_ ?_
   ·refine fA hj (fun ar hj=>?_) fun ar hj=>?_
    rotate_left
    ·refine RC.Gq E V mixed [1,0,1,0,1,1,0,0,0,0,0,0,1,1,1,1,1,1,1,1] [] (fun(x:Unit)=>[(0,79,(vp an 3)),(1,80,(vi ad.cO)),(2,81,(vp au 4)),(3,82,(vi ab.To)),(4,83,(vb (decide (ad.cO<=ab.To)))),(5,84,(vb (decide (ad.cO<=ab.To)))),(6,85,(cv (true&&((decide (ad.cO<=ab.To))==true)) (vp au 3))),(7,86,(cv (true&&((decide (ad.cO<=ab.To))==true)) (vi ab.cO))),(8,87,(cv (true&&((decide (ad.cO<=ab.To))==true)) (vp an 4))),(9,88,(cv (true&&((decide (ad.cO<=ab.To))==true)) (vi ad.To))),(10,89,(cv (true&&((decide (ad.cO<=ab.To))==true)) (vb (decide (ab.cO<=ad.To))))),(11,90,(vb ((decide (ad.cO<=ab.To))&&(decide (ab.cO<=ad.To))))),(12,91,(vb ((decide (ad.cO<=ab.To))&&(decide (ab.cO<=ad.To))))),(13,92,undef),(14,93,undef),(15,94,undef),(16,95,undef),(17,96,undef),(18,97,undef),(19,98,(vb false))]) [(1,vp ao 0),(12,vp an 0),(14,vp au 0),(63,av),(64,vi p0.aN.length),(65,vi ax),(73,a2),(74,vi aw.length),(75,vi a5)] [] (fun(D:Nat->Bool) (x:Unit)=>[bx 73 au ab,rd bw ab,pt bu ab,bx 27 ao p0,bx 73 an ad,rd av p0.aN,rd a2 aw]) (fun x=>by kernel_rfl) ?_ ⟨fun _=>nY gn p4,?_,fun _=>nY gn r7,?_,fun _=>Ka gn rfl,fun _=>jL gn,?_,?_,?_,?_,?_,?_,fun _=>jL gn,fun _=>sD ar,fun _=>sD ar,fun _=>sD ar,fun _=>sD ar,fun _=>sD ar,fun _=>sD ar,fun _=>KX gn ar rfl,trivial⟩ ?_
     ·have j:=j.drew
      exact⟨(),fR.none,(E3 zr),zt,j⟩
     ·rintro D U w hD af al ⟨_,hv,ha,_,j⟩
      obtain⟨O,rfl⟩:=(ac (hv.at 0 rfl (af.1 rfl)) az).fM
      refine RL.aM 4 j zr kF cL ?_
      exact RL.nil ⟨rfl,(),hv.pu 1,ha.u,zt,j⟩
     ·rintro D U w hD af al ⟨_,hv,ha,_,j⟩
      obtain⟨O,rfl⟩:=(ac (hv.at 2 rfl (af.1 rfl)) az).fM
      refine RL.aM 0 j zr mc cL ?_
      exact RL.nil ⟨rfl,(),hv.pu 3,ha.u,zt,j⟩
     ·rintro D U w hD af al ⟨_,hv,ha,_,j⟩
      obtain⟨O,rfl⟩:=(ac (hv.at 5 rfl (af.1 rfl)) (ac (ha.at 2 rfl) az)).fM
      refine RL.gs true (decide (ad.cO<=ab.To)) (vp au 3) zr zr zr (eB p4) ?_
      exact RL.nil ⟨rfl,(),hv.pu 6,ha.u,zt,j⟩
     ·rintro D U w hD af al ⟨_,hv,ha,_,j⟩
      obtain⟨O,rfl⟩:=(ac (hv.at 5 rfl (af.2.1 rfl)) (ac (hv.at 6 rfl (af.1 rfl)) az)).fM
      refine RL.gs true (decide (ad.cO<=ab.To)) (vi ab.cO) rfl rfl rfl (cC 0 rfl j (fun h=>by exact(cM h:cv (true&&((decide (ad.cO<=ab.To))==true)) (vp au 3)= (vp au 3))) rfl kF cL) ?_
      exact RL.nil ⟨rfl,(),hv.pu 7,ha.u,zt,j⟩
     ·rintro D U w hD af al ⟨_,hv,ha,_,j⟩
      obtain⟨O,rfl⟩:=(ac (hv.at 5 rfl (af.1 rfl)) (ac (ha.at 1 rfl) az)).fM
      refine RL.gs true (decide (ad.cO<=ab.To)) (vp an 4) zr zr zr (eB r7) ?_
      exact RL.nil ⟨rfl,(),hv.pu 8,ha.u,zt,j⟩
     ·rintro D U w hD af al ⟨_,hv,ha,_,j⟩
      obtain⟨O,rfl⟩:=(ac (hv.at 5 rfl (af.2.1 rfl)) (ac (hv.at 8 rfl (af.1 rfl)) az)).fM
      refine RL.gs true (decide (ad.cO<=ab.To)) (vi ad.To) rfl rfl rfl (cC 4 rfl j (fun h=>by exact(cM h:cv (true&&((decide (ad.cO<=ab.To))==true)) (vp an 4)= (vp an 4))) rfl mc cL) ?_
      exact RL.nil ⟨rfl,(),hv.pu 9,ha.u,zt,j⟩
     ·rintro D U w hD af al ⟨_,hv,ha,_,j⟩
      obtain⟨O,rfl⟩:=(ac (hv.at 5 rfl (af.2.2.1 rfl)) (ac (hv.at 7 rfl (af.1 rfl)) (ac (hv.at 9 rfl (af.2.1 rfl)) az))).fM
      refine RL.gs true (decide (ad.cO<=ab.To)) (vb (decide (ab.cO<=ad.To))) rfl rfl rfl (dK .leq .i64 ab.cO ad.To rfl (fun h=>by exact(cM h:cv (true&&((decide (ad.cO<=ab.To))==true)) (vi ab.cO)= (vi ab.cO))) (fun h=>by exact(cM h:cv (true&&((decide (ad.cO<=ab.To))==true)) (vi ad.To)= (vi ad.To))) rfl) ?_
      exact RL.nil ⟨rfl,(),hv.pu 10,ha.u,zt,j⟩
     ·rintro D U w hD af al ⟨_,hv,ha,_,j⟩
      obtain⟨O,rfl⟩:=(ac (hv.at 5 rfl (af.1 rfl)) (ac (hv.at 10 rfl (af.2.1 rfl)) az)).fM
      refine RL.pick (decide (ad.cO<=ab.To)) (vb ((decide (ad.cO<=ab.To))&&(decide (ab.cO<=ad.To)))) (gr true zr) ?_
      exact RL.nil ⟨rfl,(),hv.pu 11,ha.u,zt,j⟩
     rintro D U w a6 ⟨_,hv,ha,_,j⟩
     obtain⟨O,rfl⟩:=(ac (hv.at 19 rfl (kU a6 19)) (ac (ha.at 0 rfl) (ac (ha.at 1 rfl) (ac (ha.at 2 rfl) (ac (ha.at 3 rfl) (ac (ha.at 4 rfl) (ac (ha.at 5 rfl) (ac (ha.at 6 rfl) (ac (ha.at 7 rfl) (ac (ha.at 8 rfl) az)))))))))).fM
     obtain rfl:=oi hj
     exact⟨rfl,j.sp 7 [3,4,5,6]⟩
    obtain⟨ca,cb,hj⟩:=bd hj
    obtain⟨cc,cd,hj⟩:=bd hj
    obtain⟨br,cf,hj⟩:=bd hj
    refine RC.Gq E V mixed [1,0,1,0,1,1,0,0,0,0,0,0,1,0,0,0,0,0,1,1] [13,14,15,16] (fun(x:Value×Value×Value×Value)=>(fun ag ah ai aj=>[(0,79,(vp an 3)),(1,80,(vi ad.cO)),(2,81,(vp au 4)),(3,82,(vi ab.To)),(4,83,(vb (decide (ad.cO<=ab.To)))),(5,84,(vb (decide (ad.cO<=ab.To)))),(6,85,(cv (true&&((decide (ad.cO<=ab.To))==true)) (vp au 3))),(7,86,(cv (true&&((decide (ad.cO<=ab.To))==true)) (vi ab.cO))),(8,87,(cv (true&&((decide (ad.cO<=ab.To))==true)) (vp an 4))),(9,88,(cv (true&&((decide (ad.cO<=ab.To))==true)) (vi ad.To))),(10,89,(cv (true&&((decide (ad.cO<=ab.To))==true)) (vb (decide (ab.cO<=ad.To))))),(11,90,(vb ((decide (ad.cO<=ab.To))&&(decide (ab.cO<=ad.To))))),(12,91,(vb ((decide (ad.cO<=ab.To))&&(decide (ab.cO<=ad.To))))),(13,92,ag),(14,93,ah),(15,94,ai),(16,95,aj),(17,96,(vi br)),(18,97,(vb (br==0))),(19,98,(vb (br==0)))]) x.1 x.2.1 x.2.2.1 x.2.2.2) [(1,vp ao 0),(12,vp an 0),(14,vp au 0),(63,av),(64,vi p0.aN.length),(65,vi ax),(73,a2),(74,vi aw.length),(75,vi a5)] [] (fun(D:Nat->Bool) (x:Value×Value×Value×Value)=>(fun ag ah ai aj=>[bif D 0 then (rd ag ad) else bE,bif D 1 then (rd ah ca) else bE,bif D 2 then (rd ai ab) else bE,bif D 3 then (rd aj cc) else bE,bx 73 au ab,rd bw ab,pt bu ab,bx 27 ao p0,bx 73 an ad,rd av p0.aN,rd a2 aw]) x.1 x.2.1 x.2.2.1 x.2.2.2) (fun x=>by kernel_rfl) ?_ ⟨fun _=>nY gn p4,?_,fun _=>nY gn r7,?_,fun _=>Ka gn rfl,fun _=>jL gn,?_,?_,?_,?_,?_,?_,fun _=>jL gn,?_,?_,?_,?_,?_,fun _=>Ka (gy ar) rfl,fun _=>KW gn ar rfl,trivial⟩ ?_
    ·have j:=((((j.drew).bE).bE).bE).bE
     exact⟨(undef,undef,undef,undef),fR.none,(E3 zr),zt,j⟩
    ·rintro D U w hD af al ⟨⟨ag,ah,ai,aj⟩,hv,ha,_,j⟩
     obtain⟨O,rfl⟩:=(ac (hv.at 0 rfl (af.1 rfl)) az).fM
     refine RL.aM 8 j zr kF cL ?_
     exact RL.nil ⟨rfl,(ag,ah,ai,aj),hv.pu 1,ha.u,zt,j⟩
    ·rintro D U w hD af al ⟨⟨ag,ah,ai,aj⟩,hv,ha,_,j⟩
     obtain⟨O,rfl⟩:=(ac (hv.at 2 rfl (af.1 rfl)) az).fM
     refine RL.aM 4 j zr mc cL ?_
     exact RL.nil ⟨rfl,(ag,ah,ai,aj),hv.pu 3,ha.u,zt,j⟩
    ·rintro D U w hD af al ⟨⟨ag,ah,ai,aj⟩,hv,ha,_,j⟩
     obtain⟨O,rfl⟩:=(ac (hv.at 5 rfl (af.1 rfl)) (ac (ha.at 2 rfl) az)).fM
     refine RL.gs true (decide (ad.cO<=ab.To)) (vp au 3) zr zr zr (eB p4) ?_
     exact RL.nil ⟨rfl,(ag,ah,ai,aj),hv.pu 6,ha.u,zt,j⟩
    ·rintro D U w hD af al ⟨⟨ag,ah,ai,aj⟩,hv,ha,_,j⟩
     obtain⟨O,rfl⟩:=(ac (hv.at 5 rfl (af.2.1 rfl)) (ac (hv.at 6 rfl (af.1 rfl)) az)).fM
     refine RL.gs true (decide (ad.cO<=ab.To)) (vi ab.cO) rfl rfl rfl (cC 4 rfl j (fun h=>by exact(cM h:cv (true&&((decide (ad.cO<=ab.To))==true)) (vp au 3)= (vp au 3))) rfl kF cL) ?_
     exact RL.nil ⟨rfl,(ag,ah,ai,aj),hv.pu 7,ha.u,zt,j⟩
    ·rintro D U w hD af al ⟨⟨ag,ah,ai,aj⟩,hv,ha,_,j⟩
     obtain⟨O,rfl⟩:=(ac (hv.at 5 rfl (af.1 rfl)) (ac (ha.at 1 rfl) az)).fM
     refine RL.gs true (decide (ad.cO<=ab.To)) (vp an 4) zr zr zr (eB r7) ?_
     exact RL.nil ⟨rfl,(ag,ah,ai,aj),hv.pu 8,ha.u,zt,j⟩
    ·rintro D U w hD af al ⟨⟨ag,ah,ai,aj⟩,hv,ha,_,j⟩
     obtain⟨O,rfl⟩:=(ac (hv.at 5 rfl (af.2.1 rfl)) (ac (hv.at 8 rfl (af.1 rfl)) az)).fM
     refine RL.gs true (decide (ad.cO<=ab.To)) (vi ad.To) rfl rfl rfl (cC 8 rfl j (fun h=>by exact(cM h:cv (true&&((decide (ad.cO<=ab.To))==true)) (vp an 4)= (vp an 4))) rfl mc cL) ?_
     exact RL.nil ⟨rfl,(ag,ah,ai,aj),hv.pu 9,ha.u,zt,j⟩
    ·rintro D U w hD af al ⟨⟨ag,ah,ai,aj⟩,hv,ha,_,j⟩
     obtain⟨O,rfl⟩:=(ac (hv.at 5 rfl (af.2.2.1 rfl)) (ac (hv.at 7 rfl (af.1 rfl)) (ac (hv.at 9 rfl (af.2.1 rfl)) az))).fM
     refine RL.gs true (decide (ad.cO<=ab.To)) (vb (decide (ab.cO<=ad.To))) rfl rfl rfl (dK .leq .i64 ab.cO ad.To rfl (fun h=>by exact(cM h:cv (true&&((decide (ad.cO<=ab.To))==true)) (vi ab.cO)= (vi ab.cO))) (fun h=>by exact(cM h:cv (true&&((decide (ad.cO<=ab.To))==true)) (vi ad.To)= (vi ad.To))) rfl) ?_
     exact RL.nil ⟨rfl,(ag,ah,ai,aj),hv.pu 10,ha.u,zt,j⟩
    ·rintro D U w hD af al ⟨⟨ag,ah,ai,aj⟩,hv,ha,_,j⟩
     obtain⟨O,rfl⟩:=(ac (hv.at 5 rfl (af.1 rfl)) (ac (hv.at 10 rfl (af.2.1 rfl)) az)).fM
     refine RL.pick (decide (ad.cO<=ab.To)) (vb ((decide (ad.cO<=ab.To))&&(decide (ab.cO<=ad.To)))) (gr true zr) ?_
     exact RL.nil ⟨rfl,(ag,ah,ai,aj),hv.pu 11,ha.u,zt,j⟩
    ·rintro D U w hD af al ⟨⟨ag,ah,ai,aj⟩,hv,ha,_,j⟩
     obtain⟨O,rfl⟩:=(ac (hv.at 12 rfl (af.1 rfl)) (ac (ha.at 1 rfl) az)).fM
     have j:=j.cD 0 hD
     refine RL.aZ (hg:=(cg ar)) (f:=(fun x=>x)) 8 j zr Fd.self mj fun ch j=>?_
     have j:=(j.pl 12 [0,2,3,4,5,6,7,8,9,10,11]).cR 0 true rfl bE
     exact RL.nil ⟨rfl,(ch,ah,ai,aj),hv.pu 13,ha.u,zt,j⟩
    ·rintro D U w hD af al ⟨⟨ag,ah,ai,aj⟩,hv,ha,_,j⟩
     obtain⟨O,rfl⟩:=(ac (hv.at 12 rfl (af.2.1 rfl)) (ac (hv.at 13 rfl (af.1 rfl)) az)).fM
     have j:=(j.cQ 0 (af.1 rfl)).cD 1 hD
     refine RL.call (cg ar) zr Gu [ag] zr (aD (jr N (i0:=0) j zr cb) ?_)
     rintro cj w j
     have j:=((j.pl 12 [1,0,3,4,5,6,7,8,9,10,11]).cR 0 (D 13) (af.1 rfl) bE).cR 1 true rfl bE
     exact RL.nil ⟨rfl,(ag,cj,ai,aj),hv.pu 14,ha.u,zt,j⟩
    ·rintro D U w hD af al ⟨⟨ag,ah,ai,aj⟩,hv,ha,_,j⟩
     obtain⟨O,rfl⟩:=(ac (hv.at 12 rfl (af.1 rfl)) (ac (ha.at 2 rfl) az)).fM
     have j:=j.cD 2 hD
     refine RL.aZ (hg:=(cg ar)) (f:=(fun x=>x)) 4 j zr Fd.self mj fun ck j=>?_
     have j:=(j.pl 12 [1,2,0,4,5,6,7,8,9,10,11]).cR 2 true rfl bE
     exact RL.nil ⟨rfl,(ag,ah,ck,aj),hv.pu 15,ha.u,zt,j⟩
    ·rintro D U w hD af al ⟨⟨ag,ah,ai,aj⟩,hv,ha,_,j⟩
     obtain⟨O,rfl⟩:=(ac (hv.at 12 rfl (af.2.2.1 rfl)) (ac (hv.at 15 rfl (af.1 rfl)) az)).fM
     have j:=(j.cQ 2 (af.1 rfl)).cD 3 hD
     refine RL.call (cg ar) zr Gu [ai] zr (aD (jr N (i0:=2) j zr cd) ?_)
     rintro cl w j
     have j:=((j.pl 12 [1,2,3,0,5,6,7,8,9,10,11]).cR 2 (D 15) (af.1 rfl) bE).cR 3 true rfl bE
     exact RL.nil ⟨rfl,(ag,ah,ai,cl),hv.pu 16,ha.u,zt,j⟩
    ·rintro D U w hD af al ⟨⟨ag,ah,ai,aj⟩,hv,ha,_,j⟩
     obtain⟨O,rfl⟩:=(ac (hv.at 12 rfl (af.2.2.2.1 rfl)) (ac (hv.at 14 rfl (af.1 rfl)) (ac (hv.at 16 rfl (af.2.1 rfl)) az))).fM
     have j:=(j.cQ 1 (af.1 rfl)).cQ 3 (af.2.1 rfl)
     refine RL.call (cg ar) zr MN [ah,aj] zr (aD (CP N (i0:=1) (i1:=3) j zr zr cf) ?_)
     rintro _ w ⟨rfl,j⟩
     have j:=(j.cR 1 (D 14) (af.1 rfl) bE).cR 3 (D 16) (af.2.1 rfl) bE
     exact RL.nil ⟨rfl,(ag,ah,ai,aj),hv.pu 17,ha.u,zt,j⟩
    rintro D U w a6 ⟨⟨ag,ah,ai,aj⟩,hv,ha,_,j⟩
    have j:=(((j.cQ 0 (kU a6 13)).cQ 1 (kU a6 14)).cQ 2 (kU a6 15)).cQ 3 (kU a6 16)
    obtain⟨O,rfl⟩:=(ac (hv.at 19 rfl (kU a6 19)) (ac (ha.at 0 rfl) (ac (ha.at 1 rfl) (ac (ha.at 2 rfl) (ac (ha.at 3 rfl) (ac (ha.at 4 rfl) (ac (ha.at 5 rfl) (ac (ha.at 6 rfl) (ac (ha.at 7 rfl) (ac (ha.at 8 rfl) az)))))))))).fM
    obtain rfl:=oi hj
    exact⟨rfl,j.sp 11 [7,8,9,10]⟩
   rintro _ w ⟨O,rfl,j⟩
   refine aH (dT o (fun hc o=>?_) fun hc o=>?_)
   rotate_left
   ·refine RC.skip (bP (aH (RC.region (RL.inc hk hm (mv (vi ((a5+1:Nat):Int)) (RL.nil ?_))))))
    obtain rfl:=oi o
    exact⟨rfl,j.sp 4 [0,1,2,3]⟩
   refine RC.sr (aP (.pointer none) (aP (vi 12) (RL.nt (RC.rb (bR ?_)))))
   obtain rfl:=oi o
   exact⟨rfl,qK ⟨rfl,j.drop 4⟩⟩
  ·intro r U w e hK
   subst e
   refine oL (bR ?_)
   obtain rfl:=oi o
   exact⟨rfl,hK⟩
  rintro bo _ w rfl ⟨O,rfl,j⟩
  rw [Fo.cZ] at o
  refine bP (aH (RC.region (RL.inc hk hm (mv (vi ((ax+1:Nat):Int)) (RL.nil ?_)))))
  obtain rfl:=oi o
  exact⟨rfl,j.sp 4 [0,2]⟩
 ·intro r U w e hK
  subst e
  refine bR ?_
  obtain rfl:=oi o
  exact hK
 rintro bn _ w rfl ⟨O,rfl,j⟩
 rw [Fo.cZ] at o
 refine aH (RC.sr (RL.aZ (f:=(fun x=>x)) 0 j zr Fd.self ux fun cm j=>?_))
 obtain⟨cs,hcs,hv224,j⟩:=j.FK (i:=0) rfl rfl
 obtain⟨bf,bg,bh,bj,rfl⟩:=KN hcs
 have j:=(((j.nI (i:=0) (k:=0) (f:=fun x=>x.aJ) rfl jf rfl rfl rfl).nI (i:=1) (k:=1) (f:=fun x=>x.cI) rfl sF rfl rfl rfl).nI (i:=2) (k:=2) (f:=fun x=>x.aN) rfl gM rfl rfl rfl).nI (i:=3) (k:=3) (f:=fun x=>x.bM) rfl lu rfl rfl rfl
 refine RL.Hs (zs:=[(.slice none 0 0),(.slice none 0 0),(.slice none 0 0),(.slice none 0 0),(.slice none 0 0),(.slice none 0 0),(.slice none 0 0),(.slice none 0 0),(.slice none 0 0),(.slice none 0 0),(.slice none 0 0),(.slice none 0 0)]) (cs:=[bf,bg,bh,bj,(.slice none 0 0),(.slice none 0 0),(.slice none 0 0),(.slice none 0 0),(.slice none 0 0),(.slice none 0 0),(.slice none 0 0),(.slice none 0 0)]) zt zr [(0,cm)] [(0,[bf,bg,bh,bj])] zr MO ⟨rfl,(congrArg Value.cells hv224),zt⟩ zr (RL.Cz [bf,bg,bh,bj,(.slice none 0 0),(.slice none 0 0),(.slice none 0 0),(.slice none 0 0),(.slice none 0 0),(.slice none 0 0),(.slice none 0 0),(.slice none 0 0)] zr j zr (xx.all (⟨(nS 3 j),(nS 2 j),(nS 1 j),(nS 0 j),zr,zr,zr,zr,zr,zr,zr,zr,zt⟩:xx [bf,bg,bh,bj,(.slice none 0 0),(.slice none 0 0),(.slice none 0 0),(.slice none 0 0),(.slice none 0 0),(.slice none 0 0),(.slice none 0 0),(.slice none 0 0)])) fun a1 w j=>?_)
 refine aP (vp a1 0) (RL.nq (RC.sr (mv (vp a1 0) ?_)))
 have j:=((((((j.cP (List aA) 91).cP aK 102).pull 0).pull 2).dup 6 rfl).dup 9 rfl).pull 6
 obtain⟨cn,cp,o⟩:=bd o
 refine RL.call zt zr MV [(vp a1 0)] zr (aD (uC N j cp) ?_)
 rintro _ w ⟨cq,cr,rfl,j⟩
 refine RL.not cn.1 (RL.nt (dT o (fun hc o=>?_) fun hc o=>?_))
 ·refine RC.sr (aP (.pointer none) (aP (vi 2) (RL.nt (RC.rt ?_))))
  obtain rfl:=oi o
  exact qK ⟨rfl,j.drop 14⟩
 refine RC.sx (mv (vp a1 0) ?_)
 have j:=(((((j.freeze 2).cP (List Int) 36).pull 0).dup 4 rfl).dup 10 rfl).pull 4
 obtain⟨dc,ct,o⟩:=bd o
 refine RL.call zt zr MY [(vp a1 0)] zr (aD (uD N j ct) ?_)
 rintro _ w ⟨cu,rfl,j⟩
 refine RL.ns (mv (vp a1 0) ?_)
 have j:=((((((((((((j.freeze 1).cP Int 3).cP Int 3).cP Int 3).cP ka 84).pull 0).pull 2).pull 4).pull 6).dup 9 rfl).dup 14 rfl).dup 19 rfl).dup 21 rfl
 have j:=j.pull 12
 obtain⟨dd,cw,o⟩:=bd o
 refine RL.call zt zr M8 [(vp a1 0)] zr (aD (pP N j cw) ?_)
 rintro _ w ⟨cx,cy,cz,c0,c1,rfl,j⟩
 refine RL.ns (mv (vp a1 0) (aP (vp a1 0) (aP (vi 0) (RL.nt (RC.ret ?_)))))
 obtain rfl:=oi o
 exact qK ⟨a1,bf,bg,bh,bj,cq,cr,cu,cx,cy,cz,c0,c1,zr,j.pk 27 [0,22,21,20,19,14,15,11,1,2,3,4,5]⟩
theorem yR {p0:kY} {res: (List bQ)×Int} (j:Holds E w V) (h0:V[i0]? =some (rd v0 p0)) (o:ma N p0=some res):
    Calls bN 4 [v0].toArray w (gJ (uk E V res)):=by
 unfold ma at o
 refine enter Tryz.func4 zr zr ?_
 have j:=j.dup (i0+0) h0
 refine RC.sr (RL.dD 0 v0 j zr fun ai w j=>?_)
 refine aP (.slice none 0 0) (aP (vi 0) (RL.ns (RL.aZ (f:=(fun x=>x)) 0 j zr Fd.self ux fun ag j=>?_)))
 obtain⟨aa,ah,o⟩:=bd o
 refine RL.call zt zr LB [ag] zr (aD (vh N (i0:=0) j zr ah) ?_)
 rintro _ w hK49
 rcases ab:aa.1 with _ | aj
 ·replace o:=KR ab o
  obtain⟨rfl,j⟩:=Jv ab hK49
  refine mv (.tuple #[(.pointer none),(vi aa.2)]) (RL.extract (.pointer none) (RL.extract (vi aa.2) (aP (.pointer none) (aP (vi aa.2) (RL.nq (RC.sr (mv (vi aa.2) (ic aa.2 0 ?_))))))))
  refine RL.nt (dT o (fun hc o=>?_) fun hc o=>?_)
  rotate_left
  ·cases o
  refine RC.sr (mv (vi aa.2) (aP (.slice none 0 0) (aP (vi aa.2) (RL.nt (RC.rt ?_)))))
  obtain rfl:=oi o
  have j:=j.cP bQ 39
  exact qK ⟨(.slice none 0 0),zr,j.pk 4 [0]⟩
 replace o:=KS ab o
 obtain⟨ad,ak,al,an,ao,aq,ar,au,af,av,aw,ax,ay,rfl,j⟩:=Jw ab hK49
 refine mv (.tuple #[(vp ad 0),(vi aa.2)]) (RL.extract (vp ad 0) (RL.extract (vi aa.2) (aP (vp ad 0) (aP (vi aa.2) (RL.nq (RC.sr (mv (vi aa.2) (ic aa.2 0 ?_))))))))
 refine RL.nt (dT o (fun hc o=>?_) fun hc o=>?_)
 ·refine RC.sr (mv (vi aa.2) (aP (.slice none 0 0) (aP (vi aa.2) (RL.nt (RC.rt ?_)))))
  obtain rfl:=oi o
  have j:=j.cP bQ 39
  exact qK ⟨(.slice none 0 0),zr,j.pk 17 [0]⟩
 refine RC.sx (mv (vp ad 0) (RL.nilCheck zr (RL.aX zr uW (RL.bF 0 af j pI (aP af (aP (vi 0) (RL.nt (RC.ret ?_))))))))
 obtain rfl:=oi o
 exact qK ⟨af,zr,j.pk 16 [8]⟩
theorem sP {res:Bool} (o:Holds E w V) (j:mJ N p0 p1 p2=some res):
    Calls bN 123 [(vi p0),(vi p1),(vi p2)].toArray w (gJ (aU E V res)):=by
 unfold mJ at j
 refine enter Tryz.func123 zr zr (RC.sr (aP (vb false) (RL.ns (mv (vi p0) (mv (vi p1) (ic p0 p1 (mv (vb (decide (p0>=p1))) (RL.gs true (decide (p0>=p1)) (vi p0) zr zr zr cH ?_))))))))
 refine RL.gs true (decide (p0>=p1)) (vi p2) rfl rfl rfl cH (RL.gs true (decide (p0>=p1)) (vb (decide (p0<=p2))) rfl rfl rfl (dK .leq .i64 p0 p2 rfl (fun h=>by exact(cM h:cv (true&&((decide (p0>=p1))==true)) (vi p0)= (vi p0))) (fun h=>by exact(cM h:cv (true&&((decide (p0>=p1))==true)) (vi p2)= (vi p2))) rfl) (RL.pick (decide (p0>=p1)) (vb ((decide (p0>=p1))&&(decide (p0<=p2)))) (gr true rfl) (aP (vb ((decide (p0>=p1))&&(decide (p0<=p2)))) (RL.nt (RC.ret ?_)))))
 obtain rfl:=oi j
 exact bY ⟨rfl,o.drop 0⟩
theorem eN {res:Bool} (o:Holds E w V) (j:cS N p0=some res):
    Calls bN 101 [(vi p0)].toArray w (gJ (aU E V res)):=by
 unfold cS at j
 refine enter Tryz.func101 zr zr (RC.sr (aP (vb false) (RL.ns (mv (vi p0) ?_))))
 obtain⟨aa,ab,j⟩:=bd j
 refine RL.call zt zr LC [(vi p0),(vi (-1000000)),(vi 1000000)] zr (aD (sP N (p0:=p0) (p1:=(-1000000)) (p2:=1000000) o ab) ?_)
 rintro _ w ⟨rfl,o⟩
 refine aP (vb aa) (RL.nt (RC.ret ?_))
 obtain rfl:=oi j
 exact bY ⟨rfl,o.drop 0⟩
def qZ (E:World) (V:List HP) (r:Int) (U:Nat->Value) (w:World):Prop:=lG bN 52 Tryz.f97 (aY E V r) .ret U w
theorem qs {p0: (List aI)} (o:Holds E w V) (h0:V[i0]? =some (rd v0 p0)) (hb:gY N p0=some res):
    Calls bN 97 [v0].toArray w (gJ (aY E V res)):=by
 unfold gY at hb
 refine enter Tryz.func97 zr zr ?_
 have o:=o.dup (i0+0) h0
 refine RC.sr (aP (vi 0) (RL.nq (RC.sr (mv v0 (RL.bB 0 p0 o nC (ic ((p0.length:Int)) 2000 (RL.nt (dT hb (fun hc hb=>?_) fun hc hb=>?_))))))))
 ·refine RC.sr (aP (vi 2) (RL.nt (RC.rt ?_)))
  obtain rfl:=oi hb
  exact bY ⟨rfl,o.drop 1⟩
 refine RC.ss (RC.sr (aP (vi 0) (RL.nt ?_)))
 obtain⟨az,hN,hb⟩:=bd hb
 refine RC.iter (fun(ad:Int)=>SH E V [(0,v0),(3,vi ad)] [rd v0 p0]) (fun(ad:Int)=>SH E V [] [rd v0 p0]) (qZ E V) hN ?_ ?_ ?_ ?_
 ·exact o.sp 1 [0]
 ·rintro ad fl _ w ⟨O,rfl,o⟩ hb
  refine RC.seq (RC.sr (mv (vi ad) (mv v0 (RL.bB 0 p0 o nC (ic ad ((p0.length:Int)) (RL.nt (dT hb (fun hc hb=>?_) fun hc hb=>?_)))))))
  rotate_left
  ·refine RC.ex ?_
   obtain rfl:=oi hb
   exact⟨rfl,o.sp 1 [0]⟩
  refine RC.ss (RC.bs (mv v0 (mv (vi ad) ?_)))
  obtain⟨j,ar,hb⟩:=bd hb
  refine RL.bO 0 o jm ar fun a1 o=>(RL.bJ 0 j o iK fun a2 o=>(RL.alloc o oR.z fun ah w o=>?_))
  refine RL.bZ 0 o 1 zr iK fun w o=>?_
  refine RL.nq (RC.seq ?_)
  obtain⟨aj,hj,hb⟩:=bd hb
  refine RC.jn (fun(aj:Bool)=>SH E V [(0,v0),(3,vi ad),(4,vp ah 0),(39,vb aj)] [rd v0 p0,bx 69 ah j]) aj ?_ ?_
  ·refine RC.region (RL.aX zr iw (RL.aM 0 o zr dQ cL ?_))
   obtain⟨an,au,hj⟩:=bd hj
   refine RL.call zt zr wm [(vi j.X0)] zr (aD (eN N (p0:=j.X0) o au) ?_)
   rintro _ w ⟨rfl,o⟩
   refine RL.not an (mv (vb (!an)) (fA hj (fun ae hj=>?_) fun ae hj=>?_))
   ·refine bC ae (bC ae (bC ae (bC ae (fB ae (vb true) (mv (vb true) (kc (kc (kc ?_))))))))
    refine kc (RL.pick true (vb true) zr (mv (vb true) (kc (kc (kc (kc (RL.pick true (vb true) zr (RL.nil ?_))))))))
    obtain rfl:=oi hj
    exact⟨rfl,o.sp 4 [3,0]⟩
   refine RL.aX (hg:=(cg ae)) zr g8 (RL.aM (hg:=(cg ae)) 0 o zr dH cL ?_)
   obtain⟨ak,av,hj⟩:=bd hj
   refine RL.call (cg ae) zr wm [(vi j.Y0)] zr (aD (eN N (p0:=j.Y0) o av) ?_)
   rintro _ w ⟨rfl,o⟩
   refine RL.not (hg:=(cg ae)) ak (fB ae (vb (!ak)) (mv (vb (!ak)) (fA hj (fun af hj=>?_) fun af hj=>?_)))
   ·refine bC af (bC af (bC af (bC af (fB af (vb true) (mv (vb true) (kc (kc (kc ?_))))))))
    refine kc (RL.pick true (vb true) zr (RL.nil ?_))
    obtain rfl:=oi hj
    exact⟨rfl,o.sp 4 [3,0]⟩
   refine RL.aX (hg:=(cg af)) zr jo (RL.aM (hg:=(cg af)) 0 o zr eJ cL ?_)
   obtain⟨al,aw,hj⟩:=bd hj
   refine RL.call (cg af) zr wm [(vi j.X1)] zr (aD (eN N (p0:=j.X1) o aw) ?_)
   rintro _ w ⟨rfl,o⟩
   refine RL.not (hg:=(cg af)) al (fB af (vb (!al)) (mv (vb (!al)) (fA hj (fun ag hj=>?_) fun ag hj=>?_)))
   ·refine bC ag (bC ag (bC ag (bC ag (fB ag (vb true) (RL.nil ?_)))))
    obtain rfl:=oi hj
    exact⟨rfl,o.sp 4 [3,0]⟩
   refine RL.aX (hg:=(cg ag)) zr kA (RL.aM (hg:=(cg ag)) 0 o zr fJ cL ?_)
   obtain⟨ao,ax,hj⟩:=bd hj
   refine RL.call (cg ag) zr wm [(vi j.Y1)] zr (aD (eN N (p0:=j.Y1) o ax) ?_)
   rintro _ w ⟨rfl,o⟩
   refine RL.not (hg:=(cg ag)) ao (fB ag (vb (!ao)) (RL.nil ?_))
   obtain rfl:=oi hj
   exact⟨rfl,o.sp 4 [3,0]⟩
  rintro _ w ⟨O,rfl,o⟩
  refine aH (dT hb (fun hc hb=>?_) fun hc hb=>?_)
  ·refine RC.sr (aP (vi 1) (RL.nt (RC.rt (oL (bR ?_)))))
   obtain rfl:=oi hb
   exact⟨rfl,bY ⟨rfl,o.drop 2⟩⟩
  refine RC.sx (RL.aX rfl jo (RL.aM 1 o rfl eJ cL (RL.aX rfl iw (RL.aM 1 o rfl dQ cL (ic j.X1 j.X0 (mv (vb (decide (j.X1<=j.X0))) (RL.gs true (decide (j.X1<=j.X0)) (vp ah 3) rfl rfl rfl (eB kA) (RL.gs true (decide (j.X1<=j.X0)) (vi j.Y1) rfl rfl rfl (cC 1 rfl o (fun h=>by exact(cM h:cv (true&&((decide (j.X1<=j.X0))==false)) (vp ah 3)= (vp ah 3))) rfl fJ cL) ?_))))))))
  refine RL.gs true (decide (j.X1<=j.X0)) (vp ah 1) rfl rfl rfl (eB g8) (RL.gs true (decide (j.X1<=j.X0)) (vi j.Y0) rfl rfl rfl (cC 1 rfl o (fun h=>by exact(cM h:cv (true&&((decide (j.X1<=j.X0))==false)) (vp ah 1)= (vp ah 1))) rfl dH cL) (RL.gs true (decide (j.X1<=j.X0)) (vb (decide (j.Y1<=j.Y0))) rfl rfl rfl (dK .leq .i64 j.Y1 j.Y0 rfl (fun h=>by exact(cM h:cv (true&&((decide (j.X1<=j.X0))==false)) (vi j.Y1)= (vi j.Y1))) (fun h=>by exact(cM h:cv (true&&((decide (j.X1<=j.X0))==false)) (vi j.Y0)= (vi j.Y0))) rfl) (RL.pick (decide (j.X1<=j.X0)) (vb ((decide (j.X1<=j.X0))||(decide (j.Y1<=j.Y0)))) (oh true) (RL.nt (dT hb (fun hc hb=>?_) fun hc hb=>?_)))))
  ·refine RC.sr (aP (vi 13) (RL.nt (RC.rb (bR ?_))))
   obtain rfl:=oi hb
   exact⟨rfl,bY ⟨rfl,o.drop 2⟩⟩
  refine RC.skip (bP (aH (RC.region (mv (vi ad) (RL.gk ad 1 (aP (vi (IntKind.wrap .i64 (ad+1))) (RL.nil ?_)))))))
  obtain rfl:=oi hb
  exact⟨rfl,o.sp 2 [0]⟩
 ·intro r U w e hK
  subst e
  refine bR ?_
  obtain rfl:=oi hb
  exact hK
 rintro ad _ w rfl ⟨O,rfl,o⟩
 rw [Fo.cZ] at hb
 refine aH (RC.sr (aP (vi 0) (RL.nt (RC.ret ?_))))
 obtain rfl:=oi hb
 exact bY ⟨rfl,o.drop 1⟩
end Go.Gk
