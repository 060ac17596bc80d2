/-
  Printed texts: Go functions as plain functions, and that they are. No statement of the seed is proved here.
-/
import Derived.Test.YtmmiladckdcjeaaGreatDoorG1
import Derived.Test.YtmmiladckdcjeaaGreatDoorG2
import Derived.Test.YtmmiladckdcjeaaGreatDoorG3
import Derived.Test.YtmmiladckdcjeaaGreatDoorA2
set_option linter.unusedVariables false
set_option linter.unusedSimpArgs false
set_option linter.unusedSectionVars false
set_option maxRecDepth 100000
set_option maxHeartbeats 4000000
namespace Go.Gk
open Go Go.Proofs
variable (N:Nat) {E w:World} {b0 i0:Nat} {p0 p1 p2:Int} {v0 v0_0 v0_1 v0_10 v0_11 v0_2 v0_3 v0_4 v0_5 v0_6 v0_8 v0_9:Value} {V:List HP}
def pH (E:World) (V:List HP) (b0:Nat) (v0_0 v0_1:Value) (v0_2 v0_3:Value) (v0_4 v0_5 v0_6:Value) (res: (List cC)×(List Int)×(List Int)×(List Int)×(List km)) (v:Value) (w:World):Prop:=∃u0_7 u0_8 u0_9 u0_10 u0_11:Value,v = .tuple #[]/\Holds E w ([bc 44 b0 [v0_0,v0_1,v0_2,v0_3,v0_4,v0_5,v0_6,u0_7,u0_8,u0_9,u0_10,u0_11],own 47 u0_7 res.1,rd u0_8 res.2.1,rd u0_9 res.2.2.1,own 3 u0_10 res.2.2.2.1,own 98 u0_11 res.2.2.2.2]++V)
theorem po {p0_2: (List cE)} {p0_3: (List fW)} {p0_5: (List aK)} {p0_6: (List (List Int))} {p0_8: (List Int)} {p0_9: (List Int)} {p0_10: (List Int)} {p0_11: (List km)} {res: (List cC)×(List Int)×(List Int)×(List Int)×(List km)} (o:Holds E w (bc 44 b0 [v0_0,v0_1,v0_2,v0_3,v0_4,v0_5,v0_6,(.slice none 0 0),v0_8,v0_9,v0_10,v0_11]::rd v0_2 p0_2::rd v0_3 p0_3::rd v0_5 p0_5::rd v0_6 p0_6::own 3 v0_8 p0_8::own 3 v0_9 p0_9::own 3 v0_10 p0_10::own 98 v0_11 p0_11::V)) (hb:gu N p0_2 p0_3 p0_5 p0_6 p0_8 p0_9 p0_10 p0_11=some res):
    Calls bO 22 [(vp b0 0)].toArray w (gW (pH E V b0 v0_0 v0_1 v0_2 v0_3 v0_4 v0_5 v0_6 res)):=by
 unfold gu at hb
 refine enter Tryz.func22 zr zr (RC.sr (mv (vp b0 0) (RL.nilCheck zr (RL.aX zr yc (RL.bI 0 v0_5 o FQ (RL.bA 3 p0_5 o Ih (aQ (vi p0_5.length) (RL.ns ?_))))))))
 refine mv (vi p0_5.length) (mv (vp b0 0) (RL.nilCheck zr (RL.aX zr sY (RL.aX zr gK (RL.bI 0 v0_2 o mZ (RL.bA 1 p0_2 o um (RL.gl (p0_5.length:Int) (p0_2.length:Int) ?_)))))))
 obtain⟨e6,ds,hb⟩:=bd hb
 refine RL.call zt zr Ms [(vi (IntKind.wrap .i64 ((p0_5.length:Int)+ (p0_2.length:Int))))] zr (aD (vE N (p0:=(IntKind.wrap .i64 ((p0_5.length:Int)+ (p0_2.length:Int)))) o ds) ?_)
 rintro _ w ⟨a9,dt,rfl,o⟩
 refine aQ (vp a9 0) (RL.nq (RC.sr (mv (vp b0 0) (RL.nilCheck zr (RL.aX zr B7 (RL.bI 2 v0_6 o w9 (RL.bA 6 p0_6 o FR (mv (vi 0) ?_))))))))
 refine RL.nt ?_
 obtain⟨bz,hN,hb⟩:=bd hb
 refine RC.fold (fun(bj:Nat) (bz: (List Int)) U w=>∃c5:Value,SH E V [(0,vp b0 0),(2,vi p0_5.length),(3,vp a9 0),(35,v0_6),(36,vi p0_6.length),(37,vi bj)] [bc 44 b0 [v0_0,v0_1,v0_2,v0_3,v0_4,v0_5,v0_6,(.slice none 0 0),v0_8,v0_9,v0_10,v0_11],rd v0_2 p0_2,rd v0_3 p0_3,rd v0_5 p0_5,rd v0_6 p0_6,own 3 v0_8 p0_8,own 3 v0_9 p0_9,own 3 v0_10 p0_10,own 98 v0_11 p0_11,bc 132 a9 [c5],own 3 c5 bz] U w) (fun(bz: (List Int)) U w=>∃ca:Value,SH E V [(0,vp b0 0),(2,vi p0_5.length),(3,vp a9 0)] [bc 44 b0 [v0_0,v0_1,v0_2,v0_3,v0_4,v0_5,v0_6,(.slice none 0 0),v0_8,v0_9,v0_10,v0_11],rd v0_2 p0_2,rd v0_3 p0_3,rd v0_5 p0_5,rd v0_6 p0_6,own 3 v0_8 p0_8,own 3 v0_9 p0_9,own 3 v0_10 p0_10,own 98 v0_11 p0_11,bc 132 a9 [ca],own 3 ca bz] U w) hN ?_ ?_ ?_ ?_
 ·exact⟨dt,o.sp 11 [2,3,4,5,6,7,8,9,10,0,1]⟩
 ·rintro hm bz _ w ⟨du,O,rfl,o⟩
  refine RC.sr (ic ((p0_6.length:Int)) ((p0_6.length:Int)) (RL.nq (RC.fO tG (RC.ex ?_))))
  exact⟨rfl,du,o.sp 11 [0,1,2,3,4,5,6,7,8,9,10]⟩
 ·rintro hm bj bz s' _ w hk ⟨dv,O,rfl,o⟩ hb
  refine RC.sr (ic ((bj:Int)) ((p0_6.length:Int)) (RL.nq (RC.fN (tF hk) (RC.ss (RC.bs (mv (vi bj) ?_))))))
  obtain⟨bt,dw,hb⟩:=bd hb
  refine RL.bP 4 o yd dw fun e7 o=>(RL.bL 0 bt o eY fun cb o=>(aQ (vi bj) (aQ cb (RL.ns (mv cb (RL.bA 0 bt o ly (mv (vi 0) (RL.nt ?_))))))))
  obtain⟨b4,hN,hb⟩:=bd hb
  refine RC.fold (fun(cf:Nat) (b4: (List Int)) U w=>∃c6:Value,SH E V [(0,vp b0 0),(2,vi p0_5.length),(3,vp a9 0),(4,vi bj),(35,v0_6),(36,vi p0_6.length),(37,vi bj),(42,cb),(43,vi bt.length),(44,vi cf)] [bc 44 b0 [v0_0,v0_1,v0_2,v0_3,v0_4,v0_5,v0_6,(.slice none 0 0),v0_8,v0_9,v0_10,v0_11],rd v0_2 p0_2,rd v0_3 p0_3,rd v0_5 p0_5,rd v0_6 p0_6,own 3 v0_8 p0_8,own 3 v0_9 p0_9,own 3 v0_10 p0_10,own 98 v0_11 p0_11,bc 132 a9 [c6],own 3 c6 b4,rd cb bt] U w) (fun(b4: (List Int)) U w=>∃cg:Value,SH E V [(0,vp b0 0),(2,vi p0_5.length),(3,vp a9 0),(35,v0_6),(36,vi p0_6.length),(37,vi bj)] [bc 44 b0 [v0_0,v0_1,v0_2,v0_3,v0_4,v0_5,v0_6,(.slice none 0 0),v0_8,v0_9,v0_10,v0_11],rd v0_2 p0_2,rd v0_3 p0_3,rd v0_5 p0_5,rd v0_6 p0_6,own 3 v0_8 p0_8,own 3 v0_9 p0_9,own 3 v0_10 p0_10,own 98 v0_11 p0_11,bc 132 a9 [cg],own 3 cg b4,rd cb bt] U w) hN ?_ ?_ ?_ ?_
  ·exact⟨dv,o.sp 13 [2,3,4,5,6,7,8,9,10,11,12,0]⟩
  ·rintro hm b4 _ w ⟨dx,O,rfl,o⟩
   refine RC.sr (ic ((bt.length:Int)) ((bt.length:Int)) (RL.nq (RC.fO tG (RC.ex ?_))))
   exact⟨rfl,dx,o.sp 12 [0,1,2,3,4,5,6,7,8,9,10,11]⟩
  ·rintro hm cf b4 s' _ w hk ⟨e8,O,rfl,o⟩ hb
   refine RC.sr (ic ((cf:Int)) ((bt.length:Int)) (RL.nq (RC.fN (tF hk) (RC.ss (RC.bs ?_)))))
   obtain⟨cc,dy,hb⟩:=bd hb
   refine RL.bP 11 o dW dy fun e9 o=>(RL.bD cc 0 o cJ (aQ (vi cc) (RL.nt (RC.region (mv (vp a9 0) (mv (vi cc) (mv (vi p0_5.length) (mv (vi bj) ?_))))))))
   refine RL.gl (p0_5.length:Int) (bj:Int) ?_
   have o:=(o.pull 11).pull 11
   obtain⟨fa,dz,hb⟩:=bd hb
   refine RL.call zt zr Mt [(vp a9 0),(vi cc),(vi (IntKind.wrap .i64 ((p0_5.length:Int)+ (bj:Int))))] zr (aD (tW N (p1:=cc) (p2:=(IntKind.wrap .i64 ((p0_5.length:Int)+ (bj:Int)))) o dz) ?_)
   rintro _ w ⟨d3,rfl,o⟩
   refine RL.nil (bM (aH (RC.region (RL.inc hk hm (mv (vi ((cf+1:Nat):Int)) (RL.nil ?_))))))
   obtain rfl:=oi hb
   exact⟨rfl,d3,o.sp 15 [3,4,5,6,7,8,9,10,11,0,1,14]⟩
  rintro _ w ⟨cg,O,rfl,o⟩
  refine bM (aH (RC.region (RL.inc hk hm (mv (vi ((bj+1:Nat):Int)) (RL.nil ?_)))))
  obtain rfl:=oi hb
  exact⟨rfl,cg,o.sp 12 [0,1,2,3,4,5,6,7,8,9,10]⟩
 rintro _ w ⟨ca,O,rfl,o⟩
 refine aH (RC.seq ?_)
 obtain⟨d4,d5,hb⟩:=bd hb
 obtain⟨d6,d7,hb⟩:=bd hb
 refine RC.FJ E V mixed [1,1,1,0,1,1,1,1,0,0,0,1,1,0,1,1,0] [3,10,13,16] (fun(x:Value×Value)=>(fun al an=>[(0,56,(vp b0 0)),(1,57,(vp b0 0)),(2,58,(vi p0_5.length)),(3,59,al),(4,60,(vp b0 0)),(5,61,(vp b0 0)),(6,62,(vp b0 0)),(7,63,(vp b0 2)),(8,64,v0_2),(9,65,(vi p0_2.length)),(10,66,an),(11,67,(vp b0 0)),(12,68,(vp b0 8)),(14,69,(vp b0 0)),(15,70,(vp b0 9))]) x.1 x.2) [(0,vp b0 0),(2,vi p0_5.length),(3,vp a9 0)] [] (fun(D:Nat->Bool) (x:Value×Value)=>(fun al an=>[bif D 0 then (own 3 al d4) else bC,bif D 1 then (own 3 an d6) else bC,bif D 3 then (bc 44 b0 [v0_0,v0_1,v0_2,v0_3,v0_4,v0_5,v0_6,(.slice none 0 0),al,an,v0_10,v0_11]) else (bif D 2 then (bc 44 b0 [v0_0,v0_1,v0_2,v0_3,v0_4,v0_5,v0_6,(.slice none 0 0),al,v0_9,v0_10,v0_11]) else (bc 44 b0 [v0_0,v0_1,v0_2,v0_3,v0_4,v0_5,v0_6,(.slice none 0 0),v0_8,v0_9,v0_10,v0_11])),rd v0_2 p0_2,rd v0_3 p0_3,rd v0_5 p0_5,rd v0_6 p0_6,own 3 v0_8 p0_8,own 3 v0_9 p0_9,own 3 v0_10 p0_10,own 98 v0_11 p0_11,bc 132 a9 [ca],own 3 ca bz]) x.1 x.2) (fun x=>by kernel_rfl) ?_ ⟨fun _=>jF gn,fun _=>jF gn,fun _=>jF gn,?_,fun _=>jF gn,fun _=>wT gn,fun _=>nK gn sY,fun _=>nK gn gK,?_,?_,?_,fun _=>wT gn,fun _=>nK gn B8,?_,fun _=>wT gn,fun _=>nK gn B9,?_,trivial⟩ ?_
 ·have o:=((o.drew).bC).bC
  exact⟨(undef,undef),fP.none,(Eu zr),zt,o⟩
 ·rintro D U w hD ae ab ⟨⟨al,an⟩,hv,ha,_,o⟩
  obtain⟨O,rfl⟩:=(ac (hv.at 2 rfl (ae.1 rfl)) az).fH
  have o:=((o.cB 0 hD).cB 2 (nh ab hD 16)).cB 2 (nh ab hD 13)
  refine RL.mk (p0_5.length:Int) o pC Kr d5 fun cv w o=>?_
  have o:=(((o.pl 14 [0,2,3,4,5,6,7,8,9,10,11,12,13]).cQ 0 true rfl bC).eW 2 (D 13) (nh ab hD 13) (bc 44 b0 [v0_0,v0_1,v0_2,v0_3,v0_4,v0_5,v0_6,(.slice none 0 0),cv,v0_9,v0_10,v0_11])).eW 2 (D 16) (nh ab hD 16) (bc 44 b0 [v0_0,v0_1,v0_2,v0_3,v0_4,v0_5,v0_6,(.slice none 0 0),cv,an,v0_10,v0_11])
  exact RL.nil ⟨rfl,(cv,an),hv.pu 3,ha.u,zt,o⟩
 ·rintro D U w hD ae ab ⟨⟨al,an⟩,hv,ha,_,o⟩
  obtain⟨O,rfl⟩:=(ac (hv.at 7 rfl (ae.1 rfl)) az).fH
  have o:=(o.cB 2 (nh ab hD 16)).cB 2 (nh ab hD 13)
  refine RL.bI 2 v0_2 o mZ ?_
  have o:=(o.eW 2 (D 13) (nh ab hD 13) (bc 44 b0 [v0_0,v0_1,v0_2,v0_3,v0_4,v0_5,v0_6,(.slice none 0 0),al,v0_9,v0_10,v0_11])).eW 2 (D 16) (nh ab hD 16) (bc 44 b0 [v0_0,v0_1,v0_2,v0_3,v0_4,v0_5,v0_6,(.slice none 0 0),al,an,v0_10,v0_11])
  exact RL.nil ⟨rfl,(al,an),hv.pu 8,ha.u,zt,o⟩
 ·rintro D U w hD ae ab ⟨⟨al,an⟩,hv,ha,_,o⟩
  obtain⟨O,rfl⟩:=(ac (hv.at 8 rfl (ae.1 rfl)) az).fH
  refine RL.bA 3 p0_2 o um ?_
  exact RL.nil ⟨rfl,(al,an),hv.pu 9,ha.u,zt,o⟩
 ·rintro D U w hD ae ab ⟨⟨al,an⟩,hv,ha,_,o⟩
  obtain⟨O,rfl⟩:=(ac (hv.at 9 rfl (ae.1 rfl)) az).fH
  have o:=(o.cB 1 hD).cB 2 (nh ab hD 16)
  refine RL.mk (p0_2.length:Int) o pC Kr d7 fun c7 w o=>?_
  have o:=((o.pl 14 [1,0,3,4,5,6,7,8,9,10,11,12,13]).cQ 1 true rfl bC).eW 2 (D 16) (nh ab hD 16) (bc 44 b0 [v0_0,v0_1,v0_2,v0_3,v0_4,v0_5,v0_6,(.slice none 0 0),al,c7,v0_10,v0_11])
  exact RL.nil ⟨rfl,(al,c7),hv.pu 10,ha.u,zt,o⟩
 ·rintro D U w hD ae ab ⟨⟨al,an⟩,hv,ha,_,o⟩
  obtain⟨O,rfl⟩:=(ac (hv.at 3 rfl (ae.2.1 rfl)) (ac (hv.at 12 rfl (ae.1 rfl)) az)).fH
  have o:=((o.cP 0 (ae.2.1 rfl)).cB 2 (nh ab hD 16)).cB 2 hD
  refine RL.iw 2 al o zr zr (iM 0 o) eY fun w o=>?_
  have o:=((o.cQ 0 (D 3) (ae.2.1 rfl) bC).cQ 2 true rfl (bc 44 b0 [v0_0,v0_1,v0_2,v0_3,v0_4,v0_5,v0_6,(.slice none 0 0),v0_8,v0_9,v0_10,v0_11])).eW 2 (D 16) (nh ab hD 16) (bc 44 b0 [v0_0,v0_1,v0_2,v0_3,v0_4,v0_5,v0_6,(.slice none 0 0),al,an,v0_10,v0_11])
  exact RL.nil ⟨rfl,(al,an),hv.n1,ha,zt,o⟩
 ·rintro D U w hD ae ab ⟨⟨al,an⟩,hv,ha,_,o⟩
  obtain⟨O,rfl⟩:=(ac (hv.at 10 rfl (ae.2.1 rfl)) (ac (hv.at 14 rfl (ae.1 rfl)) az)).fH
  have o:=((o.cP 1 (ae.2.1 rfl)).cB 2 hD).cP 2 (ae.2.2.1 rfl)
  refine RL.iw 2 an o zr zr (iM 1 o) eY fun w o=>?_
  have o:=(o.cQ 1 (D 10) (ae.2.1 rfl) bC).cQ 2 true rfl (bif D 13 then (bc 44 b0 [v0_0,v0_1,v0_2,v0_3,v0_4,v0_5,v0_6,(.slice none 0 0),al,v0_9,v0_10,v0_11]) else (bc 44 b0 [v0_0,v0_1,v0_2,v0_3,v0_4,v0_5,v0_6,(.slice none 0 0),v0_8,v0_9,v0_10,v0_11]))
  exact RL.nil ⟨rfl,(al,an),hv.n1,ha,zt,o⟩
 rintro D U w a7 ⟨⟨al,an⟩,hv,ha,_,o⟩
 have o:=((o.cP 0 (kQ a7 3)).cP 1 (kQ a7 10)).cP 2 (kQ a7 16)
 obtain⟨O,rfl⟩:=(ac (ha.at 0 rfl) (ac (ha.at 1 rfl) (ac (ha.at 2 rfl) az))).fH
 refine aH (RC.seq (RC.sr (mv (vp a9 0) ?_)))
 have o:=(o.pull 12).pull 12
 obtain⟨a8,d8,hb⟩:=bd hb
 refine RL.call zt zr Mu [(vp a9 0)] zr (aD (tX N o d8) ?_)
 rintro bk w ⟨_,fb,rfl,o⟩
 refine RL.fS 0 a8.1 o FR (mv (vi 0) (RL.nt ?_))
 obtain⟨a5,hN,hb⟩:=bd hb
 refine RC.fold (fun(bo:Nat) (a5: (List cC)×(List Int)×(List Int)) U w=>∃(c8:Value) (us442:List aT),SH E V [(0,vp b0 0),(2,vi p0_5.length),(72,bk),(73,vi a8.1.length),(74,vi bo)] [bc 44 b0 [v0_0,v0_1,v0_2,v0_3,v0_4,v0_5,v0_6,c8,al,an,v0_10,v0_11],own 47 c8 us442,iu aU us442 a5.1 none,rd v0_2 p0_2,rd v0_3 p0_3,rd v0_5 p0_5,rd v0_6 p0_6,own 3 al a5.2.1,own 3 an a5.2.2,own 3 v0_10 p0_10,own 98 v0_11 p0_11,own 28 bk a8.1] U w) (fun(a5: (List cC)×(List Int)×(List Int)) U w=>∃(aj:Value) (us444:List aT),SH E V [(0,vp b0 0)] [bc 44 b0 [v0_0,v0_1,v0_2,v0_3,v0_4,v0_5,v0_6,aj,al,an,v0_10,v0_11],own 47 aj us444,iu aU us444 a5.1 none,rd v0_2 p0_2,rd v0_3 p0_3,rd v0_5 p0_5,rd v0_6 p0_6,own 3 al a5.2.1,own 3 an a5.2.2,own 3 v0_10 p0_10,own 98 v0_11 p0_11,own 28 bk a8.1] U w) hN ?_ ?_ ?_ ?_
 ·have o:=(o.zq aU).cO aT 47
  exact⟨(.slice none 0 0),([]:List aT),o.sp 18 [7,0,1,8,9,10,11,5,6,14,15,2]⟩
 ·rintro hm a5 _ w ⟨d9,us604,O,rfl,o⟩
  refine RC.sr (ic ((a8.1.length:Int)) ((a8.1.length:Int)) (RL.nq (RC.fO tG (RC.ex ?_))))
  exact⟨rfl,d9,us604,o.sp 12 [0,1,2,3,4,5,6,7,8,9,10,11]⟩
 ·rintro hm bo a5 s' _ w hk ⟨bg,us446,O,rfl,o⟩ hb
  refine RC.sr (ic ((bo:Int)) ((a8.1.length:Int)) (RL.nq (RC.fN (tF hk) (RC.ss (RC.bs ?_)))))
  obtain⟨bm,cw,hb⟩:=bd hb
  refine RL.bQ 11 o zr zr yd cw (RL.ju (f:=(fun x=>x)) 11 o (jg 11 o cw 0) (bF cw).2.1 Fd.self eY fun bp o=>?_)
  refine aQ bp (RL.ns (RL.uc zr o JK zr fun bu w o=>?_))
  refine RL.nq (RC.sr (mv bp (RL.bA 1 bm o ly (mv (vi 0) (RL.nt ?_)))))
  obtain⟨ar,hN,hb⟩:=bd hb
  refine RC.fold (fun(b5:Nat) (ar: (List Int)×(List Int)×(List Int)×(List Int)) U w=>∃c9 da:Value,SH E V [(0,vp b0 0),(2,vi p0_5.length),(10,vp bu 0),(72,bk),(73,vi a8.1.length),(74,vi bo),(78,bp),(79,vi bm.length),(80,vi b5)] [bc 44 b0 [v0_0,v0_1,v0_2,v0_3,v0_4,v0_5,v0_6,bg,al,an,v0_10,v0_11],rd v0_2 p0_2,rd v0_3 p0_3,rd v0_5 p0_5,rd v0_6 p0_6,own 47 bg us446,iu aU us446 a5.1 none,own 3 al ar.1,own 3 an ar.2.1,own 3 v0_10 p0_10,own 98 v0_11 p0_11,bc 47 bu [c9,da,(.slice none 0 0)],own 3 c9 ar.2.2.1,own 3 da ar.2.2.2,own 28 bk a8.1,rd bp bm] U w) (fun(ar: (List Int)×(List Int)×(List Int)×(List Int)) U w=>∃bw bq:Value,SH E V [(0,vp b0 0),(2,vi p0_5.length),(10,vp bu 0),(72,bk),(73,vi a8.1.length),(74,vi bo)] [bc 44 b0 [v0_0,v0_1,v0_2,v0_3,v0_4,v0_5,v0_6,bg,al,an,v0_10,v0_11],rd v0_2 p0_2,rd v0_3 p0_3,rd v0_5 p0_5,rd v0_6 p0_6,own 47 bg us446,iu aU us446 a5.1 none,own 3 al ar.1,own 3 an ar.2.1,own 3 v0_10 p0_10,own 98 v0_11 p0_11,bc 47 bu [bw,bq,(.slice none 0 0)],own 3 bw ar.2.2.1,own 3 bq ar.2.2.2,own 28 bk a8.1,rd bp bm] U w) hN ?_ ?_ ?_ ?_
  ·have o:=(o.cO Int 3).cO Int 3
   exact⟨(.slice none 0 0),(.slice none 0 0),o.sp 16 [4,7,8,9,10,5,6,11,12,13,14,2,1,0,15,3]⟩
  ·rintro hm ar _ w ⟨ea,eb,O,rfl,o⟩
   refine RC.sr (ic ((bm.length:Int)) ((bm.length:Int)) (RL.nq (RC.fO tG (RC.ex ?_))))
   exact⟨rfl,ea,eb,o.sp 16 [0,1,2,3,4,5,6,7,8,9,10,11,12,13,14,15]⟩
  ·rintro hm b5 ar s' _ w hk ⟨ch,cx,O,rfl,o⟩ hb
   refine RC.sr (ic ((b5:Int)) ((bm.length:Int)) (RL.nq (RC.fN (tF hk) (RC.ss (RC.bs ?_)))))
   obtain⟨a2,ec,hb⟩:=bd hb
   refine RL.bP 15 o dW ec fun fc o=>(RL.bD a2 0 o cJ (aQ (vi a2) (RL.nt (RC.bs (mv (vi a2) (mv (vi p0_5.length) (ic a2 ((p0_5.length:Int)) (aQ (vb (decide (a2< (p0_5.length:Int)))) ?_))))))))
   refine RL.nt ?_
   obtain⟨b6,hj,hb⟩:=bd hb
   refine RC.jn (fun(b6: (List Int)×(List Int)×(List Int)×(List Int)) U w=>∃cj ck:Value,SH E V [(0,vp b0 0),(2,vi p0_5.length),(10,vp bu 0),(72,bk),(73,vi a8.1.length),(74,vi bo),(78,bp),(79,vi bm.length),(80,vi b5)] [bc 44 b0 [v0_0,v0_1,v0_2,v0_3,v0_4,v0_5,v0_6,bg,al,an,v0_10,v0_11],rd v0_2 p0_2,rd v0_3 p0_3,rd v0_5 p0_5,rd v0_6 p0_6,own 47 bg us446,iu aU us446 a5.1 none,own 3 al b6.1,own 3 an b6.2.1,own 3 v0_10 p0_10,own 98 v0_11 p0_11,bc 47 bu [cj,ck,(.slice none 0 0)],own 3 cj b6.2.2.1,own 3 ck b6.2.2.2,own 28 bk a8.1,rd bp bm] U w) b6 ?_ ?_
   ·refine dU hj (fun hc hj=>?_) fun hc hj=>?_
    ·refine RC.seq (RC.v5 mixed [0,0,0,0,0,0,0,0,0,0,0,2] [0,1,2,3,4,5,6,7,8,9,10,11] ?_)
     have o:=o.drew
     refine DP.e0 zr (mv (vp b0 0) (aZ zr (RL.nilCheck zr (aZ zr (RL.aX zr B8 (aZ zr (RL.bI 1 al o eY (aZ zr ?_))))))))
     refine mv (vi a2) (aZ zr (mv (vp b0 0) (aZ zr (RL.nilCheck zr (aZ zr (RL.aX zr wc (aZ zr (RL.bI 1 bg o rC ?_))))))))
     refine aZ zr (RL.rP 6 7 a5.1 o Ij (aZ zr ?_))
     obtain⟨fe,cy,hj⟩:=bd hj
     refine RL.bQ 8 o zr zr dW cy (pP zr ?_)
     have o:=o.sc Int (a5.1.length:Int)
     refine RL.gL (f:=(fun _ y=>y)) 9 0 o (jg 9 o cy 0) (bF cy).2.1 zr Fs.self cJ fun w o=>?_
     refine DP.d2 zt (DP.z (aH (RC.region (RL.aX zr sZ (RL.bI 13 ch o eY (mv (vi a2) ?_))))))
     have o:=o.sc Int a2
     refine RL.dR ([a2]: (List Int)) o [(vi a2)] dW A1 (fun M hs g=>⟨(g.sat 0 _ zr).1,zt⟩) fun ff w o=>?_
     have o:=o.freeze 0
     obtain⟨fg,ed,hj⟩:=bd hj
     refine RL.app 16 0 o pC ed fun db w o=>?_
     refine RL.aX zr sZ (RL.iw 15 db o zr zr (iM 16 o) eY fun w o=>?_)
     refine RL.nil ?_
     obtain rfl:=oi hj
     exact⟨rfl,db,cx,o.sp 20 [4,5,6,7,8,9,10,11,12,13,14,15,16,17,18,19]⟩
    refine RC.sr (mv (vp b0 0) (RL.nilCheck zr (RL.aX zr sY (RL.aX zr gK (RL.bI 1 v0_2 o mZ (mv (vi a2) (mv (vi p0_5.length) (RL.gl a2 (p0_5.length:Int) ?_))))))))
    obtain⟨dc,ee,hj⟩:=bd hj
    refine RL.bP 2 o pE ee fun fh o=>(RL.dX 0 o zr uq nT fun fi o=>(RL.bD dc.eH 0 o AR (aQ (vb dc.eH) (RL.nt ?_))))
    obtain⟨cl,hjj,hj⟩:=bd hj
    refine RC.jn (fun(cl: (List Int)×(List Int)) U w=>∃cm:Value,SH E V [(0,vp b0 0),(2,vi p0_5.length),(10,vp bu 0),(72,bk),(73,vi a8.1.length),(74,vi bo),(78,bp),(79,vi bm.length),(80,vi b5)] [bc 44 b0 [v0_0,v0_1,v0_2,v0_3,v0_4,v0_5,v0_6,bg,al,an,v0_10,v0_11],rd v0_2 p0_2,rd v0_3 p0_3,rd v0_5 p0_5,rd v0_6 p0_6,own 47 bg us446,iu aU us446 a5.1 none,own 3 al ar.1,own 3 an cl.1,own 3 v0_10 p0_10,own 98 v0_11 p0_11,bc 47 bu [ch,cm,(.slice none 0 0)],own 3 cm cl.2,own 3 ch ar.2.2.1,own 28 bk a8.1,rd bp bm] U w) cl ?_ ?_
    ·refine dU hjj (fun hc hjj=>?_) fun hc hjj=>?_
     rotate_left
     ·refine RC.region (mv (vp b0 0) (RL.nilCheck zr (RL.aX zr B9 (RL.bI 3 an o eY (mv (vi a2) (mv (vi p0_5.length) (RL.gl a2 (p0_5.length:Int) ?_)))))))
      obtain⟨fj,cz,hjj⟩:=bd hjj
      refine RL.bQ 11 o zr zr dW cz ?_
      have o:=o.sc Int (-1)
      refine RL.gL (f:=(fun _ y=>y)) 12 0 o (jg 12 o cz 0) (bF cz).2.1 zr Fs.self cJ fun w o=>?_
      refine RL.nil ?_
      obtain rfl:=oi hjj
      exact⟨rfl,cx,o.sp 20 [4,5,6,7,8,9,10,11,12,13,14,15,17,16,18,19]⟩
     refine RC.seq (RC.v5 mixed [0,0,0,0,0,0,0,0,0,0,0,0,0,2] [0,1,2,3,4,5,6,7,8,9,10,11,12,13] ?_)
     have o:=o.drew
     refine DP.e0 zr (mv (vp b0 0) (aZ zr (RL.nilCheck zr (aZ zr (RL.aX zr B9 (aZ zr (RL.bI 3 an o eY (aZ zr ?_))))))))
     refine mv (vi a2) (aZ zr (mv (vi p0_5.length) (aZ zr (RL.gl a2 (p0_5.length:Int) (aZ zr (mv (vp b0 0) (aZ zr (RL.nilCheck zr ?_))))))))
     refine aZ zr (RL.aX zr wc (aZ zr (RL.bI 3 bg o rC (aZ zr (RL.rP 8 9 a5.1 o Ij (aZ zr ?_))))))
     obtain⟨fk,c0,hjj⟩:=bd hjj
     refine RL.bQ 11 o zr zr dW c0 (pP zr ?_)
     have o:=o.sc Int (a5.1.length:Int)
     refine RL.gL (f:=(fun _ y=>y)) 12 0 o (jg 12 o c0 0) (bF c0).2.1 zr Fs.self cJ fun w o=>?_
     refine DP.d2 zt (DP.z (aH (RC.region (RL.aX zr ye (RL.bI 15 cx o eY (mv (vi a2) (mv (vi p0_5.length) (RL.gl a2 (p0_5.length:Int) ?_))))))))
     have o:=o.sc Int (IntKind.wrap .i64 (a2 - (p0_5.length:Int)))
     refine RL.dR ([(IntKind.wrap .i64 (a2 - (p0_5.length:Int)))]: (List Int)) o [(vi (IntKind.wrap .i64 (a2 - (p0_5.length:Int))))] dW A1 (fun M hs g=>⟨(g.sat 0 _ zr).1,zt⟩) fun fl w o=>?_
     have o:=o.freeze 0
     obtain⟨fm,ef,hjj⟩:=bd hjj
     refine RL.app 19 0 o pC ef fun dd w o=>?_
     refine RL.aX zr ye (RL.iw 17 dd o zr zr (iM 19 o) eY fun w o=>?_)
     refine RL.nil ?_
     obtain rfl:=oi hjj
     exact⟨rfl,dd,o.sp 22 [6,7,8,9,10,11,12,13,14,15,16,17,19,18,20,21]⟩
    rintro _ w ⟨cm,O,rfl,o⟩
    obtain rfl:=oi hj
    exact⟨rfl,ch,cm,o.sp 16 [0,1,2,3,4,5,6,7,8,9,10,11,13,12,14,15]⟩
   rintro _ w ⟨cj,ck,O,rfl,o⟩
   refine bM (bM (aH (RC.region (RL.inc hk hm (mv (vi ((b5+1:Nat):Int)) (RL.nil ?_))))))
   obtain rfl:=oi hb
   exact⟨rfl,cj,ck,o.sp 16 [0,1,2,3,4,5,6,7,8,9,10,11,12,13,14,15]⟩
  rintro _ w ⟨bw,bq,O,rfl,o⟩
  refine aH (RC.sr (RL.aX zr sZ (RL.bI 11 bw o eY (RL.fS 12 ar.2.2.1 o ly (RL.aX zr ye (RL.bI 11 bq o eY (RL.fS 13 ar.2.2.2 o ly (RL.gl (ar.2.2.1.length:Int) (ar.2.2.2.length:Int) ?_))))))))
  refine ic ((IntKind.wrap .i64 ((ar.2.2.1.length:Int)+ (ar.2.2.2.length:Int)))) 0 (RL.nt ?_)
  obtain⟨c1,hj,hb⟩:=bd hb
  refine RC.jn (fun(c1: (List cC)) U w=>∃(cn:Value) (us598:List aT),SH E V [(0,vp b0 0),(2,vi p0_5.length),(72,bk),(73,vi a8.1.length),(74,vi bo)] [bc 44 b0 [v0_0,v0_1,v0_2,v0_3,v0_4,v0_5,v0_6,cn,al,an,v0_10,v0_11],own 47 cn us598,iu aU us598 c1 none,rd v0_2 p0_2,rd v0_3 p0_3,rd v0_5 p0_5,rd v0_6 p0_6,own 3 al ar.1,own 3 an ar.2.1,own 3 v0_10 p0_10,own 98 v0_11 p0_11,own 28 bk a8.1] U w) c1 ?_ ?_
  ·refine dU hj (fun hc hj=>?_) fun hc hj=>?_
   rotate_left
   ·refine RC.skip ?_
    obtain rfl:=oi hj
    exact⟨rfl,bg,us446,o.sp 16 [0,5,6,1,2,3,4,7,8,9,10,14]⟩
   have o:=o.drew
   refine RC.Et (fun w=>Holds E w ([bc 44 b0 [v0_0,v0_1,v0_2,v0_3,v0_4,v0_5,v0_6,bg,al,an,v0_10,v0_11]]++V)) mixed zr [1,1,1,1,1,0,2,2,0,0,2] [0,1,2,3,4,5,6,7,8,9,10] (o.pk 16 [0]) (DP.e1 (vp b0 0) zr (fun w=>RL.move (vp b0 0) zt DP.d1) (DP.e1 (vp b0 0) zr (fun w=>RL.move (vp b0 0) zt DP.d1) (DP.e1 (vp b0 0) zr (fun w=>RL.nilCheck zr DP.d1) (DP.e1 (vp b0 7) zr (fun w=>RL.aX zr wc DP.d1) (DP.Ic bg zr (fun w o=>RL.bI 0 bg o rC DP.d1) (DP.e0 zr (RL.C0 (cs:=[bw,bq,(.slice none 0 0)]) 11 zt zr o zr zr G4 zr (pP zr ?_))))))))
   have o:=((((o.cO fD 83).Bj (i:=0) rfl).freeze 14).freeze 15).Ek (cs:=[bw,bq,(.slice none 0 0)]) (x:=(⟨ar.2.2.1,ar.2.2.2,(rv (.slice none 0 0))⟩:aT)) (fun M hs g=>⟨[bw],[bq,(.slice none 0 0)],rfl,(ru (g.sat 14 _ rfl).1),⟨[bq],[(.slice none 0 0)],rfl,(ru (g.sat 15 _ rfl).1),(ru (g.sat 0 _ rfl).1)⟩⟩) rfl
   refine RL.dR ([(⟨ar.2.2.1,ar.2.2.2,(rv (.slice none 0 0))⟩:aT)]:List aT) o [(.agg ([bw,bq,(.slice none 0 0)]:List Value).toArray)] xc JL (fun M hs g=>⟨(g.sat 0 _ zr).1,zt⟩) fun fo w o=>(DP.d2 (o.pk 20 [4]) (DP.e2 zr ?_))
   obtain⟨fp,eg,hj⟩:=bd hj
   have o:=o.freeze 0
   refine RL.xX 9 0 10 3 aU (⟨ar.2.2.1,ar.2.2.2,(rv (.slice none 0 0))⟩:aT) (⟨ar.2.2.1,ar.2.2.2,([]: (List fD))⟩:cC) (.slice none 0 0) ([]: (List fD)) (fun _ _ ho=>⟨⟨rfl,zr⟩,ho⟩) zr o zr zr zr zr zr zr JM eg fun de w o=>?_
   refine DP.d2 (o.pk 20 [4]) (DP.e0 zr (RL.nilCheck zr (aZ zr (RL.aX zr wc (DP.d0 (DP.LF zr zr (RL.iw 4 de o zr zr (iM 9 o) rC fun w o=>?_)))))))
   refine DP.d2 zt (DP.z ?_)
   obtain rfl:=oi hj
   exact⟨rfl,de,(us446++[(⟨ar.2.2.1,ar.2.2.2,(rv (.slice none 0 0))⟩:aT)]),o.sp 20 [4,9,10,5,6,7,8,11,12,13,14,18]⟩
  rintro _ w ⟨cn,us598,O,rfl,o⟩
  refine bM (aH (RC.region (RL.inc hk hm (mv (vi ((bo+1:Nat):Int)) (RL.nil ?_)))))
  obtain rfl:=oi hb
  exact⟨rfl,cn,us598,o.sp 12 [0,1,2,3,4,5,6,7,8,9,10,11]⟩
 rintro _ w ⟨aj,us444,O,rfl,o⟩
 refine aH (RC.sr (mv (vp b0 0) (RL.nilCheck zr (RL.aX zr sY (RL.aX zr rB (RL.bI 0 v0_3 o A2 (RL.bA 4 p0_3 o FO (mv (vi 0) ?_))))))))
 refine RL.nt ?_
 obtain⟨ai,hN,hb⟩:=bd hb
 refine RC.fold (fun(b2:Nat) (ai: (List cC)×(List Int)×(List Int)×(List Int)×(List km)) U w=>∃(df dg:Value) (dh di:Value) (us819:List aT),SH E V [(0,vp b0 0),(170,v0_3),(171,vi p0_3.length),(172,vi b2)] [bc 44 b0 [v0_0,v0_1,v0_2,v0_3,v0_4,v0_5,v0_6,aj,df,dg,dh,di],rd df ai.2.1,rd dg ai.2.2.1,own 3 dh ai.2.2.2.1,own 98 di ai.2.2.2.2,rd v0_2 p0_2,rd v0_3 p0_3,rd v0_5 p0_5,rd v0_6 p0_6,own 47 aj us819,iu aU us819 ai.1 none] U w) (fun(ai: (List cC)×(List Int)×(List Int)×(List Int)×(List km)) U w=>∃(cp cq:Value) (cr ct:Value) (us824:List aT),SH E V [(0,vp b0 0)] [bc 44 b0 [v0_0,v0_1,v0_2,v0_3,v0_4,v0_5,v0_6,aj,cp,cq,cr,ct],rd cp ai.2.1,rd cq ai.2.2.1,own 3 cr ai.2.2.2.1,own 98 ct ai.2.2.2.2,rd v0_2 p0_2,rd v0_3 p0_3,rd v0_5 p0_5,rd v0_6 p0_6,own 47 aj us824,iu aU us824 ai.1 none] U w) hN ?_ ?_ ?_ ?_
 ·have o:=(o.freeze 7).freeze 8
  exact⟨al,an,v0_10,v0_11,us444,o.sp 12 [0,7,8,9,10,3,4,5,6,1,2]⟩
 ·rintro hm ai _ w ⟨eh,ei,ej,ek,us932,O,rfl,o⟩
  refine RC.sr (ic ((p0_3.length:Int)) ((p0_3.length:Int)) (RL.nq (RC.fO tG (RC.ex ?_))))
  exact⟨rfl,eh,ei,ej,ek,us932,o.sp 11 [0,1,2,3,4,5,6,7,8,9,10]⟩
 ·rintro hm b2 ai s' _ w hk ⟨a3,a4,bl,a6,us829,O,rfl,o⟩ hb
  refine RC.sr (ic ((b2:Int)) ((p0_3.length:Int)) (RL.nq (RC.fN (tF hk) (RC.ss (RC.bs ?_)))))
  obtain⟨b7,el,hb⟩:=bd hb
  refine RL.bP 6 o FP el fun en o=>(RL.bL 0 b7 o vt fun eo o=>(RL.alloc o GW.z fun dj w o=>?_))
  refine RL.cA 0 o 1 zr vt fun w o=>?_
  refine RL.ns (mv (vp b0 0) (RL.bE (f:=(fun x=>x)) 0 o zr Fd.self vt fun dk o=>?_))
  have o:=((o.dup 11 rfl).dup 10 rfl).pull 6
  obtain⟨ba,ep,hb⟩:=bd hb
  refine RL.call zt zr Mv [(vp b0 0),dk] zr (aD (tZ N (i1:=0) o zr ep) ?_)
  rintro _ w ⟨c2,rfl,o⟩
  refine mv (.tuple #[c2,(vb ba.2)]) (RL.extract c2 (RL.extract (vb ba.2) (RL.alloc o G5.z fun b8 w o=>?_)))
  refine RL.cA 0 o 1 zr uu fun w o=>?_
  refine aQ (vb ba.2) (RL.ns (aQ (vi (-1)) (RL.nq (RC.sr (mv (vb ba.2) (RL.nt ?_))))))
  obtain⟨bh,hj,hb⟩:=bd hb
  refine RC.jn (fun(bh: (List cC)×Int) U w=>∃(us877:List aT),SH E V [(0,vp b0 0),(15,vp b8 0),(17,vi bh.2),(170,v0_3),(171,vi p0_3.length),(172,vi b2)] [bc 44 b0 [v0_0,v0_1,v0_2,v0_3,v0_4,v0_5,v0_6,aj,a3,a4,bl,a6],rd v0_2 p0_2,rd v0_3 p0_3,rd v0_5 p0_5,rd v0_6 p0_6,own 47 aj us877,iu aU us877 bh.1 none,rd a3 ai.2.1,rd a4 ai.2.2.1,own 3 bl ai.2.2.2.1,own 98 a6 ai.2.2.2.2,bx 98 b8 ba.1] U w) bh ?_ ?_
  ·refine dU hj (fun hc hj=>?_) fun hc hj=>?_
   rotate_left
   ·refine RC.skip ?_
    obtain rfl:=oi hj
    exact⟨rfl,us829,o.sp 18 [2,12,13,14,15,16,17,8,9,10,11,0]⟩
   refine RC.sr (mv (vp b0 0) (RL.bE (f:=(fun x=>x)) 0 o zr Fd.self uu fun dm o=>?_))
   have o:=((o.dup 10 rfl).dup 10 rfl).pull 5
   obtain⟨ah,er,hj⟩:=bd hj
   refine RL.call zt zr Mw [(vp b0 0),dm] zr (aD (qD N (i1:=0) o zr er) ?_)
   rintro _ w ⟨rfl,o⟩
   refine aQ (vi ah) (RL.nt ?_)
   obtain⟨fq,cd,hj⟩:=bd hj
   obtain⟨b9,et,hj⟩:=bd hj
   obtain⟨br,eu,hj⟩:=bd hj
   obtain⟨b3,cu,hj⟩:=bd hj
   refine RC.FJ E V mixed [1,1,1,0,1,1,1,1,0,1,0,0,0,0,0,0,0,0,0,0] [13,14,15,16,19] (fun(x:Value×Value×Value×Value)=>(fun av aw au ak=>[(0,186,(vp b0 0)),(1,187,(vp b0 0)),(2,188,(vp b0 7)),(3,189,aj),(4,190,(vi ah)),(5,191,(vp b0 0)),(6,192,(vp b0 0)),(7,193,(vp b0 7)),(8,194,aj),(9,195,(vi ah)),(10,196,(zc aj (Int.toNat ah) 3 0)),(11,197,(zc aj (Int.toNat ah) 3 2)),(12,198,(us829.getD (Int.toNat ah) (default:aT)).eL.v),(13,199,av),(14,200,aw),(15,201,au),(16,202,ak),(17,203,(zc aj (Int.toNat ah) 3 0)),(18,204,(zc aj (Int.toNat ah) 3 2))]) x.1 x.2.1 x.2.2.1 x.2.2.2) [(0,vp b0 0),(14,vp dj 0),(15,vp b8 0),(17,vi ah),(170,v0_3),(171,vi p0_3.length),(172,vi b2)] [] (fun(D:Nat->Bool) (x:Value×Value×Value×Value)=>(fun av aw au ak=>[bif D 0 then (rd av b7) else bC,bif D 1 then (rd aw b9) else bC,bif D 3 then (rd au ([b9]: (List fD))) else (bif D 2 then (own 83 au ([b9]: (List fD))) else bC),bif D 4 then bC else (bif D 3 then (own 83 ak br) else bC),bc 44 b0 [v0_0,v0_1,v0_2,v0_3,v0_4,v0_5,v0_6,aj,a3,a4,bl,a6],rd dm ba.1,bx 98 b8 ba.1,rd c2 ba.1,bC,rd dk b7,bx 79 dj b7,rd eo b7,pt en b7,bC,rd a3 ai.2.1,rd a4 ai.2.2.1,own 3 bl ai.2.2.2.1,own 98 a6 ai.2.2.2.2,rd v0_2 p0_2,rd v0_3 p0_3,rd v0_5 p0_5,rd v0_6 p0_6,bif D 4 then (own 47 aj (us829.set (Int.toNat ah) {(us829.getD (Int.toNat ah) (default:aT)) with eL:=rv ak})) else (own 47 aj us829),bif D 4 then (iu aU (us829.set (Int.toNat ah) {(us829.getD (Int.toNat ah) (default:aT)) with eL:=rv ak}) (ai.1.set (Int.toNat ah) {b3 with eL:=br}) none) else (bif D 3 then (iu aU us829 ai.1 (some (Int.toNat ah))) else (iu aU us829 ai.1 none))]) x.1 x.2.1 x.2.2.1 x.2.2.2) (fun x=>by kernel_rfl) ?_ ⟨fun _=>jF gn,fun _=>wT gn,fun _=>nK gn wc,?_,fun _=>jF gn,fun _=>jF gn,fun _=>wT gn,fun _=>nK gn wc,?_,fun _=>jF gn,?_,?_,?_,?_,?_,?_,?_,?_,?_,?_,trivial⟩ ?_
   ·have o:=((((o.drew).bC).bC).bC).bC
    exact⟨(undef,undef,undef,undef),fP.none,(Eu zr),zt,o⟩
   ·rintro D U w hD ae ab ⟨⟨av,aw,au,ak⟩,hv,ha,_,o⟩
    obtain⟨O,rfl⟩:=(ac (hv.at 2 rfl (ae.1 rfl)) az).fH
    refine RL.bI 4 aj o rC ?_
    exact RL.nil ⟨rfl,(av,aw,au,ak),hv.pu 3,ha.u,zt,o⟩
   ·rintro D U w hD ae ab ⟨⟨av,aw,au,ak⟩,hv,ha,_,o⟩
    obtain⟨O,rfl⟩:=(ac (hv.at 7 rfl (ae.1 rfl)) az).fH
    refine RL.bI 4 aj o rC ?_
    exact RL.nil ⟨rfl,(av,aw,au,ak),hv.pu 8,ha.u,zt,o⟩
   ·rintro D U w hD ae ab ⟨⟨av,aw,au,ak⟩,hv,ha,_,o⟩
    obtain⟨O,rfl⟩:=(ac (hv.at 8 rfl (ae.1 rfl)) (ac (hv.at 9 rfl (ae.2.1 rfl)) az)).fH
    have o:=((o.cB 22 (nh ab hD 19)).cB 23 (nh ab hD 19)).cB 23 (nf (fun h=>ft hD ((ab 11 _ rfl ((ab 12 _ rfl ((ab 16 _ rfl h).1 rfl)).1 rfl)).1 rfl)))
    have hl900:=o.eD 23
    have hr901:=fT (default:aT) hl900 cd
    refine RL.bQ 22 o zr zr xc hr901 ?_
    have o:=(o.eW 22 (D 19) (nh ab hD 19) (own 47 aj (us829.set (Int.toNat ah) {(us829.getD (Int.toNat ah) (default:aT)) with eL:=rv ak}))).eW 23 (D 16) (nf (fun h=>ft hD ((ab 11 _ rfl ((ab 12 _ rfl ((ab 16 _ rfl h).1 rfl)).1 rfl)).1 rfl))) (iu aU us829 ai.1 (some (Int.toNat ah)))
    have o:=o.eW 23 (D 19) (nh ab hD 19) (iu aU (us829.set (Int.toNat ah) {(us829.getD (Int.toNat ah) (default:aT)) with eL:=rv ak}) (ai.1.set (Int.toNat ah) {b3 with eL:=br}) none)
    exact RL.nil ⟨rfl,(av,aw,au,ak),hv.pu 10,ha.u,zt,o⟩
   ·rintro D U w hD ae ab ⟨⟨av,aw,au,ak⟩,hv,ha,_,o⟩
    obtain⟨O,rfl⟩:=(ac (hv.at 10 rfl (ae.1 rfl)) az).fH
    have o:=((o.cB 22 (nh ab hD 19)).cB 23 (nh ab hD 19)).cB 23 (nf (fun h=>ft hD ((ab 12 _ rfl ((ab 16 _ rfl h).1 rfl)).1 rfl)))
    have hl902:=o.eD 23
    have hr903:=fT (default:aT) hl902 cd
    refine RL.jV (α:=aT) (jg 22 o hr903 0) yf ?_
    have o:=(o.eW 22 (D 19) (nh ab hD 19) (own 47 aj (us829.set (Int.toNat ah) {(us829.getD (Int.toNat ah) (default:aT)) with eL:=rv ak}))).eW 23 (D 16) (nf (fun h=>ft hD ((ab 12 _ rfl ((ab 16 _ rfl h).1 rfl)).1 rfl))) (iu aU us829 ai.1 (some (Int.toNat ah)))
    have o:=o.eW 23 (D 19) (nh ab hD 19) (iu aU (us829.set (Int.toNat ah) {(us829.getD (Int.toNat ah) (default:aT)) with eL:=rv ak}) (ai.1.set (Int.toNat ah) {b3 with eL:=br}) none)
    exact RL.nil ⟨rfl,(av,aw,au,ak),hv.pu 11,ha.u,zt,o⟩
   ·rintro D U w hD ae ab ⟨⟨av,aw,au,ak⟩,hv,ha,_,o⟩
    obtain⟨O,rfl⟩:=(ac (hv.at 11 rfl (ae.1 rfl)) az).fH
    have o:=((o.cB 22 (nh ab hD 19)).cB 23 (nh ab hD 19)).cB 23 (nh ab hD 16)
    have hl904:=o.eD 23
    have hr905:=fT (default:aT) hl904 cd
    refine RL.u4 22 23 ah nY (default:aT) zr o zr (jg 22 o hr905 2) zr zr cd FU ?_
    have o:=(o.eW 22 (D 19) (nh ab hD 19) (own 47 aj (us829.set (Int.toNat ah) {(us829.getD (Int.toNat ah) (default:aT)) with eL:=rv ak}))).eW 23 (D 16) (nh ab hD 16) (iu aU us829 ai.1 (some (Int.toNat ah)))
    have o:=o.eW 23 (D 19) (nh ab hD 19) (iu aU (us829.set (Int.toNat ah) {(us829.getD (Int.toNat ah) (default:aT)) with eL:=rv ak}) (ai.1.set (Int.toNat ah) {b3 with eL:=br}) none)
    exact RL.nil ⟨rfl,(av,aw,au,ak),hv.pu 12,ha.u,zt,o⟩
   ·rintro D U w hD ae ab ⟨⟨av,aw,au,ak⟩,hv,ha,_,o⟩
    obtain⟨O,rfl⟩:=(ac (ha.at 1 rfl) az).fH
    have o:=o.cB 0 hD
    refine RL.bE (f:=(fun x=>x)) 10 o zr Fd.self vt fun ev o=>?_
    have o:=(o.pl 25 [0,2,3,4,5,6,7,8,9,10,11,12,13,14,15,16,17,18,19,20,21,22,23,24]).cQ 0 true rfl bC
    exact RL.nil ⟨rfl,(ev,aw,au,ak),hv.pu 13,ha.u,zt,o⟩
   ·rintro D U w hD ae ab ⟨⟨av,aw,au,ak⟩,hv,ha,_,o⟩
    obtain⟨O,rfl⟩:=(ac (hv.at 13 rfl (ae.1 rfl)) az).fH
    have o:=(o.cP 0 (ae.1 rfl)).cB 1 hD
    refine RL.call zt zr JA [av] zr (aD (pG N (i0:=0) o zr et) ?_)
    rintro ew w o
    have o:=((o.pl 25 [1,0,3,4,5,6,7,8,9,10,11,12,13,14,15,16,17,18,19,20,21,22,23,24]).cQ 0 (D 13) (ae.1 rfl) bC).cQ 1 true rfl bC
    exact RL.nil ⟨rfl,(av,ew,au,ak),hv.pu 14,ha.u,zt,o⟩
   ·rintro D U w hD ae ab ⟨⟨av,aw,au,ak⟩,hv,ha,_,o⟩
    obtain⟨O,rfl⟩:=(ac (hv.at 14 rfl (ae.1 rfl)) az).fH
    have o:=((o.cP 1 (ae.1 rfl)).cB 2 (nh ab hD 16)).cB 2 hD
    refine RL.dR ([b9]: (List fD)) o [aw] KU Jz (fun M hs g=>⟨(g.sat 1 _ zr).1,zt⟩) fun dn w o=>?_
    have o:=(((o.pl 25 [1,2,0,4,5,6,7,8,9,10,11,12,13,14,15,16,17,18,19,20,21,22,23,24]).cQ 1 (D 14) (ae.1 rfl) bC).cQ 2 true rfl bC).eW 2 (D 16) (nh ab hD 16) (rd dn ([b9]: (List fD)))
    exact RL.nil ⟨rfl,(av,aw,dn,ak),hv.pu 15,ha.u,zt,o⟩
   ·rintro D U w hD ae ab ⟨⟨av,aw,au,ak⟩,hv,ha,_,o⟩
    obtain⟨O,rfl⟩:=(ac (hv.at 12 rfl (ae.1 rfl)) (ac (hv.at 15 rfl (ae.2.1 rfl)) az)).fH
    have o:=(((((((o.cB 2 hD).cP 2 (ae.2.1 rfl)).cB 3 (nh ab hD 19)).cB 3 hD).cB 22 (nh ab hD 19)).cB 23 (nh ab hD 19)).cB 23 hD).zF (j:=23) (jj:=ah) nY (default:aT) rfl cd
    have o:=o.freeze 3
    refine RL.app 0 3 o KW eu fun c3 w o=>?_
    have o:=((((o.pl 25 [1,2,3,0,5,6,7,8,9,10,11,12,13,14,15,16,17,18,19,20,21,22,23,24]).cQ 2 true rfl (bif D 15 then (own 83 au ([b9]: (List fD))) else bC)).cQ 3 true rfl bC).eW 3 (D 19) (nh ab hD 19) bC).eW 22 (D 19) (nh ab hD 19) (own 47 aj (us829.set (Int.toNat ah) {(us829.getD (Int.toNat ah) (default:aT)) with eL:=rv c3}))
    have o:=(o.cQ 23 true rfl (iu aU us829 ai.1 none)).eW 23 (D 19) (nh ab hD 19) (iu aU (us829.set (Int.toNat ah) {(us829.getD (Int.toNat ah) (default:aT)) with eL:=rv c3}) (ai.1.set (Int.toNat ah) {b3 with eL:=br}) none)
    exact RL.nil ⟨rfl,(av,aw,au,c3),hv.pu 16,ha.u,zt,o⟩
   ·rintro D U w hD ae ab ⟨⟨av,aw,au,ak⟩,hv,ha,_,o⟩
    obtain⟨O,rfl⟩:=(ac (hv.at 3 rfl (ae.1 rfl)) (ac (hv.at 4 rfl (ae.2.1 rfl)) az)).fH
    have o:=o.cB 22 (nf (fun h=>ft hD ((ab 18 _ rfl ((ab 19 _ rfl h).1 rfl)).1 rfl)))
    have o:=o.cB 23 (nf (fun h=>ft hD ((ab 18 _ rfl ((ab 19 _ rfl h).1 rfl)).1 rfl)))
    have o:=o.cP 23 (ae.2.2.2.2.2.2.2.2.2.2.2.2.2.2.2.2.2.2.1 rfl)
    have hl910:=o.eD 23
    have hr911:=fT (default:aT) hl910 cu
    refine RL.bQ 22 o zr zr xc hr911 ?_
    have o:=o.eW 22 (D 19) (nf (fun h=>ft hD ((ab 18 _ rfl ((ab 19 _ rfl h).1 rfl)).1 rfl))) (own 47 aj (us829.set (Int.toNat ah) {(us829.getD (Int.toNat ah) (default:aT)) with eL:=rv ak}))
    have o:=(o.cQ 23 (D 16) (ae.2.2.2.2.2.2.2.2.2.2.2.2.2.2.2.2.2.2.1 rfl) (iu aU us829 ai.1 none)).eW 23 (D 19) (nf (fun h=>ft hD ((ab 18 _ rfl ((ab 19 _ rfl h).1 rfl)).1 rfl))) (iu aU (us829.set (Int.toNat ah) {(us829.getD (Int.toNat ah) (default:aT)) with eL:=rv ak}) (ai.1.set (Int.toNat ah) {b3 with eL:=br}) none)
    exact RL.nil ⟨rfl,(av,aw,au,ak),hv.pu 17,ha.u,zt,o⟩
   ·rintro D U w hD ae ab ⟨⟨av,aw,au,ak⟩,hv,ha,_,o⟩
    obtain⟨O,rfl⟩:=(ac (hv.at 17 rfl (ae.1 rfl)) az).fH
    have o:=((o.cB 22 (nh ab hD 19)).cB 23 (nh ab hD 19)).cP 23 (ae.2.2.2.2.2.2.2.2.2.2.2.2.2.2.2.2.2.1 rfl)
    have hl912:=o.eD 23
    have hr913:=fT (default:aT) hl912 cu
    refine RL.jV (α:=aT) (jg 22 o hr913 0) yf ?_
    have o:=(o.eW 22 (D 19) (nh ab hD 19) (own 47 aj (us829.set (Int.toNat ah) {(us829.getD (Int.toNat ah) (default:aT)) with eL:=rv ak}))).cQ 23 (D 16) (ae.2.2.2.2.2.2.2.2.2.2.2.2.2.2.2.2.2.1 rfl) (iu aU us829 ai.1 none)
    have o:=o.eW 23 (D 19) (nh ab hD 19) (iu aU (us829.set (Int.toNat ah) {(us829.getD (Int.toNat ah) (default:aT)) with eL:=rv ak}) (ai.1.set (Int.toNat ah) {b3 with eL:=br}) none)
    exact RL.nil ⟨rfl,(av,aw,au,ak),hv.pu 18,ha.u,zt,o⟩
   ·rintro D U w hD ae ab ⟨⟨av,aw,au,ak⟩,hv,ha,_,o⟩
    obtain⟨O,rfl⟩:=(ac (hv.at 16 rfl (ae.2.1 rfl)) (ac (hv.at 18 rfl (ae.1 rfl)) az)).fH
    have o:=((((o.cB 3 hD).cP 3 (ae.2.1 rfl)).cB 22 hD).cB 23 hD).cP 23 (ae.2.1 rfl)
    have hl914:=o.eD 23
    have hr915:=fT (default:aT) hl914 cu
    refine RL.sS 22 23 3 ah nY (default:aT) o zr zr (jg 22 o hr915 2) zr zr zr cu FU fun w o=>?_
    have o:=((o.cQ 3 true rfl (bif D 16 then (own 83 ak br) else bC)).cQ 22 true rfl (own 47 aj us829)).cQ 23 true rfl (bif D 16 then (iu aU us829 ai.1 (some (Int.toNat ah))) else (iu aU us829 ai.1 none))
    exact RL.nil ⟨rfl,(av,aw,au,ak),hv.n1,ha,zt,o⟩
   rintro D U w a7 ⟨⟨av,aw,au,ak⟩,hv,ha,_,o⟩
   have o:=(((((o.cP 0 (kQ a7 13)).cP 1 (kQ a7 14)).cP 2 (kQ a7 16)).cP 3 (kQ a7 19)).cP 22 (kQ a7 19)).cP 23 (kQ a7 19)
   obtain⟨O,rfl⟩:=(ac (ha.at 0 rfl) (ac (ha.at 1 rfl) (ac (ha.at 2 rfl) (ac (ha.at 3 rfl) (ac (ha.at 4 rfl) (ac (ha.at 5 rfl) (ac (ha.at 6 rfl) az))))))).fH
   obtain rfl:=oi hj
   exact⟨rfl,(us829.set (Int.toNat ah) {(us829.getD (Int.toNat ah) (default:aT)) with eL:=rv ak}),o.sp 24 [4,18,19,20,21,22,23,14,15,16,17,6]⟩
  rintro _ w ⟨us877,O,rfl,o⟩
  refine aH ?_
  obtain⟨ey,ez,hb⟩:=bd hb
  obtain⟨e3,e4,hb⟩:=bd hb
  refine RC.FJ E V mixed [1,1,1,1,1,0,1,0,0,1,1,1,0,0,0,0,1,1,0,1,1,0] [7,8,13,14,15,18,21] (fun(x:Value×Value×Value×Value×Value)=>(fun ay a1 a0 aq ax=>[(0,205,(vp b0 0)),(1,206,(vp b0 0)),(2,207,(vp b0 0)),(3,208,(vp b0 0)),(4,209,(vp b0 10)),(5,210,bl),(6,211,(vi bh.2)),(7,212,ay),(8,213,aq),(9,214,(vp b0 0)),(10,215,(vp b0 0)),(11,216,(vp b0 11)),(12,217,a6),(13,218,a1),(14,219,a0),(15,220,ax),(16,221,(vp b0 0)),(17,222,(vp b0 10)),(19,223,(vp b0 0)),(20,224,(vp b0 11))]) x.1 x.2.1 x.2.2.1 x.2.2.2.1 x.2.2.2.2) [(0,vp b0 0),(15,vp b8 0),(17,vi bh.2),(170,v0_3),(171,vi p0_3.length),(172,vi b2)] [] (fun(D:Nat->Bool) (x:Value×Value×Value×Value×Value)=>(fun ay a1 a0 aq ax=>[bif D 1 then (rd ay ([bh.2]: (List Int))) else (bif D 0 then (own 3 ay ([bh.2]: (List Int))) else bC),bif D 2 then (rd a1 ba.1) else bC,bif D 4 then (rd a0 ([ba.1]: (List km))) else (bif D 3 then (own 98 a0 ([ba.1]: (List km))) else bC),bif D 6 then (bc 44 b0 [v0_0,v0_1,v0_2,v0_3,v0_4,v0_5,v0_6,aj,a3,a4,aq,ax]) else (bif D 5 then (bc 44 b0 [v0_0,v0_1,v0_2,v0_3,v0_4,v0_5,v0_6,aj,a3,a4,aq,a6]) else (bc 44 b0 [v0_0,v0_1,v0_2,v0_3,v0_4,v0_5,v0_6,aj,a3,a4,bl,a6])),rd v0_2 p0_2,rd v0_3 p0_3,rd v0_5 p0_5,rd v0_6 p0_6,own 47 aj us877,iu aU us877 bh.1 none,rd a3 ai.2.1,rd a4 ai.2.2.1,bif D 1 then (own 3 aq ey) else (own 3 bl ai.2.2.2.1),bif D 4 then (own 98 ax e3) else (own 98 a6 ai.2.2.2.2),bx 98 b8 ba.1]) x.1 x.2.1 x.2.2.1 x.2.2.2.1 x.2.2.2.2) (fun x=>by kernel_rfl) ?_ ⟨fun _=>jF gn,fun _=>jF gn,fun _=>jF gn,fun _=>wT gn,fun _=>nK gn G6,?_,fun _=>jF gn,?_,?_,fun _=>jF gn,fun _=>wT gn,fun _=>nK gn G7,?_,?_,?_,?_,fun _=>wT gn,fun _=>nK gn G6,?_,fun _=>wT gn,fun _=>nK gn G7,?_,trivial⟩ ?_
  ·have o:=(((o.drew).bC).bC).bC
   exact⟨(undef,undef,undef,undef,undef),fP.none,(Eu zr),zt,o⟩
  ·rintro D U w hD ae ab ⟨⟨ay,a1,a0,aq,ax⟩,hv,ha,_,o⟩
   obtain⟨O,rfl⟩:=(ac (hv.at 4 rfl (ae.1 rfl)) az).fH
   have o:=(o.cB 3 (nh ab hD 21)).cB 3 (nh ab hD 18)
   refine RL.bI 3 bl o eY ?_
   have o:=(o.eW 3 (D 18) (nh ab hD 18) (bc 44 b0 [v0_0,v0_1,v0_2,v0_3,v0_4,v0_5,v0_6,aj,a3,a4,aq,a6])).eW 3 (D 21) (nh ab hD 21) (bc 44 b0 [v0_0,v0_1,v0_2,v0_3,v0_4,v0_5,v0_6,aj,a3,a4,aq,ax])
   exact RL.nil ⟨rfl,(ay,a1,a0,aq,ax),hv.pu 5,ha.u,zt,o⟩
  ·rintro D U w hD ae ab ⟨⟨ay,a1,a0,aq,ax⟩,hv,ha,_,o⟩
   obtain⟨O,rfl⟩:=(ac (hv.at 6 rfl (ae.1 rfl)) az).fH
   have o:=((o.cB 0 (nh ab hD 8)).cB 0 hD).sc Int bh.2
   refine RL.dR ([bh.2]: (List Int)) o [(vi bh.2)] dW A1 (fun M hs g=>⟨(g.sat 0 _ zr).1,zt⟩) fun dp w o=>?_
   have o:=((o.pl 17 [0,3,4,5,6,7,8,9,10,11,12,13,14,15,16]).cQ 0 true rfl bC).eW 0 (D 8) (nh ab hD 8) (rd dp ([bh.2]: (List Int)))
   exact RL.nil ⟨rfl,(dp,a1,a0,aq,ax),hv.pu 7,ha.u,zt,o⟩
  ·rintro D U w hD ae ab ⟨⟨ay,a1,a0,aq,ax⟩,hv,ha,_,o⟩
   obtain⟨O,rfl⟩:=(ac (hv.at 5 rfl (ae.1 rfl)) (ac (hv.at 7 rfl (ae.2.1 rfl)) az)).fH
   have o:=(((((o.cB 0 hD).cP 0 (ae.2.1 rfl)).cB 3 (nh ab hD 21)).cB 3 (nh ab hD 18)).cB 12 hD).freeze 0
   refine RL.app 12 0 o pC ez fun c4 w o=>?_
   have o:=((o.cQ 0 true rfl (bif D 7 then (own 3 ay ([bh.2]: (List Int))) else bC)).eW 3 (D 18) (nh ab hD 18) (bc 44 b0 [v0_0,v0_1,v0_2,v0_3,v0_4,v0_5,v0_6,aj,a3,a4,c4,a6])).eW 3 (D 21) (nh ab hD 21) (bc 44 b0 [v0_0,v0_1,v0_2,v0_3,v0_4,v0_5,v0_6,aj,a3,a4,c4,ax])
   have o:=o.cQ 12 true rfl (own 3 bl ai.2.2.2.1)
   exact RL.nil ⟨rfl,(ay,a1,a0,c4,ax),hv.pu 8,ha.u,zt,o⟩
  ·rintro D U w hD ae ab ⟨⟨ay,a1,a0,aq,ax⟩,hv,ha,_,o⟩
   obtain⟨O,rfl⟩:=(ac (hv.at 11 rfl (ae.1 rfl)) az).fH
   have o:=(o.cB 3 (nh ab hD 21)).cB 3 (nh ab hD 18)
   refine RL.bI 3 a6 o KX ?_
   have o:=(o.eW 3 (D 18) (nh ab hD 18) (bc 44 b0 [v0_0,v0_1,v0_2,v0_3,v0_4,v0_5,v0_6,aj,a3,a4,aq,a6])).eW 3 (D 21) (nh ab hD 21) (bc 44 b0 [v0_0,v0_1,v0_2,v0_3,v0_4,v0_5,v0_6,aj,a3,a4,aq,ax])
   exact RL.nil ⟨rfl,(ay,a1,a0,aq,ax),hv.pu 12,ha.u,zt,o⟩
  ·rintro D U w hD ae ab ⟨⟨ay,a1,a0,aq,ax⟩,hv,ha,_,o⟩
   obtain⟨O,rfl⟩:=(ac (ha.at 1 rfl) az).fH
   have o:=o.cB 1 hD
   refine RL.bE (f:=(fun x=>x)) 14 o zr Fd.self uu fun e5 o=>?_
   have o:=(o.pl 16 [1,0,3,4,5,6,7,8,9,10,11,12,13,14,15]).cQ 1 true rfl bC
   exact RL.nil ⟨rfl,(ay,e5,a0,aq,ax),hv.pu 13,ha.u,zt,o⟩
  ·rintro D U w hD ae ab ⟨⟨ay,a1,a0,aq,ax⟩,hv,ha,_,o⟩
   obtain⟨O,rfl⟩:=(ac (hv.at 13 rfl (ae.1 rfl)) az).fH
   have o:=((o.cP 1 (ae.1 rfl)).cB 2 (nh ab hD 15)).cB 2 hD
   refine RL.dR ([ba.1]: (List km)) o [a1] Mx G5 (fun M hs g=>⟨(g.sat 1 _ zr).1,zt⟩) fun dq w o=>?_
   have o:=(((o.pl 16 [1,2,0,4,5,6,7,8,9,10,11,12,13,14,15]).cQ 1 (D 13) (ae.1 rfl) bC).cQ 2 true rfl bC).eW 2 (D 15) (nh ab hD 15) (rd dq ([ba.1]: (List km)))
   exact RL.nil ⟨rfl,(ay,a1,dq,aq,ax),hv.pu 14,ha.u,zt,o⟩
  ·rintro D U w hD ae ab ⟨⟨ay,a1,a0,aq,ax⟩,hv,ha,_,o⟩
   obtain⟨O,rfl⟩:=(ac (hv.at 12 rfl (ae.1 rfl)) (ac (hv.at 14 rfl (ae.2.1 rfl)) az)).fH
   have o:=(((((o.cB 2 hD).cP 2 (ae.2.1 rfl)).cB 3 (nh ab hD 21)).cB 3 (nh ab hD 18)).cB 13 hD).freeze 2
   refine RL.app 13 2 o My e4 fun dr w o=>?_
   have o:=((o.cQ 2 true rfl (bif D 14 then (own 98 a0 ([ba.1]: (List km))) else bC)).eW 3 (D 18) (nh ab hD 18) (bc 44 b0 [v0_0,v0_1,v0_2,v0_3,v0_4,v0_5,v0_6,aj,a3,a4,aq,a6])).eW 3 (D 21) (nh ab hD 21) (bc 44 b0 [v0_0,v0_1,v0_2,v0_3,v0_4,v0_5,v0_6,aj,a3,a4,aq,dr])
   have o:=o.cQ 13 true rfl (own 98 a6 ai.2.2.2.2)
   exact RL.nil ⟨rfl,(ay,a1,a0,aq,dr),hv.pu 15,ha.u,zt,o⟩
  ·rintro D U w hD ae ab ⟨⟨ay,a1,a0,aq,ax⟩,hv,ha,_,o⟩
   obtain⟨O,rfl⟩:=(ac (hv.at 8 rfl (ae.2.1 rfl)) (ac (hv.at 17 rfl (ae.1 rfl)) az)).fH
   have o:=((o.cB 3 (nh ab hD 21)).cB 3 hD).cP 12 (ae.2.1 rfl)
   refine RL.iw 3 aq o zr zr (iM 12 o) eY fun w o=>?_
   have o:=((o.cQ 3 true rfl (bc 44 b0 [v0_0,v0_1,v0_2,v0_3,v0_4,v0_5,v0_6,aj,a3,a4,bl,a6])).eW 3 (D 21) (nh ab hD 21) (bc 44 b0 [v0_0,v0_1,v0_2,v0_3,v0_4,v0_5,v0_6,aj,a3,a4,aq,ax])).cQ 12 (D 8) (ae.2.1 rfl) (own 3 bl ai.2.2.2.1)
   exact RL.nil ⟨rfl,(ay,a1,a0,aq,ax),hv.n1,ha,zt,o⟩
  ·rintro D U w hD ae ab ⟨⟨ay,a1,a0,aq,ax⟩,hv,ha,_,o⟩
   obtain⟨O,rfl⟩:=(ac (hv.at 15 rfl (ae.2.1 rfl)) (ac (hv.at 19 rfl (ae.1 rfl)) az)).fH
   have o:=((o.cB 3 hD).cP 3 (ae.2.2.1 rfl)).cP 13 (ae.2.1 rfl)
   refine RL.iw 3 ax o zr zr (iM 13 o) KX fun w o=>?_
   have o:=(o.cQ 3 true rfl (bif D 18 then (bc 44 b0 [v0_0,v0_1,v0_2,v0_3,v0_4,v0_5,v0_6,aj,a3,a4,aq,a6]) else (bc 44 b0 [v0_0,v0_1,v0_2,v0_3,v0_4,v0_5,v0_6,aj,a3,a4,bl,a6]))).cQ 13 (D 15) (ae.2.1 rfl) (own 98 a6 ai.2.2.2.2)
   exact RL.nil ⟨rfl,(ay,a1,a0,aq,ax),hv.n1,ha,zt,o⟩
  rintro D U w a7 ⟨⟨ay,a1,a0,aq,ax⟩,hv,ha,_,o⟩
  have o:=(((((o.cP 0 (kQ a7 8)).cP 1 (kQ a7 13)).cP 2 (kQ a7 15)).cP 3 (kQ a7 21)).cP 12 (kQ a7 8)).cP 13 (kQ a7 15)
  obtain⟨O,rfl⟩:=(ac (ha.at 0 rfl) (ac (ha.at 1 rfl) (ac (ha.at 2 rfl) (ac (ha.at 3 rfl) (ac (ha.at 4 rfl) (ac (ha.at 5 rfl) az)))))).fH
  refine bM (aH (RC.region (RL.inc hk hm (mv (vi ((b2+1:Nat):Int)) (RL.nil ?_)))))
  obtain rfl:=oi hb
  exact⟨rfl,a3,a4,aq,ax,us877,o.sp 15 [3,10,11,12,13,4,5,6,7,8,9]⟩
 rintro _ w ⟨cp,cq,cr,ct,us824,O,rfl,o⟩
 obtain rfl:=oi hb
 have o:=o.zu (X:=aU) (b:=10) (j:=9) rfl (fun M h u x cs=>w7 M h u x cs) rfl rfl (by decide)
 refine CE ?_
 exact HW zr ⟨aj,cp,cq,cr,ct,zr,o.pk 11 [0,9,1,2,3,4]⟩
def vP (E:World) (V:List HP) (res:Option ((List (List aI))×(List aI)×(List cE)×(List fW)×(List (List aA))×(List aK)×(List (List Int))×(List cC)×(List Int)×(List Int)×(List Int)×(List km))×Int) (v:Value) (w:World):Prop:=GL res.1 (v = .tuple #[(.pointer none),(vi res.2)]/\Holds E w V) (fun y=>∃(ub0:Nat) (u0_0 u0_1:Value) (u0_2 u0_3:Value) (u0_4 u0_5:Value) (u0_6 u0_7:Value) (u0_8 u0_9:Value) (u0_10 u0_11:Value),v = .tuple #[vp ub0 0,(vi res.2)]/\Holds E w ([bc 44 ub0 [u0_0,u0_1,u0_2,u0_3,u0_4,u0_5,u0_6,u0_7,u0_8,u0_9,u0_10,u0_11],rd u0_0 y.1,rd u0_1 y.2.1,rd u0_2 y.2.2.1,rd u0_3 y.2.2.2.1,own 74 u0_4 y.2.2.2.2.1,rd u0_5 y.2.2.2.2.2.1,rd u0_6 y.2.2.2.2.2.2.1,own 47 u0_7 y.2.2.2.2.2.2.2.1,rd u0_8 y.2.2.2.2.2.2.2.2.1,rd u0_9 y.2.2.2.2.2.2.2.2.2.1,own 3 u0_10 y.2.2.2.2.2.2.2.2.2.2.1,own 98 u0_11 y.2.2.2.2.2.2.2.2.2.2.2]++V))
def rI (E:World) (V:List HP) (r:Option ((List (List aI))×(List aI)×(List cE)×(List fW)×(List (List aA))×(List aK)×(List (List Int))×(List cC)×(List Int)×(List Int)×(List Int)×(List km))×Int) (U:Nat->Value) (w:World):Prop:=mh bO 112 Tryz.f10 (vP E V r) .ret U w
theorem uK {p0:k7} {res:Option ((List (List aI))×(List aI)×(List cE)×(List fW)×(List (List aA))×(List aK)×(List (List Int))×(List cC)×(List Int)×(List Int)×(List Int)×(List km))×Int} (j:Holds E w V) (h0:V[i0]? =some (rd v0 p0)) (o:i5 N p0=some res):
    Calls bO 10 [v0].toArray w (gW (vP E V res)):=by
 unfold i5 at o
 refine enter Tryz.func10 zr zr ?_
 have j:=j.dup (i0+0) h0
 refine RC.sr (RL.dJ 0 v0 j zr fun ao w j=>?_)
 refine aQ (.pointer none) (aQ (vi 0) (RL.nq (RC.sr (RL.aX zr mx (RL.bE 0 j zr jc pB fun c1 j=>(RL.bA 0 p0.aJ j qw (ic ((p0.aJ.length:Int)) 0 (RL.nt ?_))))))))
 refine dU o (fun hc o=>?_) fun hc o=>?_
 ·refine RC.sr (aQ (.pointer none) (aQ (vi 9) (RL.nt (RC.rt ?_))))
  obtain rfl:=oi o
  exact qq ⟨rfl,j.drop 3⟩
 refine RC.ss (RC.sr (RL.aX zr mx (RL.bE 1 j zr jc pB fun c2 j=>(RL.bA 0 p0.aJ j qw (ic ((p0.aJ.length:Int)) 16 (RL.nt (dU o (fun hc o=>?_) fun hc o=>?_)))))))
 ·refine RC.sr (aQ (.pointer none) (aQ (vi 2) (RL.nt (RC.rt ?_))))
  obtain rfl:=oi o
  exact qq ⟨rfl,j.drop 4⟩
 refine RC.sx (RL.aX zr B6 (RL.bE 2 j zr rT tR fun c3 j=>(RL.bA 0 p0.cG j nc (aQ (vi p0.cG.length) (RL.nq (RC.sr (RL.aX zr mx (RL.bE 3 j zr jc pB fun bo j=>?_))))))))
 refine RL.bA 0 p0.aJ j qw (mv (vi 0) (RL.nt ?_))
 obtain⟨c4,hN,o⟩:=bd o
 refine RC.range (fun(bj:Nat) (ax:Int)=>SH E V [(1,vp ao 0),(4,vi ax),(28,bo),(29,vi p0.aJ.length),(30,vi bj)] [bx 27 ao p0,rd bo p0.aJ]) (fun(ax:Int)=>SH E V [(1,vp ao 0),(4,vi ax)] [bx 27 ao p0,rd bo p0.aJ]) (rI E V) hN ?_ ?_ ?_ ?_ ?_
 ·exact j.sp 6 [4,0]
 ·rintro hm ax _ w ⟨O,rfl,j⟩
  refine RC.sr (ic ((p0.aJ.length:Int)) ((p0.aJ.length:Int)) (RL.nq (RC.fO tG (RC.ex ?_))))
  exact⟨rfl,j.sp 2 [0,1]⟩
 ·rintro hm bj ax fl _ w hk ⟨O,rfl,j⟩ o
  refine RC.sr (ic ((bj:Int)) ((p0.aJ.length:Int)) (RL.nq (RC.fN (tF hk) (RC.ss (RC.bs ?_)))))
  obtain⟨bk,bw,o⟩:=bd o
  refine RL.bP 1 j uk bw fun c5 j=>(RL.bL 0 bk j tR fun bl j=>(aQ bl (RL.nq (RC.sr (mv bl ?_)))))
  obtain⟨a7,bz,o⟩:=bd o
  refine RL.call zt zr Kv [bl] zr (aD (pd N (i0:=0) j zr bz) ?_)
  rintro _ w ⟨rfl,j⟩
  refine aQ (vi a7) (RL.ns (mv (vi a7) (ic a7 0 (RL.nt (dU o (fun hc o=>?_) fun hc o=>?_)))))
  ·refine RC.sr (mv (vi a7) (aQ (.pointer none) (aQ (vi a7) (RL.nt (RC.rt (ot (bT ?_)))))))
   obtain rfl:=oi o
   exact⟨rfl,qq ⟨rfl,j.drop 4⟩⟩
  refine RC.sn (RC.region (mv (vi ax) (mv bl (RL.bA 0 bk j nc (RL.gl ax (bk.length:Int) (aQ (vi (IntKind.wrap .i64 (ax+ (bk.length:Int)))) (RL.nil (bM ?_))))))))
  refine aH (RC.region (RL.inc hk hm (mv (vi ((bj+1:Nat):Int)) (RL.nil ?_))))
  obtain rfl:=oi o
  exact⟨rfl,j.sp 4 [2,3]⟩
 ·intro r U w e hK
  subst e
  refine bT ?_
  obtain rfl:=oi o
  exact hK
 rintro ax _ w rfl ⟨O,rfl,j⟩
 rw [Fo.dA] at o
 refine aH (RC.seq (RC.sr (RL.aX zr B6 (RL.bE 0 j zr rT tR fun b0 j=>?_))))
 obtain⟨a9,b1,o⟩:=bd o
 refine RL.call zt zr Kv [b0] zr (aD (pd N (i0:=0) j zr b1) ?_)
 rintro _ w ⟨rfl,j⟩
 refine aQ (vi a9) (RL.ns (mv (vi a9) (ic a9 0 (RL.nt (dU o (fun hc o=>?_) fun hc o=>?_)))))
 ·refine RC.sr (mv (vi a9) (aQ (.pointer none) (aQ (vi a9) (RL.nt (RC.rt ?_)))))
  obtain rfl:=oi o
  exact qq ⟨rfl,j.drop 3⟩
 refine RC.ss (RC.sr (mv (vi ax) (ic ax 2000 (RL.nt (dU o (fun hc o=>?_) fun hc o=>?_)))))
 ·refine RC.sr (aQ (.pointer none) (aQ (vi 2) (RL.nt (RC.rt ?_))))
  obtain rfl:=oi o
  exact qq ⟨rfl,j.drop 3⟩
 refine RC.ss (RC.sr (RL.bE (f:=(fun x=>x)) 1 j zr Fd.self tQ fun b2 j=>?_))
 obtain⟨ba,b3,o⟩:=bd o
 refine RL.call zt zr L7 [b2] zr (aD (uA N (i0:=0) j zr b3) ?_)
 rintro _ w ⟨rfl,j⟩
 refine aQ (vi ba) (RL.ns (mv (vi ba) (ic ba 0 (RL.nt (dU o (fun hc o=>?_) fun hc o=>?_)))))
 ·refine RC.sr (mv (vi ba) (aQ (.pointer none) (aQ (vi ba) (RL.nt (RC.rt ?_)))))
  obtain rfl:=oi o
  exact qq ⟨rfl,j.drop 4⟩
 refine RC.ss (RC.sr (RL.bE (f:=(fun x=>x)) 2 j zr Fd.self tQ fun b4 j=>?_))
 obtain⟨bb,b5,o⟩:=bd o
 refine RL.call zt zr Me [b4] zr (aD (uD N (i0:=0) j zr b5) ?_)
 rintro _ w ⟨rfl,j⟩
 refine aQ (vi bb) (RL.ns (mv (vi bb) (ic bb 0 (RL.nt (dU o (fun hc o=>?_) fun hc o=>?_)))))
 ·refine RC.sr (mv (vi bb) (aQ (.pointer none) (aQ (vi bb) (RL.nt (RC.rt ?_)))))
  obtain rfl:=oi o
  exact qq ⟨rfl,j.drop 5⟩
 refine RC.ss (RC.sr (RL.aX zr gK (RL.bE 3 j zr gj mZ fun av j=>(RL.bA 0 p0.aM j um (mv (vi 0) (RL.nt ?_))))))
 obtain⟨c6,hN,o⟩:=bd o
 refine RC.range (fun(aw:Nat) (bm:Unit)=>SH E V [(1,vp ao 0),(63,av),(64,vi p0.aM.length),(65,vi aw)] [bx 27 ao p0,rd av p0.aM]) (fun(bm:Unit)=>SH E V [(1,vp ao 0)] [bx 27 ao p0,rd av p0.aM]) (rI E V) hN ?_ ?_ ?_ ?_ ?_
 ·exact j.sp 6 [4,0]
 ·rintro hm bm _ w ⟨O,rfl,j⟩
  refine RC.sr (ic ((p0.aM.length:Int)) ((p0.aM.length:Int)) (RL.nq (RC.fO tG (RC.ex ?_))))
  exact⟨rfl,j.sp 2 [0,1]⟩
 ·rintro hm aw bm fl _ w hk ⟨O,rfl,j⟩ o
  refine RC.sr (ic ((aw:Int)) ((p0.aM.length:Int)) (RL.nq (RC.fN (tF hk) (RC.ss (RC.bs (mv (vi aw) ?_))))))
  obtain⟨ad,b6,o⟩:=bd o
  refine RL.bP 1 j pE b6 fun c7 j=>(RL.bL 0 ad j lE fun c8 j=>(RL.alloc j Dj.z fun an w j=>?_))
  refine aQ (vi aw) (RL.cA 0 j 1 zr lE fun w j=>?_)
  refine RL.ns (RL.aX zr gK (RL.bE 3 j zr gj mZ fun c9 j=>(mv (vi aw) ?_)))
  obtain⟨tO,b7,o⟩:=bd o
  refine RL.cut (hl:= .inr ⟨rfl,zr⟩) 0 j pE (.inl zr) b7 fun a1 j=>(RL.bA 0 tO j um (mv (vi 0) (RL.nt ?_)))
  obtain⟨da,hN,o⟩:=bd o
  refine RC.range (fun(a4:Nat) (bn:Unit)=>SH E V [(1,vp ao 0),(12,vp an 0),(63,av),(64,vi p0.aM.length),(65,vi aw),(73,a1),(74,vi tO.length),(75,vi a4)] [bx 27 ao p0,bx 57 an ad,rd av p0.aM,rd a1 tO]) (fun(bn:Unit)=>SH E V [(1,vp ao 0),(63,av),(64,vi p0.aM.length),(65,vi aw)] [bx 27 ao p0,bx 57 an ad,rd av p0.aM,rd a1 tO]) (rI E V) hN ?_ ?_ ?_ ?_ ?_
  ·exact j.sp 7 [5,2,6,0]
  ·rintro hm bn _ w ⟨O,rfl,j⟩
   refine RC.sr (ic ((tO.length:Int)) ((tO.length:Int)) (RL.nq (RC.fO tG (RC.ex ?_))))
   exact⟨rfl,j.sp 4 [0,1,2,3]⟩
  ·rintro hm a4 bn fl _ w hk ⟨O,rfl,j⟩ o
   refine RC.sr (ic ((a4:Int)) ((tO.length:Int)) (RL.nq (RC.fN (tF hk) (RC.ss (RC.bs ?_)))))
   obtain⟨ab,b8,o⟩:=bd o
   refine RL.bP 3 j pE b8 fun bt j=>(RL.bL 0 ab j lE fun bu j=>(RL.alloc j Dj.z fun au w j=>?_))
   refine RL.cA 0 j 1 zr lE fun w j=>?_
   refine RL.nq ?_
   obtain⟨bp,hj,o⟩:=bd o
   refine RC.jn (fun(bp:Bool)=>SH E V [(1,vp ao 0),(12,vp an 0),(63,av),(64,vi p0.aM.length),(65,vi aw),(73,a1),(74,vi tO.length),(75,vi a4),(98,vb bp)] [bx 27 ao p0,bx 57 an ad,rd av p0.aM,rd a1 tO]) bp ?_ ?_
   ·refine fC hj (fun ar hj=>?_) fun ar hj=>?_
    rotate_left
    ·refine RC.FJ E V mixed [1,0,1,0,1,1,0,0,0,0,0,0,1,1,1,1,1,1,1,1] [] (fun(x:Unit)=>[(0,79,(vp an 3)),(1,80,(vi ad.cM)),(2,81,(vp au 4)),(3,82,(vi ab.To)),(4,83,(vb (decide (ad.cM<=ab.To)))),(5,84,(vb (decide (ad.cM<=ab.To)))),(6,85,(cv (true&&((decide (ad.cM<=ab.To))==true)) (vp au 3))),(7,86,(cv (true&&((decide (ad.cM<=ab.To))==true)) (vi ab.cM))),(8,87,(cv (true&&((decide (ad.cM<=ab.To))==true)) (vp an 4))),(9,88,(cv (true&&((decide (ad.cM<=ab.To))==true)) (vi ad.To))),(10,89,(cv (true&&((decide (ad.cM<=ab.To))==true)) (vb (decide (ab.cM<=ad.To))))),(11,90,(vb ((decide (ad.cM<=ab.To))&&(decide (ab.cM<=ad.To))))),(12,91,(vb ((decide (ad.cM<=ab.To))&&(decide (ab.cM<=ad.To))))),(13,92,undef),(14,93,undef),(15,94,undef),(16,95,undef),(17,96,undef),(18,97,undef),(19,98,(vb false))]) [(1,vp ao 0),(12,vp an 0),(14,vp au 0),(63,av),(64,vi p0.aM.length),(65,vi aw),(73,a1),(74,vi tO.length),(75,vi a4)] [] (fun(D:Nat->Bool) (x:Unit)=>[bx 57 au ab,rd bu ab,pt bt ab,bx 27 ao p0,bx 57 an ad,rd av p0.aM,rd a1 tO]) (fun x=>by kernel_rfl) ?_ ⟨fun _=>nK gn pF,?_,fun _=>nK gn rA,?_,fun _=>Jt gn rfl,fun _=>jF gn,?_,?_,?_,?_,?_,?_,fun _=>jF gn,fun _=>rR ar,fun _=>rR ar,fun _=>rR ar,fun _=>rR ar,fun _=>rR ar,fun _=>rR ar,fun _=>Kk gn ar rfl,trivial⟩ ?_
     ·have j:=j.drew
      exact⟨(),fP.none,(Eu zr),zt,j⟩
     ·rintro D U w hD af al ⟨_,hv,ha,_,j⟩
      obtain⟨O,rfl⟩:=(ac (hv.at 0 rfl (af.1 rfl)) az).fH
      refine RL.aN 4 j zr kz cJ ?_
      exact RL.nil ⟨rfl,(),hv.pu 1,ha.u,zt,j⟩
     ·rintro D U w hD af al ⟨_,hv,ha,_,j⟩
      obtain⟨O,rfl⟩:=(ac (hv.at 2 rfl (af.1 rfl)) az).fH
      refine RL.aN 0 j zr lW cJ ?_
      exact RL.nil ⟨rfl,(),hv.pu 3,ha.u,zt,j⟩
     ·rintro D U w hD af al ⟨_,hv,ha,_,j⟩
      obtain⟨O,rfl⟩:=(ac (hv.at 5 rfl (af.1 rfl)) (ac (ha.at 2 rfl) az)).fH
      refine RL.gs true (decide (ad.cM<=ab.To)) (vp au 3) zr zr zr (eA pF) ?_
      exact RL.nil ⟨rfl,(),hv.pu 6,ha.u,zt,j⟩
     ·rintro D U w hD af al ⟨_,hv,ha,_,j⟩
      obtain⟨O,rfl⟩:=(ac (hv.at 5 rfl (af.2.1 rfl)) (ac (hv.at 6 rfl (af.1 rfl)) az)).fH
      refine RL.gs true (decide (ad.cM<=ab.To)) (vi ab.cM) rfl rfl rfl (bZ 0 rfl j (fun h=>by exact(cK h:cv (true&&((decide (ad.cM<=ab.To))==true)) (vp au 3)= (vp au 3))) rfl kz cJ) ?_
      exact RL.nil ⟨rfl,(),hv.pu 7,ha.u,zt,j⟩
     ·rintro D U w hD af al ⟨_,hv,ha,_,j⟩
      obtain⟨O,rfl⟩:=(ac (hv.at 5 rfl (af.1 rfl)) (ac (ha.at 1 rfl) az)).fH
      refine RL.gs true (decide (ad.cM<=ab.To)) (vp an 4) zr zr zr (eA rA) ?_
      exact RL.nil ⟨rfl,(),hv.pu 8,ha.u,zt,j⟩
     ·rintro D U w hD af al ⟨_,hv,ha,_,j⟩
      obtain⟨O,rfl⟩:=(ac (hv.at 5 rfl (af.2.1 rfl)) (ac (hv.at 8 rfl (af.1 rfl)) az)).fH
      refine RL.gs true (decide (ad.cM<=ab.To)) (vi ad.To) rfl rfl rfl (bZ 4 rfl j (fun h=>by exact(cK h:cv (true&&((decide (ad.cM<=ab.To))==true)) (vp an 4)= (vp an 4))) rfl lW cJ) ?_
      exact RL.nil ⟨rfl,(),hv.pu 9,ha.u,zt,j⟩
     ·rintro D U w hD af al ⟨_,hv,ha,_,j⟩
      obtain⟨O,rfl⟩:=(ac (hv.at 5 rfl (af.2.2.1 rfl)) (ac (hv.at 7 rfl (af.1 rfl)) (ac (hv.at 9 rfl (af.2.1 rfl)) az))).fH
      refine RL.gs true (decide (ad.cM<=ab.To)) (vb (decide (ab.cM<=ad.To))) rfl rfl rfl (dI .leq .i64 ab.cM ad.To rfl (fun h=>by exact(cK h:cv (true&&((decide (ad.cM<=ab.To))==true)) (vi ab.cM)= (vi ab.cM))) (fun h=>by exact(cK h:cv (true&&((decide (ad.cM<=ab.To))==true)) (vi ad.To)= (vi ad.To))) rfl) ?_
      exact RL.nil ⟨rfl,(),hv.pu 10,ha.u,zt,j⟩
     ·rintro D U w hD af al ⟨_,hv,ha,_,j⟩
      obtain⟨O,rfl⟩:=(ac (hv.at 5 rfl (af.1 rfl)) (ac (hv.at 10 rfl (af.2.1 rfl)) az)).fH
      refine RL.pick (decide (ad.cM<=ab.To)) (vb ((decide (ad.cM<=ab.To))&&(decide (ab.cM<=ad.To)))) (gr true zr) ?_
      exact RL.nil ⟨rfl,(),hv.pu 11,ha.u,zt,j⟩
     rintro D U w a5 ⟨_,hv,ha,_,j⟩
     obtain⟨O,rfl⟩:=(ac (hv.at 19 rfl (kQ a5 19)) (ac (ha.at 0 rfl) (ac (ha.at 1 rfl) (ac (ha.at 2 rfl) (ac (ha.at 3 rfl) (ac (ha.at 4 rfl) (ac (ha.at 5 rfl) (ac (ha.at 6 rfl) (ac (ha.at 7 rfl) (ac (ha.at 8 rfl) az)))))))))).fH
     obtain rfl:=oi hj
     exact⟨rfl,j.sp 7 [3,4,5,6]⟩
    obtain⟨b9,ca,hj⟩:=bd hj
    obtain⟨cb,cc,hj⟩:=bd hj
    obtain⟨bq,cd,hj⟩:=bd hj
    refine RC.FJ E V mixed [1,0,1,0,1,1,0,0,0,0,0,0,1,0,0,0,0,0,1,1] [13,14,15,16] (fun(x:Value×Value×Value×Value)=>(fun ag ah ai aj=>[(0,79,(vp an 3)),(1,80,(vi ad.cM)),(2,81,(vp au 4)),(3,82,(vi ab.To)),(4,83,(vb (decide (ad.cM<=ab.To)))),(5,84,(vb (decide (ad.cM<=ab.To)))),(6,85,(cv (true&&((decide (ad.cM<=ab.To))==true)) (vp au 3))),(7,86,(cv (true&&((decide (ad.cM<=ab.To))==true)) (vi ab.cM))),(8,87,(cv (true&&((decide (ad.cM<=ab.To))==true)) (vp an 4))),(9,88,(cv (true&&((decide (ad.cM<=ab.To))==true)) (vi ad.To))),(10,89,(cv (true&&((decide (ad.cM<=ab.To))==true)) (vb (decide (ab.cM<=ad.To))))),(11,90,(vb ((decide (ad.cM<=ab.To))&&(decide (ab.cM<=ad.To))))),(12,91,(vb ((decide (ad.cM<=ab.To))&&(decide (ab.cM<=ad.To))))),(13,92,ag),(14,93,ah),(15,94,ai),(16,95,aj),(17,96,(vi bq)),(18,97,(vb (bq==0))),(19,98,(vb (bq==0)))]) x.1 x.2.1 x.2.2.1 x.2.2.2) [(1,vp ao 0),(12,vp an 0),(14,vp au 0),(63,av),(64,vi p0.aM.length),(65,vi aw),(73,a1),(74,vi tO.length),(75,vi a4)] [] (fun(D:Nat->Bool) (x:Value×Value×Value×Value)=>(fun ag ah ai aj=>[bif D 0 then (rd ag ad) else bC,bif D 1 then (rd ah b9) else bC,bif D 2 then (rd ai ab) else bC,bif D 3 then (rd aj cb) else bC,bx 57 au ab,rd bu ab,pt bt ab,bx 27 ao p0,bx 57 an ad,rd av p0.aM,rd a1 tO]) x.1 x.2.1 x.2.2.1 x.2.2.2) (fun x=>by kernel_rfl) ?_ ⟨fun _=>nK gn pF,?_,fun _=>nK gn rA,?_,fun _=>Jt gn rfl,fun _=>jF gn,?_,?_,?_,?_,?_,?_,fun _=>jF gn,?_,?_,?_,?_,?_,fun _=>Jt (gy ar) rfl,fun _=>Kj gn ar rfl,trivial⟩ ?_
    ·have j:=((((j.drew).bC).bC).bC).bC
     exact⟨(undef,undef,undef,undef),fP.none,(Eu zr),zt,j⟩
    ·rintro D U w hD af al ⟨⟨ag,ah,ai,aj⟩,hv,ha,_,j⟩
     obtain⟨O,rfl⟩:=(ac (hv.at 0 rfl (af.1 rfl)) az).fH
     refine RL.aN 8 j zr kz cJ ?_
     exact RL.nil ⟨rfl,(ag,ah,ai,aj),hv.pu 1,ha.u,zt,j⟩
    ·rintro D U w hD af al ⟨⟨ag,ah,ai,aj⟩,hv,ha,_,j⟩
     obtain⟨O,rfl⟩:=(ac (hv.at 2 rfl (af.1 rfl)) az).fH
     refine RL.aN 4 j zr lW cJ ?_
     exact RL.nil ⟨rfl,(ag,ah,ai,aj),hv.pu 3,ha.u,zt,j⟩
    ·rintro D U w hD af al ⟨⟨ag,ah,ai,aj⟩,hv,ha,_,j⟩
     obtain⟨O,rfl⟩:=(ac (hv.at 5 rfl (af.1 rfl)) (ac (ha.at 2 rfl) az)).fH
     refine RL.gs true (decide (ad.cM<=ab.To)) (vp au 3) zr zr zr (eA pF) ?_
     exact RL.nil ⟨rfl,(ag,ah,ai,aj),hv.pu 6,ha.u,zt,j⟩
    ·rintro D U w hD af al ⟨⟨ag,ah,ai,aj⟩,hv,ha,_,j⟩
     obtain⟨O,rfl⟩:=(ac (hv.at 5 rfl (af.2.1 rfl)) (ac (hv.at 6 rfl (af.1 rfl)) az)).fH
     refine RL.gs true (decide (ad.cM<=ab.To)) (vi ab.cM) rfl rfl rfl (bZ 4 rfl j (fun h=>by exact(cK h:cv (true&&((decide (ad.cM<=ab.To))==true)) (vp au 3)= (vp au 3))) rfl kz cJ) ?_
     exact RL.nil ⟨rfl,(ag,ah,ai,aj),hv.pu 7,ha.u,zt,j⟩
    ·rintro D U w hD af al ⟨⟨ag,ah,ai,aj⟩,hv,ha,_,j⟩
     obtain⟨O,rfl⟩:=(ac (hv.at 5 rfl (af.1 rfl)) (ac (ha.at 1 rfl) az)).fH
     refine RL.gs true (decide (ad.cM<=ab.To)) (vp an 4) zr zr zr (eA rA) ?_
     exact RL.nil ⟨rfl,(ag,ah,ai,aj),hv.pu 8,ha.u,zt,j⟩
    ·rintro D U w hD af al ⟨⟨ag,ah,ai,aj⟩,hv,ha,_,j⟩
     obtain⟨O,rfl⟩:=(ac (hv.at 5 rfl (af.2.1 rfl)) (ac (hv.at 8 rfl (af.1 rfl)) az)).fH
     refine RL.gs true (decide (ad.cM<=ab.To)) (vi ad.To) rfl rfl rfl (bZ 8 rfl j (fun h=>by exact(cK h:cv (true&&((decide (ad.cM<=ab.To))==true)) (vp an 4)= (vp an 4))) rfl lW cJ) ?_
     exact RL.nil ⟨rfl,(ag,ah,ai,aj),hv.pu 9,ha.u,zt,j⟩
    ·rintro D U w hD af al ⟨⟨ag,ah,ai,aj⟩,hv,ha,_,j⟩
     obtain⟨O,rfl⟩:=(ac (hv.at 5 rfl (af.2.2.1 rfl)) (ac (hv.at 7 rfl (af.1 rfl)) (ac (hv.at 9 rfl (af.2.1 rfl)) az))).fH
     refine RL.gs true (decide (ad.cM<=ab.To)) (vb (decide (ab.cM<=ad.To))) rfl rfl rfl (dI .leq .i64 ab.cM ad.To rfl (fun h=>by exact(cK h:cv (true&&((decide (ad.cM<=ab.To))==true)) (vi ab.cM)= (vi ab.cM))) (fun h=>by exact(cK h:cv (true&&((decide (ad.cM<=ab.To))==true)) (vi ad.To)= (vi ad.To))) rfl) ?_
     exact RL.nil ⟨rfl,(ag,ah,ai,aj),hv.pu 10,ha.u,zt,j⟩
    ·rintro D U w hD af al ⟨⟨ag,ah,ai,aj⟩,hv,ha,_,j⟩
     obtain⟨O,rfl⟩:=(ac (hv.at 5 rfl (af.1 rfl)) (ac (hv.at 10 rfl (af.2.1 rfl)) az)).fH
     refine RL.pick (decide (ad.cM<=ab.To)) (vb ((decide (ad.cM<=ab.To))&&(decide (ab.cM<=ad.To)))) (gr true zr) ?_
     exact RL.nil ⟨rfl,(ag,ah,ai,aj),hv.pu 11,ha.u,zt,j⟩
    ·rintro D U w hD af al ⟨⟨ag,ah,ai,aj⟩,hv,ha,_,j⟩
     obtain⟨O,rfl⟩:=(ac (hv.at 12 rfl (af.1 rfl)) (ac (ha.at 1 rfl) az)).fH
     have j:=j.cB 0 hD
     refine RL.bE (hg:=(cg ar)) (f:=(fun x=>x)) 8 j zr Fd.self lE fun cf j=>?_
     have j:=(j.pl 12 [0,2,3,4,5,6,7,8,9,10,11]).cQ 0 true rfl bC
     exact RL.nil ⟨rfl,(cf,ah,ai,aj),hv.pu 13,ha.u,zt,j⟩
    ·rintro D U w hD af al ⟨⟨ag,ah,ai,aj⟩,hv,ha,_,j⟩
     obtain⟨O,rfl⟩:=(ac (hv.at 12 rfl (af.2.1 rfl)) (ac (hv.at 13 rfl (af.1 rfl)) az)).fH
     have j:=(j.cP 0 (af.1 rfl)).cB 1 hD
     refine RL.call (cg ar) zr FN [ag] zr (aD (jo N (i0:=0) j zr ca) ?_)
     rintro ch w j
     have j:=((j.pl 12 [1,0,3,4,5,6,7,8,9,10,11]).cQ 0 (D 13) (af.1 rfl) bC).cQ 1 true rfl bC
     exact RL.nil ⟨rfl,(ag,ch,ai,aj),hv.pu 14,ha.u,zt,j⟩
    ·rintro D U w hD af al ⟨⟨ag,ah,ai,aj⟩,hv,ha,_,j⟩
     obtain⟨O,rfl⟩:=(ac (hv.at 12 rfl (af.1 rfl)) (ac (ha.at 2 rfl) az)).fH
     have j:=j.cB 2 hD
     refine RL.bE (hg:=(cg ar)) (f:=(fun x=>x)) 4 j zr Fd.self lE fun cj j=>?_
     have j:=(j.pl 12 [1,2,0,4,5,6,7,8,9,10,11]).cQ 2 true rfl bC
     exact RL.nil ⟨rfl,(ag,ah,cj,aj),hv.pu 15,ha.u,zt,j⟩
    ·rintro D U w hD af al ⟨⟨ag,ah,ai,aj⟩,hv,ha,_,j⟩
     obtain⟨O,rfl⟩:=(ac (hv.at 12 rfl (af.2.2.1 rfl)) (ac (hv.at 15 rfl (af.1 rfl)) az)).fH
     have j:=(j.cP 2 (af.1 rfl)).cB 3 hD
     refine RL.call (cg ar) zr FN [ai] zr (aD (jo N (i0:=2) j zr cc) ?_)
     rintro ck w j
     have j:=((j.pl 12 [1,2,3,0,5,6,7,8,9,10,11]).cQ 2 (D 15) (af.1 rfl) bC).cQ 3 true rfl bC
     exact RL.nil ⟨rfl,(ag,ah,ai,ck),hv.pu 16,ha.u,zt,j⟩
    ·rintro D U w hD af al ⟨⟨ag,ah,ai,aj⟩,hv,ha,_,j⟩
     obtain⟨O,rfl⟩:=(ac (hv.at 12 rfl (af.2.2.2.1 rfl)) (ac (hv.at 14 rfl (af.1 rfl)) (ac (hv.at 16 rfl (af.2.1 rfl)) az))).fH
     have j:=(j.cP 1 (af.1 rfl)).cP 3 (af.2.1 rfl)
     refine RL.call (cg ar) zr Mf [ah,aj] zr (aD (Cf N (i0:=1) (i1:=3) j zr zr cd) ?_)
     rintro _ w ⟨rfl,j⟩
     have j:=(j.cQ 1 (D 14) (af.1 rfl) bC).cQ 3 (D 16) (af.2.1 rfl) bC
     exact RL.nil ⟨rfl,(ag,ah,ai,aj),hv.pu 17,ha.u,zt,j⟩
    rintro D U w a5 ⟨⟨ag,ah,ai,aj⟩,hv,ha,_,j⟩
    have j:=(((j.cP 0 (kQ a5 13)).cP 1 (kQ a5 14)).cP 2 (kQ a5 15)).cP 3 (kQ a5 16)
    obtain⟨O,rfl⟩:=(ac (hv.at 19 rfl (kQ a5 19)) (ac (ha.at 0 rfl) (ac (ha.at 1 rfl) (ac (ha.at 2 rfl) (ac (ha.at 3 rfl) (ac (ha.at 4 rfl) (ac (ha.at 5 rfl) (ac (ha.at 6 rfl) (ac (ha.at 7 rfl) (ac (ha.at 8 rfl) az)))))))))).fH
    obtain rfl:=oi hj
    exact⟨rfl,j.sp 11 [7,8,9,10]⟩
   rintro _ w ⟨O,rfl,j⟩
   refine aH (dU o (fun hc o=>?_) fun hc o=>?_)
   rotate_left
   ·refine RC.skip (bM (aH (RC.region (RL.inc hk hm (mv (vi ((a4+1:Nat):Int)) (RL.nil ?_))))))
    obtain rfl:=oi o
    exact⟨rfl,j.sp 4 [0,1,2,3]⟩
   refine RC.sr (aQ (.pointer none) (aQ (vi 12) (RL.nt (RC.rb (bT ?_)))))
   obtain rfl:=oi o
   exact⟨rfl,qq ⟨rfl,j.drop 4⟩⟩
  ·intro r U w e hK
   subst e
   refine ot (bT ?_)
   obtain rfl:=oi o
   exact⟨rfl,hK⟩
  rintro bn _ w rfl ⟨O,rfl,j⟩
  rw [Fo.dA] at o
  refine bM (aH (RC.region (RL.inc hk hm (mv (vi ((aw+1:Nat):Int)) (RL.nil ?_)))))
  obtain rfl:=oi o
  exact⟨rfl,j.sp 4 [0,2]⟩
 ·intro r U w e hK
  subst e
  refine bT ?_
  obtain rfl:=oi o
  exact hK
 rintro bm _ w rfl ⟨O,rfl,j⟩
 rw [Fo.dA] at o
 refine aH (RC.sr (RL.bE (f:=(fun x=>x)) 0 j zr Fd.self tQ fun cl j=>?_))
 obtain⟨cs,hcs,hv224,j⟩:=j.E1 (i:=0) rfl rfl
 obtain⟨bc,bf,bg,bh,rfl⟩:=Kb hcs
 have j:=(((j.nn (i:=0) (k:=0) (f:=fun x=>x.aJ) rfl jc rfl rfl rfl).nn (i:=1) (k:=1) (f:=fun x=>x.cG) rfl rT rfl rfl rfl).nn (i:=2) (k:=2) (f:=fun x=>x.aM) rfl gj rfl rfl rfl).nn (i:=3) (k:=3) (f:=fun x=>x.bV) rfl oy rfl rfl rfl
 refine RL.GM (zs:=[(.slice none 0 0),(.slice none 0 0),(.slice none 0 0),(.slice none 0 0),(.slice none 0 0),(.slice none 0 0),(.slice none 0 0),(.slice none 0 0),(.slice none 0 0),(.slice none 0 0),(.slice none 0 0),(.slice none 0 0)]) (cs:=[bc,bf,bg,bh,(.slice none 0 0),(.slice none 0 0),(.slice none 0 0),(.slice none 0 0),(.slice none 0 0),(.slice none 0 0),(.slice none 0 0),(.slice none 0 0)]) zt zr [(0,cl)] [(0,[bc,bf,bg,bh])] zr Mg ⟨rfl,(congrArg Value.cells hv224),zt⟩ zr (RL.BW [bc,bf,bg,bh,(.slice none 0 0),(.slice none 0 0),(.slice none 0 0),(.slice none 0 0),(.slice none 0 0),(.slice none 0 0),(.slice none 0 0),(.slice none 0 0)] zr j zr (wO.all (⟨(nF 3 j),(nF 2 j),(nF 1 j),(nF 0 j),zr,zr,zr,zr,zr,zr,zr,zr,zt⟩:wO [bc,bf,bg,bh,(.slice none 0 0),(.slice none 0 0),(.slice none 0 0),(.slice none 0 0),(.slice none 0 0),(.slice none 0 0),(.slice none 0 0),(.slice none 0 0)])) fun a0 w j=>?_)
 refine aQ (vp a0 0) (RL.nq (RC.sr (mv (vp a0 0) ?_)))
 have j:=((((((j.cO (List aA) 74).cO aK 90).pull 0).pull 2).dup 6 rfl).dup 9 rfl).pull 6
 obtain⟨cm,cn,o⟩:=bd o
 refine RL.call zt zr Mo [(vp a0 0)] zr (aD (tU N j cn) ?_)
 rintro _ w ⟨cp,cq,rfl,j⟩
 refine RL.not cm.1 (RL.nt (dU o (fun hc o=>?_) fun hc o=>?_))
 ·refine RC.sr (aQ (.pointer none) (aQ (vi 2) (RL.nt (RC.rt ?_))))
  obtain rfl:=oi o
  exact qq ⟨rfl,j.drop 14⟩
 refine RC.sx (mv (vp a0 0) ?_)
 have j:=(((((j.freeze 2).cO (List Int) 28).pull 0).dup 4 rfl).dup 10 rfl).pull 4
 obtain⟨db,cr,o⟩:=bd o
 refine RL.call zt zr Mr [(vp a0 0)] zr (aD (tV N j cr) ?_)
 rintro _ w ⟨ct,rfl,j⟩
 refine RL.ns (mv (vp a0 0) ?_)
 have j:=((((((((((((j.freeze 1).cO Int 3).cO Int 3).cO Int 3).cO km 98).pull 0).pull 2).pull 4).pull 6).dup 9 rfl).dup 14 rfl).dup 19 rfl).dup 21 rfl
 have j:=j.pull 12
 obtain⟨dc,cu,o⟩:=bd o
 refine RL.call zt zr Mz [(vp a0 0)] zr (aD (po N j cu) ?_)
 rintro _ w ⟨cw,cx,cy,cz,c0,rfl,j⟩
 refine RL.ns (mv (vp a0 0) (aQ (vp a0 0) (aQ (vi 0) (RL.nt (RC.ret ?_)))))
 obtain rfl:=oi o
 exact qq ⟨a0,bc,bf,bg,bh,cp,cq,ct,cw,cx,cy,cz,c0,zr,j.pk 27 [0,22,21,20,19,14,15,11,1,2,3,4,5]⟩
theorem xp {p0:k7} {res: (List Int)×Int} (j:Holds E w V) (h0:V[i0]? =some (rd v0 p0)) (hb:ka N p0=some res):
    Calls bO 4 [v0].toArray w (gW (oR E V res)):=by
 unfold ka at hb
 refine enter Tryz.func4 zr zr ?_
 have j:=j.dup (i0+0) h0
 refine RC.sr (RL.dJ 0 v0 j zr fun bk w j=>?_)
 refine aQ (.slice none 0 0) (aQ (vi 0) (RL.ns (RL.bE (f:=(fun x=>x)) 0 j zr Fd.self tQ fun ba j=>?_)))
 obtain⟨ab,bb,hb⟩:=bd hb
 refine RL.call zt zr KY [ba] zr (aD (uK N (i0:=0) j zr bb) ?_)
 rintro _ w hK49
 rcases az:ab.1 with _ | o
 ·replace hb:=Kf az hb
  obtain⟨rfl,j⟩:=IU az hK49
  refine mv (.tuple #[(.pointer none),(vi ab.2)]) (RL.extract (.pointer none) (RL.extract (vi ab.2) (aQ (.pointer none) (aQ (vi ab.2) (RL.nq (RC.sr (mv (vi ab.2) (ic ab.2 0 ?_))))))))
  refine RL.nt (dU hb (fun hc hb=>?_) fun hc hb=>?_)
  rotate_left
  ·cases hb
  refine RC.sr (mv (vi ab.2) (aQ (.slice none 0 0) (aQ (vi ab.2) (RL.nt (RC.rt ?_)))))
  obtain rfl:=oi hb
  have j:=j.cO Int 3
  exact qq ⟨(.slice none 0 0),zr,j.pk 4 [0]⟩
 replace hb:=Kg az hb
 obtain⟨ae,ai,aj,ak,al,an,ao,aq,ag,af,ar,au,av,rfl,j⟩:=IV az hK49
 refine mv (.tuple #[(vp ae 0),(vi ab.2)]) (RL.extract (vp ae 0) (RL.extract (vi ab.2) (aQ (vp ae 0) (aQ (vi ab.2) (RL.nq (RC.sr (mv (vi ab.2) (ic ab.2 0 ?_))))))))
 refine RL.nt (dU hb (fun hc hb=>?_) fun hc hb=>?_)
 ·refine RC.sr (mv (vi ab.2) (aQ (.slice none 0 0) (aQ (vi ab.2) (RL.nt (RC.rt ?_)))))
  obtain rfl:=oi hb
  have j:=j.cO Int 3
  exact qq ⟨(.slice none 0 0),zr,j.pk 17 [0]⟩
 refine RC.sx (aQ (.slice none 0 0) (RL.nq (RC.sr (mv (vp ae 0) (RL.nilCheck zr (RL.aX zr B8 (RL.bI 0 af j eY (RL.bA 9 o.2.2.2.2.2.2.2.2.1 j ly ?_))))))))
 refine mv (vi 0) (RL.nt ?_)
 obtain⟨aw,hN,hb⟩:=bd hb
 refine RC.fold (fun(ad:Nat) (aw: (List Int)) U w=>∃a4:Value,SH E V [(4,vp ae 0),(6,a4),(20,af),(21,vi o.2.2.2.2.2.2.2.2.1.length),(22,vi ad)] [bc 44 ae [ai,aj,ak,al,an,ao,aq,ag,af,ar,au,av],rd ai o.1,rd aj o.2.1,rd ak o.2.2.1,rd al o.2.2.2.1,own 74 an o.2.2.2.2.1,rd ao o.2.2.2.2.2.1,rd aq o.2.2.2.2.2.2.1,own 47 ag o.2.2.2.2.2.2.2.1,rd af o.2.2.2.2.2.2.2.2.1,rd ar o.2.2.2.2.2.2.2.2.2.1,own 3 au o.2.2.2.2.2.2.2.2.2.2.1,own 98 av o.2.2.2.2.2.2.2.2.2.2.2,own 3 a4 aw] U w) (fun(aw: (List Int)) U w=>∃ax:Value,SH E V [(6,ax)] [bc 44 ae [ai,aj,ak,al,an,ao,aq,ag,af,ar,au,av],rd ai o.1,rd aj o.2.1,rd ak o.2.2.1,rd al o.2.2.2.1,own 74 an o.2.2.2.2.1,rd ao o.2.2.2.2.2.1,rd aq o.2.2.2.2.2.2.1,own 47 ag o.2.2.2.2.2.2.2.1,rd af o.2.2.2.2.2.2.2.2.1,rd ar o.2.2.2.2.2.2.2.2.2.1,own 3 au o.2.2.2.2.2.2.2.2.2.2.1,own 98 av o.2.2.2.2.2.2.2.2.2.2.2,own 3 ax aw] U w) hN ?_ ?_ ?_ ?_
 ·have j:=j.cO Int 3
  exact⟨(.slice none 0 0),j.sp 17 [1,2,3,4,5,6,7,8,9,10,11,12,13,0]⟩
 ·rintro hm aw _ w ⟨bg,O,rfl,j⟩
  refine RC.sr (ic ((o.2.2.2.2.2.2.2.2.1.length:Int)) ((o.2.2.2.2.2.2.2.2.1.length:Int)) (RL.nq (RC.fO tG (RC.ex ?_))))
  exact⟨rfl,bg,j.sp 14 [0,1,2,3,4,5,6,7,8,9,10,11,12,13]⟩
 ·rintro hm ad aw s' _ w hk ⟨a7,O,rfl,j⟩ hb
  refine RC.sr (ic ((ad:Int)) ((o.2.2.2.2.2.2.2.2.1.length:Int)) (RL.nq (RC.fN (tF hk) (RC.ss (RC.bs (mv (vi ad) ?_))))))
  obtain⟨a2,bh,hb⟩:=bd hb
  refine RL.bP 9 j dW bh fun bl j=>(RL.bD a2 0 j cJ (aQ (vi ad) (aQ (vi a2) (RL.ns (mv (vp ae 0) (RL.nilCheck zr (RL.aX zr wc (RL.bI 1 ag j rC ?_))))))))
  refine mv (vi a2) ?_
  obtain⟨a8,a0,hb⟩:=bd hb
  refine RL.bQ 9 j zr zr xc a0 (RL.jV (α:=cC) (jg 9 j a0 0) yf (RL.ju 9 j (jg 9 j a0 2) (bF a0).2.1 zM FU fun bm j=>?_))
  refine RL.bA 0 a8.eL j KZ (ic ((a8.eL.length:Int)) 0 (RL.nt ?_))
  obtain⟨a3,hj,hb⟩:=bd hb
  refine RC.jn (fun(a3: (List Int)) U w=>∃a1:Value,SH E V [(4,vp ae 0),(6,a1),(20,af),(21,vi o.2.2.2.2.2.2.2.2.1.length),(22,vi ad)] [bc 44 ae [ai,aj,ak,al,an,ao,aq,ag,af,ar,au,av],rd ai o.1,rd aj o.2.1,rd ak o.2.2.1,rd al o.2.2.2.1,own 74 an o.2.2.2.2.1,rd ao o.2.2.2.2.2.1,rd aq o.2.2.2.2.2.2.1,own 47 ag o.2.2.2.2.2.2.2.1,rd af o.2.2.2.2.2.2.2.2.1,rd ar o.2.2.2.2.2.2.2.2.2.1,own 3 au o.2.2.2.2.2.2.2.2.2.2.1,own 98 av o.2.2.2.2.2.2.2.2.2.2.2,own 3 a1 a3] U w) a3 ?_ ?_
  ·refine dU hj (fun hc hj=>?_) fun hc hj=>?_
   rotate_left
   ·refine RC.skip ?_
    obtain rfl:=oi hj
    exact⟨rfl,a7,j.sp 16 [2,3,4,5,6,7,8,9,10,11,12,13,14,15]⟩
   refine RC.region (mv a7 (mv (vi ad) ?_))
   have j:=j.sc Int (ad:Int)
   refine RL.dR ([(ad:Int)]: (List Int)) j [(vi ad)] dW A1 (fun M hs g=>⟨(g.sat 0 _ zr).1,zt⟩) fun bn w j=>?_
   have j:=j.freeze 0
   obtain⟨bo,bj,hj⟩:=bd hj
   refine RL.app 17 0 j pC bj fun a9 w j=>?_
   refine aQ a9 (RL.nil ?_)
   obtain rfl:=oi hj
   exact⟨rfl,a9,j.sp 18 [4,5,6,7,8,9,10,11,12,13,14,15,16,17]⟩
  rintro _ w ⟨a1,O,rfl,j⟩
  refine bM (aH (RC.region (RL.inc hk hm (mv (vi ((ad+1:Nat):Int)) (RL.nil ?_)))))
  obtain rfl:=oi hb
  exact⟨rfl,a1,j.sp 14 [0,1,2,3,4,5,6,7,8,9,10,11,12,13]⟩
 rintro _ w ⟨ax,O,rfl,j⟩
 refine aH (RC.sr (mv ax (aQ ax (aQ (vi 0) (RL.nt (RC.ret ?_))))))
 obtain rfl:=oi hb
 exact qq ⟨ax,zr,j.pk 14 [13]⟩
theorem r8 {res:Bool} (o:Holds E w V) (j:mw N p0 p1 p2=some res):
    Calls bO 116 [(vi p0),(vi p1),(vi p2)].toArray w (gW (aV E V res)):=by
 unfold mw at j
 refine enter Tryz.func116 zr zr (RC.sr (aQ (vb false) (RL.ns (mv (vi p0) (mv (vi p1) (ic p0 p1 (mv (vb (decide (p0>=p1))) (RL.gs true (decide (p0>=p1)) (vi p0) zr zr zr cH ?_))))))))
 refine RL.gs true (decide (p0>=p1)) (vi p2) rfl rfl rfl cH (RL.gs true (decide (p0>=p1)) (vb (decide (p0<=p2))) rfl rfl rfl (dI .leq .i64 p0 p2 rfl (fun h=>by exact(cK h:cv (true&&((decide (p0>=p1))==true)) (vi p0)= (vi p0))) (fun h=>by exact(cK h:cv (true&&((decide (p0>=p1))==true)) (vi p2)= (vi p2))) rfl) (RL.pick (decide (p0>=p1)) (vb ((decide (p0>=p1))&&(decide (p0<=p2)))) (gr true rfl) (aQ (vb ((decide (p0>=p1))&&(decide (p0<=p2)))) (RL.nt (RC.ret ?_)))))
 obtain rfl:=oi j
 exact bX ⟨rfl,o.drop 0⟩
theorem eK {res:Bool} (o:Holds E w V) (j:cR N p0=some res):
    Calls bO 93 [(vi p0)].toArray w (gW (aV E V res)):=by
 unfold cR at j
 refine enter Tryz.func93 zr zr (RC.sr (aQ (vb false) (RL.ns (mv (vi p0) ?_))))
 obtain⟨aa,ab,j⟩:=bd j
 refine RL.call zt zr K0 [(vi p0),(vi (-1000000)),(vi 1000000)] zr (aD (r8 N (p0:=p0) (p1:=(-1000000)) (p2:=1000000) o ab) ?_)
 rintro _ w ⟨rfl,o⟩
 refine aQ (vb aa) (RL.nt (RC.ret ?_))
 obtain rfl:=oi j
 exact bX ⟨rfl,o.drop 0⟩
end Go.Gk
