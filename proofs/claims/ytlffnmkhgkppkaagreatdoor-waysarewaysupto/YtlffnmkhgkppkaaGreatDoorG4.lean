/-
  Printed texts: Go functions as plain functions, and that they are. No statement of the seed is proved here.
-/
import Derived.Test.YtlffnmkhgkppkaaGreatDoorG1
import Derived.Test.YtlffnmkhgkppkaaGreatDoorG2
import Derived.Test.YtlffnmkhgkppkaaGreatDoorG3
import Derived.Test.YtlffnmkhgkppkaaGreatDoorA2
set_option linter.unusedVariables false
set_option linter.unusedSimpArgs false
set_option linter.unusedSectionVars false
set_option maxRecDepth 100000
set_option maxHeartbeats 4000000
namespace Go.Gk
open Go Go.Proofs
variable (N:Nat) {E w:World} {b0 i0 i1:Nat} {res:Int} {v0 v0_0 v0_1 v0_10 v0_11 v0_2 v0_3 v0_4 v0_5 v0_6 v0_8 v0_9 v1 v2:Value} {V:List HP}
def oc (E:World) (V:List HP) (b0:Nat) (v0_0 v0_1:Value) (v0_2 v0_3:Value) (v0_4 v0_5 v0_6:Value) (res: (List dI)×(List Int)×(List Int)×(List Int)×(List bX)) (v:Value) (w:World):Prop:=∃u0_7 u0_8 u0_9 u0_10 u0_11:Value,v = .tuple #[]/\Holds E w ([bc 108 b0 [v0_0,v0_1,v0_2,v0_3,v0_4,v0_5,v0_6,u0_7,u0_8,u0_9,u0_10,u0_11],own 172 u0_7 res.1,rd u0_8 res.2.1,rd u0_9 res.2.2.1,own 3 u0_10 res.2.2.2.1,own 47 u0_11 res.2.2.2.2]++V)
theorem nW {p0_2: (List cH)} {p0_3: (List eW)} {p0_5: (List aN)} {p0_6: (List (List Int))} {p0_8: (List Int)} {p0_9: (List Int)} {p0_10: (List Int)} {p0_11: (List bX)} {res: (List dI)×(List Int)×(List Int)×(List Int)×(List bX)} (o:Holds E w (bc 108 b0 [v0_0,v0_1,v0_2,v0_3,v0_4,v0_5,v0_6,(.slice none 0 0),v0_8,v0_9,v0_10,v0_11]::rd v0_2 p0_2::rd v0_3 p0_3::rd v0_5 p0_5::rd v0_6 p0_6::own 3 v0_8 p0_8::own 3 v0_9 p0_9::own 3 v0_10 p0_10::own 47 v0_11 p0_11::V)) (hb:fE N p0_2 p0_3 p0_5 p0_6 p0_8 p0_9 p0_10 p0_11=some res):
    Calls bN 57 [(vp b0 0)].toArray w (iv (oc E V b0 v0_0 v0_1 v0_2 v0_3 v0_4 v0_5 v0_6 res)):=by
 unfold fE at hb
 refine enter Tryz.func57 zr zr (RC.sr (mv (vp b0 0) (RL.nilCheck zr (RL.bT zr tq (RL.bP 0 v0_5 o zI (RL.cC 3 p0_5 o D9 (aR (vi p0_5.length) (RL.ns ?_))))))))
 refine mv (vi p0_5.length) (mv (vp b0 0) (RL.nilCheck zr (RL.bT zr m6 (RL.bT zr oU (RL.bP 0 v0_2 o x5 (RL.cC 1 p0_2 o ze (RL.kr (p0_5.length:Int) (p0_2.length:Int) ?_)))))))
 obtain⟨e6,ds,hb⟩:=bd hb
 refine RL.call zt zr LA [(vi (IntKind.wrap .i64 ((p0_5.length:Int)+ (p0_2.length:Int))))] zr (aF (tW N (p0:=(IntKind.wrap .i64 ((p0_5.length:Int)+ (p0_2.length:Int)))) o ds) ?_)
 rintro _ w ⟨a9,dt,rfl,o⟩
 refine aR (vp a9 0) (RL.nq (RC.sr (mv (vp b0 0) (RL.nilCheck zr (RL.bT zr tr (RL.bP 2 v0_6 o zJ (RL.cC 6 p0_6 o Ed (mv (vi 0) ?_))))))))
 refine RL.nt ?_
 obtain⟨bz,hN,hb⟩:=bd hb
 refine RC.fold (fun(bj:Nat) (bz: (List Int)) U w=>∃c5:Value,SH E V [(0,vp b0 0),(2,vi p0_5.length),(3,vp a9 0),(35,v0_6),(36,vi p0_6.length),(37,vi bj)] [bc 108 b0 [v0_0,v0_1,v0_2,v0_3,v0_4,v0_5,v0_6,(.slice none 0 0),v0_8,v0_9,v0_10,v0_11],rd v0_2 p0_2,rd v0_3 p0_3,rd v0_5 p0_5,rd v0_6 p0_6,own 3 v0_8 p0_8,own 3 v0_9 p0_9,own 3 v0_10 p0_10,own 47 v0_11 p0_11,bc 195 a9 [c5],own 3 c5 bz] U w) (fun(bz: (List Int)) U w=>∃ca:Value,SH E V [(0,vp b0 0),(2,vi p0_5.length),(3,vp a9 0)] [bc 108 b0 [v0_0,v0_1,v0_2,v0_3,v0_4,v0_5,v0_6,(.slice none 0 0),v0_8,v0_9,v0_10,v0_11],rd v0_2 p0_2,rd v0_3 p0_3,rd v0_5 p0_5,rd v0_6 p0_6,own 3 v0_8 p0_8,own 3 v0_9 p0_9,own 3 v0_10 p0_10,own 47 v0_11 p0_11,bc 195 a9 [ca],own 3 ca bz] U w) hN ?_ ?_ ?_ ?_
 ·exact⟨dt,o.sp 11 [2,3,4,5,6,7,8,9,10,0,1]⟩
 ·rintro hm bz _ w ⟨du,O,rfl,o⟩
  refine RC.sr (ic ((p0_6.length:Int)) ((p0_6.length:Int)) (RL.nq (RC.dS pD (RC.ex ?_))))
  exact⟨rfl,du,o.sp 11 [0,1,2,3,4,5,6,7,8,9,10]⟩
 ·rintro hm bj bz s' _ w hk ⟨dv,O,rfl,o⟩ hb
  refine RC.sr (ic ((bj:Int)) ((p0_6.length:Int)) (RL.nq (RC.dR (pC hk) (RC.ss (RC.bs (mv (vi bj) ?_))))))
  obtain⟨bt,dw,hb⟩:=bd hb
  refine RL.cM 4 o vj dw fun e7 o=>(RL.cD 0 bt o fJ fun cb o=>(aR (vi bj) (aR cb (RL.ns (mv cb (RL.cC 0 bt o m0 (mv (vi 0) (RL.nt ?_))))))))
  obtain⟨b4,hN,hb⟩:=bd hb
  refine RC.fold (fun(cf:Nat) (b4: (List Int)) U w=>∃c6:Value,SH E V [(0,vp b0 0),(2,vi p0_5.length),(3,vp a9 0),(4,vi bj),(35,v0_6),(36,vi p0_6.length),(37,vi bj),(42,cb),(43,vi bt.length),(44,vi cf)] [bc 108 b0 [v0_0,v0_1,v0_2,v0_3,v0_4,v0_5,v0_6,(.slice none 0 0),v0_8,v0_9,v0_10,v0_11],rd v0_2 p0_2,rd v0_3 p0_3,rd v0_5 p0_5,rd v0_6 p0_6,own 3 v0_8 p0_8,own 3 v0_9 p0_9,own 3 v0_10 p0_10,own 47 v0_11 p0_11,bc 195 a9 [c6],own 3 c6 b4,rd cb bt] U w) (fun(b4: (List Int)) U w=>∃cg:Value,SH E V [(0,vp b0 0),(2,vi p0_5.length),(3,vp a9 0),(35,v0_6),(36,vi p0_6.length),(37,vi bj)] [bc 108 b0 [v0_0,v0_1,v0_2,v0_3,v0_4,v0_5,v0_6,(.slice none 0 0),v0_8,v0_9,v0_10,v0_11],rd v0_2 p0_2,rd v0_3 p0_3,rd v0_5 p0_5,rd v0_6 p0_6,own 3 v0_8 p0_8,own 3 v0_9 p0_9,own 3 v0_10 p0_10,own 47 v0_11 p0_11,bc 195 a9 [cg],own 3 cg b4,rd cb bt] U w) hN ?_ ?_ ?_ ?_
  ·exact⟨dv,o.sp 13 [2,3,4,5,6,7,8,9,10,11,12,0]⟩
  ·rintro hm b4 _ w ⟨dx,O,rfl,o⟩
   refine RC.sr (ic ((bt.length:Int)) ((bt.length:Int)) (RL.nq (RC.dS pD (RC.ex ?_))))
   exact⟨rfl,dx,o.sp 12 [0,1,2,3,4,5,6,7,8,9,10,11]⟩
  ·rintro hm cf b4 s' _ w hk ⟨e8,O,rfl,o⟩ hb
   refine RC.sr (ic ((cf:Int)) ((bt.length:Int)) (RL.nq (RC.dR (pC hk) (RC.ss (RC.bs ?_)))))
   obtain⟨cc,dy,hb⟩:=bd hb
   refine RL.cM 11 o fF dy fun e9 o=>(RL.bU cc 0 o dH (aR (vi cc) (RL.nt (RC.region (mv (vp a9 0) (mv (vi cc) (mv (vi p0_5.length) (mv (vi bj) ?_))))))))
   refine RL.kr (p0_5.length:Int) (bj:Int) ?_
   have o:=(o.pull 11).pull 11
   obtain⟨fa,dz,hb⟩:=bd hb
   refine RL.call zt zr LB [(vp a9 0),(vi cc),(vi (IntKind.wrap .i64 ((p0_5.length:Int)+ (bj:Int))))] zr (aF (rU N (p1:=cc) (p2:=(IntKind.wrap .i64 ((p0_5.length:Int)+ (bj:Int)))) o dz) ?_)
   rintro _ w ⟨d3,rfl,o⟩
   refine RL.nil (cG (aG (RC.region (RL.inc hk hm (mv (vi ((cf+1:Nat):Int)) (RL.nil ?_))))))
   obtain rfl:=oi hb
   exact⟨rfl,d3,o.sp 15 [3,4,5,6,7,8,9,10,11,0,1,14]⟩
  rintro _ w ⟨cg,O,rfl,o⟩
  refine cG (aG (RC.region (RL.inc hk hm (mv (vi ((bj+1:Nat):Int)) (RL.nil ?_)))))
  obtain rfl:=oi hb
  exact⟨rfl,cg,o.sp 12 [0,1,2,3,4,5,6,7,8,9,10]⟩
 rintro _ w ⟨ca,O,rfl,o⟩
 refine aG (RC.seq ?_)
 obtain⟨d4,d5,hb⟩:=bd hb
 obtain⟨d6,d7,hb⟩:=bd hb
 refine RC.D3 E V mixed [1,1,1,0,1,1,1,1,0,0,0,1,1,0,1,1,0] [3,10,13,16] (fun(x:Value×Value)=>(fun al an=>[(0,56,(vp b0 0)),(1,57,(vp b0 0)),(2,58,(vi p0_5.length)),(3,59,al),(4,60,(vp b0 0)),(5,61,(vp b0 0)),(6,62,(vp b0 0)),(7,63,(vp b0 2)),(8,64,v0_2),(9,65,(vi p0_2.length)),(10,66,an),(11,67,(vp b0 0)),(12,68,(vp b0 8)),(14,69,(vp b0 0)),(15,70,(vp b0 9))]) x.1 x.2) [(0,vp b0 0),(2,vi p0_5.length),(3,vp a9 0)] [] (fun(D:Nat->Bool) (x:Value×Value)=>(fun al an=>[bif D 0 then (own 3 al d4) else aW,bif D 1 then (own 3 an d6) else aW,bif D 3 then (bc 108 b0 [v0_0,v0_1,v0_2,v0_3,v0_4,v0_5,v0_6,(.slice none 0 0),al,an,v0_10,v0_11]) else (bif D 2 then (bc 108 b0 [v0_0,v0_1,v0_2,v0_3,v0_4,v0_5,v0_6,(.slice none 0 0),al,v0_9,v0_10,v0_11]) else (bc 108 b0 [v0_0,v0_1,v0_2,v0_3,v0_4,v0_5,v0_6,(.slice none 0 0),v0_8,v0_9,v0_10,v0_11])),rd v0_2 p0_2,rd v0_3 p0_3,rd v0_5 p0_5,rd v0_6 p0_6,own 3 v0_8 p0_8,own 3 v0_9 p0_9,own 3 v0_10 p0_10,own 47 v0_11 p0_11,bc 195 a9 [ca],own 3 ca bz]) x.1 x.2) (fun x=>by kernel_rfl) ?_ ⟨fun _=>g8 gn,fun _=>g8 gn,fun _=>g8 gn,?_,fun _=>g8 gn,fun _=>tM gn,fun _=>nn gn m6,fun _=>nn gn oU,?_,?_,?_,fun _=>tM gn,fun _=>nn gn AF,?_,fun _=>tM gn,fun _=>nn gn xG,?_,trivial⟩ ?_
 ·have o:=((o.drew).aW).aW
  exact⟨(undef,undef),eR.none,(CV zr),zt,o⟩
 ·rintro D U w hD ae ab ⟨⟨al,an⟩,hv,ha,_,o⟩
  obtain⟨O,rfl⟩:=(ac (hv.at 2 rfl (ae.1 rfl)) az).eQ
  have o:=((o.bS 0 hD).bS 2 (nh ab hD 16)).bS 2 (nh ab hD 13)
  refine RL.mk (p0_5.length:Int) o wy JH d5 fun cv w o=>?_
  have o:=(((o.pl 14 [0,2,3,4,5,6,7,8,9,10,11,12,13]).bZ 0 true rfl aW).fT 2 (D 13) (nh ab hD 13) (bc 108 b0 [v0_0,v0_1,v0_2,v0_3,v0_4,v0_5,v0_6,(.slice none 0 0),cv,v0_9,v0_10,v0_11])).fT 2 (D 16) (nh ab hD 16) (bc 108 b0 [v0_0,v0_1,v0_2,v0_3,v0_4,v0_5,v0_6,(.slice none 0 0),cv,an,v0_10,v0_11])
  exact RL.nil ⟨rfl,(cv,an),hv.pu 3,ha.u,zt,o⟩
 ·rintro D U w hD ae ab ⟨⟨al,an⟩,hv,ha,_,o⟩
  obtain⟨O,rfl⟩:=(ac (hv.at 7 rfl (ae.1 rfl)) az).eQ
  have o:=(o.bS 2 (nh ab hD 16)).bS 2 (nh ab hD 13)
  refine RL.bP 2 v0_2 o x5 ?_
  have o:=(o.fT 2 (D 13) (nh ab hD 13) (bc 108 b0 [v0_0,v0_1,v0_2,v0_3,v0_4,v0_5,v0_6,(.slice none 0 0),al,v0_9,v0_10,v0_11])).fT 2 (D 16) (nh ab hD 16) (bc 108 b0 [v0_0,v0_1,v0_2,v0_3,v0_4,v0_5,v0_6,(.slice none 0 0),al,an,v0_10,v0_11])
  exact RL.nil ⟨rfl,(al,an),hv.pu 8,ha.u,zt,o⟩
 ·rintro D U w hD ae ab ⟨⟨al,an⟩,hv,ha,_,o⟩
  obtain⟨O,rfl⟩:=(ac (hv.at 8 rfl (ae.1 rfl)) az).eQ
  refine RL.cC 3 p0_2 o ze ?_
  exact RL.nil ⟨rfl,(al,an),hv.pu 9,ha.u,zt,o⟩
 ·rintro D U w hD ae ab ⟨⟨al,an⟩,hv,ha,_,o⟩
  obtain⟨O,rfl⟩:=(ac (hv.at 9 rfl (ae.1 rfl)) az).eQ
  have o:=(o.bS 1 hD).bS 2 (nh ab hD 16)
  refine RL.mk (p0_2.length:Int) o wy JH d7 fun c7 w o=>?_
  have o:=((o.pl 14 [1,0,3,4,5,6,7,8,9,10,11,12,13]).bZ 1 true rfl aW).fT 2 (D 16) (nh ab hD 16) (bc 108 b0 [v0_0,v0_1,v0_2,v0_3,v0_4,v0_5,v0_6,(.slice none 0 0),al,c7,v0_10,v0_11])
  exact RL.nil ⟨rfl,(al,c7),hv.pu 10,ha.u,zt,o⟩
 ·rintro D U w hD ae ab ⟨⟨al,an⟩,hv,ha,_,o⟩
  obtain⟨O,rfl⟩:=(ac (hv.at 3 rfl (ae.2.1 rfl)) (ac (hv.at 12 rfl (ae.1 rfl)) az)).eQ
  have o:=((o.bY 0 (ae.2.1 rfl)).bS 2 (nh ab hD 16)).bS 2 hD
  refine RL.ka 2 al o zr zr (kC 0 o) fJ fun w o=>?_
  have o:=((o.bZ 0 (D 3) (ae.2.1 rfl) aW).bZ 2 true rfl (bc 108 b0 [v0_0,v0_1,v0_2,v0_3,v0_4,v0_5,v0_6,(.slice none 0 0),v0_8,v0_9,v0_10,v0_11])).fT 2 (D 16) (nh ab hD 16) (bc 108 b0 [v0_0,v0_1,v0_2,v0_3,v0_4,v0_5,v0_6,(.slice none 0 0),al,an,v0_10,v0_11])
  exact RL.nil ⟨rfl,(al,an),hv.n1,ha,zt,o⟩
 ·rintro D U w hD ae ab ⟨⟨al,an⟩,hv,ha,_,o⟩
  obtain⟨O,rfl⟩:=(ac (hv.at 10 rfl (ae.2.1 rfl)) (ac (hv.at 14 rfl (ae.1 rfl)) az)).eQ
  have o:=((o.bY 1 (ae.2.1 rfl)).bS 2 hD).bY 2 (ae.2.2.1 rfl)
  refine RL.ka 2 an o zr zr (kC 1 o) fJ fun w o=>?_
  have o:=(o.bZ 1 (D 10) (ae.2.1 rfl) aW).bZ 2 true rfl (bif D 13 then (bc 108 b0 [v0_0,v0_1,v0_2,v0_3,v0_4,v0_5,v0_6,(.slice none 0 0),al,v0_9,v0_10,v0_11]) else (bc 108 b0 [v0_0,v0_1,v0_2,v0_3,v0_4,v0_5,v0_6,(.slice none 0 0),v0_8,v0_9,v0_10,v0_11]))
  exact RL.nil ⟨rfl,(al,an),hv.n1,ha,zt,o⟩
 rintro D U w a7 ⟨⟨al,an⟩,hv,ha,_,o⟩
 have o:=((o.bY 0 (iT a7 3)).bY 1 (iT a7 10)).bY 2 (iT a7 16)
 obtain⟨O,rfl⟩:=(ac (ha.at 0 rfl) (ac (ha.at 1 rfl) (ac (ha.at 2 rfl) az))).eQ
 refine aG (RC.seq (RC.sr (mv (vp a9 0) ?_)))
 have o:=(o.pull 12).pull 12
 obtain⟨a8,d8,hb⟩:=bd hb
 refine RL.call zt zr Kl [(vp a9 0)] zr (aF (rV N o d8) ?_)
 rintro bk w ⟨_,fb,rfl,o⟩
 refine RL.eH 0 a8.1 o Ed (mv (vi 0) (RL.nt ?_))
 obtain⟨a5,hN,hb⟩:=bd hb
 refine RC.fold (fun(bo:Nat) (a5: (List dI)×(List Int)×(List Int)) U w=>∃(c8:Value) (us442:List cI),SH E V [(0,vp b0 0),(2,vi p0_5.length),(72,bk),(73,vi a8.1.length),(74,vi bo)] [bc 108 b0 [v0_0,v0_1,v0_2,v0_3,v0_4,v0_5,v0_6,c8,al,an,v0_10,v0_11],own 172 c8 us442,jm bW us442 a5.1 none,rd v0_2 p0_2,rd v0_3 p0_3,rd v0_5 p0_5,rd v0_6 p0_6,own 3 al a5.2.1,own 3 an a5.2.2,own 3 v0_10 p0_10,own 47 v0_11 p0_11,own 91 bk a8.1] U w) (fun(a5: (List dI)×(List Int)×(List Int)) U w=>∃(aj:Value) (us444:List cI),SH E V [(0,vp b0 0)] [bc 108 b0 [v0_0,v0_1,v0_2,v0_3,v0_4,v0_5,v0_6,aj,al,an,v0_10,v0_11],own 172 aj us444,jm bW us444 a5.1 none,rd v0_2 p0_2,rd v0_3 p0_3,rd v0_5 p0_5,rd v0_6 p0_6,own 3 al a5.2.1,own 3 an a5.2.2,own 3 v0_10 p0_10,own 47 v0_11 p0_11,own 91 bk a8.1] U w) hN ?_ ?_ ?_ ?_
 ·have o:=(o.Al bW).dC cI 172
  exact⟨(.slice none 0 0),([]:List cI),o.sp 18 [7,0,1,8,9,10,11,5,6,14,15,2]⟩
 ·rintro hm a5 _ w ⟨d9,us604,O,rfl,o⟩
  refine RC.sr (ic ((a8.1.length:Int)) ((a8.1.length:Int)) (RL.nq (RC.dS pD (RC.ex ?_))))
  exact⟨rfl,d9,us604,o.sp 12 [0,1,2,3,4,5,6,7,8,9,10,11]⟩
 ·rintro hm bo a5 s' _ w hk ⟨bg,us446,O,rfl,o⟩ hb
  refine RC.sr (ic ((bo:Int)) ((a8.1.length:Int)) (RL.nq (RC.dR (pC hk) (RC.ss (RC.bs ?_)))))
  obtain⟨bm,cw,hb⟩:=bd hb
  refine RL.bO 11 o zr zr vj cw (RL.gA (f:=(fun x=>x)) 11 o (ku 11 o cw 0) (bC cw).2.1 Fd.self fJ fun bp o=>?_)
  refine aR bp (RL.ns (RL.r8 o Km fun bu w o=>?_))
  refine RL.nq (RC.sr (mv bp (RL.cC 1 bm o m0 (mv (vi 0) (RL.nt ?_)))))
  obtain⟨ar,hN,hb⟩:=bd hb
  refine RC.fold (fun(b5:Nat) (ar: (List Int)×(List Int)×(List Int)×(List Int)) U w=>∃c9 da:Value,SH E V [(0,vp b0 0),(2,vi p0_5.length),(10,vp bu 0),(72,bk),(73,vi a8.1.length),(74,vi bo),(78,bp),(79,vi bm.length),(80,vi b5)] [bc 108 b0 [v0_0,v0_1,v0_2,v0_3,v0_4,v0_5,v0_6,bg,al,an,v0_10,v0_11],rd v0_2 p0_2,rd v0_3 p0_3,rd v0_5 p0_5,rd v0_6 p0_6,own 172 bg us446,jm bW us446 a5.1 none,own 3 al ar.1,own 3 an ar.2.1,own 3 v0_10 p0_10,own 47 v0_11 p0_11,bc 172 bu [c9,da,(.slice none 0 0)],own 3 c9 ar.2.2.1,own 3 da ar.2.2.2,own 91 bk a8.1,rd bp bm] U w) (fun(ar: (List Int)×(List Int)×(List Int)×(List Int)) U w=>∃bw bq:Value,SH E V [(0,vp b0 0),(2,vi p0_5.length),(10,vp bu 0),(72,bk),(73,vi a8.1.length),(74,vi bo)] [bc 108 b0 [v0_0,v0_1,v0_2,v0_3,v0_4,v0_5,v0_6,bg,al,an,v0_10,v0_11],rd v0_2 p0_2,rd v0_3 p0_3,rd v0_5 p0_5,rd v0_6 p0_6,own 172 bg us446,jm bW us446 a5.1 none,own 3 al ar.1,own 3 an ar.2.1,own 3 v0_10 p0_10,own 47 v0_11 p0_11,bc 172 bu [bw,bq,(.slice none 0 0)],own 3 bw ar.2.2.1,own 3 bq ar.2.2.2,own 91 bk a8.1,rd bp bm] U w) hN ?_ ?_ ?_ ?_
  ·have o:=(o.dC Int 3).dC Int 3
   exact⟨(.slice none 0 0),(.slice none 0 0),o.sp 16 [4,7,8,9,10,5,6,11,12,13,14,2,1,0,15,3]⟩
  ·rintro hm ar _ w ⟨ea,eb,O,rfl,o⟩
   refine RC.sr (ic ((bm.length:Int)) ((bm.length:Int)) (RL.nq (RC.dS pD (RC.ex ?_))))
   exact⟨rfl,ea,eb,o.sp 16 [0,1,2,3,4,5,6,7,8,9,10,11,12,13,14,15]⟩
  ·rintro hm b5 ar s' _ w hk ⟨ch,cx,O,rfl,o⟩ hb
   refine RC.sr (ic ((b5:Int)) ((bm.length:Int)) (RL.nq (RC.dR (pC hk) (RC.ss (RC.bs ?_)))))
   obtain⟨a2,ec,hb⟩:=bd hb
   refine RL.cM 15 o fF ec fun fc o=>(RL.bU a2 0 o dH (aR (vi a2) (RL.nt (RC.bs (mv (vi a2) (mv (vi p0_5.length) (ic a2 ((p0_5.length:Int)) (aR (vb (decide (a2< (p0_5.length:Int)))) ?_))))))))
   refine RL.nt ?_
   obtain⟨b6,hj,hb⟩:=bd hb
   refine RC.jn (fun(b6: (List Int)×(List Int)×(List Int)×(List Int)) U w=>∃cj ck:Value,SH E V [(0,vp b0 0),(2,vi p0_5.length),(10,vp bu 0),(72,bk),(73,vi a8.1.length),(74,vi bo),(78,bp),(79,vi bm.length),(80,vi b5)] [bc 108 b0 [v0_0,v0_1,v0_2,v0_3,v0_4,v0_5,v0_6,bg,al,an,v0_10,v0_11],rd v0_2 p0_2,rd v0_3 p0_3,rd v0_5 p0_5,rd v0_6 p0_6,own 172 bg us446,jm bW us446 a5.1 none,own 3 al b6.1,own 3 an b6.2.1,own 3 v0_10 p0_10,own 47 v0_11 p0_11,bc 172 bu [cj,ck,(.slice none 0 0)],own 3 cj b6.2.2.1,own 3 ck b6.2.2.2,own 91 bk a8.1,rd bp bm] U w) b6 ?_ ?_
   ·refine fU hj (fun hc hj=>?_) fun hc hj=>?_
    ·refine RC.seq (RC.Bj mixed [0,0,0,0,0,0,0,0,0,0,0,2] [0,1,2,3,4,5,6,7,8,9,10,11] ?_)
     have o:=o.drew
     refine DP.e0 zr (mv (vp b0 0) (bR zr (RL.nilCheck zr (bR zr (RL.bT zr AF (bR zr (RL.bP 1 al o fJ (bR zr ?_))))))))
     refine mv (vi a2) (bR zr (mv (vp b0 0) (bR zr (RL.nilCheck zr (bR zr (RL.bT zr tt (bR zr (RL.bP 1 bg o zK ?_))))))))
     refine bR zr (RL.r9 6 7 a5.1 o Ip (bR zr ?_))
     obtain⟨fe,cy,hj⟩:=bd hj
     refine RL.bO 8 o zr zr fF cy (u6 zr ?_)
     have o:=o.sc Int (a5.1.length:Int)
     refine RL.iJ (f:=(fun _ y=>y)) 9 0 o (ku 9 o cy 0) (bC cy).2.1 zr Fs.self dH fun w o=>?_
     refine DP.d2 zt (DP.z (aG (RC.region (RL.bT zr AG (RL.bP 13 ch o fJ (mv (vi a2) ?_))))))
     have o:=o.sc Int a2
     refine RL.fD ([a2]: (List Int)) o [(vi a2)] fF Hd (fun M hs g=>⟨(g.sat 0 _ zr).1,zt⟩) fun ff w o=>?_
     have o:=o.freeze 0
     obtain⟨fg,ed,hj⟩:=bd hj
     refine RL.app 16 0 o wy ed fun db w o=>?_
     refine RL.bT zr AG (RL.ka 15 db o zr zr (kC 16 o) fJ fun w o=>?_)
     refine RL.nil ?_
     obtain rfl:=oi hj
     exact⟨rfl,db,cx,o.sp 20 [4,5,6,7,8,9,10,11,12,13,14,15,16,17,18,19]⟩
    refine RC.sr (mv (vp b0 0) (RL.nilCheck zr (RL.bT zr m6 (RL.bT zr oU (RL.bP 1 v0_2 o x5 (mv (vi a2) (mv (vi p0_5.length) (RL.kr a2 (p0_5.length:Int) ?_))))))))
    obtain⟨dc,ee,hj⟩:=bd hj
    refine RL.cM 2 o B6 ee fun fh o=>(RL.j9 0 o zr AE wt fun fi o=>(RL.bU dc.jV 0 o Gh (aR (vb dc.jV) (RL.nt ?_))))
    obtain⟨cl,hjj,hj⟩:=bd hj
    refine RC.jn (fun(cl: (List Int)×(List Int)) U w=>∃cm:Value,SH E V [(0,vp b0 0),(2,vi p0_5.length),(10,vp bu 0),(72,bk),(73,vi a8.1.length),(74,vi bo),(78,bp),(79,vi bm.length),(80,vi b5)] [bc 108 b0 [v0_0,v0_1,v0_2,v0_3,v0_4,v0_5,v0_6,bg,al,an,v0_10,v0_11],rd v0_2 p0_2,rd v0_3 p0_3,rd v0_5 p0_5,rd v0_6 p0_6,own 172 bg us446,jm bW us446 a5.1 none,own 3 al ar.1,own 3 an cl.1,own 3 v0_10 p0_10,own 47 v0_11 p0_11,bc 172 bu [ch,cm,(.slice none 0 0)],own 3 cm cl.2,own 3 ch ar.2.2.1,own 91 bk a8.1,rd bp bm] U w) cl ?_ ?_
    ·refine fU hjj (fun hc hjj=>?_) fun hc hjj=>?_
     rotate_left
     ·refine RC.region (mv (vp b0 0) (RL.nilCheck zr (RL.bT zr xG (RL.bP 3 an o fJ (mv (vi a2) (mv (vi p0_5.length) (RL.kr a2 (p0_5.length:Int) ?_)))))))
      obtain⟨fj,cz,hjj⟩:=bd hjj
      refine RL.bO 11 o zr zr fF cz ?_
      have o:=o.sc Int (-1)
      refine RL.iJ (f:=(fun _ y=>y)) 12 0 o (ku 12 o cz 0) (bC cz).2.1 zr Fs.self dH fun w o=>?_
      refine RL.nil ?_
      obtain rfl:=oi hjj
      exact⟨rfl,cx,o.sp 20 [4,5,6,7,8,9,10,11,12,13,14,15,17,16,18,19]⟩
     refine RC.seq (RC.Bj mixed [0,0,0,0,0,0,0,0,0,0,0,0,0,2] [0,1,2,3,4,5,6,7,8,9,10,11,12,13] ?_)
     have o:=o.drew
     refine DP.e0 zr (mv (vp b0 0) (bR zr (RL.nilCheck zr (bR zr (RL.bT zr xG (bR zr (RL.bP 3 an o fJ (bR zr ?_))))))))
     refine mv (vi a2) (bR zr (mv (vi p0_5.length) (bR zr (RL.kr a2 (p0_5.length:Int) (bR zr (mv (vp b0 0) (bR zr (RL.nilCheck zr ?_))))))))
     refine bR zr (RL.bT zr tt (bR zr (RL.bP 3 bg o zK (bR zr (RL.r9 8 9 a5.1 o Ip (bR zr ?_))))))
     obtain⟨fk,c0,hjj⟩:=bd hjj
     refine RL.bO 11 o zr zr fF c0 (u6 zr ?_)
     have o:=o.sc Int (a5.1.length:Int)
     refine RL.iJ (f:=(fun _ y=>y)) 12 0 o (ku 12 o c0 0) (bC c0).2.1 zr Fs.self dH fun w o=>?_
     refine DP.d2 zt (DP.z (aG (RC.region (RL.bT zr AH (RL.bP 15 cx o fJ (mv (vi a2) (mv (vi p0_5.length) (RL.kr a2 (p0_5.length:Int) ?_))))))))
     have o:=o.sc Int (IntKind.wrap .i64 (a2 - (p0_5.length:Int)))
     refine RL.fD ([(IntKind.wrap .i64 (a2 - (p0_5.length:Int)))]: (List Int)) o [(vi (IntKind.wrap .i64 (a2 - (p0_5.length:Int))))] fF Hd (fun M hs g=>⟨(g.sat 0 _ zr).1,zt⟩) fun fl w o=>?_
     have o:=o.freeze 0
     obtain⟨fm,ef,hjj⟩:=bd hjj
     refine RL.app 19 0 o wy ef fun dd w o=>?_
     refine RL.bT zr AH (RL.ka 17 dd o zr zr (kC 19 o) fJ fun w o=>?_)
     refine RL.nil ?_
     obtain rfl:=oi hjj
     exact⟨rfl,dd,o.sp 22 [6,7,8,9,10,11,12,13,14,15,16,17,19,18,20,21]⟩
    rintro _ w ⟨cm,O,rfl,o⟩
    obtain rfl:=oi hj
    exact⟨rfl,ch,cm,o.sp 16 [0,1,2,3,4,5,6,7,8,9,10,11,13,12,14,15]⟩
   rintro _ w ⟨cj,ck,O,rfl,o⟩
   refine cG (cG (aG (RC.region (RL.inc hk hm (mv (vi ((b5+1:Nat):Int)) (RL.nil ?_))))))
   obtain rfl:=oi hb
   exact⟨rfl,cj,ck,o.sp 16 [0,1,2,3,4,5,6,7,8,9,10,11,12,13,14,15]⟩
  rintro _ w ⟨bw,bq,O,rfl,o⟩
  refine aG (RC.sr (RL.bT zr AG (RL.bP 11 bw o fJ (RL.eH 12 ar.2.2.1 o m0 (RL.bT zr AH (RL.bP 11 bq o fJ (RL.eH 13 ar.2.2.2 o m0 (RL.kr (ar.2.2.1.length:Int) (ar.2.2.2.length:Int) ?_))))))))
  refine ic ((IntKind.wrap .i64 ((ar.2.2.1.length:Int)+ (ar.2.2.2.length:Int)))) 0 (RL.nt ?_)
  obtain⟨c1,hj,hb⟩:=bd hb
  refine RC.jn (fun(c1: (List dI)) U w=>∃(cn:Value) (us598:List cI),SH E V [(0,vp b0 0),(2,vi p0_5.length),(72,bk),(73,vi a8.1.length),(74,vi bo)] [bc 108 b0 [v0_0,v0_1,v0_2,v0_3,v0_4,v0_5,v0_6,cn,al,an,v0_10,v0_11],own 172 cn us598,jm bW us598 c1 none,rd v0_2 p0_2,rd v0_3 p0_3,rd v0_5 p0_5,rd v0_6 p0_6,own 3 al ar.1,own 3 an ar.2.1,own 3 v0_10 p0_10,own 47 v0_11 p0_11,own 91 bk a8.1] U w) c1 ?_ ?_
  ·refine fU hj (fun hc hj=>?_) fun hc hj=>?_
   rotate_left
   ·refine RC.skip ?_
    obtain rfl:=oi hj
    exact⟨rfl,bg,us446,o.sp 16 [0,5,6,1,2,3,4,7,8,9,10,14]⟩
   have o:=o.drew
   refine RC.FX (fun w=>Holds E w ([bc 108 b0 [v0_0,v0_1,v0_2,v0_3,v0_4,v0_5,v0_6,bg,al,an,v0_10,v0_11]]++V)) mixed zr [1,1,1,1,1,0,2,2,0,0,2] [0,1,2,3,4,5,6,7,8,9,10] (o.pk 16 [0]) (DP.e1 (vp b0 0) zr (fun w=>RL.move (vp b0 0) zt DP.d1) (DP.e1 (vp b0 0) zr (fun w=>RL.move (vp b0 0) zt DP.d1) (DP.e1 (vp b0 0) zr (fun w=>RL.nilCheck zr DP.d1) (DP.e1 (vp b0 7) zr (fun w=>RL.bT zr tt DP.d1) (DP.IW bg zr (fun w o=>RL.bP 0 bg o zK DP.d1) (DP.e0 zr (RL.FR (cs:=[bw,bq,(.slice none 0 0)]) 11 zt zr o zr zr Kn zr (u6 zr ?_))))))))
   have o:=((((o.dC fL 39).DW (i:=0) rfl).freeze 14).freeze 15).C5 (cs:=[bw,bq,(.slice none 0 0)]) (x:=(⟨ar.2.2.1,ar.2.2.2,(rv (.slice none 0 0))⟩:cI)) (fun M hs g=>⟨[bw],[bq,(.slice none 0 0)],rfl,(n0 (g.sat 14 _ rfl).1),⟨[bq],[(.slice none 0 0)],rfl,(n0 (g.sat 15 _ rfl).1),(n0 (g.sat 0 _ rfl).1)⟩⟩) rfl
   refine RL.fD ([(⟨ar.2.2.1,ar.2.2.2,(rv (.slice none 0 0))⟩:cI)]:List cI) o [(.agg ([bw,bq,(.slice none 0 0)]:List Value).toArray)] Gi Ko (fun M hs g=>⟨(g.sat 0 _ zr).1,zt⟩) fun fo w o=>(DP.d2 (o.pk 20 [4]) (DP.e2 zr ?_))
   obtain⟨fp,eg,hj⟩:=bd hj
   have o:=o.freeze 0
   refine RL.EN 9 0 10 3 bW (⟨ar.2.2.1,ar.2.2.2,(rv (.slice none 0 0))⟩:cI) (⟨ar.2.2.1,ar.2.2.2,([]: (List fL))⟩:dI) (.slice none 0 0) ([]: (List fL)) (fun _ _ ho=>⟨⟨rfl,zr⟩,ho⟩) zr o zr zr zr zr zr zr Kp eg fun de w o=>?_
   refine DP.d2 (o.pk 20 [4]) (DP.e0 zr (RL.nilCheck zr (bR zr (RL.bT zr tt (DP.d0 (DP.L0 zr zr (RL.ka 4 de o zr zr (kC 9 o) zK fun w o=>?_)))))))
   refine DP.d2 zt (DP.z ?_)
   obtain rfl:=oi hj
   exact⟨rfl,de,(us446++[(⟨ar.2.2.1,ar.2.2.2,(rv (.slice none 0 0))⟩:cI)]),o.sp 20 [4,9,10,5,6,7,8,11,12,13,14,18]⟩
  rintro _ w ⟨cn,us598,O,rfl,o⟩
  refine cG (aG (RC.region (RL.inc hk hm (mv (vi ((bo+1:Nat):Int)) (RL.nil ?_)))))
  obtain rfl:=oi hb
  exact⟨rfl,cn,us598,o.sp 12 [0,1,2,3,4,5,6,7,8,9,10,11]⟩
 rintro _ w ⟨aj,us444,O,rfl,o⟩
 refine aG (RC.sr (mv (vp b0 0) (RL.nilCheck zr (RL.bT zr m6 (RL.bT zr x6 (RL.bP 0 v0_3 o F6 (RL.cC 4 p0_3 o Hz (mv (vi 0) ?_))))))))
 refine RL.nt ?_
 obtain⟨ai,hN,hb⟩:=bd hb
 refine RC.fold (fun(b2:Nat) (ai: (List dI)×(List Int)×(List Int)×(List Int)×(List bX)) U w=>∃(df dg:Value) (dh di:Value) (us819:List cI),SH E V [(0,vp b0 0),(170,v0_3),(171,vi p0_3.length),(172,vi b2)] [bc 108 b0 [v0_0,v0_1,v0_2,v0_3,v0_4,v0_5,v0_6,aj,df,dg,dh,di],rd df ai.2.1,rd dg ai.2.2.1,own 3 dh ai.2.2.2.1,own 47 di ai.2.2.2.2,rd v0_2 p0_2,rd v0_3 p0_3,rd v0_5 p0_5,rd v0_6 p0_6,own 172 aj us819,jm bW us819 ai.1 none] U w) (fun(ai: (List dI)×(List Int)×(List Int)×(List Int)×(List bX)) U w=>∃(cp cq:Value) (cr ct:Value) (us824:List cI),SH E V [(0,vp b0 0)] [bc 108 b0 [v0_0,v0_1,v0_2,v0_3,v0_4,v0_5,v0_6,aj,cp,cq,cr,ct],rd cp ai.2.1,rd cq ai.2.2.1,own 3 cr ai.2.2.2.1,own 47 ct ai.2.2.2.2,rd v0_2 p0_2,rd v0_3 p0_3,rd v0_5 p0_5,rd v0_6 p0_6,own 172 aj us824,jm bW us824 ai.1 none] U w) hN ?_ ?_ ?_ ?_
 ·have o:=(o.freeze 7).freeze 8
  exact⟨al,an,v0_10,v0_11,us444,o.sp 12 [0,7,8,9,10,3,4,5,6,1,2]⟩
 ·rintro hm ai _ w ⟨eh,ei,ej,ek,us932,O,rfl,o⟩
  refine RC.sr (ic ((p0_3.length:Int)) ((p0_3.length:Int)) (RL.nq (RC.dS pD (RC.ex ?_))))
  exact⟨rfl,eh,ei,ej,ek,us932,o.sp 11 [0,1,2,3,4,5,6,7,8,9,10]⟩
 ·rintro hm b2 ai s' _ w hk ⟨a3,a4,bl,a6,us829,O,rfl,o⟩ hb
  refine RC.sr (ic ((b2:Int)) ((p0_3.length:Int)) (RL.nq (RC.dR (pC hk) (RC.ss (RC.bs ?_)))))
  obtain⟨b7,el,hb⟩:=bd hb
  refine RL.cM 6 o F7 el fun en o=>(RL.cD 0 b7 o x8 fun eo o=>(RL.alloc o JT.z fun dj w o=>?_))
  refine RL.bM 0 o 1 zr x8 fun w o=>?_
  refine RL.ns (mv (vp b0 0) (RL.aS (f:=(fun x=>x)) 0 o zr Fd.self x8 fun dk o=>?_))
  have o:=((o.dup 11 rfl).dup 10 rfl).pull 6
  obtain⟨ba,ep,hb⟩:=bd hb
  refine RL.call zt zr Kr [(vp b0 0),dk] zr (aF (rX N (i1:=0) o zr ep) ?_)
  rintro _ w ⟨c2,rfl,o⟩
  refine mv (.tuple #[c2,(vb ba.2)]) (RL.extract c2 (RL.extract (vb ba.2) (RL.alloc o pr.z fun b8 w o=>?_)))
  refine RL.bM 0 o 1 zr dM fun w o=>?_
  refine aR (vb ba.2) (RL.ns (aR (vi (-1)) (RL.nq (RC.sr (mv (vb ba.2) (RL.nt ?_))))))
  obtain⟨bh,hj,hb⟩:=bd hb
  refine RC.jn (fun(bh: (List dI)×Int) U w=>∃(us877:List cI),SH E V [(0,vp b0 0),(15,vp b8 0),(17,vi bh.2),(170,v0_3),(171,vi p0_3.length),(172,vi b2)] [bc 108 b0 [v0_0,v0_1,v0_2,v0_3,v0_4,v0_5,v0_6,aj,a3,a4,bl,a6],rd v0_2 p0_2,rd v0_3 p0_3,rd v0_5 p0_5,rd v0_6 p0_6,own 172 aj us877,jm bW us877 bh.1 none,rd a3 ai.2.1,rd a4 ai.2.2.1,own 3 bl ai.2.2.2.1,own 47 a6 ai.2.2.2.2,bx 47 b8 ba.1] U w) bh ?_ ?_
  ·refine fU hj (fun hc hj=>?_) fun hc hj=>?_
   rotate_left
   ·refine RC.skip ?_
    obtain rfl:=oi hj
    exact⟨rfl,us829,o.sp 18 [2,12,13,14,15,16,17,8,9,10,11,0]⟩
   refine RC.sr (mv (vp b0 0) (RL.aS (f:=(fun x=>x)) 0 o zr Fd.self dM fun dm o=>?_))
   have o:=((o.dup 10 rfl).dup 10 rfl).pull 5
   obtain⟨ah,er,hj⟩:=bd hj
   refine RL.call zt zr Ks [(vp b0 0),dm] zr (aF (o4 N (i1:=0) o zr er) ?_)
   rintro _ w ⟨rfl,o⟩
   refine aR (vi ah) (RL.nt ?_)
   obtain⟨fq,cd,hj⟩:=bd hj
   obtain⟨b9,et,hj⟩:=bd hj
   obtain⟨br,eu,hj⟩:=bd hj
   obtain⟨b3,cu,hj⟩:=bd hj
   refine RC.D3 E V mixed [1,1,1,0,1,1,1,1,0,1,0,0,0,0,0,0,0,0,0,0] [13,14,15,16,19] (fun(x:Value×Value×Value×Value)=>(fun av aw au ak=>[(0,186,(vp b0 0)),(1,187,(vp b0 0)),(2,188,(vp b0 7)),(3,189,aj),(4,190,(vi ah)),(5,191,(vp b0 0)),(6,192,(vp b0 0)),(7,193,(vp b0 7)),(8,194,aj),(9,195,(vi ah)),(10,196,(Bf aj (Int.toNat ah) 3 0)),(11,197,(Bf aj (Int.toNat ah) 3 2)),(12,198,(us829.getD (Int.toNat ah) (default:cI)).jq.v),(13,199,av),(14,200,aw),(15,201,au),(16,202,ak),(17,203,(Bf aj (Int.toNat ah) 3 0)),(18,204,(Bf aj (Int.toNat ah) 3 2))]) x.1 x.2.1 x.2.2.1 x.2.2.2) [(0,vp b0 0),(14,vp dj 0),(15,vp b8 0),(17,vi ah),(170,v0_3),(171,vi p0_3.length),(172,vi b2)] [] (fun(D:Nat->Bool) (x:Value×Value×Value×Value)=>(fun av aw au ak=>[bif D 0 then (rd av b7) else aW,bif D 1 then (rd aw b9) else aW,bif D 3 then (rd au ([b9]: (List fL))) else (bif D 2 then (own 39 au ([b9]: (List fL))) else aW),bif D 4 then aW else (bif D 3 then (own 39 ak br) else aW),bc 108 b0 [v0_0,v0_1,v0_2,v0_3,v0_4,v0_5,v0_6,aj,a3,a4,bl,a6],rd dm ba.1,bx 47 b8 ba.1,rd c2 ba.1,aW,rd dk b7,bx 77 dj b7,rd eo b7,pt en b7,aW,rd a3 ai.2.1,rd a4 ai.2.2.1,own 3 bl ai.2.2.2.1,own 47 a6 ai.2.2.2.2,rd v0_2 p0_2,rd v0_3 p0_3,rd v0_5 p0_5,rd v0_6 p0_6,bif D 4 then (own 172 aj (us829.set (Int.toNat ah) {(us829.getD (Int.toNat ah) (default:cI)) with jq:=rv ak})) else (own 172 aj us829),bif D 4 then (jm bW (us829.set (Int.toNat ah) {(us829.getD (Int.toNat ah) (default:cI)) with jq:=rv ak}) (ai.1.set (Int.toNat ah) {b3 with jq:=br}) none) else (bif D 3 then (jm bW us829 ai.1 (some (Int.toNat ah))) else (jm bW us829 ai.1 none))]) x.1 x.2.1 x.2.2.1 x.2.2.2) (fun x=>by kernel_rfl) ?_ ⟨fun _=>g8 gn,fun _=>tM gn,fun _=>nn gn tt,?_,fun _=>g8 gn,fun _=>g8 gn,fun _=>tM gn,fun _=>nn gn tt,?_,fun _=>g8 gn,?_,?_,?_,?_,?_,?_,?_,?_,?_,?_,trivial⟩ ?_
   ·have o:=((((o.drew).aW).aW).aW).aW
    exact⟨(undef,undef,undef,undef),eR.none,(CV zr),zt,o⟩
   ·rintro D U w hD ae ab ⟨⟨av,aw,au,ak⟩,hv,ha,_,o⟩
    obtain⟨O,rfl⟩:=(ac (hv.at 2 rfl (ae.1 rfl)) az).eQ
    refine RL.bP 4 aj o zK ?_
    exact RL.nil ⟨rfl,(av,aw,au,ak),hv.pu 3,ha.u,zt,o⟩
   ·rintro D U w hD ae ab ⟨⟨av,aw,au,ak⟩,hv,ha,_,o⟩
    obtain⟨O,rfl⟩:=(ac (hv.at 7 rfl (ae.1 rfl)) az).eQ
    refine RL.bP 4 aj o zK ?_
    exact RL.nil ⟨rfl,(av,aw,au,ak),hv.pu 8,ha.u,zt,o⟩
   ·rintro D U w hD ae ab ⟨⟨av,aw,au,ak⟩,hv,ha,_,o⟩
    obtain⟨O,rfl⟩:=(ac (hv.at 8 rfl (ae.1 rfl)) (ac (hv.at 9 rfl (ae.2.1 rfl)) az)).eQ
    have o:=((o.bS 22 (nh ab hD 19)).bS 23 (nh ab hD 19)).bS 23 (nf (fun h=>ft hD ((ab 11 _ rfl ((ab 12 _ rfl ((ab 16 _ rfl h).1 rfl)).1 rfl)).1 rfl)))
    have hl900:=o.hZ 23
    have hr901:=kD (default:cI) hl900 cd
    refine RL.bO 22 o zr zr Gi hr901 ?_
    have o:=(o.fT 22 (D 19) (nh ab hD 19) (own 172 aj (us829.set (Int.toNat ah) {(us829.getD (Int.toNat ah) (default:cI)) with jq:=rv ak}))).fT 23 (D 16) (nf (fun h=>ft hD ((ab 11 _ rfl ((ab 12 _ rfl ((ab 16 _ rfl h).1 rfl)).1 rfl)).1 rfl))) (jm bW us829 ai.1 (some (Int.toNat ah)))
    have o:=o.fT 23 (D 19) (nh ab hD 19) (jm bW (us829.set (Int.toNat ah) {(us829.getD (Int.toNat ah) (default:cI)) with jq:=rv ak}) (ai.1.set (Int.toNat ah) {b3 with jq:=br}) none)
    exact RL.nil ⟨rfl,(av,aw,au,ak),hv.pu 10,ha.u,zt,o⟩
   ·rintro D U w hD ae ab ⟨⟨av,aw,au,ak⟩,hv,ha,_,o⟩
    obtain⟨O,rfl⟩:=(ac (hv.at 10 rfl (ae.1 rfl)) az).eQ
    have o:=((o.bS 22 (nh ab hD 19)).bS 23 (nh ab hD 19)).bS 23 (nf (fun h=>ft hD ((ab 12 _ rfl ((ab 16 _ rfl h).1 rfl)).1 rfl)))
    have hl902:=o.hZ 23
    have hr903:=kD (default:cI) hl902 cd
    refine RL.nZ (α:=cI) zt (ku 22 o hr903 0) Ee ?_
    have o:=(o.fT 22 (D 19) (nh ab hD 19) (own 172 aj (us829.set (Int.toNat ah) {(us829.getD (Int.toNat ah) (default:cI)) with jq:=rv ak}))).fT 23 (D 16) (nf (fun h=>ft hD ((ab 12 _ rfl ((ab 16 _ rfl h).1 rfl)).1 rfl))) (jm bW us829 ai.1 (some (Int.toNat ah)))
    have o:=o.fT 23 (D 19) (nh ab hD 19) (jm bW (us829.set (Int.toNat ah) {(us829.getD (Int.toNat ah) (default:cI)) with jq:=rv ak}) (ai.1.set (Int.toNat ah) {b3 with jq:=br}) none)
    exact RL.nil ⟨rfl,(av,aw,au,ak),hv.pu 11,ha.u,zt,o⟩
   ·rintro D U w hD ae ab ⟨⟨av,aw,au,ak⟩,hv,ha,_,o⟩
    obtain⟨O,rfl⟩:=(ac (hv.at 11 rfl (ae.1 rfl)) az).eQ
    have o:=((o.bS 22 (nh ab hD 19)).bS 23 (nh ab hD 19)).bS 23 (nh ab hD 16)
    have hl904:=o.hZ 23
    have hr905:=kD (default:cI) hl904 cd
    refine RL.wk 22 23 ah sw (default:cI) zr o zr (ku 22 o hr905 2) zr zr cd Ir ?_
    have o:=(o.fT 22 (D 19) (nh ab hD 19) (own 172 aj (us829.set (Int.toNat ah) {(us829.getD (Int.toNat ah) (default:cI)) with jq:=rv ak}))).fT 23 (D 16) (nh ab hD 16) (jm bW us829 ai.1 (some (Int.toNat ah)))
    have o:=o.fT 23 (D 19) (nh ab hD 19) (jm bW (us829.set (Int.toNat ah) {(us829.getD (Int.toNat ah) (default:cI)) with jq:=rv ak}) (ai.1.set (Int.toNat ah) {b3 with jq:=br}) none)
    exact RL.nil ⟨rfl,(av,aw,au,ak),hv.pu 12,ha.u,zt,o⟩
   ·rintro D U w hD ae ab ⟨⟨av,aw,au,ak⟩,hv,ha,_,o⟩
    obtain⟨O,rfl⟩:=(ac (ha.at 1 rfl) az).eQ
    have o:=o.bS 0 hD
    refine RL.aS (f:=(fun x=>x)) 10 o zr Fd.self x8 fun ev o=>?_
    have o:=(o.pl 25 [0,2,3,4,5,6,7,8,9,10,11,12,13,14,15,16,17,18,19,20,21,22,23,24]).bZ 0 true rfl aW
    exact RL.nil ⟨rfl,(ev,aw,au,ak),hv.pu 13,ha.u,zt,o⟩
   ·rintro D U w hD ae ab ⟨⟨av,aw,au,ak⟩,hv,ha,_,o⟩
    obtain⟨O,rfl⟩:=(ac (hv.at 13 rfl (ae.1 rfl)) az).eQ
    have o:=(o.bY 0 (ae.1 rfl)).bS 1 hD
    refine RL.call zt zr HA [av] zr (aF (mC N (i0:=0) o zr et) ?_)
    rintro ew w o
    have o:=((o.pl 25 [1,0,3,4,5,6,7,8,9,10,11,12,13,14,15,16,17,18,19,20,21,22,23,24]).bZ 0 (D 13) (ae.1 rfl) aW).bZ 1 true rfl aW
    exact RL.nil ⟨rfl,(av,ew,au,ak),hv.pu 14,ha.u,zt,o⟩
   ·rintro D U w hD ae ab ⟨⟨av,aw,au,ak⟩,hv,ha,_,o⟩
    obtain⟨O,rfl⟩:=(ac (hv.at 14 rfl (ae.1 rfl)) az).eQ
    have o:=((o.bY 1 (ae.1 rfl)).bS 2 (nh ab hD 16)).bS 2 hD
    refine RL.fD ([b9]: (List fL)) o [aw] Kt J7 (fun M hs g=>⟨(g.sat 1 _ zr).1,zt⟩) fun dn w o=>?_
    have o:=(((o.pl 25 [1,2,0,4,5,6,7,8,9,10,11,12,13,14,15,16,17,18,19,20,21,22,23,24]).bZ 1 (D 14) (ae.1 rfl) aW).bZ 2 true rfl aW).fT 2 (D 16) (nh ab hD 16) (rd dn ([b9]: (List fL)))
    exact RL.nil ⟨rfl,(av,aw,dn,ak),hv.pu 15,ha.u,zt,o⟩
   ·rintro D U w hD ae ab ⟨⟨av,aw,au,ak⟩,hv,ha,_,o⟩
    obtain⟨O,rfl⟩:=(ac (hv.at 12 rfl (ae.1 rfl)) (ac (hv.at 15 rfl (ae.2.1 rfl)) az)).eQ
    have o:=(((((((o.bS 2 hD).bY 2 (ae.2.1 rfl)).bS 3 (nh ab hD 19)).bS 3 hD).bS 22 (nh ab hD 19)).bS 23 (nh ab hD 19)).bS 23 hD).Am (j:=23) (jj:=ah) sw (default:cI) rfl cd
    have o:=o.freeze 3
    refine RL.app 0 3 o Ku eu fun c3 w o=>?_
    have o:=((((o.pl 25 [1,2,3,0,5,6,7,8,9,10,11,12,13,14,15,16,17,18,19,20,21,22,23,24]).bZ 2 true rfl (bif D 15 then (own 39 au ([b9]: (List fL))) else aW)).bZ 3 true rfl aW).fT 3 (D 19) (nh ab hD 19) aW).fT 22 (D 19) (nh ab hD 19) (own 172 aj (us829.set (Int.toNat ah) {(us829.getD (Int.toNat ah) (default:cI)) with jq:=rv c3}))
    have o:=(o.bZ 23 true rfl (jm bW us829 ai.1 none)).fT 23 (D 19) (nh ab hD 19) (jm bW (us829.set (Int.toNat ah) {(us829.getD (Int.toNat ah) (default:cI)) with jq:=rv c3}) (ai.1.set (Int.toNat ah) {b3 with jq:=br}) none)
    exact RL.nil ⟨rfl,(av,aw,au,c3),hv.pu 16,ha.u,zt,o⟩
   ·rintro D U w hD ae ab ⟨⟨av,aw,au,ak⟩,hv,ha,_,o⟩
    obtain⟨O,rfl⟩:=(ac (hv.at 3 rfl (ae.1 rfl)) (ac (hv.at 4 rfl (ae.2.1 rfl)) az)).eQ
    have o:=o.bS 22 (nf (fun h=>ft hD ((ab 18 _ rfl ((ab 19 _ rfl h).1 rfl)).1 rfl)))
    have o:=o.bS 23 (nf (fun h=>ft hD ((ab 18 _ rfl ((ab 19 _ rfl h).1 rfl)).1 rfl)))
    have o:=o.bY 23 (ae.2.2.2.2.2.2.2.2.2.2.2.2.2.2.2.2.2.2.1 rfl)
    have hl910:=o.hZ 23
    have hr911:=kD (default:cI) hl910 cu
    refine RL.bO 22 o zr zr Gi hr911 ?_
    have o:=o.fT 22 (D 19) (nf (fun h=>ft hD ((ab 18 _ rfl ((ab 19 _ rfl h).1 rfl)).1 rfl))) (own 172 aj (us829.set (Int.toNat ah) {(us829.getD (Int.toNat ah) (default:cI)) with jq:=rv ak}))
    have o:=(o.bZ 23 (D 16) (ae.2.2.2.2.2.2.2.2.2.2.2.2.2.2.2.2.2.2.1 rfl) (jm bW us829 ai.1 none)).fT 23 (D 19) (nf (fun h=>ft hD ((ab 18 _ rfl ((ab 19 _ rfl h).1 rfl)).1 rfl))) (jm bW (us829.set (Int.toNat ah) {(us829.getD (Int.toNat ah) (default:cI)) with jq:=rv ak}) (ai.1.set (Int.toNat ah) {b3 with jq:=br}) none)
    exact RL.nil ⟨rfl,(av,aw,au,ak),hv.pu 17,ha.u,zt,o⟩
   ·rintro D U w hD ae ab ⟨⟨av,aw,au,ak⟩,hv,ha,_,o⟩
    obtain⟨O,rfl⟩:=(ac (hv.at 17 rfl (ae.1 rfl)) az).eQ
    have o:=((o.bS 22 (nh ab hD 19)).bS 23 (nh ab hD 19)).bY 23 (ae.2.2.2.2.2.2.2.2.2.2.2.2.2.2.2.2.2.1 rfl)
    have hl912:=o.hZ 23
    have hr913:=kD (default:cI) hl912 cu
    refine RL.nZ (α:=cI) zt (ku 22 o hr913 0) Ee ?_
    have o:=(o.fT 22 (D 19) (nh ab hD 19) (own 172 aj (us829.set (Int.toNat ah) {(us829.getD (Int.toNat ah) (default:cI)) with jq:=rv ak}))).bZ 23 (D 16) (ae.2.2.2.2.2.2.2.2.2.2.2.2.2.2.2.2.2.1 rfl) (jm bW us829 ai.1 none)
    have o:=o.fT 23 (D 19) (nh ab hD 19) (jm bW (us829.set (Int.toNat ah) {(us829.getD (Int.toNat ah) (default:cI)) with jq:=rv ak}) (ai.1.set (Int.toNat ah) {b3 with jq:=br}) none)
    exact RL.nil ⟨rfl,(av,aw,au,ak),hv.pu 18,ha.u,zt,o⟩
   ·rintro D U w hD ae ab ⟨⟨av,aw,au,ak⟩,hv,ha,_,o⟩
    obtain⟨O,rfl⟩:=(ac (hv.at 16 rfl (ae.2.1 rfl)) (ac (hv.at 18 rfl (ae.1 rfl)) az)).eQ
    have o:=((((o.bS 3 hD).bY 3 (ae.2.1 rfl)).bS 22 hD).bS 23 hD).bY 23 (ae.2.1 rfl)
    have hl914:=o.hZ 23
    have hr915:=kD (default:cI) hl914 cu
    refine RL.uo 22 23 3 ah sw (default:cI) o zr zr (ku 22 o hr915 2) zr zr zr cu Ir fun w o=>?_
    have o:=((o.bZ 3 true rfl (bif D 16 then (own 39 ak br) else aW)).bZ 22 true rfl (own 172 aj us829)).bZ 23 true rfl (bif D 16 then (jm bW us829 ai.1 (some (Int.toNat ah))) else (jm bW us829 ai.1 none))
    exact RL.nil ⟨rfl,(av,aw,au,ak),hv.n1,ha,zt,o⟩
   rintro D U w a7 ⟨⟨av,aw,au,ak⟩,hv,ha,_,o⟩
   have o:=(((((o.bY 0 (iT a7 13)).bY 1 (iT a7 14)).bY 2 (iT a7 16)).bY 3 (iT a7 19)).bY 22 (iT a7 19)).bY 23 (iT a7 19)
   obtain⟨O,rfl⟩:=(ac (ha.at 0 rfl) (ac (ha.at 1 rfl) (ac (ha.at 2 rfl) (ac (ha.at 3 rfl) (ac (ha.at 4 rfl) (ac (ha.at 5 rfl) (ac (ha.at 6 rfl) az))))))).eQ
   obtain rfl:=oi hj
   exact⟨rfl,(us829.set (Int.toNat ah) {(us829.getD (Int.toNat ah) (default:cI)) with jq:=rv ak}),o.sp 24 [4,18,19,20,21,22,23,14,15,16,17,6]⟩
  rintro _ w ⟨us877,O,rfl,o⟩
  refine aG ?_
  obtain⟨ey,ez,hb⟩:=bd hb
  obtain⟨e3,e4,hb⟩:=bd hb
  refine RC.D3 E V mixed [1,1,1,1,1,0,1,0,0,1,1,1,0,0,0,0,1,1,0,1,1,0] [7,8,13,14,15,18,21] (fun(x:Value×Value×Value×Value×Value)=>(fun ay a1 a0 aq ax=>[(0,205,(vp b0 0)),(1,206,(vp b0 0)),(2,207,(vp b0 0)),(3,208,(vp b0 0)),(4,209,(vp b0 10)),(5,210,bl),(6,211,(vi bh.2)),(7,212,ay),(8,213,aq),(9,214,(vp b0 0)),(10,215,(vp b0 0)),(11,216,(vp b0 11)),(12,217,a6),(13,218,a1),(14,219,a0),(15,220,ax),(16,221,(vp b0 0)),(17,222,(vp b0 10)),(19,223,(vp b0 0)),(20,224,(vp b0 11))]) x.1 x.2.1 x.2.2.1 x.2.2.2.1 x.2.2.2.2) [(0,vp b0 0),(15,vp b8 0),(17,vi bh.2),(170,v0_3),(171,vi p0_3.length),(172,vi b2)] [] (fun(D:Nat->Bool) (x:Value×Value×Value×Value×Value)=>(fun ay a1 a0 aq ax=>[bif D 1 then (rd ay ([bh.2]: (List Int))) else (bif D 0 then (own 3 ay ([bh.2]: (List Int))) else aW),bif D 2 then (rd a1 ba.1) else aW,bif D 4 then (rd a0 ([ba.1]: (List bX))) else (bif D 3 then (own 47 a0 ([ba.1]: (List bX))) else aW),bif D 6 then (bc 108 b0 [v0_0,v0_1,v0_2,v0_3,v0_4,v0_5,v0_6,aj,a3,a4,aq,ax]) else (bif D 5 then (bc 108 b0 [v0_0,v0_1,v0_2,v0_3,v0_4,v0_5,v0_6,aj,a3,a4,aq,a6]) else (bc 108 b0 [v0_0,v0_1,v0_2,v0_3,v0_4,v0_5,v0_6,aj,a3,a4,bl,a6])),rd v0_2 p0_2,rd v0_3 p0_3,rd v0_5 p0_5,rd v0_6 p0_6,own 172 aj us877,jm bW us877 bh.1 none,rd a3 ai.2.1,rd a4 ai.2.2.1,bif D 1 then (own 3 aq ey) else (own 3 bl ai.2.2.2.1),bif D 4 then (own 47 ax e3) else (own 47 a6 ai.2.2.2.2),bx 47 b8 ba.1]) x.1 x.2.1 x.2.2.1 x.2.2.2.1 x.2.2.2.2) (fun x=>by kernel_rfl) ?_ ⟨fun _=>g8 gn,fun _=>g8 gn,fun _=>g8 gn,fun _=>tM gn,fun _=>nn gn rj,?_,fun _=>g8 gn,?_,?_,fun _=>g8 gn,fun _=>tM gn,fun _=>nn gn tu,?_,?_,?_,?_,fun _=>tM gn,fun _=>nn gn rj,?_,fun _=>tM gn,fun _=>nn gn tu,?_,trivial⟩ ?_
  ·have o:=(((o.drew).aW).aW).aW
   exact⟨(undef,undef,undef,undef,undef),eR.none,(CV zr),zt,o⟩
  ·rintro D U w hD ae ab ⟨⟨ay,a1,a0,aq,ax⟩,hv,ha,_,o⟩
   obtain⟨O,rfl⟩:=(ac (hv.at 4 rfl (ae.1 rfl)) az).eQ
   have o:=(o.bS 3 (nh ab hD 21)).bS 3 (nh ab hD 18)
   refine RL.bP 3 bl o fJ ?_
   have o:=(o.fT 3 (D 18) (nh ab hD 18) (bc 108 b0 [v0_0,v0_1,v0_2,v0_3,v0_4,v0_5,v0_6,aj,a3,a4,aq,a6])).fT 3 (D 21) (nh ab hD 21) (bc 108 b0 [v0_0,v0_1,v0_2,v0_3,v0_4,v0_5,v0_6,aj,a3,a4,aq,ax])
   exact RL.nil ⟨rfl,(ay,a1,a0,aq,ax),hv.pu 5,ha.u,zt,o⟩
  ·rintro D U w hD ae ab ⟨⟨ay,a1,a0,aq,ax⟩,hv,ha,_,o⟩
   obtain⟨O,rfl⟩:=(ac (hv.at 6 rfl (ae.1 rfl)) az).eQ
   have o:=((o.bS 0 (nh ab hD 8)).bS 0 hD).sc Int bh.2
   refine RL.fD ([bh.2]: (List Int)) o [(vi bh.2)] fF Hd (fun M hs g=>⟨(g.sat 0 _ zr).1,zt⟩) fun dp w o=>?_
   have o:=((o.pl 17 [0,3,4,5,6,7,8,9,10,11,12,13,14,15,16]).bZ 0 true rfl aW).fT 0 (D 8) (nh ab hD 8) (rd dp ([bh.2]: (List Int)))
   exact RL.nil ⟨rfl,(dp,a1,a0,aq,ax),hv.pu 7,ha.u,zt,o⟩
  ·rintro D U w hD ae ab ⟨⟨ay,a1,a0,aq,ax⟩,hv,ha,_,o⟩
   obtain⟨O,rfl⟩:=(ac (hv.at 5 rfl (ae.1 rfl)) (ac (hv.at 7 rfl (ae.2.1 rfl)) az)).eQ
   have o:=(((((o.bS 0 hD).bY 0 (ae.2.1 rfl)).bS 3 (nh ab hD 21)).bS 3 (nh ab hD 18)).bS 12 hD).freeze 0
   refine RL.app 12 0 o wy ez fun c4 w o=>?_
   have o:=((o.bZ 0 true rfl (bif D 7 then (own 3 ay ([bh.2]: (List Int))) else aW)).fT 3 (D 18) (nh ab hD 18) (bc 108 b0 [v0_0,v0_1,v0_2,v0_3,v0_4,v0_5,v0_6,aj,a3,a4,c4,a6])).fT 3 (D 21) (nh ab hD 21) (bc 108 b0 [v0_0,v0_1,v0_2,v0_3,v0_4,v0_5,v0_6,aj,a3,a4,c4,ax])
   have o:=o.bZ 12 true rfl (own 3 bl ai.2.2.2.1)
   exact RL.nil ⟨rfl,(ay,a1,a0,c4,ax),hv.pu 8,ha.u,zt,o⟩
  ·rintro D U w hD ae ab ⟨⟨ay,a1,a0,aq,ax⟩,hv,ha,_,o⟩
   obtain⟨O,rfl⟩:=(ac (hv.at 11 rfl (ae.1 rfl)) az).eQ
   have o:=(o.bS 3 (nh ab hD 21)).bS 3 (nh ab hD 18)
   refine RL.bP 3 a6 o E0 ?_
   have o:=(o.fT 3 (D 18) (nh ab hD 18) (bc 108 b0 [v0_0,v0_1,v0_2,v0_3,v0_4,v0_5,v0_6,aj,a3,a4,aq,a6])).fT 3 (D 21) (nh ab hD 21) (bc 108 b0 [v0_0,v0_1,v0_2,v0_3,v0_4,v0_5,v0_6,aj,a3,a4,aq,ax])
   exact RL.nil ⟨rfl,(ay,a1,a0,aq,ax),hv.pu 12,ha.u,zt,o⟩
  ·rintro D U w hD ae ab ⟨⟨ay,a1,a0,aq,ax⟩,hv,ha,_,o⟩
   obtain⟨O,rfl⟩:=(ac (ha.at 1 rfl) az).eQ
   have o:=o.bS 1 hD
   refine RL.aS (f:=(fun x=>x)) 14 o zr Fd.self dM fun e5 o=>?_
   have o:=(o.pl 16 [1,0,3,4,5,6,7,8,9,10,11,12,13,14,15]).bZ 1 true rfl aW
   exact RL.nil ⟨rfl,(ay,e5,a0,aq,ax),hv.pu 13,ha.u,zt,o⟩
  ·rintro D U w hD ae ab ⟨⟨ay,a1,a0,aq,ax⟩,hv,ha,_,o⟩
   obtain⟨O,rfl⟩:=(ac (hv.at 13 rfl (ae.1 rfl)) az).eQ
   have o:=((o.bY 1 (ae.1 rfl)).bS 2 (nh ab hD 15)).bS 2 hD
   refine RL.fD ([ba.1]: (List bX)) o [a1] l6 pr (fun M hs g=>⟨(g.sat 1 _ zr).1,zt⟩) fun dq w o=>?_
   have o:=(((o.pl 16 [1,2,0,4,5,6,7,8,9,10,11,12,13,14,15]).bZ 1 (D 13) (ae.1 rfl) aW).bZ 2 true rfl aW).fT 2 (D 15) (nh ab hD 15) (rd dq ([ba.1]: (List bX)))
   exact RL.nil ⟨rfl,(ay,a1,dq,aq,ax),hv.pu 14,ha.u,zt,o⟩
  ·rintro D U w hD ae ab ⟨⟨ay,a1,a0,aq,ax⟩,hv,ha,_,o⟩
   obtain⟨O,rfl⟩:=(ac (hv.at 12 rfl (ae.1 rfl)) (ac (hv.at 14 rfl (ae.2.1 rfl)) az)).eQ
   have o:=(((((o.bS 2 hD).bY 2 (ae.2.1 rfl)).bS 3 (nh ab hD 21)).bS 3 (nh ab hD 18)).bS 13 hD).freeze 2
   refine RL.app 13 2 o Dd e4 fun dr w o=>?_
   have o:=((o.bZ 2 true rfl (bif D 14 then (own 47 a0 ([ba.1]: (List bX))) else aW)).fT 3 (D 18) (nh ab hD 18) (bc 108 b0 [v0_0,v0_1,v0_2,v0_3,v0_4,v0_5,v0_6,aj,a3,a4,aq,a6])).fT 3 (D 21) (nh ab hD 21) (bc 108 b0 [v0_0,v0_1,v0_2,v0_3,v0_4,v0_5,v0_6,aj,a3,a4,aq,dr])
   have o:=o.bZ 13 true rfl (own 47 a6 ai.2.2.2.2)
   exact RL.nil ⟨rfl,(ay,a1,a0,aq,dr),hv.pu 15,ha.u,zt,o⟩
  ·rintro D U w hD ae ab ⟨⟨ay,a1,a0,aq,ax⟩,hv,ha,_,o⟩
   obtain⟨O,rfl⟩:=(ac (hv.at 8 rfl (ae.2.1 rfl)) (ac (hv.at 17 rfl (ae.1 rfl)) az)).eQ
   have o:=((o.bS 3 (nh ab hD 21)).bS 3 hD).bY 12 (ae.2.1 rfl)
   refine RL.ka 3 aq o zr zr (kC 12 o) fJ fun w o=>?_
   have o:=((o.bZ 3 true rfl (bc 108 b0 [v0_0,v0_1,v0_2,v0_3,v0_4,v0_5,v0_6,aj,a3,a4,bl,a6])).fT 3 (D 21) (nh ab hD 21) (bc 108 b0 [v0_0,v0_1,v0_2,v0_3,v0_4,v0_5,v0_6,aj,a3,a4,aq,ax])).bZ 12 (D 8) (ae.2.1 rfl) (own 3 bl ai.2.2.2.1)
   exact RL.nil ⟨rfl,(ay,a1,a0,aq,ax),hv.n1,ha,zt,o⟩
  ·rintro D U w hD ae ab ⟨⟨ay,a1,a0,aq,ax⟩,hv,ha,_,o⟩
   obtain⟨O,rfl⟩:=(ac (hv.at 15 rfl (ae.2.1 rfl)) (ac (hv.at 19 rfl (ae.1 rfl)) az)).eQ
   have o:=((o.bS 3 hD).bY 3 (ae.2.2.1 rfl)).bY 13 (ae.2.1 rfl)
   refine RL.ka 3 ax o zr zr (kC 13 o) E0 fun w o=>?_
   have o:=(o.bZ 3 true rfl (bif D 18 then (bc 108 b0 [v0_0,v0_1,v0_2,v0_3,v0_4,v0_5,v0_6,aj,a3,a4,aq,a6]) else (bc 108 b0 [v0_0,v0_1,v0_2,v0_3,v0_4,v0_5,v0_6,aj,a3,a4,bl,a6]))).bZ 13 (D 15) (ae.2.1 rfl) (own 47 a6 ai.2.2.2.2)
   exact RL.nil ⟨rfl,(ay,a1,a0,aq,ax),hv.n1,ha,zt,o⟩
  rintro D U w a7 ⟨⟨ay,a1,a0,aq,ax⟩,hv,ha,_,o⟩
  have o:=(((((o.bY 0 (iT a7 8)).bY 1 (iT a7 13)).bY 2 (iT a7 15)).bY 3 (iT a7 21)).bY 12 (iT a7 8)).bY 13 (iT a7 15)
  obtain⟨O,rfl⟩:=(ac (ha.at 0 rfl) (ac (ha.at 1 rfl) (ac (ha.at 2 rfl) (ac (ha.at 3 rfl) (ac (ha.at 4 rfl) (ac (ha.at 5 rfl) az)))))).eQ
  refine cG (aG (RC.region (RL.inc hk hm (mv (vi ((b2+1:Nat):Int)) (RL.nil ?_)))))
  obtain rfl:=oi hb
  exact⟨rfl,a3,a4,aq,ax,us877,o.sp 15 [3,10,11,12,13,4,5,6,7,8,9]⟩
 rintro _ w ⟨cp,cq,cr,ct,us824,O,rfl,o⟩
 obtain rfl:=oi hb
 have o:=o.An (X:=bW) (b:=10) (j:=9) rfl (fun M h u x cs=>Ay M h u x cs) rfl rfl (by decide)
 refine DN ?_
 exact ID zr ⟨aj,cp,cq,cr,ct,zr,o.pk 11 [0,9,1,2,3,4]⟩
def ue (E:World) (V:List HP) (res:Option ((List (List aH))×(List aH)×(List cH)×(List eW)×(List (List aA))×(List aN)×(List (List Int))×(List dI)×(List Int)×(List Int)×(List Int)×(List bX))×Int) (v:Value) (w:World):Prop:=CU res.1 (v = .tuple #[(.pointer none),(vi res.2)]/\Holds E w V) (fun y=>∃(ub0:Nat) (u0_0 u0_1:Value) (u0_2 u0_3:Value) (u0_4 u0_5:Value) (u0_6 u0_7:Value) (u0_8 u0_9:Value) (u0_10 u0_11:Value),v = .tuple #[vp ub0 0,(vi res.2)]/\Holds E w ([bc 108 ub0 [u0_0,u0_1,u0_2,u0_3,u0_4,u0_5,u0_6,u0_7,u0_8,u0_9,u0_10,u0_11],rd u0_0 y.1,rd u0_1 y.2.1,rd u0_2 y.2.2.1,rd u0_3 y.2.2.2.1,own 137 u0_4 y.2.2.2.2.1,rd u0_5 y.2.2.2.2.2.1,rd u0_6 y.2.2.2.2.2.2.1,own 172 u0_7 y.2.2.2.2.2.2.2.1,rd u0_8 y.2.2.2.2.2.2.2.2.1,rd u0_9 y.2.2.2.2.2.2.2.2.2.1,own 3 u0_10 y.2.2.2.2.2.2.2.2.2.2.1,own 47 u0_11 y.2.2.2.2.2.2.2.2.2.2.2]++V))
def pZ (E:World) (V:List HP) (r:Option ((List (List aH))×(List aH)×(List cH)×(List eW)×(List (List aA))×(List aN)×(List (List Int))×(List dI)×(List Int)×(List Int)×(List Int)×(List bX))×Int) (U:Nat->Value) (w:World):Prop:=nB bN 112 Tryz.f28 (ue E V r) .ret U w
theorem na {p0:iM} {res:Option ((List (List aH))×(List aH)×(List cH)×(List eW)×(List (List aA))×(List aN)×(List (List Int))×(List dI)×(List Int)×(List Int)×(List Int)×(List bX))×Int} (j:Holds E w V) (h0:V[i0]? =some (rd v0 p0)) (o:eK N p0=some res):
    Calls bN 28 [v0].toArray w (iv (ue E V res)):=by
 unfold eK at o
 refine enter Tryz.func28 zr zr ?_
 have j:=j.dup (i0+0) h0
 refine RC.sr (RL.cX 0 v0 j zr fun ao w j=>?_)
 refine aR (.pointer none) (aR (vi 0) (RL.nq (RC.sr (RL.bT zr wx (RL.aS 0 j zr ql EV fun c2 j=>(RL.cC 0 p0.aI j B4 (ic ((p0.aI.length:Int)) 0 (RL.nt ?_))))))))
 refine fU o (fun hc o=>?_) fun hc o=>?_
 ·refine RC.sr (aR (.pointer none) (aR (vi 9) (RL.nt (RC.rt ?_))))
  obtain rfl:=oi o
  exact nO ⟨rfl,j.drop 3⟩
 refine RC.ss (RC.sr (RL.bT zr wx (RL.aS 1 j zr ql EV fun c3 j=>(RL.cC 0 p0.aI j B4 (ic ((p0.aI.length:Int)) 16 (RL.nt (fU o (fun hc o=>?_) fun hc o=>?_)))))))
 ·refine RC.sr (aR (.pointer none) (aR (vi 2) (RL.nt (RC.rt ?_))))
  obtain rfl:=oi o
  exact nO ⟨rfl,j.drop 4⟩
 refine RC.sx (RL.bT zr F1 (RL.aS 2 j zr xZ Az fun c4 j=>(RL.cC 0 p0.cL j sB (aR (vi p0.cL.length) (RL.nq (RC.sr (RL.bT zr wx (RL.aS 3 j zr ql EV fun bp j=>?_))))))))
 refine RL.cC 0 p0.aI j B4 (mv (vi 0) (RL.nt ?_))
 obtain⟨c5,hN,o⟩:=bd o
 refine RC.range (fun(bk:Nat) (ay:Int)=>SH E V [(1,vp ao 0),(4,vi ay),(28,bp),(29,vi p0.aI.length),(30,vi bk)] [bx 27 ao p0,rd bp p0.aI]) (fun(ay:Int)=>SH E V [(1,vp ao 0),(4,vi ay)] [bx 27 ao p0,rd bp p0.aI]) (pZ E V) hN ?_ ?_ ?_ ?_ ?_
 ·exact j.sp 6 [4,0]
 ·rintro hm ay _ w ⟨O,rfl,j⟩
  refine RC.sr (ic ((p0.aI.length:Int)) ((p0.aI.length:Int)) (RL.nq (RC.dS pD (RC.ex ?_))))
  exact⟨rfl,j.sp 2 [0,1]⟩
 ·rintro hm bk ay fl _ w hk ⟨O,rfl,j⟩ o
  refine RC.sr (ic ((bk:Int)) ((p0.aI.length:Int)) (RL.nq (RC.dR (pC hk) (RC.ss (RC.bs ?_)))))
  obtain⟨bl,bz,o⟩:=bd o
  refine RL.cM 1 j EW bz fun c6 j=>(RL.cD 0 bl j Az fun bm j=>(aR bm (RL.nq (RC.sr (mv bm ?_)))))
  obtain⟨a8,b0,o⟩:=bd o
  refine RL.call zt zr JP [bm] zr (aF (nS N (i0:=0) j zr b0) ?_)
  rintro _ w ⟨rfl,j⟩
  refine aR (vi a8) (RL.ns (mv (vi a8) (ic a8 0 (RL.nt (fU o (fun hc o=>?_) fun hc o=>?_)))))
  ·refine RC.sr (mv (vi a8) (aR (.pointer none) (aR (vi a8) (RL.nt (RC.rt (qV (cO ?_)))))))
   obtain rfl:=oi o
   exact⟨rfl,nO ⟨rfl,j.drop 4⟩⟩
  refine RC.sn (RC.region (mv (vi ay) (mv bm (RL.cC 0 bl j sB (RL.kr ay (bl.length:Int) (aR (vi (IntKind.wrap .i64 (ay+ (bl.length:Int)))) (RL.nil (cG ?_))))))))
  refine aG (RC.region (RL.inc hk hm (mv (vi ((bk+1:Nat):Int)) (RL.nil ?_))))
  obtain rfl:=oi o
  exact⟨rfl,j.sp 4 [2,3]⟩
 ·intro r U w e hK
  subst e
  refine cO ?_
  obtain rfl:=oi o
  exact hK
 rintro ay _ w rfl ⟨O,rfl,j⟩
 rw [Fo.gw] at o
 refine aG (RC.seq (RC.sr (RL.bT zr F1 (RL.aS 0 j zr xZ Az fun b1 j=>?_))))
 obtain⟨ba,b2,o⟩:=bd o
 refine RL.call zt zr JP [b1] zr (aF (nS N (i0:=0) j zr b2) ?_)
 rintro _ w ⟨rfl,j⟩
 refine aR (vi ba) (RL.ns (mv (vi ba) (ic ba 0 (RL.nt (fU o (fun hc o=>?_) fun hc o=>?_)))))
 ·refine RC.sr (mv (vi ba) (aR (.pointer none) (aR (vi ba) (RL.nt (RC.rt ?_)))))
  obtain rfl:=oi o
  exact nO ⟨rfl,j.drop 3⟩
 refine RC.ss (RC.sr (mv (vi ay) (ic ay 2000 (RL.nt (fU o (fun hc o=>?_) fun hc o=>?_)))))
 ·refine RC.sr (aR (.pointer none) (aR (vi 2) (RL.nt (RC.rt ?_))))
  obtain rfl:=oi o
  exact nO ⟨rfl,j.drop 3⟩
 refine RC.ss (RC.sr (RL.aS (f:=(fun x=>x)) 1 j zr Fd.self sA fun b3 j=>?_))
 obtain⟨bb,b4,o⟩:=bd o
 refine RL.call zt zr Lm [b3] zr (aF (sG N (i0:=0) j zr b4) ?_)
 rintro _ w ⟨rfl,j⟩
 refine aR (vi bb) (RL.ns (mv (vi bb) (ic bb 0 (RL.nt (fU o (fun hc o=>?_) fun hc o=>?_)))))
 ·refine RC.sr (mv (vi bb) (aR (.pointer none) (aR (vi bb) (RL.nt (RC.rt ?_)))))
  obtain rfl:=oi o
  exact nO ⟨rfl,j.drop 4⟩
 refine RC.ss (RC.sr (RL.aS (f:=(fun x=>x)) 2 j zr Fd.self sA fun b5 j=>?_))
 obtain⟨bc,b6,o⟩:=bd o
 refine RL.call zt zr Lr [b5] zr (aF (sK N (i0:=0) j zr b6) ?_)
 rintro _ w ⟨rfl,j⟩
 refine aR (vi bc) (RL.ns (mv (vi bc) (ic bc 0 (RL.nt (fU o (fun hc o=>?_) fun hc o=>?_)))))
 ·refine RC.sr (mv (vi bc) (aR (.pointer none) (aR (vi bc) (RL.nt (RC.rt ?_)))))
  obtain rfl:=oi o
  exact nO ⟨rfl,j.drop 5⟩
 refine RC.ss (RC.sr (RL.bT zr oU (RL.aS 3 j zr sm x5 fun av j=>(RL.cC 0 p0.aJ j ze (mv (vi 0) (RL.nt ?_))))))
 obtain⟨c7,hN,o⟩:=bd o
 refine RC.range (fun(ax:Nat) (bn:Unit)=>SH E V [(1,vp ao 0),(63,av),(64,vi p0.aJ.length),(65,vi ax)] [bx 27 ao p0,rd av p0.aJ]) (fun(bn:Unit)=>SH E V [(1,vp ao 0)] [bx 27 ao p0,rd av p0.aJ]) (pZ E V) hN ?_ ?_ ?_ ?_ ?_
 ·exact j.sp 6 [4,0]
 ·rintro hm bn _ w ⟨O,rfl,j⟩
  refine RC.sr (ic ((p0.aJ.length:Int)) ((p0.aJ.length:Int)) (RL.nq (RC.dS pD (RC.ex ?_))))
  exact⟨rfl,j.sp 2 [0,1]⟩
 ·rintro hm ax bn fl _ w hk ⟨O,rfl,j⟩ o
  refine RC.sr (ic ((ax:Int)) ((p0.aJ.length:Int)) (RL.nq (RC.dR (pC hk) (RC.ss (RC.bs (mv (vi ax) ?_))))))
  obtain⟨ad,b7,o⟩:=bd o
  refine RL.cM 1 j B6 b7 fun c8 j=>(RL.cD 0 ad j mf fun c9 j=>(RL.alloc j zH.z fun an w j=>?_))
  refine aR (vi ax) (RL.bM 0 j 1 zr mf fun w j=>?_)
  refine RL.ns (RL.bT zr oU (RL.aS 3 j zr sm x5 fun da j=>(mv (vi ax) ?_)))
  obtain⟨aw,b8,o⟩:=bd o
  refine RL.cut (hl:= .inr ⟨rfl,zr⟩) 0 j B6 (.inl zr) b8 fun a2 j=>(RL.cC 0 aw j ze (mv (vi 0) (RL.nt ?_)))
  obtain⟨db,hN,o⟩:=bd o
  refine RC.range (fun(a5:Nat) (bo:Unit)=>SH E V [(1,vp ao 0),(12,vp an 0),(63,av),(64,vi p0.aJ.length),(65,vi ax),(73,a2),(74,vi aw.length),(75,vi a5)] [bx 27 ao p0,bx 101 an ad,rd av p0.aJ,rd a2 aw]) (fun(bo:Unit)=>SH E V [(1,vp ao 0),(63,av),(64,vi p0.aJ.length),(65,vi ax)] [bx 27 ao p0,bx 101 an ad,rd av p0.aJ,rd a2 aw]) (pZ E V) hN ?_ ?_ ?_ ?_ ?_
  ·exact j.sp 7 [5,2,6,0]
  ·rintro hm bo _ w ⟨O,rfl,j⟩
   refine RC.sr (ic ((aw.length:Int)) ((aw.length:Int)) (RL.nq (RC.dS pD (RC.ex ?_))))
   exact⟨rfl,j.sp 4 [0,1,2,3]⟩
  ·rintro hm a5 bo fl _ w hk ⟨O,rfl,j⟩ o
   refine RC.sr (ic ((a5:Int)) ((aw.length:Int)) (RL.nq (RC.dR (pC hk) (RC.ss (RC.bs ?_)))))
   obtain⟨ab,b9,o⟩:=bd o
   refine RL.cM 3 j B6 b9 fun bu j=>(RL.cD 0 ab j mf fun bw j=>(RL.alloc j zH.z fun au w j=>?_))
   refine RL.bM 0 j 1 zr mf fun w j=>?_
   refine RL.nq ?_
   obtain⟨bq,hj,o⟩:=bd o
   refine RC.jn (fun(bq:Bool)=>SH E V [(1,vp ao 0),(12,vp an 0),(63,av),(64,vi p0.aJ.length),(65,vi ax),(73,a2),(74,vi aw.length),(75,vi a5),(98,vb bq)] [bx 27 ao p0,bx 101 an ad,rd av p0.aJ,rd a2 aw]) bq ?_ ?_
   ·refine gG hj (fun ar hj=>?_) fun ar hj=>?_
    rotate_left
    ·refine RC.D3 E V mixed [1,0,1,0,1,1,0,0,0,0,0,0,1,1,1,1,1,1,1,1] [] (fun(x:Unit)=>[(0,79,(vp an 3)),(1,80,(vi ad.cY)),(2,81,(vp au 4)),(3,82,(vi ab.To)),(4,83,(vb (decide (ad.cY<=ab.To)))),(5,84,(vb (decide (ad.cY<=ab.To)))),(6,85,(cv (true&&((decide (ad.cY<=ab.To))==true)) (vp au 3))),(7,86,(cv (true&&((decide (ad.cY<=ab.To))==true)) (vi ab.cY))),(8,87,(cv (true&&((decide (ad.cY<=ab.To))==true)) (vp an 4))),(9,88,(cv (true&&((decide (ad.cY<=ab.To))==true)) (vi ad.To))),(10,89,(cv (true&&((decide (ad.cY<=ab.To))==true)) (vb (decide (ab.cY<=ad.To))))),(11,90,(vb ((decide (ad.cY<=ab.To))&&(decide (ab.cY<=ad.To))))),(12,91,(vb ((decide (ad.cY<=ab.To))&&(decide (ab.cY<=ad.To))))),(13,92,undef),(14,93,undef),(15,94,undef),(16,95,undef),(17,96,undef),(18,97,undef),(19,98,(vb false))]) [(1,vp ao 0),(12,vp an 0),(14,vp au 0),(63,av),(64,vi p0.aJ.length),(65,vi ax),(73,a2),(74,vi aw.length),(75,vi a5)] [] (fun(D:Nat->Bool) (x:Unit)=>[bx 101 au ab,rd bw ab,pt bu ab,bx 27 ao p0,bx 101 an ad,rd av p0.aJ,rd a2 aw]) (fun x=>by kernel_rfl) ?_ ⟨fun _=>nn gn ri,?_,fun _=>nn gn tp,?_,fun _=>EP gn,fun _=>g8 gn,?_,?_,?_,?_,?_,?_,fun _=>g8 gn,fun _=>u4 ar,fun _=>u4 ar,fun _=>u4 ar,fun _=>u4 ar,fun _=>u4 ar,fun _=>u4 ar,fun _=>Jx gn ar rfl,trivial⟩ ?_
     ·have j:=j.drew
      exact⟨(),eR.none,(CV zr),zt,j⟩
     ·rintro D U w hD af al ⟨_,hv,ha,_,j⟩
      obtain⟨O,rfl⟩:=(ac (hv.at 0 rfl (af.1 rfl)) az).eQ
      refine RL.aX 4 j zr nE dH ?_
      exact RL.nil ⟨rfl,(),hv.pu 1,ha.u,zt,j⟩
     ·rintro D U w hD af al ⟨_,hv,ha,_,j⟩
      obtain⟨O,rfl⟩:=(ac (hv.at 2 rfl (af.1 rfl)) az).eQ
      refine RL.aX 0 j zr oK dH ?_
      exact RL.nil ⟨rfl,(),hv.pu 3,ha.u,zt,j⟩
     ·rintro D U w hD af al ⟨_,hv,ha,_,j⟩
      obtain⟨O,rfl⟩:=(ac (hv.at 5 rfl (af.1 rfl)) (ac (ha.at 2 rfl) az)).eQ
      refine RL.gs true (decide (ad.cY<=ab.To)) (vp au 3) zr zr zr (f9 ri) ?_
      exact RL.nil ⟨rfl,(),hv.pu 6,ha.u,zt,j⟩
     ·rintro D U w hD af al ⟨_,hv,ha,_,j⟩
      obtain⟨O,rfl⟩:=(ac (hv.at 5 rfl (af.2.1 rfl)) (ac (hv.at 6 rfl (af.1 rfl)) az)).eQ
      refine RL.gs true (decide (ad.cY<=ab.To)) (vi ab.cY) rfl rfl rfl (cT 0 rfl j (fun h=>by exact(dN h:cv (true&&((decide (ad.cY<=ab.To))==true)) (vp au 3)= (vp au 3))) rfl nE dH) ?_
      exact RL.nil ⟨rfl,(),hv.pu 7,ha.u,zt,j⟩
     ·rintro D U w hD af al ⟨_,hv,ha,_,j⟩
      obtain⟨O,rfl⟩:=(ac (hv.at 5 rfl (af.1 rfl)) (ac (ha.at 1 rfl) az)).eQ
      refine RL.gs true (decide (ad.cY<=ab.To)) (vp an 4) zr zr zr (f9 tp) ?_
      exact RL.nil ⟨rfl,(),hv.pu 8,ha.u,zt,j⟩
     ·rintro D U w hD af al ⟨_,hv,ha,_,j⟩
      obtain⟨O,rfl⟩:=(ac (hv.at 5 rfl (af.2.1 rfl)) (ac (hv.at 8 rfl (af.1 rfl)) az)).eQ
      refine RL.gs true (decide (ad.cY<=ab.To)) (vi ad.To) rfl rfl rfl (cT 4 rfl j (fun h=>by exact(dN h:cv (true&&((decide (ad.cY<=ab.To))==true)) (vp an 4)= (vp an 4))) rfl oK dH) ?_
      exact RL.nil ⟨rfl,(),hv.pu 9,ha.u,zt,j⟩
     ·rintro D U w hD af al ⟨_,hv,ha,_,j⟩
      obtain⟨O,rfl⟩:=(ac (hv.at 5 rfl (af.2.2.1 rfl)) (ac (hv.at 7 rfl (af.1 rfl)) (ac (hv.at 9 rfl (af.2.1 rfl)) az))).eQ
      refine RL.gs true (decide (ad.cY<=ab.To)) (vb (decide (ab.cY<=ad.To))) rfl rfl rfl (fN .leq .i64 ab.cY ad.To rfl (fun h=>by exact(dN h:cv (true&&((decide (ad.cY<=ab.To))==true)) (vi ab.cY)= (vi ab.cY))) (fun h=>by exact(dN h:cv (true&&((decide (ad.cY<=ab.To))==true)) (vi ad.To)= (vi ad.To))) rfl) ?_
      exact RL.nil ⟨rfl,(),hv.pu 10,ha.u,zt,j⟩
     ·rintro D U w hD af al ⟨_,hv,ha,_,j⟩
      obtain⟨O,rfl⟩:=(ac (hv.at 5 rfl (af.1 rfl)) (ac (hv.at 10 rfl (af.2.1 rfl)) az)).eQ
      refine RL.pick (decide (ad.cY<=ab.To)) (vb ((decide (ad.cY<=ab.To))&&(decide (ab.cY<=ad.To)))) (k7 true) ?_
      exact RL.nil ⟨rfl,(),hv.pu 11,ha.u,zt,j⟩
     rintro D U w a6 ⟨_,hv,ha,_,j⟩
     obtain⟨O,rfl⟩:=(ac (hv.at 19 rfl (iT a6 19)) (ac (ha.at 0 rfl) (ac (ha.at 1 rfl) (ac (ha.at 2 rfl) (ac (ha.at 3 rfl) (ac (ha.at 4 rfl) (ac (ha.at 5 rfl) (ac (ha.at 6 rfl) (ac (ha.at 7 rfl) (ac (ha.at 8 rfl) az)))))))))).eQ
     obtain rfl:=oi hj
     exact⟨rfl,j.sp 7 [3,4,5,6]⟩
    obtain⟨ca,cb,hj⟩:=bd hj
    obtain⟨cc,cd,hj⟩:=bd hj
    obtain⟨br,cf,hj⟩:=bd hj
    refine RC.D3 E V mixed [1,0,1,0,1,1,0,0,0,0,0,0,1,0,0,0,0,0,1,1] [13,14,15,16] (fun(x:Value×Value×Value×Value)=>(fun ag ah ai aj=>[(0,79,(vp an 3)),(1,80,(vi ad.cY)),(2,81,(vp au 4)),(3,82,(vi ab.To)),(4,83,(vb (decide (ad.cY<=ab.To)))),(5,84,(vb (decide (ad.cY<=ab.To)))),(6,85,(cv (true&&((decide (ad.cY<=ab.To))==true)) (vp au 3))),(7,86,(cv (true&&((decide (ad.cY<=ab.To))==true)) (vi ab.cY))),(8,87,(cv (true&&((decide (ad.cY<=ab.To))==true)) (vp an 4))),(9,88,(cv (true&&((decide (ad.cY<=ab.To))==true)) (vi ad.To))),(10,89,(cv (true&&((decide (ad.cY<=ab.To))==true)) (vb (decide (ab.cY<=ad.To))))),(11,90,(vb ((decide (ad.cY<=ab.To))&&(decide (ab.cY<=ad.To))))),(12,91,(vb ((decide (ad.cY<=ab.To))&&(decide (ab.cY<=ad.To))))),(13,92,ag),(14,93,ah),(15,94,ai),(16,95,aj),(17,96,(vi br)),(18,97,(vb (br==0))),(19,98,(vb (br==0)))]) x.1 x.2.1 x.2.2.1 x.2.2.2) [(1,vp ao 0),(12,vp an 0),(14,vp au 0),(63,av),(64,vi p0.aJ.length),(65,vi ax),(73,a2),(74,vi aw.length),(75,vi a5)] [] (fun(D:Nat->Bool) (x:Value×Value×Value×Value)=>(fun ag ah ai aj=>[bif D 0 then (rd ag ad) else aW,bif D 1 then (rd ah ca) else aW,bif D 2 then (rd ai ab) else aW,bif D 3 then (rd aj cc) else aW,bx 101 au ab,rd bw ab,pt bu ab,bx 27 ao p0,bx 101 an ad,rd av p0.aJ,rd a2 aw]) x.1 x.2.1 x.2.2.1 x.2.2.2) (fun x=>by kernel_rfl) ?_ ⟨fun _=>nn gn ri,?_,fun _=>nn gn tp,?_,fun _=>EP gn,fun _=>g8 gn,?_,?_,?_,?_,?_,?_,fun _=>g8 gn,?_,?_,?_,?_,?_,fun _=>EP (gy ar),fun _=>Jw gn ar rfl,trivial⟩ ?_
    ·have j:=((((j.drew).aW).aW).aW).aW
     exact⟨(undef,undef,undef,undef),eR.none,(CV zr),zt,j⟩
    ·rintro D U w hD af al ⟨⟨ag,ah,ai,aj⟩,hv,ha,_,j⟩
     obtain⟨O,rfl⟩:=(ac (hv.at 0 rfl (af.1 rfl)) az).eQ
     refine RL.aX 8 j zr nE dH ?_
     exact RL.nil ⟨rfl,(ag,ah,ai,aj),hv.pu 1,ha.u,zt,j⟩
    ·rintro D U w hD af al ⟨⟨ag,ah,ai,aj⟩,hv,ha,_,j⟩
     obtain⟨O,rfl⟩:=(ac (hv.at 2 rfl (af.1 rfl)) az).eQ
     refine RL.aX 4 j zr oK dH ?_
     exact RL.nil ⟨rfl,(ag,ah,ai,aj),hv.pu 3,ha.u,zt,j⟩
    ·rintro D U w hD af al ⟨⟨ag,ah,ai,aj⟩,hv,ha,_,j⟩
     obtain⟨O,rfl⟩:=(ac (hv.at 5 rfl (af.1 rfl)) (ac (ha.at 2 rfl) az)).eQ
     refine RL.gs true (decide (ad.cY<=ab.To)) (vp au 3) zr zr zr (f9 ri) ?_
     exact RL.nil ⟨rfl,(ag,ah,ai,aj),hv.pu 6,ha.u,zt,j⟩
    ·rintro D U w hD af al ⟨⟨ag,ah,ai,aj⟩,hv,ha,_,j⟩
     obtain⟨O,rfl⟩:=(ac (hv.at 5 rfl (af.2.1 rfl)) (ac (hv.at 6 rfl (af.1 rfl)) az)).eQ
     refine RL.gs true (decide (ad.cY<=ab.To)) (vi ab.cY) rfl rfl rfl (cT 4 rfl j (fun h=>by exact(dN h:cv (true&&((decide (ad.cY<=ab.To))==true)) (vp au 3)= (vp au 3))) rfl nE dH) ?_
     exact RL.nil ⟨rfl,(ag,ah,ai,aj),hv.pu 7,ha.u,zt,j⟩
    ·rintro D U w hD af al ⟨⟨ag,ah,ai,aj⟩,hv,ha,_,j⟩
     obtain⟨O,rfl⟩:=(ac (hv.at 5 rfl (af.1 rfl)) (ac (ha.at 1 rfl) az)).eQ
     refine RL.gs true (decide (ad.cY<=ab.To)) (vp an 4) zr zr zr (f9 tp) ?_
     exact RL.nil ⟨rfl,(ag,ah,ai,aj),hv.pu 8,ha.u,zt,j⟩
    ·rintro D U w hD af al ⟨⟨ag,ah,ai,aj⟩,hv,ha,_,j⟩
     obtain⟨O,rfl⟩:=(ac (hv.at 5 rfl (af.2.1 rfl)) (ac (hv.at 8 rfl (af.1 rfl)) az)).eQ
     refine RL.gs true (decide (ad.cY<=ab.To)) (vi ad.To) rfl rfl rfl (cT 8 rfl j (fun h=>by exact(dN h:cv (true&&((decide (ad.cY<=ab.To))==true)) (vp an 4)= (vp an 4))) rfl oK dH) ?_
     exact RL.nil ⟨rfl,(ag,ah,ai,aj),hv.pu 9,ha.u,zt,j⟩
    ·rintro D U w hD af al ⟨⟨ag,ah,ai,aj⟩,hv,ha,_,j⟩
     obtain⟨O,rfl⟩:=(ac (hv.at 5 rfl (af.2.2.1 rfl)) (ac (hv.at 7 rfl (af.1 rfl)) (ac (hv.at 9 rfl (af.2.1 rfl)) az))).eQ
     refine RL.gs true (decide (ad.cY<=ab.To)) (vb (decide (ab.cY<=ad.To))) rfl rfl rfl (fN .leq .i64 ab.cY ad.To rfl (fun h=>by exact(dN h:cv (true&&((decide (ad.cY<=ab.To))==true)) (vi ab.cY)= (vi ab.cY))) (fun h=>by exact(dN h:cv (true&&((decide (ad.cY<=ab.To))==true)) (vi ad.To)= (vi ad.To))) rfl) ?_
     exact RL.nil ⟨rfl,(ag,ah,ai,aj),hv.pu 10,ha.u,zt,j⟩
    ·rintro D U w hD af al ⟨⟨ag,ah,ai,aj⟩,hv,ha,_,j⟩
     obtain⟨O,rfl⟩:=(ac (hv.at 5 rfl (af.1 rfl)) (ac (hv.at 10 rfl (af.2.1 rfl)) az)).eQ
     refine RL.pick (decide (ad.cY<=ab.To)) (vb ((decide (ad.cY<=ab.To))&&(decide (ab.cY<=ad.To)))) (k7 true) ?_
     exact RL.nil ⟨rfl,(ag,ah,ai,aj),hv.pu 11,ha.u,zt,j⟩
    ·rintro D U w hD af al ⟨⟨ag,ah,ai,aj⟩,hv,ha,_,j⟩
     obtain⟨O,rfl⟩:=(ac (hv.at 12 rfl (af.1 rfl)) (ac (ha.at 1 rfl) az)).eQ
     have j:=j.bS 0 hD
     refine RL.aS (hg:=(cg ar)) (f:=(fun x=>x)) 8 j zr Fd.self mf fun ch j=>?_
     have j:=(j.pl 12 [0,2,3,4,5,6,7,8,9,10,11]).bZ 0 true rfl aW
     exact RL.nil ⟨rfl,(ch,ah,ai,aj),hv.pu 13,ha.u,zt,j⟩
    ·rintro D U w hD af al ⟨⟨ag,ah,ai,aj⟩,hv,ha,_,j⟩
     obtain⟨O,rfl⟩:=(ac (hv.at 12 rfl (af.2.1 rfl)) (ac (hv.at 13 rfl (af.1 rfl)) az)).eQ
     have j:=(j.bY 0 (af.1 rfl)).bS 1 hD
     refine RL.call (cg ar) zr EZ [ag] zr (aF (g9 N (i0:=0) j zr cb) ?_)
     rintro cj w j
     have j:=((j.pl 12 [1,0,3,4,5,6,7,8,9,10,11]).bZ 0 (D 13) (af.1 rfl) aW).bZ 1 true rfl aW
     exact RL.nil ⟨rfl,(ag,cj,ai,aj),hv.pu 14,ha.u,zt,j⟩
    ·rintro D U w hD af al ⟨⟨ag,ah,ai,aj⟩,hv,ha,_,j⟩
     obtain⟨O,rfl⟩:=(ac (hv.at 12 rfl (af.1 rfl)) (ac (ha.at 2 rfl) az)).eQ
     have j:=j.bS 2 hD
     refine RL.aS (hg:=(cg ar)) (f:=(fun x=>x)) 4 j zr Fd.self mf fun ck j=>?_
     have j:=(j.pl 12 [1,2,0,4,5,6,7,8,9,10,11]).bZ 2 true rfl aW
     exact RL.nil ⟨rfl,(ag,ah,ck,aj),hv.pu 15,ha.u,zt,j⟩
    ·rintro D U w hD af al ⟨⟨ag,ah,ai,aj⟩,hv,ha,_,j⟩
     obtain⟨O,rfl⟩:=(ac (hv.at 12 rfl (af.2.2.1 rfl)) (ac (hv.at 15 rfl (af.1 rfl)) az)).eQ
     have j:=(j.bY 2 (af.1 rfl)).bS 3 hD
     refine RL.call (cg ar) zr EZ [ai] zr (aF (g9 N (i0:=2) j zr cd) ?_)
     rintro cl w j
     have j:=((j.pl 12 [1,2,3,0,5,6,7,8,9,10,11]).bZ 2 (D 15) (af.1 rfl) aW).bZ 3 true rfl aW
     exact RL.nil ⟨rfl,(ag,ah,ai,cl),hv.pu 16,ha.u,zt,j⟩
    ·rintro D U w hD af al ⟨⟨ag,ah,ai,aj⟩,hv,ha,_,j⟩
     obtain⟨O,rfl⟩:=(ac (hv.at 12 rfl (af.2.2.2.1 rfl)) (ac (hv.at 14 rfl (af.1 rfl)) (ac (hv.at 16 rfl (af.2.1 rfl)) az))).eQ
     have j:=(j.bY 1 (af.1 rfl)).bY 3 (af.2.1 rfl)
     refine RL.call (cg ar) zr Ls [ah,aj] zr (aF (AN N (i0:=1) (i1:=3) j zr zr cf) ?_)
     rintro _ w ⟨rfl,j⟩
     have j:=(j.bZ 1 (D 14) (af.1 rfl) aW).bZ 3 (D 16) (af.2.1 rfl) aW
     exact RL.nil ⟨rfl,(ag,ah,ai,aj),hv.pu 17,ha.u,zt,j⟩
    rintro D U w a6 ⟨⟨ag,ah,ai,aj⟩,hv,ha,_,j⟩
    have j:=(((j.bY 0 (iT a6 13)).bY 1 (iT a6 14)).bY 2 (iT a6 15)).bY 3 (iT a6 16)
    obtain⟨O,rfl⟩:=(ac (hv.at 19 rfl (iT a6 19)) (ac (ha.at 0 rfl) (ac (ha.at 1 rfl) (ac (ha.at 2 rfl) (ac (ha.at 3 rfl) (ac (ha.at 4 rfl) (ac (ha.at 5 rfl) (ac (ha.at 6 rfl) (ac (ha.at 7 rfl) (ac (ha.at 8 rfl) az)))))))))).eQ
    obtain rfl:=oi hj
    exact⟨rfl,j.sp 11 [7,8,9,10]⟩
   rintro _ w ⟨O,rfl,j⟩
   refine aG (fU o (fun hc o=>?_) fun hc o=>?_)
   rotate_left
   ·refine RC.skip (cG (aG (RC.region (RL.inc hk hm (mv (vi ((a5+1:Nat):Int)) (RL.nil ?_))))))
    obtain rfl:=oi o
    exact⟨rfl,j.sp 4 [0,1,2,3]⟩
   refine RC.sr (aR (.pointer none) (aR (vi 12) (RL.nt (RC.rb (cO ?_)))))
   obtain rfl:=oi o
   exact⟨rfl,nO ⟨rfl,j.drop 4⟩⟩
  ·intro r U w e hK
   subst e
   refine qV (cO ?_)
   obtain rfl:=oi o
   exact⟨rfl,hK⟩
  rintro bo _ w rfl ⟨O,rfl,j⟩
  rw [Fo.gw] at o
  refine cG (aG (RC.region (RL.inc hk hm (mv (vi ((ax+1:Nat):Int)) (RL.nil ?_)))))
  obtain rfl:=oi o
  exact⟨rfl,j.sp 4 [0,2]⟩
 ·intro r U w e hK
  subst e
  refine cO ?_
  obtain rfl:=oi o
  exact hK
 rintro bn _ w rfl ⟨O,rfl,j⟩
 rw [Fo.gw] at o
 refine aG (RC.sr (RL.aS (f:=(fun x=>x)) 0 j zr Fd.self sA fun cm j=>?_))
 obtain⟨cs,hcs,hv224,j⟩:=j.Hu (i:=0) rfl rfl
 obtain⟨bf,bg,bh,bj,rfl⟩:=La hcs
 have j:=(((j.lV (i:=0) (k:=0) (f:=fun x=>x.aI) rfl ql rfl rfl rfl).lV (i:=1) (k:=1) (f:=fun x=>x.cL) rfl xZ rfl rfl rfl).lV (i:=2) (k:=2) (f:=fun x=>x.aJ) rfl sm rfl rfl rfl).lV (i:=3) (k:=3) (f:=fun x=>x.bG) rfl sq rfl rfl rfl
 refine RL.IQ (zs:=[(.slice none 0 0),(.slice none 0 0),(.slice none 0 0),(.slice none 0 0),(.slice none 0 0),(.slice none 0 0),(.slice none 0 0),(.slice none 0 0),(.slice none 0 0),(.slice none 0 0),(.slice none 0 0),(.slice none 0 0)]) (cs:=[bf,bg,bh,bj,(.slice none 0 0),(.slice none 0 0),(.slice none 0 0),(.slice none 0 0),(.slice none 0 0),(.slice none 0 0),(.slice none 0 0),(.slice none 0 0)]) zt zr [(0,cm)] [(0,[bf,bg,bh,bj])] zr Kb ⟨rfl,(congrArg Value.cells hv224),zt⟩ zr (RL.DY [bf,bg,bh,bj,(.slice none 0 0),(.slice none 0 0),(.slice none 0 0),(.slice none 0 0),(.slice none 0 0),(.slice none 0 0),(.slice none 0 0),(.slice none 0 0)] zr j zr (BD.all (⟨(xF 3 j),(xF 2 j),(xF 1 j),(xF 0 j),zr,zr,zr,zr,zr,zr,zr,zr,zt⟩:BD [bf,bg,bh,bj,(.slice none 0 0),(.slice none 0 0),(.slice none 0 0),(.slice none 0 0),(.slice none 0 0),(.slice none 0 0),(.slice none 0 0),(.slice none 0 0)])) fun a1 w j=>?_)
 refine aR (vp a1 0) (RL.nq (RC.sr (mv (vp a1 0) ?_)))
 have j:=((((((j.dC (List aA) 137).dC aN 165).pull 0).pull 2).dup 6 rfl).dup 9 rfl).pull 6
 obtain⟨cn,cp,o⟩:=bd o
 refine RL.call zt zr Ly [(vp a1 0)] zr (aF (rS N j cp) ?_)
 rintro _ w ⟨cq,cr,rfl,j⟩
 refine RL.not cn.1 (RL.nt (fU o (fun hc o=>?_) fun hc o=>?_))
 ·refine RC.sr (aR (.pointer none) (aR (vi 2) (RL.nt (RC.rt ?_))))
  obtain rfl:=oi o
  exact nO ⟨rfl,j.drop 14⟩
 refine RC.sx (mv (vp a1 0) ?_)
 have j:=(((((j.freeze 2).dC (List Int) 91).pull 0).dup 4 rfl).dup 10 rfl).pull 4
 obtain⟨dc,ct,o⟩:=bd o
 refine RL.call zt zr Lz [(vp a1 0)] zr (aF (rT N j ct) ?_)
 rintro _ w ⟨cu,rfl,j⟩
 refine RL.ns (mv (vp a1 0) ?_)
 have j:=((((((((((((j.freeze 1).dC Int 3).dC Int 3).dC Int 3).dC bX 47).pull 0).pull 2).pull 4).pull 6).dup 9 rfl).dup 14 rfl).dup 19 rfl).dup 21 rfl
 have j:=j.pull 12
 obtain⟨dd,cw,o⟩:=bd o
 refine RL.call zt zr LC [(vp a1 0)] zr (aF (nW N j cw) ?_)
 rintro _ w ⟨cx,cy,cz,c0,c1,rfl,j⟩
 refine RL.ns (mv (vp a1 0) (aR (vp a1 0) (aR (vi 0) (RL.nt (RC.ret ?_)))))
 obtain rfl:=oi o
 exact nO ⟨a1,bf,bg,bh,bj,cq,cr,cu,cx,cy,cz,c0,c1,zr,j.pk 27 [0,22,21,20,19,14,15,11,1,2,3,4,5]⟩
theorem mo {p0: (List eW)} {p1:fL} {p2:eW->fL->Option Int} {res:Int×Bool} (o:Holds E w V) (h0:V[i0]? =some (rd v0 p0)) (h1:V[i1]? =some (rd v1 p1)) (h2:II bN E V v2 p2 (fun(r:Int)=>Value.int .i64 r)) (hb:fA N p0 p1 p2=some res):
    Calls bN 75 [v0,v1,v2].toArray w (iv (je E V res)):=by
 unfold fA at hb
 refine enter Tryz.func75 zr zr ?_
 have o:=(o.dup (i0+0) h0).dup (i1+1) h1
 refine RC.sr (RL.cX 0 v1 o zr fun ae w o=>?_)
 refine aR (vi 0) (aR (vb false) (RL.ns (mv v0 (RL.cC 2 p0 o Hz (aR (vi p0.length) (RL.ns (mv (vi p0.length) (aR (vi 0) ?_))))))))
 refine aR (vi p0.length) (RL.nq ?_)
 obtain⟨av,hN,hb⟩:=bd hb
 refine RC.iter (fun(j:Int×Int)=>SH E V [(0,v0),(2,v2),(4,vp ae 0),(8,vi p0.length),(9,vi j.1),(10,vi j.2)] [rd v0 p0,bx 39 ae p1]) (fun(j:Int×Int)=>SH E V [(0,v0),(2,v2),(4,vp ae 0),(8,vi p0.length),(9,vi j.1)] [rd v0 p0,bx 39 ae p1]) (fun(r:Empty) _ _=>r.elim) hN ?_ ?_ ?_ ?_
 ·exact o.sp 3 [2,0]
 ·rintro j fl _ w ⟨O,rfl,o⟩ hb
  refine RC.seq (RC.sr (mv (vi j.1) (mv (vi j.2) (ic j.1 j.2 (RL.nt (fU hb (fun hc hb=>?_) fun hc hb=>?_))))))
  rotate_left
  ·refine RC.ex ?_
   obtain rfl:=oi hb
   exact⟨rfl,o.sp 2 [0,1]⟩
  refine RC.sn (RC.bs (mv (vi j.1) (mv (vi j.2) (RL.kr j.1 j.2 (RL.conv (IntKind.wrap .i64 (j.1+j.2)) zr zr ⟨_,F4⟩ Ef (RL.bin (v:=(.int .u64 (IntKind.wrap .u64 (IntKind.wrap .i64 (j.1+j.2))))) (v':=(.int .u64 1)) (u:=(.int .u64 (Int.fdiv (IntKind.wrap .u64 (IntKind.wrap .i64 (j.1+j.2))) 2))) zt zr zr zr (fun _=>zr) (fun _=>zr) (RL.conv (Int.fdiv (IntKind.wrap .u64 (IntKind.wrap .i64 (j.1+j.2))) 2) zr zr ⟨_,Ef⟩ F4 (aR (vi (IntKind.wrap .i64 (Int.fdiv (IntKind.wrap .u64 (IntKind.wrap .i64 (j.1+j.2))) 2))) ?_))))))))
  refine RL.nq (RC.Bj mixed [0,0,0,0,0,0,2,0] [0,1,2,3,4,5,6,7] ?_)
  have o:=o.drew
  refine DP.e0 zr (mv v2 (bR zr (mv v0 (bR zr (mv (vi (IntKind.wrap .i64 (Int.fdiv (IntKind.wrap .u64 (IntKind.wrap .i64 (j.1+j.2))) 2))) (bR zr ?_))))))
  obtain⟨ak,al,hb⟩:=bd hb
  refine RL.cM 0 o F7 al fun ax o=>(bR zr (RL.cD 0 ak o x8 fun ay o=>(bR zr (RL.aS (f:=(fun x=>x)) 3 o zr Fd.self qo fun az o=>(u6 zr ?_)))))
  obtain⟨an,ao,hb⟩:=bd hb
  refine RL.C3 1 0 zt zr o zr h2 5 zr zr zr zr zr ao fun w o=>(zb zr (ic an 0 (DP.d0 (DP.z (aG ?_)))))
  obtain⟨af,hj,hb⟩:=bd hb
  refine RC.jn (fun(af:Int×Int)=>SH E V [(0,v0),(2,v2),(4,vp ae 0),(8,vi p0.length),(9,vi af.1),(10,vi af.2)] [rd v0 p0,bx 39 ae p1]) af ?_ ?_
  ·refine fU hj (fun hc hj=>?_) fun hc hj=>?_
   rotate_left
   ·refine RC.region (mv (vi (IntKind.wrap .i64 (Int.fdiv (IntKind.wrap .u64 (IntKind.wrap .i64 (j.1+j.2))) 2))) (aR (vi (IntKind.wrap .i64 (Int.fdiv (IntKind.wrap .u64 (IntKind.wrap .i64 (j.1+j.2))) 2))) (RL.nil ?_)))
    obtain rfl:=oi hj
    exact⟨rfl,o.sp 5 [3,4]⟩
   refine RC.region (mv (vi (IntKind.wrap .i64 (Int.fdiv (IntKind.wrap .u64 (IntKind.wrap .i64 (j.1+j.2))) 2))) (RL.kr (IntKind.wrap .i64 (Int.fdiv (IntKind.wrap .u64 (IntKind.wrap .i64 (j.1+j.2))) 2)) 1 (aR (vi (IntKind.wrap .i64 ((IntKind.wrap .i64 (Int.fdiv (IntKind.wrap .u64 (IntKind.wrap .i64 (j.1+j.2))) 2))+1))) (RL.nil ?_))))
   obtain rfl:=oi hj
   exact⟨rfl,o.sp 5 [3,4]⟩
  rintro _ w ⟨O,rfl,o⟩
  refine cG ?_
  obtain rfl:=oi hb
  exact⟨rfl,o.sp 2 [0,1]⟩
 ·intro r _ _ _ _
  exact r.elim
 rintro j _ w rfl ⟨O,rfl,o⟩
 rw [Fo.gw] at hb
 refine aG (RC.seq ?_)
 obtain⟨ah,hj,hb⟩:=bd hb
 refine RC.jn (fun(ah:Bool)=>SH E V [(6,vi j.1),(7,vb ah)] []) ah ?_ ?_
 ·refine RC.Bj mixed [1,0,0,0,0,0,0,0,0,0,0,2,0,0,0,0] [0,1,2,3,4,5,6,7,8,9,10,11,12,13,14,15] ?_
  have o:=o.drew
  refine DP.e1 (vi j.1) zr (fun w=>RL.move (vi j.1) zt DP.d1) (DP.e0 zr (mv (vi j.1) (bR zr (mv (vi p0.length) (bR zr (ic j.1 ((p0.length:Int)) (bR zr (mv (vb (decide (j.1< (p0.length:Int)))) ?_))))))))
  refine DP.d0 (gG hj (fun ab hj=>?_) fun ab hj=>?_)
  rotate_left
  ·refine DP.e0 zr (cB ab (bR zr (cB ab (bR zr (cB ab (bR zr (cB ab (bR zr ?_))))))))
   refine cB ab (bR zr (cB ab (u6 zr (cB ab (zb zr (cB ab (bR zr (gH ab (vb false) ?_))))))))
   refine bR zr (aR (vi j.1) (bR zr (aR (vb false) (DP.d0 (DP.z ?_)))))
   obtain rfl:=oi hj
   exact⟨rfl,o.sp 2 []⟩
  refine DP.e0 zr (RL.move v2 (cg ab) (bR zr (RL.move v0 (cg ab) (bR zr (RL.move (vi j.1) (cg ab) (bR zr ?_))))))
  obtain⟨aq,ar,hj⟩:=bd hj
  refine RL.cM (hg:=(cg ab)) 0 o F7 ar fun a0 o=>(bR zr (RL.cD (hg:=(cg ab)) 0 aq o x8 fun a1 o=>(bR zr (RL.aS (hg:=(cg ab)) (f:=(fun x=>x)) 3 o zr Fd.self qo fun a2 o=>(u6 zr ?_)))))
  obtain⟨ai,au,hj⟩:=bd hj
  refine RL.C3 1 0 (cg ab) zr o zr h2 5 zr zr zr zr zr au fun w o=>(zb zr (RL.lr ai 0 (cg ab) (bR zr (gH ab (vb (ai==0)) (bR zr (aR (vi j.1) (bR zr (aR (vb (ai==0)) ?_))))))))
  refine DP.d0 (DP.z ?_)
  obtain rfl:=oi hj
  exact⟨rfl,o.sp 5 []⟩
 rintro _ w ⟨O,rfl,o⟩
 refine aG (RC.ret ?_)
 obtain rfl:=oi hb
 exact nO ⟨rfl,o.drop 0⟩
theorem tY {p0:eW} {p1:fL} (j:Holds E w V) (h0:V[i0]? =some (rd v0 p0)) (h1:V[i1]? =some (rd v1 p1)) (o:gY N p0 p1=some res):
    Calls bN 76 [v0,v1].toArray w (iv (aV E V res)):=by
 unfold gY at o
 refine enter Tryz.func76 zr zr ?_
 have j:=(j.dup (i0+0) h0).dup (i1+1) h1
 refine RC.sr (RL.cX 1 v0 j zr fun ah w j=>?_)
 have j:=j.jw (i:=0) rfl
 refine RL.cX 1 v1 j zr fun ai w j=>?_
 have j:=j.jw (i:=0) rfl
 refine aR (vi 0) (RL.nq (RC.Bj mixed [0,2,1,2,0] [0,2,1,3,4] ?_))
 have j:=j.drew
 refine DP.e0 zr (RL.cD 1 p0 j x8 fun aa j=>(DP.d0 (DP.Ax p1 1 zr j qo fun ab a35 aj j=>(DP.e2 zr ?_))))
 obtain⟨ak,ad,o⟩:=bd o
 refine RL.call zt zr HA [aa] zr (aF (mC N (i0:=2) j zr ad) ?_)
 rintro ae w j
 refine DP.d2 (⟨zt,j.np 1⟩) (DP.e2 zr ?_)
 obtain⟨af,ag,o⟩:=bd o
 refine RL.call zt zr J9 [ae,ab] zr (aF (m8 N (i0:=0) (i1:=2) j zr zr ag) ?_)
 rintro _ w ⟨rfl,j⟩
 refine DP.d2 (⟨zt,j.np 1⟩) (DP.e0 zr (aR (vi af) (DP.d0 ?_)))
 have j:=j.pl 8 [0,2,3,4,5,6,7]
 refine DP.z (aG (RC.ret ?_))
 obtain rfl:=oi o
 exact cS ⟨rfl,j.drop 7⟩
theorem l9 {p0:iM} {p1:fL} (o:Holds E w V) (h0:V[i0]? =some (rd v0 p0)) (h1:V[i1]? =some (rd v1 p1)) (hb:ig N p0 p1=some res):
    Calls bN 38 [v0,v1].toArray w (iv (aV E V res)):=by
 unfold ig at hb
 refine enter Tryz.func38 zr zr ?_
 have o:=(o.dup (i0+0) h0).dup (i1+1) h1
 refine RC.sr (RL.cX 1 v0 o zr fun ai w o=>?_)
 refine RL.cX 1 v1 o zr fun aj w o=>?_
 refine aR (vi 0) (RL.ns (RL.bT zr x6 (RL.aS 1 o zr sq F6 fun ad o=>(RL.aS (f:=(fun x=>x)) 1 o zr Fd.self qo fun ae o=>?_))))
 obtain⟨aa,af,hb⟩:=bd hb
 refine RL.call trivial rfl LF [ad,ae,(.func (.func 76) #[] #[])] rfl (aF (mo N (i0:=1) (i1:=0) o rfl rfl ⟨76,[],rfl,LD,fun w Γl v v' y0 y1 r i j o hi hj hr=>by exact aF (tY N (i0:=i) (i1:=j) o hi hj hr) fun _ _ h=>h⟩ af) ?_)
 rintro _ w ⟨rfl,o⟩
 refine mv (.tuple #[(vi aa.1),(vb aa.2)]) (RL.extract (vi aa.1) (RL.extract (vb aa.2) (aR (vi aa.1) (aR (vb aa.2) (RL.nq (RC.sr (mv (vb aa.2) (RL.not aa.2 ?_))))))))
 refine RL.nt (fU hb (fun hc hb=>?_) fun hc hb=>?_)
 ·refine RC.sr (aR (vi (-1)) (RL.nt (RC.rt ?_)))
  obtain rfl:=oi hb
  exact cS ⟨rfl,o.drop 6⟩
 refine RC.sx (mv (vi aa.1) (aR (vi aa.1) (RL.nt (RC.ret ?_))))
 obtain rfl:=oi hb
 exact cS ⟨rfl,o.drop 6⟩
end Go.Gk
