/-
  Printed texts: Go functions as plain functions, and that they are. No statement of the seed is proved here.
-/
import Derived.Test.YtmmiladckdcjeacGreatDoorG1
import Derived.Test.YtmmiladckdcjeacGreatDoorG2
import Derived.Test.YtmmiladckdcjeacGreatDoorG3
import Derived.Test.YtmmiladckdcjeacGreatDoorG4
import Derived.Test.YtmmiladckdcjeacGreatDoorA2
set_option linter.unusedVariables false
set_option linter.unusedSimpArgs false
set_option linter.unusedSectionVars false
set_option maxRecDepth 100000
set_option maxHeartbeats 4000000
namespace Go.Gk
open Go Go.Proofs
variable (N:Nat) {E w:World} {b0 i0 i1:Nat} {res:Int} {v0 v0_0 v0_1 v0_10 v0_11 v0_2 v0_3 v0_4 v0_5 v0_6 v0_8 v0_9 v1 v2:Value} {V:List HP}
def pM (E:World) (V:List HP) (b0:Nat) (v0_0 v0_1:Value) (v0_2 v0_3:Value) (v0_4 v0_5 v0_6:Value) (res: (List cF)×(List Int)×(List Int)×(List Int)×(List j8)) (v:Value) (w:World):Prop:=∃u0_7 u0_8 u0_9 u0_10 u0_11:Value,v = .tuple #[]/\Holds E w ([bc 46 b0 [v0_0,v0_1,v0_2,v0_3,v0_4,v0_5,v0_6,u0_7,u0_8,u0_9,u0_10,u0_11],own 104 u0_7 res.1,rd u0_8 res.2.1,rd u0_9 res.2.2.1,own 3 u0_10 res.2.2.2.1,own 78 u0_11 res.2.2.2.2]++V)
theorem pA {p0_2: (List bZ)} {p0_3: (List eM)} {p0_5: (List aK)} {p0_6: (List (List Int))} {p0_8: (List Int)} {p0_9: (List Int)} {p0_10: (List Int)} {p0_11: (List j8)} {res: (List cF)×(List Int)×(List Int)×(List Int)×(List j8)} (o:Holds E w (bc 46 b0 [v0_0,v0_1,v0_2,v0_3,v0_4,v0_5,v0_6,(.slice none 0 0),v0_8,v0_9,v0_10,v0_11]::rd v0_2 p0_2::rd v0_3 p0_3::rd v0_5 p0_5::rd v0_6 p0_6::own 3 v0_8 p0_8::own 3 v0_9 p0_9::own 3 v0_10 p0_10::own 78 v0_11 p0_11::V)) (hb:gq N p0_2 p0_3 p0_5 p0_6 p0_8 p0_9 p0_10 p0_11=some res):
    Calls bN 21 [(vp b0 0)].toArray w (gL (pM E V b0 v0_0 v0_1 v0_2 v0_3 v0_4 v0_5 v0_6 res)):=by
 unfold gq at hb
 refine enter Tryz.func21 zr zr (RC.sr (mv (vp b0 0) (RL.nilCheck zr (RL.aY zr yg (RL.bK 0 v0_5 o F7 (RL.bF 3 p0_5 o ID (aQ (vi p0_5.length) (RL.ns ?_))))))))
 refine mv (vi p0_5.length) (mv (vp b0 0) (RL.nilCheck zr (RL.aY zr uz (RL.aY zr ik (RL.bK 0 v0_2 o nQ (RL.bF 1 p0_2 o wj (RL.fY (p0_5.length:Int) (p0_2.length:Int) ?_)))))))
 obtain⟨e5,dr,hb⟩:=bd hb
 refine RL.call zt zr ME [(vi (IntKind.wrap .i64 ((p0_5.length:Int)+ (p0_2.length:Int))))] zr (aD (vK N (p0:=(IntKind.wrap .i64 ((p0_5.length:Int)+ (p0_2.length:Int)))) o dr) ?_)
 rintro _ w ⟨a8,ds,rfl,o⟩
 refine aQ (vp a8 0) (RL.nq (RC.sr (mv (vp b0 0) (RL.nilCheck zr (RL.aY zr EH (RL.bK 2 v0_6 o zj (RL.bF 6 p0_6 o F8 (mv (vi 0) ?_))))))))
 refine RL.nt ?_
 obtain⟨bw,hN,hb⟩:=bd hb
 refine RC.fold (fun(bh:Nat) (bw: (List Int)) U w=>∃c4:Value,SH E V [(0,vp b0 0),(2,vi p0_5.length),(3,vp a8 0),(35,v0_6),(36,vi p0_6.length),(37,vi bh)] [bc 46 b0 [v0_0,v0_1,v0_2,v0_3,v0_4,v0_5,v0_6,(.slice none 0 0),v0_8,v0_9,v0_10,v0_11],rd v0_2 p0_2,rd v0_3 p0_3,rd v0_5 p0_5,rd v0_6 p0_6,own 3 v0_8 p0_8,own 3 v0_9 p0_9,own 3 v0_10 p0_10,own 78 v0_11 p0_11,bc 136 a8 [c4],own 3 c4 bw] U w) (fun(bw: (List Int)) U w=>∃b9:Value,SH E V [(0,vp b0 0),(2,vi p0_5.length),(3,vp a8 0)] [bc 46 b0 [v0_0,v0_1,v0_2,v0_3,v0_4,v0_5,v0_6,(.slice none 0 0),v0_8,v0_9,v0_10,v0_11],rd v0_2 p0_2,rd v0_3 p0_3,rd v0_5 p0_5,rd v0_6 p0_6,own 3 v0_8 p0_8,own 3 v0_9 p0_9,own 3 v0_10 p0_10,own 78 v0_11 p0_11,bc 136 a8 [b9],own 3 b9 bw] U w) hN ?_ ?_ ?_ ?_
 ·exact⟨ds,o.sp 11 [2,3,4,5,6,7,8,9,10,0,1]⟩
 ·rintro hm bw _ w ⟨dt,O,rfl,o⟩
  refine RC.sr (ic ((p0_6.length:Int)) ((p0_6.length:Int)) (RL.nq (RC.gk ue (RC.ex ?_))))
  exact⟨rfl,dt,o.sp 11 [0,1,2,3,4,5,6,7,8,9,10]⟩
 ·rintro hm bh bw s' _ w hk ⟨du,O,rfl,o⟩ hb
  refine RC.sr (ic ((bh:Int)) ((p0_6.length:Int)) (RL.nq (RC.gj (ud hk) (RC.ss (RC.bs (mv (vi bh) ?_))))))
  obtain⟨br,dv,hb⟩:=bd hb
  refine RL.bP 4 o z5 dv fun e6 o=>(RL.bJ 0 br o fu fun ca o=>(aQ (vi bh) (aQ ca (RL.ns (mv ca (RL.bF 0 br o mn (mv (vi 0) (RL.nt ?_))))))))
  obtain⟨b3,hN,hb⟩:=bd hb
  refine RC.fold (fun(cd:Nat) (b3: (List Int)) U w=>∃c5:Value,SH E V [(0,vp b0 0),(2,vi p0_5.length),(3,vp a8 0),(4,vi bh),(35,v0_6),(36,vi p0_6.length),(37,vi bh),(42,ca),(43,vi br.length),(44,vi cd)] [bc 46 b0 [v0_0,v0_1,v0_2,v0_3,v0_4,v0_5,v0_6,(.slice none 0 0),v0_8,v0_9,v0_10,v0_11],rd v0_2 p0_2,rd v0_3 p0_3,rd v0_5 p0_5,rd v0_6 p0_6,own 3 v0_8 p0_8,own 3 v0_9 p0_9,own 3 v0_10 p0_10,own 78 v0_11 p0_11,bc 136 a8 [c5],own 3 c5 b3,rd ca br] U w) (fun(b3: (List Int)) U w=>∃cf:Value,SH E V [(0,vp b0 0),(2,vi p0_5.length),(3,vp a8 0),(35,v0_6),(36,vi p0_6.length),(37,vi bh)] [bc 46 b0 [v0_0,v0_1,v0_2,v0_3,v0_4,v0_5,v0_6,(.slice none 0 0),v0_8,v0_9,v0_10,v0_11],rd v0_2 p0_2,rd v0_3 p0_3,rd v0_5 p0_5,rd v0_6 p0_6,own 3 v0_8 p0_8,own 3 v0_9 p0_9,own 3 v0_10 p0_10,own 78 v0_11 p0_11,bc 136 a8 [cf],own 3 cf b3,rd ca br] U w) hN ?_ ?_ ?_ ?_
  ·exact⟨du,o.sp 13 [2,3,4,5,6,7,8,9,10,11,12,0]⟩
  ·rintro hm b3 _ w ⟨dw,O,rfl,o⟩
   refine RC.sr (ic ((br.length:Int)) ((br.length:Int)) (RL.nq (RC.gk ue (RC.ex ?_))))
   exact⟨rfl,dw,o.sp 12 [0,1,2,3,4,5,6,7,8,9,10,11]⟩
  ·rintro hm cd b3 s' _ w hk ⟨e7,O,rfl,o⟩ hb
   refine RC.sr (ic ((cd:Int)) ((br.length:Int)) (RL.nq (RC.gj (ud hk) (RC.ss (RC.bs ?_)))))
   obtain⟨cb,dx,hb⟩:=bd hb
   refine RL.bP 11 o eC dx fun e8 o=>(RL.bE cb 0 o cI (aQ (vi cb) (RL.nt (RC.region (mv (vp a8 0) (mv (vi cb) (mv (vi p0_5.length) (mv (vi bh) ?_))))))))
   refine RL.fY (p0_5.length:Int) (bh:Int) ?_
   have o:=(o.pull 11).pull 11
   obtain⟨e9,dy,hb⟩:=bd hb
   refine RL.call zt zr MF [(vp a8 0),(vi cb),(vi (IntKind.wrap .i64 ((p0_5.length:Int)+ (bh:Int))))] zr (aD (t4 N (p1:=cb) (p2:=(IntKind.wrap .i64 ((p0_5.length:Int)+ (bh:Int)))) o dy) ?_)
   rintro _ w ⟨dz,rfl,o⟩
   refine RL.nil (bQ (aH (RC.region (RL.inc hk hm (mv (vi ((cd+1:Nat):Int)) (RL.nil ?_))))))
   obtain rfl:=oi hb
   exact⟨rfl,dz,o.sp 15 [3,4,5,6,7,8,9,10,11,0,1,14]⟩
  rintro _ w ⟨cf,O,rfl,o⟩
  refine bQ (aH (RC.region (RL.inc hk hm (mv (vi ((bh+1:Nat):Int)) (RL.nil ?_)))))
  obtain rfl:=oi hb
  exact⟨rfl,cf,o.sp 12 [0,1,2,3,4,5,6,7,8,9,10]⟩
 rintro _ w ⟨b9,O,rfl,o⟩
 refine aH (RC.seq ?_)
 obtain⟨d3,d4,hb⟩:=bd hb
 obtain⟨d5,d6,hb⟩:=bd hb
 refine RC.F2 E V mixed [1,1,1,0,1,1,1,1,0,0,0,1,1,0,1,1,0] [3,10,13,16] (fun(x:Value×Value)=>(fun al an=>[(0,56,(vp b0 0)),(1,57,(vp b0 0)),(2,58,(vi p0_5.length)),(3,59,al),(4,60,(vp b0 0)),(5,61,(vp b0 0)),(6,62,(vp b0 0)),(7,63,(vp b0 2)),(8,64,v0_2),(9,65,(vi p0_2.length)),(10,66,an),(11,67,(vp b0 0)),(12,68,(vp b0 8)),(14,69,(vp b0 0)),(15,70,(vp b0 9))]) x.1 x.2) [(0,vp b0 0),(2,vi p0_5.length),(3,vp a8 0)] [] (fun(D:Nat->Bool) (x:Value×Value)=>(fun al an=>[bif D 0 then (own 3 al d3) else bD,bif D 1 then (own 3 an d5) else bD,bif D 3 then (bc 46 b0 [v0_0,v0_1,v0_2,v0_3,v0_4,v0_5,v0_6,(.slice none 0 0),al,an,v0_10,v0_11]) else (bif D 2 then (bc 46 b0 [v0_0,v0_1,v0_2,v0_3,v0_4,v0_5,v0_6,(.slice none 0 0),al,v0_9,v0_10,v0_11]) else (bc 46 b0 [v0_0,v0_1,v0_2,v0_3,v0_4,v0_5,v0_6,(.slice none 0 0),v0_8,v0_9,v0_10,v0_11])),rd v0_2 p0_2,rd v0_3 p0_3,rd v0_5 p0_5,rd v0_6 p0_6,own 3 v0_8 p0_8,own 3 v0_9 p0_9,own 3 v0_10 p0_10,own 78 v0_11 p0_11,bc 136 a8 [b9],own 3 b9 bw]) x.1 x.2) (fun x=>by kernel_rfl) ?_ ⟨fun _=>jG gn,fun _=>jG gn,fun _=>jG gn,?_,fun _=>jG gn,fun _=>w5 gn,fun _=>nN gn uz,fun _=>nN gn ik,?_,?_,?_,fun _=>w5 gn,fun _=>nN gn EI,?_,fun _=>w5 gn,fun _=>nN gn Ci,?_,trivial⟩ ?_
 ·have o:=((o.drew).bD).bD
  exact⟨(undef,undef),gH.none,(EC zr),zt,o⟩
 ·rintro D U w hD ae ab ⟨⟨al,an⟩,hv,ha,_,o⟩
  obtain⟨O,rfl⟩:=(ac (hv.at 2 rfl (ae.1 rfl)) az).fI
  have o:=((o.cD 0 hD).cD 2 (nf (fun h=>ft hD ((ab 16 _ rfl h).2.2.2.2.2.2.1 rfl)))).cD 2 (nf (fun h=>ft hD ((ab 13 _ rfl h).2.1 rfl)))
  refine RL.mk (p0_5.length:Int) o q7 KJ d4 fun cu w o=>?_
  have o:=(((o.pl 14 [0,2,3,4,5,6,7,8,9,10,11,12,13]).cQ 0 true rfl bD).eX 2 (D 13) (nf (fun h=>ft hD ((ab 13 _ rfl h).2.1 rfl))) (bc 46 b0 [v0_0,v0_1,v0_2,v0_3,v0_4,v0_5,v0_6,(.slice none 0 0),cu,v0_9,v0_10,v0_11])).eX 2 (D 16) (nf (fun h=>ft hD ((ab 16 _ rfl h).2.2.2.2.2.2.1 rfl))) (bc 46 b0 [v0_0,v0_1,v0_2,v0_3,v0_4,v0_5,v0_6,(.slice none 0 0),cu,an,v0_10,v0_11])
  exact RL.nil ⟨rfl,(cu,an),hv.put 3 zr zr,ha.up zr,zt,o⟩
 ·rintro D U w hD ae ab ⟨⟨al,an⟩,hv,ha,_,o⟩
  obtain⟨O,rfl⟩:=(ac (hv.at 7 rfl (ae.1 rfl)) az).fI
  have o:=(o.cD 2 (nf (fun h=>ft hD ((ab 16 _ rfl h).2.2.2.2.2.2.2.2.2.2.2.1 rfl)))).cD 2 (nf (fun h=>ft hD ((ab 13 _ rfl h).2.2.2.2.2.2.2.2.2.2.1 rfl)))
  refine RL.bK 2 v0_2 o nQ ?_
  have o:=(o.eX 2 (D 13) (nf (fun h=>ft hD ((ab 13 _ rfl h).2.2.2.2.2.2.2.2.2.2.1 rfl))) (bc 46 b0 [v0_0,v0_1,v0_2,v0_3,v0_4,v0_5,v0_6,(.slice none 0 0),al,v0_9,v0_10,v0_11])).eX 2 (D 16) (nf (fun h=>ft hD ((ab 16 _ rfl h).2.2.2.2.2.2.2.2.2.2.2.1 rfl))) (bc 46 b0 [v0_0,v0_1,v0_2,v0_3,v0_4,v0_5,v0_6,(.slice none 0 0),al,an,v0_10,v0_11])
  exact RL.nil ⟨rfl,(al,an),hv.put 8 zr zr,ha.up zr,zt,o⟩
 ·rintro D U w hD ae ab ⟨⟨al,an⟩,hv,ha,_,o⟩
  obtain⟨O,rfl⟩:=(ac (hv.at 8 rfl (ae.1 rfl)) az).fI
  refine RL.bF 3 p0_2 o wj ?_
  exact RL.nil ⟨rfl,(al,an),hv.put 9 zr zr,ha.up zr,zt,o⟩
 ·rintro D U w hD ae ab ⟨⟨al,an⟩,hv,ha,_,o⟩
  obtain⟨O,rfl⟩:=(ac (hv.at 9 rfl (ae.1 rfl)) az).fI
  have o:=(o.cD 1 hD).cD 2 (nf (fun h=>ft hD ((ab 16 _ rfl h).2.1 rfl)))
  refine RL.mk (p0_2.length:Int) o q7 KJ d6 fun c6 w o=>?_
  have o:=((o.pl 14 [1,0,3,4,5,6,7,8,9,10,11,12,13]).cQ 1 true rfl bD).eX 2 (D 16) (nf (fun h=>ft hD ((ab 16 _ rfl h).2.1 rfl))) (bc 46 b0 [v0_0,v0_1,v0_2,v0_3,v0_4,v0_5,v0_6,(.slice none 0 0),al,c6,v0_10,v0_11])
  exact RL.nil ⟨rfl,(al,c6),hv.put 10 zr zr,ha.up zr,zt,o⟩
 ·rintro D U w hD ae ab ⟨⟨al,an⟩,hv,ha,_,o⟩
  obtain⟨O,rfl⟩:=(ac (hv.at 3 rfl (ae.2.1 rfl)) (ac (hv.at 12 rfl (ae.1 rfl)) az)).fI
  have o:=((o.cP 0 (ae.2.1 rfl)).cD 2 (nf (fun h=>ft hD ((ab 16 _ rfl h).2.2.1 rfl)))).cD 2 hD
  refine RL.iu 2 al o zr zr (iO 0 o) fu fun w o=>?_
  have o:=((o.cQ 0 (D 3) (ae.2.1 rfl) bD).cQ 2 true rfl (bc 46 b0 [v0_0,v0_1,v0_2,v0_3,v0_4,v0_5,v0_6,(.slice none 0 0),v0_8,v0_9,v0_10,v0_11])).eX 2 (D 16) (nf (fun h=>ft hD ((ab 16 _ rfl h).2.2.1 rfl))) (bc 46 b0 [v0_0,v0_1,v0_2,v0_3,v0_4,v0_5,v0_6,(.slice none 0 0),al,an,v0_10,v0_11])
  exact RL.nil ⟨rfl,(al,an),hv.no zr,ha,zt,o⟩
 ·rintro D U w hD ae ab ⟨⟨al,an⟩,hv,ha,_,o⟩
  obtain⟨O,rfl⟩:=(ac (hv.at 10 rfl (ae.2.1 rfl)) (ac (hv.at 14 rfl (ae.1 rfl)) az)).fI
  have o:=((o.cP 1 (ae.2.1 rfl)).cD 2 hD).cP 2 (ae.2.2.1 rfl)
  refine RL.iu 2 an o zr zr (iO 1 o) fu fun w o=>?_
  have o:=(o.cQ 1 (D 10) (ae.2.1 rfl) bD).cQ 2 true rfl (bif D 13 then (bc 46 b0 [v0_0,v0_1,v0_2,v0_3,v0_4,v0_5,v0_6,(.slice none 0 0),al,v0_9,v0_10,v0_11]) else (bc 46 b0 [v0_0,v0_1,v0_2,v0_3,v0_4,v0_5,v0_6,(.slice none 0 0),v0_8,v0_9,v0_10,v0_11]))
  exact RL.nil ⟨rfl,(al,an),hv.no zr,ha,zt,o⟩
 rintro D U w a7 ⟨⟨al,an⟩,hv,ha,_,o⟩
 have o:=o.cP 0 (a7 3 (by decide))
 have o:=o.cP 1 (a7 10 (by decide))
 have o:=o.cP 2 (a7 16 (by decide))
 obtain⟨O,rfl⟩:=(ac (ha.at 0 rfl) (ac (ha.at 1 rfl) (ac (ha.at 2 rfl) az))).fI
 refine aH (RC.seq (RC.sr (mv (vp a8 0) ?_)))
 have o:=(o.pull 12).pull 12
 obtain⟨mA,d7,hb⟩:=bd hb
 refine RL.call zt zr MG [(vp a8 0)] zr (aD (t5 N o d7) ?_)
 rintro bj w ⟨_,fa,rfl,o⟩
 refine RL.fZ 0 mA.1 o F8 (mv (vi 0) (RL.nt ?_))
 obtain⟨a5,hN,hb⟩:=bd hb
 refine RC.fold (fun(bn:Nat) (a5: (List cF)×(List Int)×(List Int)) U w=>∃(c7:Value) (us442:List aT),SH E V [(0,vp b0 0),(2,vi p0_5.length),(72,bj),(73,vi mA.1.length),(74,vi bn)] [bc 46 b0 [v0_0,v0_1,v0_2,v0_3,v0_4,v0_5,v0_6,c7,al,an,v0_10,v0_11],own 104 c7 us442,ir aV us442 a5.1 none,rd v0_2 p0_2,rd v0_3 p0_3,rd v0_5 p0_5,rd v0_6 p0_6,own 3 al a5.2.1,own 3 an a5.2.2,own 3 v0_10 p0_10,own 78 v0_11 p0_11,own 43 bj mA.1] U w) (fun(a5: (List cF)×(List Int)×(List Int)) U w=>∃(aj:Value) (us444:List aT),SH E V [(0,vp b0 0)] [bc 46 b0 [v0_0,v0_1,v0_2,v0_3,v0_4,v0_5,v0_6,aj,al,an,v0_10,v0_11],own 104 aj us444,ir aV us444 a5.1 none,rd v0_2 p0_2,rd v0_3 p0_3,rd v0_5 p0_5,rd v0_6 p0_6,own 3 al a5.2.1,own 3 an a5.2.2,own 3 v0_10 p0_10,own 78 v0_11 p0_11,own 43 bj mA.1] U w) hN ?_ ?_ ?_ ?_
 ·have o:=(o.zw aV).cW aT 104
  exact⟨(.slice none 0 0),([]:List aT),o.sp 18 [7,0,1,8,9,10,11,5,6,14,15,2]⟩
 ·rintro hm a5 _ w ⟨d8,us604,O,rfl,o⟩
  refine RC.sr (ic ((mA.1.length:Int)) ((mA.1.length:Int)) (RL.nq (RC.gk ue (RC.ex ?_))))
  exact⟨rfl,d8,us604,o.sp 12 [0,1,2,3,4,5,6,7,8,9,10,11]⟩
 ·rintro hm bn a5 s' _ w hk ⟨bf,us446,O,rfl,o⟩ hb
  refine RC.sr (ic ((bn:Int)) ((mA.1.length:Int)) (RL.nq (RC.gj (ud hk) (RC.ss (RC.bs ?_)))))
  obtain⟨bl,cv,hb⟩:=bd hb
  refine RL.bV 11 o zr zr z5 cv (RL.kF (f:=(fun x=>x)) 11 o (jF 11 o cv 0) (bH cv).2.1 Fd.self fu fun bo o=>?_)
  refine aQ bo (RL.ns (RL.uo zr o Hn zr fun bt w o=>?_))
  refine RL.nq (RC.sr (mv bo (RL.bF 1 bl o mn (mv (vi 0) (RL.nt ?_)))))
  obtain⟨ar,hN,hb⟩:=bd hb
  refine RC.fold (fun(b4:Nat) (ar: (List Int)×(List Int)×(List Int)×(List Int)) U w=>∃c8 c9:Value,SH E V [(0,vp b0 0),(2,vi p0_5.length),(10,vp bt 0),(72,bj),(73,vi mA.1.length),(74,vi bn),(78,bo),(79,vi bl.length),(80,vi b4)] [bc 46 b0 [v0_0,v0_1,v0_2,v0_3,v0_4,v0_5,v0_6,bf,al,an,v0_10,v0_11],rd v0_2 p0_2,rd v0_3 p0_3,rd v0_5 p0_5,rd v0_6 p0_6,own 104 bf us446,ir aV us446 a5.1 none,own 3 al ar.1,own 3 an ar.2.1,own 3 v0_10 p0_10,own 78 v0_11 p0_11,bc 104 bt [c8,c9,(.slice none 0 0)],own 3 c8 ar.2.2.1,own 3 c9 ar.2.2.2,own 43 bj mA.1,rd bo bl] U w) (fun(ar: (List Int)×(List Int)×(List Int)×(List Int)) U w=>∃bu bp:Value,SH E V [(0,vp b0 0),(2,vi p0_5.length),(10,vp bt 0),(72,bj),(73,vi mA.1.length),(74,vi bn)] [bc 46 b0 [v0_0,v0_1,v0_2,v0_3,v0_4,v0_5,v0_6,bf,al,an,v0_10,v0_11],rd v0_2 p0_2,rd v0_3 p0_3,rd v0_5 p0_5,rd v0_6 p0_6,own 104 bf us446,ir aV us446 a5.1 none,own 3 al ar.1,own 3 an ar.2.1,own 3 v0_10 p0_10,own 78 v0_11 p0_11,bc 104 bt [bu,bp,(.slice none 0 0)],own 3 bu ar.2.2.1,own 3 bp ar.2.2.2,own 43 bj mA.1,rd bo bl] U w) hN ?_ ?_ ?_ ?_
  ·have o:=(o.cW Int 3).cW Int 3
   exact⟨(.slice none 0 0),(.slice none 0 0),o.sp 16 [4,7,8,9,10,5,6,11,12,13,14,2,1,0,15,3]⟩
  ·rintro hm ar _ w ⟨d9,ea,O,rfl,o⟩
   refine RC.sr (ic ((bl.length:Int)) ((bl.length:Int)) (RL.nq (RC.gk ue (RC.ex ?_))))
   exact⟨rfl,d9,ea,o.sp 16 [0,1,2,3,4,5,6,7,8,9,10,11,12,13,14,15]⟩
  ·rintro hm b4 ar s' _ w hk ⟨cg,cw,O,rfl,o⟩ hb
   refine RC.sr (ic ((b4:Int)) ((bl.length:Int)) (RL.nq (RC.gj (ud hk) (RC.ss (RC.bs ?_)))))
   obtain⟨a2,eb,hb⟩:=bd hb
   refine RL.bP 15 o eC eb fun fb o=>(RL.bE a2 0 o cI (aQ (vi a2) (RL.nt (RC.bs (mv (vi a2) (mv (vi p0_5.length) (ic a2 ((p0_5.length:Int)) (aQ (vb (decide (a2< (p0_5.length:Int)))) ?_))))))))
   refine RL.nt ?_
   obtain⟨b5,hj,hb⟩:=bd hb
   refine RC.jn (fun(b5: (List Int)×(List Int)×(List Int)×(List Int)) U w=>∃ch cj:Value,SH E V [(0,vp b0 0),(2,vi p0_5.length),(10,vp bt 0),(72,bj),(73,vi mA.1.length),(74,vi bn),(78,bo),(79,vi bl.length),(80,vi b4)] [bc 46 b0 [v0_0,v0_1,v0_2,v0_3,v0_4,v0_5,v0_6,bf,al,an,v0_10,v0_11],rd v0_2 p0_2,rd v0_3 p0_3,rd v0_5 p0_5,rd v0_6 p0_6,own 104 bf us446,ir aV us446 a5.1 none,own 3 al b5.1,own 3 an b5.2.1,own 3 v0_10 p0_10,own 78 v0_11 p0_11,bc 104 bt [ch,cj,(.slice none 0 0)],own 3 ch b5.2.2.1,own 3 cj b5.2.2.2,own 43 bj mA.1,rd bo bl] U w) b5 ?_ ?_
   ·refine dQ hj (fun hc hj=>?_) fun hc hj=>?_
    ·refine RC.seq (RC.ug mixed [0,0,0,0,0,0,0,0,0,0,0,2] [0,1,2,3,4,5,6,7,8,9,10,11] ?_)
     have o:=o.drew
     refine DP.e0 zr (mv (vp b0 0) (aW zr (RL.nilCheck zr (aW zr (RL.aY zr EI (aW zr (RL.bK 1 al o fu (aW zr ?_))))))))
     refine mv (vi a2) (aW zr (mv (vp b0 0) (aW zr (RL.nilCheck zr (aW zr (RL.aY zr yi (aW zr (RL.bK 1 bf o r9 ?_))))))))
     refine aW zr (RL.rZ 6 7 a5.1 o IF (aW zr ?_))
     obtain⟨fc,cx,hj⟩:=bd hj
     refine RL.bV 8 o zr zr eC cx (ou zr ?_)
     have o:=o.sc Int (a5.1.length:Int)
     refine RL.gI (f:=(fun _ y=>y)) 9 0 o (jF 9 o cx 0) (bH cx).2.1 zr Fs.self cI fun w o=>?_
     refine DP.d2 zt (DP.z (aH (RC.region (RL.aY zr pY (RL.bK 13 cg o fu (mv (vi a2) ?_))))))
     have o:=o.sc Int a2
     refine RL.dY ([a2]: (List Int)) o [(vi a2)] eC CI (fun M hs g=>⟨(g.sat 0 _ zr).1,zt⟩) fun fe w o=>?_
     have o:=o.freeze 0
     obtain⟨ff,ec,hj⟩:=bd hj
     refine RL.app 16 0 o q7 ec fun da w o=>?_
     refine RL.aY zr pY (RL.iu 15 da o zr zr (iO 16 o) fu fun w o=>?_)
     refine RL.nil ?_
     obtain rfl:=oi hj
     exact⟨rfl,da,cw,o.sp 20 [4,5,6,7,8,9,10,11,12,13,14,15,16,17,18,19]⟩
    refine RC.sr (mv (vp b0 0) (RL.nilCheck zr (RL.aY zr uz (RL.aY zr ik (RL.bK 1 v0_2 o nQ (mv (vi a2) (mv (vi p0_5.length) (RL.fY a2 (p0_5.length:Int) ?_))))))))
    obtain⟨db,ed,hj⟩:=bd hj
    refine RL.bP 2 o qD ed fun fg o=>(RL.dP 0 o zr yh qo fun fh o=>(RL.bE db.fS 0 o zZ (aQ (vb db.fS) (RL.nt ?_))))
    obtain⟨ck,hjj,hj⟩:=bd hj
    refine RC.jn (fun(ck: (List Int)×(List Int)) U w=>∃cl:Value,SH E V [(0,vp b0 0),(2,vi p0_5.length),(10,vp bt 0),(72,bj),(73,vi mA.1.length),(74,vi bn),(78,bo),(79,vi bl.length),(80,vi b4)] [bc 46 b0 [v0_0,v0_1,v0_2,v0_3,v0_4,v0_5,v0_6,bf,al,an,v0_10,v0_11],rd v0_2 p0_2,rd v0_3 p0_3,rd v0_5 p0_5,rd v0_6 p0_6,own 104 bf us446,ir aV us446 a5.1 none,own 3 al ar.1,own 3 an ck.1,own 3 v0_10 p0_10,own 78 v0_11 p0_11,bc 104 bt [cg,cl,(.slice none 0 0)],own 3 cl ck.2,own 3 cg ar.2.2.1,own 43 bj mA.1,rd bo bl] U w) ck ?_ ?_
    ·refine dQ hjj (fun hc hjj=>?_) fun hc hjj=>?_
     rotate_left
     ·refine RC.region (mv (vp b0 0) (RL.nilCheck zr (RL.aY zr Ci (RL.bK 3 an o fu (mv (vi a2) (mv (vi p0_5.length) (RL.fY a2 (p0_5.length:Int) ?_)))))))
      obtain⟨fi,cy,hjj⟩:=bd hjj
      refine RL.bV 11 o zr zr eC cy ?_
      have o:=o.sc Int (-1)
      refine RL.gI (f:=(fun _ y=>y)) 12 0 o (jF 12 o cy 0) (bH cy).2.1 zr Fs.self cI fun w o=>?_
      refine RL.nil ?_
      obtain rfl:=oi hjj
      exact⟨rfl,cw,o.sp 20 [4,5,6,7,8,9,10,11,12,13,14,15,17,16,18,19]⟩
     refine RC.seq (RC.ug mixed [0,0,0,0,0,0,0,0,0,0,0,0,0,2] [0,1,2,3,4,5,6,7,8,9,10,11,12,13] ?_)
     have o:=o.drew
     refine DP.e0 zr (mv (vp b0 0) (aW zr (RL.nilCheck zr (aW zr (RL.aY zr Ci (aW zr (RL.bK 3 an o fu (aW zr ?_))))))))
     refine mv (vi a2) (aW zr (mv (vi p0_5.length) (aW zr (RL.fY a2 (p0_5.length:Int) (aW zr (mv (vp b0 0) (aW zr (RL.nilCheck zr ?_))))))))
     refine aW zr (RL.aY zr yi (aW zr (RL.bK 3 bf o r9 (aW zr (RL.rZ 8 9 a5.1 o IF (aW zr ?_))))))
     obtain⟨fj,cz,hjj⟩:=bd hjj
     refine RL.bV 11 o zr zr eC cz (ou zr ?_)
     have o:=o.sc Int (a5.1.length:Int)
     refine RL.gI (f:=(fun _ y=>y)) 12 0 o (jF 12 o cz 0) (bH cz).2.1 zr Fs.self cI fun w o=>?_
     refine DP.d2 zt (DP.z (aH (RC.region (RL.aY zr tm (RL.bK 15 cw o fu (mv (vi a2) (mv (vi p0_5.length) (RL.fY a2 (p0_5.length:Int) ?_))))))))
     have o:=o.sc Int (IntKind.wrap .i64 (a2 - (p0_5.length:Int)))
     refine RL.dY ([(IntKind.wrap .i64 (a2 - (p0_5.length:Int)))]: (List Int)) o [(vi (IntKind.wrap .i64 (a2 - (p0_5.length:Int))))] eC CI (fun M hs g=>⟨(g.sat 0 _ zr).1,zt⟩) fun fk w o=>?_
     have o:=o.freeze 0
     obtain⟨fl,ee,hjj⟩:=bd hjj
     refine RL.app 19 0 o q7 ee fun dc w o=>?_
     refine RL.aY zr tm (RL.iu 17 dc o zr zr (iO 19 o) fu fun w o=>?_)
     refine RL.nil ?_
     obtain rfl:=oi hjj
     exact⟨rfl,dc,o.sp 22 [6,7,8,9,10,11,12,13,14,15,16,17,19,18,20,21]⟩
    rintro _ w ⟨cl,O,rfl,o⟩
    obtain rfl:=oi hj
    exact⟨rfl,cg,cl,o.sp 16 [0,1,2,3,4,5,6,7,8,9,10,11,13,12,14,15]⟩
   rintro _ w ⟨ch,cj,O,rfl,o⟩
   refine bQ (bQ (aH (RC.region (RL.inc hk hm (mv (vi ((b4+1:Nat):Int)) (RL.nil ?_))))))
   obtain rfl:=oi hb
   exact⟨rfl,ch,cj,o.sp 16 [0,1,2,3,4,5,6,7,8,9,10,11,12,13,14,15]⟩
  rintro _ w ⟨bu,bp,O,rfl,o⟩
  refine aH (RC.sr (RL.aY zr pY (RL.bK 11 bu o fu (RL.fZ 12 ar.2.2.1 o mn (RL.aY zr tm (RL.bK 11 bp o fu (RL.fZ 13 ar.2.2.2 o mn (RL.fY (ar.2.2.1.length:Int) (ar.2.2.2.length:Int) ?_))))))))
  refine ic ((IntKind.wrap .i64 ((ar.2.2.1.length:Int)+ (ar.2.2.2.length:Int)))) 0 (RL.nt ?_)
  obtain⟨c0,hj,hb⟩:=bd hb
  refine RC.jn (fun(c0: (List cF)) U w=>∃(cm:Value) (us598:List aT),SH E V [(0,vp b0 0),(2,vi p0_5.length),(72,bj),(73,vi mA.1.length),(74,vi bn)] [bc 46 b0 [v0_0,v0_1,v0_2,v0_3,v0_4,v0_5,v0_6,cm,al,an,v0_10,v0_11],own 104 cm us598,ir aV us598 c0 none,rd v0_2 p0_2,rd v0_3 p0_3,rd v0_5 p0_5,rd v0_6 p0_6,own 3 al ar.1,own 3 an ar.2.1,own 3 v0_10 p0_10,own 78 v0_11 p0_11,own 43 bj mA.1] U w) c0 ?_ ?_
  ·refine dQ hj (fun hc hj=>?_) fun hc hj=>?_
   rotate_left
   ·refine RC.skip ?_
    obtain rfl:=oi hj
    exact⟨rfl,bf,us446,o.sp 16 [0,5,6,1,2,3,4,7,8,9,10,14]⟩
   have o:=o.drew
   refine RC.EB (fun w=>Holds E w ([bc 46 b0 [v0_0,v0_1,v0_2,v0_3,v0_4,v0_5,v0_6,bf,al,an,v0_10,v0_11]]++V)) mixed zr [1,1,1,1,1,0,2,2,0,0,2] [0,1,2,3,4,5,6,7,8,9,10] (o.pk 16 [0]) (DP.e1 (vp b0 0) zr (fun w=>RL.move (vp b0 0) zt DP.d1) (DP.e1 (vp b0 0) zr (fun w=>RL.move (vp b0 0) zt DP.d1) (DP.e1 (vp b0 0) zr (fun w=>RL.nilCheck zr DP.d1) (DP.e1 (vp b0 7) zr (fun w=>RL.aY zr yi DP.d1) (DP.Iy bf zr (fun w o=>RL.bK 0 bf o r9 DP.d1) (DP.e0 zr (RL.C6 (cs:=[bu,bp,(.slice none 0 0)]) 11 zt zr o zr zr Ds zr (ou zr ?_))))))))
   have o:=((((o.cW dV 29).Bx (i:=0) rfl).freeze 14).freeze 15).Et (cs:=[bu,bp,(.slice none 0 0)]) (x:=(⟨ar.2.2.1,ar.2.2.2,(rv (.slice none 0 0))⟩:aT)) (fun M hs g=>⟨[bu],[bp,(.slice none 0 0)],rfl,(rH (g.sat 14 _ rfl).1),⟨[bp],[(.slice none 0 0)],rfl,(rH (g.sat 15 _ rfl).1),(rH (g.sat 0 _ rfl).1)⟩⟩) rfl
   refine RL.dY ([(⟨ar.2.2.1,ar.2.2.2,(rv (.slice none 0 0))⟩:aT)]:List aT) o [(.agg ([bu,bp,(.slice none 0 0)]:List Value).toArray)] yj Ho (fun M hs g=>⟨(g.sat 0 _ zr).1,zt⟩) fun fm w o=>(DP.d2 (o.pk 20 [4]) (DP.e2 zr ?_))
   obtain⟨fo,ef,hj⟩:=bd hj
   have o:=o.freeze 0
   refine RL.x8 9 0 10 3 aV (⟨ar.2.2.1,ar.2.2.2,(rv (.slice none 0 0))⟩:aT) (⟨ar.2.2.1,ar.2.2.2,([]: (List dV))⟩:cF) (.slice none 0 0) ([]: (List dV)) (fun _ _ ho=>⟨⟨rfl,zr⟩,ho⟩) zr o zr zr zr zr zr zr J7 ef fun dd w o=>?_
   refine DP.d2 (o.pk 20 [4]) (DP.e0 zr (RL.nilCheck zr (aW zr (RL.aY zr yi (DP.d0 (DP.LP zr zr (RL.iu 4 dd o zr zr (iO 9 o) r9 fun w o=>?_)))))))
   refine DP.d2 zt (DP.z ?_)
   obtain rfl:=oi hj
   exact⟨rfl,dd,(us446++[(⟨ar.2.2.1,ar.2.2.2,(rv (.slice none 0 0))⟩:aT)]),o.sp 20 [4,9,10,5,6,7,8,11,12,13,14,18]⟩
  rintro _ w ⟨cm,us598,O,rfl,o⟩
  refine bQ (aH (RC.region (RL.inc hk hm (mv (vi ((bn+1:Nat):Int)) (RL.nil ?_)))))
  obtain rfl:=oi hb
  exact⟨rfl,cm,us598,o.sp 12 [0,1,2,3,4,5,6,7,8,9,10,11]⟩
 rintro _ w ⟨aj,us444,O,rfl,o⟩
 refine aH (RC.sr (mv (vp b0 0) (RL.nilCheck zr (RL.aY zr uz (RL.aY zr nR (RL.bK 0 v0_3 o wo (RL.bF 4 p0_3 o Dp (mv (vi 0) ?_))))))))
 refine RL.nt ?_
 obtain⟨ai,hN,hb⟩:=bd hb
 refine RC.fold (fun(b1:Nat) (ai: (List cF)×(List Int)×(List Int)×(List Int)×(List j8)) U w=>∃(de df:Value) (dg dh:Value) (us819:List aT),SH E V [(0,vp b0 0),(170,v0_3),(171,vi p0_3.length),(172,vi b1)] [bc 46 b0 [v0_0,v0_1,v0_2,v0_3,v0_4,v0_5,v0_6,aj,de,df,dg,dh],rd de ai.2.1,rd df ai.2.2.1,own 3 dg ai.2.2.2.1,own 78 dh ai.2.2.2.2,rd v0_2 p0_2,rd v0_3 p0_3,rd v0_5 p0_5,rd v0_6 p0_6,own 104 aj us819,ir aV us819 ai.1 none] U w) (fun(ai: (List cF)×(List Int)×(List Int)×(List Int)×(List j8)) U w=>∃(cn cp:Value) (cq cr:Value) (us824:List aT),SH E V [(0,vp b0 0)] [bc 46 b0 [v0_0,v0_1,v0_2,v0_3,v0_4,v0_5,v0_6,aj,cn,cp,cq,cr],rd cn ai.2.1,rd cp ai.2.2.1,own 3 cq ai.2.2.2.1,own 78 cr ai.2.2.2.2,rd v0_2 p0_2,rd v0_3 p0_3,rd v0_5 p0_5,rd v0_6 p0_6,own 104 aj us824,ir aV us824 ai.1 none] U w) hN ?_ ?_ ?_ ?_
 ·have o:=(o.freeze 7).freeze 8
  exact⟨al,an,v0_10,v0_11,us444,o.sp 12 [0,7,8,9,10,3,4,5,6,1,2]⟩
 ·rintro hm ai _ w ⟨eg,eh,ei,ej,us932,O,rfl,o⟩
  refine RC.sr (ic ((p0_3.length:Int)) ((p0_3.length:Int)) (RL.nq (RC.gk ue (RC.ex ?_))))
  exact⟨rfl,eg,eh,ei,ej,us932,o.sp 11 [0,1,2,3,4,5,6,7,8,9,10]⟩
 ·rintro hm b1 ai s' _ w hk ⟨a3,a4,bk,a6,us829,O,rfl,o⟩ hb
  refine RC.sr (ic ((b1:Int)) ((p0_3.length:Int)) (RL.nq (RC.gj (ud hk) (RC.ss (RC.bs ?_)))))
  obtain⟨b6,ek,hb⟩:=bd hb
  refine RL.bP 6 o zY ek fun el o=>(RL.bJ 0 b6 o rL fun en o=>(RL.alloc o Hh.z fun di w o=>?_))
  refine RL.cC 0 o 1 zr rL fun w o=>?_
  refine RL.ns (mv (vp b0 0) (RL.bB (f:=(fun x=>x)) 0 o zr Fd.self rL fun dj o=>?_))
  have o:=((o.dup 11 rfl).dup 10 rfl).pull 6
  obtain⟨a9,eo,hb⟩:=bd hb
  refine RL.call zt zr MH [(vp b0 0),dj] zr (aD (t7 N (i1:=0) o zr eo) ?_)
  rintro _ w ⟨c1,rfl,o⟩
  refine mv (.tuple #[c1,(vb a9.2)]) (RL.extract c1 (RL.extract (vb a9.2) (RL.alloc o F9.z fun b7 w o=>?_)))
  refine RL.cC 0 o 1 zr tn fun w o=>?_
  refine aQ (vb a9.2) (RL.ns (aQ (vi (-1)) (RL.nq (RC.sr (mv (vb a9.2) (RL.nt ?_))))))
  obtain⟨bg,hj,hb⟩:=bd hb
  refine RC.jn (fun(bg: (List cF)×Int) U w=>∃(us877:List aT),SH E V [(0,vp b0 0),(15,vp b7 0),(17,vi bg.2),(170,v0_3),(171,vi p0_3.length),(172,vi b1)] [bc 46 b0 [v0_0,v0_1,v0_2,v0_3,v0_4,v0_5,v0_6,aj,a3,a4,bk,a6],rd v0_2 p0_2,rd v0_3 p0_3,rd v0_5 p0_5,rd v0_6 p0_6,own 104 aj us877,ir aV us877 bg.1 none,rd a3 ai.2.1,rd a4 ai.2.2.1,own 3 bk ai.2.2.2.1,own 78 a6 ai.2.2.2.2,bx 78 b7 a9.1] U w) bg ?_ ?_
  ·refine dQ hj (fun hc hj=>?_) fun hc hj=>?_
   rotate_left
   ·refine RC.skip ?_
    obtain rfl:=oi hj
    exact⟨rfl,us829,o.sp 18 [2,12,13,14,15,16,17,8,9,10,11,0]⟩
   refine RC.sr (mv (vp b0 0) (RL.bB (f:=(fun x=>x)) 0 o zr Fd.self tn fun dk o=>?_))
   have o:=((o.dup 10 rfl).dup 10 rfl).pull 5
   obtain⟨ah,ep,hj⟩:=bd hj
   refine RL.call zt zr MI [(vp b0 0),dk] zr (aD (qK N (i1:=0) o zr ep) ?_)
   rintro _ w ⟨rfl,o⟩
   refine aQ (vi ah) (RL.nt ?_)
   obtain⟨fp,cc,hj⟩:=bd hj
   obtain⟨b8,er,hj⟩:=bd hj
   obtain⟨bq,et,hj⟩:=bd hj
   obtain⟨b2,ct,hj⟩:=bd hj
   refine RC.F2 E V mixed [1,1,1,0,1,1,1,1,0,1,0,0,0,0,0,0,0,0,0,0] [13,14,15,16,19] (fun(x:Value×Value×Value×Value)=>(fun av aw au ak=>[(0,186,(vp b0 0)),(1,187,(vp b0 0)),(2,188,(vp b0 7)),(3,189,aj),(4,190,(vi ah)),(5,191,(vp b0 0)),(6,192,(vp b0 0)),(7,193,(vp b0 7)),(8,194,aj),(9,195,(vi ah)),(10,196,(zg aj (Int.toNat ah) 3 0)),(11,197,(zg aj (Int.toNat ah) 3 2)),(12,198,(us829.getD (Int.toNat ah) (default:aT)).gl.v),(13,199,av),(14,200,aw),(15,201,au),(16,202,ak),(17,203,(zg aj (Int.toNat ah) 3 0)),(18,204,(zg aj (Int.toNat ah) 3 2))]) x.1 x.2.1 x.2.2.1 x.2.2.2) [(0,vp b0 0),(14,vp di 0),(15,vp b7 0),(17,vi ah),(170,v0_3),(171,vi p0_3.length),(172,vi b1)] [] (fun(D:Nat->Bool) (x:Value×Value×Value×Value)=>(fun av aw au ak=>[bif D 0 then (rd av b6) else bD,bif D 1 then (rd aw b8) else bD,bif D 3 then (rd au ([b8]: (List dV))) else (bif D 2 then (own 29 au ([b8]: (List dV))) else bD),bif D 4 then bD else (bif D 3 then (own 29 ak bq) else bD),bc 46 b0 [v0_0,v0_1,v0_2,v0_3,v0_4,v0_5,v0_6,aj,a3,a4,bk,a6],rd dk a9.1,bx 78 b7 a9.1,rd c1 a9.1,bD,rd dj b6,bx 54 di b6,rd en b6,pt el b6,bD,rd a3 ai.2.1,rd a4 ai.2.2.1,own 3 bk ai.2.2.2.1,own 78 a6 ai.2.2.2.2,rd v0_2 p0_2,rd v0_3 p0_3,rd v0_5 p0_5,rd v0_6 p0_6,bif D 4 then (own 104 aj (us829.set (Int.toNat ah) {(us829.getD (Int.toNat ah) (default:aT)) with gl:=rv ak})) else (own 104 aj us829),bif D 4 then (ir aV (us829.set (Int.toNat ah) {(us829.getD (Int.toNat ah) (default:aT)) with gl:=rv ak}) (ai.1.set (Int.toNat ah) {b2 with gl:=bq}) none) else (bif D 3 then (ir aV us829 ai.1 (some (Int.toNat ah))) else (ir aV us829 ai.1 none))]) x.1 x.2.1 x.2.2.1 x.2.2.2) (fun x=>by kernel_rfl) ?_ ⟨fun _=>jG gn,fun _=>w5 gn,fun _=>nN gn yi,?_,fun _=>jG gn,fun _=>jG gn,fun _=>w5 gn,fun _=>nN gn yi,?_,fun _=>jG gn,?_,?_,?_,?_,?_,?_,?_,?_,?_,?_,trivial⟩ ?_
   ·have o:=((((o.drew).bD).bD).bD).bD
    exact⟨(undef,undef,undef,undef),gH.none,(EC zr),zt,o⟩
   ·rintro D U w hD ae ab ⟨⟨av,aw,au,ak⟩,hv,ha,_,o⟩
    obtain⟨O,rfl⟩:=(ac (hv.at 2 rfl (ae.1 rfl)) az).fI
    refine RL.bK 4 aj o r9 ?_
    exact RL.nil ⟨rfl,(av,aw,au,ak),hv.put 3 zr zr,ha.up zr,zt,o⟩
   ·rintro D U w hD ae ab ⟨⟨av,aw,au,ak⟩,hv,ha,_,o⟩
    obtain⟨O,rfl⟩:=(ac (hv.at 7 rfl (ae.1 rfl)) az).fI
    refine RL.bK 4 aj o r9 ?_
    exact RL.nil ⟨rfl,(av,aw,au,ak),hv.put 8 zr zr,ha.up zr,zt,o⟩
   ·rintro D U w hD ae ab ⟨⟨av,aw,au,ak⟩,hv,ha,_,o⟩
    obtain⟨O,rfl⟩:=(ac (hv.at 8 rfl (ae.1 rfl)) (ac (hv.at 9 rfl (ae.2.1 rfl)) az)).fI
    have o:=((o.cD 22 (nf (fun h=>ft hD ((ab 19 _ rfl h).2.2.2.2.2.2.2.2.2.2.2.2.2.1 rfl)))).cD 23 (nf (fun h=>ft hD ((ab 19 _ rfl h).2.2.2.2.2.2.2.2.2.2.2.2.2.1 rfl)))).cD 23 (nf (fun h=>ft hD ((ab 11 _ rfl ((ab 12 _ rfl ((ab 16 _ rfl h).1 rfl)).1 rfl)).1 rfl)))
    have hl900:=o.eE 23
    have hr901:=fO (default:aT) hl900 cc
    refine RL.bV 22 o zr zr yj hr901 ?_
    have o:=(o.eX 22 (D 19) (nf (fun h=>ft hD ((ab 19 _ rfl h).2.2.2.2.2.2.2.2.2.2.2.2.2.1 rfl))) (own 104 aj (us829.set (Int.toNat ah) {(us829.getD (Int.toNat ah) (default:aT)) with gl:=rv ak}))).eX 23 (D 16) (nf (fun h=>ft hD ((ab 11 _ rfl ((ab 12 _ rfl ((ab 16 _ rfl h).1 rfl)).1 rfl)).1 rfl))) (ir aV us829 ai.1 (some (Int.toNat ah)))
    have o:=o.eX 23 (D 19) (nf (fun h=>ft hD ((ab 19 _ rfl h).2.2.2.2.2.2.2.2.2.2.2.2.2.1 rfl))) (ir aV (us829.set (Int.toNat ah) {(us829.getD (Int.toNat ah) (default:aT)) with gl:=rv ak}) (ai.1.set (Int.toNat ah) {b2 with gl:=bq}) none)
    exact RL.nil ⟨rfl,(av,aw,au,ak),hv.put 10 zr zr,ha.up zr,zt,o⟩
   ·rintro D U w hD ae ab ⟨⟨av,aw,au,ak⟩,hv,ha,_,o⟩
    obtain⟨O,rfl⟩:=(ac (hv.at 10 rfl (ae.1 rfl)) az).fI
    have o:=((o.cD 22 (nf (fun h=>ft hD ((ab 19 _ rfl h).2.2.2.2.2.2.2.2.2.2.2.2.2.2.1 rfl)))).cD 23 (nf (fun h=>ft hD ((ab 19 _ rfl h).2.2.2.2.2.2.2.2.2.2.2.2.2.2.1 rfl)))).cD 23 (nf (fun h=>ft hD ((ab 12 _ rfl ((ab 16 _ rfl h).1 rfl)).1 rfl)))
    have hl902:=o.eE 23
    have hr903:=fO (default:aT) hl902 cc
    refine RL.k7 (α:=aT) zt (jF 22 o hr903 0) zy ?_
    have o:=(o.eX 22 (D 19) (nf (fun h=>ft hD ((ab 19 _ rfl h).2.2.2.2.2.2.2.2.2.2.2.2.2.2.1 rfl))) (own 104 aj (us829.set (Int.toNat ah) {(us829.getD (Int.toNat ah) (default:aT)) with gl:=rv ak}))).eX 23 (D 16) (nf (fun h=>ft hD ((ab 12 _ rfl ((ab 16 _ rfl h).1 rfl)).1 rfl))) (ir aV us829 ai.1 (some (Int.toNat ah)))
    have o:=o.eX 23 (D 19) (nf (fun h=>ft hD ((ab 19 _ rfl h).2.2.2.2.2.2.2.2.2.2.2.2.2.2.1 rfl))) (ir aV (us829.set (Int.toNat ah) {(us829.getD (Int.toNat ah) (default:aT)) with gl:=rv ak}) (ai.1.set (Int.toNat ah) {b2 with gl:=bq}) none)
    exact RL.nil ⟨rfl,(av,aw,au,ak),hv.put 11 zr zr,ha.up zr,zt,o⟩
   ·rintro D U w hD ae ab ⟨⟨av,aw,au,ak⟩,hv,ha,_,o⟩
    obtain⟨O,rfl⟩:=(ac (hv.at 11 rfl (ae.1 rfl)) az).fI
    have o:=((o.cD 22 (nf (fun h=>ft hD ((ab 19 _ rfl h).2.2.2.2.2.2.2.2.2.2.2.2.2.2.2.1 rfl)))).cD 23 (nf (fun h=>ft hD ((ab 19 _ rfl h).2.2.2.2.2.2.2.2.2.2.2.2.2.2.2.1 rfl)))).cD 23 (nf (fun h=>ft hD ((ab 16 _ rfl h).1 rfl)))
    have hl904:=o.eE 23
    have hr905:=fO (default:aT) hl904 cc
    refine RL.u9 22 23 ah n8 (default:aT) zr o zr (jF 22 o hr905 2) zr zr cc Fu ?_
    have o:=(o.eX 22 (D 19) (nf (fun h=>ft hD ((ab 19 _ rfl h).2.2.2.2.2.2.2.2.2.2.2.2.2.2.2.1 rfl))) (own 104 aj (us829.set (Int.toNat ah) {(us829.getD (Int.toNat ah) (default:aT)) with gl:=rv ak}))).eX 23 (D 16) (nf (fun h=>ft hD ((ab 16 _ rfl h).1 rfl))) (ir aV us829 ai.1 (some (Int.toNat ah)))
    have o:=o.eX 23 (D 19) (nf (fun h=>ft hD ((ab 19 _ rfl h).2.2.2.2.2.2.2.2.2.2.2.2.2.2.2.1 rfl))) (ir aV (us829.set (Int.toNat ah) {(us829.getD (Int.toNat ah) (default:aT)) with gl:=rv ak}) (ai.1.set (Int.toNat ah) {b2 with gl:=bq}) none)
    exact RL.nil ⟨rfl,(av,aw,au,ak),hv.put 12 zr zr,ha.up zr,zt,o⟩
   ·rintro D U w hD ae ab ⟨⟨av,aw,au,ak⟩,hv,ha,_,o⟩
    obtain⟨O,rfl⟩:=(ac (ha.at 1 rfl) az).fI
    have o:=o.cD 0 hD
    refine RL.bB (f:=(fun x=>x)) 10 o zr Fd.self rL fun eu o=>?_
    have o:=(o.pl 25 [0,2,3,4,5,6,7,8,9,10,11,12,13,14,15,16,17,18,19,20,21,22,23,24]).cQ 0 true rfl bD
    exact RL.nil ⟨rfl,(eu,aw,au,ak),hv.put 13 zr zr,ha.up zr,zt,o⟩
   ·rintro D U w hD ae ab ⟨⟨av,aw,au,ak⟩,hv,ha,_,o⟩
    obtain⟨O,rfl⟩:=(ac (hv.at 13 rfl (ae.1 rfl)) az).fI
    have o:=(o.cP 0 (ae.1 rfl)).cD 1 hD
    refine RL.call zt zr IC [av] zr (aD (nK N (i0:=0) o zr er) ?_)
    rintro ev w o
    have o:=((o.pl 25 [1,0,3,4,5,6,7,8,9,10,11,12,13,14,15,16,17,18,19,20,21,22,23,24]).cQ 0 (D 13) (ae.1 rfl) bD).cQ 1 true rfl bD
    exact RL.nil ⟨rfl,(av,ev,au,ak),hv.put 14 zr zr,ha.up zr,zt,o⟩
   ·rintro D U w hD ae ab ⟨⟨av,aw,au,ak⟩,hv,ha,_,o⟩
    obtain⟨O,rfl⟩:=(ac (hv.at 14 rfl (ae.1 rfl)) az).fI
    have o:=((o.cP 1 (ae.1 rfl)).cD 2 (nf (fun h=>ft hD ((ab 16 _ rfl h).2.1 rfl)))).cD 2 hD
    refine RL.dY ([b8]: (List dV)) o [aw] Jh JV (fun M hs g=>⟨(g.sat 1 _ zr).1,zt⟩) fun dm w o=>?_
    have o:=(((o.pl 25 [1,2,0,4,5,6,7,8,9,10,11,12,13,14,15,16,17,18,19,20,21,22,23,24]).cQ 1 (D 14) (ae.1 rfl) bD).cQ 2 true rfl bD).eX 2 (D 16) (nf (fun h=>ft hD ((ab 16 _ rfl h).2.1 rfl))) (rd dm ([b8]: (List dV)))
    exact RL.nil ⟨rfl,(av,aw,dm,ak),hv.put 15 zr zr,ha.up zr,zt,o⟩
   ·rintro D U w hD ae ab ⟨⟨av,aw,au,ak⟩,hv,ha,_,o⟩
    obtain⟨O,rfl⟩:=(ac (hv.at 12 rfl (ae.1 rfl)) (ac (hv.at 15 rfl (ae.2.1 rfl)) az)).fI
    have o:=((((o.cD 2 hD).cP 2 (ae.2.1 rfl)).cD 3 (nf (fun h=>ft hD ((ab 19 _ rfl h).2.1 rfl)))).cD 3 hD).cD 22 (nf (fun h=>ft hD ((ab 19 _ rfl h).2.1 rfl)))
    have o:=(((o.cD 23 (nf (fun h=>ft hD ((ab 19 _ rfl h).2.1 rfl)))).cD 23 hD).zM (j:=23) (jj:=ah) n8 (default:aT) rfl cc).freeze 3
    refine RL.app 0 3 o Ji et fun c2 w o=>?_
    have o:=(((o.pl 25 [1,2,3,0,5,6,7,8,9,10,11,12,13,14,15,16,17,18,19,20,21,22,23,24]).cQ 2 true rfl (bif D 15 then (own 29 au ([b8]: (List dV))) else bD)).cQ 3 true rfl bD).eX 3 (D 19) (nf (fun h=>ft hD ((ab 19 _ rfl h).2.1 rfl))) bD
    have o:=(o.eX 22 (D 19) (nf (fun h=>ft hD ((ab 19 _ rfl h).2.1 rfl))) (own 104 aj (us829.set (Int.toNat ah) {(us829.getD (Int.toNat ah) (default:aT)) with gl:=rv c2}))).cQ 23 true rfl (ir aV us829 ai.1 none)
    have o:=o.eX 23 (D 19) (nf (fun h=>ft hD ((ab 19 _ rfl h).2.1 rfl))) (ir aV (us829.set (Int.toNat ah) {(us829.getD (Int.toNat ah) (default:aT)) with gl:=rv c2}) (ai.1.set (Int.toNat ah) {b2 with gl:=bq}) none)
    exact RL.nil ⟨rfl,(av,aw,au,c2),hv.put 16 zr zr,ha.up zr,zt,o⟩
   ·rintro D U w hD ae ab ⟨⟨av,aw,au,ak⟩,hv,ha,_,o⟩
    obtain⟨O,rfl⟩:=(ac (hv.at 3 rfl (ae.1 rfl)) (ac (hv.at 4 rfl (ae.2.1 rfl)) az)).fI
    have o:=o.cD 22 (nf (fun h=>ft hD ((ab 18 _ rfl ((ab 19 _ rfl h).1 rfl)).1 rfl)))
    have o:=o.cD 23 (nf (fun h=>ft hD ((ab 18 _ rfl ((ab 19 _ rfl h).1 rfl)).1 rfl)))
    have o:=o.cP 23 (ae.2.2.2.2.2.2.2.2.2.2.2.2.2.2.2.2.2.2.1 rfl)
    have hl910:=o.eE 23
    have hr911:=fO (default:aT) hl910 ct
    refine RL.bV 22 o zr zr yj hr911 ?_
    have o:=o.eX 22 (D 19) (nf (fun h=>ft hD ((ab 18 _ rfl ((ab 19 _ rfl h).1 rfl)).1 rfl))) (own 104 aj (us829.set (Int.toNat ah) {(us829.getD (Int.toNat ah) (default:aT)) with gl:=rv ak}))
    have o:=(o.cQ 23 (D 16) (ae.2.2.2.2.2.2.2.2.2.2.2.2.2.2.2.2.2.2.1 rfl) (ir aV us829 ai.1 none)).eX 23 (D 19) (nf (fun h=>ft hD ((ab 18 _ rfl ((ab 19 _ rfl h).1 rfl)).1 rfl))) (ir aV (us829.set (Int.toNat ah) {(us829.getD (Int.toNat ah) (default:aT)) with gl:=rv ak}) (ai.1.set (Int.toNat ah) {b2 with gl:=bq}) none)
    exact RL.nil ⟨rfl,(av,aw,au,ak),hv.put 17 zr zr,ha.up zr,zt,o⟩
   ·rintro D U w hD ae ab ⟨⟨av,aw,au,ak⟩,hv,ha,_,o⟩
    obtain⟨O,rfl⟩:=(ac (hv.at 17 rfl (ae.1 rfl)) az).fI
    have o:=((o.cD 22 (nf (fun h=>ft hD ((ab 19 _ rfl h).1 rfl)))).cD 23 (nf (fun h=>ft hD ((ab 19 _ rfl h).1 rfl)))).cP 23 (ae.2.2.2.2.2.2.2.2.2.2.2.2.2.2.2.2.2.1 rfl)
    have hl912:=o.eE 23
    have hr913:=fO (default:aT) hl912 ct
    refine RL.k7 (α:=aT) zt (jF 22 o hr913 0) zy ?_
    have o:=(o.eX 22 (D 19) (nf (fun h=>ft hD ((ab 19 _ rfl h).1 rfl))) (own 104 aj (us829.set (Int.toNat ah) {(us829.getD (Int.toNat ah) (default:aT)) with gl:=rv ak}))).cQ 23 (D 16) (ae.2.2.2.2.2.2.2.2.2.2.2.2.2.2.2.2.2.1 rfl) (ir aV us829 ai.1 none)
    have o:=o.eX 23 (D 19) (nf (fun h=>ft hD ((ab 19 _ rfl h).1 rfl))) (ir aV (us829.set (Int.toNat ah) {(us829.getD (Int.toNat ah) (default:aT)) with gl:=rv ak}) (ai.1.set (Int.toNat ah) {b2 with gl:=bq}) none)
    exact RL.nil ⟨rfl,(av,aw,au,ak),hv.put 18 zr zr,ha.up zr,zt,o⟩
   ·rintro D U w hD ae ab ⟨⟨av,aw,au,ak⟩,hv,ha,_,o⟩
    obtain⟨O,rfl⟩:=(ac (hv.at 16 rfl (ae.2.1 rfl)) (ac (hv.at 18 rfl (ae.1 rfl)) az)).fI
    have o:=((((o.cD 3 hD).cP 3 (ae.2.1 rfl)).cD 22 hD).cD 23 hD).cP 23 (ae.2.1 rfl)
    have hl914:=o.eE 23
    have hr915:=fO (default:aT) hl914 ct
    refine RL.te 22 23 3 ah n8 (default:aT) o zr zr (jF 22 o hr915 2) zr zr zr ct Fu fun w o=>?_
    have o:=((o.cQ 3 true rfl (bif D 16 then (own 29 ak bq) else bD)).cQ 22 true rfl (own 104 aj us829)).cQ 23 true rfl (bif D 16 then (ir aV us829 ai.1 (some (Int.toNat ah))) else (ir aV us829 ai.1 none))
    exact RL.nil ⟨rfl,(av,aw,au,ak),hv.no zr,ha,zt,o⟩
   rintro D U w a7 ⟨⟨av,aw,au,ak⟩,hv,ha,_,o⟩
   have o:=o.cP 0 (a7 13 (by decide))
   have o:=o.cP 1 (a7 14 (by decide))
   have o:=o.cP 2 (a7 16 (by decide))
   have o:=o.cP 3 (a7 19 (by decide))
   have o:=o.cP 22 (a7 19 (by decide))
   have o:=o.cP 23 (a7 19 (by decide))
   obtain⟨O,rfl⟩:=(ac (ha.at 0 rfl) (ac (ha.at 1 rfl) (ac (ha.at 2 rfl) (ac (ha.at 3 rfl) (ac (ha.at 4 rfl) (ac (ha.at 5 rfl) (ac (ha.at 6 rfl) az))))))).fI
   obtain rfl:=oi hj
   exact⟨rfl,(us829.set (Int.toNat ah) {(us829.getD (Int.toNat ah) (default:aT)) with gl:=rv ak}),o.sp 24 [4,18,19,20,21,22,23,14,15,16,17,6]⟩
  rintro _ w ⟨us877,O,rfl,o⟩
  refine aH ?_
  obtain⟨ew,ey,hb⟩:=bd hb
  obtain⟨ez,e3,hb⟩:=bd hb
  refine RC.F2 E V mixed [1,1,1,1,1,0,1,0,0,1,1,1,0,0,0,0,1,1,0,1,1,0] [7,8,13,14,15,18,21] (fun(x:Value×Value×Value×Value×Value)=>(fun ay a1 a0 aq ax=>[(0,205,(vp b0 0)),(1,206,(vp b0 0)),(2,207,(vp b0 0)),(3,208,(vp b0 0)),(4,209,(vp b0 10)),(5,210,bk),(6,211,(vi bg.2)),(7,212,ay),(8,213,aq),(9,214,(vp b0 0)),(10,215,(vp b0 0)),(11,216,(vp b0 11)),(12,217,a6),(13,218,a1),(14,219,a0),(15,220,ax),(16,221,(vp b0 0)),(17,222,(vp b0 10)),(19,223,(vp b0 0)),(20,224,(vp b0 11))]) x.1 x.2.1 x.2.2.1 x.2.2.2.1 x.2.2.2.2) [(0,vp b0 0),(15,vp b7 0),(17,vi bg.2),(170,v0_3),(171,vi p0_3.length),(172,vi b1)] [] (fun(D:Nat->Bool) (x:Value×Value×Value×Value×Value)=>(fun ay a1 a0 aq ax=>[bif D 1 then (rd ay ([bg.2]: (List Int))) else (bif D 0 then (own 3 ay ([bg.2]: (List Int))) else bD),bif D 2 then (rd a1 a9.1) else bD,bif D 4 then (rd a0 ([a9.1]: (List j8))) else (bif D 3 then (own 78 a0 ([a9.1]: (List j8))) else bD),bif D 6 then (bc 46 b0 [v0_0,v0_1,v0_2,v0_3,v0_4,v0_5,v0_6,aj,a3,a4,aq,ax]) else (bif D 5 then (bc 46 b0 [v0_0,v0_1,v0_2,v0_3,v0_4,v0_5,v0_6,aj,a3,a4,aq,a6]) else (bc 46 b0 [v0_0,v0_1,v0_2,v0_3,v0_4,v0_5,v0_6,aj,a3,a4,bk,a6])),rd v0_2 p0_2,rd v0_3 p0_3,rd v0_5 p0_5,rd v0_6 p0_6,own 104 aj us877,ir aV us877 bg.1 none,rd a3 ai.2.1,rd a4 ai.2.2.1,bif D 1 then (own 3 aq ew) else (own 3 bk ai.2.2.2.1),bif D 4 then (own 78 ax ez) else (own 78 a6 ai.2.2.2.2),bx 78 b7 a9.1]) x.1 x.2.1 x.2.2.1 x.2.2.2.1 x.2.2.2.2) (fun x=>by kernel_rfl) ?_ ⟨fun _=>jG gn,fun _=>jG gn,fun _=>jG gn,fun _=>w5 gn,fun _=>nN gn Cj,?_,fun _=>jG gn,?_,?_,fun _=>jG gn,fun _=>w5 gn,fun _=>nN gn Hp,?_,?_,?_,?_,fun _=>w5 gn,fun _=>nN gn Cj,?_,fun _=>w5 gn,fun _=>nN gn Hp,?_,trivial⟩ ?_
  ·have o:=(((o.drew).bD).bD).bD
   exact⟨(undef,undef,undef,undef,undef),gH.none,(EC zr),zt,o⟩
  ·rintro D U w hD ae ab ⟨⟨ay,a1,a0,aq,ax⟩,hv,ha,_,o⟩
   obtain⟨O,rfl⟩:=(ac (hv.at 4 rfl (ae.1 rfl)) az).fI
   have o:=(o.cD 3 (nf (fun h=>ft hD ((ab 21 _ rfl h).2.2.2.2.2.2.2.2.1 rfl)))).cD 3 (nf (fun h=>ft hD ((ab 18 _ rfl h).2.2.2.2.2.2.2.2.1 rfl)))
   refine RL.bK 3 bk o fu ?_
   have o:=(o.eX 3 (D 18) (nf (fun h=>ft hD ((ab 18 _ rfl h).2.2.2.2.2.2.2.2.1 rfl))) (bc 46 b0 [v0_0,v0_1,v0_2,v0_3,v0_4,v0_5,v0_6,aj,a3,a4,aq,a6])).eX 3 (D 21) (nf (fun h=>ft hD ((ab 21 _ rfl h).2.2.2.2.2.2.2.2.1 rfl))) (bc 46 b0 [v0_0,v0_1,v0_2,v0_3,v0_4,v0_5,v0_6,aj,a3,a4,aq,ax])
   exact RL.nil ⟨rfl,(ay,a1,a0,aq,ax),hv.put 5 zr zr,ha.up zr,zt,o⟩
  ·rintro D U w hD ae ab ⟨⟨ay,a1,a0,aq,ax⟩,hv,ha,_,o⟩
   obtain⟨O,rfl⟩:=(ac (hv.at 6 rfl (ae.1 rfl)) az).fI
   have o:=((o.cD 0 (nf (fun h=>ft hD ((ab 8 _ rfl h).2.1 rfl)))).cD 0 hD).sc Int bg.2
   refine RL.dY ([bg.2]: (List Int)) o [(vi bg.2)] eC CI (fun M hs g=>⟨(g.sat 0 _ zr).1,zt⟩) fun dn w o=>?_
   have o:=((o.pl 17 [0,3,4,5,6,7,8,9,10,11,12,13,14,15,16]).cQ 0 true rfl bD).eX 0 (D 8) (nf (fun h=>ft hD ((ab 8 _ rfl h).2.1 rfl))) (rd dn ([bg.2]: (List Int)))
   exact RL.nil ⟨rfl,(dn,a1,a0,aq,ax),hv.put 7 zr zr,ha.up zr,zt,o⟩
  ·rintro D U w hD ae ab ⟨⟨ay,a1,a0,aq,ax⟩,hv,ha,_,o⟩
   obtain⟨O,rfl⟩:=(ac (hv.at 5 rfl (ae.1 rfl)) (ac (hv.at 7 rfl (ae.2.1 rfl)) az)).fI
   have o:=(((o.cD 0 hD).cP 0 (ae.2.1 rfl)).cD 3 (nf (fun h=>ft hD ((ab 21 _ rfl h).2.2.2.2.2.2.2.2.2.2.2.1 rfl)))).cD 3 (nf (fun h=>ft hD ((ab 18 _ rfl h).2.1 rfl)))
   have o:=(o.cD 12 hD).freeze 0
   refine RL.app 12 0 o q7 ey fun c3 w o=>?_
   have o:=((o.cQ 0 true rfl (bif D 7 then (own 3 ay ([bg.2]: (List Int))) else bD)).eX 3 (D 18) (nf (fun h=>ft hD ((ab 18 _ rfl h).2.1 rfl))) (bc 46 b0 [v0_0,v0_1,v0_2,v0_3,v0_4,v0_5,v0_6,aj,a3,a4,c3,a6])).eX 3 (D 21) (nf (fun h=>ft hD ((ab 21 _ rfl h).2.2.2.2.2.2.2.2.2.2.2.1 rfl))) (bc 46 b0 [v0_0,v0_1,v0_2,v0_3,v0_4,v0_5,v0_6,aj,a3,a4,c3,ax])
   have o:=o.cQ 12 true rfl (own 3 bk ai.2.2.2.1)
   exact RL.nil ⟨rfl,(ay,a1,a0,c3,ax),hv.put 8 zr zr,ha.up zr,zt,o⟩
  ·rintro D U w hD ae ab ⟨⟨ay,a1,a0,aq,ax⟩,hv,ha,_,o⟩
   obtain⟨O,rfl⟩:=(ac (hv.at 11 rfl (ae.1 rfl)) az).fI
   have o:=(o.cD 3 (nf (fun h=>ft hD ((ab 21 _ rfl h).2.2.2.2.2.2.2.2.2.2.2.2.2.2.2.1 rfl)))).cD 3 (nf (fun h=>ft hD ((ab 18 _ rfl h).2.2.2.2.2.2.2.2.2.2.2.2.2.2.2.1 rfl)))
   refine RL.bK 3 a6 o Le ?_
   have o:=(o.eX 3 (D 18) (nf (fun h=>ft hD ((ab 18 _ rfl h).2.2.2.2.2.2.2.2.2.2.2.2.2.2.2.1 rfl))) (bc 46 b0 [v0_0,v0_1,v0_2,v0_3,v0_4,v0_5,v0_6,aj,a3,a4,aq,a6])).eX 3 (D 21) (nf (fun h=>ft hD ((ab 21 _ rfl h).2.2.2.2.2.2.2.2.2.2.2.2.2.2.2.1 rfl))) (bc 46 b0 [v0_0,v0_1,v0_2,v0_3,v0_4,v0_5,v0_6,aj,a3,a4,aq,ax])
   exact RL.nil ⟨rfl,(ay,a1,a0,aq,ax),hv.put 12 zr zr,ha.up zr,zt,o⟩
  ·rintro D U w hD ae ab ⟨⟨ay,a1,a0,aq,ax⟩,hv,ha,_,o⟩
   obtain⟨O,rfl⟩:=(ac (ha.at 1 rfl) az).fI
   have o:=o.cD 1 hD
   refine RL.bB (f:=(fun x=>x)) 14 o zr Fd.self tn fun e4 o=>?_
   have o:=(o.pl 16 [1,0,3,4,5,6,7,8,9,10,11,12,13,14,15]).cQ 1 true rfl bD
   exact RL.nil ⟨rfl,(ay,e4,a0,aq,ax),hv.put 13 zr zr,ha.up zr,zt,o⟩
  ·rintro D U w hD ae ab ⟨⟨ay,a1,a0,aq,ax⟩,hv,ha,_,o⟩
   obtain⟨O,rfl⟩:=(ac (hv.at 13 rfl (ae.1 rfl)) az).fI
   have o:=((o.cP 1 (ae.1 rfl)).cD 2 (nf (fun h=>ft hD ((ab 15 _ rfl h).2.1 rfl)))).cD 2 hD
   refine RL.dY ([a9.1]: (List j8)) o [a1] MJ F9 (fun M hs g=>⟨(g.sat 1 _ zr).1,zt⟩) fun dp w o=>?_
   have o:=(((o.pl 16 [1,2,0,4,5,6,7,8,9,10,11,12,13,14,15]).cQ 1 (D 13) (ae.1 rfl) bD).cQ 2 true rfl bD).eX 2 (D 15) (nf (fun h=>ft hD ((ab 15 _ rfl h).2.1 rfl))) (rd dp ([a9.1]: (List j8)))
   exact RL.nil ⟨rfl,(ay,a1,dp,aq,ax),hv.put 14 zr zr,ha.up zr,zt,o⟩
  ·rintro D U w hD ae ab ⟨⟨ay,a1,a0,aq,ax⟩,hv,ha,_,o⟩
   obtain⟨O,rfl⟩:=(ac (hv.at 12 rfl (ae.1 rfl)) (ac (hv.at 14 rfl (ae.2.1 rfl)) az)).fI
   have o:=(((o.cD 2 hD).cP 2 (ae.2.1 rfl)).cD 3 (nf (fun h=>ft hD ((ab 21 _ rfl h).2.1 rfl)))).cD 3 (nf (fun h=>ft hD ((ab 18 _ rfl h).2.2.1 rfl)))
   have o:=(o.cD 13 hD).freeze 2
   refine RL.app 13 2 o MK e3 fun dq w o=>?_
   have o:=((o.cQ 2 true rfl (bif D 14 then (own 78 a0 ([a9.1]: (List j8))) else bD)).eX 3 (D 18) (nf (fun h=>ft hD ((ab 18 _ rfl h).2.2.1 rfl))) (bc 46 b0 [v0_0,v0_1,v0_2,v0_3,v0_4,v0_5,v0_6,aj,a3,a4,aq,a6])).eX 3 (D 21) (nf (fun h=>ft hD ((ab 21 _ rfl h).2.1 rfl))) (bc 46 b0 [v0_0,v0_1,v0_2,v0_3,v0_4,v0_5,v0_6,aj,a3,a4,aq,dq])
   have o:=o.cQ 13 true rfl (own 78 a6 ai.2.2.2.2)
   exact RL.nil ⟨rfl,(ay,a1,a0,aq,dq),hv.put 15 zr zr,ha.up zr,zt,o⟩
  ·rintro D U w hD ae ab ⟨⟨ay,a1,a0,aq,ax⟩,hv,ha,_,o⟩
   obtain⟨O,rfl⟩:=(ac (hv.at 8 rfl (ae.2.1 rfl)) (ac (hv.at 17 rfl (ae.1 rfl)) az)).fI
   have o:=((o.cD 3 (nf (fun h=>ft hD ((ab 21 _ rfl h).2.2.1 rfl)))).cD 3 hD).cP 12 (ae.2.1 rfl)
   refine RL.iu 3 aq o zr zr (iO 12 o) fu fun w o=>?_
   have o:=((o.cQ 3 true rfl (bc 46 b0 [v0_0,v0_1,v0_2,v0_3,v0_4,v0_5,v0_6,aj,a3,a4,bk,a6])).eX 3 (D 21) (nf (fun h=>ft hD ((ab 21 _ rfl h).2.2.1 rfl))) (bc 46 b0 [v0_0,v0_1,v0_2,v0_3,v0_4,v0_5,v0_6,aj,a3,a4,aq,ax])).cQ 12 (D 8) (ae.2.1 rfl) (own 3 bk ai.2.2.2.1)
   exact RL.nil ⟨rfl,(ay,a1,a0,aq,ax),hv.no zr,ha,zt,o⟩
  ·rintro D U w hD ae ab ⟨⟨ay,a1,a0,aq,ax⟩,hv,ha,_,o⟩
   obtain⟨O,rfl⟩:=(ac (hv.at 15 rfl (ae.2.1 rfl)) (ac (hv.at 19 rfl (ae.1 rfl)) az)).fI
   have o:=((o.cD 3 hD).cP 3 (ae.2.2.1 rfl)).cP 13 (ae.2.1 rfl)
   refine RL.iu 3 ax o zr zr (iO 13 o) Le fun w o=>?_
   have o:=(o.cQ 3 true rfl (bif D 18 then (bc 46 b0 [v0_0,v0_1,v0_2,v0_3,v0_4,v0_5,v0_6,aj,a3,a4,aq,a6]) else (bc 46 b0 [v0_0,v0_1,v0_2,v0_3,v0_4,v0_5,v0_6,aj,a3,a4,bk,a6]))).cQ 13 (D 15) (ae.2.1 rfl) (own 78 a6 ai.2.2.2.2)
   exact RL.nil ⟨rfl,(ay,a1,a0,aq,ax),hv.no zr,ha,zt,o⟩
  rintro D U w a7 ⟨⟨ay,a1,a0,aq,ax⟩,hv,ha,_,o⟩
  have o:=o.cP 0 (a7 8 (by decide))
  have o:=o.cP 1 (a7 13 (by decide))
  have o:=o.cP 2 (a7 15 (by decide))
  have o:=o.cP 3 (a7 21 (by decide))
  have o:=o.cP 12 (a7 8 (by decide))
  have o:=o.cP 13 (a7 15 (by decide))
  obtain⟨O,rfl⟩:=(ac (ha.at 0 rfl) (ac (ha.at 1 rfl) (ac (ha.at 2 rfl) (ac (ha.at 3 rfl) (ac (ha.at 4 rfl) (ac (ha.at 5 rfl) az)))))).fI
  refine bQ (aH (RC.region (RL.inc hk hm (mv (vi ((b1+1:Nat):Int)) (RL.nil ?_)))))
  obtain rfl:=oi hb
  exact⟨rfl,a3,a4,aq,ax,us877,o.sp 15 [3,10,11,12,13,4,5,6,7,8,9]⟩
 rintro _ w ⟨cn,cp,cq,cr,us824,O,rfl,o⟩
 obtain rfl:=oi hb
 have o:=o.zx (X:=aV) (b:=10) (j:=9) rfl (fun M h u x cs=>xk M h u x cs) rfl rfl (by decide)
 refine CK ?_
 exact Ih zr ⟨aj,cn,cp,cq,cr,zr,o.pk 11 [0,9,1,2,3,4]⟩
def vV (E:World) (V:List HP) (res:Option ((List (List aI))×(List aI)×(List bZ)×(List eM)×(List (List aA))×(List aK)×(List (List Int))×(List cF)×(List Int)×(List Int)×(List Int)×(List j8))×Int) (v:Value) (w:World):Prop:=I9 res.1 (v = .tuple #[(.pointer none),(vi res.2)]/\Holds E w V) (fun y=>∃(ub0:Nat) (u0_0 u0_1:Value) (u0_2 u0_3:Value) (u0_4 u0_5:Value) (u0_6 u0_7:Value) (u0_8 u0_9:Value) (u0_10 u0_11:Value),v = .tuple #[vp ub0 0,(vi res.2)]/\Holds E w ([bc 46 ub0 [u0_0,u0_1,u0_2,u0_3,u0_4,u0_5,u0_6,u0_7,u0_8,u0_9,u0_10,u0_11],rd u0_0 y.1,rd u0_1 y.2.1,rd u0_2 y.2.2.1,rd u0_3 y.2.2.2.1,own 85 u0_4 y.2.2.2.2.1,rd u0_5 y.2.2.2.2.2.1,rd u0_6 y.2.2.2.2.2.2.1,own 104 u0_7 y.2.2.2.2.2.2.2.1,rd u0_8 y.2.2.2.2.2.2.2.2.1,rd u0_9 y.2.2.2.2.2.2.2.2.2.1,own 3 u0_10 y.2.2.2.2.2.2.2.2.2.2.1,own 78 u0_11 y.2.2.2.2.2.2.2.2.2.2.2]++V))
def rQ (E:World) (V:List HP) (r:Option ((List (List aI))×(List aI)×(List bZ)×(List eM)×(List (List aA))×(List aK)×(List (List Int))×(List cF)×(List Int)×(List Int)×(List Int)×(List j8))×Int) (U:Nat->Value) (w:World):Prop:=lF bN 112 Tryz.f7 (vV E V r) .ret U w
theorem Ad {p0:kT} {res:Option ((List (List aI))×(List aI)×(List bZ)×(List eM)×(List (List aA))×(List aK)×(List (List Int))×(List cF)×(List Int)×(List Int)×(List Int)×(List j8))×Int} (j:Holds E w V) (h0:V[i0]? =some (rd v0 p0)) (o:j3 N p0=some res):
    Calls bN 7 [v0].toArray w (gL (vV E V res)):=by
 unfold j3 at o
 refine enter Tryz.func7 zr zr ?_
 have j:=j.dup (i0+0) h0
 refine RC.sr (RL.cS 0 v0 j zr fun ao w j=>?_)
 refine aQ (.pointer none) (aQ (vi 0) (RL.nq (RC.sr (RL.aY zr mC (RL.bB 0 j zr i9 pJ fun c2 j=>(RL.bF 0 p0.aJ j qC (ic ((p0.aJ.length:Int)) 0 (RL.nt ?_))))))))
 refine dQ o (fun hc o=>?_) fun hc o=>?_
 ·refine RC.sr (aQ (.pointer none) (aQ (vi 9) (RL.nt (RC.rt ?_))))
  obtain rfl:=oi o
  exact wQ ⟨rfl,j.drop 3⟩
 refine RC.ss (RC.sr (RL.aY zr mC (RL.bB 1 j zr i9 pJ fun c3 j=>(RL.bF 0 p0.aJ j qC (ic ((p0.aJ.length:Int)) 16 (RL.nt (dQ o (fun hc o=>?_) fun hc o=>?_)))))))
 ·refine RC.sr (aQ (.pointer none) (aQ (vi 2) (RL.nt (RC.rt ?_))))
  obtain rfl:=oi o
  exact wQ ⟨rfl,j.drop 4⟩
 refine RC.sx (RL.aY zr Ch (RL.bB 2 j zr r8 tW fun c4 j=>(RL.bF 0 p0.cG j nk (aQ (vi p0.cG.length) (RL.nq (RC.sr (RL.aY zr mC (RL.bB 3 j zr i9 pJ fun bp j=>?_))))))))
 refine RL.bF 0 p0.aJ j qC (mv (vi 0) (RL.nt ?_))
 obtain⟨c5,hN,o⟩:=bd o
 refine RC.range (fun(bk:Nat) (ay:Int)=>SH E V [(1,vp ao 0),(4,vi ay),(28,bp),(29,vi p0.aJ.length),(30,vi bk)] [bx 27 ao p0,rd bp p0.aJ]) (fun(ay:Int)=>SH E V [(1,vp ao 0),(4,vi ay)] [bx 27 ao p0,rd bp p0.aJ]) (rQ E V) hN ?_ ?_ ?_ ?_ ?_
 ·exact j.sp 6 [4,0]
 ·rintro hm ay _ w ⟨O,rfl,j⟩
  refine RC.sr (ic ((p0.aJ.length:Int)) ((p0.aJ.length:Int)) (RL.nq (RC.gk ue (RC.ex ?_))))
  exact⟨rfl,j.sp 2 [0,1]⟩
 ·rintro hm bk ay fl _ w hk ⟨O,rfl,j⟩ o
  refine RC.sr (ic ((bk:Int)) ((p0.aJ.length:Int)) (RL.nq (RC.gj (ud hk) (RC.ss (RC.bs ?_)))))
  obtain⟨bl,bz,o⟩:=bd o
  refine RL.bP 1 j uy bz fun c6 j=>(RL.bJ 0 bl j tW fun bm j=>(aQ bm (RL.nq (RC.sr (mv bm ?_)))))
  obtain⟨a8,b0,o⟩:=bd o
  refine RL.call zt zr KO [bm] zr (aD (pr N (i0:=0) j zr b0) ?_)
  rintro _ w ⟨rfl,j⟩
  refine aQ (vi a8) (RL.ns (mv (vi a8) (ic a8 0 (RL.nt (dQ o (fun hc o=>?_) fun hc o=>?_)))))
  ·refine RC.sr (mv (vi a8) (aQ (.pointer none) (aQ (vi a8) (RL.nt (RC.rt (oA (bS ?_)))))))
   obtain rfl:=oi o
   exact⟨rfl,wQ ⟨rfl,j.drop 4⟩⟩
  refine RC.sn (RC.region (mv (vi ay) (mv bm (RL.bF 0 bl j nk (RL.fY ay (bl.length:Int) (aQ (vi (IntKind.wrap .i64 (ay+ (bl.length:Int)))) (RL.nil (bQ ?_))))))))
  refine aH (RC.region (RL.inc hk hm (mv (vi ((bk+1:Nat):Int)) (RL.nil ?_))))
  obtain rfl:=oi o
  exact⟨rfl,j.sp 4 [2,3]⟩
 ·intro r U w e hK
  subst e
  refine bS ?_
  obtain rfl:=oi o
  exact hK
 rintro ay _ w rfl ⟨O,rfl,j⟩
 rw [Fo.dB] at o
 refine aH (RC.seq (RC.sr (RL.aY zr Ch (RL.bB 0 j zr r8 tW fun b1 j=>?_))))
 obtain⟨ba,b2,o⟩:=bd o
 refine RL.call zt zr KO [b1] zr (aD (pr N (i0:=0) j zr b2) ?_)
 rintro _ w ⟨rfl,j⟩
 refine aQ (vi ba) (RL.ns (mv (vi ba) (ic ba 0 (RL.nt (dQ o (fun hc o=>?_) fun hc o=>?_)))))
 ·refine RC.sr (mv (vi ba) (aQ (.pointer none) (aQ (vi ba) (RL.nt (RC.rt ?_)))))
  obtain rfl:=oi o
  exact wQ ⟨rfl,j.drop 3⟩
 refine RC.ss (RC.sr (mv (vi ay) (ic ay 2000 (RL.nt (dQ o (fun hc o=>?_) fun hc o=>?_)))))
 ·refine RC.sr (aQ (.pointer none) (aQ (vi 2) (RL.nt (RC.rt ?_))))
  obtain rfl:=oi o
  exact wQ ⟨rfl,j.drop 3⟩
 refine RC.ss (RC.sr (RL.bB (f:=(fun x=>x)) 1 j zr Fd.self vz fun b3 j=>?_))
 obtain⟨bb,b4,o⟩:=bd o
 refine RL.call zt zr Mj [b3] zr (aD (uF N (i0:=0) j zr b4) ?_)
 rintro _ w ⟨rfl,j⟩
 refine aQ (vi bb) (RL.ns (mv (vi bb) (ic bb 0 (RL.nt (dQ o (fun hc o=>?_) fun hc o=>?_)))))
 ·refine RC.sr (mv (vi bb) (aQ (.pointer none) (aQ (vi bb) (RL.nt (RC.rt ?_)))))
  obtain rfl:=oi o
  exact wQ ⟨rfl,j.drop 4⟩
 refine RC.ss (RC.sr (RL.bB (f:=(fun x=>x)) 2 j zr Fd.self vz fun b5 j=>?_))
 obtain⟨bc,b6,o⟩:=bd o
 refine RL.call zt zr Mq [b5] zr (aD (uI N (i0:=0) j zr b6) ?_)
 rintro _ w ⟨rfl,j⟩
 refine aQ (vi bc) (RL.ns (mv (vi bc) (ic bc 0 (RL.nt (dQ o (fun hc o=>?_) fun hc o=>?_)))))
 ·refine RC.sr (mv (vi bc) (aQ (.pointer none) (aQ (vi bc) (RL.nt (RC.rt ?_)))))
  obtain rfl:=oi o
  exact wQ ⟨rfl,j.drop 5⟩
 refine RC.ss (RC.sr (RL.aY zr ik (RL.bB 3 j zr gK nQ fun av j=>(RL.bF 0 p0.aO j wj (mv (vi 0) (RL.nt ?_))))))
 obtain⟨c7,hN,o⟩:=bd o
 refine RC.range (fun(ax:Nat) (bn:Unit)=>SH E V [(1,vp ao 0),(63,av),(64,vi p0.aO.length),(65,vi ax)] [bx 27 ao p0,rd av p0.aO]) (fun(bn:Unit)=>SH E V [(1,vp ao 0)] [bx 27 ao p0,rd av p0.aO]) (rQ E V) hN ?_ ?_ ?_ ?_ ?_
 ·exact j.sp 6 [4,0]
 ·rintro hm bn _ w ⟨O,rfl,j⟩
  refine RC.sr (ic ((p0.aO.length:Int)) ((p0.aO.length:Int)) (RL.nq (RC.gk ue (RC.ex ?_))))
  exact⟨rfl,j.sp 2 [0,1]⟩
 ·rintro hm ax bn fl _ w hk ⟨O,rfl,j⟩ o
  refine RC.sr (ic ((ax:Int)) ((p0.aO.length:Int)) (RL.nq (RC.gj (ud hk) (RC.ss (RC.bs (mv (vi ax) ?_))))))
  obtain⟨ad,b7,o⟩:=bd o
  refine RL.bP 1 j qD b7 fun c8 j=>(RL.bJ 0 ad j ma fun c9 j=>(RL.alloc j EE.z fun an w j=>?_))
  refine aQ (vi ax) (RL.cC 0 j 1 zr ma fun w j=>?_)
  refine RL.ns (RL.aY zr ik (RL.bB 3 j zr gK nQ fun da j=>(mv (vi ax) ?_)))
  obtain⟨aw,b8,o⟩:=bd o
  refine RL.cut (hl:= .inr ⟨rfl,zr⟩) 0 j qD (.inl zr) b8 fun a2 j=>(RL.bF 0 aw j wj (mv (vi 0) (RL.nt ?_)))
  obtain⟨db,hN,o⟩:=bd o
  refine RC.range (fun(a5:Nat) (bo:Unit)=>SH E V [(1,vp ao 0),(12,vp an 0),(63,av),(64,vi p0.aO.length),(65,vi ax),(73,a2),(74,vi aw.length),(75,vi a5)] [bx 27 ao p0,bx 60 an ad,rd av p0.aO,rd a2 aw]) (fun(bo:Unit)=>SH E V [(1,vp ao 0),(63,av),(64,vi p0.aO.length),(65,vi ax)] [bx 27 ao p0,bx 60 an ad,rd av p0.aO,rd a2 aw]) (rQ E V) hN ?_ ?_ ?_ ?_ ?_
  ·exact j.sp 7 [5,2,6,0]
  ·rintro hm bo _ w ⟨O,rfl,j⟩
   refine RC.sr (ic ((aw.length:Int)) ((aw.length:Int)) (RL.nq (RC.gk ue (RC.ex ?_))))
   exact⟨rfl,j.sp 4 [0,1,2,3]⟩
  ·rintro hm a5 bo fl _ w hk ⟨O,rfl,j⟩ o
   refine RC.sr (ic ((a5:Int)) ((aw.length:Int)) (RL.nq (RC.gj (ud hk) (RC.ss (RC.bs ?_)))))
   obtain⟨ab,b9,o⟩:=bd o
   refine RL.bP 3 j qD b9 fun bu j=>(RL.bJ 0 ab j ma fun bw j=>(RL.alloc j EE.z fun au w j=>?_))
   refine RL.cC 0 j 1 zr ma fun w j=>?_
   refine RL.nq ?_
   obtain⟨bq,hj,o⟩:=bd o
   refine RC.jn (fun(bq:Bool)=>SH E V [(1,vp ao 0),(12,vp an 0),(63,av),(64,vi p0.aO.length),(65,vi ax),(73,a2),(74,vi aw.length),(75,vi a5),(98,vb bq)] [bx 27 ao p0,bx 60 an ad,rd av p0.aO,rd a2 aw]) bq ?_ ?_
   ·refine eZ hj (fun ar hj=>?_) fun ar hj=>?_
    rotate_left
    ·refine RC.F2 E V mixed [1,0,1,0,1,1,0,0,0,0,0,0,1,1,1,1,1,1,1,1] [] (fun(x:Unit)=>[(0,79,(vp an 3)),(1,80,(vi ad.cO)),(2,81,(vp au 4)),(3,82,(vi ab.To)),(4,83,(vb (decide (ad.cO<=ab.To)))),(5,84,(vb (decide (ad.cO<=ab.To)))),(6,85,(cv (true&&((decide (ad.cO<=ab.To))==true)) (vp au 3))),(7,86,(cv (true&&((decide (ad.cO<=ab.To))==true)) (vi ab.cO))),(8,87,(cv (true&&((decide (ad.cO<=ab.To))==true)) (vp an 4))),(9,88,(cv (true&&((decide (ad.cO<=ab.To))==true)) (vi ad.To))),(10,89,(cv (true&&((decide (ad.cO<=ab.To))==true)) (vb (decide (ab.cO<=ad.To))))),(11,90,(vb ((decide (ad.cO<=ab.To))&&(decide (ab.cO<=ad.To))))),(12,91,(vb ((decide (ad.cO<=ab.To))&&(decide (ab.cO<=ad.To))))),(13,92,undef),(14,93,undef),(15,94,undef),(16,95,undef),(17,96,undef),(18,97,undef),(19,98,(vb false))]) [(1,vp ao 0),(12,vp an 0),(14,vp au 0),(63,av),(64,vi p0.aO.length),(65,vi ax),(73,a2),(74,vi aw.length),(75,vi a5)] [] (fun(D:Nat->Bool) (x:Unit)=>[bx 60 au ab,rd bw ab,pt bu ab,bx 27 ao p0,bx 60 an ad,rd av p0.aO,rd a2 aw]) (fun x=>by kernel_rfl) ?_ ⟨fun _=>nN gn pL,?_,fun _=>nN gn rK,?_,fun _=>JQ gn rfl,fun _=>jG gn,?_,?_,?_,?_,?_,?_,fun _=>jG gn,fun _=>r6 ar,fun _=>r6 ar,fun _=>r6 ar,fun _=>r6 ar,fun _=>r6 ar,fun _=>r6 ar,fun _=>KC gn ar rfl,trivial⟩ ?_
     ·have j:=j.drew
      exact⟨(),gH.none,(EC zr),zt,j⟩
     ·rintro D U w hD af al ⟨_,hv,ha,_,j⟩
      obtain⟨O,rfl⟩:=(ac (hv.at 0 rfl (af.1 rfl)) az).fI
      refine RL.aM 4 j zr kA cI ?_
      exact RL.nil ⟨rfl,(),hv.put 1 zr zr,ha.up zr,zt,j⟩
     ·rintro D U w hD af al ⟨_,hv,ha,_,j⟩
      obtain⟨O,rfl⟩:=(ac (hv.at 2 rfl (af.1 rfl)) az).fI
      refine RL.aM 0 j zr l4 cI ?_
      exact RL.nil ⟨rfl,(),hv.put 3 zr zr,ha.up zr,zt,j⟩
     ·rintro D U w hD af al ⟨_,hv,ha,_,j⟩
      obtain⟨O,rfl⟩:=(ac (hv.at 5 rfl (af.1 rfl)) (ac (ha.at 2 rfl) az)).fI
      refine RL.gs true (decide (ad.cO<=ab.To)) (vp au 3) zr zr zr (eA pL) ?_
      exact RL.nil ⟨rfl,(),hv.put 6 zr zr,ha.up zr,zt,j⟩
     ·rintro D U w hD af al ⟨_,hv,ha,_,j⟩
      obtain⟨O,rfl⟩:=(ac (hv.at 5 rfl (af.2.1 rfl)) (ac (hv.at 6 rfl (af.1 rfl)) az)).fI
      refine RL.gs true (decide (ad.cO<=ab.To)) (vi ab.cO) rfl rfl rfl (cB 0 rfl j (fun h=>by exact(cM h:cv (true&&((decide (ad.cO<=ab.To))==true)) (vp au 3)= (vp au 3))) rfl kA cI) ?_
      exact RL.nil ⟨rfl,(),hv.put 7 zr zr,ha.up zr,zt,j⟩
     ·rintro D U w hD af al ⟨_,hv,ha,_,j⟩
      obtain⟨O,rfl⟩:=(ac (hv.at 5 rfl (af.1 rfl)) (ac (ha.at 1 rfl) az)).fI
      refine RL.gs true (decide (ad.cO<=ab.To)) (vp an 4) zr zr zr (eA rK) ?_
      exact RL.nil ⟨rfl,(),hv.put 8 zr zr,ha.up zr,zt,j⟩
     ·rintro D U w hD af al ⟨_,hv,ha,_,j⟩
      obtain⟨O,rfl⟩:=(ac (hv.at 5 rfl (af.2.1 rfl)) (ac (hv.at 8 rfl (af.1 rfl)) az)).fI
      refine RL.gs true (decide (ad.cO<=ab.To)) (vi ad.To) rfl rfl rfl (cB 4 rfl j (fun h=>by exact(cM h:cv (true&&((decide (ad.cO<=ab.To))==true)) (vp an 4)= (vp an 4))) rfl l4 cI) ?_
      exact RL.nil ⟨rfl,(),hv.put 9 zr zr,ha.up zr,zt,j⟩
     ·rintro D U w hD af al ⟨_,hv,ha,_,j⟩
      obtain⟨O,rfl⟩:=(ac (hv.at 5 rfl (af.2.2.1 rfl)) (ac (hv.at 7 rfl (af.1 rfl)) (ac (hv.at 9 rfl (af.2.1 rfl)) az))).fI
      refine RL.gs true (decide (ad.cO<=ab.To)) (vb (decide (ab.cO<=ad.To))) rfl rfl rfl (dK .leq .i64 ab.cO ad.To rfl (fun h=>by exact(cM h:cv (true&&((decide (ad.cO<=ab.To))==true)) (vi ab.cO)= (vi ab.cO))) (fun h=>by exact(cM h:cv (true&&((decide (ad.cO<=ab.To))==true)) (vi ad.To)= (vi ad.To))) rfl) ?_
      exact RL.nil ⟨rfl,(),hv.put 10 zr zr,ha.up zr,zt,j⟩
     ·rintro D U w hD af al ⟨_,hv,ha,_,j⟩
      obtain⟨O,rfl⟩:=(ac (hv.at 5 rfl (af.1 rfl)) (ac (hv.at 10 rfl (af.2.1 rfl)) az)).fI
      refine RL.pick (decide (ad.cO<=ab.To)) (vb ((decide (ad.cO<=ab.To))&&(decide (ab.cO<=ad.To)))) (gD true zr) ?_
      exact RL.nil ⟨rfl,(),hv.put 11 zr zr,ha.up zr,zt,j⟩
     rintro D U w a6 ⟨_,hv,ha,_,j⟩
     obtain⟨O,rfl⟩:=(ac (hv.at 19 rfl (a6 19 (by decide))) (ac (ha.at 0 rfl) (ac (ha.at 1 rfl) (ac (ha.at 2 rfl) (ac (ha.at 3 rfl) (ac (ha.at 4 rfl) (ac (ha.at 5 rfl) (ac (ha.at 6 rfl) (ac (ha.at 7 rfl) (ac (ha.at 8 rfl) az)))))))))).fI
     obtain rfl:=oi hj
     exact⟨rfl,j.sp 7 [3,4,5,6]⟩
    obtain⟨ca,cb,hj⟩:=bd hj
    obtain⟨cc,cd,hj⟩:=bd hj
    obtain⟨br,cf,hj⟩:=bd hj
    refine RC.F2 E V mixed [1,0,1,0,1,1,0,0,0,0,0,0,1,0,0,0,0,0,1,1] [13,14,15,16] (fun(x:Value×Value×Value×Value)=>(fun ag ah ai aj=>[(0,79,(vp an 3)),(1,80,(vi ad.cO)),(2,81,(vp au 4)),(3,82,(vi ab.To)),(4,83,(vb (decide (ad.cO<=ab.To)))),(5,84,(vb (decide (ad.cO<=ab.To)))),(6,85,(cv (true&&((decide (ad.cO<=ab.To))==true)) (vp au 3))),(7,86,(cv (true&&((decide (ad.cO<=ab.To))==true)) (vi ab.cO))),(8,87,(cv (true&&((decide (ad.cO<=ab.To))==true)) (vp an 4))),(9,88,(cv (true&&((decide (ad.cO<=ab.To))==true)) (vi ad.To))),(10,89,(cv (true&&((decide (ad.cO<=ab.To))==true)) (vb (decide (ab.cO<=ad.To))))),(11,90,(vb ((decide (ad.cO<=ab.To))&&(decide (ab.cO<=ad.To))))),(12,91,(vb ((decide (ad.cO<=ab.To))&&(decide (ab.cO<=ad.To))))),(13,92,ag),(14,93,ah),(15,94,ai),(16,95,aj),(17,96,(vi br)),(18,97,(vb (br==0))),(19,98,(vb (br==0)))]) x.1 x.2.1 x.2.2.1 x.2.2.2) [(1,vp ao 0),(12,vp an 0),(14,vp au 0),(63,av),(64,vi p0.aO.length),(65,vi ax),(73,a2),(74,vi aw.length),(75,vi a5)] [] (fun(D:Nat->Bool) (x:Value×Value×Value×Value)=>(fun ag ah ai aj=>[bif D 0 then (rd ag ad) else bD,bif D 1 then (rd ah ca) else bD,bif D 2 then (rd ai ab) else bD,bif D 3 then (rd aj cc) else bD,bx 60 au ab,rd bw ab,pt bu ab,bx 27 ao p0,bx 60 an ad,rd av p0.aO,rd a2 aw]) x.1 x.2.1 x.2.2.1 x.2.2.2) (fun x=>by kernel_rfl) ?_ ⟨fun _=>nN gn pL,?_,fun _=>nN gn rK,?_,fun _=>JQ gn rfl,fun _=>jG gn,?_,?_,?_,?_,?_,?_,fun _=>jG gn,?_,?_,?_,?_,?_,fun _=>JQ (gy ar) rfl,fun _=>KB gn ar rfl,trivial⟩ ?_
    ·have j:=((((j.drew).bD).bD).bD).bD
     exact⟨(undef,undef,undef,undef),gH.none,(EC zr),zt,j⟩
    ·rintro D U w hD af al ⟨⟨ag,ah,ai,aj⟩,hv,ha,_,j⟩
     obtain⟨O,rfl⟩:=(ac (hv.at 0 rfl (af.1 rfl)) az).fI
     refine RL.aM 8 j zr kA cI ?_
     exact RL.nil ⟨rfl,(ag,ah,ai,aj),hv.put 1 zr zr,ha.up zr,zt,j⟩
    ·rintro D U w hD af al ⟨⟨ag,ah,ai,aj⟩,hv,ha,_,j⟩
     obtain⟨O,rfl⟩:=(ac (hv.at 2 rfl (af.1 rfl)) az).fI
     refine RL.aM 4 j zr l4 cI ?_
     exact RL.nil ⟨rfl,(ag,ah,ai,aj),hv.put 3 zr zr,ha.up zr,zt,j⟩
    ·rintro D U w hD af al ⟨⟨ag,ah,ai,aj⟩,hv,ha,_,j⟩
     obtain⟨O,rfl⟩:=(ac (hv.at 5 rfl (af.1 rfl)) (ac (ha.at 2 rfl) az)).fI
     refine RL.gs true (decide (ad.cO<=ab.To)) (vp au 3) zr zr zr (eA pL) ?_
     exact RL.nil ⟨rfl,(ag,ah,ai,aj),hv.put 6 zr zr,ha.up zr,zt,j⟩
    ·rintro D U w hD af al ⟨⟨ag,ah,ai,aj⟩,hv,ha,_,j⟩
     obtain⟨O,rfl⟩:=(ac (hv.at 5 rfl (af.2.1 rfl)) (ac (hv.at 6 rfl (af.1 rfl)) az)).fI
     refine RL.gs true (decide (ad.cO<=ab.To)) (vi ab.cO) rfl rfl rfl (cB 4 rfl j (fun h=>by exact(cM h:cv (true&&((decide (ad.cO<=ab.To))==true)) (vp au 3)= (vp au 3))) rfl kA cI) ?_
     exact RL.nil ⟨rfl,(ag,ah,ai,aj),hv.put 7 zr zr,ha.up zr,zt,j⟩
    ·rintro D U w hD af al ⟨⟨ag,ah,ai,aj⟩,hv,ha,_,j⟩
     obtain⟨O,rfl⟩:=(ac (hv.at 5 rfl (af.1 rfl)) (ac (ha.at 1 rfl) az)).fI
     refine RL.gs true (decide (ad.cO<=ab.To)) (vp an 4) zr zr zr (eA rK) ?_
     exact RL.nil ⟨rfl,(ag,ah,ai,aj),hv.put 8 zr zr,ha.up zr,zt,j⟩
    ·rintro D U w hD af al ⟨⟨ag,ah,ai,aj⟩,hv,ha,_,j⟩
     obtain⟨O,rfl⟩:=(ac (hv.at 5 rfl (af.2.1 rfl)) (ac (hv.at 8 rfl (af.1 rfl)) az)).fI
     refine RL.gs true (decide (ad.cO<=ab.To)) (vi ad.To) rfl rfl rfl (cB 8 rfl j (fun h=>by exact(cM h:cv (true&&((decide (ad.cO<=ab.To))==true)) (vp an 4)= (vp an 4))) rfl l4 cI) ?_
     exact RL.nil ⟨rfl,(ag,ah,ai,aj),hv.put 9 zr zr,ha.up zr,zt,j⟩
    ·rintro D U w hD af al ⟨⟨ag,ah,ai,aj⟩,hv,ha,_,j⟩
     obtain⟨O,rfl⟩:=(ac (hv.at 5 rfl (af.2.2.1 rfl)) (ac (hv.at 7 rfl (af.1 rfl)) (ac (hv.at 9 rfl (af.2.1 rfl)) az))).fI
     refine RL.gs true (decide (ad.cO<=ab.To)) (vb (decide (ab.cO<=ad.To))) rfl rfl rfl (dK .leq .i64 ab.cO ad.To rfl (fun h=>by exact(cM h:cv (true&&((decide (ad.cO<=ab.To))==true)) (vi ab.cO)= (vi ab.cO))) (fun h=>by exact(cM h:cv (true&&((decide (ad.cO<=ab.To))==true)) (vi ad.To)= (vi ad.To))) rfl) ?_
     exact RL.nil ⟨rfl,(ag,ah,ai,aj),hv.put 10 zr zr,ha.up zr,zt,j⟩
    ·rintro D U w hD af al ⟨⟨ag,ah,ai,aj⟩,hv,ha,_,j⟩
     obtain⟨O,rfl⟩:=(ac (hv.at 5 rfl (af.1 rfl)) (ac (hv.at 10 rfl (af.2.1 rfl)) az)).fI
     refine RL.pick (decide (ad.cO<=ab.To)) (vb ((decide (ad.cO<=ab.To))&&(decide (ab.cO<=ad.To)))) (gD true zr) ?_
     exact RL.nil ⟨rfl,(ag,ah,ai,aj),hv.put 11 zr zr,ha.up zr,zt,j⟩
    ·rintro D U w hD af al ⟨⟨ag,ah,ai,aj⟩,hv,ha,_,j⟩
     obtain⟨O,rfl⟩:=(ac (hv.at 12 rfl (af.1 rfl)) (ac (ha.at 1 rfl) az)).fI
     have j:=j.cD 0 hD
     refine RL.bB (hg:=(cg ar)) (f:=(fun x=>x)) 8 j zr Fd.self ma fun ch j=>?_
     have j:=(j.pl 12 [0,2,3,4,5,6,7,8,9,10,11]).cQ 0 true rfl bD
     exact RL.nil ⟨rfl,(ch,ah,ai,aj),hv.put 13 zr zr,ha.up zr,zt,j⟩
    ·rintro D U w hD af al ⟨⟨ag,ah,ai,aj⟩,hv,ha,_,j⟩
     obtain⟨O,rfl⟩:=(ac (hv.at 12 rfl (af.2.1 rfl)) (ac (hv.at 13 rfl (af.1 rfl)) az)).fI
     have j:=(j.cP 0 (af.1 rfl)).cD 1 hD
     refine RL.call (cg ar) zr F6 [ag] zr (aD (jl N (i0:=0) j zr cb) ?_)
     rintro cj w j
     have j:=((j.pl 12 [1,0,3,4,5,6,7,8,9,10,11]).cQ 0 (D 13) (af.1 rfl) bD).cQ 1 true rfl bD
     exact RL.nil ⟨rfl,(ag,cj,ai,aj),hv.put 14 zr zr,ha.up zr,zt,j⟩
    ·rintro D U w hD af al ⟨⟨ag,ah,ai,aj⟩,hv,ha,_,j⟩
     obtain⟨O,rfl⟩:=(ac (hv.at 12 rfl (af.1 rfl)) (ac (ha.at 2 rfl) az)).fI
     have j:=j.cD 2 hD
     refine RL.bB (hg:=(cg ar)) (f:=(fun x=>x)) 4 j zr Fd.self ma fun ck j=>?_
     have j:=(j.pl 12 [1,2,0,4,5,6,7,8,9,10,11]).cQ 2 true rfl bD
     exact RL.nil ⟨rfl,(ag,ah,ck,aj),hv.put 15 zr zr,ha.up zr,zt,j⟩
    ·rintro D U w hD af al ⟨⟨ag,ah,ai,aj⟩,hv,ha,_,j⟩
     obtain⟨O,rfl⟩:=(ac (hv.at 12 rfl (af.2.2.1 rfl)) (ac (hv.at 15 rfl (af.1 rfl)) az)).fI
     have j:=(j.cP 2 (af.1 rfl)).cD 3 hD
     refine RL.call (cg ar) zr F6 [ai] zr (aD (jl N (i0:=2) j zr cd) ?_)
     rintro cl w j
     have j:=((j.pl 12 [1,2,3,0,5,6,7,8,9,10,11]).cQ 2 (D 15) (af.1 rfl) bD).cQ 3 true rfl bD
     exact RL.nil ⟨rfl,(ag,ah,ai,cl),hv.put 16 zr zr,ha.up zr,zt,j⟩
    ·rintro D U w hD af al ⟨⟨ag,ah,ai,aj⟩,hv,ha,_,j⟩
     obtain⟨O,rfl⟩:=(ac (hv.at 12 rfl (af.2.2.2.1 rfl)) (ac (hv.at 14 rfl (af.1 rfl)) (ac (hv.at 16 rfl (af.2.1 rfl)) az))).fI
     have j:=(j.cP 1 (af.1 rfl)).cP 3 (af.2.1 rfl)
     refine RL.call (cg ar) zr Mr [ah,aj] zr (aD (Cm N (i0:=1) (i1:=3) j zr zr cf) ?_)
     rintro _ w ⟨rfl,j⟩
     have j:=(j.cQ 1 (D 14) (af.1 rfl) bD).cQ 3 (D 16) (af.2.1 rfl) bD
     exact RL.nil ⟨rfl,(ag,ah,ai,aj),hv.put 17 zr zr,ha.up zr,zt,j⟩
    rintro D U w a6 ⟨⟨ag,ah,ai,aj⟩,hv,ha,_,j⟩
    have j:=j.cP 0 (a6 13 (by decide))
    have j:=j.cP 1 (a6 14 (by decide))
    have j:=j.cP 2 (a6 15 (by decide))
    have j:=j.cP 3 (a6 16 (by decide))
    obtain⟨O,rfl⟩:=(ac (hv.at 19 rfl (a6 19 (by decide))) (ac (ha.at 0 rfl) (ac (ha.at 1 rfl) (ac (ha.at 2 rfl) (ac (ha.at 3 rfl) (ac (ha.at 4 rfl) (ac (ha.at 5 rfl) (ac (ha.at 6 rfl) (ac (ha.at 7 rfl) (ac (ha.at 8 rfl) az)))))))))).fI
    obtain rfl:=oi hj
    exact⟨rfl,j.sp 11 [7,8,9,10]⟩
   rintro _ w ⟨O,rfl,j⟩
   refine aH (dQ o (fun hc o=>?_) fun hc o=>?_)
   rotate_left
   ·refine RC.skip (bQ (aH (RC.region (RL.inc hk hm (mv (vi ((a5+1:Nat):Int)) (RL.nil ?_))))))
    obtain rfl:=oi o
    exact⟨rfl,j.sp 4 [0,1,2,3]⟩
   refine RC.sr (aQ (.pointer none) (aQ (vi 12) (RL.nt (RC.rb (bS ?_)))))
   obtain rfl:=oi o
   exact⟨rfl,wQ ⟨rfl,j.drop 4⟩⟩
  ·intro r U w e hK
   subst e
   refine oA (bS ?_)
   obtain rfl:=oi o
   exact⟨rfl,hK⟩
  rintro bo _ w rfl ⟨O,rfl,j⟩
  rw [Fo.dB] at o
  refine bQ (aH (RC.region (RL.inc hk hm (mv (vi ((ax+1:Nat):Int)) (RL.nil ?_)))))
  obtain rfl:=oi o
  exact⟨rfl,j.sp 4 [0,2]⟩
 ·intro r U w e hK
  subst e
  refine bS ?_
  obtain rfl:=oi o
  exact hK
 rintro bn _ w rfl ⟨O,rfl,j⟩
 rw [Fo.dB] at o
 refine aH (RC.sr (RL.bB (f:=(fun x=>x)) 0 j zr Fd.self vz fun cm j=>?_))
 obtain⟨cs,hcs,hv224,j⟩:=j.Fh (i:=0) rfl rfl
 obtain⟨bf,bg,bh,bj,rfl⟩:=Kt hcs
 have j:=(((j.nY (i:=0) (k:=0) (f:=fun x=>x.aJ) rfl i9 rfl rfl rfl).nY (i:=1) (k:=1) (f:=fun x=>x.cG) rfl r8 rfl rfl rfl).nY (i:=2) (k:=2) (f:=fun x=>x.aO) rfl gK rfl rfl rfl).nY (i:=3) (k:=3) (f:=fun x=>x.bM) rfl kK rfl rfl rfl
 refine RL.G8 (zs:=[(.slice none 0 0),(.slice none 0 0),(.slice none 0 0),(.slice none 0 0),(.slice none 0 0),(.slice none 0 0),(.slice none 0 0),(.slice none 0 0),(.slice none 0 0),(.slice none 0 0),(.slice none 0 0),(.slice none 0 0)]) (cs:=[bf,bg,bh,bj,(.slice none 0 0),(.slice none 0 0),(.slice none 0 0),(.slice none 0 0),(.slice none 0 0),(.slice none 0 0),(.slice none 0 0),(.slice none 0 0)]) zt zr [(0,cm)] [(0,[bf,bg,bh,bj])] zr Ms ⟨rfl,(congrArg Value.cells hv224),zt⟩ zr (RL.B9 [bf,bg,bh,bj,(.slice none 0 0),(.slice none 0 0),(.slice none 0 0),(.slice none 0 0),(.slice none 0 0),(.slice none 0 0),(.slice none 0 0),(.slice none 0 0)] zr j zr (wY.all (⟨(nH 3 j),(nH 2 j),(nH 1 j),(nH 0 j),zr,zr,zr,zr,zr,zr,zr,zr,zt⟩:wY [bf,bg,bh,bj,(.slice none 0 0),(.slice none 0 0),(.slice none 0 0),(.slice none 0 0),(.slice none 0 0),(.slice none 0 0),(.slice none 0 0),(.slice none 0 0)])) fun a1 w j=>?_)
 refine aQ (vp a1 0) (RL.nq (RC.sr (mv (vp a1 0) ?_)))
 have j:=((((((j.cW (List aA) 85).cW aK 95).pull 0).pull 2).dup 6 rfl).dup 9 rfl).pull 6
 obtain⟨cn,cp,o⟩:=bd o
 refine RL.call zt zr MA [(vp a1 0)] zr (aD (tZ N j cp) ?_)
 rintro _ w ⟨cq,cr,rfl,j⟩
 refine RL.not cn.1 (RL.nt (dQ o (fun hc o=>?_) fun hc o=>?_))
 ·refine RC.sr (aQ (.pointer none) (aQ (vi 2) (RL.nt (RC.rt ?_))))
  obtain rfl:=oi o
  exact wQ ⟨rfl,j.drop 14⟩
 refine RC.sx (mv (vp a1 0) ?_)
 have j:=(((((j.freeze 2).cW (List Int) 43).pull 0).dup 4 rfl).dup 10 rfl).pull 4
 obtain⟨dc,ct,o⟩:=bd o
 refine RL.call zt zr MD [(vp a1 0)] zr (aD (t3 N j ct) ?_)
 rintro _ w ⟨cu,rfl,j⟩
 refine RL.ns (mv (vp a1 0) ?_)
 have j:=((((((((((((j.freeze 1).cW Int 3).cW Int 3).cW Int 3).cW j8 78).pull 0).pull 2).pull 4).pull 6).dup 9 rfl).dup 14 rfl).dup 19 rfl).dup 21 rfl
 have j:=j.pull 12
 obtain⟨dd,cw,o⟩:=bd o
 refine RL.call zt zr ML [(vp a1 0)] zr (aD (pA N j cw) ?_)
 rintro _ w ⟨cx,cy,cz,c0,c1,rfl,j⟩
 refine RL.ns (mv (vp a1 0) (aQ (vp a1 0) (aQ (vi 0) (RL.nt (RC.ret ?_)))))
 obtain rfl:=oi o
 exact wQ ⟨a1,bf,bg,bh,bj,cq,cr,cu,cx,cy,cz,c0,c1,zr,j.pk 27 [0,22,21,20,19,14,15,11,1,2,3,4,5]⟩
def nT (E:World) (V:List HP) (res:Int×Bool) (v:Value) (w:World):Prop:=v = .tuple #[(vi res.1),(vb res.2)]/\Holds E w V
theorem nA {p0: (List eM)} {p1:dV} {p2:eM->dV->Option Int} {res:Int×Bool} (o:Holds E w V) (h0:V[i0]? =some (rd v0 p0)) (h1:V[i1]? =some (rd v1 p1)) (h2:JJ bN E V v2 p2 (fun(r:Int)=>Value.int .i64 r)) (hb:f0 N p0 p1 p2=some res):
    Calls bN 22 [v0,v1,v2].toArray w (gL (nT E V res)):=by
 unfold f0 at hb
 refine enter Tryz.func22 zr zr ?_
 have o:=(o.dup (i0+0) h0).dup (i1+1) h1
 refine RC.sr (RL.cS 0 v1 o zr fun ae w o=>?_)
 refine aQ (vi 0) (aQ (vb false) (RL.ns (mv v0 (RL.bF 2 p0 o Dp (aQ (vi p0.length) (RL.ns (mv (vi p0.length) (aQ (vi 0) ?_))))))))
 refine aQ (vi p0.length) (RL.nq ?_)
 obtain⟨av,hN,hb⟩:=bd hb
 refine RC.iter (fun(j:Int×Int)=>SH E V [(0,v0),(2,v2),(4,vp ae 0),(8,vi p0.length),(9,vi j.1),(10,vi j.2)] [rd v0 p0,bx 29 ae p1]) (fun(j:Int×Int)=>SH E V [(0,v0),(2,v2),(4,vp ae 0),(8,vi p0.length),(9,vi j.1)] [rd v0 p0,bx 29 ae p1]) (fun(r:Empty) _ _=>r.elim) hN ?_ ?_ ?_ ?_
 ·exact o.sp 3 [2,0]
 ·rintro j fl _ w ⟨O,rfl,o⟩ hb
  refine RC.seq (RC.sr (mv (vi j.1) (mv (vi j.2) (ic j.1 j.2 (RL.nt (dQ hb (fun hc hb=>?_) fun hc hb=>?_))))))
  rotate_left
  ·refine RC.ex ?_
   obtain rfl:=oi hb
   exact⟨rfl,o.sp 2 [0,1]⟩
  refine RC.sn (RC.bs (mv (vi j.1) (mv (vi j.2) (RL.fY j.1 j.2 (RL.conv (IntKind.wrap .i64 (j.1+j.2)) zt zr zr ⟨_,IA⟩ Jj (RL.bin (v:=(.int .u64 (IntKind.wrap .u64 (IntKind.wrap .i64 (j.1+j.2))))) (v':=(.int .u64 1)) (u:=(.int .u64 (Int.fdiv (IntKind.wrap .u64 (IntKind.wrap .i64 (j.1+j.2))) 2))) zt zr zr zr (fun _=>zr) (fun _=>zr) (RL.conv (Int.fdiv (IntKind.wrap .u64 (IntKind.wrap .i64 (j.1+j.2))) 2) zt zr zr ⟨_,Jj⟩ IA (aQ (vi (IntKind.wrap .i64 (Int.fdiv (IntKind.wrap .u64 (IntKind.wrap .i64 (j.1+j.2))) 2))) ?_))))))))
  refine RL.nq (RC.ug mixed [0,0,0,0,0,0,2,0] [0,1,2,3,4,5,6,7] ?_)
  have o:=o.drew
  refine DP.e0 zr (mv v2 (aW zr (mv v0 (aW zr (mv (vi (IntKind.wrap .i64 (Int.fdiv (IntKind.wrap .u64 (IntKind.wrap .i64 (j.1+j.2))) 2))) (aW zr ?_))))))
  obtain⟨ak,al,hb⟩:=bd hb
  refine RL.bP 0 o zY al fun ax o=>(aW zr (RL.bJ 0 ak o rL fun ay o=>(aW zr (RL.bB (f:=(fun x=>x)) 3 o zr Fd.self zW fun az o=>(ou zr ?_)))))
  obtain⟨an,ao,hb⟩:=bd hb
  refine RL.Ep 1 0 zt zr o zr h2 5 zr zr zr zr zr ao fun w o=>(qz zr (ic an 0 (DP.d0 (DP.z (aH ?_)))))
  obtain⟨af,hj,hb⟩:=bd hb
  refine RC.jn (fun(af:Int×Int)=>SH E V [(0,v0),(2,v2),(4,vp ae 0),(8,vi p0.length),(9,vi af.1),(10,vi af.2)] [rd v0 p0,bx 29 ae p1]) af ?_ ?_
  ·refine dQ hj (fun hc hj=>?_) fun hc hj=>?_
   rotate_left
   ·refine RC.region (mv (vi (IntKind.wrap .i64 (Int.fdiv (IntKind.wrap .u64 (IntKind.wrap .i64 (j.1+j.2))) 2))) (aQ (vi (IntKind.wrap .i64 (Int.fdiv (IntKind.wrap .u64 (IntKind.wrap .i64 (j.1+j.2))) 2))) (RL.nil ?_)))
    obtain rfl:=oi hj
    exact⟨rfl,o.sp 5 [3,4]⟩
   refine RC.region (mv (vi (IntKind.wrap .i64 (Int.fdiv (IntKind.wrap .u64 (IntKind.wrap .i64 (j.1+j.2))) 2))) (RL.fY (IntKind.wrap .i64 (Int.fdiv (IntKind.wrap .u64 (IntKind.wrap .i64 (j.1+j.2))) 2)) 1 (aQ (vi (IntKind.wrap .i64 ((IntKind.wrap .i64 (Int.fdiv (IntKind.wrap .u64 (IntKind.wrap .i64 (j.1+j.2))) 2))+1))) (RL.nil ?_))))
   obtain rfl:=oi hj
   exact⟨rfl,o.sp 5 [3,4]⟩
  rintro _ w ⟨O,rfl,o⟩
  refine bQ ?_
  obtain rfl:=oi hb
  exact⟨rfl,o.sp 2 [0,1]⟩
 ·intro r _ _ _ _
  exact r.elim
 rintro j _ w rfl ⟨O,rfl,o⟩
 rw [Fo.dB] at hb
 refine aH (RC.seq ?_)
 obtain⟨ah,hj,hb⟩:=bd hb
 refine RC.jn (fun(ah:Bool)=>SH E V [(6,vi j.1),(7,vb ah)] []) ah ?_ ?_
 ·refine RC.ug mixed [1,0,0,0,0,0,0,0,0,0,0,2,0,0,0,0] [0,1,2,3,4,5,6,7,8,9,10,11,12,13,14,15] ?_
  have o:=o.drew
  refine DP.e1 (vi j.1) zr (fun w=>RL.move (vi j.1) zt DP.d1) (DP.e0 zr (mv (vi j.1) (aW zr (mv (vi p0.length) (aW zr (ic j.1 ((p0.length:Int)) (aW zr (mv (vb (decide (j.1< (p0.length:Int)))) ?_))))))))
  refine DP.d0 (eZ hj (fun ab hj=>?_) fun ab hj=>?_)
  rotate_left
  ·refine DP.e0 zr (bC ab (aW zr (bC ab (aW zr (bC ab (aW zr (bC ab (aW zr ?_))))))))
   refine bC ab (aW zr (bC ab (ou zr (bC ab (qz zr (bC ab (aW zr (fq ab (vb false) ?_))))))))
   refine aW zr (aQ (vi j.1) (aW zr (aQ (vb false) (DP.d0 (DP.z ?_)))))
   obtain rfl:=oi hj
   exact⟨rfl,o.sp 2 []⟩
  refine DP.e0 zr (RL.move v2 (cg ab) (aW zr (RL.move v0 (cg ab) (aW zr (RL.move (vi j.1) (cg ab) (aW zr ?_))))))
  obtain⟨aq,ar,hj⟩:=bd hj
  refine RL.bP (hg:=(cg ab)) 0 o zY ar fun a0 o=>(aW zr (RL.bJ (hg:=(cg ab)) 0 aq o rL fun a1 o=>(aW zr (RL.bB (hg:=(cg ab)) (f:=(fun x=>x)) 3 o zr Fd.self zW fun a2 o=>(ou zr ?_)))))
  obtain⟨ai,au,hj⟩:=bd hj
  refine RL.Ep 1 0 (cg ab) zr o zr h2 5 zr zr zr zr zr au fun w o=>(qz zr (RL.kX ai 0 (cg ab) (aW zr (fq ab (vb (ai==0)) (aW zr (aQ (vi j.1) (aW zr (aQ (vb (ai==0)) ?_))))))))
  refine DP.d0 (DP.z ?_)
  obtain rfl:=oi hj
  exact⟨rfl,o.sp 5 []⟩
 rintro _ w ⟨O,rfl,o⟩
 refine aH (RC.ret ?_)
 obtain rfl:=oi hb
 exact wQ ⟨rfl,o.drop 0⟩
theorem vM {p0:eM} {p1:dV} (j:Holds E w V) (h0:V[i0]? =some (rd v0 p0)) (h1:V[i1]? =some (rd v1 p1)) (o:jd N p0 p1=some res):
    Calls bN 23 [v0,v1].toArray w (gL (aU E V res)):=by
 unfold jd at o
 refine enter Tryz.func23 zr zr ?_
 have j:=(j.dup (i0+0) h0).dup (i1+1) h1
 refine RC.sr (RL.cS 1 v0 j zr fun ah w j=>?_)
 have j:=j.jI (i:=0) rfl
 refine RL.cS 1 v1 j zr fun ai w j=>?_
 have j:=j.jI (i:=0) rfl
 refine aQ (vi 0) (RL.nq (RC.ug mixed [0,2,1,2,0] [0,2,1,3,4] ?_))
 have j:=j.drew
 refine DP.e0 zr (RL.bJ 1 p0 j rL fun aa j=>(DP.d0 (DP.wi p1 1 zr zt j zW fun ab a35 aj j=>(DP.e2 zr ?_))))
 obtain⟨ak,ad,o⟩:=bd o
 refine RL.call zt zr IC [aa] zr (aD (nK N (i0:=2) j zr ad) ?_)
 rintro ae w j
 refine DP.d2 (⟨zt,j.gF 1⟩) (DP.e2 zr ?_)
 obtain⟨af,ag,o⟩:=bd o
 refine RL.call zt zr K2 [ae,ab] zr (aD (oK N (i0:=0) (i1:=2) j zr zr ag) ?_)
 rintro _ w ⟨rfl,j⟩
 refine DP.d2 (⟨zt,j.gF 1⟩) (DP.e0 zr (aQ (vi af) (DP.d0 ?_)))
 have j:=j.pl 8 [0,2,3,4,5,6,7]
 refine DP.z (aH (RC.ret ?_))
 obtain rfl:=oi o
 exact bX ⟨rfl,j.drop 7⟩
theorem sA {p0:kT} {p1:dV} (o:Holds E w V) (h0:V[i0]? =some (rd v0 p0)) (h1:V[i1]? =some (rd v1 p1)) (hb:lZ N p0 p1=some res):
    Calls bN 8 [v0,v1].toArray w (gL (aU E V res)):=by
 unfold lZ at hb
 refine enter Tryz.func8 zr zr ?_
 have o:=(o.dup (i0+0) h0).dup (i1+1) h1
 refine RC.sr (RL.cS 1 v0 o zr fun ai w o=>?_)
 refine RL.cS 1 v1 o zr fun aj w o=>?_
 refine aQ (vi 0) (RL.ns (RL.aY zr nR (RL.bB 1 o zr kK wo fun ad o=>(RL.bB (f:=(fun x=>x)) 1 o zr Fd.self zW fun ae o=>?_))))
 obtain⟨aa,af,hb⟩:=bd hb
 refine RL.call trivial rfl MN [ad,ae,(.func (.func 23) #[] #[])] rfl (aD (nA N (i0:=1) (i1:=0) o rfl rfl ⟨23,[],rfl,MM,fun w Γl v v' y0 y1 r i j o hi hj hr=>by exact aD (vM N (i0:=i) (i1:=j) o hi hj hr) fun _ _ h=>h⟩ af) ?_)
 rintro _ w ⟨rfl,o⟩
 refine mv (.tuple #[(vi aa.1),(vb aa.2)]) (RL.extract (vi aa.1) (RL.extract (vb aa.2) (aQ (vi aa.1) (aQ (vb aa.2) (RL.nq (RC.sr (mv (vb aa.2) (RL.not aa.2 ?_))))))))
 refine RL.nt (dQ hb (fun hc hb=>?_) fun hc hb=>?_)
 ·refine RC.sr (aQ (vi (-1)) (RL.nt (RC.rt ?_)))
  obtain rfl:=oi hb
  exact bX ⟨rfl,o.drop 6⟩
 refine RC.sx (mv (vi aa.1) (aQ (vi aa.1) (RL.nt (RC.ret ?_))))
 obtain rfl:=oi hb
 exact bX ⟨rfl,o.drop 6⟩
end Go.Gk
