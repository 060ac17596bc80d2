/-
  Printed texts: Go functions as plain functions, and that they are. No statement of the seed is proved here.
-/
import Derived.Test.YtgehimfkgpbooaaGreatDoorG1
import Derived.Test.YtgehimfkgpbooaaGreatDoorG2
import Derived.Test.YtgehimfkgpbooaaGreatDoorG3
import Derived.Test.YtgehimfkgpbooaaGreatDoorG4
import Derived.Test.YtgehimfkgpbooaaGreatDoorA2
set_option linter.unusedVariables false
set_option linter.unusedSimpArgs false
set_option linter.unusedSectionVars false
set_option maxRecDepth 100000
set_option maxHeartbeats 4000000
namespace Go.Gk
open Go Go.Proofs
variable (N:Nat) {E w:World} {b0 i0:Nat} {p0 p1 p2:Int} {v0 v0_0 v0_1 v0_10 v0_11 v0_2 v0_3 v0_4 v0_5 v0_6 v0_8 v0_9:Value} {Γ:List HP}
def pf (E:World) (Γ:List HP) (b0:Nat) (v0_0 v0_1:Value) (v0_2 v0_3:Value) (v0_4 v0_5 v0_6:Value) (res: (List cO)×(List Int)×(List Int)×(List Int)×(List j9)) (v:Value) (w:World):Prop:=∃u0_7 u0_8 u0_9 u0_10 u0_11:Value,v = .tuple #[]/\Holds E w ([bc 48 b0 [v0_0,v0_1,v0_2,v0_3,v0_4,v0_5,v0_6,u0_7,u0_8,u0_9,u0_10,u0_11],own 97 u0_7 res.1,rd u0_8 res.2.1,rd u0_9 res.2.2.1,own 3 u0_10 res.2.2.2.1,own 99 u0_11 res.2.2.2.2]++Γ)
theorem oX {p0_2: (List cD)} {p0_3: (List fK)} {p0_5: (List aK)} {p0_6: (List (List Int))} {p0_8: (List Int)} {p0_9: (List Int)} {p0_10: (List Int)} {p0_11: (List j9)} {res: (List cO)×(List Int)×(List Int)×(List Int)×(List j9)} (hw:Holds E w (bc 48 b0 [v0_0,v0_1,v0_2,v0_3,v0_4,v0_5,v0_6,(.slice none 0 0),v0_8,v0_9,v0_10,v0_11]::rd v0_2 p0_2::rd v0_3 p0_3::rd v0_5 p0_5::rd v0_6 p0_6::own 3 v0_8 p0_8::own 3 v0_9 p0_9::own 3 v0_10 p0_10::own 99 v0_11 p0_11::Γ)) (hb:f0 N p0_2 p0_3 p0_5 p0_6 p0_8 p0_9 p0_10 p0_11=some res):
    Calls bM 24 [(vp b0 0)].toArray w (gL (pf E Γ b0 v0_0 v0_1 v0_2 v0_3 v0_4 v0_5 v0_6 res)):=by
 unfold f0 at hb
 refine enter Tryz.func24 zr zr (RC.sr (mv (vp b0 0) (RL.nilCheck zr (RL.aX zr t5 (RL.bH 0 v0_5 hw C2 (RL.bC 3 p0_5 hw GG (aQ (vi p0_5.length) (RL.ns ?_))))))))
 refine mv (vi p0_5.length) (mv (vp b0 0) (RL.nilCheck zr (RL.aX zr sL (RL.aX zr gC (RL.bH 0 v0_2 hw mT (RL.bC 1 p0_2 hw t3 (RL.fQ (p0_5.length:Int) (p0_2.length:Int) ?_)))))))
 obtain⟨en,dd,hb⟩:=bd hb
 refine RL.call zt zr LZ [(vi (IntKind.wrap .i64 ((p0_5.length:Int)+ (p0_2.length:Int))))] zr (aD (vh N (p0:=(IntKind.wrap .i64 ((p0_5.length:Int)+ (p0_2.length:Int)))) hw dd) ?_)
 rintro _ w ⟨a0,de,rfl,hw⟩
 refine aQ (vp a0 0) (RL.nq (RC.sr (mv (vp b0 0) (RL.nilCheck zr (RL.aX zr BM (RL.bH 2 v0_6 hw wM (RL.bC 6 p0_6 hw Fw (mv (vi 0) ?_))))))))
 refine RL.nt ?_
 obtain⟨bj,hN,hb⟩:=bd hb
 refine RC.fold (fun(a4:Nat) (bj: (List Int)) σ w=>∃cr:Value,SH E Γ [(0,vp b0 0),(2,vi p0_5.length),(3,vp a0 0),(35,v0_6),(36,vi p0_6.length),(37,vi a4)] [bc 48 b0 [v0_0,v0_1,v0_2,v0_3,v0_4,v0_5,v0_6,(.slice none 0 0),v0_8,v0_9,v0_10,v0_11],rd v0_2 p0_2,rd v0_3 p0_3,rd v0_5 p0_5,rd v0_6 p0_6,own 3 v0_8 p0_8,own 3 v0_9 p0_9,own 3 v0_10 p0_10,own 99 v0_11 p0_11,bc 133 a0 [cr],own 3 cr bj] σ w) (fun(bj: (List Int)) σ w=>∃bt:Value,SH E Γ [(0,vp b0 0),(2,vi p0_5.length),(3,vp a0 0)] [bc 48 b0 [v0_0,v0_1,v0_2,v0_3,v0_4,v0_5,v0_6,(.slice none 0 0),v0_8,v0_9,v0_10,v0_11],rd v0_2 p0_2,rd v0_3 p0_3,rd v0_5 p0_5,rd v0_6 p0_6,own 3 v0_8 p0_8,own 3 v0_9 p0_9,own 3 v0_10 p0_10,own 99 v0_11 p0_11,bc 133 a0 [bt],own 3 bt bj] σ w) hN ?_ ?_ ?_ ?_
 ·exact⟨de,hw.sp 11 [2,3,4,5,6,7,8,9,10,0,1]⟩
 ·rintro hm bj _ w ⟨df,τ,rfl,hw⟩
  refine RC.sr (ic ((p0_6.length:Int)) ((p0_6.length:Int)) (RL.nq (RC.fV tN (RC.ex ?_))))
  exact⟨rfl,df,hw.sp 11 [0,1,2,3,4,5,6,7,8,9,10]⟩
 ·rintro hm a4 bj s' _ w hk ⟨dg,τ,rfl,hw⟩ hb
  refine RC.sr (ic ((a4:Int)) ((p0_6.length:Int)) (RL.nq (RC.fU (tM hk) (RC.ss (RC.bs (mv (vi a4) ?_))))))
  obtain⟨bf,dh,hb⟩:=bd hb
  refine RL.bN 4 hw xH dh fun eo hw=>(RL.bL 0 bf hw fA fun bu hw=>(aQ (vi a4) (aQ bu (RL.ns (mv bu (RL.bC 0 bf hw l4 (mv (vi 0) (RL.nt ?_))))))))
  obtain⟨bm,hN,hb⟩:=bd hb
  refine RC.fold (fun(b1:Nat) (bm: (List Int)) σ w=>∃ct:Value,SH E Γ [(0,vp b0 0),(2,vi p0_5.length),(3,vp a0 0),(4,vi a4),(35,v0_6),(36,vi p0_6.length),(37,vi a4),(42,bu),(43,vi bf.length),(44,vi b1)] [bc 48 b0 [v0_0,v0_1,v0_2,v0_3,v0_4,v0_5,v0_6,(.slice none 0 0),v0_8,v0_9,v0_10,v0_11],rd v0_2 p0_2,rd v0_3 p0_3,rd v0_5 p0_5,rd v0_6 p0_6,own 3 v0_8 p0_8,own 3 v0_9 p0_9,own 3 v0_10 p0_10,own 99 v0_11 p0_11,bc 133 a0 [ct],own 3 ct bm,rd bu bf] σ w) (fun(bm: (List Int)) σ w=>∃b2:Value,SH E Γ [(0,vp b0 0),(2,vi p0_5.length),(3,vp a0 0),(35,v0_6),(36,vi p0_6.length),(37,vi a4)] [bc 48 b0 [v0_0,v0_1,v0_2,v0_3,v0_4,v0_5,v0_6,(.slice none 0 0),v0_8,v0_9,v0_10,v0_11],rd v0_2 p0_2,rd v0_3 p0_3,rd v0_5 p0_5,rd v0_6 p0_6,own 3 v0_8 p0_8,own 3 v0_9 p0_9,own 3 v0_10 p0_10,own 99 v0_11 p0_11,bc 133 a0 [b2],own 3 b2 bm,rd bu bf] σ w) hN ?_ ?_ ?_ ?_
  ·exact⟨dg,hw.sp 13 [2,3,4,5,6,7,8,9,10,11,12,0]⟩
  ·rintro hm bm _ w ⟨di,τ,rfl,hw⟩
   refine RC.sr (ic ((bf.length:Int)) ((bf.length:Int)) (RL.nq (RC.fV tN (RC.ex ?_))))
   exact⟨rfl,di,hw.sp 12 [0,1,2,3,4,5,6,7,8,9,10,11]⟩
  ·rintro hm b1 bm s' _ w hk ⟨ep,τ,rfl,hw⟩ hb
   refine RC.sr (ic ((b1:Int)) ((bf.length:Int)) (RL.nq (RC.fU (tM hk) (RC.ss (RC.bs ?_)))))
   obtain⟨bw,dj,hb⟩:=bd hb
   refine RL.bN 11 hw eB dj fun er hw=>(RL.bF bw 0 hw cJ (aQ (vi bw) (RL.nt (RC.region (mv (vp a0 0) (mv (vi bw) (mv (vi p0_5.length) (mv (vi a4) ?_))))))))
   refine RL.fQ (p0_5.length:Int) (a4:Int) ?_
   have hw:=(hw.pull 11).pull 11
   obtain⟨et,dk,hb⟩:=bd hb
   refine RL.call zt zr L0 [(vp a0 0),(vi bw),(vi (IntKind.wrap .i64 ((p0_5.length:Int)+ (a4:Int))))] zr (aD (tE N (p1:=bw) (p2:=(IntKind.wrap .i64 ((p0_5.length:Int)+ (a4:Int)))) hw dk) ?_)
   rintro _ w ⟨dm,rfl,hw⟩
   refine RL.nil (bO (aH (RC.region (RL.inc hk hm (mv (vi ((b1+1:Nat):Int)) (RL.nil ?_))))))
   obtain rfl:=oi hb
   exact⟨rfl,dm,hw.sp 15 [3,4,5,6,7,8,9,10,11,0,1,14]⟩
  rintro _ w ⟨b2,τ,rfl,hw⟩
  refine bO (aH (RC.region (RL.inc hk hm (mv (vi ((a4+1:Nat):Int)) (RL.nil ?_)))))
  obtain rfl:=oi hb
  exact⟨rfl,b2,hw.sp 12 [0,1,2,3,4,5,6,7,8,9,10]⟩
 rintro _ w ⟨bt,τ,rfl,hw⟩
 refine aH (RC.seq ?_)
 obtain⟨dn,dp,hb⟩:=bd hb
 obtain⟨dq,dr,hb⟩:=bd hb
 refine RC.Fi E Γ mixed [1,1,1,0,1,1,1,1,0,0,0,1,1,0,1,1,0] [3,10,13,16] (fun(x:Value×Value)=>(fun ae af=>[(0,56,(vp b0 0)),(1,57,(vp b0 0)),(2,58,(vi p0_5.length)),(3,59,ae),(4,60,(vp b0 0)),(5,61,(vp b0 0)),(6,62,(vp b0 0)),(7,63,(vp b0 2)),(8,64,v0_2),(9,65,(vi p0_2.length)),(10,66,af),(11,67,(vp b0 0)),(12,68,(vp b0 8)),(14,69,(vp b0 0)),(15,70,(vp b0 9))]) x.1 x.2) [(0,vp b0 0),(2,vi p0_5.length),(3,vp a0 0)] [] (fun(D:Nat->Bool) (x:Value×Value)=>(fun ae af=>[bif D 0 then (own 3 ae dn) else bB,bif D 1 then (own 3 af dq) else bB,bif D 3 then (bc 48 b0 [v0_0,v0_1,v0_2,v0_3,v0_4,v0_5,v0_6,(.slice none 0 0),ae,af,v0_10,v0_11]) else (bif D 2 then (bc 48 b0 [v0_0,v0_1,v0_2,v0_3,v0_4,v0_5,v0_6,(.slice none 0 0),ae,v0_9,v0_10,v0_11]) else (bc 48 b0 [v0_0,v0_1,v0_2,v0_3,v0_4,v0_5,v0_6,(.slice none 0 0),v0_8,v0_9,v0_10,v0_11])),rd v0_2 p0_2,rd v0_3 p0_3,rd v0_5 p0_5,rd v0_6 p0_6,own 3 v0_8 p0_8,own 3 v0_9 p0_9,own 3 v0_10 p0_10,own 99 v0_11 p0_11,bc 133 a0 [bt],own 3 bt bj]) x.1 x.2) (fun x=>by kernel_rfl) ?_ ⟨fun _=>jq gn,fun _=>jq gn,fun _=>jq gn,?_,fun _=>jq gn,fun _=>wz gn,fun _=>nu gn sL,fun _=>nu gn gC,?_,?_,?_,fun _=>wz gn,fun _=>nu gn D8,?_,fun _=>wz gn,fun _=>nu gn BN,?_,trivial⟩ ?_
 ·have hw:=((hw.drew).bB).bB
  exact⟨(undef,undef),gw.none,(D5 zr),zt,hw⟩
 ·rintro D σ w hD hdep hcl ⟨⟨ae,af⟩,hv,ha,_,hw⟩
  obtain⟨τ,rfl⟩:=(ac (hv.at 2 rfl (hdep.1 rfl)) az).fq
  have hw:=((hw.cA 0 hD).cA 2 (nf (fun h=>ft hD ((hcl 16 _ rfl h).2.2.2.2.2.2.1 rfl)))).cA 2 (nf (fun h=>ft hD ((hcl 13 _ rfl h).2.1 rfl)))
  refine RL.mk (p0_5.length:Int) hw qF JW dp fun cf w hw=>?_
  have hw:=(((hw.pl 14 [0,2,3,4,5,6,7,8,9,10,11,12,13]).cQ 0 true rfl bB).eV 2 (D 13) (nf (fun h=>ft hD ((hcl 13 _ rfl h).2.1 rfl))) (bc 48 b0 [v0_0,v0_1,v0_2,v0_3,v0_4,v0_5,v0_6,(.slice none 0 0),cf,v0_9,v0_10,v0_11])).eV 2 (D 16) (nf (fun h=>ft hD ((hcl 16 _ rfl h).2.2.2.2.2.2.1 rfl))) (bc 48 b0 [v0_0,v0_1,v0_2,v0_3,v0_4,v0_5,v0_6,(.slice none 0 0),cf,af,v0_10,v0_11])
  exact RL.nil ⟨rfl,(cf,af),hv.put 3 zr zr,ha.up zr,zt,hw⟩
 ·rintro D σ w hD hdep hcl ⟨⟨ae,af⟩,hv,ha,_,hw⟩
  obtain⟨τ,rfl⟩:=(ac (hv.at 7 rfl (hdep.1 rfl)) az).fq
  have hw:=(hw.cA 2 (nf (fun h=>ft hD ((hcl 16 _ rfl h).2.2.2.2.2.2.2.2.2.2.2.1 rfl)))).cA 2 (nf (fun h=>ft hD ((hcl 13 _ rfl h).2.2.2.2.2.2.2.2.2.2.1 rfl)))
  refine RL.bH 2 v0_2 hw mT ?_
  have hw:=(hw.eV 2 (D 13) (nf (fun h=>ft hD ((hcl 13 _ rfl h).2.2.2.2.2.2.2.2.2.2.1 rfl))) (bc 48 b0 [v0_0,v0_1,v0_2,v0_3,v0_4,v0_5,v0_6,(.slice none 0 0),ae,v0_9,v0_10,v0_11])).eV 2 (D 16) (nf (fun h=>ft hD ((hcl 16 _ rfl h).2.2.2.2.2.2.2.2.2.2.2.1 rfl))) (bc 48 b0 [v0_0,v0_1,v0_2,v0_3,v0_4,v0_5,v0_6,(.slice none 0 0),ae,af,v0_10,v0_11])
  exact RL.nil ⟨rfl,(ae,af),hv.put 8 zr zr,ha.up zr,zt,hw⟩
 ·rintro D σ w hD hdep hcl ⟨⟨ae,af⟩,hv,ha,_,hw⟩
  obtain⟨τ,rfl⟩:=(ac (hv.at 8 rfl (hdep.1 rfl)) az).fq
  refine RL.bC 3 p0_2 hw t3 ?_
  exact RL.nil ⟨rfl,(ae,af),hv.put 9 zr zr,ha.up zr,zt,hw⟩
 ·rintro D σ w hD hdep hcl ⟨⟨ae,af⟩,hv,ha,_,hw⟩
  obtain⟨τ,rfl⟩:=(ac (hv.at 9 rfl (hdep.1 rfl)) az).fq
  have hw:=(hw.cA 1 hD).cA 2 (nf (fun h=>ft hD ((hcl 16 _ rfl h).2.1 rfl)))
  refine RL.mk (p0_2.length:Int) hw qF JW dr fun cu w hw=>?_
  have hw:=((hw.pl 14 [1,0,3,4,5,6,7,8,9,10,11,12,13]).cQ 1 true rfl bB).eV 2 (D 16) (nf (fun h=>ft hD ((hcl 16 _ rfl h).2.1 rfl))) (bc 48 b0 [v0_0,v0_1,v0_2,v0_3,v0_4,v0_5,v0_6,(.slice none 0 0),ae,cu,v0_10,v0_11])
  exact RL.nil ⟨rfl,(ae,cu),hv.put 10 zr zr,ha.up zr,zt,hw⟩
 ·rintro D σ w hD hdep hcl ⟨⟨ae,af⟩,hv,ha,_,hw⟩
  obtain⟨τ,rfl⟩:=(ac (hv.at 3 rfl (hdep.2.1 rfl)) (ac (hv.at 12 rfl (hdep.1 rfl)) az)).fq
  have hw:=((hw.cP 0 (hdep.2.1 rfl)).cA 2 (nf (fun h=>ft hD ((hcl 16 _ rfl h).2.2.1 rfl)))).cA 2 hD
  refine RL.ig 2 ae hw zr zr (iD 0 hw) fA fun w hw=>?_
  have hw:=((hw.cQ 0 (D 3) (hdep.2.1 rfl) bB).cQ 2 true rfl (bc 48 b0 [v0_0,v0_1,v0_2,v0_3,v0_4,v0_5,v0_6,(.slice none 0 0),v0_8,v0_9,v0_10,v0_11])).eV 2 (D 16) (nf (fun h=>ft hD ((hcl 16 _ rfl h).2.2.1 rfl))) (bc 48 b0 [v0_0,v0_1,v0_2,v0_3,v0_4,v0_5,v0_6,(.slice none 0 0),ae,af,v0_10,v0_11])
  exact RL.nil ⟨rfl,(ae,af),hv.no zr,ha,zt,hw⟩
 ·rintro D σ w hD hdep hcl ⟨⟨ae,af⟩,hv,ha,_,hw⟩
  obtain⟨τ,rfl⟩:=(ac (hv.at 10 rfl (hdep.2.1 rfl)) (ac (hv.at 14 rfl (hdep.1 rfl)) az)).fq
  have hw:=((hw.cP 1 (hdep.2.1 rfl)).cA 2 hD).cP 2 (hdep.2.2.1 rfl)
  refine RL.ig 2 af hw zr zr (iD 1 hw) fA fun w hw=>?_
  have hw:=(hw.cQ 1 (D 10) (hdep.2.1 rfl) bB).cQ 2 true rfl (bif D 13 then (bc 48 b0 [v0_0,v0_1,v0_2,v0_3,v0_4,v0_5,v0_6,(.slice none 0 0),ae,v0_9,v0_10,v0_11]) else (bc 48 b0 [v0_0,v0_1,v0_2,v0_3,v0_4,v0_5,v0_6,(.slice none 0 0),v0_8,v0_9,v0_10,v0_11]))
  exact RL.nil ⟨rfl,(ae,af),hv.no zr,ha,zt,hw⟩
 rintro D σ w hall ⟨⟨ae,af⟩,hv,ha,_,hw⟩
 have hw:=hw.cP 0 (hall 3 (by decide))
 have hw:=hw.cP 1 (hall 10 (by decide))
 have hw:=hw.cP 2 (hall 16 (by decide))
 obtain⟨τ,rfl⟩:=(ac (ha.at 0 rfl) (ac (ha.at 1 rfl) (ac (ha.at 2 rfl) az))).fq
 refine aH (RC.seq (RC.sr (mv (vp a0 0) ?_)))
 have hw:=(hw.pull 12).pull 12
 obtain⟨ay,ds,hb⟩:=bd hb
 refine RL.call zt zr L1 [(vp a0 0)] zr (aD (tF N hw ds) ?_)
 rintro a5 w ⟨_,eu,rfl,hw⟩
 refine RL.fR 0 ay.1 hw Fw (mv (vi 0) (RL.nt ?_))
 obtain⟨aw,hN,hb⟩:=bd hb
 refine RC.fold (fun(a8:Nat) (aw: (List cO)×(List Int)×(List Int)) σ w=>∃(cv:Value) (us442:List aT),SH E Γ [(0,vp b0 0),(2,vi p0_5.length),(72,a5),(73,vi ay.1.length),(74,vi a8)] [bc 48 b0 [v0_0,v0_1,v0_2,v0_3,v0_4,v0_5,v0_6,cv,ae,af,v0_10,v0_11],own 97 cv us442,hU aU us442 aw.1 none,rd v0_2 p0_2,rd v0_3 p0_3,rd v0_5 p0_5,rd v0_6 p0_6,own 3 ae aw.2.1,own 3 af aw.2.2,own 3 v0_10 p0_10,own 99 v0_11 p0_11,own 31 a5 ay.1] σ w) (fun(aw: (List cO)×(List Int)×(List Int)) σ w=>∃(ab:Value) (us444:List aT),SH E Γ [(0,vp b0 0)] [bc 48 b0 [v0_0,v0_1,v0_2,v0_3,v0_4,v0_5,v0_6,ab,ae,af,v0_10,v0_11],own 97 ab us444,hU aU us444 aw.1 none,rd v0_2 p0_2,rd v0_3 p0_3,rd v0_5 p0_5,rd v0_6 p0_6,own 3 ae aw.2.1,own 3 af aw.2.2,own 3 v0_10 p0_10,own 99 v0_11 p0_11,own 31 a5 ay.1] σ w) hN ?_ ?_ ?_ ?_
 ·have hw:=(hw.yT aU).cX aT 97
  exact⟨(.slice none 0 0),([]:List aT),hw.sp 18 [7,0,1,8,9,10,11,5,6,14,15,2]⟩
 ·rintro hm aw _ w ⟨dt,us604,τ,rfl,hw⟩
  refine RC.sr (ic ((ay.1.length:Int)) ((ay.1.length:Int)) (RL.nq (RC.fV tN (RC.ex ?_))))
  exact⟨rfl,dt,us604,hw.sp 12 [0,1,2,3,4,5,6,7,8,9,10,11]⟩
 ·rintro hm a8 aw s' _ w hk ⟨a2,us446,τ,rfl,hw⟩ hb
  refine RC.sr (ic ((a8:Int)) ((ay.1.length:Int)) (RL.nq (RC.fU (tM hk) (RC.ss (RC.bs ?_)))))
  obtain⟨a7,cg,hb⟩:=bd hb
  refine RL.bU 11 hw zr zr xH cg (RL.kl (f:=(fun x=>x)) 11 hw (jA 11 hw cg 0) (bI cg).2.1 Fd.self fA fun a9 hw=>?_)
  refine aQ a9 (RL.ns (RL.tT zr hw Jh zr fun bg w hw=>?_))
  refine RL.nq (RC.sr (mv a9 (RL.bC 1 a7 hw l4 (mv (vi 0) (RL.nt ?_)))))
  obtain⟨ah,hN,hb⟩:=bd hb
  refine RC.fold (fun(bn:Nat) (ah: (List Int)×(List Int)×(List Int)×(List Int)) σ w=>∃cw cx:Value,SH E Γ [(0,vp b0 0),(2,vi p0_5.length),(10,vp bg 0),(72,a5),(73,vi ay.1.length),(74,vi a8),(78,a9),(79,vi a7.length),(80,vi bn)] [bc 48 b0 [v0_0,v0_1,v0_2,v0_3,v0_4,v0_5,v0_6,a2,ae,af,v0_10,v0_11],rd v0_2 p0_2,rd v0_3 p0_3,rd v0_5 p0_5,rd v0_6 p0_6,own 97 a2 us446,hU aU us446 aw.1 none,own 3 ae ah.1,own 3 af ah.2.1,own 3 v0_10 p0_10,own 99 v0_11 p0_11,bc 97 bg [cw,cx,(.slice none 0 0)],own 3 cw ah.2.2.1,own 3 cx ah.2.2.2,own 31 a5 ay.1,rd a9 a7] σ w) (fun(ah: (List Int)×(List Int)×(List Int)×(List Int)) σ w=>∃bh ba:Value,SH E Γ [(0,vp b0 0),(2,vi p0_5.length),(10,vp bg 0),(72,a5),(73,vi ay.1.length),(74,vi a8)] [bc 48 b0 [v0_0,v0_1,v0_2,v0_3,v0_4,v0_5,v0_6,a2,ae,af,v0_10,v0_11],rd v0_2 p0_2,rd v0_3 p0_3,rd v0_5 p0_5,rd v0_6 p0_6,own 97 a2 us446,hU aU us446 aw.1 none,own 3 ae ah.1,own 3 af ah.2.1,own 3 v0_10 p0_10,own 99 v0_11 p0_11,bc 97 bg [bh,ba,(.slice none 0 0)],own 3 bh ah.2.2.1,own 3 ba ah.2.2.2,own 31 a5 ay.1,rd a9 a7] σ w) hN ?_ ?_ ?_ ?_
  ·have hw:=(hw.cX Int 3).cX Int 3
   exact⟨(.slice none 0 0),(.slice none 0 0),hw.sp 16 [4,7,8,9,10,5,6,11,12,13,14,2,1,0,15,3]⟩
  ·rintro hm ah _ w ⟨du,dv,τ,rfl,hw⟩
   refine RC.sr (ic ((a7.length:Int)) ((a7.length:Int)) (RL.nq (RC.fV tN (RC.ex ?_))))
   exact⟨rfl,du,dv,hw.sp 16 [0,1,2,3,4,5,6,7,8,9,10,11,12,13,14,15]⟩
  ·rintro hm bn ah s' _ w hk ⟨b3,ch,τ,rfl,hw⟩ hb
   refine RC.sr (ic ((bn:Int)) ((a7.length:Int)) (RL.nq (RC.fU (tM hk) (RC.ss (RC.bs ?_)))))
   obtain⟨ar,dw,hb⟩:=bd hb
   refine RL.bN 15 hw eB dw fun ev hw=>(RL.bF ar 0 hw cJ (aQ (vi ar) (RL.nt (RC.bs (mv (vi ar) (mv (vi p0_5.length) (ic ar ((p0_5.length:Int)) (aQ (vb (decide (ar< (p0_5.length:Int)))) ?_))))))))
   refine RL.nt ?_
   obtain⟨bo,hj,hb⟩:=bd hb
   refine RC.jn (fun(bo: (List Int)×(List Int)×(List Int)×(List Int)) σ w=>∃b4 b5:Value,SH E Γ [(0,vp b0 0),(2,vi p0_5.length),(10,vp bg 0),(72,a5),(73,vi ay.1.length),(74,vi a8),(78,a9),(79,vi a7.length),(80,vi bn)] [bc 48 b0 [v0_0,v0_1,v0_2,v0_3,v0_4,v0_5,v0_6,a2,ae,af,v0_10,v0_11],rd v0_2 p0_2,rd v0_3 p0_3,rd v0_5 p0_5,rd v0_6 p0_6,own 97 a2 us446,hU aU us446 aw.1 none,own 3 ae bo.1,own 3 af bo.2.1,own 3 v0_10 p0_10,own 99 v0_11 p0_11,bc 97 bg [b4,b5,(.slice none 0 0)],own 3 b4 bo.2.2.1,own 3 b5 bo.2.2.2,own 31 a5 ay.1,rd a9 a7] σ w) bo ?_ ?_
   ·refine dT hj (fun hc hj=>?_) fun hc hj=>?_
    ·refine RC.seq (RC.vH mixed [0,0,0,0,0,0,0,0,0,0,0,2] [0,1,2,3,4,5,6,7,8,9,10,11] ?_)
     have hw:=hw.drew
     refine DP.e0 zr (mv (vp b0 0) (aZ zr (RL.nilCheck zr (aZ zr (RL.aX zr D8 (aZ zr (RL.bH 1 ae hw fA (aZ zr ?_))))))))
     refine mv (vi ar) (aZ zr (mv (vp b0 0) (aZ zr (RL.nilCheck zr (aZ zr (RL.aX zr xI (aZ zr (RL.bH 1 a2 hw u6 ?_))))))))
     refine aZ zr (RL.rC 6 7 aw.1 hw Ji (aZ zr ?_))
     obtain⟨ew,cj,hj⟩:=bd hj
     refine RL.bU 8 hw zr zr eB cj (pz zr ?_)
     have hw:=hw.sc Int (aw.1.length:Int)
     refine RL.gx (f:=(fun _ y=>y)) 9 0 hw (jA 9 hw cj 0) (bI cj).2.1 zr Fs.self cJ fun w hw=>?_
     refine DP.d2 zt (DP.z (aH (RC.region (RL.aX zr vL (RL.bH 13 b3 hw fA (mv (vi ar) ?_))))))
     have hw:=hw.sc Int ar
     refine RL.dW ([ar]: (List Int)) hw [(vi ar)] eB Ch (fun M hs g=>⟨(g.sat 0 _ zr).1,zt⟩) fun ey w hw=>?_
     have hw:=hw.freeze 0
     obtain⟨ez,dx,hj⟩:=bd hj
     refine RL.app 16 0 hw qF dx fun cy w hw=>?_
     refine RL.aX zr vL (RL.ig 15 cy hw zr zr (iD 16 hw) fA fun w hw=>?_)
     refine RL.nil ?_
     obtain rfl:=oi hj
     exact⟨rfl,cy,ch,hw.sp 20 [4,5,6,7,8,9,10,11,12,13,14,15,16,17,18,19]⟩
    refine RC.sr (mv (vp b0 0) (RL.nilCheck zr (RL.aX zr sL (RL.aX zr gC (RL.bH 1 v0_2 hw mT (mv (vi ar) (mv (vi p0_5.length) (RL.fQ ar (p0_5.length:Int) ?_))))))))
    obtain⟨cz,dy,hj⟩:=bd hj
    refine RL.bN 2 hw qc dy fun e3 hw=>(RL.dV 0 hw zr xG pX fun e4 hw=>(RL.bF cz.fJ 0 hw A2 (aQ (vb cz.fJ) (RL.nt ?_))))
    obtain⟨b6,hjj,hj⟩:=bd hj
    refine RC.jn (fun(b6: (List Int)×(List Int)) σ w=>∃b7:Value,SH E Γ [(0,vp b0 0),(2,vi p0_5.length),(10,vp bg 0),(72,a5),(73,vi ay.1.length),(74,vi a8),(78,a9),(79,vi a7.length),(80,vi bn)] [bc 48 b0 [v0_0,v0_1,v0_2,v0_3,v0_4,v0_5,v0_6,a2,ae,af,v0_10,v0_11],rd v0_2 p0_2,rd v0_3 p0_3,rd v0_5 p0_5,rd v0_6 p0_6,own 97 a2 us446,hU aU us446 aw.1 none,own 3 ae ah.1,own 3 af b6.1,own 3 v0_10 p0_10,own 99 v0_11 p0_11,bc 97 bg [b3,b7,(.slice none 0 0)],own 3 b7 b6.2,own 3 b3 ah.2.2.1,own 31 a5 ay.1,rd a9 a7] σ w) b6 ?_ ?_
    ·refine dT hjj (fun hc hjj=>?_) fun hc hjj=>?_
     rotate_left
     ·refine RC.region (mv (vp b0 0) (RL.nilCheck zr (RL.aX zr BN (RL.bH 3 af hw fA (mv (vi ar) (mv (vi p0_5.length) (RL.fQ ar (p0_5.length:Int) ?_)))))))
      obtain⟨e5,ck,hjj⟩:=bd hjj
      refine RL.bU 11 hw zr zr eB ck ?_
      have hw:=hw.sc Int (-1)
      refine RL.gx (f:=(fun _ y=>y)) 12 0 hw (jA 12 hw ck 0) (bI ck).2.1 zr Fs.self cJ fun w hw=>?_
      refine RL.nil ?_
      obtain rfl:=oi hjj
      exact⟨rfl,ch,hw.sp 20 [4,5,6,7,8,9,10,11,12,13,14,15,17,16,18,19]⟩
     refine RC.seq (RC.vH mixed [0,0,0,0,0,0,0,0,0,0,0,0,0,2] [0,1,2,3,4,5,6,7,8,9,10,11,12,13] ?_)
     have hw:=hw.drew
     refine DP.e0 zr (mv (vp b0 0) (aZ zr (RL.nilCheck zr (aZ zr (RL.aX zr BN (aZ zr (RL.bH 3 af hw fA (aZ zr ?_))))))))
     refine mv (vi ar) (aZ zr (mv (vi p0_5.length) (aZ zr (RL.fQ ar (p0_5.length:Int) (aZ zr (mv (vp b0 0) (aZ zr (RL.nilCheck zr ?_))))))))
     refine aZ zr (RL.aX zr xI (aZ zr (RL.bH 3 a2 hw u6 (aZ zr (RL.rC 8 9 aw.1 hw Ji (aZ zr ?_))))))
     obtain⟨e6,cl,hjj⟩:=bd hjj
     refine RL.bU 11 hw zr zr eB cl (pz zr ?_)
     have hw:=hw.sc Int (aw.1.length:Int)
     refine RL.gx (f:=(fun _ y=>y)) 12 0 hw (jA 12 hw cl 0) (bI cl).2.1 zr Fs.self cJ fun w hw=>?_
     refine DP.d2 zt (DP.z (aH (RC.region (RL.aX zr xJ (RL.bH 15 ch hw fA (mv (vi ar) (mv (vi p0_5.length) (RL.fQ ar (p0_5.length:Int) ?_))))))))
     have hw:=hw.sc Int (IntKind.wrap .i64 (ar - (p0_5.length:Int)))
     refine RL.dW ([(IntKind.wrap .i64 (ar - (p0_5.length:Int)))]: (List Int)) hw [(vi (IntKind.wrap .i64 (ar - (p0_5.length:Int))))] eB Ch (fun M hs g=>⟨(g.sat 0 _ zr).1,zt⟩) fun e7 w hw=>?_
     have hw:=hw.freeze 0
     obtain⟨e8,dz,hjj⟩:=bd hjj
     refine RL.app 19 0 hw qF dz fun c0 w hw=>?_
     refine RL.aX zr xJ (RL.ig 17 c0 hw zr zr (iD 19 hw) fA fun w hw=>?_)
     refine RL.nil ?_
     obtain rfl:=oi hjj
     exact⟨rfl,c0,hw.sp 22 [6,7,8,9,10,11,12,13,14,15,16,17,19,18,20,21]⟩
    rintro _ w ⟨b7,τ,rfl,hw⟩
    obtain rfl:=oi hj
    exact⟨rfl,b3,b7,hw.sp 16 [0,1,2,3,4,5,6,7,8,9,10,11,13,12,14,15]⟩
   rintro _ w ⟨b4,b5,τ,rfl,hw⟩
   refine bO (bO (aH (RC.region (RL.inc hk hm (mv (vi ((bn+1:Nat):Int)) (RL.nil ?_))))))
   obtain rfl:=oi hb
   exact⟨rfl,b4,b5,hw.sp 16 [0,1,2,3,4,5,6,7,8,9,10,11,12,13,14,15]⟩
  rintro _ w ⟨bh,ba,τ,rfl,hw⟩
  refine aH (RC.sr (RL.aX zr vL (RL.bH 11 bh hw fA (RL.fR 12 ah.2.2.1 hw l4 (RL.aX zr xJ (RL.bH 11 ba hw fA (RL.fR 13 ah.2.2.2 hw l4 (RL.fQ (ah.2.2.1.length:Int) (ah.2.2.2.length:Int) ?_))))))))
  refine ic ((IntKind.wrap .i64 ((ah.2.2.1.length:Int)+ (ah.2.2.2.length:Int)))) 0 (RL.nt ?_)
  obtain⟨cm,hj,hb⟩:=bd hb
  refine RC.jn (fun(cm: (List cO)) σ w=>∃(b8:Value) (us598:List aT),SH E Γ [(0,vp b0 0),(2,vi p0_5.length),(72,a5),(73,vi ay.1.length),(74,vi a8)] [bc 48 b0 [v0_0,v0_1,v0_2,v0_3,v0_4,v0_5,v0_6,b8,ae,af,v0_10,v0_11],own 97 b8 us598,hU aU us598 cm none,rd v0_2 p0_2,rd v0_3 p0_3,rd v0_5 p0_5,rd v0_6 p0_6,own 3 ae ah.1,own 3 af ah.2.1,own 3 v0_10 p0_10,own 99 v0_11 p0_11,own 31 a5 ay.1] σ w) cm ?_ ?_
  ·refine dT hj (fun hc hj=>?_) fun hc hj=>?_
   rotate_left
   ·refine RC.skip ?_
    obtain rfl:=oi hj
    exact⟨rfl,a2,us446,hw.sp 16 [0,5,6,1,2,3,4,7,8,9,10,14]⟩
   have hw:=hw.drew
   refine RC.D4 (fun w=>Holds E w ([bc 48 b0 [v0_0,v0_1,v0_2,v0_3,v0_4,v0_5,v0_6,a2,ae,af,v0_10,v0_11]]++Γ)) mixed zr [1,1,1,1,1,0,2,2,0,0,2] [0,1,2,3,4,5,6,7,8,9,10] (hw.pk 16 [0]) (DP.e1 (vp b0 0) zr (fun w=>RL.move (vp b0 0) zt DP.d1) (DP.e1 (vp b0 0) zr (fun w=>RL.move (vp b0 0) zt DP.d1) (DP.e1 (vp b0 0) zr (fun w=>RL.nilCheck zr DP.d1) (DP.e1 (vp b0 7) zr (fun w=>RL.aX zr xI DP.d1) (DP.HL a2 zr (fun w hw=>RL.bH 0 a2 hw u6 DP.d1) (DP.e0 zr (RL.CG (cs:=[bh,ba,(.slice none 0 0)]) 11 zt zr hw zr zr GI zr (pz zr ?_))))))))
   have hw:=((((hw.cX fk 83).AV (i:=0) rfl).freeze 14).freeze 15).DW (cs:=[bh,ba,(.slice none 0 0)]) (x:=(⟨ah.2.2.1,ah.2.2.2,(rv (.slice none 0 0))⟩:aT)) (fun M hs g=>⟨[bh],[ba,(.slice none 0 0)],rfl,(q7 (g.sat 14 _ rfl).1),⟨[ba],[(.slice none 0 0)],rfl,(q7 (g.sat 15 _ rfl).1),(q7 (g.sat 0 _ rfl).1)⟩⟩) rfl
   refine RL.dW ([(⟨ah.2.2.1,ah.2.2.2,(rv (.slice none 0 0))⟩:aT)]:List aT) hw [(.agg ([bh,ba,(.slice none 0 0)]:List Value).toArray)] AB Jj (fun M hs g=>⟨(g.sat 0 _ zr).1,zt⟩) fun e9 w hw=>(DP.d2 (hw.pk 20 [4]) (DP.e2 zr ?_))
   obtain⟨fa,d3,hj⟩:=bd hj
   have hw:=hw.freeze 0
   refine RL.xy 9 0 10 3 aU (⟨ah.2.2.1,ah.2.2.2,(rv (.slice none 0 0))⟩:aT) (⟨ah.2.2.1,ah.2.2.2,([]: (List fk))⟩:cO) (.slice none 0 0) ([]: (List fk)) (fun _ _ ho=>⟨⟨rfl,zr⟩,ho⟩) zr hw zr zr zr zr zr zr Jk d3 fun c1 w hw=>?_
   refine DP.d2 (hw.pk 20 [4]) (DP.e0 zr (RL.nilCheck zr (aZ zr (RL.aX zr xI (DP.d0 (DP.K9 zr zr (RL.ig 4 c1 hw zr zr (iD 9 hw) u6 fun w hw=>?_)))))))
   refine DP.d2 zt (DP.z ?_)
   obtain rfl:=oi hj
   exact⟨rfl,c1,(us446++[(⟨ah.2.2.1,ah.2.2.2,(rv (.slice none 0 0))⟩:aT)]),hw.sp 20 [4,9,10,5,6,7,8,11,12,13,14,18]⟩
  rintro _ w ⟨b8,us598,τ,rfl,hw⟩
  refine bO (aH (RC.region (RL.inc hk hm (mv (vi ((a8+1:Nat):Int)) (RL.nil ?_)))))
  obtain rfl:=oi hb
  exact⟨rfl,b8,us598,hw.sp 12 [0,1,2,3,4,5,6,7,8,9,10,11]⟩
 rintro _ w ⟨ab,us444,τ,rfl,hw⟩
 refine aH (RC.sr (mv (vp b0 0) (RL.nilCheck zr (RL.aX zr sL (RL.aX zr rf (RL.bH 0 v0_3 hw Az (RL.bC 4 p0_3 hw Fu (mv (vi 0) ?_))))))))
 refine RL.nt ?_
 obtain⟨aa,hN,hb⟩:=bd hb
 refine RC.fold (fun(bk:Nat) (aa: (List cO)×(List Int)×(List Int)×(List Int)×(List j9)) σ w=>∃(c2 c3:Value) (c4 c5:Value) (us819:List aT),SH E Γ [(0,vp b0 0),(170,v0_3),(171,vi p0_3.length),(172,vi bk)] [bc 48 b0 [v0_0,v0_1,v0_2,v0_3,v0_4,v0_5,v0_6,ab,c2,c3,c4,c5],rd c2 aa.2.1,rd c3 aa.2.2.1,own 3 c4 aa.2.2.2.1,own 99 c5 aa.2.2.2.2,rd v0_2 p0_2,rd v0_3 p0_3,rd v0_5 p0_5,rd v0_6 p0_6,own 97 ab us819,hU aU us819 aa.1 none] σ w) (fun(aa: (List cO)×(List Int)×(List Int)×(List Int)×(List j9)) σ w=>∃(b9 ca:Value) (cb cc:Value) (us824:List aT),SH E Γ [(0,vp b0 0)] [bc 48 b0 [v0_0,v0_1,v0_2,v0_3,v0_4,v0_5,v0_6,ab,b9,ca,cb,cc],rd b9 aa.2.1,rd ca aa.2.2.1,own 3 cb aa.2.2.2.1,own 99 cc aa.2.2.2.2,rd v0_2 p0_2,rd v0_3 p0_3,rd v0_5 p0_5,rd v0_6 p0_6,own 97 ab us824,hU aU us824 aa.1 none] σ w) hN ?_ ?_ ?_ ?_
 ·have hw:=(hw.freeze 7).freeze 8
  exact⟨ae,af,v0_10,v0_11,us444,hw.sp 12 [0,7,8,9,10,3,4,5,6,1,2]⟩
 ·rintro hm aa _ w ⟨d4,d5,d6,d7,us932,τ,rfl,hw⟩
  refine RC.sr (ic ((p0_3.length:Int)) ((p0_3.length:Int)) (RL.nq (RC.fV tN (RC.ex ?_))))
  exact⟨rfl,d4,d5,d6,d7,us932,hw.sp 11 [0,1,2,3,4,5,6,7,8,9,10]⟩
 ·rintro hm bk aa s' _ w hk ⟨au,av,a6,ax,us829,τ,rfl,hw⟩ hb
  refine RC.sr (ic ((bk:Int)) ((p0_3.length:Int)) (RL.nq (RC.fU (tM hk) (RC.ss (RC.bs ?_)))))
  obtain⟨bp,d8,hb⟩:=bd hb
  refine RL.bN 6 hw Fv d8 fun d9 hw=>(RL.bL 0 bp hw u5 fun ea hw=>(RL.alloc hw Gy.z fun c6 w hw=>?_))
  refine RL.cB 0 hw 1 zr u5 fun w hw=>?_
  refine RL.ns (mv (vp b0 0) (RL.bE (f:=(fun x=>x)) 0 hw zr Fd.self u5 fun c7 hw=>?_))
  have hw:=((hw.dup 11 rfl).dup 10 rfl).pull 6
  obtain⟨a1,eb,hb⟩:=bd hb
  refine RL.call zt zr L2 [(vp b0 0),c7] zr (aD (tH N (i1:=0) hw zr eb) ?_)
  rintro _ w ⟨cn,rfl,hw⟩
  refine mv (.tuple #[cn,(vb a1.2)]) (RL.extract cn (RL.extract (vb a1.2) (RL.alloc hw GJ.z fun bq w hw=>?_)))
  refine RL.cB 0 hw 1 zr t6 fun w hw=>?_
  refine aQ (vb a1.2) (RL.ns (aQ (vi (-1)) (RL.nq (RC.sr (mv (vb a1.2) (RL.nt ?_))))))
  obtain⟨a3,hj,hb⟩:=bd hb
  refine RC.jn (fun(a3: (List cO)×Int) σ w=>∃(us877:List aT),SH E Γ [(0,vp b0 0),(15,vp bq 0),(17,vi a3.2),(170,v0_3),(171,vi p0_3.length),(172,vi bk)] [bc 48 b0 [v0_0,v0_1,v0_2,v0_3,v0_4,v0_5,v0_6,ab,au,av,a6,ax],rd v0_2 p0_2,rd v0_3 p0_3,rd v0_5 p0_5,rd v0_6 p0_6,own 97 ab us877,hU aU us877 a3.1 none,rd au aa.2.1,rd av aa.2.2.1,own 3 a6 aa.2.2.2.1,own 99 ax aa.2.2.2.2,bx 99 bq a1.1] σ w) a3 ?_ ?_
  ·refine dT hj (fun hc hj=>?_) fun hc hj=>?_
   rotate_left
   ·refine RC.skip ?_
    obtain rfl:=oi hj
    exact⟨rfl,us829,hw.sp 18 [2,12,13,14,15,16,17,8,9,10,11,0]⟩
   refine RC.sr (mv (vp b0 0) (RL.bE (f:=(fun x=>x)) 0 hw zr Fd.self t6 fun c8 hw=>?_))
   have hw:=((hw.dup 10 rfl).dup 10 rfl).pull 5
   obtain⟨o,ec,hj⟩:=bd hj
   refine RL.call zt zr L3 [(vp b0 0),c8] zr (aD (qm N (i1:=0) hw zr ec) ?_)
   rintro _ w ⟨rfl,hw⟩
   refine aQ (vi o) (RL.nt ?_)
   obtain⟨fb,bz,hj⟩:=bd hj
   obtain⟨br,ed,hj⟩:=bd hj
   obtain⟨bb,ee,hj⟩:=bd hj
   obtain⟨bl,cd,hj⟩:=bd hj
   refine RC.Fi E Γ mixed [1,1,1,0,1,1,1,1,0,1,0,0,0,0,0,0,0,0,0,0] [13,14,15,16,19] (fun(x:Value×Value×Value×Value)=>(fun aj ak ai ad=>[(0,186,(vp b0 0)),(1,187,(vp b0 0)),(2,188,(vp b0 7)),(3,189,ab),(4,190,(vi o)),(5,191,(vp b0 0)),(6,192,(vp b0 0)),(7,193,(vp b0 7)),(8,194,ab),(9,195,(vi o)),(10,196,(yF ab (Int.toNat o) 3 0)),(11,197,(yF ab (Int.toNat o) 3 2)),(12,198,(us829.getD (Int.toNat o) (default:aT)).fW.v),(13,199,aj),(14,200,ak),(15,201,ai),(16,202,ad),(17,203,(yF ab (Int.toNat o) 3 0)),(18,204,(yF ab (Int.toNat o) 3 2))]) x.1 x.2.1 x.2.2.1 x.2.2.2) [(0,vp b0 0),(14,vp c6 0),(15,vp bq 0),(17,vi o),(170,v0_3),(171,vi p0_3.length),(172,vi bk)] [] (fun(D:Nat->Bool) (x:Value×Value×Value×Value)=>(fun aj ak ai ad=>[bif D 0 then (rd aj bp) else bB,bif D 1 then (rd ak br) else bB,bif D 3 then (rd ai ([br]: (List fk))) else (bif D 2 then (own 83 ai ([br]: (List fk))) else bB),bif D 4 then bB else (bif D 3 then (own 83 ad bb) else bB),bc 48 b0 [v0_0,v0_1,v0_2,v0_3,v0_4,v0_5,v0_6,ab,au,av,a6,ax],rd c8 a1.1,bx 99 bq a1.1,rd cn a1.1,bB,rd c7 bp,bx 79 c6 bp,rd ea bp,pt d9 bp,bB,rd au aa.2.1,rd av aa.2.2.1,own 3 a6 aa.2.2.2.1,own 99 ax aa.2.2.2.2,rd v0_2 p0_2,rd v0_3 p0_3,rd v0_5 p0_5,rd v0_6 p0_6,bif D 4 then (own 97 ab (us829.set (Int.toNat o) {(us829.getD (Int.toNat o) (default:aT)) with fW:=rv ad})) else (own 97 ab us829),bif D 4 then (hU aU (us829.set (Int.toNat o) {(us829.getD (Int.toNat o) (default:aT)) with fW:=rv ad}) (aa.1.set (Int.toNat o) {bl with fW:=bb}) none) else (bif D 3 then (hU aU us829 aa.1 (some (Int.toNat o))) else (hU aU us829 aa.1 none))]) x.1 x.2.1 x.2.2.1 x.2.2.2) (fun x=>by kernel_rfl) ?_ ⟨fun _=>jq gn,fun _=>wz gn,fun _=>nu gn xI,?_,fun _=>jq gn,fun _=>jq gn,fun _=>wz gn,fun _=>nu gn xI,?_,fun _=>jq gn,?_,?_,?_,?_,?_,?_,?_,?_,?_,?_,trivial⟩ ?_
   ·have hw:=((((hw.drew).bB).bB).bB).bB
    exact⟨(undef,undef,undef,undef),gw.none,(D5 zr),zt,hw⟩
   ·rintro D σ w hD hdep hcl ⟨⟨aj,ak,ai,ad⟩,hv,ha,_,hw⟩
    obtain⟨τ,rfl⟩:=(ac (hv.at 2 rfl (hdep.1 rfl)) az).fq
    refine RL.bH 4 ab hw u6 ?_
    exact RL.nil ⟨rfl,(aj,ak,ai,ad),hv.put 3 zr zr,ha.up zr,zt,hw⟩
   ·rintro D σ w hD hdep hcl ⟨⟨aj,ak,ai,ad⟩,hv,ha,_,hw⟩
    obtain⟨τ,rfl⟩:=(ac (hv.at 7 rfl (hdep.1 rfl)) az).fq
    refine RL.bH 4 ab hw u6 ?_
    exact RL.nil ⟨rfl,(aj,ak,ai,ad),hv.put 8 zr zr,ha.up zr,zt,hw⟩
   ·rintro D σ w hD hdep hcl ⟨⟨aj,ak,ai,ad⟩,hv,ha,_,hw⟩
    obtain⟨τ,rfl⟩:=(ac (hv.at 8 rfl (hdep.1 rfl)) (ac (hv.at 9 rfl (hdep.2.1 rfl)) az)).fq
    have hw:=((hw.cA 22 (nf (fun h=>ft hD ((hcl 19 _ rfl h).2.2.2.2.2.2.2.2.2.2.2.2.2.1 rfl)))).cA 23 (nf (fun h=>ft hD ((hcl 19 _ rfl h).2.2.2.2.2.2.2.2.2.2.2.2.2.1 rfl)))).cA 23 (nf (fun h=>ft hD ((hcl 11 _ rfl ((hcl 12 _ rfl ((hcl 16 _ rfl h).1 rfl)).1 rfl)).1 rfl)))
    have hl900:=hw.eA 23
    have hr901:=fE (default:aT) hl900 bz
    refine RL.bU 22 hw zr zr AB hr901 ?_
    have hw:=(hw.eV 22 (D 19) (nf (fun h=>ft hD ((hcl 19 _ rfl h).2.2.2.2.2.2.2.2.2.2.2.2.2.1 rfl))) (own 97 ab (us829.set (Int.toNat o) {(us829.getD (Int.toNat o) (default:aT)) with fW:=rv ad}))).eV 23 (D 16) (nf (fun h=>ft hD ((hcl 11 _ rfl ((hcl 12 _ rfl ((hcl 16 _ rfl h).1 rfl)).1 rfl)).1 rfl))) (hU aU us829 aa.1 (some (Int.toNat o)))
    have hw:=hw.eV 23 (D 19) (nf (fun h=>ft hD ((hcl 19 _ rfl h).2.2.2.2.2.2.2.2.2.2.2.2.2.1 rfl))) (hU aU (us829.set (Int.toNat o) {(us829.getD (Int.toNat o) (default:aT)) with fW:=rv ad}) (aa.1.set (Int.toNat o) {bl with fW:=bb}) none)
    exact RL.nil ⟨rfl,(aj,ak,ai,ad),hv.put 10 zr zr,ha.up zr,zt,hw⟩
   ·rintro D σ w hD hdep hcl ⟨⟨aj,ak,ai,ad⟩,hv,ha,_,hw⟩
    obtain⟨τ,rfl⟩:=(ac (hv.at 10 rfl (hdep.1 rfl)) az).fq
    have hw:=((hw.cA 22 (nf (fun h=>ft hD ((hcl 19 _ rfl h).2.2.2.2.2.2.2.2.2.2.2.2.2.2.1 rfl)))).cA 23 (nf (fun h=>ft hD ((hcl 19 _ rfl h).2.2.2.2.2.2.2.2.2.2.2.2.2.2.1 rfl)))).cA 23 (nf (fun h=>ft hD ((hcl 12 _ rfl ((hcl 16 _ rfl h).1 rfl)).1 rfl)))
    have hl902:=hw.eA 23
    have hr903:=fE (default:aT) hl902 bz
    refine RL.kM (α:=aT) zt (jA 22 hw hr903 0) BP ?_
    have hw:=(hw.eV 22 (D 19) (nf (fun h=>ft hD ((hcl 19 _ rfl h).2.2.2.2.2.2.2.2.2.2.2.2.2.2.1 rfl))) (own 97 ab (us829.set (Int.toNat o) {(us829.getD (Int.toNat o) (default:aT)) with fW:=rv ad}))).eV 23 (D 16) (nf (fun h=>ft hD ((hcl 12 _ rfl ((hcl 16 _ rfl h).1 rfl)).1 rfl))) (hU aU us829 aa.1 (some (Int.toNat o)))
    have hw:=hw.eV 23 (D 19) (nf (fun h=>ft hD ((hcl 19 _ rfl h).2.2.2.2.2.2.2.2.2.2.2.2.2.2.1 rfl))) (hU aU (us829.set (Int.toNat o) {(us829.getD (Int.toNat o) (default:aT)) with fW:=rv ad}) (aa.1.set (Int.toNat o) {bl with fW:=bb}) none)
    exact RL.nil ⟨rfl,(aj,ak,ai,ad),hv.put 11 zr zr,ha.up zr,zt,hw⟩
   ·rintro D σ w hD hdep hcl ⟨⟨aj,ak,ai,ad⟩,hv,ha,_,hw⟩
    obtain⟨τ,rfl⟩:=(ac (hv.at 11 rfl (hdep.1 rfl)) az).fq
    have hw:=((hw.cA 22 (nf (fun h=>ft hD ((hcl 19 _ rfl h).2.2.2.2.2.2.2.2.2.2.2.2.2.2.2.1 rfl)))).cA 23 (nf (fun h=>ft hD ((hcl 19 _ rfl h).2.2.2.2.2.2.2.2.2.2.2.2.2.2.2.1 rfl)))).cA 23 (nf (fun h=>ft hD ((hcl 16 _ rfl h).1 rfl)))
    have hl904:=hw.eA 23
    have hr905:=fE (default:aT) hl904 bz
    refine RL.uJ 22 23 o nJ (default:aT) zr hw zr (jA 22 hw hr905 2) zr zr bz HQ ?_
    have hw:=(hw.eV 22 (D 19) (nf (fun h=>ft hD ((hcl 19 _ rfl h).2.2.2.2.2.2.2.2.2.2.2.2.2.2.2.1 rfl))) (own 97 ab (us829.set (Int.toNat o) {(us829.getD (Int.toNat o) (default:aT)) with fW:=rv ad}))).eV 23 (D 16) (nf (fun h=>ft hD ((hcl 16 _ rfl h).1 rfl))) (hU aU us829 aa.1 (some (Int.toNat o)))
    have hw:=hw.eV 23 (D 19) (nf (fun h=>ft hD ((hcl 19 _ rfl h).2.2.2.2.2.2.2.2.2.2.2.2.2.2.2.1 rfl))) (hU aU (us829.set (Int.toNat o) {(us829.getD (Int.toNat o) (default:aT)) with fW:=rv ad}) (aa.1.set (Int.toNat o) {bl with fW:=bb}) none)
    exact RL.nil ⟨rfl,(aj,ak,ai,ad),hv.put 12 zr zr,ha.up zr,zt,hw⟩
   ·rintro D σ w hD hdep hcl ⟨⟨aj,ak,ai,ad⟩,hv,ha,_,hw⟩
    obtain⟨τ,rfl⟩:=(ac (ha.at 1 rfl) az).fq
    have hw:=hw.cA 0 hD
    refine RL.bE (f:=(fun x=>x)) 10 hw zr Fd.self u5 fun ef hw=>?_
    have hw:=(hw.pl 25 [0,2,3,4,5,6,7,8,9,10,11,12,13,14,15,16,17,18,19,20,21,22,23,24]).cQ 0 true rfl bB
    exact RL.nil ⟨rfl,(ef,ak,ai,ad),hv.put 13 zr zr,ha.up zr,zt,hw⟩
   ·rintro D σ w hD hdep hcl ⟨⟨aj,ak,ai,ad⟩,hv,ha,_,hw⟩
    obtain⟨τ,rfl⟩:=(ac (hv.at 13 rfl (hdep.1 rfl)) az).fq
    have hw:=(hw.cP 0 (hdep.1 rfl)).cA 1 hD
    refine RL.call zt zr I8 [aj] zr (aD (pd N (i0:=0) hw zr ed) ?_)
    rintro eg w hw
    have hw:=((hw.pl 25 [1,0,3,4,5,6,7,8,9,10,11,12,13,14,15,16,17,18,19,20,21,22,23,24]).cQ 0 (D 13) (hdep.1 rfl) bB).cQ 1 true rfl bB
    exact RL.nil ⟨rfl,(aj,eg,ai,ad),hv.put 14 zr zr,ha.up zr,zt,hw⟩
   ·rintro D σ w hD hdep hcl ⟨⟨aj,ak,ai,ad⟩,hv,ha,_,hw⟩
    obtain⟨τ,rfl⟩:=(ac (hv.at 14 rfl (hdep.1 rfl)) az).fq
    have hw:=((hw.cP 1 (hdep.1 rfl)).cA 2 (nf (fun h=>ft hD ((hcl 16 _ rfl h).2.1 rfl)))).cA 2 hD
    refine RL.dW ([br]: (List fk)) hw [ak] Kr I7 (fun M hs g=>⟨(g.sat 1 _ zr).1,zt⟩) fun c9 w hw=>?_
    have hw:=(((hw.pl 25 [1,2,0,4,5,6,7,8,9,10,11,12,13,14,15,16,17,18,19,20,21,22,23,24]).cQ 1 (D 14) (hdep.1 rfl) bB).cQ 2 true rfl bB).eV 2 (D 16) (nf (fun h=>ft hD ((hcl 16 _ rfl h).2.1 rfl))) (rd c9 ([br]: (List fk)))
    exact RL.nil ⟨rfl,(aj,ak,c9,ad),hv.put 15 zr zr,ha.up zr,zt,hw⟩
   ·rintro D σ w hD hdep hcl ⟨⟨aj,ak,ai,ad⟩,hv,ha,_,hw⟩
    obtain⟨τ,rfl⟩:=(ac (hv.at 12 rfl (hdep.1 rfl)) (ac (hv.at 15 rfl (hdep.2.1 rfl)) az)).fq
    have hw:=((((hw.cA 2 hD).cP 2 (hdep.2.1 rfl)).cA 3 (nf (fun h=>ft hD ((hcl 19 _ rfl h).2.1 rfl)))).cA 3 hD).cA 22 (nf (fun h=>ft hD ((hcl 19 _ rfl h).2.1 rfl)))
    have hw:=(((hw.cA 23 (nf (fun h=>ft hD ((hcl 19 _ rfl h).2.1 rfl)))).cA 23 hD).zb (j:=23) (jj:=o) nJ (default:aT) rfl bz).freeze 3
    refine RL.app 0 3 hw Ks ee fun cp w hw=>?_
    have hw:=(((hw.pl 25 [1,2,3,0,5,6,7,8,9,10,11,12,13,14,15,16,17,18,19,20,21,22,23,24]).cQ 2 true rfl (bif D 15 then (own 83 ai ([br]: (List fk))) else bB)).cQ 3 true rfl bB).eV 3 (D 19) (nf (fun h=>ft hD ((hcl 19 _ rfl h).2.1 rfl))) bB
    have hw:=(hw.eV 22 (D 19) (nf (fun h=>ft hD ((hcl 19 _ rfl h).2.1 rfl))) (own 97 ab (us829.set (Int.toNat o) {(us829.getD (Int.toNat o) (default:aT)) with fW:=rv cp}))).cQ 23 true rfl (hU aU us829 aa.1 none)
    have hw:=hw.eV 23 (D 19) (nf (fun h=>ft hD ((hcl 19 _ rfl h).2.1 rfl))) (hU aU (us829.set (Int.toNat o) {(us829.getD (Int.toNat o) (default:aT)) with fW:=rv cp}) (aa.1.set (Int.toNat o) {bl with fW:=bb}) none)
    exact RL.nil ⟨rfl,(aj,ak,ai,cp),hv.put 16 zr zr,ha.up zr,zt,hw⟩
   ·rintro D σ w hD hdep hcl ⟨⟨aj,ak,ai,ad⟩,hv,ha,_,hw⟩
    obtain⟨τ,rfl⟩:=(ac (hv.at 3 rfl (hdep.1 rfl)) (ac (hv.at 4 rfl (hdep.2.1 rfl)) az)).fq
    have hw:=hw.cA 22 (nf (fun h=>ft hD ((hcl 18 _ rfl ((hcl 19 _ rfl h).1 rfl)).1 rfl)))
    have hw:=hw.cA 23 (nf (fun h=>ft hD ((hcl 18 _ rfl ((hcl 19 _ rfl h).1 rfl)).1 rfl)))
    have hw:=hw.cP 23 (hdep.2.2.2.2.2.2.2.2.2.2.2.2.2.2.2.2.2.2.1 rfl)
    have hl910:=hw.eA 23
    have hr911:=fE (default:aT) hl910 cd
    refine RL.bU 22 hw zr zr AB hr911 ?_
    have hw:=hw.eV 22 (D 19) (nf (fun h=>ft hD ((hcl 18 _ rfl ((hcl 19 _ rfl h).1 rfl)).1 rfl))) (own 97 ab (us829.set (Int.toNat o) {(us829.getD (Int.toNat o) (default:aT)) with fW:=rv ad}))
    have hw:=(hw.cQ 23 (D 16) (hdep.2.2.2.2.2.2.2.2.2.2.2.2.2.2.2.2.2.2.1 rfl) (hU aU us829 aa.1 none)).eV 23 (D 19) (nf (fun h=>ft hD ((hcl 18 _ rfl ((hcl 19 _ rfl h).1 rfl)).1 rfl))) (hU aU (us829.set (Int.toNat o) {(us829.getD (Int.toNat o) (default:aT)) with fW:=rv ad}) (aa.1.set (Int.toNat o) {bl with fW:=bb}) none)
    exact RL.nil ⟨rfl,(aj,ak,ai,ad),hv.put 17 zr zr,ha.up zr,zt,hw⟩
   ·rintro D σ w hD hdep hcl ⟨⟨aj,ak,ai,ad⟩,hv,ha,_,hw⟩
    obtain⟨τ,rfl⟩:=(ac (hv.at 17 rfl (hdep.1 rfl)) az).fq
    have hw:=((hw.cA 22 (nf (fun h=>ft hD ((hcl 19 _ rfl h).1 rfl)))).cA 23 (nf (fun h=>ft hD ((hcl 19 _ rfl h).1 rfl)))).cP 23 (hdep.2.2.2.2.2.2.2.2.2.2.2.2.2.2.2.2.2.1 rfl)
    have hl912:=hw.eA 23
    have hr913:=fE (default:aT) hl912 cd
    refine RL.kM (α:=aT) zt (jA 22 hw hr913 0) BP ?_
    have hw:=(hw.eV 22 (D 19) (nf (fun h=>ft hD ((hcl 19 _ rfl h).1 rfl))) (own 97 ab (us829.set (Int.toNat o) {(us829.getD (Int.toNat o) (default:aT)) with fW:=rv ad}))).cQ 23 (D 16) (hdep.2.2.2.2.2.2.2.2.2.2.2.2.2.2.2.2.2.1 rfl) (hU aU us829 aa.1 none)
    have hw:=hw.eV 23 (D 19) (nf (fun h=>ft hD ((hcl 19 _ rfl h).1 rfl))) (hU aU (us829.set (Int.toNat o) {(us829.getD (Int.toNat o) (default:aT)) with fW:=rv ad}) (aa.1.set (Int.toNat o) {bl with fW:=bb}) none)
    exact RL.nil ⟨rfl,(aj,ak,ai,ad),hv.put 18 zr zr,ha.up zr,zt,hw⟩
   ·rintro D σ w hD hdep hcl ⟨⟨aj,ak,ai,ad⟩,hv,ha,_,hw⟩
    obtain⟨τ,rfl⟩:=(ac (hv.at 16 rfl (hdep.2.1 rfl)) (ac (hv.at 18 rfl (hdep.1 rfl)) az)).fq
    have hw:=((((hw.cA 3 hD).cP 3 (hdep.2.1 rfl)).cA 22 hD).cA 23 hD).cP 23 (hdep.2.1 rfl)
    have hl914:=hw.eA 23
    have hr915:=fE (default:aT) hl914 cd
    refine RL.sF 22 23 3 o nJ (default:aT) hw zr zr (jA 22 hw hr915 2) zr zr zr cd HQ fun w hw=>?_
    have hw:=((hw.cQ 3 true rfl (bif D 16 then (own 83 ad bb) else bB)).cQ 22 true rfl (own 97 ab us829)).cQ 23 true rfl (bif D 16 then (hU aU us829 aa.1 (some (Int.toNat o))) else (hU aU us829 aa.1 none))
    exact RL.nil ⟨rfl,(aj,ak,ai,ad),hv.no zr,ha,zt,hw⟩
   rintro D σ w hall ⟨⟨aj,ak,ai,ad⟩,hv,ha,_,hw⟩
   have hw:=hw.cP 0 (hall 13 (by decide))
   have hw:=hw.cP 1 (hall 14 (by decide))
   have hw:=hw.cP 2 (hall 16 (by decide))
   have hw:=hw.cP 3 (hall 19 (by decide))
   have hw:=hw.cP 22 (hall 19 (by decide))
   have hw:=hw.cP 23 (hall 19 (by decide))
   obtain⟨τ,rfl⟩:=(ac (ha.at 0 rfl) (ac (ha.at 1 rfl) (ac (ha.at 2 rfl) (ac (ha.at 3 rfl) (ac (ha.at 4 rfl) (ac (ha.at 5 rfl) (ac (ha.at 6 rfl) az))))))).fq
   obtain rfl:=oi hj
   exact⟨rfl,(us829.set (Int.toNat o) {(us829.getD (Int.toNat o) (default:aT)) with fW:=rv ad}),hw.sp 24 [4,18,19,20,21,22,23,14,15,16,17,6]⟩
  rintro _ w ⟨us877,τ,rfl,hw⟩
  refine aH ?_
  obtain⟨eh,ei,hb⟩:=bd hb
  obtain⟨ej,ek,hb⟩:=bd hb
  refine RC.Fi E Γ mixed [1,1,1,1,1,0,1,0,0,1,1,1,0,0,0,0,1,1,0,1,1,0] [7,8,13,14,15,18,21] (fun(x:Value×Value×Value×Value×Value)=>(fun an aq ao ag al=>[(0,205,(vp b0 0)),(1,206,(vp b0 0)),(2,207,(vp b0 0)),(3,208,(vp b0 0)),(4,209,(vp b0 10)),(5,210,a6),(6,211,(vi a3.2)),(7,212,an),(8,213,ag),(9,214,(vp b0 0)),(10,215,(vp b0 0)),(11,216,(vp b0 11)),(12,217,ax),(13,218,aq),(14,219,ao),(15,220,al),(16,221,(vp b0 0)),(17,222,(vp b0 10)),(19,223,(vp b0 0)),(20,224,(vp b0 11))]) x.1 x.2.1 x.2.2.1 x.2.2.2.1 x.2.2.2.2) [(0,vp b0 0),(15,vp bq 0),(17,vi a3.2),(170,v0_3),(171,vi p0_3.length),(172,vi bk)] [] (fun(D:Nat->Bool) (x:Value×Value×Value×Value×Value)=>(fun an aq ao ag al=>[bif D 1 then (rd an ([a3.2]: (List Int))) else (bif D 0 then (own 3 an ([a3.2]: (List Int))) else bB),bif D 2 then (rd aq a1.1) else bB,bif D 4 then (rd ao ([a1.1]: (List j9))) else (bif D 3 then (own 99 ao ([a1.1]: (List j9))) else bB),bif D 6 then (bc 48 b0 [v0_0,v0_1,v0_2,v0_3,v0_4,v0_5,v0_6,ab,au,av,ag,al]) else (bif D 5 then (bc 48 b0 [v0_0,v0_1,v0_2,v0_3,v0_4,v0_5,v0_6,ab,au,av,ag,ax]) else (bc 48 b0 [v0_0,v0_1,v0_2,v0_3,v0_4,v0_5,v0_6,ab,au,av,a6,ax])),rd v0_2 p0_2,rd v0_3 p0_3,rd v0_5 p0_5,rd v0_6 p0_6,own 97 ab us877,hU aU us877 a3.1 none,rd au aa.2.1,rd av aa.2.2.1,bif D 1 then (own 3 ag eh) else (own 3 a6 aa.2.2.2.1),bif D 4 then (own 99 al ej) else (own 99 ax aa.2.2.2.2),bx 99 bq a1.1]) x.1 x.2.1 x.2.2.1 x.2.2.2.1 x.2.2.2.2) (fun x=>by kernel_rfl) ?_ ⟨fun _=>jq gn,fun _=>jq gn,fun _=>jq gn,fun _=>wz gn,fun _=>nu gn GK,?_,fun _=>jq gn,?_,?_,fun _=>jq gn,fun _=>wz gn,fun _=>nu gn GL,?_,?_,?_,?_,fun _=>wz gn,fun _=>nu gn GK,?_,fun _=>wz gn,fun _=>nu gn GL,?_,trivial⟩ ?_
  ·have hw:=(((hw.drew).bB).bB).bB
   exact⟨(undef,undef,undef,undef,undef),gw.none,(D5 zr),zt,hw⟩
  ·rintro D σ w hD hdep hcl ⟨⟨an,aq,ao,ag,al⟩,hv,ha,_,hw⟩
   obtain⟨τ,rfl⟩:=(ac (hv.at 4 rfl (hdep.1 rfl)) az).fq
   have hw:=(hw.cA 3 (nf (fun h=>ft hD ((hcl 21 _ rfl h).2.2.2.2.2.2.2.2.1 rfl)))).cA 3 (nf (fun h=>ft hD ((hcl 18 _ rfl h).2.2.2.2.2.2.2.2.1 rfl)))
   refine RL.bH 3 a6 hw fA ?_
   have hw:=(hw.eV 3 (D 18) (nf (fun h=>ft hD ((hcl 18 _ rfl h).2.2.2.2.2.2.2.2.1 rfl))) (bc 48 b0 [v0_0,v0_1,v0_2,v0_3,v0_4,v0_5,v0_6,ab,au,av,ag,ax])).eV 3 (D 21) (nf (fun h=>ft hD ((hcl 21 _ rfl h).2.2.2.2.2.2.2.2.1 rfl))) (bc 48 b0 [v0_0,v0_1,v0_2,v0_3,v0_4,v0_5,v0_6,ab,au,av,ag,al])
   exact RL.nil ⟨rfl,(an,aq,ao,ag,al),hv.put 5 zr zr,ha.up zr,zt,hw⟩
  ·rintro D σ w hD hdep hcl ⟨⟨an,aq,ao,ag,al⟩,hv,ha,_,hw⟩
   obtain⟨τ,rfl⟩:=(ac (hv.at 6 rfl (hdep.1 rfl)) az).fq
   have hw:=((hw.cA 0 (nf (fun h=>ft hD ((hcl 8 _ rfl h).2.1 rfl)))).cA 0 hD).sc Int a3.2
   refine RL.dW ([a3.2]: (List Int)) hw [(vi a3.2)] eB Ch (fun M hs g=>⟨(g.sat 0 _ zr).1,zt⟩) fun da w hw=>?_
   have hw:=((hw.pl 17 [0,3,4,5,6,7,8,9,10,11,12,13,14,15,16]).cQ 0 true rfl bB).eV 0 (D 8) (nf (fun h=>ft hD ((hcl 8 _ rfl h).2.1 rfl))) (rd da ([a3.2]: (List Int)))
   exact RL.nil ⟨rfl,(da,aq,ao,ag,al),hv.put 7 zr zr,ha.up zr,zt,hw⟩
  ·rintro D σ w hD hdep hcl ⟨⟨an,aq,ao,ag,al⟩,hv,ha,_,hw⟩
   obtain⟨τ,rfl⟩:=(ac (hv.at 5 rfl (hdep.1 rfl)) (ac (hv.at 7 rfl (hdep.2.1 rfl)) az)).fq
   have hw:=(((hw.cA 0 hD).cP 0 (hdep.2.1 rfl)).cA 3 (nf (fun h=>ft hD ((hcl 21 _ rfl h).2.2.2.2.2.2.2.2.2.2.2.1 rfl)))).cA 3 (nf (fun h=>ft hD ((hcl 18 _ rfl h).2.1 rfl)))
   have hw:=(hw.cA 12 hD).freeze 0
   refine RL.app 12 0 hw qF ei fun cq w hw=>?_
   have hw:=((hw.cQ 0 true rfl (bif D 7 then (own 3 an ([a3.2]: (List Int))) else bB)).eV 3 (D 18) (nf (fun h=>ft hD ((hcl 18 _ rfl h).2.1 rfl))) (bc 48 b0 [v0_0,v0_1,v0_2,v0_3,v0_4,v0_5,v0_6,ab,au,av,cq,ax])).eV 3 (D 21) (nf (fun h=>ft hD ((hcl 21 _ rfl h).2.2.2.2.2.2.2.2.2.2.2.1 rfl))) (bc 48 b0 [v0_0,v0_1,v0_2,v0_3,v0_4,v0_5,v0_6,ab,au,av,cq,al])
   have hw:=hw.cQ 12 true rfl (own 3 a6 aa.2.2.2.1)
   exact RL.nil ⟨rfl,(an,aq,ao,cq,al),hv.put 8 zr zr,ha.up zr,zt,hw⟩
  ·rintro D σ w hD hdep hcl ⟨⟨an,aq,ao,ag,al⟩,hv,ha,_,hw⟩
   obtain⟨τ,rfl⟩:=(ac (hv.at 11 rfl (hdep.1 rfl)) az).fq
   have hw:=(hw.cA 3 (nf (fun h=>ft hD ((hcl 21 _ rfl h).2.2.2.2.2.2.2.2.2.2.2.2.2.2.2.1 rfl)))).cA 3 (nf (fun h=>ft hD ((hcl 18 _ rfl h).2.2.2.2.2.2.2.2.2.2.2.2.2.2.2.1 rfl)))
   refine RL.bH 3 ax hw Kt ?_
   have hw:=(hw.eV 3 (D 18) (nf (fun h=>ft hD ((hcl 18 _ rfl h).2.2.2.2.2.2.2.2.2.2.2.2.2.2.2.1 rfl))) (bc 48 b0 [v0_0,v0_1,v0_2,v0_3,v0_4,v0_5,v0_6,ab,au,av,ag,ax])).eV 3 (D 21) (nf (fun h=>ft hD ((hcl 21 _ rfl h).2.2.2.2.2.2.2.2.2.2.2.2.2.2.2.1 rfl))) (bc 48 b0 [v0_0,v0_1,v0_2,v0_3,v0_4,v0_5,v0_6,ab,au,av,ag,al])
   exact RL.nil ⟨rfl,(an,aq,ao,ag,al),hv.put 12 zr zr,ha.up zr,zt,hw⟩
  ·rintro D σ w hD hdep hcl ⟨⟨an,aq,ao,ag,al⟩,hv,ha,_,hw⟩
   obtain⟨τ,rfl⟩:=(ac (ha.at 1 rfl) az).fq
   have hw:=hw.cA 1 hD
   refine RL.bE (f:=(fun x=>x)) 14 hw zr Fd.self t6 fun el hw=>?_
   have hw:=(hw.pl 16 [1,0,3,4,5,6,7,8,9,10,11,12,13,14,15]).cQ 1 true rfl bB
   exact RL.nil ⟨rfl,(an,el,ao,ag,al),hv.put 13 zr zr,ha.up zr,zt,hw⟩
  ·rintro D σ w hD hdep hcl ⟨⟨an,aq,ao,ag,al⟩,hv,ha,_,hw⟩
   obtain⟨τ,rfl⟩:=(ac (hv.at 13 rfl (hdep.1 rfl)) az).fq
   have hw:=((hw.cP 1 (hdep.1 rfl)).cA 2 (nf (fun h=>ft hD ((hcl 15 _ rfl h).2.1 rfl)))).cA 2 hD
   refine RL.dW ([a1.1]: (List j9)) hw [aq] L4 GJ (fun M hs g=>⟨(g.sat 1 _ zr).1,zt⟩) fun db w hw=>?_
   have hw:=(((hw.pl 16 [1,2,0,4,5,6,7,8,9,10,11,12,13,14,15]).cQ 1 (D 13) (hdep.1 rfl) bB).cQ 2 true rfl bB).eV 2 (D 15) (nf (fun h=>ft hD ((hcl 15 _ rfl h).2.1 rfl))) (rd db ([a1.1]: (List j9)))
   exact RL.nil ⟨rfl,(an,aq,db,ag,al),hv.put 14 zr zr,ha.up zr,zt,hw⟩
  ·rintro D σ w hD hdep hcl ⟨⟨an,aq,ao,ag,al⟩,hv,ha,_,hw⟩
   obtain⟨τ,rfl⟩:=(ac (hv.at 12 rfl (hdep.1 rfl)) (ac (hv.at 14 rfl (hdep.2.1 rfl)) az)).fq
   have hw:=(((hw.cA 2 hD).cP 2 (hdep.2.1 rfl)).cA 3 (nf (fun h=>ft hD ((hcl 21 _ rfl h).2.1 rfl)))).cA 3 (nf (fun h=>ft hD ((hcl 18 _ rfl h).2.2.1 rfl)))
   have hw:=(hw.cA 13 hD).freeze 2
   refine RL.app 13 2 hw L5 ek fun dc w hw=>?_
   have hw:=((hw.cQ 2 true rfl (bif D 14 then (own 99 ao ([a1.1]: (List j9))) else bB)).eV 3 (D 18) (nf (fun h=>ft hD ((hcl 18 _ rfl h).2.2.1 rfl))) (bc 48 b0 [v0_0,v0_1,v0_2,v0_3,v0_4,v0_5,v0_6,ab,au,av,ag,ax])).eV 3 (D 21) (nf (fun h=>ft hD ((hcl 21 _ rfl h).2.1 rfl))) (bc 48 b0 [v0_0,v0_1,v0_2,v0_3,v0_4,v0_5,v0_6,ab,au,av,ag,dc])
   have hw:=hw.cQ 13 true rfl (own 99 ax aa.2.2.2.2)
   exact RL.nil ⟨rfl,(an,aq,ao,ag,dc),hv.put 15 zr zr,ha.up zr,zt,hw⟩
  ·rintro D σ w hD hdep hcl ⟨⟨an,aq,ao,ag,al⟩,hv,ha,_,hw⟩
   obtain⟨τ,rfl⟩:=(ac (hv.at 8 rfl (hdep.2.1 rfl)) (ac (hv.at 17 rfl (hdep.1 rfl)) az)).fq
   have hw:=((hw.cA 3 (nf (fun h=>ft hD ((hcl 21 _ rfl h).2.2.1 rfl)))).cA 3 hD).cP 12 (hdep.2.1 rfl)
   refine RL.ig 3 ag hw zr zr (iD 12 hw) fA fun w hw=>?_
   have hw:=((hw.cQ 3 true rfl (bc 48 b0 [v0_0,v0_1,v0_2,v0_3,v0_4,v0_5,v0_6,ab,au,av,a6,ax])).eV 3 (D 21) (nf (fun h=>ft hD ((hcl 21 _ rfl h).2.2.1 rfl))) (bc 48 b0 [v0_0,v0_1,v0_2,v0_3,v0_4,v0_5,v0_6,ab,au,av,ag,al])).cQ 12 (D 8) (hdep.2.1 rfl) (own 3 a6 aa.2.2.2.1)
   exact RL.nil ⟨rfl,(an,aq,ao,ag,al),hv.no zr,ha,zt,hw⟩
  ·rintro D σ w hD hdep hcl ⟨⟨an,aq,ao,ag,al⟩,hv,ha,_,hw⟩
   obtain⟨τ,rfl⟩:=(ac (hv.at 15 rfl (hdep.2.1 rfl)) (ac (hv.at 19 rfl (hdep.1 rfl)) az)).fq
   have hw:=((hw.cA 3 hD).cP 3 (hdep.2.2.1 rfl)).cP 13 (hdep.2.1 rfl)
   refine RL.ig 3 al hw zr zr (iD 13 hw) Kt fun w hw=>?_
   have hw:=(hw.cQ 3 true rfl (bif D 18 then (bc 48 b0 [v0_0,v0_1,v0_2,v0_3,v0_4,v0_5,v0_6,ab,au,av,ag,ax]) else (bc 48 b0 [v0_0,v0_1,v0_2,v0_3,v0_4,v0_5,v0_6,ab,au,av,a6,ax]))).cQ 13 (D 15) (hdep.2.1 rfl) (own 99 ax aa.2.2.2.2)
   exact RL.nil ⟨rfl,(an,aq,ao,ag,al),hv.no zr,ha,zt,hw⟩
  rintro D σ w hall ⟨⟨an,aq,ao,ag,al⟩,hv,ha,_,hw⟩
  have hw:=hw.cP 0 (hall 8 (by decide))
  have hw:=hw.cP 1 (hall 13 (by decide))
  have hw:=hw.cP 2 (hall 15 (by decide))
  have hw:=hw.cP 3 (hall 21 (by decide))
  have hw:=hw.cP 12 (hall 8 (by decide))
  have hw:=hw.cP 13 (hall 15 (by decide))
  obtain⟨τ,rfl⟩:=(ac (ha.at 0 rfl) (ac (ha.at 1 rfl) (ac (ha.at 2 rfl) (ac (ha.at 3 rfl) (ac (ha.at 4 rfl) (ac (ha.at 5 rfl) az)))))).fq
  refine bO (aH (RC.region (RL.inc hk hm (mv (vi ((bk+1:Nat):Int)) (RL.nil ?_)))))
  obtain rfl:=oi hb
  exact⟨rfl,au,av,ag,al,us877,hw.sp 15 [3,10,11,12,13,4,5,6,7,8,9]⟩
 rintro _ w ⟨b9,ca,cb,cc,us824,τ,rfl,hw⟩
 obtain rfl:=oi hb
 have hw:=hw.yU (X:=aU) (b:=10) (j:=9) rfl (fun M h u x cs=>wK M h u x cs) rfl rfl (by decide)
 refine Cj ?_
 exact Hv zr ⟨ab,b9,ca,cb,cc,zr,hw.pk 11 [0,9,1,2,3,4]⟩
def vu (E:World) (Γ:List HP) (res:Option ((List (List aI))×(List aI)×(List cD)×(List fK)×(List (List aA))×(List aK)×(List (List Int))×(List cO)×(List Int)×(List Int)×(List Int)×(List j9))×Int) (v:Value) (w:World):Prop:=Gn res.1 (v = .tuple #[(.pointer none),(vi res.2)]/\Holds E w Γ) (fun y=>∃(ub0:Nat) (u0_0 u0_1:Value) (u0_2 u0_3:Value) (u0_4 u0_5:Value) (u0_6 u0_7:Value) (u0_8 u0_9:Value) (u0_10 u0_11:Value),v = .tuple #[vp ub0 0,(vi res.2)]/\Holds E w ([bc 48 ub0 [u0_0,u0_1,u0_2,u0_3,u0_4,u0_5,u0_6,u0_7,u0_8,u0_9,u0_10,u0_11],rd u0_0 y.1,rd u0_1 y.2.1,rd u0_2 y.2.2.1,rd u0_3 y.2.2.2.1,own 50 u0_4 y.2.2.2.2.1,rd u0_5 y.2.2.2.2.2.1,rd u0_6 y.2.2.2.2.2.2.1,own 97 u0_7 y.2.2.2.2.2.2.2.1,rd u0_8 y.2.2.2.2.2.2.2.2.1,rd u0_9 y.2.2.2.2.2.2.2.2.2.1,own 3 u0_10 y.2.2.2.2.2.2.2.2.2.2.1,own 99 u0_11 y.2.2.2.2.2.2.2.2.2.2.2]++Γ))
def rp (E:World) (Γ:List HP) (r:Option ((List (List aI))×(List aI)×(List cD)×(List fK)×(List (List aA))×(List aK)×(List (List Int))×(List cO)×(List Int)×(List Int)×(List Int)×(List j9))×Int) (σ:Nat->Value) (w:World):Prop:=lZ bM 112 Tryz.f11 (vu E Γ r) .ret σ w
theorem uq {p0:ld} {res:Option ((List (List aI))×(List aI)×(List cD)×(List fK)×(List (List aA))×(List aK)×(List (List Int))×(List cO)×(List Int)×(List Int)×(List Int)×(List j9))×Int} (hw:Holds E w Γ) (h0:Γ[i0]? =some (rd v0 p0)) (hb:iO N p0=some res):
    Calls bM 11 [v0].toArray w (gL (vu E Γ res)):=by
 unfold iO at hb
 refine enter Tryz.func11 zr zr ?_
 have hw:=hw.dup (i0+0) h0
 refine RC.sr (RL.dJ 0 v0 hw zr fun ag w hw=>?_)
 refine aQ (.pointer none) (aQ (vi 0) (RL.nq (RC.sr (RL.aX zr me (RL.bE 0 hw zr iS oD fun cj hw=>(RL.bC 0 p0.aJ hw pE (ic ((p0.aJ.length:Int)) 0 (RL.nt ?_))))))))
 refine dT hb (fun hc hb=>?_) fun hc hb=>?_
 ·refine RC.sr (aQ (.pointer none) (aQ (vi 9) (RL.nt (RC.rt ?_))))
  obtain rfl:=oi hb
  exact oy ⟨rfl,hw.drop 3⟩
 refine RC.ss (RC.sr (RL.aX zr me (RL.bE 1 hw zr iS oD fun ck hw=>(RL.bC 0 p0.aJ hw pE (ic ((p0.aJ.length:Int)) 16 (RL.nt (dT hb (fun hc hb=>?_) fun hc hb=>?_)))))))
 ·refine RC.sr (aQ (.pointer none) (aQ (vi 2) (RL.nt (RC.rt ?_))))
  obtain rfl:=oi hb
  exact oy ⟨rfl,hw.drop 4⟩
 refine RC.sx (RL.aX zr BL (RL.bE 2 hw zr rG rH fun cl hw=>(RL.bC 0 p0.cE hw mS (aQ (vi p0.cE.length) (RL.nq (RC.sr (RL.aX zr me (RL.bE 3 hw zr iS oD fun a7 hw=>?_))))))))
 refine RL.bC 0 p0.aJ hw pE (mv (vi 0) (RL.nt ?_))
 obtain⟨cm,hN,hb⟩:=bd hb
 refine RC.range (fun(a2:Nat) (al:Int)=>SH E Γ [(1,vp ag 0),(4,vi al),(28,a7),(29,vi p0.aJ.length),(30,vi a2)] [bx 27 ag p0,rd a7 p0.aJ]) (fun(al:Int)=>SH E Γ [(1,vp ag 0),(4,vi al)] [bx 27 ag p0,rd a7 p0.aJ]) (rp E Γ) hN ?_ ?_ ?_ ?_ ?_
 ·exact hw.sp 6 [4,0]
 ·rintro hm al _ w ⟨τ,rfl,hw⟩
  refine RC.sr (ic ((p0.aJ.length:Int)) ((p0.aJ.length:Int)) (RL.nq (RC.fV tN (RC.ex ?_))))
  exact⟨rfl,hw.sp 2 [0,1]⟩
 ·rintro hm a2 al fl _ w hk ⟨τ,rfl,hw⟩ hb
  refine RC.sr (ic ((a2:Int)) ((p0.aJ.length:Int)) (RL.nq (RC.fU (tM hk) (RC.ss (RC.bs ?_)))))
  obtain⟨a3,bc,hb⟩:=bd hb
  refine RL.bN 1 hw tz bc fun cn hw=>(RL.bL 0 a3 hw rH fun a4 hw=>(aQ a4 (RL.nq (RC.sr (mv a4 ?_)))))
  obtain⟨ar,bf,hb⟩:=bd hb
  refine RL.call zt zr J0 [a4] zr (aD (oS N (i0:=0) hw zr bf) ?_)
  rintro _ w ⟨rfl,hw⟩
  refine aQ (vi ar) (RL.ns (mv (vi ar) (ic ar 0 (RL.nt (dT hb (fun hc hb=>?_) fun hc hb=>?_)))))
  ·refine RC.sr (mv (vi ar) (aQ (.pointer none) (aQ (vi ar) (RL.nt (RC.rt (nX (bS ?_)))))))
   obtain rfl:=oi hb
   exact⟨rfl,oy ⟨rfl,hw.drop 4⟩⟩
  refine RC.sn (RC.region (mv (vi al) (mv a4 (RL.bC 0 a3 hw mS (RL.fQ al (a3.length:Int) (aQ (vi (IntKind.wrap .i64 (al+ (a3.length:Int)))) (RL.nil (bO ?_))))))))
  refine aH (RC.region (RL.inc hk hm (mv (vi ((a2+1:Nat):Int)) (RL.nil ?_))))
  obtain rfl:=oi hb
  exact⟨rfl,hw.sp 4 [2,3]⟩
 ·intro r σ w e hK
  subst e
  refine bS ?_
  obtain rfl:=oi hb
  exact hK
 rintro al _ w rfl ⟨τ,rfl,hw⟩
 rw [Fo.dF] at hb
 refine aH (RC.seq (RC.sr (RL.aX zr BL (RL.bE 0 hw zr rG rH fun bg hw=>?_))))
 obtain⟨au,bh,hb⟩:=bd hb
 refine RL.call zt zr J0 [bg] zr (aD (oS N (i0:=0) hw zr bh) ?_)
 rintro _ w ⟨rfl,hw⟩
 refine aQ (vi au) (RL.ns (mv (vi au) (ic au 0 (RL.nt (dT hb (fun hc hb=>?_) fun hc hb=>?_)))))
 ·refine RC.sr (mv (vi au) (aQ (.pointer none) (aQ (vi au) (RL.nt (RC.rt ?_)))))
  obtain rfl:=oi hb
  exact oy ⟨rfl,hw.drop 3⟩
 refine RC.ss (RC.sr (mv (vi al) (ic al 2000 (RL.nt (dT hb (fun hc hb=>?_) fun hc hb=>?_)))))
 ·refine RC.sr (aQ (.pointer none) (aQ (vi 2) (RL.nt (RC.rt ?_))))
  obtain rfl:=oi hb
  exact oy ⟨rfl,hw.drop 3⟩
 refine RC.ss (RC.sr (RL.bE (f:=(fun x=>x)) 1 hw zr Fd.self tx fun bj hw=>?_))
 obtain⟨av,bk,hb⟩:=bd hb
 refine RL.call zt zr LC [bj] zr (aD (uc N (i0:=0) hw zr bk) ?_)
 rintro _ w ⟨rfl,hw⟩
 refine aQ (vi av) (RL.ns (mv (vi av) (ic av 0 (RL.nt (dT hb (fun hc hb=>?_) fun hc hb=>?_)))))
 ·refine RC.sr (mv (vi av) (aQ (.pointer none) (aQ (vi av) (RL.nt (RC.rt ?_)))))
  obtain rfl:=oi hb
  exact oy ⟨rfl,hw.drop 4⟩
 refine RC.ss (RC.sr (RL.bE (f:=(fun x=>x)) 2 hw zr Fd.self tx fun bl hw=>?_))
 obtain⟨aw,bm,hb⟩:=bd hb
 refine RL.call zt zr LK [bl] zr (aD (ug N (i0:=0) hw zr bm) ?_)
 rintro _ w ⟨rfl,hw⟩
 refine aQ (vi aw) (RL.ns (mv (vi aw) (ic aw 0 (RL.nt (dT hb (fun hc hb=>?_) fun hc hb=>?_)))))
 ·refine RC.sr (mv (vi aw) (aQ (.pointer none) (aQ (vi aw) (RL.nt (RC.rt ?_)))))
  obtain rfl:=oi hb
  exact oy ⟨rfl,hw.drop 5⟩
 refine RC.ss (RC.sr (RL.aX zr gC (RL.bE 3 hw zr gk mT fun aj hw=>(RL.bC 0 p0.aO hw t3 (mv (vi 0) (RL.nt ?_))))))
 obtain⟨cp,hN,hb⟩:=bd hb
 refine RC.range (fun(ak:Nat) (a5:Unit)=>SH E Γ [(1,vp ag 0),(63,aj),(64,vi p0.aO.length),(65,vi ak)] [bx 27 ag p0,rd aj p0.aO]) (fun(a5:Unit)=>SH E Γ [(1,vp ag 0)] [bx 27 ag p0,rd aj p0.aO]) (rp E Γ) hN ?_ ?_ ?_ ?_ ?_
 ·exact hw.sp 6 [4,0]
 ·rintro hm a5 _ w ⟨τ,rfl,hw⟩
  refine RC.sr (ic ((p0.aO.length:Int)) ((p0.aO.length:Int)) (RL.nq (RC.fV tN (RC.ex ?_))))
  exact⟨rfl,hw.sp 2 [0,1]⟩
 ·rintro hm ak a5 fl _ w hk ⟨τ,rfl,hw⟩ hb
  refine RC.sr (ic ((ak:Int)) ((p0.aO.length:Int)) (RL.nq (RC.fU (tM hk) (RC.ss (RC.bs (mv (vi ak) ?_))))))
  obtain⟨o,bn,hb⟩:=bd hb
  refine RL.bN 1 hw qc bn fun cq hw=>(RL.bL 0 o hw lP fun cr hw=>(RL.alloc hw D6.z fun af w hw=>?_))
  refine aQ (vi ak) (RL.cB 0 hw 1 zr lP fun w hw=>?_)
  refine RL.ns (RL.aX zr gC (RL.bE 3 hw zr gk mT fun ct hw=>(mv (vi ak) ?_)))
  obtain⟨tv,bo,hb⟩:=bd hb
  refine RL.cut (hl:= .inr ⟨rfl,zr⟩) 0 hw qc (.inl zr) bo fun ao hw=>(RL.bC 0 tv hw t3 (mv (vi 0) (RL.nt ?_)))
  obtain⟨cu,hN,hb⟩:=bd hb
  refine RC.range (fun(aq:Nat) (a6:Unit)=>SH E Γ [(1,vp ag 0),(12,vp af 0),(63,aj),(64,vi p0.aO.length),(65,vi ak),(73,ao),(74,vi tv.length),(75,vi aq)] [bx 27 ag p0,bx 65 af o,rd aj p0.aO,rd ao tv]) (fun(a6:Unit)=>SH E Γ [(1,vp ag 0),(63,aj),(64,vi p0.aO.length),(65,vi ak)] [bx 27 ag p0,bx 65 af o,rd aj p0.aO,rd ao tv]) (rp E Γ) hN ?_ ?_ ?_ ?_ ?_
  ·exact hw.sp 7 [5,2,6,0]
  ·rintro hm a6 _ w ⟨τ,rfl,hw⟩
   refine RC.sr (ic ((tv.length:Int)) ((tv.length:Int)) (RL.nq (RC.fV tN (RC.ex ?_))))
   exact⟨rfl,hw.sp 4 [0,1,2,3]⟩
  ·rintro hm aq a6 fl _ w hk ⟨τ,rfl,hw⟩ hb
   refine RC.sr (ic ((aq:Int)) ((tv.length:Int)) (RL.nq (RC.fU (tM hk) (RC.ss (RC.bs ?_)))))
   obtain⟨j,bp,hb⟩:=bd hb
   refine RL.bN 3 hw qc bp fun ba hw=>(RL.bL 0 j hw lP fun bb hw=>(RL.alloc hw D6.z fun ai w hw=>?_))
   refine RL.cB 0 hw 1 zr lP fun w hw=>?_
   refine RL.nq ?_
   obtain⟨a8,hj,hb⟩:=bd hb
   refine RC.jn (fun(a8:Bool)=>SH E Γ [(1,vp ag 0),(12,vp af 0),(63,aj),(64,vi p0.aO.length),(65,vi ak),(73,ao),(74,vi tv.length),(75,vi aq),(98,vb a8)] [bx 27 ag p0,bx 65 af o,rd aj p0.aO,rd ao tv]) a8 ?_ ?_
   ·refine fB hj (fun ah hj=>?_) fun ah hj=>?_
    rotate_left
    ·refine RC.Fi E Γ mixed [1,0,1,0,1,1,0,0,0,0,0,0,1,1,1,1,1,1,1,1] [] (fun(x:Unit)=>[(0,79,(vp af 3)),(1,80,(vi o.cN)),(2,81,(vp ai 4)),(3,82,(vi j.To)),(4,83,(vb (decide (o.cN<=j.To)))),(5,84,(vb (decide (o.cN<=j.To)))),(6,85,(cv (true&&((decide (o.cN<=j.To))==true)) (vp ai 3))),(7,86,(cv (true&&((decide (o.cN<=j.To))==true)) (vi j.cN))),(8,87,(cv (true&&((decide (o.cN<=j.To))==true)) (vp af 4))),(9,88,(cv (true&&((decide (o.cN<=j.To))==true)) (vi o.To))),(10,89,(cv (true&&((decide (o.cN<=j.To))==true)) (vb (decide (j.cN<=o.To))))),(11,90,(vb ((decide (o.cN<=j.To))&&(decide (j.cN<=o.To))))),(12,91,(vb ((decide (o.cN<=j.To))&&(decide (j.cN<=o.To))))),(13,92,undef),(14,93,undef),(15,94,undef),(16,95,undef),(17,96,undef),(18,97,undef),(19,98,(vb false))]) [(1,vp ag 0),(12,vp af 0),(14,vp ai 0),(63,aj),(64,vi p0.aO.length),(65,vi ak),(73,ao),(74,vi tv.length),(75,vi aq)] [] (fun(D:Nat->Bool) (x:Unit)=>[bx 65 ai j,rd bb j,pt ba j,bx 27 ag p0,bx 65 af o,rd aj p0.aO,rd ao tv]) (fun x=>by kernel_rfl) ?_ ⟨fun _=>nu gn o9,?_,fun _=>nu gn re,?_,fun _=>I1 gn rfl,fun _=>jq gn,?_,?_,?_,?_,?_,?_,fun _=>jq gn,fun _=>rE ah,fun _=>rE ah,fun _=>rE ah,fun _=>rE ah,fun _=>rE ah,fun _=>rE ah,fun _=>JP gn ah rfl,trivial⟩ ?_
     ·have hw:=hw.drew
      exact⟨(),gw.none,(D5 zr),zt,hw⟩
     ·rintro D σ w hD hdep hcl ⟨_,hv,ha,_,hw⟩
      obtain⟨τ,rfl⟩:=(ac (hv.at 0 rfl (hdep.1 rfl)) az).fq
      refine RL.aM 4 hw zr kf cJ ?_
      exact RL.nil ⟨rfl,(),hv.put 1 zr zr,ha.up zr,zt,hw⟩
     ·rintro D σ w hD hdep hcl ⟨_,hv,ha,_,hw⟩
      obtain⟨τ,rfl⟩:=(ac (hv.at 2 rfl (hdep.1 rfl)) az).fq
      refine RL.aM 0 hw zr lJ cJ ?_
      exact RL.nil ⟨rfl,(),hv.put 3 zr zr,ha.up zr,zt,hw⟩
     ·rintro D σ w hD hdep hcl ⟨_,hv,ha,_,hw⟩
      obtain⟨τ,rfl⟩:=(ac (hv.at 5 rfl (hdep.1 rfl)) (ac (ha.at 2 rfl) az)).fq
      refine RL.gs true (decide (o.cN<=j.To)) (vp ai 3) zr zr zr (dY o9) ?_
      exact RL.nil ⟨rfl,(),hv.put 6 zr zr,ha.up zr,zt,hw⟩
     ·rintro D σ w hD hdep hcl ⟨_,hv,ha,_,hw⟩
      obtain⟨τ,rfl⟩:=(ac (hv.at 5 rfl (hdep.2.1 rfl)) (ac (hv.at 6 rfl (hdep.1 rfl)) az)).fq
      refine RL.gs true (decide (o.cN<=j.To)) (vi j.cN) rfl rfl rfl (bZ 0 rfl hw (fun h=>by exact(cI h:cv (true&&((decide (o.cN<=j.To))==true)) (vp ai 3)= (vp ai 3))) rfl kf cJ) ?_
      exact RL.nil ⟨rfl,(),hv.put 7 zr zr,ha.up zr,zt,hw⟩
     ·rintro D σ w hD hdep hcl ⟨_,hv,ha,_,hw⟩
      obtain⟨τ,rfl⟩:=(ac (hv.at 5 rfl (hdep.1 rfl)) (ac (ha.at 1 rfl) az)).fq
      refine RL.gs true (decide (o.cN<=j.To)) (vp af 4) zr zr zr (dY re) ?_
      exact RL.nil ⟨rfl,(),hv.put 8 zr zr,ha.up zr,zt,hw⟩
     ·rintro D σ w hD hdep hcl ⟨_,hv,ha,_,hw⟩
      obtain⟨τ,rfl⟩:=(ac (hv.at 5 rfl (hdep.2.1 rfl)) (ac (hv.at 8 rfl (hdep.1 rfl)) az)).fq
      refine RL.gs true (decide (o.cN<=j.To)) (vi o.To) rfl rfl rfl (bZ 4 rfl hw (fun h=>by exact(cI h:cv (true&&((decide (o.cN<=j.To))==true)) (vp af 4)= (vp af 4))) rfl lJ cJ) ?_
      exact RL.nil ⟨rfl,(),hv.put 9 zr zr,ha.up zr,zt,hw⟩
     ·rintro D σ w hD hdep hcl ⟨_,hv,ha,_,hw⟩
      obtain⟨τ,rfl⟩:=(ac (hv.at 5 rfl (hdep.2.2.1 rfl)) (ac (hv.at 7 rfl (hdep.1 rfl)) (ac (hv.at 9 rfl (hdep.2.1 rfl)) az))).fq
      refine RL.gs true (decide (o.cN<=j.To)) (vb (decide (j.cN<=o.To))) rfl rfl rfl (dI .leq .i64 j.cN o.To rfl (fun h=>by exact(cI h:cv (true&&((decide (o.cN<=j.To))==true)) (vi j.cN)= (vi j.cN))) (fun h=>by exact(cI h:cv (true&&((decide (o.cN<=j.To))==true)) (vi o.To)= (vi o.To))) rfl) ?_
      exact RL.nil ⟨rfl,(),hv.put 10 zr zr,ha.up zr,zt,hw⟩
     ·rintro D σ w hD hdep hcl ⟨_,hv,ha,_,hw⟩
      obtain⟨τ,rfl⟩:=(ac (hv.at 5 rfl (hdep.1 rfl)) (ac (hv.at 10 rfl (hdep.2.1 rfl)) az)).fq
      refine RL.pick (decide (o.cN<=j.To)) (vb ((decide (o.cN<=j.To))&&(decide (j.cN<=o.To)))) (fZ true zr) ?_
      exact RL.nil ⟨rfl,(),hv.put 11 zr zr,ha.up zr,zt,hw⟩
     rintro D σ w hall ⟨_,hv,ha,_,hw⟩
     obtain⟨τ,rfl⟩:=(ac (hv.at 19 rfl (hall 19 (by decide))) (ac (ha.at 0 rfl) (ac (ha.at 1 rfl) (ac (ha.at 2 rfl) (ac (ha.at 3 rfl) (ac (ha.at 4 rfl) (ac (ha.at 5 rfl) (ac (ha.at 6 rfl) (ac (ha.at 7 rfl) (ac (ha.at 8 rfl) az)))))))))).fq
     obtain rfl:=oi hj
     exact⟨rfl,hw.sp 7 [3,4,5,6]⟩
    obtain⟨bq,br,hj⟩:=bd hj
    obtain⟨bt,bu,hj⟩:=bd hj
    obtain⟨a9,bw,hj⟩:=bd hj
    refine RC.Fi E Γ mixed [1,0,1,0,1,1,0,0,0,0,0,0,1,0,0,0,0,0,1,1] [13,14,15,16] (fun(x:Value×Value×Value×Value)=>(fun aa ab ad ae=>[(0,79,(vp af 3)),(1,80,(vi o.cN)),(2,81,(vp ai 4)),(3,82,(vi j.To)),(4,83,(vb (decide (o.cN<=j.To)))),(5,84,(vb (decide (o.cN<=j.To)))),(6,85,(cv (true&&((decide (o.cN<=j.To))==true)) (vp ai 3))),(7,86,(cv (true&&((decide (o.cN<=j.To))==true)) (vi j.cN))),(8,87,(cv (true&&((decide (o.cN<=j.To))==true)) (vp af 4))),(9,88,(cv (true&&((decide (o.cN<=j.To))==true)) (vi o.To))),(10,89,(cv (true&&((decide (o.cN<=j.To))==true)) (vb (decide (j.cN<=o.To))))),(11,90,(vb ((decide (o.cN<=j.To))&&(decide (j.cN<=o.To))))),(12,91,(vb ((decide (o.cN<=j.To))&&(decide (j.cN<=o.To))))),(13,92,aa),(14,93,ab),(15,94,ad),(16,95,ae),(17,96,(vi a9)),(18,97,(vb (a9==0))),(19,98,(vb (a9==0)))]) x.1 x.2.1 x.2.2.1 x.2.2.2) [(1,vp ag 0),(12,vp af 0),(14,vp ai 0),(63,aj),(64,vi p0.aO.length),(65,vi ak),(73,ao),(74,vi tv.length),(75,vi aq)] [] (fun(D:Nat->Bool) (x:Value×Value×Value×Value)=>(fun aa ab ad ae=>[bif D 0 then (rd aa o) else bB,bif D 1 then (rd ab bq) else bB,bif D 2 then (rd ad j) else bB,bif D 3 then (rd ae bt) else bB,bx 65 ai j,rd bb j,pt ba j,bx 27 ag p0,bx 65 af o,rd aj p0.aO,rd ao tv]) x.1 x.2.1 x.2.2.1 x.2.2.2) (fun x=>by kernel_rfl) ?_ ⟨fun _=>nu gn o9,?_,fun _=>nu gn re,?_,fun _=>I1 gn rfl,fun _=>jq gn,?_,?_,?_,?_,?_,?_,fun _=>jq gn,?_,?_,?_,?_,?_,fun _=>I1 (gy ah) rfl,fun _=>JO gn ah rfl,trivial⟩ ?_
    ·have hw:=((((hw.drew).bB).bB).bB).bB
     exact⟨(undef,undef,undef,undef),gw.none,(D5 zr),zt,hw⟩
    ·rintro D σ w hD hdep hcl ⟨⟨aa,ab,ad,ae⟩,hv,ha,_,hw⟩
     obtain⟨τ,rfl⟩:=(ac (hv.at 0 rfl (hdep.1 rfl)) az).fq
     refine RL.aM 8 hw zr kf cJ ?_
     exact RL.nil ⟨rfl,(aa,ab,ad,ae),hv.put 1 zr zr,ha.up zr,zt,hw⟩
    ·rintro D σ w hD hdep hcl ⟨⟨aa,ab,ad,ae⟩,hv,ha,_,hw⟩
     obtain⟨τ,rfl⟩:=(ac (hv.at 2 rfl (hdep.1 rfl)) az).fq
     refine RL.aM 4 hw zr lJ cJ ?_
     exact RL.nil ⟨rfl,(aa,ab,ad,ae),hv.put 3 zr zr,ha.up zr,zt,hw⟩
    ·rintro D σ w hD hdep hcl ⟨⟨aa,ab,ad,ae⟩,hv,ha,_,hw⟩
     obtain⟨τ,rfl⟩:=(ac (hv.at 5 rfl (hdep.1 rfl)) (ac (ha.at 2 rfl) az)).fq
     refine RL.gs true (decide (o.cN<=j.To)) (vp ai 3) zr zr zr (dY o9) ?_
     exact RL.nil ⟨rfl,(aa,ab,ad,ae),hv.put 6 zr zr,ha.up zr,zt,hw⟩
    ·rintro D σ w hD hdep hcl ⟨⟨aa,ab,ad,ae⟩,hv,ha,_,hw⟩
     obtain⟨τ,rfl⟩:=(ac (hv.at 5 rfl (hdep.2.1 rfl)) (ac (hv.at 6 rfl (hdep.1 rfl)) az)).fq
     refine RL.gs true (decide (o.cN<=j.To)) (vi j.cN) rfl rfl rfl (bZ 4 rfl hw (fun h=>by exact(cI h:cv (true&&((decide (o.cN<=j.To))==true)) (vp ai 3)= (vp ai 3))) rfl kf cJ) ?_
     exact RL.nil ⟨rfl,(aa,ab,ad,ae),hv.put 7 zr zr,ha.up zr,zt,hw⟩
    ·rintro D σ w hD hdep hcl ⟨⟨aa,ab,ad,ae⟩,hv,ha,_,hw⟩
     obtain⟨τ,rfl⟩:=(ac (hv.at 5 rfl (hdep.1 rfl)) (ac (ha.at 1 rfl) az)).fq
     refine RL.gs true (decide (o.cN<=j.To)) (vp af 4) zr zr zr (dY re) ?_
     exact RL.nil ⟨rfl,(aa,ab,ad,ae),hv.put 8 zr zr,ha.up zr,zt,hw⟩
    ·rintro D σ w hD hdep hcl ⟨⟨aa,ab,ad,ae⟩,hv,ha,_,hw⟩
     obtain⟨τ,rfl⟩:=(ac (hv.at 5 rfl (hdep.2.1 rfl)) (ac (hv.at 8 rfl (hdep.1 rfl)) az)).fq
     refine RL.gs true (decide (o.cN<=j.To)) (vi o.To) rfl rfl rfl (bZ 8 rfl hw (fun h=>by exact(cI h:cv (true&&((decide (o.cN<=j.To))==true)) (vp af 4)= (vp af 4))) rfl lJ cJ) ?_
     exact RL.nil ⟨rfl,(aa,ab,ad,ae),hv.put 9 zr zr,ha.up zr,zt,hw⟩
    ·rintro D σ w hD hdep hcl ⟨⟨aa,ab,ad,ae⟩,hv,ha,_,hw⟩
     obtain⟨τ,rfl⟩:=(ac (hv.at 5 rfl (hdep.2.2.1 rfl)) (ac (hv.at 7 rfl (hdep.1 rfl)) (ac (hv.at 9 rfl (hdep.2.1 rfl)) az))).fq
     refine RL.gs true (decide (o.cN<=j.To)) (vb (decide (j.cN<=o.To))) rfl rfl rfl (dI .leq .i64 j.cN o.To rfl (fun h=>by exact(cI h:cv (true&&((decide (o.cN<=j.To))==true)) (vi j.cN)= (vi j.cN))) (fun h=>by exact(cI h:cv (true&&((decide (o.cN<=j.To))==true)) (vi o.To)= (vi o.To))) rfl) ?_
     exact RL.nil ⟨rfl,(aa,ab,ad,ae),hv.put 10 zr zr,ha.up zr,zt,hw⟩
    ·rintro D σ w hD hdep hcl ⟨⟨aa,ab,ad,ae⟩,hv,ha,_,hw⟩
     obtain⟨τ,rfl⟩:=(ac (hv.at 5 rfl (hdep.1 rfl)) (ac (hv.at 10 rfl (hdep.2.1 rfl)) az)).fq
     refine RL.pick (decide (o.cN<=j.To)) (vb ((decide (o.cN<=j.To))&&(decide (j.cN<=o.To)))) (fZ true zr) ?_
     exact RL.nil ⟨rfl,(aa,ab,ad,ae),hv.put 11 zr zr,ha.up zr,zt,hw⟩
    ·rintro D σ w hD hdep hcl ⟨⟨aa,ab,ad,ae⟩,hv,ha,_,hw⟩
     obtain⟨τ,rfl⟩:=(ac (hv.at 12 rfl (hdep.1 rfl)) (ac (ha.at 1 rfl) az)).fq
     have hw:=hw.cA 0 hD
     refine RL.bE (hg:=(cg ah)) (f:=(fun x=>x)) 8 hw zr Fd.self lP fun bz hw=>?_
     have hw:=(hw.pl 12 [0,2,3,4,5,6,7,8,9,10,11]).cQ 0 true rfl bB
     exact RL.nil ⟨rfl,(bz,ab,ad,ae),hv.put 13 zr zr,ha.up zr,zt,hw⟩
    ·rintro D σ w hD hdep hcl ⟨⟨aa,ab,ad,ae⟩,hv,ha,_,hw⟩
     obtain⟨τ,rfl⟩:=(ac (hv.at 12 rfl (hdep.2.1 rfl)) (ac (hv.at 13 rfl (hdep.1 rfl)) az)).fq
     have hw:=(hw.cP 0 (hdep.1 rfl)).cA 1 hD
     refine RL.call (cg ah) zr Ft [aa] zr (aD (i6 N (i0:=0) hw zr br) ?_)
     rintro b0 w hw
     have hw:=((hw.pl 12 [1,0,3,4,5,6,7,8,9,10,11]).cQ 0 (D 13) (hdep.1 rfl) bB).cQ 1 true rfl bB
     exact RL.nil ⟨rfl,(aa,b0,ad,ae),hv.put 14 zr zr,ha.up zr,zt,hw⟩
    ·rintro D σ w hD hdep hcl ⟨⟨aa,ab,ad,ae⟩,hv,ha,_,hw⟩
     obtain⟨τ,rfl⟩:=(ac (hv.at 12 rfl (hdep.1 rfl)) (ac (ha.at 2 rfl) az)).fq
     have hw:=hw.cA 2 hD
     refine RL.bE (hg:=(cg ah)) (f:=(fun x=>x)) 4 hw zr Fd.self lP fun b1 hw=>?_
     have hw:=(hw.pl 12 [1,2,0,4,5,6,7,8,9,10,11]).cQ 2 true rfl bB
     exact RL.nil ⟨rfl,(aa,ab,b1,ae),hv.put 15 zr zr,ha.up zr,zt,hw⟩
    ·rintro D σ w hD hdep hcl ⟨⟨aa,ab,ad,ae⟩,hv,ha,_,hw⟩
     obtain⟨τ,rfl⟩:=(ac (hv.at 12 rfl (hdep.2.2.1 rfl)) (ac (hv.at 15 rfl (hdep.1 rfl)) az)).fq
     have hw:=(hw.cP 2 (hdep.1 rfl)).cA 3 hD
     refine RL.call (cg ah) zr Ft [ad] zr (aD (i6 N (i0:=2) hw zr bu) ?_)
     rintro b2 w hw
     have hw:=((hw.pl 12 [1,2,3,0,5,6,7,8,9,10,11]).cQ 2 (D 15) (hdep.1 rfl) bB).cQ 3 true rfl bB
     exact RL.nil ⟨rfl,(aa,ab,ad,b2),hv.put 16 zr zr,ha.up zr,zt,hw⟩
    ·rintro D σ w hD hdep hcl ⟨⟨aa,ab,ad,ae⟩,hv,ha,_,hw⟩
     obtain⟨τ,rfl⟩:=(ac (hv.at 12 rfl (hdep.2.2.2.1 rfl)) (ac (hv.at 14 rfl (hdep.1 rfl)) (ac (hv.at 16 rfl (hdep.2.1 rfl)) az))).fq
     have hw:=(hw.cP 1 (hdep.1 rfl)).cP 3 (hdep.2.1 rfl)
     refine RL.call (cg ah) zr LL [ab,ae] zr (aD (BT N (i0:=1) (i1:=3) hw zr zr bw) ?_)
     rintro _ w ⟨rfl,hw⟩
     have hw:=(hw.cQ 1 (D 14) (hdep.1 rfl) bB).cQ 3 (D 16) (hdep.2.1 rfl) bB
     exact RL.nil ⟨rfl,(aa,ab,ad,ae),hv.put 17 zr zr,ha.up zr,zt,hw⟩
    rintro D σ w hall ⟨⟨aa,ab,ad,ae⟩,hv,ha,_,hw⟩
    have hw:=hw.cP 0 (hall 13 (by decide))
    have hw:=hw.cP 1 (hall 14 (by decide))
    have hw:=hw.cP 2 (hall 15 (by decide))
    have hw:=hw.cP 3 (hall 16 (by decide))
    obtain⟨τ,rfl⟩:=(ac (hv.at 19 rfl (hall 19 (by decide))) (ac (ha.at 0 rfl) (ac (ha.at 1 rfl) (ac (ha.at 2 rfl) (ac (ha.at 3 rfl) (ac (ha.at 4 rfl) (ac (ha.at 5 rfl) (ac (ha.at 6 rfl) (ac (ha.at 7 rfl) (ac (ha.at 8 rfl) az)))))))))).fq
    obtain rfl:=oi hj
    exact⟨rfl,hw.sp 11 [7,8,9,10]⟩
   rintro _ w ⟨τ,rfl,hw⟩
   refine aH (dT hb (fun hc hb=>?_) fun hc hb=>?_)
   rotate_left
   ·refine RC.skip (bO (aH (RC.region (RL.inc hk hm (mv (vi ((aq+1:Nat):Int)) (RL.nil ?_))))))
    obtain rfl:=oi hb
    exact⟨rfl,hw.sp 4 [0,1,2,3]⟩
   refine RC.sr (aQ (.pointer none) (aQ (vi 12) (RL.nt (RC.rb (bS ?_)))))
   obtain rfl:=oi hb
   exact⟨rfl,oy ⟨rfl,hw.drop 4⟩⟩
  ·intro r σ w e hK
   subst e
   refine nX (bS ?_)
   obtain rfl:=oi hb
   exact⟨rfl,hK⟩
  rintro a6 _ w rfl ⟨τ,rfl,hw⟩
  rw [Fo.dF] at hb
  refine bO (aH (RC.region (RL.inc hk hm (mv (vi ((ak+1:Nat):Int)) (RL.nil ?_)))))
  obtain rfl:=oi hb
  exact⟨rfl,hw.sp 4 [0,2]⟩
 ·intro r σ w e hK
  subst e
  refine bS ?_
  obtain rfl:=oi hb
  exact hK
 rintro a5 _ w rfl ⟨τ,rfl,hw⟩
 rw [Fo.dF] at hb
 refine aH (RC.sr (RL.bE (f:=(fun x=>x)) 0 hw zr Fd.self tx fun b3 hw=>?_))
 obtain⟨cs,hcs,hv224,hw⟩:=hw.EG (i:=0) rfl rfl
 obtain⟨ax,ay,a0,a1,rfl⟩:=JG hcs
 have hw:=(((hw.nE (i:=0) (k:=0) (f:=fun x=>x.aJ) rfl iS rfl rfl rfl).nE (i:=1) (k:=1) (f:=fun x=>x.cE) rfl rG rfl rfl rfl).nE (i:=2) (k:=2) (f:=fun x=>x.aO) rfl gk rfl rfl rfl).nE (i:=3) (k:=3) (f:=fun x=>x.bV) rfl n7 rfl rfl rfl
 refine RL.Gp (zs:=[(.slice none 0 0),(.slice none 0 0),(.slice none 0 0),(.slice none 0 0),(.slice none 0 0),(.slice none 0 0),(.slice none 0 0),(.slice none 0 0),(.slice none 0 0),(.slice none 0 0),(.slice none 0 0),(.slice none 0 0)]) (cs:=[ax,ay,a0,a1,(.slice none 0 0),(.slice none 0 0),(.slice none 0 0),(.slice none 0 0),(.slice none 0 0),(.slice none 0 0),(.slice none 0 0),(.slice none 0 0)]) zt zr [(0,b3)] [(0,[ax,ay,a0,a1])] zr LM ⟨rfl,(congrArg Value.cells hv224),zt⟩ zr (RL.BB [ax,ay,a0,a1,(.slice none 0 0),(.slice none 0 0),(.slice none 0 0),(.slice none 0 0),(.slice none 0 0),(.slice none 0 0),(.slice none 0 0),(.slice none 0 0)] zr hw zr (wu.all (⟨(nj 3 hw),(nj 2 hw),(nj 1 hw),(nj 0 hw),zr,zr,zr,zr,zr,zr,zr,zr,zt⟩:wu [ax,ay,a0,a1,(.slice none 0 0),(.slice none 0 0),(.slice none 0 0),(.slice none 0 0),(.slice none 0 0),(.slice none 0 0),(.slice none 0 0),(.slice none 0 0)])) fun an w hw=>?_)
 refine aQ (vp an 0) (RL.nq (RC.sr (mv (vp an 0) ?_)))
 have hw:=((((((hw.cX (List aA) 50).cX aK 52).pull 0).pull 2).dup 6 rfl).dup 9 rfl).pull 6
 obtain⟨b4,b5,hb⟩:=bd hb
 refine RL.call zt zr LV [(vp an 0)] zr (aD (tC N hw b5) ?_)
 rintro _ w ⟨b6,b7,rfl,hw⟩
 refine RL.not b4.1 (RL.nt (dT hb (fun hc hb=>?_) fun hc hb=>?_))
 ·refine RC.sr (aQ (.pointer none) (aQ (vi 2) (RL.nt (RC.rt ?_))))
  obtain rfl:=oi hb
  exact oy ⟨rfl,hw.drop 14⟩
 refine RC.sx (mv (vp an 0) ?_)
 have hw:=(((((hw.freeze 2).cX (List Int) 31).pull 0).dup 4 rfl).dup 10 rfl).pull 4
 obtain⟨cw,b8,hb⟩:=bd hb
 refine RL.call zt zr LY [(vp an 0)] zr (aD (tD N hw b8) ?_)
 rintro _ w ⟨b9,rfl,hw⟩
 refine RL.ns (mv (vp an 0) ?_)
 have hw:=((((((((((((hw.freeze 1).cX Int 3).cX Int 3).cX Int 3).cX j9 99).pull 0).pull 2).pull 4).pull 6).dup 9 rfl).dup 14 rfl).dup 19 rfl).dup 21 rfl
 have hw:=hw.pull 12
 obtain⟨cx,ca,hb⟩:=bd hb
 refine RL.call zt zr L6 [(vp an 0)] zr (aD (oX N hw ca) ?_)
 rintro _ w ⟨cb,cc,cd,cf,ch,rfl,hw⟩
 refine RL.ns (mv (vp an 0) (aQ (vp an 0) (aQ (vi 0) (RL.nt (RC.ret ?_)))))
 obtain rfl:=oi hb
 exact oy ⟨an,ax,ay,a0,a1,b6,b7,b9,cb,cc,cd,cf,ch,zr,hw.pk 27 [0,22,21,20,19,14,15,11,1,2,3,4,5]⟩
theorem tI {p0:ld} {res: (List aI)×Int} (hw:Holds E w Γ) (h0:Γ[i0]? =some (rd v0 p0)) (hb:gZ N p0 p1=some res):
    Calls bM 4 [v0,(vi p1)].toArray w (gL (oQ E Γ res)):=by
 unfold gZ at hb
 refine enter Tryz.func4 zr zr ?_
 have hw:=hw.dup (i0+0) h0
 refine RC.sr (RL.dJ 0 v0 hw zr fun al w hw=>?_)
 refine aQ (.slice none 0 0) (aQ (vi 0) (RL.ns (RL.bE (f:=(fun x=>x)) 0 hw zr Fd.self tx fun af hw=>?_)))
 obtain⟨j,ag,hb⟩:=bd hb
 refine RL.call zt zr Ku [af] zr (aD (uq N (i0:=0) hw zr ag) ?_)
 rintro _ w hK49
 rcases aa:j.1 with _ | ab
 ·replace hb:=JK aa hb
  obtain⟨rfl,hw⟩:=Il aa hK49
  refine mv (.tuple #[(.pointer none),(vi j.2)]) (RL.extract (.pointer none) (RL.extract (vi j.2) (aQ (.pointer none) (aQ (vi j.2) (RL.nq (RC.sr (mv (vi j.2) (ic j.2 0 ?_))))))))
  refine RL.nt (dT hb (fun hc hb=>?_) fun hc hb=>?_)
  rotate_left
  ·cases hb
  refine RC.sr (mv (vi j.2) (aQ (.slice none 0 0) (aQ (vi j.2) (RL.nt (RC.rt ?_)))))
  obtain rfl:=oi hb
  have hw:=hw.mR aI
  exact oy ⟨(.slice none 0 0),zr,hw.pk 4 [0]⟩
 replace hb:=JL aa hb
 obtain⟨o,an,ao,aq,ar,au,ad,av,aw,ax,ay,az,a0,rfl,hw⟩:=Im aa hK49
 refine mv (.tuple #[(vp o 0),(vi j.2)]) (RL.extract (vp o 0) (RL.extract (vi j.2) (aQ (vp o 0) (aQ (vi j.2) (RL.nq (RC.sr (mv (vi j.2) (ic j.2 0 ?_))))))))
 refine RL.nt (dT hb (fun hc hb=>?_) fun hc hb=>?_)
 ·refine RC.sr (mv (vi j.2) (aQ (.slice none 0 0) (aQ (vi j.2) (RL.nt (RC.rt ?_)))))
  obtain rfl:=oi hb
  have hw:=hw.mR aI
  exact oy ⟨(.slice none 0 0),zr,hw.pk 17 [0]⟩
 refine RC.ss (RC.sr (mv (vi p1) (mv (vp o 0) (RL.nilCheck zr (RL.aX zr t5 (RL.bH 0 ad hw C2 (RL.bC 6 ab.2.2.2.2.2.1 hw GG (RL.fQ (ab.2.2.2.2.2.1.length:Int) 1 ?_))))))))
 obtain⟨ah,ai,hb⟩:=bd hb
 refine RL.call zt zr Fq [(vi p1),(vi 0),(vi (IntKind.wrap .i64 ((ab.2.2.2.2.2.1.length:Int) - 1)))] zr (aD (jN N (p0:=p1) (p1:=0) (p2:=(IntKind.wrap .i64 ((ab.2.2.2.2.2.1.length:Int) - 1))) hw ai) ?_)
 rintro _ w ⟨rfl,hw⟩
 refine RL.not ah (RL.nt (dT hb (fun hc hb=>?_) fun hc hb=>?_))
 ·refine RC.sr (aQ (.slice none 0 0) (aQ (vi 9) (RL.nt (RC.rt ?_))))
  obtain rfl:=oi hb
  have hw:=hw.mR aI
  exact oy ⟨(.slice none 0 0),zr,hw.pk 17 [0]⟩
 refine RC.sx (mv (vp o 0) (RL.nilCheck zr (RL.aX zr t5 (RL.bH 0 ad hw C2 (mv (vi p1) ?_)))))
 obtain⟨aj,ak,hb⟩:=bd hb
 refine RL.bN 6 hw HN ak fun a1 hw=>(RL.dV 0 hw zr D7 n8 fun a2 hw=>(RL.bL 0 aj.gM hw rH fun ae hw=>(aQ ae (aQ (vi 0) (RL.nt (RC.ret ?_))))))
 obtain rfl:=oi hb
 exact oy ⟨ae,zr,hw.pk 19 [0]⟩
theorem rR {res:Bool} (hw:Holds E w Γ) (hb:mc N p0 p1 p2=some res):
    Calls bM 116 [(vi p0),(vi p1),(vi p2)].toArray w (gL (aV E Γ res)):=by
 unfold mc at hb
 refine enter Tryz.func116 zr zr (RC.sr (aQ (vb false) (RL.ns (mv (vi p0) (mv (vi p1) (ic p0 p1 (mv (vb (decide (p0>=p1))) (RL.gs true (decide (p0>=p1)) (vi p0) zr zr zr cF ?_))))))))
 refine RL.gs true (decide (p0>=p1)) (vi p2) rfl rfl rfl cF (RL.gs true (decide (p0>=p1)) (vb (decide (p0<=p2))) rfl rfl rfl (dI .leq .i64 p0 p2 rfl (fun h=>by exact(cI h:cv (true&&((decide (p0>=p1))==true)) (vi p0)= (vi p0))) (fun h=>by exact(cI h:cv (true&&((decide (p0>=p1))==true)) (vi p2)= (vi p2))) rfl) (RL.pick (decide (p0>=p1)) (vb ((decide (p0>=p1))&&(decide (p0<=p2)))) (fZ true rfl) (aQ (vb ((decide (p0>=p1))&&(decide (p0<=p2)))) (RL.nt (RC.ret ?_)))))
 obtain rfl:=oi hb
 exact bX ⟨rfl,hw.drop 0⟩
theorem eH {res:Bool} (hw:Holds E w Γ) (hb:cR N p0=some res):
    Calls bM 92 [(vi p0)].toArray w (gL (aV E Γ res)):=by
 unfold cR at hb
 refine enter Tryz.func92 zr zr (RC.sr (aQ (vb false) (RL.ns (mv (vi p0) ?_))))
 obtain⟨j,o,hb⟩:=bd hb
 refine RL.call zt zr Kv [(vi p0),(vi (-1000000)),(vi 1000000)] zr (aD (rR N (p0:=p0) (p1:=(-1000000)) (p2:=1000000) hw o) ?_)
 rintro _ w ⟨rfl,hw⟩
 refine aQ (vb j) (RL.nt (RC.ret ?_))
 obtain rfl:=oi hb
 exact bX ⟨rfl,hw.drop 0⟩
end Go.Gk
