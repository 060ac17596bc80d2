/-
  Printed texts: Go functions as plain functions, and that they are. No statement of the seed is proved here.
-/
import Derived.Test.YtgehimfkgpbooaaGreatDoorG1
import Derived.Test.YtgehimfkgpbooaaGreatDoorA2
set_option linter.unusedVariables false
set_option linter.unusedSimpArgs false
set_option linter.unusedSectionVars false
set_option maxRecDepth 100000
set_option maxHeartbeats 4000000
namespace Go.Gk
open Go Go.Proofs
variable (N:Nat) {E w:World} {i0 i1:Nat} {p0 p1 p2 p3 res:Int} {v0 v1:Value} {Γ:List HP}
theorem i6 {p0:cD} {res:aI} (hw:Holds E w Γ) (h0:Γ[i0]? =some (rd v0 p0)) (hb:gp N p0=some res):
    Calls bM 21 [v0].toArray w (gL (oe E Γ res)):=by
 unfold gp at hb
 refine enter Tryz.func21 zr zr ?_
 have hw:=hw.dup (i0+0) h0
 refine RC.sr (RL.dJ 0 v0 hw zr fun j w hw=>?_)
 refine RL.alloc hw oc.z fun o w hw=>?_
 refine RL.nq (RC.yI mixed ?_)
 have hw:=hw.drew
 refine RO.go (RL.aX zr xC (RO.nx (RL.aX zr vJ (RO.nx (RL.aM (f:=(fun x=>x.At.X)) 1 hw zr (Fd.comp (f:=fun(x:cD)=>x.At) (fun(x:jc)=>x.X) pW nv) cJ (RO.nx (RL.aX zr q9 (RO.nx ?_))))))))
 refine RL.aM 1 hw zr lI cJ (RO.nx (RL.quo p0.dE 2 (RO.nx (RL.fQ p0.At.X (IntKind.wrap .i64 (Int.tdiv p0.dE 2)) (RO.nx (RL.aX zr xC (RO.nx (RL.aX zr vK ?_))))))))
 refine RO.nx (RL.aM (f:=(fun x=>x.At.Y)) 1 hw zr (Fd.comp (f:=fun(x:cD)=>x.At) (fun(x:jc)=>x.Y) pW ny) cJ (RO.nx (RL.aX zr q9 (RO.nx (RL.aM 1 hw zr lI cJ (RO.nx (RL.quo p0.dE 2 (RO.nx ?_))))))))
 refine RL.fQ p0.At.Y (IntKind.wrap .i64 (Int.tdiv p0.dE 2)) (RO.nx (aQ (vi (IntKind.wrap .i64 (p0.At.X - (IntKind.wrap .i64 (Int.tdiv p0.dE 2))))) (RO.nx (aQ (vi (IntKind.wrap .i64 (p0.At.Y - (IntKind.wrap .i64 (Int.tdiv p0.dE 2))))) (RO.last (aH (RC.sr (mv (vi (IntKind.wrap .i64 (p0.At.X - (IntKind.wrap .i64 (Int.tdiv p0.dE 2))))) ?_))))))))
 refine mv (vi (IntKind.wrap .i64 (p0.At.Y - (IntKind.wrap .i64 (Int.tdiv p0.dE 2))))) (mv (vi (IntKind.wrap .i64 (p0.At.X - (IntKind.wrap .i64 (Int.tdiv p0.dE 2))))) (RL.aX zr q9 (RL.aM 1 hw zr lI cJ (RL.fQ (IntKind.wrap .i64 (p0.At.X - (IntKind.wrap .i64 (Int.tdiv p0.dE 2)))) p0.dE (mv (vi (IntKind.wrap .i64 (p0.At.Y - (IntKind.wrap .i64 (Int.tdiv p0.dE 2))))) (RL.aX zr q9 (RL.aM 1 hw zr lI cJ (RL.fQ (IntKind.wrap .i64 (p0.At.Y - (IntKind.wrap .i64 (Int.tdiv p0.dE 2)))) p0.dE ?_))))))))
 have hw:=((hw.sc Int (IntKind.wrap .i64 (p0.At.X - (IntKind.wrap .i64 (Int.tdiv p0.dE 2))))).sc Int (IntKind.wrap .i64 (p0.At.Y - (IntKind.wrap .i64 (Int.tdiv p0.dE 2))))).sc Int (IntKind.wrap .i64 ((IntKind.wrap .i64 (p0.At.X - (IntKind.wrap .i64 (Int.tdiv p0.dE 2))))+p0.dE))
 have hw:=hw.sc Int (IntKind.wrap .i64 ((IntKind.wrap .i64 (p0.At.Y - (IntKind.wrap .i64 (Int.tdiv p0.dE 2))))+p0.dE))
 refine RL.build (⟨(IntKind.wrap .i64 (p0.At.X - (IntKind.wrap .i64 (Int.tdiv p0.dE 2)))),(IntKind.wrap .i64 (p0.At.Y - (IntKind.wrap .i64 (Int.tdiv p0.dE 2)))),(IntKind.wrap .i64 ((IntKind.wrap .i64 (p0.At.X - (IntKind.wrap .i64 (Int.tdiv p0.dE 2))))+p0.dE)),(IntKind.wrap .i64 ((IntKind.wrap .i64 (p0.At.Y - (IntKind.wrap .i64 (Int.tdiv p0.dE 2))))+p0.dE))⟩:aI) trivial rfl hw [(0,(vi (IntKind.wrap .i64 (p0.At.X - (IntKind.wrap .i64 (Int.tdiv p0.dE 2)))))),(1,(vi (IntKind.wrap .i64 (p0.At.Y - (IntKind.wrap .i64 (Int.tdiv p0.dE 2)))))),(2,(vi (IntKind.wrap .i64 ((IntKind.wrap .i64 (p0.At.X - (IntKind.wrap .i64 (Int.tdiv p0.dE 2))))+p0.dE)))),(3,(vi (IntKind.wrap .i64 ((IntKind.wrap .i64 (p0.At.Y - (IntKind.wrap .i64 (Int.tdiv p0.dE 2))))+p0.dE))))] rfl CY rfl (fun M hs g=>by have h:=sK M;exact cT.cons (f:=fun(x:aI) y=>{x with X0:=y}) h oA (g.sat 3 _ rfl).1 fun _ h=>cT.cons (f:=fun(x:aI) y=>{x with Y0:=y}) h pU (g.sat 2 _ rfl).1 fun _ h=>cT.cons (f:=fun(x:aI) y=>{x with X1:=y}) h oC (g.sat 1 _ rfl).1 fun _ h=>cT.cons (f:=fun(x:aI) y=>{x with Y1:=y}) h pV (g.sat 0 _ rfl).1 fun _ h=>cT.nil h) fun aa hw=>?_
 refine RL.cB 5 hw 0 zr iw fun w hw=>?_
 refine RL.nt (RC.ret ?_)
 obtain rfl:=oi hb
 exact HA 5 zr hw zr zr iw fun ab hw=>(hw.pk 9 [0])
theorem vd {p0: (List aA)} {res:aI} (hw:Holds E w Γ) (h0:Γ[i0]? =some (rd v0 p0)) (hb:mG N p0=some res):
    Calls bM 77 [v0].toArray w (gL (oe E Γ res)):=by
 unfold mG at hb
 refine enter Tryz.func77 zr zr ?_
 have hw:=hw.dup (i0+0) h0
 refine RC.sr (RL.alloc hw oc.z fun a5 w hw=>?_)
 refine RL.nq ?_
 obtain⟨a8,bb,hb⟩:=bd hb
 obtain⟨a3,bc,hb⟩:=bd hb
 obtain⟨a0,bf,hb⟩:=bd hb
 obtain⟨a9,bg,hb⟩:=bd hb
 obtain⟨a4,bh,hb⟩:=bd hb
 obtain⟨a1,bj,hb⟩:=bd hb
 refine RC.Fi E Γ mixed [1,0,0,0,0,0,1,0,0,0,1,0,0,0,0,0,1,1,0,1,0,0,0,0,0,0] [1,2,3,4,7,8,11,12,13,14,20,21,23,24,25] (fun(x:Value×Value×Value×Value×Value×Value×Value×Value×Value×Value×Value×Value×Value×Nat)=>(fun aa ab ad ae af ag ah ai aj ak al an ao j=>[(0,6,v0),(1,7,aa),(2,8,ab),(3,9,ad),(4,10,ae),(5,11,(vi a3)),(6,12,v0),(7,13,af),(8,14,ag),(9,15,(vi a0.Y0)),(10,16,v0),(11,17,ah),(12,18,ai),(13,19,aj),(14,20,ak),(15,21,(vi a4)),(16,22,v0),(17,23,v0),(18,24,(vi p0.length)),(19,25,(vi (IntKind.wrap .i64 ((p0.length:Int) - 1)))),(20,26,al),(21,27,an),(22,28,(vi a1.Y1)),(23,29,ao),(24,3,(vp j 0))]) x.1 x.2.1 x.2.2.1 x.2.2.2.1 x.2.2.2.2.1 x.2.2.2.2.2.1 x.2.2.2.2.2.2.1 x.2.2.2.2.2.2.2.1 x.2.2.2.2.2.2.2.2.1 x.2.2.2.2.2.2.2.2.2.1 x.2.2.2.2.2.2.2.2.2.2.1 x.2.2.2.2.2.2.2.2.2.2.2.1 x.2.2.2.2.2.2.2.2.2.2.2.2.1 x.2.2.2.2.2.2.2.2.2.2.2.2.2) [(0,v0),(2,vp a5 0)] [] (fun(D:Nat->Bool) (x:Value×Value×Value×Value×Value×Value×Value×Value×Value×Value×Value×Value×Value×Nat)=>(fun aa ab ad ae af ag ah ai aj ak al an ao j=>[bif D 0 then (pt aa a8) else bB,bif D 1 then (pt ab a8.Xs) else bB,bif D 2 then (rd ad a8.Xs) else bB,bif D 3 then (pt ae a3) else bB,bif D 4 then (pt af a0) else bB,bif D 5 then (pt ag a0.Y0) else bB,bif D 6 then (pt ah a9) else bB,bif D 7 then (pt ai a9.Xs) else bB,bif D 8 then (rd aj a9.Xs) else bB,bif D 9 then (pt ak a4) else bB,bif D 10 then (pt al a1) else bB,bif D 11 then (pt an a1.Y1) else bB,bif D 12 then (rd ao (⟨a3,a0.Y0,a4,a1.Y1⟩:aI)) else bB,bif D 14 then (bx 59 j (⟨a3,a0.Y0,a4,a1.Y1⟩:aI)) else (bif D 13 then (raw 59 j 4) else bB),raw 59 a5 4,rd v0 p0]) x.1 x.2.1 x.2.2.1 x.2.2.2.1 x.2.2.2.2.1 x.2.2.2.2.2.1 x.2.2.2.2.2.2.1 x.2.2.2.2.2.2.2.1 x.2.2.2.2.2.2.2.2.1 x.2.2.2.2.2.2.2.2.2.1 x.2.2.2.2.2.2.2.2.2.2.1 x.2.2.2.2.2.2.2.2.2.2.2.1 x.2.2.2.2.2.2.2.2.2.2.2.2.1 x.2.2.2.2.2.2.2.2.2.2.2.2.2) (fun x=>by kernel_rfl) ?_ ⟨fun _=>jq gn,?_,?_,?_,?_,?_,fun _=>jq gn,?_,?_,?_,fun _=>jq gn,?_,?_,?_,?_,?_,fun _=>jq gn,fun _=>jq gn,?_,fun _=>I2 gn rfl,?_,?_,?_,?_,?_,?_,trivial⟩ ?_
 ·have hw:=((((((((((((hw.drew).bB).bB).bB).bB).bB).bB).bB).bB).bB).bB).bB).bB
  have hw:=(hw.bB).bB
  exact⟨(undef,undef,undef,undef,undef,undef,undef,undef,undef,undef,undef,undef,undef,0),gw.none,(D5 zr),zt,hw⟩
 ·rintro D σ w hD hdep hcl ⟨⟨aa,ab,ad,ae,af,ag,ah,ai,aj,ak,al,an,ao,j⟩,hv,ha,_,hw⟩
  obtain⟨τ,rfl⟩:=(ac (hv.at 0 rfl (hdep.1 rfl)) az).fq
  have hw:=hw.cA 0 hD
  refine RL.bN 15 hw o8 bb fun bk hw=>?_
  have hw:=(hw.pl 17 [0,2,3,4,5,6,7,8,9,10,11,12,13,14,15,16]).cQ 0 true rfl bB
  exact RL.nil ⟨rfl,(bk,ab,ad,ae,af,ag,ah,ai,aj,ak,al,an,ao,j),hv.put 1 zr zr,ha.up zr,zt,hw⟩
 ·rintro D σ w hD hdep hcl ⟨⟨aa,ab,ad,ae,af,ag,ah,ai,aj,ak,al,an,ao,j⟩,hv,ha,_,hw⟩
  obtain⟨τ,rfl⟩:=(ac (hv.at 1 rfl (hdep.1 rfl)) az).fq
  have hw:=(hw.cP 0 (hdep.1 rfl)).cA 1 hD
  refine RL.dV 0 hw zr lU dZ fun bl hw=>?_
  have hw:=((hw.pl 17 [1,0,3,4,5,6,7,8,9,10,11,12,13,14,15,16]).cQ 0 (D 1) (hdep.1 rfl) bB).cQ 1 true rfl bB
  exact RL.nil ⟨rfl,(aa,bl,ad,ae,af,ag,ah,ai,aj,ak,al,an,ao,j),hv.put 2 zr zr,ha.up zr,zt,hw⟩
 ·rintro D σ w hD hdep hcl ⟨⟨aa,ab,ad,ae,af,ag,ah,ai,aj,ak,al,an,ao,j⟩,hv,ha,_,hw⟩
  obtain⟨τ,rfl⟩:=(ac (hv.at 2 rfl (hdep.1 rfl)) az).fq
  have hw:=(hw.cP 1 (hdep.1 rfl)).cA 2 hD
  refine RL.bL 1 a8.Xs hw fA fun bm hw=>?_
  have hw:=((hw.pl 17 [1,2,0,4,5,6,7,8,9,10,11,12,13,14,15,16]).cQ 1 (D 2) (hdep.1 rfl) bB).cQ 2 true rfl bB
  exact RL.nil ⟨rfl,(aa,ab,bm,ae,af,ag,ah,ai,aj,ak,al,an,ao,j),hv.put 3 zr zr,ha.up zr,zt,hw⟩
 ·rintro D σ w hD hdep hcl ⟨⟨aa,ab,ad,ae,af,ag,ah,ai,aj,ak,al,an,ao,j⟩,hv,ha,_,hw⟩
  obtain⟨τ,rfl⟩:=(ac (hv.at 3 rfl (hdep.1 rfl)) az).fq
  have hw:=(hw.cP 2 (hdep.1 rfl)).cA 3 hD
  refine RL.bN 2 hw eB bc fun bn hw=>?_
  have hw:=((hw.pl 17 [1,2,3,0,5,6,7,8,9,10,11,12,13,14,15,16]).cQ 2 (D 3) (hdep.1 rfl) bB).cQ 3 true rfl bB
  exact RL.nil ⟨rfl,(aa,ab,ad,bn,af,ag,ah,ai,aj,ak,al,an,ao,j),hv.put 4 zr zr,ha.up zr,zt,hw⟩
 ·rintro D σ w hD hdep hcl ⟨⟨aa,ab,ad,ae,af,ag,ah,ai,aj,ak,al,an,ao,j⟩,hv,ha,_,hw⟩
  obtain⟨τ,rfl⟩:=(ac (hv.at 4 rfl (hdep.1 rfl)) az).fq
  have hw:=hw.cP 3 (hdep.1 rfl)
  refine RL.bF a3 3 hw cJ ?_
  have hw:=hw.cQ 3 (D 4) (hdep.1 rfl) bB
  exact RL.nil ⟨rfl,(aa,ab,ad,ae,af,ag,ah,ai,aj,ak,al,an,ao,j),hv.put 5 zr zr,ha.up zr,zt,hw⟩
 ·rintro D σ w hD hdep hcl ⟨⟨aa,ab,ad,ae,af,ag,ah,ai,aj,ak,al,an,ao,j⟩,hv,ha,_,hw⟩
  obtain⟨τ,rfl⟩:=(ac (hv.at 6 rfl (hdep.1 rfl)) az).fq
  have hw:=hw.cA 4 hD
  refine RL.bN 15 hw o8 bf fun bo hw=>?_
  have hw:=(hw.pl 17 [1,2,3,4,0,6,7,8,9,10,11,12,13,14,15,16]).cQ 4 true rfl bB
  exact RL.nil ⟨rfl,(aa,ab,ad,ae,bo,ag,ah,ai,aj,ak,al,an,ao,j),hv.put 7 zr zr,ha.up zr,zt,hw⟩
 ·rintro D σ w hD hdep hcl ⟨⟨aa,ab,ad,ae,af,ag,ah,ai,aj,ak,al,an,ao,j⟩,hv,ha,_,hw⟩
  obtain⟨τ,rfl⟩:=(ac (hv.at 7 rfl (hdep.1 rfl)) az).fq
  have hw:=(hw.cP 4 (hdep.1 rfl)).cA 5 hD
  refine RL.dV 4 hw zr pF gV fun bp hw=>?_
  have hw:=((hw.pl 17 [1,2,3,4,5,0,7,8,9,10,11,12,13,14,15,16]).cQ 4 (D 7) (hdep.1 rfl) bB).cQ 5 true rfl bB
  exact RL.nil ⟨rfl,(aa,ab,ad,ae,af,bp,ah,ai,aj,ak,al,an,ao,j),hv.put 8 zr zr,ha.up zr,zt,hw⟩
 ·rintro D σ w hD hdep hcl ⟨⟨aa,ab,ad,ae,af,ag,ah,ai,aj,ak,al,an,ao,j⟩,hv,ha,_,hw⟩
  obtain⟨τ,rfl⟩:=(ac (hv.at 8 rfl (hdep.1 rfl)) az).fq
  have hw:=hw.cP 5 (hdep.1 rfl)
  refine RL.bF a0.Y0 5 hw cJ ?_
  have hw:=hw.cQ 5 (D 8) (hdep.1 rfl) bB
  exact RL.nil ⟨rfl,(aa,ab,ad,ae,af,ag,ah,ai,aj,ak,al,an,ao,j),hv.put 9 zr zr,ha.up zr,zt,hw⟩
 ·rintro D σ w hD hdep hcl ⟨⟨aa,ab,ad,ae,af,ag,ah,ai,aj,ak,al,an,ao,j⟩,hv,ha,_,hw⟩
  obtain⟨τ,rfl⟩:=(ac (hv.at 10 rfl (hdep.1 rfl)) az).fq
  have hw:=hw.cA 6 hD
  refine RL.bN 15 hw o8 bg fun bq hw=>?_
  have hw:=(hw.pl 17 [1,2,3,4,5,6,0,8,9,10,11,12,13,14,15,16]).cQ 6 true rfl bB
  exact RL.nil ⟨rfl,(aa,ab,ad,ae,af,ag,bq,ai,aj,ak,al,an,ao,j),hv.put 11 zr zr,ha.up zr,zt,hw⟩
 ·rintro D σ w hD hdep hcl ⟨⟨aa,ab,ad,ae,af,ag,ah,ai,aj,ak,al,an,ao,j⟩,hv,ha,_,hw⟩
  obtain⟨τ,rfl⟩:=(ac (hv.at 11 rfl (hdep.1 rfl)) az).fq
  have hw:=(hw.cP 6 (hdep.1 rfl)).cA 7 hD
  refine RL.dV 6 hw zr lU dZ fun br hw=>?_
  have hw:=((hw.pl 17 [1,2,3,4,5,6,7,0,9,10,11,12,13,14,15,16]).cQ 6 (D 11) (hdep.1 rfl) bB).cQ 7 true rfl bB
  exact RL.nil ⟨rfl,(aa,ab,ad,ae,af,ag,ah,br,aj,ak,al,an,ao,j),hv.put 12 zr zr,ha.up zr,zt,hw⟩
 ·rintro D σ w hD hdep hcl ⟨⟨aa,ab,ad,ae,af,ag,ah,ai,aj,ak,al,an,ao,j⟩,hv,ha,_,hw⟩
  obtain⟨τ,rfl⟩:=(ac (hv.at 12 rfl (hdep.1 rfl)) az).fq
  have hw:=(hw.cP 7 (hdep.1 rfl)).cA 8 hD
  refine RL.bL 7 a9.Xs hw fA fun bt hw=>?_
  have hw:=((hw.pl 17 [1,2,3,4,5,6,7,8,0,10,11,12,13,14,15,16]).cQ 7 (D 12) (hdep.1 rfl) bB).cQ 8 true rfl bB
  exact RL.nil ⟨rfl,(aa,ab,ad,ae,af,ag,ah,ai,bt,ak,al,an,ao,j),hv.put 13 zr zr,ha.up zr,zt,hw⟩
 ·rintro D σ w hD hdep hcl ⟨⟨aa,ab,ad,ae,af,ag,ah,ai,aj,ak,al,an,ao,j⟩,hv,ha,_,hw⟩
  obtain⟨τ,rfl⟩:=(ac (hv.at 13 rfl (hdep.1 rfl)) az).fq
  have hw:=(hw.cP 8 (hdep.1 rfl)).cA 9 hD
  refine RL.bN 8 hw eB bh fun bu hw=>?_
  have hw:=((hw.pl 17 [1,2,3,4,5,6,7,8,9,0,11,12,13,14,15,16]).cQ 8 (D 13) (hdep.1 rfl) bB).cQ 9 true rfl bB
  exact RL.nil ⟨rfl,(aa,ab,ad,ae,af,ag,ah,ai,aj,bu,al,an,ao,j),hv.put 14 zr zr,ha.up zr,zt,hw⟩
 ·rintro D σ w hD hdep hcl ⟨⟨aa,ab,ad,ae,af,ag,ah,ai,aj,ak,al,an,ao,j⟩,hv,ha,_,hw⟩
  obtain⟨τ,rfl⟩:=(ac (hv.at 14 rfl (hdep.1 rfl)) az).fq
  have hw:=hw.cP 9 (hdep.1 rfl)
  refine RL.bF a4 9 hw cJ ?_
  have hw:=hw.cQ 9 (D 14) (hdep.1 rfl) bB
  exact RL.nil ⟨rfl,(aa,ab,ad,ae,af,ag,ah,ai,aj,ak,al,an,ao,j),hv.put 15 zr zr,ha.up zr,zt,hw⟩
 ·rintro D σ w hD hdep hcl ⟨⟨aa,ab,ad,ae,af,ag,ah,ai,aj,ak,al,an,ao,j⟩,hv,ha,_,hw⟩
  obtain⟨τ,rfl⟩:=(ac (hv.at 17 rfl (hdep.1 rfl)) az).fq
  refine RL.bC 15 p0 hw u4 ?_
  exact RL.nil ⟨rfl,(aa,ab,ad,ae,af,ag,ah,ai,aj,ak,al,an,ao,j),hv.put 18 zr zr,ha.up zr,zt,hw⟩
 ·rintro D σ w hD hdep hcl ⟨⟨aa,ab,ad,ae,af,ag,ah,ai,aj,ak,al,an,ao,j⟩,hv,ha,_,hw⟩
  obtain⟨τ,rfl⟩:=(ac (hv.at 16 rfl (hdep.1 rfl)) (ac (hv.at 19 rfl (hdep.2.1 rfl)) az)).fq
  have hw:=hw.cA 10 hD
  refine RL.bN 15 hw o8 bj fun bw hw=>?_
  have hw:=(hw.pl 17 [1,2,3,4,5,6,7,8,9,10,0,12,13,14,15,16]).cQ 10 true rfl bB
  exact RL.nil ⟨rfl,(aa,ab,ad,ae,af,ag,ah,ai,aj,ak,bw,an,ao,j),hv.put 20 zr zr,ha.up zr,zt,hw⟩
 ·rintro D σ w hD hdep hcl ⟨⟨aa,ab,ad,ae,af,ag,ah,ai,aj,ak,al,an,ao,j⟩,hv,ha,_,hw⟩
  obtain⟨τ,rfl⟩:=(ac (hv.at 20 rfl (hdep.1 rfl)) az).fq
  have hw:=(hw.cP 10 (hdep.1 rfl)).cA 11 hD
  refine RL.dV 10 hw zr nn fC fun bz hw=>?_
  have hw:=((hw.pl 17 [1,2,3,4,5,6,7,8,9,10,11,0,13,14,15,16]).cQ 10 (D 20) (hdep.1 rfl) bB).cQ 11 true rfl bB
  exact RL.nil ⟨rfl,(aa,ab,ad,ae,af,ag,ah,ai,aj,ak,al,bz,ao,j),hv.put 21 zr zr,ha.up zr,zt,hw⟩
 ·rintro D σ w hD hdep hcl ⟨⟨aa,ab,ad,ae,af,ag,ah,ai,aj,ak,al,an,ao,j⟩,hv,ha,_,hw⟩
  obtain⟨τ,rfl⟩:=(ac (hv.at 21 rfl (hdep.1 rfl)) az).fq
  have hw:=hw.cP 11 (hdep.1 rfl)
  refine RL.bF a1.Y1 11 hw cJ ?_
  have hw:=hw.cQ 11 (D 21) (hdep.1 rfl) bB
  exact RL.nil ⟨rfl,(aa,ab,ad,ae,af,ag,ah,ai,aj,ak,al,an,ao,j),hv.put 22 zr zr,ha.up zr,zt,hw⟩
 ·rintro D σ w hD hdep hcl ⟨⟨aa,ab,ad,ae,af,ag,ah,ai,aj,ak,al,an,ao,j⟩,hv,ha,_,hw⟩
  obtain⟨τ,rfl⟩:=(ac (hv.at 5 rfl (hdep.1 rfl)) (ac (hv.at 9 rfl (hdep.2.1 rfl)) (ac (hv.at 15 rfl (hdep.2.2.1 rfl)) (ac (hv.at 22 rfl (hdep.2.2.2.1 rfl)) az)))).fq
  have hw:=((((hw.cA 12 hD).sc Int a3).sc Int a0.Y0).sc Int a4).sc Int a1.Y1
  refine RL.build (⟨a3,a0.Y0,a4,a1.Y1⟩:aI) trivial rfl hw [(0,vi a3),(1,vi a0.Y0),(2,vi a4),(3,vi a1.Y1)] rfl CY rfl (fun M hs g=>by have h:=sK M;exact cT.cons (f:=fun(x:aI) y=>{x with X0:=y}) h oA (g.sat 3 _ rfl).1 fun _ h=>cT.cons (f:=fun(x:aI) y=>{x with Y0:=y}) h pU (g.sat 2 _ rfl).1 fun _ h=>cT.cons (f:=fun(x:aI) y=>{x with X1:=y}) h oC (g.sat 1 _ rfl).1 fun _ h=>cT.cons (f:=fun(x:aI) y=>{x with Y1:=y}) h pV (g.sat 0 _ rfl).1 fun _ h=>cT.nil h) fun b0 hw=>?_
  have hw:=(hw.pl 21 [5,6,7,8,9,10,11,12,13,14,15,16,0,18,19,20]).cQ 12 true rfl bB
  exact RL.nil ⟨rfl,(aa,ab,ad,ae,af,ag,ah,ai,aj,ak,al,an,b0,j),hv.put 23 zr zr,ha.up zr,zt,hw⟩
 ·rintro D σ w hD hdep hcl ⟨⟨aa,ab,ad,ae,af,ag,ah,ai,aj,ak,al,an,ao,j⟩,hv,ha,_,hw⟩
  obtain⟨τ,rfl⟩:=(az (σ:=σ)).fq
  have hw:=(hw.cA 13 (nf (fun h=>ft hD ((hcl 25 _ rfl h).1 rfl)))).cA 13 hD
  refine RL.alloc hw oc.z fun ba w hw=>?_
  have hw:=((hw.pl 17 [1,2,3,4,5,6,7,8,9,10,11,12,13,0,15,16]).cQ 13 true rfl bB).eV 13 (D 25) (nf (fun h=>ft hD ((hcl 25 _ rfl h).1 rfl))) (bx 59 ba (⟨a3,a0.Y0,a4,a1.Y1⟩:aI))
  exact RL.nil ⟨rfl,(aa,ab,ad,ae,af,ag,ah,ai,aj,ak,al,an,ao,ba),hv.put 24 zr zr,ha.up zr,zt,hw⟩
 ·rintro D σ w hD hdep hcl ⟨⟨aa,ab,ad,ae,af,ag,ah,ai,aj,ak,al,an,ao,j⟩,hv,ha,_,hw⟩
  obtain⟨τ,rfl⟩:=(ac (hv.at 23 rfl (hdep.2.1 rfl)) (ac (hv.at 24 rfl (hdep.1 rfl)) az)).fq
  have hw:=((hw.cP 12 (hdep.2.1 rfl)).cA 13 hD).cP 13 (hdep.1 rfl)
  refine RL.cB 13 hw 12 zr iw fun w hw=>?_
  have hw:=(hw.cQ 12 (D 23) (hdep.2.1 rfl) bB).cQ 13 true rfl (bif D 24 then (raw 59 j 4) else bB)
  exact RL.nil ⟨rfl,(aa,ab,ad,ae,af,ag,ah,ai,aj,ak,al,an,ao,j),hv.no zr,ha,zt,hw⟩
 rintro D σ w hall ⟨⟨aa,ab,ad,ae,af,ag,ah,ai,aj,ak,al,an,ao,j⟩,hv,ha,_,hw⟩
 have hw:=hw.cP 0 (hall 1 (by decide))
 have hw:=hw.cP 1 (hall 2 (by decide))
 have hw:=hw.cP 2 (hall 3 (by decide))
 have hw:=hw.cP 3 (hall 4 (by decide))
 have hw:=hw.cP 4 (hall 7 (by decide))
 have hw:=hw.cP 5 (hall 8 (by decide))
 have hw:=hw.cP 6 (hall 11 (by decide))
 have hw:=hw.cP 7 (hall 12 (by decide))
 have hw:=hw.cP 8 (hall 13 (by decide))
 have hw:=hw.cP 9 (hall 14 (by decide))
 have hw:=hw.cP 10 (hall 20 (by decide))
 have hw:=hw.cP 11 (hall 21 (by decide))
 have hw:=hw.cP 12 (hall 23 (by decide))
 have hw:=hw.cP 13 (hall 25 (by decide))
 obtain⟨τ,rfl⟩:=(ac (hv.at 24 rfl (hall 24 (by decide))) (ac (ha.at 0 rfl) (ac (ha.at 1 rfl) az))).fq
 refine aH (RC.seq (RC.sr (mv v0 (RL.bC 15 p0 hw u4 (mv (vi 0) (RL.nt ?_))))))
 obtain⟨o,hN,hb⟩:=bd hb
 refine RC.fold (fun(a6:Nat) (o:aI)=>SH E Γ [(2,vp a5 0),(3,vp j 0),(30,v0),(31,vi p0.length),(32,vi a6)] [raw 59 a5 4,bx 59 j o,rd v0 p0]) (fun(o:aI)=>SH E Γ [(2,vp a5 0),(3,vp j 0)] [raw 59 a5 4,bx 59 j o,rd v0 p0]) hN ?_ ?_ ?_ ?_
 ·exact hw.sp 16 [14,13,15]
 ·rintro hm o _ w ⟨τ,rfl,hw⟩
  refine RC.sr (ic ((p0.length:Int)) ((p0.length:Int)) (RL.nq (RC.fV tN (RC.ex ?_))))
  exact⟨rfl,hw.sp 3 [0,1,2]⟩
 ·rintro hm a6 o s' _ w hk ⟨τ,rfl,hw⟩ hb
  refine RC.sr (ic ((a6:Int)) ((p0.length:Int)) (RL.nq (RC.fU (tM hk) (RC.ss (RC.bs ?_)))))
  obtain⟨a2,b1,hb⟩:=bd hb
  refine RL.bN 2 hw o8 b1 fun b2 hw=>(RL.bL 0 a2 hw wL fun b3 hw=>(RL.alloc hw CX.z fun a7 w hw=>?_))
  refine RL.cB 0 hw 1 zr wL fun w hw=>?_
  refine RL.nt ?_
  obtain⟨ax,b4,hb⟩:=bd hb
  obtain⟨ay,b5,hb⟩:=bd hb
  refine RC.Fi E Γ mixed [1,0,1,0,0,0,0,1,0,1,0,1,0,0,1,0,0,0,1,0,1,0] [3,4,10,12,15,19,21] (fun(x:Value×Value×Value×Value×Value)=>(fun aq ar au av aw=>[(0,36,(vp j 0)),(1,37,(vi o.X0)),(2,38,(vp a7 2)),(3,39,aq),(4,40,ar),(5,41,(vi ax)),(6,42,(vi (if ax<o.X0 then ax else o.X0))),(7,43,(vp j 2)),(8,44,(vi o.X1)),(9,45,(vp a7 2)),(10,46,au),(11,47,(vp a7 2)),(12,48,av),(13,49,(vi a2.Xs.length)),(14,50,(vi (IntKind.wrap .i64 ((a2.Xs.length:Int) - 1)))),(15,51,aw),(16,52,(vi ay)),(17,53,(vi (if o.X1<ay then ay else o.X1))),(18,54,(vp j 0)),(20,55,(vp j 2))]) x.1 x.2.1 x.2.2.1 x.2.2.2.1 x.2.2.2.2) [(2,vp a5 0),(3,vp j 0),(5,vp a7 0),(30,v0),(31,vi p0.length),(32,vi a6)] [] (fun(D:Nat->Bool) (x:Value×Value×Value×Value×Value)=>(fun aq ar au av aw=>[bif D 0 then (rd aq a2.Xs) else bB,bif D 1 then (pt ar ax) else bB,bif D 2 then (rd au a2.Xs) else bB,bif D 3 then (rd av a2.Xs) else bB,bif D 4 then (pt aw ay) else bB,bx 119 a7 a2,rd b3 a2,pt b2 a2,raw 59 a5 4,bif D 6 then (bx 59 j {{o with X0:=(if ax<o.X0 then ax else o.X0)} with X1:=(if o.X1<ay then ay else o.X1)}) else (bif D 5 then (bx 59 j {o with X0:=(if ax<o.X0 then ax else o.X0)}) else (bx 59 j o)),rd v0 p0]) x.1 x.2.1 x.2.2.1 x.2.2.2.1 x.2.2.2.2) (fun x=>by kernel_rfl) ?_ ⟨fun _=>nu gn g9,?_,fun _=>nu gn lU,?_,?_,?_,?_,fun _=>nu gn iZ,?_,fun _=>nu gn lU,?_,fun _=>nu gn lU,?_,?_,fun _=>I2 gn rfl,?_,?_,?_,fun _=>nu gn g9,?_,fun _=>nu gn iZ,?_,trivial⟩ ?_
  ·have hw:=(((((hw.drew).bB).bB).bB).bB).bB
   exact⟨(undef,undef,undef,undef,undef),gw.none,(D5 zr),zt,hw⟩
  ·rintro D σ w hD hdep hcl ⟨⟨aq,ar,au,av,aw⟩,hv,ha,_,hw⟩
   obtain⟨τ,rfl⟩:=(ac (hv.at 0 rfl (hdep.1 rfl)) az).fq
   have hw:=(hw.cA 9 (nf (fun h=>ft hD ((hcl 21 _ rfl h).2.2.2.2.1 rfl)))).cA 9 (nf (fun h=>ft hD ((hcl 19 _ rfl h).2.2.2.1 rfl)))
   refine RL.aM 9 hw zr dL cJ ?_
   have hw:=(hw.eV 9 (D 19) (nf (fun h=>ft hD ((hcl 19 _ rfl h).2.2.2.1 rfl))) (bx 59 j {o with X0:=(if ax<o.X0 then ax else o.X0)})).eV 9 (D 21) (nf (fun h=>ft hD ((hcl 21 _ rfl h).2.2.2.2.1 rfl))) (bx 59 j {{o with X0:=(if ax<o.X0 then ax else o.X0)} with X1:=(if o.X1<ay then ay else o.X1)})
   exact RL.nil ⟨rfl,(aq,ar,au,av,aw),hv.put 1 zr zr,ha.up zr,zt,hw⟩
  ·rintro D σ w hD hdep hcl ⟨⟨aq,ar,au,av,aw⟩,hv,ha,_,hw⟩
   obtain⟨τ,rfl⟩:=(ac (hv.at 2 rfl (hdep.1 rfl)) az).fq
   have hw:=hw.cA 0 hD
   refine RL.bE 5 hw zr dZ fA fun b6 hw=>?_
   have hw:=(hw.pl 12 [0,2,3,4,5,6,7,8,9,10,11]).cQ 0 true rfl bB
   exact RL.nil ⟨rfl,(b6,ar,au,av,aw),hv.put 3 zr zr,ha.up zr,zt,hw⟩
  ·rintro D σ w hD hdep hcl ⟨⟨aq,ar,au,av,aw⟩,hv,ha,_,hw⟩
   obtain⟨τ,rfl⟩:=(ac (hv.at 3 rfl (hdep.1 rfl)) az).fq
   have hw:=(hw.cP 0 (hdep.1 rfl)).cA 1 hD
   refine RL.bN 0 hw eB b4 fun b7 hw=>?_
   have hw:=((hw.pl 12 [1,0,3,4,5,6,7,8,9,10,11]).cQ 0 (D 3) (hdep.1 rfl) bB).cQ 1 true rfl bB
   exact RL.nil ⟨rfl,(aq,b7,au,av,aw),hv.put 4 zr zr,ha.up zr,zt,hw⟩
  ·rintro D σ w hD hdep hcl ⟨⟨aq,ar,au,av,aw⟩,hv,ha,_,hw⟩
   obtain⟨τ,rfl⟩:=(ac (hv.at 4 rfl (hdep.1 rfl)) az).fq
   have hw:=hw.cP 1 (hdep.1 rfl)
   refine RL.bF ax 1 hw cJ ?_
   have hw:=hw.cQ 1 (D 4) (hdep.1 rfl) bB
   exact RL.nil ⟨rfl,(aq,ar,au,av,aw),hv.put 5 zr zr,ha.up zr,zt,hw⟩
  ·rintro D σ w hD hdep hcl ⟨⟨aq,ar,au,av,aw⟩,hv,ha,_,hw⟩
   obtain⟨τ,rfl⟩:=(ac (hv.at 1 rfl (hdep.1 rfl)) (ac (hv.at 5 rfl (hdep.2.1 rfl)) az)).fq
   refine RL.min o.X0 ax ?_
   exact RL.nil ⟨rfl,(aq,ar,au,av,aw),hv.put 6 zr zr,ha.up zr,zt,hw⟩
  ·rintro D σ w hD hdep hcl ⟨⟨aq,ar,au,av,aw⟩,hv,ha,_,hw⟩
   obtain⟨τ,rfl⟩:=(ac (hv.at 7 rfl (hdep.1 rfl)) az).fq
   have hw:=(hw.cA 9 (nf (fun h=>ft hD ((hcl 21 _ rfl h).2.2.2.2.2.2.2.2.2.2.2.1 rfl)))).cA 9 (nf (fun h=>ft hD ((hcl 19 _ rfl h).2.2.2.2.2.2.2.2.2.2.1 rfl)))
   refine RL.aM 9 hw zr eC cJ ?_
   have hw:=(hw.eV 9 (D 19) (nf (fun h=>ft hD ((hcl 19 _ rfl h).2.2.2.2.2.2.2.2.2.2.1 rfl))) (bx 59 j {o with X0:=(if ax<o.X0 then ax else o.X0)})).eV 9 (D 21) (nf (fun h=>ft hD ((hcl 21 _ rfl h).2.2.2.2.2.2.2.2.2.2.2.1 rfl))) (bx 59 j {{o with X0:=(if ax<o.X0 then ax else o.X0)} with X1:=(if o.X1<ay then ay else o.X1)})
   exact RL.nil ⟨rfl,(aq,ar,au,av,aw),hv.put 8 zr zr,ha.up zr,zt,hw⟩
  ·rintro D σ w hD hdep hcl ⟨⟨aq,ar,au,av,aw⟩,hv,ha,_,hw⟩
   obtain⟨τ,rfl⟩:=(ac (hv.at 9 rfl (hdep.1 rfl)) az).fq
   have hw:=hw.cA 2 hD
   refine RL.bE 5 hw zr dZ fA fun b8 hw=>?_
   have hw:=(hw.pl 12 [1,2,0,4,5,6,7,8,9,10,11]).cQ 2 true rfl bB
   exact RL.nil ⟨rfl,(aq,ar,b8,av,aw),hv.put 10 zr zr,ha.up zr,zt,hw⟩
  ·rintro D σ w hD hdep hcl ⟨⟨aq,ar,au,av,aw⟩,hv,ha,_,hw⟩
   obtain⟨τ,rfl⟩:=(ac (hv.at 11 rfl (hdep.1 rfl)) az).fq
   have hw:=hw.cA 3 hD
   refine RL.bE 5 hw zr dZ fA fun b9 hw=>?_
   have hw:=(hw.pl 12 [1,2,3,0,5,6,7,8,9,10,11]).cQ 3 true rfl bB
   exact RL.nil ⟨rfl,(aq,ar,au,b9,aw),hv.put 12 zr zr,ha.up zr,zt,hw⟩
  ·rintro D σ w hD hdep hcl ⟨⟨aq,ar,au,av,aw⟩,hv,ha,_,hw⟩
   obtain⟨τ,rfl⟩:=(ac (hv.at 12 rfl (hdep.1 rfl)) az).fq
   have hw:=hw.cP 3 (hdep.1 rfl)
   refine RL.bC 3 a2.Xs hw l4 ?_
   have hw:=hw.cQ 3 (D 12) (hdep.1 rfl) bB
   exact RL.nil ⟨rfl,(aq,ar,au,av,aw),hv.put 13 zr zr,ha.up zr,zt,hw⟩
  ·rintro D σ w hD hdep hcl ⟨⟨aq,ar,au,av,aw⟩,hv,ha,_,hw⟩
   obtain⟨τ,rfl⟩:=(ac (hv.at 10 rfl (hdep.1 rfl)) (ac (hv.at 14 rfl (hdep.2.1 rfl)) az)).fq
   have hw:=(hw.cP 2 (hdep.1 rfl)).cA 4 hD
   refine RL.bN 2 hw eB b5 fun ca hw=>?_
   have hw:=((hw.pl 12 [1,2,3,4,0,6,7,8,9,10,11]).cQ 2 (D 10) (hdep.1 rfl) bB).cQ 4 true rfl bB
   exact RL.nil ⟨rfl,(aq,ar,au,av,ca),hv.put 15 zr zr,ha.up zr,zt,hw⟩
  ·rintro D σ w hD hdep hcl ⟨⟨aq,ar,au,av,aw⟩,hv,ha,_,hw⟩
   obtain⟨τ,rfl⟩:=(ac (hv.at 15 rfl (hdep.1 rfl)) az).fq
   have hw:=hw.cP 4 (hdep.1 rfl)
   refine RL.bF ay 4 hw cJ ?_
   have hw:=hw.cQ 4 (D 15) (hdep.1 rfl) bB
   exact RL.nil ⟨rfl,(aq,ar,au,av,aw),hv.put 16 zr zr,ha.up zr,zt,hw⟩
  ·rintro D σ w hD hdep hcl ⟨⟨aq,ar,au,av,aw⟩,hv,ha,_,hw⟩
   obtain⟨τ,rfl⟩:=(ac (hv.at 8 rfl (hdep.1 rfl)) (ac (hv.at 16 rfl (hdep.2.1 rfl)) az)).fq
   refine RL.max o.X1 ay ?_
   exact RL.nil ⟨rfl,(aq,ar,au,av,aw),hv.put 17 zr zr,ha.up zr,zt,hw⟩
  ·rintro D σ w hD hdep hcl ⟨⟨aq,ar,au,av,aw⟩,hv,ha,_,hw⟩
   obtain⟨τ,rfl⟩:=(ac (hv.at 6 rfl (hdep.2.1 rfl)) (ac (hv.at 18 rfl (hdep.1 rfl)) az)).fq
   have hw:=((hw.cA 9 (nf (fun h=>ft hD ((hcl 21 _ rfl h).2.2.1 rfl)))).cA 9 hD).sc Int (if ax<o.X0 then ax else o.X0)
   refine RL.wh 10 hw zr zr zr 0 zr oA cJ fun w hw=>?_
   have hw:=((hw.pl 12 [1,2,3,4,5,6,7,8,9,10,11]).cQ 9 true rfl (bx 59 j o)).eV 9 (D 21) (nf (fun h=>ft hD ((hcl 21 _ rfl h).2.2.1 rfl))) (bx 59 j {{o with X0:=(if ax<o.X0 then ax else o.X0)} with X1:=(if o.X1<ay then ay else o.X1)})
   exact RL.nil ⟨rfl,(aq,ar,au,av,aw),hv.no zr,ha,zt,hw⟩
  ·rintro D σ w hD hdep hcl ⟨⟨aq,ar,au,av,aw⟩,hv,ha,_,hw⟩
   obtain⟨τ,rfl⟩:=(ac (hv.at 17 rfl (hdep.2.1 rfl)) (ac (hv.at 19 rfl (hdep.1 rfl)) az)).fq
   have hw:=((hw.cA 9 hD).cP 9 (hdep.2.2.1 rfl)).sc Int (if o.X1<ay then ay else o.X1)
   refine RL.wh 10 hw zr zr zr 0 zr oC cJ fun w hw=>?_
   have hw:=(hw.pl 12 [1,2,3,4,5,6,7,8,9,10,11]).cQ 9 true rfl (bif D 19 then (bx 59 j {o with X0:=(if ax<o.X0 then ax else o.X0)}) else (bx 59 j o))
   exact RL.nil ⟨rfl,(aq,ar,au,av,aw),hv.no zr,ha,zt,hw⟩
  rintro D σ w hall ⟨⟨aq,ar,au,av,aw⟩,hv,ha,_,hw⟩
  have hw:=hw.cP 0 (hall 3 (by decide))
  have hw:=hw.cP 1 (hall 4 (by decide))
  have hw:=hw.cP 2 (hall 10 (by decide))
  have hw:=hw.cP 3 (hall 12 (by decide))
  have hw:=hw.cP 4 (hall 15 (by decide))
  have hw:=hw.cP 9 (hall 21 (by decide))
  obtain⟨τ,rfl⟩:=(ac (ha.at 0 rfl) (ac (ha.at 1 rfl) (ac (ha.at 2 rfl) (ac (ha.at 3 rfl) (ac (ha.at 4 rfl) (ac (ha.at 5 rfl) az)))))).fq
  refine bO (aH (RC.region (RL.inc hk hm (mv (vi ((a6+1:Nat):Int)) (RL.nil ?_)))))
  obtain rfl:=oi hb
  exact⟨rfl,hw.sp 11 [8,9,10]⟩
 rintro _ w ⟨τ,rfl,hw⟩
 refine aH (RC.sr (RL.bE (f:=(fun x=>x)) 1 hw zr Fd.self iw fun cb hw=>(RL.cB 1 hw 0 zr iw fun w hw=>?_)))
 refine RL.nt (RC.ret ?_)
 obtain rfl:=oi hb
 exact HA 1 zr hw zr zr iw fun cc hw=>(hw.pk 5 [0])
theorem wS {p0: (List aA)} {res:Bool} (hw:Holds E w Γ) (h0:Γ[i0]? =some (rd v0 p0)) (hb:l9 N p0=some res):
    Calls bM 36 [v0].toArray w (gL (aV E Γ res)):=by
 unfold l9 at hb
 refine enter Tryz.func36 zr zr ?_
 have hw:=hw.dup (i0+0) h0
 refine RC.sr (aQ (vb false) (RL.nq ?_))
 obtain⟨o,hj,hb⟩:=bd hb
 refine RC.jn (fun(o:Bool)=>SH E Γ [(2,vb o)] []) o ?_ ?_
 ·refine RC.region (mv v0 (RL.bC 0 p0 hw u4 (ic ((p0.length:Int)) 0 (mv (vb ((p0.length:Int)==0)) (fB hj (fun j hj=>?_) fun j hj=>?_)))))
  ·refine bJ j (bJ j (bJ j (fG j (vb true) (aQ (vb true) (RL.nil ?_)))))
   obtain rfl:=oi hj
   exact⟨rfl,hw.sp 1 []⟩
  refine RL.move v0 (cg j) ?_
  obtain⟨af,ab,hj⟩:=bd hj
  refine RL.call (cg j) zr LA [v0] zr (aD (vd N (i0:=0) hw zr ab) ?_)
  rintro ad w hw
  obtain⟨aa,ae,hj⟩:=bd hj
  refine RL.call (cg j) zr JT [ad] zr (aD (tp N (i0:=0) hw zr ae) ?_)
  rintro _ w ⟨rfl,hw⟩
  refine fG j (vb aa) (aQ (vb aa) (RL.nil ?_))
  obtain rfl:=oi hj
  exact⟨rfl,hw.sp 2 []⟩
 rintro _ w ⟨τ,rfl,hw⟩
 refine aH (RC.ret ?_)
 obtain rfl:=oi hb
 exact bX ⟨rfl,hw.drop 0⟩
def yL (E:World) (Γ:List HP) (res:aI×Int) (v:Value) (w:World):Prop:=∃u0:Value,v = .tuple #[u0,(vi res.2)]/\Holds E w ([rd u0 res.1]++Γ)
theorem rN {p0:cD} {res:aI×Int} (hw:Holds E w Γ) (h0:Γ[i0]? =some (rd v0 p0)) (hb:kC N p0=some res):
    Calls bM 16 [v0].toArray w (gL (yL E Γ res)):=by
 unfold kC at hb
 refine enter Tryz.func16 zr zr ?_
 have hw:=hw.dup (i0+0) h0
 refine RC.sr (RL.dJ 0 v0 hw zr fun aa w hw=>?_)
 refine RL.alloc hw oc.z fun ab w hw=>?_
 refine aQ (vi 0) (RL.nq (RC.seq ?_))
 obtain⟨o,hj,hb⟩:=bd hb
 refine RC.jn (fun(o:Bool)=>SH E Γ [(1,vp aa 0),(2,vp ab 0),(14,vb o)] [bx 65 aa p0,raw 59 ab 4]) o ?_ ?_
 ·refine RC.region (RL.aX zr q9 (RL.aM 1 hw zr lI cJ ?_))
  obtain⟨ad,af,hj⟩:=bd hj
  refine RL.call zt zr Fq [(vi p0.dE),(vi 1),(vi 10000)] zr (aD (jN N (p0:=p0.dE) (p1:=1) (p2:=10000) hw af) ?_)
  rintro _ w ⟨rfl,hw⟩
  refine RL.not ad (mv (vb (!ad)) (fB hj (fun j hj=>?_) fun j hj=>?_))
  ·refine bJ j (bJ j (bJ j (bJ j (fG j (vb true) (RL.nil ?_)))))
   obtain rfl:=oi hj
   exact⟨rfl,hw.sp 3 [1,0]⟩
  refine RL.aX (hg:=(cg j)) zr xC (RL.bE (hg:=(cg j)) 1 hw zr pW CZ fun ag hw=>?_)
  obtain⟨ae,ah,hj⟩:=bd hj
  refine RL.call (cg j) zr J3 [ag] zr (aD (rM N (i0:=0) hw zr ah) ?_)
  rintro _ w ⟨rfl,hw⟩
  refine RL.not (hg:=(cg j)) ae (fG j (vb (!ae)) (RL.nil ?_))
  obtain rfl:=oi hj
  exact⟨rfl,hw.sp 4 [2,1]⟩
 rintro _ w ⟨τ,rfl,hw⟩
 refine aH (dT hb (fun hc hb=>?_) fun hc hb=>?_)
 ·refine RC.sr (RL.build (⟨0,0,0,0⟩:aI) trivial rfl hw [] rfl CY rfl (fun M hs g=>by have h:=sK M;exact cT.nil h) fun ay hw=>?_)
  refine RL.cB 2 hw 0 zr iw fun w hw=>?_
  refine aQ (vi 1) (RL.nt (RC.rt ?_))
  obtain rfl:=oi hb
  exact wm 2 hw iw fun ai hw=>⟨ai,zr,hw.pk 4 [0]⟩
 refine RC.sx (RL.bE (f:=(fun x=>x)) 0 hw zr Fd.self lP fun aj hw=>?_)
 obtain⟨ak,al,hb⟩:=bd hb
 refine RL.call zt zr Ft [aj] zr (aD (i6 N (i0:=0) hw zr al) ?_)
 rintro az w hw
 refine RL.alloc hw oc.z fun a0 w hw=>?_
 refine RL.cB 0 hw 1 zr iw fun w hw=>?_
 refine RL.nq (RC.sr (RL.bE (f:=(fun x=>x)) 0 hw zr Fd.self iw fun an hw=>(RL.dW ([ak]: (List aI)) hw [an] iY oc (fun M hs g=>⟨(g.sat 0 _ zr).1,zt⟩) fun ao w hw=>?_)))
 have hw:=hw.freeze 0
 obtain⟨a1,aq,hb⟩:=bd hb
 refine RL.call zt zr Gw [ao] zr (aD (mh N (i0:=0) hw zr aq) ?_)
 rintro ar w hw
 have hw:=hw.freeze 0
 obtain⟨au,av,hb⟩:=bd hb
 refine RL.call zt zr LB [ar] zr (aD (wS N (i0:=0) hw zr av) ?_)
 rintro _ w ⟨rfl,hw⟩
 refine RL.not au (RL.nt (dT hb (fun hc hb=>?_) fun hc hb=>?_))
 ·refine RC.sr (RL.build (⟨0,0,0,0⟩:aI) trivial rfl hw [] rfl CY rfl (fun M hs g=>by have h:=sK M;exact cT.nil h) fun a2 hw=>?_)
  refine RL.cB 8 hw 0 zr iw fun w hw=>?_
  refine aQ (vi 1) (RL.nt (RC.rt ?_))
  obtain rfl:=oi hb
  exact wm 8 hw iw fun aw hw=>⟨aw,zr,hw.pk 10 [0]⟩
 refine RC.sx (RL.bE (f:=(fun x=>x)) 3 hw zr Fd.self iw fun a3 hw=>(RL.cB 8 hw 0 zr iw fun w hw=>?_))
 refine aQ (vi 0) (RL.nt (RC.ret ?_))
 obtain rfl:=oi hb
 exact wm 8 hw iw fun ax hw=>⟨ax,zr,hw.pk 10 [0]⟩
def ve (E:World) (Γ:List HP) (r:Int) (σ:Nat->Value) (w:World):Prop:=lZ bM 47 Tryz.f18 (aW E Γ r) .ret σ w
theorem uc {p0:ld} (hw:Holds E w Γ) (h0:Γ[i0]? =some (rd v0 p0)) (hb:kn N p0=some res):
    Calls bM 18 [v0].toArray w (gL (aW E Γ res)):=by
 unfold kn at hb
 refine enter Tryz.func18 zr zr ?_
 have hw:=hw.dup (i0+0) h0
 refine RC.sr (RL.dJ 0 v0 hw zr fun aq w hw=>?_)
 refine aQ (vi 0) (RL.nq (RC.sr (RL.aX zr gC (RL.bE 0 hw zr gk mT fun ar hw=>(RL.bC 0 p0.aO hw t3 (ic ((p0.aO.length:Int)) 500 (RL.nt (dT hb (fun hc hb=>?_) fun hc hb=>?_))))))))
 ·refine RC.sr (aQ (vi 2) (RL.nt (RC.rt ?_)))
  obtain rfl:=oi hb
  exact bX ⟨rfl,hw.drop 3⟩
 refine RC.sx (RL.aX zr me (RL.bE 1 hw zr iS oD fun au hw=>(RL.bC 0 p0.aJ hw pE (aQ (vi p0.aJ.length) (RL.nq (RC.sr (RL.aX zr gC (RL.bE 2 hw zr gk mT fun ab hw=>?_))))))))
 refine RL.bC 0 p0.aO hw t3 (mv (vi 0) (RL.nt ?_))
 obtain⟨av,hN,hb⟩:=bd hb
 refine RC.range (fun(ad:Nat) (ae:Unit)=>SH E Γ [(3,vi p0.aJ.length),(16,ab),(17,vi p0.aO.length),(18,vi ad)] [rd ab p0.aO]) (fun(ae:Unit)=>SH E Γ [] [rd ab p0.aO]) (ve E Γ) hN ?_ ?_ ?_ ?_ ?_
 ·exact hw.sp 5 [0]
 ·rintro hm ae _ w ⟨τ,rfl,hw⟩
  refine RC.sr (ic ((p0.aO.length:Int)) ((p0.aO.length:Int)) (RL.nq (RC.fV tN (RC.ex ?_))))
  exact⟨rfl,hw.sp 1 [0]⟩
 ·rintro hm ad ae fl _ w hk ⟨τ,rfl,hw⟩ hb
  refine RC.sr (ic ((ad:Int)) ((p0.aO.length:Int)) (RL.nq (RC.fU (tM hk) (RC.ss (RC.bs ?_)))))
  obtain⟨o,aj,hb⟩:=bd hb
  refine RL.bN 0 hw qc aj fun aw hw=>(RL.bL 0 o hw lP fun ax hw=>(RL.alloc hw D6.z fun ay w hw=>?_))
  refine RL.cB 0 hw 1 zr lP fun w hw=>?_
  refine RL.nq (RC.sr (RL.bE (f:=(fun x=>x)) 0 hw zr Fd.self lP fun ak hw=>?_))
  obtain⟨aa,al,hb⟩:=bd hb
  refine RL.call zt zr J4 [ak] zr (aD (rN N (i0:=0) hw zr al) ?_)
  rintro _ w ⟨ag,rfl,hw⟩
  refine mv (.tuple #[ag,(vi aa.2)]) (RL.extract ag (RL.extract (vi aa.2) (RL.alloc hw oc.z fun az w hw=>?_)))
  refine RL.cB 0 hw 1 zr iw fun w hw=>?_
  refine aQ (vi aa.2) (RL.ns (mv (vi aa.2) (ic aa.2 0 (RL.nt (dT hb (fun hc hb=>?_) fun hc hb=>?_)))))
  ·refine RC.sr (mv (vi aa.2) (aQ (vi aa.2) (RL.nt (RC.rt (nX (bS ?_))))))
   obtain rfl:=oi hb
   exact⟨rfl,bX ⟨rfl,hw.drop 7⟩⟩
  refine RC.ss ?_
  obtain⟨af,hj,hb⟩:=bd hb
  refine RC.jn (fun(af:Bool)=>SH E Γ [(3,vi p0.aJ.length),(16,ab),(17,vi p0.aO.length),(18,vi ad),(45,vb af)] [rd ab p0.aO]) af ?_ ?_
  ·refine RC.region (RL.aX zr o9 (RL.aM 3 hw zr kf cJ (mv (vi p0.aJ.length) (RL.fQ (p0.aJ.length:Int) 1 ?_))))
   obtain⟨ah,an,hj⟩:=bd hj
   refine RL.call zt zr Fq [(vi o.cN),(vi 0),(vi (IntKind.wrap .i64 ((p0.aJ.length:Int) - 1)))] zr (aD (jN N (p0:=o.cN) (p1:=0) (p2:=(IntKind.wrap .i64 ((p0.aJ.length:Int) - 1))) hw an) ?_)
   rintro _ w ⟨rfl,hw⟩
   refine RL.not ah (mv (vb (!ah)) (fB hj (fun j hj=>?_) fun j hj=>?_))
   ·refine bJ j (bJ j (bJ j (bJ j (bJ j (bJ j (bJ j (bJ j (fG j (vb true) ?_))))))))
    refine RL.nil ?_
    obtain rfl:=oi hj
    exact⟨rfl,hw.sp 7 [6]⟩
   refine RL.aX (hg:=(cg j)) zr re (RL.aM (hg:=(cg j)) 3 hw zr lJ cJ (RL.aX (hg:=(cg j)) zr o9 (RL.aM (hg:=(cg j)) 3 hw zr kf cJ (RL.move (vi p0.aJ.length) (cg j) (RL.fQ (hg:=(cg j)) (p0.aJ.length:Int) 1 ?_)))))
   obtain⟨ai,ao,hj⟩:=bd hj
   refine RL.call (cg j) zr Fq [(vi o.To),(vi o.cN),(vi (IntKind.wrap .i64 ((p0.aJ.length:Int) - 1)))] zr (aD (jN N (p0:=o.To) (p1:=o.cN) (p2:=(IntKind.wrap .i64 ((p0.aJ.length:Int) - 1))) hw ao) ?_)
   rintro _ w ⟨rfl,hw⟩
   refine RL.not (hg:=(cg j)) ai (fG j (vb (!ai)) (RL.nil ?_))
   obtain rfl:=oi hj
   exact⟨rfl,hw.sp 7 [6]⟩
  rintro _ w ⟨τ,rfl,hw⟩
  refine aH (dT hb (fun hc hb=>?_) fun hc hb=>?_)
  rotate_left
  ·refine RC.skip (bO (aH (RC.region (RL.inc hk hm (mv (vi ((ad+1:Nat):Int)) (RL.nil ?_))))))
   obtain rfl:=oi hb
   exact⟨rfl,hw.sp 1 [0]⟩
  refine RC.sr (aQ (vi 1) (RL.nt (RC.rb (bS ?_))))
  obtain rfl:=oi hb
  exact⟨rfl,bX ⟨rfl,hw.drop 1⟩⟩
 ·intro r σ w e hK
  subst e
  refine bS ?_
  obtain rfl:=oi hb
  exact hK
 rintro ae _ w rfl ⟨τ,rfl,hw⟩
 rw [Fo.dF] at hb
 refine aH (RC.sr (aQ (vi 0) (RL.nt (RC.ret ?_))))
 obtain rfl:=oi hb
 exact bX ⟨rfl,hw.drop 1⟩
theorem m6 {p0:eG} (hw:Holds E w Γ) (hb:iR N p0 p1=some res):
    Calls bM 111 [(str p0),(.int .u8 p1)].toArray w (gL (aW E Γ res)):=by
 unfold iR at hb
 refine enter Tryz.func111 zr zr (RC.sr (aQ (vi 0) (RL.ns (mv (str p0) (mv (.int .u8 p1) (RL.y9 (vi (Lib.indexByte p0.cY (Int.toNat p1).toUInt8)) zr [(str p0),(.int .u8 p1)] zr (tv p0 p1 w) (aQ (vi (Lib.indexByte p0.cY (Int.toNat p1).toUInt8)) (RL.nt ?_))))))))
 refine RC.ret ?_
 obtain rfl:=oi hb
 exact bX ⟨rfl,hw.drop 0⟩
theorem ud {p0 p1:eG} (hw:Holds E w Γ) (hb:ko N p0 p1=some res):
    Calls bM 159 [(str p0),(str p1)].toArray w (gL (aW E Γ res)):=by
 unfold ko at hb
 refine enter Tryz.func159 zr zr (RC.sr (aQ (vi 0) (RL.ns (mv (str p1) (RL.lens p1 AA (aQ (vi p1.cY.length) (RL.nq (RC.bs ?_))))))))
 refine mv (vi p1.cY.length) (ic ((p1.cY.length:Int)) 0 (mv (vb ((p1.cY.length:Int)==0)) (RL.gs true ((p1.cY.length:Int)==0) (str p1) rfl rfl rfl cF (RL.gs true ((p1.cY.length:Int)==0) (str p0) rfl rfl rfl cF (RL.gs true ((p1.cY.length:Int)==0) (vb (p1.sA p0)) rfl rfl rfl (Bu .eql p1 p0 rfl (fun h=>by exact(cI h:cv (true&&(((p1.cY.length:Int)==0)==false)) (str p1)= (str p1))) (fun h=>by exact(cI h:cv (true&&(((p1.cY.length:Int)==0)==false)) (str p0)= (str p0))) rfl) (RL.pick ((p1.cY.length:Int)==0) (vb (((p1.cY.length:Int)==0)||(p1.sA p0))) (nD true) (aQ (vb (((p1.cY.length:Int)==0)||(p1.sA p0))) (RL.nt ?_))))))))
 refine dT hb (fun hc hb=>?_) fun hc hb=>?_
 ·refine RC.sr (aQ (vi 0) (RL.nt (RC.rb (bS ?_))))
  obtain rfl:=oi hb
  exact bX ⟨rfl,hw.drop 0⟩
 refine RC.sr (mv (vi p1.cY.length) (ic ((p1.cY.length:Int)) 1 (aQ (vb ((p1.cY.length:Int)==1)) (RL.nt (dT hb (fun hc hb=>?_) fun hc hb=>?_)))))
 ·refine RC.sr (mv (str p0) (mv (str p1) ?_))
  obtain⟨j,o,hb⟩:=bd hb
  refine RL.idxs p1 0 j zr zr zr AA o ?_
  obtain⟨aa,ab,hb⟩:=bd hb
  refine RL.call zt zr Ir [(str p0),(.int .u8 (j.toNat:Int))] zr (aD (m6 N (p0:=p0) (p1:=(j.toNat:Int)) hw ab) ?_)
  rintro _ w ⟨rfl,hw⟩
  refine aQ (vi aa) (RL.nt (RC.rb (bS ?_)))
  obtain rfl:=oi hb
  exact bX ⟨rfl,hw.drop 0⟩
 refine RC.sr (mv (vi p1.cY.length) (mv (str p0) (RL.lens p0 AA (ic ((p1.cY.length:Int)) ((p0.cY.length:Int)) (aQ (vb (decide ((p1.cY.length:Int)>=(p0.cY.length:Int)))) (RL.nt (dT hb (fun hc hb=>?_) fun hc hb=>?_)))))))
 rotate_left
 ·cases hb
 refine RC.sr (aQ (vi (-1)) (RL.nt (RC.rb (bS ?_))))
 obtain rfl:=oi hb
 exact bX ⟨rfl,hw.drop 0⟩
theorem rO {p0 p1:eG} (hw:Holds E w Γ) (hb:lF N p0 p1=some res):
    Calls bM 143 [(str p0),(str p1)].toArray w (gL (aW E Γ res)):=by
 unfold lF at hb
 refine enter Tryz.func143 zr zr (RC.sr (aQ (vi 0) (RL.ns (mv (str p0) (mv (str p1) ?_)))))
 obtain⟨j,o,hb⟩:=bd hb
 refine RL.call zt zr J5 [(str p0),(str p1)] zr (aD (ud N (p0:=p0) (p1:=p1) hw o) ?_)
 rintro _ w ⟨rfl,hw⟩
 refine aQ (vi j) (RL.nt (RC.ret ?_))
 obtain rfl:=oi hb
 exact bX ⟨rfl,hw.drop 0⟩
def yM (E:World) (Γ:List HP) (r:Int) (σ:Nat->Value) (w:World):Prop:=lZ bM 34 Tryz.f142 (aW E Γ r) .ret σ w
theorem xM {p0 p1:eG} (hw:Holds E w Γ) (hb:mZ N p0 p1=some res):
    Calls bM 142 [(str p0),(str p1)].toArray w (gL (aW E Γ res)):=by
 unfold mZ at hb
 refine enter Tryz.func142 zr zr (RC.sr (aQ (vi 0) (RL.nq (RC.sr (mv (str p1) (RL.lens p1 AA (ic ((p1.cY.length:Int)) 0 (RL.nt ?_))))))))
 refine dT hb (fun hc hb=>?_) fun hc hb=>?_
 ·cases hb
 refine RC.ss (RC.sr (mv (str p1) (RL.lens p1 AA (ic ((p1.cY.length:Int)) 1 (RL.nt (dT hb (fun hc hb=>?_) fun hc hb=>?_))))))
 ·refine RC.sr (mv (str p0) (mv (str p1) ?_))
  obtain⟨o,ab,hb⟩:=bd hb
  refine RL.idxs p1 0 o zr zr zr AA ab (RL.y9 (vi ((Lib.countByte p0.cY (Int.toNat (o.toNat:Int)).toUInt8:Nat):Int)) zr [(str p0),(.int .u8 (o.toNat:Int))] zr (LD p0 (o.toNat:Int) w) (aQ (vi ((Lib.countByte p0.cY (Int.toNat (o.toNat:Int)).toUInt8:Nat):Int)) (RL.nt (RC.rt ?_))))
  obtain rfl:=oi hb
  exact bX ⟨rfl,hw.drop 0⟩
 refine RC.sx (aQ (vi 0) (RL.nt ?_))
 obtain⟨ag,hN,hb⟩:=bd hb
 refine RC.iter (fun(j:eG×Int)=>SH E Γ [(0,(str j.1)),(1,(str p1)),(4,vi 0),(5,vi j.2)] []) (fun(j:eG×Int)=>SH E Γ [(4,vi 0)] []) (yM E Γ) hN ?_ ?_ ?_ ?_
 ·exact hw.sp 0 []
 ·rintro j fl _ w ⟨τ,rfl,hw⟩ hb
  refine RC.bs (mv (str j.1) (mv (str p1) ?_))
  obtain⟨aa,ad,hb⟩:=bd hb
  refine RL.call zt zr Is [(str j.1),(str p1)] zr (aD (rO N (p0:=j.1) (p1:=p1) hw ad) ?_)
  rintro _ w ⟨rfl,hw⟩
  refine aQ (vi aa) (RL.nq (RC.sr (mv (vi aa) (ic aa ((-1)) (RL.nt (dT hb (fun hc hb=>?_) fun hc hb=>?_))))))
  ·refine RC.sr (mv (vi j.2) (aQ (vi j.2) (RL.nt (RC.rt (nX ?_)))))
   obtain rfl:=oi hb
   exact⟨rfl,bX ⟨rfl,hw.drop 0⟩⟩
  refine RC.sx (mv (vi j.2) (RL.fQ j.2 1 (aQ (vi (IntKind.wrap .i64 (j.2+1))) (RL.nt (RC.region (mv (str j.1) (mv (vi aa) (mv (str p1) ?_))))))))
  refine RL.lens p1 AA (RL.fQ aa (p1.cY.length:Int) ?_)
  obtain⟨ae,af,hb⟩:=bd hb
  refine RL.vE j.1 zr zr AA (.inl zr) (.inr ⟨rfl,zr⟩) af (aQ (str ae) (RL.nil (bO ?_)))
  obtain rfl:=oi hb
  exact⟨rfl,hw.sp 0 []⟩
 ·intro r σ w e hK
  subst e
  obtain rfl:=oi hb
  exact hK
 rintro j _ w rfl ⟨τ,rfl,hw⟩
 rw [Fo.dF] at hb
 obtain rfl:=oi hb
 refine Cj ?_
 exact bX ⟨rfl,hw.drop 0⟩
theorem vf {p0 p1:eG} {res: (List eG)} (hw:Holds E w Γ) (hb:mH N p0 p1 p2 p3=some res):
    Calls bM 110 [(str p0),(str p1),(vi p2),(vi p3)].toArray w (gL (qd E Γ res)):=by
 unfold mH at hb
 refine enter Tryz.func110 zr zr (RC.sr (aQ (.slice none 0 0) (RL.nq (RC.sr (mv (vi p3) (ic p3 0 (RL.nt (dT hb (fun hc hb=>?_) fun hc hb=>?_))))))))
 ·refine RC.sr (aQ (.slice none 0 0) (RL.nt (RC.rt ?_)))
  obtain rfl:=oi hb
  have hw:=hw.cX eG 9
  exact bX (hw.pk 1 [0])
 refine RC.ss (RC.sr (mv (str p1) (RL.DQ p1 ⟨[]⟩ zt zr zr zr zr (RL.nt (dT hb (fun hc hb=>?_) fun hc hb=>?_)))))
 ·cases hb
 refine RC.ss (RC.sr (mv (vi p3) (ic p3 0 (RL.nt ?_))))
 obtain⟨o,hj,hb⟩:=bd hb
 refine RC.jn (fun(o:Int)=>SH E Γ [(0,(str p0)),(1,(str p1)),(2,vi p2),(3,vi o)] []) o ?_ ?_
 ·refine dT hj (fun hc hj=>?_) fun hc hj=>?_
  rotate_left
  ·refine RC.skip ?_
   obtain rfl:=oi hj
   exact⟨rfl,hw.sp 0 []⟩
  refine RC.region (mv (str p0) (mv (str p1) ?_))
  obtain⟨af,ag,hj⟩:=bd hj
  refine RL.call zt zr J6 [(str p0),(str p1)] zr (aD (xM N (p0:=p0) (p1:=p1) hw ag) ?_)
  rintro _ w ⟨rfl,hw⟩
  refine RL.fQ af 1 (aQ (vi (IntKind.wrap .i64 (af+1))) (RL.nil ?_))
  obtain rfl:=oi hj
  exact⟨rfl,hw.sp 0 []⟩
 rintro _ w ⟨τ,rfl,hw⟩
 refine aH (RC.sr (mv (vi o) (mv (str p0) (RL.lens p0 AA (RL.fQ (p0.cY.length:Int) 1 (RL.min o (IntKind.wrap .i64 ((p0.cY.length:Int)+1)) (aQ (vi (if (IntKind.wrap .i64 ((p0.cY.length:Int)+1))<o then (IntKind.wrap .i64 ((p0.cY.length:Int)+1)) else o)) (RL.ns ?_))))))))
 refine mv (vi (if (IntKind.wrap .i64 ((p0.cY.length:Int)+1))<o then (IntKind.wrap .i64 ((p0.cY.length:Int)+1)) else o)) ?_
 obtain⟨ar,ah,hb⟩:=bd hb
 refine RL.mk (if (IntKind.wrap .i64 ((p0.cY.length:Int)+1))<o then (IntKind.wrap .i64 ((p0.cY.length:Int)+1)) else o) hw J7 MN ah fun aa w hw=>?_
 refine aQ aa (RL.ns (mv (vi (if (IntKind.wrap .i64 ((p0.cY.length:Int)+1))<o then (IntKind.wrap .i64 ((p0.cY.length:Int)+1)) else o)) (RL.fQ (if (IntKind.wrap .i64 ((p0.cY.length:Int)+1))<o then (IntKind.wrap .i64 ((p0.cY.length:Int)+1)) else o) 1 (aQ (vi (IntKind.wrap .i64 ((if (IntKind.wrap .i64 ((p0.cY.length:Int)+1))<o then (IntKind.wrap .i64 ((p0.cY.length:Int)+1)) else o) - 1))) (RL.ns (aQ (vi 0) (RL.nq ?_)))))))
 obtain⟨au,hN,hb⟩:=bd hb
 refine RC.iter (fun(j:eG×(List eG)×Int)=>SH E Γ [(0,(str j.1)),(1,(str p1)),(2,vi p2),(3,(vi (IntKind.wrap .i64 ((if (IntKind.wrap .i64 ((p0.cY.length:Int)+1))<o then (IntKind.wrap .i64 ((p0.cY.length:Int)+1)) else o) - 1)))),(9,aa),(10,vi j.2.2)] [own 9 aa j.2.1]) (fun(j:eG×(List eG)×Int)=>SH E Γ [(0,(str j.1)),(9,aa),(10,vi j.2.2)] [own 9 aa j.2.1]) (fun(r:Empty) _ _=>r.elim) hN ?_ ?_ ?_ ?_
 ·exact hw.sp 1 [0]
 ·rintro j fl _ w ⟨τ,rfl,hw⟩ hb
  refine RC.seq (RC.sr (mv (vi j.2.2) (mv (vi (IntKind.wrap .i64 ((if (IntKind.wrap .i64 ((p0.cY.length:Int)+1))<o then (IntKind.wrap .i64 ((p0.cY.length:Int)+1)) else o) - 1))) (ic j.2.2 ((IntKind.wrap .i64 ((if (IntKind.wrap .i64 ((p0.cY.length:Int)+1))<o then (IntKind.wrap .i64 ((p0.cY.length:Int)+1)) else o) - 1))) (RL.nt (dT hb (fun hc hb=>?_) fun hc hb=>?_))))))
  rotate_left
  ·refine RC.ex ?_
   obtain rfl:=oi hb
   exact⟨rfl,hw.sp 1 [0]⟩
  refine RC.sn (RC.bs (mv (str j.1) (mv (str p1) ?_)))
  obtain⟨ab,ai,hb⟩:=bd hb
  refine RL.call zt zr Is [(str j.1),(str p1)] zr (aD (rO N (p0:=j.1) (p1:=p1) hw ai) ?_)
  rintro _ w ⟨rfl,hw⟩
  refine aQ (vi ab) (RL.nq (RC.sr (mv (vi ab) (ic ab 0 (RL.nt (dT hb (fun hc hb=>?_) fun hc hb=>?_))))))
  ·refine RC.ex (IQ (by decide) ?_)
   obtain rfl:=oi hb
   exact⟨rfl,hw.sp 1 [0]⟩
  refine RC.sx (mv aa (mv (vi j.2.2) (mv (str j.1) (mv (vi ab) (mv (vi p2) (RL.fQ ab p2 ?_))))))
  obtain⟨aj,ak,hb⟩:=bd hb
  refine RL.vE j.1 zr zr AA (.inr ⟨rfl,zr⟩) (.inl zr) ak ?_
  obtain⟨av,ad,hb⟩:=bd hb
  refine RL.bU 0 hw zr zr C0 ad ?_
  have hw:=hw.sc eG aj
  refine RL.gx (f:=(fun _ y=>y)) 1 0 hw (jA 1 hw ad 0) (bI ad).2.1 zr Fs.self Aq fun w hw=>?_
  refine RL.ns (mv (str j.1) (mv (vi ab) (mv (str p1) (RL.lens p1 AA (RL.fQ ab (p1.cY.length:Int) ?_)))))
  obtain⟨al,an,hb⟩:=bd hb
  refine RL.vE j.1 zr zr AA (.inl zr) (.inr ⟨rfl,zr⟩) an (aQ (str al) (RL.nt (RC.region (mv (vi j.2.2) (RL.fQ j.2.2 1 (aQ (vi (IntKind.wrap .i64 (j.2.2+1))) (RL.nil (bO ?_))))))))
  obtain rfl:=oi hb
  exact⟨rfl,hw.sp 2 [1]⟩
 ·intro r _ _ _ _
  exact r.elim
 rintro j _ w rfl ⟨τ,rfl,hw⟩
 rw [Fo.dF] at hb
 refine aH (RC.sr (mv aa (mv (vi j.2.2) (mv (str j.1) ?_))))
 obtain⟨aw,ae,hb⟩:=bd hb
 refine RL.bU 0 hw zr zr C0 ae ?_
 have hw:=hw.sc eG j.1
 refine RL.gx (f:=(fun _ y=>y)) 1 0 hw (jA 1 hw ae 0) (bI ae).2.1 zr Fs.self Aq fun w hw=>?_
 refine RL.ns (mv aa (mv (vi j.2.2) (RL.fQ j.2.2 1 ?_)))
 obtain⟨ax,ao,hb⟩:=bd hb
 refine RL.BA 1 zr hw zr zr C0 (.inr ⟨rfl,zr⟩) ao fun aq hw=>(aQ aq (RL.nt (RC.ret ?_)))
 obtain rfl:=oi hb
 exact bX (hw.pk 2 [1])
theorem rP {p0 p1:eG} {res: (List eG)} (hw:Holds E w Γ) (hb:lG N p0 p1=some res):
    Calls bM 79 [(str p0),(str p1)].toArray w (gL (qd E Γ res)):=by
 unfold lG at hb
 refine enter Tryz.func79 zr zr (RC.sr (aQ (.slice none 0 0) (RL.ns (mv (str p0) (mv (str p1) ?_)))))
 obtain⟨aa,j,hb⟩:=bd hb
 refine RL.call zt zr J8 [(str p0),(str p1),(vi 0),(vi (-1))] zr (aD (vf N (p0:=p0) (p1:=p1) (p2:=0) (p3:=(-1)) hw j) ?_)
 rintro o w hw
 refine aQ o (RL.nt (RC.ret ?_))
 obtain rfl:=oi hb
 exact bX (hw.pk 1 [0])
def qH (E:World) (Γ:List HP) (r:Int) (σ:Nat->Value) (w:World):Prop:=lZ bM 19 Tryz.f109 (aW E Γ r) .ret σ w
theorem qh {p0: (List eG)} {p1:eG->Option Bool} (hw:Holds E w Γ) (h0:Γ[i0]? =some (rd v0 p0)) (h1:Hs bM E Γ v1 p1 (fun(r:Bool)=>Value.bool r)) (hb:kP N p0 p1=some res):
    Calls bM 109 [v0,v1].toArray w (gL (aW E Γ res)):=by
 unfold kP at hb
 refine enter Tryz.func109 zr zr ?_
 have hw:=hw.dup (i0+0) h0
 refine RC.sr (aQ (vi 0) (RL.nq (RC.sr (mv v0 (RL.bC 0 p0 hw It (mv (vi 0) (RL.nt ?_)))))))
 obtain⟨ae,hN,hb⟩:=bd hb
 refine RC.range (fun(j:Nat) (o:Unit)=>SH E Γ [(0,v0),(1,v1),(7,vi p0.length),(8,vi j)] [rd v0 p0]) (fun(o:Unit)=>SH E Γ [] [rd v0 p0]) (qH E Γ) hN ?_ ?_ ?_ ?_ ?_
 ·exact hw.sp 1 [0]
 ·rintro hm o _ w ⟨τ,rfl,hw⟩
  refine RC.sr (ic ((p0.length:Int)) ((p0.length:Int)) (RL.nq (RC.fV tN (RC.ex ?_))))
  exact⟨rfl,hw.sp 1 [0]⟩
 ·rintro hm j o fl _ w hk ⟨τ,rfl,hw⟩ hb
  refine RC.sr (ic ((j:Int)) ((p0.length:Int)) (RL.nq (RC.fU (tM hk) (RC.ss (RC.bs (mv (vi j) (aQ (vi j) (RL.ns ?_))))))))
  refine mv v1 (mv v0 (mv (vi j) ?_))
  obtain⟨aa,ab,hb⟩:=bd hb
  refine RL.bN 0 hw C0 ab fun af hw=>(RL.bF aa 0 hw Aq ?_)
  have hw:=hw.sc eG aa
  obtain⟨ag,ad,hb⟩:=bd hb
  refine RL.Bx 0 zr hw zr h1 3 zr zr zr ad fun w hw=>(RL.nt (dT hb (fun hc hb=>?_) fun hc hb=>?_))
  rotate_left
  ·refine RC.skip (bO (aH (RC.region (RL.inc hk hm (mv (vi ((j+1:Nat):Int)) (RL.nil ?_))))))
   obtain rfl:=oi hb
   exact⟨rfl,hw.sp 3 [2]⟩
  refine RC.sr (mv (vi j) (aQ (vi j) (RL.nt (RC.rb (bS ?_)))))
  obtain rfl:=oi hb
  exact⟨rfl,bX ⟨rfl,hw.drop 3⟩⟩
 ·intro r σ w e hK
  subst e
  refine bS ?_
  obtain rfl:=oi hb
  exact hK
 rintro o _ w rfl ⟨τ,rfl,hw⟩
 rw [Fo.dF] at hb
 refine aH (RC.sr (aQ (vi (-1)) (RL.nt (RC.ret ?_))))
 obtain rfl:=oi hb
 exact bX ⟨rfl,hw.drop 1⟩
theorem oT {p0: (List eG)} {p1:eG->Option Bool} {res:Bool} (hw:Holds E w Γ) (h0:Γ[i0]? =some (rd v0 p0)) (h1:Hs bM E Γ v1 p1 (fun(r:Bool)=>Value.bool r)) (hb:iF N p0 p1=some res):
    Calls bM 78 [v0,v1].toArray w (gL (aV E Γ res)):=by
 unfold iF at hb
 refine enter Tryz.func78 zr zr ?_
 have hw:=hw.dup (i0+0) h0
 refine RC.sr (aQ (vb false) (RL.ns (mv v0 (mv v1 ?_))))
 obtain⟨j,o,hb⟩:=bd hb
 refine RL.call zt zr Ka [v0,v1] zr (aD (qh N (i0:=0) hw zr (h1.lift 1 zr) o) ?_)
 rintro _ w ⟨rfl,hw⟩
 refine ic j 0 (aQ (vb (decide (j>=0))) (RL.nt (RC.ret ?_)))
 obtain rfl:=oi hb
 exact bX ⟨rfl,hw.drop 1⟩
theorem oU {p0:eG} (hw:Holds E w Γ) (hb:gF N p0 p1=some res):
    Calls bM 81 [(str p0),(.int .u8 p1)].toArray w (gL (aW E Γ res)):=by
 unfold gF at hb
 refine enter Tryz.func81 zr zr (RC.sr (aQ (vi 0) (RL.ns (mv (str p0) (mv (.int .u8 p1) ?_)))))
 obtain⟨j,o,hb⟩:=bd hb
 refine RL.call zt zr Ir [(str p0),(.int .u8 p1)] zr (aD (m6 N (p0:=p0) (p1:=p1) hw o) ?_)
 rintro _ w ⟨rfl,hw⟩
 refine aQ (vi j) (RL.nt (RC.ret ?_))
 obtain rfl:=oi hb
 exact bX ⟨rfl,hw.drop 0⟩
def xN (E:World) (Γ:List HP) (r:Bool) (σ:Nat->Value) (w:World):Prop:=lZ bM 49 Tryz.f41 (aV E Γ r) .ret σ w
theorem qV {p0:eG} {res:Bool} (hw:Holds E w Γ) (hb:ji N p0=some res):
    Calls bM 41 [(str p0)].toArray w (gL (aV E Γ res)):=by
 unfold ji at hb
 refine enter Tryz.func41 zr zr (RC.sr (aQ (vb false) (RL.nq (RC.sr (mv (str p0) (RL.lens p0 AA (mv (vi 0) (RL.nt ?_))))))))
 obtain⟨ah,hN,hb⟩:=bd hb
 refine RC.range (fun(o:Nat) (ab:Unit)=>SH E Γ [(0,(str p0)),(6,vi p0.cY.length),(7,vi o)] []) (fun(ab:Unit)=>SH E Γ [(0,(str p0))] []) (xN E Γ) hN ?_ ?_ ?_ ?_ ?_
 ·exact hw.sp 0 []
 ·rintro hm ab _ w ⟨τ,rfl,hw⟩
  refine RC.sr (ic ((p0.cY.length:Int)) ((p0.cY.length:Int)) (RL.nq (RC.fV tN (RC.ex ?_))))
  exact⟨rfl,hw.sp 0 []⟩
 ·rintro hm o ab fl _ w hk ⟨τ,rfl,hw⟩ hb
  refine RC.sr (ic ((o:Int)) ((p0.cY.length:Int)) (RL.nq (RC.fU (tM hk) (RC.ss (RC.bs (mv (vi o) (aQ (vi o) (RL.ns ?_))))))))
  refine mv (str p0) (mv (vi o) ?_)
  obtain⟨j,af,hb⟩:=bd hb
  refine RL.idxs p0 (o:Int) j zr zr zr AA af (aQ (.int .u8 (j.toNat:Int)) (RL.nq ?_))
  obtain⟨ad,hj,hb⟩:=bd hb
  refine RC.jn (fun(ad:Bool)=>SH E Γ [(0,(str p0)),(6,vi p0.cY.length),(7,vi o),(39,vb ad)] []) ad ?_ ?_
  ·refine RC.region (mv (.int .u8 (j.toNat:Int)) (ic ((j.toNat:Int)) 65 (mv (vb (decide ((j.toNat:Int)<65))) (RL.gs true (decide ((j.toNat:Int)<65)) (.int .u8 (j.toNat:Int)) rfl rfl rfl cF (RL.gs true (decide ((j.toNat:Int)<65)) (vb (decide ((j.toNat:Int)>90))) rfl rfl rfl (dI .gtr .u8 (j.toNat:Int) 90 rfl (fun h=>by exact(cI h:cv (true&&((decide ((j.toNat:Int)<65))==false)) (.int .u8 (j.toNat:Int))= (.int .u8 (j.toNat:Int)))) (fun _=>rfl) rfl) (RL.pick (decide ((j.toNat:Int)<65)) (vb ((decide ((j.toNat:Int)<65))||(decide ((j.toNat:Int)>90)))) (nD true) (mv (vb ((decide ((j.toNat:Int)<65))||(decide ((j.toNat:Int)>90)))) (RL.gs true ((decide ((j.toNat:Int)<65))||(decide ((j.toNat:Int)>90))) (.int .u8 (j.toNat:Int)) rfl rfl rfl cF ?_))))))))
   refine RL.gs true ((decide ((j.toNat:Int)<65))||(decide ((j.toNat:Int)>90))) (vb (decide ((j.toNat:Int)<97))) rfl rfl rfl (dI .lss .u8 (j.toNat:Int) 97 rfl (fun h=>by exact(cI h:cv (true&&(((decide ((j.toNat:Int)<65))||(decide ((j.toNat:Int)>90)))==true)) (.int .u8 (j.toNat:Int))= (.int .u8 (j.toNat:Int)))) (fun _=>rfl) rfl) (RL.gs true ((decide ((j.toNat:Int)<65))||(decide ((j.toNat:Int)>90))) (vb (decide ((j.toNat:Int)<97))) rfl rfl rfl (cF (hx:=fun h=>by exact(cI h:cv (true&&(((decide ((j.toNat:Int)<65))||(decide ((j.toNat:Int)>90)))==true)) (vb (decide ((j.toNat:Int)<97)))= (vb (decide ((j.toNat:Int)<97)))))) (RL.gs (true&&(((decide ((j.toNat:Int)<65))||(decide ((j.toNat:Int)>90)))==true)) (decide ((j.toNat:Int)<97)) (.int .u8 (j.toNat:Int)) rfl rfl rfl cF (RL.gs (true&&(((decide ((j.toNat:Int)<65))||(decide ((j.toNat:Int)>90)))==true)) (decide ((j.toNat:Int)<97)) (vb (decide ((j.toNat:Int)>122))) rfl rfl rfl (dI .gtr .u8 (j.toNat:Int) 122 rfl (fun h=>by exact(cI h:cv ((true&&(((decide ((j.toNat:Int)<65))||(decide ((j.toNat:Int)>90)))==true))&&((decide ((j.toNat:Int)<97))==false)) (.int .u8 (j.toNat:Int))= (.int .u8 (j.toNat:Int)))) (fun _=>rfl) rfl) (RL.gs true ((decide ((j.toNat:Int)<65))||(decide ((j.toNat:Int)>90))) (vb ((decide ((j.toNat:Int)<97))||(decide ((j.toNat:Int)>122)))) rfl rfl rfl (kj (decide ((j.toNat:Int)<97)) rfl (fun h=>by exact(cI h:cv (true&&(((decide ((j.toNat:Int)<65))||(decide ((j.toNat:Int)>90)))==true)) (vb (decide ((j.toNat:Int)<97)))= (vb (decide ((j.toNat:Int)<97))))) (fun h=>by exact nD (h:=h) (true&&(((decide ((j.toNat:Int)<65))||(decide ((j.toNat:Int)>90)))==true)))) (RL.pick ((decide ((j.toNat:Int)<65))||(decide ((j.toNat:Int)>90))) (vb (((decide ((j.toNat:Int)<65))||(decide ((j.toNat:Int)>90)))&&((decide ((j.toNat:Int)<97))||(decide ((j.toNat:Int)>122))))) (fZ true rfl) (mv (vb (((decide ((j.toNat:Int)<65))||(decide ((j.toNat:Int)>90)))&&((decide ((j.toNat:Int)<97))||(decide ((j.toNat:Int)>122))))) (RL.gs true (((decide ((j.toNat:Int)<65))||(decide ((j.toNat:Int)>90)))&&((decide ((j.toNat:Int)<97))||(decide ((j.toNat:Int)>122)))) (.int .u8 (j.toNat:Int)) rfl rfl rfl cF (RL.gs true (((decide ((j.toNat:Int)<65))||(decide ((j.toNat:Int)>90)))&&((decide ((j.toNat:Int)<97))||(decide ((j.toNat:Int)>122)))) (vb (decide ((j.toNat:Int)<48))) rfl rfl rfl (dI .lss .u8 (j.toNat:Int) 48 rfl (fun h=>by exact(cI h:cv (true&&((((decide ((j.toNat:Int)<65))||(decide ((j.toNat:Int)>90)))&&((decide ((j.toNat:Int)<97))||(decide ((j.toNat:Int)>122))))==true)) (.int .u8 (j.toNat:Int))= (.int .u8 (j.toNat:Int)))) (fun _=>rfl) rfl) ?_))))))))
   refine RL.gs true (((decide ((j.toNat:Int)<65))||(decide ((j.toNat:Int)>90)))&&((decide ((j.toNat:Int)<97))||(decide ((j.toNat:Int)>122)))) (vb (decide ((j.toNat:Int)<48))) rfl rfl rfl (cF (hx:=fun h=>by exact(cI h:cv (true&&((((decide ((j.toNat:Int)<65))||(decide ((j.toNat:Int)>90)))&&((decide ((j.toNat:Int)<97))||(decide ((j.toNat:Int)>122))))==true)) (vb (decide ((j.toNat:Int)<48)))= (vb (decide ((j.toNat:Int)<48)))))) (RL.gs (true&&((((decide ((j.toNat:Int)<65))||(decide ((j.toNat:Int)>90)))&&((decide ((j.toNat:Int)<97))||(decide ((j.toNat:Int)>122))))==true)) (decide ((j.toNat:Int)<48)) (.int .u8 (j.toNat:Int)) rfl rfl rfl cF (RL.gs (true&&((((decide ((j.toNat:Int)<65))||(decide ((j.toNat:Int)>90)))&&((decide ((j.toNat:Int)<97))||(decide ((j.toNat:Int)>122))))==true)) (decide ((j.toNat:Int)<48)) (vb (decide ((j.toNat:Int)>57))) rfl rfl rfl (dI .gtr .u8 (j.toNat:Int) 57 rfl (fun h=>by exact(cI h:cv ((true&&((((decide ((j.toNat:Int)<65))||(decide ((j.toNat:Int)>90)))&&((decide ((j.toNat:Int)<97))||(decide ((j.toNat:Int)>122))))==true))&&((decide ((j.toNat:Int)<48))==false)) (.int .u8 (j.toNat:Int))= (.int .u8 (j.toNat:Int)))) (fun _=>rfl) rfl) (RL.gs true (((decide ((j.toNat:Int)<65))||(decide ((j.toNat:Int)>90)))&&((decide ((j.toNat:Int)<97))||(decide ((j.toNat:Int)>122)))) (vb ((decide ((j.toNat:Int)<48))||(decide ((j.toNat:Int)>57)))) rfl rfl rfl (kj (decide ((j.toNat:Int)<48)) rfl (fun h=>by exact(cI h:cv (true&&((((decide ((j.toNat:Int)<65))||(decide ((j.toNat:Int)>90)))&&((decide ((j.toNat:Int)<97))||(decide ((j.toNat:Int)>122))))==true)) (vb (decide ((j.toNat:Int)<48)))= (vb (decide ((j.toNat:Int)<48))))) (fun h=>by exact nD (h:=h) (true&&((((decide ((j.toNat:Int)<65))||(decide ((j.toNat:Int)>90)))&&((decide ((j.toNat:Int)<97))||(decide ((j.toNat:Int)>122))))==true)))) (RL.pick (((decide ((j.toNat:Int)<65))||(decide ((j.toNat:Int)>90)))&&((decide ((j.toNat:Int)<97))||(decide ((j.toNat:Int)>122)))) (vb ((((decide ((j.toNat:Int)<65))||(decide ((j.toNat:Int)>90)))&&((decide ((j.toNat:Int)<97))||(decide ((j.toNat:Int)>122))))&&((decide ((j.toNat:Int)<48))||(decide ((j.toNat:Int)>57))))) (fZ true rfl) (mv (vb ((((decide ((j.toNat:Int)<65))||(decide ((j.toNat:Int)>90)))&&((decide ((j.toNat:Int)<97))||(decide ((j.toNat:Int)>122))))&&((decide ((j.toNat:Int)<48))||(decide ((j.toNat:Int)>57))))) (fB hj (fun aa hj=>?_) fun aa hj=>?_))))))
   rotate_left
   ·refine bJ aa (bJ aa (bJ aa (fG aa (vb false) (RL.nil ?_))))
    obtain rfl:=oi hj
    exact⟨rfl,hw.sp 0 []⟩
   refine RL.move (.int .u8 (j.toNat:Int)) (cg aa) ?_
   obtain⟨ae,ag,hj⟩:=bd hj
   refine RL.call (cg aa) zr Kb [(str ⟨[95,43,45,35]⟩),(.int .u8 (j.toNat:Int))] zr (aD (oU N (p0:=⟨[95,43,45,35]⟩) (p1:=(j.toNat:Int)) hw ag) ?_)
   rintro _ w ⟨rfl,hw⟩
   refine RL.kL ae 0 (cg aa) (fG aa (vb (decide (ae<0))) (RL.nil ?_))
   obtain rfl:=oi hj
   exact⟨rfl,hw.sp 0 []⟩
  rintro _ w ⟨τ,rfl,hw⟩
  refine aH (dT hb (fun hc hb=>?_) fun hc hb=>?_)
  rotate_left
  ·refine RC.skip (bO (aH (RC.region (RL.inc hk hm (mv (vi ((o+1:Nat):Int)) (RL.nil ?_))))))
   obtain rfl:=oi hb
   exact⟨rfl,hw.sp 0 []⟩
  refine RC.sr (aQ (vb false) (RL.nt (RC.rb (bS ?_))))
  obtain rfl:=oi hb
  exact⟨rfl,bX ⟨rfl,hw.drop 0⟩⟩
 ·intro r σ w e hK
  subst e
  refine bS ?_
  obtain rfl:=oi hb
  exact hK
 rintro ab _ w rfl ⟨τ,rfl,hw⟩
 rw [Fo.dF] at hb
 refine aH (RC.sr (mv (str p0) (RL.lens p0 AA (ic ((p0.cY.length:Int)) 1 (mv (vb (decide ((p0.cY.length:Int)>=1))) (RL.gs true (decide ((p0.cY.length:Int)>=1)) (str p0) rfl rfl rfl cF (RL.gs true (decide ((p0.cY.length:Int)>=1)) (vi p0.cY.length) rfl rfl rfl (Hx (s:=p0) rfl (fun h=>by exact(cI h:cv (true&&((decide ((p0.cY.length:Int)>=1))==true)) (str p0)= (str p0))) AA) (RL.gs true (decide ((p0.cY.length:Int)>=1)) (vb (decide ((p0.cY.length:Int)<=40))) rfl rfl rfl (dI .leq .i64 (p0.cY.length:Int) 40 rfl (fun h=>by exact(cI h:cv (true&&((decide ((p0.cY.length:Int)>=1))==true)) (vi p0.cY.length)= (vi p0.cY.length))) (fun _=>rfl) rfl) ?_))))))))
 refine RL.pick (decide ((p0.cY.length:Int)>=1)) (vb ((decide ((p0.cY.length:Int)>=1))&&(decide ((p0.cY.length:Int)<=40)))) (fZ true zr) (aQ (vb ((decide ((p0.cY.length:Int)>=1))&&(decide ((p0.cY.length:Int)<=40)))) (RL.nt (RC.ret ?_)))
 obtain rfl:=oi hb
 exact bX ⟨rfl,hw.drop 0⟩
theorem ue {p0:eG} {res:Bool} (hw:Holds E w Γ) (hb:iG N p0=some res):
    Calls bM 80 [(str p0)].toArray w (gL (aV E Γ res)):=by
 unfold iG at hb
 refine enter Tryz.func80 zr zr (RC.sr (aQ (vb false) (RL.ns (mv (str p0) ?_))))
 obtain⟨j,o,hb⟩:=bd hb
 refine RL.call zt zr Kc [(str p0)] zr (aD (qV N (p0:=p0) hw o) ?_)
 rintro _ w ⟨rfl,hw⟩
 refine RL.not j (aQ (vb (!j)) (RL.nt (RC.ret ?_)))
 obtain rfl:=oi hb
 exact bX ⟨rfl,hw.drop 0⟩
theorem wT {p0:eG} {res:Bool} (hw:Holds E w Γ) (hb:ma N p0=some res):
    Calls bM 40 [(str p0)].toArray w (gL (aV E Γ res)):=by
 unfold ma at hb
 refine enter Tryz.func40 zr zr (RC.sr (aQ (vb false) (RL.nq ?_)))
 obtain⟨o,hj,hb⟩:=bd hb
 refine RC.jn (fun(o:Bool)=>SH E Γ [(2,vb o)] []) o ?_ ?_
 ·refine RC.region (mv (str p0) (RL.lens p0 AA (ic ((p0.cY.length:Int)) 200 (mv (vb (decide ((p0.cY.length:Int)<=200))) (fB hj (fun j hj=>?_) fun j hj=>?_)))))
  rotate_left
  ·refine bJ j (bJ j (bJ j (bJ j (fG j (vb false) (aQ (vb false) (RL.nil ?_))))))
   obtain rfl:=oi hj
   exact⟨rfl,hw.sp 0 []⟩
  refine RL.move (str p0) (cg j) ?_
  obtain⟨af,ab,hj⟩:=bd hj
  refine RL.call (cg j) zr J9 [(str p0),(str ⟨[47]⟩)] zr (aD (rP N (p0:=p0) (p1:=⟨[47]⟩) hw ab) ?_)
  rintro ad w hw
  have hw:=hw.freeze 0
  obtain⟨aa,ae,hj⟩:=bd hj
  refine RL.call (cg j) rfl LG [ad,(.func (.func 80) #[] #[])] rfl (aD (oT N (i0:=0) hw rfl ⟨80,[],rfl,LF,fun w Γl v y0 r i hw hi hr=>by obtain rfl:=hw.Cn (γ:=eG) hi;exact aD (ue N (p0:=y0) hw hr) fun _ _ h=>h⟩ ae) ?_)
  rintro _ w ⟨rfl,hw⟩
  refine RL.not (hg:=(cg j)) aa (fG j (vb (!aa)) (aQ (vb (!aa)) (RL.nil ?_)))
  obtain rfl:=oi hj
  exact⟨rfl,hw.sp 1 []⟩
 rintro _ w ⟨τ,rfl,hw⟩
 refine aH (RC.ret ?_)
 obtain rfl:=oi hb
 exact bX ⟨rfl,hw.drop 0⟩
def zp (E:World) (Γ:List HP) (res:fk) (v:Value) (w:World):Prop:=Holds E w ([rd v res]++Γ)
theorem pd {p0:fK} {res:fk} (hw:Holds E w Γ) (h0:Γ[i0]? =some (rd v0 p0)) (hb:mI N p0=some res):
    Calls bM 43 [v0].toArray w (gL (zp E Γ res)):=by
 unfold mI at hb
 refine enter Tryz.func43 zr zr ?_
 have hw:=hw.dup (i0+0) h0
 refine RC.sr (RL.dJ 0 v0 hw zr fun j w hw=>?_)
 refine RL.alloc hw I7.z fun o w hw=>?_
 refine RL.ns (RL.aX zr t4 (RL.aM 1 hw zr nF Aq (RL.aX zr xD (RL.aM 1 hw zr pY Aq ?_))))
 have hw:=(hw.sc eG p0.Part).sc eG p0.fk
 refine RL.build (⟨p0.Part,p0.fk⟩:fk) trivial rfl hw [(0,(str p0.Part)),(1,(str p0.fk))] rfl Kd rfl (fun M hs g=>by have h:=Ip M;exact cT.cons (f:=fun(x:fk) y=>{x with Part:=y}) h CT (g.sat 1 _ rfl).1 fun _ h=>cT.cons (f:=fun(x:fk) y=>{x with fk:=y}) h CV (g.sat 0 _ rfl).1 fun _ h=>cT.nil h) fun aa hw=>?_
 refine RL.cB 3 hw 0 zr Ke fun w hw=>?_
 refine RL.nt (RC.ret ?_)
 obtain rfl:=oi hb
 exact HA 3 zr hw zr zr Ke fun ab hw=>(hw.pk 7 [0])
theorem rm {p0 p1:eG} (hw:Holds E w Γ) (hb:lO N p0 p1=some res):
    Calls bM 112 [(str p0),(str p1)].toArray w (gL (aW E Γ res)):=by
 unfold lO at hb
 refine enter Tryz.func112 zr zr (RC.sr (aQ (vi 0) (RL.ns (mv (str p0) (mv (str p1) (RL.y9 (vi (Lib.compareBytes p0.cY p1.cY)) zr [(str p0),(str p1)] zr (LI p0 p1 w) (aQ (vi (Lib.compareBytes p0.cY p1.cY)) (RL.nt ?_))))))))
 refine RC.ret ?_
 obtain rfl:=oi hb
 exact bX ⟨rfl,hw.drop 0⟩
theorem qj {p0 p1:eG} (hw:Holds E w Γ) (hb:nk N p0 p1=some res):
    Calls bM 82 [(str p0),(str p1)].toArray w (gL (aW E Γ res)):=by
 unfold nk at hb
 refine enter Tryz.func82 zr zr (RC.sr (aQ (vi 0) (RL.ns (mv (str p0) (mv (str p1) ?_)))))
 obtain⟨j,o,hb⟩:=bd hb
 refine RL.call zt zr Kf [(str p0),(str p1)] zr (aD (rm N (p0:=p0) (p1:=p1) hw o) ?_)
 rintro _ w ⟨rfl,hw⟩
 refine aQ (vi j) (RL.nt (RC.ret ?_))
 obtain rfl:=oi hb
 exact bX ⟨rfl,hw.drop 0⟩
theorem sO {p0 p1:fk} (hw:Holds E w Γ) (h0:Γ[i0]? =some (rd v0 p0)) (h1:Γ[i1]? =some (rd v1 p1)) (hb:jD N p0 p1=some res):
    Calls bM 42 [v0,v1].toArray w (gL (aW E Γ res)):=by
 unfold jD at hb
 refine enter Tryz.func42 zr zr ?_
 have hw:=(hw.dup (i0+0) h0).dup (i1+1) h1
 refine RC.sr (RL.dJ 1 v0 hw zr fun ad w hw=>?_)
 refine RL.dJ 1 v1 hw zr fun ae w hw=>?_
 refine aQ (vi 0) (RL.nq (RC.sr (RL.aX zr Gz (RL.aM 1 hw zr CS Aq (RL.aX zr Gz (RL.aM 0 hw zr CS Aq ?_))))))
 obtain⟨j,o,hb⟩:=bd hb
 refine RL.call zt zr Kg [(str p0.Part),(str p1.Part)] zr (aD (qj N (p0:=p0.Part) (p1:=p1.Part) hw o) ?_)
 rintro _ w ⟨rfl,hw⟩
 refine aQ (vi j) (RL.ns (mv (vi j) (ic j 0 (RL.nt (dT hb (fun hc hb=>?_) fun hc hb=>?_)))))
 ·refine RC.sr (mv (vi j) (aQ (vi j) (RL.nt (RC.rt ?_))))
  obtain rfl:=oi hb
  exact bX ⟨rfl,hw.drop 4⟩
 refine RC.sx (RL.aX zr GA (RL.aM 1 hw zr CU Aq (RL.aX zr GA (RL.aM 0 hw zr CU Aq ?_))))
 obtain⟨aa,ab,hb⟩:=bd hb
 refine RL.call zt zr Kg [(str p0.fk),(str p1.fk)] zr (aD (qj N (p0:=p0.fk) (p1:=p1.fk) hw ab) ?_)
 rintro _ w ⟨rfl,hw⟩
 refine aQ (vi aa) (RL.nt (RC.ret ?_))
 obtain rfl:=oi hb
 exact bX ⟨rfl,hw.drop 4⟩
def vg (E:World) (Γ:List HP) (r:Int) (σ:Nat->Value) (w:World):Prop:=lZ bM 60 Tryz.f19 (aW E Γ r) .ret σ w
theorem ug {p0:ld} (hw:Holds E w Γ) (h0:Γ[i0]? =some (rd v0 p0)) (hb:kp N p0=some res):
    Calls bM 19 [v0].toArray w (gL (aW E Γ res)):=by
 unfold kp at hb
 refine enter Tryz.func19 zr zr ?_
 have hw:=hw.dup (i0+0) h0
 refine RC.sr (RL.dJ 0 v0 hw zr fun ad w hw=>?_)
 have hw:=hw.lE (i:=0) rfl
 refine aQ (vi 0) (RL.nq (RC.sr (RL.dV 0 hw zr rf n7 fun a9 hw=>(RL.bL 0 p0.bV hw Az fun ba hw=>(RL.bC 0 p0.bV hw Fu (ic ((p0.bV.length:Int)) 1000 (RL.nt (dT hb (fun hc hb=>?_) fun hc hb=>?_))))))))
 ·refine RC.sr (aQ (vi 2) (RL.nt (RC.rt ?_)))
  obtain rfl:=oi hb
  exact bX ⟨rfl,hw.drop 4⟩
 refine RC.ss (RC.sr (RL.dV 2 hw zr rf n7 fun bb hw=>(RL.bL 0 p0.bV hw Az fun ae hw=>(RL.bC 0 p0.bV hw Fu (mv (vi 0) (RL.nt ?_))))))
 obtain⟨bc,hN,hb⟩:=bd hb
 refine RC.range (fun(o:Nat) (ag:Unit)=>SH E Γ [(1,vp ad 0),(10,ae),(11,vi p0.bV.length),(12,vi o)] [pt (vp ad 0) p0,rd ae p0.bV]) (fun(ag:Unit)=>SH E Γ [] [pt (vp ad 0) p0,rd ae p0.bV]) (vg E Γ) hN ?_ ?_ ?_ ?_ ?_
 ·exact hw.sp 6 [4,0]
 ·rintro hm ag _ w ⟨τ,rfl,hw⟩
  refine RC.sr (ic ((p0.bV.length:Int)) ((p0.bV.length:Int)) (RL.nq (RC.fV tN (RC.ex ?_))))
  exact⟨rfl,hw.sp 2 [0,1]⟩
 ·rintro hm o ag fl _ w hk ⟨τ,rfl,hw⟩ hb
  refine RC.sr (ic ((o:Int)) ((p0.bV.length:Int)) (RL.nq (RC.fU (tM hk) (RC.ss (RC.bs (mv (vi o) ?_))))))
  obtain⟨af,au,hb⟩:=bd hb
  refine RL.bN 1 hw Fv au fun bf hw=>(RL.bL 0 af hw u5 fun bg hw=>(RL.alloc hw Gy.z fun ah w hw=>?_))
  refine aQ (vi o) (RL.cB 0 hw 1 zr u5 fun w hw=>?_)
  refine RL.nt (RC.block (RC.seq ?_))
  obtain⟨ai,hj,hb⟩:=bd hb
  refine RC.jn (fun(ai:Bool)=>SH E Γ [(1,vp ad 0),(3,vi o),(4,vp ah 0),(10,ae),(11,vi p0.bV.length),(12,vi o),(17,vb ai)] [pt (vp ad 0) p0,bx 79 ah af,rd ae p0.bV]) ai ?_ ?_
  ·refine RC.region (RL.aX zr t4 (RL.aM 0 hw zr nF Aq ?_))
   obtain⟨aq,av,hj⟩:=bd hj
   refine RL.call zt zr LH [(str af.Part)] zr (aD (wT N (p0:=af.Part) hw av) ?_)
   rintro _ w ⟨rfl,hw⟩
   refine RL.not aq (mv (vb (!aq)) (fB hj (fun aa hj=>?_) fun aa hj=>?_))
   ·refine bJ aa (bJ aa (bJ aa (bJ aa (fG aa (vb true) (aQ (vb true) (RL.nil ?_))))))
    obtain rfl:=oi hj
    exact⟨rfl,hw.sp 5 [3,0,4]⟩
   refine RL.aX (hg:=(cg aa)) zr xD (RL.aM (hg:=(cg aa)) 0 hw zr pY Aq ?_)
   obtain⟨aj,aw,hj⟩:=bd hj
   refine RL.call (cg aa) zr Kc [(str af.fk)] zr (aD (qV N (p0:=af.fk) hw aw) ?_)
   rintro _ w ⟨rfl,hw⟩
   refine RL.not (hg:=(cg aa)) aj (fG aa (vb (!aj)) (aQ (vb (!aj)) (RL.nil ?_)))
   obtain rfl:=oi hj
   exact⟨rfl,hw.sp 5 [3,0,4]⟩
  rintro _ w ⟨τ,rfl,hw⟩
  refine aH (dT hb (fun hc hb=>?_) fun hc hb=>?_)
  ·refine RC.sr (aQ (vi 5) (RL.nt (RC.rb (nX (bS ?_)))))
   obtain rfl:=oi hb
   exact⟨rfl,bX ⟨rfl,hw.drop 3⟩⟩
  refine RC.seq ?_
  obtain⟨ak,hj,hb⟩:=bd hb
  refine RC.jn (fun(ak:Bool)=>SH E Γ [(1,vp ad 0),(3,vi o),(4,vp ah 0),(10,ae),(11,vi p0.bV.length),(12,vi o),(28,vb ak)] [pt (vp ad 0) p0,bx 79 ah af,rd ae p0.bV]) ak ?_ ?_
  ·refine RC.region (RL.aX zr xE (RL.aM 1 hw zr pZ cJ (RL.dV 0 hw zr me iS fun bh hw=>(RL.bL 0 p0.aJ hw oD fun bj hw=>(RL.bC 0 p0.aJ hw pE (RL.fQ (p0.aJ.length:Int) 1 ?_))))))
   obtain⟨ar,ax,hj⟩:=bd hj
   refine RL.call zt zr Fq [(vi af.cU),(vi 0),(vi (IntKind.wrap .i64 ((p0.aJ.length:Int) - 1)))] zr (aD (jN N (p0:=af.cU) (p1:=0) (p2:=(IntKind.wrap .i64 ((p0.aJ.length:Int) - 1))) hw ax) ?_)
   rintro _ w ⟨rfl,hw⟩
   refine RL.not ar (mv (vb (!ar)) (fB hj (fun ab hj=>?_) fun ab hj=>?_))
   ·refine bJ ab (bJ ab (bJ ab (bJ ab (fG ab (vb true) (aQ (vb true) (RL.nil ?_))))))
    obtain rfl:=oi hj
    exact⟨rfl,hw.sp 5 [2,3,4]⟩
   refine RL.aX (hg:=(cg ab)) zr xF (RL.bE (hg:=(cg ab)) 3 hw zr p4 CZ fun ay hw=>?_)
   obtain⟨al,az,hj⟩:=bd hj
   refine RL.call (cg ab) zr J3 [ay] zr (aD (rM N (i0:=0) hw zr az) ?_)
   rintro _ w ⟨rfl,hw⟩
   refine RL.not (hg:=(cg ab)) al (fG ab (vb (!al)) (aQ (vb (!al)) (RL.nil ?_)))
   obtain rfl:=oi hj
   exact⟨rfl,hw.sp 6 [3,4,5]⟩
  rintro _ w ⟨τ,rfl,hw⟩
  refine aH (dT hb (fun hc hb=>?_) fun hc hb=>?_)
  ·refine RC.sr (aQ (vi 1) (RL.nt (RC.rb (nX (bS ?_)))))
   obtain rfl:=oi hb
   exact⟨rfl,bX ⟨rfl,hw.drop 3⟩⟩
  refine RC.seq ?_
  obtain⟨an,hj,hb⟩:=bd hb
  refine RC.jn (fun(an:Bool)=>SH E Γ [(1,vp ad 0),(10,ae),(11,vi p0.bV.length),(12,vi o),(43,vb an)] [pt (vp ad 0) p0,rd ae p0.bV]) an ?_ ?_
  ·refine RC.vH mixed [0,0,0,0,2,1,1,1,1,1,1,2,2,0,0,0] [0,1,2,3,5,6,7,8,9,10,4,11,12,13,14,15] ?_
   have hw:=hw.drew
   refine DP.e0 zr (mv (vi o) (aZ zr (ic ((o:Int)) 0 (aZ zr (mv (vb (decide ((o:Int)>0))) (DP.d0 (fB hj (fun j hj=>?_) fun j hj=>?_)))))))
   rotate_left
   ·refine DP.e0 zr (bJ j (DP.d0 (DP.e1 undef zr (fun w=>bJ j DP.d1) (DP.e1 undef zr (fun w=>bJ j DP.d1) (DP.e1 undef zr (fun w=>bJ j DP.d1) (DP.e1 undef zr (fun w=>bJ j DP.d1) (DP.e1 undef zr (fun w=>bJ j DP.d1) (DP.e1 undef zr (fun w=>bJ j DP.d1) ?_))))))))
    refine DP.e2 zr (bJ j (EM zr (bJ j (EM zr (bJ j (tw zr (bJ j (aZ zr ?_))))))))
    refine fG j (vb false) (aZ zr (aQ (vb false) (DP.d0 (DP.z ?_))))
    obtain rfl:=oi hj
    exact⟨rfl,hw.sp 3 [0,2]⟩
   refine DP.e0 zr (RL.bE (hg:=(cg j)) (f:=(fun x=>x)) 1 hw zr Fd.self u5 fun a0 hw=>(DP.d0 (DP.BK 1 zr (cg j) hw zr rf n7 fun bk hw=>(DP.yJ p0.bV 0 zr (cg j) hw Az fun bl a378 bm hw=>(DP.e1 (vi o) zr (fun w=>RL.move (vi o) (cg j) DP.d1) (DP.e1 (vi (IntKind.wrap .i64 ((o:Int) - 1))) zr (fun w=>RL.fQ (hg:=(cg j)) (o:Int) 1 DP.d1) ?_))))))
   obtain⟨a1,a2,hj⟩:=bd hj
   refine DP.vI (hg:=(cg j)) 1 zr hw Fv a2 fun bn hw=>(DP.yJ a1 0 zr (cg j) hw u5 fun a3 a383 bo hw=>(DP.e2 zr ?_))
   obtain⟨bp,a4,hj⟩:=bd hj
   refine RL.call (cg j) zr I8 [a0] zr (aD (pd N (i0:=6) hw zr a4) ?_)
   rintro a5 w hw
   refine DP.d2 (⟨⟨zt,hw.g8 4⟩,hw.g8 1⟩) (DP.e2 zr ?_)
   obtain⟨bq,a6,hj⟩:=bd hj
   refine RL.call (cg j) zr I8 [a3] zr (aD (pd N (i0:=2) hw zr a6) ?_)
   rintro a7 w hw
   refine DP.d2 (⟨⟨zt,hw.g8 5⟩,hw.g8 2⟩) (DP.e2 zr ?_)
   obtain⟨ao,a8,hj⟩:=bd hj
   refine RL.call (cg j) zr LJ [a5,a7] zr (aD (sO N (i0:=1) (i1:=0) hw zr zr a8) ?_)
   rintro _ w ⟨rfl,hw⟩
   refine DP.d2 (⟨⟨zt,hw.g8 5⟩,hw.g8 2⟩) (DP.e0 zr (RL.kL ao 0 (cg j) (aZ zr (fG j (vb (decide (ao<=0))) (aZ zr (aQ (vb (decide (ao<=0))) (DP.d0 ?_)))))))
   have hw:=hw.pl 12 [0,1,3,4,6,7,8,9,10,11]
   refine DP.z ?_
   obtain rfl:=oi hj
   exact⟨rfl,hw.sp 10 [7,9]⟩
  rintro _ w ⟨τ,rfl,hw⟩
  refine aH (dT hb (fun hc hb=>?_) fun hc hb=>?_)
  rotate_left
  ·refine RC.skip (bO (bO (aH (RC.region (RL.inc hk hm (mv (vi ((o+1:Nat):Int)) (RL.nil ?_)))))))
   obtain rfl:=oi hb
   exact⟨rfl,hw.sp 2 [0,1]⟩
  refine RC.sr (aQ (vi 8) (RL.nt (RC.rb (nX (bS ?_)))))
  obtain rfl:=oi hb
  exact⟨rfl,bX ⟨rfl,hw.drop 2⟩⟩
 ·intro r σ w e hK
  subst e
  refine bS ?_
  obtain rfl:=oi hb
  exact hK
 rintro ag _ w rfl ⟨τ,rfl,hw⟩
 rw [Fo.dF] at hb
 refine aH (RC.sr (aQ (vi 0) (RL.nt (RC.ret ?_))))
 obtain rfl:=oi hb
 exact bX ⟨rfl,hw.drop 2⟩
theorem rQ (hw:Holds E w Γ) (hb:lH N p0 p1 p2 p3=some res):
    Calls bM 44 [(vi p0),(vi p1),(vi p2),(vi p3)].toArray w (gL (aW E Γ res)):=by
 unfold lH at hb
 refine enter Tryz.func44 zr zr (RC.sr (aQ (vi 0) (RL.ns (mv (vi p2) (mv (vi p1) (RL.fQ p2 p1 (RL.fQ (IntKind.wrap .i64 (p2 - p1)) 1 (mv (vi p0) ?_))))))))
 refine mv (vi p3) (RL.fQ p0 p3 (RL.fQ (IntKind.wrap .i64 (p0 - p3)) 1 (RL.Lm (a:=0) (b:=(IntKind.wrap .i64 ((IntKind.wrap .i64 (p2 - p1))+1))) (c:=(IntKind.wrap .i64 ((IntKind.wrap .i64 (p0 - p3))+1))) zt zr zr zr zr (aQ (vi (if (if 0< (IntKind.wrap .i64 ((IntKind.wrap .i64 (p2 - p1))+1)) then (IntKind.wrap .i64 ((IntKind.wrap .i64 (p2 - p1))+1)) else 0)< (IntKind.wrap .i64 ((IntKind.wrap .i64 (p0 - p3))+1)) then (IntKind.wrap .i64 ((IntKind.wrap .i64 (p0 - p3))+1)) else (if 0< (IntKind.wrap .i64 ((IntKind.wrap .i64 (p2 - p1))+1)) then (IntKind.wrap .i64 ((IntKind.wrap .i64 (p2 - p1))+1)) else 0))) (RL.nt (RC.ret ?_))))))
 obtain rfl:=oi hb
 exact bX ⟨rfl,hw.drop 0⟩
theorem BT {p0 p1:aI} (hw:Holds E w Γ) (h0:Γ[i0]? =some (rd v0 p0)) (h1:Γ[i1]? =some (rd v1 p1)) (hb:rD N p0 p1=some res):
    Calls bM 20 [v0,v1].toArray w (gL (aW E Γ res)):=by
 unfold rD at hb
 refine enter Tryz.func20 zr zr ?_
 have hw:=(hw.dup (i0+0) h0).dup (i1+1) h1
 refine RC.sr (RL.dJ 1 v0 hw zr fun j w hw=>?_)
 refine RL.dJ 1 v1 hw zr fun o w hw=>?_
 refine aQ (vi 0) (RL.nq ?_)
 have hw:=hw.drew
 refine RC.D4 (fun w=>Holds E w ([bx 59 o p1,bx 59 j p0]++Γ)) mixed zr [0,0,0,0,0,0,0,0,2,1,1,1,1,1,1,1,1,2,0,0] [0,1,2,3,4,5,6,7,9,10,11,12,13,14,15,16,8,17,18,19] (hw.pk 4 [0,1]) (DP.e0 zr (RL.aX zr g9 (aZ zr (RL.aM 1 hw zr dL cJ (aZ zr (RL.aX zr iZ (aZ zr (RL.aM 1 hw zr eC cJ ?_))))))))
 refine aZ zr (RL.aX zr g9 (aZ zr (RL.aM 0 hw zr dL cJ (aZ zr (RL.aX zr iZ (aZ zr (RL.aM 0 hw zr eC cJ (DP.d0 ?_))))))))
 refine DP.e1 (vp j 1) zr (fun w=>RL.aX zr gR DP.d1) (DP.HL (vi p0.Y0) zr (fun w hw=>RL.aM 1 hw zr dG cJ DP.d1) (DP.e1 (vp j 3) zr (fun w=>RL.aX zr ka DP.d1) (DP.HL (vi p0.Y1) zr (fun w hw=>RL.aM 1 hw zr fo cJ DP.d1) (DP.e1 (vp o 1) zr (fun w=>RL.aX zr gR DP.d1) (DP.HL (vi p1.Y0) zr (fun w hw=>RL.aM 0 hw zr dG cJ DP.d1) (DP.e1 (vp o 3) zr (fun w=>RL.aX zr ka DP.d1) (DP.HL (vi p1.Y1) zr (fun w hw=>RL.aM 0 hw zr fo cJ DP.d1) (DP.e2 zr ?_))))))))
 obtain⟨aa,ad,hb⟩:=bd hb
 refine RL.call zt zr Kh [(vi p0.X0),(vi p0.X1),(vi p1.X0),(vi p1.X1)] zr (aD (rQ N (p0:=p0.X0) (p1:=p0.X1) (p2:=p1.X0) (p3:=p1.X1) hw ad) ?_)
 rintro _ w ⟨rfl,hw⟩
 refine DP.d2 (hw.pk 4 [0,1]) (DP.e2 zr ?_)
 obtain⟨ab,ae,hb⟩:=bd hb
 refine RL.call zt zr Kh [(vi p0.Y0),(vi p0.Y1),(vi p1.Y0),(vi p1.Y1)] zr (aD (rQ N (p0:=p0.Y0) (p1:=p0.Y1) (p2:=p1.Y0) (p3:=p1.Y1) hw ae) ?_)
 rintro _ w ⟨rfl,hw⟩
 refine DP.d2 (hw.pk 4 [0,1]) (DP.e0 zr (RL.max aa ab (aZ zr (aQ (vi (if aa<ab then ab else aa)) (DP.d0 (DP.z (aH (RC.ret ?_))))))))
 obtain rfl:=oi hb
 exact bX ⟨rfl,hw.drop 4⟩
end Go.Gk
