/-
  Printed texts: Go functions as plain functions, and that they are. No statement of the seed is proved here.
-/
import Derived.Test.YthioiiocofohiaaGreatDoorG1
import Derived.Test.YthioiiocofohiaaGreatDoorG2
import Derived.Test.YthioiiocofohiaaGreatDoorG4
import Derived.Test.YthioiiocofohiaaGreatDoorA2
set_option linter.unusedVariables false
set_option linter.unusedSimpArgs false
set_option linter.unusedSectionVars false
set_option maxRecDepth 100000
set_option maxHeartbeats 4000000
namespace Go.Gk
open Go Go.Proofs
variable (N:Nat) {E w:World} {b0 b1 b1h i0 i1:Nat} {p0 p1 res:Int} {v0 v0_0 v0_1 v0_10 v0_11 v0_2 v0_3 v0_4 v0_5 v0_6 v0_7 v0_8 v0_9 v1 v1h_0 v1h_1 v1h_10 v1h_11 v1h_2 v1h_3 v1h_4 v1h_5 v1h_6 v1h_7 v1h_8 v1h_9 v2:Value} {V:List HP}
def x5 (E:World) (V:List HP) (res:pG) (v:Value) (w:World):Prop:=Holds E w ([rd v res]++V)
theorem xc {p0: (List aI)} {p1: (List aI)} {res:pG} (j:Holds E w V) (h0:V[i0]? =some (rd v0 p0)) (h1:V[i1]? =some (rd v1 p1)) (o:lH N p0 p1=some res):
    Calls bG 55 [v0,v1].toArray w (gH (x5 E V res)):=by
 unfold lH at o
 refine enter Tryz.func55 zr zr ?_
 have j:=(j.dup (i0+0) h0).dup (i1+1) h1
 refine RC.sr (RL.alloc j Hi.z fun ae w j=>?_)
 refine RL.ns (aM (vi (-1)) (RL.nq (RC.sr (mv v0 (RL.bB 2 p0 j og (mv (vi 0) (RL.nt ?_)))))))
 obtain⟨ad,hN,o⟩:=bd o
 refine RC.fold (fun(aw:Nat) (ad:Int)=>SH E V [(0,v0),(1,v1),(4,vp ae 0),(5,vi ad),(22,v0),(23,vi p0.length),(24,vi aw)] [rd v0 p0,rd v1 p1,raw 136 ae 7]) (fun(ad:Int)=>SH E V [(0,v0),(1,v1),(4,vp ae 0),(5,vi ad)] [rd v0 p0,rd v1 p1,raw 136 ae 7]) hN ?_ ?_ ?_ ?_
 ·exact j.sp 3 [2,1,0]
 ·rintro hm ad _ w ⟨O,rfl,j⟩
  refine RC.sr (ic ((p0.length:Int)) ((p0.length:Int)) (RL.nq (RC.cO l9 (RC.ex ?_))))
  exact⟨rfl,j.sp 3 [0,1,2]⟩
 ·rintro hm aw ad s' _ w hk ⟨O,rfl,j⟩ o
  refine RC.sr (ic ((aw:Int)) ((p0.length:Int)) (RL.nq (RC.cN (l8 hk) (RC.ss (RC.bs ?_)))))
  obtain⟨a5,bk,o⟩:=bd o
  refine RL.cC 0 j ku bk fun cm j=>(RL.bO 0 a5 j fC fun cn j=>(RL.alloc j mo.z fun a1 w j=>?_))
  refine RL.bA 0 j 1 zr fC fun w j=>?_
  refine RL.ns (mv v1 (RL.bB 4 p1 j og (mv (vi 0) (RL.nt ?_))))
  obtain⟨af,hN,o⟩:=bd o
  refine RC.fold (fun(a2:Nat) (af:Int)=>SH E V [(0,v0),(1,v1),(4,vp ae 0),(5,vi af),(7,vp a1 0),(22,v0),(23,vi p0.length),(24,vi aw),(28,v1),(29,vi p1.length),(30,vi a2)] [rd v0 p0,rd v1 p1,raw 136 ae 7,bx 74 a1 a5]) (fun(af:Int)=>SH E V [(0,v0),(1,v1),(4,vp ae 0),(5,vi af),(22,v0),(23,vi p0.length),(24,vi aw)] [rd v0 p0,rd v1 p1,raw 136 ae 7,bx 74 a1 a5]) hN ?_ ?_ ?_ ?_
  ·exact j.sp 6 [3,4,5,0]
  ·rintro hm af _ w ⟨O,rfl,j⟩
   refine RC.sr (ic ((p1.length:Int)) ((p1.length:Int)) (RL.nq (RC.cO l9 (RC.ex ?_))))
   exact⟨rfl,j.sp 4 [0,1,2,3]⟩
  ·rintro hm a2 af s' _ w hk ⟨O,rfl,j⟩ o
   refine RC.sr (ic ((a2:Int)) ((p1.length:Int)) (RL.nq (RC.cN (l8 hk) (RC.ss (RC.bs ?_)))))
   obtain⟨bl,bm,o⟩:=bd o
   refine RL.cC 1 j ku bm fun cp j=>(RL.bO 0 bl j fC fun cq j=>(RL.alloc j mo.z fun cr w j=>?_))
   refine RL.bA 0 j 1 zr fC fun w j=>?_
   refine RL.ns (RL.aS (f:=(fun x=>x)) 6 j zr Fd.self fC fun bn j=>(RL.aS (f:=(fun x=>x)) 1 j zr Fd.self fC fun bo j=>?_))
   obtain⟨au,bp,o⟩:=bd o
   refine RL.call zt zr Gu [bn,bo] zr (aF (nr N (i0:=1) (i1:=0) j zr zr bp) ?_)
   rintro _ w ⟨rfl,j⟩
   refine aM (vi au) (RL.ns (mv (vi af) (ic af 0 (mv (vb (decide (af<0))) (RL.gs true (decide (af<0)) (vi au) rfl rfl rfl dR (RL.gs true (decide (af<0)) (vi af) rfl rfl rfl dR (RL.gs true (decide (af<0)) (vb (decide (au<af))) rfl rfl rfl (dY .lss .i64 au af rfl (fun h=>by exact(cT h:cv (true&&((decide (af<0))==false)) (vi au)= (vi au))) (fun h=>by exact(cT h:cv (true&&((decide (af<0))==false)) (vi af)= (vi af))) rfl) (RL.pick (decide (af<0)) (vb ((decide (af<0))||(decide (au<af)))) (nE true rfl) ?_))))))))
   refine RL.nt ?_
   obtain⟨a8,hj,o⟩:=bd o
   refine RC.jn (fun(a8:Int)=>SH E V [(0,v0),(1,v1),(4,vp ae 0),(5,vi a8),(7,vp a1 0),(22,v0),(23,vi p0.length),(24,vi aw),(28,v1),(29,vi p1.length),(30,vi a2)] [rd v0 p0,rd v1 p1,raw 136 ae 7,bx 74 a1 a5]) a8 ?_ ?_
   ·refine eL hj (fun hc hj=>?_) fun hc hj=>?_
    rotate_left
    ·refine RC.skip ?_
     obtain rfl:=oi hj
     exact⟨rfl,j.sp 9 [5,6,7,8]⟩
    refine RC.region (mv (vi au) (aM (vi au) (RL.nil ?_)))
    obtain rfl:=oi hj
    exact⟨rfl,j.sp 9 [5,6,7,8]⟩
   rintro _ w ⟨O,rfl,j⟩
   refine bL (aG (RC.region (RL.inc hk hm (mv (vi ((a2+1:Nat):Int)) (RL.nil ?_)))))
   obtain rfl:=oi o
   exact⟨rfl,j.sp 4 [0,1,2,3]⟩
  rintro _ w ⟨O,rfl,j⟩
  refine bL (aG (RC.region (RL.inc hk hm (mv (vi ((aw+1:Nat):Int)) (RL.nil ?_)))))
  obtain rfl:=oi o
  exact⟨rfl,j.sp 4 [0,1,2]⟩
 rintro _ w ⟨O,rfl,j⟩
 refine aG (RC.sr (mv (vi ad) (RL.jl ad 1 ?_)))
 have j:=j.sc Int (IntKind.wrap .i64 (ad - 1))
 refine RL.build (⟨0,0,(IntKind.wrap .i64 (ad - 1)),⟨0,0⟩,⟨0,0⟩⟩:pG) trivial rfl j [(2,(vi (IntKind.wrap .i64 (ad - 1))))] rfl Jy rfl (fun M hs g=>by have h:=Iy M;exact cL.cons (f:=fun(x:pG) y=>{x with ij:=y}) h EK (g.sat 0 _ rfl).1 fun _ h=>cL.nil h) fun ct j=>?_
 refine RL.alloc j Hi.z fun ag w j=>?_
 refine RL.bA 0 j 1 zr CU fun w j=>?_
 refine RL.ns (aM (vb false) (RL.nq (RC.sr (mv v0 (RL.bB 3 p0 j og (mv (vi 0) (RL.nt ?_)))))))
 obtain⟨ab,hN,o⟩:=bd o
 refine RC.fold (fun(av:Nat) (ab:pG×Bool)=>SH E V [(1,v1),(4,vp ae 0),(5,vi ad),(11,vp ag 0),(12,vb ab.2),(50,v0),(51,vi p0.length),(52,vi av)] [rd v1 p1,raw 136 ae 7,bx 136 ag ab.1,rd v0 p0]) (fun(ab:pG×Bool)=>SH E V [(1,v1),(4,vp ae 0),(5,vi ad),(11,vp ag 0)] [rd v1 p1,raw 136 ae 7,bx 136 ag ab.1,rd v0 p0]) hN ?_ ?_ ?_ ?_
 ·exact j.sp 6 [4,5,0,3]
 ·rintro hm ab _ w ⟨O,rfl,j⟩
  refine RC.sr (ic ((p0.length:Int)) ((p0.length:Int)) (RL.nq (RC.cO l9 (RC.ex ?_))))
  exact⟨rfl,j.sp 4 [0,1,2,3]⟩
 ·rintro hm av ab s' _ w hk ⟨O,rfl,j⟩ o
  refine RC.sr (ic ((av:Int)) ((p0.length:Int)) (RL.nq (RC.cN (l8 hk) (RC.ss (RC.bs ?_)))))
  obtain⟨a4,bq,o⟩:=bd o
  refine RL.cC 3 j ku bq fun cu j=>(RL.bO 0 a4 j fC fun cw j=>(RL.alloc j mo.z fun ax w j=>?_))
  refine RL.bA 0 j 1 zr fC fun w j=>?_
  refine RL.ns (mv v1 (RL.bB 3 p1 j og (mv (vi 0) (RL.nt ?_))))
  obtain⟨aj,hN,o⟩:=bd o
  refine RC.fold (fun(az:Nat) (aj:pG×Bool)=>SH E V [(1,v1),(4,vp ae 0),(5,vi ad),(11,vp ag 0),(12,vb aj.2),(14,vp ax 0),(50,v0),(51,vi p0.length),(52,vi av),(56,v1),(57,vi p1.length),(58,vi az)] [rd v1 p1,raw 136 ae 7,bx 136 ag aj.1,bx 74 ax a4,rd v0 p0]) (fun(aj:pG×Bool)=>SH E V [(1,v1),(4,vp ae 0),(5,vi ad),(11,vp ag 0),(12,vb aj.2),(50,v0),(51,vi p0.length),(52,vi av)] [rd v1 p1,raw 136 ae 7,bx 136 ag aj.1,bx 74 ax a4,rd v0 p0]) hN ?_ ?_ ?_ ?_
  ·exact j.sp 7 [3,4,5,0,6]
  ·rintro hm aj _ w ⟨O,rfl,j⟩
   refine RC.sr (ic ((p1.length:Int)) ((p1.length:Int)) (RL.nq (RC.cO l9 (RC.ex ?_))))
   exact⟨rfl,j.sp 5 [0,1,2,3,4]⟩
  ·rintro hm az aj s' _ w hk ⟨O,rfl,j⟩ o
   refine RC.sr (ic ((az:Int)) ((p1.length:Int)) (RL.nq (RC.cN (l8 hk) (RC.ss (RC.bs ?_)))))
   obtain⟨br,bt,o⟩:=bd o
   refine RL.cC 0 j ku bt fun cx j=>(RL.bO 0 br j fC fun cy j=>(RL.alloc j mo.z fun cz w j=>?_))
   refine RL.bA 0 j 1 zr fC fun w j=>?_
   refine RL.ns (RL.aS (f:=(fun x=>x)) 6 j zr Fd.self fC fun bu j=>(RL.aS (f:=(fun x=>x)) 1 j zr Fd.self fC fun bw j=>(mv (vi ad) ?_)))
   obtain⟨bz,b0,o⟩:=bd o
   refine RL.call zt zr Jz [bu,bw,(vi ad)] zr (aF (sF N (p2:=ad) (i0:=1) (i1:=0) j zr zr b0) ?_)
   rintro c0 w j
   refine RL.alloc j HV.z fun bb w j=>?_
   refine RL.bA 0 j 1 zr r5 fun w j=>?_
   refine RL.nq ?_
   obtain⟨a9,hj,o⟩:=bd o
   refine RC.jn (fun(a9:Bool)=>SH E V [(1,v1),(4,vp ae 0),(5,vi ad),(11,vp ag 0),(12,vb aj.2),(14,vp ax 0),(17,vp bb 0),(50,v0),(51,vi p0.length),(52,vi av),(56,v1),(57,vi p1.length),(58,vi az),(80,vb a9)] [rd v1 p1,raw 136 ae 7,bx 136 ag aj.1,bx 74 ax a4,bx 76 bb bz,rd v0 p0]) a9 ?_ ?_
   ·refine RC.region (RL.aS (f:=(fun x=>x)) 10 j zr Fd.self fC fun b1 j=>(RL.aS (f:=(fun x=>x)) 5 j zr Fd.self fC fun b2 j=>?_))
    obtain⟨bc,b3,hj⟩:=bd hj
    refine RL.call zt zr Gu [b1,b2] zr (aF (nr N (i0:=1) (i1:=0) j zr zr b3) ?_)
    rintro _ w ⟨rfl,j⟩
    refine mv (vi ad) (ic bc ad (mv (vb (bc==ad)) (fM hj (fun ak hj=>?_) fun ak hj=>?_)))
    rotate_left
    ·refine bJ ak (bJ ak (bJ ak (zx (zx (zx (zx (bJ ak (fI ak (vb false) ?_))))))))
     refine RL.nil ?_
     obtain rfl:=oi hj
     exact⟨rfl,j.sp 14 [9,10,11,12,2,13]⟩
    refine RL.move (vb aj.2) (cg ak) (RL.not (hg:=(cg ak)) aj.2 (RL.move (vb (!aj.2)) (cg ak) (fM hj (fun ao hj=>?_) fun ao hj=>?_)))
    ·refine bJ ao (bJ ao (bJ ao (bJ ao (fI ao (vb true) (hg:=(cg ak)) (fI ak (vb true) (RL.nil ?_))))))
     obtain rfl:=oi hj
     exact⟨rfl,j.sp 14 [9,10,11,12,2,13]⟩
    refine RL.aS (hg:=(cg ao)) (f:=(fun x=>x)) 2 j zr Fd.self r5 fun b4 j=>(RL.aY (hg:=(cg ao)) zr rN (RL.aS (hg:=(cg ao)) 12 j zr qM r5 fun b5 j=>?_))
    obtain⟨bf,b6,hj⟩:=bd hj
    refine RL.call (cg ao) zr JA [b4,b5] zr (aF (sG N (i0:=1) (i1:=0) j zr zr b6) ?_)
    rintro _ w ⟨rfl,j⟩
    refine fI ao (vb bf) (hg:=(cg ak)) (fI ak (vb bf) (RL.nil ?_))
    obtain rfl:=oi hj
    exact⟨rfl,j.sp 16 [11,12,13,14,4,15]⟩
   rintro _ w ⟨O,rfl,j⟩
   refine aG ?_
   obtain⟨a6,hj,o⟩:=bd o
   refine RC.jn (fun(a6:pG×Bool)=>SH E V [(1,v1),(4,vp ae 0),(5,vi ad),(11,vp ag 0),(12,vb a6.2),(14,vp ax 0),(50,v0),(51,vi p0.length),(52,vi av),(56,v1),(57,vi p1.length),(58,vi az)] [rd v1 p1,raw 136 ae 7,bx 136 ag a6.1,bx 74 ax a4,rd v0 p0]) a6 ?_ ?_
   ·refine eL hj (fun hc hj=>?_) fun hc hj=>?_
    rotate_left
    ·refine RC.skip ?_
     obtain rfl:=oi hj
     exact⟨rfl,j.sp 6 [0,1,2,3,5]⟩
    refine RC.region (RL.aS (f:=(fun x=>x)) 4 j zr Fd.self r5 fun c1 j=>(RL.aY zr rN (RL.tC 3 j zr zr zr 0 zr EL r5 fun w j=>?_)))
    refine aM (vb true) (RL.nil ?_)
    obtain rfl:=oi hj
    exact⟨rfl,j.sp 7 [1,2,3,4,6]⟩
   rintro _ w ⟨O,rfl,j⟩
   refine bL (aG (RC.region (RL.inc hk hm (mv (vi ((az+1:Nat):Int)) (RL.nil ?_)))))
   obtain rfl:=oi o
   exact⟨rfl,j.sp 5 [0,1,2,3,4]⟩
  rintro _ w ⟨O,rfl,j⟩
  refine bL (aG (RC.region (RL.inc hk hm (mv (vi ((av+1:Nat):Int)) (RL.nil ?_)))))
  obtain rfl:=oi o
  exact⟨rfl,j.sp 5 [0,1,2,4]⟩
 rintro _ w ⟨O,rfl,j⟩
 refine aG (RC.sr (RL.aY zr rN (RL.aY zr qP (RL.aL (f:=(fun x=>x.bR.X)) 2 j zr (Fd.comp (f:=fun(x:pG)=>x.bR) (fun(x:eK)=>x.X) qM kr) cH (RL.aY zr rN (RL.aY zr oO (RL.aL (f:=(fun x=>x.bR.Y)) 2 j zr (Fd.comp (f:=fun(x:pG)=>x.bR) (fun(x:eK)=>x.Y) qM jg) cH (RL.aY zr rN ?_))))))))
 refine RL.aY zr qP (RL.aL (f:=(fun x=>x.bR.X)) 2 j zr (Fd.comp (f:=fun(x:pG)=>x.bR) (fun(x:eK)=>x.X) qM kr) cH (RL.jl ab.1.bR.X 1 (RL.aY zr rN (RL.aY zr oO (RL.aL (f:=(fun x=>x.bR.Y)) 2 j zr (Fd.comp (f:=fun(x:pG)=>x.bR) (fun(x:eK)=>x.Y) qM jg) cH (RL.jl ab.1.bR.Y 1 ?_))))))
 have j:=(((j.sc Int ab.1.bR.X).sc Int ab.1.bR.Y).sc Int (IntKind.wrap .i64 (ab.1.bR.X+1))).sc Int (IntKind.wrap .i64 (ab.1.bR.Y+1))
 refine RL.build (⟨ab.1.bR.X,ab.1.bR.Y,(IntKind.wrap .i64 (ab.1.bR.X+1)),(IntKind.wrap .i64 (ab.1.bR.Y+1))⟩:aI) trivial rfl j [(0,vi ab.1.bR.X),(1,vi ab.1.bR.Y),(2,(vi (IntKind.wrap .i64 (ab.1.bR.X+1)))),(3,(vi (IntKind.wrap .i64 (ab.1.bR.Y+1))))] rfl B7 rfl (fun M hs g=>by have h:=qN M;exact cL.cons (f:=fun(x:aI) y=>{x with X0:=y}) h o7 (g.sat 3 _ rfl).1 fun _ h=>cL.cons (f:=fun(x:aI) y=>{x with Y0:=y}) h rH (g.sat 2 _ rfl).1 fun _ h=>cL.cons (f:=fun(x:aI) y=>{x with X1:=y}) h nA (g.sat 1 _ rfl).1 fun _ h=>cL.cons (f:=fun(x:aI) y=>{x with Y1:=y}) h o8 (g.sat 0 _ rfl).1 fun _ h=>cL.nil h) fun c2 j=>?_
 refine RL.alloc j mo.z fun ay w j=>?_
 refine RL.bA 0 j 1 zr fC fun w j=>?_
 refine RL.ns (aM (vb false) (RL.nq (RC.sr (mv v1 (RL.bB 6 p1 j og (mv (vi 0) (RL.nt ?_)))))))
 obtain⟨an,hN,o⟩:=bd o
 refine RC.fold (fun(a0:Nat) (an:pG×Bool)=>SH E V [(4,vp ae 0),(5,vi ad),(11,vp ag 0),(12,vb an.2),(18,vp ay 0),(100,v1),(101,vi p1.length),(102,vi a0)] [raw 136 ae 7,bx 136 ag an.1,bx 74 ay (⟨ab.1.bR.X,ab.1.bR.Y,(IntKind.wrap .i64 (ab.1.bR.X+1)),(IntKind.wrap .i64 (ab.1.bR.Y+1))⟩:aI),rd v1 p1]) (fun(an:pG×Bool)=>SH E V [(4,vp ae 0),(11,vp ag 0)] [raw 136 ae 7,bx 136 ag an.1,bx 74 ay (⟨ab.1.bR.X,ab.1.bR.Y,(IntKind.wrap .i64 (ab.1.bR.X+1)),(IntKind.wrap .i64 (ab.1.bR.Y+1))⟩:aI),rd v1 p1]) hN ?_ ?_ ?_ ?_
 ·exact j.sp 10 [7,8,0,6]
 ·rintro hm an _ w ⟨O,rfl,j⟩
  refine RC.sr (ic ((p1.length:Int)) ((p1.length:Int)) (RL.nq (RC.cO l9 (RC.ex ?_))))
  exact⟨rfl,j.sp 4 [0,1,2,3]⟩
 ·rintro hm a0 an s' _ w hk ⟨O,rfl,j⟩ o
  refine RC.sr (ic ((a0:Int)) ((p1.length:Int)) (RL.nq (RC.cN (l8 hk) (RC.ss (RC.bs ?_)))))
  obtain⟨b7,b8,o⟩:=bd o
  refine RL.cC 3 j ku b8 fun c3 j=>(RL.bO 0 b7 j fC fun c4 j=>(RL.alloc j mo.z fun c5 w j=>?_))
  refine RL.bA 0 j 1 zr fC fun w j=>?_
  refine RL.ns (RL.aS (f:=(fun x=>x)) 0 j zr Fd.self fC fun b9 j=>(RL.aS (f:=(fun x=>x)) 6 j zr Fd.self fC fun ca j=>(mv (vi ad) ?_)))
  obtain⟨cb,cc,o⟩:=bd o
  refine RL.call zt zr Jz [b9,ca,(vi ad)] zr (aF (sF N (p2:=ad) (i0:=1) (i1:=0) j zr zr cc) ?_)
  rintro c6 w j
  refine RL.alloc j HV.z fun bg w j=>?_
  refine RL.bA 0 j 1 zr r5 fun w j=>?_
  refine RL.nq ?_
  obtain⟨ba,hj,o⟩:=bd o
  refine RC.jn (fun(ba:Bool)=>SH E V [(4,vp ae 0),(5,vi ad),(11,vp ag 0),(12,vb an.2),(18,vp ay 0),(21,vp bg 0),(100,v1),(101,vi p1.length),(102,vi a0),(124,vb ba)] [raw 136 ae 7,bx 136 ag an.1,bx 74 ay (⟨ab.1.bR.X,ab.1.bR.Y,(IntKind.wrap .i64 (ab.1.bR.X+1)),(IntKind.wrap .i64 (ab.1.bR.Y+1))⟩:aI),bx 76 bg cb,rd v1 p1]) ba ?_ ?_
  ·refine RC.region (RL.aS (f:=(fun x=>x)) 4 j zr Fd.self fC fun cd j=>(RL.aS (f:=(fun x=>x)) 10 j zr Fd.self fC fun cf j=>?_))
   obtain⟨bh,ch,hj⟩:=bd hj
   refine RL.call zt zr Gu [cd,cf] zr (aF (nr N (i0:=1) (i1:=0) j zr zr ch) ?_)
   rintro _ w ⟨rfl,j⟩
   refine mv (vi ad) (ic bh ad (mv (vb (bh==ad)) (fM hj (fun al hj=>?_) fun al hj=>?_)))
   rotate_left
   ·refine bJ al (bJ al (bJ al (zx (zx (zx (zx (bJ al (fI al (vb false) ?_))))))))
    refine RL.nil ?_
    obtain rfl:=oi hj
    exact⟨rfl,j.sp 13 [9,10,11,2,12]⟩
   refine RL.move (vb an.2) (cg al) (RL.not (hg:=(cg al)) an.2 (RL.move (vb (!an.2)) (cg al) (fM hj (fun aq hj=>?_) fun aq hj=>?_)))
   ·refine bJ aq (bJ aq (bJ aq (bJ aq (fI aq (vb true) (hg:=(cg al)) (fI al (vb true) (RL.nil ?_))))))
    obtain rfl:=oi hj
    exact⟨rfl,j.sp 13 [9,10,11,2,12]⟩
   refine RL.aS (hg:=(cg aq)) (f:=(fun x=>x)) 2 j zr Fd.self r5 fun cj j=>(RL.aY (hg:=(cg aq)) zr CV (RL.aS (hg:=(cg aq)) 11 j zr EM r5 fun ck j=>?_))
   obtain⟨bj,cl,hj⟩:=bd hj
   refine RL.call (cg aq) zr JA [cj,ck] zr (aF (sG N (i0:=1) (i1:=0) j zr zr cl) ?_)
   rintro _ w ⟨rfl,j⟩
   refine fI aq (vb bj) (hg:=(cg al)) (fI al (vb bj) (RL.nil ?_))
   obtain rfl:=oi hj
   exact⟨rfl,j.sp 15 [11,12,13,4,14]⟩
  rintro _ w ⟨O,rfl,j⟩
  refine aG ?_
  obtain⟨a7,hj,o⟩:=bd o
  refine RC.jn (fun(a7:pG×Bool)=>SH E V [(4,vp ae 0),(5,vi ad),(11,vp ag 0),(12,vb a7.2),(18,vp ay 0),(100,v1),(101,vi p1.length),(102,vi a0)] [raw 136 ae 7,bx 136 ag a7.1,bx 74 ay (⟨ab.1.bR.X,ab.1.bR.Y,(IntKind.wrap .i64 (ab.1.bR.X+1)),(IntKind.wrap .i64 (ab.1.bR.Y+1))⟩:aI),rd v1 p1]) a7 ?_ ?_
  ·refine eL hj (fun hc hj=>?_) fun hc hj=>?_
   rotate_left
   ·refine RC.skip ?_
    obtain rfl:=oi hj
    exact⟨rfl,j.sp 5 [0,1,2,4]⟩
   refine RC.region (RL.aS (f:=(fun x=>x)) 3 j zr Fd.self r5 fun c7 j=>(RL.aY zr CV (RL.tC 2 j zr zr zr 0 zr EN r5 fun w j=>?_)))
   refine aM (vb true) (RL.nil ?_)
   obtain rfl:=oi hj
   exact⟨rfl,j.sp 6 [1,2,3,5]⟩
  rintro _ w ⟨O,rfl,j⟩
  refine bL (aG (RC.region (RL.inc hk hm (mv (vi ((a0+1:Nat):Int)) (RL.nil ?_)))))
  obtain rfl:=oi o
  exact⟨rfl,j.sp 4 [0,1,2,3]⟩
 rintro _ w ⟨O,rfl,j⟩
 refine aG (RC.sr (RL.aS (f:=(fun x=>x)) 1 j zr Fd.self CU fun c8 j=>(RL.bA 1 j 0 zr CU fun w j=>?_)))
 refine RL.nt (RC.ret ?_)
 obtain rfl:=oi o
 exact Es 1 zr j zr zr CU fun c9 j=>(j.pk 6 [0])
def xd (E:World) (V:List HP) (b0:Nat) (v0_0 v0_1:Value) (v0_2 v0_3:Value) (v0_4 v0_5:Value) (v0_6 v0_7:Value) (v0_8 v0_9:Value) (v0_10 v0_11:Value) (res: (List bS)×Int) (v:Value) (w:World):Prop:=∃u0:Value,v = .tuple #[u0,(vi res.2)]/\Holds E w ([own 43 u0 res.1,bc 126 b0 [v0_0,v0_1,v0_2,v0_3,v0_4,v0_5,v0_6,v0_7,v0_8,v0_9,v0_10,v0_11]]++V)
theorem qo {p0_0: (List (List aI))} {p0_1: (List aI)} {p0_2: (List bQ)} {p0_3: (List cQ)} {p0_4: (List (List aA))} {p0_5: (List aH)} {p0_6: (List (List Int))} {p0_7: (List cE)} {p0_8: (List Int)} {p0_9: (List Int)} {p0_10: (List Int)} {p0_11: (List dF)} {res: (List bS)×Int} (j:Holds E w (bc 126 b0 [v0_0,v0_1,v0_2,v0_3,v0_4,v0_5,v0_6,v0_7,v0_8,v0_9,v0_10,v0_11]::rd v0_0 p0_0::rd v0_1 p0_1::rd v0_2 p0_2::rd v0_3 p0_3::rd v0_4 p0_4::rd v0_5 p0_5::rd v0_6 p0_6::rd v0_7 p0_7::rd v0_8 p0_8::rd v0_9 p0_9::rd v0_10 p0_10::rd v0_11 p0_11::V)) (o:kQ N p0_0 p0_1 p0_2 p0_3 p0_4 p0_5 p0_6 p0_7 p0_8 p0_9 p0_10 p0_11 p1=some res):
    Calls bG 27 [(vp b0 0),(vi p1)].toArray w (gH (xd E V b0 v0_0 v0_1 v0_2 v0_3 v0_4 v0_5 v0_6 v0_7 v0_8 v0_9 v0_10 v0_11 res)):=by
 unfold kQ at o
 refine enter Tryz.func27 zr zr (RC.sr (RL.Ew (vp b0 0) zt zr j zr zr fun ad w j=>?_))
 refine aM (.slice none 0 0) (aM (vi 0) (RL.nq (RC.sr (mv (vi p1) ?_))))
 obtain⟨bl,bm,o⟩:=bd o
 refine RL.call zt zr HT [(vi p1),(vi 0),(vi 100000)] zr (aF (mX N (p0:=p1) (p1:=0) (p2:=100000) j bm) ?_)
 rintro _ w ⟨rfl,j⟩
 refine RL.not bl (RL.nt (eL o (fun hc o=>?_) fun hc o=>?_))
 ·refine RC.sr (aM (.slice none 0 0) (aM (vi 1) (RL.nt (RC.rt ?_))))
  obtain rfl:=oi o
  have j:=j.cS bS 43
  exact iL ⟨(.slice none 0 0),zr,j.pk 15 [0,2]⟩
 refine RC.sx (RL.o4 j KX fun aa w j=>?_)
 refine RL.ns (RL.makeFunc [(vp ad 0),(vp aa 0)] (aM (.func (.func 54) #[] #[(vp ad 0),(vp aa 0)]) (RL.nq (RC.sr (RL.aW 1 (vp b0 0) j vZ (RL.nilCheck zr (RL.aY zr rM (RL.aW 2 v0_8 j fz ?_))))))))
 refine RL.bB 11 p0_8 j lQ (mv (vi 0) (RL.nt ?_))
 obtain⟨ax,hN,o⟩:=bd o
 refine RC.fold (fun(ai:Nat) (ax: (List bS)) U w=>∃bb:Value,SH E V [(0,vp b0 0),(1,vi p1),(2,vp ad 0),(6,vp aa 0),(7,(.func (.func 54) #[] #[(vp ad 0),(vp aa 0)])),(22,v0_8),(23,vi p0_8.length),(24,vi ai)] [bc 126 b0 [v0_0,v0_1,v0_2,v0_3,v0_4,v0_5,v0_6,v0_7,v0_8,v0_9,v0_10,v0_11],rd v0_0 p0_0,rd v0_1 p0_1,rd v0_2 p0_2,rd v0_3 p0_3,rd v0_4 p0_4,rd v0_5 p0_5,rd v0_6 p0_6,rd v0_7 p0_7,rd v0_8 p0_8,rd v0_9 p0_9,rd v0_10 p0_10,rd v0_11 p0_11,bc 68 ad [(vp b0 0)],bc 29 aa [bb],own 43 bb ax] U w) (fun(ax: (List bS)) U w=>∃a1:Value,SH E V [(0,vp b0 0),(1,vi p1),(2,vp ad 0),(6,vp aa 0),(7,(.func (.func 54) #[] #[(vp ad 0),(vp aa 0)]))] [bc 126 b0 [v0_0,v0_1,v0_2,v0_3,v0_4,v0_5,v0_6,v0_7,v0_8,v0_9,v0_10,v0_11],rd v0_0 p0_0,rd v0_1 p0_1,rd v0_2 p0_2,rd v0_3 p0_3,rd v0_4 p0_4,rd v0_5 p0_5,rd v0_6 p0_6,rd v0_7 p0_7,rd v0_8 p0_8,rd v0_9 p0_9,rd v0_10 p0_10,rd v0_11 p0_11,bc 68 ad [(vp b0 0)],bc 29 aa [a1],own 43 a1 ax] U w) hN ?_ ?_ ?_ ?_
 ·have j:=j.cS bS 43
  exact⟨(.slice none 0 0),j.sp 16 [3,4,5,6,7,8,9,10,11,12,13,14,15,2,1,0]⟩
 ·rintro hm ax _ w ⟨bn,O,rfl,j⟩
  refine RC.sr (ic ((p0_8.length:Int)) ((p0_8.length:Int)) (RL.nq (RC.cO l9 (RC.ex ?_))))
  exact⟨rfl,bn,j.sp 16 [0,1,2,3,4,5,6,7,8,9,10,11,12,13,14,15]⟩
 ·rintro hm ai ax s' _ w hk ⟨ch,O,rfl,j⟩ o
  refine RC.sr (ic ((ai:Int)) ((p0_8.length:Int)) (RL.nq (RC.cN (l8 hk) (RC.ss (RC.bs (mv (vi ai) ?_))))))
  obtain⟨az,bo,o⟩:=bd o
  refine RL.cC 9 j eD bo fun cj j=>(RL.bI az 0 j cH (aM (vi ai) (aM (vi az) (RL.nt (RC.region (mv (.func (.func 54) #[] #[(vp ad 0),(vp aa 0)]) (mv (vi ai) ?_)))))))
  have j:=j.sc Int (ai:Int)
  refine RL.build (⟨false,(ai:Int)⟩:dF) trivial rfl j [(1,vi ai)] rfl DI rfl (fun M hs g=>by have h:=wV M;exact cL.cons (f:=fun(x:dF) y=>{x with Number:=y}) h tS (g.sat 0 _ rfl).1 fun _ h=>cL.nil h) fun bp j=>?_
  refine mv (vi az) ?_
  have j:=((((j.dup 11 rfl).pull 4).pull 20).pull 20).pull 20
  obtain⟨ck,bq,o⟩:=bd o
  refine RL.ox [(vp ad 0),(vp aa 0)] Jx [bp,(vi az)] (aF (nV N (p1:=az) (i0:=0) j zr bq) ?_)
  rintro _ w ⟨br,rfl,j⟩
  refine RL.nil (bL (aG (RC.region (RL.inc hk hm (mv (vi ((ai+1:Nat):Int)) (RL.nil ?_))))))
  obtain rfl:=oi o
  exact⟨rfl,br,j.sp 23 [3,8,9,10,11,12,13,14,15,16,17,18,19,0,1,2]⟩
 rintro _ w ⟨a1,O,rfl,j⟩
 refine aG (RC.seq (RC.sr (RL.aW 13 (vp b0 0) j vZ (RL.nilCheck zr (RL.aY zr tX (RL.aW 0 v0_9 j fz (RL.bB 10 p0_9 j lQ (mv (vi 0) ?_))))))))
 refine RL.nt ?_
 obtain⟨ay,hN,o⟩:=bd o
 refine RC.fold (fun(aj:Nat) (ay: (List bS)) U w=>∃bf:Value,SH E V [(0,vp b0 0),(1,vi p1),(2,vp ad 0),(6,vp aa 0),(7,(.func (.func 54) #[] #[(vp ad 0),(vp aa 0)])),(38,v0_9),(39,vi p0_9.length),(40,vi aj)] [bc 126 b0 [v0_0,v0_1,v0_2,v0_3,v0_4,v0_5,v0_6,v0_7,v0_8,v0_9,v0_10,v0_11],rd v0_0 p0_0,rd v0_1 p0_1,rd v0_2 p0_2,rd v0_3 p0_3,rd v0_4 p0_4,rd v0_5 p0_5,rd v0_6 p0_6,rd v0_7 p0_7,rd v0_8 p0_8,rd v0_9 p0_9,rd v0_10 p0_10,rd v0_11 p0_11,bc 68 ad [(vp b0 0)],bc 29 aa [bf],own 43 bf ay] U w) (fun(ay: (List bS)) U w=>∃a2:Value,SH E V [(0,vp b0 0),(1,vi p1),(2,vp ad 0),(6,vp aa 0)] [bc 126 b0 [v0_0,v0_1,v0_2,v0_3,v0_4,v0_5,v0_6,v0_7,v0_8,v0_9,v0_10,v0_11],rd v0_0 p0_0,rd v0_1 p0_1,rd v0_2 p0_2,rd v0_3 p0_3,rd v0_4 p0_4,rd v0_5 p0_5,rd v0_6 p0_6,rd v0_7 p0_7,rd v0_8 p0_8,rd v0_9 p0_9,rd v0_10 p0_10,rd v0_11 p0_11,bc 68 ad [(vp b0 0)],bc 29 aa [a2],own 43 a2 ay] U w) hN ?_ ?_ ?_ ?_
 ·exact⟨a1,j.sp 16 [0,1,2,3,4,5,6,7,8,9,10,11,12,13,14,15]⟩
 ·rintro hm ay _ w ⟨bt,O,rfl,j⟩
  refine RC.sr (ic ((p0_9.length:Int)) ((p0_9.length:Int)) (RL.nq (RC.cO l9 (RC.ex ?_))))
  exact⟨rfl,bt,j.sp 16 [0,1,2,3,4,5,6,7,8,9,10,11,12,13,14,15]⟩
 ·rintro hm aj ay s' _ w hk ⟨cl,O,rfl,j⟩ o
  refine RC.sr (ic ((aj:Int)) ((p0_9.length:Int)) (RL.nq (RC.cN (l8 hk) (RC.ss (RC.bs (mv (vi aj) ?_))))))
  obtain⟨a0,bu,o⟩:=bd o
  refine RL.cC 10 j eD bu fun cm j=>(RL.bI a0 0 j cH (aM (vi aj) (aM (vi a0) (RL.nt (RC.region (mv (.func (.func 54) #[] #[(vp ad 0),(vp aa 0)]) (mv (vi aj) ?_)))))))
  have j:=(j.sc Bool true).sc Int (aj:Int)
  refine RL.build (⟨true,(aj:Int)⟩:dF) trivial rfl j [(0,vb true),(1,vi aj)] rfl DI rfl (fun M hs g=>by have h:=wV M;exact cL.cons (f:=fun(x:dF) y=>{x with bQ:=y}) h AZ (g.sat 1 _ rfl).1 fun _ h=>cL.cons (f:=fun(x:dF) y=>{x with Number:=y}) h tS (g.sat 0 _ rfl).1 fun _ h=>cL.nil h) fun bw j=>?_
  refine mv (vi a0) ?_
  have j:=((((j.dup 12 rfl).pull 5).pull 21).pull 21).pull 21
  obtain⟨cn,bz,o⟩:=bd o
  refine RL.ox [(vp ad 0),(vp aa 0)] Jx [bw,(vi a0)] (aF (nV N (p1:=a0) (i0:=0) j zr bz) ?_)
  rintro _ w ⟨b1,rfl,j⟩
  refine RL.nil (bL (aG (RC.region (RL.inc hk hm (mv (vi ((aj+1:Nat):Int)) (RL.nil ?_))))))
  obtain rfl:=oi o
  exact⟨rfl,b1,j.sp 24 [3,9,10,11,12,13,14,15,16,17,18,19,20,0,1,2]⟩
 rintro _ w ⟨a2,O,rfl,j⟩
 refine aG (RC.seq (RC.sr (RL.aW 13 (vp b0 0) j vZ (RL.nilCheck zr (RL.aY zr lz (RL.aW 0 v0_5 j qj (RL.bB 6 p0_5 j vK (mv (vi 0) ?_))))))))
 refine RL.nt ?_
 obtain⟨ao,hN,o⟩:=bd o
 refine RC.fold (fun(ah:Nat) (ao: (List bS)) U w=>∃bg:Value,SH E V [(0,vp b0 0),(1,vi p1),(2,vp ad 0),(6,vp aa 0),(54,v0_5),(55,vi p0_5.length),(56,vi ah)] [bc 126 b0 [v0_0,v0_1,v0_2,v0_3,v0_4,v0_5,v0_6,v0_7,v0_8,v0_9,v0_10,v0_11],rd v0_0 p0_0,rd v0_1 p0_1,rd v0_2 p0_2,rd v0_3 p0_3,rd v0_4 p0_4,rd v0_5 p0_5,rd v0_6 p0_6,rd v0_7 p0_7,rd v0_8 p0_8,rd v0_9 p0_9,rd v0_10 p0_10,rd v0_11 p0_11,bc 68 ad [(vp b0 0)],bc 29 aa [bg],own 43 bg ao] U w) (fun(ao: (List bS)) U w=>∃av:Value,SH E V [(0,vp b0 0),(6,vp aa 0)] [bc 126 b0 [v0_0,v0_1,v0_2,v0_3,v0_4,v0_5,v0_6,v0_7,v0_8,v0_9,v0_10,v0_11],rd v0_0 p0_0,rd v0_1 p0_1,rd v0_2 p0_2,rd v0_3 p0_3,rd v0_4 p0_4,rd v0_5 p0_5,rd v0_6 p0_6,rd v0_7 p0_7,rd v0_8 p0_8,rd v0_9 p0_9,rd v0_10 p0_10,rd v0_11 p0_11,bc 68 ad [(vp b0 0)],bc 29 aa [av],own 43 av ao] U w) hN ?_ ?_ ?_ ?_
 ·exact⟨a2,j.sp 16 [0,1,2,3,4,5,6,7,8,9,10,11,12,13,14,15]⟩
 ·rintro hm ao _ w ⟨b2,O,rfl,j⟩
  refine RC.sr (ic ((p0_5.length:Int)) ((p0_5.length:Int)) (RL.nq (RC.cO l9 (RC.ex ?_))))
  exact⟨rfl,b2,j.sp 16 [0,1,2,3,4,5,6,7,8,9,10,11,12,13,14,15]⟩
 ·rintro hm ah ao s' _ w hk ⟨b3,O,rfl,j⟩ o
  refine RC.sr (ic ((ah:Int)) ((p0_5.length:Int)) (RL.nq (RC.cN (l8 hk) (RC.ss (RC.bs (mv (vi ah) ?_))))))
  obtain⟨aq,b4,o⟩:=bd o
  refine RL.cC 6 j yI b4 fun cp j=>(RL.bO 0 aq j yJ fun cq j=>(RL.alloc j CQ.z fun ak w j=>?_))
  refine aM (vi ah) (RL.bA 0 j 1 zr yJ fun w j=>?_)
  refine RL.ns (mv (vi ah) (RL.jl (ah:Int) 1 (aM (vi (IntKind.wrap .i64 ((ah:Int)+1))) (RL.nt ?_))))
  obtain⟨cr,hN,o⟩:=bd o
  refine RC.iter (fun(af: (List bS)×Int) U w=>∃bh:Value,SH E V [(0,vp b0 0),(1,vi p1),(2,vp ad 0),(6,vp aa 0),(12,vi ah),(13,vp ak 0),(14,vi af.2),(54,v0_5),(55,vi p0_5.length),(56,vi ah)] [bc 126 b0 [v0_0,v0_1,v0_2,v0_3,v0_4,v0_5,v0_6,v0_7,v0_8,v0_9,v0_10,v0_11],rd v0_0 p0_0,rd v0_1 p0_1,rd v0_2 p0_2,rd v0_3 p0_3,rd v0_4 p0_4,rd v0_5 p0_5,rd v0_6 p0_6,rd v0_7 p0_7,rd v0_8 p0_8,rd v0_9 p0_9,rd v0_10 p0_10,rd v0_11 p0_11,bc 68 ad [(vp b0 0)],bc 29 aa [bh],own 43 bh af.1,bx 134 ak aq] U w) (fun(af: (List bS)×Int) U w=>∃a3:Value,SH E V [(0,vp b0 0),(1,vi p1),(2,vp ad 0),(6,vp aa 0),(54,v0_5),(55,vi p0_5.length),(56,vi ah)] [bc 126 b0 [v0_0,v0_1,v0_2,v0_3,v0_4,v0_5,v0_6,v0_7,v0_8,v0_9,v0_10,v0_11],rd v0_0 p0_0,rd v0_1 p0_1,rd v0_2 p0_2,rd v0_3 p0_3,rd v0_4 p0_4,rd v0_5 p0_5,rd v0_6 p0_6,rd v0_7 p0_7,rd v0_8 p0_8,rd v0_9 p0_9,rd v0_10 p0_10,rd v0_11 p0_11,bc 68 ad [(vp b0 0)],bc 29 aa [a3],own 43 a3 af.1,bx 134 ak aq] U w) (fun(r:Empty) _ _=>r.elim) hN ?_ ?_ ?_ ?_
  ·exact⟨b3,j.sp 19 [3,4,5,6,7,8,9,10,11,12,13,14,15,16,17,18,0]⟩
  ·rintro af fl _ w ⟨aw,O,rfl,j⟩ o
   refine RC.seq (RC.seq ?_)
   obtain⟨a5,hj,o⟩:=bd o
   refine RC.jn (fun(a5:Bool)=>SH E V [(0,vp b0 0),(1,vi p1),(2,vp ad 0),(6,vp aa 0),(12,vi ah),(13,vp ak 0),(14,vi af.2),(54,v0_5),(55,vi p0_5.length),(56,vi ah),(82,vb a5)] [bc 126 b0 [v0_0,v0_1,v0_2,v0_3,v0_4,v0_5,v0_6,v0_7,v0_8,v0_9,v0_10,v0_11],rd v0_0 p0_0,rd v0_1 p0_1,rd v0_2 p0_2,rd v0_3 p0_3,rd v0_4 p0_4,rd v0_5 p0_5,rd v0_6 p0_6,rd v0_7 p0_7,rd v0_8 p0_8,rd v0_9 p0_9,rd v0_10 p0_10,rd v0_11 p0_11,bc 68 ad [(vp b0 0)],bc 29 aa [aw],own 43 aw af.1,bx 134 ak aq]) a5 ?_ ?_
   ·refine RC.xT mixed ?_
    have j:=j.drew
    refine RO.go (mv (vi af.2) (RO.nx (RL.aW 13 (vp b0 0) j vZ (RO.nx (RL.nilCheck zr (RO.nx (RL.aY zr lz (RO.nx ?_))))))))
    refine RL.aW 0 v0_5 j qj (RO.nx (RL.bB 6 p0_5 j vK (RO.nx (ic af.2 ((p0_5.length:Int)) (RO.nx (mv (vb (decide (af.2< (p0_5.length:Int)))) (fM hj (fun ag hj=>?_) fun ag hj=>?_)))))))
    rotate_left
    ·refine RO.nx (bJ ag (RO.nx (bJ ag (RO.nx (bJ ag (RO.nx (bJ ag (RO.nx ?_))))))))
     refine bJ ag (RO.nx (bJ ag (RO.nx (bJ ag (RO.nx (bJ ag (RO.nx (bJ ag ?_))))))))
     refine RO.nx (bJ ag (RO.nx (bJ ag (RO.nx (fI ag (vb false) (RO.last ?_))))))
     obtain rfl:=oi hj
     exact⟨rfl,j.sp 17 [0,1,2,3,4,5,6,7,8,9,10,11,12,13,14,15,16]⟩
    refine RO.nx (RL.aW (hg:=(cg ag)) 13 (vp b0 0) j vZ (RO.nx (RL.nilCheck (hg:=(cg ag)) zr (RO.nx (RL.aY (hg:=(cg ag)) zr lz (RO.nx (RL.aW (hg:=(cg ag)) 0 v0_5 j qj (RO.nx ?_))))))))
    refine RL.move (vi af.2) (cg ag) (RO.nx ?_)
    obtain⟨a6,b5,hj⟩:=bd hj
    refine RL.cC (hg:=(cg ag)) 6 j yI b5 fun cu j=>(RO.nx (RL.ig (hg:=(cg ag)) 0 j zr wt kb fun cv j=>(RO.nx (RL.bI (hg:=(cg ag)) a6.cU 0 j cH (RO.nx (RL.aY (hg:=(cg ag)) zr wt (RO.nx (RL.aL (hg:=(cg ag)) 18 j zr kb cH ?_))))))))
    refine RO.nx (RL.jk a6.cU aq.cU (cg ag) (RO.nx (fI ag (vb (a6.cU==aq.cU)) (RO.last ?_))))
    obtain rfl:=oi hj
    exact⟨rfl,j.sp 19 [2,3,4,5,6,7,8,9,10,11,12,13,14,15,16,17,18]⟩
   rintro _ w ⟨O,rfl,j⟩
   refine aG (eL o (fun hc o=>?_) fun hc o=>?_)
   rotate_left
   ·refine RC.ex ?_
    obtain rfl:=oi o
    exact⟨rfl,aw,j.sp 17 [0,1,2,3,4,5,6,7,8,9,10,11,12,13,14,15,16]⟩
   refine RC.ss (RC.block (RC.seq ?_))
   obtain⟨a7,hj,o⟩:=bd o
   refine RC.jn (fun(a7:Bool)=>SH E V [(0,vp b0 0),(1,vi p1),(2,vp ad 0),(6,vp aa 0),(12,vi ah),(13,vp ak 0),(14,vi af.2),(54,v0_5),(55,vi p0_5.length),(56,vi ah),(115,vb a7)] [bc 126 b0 [v0_0,v0_1,v0_2,v0_3,v0_4,v0_5,v0_6,v0_7,v0_8,v0_9,v0_10,v0_11],rd v0_0 p0_0,rd v0_1 p0_1,rd v0_2 p0_2,rd v0_3 p0_3,rd v0_4 p0_4,rd v0_5 p0_5,rd v0_6 p0_6,rd v0_7 p0_7,rd v0_8 p0_8,rd v0_9 p0_9,rd v0_10 p0_10,rd v0_11 p0_11,bc 68 ad [(vp b0 0)],bc 29 aa [aw],own 43 aw af.1,bx 134 ak aq]) a7 ?_ ?_
   ·refine RC.wk mixed [0,0,0,0,0,0,0,0,0,0,0,0,0,0,0,0,0,0,0,0,0,0,0,0,0,0,2,0,1,0,0] [0,1,2,3,4,5,6,7,8,9,10,11,12,13,14,15,16,17,18,19,20,21,22,23,24,25,28,26,27,29,30] ?_
    have j:=j.drew
    refine DP.e0 zr (RL.aW 13 (vp b0 0) j vZ (bU zr (RL.nilCheck zr (bU zr (RL.aY zr rM (bU zr (RL.aW 0 v0_8 j fz (bU zr ?_))))))))
    refine mv (vi ah) (bU zr ?_)
    obtain⟨a8,b6,hj⟩:=bd hj
    refine RL.cC 9 j eD b6 fun cw j=>(bU zr (RL.bI a8 0 j cH (bU zr (RL.aW 14 (vp b0 0) j vZ (bU zr (RL.nilCheck zr (bU zr (RL.aY zr rM ?_))))))))
    refine bU zr (RL.aW 1 v0_8 j fz (bU zr (mv (vi af.2) (bU zr ?_))))
    obtain⟨a9,b7,hj⟩:=bd hj
    refine RL.cC 10 j eD b7 fun cx j=>(bU zr (RL.bI a9 0 j cH (bU zr (ic a8 a9 (bU zr (mv (vb (a8 != a9)) (DP.d0 (fM hj (fun ab hj=>?_) fun ab hj=>?_))))))))
    rotate_left
    ·refine DP.e0 zr (bJ ab (bU zr (bJ ab (bU zr (bJ ab (bU zr (bJ ab (bU zr ?_))))))))
     refine bJ ab (bU zr (bJ ab (bU zr (bJ ab (bU zr (bJ ab (bU zr (bJ ab ?_))))))))
     refine bU zr (bJ ab (DP.d0 (DP.e1 undef zr (fun w=>bJ ab DP.d1) (DP.e2 zr (bJ ab (wm zr (bJ ab (bU zr ?_))))))))
     refine bJ ab (bU zr (fI ab (vb false) (DP.d0 (DP.z ?_))))
     obtain rfl:=oi hj
     exact⟨rfl,j.sp 19 [2,3,4,5,6,7,8,9,10,11,12,13,14,15,16,17,18]⟩
    refine DP.e0 zr (RL.aY (hg:=(cg ab)) zr wu (bU zr (RL.aS (hg:=(cg ab)) 18 j zr kc wX fun b8 j=>(bU zr (RL.aW (hg:=(cg ab)) 16 (vp b0 0) j vZ (bU zr (RL.nilCheck (hg:=(cg ab)) zr (bU zr ?_))))))))
    refine RL.aY (hg:=(cg ab)) zr lz (bU zr (RL.aW (hg:=(cg ab)) 3 v0_5 j qj (bU zr (RL.move (vi af.2) (cg ab) (bU zr ?_)))))
    obtain⟨b9,ca,hj⟩:=bd hj
    refine RL.cC (hg:=(cg ab)) 9 j yI ca fun cy j=>(bU zr (RL.ig (hg:=(cg ab)) 0 j zr wu kc fun cz j=>(bU zr (RL.bO (hg:=(cg ab)) 0 b9.iO j wX fun cb j=>(DP.d0 (DP.e1 (vi p1) zr (fun w=>RL.move (vi p1) (cg ab) DP.d1) (DP.e2 zr ?_)))))))
    obtain⟨bj,cc,hj⟩:=bd hj
    refine RL.call (cg ab) zr KZ [b8,cb] zr (aF (xc N (i0:=3) (i1:=0) j zr zr cc) ?_)
    rintro c0 w j
    refine wm zr (RL.Dt (i:=0) (f:=fun(x:pG)=>x.ij) (cg ab) zr j zr zr zr Gw EJ cH (bU zr (RL.jk bj.ij p1 (cg ab) (bU zr (fI ab (vb (decide (bj.ij<p1))) (DP.d0 (DP.z ?_)))))))
    obtain rfl:=oi hj
    exact⟨rfl,j.sp 24 [7,8,9,10,11,12,13,14,15,16,17,18,19,20,21,22,23]⟩
   rintro _ w ⟨O,rfl,j⟩
   refine aG ?_
   obtain⟨ba,hj,o⟩:=bd o
   refine RC.jn (fun(ba: (List bS)) U w=>∃a4:Value,SH E V [(0,vp b0 0),(1,vi p1),(2,vp ad 0),(6,vp aa 0),(12,vi ah),(13,vp ak 0),(14,vi af.2),(54,v0_5),(55,vi p0_5.length),(56,vi ah)] [bc 126 b0 [v0_0,v0_1,v0_2,v0_3,v0_4,v0_5,v0_6,v0_7,v0_8,v0_9,v0_10,v0_11],rd v0_0 p0_0,rd v0_1 p0_1,rd v0_2 p0_2,rd v0_3 p0_3,rd v0_4 p0_4,rd v0_5 p0_5,rd v0_6 p0_6,rd v0_7 p0_7,rd v0_8 p0_8,rd v0_9 p0_9,rd v0_10 p0_10,rd v0_11 p0_11,bc 68 ad [(vp b0 0)],bc 29 aa [a4],own 43 a4 ba,bx 134 ak aq] U w) ba ?_ ?_
   ·refine eL hj (fun hc hj=>?_) fun hc hj=>?_
    rotate_left
    ·refine RC.skip ?_
     obtain rfl:=oi hj
     exact⟨rfl,aw,j.sp 17 [0,1,2,3,4,5,6,7,8,9,10,11,12,13,14,15,16]⟩
    refine RC.region (RL.aW 14 aw j DJ (mv (vi ah) (mv (vi af.2) ?_)))
    have j:=(j.sc Int (ah:Int)).sc Int af.2
    refine RL.build (⟨false,⟨false,0⟩,(ah:Int),af.2⟩:bS) trivial rfl j [(2,vi ah),(3,vi af.2)] rfl Jw rfl (fun M hs g=>by have h:=EO M;exact cL.cons (f:=fun(x:bS) y=>{x with A:=y}) h Dy (g.sat 1 _ rfl).1 fun _ h=>cL.cons (f:=fun(x:bS) y=>{x with B:=y}) h Dz (g.sat 0 _ rfl).1 fun _ h=>cL.nil h) fun cd j=>?_
    refine RL.eJ ([(⟨false,⟨false,0⟩,(ah:Int),af.2⟩:bS)]: (List bS)) j [cd] va A4 (fun M hs g=>⟨(g.sat 0 _ zr).1,zt⟩) fun c1 w j=>?_
    have j:=j.freeze 0
    obtain⟨c2,cf,hj⟩:=bd hj
    refine RL.app 19 0 j HU cf fun bk w j=>?_
    refine RL.gK 18 bk j zr zr (ir 19 j) DJ fun w j=>?_
    refine RL.nil ?_
    obtain rfl:=oi hj
    exact⟨rfl,bk,j.sp 21 [4,5,6,7,8,9,10,11,12,13,14,15,16,17,18,19,20]⟩
   rintro _ w ⟨a4,O,rfl,j⟩
   refine bL (aG (RC.region (mv (vi af.2) (RL.jl af.2 1 (aM (vi (IntKind.wrap .i64 (af.2+1))) (RL.nil ?_))))))
   obtain rfl:=oi o
   exact⟨rfl,a4,j.sp 17 [0,1,2,3,4,5,6,7,8,9,10,11,12,13,14,15,16]⟩
  ·intro r _ _ _ _
   exact r.elim
  rintro af _ w rfl ⟨a3,O,rfl,j⟩
  rw [Fo.f0] at o
  refine bL (aG (RC.region (RL.inc hk hm (mv (vi ((ah+1:Nat):Int)) (RL.nil ?_)))))
  obtain rfl:=oi o
  exact⟨rfl,a3,j.sp 17 [0,1,2,3,4,5,6,7,8,9,10,11,12,13,14,15]⟩
 rintro _ w ⟨av,O,rfl,j⟩
 refine aG (RC.seq (RC.sr (RL.aW 14 av j DJ (RL.fG 15 ao j xZ (ic ((ao.length:Int)) 20000 (RL.nt (eL o (fun hc o=>?_) fun hc o=>?_)))))))
 ·refine RC.sr (aM (.slice none 0 0) (aM (vi 2) (RL.nt (RC.rt ?_))))
  obtain rfl:=oi o
  have j:=j.cS bS 43
  exact iL ⟨(.slice none 0 0),zr,j.pk 17 [0,1]⟩
 refine RC.sx (RL.aW 14 av j DJ (aM av (aM (vi 0) (RL.nt (RC.ret ?_)))))
 obtain rfl:=oi o
 exact iL ⟨av,zr,j.pk 16 [15,0]⟩
def lF (E:World) (V:List HP) (res:Int×Bool) (v:Value) (w:World):Prop:=v = .tuple #[(vi res.1),(vb res.2)]/\Holds E w V
theorem lf {p0: (List cQ)} {p1:fN} {p2:cQ->fN->Option Int} {res:Int×Bool} (o:Holds E w V) (h0:V[i0]? =some (rd v0 p0)) (h1:V[i1]? =some (rd v1 p1)) (h2:Hy bG E V v2 p2 (fun(r:Int)=>Value.int .i64 r)) (hb:eI N p0 p1 p2=some res):
    Calls bG 91 [v0,v1,v2].toArray w (gH (lF E V res)):=by
 unfold eI at hb
 refine enter Tryz.func91 zr zr ?_
 have o:=(o.dup (i0+0) h0).dup (i1+1) h1
 refine RC.sr (RL.cY 0 v1 o zr fun ae w o=>?_)
 refine aM (vi 0) (aM (vb false) (RL.ns (mv v0 (RL.bB 2 p0 o ET (aM (vi p0.length) (RL.ns (mv (vi p0.length) (aM (vi 0) ?_))))))))
 refine aM (vi p0.length) (RL.nq ?_)
 obtain⟨av,hN,hb⟩:=bd hb
 refine RC.iter (fun(j:Int×Int)=>SH E V [(0,v0),(2,v2),(4,vp ae 0),(8,vi p0.length),(9,vi j.1),(10,vi j.2)] [rd v0 p0,bx 51 ae p1]) (fun(j:Int×Int)=>SH E V [(0,v0),(2,v2),(4,vp ae 0),(8,vi p0.length),(9,vi j.1)] [rd v0 p0,bx 51 ae p1]) (fun(r:Empty) _ _=>r.elim) hN ?_ ?_ ?_ ?_
 ·exact o.sp 3 [2,0]
 ·rintro j fl _ w ⟨O,rfl,o⟩ hb
  refine RC.seq (RC.sr (mv (vi j.1) (mv (vi j.2) (ic j.1 j.2 (RL.nt (eL hb (fun hc hb=>?_) fun hc hb=>?_))))))
  rotate_left
  ·refine RC.ex ?_
   obtain rfl:=oi hb
   exact⟨rfl,o.sp 2 [0,1]⟩
  refine RC.sn (RC.bs (mv (vi j.1) (mv (vi j.2) (RL.jl j.1 j.2 (RL.conv (IntKind.wrap .i64 (j.1+j.2)) zt zr zr ⟨_,Ek⟩ Hj (RL.bin (v:=(.int .u64 (IntKind.wrap .u64 (IntKind.wrap .i64 (j.1+j.2))))) (v':=(.int .u64 1)) (u:=(.int .u64 (Int.fdiv (IntKind.wrap .u64 (IntKind.wrap .i64 (j.1+j.2))) 2))) zt zr zr zr (fun _=>zr) (fun _=>zr) (RL.conv (Int.fdiv (IntKind.wrap .u64 (IntKind.wrap .i64 (j.1+j.2))) 2) zt zr zr ⟨_,Hj⟩ Ek (aM (vi (IntKind.wrap .i64 (Int.fdiv (IntKind.wrap .u64 (IntKind.wrap .i64 (j.1+j.2))) 2))) ?_))))))))
  refine RL.nq (RC.wk mixed [0,0,0,0,0,0,2,0] [0,1,2,3,4,5,6,7] ?_)
  have o:=o.drew
  refine DP.e0 zr (mv v2 (bU zr (mv v0 (bU zr (mv (vi (IntKind.wrap .i64 (Int.fdiv (IntKind.wrap .u64 (IntKind.wrap .i64 (j.1+j.2))) 2))) (bU zr ?_))))))
  obtain⟨ak,al,hb⟩:=bd hb
  refine RL.cC 0 o DF al fun ax o=>(bU zr (RL.bO 0 ak o wZ fun ay o=>(bU zr (RL.aS (f:=(fun x=>x)) 3 o zr Fd.self oh fun az o=>(sS zr ?_)))))
  obtain⟨an,ao,hb⟩:=bd hb
  refine RL.BU 1 0 zt zr o zr h2 5 zr zr zr zr zr ao fun w o=>(wm zr (ic an 0 (DP.d0 (DP.z (aG ?_)))))
  obtain⟨af,hj,hb⟩:=bd hb
  refine RC.jn (fun(af:Int×Int)=>SH E V [(0,v0),(2,v2),(4,vp ae 0),(8,vi p0.length),(9,vi af.1),(10,vi af.2)] [rd v0 p0,bx 51 ae p1]) af ?_ ?_
  ·refine eL hj (fun hc hj=>?_) fun hc hj=>?_
   rotate_left
   ·refine RC.region (mv (vi (IntKind.wrap .i64 (Int.fdiv (IntKind.wrap .u64 (IntKind.wrap .i64 (j.1+j.2))) 2))) (aM (vi (IntKind.wrap .i64 (Int.fdiv (IntKind.wrap .u64 (IntKind.wrap .i64 (j.1+j.2))) 2))) (RL.nil ?_)))
    obtain rfl:=oi hj
    exact⟨rfl,o.sp 5 [3,4]⟩
   refine RC.region (mv (vi (IntKind.wrap .i64 (Int.fdiv (IntKind.wrap .u64 (IntKind.wrap .i64 (j.1+j.2))) 2))) (RL.jl (IntKind.wrap .i64 (Int.fdiv (IntKind.wrap .u64 (IntKind.wrap .i64 (j.1+j.2))) 2)) 1 (aM (vi (IntKind.wrap .i64 ((IntKind.wrap .i64 (Int.fdiv (IntKind.wrap .u64 (IntKind.wrap .i64 (j.1+j.2))) 2))+1))) (RL.nil ?_))))
   obtain rfl:=oi hj
   exact⟨rfl,o.sp 5 [3,4]⟩
  rintro _ w ⟨O,rfl,o⟩
  refine bL ?_
  obtain rfl:=oi hb
  exact⟨rfl,o.sp 2 [0,1]⟩
 ·intro r _ _ _ _
  exact r.elim
 rintro j _ w rfl ⟨O,rfl,o⟩
 rw [Fo.f0] at hb
 refine aG (RC.seq ?_)
 obtain⟨ah,hj,hb⟩:=bd hb
 refine RC.jn (fun(ah:Bool)=>SH E V [(6,vi j.1),(7,vb ah)] []) ah ?_ ?_
 ·refine RC.wk mixed [1,0,0,0,0,0,0,0,0,0,0,2,0,0,0,0] [0,1,2,3,4,5,6,7,8,9,10,11,12,13,14,15] ?_
  have o:=o.drew
  refine DP.e1 (vi j.1) zr (fun w=>RL.move (vi j.1) zt DP.d1) (DP.e0 zr (mv (vi j.1) (bU zr (mv (vi p0.length) (bU zr (ic j.1 ((p0.length:Int)) (bU zr (mv (vb (decide (j.1< (p0.length:Int)))) ?_))))))))
  refine DP.d0 (fM hj (fun ab hj=>?_) fun ab hj=>?_)
  rotate_left
  ·refine DP.e0 zr (bJ ab (bU zr (bJ ab (bU zr (bJ ab (bU zr (bJ ab (bU zr ?_))))))))
   refine bJ ab (bU zr (bJ ab (sS zr (bJ ab (wm zr (bJ ab (bU zr (fI ab (vb false) ?_))))))))
   refine bU zr (aM (vi j.1) (bU zr (aM (vb false) (DP.d0 (DP.z ?_)))))
   obtain rfl:=oi hj
   exact⟨rfl,o.sp 2 []⟩
  refine DP.e0 zr (RL.move v2 (cg ab) (bU zr (RL.move v0 (cg ab) (bU zr (RL.move (vi j.1) (cg ab) (bU zr ?_))))))
  obtain⟨aq,ar,hj⟩:=bd hj
  refine RL.cC (hg:=(cg ab)) 0 o DF ar fun a0 o=>(bU zr (RL.bO (hg:=(cg ab)) 0 aq o wZ fun a1 o=>(bU zr (RL.aS (hg:=(cg ab)) (f:=(fun x=>x)) 3 o zr Fd.self oh fun a2 o=>(sS zr ?_)))))
  obtain⟨ai,au,hj⟩:=bd hj
  refine RL.BU 1 0 (cg ab) zr o zr h2 5 zr zr zr zr zr au fun w o=>(wm zr (RL.jk ai 0 (cg ab) (bU zr (fI ab (vb (ai==0)) (bU zr (aM (vi j.1) (bU zr (aM (vb (ai==0)) ?_))))))))
  refine DP.d0 (DP.z ?_)
  obtain rfl:=oi hj
  exact⟨rfl,o.sp 5 []⟩
 rintro _ w ⟨O,rfl,o⟩
 refine aG (RC.ret ?_)
 obtain rfl:=oi hb
 exact iL ⟨rfl,o.drop 0⟩
theorem sm {p0:cQ} {p1:fN} (j:Holds E w V) (h0:V[i0]? =some (rd v0 p0)) (h1:V[i1]? =some (rd v1 p1)) (o:gz N p0 p1=some res):
    Calls bG 92 [v0,v1].toArray w (gH (aP E V res)):=by
 unfold gz at o
 refine enter Tryz.func92 zr zr ?_
 have j:=(j.dup (i0+0) h0).dup (i1+1) h1
 refine RC.sr (RL.cY 1 v0 j zr fun ah w j=>?_)
 have j:=j.gx (i:=0) rfl
 refine RL.cY 1 v1 j zr fun ai w j=>?_
 have j:=j.gx (i:=0) rfl
 refine aM (vi 0) (RL.nq (RC.wk mixed [0,2,1,2,0] [0,2,1,3,4] ?_))
 have j:=j.drew
 refine DP.e0 zr (RL.bO 1 p0 j wZ fun aa j=>(DP.d0 (DP.vY p1 1 zr j oh fun ab a35 aj j=>(DP.e2 zr ?_))))
 obtain⟨ak,ad,o⟩:=bd o
 refine RL.call zt zr Gt [aa] zr (aF (lA N (i0:=2) j zr ad) ?_)
 rintro ae w j
 refine DP.d2 (⟨zt,j.jV 1⟩) (DP.e2 zr ?_)
 obtain⟨af,ag,o⟩:=bd o
 refine RL.call zt zr DG [ae,ab] zr (aF (eZ N (i0:=0) (i1:=2) j zr zr ag) ?_)
 rintro _ w ⟨rfl,j⟩
 refine DP.d2 (⟨zt,j.jV 1⟩) (DP.e0 zr (aM (vi af) (DP.d0 ?_)))
 have j:=j.pl 8 [0,2,3,4,5,6,7]
 refine DP.z (aG (RC.ret ?_))
 obtain rfl:=oi o
 exact cF ⟨rfl,j.drop 7⟩
theorem fT {p0:iu} {p1:fN} (o:Holds E w V) (h0:V[i0]? =some (rd v0 p0)) (h1:V[i1]? =some (rd v1 p1)) (hb:dP N p0 p1=some res):
    Calls bG 56 [v0,v1].toArray w (gH (aP E V res)):=by
 unfold dP at hb
 refine enter Tryz.func56 zr zr ?_
 have o:=(o.dup (i0+0) h0).dup (i1+1) h1
 refine RC.sr (RL.cY 1 v0 o zr fun ai w o=>?_)
 refine RL.cY 1 v1 o zr fun aj w o=>?_
 refine aM (vi 0) (RL.ns (RL.aY zr u9 (RL.aS 1 o zr qL DE fun ad o=>(RL.aS (f:=(fun x=>x)) 1 o zr Fd.self oh fun ae o=>?_))))
 obtain⟨aa,af,hb⟩:=bd hb
 refine RL.call trivial rfl K1 [ad,ae,(.func (.func 92) #[] #[])] rfl (aF (lf N (i0:=1) (i1:=0) o rfl rfl ⟨92,[],rfl,K0,fun w Γl v v' y0 y1 r i j o hi hj hr=>by exact aF (sm N (i0:=i) (i1:=j) o hi hj hr) fun _ _ h=>h⟩ af) ?_)
 rintro _ w ⟨rfl,o⟩
 refine mv (.tuple #[(vi aa.1),(vb aa.2)]) (RL.extract (vi aa.1) (RL.extract (vb aa.2) (aM (vi aa.1) (aM (vb aa.2) (RL.nq (RC.sr (mv (vb aa.2) (RL.not aa.2 ?_))))))))
 refine RL.nt (eL hb (fun hc hb=>?_) fun hc hb=>?_)
 ·refine RC.sr (aM (vi (-1)) (RL.nt (RC.rt ?_)))
  obtain rfl:=oi hb
  exact cF ⟨rfl,o.drop 6⟩
 refine RC.sx (mv (vi aa.1) (aM (vi aa.1) (RL.nt (RC.ret ?_))))
 obtain rfl:=oi hb
 exact cF ⟨rfl,o.drop 6⟩
def zN (E:World) (V:List HP) (r:Int) (U:Nat->Value) (w:World):Prop:=l6 bG 18 Tryz.f94 (aP E V r) .ret U w
theorem x6 {p0: (List Int)} (j:Holds E w V) (h0:V[i0]? =some (rd v0 p0)) (o:nI N p0=some res):
    Calls bG 94 [v0].toArray w (gH (aP E V res)):=by
 unfold nI at o
 refine enter Tryz.func94 zr zr ?_
 have j:=j.dup (i0+0) h0
 refine RC.sr (aM (vi 0) (RL.ns (aM (vi 0) (RL.nq (RC.sr (mv v0 (RL.bB 0 p0 j lQ (mv (vi 0) ?_))))))))
 refine RL.nt ?_
 obtain⟨ak,hN,o⟩:=bd o
 refine RC.range (fun(ab:Nat) (ad:Unit)=>SH E V [(3,vi 0),(6,v0),(7,vi p0.length),(8,vi ab)] [rd v0 p0]) (fun(ad:Unit)=>SH E V [(3,vi 0)] [rd v0 p0]) (zN E V) hN ?_ ?_ ?_ ?_ ?_
 ·exact j.sp 1 [0]
 ·rintro hm ad _ w ⟨O,rfl,j⟩
  refine RC.sr (ic ((p0.length:Int)) ((p0.length:Int)) (RL.nq (RC.cO l9 (RC.ex ?_))))
  exact⟨rfl,j.sp 1 [0]⟩
 ·rintro hm ab ad fl _ w hk ⟨O,rfl,j⟩ o
  refine RC.sr (ic ((ab:Int)) ((p0.length:Int)) (RL.nq (RC.cN (l8 hk) (RC.ss (RC.bs ?_)))))
  obtain⟨aa,ah,o⟩:=bd o
  refine RL.cC 0 j eD ah fun an j=>(RL.bI aa 0 j cH (aM (vi aa) (RL.ns (mv (vi aa) (mv (vi 0) (ic aa 0 (RL.nt (eL o (fun hc o=>?_) fun hc o=>?_))))))))
  rotate_left
  ·refine RC.skip (bL (aG (RC.region (RL.inc hk hm (mv (vi ((ab+1:Nat):Int)) (RL.nil ?_))))))
   obtain rfl:=oi o
   exact⟨rfl,j.sp 2 [1]⟩
  refine RC.sr (mv (vi aa) (aM (vi aa) (RL.nt (RC.rb (bV ?_)))))
  obtain rfl:=oi o
  exact⟨rfl,cF ⟨rfl,j.drop 2⟩⟩
 ·intro r U w e hK
  subst e
  refine bV ?_
  obtain rfl:=oi o
  exact hK
 rintro ad _ w rfl ⟨O,rfl,j⟩
 rw [Fo.f0] at o
 refine aG (RC.sr (mv (vi 0) (aM (vi 0) (RL.nt (RC.ret ?_)))))
 obtain rfl:=oi o
 exact cF ⟨rfl,j.drop 1⟩
theorem mh {p0 p1:Test} (j:Holds E w V) (h0:V[i0]? =some (rd v0 p0)) (h1:V[i1]? =some (rd v1 p1)) (o:fL N p0 p1=some res):
    Calls bG 58 [v0,v1].toArray w (gH (aP E V res)):=by
 unfold fL at o
 refine enter Tryz.func58 zr zr ?_
 have j:=(j.dup (i0+0) h0).dup (i1+1) h1
 refine RC.sr (RL.cY 1 v0 j zr fun an w j=>?_)
 have j:=j.gx (i:=0) rfl
 refine RL.cY 1 v1 j zr fun ao w j=>?_
 have j:=j.gx (i:=0) rfl
 refine aM (vi 0) (RL.nq (RC.wk mixed [0,0,0,0,2,1,1,1,1,2,2,2,0] [0,1,2,3,5,6,7,8,4,9,10,11,12] ?_))
 have j:=j.drew
 refine DP.e0 zr (RL.ig 1 j zr sU ml fun aq j=>(bU zr (RL.bO 0 p0.A j oh fun ad j=>(bU zr (RL.ig 2 j zr sU ml fun ar j=>(bU zr (RL.bO 0 p1.A j oh fun ae j=>(DP.d0 ?_))))))))
 refine DP.Gq 5 zr zr zt zr j zr zr sV mm fun au j=>(DP.vY p0.B 0 zr j oh fun af a39 av j=>(DP.Gq 7 zr zr zt zr j zr zr sV mm fun aw j=>(DP.vY p1.B 0 zr j oh fun ag a43 ax j=>(DP.e2 zr ?_))))
 obtain⟨aa,ah,o⟩:=bd o
 refine RL.call zt zr DG [ad,ae] zr (aF (eZ N (i0:=8) (i1:=6) j zr zr ah) ?_)
 rintro _ w ⟨rfl,j⟩
 refine DP.d2 (⟨⟨zt,j.jV 3⟩,j.jV 0⟩) (DP.e2 zr ?_)
 obtain⟨ab,ai,o⟩:=bd o
 refine RL.call zt zr DG [af,ag] zr (aF (eZ N (i0:=4) (i1:=1) j zr zr ai) ?_)
 rintro _ w ⟨rfl,j⟩
 refine DP.d2 (⟨⟨zt,j.jV 3⟩,j.jV 0⟩) (DP.e2 zr ?_)
 have j:=(j.sc Int aa).sc Int ab
 refine RL.eJ ([aa,ab]: (List Int)) j [(vi aa),(vi ab)] eD Ej (fun M hs g=>⟨(g.sat 1 _ zr).1,⟨(g.sat 0 _ zr).1,zt⟩⟩) fun aj w j=>(DP.d2 (⟨⟨zt,j.jV 6⟩,j.jV 3⟩) (DP.e2 zr ?_))
 have j:=j.freeze 0
 obtain⟨ak,al,o⟩:=bd o
 refine RL.call zt zr K2 [aj] zr (aF (x6 N (i0:=0) j zr al) ?_)
 rintro _ w ⟨rfl,j⟩
 refine DP.d2 (⟨⟨zt,j.jV 6⟩,j.jV 3⟩) (DP.e0 zr (aM (vi ak) (DP.d0 ?_)))
 have j:=j.pl 17 [0,1,2,4,5,7,8,9,10,11,12,13,14,15,16]
 refine DP.z (aG (RC.ret ?_))
 obtain rfl:=oi o
 exact cF ⟨rfl,j.drop 15⟩
def uo (E:World) (V:List HP) (r:Option ((List (List aI))×(List aI)×(List bQ)×(List cQ)×(List (List aA))×(List aH)×(List (List Int))×(List cE)×(List Int)×(List Int)×(List Int)×(List dF))×Int) (U:Nat->Value) (w:World):Prop:=l6 bG 63 Tryz.f28 (mF E V r) .ret U w
theorem oW {p0:iu} {p1: (List Test)} {res:Option ((List (List aI))×(List aI)×(List bQ)×(List cQ)×(List (List aA))×(List aH)×(List (List Int))×(List cE)×(List Int)×(List Int)×(List Int)×(List dF))×Int} (j:Holds E w V) (h0:V[i0]? =some (rd v0 p0)) (h1:V[i1]? =some (rd v1 p1)) (o:hQ N p0 p1=some res):
    Calls bG 28 [v0,v1].toArray w (gH (mF E V res)):=by
 unfold hQ at o
 refine enter Tryz.func28 zr zr ?_
 have j:=(j.dup (i0+0) h0).dup (i1+1) h1
 refine RC.sr (RL.cY 1 v0 j zr fun ah w j=>?_)
 refine aM (.pointer none) (aM (vi 0) (RL.ns (RL.aS (f:=(fun x=>x)) 0 j zr Fd.self nj fun bw j=>?_)))
 obtain⟨ag,bz,o⟩:=bd o
 refine RL.call zt zr HS [bw] zr (aF (nU N (i0:=0) j zr bz) ?_)
 rintro _ w hK49
 rcases a5:ag.1 with _ | aa
 ·replace o:=Dm a5 o
  obtain⟨rfl,j⟩:=yw a5 hK49
  refine mv (.tuple #[(.pointer none),(vi ag.2)]) (RL.extract (.pointer none) (RL.extract (vi ag.2) (aM (.pointer none) (aM (vi ag.2) (RL.nq (RC.sr (mv (vi ag.2) (ic ag.2 0 ?_))))))))
  refine RL.nt (eL o (fun hc o=>?_) fun hc o=>?_)
  ·refine RC.sr (mv (vi ag.2) (aM (.pointer none) (aM (vi ag.2) (RL.nt (RC.rt ?_)))))
   obtain rfl:=oi o
   exact iL ⟨rfl,j.drop 4⟩
  refine RC.ss (RC.sr (mv v1 (RL.bB 2 p1 j DK (ic ((p1.length:Int)) 2000 (RL.nt (eL o (fun hc o=>?_) fun hc o=>?_))))))
  ·refine RC.sr (aM (.pointer none) (aM (vi 2) (RL.nt (RC.rt ?_))))
   obtain rfl:=oi o
   exact iL ⟨rfl,j.drop 4⟩
  refine RC.ss (RC.sr (mv v1 (RL.bB 2 p1 j DK (mv (vi 0) (RL.nt ?_)))))
  obtain⟨c0,hN,o⟩:=bd o
  refine RC.range (fun(ai:Nat) (a6:Unit)=>SH E V [(1,v1),(2,vp ah 0),(6,(.pointer none)),(21,v1),(22,vi p1.length),(23,vi ai)] [rd v1 p1,bx 27 ah p0]) (fun(a6:Unit)=>SH E V [(6,(.pointer none))] [rd v1 p1,bx 27 ah p0]) (uo E V) hN ?_ ?_ ?_ ?_ ?_
  ·exact j.sp 4 [2,1]
  ·rintro hm a6 _ w ⟨O,rfl,j⟩
   refine RC.sr (ic ((p1.length:Int)) ((p1.length:Int)) (RL.nq (RC.cO l9 (RC.ex ?_))))
   exact⟨rfl,j.sp 2 [0,1]⟩
  ·rintro hm ai a6 fl _ w hk ⟨O,rfl,j⟩ o
   refine RC.sr (ic ((ai:Int)) ((p1.length:Int)) (RL.nq (RC.cN (l8 hk) (RC.ss (RC.bs (mv (vi ai) ?_))))))
   obtain⟨bm,b1,o⟩:=bd o
   refine RL.cC 0 j E3 b1 fun c1 j=>(RL.bO 0 bm j x0 fun c2 j=>(RL.alloc j HW.z fun bn w j=>?_))
   refine aM (vi ai) (RL.bA 0 j 1 zr x0 fun w j=>?_)
   refine RL.nt (RC.block (RC.seq ?_))
   obtain⟨a9,hj,o⟩:=bd o
   refine RC.jn (fun(a9:Bool)=>SH E V [(1,v1),(2,vp ah 0),(6,(.pointer none)),(8,vi ai),(9,vp bn 0),(21,v1),(22,vi p1.length),(23,vi ai),(28,vb a9)] [rd v1 p1,bx 27 ah p0,bx 53 bn bm]) a9 ?_ ?_
   ·refine RC.region (RL.aS (f:=(fun x=>x)) 4 j zr Fd.self nj fun b2 j=>(RL.aY zr sU (RL.aS 1 j zr ml oh fun b3 j=>?_)))
    obtain⟨bo,b4,hj⟩:=bd hj
    refine RL.call zt zr A5 [b2,b3] zr (aF (fT N (i0:=1) (i1:=0) j zr zr b4) ?_)
    rintro _ w ⟨rfl,j⟩
    refine ic bo 0 (mv (vb (decide (bo<0))) (fM hj (fun al hj=>?_) fun al hj=>?_))
    ·refine bJ al (bJ al (bJ al (bJ al (bJ al (fI al (vb true) (aM (vb true) (RL.nil ?_)))))))
     obtain rfl:=oi hj
     exact⟨rfl,j.sp 7 [5,6,2]⟩
    refine RL.aS (hg:=(cg al)) (f:=(fun x=>x)) 6 j zr Fd.self nj fun b5 j=>(RL.aY (hg:=(cg al)) zr sV (RL.aS (hg:=(cg al)) 3 j zr mm oh fun b6 j=>?_))
    obtain⟨ba,b7,hj⟩:=bd hj
    refine RL.call (cg al) zr A5 [b5,b6] zr (aF (fT N (i0:=1) (i1:=0) j zr zr b7) ?_)
    rintro _ w ⟨rfl,j⟩
    refine RL.jk ba 0 (cg al) (fI al (vb (decide (ba<0))) (aM (vb (decide (ba<0))) (RL.nil ?_)))
    obtain rfl:=oi hj
    exact⟨rfl,j.sp 9 [7,8,4]⟩
   rintro _ w ⟨O,rfl,j⟩
   refine aG (eL o (fun hc o=>?_) fun hc o=>?_)
   ·refine RC.sr (aM (.pointer none) (aM (vi 9) (RL.nt (RC.rb (jF (bV ?_))))))
    obtain rfl:=oi o
    exact⟨rfl,iL ⟨rfl,j.drop 3⟩⟩
   refine RC.sr (RL.aY zr sV (RL.aS 2 j zr mm oh fun b8 j=>(RL.aY zr sU (RL.aS 3 j zr ml oh fun b9 j=>?_))))
   obtain⟨bp,ca,o⟩:=bd o
   refine RL.call zt zr DG [b8,b9] zr (aF (eZ N (i0:=1) (i1:=0) j zr zr ca) ?_)
   rintro _ w ⟨rfl,j⟩
   refine ic bp 0 (aM (vb (decide (bp<=0))) (RL.nt (eL o (fun hc o=>?_) fun hc o=>?_)))
   ·refine RC.sr (aM (.pointer none) (aM (vi 8) (RL.nt (RC.rb (jF (bV ?_))))))
    obtain rfl:=oi o
    exact⟨rfl,iL ⟨rfl,j.drop 5⟩⟩
   refine RC.seq ?_
   obtain⟨bb,hj,o⟩:=bd o
   refine RC.jn (fun(bb:Bool)=>SH E V [(1,v1),(2,vp ah 0),(6,(.pointer none)),(21,v1),(22,vi p1.length),(23,vi ai),(48,vb bb)] [rd v1 p1,bx 27 ah p0]) bb ?_ ?_
   ·refine RC.wk mixed [0,0,0,0,0,0,0,0,0,2,0,0,0] [0,1,2,3,4,5,6,7,8,9,10,11,12] ?_
    have j:=j.drew
    refine DP.e0 zr (mv (vi ai) (bU zr (ic ((ai:Int)) 0 (bU zr (mv (vb (decide ((ai:Int)>0))) (DP.d0 (fM hj (fun ae hj=>?_) fun ae hj=>?_)))))))
    rotate_left
    ·refine DP.e0 zr (bJ ae (bU zr (bJ ae (bU zr (bJ ae (bU zr (bJ ae (bU zr ?_))))))))
     refine bJ ae (bU zr (bJ ae (sS zr (bJ ae (wm zr (bJ ae (bU zr (fI ae (vb false) ?_))))))))
     refine bU zr (aM (vb false) (DP.d0 (DP.z ?_)))
     obtain rfl:=oi hj
     exact⟨rfl,j.sp 5 [2,3]⟩
    refine DP.e0 zr (RL.aS (hg:=(cg ae)) (f:=(fun x=>x)) 4 j zr Fd.self x0 fun cb j=>(bU zr (RL.move v1 (cg ae) (bU zr (RL.move (vi ai) (cg ae) (bU zr (RL.jl (hg:=(cg ae)) (ai:Int) 1 (bU zr ?_))))))))
    obtain⟨cc,cd,hj⟩:=bd hj
    refine RL.cC (hg:=(cg ae)) 3 j E3 cd fun c3 j=>(bU zr (RL.bO (hg:=(cg ae)) 0 cc j x0 fun cf j=>(sS zr ?_)))
    obtain⟨bf,ch,hj⟩:=bd hj
    refine RL.call (cg ae) zr JC [cb,cf] zr (aF (mh N (i0:=2) (i1:=0) j zr zr ch) ?_)
    rintro _ w ⟨rfl,j⟩
    refine wm zr (RL.jk bf 0 (cg ae) (bU zr (fI ae (vb (decide (bf<=0))) (bU zr (aM (vb (decide (bf<=0))) (DP.d0 (DP.z ?_)))))))
    obtain rfl:=oi hj
    exact⟨rfl,j.sp 8 [5,6]⟩
   rintro _ w ⟨O,rfl,j⟩
   refine aG (eL o (fun hc o=>?_) fun hc o=>?_)
   rotate_left
   ·refine RC.skip (bL (bL (aG (RC.region (RL.inc hk hm (mv (vi ((ai+1:Nat):Int)) (RL.nil ?_)))))))
    obtain rfl:=oi o
    exact⟨rfl,j.sp 2 [0,1]⟩
   refine RC.sr (aM (.pointer none) (aM (vi 8) (RL.nt (RC.rb (jF (bV ?_))))))
   obtain rfl:=oi o
   exact⟨rfl,iL ⟨rfl,j.drop 2⟩⟩
  ·intro r U w e hK
   subst e
   refine bV ?_
   obtain rfl:=oi o
   exact hK
  rintro a6 _ w rfl ⟨O,rfl,j⟩
  rw [Fo.f0] at o
  refine aG (RC.sr (mv (.pointer none) (aM (.pointer none) (aM (vi 0) (RL.nt (RC.ret ?_))))))
  obtain rfl:=oi o
  exact iL ⟨rfl,j.drop 2⟩
 replace o:=Dn a5 o
 obtain⟨aj,ao,aq,ar,au,av,aw,ax,ay,az,a0,a1,a2,rfl,j⟩:=yx a5 hK49
 refine mv (.tuple #[(vp aj 0),(vi ag.2)]) (RL.extract (vp aj 0) (RL.extract (vi ag.2) (aM (vp aj 0) (aM (vi ag.2) (RL.nq (RC.sr (mv (vi ag.2) (ic ag.2 0 ?_))))))))
 refine RL.nt (eL o (fun hc o=>?_) fun hc o=>?_)
 ·refine RC.sr (mv (vi ag.2) (aM (.pointer none) (aM (vi ag.2) (RL.nt (RC.rt ?_)))))
  obtain rfl:=oi o
  exact iL ⟨rfl,j.drop 17⟩
 refine RC.ss (RC.sr (mv v1 (RL.bB 15 p1 j DK (ic ((p1.length:Int)) 2000 (RL.nt (eL o (fun hc o=>?_) fun hc o=>?_))))))
 ·refine RC.sr (aM (.pointer none) (aM (vi 2) (RL.nt (RC.rt ?_))))
  obtain rfl:=oi o
  exact iL ⟨rfl,j.drop 17⟩
 refine RC.ss (RC.sr (mv v1 (RL.bB 15 p1 j DK (mv (vi 0) (RL.nt ?_)))))
 obtain⟨c4,hN,o⟩:=bd o
 refine RC.range (fun(ak:Nat) (a7:Unit)=>SH E V [(1,v1),(2,vp ah 0),(6,vp aj 0),(21,v1),(22,vi p1.length),(23,vi ak)] [rd v1 p1,bx 27 ah p0,bc 126 aj [ao,aq,ar,au,av,aw,ax,ay,az,a0,a1,a2],rd ao aa.1,rd aq aa.2.1,rd ar aa.2.2.1,rd au aa.2.2.2.1,own 132 av aa.2.2.2.2.1,rd aw aa.2.2.2.2.2.1,rd ax aa.2.2.2.2.2.2.1,own 129 ay aa.2.2.2.2.2.2.2.1,rd az aa.2.2.2.2.2.2.2.2.1,rd a0 aa.2.2.2.2.2.2.2.2.2.1,own 3 a1 aa.2.2.2.2.2.2.2.2.2.2.1,own 41 a2 aa.2.2.2.2.2.2.2.2.2.2.2]) (fun(a7:Unit)=>SH E V [(6,vp aj 0)] [rd v1 p1,bx 27 ah p0,bc 126 aj [ao,aq,ar,au,av,aw,ax,ay,az,a0,a1,a2],rd ao aa.1,rd aq aa.2.1,rd ar aa.2.2.1,rd au aa.2.2.2.1,own 132 av aa.2.2.2.2.1,rd aw aa.2.2.2.2.2.1,rd ax aa.2.2.2.2.2.2.1,own 129 ay aa.2.2.2.2.2.2.2.1,rd az aa.2.2.2.2.2.2.2.2.1,rd a0 aa.2.2.2.2.2.2.2.2.2.1,own 3 a1 aa.2.2.2.2.2.2.2.2.2.2.1,own 41 a2 aa.2.2.2.2.2.2.2.2.2.2.2]) (uo E V) hN ?_ ?_ ?_ ?_ ?_
 ·exact j.sp 17 [15,14,0,1,2,3,4,5,6,7,8,9,10,11,12]
 ·rintro hm a7 _ w ⟨O,rfl,j⟩
  refine RC.sr (ic ((p1.length:Int)) ((p1.length:Int)) (RL.nq (RC.cO l9 (RC.ex ?_))))
  exact⟨rfl,j.sp 15 [0,1,2,3,4,5,6,7,8,9,10,11,12,13,14]⟩
 ·rintro hm ak a7 fl _ w hk ⟨O,rfl,j⟩ o
  refine RC.sr (ic ((ak:Int)) ((p1.length:Int)) (RL.nq (RC.cN (l8 hk) (RC.ss (RC.bs (mv (vi ak) ?_))))))
  obtain⟨bq,cj,o⟩:=bd o
  refine RL.cC 0 j E3 cj fun c5 j=>(RL.bO 0 bq j x0 fun c6 j=>(RL.alloc j HW.z fun br w j=>?_))
  refine aM (vi ak) (RL.bA 0 j 1 zr x0 fun w j=>?_)
  refine RL.nt (RC.block (RC.seq ?_))
  obtain⟨bh,hj,o⟩:=bd o
  refine RC.jn (fun(bh:Bool)=>SH E V [(1,v1),(2,vp ah 0),(6,vp aj 0),(8,vi ak),(9,vp br 0),(21,v1),(22,vi p1.length),(23,vi ak),(28,vb bh)] [rd v1 p1,bx 27 ah p0,bc 126 aj [ao,aq,ar,au,av,aw,ax,ay,az,a0,a1,a2],rd ao aa.1,rd aq aa.2.1,rd ar aa.2.2.1,rd au aa.2.2.2.1,own 132 av aa.2.2.2.2.1,rd aw aa.2.2.2.2.2.1,rd ax aa.2.2.2.2.2.2.1,own 129 ay aa.2.2.2.2.2.2.2.1,rd az aa.2.2.2.2.2.2.2.2.1,rd a0 aa.2.2.2.2.2.2.2.2.2.1,own 3 a1 aa.2.2.2.2.2.2.2.2.2.2.1,own 41 a2 aa.2.2.2.2.2.2.2.2.2.2.2,bx 53 br bq]) bh ?_ ?_
  ·refine RC.region (RL.aS (f:=(fun x=>x)) 4 j zr Fd.self nj fun ck j=>(RL.aY zr sU (RL.aS 1 j zr ml oh fun cl j=>?_)))
   obtain⟨bt,cm,hj⟩:=bd hj
   refine RL.call zt zr A5 [ck,cl] zr (aF (fT N (i0:=1) (i1:=0) j zr zr cm) ?_)
   rintro _ w ⟨rfl,j⟩
   refine ic bt 0 (mv (vb (decide (bt<0))) (fM hj (fun an hj=>?_) fun an hj=>?_))
   ·refine bJ an (bJ an (bJ an (bJ an (bJ an (fI an (vb true) (aM (vb true) (RL.nil ?_)))))))
    obtain rfl:=oi hj
    exact⟨rfl,j.sp 20 [5,6,7,8,9,10,11,12,13,14,15,16,17,18,19,2]⟩
   refine RL.aS (hg:=(cg an)) (f:=(fun x=>x)) 6 j zr Fd.self nj fun cn j=>(RL.aY (hg:=(cg an)) zr sV (RL.aS (hg:=(cg an)) 3 j zr mm oh fun cp j=>?_))
   obtain⟨bj,cq,hj⟩:=bd hj
   refine RL.call (cg an) zr A5 [cn,cp] zr (aF (fT N (i0:=1) (i1:=0) j zr zr cq) ?_)
   rintro _ w ⟨rfl,j⟩
   refine RL.jk bj 0 (cg an) (fI an (vb (decide (bj<0))) (aM (vb (decide (bj<0))) (RL.nil ?_)))
   obtain rfl:=oi hj
   exact⟨rfl,j.sp 22 [7,8,9,10,11,12,13,14,15,16,17,18,19,20,21,4]⟩
  rintro _ w ⟨O,rfl,j⟩
  refine aG (eL o (fun hc o=>?_) fun hc o=>?_)
  ·refine RC.sr (aM (.pointer none) (aM (vi 9) (RL.nt (RC.rb (jF (bV ?_))))))
   obtain rfl:=oi o
   exact⟨rfl,iL ⟨rfl,j.drop 16⟩⟩
  refine RC.sr (RL.aY zr sV (RL.aS 15 j zr mm oh fun cr j=>(RL.aY zr sU (RL.aS 16 j zr ml oh fun ct j=>?_))))
  obtain⟨bu,cu,o⟩:=bd o
  refine RL.call zt zr DG [cr,ct] zr (aF (eZ N (i0:=1) (i1:=0) j zr zr cu) ?_)
  rintro _ w ⟨rfl,j⟩
  refine ic bu 0 (aM (vb (decide (bu<=0))) (RL.nt (eL o (fun hc o=>?_) fun hc o=>?_)))
  ·refine RC.sr (aM (.pointer none) (aM (vi 8) (RL.nt (RC.rb (jF (bV ?_))))))
   obtain rfl:=oi o
   exact⟨rfl,iL ⟨rfl,j.drop 18⟩⟩
  refine RC.seq ?_
  obtain⟨bk,hj,o⟩:=bd o
  refine RC.jn (fun(bk:Bool)=>SH E V [(1,v1),(2,vp ah 0),(6,vp aj 0),(21,v1),(22,vi p1.length),(23,vi ak),(48,vb bk)] [rd v1 p1,bx 27 ah p0,bc 126 aj [ao,aq,ar,au,av,aw,ax,ay,az,a0,a1,a2],rd ao aa.1,rd aq aa.2.1,rd ar aa.2.2.1,rd au aa.2.2.2.1,own 132 av aa.2.2.2.2.1,rd aw aa.2.2.2.2.2.1,rd ax aa.2.2.2.2.2.2.1,own 129 ay aa.2.2.2.2.2.2.2.1,rd az aa.2.2.2.2.2.2.2.2.1,rd a0 aa.2.2.2.2.2.2.2.2.2.1,own 3 a1 aa.2.2.2.2.2.2.2.2.2.2.1,own 41 a2 aa.2.2.2.2.2.2.2.2.2.2.2]) bk ?_ ?_
  ·refine RC.wk mixed [0,0,0,0,0,0,0,0,0,2,0,0,0] [0,1,2,3,4,5,6,7,8,9,10,11,12] ?_
   have j:=j.drew
   refine DP.e0 zr (mv (vi ak) (bU zr (ic ((ak:Int)) 0 (bU zr (mv (vb (decide ((ak:Int)>0))) (DP.d0 (fM hj (fun af hj=>?_) fun af hj=>?_)))))))
   rotate_left
   ·refine DP.e0 zr (bJ af (bU zr (bJ af (bU zr (bJ af (bU zr (bJ af (bU zr ?_))))))))
    refine bJ af (bU zr (bJ af (sS zr (bJ af (wm zr (bJ af (bU zr (fI af (vb false) ?_))))))))
    refine bU zr (aM (vb false) (DP.d0 (DP.z ?_)))
    obtain rfl:=oi hj
    exact⟨rfl,j.sp 18 [2,3,4,5,6,7,8,9,10,11,12,13,14,15,16]⟩
   refine DP.e0 zr (RL.aS (hg:=(cg af)) (f:=(fun x=>x)) 17 j zr Fd.self x0 fun cv j=>(bU zr (RL.move v1 (cg af) (bU zr (RL.move (vi ak) (cg af) (bU zr (RL.jl (hg:=(cg af)) (ak:Int) 1 (bU zr ?_))))))))
   obtain⟨cw,cx,hj⟩:=bd hj
   refine RL.cC (hg:=(cg af)) 3 j E3 cx fun c7 j=>(bU zr (RL.bO (hg:=(cg af)) 0 cw j x0 fun cy j=>(sS zr ?_)))
   obtain⟨bl,cz,hj⟩:=bd hj
   refine RL.call (cg af) zr JC [cv,cy] zr (aF (mh N (i0:=2) (i1:=0) j zr zr cz) ?_)
   rintro _ w ⟨rfl,j⟩
   refine wm zr (RL.jk bl 0 (cg af) (bU zr (fI af (vb (decide (bl<=0))) (bU zr (aM (vb (decide (bl<=0))) (DP.d0 (DP.z ?_)))))))
   obtain rfl:=oi hj
   exact⟨rfl,j.sp 21 [5,6,7,8,9,10,11,12,13,14,15,16,17,18,19]⟩
  rintro _ w ⟨O,rfl,j⟩
  refine aG (eL o (fun hc o=>?_) fun hc o=>?_)
  rotate_left
  ·refine RC.skip (bL (bL (aG (RC.region (RL.inc hk hm (mv (vi ((ak+1:Nat):Int)) (RL.nil ?_)))))))
   obtain rfl:=oi o
   exact⟨rfl,j.sp 15 [0,1,2,3,4,5,6,7,8,9,10,11,12,13,14]⟩
  refine RC.sr (aM (.pointer none) (aM (vi 8) (RL.nt (RC.rb (jF (bV ?_))))))
  obtain rfl:=oi o
  exact⟨rfl,iL ⟨rfl,j.drop 15⟩⟩
 ·intro r U w e hK
  subst e
  refine bV ?_
  obtain rfl:=oi o
  exact hK
 rintro a7 _ w rfl ⟨O,rfl,j⟩
 rw [Fo.f0] at o
 refine aG (RC.sr (mv (vp aj 0) (aM (vp aj 0) (aM (vi 0) (RL.nt (RC.ret ?_))))))
 obtain rfl:=oi o
 exact iL ⟨aj,ao,aq,ar,au,av,aw,ax,ay,az,a0,a1,a2,zr,j.pk 15 [2,3,4,5,6,7,8,9,10,11,12,13,14]⟩
def qA (E:World) (V:List HP) (b1 b1h:Nat) (v1h_0 v1h_1:Value) (v1h_2 v1h_3:Value) (v1h_4 v1h_5:Value) (v1h_6 v1h_7:Value) (v1h_8 v1h_9:Value) (v1h_10 v1h_11:Value) (res:Bool) (v:Value) (w:World):Prop:=v= (vb res)/\Holds E w ([bc 68 b1 [(vp b1h 0)],bc 126 b1h [v1h_0,v1h_1,v1h_2,v1h_3,v1h_4,v1h_5,v1h_6,v1h_7,v1h_8,v1h_9,v1h_10,v1h_11]]++V)
theorem jP {p1h_5: (List aH)} {res:Bool} (j:Holds E w (bc 68 b1 [(vp b1h 0)]::bc 126 b1h [v1h_0,v1h_1,v1h_2,v1h_3,v1h_4,v1h_5,v1h_6,v1h_7,v1h_8,v1h_9,v1h_10,v1h_11]::rd v1h_5 p1h_5::V)) (o:fy N p0 p1h_5=some res):
    Calls bG 59 [(vi p0),(vp b1 0)].toArray w (gH (qA E V b1 b1h v1h_0 v1h_1 v1h_2 v1h_3 v1h_4 v1h_5 v1h_6 v1h_7 v1h_8 v1h_9 v1h_10 v1h_11 res)):=by
 unfold fy at o
 refine enter Tryz.func59 zr zr (RC.sr (aM (vb false) (RL.ns (mv (vi p0) (RL.aW 0 (vp b1h 0) j vZ (RL.nilCheck zr (RL.aY zr lz (RL.aW 1 v1h_5 j qj ?_))))))))
 refine RL.bB 2 p1h_5 j vK (RL.jl (p1h_5.length:Int) 1 ?_)
 obtain⟨aa,ab,o⟩:=bd o
 refine RL.call zt zr HT [(vi p0),(vi 0),(vi (IntKind.wrap .i64 ((p1h_5.length:Int) - 1)))] zr (aF (mX N (p0:=p0) (p1:=0) (p2:=(IntKind.wrap .i64 ((p1h_5.length:Int) - 1))) j ab) ?_)
 rintro _ w ⟨rfl,j⟩
 refine aM (vb aa) (RL.nt (RC.ret ?_))
 obtain rfl:=oi o
 exact cF ⟨rfl,j.pk 3 [0,1]⟩
def sq (E:World) (V:List HP) (r:Int) (U:Nat->Value) (w:World):Prop:=l6 bG 19 Tryz.f32 (aP E V r) .ret U w
theorem rj {p0: (List bS)} {p1:bS} (j:Holds E w V) (h0:V[i0]? =some (rd v0 p0)) (h1:V[i1]? =some (rd v1 p1)) (o:lW N p0 p1=some res):
    Calls bG 32 [v0,v1].toArray w (gH (aP E V res)):=by
 unfold lW at o
 refine enter Tryz.func32 zr zr ?_
 have j:=(j.dup (i0+0) h0).dup (i1+1) h1
 refine RC.sr (RL.cY 0 v1 j zr fun ad w j=>?_)
 refine aM (vi 0) (RL.nq (RC.sr (mv v0 (RL.bB 2 p0 j xZ (mv (vi 0) (RL.nt ?_))))))
 obtain⟨al,hN,o⟩:=bd o
 refine RC.range (fun(aa:Nat) (ab:Unit)=>SH E V [(0,v0),(3,vp ad 0),(7,vi p0.length),(8,vi aa)] [rd v0 p0,bx 43 ad p1]) (fun(ab:Unit)=>SH E V [] [rd v0 p0,bx 43 ad p1]) (sq E V) hN ?_ ?_ ?_ ?_ ?_
 ·exact j.sp 3 [2,0]
 ·rintro hm ab _ w ⟨O,rfl,j⟩
  refine RC.sr (ic ((p0.length:Int)) ((p0.length:Int)) (RL.nq (RC.cO l9 (RC.ex ?_))))
  exact⟨rfl,j.sp 2 [0,1]⟩
 ·rintro hm aa ab fl _ w hk ⟨O,rfl,j⟩ o
  refine RC.sr (ic ((aa:Int)) ((p0.length:Int)) (RL.nq (RC.cN (l8 hk) (RC.ss (RC.bs (mv (vi aa) (aM (vi aa) (RL.nq ?_))))))))
  refine RC.xT mixed ?_
  have j:=j.drew
  refine RO.go (RL.aS (f:=(fun x=>x)) 1 j zr Fd.self sW fun ao j=>(RO.nx (mv v0 (RO.nx (mv (vi aa) (RO.nx ?_))))))
  obtain⟨ag,ai,o⟩:=bd o
  refine RL.cC 1 j va ai fun aq j=>(RO.nx (RL.bO 0 ag j sW fun ar j=>(RO.nx (RL.seq 2 0 p1 ag zt zr j zr zr zr zr JE zr (RO.last (aG (eL o (fun hc o=>?_) fun hc o=>?_)))))))
  rotate_left
  ·refine RC.skip (bL (aG (RC.region (RL.inc hk hm (mv (vi ((aa+1:Nat):Int)) (RL.nil ?_))))))
   obtain rfl:=oi o
   exact⟨rfl,j.sp 5 [3,4]⟩
  refine RC.sr (mv (vi aa) (aM (vi aa) (RL.nt (RC.rb (bV ?_)))))
  obtain rfl:=oi o
  exact⟨rfl,cF ⟨rfl,j.drop 5⟩⟩
 ·intro r U w e hK
  subst e
  refine bV ?_
  obtain rfl:=oi o
  exact hK
 rintro ab _ w rfl ⟨O,rfl,j⟩
 rw [Fo.f0] at o
 refine aG (RC.sr (aM (vi (-1)) (RL.nt (RC.ret ?_))))
 obtain rfl:=oi o
 exact cF ⟨rfl,j.drop 2⟩
theorem lK {p0: (List bS)} {p1:bS} {res:Bool} (j:Holds E w V) (h0:V[i0]? =some (rd v0 p0)) (h1:V[i1]? =some (rd v1 p1)) (o:dV N p0 p1=some res):
    Calls bG 13 [v0,v1].toArray w (gH (bF E V res)):=by
 unfold dV at o
 refine enter Tryz.func13 zr zr ?_
 have j:=(j.dup (i0+0) h0).dup (i1+1) h1
 refine RC.sr (RL.cY 0 v1 j zr fun ae w j=>?_)
 refine aM (vb false) (RL.ns (mv v0 (RL.aS (f:=(fun x=>x)) 0 j zr Fd.self sW fun ab j=>?_)))
 obtain⟨aa,ad,o⟩:=bd o
 refine RL.call zt zr K6 [v0,ab] zr (aF (rj N (i0:=3) (i1:=0) j zr zr ad) ?_)
 rintro _ w ⟨rfl,j⟩
 refine ic aa 0 (aM (vb (decide (aa>=0))) (RL.nt (RC.ret ?_)))
 obtain rfl:=oi o
 exact cF ⟨rfl,j.drop 4⟩
end Go.Gk
namespace Go.Gk
open Go Go.Proofs
variable (N:Nat) {E w:World} {i0:Nat} {p1:Int} {v0:Value} {V:List HP}
theorem we {p0:iu} {res: (List bS)×Int} (j:Holds E w V) (h0:V[i0]? =some (rd v0 p0)) (o:i9 N p0 p1=some res):
    Calls bG 8 [v0,(vi p1)].toArray w (gH (qR E V res)):=by
 unfold i9 at o
 refine enter Tryz.func8 zr zr ?_
 have j:=j.dup (i0+0) h0
 refine RC.sr (RL.cY 0 v0 j zr fun ak w j=>?_)
 refine aM (.slice none 0 0) (aM (vi 0) (RL.ns (RL.aS (f:=(fun x=>x)) 0 j zr Fd.self nj fun ah j=>?_)))
 obtain⟨aa,ai,o⟩:=bd o
 refine RL.call zt zr HS [ah] zr (aF (nU N (i0:=0) j zr ai) ?_)
 rintro _ w hK49
 rcases ad:aa.1 with _ | al
 ·replace o:=Dm ad o
  obtain⟨rfl,j⟩:=yw ad hK49
  refine mv (.tuple #[(.pointer none),(vi aa.2)]) (RL.extract (.pointer none) (RL.extract (vi aa.2) (aM (.pointer none) (aM (vi aa.2) (RL.nq (RC.sr (mv (vi aa.2) (ic aa.2 0 ?_))))))))
  refine RL.nt (eL o (fun hc o=>?_) fun hc o=>?_)
  rotate_left
  ·cases o
  refine RC.sr (mv (vi aa.2) (aM (.slice none 0 0) (aM (vi aa.2) (RL.nt (RC.rt ?_)))))
  obtain rfl:=oi o
  have j:=j.cS bS 43
  exact iL ⟨(.slice none 0 0),zr,j.pk 4 [0]⟩
 replace o:=Dn ad o
 obtain⟨ab,an,ao,aq,ar,au,av,aw,ax,ay,az,a0,a1,rfl,j⟩:=yx ad hK49
 refine mv (.tuple #[(vp ab 0),(vi aa.2)]) (RL.extract (vp ab 0) (RL.extract (vi aa.2) (aM (vp ab 0) (aM (vi aa.2) (RL.nq (RC.sr (mv (vi aa.2) (ic aa.2 0 ?_))))))))
 refine RL.nt (eL o (fun hc o=>?_) fun hc o=>?_)
 ·refine RC.sr (mv (vi aa.2) (aM (.slice none 0 0) (aM (vi aa.2) (RL.nt (RC.rt ?_)))))
  obtain rfl:=oi o
  have j:=j.cS bS 43
  exact iL ⟨(.slice none 0 0),zr,j.pk 17 [0]⟩
 refine RC.sx (mv (vp ab 0) (mv (vi p1) ?_))
 have j:=((((((((((((j.freeze 5).freeze 8).freeze 11).freeze 12).dup 12 rfl).dup 12 rfl).dup 12 rfl).dup 12 rfl).dup 12 rfl).dup 12 rfl).dup 12 rfl).dup 12 rfl).dup 12 rfl
 have j:=(((j.dup 12 rfl).dup 12 rfl).dup 12 rfl).pull 12
 obtain⟨ag,aj,o⟩:=bd o
 refine RL.call zt zr JB [(vp ab 0),(vi p1)] zr (aF (qo N (p1:=p1) j aj) ?_)
 rintro _ w ⟨af,rfl,j⟩
 refine RL.extract af (RL.extract (vi ag.2) (aM af (aM (vi ag.2) (RL.nt (RC.ret ?_)))))
 obtain rfl:=oi o
 exact iL ⟨af,zr,j.pk 18 [0]⟩
end Go.Gk
namespace Go.Gk
open Go Go.Proofs
variable (N:Nat) {E w:World} {i0 i1:Nat} {res:Int} {v0 v1:Value} {V:List HP}
theorem su {p0:iu} {p1: (List Test)} (j:Holds E w V) (h0:V[i0]? =some (rd v0 p0)) (h1:V[i1]? =some (rd v1 p1)) (hb:jz N p0 p1=some res):
    Calls bG 9 [v0,v1].toArray w (gH (aP E V res)):=by
 unfold jz at hb
 refine enter Tryz.func9 zr zr ?_
 have j:=(j.dup (i0+0) h0).dup (i1+1) h1
 refine RC.sr (RL.cY 1 v0 j zr fun ag w j=>?_)
 refine aM (vi 0) (RL.ns (RL.aS (f:=(fun x=>x)) 0 j zr Fd.self nj fun ae j=>(mv v1 ?_)))
 obtain⟨o,af,hb⟩:=bd hb
 refine RL.call zt zr HX [ae,v1] zr (aF (oW N (i0:=0) (i1:=2) j zr zr af) ?_)
 rintro _ w hK49
 rcases ab:o.1 with _ | ah
 ·replace hb:=Dm ab hb
  obtain⟨rfl,j⟩:=yw ab hK49
  refine mv (.tuple #[(.pointer none),(vi o.2)]) (RL.extract (.pointer none) (RL.extract (vi o.2) (aM (.pointer none) (aM (vi o.2) (RL.ns (mv (vi o.2) (aM (vi o.2) (RL.nt ?_))))))))
  refine RC.ret ?_
  obtain rfl:=oi hb
  exact cF ⟨rfl,j.drop 4⟩
 replace hb:=Dn ab hb
 obtain⟨ad,ai,aj,ak,al,an,ao,aq,ar,au,av,aw,ax,rfl,j⟩:=yx ab hK49
 refine mv (.tuple #[(vp ad 0),(vi o.2)]) (RL.extract (vp ad 0) (RL.extract (vi o.2) (aM (vp ad 0) (aM (vi o.2) (RL.ns (mv (vi o.2) (aM (vi o.2) (RL.nt ?_))))))))
 refine RC.ret ?_
 obtain rfl:=oi hb
 exact cF ⟨rfl,j.drop 17⟩
end Go.Gk
