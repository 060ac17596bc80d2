/-
  Printed texts: Go functions as plain functions, and that they are. No statement of the seed is proved here.
-/
import Derived.Test.YthioiiocofohiaaGreatDoorG1
import Derived.Test.YthioiiocofohiaaGreatDoorG2
import Derived.Test.YthioiiocofohiaaGreatDoorG4
import Derived.Test.YthioiiocofohiaaGreatDoorA2
set_option linter.unusedVariables false
set_option linter.unusedSimpArgs false
set_option linter.unusedSectionVars false
set_option maxRecDepth 100000
set_option maxHeartbeats 4000000
namespace Go.Gk
open Go Go.Proofs
variable (N:Nat) {E w:World} {b0 b1 b1h i0 i1:Nat} {p0 p1 res:Int} {v0 v0_0 v0_1 v0_10 v0_11 v0_2 v0_3 v0_4 v0_5 v0_6 v0_7 v0_8 v0_9 v1 v1h_0 v1h_1 v1h_10 v1h_11 v1h_2 v1h_3 v1h_4 v1h_5 v1h_6 v1h_7 v1h_8 v1h_9 v2:Value} {V:List HP}
def yN (E:World) (V:List HP) (res:pZ) (v:Value) (w:World):Prop:=Holds E w ([rd v res]++V)
theorem xS {p0: (List aI)} {p1: (List aI)} {res:pZ} (j:Holds E w V) (h0:V[i0]? =some (rd v0 p0)) (h1:V[i1]? =some (rd v1 p1)) (o:lT N p0 p1=some res):
    Calls bF 55 [v0,v1].toArray w (gI (yN E V res)):=by
 unfold lT at o
 refine enter Tryz.func55 zr zr ?_
 have j:=(j.dup (i0+0) h0).dup (i1+1) h1
 refine RC.sr (RL.alloc j H9.z fun ae w j=>?_)
 refine RL.ns (aK (vi (-1)) (RL.nq (RC.sr (mv v0 (RL.bD 2 p0 j oG (mv (vi 0) (RL.nt ?_)))))))
 obtain⟨ad,hN,o⟩:=bd o
 refine RC.fold (fun(aw:Nat) (ad:Int)=>SH E V [(0,v0),(1,v1),(4,vp ae 0),(5,vi ad),(22,v0),(23,vi p0.length),(24,vi aw)] [rd v0 p0,rd v1 p1,raw 136 ae 7]) (fun(ad:Int)=>SH E V [(0,v0),(1,v1),(4,vp ae 0),(5,vi ad)] [rd v0 p0,rd v1 p1,raw 136 ae 7]) hN ?_ ?_ ?_ ?_
 ·exact j.sp 3 [2,1,0]
 ·rintro hm ad _ w ⟨O,rfl,j⟩
  refine RC.sr (ic ((p0.length:Int)) ((p0.length:Int)) (RL.nq (RC.cN lS (RC.ex ?_))))
  exact⟨rfl,j.sp 3 [0,1,2]⟩
 ·rintro hm aw ad s' _ w hk ⟨O,rfl,j⟩ o
  refine RC.sr (ic ((aw:Int)) ((p0.length:Int)) (RL.nq (RC.cM (lR hk) (RC.ss (RC.bs ?_)))))
  obtain⟨a5,bk,o⟩:=bd o
  refine RL.cC 0 j kH bk fun cm j=>(RL.bV 0 a5 j fK fun cn j=>(RL.alloc j mI.z fun a1 w j=>?_))
  refine RL.bA 0 j 1 zr fK fun w j=>?_
  refine RL.ns (mv v1 (RL.bD 4 p1 j oG (mv (vi 0) (RL.nt ?_))))
  obtain⟨af,hN,o⟩:=bd o
  refine RC.fold (fun(a2:Nat) (af:Int)=>SH E V [(0,v0),(1,v1),(4,vp ae 0),(5,vi af),(7,vp a1 0),(22,v0),(23,vi p0.length),(24,vi aw),(28,v1),(29,vi p1.length),(30,vi a2)] [rd v0 p0,rd v1 p1,raw 136 ae 7,bx 74 a1 a5]) (fun(af:Int)=>SH E V [(0,v0),(1,v1),(4,vp ae 0),(5,vi af),(22,v0),(23,vi p0.length),(24,vi aw)] [rd v0 p0,rd v1 p1,raw 136 ae 7,bx 74 a1 a5]) hN ?_ ?_ ?_ ?_
  ·exact j.sp 6 [3,4,5,0]
  ·rintro hm af _ w ⟨O,rfl,j⟩
   refine RC.sr (ic ((p1.length:Int)) ((p1.length:Int)) (RL.nq (RC.cN lS (RC.ex ?_))))
   exact⟨rfl,j.sp 4 [0,1,2,3]⟩
  ·rintro hm a2 af s' _ w hk ⟨O,rfl,j⟩ o
   refine RC.sr (ic ((a2:Int)) ((p1.length:Int)) (RL.nq (RC.cM (lR hk) (RC.ss (RC.bs ?_)))))
   obtain⟨bl,bm,o⟩:=bd o
   refine RL.cC 1 j kH bm fun cp j=>(RL.bV 0 bl j fK fun cq j=>(RL.alloc j mI.z fun cr w j=>?_))
   refine RL.bA 0 j 1 zr fK fun w j=>?_
   refine RL.ns (RL.aP (f:=(fun x=>x)) 6 j zr Fd.self fK fun bn j=>(RL.aP (f:=(fun x=>x)) 1 j zr Fd.self fK fun bo j=>?_))
   obtain⟨au,bp,o⟩:=bd o
   refine RL.call zt zr Hi [bn,bo] zr (aF (nJ N (i0:=1) (i1:=0) j zr zr bp) ?_)
   rintro _ w ⟨rfl,j⟩
   refine aK (vi au) (RL.ns (mv (vi af) (ic af 0 (mv (vb (decide (af<0))) (RL.gs true (decide (af<0)) (vi au) rfl rfl rfl dW (RL.gs true (decide (af<0)) (vi af) rfl rfl rfl dW (RL.gs true (decide (af<0)) (vb (decide (au<af))) rfl rfl rfl (eE .lss .i64 au af rfl (fun h=>by exact(cV h:cv (true&&((decide (af<0))==false)) (vi au)= (vi au))) (fun h=>by exact(cV h:cv (true&&((decide (af<0))==false)) (vi af)= (vi af))) rfl) (RL.pick (decide (af<0)) (vb ((decide (af<0))||(decide (au<af)))) (nS true rfl) ?_))))))))
   refine RL.nt ?_
   obtain⟨a8,hj,o⟩:=bd o
   refine RC.jn (fun(a8:Int)=>SH E V [(0,v0),(1,v1),(4,vp ae 0),(5,vi a8),(7,vp a1 0),(22,v0),(23,vi p0.length),(24,vi aw),(28,v1),(29,vi p1.length),(30,vi a2)] [rd v0 p0,rd v1 p1,raw 136 ae 7,bx 74 a1 a5]) a8 ?_ ?_
   ·refine eQ hj (fun hc hj=>?_) fun hc hj=>?_
    rotate_left
    ·refine RC.skip ?_
     obtain rfl:=oi hj
     exact⟨rfl,j.sp 9 [5,6,7,8]⟩
    refine RC.region (mv (vi au) (aK (vi au) (RL.nil ?_)))
    obtain rfl:=oi hj
    exact⟨rfl,j.sp 9 [5,6,7,8]⟩
   rintro _ w ⟨O,rfl,j⟩
   refine bK (aG (RC.region (RL.inc hk hm (mv (vi ((a2+1:Nat):Int)) (RL.nil ?_)))))
   obtain rfl:=oi o
   exact⟨rfl,j.sp 4 [0,1,2,3]⟩
  rintro _ w ⟨O,rfl,j⟩
  refine bK (aG (RC.region (RL.inc hk hm (mv (vi ((aw+1:Nat):Int)) (RL.nil ?_)))))
  obtain rfl:=oi o
  exact⟨rfl,j.sp 4 [0,1,2]⟩
 rintro _ w ⟨O,rfl,j⟩
 refine aG (RC.sr (mv (vi ad) (RL.jA ad 1 ?_)))
 have j:=j.sc Int (IntKind.wrap .i64 (ad - 1))
 refine RL.build (⟨0,0,(IntKind.wrap .i64 (ad - 1)),⟨0,0⟩,⟨0,0⟩⟩:pZ) trivial rfl j [(2,(vi (IntKind.wrap .i64 (ad - 1))))] rfl Kq rfl (fun M hs g=>by have h:=Jt M;exact cO.cons (f:=fun(x:pZ) y=>{x with iv:=y}) h Fx (g.sat 0 _ rfl).1 fun _ h=>cO.nil h) fun ct j=>?_
 refine RL.alloc j H9.z fun ag w j=>?_
 refine RL.bA 0 j 1 zr DD fun w j=>?_
 refine RL.ns (aK (vb false) (RL.nq (RC.sr (mv v0 (RL.bD 3 p0 j oG (mv (vi 0) (RL.nt ?_)))))))
 obtain⟨ab,hN,o⟩:=bd o
 refine RC.fold (fun(av:Nat) (ab:pZ×Bool)=>SH E V [(1,v1),(4,vp ae 0),(5,vi ad),(11,vp ag 0),(12,vb ab.2),(50,v0),(51,vi p0.length),(52,vi av)] [rd v1 p1,raw 136 ae 7,bx 136 ag ab.1,rd v0 p0]) (fun(ab:pZ×Bool)=>SH E V [(1,v1),(4,vp ae 0),(5,vi ad),(11,vp ag 0)] [rd v1 p1,raw 136 ae 7,bx 136 ag ab.1,rd v0 p0]) hN ?_ ?_ ?_ ?_
 ·exact j.sp 6 [4,5,0,3]
 ·rintro hm ab _ w ⟨O,rfl,j⟩
  refine RC.sr (ic ((p0.length:Int)) ((p0.length:Int)) (RL.nq (RC.cN lS (RC.ex ?_))))
  exact⟨rfl,j.sp 4 [0,1,2,3]⟩
 ·rintro hm av ab s' _ w hk ⟨O,rfl,j⟩ o
  refine RC.sr (ic ((av:Int)) ((p0.length:Int)) (RL.nq (RC.cM (lR hk) (RC.ss (RC.bs ?_)))))
  obtain⟨a4,bq,o⟩:=bd o
  refine RL.cC 3 j kH bq fun cu j=>(RL.bV 0 a4 j fK fun cw j=>(RL.alloc j mI.z fun ax w j=>?_))
  refine RL.bA 0 j 1 zr fK fun w j=>?_
  refine RL.ns (mv v1 (RL.bD 3 p1 j oG (mv (vi 0) (RL.nt ?_))))
  obtain⟨aj,hN,o⟩:=bd o
  refine RC.fold (fun(az:Nat) (aj:pZ×Bool)=>SH E V [(1,v1),(4,vp ae 0),(5,vi ad),(11,vp ag 0),(12,vb aj.2),(14,vp ax 0),(50,v0),(51,vi p0.length),(52,vi av),(56,v1),(57,vi p1.length),(58,vi az)] [rd v1 p1,raw 136 ae 7,bx 136 ag aj.1,bx 74 ax a4,rd v0 p0]) (fun(aj:pZ×Bool)=>SH E V [(1,v1),(4,vp ae 0),(5,vi ad),(11,vp ag 0),(12,vb aj.2),(50,v0),(51,vi p0.length),(52,vi av)] [rd v1 p1,raw 136 ae 7,bx 136 ag aj.1,bx 74 ax a4,rd v0 p0]) hN ?_ ?_ ?_ ?_
  ·exact j.sp 7 [3,4,5,0,6]
  ·rintro hm aj _ w ⟨O,rfl,j⟩
   refine RC.sr (ic ((p1.length:Int)) ((p1.length:Int)) (RL.nq (RC.cN lS (RC.ex ?_))))
   exact⟨rfl,j.sp 5 [0,1,2,3,4]⟩
  ·rintro hm az aj s' _ w hk ⟨O,rfl,j⟩ o
   refine RC.sr (ic ((az:Int)) ((p1.length:Int)) (RL.nq (RC.cM (lR hk) (RC.ss (RC.bs ?_)))))
   obtain⟨br,bt,o⟩:=bd o
   refine RL.cC 0 j kH bt fun cx j=>(RL.bV 0 br j fK fun cy j=>(RL.alloc j mI.z fun cz w j=>?_))
   refine RL.bA 0 j 1 zr fK fun w j=>?_
   refine RL.ns (RL.aP (f:=(fun x=>x)) 6 j zr Fd.self fK fun bu j=>(RL.aP (f:=(fun x=>x)) 1 j zr Fd.self fK fun bw j=>(mv (vi ad) ?_)))
   obtain⟨bz,b0,o⟩:=bd o
   refine RL.call zt zr Kr [bu,bw,(vi ad)] zr (aF (tc N (p2:=ad) (i0:=1) (i1:=0) j zr zr b0) ?_)
   rintro c0 w j
   refine RL.alloc j IQ.z fun bb w j=>?_
   refine RL.bA 0 j 1 zr sK fun w j=>?_
   refine RL.nq ?_
   obtain⟨a9,hj,o⟩:=bd o
   refine RC.jn (fun(a9:Bool)=>SH E V [(1,v1),(4,vp ae 0),(5,vi ad),(11,vp ag 0),(12,vb aj.2),(14,vp ax 0),(17,vp bb 0),(50,v0),(51,vi p0.length),(52,vi av),(56,v1),(57,vi p1.length),(58,vi az),(80,vb a9)] [rd v1 p1,raw 136 ae 7,bx 136 ag aj.1,bx 74 ax a4,bx 76 bb bz,rd v0 p0]) a9 ?_ ?_
   ·refine RC.region (RL.aP (f:=(fun x=>x)) 10 j zr Fd.self fK fun b1 j=>(RL.aP (f:=(fun x=>x)) 5 j zr Fd.self fK fun b2 j=>?_))
    obtain⟨bc,b3,hj⟩:=bd hj
    refine RL.call zt zr Hi [b1,b2] zr (aF (nJ N (i0:=1) (i1:=0) j zr zr b3) ?_)
    rintro _ w ⟨rfl,j⟩
    refine mv (vi ad) (ic bc ad (mv (vb (bc==ad)) (fM hj (fun ak hj=>?_) fun ak hj=>?_)))
    rotate_left
    ·refine bO ak (bO ak (bO ak (yE (yE (yE (yE (bO ak (fJ ak (vb false) ?_))))))))
     refine RL.nil ?_
     obtain rfl:=oi hj
     exact⟨rfl,j.sp 14 [9,10,11,12,2,13]⟩
    refine RL.move (vb aj.2) (cg ak) (RL.not (hg:=(cg ak)) aj.2 (RL.move (vb (!aj.2)) (cg ak) (fM hj (fun ao hj=>?_) fun ao hj=>?_)))
    ·refine bO ao (bO ao (bO ao (bO ao (fJ ao (vb true) (hg:=(cg ak)) (fJ ak (vb true) (RL.nil ?_))))))
     obtain rfl:=oi hj
     exact⟨rfl,j.sp 14 [9,10,11,12,2,13]⟩
    refine RL.aP (hg:=(cg ao)) (f:=(fun x=>x)) 2 j zr Fd.self sK fun b4 j=>(RL.aZ (hg:=(cg ao)) zr sq (RL.aP (hg:=(cg ao)) 12 j zr rj sK fun b5 j=>?_))
    obtain⟨bf,b6,hj⟩:=bd hj
    refine RL.call (cg ao) zr Ks [b4,b5] zr (aF (te N (i0:=1) (i1:=0) j zr zr b6) ?_)
    rintro _ w ⟨rfl,j⟩
    refine fJ ao (vb bf) (hg:=(cg ak)) (fJ ak (vb bf) (RL.nil ?_))
    obtain rfl:=oi hj
    exact⟨rfl,j.sp 16 [11,12,13,14,4,15]⟩
   rintro _ w ⟨O,rfl,j⟩
   refine aG ?_
   obtain⟨a6,hj,o⟩:=bd o
   refine RC.jn (fun(a6:pZ×Bool)=>SH E V [(1,v1),(4,vp ae 0),(5,vi ad),(11,vp ag 0),(12,vb a6.2),(14,vp ax 0),(50,v0),(51,vi p0.length),(52,vi av),(56,v1),(57,vi p1.length),(58,vi az)] [rd v1 p1,raw 136 ae 7,bx 136 ag a6.1,bx 74 ax a4,rd v0 p0]) a6 ?_ ?_
   ·refine eQ hj (fun hc hj=>?_) fun hc hj=>?_
    rotate_left
    ·refine RC.skip ?_
     obtain rfl:=oi hj
     exact⟨rfl,j.sp 6 [0,1,2,3,5]⟩
    refine RC.region (RL.aP (f:=(fun x=>x)) 4 j zr Fd.self sK fun c1 j=>(RL.aZ zr sq (RL.tZ 3 j zr zr zr 0 zr Fy sK fun w j=>?_)))
    refine aK (vb true) (RL.nil ?_)
    obtain rfl:=oi hj
    exact⟨rfl,j.sp 7 [1,2,3,4,6]⟩
   rintro _ w ⟨O,rfl,j⟩
   refine bK (aG (RC.region (RL.inc hk hm (mv (vi ((az+1:Nat):Int)) (RL.nil ?_)))))
   obtain rfl:=oi o
   exact⟨rfl,j.sp 5 [0,1,2,3,4]⟩
  rintro _ w ⟨O,rfl,j⟩
  refine bK (aG (RC.region (RL.inc hk hm (mv (vi ((av+1:Nat):Int)) (RL.nil ?_)))))
  obtain rfl:=oi o
  exact⟨rfl,j.sp 5 [0,1,2,4]⟩
 rintro _ w ⟨O,rfl,j⟩
 refine aG (RC.sr (RL.aZ zr sq (RL.aZ zr rm (RL.aM (f:=(fun x=>x.bU.X)) 2 j zr (Fd.comp (f:=fun(x:pZ)=>x.bU) (fun(x:eV)=>x.X) rj kF) cQ (RL.aZ zr sq (RL.aZ zr o7 (RL.aM (f:=(fun x=>x.bU.Y)) 2 j zr (Fd.comp (f:=fun(x:pZ)=>x.bU) (fun(x:eV)=>x.Y) rj jw) cQ (RL.aZ zr sq ?_))))))))
 refine RL.aZ zr rm (RL.aM (f:=(fun x=>x.bU.X)) 2 j zr (Fd.comp (f:=fun(x:pZ)=>x.bU) (fun(x:eV)=>x.X) rj kF) cQ (RL.jA ab.1.bU.X 1 (RL.aZ zr sq (RL.aZ zr o7 (RL.aM (f:=(fun x=>x.bU.Y)) 2 j zr (Fd.comp (f:=fun(x:pZ)=>x.bU) (fun(x:eV)=>x.Y) rj jw) cQ (RL.jA ab.1.bU.Y 1 ?_))))))
 have j:=(((j.sc Int ab.1.bU.X).sc Int ab.1.bU.Y).sc Int (IntKind.wrap .i64 (ab.1.bU.X+1))).sc Int (IntKind.wrap .i64 (ab.1.bU.Y+1))
 refine RL.build (⟨ab.1.bU.X,ab.1.bU.Y,(IntKind.wrap .i64 (ab.1.bU.X+1)),(IntKind.wrap .i64 (ab.1.bU.Y+1))⟩:aI) trivial rfl j [(0,vi ab.1.bU.X),(1,vi ab.1.bU.Y),(2,(vi (IntKind.wrap .i64 (ab.1.bU.X+1)))),(3,(vi (IntKind.wrap .i64 (ab.1.bU.Y+1))))] rfl CL rfl (fun M hs g=>by have h:=rk M;exact cO.cons (f:=fun(x:aI) y=>{x with X0:=y}) h pz (g.sat 3 _ rfl).1 fun _ h=>cO.cons (f:=fun(x:aI) y=>{x with Y0:=y}) h sd (g.sat 2 _ rfl).1 fun _ h=>cO.cons (f:=fun(x:aI) y=>{x with X1:=y}) h nO (g.sat 1 _ rfl).1 fun _ h=>cO.cons (f:=fun(x:aI) y=>{x with Y1:=y}) h pA (g.sat 0 _ rfl).1 fun _ h=>cO.nil h) fun c2 j=>?_
 refine RL.alloc j mI.z fun ay w j=>?_
 refine RL.bA 0 j 1 zr fK fun w j=>?_
 refine RL.ns (aK (vb false) (RL.nq (RC.sr (mv v1 (RL.bD 6 p1 j oG (mv (vi 0) (RL.nt ?_)))))))
 obtain⟨an,hN,o⟩:=bd o
 refine RC.fold (fun(a0:Nat) (an:pZ×Bool)=>SH E V [(4,vp ae 0),(5,vi ad),(11,vp ag 0),(12,vb an.2),(18,vp ay 0),(100,v1),(101,vi p1.length),(102,vi a0)] [raw 136 ae 7,bx 136 ag an.1,bx 74 ay (⟨ab.1.bU.X,ab.1.bU.Y,(IntKind.wrap .i64 (ab.1.bU.X+1)),(IntKind.wrap .i64 (ab.1.bU.Y+1))⟩:aI),rd v1 p1]) (fun(an:pZ×Bool)=>SH E V [(4,vp ae 0),(11,vp ag 0)] [raw 136 ae 7,bx 136 ag an.1,bx 74 ay (⟨ab.1.bU.X,ab.1.bU.Y,(IntKind.wrap .i64 (ab.1.bU.X+1)),(IntKind.wrap .i64 (ab.1.bU.Y+1))⟩:aI),rd v1 p1]) hN ?_ ?_ ?_ ?_
 ·exact j.sp 10 [7,8,0,6]
 ·rintro hm an _ w ⟨O,rfl,j⟩
  refine RC.sr (ic ((p1.length:Int)) ((p1.length:Int)) (RL.nq (RC.cN lS (RC.ex ?_))))
  exact⟨rfl,j.sp 4 [0,1,2,3]⟩
 ·rintro hm a0 an s' _ w hk ⟨O,rfl,j⟩ o
  refine RC.sr (ic ((a0:Int)) ((p1.length:Int)) (RL.nq (RC.cM (lR hk) (RC.ss (RC.bs ?_)))))
  obtain⟨b7,b8,o⟩:=bd o
  refine RL.cC 3 j kH b8 fun c3 j=>(RL.bV 0 b7 j fK fun c4 j=>(RL.alloc j mI.z fun c5 w j=>?_))
  refine RL.bA 0 j 1 zr fK fun w j=>?_
  refine RL.ns (RL.aP (f:=(fun x=>x)) 0 j zr Fd.self fK fun b9 j=>(RL.aP (f:=(fun x=>x)) 6 j zr Fd.self fK fun ca j=>(mv (vi ad) ?_)))
  obtain⟨cb,cc,o⟩:=bd o
  refine RL.call zt zr Kr [b9,ca,(vi ad)] zr (aF (tc N (p2:=ad) (i0:=1) (i1:=0) j zr zr cc) ?_)
  rintro c6 w j
  refine RL.alloc j IQ.z fun bg w j=>?_
  refine RL.bA 0 j 1 zr sK fun w j=>?_
  refine RL.nq ?_
  obtain⟨ba,hj,o⟩:=bd o
  refine RC.jn (fun(ba:Bool)=>SH E V [(4,vp ae 0),(5,vi ad),(11,vp ag 0),(12,vb an.2),(18,vp ay 0),(21,vp bg 0),(100,v1),(101,vi p1.length),(102,vi a0),(124,vb ba)] [raw 136 ae 7,bx 136 ag an.1,bx 74 ay (⟨ab.1.bU.X,ab.1.bU.Y,(IntKind.wrap .i64 (ab.1.bU.X+1)),(IntKind.wrap .i64 (ab.1.bU.Y+1))⟩:aI),bx 76 bg cb,rd v1 p1]) ba ?_ ?_
  ·refine RC.region (RL.aP (f:=(fun x=>x)) 4 j zr Fd.self fK fun cd j=>(RL.aP (f:=(fun x=>x)) 10 j zr Fd.self fK fun cf j=>?_))
   obtain⟨bh,ch,hj⟩:=bd hj
   refine RL.call zt zr Hi [cd,cf] zr (aF (nJ N (i0:=1) (i1:=0) j zr zr ch) ?_)
   rintro _ w ⟨rfl,j⟩
   refine mv (vi ad) (ic bh ad (mv (vb (bh==ad)) (fM hj (fun al hj=>?_) fun al hj=>?_)))
   rotate_left
   ·refine bO al (bO al (bO al (yE (yE (yE (yE (bO al (fJ al (vb false) ?_))))))))
    refine RL.nil ?_
    obtain rfl:=oi hj
    exact⟨rfl,j.sp 13 [9,10,11,2,12]⟩
   refine RL.move (vb an.2) (cg al) (RL.not (hg:=(cg al)) an.2 (RL.move (vb (!an.2)) (cg al) (fM hj (fun aq hj=>?_) fun aq hj=>?_)))
   ·refine bO aq (bO aq (bO aq (bO aq (fJ aq (vb true) (hg:=(cg al)) (fJ al (vb true) (RL.nil ?_))))))
    obtain rfl:=oi hj
    exact⟨rfl,j.sp 13 [9,10,11,2,12]⟩
   refine RL.aP (hg:=(cg aq)) (f:=(fun x=>x)) 2 j zr Fd.self sK fun cj j=>(RL.aZ (hg:=(cg aq)) zr DE (RL.aP (hg:=(cg aq)) 11 j zr Fz sK fun ck j=>?_))
   obtain⟨bj,cl,hj⟩:=bd hj
   refine RL.call (cg aq) zr Ks [cj,ck] zr (aF (te N (i0:=1) (i1:=0) j zr zr cl) ?_)
   rintro _ w ⟨rfl,j⟩
   refine fJ aq (vb bj) (hg:=(cg al)) (fJ al (vb bj) (RL.nil ?_))
   obtain rfl:=oi hj
   exact⟨rfl,j.sp 15 [11,12,13,4,14]⟩
  rintro _ w ⟨O,rfl,j⟩
  refine aG ?_
  obtain⟨a7,hj,o⟩:=bd o
  refine RC.jn (fun(a7:pZ×Bool)=>SH E V [(4,vp ae 0),(5,vi ad),(11,vp ag 0),(12,vb a7.2),(18,vp ay 0),(100,v1),(101,vi p1.length),(102,vi a0)] [raw 136 ae 7,bx 136 ag a7.1,bx 74 ay (⟨ab.1.bU.X,ab.1.bU.Y,(IntKind.wrap .i64 (ab.1.bU.X+1)),(IntKind.wrap .i64 (ab.1.bU.Y+1))⟩:aI),rd v1 p1]) a7 ?_ ?_
  ·refine eQ hj (fun hc hj=>?_) fun hc hj=>?_
   rotate_left
   ·refine RC.skip ?_
    obtain rfl:=oi hj
    exact⟨rfl,j.sp 5 [0,1,2,4]⟩
   refine RC.region (RL.aP (f:=(fun x=>x)) 3 j zr Fd.self sK fun c7 j=>(RL.aZ zr DE (RL.tZ 2 j zr zr zr 0 zr FA sK fun w j=>?_)))
   refine aK (vb true) (RL.nil ?_)
   obtain rfl:=oi hj
   exact⟨rfl,j.sp 6 [1,2,3,5]⟩
  rintro _ w ⟨O,rfl,j⟩
  refine bK (aG (RC.region (RL.inc hk hm (mv (vi ((a0+1:Nat):Int)) (RL.nil ?_)))))
  obtain rfl:=oi o
  exact⟨rfl,j.sp 4 [0,1,2,3]⟩
 rintro _ w ⟨O,rfl,j⟩
 refine aG (RC.sr (RL.aP (f:=(fun x=>x)) 1 j zr Fd.self DD fun c8 j=>(RL.bA 1 j 0 zr DD fun w j=>?_)))
 refine RL.nt (RC.ret ?_)
 obtain rfl:=oi o
 exact E6 1 zr j zr zr DD fun c9 j=>(j.pk 6 [0])
def xT (E:World) (V:List HP) (b0:Nat) (v0_0 v0_1:Value) (v0_2 v0_3:Value) (v0_4 v0_5:Value) (v0_6 v0_7:Value) (v0_8 v0_9:Value) (v0_10 v0_11:Value) (res: (List aT)×Int) (v:Value) (w:World):Prop:=∃u0:Value,v = .tuple #[u0,(vi res.2)]/\Holds E w ([own 43 u0 res.1,bc 126 b0 [v0_0,v0_1,v0_2,v0_3,v0_4,v0_5,v0_6,v0_7,v0_8,v0_9,v0_10,v0_11]]++V)
theorem nk {p0_0: (List (List aI))} {p0_1: (List aI)} {p0_2: (List bW)} {p0_3: (List cU)} {p0_4: (List (List aA))} {p0_5: (List aH)} {p0_6: (List (List Int))} {p0_7: (List cI)} {p0_8: (List Int)} {p0_9: (List Int)} {p0_10: (List Int)} {p0_11: (List dQ)} {res: (List aT)×Int} (j:Holds E w (bc 126 b0 [v0_0,v0_1,v0_2,v0_3,v0_4,v0_5,v0_6,v0_7,v0_8,v0_9,v0_10,v0_11]::rd v0_0 p0_0::rd v0_1 p0_1::rd v0_2 p0_2::rd v0_3 p0_3::rd v0_4 p0_4::rd v0_5 p0_5::rd v0_6 p0_6::rd v0_7 p0_7::rd v0_8 p0_8::rd v0_9 p0_9::rd v0_10 p0_10::rd v0_11 p0_11::V)) (o:jW N p0_0 p0_1 p0_2 p0_3 p0_4 p0_5 p0_6 p0_7 p0_8 p0_9 p0_10 p0_11 p1=some res):
    Calls bF 27 [(vp b0 0),(vi p1)].toArray w (gI (xT E V b0 v0_0 v0_1 v0_2 v0_3 v0_4 v0_5 v0_6 v0_7 v0_8 v0_9 v0_10 v0_11 res)):=by
 unfold jW at o
 refine enter Tryz.func27 zr zr (RC.sr (RL.Fa (vp b0 0) zt zr j zr zr fun ad w j=>?_))
 refine aK (.slice none 0 0) (aK (vi 0) (RL.nq (RC.sr (mv (vi p1) ?_))))
 obtain⟨bl,bm,o⟩:=bd o
 refine RL.call zt zr IP [(vi p1),(vi 0),(vi 100000)] zr (aF (nj N (p0:=p1) (p1:=0) (p2:=100000) j bm) ?_)
 rintro _ w ⟨rfl,j⟩
 refine RL.not bl (RL.nt (eQ o (fun hc o=>?_) fun hc o=>?_))
 ·refine RC.sr (aK (.slice none 0 0) (aK (vi 1) (RL.nt (RC.rt ?_))))
  obtain rfl:=oi o
  have j:=j.cH aT 43
  exact i5 ⟨(.slice none 0 0),zr,j.pk 15 [0,2]⟩
 refine RC.sx (RL.pw j LR fun aa w j=>?_)
 refine RL.ns (RL.makeFunc [(vp ad 0),(vp aa 0)] (aK (.func (.func 54) #[] #[(vp ad 0),(vp aa 0)]) (RL.nq (RC.sr (RL.aY 1 (vp b0 0) j wM (RL.nilCheck zr (RL.aZ zr sm (RL.aY 2 v0_8 j fH ?_))))))))
 refine RL.bD 11 p0_8 j lM (mv (vi 0) (RL.nt ?_))
 obtain⟨ax,hN,o⟩:=bd o
 refine RC.fold (fun(ai:Nat) (ax: (List aT)) U w=>∃bb:Value,SH E V [(0,vp b0 0),(1,vi p1),(2,vp ad 0),(6,vp aa 0),(7,(.func (.func 54) #[] #[(vp ad 0),(vp aa 0)])),(22,v0_8),(23,vi p0_8.length),(24,vi ai)] [bc 126 b0 [v0_0,v0_1,v0_2,v0_3,v0_4,v0_5,v0_6,v0_7,v0_8,v0_9,v0_10,v0_11],rd v0_0 p0_0,rd v0_1 p0_1,rd v0_2 p0_2,rd v0_3 p0_3,rd v0_4 p0_4,rd v0_5 p0_5,rd v0_6 p0_6,rd v0_7 p0_7,rd v0_8 p0_8,rd v0_9 p0_9,rd v0_10 p0_10,rd v0_11 p0_11,bc 68 ad [(vp b0 0)],bc 29 aa [bb],own 43 bb ax] U w) (fun(ax: (List aT)) U w=>∃a1:Value,SH E V [(0,vp b0 0),(1,vi p1),(2,vp ad 0),(6,vp aa 0),(7,(.func (.func 54) #[] #[(vp ad 0),(vp aa 0)]))] [bc 126 b0 [v0_0,v0_1,v0_2,v0_3,v0_4,v0_5,v0_6,v0_7,v0_8,v0_9,v0_10,v0_11],rd v0_0 p0_0,rd v0_1 p0_1,rd v0_2 p0_2,rd v0_3 p0_3,rd v0_4 p0_4,rd v0_5 p0_5,rd v0_6 p0_6,rd v0_7 p0_7,rd v0_8 p0_8,rd v0_9 p0_9,rd v0_10 p0_10,rd v0_11 p0_11,bc 68 ad [(vp b0 0)],bc 29 aa [a1],own 43 a1 ax] U w) hN ?_ ?_ ?_ ?_
 ·have j:=j.cH aT 43
  exact⟨(.slice none 0 0),j.sp 16 [3,4,5,6,7,8,9,10,11,12,13,14,15,2,1,0]⟩
 ·rintro hm ax _ w ⟨bn,O,rfl,j⟩
  refine RC.sr (ic ((p0_8.length:Int)) ((p0_8.length:Int)) (RL.nq (RC.cN lS (RC.ex ?_))))
  exact⟨rfl,bn,j.sp 16 [0,1,2,3,4,5,6,7,8,9,10,11,12,13,14,15]⟩
 ·rintro hm ai ax s' _ w hk ⟨ch,O,rfl,j⟩ o
  refine RC.sr (ic ((ai:Int)) ((p0_8.length:Int)) (RL.nq (RC.cM (lR hk) (RC.ss (RC.bs (mv (vi ai) ?_))))))
  obtain⟨az,bo,o⟩:=bd o
  refine RL.cC 9 j eJ bo fun cj j=>(RL.bI az 0 j cQ (aK (vi ai) (aK (vi az) (RL.nt (RC.region (mv (.func (.func 54) #[] #[(vp ad 0),(vp aa 0)]) (mv (vi ai) ?_)))))))
  have j:=j.sc Int (ai:Int)
  refine RL.build (⟨false,(ai:Int)⟩:dQ) trivial rfl j [(1,vi ai)] rfl Eo rfl (fun M hs g=>by have h:=xF M;exact cO.cons (f:=fun(x:dQ) y=>{x with Number:=y}) h ux (g.sat 0 _ rfl).1 fun _ h=>cO.nil h) fun bp j=>?_
  refine mv (vi az) ?_
  have j:=((((j.dup 11 rfl).pull 4).pull 20).pull 20).pull 20
  obtain⟨ck,bq,o⟩:=bd o
  refine RL.oO [(vp ad 0),(vp aa 0)] Kp [bp,(vi az)] (aF (ot N (p1:=az) (i0:=0) j zr bq) ?_)
  rintro _ w ⟨br,rfl,j⟩
  refine RL.nil (bK (aG (RC.region (RL.inc hk hm (mv (vi ((ai+1:Nat):Int)) (RL.nil ?_))))))
  obtain rfl:=oi o
  exact⟨rfl,br,j.sp 23 [3,8,9,10,11,12,13,14,15,16,17,18,19,0,1,2]⟩
 rintro _ w ⟨a1,O,rfl,j⟩
 refine aG (RC.seq (RC.sr (RL.aY 13 (vp b0 0) j wM (RL.nilCheck zr (RL.aZ zr uC (RL.aY 0 v0_9 j fH (RL.bD 10 p0_9 j lM (mv (vi 0) ?_))))))))
 refine RL.nt ?_
 obtain⟨ay,hN,o⟩:=bd o
 refine RC.fold (fun(aj:Nat) (ay: (List aT)) U w=>∃bf:Value,SH E V [(0,vp b0 0),(1,vi p1),(2,vp ad 0),(6,vp aa 0),(7,(.func (.func 54) #[] #[(vp ad 0),(vp aa 0)])),(38,v0_9),(39,vi p0_9.length),(40,vi aj)] [bc 126 b0 [v0_0,v0_1,v0_2,v0_3,v0_4,v0_5,v0_6,v0_7,v0_8,v0_9,v0_10,v0_11],rd v0_0 p0_0,rd v0_1 p0_1,rd v0_2 p0_2,rd v0_3 p0_3,rd v0_4 p0_4,rd v0_5 p0_5,rd v0_6 p0_6,rd v0_7 p0_7,rd v0_8 p0_8,rd v0_9 p0_9,rd v0_10 p0_10,rd v0_11 p0_11,bc 68 ad [(vp b0 0)],bc 29 aa [bf],own 43 bf ay] U w) (fun(ay: (List aT)) U w=>∃a2:Value,SH E V [(0,vp b0 0),(1,vi p1),(2,vp ad 0),(6,vp aa 0)] [bc 126 b0 [v0_0,v0_1,v0_2,v0_3,v0_4,v0_5,v0_6,v0_7,v0_8,v0_9,v0_10,v0_11],rd v0_0 p0_0,rd v0_1 p0_1,rd v0_2 p0_2,rd v0_3 p0_3,rd v0_4 p0_4,rd v0_5 p0_5,rd v0_6 p0_6,rd v0_7 p0_7,rd v0_8 p0_8,rd v0_9 p0_9,rd v0_10 p0_10,rd v0_11 p0_11,bc 68 ad [(vp b0 0)],bc 29 aa [a2],own 43 a2 ay] U w) hN ?_ ?_ ?_ ?_
 ·exact⟨a1,j.sp 16 [0,1,2,3,4,5,6,7,8,9,10,11,12,13,14,15]⟩
 ·rintro hm ay _ w ⟨bt,O,rfl,j⟩
  refine RC.sr (ic ((p0_9.length:Int)) ((p0_9.length:Int)) (RL.nq (RC.cN lS (RC.ex ?_))))
  exact⟨rfl,bt,j.sp 16 [0,1,2,3,4,5,6,7,8,9,10,11,12,13,14,15]⟩
 ·rintro hm aj ay s' _ w hk ⟨cl,O,rfl,j⟩ o
  refine RC.sr (ic ((aj:Int)) ((p0_9.length:Int)) (RL.nq (RC.cM (lR hk) (RC.ss (RC.bs (mv (vi aj) ?_))))))
  obtain⟨a0,bu,o⟩:=bd o
  refine RL.cC 10 j eJ bu fun cm j=>(RL.bI a0 0 j cQ (aK (vi aj) (aK (vi a0) (RL.nt (RC.region (mv (.func (.func 54) #[] #[(vp ad 0),(vp aa 0)]) (mv (vi aj) ?_)))))))
  have j:=(j.sc Bool true).sc Int (aj:Int)
  refine RL.build (⟨true,(aj:Int)⟩:dQ) trivial rfl j [(0,vb true),(1,vi aj)] rfl Eo rfl (fun M hs g=>by have h:=xF M;exact cO.cons (f:=fun(x:dQ) y=>{x with bW:=y}) h BE (g.sat 1 _ rfl).1 fun _ h=>cO.cons (f:=fun(x:dQ) y=>{x with Number:=y}) h ux (g.sat 0 _ rfl).1 fun _ h=>cO.nil h) fun bw j=>?_
  refine mv (vi a0) ?_
  have j:=((((j.dup 12 rfl).pull 5).pull 21).pull 21).pull 21
  obtain⟨cn,bz,o⟩:=bd o
  refine RL.oO [(vp ad 0),(vp aa 0)] Kp [bw,(vi a0)] (aF (ot N (p1:=a0) (i0:=0) j zr bz) ?_)
  rintro _ w ⟨b1,rfl,j⟩
  refine RL.nil (bK (aG (RC.region (RL.inc hk hm (mv (vi ((aj+1:Nat):Int)) (RL.nil ?_))))))
  obtain rfl:=oi o
  exact⟨rfl,b1,j.sp 24 [3,9,10,11,12,13,14,15,16,17,18,19,20,0,1,2]⟩
 rintro _ w ⟨a2,O,rfl,j⟩
 refine aG (RC.seq (RC.sr (RL.aY 13 (vp b0 0) j wM (RL.nilCheck zr (RL.aZ zr lI (RL.aY 0 v0_5 j qJ (RL.bD 6 p0_5 j wo (mv (vi 0) ?_))))))))
 refine RL.nt ?_
 obtain⟨ao,hN,o⟩:=bd o
 refine RC.fold (fun(ah:Nat) (ao: (List aT)) U w=>∃bg:Value,SH E V [(0,vp b0 0),(1,vi p1),(2,vp ad 0),(6,vp aa 0),(54,v0_5),(55,vi p0_5.length),(56,vi ah)] [bc 126 b0 [v0_0,v0_1,v0_2,v0_3,v0_4,v0_5,v0_6,v0_7,v0_8,v0_9,v0_10,v0_11],rd v0_0 p0_0,rd v0_1 p0_1,rd v0_2 p0_2,rd v0_3 p0_3,rd v0_4 p0_4,rd v0_5 p0_5,rd v0_6 p0_6,rd v0_7 p0_7,rd v0_8 p0_8,rd v0_9 p0_9,rd v0_10 p0_10,rd v0_11 p0_11,bc 68 ad [(vp b0 0)],bc 29 aa [bg],own 43 bg ao] U w) (fun(ao: (List aT)) U w=>∃av:Value,SH E V [(0,vp b0 0),(6,vp aa 0)] [bc 126 b0 [v0_0,v0_1,v0_2,v0_3,v0_4,v0_5,v0_6,v0_7,v0_8,v0_9,v0_10,v0_11],rd v0_0 p0_0,rd v0_1 p0_1,rd v0_2 p0_2,rd v0_3 p0_3,rd v0_4 p0_4,rd v0_5 p0_5,rd v0_6 p0_6,rd v0_7 p0_7,rd v0_8 p0_8,rd v0_9 p0_9,rd v0_10 p0_10,rd v0_11 p0_11,bc 68 ad [(vp b0 0)],bc 29 aa [av],own 43 av ao] U w) hN ?_ ?_ ?_ ?_
 ·exact⟨a2,j.sp 16 [0,1,2,3,4,5,6,7,8,9,10,11,12,13,14,15]⟩
 ·rintro hm ao _ w ⟨b2,O,rfl,j⟩
  refine RC.sr (ic ((p0_5.length:Int)) ((p0_5.length:Int)) (RL.nq (RC.cN lS (RC.ex ?_))))
  exact⟨rfl,b2,j.sp 16 [0,1,2,3,4,5,6,7,8,9,10,11,12,13,14,15]⟩
 ·rintro hm ah ao s' _ w hk ⟨b3,O,rfl,j⟩ o
  refine RC.sr (ic ((ah:Int)) ((p0_5.length:Int)) (RL.nq (RC.cM (lR hk) (RC.ss (RC.bs (mv (vi ah) ?_))))))
  obtain⟨aq,b4,o⟩:=bd o
  refine RL.cC 6 j zu b4 fun cp j=>(RL.bV 0 aq j zv fun cq j=>(RL.alloc j Dz.z fun ak w j=>?_))
  refine aK (vi ah) (RL.bA 0 j 1 zr zv fun w j=>?_)
  refine RL.ns (mv (vi ah) (RL.jA (ah:Int) 1 (aK (vi (IntKind.wrap .i64 ((ah:Int)+1))) (RL.nt ?_))))
  obtain⟨cr,hN,o⟩:=bd o
  refine RC.iter (fun(af: (List aT)×Int) U w=>∃bh:Value,SH E V [(0,vp b0 0),(1,vi p1),(2,vp ad 0),(6,vp aa 0),(12,vi ah),(13,vp ak 0),(14,vi af.2),(54,v0_5),(55,vi p0_5.length),(56,vi ah)] [bc 126 b0 [v0_0,v0_1,v0_2,v0_3,v0_4,v0_5,v0_6,v0_7,v0_8,v0_9,v0_10,v0_11],rd v0_0 p0_0,rd v0_1 p0_1,rd v0_2 p0_2,rd v0_3 p0_3,rd v0_4 p0_4,rd v0_5 p0_5,rd v0_6 p0_6,rd v0_7 p0_7,rd v0_8 p0_8,rd v0_9 p0_9,rd v0_10 p0_10,rd v0_11 p0_11,bc 68 ad [(vp b0 0)],bc 29 aa [bh],own 43 bh af.1,bx 134 ak aq] U w) (fun(af: (List aT)×Int) U w=>∃a3:Value,SH E V [(0,vp b0 0),(1,vi p1),(2,vp ad 0),(6,vp aa 0),(54,v0_5),(55,vi p0_5.length),(56,vi ah)] [bc 126 b0 [v0_0,v0_1,v0_2,v0_3,v0_4,v0_5,v0_6,v0_7,v0_8,v0_9,v0_10,v0_11],rd v0_0 p0_0,rd v0_1 p0_1,rd v0_2 p0_2,rd v0_3 p0_3,rd v0_4 p0_4,rd v0_5 p0_5,rd v0_6 p0_6,rd v0_7 p0_7,rd v0_8 p0_8,rd v0_9 p0_9,rd v0_10 p0_10,rd v0_11 p0_11,bc 68 ad [(vp b0 0)],bc 29 aa [a3],own 43 a3 af.1,bx 134 ak aq] U w) (fun(r:Empty) _ _=>r.elim) hN ?_ ?_ ?_ ?_
  ·exact⟨b3,j.sp 19 [3,4,5,6,7,8,9,10,11,12,13,14,15,16,17,18,0]⟩
  ·rintro af fl _ w ⟨aw,O,rfl,j⟩ o
   refine RC.seq (RC.seq ?_)
   obtain⟨a5,hj,o⟩:=bd o
   refine RC.jn (fun(a5:Bool)=>SH E V [(0,vp b0 0),(1,vi p1),(2,vp ad 0),(6,vp aa 0),(12,vi ah),(13,vp ak 0),(14,vi af.2),(54,v0_5),(55,vi p0_5.length),(56,vi ah),(82,vb a5)] [bc 126 b0 [v0_0,v0_1,v0_2,v0_3,v0_4,v0_5,v0_6,v0_7,v0_8,v0_9,v0_10,v0_11],rd v0_0 p0_0,rd v0_1 p0_1,rd v0_2 p0_2,rd v0_3 p0_3,rd v0_4 p0_4,rd v0_5 p0_5,rd v0_6 p0_6,rd v0_7 p0_7,rd v0_8 p0_8,rd v0_9 p0_9,rd v0_10 p0_10,rd v0_11 p0_11,bc 68 ad [(vp b0 0)],bc 29 aa [aw],own 43 aw af.1,bx 134 ak aq]) a5 ?_ ?_
   ·refine RC.xv mixed ?_
    have j:=j.drew
    refine RO.go (mv (vi af.2) (RO.nx (RL.aY 13 (vp b0 0) j wM (RO.nx (RL.nilCheck zr (RO.nx (RL.aZ zr lI (RO.nx ?_))))))))
    refine RL.aY 0 v0_5 j qJ (RO.nx (RL.bD 6 p0_5 j wo (RO.nx (ic af.2 ((p0_5.length:Int)) (RO.nx (mv (vb (decide (af.2< (p0_5.length:Int)))) (fM hj (fun ag hj=>?_) fun ag hj=>?_)))))))
    rotate_left
    ·refine RO.nx (bO ag (RO.nx (bO ag (RO.nx (bO ag (RO.nx (bO ag (RO.nx ?_))))))))
     refine bO ag (RO.nx (bO ag (RO.nx (bO ag (RO.nx (bO ag (RO.nx (bO ag ?_))))))))
     refine RO.nx (bO ag (RO.nx (bO ag (RO.nx (fJ ag (vb false) (RO.last ?_))))))
     obtain rfl:=oi hj
     exact⟨rfl,j.sp 17 [0,1,2,3,4,5,6,7,8,9,10,11,12,13,14,15,16]⟩
    refine RO.nx (RL.aY (hg:=(cg ag)) 13 (vp b0 0) j wM (RO.nx (RL.nilCheck (hg:=(cg ag)) zr (RO.nx (RL.aZ (hg:=(cg ag)) zr lI (RO.nx (RL.aY (hg:=(cg ag)) 0 v0_5 j qJ (RO.nx ?_))))))))
    refine RL.move (vi af.2) (cg ag) (RO.nx ?_)
    obtain⟨a6,b5,hj⟩:=bd hj
    refine RL.cC (hg:=(cg ag)) 6 j zu b5 fun cu j=>(RO.nx (RL.iu (hg:=(cg ag)) 0 j zr w5 km fun cv j=>(RO.nx (RL.bI (hg:=(cg ag)) a6.cX 0 j cQ (RO.nx (RL.aZ (hg:=(cg ag)) zr w5 (RO.nx (RL.aM (hg:=(cg ag)) 18 j zr km cQ ?_))))))))
    refine RO.nx (RL.i7 a6.cX aq.cX (cg ag) (RO.nx (fJ ag (vb (a6.cX==aq.cX)) (RO.last ?_))))
    obtain rfl:=oi hj
    exact⟨rfl,j.sp 19 [2,3,4,5,6,7,8,9,10,11,12,13,14,15,16,17,18]⟩
   rintro _ w ⟨O,rfl,j⟩
   refine aG (eQ o (fun hc o=>?_) fun hc o=>?_)
   rotate_left
   ·refine RC.ex ?_
    obtain rfl:=oi o
    exact⟨rfl,aw,j.sp 17 [0,1,2,3,4,5,6,7,8,9,10,11,12,13,14,15,16]⟩
   refine RC.ss (RC.block (RC.seq ?_))
   obtain⟨a7,hj,o⟩:=bd o
   refine RC.jn (fun(a7:Bool)=>SH E V [(0,vp b0 0),(1,vi p1),(2,vp ad 0),(6,vp aa 0),(12,vi ah),(13,vp ak 0),(14,vi af.2),(54,v0_5),(55,vi p0_5.length),(56,vi ah),(115,vb a7)] [bc 126 b0 [v0_0,v0_1,v0_2,v0_3,v0_4,v0_5,v0_6,v0_7,v0_8,v0_9,v0_10,v0_11],rd v0_0 p0_0,rd v0_1 p0_1,rd v0_2 p0_2,rd v0_3 p0_3,rd v0_4 p0_4,rd v0_5 p0_5,rd v0_6 p0_6,rd v0_7 p0_7,rd v0_8 p0_8,rd v0_9 p0_9,rd v0_10 p0_10,rd v0_11 p0_11,bc 68 ad [(vp b0 0)],bc 29 aa [aw],own 43 aw af.1,bx 134 ak aq]) a7 ?_ ?_
   ·refine RC.yC mixed [0,0,0,0,0,0,0,0,0,0,0,0,0,0,0,0,0,0,0,0,0,0,0,0,0,0,2,0,1,0,0] [0,1,2,3,4,5,6,7,8,9,10,11,12,13,14,15,16,17,18,19,20,21,22,23,24,25,28,26,27,29,30] ?_
    have j:=j.drew
    refine DP.e0 zr (RL.aY 13 (vp b0 0) j wM (cB zr (RL.nilCheck zr (cB zr (RL.aZ zr sm (cB zr (RL.aY 0 v0_8 j fH (cB zr ?_))))))))
    refine mv (vi ah) (cB zr ?_)
    obtain⟨a8,b6,hj⟩:=bd hj
    refine RL.cC 9 j eJ b6 fun cw j=>(cB zr (RL.bI a8 0 j cQ (cB zr (RL.aY 14 (vp b0 0) j wM (cB zr (RL.nilCheck zr (cB zr (RL.aZ zr sm ?_))))))))
    refine cB zr (RL.aY 1 v0_8 j fH (cB zr (mv (vi af.2) (cB zr ?_))))
    obtain⟨a9,b7,hj⟩:=bd hj
    refine RL.cC 10 j eJ b7 fun cx j=>(cB zr (RL.bI a9 0 j cQ (cB zr (ic a8 a9 (cB zr (mv (vb (a8 != a9)) (DP.d0 (fM hj (fun ab hj=>?_) fun ab hj=>?_))))))))
    rotate_left
    ·refine DP.e0 zr (bO ab (cB zr (bO ab (cB zr (bO ab (cB zr (bO ab (cB zr ?_))))))))
     refine bO ab (cB zr (bO ab (cB zr (bO ab (cB zr (bO ab (cB zr (bO ab ?_))))))))
     refine cB zr (bO ab (DP.d0 (DP.e1 undef zr (fun w=>bO ab DP.d1) (DP.e2 zr (bO ab (yD zr (bO ab (cB zr ?_))))))))
     refine bO ab (cB zr (fJ ab (vb false) (DP.d0 (DP.z ?_))))
     obtain rfl:=oi hj
     exact⟨rfl,j.sp 19 [2,3,4,5,6,7,8,9,10,11,12,13,14,15,16,17,18]⟩
    refine DP.e0 zr (RL.aZ (hg:=(cg ab)) zr w6 (cB zr (RL.aP (hg:=(cg ab)) 18 j zr kn xH fun b8 j=>(cB zr (RL.aY (hg:=(cg ab)) 16 (vp b0 0) j wM (cB zr (RL.nilCheck (hg:=(cg ab)) zr (cB zr ?_))))))))
    refine RL.aZ (hg:=(cg ab)) zr lI (cB zr (RL.aY (hg:=(cg ab)) 3 v0_5 j qJ (cB zr (RL.move (vi af.2) (cg ab) (cB zr ?_)))))
    obtain⟨b9,ca,hj⟩:=bd hj
    refine RL.cC (hg:=(cg ab)) 9 j zu ca fun cy j=>(cB zr (RL.iu (hg:=(cg ab)) 0 j zr w6 kn fun cz j=>(cB zr (RL.bV (hg:=(cg ab)) 0 b9.iZ j xH fun cb j=>(DP.d0 (DP.e1 (vi p1) zr (fun w=>RL.move (vi p1) (cg ab) DP.d1) (DP.e2 zr ?_)))))))
    obtain⟨bj,cc,hj⟩:=bd hj
    refine RL.call (cg ab) zr LU [b8,cb] zr (aF (xS N (i0:=3) (i1:=0) j zr zr cc) ?_)
    rintro c0 w j
    refine yD zr (RL.D9 (i:=0) (f:=fun(x:pZ)=>x.iv) (cg ab) zr j zr zr zr Hl Fw cQ (cB zr (RL.i7 bj.iv p1 (cg ab) (cB zr (fJ ab (vb (decide (bj.iv<p1))) (DP.d0 (DP.z ?_)))))))
    obtain rfl:=oi hj
    exact⟨rfl,j.sp 24 [7,8,9,10,11,12,13,14,15,16,17,18,19,20,21,22,23]⟩
   rintro _ w ⟨O,rfl,j⟩
   refine aG ?_
   obtain⟨ba,hj,o⟩:=bd o
   refine RC.jn (fun(ba: (List aT)) U w=>∃a4:Value,SH E V [(0,vp b0 0),(1,vi p1),(2,vp ad 0),(6,vp aa 0),(12,vi ah),(13,vp ak 0),(14,vi af.2),(54,v0_5),(55,vi p0_5.length),(56,vi ah)] [bc 126 b0 [v0_0,v0_1,v0_2,v0_3,v0_4,v0_5,v0_6,v0_7,v0_8,v0_9,v0_10,v0_11],rd v0_0 p0_0,rd v0_1 p0_1,rd v0_2 p0_2,rd v0_3 p0_3,rd v0_4 p0_4,rd v0_5 p0_5,rd v0_6 p0_6,rd v0_7 p0_7,rd v0_8 p0_8,rd v0_9 p0_9,rd v0_10 p0_10,rd v0_11 p0_11,bc 68 ad [(vp b0 0)],bc 29 aa [a4],own 43 a4 ba,bx 134 ak aq] U w) ba ?_ ?_
   ·refine eQ hj (fun hc hj=>?_) fun hc hj=>?_
    rotate_left
    ·refine RC.skip ?_
     obtain rfl:=oi hj
     exact⟨rfl,aw,j.sp 17 [0,1,2,3,4,5,6,7,8,9,10,11,12,13,14,15,16]⟩
    refine RC.region (RL.aY 14 aw j yK (mv (vi ah) (mv (vi af.2) ?_)))
    have j:=(j.sc Int (ah:Int)).sc Int af.2
    refine RL.build (⟨false,⟨false,0⟩,(ah:Int),af.2⟩:aT) trivial rfl j [(2,vi ah),(3,vi af.2)] rfl Ko rfl (fun M hs g=>by have h:=CJ M;exact cO.cons (f:=fun(x:aT) y=>{x with A:=y}) h Ee (g.sat 1 _ rfl).1 fun _ h=>cO.cons (f:=fun(x:aT) y=>{x with B:=y}) h Ef (g.sat 0 _ rfl).1 fun _ h=>cO.nil h) fun cd j=>?_
    refine RL.dS ([(⟨false,⟨false,0⟩,(ah:Int),af.2⟩:aT)]: (List aT)) j [cd] uD wN (fun M hs g=>⟨(g.sat 0 _ zr).1,zt⟩) fun c1 w j=>?_
    have j:=j.freeze 0
    obtain⟨c2,cf,hj⟩:=bd hj
    refine RL.app 19 0 j FO cf fun bk w j=>?_
    refine RL.gV 18 bk j zr zr (iB 19 j) yK fun w j=>?_
    refine RL.nil ?_
    obtain rfl:=oi hj
    exact⟨rfl,bk,j.sp 21 [4,5,6,7,8,9,10,11,12,13,14,15,16,17,18,19,20]⟩
   rintro _ w ⟨a4,O,rfl,j⟩
   refine bK (aG (RC.region (mv (vi af.2) (RL.jA af.2 1 (aK (vi (IntKind.wrap .i64 (af.2+1))) (RL.nil ?_))))))
   obtain rfl:=oi o
   exact⟨rfl,a4,j.sp 17 [0,1,2,3,4,5,6,7,8,9,10,11,12,13,14,15,16]⟩
  ·intro r _ _ _ _
   exact r.elim
  rintro af _ w rfl ⟨a3,O,rfl,j⟩
  rw [Fo.gl] at o
  refine bK (aG (RC.region (RL.inc hk hm (mv (vi ((ah+1:Nat):Int)) (RL.nil ?_)))))
  obtain rfl:=oi o
  exact⟨rfl,a3,j.sp 17 [0,1,2,3,4,5,6,7,8,9,10,11,12,13,14,15]⟩
 rintro _ w ⟨av,O,rfl,j⟩
 refine aG (RC.seq (RC.sr (RL.aY 14 av j yK (RL.dY 15 ao j uE (ic ((ao.length:Int)) 20000 (RL.nt (eQ o (fun hc o=>?_) fun hc o=>?_)))))))
 ·refine RC.sr (aK (.slice none 0 0) (aK (vi 2) (RL.nt (RC.rt ?_))))
  obtain rfl:=oi o
  have j:=j.cH aT 43
  exact i5 ⟨(.slice none 0 0),zr,j.pk 17 [0,1]⟩
 refine RC.sx (RL.aY 14 av j yK (aK av (aK (vi 0) (RL.nt (RC.ret ?_)))))
 obtain rfl:=oi o
 exact i5 ⟨av,zr,j.pk 16 [15,0]⟩
def lO (E:World) (V:List HP) (res:Int×Bool) (v:Value) (w:World):Prop:=v = .tuple #[(vi res.1),(vb res.2)]/\Holds E w V
theorem lv {p0: (List cU)} {p1:fW} {p2:cU->fW->Option Int} {res:Int×Bool} (o:Holds E w V) (h0:V[i0]? =some (rd v0 p0)) (h1:V[i1]? =some (rd v1 p1)) (h2:It bF E V v2 p2 (fun(r:Int)=>Value.int .i64 r)) (hb:eU N p0 p1 p2=some res):
    Calls bF 91 [v0,v1,v2].toArray w (gI (lO E V res)):=by
 unfold eU at hb
 refine enter Tryz.func91 zr zr ?_
 have o:=(o.dup (i0+0) h0).dup (i1+1) h1
 refine RC.sr (RL.dB 0 v1 o zr fun ae w o=>?_)
 refine aK (vi 0) (aK (vb false) (RL.ns (mv v0 (RL.bD 2 p0 o FE (aK (vi p0.length) (RL.ns (mv (vi p0.length) (aK (vi 0) ?_))))))))
 refine aK (vi p0.length) (RL.nq ?_)
 obtain⟨av,hN,hb⟩:=bd hb
 refine RC.iter (fun(j:Int×Int)=>SH E V [(0,v0),(2,v2),(4,vp ae 0),(8,vi p0.length),(9,vi j.1),(10,vi j.2)] [rd v0 p0,bx 51 ae p1]) (fun(j:Int×Int)=>SH E V [(0,v0),(2,v2),(4,vp ae 0),(8,vi p0.length),(9,vi j.1)] [rd v0 p0,bx 51 ae p1]) (fun(r:Empty) _ _=>r.elim) hN ?_ ?_ ?_ ?_
 ·exact o.sp 3 [2,0]
 ·rintro j fl _ w ⟨O,rfl,o⟩ hb
  refine RC.seq (RC.sr (mv (vi j.1) (mv (vi j.2) (ic j.1 j.2 (RL.nt (eQ hb (fun hc hb=>?_) fun hc hb=>?_))))))
  rotate_left
  ·refine RC.ex ?_
   obtain rfl:=oi hb
   exact⟨rfl,o.sp 2 [0,1]⟩
  refine RC.sn (RC.bs (mv (vi j.1) (mv (vi j.2) (RL.jA j.1 j.2 (RL.conv (IntKind.wrap .i64 (j.1+j.2)) zt zr zr ⟨_,EZ⟩ Ia (RL.bin (v:=(.int .u64 (IntKind.wrap .u64 (IntKind.wrap .i64 (j.1+j.2))))) (v':=(.int .u64 1)) (u:=(.int .u64 (Int.fdiv (IntKind.wrap .u64 (IntKind.wrap .i64 (j.1+j.2))) 2))) zt zr zr zr (fun _=>zr) (fun _=>zr) (RL.conv (Int.fdiv (IntKind.wrap .u64 (IntKind.wrap .i64 (j.1+j.2))) 2) zt zr zr ⟨_,Ia⟩ EZ (aK (vi (IntKind.wrap .i64 (Int.fdiv (IntKind.wrap .u64 (IntKind.wrap .i64 (j.1+j.2))) 2))) ?_))))))))
  refine RL.nq (RC.yC mixed [0,0,0,0,0,0,2,0] [0,1,2,3,4,5,6,7] ?_)
  have o:=o.drew
  refine DP.e0 zr (mv v2 (cB zr (mv v0 (cB zr (mv (vi (IntKind.wrap .i64 (Int.fdiv (IntKind.wrap .u64 (IntKind.wrap .i64 (j.1+j.2))) 2))) (cB zr ?_))))))
  obtain⟨ak,al,hb⟩:=bd hb
  refine RL.cC 0 o El al fun ax o=>(cB zr (RL.bV 0 ak o xJ fun ay o=>(cB zr (RL.aP (f:=(fun x=>x)) 3 o zr Fd.self oH fun az o=>(um zr ?_)))))
  obtain⟨an,ao,hb⟩:=bd hb
  refine RL.Cz 1 0 zt zr o zr h2 5 zr zr zr zr zr ao fun w o=>(yD zr (ic an 0 (DP.d0 (DP.z (aG ?_)))))
  obtain⟨af,hj,hb⟩:=bd hb
  refine RC.jn (fun(af:Int×Int)=>SH E V [(0,v0),(2,v2),(4,vp ae 0),(8,vi p0.length),(9,vi af.1),(10,vi af.2)] [rd v0 p0,bx 51 ae p1]) af ?_ ?_
  ·refine eQ hj (fun hc hj=>?_) fun hc hj=>?_
   rotate_left
   ·refine RC.region (mv (vi (IntKind.wrap .i64 (Int.fdiv (IntKind.wrap .u64 (IntKind.wrap .i64 (j.1+j.2))) 2))) (aK (vi (IntKind.wrap .i64 (Int.fdiv (IntKind.wrap .u64 (IntKind.wrap .i64 (j.1+j.2))) 2))) (RL.nil ?_)))
    obtain rfl:=oi hj
    exact⟨rfl,o.sp 5 [3,4]⟩
   refine RC.region (mv (vi (IntKind.wrap .i64 (Int.fdiv (IntKind.wrap .u64 (IntKind.wrap .i64 (j.1+j.2))) 2))) (RL.jA (IntKind.wrap .i64 (Int.fdiv (IntKind.wrap .u64 (IntKind.wrap .i64 (j.1+j.2))) 2)) 1 (aK (vi (IntKind.wrap .i64 ((IntKind.wrap .i64 (Int.fdiv (IntKind.wrap .u64 (IntKind.wrap .i64 (j.1+j.2))) 2))+1))) (RL.nil ?_))))
   obtain rfl:=oi hj
   exact⟨rfl,o.sp 5 [3,4]⟩
  rintro _ w ⟨O,rfl,o⟩
  refine bK ?_
  obtain rfl:=oi hb
  exact⟨rfl,o.sp 2 [0,1]⟩
 ·intro r _ _ _ _
  exact r.elim
 rintro j _ w rfl ⟨O,rfl,o⟩
 rw [Fo.gl] at hb
 refine aG (RC.seq ?_)
 obtain⟨ah,hj,hb⟩:=bd hb
 refine RC.jn (fun(ah:Bool)=>SH E V [(6,vi j.1),(7,vb ah)] []) ah ?_ ?_
 ·refine RC.yC mixed [1,0,0,0,0,0,0,0,0,0,0,2,0,0,0,0] [0,1,2,3,4,5,6,7,8,9,10,11,12,13,14,15] ?_
  have o:=o.drew
  refine DP.e1 (vi j.1) zr (fun w=>RL.move (vi j.1) zt DP.d1) (DP.e0 zr (mv (vi j.1) (cB zr (mv (vi p0.length) (cB zr (ic j.1 ((p0.length:Int)) (cB zr (mv (vb (decide (j.1< (p0.length:Int)))) ?_))))))))
  refine DP.d0 (fM hj (fun ab hj=>?_) fun ab hj=>?_)
  rotate_left
  ·refine DP.e0 zr (bO ab (cB zr (bO ab (cB zr (bO ab (cB zr (bO ab (cB zr ?_))))))))
   refine bO ab (cB zr (bO ab (um zr (bO ab (yD zr (bO ab (cB zr (fJ ab (vb false) ?_))))))))
   refine cB zr (aK (vi j.1) (cB zr (aK (vb false) (DP.d0 (DP.z ?_)))))
   obtain rfl:=oi hj
   exact⟨rfl,o.sp 2 []⟩
  refine DP.e0 zr (RL.move v2 (cg ab) (cB zr (RL.move v0 (cg ab) (cB zr (RL.move (vi j.1) (cg ab) (cB zr ?_))))))
  obtain⟨aq,ar,hj⟩:=bd hj
  refine RL.cC (hg:=(cg ab)) 0 o El ar fun a0 o=>(cB zr (RL.bV (hg:=(cg ab)) 0 aq o xJ fun a1 o=>(cB zr (RL.aP (hg:=(cg ab)) (f:=(fun x=>x)) 3 o zr Fd.self oH fun a2 o=>(um zr ?_)))))
  obtain⟨ai,au,hj⟩:=bd hj
  refine RL.Cz 1 0 (cg ab) zr o zr h2 5 zr zr zr zr zr au fun w o=>(yD zr (RL.i7 ai 0 (cg ab) (cB zr (fJ ab (vb (ai==0)) (cB zr (aK (vi j.1) (cB zr (aK (vb (ai==0)) ?_))))))))
  refine DP.d0 (DP.z ?_)
  obtain rfl:=oi hj
  exact⟨rfl,o.sp 5 []⟩
 rintro _ w ⟨O,rfl,o⟩
 refine aG (RC.ret ?_)
 obtain rfl:=oi hb
 exact i5 ⟨rfl,o.drop 0⟩
theorem sU {p0:cU} {p1:fW} (j:Holds E w V) (h0:V[i0]? =some (rd v0 p0)) (h1:V[i1]? =some (rd v1 p1)) (o:gM N p0 p1=some res):
    Calls bF 92 [v0,v1].toArray w (gI (aQ E V res)):=by
 unfold gM at o
 refine enter Tryz.func92 zr zr ?_
 have j:=(j.dup (i0+0) h0).dup (i1+1) h1
 refine RC.sr (RL.dB 1 v0 j zr fun ah w j=>?_)
 have j:=j.gJ (i:=0) rfl
 refine RL.dB 1 v1 j zr fun ai w j=>?_
 have j:=j.gJ (i:=0) rfl
 refine aK (vi 0) (RL.nq (RC.yC mixed [0,2,1,2,0] [0,2,1,3,4] ?_))
 have j:=j.drew
 refine DP.e0 zr (RL.bV 1 p0 j xJ fun aa j=>(DP.d0 (DP.wJ p1 1 zr j oH fun ab a35 aj j=>(DP.e2 zr ?_))))
 obtain⟨ak,ad,o⟩:=bd o
 refine RL.call zt zr Hh [aa] zr (aF (lJ N (i0:=2) j zr ad) ?_)
 rintro ae w j
 refine DP.d2 (⟨zt,j.j9 1⟩) (DP.e2 zr ?_)
 obtain⟨af,ag,o⟩:=bd o
 refine RL.call zt zr Em [ae,ab] zr (aF (fD N (i0:=0) (i1:=2) j zr zr ag) ?_)
 rintro _ w ⟨rfl,j⟩
 refine DP.d2 (⟨zt,j.j9 1⟩) (DP.e0 zr (aK (vi af) (DP.d0 ?_)))
 have j:=j.pl 8 [0,2,3,4,5,6,7]
 refine DP.z (aG (RC.ret ?_))
 obtain rfl:=oi o
 exact cL ⟨rfl,j.drop 7⟩
theorem ga {p0:gU} {p1:fW} (o:Holds E w V) (h0:V[i0]? =some (rd v0 p0)) (h1:V[i1]? =some (rd v1 p1)) (hb:dT N p0 p1=some res):
    Calls bF 56 [v0,v1].toArray w (gI (aQ E V res)):=by
 unfold dT at hb
 refine enter Tryz.func56 zr zr ?_
 have o:=(o.dup (i0+0) h0).dup (i1+1) h1
 refine RC.sr (RL.dB 1 v0 o zr fun ai w o=>?_)
 refine RL.dB 1 v1 o zr fun aj w o=>?_
 refine aK (vi 0) (RL.ns (RL.aZ zr vG (RL.aP 1 o zr ri Ek fun ad o=>(RL.aP (f:=(fun x=>x)) 1 o zr Fd.self oH fun ae o=>?_))))
 obtain⟨aa,af,hb⟩:=bd hb
 refine RL.call trivial rfl LW [ad,ae,(.func (.func 92) #[] #[])] rfl (aF (lv N (i0:=1) (i1:=0) o rfl rfl ⟨92,[],rfl,LV,fun w Γl v v' y0 y1 r i j o hi hj hr=>by exact aF (sU N (i0:=i) (i1:=j) o hi hj hr) fun _ _ h=>h⟩ af) ?_)
 rintro _ w ⟨rfl,o⟩
 refine mv (.tuple #[(vi aa.1),(vb aa.2)]) (RL.extract (vi aa.1) (RL.extract (vb aa.2) (aK (vi aa.1) (aK (vb aa.2) (RL.nq (RC.sr (mv (vb aa.2) (RL.not aa.2 ?_))))))))
 refine RL.nt (eQ hb (fun hc hb=>?_) fun hc hb=>?_)
 ·refine RC.sr (aK (vi (-1)) (RL.nt (RC.rt ?_)))
  obtain rfl:=oi hb
  exact cL ⟨rfl,o.drop 6⟩
 refine RC.sx (mv (vi aa.1) (aK (vi aa.1) (RL.nt (RC.ret ?_))))
 obtain rfl:=oi hb
 exact cL ⟨rfl,o.drop 6⟩
def Az (E:World) (V:List HP) (r:Int) (U:Nat->Value) (w:World):Prop:=l5 bF 18 Tryz.f94 (aQ E V r) .ret U w
theorem yO {p0: (List Int)} (j:Holds E w V) (h0:V[i0]? =some (rd v0 p0)) (o:nX N p0=some res):
    Calls bF 94 [v0].toArray w (gI (aQ E V res)):=by
 unfold nX at o
 refine enter Tryz.func94 zr zr ?_
 have j:=j.dup (i0+0) h0
 refine RC.sr (aK (vi 0) (RL.ns (aK (vi 0) (RL.nq (RC.sr (mv v0 (RL.bD 0 p0 j lM (mv (vi 0) ?_))))))))
 refine RL.nt ?_
 obtain⟨ak,hN,o⟩:=bd o
 refine RC.range (fun(ab:Nat) (ad:Unit)=>SH E V [(3,vi 0),(6,v0),(7,vi p0.length),(8,vi ab)] [rd v0 p0]) (fun(ad:Unit)=>SH E V [(3,vi 0)] [rd v0 p0]) (Az E V) hN ?_ ?_ ?_ ?_ ?_
 ·exact j.sp 1 [0]
 ·rintro hm ad _ w ⟨O,rfl,j⟩
  refine RC.sr (ic ((p0.length:Int)) ((p0.length:Int)) (RL.nq (RC.cN lS (RC.ex ?_))))
  exact⟨rfl,j.sp 1 [0]⟩
 ·rintro hm ab ad fl _ w hk ⟨O,rfl,j⟩ o
  refine RC.sr (ic ((ab:Int)) ((p0.length:Int)) (RL.nq (RC.cM (lR hk) (RC.ss (RC.bs ?_)))))
  obtain⟨aa,ah,o⟩:=bd o
  refine RL.cC 0 j eJ ah fun an j=>(RL.bI aa 0 j cQ (aK (vi aa) (RL.ns (mv (vi aa) (mv (vi 0) (ic aa 0 (RL.nt (eQ o (fun hc o=>?_) fun hc o=>?_))))))))
  rotate_left
  ·refine RC.skip (bK (aG (RC.region (RL.inc hk hm (mv (vi ((ab+1:Nat):Int)) (RL.nil ?_))))))
   obtain rfl:=oi o
   exact⟨rfl,j.sp 2 [1]⟩
  refine RC.sr (mv (vi aa) (aK (vi aa) (RL.nt (RC.rb (bS ?_)))))
  obtain rfl:=oi o
  exact⟨rfl,cL ⟨rfl,j.drop 2⟩⟩
 ·intro r U w e hK
  subst e
  refine bS ?_
  obtain rfl:=oi o
  exact hK
 rintro ad _ w rfl ⟨O,rfl,j⟩
 rw [Fo.gl] at o
 refine aG (RC.sr (mv (vi 0) (aK (vi 0) (RL.nt (RC.ret ?_)))))
 obtain rfl:=oi o
 exact cL ⟨rfl,j.drop 1⟩
theorem mC {p0 p1:Test} (j:Holds E w V) (h0:V[i0]? =some (rd v0 p0)) (h1:V[i1]? =some (rd v1 p1)) (o:fV N p0 p1=some res):
    Calls bF 58 [v0,v1].toArray w (gI (aQ E V res)):=by
 unfold fV at o
 refine enter Tryz.func58 zr zr ?_
 have j:=(j.dup (i0+0) h0).dup (i1+1) h1
 refine RC.sr (RL.dB 1 v0 j zr fun an w j=>?_)
 have j:=j.gJ (i:=0) rfl
 refine RL.dB 1 v1 j zr fun ao w j=>?_
 have j:=j.gJ (i:=0) rfl
 refine aK (vi 0) (RL.nq (RC.yC mixed [0,0,0,0,2,1,1,1,1,2,2,2,0] [0,1,2,3,5,6,7,8,4,9,10,11,12] ?_))
 have j:=j.drew
 refine DP.e0 zr (RL.iu 1 j zr tp mF fun aq j=>(cB zr (RL.bV 0 p0.A j oH fun ad j=>(cB zr (RL.iu 2 j zr tp mF fun ar j=>(cB zr (RL.bV 0 p1.A j oH fun ae j=>(DP.d0 ?_))))))))
 refine DP.He 5 zr zr zt zr j zr zr tq mG fun au j=>(DP.wJ p0.B 0 zr j oH fun af a39 av j=>(DP.He 7 zr zr zt zr j zr zr tq mG fun aw j=>(DP.wJ p1.B 0 zr j oH fun ag a43 ax j=>(DP.e2 zr ?_))))
 obtain⟨aa,ah,o⟩:=bd o
 refine RL.call zt zr Em [ad,ae] zr (aF (fD N (i0:=8) (i1:=6) j zr zr ah) ?_)
 rintro _ w ⟨rfl,j⟩
 refine DP.d2 (⟨⟨zt,j.j9 3⟩,j.j9 0⟩) (DP.e2 zr ?_)
 obtain⟨ab,ai,o⟩:=bd o
 refine RL.call zt zr Em [af,ag] zr (aF (fD N (i0:=4) (i1:=1) j zr zr ai) ?_)
 rintro _ w ⟨rfl,j⟩
 refine DP.d2 (⟨⟨zt,j.j9 3⟩,j.j9 0⟩) (DP.e2 zr ?_)
 have j:=(j.sc Int aa).sc Int ab
 refine RL.dS ([aa,ab]: (List Int)) j [(vi aa),(vi ab)] eJ EY (fun M hs g=>⟨(g.sat 1 _ zr).1,⟨(g.sat 0 _ zr).1,zt⟩⟩) fun aj w j=>(DP.d2 (⟨⟨zt,j.j9 6⟩,j.j9 3⟩) (DP.e2 zr ?_))
 have j:=j.freeze 0
 obtain⟨ak,al,o⟩:=bd o
 refine RL.call zt zr LX [aj] zr (aF (yO N (i0:=0) j zr al) ?_)
 rintro _ w ⟨rfl,j⟩
 refine DP.d2 (⟨⟨zt,j.j9 6⟩,j.j9 3⟩) (DP.e0 zr (aK (vi ak) (DP.d0 ?_)))
 have j:=j.pl 17 [0,1,2,4,5,7,8,9,10,11,12,13,14,15,16]
 refine DP.z (aG (RC.ret ?_))
 obtain rfl:=oi o
 exact cL ⟨rfl,j.drop 15⟩
def uS (E:World) (V:List HP) (r:Option ((List (List aI))×(List aI)×(List bW)×(List cU)×(List (List aA))×(List aH)×(List (List Int))×(List cI)×(List Int)×(List Int)×(List Int)×(List dQ))×Int) (U:Nat->Value) (w:World):Prop:=l5 bF 63 Tryz.f28 (mS E V r) .ret U w
theorem yP {p0:gU} {p1: (List Test)} {res:Option ((List (List aI))×(List aI)×(List bW)×(List cU)×(List (List aA))×(List aH)×(List (List Int))×(List cI)×(List Int)×(List Int)×(List Int)×(List dQ))×Int} (j:Holds E w V) (h0:V[i0]? =some (rd v0 p0)) (h1:V[i1]? =some (rd v1 p1)) (o:iR N p0 p1=some res):
    Calls bF 28 [v0,v1].toArray w (gI (mS E V res)):=by
 unfold iR at o
 refine enter Tryz.func28 zr zr ?_
 have j:=(j.dup (i0+0) h0).dup (i1+1) h1
 refine RC.sr (RL.dB 1 v0 j zr fun ah w j=>?_)
 refine aK (.pointer none) (aK (vi 0) (RL.ns (RL.aP (f:=(fun x=>x)) 0 j zr Fd.self nF fun bw j=>?_)))
 obtain⟨ag,bz,o⟩:=bd o
 refine RL.call zt zr Hk [bw] zr (aF (mj N (i0:=0) j zr bz) ?_)
 rintro _ w hK49
 rcases a5:ag.1 with _ | aa
 ·replace o:=Fi a5 o
  obtain⟨rfl,j⟩:=Bj a5 hK49
  refine mv (.tuple #[(.pointer none),(vi ag.2)]) (RL.extract (.pointer none) (RL.extract (vi ag.2) (aK (.pointer none) (aK (vi ag.2) (RL.nq (RC.sr (mv (vi ag.2) (ic ag.2 0 ?_))))))))
  refine RL.nt (eQ o (fun hc o=>?_) fun hc o=>?_)
  ·refine RC.sr (mv (vi ag.2) (aK (.pointer none) (aK (vi ag.2) (RL.nt (RC.rt ?_)))))
   obtain rfl:=oi o
   exact i5 ⟨rfl,j.drop 4⟩
  refine RC.ss (RC.sr (mv v1 (RL.bD 2 p1 j FP (ic ((p1.length:Int)) 2000 (RL.nt (eQ o (fun hc o=>?_) fun hc o=>?_))))))
  ·refine RC.sr (aK (.pointer none) (aK (vi 2) (RL.nt (RC.rt ?_))))
   obtain rfl:=oi o
   exact i5 ⟨rfl,j.drop 4⟩
  refine RC.ss (RC.sr (mv v1 (RL.bD 2 p1 j FP (mv (vi 0) (RL.nt ?_)))))
  obtain⟨c0,hN,o⟩:=bd o
  refine RC.range (fun(ai:Nat) (a6:Unit)=>SH E V [(1,v1),(2,vp ah 0),(6,(.pointer none)),(21,v1),(22,vi p1.length),(23,vi ai)] [rd v1 p1,bx 27 ah p0]) (fun(a6:Unit)=>SH E V [(6,(.pointer none))] [rd v1 p1,bx 27 ah p0]) (uS E V) hN ?_ ?_ ?_ ?_ ?_
  ·exact j.sp 4 [2,1]
  ·rintro hm a6 _ w ⟨O,rfl,j⟩
   refine RC.sr (ic ((p1.length:Int)) ((p1.length:Int)) (RL.nq (RC.cN lS (RC.ex ?_))))
   exact⟨rfl,j.sp 2 [0,1]⟩
  ·rintro hm ai a6 fl _ w hk ⟨O,rfl,j⟩ o
   refine RC.sr (ic ((ai:Int)) ((p1.length:Int)) (RL.nq (RC.cM (lR hk) (RC.ss (RC.bs (mv (vi ai) ?_))))))
   obtain⟨bm,b1,o⟩:=bd o
   refine RL.cC 0 j FQ b1 fun c1 j=>(RL.bV 0 bm j yL fun c2 j=>(RL.alloc j IV.z fun bn w j=>?_))
   refine aK (vi ai) (RL.bA 0 j 1 zr yL fun w j=>?_)
   refine RL.nt (RC.block (RC.seq ?_))
   obtain⟨a9,hj,o⟩:=bd o
   refine RC.jn (fun(a9:Bool)=>SH E V [(1,v1),(2,vp ah 0),(6,(.pointer none)),(8,vi ai),(9,vp bn 0),(21,v1),(22,vi p1.length),(23,vi ai),(28,vb a9)] [rd v1 p1,bx 27 ah p0,bx 53 bn bm]) a9 ?_ ?_
   ·refine RC.region (RL.aP (f:=(fun x=>x)) 4 j zr Fd.self nF fun b2 j=>(RL.aZ zr tp (RL.aP 1 j zr mF oH fun b3 j=>?_)))
    obtain⟨bo,b4,hj⟩:=bd hj
    refine RL.call zt zr BJ [b2,b3] zr (aF (ga N (i0:=1) (i1:=0) j zr zr b4) ?_)
    rintro _ w ⟨rfl,j⟩
    refine ic bo 0 (mv (vb (decide (bo<0))) (fM hj (fun al hj=>?_) fun al hj=>?_))
    ·refine bO al (bO al (bO al (bO al (bO al (fJ al (vb true) (aK (vb true) (RL.nil ?_)))))))
     obtain rfl:=oi hj
     exact⟨rfl,j.sp 7 [5,6,2]⟩
    refine RL.aP (hg:=(cg al)) (f:=(fun x=>x)) 6 j zr Fd.self nF fun b5 j=>(RL.aZ (hg:=(cg al)) zr tq (RL.aP (hg:=(cg al)) 3 j zr mG oH fun b6 j=>?_))
    obtain⟨ba,b7,hj⟩:=bd hj
    refine RL.call (cg al) zr BJ [b5,b6] zr (aF (ga N (i0:=1) (i1:=0) j zr zr b7) ?_)
    rintro _ w ⟨rfl,j⟩
    refine RL.i7 ba 0 (cg al) (fJ al (vb (decide (ba<0))) (aK (vb (decide (ba<0))) (RL.nil ?_)))
    obtain rfl:=oi hj
    exact⟨rfl,j.sp 9 [7,8,4]⟩
   rintro _ w ⟨O,rfl,j⟩
   refine aG (eQ o (fun hc o=>?_) fun hc o=>?_)
   ·refine RC.sr (aK (.pointer none) (aK (vi 9) (RL.nt (RC.rb (jR (bS ?_))))))
    obtain rfl:=oi o
    exact⟨rfl,i5 ⟨rfl,j.drop 3⟩⟩
   refine RC.sr (RL.aZ zr tq (RL.aP 2 j zr mG oH fun b8 j=>(RL.aZ zr tp (RL.aP 3 j zr mF oH fun b9 j=>?_))))
   obtain⟨bp,ca,o⟩:=bd o
   refine RL.call zt zr Em [b8,b9] zr (aF (fD N (i0:=1) (i1:=0) j zr zr ca) ?_)
   rintro _ w ⟨rfl,j⟩
   refine ic bp 0 (aK (vb (decide (bp<=0))) (RL.nt (eQ o (fun hc o=>?_) fun hc o=>?_)))
   ·refine RC.sr (aK (.pointer none) (aK (vi 8) (RL.nt (RC.rb (jR (bS ?_))))))
    obtain rfl:=oi o
    exact⟨rfl,i5 ⟨rfl,j.drop 5⟩⟩
   refine RC.seq ?_
   obtain⟨bb,hj,o⟩:=bd o
   refine RC.jn (fun(bb:Bool)=>SH E V [(1,v1),(2,vp ah 0),(6,(.pointer none)),(21,v1),(22,vi p1.length),(23,vi ai),(48,vb bb)] [rd v1 p1,bx 27 ah p0]) bb ?_ ?_
   ·refine RC.yC mixed [0,0,0,0,0,0,0,0,0,2,0,0,0] [0,1,2,3,4,5,6,7,8,9,10,11,12] ?_
    have j:=j.drew
    refine DP.e0 zr (mv (vi ai) (cB zr (ic ((ai:Int)) 0 (cB zr (mv (vb (decide ((ai:Int)>0))) (DP.d0 (fM hj (fun ae hj=>?_) fun ae hj=>?_)))))))
    rotate_left
    ·refine DP.e0 zr (bO ae (cB zr (bO ae (cB zr (bO ae (cB zr (bO ae (cB zr ?_))))))))
     refine bO ae (cB zr (bO ae (um zr (bO ae (yD zr (bO ae (cB zr (fJ ae (vb false) ?_))))))))
     refine cB zr (aK (vb false) (DP.d0 (DP.z ?_)))
     obtain rfl:=oi hj
     exact⟨rfl,j.sp 5 [2,3]⟩
    refine DP.e0 zr (RL.aP (hg:=(cg ae)) (f:=(fun x=>x)) 4 j zr Fd.self yL fun cb j=>(cB zr (RL.move v1 (cg ae) (cB zr (RL.move (vi ai) (cg ae) (cB zr (RL.jA (hg:=(cg ae)) (ai:Int) 1 (cB zr ?_))))))))
    obtain⟨cc,cd,hj⟩:=bd hj
    refine RL.cC (hg:=(cg ae)) 3 j FQ cd fun c3 j=>(cB zr (RL.bV (hg:=(cg ae)) 0 cc j yL fun cf j=>(um zr ?_)))
    obtain⟨bf,ch,hj⟩:=bd hj
    refine RL.call (cg ae) zr Kt [cb,cf] zr (aF (mC N (i0:=2) (i1:=0) j zr zr ch) ?_)
    rintro _ w ⟨rfl,j⟩
    refine yD zr (RL.i7 bf 0 (cg ae) (cB zr (fJ ae (vb (decide (bf<=0))) (cB zr (aK (vb (decide (bf<=0))) (DP.d0 (DP.z ?_)))))))
    obtain rfl:=oi hj
    exact⟨rfl,j.sp 8 [5,6]⟩
   rintro _ w ⟨O,rfl,j⟩
   refine aG (eQ o (fun hc o=>?_) fun hc o=>?_)
   rotate_left
   ·refine RC.skip (bK (bK (aG (RC.region (RL.inc hk hm (mv (vi ((ai+1:Nat):Int)) (RL.nil ?_)))))))
    obtain rfl:=oi o
    exact⟨rfl,j.sp 2 [0,1]⟩
   refine RC.sr (aK (.pointer none) (aK (vi 8) (RL.nt (RC.rb (jR (bS ?_))))))
   obtain rfl:=oi o
   exact⟨rfl,i5 ⟨rfl,j.drop 2⟩⟩
  ·intro r U w e hK
   subst e
   refine bS ?_
   obtain rfl:=oi o
   exact hK
  rintro a6 _ w rfl ⟨O,rfl,j⟩
  rw [Fo.gl] at o
  refine aG (RC.sr (mv (.pointer none) (aK (.pointer none) (aK (vi 0) (RL.nt (RC.ret ?_))))))
  obtain rfl:=oi o
  exact i5 ⟨rfl,j.drop 2⟩
 replace o:=Fj a5 o
 obtain⟨aj,ao,aq,ar,au,av,aw,ax,ay,az,a0,a1,a2,rfl,j⟩:=Bl a5 hK49
 refine mv (.tuple #[(vp aj 0),(vi ag.2)]) (RL.extract (vp aj 0) (RL.extract (vi ag.2) (aK (vp aj 0) (aK (vi ag.2) (RL.nq (RC.sr (mv (vi ag.2) (ic ag.2 0 ?_))))))))
 refine RL.nt (eQ o (fun hc o=>?_) fun hc o=>?_)
 ·refine RC.sr (mv (vi ag.2) (aK (.pointer none) (aK (vi ag.2) (RL.nt (RC.rt ?_)))))
  obtain rfl:=oi o
  exact i5 ⟨rfl,j.drop 17⟩
 refine RC.ss (RC.sr (mv v1 (RL.bD 15 p1 j FP (ic ((p1.length:Int)) 2000 (RL.nt (eQ o (fun hc o=>?_) fun hc o=>?_))))))
 ·refine RC.sr (aK (.pointer none) (aK (vi 2) (RL.nt (RC.rt ?_))))
  obtain rfl:=oi o
  exact i5 ⟨rfl,j.drop 17⟩
 refine RC.ss (RC.sr (mv v1 (RL.bD 15 p1 j FP (mv (vi 0) (RL.nt ?_)))))
 obtain⟨c4,hN,o⟩:=bd o
 refine RC.range (fun(ak:Nat) (a7:Unit)=>SH E V [(1,v1),(2,vp ah 0),(6,vp aj 0),(21,v1),(22,vi p1.length),(23,vi ak)] [rd v1 p1,bx 27 ah p0,bc 126 aj [ao,aq,ar,au,av,aw,ax,ay,az,a0,a1,a2],rd ao aa.1,rd aq aa.2.1,rd ar aa.2.2.1,rd au aa.2.2.2.1,own 132 av aa.2.2.2.2.1,rd aw aa.2.2.2.2.2.1,rd ax aa.2.2.2.2.2.2.1,own 129 ay aa.2.2.2.2.2.2.2.1,rd az aa.2.2.2.2.2.2.2.2.1,rd a0 aa.2.2.2.2.2.2.2.2.2.1,own 3 a1 aa.2.2.2.2.2.2.2.2.2.2.1,own 41 a2 aa.2.2.2.2.2.2.2.2.2.2.2]) (fun(a7:Unit)=>SH E V [(6,vp aj 0)] [rd v1 p1,bx 27 ah p0,bc 126 aj [ao,aq,ar,au,av,aw,ax,ay,az,a0,a1,a2],rd ao aa.1,rd aq aa.2.1,rd ar aa.2.2.1,rd au aa.2.2.2.1,own 132 av aa.2.2.2.2.1,rd aw aa.2.2.2.2.2.1,rd ax aa.2.2.2.2.2.2.1,own 129 ay aa.2.2.2.2.2.2.2.1,rd az aa.2.2.2.2.2.2.2.2.1,rd a0 aa.2.2.2.2.2.2.2.2.2.1,own 3 a1 aa.2.2.2.2.2.2.2.2.2.2.1,own 41 a2 aa.2.2.2.2.2.2.2.2.2.2.2]) (uS E V) hN ?_ ?_ ?_ ?_ ?_
 ·exact j.sp 17 [15,14,0,1,2,3,4,5,6,7,8,9,10,11,12]
 ·rintro hm a7 _ w ⟨O,rfl,j⟩
  refine RC.sr (ic ((p1.length:Int)) ((p1.length:Int)) (RL.nq (RC.cN lS (RC.ex ?_))))
  exact⟨rfl,j.sp 15 [0,1,2,3,4,5,6,7,8,9,10,11,12,13,14]⟩
 ·rintro hm ak a7 fl _ w hk ⟨O,rfl,j⟩ o
  refine RC.sr (ic ((ak:Int)) ((p1.length:Int)) (RL.nq (RC.cM (lR hk) (RC.ss (RC.bs (mv (vi ak) ?_))))))
  obtain⟨bq,cj,o⟩:=bd o
  refine RL.cC 0 j FQ cj fun c5 j=>(RL.bV 0 bq j yL fun c6 j=>(RL.alloc j IV.z fun br w j=>?_))
  refine aK (vi ak) (RL.bA 0 j 1 zr yL fun w j=>?_)
  refine RL.nt (RC.block (RC.seq ?_))
  obtain⟨bh,hj,o⟩:=bd o
  refine RC.jn (fun(bh:Bool)=>SH E V [(1,v1),(2,vp ah 0),(6,vp aj 0),(8,vi ak),(9,vp br 0),(21,v1),(22,vi p1.length),(23,vi ak),(28,vb bh)] [rd v1 p1,bx 27 ah p0,bc 126 aj [ao,aq,ar,au,av,aw,ax,ay,az,a0,a1,a2],rd ao aa.1,rd aq aa.2.1,rd ar aa.2.2.1,rd au aa.2.2.2.1,own 132 av aa.2.2.2.2.1,rd aw aa.2.2.2.2.2.1,rd ax aa.2.2.2.2.2.2.1,own 129 ay aa.2.2.2.2.2.2.2.1,rd az aa.2.2.2.2.2.2.2.2.1,rd a0 aa.2.2.2.2.2.2.2.2.2.1,own 3 a1 aa.2.2.2.2.2.2.2.2.2.2.1,own 41 a2 aa.2.2.2.2.2.2.2.2.2.2.2,bx 53 br bq]) bh ?_ ?_
  ·refine RC.region (RL.aP (f:=(fun x=>x)) 4 j zr Fd.self nF fun ck j=>(RL.aZ zr tp (RL.aP 1 j zr mF oH fun cl j=>?_)))
   obtain⟨bt,cm,hj⟩:=bd hj
   refine RL.call zt zr BJ [ck,cl] zr (aF (ga N (i0:=1) (i1:=0) j zr zr cm) ?_)
   rintro _ w ⟨rfl,j⟩
   refine ic bt 0 (mv (vb (decide (bt<0))) (fM hj (fun an hj=>?_) fun an hj=>?_))
   ·refine bO an (bO an (bO an (bO an (bO an (fJ an (vb true) (aK (vb true) (RL.nil ?_)))))))
    obtain rfl:=oi hj
    exact⟨rfl,j.sp 20 [5,6,7,8,9,10,11,12,13,14,15,16,17,18,19,2]⟩
   refine RL.aP (hg:=(cg an)) (f:=(fun x=>x)) 6 j zr Fd.self nF fun cn j=>(RL.aZ (hg:=(cg an)) zr tq (RL.aP (hg:=(cg an)) 3 j zr mG oH fun cp j=>?_))
   obtain⟨bj,cq,hj⟩:=bd hj
   refine RL.call (cg an) zr BJ [cn,cp] zr (aF (ga N (i0:=1) (i1:=0) j zr zr cq) ?_)
   rintro _ w ⟨rfl,j⟩
   refine RL.i7 bj 0 (cg an) (fJ an (vb (decide (bj<0))) (aK (vb (decide (bj<0))) (RL.nil ?_)))
   obtain rfl:=oi hj
   exact⟨rfl,j.sp 22 [7,8,9,10,11,12,13,14,15,16,17,18,19,20,21,4]⟩
  rintro _ w ⟨O,rfl,j⟩
  refine aG (eQ o (fun hc o=>?_) fun hc o=>?_)
  ·refine RC.sr (aK (.pointer none) (aK (vi 9) (RL.nt (RC.rb (jR (bS ?_))))))
   obtain rfl:=oi o
   exact⟨rfl,i5 ⟨rfl,j.drop 16⟩⟩
  refine RC.sr (RL.aZ zr tq (RL.aP 15 j zr mG oH fun cr j=>(RL.aZ zr tp (RL.aP 16 j zr mF oH fun ct j=>?_))))
  obtain⟨bu,cu,o⟩:=bd o
  refine RL.call zt zr Em [cr,ct] zr (aF (fD N (i0:=1) (i1:=0) j zr zr cu) ?_)
  rintro _ w ⟨rfl,j⟩
  refine ic bu 0 (aK (vb (decide (bu<=0))) (RL.nt (eQ o (fun hc o=>?_) fun hc o=>?_)))
  ·refine RC.sr (aK (.pointer none) (aK (vi 8) (RL.nt (RC.rb (jR (bS ?_))))))
   obtain rfl:=oi o
   exact⟨rfl,i5 ⟨rfl,j.drop 18⟩⟩
  refine RC.seq ?_
  obtain⟨bk,hj,o⟩:=bd o
  refine RC.jn (fun(bk:Bool)=>SH E V [(1,v1),(2,vp ah 0),(6,vp aj 0),(21,v1),(22,vi p1.length),(23,vi ak),(48,vb bk)] [rd v1 p1,bx 27 ah p0,bc 126 aj [ao,aq,ar,au,av,aw,ax,ay,az,a0,a1,a2],rd ao aa.1,rd aq aa.2.1,rd ar aa.2.2.1,rd au aa.2.2.2.1,own 132 av aa.2.2.2.2.1,rd aw aa.2.2.2.2.2.1,rd ax aa.2.2.2.2.2.2.1,own 129 ay aa.2.2.2.2.2.2.2.1,rd az aa.2.2.2.2.2.2.2.2.1,rd a0 aa.2.2.2.2.2.2.2.2.2.1,own 3 a1 aa.2.2.2.2.2.2.2.2.2.2.1,own 41 a2 aa.2.2.2.2.2.2.2.2.2.2.2]) bk ?_ ?_
  ·refine RC.yC mixed [0,0,0,0,0,0,0,0,0,2,0,0,0] [0,1,2,3,4,5,6,7,8,9,10,11,12] ?_
   have j:=j.drew
   refine DP.e0 zr (mv (vi ak) (cB zr (ic ((ak:Int)) 0 (cB zr (mv (vb (decide ((ak:Int)>0))) (DP.d0 (fM hj (fun af hj=>?_) fun af hj=>?_)))))))
   rotate_left
   ·refine DP.e0 zr (bO af (cB zr (bO af (cB zr (bO af (cB zr (bO af (cB zr ?_))))))))
    refine bO af (cB zr (bO af (um zr (bO af (yD zr (bO af (cB zr (fJ af (vb false) ?_))))))))
    refine cB zr (aK (vb false) (DP.d0 (DP.z ?_)))
    obtain rfl:=oi hj
    exact⟨rfl,j.sp 18 [2,3,4,5,6,7,8,9,10,11,12,13,14,15,16]⟩
   refine DP.e0 zr (RL.aP (hg:=(cg af)) (f:=(fun x=>x)) 17 j zr Fd.self yL fun cv j=>(cB zr (RL.move v1 (cg af) (cB zr (RL.move (vi ak) (cg af) (cB zr (RL.jA (hg:=(cg af)) (ak:Int) 1 (cB zr ?_))))))))
   obtain⟨cw,cx,hj⟩:=bd hj
   refine RL.cC (hg:=(cg af)) 3 j FQ cx fun c7 j=>(cB zr (RL.bV (hg:=(cg af)) 0 cw j yL fun cy j=>(um zr ?_)))
   obtain⟨bl,cz,hj⟩:=bd hj
   refine RL.call (cg af) zr Kt [cv,cy] zr (aF (mC N (i0:=2) (i1:=0) j zr zr cz) ?_)
   rintro _ w ⟨rfl,j⟩
   refine yD zr (RL.i7 bl 0 (cg af) (cB zr (fJ af (vb (decide (bl<=0))) (cB zr (aK (vb (decide (bl<=0))) (DP.d0 (DP.z ?_)))))))
   obtain rfl:=oi hj
   exact⟨rfl,j.sp 21 [5,6,7,8,9,10,11,12,13,14,15,16,17,18,19]⟩
  rintro _ w ⟨O,rfl,j⟩
  refine aG (eQ o (fun hc o=>?_) fun hc o=>?_)
  rotate_left
  ·refine RC.skip (bK (bK (aG (RC.region (RL.inc hk hm (mv (vi ((ak+1:Nat):Int)) (RL.nil ?_)))))))
   obtain rfl:=oi o
   exact⟨rfl,j.sp 15 [0,1,2,3,4,5,6,7,8,9,10,11,12,13,14]⟩
  refine RC.sr (aK (.pointer none) (aK (vi 8) (RL.nt (RC.rb (jR (bS ?_))))))
  obtain rfl:=oi o
  exact⟨rfl,i5 ⟨rfl,j.drop 15⟩⟩
 ·intro r U w e hK
  subst e
  refine bS ?_
  obtain rfl:=oi o
  exact hK
 rintro a7 _ w rfl ⟨O,rfl,j⟩
 rw [Fo.gl] at o
 refine aG (RC.sr (mv (vp aj 0) (aK (vp aj 0) (aK (vi 0) (RL.nt (RC.ret ?_))))))
 obtain rfl:=oi o
 exact i5 ⟨aj,ao,aq,ar,au,av,aw,ax,ay,az,a0,a1,a2,zr,j.pk 15 [2,3,4,5,6,7,8,9,10,11,12,13,14]⟩
def qV (E:World) (V:List HP) (b1 b1h:Nat) (v1h_0 v1h_1:Value) (v1h_2 v1h_3:Value) (v1h_4 v1h_5:Value) (v1h_6 v1h_7:Value) (v1h_8 v1h_9:Value) (v1h_10 v1h_11:Value) (res:Bool) (v:Value) (w:World):Prop:=v= (vb res)/\Holds E w ([bc 68 b1 [(vp b1h 0)],bc 126 b1h [v1h_0,v1h_1,v1h_2,v1h_3,v1h_4,v1h_5,v1h_6,v1h_7,v1h_8,v1h_9,v1h_10,v1h_11]]++V)
theorem j3 {p1h_5: (List aH)} {res:Bool} (j:Holds E w (bc 68 b1 [(vp b1h 0)]::bc 126 b1h [v1h_0,v1h_1,v1h_2,v1h_3,v1h_4,v1h_5,v1h_6,v1h_7,v1h_8,v1h_9,v1h_10,v1h_11]::rd v1h_5 p1h_5::V)) (o:iw N p0 p1h_5=some res):
    Calls bF 59 [(vi p0),(vp b1 0)].toArray w (gI (qV E V b1 b1h v1h_0 v1h_1 v1h_2 v1h_3 v1h_4 v1h_5 v1h_6 v1h_7 v1h_8 v1h_9 v1h_10 v1h_11 res)):=by
 unfold iw at o
 refine enter Tryz.func59 zr zr (RC.sr (aK (vb false) (RL.ns (mv (vi p0) (RL.aY 0 (vp b1h 0) j wM (RL.nilCheck zr (RL.aZ zr lI (RL.aY 1 v1h_5 j qJ ?_))))))))
 refine RL.bD 2 p1h_5 j wo (RL.jA (p1h_5.length:Int) 1 ?_)
 obtain⟨aa,ab,o⟩:=bd o
 refine RL.call zt zr IP [(vi p0),(vi 0),(vi (IntKind.wrap .i64 ((p1h_5.length:Int) - 1)))] zr (aF (nj N (p0:=p0) (p1:=0) (p2:=(IntKind.wrap .i64 ((p1h_5.length:Int) - 1))) j ab) ?_)
 rintro _ w ⟨rfl,j⟩
 refine aK (vb aa) (RL.nt (RC.ret ?_))
 obtain rfl:=oi o
 exact cL ⟨rfl,j.pk 3 [0,1]⟩
def sV (E:World) (V:List HP) (r:Int) (U:Nat->Value) (w:World):Prop:=l5 bF 19 Tryz.f32 (aQ E V r) .ret U w
theorem rJ {p0: (List aT)} {p1:aT} (j:Holds E w V) (h0:V[i0]? =some (rd v0 p0)) (h1:V[i1]? =some (rd v1 p1)) (o:me N p0 p1=some res):
    Calls bF 32 [v0,v1].toArray w (gI (aQ E V res)):=by
 unfold me at o
 refine enter Tryz.func32 zr zr ?_
 have j:=(j.dup (i0+0) h0).dup (i1+1) h1
 refine RC.sr (RL.dB 0 v1 j zr fun ad w j=>?_)
 refine aK (vi 0) (RL.nq (RC.sr (mv v0 (RL.bD 2 p0 j uE (mv (vi 0) (RL.nt ?_))))))
 obtain⟨al,hN,o⟩:=bd o
 refine RC.range (fun(aa:Nat) (ab:Unit)=>SH E V [(0,v0),(3,vp ad 0),(7,vi p0.length),(8,vi aa)] [rd v0 p0,bx 43 ad p1]) (fun(ab:Unit)=>SH E V [] [rd v0 p0,bx 43 ad p1]) (sV E V) hN ?_ ?_ ?_ ?_ ?_
 ·exact j.sp 3 [2,0]
 ·rintro hm ab _ w ⟨O,rfl,j⟩
  refine RC.sr (ic ((p0.length:Int)) ((p0.length:Int)) (RL.nq (RC.cN lS (RC.ex ?_))))
  exact⟨rfl,j.sp 2 [0,1]⟩
 ·rintro hm aa ab fl _ w hk ⟨O,rfl,j⟩ o
  refine RC.sr (ic ((aa:Int)) ((p0.length:Int)) (RL.nq (RC.cM (lR hk) (RC.ss (RC.bs (mv (vi aa) (aK (vi aa) (RL.nq ?_))))))))
  refine RC.xv mixed ?_
  have j:=j.drew
  refine RO.go (RL.aP (f:=(fun x=>x)) 1 j zr Fd.self pF fun ao j=>(RO.nx (mv v0 (RO.nx (mv (vi aa) (RO.nx ?_))))))
  obtain⟨ag,ai,o⟩:=bd o
  refine RL.cC 1 j uD ai fun aq j=>(RO.nx (RL.bV 0 ag j pF fun ar j=>(RO.nx (RL.seq 2 0 p1 ag zt zr j zr zr zr zr Kv zr (RO.last (aG (eQ o (fun hc o=>?_) fun hc o=>?_)))))))
  rotate_left
  ·refine RC.skip (bK (aG (RC.region (RL.inc hk hm (mv (vi ((aa+1:Nat):Int)) (RL.nil ?_))))))
   obtain rfl:=oi o
   exact⟨rfl,j.sp 5 [3,4]⟩
  refine RC.sr (mv (vi aa) (aK (vi aa) (RL.nt (RC.rb (bS ?_)))))
  obtain rfl:=oi o
  exact⟨rfl,cL ⟨rfl,j.drop 5⟩⟩
 ·intro r U w e hK
  subst e
  refine bS ?_
  obtain rfl:=oi o
  exact hK
 rintro ab _ w rfl ⟨O,rfl,j⟩
 rw [Fo.gl] at o
 refine aG (RC.sr (aK (vi (-1)) (RL.nt (RC.ret ?_))))
 obtain rfl:=oi o
 exact cL ⟨rfl,j.drop 2⟩
theorem pL {p0: (List aT)} {p1:aT} {res:Bool} (j:Holds E w V) (h0:V[i0]? =some (rd v0 p0)) (h1:V[i1]? =some (rd v1 p1)) (o:kD N p0 p1=some res):
    Calls bF 13 [v0,v1].toArray w (gI (bE E V res)):=by
 unfold kD at o
 refine enter Tryz.func13 zr zr ?_
 have j:=(j.dup (i0+0) h0).dup (i1+1) h1
 refine RC.sr (RL.dB 0 v1 j zr fun ae w j=>?_)
 refine aK (vb false) (RL.ns (mv v0 (RL.aP (f:=(fun x=>x)) 0 j zr Fd.self pF fun ab j=>?_)))
 obtain⟨aa,ad,o⟩:=bd o
 refine RL.call zt zr L2 [v0,ab] zr (aF (rJ N (i0:=3) (i1:=0) j zr zr ad) ?_)
 rintro _ w ⟨rfl,j⟩
 refine ic aa 0 (aK (vb (decide (aa>=0))) (RL.nt (RC.ret ?_)))
 obtain rfl:=oi o
 exact cL ⟨rfl,j.drop 4⟩
end Go.Gk
namespace Go.Gk
open Go Go.Proofs
variable (N:Nat) {E w:World} {i0:Nat} {p1:Int} {v0:Value} {V:List HP}
theorem wR {p0:gU} {res: (List aT)×Int} (j:Holds E w V) (h0:V[i0]? =some (rd v0 p0)) (o:jr N p0 p1=some res):
    Calls bF 8 [v0,(vi p1)].toArray w (gI (n9 E V res)):=by
 unfold jr at o
 refine enter Tryz.func8 zr zr ?_
 have j:=j.dup (i0+0) h0
 refine RC.sr (RL.dB 0 v0 j zr fun ak w j=>?_)
 refine aK (.slice none 0 0) (aK (vi 0) (RL.ns (RL.aP (f:=(fun x=>x)) 0 j zr Fd.self nF fun ah j=>?_)))
 obtain⟨aa,ai,o⟩:=bd o
 refine RL.call zt zr Hk [ah] zr (aF (mj N (i0:=0) j zr ai) ?_)
 rintro _ w hK49
 rcases ad:aa.1 with _ | al
 ·replace o:=Fi ad o
  obtain⟨rfl,j⟩:=Bj ad hK49
  refine mv (.tuple #[(.pointer none),(vi aa.2)]) (RL.extract (.pointer none) (RL.extract (vi aa.2) (aK (.pointer none) (aK (vi aa.2) (RL.nq (RC.sr (mv (vi aa.2) (ic aa.2 0 ?_))))))))
  refine RL.nt (eQ o (fun hc o=>?_) fun hc o=>?_)
  rotate_left
  ·cases o
  refine RC.sr (mv (vi aa.2) (aK (.slice none 0 0) (aK (vi aa.2) (RL.nt (RC.rt ?_)))))
  obtain rfl:=oi o
  have j:=j.cH aT 43
  exact i5 ⟨(.slice none 0 0),zr,j.pk 4 [0]⟩
 replace o:=Fj ad o
 obtain⟨ab,an,ao,aq,ar,au,av,aw,ax,ay,az,a0,a1,rfl,j⟩:=Bl ad hK49
 refine mv (.tuple #[(vp ab 0),(vi aa.2)]) (RL.extract (vp ab 0) (RL.extract (vi aa.2) (aK (vp ab 0) (aK (vi aa.2) (RL.nq (RC.sr (mv (vi aa.2) (ic aa.2 0 ?_))))))))
 refine RL.nt (eQ o (fun hc o=>?_) fun hc o=>?_)
 ·refine RC.sr (mv (vi aa.2) (aK (.slice none 0 0) (aK (vi aa.2) (RL.nt (RC.rt ?_)))))
  obtain rfl:=oi o
  have j:=j.cH aT 43
  exact i5 ⟨(.slice none 0 0),zr,j.pk 17 [0]⟩
 refine RC.sx (mv (vp ab 0) (mv (vi p1) ?_))
 have j:=((((((((((((j.freeze 5).freeze 8).freeze 11).freeze 12).dup 12 rfl).dup 12 rfl).dup 12 rfl).dup 12 rfl).dup 12 rfl).dup 12 rfl).dup 12 rfl).dup 12 rfl).dup 12 rfl
 have j:=(((j.dup 12 rfl).dup 12 rfl).dup 12 rfl).pull 12
 obtain⟨ag,aj,o⟩:=bd o
 refine RL.call zt zr IU [(vp ab 0),(vi p1)] zr (aF (nk N (p1:=p1) j aj) ?_)
 rintro _ w ⟨af,rfl,j⟩
 refine RL.extract af (RL.extract (vi ag.2) (aK af (aK (vi ag.2) (RL.nt (RC.ret ?_)))))
 obtain rfl:=oi o
 exact i5 ⟨af,zr,j.pk 18 [0]⟩
end Go.Gk
