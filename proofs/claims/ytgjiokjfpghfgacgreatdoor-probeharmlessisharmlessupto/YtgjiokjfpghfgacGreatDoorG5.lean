/-
  Printed texts: Go functions as plain functions, and that they are. No statement of the seed is proved here.
-/
import Derived.Test.YtgjiokjfpghfgacGreatDoorG1
import Derived.Test.YtgjiokjfpghfgacGreatDoorG2
import Derived.Test.YtgjiokjfpghfgacGreatDoorG3
import Derived.Test.YtgjiokjfpghfgacGreatDoorG4
import Derived.Test.YtgjiokjfpghfgacGreatDoorA2
set_option linter.unusedVariables false
set_option linter.unusedSimpArgs false
set_option linter.unusedSectionVars false
set_option maxRecDepth 100000
set_option maxHeartbeats 4000000
namespace Go.Gk
open Go Go.Proofs
variable (N:Nat) {E w:World} {b0 b1 b1h b2 b3 b3h i0 i1:Nat} {p0 p1 res:Int} {v0 v0_0 v0_1 v0_10 v0_11 v0_2 v0_3 v0_4 v0_5 v0_6 v0_7 v0_8 v0_9 v1 v1h_0 v1h_1 v1h_10 v1h_11 v1h_2 v1h_3 v1h_4 v1h_5 v1h_6 v1h_7 v1h_8 v1h_9 v2_0 v3h_0:Value} {V:List HP}
def xo (E:World) (V:List HP) (res:o0) (v:Value) (w:World):Prop:=Holds E w ([rd v res]++V)
theorem wv {p0: (List aI)} {p1: (List aI)} {res:o0} (j:Holds E w V) (h0:V[i0]? =some (rd v0 p0)) (h1:V[i1]? =some (rd v1 p1)) (o:lj N p0 p1=some res):
    Calls bF 23 [v0,v1].toArray w (gT (xo E V res)):=by
 unfold lj at o
 refine enter Tryz.func23 zr zr ?_
 have j:=(j.dup (i0+0) h0).dup (i1+1) h1
 refine RC.sr (RL.alloc j HS.z fun ae w j=>?_)
 refine RL.ns (aP (vi (-1)) (RL.nq (RC.sr (mv v0 (RL.bE 2 p0 j nL (mv (vi 0) (RL.nt ?_)))))))
 obtain⟨ad,hN,o⟩:=bd o
 refine RC.fold (fun(aw:Nat) (ad:Int)=>SH E V [(0,v0),(1,v1),(4,vp ae 0),(5,vi ad),(22,v0),(23,vi p0.length),(24,vi aw)] [rd v0 p0,rd v1 p1,raw 80 ae 7]) (fun(ad:Int)=>SH E V [(0,v0),(1,v1),(4,vp ae 0),(5,vi ad)] [rd v0 p0,rd v1 p1,raw 80 ae 7]) hN ?_ ?_ ?_ ?_
 ·exact j.sp 3 [2,1,0]
 ·rintro hm ad _ w ⟨O,rfl,j⟩
  refine RC.sr (ic ((p0.length:Int)) ((p0.length:Int)) (RL.nq (RC.cT mc (RC.ex ?_))))
  exact⟨rfl,j.sp 3 [0,1,2]⟩
 ·rintro hm aw ad s' _ w hk ⟨O,rfl,j⟩ o
  refine RC.sr (ic ((aw:Int)) ((p0.length:Int)) (RL.nq (RC.cS (mb hk) (RC.ss (RC.bs ?_)))))
  obtain⟨a5,bk,o⟩:=bd o
  refine RL.cB 0 j kd bk fun cm j=>(RL.bP 0 a5 j eZ fun cn j=>(RL.alloc j lU.z fun a1 w j=>?_))
  refine RL.bA 0 j 1 zr eZ fun w j=>?_
  refine RL.ns (mv v1 (RL.bE 4 p1 j nL (mv (vi 0) (RL.nt ?_))))
  obtain⟨af,hN,o⟩:=bd o
  refine RC.fold (fun(a2:Nat) (af:Int)=>SH E V [(0,v0),(1,v1),(4,vp ae 0),(5,vi af),(7,vp a1 0),(22,v0),(23,vi p0.length),(24,vi aw),(28,v1),(29,vi p1.length),(30,vi a2)] [rd v0 p0,rd v1 p1,raw 80 ae 7,bx 50 a1 a5]) (fun(af:Int)=>SH E V [(0,v0),(1,v1),(4,vp ae 0),(5,vi af),(22,v0),(23,vi p0.length),(24,vi aw)] [rd v0 p0,rd v1 p1,raw 80 ae 7,bx 50 a1 a5]) hN ?_ ?_ ?_ ?_
  ·exact j.sp 6 [3,4,5,0]
  ·rintro hm af _ w ⟨O,rfl,j⟩
   refine RC.sr (ic ((p1.length:Int)) ((p1.length:Int)) (RL.nq (RC.cT mc (RC.ex ?_))))
   exact⟨rfl,j.sp 4 [0,1,2,3]⟩
  ·rintro hm a2 af s' _ w hk ⟨O,rfl,j⟩ o
   refine RC.sr (ic ((a2:Int)) ((p1.length:Int)) (RL.nq (RC.cS (mb hk) (RC.ss (RC.bs ?_)))))
   obtain⟨bl,bm,o⟩:=bd o
   refine RL.cB 1 j kd bm fun cp j=>(RL.bP 0 bl j eZ fun cq j=>(RL.alloc j lU.z fun cr w j=>?_))
   refine RL.bA 0 j 1 zr eZ fun w j=>?_
   refine RL.ns (RL.aX (f:=(fun x=>x)) 6 j zr Fd.self eZ fun bn j=>(RL.aX (f:=(fun x=>x)) 1 j zr Fd.self eZ fun bo j=>?_))
   obtain⟨au,bp,o⟩:=bd o
   refine RL.call zt zr Fk [bn,bo] zr (aF (mT N (i0:=1) (i1:=0) j zr zr bp) ?_)
   rintro _ w ⟨rfl,j⟩
   refine aP (vi au) (RL.ns (mv (vi af) (ic af 0 (mv (vb (decide (af<0))) (RL.gs true (decide (af<0)) (vi au) rfl rfl rfl dQ (RL.gs true (decide (af<0)) (vi af) rfl rfl rfl dQ (RL.gs true (decide (af<0)) (vb (decide (au<af))) rfl rfl rfl (dT .lss .i64 au af rfl (fun h=>by exact(cQ h:cv (true&&((decide (af<0))==false)) (vi au)= (vi au))) (fun h=>by exact(cQ h:cv (true&&((decide (af<0))==false)) (vi af)= (vi af))) rfl) (RL.pick (decide (af<0)) (vb ((decide (af<0))||(decide (au<af)))) (m7 true rfl) ?_))))))))
   refine RL.nt ?_
   obtain⟨a8,hj,o⟩:=bd o
   refine RC.jn (fun(a8:Int)=>SH E V [(0,v0),(1,v1),(4,vp ae 0),(5,vi a8),(7,vp a1 0),(22,v0),(23,vi p0.length),(24,vi aw),(28,v1),(29,vi p1.length),(30,vi a2)] [rd v0 p0,rd v1 p1,raw 80 ae 7,bx 50 a1 a5]) a8 ?_ ?_
   ·refine fH hj (fun hc hj=>?_) fun hc hj=>?_
    rotate_left
    ·refine RC.skip ?_
     obtain rfl:=oi hj
     exact⟨rfl,j.sp 9 [5,6,7,8]⟩
    refine RC.region (mv (vi au) (aP (vi au) (RL.nil ?_)))
    obtain rfl:=oi hj
    exact⟨rfl,j.sp 9 [5,6,7,8]⟩
   rintro _ w ⟨O,rfl,j⟩
   refine bT (aG (RC.region (RL.inc hk hm (mv (vi ((a2+1:Nat):Int)) (RL.nil ?_)))))
   obtain rfl:=oi o
   exact⟨rfl,j.sp 4 [0,1,2,3]⟩
  rintro _ w ⟨O,rfl,j⟩
  refine bT (aG (RC.region (RL.inc hk hm (mv (vi ((aw+1:Nat):Int)) (RL.nil ?_)))))
  obtain rfl:=oi o
  exact⟨rfl,j.sp 4 [0,1,2]⟩
 rintro _ w ⟨O,rfl,j⟩
 refine aG (RC.sr (mv (vi ad) (RL.jo ad 1 ?_)))
 have j:=j.sc Int (IntKind.wrap .i64 (ad - 1))
 refine RL.build (⟨0,0,(IntKind.wrap .i64 (ad - 1)),⟨0,0⟩,⟨0,0⟩⟩:o0) trivial rfl j [(2,(vi (IntKind.wrap .i64 (ad - 1))))] rfl JF rfl (fun M hs g=>by have h:=Hf M;exact cH.cons (f:=fun(x:o0) y=>{x with gU:=y}) h DH (g.sat 0 _ rfl).1 fun _ h=>cH.nil h) fun ct j=>?_
 refine RL.alloc j HS.z fun ag w j=>?_
 refine RL.bA 0 j 1 zr Fv fun w j=>?_
 refine RL.ns (aP (vb false) (RL.nq (RC.sr (mv v0 (RL.bE 3 p0 j nL (mv (vi 0) (RL.nt ?_)))))))
 obtain⟨ab,hN,o⟩:=bd o
 refine RC.fold (fun(av:Nat) (ab:o0×Bool)=>SH E V [(1,v1),(4,vp ae 0),(5,vi ad),(11,vp ag 0),(12,vb ab.2),(50,v0),(51,vi p0.length),(52,vi av)] [rd v1 p1,raw 80 ae 7,bx 80 ag ab.1,rd v0 p0]) (fun(ab:o0×Bool)=>SH E V [(1,v1),(4,vp ae 0),(5,vi ad),(11,vp ag 0)] [rd v1 p1,raw 80 ae 7,bx 80 ag ab.1,rd v0 p0]) hN ?_ ?_ ?_ ?_
 ·exact j.sp 6 [4,5,0,3]
 ·rintro hm ab _ w ⟨O,rfl,j⟩
  refine RC.sr (ic ((p0.length:Int)) ((p0.length:Int)) (RL.nq (RC.cT mc (RC.ex ?_))))
  exact⟨rfl,j.sp 4 [0,1,2,3]⟩
 ·rintro hm av ab s' _ w hk ⟨O,rfl,j⟩ o
  refine RC.sr (ic ((av:Int)) ((p0.length:Int)) (RL.nq (RC.cS (mb hk) (RC.ss (RC.bs ?_)))))
  obtain⟨a4,bq,o⟩:=bd o
  refine RL.cB 3 j kd bq fun cu j=>(RL.bP 0 a4 j eZ fun cw j=>(RL.alloc j lU.z fun ax w j=>?_))
  refine RL.bA 0 j 1 zr eZ fun w j=>?_
  refine RL.ns (mv v1 (RL.bE 3 p1 j nL (mv (vi 0) (RL.nt ?_))))
  obtain⟨aj,hN,o⟩:=bd o
  refine RC.fold (fun(az:Nat) (aj:o0×Bool)=>SH E V [(1,v1),(4,vp ae 0),(5,vi ad),(11,vp ag 0),(12,vb aj.2),(14,vp ax 0),(50,v0),(51,vi p0.length),(52,vi av),(56,v1),(57,vi p1.length),(58,vi az)] [rd v1 p1,raw 80 ae 7,bx 80 ag aj.1,bx 50 ax a4,rd v0 p0]) (fun(aj:o0×Bool)=>SH E V [(1,v1),(4,vp ae 0),(5,vi ad),(11,vp ag 0),(12,vb aj.2),(50,v0),(51,vi p0.length),(52,vi av)] [rd v1 p1,raw 80 ae 7,bx 80 ag aj.1,bx 50 ax a4,rd v0 p0]) hN ?_ ?_ ?_ ?_
  ·exact j.sp 7 [3,4,5,0,6]
  ·rintro hm aj _ w ⟨O,rfl,j⟩
   refine RC.sr (ic ((p1.length:Int)) ((p1.length:Int)) (RL.nq (RC.cT mc (RC.ex ?_))))
   exact⟨rfl,j.sp 5 [0,1,2,3,4]⟩
  ·rintro hm az aj s' _ w hk ⟨O,rfl,j⟩ o
   refine RC.sr (ic ((az:Int)) ((p1.length:Int)) (RL.nq (RC.cS (mb hk) (RC.ss (RC.bs ?_)))))
   obtain⟨br,bt,o⟩:=bd o
   refine RL.cB 0 j kd bt fun cx j=>(RL.bP 0 br j eZ fun cy j=>(RL.alloc j lU.z fun cz w j=>?_))
   refine RL.bA 0 j 1 zr eZ fun w j=>?_
   refine RL.ns (RL.aX (f:=(fun x=>x)) 6 j zr Fd.self eZ fun bu j=>(RL.aX (f:=(fun x=>x)) 1 j zr Fd.self eZ fun bw j=>(mv (vi ad) ?_)))
   obtain⟨bz,b0,o⟩:=bd o
   refine RL.call zt zr HT [bu,bw,(vi ad)] zr (aF (rO N (p2:=ad) (i0:=1) (i1:=0) j zr zr b0) ?_)
   rintro c0 w j
   refine RL.alloc j GH.z fun bb w j=>?_
   refine RL.bA 0 j 1 zr rp fun w j=>?_
   refine RL.nq ?_
   obtain⟨a9,hj,o⟩:=bd o
   refine RC.jn (fun(a9:Bool)=>SH E V [(1,v1),(4,vp ae 0),(5,vi ad),(11,vp ag 0),(12,vb aj.2),(14,vp ax 0),(17,vp bb 0),(50,v0),(51,vi p0.length),(52,vi av),(56,v1),(57,vi p1.length),(58,vi az),(80,vb a9)] [rd v1 p1,raw 80 ae 7,bx 80 ag aj.1,bx 50 ax a4,bx 52 bb bz,rd v0 p0]) a9 ?_ ?_
   ·refine RC.region (RL.aX (f:=(fun x=>x)) 10 j zr Fd.self eZ fun b1 j=>(RL.aX (f:=(fun x=>x)) 5 j zr Fd.self eZ fun b2 j=>?_))
    obtain⟨bc,b3,hj⟩:=bd hj
    refine RL.call zt zr Fk [b1,b2] zr (aF (mT N (i0:=1) (i1:=0) j zr zr b3) ?_)
    rintro _ w ⟨rfl,j⟩
    refine mv (vi ad) (ic bc ad (mv (vb (bc==ad)) (fY hj (fun ak hj=>?_) fun ak hj=>?_)))
    rotate_left
    ·refine bR ak (bR ak (bR ak (yD (yD (yD (yD (bR ak (fV ak (vb false) ?_))))))))
     refine RL.nil ?_
     obtain rfl:=oi hj
     exact⟨rfl,j.sp 14 [9,10,11,12,2,13]⟩
    refine RL.move (vb aj.2) (cg ak) (RL.not (hg:=(cg ak)) aj.2 (RL.move (vb (!aj.2)) (cg ak) (fY hj (fun ao hj=>?_) fun ao hj=>?_)))
    ·refine bR ao (bR ao (bR ao (bR ao (fV ao (vb true) (hg:=(cg ak)) (fV ak (vb true) (RL.nil ?_))))))
     obtain rfl:=oi hj
     exact⟨rfl,j.sp 14 [9,10,11,12,2,13]⟩
    refine RL.aX (hg:=(cg ao)) (f:=(fun x=>x)) 2 j zr Fd.self rp fun b4 j=>(RL.aZ (hg:=(cg ao)) zr uD (RL.aX (hg:=(cg ao)) 12 j zr qf rp fun b5 j=>?_))
    obtain⟨bf,b6,hj⟩:=bd hj
    refine RL.call (cg ao) zr HU [b4,b5] zr (aF (rP N (i0:=1) (i1:=0) j zr zr b6) ?_)
    rintro _ w ⟨rfl,j⟩
    refine fV ao (vb bf) (hg:=(cg ak)) (fV ak (vb bf) (RL.nil ?_))
    obtain rfl:=oi hj
    exact⟨rfl,j.sp 16 [11,12,13,14,4,15]⟩
   rintro _ w ⟨O,rfl,j⟩
   refine aG ?_
   obtain⟨a6,hj,o⟩:=bd o
   refine RC.jn (fun(a6:o0×Bool)=>SH E V [(1,v1),(4,vp ae 0),(5,vi ad),(11,vp ag 0),(12,vb a6.2),(14,vp ax 0),(50,v0),(51,vi p0.length),(52,vi av),(56,v1),(57,vi p1.length),(58,vi az)] [rd v1 p1,raw 80 ae 7,bx 80 ag a6.1,bx 50 ax a4,rd v0 p0]) a6 ?_ ?_
   ·refine fH hj (fun hc hj=>?_) fun hc hj=>?_
    rotate_left
    ·refine RC.skip ?_
     obtain rfl:=oi hj
     exact⟨rfl,j.sp 6 [0,1,2,3,5]⟩
    refine RC.region (RL.aX (f:=(fun x=>x)) 4 j zr Fd.self rp fun c1 j=>(RL.aZ zr uD (RL.sW 3 j zr zr zr 0 zr DI rp fun w j=>?_)))
    refine aP (vb true) (RL.nil ?_)
    obtain rfl:=oi hj
    exact⟨rfl,j.sp 7 [1,2,3,4,6]⟩
   rintro _ w ⟨O,rfl,j⟩
   refine bT (aG (RC.region (RL.inc hk hm (mv (vi ((az+1:Nat):Int)) (RL.nil ?_)))))
   obtain rfl:=oi o
   exact⟨rfl,j.sp 5 [0,1,2,3,4]⟩
  rintro _ w ⟨O,rfl,j⟩
  refine bT (aG (RC.region (RL.inc hk hm (mv (vi ((av+1:Nat):Int)) (RL.nil ?_)))))
  obtain rfl:=oi o
  exact⟨rfl,j.sp 5 [0,1,2,4]⟩
 rintro _ w ⟨O,rfl,j⟩
 refine aG (RC.sr (RL.aZ zr uD (RL.aZ zr qj (RL.aK (f:=(fun x=>x.bM.X)) 2 j zr (Fd.comp (f:=fun(x:o0)=>x.bM) (fun(x:eF)=>x.X) qf kc) cG (RL.aZ zr uD (RL.aZ zr oh (RL.aK (f:=(fun x=>x.bM.Y)) 2 j zr (Fd.comp (f:=fun(x:o0)=>x.bM) (fun(x:eF)=>x.Y) qf iW) cG (RL.aZ zr uD ?_))))))))
 refine RL.aZ zr qj (RL.aK (f:=(fun x=>x.bM.X)) 2 j zr (Fd.comp (f:=fun(x:o0)=>x.bM) (fun(x:eF)=>x.X) qf kc) cG (RL.jo ab.1.bM.X 1 (RL.aZ zr uD (RL.aZ zr oh (RL.aK (f:=(fun x=>x.bM.Y)) 2 j zr (Fd.comp (f:=fun(x:o0)=>x.bM) (fun(x:eF)=>x.Y) qf iW) cG (RL.jo ab.1.bM.Y 1 ?_))))))
 have j:=(((j.sc Int ab.1.bM.X).sc Int ab.1.bM.Y).sc Int (IntKind.wrap .i64 (ab.1.bM.X+1))).sc Int (IntKind.wrap .i64 (ab.1.bM.Y+1))
 refine RL.build (⟨ab.1.bM.X,ab.1.bM.Y,(IntKind.wrap .i64 (ab.1.bM.X+1)),(IntKind.wrap .i64 (ab.1.bM.Y+1))⟩:aI) trivial rfl j [(0,vi ab.1.bM.X),(1,vi ab.1.bM.Y),(2,(vi (IntKind.wrap .i64 (ab.1.bM.X+1)))),(3,(vi (IntKind.wrap .i64 (ab.1.bM.Y+1))))] rfl A3 rfl (fun M hs g=>by have h:=qg M;exact cH.cons (f:=fun(x:aI) y=>{x with X0:=y}) h oG (g.sat 3 _ rfl).1 fun _ h=>cH.cons (f:=fun(x:aI) y=>{x with Y0:=y}) h qT (g.sat 2 _ rfl).1 fun _ h=>cH.cons (f:=fun(x:aI) y=>{x with X1:=y}) h mZ (g.sat 1 _ rfl).1 fun _ h=>cH.cons (f:=fun(x:aI) y=>{x with Y1:=y}) h oH (g.sat 0 _ rfl).1 fun _ h=>cH.nil h) fun c2 j=>?_
 refine RL.alloc j lU.z fun ay w j=>?_
 refine RL.bA 0 j 1 zr eZ fun w j=>?_
 refine RL.ns (aP (vb false) (RL.nq (RC.sr (mv v1 (RL.bE 6 p1 j nL (mv (vi 0) (RL.nt ?_)))))))
 obtain⟨an,hN,o⟩:=bd o
 refine RC.fold (fun(a0:Nat) (an:o0×Bool)=>SH E V [(4,vp ae 0),(5,vi ad),(11,vp ag 0),(12,vb an.2),(18,vp ay 0),(100,v1),(101,vi p1.length),(102,vi a0)] [raw 80 ae 7,bx 80 ag an.1,bx 50 ay (⟨ab.1.bM.X,ab.1.bM.Y,(IntKind.wrap .i64 (ab.1.bM.X+1)),(IntKind.wrap .i64 (ab.1.bM.Y+1))⟩:aI),rd v1 p1]) (fun(an:o0×Bool)=>SH E V [(4,vp ae 0),(11,vp ag 0)] [raw 80 ae 7,bx 80 ag an.1,bx 50 ay (⟨ab.1.bM.X,ab.1.bM.Y,(IntKind.wrap .i64 (ab.1.bM.X+1)),(IntKind.wrap .i64 (ab.1.bM.Y+1))⟩:aI),rd v1 p1]) hN ?_ ?_ ?_ ?_
 ·exact j.sp 10 [7,8,0,6]
 ·rintro hm an _ w ⟨O,rfl,j⟩
  refine RC.sr (ic ((p1.length:Int)) ((p1.length:Int)) (RL.nq (RC.cT mc (RC.ex ?_))))
  exact⟨rfl,j.sp 4 [0,1,2,3]⟩
 ·rintro hm a0 an s' _ w hk ⟨O,rfl,j⟩ o
  refine RC.sr (ic ((a0:Int)) ((p1.length:Int)) (RL.nq (RC.cS (mb hk) (RC.ss (RC.bs ?_)))))
  obtain⟨b7,b8,o⟩:=bd o
  refine RL.cB 3 j kd b8 fun c3 j=>(RL.bP 0 b7 j eZ fun c4 j=>(RL.alloc j lU.z fun c5 w j=>?_))
  refine RL.bA 0 j 1 zr eZ fun w j=>?_
  refine RL.ns (RL.aX (f:=(fun x=>x)) 0 j zr Fd.self eZ fun b9 j=>(RL.aX (f:=(fun x=>x)) 6 j zr Fd.self eZ fun ca j=>(mv (vi ad) ?_)))
  obtain⟨cb,cc,o⟩:=bd o
  refine RL.call zt zr HT [b9,ca,(vi ad)] zr (aF (rO N (p2:=ad) (i0:=1) (i1:=0) j zr zr cc) ?_)
  rintro c6 w j
  refine RL.alloc j GH.z fun bg w j=>?_
  refine RL.bA 0 j 1 zr rp fun w j=>?_
  refine RL.nq ?_
  obtain⟨ba,hj,o⟩:=bd o
  refine RC.jn (fun(ba:Bool)=>SH E V [(4,vp ae 0),(5,vi ad),(11,vp ag 0),(12,vb an.2),(18,vp ay 0),(21,vp bg 0),(100,v1),(101,vi p1.length),(102,vi a0),(124,vb ba)] [raw 80 ae 7,bx 80 ag an.1,bx 50 ay (⟨ab.1.bM.X,ab.1.bM.Y,(IntKind.wrap .i64 (ab.1.bM.X+1)),(IntKind.wrap .i64 (ab.1.bM.Y+1))⟩:aI),bx 52 bg cb,rd v1 p1]) ba ?_ ?_
  ·refine RC.region (RL.aX (f:=(fun x=>x)) 4 j zr Fd.self eZ fun cd j=>(RL.aX (f:=(fun x=>x)) 10 j zr Fd.self eZ fun cf j=>?_))
   obtain⟨bh,ch,hj⟩:=bd hj
   refine RL.call zt zr Fk [cd,cf] zr (aF (mT N (i0:=1) (i1:=0) j zr zr ch) ?_)
   rintro _ w ⟨rfl,j⟩
   refine mv (vi ad) (ic bh ad (mv (vb (bh==ad)) (fY hj (fun al hj=>?_) fun al hj=>?_)))
   rotate_left
   ·refine bR al (bR al (bR al (yD (yD (yD (yD (bR al (fV al (vb false) ?_))))))))
    refine RL.nil ?_
    obtain rfl:=oi hj
    exact⟨rfl,j.sp 13 [9,10,11,2,12]⟩
   refine RL.move (vb an.2) (cg al) (RL.not (hg:=(cg al)) an.2 (RL.move (vb (!an.2)) (cg al) (fY hj (fun aq hj=>?_) fun aq hj=>?_)))
   ·refine bR aq (bR aq (bR aq (bR aq (fV aq (vb true) (hg:=(cg al)) (fV al (vb true) (RL.nil ?_))))))
    obtain rfl:=oi hj
    exact⟨rfl,j.sp 13 [9,10,11,2,12]⟩
   refine RL.aX (hg:=(cg aq)) (f:=(fun x=>x)) 2 j zr Fd.self rp fun cj j=>(RL.aZ (hg:=(cg aq)) zr DY (RL.aX (hg:=(cg aq)) 11 j zr DJ rp fun ck j=>?_))
   obtain⟨bj,cl,hj⟩:=bd hj
   refine RL.call (cg aq) zr HU [cj,ck] zr (aF (rP N (i0:=1) (i1:=0) j zr zr cl) ?_)
   rintro _ w ⟨rfl,j⟩
   refine fV aq (vb bj) (hg:=(cg al)) (fV al (vb bj) (RL.nil ?_))
   obtain rfl:=oi hj
   exact⟨rfl,j.sp 15 [11,12,13,4,14]⟩
  rintro _ w ⟨O,rfl,j⟩
  refine aG ?_
  obtain⟨a7,hj,o⟩:=bd o
  refine RC.jn (fun(a7:o0×Bool)=>SH E V [(4,vp ae 0),(5,vi ad),(11,vp ag 0),(12,vb a7.2),(18,vp ay 0),(100,v1),(101,vi p1.length),(102,vi a0)] [raw 80 ae 7,bx 80 ag a7.1,bx 50 ay (⟨ab.1.bM.X,ab.1.bM.Y,(IntKind.wrap .i64 (ab.1.bM.X+1)),(IntKind.wrap .i64 (ab.1.bM.Y+1))⟩:aI),rd v1 p1]) a7 ?_ ?_
  ·refine fH hj (fun hc hj=>?_) fun hc hj=>?_
   rotate_left
   ·refine RC.skip ?_
    obtain rfl:=oi hj
    exact⟨rfl,j.sp 5 [0,1,2,4]⟩
   refine RC.region (RL.aX (f:=(fun x=>x)) 3 j zr Fd.self rp fun c7 j=>(RL.aZ zr DY (RL.sW 2 j zr zr zr 0 zr DK rp fun w j=>?_)))
   refine aP (vb true) (RL.nil ?_)
   obtain rfl:=oi hj
   exact⟨rfl,j.sp 6 [1,2,3,5]⟩
  rintro _ w ⟨O,rfl,j⟩
  refine bT (aG (RC.region (RL.inc hk hm (mv (vi ((a0+1:Nat):Int)) (RL.nil ?_)))))
  obtain rfl:=oi o
  exact⟨rfl,j.sp 4 [0,1,2,3]⟩
 rintro _ w ⟨O,rfl,j⟩
 refine aG (RC.sr (RL.aX (f:=(fun x=>x)) 1 j zr Fd.self Fv fun c8 j=>(RL.bA 1 j 0 zr Fv fun w j=>?_)))
 refine RL.nt (RC.ret ?_)
 obtain rfl:=oi o
 exact Dl 1 zr j zr zr Fv fun c9 j=>(j.pk 6 [0])
def wx (E:World) (V:List HP) (b0:Nat) (v0_0 v0_1:Value) (v0_2 v0_3:Value) (v0_4 v0_5:Value) (v0_6 v0_7:Value) (v0_8 v0_9:Value) (v0_10 v0_11:Value) (res: (List bY)×Int) (v:Value) (w:World):Prop:=∃u0:Value,v = .tuple #[u0,(vi res.2)]/\Holds E w ([own 40 u0 res.1,bc 69 b0 [v0_0,v0_1,v0_2,v0_3,v0_4,v0_5,v0_6,v0_7,v0_8,v0_9,v0_10,v0_11]]++V)
theorem vz {p0_0: (List (List aI))} {p0_1: (List aI)} {p0_2: (List bU)} {p0_3: (List cV)} {p0_4: (List (List aA))} {p0_5: (List aH)} {p0_6: (List (List Int))} {p0_7: (List cL)} {p0_8: (List Int)} {p0_9: (List Int)} {p0_10: (List Int)} {p0_11: (List dO)} {res: (List bY)×Int} (j:Holds E w (bc 69 b0 [v0_0,v0_1,v0_2,v0_3,v0_4,v0_5,v0_6,v0_7,v0_8,v0_9,v0_10,v0_11]::rd v0_0 p0_0::rd v0_1 p0_1::rd v0_2 p0_2::rd v0_3 p0_3::rd v0_4 p0_4::rd v0_5 p0_5::rd v0_6 p0_6::rd v0_7 p0_7::rd v0_8 p0_8::rd v0_9 p0_9::rd v0_10 p0_10::rd v0_11 p0_11::V)) (o:lE N p0_0 p0_1 p0_2 p0_3 p0_4 p0_5 p0_6 p0_7 p0_8 p0_9 p0_10 p0_11 p1=some res):
    Calls bF 8 [(vp b0 0),(vi p1)].toArray w (gT (wx E V b0 v0_0 v0_1 v0_2 v0_3 v0_4 v0_5 v0_6 v0_7 v0_8 v0_9 v0_10 v0_11 res)):=by
 unfold lE at o
 refine enter Tryz.func8 zr zr (RC.sr (RL.Dq (vp b0 0) zt zr j zr zr fun ad w j=>?_))
 refine aP (.slice none 0 0) (aP (vi 0) (RL.nq (RC.sr (mv (vi p1) ?_))))
 obtain⟨bl,bm,o⟩:=bd o
 refine RL.call zt zr GF [(vi p1),(vi 0),(vi 100000)] zr (aF (mG N (p0:=p1) (p1:=0) (p2:=100000) j bm) ?_)
 rintro _ w ⟨rfl,j⟩
 refine RL.not bl (RL.nt (fH o (fun hc o=>?_) fun hc o=>?_))
 ·refine RC.sr (aP (.slice none 0 0) (aP (vi 1) (RL.nt (RC.rt ?_))))
  obtain rfl:=oi o
  have j:=j.dB bY 40
  exact ma ⟨(.slice none 0 0),zr,j.pk 15 [0,2]⟩
 refine RC.sx (RL.oE j JD fun aa w j=>?_)
 refine RL.ns (RL.makeFunc [(vp ad 0),(vp aa 0)] (aP (.func (.func 22) #[] #[(vp ad 0),(vp aa 0)]) (RL.nq (RC.sr (RL.aU 1 (vp b0 0) j vr (RL.nilCheck zr (RL.aZ zr uC (RL.aU 2 v0_8 j eU ?_))))))))
 refine RL.bE 11 p0_8 j lx (mv (vi 0) (RL.nt ?_))
 obtain⟨ax,hN,o⟩:=bd o
 refine RC.fold (fun(ai:Nat) (ax: (List bY)) U w=>∃bb:Value,SH E V [(0,vp b0 0),(1,vi p1),(2,vp ad 0),(6,vp aa 0),(7,(.func (.func 22) #[] #[(vp ad 0),(vp aa 0)])),(22,v0_8),(23,vi p0_8.length),(24,vi ai)] [bc 69 b0 [v0_0,v0_1,v0_2,v0_3,v0_4,v0_5,v0_6,v0_7,v0_8,v0_9,v0_10,v0_11],rd v0_0 p0_0,rd v0_1 p0_1,rd v0_2 p0_2,rd v0_3 p0_3,rd v0_4 p0_4,rd v0_5 p0_5,rd v0_6 p0_6,rd v0_7 p0_7,rd v0_8 p0_8,rd v0_9 p0_9,rd v0_10 p0_10,rd v0_11 p0_11,bc 42 ad [(vp b0 0)],bc 30 aa [bb],own 40 bb ax] U w) (fun(ax: (List bY)) U w=>∃a1:Value,SH E V [(0,vp b0 0),(1,vi p1),(2,vp ad 0),(6,vp aa 0),(7,(.func (.func 22) #[] #[(vp ad 0),(vp aa 0)]))] [bc 69 b0 [v0_0,v0_1,v0_2,v0_3,v0_4,v0_5,v0_6,v0_7,v0_8,v0_9,v0_10,v0_11],rd v0_0 p0_0,rd v0_1 p0_1,rd v0_2 p0_2,rd v0_3 p0_3,rd v0_4 p0_4,rd v0_5 p0_5,rd v0_6 p0_6,rd v0_7 p0_7,rd v0_8 p0_8,rd v0_9 p0_9,rd v0_10 p0_10,rd v0_11 p0_11,bc 42 ad [(vp b0 0)],bc 30 aa [a1],own 40 a1 ax] U w) hN ?_ ?_ ?_ ?_
 ·have j:=j.dB bY 40
  exact⟨(.slice none 0 0),j.sp 16 [3,4,5,6,7,8,9,10,11,12,13,14,15,2,1,0]⟩
 ·rintro hm ax _ w ⟨bn,O,rfl,j⟩
  refine RC.sr (ic ((p0_8.length:Int)) ((p0_8.length:Int)) (RL.nq (RC.cT mc (RC.ex ?_))))
  exact⟨rfl,bn,j.sp 16 [0,1,2,3,4,5,6,7,8,9,10,11,12,13,14,15]⟩
 ·rintro hm ai ax s' _ w hk ⟨ch,O,rfl,j⟩ o
  refine RC.sr (ic ((ai:Int)) ((p0_8.length:Int)) (RL.nq (RC.cS (mb hk) (RC.ss (RC.bs (mv (vi ai) ?_))))))
  obtain⟨az,bo,o⟩:=bd o
  refine RL.cB 9 j eE bo fun cj j=>(RL.bG az 0 j cG (aP (vi ai) (aP (vi az) (RL.nt (RC.region (mv (.func (.func 22) #[] #[(vp ad 0),(vp aa 0)]) (mv (vi ai) ?_)))))))
  have j:=j.sc Int (ai:Int)
  refine RL.build (⟨false,(ai:Int)⟩:dO) trivial rfl j [(1,vi ai)] rfl CI rfl (fun M hs g=>by have h:=v9 M;exact cH.cons (f:=fun(x:dO) y=>{x with Number:=y}) h tm (g.sat 0 _ rfl).1 fun _ h=>cH.nil h) fun bp j=>?_
  refine mv (vi az) ?_
  have j:=((((j.dup 11 rfl).pull 4).pull 20).pull 20).pull 20
  obtain⟨ck,bq,o⟩:=bd o
  refine RL.nT [(vp ad 0),(vp aa 0)] HR [bp,(vi az)] (aF (nz N (p1:=az) (i0:=0) j zr bq) ?_)
  rintro _ w ⟨br,rfl,j⟩
  refine RL.nil (bT (aG (RC.region (RL.inc hk hm (mv (vi ((ai+1:Nat):Int)) (RL.nil ?_))))))
  obtain rfl:=oi o
  exact⟨rfl,br,j.sp 23 [3,8,9,10,11,12,13,14,15,16,17,18,19,0,1,2]⟩
 rintro _ w ⟨a1,O,rfl,j⟩
 refine aG (RC.seq (RC.sr (RL.aU 13 (vp b0 0) j vr (RL.nilCheck zr (RL.aZ zr wj (RL.aU 0 v0_9 j eU (RL.bE 10 p0_9 j lx (mv (vi 0) ?_))))))))
 refine RL.nt ?_
 obtain⟨ay,hN,o⟩:=bd o
 refine RC.fold (fun(aj:Nat) (ay: (List bY)) U w=>∃bf:Value,SH E V [(0,vp b0 0),(1,vi p1),(2,vp ad 0),(6,vp aa 0),(7,(.func (.func 22) #[] #[(vp ad 0),(vp aa 0)])),(38,v0_9),(39,vi p0_9.length),(40,vi aj)] [bc 69 b0 [v0_0,v0_1,v0_2,v0_3,v0_4,v0_5,v0_6,v0_7,v0_8,v0_9,v0_10,v0_11],rd v0_0 p0_0,rd v0_1 p0_1,rd v0_2 p0_2,rd v0_3 p0_3,rd v0_4 p0_4,rd v0_5 p0_5,rd v0_6 p0_6,rd v0_7 p0_7,rd v0_8 p0_8,rd v0_9 p0_9,rd v0_10 p0_10,rd v0_11 p0_11,bc 42 ad [(vp b0 0)],bc 30 aa [bf],own 40 bf ay] U w) (fun(ay: (List bY)) U w=>∃a2:Value,SH E V [(0,vp b0 0),(1,vi p1),(2,vp ad 0),(6,vp aa 0)] [bc 69 b0 [v0_0,v0_1,v0_2,v0_3,v0_4,v0_5,v0_6,v0_7,v0_8,v0_9,v0_10,v0_11],rd v0_0 p0_0,rd v0_1 p0_1,rd v0_2 p0_2,rd v0_3 p0_3,rd v0_4 p0_4,rd v0_5 p0_5,rd v0_6 p0_6,rd v0_7 p0_7,rd v0_8 p0_8,rd v0_9 p0_9,rd v0_10 p0_10,rd v0_11 p0_11,bc 42 ad [(vp b0 0)],bc 30 aa [a2],own 40 a2 ay] U w) hN ?_ ?_ ?_ ?_
 ·exact⟨a1,j.sp 16 [0,1,2,3,4,5,6,7,8,9,10,11,12,13,14,15]⟩
 ·rintro hm ay _ w ⟨bt,O,rfl,j⟩
  refine RC.sr (ic ((p0_9.length:Int)) ((p0_9.length:Int)) (RL.nq (RC.cT mc (RC.ex ?_))))
  exact⟨rfl,bt,j.sp 16 [0,1,2,3,4,5,6,7,8,9,10,11,12,13,14,15]⟩
 ·rintro hm aj ay s' _ w hk ⟨cl,O,rfl,j⟩ o
  refine RC.sr (ic ((aj:Int)) ((p0_9.length:Int)) (RL.nq (RC.cS (mb hk) (RC.ss (RC.bs (mv (vi aj) ?_))))))
  obtain⟨a0,bu,o⟩:=bd o
  refine RL.cB 10 j eE bu fun cm j=>(RL.bG a0 0 j cG (aP (vi aj) (aP (vi a0) (RL.nt (RC.region (mv (.func (.func 22) #[] #[(vp ad 0),(vp aa 0)]) (mv (vi aj) ?_)))))))
  have j:=(j.sc Bool true).sc Int (aj:Int)
  refine RL.build (⟨true,(aj:Int)⟩:dO) trivial rfl j [(0,vb true),(1,vi aj)] rfl CI rfl (fun M hs g=>by have h:=v9 M;exact cH.cons (f:=fun(x:dO) y=>{x with bU:=y}) h zZ (g.sat 1 _ rfl).1 fun _ h=>cH.cons (f:=fun(x:dO) y=>{x with Number:=y}) h tm (g.sat 0 _ rfl).1 fun _ h=>cH.nil h) fun bw j=>?_
  refine mv (vi a0) ?_
  have j:=((((j.dup 12 rfl).pull 5).pull 21).pull 21).pull 21
  obtain⟨cn,bz,o⟩:=bd o
  refine RL.nT [(vp ad 0),(vp aa 0)] HR [bw,(vi a0)] (aF (nz N (p1:=a0) (i0:=0) j zr bz) ?_)
  rintro _ w ⟨b1,rfl,j⟩
  refine RL.nil (bT (aG (RC.region (RL.inc hk hm (mv (vi ((aj+1:Nat):Int)) (RL.nil ?_))))))
  obtain rfl:=oi o
  exact⟨rfl,b1,j.sp 24 [3,9,10,11,12,13,14,15,16,17,18,19,20,0,1,2]⟩
 rintro _ w ⟨a2,O,rfl,j⟩
 refine aG (RC.seq (RC.sr (RL.aU 13 (vp b0 0) j vr (RL.nilCheck zr (RL.aZ zr mE (RL.aU 0 v0_5 j vq (RL.bE 6 p0_5 j z8 (mv (vi 0) ?_))))))))
 refine RL.nt ?_
 obtain⟨ao,hN,o⟩:=bd o
 refine RC.fold (fun(ah:Nat) (ao: (List bY)) U w=>∃bg:Value,SH E V [(0,vp b0 0),(1,vi p1),(2,vp ad 0),(6,vp aa 0),(54,v0_5),(55,vi p0_5.length),(56,vi ah)] [bc 69 b0 [v0_0,v0_1,v0_2,v0_3,v0_4,v0_5,v0_6,v0_7,v0_8,v0_9,v0_10,v0_11],rd v0_0 p0_0,rd v0_1 p0_1,rd v0_2 p0_2,rd v0_3 p0_3,rd v0_4 p0_4,rd v0_5 p0_5,rd v0_6 p0_6,rd v0_7 p0_7,rd v0_8 p0_8,rd v0_9 p0_9,rd v0_10 p0_10,rd v0_11 p0_11,bc 42 ad [(vp b0 0)],bc 30 aa [bg],own 40 bg ao] U w) (fun(ao: (List bY)) U w=>∃av:Value,SH E V [(0,vp b0 0),(6,vp aa 0)] [bc 69 b0 [v0_0,v0_1,v0_2,v0_3,v0_4,v0_5,v0_6,v0_7,v0_8,v0_9,v0_10,v0_11],rd v0_0 p0_0,rd v0_1 p0_1,rd v0_2 p0_2,rd v0_3 p0_3,rd v0_4 p0_4,rd v0_5 p0_5,rd v0_6 p0_6,rd v0_7 p0_7,rd v0_8 p0_8,rd v0_9 p0_9,rd v0_10 p0_10,rd v0_11 p0_11,bc 42 ad [(vp b0 0)],bc 30 aa [av],own 40 av ao] U w) hN ?_ ?_ ?_ ?_
 ·exact⟨a2,j.sp 16 [0,1,2,3,4,5,6,7,8,9,10,11,12,13,14,15]⟩
 ·rintro hm ao _ w ⟨b2,O,rfl,j⟩
  refine RC.sr (ic ((p0_5.length:Int)) ((p0_5.length:Int)) (RL.nq (RC.cT mc (RC.ex ?_))))
  exact⟨rfl,b2,j.sp 16 [0,1,2,3,4,5,6,7,8,9,10,11,12,13,14,15]⟩
 ·rintro hm ah ao s' _ w hk ⟨b3,O,rfl,j⟩ o
  refine RC.sr (ic ((ah:Int)) ((p0_5.length:Int)) (RL.nq (RC.cS (mb hk) (RC.ss (RC.bs (mv (vi ah) ?_))))))
  obtain⟨aq,b4,o⟩:=bd o
  refine RL.cB 6 j CF b4 fun cp j=>(RL.bP 0 aq j CG fun cq j=>(RL.alloc j Fm.z fun ak w j=>?_))
  refine aP (vi ah) (RL.bA 0 j 1 zr CG fun w j=>?_)
  refine RL.ns (mv (vi ah) (RL.jo (ah:Int) 1 (aP (vi (IntKind.wrap .i64 ((ah:Int)+1))) (RL.nt ?_))))
  obtain⟨cr,hN,o⟩:=bd o
  refine RC.iter (fun(af: (List bY)×Int) U w=>∃bh:Value,SH E V [(0,vp b0 0),(1,vi p1),(2,vp ad 0),(6,vp aa 0),(12,vi ah),(13,vp ak 0),(14,vi af.2),(54,v0_5),(55,vi p0_5.length),(56,vi ah)] [bc 69 b0 [v0_0,v0_1,v0_2,v0_3,v0_4,v0_5,v0_6,v0_7,v0_8,v0_9,v0_10,v0_11],rd v0_0 p0_0,rd v0_1 p0_1,rd v0_2 p0_2,rd v0_3 p0_3,rd v0_4 p0_4,rd v0_5 p0_5,rd v0_6 p0_6,rd v0_7 p0_7,rd v0_8 p0_8,rd v0_9 p0_9,rd v0_10 p0_10,rd v0_11 p0_11,bc 42 ad [(vp b0 0)],bc 30 aa [bh],own 40 bh af.1,bx 78 ak aq] U w) (fun(af: (List bY)×Int) U w=>∃a3:Value,SH E V [(0,vp b0 0),(1,vi p1),(2,vp ad 0),(6,vp aa 0),(54,v0_5),(55,vi p0_5.length),(56,vi ah)] [bc 69 b0 [v0_0,v0_1,v0_2,v0_3,v0_4,v0_5,v0_6,v0_7,v0_8,v0_9,v0_10,v0_11],rd v0_0 p0_0,rd v0_1 p0_1,rd v0_2 p0_2,rd v0_3 p0_3,rd v0_4 p0_4,rd v0_5 p0_5,rd v0_6 p0_6,rd v0_7 p0_7,rd v0_8 p0_8,rd v0_9 p0_9,rd v0_10 p0_10,rd v0_11 p0_11,bc 42 ad [(vp b0 0)],bc 30 aa [a3],own 40 a3 af.1,bx 78 ak aq] U w) (fun(r:Empty) _ _=>r.elim) hN ?_ ?_ ?_ ?_
  ·exact⟨b3,j.sp 19 [3,4,5,6,7,8,9,10,11,12,13,14,15,16,17,18,0]⟩
  ·rintro af fl _ w ⟨aw,O,rfl,j⟩ o
   refine RC.seq (RC.seq ?_)
   obtain⟨a5,hj,o⟩:=bd o
   refine RC.jn (fun(a5:Bool)=>SH E V [(0,vp b0 0),(1,vi p1),(2,vp ad 0),(6,vp aa 0),(12,vi ah),(13,vp ak 0),(14,vi af.2),(54,v0_5),(55,vi p0_5.length),(56,vi ah),(82,vb a5)] [bc 69 b0 [v0_0,v0_1,v0_2,v0_3,v0_4,v0_5,v0_6,v0_7,v0_8,v0_9,v0_10,v0_11],rd v0_0 p0_0,rd v0_1 p0_1,rd v0_2 p0_2,rd v0_3 p0_3,rd v0_4 p0_4,rd v0_5 p0_5,rd v0_6 p0_6,rd v0_7 p0_7,rd v0_8 p0_8,rd v0_9 p0_9,rd v0_10 p0_10,rd v0_11 p0_11,bc 42 ad [(vp b0 0)],bc 30 aa [aw],own 40 aw af.1,bx 78 ak aq]) a5 ?_ ?_
   ·refine RC.xf mixed ?_
    have j:=j.drew
    refine RO.go (mv (vi af.2) (RO.nx (RL.aU 13 (vp b0 0) j vr (RO.nx (RL.nilCheck zr (RO.nx (RL.aZ zr mE (RO.nx ?_))))))))
    refine RL.aU 0 v0_5 j vq (RO.nx (RL.bE 6 p0_5 j z8 (RO.nx (ic af.2 ((p0_5.length:Int)) (RO.nx (mv (vb (decide (af.2< (p0_5.length:Int)))) (fY hj (fun ag hj=>?_) fun ag hj=>?_)))))))
    rotate_left
    ·refine RO.nx (bR ag (RO.nx (bR ag (RO.nx (bR ag (RO.nx (bR ag (RO.nx ?_))))))))
     refine bR ag (RO.nx (bR ag (RO.nx (bR ag (RO.nx (bR ag (RO.nx (bR ag ?_))))))))
     refine RO.nx (bR ag (RO.nx (bR ag (RO.nx (fV ag (vb false) (RO.last ?_))))))
     obtain rfl:=oi hj
     exact⟨rfl,j.sp 17 [0,1,2,3,4,5,6,7,8,9,10,11,12,13,14,15,16]⟩
    refine RO.nx (RL.aU (hg:=(cg ag)) 13 (vp b0 0) j vr (RO.nx (RL.nilCheck (hg:=(cg ag)) zr (RO.nx (RL.aZ (hg:=(cg ag)) zr mE (RO.nx (RL.aU (hg:=(cg ag)) 0 v0_5 j vq (RO.nx ?_))))))))
    refine RL.move (vi af.2) (cg ag) (RO.nx ?_)
    obtain⟨a6,b5,hj⟩:=bd hj
    refine RL.cB (hg:=(cg ag)) 6 j CF b5 fun cu j=>(RO.nx (RL.ig (hg:=(cg ag)) 0 j zr yI jU fun cv j=>(RO.nx (RL.bG (hg:=(cg ag)) a6.cR 0 j cG (RO.nx (RL.aZ (hg:=(cg ag)) zr yI (RO.nx (RL.aK (hg:=(cg ag)) 18 j zr jU cG ?_))))))))
    refine RO.nx (RL.jY a6.cR aq.cR (cg ag) (RO.nx (fV ag (vb (a6.cR==aq.cR)) (RO.last ?_))))
    obtain rfl:=oi hj
    exact⟨rfl,j.sp 19 [2,3,4,5,6,7,8,9,10,11,12,13,14,15,16,17,18]⟩
   rintro _ w ⟨O,rfl,j⟩
   refine aG (fH o (fun hc o=>?_) fun hc o=>?_)
   rotate_left
   ·refine RC.ex ?_
    obtain rfl:=oi o
    exact⟨rfl,aw,j.sp 17 [0,1,2,3,4,5,6,7,8,9,10,11,12,13,14,15,16]⟩
   refine RC.ss (RC.block (RC.seq ?_))
   obtain⟨a7,hj,o⟩:=bd o
   refine RC.jn (fun(a7:Bool)=>SH E V [(0,vp b0 0),(1,vi p1),(2,vp ad 0),(6,vp aa 0),(12,vi ah),(13,vp ak 0),(14,vi af.2),(54,v0_5),(55,vi p0_5.length),(56,vi ah),(115,vb a7)] [bc 69 b0 [v0_0,v0_1,v0_2,v0_3,v0_4,v0_5,v0_6,v0_7,v0_8,v0_9,v0_10,v0_11],rd v0_0 p0_0,rd v0_1 p0_1,rd v0_2 p0_2,rd v0_3 p0_3,rd v0_4 p0_4,rd v0_5 p0_5,rd v0_6 p0_6,rd v0_7 p0_7,rd v0_8 p0_8,rd v0_9 p0_9,rd v0_10 p0_10,rd v0_11 p0_11,bc 42 ad [(vp b0 0)],bc 30 aa [aw],own 40 aw af.1,bx 78 ak aq]) a7 ?_ ?_
   ·refine RC.yC mixed [0,0,0,0,0,0,0,0,0,0,0,0,0,0,0,0,0,0,0,0,0,0,0,0,0,0,2,0,1,0,0] [0,1,2,3,4,5,6,7,8,9,10,11,12,13,14,15,16,17,18,19,20,21,22,23,24,25,28,26,27,29,30] ?_
    have j:=j.drew
    refine DP.e0 zr (RL.aU 13 (vp b0 0) j vr (cE zr (RL.nilCheck zr (cE zr (RL.aZ zr uC (cE zr (RL.aU 0 v0_8 j eU (cE zr ?_))))))))
    refine mv (vi ah) (cE zr ?_)
    obtain⟨a8,b6,hj⟩:=bd hj
    refine RL.cB 9 j eE b6 fun cw j=>(cE zr (RL.bG a8 0 j cG (cE zr (RL.aU 14 (vp b0 0) j vr (cE zr (RL.nilCheck zr (cE zr (RL.aZ zr uC ?_))))))))
    refine cE zr (RL.aU 1 v0_8 j eU (cE zr (mv (vi af.2) (cE zr ?_))))
    obtain⟨a9,b7,hj⟩:=bd hj
    refine RL.cB 10 j eE b7 fun cx j=>(cE zr (RL.bG a9 0 j cG (cE zr (ic a8 a9 (cE zr (mv (vb (a8 != a9)) (DP.d0 (fY hj (fun ab hj=>?_) fun ab hj=>?_))))))))
    rotate_left
    ·refine DP.e0 zr (bR ab (cE zr (bR ab (cE zr (bR ab (cE zr (bR ab (cE zr ?_))))))))
     refine bR ab (cE zr (bR ab (cE zr (bR ab (cE zr (bR ab (cE zr (bR ab ?_))))))))
     refine cE zr (bR ab (DP.d0 (DP.e1 undef zr (fun w=>bR ab DP.d1) (DP.e2 zr (bR ab (AI zr (bR ab (cE zr ?_))))))))
     refine bR ab (cE zr (fV ab (vb false) (DP.d0 (DP.z ?_))))
     obtain rfl:=oi hj
     exact⟨rfl,j.sp 19 [2,3,4,5,6,7,8,9,10,11,12,13,14,15,16,17,18]⟩
    refine DP.e0 zr (RL.aZ (hg:=(cg ab)) zr yJ (cE zr (RL.aX (hg:=(cg ab)) 18 j zr jV we fun b8 j=>(cE zr (RL.aU (hg:=(cg ab)) 16 (vp b0 0) j vr (cE zr (RL.nilCheck (hg:=(cg ab)) zr (cE zr ?_))))))))
    refine RL.aZ (hg:=(cg ab)) zr mE (cE zr (RL.aU (hg:=(cg ab)) 3 v0_5 j vq (cE zr (RL.move (vi af.2) (cg ab) (cE zr ?_)))))
    obtain⟨b9,ca,hj⟩:=bd hj
    refine RL.cB (hg:=(cg ab)) 9 j CF ca fun cy j=>(cE zr (RL.ig (hg:=(cg ab)) 0 j zr yJ jV fun cz j=>(cE zr (RL.bP (hg:=(cg ab)) 0 b9.iD j we fun cb j=>(DP.d0 (DP.e1 (vi p1) zr (fun w=>RL.move (vi p1) (cg ab) DP.d1) (DP.e2 zr ?_)))))))
    obtain⟨bj,cc,hj⟩:=bd hj
    refine RL.call (cg ab) zr JH [b8,cb] zr (aF (wv N (i0:=3) (i1:=0) j zr zr cc) ?_)
    rintro c0 w j
    refine AI zr (RL.Cr (i:=0) (f:=fun(x:o0)=>x.gU) (cg ab) zr j zr zr zr GI DG cG (cE zr (RL.jY bj.gU p1 (cg ab) (cE zr (fV ab (vb (decide (bj.gU<p1))) (DP.d0 (DP.z ?_)))))))
    obtain rfl:=oi hj
    exact⟨rfl,j.sp 24 [7,8,9,10,11,12,13,14,15,16,17,18,19,20,21,22,23]⟩
   rintro _ w ⟨O,rfl,j⟩
   refine aG ?_
   obtain⟨ba,hj,o⟩:=bd o
   refine RC.jn (fun(ba: (List bY)) U w=>∃a4:Value,SH E V [(0,vp b0 0),(1,vi p1),(2,vp ad 0),(6,vp aa 0),(12,vi ah),(13,vp ak 0),(14,vi af.2),(54,v0_5),(55,vi p0_5.length),(56,vi ah)] [bc 69 b0 [v0_0,v0_1,v0_2,v0_3,v0_4,v0_5,v0_6,v0_7,v0_8,v0_9,v0_10,v0_11],rd v0_0 p0_0,rd v0_1 p0_1,rd v0_2 p0_2,rd v0_3 p0_3,rd v0_4 p0_4,rd v0_5 p0_5,rd v0_6 p0_6,rd v0_7 p0_7,rd v0_8 p0_8,rd v0_9 p0_9,rd v0_10 p0_10,rd v0_11 p0_11,bc 42 ad [(vp b0 0)],bc 30 aa [a4],own 40 a4 ba,bx 78 ak aq] U w) ba ?_ ?_
   ·refine fH hj (fun hc hj=>?_) fun hc hj=>?_
    rotate_left
    ·refine RC.skip ?_
     obtain rfl:=oi hj
     exact⟨rfl,aw,j.sp 17 [0,1,2,3,4,5,6,7,8,9,10,11,12,13,14,15,16]⟩
    refine RC.region (RL.aU 14 aw j CJ (mv (vi ah) (mv (vi af.2) ?_)))
    have j:=(j.sc Int (ah:Int)).sc Int af.2
    refine RL.build (⟨false,⟨false,0⟩,(ah:Int),af.2⟩:bY) trivial rfl j [(2,vi ah),(3,vi af.2)] rfl HQ rfl (fun M hs g=>by have h:=DM M;exact cH.cons (f:=fun(x:bY) y=>{x with A:=y}) h Cw (g.sat 1 _ rfl).1 fun _ h=>cH.cons (f:=fun(x:bY) y=>{x with B:=y}) h Cx (g.sat 0 _ rfl).1 fun _ h=>cH.nil h) fun cd j=>?_
    refine RL.eP ([(⟨false,⟨false,0⟩,(ah:Int),af.2⟩:bY)]: (List bY)) j [cd] vt yL (fun M hs g=>⟨(g.sat 0 _ zr).1,zt⟩) fun c1 w j=>?_
    have j:=j.freeze 0
    obtain⟨c2,cf,hj⟩:=bd hj
    refine RL.app 19 0 j GG cf fun bk w j=>?_
    refine RL.gz 18 bk j zr zr (gZ 19 j) CJ fun w j=>?_
    refine RL.nil ?_
    obtain rfl:=oi hj
    exact⟨rfl,bk,j.sp 21 [4,5,6,7,8,9,10,11,12,13,14,15,16,17,18,19,20]⟩
   rintro _ w ⟨a4,O,rfl,j⟩
   refine bT (aG (RC.region (mv (vi af.2) (RL.jo af.2 1 (aP (vi (IntKind.wrap .i64 (af.2+1))) (RL.nil ?_))))))
   obtain rfl:=oi o
   exact⟨rfl,a4,j.sp 17 [0,1,2,3,4,5,6,7,8,9,10,11,12,13,14,15,16]⟩
  ·intro r _ _ _ _
   exact r.elim
  rintro af _ w rfl ⟨a3,O,rfl,j⟩
  rw [Fo.gx] at o
  refine bT (aG (RC.region (RL.inc hk hm (mv (vi ((ah+1:Nat):Int)) (RL.nil ?_)))))
  obtain rfl:=oi o
  exact⟨rfl,a3,j.sp 17 [0,1,2,3,4,5,6,7,8,9,10,11,12,13,14,15]⟩
 rintro _ w ⟨av,O,rfl,j⟩
 refine aG (RC.seq (RC.sr (RL.aU 14 av j CJ (RL.fA 15 ao j yM (ic ((ao.length:Int)) 20000 (RL.nt (fH o (fun hc o=>?_) fun hc o=>?_)))))))
 ·refine RC.sr (aP (.slice none 0 0) (aP (vi 2) (RL.nt (RC.rt ?_))))
  obtain rfl:=oi o
  have j:=j.dB bY 40
  exact ma ⟨(.slice none 0 0),zr,j.pk 17 [0,1]⟩
 refine RC.sx (RL.aU 14 av j CJ (aP av (aP (vi 0) (RL.nt (RC.ret ?_)))))
 obtain rfl:=oi o
 exact ma ⟨av,zr,j.pk 16 [15,0]⟩
theorem mM {p0:dO} (j:Holds E w V) (h0:V[i0]? =some (rd v0 p0)) (h1:V[i1]? =some (pt v1 p1)) (o:fL N p0 p1=some res):
    Calls bF 24 [v0,v1].toArray w (gT (aQ E V res)):=by
 unfold fL at o
 refine enter Tryz.func24 zr zr ?_
 have j:=(j.dup (i0+0) h0).vL (i:=i1+1) h1
 refine RC.sr (RL.dD 1 v0 j zr fun ab w j=>?_)
 refine aP (vi 0) (RL.nq (RC.sr (RL.aZ zr Bc (RL.aK 0 j zr v8 xU (RL.nt (fH o (fun hc o=>?_) fun hc o=>?_))))))
 rotate_left
 ·refine RC.sx (RL.aZ zr sg (RL.aK 0 j zr nj cG (aP (vi p0.Number) (RL.nt (RC.ret ?_)))))
  obtain rfl:=oi o
  exact cI ⟨rfl,j.drop 3⟩
 refine RC.sr (RL.bG p1 1 j cG (RL.aZ zr sg (RL.aK 0 j zr nj cG (RL.jo p1 p0.Number (aP (vi (IntKind.wrap .i64 (p1+p0.Number))) (RL.nt (RC.rt ?_)))))))
 obtain rfl:=oi o
 exact cI ⟨rfl,j.drop 3⟩
def sD (E:World) (V:List HP) (b2:Nat) (v2_0:Value) (p2_0: (List (Int×Bool))) (b3 b3h:Nat) (res: (List Int)) (v:Value) (w:World):Prop:=∃u3h_0:Value,v = .tuple #[]/\Holds E w ([bc 83 b2 [v2_0],mp v2_0 p2_0,bc 84 b3 [(vp b3h 0)],bc 117 b3h [u3h_0],own 3 u3h_0 res]++V)
theorem mN {p2_0: (List (Int×Bool))} {p3h_0: (List Int)} {res: (List Int)} (j:Holds E w (bc 83 b2 [v2_0]::mp v2_0 p2_0::bc 84 b3 [(vp b3h 0)]::bc 117 b3h [v3h_0]::own 3 v3h_0 p3h_0::V)) (hb:gl N p0 p1 p2_0 p3h_0=some res):
    Calls bF 26 [(vi p0),(vi p1),(vp b2 0),(vp b3 0)].toArray w (gT (sD E V b2 v2_0 p2_0 b3 b3h res)):=by
 unfold gl at hb
 refine enter Tryz.func26 zr zr (RC.seq ?_)
 obtain⟨ae,o,hb⟩:=bd hb
 refine RC.jn (fun(ae:Bool)=>SH E V [(0,vi p0),(1,vi p1),(2,vp b2 0),(3,vp b3 0),(15,vb ae)] [bc 83 b2 [v2_0],mp v2_0 p2_0,bc 84 b3 [(vp b3h 0)],bc 117 b3h [v3h_0],own 3 v3h_0 p3h_0]) ae ?_ ?_
 ·refine RC.region (RL.aU 0 v2_0 j DZ (mv (vi p0) (RL.oD 1 p0 zt j Fw (RL.not (dG p2_0 p0 (false:Bool)) (mv (vb (!(dG p2_0 p0 (false:Bool)))) (fY o (fun aa o=>?_) fun aa o=>?_))))))
  ·refine RL.aU (hg:=(cg aa)) 0 v2_0 j DZ (RL.move (vi p1) (cg aa) (RL.oD 1 p1 (cg aa) j Fw (RL.not (hg:=(cg aa)) (dG p2_0 p1 (false:Bool)) (fV aa (vb (!(dG p2_0 p1 (false:Bool)))) (RL.nil ?_)))))
   obtain rfl:=oi o
   exact⟨rfl,j.sp 5 [0,1,2,3,4]⟩
  refine bR aa (bR aa (bR aa (bR aa (fV aa (vb false) (RL.nil ?_)))))
  obtain rfl:=oi o
  exact⟨rfl,j.sp 5 [0,1,2,3,4]⟩
 rintro _ w ⟨O,rfl,j⟩
 refine aG ?_
 obtain⟨af,o,hb⟩:=bd hb
 refine RC.jn (fun(af: (List Int)) U w=>∃ad:Value,SH E V [(2,vp b2 0),(3,vp b3 0)] [bc 83 b2 [v2_0],mp v2_0 p2_0,bc 84 b3 [(vp b3h 0)],bc 117 b3h [ad],own 3 ad af] U w) af ?_ ?_
 ·refine fH o (fun hc o=>?_) fun hc o=>?_
  rotate_left
  ·refine RC.skip ?_
   obtain rfl:=oi o
   exact⟨rfl,v3h_0,j.sp 5 [0,1,2,3,4]⟩
  refine RC.region (RL.aU 2 (vp b3h 0) j D0 (mv (vi p0) (mv (vi p1) ?_)))
  have j:=(j.pull 4).pull 4
  obtain⟨aj,ah,o⟩:=bd o
  refine RL.call zt zr HL [(vp b3h 0),(vi p0),(vi p1)] zr (aF (lP N (p1:=p0) (p2:=p1) j ah) ?_)
  rintro _ w ⟨ai,rfl,j⟩
  refine RL.nil ?_
  obtain rfl:=oi o
  exact⟨rfl,ai,j.sp 7 [2,3,4,0,1]⟩
 rintro _ w ⟨ad,O,rfl,j⟩
 obtain rfl:=oi hb
 refine xG ?_
 exact Dh zr ⟨ad,zr,j.pk 5 [0,1,2,3,4]⟩
def vA (E:World) (V:List HP) (b0:Nat) (v0_0 v0_1:Value) (v0_2 v0_3:Value) (v0_4 v0_5:Value) (v0_6 v0_7:Value) (v0_8 v0_9:Value) (v0_10 v0_11:Value) (res: (List Int)) (v:Value) (w:World):Prop:=Holds E w ([own 3 v res,bc 69 b0 [v0_0,v0_1,v0_2,v0_3,v0_4,v0_5,v0_6,v0_7,v0_8,v0_9,v0_10,v0_11]]++V)
theorem lX {p0_2: (List bU)} {p0_3: (List cV)} {p0_5: (List aH)} {p0_6: (List (List Int))} {p0_10: (List Int)} {p0_11: (List dO)} {p1: (List bY)} {res: (List Int)} (j:Holds E w (bc 69 b0 [v0_0,v0_1,v0_2,v0_3,v0_4,v0_5,v0_6,v0_7,v0_8,v0_9,v0_10,v0_11]::rd v0_2 p0_2::rd v0_3 p0_3::rd v0_5 p0_5::rd v0_6 p0_6::rd v0_10 p0_10::rd v0_11 p0_11::V)) (h1:V[i1]? =some (rd v1 p1)) (hb:dL N p0_2 p0_3 p0_5 p0_6 p0_10 p0_11 p1=some res):
    Calls bF 9 [(vp b0 0),v1].toArray w (gT (vA E V b0 v0_0 v0_1 v0_2 v0_3 v0_4 v0_5 v0_6 v0_7 v0_8 v0_9 v0_10 v0_11 res)):=by
 unfold dL at hb
 refine enter Tryz.func9 zr zr ?_
 have j:=j.dup (i1+7) h1
 refine RC.sr (aP (.slice none 0 0) (RL.ns (mv (vp b0 0) (RL.nilCheck zr (RL.aZ zr mE (RL.aU 1 v0_5 j vq (RL.bE 4 p0_5 j z8 (RL.alloc j DO.z fun ab w j=>?_))))))))
 have j:=j.sc Int (p0_5.length:Int)
 refine RL.bA 1 j 0 zr cG fun w j=>?_
 refine RL.ns ?_
 have j:=j.fT (i:=1) rfl
 refine RL.makeFunc [(vp ab 0)] (aP (.func (.func 24) #[] #[(vp ab 0)]) (RL.ns (RL.makeMap (κ:=Int) (ν:=Bool) zr j fun ae w j=>(RL.oE j JI fun ad w j=>?_))))
 refine RL.gz 0 ae j zr zr (Gi j (i:=1) zr) DZ fun w j=>?_
 refine RL.nq (RC.sr (mv v1 (RL.bE 4 p1 j yM (mv (vi 0) (RL.nt ?_)))))
 obtain⟨ah,hN,hb⟩:=bd hb
 refine RC.fold (fun(a9:Nat) (ah: (List (Int×Bool)))=>SH E V [(0,vp b0 0),(1,v1),(5,vp ab 0),(6,(.func (.func 24) #[] #[(vp ab 0)])),(7,vp ad 0),(32,v1),(33,vi p1.length),(34,vi a9)] [bc 69 b0 [v0_0,v0_1,v0_2,v0_3,v0_4,v0_5,v0_6,v0_7,v0_8,v0_9,v0_10,v0_11],rd v0_2 p0_2,rd v0_3 p0_3,rd v0_5 p0_5,rd v0_6 p0_6,rd v0_10 p0_10,rd v0_11 p0_11,rd v1 p1,pt (vp ab 0) (p0_5.length:Int),bc 83 ad [ae],mp ae ah]) (fun(ah: (List (Int×Bool)))=>SH E V [(0,vp b0 0),(1,v1),(5,vp ab 0),(6,(.func (.func 24) #[] #[(vp ab 0)])),(7,vp ad 0)] [bc 69 b0 [v0_0,v0_1,v0_2,v0_3,v0_4,v0_5,v0_6,v0_7,v0_8,v0_9,v0_10,v0_11],rd v0_2 p0_2,rd v0_3 p0_3,rd v0_5 p0_5,rd v0_6 p0_6,rd v0_10 p0_10,rd v0_11 p0_11,rd v1 p1,pt (vp ab 0) (p0_5.length:Int),bc 83 ad [ae],mp ae ah]) hN ?_ ?_ ?_ ?_
 ·exact j.sp 12 [5,6,7,8,9,10,11,4,3,0,1]
 ·rintro hm ah _ w ⟨O,rfl,j⟩
  refine RC.sr (ic ((p1.length:Int)) ((p1.length:Int)) (RL.nq (RC.cT mc (RC.ex ?_))))
  exact⟨rfl,j.sp 11 [0,1,2,3,4,5,6,7,8,9,10]⟩
 ·rintro hm a9 ah s' _ w hk ⟨O,rfl,j⟩ hb
  refine RC.sr (ic ((a9:Int)) ((p1.length:Int)) (RL.nq (RC.cS (mb hk) (RC.ss (RC.bs ?_)))))
  obtain⟨b8,b9,hb⟩:=bd hb
  refine RL.cB 7 j vt b9 fun db j=>(RL.bP 0 b8 j si fun dc j=>(RL.alloc j yL.z fun dd w j=>?_))
  refine RL.bA 0 j 1 zr si fun w j=>?_
  refine RL.ns (RL.aZ zr sj (RL.aK 0 j zr lT xU (RL.nt ?_)))
  obtain⟨bo,hj,hb⟩:=bd hb
  refine RC.jn (fun(bo: (List (Int×Bool)))=>SH E V [(0,vp b0 0),(1,v1),(5,vp ab 0),(6,(.func (.func 24) #[] #[(vp ab 0)])),(7,vp ad 0),(32,v1),(33,vi p1.length),(34,vi a9)] [bc 69 b0 [v0_0,v0_1,v0_2,v0_3,v0_4,v0_5,v0_6,v0_7,v0_8,v0_9,v0_10,v0_11],rd v0_2 p0_2,rd v0_3 p0_3,rd v0_5 p0_5,rd v0_6 p0_6,rd v0_10 p0_10,rd v0_11 p0_11,rd v1 p1,pt (vp ab 0) (p0_5.length:Int),bc 83 ad [ae],mp ae bo]) bo ?_ ?_
  ·refine fH hj (fun hc hj=>?_) fun hc hj=>?_
   rotate_left
   ·refine RC.skip ?_
    obtain rfl:=oi hj
    exact⟨rfl,j.sp 14 [3,4,5,6,7,8,9,10,11,12,13]⟩
   have j:=j.drew
   refine RC.DE (fun w=>Holds E w ([bc 83 ad [ae]]++V)) mixed zr [1,0,0,0,2,2] [0,1,2,3,4,5] (j.pk 14 [12]) (DP.Gr ae zr (fun w j=>RL.aU 0 ae j DZ DP.d1) (DP.e0 zr (mv (.func (.func 24) #[] #[(vp ab 0)]) (cE zr (RL.aZ zr uE (cE zr (RL.aX 0 j zr m4 ql fun ca j=>(vX zr ?_))))))))
   obtain⟨cb,cc,hj⟩:=bd hj
   refine RL.nT [(vp ab 0)] HV [ca] (aF (mM N (i0:=0) (i1:=12) j zr zr cc) ?_)
   rintro _ w ⟨rfl,j⟩
   refine DP.d2 (j.pk 15 [13]) (DP.e2 zr ?_)
   have j:=j.sc Bool true
   refine RL.mapUpdate 15 0 cb j zr zr zr zr zr Fw fun w j=>(DP.d2 (j.pk 16 [14]) (DP.z ?_))
   obtain rfl:=oi hj
   exact⟨rfl,j.sp 16 [5,6,7,8,9,10,11,12,13,14,15]⟩
  rintro _ w ⟨O,rfl,j⟩
  refine bT (aG (RC.region (RL.inc hk hm (mv (vi ((a9+1:Nat):Int)) (RL.nil ?_)))))
  obtain rfl:=oi hb
  exact⟨rfl,j.sp 11 [0,1,2,3,4,5,6,7,8,9,10]⟩
 rintro _ w ⟨O,rfl,j⟩
 refine aG (RC.seq ?_)
 obtain⟨cd,cf,hb⟩:=bd hb
 refine RC.DA E V mixed [0,1,1,1,1,0,0,1,0,0,0] [8,9,10] (fun(x:Nat×Value×Nat)=>(fun aa ak o=>[(0,46,(vi p0_5.length)),(1,47,(vp b0 0)),(2,48,(vp b0 0)),(3,49,(vp b0 0)),(4,50,(vp b0 2)),(5,51,v0_2),(6,52,(vi p0_2.length)),(7,53,(vi (IntKind.wrap .i64 ((p0_5.length:Int)+ (p0_2.length:Int))))),(8,54,(vp aa 0)),(9,10,(vp o 0))]) x.1 x.2.1 x.2.2) [(0,vp b0 0),(1,v1),(5,vp ab 0),(6,(.func (.func 24) #[] #[(vp ab 0)])),(7,vp ad 0)] [] (fun(D:Nat->Bool) (x:Nat×Value×Nat)=>(fun aa ak o=>[bif D 0 then (bc 117 aa [ak]) else aY,bif D 0 then (own 3 ak cd) else aY,bif D 2 then (bc 84 o [(vp aa 0)]) else (bif D 1 then (bc 84 o [(.pointer none)]) else aY),bc 69 b0 [v0_0,v0_1,v0_2,v0_3,v0_4,v0_5,v0_6,v0_7,v0_8,v0_9,v0_10,v0_11],rd v0_2 p0_2,rd v0_3 p0_3,rd v0_5 p0_5,rd v0_6 p0_6,rd v0_10 p0_10,rd v0_11 p0_11,rd v1 p1,pt (vp ab 0) (p0_5.length:Int),bc 83 ad [ae],mp ae ah]) x.1 x.2.1 x.2.2) (fun x=>by kernel_rfl) ?_ ⟨?_,fun _=>jF gn,fun _=>xh gn,fun _=>nb gn mD,fun _=>nb gn lV,?_,?_,fun _=>Fg gn rfl,?_,?_,?_,trivial⟩ ?_
 ·have j:=(((j.drew).aY).aY).aY
  exact⟨(0,undef,0),eC.none,(Cq zr),zt,j⟩
 ·rintro D U w hD au a0 ⟨⟨aa,ak,o⟩,hv,ha,_,j⟩
  obtain⟨O,rfl⟩:=(ac (ha.at 2 rfl) az).fC
  refine RL.bG (p0_5.length:Int) 11 j cG ?_
  exact RL.nil ⟨rfl,(aa,ak,o),hv.pu 0,ha.u,zt,j⟩
 ·rintro D U w hD au a0 ⟨⟨aa,ak,o⟩,hv,ha,_,j⟩
  obtain⟨O,rfl⟩:=(ac (hv.at 4 rfl (au.1 rfl)) az).fC
  refine RL.aU 3 v0_2 j uz ?_
  exact RL.nil ⟨rfl,(aa,ak,o),hv.pu 5,ha.u,zt,j⟩
 ·rintro D U w hD au a0 ⟨⟨aa,ak,o⟩,hv,ha,_,j⟩
  obtain⟨O,rfl⟩:=(ac (hv.at 5 rfl (au.1 rfl)) az).fC
  refine RL.bE 4 p0_2 j wg ?_
  exact RL.nil ⟨rfl,(aa,ak,o),hv.pu 6,ha.u,zt,j⟩
 ·rintro D U w hD au a0 ⟨⟨aa,ak,o⟩,hv,ha,_,j⟩
  obtain⟨O,rfl⟩:=(ac (hv.at 7 rfl (au.1 rfl)) az).fC
  have j:=((j.bX 0 hD).bX 1 hD).bX 2 (nh a0 hD 10)
  refine RL.call zt zr HK [(vi (IntKind.wrap .i64 ((p0_5.length:Int)+ (p0_2.length:Int))))] zr (aF (mL N (p0:=(IntKind.wrap .i64 ((p0_5.length:Int)+ (p0_2.length:Int)))) j cf) ?_)
  rintro _ w ⟨b1,ch,rfl,j⟩
  have j:=(((j.pl 16 [0,1,4,5,6,7,8,9,10,11,12,13,14,15]).cO 0 true aY).cO 1 true aY).eR 2 (D 10) (nh a0 hD 10) (bc 84 o [(vp b1 0)])
  exact RL.nil ⟨rfl,(b1,ch,o),hv.pu 8,ha.u,zt,j⟩
 ·rintro D U w hD au a0 ⟨⟨aa,ak,o⟩,hv,ha,_,j⟩
  obtain⟨O,rfl⟩:=(az (U:=U)).fC
  have j:=(j.bX 2 (nh a0 hD 10)).bX 2 hD
  refine RL.oE j JJ fun b2 w j=>?_
  have j:=((j.pl 15 [1,2,0,4,5,6,7,8,9,10,11,12,13,14]).cO 2 true aY).eR 2 (D 10) (nh a0 hD 10) (bc 84 b2 [(vp aa 0)])
  exact RL.nil ⟨rfl,(aa,ak,b2),hv.pu 9,ha.u,zt,j⟩
 ·rintro D U w hD au a0 ⟨⟨aa,ak,o⟩,hv,ha,_,j⟩
  obtain⟨O,rfl⟩:=(ac (hv.at 8 rfl (au.2.1 rfl)) (ac (hv.at 9 rfl (au.1 rfl)) az)).fC
  have j:=((j.cN 0 (au.2.1 rfl)).bX 2 hD).cN 2 (au.1 rfl)
  refine RL.gz 2 (vp aa 0) j zr zr zr D0 fun w j=>?_
  have j:=(j.cO (hb:=au.2.1 rfl) 0 (D 8) aY).cO 2 true (bif D 9 then (bc 84 o [(.pointer none)]) else aY)
  exact RL.nil ⟨rfl,(aa,ak,o),hv.n1,ha,zt,j⟩
 rintro D U w bh ⟨⟨aa,ak,o⟩,hv,ha,_,j⟩
 have j:=((j.cN 0 (jS bh 8)).cN 1 (jS bh 8)).cN 2 (jS bh 10)
 obtain⟨O,rfl⟩:=(ac (hv.at 9 rfl (jS bh 9)) (ac (ha.at 0 rfl) (ac (ha.at 1 rfl) (ac (ha.at 2 rfl) (ac (ha.at 3 rfl) (ac (ha.at 4 rfl) az)))))).fC
 refine aG (RC.sr (RL.makeFunc [(vp ad 0),(vp o 0)] (aP (.func (.func 26) #[] #[(vp ad 0),(vp o 0)]) (RL.nq (RC.sr (mv (vp b0 0) (RL.nilCheck zr (RL.aZ zr yK ?_))))))))
 refine RL.aU 3 v0_6 j Fp (RL.bE 7 p0_6 j Fq (mv (vi 0) (RL.nt ?_)))
 obtain⟨a5,hN,hb⟩:=bd hb
 refine RC.fold (fun(av:Nat) (a5: (List Int)) U w=>∃b3:Value,SH E V [(0,vp b0 0),(1,v1),(5,vp ab 0),(6,(.func (.func 24) #[] #[(vp ab 0)])),(7,vp ad 0),(10,vp o 0),(11,(.func (.func 26) #[] #[(vp ad 0),(vp o 0)])),(59,v0_6),(60,vi p0_6.length),(61,vi av)] [bc 69 b0 [v0_0,v0_1,v0_2,v0_3,v0_4,v0_5,v0_6,v0_7,v0_8,v0_9,v0_10,v0_11],rd v0_2 p0_2,rd v0_3 p0_3,rd v0_5 p0_5,rd v0_6 p0_6,rd v0_10 p0_10,rd v0_11 p0_11,rd v1 p1,pt (vp ab 0) (p0_5.length:Int),bc 83 ad [ae],mp ae ah,bc 84 o [(vp aa 0)],bc 117 aa [b3],own 3 b3 a5] U w) (fun(a5: (List Int)) U w=>∃bj:Value,SH E V [(0,vp b0 0),(1,v1),(6,(.func (.func 24) #[] #[(vp ab 0)])),(7,vp ad 0),(10,vp o 0),(11,(.func (.func 26) #[] #[(vp ad 0),(vp o 0)]))] [bc 69 b0 [v0_0,v0_1,v0_2,v0_3,v0_4,v0_5,v0_6,v0_7,v0_8,v0_9,v0_10,v0_11],rd v0_2 p0_2,rd v0_3 p0_3,rd v0_5 p0_5,rd v0_6 p0_6,rd v0_10 p0_10,rd v0_11 p0_11,rd v1 p1,pt (vp ab 0) (p0_5.length:Int),bc 83 ad [ae],mp ae ah,bc 84 o [(vp aa 0)],bc 117 aa [bj],own 3 bj a5] U w) hN ?_ ?_ ?_ ?_
 ·exact⟨ak,j.sp 14 [3,4,5,6,7,8,9,10,11,12,13,2,0,1]⟩
 ·rintro hm a5 _ w ⟨cj,O,rfl,j⟩
  refine RC.sr (ic ((p0_6.length:Int)) ((p0_6.length:Int)) (RL.nq (RC.cT mc (RC.ex ?_))))
  exact⟨rfl,cj,j.sp 14 [0,1,2,3,4,5,6,7,8,9,10,11,12,13]⟩
 ·rintro hm av a5 s' _ w hk ⟨ck,O,rfl,j⟩ hb
  refine RC.sr (ic ((av:Int)) ((p0_6.length:Int)) (RL.nq (RC.cS (mb hk) (RC.ss (RC.bs (mv (vi av) ?_))))))
  obtain⟨a3,cl,hb⟩:=bd hb
  refine RL.cB 4 j A8 cl fun de j=>(RL.bP 0 a3 j eU fun ba j=>(aP (vi av) (aP ba (RL.ns (mv ba (RL.bE 0 a3 j lx (mv (vi 0) (RL.nt ?_))))))))
  obtain⟨a6,hN,hb⟩:=bd hb
  refine RC.fold (fun(bk:Nat) (a6: (List Int)) U w=>∃b4:Value,SH E V [(0,vp b0 0),(1,v1),(5,vp ab 0),(6,(.func (.func 24) #[] #[(vp ab 0)])),(7,vp ad 0),(10,vp o 0),(11,(.func (.func 26) #[] #[(vp ad 0),(vp o 0)])),(12,vi av),(59,v0_6),(60,vi p0_6.length),(61,vi av),(66,ba),(67,vi a3.length),(68,vi bk)] [bc 69 b0 [v0_0,v0_1,v0_2,v0_3,v0_4,v0_5,v0_6,v0_7,v0_8,v0_9,v0_10,v0_11],rd v0_2 p0_2,rd v0_3 p0_3,rd v0_5 p0_5,rd v0_6 p0_6,rd v0_10 p0_10,rd v0_11 p0_11,rd v1 p1,pt (vp ab 0) (p0_5.length:Int),bc 83 ad [ae],mp ae ah,bc 84 o [(vp aa 0)],bc 117 aa [b4],own 3 b4 a6,rd ba a3] U w) (fun(a6: (List Int)) U w=>∃bl:Value,SH E V [(0,vp b0 0),(1,v1),(5,vp ab 0),(6,(.func (.func 24) #[] #[(vp ab 0)])),(7,vp ad 0),(10,vp o 0),(11,(.func (.func 26) #[] #[(vp ad 0),(vp o 0)])),(59,v0_6),(60,vi p0_6.length),(61,vi av)] [bc 69 b0 [v0_0,v0_1,v0_2,v0_3,v0_4,v0_5,v0_6,v0_7,v0_8,v0_9,v0_10,v0_11],rd v0_2 p0_2,rd v0_3 p0_3,rd v0_5 p0_5,rd v0_6 p0_6,rd v0_10 p0_10,rd v0_11 p0_11,rd v1 p1,pt (vp ab 0) (p0_5.length:Int),bc 83 ad [ae],mp ae ah,bc 84 o [(vp aa 0)],bc 117 aa [bl],own 3 bl a6,rd ba a3] U w) hN ?_ ?_ ?_ ?_
  ·exact⟨ck,j.sp 16 [2,3,4,5,6,7,8,9,10,11,12,13,14,15,0]⟩
  ·rintro hm a6 _ w ⟨cm,O,rfl,j⟩
   refine RC.sr (ic ((a3.length:Int)) ((a3.length:Int)) (RL.nq (RC.cT mc (RC.ex ?_))))
   exact⟨rfl,cm,j.sp 15 [0,1,2,3,4,5,6,7,8,9,10,11,12,13,14]⟩
  ·rintro hm bk a6 s' _ w hk ⟨df,O,rfl,j⟩ hb
   refine RC.sr (ic ((bk:Int)) ((a3.length:Int)) (RL.nq (RC.cS (mb hk) (RC.ss (RC.bs ?_)))))
   obtain⟨bb,cn,hb⟩:=bd hb
   refine RL.cB 14 j eE cn fun dg j=>(RL.bG bb 0 j cG (aP (vi bb) (RL.nt (RC.region (mv (.func (.func 26) #[] #[(vp ad 0),(vp o 0)]) (mv (vi bb) (RL.bG (p0_5.length:Int) 9 j cG (mv (vi av) ?_))))))))
   refine RL.jo (p0_5.length:Int) (av:Int) ?_
   have j:=((((j.pull 14).pull 14).pull 14).pull 14).pull 14
   obtain⟨dh,cp,hb⟩:=bd hb
   refine RL.nT [(vp ad 0),(vp o 0)] HW [(vi bb),(vi (IntKind.wrap .i64 ((p0_5.length:Int)+ (av:Int))))] (aF (mN N (p0:=bb) (p1:=(IntKind.wrap .i64 ((p0_5.length:Int)+ (av:Int)))) j cp) ?_)
   rintro _ w ⟨cq,rfl,j⟩
   refine RL.nil (bT (aG (RC.region (RL.inc hk hm (mv (vi ((bk+1:Nat):Int)) (RL.nil ?_))))))
   obtain rfl:=oi hb
   exact⟨rfl,cq,j.sp 21 [6,7,8,9,10,11,12,13,14,0,1,2,3,4,20]⟩
  rintro _ w ⟨bl,O,rfl,j⟩
  refine bT (aG (RC.region (RL.inc hk hm (mv (vi ((av+1:Nat):Int)) (RL.nil ?_)))))
  obtain rfl:=oi hb
  exact⟨rfl,bl,j.sp 15 [0,1,2,3,4,5,6,7,8,9,10,11,12,13]⟩
 rintro _ w ⟨bj,O,rfl,j⟩
 refine aG (RC.seq (RC.sr (mv v1 (RL.bE 7 p1 j yM (mv (vi 0) (RL.nt ?_))))))
 obtain⟨a7,hN,hb⟩:=bd hb
 refine RC.fold (fun(bf:Nat) (a7: (List Int)) U w=>∃b5:Value,SH E V [(0,vp b0 0),(6,(.func (.func 24) #[] #[(vp ab 0)])),(7,vp ad 0),(10,vp o 0),(11,(.func (.func 26) #[] #[(vp ad 0),(vp o 0)])),(80,v1),(81,vi p1.length),(82,vi bf)] [bc 69 b0 [v0_0,v0_1,v0_2,v0_3,v0_4,v0_5,v0_6,v0_7,v0_8,v0_9,v0_10,v0_11],rd v0_2 p0_2,rd v0_3 p0_3,rd v0_5 p0_5,rd v0_6 p0_6,rd v0_10 p0_10,rd v0_11 p0_11,pt (vp ab 0) (p0_5.length:Int),bc 83 ad [ae],mp ae ah,bc 84 o [(vp aa 0)],bc 117 aa [b5],own 3 b5 a7,rd v1 p1] U w) (fun(a7: (List Int)) U w=>∃bm:Value,SH E V [(0,vp b0 0),(6,(.func (.func 24) #[] #[(vp ab 0)])),(7,vp ad 0),(10,vp o 0)] [bc 69 b0 [v0_0,v0_1,v0_2,v0_3,v0_4,v0_5,v0_6,v0_7,v0_8,v0_9,v0_10,v0_11],rd v0_2 p0_2,rd v0_3 p0_3,rd v0_5 p0_5,rd v0_6 p0_6,rd v0_10 p0_10,rd v0_11 p0_11,pt (vp ab 0) (p0_5.length:Int),bc 83 ad [ae],mp ae ah,bc 84 o [(vp aa 0)],bc 117 aa [bm],own 3 bm a7,rd v1 p1] U w) hN ?_ ?_ ?_ ?_
 ·exact⟨bj,j.sp 14 [0,1,2,3,4,5,6,8,9,10,11,12,13,7]⟩
 ·rintro hm a7 _ w ⟨cr,O,rfl,j⟩
  refine RC.sr (ic ((p1.length:Int)) ((p1.length:Int)) (RL.nq (RC.cT mc (RC.ex ?_))))
  exact⟨rfl,cr,j.sp 14 [0,1,2,3,4,5,6,7,8,9,10,11,12,13]⟩
 ·rintro hm bf a7 s' _ w hk ⟨ct,O,rfl,j⟩ hb
  refine RC.sr (ic ((bf:Int)) ((p1.length:Int)) (RL.nq (RC.cS (mb hk) (RC.ss (RC.bs ?_)))))
  obtain⟨a8,cu,hb⟩:=bd hb
  refine RL.cB 13 j vt cu fun di j=>(RL.bP 0 a8 j si fun dj j=>(RL.alloc j yL.z fun dk w j=>?_))
  refine RL.bA 0 j 1 zr si fun w j=>?_
  refine RL.ns (RL.aZ zr sj (RL.aK 0 j zr lT xU (RL.not a8.Open (RL.nt ?_))))
  obtain⟨bp,hj,hb⟩:=bd hb
  refine RC.jn (fun(bp: (List Int)) U w=>∃bn:Value,SH E V [(0,vp b0 0),(6,(.func (.func 24) #[] #[(vp ab 0)])),(7,vp ad 0),(10,vp o 0),(11,(.func (.func 26) #[] #[(vp ad 0),(vp o 0)])),(80,v1),(81,vi p1.length),(82,vi bf)] [bc 69 b0 [v0_0,v0_1,v0_2,v0_3,v0_4,v0_5,v0_6,v0_7,v0_8,v0_9,v0_10,v0_11],rd v0_2 p0_2,rd v0_3 p0_3,rd v0_5 p0_5,rd v0_6 p0_6,rd v0_10 p0_10,rd v0_11 p0_11,pt (vp ab 0) (p0_5.length:Int),bc 83 ad [ae],mp ae ah,bc 84 o [(vp aa 0)],bc 117 aa [bn],own 3 bn bp,rd v1 p1] U w) bp ?_ ?_
  ·refine fH hj (fun hc hj=>?_) fun hc hj=>?_
   rotate_left
   ·refine RC.skip ?_
    obtain rfl:=oi hj
    exact⟨rfl,ct,j.sp 17 [3,4,5,6,7,8,9,10,11,12,13,14,15,16]⟩
   refine RC.region (mv (.func (.func 26) #[] #[(vp ad 0),(vp o 0)]) (RL.aZ zr yN (RL.aK 0 j zr qW cG (RL.aZ zr yO (RL.aK 0 j zr qX cG ?_)))))
   have j:=((((j.pull 15).pull 15).pull 15).pull 15).pull 15
   obtain⟨dm,cv,hj⟩:=bd hj
   refine RL.nT [(vp ad 0),(vp o 0)] HW [(vi a8.A),(vi a8.B)] (aF (mN N (p0:=a8.A) (p1:=a8.B) j cv) ?_)
   rintro _ w ⟨cw,rfl,j⟩
   refine RL.nil ?_
   obtain rfl:=oi hj
   exact⟨rfl,cw,j.sp 22 [8,9,10,11,12,13,14,15,0,1,2,3,4,21]⟩
  rintro _ w ⟨bn,O,rfl,j⟩
  refine bT (aG (RC.region (RL.inc hk hm (mv (vi ((bf+1:Nat):Int)) (RL.nil ?_)))))
  obtain rfl:=oi hb
  exact⟨rfl,bn,j.sp 14 [0,1,2,3,4,5,6,7,8,9,10,11,12,13]⟩
 rintro _ w ⟨bm,O,rfl,j⟩
 refine aG (RC.sr (RL.makeMap (κ:=Int) (ν:=Int) zr j fun ax w j=>(aP ax (RL.ns (mv (vp b0 0) (RL.nilCheck zr (RL.aZ zr mD (RL.aZ zr uB ?_))))))))
 refine RL.aU 1 v0_3 j CD (RL.bE 3 p0_3 j DR ?_)
 obtain⟨dn,cx,hb⟩:=bd hb
 refine RL.mk (p0_3.length:Int) j tp GY cx fun aw w j=>?_
 refine aP aw (RL.nq (RC.sr (mv (vp b0 0) (RL.nilCheck zr (RL.aZ zr Bg (RL.aU 2 v0_11 j GD (RL.bE 8 p0_11 j JK (mv (vi 0) ?_))))))))
 refine RL.nt ?_
 obtain⟨ag,hN,hb⟩:=bd hb
 refine RC.fold (fun(al:Nat) (ag: (List Int)×(List (Int×Int))×(List Int)) U w=>∃b6:Value,SH E V [(0,vp b0 0),(6,(.func (.func 24) #[] #[(vp ab 0)])),(7,vp ad 0),(10,vp o 0),(18,ax),(19,aw),(107,v0_11),(108,vi p0_11.length),(109,vi al)] [bc 69 b0 [v0_0,v0_1,v0_2,v0_3,v0_4,v0_5,v0_6,v0_7,v0_8,v0_9,v0_10,v0_11],rd v0_2 p0_2,rd v0_3 p0_3,rd v0_5 p0_5,rd v0_6 p0_6,rd v0_10 p0_10,rd v0_11 p0_11,pt (vp ab 0) (p0_5.length:Int),bc 83 ad [ae],mp ae ah,bc 84 o [(vp aa 0)],bc 117 aa [b6],own 3 b6 ag.1,mp ax ag.2.1,own 3 aw ag.2.2] U w) (fun(ag: (List Int)×(List (Int×Int))×(List Int)) U w=>∃bq:Value,SH E V [(0,vp b0 0),(19,aw)] [bc 69 b0 [v0_0,v0_1,v0_2,v0_3,v0_4,v0_5,v0_6,v0_7,v0_8,v0_9,v0_10,v0_11],rd v0_2 p0_2,rd v0_3 p0_3,rd v0_5 p0_5,rd v0_6 p0_6,rd v0_10 p0_10,rd v0_11 p0_11,pt (vp ab 0) (p0_5.length:Int),bc 83 ad [ae],mp ae ah,bc 84 o [(vp aa 0)],bc 117 aa [bq],own 3 bq ag.1,mp ax ag.2.1,own 3 aw ag.2.2] U w) hN ?_ ?_ ?_ ?_
 ·exact⟨bm,j.sp 16 [2,3,4,5,6,7,8,9,10,11,12,13,14,1,0]⟩
 ·rintro hm ag _ w ⟨cy,O,rfl,j⟩
  refine RC.sr (ic ((p0_11.length:Int)) ((p0_11.length:Int)) (RL.nq (RC.cT mc (RC.ex ?_))))
  exact⟨rfl,cy,j.sp 15 [0,1,2,3,4,5,6,7,8,9,10,11,12,13,14]⟩
 ·rintro hm al ag s' _ w hk ⟨br,O,rfl,j⟩ hb
  refine RC.sr (ic ((al:Int)) ((p0_11.length:Int)) (RL.nq (RC.cS (mb hk) (RC.ss (RC.bs (mv (vi al) ?_))))))
  obtain⟨cz,c0,hb⟩:=bd hb
  refine RL.cB 6 j HO c0 fun dp j=>(RL.bP 0 cz j ql fun dq j=>(RL.alloc j Fu.z fun dr w j=>?_))
  refine aP (vi al) (RL.bA 0 j 1 zr ql fun w j=>?_)
  refine RL.ns (mv (.func (.func 24) #[] #[(vp ab 0)]) (RL.aX (f:=(fun x=>x)) 0 j zr Fd.self ql fun c1 j=>?_))
  obtain⟨aq,c2,hb⟩:=bd hb
  refine RL.nT [(vp ab 0)] HV [c1] (aF (mM N (i0:=0) (i1:=11) j zr zr c2) ?_)
  rintro _ w ⟨rfl,j⟩
  refine aP (vi aq) (RL.nq (RC.seq ?_))
  obtain⟨bt,hj,hb⟩:=bd hb
  refine RC.jn (fun(bt:Bool)=>SH E V [(0,vp b0 0),(6,(.func (.func 24) #[] #[(vp ab 0)])),(7,vp ad 0),(10,vp o 0),(18,ax),(19,aw),(20,vi al),(22,vi aq),(107,v0_11),(108,vi p0_11.length),(109,vi al),(129,vb bt)] [bc 69 b0 [v0_0,v0_1,v0_2,v0_3,v0_4,v0_5,v0_6,v0_7,v0_8,v0_9,v0_10,v0_11],rd v0_2 p0_2,rd v0_3 p0_3,rd v0_5 p0_5,rd v0_6 p0_6,rd v0_10 p0_10,rd v0_11 p0_11,pt (vp ab 0) (p0_5.length:Int),bc 83 ad [ae],mp ae ah,bc 84 o [(vp aa 0)],bc 117 aa [br],own 3 br ag.1,mp ax ag.2.1,own 3 aw ag.2.2]) bt ?_ ?_
  ·refine RC.region (mv (vp b0 0) (RL.nilCheck zr (RL.aZ zr Bf (RL.aU 4 v0_10 j eU (mv (vi al) ?_)))))
   obtain⟨bu,c3,hj⟩:=bd hj
   refine RL.cB 9 j eE c3 fun ds j=>(RL.bG bu 0 j cG (ic bu 0 (mv (vb (decide (bu<0))) (fY hj (fun a1 hj=>?_) fun a1 hj=>?_))))
   ·refine bR a1 (bR a1 (bR a1 (fV a1 (vb true) (RL.nil ?_))))
    obtain rfl:=oi hj
    exact⟨rfl,j.sp 20 [5,6,7,8,9,10,11,12,13,14,15,16,17,18,19]⟩
   refine RL.aU (hg:=(cg a1)) 13 ae j DZ (RL.move (vi aq) (cg a1) (RL.oD 14 aq (cg a1) j Fw (fV a1 (vb (dG ah aq (false:Bool))) (RL.nil ?_))))
   obtain rfl:=oi hj
   exact⟨rfl,j.sp 20 [5,6,7,8,9,10,11,12,13,14,15,16,17,18,19]⟩
  rintro _ w ⟨O,rfl,j⟩
  refine aG (fH hb (fun hc hb=>?_) fun hc hb=>?_)
  ·refine RC.sr (mv aw (mv (vi al) ?_))
   obtain⟨dt,bw,hb⟩:=bd hb
   refine RL.bV 14 j zr zr eE bw ?_
   have j:=j.sc Int (-1)
   refine RL.ga (f:=(fun _ y=>y)) 15 0 j (jQ 15 j bw 0) (bB bw).2.1 zr Fs.self cG fun w j=>?_
   refine RL.nt (RC.ex (F9 (aG (RC.region (RL.inc hk hm (mv (vi ((al+1:Nat):Int)) (RL.nil ?_)))))))
   obtain rfl:=oi hb
   exact⟨rfl,br,j.sp 16 [1,2,3,4,5,6,7,8,9,10,11,12,13,14,15]⟩
  refine RC.ss (RC.sr (mv ax (RL.aU 10 (vp aa 0) j D0 (mv (vi aq) ?_))))
  have j:=(j.pull 12).pull 12
  obtain⟨a2,c4,hb⟩:=bd hb
  refine RL.call zt zr CH [(vp aa 0),(vi aq)] zr (aF (fM N (p1:=aq) j c4) ?_)
  rintro _ w ⟨c5,rfl,j⟩
  refine RL.zC 15 a2.1 zt zr j zr zr zr z7 (mv (.tuple #[(vi (dG ag.2.1 a2.1 (0:Int))),(vb (iB ag.2.1 a2.1))]) (RL.extract (vi (dG ag.2.1 a2.1 (0:Int))) (RL.extract (vb (iB ag.2.1 a2.1)) (aP (vi (dG ag.2.1 a2.1 (0:Int))) (aP (vb (iB ag.2.1 a2.1)) (RL.ns (mv (vb (iB ag.2.1 a2.1)) (RL.not (iB ag.2.1 a2.1) ?_))))))))
  refine RL.nt ?_
  obtain⟨bg,hj,hb⟩:=bd hb
  refine RC.jn (fun(bg: (List Int)×(List (Int×Int))) U w=>∃bx:Value,SH E V [(0,vp b0 0),(6,(.func (.func 24) #[] #[(vp ab 0)])),(7,vp ad 0),(10,vp o 0),(18,ax),(19,aw),(20,vi al),(22,vi aq),(107,v0_11),(108,vi p0_11.length),(109,vi al)] [bc 69 b0 [v0_0,v0_1,v0_2,v0_3,v0_4,v0_5,v0_6,v0_7,v0_8,v0_9,v0_10,v0_11],rd v0_2 p0_2,rd v0_3 p0_3,rd v0_5 p0_5,rd v0_6 p0_6,rd v0_10 p0_10,rd v0_11 p0_11,pt (vp ab 0) (p0_5.length:Int),bc 83 ad [ae],mp ae ah,bc 84 o [(vp aa 0)],bc 117 aa [bx],own 3 bx bg.1,mp ax bg.2,own 3 aw ag.2.2] U w) bg ?_ ?_
  ·refine fH hj (fun hc hj=>?_) fun hc hj=>?_
   rotate_left
   ·refine RC.skip ?_
    obtain rfl:=oi hj
    exact⟨rfl,c5,j.sp 17 [2,3,4,5,6,7,8,9,10,11,12,0,1,15,16]⟩
   refine RC.region (mv ax (RL.aU 12 (vp aa 0) j D0 (mv (vi aq) ?_)))
   have j:=(j.pull 1).pull 1
   obtain⟨c6,c7,hj⟩:=bd hj
   refine RL.call zt zr CH [(vp aa 0),(vi aq)] zr (aF (fM N (p1:=aq) j c7) ?_)
   rintro _ w ⟨c8,rfl,j⟩
   refine mv (vi al) ?_
   have j:=j.sc Int (al:Int)
   refine RL.mapUpdate 18 0 c6.1 j zr zr zr zr zr z7 fun w j=>(RL.nil ?_)
   obtain rfl:=oi hj
   exact⟨rfl,c8,j.sp 20 [5,6,7,8,9,10,11,12,13,14,15,1,2,18,19]⟩
  rintro _ w ⟨bx,O,rfl,j⟩
  refine aG (RC.region (mv aw (mv (vi al) (mv ax (RL.aU 10 (vp aa 0) j D0 (mv (vi aq) ?_))))))
  have j:=(j.pull 12).pull 12
  obtain⟨b7,c9,hb⟩:=bd hb
  refine RL.call zt zr CH [(vp aa 0),(vi aq)] zr (aF (fM N (p1:=aq) j c9) ?_)
  rintro _ w ⟨da,rfl,j⟩
  refine RL.oD 15 b7.1 zt j z7 ?_
  obtain⟨du,bz,hb⟩:=bd hb
  refine RL.bV 16 j zr zr eE bz ?_
  have j:=j.sc Int (dG bg.2 b7.1 (0:Int))
  refine RL.ga (f:=(fun _ y=>y)) 17 0 j (jQ 17 j bz 0) (bB bz).2.1 zr Fs.self cG fun w j=>?_
  refine RL.nil (bT (aG (RC.region (RL.inc hk hm (mv (vi ((al+1:Nat):Int)) (RL.nil ?_))))))
  obtain rfl:=oi hb
  exact⟨rfl,da,j.sp 18 [3,4,5,6,7,8,9,10,11,12,13,1,2,16,17]⟩
 rintro _ w ⟨bq,O,rfl,j⟩
 refine aG (RC.sr (mv aw (aP aw (RL.nt (RC.ret ?_)))))
 obtain rfl:=oi hb
 exact cI (j.pk 15 [14,0])
def xp (E:World) (V:List HP) (r:Bool) (U:Nat->Value) (w:World):Prop:=mx bF 31 Tryz.f10 (bD E V r) .ret U w
theorem wy {p0: (List Int)} {p1: (List Int)} {res:Bool} (j:Holds E w V) (h0:V[i0]? =some (rd v0 p0)) (h1:V[i1]? =some (rd v1 p1)) (o:mg N p0 p1=some res):
    Calls bF 10 [v0,v1].toArray w (gT (bD E V res)):=by
 unfold mg at o
 refine enter Tryz.func10 zr zr ?_
 have j:=(j.dup (i0+0) h0).dup (i1+1) h1
 refine RC.sr (aP (vb false) (RL.nq (RC.sr (mv v0 (RL.bE 1 p0 j lx (mv (vi 0) (RL.nt ?_)))))))
 obtain⟨ar,hN,o⟩:=bd o
 refine RC.range (fun(aa:Nat) (ah:Unit)=>SH E V [(0,v0),(1,v1),(9,vi p0.length),(10,vi aa)] [rd v0 p0,rd v1 p1]) (fun(ah:Unit)=>SH E V [] [rd v0 p0,rd v1 p1]) (xp E V) hN ?_ ?_ ?_ ?_ ?_
 ·exact j.sp 2 [1,0]
 ·rintro hm ah _ w ⟨O,rfl,j⟩
  refine RC.sr (ic ((p0.length:Int)) ((p0.length:Int)) (RL.nq (RC.cT mc (RC.ex ?_))))
  exact⟨rfl,j.sp 2 [0,1]⟩
 ·rintro hm aa ah fl _ w hk ⟨O,rfl,j⟩ o
  refine RC.sr (ic ((aa:Int)) ((p0.length:Int)) (RL.nq (RC.cS (mb hk) (RC.ss (RC.bs (mv (vi aa) (aP (vi aa) (RL.nq ?_))))))))
  refine RC.xf mixed ?_
  have j:=j.drew
  refine RO.go (mv v0 (RO.nx (mv (vi aa) (RO.nx ?_))))
  obtain⟨ai,an,o⟩:=bd o
  refine RL.cB 0 j eE an fun av j=>(RO.nx (RL.bG ai 0 j cG (RO.nx (mv v1 (RO.nx (mv (vi aa) (RO.nx ?_)))))))
  obtain⟨ae,ao,o⟩:=bd o
  refine RL.cB 2 j eE ao fun aw j=>(RO.nx (RL.bG ae 0 j cG (RO.nx (aP (vi ai) (RO.nx (aP (vi ae) (RO.last (aG ?_))))))))
  refine RC.seq (RC.sr (mv (vi ai) (ic ai 0 (RL.nt ?_))))
  obtain⟨ad,hj,o⟩:=bd o
  refine RC.jn (fun(ad:Int)=>SH E V [(0,v0),(1,v1),(5,vi aa),(6,vi ad),(7,vi ae),(9,vi p0.length),(10,vi aa)] [rd v0 p0,rd v1 p1]) ad ?_ ?_
  ·refine fH hj (fun hc hj=>?_) fun hc hj=>?_
   rotate_left
   ·refine RC.skip ?_
    obtain rfl:=oi hj
    exact⟨rfl,j.sp 4 [2,3]⟩
   refine RC.region (mv (vi aa) (aP (vi aa) (RL.nil ?_)))
   obtain rfl:=oi hj
   exact⟨rfl,j.sp 4 [2,3]⟩
  rintro _ w ⟨O,rfl,j⟩
  refine aG (RC.seq (RC.sr (mv (vi ae) (ic ae 0 (RL.nt ?_)))))
  obtain⟨ag,hj,o⟩:=bd o
  refine RC.jn (fun(ag:Int)=>SH E V [(0,v0),(1,v1),(6,vi ad),(7,vi ag),(9,vi p0.length),(10,vi aa)] [rd v0 p0,rd v1 p1]) ag ?_ ?_
  ·refine fH hj (fun hc hj=>?_) fun hc hj=>?_
   rotate_left
   ·refine RC.skip ?_
    obtain rfl:=oi hj
    exact⟨rfl,j.sp 2 [0,1]⟩
   refine RC.region (mv (vi aa) (aP (vi aa) (RL.nil ?_)))
   obtain rfl:=oi hj
   exact⟨rfl,j.sp 2 [0,1]⟩
  rintro _ w ⟨O,rfl,j⟩
  refine aG (RC.sr (mv (vi ad) (mv (vi ag) (ic ad ag (RL.nt (fH o (fun hc o=>?_) fun hc o=>?_))))))
  rotate_left
  ·refine RC.skip (bT (aG (RC.region (RL.inc hk hm (mv (vi ((aa+1:Nat):Int)) (RL.nil ?_))))))
   obtain rfl:=oi o
   exact⟨rfl,j.sp 2 [0,1]⟩
  refine RC.sr (aP (vb false) (RL.nt (RC.rb (cC ?_))))
  obtain rfl:=oi o
  exact⟨rfl,cI ⟨rfl,j.drop 2⟩⟩
 ·intro r U w e hK
  subst e
  refine cC ?_
  obtain rfl:=oi o
  exact hK
 rintro ah _ w rfl ⟨O,rfl,j⟩
 rw [Fo.gx] at o
 refine aG (RC.sr (aP (vb true) (RL.nt (RC.ret ?_))))
 obtain rfl:=oi o
 exact cI ⟨rfl,j.drop 2⟩
def uM (E:World) (V:List HP) (res: (List bY)×Int) (v:Value) (w:World):Prop:=∃u0:Value,v = .tuple #[u0,(vi res.2)]/\Holds E w ([own 40 u0 res.1]++V)
theorem tG {p0:jT} {res: (List bY)×Int} (j:Holds E w V) (h0:V[i0]? =some (rd v0 p0)) (o:gF N p0 p1=some res):
    Calls bF 4 [v0,(vi p1)].toArray w (gT (uM E V res)):=by
 unfold gF at o
 refine enter Tryz.func4 zr zr ?_
 have j:=j.dup (i0+0) h0
 refine RC.sr (RL.dD 0 v0 j zr fun bx w j=>?_)
 refine aP (.slice none 0 0) (aP (vi 0) (RL.ns (RL.aX (f:=(fun x=>x)) 0 j zr Fd.self vo fun bh j=>?_)))
 obtain⟨ad,bj,o⟩:=bd o
 refine RL.call zt zr Kj [bh] zr (aF (qD N (i0:=0) j zr bj) ?_)
 rintro _ w hK49
 rcases a2:ad.1 with _ | aa
 ·replace o:=G8 a2 o
  obtain⟨rfl,j⟩:=FY a2 hK49
  refine mv (.tuple #[(.pointer none),(vi ad.2)]) (RL.extract (.pointer none) (RL.extract (vi ad.2) (aP (.pointer none) (aP (vi ad.2) (RL.nq (RC.sr (mv (vi ad.2) (ic ad.2 0 ?_))))))))
  refine RL.nt (fH o (fun hc o=>?_) fun hc o=>?_)
  rotate_left
  ·cases o
  refine RC.sr (mv (vi ad.2) (aP (.slice none 0 0) (aP (vi ad.2) (RL.nt (RC.rt ?_)))))
  obtain rfl:=oi o
  have j:=j.dB bY 40
  exact ma ⟨(.slice none 0 0),zr,j.pk 4 [0]⟩
 replace o:=G9 a2 o
 obtain⟨ae,aj,ak,al,an,ao,aq,ar,au,av,aw,ax,ay,rfl,j⟩:=FZ a2 hK49
 refine mv (.tuple #[(vp ae 0),(vi ad.2)]) (RL.extract (vp ae 0) (RL.extract (vi ad.2) (aP (vp ae 0) (aP (vi ad.2) (RL.nq (RC.sr (mv (vi ad.2) (ic ad.2 0 ?_))))))))
 refine RL.nt (fH o (fun hc o=>?_) fun hc o=>?_)
 ·refine RC.sr (mv (vi ad.2) (aP (.slice none 0 0) (aP (vi ad.2) (RL.nt (RC.rt ?_)))))
  obtain rfl:=oi o
  have j:=j.dB bY 40
  exact ma ⟨(.slice none 0 0),zr,j.pk 17 [0]⟩
 refine RC.sx (mv (vp ae 0) (mv (vi p1) ?_))
 have j:=((((((((((((j.freeze 5).freeze 8).freeze 11).freeze 12).dup 12 rfl).dup 12 rfl).dup 12 rfl).dup 12 rfl).dup 12 rfl).dup 12 rfl).dup 12 rfl).dup 12 rfl).dup 12 rfl
 have j:=(((j.dup 12 rfl).dup 12 rfl).dup 12 rfl).pull 12
 obtain⟨ab,bk,o⟩:=bd o
 refine RL.call zt zr Ku [(vp ae 0),(vi p1)] zr (aF (vz N (p1:=p1) j bk) ?_)
 rintro _ w ⟨af,rfl,j⟩
 refine mv (.tuple #[af,(vi ab.2)]) (RL.extract af (RL.extract (vi ab.2) (aP af (aP (vi ab.2) (RL.nq (RC.sr (mv (vi ab.2) (ic ab.2 0 ?_))))))))
 refine RL.nt (fH o (fun hc o=>?_) fun hc o=>?_)
 ·refine RC.sr (mv (vi ab.2) (aP (.slice none 0 0) (aP (vi ab.2) (RL.nt (RC.rt ?_)))))
  obtain rfl:=oi o
  have j:=j.dB bY 40
  exact ma ⟨(.slice none 0 0),zr,j.pk 19 [0]⟩
 refine RC.sx (mv (vp ae 0) ?_)
 have j:=(((((((j.rZ bY).dup 15 rfl).dup 15 rfl).dup 12 rfl).dup 12 rfl).dup 11 rfl).dup 11 rfl).pull 8
 obtain⟨bz,bl,o⟩:=bd o
 refine RL.call zt zr JL [(vp ae 0),(.slice none 0 0)] zr (aF (lX N (i1:=0) j zr bl) ?_)
 rintro a6 w j
 refine aP a6 (RL.ns (aP (.slice none 0 0) (RL.nq (RC.sr (mv af (RL.fA 3 ab.1 j yM (mv (vi 0) (RL.nt ?_))))))))
 obtain⟨ag,hN,o⟩:=bd o
 refine RC.fold (fun(a0:Nat) (ag: (List Int)×(List bY)) U w=>∃a7 a8:Value,SH E V [(6,vp ae 0),(9,a7),(10,a8),(32,af),(33,vi ab.1.length),(34,vi a0)] [bc 69 ae [aj,ak,al,an,ao,aq,ar,au,av,aw,ax,ay],rd aj aa.1,rd ak aa.2.1,rd al aa.2.2.1,rd an aa.2.2.2.1,rd ao aa.2.2.2.2.1,rd aq aa.2.2.2.2.2.1,rd ar aa.2.2.2.2.2.2.1,rd au aa.2.2.2.2.2.2.2.1,rd av aa.2.2.2.2.2.2.2.2.1,rd aw aa.2.2.2.2.2.2.2.2.2.1,rd ax aa.2.2.2.2.2.2.2.2.2.2.1,rd ay aa.2.2.2.2.2.2.2.2.2.2.2,own 40 af ab.1,rd a7 ag.1,own 40 a8 ag.2] U w) (fun(ag: (List Int)×(List bY)) U w=>∃az:Value,SH E V [(10,az)] [bc 69 ae [aj,ak,al,an,ao,aq,ar,au,av,aw,ax,ay],rd aj aa.1,rd ak aa.2.1,rd al aa.2.2.1,rd an aa.2.2.2.1,rd ao aa.2.2.2.2.1,rd aq aa.2.2.2.2.2.1,rd ar aa.2.2.2.2.2.2.1,rd au aa.2.2.2.2.2.2.2.1,rd av aa.2.2.2.2.2.2.2.2.1,rd aw aa.2.2.2.2.2.2.2.2.2.1,rd ax aa.2.2.2.2.2.2.2.2.2.2.1,rd ay aa.2.2.2.2.2.2.2.2.2.2.2,own 40 af ab.1,own 40 az ag.2] U w) hN ?_ ?_ ?_ ?_
 ·have j:=(j.freeze 0).dB bY 40
  exact⟨a6,(.slice none 0 0),j.sp 22 [2,7,8,9,10,11,12,13,14,15,16,17,18,4,1,0]⟩
 ·rintro hm ag _ w ⟨b0,bn,O,rfl,j⟩
  refine RC.sr (ic ((ab.1.length:Int)) ((ab.1.length:Int)) (RL.nq (RC.cT mc (RC.ex ?_))))
  exact⟨rfl,bn,j.sp 16 [0,1,2,3,4,5,6,7,8,9,10,11,12,13,15]⟩
 ·rintro hm a0 ag s' _ w hk ⟨a1,bb,O,rfl,j⟩ o
  refine RC.sr (ic ((a0:Int)) ((ab.1.length:Int)) (RL.nq (RC.cS (mb hk) (RC.ss (RC.bs ?_)))))
  obtain⟨bf,a4,o⟩:=bd o
  refine RL.bV 13 j zr zr vt a4 (RL.jR (f:=(fun x=>x)) 13 j (jQ 13 j a4 0) (bB a4).2.1 Fd.self si fun b1 j=>?_)
  refine RL.alloc j yL.z fun b2 w j=>?_
  refine RL.bA 0 j 1 zr si fun w j=>?_
  refine RL.ns (mv (vp ae 0) (RL.aX (f:=(fun x=>x)) 0 j zr Fd.self si fun bo j=>(RL.eP ([bf]: (List bY)) j [bo] vt yL (fun M hs g=>⟨(g.sat 0 _ zr).1,zt⟩) fun bp w j=>?_)))
  have j:=(((((((j.freeze 0).dup 16 rfl).dup 16 rfl).dup 13 rfl).dup 13 rfl).dup 12 rfl).dup 12 rfl).pull 10
  obtain⟨b3,bq,o⟩:=bd o
  refine RL.call zt zr JL [(vp ae 0),bp] zr (aF (lX N (i1:=0) j zr bq) ?_)
  rintro br w j
  refine mv a1 ?_
  have j:=j.freeze 0
  obtain⟨b4,bt,o⟩:=bd o
  refine RL.call zt zr JM [br,a1] zr (aF (wy N (i0:=0) (i1:=20) j zr zr bt) ?_)
  rintro _ w ⟨rfl,j⟩
  refine RL.nt ?_
  obtain⟨a5,hj,o⟩:=bd o
  refine RC.jn (fun(a5: (List bY)) U w=>∃a3:Value,SH E V [(6,vp ae 0),(9,a1),(10,a3),(32,af),(33,vi ab.1.length),(34,vi a0)] [bc 69 ae [aj,ak,al,an,ao,aq,ar,au,av,aw,ax,ay],rd aj aa.1,rd ak aa.2.1,rd al aa.2.2.1,rd an aa.2.2.2.1,rd ao aa.2.2.2.2.1,rd aq aa.2.2.2.2.2.1,rd ar aa.2.2.2.2.2.2.1,rd au aa.2.2.2.2.2.2.2.1,rd av aa.2.2.2.2.2.2.2.2.1,rd aw aa.2.2.2.2.2.2.2.2.2.1,rd ax aa.2.2.2.2.2.2.2.2.2.2.1,rd ay aa.2.2.2.2.2.2.2.2.2.2.2,rd a1 ag.1,own 40 af ab.1,own 40 a3 a5] U w) a5 ?_ ?_
  ·refine fH hj (fun hc hj=>?_) fun hc hj=>?_
   rotate_left
   ·refine RC.skip ?_
    obtain rfl:=oi hj
    exact⟨rfl,bb,j.sp 22 [1,7,8,9,10,11,12,13,14,15,16,17,18,20,19,21]⟩
   refine RC.region (mv bb (RL.aX (f:=(fun x=>x)) 4 j zr Fd.self si fun bu j=>(RL.eP ([bf]: (List bY)) j [bu] vt yL (fun M hs g=>⟨(g.sat 0 _ zr).1,zt⟩) fun b5 w j=>?_)))
   have j:=j.freeze 0
   obtain⟨dH,bw,hj⟩:=bd hj
   refine RL.app 23 0 j GG bw fun bg w j=>?_
   refine aP bg (RL.nil ?_)
   obtain rfl:=oi hj
   exact⟨rfl,bg,j.sp 24 [3,9,10,11,12,13,14,15,16,17,18,19,20,22,21,23]⟩
  rintro _ w ⟨a3,O,rfl,j⟩
  refine bT (aG (RC.region (RL.inc hk hm (mv (vi ((a0+1:Nat):Int)) (RL.nil ?_)))))
  obtain rfl:=oi o
  exact⟨rfl,a1,a3,j.sp 16 [0,1,2,3,4,5,6,7,8,9,10,11,12,14,13,15]⟩
 rintro _ w ⟨az,O,rfl,j⟩
 refine aG (RC.sr (mv az (aP az (aP (vi 0) (RL.nt (RC.ret ?_))))))
 obtain rfl:=oi o
 exact ma ⟨az,zr,j.pk 15 [14]⟩
def pR (E:World) (V:List HP) (b1 b1h:Nat) (v1h_0 v1h_1:Value) (v1h_2 v1h_3:Value) (v1h_4 v1h_5:Value) (v1h_6 v1h_7:Value) (v1h_8 v1h_9:Value) (v1h_10 v1h_11:Value) (res:Bool) (v:Value) (w:World):Prop:=v= (vb res)/\Holds E w ([bc 42 b1 [(vp b1h 0)],bc 69 b1h [v1h_0,v1h_1,v1h_2,v1h_3,v1h_4,v1h_5,v1h_6,v1h_7,v1h_8,v1h_9,v1h_10,v1h_11]]++V)
theorem jA {p1h_5: (List aH)} {res:Bool} (j:Holds E w (bc 42 b1 [(vp b1h 0)]::bc 69 b1h [v1h_0,v1h_1,v1h_2,v1h_3,v1h_4,v1h_5,v1h_6,v1h_7,v1h_8,v1h_9,v1h_10,v1h_11]::rd v1h_5 p1h_5::V)) (o:eT N p0 p1h_5=some res):
    Calls bF 29 [(vi p0),(vp b1 0)].toArray w (gT (pR E V b1 b1h v1h_0 v1h_1 v1h_2 v1h_3 v1h_4 v1h_5 v1h_6 v1h_7 v1h_8 v1h_9 v1h_10 v1h_11 res)):=by
 unfold eT at o
 refine enter Tryz.func29 zr zr (RC.sr (aP (vb false) (RL.ns (mv (vi p0) (RL.aU 0 (vp b1h 0) j vr (RL.nilCheck zr (RL.aZ zr mE (RL.aU 1 v1h_5 j vq ?_))))))))
 refine RL.bE 2 p1h_5 j z8 (RL.jo (p1h_5.length:Int) 1 ?_)
 obtain⟨aa,ab,o⟩:=bd o
 refine RL.call zt zr GF [(vi p0),(vi 0),(vi (IntKind.wrap .i64 ((p1h_5.length:Int) - 1)))] zr (aF (mG N (p0:=p0) (p1:=0) (p2:=(IntKind.wrap .i64 ((p1h_5.length:Int) - 1))) j ab) ?_)
 rintro _ w ⟨rfl,j⟩
 refine aP (vb aa) (RL.nt (RC.ret ?_))
 obtain rfl:=oi o
 exact cI ⟨rfl,j.pk 3 [0,1]⟩
end Go.Gk
namespace Go.Gk
open Go Go.Proofs
variable (N:Nat) {E w:World} {b0 i0 i1 i2 i3 i4:Nat} {p1 p2 res:Int} {v0 v0_0 v0_1 v0_10 v0_11 v0_2 v0_3 v0_4 v0_5 v0_6 v0_7 v0_8 v0_9 v1 v2 v3 v4:Value} {V:List HP}
def rF (E:World) (V:List HP) (r:Int) (U:Nat->Value) (w:World):Prop:=mx bF 19 Tryz.f57 (aQ E V r) .ret U w
theorem qE {p0: (List bY)} {p1:bY} (j:Holds E w V) (h0:V[i0]? =some (rd v0 p0)) (h1:V[i1]? =some (rd v1 p1)) (o:lF N p0 p1=some res):
    Calls bF 57 [v0,v1].toArray w (gT (aQ E V res)):=by
 unfold lF at o
 refine enter Tryz.func57 zr zr ?_
 have j:=(j.dup (i0+0) h0).dup (i1+1) h1
 refine RC.sr (RL.dD 0 v1 j zr fun ad w j=>?_)
 refine aP (vi 0) (RL.nq (RC.sr (mv v0 (RL.bE 2 p0 j yM (mv (vi 0) (RL.nt ?_))))))
 obtain⟨al,hN,o⟩:=bd o
 refine RC.range (fun(aa:Nat) (ab:Unit)=>SH E V [(0,v0),(3,vp ad 0),(7,vi p0.length),(8,vi aa)] [rd v0 p0,bx 40 ad p1]) (fun(ab:Unit)=>SH E V [] [rd v0 p0,bx 40 ad p1]) (rF E V) hN ?_ ?_ ?_ ?_ ?_
 ·exact j.sp 3 [2,0]
 ·rintro hm ab _ w ⟨O,rfl,j⟩
  refine RC.sr (ic ((p0.length:Int)) ((p0.length:Int)) (RL.nq (RC.cT mc (RC.ex ?_))))
  exact⟨rfl,j.sp 2 [0,1]⟩
 ·rintro hm aa ab fl _ w hk ⟨O,rfl,j⟩ o
  refine RC.sr (ic ((aa:Int)) ((p0.length:Int)) (RL.nq (RC.cS (mb hk) (RC.ss (RC.bs (mv (vi aa) (aP (vi aa) (RL.nq ?_))))))))
  refine RC.xf mixed ?_
  have j:=j.drew
  refine RO.go (RL.aX (f:=(fun x=>x)) 1 j zr Fd.self si fun ao j=>(RO.nx (mv v0 (RO.nx (mv (vi aa) (RO.nx ?_))))))
  obtain⟨ag,ai,o⟩:=bd o
  refine RL.cB 1 j vt ai fun aq j=>(RO.nx (RL.bP 0 ag j si fun ar j=>(RO.nx (RL.seq 2 0 p1 ag zt zr j zr zr zr zr HZ zr (RO.last (aG (fH o (fun hc o=>?_) fun hc o=>?_)))))))
  rotate_left
  ·refine RC.skip (bT (aG (RC.region (RL.inc hk hm (mv (vi ((aa+1:Nat):Int)) (RL.nil ?_))))))
   obtain rfl:=oi o
   exact⟨rfl,j.sp 5 [3,4]⟩
  refine RC.sr (mv (vi aa) (aP (vi aa) (RL.nt (RC.rb (cC ?_)))))
  obtain rfl:=oi o
  exact⟨rfl,cI ⟨rfl,j.drop 5⟩⟩
 ·intro r U w e hK
  subst e
  refine cC ?_
  obtain rfl:=oi o
  exact hK
 rintro ab _ w rfl ⟨O,rfl,j⟩
 rw [Fo.gx] at o
 refine aG (RC.sr (aP (vi (-1)) (RL.nt (RC.ret ?_))))
 obtain rfl:=oi o
 exact cI ⟨rfl,j.drop 2⟩
theorem oS {p0: (List bY)} {p1:bY} {res:Bool} (j:Holds E w V) (h0:V[i0]? =some (rd v0 p0)) (h1:V[i1]? =some (rd v1 p1)) (o:gG N p0 p1=some res):
    Calls bF 30 [v0,v1].toArray w (gT (bD E V res)):=by
 unfold gG at o
 refine enter Tryz.func30 zr zr ?_
 have j:=(j.dup (i0+0) h0).dup (i1+1) h1
 refine RC.sr (RL.dD 0 v1 j zr fun ae w j=>?_)
 refine aP (vb false) (RL.ns (mv v0 (RL.aX (f:=(fun x=>x)) 0 j zr Fd.self si fun ab j=>?_)))
 obtain⟨aa,ad,o⟩:=bd o
 refine RL.call zt zr JQ [v0,ab] zr (aF (qE N (i0:=3) (i1:=0) j zr zr ad) ?_)
 rintro _ w ⟨rfl,j⟩
 refine ic aa 0 (aP (vb (decide (aa>=0))) (RL.nt (RC.ret ?_)))
 obtain rfl:=oi o
 exact cI ⟨rfl,j.drop 4⟩
def sE (E:World) (V:List HP) (b0:Nat) (v0_0 v0_1:Value) (v0_2 v0_3:Value) (v0_4 v0_5:Value) (v0_6 v0_7:Value) (v0_8 v0_9:Value) (v0_10 v0_11:Value) (r:Int) (U:Nat->Value) (w:World):Prop:=mx bF 112 Tryz.f11 (iE E V b0 v0_0 v0_1 v0_2 v0_3 v0_4 v0_5 v0_6 v0_7 v0_8 v0_9 v0_10 v0_11 r) .ret U w
theorem rG {p0_0: (List (List aI))} {p0_1: (List aI)} {p0_2: (List bU)} {p0_3: (List cV)} {p0_4: (List (List aA))} {p0_5: (List aH)} {p0_6: (List (List Int))} {p0_7: (List cL)} {p0_8: (List Int)} {p0_9: (List Int)} {p0_10: (List Int)} {p0_11: (List dO)} {p1: (List bY)} (o:Holds E w (bc 69 b0 [v0_0,v0_1,v0_2,v0_3,v0_4,v0_5,v0_6,v0_7,v0_8,v0_9,v0_10,v0_11]::rd v0_0 p0_0::rd v0_1 p0_1::rd v0_2 p0_2::rd v0_3 p0_3::rd v0_4 p0_4::rd v0_5 p0_5::rd v0_6 p0_6::rd v0_7 p0_7::rd v0_8 p0_8::rd v0_9 p0_9::rd v0_10 p0_10::rd v0_11 p0_11::V)) (h1:V[i1]? =some (rd v1 p1)) (hb:hQ N p0_0 p0_1 p0_2 p0_3 p0_4 p0_5 p0_6 p0_7 p0_8 p0_9 p0_10 p0_11 p1=some res):
    Calls bF 11 [(vp b0 0),v1].toArray w (gT (iE E V b0 v0_0 v0_1 v0_2 v0_3 v0_4 v0_5 v0_6 v0_7 v0_8 v0_9 v0_10 v0_11 res)):=by
 unfold hQ at hb
 refine enter Tryz.func11 zr zr ?_
 have o:=o.dup (i1+13) h1
 refine RC.sr (RL.Dq (vp b0 0) zt zr o zr zr fun ae w o=>?_)
 refine aP (vi 0) (RL.nq (RC.sr (mv v1 (RL.bE 1 p1 o yM (ic ((p1.length:Int)) 20 (RL.nt (fH hb (fun hc hb=>?_) fun hc hb=>?_)))))))
 ·refine RC.sr (aP (vi 2) (RL.nt (RC.rt ?_)))
  obtain rfl:=oi hb
  exact cI ⟨rfl,o.pk 15 [2]⟩
 refine RC.sx (RL.makeFunc [(vp ae 0)] (aP (.func (.func 29) #[] #[(vp ae 0)]) (RL.nq (RC.sr (mv v1 (RL.bE 1 p1 o yM (mv (vi 0) (RL.nt ?_))))))))
 obtain⟨bh,hN,hb⟩:=bd hb
 refine RC.range (fun(ag:Nat) (an:Unit)=>SH E V [(0,vp b0 0),(1,v1),(2,vp ae 0),(5,(.func (.func 29) #[] #[(vp ae 0)])),(13,v1),(14,vi p1.length),(15,vi ag)] [bc 69 b0 [v0_0,v0_1,v0_2,v0_3,v0_4,v0_5,v0_6,v0_7,v0_8,v0_9,v0_10,v0_11],rd v0_0 p0_0,rd v0_1 p0_1,rd v0_2 p0_2,rd v0_3 p0_3,rd v0_4 p0_4,rd v0_5 p0_5,rd v0_6 p0_6,rd v0_7 p0_7,rd v0_8 p0_8,rd v0_9 p0_9,rd v0_10 p0_10,rd v0_11 p0_11,rd v1 p1,bc 42 ae [(vp b0 0)]]) (fun(an:Unit)=>SH E V [(0,vp b0 0)] [bc 69 b0 [v0_0,v0_1,v0_2,v0_3,v0_4,v0_5,v0_6,v0_7,v0_8,v0_9,v0_10,v0_11],rd v0_0 p0_0,rd v0_1 p0_1,rd v0_2 p0_2,rd v0_3 p0_3,rd v0_4 p0_4,rd v0_5 p0_5,rd v0_6 p0_6,rd v0_7 p0_7,rd v0_8 p0_8,rd v0_9 p0_9,rd v0_10 p0_10,rd v0_11 p0_11,rd v1 p1,bc 42 ae [(vp b0 0)]]) (sE E V b0 v0_0 v0_1 v0_2 v0_3 v0_4 v0_5 v0_6 v0_7 v0_8 v0_9 v0_10 v0_11) hN ?_ ?_ ?_ ?_ ?_
 ·exact o.sp 15 [2,3,4,5,6,7,8,9,10,11,12,13,14,1,0]
 ·rintro hm an _ w ⟨O,rfl,o⟩
  refine RC.sr (ic ((p1.length:Int)) ((p1.length:Int)) (RL.nq (RC.cT mc (RC.ex ?_))))
  exact⟨rfl,o.sp 15 [0,1,2,3,4,5,6,7,8,9,10,11,12,13,14]⟩
 ·rintro hm ag an fl _ w hk ⟨O,rfl,o⟩ hb
  refine RC.sr (ic ((ag:Int)) ((p1.length:Int)) (RL.nq (RC.cS (mb hk) (RC.ss (RC.bs (mv (vi ag) ?_))))))
  obtain⟨j,a0,hb⟩:=bd hb
  refine RL.cB 13 o vt a0 fun bk o=>(RL.bP 0 j o si fun bl o=>(RL.alloc o yL.z fun ad w o=>?_))
  refine aP (vi ag) (RL.bA 0 o 1 zr si fun w o=>?_)
  refine RL.nq (RC.seq ?_)
  obtain⟨ao,hj,hb⟩:=bd hb
  refine RC.jn (fun(ao:Bool)=>SH E V [(0,vp b0 0),(1,v1),(2,vp ae 0),(5,(.func (.func 29) #[] #[(vp ae 0)])),(6,vi ag),(7,vp ad 0),(13,v1),(14,vi p1.length),(15,vi ag),(42,vb ao)] [bc 69 b0 [v0_0,v0_1,v0_2,v0_3,v0_4,v0_5,v0_6,v0_7,v0_8,v0_9,v0_10,v0_11],rd v0_0 p0_0,rd v0_1 p0_1,rd v0_2 p0_2,rd v0_3 p0_3,rd v0_4 p0_4,rd v0_5 p0_5,rd v0_6 p0_6,rd v0_7 p0_7,rd v0_8 p0_8,rd v0_9 p0_9,rd v0_10 p0_10,rd v0_11 p0_11,rd v1 p1,bc 42 ae [(vp b0 0)],bx 40 ad j]) ao ?_ ?_
  ·refine RC.region (RL.aZ rfl sj (RL.aK 0 o rfl lT xU (mv (vb j.Open) (RL.gs true j.Open (vp ad 3) rfl rfl rfl (dI yN) (RL.gs true j.Open (vi j.A) rfl rfl rfl (bQ 0 rfl o (fun h=>by exact(cQ h:cv (true&&(j.Open==true)) (vp ad 3)= (vp ad 3))) rfl qW cG) (RL.gs true j.Open (vb (j.A != 0)) rfl rfl rfl (dT .neq .i64 j.A 0 rfl (fun h=>by exact(cQ h:cv (true&&(j.Open==true)) (vi j.A)= (vi j.A))) (fun _=>rfl) rfl) (RL.gs true j.Open (vb (j.A != 0)) rfl rfl rfl (dQ (hx:=fun h=>by exact(cQ h:cv (true&&(j.Open==true)) (vb (j.A != 0))= (vb (j.A != 0))))) (RL.gs (true&&(j.Open==true)) (j.A != 0) (vp ad 4) rfl rfl rfl (dI yO) ?_))))))))
   refine RL.gs (true&&(j.Open==true)) (j.A != 0) (vi j.B) rfl rfl rfl (bQ 0 rfl o (fun h=>by exact(cQ h:cv ((true&&(j.Open==true))&&((j.A != 0)==false)) (vp ad 4)= (vp ad 4))) rfl qX cG) (RL.gs (true&&(j.Open==true)) (j.A != 0) (vb (j.B != 0)) rfl rfl rfl (dT .neq .i64 j.B 0 rfl (fun h=>by exact(cQ h:cv ((true&&(j.Open==true))&&((j.A != 0)==false)) (vi j.B)= (vi j.B))) (fun _=>rfl) rfl) (RL.gs true j.Open (vb ((j.A != 0)||(j.B != 0))) rfl rfl rfl (nU (j.A != 0) rfl (fun h=>by exact(cQ h:cv (true&&(j.Open==true)) (vb (j.A != 0))= (vb (j.A != 0)))) (fun h=>by exact m7 (true&&(j.Open==true)) h)) (RL.pick j.Open (vb (j.Open&&((j.A != 0)||(j.B != 0)))) (iU true) (mv (vb (j.Open&&((j.A != 0)||(j.B != 0)))) (fY hj (fun ah hj=>?_) fun ah hj=>?_)))))
   ·refine bR ah (bR ah (bR ah (bR ah (yD (yD (yD (yD (bR ah ?_))))))))
    refine fV ah (vb true) (RL.nil ?_)
    obtain rfl:=oi hj
    exact⟨rfl,o.sp 18 [3,4,5,6,7,8,9,10,11,12,13,14,15,16,17,0]⟩
   refine RL.aZ (hg:=(cg ah)) zr sj (RL.aK (hg:=(cg ah)) 0 o zr lT xU (RL.not (hg:=(cg ah)) j.Open (RL.move (vb (!j.Open)) (cg ah) (fY hj (fun aj hj=>?_) fun aj hj=>?_))))
   ·refine RL.aZ (hg:=(cg aj)) rfl uE (RL.aX (hg:=(cg aj)) 0 o rfl m4 ql fun bm o=>(RL.build (⟨false,0⟩:dO) (cg aj) rfl o [] rfl CI rfl (fun M hs g=>by have h:=v9 M;exact cH.nil h) fun bn o=>?_))
    refine RL.Kf 1 0 j.dO (⟨false,0⟩:dO) (cg aj) zr o zr zr zr zr HY zr (fV aj (vb (!(decide (j.dO= (⟨false,0⟩:dO))))) (hg:=(cg ah)) (fV ah (vb (!(decide (j.dO= (⟨false,0⟩:dO))))) (RL.nil ?_)))
    obtain rfl:=oi hj
    exact⟨rfl,o.sp 20 [5,6,7,8,9,10,11,12,13,14,15,16,17,18,19,2]⟩
   refine bR aj (bR aj (bR aj (bR aj (fV aj (vb false) (hg:=(cg ah)) (fV ah (vb false) (RL.nil ?_))))))
   obtain rfl:=oi hj
   exact⟨rfl,o.sp 18 [3,4,5,6,7,8,9,10,11,12,13,14,15,16,17,0]⟩
  rintro _ w ⟨O,rfl,o⟩
  refine aG (fH hb (fun hc hb=>?_) fun hc hb=>?_)
  ·refine RC.sr (aP (vi 3) (RL.nt (RC.rt (lR (cC ?_)))))
   obtain rfl:=oi hb
   exact⟨rfl,cI ⟨rfl,o.pk 16 [0]⟩⟩
  refine RC.ss ?_
  obtain⟨aq,hj,hb⟩:=bd hb
  refine RC.jn (fun(aq:Bool)=>SH E V [(0,vp b0 0),(1,v1),(2,vp ae 0),(5,(.func (.func 29) #[] #[(vp ae 0)])),(6,vi ag),(7,vp ad 0),(8,vb aq),(13,v1),(14,vi p1.length),(15,vi ag)] [bc 69 b0 [v0_0,v0_1,v0_2,v0_3,v0_4,v0_5,v0_6,v0_7,v0_8,v0_9,v0_10,v0_11],rd v0_0 p0_0,rd v0_1 p0_1,rd v0_2 p0_2,rd v0_3 p0_3,rd v0_4 p0_4,rd v0_5 p0_5,rd v0_6 p0_6,rd v0_7 p0_7,rd v0_8 p0_8,rd v0_9 p0_9,rd v0_10 p0_10,rd v0_11 p0_11,rd v1 p1,bc 42 ae [(vp b0 0)],bx 40 ad j]) aq ?_ ?_
  ·refine RC.region (mv (.func (.func 29) #[] #[(vp ae 0)]) (RL.aZ zr yN (RL.aK 15 o zr qW cG ?_)))
   have o:=((o.dup 6 rfl).pull 1).pull 16
   obtain⟨dH,a1,hj⟩:=bd hj
   refine RL.nT [(vp ae 0)] GJ [(vi j.A)] (aF (jA N (p0:=j.A) o a1) ?_)
   rintro _ w ⟨rfl,o⟩
   refine mv (vb dH) (fY hj (fun ak hj=>?_) fun ak hj=>?_)
   rotate_left
   ·refine bR ak (bR ak (bR ak (bR ak (fV ak (vb false) (aP (vb false) (RL.nil ?_))))))
    obtain rfl:=oi hj
    exact⟨rfl,o.sp 18 [1,3,4,5,6,7,8,9,10,11,12,13,14,15,0,17]⟩
   refine RL.move (.func (.func 29) #[] #[(vp ae 0)]) (cg ak) (RL.aZ (hg:=(cg ak)) zr yO (RL.aK (hg:=(cg ak)) 17 o zr qX cG ?_))
   have o:=((o.dup 8 rfl).pull 2).pull 2
   obtain⟨ay,a2,hj⟩:=bd hj
   refine RL.nT (hg:=(cg ak)) [(vp ae 0)] GJ [(vi j.B)] (aF (jA N (p0:=j.B) o a2) ?_)
   rintro _ w ⟨rfl,o⟩
   refine fV ak (vb ay) (aP (vb ay) (RL.nil ?_))
   obtain rfl:=oi hj
   exact⟨rfl,o.sp 20 [1,5,6,7,8,9,10,11,12,13,14,15,16,17,0,19]⟩
  rintro _ w ⟨O,rfl,o⟩
  refine aG (RC.seq (RC.sr (RL.aZ zr sj (RL.aK 15 o zr lT xU (RL.nt ?_)))))
  obtain⟨ar,hj,hb⟩:=bd hb
  refine RC.jn (fun(ar:Bool)=>SH E V [(0,vp b0 0),(1,v1),(2,vp ae 0),(5,(.func (.func 29) #[] #[(vp ae 0)])),(6,vi ag),(7,vp ad 0),(8,vb ar),(13,v1),(14,vi p1.length),(15,vi ag)] [bc 69 b0 [v0_0,v0_1,v0_2,v0_3,v0_4,v0_5,v0_6,v0_7,v0_8,v0_9,v0_10,v0_11],rd v0_0 p0_0,rd v0_1 p0_1,rd v0_2 p0_2,rd v0_3 p0_3,rd v0_4 p0_4,rd v0_5 p0_5,rd v0_6 p0_6,rd v0_7 p0_7,rd v0_8 p0_8,rd v0_9 p0_9,rd v0_10 p0_10,rd v0_11 p0_11,rd v1 p1,bc 42 ae [(vp b0 0)],bx 40 ad j]) ar ?_ ?_
  ·refine fH hj (fun hc hj=>?_) fun hc hj=>?_
   rotate_left
   ·refine RC.skip ?_
    obtain rfl:=oi hj
    exact⟨rfl,o.sp 16 [0,1,2,3,4,5,6,7,8,9,10,11,12,13,14,15]⟩
   refine RC.region (mv (.func (.func 29) #[] #[(vp ae 0)]) (RL.aZ zr uE (RL.aZ zr sg (RL.aK (f:=(fun x=>x.dO.Number)) 15 o zr (Fd.comp (f:=fun(x:bY)=>x.dO) (fun(x:dO)=>x.Number) m4 nj) cG ?_))))
   have o:=((o.dup 6 rfl).pull 1).pull 16
   obtain⟨a3,a4,hj⟩:=bd hj
   refine RL.nT [(vp ae 0)] GJ [(vi j.dO.Number)] (aF (jA N (p0:=j.dO.Number) o a4) ?_)
   rintro _ w ⟨rfl,o⟩
   refine aP (vb a3) (RL.nil ?_)
   obtain rfl:=oi hj
   exact⟨rfl,o.sp 18 [1,3,4,5,6,7,8,9,10,11,12,13,14,15,0,17]⟩
  rintro _ w ⟨O,rfl,o⟩
  refine aG (RC.seq (RC.sr (RL.aZ rfl sj (RL.aK 15 o rfl lT xU (mv (vb j.Open) (RL.gs true j.Open (vp ad 1) rfl rfl rfl (dI uE) (RL.gs true j.Open (vp ad 1) rfl rfl rfl (dI (hx:=fun h=>by exact(cQ h:cv (true&&(j.Open==true)) (vp ad 1)= (vp ad 1))) Bc) (RL.gs true j.Open (vb j.dO.bU) rfl rfl rfl (bQ (f:=(fun x=>x.dO.bU)) 15 rfl o (fun h=>by exact(cQ h:cv (true&&(j.Open==true)) (vp ad 1)= (vp ad 1))) rfl (Fd.comp (f:=fun(x:bY)=>x.dO) (fun(x:dO)=>x.bU) m4 v8) xU) ?_))))))))
  refine RL.pick j.Open (vb (j.Open&&j.dO.bU)) (iU true) (RL.nt ?_)
  obtain⟨al,hj,hb⟩:=bd hb
  refine RC.jn (fun(al:Bool)=>SH E V [(0,vp b0 0),(1,v1),(2,vp ae 0),(5,(.func (.func 29) #[] #[(vp ae 0)])),(6,vi ag),(7,vp ad 0),(8,vb al),(13,v1),(14,vi p1.length),(15,vi ag)] [bc 69 b0 [v0_0,v0_1,v0_2,v0_3,v0_4,v0_5,v0_6,v0_7,v0_8,v0_9,v0_10,v0_11],rd v0_0 p0_0,rd v0_1 p0_1,rd v0_2 p0_2,rd v0_3 p0_3,rd v0_4 p0_4,rd v0_5 p0_5,rd v0_6 p0_6,rd v0_7 p0_7,rd v0_8 p0_8,rd v0_9 p0_9,rd v0_10 p0_10,rd v0_11 p0_11,rd v1 p1,bc 42 ae [(vp b0 0)],bx 40 ad j]) al ?_ ?_
  ·refine fH hj (fun hc hj=>?_) fun hc hj=>?_
   rotate_left
   ·refine RC.skip ?_
    obtain rfl:=oi hj
    exact⟨rfl,o.sp 16 [0,1,2,3,4,5,6,7,8,9,10,11,12,13,14,15]⟩
   obtain⟨au,hjj,hj⟩:=bd hj
   refine RC.jn (fun(au:Bool)=>SH E V [(0,vp b0 0),(1,v1),(2,vp ae 0),(5,(.func (.func 29) #[] #[(vp ae 0)])),(6,vi ag),(7,vp ad 0),(8,vb au),(13,v1),(14,vi p1.length),(15,vi ag)] [bc 69 b0 [v0_0,v0_1,v0_2,v0_3,v0_4,v0_5,v0_6,v0_7,v0_8,v0_9,v0_10,v0_11],rd v0_0 p0_0,rd v0_1 p0_1,rd v0_2 p0_2,rd v0_3 p0_3,rd v0_4 p0_4,rd v0_5 p0_5,rd v0_6 p0_6,rd v0_7 p0_7,rd v0_8 p0_8,rd v0_9 p0_9,rd v0_10 p0_10,rd v0_11 p0_11,rd v1 p1,bc 42 ae [(vp b0 0)],bx 40 ad j]) au ?_ ?_
   ·refine RC.yC mixed [0,0,0,0,0,0,0,0,0,0,2,0,0,0,0,0,0,0,0,0,0,0,0,0,0] [0,1,2,3,4,5,6,7,8,9,10,11,12,13,14,15,16,17,18,19,20,21,22,23,24] ?_
    have o:=o.drew
    refine DP.e0 zr (RL.aZ zr uE (cE zr (RL.aZ zr sg (cE zr (RL.aK (f:=(fun x=>x.dO.Number)) 15 o zr (Fd.comp (f:=fun(x:bY)=>x.dO) (fun(x:dO)=>x.Number) m4 nj) cG (cE zr (RL.aU 14 (vp b0 0) o vr (cE zr ?_))))))))
    refine RL.nilCheck zr (cE zr (RL.aZ zr mD (cE zr (RL.aZ zr lV (cE zr (RL.aU 0 v0_2 o uz (cE zr (RL.bE 3 p0_2 o wg ?_))))))))
    refine cE zr (RL.jo (p0_2.length:Int) 1 (vX zr ?_))
    obtain⟨a5,a6,hjj⟩:=bd hjj
    refine RL.call zt zr GF [(vi j.dO.Number),(vi 0),(vi (IntKind.wrap .i64 ((p0_2.length:Int) - 1)))] zr (aF (mG N (p0:=j.dO.Number) (p1:=0) (p2:=(IntKind.wrap .i64 ((p0_2.length:Int) - 1))) o a6) ?_)
    rintro _ w ⟨rfl,o⟩
    refine AI zr (mv (vb a5) (DP.d0 (fY hjj (fun af hjj=>?_) fun af hjj=>?_)))
    rotate_left
    ·refine DP.e0 zr (bR af (cE zr (bR af (cE zr (bR af (cE zr (bR af (cE zr ?_))))))))
     refine bR af (cE zr (bR af (cE zr (bR af (cE zr (bR af (cE zr (bR af ?_))))))))
     refine cE zr (bR af (cE zr (bR af (cE zr (fV af (vb false) (cE zr (aP (vb false) (DP.d0 ?_))))))))
     refine DP.z ?_
     obtain rfl:=oi hjj
     exact⟨rfl,o.sp 16 [0,1,2,3,4,5,6,7,8,9,10,11,12,13,14,15]⟩
    refine DP.e0 zr (RL.aU (hg:=(cg af)) 14 (vp b0 0) o vr (cE zr (RL.nilCheck (hg:=(cg af)) zr (cE zr (RL.aZ (hg:=(cg af)) zr mD (cE zr (RL.aZ (hg:=(cg af)) zr lV (cE zr ?_))))))))
    refine RL.aU (hg:=(cg af)) 0 v0_2 o uz (cE zr (RL.aZ (hg:=(cg af)) zr uE (cE zr (RL.aZ (hg:=(cg af)) zr sg (cE zr (RL.aK (hg:=(cg af)) (f:=(fun x=>x.dO.Number)) 15 o zr (Fd.comp (f:=fun(x:bY)=>x.dO) (fun(x:dO)=>x.Number) m4 nj) cG (cE zr ?_)))))))
    obtain⟨av,a7,hjj⟩:=bd hjj
    refine RL.cB (hg:=(cg af)) 3 o yF a7 fun bo o=>(cE zr (RL.ig (hg:=(cg af)) 0 o zr yH qU fun bp o=>(cE zr (RL.bG (hg:=(cg af)) av.gA 0 o xU (cE zr (fV af (vb av.gA) (cE zr (aP (vb av.gA) ?_))))))))
    refine DP.d0 (DP.z ?_)
    obtain rfl:=oi hjj
    exact⟨rfl,o.sp 18 [2,3,4,5,6,7,8,9,10,11,12,13,14,15,16,17]⟩
   rintro _ w ⟨O,rfl,o⟩
   obtain rfl:=oi hj
   exact⟨rfl,o.sp 16 [0,1,2,3,4,5,6,7,8,9,10,11,12,13,14,15]⟩
  rintro _ w ⟨O,rfl,o⟩
  refine aG (RC.bs (mv (vb al) (RL.not al (aP (vb (!al)) (RL.nt (fH hb (fun hc hb=>?_) fun hc hb=>?_))))))
  ·refine RC.sr (aP (vi 9) (RL.nt (RC.rb (lR (cC ?_)))))
   obtain rfl:=oi hb
   exact⟨rfl,cI ⟨rfl,o.pk 16 [0]⟩⟩
  refine RC.sr (RL.aZ rfl sj (RL.aK 15 o rfl lT xU (RL.not j.Open (mv (vb (!j.Open)) (RL.gs true (!j.Open) (vp ad 4) rfl rfl rfl (dI yO) (RL.gs true (!j.Open) (vi j.B) rfl rfl rfl (bQ 15 rfl o (fun h=>by exact(cQ h:cv (true&&((!j.Open)==true)) (vp ad 4)= (vp ad 4))) rfl qX cG) (RL.gs true (!j.Open) (vp ad 3) rfl rfl rfl (dI yN) (RL.gs true (!j.Open) (vi j.A) rfl rfl rfl (bQ 15 rfl o (fun h=>by exact(cQ h:cv (true&&((!j.Open)==true)) (vp ad 3)= (vp ad 3))) rfl qW cG) ?_))))))))
  refine RL.gs true (!j.Open) (vb (decide (j.B<=j.A))) rfl rfl rfl (dT .leq .i64 j.B j.A rfl (fun h=>by exact(cQ h:cv (true&&((!j.Open)==true)) (vi j.B)= (vi j.B))) (fun h=>by exact(cQ h:cv (true&&((!j.Open)==true)) (vi j.A)= (vi j.A))) rfl) (RL.pick (!j.Open) (vb ((!j.Open)&&(decide (j.B<=j.A)))) (iU true) (aP (vb ((!j.Open)&&(decide (j.B<=j.A)))) (RL.nt (fH hb (fun hc hb=>?_) fun hc hb=>?_))))
  ·refine RC.sr (aP (vi 8) (RL.nt (RC.rb (lR (cC ?_)))))
   obtain rfl:=oi hb
   exact⟨rfl,cI ⟨rfl,o.pk 16 [0]⟩⟩
  refine RC.seq (RC.yC mixed [0,0,0,0,2,0] [0,1,2,3,4,5] ?_)
  have o:=o.drew
  refine DP.e0 zr (mv v1 (cE zr (mv (vi ag) (cE zr ?_))))
  obtain⟨bq,a8,hb⟩:=bd hb
  refine RL.cut (hl:= .inr ⟨rfl,zr⟩) 13 o vt (.inl zr) a8 fun a9 o=>(cE zr (RL.aX (f:=(fun x=>x)) 16 o zr Fd.self si fun ba o=>(vX zr ?_)))
  obtain⟨bb,bf,hb⟩:=bd hb
  refine RL.call zt zr JR [a9,ba] zr (aF (oS N (i0:=1) (i1:=0) o zr zr bf) ?_)
  rintro _ w ⟨rfl,o⟩
  refine AI zr (aP (vb bb) (DP.d0 (DP.z (aG (fH hb (fun hc hb=>?_) fun hc hb=>?_)))))
  rotate_left
  ·refine RC.skip (bT (bT (aG (RC.region (RL.inc hk hm (mv (vi ((ag+1:Nat):Int)) (RL.nil ?_)))))))
   obtain rfl:=oi hb
   exact⟨rfl,o.sp 18 [2,3,4,5,6,7,8,9,10,11,12,13,14,15,16]⟩
  refine RC.sr (aP (vi 7) (RL.nt (RC.rb (lR (cC ?_)))))
  obtain rfl:=oi hb
  exact⟨rfl,cI ⟨rfl,o.pk 18 [2]⟩⟩
 ·intro r U w e hK
  subst e
  refine cC ?_
  obtain rfl:=oi hb
  exact hK
 rintro an _ w rfl ⟨O,rfl,o⟩
 rw [Fo.gx] at hb
 refine aG (RC.sr (aP (vi 0) (RL.nt (RC.ret ?_))))
 obtain rfl:=oi hb
 exact cI ⟨rfl,o.pk 15 [0]⟩
def ld (E:World) (V:List HP) (res:Int×Bool) (v:Value) (w:World):Prop:=v = .tuple #[(vi res.1),(vb res.2)]/\Holds E w V
theorem kO {p0: (List cV)} {p1:fD} {p2:cV->fD->Option Int} {res:Int×Bool} (o:Holds E w V) (h0:V[i0]? =some (rd v0 p0)) (h1:V[i1]? =some (rd v1 p1)) (h2:Gg bF E V v2 p2 (fun(r:Int)=>Value.int .i64 r)) (hb:eD N p0 p1 p2=some res):
    Calls bF 31 [v0,v1,v2].toArray w (gT (ld E V res)):=by
 unfold eD at hb
 refine enter Tryz.func31 zr zr ?_
 have o:=(o.dup (i0+0) h0).dup (i1+1) h1
 refine RC.sr (RL.dD 0 v1 o zr fun ae w o=>?_)
 refine aP (vi 0) (aP (vb false) (RL.ns (mv v0 (RL.bE 2 p0 o DR (aP (vi p0.length) (RL.ns (mv (vi p0.length) (aP (vi 0) ?_))))))))
 refine aP (vi p0.length) (RL.nq ?_)
 obtain⟨av,hN,hb⟩:=bd hb
 refine RC.iter (fun(j:Int×Int)=>SH E V [(0,v0),(2,v2),(4,vp ae 0),(8,vi p0.length),(9,vi j.1),(10,vi j.2)] [rd v0 p0,bx 29 ae p1]) (fun(j:Int×Int)=>SH E V [(0,v0),(2,v2),(4,vp ae 0),(8,vi p0.length),(9,vi j.1)] [rd v0 p0,bx 29 ae p1]) (fun(r:Empty) _ _=>r.elim) hN ?_ ?_ ?_ ?_
 ·exact o.sp 3 [2,0]
 ·rintro j fl _ w ⟨O,rfl,o⟩ hb
  refine RC.seq (RC.sr (mv (vi j.1) (mv (vi j.2) (ic j.1 j.2 (RL.nt (fH hb (fun hc hb=>?_) fun hc hb=>?_))))))
  rotate_left
  ·refine RC.ex ?_
   obtain rfl:=oi hb
   exact⟨rfl,o.sp 2 [0,1]⟩
  refine RC.sn (RC.bs (mv (vi j.1) (mv (vi j.2) (RL.jo j.1 j.2 (RL.conv (IntKind.wrap .i64 (j.1+j.2)) zt zr zr ⟨_,De⟩ F3 (RL.bin (v:=(.int .u64 (IntKind.wrap .u64 (IntKind.wrap .i64 (j.1+j.2))))) (v':=(.int .u64 1)) (u:=(.int .u64 (Int.fdiv (IntKind.wrap .u64 (IntKind.wrap .i64 (j.1+j.2))) 2))) zt zr zr zr (fun _=>zr) (fun _=>zr) (RL.conv (Int.fdiv (IntKind.wrap .u64 (IntKind.wrap .i64 (j.1+j.2))) 2) zt zr zr ⟨_,F3⟩ De (aP (vi (IntKind.wrap .i64 (Int.fdiv (IntKind.wrap .u64 (IntKind.wrap .i64 (j.1+j.2))) 2))) ?_))))))))
  refine RL.nq (RC.yC mixed [0,0,0,0,0,0,2,0] [0,1,2,3,4,5,6,7] ?_)
  have o:=o.drew
  refine DP.e0 zr (mv v2 (cE zr (mv v0 (cE zr (mv (vi (IntKind.wrap .i64 (Int.fdiv (IntKind.wrap .u64 (IntKind.wrap .i64 (j.1+j.2))) 2))) (cE zr ?_))))))
  obtain⟨ak,al,hb⟩:=bd hb
  refine RL.cB 0 o CE al fun ax o=>(cE zr (RL.bP 0 ak o wi fun ay o=>(cE zr (RL.aX (f:=(fun x=>x)) 3 o zr Fd.self tr fun az o=>(vX zr ?_)))))
  obtain⟨an,ao,hb⟩:=bd hb
  refine RL.AS 1 0 zt zr o zr h2 5 zr zr zr zr zr ao fun w o=>(AI zr (ic an 0 (DP.d0 (DP.z (aG ?_)))))
  obtain⟨af,hj,hb⟩:=bd hb
  refine RC.jn (fun(af:Int×Int)=>SH E V [(0,v0),(2,v2),(4,vp ae 0),(8,vi p0.length),(9,vi af.1),(10,vi af.2)] [rd v0 p0,bx 29 ae p1]) af ?_ ?_
  ·refine fH hj (fun hc hj=>?_) fun hc hj=>?_
   rotate_left
   ·refine RC.region (mv (vi (IntKind.wrap .i64 (Int.fdiv (IntKind.wrap .u64 (IntKind.wrap .i64 (j.1+j.2))) 2))) (aP (vi (IntKind.wrap .i64 (Int.fdiv (IntKind.wrap .u64 (IntKind.wrap .i64 (j.1+j.2))) 2))) (RL.nil ?_)))
    obtain rfl:=oi hj
    exact⟨rfl,o.sp 5 [3,4]⟩
   refine RC.region (mv (vi (IntKind.wrap .i64 (Int.fdiv (IntKind.wrap .u64 (IntKind.wrap .i64 (j.1+j.2))) 2))) (RL.jo (IntKind.wrap .i64 (Int.fdiv (IntKind.wrap .u64 (IntKind.wrap .i64 (j.1+j.2))) 2)) 1 (aP (vi (IntKind.wrap .i64 ((IntKind.wrap .i64 (Int.fdiv (IntKind.wrap .u64 (IntKind.wrap .i64 (j.1+j.2))) 2))+1))) (RL.nil ?_))))
   obtain rfl:=oi hj
   exact⟨rfl,o.sp 5 [3,4]⟩
  rintro _ w ⟨O,rfl,o⟩
  refine bT ?_
  obtain rfl:=oi hb
  exact⟨rfl,o.sp 2 [0,1]⟩
 ·intro r _ _ _ _
  exact r.elim
 rintro j _ w rfl ⟨O,rfl,o⟩
 rw [Fo.gx] at hb
 refine aG (RC.seq ?_)
 obtain⟨ah,hj,hb⟩:=bd hb
 refine RC.jn (fun(ah:Bool)=>SH E V [(6,vi j.1),(7,vb ah)] []) ah ?_ ?_
 ·refine RC.yC mixed [1,0,0,0,0,0,0,0,0,0,0,2,0,0,0,0] [0,1,2,3,4,5,6,7,8,9,10,11,12,13,14,15] ?_
  have o:=o.drew
  refine DP.e1 (vi j.1) zr (fun w=>RL.move (vi j.1) zt DP.d1) (DP.e0 zr (mv (vi j.1) (cE zr (mv (vi p0.length) (cE zr (ic j.1 ((p0.length:Int)) (cE zr (mv (vb (decide (j.1< (p0.length:Int)))) ?_))))))))
  refine DP.d0 (fY hj (fun ab hj=>?_) fun ab hj=>?_)
  rotate_left
  ·refine DP.e0 zr (bR ab (cE zr (bR ab (cE zr (bR ab (cE zr (bR ab (cE zr ?_))))))))
   refine bR ab (cE zr (bR ab (vX zr (bR ab (AI zr (bR ab (cE zr (fV ab (vb false) ?_))))))))
   refine cE zr (aP (vi j.1) (cE zr (aP (vb false) (DP.d0 (DP.z ?_)))))
   obtain rfl:=oi hj
   exact⟨rfl,o.sp 2 []⟩
  refine DP.e0 zr (RL.move v2 (cg ab) (cE zr (RL.move v0 (cg ab) (cE zr (RL.move (vi j.1) (cg ab) (cE zr ?_))))))
  obtain⟨aq,ar,hj⟩:=bd hj
  refine RL.cB (hg:=(cg ab)) 0 o CE ar fun a0 o=>(cE zr (RL.bP (hg:=(cg ab)) 0 aq o wi fun a1 o=>(cE zr (RL.aX (hg:=(cg ab)) (f:=(fun x=>x)) 3 o zr Fd.self tr fun a2 o=>(vX zr ?_)))))
  obtain⟨ai,au,hj⟩:=bd hj
  refine RL.AS 1 0 (cg ab) zr o zr h2 5 zr zr zr zr zr au fun w o=>(AI zr (RL.jY ai 0 (cg ab) (cE zr (fV ab (vb (ai==0)) (cE zr (aP (vi j.1) (cE zr (aP (vb (ai==0)) ?_))))))))
  refine DP.d0 (DP.z ?_)
  obtain rfl:=oi hj
  exact⟨rfl,o.sp 5 []⟩
 rintro _ w ⟨O,rfl,o⟩
 refine aG (RC.ret ?_)
 obtain rfl:=oi hb
 exact ma ⟨rfl,o.drop 0⟩
theorem rH {p0:cV} {p1:fD} (j:Holds E w V) (h0:V[i0]? =some (rd v0 p0)) (h1:V[i1]? =some (rd v1 p1)) (o:gm N p0 p1=some res):
    Calls bF 32 [v0,v1].toArray w (gT (aQ E V res)):=by
 unfold gm at o
 refine enter Tryz.func32 zr zr ?_
 have j:=(j.dup (i0+0) h0).dup (i1+1) h1
 refine RC.sr (RL.dD 1 v0 j zr fun ah w j=>?_)
 have j:=j.fT (i:=0) rfl
 refine RL.dD 1 v1 j zr fun ai w j=>?_
 have j:=j.fT (i:=0) rfl
 refine aP (vi 0) (RL.nq (RC.yC mixed [0,2,1,2,0] [0,2,1,3,4] ?_))
 have j:=j.drew
 refine DP.e0 zr (RL.bP 1 p0 j wi fun aa j=>(DP.d0 (DP.uu p1 1 zr j tr fun ab a35 aj j=>(DP.e2 zr ?_))))
 obtain⟨ak,ad,o⟩:=bd o
 refine RL.call zt zr Fj [aa] zr (aF (k6 N (i0:=2) j zr ad) ?_)
 rintro ae w j
 refine DP.d2 (⟨zt,j.j3 1⟩) (DP.e2 zr ?_)
 obtain⟨af,ag,o⟩:=bd o
 refine RL.call zt zr Hx [ae,ab] zr (aF (lH N (i0:=0) (i1:=2) j zr zr ag) ?_)
 rintro _ w ⟨rfl,j⟩
 refine DP.d2 (⟨zt,j.j3 1⟩) (DP.e0 zr (aP (vi af) (DP.d0 ?_)))
 have j:=j.pl 8 [0,2,3,4,5,6,7]
 refine DP.z (aG (RC.ret ?_))
 obtain rfl:=oi o
 exact cI ⟨rfl,j.drop 7⟩
theorem oT {p0:jT} {p1:fD} (o:Holds E w V) (h0:V[i0]? =some (rd v0 p0)) (h1:V[i1]? =some (rd v1 p1)) (hb:jK N p0 p1=some res):
    Calls bF 12 [v0,v1].toArray w (gT (aQ E V res)):=by
 unfold jK at hb
 refine enter Tryz.func12 zr zr ?_
 have o:=(o.dup (i0+0) h0).dup (i1+1) h1
 refine RC.sr (RL.dD 1 v0 o zr fun ai w o=>?_)
 refine RL.dD 1 v1 o zr fun aj w o=>?_
 refine aP (vi 0) (RL.ns (RL.aZ zr uB (RL.aX 1 o zr qe CD fun ad o=>(RL.aX (f:=(fun x=>x)) 1 o zr Fd.self tr fun ae o=>?_))))
 obtain⟨aa,af,hb⟩:=bd hb
 refine RL.call trivial rfl JU [ad,ae,(.func (.func 32) #[] #[])] rfl (aF (kO N (i0:=1) (i1:=0) o rfl rfl ⟨32,[],rfl,JT,fun w Γl v v' y0 y1 r i j o hi hj hr=>by exact aF (rH N (i0:=i) (i1:=j) o hi hj hr) fun _ _ h=>h⟩ af) ?_)
 rintro _ w ⟨rfl,o⟩
 refine mv (.tuple #[(vi aa.1),(vb aa.2)]) (RL.extract (vi aa.1) (RL.extract (vb aa.2) (aP (vi aa.1) (aP (vb aa.2) (RL.nq (RC.sr (mv (vb aa.2) (RL.not aa.2 ?_))))))))
 refine RL.nt (fH hb (fun hc hb=>?_) fun hc hb=>?_)
 ·refine RC.sr (aP (vi (-1)) (RL.nt (RC.rt ?_)))
  obtain rfl:=oi hb
  exact cI ⟨rfl,o.drop 6⟩
 refine RC.sx (mv (vi aa.1) (aP (vi aa.1) (RL.nt (RC.ret ?_))))
 obtain rfl:=oi hb
 exact cI ⟨rfl,o.drop 6⟩
def tH (E:World) (V:List HP) (res:Bool×Int) (v:Value) (w:World):Prop:=v = .tuple #[(vb res.1),(vi res.2)]/\Holds E w V
theorem lf {p0:jT} {p1: (List bY)} {p2 p3:fD} {res:Bool×Int} (j:Holds E w V) (h0:V[i0]? =some (rd v0 p0)) (h1:V[i1]? =some (rd v1 p1)) (h2:V[i2]? =some (rd v2 p2)) (h3:V[i3]? =some (rd v3 p3)) (o:dY N p0 p1 p2 p3=some res):
    Calls bF 6 [v0,v1,v2,v3].toArray w (gT (tH E V res)):=by
 unfold dY at o
 refine enter Tryz.func6 zr zr ?_
 have j:=(((j.dup (i0+0) h0).dup (i1+1) h1).dup (i2+2) h2).dup (i3+3) h3
 refine RC.sr (RL.dD 3 v0 j zr fun a6 w j=>?_)
 have j:=j.fT (i:=0) rfl
 refine RL.dD 2 v2 j zr fun a7 w j=>?_
 have j:=j.fT (i:=0) rfl
 refine RL.dD 2 v3 j zr fun a8 w j=>?_
 have j:=j.fT (i:=0) rfl
 refine aP (vb false) (aP (vi 0) (RL.ns (RL.bP 2 p0 j vo fun aw j=>?_)))
 obtain⟨ab,ax,o⟩:=bd o
 refine RL.call zt zr Kj [aw] zr (aF (qD N (i0:=0) j zr ax) ?_)
 rintro _ w hK51
 rcases aj:ab.1 with _ | a9
 ·replace o:=G8 aj o
  obtain⟨rfl,j⟩:=FY aj hK51
  refine mv (.tuple #[(.pointer none),(vi ab.2)]) (RL.extract (.pointer none) (RL.extract (vi ab.2) (aP (.pointer none) (aP (vi ab.2) (RL.nq (RC.sr (mv (vi ab.2) (ic ab.2 0 ?_))))))))
  refine RL.nt (fH o (fun hc o=>?_) fun hc o=>?_)
  rotate_left
  ·cases o
  refine RC.sr (mv (vi ab.2) (aP (vb false) (aP (vi ab.2) (RL.nt (RC.rt ?_)))))
  obtain rfl:=oi o
  exact ma ⟨rfl,j.drop 8⟩
 replace o:=G9 aj o
 obtain⟨ah,ba,bb,bc,bf,bg,bh,bj,bk,bl,bm,bn,bo,rfl,j⟩:=FZ aj hK51
 refine mv (.tuple #[(vp ah 0),(vi ab.2)]) (RL.extract (vp ah 0) (RL.extract (vi ab.2) (aP (vp ah 0) (aP (vi ab.2) (RL.nq (RC.sr (mv (vi ab.2) (ic ab.2 0 ?_))))))))
 refine RL.nt (fH o (fun hc o=>?_) fun hc o=>?_)
 ·refine RC.sr (mv (vi ab.2) (aP (vb false) (aP (vi ab.2) (RL.nt (RC.rt ?_)))))
  obtain rfl:=oi o
  exact ma ⟨rfl,j.drop 21⟩
 refine RC.ss (RC.sr (mv (vp ah 0) (mv v1 ?_)))
 have j:=((((((((((((j.freeze 5).freeze 8).freeze 11).freeze 12).dup 12 rfl).dup 12 rfl).dup 12 rfl).dup 12 rfl).dup 12 rfl).dup 12 rfl).dup 12 rfl).dup 12 rfl).dup 12 rfl
 have j:=(((j.dup 12 rfl).dup 12 rfl).dup 12 rfl).pull 12
 obtain⟨ai,ay,o⟩:=bd o
 refine RL.call zt zr JS [(vp ah 0),v1] zr (aF (rG N (i1:=19) j zr ay) ?_)
 rintro _ w ⟨rfl,j⟩
 refine aP (vi ai) (RL.ns (mv (vi ai) (ic ai 0 (RL.nt (fH o (fun hc o=>?_) fun hc o=>?_)))))
 ·refine RC.sr (mv (vi ai) (aP (vb false) (aP (vi ai) (RL.nt (RC.rt ?_)))))
  obtain rfl:=oi o
  exact ma ⟨rfl,j.drop 22⟩
 refine RC.ss (RC.yC mixed [0,0,2,1,1,2,0,0] [0,1,3,4,2,5,6,7] ?_)
 have j:=j.drew
 refine DP.e0 zr (RL.bP 17 p0 j vo fun az j=>(cE zr (RL.bP 17 p2 j tr fun a0 j=>(DP.d0 (DP.uu p0 19 zr j vo fun a1 a56 bp j=>(DP.uu p3 19 zr j tr fun a2 a59 bq j=>(DP.e2 zr ?_)))))))
 obtain⟨ad,a3,o⟩:=bd o
 refine RL.call zt zr H0 [az,a0] zr (aF (oT N (i0:=5) (i1:=4) j zr zr a3) ?_)
 rintro _ w ⟨rfl,j⟩
 refine DP.d2 (⟨⟨zt,j.j3 2⟩,j.j3 0⟩) (DP.e2 zr ?_)
 obtain⟨af,a4,o⟩:=bd o
 refine RL.call zt zr H0 [a1,a2] zr (aF (oT N (i0:=3) (i1:=1) j zr zr a4) ?_)
 rintro _ w ⟨rfl,j⟩
 refine DP.d2 (⟨⟨zt,j.j3 2⟩,j.j3 0⟩) (DP.e0 zr (aP (vi ad) (cE zr (aP (vi af) (DP.d0 ?_)))))
 have j:=j.pl 28 [1,3,4,5,6,7,8,9,10,11,12,13,14,15,16,17,18,19,20,21,22,23,24,25,26,27]
 refine DP.z (aG (RC.seq (RC.sr (mv (vi ad) (ic ad 0 (mv (vb (decide (ad<0))) (RL.gs true (decide (ad<0)) (vi af) rfl rfl rfl dQ (RL.gs true (decide (ad<0)) (vb (decide (af<0))) rfl rfl rfl (dT .lss .i64 af 0 rfl (fun h=>by exact(cQ h:cv (true&&((decide (ad<0))==false)) (vi af)= (vi af))) (fun _=>rfl) rfl) ?_))))))))
 refine RL.pick (decide (ad<0)) (vb ((decide (ad<0))||(decide (af<0)))) (m7 true zr) (RL.nt (fH o (fun hc o=>?_) fun hc o=>?_))
 ·refine RC.sr (aP (vb false) (aP (vi 9) (RL.nt (RC.rt ?_))))
  obtain rfl:=oi o
  exact ma ⟨rfl,j.drop 26⟩
 refine RC.sx (mv (vp ah 0) (mv v1 ?_))
 have j:=((((((j.dup 17 rfl).dup 17 rfl).dup 14 rfl).dup 14 rfl).dup 13 rfl).dup 13 rfl).pull 10
 obtain⟨br,a5,o⟩:=bd o
 refine RL.call zt zr JL [(vp ah 0),v1] zr (aF (lX N (i1:=24) j zr a5) ?_)
 rintro ak w j
 refine aP ak (RL.nq ?_)
 obtain⟨al,hj,o⟩:=bd o
 refine RC.jn (fun(al:Bool)=>SH E V [(8,vb al),(9,vi 0)] []) al ?_ ?_
 ·refine RC.xf mixed ?_
  have j:=j.drew
  refine RO.go (mv ak (RO.nx (mv (vi ad) (RO.nx ?_))))
  obtain⟨av,an,hj⟩:=bd hj
  refine RL.bV 0 j zr zr eE an (RO.nx (RL.dR (f:=(fun x=>x)) 0 j (jQ 0 j an 0) (bB an).2.1 Fd.self cG (RO.nx (ic av 0 (RO.nx (mv (vb (decide (av>=0))) (fY hj (fun aa hj=>?_) fun aa hj=>?_)))))))
  rotate_left
  ·refine RO.nx (bR aa (RO.nx (bR aa (RO.nx (bR aa (RO.nx (bR aa (RO.nx ?_))))))))
   refine bR aa (RO.nx (bR aa (RO.nx (bR aa (RO.nx (bR aa (RO.nx (bR aa ?_))))))))
   refine RO.nx (fV aa (vb false) (RO.nx (aP (vb false) (RO.nx (aP (vi 0) (RO.last ?_))))))
   obtain rfl:=oi hj
   exact⟨rfl,j.sp 28 []⟩
  refine RO.nx (RL.move ak (cg aa) (RO.nx (RL.move (vi ad) (cg aa) (RO.nx ?_))))
  obtain⟨ao,aq,hj⟩:=bd hj
  refine RL.bV (hg:=(cg aa)) 0 j zr zr eE aq (RO.nx (RL.dR (hg:=(cg aa)) (f:=(fun x=>x)) 0 j (jQ 0 j aq 0) (bB aq).2.1 Fd.self cG (RO.nx (RL.move ak (cg aa) (RO.nx (RL.move (vi af) (cg aa) (RO.nx ?_)))))))
  obtain⟨ar,au,hj⟩:=bd hj
  refine RL.bV (hg:=(cg aa)) 0 j zr zr eE au (RO.nx (RL.dR (hg:=(cg aa)) (f:=(fun x=>x)) 0 j (jQ 0 j au 0) (bB au).2.1 Fd.self cG (RO.nx (RL.jY ao ar (cg aa) (RO.nx (fV aa (vb (ao==ar)) (RO.nx (aP (vb (ao==ar)) ?_))))))))
  refine RO.nx (aP (vi 0) (RO.last ?_))
  obtain rfl:=oi hj
  exact⟨rfl,j.sp 28 []⟩
 rintro _ w ⟨O,rfl,j⟩
 refine aG (RC.ret ?_)
 obtain rfl:=oi o
 exact ma ⟨rfl,j.drop 0⟩
theorem jk {res:Bool} (j:Holds E w V) (hb:eL N=some res):
    Calls bF 5 [].toArray w (gT (bD E V res)):=by
 unfold eL at hb
 refine enter Tryz.func5 zr zr (RC.sr (aP (vb false) (RL.ns ?_)))
 have j:=(j.sc Int 1).sc Int 1
 refine RL.build (⟨0,0,1,1⟩:aI) trivial rfl j [(2,vi 1),(3,vi 1)] rfl A3 rfl (fun M hs g=>by have h:=qg M;exact cH.cons (f:=fun(x:aI) y=>{x with X1:=y}) h mZ (g.sat 1 _ rfl).1 fun _ h=>cH.cons (f:=fun(x:aI) y=>{x with Y1:=y}) h oH (g.sat 0 _ rfl).1 fun _ h=>cH.nil h) fun ae j=>?_
 refine RL.eP ([(⟨0,0,1,1⟩:aI)]: (List aI)) j [ae] kd lU (fun M hs g=>⟨(g.sat 0 _ zr).1,zt⟩) fun af w j=>?_
 have j:=j.freeze 0
 refine RL.eP ([([(⟨0,0,1,1⟩:aI)]: (List aI))]: (List (List aI))) j [af] A2 HF (fun M hs g=>⟨(g.sat 0 _ zr).1,zt⟩) fun ad w j=>?_
 have j:=(j.sc dC ⟨[97]⟩).sc dC ⟨[49]⟩
 refine RL.build (⟨⟨[97]⟩,⟨[49]⟩,0,⟨0,0⟩⟩:cV) trivial rfl j [(0,(str ⟨[97]⟩)),(1,(str ⟨[49]⟩))] rfl JN rfl (fun M hs g=>by have h:=Gv M;exact cH.cons (f:=fun(x:cV) y=>{x with Part:=y}) h Cs (g.sat 1 _ rfl).1 fun _ h=>cH.cons (f:=fun(x:cV) y=>{x with fD:=y}) h Ct (g.sat 0 _ rfl).1 fun _ h=>cH.nil h) fun ag j=>?_
 refine RL.eP ([(⟨⟨[97]⟩,⟨[49]⟩,0,⟨0,0⟩⟩:cV)]: (List cV)) j [ag] CE Gx (fun M hs g=>⟨(g.sat 0 _ zr).1,zt⟩) fun aa w j=>(RL.Dr (zs:=[(.slice none 0 0),(.slice none 0 0),(.slice none 0 0),(.slice none 0 0)]) (cs:=[ad,(.slice none 0 0),(.slice none 0 0),aa]) zt zr [(0,ad),(3,aa)] zr JO ⟨(gZ 4 j),(gZ 0 j),zt⟩ zr (RL.alloc j JP.z fun al w j=>?_))
 have j:=((((j.freeze 5).rZ aI).rZ bU).freeze 3).Ds (cs:=[ad,(.slice none 0 0),(.slice none 0 0),aa]) (x:=(⟨([([(⟨0,0,1,1⟩:aI)]: (List aI))]: (List (List aI))),([]: (List aI)),([]: (List bU)),([(⟨⟨[97]⟩,⟨[49]⟩,0,⟨0,0⟩⟩:cV)]: (List cV))⟩:jT)) (fun M hs g=>⟨[ad],[(.slice none 0 0),(.slice none 0 0),aa],rfl,(pW (g.sat 7 _ rfl).1),⟨[(.slice none 0 0)],[(.slice none 0 0),aa],rfl,(pW (g.sat 1 _ rfl).1),⟨[(.slice none 0 0)],[aa],rfl,(pW (g.sat 0 _ rfl).1),(pW (g.sat 3 _ rfl).1)⟩⟩⟩) rfl
 refine RL.bA 3 j 0 zr vo fun w j=>?_
 refine RL.ns (RL.aX (f:=(fun x=>x)) 3 j zr Fd.self vo fun ah j=>?_)
 have j:=(j.sc dC ⟨[97]⟩).sc dC ⟨[49]⟩
 refine RL.build (⟨⟨[97]⟩,⟨[49]⟩⟩:fD) trivial rfl j [(0,(str ⟨[97]⟩)),(1,(str ⟨[49]⟩))] rfl Gy rfl (fun M hs g=>by have h:=DL M;exact cH.cons (f:=fun(x:fD) y=>{x with Part:=y}) h vZ (g.sat 1 _ rfl).1 fun _ h=>cH.cons (f:=fun(x:fD) y=>{x with fD:=y}) h v7 (g.sat 0 _ rfl).1 fun _ h=>cH.nil h) fun ai j=>?_
 have j:=(j.sc dC ⟨[97]⟩).sc dC ⟨[49]⟩
 refine RL.build (⟨⟨[97]⟩,⟨[49]⟩⟩:fD) trivial rfl j [(0,(str ⟨[97]⟩)),(1,(str ⟨[49]⟩))] rfl Gy rfl (fun M hs g=>by have h:=DL M;exact cH.cons (f:=fun(x:fD) y=>{x with Part:=y}) h vZ (g.sat 1 _ rfl).1 fun _ h=>cH.cons (f:=fun(x:fD) y=>{x with fD:=y}) h v7 (g.sat 0 _ rfl).1 fun _ h=>cH.nil h) fun aj j=>?_
 have j:=j.rZ bY
 obtain⟨o,ak,hb⟩:=bd hb
 refine RL.call zt zr JV [ah,(.slice none 0 0),ai,aj] zr (aF (lf N (i0:=7) (i1:=0) (i2:=4) (i3:=1) j zr zr zr zr ak) ?_)
 rintro _ w ⟨rfl,j⟩
 refine mv (.tuple #[(vb o.1),(vi o.2)]) (RL.extract (vb o.1) (RL.extract (vi o.2) (aP (vb o.1) (aP (vi o.2) (RL.ns (mv (vi o.2) (ic o.2 0 (mv (vb (o.2==0)) ?_))))))))
 refine RL.gs true (o.2==0) (vb o.1) zr zr zr dQ (RL.pick (o.2==0) (vb ((o.2==0)&&o.1)) (iU true) (aP (vb ((o.2==0)&&o.1)) (RL.nt (RC.ret ?_))))
 obtain rfl:=oi hb
 exact cI ⟨rfl,j.drop 21⟩
theorem jG {p0:jT} {p3 p4:fD} {res:Bool} (j:Holds E w V) (h0:V[i0]? =some (rd v0 p0)) (h3:V[i3]? =some (rd v3 p3)) (h4:V[i4]? =some (rd v4 p4)) (hb:cD N p0 p1 p2 p3 p4=some res):
    Calls bF 3 [v0,(vi p1),(vi p2),v3,v4].toArray w (gT (bD E V res)):=by
 unfold cD at hb
 refine enter Tryz.func3 zr zr ?_
 have j:=((j.dup (i0+0) h0).dup (i3+1) h3).dup (i4+2) h4
 refine RC.sr (RL.dD 2 v0 j zr fun au w j=>?_)
 have j:=j.fT (i:=0) rfl
 refine RL.dD 2 v3 j zr fun av w j=>?_
 have j:=j.fT (i:=0) rfl
 refine RL.dD 2 v4 j zr fun aw w j=>?_
 have j:=j.fT (i:=0) rfl
 refine aP (vb false) (RL.ns (RL.bP 2 p0 j vo fun a0 j=>(mv (vi p1) ?_)))
 obtain⟨aa,a1,hb⟩:=bd hb
 refine RL.call zt zr Kv [a0,(vi p1)] zr (aF (tG N (p1:=p1) (i0:=0) j zr a1) ?_)
 rintro _ w ⟨aj,rfl,j⟩
 refine mv (.tuple #[aj,(vi aa.2)]) (RL.extract aj (RL.extract (vi aa.2) (aP aj (aP (vi aa.2) (RL.nq (RC.seq ?_))))))
 obtain⟨an,o,hb⟩:=bd hb
 refine RC.jn (fun(an:Bool)=>SH E V [(2,vi p2),(5,vp au 0),(8,vp av 0),(9,vp aw 0),(11,aj),(12,vi aa.2),(38,vb an)] [pt (vp au 0) p0,pt (vp av 0) p3,pt (vp aw 0) p4,own 40 aj aa.1]) an ?_ ?_
 ·refine RC.region (mv (vi aa.2) (ic aa.2 0 (mv (vb (aa.2 != 0)) (RL.gs true (aa.2 != 0) (vi p2) rfl rfl rfl dQ (RL.gs true (aa.2 != 0) (vb (decide (p2<0))) rfl rfl rfl (dT .lss .i64 p2 0 rfl (fun h=>by exact(cQ h:cv (true&&((aa.2 != 0)==false)) (vi p2)= (vi p2))) (fun _=>rfl) rfl) (RL.pick (aa.2 != 0) (vb ((aa.2 != 0)||(decide (p2<0)))) (m7 true rfl) (mv (vb ((aa.2 != 0)||(decide (p2<0)))) (fY o (fun af o=>?_) fun af o=>?_))))))))
  ·refine bR af (bR af (bR af (bR af (fV af (vb true) (mv (vb true) (nI (nI (nI ?_))))))))
   refine RL.pick true (vb true) zr (RL.nil ?_)
   obtain rfl:=oi o
   exact⟨rfl,j.sp 8 [4,3,2,0]⟩
  refine RL.move (vi p2) (cg af) (RL.move aj (cg af) (RL.fA (hg:=(cg af)) 0 aa.1 j yM (RL.jY p2 (aa.1.length:Int) (cg af) (fV af (vb (decide (p2>=(aa.1.length:Int)))) (mv (vb (decide (p2>=(aa.1.length:Int)))) (fY o (fun ag o=>?_) fun ag o=>?_))))))
  ·refine bR ag (bR ag (bR ag (fV ag (vb true) (RL.nil ?_))))
   obtain rfl:=oi o
   exact⟨rfl,j.sp 8 [4,3,2,0]⟩
  refine RL.bP (hg:=(cg ag)) 3 p3 j tr fun bk j=>(RL.bP (hg:=(cg ag)) 3 p4 j tr fun bl j=>(RL.seq 1 0 p3 p4 (cg ag) zr j zr zr zr zr HX zr (fV ag (vb (decide (p3=p4))) (RL.nil ?_))))
  obtain rfl:=oi o
  exact⟨rfl,j.sp 10 [6,5,4,2]⟩
 rintro _ w ⟨O,rfl,j⟩
 refine aG (fH hb (fun hc hb=>?_) fun hc hb=>?_)
 ·refine RC.seq ?_
  obtain⟨ao,o,hb⟩:=bd hb
  refine RC.jn (fun(ao:Bool)=>SH E V [(10,vb ao)] []) ao ?_ ?_
  ·refine RC.region (mv (vi aa.2) (ic aa.2 0 (mv (vb (aa.2==0)) (fY o (fun ah o=>?_) fun ah o=>?_))))
   ·refine bR ah (bR ah (bR ah (fV ah (vb true) (mv (vb true) ?_))))
    obtain⟨ax,a3,o⟩:=bd o
    refine RL.call ⟨_,zr,zr⟩ zr JW [] zr (aF (jk N j a3) ?_)
    rintro _ w ⟨rfl,j⟩
    refine RL.pick true (vb ax) zr (aP (vb ax) (RL.nil ?_))
    obtain rfl:=oi o
    exact⟨rfl,j.sp 4 []⟩
   refine RL.move aj (cg ah) (RL.fA (hg:=(cg ah)) 3 aa.1 j yM (RL.jY (aa.1.length:Int) 0 (cg ah) (fV ah (vb ((aa.1.length:Int)==0)) (mv (vb ((aa.1.length:Int)==0)) (fY o (fun ak o=>?_) fun ak o=>?_)))))
   rotate_left
   ·refine bR ak (fV ak (vb false) (aP (vb false) (RL.nil ?_)))
    obtain rfl:=oi o
    exact⟨rfl,j.sp 4 []⟩
   obtain⟨ay,a4,o⟩:=bd o
   refine RL.call (cg ak) zr JW [] zr (aF (jk N j a4) ?_)
   rintro _ w ⟨rfl,j⟩
   refine fV ak (vb ay) (aP (vb ay) (RL.nil ?_))
   obtain rfl:=oi o
   exact⟨rfl,j.sp 4 []⟩
  rintro _ w ⟨O,rfl,j⟩
  refine aG (RC.rt ?_)
  obtain rfl:=oi hb
  exact cI ⟨rfl,j.drop 0⟩
 refine RC.sx (RL.bP 0 p0 j vo fun a5 j=>(RL.bP 2 p3 j tr fun a6 j=>(RL.bP 4 p4 j tr fun a7 j=>?_)))
 have j:=j.rZ bY
 obtain⟨ad,a8,hb⟩:=bd hb
 refine RL.call zt zr JV [a5,(.slice none 0 0),a6,a7] zr (aF (lf N (i0:=3) (i1:=0) (i2:=2) (i3:=1) j zr zr zr zr a8) ?_)
 rintro _ w ⟨rfl,j⟩
 refine mv (.tuple #[(vb ad.1),(vi ad.2)]) (RL.extract (vb ad.1) (RL.extract (vi ad.2) (aP (vb ad.1) (aP (vi ad.2) (RL.nq (RC.yC mixed [1,0,0,0,0,2,1,1,2,0,0,0,0,0] [0,1,2,3,4,6,7,5,8,9,10,11,12,13] ?_))))))
 have j:=j.drew
 refine DP.uu p0 4 zr j vo fun a9 a74 bm j=>(DP.e0 zr (mv aj (cE zr (mv (vi p2) (cE zr ?_)))))
 obtain⟨ba,aq,hb⟩:=bd hb
 refine RL.bV 9 j zr zr vt aq (cE zr (RL.jR (f:=(fun x=>x)) 9 j (jQ 9 j aq 0) (bB aq).2.1 Fd.self si fun bb j=>?_))
 refine DP.d0 (DP.uu p3 8 zr j tr fun bc a79 bn j=>(DP.uu p4 11 zr j tr fun bf a82 bo j=>(DP.e2 zr (RL.eP ([ba]: (List bY)) j [bb] vt yL (fun M hs g=>⟨(g.sat 4 _ zr).1,zt⟩) fun bg w j=>(DP.d2 (⟨⟨⟨zt,j.j3 6⟩,j.j3 3⟩,j.j3 1⟩) (DP.e2 zr ?_))))))
 have j:=j.freeze 0
 obtain⟨ae,bh,hb⟩:=bd hb
 refine RL.call zt zr JV [a9,bg,bc,bf] zr (aF (lf N (i0:=7) (i1:=0) (i2:=4) (i3:=2) j zr zr zr zr bh) ?_)
 rintro _ w ⟨rfl,j⟩
 refine DP.d2 (⟨⟨⟨zt,j.j3 6⟩,j.j3 3⟩,j.j3 1⟩) (DP.e0 zr (mv (.tuple #[(vb ae.1),(vi ae.2)]) (cE zr (RL.extract (vb ae.1) (cE zr (RL.extract (vi ae.2) (cE zr (aP (vb ae.1) ?_))))))))
 refine cE zr (aP (vi ae.2) (DP.d0 ?_))
 have j:=j.pl 16 [0,2,4,5,7,8,9,10,11,12,13,14,15]
 refine DP.z (aG (RC.seq ?_))
 obtain⟨ar,o,hb⟩:=bd hb
 refine RC.jn (fun(ar:Bool)=>SH E V [(10,vb ar)] []) ar ?_ ?_
 ·refine RC.region (mv (vi ad.2) (mv (vi ae.2) (ic ad.2 ae.2 (mv (vb (ad.2==ae.2)) (fY o (fun ai o=>?_) fun ai o=>?_)))))
  rotate_left
  ·refine bR ai (bR ai (bR ai (fV ai (vb false) (mv (vb false) (nI (RL.pick false (vb false) zr (aP (vb false) (RL.nil ?_))))))))
   obtain rfl:=oi o
   exact⟨rfl,j.sp 13 []⟩
  refine RL.move (vb ad.1) (cg ai) (RL.move (vb ae.1) (cg ai) (RL.E7 (a:=ad.1) (b:=ae.1) (cg ai) zr zr zr HC (fV ai (vb (ad.1==ae.1)) (mv (vb (ad.1==ae.1)) (fY o (fun al o=>?_) fun al o=>?_)))))
  rotate_left
  ·refine bR al (fV al (vb false) (aP (vb false) (RL.nil ?_)))
   obtain rfl:=oi o
   exact⟨rfl,j.sp 13 []⟩
  obtain⟨az,bj,o⟩:=bd o
  refine RL.call (cg al) zr JW [] zr (aF (jk N j bj) ?_)
  rintro _ w ⟨rfl,j⟩
  refine fV al (vb az) (aP (vb az) (RL.nil ?_))
  obtain rfl:=oi o
  exact⟨rfl,j.sp 13 []⟩
 rintro _ w ⟨O,rfl,j⟩
 refine aG (RC.ret ?_)
 obtain rfl:=oi hb
 exact cI ⟨rfl,j.drop 0⟩
end Go.Gk
