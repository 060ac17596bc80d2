/-
  Printed texts: Go functions as plain functions, and that they are. No statement of the seed is proved here.
-/
import Derived.Test.YtjocleflknekmabGreatDoorG1
import Derived.Test.YtjocleflknekmabGreatDoorG2
import Derived.Test.YtjocleflknekmabGreatDoorG3
import Derived.Test.YtjocleflknekmabGreatDoorG5
import Derived.Test.YtjocleflknekmabGreatDoorA2
set_option linter.unusedVariables false
set_option linter.unusedSimpArgs false
set_option linter.unusedSectionVars false
set_option maxRecDepth 100000
set_option maxHeartbeats 40000000
namespace Go.Gk
open Go Go.Proofs
variable (N:Nat) {E w:World} {b0 i0 i0_0 i0_1 i1:Nat} {p1 res:Int} {v0 v0_0 v0_1 v0_10 v0_11 v0_2 v0_3 v0_4 v0_5 v0_6 v0_7 v0_8 v0_9 v1 v2:Value} {V:List HP}
theorem uU {p0: (List aL)} {p1:bK} {res: (List aX)} (j:Holds E w V) (h0:V[i0]? =some (rd v0 p0)) (h1:V[i1]? =some (rd v1 p1)) (o:kx N p0 p1=some res):
    Calls bB 10 [v0,v1].toArray w (gr (lI E V res)):=by
 unfold kx at o
 refine enter Tryz.func10 zr zr ?_
 have j:=(j.dup (i0+0) h0).dup (i1+1) h1
 refine RC.sr (RL.cQ 0 v1 j zr fun bg w j=>?_)
 refine aM (.slice none 0 0) (RL.ns (RL.aN (f:=(fun x=>x)) 0 j zr Fd.self yv fun a2 j=>?_))
 obtain⟨aa,a3,o⟩:=bd o
 refine RL.call zt zr M6 [a2] zr (aF (nQ N (i0:=0) j zr a3) ?_)
 rintro ab w j
 refine aM ab (RL.ns (aM (.slice none 0 0) (RL.nq (RC.sr (RL.bH zr AZ (RL.aN 2 j zr mG It fun ae j=>(RL.bF 0 p1.cJ j Iu (mv (vi 0) ?_))))))))
 refine RL.nt ?_
 obtain⟨ai,hN,o⟩:=bd o
 refine RC.fold (fun(ag:Nat) (ai: (List aX)) U w=>∃ay:Value,SH E V [(0,v0),(5,ab),(6,ay),(16,ae),(17,vi p1.cJ.length),(18,vi ag)] [rd v0 p0,mp ab aa,rd ae p1.cJ,own 34 ay ai] U w) (fun(ai: (List aX)) U w=>∃ak:Value,SH E V [(6,ak)] [rd v0 p0,mp ab aa,rd ae p1.cJ,own 34 ak ai] U w) hN ?_ ?_ ?_ ?_
 ·have j:=j.cW aX 34
  exact⟨(.slice none 0 0),j.sp 7 [6,2,1,0]⟩
 ·rintro hm ai _ w ⟨a4,O,rfl,j⟩
  refine RC.sr (ic ((p1.cJ.length:Int)) ((p1.cJ.length:Int)) (RL.nq (RC.cP mz (RC.ex ?_))))
  exact⟨rfl,a4,j.sp 4 [0,1,2,3]⟩
 ·rintro hm ag ai s' _ w hk ⟨a5,O,rfl,j⟩ o
  refine RC.sr (ic ((ag:Int)) ((p1.cJ.length:Int)) (RL.nq (RC.cO (my hk) (RC.ss (RC.bs ?_)))))
  obtain⟨a6,a7,o⟩:=bd o
  refine RL.cA 2 j Fa a7 fun bh j=>(RL.bC 0 a6 j Dk fun bj j=>(RL.alloc j KE.z fun bk w j=>?_))
  refine RL.bD 0 j 1 zr Dk fun w j=>?_
  refine RL.ns (mv v0 (RL.aN (f:=(fun x=>x)) 0 j zr Fd.self Dk fun a8 j=>?_))
  obtain⟨af,a9,o⟩:=bd o
  refine RL.call zt zr M9 [v0,a8] zr (aF (vS N (i0:=4) (i1:=0) j zr zr a9) ?_)
  rintro ao w j
  refine RL.eO 0 af j rJ (mv (vi 0) (RL.nt ?_))
  obtain⟨aj,hN,o⟩:=bd o
  refine RC.fold (fun(aq:Nat) (aj: (List aX)) U w=>∃az:Value,SH E V [(0,v0),(5,ab),(6,az),(16,ae),(17,vi p1.cJ.length),(18,vi ag),(24,ao),(25,vi af.length),(26,vi aq)] [rd v0 p0,mp ab aa,rd ae p1.cJ,own 34 ao af,own 34 az aj] U w) (fun(aj: (List aX)) U w=>∃ar:Value,SH E V [(0,v0),(5,ab),(6,ar),(16,ae),(17,vi p1.cJ.length),(18,vi ag)] [rd v0 p0,mp ab aa,rd ae p1.cJ,own 34 ao af,own 34 ar aj] U w) hN ?_ ?_ ?_ ?_
  ·exact⟨a5,j.sp 9 [5,6,7,0,8]⟩
  ·rintro hm aj _ w ⟨ba,O,rfl,j⟩
   refine RC.sr (ic ((af.length:Int)) ((af.length:Int)) (RL.nq (RC.cP mz (RC.ex ?_))))
   exact⟨rfl,ba,j.sp 5 [0,1,2,3,4]⟩
  ·rintro hm aq aj s' _ w hk ⟨a0,O,rfl,j⟩ o
   refine RC.sr (ic ((aq:Int)) ((af.length:Int)) (RL.nq (RC.cO (my hk) (RC.ss (RC.bs ?_)))))
   obtain⟨ad,aw,o⟩:=bd o
   refine RL.bY 3 j zr zr qU aw (RL.kh (f:=(fun x=>x)) 3 j (kC 3 j aw 0) (bG aw).2.1 Fd.self gT fun bl j=>?_)
   refine RL.alloc j sA.z fun bm w j=>?_
   refine RL.bD 0 j 1 zr gT fun w j=>?_
   refine RL.ns (mv ab (RL.aN (f:=(fun x=>x)) 0 j zr Fd.self gT fun bn j=>(RL.pS 4 ad j (nM 0 j) Ha (mv (.tuple #[(vi (dH aa ad (0:Int))),(vb (fR aa ad))]) (RL.extract (vi (dH aa ad (0:Int))) (RL.extract (vb (fR aa ad)) (aM (vi (dH aa ad (0:Int))) (aM (vb (fR aa ad)) ?_))))))))
   refine RL.ns (mv (vb (fR aa ad)) (RL.not (fR aa ad) (RL.nt ?_)))
   obtain⟨ax,hj,o⟩:=bd o
   refine RC.jn (fun(ax: (List aX)) U w=>∃au:Value,SH E V [(0,v0),(5,ab),(6,au),(16,ae),(17,vi p1.cJ.length),(18,vi ag),(24,ao),(25,vi af.length),(26,vi aq)] [rd v0 p0,mp ab aa,rd ae p1.cJ,own 34 ao af,own 34 au ax] U w) ax ?_ ?_
   ·refine eH hj (fun hc hj=>?_) fun hc hj=>?_
    rotate_left
    ·refine RC.skip ?_
     obtain rfl:=oi hj
     exact⟨rfl,a0,j.sp 8 [3,4,5,6,7]⟩
    refine RC.region (mv a0 (RL.aN (f:=(fun x=>x)) 1 j zr Fd.self gT fun bc j=>(RL.eF ([ad]: (List aX)) j [bc] qU sA (fun M hs g=>⟨(g.sat 0 _ zr).1,zt⟩) fun bo w j=>?_)))
    have j:=j.freeze 0
    obtain⟨bp,bf,hj⟩:=bd hj
    refine RL.app 9 0 j zK bf fun a1 w j=>?_
    refine aM a1 (RL.nil ?_)
    obtain rfl:=oi hj
    exact⟨rfl,a1,j.sp 10 [5,6,7,8,9]⟩
   rintro _ w ⟨au,O,rfl,j⟩
   refine bO (aG (RC.region (RL.inc hk hm (mv (vi ((aq+1:Nat):Int)) (RL.nil ?_)))))
   obtain rfl:=oi o
   exact⟨rfl,au,j.sp 5 [0,1,2,3,4]⟩
  rintro _ w ⟨ar,O,rfl,j⟩
  refine bO (aG (RC.region (RL.inc hk hm (mv (vi ((ag+1:Nat):Int)) (RL.nil ?_)))))
  obtain rfl:=oi o
  exact⟨rfl,ar,j.sp 5 [0,1,2,4]⟩
 rintro _ w ⟨ak,O,rfl,j⟩
 refine aG (RC.sr (mv ak (aM ak (RL.nt (RC.ret ?_)))))
 obtain rfl:=oi o
 exact bU (j.pk 4 [3])
theorem lY {p0: (List eQ)} {p1:aX} {p2:eQ->aX->Option Int} {res:Int×Bool} (o:Holds E w V) (h0:V[i0]? =some (rd v0 p0)) (h1:V[i1]? =some (rd v1 p1)) (h2:H0 bB E V v2 p2 (fun(r:Int)=>Value.int .i64 r)) (hb:eP N p0 p1 p2=some res):
    Calls bB 23 [v0,v1,v2].toArray w (gr (dG E V res)):=by
 unfold eP at hb
 refine enter Tryz.func23 zr zr ?_
 have o:=(o.dup (i0+0) h0).dup (i1+1) h1
 refine RC.sr (RL.cQ 0 v1 o zr fun ae w o=>?_)
 refine aM (vi 0) (aM (vb false) (RL.ns (mv v0 (RL.bF 2 p0 o GY (aM (vi p0.length) (RL.ns (mv (vi p0.length) (aM (vi 0) ?_))))))))
 refine aM (vi p0.length) (RL.nq ?_)
 obtain⟨av,hN,hb⟩:=bd hb
 refine RC.iter (fun(j:Int×Int)=>SH E V [(0,v0),(2,v2),(4,vp ae 0),(8,vi p0.length),(9,vi j.1),(10,vi j.2)] [rd v0 p0,bx 34 ae p1]) (fun(j:Int×Int)=>SH E V [(0,v0),(2,v2),(4,vp ae 0),(8,vi p0.length),(9,vi j.1)] [rd v0 p0,bx 34 ae p1]) (fun(r:Empty) _ _=>r.elim) hN ?_ ?_ ?_ ?_
 ·exact o.sp 3 [2,0]
 ·rintro j fl _ w ⟨O,rfl,o⟩ hb
  refine RC.seq (RC.sr (mv (vi j.1) (mv (vi j.2) (ic j.1 j.2 (RL.nt (eH hb (fun hc hb=>?_) fun hc hb=>?_))))))
  rotate_left
  ·refine RC.ex ?_
   obtain rfl:=oi hb
   exact⟨rfl,o.sp 2 [0,1]⟩
  refine RC.sn (RC.bs (mv (vi j.1) (mv (vi j.2) (RL.jQ j.1 j.2 (RL.conv (IntKind.wrap .i64 (j.1+j.2)) ⟨_,Eu⟩ Cm (RL.bin (v':=(.int .u64 1)) (.int .u64 (IntKind.wrap .u64 (IntKind.wrap .i64 (j.1+j.2)))) (.int .u64 (Int.fdiv (IntKind.wrap .u64 (IntKind.wrap .i64 (j.1+j.2))) 2)) zt zr zr zr (RL.conv (Int.fdiv (IntKind.wrap .u64 (IntKind.wrap .i64 (j.1+j.2))) 2) ⟨_,Cm⟩ Eu (aM (vi (IntKind.wrap .i64 (Int.fdiv (IntKind.wrap .u64 (IntKind.wrap .i64 (j.1+j.2))) 2))) ?_))))))))
  refine RL.nq (RC.Cg mixed [0,0,0,0,0,0,2,0] [0,1,2,3,4,5,6,7] ?_)
  have o:=o.drew
  refine DP.e0 zr (mv v2 (dA zr (mv v0 (dA zr (mv (vi (IntKind.wrap .i64 (Int.fdiv (IntKind.wrap .u64 (IntKind.wrap .i64 (j.1+j.2))) 2))) (dA zr ?_))))))
  obtain⟨ak,al,hb⟩:=bd hb
  refine RL.cA 0 o Fk al fun ax o=>(dA zr (RL.bC 0 ak o uK fun ay o=>(dA zr (RL.aN (f:=(fun x=>x)) 3 o zr Fd.self gT fun az o=>(xt zr ?_)))))
  obtain⟨an,ao,hb⟩:=bd hb
  refine RL.qG 1 0 zt o h2 5 ao fun w o=>(Dh zr (ic an 0 (DP.d0 (DP.z (aG ?_)))))
  obtain⟨af,hj,hb⟩:=bd hb
  refine RC.jn (fun(af:Int×Int)=>SH E V [(0,v0),(2,v2),(4,vp ae 0),(8,vi p0.length),(9,vi af.1),(10,vi af.2)] [rd v0 p0,bx 34 ae p1]) af ?_ ?_
  ·refine eH hj (fun hc hj=>?_) fun hc hj=>?_
   rotate_left
   ·refine RC.region (mv (vi (IntKind.wrap .i64 (Int.fdiv (IntKind.wrap .u64 (IntKind.wrap .i64 (j.1+j.2))) 2))) (aM (vi (IntKind.wrap .i64 (Int.fdiv (IntKind.wrap .u64 (IntKind.wrap .i64 (j.1+j.2))) 2))) (RL.nil ?_)))
    obtain rfl:=oi hj
    exact⟨rfl,o.sp 5 [3,4]⟩
   refine RC.region (mv (vi (IntKind.wrap .i64 (Int.fdiv (IntKind.wrap .u64 (IntKind.wrap .i64 (j.1+j.2))) 2))) (RL.jQ (IntKind.wrap .i64 (Int.fdiv (IntKind.wrap .u64 (IntKind.wrap .i64 (j.1+j.2))) 2)) 1 (aM (vi (IntKind.wrap .i64 ((IntKind.wrap .i64 (Int.fdiv (IntKind.wrap .u64 (IntKind.wrap .i64 (j.1+j.2))) 2))+1))) (RL.nil ?_))))
   obtain rfl:=oi hj
   exact⟨rfl,o.sp 5 [3,4]⟩
  rintro _ w ⟨O,rfl,o⟩
  refine bO ?_
  obtain rfl:=oi hb
  exact⟨rfl,o.sp 2 [0,1]⟩
 ·intro r _ _ _ _
  exact r.elim
 rintro j _ w rfl ⟨O,rfl,o⟩
 rw [Fo.fW] at hb
 refine aG (RC.seq ?_)
 obtain⟨ah,hj,hb⟩:=bd hb
 refine RC.jn (fun(ah:Bool)=>SH E V [(6,vi j.1),(7,vb ah)] []) ah ?_ ?_
 ·refine RC.Cg mixed [1,0,0,0,0,0,0,0,0,0,0,2,0,0,0,0] [0,1,2,3,4,5,6,7,8,9,10,11,12,13,14,15] ?_
  have o:=o.drew
  refine DP.e1 (vi j.1) zr (fun w=>RL.move (vi j.1) zt DP.d1) (DP.e0 zr (mv (vi j.1) (dA zr (mv (vi p0.length) (dA zr (ic j.1 ((p0.length:Int)) (dA zr (mv (vb (decide (j.1< (p0.length:Int)))) ?_))))))))
  refine DP.d0 (gZ hj (fun ab hj=>?_) fun ab hj=>?_)
  rotate_left
  ·refine DP.e0 zr (bZ ab (dA zr (bZ ab (dA zr (bZ ab (dA zr (bZ ab (dA zr ?_))))))))
   refine bZ ab (dA zr (bZ ab (xt zr (bZ ab (Dh zr (bZ ab (dA zr (g9 ab (vb false) ?_))))))))
   refine dA zr (aM (vi j.1) (dA zr (aM (vb false) (DP.d0 (DP.z ?_)))))
   obtain rfl:=oi hj
   exact⟨rfl,o.sp 2 []⟩
  refine DP.e0 zr (RL.move v2 (cg ab) (dA zr (RL.move v0 (cg ab) (dA zr (RL.move (vi j.1) (cg ab) (dA zr ?_))))))
  obtain⟨aq,ar,hj⟩:=bd hj
  refine RL.cA (hg:=(cg ab)) 0 o Fk ar fun a0 o=>(dA zr (RL.bC (hg:=(cg ab)) 0 aq o uK fun a1 o=>(dA zr (RL.aN (hg:=(cg ab)) (f:=(fun x=>x)) 3 o zr Fd.self gT fun a2 o=>(xt zr ?_)))))
  obtain⟨ai,au,hj⟩:=bd hj
  refine RL.qG 1 0 (cg ab) o h2 5 au fun w o=>(Dh zr (RL.kI ai 0 (cg ab) (dA zr (g9 ab (vb (ai==0)) (dA zr (aM (vi j.1) (dA zr (aM (vb (ai==0)) ?_))))))))
  refine DP.d0 (DP.z ?_)
  obtain rfl:=oi hj
  exact⟨rfl,o.sp 5 []⟩
 rintro _ w ⟨O,rfl,o⟩
 refine aG (RC.ret ?_)
 obtain rfl:=oi hb
 exact oz ⟨rfl,o.drop 0⟩
theorem ud {p0:eQ} {p1:aX} (j:Holds E w V) (h0:V[i0]? =some (rd v0 p0)) (h1:V[i1]? =some (rd v1 p1)) (o:gN N p0 p1=some res):
    Calls bB 24 [v0,v1].toArray w (gr (aH E V res)):=by
 unfold gN at o
 refine enter Tryz.func24 zr zr ?_
 have j:=(j.dup (i0+0) h0).dup (i1+1) h1
 refine RC.sr (RL.cQ 1 v0 j zr fun ah w j=>?_)
 have j:=j.hZ (i:=0) rfl
 refine RL.cQ 1 v1 j zr fun ai w j=>?_
 have j:=j.hZ (i:=0) rfl
 refine aM (vi 0) (RL.nq (RC.Cg mixed [0,2,1,2,0] [0,2,1,3,4] ?_))
 have j:=j.drew
 refine DP.e0 zr (RL.bC 1 p0 j uK fun aa j=>(DP.d0 (DP.AU p1 1 zr zt j gT fun ab a35 aj j=>(DP.e2 zr ?_))))
 obtain⟨ak,ad,o⟩:=bd o
 refine RL.call zt zr Fm [aa] zr (aF (jr N (i0:=2) j zr ad) ?_)
 rintro ae w j
 refine DP.d2 (⟨zt,j.m5 1⟩) (DP.e2 zr ?_)
 obtain⟨af,ag,o⟩:=bd o
 refine RL.call zt zr Iw [ae,ab] zr (aF (iP N (i0:=0) (i1:=2) j zr zr ag) ?_)
 rintro _ w ⟨rfl,j⟩
 refine DP.d2 (⟨zt,j.m5 1⟩) (DP.e0 zr (aM (vi af) (DP.d0 ?_)))
 have j:=j.pl 8 [0,2,3,4,5,6,7]
 refine DP.z (aG (RC.ret ?_))
 obtain rfl:=oi o
 exact bU ⟨rfl,j.drop 7⟩
theorem lN {p0:kr} {p1:aX} (o:Holds E w V) (h0:V[i0]? =some (rd v0 p0)) (h1:V[i1]? =some (rd v1 p1)) (hb:iT N p0 p1=some res):
    Calls bB 11 [v0,v1].toArray w (gr (aH E V res)):=by
 unfold iT at hb
 refine enter Tryz.func11 zr zr ?_
 have o:=(o.dup (i0+0) h0).dup (i1+1) h1
 refine RC.sr (RL.cQ 1 v0 o zr fun ai w o=>?_)
 refine RL.cQ 1 v1 o zr fun aj w o=>?_
 refine aM (vi 0) (RL.ns (RL.bH zr wN (RL.aN 1 o zr p6 Fj fun ad o=>(RL.aN (f:=(fun x=>x)) 1 o zr Fd.self gT fun ae o=>?_))))
 obtain⟨aa,af,hb⟩:=bd hb
 refine RL.call trivial rfl Nc [ad,ae,(.func (.func 24) #[] #[])] rfl (aF (lY N (i0:=1) (i1:=0) o rfl rfl ⟨24,[],rfl,Nb,fun w Γl v v' y0 y1 r i j o hi hj hr=>by exact aF (ud N (i0:=i) (i1:=j) o hi hj hr) fun _ _ h=>h⟩ af) ?_)
 rintro _ w ⟨rfl,o⟩
 refine mv (.tuple #[(vi aa.1),(vb aa.2)]) (RL.extract (vi aa.1) (RL.extract (vb aa.2) (aM (vi aa.1) (aM (vb aa.2) (RL.nq (RC.sr (mv (vb aa.2) (RL.not aa.2 ?_))))))))
 refine RL.nt (eH hb (fun hc hb=>?_) fun hc hb=>?_)
 ·refine RC.sr (aM (vi (-1)) (RL.nt (RC.rt ?_)))
  obtain rfl:=oi hb
  exact bU ⟨rfl,o.drop 6⟩
 refine RC.sx (mv (vi aa.1) (aM (vi aa.1) (RL.nt (RC.ret ?_))))
 obtain rfl:=oi hb
 exact bU ⟨rfl,o.drop 6⟩
theorem qY {res: (List aX)} (j:Holds E w V) (hb:iI N p1=some res):
    Calls bB 62 [(.slice none 0 0),(vi p1)].toArray w (gr (lI E V res)):=by
 unfold iI at hb
 refine enter Tryz.func62 zr zr (RC.sr (aM (.slice none 0 0) (RL.nq (RC.sr (mv (vi p1) (ic p1 0 (RL.nt (eH hb (fun hc hb=>?_) fun hc hb=>?_))))))))
 ·cases hb
 refine RC.ss (RC.sr (mv (vi p1) (mv (.slice none 0 0) (RL.Ek zt zr zr rJ (mv (.slice none 0 0) (RL.Gm (m:=0) zt zr zr rJ (RL.jQ ((0:Nat):Int) ((0:Nat):Int) (RL.jQ p1 (IntKind.wrap .i64 (((0:Nat):Int) - ((0:Nat):Int))) ?_))))))))
 refine aM (vi (IntKind.wrap .i64 (p1 - (IntKind.wrap .i64 (((0:Nat):Int) - ((0:Nat):Int)))))) (RL.ns (mv (vi (IntKind.wrap .i64 (p1 - (IntKind.wrap .i64 (((0:Nat):Int) - ((0:Nat):Int)))))) (ic ((IntKind.wrap .i64 (p1 - (IntKind.wrap .i64 (((0:Nat):Int) - ((0:Nat):Int)))))) 0 (RL.nt ?_))))
 obtain⟨ae,o,hb⟩:=bd hb
 refine RC.jn (fun(ae: (List aX)) U w=>∃ab:Value,SH E V [(0,ab)] [own 34 ab ae] U w) ae ?_ ?_
 ·refine eH o (fun hc o=>?_) fun hc o=>?_
  rotate_left
  ·refine RC.skip ?_
   obtain rfl:=oi o
   have j:=j.cW aX 34
   exact⟨rfl,(.slice none 0 0),j.sp 1 [0]⟩
  refine RC.region (mv (.slice none 0 0) (mv (.slice none 0 0) (RL.Ek zt zr zr rJ (RL.Il aX zt zr zr qU (.inr ⟨rfl,zr⟩) (.inl zr) zr zr (mv (vi (IntKind.wrap .i64 (p1 - (IntKind.wrap .i64 (((0:Nat):Int) - ((0:Nat):Int)))))) ?_)))))
  obtain⟨ai,ag,o⟩:=bd o
  refine RL.Gw (k:=(IntKind.wrap .i64 (p1 - (IntKind.wrap .i64 (((0:Nat):Int) - ((0:Nat):Int)))))) zt zr j zr zr zK Eu Nh ag fun aj w j=>?_
  refine mv (.slice none 0 0) (RL.Gm (m:=0) zt zr zr rJ ?_)
  obtain⟨ak,ah,o⟩:=bd o
  refine RL.xR 0 zr j zr zr qU (.inr ⟨rfl,zr⟩) ah fun af j=>(aM af (RL.nil ?_))
  obtain rfl:=oi o
  exact⟨rfl,af,j.sp 1 [0]⟩
 rintro _ w ⟨ab,O,rfl,j⟩
 refine aG (RC.sr (mv ab (aM ab (RL.nt (RC.ret ?_)))))
 obtain rfl:=oi hb
 exact bU (j.pk 1 [0])
theorem sY {p0: (List (List aX))} {res: (List aX)} (j:Holds E w V) (h0:V[i0]? =some (rd v0 p0)) (o:jC N p0=some res):
    Calls bB 28 [v0].toArray w (gr (lI E V res)):=by
 unfold jC at o
 refine enter Tryz.func28 zr zr ?_
 have j:=j.dup (i0+0) h0
 refine RC.sr (aM (.slice none 0 0) (RL.ns (aM (vi 0) (RL.nq (RC.sr (mv v0 (RL.bF 0 p0 j Ez (mv (vi 0) ?_))))))))
 refine RL.nt ?_
 obtain⟨aa,hN,o⟩:=bd o
 refine RC.fold (fun(ah:Nat) (aa:Int)=>SH E V [(0,v0),(3,vi aa),(9,v0),(10,vi p0.length),(11,vi ah)] [rd v0 p0]) (fun(aa:Int)=>SH E V [(0,v0),(3,vi aa)] [rd v0 p0]) hN ?_ ?_ ?_ ?_
 ·exact j.sp 1 [0]
 ·rintro hm aa _ w ⟨O,rfl,j⟩
  refine RC.sr (ic ((p0.length:Int)) ((p0.length:Int)) (RL.nq (RC.cP mz (RC.ex ?_))))
  exact⟨rfl,j.sp 1 [0]⟩
 ·rintro hm ah aa s' _ w hk ⟨O,rfl,j⟩ o
  refine RC.sr (ic ((ah:Int)) ((p0.length:Int)) (RL.nq (RC.cO (my hk) (RC.ss (RC.bs ?_)))))
  obtain⟨ab,ar,o⟩:=bd o
  refine RL.cA 0 j Cr ar fun a1 j=>(RL.bC 0 ab j xK fun ak j=>(aM ak (RL.ns (mv (vi aa) (mv ak (RL.bF 0 ab j rJ (RL.jQ aa (ab.length:Int) (aM (vi (IntKind.wrap .i64 (aa+ (ab.length:Int)))) ?_))))))))
  refine RL.ns (mv (vi (IntKind.wrap .i64 (aa+ (ab.length:Int)))) (ic ((IntKind.wrap .i64 (aa+ (ab.length:Int)))) 0 (RL.nt (eH o (fun hc o=>?_) fun hc o=>?_))))
  ·cases o
  refine RC.skip (bO (aG (RC.region (RL.inc hk hm (mv (vi ((ah+1:Nat):Int)) (RL.nil ?_))))))
  obtain rfl:=oi o
  exact⟨rfl,j.sp 3 [2]⟩
 rintro _ w ⟨O,rfl,j⟩
 refine aG (RC.sr (mv (vi aa) ?_))
 obtain⟨a2,av,o⟩:=bd o
 refine RL.call zt zr Ni [(.slice none 0 0),(vi aa)] zr (aF (qY N (p1:=aa) j av) ?_)
 rintro al w j
 refine aM al (RL.nq (RC.sr (mv v0 (RL.bF 1 p0 j Ez (mv (vi 0) (RL.nt ?_))))))
 obtain⟨ad,hN,o⟩:=bd o
 refine RC.fold (fun(ai:Nat) (ad: (List aX)) U w=>∃an:Value,SH E V [(6,an),(25,v0),(26,vi p0.length),(27,vi ai)] [rd v0 p0,own 34 an ad] U w) (fun(ad: (List aX)) U w=>∃ag:Value,SH E V [(6,ag)] [rd v0 p0,own 34 ag ad] U w) hN ?_ ?_ ?_ ?_
 ·exact⟨al,j.sp 2 [1,0]⟩
 ·rintro hm ad _ w ⟨aw,O,rfl,j⟩
  refine RC.sr (ic ((p0.length:Int)) ((p0.length:Int)) (RL.nq (RC.cP mz (RC.ex ?_))))
  exact⟨rfl,aw,j.sp 2 [0,1]⟩
 ·rintro hm ai ad s' _ w hk ⟨ax,O,rfl,j⟩ o
  refine RC.sr (ic ((ai:Int)) ((p0.length:Int)) (RL.nq (RC.cO (my hk) (RC.ss (RC.bs ?_)))))
  obtain⟨ay,az,o⟩:=bd o
  refine RL.cA 0 j Cr az fun a3 j=>(RL.bC 0 ay j xK fun ao j=>(aM ao (RL.nt (RC.region (mv ax (mv ao ?_))))))
  obtain⟨a4,a0,o⟩:=bd o
  refine RL.app 3 0 j zK a0 fun aq w j=>?_
  refine aM aq (RL.nil (bO (aG (RC.region (RL.inc hk hm (mv (vi ((ai+1:Nat):Int)) (RL.nil ?_)))))))
  obtain rfl:=oi o
  exact⟨rfl,aq,j.sp 4 [2,3]⟩
 rintro _ w ⟨ag,O,rfl,j⟩
 refine aG (RC.sr (mv ag (aM ag (RL.nt (RC.ret ?_)))))
 obtain rfl:=oi o
 exact bU (j.pk 2 [1])
def ue (E:World) (V:List HP) (b0:Nat) (v0_0 v0_1:Value) (v0_2 v0_3:Value) (v0_4 v0_5:Value) (v0_6 v0_7:Value) (v0_8 v0_9:Value) (v0_10 v0_11:Value) (res: (List aX)) (v:Value) (w:World):Prop:=Holds E w ([own 34 v res,bc 71 b0 [v0_0,v0_1,v0_2,v0_3,v0_4,v0_5,v0_6,v0_7,v0_8,v0_9,v0_10,v0_11]]++V)
theorem sZ {p0_0: (List (List aJ))} {p0_1: (List aJ)} {p0_2: (List cN)} {p0_3: (List eQ)} {p0_10: (List Int)} {p1:Net} {res: (List aX)} (o:Holds E w (bc 71 b0 [v0_0,v0_1,v0_2,v0_3,v0_4,v0_5,v0_6,v0_7,v0_8,v0_9,v0_10,v0_11]::rd v0_0 p0_0::rd v0_1 p0_1::rd v0_2 p0_2::rd v0_3 p0_3::rd v0_10 p0_10::V)) (h1:V[i1]? =some (rd v1 p1)) (hb:jD N p0_0 p0_1 p0_2 p0_3 p0_10 p1=some res):
    Calls bB 14 [(vp b0 0),v1].toArray w (gr (ue E V b0 v0_0 v0_1 v0_2 v0_3 v0_4 v0_5 v0_6 v0_7 v0_8 v0_9 v0_10 v0_11 res)):=by
 unfold jD at hb
 refine enter Tryz.func14 zr zr ?_
 have o:=o.dup (i1+6) h1
 refine RC.sr (RL.cQ 0 v1 o zr fun bt w o=>?_)
 refine aM (.slice none 0 0) (RL.ns (aM (.slice none 0 0) (RL.ns (RL.makeMap (κ:=Int) (ν:=Int) o fun aq w o=>(aM aq (RL.nq (RC.sr (RL.bH zr yz ?_))))))))
 refine RL.aN 1 o zr si xK fun au o=>(RL.bF 0 p1.aS o rJ (mv (vi 0) (RL.nt ?_)))
 obtain⟨af,hN,hb⟩:=bd hb
 refine RC.fold (fun(av:Nat) (af: (List (List aX))×(List (Int×Int))) U w=>∃(ba:Value) (us125:List RV),SH E V [(0,vp b0 0),(5,ba),(6,aq),(15,au),(16,vi p1.aS.length),(17,vi av)] [bc 71 b0 [v0_0,v0_1,v0_2,v0_3,v0_4,v0_5,v0_6,v0_7,v0_8,v0_9,v0_10,v0_11],rd v0_0 p0_0,rd v0_1 p0_1,rd v0_2 p0_2,rd v0_3 p0_3,rd v0_10 p0_10,mp aq af.2,rd au p1.aS,own 41 ba us125,gV (XS 34 aX) us125 af.1 none] U w) (fun(af: (List (List aX))×(List (Int×Int))) U w=>∃(ay:Value) (us127:List RV),SH E V [(0,vp b0 0),(5,ay)] [bc 71 b0 [v0_0,v0_1,v0_2,v0_3,v0_4,v0_5,v0_6,v0_7,v0_8,v0_9,v0_10,v0_11],rd v0_0 p0_0,rd v0_1 p0_1,rd v0_2 p0_2,rd v0_3 p0_3,rd v0_10 p0_10,mp aq af.2,rd au p1.aS,own 41 ay us127,gV (XS 34 aX) us127 af.1 none] U w) hN ?_ ?_ ?_ ?_
 ·have o:=(o.xT (XS 34 aX)).cW RV 41
  exact⟨(.slice none 0 0),([]:List RV),o.sp 12 [6,7,8,9,10,11,3,2,0,1]⟩
 ·rintro hm af _ w ⟨bh,us173,O,rfl,o⟩
  refine RC.sr (ic ((p1.aS.length:Int)) ((p1.aS.length:Int)) (RL.nq (RC.cP mz (RC.ex ?_))))
  exact⟨rfl,bh,us173,o.sp 10 [0,1,2,3,4,5,6,7,8,9]⟩
 ·rintro hm av af s' _ w hk ⟨a2,us129,O,rfl,o⟩ hb
  refine RC.sr (ic ((av:Int)) ((p1.aS.length:Int)) (RL.nq (RC.cO (my hk) (RC.ss (RC.bs ?_)))))
  obtain⟨ar,bj,hb⟩:=bd hb
  refine RL.cA 7 o qU bj fun bu o=>(RL.bC 0 ar o gT fun bw o=>(RL.alloc o sA.z fun a3 w o=>?_))
  refine RL.bD 0 o 1 zr gT fun w o=>?_
  refine RL.nq (RC.Cg mixed [0,0,0,0,0,2,0] [0,1,2,3,4,5,6] ?_)
  have o:=o.drew
  refine DP.e0 zr (mv (vp b0 0) (dA zr (RL.nilCheck zr (dA zr (RL.bH zr qV (dA zr (RL.GF (i:=3) (cs:=[v0_0,v0_1,v0_2,v0_3]) zt zr o zr zr wI zr zr (dA zr ?_))))))))
  refine RL.aN (f:=(fun x=>x)) 0 o zr Fd.self gT fun bk o=>(xt zr ?_)
  have o:=o.Gu (cs:=[v0_0,v0_1,v0_2,v0_3]) (x:=(⟨p0_0,p0_1,p0_2,p0_3⟩:kr)) (fun M hs g=>⟨[v0_0],[v0_1,v0_2,v0_3],rfl,(r7 (g.sat 5 _ rfl).1),⟨[v0_1],[v0_2,v0_3],rfl,(r7 (g.sat 6 _ rfl).1),⟨[v0_2],[v0_3],rfl,(r7 (g.sat 7 _ rfl).1),(r7 (g.sat 8 _ rfl).1)⟩⟩⟩) rfl
  obtain⟨a4,bl,hb⟩:=bd hb
  refine RL.call zt zr ID [(.agg ([v0_0,v0_1,v0_2,v0_3]:List Value).toArray),bk] zr (aF (lN N (i0:=0) (i1:=1) o zr zr bl) ?_)
  rintro _ w ⟨rfl,o⟩
  refine Dh zr (aM (vi a4) (DP.d0 (DP.z (aG (RC.seq (RC.sr (mv (vi a4) (ic a4 0 ?_))))))))
  refine RL.nt (eH hb (fun hc hb=>?_) fun hc hb=>?_)
  ·refine RC.ex (Gl (aG (RC.region (RL.inc hk hm (mv (vi ((av+1:Nat):Int)) (RL.nil ?_))))))
   obtain rfl:=oi hb
   exact⟨rfl,a2,us129,o.sp 15 [5,6,7,8,9,10,11,12,13,14]⟩
  refine RC.sx (mv (vp b0 0) (RL.nilCheck zr (RL.bH zr yC (RL.bV 5 v0_10 o fU (mv (vi a4) ?_)))))
  obtain⟨ah,bm,hb⟩:=bd hb
  refine RL.cA 10 o fV bm fun bz o=>(RL.bQ ah 0 o dE (aM (vi ah) (RL.ns (mv aq (mv (vi ah) (RL.pS 12 ah o zr yB (mv (.tuple #[(vi (dH af.2 ah (0:Int))),(vb (fR af.2 ah))]) (RL.extract (vi (dH af.2 ah (0:Int))) ?_))))))))
  refine RL.extract (vb (fR af.2 ah)) (aM (vi (dH af.2 ah (0:Int))) (aM (vb (fR af.2 ah)) (RL.nq (RC.sr (mv (vb (fR af.2 ah)) (RL.not (fR af.2 ah) (mv (vb (!(fR af.2 ah))) (RL.gs true (!(fR af.2 ah)) (vi ah) zr zr zr dQ ?_))))))))
  refine RL.gs true (!(fR af.2 ah)) (vb (decide (ah<0))) rfl rfl rfl (eM .lss .i64 ah 0 rfl (fun h=>by exact(dI h:cv (true&&((!(fR af.2 ah))==false)) (vi ah)= (vi ah))) (fun _=>rfl) rfl) (RL.pick (!(fR af.2 ah)) (vb ((!(fR af.2 ah))||(decide (ah<0)))) (nz true) (RL.nt ?_))
  obtain⟨aa,hj,hb⟩:=bd hb
  refine RC.jn (fun(aa: (List (List aX))×(List (Int×Int))×Int) U w=>∃(ao:Value) (us143:List RV),SH E V [(0,vp b0 0),(5,ao),(6,aq),(8,vp a3 0),(11,vi aa.2.2),(15,au),(16,vi p1.aS.length),(17,vi av)] [bc 71 b0 [v0_0,v0_1,v0_2,v0_3,v0_4,v0_5,v0_6,v0_7,v0_8,v0_9,v0_10,v0_11],rd v0_0 p0_0,rd v0_1 p0_1,rd v0_2 p0_2,rd v0_3 p0_3,rd v0_10 p0_10,mp aq aa.2.1,bx 34 a3 ar,rd au p1.aS,own 41 ao us143,gV (XS 34 aX) us143 aa.1 none] U w) aa ?_ ?_
  ·refine eH hj (fun hc hj=>?_) fun hc hj=>?_
   rotate_left
   ·refine RC.skip ?_
    obtain rfl:=oi hj
    exact⟨rfl,a2,us129,o.sp 16 [6,7,8,9,10,11,12,3,13,14,15]⟩
   refine RC.sr (mv a2 (RL.oD 14 15 af.1 o Ez (aM (vi af.1.length) (RL.ns (mv aq (mv (vi ah) (mv (vi af.1.length) ?_)))))))
   have o:=o.sc Int (af.1.length:Int)
   refine RL.mapUpdate 13 0 ah o zr zr zr zr yB fun w o=>(RL.nt (RC.region (mv a2 ?_)))
   have o:=(o.cW aX 34).B4 (i:=0) rfl
   refine RL.eF ([rv (.slice none 0 0)]:List RV) o [(.slice none 0 0)] Cr Ng (fun M hs g=>⟨(g.sat 0 _ zr).1,zt⟩) fun b1 w o=>?_
   obtain⟨b2,bn,hj⟩:=bd hj
   have o:=o.freeze 0
   refine RL.yg 18 0 19 2 zr o zr zr zr zr zr zr Ln bn fun bb w o=>?_
   refine aM bb (RL.nil ?_)
   obtain rfl:=oi hj
   exact⟨rfl,bb,(us129++[rv (.slice none 0 0)]),o.sp 20 [10,11,12,13,14,15,16,7,17,18,19]⟩
  rintro _ w ⟨ao,us143,O,rfl,o⟩
  refine aG ?_
  obtain⟨b3,a5,hb⟩:=bd hb
  obtain⟨ax,bo,hb⟩:=bd hb
  obtain⟨b4,a8,hb⟩:=bd hb
  refine RC.Gf E V mixed [1,1,1,1,0,0,0,0,0,0,0] [6,7,8,10] (fun(x:Value×Value×Value)=>(fun an al ag=>[(0,56,ao),(1,57,(vi aa.2.2)),(2,58,ao),(3,59,(vi aa.2.2)),(4,60,(z8 ao (Int.toNat aa.2.2) 1 0)),(5,61,(us143.getD (Int.toNat aa.2.2) xp).v),(6,62,an),(7,63,al),(8,64,ag),(9,65,(z8 ao (Int.toNat aa.2.2) 1 0))]) x.1 x.2.1 x.2.2) [(0,vp b0 0),(5,ao),(6,aq),(8,vp a3 0),(11,vi aa.2.2),(15,au),(16,vi p1.aS.length),(17,vi av)] [] (fun(D:Nat->Bool) (x:Value×Value×Value)=>(fun an al ag=>[bif D 0 then (rd an ar) else aW,bif D 2 then (rd al ([ar]: (List aX))) else (bif D 1 then (own 34 al ([ar]: (List aX))) else aW),bif D 3 then aW else (bif D 2 then (own 34 ag ax) else aW),bc 71 b0 [v0_0,v0_1,v0_2,v0_3,v0_4,v0_5,v0_6,v0_7,v0_8,v0_9,v0_10,v0_11],rd v0_0 p0_0,rd v0_1 p0_1,rd v0_2 p0_2,rd v0_3 p0_3,rd v0_10 p0_10,mp aq aa.2.1,bx 34 a3 ar,rd au p1.aS,bif D 3 then (own 41 ao (us143.set (Int.toNat aa.2.2) (rv ag))) else (own 41 ao us143),bif D 3 then (gV (XS 34 aX) (us143.set (Int.toNat aa.2.2) (rv ag)) (aa.1.set (Int.toNat aa.2.2) ax) none) else (bif D 2 then (gV (XS 34 aX) us143 aa.1 (some (Int.toNat aa.2.2))) else (gV (XS 34 aX) us143 aa.1 none))]) x.1 x.2.1 x.2.2) (fun x=>by kernel_rfl) ?_ ⟨fun _=>jZ gn,fun _=>jZ gn,fun _=>jZ gn,fun _=>jZ gn,?_,?_,?_,?_,?_,?_,?_,trivial⟩ ?_
  ·have o:=(((o.drew).aW).aW).aW
   exact⟨(undef,undef,undef),eB.none,(Et zr),zt,o⟩
  ·rintro D U w hD aj ad ⟨⟨an,al,ag⟩,hv,ha,_,o⟩
   obtain⟨O,rfl⟩:=(ac (hv.at 2 rfl (aj.1 rfl)) (ac (hv.at 3 rfl (aj.2.1 rfl)) az)).fC
   have o:=((o.bP 12 (nh ad hD 10)).bP 13 (nh ad hD 10)).bP 13 (nf (fun h=>ft hD ((ad 5 _ rfl ((ad 8 _ rfl h).1 rfl)).1 rfl)))
   have hl161:=o.fS 13
   have hr162:=iN xp hl161 a5
   refine RL.bY 12 o zr zr Cr hr162 ?_
   have o:=(o.dY 12 (D 10) (nh ad hD 10) (own 41 ao (us143.set (Int.toNat aa.2.2) (rv ag)))).dY 13 (D 8) (nf (fun h=>ft hD ((ad 5 _ rfl ((ad 8 _ rfl h).1 rfl)).1 rfl))) (gV (XS 34 aX) us143 aa.1 (some (Int.toNat aa.2.2)))
   have o:=o.dY 13 (D 10) (nh ad hD 10) (gV (XS 34 aX) (us143.set (Int.toNat aa.2.2) (rv ag)) (aa.1.set (Int.toNat aa.2.2) ax) none)
   exact RL.nil ⟨rfl,(an,al,ag),hv.pu 4,ha.u,zt,o⟩
  ·rintro D U w hD aj ad ⟨⟨an,al,ag⟩,hv,ha,_,o⟩
   obtain⟨O,rfl⟩:=(ac (hv.at 4 rfl (aj.1 rfl)) az).fC
   have o:=((o.bP 12 (nh ad hD 10)).bP 13 (nh ad hD 10)).bP 13 (nh ad hD 8)
   have hl163:=o.fS 13
   have hr164:=iN xp hl163 a5
   refine RL.tB 12 13 aa.2.2 (vn 34 aX) xp zr o zr (kC 12 o hr164 0) zr zr a5 xK ?_
   have o:=(o.dY 12 (D 10) (nh ad hD 10) (own 41 ao (us143.set (Int.toNat aa.2.2) (rv ag)))).dY 13 (D 8) (nh ad hD 8) (gV (XS 34 aX) us143 aa.1 (some (Int.toNat aa.2.2)))
   have o:=o.dY 13 (D 10) (nh ad hD 10) (gV (XS 34 aX) (us143.set (Int.toNat aa.2.2) (rv ag)) (aa.1.set (Int.toNat aa.2.2) ax) none)
   exact RL.nil ⟨rfl,(an,al,ag),hv.pu 5,ha.u,zt,o⟩
  ·rintro D U w hD aj ad ⟨⟨an,al,ag⟩,hv,ha,_,o⟩
   obtain⟨O,rfl⟩:=(ac (ha.at 3 rfl) az).fC
   have o:=o.bP 0 hD
   refine RL.aN (f:=(fun x=>x)) 10 o zr Fd.self gT fun bp o=>?_
   have o:=(o.pl 15 [0,2,3,4,5,6,7,8,9,10,11,12,13,14]).cI 0 true rfl aW
   exact RL.nil ⟨rfl,(bp,al,ag),hv.pu 6,ha.u,zt,o⟩
  ·rintro D U w hD aj ad ⟨⟨an,al,ag⟩,hv,ha,_,o⟩
   obtain⟨O,rfl⟩:=(ac (hv.at 6 rfl (aj.1 rfl)) az).fC
   have o:=((o.cH 0 (aj.1 rfl)).bP 1 (nh ad hD 8)).bP 1 hD
   refine RL.eF ([ar]: (List aX)) o [an] qU sA (fun M hs g=>⟨(g.sat 0 _ zr).1,zt⟩) fun bf w o=>?_
   have o:=(((o.pl 15 [1,0,3,4,5,6,7,8,9,10,11,12,13,14]).cI 0 (D 6) (aj.1 rfl) aW).cI 1 true rfl aW).dY 1 (D 8) (nh ad hD 8) (rd bf ([ar]: (List aX)))
   exact RL.nil ⟨rfl,(an,bf,ag),hv.pu 7,ha.u,zt,o⟩
  ·rintro D U w hD aj ad ⟨⟨an,al,ag⟩,hv,ha,_,o⟩
   obtain⟨O,rfl⟩:=(ac (hv.at 5 rfl (aj.1 rfl)) (ac (hv.at 7 rfl (aj.2.1 rfl)) az)).fC
   have o:=(((((((o.bP 1 hD).cH 1 (aj.2.1 rfl)).bP 2 (nh ad hD 10)).bP 2 hD).bP 12 (nh ad hD 10)).bP 13 (nh ad hD 10)).bP 13 hD).yf (j:=13) (jj:=aa.2.2) (vn 34 aX) xp rfl a5
   have o:=o.freeze 2
   refine RL.app 0 2 o zK bo fun a9 w o=>?_
   have o:=((((o.pl 15 [1,2,0,4,5,6,7,8,9,10,11,12,13,14]).cI 1 true rfl (bif D 7 then (own 34 al ([ar]: (List aX))) else aW)).cI 2 true rfl aW).dY 2 (D 10) (nh ad hD 10) aW).dY 12 (D 10) (nh ad hD 10) (own 41 ao (us143.set (Int.toNat aa.2.2) (rv a9)))
   have o:=(o.cI 13 true rfl (gV (XS 34 aX) us143 aa.1 none)).dY 13 (D 10) (nh ad hD 10) (gV (XS 34 aX) (us143.set (Int.toNat aa.2.2) (rv a9)) (aa.1.set (Int.toNat aa.2.2) ax) none)
   exact RL.nil ⟨rfl,(an,al,a9),hv.pu 8,ha.u,zt,o⟩
  ·rintro D U w hD aj ad ⟨⟨an,al,ag⟩,hv,ha,_,o⟩
   obtain⟨O,rfl⟩:=(ac (hv.at 0 rfl (aj.1 rfl)) (ac (hv.at 1 rfl (aj.2.1 rfl)) az)).fC
   have o:=((o.bP 12 (nh ad hD 10)).bP 13 (nh ad hD 10)).cH 13 (aj.2.2.2.2.2.2.2.2.2.2.1 rfl)
   have hl168:=o.fS 13
   have hr169:=iN xp hl168 a8
   refine RL.bY 12 o zr zr Cr hr169 ?_
   have o:=((o.dY 12 (D 10) (nh ad hD 10) (own 41 ao (us143.set (Int.toNat aa.2.2) (rv ag)))).cI 13 (D 8) (aj.2.2.2.2.2.2.2.2.2.2.1 rfl) (gV (XS 34 aX) us143 aa.1 none)).dY 13 (D 10) (nh ad hD 10) (gV (XS 34 aX) (us143.set (Int.toNat aa.2.2) (rv ag)) (aa.1.set (Int.toNat aa.2.2) ax) none)
   exact RL.nil ⟨rfl,(an,al,ag),hv.pu 9,ha.u,zt,o⟩
  ·rintro D U w hD aj ad ⟨⟨an,al,ag⟩,hv,ha,_,o⟩
   obtain⟨O,rfl⟩:=(ac (hv.at 8 rfl (aj.2.1 rfl)) (ac (hv.at 9 rfl (aj.1 rfl)) az)).fC
   have o:=((((o.bP 2 hD).cH 2 (aj.2.1 rfl)).bP 12 hD).bP 13 hD).cH 13 (aj.2.1 rfl)
   have hl170:=o.fS 13
   have hr171:=iN xp hl170 a8
   refine RL.qJ 12 13 2 aa.2.2 (vn 34 aX) xp o zr zr (kC 12 o hr171 0) zr zr zr a8 xK fun w o=>?_
   have o:=((o.cI 2 true rfl (bif D 8 then (own 34 ag ax) else aW)).cI 12 true rfl (own 41 ao us143)).cI 13 true rfl (bif D 8 then (gV (XS 34 aX) us143 aa.1 (some (Int.toNat aa.2.2))) else (gV (XS 34 aX) us143 aa.1 none))
   exact RL.nil ⟨rfl,(an,al,ag),hv.n1,ha,zt,o⟩
  rintro D U w a1 ⟨⟨an,al,ag⟩,hv,ha,_,o⟩
  have o:=((((o.cH 0 (kD a1 6)).cH 1 (kD a1 8)).cH 2 (kD a1 10)).cH 12 (kD a1 10)).cH 13 (kD a1 10)
  obtain⟨O,rfl⟩:=(ac (ha.at 0 rfl) (ac (ha.at 1 rfl) (ac (ha.at 2 rfl) (ac (ha.at 3 rfl) (ac (ha.at 4 rfl) (ac (ha.at 5 rfl) (ac (ha.at 6 rfl) (ac (ha.at 7 rfl) az)))))))).fC
  refine bO (aG (RC.region (RL.inc hk hm (mv (vi ((av+1:Nat):Int)) (RL.nil ?_)))))
  obtain rfl:=oi hb
  exact⟨rfl,ao,(us143.set (Int.toNat aa.2.2) (rv ag)),o.sp 14 [3,4,5,6,7,8,9,11,12,13]⟩
 rintro _ w ⟨ay,us127,O,rfl,o⟩
 refine aG (RC.seq (RC.sr (mv ay (RL.oD 8 9 af.1 o Ez (ic ((af.1.length:Int)) 2 (RL.nt (eH hb (fun hc hb=>?_) fun hc hb=>?_)))))))
 ·refine RC.sr (aM (.slice none 0 0) (RL.nt (RC.rt ?_)))
  obtain rfl:=oi hb
  have o:=o.cW aX 34
  exact bU (o.pk 11 [0,1])
 refine RC.sx (mv ay ?_)
 have o:=o.xU (X:=(XS 34 aX)) (b:=9) (j:=8) rfl (fun M h u x cs=>(GA 34) M h u x cs) rfl rfl (by decide)
 have o:=o.freeze 8
 obtain⟨b5,bq,hb⟩:=bd hb
 refine RL.call zt zr Nj [ay] zr (aF (sY N (i0:=8) o zr bq) ?_)
 rintro br w o
 refine aM br (RL.nt (RC.ret ?_))
 obtain rfl:=oi hb
 exact bU (o.pk 11 [0,1])
def rU (E:World) (V:List HP) (v0_2:Value) (p0_2: (List (aX×Int))) (v0_3:Value) (p0_3: (List (aX×Bool))) (res: (List bR)×(List aX)×Bool) (v:Value) (w:World):Prop:=∃u0 u1:Value,v = .tuple #[u0,u1,(vb res.2.2)]/\Holds E w ([own 9 u0 res.1,own 34 u1 res.2.1,mp v0_2 p0_2,mp v0_3 p0_3]++V)
theorem qZ [Nd E] {V:List HP} {i0_0:Nat} {v0_0:Value} {p0_0: (List Part)} {i0_1:Nat} {v0_1:Value} {p0_1: (List Net)} {v0_2:Value} {p0_2: (List (aX×Int))} {v0_3:Value} {p0_3: (List (aX×Bool))} {i1:Nat} {v1:Value} {p1:bJ} {res: (List bR)×(List aX)×Bool} (o:Holds E w (mp v0_2 p0_2::mp v0_3 p0_3::V)) (h0_0:V[i0_0]? =some (rd v0_0 p0_0)) (h0_1:V[i0_1]? =some (rd v0_1 p0_1)) (h1:V[i1]? =some (rd v1 p1)) (hb:iJ N p0_0 p0_1 p0_2 p0_3 p1=some res):
    Calls bB 15 [(.agg ([v0_0,v0_1,v0_2,v0_3]:List Value).toArray),v1].toArray w (gr (rU E V v0_2 p0_2 v0_3 p0_3 res)):=by
 unfold iJ at hb
 refine enter Tryz.func15 zr zr ?_
 have o:=((o.dup (i0_0+2) h0_0).dup (i0_1+3) h0_1).dup (i1+4) h1
 refine RC.sr (RL.xV [v0_0,v0_1,v0_2,v0_3] zr o zr (vm.all (⟨(np 2 o),(np 1 o),(r6 3 o),(r6 4 o),zt⟩:vm [v0_0,v0_1,v0_2,v0_3])) fun aj w o=>?_)
 refine RL.cQ 1 v1 o zr fun a6 w o=>?_
 refine aM (.slice none 0 0) (aM (.slice none 0 0) (aM (vb false) (RL.ns (RL.makeMap (κ:=bR) (ν:=Bool) o fun ae w o=>(aM ae (RL.ns (aM (.slice none 0 0) (RL.ns ?_))))))))
 refine aM (vi 0) (RL.nq (RC.sr (RL.bH zr Dz (RL.aN 1 o zr Di xK fun ak o=>(RL.bF 0 p1.aS o rJ (mv (vi 0) (RL.nt ?_)))))))
 obtain⟨ab,hN,hb⟩:=bd hb
 refine RC.fold (fun(af:Nat) (ab: (List (bR×Bool))×(List aX)×Int) U w=>∃ao:Value,SH E V [(0,(.agg ([v0_0,v0_1,v0_2,v0_3]:List Value).toArray)),(2,vp aj 0),(7,ae),(8,ao),(9,vi ab.2.2),(16,ak),(17,vi p1.aS.length),(18,vi af)] [rd v0_0 p0_0,rd v0_1 p0_1,mp v0_2 p0_2,mp v0_3 p0_3,bc 56 aj [v0_0,v0_1,v0_2,v0_3],mp ae ab.1,rd ak p1.aS,own 34 ao ab.2.1] U w) (fun(ab: (List (bR×Bool))×(List aX)×Int) U w=>∃ag:Value,SH E V [(0,(.agg ([v0_0,v0_1,v0_2,v0_3]:List Value).toArray)),(7,ae),(8,ag),(9,vi ab.2.2)] [rd v0_0 p0_0,rd v0_1 p0_1,mp v0_2 p0_2,mp v0_3 p0_3,bc 56 aj [v0_0,v0_1,v0_2,v0_3],mp ae ab.1,rd ak p1.aS,own 34 ag ab.2.1] U w) hN ?_ ?_ ?_ ?_
 ·have o:=o.cW aX 34
  exact⟨(.slice none 0 0),o.sp 10 [7,6,8,9,4,2,1,0]⟩
 ·rintro hm ab _ w ⟨ax,O,rfl,o⟩
  refine RC.sr (ic ((p1.aS.length:Int)) ((p1.aS.length:Int)) (RL.nq (RC.cP mz (RC.ex ?_))))
  exact⟨rfl,ax,o.sp 8 [0,1,2,3,4,5,6,7]⟩
 ·rintro hm af ab s' _ w hk ⟨al,O,rfl,o⟩ hb
  refine RC.sr (ic ((af:Int)) ((p1.aS.length:Int)) (RL.nq (RC.cO (my hk) (RC.ss (RC.bs ?_)))))
  obtain⟨ad,ay,hb⟩:=bd hb
  refine RL.cA 6 o qU ay fun a7 o=>(RL.bC 0 ad o gT fun a8 o=>(RL.alloc o sA.z fun a9 w o=>?_))
  refine RL.bD 0 o 1 zr gT fun w o=>?_
  refine RL.nq (RC.sr (RL.bH zr Hc (RL.bV 7 v0_2 o Lo (RL.aN (f:=(fun x=>x)) 0 o zr Fd.self gT fun ba o=>(RL.pS 6 ad o (nM 0 o) Ha (mv (.tuple #[(vi (dH p0_2 ad (0:Int))),(vb (fR p0_2 ad))]) (RL.extract (vi (dH p0_2 ad (0:Int))) (RL.extract (vb (fR p0_2 ad)) ?_))))))))
  refine aM (vi (dH p0_2 ad (0:Int))) (aM (vb (fR p0_2 ad)) (RL.ns (mv (vb (fR p0_2 ad)) (RL.nt (eH hb (fun hc hb=>?_) fun hc hb=>?_)))))
  ·refine RC.region (mv ae (RL.bH zr J6 (RL.bH zr sw (RL.bV 8 v0_1 o Cn (mv (vi (dH p0_2 ad (0:Int))) ?_)))))
   obtain⟨aq,az,hb⟩:=bd hb
   refine RL.cA 5 o Dm az fun bb o=>(RL.fB 0 o zr wJ pW fun bf o=>(RL.bQ aq.Name 0 o pQ ?_))
   have o:=o.sc Bool true
   refine RL.mapUpdate 12 0 aq.Name o zr zr zr zr Lp fun w o=>(RL.nt (RC.region (mv al (RL.aN (f:=(fun x=>x)) 4 o zr Fd.self gT fun a0 o=>(RL.eF ([ad]: (List aX)) o [a0] qU sA (fun M hs g=>⟨(g.sat 0 _ zr).1,zt⟩) fun bg w o=>?_)))))
   have o:=o.freeze 0
   obtain⟨bh,a1,hb⟩:=bd hb
   refine RL.app 16 0 o zK a1 fun ar w o=>?_
   refine aM ar (RL.nil (bO (aG (RC.region (RL.inc hk hm (mv (vi ((af+1:Nat):Int)) (RL.nil ?_)))))))
   obtain rfl:=oi hb
   exact⟨rfl,ar,o.sp 17 [9,10,11,12,13,14,15,16]⟩
  refine RC.sr (RL.bH zr DA (RL.bV 8 v0_3 o J5 (RL.aN (f:=(fun x=>x)) 1 o zr Fd.self gT fun bj o=>(RL.r5 8 ad zr o zr (nM 0 o) zr GV (RL.nt (eH hb (fun hc hb=>?_) fun hc hb=>?_))))))
  rotate_left
  ·refine RC.ex (Gl (aG (RC.region (RL.inc hk hm (mv (vi ((af+1:Nat):Int)) (RL.nil ?_))))))
   obtain rfl:=oi hb
   exact⟨rfl,al,o.sp 13 [5,6,7,8,9,10,11,12]⟩
  refine RC.region (mv (vi ab.2.2) (RL.jQ ab.2.2 1 (aM (vi (IntKind.wrap .i64 (ab.2.2+1))) (RL.nt (RC.region (mv al (RL.aN (f:=(fun x=>x)) 2 o zr Fd.self gT fun a2 o=>(RL.eF ([ad]: (List aX)) o [a2] qU sA (fun M hs g=>⟨(g.sat 0 _ zr).1,zt⟩) fun bk w o=>?_))))))))
  have o:=o.freeze 0
  obtain⟨bl,a3,hb⟩:=bd hb
  refine RL.app 14 0 o zK a3 fun au w o=>?_
  refine aM au (RL.nil (bO (aG (RC.region (RL.inc hk hm (mv (vi ((af+1:Nat):Int)) (RL.nil ?_)))))))
  obtain rfl:=oi hb
  exact⟨rfl,au,o.sp 15 [7,8,9,10,11,12,13,14]⟩
 rintro _ w ⟨ag,O,rfl,o⟩
 refine aG (RC.sr (mv ae (RL.call zt zr Nl [ae] zr (aF (IU Tryz.lay30 65 104 zr zr o (i:=5) zr) ?_))))
 rintro _ w ⟨a4,rfl,o⟩
 obtain⟨bm,a5,hb⟩:=bd hb
 refine RL.call zt zr Nm [(.func (.func 65) #[] #[(vp a4 0)])] zr (aF (zO Tryz.lay30 Tryz.lay29 Tryz.lay64 65 9 zr zr Nn zr Np ⟨rfl,zr,zr⟩ yw o (i:=6) (j:=0) zr zr a5) ?_)
 rintro av w o
 refine mv ag (mv ae (RL.Ik (i:=7) zt zr o zr zr Lq (mv (vi ab.2.2) (RL.jQ (ab.1.length:Int) ab.2.2 (ic ((IntKind.wrap .i64 ((ab.1.length:Int)+ab.2.2))) 1 (aM av (aM ag (aM (vb (decide ((IntKind.wrap .i64 ((ab.1.length:Int)+ab.2.2))>1))) ?_))))))))
 refine RL.nt (RC.ret ?_)
 obtain rfl:=oi hb
 exact ya ⟨av,ag,zr,o.pk 10 [0,9,4,5]⟩
def s8 (E:World) (V:List HP) (v0_2:Value) (p0_2: (List (aX×Int))) (v0_3:Value) (p0_3: (List (aX×Bool))) (res:Bool) (v:Value) (w:World):Prop:=v= (vb res)/\Holds E w ([mp v0_2 p0_2,mp v0_3 p0_3]++V)
theorem rV {p0_0: (List Part)} {p0_1: (List Net)} {p0_2: (List (aX×Int))} {p0_3: (List (aX×Bool))} {p1:aX} {res:Bool} (j:Holds E w (mp v0_2 p0_2::mp v0_3 p0_3::V)) (h0_0:V[i0_0]? =some (rd v0_0 p0_0)) (h0_1:V[i0_1]? =some (rd v0_1 p0_1)) (h1:V[i1]? =some (rd v1 p1)) (hb:jd N p0_0 p0_1 p0_2 p0_3 p1=some res):
    Calls bB 16 [(.agg ([v0_0,v0_1,v0_2,v0_3]:List Value).toArray),v1].toArray w (gr (s8 E V v0_2 p0_2 v0_3 p0_3 res)):=by
 unfold jd at hb
 refine enter Tryz.func16 zr zr ?_
 have j:=((j.dup (i0_0+2) h0_0).dup (i0_1+3) h0_1).dup (i1+4) h1
 refine RC.sr (RL.xV [v0_0,v0_1,v0_2,v0_3] zr j zr (vm.all (⟨(np 2 j),(np 1 j),(r6 3 j),(r6 4 j),zt⟩:vm [v0_0,v0_1,v0_2,v0_3])) fun ae w j=>?_)
 refine RL.cQ 1 v1 j zr fun af w j=>?_
 refine aM (vb false) (RL.ns (RL.bH zr Hc (RL.bV 1 v0_2 j Lo (RL.aN (f:=(fun x=>x)) 0 j zr Fd.self gT fun ag j=>(RL.pS 6 p1 j (nM 0 j) Ha (mv (.tuple #[(vi (dH p0_2 p1 (0:Int))),(vb (fR p0_2 p1))]) (RL.extract (vi (dH p0_2 p1 (0:Int))) (RL.extract (vb (fR p0_2 p1)) ?_))))))))
 refine aM (vi (dH p0_2 p1 (0:Int))) (aM (vb (fR p0_2 p1)) (RL.nq ?_))
 obtain⟨ad,hj,hb⟩:=bd hb
 refine RC.jn (fun(ad:Bool)=>SH E V [(0,(.agg ([v0_0,v0_1,v0_2,v0_3]:List Value).toArray)),(4,vb ad)] [rd v0_0 p0_0,rd v0_1 p0_1,mp v0_2 p0_2,mp v0_3 p0_3]) ad ?_ ?_
 ·refine RC.region (mv (vb (fR p0_2 p1)) (mv (vb (fR p0_2 p1)) (gZ hj (fun o hj=>?_) fun o hj=>?_)))
  ·refine bZ o (bZ o (bZ o (bZ o (g9 o (vb true) (aM (vb true) (RL.nil ?_))))))
   obtain rfl:=oi hj
   exact⟨rfl,j.sp 8 [5,4,6,7]⟩
  refine RL.bH (hg:=(cg o)) zr DA (RL.bV (hg:=(cg o)) 2 v0_3 j J5 (RL.aN (hg:=(cg o)) (f:=(fun x=>x)) 1 j zr Fd.self gT fun ah j=>(RL.r5 (hg:=(cg o)) 8 p1 zr j zr (nM 0 j) zr GV (g9 o (vb (dH p0_3 p1 (false:Bool))) (aM (vb (dH p0_3 p1 (false:Bool))) (RL.nil ?_))))))
  obtain rfl:=oi hj
  exact⟨rfl,j.sp 9 [6,5,7,8]⟩
 rintro _ w ⟨O,rfl,j⟩
 refine aG (RC.ret ?_)
 obtain rfl:=oi hb
 exact bU ⟨rfl,j.pk 4 [2,3]⟩
def wU (E:World) (V:List HP) (res: (List dC)×Int) (v:Value) (w:World):Prop:=∃u0:Value,v = .tuple #[u0,(vi res.2)]/\Holds E w ([own 43 u0 res.1]++V)
theorem vT [Nd E] {V:List HP} {i0:Nat} {v0:Value} {p0: (List aL)} {i1:Nat} {v1:Value} {p1:bK} {i2:Nat} {v2:Value} {p2:kr} {res: (List dC)×Int} (j:Holds E w V) (h0:V[i0]? =some (rd v0 p0)) (h1:V[i1]? =some (rd v1 p1)) (h2:V[i2]? =some (rd v2 p2)) (hb:fO N p0 p1 p2=some res):
    Calls bB 4 [v0,v1,v2].toArray w (gr (wU E V res)):=by
 unfold fO at hb
 refine enter Tryz.func4 zr zr ?_
 have j:=((j.dup (i0+0) h0).dup (i1+1) h1).dup (i2+2) h2
 refine RC.sr (RL.cQ 1 v1 j zr fun a6 w j=>?_)
 refine RL.cQ 1 v2 j zr fun ai w j=>?_
 refine aM (.slice none 0 0) (aM (vi 0) (RL.ns (mv v0 (RL.aN (f:=(fun x=>x)) 1 j zr Fd.self yv fun c8 j=>(RL.aN (f:=(fun x=>x)) 1 j zr Fd.self wI fun c9 j=>?_)))))
 obtain⟨bg,du,hb⟩:=bd hb
 refine RL.call zt zr Oa [v0,c8,c9] zr (aF (uT N (i0:=6) (i1:=1) (i2:=0) j zr zr zr du) ?_)
 rintro _ w hK51
 rcases cd:bg.1 with _ | o
 ·replace hb:=JH cd hb
  obtain⟨rfl,j⟩:=GB cd hK51
  refine mv (.tuple #[(.pointer none),(vi bg.2)]) (RL.extract (.pointer none) (RL.extract (vi bg.2) (aM (.pointer none) (aM (vi bg.2) (RL.nq (RC.sr (mv (vi bg.2) (ic bg.2 0 ?_))))))))
  refine RL.nt (eH hb (fun hc hb=>?_) fun hc hb=>?_)
  rotate_left
  ·cases hb
  refine RC.sr (mv (vi bg.2) (aM (.slice none 0 0) (aM (vi bg.2) (RL.nt (RC.rt ?_)))))
  obtain rfl:=oi hb
  have j:=j.cW dC 43
  exact oz ⟨(.slice none 0 0),zr,j.pk 8 [0]⟩
 replace hb:=JI cd hb
 obtain⟨aj,ao,aq,ar,au,av,aw,ax,ak,ay,a0,a5,a1,rfl,j⟩:=GC cd hK51
 refine mv (.tuple #[(vp aj 0),(vi bg.2)]) (RL.extract (vp aj 0) (RL.extract (vi bg.2) (aM (vp aj 0) (aM (vi bg.2) (RL.nq (RC.sr (mv (vi bg.2) (ic bg.2 0 ?_))))))))
 refine RL.nt (eH hb (fun hc hb=>?_) fun hc hb=>?_)
 ·refine RC.sr (mv (vi bg.2) (aM (.slice none 0 0) (aM (vi bg.2) (RL.nt (RC.rt ?_)))))
  obtain rfl:=oi hb
  have j:=j.cW dC 43
  exact oz ⟨(.slice none 0 0),zr,j.pk 21 [0]⟩
 refine RC.ss ?_
 obtain⟨a7,dv,hb⟩:=bd hb
 refine RC.Gf E V mixed [0,0,0,0,0,0,0] [0,1,2,3,4,5,6] (fun(x:Value×Value×Value×Value×Value×Value×Nat)=>(fun a8 a9 ad ab ae af ag=>[(0,40,a8),(1,41,a9),(2,42,ad),(3,43,ab),(4,44,(.agg ([af,ae,ad,ab]:List Value).toArray)),(5,10,(vp ag 0))]) x.1 x.2.1 x.2.2.1 x.2.2.2.1 x.2.2.2.2.1 x.2.2.2.2.2.1 x.2.2.2.2.2.2) [(0,v0),(4,vp a6 0),(5,vp ai 0),(8,vp aj 0)] [] (fun(D:Nat->Bool) (x:Value×Value×Value×Value×Value×Value×Nat)=>(fun a8 a9 ad ab ae af ag=>[bif D 0 then (rd a8 p1) else aW,bif D 1 then (rd a9 p1) else aW,bif D 2 then (mp ad a7) else aW,bif D 3 then (mp ab ([]: (List (aX×Bool)))) else aW,bif D 4 then (rd ae p1.bE) else aW,bif D 4 then (rd af p1.cJ) else aW,bif D 6 then (bc 56 ag [af,ae,ad,ab]) else (bif D 5 then (bc 56 ag [(.slice none 0 0),(.slice none 0 0),(.map none),(.map none)]) else aW),bc 71 aj [ao,aq,ar,au,av,aw,ax,ak,ay,a0,a5,a1],rd ao o.1,rd aq o.2.1,rd ar o.2.2.1,rd au o.2.2.2.1,own 113 av o.2.2.2.2.1,rd aw o.2.2.2.2.2.1,rd ax o.2.2.2.2.2.2.1,own 73 ak o.2.2.2.2.2.2.2.1,rd ay o.2.2.2.2.2.2.2.2.1,rd a0 o.2.2.2.2.2.2.2.2.2.1,own 3 a5 o.2.2.2.2.2.2.2.2.2.2.1,own 179 a1 o.2.2.2.2.2.2.2.2.2.2.2,rd c9 p2,rd c8 p1,bx 32 ai p2,bx 26 a6 p1,rd v2 p2,rd v1 p1,rd v0 p0]) x.1 x.2.1 x.2.2.1 x.2.2.2.1 x.2.2.2.2.1 x.2.2.2.2.2.1 x.2.2.2.2.2.2) (fun x=>by kernel_rfl) ?_ ⟨?_,?_,?_,?_,?_,?_,?_,trivial⟩ ?_
 ·have j:=(((((((j.drew).aW).aW).aW).aW).aW).aW).aW
  exact⟨(undef,undef,undef,undef,undef,undef,0),eB.none,(Et zr),zt,j⟩
 ·rintro D U w hD al bf ⟨⟨a8,a9,ad,ab,ae,af,ag⟩,hv,ha,_,j⟩
  obtain⟨O,rfl⟩:=(ac (ha.at 1 rfl) az).fC
  have j:=j.bP 0 hD
  refine RL.aN (f:=(fun x=>x)) 23 j zr Fd.self yv fun dw j=>?_
  have j:=(j.pl 28 [0,2,3,4,5,6,7,8,9,10,11,12,13,14,15,16,17,18,19,20,21,22,23,24,25,26,27]).cI 0 true rfl aW
  exact RL.nil ⟨rfl,(dw,a9,ad,ab,ae,af,ag),hv.pu 0,ha.u,zt,j⟩
 ·rintro D U w hD al bf ⟨⟨a8,a9,ad,ab,ae,af,ag⟩,hv,ha,_,j⟩
  obtain⟨O,rfl⟩:=(ac (ha.at 1 rfl) az).fC
  have j:=j.bP 1 hD
  refine RL.aN (f:=(fun x=>x)) 23 j zr Fd.self yv fun dx j=>?_
  have j:=(j.pl 28 [1,0,3,4,5,6,7,8,9,10,11,12,13,14,15,16,17,18,19,20,21,22,23,24,25,26,27]).cI 1 true rfl aW
  exact RL.nil ⟨rfl,(a8,dx,ad,ab,ae,af,ag),hv.pu 1,ha.u,zt,j⟩
 ·rintro D U w hD al bf ⟨⟨a8,a9,ad,ab,ae,af,ag⟩,hv,ha,_,j⟩
  obtain⟨O,rfl⟩:=(ac (hv.at 1 rfl (al.1 rfl)) az).fC
  have j:=((j.cH 1 (al.1 rfl)).bP 2 hD).bP 6 (nh bf hD 6)
  refine RL.call zt zr M6 [a9] zr (aF (nQ N (i0:=1) j zr dv) ?_)
  rintro cv w j
  have j:=(((j.pl 28 [1,2,0,4,5,6,7,8,9,10,11,12,13,14,15,16,17,18,19,20,21,22,23,24,25,26,27]).cI 1 (D 1) (al.1 rfl) aW).cI 2 true rfl aW).dY 6 (D 6) (nh bf hD 6) (bc 56 ag [af,ae,cv,ab])
  have hv:=hv.re 4 rfl (v':=(.agg ([af,ae,cv,ab]:List Value).toArray)) (fun h=>ft hD ((bf 4 _ rfl h).2.1 rfl))
  exact RL.nil ⟨rfl,(a8,a9,cv,ab,ae,af,ag),hv.pu 2,ha.u,zt,j⟩
 ·rintro D U w hD al bf ⟨⟨a8,a9,ad,ab,ae,af,ag⟩,hv,ha,_,j⟩
  obtain⟨O,rfl⟩:=(az (U:=U)).fC
  have j:=(j.bP 3 hD).bP 6 (nh bf hD 6)
  refine RL.makeMap (κ:=aX) (ν:=Bool) j fun cw w j=>?_
  have j:=((j.pl 28 [1,2,3,0,5,6,7,8,9,10,11,12,13,14,15,16,17,18,19,20,21,22,23,24,25,26,27]).cI 3 true rfl aW).dY 6 (D 6) (nh bf hD 6) (bc 56 ag [af,ae,ad,cw])
  have hv:=hv.re 4 rfl (v':=(.agg ([af,ae,ad,cw]:List Value).toArray)) (fun h=>ft hD ((bf 4 _ rfl h).2.2.1 rfl))
  exact RL.nil ⟨rfl,(a8,a9,ad,cw,ae,af,ag),hv.pu 3,ha.u,zt,j⟩
 ·rintro D U w hD al bf ⟨⟨a8,a9,ad,ab,ae,af,ag⟩,hv,ha,_,j⟩
  obtain⟨O,rfl⟩:=(ac (hv.at 0 rfl (al.1 rfl)) (ac (hv.at 2 rfl (al.2.1 rfl)) (ac (hv.at 3 rfl (al.2.2.1 rfl)) az))).fC
  have j:=(((((j.cH 0 (al.1 rfl)).cH 2 (al.2.1 rfl)).cH 3 (al.2.2.1 rfl)).bP 4 hD).bP 5 hD).bP 6 (nh bf hD 6)
  obtain⟨cs,hcs,hv324,j⟩:=j.Em (i:=0) rfl rfl
  obtain⟨cf,cg,rfl⟩:=L4 hcs
  have j:=(j.jI (i:=0) (k:=0) (f:=fun x=>x.cJ) rfl mG rfl rfl rfl).jI (i:=1) (k:=1) (f:=fun x=>x.bE) rfl jE rfl rfl rfl
  refine RL.GD (zs:=[(.slice none 0 0),(.slice none 0 0),(.map none),(.map none)]) (cs:=[cf,cg,ad,ab]) zt zr [(0,a8),(1,ad),(2,ab)] [(0,[cf,cg]),(1,[ad]),(2,[ab])] zr M7 ⟨rfl,(congrArg Value.cells hv324),⟨rfl,(cells_one (r6 5 j)),⟨rfl,(cells_one (r6 6 j)),zt⟩⟩⟩ zr ?_
  have j:=((((((j.pl 30 [3,4,5,6,0,1,9,10,11,12,13,14,15,16,17,18,19,20,21,22,23,24,25,26,27,28,29]).cI 0 (D 0) (al.1 rfl) aW).cI 2 (D 2) (al.2.1 rfl) aW).cI 3 (D 3) (al.2.2.1 rfl) aW).cI 4 true rfl aW).cI 5 true rfl aW).dY 6 (D 6) (nh bf hD 6) (bc 56 ag [cf,cg,ad,ab])
  exact RL.nil ⟨rfl,(a8,a9,ad,ab,cg,cf,ag),hv.pu 4,ha.u,zt,j⟩
 ·rintro D U w hD al bf ⟨⟨a8,a9,ad,ab,ae,af,ag⟩,hv,ha,_,j⟩
  obtain⟨O,rfl⟩:=(az (U:=U)).fC
  have j:=(j.bP 6 (nh bf hD 6)).bP 6 hD
  refine RL.vl zr j M8 zr fun da w j=>?_
  have j:=((j.pl 28 [1,2,3,4,5,6,0,8,9,10,11,12,13,14,15,16,17,18,19,20,21,22,23,24,25,26,27]).cI 6 true rfl aW).dY 6 (D 6) (nh bf hD 6) (bc 56 da [af,ae,ad,ab])
  exact RL.nil ⟨rfl,(a8,a9,ad,ab,ae,af,da),hv.pu 5,ha.u,zt,j⟩
 ·rintro D U w hD al bf ⟨⟨a8,a9,ad,ab,ae,af,ag⟩,hv,ha,_,j⟩
  obtain⟨O,rfl⟩:=(ac (hv.at 4 rfl (al.2.1 rfl)) (ac (hv.at 5 rfl (al.1 rfl)) az)).fC
  have j:=(((((j.cH 2 (al.2.2.1 rfl)).cH 3 (al.2.2.2.2.2.2.1 rfl)).cH 4 (al.2.1 rfl)).cH 5 (al.2.1 rfl)).bP 6 hD).cH 6 (al.1 rfl)
  refine RL.E2 (i:=6) (cs:=[af,ae,ad,ab]) zt j zr zr zr (vm.all (⟨(np 5 j),(np 4 j),(r6 2 j),(r6 3 j),zt⟩:vm [af,ae,ad,ab])) J4 zr zr fun w j=>?_
  have j:=((((j.cI 2 (D 2) (al.2.2.1 rfl) aW).cI 3 (D 3) (al.2.2.2.2.2.2.1 rfl) aW).cI 4 (D 4) (al.2.1 rfl) aW).cI 5 (D 4) (al.2.1 rfl) aW).cI 6 true rfl (bif D 5 then (bc 56 ag [(.slice none 0 0),(.slice none 0 0),(.map none),(.map none)]) else aW)
  exact RL.nil ⟨rfl,(a8,a9,ad,ab,ae,af,ag),hv.n1,ha,zt,j⟩
 rintro D U w bq ⟨⟨a8,a9,ad,ab,ae,af,ag⟩,hv,ha,_,j⟩
 have j:=((((((j.cH 0 (kD bq 0)).cH 1 (kD bq 1)).cH 2 (kD bq 2)).cH 3 (kD bq 3)).cH 4 (kD bq 4)).cH 5 (kD bq 4)).cH 6 (kD bq 6)
 obtain⟨O,rfl⟩:=(ac (hv.at 5 rfl (kD bq 5)) (ac (ha.at 0 rfl) (ac (ha.at 1 rfl) (ac (ha.at 2 rfl) (ac (ha.at 3 rfl) az))))).fC
 refine aG (RC.seq (RC.sr (mv v0 (RL.aN (f:=(fun x=>x)) 23 j zr Fd.self yv fun dy j=>?_))))
 obtain⟨bu,dz,hb⟩:=bd hb
 refine RL.call zt zr Na [v0,dy] zr (aF (uU N (i0:=27) (i1:=0) j zr zr dz) ?_)
 rintro cx w j
 refine RL.eO 0 bu j rJ (mv (vi 0) (RL.nt ?_))
 obtain⟨a3,hN,hb⟩:=bd hb
 refine RC.fold (fun(ch:Nat) (a3: (List (aX×Bool)))=>SH E V [(4,vp a6 0),(5,vp ai 0),(8,vp aj 0),(10,vp ag 0),(47,cx),(48,vi bu.length),(49,vi ch)] [bx 26 a6 p1,bx 32 ai p2,bc 71 aj [ao,aq,ar,au,av,aw,ax,ak,ay,a0,a5,a1],rd ao o.1,rd aq o.2.1,rd ar o.2.2.1,rd au o.2.2.2.1,own 113 av o.2.2.2.2.1,rd aw o.2.2.2.2.2.1,rd ax o.2.2.2.2.2.2.1,own 73 ak o.2.2.2.2.2.2.2.1,rd ay o.2.2.2.2.2.2.2.2.1,rd a0 o.2.2.2.2.2.2.2.2.2.1,own 3 a5 o.2.2.2.2.2.2.2.2.2.2.1,own 179 a1 o.2.2.2.2.2.2.2.2.2.2.2,bc 56 ag [af,ae,ad,ab],rd af p1.cJ,rd ae p1.bE,mp ad a7,mp ab a3,own 34 cx bu]) (fun(a3: (List (aX×Bool)))=>SH E V [(4,vp a6 0),(5,vp ai 0),(8,vp aj 0),(10,vp ag 0)] [bx 26 a6 p1,bx 32 ai p2,bc 71 aj [ao,aq,ar,au,av,aw,ax,ak,ay,a0,a5,a1],rd ao o.1,rd aq o.2.1,rd ar o.2.2.1,rd au o.2.2.2.1,own 113 av o.2.2.2.2.1,rd aw o.2.2.2.2.2.1,rd ax o.2.2.2.2.2.2.1,own 73 ak o.2.2.2.2.2.2.2.1,rd ay o.2.2.2.2.2.2.2.2.1,rd a0 o.2.2.2.2.2.2.2.2.2.1,own 3 a5 o.2.2.2.2.2.2.2.2.2.2.1,own 179 a1 o.2.2.2.2.2.2.2.2.2.2.2,bc 56 ag [af,ae,ad,ab],rd af p1.cJ,rd ae p1.bE,mp ad a7,mp ab a3,own 34 cx bu]) hN ?_ ?_ ?_ ?_
 ·exact j.sp 29 [25,24,9,10,11,12,13,14,15,16,17,18,19,20,21,8,7,6,4,5,0]
 ·rintro hm a3 _ w ⟨O,rfl,j⟩
  refine RC.sr (ic ((bu.length:Int)) ((bu.length:Int)) (RL.nq (RC.cP mz (RC.ex ?_))))
  exact⟨rfl,j.sp 21 [0,1,2,3,4,5,6,7,8,9,10,11,12,13,14,15,16,17,18,19,20]⟩
 ·rintro hm ch a3 s' _ w hk ⟨O,rfl,j⟩ hb
  refine RC.sr (ic ((ch:Int)) ((bu.length:Int)) (RL.nq (RC.cO (my hk) (RC.ss (RC.bs ?_)))))
  obtain⟨d3,cy,hb⟩:=bd hb
  refine RL.bY 20 j zr zr qU cy (RL.kh (f:=(fun x=>x)) 20 j (kC 20 j cy 0) (bG cy).2.1 Fd.self gT fun fh j=>?_)
  refine RL.alloc j sA.z fun fi w j=>?_
  refine RL.bD 0 j 1 zr gT fun w j=>?_
  refine RL.nt (RC.region (RL.bH zr DA (RL.bV 17 ab j J5 (RL.aN (f:=(fun x=>x)) 0 j zr Fd.self gT fun fj j=>?_))))
  have j:=j.sc Bool true
  refine RL.mapUpdate 23 0 d3 j zr (nM 1 j) zr zr GV fun w j=>(RL.nil (bO (aG (RC.region (RL.inc hk hm (mv (vi ((ch+1:Nat):Int)) (RL.nil ?_)))))))
  obtain rfl:=oi hb
  exact⟨rfl,j.sp 25 [4,5,6,7,8,9,10,11,12,13,14,15,16,17,18,19,20,21,22,23,24]⟩
 rintro _ w ⟨O,rfl,j⟩
 refine aG (RC.sr (aM (.slice none 0 0) (RL.ns (aM (.slice none 0 0) (aM (.slice none 0 0) (RL.nq (RC.sr (RL.bH zr sw ?_))))))))
 refine RL.aN 0 j zr jE Cn fun bn j=>(RL.bF 0 p1.bE j GU (mv (vi 0) (RL.nt ?_)))
 obtain⟨bz,hN,hb⟩:=bd hb
 refine RC.fold (fun(bw:Nat) (bz: (List aX)) U w=>∃db:Value,SH E V [(4,vp a6 0),(5,vp ai 0),(8,vp aj 0),(10,vp ag 0),(13,(.slice none 0 0)),(14,db),(15,(.slice none 0 0)),(58,bn),(59,vi p1.bE.length),(60,vi bw)] [bx 26 a6 p1,bx 32 ai p2,bc 71 aj [ao,aq,ar,au,av,aw,ax,ak,ay,a0,a5,a1],rd ao o.1,rd aq o.2.1,rd ar o.2.2.1,rd au o.2.2.2.1,own 113 av o.2.2.2.2.1,rd aw o.2.2.2.2.2.1,rd ax o.2.2.2.2.2.2.1,own 73 ak o.2.2.2.2.2.2.2.1,rd ay o.2.2.2.2.2.2.2.2.1,rd a0 o.2.2.2.2.2.2.2.2.2.1,own 3 a5 o.2.2.2.2.2.2.2.2.2.2.1,own 179 a1 o.2.2.2.2.2.2.2.2.2.2.2,bc 56 ag [af,ae,ad,ab],rd af p1.cJ,rd ae p1.bE,mp ad a7,mp ab a3,rd bn p1.bE,own 34 db bz] U w) (fun(bz: (List aX)) U w=>∃br:Value,SH E V [(4,vp a6 0),(5,vp ai 0),(8,vp aj 0),(10,vp ag 0),(13,(.slice none 0 0)),(14,br),(15,(.slice none 0 0))] [bx 26 a6 p1,bx 32 ai p2,bc 71 aj [ao,aq,ar,au,av,aw,ax,ak,ay,a0,a5,a1],rd ao o.1,rd aq o.2.1,rd ar o.2.2.1,rd au o.2.2.2.1,own 113 av o.2.2.2.2.1,rd aw o.2.2.2.2.2.1,rd ax o.2.2.2.2.2.2.1,own 73 ak o.2.2.2.2.2.2.2.1,rd ay o.2.2.2.2.2.2.2.2.1,rd a0 o.2.2.2.2.2.2.2.2.2.1,own 3 a5 o.2.2.2.2.2.2.2.2.2.2.1,own 179 a1 o.2.2.2.2.2.2.2.2.2.2.2,bc 56 ag [af,ae,ad,ab],rd af p1.cJ,rd ae p1.bE,mp ad a7,mp ab a3,rd bn p1.bE,own 34 br bz] U w) hN ?_ ?_ ?_ ?_
 ·have j:=j.cW aX 34
  exact⟨(.slice none 0 0),j.sp 23 [2,3,4,5,6,7,8,9,10,11,12,13,14,15,16,17,18,19,20,21,1,0]⟩
 ·rintro hm bz _ w ⟨d4,O,rfl,j⟩
  refine RC.sr (ic ((p1.bE.length:Int)) ((p1.bE.length:Int)) (RL.nq (RC.cP mz (RC.ex ?_))))
  exact⟨rfl,d4,j.sp 22 [0,1,2,3,4,5,6,7,8,9,10,11,12,13,14,15,16,17,18,19,20,21]⟩
 ·rintro hm bw bz s' _ w hk ⟨d5,O,rfl,j⟩ hb
  refine RC.sr (ic ((bw:Int)) ((p1.bE.length:Int)) (RL.nq (RC.cO (my hk) (RC.ss (RC.bs ?_)))))
  obtain⟨bl,d6,hb⟩:=bd hb
  refine RL.cA 20 j Dm d6 fun fk j=>(RL.bC 0 bl j A0 fun fl j=>(RL.alloc j Iv.z fun fm w j=>?_))
  refine RL.bD 0 j 1 zr A0 fun w j=>?_
  refine RL.ns (RL.bH zr yz (RL.aN 0 j zr si xK fun b4 j=>(RL.bF 0 bl.aS j rJ (mv (vi 0) (RL.nt ?_)))))
  obtain⟨b0,hN,hb⟩:=bd hb
  refine RC.fold (fun(b5:Nat) (b0: (List aX)) U w=>∃dc:Value,SH E V [(4,vp a6 0),(5,vp ai 0),(8,vp aj 0),(10,vp ag 0),(13,(.slice none 0 0)),(14,dc),(15,(.slice none 0 0)),(58,bn),(59,vi p1.bE.length),(60,vi bw),(65,b4),(66,vi bl.aS.length),(67,vi b5)] [bx 26 a6 p1,bx 32 ai p2,bc 71 aj [ao,aq,ar,au,av,aw,ax,ak,ay,a0,a5,a1],rd ao o.1,rd aq o.2.1,rd ar o.2.2.1,rd au o.2.2.2.1,own 113 av o.2.2.2.2.1,rd aw o.2.2.2.2.2.1,rd ax o.2.2.2.2.2.2.1,own 73 ak o.2.2.2.2.2.2.2.1,rd ay o.2.2.2.2.2.2.2.2.1,rd a0 o.2.2.2.2.2.2.2.2.2.1,own 3 a5 o.2.2.2.2.2.2.2.2.2.2.1,own 179 a1 o.2.2.2.2.2.2.2.2.2.2.2,bc 56 ag [af,ae,ad,ab],rd af p1.cJ,rd ae p1.bE,mp ad a7,mp ab a3,rd bn p1.bE,rd b4 bl.aS,own 34 dc b0] U w) (fun(b0: (List aX)) U w=>∃cj:Value,SH E V [(4,vp a6 0),(5,vp ai 0),(8,vp aj 0),(10,vp ag 0),(13,(.slice none 0 0)),(14,cj),(15,(.slice none 0 0)),(58,bn),(59,vi p1.bE.length),(60,vi bw)] [bx 26 a6 p1,bx 32 ai p2,bc 71 aj [ao,aq,ar,au,av,aw,ax,ak,ay,a0,a5,a1],rd ao o.1,rd aq o.2.1,rd ar o.2.2.1,rd au o.2.2.2.1,own 113 av o.2.2.2.2.1,rd aw o.2.2.2.2.2.1,rd ax o.2.2.2.2.2.2.1,own 73 ak o.2.2.2.2.2.2.2.1,rd ay o.2.2.2.2.2.2.2.2.1,rd a0 o.2.2.2.2.2.2.2.2.2.1,own 3 a5 o.2.2.2.2.2.2.2.2.2.2.1,own 179 a1 o.2.2.2.2.2.2.2.2.2.2.2,bc 56 ag [af,ae,ad,ab],rd af p1.cJ,rd ae p1.bE,mp ad a7,mp ab a3,rd bn p1.bE,rd b4 bl.aS,own 34 cj b0] U w) hN ?_ ?_ ?_ ?_
  ·exact⟨d5,j.sp 26 [4,5,6,7,8,9,10,11,12,13,14,15,16,17,18,19,20,21,22,23,24,0,25]⟩
  ·rintro hm b0 _ w ⟨d7,O,rfl,j⟩
   refine RC.sr (ic ((bl.aS.length:Int)) ((bl.aS.length:Int)) (RL.nq (RC.cP mz (RC.ex ?_))))
   exact⟨rfl,d7,j.sp 23 [0,1,2,3,4,5,6,7,8,9,10,11,12,13,14,15,16,17,18,19,20,21,22]⟩
  ·rintro hm b5 b0 s' _ w hk ⟨dd,O,rfl,j⟩ hb
   refine RC.sr (ic ((b5:Int)) ((bl.aS.length:Int)) (RL.nq (RC.cO (my hk) (RC.ss (RC.bs ?_)))))
   obtain⟨de,d8,hb⟩:=bd hb
   refine RL.cA 21 j qU d8 fun fo j=>(RL.bC 0 de j gT fun fp j=>(RL.alloc j sA.z fun fq w j=>?_))
   refine RL.bD 0 j 1 zr gT fun w j=>?_
   refine RL.ns (RL.aN (f:=(fun x=>x)) 4 j zr Fd.self wI fun d9 j=>(RL.aN (f:=(fun x=>x)) 1 j zr Fd.self gT fun ea j=>?_))
   obtain⟨eb,ec,hb⟩:=bd hb
   refine RL.call zt zr ID [d9,ea] zr (aF (lN N (i0:=1) (i1:=0) j zr zr ec) ?_)
   rintro _ w ⟨rfl,j⟩
   refine ic eb 0 (RL.nt ?_)
   obtain⟨cz,hj,hb⟩:=bd hb
   refine RC.jn (fun(cz: (List aX)) U w=>∃ck:Value,SH E V [(4,vp a6 0),(5,vp ai 0),(8,vp aj 0),(10,vp ag 0),(13,(.slice none 0 0)),(14,ck),(15,(.slice none 0 0)),(58,bn),(59,vi p1.bE.length),(60,vi bw),(65,b4),(66,vi bl.aS.length),(67,vi b5)] [bx 26 a6 p1,bx 32 ai p2,bc 71 aj [ao,aq,ar,au,av,aw,ax,ak,ay,a0,a5,a1],rd ao o.1,rd aq o.2.1,rd ar o.2.2.1,rd au o.2.2.2.1,own 113 av o.2.2.2.2.1,rd aw o.2.2.2.2.2.1,rd ax o.2.2.2.2.2.2.1,own 73 ak o.2.2.2.2.2.2.2.1,rd ay o.2.2.2.2.2.2.2.2.1,rd a0 o.2.2.2.2.2.2.2.2.2.1,own 3 a5 o.2.2.2.2.2.2.2.2.2.2.1,own 179 a1 o.2.2.2.2.2.2.2.2.2.2.2,bc 56 ag [af,ae,ad,ab],rd af p1.cJ,rd ae p1.bE,mp ad a7,mp ab a3,rd bn p1.bE,rd b4 bl.aS,own 34 ck cz] U w) cz ?_ ?_
   ·refine eH hj (fun hc hj=>?_) fun hc hj=>?_
    rotate_left
    ·refine RC.skip ?_
     obtain rfl:=oi hj
     exact⟨rfl,dd,j.sp 28 [5,6,7,8,9,10,11,12,13,14,15,16,17,18,19,20,21,22,23,24,25,26,27]⟩
    refine RC.region (mv dd (RL.aN (f:=(fun x=>x)) 2 j zr Fd.self gT fun ed j=>(RL.eF ([de]: (List aX)) j [ed] qU sA (fun M hs g=>⟨(g.sat 0 _ zr).1,zt⟩) fun fr w j=>?_)))
    have j:=j.freeze 0
    obtain⟨fs,ee,hj⟩:=bd hj
    refine RL.app 29 0 j zK ee fun df w j=>?_
    refine aM df (RL.nil ?_)
    obtain rfl:=oi hj
    exact⟨rfl,df,j.sp 30 [7,8,9,10,11,12,13,14,15,16,17,18,19,20,21,22,23,24,25,26,27,28,29]⟩
   rintro _ w ⟨ck,O,rfl,j⟩
   refine bO (aG (RC.region (RL.inc hk hm (mv (vi ((b5+1:Nat):Int)) (RL.nil ?_)))))
   obtain rfl:=oi hb
   exact⟨rfl,ck,j.sp 23 [0,1,2,3,4,5,6,7,8,9,10,11,12,13,14,15,16,17,18,19,20,21,22]⟩
  rintro _ w ⟨cj,O,rfl,j⟩
  refine bO (aG (RC.region (RL.inc hk hm (mv (vi ((bw+1:Nat):Int)) (RL.nil ?_)))))
  obtain rfl:=oi hb
  exact⟨rfl,cj,j.sp 23 [0,1,2,3,4,5,6,7,8,9,10,11,12,13,14,15,16,17,18,19,20,22]⟩
 rintro _ w ⟨br,O,rfl,j⟩
 refine aG (RC.sr (mv br ?_))
 obtain⟨cl,ef,hb⟩:=bd hb
 have j:=j.pull 21
 refine RL.call zt zr Nf [br,(.func (.func 13) #[] #[])] zr (aF (Be Tryz.lay12 aX zr gT.HZ gT.sz Iw (fun j hi hj hr=>iP N j hi hj hr) j ef) ?_)
 rintro _ w ⟨rfl,j⟩
 refine RL.nq (RC.sr (mv br (RL.eO 0 cl j rJ (ic ((cl.length:Int)) 0 (RL.nt ?_)))))
 obtain⟨c0,hj,hb⟩:=bd hb
 refine RC.jn (fun(c0: (List dC)) U w=>∃cm:Value,SH E V [(4,vp a6 0),(5,vp ai 0),(8,vp aj 0),(10,vp ag 0),(13,cm),(15,(.slice none 0 0))] [bx 26 a6 p1,bx 32 ai p2,bc 71 aj [ao,aq,ar,au,av,aw,ax,ak,ay,a0,a5,a1],rd ao o.1,rd aq o.2.1,rd ar o.2.2.1,rd au o.2.2.2.1,own 113 av o.2.2.2.2.1,rd aw o.2.2.2.2.2.1,rd ax o.2.2.2.2.2.2.1,own 73 ak o.2.2.2.2.2.2.2.1,rd ay o.2.2.2.2.2.2.2.2.1,rd a0 o.2.2.2.2.2.2.2.2.2.1,own 3 a5 o.2.2.2.2.2.2.2.2.2.2.1,own 179 a1 o.2.2.2.2.2.2.2.2.2.2.2,bc 56 ag [af,ae,ad,ab],rd af p1.cJ,rd ae p1.bE,mp ad a7,mp ab a3,own 43 cm c0] U w) c0 ?_ ?_
 ·refine eH hj (fun hc hj=>?_) fun hc hj=>?_
  rotate_left
  ·refine RC.skip ?_
   obtain rfl:=oi hj
   have j:=j.cW dC 43
   exact⟨rfl,(.slice none 0 0),j.sp 24 [2,3,4,5,6,7,8,9,10,11,12,13,14,15,16,17,18,19,20,21,0]⟩
  refine RC.region (mv (.slice none 0 0) (mv br ?_))
  have j:=(j.sc Int 1).freeze 1
  refine RL.build (⟨1,[],cl⟩:dC) trivial rfl j [(0,vi 1),(2,br)] rfl IE rfl (fun M hs g=>by have h:=xX M;exact cZ.cons (f:=fun(x:dC) y=>{x with Kind:=y}) h qR (g.sat 0 _ rfl).1 fun _ h=>cZ.cons (f:=fun(x:dC) y=>{x with aS:=y}) h qS (g.sat 1 _ rfl).1 fun _ h=>cZ.nil h) fun eg j=>?_
  refine RL.eF ([(⟨1,[],cl⟩:dC)]: (List dC)) j [eg] Hb IF (fun M hs g=>⟨(g.sat 0 _ zr).1,zt⟩) fun fu w j=>?_
  have j:=(j.cW dC 43).freeze 1
  obtain⟨fv,eh,hj⟩:=bd hj
  refine RL.app 0 1 j IG eh fun dg w j=>?_
  refine aM dg (RL.nil ?_)
  obtain rfl:=oi hj
  exact⟨rfl,dg,j.sp 27 [5,6,7,8,9,10,11,12,13,14,15,16,17,18,19,20,21,22,23,24,0]⟩
 rintro _ w ⟨cm,O,rfl,j⟩
 refine aG (RC.seq (RC.sr (RL.bH zr sw (RL.aN 0 j zr jE Cn fun b6 j=>(RL.bF 0 p1.bE j GU (mv (vi 0) (RL.nt ?_)))))))
 obtain⟨bo,hN,hb⟩:=bd hb
 refine RC.fold (fun(b7:Nat) (bo: (List Int)×(List dC)) U w=>∃dh di:Value,SH E V [(5,vp ai 0),(8,vp aj 0),(10,vp ag 0),(13,di),(15,(.slice none 0 0)),(92,b6),(93,vi p1.bE.length),(94,vi b7)] [bx 32 ai p2,bc 71 aj [ao,aq,ar,au,av,aw,ax,ak,ay,a0,dh,a1],rd dh bo.1,rd ao o.1,rd aq o.2.1,rd ar o.2.2.1,rd au o.2.2.2.1,own 113 av o.2.2.2.2.1,rd aw o.2.2.2.2.2.1,rd ax o.2.2.2.2.2.2.1,own 73 ak o.2.2.2.2.2.2.2.1,rd ay o.2.2.2.2.2.2.2.2.1,rd a0 o.2.2.2.2.2.2.2.2.2.1,own 179 a1 o.2.2.2.2.2.2.2.2.2.2.2,bc 56 ag [af,ae,ad,ab],rd af p1.cJ,rd ae p1.bE,mp ad a7,mp ab a3,rd b6 p1.bE,own 43 di bo.2] U w) (fun(bo: (List Int)×(List dC)) U w=>∃c1 cn:Value,SH E V [(5,vp ai 0),(8,vp aj 0),(10,vp ag 0),(13,cn),(15,(.slice none 0 0))] [bx 32 ai p2,bc 71 aj [ao,aq,ar,au,av,aw,ax,ak,ay,a0,c1,a1],rd c1 bo.1,rd ao o.1,rd aq o.2.1,rd ar o.2.2.1,rd au o.2.2.2.1,own 113 av o.2.2.2.2.1,rd aw o.2.2.2.2.2.1,rd ax o.2.2.2.2.2.2.1,own 73 ak o.2.2.2.2.2.2.2.1,rd ay o.2.2.2.2.2.2.2.2.1,rd a0 o.2.2.2.2.2.2.2.2.2.1,own 179 a1 o.2.2.2.2.2.2.2.2.2.2.2,bc 56 ag [af,ae,ad,ab],rd af p1.cJ,rd ae p1.bE,mp ad a7,mp ab a3,rd b6 p1.bE,own 43 cn bo.2] U w) hN ?_ ?_ ?_ ?_
 ·have j:=j.freeze 14
  exact⟨a5,cm,j.sp 22 [2,3,14,4,5,6,7,8,9,10,11,12,13,15,16,17,18,19,20,0,21]⟩
 ·rintro hm bo _ w ⟨ei,ej,O,rfl,j⟩
  refine RC.sr (ic ((p1.bE.length:Int)) ((p1.bE.length:Int)) (RL.nq (RC.cP mz (RC.ex ?_))))
  exact⟨rfl,ei,ej,j.sp 21 [0,1,2,3,4,5,6,7,8,9,10,11,12,13,14,15,16,17,18,19,20]⟩
 ·rintro hm b7 bo s' _ w hk ⟨c2,dj,O,rfl,j⟩ hb
  refine RC.sr (ic ((b7:Int)) ((p1.bE.length:Int)) (RL.nq (RC.cO (my hk) (RC.ss (RC.bs ?_)))))
  obtain⟨b1,ek,hb⟩:=bd hb
  refine RL.cA 19 j Dm ek fun fw j=>(RL.bC 0 b1 j A0 fun fx j=>(RL.alloc j Iv.z fun fy w j=>?_))
  refine RL.bD 0 j 1 zr A0 fun w j=>?_
  refine RL.ns (mv (vp aj 0) (RL.aN (f:=(fun x=>x)) 0 j zr Fd.self A0 fun el j=>?_))
  have j:=(((((j.dup 6 rfl).dup 11 rfl).dup 11 rfl).dup 11 rfl).dup 11 rfl).pull 10
  obtain⟨cp,en,hb⟩:=bd hb
  refine RL.call zt zr Nk [(vp aj 0),el] zr (aF (sZ N (i1:=0) j zr en) ?_)
  rintro cq w j
  refine aM cq (RL.ns (mv cq (RL.eO 0 cp j rJ (ic ((cp.length:Int)) 0 (RL.nt ?_)))))
  obtain⟨c3,hj,hb⟩:=bd hb
  refine RC.jn (fun(c3: (List dC)) U w=>∃cr:Value,SH E V [(5,vp ai 0),(8,vp aj 0),(10,vp ag 0),(13,cr),(15,(.slice none 0 0)),(92,b6),(93,vi p1.bE.length),(94,vi b7)] [bx 32 ai p2,bc 71 aj [ao,aq,ar,au,av,aw,ax,ak,ay,a0,c2,a1],rd ao o.1,rd aq o.2.1,rd ar o.2.2.1,rd au o.2.2.2.1,own 113 av o.2.2.2.2.1,rd aw o.2.2.2.2.2.1,rd ax o.2.2.2.2.2.2.1,own 73 ak o.2.2.2.2.2.2.2.1,rd ay o.2.2.2.2.2.2.2.2.1,rd a0 o.2.2.2.2.2.2.2.2.2.1,rd c2 bo.1,own 179 a1 o.2.2.2.2.2.2.2.2.2.2.2,bc 56 ag [af,ae,ad,ab],rd af p1.cJ,rd ae p1.bE,mp ad a7,mp ab a3,rd b6 p1.bE,own 43 cr c3] U w) c3 ?_ ?_
  ·refine eH hj (fun hc hj=>?_) fun hc hj=>?_
   rotate_left
   ·refine RC.skip ?_
    obtain rfl:=oi hj
    exact⟨rfl,dj,j.sp 27 [6,1,9,10,11,12,13,14,15,16,17,18,8,19,20,21,22,23,24,25,26]⟩
   refine RC.region (mv dj (RL.bH zr wJ (RL.aP 3 j zr pW pQ ?_)))
   have j:=j.sc bR b1.Name
   refine RL.eF ([b1.Name]: (List bR)) j [(str b1.Name)] GS Ob (fun M hs g=>⟨(g.sat 0 _ zr).1,zt⟩) fun eo w j=>(mv cq ?_)
   have j:=((j.sc Int 2).freeze 1).freeze 3
   refine RL.build (⟨2,([b1.Name]: (List bR)),cp⟩:dC) trivial rfl j [(0,vi 2),(1,eo),(2,cq)] rfl IE rfl (fun M hs g=>by have h:=xX M;exact cZ.cons (f:=fun(x:dC) y=>{x with Kind:=y}) h qR (g.sat 0 _ rfl).1 fun _ h=>cZ.cons (f:=fun(x:dC) y=>{x with bE:=y}) h yt (g.sat 1 _ rfl).1 fun _ h=>cZ.cons (f:=fun(x:dC) y=>{x with aS:=y}) h qS (g.sat 3 _ rfl).1 fun _ h=>cZ.nil h) fun ep j=>?_
   refine RL.eF ([(⟨2,([b1.Name]: (List bR)),cp⟩:dC)]: (List dC)) j [ep] Hb IF (fun M hs g=>⟨(g.sat 0 _ zr).1,zt⟩) fun fz w j=>?_
   have j:=j.freeze 0
   obtain⟨f0,er,hj⟩:=bd hj
   refine RL.app 31 0 j IG er fun dk w j=>?_
   refine aM dk (RL.nil ?_)
   obtain rfl:=oi hj
   exact⟨rfl,dk,j.sp 32 [11,6,14,15,16,17,18,19,20,21,22,23,13,24,25,26,27,28,29,30,31]⟩
  rintro _ w ⟨cr,O,rfl,j⟩
  refine bO (aG (RC.region (RL.inc hk hm (mv (vi ((b7+1:Nat):Int)) (RL.nil ?_)))))
  obtain rfl:=oi hb
  exact⟨rfl,c2,cr,j.sp 21 [0,1,12,2,3,4,5,6,7,8,9,10,11,13,14,15,16,17,18,19,20]⟩
 rintro _ w ⟨c1,cn,O,rfl,j⟩
 refine aG (RC.seq (RC.sr (mv (vp aj 0) (RL.nilCheck zr (RL.bH zr uL (RL.bV 1 ak j Dw (RL.eO 10 o.2.2.2.2.2.2.2.1 j J3 (mv (vi 0) ?_))))))))
 refine RL.nt ?_
 obtain⟨bp,hN,hb⟩:=bd hb
 refine RC.fold (fun(b8:Nat) (bp: (List dC)) U w=>∃dm:Value,SH E V [(5,vp ai 0),(10,vp ag 0),(13,dm),(15,(.slice none 0 0)),(116,ak),(117,vi o.2.2.2.2.2.2.2.1.length),(118,vi b8)] [bx 32 ai p2,bc 56 ag [af,ae,ad,ab],rd af p1.cJ,rd ae p1.bE,mp ad a7,mp ab a3,own 73 ak o.2.2.2.2.2.2.2.1,own 43 dm bp] U w) (fun(bp: (List dC)) U w=>∃bk:Value,SH E V [(5,vp ai 0),(10,vp ag 0),(13,bk),(15,(.slice none 0 0))] [bx 32 ai p2,bc 56 ag [af,ae,ad,ab],rd af p1.cJ,rd ae p1.bE,mp ad a7,mp ab a3,own 73 ak o.2.2.2.2.2.2.2.1,own 43 bk bp] U w) hN ?_ ?_ ?_ ?_
 ·exact⟨cn,j.sp 21 [0,14,15,16,17,18,10,20]⟩
 ·rintro hm bp _ w ⟨et,O,rfl,j⟩
  refine RC.sr (ic ((o.2.2.2.2.2.2.2.1.length:Int)) ((o.2.2.2.2.2.2.2.1.length:Int)) (RL.nq (RC.cP mz (RC.ex ?_))))
  exact⟨rfl,et,j.sp 8 [0,1,2,3,4,5,6,7]⟩
 ·rintro hm b8 bp s' _ w hk ⟨dn,O,rfl,j⟩ hb
  refine RC.sr (ic ((b8:Int)) ((o.2.2.2.2.2.2.2.1.length:Int)) (RL.nq (RC.cO (my hk) (RC.ss (RC.bs ?_)))))
  obtain⟨f1,c4,hb⟩:=bd hb
  refine RL.bY 6 j zr zr IB c4 (RL.kh (f:=(fun x=>x)) 6 j (kC 6 j c4 0) (bG c4).2.1 Fd.self IA fun f2 j=>?_)
  refine RL.alloc j Lg.z fun f3 w j=>?_
  refine RL.bD 0 j 1 zr IA fun w j=>?_
  refine RL.ns (RL.yi 3 [af,ae,ad,ab] zr j zr zr J4 zr (RL.aN (f:=(fun x=>x)) 0 j zr Fd.self IA fun eu j=>?_))
  have j:=(j.pull 8).pull 8
  obtain⟨bt,ev,hb⟩:=bd hb
  refine RL.call zt zr Nq [(.agg ([af,ae,ad,ab]:List Value).toArray),eu] zr (aF (qZ N (i0_0:=5) (i0_1:=6) (i1:=0) j zr zr zr ev) ?_)
  rintro _ w ⟨b9,ca,rfl,j⟩
  refine mv (.tuple #[b9,ca,(vb bt.2.2)]) (RL.extract b9 (RL.extract ca (RL.extract (vb bt.2.2) (aM b9 (aM ca (aM (vb bt.2.2) (RL.ns (mv (vb bt.2.2) ?_))))))))
  refine RL.nt ?_
  obtain⟨c5,hj,hb⟩:=bd hb
  refine RC.jn (fun(c5: (List dC)) U w=>∃ct:Value,SH E V [(5,vp ai 0),(10,vp ag 0),(13,ct),(15,(.slice none 0 0)),(116,ak),(117,vi o.2.2.2.2.2.2.2.1.length),(118,vi b8)] [bx 32 ai p2,bc 56 ag [af,ae,ad,ab],rd af p1.cJ,rd ae p1.bE,mp ad a7,mp ab a3,own 73 ak o.2.2.2.2.2.2.2.1,own 43 ct c5] U w) c5 ?_ ?_
  ·refine eH hj (fun hc hj=>?_) fun hc hj=>?_
   rotate_left
   ·refine RC.skip ?_
    obtain rfl:=oi hj
    exact⟨rfl,dn,j.sp 15 [7,8,9,10,2,3,13,14]⟩
   refine RC.region (mv dn (mv b9 (mv ca ?_)))
   have j:=((j.sc Int 3).freeze 1).freeze 2
   refine RL.build (⟨3,bt.1,bt.2.1⟩:dC) trivial rfl j [(0,vi 3),(1,b9),(2,ca)] rfl IE rfl (fun M hs g=>by have h:=xX M;exact cZ.cons (f:=fun(x:dC) y=>{x with Kind:=y}) h qR (g.sat 0 _ rfl).1 fun _ h=>cZ.cons (f:=fun(x:dC) y=>{x with bE:=y}) h yt (g.sat 1 _ rfl).1 fun _ h=>cZ.cons (f:=fun(x:dC) y=>{x with aS:=y}) h qS (g.sat 2 _ rfl).1 fun _ h=>cZ.nil h) fun ew j=>?_
   refine RL.eF ([(⟨3,bt.1,bt.2.1⟩:dC)]: (List dC)) j [ew] Hb IF (fun M hs g=>⟨(g.sat 0 _ zr).1,zt⟩) fun f4 w j=>?_
   have j:=j.freeze 0
   obtain⟨f5,ey,hj⟩:=bd hj
   refine RL.app 17 0 j IG ey fun dp w j=>?_
   refine aM dp (RL.nil ?_)
   obtain rfl:=oi hj
   exact⟨rfl,dp,j.sp 18 [10,11,12,13,5,6,16,17]⟩
  rintro _ w ⟨ct,O,rfl,j⟩
  refine bO (aG (RC.region (RL.inc hk hm (mv (vi ((b8+1:Nat):Int)) (RL.nil ?_)))))
  obtain rfl:=oi hb
  exact⟨rfl,ct,j.sp 8 [0,1,2,3,4,5,6,7]⟩
 rintro _ w ⟨bk,O,rfl,j⟩
 refine aG (RC.seq (RC.sr (RL.bH zr wN (RL.aN 0 j zr p6 Fj fun cb j=>(RL.bF 0 p2.bM j GY (mv (vi 0) (RL.nt ?_)))))))
 obtain⟨bm,hN,hb⟩:=bd hb
 refine RC.fold (fun(cc:Nat) (bm: (List aX)) U w=>∃dq:Value,SH E V [(10,vp ag 0),(13,bk),(15,dq),(138,cb),(139,vi p2.bM.length),(140,vi cc)] [bc 56 ag [af,ae,ad,ab],rd af p1.cJ,rd ae p1.bE,mp ad a7,mp ab a3,own 43 bk bp,rd cb p2.bM,own 34 dq bm] U w) (fun(bm: (List aX)) U w=>∃b2:Value,SH E V [(13,bk),(15,b2)] [bc 56 ag [af,ae,ad,ab],rd af p1.cJ,rd ae p1.bE,mp ad a7,mp ab a3,own 43 bk bp,rd cb p2.bM,own 34 b2 bm] U w) hN ?_ ?_ ?_ ?_
 ·have j:=j.cW aX 34
  exact⟨(.slice none 0 0),j.sp 10 [3,4,5,6,7,9,1,0]⟩
 ·rintro hm bm _ w ⟨ez,O,rfl,j⟩
  refine RC.sr (ic ((p2.bM.length:Int)) ((p2.bM.length:Int)) (RL.nq (RC.cP mz (RC.ex ?_))))
  exact⟨rfl,ez,j.sp 8 [0,1,2,3,4,5,6,7]⟩
 ·rintro hm cc bm s' _ w hk ⟨dr,O,rfl,j⟩ hb
  refine RC.sr (ic ((cc:Int)) ((p2.bM.length:Int)) (RL.nq (RC.cO (my hk) (RC.ss (RC.bs ?_)))))
  obtain⟨e1,e3,hb⟩:=bd hb
  refine RL.cA 6 j Fk e3 fun f6 j=>(RL.bC 0 e1 j uK fun f7 j=>(RL.alloc j JW.z fun f8 w j=>?_))
  refine RL.bD 0 j 1 zr uK fun w j=>?_
  refine RL.nq ?_
  have j:=j.drew
  refine RC.E6 (fun w=>Holds E w ([bc 56 ag [af,ae,ad,ab]]++V)) mixed zr [1,0,2,2,0] [0,1,2,3,4] (j.pk 11 [3]) (DP.Je (.agg ([af,ae,ad,ab]:List Value).toArray) zr (fun w j=>RL.yi 0 [af,ae,ad,ab] zr j zr zr J4 zr DP.d1) (DP.e0 zr (RL.aN (f:=(fun x=>x)) 0 j zr Fd.self uK fun e4 j=>(xt zr ?_))))
  obtain⟨f9,e5,hb⟩:=bd hb
  refine RL.call zt zr Fm [e4] zr (aF (jr N (i0:=0) j zr e5) ?_)
  rintro e6 w j
  refine DP.d2 (j.pk 13 [5]) (DP.e2 zr ?_)
  have j:=(j.pull 9).pull 9
  obtain⟨e7,e8,hb⟩:=bd hb
  refine RL.call zt zr Nr [(.agg ([af,ae,ad,ab]:List Value).toArray),e6] zr (aF (rV N (i0_0:=6) (i0_1:=7) (i1:=0) j zr zr zr e8) ?_)
  rintro _ w ⟨rfl,j⟩
  refine DP.d2 (j.pk 15 [7]) (DP.e0 zr (RL.not e7 (DP.d0 (DP.z (aG ?_)))))
  obtain⟨c6,hj,hb⟩:=bd hb
  refine RC.jn (fun(c6: (List aX)) U w=>∃cu:Value,SH E V [(10,vp ag 0),(13,bk),(15,cu),(138,cb),(139,vi p2.bM.length),(140,vi cc)] [bc 56 ag [af,ae,ad,ab],rd af p1.cJ,rd ae p1.bE,mp ad a7,mp ab a3,own 43 bk bp,rd cb p2.bM,own 34 cu c6] U w) c6 ?_ ?_
  ·refine eH hj (fun hc hj=>?_) fun hc hj=>?_
   rotate_left
   ·refine RC.skip ?_
    obtain rfl:=oi hj
    exact⟨rfl,dr,j.sp 15 [7,8,9,0,1,12,13,14]⟩
   refine RC.region (mv dr (RL.aN (f:=(fun x=>x)) 4 j zr Fd.self uK fun e9 j=>?_))
   obtain⟨fa,fb,hj⟩:=bd hj
   refine RL.call zt zr Fm [e9] zr (aF (jr N (i0:=0) j zr fb) ?_)
   rintro fc w j
   refine RL.eF ([fa]: (List aX)) j [fc] qU sA (fun M hs g=>⟨(g.sat 0 _ zr).1,zt⟩) fun ga w j=>?_
   have j:=j.freeze 0
   obtain⟨gb,fe,hj⟩:=bd hj
   refine RL.app 17 0 j zK fe fun ds w j=>?_
   refine aM ds (RL.nil ?_)
   obtain rfl:=oi hj
   exact⟨rfl,ds,j.sp 18 [10,11,12,3,4,15,16,17]⟩
  rintro _ w ⟨cu,O,rfl,j⟩
  refine bO (aG (RC.region (RL.inc hk hm (mv (vi ((cc+1:Nat):Int)) (RL.nil ?_)))))
  obtain rfl:=oi hb
  exact⟨rfl,cu,j.sp 8 [0,1,2,3,4,5,6,7]⟩
 rintro _ w ⟨b2,O,rfl,j⟩
 refine aG (RC.seq (RC.sr (mv b2 (RL.eO 7 bm j rJ (ic ((bm.length:Int)) 0 (RL.nt ?_))))))
 obtain⟨c7,hj,hb⟩:=bd hb
 refine RC.jn (fun(c7: (List dC)) U w=>∃b3:Value,SH E V [(13,b3)] [own 43 b3 c7] U w) c7 ?_ ?_
 ·refine eH hj (fun hc hj=>?_) fun hc hj=>?_
  rotate_left
  ·refine RC.skip ?_
   obtain rfl:=oi hj
   exact⟨rfl,bk,j.sp 8 [5]⟩
  refine RC.region (mv bk (mv b2 ?_))
  have j:=(j.sc Int 4).freeze 8
  refine RL.build (⟨4,[],bm⟩:dC) trivial rfl j [(0,vi 4),(2,b2)] rfl IE rfl (fun M hs g=>by have h:=xX M;exact cZ.cons (f:=fun(x:dC) y=>{x with Kind:=y}) h qR (g.sat 0 _ rfl).1 fun _ h=>cZ.cons (f:=fun(x:dC) y=>{x with aS:=y}) h qS (g.sat 8 _ rfl).1 fun _ h=>cZ.nil h) fun ff j=>?_
  refine RL.eF ([(⟨4,[],bm⟩:dC)]: (List dC)) j [ff] Hb IF (fun M hs g=>⟨(g.sat 0 _ zr).1,zt⟩) fun gd w j=>?_
  have j:=j.freeze 0
  obtain⟨gf,fg,hj⟩:=bd hj
  refine RL.app 8 0 j IG fg fun dt w j=>?_
  refine aM dt (RL.nil ?_)
  obtain rfl:=oi hj
  exact⟨rfl,dt,j.sp 11 [8]⟩
 rintro _ w ⟨b3,O,rfl,j⟩
 refine aG (RC.sr (mv b3 (aM b3 (aM (vi 0) (RL.nt (RC.ret ?_))))))
 obtain rfl:=oi hb
 exact oz ⟨b3,zr,j.pk 1 [0]⟩
theorem iQ {res:Bool} (j:Holds E w V) (hb:dL N=some res):
    Calls bB 5 [].toArray w (gr (bA E V res)):=by
 unfold dL at hb
 refine enter Tryz.func5 zr zr (RC.sr (aM (vb false) (RL.ns ?_)))
 have j:=j.sc Int 2
 refine RL.build (⟨⟨0,0⟩,2,0,0,false⟩:cN) trivial rfl j [(1,vi 2)] rfl Ns rfl (fun M hs g=>by have h:=JP M;exact cZ.cons (f:=fun(x:cN) y=>{x with eR:=y}) h E8 (g.sat 0 _ rfl).1 fun _ h=>cZ.nil h) fun ag j=>?_
 obtain⟨o,ah,hb⟩:=bd hb
 refine RL.call zt zr KY [ag] zr (aF (qj N (i0:=0) j zr ah) ?_)
 rintro _ w ⟨af,rfl,j⟩
 refine mv (.tuple #[af,(vi o.2)]) (RL.extract af (RL.extract (vi o.2) (RL.alloc j pH.z fun ai w j=>?_)))
 refine RL.bD 0 j 1 zr jf fun w j=>?_
 refine aM (vi o.2) (RL.nq ?_)
 obtain⟨ae,hj,hb⟩:=bd hb
 refine RC.jn (fun(ae:Bool)=>SH E V [(0,vb ae)] []) ae ?_ ?_
 ·refine RC.region (mv (vi o.2) (ic o.2 0 (mv (vb (o.2==0)) (gZ hj (fun aa hj=>?_) fun aa hj=>?_))))
  rotate_left
  ·refine bZ aa (bZ aa (bZ aa (g9 aa (vb false) (aM (vb false) (RL.nil ?_)))))
   obtain rfl:=oi hj
   exact⟨rfl,j.sp 4 []⟩
  refine RL.aN (hg:=(cg aa)) (f:=(fun x=>x)) 0 j zr Fd.self jf fun aj j=>?_
  have j:=(((j.sc Int (-1)).sc Int (-1)).sc Int 1).sc Int 1
  refine RL.build (⟨(-1),(-1),1,1⟩:aJ) (cg aa) rfl j [(0,(vi (-1))),(1,(vi (-1))),(2,vi 1),(3,vi 1)] rfl Fg rfl (fun M hs g=>by have h:=uI M;exact cZ.cons (f:=fun(x:aJ) y=>{x with X0:=y}) h pX (g.sat 3 _ rfl).1 fun _ h=>cZ.cons (f:=fun(x:aJ) y=>{x with Y0:=y}) h tD (g.sat 2 _ rfl).1 fun _ h=>cZ.cons (f:=fun(x:aJ) y=>{x with X1:=y}) h pY (g.sat 1 _ rfl).1 fun _ h=>cZ.cons (f:=fun(x:aJ) y=>{x with Y1:=y}) h tE (g.sat 0 _ rfl).1 fun _ h=>cZ.nil h) fun ak j=>?_
  refine RL.seq 5 0 o.1 (⟨(-1),(-1),1,1⟩:aJ) (cg aa) zr j zr zr zr zr Jl zr (g9 aa (vb (decide (o.1= (⟨(-1),(-1),1,1⟩:aJ)))) (aM (vb (decide (o.1= (⟨(-1),(-1),1,1⟩:aJ)))) (RL.nil ?_)))
  obtain rfl:=oi hj
  exact⟨rfl,j.sp 10 []⟩
 rintro _ w ⟨O,rfl,j⟩
 refine aG (RC.ret ?_)
 obtain rfl:=oi hb
 exact bU ⟨rfl,j.drop 0⟩
end Go.Gk
namespace Go.Gk
open Go Go.Proofs
variable (N:Nat) {E w:World} {i0 i1 i2:Nat} {v0 v1 v2:Value} {V:List HP}
def xO (E:World) (V:List HP) (res:bR×Bool×Int) (v:Value) (w:World):Prop:=v = .tuple #[(str res.1),(vb res.2.1),(vi res.2.2)]/\Holds E w V
theorem qm {p0: (List aL)} {p1:bK} {p2:aX} {res:bR×Bool×Int} (j:Holds E w V) (h0:V[i0]? =some (rd v0 p0)) (h1:V[i1]? =some (rd v1 p1)) (h2:V[i2]? =some (rd v2 p2)) (o:kG N p0 p1 p2=some res):
    Calls bB 6 [v0,v1,v2].toArray w (gr (xO E V res)):=by
 unfold kG at o
 refine enter Tryz.func6 zr zr ?_
 have j:=((j.dup (i0+0) h0).dup (i1+1) h1).dup (i2+2) h2
 refine RC.sr (RL.cQ 1 v1 j zr fun aq w j=>?_)
 have j:=j.hZ (i:=0) rfl
 refine RL.cQ 1 v2 j zr fun ar w j=>?_
 have j:=j.hZ (i:=0) rfl
 refine aM (str ⟨[]⟩) (aM (vb false) (aM (vi 0) (RL.nq (RC.sr (mv v0 (RL.bC 1 p1 j yv fun af j=>?_))))))
 obtain⟨ab,ag,o⟩:=bd o
 refine RL.call zt zr KL [v0,af] zr (aF (nE N (i0:=5) (i1:=0) j zr zr ag) ?_)
 rintro _ w ⟨rfl,j⟩
 refine aM (vi ab) (RL.ns (mv (vi ab) (ic ab 0 (RL.nt (eH o (fun hc o=>?_) fun hc o=>?_)))))
 ·refine RC.sr (mv (vi ab) (aM (str ⟨[]⟩) (aM (vb false) (aM (vi ab) (RL.nt (RC.rt ?_))))))
  obtain rfl:=oi o
  exact ya ⟨rfl,j.drop 6⟩
 refine RC.ss (RC.sr (mv v0 (RL.fB 2 j zr AZ mG fun au j=>(RL.bC 0 p1.cJ j It fun ah j=>(RL.bC 3 p2 j gT fun ai j=>?_)))))
 obtain⟨aj,ak,o⟩:=bd o
 refine RL.call zt zr KK [v0,ah,ai] zr (aF (po N (i0:=8) (i1:=1) (i2:=0) j zr zr zr ak) ?_)
 rintro _ w ⟨rfl,j⟩
 refine RL.not aj (RL.nt (eH o (fun hc o=>?_) fun hc o=>?_))
 ·refine RC.sr (aM (str ⟨[]⟩) (aM (vb false) (aM (vi 9) (RL.nt (RC.rt ?_)))))
  obtain rfl:=oi o
  exact ya ⟨rfl,j.drop 9⟩
 refine RC.ss (RC.Cg mixed [0,2,1,0,0,0,0,0,0] [0,2,1,3,4,5,6,7,8] ?_)
 have j:=j.drew
 refine DP.e0 zr (RL.bC 5 p1 j yv fun al j=>(DP.d0 (DP.AU p2 5 zr zt j gT fun av a41 aw j=>(DP.e2 zr ?_))))
 obtain⟨aa,an,o⟩:=bd o
 refine RL.call zt zr M6 [al] zr (aF (nQ N (i0:=2) j zr an) ?_)
 rintro ax w j
 refine DP.d2 (⟨zt,j.m5 1⟩) (DP.e0 zr (RL.pS 0 p2 j (nM 2 j) Ha (dA zr (mv (.tuple #[(vi (dH aa p2 (0:Int))),(vb (fR aa p2))]) (dA zr (RL.extract (vi (dH aa p2 (0:Int))) (dA zr (RL.extract (vb (fR aa p2)) ?_))))))))
 refine dA zr (aM (vi (dH aa p2 (0:Int))) (dA zr (aM (vb (fR aa p2)) (DP.d0 ?_))))
 have j:=j.pl 13 [0,2,3,4,5,6,7,8,9,10,11,12]
 refine DP.z (aG (RC.seq (RC.sr (mv (vb (fR aa p2)) (RL.not (fR aa p2) (RL.nt (eH o (fun hc o=>?_) fun hc o=>?_)))))))
 ·refine RC.sr (aM (str ⟨[]⟩) (aM (vb false) (aM (vi 0) (RL.nt (RC.rt ?_)))))
  obtain rfl:=oi o
  exact ya ⟨rfl,j.drop 12⟩
 refine RC.sx (RL.fB 8 j zr sw jE fun ay j=>(RL.bC 0 p1.bE j Cn fun az j=>(mv (vi (dH aa p2 (0:Int))) ?_)))
 obtain⟨ae,ao,o⟩:=bd o
 refine RL.cA 0 j Dm ao fun a0 j=>(RL.fB 0 j zr wJ pW fun a1 j=>(RL.bQ ae.Name 0 j pQ (aM (str ae.Name) (aM (vb true) (aM (vi 0) (RL.nt (RC.ret ?_)))))))
 obtain rfl:=oi o
 exact ya ⟨rfl,j.drop 16⟩
def wV (E:World) (V:List HP) (res:Int×Bool×Int) (v:Value) (w:World):Prop:=v = .tuple #[(vi res.1),(vb res.2.1),(vi res.2.2)]/\Holds E w V
theorem pr {p0:kr} {p1:aX} {res:Int×Bool×Int} (j:Holds E w V) (h0:V[i0]? =some (rd v0 p0)) (h1:V[i1]? =some (rd v1 p1)) (o:jY N p0 p1=some res):
    Calls bB 7 [v0,v1].toArray w (gr (wV E V res)):=by
 unfold jY at o
 refine enter Tryz.func7 zr zr ?_
 have j:=(j.dup (i0+0) h0).dup (i1+1) h1
 refine RC.sr (RL.cQ 1 v0 j zr fun ay w j=>?_)
 refine RL.cQ 1 v1 j zr fun az w j=>?_
 refine aM (vi 0) (aM (vb false) (aM (vi 0) (RL.ns (RL.aN (f:=(fun x=>x)) 1 j zr Fd.self wI fun ak j=>?_))))
 obtain⟨aa,al,o⟩:=bd o
 refine RL.call zt zr Lm [ak] zr (aF (sX N (i0:=0) j zr al) ?_)
 rintro _ w hK50
 rcases af:aa.1 with _ | a0
 ·replace o:=JH af o
  obtain⟨rfl,j⟩:=GB af hK50
  refine mv (.tuple #[(.pointer none),(vi aa.2)]) (RL.extract (.pointer none) (RL.extract (vi aa.2) (aM (.pointer none) (aM (vi aa.2) (RL.nq (RC.sr (mv (vi aa.2) (ic aa.2 0 ?_))))))))
  refine RL.nt (eH o (fun hc o=>?_) fun hc o=>?_)
  ·refine RC.sr (mv (vi aa.2) (aM (vi 0) (aM (vb false) (aM (vi aa.2) (RL.nt (RC.rt ?_))))))
   obtain rfl:=oi o
   exact ya ⟨rfl,j.drop 5⟩
  refine RC.sx (RL.aN (f:=(fun x=>x)) 2 j zr Fd.self wI fun an j=>(RL.aN (f:=(fun x=>x)) 2 j zr Fd.self gT fun ao j=>?_))
  obtain⟨ag,aq,o⟩:=bd o
  refine RL.call zt zr ID [an,ao] zr (aF (lN N (i0:=1) (i1:=0) j zr zr aq) ?_)
  rintro _ w ⟨rfl,j⟩
  refine aM (vi ag) (RL.nq (RC.sr (mv (vi ag) (ic ag 0 (RL.nt (eH o (fun hc o=>?_) fun hc o=>?_))))))
  rotate_left
  ·cases o
  refine RC.sr (aM (vi 0) (aM (vb false) (aM (vi 9) (RL.nt (RC.rt ?_)))))
  obtain rfl:=oi o
  exact ya ⟨rfl,j.drop 7⟩
 replace o:=JI af o
 obtain⟨ad,a1,a2,a3,a4,a5,a6,a7,a8,a9,ba,aj,bb,rfl,j⟩:=GC af hK50
 refine mv (.tuple #[(vp ad 0),(vi aa.2)]) (RL.extract (vp ad 0) (RL.extract (vi aa.2) (aM (vp ad 0) (aM (vi aa.2) (RL.nq (RC.sr (mv (vi aa.2) (ic aa.2 0 ?_))))))))
 refine RL.nt (eH o (fun hc o=>?_) fun hc o=>?_)
 ·refine RC.sr (mv (vi aa.2) (aM (vi 0) (aM (vb false) (aM (vi aa.2) (RL.nt (RC.rt ?_))))))
  obtain rfl:=oi o
  exact ya ⟨rfl,j.drop 18⟩
 refine RC.sx (RL.aN (f:=(fun x=>x)) 15 j zr Fd.self wI fun ar j=>(RL.aN (f:=(fun x=>x)) 15 j zr Fd.self gT fun au j=>?_))
 obtain⟨ae,av,o⟩:=bd o
 refine RL.call zt zr ID [ar,au] zr (aF (lN N (i0:=1) (i1:=0) j zr zr av) ?_)
 rintro _ w ⟨rfl,j⟩
 refine aM (vi ae) (RL.nq (RC.sr (mv (vi ae) (ic ae 0 (RL.nt (eH o (fun hc o=>?_) fun hc o=>?_))))))
 ·refine RC.sr (aM (vi 0) (aM (vb false) (aM (vi 9) (RL.nt (RC.rt ?_)))))
  obtain rfl:=oi o
  exact ya ⟨rfl,j.drop 20⟩
 refine RC.ss (RC.sr (mv (vp ad 0) (RL.nilCheck zr (RL.bH zr yC (RL.bV 2 aj j fU (mv (vi ae) ?_))))))
 obtain⟨aw,ah,o⟩:=bd o
 refine RL.bY 13 j zr zr fV ah (RL.dX (f:=(fun x=>x)) 13 j (kC 13 j ah 0) (bG ah).2.1 Fd.self dE (ic aw 0 (RL.nt (eH o (fun hc o=>?_) fun hc o=>?_))))
 ·refine RC.sr (aM (vi 0) (aM (vb false) (aM (vi 0) (RL.nt (RC.rt ?_)))))
  obtain rfl:=oi o
  exact ya ⟨rfl,j.drop 20⟩
 refine RC.sx (mv (vp ad 0) (RL.nilCheck zr (RL.bH zr yC (RL.bV 2 aj j fU (mv (vi ae) ?_)))))
 obtain⟨ax,ai,o⟩:=bd o
 refine RL.bY 13 j zr zr fV ai (RL.dX (f:=(fun x=>x)) 13 j (kC 13 j ai 0) (bG ai).2.1 Fd.self dE (aM (vi ax) (aM (vb true) (aM (vi 0) (RL.nt (RC.ret ?_))))))
 obtain rfl:=oi o
 exact ya ⟨rfl,j.drop 20⟩
def mW (E:World) (V:List HP) (r:Bool) (U:Nat->Value) (w:World):Prop:=mu bB 125 Tryz.f3 (bA E V r) .ret U w
theorem mM [Nd E] {V:List HP} {i0:Nat} {v0:Value} {p0: (List aL)} {i1:Nat} {v1:Value} {p1:bK} {i2:Nat} {v2:Value} {p2:kr} {i3:Nat} {v3:Value} {p3:aX} {i4:Nat} {v4:Value} {p4:aX} {res:Bool} (j:Holds E w V) (h0:V[i0]? =some (rd v0 p0)) (h1:V[i1]? =some (rd v1 p1)) (h2:V[i2]? =some (rd v2 p2)) (h3:V[i3]? =some (rd v3 p3)) (h4:V[i4]? =some (rd v4 p4)) (hb:fJ N p0 p1 p2 p3 p4=some res):
    Calls bB 3 [v0,v1,v2,v3,v4].toArray w (gr (bA E V res)):=by
 unfold fJ at hb
 refine enter Tryz.func3 zr zr ?_
 have j:=((((j.dup (i0+0) h0).dup (i1+1) h1).dup (i2+2) h2).dup (i3+3) h3).dup (i4+4) h4
 refine RC.sr (RL.cQ 3 v1 j zr fun an w j=>?_)
 refine RL.cQ 3 v2 j zr fun ao w j=>?_
 refine RL.cQ 3 v3 j zr fun aq w j=>?_
 refine RL.cQ 3 v4 j zr fun ar w j=>?_
 refine aM (vb false) (RL.ns (mv v0 (RL.aN (f:=(fun x=>x)) 3 j zr Fd.self yv fun az j=>(RL.aN (f:=(fun x=>x)) 3 j zr Fd.self wI fun a0 j=>?_))))
 obtain⟨ag,a1,hb⟩:=bd hb
 refine RL.call zt zr Oc [v0,az,a0] zr (aF (vT N (i0:=10) (i1:=1) (i2:=0) j zr zr zr a1) ?_)
 rintro _ w ⟨ai,rfl,j⟩
 refine mv (.tuple #[ai,(vi ag.2)]) (RL.extract ai (RL.extract (vi ag.2) (aM ai (aM (vi ag.2) (RL.nq (RC.sr (mv (vi ag.2) (ic ag.2 0 ?_))))))))
 refine RL.nt (eH hb (fun hc hb=>?_) fun hc hb=>?_)
 ·refine RC.seq ?_
  obtain⟨av,hj,hb⟩:=bd hb
  refine RC.jn (fun(av:Bool)=>SH E V [(10,vb av)] []) av ?_ ?_
  ·refine RC.region (mv ai (RL.eO 0 ag.1 j Lr (ic ((ag.1.length:Int)) 0 (mv (vb ((ag.1.length:Int)==0)) (gZ hj (fun ak hj=>?_) fun ak hj=>?_)))))
   rotate_left
   ·refine bZ ak (g9 ak (vb false) (aM (vb false) (RL.nil ?_)))
    obtain rfl:=oi hj
    exact⟨rfl,j.sp 12 []⟩
   obtain⟨ax,a2,hj⟩:=bd hj
   refine RL.call (cg ak) zr LV [] zr (aF (iQ N j a2) ?_)
   rintro _ w ⟨rfl,j⟩
   refine g9 ak (vb ax) (aM (vb ax) (RL.nil ?_))
   obtain rfl:=oi hj
   exact⟨rfl,j.sp 12 []⟩
  rintro _ w ⟨O,rfl,j⟩
  refine aG (RC.rt ?_)
  obtain rfl:=oi hb
  exact bU ⟨rfl,j.drop 0⟩
 refine RC.ss (RC.sr (aM (vi 0) (RL.nt ?_)))
 obtain⟨bq,hN,hb⟩:=bd hb
 refine RC.iter (fun(ah:Int)=>SH E V [(0,v0),(6,vp an 0),(7,vp ao 0),(8,vp aq 0),(9,vp ar 0),(11,ai),(13,vi ah)] [rd v0 p0,bx 26 an p1,bx 32 ao p2,bx 34 aq p3,bx 34 ar p4,own 43 ai ag.1]) (fun(ah:Int)=>SH E V [(0,v0),(6,vp an 0),(7,vp ao 0),(8,vp aq 0),(9,vp ar 0)] [rd v0 p0,bx 26 an p1,bx 32 ao p2,bx 34 aq p3,bx 34 ar p4,own 43 ai ag.1]) (mW E V) hN ?_ ?_ ?_ ?_
 ·exact j.sp 12 [11,6,5,4,3,0]
 ·rintro ah fl _ w ⟨O,rfl,j⟩ hb
  refine RC.seq (RC.sr (mv (vi ah) (mv ai (RL.eO 5 ag.1 j Lr (ic ah ((ag.1.length:Int)) (RL.nt (eH hb (fun hc hb=>?_) fun hc hb=>?_)))))))
  rotate_left
  ·refine RC.ex ?_
   obtain rfl:=oi hb
   exact⟨rfl,j.sp 6 [0,1,2,3,4,5]⟩
  refine RC.ss (RC.bs (mv ai (mv (vi ah) ?_)))
  obtain⟨a4,au,hb⟩:=bd hb
  refine RL.bY 5 j zr zr Hb au (RL.m4 (α:=dC) (kC 5 j au 0) J7 (RL.dX 5 j (kC 5 j au 0) (bG au).2.1 Dj dE (ic a4.Kind 4 (RL.nt (eH hb (fun hc hb=>?_) fun hc hb=>?_)))))
  rotate_left
  ·refine RC.skip (bO (aG (RC.region (mv (vi ah) (RL.jQ ah 1 (aM (vi (IntKind.wrap .i64 (ah+1))) (RL.nil ?_)))))))
   obtain rfl:=oi hb
   exact⟨rfl,j.sp 6 [0,1,2,3,4,5]⟩
  refine RC.sr ?_
  obtain⟨a5,a6,hb⟩:=bd hb
  refine RL.call zt zr LV [] zr (aF (iQ N j a6) ?_)
  rintro _ w ⟨rfl,j⟩
  refine aM (vb a5) (RL.nt (RC.rb (bN ?_)))
  obtain rfl:=oi hb
  exact⟨rfl,bU ⟨rfl,j.drop 6⟩⟩
 ·intro r U w e hK
  subst e
  refine bN ?_
  obtain rfl:=oi hb
  exact hK
 rintro ah _ w rfl ⟨O,rfl,j⟩
 rw [Fo.fW] at hb
 refine aG (RC.sr (mv v0 (RL.aN (f:=(fun x=>x)) 1 j zr Fd.self yv fun a8 j=>(RL.aN (f:=(fun x=>x)) 4 j zr Fd.self gT fun a9 j=>?_))))
 obtain⟨o,ba,hb⟩:=bd hb
 refine RL.call zt zr NW [v0,a8,a9] zr (aF (qm N (i0:=2) (i1:=1) (i2:=0) j zr zr zr ba) ?_)
 rintro _ w ⟨rfl,j⟩
 refine mv (.tuple #[(str o.1),(vb o.2.1),(vi o.2.2)]) (RL.extract (str o.1) (RL.extract (vb o.2.1) (RL.extract (vi o.2.2) (aM (str o.1) (aM (vb o.2.1) (aM (vi o.2.2) (RL.ns (mv v0 ?_))))))))
 refine RL.aN (f:=(fun x=>x)) 3 j zr Fd.self yv fun bb j=>(RL.aN (f:=(fun x=>x)) 7 j zr Fd.self gT fun bc j=>?_)
 obtain⟨aa,bf,hb⟩:=bd hb
 refine RL.call zt zr NW [v0,bb,bc] zr (aF (qm N (i0:=4) (i1:=1) (i2:=0) j zr zr zr bf) ?_)
 rintro _ w ⟨rfl,j⟩
 refine mv (.tuple #[(str aa.1),(vb aa.2.1),(vi aa.2.2)]) (RL.extract (str aa.1) (RL.extract (vb aa.2.1) (RL.extract (vi aa.2.2) (aM (str aa.1) (aM (vb aa.2.1) (aM (vi aa.2.2) (RL.ns (RL.aN (f:=(fun x=>x)) 6 j zr Fd.self wI fun bg j=>?_))))))))
 refine RL.aN (f:=(fun x=>x)) 8 j zr Fd.self gT fun bh j=>?_
 obtain⟨ad,bj,hb⟩:=bd hb
 refine RL.call zt zr NX [bg,bh] zr (aF (pr N (i0:=1) (i1:=0) j zr zr bj) ?_)
 rintro _ w ⟨rfl,j⟩
 refine mv (.tuple #[(vi ad.1),(vb ad.2.1),(vi ad.2.2)]) (RL.extract (vi ad.1) (RL.extract (vb ad.2.1) (RL.extract (vi ad.2.2) (aM (vi ad.1) (aM (vb ad.2.1) (aM (vi ad.2.2) (RL.ns (RL.aN (f:=(fun x=>x)) 8 j zr Fd.self wI fun bk j=>?_))))))))
 refine RL.aN (f:=(fun x=>x)) 11 j zr Fd.self gT fun bl j=>?_
 obtain⟨ae,bm,hb⟩:=bd hb
 refine RL.call zt zr NX [bk,bl] zr (aF (pr N (i0:=1) (i1:=0) j zr zr bm) ?_)
 rintro _ w ⟨rfl,j⟩
 refine mv (.tuple #[(vi ae.1),(vb ae.2.1),(vi ae.2.2)]) (RL.extract (vi ae.1) (RL.extract (vb ae.2.1) (RL.extract (vi ae.2.2) (aM (vi ae.1) (aM (vb ae.2.1) (aM (vi ae.2.2) (RL.nq (RC.sr ?_))))))))
 refine RL.aN (f:=(fun x=>x)) 11 j rfl Fd.self gT fun bt j=>(RL.aN (f:=(fun x=>x)) 13 j rfl Fd.self gT fun bu j=>(RL.seq 1 0 p3 p4 trivial rfl j rfl rfl rfl rfl Jh rfl (mv (vb (decide (p3=p4))) (RL.gs true (decide (p3=p4)) (vi o.2.2) rfl rfl rfl dQ (RL.gs true (decide (p3=p4)) (vb (o.2.2 != 0)) rfl rfl rfl (eM .neq .i64 o.2.2 0 rfl (fun h=>by exact(dI h:cv (true&&((decide (p3=p4))==false)) (vi o.2.2)= (vi o.2.2))) (fun _=>rfl) rfl) (RL.pick (decide (p3=p4)) (vb ((decide (p3=p4))||(o.2.2 != 0))) (nz true) (mv (vb ((decide (p3=p4))||(o.2.2 != 0))) (RL.gs true ((decide (p3=p4))||(o.2.2 != 0)) (vi aa.2.2) rfl rfl rfl dQ ?_))))))))
 refine RL.gs true ((decide (p3=p4))||(o.2.2 != 0)) (vb (aa.2.2 != 0)) rfl rfl rfl (eM .neq .i64 aa.2.2 0 rfl (fun h=>by exact(dI h:cv (true&&(((decide (p3=p4))||(o.2.2 != 0))==false)) (vi aa.2.2)= (vi aa.2.2))) (fun _=>rfl) rfl) (RL.pick ((decide (p3=p4))||(o.2.2 != 0)) (vb (((decide (p3=p4))||(o.2.2 != 0))||(aa.2.2 != 0))) (nz true) (mv (vb (((decide (p3=p4))||(o.2.2 != 0))||(aa.2.2 != 0))) (RL.gs true (((decide (p3=p4))||(o.2.2 != 0))||(aa.2.2 != 0)) (vi ad.2.2) rfl rfl rfl dQ (RL.gs true (((decide (p3=p4))||(o.2.2 != 0))||(aa.2.2 != 0)) (vb (ad.2.2 != 0)) rfl rfl rfl (eM .neq .i64 ad.2.2 0 rfl (fun h=>by exact(dI h:cv (true&&((((decide (p3=p4))||(o.2.2 != 0))||(aa.2.2 != 0))==false)) (vi ad.2.2)= (vi ad.2.2))) (fun _=>rfl) rfl) (RL.pick (((decide (p3=p4))||(o.2.2 != 0))||(aa.2.2 != 0)) (vb ((((decide (p3=p4))||(o.2.2 != 0))||(aa.2.2 != 0))||(ad.2.2 != 0))) (nz true) (mv (vb ((((decide (p3=p4))||(o.2.2 != 0))||(aa.2.2 != 0))||(ad.2.2 != 0))) (RL.gs true ((((decide (p3=p4))||(o.2.2 != 0))||(aa.2.2 != 0))||(ad.2.2 != 0)) (vi ae.2.2) rfl rfl rfl dQ (RL.gs true ((((decide (p3=p4))||(o.2.2 != 0))||(aa.2.2 != 0))||(ad.2.2 != 0)) (vb (ae.2.2 != 0)) rfl rfl rfl (eM .neq .i64 ae.2.2 0 rfl (fun h=>by exact(dI h:cv (true&&(((((decide (p3=p4))||(o.2.2 != 0))||(aa.2.2 != 0))||(ad.2.2 != 0))==false)) (vi ae.2.2)= (vi ae.2.2))) (fun _=>rfl) rfl) ?_))))))))
 refine RL.pick ((((decide (p3=p4))||(o.2.2 != 0))||(aa.2.2 != 0))||(ad.2.2 != 0)) (vb (((((decide (p3=p4))||(o.2.2 != 0))||(aa.2.2 != 0))||(ad.2.2 != 0))||(ae.2.2 != 0))) (nz true) (RL.nt (eH hb (fun hc hb=>?_) fun hc hb=>?_))
 ·refine RC.sr ?_
  obtain⟨bn,bo,hb⟩:=bd hb
  refine RL.call zt zr LV [] zr (aF (iQ N j bo) ?_)
  rintro _ w ⟨rfl,j⟩
  refine aM (vb bn) (RL.nt (RC.rt ?_))
  obtain rfl:=oi hb
  exact bU ⟨rfl,j.drop 16⟩
 refine RC.ss ?_
 obtain⟨aw,hj,hb⟩:=bd hb
 refine RC.jn (fun(aw:Bool)=>SH E V [(10,vb aw)] []) aw ?_ ?_
 ·refine RC.region (mv (vb ad.2.1) (mv (vb ad.2.1) (RL.gs true ad.2.1 (vb ae.2.1) rfl rfl rfl dQ (RL.pick ad.2.1 (vb (ad.2.1&&ae.2.1)) (kg true) (mv (vb (ad.2.1&&ae.2.1)) (RL.gs true (ad.2.1&&ae.2.1) (vi ad.1) rfl rfl rfl dQ (RL.gs true (ad.2.1&&ae.2.1) (vi ae.1) rfl rfl rfl dQ (RL.gs true (ad.2.1&&ae.2.1) (vb (ad.1==ae.1)) rfl rfl rfl (eM .eql .i64 ad.1 ae.1 rfl (fun h=>by exact(dI h:cv (true&&((ad.2.1&&ae.2.1)==true)) (vi ad.1)= (vi ad.1))) (fun h=>by exact(dI h:cv (true&&((ad.2.1&&ae.2.1)==true)) (vi ae.1)= (vi ae.1))) rfl) ?_))))))))
  refine RL.pick (ad.2.1&&ae.2.1) (vb ((ad.2.1&&ae.2.1)&&(ad.1==ae.1))) (kg true) (mv (vb o.2.1) (mv (vb o.2.1) (RL.gs true o.2.1 (vb aa.2.1) rfl rfl rfl dQ (RL.pick o.2.1 (vb (o.2.1&&aa.2.1)) (kg true) (mv (vb (o.2.1&&aa.2.1)) (RL.gs true (o.2.1&&aa.2.1) (str o.1) rfl rfl rfl dQ (RL.gs true (o.2.1&&aa.2.1) (str aa.1) rfl rfl rfl dQ (RL.gs true (o.2.1&&aa.2.1) (vb (o.1.oW aa.1)) rfl rfl rfl (Ee (bop:= .eql) o.1 aa.1 rfl (fun h=>by exact(dI h:cv (true&&((o.2.1&&aa.2.1)==true)) (str o.1)= (str o.1))) (fun h=>by exact(dI h:cv (true&&((o.2.1&&aa.2.1)==true)) (str aa.1)= (str aa.1))) rfl) ?_))))))))
  refine RL.pick (o.2.1&&aa.2.1) (vb ((o.2.1&&aa.2.1)&&(o.1.oW aa.1))) (kg true) (RL.Ie (a:=((ad.2.1&&ae.2.1)&&(ad.1==ae.1))) (b:=((o.2.1&&aa.2.1)&&(o.1.oW aa.1))) zt zr zr zr NV (mv (vb (((ad.2.1&&ae.2.1)&&(ad.1==ae.1))==((o.2.1&&aa.2.1)&&(o.1.oW aa.1)))) (gZ hj (fun al hj=>?_) fun al hj=>?_)))
  rotate_left
  ·refine bZ al (g9 al (vb false) (aM (vb false) (RL.nil ?_)))
   obtain rfl:=oi hj
   exact⟨rfl,j.sp 16 []⟩
  obtain⟨ay,bp,hj⟩:=bd hj
  refine RL.call (cg al) zr LV [] zr (aF (iQ N j bp) ?_)
  rintro _ w ⟨rfl,j⟩
  refine g9 al (vb ay) (aM (vb ay) (RL.nil ?_))
  obtain rfl:=oi hj
  exact⟨rfl,j.sp 16 []⟩
 rintro _ w ⟨O,rfl,j⟩
 refine aG (RC.ret ?_)
 obtain rfl:=oi hb
 exact bU ⟨rfl,j.drop 0⟩
end Go.Gk
