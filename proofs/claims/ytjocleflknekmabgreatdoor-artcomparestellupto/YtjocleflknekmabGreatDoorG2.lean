/-
  Printed texts: Go functions as plain functions, and that they are. No statement of the seed is proved here.
-/
import Derived.Test.YtjocleflknekmabGreatDoorG1
import Derived.Test.YtjocleflknekmabGreatDoorA2
set_option linter.unusedVariables false
set_option linter.unusedSimpArgs false
set_option linter.unusedSectionVars false
set_option maxRecDepth 100000
set_option maxHeartbeats 40000000
namespace Go.Gk
open Go Go.Proofs
variable (N:Nat) {E w:World} {i0 i1 i2:Nat} {p0 p1 p2 res:Int} {v0 v1 v2:Value} {V:List HP}
theorem po {p0: (List aL)} {p1: (List Part)} {p2:aX} {res:Bool} (j:Holds E w V) (h0:V[i0]? =some (rd v0 p0)) (h1:V[i1]? =some (rd v1 p1)) (h2:V[i2]? =some (rd v2 p2)) (hb:kZ N p0 p1 p2=some res):
    Calls bB 20 [v0,v1,v2].toArray w (gr (bA E V res)):=by
 unfold kZ at hb
 refine enter Tryz.func20 zr zr ?_
 have j:=((j.dup (i0+0) h0).dup (i1+1) h1).dup (i2+2) h2
 refine RC.sr (RL.cQ 0 v2 j zr fun ah w j=>?_)
 refine aM (vb false) (RL.ns (mv v1 (RL.bH zr Dn (RL.aP 0 j zr yp pQ ?_))))
 obtain⟨ad,ai,hb⟩:=bd hb
 refine RL.call zt zr Ms [v1,(str p2.Part)] zr (aF (vK N (p1:=p2.Part) (i0:=2) j zr ai) ?_)
 rintro _ w ⟨rfl,j⟩
 refine aM (vi ad) (RL.nq ?_)
 obtain⟨ae,hj,hb⟩:=bd hb
 refine RC.jn (fun(ae:Bool)=>SH E V [(6,vb ae)] []) ae ?_ ?_
 ·have j:=j.drew
  refine RC.E6 (fun w=>Holds E w ([bx 34 ah p2]++V)) mixed zr [0,0,0,1,0,0,0,0,0,0,2,0,0,1,1,2,0,0,0] [0,1,2,3,4,5,6,7,8,9,13,14,10,11,12,15,16,17,18] (j.pk 4 [0]) (DP.e0 zr (mv (vi ad) (dA zr (ic ad 0 (dA zr (mv (vb (decide (ad>=0))) (DP.d0 (gZ hj (fun o hj=>?_) fun o hj=>?_))))))))
  rotate_left
  ·refine DP.e1 undef zr (fun w=>bZ o DP.d1) (DP.e0 zr (bZ o (dA zr (bZ o (dA zr (bZ o (dA zr (bZ o ?_))))))))
   refine dA zr (bZ o (dA zr (bZ o (DP.d0 (DP.e1 undef zr (fun w=>bZ o DP.d1) (DP.e1 undef zr (fun w=>bZ o DP.d1) (DP.e2 zr (bZ o ?_))))))))
   refine DP.d2 (j.pk 4 [0]) (DP.e0 zr (bZ o (dA zr (bZ o (xt zr (bZ o (DP.d2 (j.pk 4 [0]) (DP.e0 zr ?_))))))))
   refine bZ o (dA zr (g9 o (vb false) (dA zr (aM (vb false) (DP.d0 (DP.z ?_))))))
   obtain rfl:=oi hj
   exact⟨rfl,j.sp 4 []⟩
  refine DP.e1 v0 zr (fun w=>RL.move v0 (cg o) DP.d1) (DP.e0 zr (RL.move v0 (cg o) (dA zr (RL.move v1 (cg o) (dA zr (RL.move (vi ad) (cg o) (dA zr ?_)))))))
  obtain⟨af,aj,hj⟩:=bd hj
  refine RL.cA (hg:=(cg o)) 2 j Fa aj fun ar j=>(dA zr (RL.fB (hg:=(cg o)) 0 j zr Dl wC fun au j=>(dA zr (RL.bQ (hg:=(cg o)) af.ju 0 j pQ (DP.d0 (DP.e1 (vp ah 1) zr (fun w=>RL.bH (hg:=(cg o)) zr Dp DP.d1) (DP.Je (str p2.aX) zr (fun w j=>RL.aP (hg:=(cg o)) 0 j zr yq pQ DP.d1) (DP.e2 zr ?_))))))))
  obtain⟨av,ak,hj⟩:=bd hj
  refine RL.call (cg o) zr JS [v0,(str af.ju)] zr (aF (mI N (p1:=af.ju) (i0:=5) j zr ak) ?_)
  rintro _ w ⟨rfl,j⟩
  refine DP.d2 (j.pk 6 [2]) (DP.e0 zr ?_)
  obtain⟨al,an,hj⟩:=bd hj
  refine RL.cA (hg:=(cg o)) 5 j E9 an fun aw j=>(dA zr (RL.bC (hg:=(cg o)) 0 al j Cl fun ao j=>(xt zr ?_)))
  obtain⟨ag,aq,hj⟩:=bd hj
  refine RL.call (cg o) zr Mv [ao,(str p2.aX)] zr (aF (wS N (p1:=p2.aX) (i0:=0) j zr aq) ?_)
  rintro _ w ⟨rfl,j⟩
  refine DP.d2 (j.pk 8 [4]) (DP.e0 zr (RL.kI ag 0 (cg o) (dA zr (g9 o (vb (decide (ag>=0))) (dA zr (aM (vb (decide (ag>=0))) (DP.d0 (DP.z ?_))))))))
  obtain rfl:=oi hj
  exact⟨rfl,j.sp 8 []⟩
 rintro _ w ⟨O,rfl,j⟩
 refine aG (RC.ret ?_)
 obtain rfl:=oi hb
 exact bU ⟨rfl,j.drop 0⟩
theorem qe {p0:aX} {p1: (List aL)} {p2:bK} {res:Bool} (j:Holds E w V) (h0:V[i0]? =some (rd v0 p0)) (h1:V[i1]? =some (pt v1 p1)) (h2:V[i2]? =some (pt v2 p2)) (o:jy N p0 p1 p2=some res):
    Calls bB 40 [v0,v1,v2].toArray w (gr (bA E V res)):=by
 unfold jy at o
 refine enter Tryz.func40 zr zr ?_
 have j:=((j.dup (i0+0) h0).uC (i:=i1+1) h1).uC (i:=i2+2) h2
 refine RC.sr (RL.cQ 2 v0 j zr fun ag w j=>?_)
 refine aM (vb false) (RL.ns (RL.bC 2 p1 j JQ fun aa j=>(RL.fB 2 j zr AZ mG fun ah j=>(RL.bC 0 p2.cJ j It fun ab j=>(RL.aN (f:=(fun x=>x)) 3 j zr Fd.self gT fun ad j=>?_)))))
 obtain⟨ae,af,o⟩:=bd o
 refine RL.call zt zr KK [aa,ab,ad] zr (aF (po N (i0:=3) (i1:=1) (i2:=0) j zr zr zr af) ?_)
 rintro _ w ⟨rfl,j⟩
 refine aM (vb ae) (RL.nt (RC.ret ?_))
 obtain rfl:=oi o
 exact bU ⟨rfl,j.drop 8⟩
theorem iP {p0 p1:aX} (j:Holds E w V) (h0:V[i0]? =some (rd v0 p0)) (h1:V[i1]? =some (rd v1 p1)) (o:dB N p0 p1=some res):
    Calls bB 13 [v0,v1].toArray w (gr (aH E V res)):=by
 unfold dB at o
 refine enter Tryz.func13 zr zr ?_
 have j:=(j.dup (i0+0) h0).dup (i1+1) h1
 refine RC.sr (RL.cQ 1 v0 j zr fun ag w j=>?_)
 refine RL.cQ 1 v1 j zr fun ah w j=>?_
 refine aM (vi 0) (RL.nq (RC.sr (RL.bH zr Dn (RL.aP 1 j zr yp pQ (RL.bH zr Dn (RL.aP 0 j zr yp pQ ?_))))))
 obtain⟨aa,ab,o⟩:=bd o
 refine RL.call zt zr GR [(str p0.Part),(str p1.Part)] zr (aF (jg N (p0:=p0.Part) (p1:=p1.Part) j ab) ?_)
 rintro _ w ⟨rfl,j⟩
 refine aM (vi aa) (RL.ns (mv (vi aa) (ic aa 0 (RL.nt (eH o (fun hc o=>?_) fun hc o=>?_)))))
 ·refine RC.sr (mv (vi aa) (aM (vi aa) (RL.nt (RC.rt ?_))))
  obtain rfl:=oi o
  exact bU ⟨rfl,j.drop 4⟩
 refine RC.sx (RL.bH zr Dp (RL.aP 1 j zr yq pQ (RL.bH zr Dp (RL.aP 0 j zr yq pQ ?_))))
 obtain⟨ae,af,o⟩:=bd o
 refine RL.call zt zr GR [(str p0.aX),(str p1.aX)] zr (aF (jg N (p0:=p0.aX) (p1:=p1.aX) j af) ?_)
 rintro _ w ⟨rfl,j⟩
 refine aM (vi ae) (RL.nt (RC.ret ?_))
 obtain rfl:=oi o
 exact bU ⟨rfl,j.drop 4⟩
def mK (E:World) (V:List HP) (v2:Value) (res:Int×(List (aX×Bool))) (v:Value) (w:World):Prop:=v= (vi res.1)/\Holds E w ([mp v2 res.2]++V)
def qX (E:World) (V:List HP) (v2:Value) (r:Int×(List (aX×Bool))) (U:Nat->Value) (w:World):Prop:=mu bB 53 Tryz.f39 (mK E V v2 r) .ret U w
theorem qf {p0: (List aX)} {p1:aX->Option Bool} {p2: (List (aX×Bool))} {res:Int×(List (aX×Bool))} (j:Holds E w (mp v2 p2::V)) (h0:V[i0]? =some (rd v0 p0)) (h1:Ef bB E V v1 p1 (fun(r:Bool)=>Value.bool r)) (o:gX N p0 p1 p2=some res):
    Calls bB 39 [v0,v1,v2].toArray w (gr (mK E V v2 res)):=by
 unfold gX at o
 refine enter Tryz.func39 zr zr ?_
 have j:=j.dup (i0+1) h0
 refine RC.sr (aM (vi 0) (RL.nq (RC.sr (mv v0 (RL.bF 0 p0 j rJ (ic ((p0.length:Int)) 500 (RL.nt (eH o (fun hc o=>?_) fun hc o=>?_))))))))
 ·refine RC.sr (aM (vi 2) (RL.nt (RC.rt ?_)))
  obtain rfl:=oi o
  exact bU ⟨rfl,j.pk 2 [1]⟩
 refine RC.ss (RC.sr (mv v0 (RL.bF 0 p0 j rJ (mv (vi 0) (RL.nt ?_)))))
 obtain⟨a4,hN,o⟩:=bd o
 refine RC.range (fun(ab:Nat) (ai:Unit)=>SH E V [(0,v0),(1,v1),(2,v2),(14,v0),(15,vi p0.length),(16,vi ab)] [rd v0 p0,mp v2 p2]) (fun(ai:Unit)=>SH E V [(0,v0),(2,v2)] [rd v0 p0,mp v2 p2]) (qX E V v2) hN ?_ ?_ ?_ ?_ ?_
 ·exact j.sp 2 [0,1]
 ·rintro hm ai _ w ⟨O,rfl,j⟩
  refine RC.sr (ic ((p0.length:Int)) ((p0.length:Int)) (RL.nq (RC.cP mz (RC.ex ?_))))
  exact⟨rfl,j.sp 2 [0,1]⟩
 ·rintro hm ab ai fl _ w hk ⟨O,rfl,j⟩ o
  refine RC.sr (ic ((ab:Int)) ((p0.length:Int)) (RL.nq (RC.cO (my hk) (RC.ss (RC.bs (mv (vi ab) ?_))))))
  obtain⟨aj,av,o⟩:=bd o
  refine RL.cA 0 j qU av fun a6 j=>(RL.bC 0 aj j gT fun a7 j=>(RL.alloc j sA.z fun aq w j=>?_))
  refine aM (vi ab) (RL.bD 0 j 1 zr gT fun w j=>?_)
  refine RL.nt (RC.bs (mv v1 (RL.aN (f:=(fun x=>x)) 0 j zr Fd.self gT fun a8 j=>?_)))
  obtain⟨ar,aw,o⟩:=bd o
  refine RL.uB 0 j h1 6 aw fun w j=>(RL.not ar (aM (vb (!ar)) (RL.nt (eH o (fun hc o=>?_) fun hc o=>?_))))
  ·refine RC.sr (aM (vi 9) (RL.nt (RC.rb (iA (bN ?_)))))
   obtain rfl:=oi o
   exact⟨rfl,bU ⟨rfl,j.pk 6 [5]⟩⟩
  refine RC.seq ?_
  obtain⟨an,hj,o⟩:=bd o
  refine RC.jn (fun(an:Bool)=>SH E V [(0,v0),(1,v1),(2,v2),(8,vp aq 0),(14,v0),(15,vi p0.length),(16,vi ab),(26,vb an)] [rd v0 p0,mp v2 p2,bx 34 aq aj]) an ?_ ?_
  ·refine RC.Cg mixed [0,0,0,0,0,0,0,0,0,2,0,0,0] [0,1,2,3,4,5,6,7,8,9,10,11,12] ?_
   have j:=j.drew
   refine DP.e0 zr (mv (vi ab) (dA zr (ic ((ab:Int)) 0 (dA zr (mv (vb (decide ((ab:Int)>0))) (DP.d0 (gZ hj (fun aa hj=>?_) fun aa hj=>?_)))))))
   rotate_left
   ·refine DP.e0 zr (bZ aa (dA zr (bZ aa (dA zr (bZ aa (dA zr (bZ aa (dA zr ?_))))))))
    refine bZ aa (dA zr (bZ aa (xt zr (bZ aa (Dh zr (bZ aa (dA zr (g9 aa (vb false) ?_))))))))
    refine dA zr (aM (vb false) (DP.d0 (DP.z ?_)))
    obtain rfl:=oi hj
    exact⟨rfl,j.sp 6 [4,5,1]⟩
   refine DP.e0 zr (RL.aN (hg:=(cg aa)) (f:=(fun x=>x)) 1 j zr Fd.self gT fun ax j=>(dA zr (RL.move v0 (cg aa) (dA zr (RL.move (vi ab) (cg aa) (dA zr (RL.jQ (hg:=(cg aa)) (ab:Int) 1 (dA zr ?_))))))))
   obtain⟨ay,az,hj⟩:=bd hj
   refine RL.cA (hg:=(cg aa)) 5 j qU az fun a9 j=>(dA zr (RL.bC (hg:=(cg aa)) 0 ay j gT fun a0 j=>(xt zr ?_)))
   obtain⟨ao,a1,hj⟩:=bd hj
   refine RL.call (cg aa) zr Iw [ax,a0] zr (aF (iP N (i0:=2) (i1:=0) j zr zr a1) ?_)
   rintro _ w ⟨rfl,j⟩
   refine Dh zr (RL.kI ao 0 (cg aa) (dA zr (g9 aa (vb (decide (ao<=0))) (dA zr (aM (vb (decide (ao<=0))) (DP.d0 (DP.z ?_)))))))
   obtain rfl:=oi hj
   exact⟨rfl,j.sp 9 [7,8,4]⟩
  rintro _ w ⟨O,rfl,j⟩
  refine aG (eH o (fun hc o=>?_) fun hc o=>?_)
  ·refine RC.sr (aM (vi 8) (RL.nt (RC.rb (iA (bN ?_)))))
   obtain rfl:=oi o
   exact⟨rfl,bU ⟨rfl,j.pk 3 [1]⟩⟩
  refine RC.sr (mv v2 (RL.aN (f:=(fun x=>x)) 2 j zr Fd.self gT fun ba j=>(RL.r5 2 aj zr j zr (nM 0 j) zr GV (aM (vb (dH p2 aj (false:Bool))) (RL.nt (eH o (fun hc o=>?_) fun hc o=>?_))))))
  rotate_left
  ·refine RC.skip (bO (bO (aG (RC.region (RL.inc hk hm (mv (vi ((ab+1:Nat):Int)) (RL.nil ?_)))))))
   obtain rfl:=oi o
   exact⟨rfl,j.sp 4 [1,2]⟩
  refine RC.sr (aM (vi 7) (RL.nt (RC.rb (iA (bN ?_)))))
  obtain rfl:=oi o
  exact⟨rfl,bU ⟨rfl,j.pk 4 [2]⟩⟩
 ·intro r U w e hK
  subst e
  refine bN ?_
  obtain rfl:=oi o
  exact hK
 rintro ai _ w rfl ⟨O,rfl,j⟩
 rw [Fo.fW] at o
 refine aG (RC.seq (RC.sr (mv v0 (RL.bF 0 p0 j rJ (mv (vi 0) (RL.nt ?_))))))
 obtain⟨af,hN,o⟩:=bd o
 refine RC.fold (fun(ak:Nat) (af: (List (aX×Bool)))=>SH E V [(2,v2),(44,v0),(45,vi p0.length),(46,vi ak)] [mp v2 af,rd v0 p0]) (fun(af: (List (aX×Bool)))=>SH E V [(2,v2)] [mp v2 af,rd v0 p0]) hN ?_ ?_ ?_ ?_
 ·exact j.sp 2 [1,0]
 ·rintro hm af _ w ⟨O,rfl,j⟩
  refine RC.sr (ic ((p0.length:Int)) ((p0.length:Int)) (RL.nq (RC.cP mz (RC.ex ?_))))
  exact⟨rfl,j.sp 2 [0,1]⟩
 ·rintro hm ak af s' _ w hk ⟨O,rfl,j⟩ o
  refine RC.sr (ic ((ak:Int)) ((p0.length:Int)) (RL.nq (RC.cO (my hk) (RC.ss (RC.bs ?_)))))
  obtain⟨au,a3,o⟩:=bd o
  refine RL.cA 1 j qU a3 fun bb j=>(RL.bC 0 au j gT fun bc j=>(RL.alloc j sA.z fun bf w j=>?_))
  refine RL.bD 0 j 1 zr gT fun w j=>?_
  refine RL.nt (RC.region (mv v2 (RL.aN (f:=(fun x=>x)) 0 j zr Fd.self gT fun bg j=>?_)))
  have j:=j.sc Bool true
  refine RL.mapUpdate 5 0 au j zr (nM 1 j) zr zr GV fun w j=>(RL.nil (bO (aG (RC.region (RL.inc hk hm (mv (vi ((ak+1:Nat):Int)) (RL.nil ?_)))))))
  obtain rfl:=oi o
  exact⟨rfl,j.sp 7 [5,6]⟩
 rintro _ w ⟨O,rfl,j⟩
 refine aG (RC.sr (aM (vi 0) (RL.nt (RC.ret ?_))))
 obtain rfl:=oi o
 exact bU ⟨rfl,j.pk 2 [0]⟩
def tY (E:World) (V:List HP) (r:Int) (U:Nat->Value) (w:World):Prop:=mu bB 71 Tryz.f19 (aH E V r) .ret U w
theorem nE {p0: (List aL)} {p1:bK} (j:Holds E w V) (h0:V[i0]? =some (rd v0 p0)) (h1:V[i1]? =some (rd v1 p1)) (o:ir N p0 p1=some res):
    Calls bB 19 [v0,v1].toArray w (gr (aH E V res)):=by
 unfold ir at o
 refine enter Tryz.func19 zr zr ?_
 have j:=(j.dup (i0+0) h0).dup (i1+1) h1
 refine RC.sr (RL.cQ 1 v0 j zr fun af w j=>?_)
 have j:=j.hZ (i:=0) rfl
 refine RL.cQ 1 v1 j zr fun ag w j=>?_
 have j:=j.hZ (i:=0) rfl
 refine aM (vi 0) (RL.nq (RC.sr (RL.bC 1 p0 j JQ fun aw j=>?_)))
 obtain⟨al,ax,o⟩:=bd o
 refine RL.call zt zr Mg [aw] zr (aF (rK N (i0:=0) j zr ax) ?_)
 rintro _ w ⟨rfl,j⟩
 refine aM (vi al) (RL.ns (mv (vi al) (ic al 0 (RL.nt (eH o (fun hc o=>?_) fun hc o=>?_)))))
 ·refine RC.sr (mv (vi al) (aM (vi al) (RL.nt (RC.rt ?_))))
  obtain rfl:=oi o
  exact bU ⟨rfl,j.drop 5⟩
 refine RC.ss (RC.sr (RL.bC 2 p0 j JQ fun ay j=>(RL.fB 2 j zr AZ mG fun a9 j=>(RL.bC 0 p1.cJ j It fun az j=>?_))))
 obtain⟨an,a0,o⟩:=bd o
 refine RL.call trivial rfl Mp [ay,az,(.func (.func 38) #[] #[])] rfl (aF (rL N (i0:=2) (i1:=0) j rfl rfl ⟨38,[],rfl,JT,fun w Γl v y0 r i j hi hr=>by obtain rfl:=j.xG (γ:=bR) hi;exact aF (mJ N (p0:=y0) j hr) fun _ _ h=>h⟩ a0) ?_)
 rintro _ w ⟨rfl,j⟩
 refine aM (vi an) (RL.ns (mv (vi an) (ic an 0 (RL.nt (eH o (fun hc o=>?_) fun hc o=>?_)))))
 ·refine RC.sr (mv (vi an) (aM (vi an) (RL.nt (RC.rt ?_))))
  obtain rfl:=oi o
  exact bU ⟨rfl,j.drop 8⟩
 refine RC.ss (RC.sr (RL.fB 4 j zr sw jE fun ba j=>(RL.bC 0 p1.bE j Cn fun bb j=>(RL.bF 0 p1.bE j GU (ic ((p1.bE.length:Int)) 1000 (RL.nt (eH o (fun hc o=>?_) fun hc o=>?_)))))))
 ·refine RC.sr (aM (vi 2) (RL.nt (RC.rt ?_)))
  obtain rfl:=oi o
  exact bU ⟨rfl,j.drop 10⟩
 refine RC.sx (RL.makeMap (κ:=aX) (ν:=Bool) j fun ah w j=>(aM ah (RL.nq (RC.sr (RL.fB 7 j zr sw jE fun bc j=>(RL.bC 0 p1.bE j Cn fun ao j=>(RL.bF 0 p1.bE j GU (mv (vi 0) ?_))))))))
 refine RL.nt ?_
 obtain⟨bf,hN,o⟩:=bd o
 refine RC.range (fun(ad:Nat) (aj: (List (aX×Bool)))=>SH E V [(2,vp af 0),(3,vp ag 0),(7,ah),(29,ao),(30,vi p1.bE.length),(31,vi ad)] [pt (vp af 0) p0,pt (vp ag 0) p1,mp ah aj,rd ao p1.bE]) (fun(aj: (List (aX×Bool)))=>SH E V [] [pt (vp af 0) p0,pt (vp ag 0) p1,mp ah aj,rd ao p1.bE]) (tY E V) hN ?_ ?_ ?_ ?_ ?_
 ·exact j.sp 13 [10,9,2,0]
 ·rintro hm aj _ w ⟨O,rfl,j⟩
  refine RC.sr (ic ((p1.bE.length:Int)) ((p1.bE.length:Int)) (RL.nq (RC.cP mz (RC.ex ?_))))
  exact⟨rfl,j.sp 4 [0,1,2,3]⟩
 ·rintro hm ad aj fl _ w hk ⟨O,rfl,j⟩ o
  refine RC.sr (ic ((ad:Int)) ((p1.bE.length:Int)) (RL.nq (RC.cO (my hk) (RC.ss (RC.bs (mv (vi ad) ?_))))))
  obtain⟨ae,a2,o⟩:=bd o
  refine RL.cA 3 j Dm a2 fun bh j=>(RL.bC 0 ae j A0 fun bj j=>(RL.alloc j Iv.z fun bk w j=>?_))
  refine aM (vi ad) (RL.bD 0 j 1 zr A0 fun w j=>?_)
  refine RL.nq (RC.sr (RL.bH zr wJ (RL.aP 0 j zr pW pQ ?_)))
  obtain⟨a3,a4,o⟩:=bd o
  refine RL.call zt zr JT [(str ae.Name)] zr (aF (mJ N (p0:=ae.Name) j a4) ?_)
  rintro _ w ⟨rfl,j⟩
  refine RL.not a3 (RL.nt (eH o (fun hc o=>?_) fun hc o=>?_))
  ·refine RC.sr (aM (vi 5) (RL.nt (RC.rt (iA (bN ?_)))))
   obtain rfl:=oi o
   exact⟨rfl,bU ⟨rfl,j.drop 7⟩⟩
  refine RC.ss (RC.sr (RL.bH zr yz (RL.aN 0 j zr si xK fun bl j=>(RL.bF 0 ae.aS j rJ (ic ((ae.aS.length:Int)) 0 (RL.nt (eH o (fun hc o=>?_) fun hc o=>?_)))))))
  ·refine RC.sr (aM (vi 9) (RL.nt (RC.rt (iA (bN ?_)))))
   obtain rfl:=oi o
   exact⟨rfl,bU ⟨rfl,j.drop 8⟩⟩
  refine RC.ss (RC.sr (RL.bH zr yz (RL.aN 1 j zr si xK fun a5 j=>(RL.makeFunc [(vp af 0),(vp ag 0)] (mv ah ?_)))))
  have j:=j.pull 7
  obtain⟨ak,a6,o⟩:=bd o
  refine RL.call trivial rfl Mx [a5,(.func (.func 40) #[] #[(vp af 0),(vp ag 0)]),ah] rfl (aF (qf N (i0:=0) j rfl ⟨40,[(vp af 0),(vp ag 0)],rfl,Mw,fun w Γl v y0 r i j hi hr=>by exact aF (qe N (i0:=i) (i1:=Γl.length+5) (i2:=Γl.length+6) j hi uA uA hr) fun _ _ h=>h⟩ a6) ?_)
  rintro _ w ⟨rfl,j⟩
  refine aM (vi ak.1) (RL.ns (mv (vi ak.1) (ic ak.1 0 (RL.nt (eH o (fun hc o=>?_) fun hc o=>?_)))))
  ·refine RC.sr (mv (vi ak.1) (aM (vi ak.1) (RL.nt (RC.rt (iA (bN ?_))))))
   obtain rfl:=oi o
   exact⟨rfl,bU ⟨rfl,j.drop 10⟩⟩
  refine RC.ss (RC.sr (RL.bH zr JU (RL.aN 3 j zr GK My fun bm j=>(RL.bF 0 ae.ru j KI (ic ((ae.ru.length:Int)) 0 (RL.nt (eH o (fun hc o=>?_) fun hc o=>?_)))))))
  ·refine RC.sr (aM (vi 3) (RL.nt (RC.rt (iA (bN ?_)))))
   obtain rfl:=oi o
   exact⟨rfl,bU ⟨rfl,j.drop 11⟩⟩
  refine RC.ss ?_
  obtain⟨ar,hj,o⟩:=bd o
  refine RC.jn (fun(ar:Bool)=>SH E V [(2,vp af 0),(3,vp ag 0),(7,ah),(29,ao),(30,vi p1.bE.length),(31,vi ad),(69,vb ar)] [pt (vp af 0) p0,pt (vp ag 0) p1,mp ah ak.2,rd ao p1.bE]) ar ?_ ?_
  ·refine RC.zA mixed ?_
   have j:=j.drew
   refine RO.go (mv (vi ad) (RO.nx (ic ((ad:Int)) 0 (RO.nx (mv (vb (decide ((ad:Int)>0))) (gZ hj (fun aa hj=>?_) fun aa hj=>?_))))))
   rotate_left
   ·refine RO.nx (bZ aa (RO.nx (bZ aa (RO.nx (bZ aa (RO.nx (bZ aa (RO.nx ?_))))))))
    refine bZ aa (RO.nx (bZ aa (RO.nx (bZ aa (RO.nx (bZ aa (RO.nx (bZ aa ?_))))))))
    refine RO.nx (bZ aa (RO.nx (g9 aa (vb false) (RO.last ?_))))
    obtain rfl:=oi hj
    exact⟨rfl,j.sp 11 [7,8,1,10]⟩
   refine RO.nx (RL.bH (hg:=(cg aa)) zr wJ (RO.nx (RL.aP (hg:=(cg aa)) 4 j zr pW pQ (RO.nx (RL.fB (hg:=(cg aa)) 8 j zr sw jE fun bn j=>(RO.nx (RL.bC (hg:=(cg aa)) 0 p1.bE j Cn fun bo j=>(RO.nx ?_))))))))
   refine RL.move (vi ad) (cg aa) (RO.nx (RL.jQ (hg:=(cg aa)) (ad:Int) 1 (RO.nx ?_)))
   obtain⟨aq,a7,hj⟩:=bd hj
   refine RL.cA (hg:=(cg aa)) 0 j Dm a7 fun bp j=>(RO.nx (RL.fB (hg:=(cg aa)) 0 j zr wJ pW fun bq j=>(RO.nx (RL.bQ (hg:=(cg aa)) aq.Name 0 j pQ (RO.nx (RL.zD ae.Name aq.Name (cg aa) zr zr zr zr (RO.nx (g9 aa (vb (ae.Name.xF aq.Name||ae.Name.oW aq.Name)) ?_))))))))
   refine RO.last ?_
   obtain rfl:=oi hj
   exact⟨rfl,j.sp 15 [11,12,5,14]⟩
  rintro _ w ⟨O,rfl,j⟩
  refine aG (eH o (fun hc o=>?_) fun hc o=>?_)
  rotate_left
  ·refine RC.skip (bO (aG (RC.region (RL.inc hk hm (mv (vi ((ad+1:Nat):Int)) (RL.nil ?_))))))
   obtain rfl:=oi o
   exact⟨rfl,j.sp 4 [0,1,2,3]⟩
  refine RC.sr (aM (vi 8) (RL.nt (RC.rb (bN ?_))))
  obtain rfl:=oi o
  exact⟨rfl,bU ⟨rfl,j.drop 4⟩⟩
 ·intro r U w e hK
  subst e
  refine bN ?_
  obtain rfl:=oi o
  exact hK
 rintro aj _ w rfl ⟨O,rfl,j⟩
 rw [Fo.fW] at o
 refine aG (RC.sr (aM (vi 0) (RL.nt (RC.ret ?_))))
 obtain rfl:=oi o
 exact bU ⟨rfl,j.drop 4⟩
theorem xM {res:Bool} (o:Holds E w V) (j:qK N p0 p1 p2=some res):
    Calls bB 113 [(vi p0),(vi p1),(vi p2)].toArray w (gr (bA E V res)):=by
 unfold qK at j
 refine enter Tryz.func113 zr zr (RC.sr (aM (vb false) (RL.ns (mv (vi p0) (mv (vi p1) (ic p0 p1 (mv (vb (decide (p0>=p1))) (RL.gs true (decide (p0>=p1)) (vi p0) zr zr zr dQ ?_))))))))
 refine RL.gs true (decide (p0>=p1)) (vi p2) rfl rfl rfl dQ (RL.gs true (decide (p0>=p1)) (vb (decide (p0<=p2))) rfl rfl rfl (eM .leq .i64 p0 p2 rfl (fun h=>by exact(dI h:cv (true&&((decide (p0>=p1))==true)) (vi p0)= (vi p0))) (fun h=>by exact(dI h:cv (true&&((decide (p0>=p1))==true)) (vi p2)= (vi p2))) rfl) (RL.pick (decide (p0>=p1)) (vb ((decide (p0>=p1))&&(decide (p0<=p2)))) (kg true) (aM (vb ((decide (p0>=p1))&&(decide (p0<=p2)))) (RL.nt (RC.ret ?_)))))
 obtain rfl:=oi j
 exact bU ⟨rfl,o.drop 0⟩
theorem kH {res:Bool} (o:Holds E w V) (j:kj N p0=some res):
    Calls bB 66 [(vi p0)].toArray w (gr (bA E V res)):=by
 unfold kj at j
 refine enter Tryz.func66 zr zr (RC.sr (aM (vb false) (RL.ns (mv (vi p0) ?_))))
 obtain⟨aa,ab,j⟩:=bd j
 refine RL.call zt zr KM [(vi p0),(vi (-1000000)),(vi 1000000)] zr (aF (xM N (p0:=p0) (p1:=(-1000000)) (p2:=1000000) o ab) ?_)
 rintro _ w ⟨rfl,o⟩
 refine aM (vb aa) (RL.nt (RC.ret ?_))
 obtain rfl:=oi j
 exact bU ⟨rfl,o.drop 0⟩
theorem rB {p0:aJ} {res:Bool} (j:Holds E w V) (h0:V[i0]? =some (rd v0 p0)) (hb:lE N p0=some res):
    Calls bB 76 [v0].toArray w (gr (bA E V res)):=by
 unfold lE at hb
 refine enter Tryz.func76 zr zr ?_
 have j:=j.dup (i0+0) h0
 refine RC.sr (RL.cQ 0 v0 j zr fun aq w j=>?_)
 refine aM (vb false) (RL.nq ?_)
 obtain⟨af,o,hb⟩:=bd hb
 refine RC.jn (fun(af:Bool)=>SH E V [(2,vb af)] []) af ?_ ?_
 ·refine RC.region (RL.bH zr kn (RL.aP 0 j zr fK dE ?_))
  obtain⟨aj,ak,o⟩:=bd o
  refine RL.call zt zr Fe [(vi p0.X0)] zr (aF (kH N (p0:=p0.X0) j ak) ?_)
  rintro _ w ⟨rfl,j⟩
  refine mv (vb aj) (gZ o (fun aa o=>?_) fun aa o=>?_)
  rotate_left
  ·refine bZ aa (bZ aa (bZ aa (g9 aa (vb false) (mv (vb false) (oG (oG (oG (RL.pick false (vb false) zr ?_))))))))
   refine mv (vb false) (oG (oG (oG (RL.pick false (vb false) zr (aM (vb false) (RL.nil ?_))))))
   obtain rfl:=oi o
   exact⟨rfl,j.sp 2 []⟩
  refine RL.bH (hg:=(cg aa)) zr k9 (RL.aP (hg:=(cg aa)) 0 j zr gl dE ?_)
  obtain⟨ag,al,o⟩:=bd o
  refine RL.call (cg aa) zr Fe [(vi p0.Y0)] zr (aF (kH N (p0:=p0.Y0) j al) ?_)
  rintro _ w ⟨rfl,j⟩
  refine g9 aa (vb ag) (mv (vb ag) (gZ o (fun ab o=>?_) fun ab o=>?_))
  rotate_left
  ·refine bZ ab (bZ ab (bZ ab (g9 ab (vb false) (mv (vb false) (oG (oG (oG (RL.pick false (vb false) zr ?_))))))))
   refine aM (vb false) (RL.nil ?_)
   obtain rfl:=oi o
   exact⟨rfl,j.sp 2 []⟩
  refine RL.bH (hg:=(cg ab)) zr ld (RL.aP (hg:=(cg ab)) 0 j zr gE dE ?_)
  obtain⟨ah,an,o⟩:=bd o
  refine RL.call (cg ab) zr Fe [(vi p0.X1)] zr (aF (kH N (p0:=p0.X1) j an) ?_)
  rintro _ w ⟨rfl,j⟩
  refine g9 ab (vb ah) (mv (vb ah) (gZ o (fun ad o=>?_) fun ad o=>?_))
  rotate_left
  ·refine bZ ad (bZ ad (bZ ad (g9 ad (vb false) (aM (vb false) (RL.nil ?_)))))
   obtain rfl:=oi o
   exact⟨rfl,j.sp 2 []⟩
  refine RL.bH (hg:=(cg ad)) zr oI (RL.aP (hg:=(cg ad)) 0 j zr j3 dE ?_)
  obtain⟨ai,ao,o⟩:=bd o
  refine RL.call (cg ad) zr Fe [(vi p0.Y1)] zr (aF (kH N (p0:=p0.Y1) j ao) ?_)
  rintro _ w ⟨rfl,j⟩
  refine g9 ad (vb ai) (aM (vb ai) (RL.nil ?_))
  obtain rfl:=oi o
  exact⟨rfl,j.sp 2 []⟩
 rintro _ w ⟨O,rfl,j⟩
 refine aG (RC.ret ?_)
 obtain rfl:=oi hb
 exact bU ⟨rfl,j.drop 0⟩
def uO (E:World) (V:List HP) (r:Int) (U:Nat->Value) (w:World):Prop:=mu bB 30 Tryz.f89 (aH E V r) .ret U w
theorem tZ {p0: (List aJ)} (o:Holds E w V) (h0:V[i0]? =some (rd v0 p0)) (hb:jU N p0=some res):
    Calls bB 89 [v0].toArray w (gr (aH E V res)):=by
 unfold jU at hb
 refine enter Tryz.func89 zr zr ?_
 have o:=o.dup (i0+0) h0
 refine RC.sr (aM (vi 0) (RL.nq (RC.sr (mv v0 (RL.bF 0 p0 o sB (ic ((p0.length:Int)) 2000 (RL.nt (eH hb (fun hc hb=>?_) fun hc hb=>?_))))))))
 ·refine RC.sr (aM (vi 2) (RL.nt (RC.rt ?_)))
  obtain rfl:=oi hb
  exact bU ⟨rfl,o.drop 1⟩
 refine RC.ss (RC.sr (mv v0 (RL.bF 0 p0 o sB (mv (vi 0) (RL.nt ?_)))))
 obtain⟨aq,hN,hb⟩:=bd hb
 refine RC.range (fun(ae:Nat) (af:Unit)=>SH E V [(8,v0),(9,vi p0.length),(10,vi ae)] [rd v0 p0]) (fun(af:Unit)=>SH E V [] [rd v0 p0]) (uO E V) hN ?_ ?_ ?_ ?_ ?_
 ·exact o.sp 1 [0]
 ·rintro hm af _ w ⟨O,rfl,o⟩
  refine RC.sr (ic ((p0.length:Int)) ((p0.length:Int)) (RL.nq (RC.cP mz (RC.ex ?_))))
  exact⟨rfl,o.sp 1 [0]⟩
 ·rintro hm ae af fl _ w hk ⟨O,rfl,o⟩ hb
  refine RC.sr (ic ((ae:Int)) ((p0.length:Int)) (RL.nq (RC.cO (my hk) (RC.ss (RC.bs ?_)))))
  obtain⟨j,aj,hb⟩:=bd hb
  refine RL.cA 0 o mH aj fun au o=>(RL.bC 0 j o jf fun av o=>(RL.alloc o pH.z fun ab w o=>?_))
  refine RL.bD 0 o 1 zr jf fun w o=>?_
  refine RL.nq (RC.sr (RL.aN (f:=(fun x=>x)) 0 o zr Fd.self jf fun ak o=>?_))
  obtain⟨al,an,hb⟩:=bd hb
  refine RL.call zt zr KN [ak] zr (aF (rB N (i0:=0) o zr an) ?_)
  rintro _ w ⟨rfl,o⟩
  refine RL.not al (RL.nt (eH hb (fun hc hb=>?_) fun hc hb=>?_))
  ·refine RC.sr (aM (vi 1) (RL.nt (RC.rt (iA (bN ?_)))))
   obtain rfl:=oi hb
   exact⟨rfl,bU ⟨rfl,o.drop 5⟩⟩
  refine RC.sx (RL.bH rfl ld (RL.aP 1 o rfl gE dE (RL.bH rfl kn (RL.aP 1 o rfl fK dE (ic j.X1 j.X0 (mv (vb (decide (j.X1<=j.X0))) (RL.gs true (decide (j.X1<=j.X0)) (vp ab 3) rfl rfl rfl (fA oI) (RL.gs true (decide (j.X1<=j.X0)) (vi j.Y1) rfl rfl rfl (cL 1 rfl o (fun h=>by exact(dI h:cv (true&&((decide (j.X1<=j.X0))==false)) (vp ab 3)= (vp ab 3))) rfl j3 dE) ?_))))))))
  refine RL.gs true (decide (j.X1<=j.X0)) (vp ab 1) rfl rfl rfl (fA k9) (RL.gs true (decide (j.X1<=j.X0)) (vi j.Y0) rfl rfl rfl (cL 1 rfl o (fun h=>by exact(dI h:cv (true&&((decide (j.X1<=j.X0))==false)) (vp ab 1)= (vp ab 1))) rfl gl dE) (RL.gs true (decide (j.X1<=j.X0)) (vb (decide (j.Y1<=j.Y0))) rfl rfl rfl (eM .leq .i64 j.Y1 j.Y0 rfl (fun h=>by exact(dI h:cv (true&&((decide (j.X1<=j.X0))==false)) (vi j.Y1)= (vi j.Y1))) (fun h=>by exact(dI h:cv (true&&((decide (j.X1<=j.X0))==false)) (vi j.Y0)= (vi j.Y0))) rfl) (RL.pick (decide (j.X1<=j.X0)) (vb ((decide (j.X1<=j.X0))||(decide (j.Y1<=j.Y0)))) (nz true) (RL.nt (eH hb (fun hc hb=>?_) fun hc hb=>?_)))))
  rotate_left
  ·refine RC.skip (bO (aG (RC.region (RL.inc hk hm (mv (vi ((ae+1:Nat):Int)) (RL.nil ?_))))))
   obtain rfl:=oi hb
   exact⟨rfl,o.sp 5 [4]⟩
  refine RC.sr (aM (vi 13) (RL.nt (RC.rb (bN ?_))))
  obtain rfl:=oi hb
  exact⟨rfl,bU ⟨rfl,o.drop 5⟩⟩
 ·intro r U w e hK
  subst e
  refine bN ?_
  obtain rfl:=oi hb
  exact hK
 rintro af _ w rfl ⟨O,rfl,o⟩
 rw [Fo.fW] at hb
 refine aG (RC.sr (aM (vi 0) (RL.nt (RC.ret ?_))))
 obtain rfl:=oi hb
 exact bU ⟨rfl,o.drop 1⟩
theorem sM {p0: (List aJ)} {res: (List aJ)} (j:Holds E w V) (h0:V[i0]? =some (rd v0 p0)) (o:iu N p0=some res):
    Calls bB 67 [v0].toArray w (gr (lR E V res)):=by
 unfold iu at o
 refine enter Tryz.func67 zr zr ?_
 have j:=j.dup (i0+0) h0
 refine RC.sr (aM (.slice none 0 0) (RL.nq (RC.sr (mv v0 (RL.Ks (i:=0) zt zr j zr zr zr sB (RL.nt (RC.cond (b:=(Im v0)) zr (fun hc=>?_) (fun hc=>?_))))))))
 ·have hx:=j.L8 (i:=0) rfl hc
  rw [hx] at o
  replace o:some ([]: (List aJ))=_:=o
  refine RC.sr (aM (.slice none 0 0) (RL.nt (RC.rt ?_)))
  obtain rfl:=oi o
  have j:=j.cW aJ 83
  exact bU (j.pk 2 [0])
 refine RC.sx (RL.eF ([]: (List aJ)) j [] mH pH (fun M hs g=>zt) fun ae w j=>(mv v0 ?_))
 obtain⟨af,ab,o⟩:=bd o
 refine RL.app 0 1 j Ff ab fun ad w j=>?_
 refine aM ad (RL.nt (RC.ret ?_))
 obtain rfl:=oi o
 exact bU (j.pk 2 [0])
theorem vL {p0 p1:aJ} (j:Holds E w V) (h0:V[i0]? =some (rd v0 p0)) (h1:V[i1]? =some (rd v1 p1)) (o:i6 N p0 p1=some res):
    Calls bB 69 [v0,v1].toArray w (gr (aH E V res)):=by
 unfold i6 at o
 refine enter Tryz.func69 zr zr ?_
 have j:=(j.dup (i0+0) h0).dup (i1+1) h1
 refine RC.sr (RL.cQ 1 v0 j zr fun aa w j=>?_)
 refine RL.cQ 1 v1 j zr fun ab w j=>?_
 refine aM (vi 0) (RL.ns (RL.bH zr k9 (RL.aP 1 j zr gl dE (RL.bH zr k9 (RL.aP 0 j zr gl dE (RL.jQ p0.Y0 p1.Y0 (aM (vi (IntKind.wrap .i64 (p0.Y0 - p1.Y0))) (RL.nt ?_))))))))
 refine RC.ret ?_
 obtain rfl:=oi o
 exact bU ⟨rfl,j.drop 4⟩
def sN (E:World) (V:List HP) (r: (List Int)) (U:Nat->Value) (w:World):Prop:=mu bB 61 Tryz.f71 (lf E V r) .ret U w
theorem rM {p0: (List Int)} {res: (List Int)} (j:Holds E w (own 3 v0 p0::V)) (o:fX N p0=some res):
    Calls bB 71 [v0].toArray w (gr (lf E V res)):=by
 unfold fX at o
 refine enter Tryz.func71 zr zr (RC.sr (aM (.slice none 0 0) (RL.nq (RC.sr (mv v0 (RL.eO 0 p0 j nC (ic ((p0.length:Int)) 2 (RL.nt ?_))))))))
 refine eH o (fun hc o=>?_) fun hc o=>?_
 ·refine RC.sr (mv v0 (aM v0 (RL.nt (RC.rt ?_))))
  obtain rfl:=oi o
  exact bU (j.pk 1 [0])
 refine RC.ss (RC.sr (aM (vi 1) (RL.nt ?_)))
 obtain⟨a2,hN,o⟩:=bd o
 refine RC.iter (fun(ab:Int)=>SH E V [(0,v0),(3,vi ab)] [own 3 v0 p0]) (fun(ab:Int)=>SH E V [(0,v0)] [own 3 v0 p0]) (sN E V) hN ?_ ?_ ?_ ?_
 ·exact j.sp 1 [0]
 ·rintro ab fl _ w ⟨O,rfl,j⟩ o
  refine RC.seq (RC.sr (mv (vi ab) (mv v0 (RL.eO 0 p0 j nC (ic ab ((p0.length:Int)) (RL.nt (eH o (fun hc o=>?_) fun hc o=>?_)))))))
  rotate_left
  ·refine RC.ex ?_
   obtain rfl:=oi o
   exact⟨rfl,j.sp 1 [0]⟩
  refine RC.ss (RC.block (RC.seq (RC.zA mixed ?_)))
  have j:=j.drew
  refine RO.go (mv v0 (RO.nx (mv (vi ab) (RO.nx ?_))))
  obtain⟨au,al,o⟩:=bd o
  refine RL.bY 0 j zr zr fV al (RO.nx (RL.dX (f:=(fun x=>x)) 0 j (kC 0 j al 0) (bG al).2.1 Fd.self dE (RO.nx (mv v0 (RO.nx (mv (vi ab) (RO.nx (RL.jQ ab 1 ?_))))))))
  refine RO.nx ?_
  obtain⟨av,an,o⟩:=bd o
  refine RL.bY 0 j zr zr fV an (RO.nx (RL.dX (f:=(fun x=>x)) 0 j (kC 0 j an 0) (bG an).2.1 Fd.self dE (RO.nx (ic au av (RO.last (aG (eH o (fun hc o=>?_) fun hc o=>?_)))))))
  rotate_left
  ·refine RC.skip (bO (aG (RC.region (mv (vi ab) (RL.jQ ab 1 (aM (vi (IntKind.wrap .i64 (ab+1))) (RL.nil ?_)))))))
   obtain rfl:=oi o
   exact⟨rfl,j.sp 1 [0]⟩
  refine RC.sr (mv v0 (mv (vi ab) ?_))
  obtain⟨a3,af,o⟩:=bd o
  refine RL.view 0 ab zr j zr zr fV af (aM (vw v0 (Int.toNat ab) 1) (RL.nq (RC.sr (aM (vi 1) (RL.nt ?_)))))
  obtain⟨a4,hN,o⟩:=bd o
  refine RC.iter (fun(aa: (List Int)×Int×Int)=>SH E V [(0,v0),(3,vi aa.2.1),(4,(vw v0 (Int.toNat ab) 1)),(5,vi aa.2.2)] [own 3 v0 aa.1]) (fun(aa: (List Int)×Int×Int)=>SH E V [(0,v0),(3,vi aa.2.1)] [own 3 v0 aa.1]) (fun(r:Empty) _ _=>r.elim) hN ?_ ?_ ?_ ?_
  ·exact j.sp 1 [0]
  ·rintro aa fl _ w ⟨O,rfl,j⟩ o
   refine RC.seq (RC.sr (mv (vi aa.2.2) (mv (vw v0 (Int.toNat ab) 1) (RL.JF (i:=0) (l:=aa.1) zt zr j zr zr nC (ic aa.2.2 ((((aa.1.length - Int.toNat ab):Nat):Int)) (RL.nt (eH o (fun hc o=>?_) fun hc o=>?_)))))))
   rotate_left
   ·refine RC.ex ?_
    obtain rfl:=oi o
    exact⟨rfl,j.sp 1 [0]⟩
   refine RC.ss (RC.block (RC.seq (RC.zA mixed ?_)))
   have j:=j.drew
   refine RO.go (mv (vw v0 (Int.toNat ab) 1) (RO.nx (mv (vi aa.2.2) (RO.nx ?_))))
   obtain⟨aw,ag,o⟩:=bd o
   refine RL.Gx 0 ab zr j zr zr zr fV (De af) (jk ag).1 (jk ag).2 (RO.nx (RL.dX (f:=(fun x=>x)) 0 j (kC 0 j (jk ag).2 0) (bG (jk ag).2).2.1 Fd.self dE (RO.nx (mv (vw v0 (Int.toNat ab) 1) (RO.nx (mv (vi aa.2.2) (RO.nx (RL.jQ aa.2.2 1 ?_))))))))
   refine RO.nx ?_
   obtain⟨ax,ah,o⟩:=bd o
   refine RL.Gx 0 ab zr j zr zr zr fV (De af) (jk ah).1 (jk ah).2 (RO.nx (RL.dX (f:=(fun x=>x)) 0 j (kC 0 j (jk ah).2 0) (bG (jk ah).2).2.1 Fd.self dE (RO.nx (ic aw ax (RO.last (aG ?_))))))
   obtain⟨ai,hj,o⟩:=bd o
   refine RC.jn (fun(ai: (List Int)×Int)=>SH E V [(0,v0),(3,vi ai.2),(4,(vw v0 (Int.toNat ab) 1)),(5,vi aa.2.2)] [own 3 v0 ai.1]) ai ?_ ?_
   ·refine eH hj (fun hc hj=>?_) fun hc hj=>?_
    rotate_left
    ·refine RC.skip ?_
     obtain rfl:=oi hj
     exact⟨rfl,j.sp 1 [0]⟩
    refine RC.sr (mv v0 (mv (vi aa.2.1) (mv (vw v0 (Int.toNat ab) 1) (mv (vi aa.2.2) ?_))))
    obtain⟨ay,aj,hj⟩:=bd hj
    refine RL.Gx 0 ab zr j zr zr zr fV (De af) (jk aj).1 (jk aj).2 (RL.dX (f:=(fun x=>x)) 0 j (kC 0 j (jk aj).2 0) (bG (jk aj).2).2.1 Fd.self dE ?_)
    obtain⟨a5,ao,hj⟩:=bd hj
    refine RL.bY 0 j zr zr fV ao ?_
    have j:=j.sc Int ay
    refine RL.iH (f:=(fun _ y=>y)) 1 0 j (kC 1 j ao 0) (bG ao).2.1 zr Fs.self dE fun w j=>?_
    refine RL.nt (RC.region (mv (vi aa.2.1) (RL.jQ aa.2.1 1 (aM (vi (IntKind.wrap .i64 (aa.2.1+1))) (RL.nil ?_)))))
    obtain rfl:=oi hj
    exact⟨rfl,j.sp 2 [1]⟩
   rintro _ w ⟨O,rfl,j⟩
   refine bO (aG (RC.region (mv (vi aa.2.2) (RL.jQ aa.2.2 1 (aM (vi (IntKind.wrap .i64 (aa.2.2+1))) (RL.nil ?_))))))
   obtain rfl:=oi o
   exact⟨rfl,j.sp 1 [0]⟩
  ·intro r _ _ _ _
   exact r.elim
  rintro aa _ w rfl ⟨O,rfl,j⟩
  rw [Fo.fW] at o
  refine aG (RC.sr (mv v0 (mv (vi aa.2.1) ?_)))
  obtain⟨a6,aq,o⟩:=bd o
  refine RL.view 0 aa.2.1 zr j zr zr fV aq (RL.B0 0 zt j zr zr wL KQ (Gy aq) fun w j=>(RL.ns (mv v0 (mv (vi aa.2.1) ?_))))
  obtain⟨a7,az,o⟩:=bd o
  refine RL.xR 0 zr j zr zr fV (.inr ⟨rfl,zr⟩) az fun a0 j=>(aM a0 (RL.nt (RC.rb (bN ?_))))
  obtain rfl:=oi o
  exact⟨rfl,bU (j.pk 1 [0])⟩
 ·intro r U w e hK
  subst e
  refine bN ?_
  obtain rfl:=oi o
  exact hK
 rintro ab _ w rfl ⟨O,rfl,j⟩
 rw [Fo.fW] at o
 refine aG (RC.sr (mv v0 (aM v0 (RL.nt (RC.ret ?_)))))
 obtain rfl:=oi o
 exact bU (j.pk 1 [0])
theorem vM {p0:aJ} {p1: (List Int)} {res:Bool} (j:Holds E w V) (h0:V[i0]? =some (rd v0 p0)) (h1:V[i1]? =some (pt v1 p1)) (h2:V[i2]? =some (pt v2 p2)) (o:mB N p0 p1 p2=some res):
    Calls bB 73 [v0,v1,v2].toArray w (gr (bA E V res)):=by
 unfold mB at o
 refine enter Tryz.func73 zr zr ?_
 have j:=((j.dup (i0+0) h0).uC (i:=i1+1) h1).uC (i:=i2+2) h2
 refine RC.sr (RL.cQ 2 v0 j zr fun ad w j=>?_)
 refine aM (vb false) (RL.nq (RC.zA mixed ?_))
 have j:=j.drew
 refine RO.go (RL.bH zr oI (RO.nx (RL.aP 0 j zr j3 dE (RO.nx (RL.bC 2 p1 j fU fun ae j=>(RO.nx (RL.bQ p2 2 j dE (RO.nx ?_))))))))
 obtain⟨aa,ab,o⟩:=bd o
 refine RL.cA 0 j fV ab fun af j=>(RO.nx (RL.bQ aa 0 j dE (RO.nx (ic p0.Y1 aa (RO.nx (aM (vb (decide (p0.Y1<=aa))) (RO.last (aG ?_))))))))
 refine RC.ret ?_
 obtain rfl:=oi o
 exact bU ⟨rfl,j.drop 6⟩
def qg (E:World) (V:List HP) (r:Int) (U:Nat->Value) (w:World):Prop:=mu bB 19 Tryz.f116 (aH E V r) .ret U w
theorem pL {p0: (List aJ)} {p1:aJ->Option Bool} (j:Holds E w V) (h0:V[i0]? =some (rd v0 p0)) (h1:Ef bB E V v1 p1 (fun(r:Bool)=>Value.bool r)) (o:kK N p0 p1=some res):
    Calls bB 116 [v0,v1].toArray w (gr (aH E V res)):=by
 unfold kK at o
 refine enter Tryz.func116 zr zr ?_
 have j:=j.dup (i0+0) h0
 refine RC.sr (aM (vi 0) (RL.nq (RC.sr (mv v0 (RL.bF 0 p0 j sB (mv (vi 0) (RL.nt ?_)))))))
 obtain⟨al,hN,o⟩:=bd o
 refine RC.range (fun(aa:Nat) (ab:Unit)=>SH E V [(0,v0),(1,v1),(7,vi p0.length),(8,vi aa)] [rd v0 p0]) (fun(ab:Unit)=>SH E V [] [rd v0 p0]) (qg E V) hN ?_ ?_ ?_ ?_ ?_
 ·exact j.sp 1 [0]
 ·rintro hm ab _ w ⟨O,rfl,j⟩
  refine RC.sr (ic ((p0.length:Int)) ((p0.length:Int)) (RL.nq (RC.cP mz (RC.ex ?_))))
  exact⟨rfl,j.sp 1 [0]⟩
 ·rintro hm aa ab fl _ w hk ⟨O,rfl,j⟩ o
  refine RC.sr (ic ((aa:Int)) ((p0.length:Int)) (RL.nq (RC.cO (my hk) (RC.ss (RC.bs (mv (vi aa) (aM (vi aa) (RL.ns ?_))))))))
  refine mv v1 (mv v0 (mv (vi aa) ?_))
  obtain⟨ag,ah,o⟩:=bd o
  refine RL.cA 0 j mH ah fun ao j=>(RL.bC 0 ag j jf fun aq j=>?_)
  obtain⟨ar,ai,o⟩:=bd o
  refine RL.uB 0 j h1 3 ai fun w j=>(RL.nt (eH o (fun hc o=>?_) fun hc o=>?_))
  rotate_left
  ·refine RC.skip (bO (aG (RC.region (RL.inc hk hm (mv (vi ((aa+1:Nat):Int)) (RL.nil ?_))))))
   obtain rfl:=oi o
   exact⟨rfl,j.sp 3 [2]⟩
  refine RC.sr (mv (vi aa) (aM (vi aa) (RL.nt (RC.rb (bN ?_)))))
  obtain rfl:=oi o
  exact⟨rfl,bU ⟨rfl,j.drop 3⟩⟩
 ·intro r U w e hK
  subst e
  refine bN ?_
  obtain rfl:=oi o
  exact hK
 rintro ab _ w rfl ⟨O,rfl,j⟩
 rw [Fo.fW] at o
 refine aG (RC.sr (aM (vi (-1)) (RL.nt (RC.ret ?_))))
 obtain rfl:=oi o
 exact bU ⟨rfl,j.drop 1⟩
def ll (E:World) (V:List HP) (v0:Value) (p0: (List aJ)) (res:Int) (v:Value) (w:World):Prop:=v= (vi res)/\Holds E w ([own 83 v0 p0]++V)
def oM (E:World) (V:List HP) (v0:Value) (p0: (List aJ)) (r:Int) (U:Nat->Value) (w:World):Prop:=mu bB 19 Tryz.f116 (ll E V v0 p0 r) .ret U w
theorem oe {p0: (List aJ)} {p1:aJ->Option Bool} (o:Holds E w (own 83 v0 p0::V)) (h1:Ef bB E V v1 p1 (fun(r:Bool)=>Value.bool r)) (j:jL N p0 p1=some res):
    Calls bB 116 [v0,v1].toArray w (gr (ll E V v0 p0 res)):=by
 unfold jL at j
 refine enter Tryz.func116 zr zr (RC.sr (aM (vi 0) (RL.nq (RC.sr (mv v0 (RL.eO 0 p0 o sB (mv (vi 0) (RL.nt ?_))))))))
 obtain⟨ak,hN,j⟩:=bd j
 refine RC.range (fun(aa:Nat) (ab:Unit)=>SH E V [(0,v0),(1,v1),(7,vi p0.length),(8,vi aa)] [own 83 v0 p0]) (fun(ab:Unit)=>SH E V [(0,v0)] [own 83 v0 p0]) (oM E V v0 p0) hN ?_ ?_ ?_ ?_ ?_
 ·exact o.sp 1 [0]
 ·rintro hm ab _ w ⟨O,rfl,o⟩
  refine RC.sr (ic ((p0.length:Int)) ((p0.length:Int)) (RL.nq (RC.cP mz (RC.ex ?_))))
  exact⟨rfl,o.sp 1 [0]⟩
 ·rintro hm aa ab fl _ w hk ⟨O,rfl,o⟩ j
  refine RC.sr (ic ((aa:Int)) ((p0.length:Int)) (RL.nq (RC.cO (my hk) (RC.ss (RC.bs (mv (vi aa) (aM (vi aa) (RL.ns ?_))))))))
  refine mv v1 (mv v0 (mv (vi aa) ?_))
  obtain⟨an,ad,j⟩:=bd j
  refine RL.bY 0 o zr zr mH ad (RL.kh (f:=(fun x=>x)) 0 o (kC 0 o ad 0) (bG ad).2.1 Fd.self jf fun ao o=>?_)
  obtain⟨aq,ah,j⟩:=bd j
  refine RL.uB 0 o h1 2 ah fun w o=>(RL.nt (eH j (fun hc j=>?_) fun hc j=>?_))
  rotate_left
  ·refine RC.skip (bO (aG (RC.region (RL.inc hk hm (mv (vi ((aa+1:Nat):Int)) (RL.nil ?_))))))
   obtain rfl:=oi j
   exact⟨rfl,o.sp 2 [1]⟩
  refine RC.sr (mv (vi aa) (aM (vi aa) (RL.nt (RC.rb (bN ?_)))))
  obtain rfl:=oi j
  exact⟨rfl,bU ⟨rfl,o.pk 2 [1]⟩⟩
 ·intro r U w e hK
  subst e
  refine bN ?_
  obtain rfl:=oi j
  exact hK
 rintro ab _ w rfl ⟨O,rfl,o⟩
 rw [Fo.fW] at j
 refine aG (RC.sr (aM (vi (-1)) (RL.nt (RC.ret ?_))))
 obtain rfl:=oi j
 exact bU ⟨rfl,o.pk 1 [0]⟩
theorem o0 {p0: (List aJ)} {p1:aJ->Option Bool} {res: (List aJ)} (j:Holds E w (own 83 v0 p0::V)) (h1:Ef bB E V v1 p1 (fun(r:Bool)=>Value.bool r)) (o:gA N p0 p1=some res):
    Calls bB 72 [v0,v1].toArray w (gr (lR E V res)):=by
 unfold gA at o
 refine enter Tryz.func72 zr zr (RC.sr (aM (.slice none 0 0) (RL.ns (mv v0 (mv v1 ?_)))))
 have j:=j.pull 0
 obtain⟨ad,aj,o⟩:=bd o
 refine RL.call zt zr Jj [v0,v1] zr (aF (oe N j (h1.lift 1 zr) aj) ?_)
 rintro _ w ⟨rfl,j⟩
 refine aM (vi ad) (RL.nq (RC.sr (mv (vi ad) (ic ad ((-1)) (RL.nt (eH o (fun hc o=>?_) fun hc o=>?_))))))
 ·refine RC.sr (mv v0 (aM v0 (RL.nt (RC.rt ?_))))
  obtain rfl:=oi o
  exact bU (j.pk 2 [0])
 refine RC.ss (RC.sr (mv (vi ad) (RL.jQ ad 1 (aM (vi (IntKind.wrap .i64 (ad+1))) (RL.nt ?_)))))
 obtain⟨ar,hN,o⟩:=bd o
 refine RC.iter (fun(aa: (List aJ)×Int×Int)=>SH E V [(0,v0),(1,v1),(5,vi aa.2.1),(6,vi aa.2.2)] [own 83 v0 aa.1]) (fun(aa: (List aJ)×Int×Int)=>SH E V [(0,v0),(5,vi aa.2.1)] [own 83 v0 aa.1]) (fun(r:Empty) _ _=>r.elim) hN ?_ ?_ ?_ ?_
 ·exact j.sp 2 [0]
 ·rintro aa fl _ w ⟨O,rfl,j⟩ o
  refine RC.seq (RC.sr (mv (vi aa.2.2) (mv v0 (RL.eO 0 aa.1 j sB (ic aa.2.2 ((aa.1.length:Int)) (RL.nt (eH o (fun hc o=>?_) fun hc o=>?_)))))))
  rotate_left
  ·refine RC.ex ?_
   obtain rfl:=oi o
   exact⟨rfl,j.sp 1 [0]⟩
  refine RC.ss (RC.bs (mv v0 (mv (vi aa.2.2) ?_)))
  obtain⟨av,ag,o⟩:=bd o
  refine RL.bY 0 j zr zr mH ag (RL.kh (f:=(fun x=>x)) 0 j (kC 0 j ag 0) (bG ag).2.1 Fd.self jf fun aw j=>?_)
  refine RL.alloc j pH.z fun ax w j=>?_
  refine RL.bD 0 j 1 zr jf fun w j=>?_
  refine RL.ns (mv v1 (RL.aN (f:=(fun x=>x)) 0 j zr Fd.self jf fun ay j=>?_))
  obtain⟨al,an,o⟩:=bd o
  refine RL.uB 0 j h1 4 an fun w j=>(RL.not al (RL.nt ?_))
  obtain⟨af,hj,o⟩:=bd o
  refine RC.jn (fun(af: (List aJ)×Int)=>SH E V [(0,v0),(1,v1),(5,vi af.2),(6,vi aa.2.2)] [own 83 v0 af.1]) af ?_ ?_
  ·refine eH hj (fun hc hj=>?_) fun hc hj=>?_
   rotate_left
   ·refine RC.skip ?_
    obtain rfl:=oi hj
    exact⟨rfl,j.sp 4 [3]⟩
   refine RC.sr (mv v0 (mv (vi aa.2.1) (RL.aN (f:=(fun x=>x)) 1 j zr Fd.self jf fun az j=>?_)))
   obtain⟨a0,ah,hj⟩:=bd hj
   refine RL.bY 4 j zr zr mH ah (RL.iH (f:=(fun _ y=>y)) 4 0 j (kC 4 j ah 0) (bG ah).2.1 zr Fs.self jf fun w j=>?_)
   refine RL.nt (RC.region (mv (vi aa.2.1) (RL.jQ aa.2.1 1 (aM (vi (IntKind.wrap .i64 (aa.2.1+1))) (RL.nil ?_)))))
   obtain rfl:=oi hj
   exact⟨rfl,j.sp 5 [4]⟩
  rintro _ w ⟨O,rfl,j⟩
  refine bO (aG (RC.region (mv (vi aa.2.2) (RL.jQ aa.2.2 1 (aM (vi (IntKind.wrap .i64 (aa.2.2+1))) (RL.nil ?_))))))
  obtain rfl:=oi o
  exact⟨rfl,j.sp 1 [0]⟩
 ·intro r _ _ _ _
  exact r.elim
 rintro aa _ w rfl ⟨O,rfl,j⟩
 rw [Fo.fW] at o
 refine aG (RC.sr (mv v0 (mv (vi aa.2.1) ?_)))
 obtain⟨a1,ai,o⟩:=bd o
 refine RL.view 0 aa.2.1 zr j zr zr mH ai (RL.B0 0 zt j zr zr Ff ME (Gy ai) fun w j=>(RL.ns (mv v0 (mv (vi aa.2.1) ?_))))
 obtain⟨a2,ao,o⟩:=bd o
 refine RL.xR 0 zr j zr zr mH (.inr ⟨rfl,zr⟩) ao fun aq j=>(aM aq (RL.nt (RC.ret ?_)))
 obtain rfl:=oi o
 exact bU (j.pk 1 [0])
theorem rN {p0 p1:aJ} (j:Holds E w V) (h0:V[i0]? =some (rd v0 p0)) (h1:V[i1]? =some (rd v1 p1)) (o:fY N p0 p1=some res):
    Calls bB 118 [v0,v1].toArray w (gr (aH E V res)):=by
 unfold fY at o
 refine enter Tryz.func118 zr zr ?_
 have j:=(j.dup (i0+0) h0).dup (i1+1) h1
 refine RC.sr (RL.cQ 1 v0 j zr fun aa w j=>?_)
 refine RL.cQ 1 v1 j zr fun ab w j=>?_
 refine aM (vi 0) (RL.ns (RL.bH zr kn (RL.aP 1 j zr fK dE (RL.bH zr kn (RL.aP 0 j zr fK dE (RL.jQ p0.X0 p1.X0 (aM (vi (IntKind.wrap .i64 (p0.X0 - p1.X0))) (RL.nt ?_))))))))
 refine RC.ret ?_
 obtain rfl:=oi o
 exact bU ⟨rfl,j.drop 4⟩
def vN (E:World) (V:List HP) (v0:Value) (res: (List Int)×(List aJ)) (v:Value) (w:World):Prop:=Holds E w ([own 3 v res.1,own 83 v0 res.2]++V)
theorem uP {p0: (List aJ)} {res: (List Int)×(List aJ)} (j:Holds E w (own 83 v0 p0::V)) (hb:iC N p0=some res):
    Calls bB 75 [v0].toArray w (gr (vN E V v0 res)):=by
 unfold iC at hb
 refine enter Tryz.func75 zr zr (RC.sr (aM (.slice none 0 0) (RL.ns (mv v0 ?_))))
 obtain⟨af,a1,hb⟩:=bd hb
 have j:=j.pull 0
 refine RL.call zt zr KO [v0,(.func (.func 118) #[] #[])] zr (aF (Be Tryz.lay68 aJ zr jf.HZ jf.sz KR (fun j hi o hr=>rN N j hi o hr) j a1) ?_)
 rintro _ w ⟨rfl,j⟩
 refine RL.ns (aM (.slice none 0 0) (RL.nq (RC.sr (mv v0 (RL.eO 0 af j sB (mv (vi 0) (RL.nt ?_)))))))
 have j:=j.cW Int 3
 obtain⟨aa,hN,hb⟩:=bd hb
 refine RC.fold (fun(ah:Nat) (aa: (List Int)) U w=>∃av:Value,SH E V [(0,v0),(3,av),(9,v0),(10,vi af.length),(11,vi ah)] [own 83 v0 af,own 3 av aa] U w) (fun(aa: (List Int)) U w=>∃ai:Value,SH E V [(0,v0),(3,ai)] [own 83 v0 af,own 3 ai aa] U w) hN ?_ ?_ ?_ ?_
 ·exact⟨(.slice none 0 0),j.sp 3 [1,0]⟩
 ·rintro hm aa _ w ⟨a3,O,rfl,j⟩
  refine RC.sr (ic ((af.length:Int)) ((af.length:Int)) (RL.nq (RC.cP mz (RC.ex ?_))))
  exact⟨rfl,a3,j.sp 2 [0,1]⟩
 ·rintro hm ah aa s' _ w hk ⟨ag,O,rfl,j⟩ hb
  refine RC.sr (ic ((ah:Int)) ((af.length:Int)) (RL.nq (RC.cO (my hk) (RC.ss (RC.bs ?_)))))
  obtain⟨ae,ak,hb⟩:=bd hb
  refine RL.bY 0 j zr zr mH ak (RL.kh (f:=(fun x=>x)) 0 j (kC 0 j ak 0) (bG ak).2.1 Fd.self jf fun a6 j=>?_)
  refine RL.alloc j pH.z fun ay w j=>?_
  refine RL.bD 0 j 1 zr jf fun w j=>?_
  refine RL.ns (mv ag (RL.eO 3 aa j nC (RL.jQ (aa.length:Int) 1 (aM (vi (IntKind.wrap .i64 ((aa.length:Int) - 1))) (RL.nq ?_)))))
  obtain⟨al,o,hb⟩:=bd hb
  refine RC.jn (fun(al:Bool)=>SH E V [(0,v0),(3,ag),(5,vp ay 0),(6,(vi (IntKind.wrap .i64 ((aa.length:Int) - 1)))),(9,v0),(10,vi af.length),(11,vi ah),(28,vb al)] [own 83 v0 af,own 3 ag aa,bx 83 ay ae]) al ?_ ?_
  ·refine RC.zA mixed ?_
   have j:=j.drew
   refine RO.go (mv (vi (IntKind.wrap .i64 ((aa.length:Int) - 1))) (RO.nx (ic ((IntKind.wrap .i64 ((aa.length:Int) - 1))) 0 (RO.nx (mv (vb (decide ((IntKind.wrap .i64 ((aa.length:Int) - 1))>=0))) (gZ o (fun ab o=>?_) fun ab o=>?_))))))
   rotate_left
   ·refine RO.nx (bZ ab (RO.nx (bZ ab (RO.nx (bZ ab (RO.nx (bZ ab (RO.nx ?_))))))))
    refine bZ ab (RO.nx (bZ ab (RO.nx (bZ ab (RO.nx (g9 ab (vb false) (RO.last ?_)))))))
    obtain rfl:=oi o
    exact⟨rfl,j.sp 4 [2,3,0]⟩
   refine RO.nx (RL.bH (hg:=(cg ab)) zr kn (RO.nx (RL.aP (hg:=(cg ab)) 0 j zr fK dE (RO.nx (RL.move ag (cg ab) (RO.nx (RL.move (vi (IntKind.wrap .i64 ((aa.length:Int) - 1))) (cg ab) (RO.nx ?_))))))))
   obtain⟨az,an,o⟩:=bd o
   refine RL.bY (hg:=(cg ab)) 3 j zr zr fV an (RO.nx (RL.dX (hg:=(cg ab)) (f:=(fun x=>x)) 3 j (kC 3 j an 0) (bG an).2.1 Fd.self dE (RO.nx (RL.kI ae.X0 az (cg ab) (RO.nx (g9 ab (vb (decide (ae.X0<=az))) (RO.last ?_)))))))
   obtain rfl:=oi o
   exact⟨rfl,j.sp 4 [2,3,0]⟩
  rintro _ w ⟨O,rfl,j⟩
  refine aG ?_
  obtain⟨ao,o,hb⟩:=bd hb
  refine RC.jn (fun(ao: (List Int)) U w=>∃aj:Value,SH E V [(0,v0),(3,aj),(9,v0),(10,vi af.length),(11,vi ah)] [own 83 v0 af,own 3 aj ao] U w) ao ?_ ?_
  ·refine eH o (fun hc o=>?_) fun hc o=>?_
   rotate_left
   ·refine RC.region (mv ag (RL.bH zr kn (RL.aP 2 j zr fK dE (RL.bH zr ld (RL.aP 2 j zr gE dE ?_)))))
    have j:=(j.sc Int ae.X0).sc Int ae.X1
    refine RL.eF ([ae.X0,ae.X1]: (List Int)) j [(vi ae.X0),(vi ae.X1)] fV H5 (fun M hs g=>⟨(g.sat 1 _ zr).1,⟨(g.sat 0 _ zr).1,zt⟩⟩) fun a7 w j=>?_
    have j:=j.freeze 0
    obtain⟨a8,a5,o⟩:=bd o
    refine RL.app 4 0 j wL a5 fun a0 w j=>?_
    refine aM a0 (RL.nil ?_)
    obtain rfl:=oi o
    exact⟨rfl,a0,j.sp 6 [3,4]⟩
   refine RC.Cg mixed [0,0,0,0,0,0,0,0,0,0,2] [0,1,2,3,4,5,6,7,8,9,10] ?_
   have j:=j.drew
   refine DP.e0 zr (mv ag (dA zr (mv (vi (IntKind.wrap .i64 ((aa.length:Int) - 1))) (dA zr (mv ag (dA zr (mv (vi (IntKind.wrap .i64 ((aa.length:Int) - 1))) (dA zr ?_))))))))
   obtain⟨aq,ar,o⟩:=bd o
   refine RL.bY 1 j zr zr fV ar (dA zr (RL.dX (f:=(fun x=>x)) 1 j (kC 1 j ar 0) (bG ar).2.1 Fd.self dE (dA zr (RL.bH zr ld (dA zr (RL.aP 2 j zr gE dE (dA zr (RL.max aq ae.X1 ?_))))))))
   refine dA zr ?_
   obtain⟨a9,au,o⟩:=bd o
   refine RL.bY 1 j zr zr fV au (xt zr ?_)
   have j:=j.sc Int (if aq<ae.X1 then ae.X1 else aq)
   refine RL.iH (f:=(fun _ y=>y)) 2 0 j (kC 2 j au 0) (bG au).2.1 zr Fs.self dE fun w j=>?_
   refine DP.d2 zt (DP.z ?_)
   obtain rfl:=oi o
   exact⟨rfl,ag,j.sp 4 [1,2]⟩
  rintro _ w ⟨aj,O,rfl,j⟩
  refine bO (aG (RC.region (RL.inc hk hm (mv (vi ((ah+1:Nat):Int)) (RL.nil ?_)))))
  obtain rfl:=oi hb
  exact⟨rfl,aj,j.sp 2 [0,1]⟩
 rintro _ w ⟨ai,O,rfl,j⟩
 refine aG (RC.sr (mv ai (aM ai (RL.nt (RC.ret ?_)))))
 obtain rfl:=oi hb
 exact bU (j.pk 2 [1,0])
def uQ (E:World) (V:List HP) (r:Bool) (U:Nat->Value) (w:World):Prop:=mu bB 26 Tryz.f117 (bA E V r) .ret U w
theorem t3 {p0: (List Int)} {p1: (List Int)} {res:Bool} (j:Holds E w V) (h0:V[i0]? =some (rd v0 p0)) (h1:V[i1]? =some (rd v1 p1)) (o:lF N p0 p1=some res):
    Calls bB 117 [v0,v1].toArray w (gr (bA E V res)):=by
 unfold lF at o
 refine enter Tryz.func117 zr zr ?_
 have j:=(j.dup (i0+0) h0).dup (i1+1) h1
 refine RC.sr (aM (vb false) (RL.nq (RC.sr (mv v0 (RL.bF 1 p0 j nC (mv v1 (RL.bF 0 p1 j nC (ic ((p0.length:Int)) ((p1.length:Int)) ?_))))))))
 refine RL.nt (eH o (fun hc o=>?_) fun hc o=>?_)
 ·refine RC.sr (aM (vb false) (RL.nt (RC.rt ?_)))
  obtain rfl:=oi o
  exact bU ⟨rfl,j.drop 2⟩
 refine RC.ss (RC.sr (mv v0 (RL.bF 1 p0 j nC (mv (vi 0) (RL.nt ?_)))))
 obtain⟨an,hN,o⟩:=bd o
 refine RC.range (fun(aa:Nat) (ab:Unit)=>SH E V [(0,v0),(1,v1),(12,vi p0.length),(13,vi aa)] [rd v0 p0,rd v1 p1]) (fun(ab:Unit)=>SH E V [] [rd v0 p0,rd v1 p1]) (uQ E V) hN ?_ ?_ ?_ ?_ ?_
 ·exact j.sp 2 [1,0]
 ·rintro hm ab _ w ⟨O,rfl,j⟩
  refine RC.sr (ic ((p0.length:Int)) ((p0.length:Int)) (RL.nq (RC.cP mz (RC.ex ?_))))
  exact⟨rfl,j.sp 2 [0,1]⟩
 ·rintro hm aa ab fl _ w hk ⟨O,rfl,j⟩ o
  refine RC.sr (ic ((aa:Int)) ((p0.length:Int)) (RL.nq (RC.cO (my hk) (RC.ss (RC.bs (mv (vi aa) (aM (vi aa) (RL.nq ?_))))))))
  refine RC.zA mixed ?_
  have j:=j.drew
  refine RO.go (mv v0 (RO.nx (mv (vi aa) (RO.nx ?_))))
  obtain⟨ag,aj,o⟩:=bd o
  refine RL.cA 0 j fV aj fun aq j=>(RO.nx (RL.bQ ag 0 j dE (RO.nx (mv v1 (RO.nx (mv (vi aa) (RO.nx ?_)))))))
  obtain⟨ah,ak,o⟩:=bd o
  refine RL.cA 2 j fV ak fun ar j=>(RO.nx (RL.bQ ah 0 j dE (RO.nx (ic ag ah (RO.last (aG (eH o (fun hc o=>?_) fun hc o=>?_)))))))
  rotate_left
  ·refine RC.skip (bO (aG (RC.region (RL.inc hk hm (mv (vi ((aa+1:Nat):Int)) (RL.nil ?_))))))
   obtain rfl:=oi o
   exact⟨rfl,j.sp 4 [2,3]⟩
  refine RC.sr (aM (vb false) (RL.nt (RC.rb (bN ?_))))
  obtain rfl:=oi o
  exact⟨rfl,bU ⟨rfl,j.drop 4⟩⟩
 ·intro r U w e hK
  subst e
  refine bN ?_
  obtain rfl:=oi o
  exact hK
 rintro ab _ w rfl ⟨O,rfl,j⟩
 rw [Fo.fW] at o
 refine aG (RC.sr (aM (vb true) (RL.nt (RC.ret ?_))))
 obtain rfl:=oi o
 exact bU ⟨rfl,j.drop 2⟩
theorem pq {p0: (List aA)} {p1:aA} {res: (List aA)} (j:Holds E w (own 153 v0 p0::V)) (h1:V[i1]? =some (rd v1 p1)) (hb:gY N p0 p1=some res):
    Calls bB 74 [v0,v1].toArray w (gr (lJ E V res)):=by
 unfold gY at hb
 refine enter Tryz.func74 zr zr ?_
 have j:=j.dup (i1+1) h1
 refine RC.sr (RL.cQ 0 v1 j zr fun ae w j=>?_)
 refine aM (.slice none 0 0) (RL.nq (RC.sr (RL.bH zr kO (RL.aN 0 j zr dF fU fun aw j=>(RL.bF 0 p1.Xs j nC (ic ((p1.Xs.length:Int)) 0 (mv (vb ((p1.Xs.length:Int)==0)) (RL.gs true ((p1.Xs.length:Int)==0) (vp ae 1) zr zr zr (fA mc) ?_))))))))
 refine RL.gs true ((p1.Xs.length:Int)==0) (vi p1.Y1) rfl rfl rfl (cL 1 rfl j (fun h=>by exact(dI h:cv (true&&(((p1.Xs.length:Int)==0)==false)) (vp ae 1)= (vp ae 1))) rfl eK dE) (RL.gs true ((p1.Xs.length:Int)==0) (vp ae 0) rfl rfl rfl (fA n8) (RL.gs true ((p1.Xs.length:Int)==0) (vi p1.Y0) rfl rfl rfl (cL 1 rfl j (fun h=>by exact(dI h:cv (true&&(((p1.Xs.length:Int)==0)==false)) (vp ae 0)= (vp ae 0))) rfl fT dE) (RL.gs true ((p1.Xs.length:Int)==0) (vb (decide (p1.Y1<=p1.Y0))) rfl rfl rfl (eM .leq .i64 p1.Y1 p1.Y0 rfl (fun h=>by exact(dI h:cv (true&&(((p1.Xs.length:Int)==0)==false)) (vi p1.Y1)= (vi p1.Y1))) (fun h=>by exact(dI h:cv (true&&(((p1.Xs.length:Int)==0)==false)) (vi p1.Y0)= (vi p1.Y0))) rfl) (RL.pick ((p1.Xs.length:Int)==0) (vb (((p1.Xs.length:Int)==0)||(decide (p1.Y1<=p1.Y0)))) (nz true) (RL.nt (eH hb (fun hc hb=>?_) fun hc hb=>?_))))))
 ·refine RC.sr (mv v0 (aM v0 (RL.nt (RC.rt ?_))))
  obtain rfl:=oi hb
  exact bU (j.pk 4 [3])
 refine RC.ss (RC.sr (mv v0 (RL.eO 3 p0 j nU (RL.jQ (p0.length:Int) 1 (aM (vi (IntKind.wrap .i64 ((p0.length:Int) - 1))) (RL.nq ?_))))))
 obtain⟨aj,hj,hb⟩:=bd hb
 refine RC.jn (fun(aj:Bool)=>SH E V [(0,v0),(3,vp ae 0),(5,(vi (IntKind.wrap .i64 ((p0.length:Int) - 1)))),(42,vb aj)] [own 153 v0 p0,bx 153 ae p1]) aj ?_ ?_
 ·refine RC.Cg mixed [0,0,0,0,0,0,0,0,0,0,0,0,0,0,0,0,0,0,0,0,2,0] [0,1,2,3,4,5,6,7,8,9,10,11,12,13,14,15,16,17,18,19,20,21] ?_
  have j:=j.drew
  refine DP.e0 zr (mv (vi (IntKind.wrap .i64 ((p0.length:Int) - 1))) (dA zr (ic ((IntKind.wrap .i64 ((p0.length:Int) - 1))) 0 (dA zr (mv (vb (decide ((IntKind.wrap .i64 ((p0.length:Int) - 1))>=0))) (DP.d0 (gZ hj (fun o hj=>?_) fun o hj=>?_)))))))
  rotate_left
  ·refine DP.e0 zr (bZ o (dA zr (bZ o (dA zr (bZ o (dA zr (bZ o (dA zr ?_))))))))
   refine bZ o (dA zr (bZ o (dA zr (bZ o (dA zr (bZ o (dA zr (g9 o (vb false) ?_))))))))
   refine dA zr (mv (vb false) (dA zr (oG (dA zr (oG (dA zr (oG (dA zr ?_))))))))
   refine oG (dA zr (oG (dA zr (oG (dA zr (oG (xt zr (oG ?_))))))))
   refine Dh zr (RL.pick false (vb false) zr (DP.d0 (DP.z ?_)))
   obtain rfl:=oi hj
   exact⟨rfl,j.sp 4 [3,1]⟩
  refine DP.e0 zr (RL.move v0 (cg o) (dA zr (RL.move (vi (IntKind.wrap .i64 ((p0.length:Int) - 1))) (cg o) (dA zr ?_))))
  obtain⟨ak,af,hj⟩:=bd hj
  refine RL.bY (hg:=(cg o)) 3 j zr zr ky af (dA zr (RL.m4 (hg:=(cg o)) (α:=aA) (kC 3 j af 0) mc (dA zr (RL.dX (hg:=(cg o)) 3 j (kC 3 j af 1) (bG af).2.1 eK dE (dA zr (RL.bH (hg:=(cg o)) zr n8 (dA zr (RL.aP (hg:=(cg o)) 1 j zr fT dE ?_))))))))
  refine dA zr (RL.kI ak.Y1 p1.Y0 (cg o) (dA zr (g9 o (vb (ak.Y1==p1.Y0)) (dA zr (mv (vb (ak.Y1==p1.Y0)) (DP.d0 (gZ hj (fun aa hj=>?_) fun aa hj=>?_)))))))
  rotate_left
  ·refine DP.e0 zr (bZ aa (dA zr (bZ aa (dA zr (bZ aa (dA zr (bZ aa (dA zr ?_))))))))
   refine bZ aa (dA zr (bZ aa (dA zr (bZ aa (xt zr (bZ aa (Dh zr (g9 aa (vb false) ?_))))))))
   refine DP.d0 (DP.z ?_)
   obtain rfl:=oi hj
   exact⟨rfl,j.sp 4 [3,1]⟩
  refine DP.e0 zr (RL.move v0 (cg aa) (dA zr (RL.move (vi (IntKind.wrap .i64 ((p0.length:Int) - 1))) (cg aa) (dA zr ?_))))
  obtain⟨ax,ag,hj⟩:=bd hj
  refine RL.bY (hg:=(cg aa)) 3 j zr zr ky ag (dA zr (RL.m4 (hg:=(cg aa)) (α:=aA) (kC 3 j ag 0) kO (dA zr (RL.kh (hg:=(cg aa)) 3 j (kC 3 j ag 2) (bG ag).2.1 dF fU fun al j=>?_))))
  refine dA zr (RL.bH (hg:=(cg aa)) zr kO (dA zr (RL.aN (hg:=(cg aa)) 2 j zr dF fU fun an j=>(xt zr ?_))))
  obtain⟨ao,aq,hj⟩:=bd hj
  refine RL.call (cg aa) zr KS [al,an] zr (aF (t3 N (i0:=1) (i1:=0) j zr zr aq) ?_)
  rintro _ w ⟨rfl,j⟩
  refine Dh zr (g9 aa (vb ao) (DP.d0 (DP.z ?_)))
  obtain rfl:=oi hj
  exact⟨rfl,j.sp 6 [5,3]⟩
 rintro _ w ⟨O,rfl,j⟩
 refine aG (eH hb (fun hc hb=>?_) fun hc hb=>?_)
 rotate_left
 ·refine RC.sx (mv v0 (RL.aN (f:=(fun x=>x)) 1 j zr Fd.self vF fun ar j=>(RL.eF ([p1]: (List aA)) j [ar] ky Cp (fun M hs g=>⟨(g.sat 0 _ zr).1,zt⟩) fun ay w j=>?_)))
  have j:=j.freeze 0
  obtain⟨az,au,hb⟩:=bd hb
  refine RL.app 2 0 j KT au fun av w j=>?_
  refine aM av (RL.nt (RC.ret ?_))
  obtain rfl:=oi hb
  exact bU (j.pk 4 [2])
 refine RC.sr (mv v0 (mv (vi (IntKind.wrap .i64 ((p0.length:Int) - 1))) (RL.bH zr mc (RL.aP 1 j zr eK dE ?_))))
 obtain⟨a0,ah,hb⟩:=bd hb
 refine RL.bY 0 j zr zr ky ah (RL.m4 (α:=aA) (kC 0 j ah 0) mc ?_)
 have j:=j.sc Int p1.Y1
 refine RL.iH 1 0 j (kC 1 j ah 1) (bG ah).2.1 zr nO dE fun w j=>?_
 refine RL.ns (mv v0 (aM v0 (RL.nt (RC.rt ?_))))
 obtain rfl:=oi hb
 exact bU (j.pk 3 [1])
theorem ln {p0: (List aJ)} {res: (List aA)} (o:Holds E w V) (h0:V[i0]? =some (rd v0 p0)) (hb:gj N p0=some res):
    Calls bB 34 [v0].toArray w (gr (lJ E V res)):=by
 unfold gj at hb
 refine enter Tryz.func34 zr zr ?_
 have o:=o.dup (i0+0) h0
 refine RC.sr (aM (.slice none 0 0) (RL.ns (mv v0 ?_)))
 obtain⟨cf,bn,hb⟩:=bd hb
 refine RL.call zt zr MA [v0] zr (aF (sM N (i0:=0) o zr bn) ?_)
 rintro ae w o
 refine aM ae (RL.ns (mv ae ?_))
 obtain⟨ah,bo,hb⟩:=bd hb
 have o:=o.pull 0
 refine RL.call zt zr KO [ae,(.func (.func 69) #[] #[])] zr (aF (Be Tryz.lay68 aJ zr jf.HZ jf.sz MB (fun o hi hj hr=>vL N o hi hj hr) o bo) ?_)
 rintro _ w ⟨rfl,o⟩
 refine RL.ns (RL.vl zr o KP zr fun ag w o=>?_)
 refine RL.nq (RC.sr (mv ae (RL.eO 1 ah o sB (mv (vi 0) (RL.nt ?_)))))
 obtain⟨ao,hN,hb⟩:=bd hb
 refine RC.fold (fun(aw:Nat) (ao: (List Int)) U w=>∃a6:Value,SH E V [(0,ae),(3,vp ag 0),(14,ae),(15,vi ah.length),(16,vi aw)] [own 83 ae ah,bc 68 ag [a6],own 3 a6 ao] U w) (fun(ao: (List Int)) U w=>∃an:Value,SH E V [(0,ae),(3,vp ag 0)] [own 83 ae ah,bc 68 ag [an],own 3 an ao] U w) hN ?_ ?_ ?_ ?_
 ·have o:=o.cW Int 3
  exact⟨(.slice none 0 0),o.sp 5 [2,1,0]⟩
 ·rintro hm ao _ w ⟨bp,O,rfl,o⟩
  refine RC.sr (ic ((ah.length:Int)) ((ah.length:Int)) (RL.nq (RC.cP mz (RC.ex ?_))))
  exact⟨rfl,bp,o.sp 3 [0,1,2]⟩
 ·rintro hm aw ao s' _ w hk ⟨bq,O,rfl,o⟩ hb
  refine RC.sr (ic ((aw:Int)) ((ah.length:Int)) (RL.nq (RC.cO (my hk) (RC.ss (RC.bs ?_)))))
  obtain⟨aq,a1,hb⟩:=bd hb
  refine RL.bY 0 o zr zr mH a1 (RL.kh (f:=(fun x=>x)) 0 o (kC 0 o a1 0) (bG a1).2.1 Fd.self jf fun ch o=>?_)
  refine RL.alloc o pH.z fun cj w o=>?_
  refine RL.bD 0 o 1 zr jf fun w o=>?_
  refine RL.nt (RC.region (RL.bV 3 bq o fU (RL.bH zr k9 (RL.aP 0 o zr gl dE (RL.bH zr oI (RL.aP 0 o zr j3 dE ?_))))))
  have o:=(o.sc Int aq.Y0).sc Int aq.Y1
  refine RL.eF ([aq.Y0,aq.Y1]: (List Int)) o [(vi aq.Y0),(vi aq.Y1)] fV H5 (fun M hs g=>⟨(g.sat 1 _ zr).1,⟨(g.sat 0 _ zr).1,zt⟩⟩) fun ck w o=>?_
  have o:=o.freeze 0
  obtain⟨cl,br,hb⟩:=bd hb
  refine RL.app 7 0 o wL br fun a9 w o=>?_
  refine RL.jS 6 a9 o zr zr (ki 7 o) fU fun w o=>?_
  refine RL.nil (bO (aG (RC.region (RL.inc hk hm (mv (vi ((aw+1:Nat):Int)) (RL.nil ?_))))))
  obtain rfl:=oi hb
  exact⟨rfl,a9,o.sp 8 [5,6,7]⟩
 rintro _ w ⟨an,O,rfl,o⟩
 refine aG (RC.sr (RL.bV 1 an o fU ?_))
 obtain⟨cm,bt,hb⟩:=bd hb
 have o:=o.pull 2
 refine RL.call zt zr MC [an] zr (aF (Hk Tryz.lay70 o bt) ?_)
 rintro _ w ⟨rfl,o⟩
 refine RL.ns (RL.bV 2 an o fU ?_)
 have o:=o.pull 0
 obtain⟨ai,bu,hb⟩:=bd hb
 refine RL.call zt zr MD [an] zr (aF (rM N o bu) ?_)
 rintro bw w o
 refine RL.jS 3 bw o zr zr (ki 0 o) fU fun w o=>?_
 refine RL.ns (aM (.slice none 0 0) (RL.ns (aM (.slice none 0 0) (RL.ns (aM (vi 0) (RL.nq (RC.sr (RL.alloc o H5.z fun bz w o=>?_))))))))
 have o:=o.sc Int 0
 refine RL.bD 1 o 0 zr dE fun w o=>?_
 refine RL.nt ?_
 have o:=((((o.freeze 2).Gt (i:=5) (x:=ai) rfl (fun M hs g=>(r7 (g.sat 2 _ rfl).1))).hZ (i:=5) rfl).cW aA 153).cW aJ 83
 obtain⟨cn,hN,hb⟩:=bd hb
 refine RC.iter (fun(ab: (List aA)×(List aJ)×Int×Int) U w=>∃(ba bb:Value) (bf:Nat),SH E V [(0,ae),(3,vp ag 0),(6,ba),(7,bb),(8,vi ab.2.2.1),(9,vp bf 0)] [own 83 ae ah,pt (vp ag 0) ai,own 153 ba ab.1,own 83 bb ab.2.1,bx 3 bf ab.2.2.2] U w) (fun(ab: (List aA)×(List aJ)×Int×Int) U w=>∃av:Value,SH E V [(6,av)] [own 83 ae ah,pt (vp ag 0) ai,own 153 av ab.1] U w) (fun(r:Empty) _ _=>r.elim) hN ?_ ?_ ?_ ?_
 ·exact⟨(.slice none 0 0),(.slice none 0 0),bz,o.sp 9 [6,7,1,0,3]⟩
 ·rintro ab fl _ w ⟨ak,bg,al,O,rfl,o⟩ hb
  refine RC.seq (RC.sr (RL.aP (f:=(fun x=>x)) 4 o zr Fd.self dE (RL.jQ ab.2.2.2 1 (RL.bC 1 ai o fU fun cp o=>(RL.bF 0 ai o nC (ic ((IntKind.wrap .i64 (ab.2.2.2+1))) ((ai.length:Int)) (RL.nt (eH hb (fun hc hb=>?_) fun hc hb=>?_))))))))
  rotate_left
  ·refine RC.ex ?_
   obtain rfl:=oi hb
   exact⟨rfl,ak,o.sp 6 [1,2,3]⟩
  refine RC.ss (RC.bs (mv bg ?_))
  have o:=o.hZ (i:=5) rfl
  refine RL.makeFunc [(vp ag 0),(vp al 0)] ?_
  have o:=o.pull 4
  obtain⟨cq,b1,hb⟩:=bd hb
  refine RL.call trivial rfl MG [bg,(.func (.func 73) #[] #[(vp ag 0),(vp al 0)])] rfl (aF (o0 N o ⟨73,[(vp ag 0),(vp al 0)],rfl,MF,fun w Γl v y0 r i o hi hr=>by exact aF (vM N (i0:=i) (i1:=Γl.length+2) (i2:=Γl.length+5) o hi uA uA hr) fun _ _ h=>h⟩ b1) ?_)
  rintro bh w o
  refine aM bh (RL.nq ?_)
  obtain⟨cr,hN,hb⟩:=bd hb
  refine RC.iter (fun(af: (List aJ)×Int) U w=>∃bj:Value,SH E V [(0,ae),(3,vp ag 0),(6,ak),(7,bj),(8,vi af.2),(9,vp al 0)] [own 83 ae ah,pt (vp ag 0) ai,own 153 ak ab.1,pt (vp al 0) ab.2.2.2,own 83 bj af.1] U w) (fun(af: (List aJ)×Int) U w=>∃ar:Value,SH E V [(0,ae),(3,vp ag 0),(6,ak),(7,ar),(8,vi af.2),(9,vp al 0)] [own 83 ae ah,pt (vp ag 0) ai,own 153 ak ab.1,pt (vp al 0) ab.2.2.2,own 83 ar af.1] U w) (fun(r:Empty) _ _=>r.elim) hN ?_ ?_ ?_ ?_
  ·exact⟨bh,o.sp 7 [2,3,4,6,0]⟩
  ·rintro af fl _ w ⟨ax,O,rfl,o⟩ hb
   refine RC.seq (RC.seq ?_)
   obtain⟨a3,hj,hb⟩:=bd hb
   refine RC.jn (fun(a3:Bool)=>SH E V [(0,ae),(3,vp ag 0),(6,ak),(7,ax),(8,vi af.2),(9,vp al 0),(57,vb a3)] [own 83 ae ah,pt (vp ag 0) ai,own 153 ak ab.1,own 83 ax af.1,pt (vp al 0) ab.2.2.2]) a3 ?_ ?_
   ·refine RC.zA mixed ?_
    have o:=o.drew
    refine RO.go (mv (vi af.2) (RO.nx (mv ae (RO.nx (RL.eO 0 ah o sB (RO.nx (ic af.2 ((ah.length:Int)) (RO.nx ?_))))))))
    refine mv (vb (decide (af.2< (ah.length:Int)))) (gZ hj (fun ad hj=>?_) fun ad hj=>?_)
    rotate_left
    ·refine RO.nx (bZ ad (RO.nx (bZ ad (RO.nx (bZ ad (RO.nx (bZ ad (RO.nx ?_))))))))
     refine bZ ad (RO.nx (bZ ad (RO.nx (bZ ad (RO.nx (bZ ad (RO.nx (bZ ad ?_))))))))
     refine RO.nx (bZ ad (RO.nx (g9 ad (vb false) (RO.last ?_))))
     obtain rfl:=oi hj
     exact⟨rfl,o.sp 5 [0,1,2,4,3]⟩
    refine RO.nx (RL.move ae (cg ad) (RO.nx (RL.move (vi af.2) (cg ad) (RO.nx ?_))))
    obtain⟨bk,ay,hj⟩:=bd hj
    refine RL.bY (hg:=(cg ad)) 0 o zr zr mH ay (RO.nx (RL.m4 (hg:=(cg ad)) (α:=aJ) (kC 0 o ay 0) k9 (RO.nx (RL.dX (hg:=(cg ad)) 0 o (kC 0 o ay 1) (bG ay).2.1 gl dE (RO.nx (RL.bC (hg:=(cg ad)) 1 ai o fU fun ct o=>?_))))))
    refine RO.nx (RL.bQ (hg:=(cg ad)) ab.2.2.2 4 o dE (RO.nx ?_))
    obtain⟨a4,b2,hj⟩:=bd hj
    refine RL.cA (hg:=(cg ad)) 0 o fV b2 fun cu o=>(RO.nx (RL.bQ (hg:=(cg ad)) a4 0 o dE (RO.nx (RL.kI bk.Y0 a4 (cg ad) (RO.nx (g9 ad (vb (decide (bk.Y0<=a4))) (RO.last ?_)))))))
    obtain rfl:=oi hj
    exact⟨rfl,o.sp 7 [2,3,4,6,5]⟩
   rintro _ w ⟨O,rfl,o⟩
   refine aG (eH hb (fun hc hb=>?_) fun hc hb=>?_)
   rotate_left
   ·refine RC.ex ?_
    obtain rfl:=oi hb
    exact⟨rfl,ax,o.sp 5 [0,1,2,4,3]⟩
   refine RC.sn (RC.block (RC.region (mv ax (mv ae (mv (vi af.2) ?_)))))
   obtain⟨b3,a5,hb⟩:=bd hb
   refine RL.bY 0 o zr zr mH a5 (RL.kh (f:=(fun x=>x)) 0 o (kC 0 o a5 0) (bG a5).2.1 Fd.self jf fun b4 o=>?_)
   refine RL.eF ([b3]: (List aJ)) o [b4] mH pH (fun M hs g=>⟨(g.sat 0 _ zr).1,zt⟩) fun cv w o=>?_
   have o:=o.freeze 0
   obtain⟨cw,b5,hb⟩:=bd hb
   refine RL.app 5 0 o Ff b5 fun bl w o=>?_
   refine mv (vi af.2) (RL.jQ af.2 1 (aM bl (aM (vi (IntKind.wrap .i64 (af.2+1))) (RL.nil (bO ?_)))))
   obtain rfl:=oi hb
   exact⟨rfl,bl,o.sp 7 [2,3,4,6,5]⟩
  ·intro r _ _ _ _
   exact r.elim
  rintro af _ w rfl ⟨ar,O,rfl,o⟩
  rw [Fo.fW] at hb
  refine aG (RC.Cg mixed [1,1,1,1,1,1,1,1,1,1,0,2,0,2,0] [0,1,2,3,4,5,6,7,8,9,10,11,12,13,14] ?_)
  have o:=o.drew
  refine DP.e1 ak zr (fun w=>RL.move ak zt DP.d1) (DP.AU ai 1 zr zt o fU fun cx a305 cy o=>(DP.Es ab.2.2.2 5 zr zr zr o zr zr dE fun a307 cz o=>?_))
  obtain⟨az,b6,hb⟩:=bd hb
  refine DP.JN 2 zr zr zt zr o zr zr zr fV b6 fun c0 o=>(DP.Es az 0 zr zr zr o zr zr dE fun a311 c1 o=>(DP.AU ai 6 zr zt o fU fun c2 a314 c3 o=>(DP.Es ab.2.2.2 10 zr zr zr o zr zr dE fun a316 c4 o=>(DP.e1 (vi (IntKind.wrap .i64 (ab.2.2.2+1))) zr (fun w=>RL.jQ ab.2.2.2 1 DP.d1) ?_))))
  obtain⟨a0,b7,hb⟩:=bd hb
  refine DP.JN 2 zr zr zt zr o zr zr zr fV b7 fun c5 o=>(DP.Es a0 0 zr zr zr o zr zr dE fun a320 c6 o=>(DP.e0 zr (mv ar (xt zr ?_))))
  have o:=o.pull 14
  obtain⟨b8,b9,hb⟩:=bd hb
  refine RL.call zt zr MH [ar] zr (aF (uP N o b9) ?_)
  rintro ca w o
  refine DP.d2 (⟨⟨⟨⟨⟨⟨zt,o.m5 10⟩,o.m5 9⟩,o.m5 7⟩,o.m5 5⟩,o.m5 4⟩,o.m5 2⟩) (DP.e0 zr ?_)
  have o:=((o.sc Int az).sc Int a0).freeze 2
  refine RL.build (⟨az,a0,b8.1⟩:aA) trivial rfl o [(0,vi az),(1,vi a0),(2,ca)] rfl Jk rfl (fun M hs g=>by have h:=vB M;exact cZ.cons (f:=fun(x:aA) y=>{x with Y0:=y}) h rz (g.sat 1 _ rfl).1 fun _ h=>cZ.cons (f:=fun(x:aA) y=>{x with Y1:=y}) h nO (g.sat 0 _ rfl).1 fun _ h=>cZ.cons (f:=fun(x:aA) y=>{x with Xs:=y}) h rA (g.sat 2 _ rfl).1 fun _ h=>cZ.nil h) fun cb o=>?_
  refine xt zr ?_
  have o:=o.pull 17
  obtain⟨c7,cc,hb⟩:=bd hb
  refine RL.call zt zr KU [ak,cb] zr (aF (pq N (i1:=0) o zr cc) ?_)
  rintro bm w o
  refine DP.d2 (⟨⟨⟨⟨⟨⟨zt,o.m5 14⟩,o.m5 13⟩,o.m5 11⟩,o.m5 9⟩,o.m5 8⟩,o.m5 6⟩) (DP.e0 zr (aM bm (DP.d0 ?_)))
  have o:=o.pl 21 [0,1,2,3,4,5,7,10,12,15,16,17,18,19,20]
  refine DP.z (bO (aG (RC.seq (RC.sr (RL.bQ ab.2.2.2 13 o dE (RL.nt (RC.region (RL.alloc o H5.z fun cd w o=>?_))))))))
  have o:=o.sc Int ab.2.2.2
  refine RL.bD 1 o 0 zr dE fun w o=>?_
  refine RL.nt (RC.region (RL.aP (f:=(fun x=>x)) 1 o zr Fd.self dE (RL.jQ ab.2.2.2 1 ?_)))
  have o:=o.sc Int (IntKind.wrap .i64 (ab.2.2.2+1))
  refine RL.Gn (i:=2) (j:=0) zt o zr zr zr zr dE fun w o=>?_
  refine RL.nil ?_
  obtain rfl:=oi hb
  exact⟨rfl,bm,ar,cd,o.sp 18 [13,14,3,8,2]⟩
 ·intro r _ _ _ _
  exact r.elim
 rintro ab _ w rfl ⟨av,O,rfl,o⟩
 rw [Fo.fW] at hb
 refine aG (RC.sr (mv av (aM av (RL.nt (RC.ret ?_)))))
 obtain rfl:=oi hb
 exact bU (o.pk 3 [2])
end Go.Gk
