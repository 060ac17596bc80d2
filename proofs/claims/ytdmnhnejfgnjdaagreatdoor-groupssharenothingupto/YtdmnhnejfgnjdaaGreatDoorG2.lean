/-
  Printed texts: Go functions as plain functions, and that they are. No statement of the seed is proved here.
-/
import Derived.Test.YtdmnhnejfgnjdaaGreatDoorG1
import Derived.Test.YtdmnhnejfgnjdaaGreatDoorA2
set_option linter.unusedVariables false
set_option linter.unusedSimpArgs false
set_option linter.unusedSectionVars false
set_option maxRecDepth 100000
set_option maxHeartbeats 4000000
namespace Go.Gk
open Go Go.Proofs
def jR (E:World) (Γ:List HP) (res:Int) (v:Value) (w:World):Prop:=v= (vi res)∧Holds E w Γ
def nF (E:World) (Γ:List HP) (r:Int) (σ:Nat→Value) (w:World):Prop:=jU Tryz.prog 52 Tryz.f15 (jR E Γ r) .ret σ w
theorem jz (N:Nat) {E w:World} {Γ:List HP} {i0:Nat} {v0:Value} {p0: (List aD)} {res:Int} (hw:Holds E w Γ) (h0:Γ[i0]? =some (rd v0 p0)) (hb:eK N p0=some res):
    Calls Tryz.prog 15 [v0].toArray w (fu (jR E Γ res)):=by
 unfold eK at hb
 refine enter Tryz.func15 zr zr (Nat.le_of_ble_eq_true zr) ?_
 have hw:=hw.dup (i:=i0+0) h0
 refine RC.sr (aN (vi 0) zr zr (RL.nq (RC.sr (mv v0 zr zr ?_))))
 obtain⟨ak,ao,hb⟩:=bd hb
 refine RL.call zt zr C7 [v0] zr (aF (nB N (i0:=0) hw zr ao) ?_)
 rintro _ w ⟨rfl,hw⟩
 refine aN (vi ak) zr zr (RL.ns (mv (vi ak) zr zr (ic ak 0 zr zr zr zr (RL.nt (eI hb zr (fun hc hb=>?_) fun hc hb=>?_)))))
 ·refine RC.sr (mv (vi ak) zr zr (aN (vi ak) zr zr (RL.nt (RC.rt ?_))))
  obtain rfl:=oi hb
  exact bQ zr zr ⟨rfl,hw.drop 1 zr⟩
 refine RC.ss (RC.sr (aN (vi 1) zr zr (RL.nt ?_)))
 obtain⟨a5,hN,hb⟩:=bd hb
 refine RC.iter (fun(aj:Int) (σ:Nat→Value) (w:World)=>agree σ [(0,v0),(4,(vi aj))]∧Holds E w ([rd v0 p0]++Γ)) (fun(aj:Int) (σ:Nat→Value) (w:World)=>agree σ [(0,v0)]∧Holds E w ([rd v0 p0]++Γ)) (nF E Γ) hN ?_ ?_ ?_ ?_
 ·exact⟨(ag zr),hw.pk 1 [0] zr⟩
 ·intro aj fl σ w hI hb
  obtain⟨ha,hw⟩:=hI
  obtain⟨τ,rfl⟩:=ha.aO
  refine RC.seq (RC.sr (mv (vi aj) zr zr (mv v0 zr zr (RL.bA (i:=0) (l:=p0) zt zr hw zr zr mc (ic aj ((p0.length:Int)) zr zr zr zr (RL.nt (eI hb zr (fun hc hb=>?_) fun hc hb=>?_)))))))
  rotate_left
  ·refine RC.ex ?_
   obtain rfl:=oi hb
   exact⟨rfl,⟨rfl,zt⟩,hw.pk 1 [0] zr⟩
  refine RC.ss (RC.block (RC.seq ?_))
  obtain⟨o,aq,hb⟩:=bd hb
  obtain⟨aa,ar,hb⟩:=bd hb
  refine RC.sG (E:=E) (Γ:=Γ) mixed rfl [1,1,1,0,0,1,1,0,0,0,0,0,0] [3,4,7,8,9,10,11,12] (fun(x:Value×Value×Value×Value×Nat×Nat)=>(fun ae af ah ai ab ad=>[(0,18,v0),(1,19,(vi aj)),(2,20,(vi (IntKind.wrap .i64 (aj - 1)))),(3,21,ae),(4,22,af),(5,23,v0),(6,24,(vi aj)),(7,25,ah),(8,26,ai),(9,5,(vp ab 0)),(10,6,(vp ad 0))]) x.1 x.2.1 x.2.2.1 x.2.2.2.1 x.2.2.2.2.1 x.2.2.2.2.2) [(0,v0),(4,(vi aj))] [] (fun(D:Nat→Bool) (x:Value×Value×Value×Value×Nat×Nat)=>(fun ae af ah ai ab ad=>[bif D 0 then (pt ae o) else aI,bif D 1 then (rd af o) else aI,bif D 2 then (pt ah aa) else aI,bif D 3 then (rd ai aa) else aI,bif D 6 then (bx 59 ab o) else (bif D 4 then (raw 59 ab 4) else aI),bif D 7 then (bx 59 ad aa) else (bif D 5 then (raw 59 ad 4) else aI),rd v0 p0]) x.1 x.2.1 x.2.2.1 x.2.2.2.1 x.2.2.2.2.1 x.2.2.2.2.2) (fun x=>by kernel_rfl) ?_ ⟨fun _=>dX gn rfl,fun _=>dX gn rfl,fun _=>yJ gn rfl,?_,?_,fun _=>dX gn rfl,fun _=>dX gn rfl,?_,?_,?_,?_,?_,?_,trivial⟩ ?_
  ·have hw:=hw.drew
   have hw:=hw.aI
   have hw:=hw.aI
   have hw:=hw.aI
   have hw:=hw.aI
   have hw:=hw.aI
   have hw:=hw.aI
   exact⟨(undef,undef,undef,undef,0,0),doneV.none,(ag zr),zt,hw⟩
  ·rintro D σ w hD hdep hcl ⟨⟨ae,af,ah,ai,ab,ad⟩,hv,ha,_,hw⟩
   obtain⟨τ,rfl⟩:=(ac (hv.at 0 rfl (hdep.1 rfl)) (ac (hv.at 2 rfl (hdep.2.1 rfl)) az)).aO
   have hw:=hw.aQ (i:=0) rfl hD
   refine RL.bO (i:=6) zt zr hw zr zr zr iN aq fun au hw=>?_
   have hw:=hw.pl 8 [0,2,3,4,5,6,7] rfl
   have hw:=hw.aT (i:=0) (b:=true) rfl rfl (aI)
   exact RL.nil ⟨rfl,(au,af,ah,ai,ab,ad),hv.put 3 zr zr,ha.up zr,zt,hw⟩
  ·rintro D σ w hD hdep hcl ⟨⟨ae,af,ah,ai,ab,ad⟩,hv,ha,_,hw⟩
   obtain⟨τ,rfl⟩:=(ac (hv.at 3 rfl (hdep.1 rfl)) az).aO
   have hw:=hw.aS (i:=0) rfl (hdep.1 rfl)
   have hw:=hw.aQ (i:=1) rfl hD
   refine RL.bT (i:=0) (x:=o) zt zr hw zr zr eW fun av hw=>?_
   have hw:=hw.pl 8 [1,0,3,4,5,6,7] rfl
   have hw:=hw.aT (i:=0) (b:=D 3) rfl (hdep.1 rfl) (aI)
   have hw:=hw.aT (i:=1) (b:=true) rfl rfl (aI)
   exact RL.nil ⟨rfl,(ae,av,ah,ai,ab,ad),hv.put 4 zr zr,ha.up zr,zt,hw⟩
  ·rintro D σ w hD hdep hcl ⟨⟨ae,af,ah,ai,ab,ad⟩,hv,ha,_,hw⟩
   obtain⟨τ,rfl⟩:=(ac (hv.at 5 rfl (hdep.1 rfl)) (ac (hv.at 6 rfl (hdep.2.1 rfl)) az)).aO
   have hw:=hw.aQ (i:=2) rfl hD
   refine RL.bO (i:=6) zt zr hw zr zr zr iN ar fun aw hw=>?_
   have hw:=hw.pl 8 [1,2,0,4,5,6,7] rfl
   have hw:=hw.aT (i:=2) (b:=true) rfl rfl (aI)
   exact RL.nil ⟨rfl,(ae,af,aw,ai,ab,ad),hv.put 7 zr zr,ha.up zr,zt,hw⟩
  ·rintro D σ w hD hdep hcl ⟨⟨ae,af,ah,ai,ab,ad⟩,hv,ha,_,hw⟩
   obtain⟨τ,rfl⟩:=(ac (hv.at 7 rfl (hdep.1 rfl)) az).aO
   have hw:=hw.aS (i:=2) rfl (hdep.1 rfl)
   have hw:=hw.aQ (i:=3) rfl hD
   refine RL.bT (i:=2) (x:=aa) zt zr hw zr zr eW fun ax hw=>?_
   have hw:=hw.pl 8 [1,2,3,0,5,6,7] rfl
   have hw:=hw.aT (i:=2) (b:=D 7) rfl (hdep.1 rfl) (aI)
   have hw:=hw.aT (i:=3) (b:=true) rfl rfl (aI)
   exact RL.nil ⟨rfl,(ae,af,ah,ax,ab,ad),hv.put 8 zr zr,ha.up zr,zt,hw⟩
  ·rintro D σ w hD hdep hcl ⟨⟨ae,af,ah,ai,ab,ad⟩,hv,ha,_,hw⟩
   obtain⟨τ,rfl⟩:=(az (σ:=σ)).aO
   have hw:=hw.aQ (i:=4) rfl (nf (fun h=>ft hD ((hcl 11 _ rfl h).1 rfl)))
   have hw:=hw.aQ (i:=4) rfl hD
   refine RL.alloc zt zr hw kA.z fun al w hw=>?_
   have hw:=hw.pl 8 [1,2,3,4,0,6,7] rfl
   have hw:=hw.aT (i:=4) (b:=true) rfl rfl (aI)
   have hw:=hw.cJ (i:=4) (b:=D 11) rfl (nf (fun h=>ft hD ((hcl 11 _ rfl h).1 rfl))) (bx 59 al o)
   exact RL.nil ⟨rfl,(ae,af,ah,ai,al,ad),hv.put 9 zr zr,ha.up zr,zt,hw⟩
  ·rintro D σ w hD hdep hcl ⟨⟨ae,af,ah,ai,ab,ad⟩,hv,ha,_,hw⟩
   obtain⟨τ,rfl⟩:=(az (σ:=σ)).aO
   have hw:=hw.aQ (i:=5) rfl (nf (fun h=>ft hD ((hcl 12 _ rfl h).1 rfl)))
   have hw:=hw.aQ (i:=5) rfl hD
   refine RL.alloc zt zr hw kA.z fun an w hw=>?_
   have hw:=hw.pl 8 [1,2,3,4,5,0,7] rfl
   have hw:=hw.aT (i:=5) (b:=true) rfl rfl (aI)
   have hw:=hw.cJ (i:=5) (b:=D 12) rfl (nf (fun h=>ft hD ((hcl 12 _ rfl h).1 rfl))) (bx 59 an aa)
   exact RL.nil ⟨rfl,(ae,af,ah,ai,ab,an),hv.put 10 zr zr,ha.up zr,zt,hw⟩
  ·rintro D σ w hD hdep hcl ⟨⟨ae,af,ah,ai,ab,ad⟩,hv,ha,_,hw⟩
   obtain⟨τ,rfl⟩:=(ac (hv.at 4 rfl (hdep.2.1 rfl)) (ac (hv.at 9 rfl (hdep.1 rfl)) az)).aO
   have hw:=hw.aS (i:=1) rfl (hdep.2.1 rfl)
   have hw:=hw.aQ (i:=4) rfl hD
   have hw:=hw.aS (i:=4) rfl (hdep.1 rfl)
   refine RL.bC (i:=4) (j:=1) zt hw zr zr zr zr eW zr fun w hw=>?_
   have hw:=hw.aT (i:=1) (b:=D 4) rfl (hdep.2.1 rfl) (aI)
   have hw:=hw.aT (i:=4) (b:=true) rfl rfl (bif D 9 then (raw 59 ab 4) else aI)
   exact RL.nil ⟨rfl,(ae,af,ah,ai,ab,ad),hv.no zr,ha,zt,hw⟩
  ·rintro D σ w hD hdep hcl ⟨⟨ae,af,ah,ai,ab,ad⟩,hv,ha,_,hw⟩
   obtain⟨τ,rfl⟩:=(ac (hv.at 8 rfl (hdep.2.1 rfl)) (ac (hv.at 10 rfl (hdep.1 rfl)) az)).aO
   have hw:=hw.aS (i:=3) rfl (hdep.2.1 rfl)
   have hw:=hw.aQ (i:=5) rfl hD
   have hw:=hw.aS (i:=5) rfl (hdep.1 rfl)
   refine RL.bC (i:=5) (j:=3) zt hw zr zr zr zr eW zr fun w hw=>?_
   have hw:=hw.aT (i:=3) (b:=D 8) rfl (hdep.2.1 rfl) (aI)
   have hw:=hw.aT (i:=5) (b:=true) rfl rfl (bif D 10 then (raw 59 ad 4) else aI)
   exact RL.nil ⟨rfl,(ae,af,ah,ai,ab,ad),hv.no zr,ha,zt,hw⟩
  rintro D σ w hall ⟨⟨ae,af,ah,ai,ab,ad⟩,hv,ha,_,hw⟩
  have hw:=hw.aS (i:=0) rfl (hall 3 (by decide))
  have hw:=hw.aS (i:=1) rfl (hall 4 (by decide))
  have hw:=hw.aS (i:=2) rfl (hall 7 (by decide))
  have hw:=hw.aS (i:=3) rfl (hall 8 (by decide))
  have hw:=hw.aS (i:=4) rfl (hall 11 (by decide))
  have hw:=hw.aS (i:=5) rfl (hall 12 (by decide))
  obtain⟨τ,rfl⟩:=(ac (hv.at 9 rfl (hall 9 (by decide))) (ac (hv.at 10 rfl (hall 10 (by decide))) (ac (ha.at 0 rfl) (ac (ha.at 1 rfl) az)))).aO
  refine aG (RC.sr (RL.bD zt zr zr gF (RL.aL (i:=5) (f:=(fun x=>x.Y0)) zt zr hw zr zr cZ bV (RL.bD zt zr zr gF (RL.aL (i:=4) (f:=(fun x=>x.Y0)) zt zr hw zr zr cZ bV (ic (aa.Y0) (o.Y0) zr zr zr zr (mv (vb (decide (aa.Y0<o.Y0))) zr zr (RL.gs (c:=true) (b:=(decide (aa.Y0<o.Y0))) (v:=(vp ad 1)) zr zr zr (dE zr (fun _=>zr) gF) ?_))))))))
  refine RL.gs (c:=true) (b:=(decide (aa.Y0<o.Y0))) (v:=(vi aa.Y0)) rfl rfl rfl (bL (i:=5) (f:=(fun x=>x.Y0)) rfl hw (fun h=>by exact(cD h:cv (true&&((decide (aa.Y0<o.Y0))==false)) (vp ad 1)= (vp ad 1))) rfl cZ bV) (RL.gs (c:=true) (b:=(decide (aa.Y0<o.Y0))) (v:=(vp ab 1)) rfl rfl rfl (dE rfl (fun _=>rfl) gF) (RL.gs (c:=true) (b:=(decide (aa.Y0<o.Y0))) (v:=(vi o.Y0)) rfl rfl rfl (bL (i:=4) (f:=(fun x=>x.Y0)) rfl hw (fun h=>by exact(cD h:cv (true&&((decide (aa.Y0<o.Y0))==false)) (vp ab 1)= (vp ab 1))) rfl cZ bV) (RL.gs (c:=true) (b:=(decide (aa.Y0<o.Y0))) (v:=(vb (aa.Y0==o.Y0))) rfl rfl rfl (dO (bop:= .eql) (K:= .i64) (a:=aa.Y0) (b:=o.Y0) rfl (fun h=>by exact(cD h:cv (true&&((decide (aa.Y0<o.Y0))==false)) (vi aa.Y0)= (vi aa.Y0))) (fun h=>by exact(cD h:cv (true&&((decide (aa.Y0<o.Y0))==false)) (vi o.Y0)= (vi o.Y0))) rfl) (RL.gs (c:=true) (b:=(decide (aa.Y0<o.Y0))) (v:=(vb (aa.Y0==o.Y0))) rfl rfl rfl (cR rfl (fun h=>by exact(cD h:cv (true&&((decide (aa.Y0<o.Y0))==false)) (vb (aa.Y0==o.Y0))= (vb (aa.Y0==o.Y0))))) (RL.gs (c:=(true&&((decide (aa.Y0<o.Y0))==false))) (b:=(aa.Y0==o.Y0)) (v:=(vp ad 0)) rfl rfl rfl (dE rfl (fun _=>rfl) fX) (RL.gs (c:=(true&&((decide (aa.Y0<o.Y0))==false))) (b:=(aa.Y0==o.Y0)) (v:=(vi aa.X0)) rfl rfl rfl (bL (i:=5) (f:=(fun x=>x.X0)) rfl hw (fun h=>by exact(cD h:cv ((true&&((decide (aa.Y0<o.Y0))==false))&&((aa.Y0==o.Y0)==true)) (vp ad 0)= (vp ad 0))) rfl cS bV) (RL.gs (c:=(true&&((decide (aa.Y0<o.Y0))==false))) (b:=(aa.Y0==o.Y0)) (v:=(vp ab 0)) rfl rfl rfl (dE rfl (fun _=>rfl) fX) (RL.gs (c:=(true&&((decide (aa.Y0<o.Y0))==false))) (b:=(aa.Y0==o.Y0)) (v:=(vi o.X0)) rfl rfl rfl (bL (i:=4) (f:=(fun x=>x.X0)) rfl hw (fun h=>by exact(cD h:cv ((true&&((decide (aa.Y0<o.Y0))==false))&&((aa.Y0==o.Y0)==true)) (vp ab 0)= (vp ab 0))) rfl cS bV) ?_))))))))
  refine RL.gs (c:=(true&&((decide (aa.Y0<o.Y0))==false))) (b:=(aa.Y0==o.Y0)) (v:=(vb (decide (aa.X0≤o.X0)))) rfl rfl rfl (dO (bop:= .leq) (K:= .i64) (a:=aa.X0) (b:=o.X0) rfl (fun h=>by exact(cD h:cv ((true&&((decide (aa.Y0<o.Y0))==false))&&((aa.Y0==o.Y0)==true)) (vi aa.X0)= (vi aa.X0))) (fun h=>by exact(cD h:cv ((true&&((decide (aa.Y0<o.Y0))==false))&&((aa.Y0==o.Y0)==true)) (vi o.X0)= (vi o.X0))) rfl) (RL.gs (c:=true) (b:=(decide (aa.Y0<o.Y0))) (v:=(vb ((aa.Y0==o.Y0)&&(decide (aa.X0≤o.X0))))) rfl rfl rfl (nb (b:=(aa.Y0==o.Y0)) rfl (fun h=>by exact(cD h:cv (true&&((decide (aa.Y0<o.Y0))==false)) (vb (aa.Y0==o.Y0))= (vb (aa.Y0==o.Y0)))) (fun h=>by exact hZ (c:=(true&&((decide (aa.Y0<o.Y0))==false))) h)) (RL.pick (b:=(decide (aa.Y0<o.Y0))) (v:=(vb ((decide (aa.Y0<o.Y0))||((aa.Y0==o.Y0)&&(decide (aa.X0≤o.X0)))))) trivial rfl rfl (mw (c:=true) rfl) (RL.nt (eI hb rfl (fun hc hb=>?_) fun hc hb=>?_))))
  ·refine RC.sr (aN (vi 8) zr zr (RL.nt (RC.rb (bK ?_))))
   obtain rfl:=oi hb
   exact⟨rfl,bQ zr zr ⟨rfl,hw.drop 7 zr⟩⟩
  refine RC.skip (bI (aG (RC.region (mv (vi aj) zr zr (RL.gq (a:=aj) (b:=1) zt zr zr zr zr (aN (vi (IntKind.wrap .i64 (aj+1))) zr zr (RL.nil ?_)))))))
  obtain rfl:=oi hb
  exact⟨rfl,(ag zr),hw.pk 7 [6] zr⟩
 ·intro r σ w e hK
  subst e
  refine bK ?_
  obtain rfl:=oi hb
  exact hK
 intro aj σ w e hJ
 subst e
 rw [Fo.eC] at hb
 obtain⟨ha,hw⟩:=hJ
 obtain⟨τ,rfl⟩:=ha.aO
 refine aG (RC.seq (RC.sr (mv v0 zr zr ?_)))
 obtain⟨a6,ay,hb⟩:=bd hb
 refine RL.call zt zr yW [v0] zr (aF (gW N (i0:=0) hw zr ay) ?_)
 rintro a0 w hw
 have hw:=hw.freeze (i:=0) rfl
 obtain⟨a7,a1,hb⟩:=bd hb
 refine RL.call zt zr Bp [a0] zr (aF (iG N (i0:=0) hw zr a1) ?_)
 rintro a2 w hw
 refine mv v0 zr zr ?_
 have hw:=hw.freeze (i:=0) rfl
 obtain⟨a3,a4,hb⟩:=bd hb
 refine RL.call zt zr Dj [a2,v0] zr (aF (mJ N (i0:=0) (i1:=2) hw zr zr a4) ?_)
 rintro _ w ⟨rfl,hw⟩
 refine RL.not (b:=a3) zt zr zr (RL.nt (eI hb zr (fun hc hb=>?_) fun hc hb=>?_))
 ·refine RC.sr (aN (vi 3) zr zr (RL.nt (RC.rt ?_)))
  obtain rfl:=oi hb
  exact bQ zr zr ⟨rfl,hw.drop 3 zr⟩
 refine RC.sx (aN (vi 0) zr zr (RL.nt (RC.ret ?_)))
 obtain rfl:=oi hb
 exact bQ zr zr ⟨rfl,hw.drop 3 zr⟩
def qT (E:World) (Γ:List HP) (res:Bool) (v:Value) (w:World):Prop:=v= (vb res)∧Holds E w Γ
theorem hQ (N:Nat) {E w:World} {Γ:List HP} {p0:Int} {p1:Int} {p2:Int} {res:Bool} (hw:Holds E w Γ) (hb:dR N p0 p1 p2=some res):
    Calls Tryz.prog 23 [(vi p0),(vi p1),(vi p2)].toArray w (fu (qT E Γ res)):=by
 unfold dR at hb
 refine enter Tryz.func23 zr zr (Nat.le_of_ble_eq_true zr) (RC.sr (aN (vb false) zr zr (RL.ns (mv (vi p0) zr zr (mv (vi p1) zr zr (ic p0 p1 zr zr zr zr (mv (vb (decide (p0≥p1))) zr zr (RL.gs (c:=true) (b:=(decide (p0≥p1))) (v:=(vi p0)) zr zr zr (cR zr (fun _=>zr)) ?_))))))))
 refine RL.gs (c:=true) (b:=(decide (p0≥p1))) (v:=(vi p2)) rfl rfl rfl (cR rfl (fun _=>rfl)) (RL.gs (c:=true) (b:=(decide (p0≥p1))) (v:=(vb (decide (p0≤p2)))) rfl rfl rfl (dO (bop:= .leq) (K:= .i64) (a:=p0) (b:=p2) rfl (fun h=>by exact(cD h:cv (true&&((decide (p0≥p1))==true)) (vi p0)= (vi p0))) (fun h=>by exact(cD h:cv (true&&((decide (p0≥p1))==true)) (vi p2)= (vi p2))) rfl) (RL.pick (b:=(decide (p0≥p1))) (v:=(vb ((decide (p0≥p1))&&(decide (p0≤p2))))) trivial rfl rfl (hZ (c:=true) rfl) (aN (vb ((decide (p0≥p1))&&(decide (p0≤p2)))) rfl rfl (RL.nt (RC.ret ?_)))))
 obtain rfl:=oi hb
 exact bQ zr zr ⟨rfl,hw.drop 0 zr⟩
def qU (E:World) (Γ:List HP) (res:Bool) (v:Value) (w:World):Prop:=v= (vb res)∧Holds E w Γ
theorem lr (N:Nat) {E w:World} {Γ:List HP} {i0:Nat} {v0:Value} {p0:bX} {res:Bool} (hw:Holds E w Γ) (h0:Γ[i0]? =some (rd v0 p0)) (hb:eX N p0=some res):
    Calls Tryz.prog 24 [v0].toArray w (fu (qU E Γ res)):=by
 unfold eX at hb
 refine enter Tryz.func24 zr zr (Nat.le_of_ble_eq_true zr) ?_
 have hw:=hw.dup (i:=i0+0) h0
 refine RC.sr (RL.dP (i:=0) (v:=v0) zt zr hw zr zr fun af w hw=>(aN (vb false) zr zr (RL.nq ?_)))
 obtain⟨o,hj,hb⟩:=bd hb
 refine RC.jn (fun(o:Bool) (σ:Nat→Value) (w:World)=>agree σ [(2,(vb o))]∧Holds E w ([]++Γ)) o ?_ ?_
 ·refine RC.region (RL.bD zt zr zr tU (RL.aL (i:=0) (f:=(fun x=>x.X)) zt zr hw zr zr lN bV ?_))
  obtain⟨aa,ad,hj⟩:=bd hj
  refine RL.call zt zr xH [(vi p0.X)] zr (aF (gA N (p0:=p0.X) hw ad) ?_)
  rintro _ w ⟨rfl,hw⟩
  refine mv (vb aa) zr zr (fW hj (fun j hj=>?_) fun j hj=>?_)
  rotate_left
  ·refine sk rfl (.inl (cb j)) rfl (sk rfl (.inl (cb j)) rfl (sk rfl (.inl (cb j)) rfl (RL.pick (b:=aa) (v:=(vb false)) trivial rfl rfl (by rw [j];rfl) (aN (vb false) rfl rfl (RL.nil ?_)))))
   obtain rfl:=oi hj
   exact⟨rfl,⟨rfl,zt⟩,hw.pk 2 [] zr⟩
  refine RL.bD (cg j) zr zr tV (RL.aL (i:=0) (f:=(fun x=>x.Y)) (cg j) zr hw zr zr lO bV ?_)
  obtain⟨ab,ae,hj⟩:=bd hj
  refine RL.call (cg j) zr xH [(vi p0.Y)] zr (aF (gA N (p0:=p0.Y) hw ae) ?_)
  rintro _ w ⟨rfl,hw⟩
  refine RL.pick (b:=aa) (v:=(vb ab)) trivial rfl rfl (by rw [j];rfl) (aN (vb ab) rfl rfl (RL.nil ?_))
  obtain rfl:=oi hj
  exact⟨rfl,⟨rfl,zt⟩,hw.pk 2 [] zr⟩
 rintro σ w ⟨ha,hw⟩
 obtain⟨τ,rfl⟩:=ha.aO
 refine aG (RC.ret ?_)
 obtain rfl:=oi hb
 exact bQ zr zr ⟨rfl,hw.drop 0 zr⟩
def o5 (E:World) (Γ:List HP) (res:aD) (v:Value) (w:World):Prop:=Holds E w ([rd v res]++Γ)
theorem eB (N:Nat) {E w:World} {Γ:List HP} {i0:Nat} {v0:Value} {p0:bB} {res:aD} (hw:Holds E w Γ) (h0:Γ[i0]? =some (rd v0 p0)) (hb:cP N p0=some res):
    Calls Tryz.prog 19 [v0].toArray w (fu (o5 E Γ res)):=by
 unfold cP at hb
 refine enter Tryz.func19 zr zr (Nat.le_of_ble_eq_true zr) ?_
 have hw:=hw.dup (i:=i0+0) h0
 refine RC.sr (RL.dP (i:=0) (v:=v0) trivial rfl hw rfl rfl fun o w hw=>(RL.alloc trivial rfl hw kA.z fun aa w hw=>(RL.nq (RC.uA mixed rfl (by kernel_rfl) ?_))))
 have hw:=hw.drew
 refine RO.go (RL.bD trivial rfl rfl wh (RO.nx (RL.bD trivial rfl rfl tU (RO.nx (RL.aL (i:=1) (f:=(fun x=>x.At.X)) trivial rfl hw rfl rfl (Fd.comp (f:=fun(x:bB)=>x.At) (f':=fun(x:bX)=>x.X) pZ lN (by decide)) bV (RO.nx (RL.bD trivial rfl rfl rI (RO.nx ?_))))))))
 refine RL.aL (i:=1) (f:=(fun x=>x.cH)) zt zr hw zr zr lf bV (RO.nx (RL.quo (a:=p0.cH) (b:=2) zt zr zr zr zr (RO.nx (RL.gq (a:=p0.At.X) (b:=(IntKind.wrap .i64 (Int.tdiv p0.cH 2))) zt zr zr zr zr (RO.nx (RL.bD zt zr zr wh (RO.nx (RL.bD zt zr zr tV ?_))))))))
 refine RO.nx (RL.aL (i:=1) (f:=(fun x=>x.At.Y)) trivial rfl hw rfl rfl (Fd.comp (f:=fun(x:bB)=>x.At) (f':=fun(x:bX)=>x.Y) pZ lO (by decide)) bV (RO.nx (RL.bD trivial rfl rfl rI (RO.nx (RL.aL (i:=1) (f:=(fun x=>x.cH)) trivial rfl hw rfl rfl lf bV (RO.nx (RL.quo (a:=p0.cH) (b:=2) trivial rfl rfl rfl rfl (RO.nx ?_))))))))
 refine RL.gq (a:=p0.At.Y) (b:=(IntKind.wrap .i64 (Int.tdiv p0.cH 2))) zt zr zr zr zr (RO.nx (aN (vi (IntKind.wrap .i64 (p0.At.X - (IntKind.wrap .i64 (Int.tdiv p0.cH 2))))) zr zr (RO.nx (aN (vi (IntKind.wrap .i64 (p0.At.Y - (IntKind.wrap .i64 (Int.tdiv p0.cH 2))))) zr zr (RO.last (aG (RC.sr (mv (vi (IntKind.wrap .i64 (p0.At.X - (IntKind.wrap .i64 (Int.tdiv p0.cH 2))))) zr zr ?_))))))))
 refine mv (vi (IntKind.wrap .i64 (p0.At.Y - (IntKind.wrap .i64 (Int.tdiv p0.cH 2))))) zr zr (mv (vi (IntKind.wrap .i64 (p0.At.X - (IntKind.wrap .i64 (Int.tdiv p0.cH 2))))) zr zr (RL.bD zt zr zr rI (RL.aL (i:=1) (f:=(fun x=>x.cH)) zt zr hw zr zr lf bV (RL.gq (a:=(IntKind.wrap .i64 (p0.At.X - (IntKind.wrap .i64 (Int.tdiv p0.cH 2))))) (b:=p0.cH) zt zr zr zr zr (mv (vi (IntKind.wrap .i64 (p0.At.Y - (IntKind.wrap .i64 (Int.tdiv p0.cH 2))))) zr zr (RL.bD zt zr zr rI (RL.aL (i:=1) (f:=(fun x=>x.cH)) zt zr hw zr zr lf bV (RL.gq (a:=(IntKind.wrap .i64 (p0.At.Y - (IntKind.wrap .i64 (Int.tdiv p0.cH 2))))) (b:=p0.cH) zt zr zr zr zr ?_))))))))
 have hw:=hw.sc (γ:=Int) (IntKind.wrap .i64 (p0.At.X - (IntKind.wrap .i64 (Int.tdiv p0.cH 2))))
 have hw:=hw.sc (γ:=Int) (IntKind.wrap .i64 (p0.At.Y - (IntKind.wrap .i64 (Int.tdiv p0.cH 2))))
 have hw:=hw.sc (γ:=Int) (IntKind.wrap .i64 ((IntKind.wrap .i64 (p0.At.X - (IntKind.wrap .i64 (Int.tdiv p0.cH 2))))+p0.cH))
 have hw:=hw.sc (γ:=Int) (IntKind.wrap .i64 ((IntKind.wrap .i64 (p0.At.Y - (IntKind.wrap .i64 (Int.tdiv p0.cH 2))))+p0.cH))
 refine RL.build (y:=(⟨(IntKind.wrap .i64 (p0.At.X - (IntKind.wrap .i64 (Int.tdiv p0.cH 2)))),(IntKind.wrap .i64 (p0.At.Y - (IntKind.wrap .i64 (Int.tdiv p0.cH 2)))),(IntKind.wrap .i64 ((IntKind.wrap .i64 (p0.At.X - (IntKind.wrap .i64 (Int.tdiv p0.cH 2))))+p0.cH)),(IntKind.wrap .i64 ((IntKind.wrap .i64 (p0.At.Y - (IntKind.wrap .i64 (Int.tdiv p0.cH 2))))+p0.cH))⟩:aD)) trivial rfl hw [(0,(vi (IntKind.wrap .i64 (p0.At.X - (IntKind.wrap .i64 (Int.tdiv p0.cH 2)))))),(1,(vi (IntKind.wrap .i64 (p0.At.Y - (IntKind.wrap .i64 (Int.tdiv p0.cH 2)))))),(2,(vi (IntKind.wrap .i64 ((IntKind.wrap .i64 (p0.At.X - (IntKind.wrap .i64 (Int.tdiv p0.cH 2))))+p0.cH)))),(3,(vi (IntKind.wrap .i64 ((IntKind.wrap .i64 (p0.At.Y - (IntKind.wrap .i64 (Int.tdiv p0.cH 2))))+p0.cH))))] rfl xJ rfl (fun M hs g=>by have h:=n9 M;exact cC.cons (f:=fun(x:aD) y=>{x with X0:=y}) rfl h k9 (by decide) (g.sat 3 _ rfl).1 fun _ h=>cC.cons (f:=fun(x:aD) y=>{x with Y0:=y}) rfl h ng (by decide) (g.sat 2 _ rfl).1 fun _ h=>cC.cons (f:=fun(x:aD) y=>{x with X1:=y}) rfl h ld (by decide) (g.sat 1 _ rfl).1 fun _ h=>cC.cons (f:=fun(x:aD) y=>{x with Y1:=y}) rfl h nh (by decide) (g.sat 0 _ rfl).1 fun _ h=>cC.nil h) fun ab hw=>(RL.bC (i:=5) (j:=0) trivial hw rfl rfl rfl rfl eW rfl fun w hw=>(RL.nt (RC.ret ?_)))
 obtain rfl:=oi hb
 exact Aa (i:=5) zr hw zr zr eW fun ad hw=>(hw.pk 9 [0] zr)
def oq (E:World) (Γ:List HP) (res:aD) (v:Value) (w:World):Prop:=Holds E w ([rd v res]++Γ)
theorem nG (N:Nat) {E w:World} {Γ:List HP} {i0:Nat} {v0:Value} {p0: (List aA)} {res:aD} (hw:Holds E w Γ) (h0:Γ[i0]? =some (rd v0 p0)) (hb:hB N p0=some res):
    Calls Tryz.prog 57 [v0].toArray w (fu (oq E Γ res)):=by
 unfold hB at hb
 refine enter Tryz.func57 zr zr (Nat.le_of_ble_eq_true zr) ?_
 have hw:=hw.dup (i:=i0+0) h0
 refine RC.sr (RL.alloc zt zr hw kA.z fun a6 w hw=>(RL.nq ?_))
 obtain⟨a9,bc,hb⟩:=bd hb
 obtain⟨a4,bf,hb⟩:=bd hb
 obtain⟨a1,bg,hb⟩:=bd hb
 obtain⟨ba,bh,hb⟩:=bd hb
 obtain⟨a5,bj,hb⟩:=bd hb
 obtain⟨a2,bk,hb⟩:=bd hb
 refine RC.sG (E:=E) (Γ:=Γ) mixed rfl [1,0,0,0,0,0,1,0,0,0,1,0,0,0,0,0,1,1,0,1,0,0,0,0,0,0] [1,2,3,4,7,8,11,12,13,14,20,21,23,24,25] (fun(x:Value×Value×Value×Value×Value×Value×Value×Value×Value×Value×Value×Value×Value×Nat)=>(fun ab ad ae af ah ai aj ak al an ao aq ar o=>[(0,6,v0),(1,7,ab),(2,8,ad),(3,9,ae),(4,10,af),(5,11,(vi a4)),(6,12,v0),(7,13,ah),(8,14,ai),(9,15,(vi a1.Y0)),(10,16,v0),(11,17,aj),(12,18,ak),(13,19,al),(14,20,an),(15,21,(vi a5)),(16,22,v0),(17,23,v0),(18,24,(vi (p0.length:Int))),(19,25,(vi (IntKind.wrap .i64 ((p0.length:Int) - 1)))),(20,26,ao),(21,27,aq),(22,28,(vi a2.Y1)),(23,29,ar),(24,3,(vp o 0))]) x.1 x.2.1 x.2.2.1 x.2.2.2.1 x.2.2.2.2.1 x.2.2.2.2.2.1 x.2.2.2.2.2.2.1 x.2.2.2.2.2.2.2.1 x.2.2.2.2.2.2.2.2.1 x.2.2.2.2.2.2.2.2.2.1 x.2.2.2.2.2.2.2.2.2.2.1 x.2.2.2.2.2.2.2.2.2.2.2.1 x.2.2.2.2.2.2.2.2.2.2.2.2.1 x.2.2.2.2.2.2.2.2.2.2.2.2.2) [(0,v0),(2,(vp a6 0))] [] (fun(D:Nat→Bool) (x:Value×Value×Value×Value×Value×Value×Value×Value×Value×Value×Value×Value×Value×Nat)=>(fun ab ad ae af ah ai aj ak al an ao aq ar o=>[bif D 0 then (pt ab a9) else aI,bif D 1 then (pt ad a9.Xs) else aI,bif D 2 then (rd ae a9.Xs) else aI,bif D 3 then (pt af a4) else aI,bif D 4 then (pt ah a1) else aI,bif D 5 then (pt ai a1.Y0) else aI,bif D 6 then (pt aj ba) else aI,bif D 7 then (pt ak ba.Xs) else aI,bif D 8 then (rd al ba.Xs) else aI,bif D 9 then (pt an a5) else aI,bif D 10 then (pt ao a2) else aI,bif D 11 then (pt aq a2.Y1) else aI,bif D 12 then (rd ar (⟨a4,a1.Y0,a5,a2.Y1⟩:aD)) else aI,bif D 14 then (bx 59 o (⟨a4,a1.Y0,a5,a2.Y1⟩:aD)) else (bif D 13 then (raw 59 o 4) else aI),raw 59 a6 4,rd v0 p0]) x.1 x.2.1 x.2.2.1 x.2.2.2.1 x.2.2.2.2.1 x.2.2.2.2.2.1 x.2.2.2.2.2.2.1 x.2.2.2.2.2.2.2.1 x.2.2.2.2.2.2.2.2.1 x.2.2.2.2.2.2.2.2.2.1 x.2.2.2.2.2.2.2.2.2.2.1 x.2.2.2.2.2.2.2.2.2.2.2.1 x.2.2.2.2.2.2.2.2.2.2.2.2.1 x.2.2.2.2.2.2.2.2.2.2.2.2.2) (fun x=>by kernel_rfl) ?_ ⟨fun _=>dX gn rfl,?_,?_,?_,?_,?_,fun _=>dX gn rfl,?_,?_,?_,fun _=>dX gn rfl,?_,?_,?_,?_,?_,fun _=>dX gn rfl,fun _=>dX gn rfl,?_,fun _=>yJ gn rfl,?_,?_,?_,?_,?_,?_,trivial⟩ ?_
 ·have hw:=hw.drew
  have hw:=hw.aI
  have hw:=hw.aI
  have hw:=hw.aI
  have hw:=hw.aI
  have hw:=hw.aI
  have hw:=hw.aI
  have hw:=hw.aI
  have hw:=hw.aI
  have hw:=hw.aI
  have hw:=hw.aI
  have hw:=hw.aI
  have hw:=hw.aI
  have hw:=hw.aI
  have hw:=hw.aI
  exact⟨(undef,undef,undef,undef,undef,undef,undef,undef,undef,undef,undef,undef,undef,0),doneV.none,(ag zr),zt,hw⟩
 ·rintro D σ w hD hdep hcl ⟨⟨ab,ad,ae,af,ah,ai,aj,ak,al,an,ao,aq,ar,o⟩,hv,ha,_,hw⟩
  obtain⟨τ,rfl⟩:=(ac (hv.at 0 rfl (hdep.1 rfl)) az).aO
  have hw:=hw.aQ (i:=0) rfl hD
  refine RL.bO (i:=15) zt zr hw zr zr zr jl bc fun bl hw=>?_
  have hw:=hw.pl 17 [0,2,3,4,5,6,7,8,9,10,11,12,13,14,15,16] rfl
  have hw:=hw.aT (i:=0) (b:=true) rfl rfl (aI)
  exact RL.nil ⟨rfl,(bl,ad,ae,af,ah,ai,aj,ak,al,an,ao,aq,ar,o),hv.put 1 zr zr,ha.up zr,zt,hw⟩
 ·rintro D σ w hD hdep hcl ⟨⟨ab,ad,ae,af,ah,ai,aj,ak,al,an,ao,aq,ar,o⟩,hv,ha,_,hw⟩
  obtain⟨τ,rfl⟩:=(ac (hv.at 1 rfl (hdep.1 rfl)) az).aO
  have hw:=hw.aS (i:=0) rfl (hdep.1 rfl)
  have hw:=hw.aQ (i:=1) rfl hD
  refine RL.gJ (i:=0) (f:=fun(x:aA)=>x.Xs) zt zr hw zr zr iF bR fun bm hw=>?_
  have hw:=hw.pl 17 [1,0,3,4,5,6,7,8,9,10,11,12,13,14,15,16] rfl
  have hw:=hw.aT (i:=0) (b:=D 1) rfl (hdep.1 rfl) (aI)
  have hw:=hw.aT (i:=1) (b:=true) rfl rfl (aI)
  exact RL.nil ⟨rfl,(ab,bm,ae,af,ah,ai,aj,ak,al,an,ao,aq,ar,o),hv.put 2 zr zr,ha.up zr,zt,hw⟩
 ·rintro D σ w hD hdep hcl ⟨⟨ab,ad,ae,af,ah,ai,aj,ak,al,an,ao,aq,ar,o⟩,hv,ha,_,hw⟩
  obtain⟨τ,rfl⟩:=(ac (hv.at 2 rfl (hdep.1 rfl)) az).aO
  have hw:=hw.aS (i:=1) rfl (hdep.1 rfl)
  have hw:=hw.aQ (i:=2) rfl hD
  refine RL.bT (i:=1) (x:=a9.Xs) zt zr hw zr zr cT fun bn hw=>?_
  have hw:=hw.pl 17 [1,2,0,4,5,6,7,8,9,10,11,12,13,14,15,16] rfl
  have hw:=hw.aT (i:=1) (b:=D 2) rfl (hdep.1 rfl) (aI)
  have hw:=hw.aT (i:=2) (b:=true) rfl rfl (aI)
  exact RL.nil ⟨rfl,(ab,ad,bn,af,ah,ai,aj,ak,al,an,ao,aq,ar,o),hv.put 3 zr zr,ha.up zr,zt,hw⟩
 ·rintro D σ w hD hdep hcl ⟨⟨ab,ad,ae,af,ah,ai,aj,ak,al,an,ao,aq,ar,o⟩,hv,ha,_,hw⟩
  obtain⟨τ,rfl⟩:=(ac (hv.at 3 rfl (hdep.1 rfl)) az).aO
  have hw:=hw.aS (i:=2) rfl (hdep.1 rfl)
  have hw:=hw.aQ (i:=3) rfl hD
  refine RL.bO (i:=2) zt zr hw zr zr zr dB bf fun bo hw=>?_
  have hw:=hw.pl 17 [1,2,3,0,5,6,7,8,9,10,11,12,13,14,15,16] rfl
  have hw:=hw.aT (i:=2) (b:=D 3) rfl (hdep.1 rfl) (aI)
  have hw:=hw.aT (i:=3) (b:=true) rfl rfl (aI)
  exact RL.nil ⟨rfl,(ab,ad,ae,bo,ah,ai,aj,ak,al,an,ao,aq,ar,o),hv.put 4 zr zr,ha.up zr,zt,hw⟩
 ·rintro D σ w hD hdep hcl ⟨⟨ab,ad,ae,af,ah,ai,aj,ak,al,an,ao,aq,ar,o⟩,hv,ha,_,hw⟩
  obtain⟨τ,rfl⟩:=(ac (hv.at 4 rfl (hdep.1 rfl)) az).aO
  have hw:=hw.aS (i:=3) rfl (hdep.1 rfl)
  refine RL.aY (i:=3) (y:=a4) zt zr hw zr zr bV ?_
  have hw:=hw.aT (i:=3) (b:=D 4) rfl (hdep.1 rfl) (aI)
  exact RL.nil ⟨rfl,(ab,ad,ae,af,ah,ai,aj,ak,al,an,ao,aq,ar,o),hv.put 5 zr zr,ha.up zr,zt,hw⟩
 ·rintro D σ w hD hdep hcl ⟨⟨ab,ad,ae,af,ah,ai,aj,ak,al,an,ao,aq,ar,o⟩,hv,ha,_,hw⟩
  obtain⟨τ,rfl⟩:=(ac (hv.at 6 rfl (hdep.1 rfl)) az).aO
  have hw:=hw.aQ (i:=4) rfl hD
  refine RL.bO (i:=15) zt zr hw zr zr zr jl bg fun bp hw=>?_
  have hw:=hw.pl 17 [1,2,3,4,0,6,7,8,9,10,11,12,13,14,15,16] rfl
  have hw:=hw.aT (i:=4) (b:=true) rfl rfl (aI)
  exact RL.nil ⟨rfl,(ab,ad,ae,af,bp,ai,aj,ak,al,an,ao,aq,ar,o),hv.put 7 zr zr,ha.up zr,zt,hw⟩
 ·rintro D σ w hD hdep hcl ⟨⟨ab,ad,ae,af,ah,ai,aj,ak,al,an,ao,aq,ar,o⟩,hv,ha,_,hw⟩
  obtain⟨τ,rfl⟩:=(ac (hv.at 7 rfl (hdep.1 rfl)) az).aO
  have hw:=hw.aS (i:=4) rfl (hdep.1 rfl)
  have hw:=hw.aQ (i:=5) rfl hD
  refine RL.gJ (i:=4) (f:=fun(x:aA)=>x.Y0) zt zr hw zr zr kQ cQ fun bq hw=>?_
  have hw:=hw.pl 17 [1,2,3,4,5,0,7,8,9,10,11,12,13,14,15,16] rfl
  have hw:=hw.aT (i:=4) (b:=D 7) rfl (hdep.1 rfl) (aI)
  have hw:=hw.aT (i:=5) (b:=true) rfl rfl (aI)
  exact RL.nil ⟨rfl,(ab,ad,ae,af,ah,bq,aj,ak,al,an,ao,aq,ar,o),hv.put 8 zr zr,ha.up zr,zt,hw⟩
 ·rintro D σ w hD hdep hcl ⟨⟨ab,ad,ae,af,ah,ai,aj,ak,al,an,ao,aq,ar,o⟩,hv,ha,_,hw⟩
  obtain⟨τ,rfl⟩:=(ac (hv.at 8 rfl (hdep.1 rfl)) az).aO
  have hw:=hw.aS (i:=5) rfl (hdep.1 rfl)
  refine RL.aY (i:=5) (y:=a1.Y0) zt zr hw zr zr bV ?_
  have hw:=hw.aT (i:=5) (b:=D 8) rfl (hdep.1 rfl) (aI)
  exact RL.nil ⟨rfl,(ab,ad,ae,af,ah,ai,aj,ak,al,an,ao,aq,ar,o),hv.put 9 zr zr,ha.up zr,zt,hw⟩
 ·rintro D σ w hD hdep hcl ⟨⟨ab,ad,ae,af,ah,ai,aj,ak,al,an,ao,aq,ar,o⟩,hv,ha,_,hw⟩
  obtain⟨τ,rfl⟩:=(ac (hv.at 10 rfl (hdep.1 rfl)) az).aO
  have hw:=hw.aQ (i:=6) rfl hD
  refine RL.bO (i:=15) zt zr hw zr zr zr jl bh fun br hw=>?_
  have hw:=hw.pl 17 [1,2,3,4,5,6,0,8,9,10,11,12,13,14,15,16] rfl
  have hw:=hw.aT (i:=6) (b:=true) rfl rfl (aI)
  exact RL.nil ⟨rfl,(ab,ad,ae,af,ah,ai,br,ak,al,an,ao,aq,ar,o),hv.put 11 zr zr,ha.up zr,zt,hw⟩
 ·rintro D σ w hD hdep hcl ⟨⟨ab,ad,ae,af,ah,ai,aj,ak,al,an,ao,aq,ar,o⟩,hv,ha,_,hw⟩
  obtain⟨τ,rfl⟩:=(ac (hv.at 11 rfl (hdep.1 rfl)) az).aO
  have hw:=hw.aS (i:=6) rfl (hdep.1 rfl)
  have hw:=hw.aQ (i:=7) rfl hD
  refine RL.gJ (i:=6) (f:=fun(x:aA)=>x.Xs) zt zr hw zr zr iF bR fun bt hw=>?_
  have hw:=hw.pl 17 [1,2,3,4,5,6,7,0,9,10,11,12,13,14,15,16] rfl
  have hw:=hw.aT (i:=6) (b:=D 11) rfl (hdep.1 rfl) (aI)
  have hw:=hw.aT (i:=7) (b:=true) rfl rfl (aI)
  exact RL.nil ⟨rfl,(ab,ad,ae,af,ah,ai,aj,bt,al,an,ao,aq,ar,o),hv.put 12 zr zr,ha.up zr,zt,hw⟩
 ·rintro D σ w hD hdep hcl ⟨⟨ab,ad,ae,af,ah,ai,aj,ak,al,an,ao,aq,ar,o⟩,hv,ha,_,hw⟩
  obtain⟨τ,rfl⟩:=(ac (hv.at 12 rfl (hdep.1 rfl)) az).aO
  have hw:=hw.aS (i:=7) rfl (hdep.1 rfl)
  have hw:=hw.aQ (i:=8) rfl hD
  refine RL.bT (i:=7) (x:=ba.Xs) zt zr hw zr zr cT fun bu hw=>?_
  have hw:=hw.pl 17 [1,2,3,4,5,6,7,8,0,10,11,12,13,14,15,16] rfl
  have hw:=hw.aT (i:=7) (b:=D 12) rfl (hdep.1 rfl) (aI)
  have hw:=hw.aT (i:=8) (b:=true) rfl rfl (aI)
  exact RL.nil ⟨rfl,(ab,ad,ae,af,ah,ai,aj,ak,bu,an,ao,aq,ar,o),hv.put 13 zr zr,ha.up zr,zt,hw⟩
 ·rintro D σ w hD hdep hcl ⟨⟨ab,ad,ae,af,ah,ai,aj,ak,al,an,ao,aq,ar,o⟩,hv,ha,_,hw⟩
  obtain⟨τ,rfl⟩:=(ac (hv.at 13 rfl (hdep.1 rfl)) az).aO
  have hw:=hw.aS (i:=8) rfl (hdep.1 rfl)
  have hw:=hw.aQ (i:=9) rfl hD
  refine RL.bO (i:=8) zt zr hw zr zr zr dB bj fun bw hw=>?_
  have hw:=hw.pl 17 [1,2,3,4,5,6,7,8,9,0,11,12,13,14,15,16] rfl
  have hw:=hw.aT (i:=8) (b:=D 13) rfl (hdep.1 rfl) (aI)
  have hw:=hw.aT (i:=9) (b:=true) rfl rfl (aI)
  exact RL.nil ⟨rfl,(ab,ad,ae,af,ah,ai,aj,ak,al,bw,ao,aq,ar,o),hv.put 14 zr zr,ha.up zr,zt,hw⟩
 ·rintro D σ w hD hdep hcl ⟨⟨ab,ad,ae,af,ah,ai,aj,ak,al,an,ao,aq,ar,o⟩,hv,ha,_,hw⟩
  obtain⟨τ,rfl⟩:=(ac (hv.at 14 rfl (hdep.1 rfl)) az).aO
  have hw:=hw.aS (i:=9) rfl (hdep.1 rfl)
  refine RL.aY (i:=9) (y:=a5) zt zr hw zr zr bV ?_
  have hw:=hw.aT (i:=9) (b:=D 14) rfl (hdep.1 rfl) (aI)
  exact RL.nil ⟨rfl,(ab,ad,ae,af,ah,ai,aj,ak,al,an,ao,aq,ar,o),hv.put 15 zr zr,ha.up zr,zt,hw⟩
 ·rintro D σ w hD hdep hcl ⟨⟨ab,ad,ae,af,ah,ai,aj,ak,al,an,ao,aq,ar,o⟩,hv,ha,_,hw⟩
  obtain⟨τ,rfl⟩:=(ac (hv.at 17 rfl (hdep.1 rfl)) az).aO
  refine RL.bA (i:=15) (l:=p0) zt zr hw zr zr nA ?_
  exact RL.nil ⟨rfl,(ab,ad,ae,af,ah,ai,aj,ak,al,an,ao,aq,ar,o),hv.put 18 zr zr,ha.up zr,zt,hw⟩
 ·rintro D σ w hD hdep hcl ⟨⟨ab,ad,ae,af,ah,ai,aj,ak,al,an,ao,aq,ar,o⟩,hv,ha,_,hw⟩
  obtain⟨τ,rfl⟩:=(ac (hv.at 16 rfl (hdep.1 rfl)) (ac (hv.at 19 rfl (hdep.2.1 rfl)) az)).aO
  have hw:=hw.aQ (i:=10) rfl hD
  refine RL.bO (i:=15) zt zr hw zr zr zr jl bk fun bz hw=>?_
  have hw:=hw.pl 17 [1,2,3,4,5,6,7,8,9,10,0,12,13,14,15,16] rfl
  have hw:=hw.aT (i:=10) (b:=true) rfl rfl (aI)
  exact RL.nil ⟨rfl,(ab,ad,ae,af,ah,ai,aj,ak,al,an,bz,aq,ar,o),hv.put 20 zr zr,ha.up zr,zt,hw⟩
 ·rintro D σ w hD hdep hcl ⟨⟨ab,ad,ae,af,ah,ai,aj,ak,al,an,ao,aq,ar,o⟩,hv,ha,_,hw⟩
  obtain⟨τ,rfl⟩:=(ac (hv.at 20 rfl (hdep.1 rfl)) az).aO
  have hw:=hw.aS (i:=10) rfl (hdep.1 rfl)
  have hw:=hw.aQ (i:=11) rfl hD
  refine RL.gJ (i:=10) (f:=fun(x:aA)=>x.Y1) zt zr hw zr zr jL cL fun b0 hw=>?_
  have hw:=hw.pl 17 [1,2,3,4,5,6,7,8,9,10,11,0,13,14,15,16] rfl
  have hw:=hw.aT (i:=10) (b:=D 20) rfl (hdep.1 rfl) (aI)
  have hw:=hw.aT (i:=11) (b:=true) rfl rfl (aI)
  exact RL.nil ⟨rfl,(ab,ad,ae,af,ah,ai,aj,ak,al,an,ao,b0,ar,o),hv.put 21 zr zr,ha.up zr,zt,hw⟩
 ·rintro D σ w hD hdep hcl ⟨⟨ab,ad,ae,af,ah,ai,aj,ak,al,an,ao,aq,ar,o⟩,hv,ha,_,hw⟩
  obtain⟨τ,rfl⟩:=(ac (hv.at 21 rfl (hdep.1 rfl)) az).aO
  have hw:=hw.aS (i:=11) rfl (hdep.1 rfl)
  refine RL.aY (i:=11) (y:=a2.Y1) zt zr hw zr zr bV ?_
  have hw:=hw.aT (i:=11) (b:=D 21) rfl (hdep.1 rfl) (aI)
  exact RL.nil ⟨rfl,(ab,ad,ae,af,ah,ai,aj,ak,al,an,ao,aq,ar,o),hv.put 22 zr zr,ha.up zr,zt,hw⟩
 ·rintro D σ w hD hdep hcl ⟨⟨ab,ad,ae,af,ah,ai,aj,ak,al,an,ao,aq,ar,o⟩,hv,ha,_,hw⟩
  obtain⟨τ,rfl⟩:=(ac (hv.at 5 rfl (hdep.1 rfl)) (ac (hv.at 9 rfl (hdep.2.1 rfl)) (ac (hv.at 15 rfl (hdep.2.2.1 rfl)) (ac (hv.at 22 rfl (hdep.2.2.2.1 rfl)) az)))).aO
  have hw:=hw.aQ (i:=12) rfl hD
  have hw:=hw.sc (γ:=Int) a4
  have hw:=hw.sc (γ:=Int) a1.Y0
  have hw:=hw.sc (γ:=Int) a5
  have hw:=hw.sc (γ:=Int) a2.Y1
  refine RL.build (y:=(⟨a4,a1.Y0,a5,a2.Y1⟩:aD)) trivial rfl hw [(0,(vi a4)),(1,(vi a1.Y0)),(2,(vi a5)),(3,(vi a2.Y1))] rfl xJ rfl (fun M hs g=>by have h:=n9 M;exact cC.cons (f:=fun(x:aD) y=>{x with X0:=y}) rfl h k9 (by decide) (g.sat 3 _ rfl).1 fun _ h=>cC.cons (f:=fun(x:aD) y=>{x with Y0:=y}) rfl h ng (by decide) (g.sat 2 _ rfl).1 fun _ h=>cC.cons (f:=fun(x:aD) y=>{x with X1:=y}) rfl h ld (by decide) (g.sat 1 _ rfl).1 fun _ h=>cC.cons (f:=fun(x:aD) y=>{x with Y1:=y}) rfl h nh (by decide) (g.sat 0 _ rfl).1 fun _ h=>cC.nil h) fun b1 hw=>?_
  have hw:=hw.pl 21 [5,6,7,8,9,10,11,12,13,14,15,16,0,18,19,20] rfl
  have hw:=hw.aT (i:=12) (b:=true) rfl rfl (aI)
  exact RL.nil ⟨rfl,(ab,ad,ae,af,ah,ai,aj,ak,al,an,ao,aq,b1,o),hv.put 23 zr zr,ha.up zr,zt,hw⟩
 ·rintro D σ w hD hdep hcl ⟨⟨ab,ad,ae,af,ah,ai,aj,ak,al,an,ao,aq,ar,o⟩,hv,ha,_,hw⟩
  obtain⟨τ,rfl⟩:=(az (σ:=σ)).aO
  have hw:=hw.aQ (i:=13) rfl (nf (fun h=>ft hD ((hcl 25 _ rfl h).1 rfl)))
  have hw:=hw.aQ (i:=13) rfl hD
  refine RL.alloc zt zr hw kA.z fun bb w hw=>?_
  have hw:=hw.pl 17 [1,2,3,4,5,6,7,8,9,10,11,12,13,0,15,16] rfl
  have hw:=hw.aT (i:=13) (b:=true) rfl rfl (aI)
  have hw:=hw.cJ (i:=13) (b:=D 25) rfl (nf (fun h=>ft hD ((hcl 25 _ rfl h).1 rfl))) (bx 59 bb (⟨a4,a1.Y0,a5,a2.Y1⟩:aD))
  exact RL.nil ⟨rfl,(ab,ad,ae,af,ah,ai,aj,ak,al,an,ao,aq,ar,bb),hv.put 24 zr zr,ha.up zr,zt,hw⟩
 ·rintro D σ w hD hdep hcl ⟨⟨ab,ad,ae,af,ah,ai,aj,ak,al,an,ao,aq,ar,o⟩,hv,ha,_,hw⟩
  obtain⟨τ,rfl⟩:=(ac (hv.at 23 rfl (hdep.2.1 rfl)) (ac (hv.at 24 rfl (hdep.1 rfl)) az)).aO
  have hw:=hw.aS (i:=12) rfl (hdep.2.1 rfl)
  have hw:=hw.aQ (i:=13) rfl hD
  have hw:=hw.aS (i:=13) rfl (hdep.1 rfl)
  refine RL.bC (i:=13) (j:=12) zt hw zr zr zr zr eW zr fun w hw=>?_
  have hw:=hw.aT (i:=12) (b:=D 23) rfl (hdep.2.1 rfl) (aI)
  have hw:=hw.aT (i:=13) (b:=true) rfl rfl (bif D 24 then (raw 59 o 4) else aI)
  exact RL.nil ⟨rfl,(ab,ad,ae,af,ah,ai,aj,ak,al,an,ao,aq,ar,o),hv.no zr,ha,zt,hw⟩
 rintro D σ w hall ⟨⟨ab,ad,ae,af,ah,ai,aj,ak,al,an,ao,aq,ar,o⟩,hv,ha,_,hw⟩
 have hw:=hw.aS (i:=0) rfl (hall 1 (by decide))
 have hw:=hw.aS (i:=1) rfl (hall 2 (by decide))
 have hw:=hw.aS (i:=2) rfl (hall 3 (by decide))
 have hw:=hw.aS (i:=3) rfl (hall 4 (by decide))
 have hw:=hw.aS (i:=4) rfl (hall 7 (by decide))
 have hw:=hw.aS (i:=5) rfl (hall 8 (by decide))
 have hw:=hw.aS (i:=6) rfl (hall 11 (by decide))
 have hw:=hw.aS (i:=7) rfl (hall 12 (by decide))
 have hw:=hw.aS (i:=8) rfl (hall 13 (by decide))
 have hw:=hw.aS (i:=9) rfl (hall 14 (by decide))
 have hw:=hw.aS (i:=10) rfl (hall 20 (by decide))
 have hw:=hw.aS (i:=11) rfl (hall 21 (by decide))
 have hw:=hw.aS (i:=12) rfl (hall 23 (by decide))
 have hw:=hw.aS (i:=13) rfl (hall 25 (by decide))
 obtain⟨τ,rfl⟩:=(ac (hv.at 24 rfl (hall 24 (by decide))) (ac (ha.at 0 rfl) (ac (ha.at 1 rfl) az))).aO
 refine aG (RC.seq (RC.sr (mv v0 zr zr (RL.bA (i:=15) (l:=p0) zt zr hw zr zr nA (mv (vi 0) zr zr (RL.nt ?_))))))
 obtain⟨aa,hN,hb⟩:=bd hb
 refine RC.fold (fun(a7:Nat) (aa:aD) (σ:Nat→Value) (w:World)=>agree σ [(2,(vp a6 0)),(3,(vp o 0)),(30,v0),(31,(vi (p0.length:Int))),(32,(vi (a7:Int)))]∧Holds E w ([raw 59 a6 4,bx 59 o aa,rd v0 p0]++Γ)) (fun(aa:aD) (σ:Nat→Value) (w:World)=>agree σ [(2,(vp a6 0)),(3,(vp o 0))]∧Holds E w ([raw 59 a6 4,bx 59 o aa,rd v0 p0]++Γ)) hN ?_ ?_ ?_ ?_
 ·exact⟨(ag zr),hw.pk 16 [14,13,15] zr⟩
 ·intro hm aa σ w hI
  obtain⟨ha,hw⟩:=hI
  obtain⟨τ,rfl⟩:=ha.aO
  refine RC.sr (ic ((p0.length:Int)) ((p0.length:Int)) zr zr zr zr (RL.nq (RC.cG k6 (RC.ex ?_))))
  exact⟨rfl,(ag zr),hw.pk 3 [0,1,2] zr⟩
 ·intro hm a7 aa s' σ w hk hI hb
  obtain⟨ha,hw⟩:=hI
  obtain⟨τ,rfl⟩:=ha.aO
  refine RC.sr (ic ((a7:Int)) ((p0.length:Int)) zr zr zr zr (RL.nq (RC.cF (kZ hk) (RC.ss (RC.bs ?_)))))
  obtain⟨a3,b2,hb⟩:=bd hb
  refine RL.bO (i:=2) zt zr hw zr zr zr jl b2 fun b3 hw=>(RL.bT (i:=0) (x:=a3) zt zr hw zr zr tS fun b4 hw=>(RL.alloc zt zr hw yV.z fun a8 w hw=>(RL.bC (i:=0) (j:=1) zt hw zr zr zr zr tS zr fun w hw=>(RL.nt ?_))))
  obtain⟨iT,b5,hb⟩:=bd hb
  obtain⟨a0,b6,hb⟩:=bd hb
  refine RC.sG (E:=E) (Γ:=Γ) mixed rfl [1,0,1,0,0,0,0,1,0,1,0,1,0,0,1,0,0,0,1,0,1,0] [3,4,10,12,15,19,21] (fun(x:Value×Value×Value×Value×Value)=>(fun au av aw ax ay=>[(0,36,(vp o 0)),(1,37,(vi aa.X0)),(2,38,(vp a8 2)),(3,39,au),(4,40,av),(5,41,(vi iT)),(6,42,(vi (if iT<aa.X0 then iT else aa.X0))),(7,43,(vp o 2)),(8,44,(vi aa.X1)),(9,45,(vp a8 2)),(10,46,aw),(11,47,(vp a8 2)),(12,48,ax),(13,49,(vi (a3.Xs.length:Int))),(14,50,(vi (IntKind.wrap .i64 ((a3.Xs.length:Int) - 1)))),(15,51,ay),(16,52,(vi a0)),(17,53,(vi (if aa.X1<a0 then a0 else aa.X1))),(18,54,(vp o 0)),(20,55,(vp o 2))]) x.1 x.2.1 x.2.2.1 x.2.2.2.1 x.2.2.2.2) [(2,(vp a6 0)),(3,(vp o 0)),(5,(vp a8 0)),(30,v0),(31,(vi (p0.length:Int))),(32,(vi (a7:Int)))] [] (fun(D:Nat→Bool) (x:Value×Value×Value×Value×Value)=>(fun au av aw ax ay=>[bif D 0 then (rd au a3.Xs) else aI,bif D 1 then (pt av iT) else aI,bif D 2 then (rd aw a3.Xs) else aI,bif D 3 then (rd ax a3.Xs) else aI,bif D 4 then (pt ay a0) else aI,bx 84 a8 a3,rd b4 a3,pt b3 a3,raw 59 a6 4,bif D 6 then (bx 59 o {{aa with X0:=(if iT<aa.X0 then iT else aa.X0)} with X1:=(if aa.X1<a0 then a0 else aa.X1)}) else (bif D 5 then (bx 59 o {aa with X0:=(if iT<aa.X0 then iT else aa.X0)}) else (bx 59 o aa)),rd v0 p0]) x.1 x.2.1 x.2.2.1 x.2.2.2.1 x.2.2.2.2) (fun x=>by kernel_rfl) ?_ ⟨fun _=>fJ gn fX rfl,?_,fun _=>fJ gn iF rfl,?_,?_,?_,?_,fun _=>fJ gn gG rfl,?_,fun _=>fJ gn iF rfl,?_,fun _=>fJ gn iF rfl,?_,?_,fun _=>yJ gn rfl,?_,?_,?_,fun _=>fJ gn fX rfl,?_,fun _=>fJ gn gG rfl,?_,trivial⟩ ?_
  ·have hw:=hw.drew
   have hw:=hw.aI
   have hw:=hw.aI
   have hw:=hw.aI
   have hw:=hw.aI
   have hw:=hw.aI
   exact⟨(undef,undef,undef,undef,undef),doneV.none,(ag zr),zt,hw⟩
  ·rintro D σ w hD hdep hcl ⟨⟨au,av,aw,ax,ay⟩,hv,ha,_,hw⟩
   obtain⟨τ,rfl⟩:=(ac (hv.at 0 rfl (hdep.1 rfl)) az).aO
   have hw:=hw.aQ (i:=9) rfl (nf (fun h=>ft hD ((hcl 21 _ rfl h).2.2.2.2.1 rfl)))
   have hw:=hw.aQ (i:=9) rfl (nf (fun h=>ft hD ((hcl 19 _ rfl h).2.2.2.1 rfl)))
   refine RL.aL (i:=9) (f:=(fun x=>x.X0)) zt zr hw zr zr cS bV ?_
   have hw:=hw.cJ (i:=9) (b:=D 19) rfl (nf (fun h=>ft hD ((hcl 19 _ rfl h).2.2.2.1 rfl))) (bx 59 o {aa with X0:=(if iT<aa.X0 then iT else aa.X0)})
   have hw:=hw.cJ (i:=9) (b:=D 21) rfl (nf (fun h=>ft hD ((hcl 21 _ rfl h).2.2.2.2.1 rfl))) (bx 59 o {{aa with X0:=(if iT<aa.X0 then iT else aa.X0)} with X1:=(if aa.X1<a0 then a0 else aa.X1)})
   exact RL.nil ⟨rfl,(au,av,aw,ax,ay),hv.put 1 zr zr,ha.up zr,zt,hw⟩
  ·rintro D σ w hD hdep hcl ⟨⟨au,av,aw,ax,ay⟩,hv,ha,_,hw⟩
   obtain⟨τ,rfl⟩:=(ac (hv.at 2 rfl (hdep.1 rfl)) az).aO
   have hw:=hw.aQ (i:=0) rfl hD
   refine RL.aU (i:=5) (f:=(fun x=>x.Xs)) zt zr hw zr zr bR cT fun b7 hw=>?_
   have hw:=hw.pl 12 [0,2,3,4,5,6,7,8,9,10,11] rfl
   have hw:=hw.aT (i:=0) (b:=true) rfl rfl (aI)
   exact RL.nil ⟨rfl,(b7,av,aw,ax,ay),hv.put 3 zr zr,ha.up zr,zt,hw⟩
  ·rintro D σ w hD hdep hcl ⟨⟨au,av,aw,ax,ay⟩,hv,ha,_,hw⟩
   obtain⟨τ,rfl⟩:=(ac (hv.at 3 rfl (hdep.1 rfl)) az).aO
   have hw:=hw.aS (i:=0) rfl (hdep.1 rfl)
   have hw:=hw.aQ (i:=1) rfl hD
   refine RL.bO (i:=0) zt zr hw zr zr zr dB b5 fun b8 hw=>?_
   have hw:=hw.pl 12 [1,0,3,4,5,6,7,8,9,10,11] rfl
   have hw:=hw.aT (i:=0) (b:=D 3) rfl (hdep.1 rfl) (aI)
   have hw:=hw.aT (i:=1) (b:=true) rfl rfl (aI)
   exact RL.nil ⟨rfl,(au,b8,aw,ax,ay),hv.put 4 zr zr,ha.up zr,zt,hw⟩
  ·rintro D σ w hD hdep hcl ⟨⟨au,av,aw,ax,ay⟩,hv,ha,_,hw⟩
   obtain⟨τ,rfl⟩:=(ac (hv.at 4 rfl (hdep.1 rfl)) az).aO
   have hw:=hw.aS (i:=1) rfl (hdep.1 rfl)
   refine RL.aY (i:=1) (y:=iT) zt zr hw zr zr bV ?_
   have hw:=hw.aT (i:=1) (b:=D 4) rfl (hdep.1 rfl) (aI)
   exact RL.nil ⟨rfl,(au,av,aw,ax,ay),hv.put 5 zr zr,ha.up zr,zt,hw⟩
  ·rintro D σ w hD hdep hcl ⟨⟨au,av,aw,ax,ay⟩,hv,ha,_,hw⟩
   obtain⟨τ,rfl⟩:=(ac (hv.at 1 rfl (hdep.1 rfl)) (ac (hv.at 5 rfl (hdep.2.1 rfl)) az)).aO
   refine RL.min (a:=aa.X0) (b:=iT) zt zr zr zr ?_
   exact RL.nil ⟨rfl,(au,av,aw,ax,ay),hv.put 6 zr zr,ha.up zr,zt,hw⟩
  ·rintro D σ w hD hdep hcl ⟨⟨au,av,aw,ax,ay⟩,hv,ha,_,hw⟩
   obtain⟨τ,rfl⟩:=(ac (hv.at 7 rfl (hdep.1 rfl)) az).aO
   have hw:=hw.aQ (i:=9) rfl (nf (fun h=>ft hD ((hcl 21 _ rfl h).2.2.2.2.2.2.2.2.2.2.2.1 rfl)))
   have hw:=hw.aQ (i:=9) rfl (nf (fun h=>ft hD ((hcl 19 _ rfl h).2.2.2.2.2.2.2.2.2.2.1 rfl)))
   refine RL.aL (i:=9) (f:=(fun x=>x.X1)) zt zr hw zr zr dM bV ?_
   have hw:=hw.cJ (i:=9) (b:=D 19) rfl (nf (fun h=>ft hD ((hcl 19 _ rfl h).2.2.2.2.2.2.2.2.2.2.1 rfl))) (bx 59 o {aa with X0:=(if iT<aa.X0 then iT else aa.X0)})
   have hw:=hw.cJ (i:=9) (b:=D 21) rfl (nf (fun h=>ft hD ((hcl 21 _ rfl h).2.2.2.2.2.2.2.2.2.2.2.1 rfl))) (bx 59 o {{aa with X0:=(if iT<aa.X0 then iT else aa.X0)} with X1:=(if aa.X1<a0 then a0 else aa.X1)})
   exact RL.nil ⟨rfl,(au,av,aw,ax,ay),hv.put 8 zr zr,ha.up zr,zt,hw⟩
  ·rintro D σ w hD hdep hcl ⟨⟨au,av,aw,ax,ay⟩,hv,ha,_,hw⟩
   obtain⟨τ,rfl⟩:=(ac (hv.at 9 rfl (hdep.1 rfl)) az).aO
   have hw:=hw.aQ (i:=2) rfl hD
   refine RL.aU (i:=5) (f:=(fun x=>x.Xs)) zt zr hw zr zr bR cT fun b9 hw=>?_
   have hw:=hw.pl 12 [1,2,0,4,5,6,7,8,9,10,11] rfl
   have hw:=hw.aT (i:=2) (b:=true) rfl rfl (aI)
   exact RL.nil ⟨rfl,(au,av,b9,ax,ay),hv.put 10 zr zr,ha.up zr,zt,hw⟩
  ·rintro D σ w hD hdep hcl ⟨⟨au,av,aw,ax,ay⟩,hv,ha,_,hw⟩
   obtain⟨τ,rfl⟩:=(ac (hv.at 11 rfl (hdep.1 rfl)) az).aO
   have hw:=hw.aQ (i:=3) rfl hD
   refine RL.aU (i:=5) (f:=(fun x=>x.Xs)) zt zr hw zr zr bR cT fun ca hw=>?_
   have hw:=hw.pl 12 [1,2,3,0,5,6,7,8,9,10,11] rfl
   have hw:=hw.aT (i:=3) (b:=true) rfl rfl (aI)
   exact RL.nil ⟨rfl,(au,av,aw,ca,ay),hv.put 12 zr zr,ha.up zr,zt,hw⟩
  ·rintro D σ w hD hdep hcl ⟨⟨au,av,aw,ax,ay⟩,hv,ha,_,hw⟩
   obtain⟨τ,rfl⟩:=(ac (hv.at 12 rfl (hdep.1 rfl)) az).aO
   have hw:=hw.aS (i:=3) rfl (hdep.1 rfl)
   refine RL.bA (i:=3) (l:=a3.Xs) zt zr hw zr zr iO ?_
   have hw:=hw.aT (i:=3) (b:=D 12) rfl (hdep.1 rfl) (aI)
   exact RL.nil ⟨rfl,(au,av,aw,ax,ay),hv.put 13 zr zr,ha.up zr,zt,hw⟩
  ·rintro D σ w hD hdep hcl ⟨⟨au,av,aw,ax,ay⟩,hv,ha,_,hw⟩
   obtain⟨τ,rfl⟩:=(ac (hv.at 10 rfl (hdep.1 rfl)) (ac (hv.at 14 rfl (hdep.2.1 rfl)) az)).aO
   have hw:=hw.aS (i:=2) rfl (hdep.1 rfl)
   have hw:=hw.aQ (i:=4) rfl hD
   refine RL.bO (i:=2) zt zr hw zr zr zr dB b6 fun cb hw=>?_
   have hw:=hw.pl 12 [1,2,3,4,0,6,7,8,9,10,11] rfl
   have hw:=hw.aT (i:=2) (b:=D 10) rfl (hdep.1 rfl) (aI)
   have hw:=hw.aT (i:=4) (b:=true) rfl rfl (aI)
   exact RL.nil ⟨rfl,(au,av,aw,ax,cb),hv.put 15 zr zr,ha.up zr,zt,hw⟩
  ·rintro D σ w hD hdep hcl ⟨⟨au,av,aw,ax,ay⟩,hv,ha,_,hw⟩
   obtain⟨τ,rfl⟩:=(ac (hv.at 15 rfl (hdep.1 rfl)) az).aO
   have hw:=hw.aS (i:=4) rfl (hdep.1 rfl)
   refine RL.aY (i:=4) (y:=a0) zt zr hw zr zr bV ?_
   have hw:=hw.aT (i:=4) (b:=D 15) rfl (hdep.1 rfl) (aI)
   exact RL.nil ⟨rfl,(au,av,aw,ax,ay),hv.put 16 zr zr,ha.up zr,zt,hw⟩
  ·rintro D σ w hD hdep hcl ⟨⟨au,av,aw,ax,ay⟩,hv,ha,_,hw⟩
   obtain⟨τ,rfl⟩:=(ac (hv.at 8 rfl (hdep.1 rfl)) (ac (hv.at 16 rfl (hdep.2.1 rfl)) az)).aO
   refine RL.max (a:=aa.X1) (b:=a0) zt zr zr zr ?_
   exact RL.nil ⟨rfl,(au,av,aw,ax,ay),hv.put 17 zr zr,ha.up zr,zt,hw⟩
  ·rintro D σ w hD hdep hcl ⟨⟨au,av,aw,ax,ay⟩,hv,ha,_,hw⟩
   obtain⟨τ,rfl⟩:=(ac (hv.at 6 rfl (hdep.2.1 rfl)) (ac (hv.at 18 rfl (hdep.1 rfl)) az)).aO
   have hw:=hw.aQ (i:=9) rfl (nf (fun h=>ft hD ((hcl 21 _ rfl h).2.2.1 rfl)))
   have hw:=hw.aQ (i:=9) rfl hD
   have hw:=hw.sc (γ:=Int) (if iT<aa.X0 then iT else aa.X0)
   refine RL.uE (i:=10) (j:=0) (f:=fun x y=>{x with X0:=y}) trivial hw rfl rfl rfl rfl k9 (by decide) bV fun w hw=>?_
   have hw:=hw.pl 12 [1,2,3,4,5,6,7,8,9,10,11] rfl
   have hw:=hw.aT (i:=9) (b:=true) rfl rfl (bx 59 o aa)
   have hw:=hw.cJ (i:=9) (b:=D 21) rfl (nf (fun h=>ft hD ((hcl 21 _ rfl h).2.2.1 rfl))) (bx 59 o {{aa with X0:=(if iT<aa.X0 then iT else aa.X0)} with X1:=(if aa.X1<a0 then a0 else aa.X1)})
   exact RL.nil ⟨rfl,(au,av,aw,ax,ay),hv.no zr,ha,zt,hw⟩
  ·rintro D σ w hD hdep hcl ⟨⟨au,av,aw,ax,ay⟩,hv,ha,_,hw⟩
   obtain⟨τ,rfl⟩:=(ac (hv.at 17 rfl (hdep.2.1 rfl)) (ac (hv.at 19 rfl (hdep.1 rfl)) az)).aO
   have hw:=hw.aQ (i:=9) rfl hD
   have hw:=hw.aS (i:=9) rfl (hdep.2.2.1 rfl)
   have hw:=hw.sc (γ:=Int) (if aa.X1<a0 then a0 else aa.X1)
   refine RL.uE (i:=10) (j:=0) (f:=fun x y=>{x with X1:=y}) trivial hw rfl rfl rfl rfl ld (by decide) bV fun w hw=>?_
   have hw:=hw.pl 12 [1,2,3,4,5,6,7,8,9,10,11] rfl
   have hw:=hw.aT (i:=9) (b:=true) rfl rfl (bif D 19 then (bx 59 o {aa with X0:=(if iT<aa.X0 then iT else aa.X0)}) else (bx 59 o aa))
   exact RL.nil ⟨rfl,(au,av,aw,ax,ay),hv.no zr,ha,zt,hw⟩
  rintro D σ w hall ⟨⟨au,av,aw,ax,ay⟩,hv,ha,_,hw⟩
  have hw:=hw.aS (i:=0) rfl (hall 3 (by decide))
  have hw:=hw.aS (i:=1) rfl (hall 4 (by decide))
  have hw:=hw.aS (i:=2) rfl (hall 10 (by decide))
  have hw:=hw.aS (i:=3) rfl (hall 12 (by decide))
  have hw:=hw.aS (i:=4) rfl (hall 15 (by decide))
  have hw:=hw.aS (i:=9) rfl (hall 21 (by decide))
  obtain⟨τ,rfl⟩:=(ac (ha.at 0 rfl) (ac (ha.at 1 rfl) (ac (ha.at 2 rfl) (ac (ha.at 3 rfl) (ac (ha.at 4 rfl) (ac (ha.at 5 rfl) az)))))).aO
  refine bI (aG (RC.region (RL.inc zt zr hk hm zr zr (mv (vi ((a7+1:Nat):Int)) zr zr (RL.nil ?_)))))
  obtain rfl:=oi hb
  exact⟨rfl,(ag zr),hw.pk 11 [8,9,10] zr⟩
 intro σ w hJ
 obtain⟨ha,hw⟩:=hJ
 obtain⟨τ,rfl⟩:=ha.aO
 refine aG (RC.sr (RL.aU (i:=1) (f:=(fun x=>x)) zt zr hw zr zr Fd.self eW fun cc hw=>(RL.bC (i:=1) (j:=0) zt hw zr zr zr zr eW zr fun w hw=>(RL.nt (RC.ret ?_)))))
 obtain rfl:=oi hb
 exact Aa (i:=1) zr hw zr zr eW fun cd hw=>(hw.pk 5 [0] zr)
def qh (E:World) (Γ:List HP) (res:Bool) (v:Value) (w:World):Prop:=v= (vb res)∧Holds E w Γ
theorem o6 (N:Nat) {E w:World} {Γ:List HP} {i0:Nat} {v0:Value} {p0: (List aA)} {res:Bool} (hw:Holds E w Γ) (h0:Γ[i0]? =some (rd v0 p0)) (hb:gR N p0=some res):
    Calls Tryz.prog 26 [v0].toArray w (fu (qh E Γ res)):=by
 unfold gR at hb
 refine enter Tryz.func26 zr zr (Nat.le_of_ble_eq_true zr) ?_
 have hw:=hw.dup (i:=i0+0) h0
 refine RC.sr (aN (vb false) zr zr (RL.nq ?_))
 obtain⟨o,hj,hb⟩:=bd hb
 refine RC.jn (fun(o:Bool) (σ:Nat→Value) (w:World)=>agree σ [(2,(vb o))]∧Holds E w ([]++Γ)) o ?_ ?_
 ·refine RC.region (mv v0 zr zr (RL.bA (i:=0) (l:=p0) zt zr hw zr zr nA (ic ((p0.length:Int)) 0 zr zr zr zr (mv (vb ((p0.length:Int)==0)) zr zr (fW hj (fun j hj=>?_) fun j hj=>?_)))))
  ·refine sk rfl (.inl (cb j)) rfl (sk rfl (.inl (cb j)) rfl (sk rfl (.inl (cb j)) rfl (RL.pick (b:=((p0.length:Int)==0)) (v:=(vb true)) trivial rfl rfl (by rw [j];rfl) (aN (vb true) rfl rfl (RL.nil ?_)))))
   obtain rfl:=oi hj
   exact⟨rfl,⟨rfl,zt⟩,hw.pk 1 [] zr⟩
  refine RL.move (v:=v0) (cg j) zr zr ?_
  obtain⟨af,ab,hj⟩:=bd hj
  refine RL.call (cg j) zr Dk [v0] zr (aF (nG N (i0:=0) hw zr ab) ?_)
  rintro ad w hw
  obtain⟨aa,ae,hj⟩:=bd hj
  refine RL.call (cg j) zr B4 [ad] zr (aF (l6 N (i0:=0) hw zr ae) ?_)
  rintro _ w ⟨rfl,hw⟩
  refine RL.pick (b:=((p0.length:Int)==0)) (v:=(vb aa)) trivial rfl rfl (by rw [j];rfl) (aN (vb aa) rfl rfl (RL.nil ?_))
  obtain rfl:=oi hj
  exact⟨rfl,⟨rfl,zt⟩,hw.pk 2 [] zr⟩
 rintro σ w ⟨ha,hw⟩
 obtain⟨τ,rfl⟩:=ha.aO
 refine aG (RC.ret ?_)
 obtain rfl:=oi hb
 exact bQ zr zr ⟨rfl,hw.drop 0 zr⟩
def qV (E:World) (Γ:List HP) (res:aD×Int) (v:Value) (w:World):Prop:=∃u0:Value,v = .tuple #[u0,(vi res.2)]∧Holds E w ([rd u0 res.1]++Γ)
theorem lu (N:Nat) {E w:World} {Γ:List HP} {i0:Nat} {v0:Value} {p0:bB} {res:aD×Int} (hw:Holds E w Γ) (h0:Γ[i0]? =some (rd v0 p0)) (hb:fH N p0=some res):
    Calls Tryz.prog 10 [v0].toArray w (fu (qV E Γ res)):=by
 unfold fH at hb
 refine enter Tryz.func10 zr zr (Nat.le_of_ble_eq_true zr) ?_
 have hw:=hw.dup (i:=i0+0) h0
 refine RC.sr (RL.dP (i:=0) (v:=v0) zt zr hw zr zr fun ad w hw=>(RL.alloc zt zr hw kA.z fun ae w hw=>(aN (vi 0) zr zr (RL.nq (RC.seq ?_)))))
 obtain⟨ab,hj,hb⟩:=bd hb
 refine RC.jn (fun(ab:Bool) (σ:Nat→Value) (w:World)=>agree σ [(1,(vp ad 0)),(2,(vp ae 0)),(14,(vb ab))]∧Holds E w ([bx 47 ad p0,raw 59 ae 4]++Γ)) ab ?_ ?_
 ·refine RC.region (RL.bD zt zr zr rI (RL.aL (i:=1) (f:=(fun x=>x.cH)) zt zr hw zr zr lf bV ?_))
  obtain⟨aa,ah,hj⟩:=bd hj
  refine RL.call zt zr Ap [(vi p0.cH),(vi 1),(vi 10000)] zr (aF (hQ N (p0:=p0.cH) (p1:=1) (p2:=10000) hw ah) ?_)
  rintro _ w ⟨rfl,hw⟩
  refine RL.not (b:=aa) zt zr zr (mv (vb (!aa)) zr zr (fW hj (fun o hj=>?_) fun o hj=>?_))
  ·refine sk rfl (.inl (cb o)) rfl (sk rfl (.inl (cb o)) rfl (sk rfl (.inl (cb o)) rfl (sk rfl (.inl (cb o)) rfl (RL.pick (b:=(!aa)) (v:=(vb true)) trivial rfl rfl (by rw [o];rfl) (RL.nil ?_)))))
   obtain rfl:=oi hj
   exact⟨rfl,(ag zr),hw.pk 3 [1,0] zr⟩
  refine RL.bD (cg o) zr zr wh (RL.aU (i:=1) (f:=(fun x=>x.At)) (cg o) zr hw zr zr pZ xL fun ai hw=>?_)
  obtain⟨af,aj,hj⟩:=bd hj
  refine RL.call (cg o) zr Cd [ai] zr (aF (lr N (i0:=0) hw zr aj) ?_)
  rintro _ w ⟨rfl,hw⟩
  refine RL.not (b:=af) (cg o) rfl rfl (RL.pick (b:=(!aa)) (v:=(vb (!af))) trivial rfl rfl (by rw [o];rfl) (RL.nil ?_))
  obtain rfl:=oi hj
  exact⟨rfl,(ag zr),hw.pk 4 [2,1] zr⟩
 rintro σ w ⟨ha,hw⟩
 obtain⟨τ,rfl⟩:=ha.aO
 refine aG (eI hb zr (fun hc hb=>?_) fun hc hb=>?_)
 ·refine RC.sr (RL.build (y:=(⟨0,0,0,0⟩:aD)) trivial rfl hw [] rfl xJ rfl (fun M hs g=>by have h:=n9 M;exact cC.nil h) fun a0 hw=>(RL.bC (i:=2) (j:=0) trivial hw rfl rfl rfl rfl eW rfl fun w hw=>(aN (vi 1) rfl rfl (RL.nt (RC.rt ?_)))))
  obtain rfl:=oi hb
  exact sZ (i:=2) zr hw zr zr eW zr fun ak hw=>⟨ak,zr,hw.pk 4 [0] zr⟩
 refine RC.sx (RL.aU (i:=0) (f:=(fun x=>x)) zt zr hw zr zr Fd.self kc fun al hw=>?_)
 obtain⟨an,ao,hb⟩:=bd hb
 refine RL.call zt zr xM [al] zr (aF (eB N (i0:=0) hw zr ao) ?_)
 rintro a1 w hw
 refine RL.alloc zt zr hw kA.z fun a2 w hw=>(RL.bC (i:=0) (j:=1) zt hw zr zr zr zr eW zr fun w hw=>(RL.nq (RC.sr (RL.aU (i:=0) (f:=(fun x=>x)) zt zr hw zr zr Fd.self eW fun aq hw=>(RL.dQ (l:=([an]: (List aD))) zt zr hw [aq] zr zr zr iN kA (fun M hs g=>⟨(g.sat 0 _ zr).1,zt⟩) fun ar w hw=>?_)))))
 have hw:=hw.freeze (i:=0) rfl
 obtain⟨a3,au,hb⟩:=bd hb
 refine RL.call zt zr yW [ar] zr (aF (gW N (i0:=0) hw zr au) ?_)
 rintro av w hw
 have hw:=hw.freeze (i:=0) rfl
 obtain⟨aw,ax,hb⟩:=bd hb
 refine RL.call zt zr Dl [av] zr (aF (o6 N (i0:=0) hw zr ax) ?_)
 rintro _ w ⟨rfl,hw⟩
 refine RL.not (b:=aw) zt zr zr (RL.nt (eI hb zr (fun hc hb=>?_) fun hc hb=>?_))
 ·refine RC.sr (RL.build (y:=(⟨0,0,0,0⟩:aD)) trivial rfl hw [] rfl xJ rfl (fun M hs g=>by have h:=n9 M;exact cC.nil h) fun a4 hw=>(RL.bC (i:=8) (j:=0) trivial hw rfl rfl rfl rfl eW rfl fun w hw=>(aN (vi 1) rfl rfl (RL.nt (RC.rt ?_)))))
  obtain rfl:=oi hb
  exact sZ (i:=8) zr hw zr zr eW zr fun ay hw=>⟨ay,zr,hw.pk 10 [0] zr⟩
 refine RC.sx (RL.aU (i:=3) (f:=(fun x=>x)) zt zr hw zr zr Fd.self eW fun a5 hw=>(RL.bC (i:=8) (j:=0) zt hw zr zr zr zr eW zr fun w hw=>(aN (vi 0) zr zr (RL.nt (RC.ret ?_)))))
 obtain rfl:=oi hb
 exact sZ (i:=8) zr hw zr zr eW zr fun az hw=>⟨az,zr,hw.pk 10 [0] zr⟩
def jS (E:World) (Γ:List HP) (res:Int) (v:Value) (w:World):Prop:=v= (vi res)∧Holds E w Γ
def nH (E:World) (Γ:List HP) (r:Int) (σ:Nat→Value) (w:World):Prop:=jU Tryz.prog 47 Tryz.f16 (jS E Γ r) .ret σ w
theorem mK (N:Nat) {E w:World} {Γ:List HP} {i0:Nat} {v0:Value} {p0:ju} {res:Int} (hw:Holds E w Γ) (h0:Γ[i0]? =some (rd v0 p0)) (hb:fC N p0=some res):
    Calls Tryz.prog 16 [v0].toArray w (fu (jS E Γ res)):=by
 unfold fC at hb
 refine enter Tryz.func16 zr zr (Nat.le_of_ble_eq_true zr) ?_
 have hw:=hw.dup (i:=i0+0) h0
 refine RC.sr (RL.dP (i:=0) (v:=v0) zt zr hw zr zr fun au w hw=>(aN (vi 0) zr zr (RL.nq (RC.sr (RL.bD zt zr zr jM (RL.aU (i:=0) (f:=(fun x=>x.aK)) zt zr hw zr zr kb qQ fun av hw=>(RL.bA (i:=0) (l:=p0.aK) zt zr hw zr zr sL (ic ((p0.aK.length:Int)) 500 zr zr zr zr ?_))))))))
 refine RL.nt (eI hb zr (fun hc hb=>?_) fun hc hb=>?_)
 ·refine RC.sr (aN (vi 2) zr zr (RL.nt (RC.rt ?_)))
  obtain rfl:=oi hb
  exact bQ zr zr ⟨rfl,hw.drop 3 zr⟩
 refine RC.sx (RL.bD zt zr zr p5 (RL.aU (i:=1) (f:=(fun x=>x.aJ)) zt zr hw zr zr lh xF fun aw hw=>(RL.bA (i:=0) (l:=p0.aJ) zt zr hw zr zr vd (aN (vi (p0.aJ.length:Int)) zr zr (RL.nq (RC.sr (RL.bD zt zr zr jM (RL.aU (i:=2) (f:=(fun x=>x.aK)) zt zr hw zr zr kb qQ fun ad hw=>?_))))))))
 refine RL.bA (i:=0) (l:=p0.aK) zt zr hw zr zr sL (mv (vi 0) zr zr (RL.nt ?_))
 obtain⟨ax,hN,hb⟩:=bd hb
 refine RC.range (fun(ae:Nat) (af:Unit) (σ:Nat→Value) (w:World)=>agree σ [(3,(vi (p0.aJ.length:Int))),(16,ad),(17,(vi (p0.aK.length:Int))),(18,(vi (ae:Int)))]∧Holds E w ([rd ad p0.aK]++Γ)) (fun(af:Unit) (σ:Nat→Value) (w:World)=>agree σ []∧Holds E w ([rd ad p0.aK]++Γ)) (nH E Γ) hN ?_ ?_ ?_ ?_ ?_
 ·exact⟨(ag zr),hw.pk 5 [0] zr⟩
 ·intro hm af σ w hI
  obtain⟨ha,hw⟩:=hI
  obtain⟨τ,rfl⟩:=ha.aO
  refine RC.sr (ic ((p0.aK.length:Int)) ((p0.aK.length:Int)) zr zr zr zr (RL.nq (RC.cG k6 (RC.ex ?_))))
  exact⟨rfl,zt,hw.pk 1 [0] zr⟩
 ·intro hm ae af fl σ w hk hI hb
  obtain⟨ha,hw⟩:=hI
  obtain⟨τ,rfl⟩:=ha.aO
  refine RC.sr (ic ((ae:Int)) ((p0.aK.length:Int)) zr zr zr zr (RL.nq (RC.cF (kZ hk) (RC.ss (RC.bs ?_)))))
  obtain⟨aa,al,hb⟩:=bd hb
  refine RL.bO (i:=0) zt zr hw zr zr zr tT al fun ay hw=>(RL.bT (i:=0) (x:=aa) zt zr hw zr zr kc fun az hw=>(RL.alloc zt zr hw xK.z fun a0 w hw=>(RL.bC (i:=0) (j:=1) zt hw zr zr zr zr kc zr fun w hw=>(RL.nq (RC.sr (RL.aU (i:=0) (f:=(fun x=>x)) zt zr hw zr zr Fd.self kc fun an hw=>?_))))))
  obtain⟨ab,ao,hb⟩:=bd hb
  refine RL.call zt zr Ce [an] zr (aF (lu N (i0:=0) hw zr ao) ?_)
  rintro _ w ⟨aj,rfl,hw⟩
  refine mv (.tuple #[aj,(vi ab.2)]) zr zr (RL.extract (v:=aj) zt zr zr zr (RL.extract (v:=(vi ab.2)) zt zr zr zr (RL.alloc zt zr hw kA.z fun a1 w hw=>(RL.bC (i:=0) (j:=1) zt hw zr zr zr zr eW zr fun w hw=>(aN (vi ab.2) zr zr (RL.ns (mv (vi ab.2) zr zr (ic (ab.2) 0 zr zr zr zr ?_))))))))
  refine RL.nt (eI hb zr (fun hc hb=>?_) fun hc hb=>?_)
  ·refine RC.sr (mv (vi ab.2) zr zr (aN (vi ab.2) zr zr (RL.nt (RC.rt (j7 (bK ?_))))))
   obtain rfl:=oi hb
   exact⟨rfl,bQ zr zr ⟨rfl,hw.drop 7 zr⟩⟩
  refine RC.ss ?_
  obtain⟨ai,hj,hb⟩:=bd hb
  refine RC.jn (fun(ai:Bool) (σ:Nat→Value) (w:World)=>agree σ [(3,(vi (p0.aJ.length:Int))),(16,ad),(17,(vi (p0.aK.length:Int))),(18,(vi (ae:Int))),(45,(vb ai))]∧Holds E w ([rd ad p0.aK]++Γ)) ai ?_ ?_
  ·refine RC.region (RL.bD zt zr zr oc (RL.aL (i:=3) (f:=(fun x=>x.bN)) zt zr hw zr zr jk bV (mv (vi (p0.aJ.length:Int)) zr zr (RL.gq (a:=(p0.aJ.length:Int)) (b:=1) zt zr zr zr zr ?_))))
   obtain⟨ah,aq,hj⟩:=bd hj
   refine RL.call zt zr Ap [(vi aa.bN),(vi 0),(vi (IntKind.wrap .i64 ((p0.aJ.length:Int) - 1)))] zr (aF (hQ N (p0:=aa.bN) (p1:=0) (p2:=(IntKind.wrap .i64 ((p0.aJ.length:Int) - 1))) hw aq) ?_)
   rintro _ w ⟨rfl,hw⟩
   refine RL.not (b:=ah) zt zr zr (mv (vb (!ah)) zr zr (fW hj (fun o hj=>?_) fun o hj=>?_))
   ·refine sk rfl (.inl (cb o)) rfl (sk rfl (.inl (cb o)) rfl (sk rfl (.inl (cb o)) rfl (sk rfl (.inl (cb o)) rfl (sk rfl (.inl (cb o)) rfl (sk rfl (.inl (cb o)) rfl (sk rfl (.inl (cb o)) rfl (sk rfl (.inl (cb o)) rfl (RL.pick (b:=(!ah)) (v:=(vb true)) trivial rfl rfl (by rw [o];rfl) ?_))))))))
    refine RL.nil ?_
    obtain rfl:=oi hj
    exact⟨rfl,(ag zr),hw.pk 7 [6] zr⟩
   refine RL.bD (cg o) zr zr p7 (RL.aL (i:=3) (f:=(fun x=>x.To)) (cg o) zr hw zr zr j4 bV (RL.bD (cg o) zr zr oc (RL.aL (i:=3) (f:=(fun x=>x.bN)) (cg o) zr hw zr zr jk bV (RL.move (v:=(vi (p0.aJ.length:Int))) (cg o) zr zr (RL.gq (a:=(p0.aJ.length:Int)) (b:=1) (cg o) zr zr zr zr ?_)))))
   obtain⟨ak,ar,hj⟩:=bd hj
   refine RL.call (cg o) zr Ap [(vi aa.To),(vi aa.bN),(vi (IntKind.wrap .i64 ((p0.aJ.length:Int) - 1)))] zr (aF (hQ N (p0:=aa.To) (p1:=aa.bN) (p2:=(IntKind.wrap .i64 ((p0.aJ.length:Int) - 1))) hw ar) ?_)
   rintro _ w ⟨rfl,hw⟩
   refine RL.not (b:=ak) (cg o) rfl rfl (RL.pick (b:=(!ah)) (v:=(vb (!ak))) trivial rfl rfl (by rw [o];rfl) (RL.nil ?_))
   obtain rfl:=oi hj
   exact⟨rfl,(ag zr),hw.pk 7 [6] zr⟩
  rintro σ w ⟨ha,hw⟩
  obtain⟨τ,rfl⟩:=ha.aO
  refine aG (eI hb zr (fun hc hb=>?_) fun hc hb=>?_)
  rotate_left
  ·refine RC.skip (bI (aG (RC.region (RL.inc zt zr hk hm zr zr (mv (vi ((ae+1:Nat):Int)) zr zr (RL.nil ?_))))))
   obtain rfl:=oi hb
   exact⟨rfl,(ag zr),hw.pk 1 [0] zr⟩
  refine RC.sr (aN (vi 1) zr zr (RL.nt (RC.rb (bK ?_))))
  obtain rfl:=oi hb
  exact⟨rfl,bQ zr zr ⟨rfl,hw.drop 1 zr⟩⟩
 ·intro r σ w e hK
  subst e
  refine bK ?_
  obtain rfl:=oi hb
  exact hK
 intro af σ w e hJ
 subst e
 rw [Fo.eC] at hb
 obtain⟨ha,hw⟩:=hJ
 obtain⟨τ,rfl⟩:=ha.aO
 refine aG (RC.sr (aN (vi 0) zr zr (RL.nt (RC.ret ?_))))
 obtain rfl:=oi hb
 exact bQ zr zr ⟨rfl,hw.drop 1 zr⟩
def lv (E:World) (Γ:List HP) (res:Int) (v:Value) (w:World):Prop:=v= (vi res)∧Holds E w Γ
theorem ir (N:Nat) {E w:World} {Γ:List HP} {p0:bS} {p1:Int} {res:Int} (hw:Holds E w Γ) (hb:dW N p0 p1=some res):
    Calls Tryz.prog 77 [(str p0),(.int .u8 p1)].toArray w (fu (lv E Γ res)):=by
 unfold dW at hb
 refine enter Tryz.func77 zr zr (Nat.le_of_ble_eq_true zr) (RC.sr (aN (vi 0) zr zr (RL.ns (mv (str p0) zr zr (mv (.int .u8 p1) zr zr (RL.rq (v:=(vi (Lib.indexByte p0.bM (Int.toNat p1).toUInt8))) zt zr [(str p0),(.int .u8 p1)] zr (Dn p0 p1 w) (aN (vi (Lib.indexByte p0.bM (Int.toNat p1).toUInt8)) zr zr (RL.nt ?_))))))))
 refine RC.ret ?_
 obtain rfl:=oi hb
 exact bQ zr zr ⟨rfl,hw.drop 0 zr⟩
def nI (E:World) (Γ:List HP) (res:Int) (v:Value) (w:World):Prop:=v= (vi res)∧Holds E w Γ
theorem mL (N:Nat) {E w:World} {Γ:List HP} {p0:bS} {p1:bS} {res:Int} (hw:Holds E w Γ) (hb:fD N p0 p1=some res):
    Calls Tryz.prog 118 [(str p0),(str p1)].toArray w (fu (nI E Γ res)):=by
 unfold fD at hb
 refine enter Tryz.func118 zr zr (Nat.le_of_ble_eq_true zr) (RC.sr (aN (vi 0) zr zr (RL.ns (mv (str p1) zr zr (RL.lens (s:=p1) zt zr zr ve (aN (vi (p1.bM.length:Int)) zr zr (RL.nq (RC.bs ?_))))))))
 refine mv (vi (p1.bM.length:Int)) rfl rfl (ic ((p1.bM.length:Int)) 0 rfl rfl rfl rfl (mv (vb ((p1.bM.length:Int)==0)) rfl rfl (RL.gs (c:=true) (b:=((p1.bM.length:Int)==0)) (v:=(str p1)) rfl rfl rfl (cR rfl (fun _=>rfl)) (RL.gs (c:=true) (b:=((p1.bM.length:Int)==0)) (v:=(str p0)) rfl rfl rfl (cR rfl (fun _=>rfl)) (RL.gs (c:=true) (b:=((p1.bM.length:Int)==0)) (v:=(vb (p1.vQ p0))) rfl rfl rfl (z6 (bop:= .eql) (a:=p1) (b:=p0) rfl (fun h=>by exact(cD h:cv (true&&(((p1.bM.length:Int)==0)==false)) (str p1)= (str p1))) (fun h=>by exact(cD h:cv (true&&(((p1.bM.length:Int)==0)==false)) (str p0)= (str p0))) rfl) (RL.pick (b:=((p1.bM.length:Int)==0)) (v:=(vb (((p1.bM.length:Int)==0)||(p1.vQ p0)))) trivial rfl rfl (mw (c:=true) rfl) (aN (vb (((p1.bM.length:Int)==0)||(p1.vQ p0))) rfl rfl (RL.nt ?_))))))))
 refine eI hb zr (fun hc hb=>?_) fun hc hb=>?_
 ·refine RC.sr (aN (vi 0) zr zr (RL.nt (RC.rb (bK ?_))))
  obtain rfl:=oi hb
  exact bQ zr zr ⟨rfl,hw.drop 0 zr⟩
 refine RC.sr (mv (vi (p1.bM.length:Int)) zr zr (ic ((p1.bM.length:Int)) 1 zr zr zr zr (aN (vb ((p1.bM.length:Int)==1)) zr zr (RL.nt (eI hb zr (fun hc hb=>?_) fun hc hb=>?_)))))
 ·refine RC.sr (mv (str p0) zr zr (mv (str p1) zr zr ?_))
  obtain⟨j,o,hb⟩:=bd hb
  refine RL.idxs (s:=p1) (i:=0) (c:=j) zt zr zr zr ve o ?_
  obtain⟨aa,ab,hb⟩:=bd hb
  refine RL.call zt zr Cf [(str p0),(.int .u8 (j.toNat:Int))] zr (aF (ir N (p0:=p0) (p1:=(j.toNat:Int)) hw ab) ?_)
  rintro _ w ⟨rfl,hw⟩
  refine aN (vi aa) zr zr (RL.nt (RC.rb (bK ?_)))
  obtain rfl:=oi hb
  exact bQ zr zr ⟨rfl,hw.drop 0 zr⟩
 refine RC.sr (mv (vi (p1.bM.length:Int)) zr zr (mv (str p0) zr zr (RL.lens (s:=p0) zt zr zr ve (ic ((p1.bM.length:Int)) ((p0.bM.length:Int)) zr zr zr zr (aN (vb (decide ((p1.bM.length:Int)≥(p0.bM.length:Int)))) zr zr (RL.nt (eI hb zr (fun hc hb=>?_) fun hc hb=>?_)))))))
 rotate_left
 ·cases hb
 refine RC.sr (aN (vi (-1)) zr zr (RL.nt (RC.rb (bK ?_))))
 obtain rfl:=oi hb
 exact bQ zr zr ⟨rfl,hw.drop 0 zr⟩
def qW (E:World) (Γ:List HP) (res:Int) (v:Value) (w:World):Prop:=v= (vi res)∧Holds E w Γ
theorem lx (N:Nat) {E w:World} {Γ:List HP} {p0:bS} {p1:bS} {res:Int} (hw:Holds E w Γ) (hb:gx N p0 p1=some res):
    Calls Tryz.prog 103 [(str p0),(str p1)].toArray w (fu (qW E Γ res)):=by
 unfold gx at hb
 refine enter Tryz.func103 zr zr (Nat.le_of_ble_eq_true zr) (RC.sr (aN (vi 0) zr zr (RL.ns (mv (str p0) zr zr (mv (str p1) zr zr ?_)))))
 obtain⟨j,o,hb⟩:=bd hb
 refine RL.call zt zr Cg [(str p0),(str p1)] zr (aF (mL N (p0:=p0) (p1:=p1) hw o) ?_)
 rintro _ w ⟨rfl,hw⟩
 refine aN (vi j) zr zr (RL.nt (RC.ret ?_))
 obtain rfl:=oi hb
 exact bQ zr zr ⟨rfl,hw.drop 0 zr⟩
def l7 (E:World) (Γ:List HP) (res:Int) (v:Value) (w:World):Prop:=v= (vi res)∧Holds E w Γ
def qX (E:World) (Γ:List HP) (r:Int) (σ:Nat→Value) (w:World):Prop:=jU Tryz.prog 34 Tryz.f102 (l7 E Γ r) .ret σ w
theorem qi (N:Nat) {E w:World} {Γ:List HP} {p0:bS} {p1:bS} {res:Int} (hw:Holds E w Γ) (hb:ik N p0 p1=some res):
    Calls Tryz.prog 102 [(str p0),(str p1)].toArray w (fu (l7 E Γ res)):=by
 unfold ik at hb
 refine enter Tryz.func102 zr zr (Nat.le_of_ble_eq_true zr) (RC.sr (aN (vi 0) zr zr (RL.nq (RC.sr (mv (str p1) zr zr (RL.lens (s:=p1) zt zr zr ve (ic ((p1.bM.length:Int)) 0 zr zr zr zr (RL.nt ?_))))))))
 refine eI hb zr (fun hc hb=>?_) fun hc hb=>?_
 ·cases hb
 refine RC.ss (RC.sr (mv (str p1) zr zr (RL.lens (s:=p1) zt zr zr ve (ic ((p1.bM.length:Int)) 1 zr zr zr zr (RL.nt (eI hb zr (fun hc hb=>?_) fun hc hb=>?_))))))
 ·refine RC.sr (mv (str p0) zr zr (mv (str p1) zr zr ?_))
  obtain⟨o,ab,hb⟩:=bd hb
  refine RL.idxs (s:=p1) (i:=0) (c:=o) zt zr zr zr ve ab (RL.rq (v:=(vi ((Lib.countByte p0.bM (Int.toNat (o.toNat:Int)).toUInt8:Nat):Int))) zt zr [(str p0),(.int .u8 (o.toNat:Int))] zr (eH p0 (o.toNat:Int) w) (aN (vi ((Lib.countByte p0.bM (Int.toNat (o.toNat:Int)).toUInt8:Nat):Int)) zr zr (RL.nt (RC.rt ?_))))
  obtain rfl:=oi hb
  exact bQ zr zr ⟨rfl,hw.drop 0 zr⟩
 refine RC.sx (aN (vi 0) zr zr (RL.nt ?_))
 obtain⟨ah,hN,hb⟩:=bd hb
 refine RC.iter (fun(j:bS×Int) (σ:Nat→Value) (w:World)=>agree σ [(0,(str j.1)),(1,(str p1)),(4,(vi 0)),(5,(vi j.2))]∧Holds E w ([]++Γ)) (fun(j:bS×Int) (σ:Nat→Value) (w:World)=>agree σ [(4,(vi 0))]∧Holds E w ([]++Γ)) (qX E Γ) hN ?_ ?_ ?_ ?_
 ·exact⟨(ag zr),hw.pk 0 [] zr⟩
 ·intro j fl σ w hI hb
  obtain⟨ha,hw⟩:=hI
  obtain⟨τ,rfl⟩:=ha.aO
  refine RC.bs (mv (str j.1) zr zr (mv (str p1) zr zr ?_))
  obtain⟨aa,ad,hb⟩:=bd hb
  refine RL.call zt zr AX [(str j.1),(str p1)] zr (aF (lx N (p0:=j.1) (p1:=p1) hw ad) ?_)
  rintro _ w ⟨rfl,hw⟩
  refine aN (vi aa) zr zr (RL.nq (RC.sr (mv (vi aa) zr zr (ic aa ((-1)) zr zr zr zr (RL.nt (eI hb zr (fun hc hb=>?_) fun hc hb=>?_))))))
  ·refine RC.sr (mv (vi j.2) zr zr (aN (vi j.2) zr zr (RL.nt (RC.rt (j7 ?_)))))
   obtain rfl:=oi hb
   exact⟨rfl,bQ zr zr ⟨rfl,hw.drop 0 zr⟩⟩
  refine RC.sx (mv (vi j.2) zr zr (RL.gq (a:=j.2) (b:=1) zt zr zr zr zr (aN (vi (IntKind.wrap .i64 (j.2+1))) zr zr (RL.nt (RC.region (mv (str j.1) zr zr (mv (vi aa) zr zr (mv (str p1) zr zr ?_))))))))
  refine RL.lens (s:=p1) zt zr zr ve (RL.gq (a:=aa) (b:=(p1.bM.length:Int)) zt zr zr zr zr ?_)
  obtain⟨ae,af,hb⟩:=bd hb
  refine RL.n0 (s:=j.1) zt zr zr ve (.inl zr) (.inr ⟨rfl,zr⟩) af (aN (str ae) zr zr (RL.nil (bI ?_)))
  obtain rfl:=oi hb
  exact⟨rfl,(ag zr),hw.pk 0 [] zr⟩
 ·intro r σ w e hK
  subst e
  obtain rfl:=oi hb
  exact hK
 intro j σ w e hJ
 subst e
 rw [Fo.eC] at hb
 obtain⟨ha,hw⟩:=hJ
 obtain⟨τ,rfl⟩:=ha.aO
 obtain rfl:=oi hb
 refine wN ?_
 exact bQ zr zr ⟨rfl,hw.drop 0 zr⟩
def ot (E:World) (Γ:List HP) (res: (List bS)) (v:Value) (w:World):Prop:=Holds E w ([own 9 v res]++Γ)
theorem nJ (N:Nat) {E w:World} {Γ:List HP} {p0:bS} {p1:bS} {p2:Int} {p3:Int} {res: (List bS)} (hw:Holds E w Γ) (hb:hG N p0 p1 p2 p3=some res):
    Calls Tryz.prog 76 [(str p0),(str p1),(vi p2),(vi p3)].toArray w (fu (ot E Γ res)):=by
 unfold hG at hb
 refine enter Tryz.func76 zr zr (Nat.le_of_ble_eq_true zr) (RC.sr (aN (.slice none 0 0) zr zr (RL.nq (RC.sr (mv (vi p3) zr zr (ic p3 0 zr zr zr zr (RL.nt (eI hb zr (fun hc hb=>?_) fun hc hb=>?_))))))))
 ·refine RC.sr (aN (.slice none 0 0) zr zr (RL.nt (RC.rt ?_)))
  obtain rfl:=oi hb
  have hw:=hw.bW bS 9
  exact bQ zr zr (hw.pk 1 [0] zr)
 refine RC.ss (RC.sr (mv (str p1) zr zr (RL.xw (a:=p1) (b:=⟨[]⟩) zt zr zr zr zr (RL.nt (eI hb zr (fun hc hb=>?_) fun hc hb=>?_)))))
 ·cases hb
 refine RC.ss (RC.sr (mv (vi p3) zr zr (ic p3 0 zr zr zr zr (RL.nt ?_))))
 obtain⟨aa,hj,hb⟩:=bd hb
 refine RC.jn (fun(aa:Int) (σ:Nat→Value) (w:World)=>agree σ [(0,(str p0)),(1,(str p1)),(2,(vi p2)),(3,(vi aa))]∧Holds E w ([]++Γ)) aa ?_ ?_
 ·refine eI hj zr (fun hc hj=>?_) fun hc hj=>?_
  rotate_left
  ·refine RC.skip ?_
   obtain rfl:=oi hj
   exact⟨rfl,(ag zr),hw.pk 0 [] zr⟩
  refine RC.region (mv (str p0) zr zr (mv (str p1) zr zr ?_))
  obtain⟨ah,ai,hj⟩:=bd hj
  refine RL.call zt zr Ch [(str p0),(str p1)] zr (aF (qi N (p0:=p0) (p1:=p1) hw ai) ?_)
  rintro _ w ⟨rfl,hw⟩
  refine RL.gq (a:=ah) (b:=1) zt zr zr zr zr (aN (vi (IntKind.wrap .i64 (ah+1))) zr zr (RL.nil ?_))
  obtain rfl:=oi hj
  exact⟨rfl,(ag zr),hw.pk 0 [] zr⟩
 rintro σ w ⟨ha,hw⟩
 obtain⟨τ,rfl⟩:=ha.aO
 refine aG (RC.sr (mv (vi aa) zr zr (mv (str p0) zr zr (RL.lens (s:=p0) zt zr zr ve (RL.gq (a:=(p0.bM.length:Int)) (b:=1) zt zr zr zr zr (RL.min (a:=aa) (b:=(IntKind.wrap .i64 ((p0.bM.length:Int)+1))) zt zr zr zr (aN (vi (if (IntKind.wrap .i64 ((p0.bM.length:Int)+1))<aa then (IntKind.wrap .i64 ((p0.bM.length:Int)+1)) else aa)) zr zr (RL.ns ?_))))))))
 refine mv (vi (if (IntKind.wrap .i64 ((p0.bM.length:Int)+1))<aa then (IntKind.wrap .i64 ((p0.bM.length:Int)+1)) else aa)) zr zr ?_
 obtain⟨av,aj,hb⟩:=bd hb
 refine RL.mk (k:=(if (IntKind.wrap .i64 ((p0.bM.length:Int)+1))<aa then (IntKind.wrap .i64 ((p0.bM.length:Int)+1)) else aa)) zt zr hw zr zr Ci EG aj fun ab w hw=>(aN ab zr zr (RL.ns (mv (vi (if (IntKind.wrap .i64 ((p0.bM.length:Int)+1))<aa then (IntKind.wrap .i64 ((p0.bM.length:Int)+1)) else aa)) zr zr (RL.gq (a:=(if (IntKind.wrap .i64 ((p0.bM.length:Int)+1))<aa then (IntKind.wrap .i64 ((p0.bM.length:Int)+1)) else aa)) (b:=1) zt zr zr zr zr (aN (vi (IntKind.wrap .i64 ((if (IntKind.wrap .i64 ((p0.bM.length:Int)+1))<aa then (IntKind.wrap .i64 ((p0.bM.length:Int)+1)) else aa) - 1))) zr zr (RL.ns (aN (vi 0) zr zr (RL.nq ?_))))))))
 obtain⟨aw,hN,hb⟩:=bd hb
 refine RC.iter (fun(o:bS×(List bS)×Int) (σ:Nat→Value) (w:World)=>agree σ [(0,(str o.1)),(1,(str p1)),(2,(vi p2)),(3,(vi (IntKind.wrap .i64 ((if (IntKind.wrap .i64 ((p0.bM.length:Int)+1))<aa then (IntKind.wrap .i64 ((p0.bM.length:Int)+1)) else aa) - 1)))),(9,ab),(10,(vi o.2.2))]∧Holds E w ([own 9 ab o.2.1]++Γ)) (fun(o:bS×(List bS)×Int) (σ:Nat→Value) (w:World)=>agree σ [(0,(str o.1)),(9,ab),(10,(vi o.2.2))]∧Holds E w ([own 9 ab o.2.1]++Γ)) (fun(r:Empty) (_:Nat→Value) (_:World)=>r.elim) hN ?_ ?_ ?_ ?_
 ·exact⟨(ag zr),hw.pk 1 [0] zr⟩
 ·intro o fl σ w hI hb
  obtain⟨ha,hw⟩:=hI
  obtain⟨τ,rfl⟩:=ha.aO
  refine RC.seq (RC.sr (mv (vi o.2.2) zr zr (mv (vi (IntKind.wrap .i64 ((if (IntKind.wrap .i64 ((p0.bM.length:Int)+1))<aa then (IntKind.wrap .i64 ((p0.bM.length:Int)+1)) else aa) - 1))) zr zr (ic (o.2.2) ((IntKind.wrap .i64 ((if (IntKind.wrap .i64 ((p0.bM.length:Int)+1))<aa then (IntKind.wrap .i64 ((p0.bM.length:Int)+1)) else aa) - 1))) zr zr zr zr (RL.nt (eI hb zr (fun hc hb=>?_) fun hc hb=>?_))))))
  rotate_left
  ·refine RC.ex ?_
   obtain rfl:=oi hb
   exact⟨rfl,(ag zr),hw.pk 1 [0] zr⟩
  refine RC.sn (RC.bs (mv (str o.1) zr zr (mv (str p1) zr zr ?_)))
  obtain⟨ad,ak,hb⟩:=bd hb
  refine RL.call zt zr AX [(str o.1),(str p1)] zr (aF (lx N (p0:=o.1) (p1:=p1) hw ak) ?_)
  rintro _ w ⟨rfl,hw⟩
  refine aN (vi ad) zr zr (RL.nq (RC.sr (mv (vi ad) zr zr (ic ad 0 zr zr zr zr (RL.nt (eI hb zr (fun hc hb=>?_) fun hc hb=>?_))))))
  ·refine RC.ex (Bb (by decide) ?_)
   obtain rfl:=oi hb
   exact⟨rfl,(ag zr),hw.pk 1 [0] zr⟩
  refine RC.sx (mv ab zr zr (mv (vi o.2.2) zr zr (mv (str o.1) zr zr (mv (vi ad) zr zr (mv (vi p2) zr zr (RL.gq (a:=ad) (b:=p2) zt zr zr zr zr ?_))))))
  obtain⟨al,an,hb⟩:=bd hb
  refine RL.n0 (s:=o.1) zt zr zr ve (.inr ⟨rfl,zr⟩) (.inl zr) an ?_
  obtain⟨ax,ae,hb⟩:=bd hb
  refine RL.aZ (i:=0) zt zr hw zr zr zr wZ ae ?_
  have hw:=hw.sc (γ:=bS) al
  refine RL.eP (i:=1) (j:=0) (f:=(fun _ y=>y)) trivial hw rfl rfl (f0 hw (i:=1) rfl ae 0) rfl (aP ae).2.1 rfl Fs.self (by decide) yZ fun w hw=>(RL.ns (mv (str o.1) rfl rfl (mv (vi ad) rfl rfl (mv (str p1) rfl rfl (RL.lens (s:=p1) trivial rfl rfl ve (RL.gq (a:=ad) (b:=(p1.bM.length:Int)) trivial rfl rfl rfl rfl ?_))))))
  obtain⟨ao,aq,hb⟩:=bd hb
  refine RL.n0 (s:=o.1) zt zr zr ve (.inl zr) (.inr ⟨rfl,zr⟩) aq (aN (str ao) zr zr (RL.nt (RC.region (mv (vi o.2.2) zr zr (RL.gq (a:=o.2.2) (b:=1) zt zr zr zr zr (aN (vi (IntKind.wrap .i64 (o.2.2+1))) zr zr (RL.nil (bI ?_))))))))
  obtain rfl:=oi hb
  exact⟨rfl,(ag zr),hw.pk 2 [1] zr⟩
 ·intro r _ _ _ _
  exact r.elim
 intro o σ w e hJ
 subst e
 rw [Fo.eC] at hb
 obtain⟨ha,hw⟩:=hJ
 obtain⟨τ,rfl⟩:=ha.aO
 refine aG (RC.sr (mv ab zr zr (mv (vi o.2.2) zr zr (mv (str o.1) zr zr ?_))))
 obtain⟨ay,af,hb⟩:=bd hb
 refine RL.aZ (i:=0) zt zr hw zr zr zr wZ af ?_
 have hw:=hw.sc (γ:=bS) o.1
 refine RL.eP (i:=1) (j:=0) (f:=(fun _ y=>y)) trivial hw rfl rfl (f0 hw (i:=1) rfl af 0) rfl (aP af).2.1 rfl Fs.self (by decide) yZ fun w hw=>(RL.ns (mv ab rfl rfl (mv (vi o.2.2) rfl rfl (RL.gq (a:=o.2.2) (b:=1) trivial rfl rfl rfl rfl ?_))))
 obtain⟨az,ar,hb⟩:=bd hb
 refine RL.tE (i:=1) zt zr hw zr zr wZ (.inr ⟨rfl,zr⟩) (.inl zr) ar fun au hw=>(aN au zr zr (RL.nt (RC.ret ?_)))
 obtain rfl:=oi hb
 exact bQ zr zr (hw.pk 2 [1] zr)
def qY (E:World) (Γ:List HP) (res: (List bS)) (v:Value) (w:World):Prop:=Holds E w ([own 9 v res]++Γ)
theorem qj (N:Nat) {E w:World} {Γ:List HP} {p0:bS} {p1:bS} {res: (List bS)} (hw:Holds E w Γ) (hb:il N p0 p1=some res):
    Calls Tryz.prog 59 [(str p0),(str p1)].toArray w (fu (qY E Γ res)):=by
 unfold il at hb
 refine enter Tryz.func59 zr zr (Nat.le_of_ble_eq_true zr) (RC.sr (aN (.slice none 0 0) zr zr (RL.ns (mv (str p0) zr zr (mv (str p1) zr zr ?_)))))
 obtain⟨aa,j,hb⟩:=bd hb
 refine RL.call zt zr Dp [(str p0),(str p1),(vi 0),(vi (-1))] zr (aF (nJ N (p0:=p0) (p1:=p1) (p2:=0) (p3:=(-1)) hw j) ?_)
 rintro o w hw
 refine aN o zr zr (RL.nt (RC.ret ?_))
 obtain rfl:=oi hb
 exact bQ zr zr (hw.pk 1 [0] zr)
def hU (E:World) (Γ:List HP) (res:Int) (v:Value) (w:World):Prop:=v= (vi res)∧Holds E w Γ
def kC (E:World) (Γ:List HP) (r:Int) (σ:Nat→Value) (w:World):Prop:=jU Tryz.prog 19 Tryz.f75 (hU E Γ r) .ret σ w
theorem kg (N:Nat) {E w:World} {Γ:List HP} {i0:Nat} {v0:Value} {p0: (List bS)} {v1:Value} {p1:bS→Option Bool} {res:Int} (hw:Holds E w Γ) (h0:Γ[i0]? =some (rd v0 p0)) (h1:zU Tryz.prog E Γ v1 p1 (fun(r:Bool)=>Value.bool r)) (hb:fS N p0 p1=some res):
    Calls Tryz.prog 75 [v0,v1].toArray w (fu (hU E Γ res)):=by
 unfold fS at hb
 refine enter Tryz.func75 zr zr (Nat.le_of_ble_eq_true zr) ?_
 have hw:=hw.dup (i:=i0+0) h0
 refine RC.sr (aN (vi 0) zr zr (RL.nq (RC.sr (mv v0 zr zr (RL.bA (i:=0) (l:=p0) zt zr hw zr zr Cj (mv (vi 0) zr zr (RL.nt ?_)))))))
 obtain⟨ae,hN,hb⟩:=bd hb
 refine RC.range (fun(j:Nat) (o:Unit) (σ:Nat→Value) (w:World)=>agree σ [(0,v0),(1,v1),(7,(vi (p0.length:Int))),(8,(vi (j:Int)))]∧Holds E w ([rd v0 p0]++Γ)) (fun(o:Unit) (σ:Nat→Value) (w:World)=>agree σ []∧Holds E w ([rd v0 p0]++Γ)) (kC E Γ) hN ?_ ?_ ?_ ?_ ?_
 ·exact⟨(ag zr),hw.pk 1 [0] zr⟩
 ·intro hm o σ w hI
  obtain⟨ha,hw⟩:=hI
  obtain⟨τ,rfl⟩:=ha.aO
  refine RC.sr (ic ((p0.length:Int)) ((p0.length:Int)) zr zr zr zr (RL.nq (RC.cG k6 (RC.ex ?_))))
  exact⟨rfl,zt,hw.pk 1 [0] zr⟩
 ·intro hm j o fl σ w hk hI hb
  obtain⟨ha,hw⟩:=hI
  obtain⟨τ,rfl⟩:=ha.aO
  refine RC.sr (ic ((j:Int)) ((p0.length:Int)) zr zr zr zr (RL.nq (RC.cF (kZ hk) (RC.ss (RC.bs (mv (vi (j:Int)) zr zr (aN (vi (j:Int)) zr zr (RL.ns ?_))))))))
  refine mv v1 zr zr (mv v0 zr zr (mv (vi (j:Int)) zr zr ?_))
  obtain⟨aa,ab,hb⟩:=bd hb
  refine RL.bO (i:=0) zt zr hw zr zr zr wZ ab fun af hw=>(RL.aY (i:=0) (y:=aa) zt zr hw zr zr yZ ?_)
  have hw:=hw.sc (γ:=bS) aa
  obtain⟨ah,ad,hb⟩:=bd hb
  refine RL.tC (i:=0) zt zr hw zr h1 3 zr zr zr ad fun w hw=>(RL.nt (eI hb zr (fun hc hb=>?_) fun hc hb=>?_))
  rotate_left
  ·refine RC.skip (bI (aG (RC.region (RL.inc zt zr hk hm zr zr (mv (vi ((j+1:Nat):Int)) zr zr (RL.nil ?_))))))
   obtain rfl:=oi hb
   exact⟨rfl,(ag zr),hw.pk 3 [2] zr⟩
  refine RC.sr (mv (vi (j:Int)) zr zr (aN (vi (j:Int)) zr zr (RL.nt (RC.rb (bK ?_)))))
  obtain rfl:=oi hb
  exact⟨rfl,bQ zr zr ⟨rfl,hw.drop 3 zr⟩⟩
 ·intro r σ w e hK
  subst e
  refine bK ?_
  obtain rfl:=oi hb
  exact hK
 intro o σ w e hJ
 subst e
 rw [Fo.eC] at hb
 obtain⟨ha,hw⟩:=hJ
 obtain⟨τ,rfl⟩:=ha.aO
 refine aG (RC.sr (aN (vi (-1)) zr zr (RL.nt (RC.ret ?_))))
 obtain rfl:=oi hb
 exact bQ zr zr ⟨rfl,hw.drop 1 zr⟩
def jN (E:World) (Γ:List HP) (res:Bool) (v:Value) (w:World):Prop:=v= (vb res)∧Holds E w Γ
theorem jA (N:Nat) {E w:World} {Γ:List HP} {i0:Nat} {v0:Value} {p0: (List bS)} {v1:Value} {p1:bS→Option Bool} {res:Bool} (hw:Holds E w Γ) (h0:Γ[i0]? =some (rd v0 p0)) (h1:zU Tryz.prog E Γ v1 p1 (fun(r:Bool)=>Value.bool r)) (hb:dT N p0 p1=some res):
    Calls Tryz.prog 58 [v0,v1].toArray w (fu (jN E Γ res)):=by
 unfold dT at hb
 refine enter Tryz.func58 zr zr (Nat.le_of_ble_eq_true zr) ?_
 have hw:=hw.dup (i:=i0+0) h0
 refine RC.sr (aN (vb false) zr zr (RL.ns (mv v0 zr zr (mv v1 zr zr ?_))))
 obtain⟨j,o,hb⟩:=bd hb
 refine RL.call zt zr Dr [v0,v1] zr (aF (kg N (i0:=0) hw zr (h1.lift 1 zr) o) ?_)
 rintro _ w ⟨rfl,hw⟩
 refine ic j 0 zr zr zr zr (aN (vb (decide (j≥0))) zr zr (RL.nt (RC.ret ?_)))
 obtain rfl:=oi hb
 exact bQ zr zr ⟨rfl,hw.drop 1 zr⟩
def nK (E:World) (Γ:List HP) (res:Int) (v:Value) (w:World):Prop:=v= (vi res)∧Holds E w Γ
theorem mM (N:Nat) {E w:World} {Γ:List HP} {p0:bS} {p1:Int} {res:Int} (hw:Holds E w Γ) (hb:eL N p0 p1=some res):
    Calls Tryz.prog 61 [(str p0),(.int .u8 p1)].toArray w (fu (nK E Γ res)):=by
 unfold eL at hb
 refine enter Tryz.func61 zr zr (Nat.le_of_ble_eq_true zr) (RC.sr (aN (vi 0) zr zr (RL.ns (mv (str p0) zr zr (mv (.int .u8 p1) zr zr ?_)))))
 obtain⟨j,o,hb⟩:=bd hb
 refine RL.call zt zr Cf [(str p0),(.int .u8 p1)] zr (aF (ir N (p0:=p0) (p1:=p1) hw o) ?_)
 rintro _ w ⟨rfl,hw⟩
 refine aN (vi j) zr zr (RL.nt (RC.ret ?_))
 obtain rfl:=oi hb
 exact bQ zr zr ⟨rfl,hw.drop 0 zr⟩
def ly (E:World) (Γ:List HP) (res:Bool) (v:Value) (w:World):Prop:=v= (vb res)∧Holds E w Γ
def ql (E:World) (Γ:List HP) (r:Bool) (σ:Nat→Value) (w:World):Prop:=jU Tryz.prog 49 Tryz.f31 (ly E Γ r) .ret σ w
theorem kH (N:Nat) {E w:World} {Γ:List HP} {p0:bS} {res:Bool} (hw:Holds E w Γ) (hb:eG N p0=some res):
    Calls Tryz.prog 31 [(str p0)].toArray w (fu (ly E Γ res)):=by
 unfold eG at hb
 refine enter Tryz.func31 zr zr (Nat.le_of_ble_eq_true zr) (RC.sr (aN (vb false) zr zr (RL.nq (RC.sr (mv (str p0) zr zr (RL.lens (s:=p0) zt zr zr ve (mv (vi 0) zr zr (RL.nt ?_))))))))
 obtain⟨ai,hN,hb⟩:=bd hb
 refine RC.range (fun(o:Nat) (ab:Unit) (σ:Nat→Value) (w:World)=>agree σ [(0,(str p0)),(6,(vi (p0.bM.length:Int))),(7,(vi (o:Int)))]∧Holds E w ([]++Γ)) (fun(ab:Unit) (σ:Nat→Value) (w:World)=>agree σ [(0,(str p0))]∧Holds E w ([]++Γ)) (ql E Γ) hN ?_ ?_ ?_ ?_ ?_
 ·exact⟨(ag zr),hw.pk 0 [] zr⟩
 ·intro hm ab σ w hI
  obtain⟨ha,hw⟩:=hI
  obtain⟨τ,rfl⟩:=ha.aO
  refine RC.sr (ic ((p0.bM.length:Int)) ((p0.bM.length:Int)) zr zr zr zr (RL.nq (RC.cG k6 (RC.ex ?_))))
  exact⟨rfl,⟨rfl,zt⟩,hw.pk 0 [] zr⟩
 ·intro hm o ab fl σ w hk hI hb
  obtain⟨ha,hw⟩:=hI
  obtain⟨τ,rfl⟩:=ha.aO
  refine RC.sr (ic ((o:Int)) ((p0.bM.length:Int)) zr zr zr zr (RL.nq (RC.cF (kZ hk) (RC.ss (RC.bs (mv (vi (o:Int)) zr zr (aN (vi (o:Int)) zr zr (RL.ns ?_))))))))
  refine mv (str p0) zr zr (mv (vi (o:Int)) zr zr ?_)
  obtain⟨j,af,hb⟩:=bd hb
  refine RL.idxs (s:=p0) (i:=(o:Int)) (c:=j) zt zr zr zr ve af (aN (.int .u8 (j.toNat:Int)) zr zr (RL.nq ?_))
  obtain⟨ad,hj,hb⟩:=bd hb
  refine RC.jn (fun(ad:Bool) (σ:Nat→Value) (w:World)=>agree σ [(0,(str p0)),(6,(vi (p0.bM.length:Int))),(7,(vi (o:Int))),(39,(vb ad))]∧Holds E w ([]++Γ)) ad ?_ ?_
  ·refine RC.region (mv (.int .u8 (j.toNat:Int)) rfl rfl (ic ((j.toNat:Int)) 65 rfl rfl rfl rfl (mv (vb (decide ((j.toNat:Int)<65))) rfl rfl (RL.gs (c:=true) (b:=(decide ((j.toNat:Int)<65))) (v:=(.int .u8 (j.toNat:Int))) rfl rfl rfl (cR rfl (fun _=>rfl)) (RL.gs (c:=true) (b:=(decide ((j.toNat:Int)<65))) (v:=(vb (decide ((j.toNat:Int)>90)))) rfl rfl rfl (dO (bop:= .gtr) (K:= .u8) (a:=(j.toNat:Int)) (b:=90) rfl (fun h=>by exact(cD h:cv (true&&((decide ((j.toNat:Int)<65))==false)) (.int .u8 (j.toNat:Int))= (.int .u8 (j.toNat:Int)))) (fun _=>rfl) rfl) (RL.pick (b:=(decide ((j.toNat:Int)<65))) (v:=(vb ((decide ((j.toNat:Int)<65))||(decide ((j.toNat:Int)>90))))) trivial rfl rfl (mw (c:=true) rfl) (mv (vb ((decide ((j.toNat:Int)<65))||(decide ((j.toNat:Int)>90)))) rfl rfl (RL.gs (c:=true) (b:=((decide ((j.toNat:Int)<65))||(decide ((j.toNat:Int)>90)))) (v:=(.int .u8 (j.toNat:Int))) rfl rfl rfl (cR rfl (fun _=>rfl)) ?_))))))))
   refine RL.gs (c:=true) (b:=((decide ((j.toNat:Int)<65))||(decide ((j.toNat:Int)>90)))) (v:=(vb (decide ((j.toNat:Int)<97)))) rfl rfl rfl (dO (bop:= .lss) (K:= .u8) (a:=(j.toNat:Int)) (b:=97) rfl (fun h=>by exact(cD h:cv (true&&(((decide ((j.toNat:Int)<65))||(decide ((j.toNat:Int)>90)))==true)) (.int .u8 (j.toNat:Int))= (.int .u8 (j.toNat:Int)))) (fun _=>rfl) rfl) (RL.gs (c:=true) (b:=((decide ((j.toNat:Int)<65))||(decide ((j.toNat:Int)>90)))) (v:=(vb (decide ((j.toNat:Int)<97)))) rfl rfl rfl (cR rfl (fun h=>by exact(cD h:cv (true&&(((decide ((j.toNat:Int)<65))||(decide ((j.toNat:Int)>90)))==true)) (vb (decide ((j.toNat:Int)<97)))= (vb (decide ((j.toNat:Int)<97)))))) (RL.gs (c:=(true&&(((decide ((j.toNat:Int)<65))||(decide ((j.toNat:Int)>90)))==true))) (b:=(decide ((j.toNat:Int)<97))) (v:=(.int .u8 (j.toNat:Int))) rfl rfl rfl (cR rfl (fun _=>rfl)) (RL.gs (c:=(true&&(((decide ((j.toNat:Int)<65))||(decide ((j.toNat:Int)>90)))==true))) (b:=(decide ((j.toNat:Int)<97))) (v:=(vb (decide ((j.toNat:Int)>122)))) rfl rfl rfl (dO (bop:= .gtr) (K:= .u8) (a:=(j.toNat:Int)) (b:=122) rfl (fun h=>by exact(cD h:cv ((true&&(((decide ((j.toNat:Int)<65))||(decide ((j.toNat:Int)>90)))==true))&&((decide ((j.toNat:Int)<97))==false)) (.int .u8 (j.toNat:Int))= (.int .u8 (j.toNat:Int)))) (fun _=>rfl) rfl) (RL.gs (c:=true) (b:=((decide ((j.toNat:Int)<65))||(decide ((j.toNat:Int)>90)))) (v:=(vb ((decide ((j.toNat:Int)<97))||(decide ((j.toNat:Int)>122))))) rfl rfl rfl (nb (b:=(decide ((j.toNat:Int)<97))) rfl (fun h=>by exact(cD h:cv (true&&(((decide ((j.toNat:Int)<65))||(decide ((j.toNat:Int)>90)))==true)) (vb (decide ((j.toNat:Int)<97)))= (vb (decide ((j.toNat:Int)<97))))) (fun h=>by exact mw (c:=(true&&(((decide ((j.toNat:Int)<65))||(decide ((j.toNat:Int)>90)))==true))) h)) (RL.pick (b:=((decide ((j.toNat:Int)<65))||(decide ((j.toNat:Int)>90)))) (v:=(vb (((decide ((j.toNat:Int)<65))||(decide ((j.toNat:Int)>90)))&&((decide ((j.toNat:Int)<97))||(decide ((j.toNat:Int)>122)))))) trivial rfl rfl (hZ (c:=true) rfl) (mv (vb (((decide ((j.toNat:Int)<65))||(decide ((j.toNat:Int)>90)))&&((decide ((j.toNat:Int)<97))||(decide ((j.toNat:Int)>122))))) rfl rfl (RL.gs (c:=true) (b:=(((decide ((j.toNat:Int)<65))||(decide ((j.toNat:Int)>90)))&&((decide ((j.toNat:Int)<97))||(decide ((j.toNat:Int)>122))))) (v:=(.int .u8 (j.toNat:Int))) rfl rfl rfl (cR rfl (fun _=>rfl)) (RL.gs (c:=true) (b:=(((decide ((j.toNat:Int)<65))||(decide ((j.toNat:Int)>90)))&&((decide ((j.toNat:Int)<97))||(decide ((j.toNat:Int)>122))))) (v:=(vb (decide ((j.toNat:Int)<48)))) rfl rfl rfl (dO (bop:= .lss) (K:= .u8) (a:=(j.toNat:Int)) (b:=48) rfl (fun h=>by exact(cD h:cv (true&&((((decide ((j.toNat:Int)<65))||(decide ((j.toNat:Int)>90)))&&((decide ((j.toNat:Int)<97))||(decide ((j.toNat:Int)>122))))==true)) (.int .u8 (j.toNat:Int))= (.int .u8 (j.toNat:Int)))) (fun _=>rfl) rfl) ?_))))))))
   refine RL.gs (c:=true) (b:=(((decide ((j.toNat:Int)<65))||(decide ((j.toNat:Int)>90)))&&((decide ((j.toNat:Int)<97))||(decide ((j.toNat:Int)>122))))) (v:=(vb (decide ((j.toNat:Int)<48)))) rfl rfl rfl (cR rfl (fun h=>by exact(cD h:cv (true&&((((decide ((j.toNat:Int)<65))||(decide ((j.toNat:Int)>90)))&&((decide ((j.toNat:Int)<97))||(decide ((j.toNat:Int)>122))))==true)) (vb (decide ((j.toNat:Int)<48)))= (vb (decide ((j.toNat:Int)<48)))))) (RL.gs (c:=(true&&((((decide ((j.toNat:Int)<65))||(decide ((j.toNat:Int)>90)))&&((decide ((j.toNat:Int)<97))||(decide ((j.toNat:Int)>122))))==true))) (b:=(decide ((j.toNat:Int)<48))) (v:=(.int .u8 (j.toNat:Int))) rfl rfl rfl (cR rfl (fun _=>rfl)) (RL.gs (c:=(true&&((((decide ((j.toNat:Int)<65))||(decide ((j.toNat:Int)>90)))&&((decide ((j.toNat:Int)<97))||(decide ((j.toNat:Int)>122))))==true))) (b:=(decide ((j.toNat:Int)<48))) (v:=(vb (decide ((j.toNat:Int)>57)))) rfl rfl rfl (dO (bop:= .gtr) (K:= .u8) (a:=(j.toNat:Int)) (b:=57) rfl (fun h=>by exact(cD h:cv ((true&&((((decide ((j.toNat:Int)<65))||(decide ((j.toNat:Int)>90)))&&((decide ((j.toNat:Int)<97))||(decide ((j.toNat:Int)>122))))==true))&&((decide ((j.toNat:Int)<48))==false)) (.int .u8 (j.toNat:Int))= (.int .u8 (j.toNat:Int)))) (fun _=>rfl) rfl) (RL.gs (c:=true) (b:=(((decide ((j.toNat:Int)<65))||(decide ((j.toNat:Int)>90)))&&((decide ((j.toNat:Int)<97))||(decide ((j.toNat:Int)>122))))) (v:=(vb ((decide ((j.toNat:Int)<48))||(decide ((j.toNat:Int)>57))))) rfl rfl rfl (nb (b:=(decide ((j.toNat:Int)<48))) rfl (fun h=>by exact(cD h:cv (true&&((((decide ((j.toNat:Int)<65))||(decide ((j.toNat:Int)>90)))&&((decide ((j.toNat:Int)<97))||(decide ((j.toNat:Int)>122))))==true)) (vb (decide ((j.toNat:Int)<48)))= (vb (decide ((j.toNat:Int)<48))))) (fun h=>by exact mw (c:=(true&&((((decide ((j.toNat:Int)<65))||(decide ((j.toNat:Int)>90)))&&((decide ((j.toNat:Int)<97))||(decide ((j.toNat:Int)>122))))==true))) h)) (RL.pick (b:=(((decide ((j.toNat:Int)<65))||(decide ((j.toNat:Int)>90)))&&((decide ((j.toNat:Int)<97))||(decide ((j.toNat:Int)>122))))) (v:=(vb ((((decide ((j.toNat:Int)<65))||(decide ((j.toNat:Int)>90)))&&((decide ((j.toNat:Int)<97))||(decide ((j.toNat:Int)>122))))&&((decide ((j.toNat:Int)<48))||(decide ((j.toNat:Int)>57)))))) trivial rfl rfl (hZ (c:=true) rfl) (mv (vb ((((decide ((j.toNat:Int)<65))||(decide ((j.toNat:Int)>90)))&&((decide ((j.toNat:Int)<97))||(decide ((j.toNat:Int)>122))))&&((decide ((j.toNat:Int)<48))||(decide ((j.toNat:Int)>57))))) rfl rfl (fW hj (fun aa hj=>?_) fun aa hj=>?_))))))
   rotate_left
   ·refine sk rfl (.inl (cb aa)) rfl (sk rfl (.inl (cb aa)) rfl (sk rfl (.inl (cb aa)) rfl (RL.pick (b:=((((decide ((j.toNat:Int)<65))||(decide ((j.toNat:Int)>90)))&&((decide ((j.toNat:Int)<97))||(decide ((j.toNat:Int)>122))))&&((decide ((j.toNat:Int)<48))||(decide ((j.toNat:Int)>57))))) (v:=(vb false)) trivial rfl rfl (by rw [aa];rfl) (RL.nil ?_))))
    obtain rfl:=oi hj
    exact⟨rfl,(ag zr),hw.pk 0 [] zr⟩
   refine RL.move (v:=(.int .u8 (j.toNat:Int))) (cg aa) zr zr ?_
   obtain⟨ae,ah,hj⟩:=bd hj
   refine RL.call (cg aa) zr Ds [(str ⟨[95,43,45,35]⟩),(.int .u8 (j.toNat:Int))] zr (aF (mM N (p0:=⟨[95,43,45,35]⟩) (p1:=(j.toNat:Int)) hw ah) ?_)
   rintro _ w ⟨rfl,hw⟩
   refine RL.iQ (a:=ae) (b:=0) (cg aa) rfl rfl rfl rfl (RL.pick (b:=((((decide ((j.toNat:Int)<65))||(decide ((j.toNat:Int)>90)))&&((decide ((j.toNat:Int)<97))||(decide ((j.toNat:Int)>122))))&&((decide ((j.toNat:Int)<48))||(decide ((j.toNat:Int)>57))))) (v:=(vb (decide (ae<0)))) trivial rfl rfl (by rw [aa];rfl) (RL.nil ?_))
   obtain rfl:=oi hj
   exact⟨rfl,(ag zr),hw.pk 0 [] zr⟩
  rintro σ w ⟨ha,hw⟩
  obtain⟨τ,rfl⟩:=ha.aO
  refine aG (eI hb zr (fun hc hb=>?_) fun hc hb=>?_)
  rotate_left
  ·refine RC.skip (bI (aG (RC.region (RL.inc zt zr hk hm zr zr (mv (vi ((o+1:Nat):Int)) zr zr (RL.nil ?_))))))
   obtain rfl:=oi hb
   exact⟨rfl,(ag zr),hw.pk 0 [] zr⟩
  refine RC.sr (aN (vb false) zr zr (RL.nt (RC.rb (bK ?_))))
  obtain rfl:=oi hb
  exact⟨rfl,bQ zr zr ⟨rfl,hw.drop 0 zr⟩⟩
 ·intro r σ w e hK
  subst e
  refine bK ?_
  obtain rfl:=oi hb
  exact hK
 intro ab σ w e hJ
 subst e
 rw [Fo.eC] at hb
 obtain⟨ha,hw⟩:=hJ
 obtain⟨τ,rfl⟩:=ha.aO
 refine aG (RC.sr (mv (str p0) rfl rfl (RL.lens (s:=p0) trivial rfl rfl ve (ic ((p0.bM.length:Int)) 1 rfl rfl rfl rfl (mv (vb (decide ((p0.bM.length:Int)≥1))) rfl rfl (RL.gs (c:=true) (b:=(decide ((p0.bM.length:Int)≥1))) (v:=(str p0)) rfl rfl rfl (cR rfl (fun _=>rfl)) (RL.gs (c:=true) (b:=(decide ((p0.bM.length:Int)≥1))) (v:=(vi (p0.bM.length:Int))) rfl rfl rfl (z7 (s:=p0) rfl (fun h=>by exact(cD h:cv (true&&((decide ((p0.bM.length:Int)≥1))==true)) (str p0)= (str p0))) ve) (RL.gs (c:=true) (b:=(decide ((p0.bM.length:Int)≥1))) (v:=(vb (decide ((p0.bM.length:Int)≤40)))) rfl rfl rfl (dO (bop:= .leq) (K:= .i64) (a:=(p0.bM.length:Int)) (b:=40) rfl (fun h=>by exact(cD h:cv (true&&((decide ((p0.bM.length:Int)≥1))==true)) (vi (p0.bM.length:Int))= (vi (p0.bM.length:Int)))) (fun _=>rfl) rfl) ?_))))))))
 refine RL.pick (b:=(decide ((p0.bM.length:Int)≥1))) (v:=(vb ((decide ((p0.bM.length:Int)≥1))&&(decide ((p0.bM.length:Int)≤40))))) zt zr zr (hZ (c:=true) zr) (aN (vb ((decide ((p0.bM.length:Int)≥1))&&(decide ((p0.bM.length:Int)≤40)))) zr zr (RL.nt (RC.ret ?_)))
 obtain rfl:=oi hb
 exact bQ zr zr ⟨rfl,hw.drop 0 zr⟩
def nL (E:World) (Γ:List HP) (res:Bool) (v:Value) (w:World):Prop:=v= (vb res)∧Holds E w Γ
theorem mN (N:Nat) {E w:World} {Γ:List HP} {p0:bS} {res:Bool} (hw:Holds E w Γ) (hb:dU N p0=some res):
    Calls Tryz.prog 60 [(str p0)].toArray w (fu (nL E Γ res)):=by
 unfold dU at hb
 refine enter Tryz.func60 zr zr (Nat.le_of_ble_eq_true zr) (RC.sr (aN (vb false) zr zr (RL.ns (mv (str p0) zr zr ?_))))
 obtain⟨j,o,hb⟩:=bd hb
 refine RL.call zt zr Ck [(str p0)] zr (aF (kH N (p0:=p0) hw o) ?_)
 rintro _ w ⟨rfl,hw⟩
 refine RL.not (b:=j) zt zr zr (aN (vb (!j)) zr zr (RL.nt (RC.ret ?_)))
 obtain rfl:=oi hb
 exact bQ zr zr ⟨rfl,hw.drop 0 zr⟩
def qm (E:World) (Γ:List HP) (res:Bool) (v:Value) (w:World):Prop:=v= (vb res)∧Holds E w Γ
theorem o7 (N:Nat) {E w:World} {Γ:List HP} {p0:bS} {res:Bool} (hw:Holds E w Γ) (hb:gS N p0=some res):
    Calls Tryz.prog 30 [(str p0)].toArray w (fu (qm E Γ res)):=by
 unfold gS at hb
 refine enter Tryz.func30 zr zr (Nat.le_of_ble_eq_true zr) (RC.sr (aN (vb false) zr zr (RL.nq ?_)))
 obtain⟨o,hj,hb⟩:=bd hb
 refine RC.jn (fun(o:Bool) (σ:Nat→Value) (w:World)=>agree σ [(2,(vb o))]∧Holds E w ([]++Γ)) o ?_ ?_
 ·refine RC.region (mv (str p0) zr zr (RL.lens (s:=p0) zt zr zr ve (ic ((p0.bM.length:Int)) 200 zr zr zr zr (mv (vb (decide ((p0.bM.length:Int)≤200))) zr zr (fW hj (fun j hj=>?_) fun j hj=>?_)))))
  rotate_left
  ·refine sk rfl (.inl (cb j)) rfl (sk rfl (.inl (cb j)) rfl (sk rfl (.inl (cb j)) rfl (sk rfl (.inl (cb j)) rfl (RL.pick (b:=(decide ((p0.bM.length:Int)≤200))) (v:=(vb false)) trivial rfl rfl (by rw [j];rfl) (aN (vb false) rfl rfl (RL.nil ?_))))))
   obtain rfl:=oi hj
   exact⟨rfl,⟨rfl,zt⟩,hw.pk 0 [] zr⟩
  refine RL.move (v:=(str p0)) (cg j) zr zr ?_
  obtain⟨af,ab,hj⟩:=bd hj
  refine RL.call (cg j) zr Dq [(str p0),(str ⟨[47]⟩)] zr (aF (qj N (p0:=p0) (p1:=⟨[47]⟩) hw ab) ?_)
  rintro ad w hw
  have hw:=hw.freeze (i:=0) rfl
  obtain⟨aa,ae,hj⟩:=bd hj
  refine RL.call (cg j) rfl Du [ad,(.func (.func 60) #[] #[])] rfl (aF (jA N (i0:=0) hw rfl ⟨60,[],rfl,Dt,fun w Γl v y0 r i hw hi hr=>by obtain rfl:=hw.vS (γ:=bS) hi;exact aF (mN N (p0:=y0) hw hr) fun _ _ h=>h⟩ ae) ?_)
  rintro _ w ⟨rfl,hw⟩
  refine RL.not (b:=aa) (cg j) rfl rfl (RL.pick (b:=(decide ((p0.bM.length:Int)≤200))) (v:=(vb (!aa))) trivial rfl rfl (by rw [j];rfl) (aN (vb (!aa)) rfl rfl (RL.nil ?_)))
  obtain rfl:=oi hj
  exact⟨rfl,⟨rfl,zt⟩,hw.pk 1 [] zr⟩
 rintro σ w ⟨ha,hw⟩
 obtain⟨τ,rfl⟩:=ha.aO
 refine aG (RC.ret ?_)
 obtain rfl:=oi hb
 exact bQ zr zr ⟨rfl,hw.drop 0 zr⟩
def rN (E:World) (Γ:List HP) (res:dC) (v:Value) (w:World):Prop:=Holds E w ([rd v res]++Γ)
theorem iC (N:Nat) {E w:World} {Γ:List HP} {i0:Nat} {v0:Value} {p0:cE} {res:dC} (hw:Holds E w Γ) (h0:Γ[i0]? =some (rd v0 p0)) (hb:gl N p0=some res):
    Calls Tryz.prog 13 [v0].toArray w (fu (rN E Γ res)):=by
 unfold gl at hb
 refine enter Tryz.func13 zr zr (Nat.le_of_ble_eq_true zr) ?_
 have hw:=hw.dup (i:=i0+0) h0
 refine RC.sr (RL.dP (i:=0) (v:=v0) zt zr hw zr zr fun o w hw=>(RL.alloc zt zr hw Bs.z fun aa w hw=>(RL.ns (RL.bD zt zr zr yY (RL.aL (i:=1) (f:=(fun x=>x.Part)) zt zr hw zr zr tg yZ (RL.bD zt zr zr y4 (RL.aL (i:=1) (f:=(fun x=>x.dC)) zt zr hw zr zr th yZ ?_)))))))
 have hw:=hw.sc (γ:=bS) p0.Part
 have hw:=hw.sc (γ:=bS) p0.dC
 refine RL.build (y:=(⟨p0.Part,p0.dC⟩:dC)) trivial rfl hw [(0,(str p0.Part)),(1,(str p0.dC))] rfl Dw rfl (fun M hs g=>by have h:=B3 M;exact cC.cons (f:=fun(x:dC) y=>{x with Part:=y}) rfl h yP (by decide) (g.sat 1 _ rfl).1 fun _ h=>cC.cons (f:=fun(x:dC) y=>{x with dC:=y}) rfl h yQ (by decide) (g.sat 0 _ rfl).1 fun _ h=>cC.nil h) fun ab hw=>(RL.bC (i:=3) (j:=0) trivial hw rfl rfl rfl rfl Cl rfl fun w hw=>(RL.nt (RC.ret ?_)))
 obtain rfl:=oi hb
 exact Aa (i:=3) zr hw zr zr Cl fun ad hw=>(hw.pk 7 [0] zr)
def lz (E:World) (Γ:List HP) (res:Int) (v:Value) (w:World):Prop:=v= (vi res)∧Holds E w Γ
theorem kV (N:Nat) {E w:World} {Γ:List HP} {p0:bS} {p1:bS} {res:Int} (hw:Holds E w Γ) (hb:gE N p0 p1=some res):
    Calls Tryz.prog 78 [(str p0),(str p1)].toArray w (fu (lz E Γ res)):=by
 unfold gE at hb
 refine enter Tryz.func78 zr zr (Nat.le_of_ble_eq_true zr) (RC.sr (aN (vi 0) zr zr (RL.ns (mv (str p0) zr zr (mv (str p1) zr zr (RL.rq (v:=(vi (Lib.compareBytes p0.bM p1.bM))) zt zr [(str p0),(str p1)] zr (iT p0 p1 w) (aN (vi (Lib.compareBytes p0.bM p1.bM)) zr zr (RL.nt ?_))))))))
 refine RC.ret ?_
 obtain rfl:=oi hb
 exact bQ zr zr ⟨rfl,hw.drop 0 zr⟩
def o8 (E:World) (Γ:List HP) (res:Int) (v:Value) (w:World):Prop:=v= (vi res)∧Holds E w Γ
theorem kh (N:Nat) {E w:World} {Γ:List HP} {p0:bS} {p1:bS} {res:Int} (hw:Holds E w Γ) (hb:iB N p0 p1=some res):
    Calls Tryz.prog 62 [(str p0),(str p1)].toArray w (fu (o8 E Γ res)):=by
 unfold iB at hb
 refine enter Tryz.func62 zr zr (Nat.le_of_ble_eq_true zr) (RC.sr (aN (vi 0) zr zr (RL.ns (mv (str p0) zr zr (mv (str p1) zr zr ?_)))))
 obtain⟨j,o,hb⟩:=bd hb
 refine RL.call zt zr Dx [(str p0),(str p1)] zr (aF (kV N (p0:=p0) (p1:=p1) hw o) ?_)
 rintro _ w ⟨rfl,hw⟩
 refine aN (vi j) zr zr (RL.nt (RC.ret ?_))
 obtain rfl:=oi hb
 exact bQ zr zr ⟨rfl,hw.drop 0 zr⟩
end Go.Gk
