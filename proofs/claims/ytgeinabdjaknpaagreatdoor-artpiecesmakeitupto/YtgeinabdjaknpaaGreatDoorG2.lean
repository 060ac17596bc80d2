/-
  Printed texts: Go functions as plain functions, and that they are. No statement of the seed is proved here.
-/
import Derived.Test.YtgeinabdjaknpaaGreatDoorG1
import Derived.Test.YtgeinabdjaknpaaGreatDoorA2
set_option linter.unusedVariables false
set_option linter.unusedSimpArgs false
set_option linter.unusedSectionVars false
set_option maxRecDepth 100000
set_option maxHeartbeats 4000000
namespace Go.Gk
open Go Go.Proofs
def j7 (E:World) (Γ:List HP) (res:Int) (v:Value) (w:World):Prop:=v= (vi res)∧Holds E w Γ
def nS (E:World) (Γ:List HP) (r:Int) (σ:Nat→Value) (w:World):Prop:=kc Tryz.prog 52 Tryz.f17 (j7 E Γ r) .ret σ w
theorem hB (N:Nat) {E w:World} {Γ:List HP} {i0:Nat} {v0:Value} {p0: (List aC)} {res:Int} (hw:Holds E w Γ) (h0:Γ[i0]? =some (rd v0 p0)) (hb:dS N p0=some res):
    Calls Tryz.prog 17 [v0].toArray w (fw (j7 E Γ res)):=by
 unfold dS at hb
 refine enter Tryz.func17 zr zr (Nat.le_of_ble_eq_true zr) ?_
 have hw:=hw.dup (i:=i0+0) h0
 refine RC.sr (aM (vi 0) zr zr (RL.nq (RC.sr (mv v0 zr zr ?_))))
 obtain⟨ak,ao,hb⟩:=bd hb
 refine RL.call zt zr CS [v0] zr (aF (j5 N (i0:=0) hw zr ao) ?_)
 rintro _ w ⟨rfl,hw⟩
 refine aM (vi ak) zr zr (RL.ns (mv (vi ak) zr zr (ic ak 0 zr zr zr zr (RL.nt (eI hb zr (fun hc hb=>?_) fun hc hb=>?_)))))
 ·refine RC.sr (mv (vi ak) zr zr (aM (vi ak) zr zr (RL.nt (RC.rt ?_))))
  obtain rfl:=oi hb
  exact bQ zr zr ⟨rfl,hw.drop 1 zr⟩
 refine RC.ss (RC.sr (aM (vi 1) zr zr (RL.nt ?_)))
 obtain⟨a5,hN,hb⟩:=bd hb
 refine RC.iter (fun(aj:Int) (σ:Nat→Value) (w:World)=>agree σ [(0,v0),(4,(vi aj))]∧Holds E w ([rd v0 p0]++Γ)) (fun(aj:Int) (σ:Nat→Value) (w:World)=>agree σ [(0,v0)]∧Holds E w ([rd v0 p0]++Γ)) (nS E Γ) hN ?_ ?_ ?_ ?_
 ·exact⟨(ag zr),hw.pk 1 [0] zr⟩
 ·intro aj fl σ w hI hb
  obtain⟨ha,hw⟩:=hI
  obtain⟨τ,rfl⟩:=ha.aO
  refine RC.seq (RC.sr (mv (vi aj) zr zr (mv v0 zr zr (RL.bG (i:=0) (l:=p0) zt zr hw zr zr lj (ic aj ((p0.length:Int)) zr zr zr zr (RL.nt (eI hb zr (fun hc hb=>?_) fun hc hb=>?_)))))))
  rotate_left
  ·refine RC.ex ?_
   obtain rfl:=oi hb
   exact⟨rfl,⟨rfl,zt⟩,hw.pk 1 [0] zr⟩
  refine RC.ss (RC.block (RC.seq ?_))
  obtain⟨o,aq,hb⟩:=bd hb
  obtain⟨aa,ar,hb⟩:=bd hb
  refine RC.tw (E:=E) (Γ:=Γ) mixed rfl [1,1,1,0,0,1,1,0,0,0,0,0,0] [3,4,7,8,9,10,11,12] (fun(x:Value×Value×Value×Value×Nat×Nat)=>(fun ae af ah ai ab ad=>[(0,18,v0),(1,19,(vi aj)),(2,20,(vi (IntKind.wrap .i64 (aj - 1)))),(3,21,ae),(4,22,af),(5,23,v0),(6,24,(vi aj)),(7,25,ah),(8,26,ai),(9,5,(vp ab 0)),(10,6,(vp ad 0))]) x.1 x.2.1 x.2.2.1 x.2.2.2.1 x.2.2.2.2.1 x.2.2.2.2.2) [(0,v0),(4,(vi aj))] [] (fun(D:Nat→Bool) (x:Value×Value×Value×Value×Nat×Nat)=>(fun ae af ah ai ab ad=>[bif D 0 then (pt ae o) else aK,bif D 1 then (rd af o) else aK,bif D 2 then (pt ah aa) else aK,bif D 3 then (rd ai aa) else aK,bif D 6 then (bx 61 ab o) else (bif D 4 then (raw 61 ab 4) else aK),bif D 7 then (bx 61 ad aa) else (bif D 5 then (raw 61 ad 4) else aK),rd v0 p0]) x.1 x.2.1 x.2.2.1 x.2.2.2.1 x.2.2.2.2.1 x.2.2.2.2.2) (fun x=>by kernel_rfl) ?_ ⟨fun _=>eA gn rfl,fun _=>eA gn rfl,fun _=>zH gn rfl,?_,?_,fun _=>eA gn rfl,fun _=>eA gn rfl,?_,?_,?_,?_,?_,?_,trivial⟩ ?_
  ·have hw:=hw.drew
   have hw:=hw.aK
   have hw:=hw.aK
   have hw:=hw.aK
   have hw:=hw.aK
   have hw:=hw.aK
   have hw:=hw.aK
   exact⟨(undef,undef,undef,undef,0,0),doneV.none,(ag zr),zt,hw⟩
  ·rintro D σ w hD hdep hcl ⟨⟨ae,af,ah,ai,ab,ad⟩,hv,ha,_,hw⟩
   obtain⟨τ,rfl⟩:=(ac (hv.at 0 rfl (hdep.1 rfl)) (ac (hv.at 2 rfl (hdep.2.1 rfl)) az)).aO
   have hw:=hw.aP (i:=0) rfl hD
   refine RL.bO (i:=6) zt zr hw zr zr zr iE aq fun au hw=>?_
   have hw:=hw.pl 8 [0,2,3,4,5,6,7] rfl
   have hw:=hw.aS (i:=0) (b:=true) rfl rfl (aK)
   exact RL.nil ⟨rfl,(au,af,ah,ai,ab,ad),hv.put 3 zr zr,ha.up zr,zt,hw⟩
  ·rintro D σ w hD hdep hcl ⟨⟨ae,af,ah,ai,ab,ad⟩,hv,ha,_,hw⟩
   obtain⟨τ,rfl⟩:=(ac (hv.at 3 rfl (hdep.1 rfl)) az).aO
   have hw:=hw.aR (i:=0) rfl (hdep.1 rfl)
   have hw:=hw.aP (i:=1) rfl hD
   refine RL.bP (i:=0) (x:=o) zt zr hw zr zr eM fun av hw=>?_
   have hw:=hw.pl 8 [1,0,3,4,5,6,7] rfl
   have hw:=hw.aS (i:=0) (b:=D 3) rfl (hdep.1 rfl) (aK)
   have hw:=hw.aS (i:=1) (b:=true) rfl rfl (aK)
   exact RL.nil ⟨rfl,(ae,av,ah,ai,ab,ad),hv.put 4 zr zr,ha.up zr,zt,hw⟩
  ·rintro D σ w hD hdep hcl ⟨⟨ae,af,ah,ai,ab,ad⟩,hv,ha,_,hw⟩
   obtain⟨τ,rfl⟩:=(ac (hv.at 5 rfl (hdep.1 rfl)) (ac (hv.at 6 rfl (hdep.2.1 rfl)) az)).aO
   have hw:=hw.aP (i:=2) rfl hD
   refine RL.bO (i:=6) zt zr hw zr zr zr iE ar fun aw hw=>?_
   have hw:=hw.pl 8 [1,2,0,4,5,6,7] rfl
   have hw:=hw.aS (i:=2) (b:=true) rfl rfl (aK)
   exact RL.nil ⟨rfl,(ae,af,aw,ai,ab,ad),hv.put 7 zr zr,ha.up zr,zt,hw⟩
  ·rintro D σ w hD hdep hcl ⟨⟨ae,af,ah,ai,ab,ad⟩,hv,ha,_,hw⟩
   obtain⟨τ,rfl⟩:=(ac (hv.at 7 rfl (hdep.1 rfl)) az).aO
   have hw:=hw.aR (i:=2) rfl (hdep.1 rfl)
   have hw:=hw.aP (i:=3) rfl hD
   refine RL.bP (i:=2) (x:=aa) zt zr hw zr zr eM fun ax hw=>?_
   have hw:=hw.pl 8 [1,2,3,0,5,6,7] rfl
   have hw:=hw.aS (i:=2) (b:=D 7) rfl (hdep.1 rfl) (aK)
   have hw:=hw.aS (i:=3) (b:=true) rfl rfl (aK)
   exact RL.nil ⟨rfl,(ae,af,ah,ax,ab,ad),hv.put 8 zr zr,ha.up zr,zt,hw⟩
  ·rintro D σ w hD hdep hcl ⟨⟨ae,af,ah,ai,ab,ad⟩,hv,ha,_,hw⟩
   obtain⟨τ,rfl⟩:=(az (σ:=σ)).aO
   have hw:=hw.aP (i:=4) rfl (nf (fun h=>ft hD ((hcl 11 _ rfl h).1 rfl)))
   have hw:=hw.aP (i:=4) rfl hD
   refine RL.alloc zt zr hw kP.z fun al w hw=>?_
   have hw:=hw.pl 8 [1,2,3,4,0,6,7] rfl
   have hw:=hw.aS (i:=4) (b:=true) rfl rfl (aK)
   have hw:=hw.cK (i:=4) (b:=D 11) rfl (nf (fun h=>ft hD ((hcl 11 _ rfl h).1 rfl))) (bx 61 al o)
   exact RL.nil ⟨rfl,(ae,af,ah,ai,al,ad),hv.put 9 zr zr,ha.up zr,zt,hw⟩
  ·rintro D σ w hD hdep hcl ⟨⟨ae,af,ah,ai,ab,ad⟩,hv,ha,_,hw⟩
   obtain⟨τ,rfl⟩:=(az (σ:=σ)).aO
   have hw:=hw.aP (i:=5) rfl (nf (fun h=>ft hD ((hcl 12 _ rfl h).1 rfl)))
   have hw:=hw.aP (i:=5) rfl hD
   refine RL.alloc zt zr hw kP.z fun an w hw=>?_
   have hw:=hw.pl 8 [1,2,3,4,5,0,7] rfl
   have hw:=hw.aS (i:=5) (b:=true) rfl rfl (aK)
   have hw:=hw.cK (i:=5) (b:=D 12) rfl (nf (fun h=>ft hD ((hcl 12 _ rfl h).1 rfl))) (bx 61 an aa)
   exact RL.nil ⟨rfl,(ae,af,ah,ai,ab,an),hv.put 10 zr zr,ha.up zr,zt,hw⟩
  ·rintro D σ w hD hdep hcl ⟨⟨ae,af,ah,ai,ab,ad⟩,hv,ha,_,hw⟩
   obtain⟨τ,rfl⟩:=(ac (hv.at 4 rfl (hdep.2.1 rfl)) (ac (hv.at 9 rfl (hdep.1 rfl)) az)).aO
   have hw:=hw.aR (i:=1) rfl (hdep.2.1 rfl)
   have hw:=hw.aP (i:=4) rfl hD
   have hw:=hw.aR (i:=4) rfl (hdep.1 rfl)
   refine RL.bC (i:=4) (j:=1) zt hw zr zr zr zr eM zr fun w hw=>?_
   have hw:=hw.aS (i:=1) (b:=D 4) rfl (hdep.2.1 rfl) (aK)
   have hw:=hw.aS (i:=4) (b:=true) rfl rfl (bif D 9 then (raw 61 ab 4) else aK)
   exact RL.nil ⟨rfl,(ae,af,ah,ai,ab,ad),hv.no zr,ha,zt,hw⟩
  ·rintro D σ w hD hdep hcl ⟨⟨ae,af,ah,ai,ab,ad⟩,hv,ha,_,hw⟩
   obtain⟨τ,rfl⟩:=(ac (hv.at 8 rfl (hdep.2.1 rfl)) (ac (hv.at 10 rfl (hdep.1 rfl)) az)).aO
   have hw:=hw.aR (i:=3) rfl (hdep.2.1 rfl)
   have hw:=hw.aP (i:=5) rfl hD
   have hw:=hw.aR (i:=5) rfl (hdep.1 rfl)
   refine RL.bC (i:=5) (j:=3) zt hw zr zr zr zr eM zr fun w hw=>?_
   have hw:=hw.aS (i:=3) (b:=D 8) rfl (hdep.2.1 rfl) (aK)
   have hw:=hw.aS (i:=5) (b:=true) rfl rfl (bif D 10 then (raw 61 ad 4) else aK)
   exact RL.nil ⟨rfl,(ae,af,ah,ai,ab,ad),hv.no zr,ha,zt,hw⟩
  rintro D σ w hall ⟨⟨ae,af,ah,ai,ab,ad⟩,hv,ha,_,hw⟩
  have hw:=hw.aR (i:=0) rfl (hall 3 (by decide))
  have hw:=hw.aR (i:=1) rfl (hall 4 (by decide))
  have hw:=hw.aR (i:=2) rfl (hall 7 (by decide))
  have hw:=hw.aR (i:=3) rfl (hall 8 (by decide))
  have hw:=hw.aR (i:=4) rfl (hall 11 (by decide))
  have hw:=hw.aR (i:=5) rfl (hall 12 (by decide))
  obtain⟨τ,rfl⟩:=(ac (hv.at 9 rfl (hall 9 (by decide))) (ac (hv.at 10 rfl (hall 10 (by decide))) (ac (ha.at 0 rfl) (ac (ha.at 1 rfl) az)))).aO
  refine aG (RC.sr (RL.bF zt zr zr gM (RL.aL (i:=5) (f:=(fun x=>x.Y0)) zt zr hw zr zr cZ bX (RL.bF zt zr zr gM (RL.aL (i:=4) (f:=(fun x=>x.Y0)) zt zr hw zr zr cZ bX (ic (aa.Y0) (o.Y0) zr zr zr zr (mv (vb (decide (aa.Y0<o.Y0))) zr zr (RL.gs (c:=true) (b:=(decide (aa.Y0<o.Y0))) (v:=(vp ad 1)) zr zr zr (dD zr (fun _=>zr) gM) ?_))))))))
  refine RL.gs (c:=true) (b:=(decide (aa.Y0<o.Y0))) (v:=(vi aa.Y0)) rfl rfl rfl (bK (i:=5) (f:=(fun x=>x.Y0)) rfl hw (fun h=>by exact(cC h:cv (true&&((decide (aa.Y0<o.Y0))==false)) (vp ad 1)= (vp ad 1))) rfl cZ bX) (RL.gs (c:=true) (b:=(decide (aa.Y0<o.Y0))) (v:=(vp ab 1)) rfl rfl rfl (dD rfl (fun _=>rfl) gM) (RL.gs (c:=true) (b:=(decide (aa.Y0<o.Y0))) (v:=(vi o.Y0)) rfl rfl rfl (bK (i:=4) (f:=(fun x=>x.Y0)) rfl hw (fun h=>by exact(cC h:cv (true&&((decide (aa.Y0<o.Y0))==false)) (vp ab 1)= (vp ab 1))) rfl cZ bX) (RL.gs (c:=true) (b:=(decide (aa.Y0<o.Y0))) (v:=(vb (aa.Y0==o.Y0))) rfl rfl rfl (cV (bop:= .eql) (K:= .i64) (a:=aa.Y0) (b:=o.Y0) rfl (fun h=>by exact(cC h:cv (true&&((decide (aa.Y0<o.Y0))==false)) (vi aa.Y0)= (vi aa.Y0))) (fun h=>by exact(cC h:cv (true&&((decide (aa.Y0<o.Y0))==false)) (vi o.Y0)= (vi o.Y0))) rfl) (RL.gs (c:=true) (b:=(decide (aa.Y0<o.Y0))) (v:=(vb (aa.Y0==o.Y0))) rfl rfl rfl (cN rfl (fun h=>by exact(cC h:cv (true&&((decide (aa.Y0<o.Y0))==false)) (vb (aa.Y0==o.Y0))= (vb (aa.Y0==o.Y0))))) (RL.gs (c:=(true&&((decide (aa.Y0<o.Y0))==false))) (b:=(aa.Y0==o.Y0)) (v:=(vp ad 0)) rfl rfl rfl (dD rfl (fun _=>rfl) f0) (RL.gs (c:=(true&&((decide (aa.Y0<o.Y0))==false))) (b:=(aa.Y0==o.Y0)) (v:=(vi aa.X0)) rfl rfl rfl (bK (i:=5) (f:=(fun x=>x.X0)) rfl hw (fun h=>by exact(cC h:cv ((true&&((decide (aa.Y0<o.Y0))==false))&&((aa.Y0==o.Y0)==true)) (vp ad 0)= (vp ad 0))) rfl cU bX) (RL.gs (c:=(true&&((decide (aa.Y0<o.Y0))==false))) (b:=(aa.Y0==o.Y0)) (v:=(vp ab 0)) rfl rfl rfl (dD rfl (fun _=>rfl) f0) (RL.gs (c:=(true&&((decide (aa.Y0<o.Y0))==false))) (b:=(aa.Y0==o.Y0)) (v:=(vi o.X0)) rfl rfl rfl (bK (i:=4) (f:=(fun x=>x.X0)) rfl hw (fun h=>by exact(cC h:cv ((true&&((decide (aa.Y0<o.Y0))==false))&&((aa.Y0==o.Y0)==true)) (vp ab 0)= (vp ab 0))) rfl cU bX) ?_))))))))
  refine RL.gs (c:=(true&&((decide (aa.Y0<o.Y0))==false))) (b:=(aa.Y0==o.Y0)) (v:=(vb (decide (aa.X0≤o.X0)))) rfl rfl rfl (cV (bop:= .leq) (K:= .i64) (a:=aa.X0) (b:=o.X0) rfl (fun h=>by exact(cC h:cv ((true&&((decide (aa.Y0<o.Y0))==false))&&((aa.Y0==o.Y0)==true)) (vi aa.X0)= (vi aa.X0))) (fun h=>by exact(cC h:cv ((true&&((decide (aa.Y0<o.Y0))==false))&&((aa.Y0==o.Y0)==true)) (vi o.X0)= (vi o.X0))) rfl) (RL.gs (c:=true) (b:=(decide (aa.Y0<o.Y0))) (v:=(vb ((aa.Y0==o.Y0)&&(decide (aa.X0≤o.X0))))) rfl rfl rfl (nv (b:=(aa.Y0==o.Y0)) rfl (fun h=>by exact(cC h:cv (true&&((decide (aa.Y0<o.Y0))==false)) (vb (aa.Y0==o.Y0))= (vb (aa.Y0==o.Y0)))) (fun h=>by exact gW (c:=(true&&((decide (aa.Y0<o.Y0))==false))) h)) (RL.pick (b:=(decide (aa.Y0<o.Y0))) (v:=(vb ((decide (aa.Y0<o.Y0))||((aa.Y0==o.Y0)&&(decide (aa.X0≤o.X0)))))) trivial rfl rfl (ml (c:=true) rfl) (RL.nt (eI hb rfl (fun hc hb=>?_) fun hc hb=>?_))))
  ·refine RC.sr (aM (vi 8) zr zr (RL.nt (RC.rb (bL ?_))))
   obtain rfl:=oi hb
   exact⟨rfl,bQ zr zr ⟨rfl,hw.drop 7 zr⟩⟩
  refine RC.skip (bJ (aG (RC.region (mv (vi aj) zr zr (RL.gQ (a:=aj) (b:=1) zt zr zr zr zr (aM (vi (IntKind.wrap .i64 (aj+1))) zr zr (RL.nil ?_)))))))
  obtain rfl:=oi hb
  exact⟨rfl,(ag zr),hw.pk 7 [6] zr⟩
 ·intro r σ w e hK
  subst e
  refine bL ?_
  obtain rfl:=oi hb
  exact hK
 intro aj σ w e hJ
 subst e
 rw [Fo.eT] at hb
 obtain⟨ha,hw⟩:=hJ
 obtain⟨τ,rfl⟩:=ha.aO
 refine aG (RC.seq (RC.sr (mv v0 zr zr ?_)))
 obtain⟨a6,ay,hb⟩:=bd hb
 refine RL.call zt zr yy [v0] zr (aF (ga N (i0:=0) hw zr ay) ?_)
 rintro a0 w hw
 have hw:=hw.freeze (i:=0) rfl
 obtain⟨a7,a1,hb⟩:=bd hb
 refine RL.call zt zr zT [a0] zr (aF (fo N (i0:=0) hw zr a1) ?_)
 rintro a2 w hw
 refine mv v0 zr zr ?_
 have hw:=hw.freeze (i:=0) rfl
 obtain⟨a3,a4,hb⟩:=bd hb
 refine RL.call zt zr Ei [a2,v0] zr (aF (mW N (i0:=0) (i1:=2) hw zr zr a4) ?_)
 rintro _ w ⟨rfl,hw⟩
 refine RL.not (b:=a3) zt zr zr (RL.nt (eI hb zr (fun hc hb=>?_) fun hc hb=>?_))
 ·refine RC.sr (aM (vi 3) zr zr (RL.nt (RC.rt ?_)))
  obtain rfl:=oi hb
  exact bQ zr zr ⟨rfl,hw.drop 3 zr⟩
 refine RC.sx (aM (vi 0) zr zr (RL.nt (RC.ret ?_)))
 obtain rfl:=oi hb
 exact bQ zr zr ⟨rfl,hw.drop 3 zr⟩
def rD (E:World) (Γ:List HP) (res:Bool) (v:Value) (w:World):Prop:=v= (vb res)∧Holds E w Γ
theorem gh (N:Nat) {E w:World} {Γ:List HP} {p0:Int} {p1:Int} {p2:Int} {res:Bool} (hw:Holds E w Γ) (hb:dA N p0 p1 p2=some res):
    Calls Tryz.prog 16 [(vi p0),(vi p1),(vi p2)].toArray w (fw (rD E Γ res)):=by
 unfold dA at hb
 refine enter Tryz.func16 zr zr (Nat.le_of_ble_eq_true zr) (RC.sr (aM (vb false) zr zr (RL.ns (mv (vi p0) zr zr (mv (vi p1) zr zr (ic p0 p1 zr zr zr zr (mv (vb (decide (p0≥p1))) zr zr (RL.gs (c:=true) (b:=(decide (p0≥p1))) (v:=(vi p0)) zr zr zr (cN zr (fun _=>zr)) ?_))))))))
 refine RL.gs (c:=true) (b:=(decide (p0≥p1))) (v:=(vi p2)) rfl rfl rfl (cN rfl (fun _=>rfl)) (RL.gs (c:=true) (b:=(decide (p0≥p1))) (v:=(vb (decide (p0≤p2)))) rfl rfl rfl (cV (bop:= .leq) (K:= .i64) (a:=p0) (b:=p2) rfl (fun h=>by exact(cC h:cv (true&&((decide (p0≥p1))==true)) (vi p0)= (vi p0))) (fun h=>by exact(cC h:cv (true&&((decide (p0≥p1))==true)) (vi p2)= (vi p2))) rfl) (RL.pick (b:=(decide (p0≥p1))) (v:=(vb ((decide (p0≥p1))&&(decide (p0≤p2))))) trivial rfl rfl (gW (c:=true) rfl) (aM (vb ((decide (p0≥p1))&&(decide (p0≤p2)))) rfl rfl (RL.nt (RC.ret ?_)))))
 obtain rfl:=oi hb
 exact bQ zr zr ⟨rfl,hw.drop 0 zr⟩
def rE (E:World) (Γ:List HP) (res:Bool) (v:Value) (w:World):Prop:=v= (vb res)∧Holds E w Γ
theorem lL (N:Nat) {E w:World} {Γ:List HP} {i0:Nat} {v0:Value} {p0:bU} {res:Bool} (hw:Holds E w Γ) (h0:Γ[i0]? =some (rd v0 p0)) (hb:eU N p0=some res):
    Calls Tryz.prog 28 [v0].toArray w (fw (rE E Γ res)):=by
 unfold eU at hb
 refine enter Tryz.func28 zr zr (Nat.le_of_ble_eq_true zr) ?_
 have hw:=hw.dup (i:=i0+0) h0
 refine RC.sr (RL.dN (i:=0) (v:=v0) zt zr hw zr zr fun af w hw=>(aM (vb false) zr zr (RL.nq ?_)))
 obtain⟨o,hj,hb⟩:=bd hb
 refine RC.jn (fun(o:Bool) (σ:Nat→Value) (w:World)=>agree σ [(2,(vb o))]∧Holds E w ([]++Γ)) o ?_ ?_
 ·refine RC.region (RL.bF zt zr zr uK (RL.aL (i:=0) (f:=(fun x=>x.X)) zt zr hw zr zr l7 bX ?_))
  obtain⟨aa,ad,hj⟩:=bd hj
  refine RL.call zt zr yx [(vi p0.X)] zr (aF (gJ N (p0:=p0.X) hw ad) ?_)
  rintro _ w ⟨rfl,hw⟩
  refine mv (vb aa) zr zr (fH hj (fun j hj=>?_) fun j hj=>?_)
  rotate_left
  ·refine sk rfl (.inl (cb j)) rfl (sk rfl (.inl (cb j)) rfl (sk rfl (.inl (cb j)) rfl (RL.pick (b:=aa) (v:=(vb false)) trivial rfl rfl (by rw [j];rfl) (aM (vb false) rfl rfl (RL.nil ?_)))))
   obtain rfl:=oi hj
   exact⟨rfl,⟨rfl,zt⟩,hw.pk 2 [] zr⟩
  refine RL.bF (cg j) zr zr uL (RL.aL (i:=0) (f:=(fun x=>x.Y)) (cg j) zr hw zr zr l8 bX ?_)
  obtain⟨ab,ae,hj⟩:=bd hj
  refine RL.call (cg j) zr yx [(vi p0.Y)] zr (aF (gJ N (p0:=p0.Y) hw ae) ?_)
  rintro _ w ⟨rfl,hw⟩
  refine RL.pick (b:=aa) (v:=(vb ab)) trivial rfl rfl (by rw [j];rfl) (aM (vb ab) rfl rfl (RL.nil ?_))
  obtain rfl:=oi hj
  exact⟨rfl,⟨rfl,zt⟩,hw.pk 2 [] zr⟩
 rintro σ w ⟨ha,hw⟩
 obtain⟨τ,rfl⟩:=ha.aO
 refine aG (RC.ret ?_)
 obtain rfl:=oi hb
 exact bQ zr zr ⟨rfl,hw.drop 0 zr⟩
def pC (E:World) (Γ:List HP) (res:aC) (v:Value) (w:World):Prop:=Holds E w ([rd v res]++Γ)
theorem eD (N:Nat) {E w:World} {Γ:List HP} {i0:Nat} {v0:Value} {p0:bD} {res:aC} (hw:Holds E w Γ) (h0:Γ[i0]? =some (rd v0 p0)) (hb:cQ N p0=some res):
    Calls Tryz.prog 24 [v0].toArray w (fw (pC E Γ res)):=by
 unfold cQ at hb
 refine enter Tryz.func24 zr zr (Nat.le_of_ble_eq_true zr) ?_
 have hw:=hw.dup (i:=i0+0) h0
 refine RC.sr (RL.dN (i:=0) (v:=v0) trivial rfl hw rfl rfl fun o w hw=>(RL.alloc trivial rfl hw kP.z fun aa w hw=>(RL.nq (RC.uy mixed rfl (by kernel_rfl) ?_))))
 have hw:=hw.drew
 refine RO.go (RL.bF trivial rfl rfl xf (RO.nx (RL.bF trivial rfl rfl uK (RO.nx (RL.aL (i:=1) (f:=(fun x=>x.At.X)) trivial rfl hw rfl rfl (Fd.comp (f:=fun(x:bD)=>x.At) (f':=fun(x:bU)=>x.X) qq l7 (by decide)) bX (RO.nx (RL.bF trivial rfl rfl sj (RO.nx ?_))))))))
 refine RL.aL (i:=1) (f:=(fun x=>x.cD)) zt zr hw zr zr lD bX (RO.nx (RL.quo (a:=p0.cD) (b:=2) zt zr zr zr zr (RO.nx (RL.gQ (a:=p0.At.X) (b:=(IntKind.wrap .i64 (Int.tdiv p0.cD 2))) zt zr zr zr zr (RO.nx (RL.bF zt zr zr xf (RO.nx (RL.bF zt zr zr uL ?_))))))))
 refine RO.nx (RL.aL (i:=1) (f:=(fun x=>x.At.Y)) trivial rfl hw rfl rfl (Fd.comp (f:=fun(x:bD)=>x.At) (f':=fun(x:bU)=>x.Y) qq l8 (by decide)) bX (RO.nx (RL.bF trivial rfl rfl sj (RO.nx (RL.aL (i:=1) (f:=(fun x=>x.cD)) trivial rfl hw rfl rfl lD bX (RO.nx (RL.quo (a:=p0.cD) (b:=2) trivial rfl rfl rfl rfl (RO.nx ?_))))))))
 refine RL.gQ (a:=p0.At.Y) (b:=(IntKind.wrap .i64 (Int.tdiv p0.cD 2))) zt zr zr zr zr (RO.nx (aM (vi (IntKind.wrap .i64 (p0.At.X - (IntKind.wrap .i64 (Int.tdiv p0.cD 2))))) zr zr (RO.nx (aM (vi (IntKind.wrap .i64 (p0.At.Y - (IntKind.wrap .i64 (Int.tdiv p0.cD 2))))) zr zr (RO.last (aG (RC.sr (mv (vi (IntKind.wrap .i64 (p0.At.X - (IntKind.wrap .i64 (Int.tdiv p0.cD 2))))) zr zr ?_))))))))
 refine mv (vi (IntKind.wrap .i64 (p0.At.Y - (IntKind.wrap .i64 (Int.tdiv p0.cD 2))))) zr zr (mv (vi (IntKind.wrap .i64 (p0.At.X - (IntKind.wrap .i64 (Int.tdiv p0.cD 2))))) zr zr (RL.bF zt zr zr sj (RL.aL (i:=1) (f:=(fun x=>x.cD)) zt zr hw zr zr lD bX (RL.gQ (a:=(IntKind.wrap .i64 (p0.At.X - (IntKind.wrap .i64 (Int.tdiv p0.cD 2))))) (b:=p0.cD) zt zr zr zr zr (mv (vi (IntKind.wrap .i64 (p0.At.Y - (IntKind.wrap .i64 (Int.tdiv p0.cD 2))))) zr zr (RL.bF zt zr zr sj (RL.aL (i:=1) (f:=(fun x=>x.cD)) zt zr hw zr zr lD bX (RL.gQ (a:=(IntKind.wrap .i64 (p0.At.Y - (IntKind.wrap .i64 (Int.tdiv p0.cD 2))))) (b:=p0.cD) zt zr zr zr zr ?_))))))))
 have hw:=hw.sc (γ:=Int) (IntKind.wrap .i64 (p0.At.X - (IntKind.wrap .i64 (Int.tdiv p0.cD 2))))
 have hw:=hw.sc (γ:=Int) (IntKind.wrap .i64 (p0.At.Y - (IntKind.wrap .i64 (Int.tdiv p0.cD 2))))
 have hw:=hw.sc (γ:=Int) (IntKind.wrap .i64 ((IntKind.wrap .i64 (p0.At.X - (IntKind.wrap .i64 (Int.tdiv p0.cD 2))))+p0.cD))
 have hw:=hw.sc (γ:=Int) (IntKind.wrap .i64 ((IntKind.wrap .i64 (p0.At.Y - (IntKind.wrap .i64 (Int.tdiv p0.cD 2))))+p0.cD))
 refine RL.build (y:=(⟨(IntKind.wrap .i64 (p0.At.X - (IntKind.wrap .i64 (Int.tdiv p0.cD 2)))),(IntKind.wrap .i64 (p0.At.Y - (IntKind.wrap .i64 (Int.tdiv p0.cD 2)))),(IntKind.wrap .i64 ((IntKind.wrap .i64 (p0.At.X - (IntKind.wrap .i64 (Int.tdiv p0.cD 2))))+p0.cD)),(IntKind.wrap .i64 ((IntKind.wrap .i64 (p0.At.Y - (IntKind.wrap .i64 (Int.tdiv p0.cD 2))))+p0.cD))⟩:aC)) trivial rfl hw [(0,(vi (IntKind.wrap .i64 (p0.At.X - (IntKind.wrap .i64 (Int.tdiv p0.cD 2)))))),(1,(vi (IntKind.wrap .i64 (p0.At.Y - (IntKind.wrap .i64 (Int.tdiv p0.cD 2)))))),(2,(vi (IntKind.wrap .i64 ((IntKind.wrap .i64 (p0.At.X - (IntKind.wrap .i64 (Int.tdiv p0.cD 2))))+p0.cD)))),(3,(vi (IntKind.wrap .i64 ((IntKind.wrap .i64 (p0.At.Y - (IntKind.wrap .i64 (Int.tdiv p0.cD 2))))+p0.cD))))] rfl yz rfl (fun M hs g=>by have h:=oD M;exact cB.cons (f:=fun(x:aC) y=>{x with X0:=y}) rfl h lB (by decide) (g.sat 3 _ rfl).1 fun _ h=>cB.cons (f:=fun(x:aC) y=>{x with Y0:=y}) rfl h nz (by decide) (g.sat 2 _ rfl).1 fun _ h=>cB.cons (f:=fun(x:aC) y=>{x with X1:=y}) rfl h lC (by decide) (g.sat 1 _ rfl).1 fun _ h=>cB.cons (f:=fun(x:aC) y=>{x with Y1:=y}) rfl h nA (by decide) (g.sat 0 _ rfl).1 fun _ h=>cB.nil h) fun ab hw=>(RL.bC (i:=5) (j:=0) trivial hw rfl rfl rfl rfl eM rfl fun w hw=>(RL.nt (RC.ret ?_)))
 obtain rfl:=oi hb
 exact A1 (i:=5) zr hw zr zr eM fun ad hw=>(hw.pk 9 [0] zr)
def oI (E:World) (Γ:List HP) (res:aC) (v:Value) (w:World):Prop:=Holds E w ([rd v res]++Γ)
theorem nT (N:Nat) {E w:World} {Γ:List HP} {i0:Nat} {v0:Value} {p0: (List aA)} {res:aC} (hw:Holds E w Γ) (h0:Γ[i0]? =some (rd v0 p0)) (hb:ig N p0=some res):
    Calls Tryz.prog 59 [v0].toArray w (fw (oI E Γ res)):=by
 unfold ig at hb
 refine enter Tryz.func59 zr zr (Nat.le_of_ble_eq_true zr) ?_
 have hw:=hw.dup (i:=i0+0) h0
 refine RC.sr (RL.alloc zt zr hw kP.z fun a7 w hw=>(RL.nq ?_))
 obtain⟨ba,bf,hb⟩:=bd hb
 obtain⟨a5,bg,hb⟩:=bd hb
 obtain⟨a2,bh,hb⟩:=bd hb
 obtain⟨bb,bj,hb⟩:=bd hb
 obtain⟨a6,bk,hb⟩:=bd hb
 obtain⟨a3,bl,hb⟩:=bd hb
 refine RC.tw (E:=E) (Γ:=Γ) mixed rfl [1,0,0,0,0,0,1,0,0,0,1,0,0,0,0,0,1,1,0,1,0,0,0,0,0,0] [1,2,3,4,7,8,11,12,13,14,20,21,23,24,25] (fun(x:Value×Value×Value×Value×Value×Value×Value×Value×Value×Value×Value×Value×Value×Nat)=>(fun ab ad ae af ah ai aj ak al an ao aq ar o=>[(0,6,v0),(1,7,ab),(2,8,ad),(3,9,ae),(4,10,af),(5,11,(vi a5)),(6,12,v0),(7,13,ah),(8,14,ai),(9,15,(vi a2.Y0)),(10,16,v0),(11,17,aj),(12,18,ak),(13,19,al),(14,20,an),(15,21,(vi a6)),(16,22,v0),(17,23,v0),(18,24,(vi (p0.length:Int))),(19,25,(vi (IntKind.wrap .i64 ((p0.length:Int) - 1)))),(20,26,ao),(21,27,aq),(22,28,(vi a3.Y1)),(23,29,ar),(24,3,(vp o 0))]) x.1 x.2.1 x.2.2.1 x.2.2.2.1 x.2.2.2.2.1 x.2.2.2.2.2.1 x.2.2.2.2.2.2.1 x.2.2.2.2.2.2.2.1 x.2.2.2.2.2.2.2.2.1 x.2.2.2.2.2.2.2.2.2.1 x.2.2.2.2.2.2.2.2.2.2.1 x.2.2.2.2.2.2.2.2.2.2.2.1 x.2.2.2.2.2.2.2.2.2.2.2.2.1 x.2.2.2.2.2.2.2.2.2.2.2.2.2) [(0,v0),(2,(vp a7 0))] [] (fun(D:Nat→Bool) (x:Value×Value×Value×Value×Value×Value×Value×Value×Value×Value×Value×Value×Value×Nat)=>(fun ab ad ae af ah ai aj ak al an ao aq ar o=>[bif D 0 then (pt ab ba) else aK,bif D 1 then (pt ad ba.Xs) else aK,bif D 2 then (rd ae ba.Xs) else aK,bif D 3 then (pt af a5) else aK,bif D 4 then (pt ah a2) else aK,bif D 5 then (pt ai a2.Y0) else aK,bif D 6 then (pt aj bb) else aK,bif D 7 then (pt ak bb.Xs) else aK,bif D 8 then (rd al bb.Xs) else aK,bif D 9 then (pt an a6) else aK,bif D 10 then (pt ao a3) else aK,bif D 11 then (pt aq a3.Y1) else aK,bif D 12 then (rd ar (⟨a5,a2.Y0,a6,a3.Y1⟩:aC)) else aK,bif D 14 then (bx 61 o (⟨a5,a2.Y0,a6,a3.Y1⟩:aC)) else (bif D 13 then (raw 61 o 4) else aK),raw 61 a7 4,rd v0 p0]) x.1 x.2.1 x.2.2.1 x.2.2.2.1 x.2.2.2.2.1 x.2.2.2.2.2.1 x.2.2.2.2.2.2.1 x.2.2.2.2.2.2.2.1 x.2.2.2.2.2.2.2.2.1 x.2.2.2.2.2.2.2.2.2.1 x.2.2.2.2.2.2.2.2.2.2.1 x.2.2.2.2.2.2.2.2.2.2.2.1 x.2.2.2.2.2.2.2.2.2.2.2.2.1 x.2.2.2.2.2.2.2.2.2.2.2.2.2) (fun x=>by kernel_rfl) ?_ ⟨fun _=>eA gn rfl,?_,?_,?_,?_,?_,fun _=>eA gn rfl,?_,?_,?_,fun _=>eA gn rfl,?_,?_,?_,?_,?_,fun _=>eA gn rfl,fun _=>eA gn rfl,?_,fun _=>zH gn rfl,?_,?_,?_,?_,?_,?_,trivial⟩ ?_
 ·have hw:=hw.drew
  have hw:=hw.aK
  have hw:=hw.aK
  have hw:=hw.aK
  have hw:=hw.aK
  have hw:=hw.aK
  have hw:=hw.aK
  have hw:=hw.aK
  have hw:=hw.aK
  have hw:=hw.aK
  have hw:=hw.aK
  have hw:=hw.aK
  have hw:=hw.aK
  have hw:=hw.aK
  have hw:=hw.aK
  exact⟨(undef,undef,undef,undef,undef,undef,undef,undef,undef,undef,undef,undef,undef,0),doneV.none,(ag zr),zt,hw⟩
 ·rintro D σ w hD hdep hcl ⟨⟨ab,ad,ae,af,ah,ai,aj,ak,al,an,ao,aq,ar,o⟩,hv,ha,_,hw⟩
  obtain⟨τ,rfl⟩:=(ac (hv.at 0 rfl (hdep.1 rfl)) az).aO
  have hw:=hw.aP (i:=0) rfl hD
  refine RL.bO (i:=15) zt zr hw zr zr zr jA bf fun bm hw=>?_
  have hw:=hw.pl 17 [0,2,3,4,5,6,7,8,9,10,11,12,13,14,15,16] rfl
  have hw:=hw.aS (i:=0) (b:=true) rfl rfl (aK)
  exact RL.nil ⟨rfl,(bm,ad,ae,af,ah,ai,aj,ak,al,an,ao,aq,ar,o),hv.put 1 zr zr,ha.up zr,zt,hw⟩
 ·rintro D σ w hD hdep hcl ⟨⟨ab,ad,ae,af,ah,ai,aj,ak,al,an,ao,aq,ar,o⟩,hv,ha,_,hw⟩
  obtain⟨τ,rfl⟩:=(ac (hv.at 1 rfl (hdep.1 rfl)) az).aO
  have hw:=hw.aR (i:=0) rfl (hdep.1 rfl)
  have hw:=hw.aP (i:=1) rfl hD
  refine RL.gR (i:=0) (f:=fun(x:aA)=>x.Xs) zt zr hw zr zr iP bR fun bn hw=>?_
  have hw:=hw.pl 17 [1,0,3,4,5,6,7,8,9,10,11,12,13,14,15,16] rfl
  have hw:=hw.aS (i:=0) (b:=D 1) rfl (hdep.1 rfl) (aK)
  have hw:=hw.aS (i:=1) (b:=true) rfl rfl (aK)
  exact RL.nil ⟨rfl,(ab,bn,ae,af,ah,ai,aj,ak,al,an,ao,aq,ar,o),hv.put 2 zr zr,ha.up zr,zt,hw⟩
 ·rintro D σ w hD hdep hcl ⟨⟨ab,ad,ae,af,ah,ai,aj,ak,al,an,ao,aq,ar,o⟩,hv,ha,_,hw⟩
  obtain⟨τ,rfl⟩:=(ac (hv.at 2 rfl (hdep.1 rfl)) az).aO
  have hw:=hw.aR (i:=1) rfl (hdep.1 rfl)
  have hw:=hw.aP (i:=2) rfl hD
  refine RL.bP (i:=1) (x:=ba.Xs) zt zr hw zr zr dL fun bo hw=>?_
  have hw:=hw.pl 17 [1,2,0,4,5,6,7,8,9,10,11,12,13,14,15,16] rfl
  have hw:=hw.aS (i:=1) (b:=D 2) rfl (hdep.1 rfl) (aK)
  have hw:=hw.aS (i:=2) (b:=true) rfl rfl (aK)
  exact RL.nil ⟨rfl,(ab,ad,bo,af,ah,ai,aj,ak,al,an,ao,aq,ar,o),hv.put 3 zr zr,ha.up zr,zt,hw⟩
 ·rintro D σ w hD hdep hcl ⟨⟨ab,ad,ae,af,ah,ai,aj,ak,al,an,ao,aq,ar,o⟩,hv,ha,_,hw⟩
  obtain⟨τ,rfl⟩:=(ac (hv.at 3 rfl (hdep.1 rfl)) az).aO
  have hw:=hw.aR (i:=2) rfl (hdep.1 rfl)
  have hw:=hw.aP (i:=3) rfl hD
  refine RL.bO (i:=2) zt zr hw zr zr zr dM bg fun bp hw=>?_
  have hw:=hw.pl 17 [1,2,3,0,5,6,7,8,9,10,11,12,13,14,15,16] rfl
  have hw:=hw.aS (i:=2) (b:=D 3) rfl (hdep.1 rfl) (aK)
  have hw:=hw.aS (i:=3) (b:=true) rfl rfl (aK)
  exact RL.nil ⟨rfl,(ab,ad,ae,bp,ah,ai,aj,ak,al,an,ao,aq,ar,o),hv.put 4 zr zr,ha.up zr,zt,hw⟩
 ·rintro D σ w hD hdep hcl ⟨⟨ab,ad,ae,af,ah,ai,aj,ak,al,an,ao,aq,ar,o⟩,hv,ha,_,hw⟩
  obtain⟨τ,rfl⟩:=(ac (hv.at 4 rfl (hdep.1 rfl)) az).aO
  have hw:=hw.aR (i:=3) rfl (hdep.1 rfl)
  refine RL.bA (i:=3) (y:=a5) zt zr hw zr zr bX ?_
  have hw:=hw.aS (i:=3) (b:=D 4) rfl (hdep.1 rfl) (aK)
  exact RL.nil ⟨rfl,(ab,ad,ae,af,ah,ai,aj,ak,al,an,ao,aq,ar,o),hv.put 5 zr zr,ha.up zr,zt,hw⟩
 ·rintro D σ w hD hdep hcl ⟨⟨ab,ad,ae,af,ah,ai,aj,ak,al,an,ao,aq,ar,o⟩,hv,ha,_,hw⟩
  obtain⟨τ,rfl⟩:=(ac (hv.at 6 rfl (hdep.1 rfl)) az).aO
  have hw:=hw.aP (i:=4) rfl hD
  refine RL.bO (i:=15) zt zr hw zr zr zr jA bh fun bq hw=>?_
  have hw:=hw.pl 17 [1,2,3,4,0,6,7,8,9,10,11,12,13,14,15,16] rfl
  have hw:=hw.aS (i:=4) (b:=true) rfl rfl (aK)
  exact RL.nil ⟨rfl,(ab,ad,ae,af,bq,ai,aj,ak,al,an,ao,aq,ar,o),hv.put 7 zr zr,ha.up zr,zt,hw⟩
 ·rintro D σ w hD hdep hcl ⟨⟨ab,ad,ae,af,ah,ai,aj,ak,al,an,ao,aq,ar,o⟩,hv,ha,_,hw⟩
  obtain⟨τ,rfl⟩:=(ac (hv.at 7 rfl (hdep.1 rfl)) az).aO
  have hw:=hw.aR (i:=4) rfl (hdep.1 rfl)
  have hw:=hw.aP (i:=5) rfl hD
  refine RL.gR (i:=4) (f:=fun(x:aA)=>x.Y0) zt zr hw zr zr lk cR fun br hw=>?_
  have hw:=hw.pl 17 [1,2,3,4,5,0,7,8,9,10,11,12,13,14,15,16] rfl
  have hw:=hw.aS (i:=4) (b:=D 7) rfl (hdep.1 rfl) (aK)
  have hw:=hw.aS (i:=5) (b:=true) rfl rfl (aK)
  exact RL.nil ⟨rfl,(ab,ad,ae,af,ah,br,aj,ak,al,an,ao,aq,ar,o),hv.put 8 zr zr,ha.up zr,zt,hw⟩
 ·rintro D σ w hD hdep hcl ⟨⟨ab,ad,ae,af,ah,ai,aj,ak,al,an,ao,aq,ar,o⟩,hv,ha,_,hw⟩
  obtain⟨τ,rfl⟩:=(ac (hv.at 8 rfl (hdep.1 rfl)) az).aO
  have hw:=hw.aR (i:=5) rfl (hdep.1 rfl)
  refine RL.bA (i:=5) (y:=a2.Y0) zt zr hw zr zr bX ?_
  have hw:=hw.aS (i:=5) (b:=D 8) rfl (hdep.1 rfl) (aK)
  exact RL.nil ⟨rfl,(ab,ad,ae,af,ah,ai,aj,ak,al,an,ao,aq,ar,o),hv.put 9 zr zr,ha.up zr,zt,hw⟩
 ·rintro D σ w hD hdep hcl ⟨⟨ab,ad,ae,af,ah,ai,aj,ak,al,an,ao,aq,ar,o⟩,hv,ha,_,hw⟩
  obtain⟨τ,rfl⟩:=(ac (hv.at 10 rfl (hdep.1 rfl)) az).aO
  have hw:=hw.aP (i:=6) rfl hD
  refine RL.bO (i:=15) zt zr hw zr zr zr jA bj fun bt hw=>?_
  have hw:=hw.pl 17 [1,2,3,4,5,6,0,8,9,10,11,12,13,14,15,16] rfl
  have hw:=hw.aS (i:=6) (b:=true) rfl rfl (aK)
  exact RL.nil ⟨rfl,(ab,ad,ae,af,ah,ai,bt,ak,al,an,ao,aq,ar,o),hv.put 11 zr zr,ha.up zr,zt,hw⟩
 ·rintro D σ w hD hdep hcl ⟨⟨ab,ad,ae,af,ah,ai,aj,ak,al,an,ao,aq,ar,o⟩,hv,ha,_,hw⟩
  obtain⟨τ,rfl⟩:=(ac (hv.at 11 rfl (hdep.1 rfl)) az).aO
  have hw:=hw.aR (i:=6) rfl (hdep.1 rfl)
  have hw:=hw.aP (i:=7) rfl hD
  refine RL.gR (i:=6) (f:=fun(x:aA)=>x.Xs) zt zr hw zr zr iP bR fun bu hw=>?_
  have hw:=hw.pl 17 [1,2,3,4,5,6,7,0,9,10,11,12,13,14,15,16] rfl
  have hw:=hw.aS (i:=6) (b:=D 11) rfl (hdep.1 rfl) (aK)
  have hw:=hw.aS (i:=7) (b:=true) rfl rfl (aK)
  exact RL.nil ⟨rfl,(ab,ad,ae,af,ah,ai,aj,bu,al,an,ao,aq,ar,o),hv.put 12 zr zr,ha.up zr,zt,hw⟩
 ·rintro D σ w hD hdep hcl ⟨⟨ab,ad,ae,af,ah,ai,aj,ak,al,an,ao,aq,ar,o⟩,hv,ha,_,hw⟩
  obtain⟨τ,rfl⟩:=(ac (hv.at 12 rfl (hdep.1 rfl)) az).aO
  have hw:=hw.aR (i:=7) rfl (hdep.1 rfl)
  have hw:=hw.aP (i:=8) rfl hD
  refine RL.bP (i:=7) (x:=bb.Xs) zt zr hw zr zr dL fun bw hw=>?_
  have hw:=hw.pl 17 [1,2,3,4,5,6,7,8,0,10,11,12,13,14,15,16] rfl
  have hw:=hw.aS (i:=7) (b:=D 12) rfl (hdep.1 rfl) (aK)
  have hw:=hw.aS (i:=8) (b:=true) rfl rfl (aK)
  exact RL.nil ⟨rfl,(ab,ad,ae,af,ah,ai,aj,ak,bw,an,ao,aq,ar,o),hv.put 13 zr zr,ha.up zr,zt,hw⟩
 ·rintro D σ w hD hdep hcl ⟨⟨ab,ad,ae,af,ah,ai,aj,ak,al,an,ao,aq,ar,o⟩,hv,ha,_,hw⟩
  obtain⟨τ,rfl⟩:=(ac (hv.at 13 rfl (hdep.1 rfl)) az).aO
  have hw:=hw.aR (i:=8) rfl (hdep.1 rfl)
  have hw:=hw.aP (i:=9) rfl hD
  refine RL.bO (i:=8) zt zr hw zr zr zr dM bk fun bz hw=>?_
  have hw:=hw.pl 17 [1,2,3,4,5,6,7,8,9,0,11,12,13,14,15,16] rfl
  have hw:=hw.aS (i:=8) (b:=D 13) rfl (hdep.1 rfl) (aK)
  have hw:=hw.aS (i:=9) (b:=true) rfl rfl (aK)
  exact RL.nil ⟨rfl,(ab,ad,ae,af,ah,ai,aj,ak,al,bz,ao,aq,ar,o),hv.put 14 zr zr,ha.up zr,zt,hw⟩
 ·rintro D σ w hD hdep hcl ⟨⟨ab,ad,ae,af,ah,ai,aj,ak,al,an,ao,aq,ar,o⟩,hv,ha,_,hw⟩
  obtain⟨τ,rfl⟩:=(ac (hv.at 14 rfl (hdep.1 rfl)) az).aO
  have hw:=hw.aR (i:=9) rfl (hdep.1 rfl)
  refine RL.bA (i:=9) (y:=a6) zt zr hw zr zr bX ?_
  have hw:=hw.aS (i:=9) (b:=D 14) rfl (hdep.1 rfl) (aK)
  exact RL.nil ⟨rfl,(ab,ad,ae,af,ah,ai,aj,ak,al,an,ao,aq,ar,o),hv.put 15 zr zr,ha.up zr,zt,hw⟩
 ·rintro D σ w hD hdep hcl ⟨⟨ab,ad,ae,af,ah,ai,aj,ak,al,an,ao,aq,ar,o⟩,hv,ha,_,hw⟩
  obtain⟨τ,rfl⟩:=(ac (hv.at 17 rfl (hdep.1 rfl)) az).aO
  refine RL.bG (i:=15) (l:=p0) zt zr hw zr zr nO ?_
  exact RL.nil ⟨rfl,(ab,ad,ae,af,ah,ai,aj,ak,al,an,ao,aq,ar,o),hv.put 18 zr zr,ha.up zr,zt,hw⟩
 ·rintro D σ w hD hdep hcl ⟨⟨ab,ad,ae,af,ah,ai,aj,ak,al,an,ao,aq,ar,o⟩,hv,ha,_,hw⟩
  obtain⟨τ,rfl⟩:=(ac (hv.at 16 rfl (hdep.1 rfl)) (ac (hv.at 19 rfl (hdep.2.1 rfl)) az)).aO
  have hw:=hw.aP (i:=10) rfl hD
  refine RL.bO (i:=15) zt zr hw zr zr zr jA bl fun b0 hw=>?_
  have hw:=hw.pl 17 [1,2,3,4,5,6,7,8,9,10,0,12,13,14,15,16] rfl
  have hw:=hw.aS (i:=10) (b:=true) rfl rfl (aK)
  exact RL.nil ⟨rfl,(ab,ad,ae,af,ah,ai,aj,ak,al,an,b0,aq,ar,o),hv.put 20 zr zr,ha.up zr,zt,hw⟩
 ·rintro D σ w hD hdep hcl ⟨⟨ab,ad,ae,af,ah,ai,aj,ak,al,an,ao,aq,ar,o⟩,hv,ha,_,hw⟩
  obtain⟨τ,rfl⟩:=(ac (hv.at 20 rfl (hdep.1 rfl)) az).aO
  have hw:=hw.aR (i:=10) rfl (hdep.1 rfl)
  have hw:=hw.aP (i:=11) rfl hD
  refine RL.gR (i:=10) (f:=fun(x:aA)=>x.Y1) zt zr hw zr zr jV cL fun b1 hw=>?_
  have hw:=hw.pl 17 [1,2,3,4,5,6,7,8,9,10,11,0,13,14,15,16] rfl
  have hw:=hw.aS (i:=10) (b:=D 20) rfl (hdep.1 rfl) (aK)
  have hw:=hw.aS (i:=11) (b:=true) rfl rfl (aK)
  exact RL.nil ⟨rfl,(ab,ad,ae,af,ah,ai,aj,ak,al,an,ao,b1,ar,o),hv.put 21 zr zr,ha.up zr,zt,hw⟩
 ·rintro D σ w hD hdep hcl ⟨⟨ab,ad,ae,af,ah,ai,aj,ak,al,an,ao,aq,ar,o⟩,hv,ha,_,hw⟩
  obtain⟨τ,rfl⟩:=(ac (hv.at 21 rfl (hdep.1 rfl)) az).aO
  have hw:=hw.aR (i:=11) rfl (hdep.1 rfl)
  refine RL.bA (i:=11) (y:=a3.Y1) zt zr hw zr zr bX ?_
  have hw:=hw.aS (i:=11) (b:=D 21) rfl (hdep.1 rfl) (aK)
  exact RL.nil ⟨rfl,(ab,ad,ae,af,ah,ai,aj,ak,al,an,ao,aq,ar,o),hv.put 22 zr zr,ha.up zr,zt,hw⟩
 ·rintro D σ w hD hdep hcl ⟨⟨ab,ad,ae,af,ah,ai,aj,ak,al,an,ao,aq,ar,o⟩,hv,ha,_,hw⟩
  obtain⟨τ,rfl⟩:=(ac (hv.at 5 rfl (hdep.1 rfl)) (ac (hv.at 9 rfl (hdep.2.1 rfl)) (ac (hv.at 15 rfl (hdep.2.2.1 rfl)) (ac (hv.at 22 rfl (hdep.2.2.2.1 rfl)) az)))).aO
  have hw:=hw.aP (i:=12) rfl hD
  have hw:=hw.sc (γ:=Int) a5
  have hw:=hw.sc (γ:=Int) a2.Y0
  have hw:=hw.sc (γ:=Int) a6
  have hw:=hw.sc (γ:=Int) a3.Y1
  refine RL.build (y:=(⟨a5,a2.Y0,a6,a3.Y1⟩:aC)) trivial rfl hw [(0,(vi a5)),(1,(vi a2.Y0)),(2,(vi a6)),(3,(vi a3.Y1))] rfl yz rfl (fun M hs g=>by have h:=oD M;exact cB.cons (f:=fun(x:aC) y=>{x with X0:=y}) rfl h lB (by decide) (g.sat 3 _ rfl).1 fun _ h=>cB.cons (f:=fun(x:aC) y=>{x with Y0:=y}) rfl h nz (by decide) (g.sat 2 _ rfl).1 fun _ h=>cB.cons (f:=fun(x:aC) y=>{x with X1:=y}) rfl h lC (by decide) (g.sat 1 _ rfl).1 fun _ h=>cB.cons (f:=fun(x:aC) y=>{x with Y1:=y}) rfl h nA (by decide) (g.sat 0 _ rfl).1 fun _ h=>cB.nil h) fun b2 hw=>?_
  have hw:=hw.pl 21 [5,6,7,8,9,10,11,12,13,14,15,16,0,18,19,20] rfl
  have hw:=hw.aS (i:=12) (b:=true) rfl rfl (aK)
  exact RL.nil ⟨rfl,(ab,ad,ae,af,ah,ai,aj,ak,al,an,ao,aq,b2,o),hv.put 23 zr zr,ha.up zr,zt,hw⟩
 ·rintro D σ w hD hdep hcl ⟨⟨ab,ad,ae,af,ah,ai,aj,ak,al,an,ao,aq,ar,o⟩,hv,ha,_,hw⟩
  obtain⟨τ,rfl⟩:=(az (σ:=σ)).aO
  have hw:=hw.aP (i:=13) rfl (nf (fun h=>ft hD ((hcl 25 _ rfl h).1 rfl)))
  have hw:=hw.aP (i:=13) rfl hD
  refine RL.alloc zt zr hw kP.z fun bc w hw=>?_
  have hw:=hw.pl 17 [1,2,3,4,5,6,7,8,9,10,11,12,13,0,15,16] rfl
  have hw:=hw.aS (i:=13) (b:=true) rfl rfl (aK)
  have hw:=hw.cK (i:=13) (b:=D 25) rfl (nf (fun h=>ft hD ((hcl 25 _ rfl h).1 rfl))) (bx 61 bc (⟨a5,a2.Y0,a6,a3.Y1⟩:aC))
  exact RL.nil ⟨rfl,(ab,ad,ae,af,ah,ai,aj,ak,al,an,ao,aq,ar,bc),hv.put 24 zr zr,ha.up zr,zt,hw⟩
 ·rintro D σ w hD hdep hcl ⟨⟨ab,ad,ae,af,ah,ai,aj,ak,al,an,ao,aq,ar,o⟩,hv,ha,_,hw⟩
  obtain⟨τ,rfl⟩:=(ac (hv.at 23 rfl (hdep.2.1 rfl)) (ac (hv.at 24 rfl (hdep.1 rfl)) az)).aO
  have hw:=hw.aR (i:=12) rfl (hdep.2.1 rfl)
  have hw:=hw.aP (i:=13) rfl hD
  have hw:=hw.aR (i:=13) rfl (hdep.1 rfl)
  refine RL.bC (i:=13) (j:=12) zt hw zr zr zr zr eM zr fun w hw=>?_
  have hw:=hw.aS (i:=12) (b:=D 23) rfl (hdep.2.1 rfl) (aK)
  have hw:=hw.aS (i:=13) (b:=true) rfl rfl (bif D 24 then (raw 61 o 4) else aK)
  exact RL.nil ⟨rfl,(ab,ad,ae,af,ah,ai,aj,ak,al,an,ao,aq,ar,o),hv.no zr,ha,zt,hw⟩
 rintro D σ w hall ⟨⟨ab,ad,ae,af,ah,ai,aj,ak,al,an,ao,aq,ar,o⟩,hv,ha,_,hw⟩
 have hw:=hw.aR (i:=0) rfl (hall 1 (by decide))
 have hw:=hw.aR (i:=1) rfl (hall 2 (by decide))
 have hw:=hw.aR (i:=2) rfl (hall 3 (by decide))
 have hw:=hw.aR (i:=3) rfl (hall 4 (by decide))
 have hw:=hw.aR (i:=4) rfl (hall 7 (by decide))
 have hw:=hw.aR (i:=5) rfl (hall 8 (by decide))
 have hw:=hw.aR (i:=6) rfl (hall 11 (by decide))
 have hw:=hw.aR (i:=7) rfl (hall 12 (by decide))
 have hw:=hw.aR (i:=8) rfl (hall 13 (by decide))
 have hw:=hw.aR (i:=9) rfl (hall 14 (by decide))
 have hw:=hw.aR (i:=10) rfl (hall 20 (by decide))
 have hw:=hw.aR (i:=11) rfl (hall 21 (by decide))
 have hw:=hw.aR (i:=12) rfl (hall 23 (by decide))
 have hw:=hw.aR (i:=13) rfl (hall 25 (by decide))
 obtain⟨τ,rfl⟩:=(ac (hv.at 24 rfl (hall 24 (by decide))) (ac (ha.at 0 rfl) (ac (ha.at 1 rfl) az))).aO
 refine aG (RC.seq (RC.sr (mv v0 zr zr (RL.bG (i:=15) (l:=p0) zt zr hw zr zr nO (mv (vi 0) zr zr (RL.nt ?_))))))
 obtain⟨aa,hN,hb⟩:=bd hb
 refine RC.fold (fun(a8:Nat) (aa:aC) (σ:Nat→Value) (w:World)=>agree σ [(2,(vp a7 0)),(3,(vp o 0)),(30,v0),(31,(vi (p0.length:Int))),(32,(vi (a8:Int)))]∧Holds E w ([raw 61 a7 4,bx 61 o aa,rd v0 p0]++Γ)) (fun(aa:aC) (σ:Nat→Value) (w:World)=>agree σ [(2,(vp a7 0)),(3,(vp o 0))]∧Holds E w ([raw 61 a7 4,bx 61 o aa,rd v0 p0]++Γ)) hN ?_ ?_ ?_ ?_
 ·exact⟨(ag zr),hw.pk 16 [14,13,15] zr⟩
 ·intro hm aa σ w hI
  obtain⟨ha,hw⟩:=hI
  obtain⟨τ,rfl⟩:=ha.aO
  refine RC.sr (ic ((p0.length:Int)) ((p0.length:Int)) zr zr zr zr (RL.nq (RC.cH lZ (RC.ex ?_))))
  exact⟨rfl,(ag zr),hw.pk 3 [0,1,2] zr⟩
 ·intro hm a8 aa s' σ w hk hI hb
  obtain⟨ha,hw⟩:=hI
  obtain⟨τ,rfl⟩:=ha.aO
  refine RC.sr (ic ((a8:Int)) ((p0.length:Int)) zr zr zr zr (RL.nq (RC.cG (lY hk) (RC.ss (RC.bs ?_)))))
  obtain⟨a4,b3,hb⟩:=bd hb
  refine RL.bO (i:=2) zt zr hw zr zr zr jA b3 fun b4 hw=>(RL.bP (i:=0) (x:=a4) zt zr hw zr zr uI fun b5 hw=>(RL.alloc zt zr hw zS.z fun a9 w hw=>(RL.bC (i:=0) (j:=1) zt hw zr zr zr zr uI zr fun w hw=>(RL.nt ?_))))
  obtain⟨a0,b6,hb⟩:=bd hb
  obtain⟨a1,b7,hb⟩:=bd hb
  refine RC.tw (E:=E) (Γ:=Γ) mixed rfl [1,0,1,0,0,0,0,1,0,1,0,1,0,0,1,0,0,0,1,0,1,0] [3,4,10,12,15,19,21] (fun(x:Value×Value×Value×Value×Value)=>(fun au av aw ax ay=>[(0,36,(vp o 0)),(1,37,(vi aa.X0)),(2,38,(vp a9 2)),(3,39,au),(4,40,av),(5,41,(vi a0)),(6,42,(vi (if a0<aa.X0 then a0 else aa.X0))),(7,43,(vp o 2)),(8,44,(vi aa.X1)),(9,45,(vp a9 2)),(10,46,aw),(11,47,(vp a9 2)),(12,48,ax),(13,49,(vi (a4.Xs.length:Int))),(14,50,(vi (IntKind.wrap .i64 ((a4.Xs.length:Int) - 1)))),(15,51,ay),(16,52,(vi a1)),(17,53,(vi (if aa.X1<a1 then a1 else aa.X1))),(18,54,(vp o 0)),(20,55,(vp o 2))]) x.1 x.2.1 x.2.2.1 x.2.2.2.1 x.2.2.2.2) [(2,(vp a7 0)),(3,(vp o 0)),(5,(vp a9 0)),(30,v0),(31,(vi (p0.length:Int))),(32,(vi (a8:Int)))] [] (fun(D:Nat→Bool) (x:Value×Value×Value×Value×Value)=>(fun au av aw ax ay=>[bif D 0 then (rd au a4.Xs) else aK,bif D 1 then (pt av a0) else aK,bif D 2 then (rd aw a4.Xs) else aK,bif D 3 then (rd ax a4.Xs) else aK,bif D 4 then (pt ay a1) else aK,bx 78 a9 a4,rd b5 a4,pt b4 a4,raw 61 a7 4,bif D 6 then (bx 61 o {{aa with X0:=(if a0<aa.X0 then a0 else aa.X0)} with X1:=(if aa.X1<a1 then a1 else aa.X1)}) else (bif D 5 then (bx 61 o {aa with X0:=(if a0<aa.X0 then a0 else aa.X0)}) else (bx 61 o aa)),rd v0 p0]) x.1 x.2.1 x.2.2.1 x.2.2.2.1 x.2.2.2.2) (fun x=>by kernel_rfl) ?_ ⟨fun _=>fN gn f0 rfl,?_,fun _=>fN gn iP rfl,?_,?_,?_,?_,fun _=>fN gn gN rfl,?_,fun _=>fN gn iP rfl,?_,fun _=>fN gn iP rfl,?_,?_,fun _=>zH gn rfl,?_,?_,?_,fun _=>fN gn f0 rfl,?_,fun _=>fN gn gN rfl,?_,trivial⟩ ?_
  ·have hw:=hw.drew
   have hw:=hw.aK
   have hw:=hw.aK
   have hw:=hw.aK
   have hw:=hw.aK
   have hw:=hw.aK
   exact⟨(undef,undef,undef,undef,undef),doneV.none,(ag zr),zt,hw⟩
  ·rintro D σ w hD hdep hcl ⟨⟨au,av,aw,ax,ay⟩,hv,ha,_,hw⟩
   obtain⟨τ,rfl⟩:=(ac (hv.at 0 rfl (hdep.1 rfl)) az).aO
   have hw:=hw.aP (i:=9) rfl (nf (fun h=>ft hD ((hcl 21 _ rfl h).2.2.2.2.1 rfl)))
   have hw:=hw.aP (i:=9) rfl (nf (fun h=>ft hD ((hcl 19 _ rfl h).2.2.2.1 rfl)))
   refine RL.aL (i:=9) (f:=(fun x=>x.X0)) zt zr hw zr zr cU bX ?_
   have hw:=hw.cK (i:=9) (b:=D 19) rfl (nf (fun h=>ft hD ((hcl 19 _ rfl h).2.2.2.1 rfl))) (bx 61 o {aa with X0:=(if a0<aa.X0 then a0 else aa.X0)})
   have hw:=hw.cK (i:=9) (b:=D 21) rfl (nf (fun h=>ft hD ((hcl 21 _ rfl h).2.2.2.2.1 rfl))) (bx 61 o {{aa with X0:=(if a0<aa.X0 then a0 else aa.X0)} with X1:=(if aa.X1<a1 then a1 else aa.X1)})
   exact RL.nil ⟨rfl,(au,av,aw,ax,ay),hv.put 1 zr zr,ha.up zr,zt,hw⟩
  ·rintro D σ w hD hdep hcl ⟨⟨au,av,aw,ax,ay⟩,hv,ha,_,hw⟩
   obtain⟨τ,rfl⟩:=(ac (hv.at 2 rfl (hdep.1 rfl)) az).aO
   have hw:=hw.aP (i:=0) rfl hD
   refine RL.aY (i:=5) (f:=(fun x=>x.Xs)) zt zr hw zr zr bR dL fun b8 hw=>?_
   have hw:=hw.pl 12 [0,2,3,4,5,6,7,8,9,10,11] rfl
   have hw:=hw.aS (i:=0) (b:=true) rfl rfl (aK)
   exact RL.nil ⟨rfl,(b8,av,aw,ax,ay),hv.put 3 zr zr,ha.up zr,zt,hw⟩
  ·rintro D σ w hD hdep hcl ⟨⟨au,av,aw,ax,ay⟩,hv,ha,_,hw⟩
   obtain⟨τ,rfl⟩:=(ac (hv.at 3 rfl (hdep.1 rfl)) az).aO
   have hw:=hw.aR (i:=0) rfl (hdep.1 rfl)
   have hw:=hw.aP (i:=1) rfl hD
   refine RL.bO (i:=0) zt zr hw zr zr zr dM b6 fun b9 hw=>?_
   have hw:=hw.pl 12 [1,0,3,4,5,6,7,8,9,10,11] rfl
   have hw:=hw.aS (i:=0) (b:=D 3) rfl (hdep.1 rfl) (aK)
   have hw:=hw.aS (i:=1) (b:=true) rfl rfl (aK)
   exact RL.nil ⟨rfl,(au,b9,aw,ax,ay),hv.put 4 zr zr,ha.up zr,zt,hw⟩
  ·rintro D σ w hD hdep hcl ⟨⟨au,av,aw,ax,ay⟩,hv,ha,_,hw⟩
   obtain⟨τ,rfl⟩:=(ac (hv.at 4 rfl (hdep.1 rfl)) az).aO
   have hw:=hw.aR (i:=1) rfl (hdep.1 rfl)
   refine RL.bA (i:=1) (y:=a0) zt zr hw zr zr bX ?_
   have hw:=hw.aS (i:=1) (b:=D 4) rfl (hdep.1 rfl) (aK)
   exact RL.nil ⟨rfl,(au,av,aw,ax,ay),hv.put 5 zr zr,ha.up zr,zt,hw⟩
  ·rintro D σ w hD hdep hcl ⟨⟨au,av,aw,ax,ay⟩,hv,ha,_,hw⟩
   obtain⟨τ,rfl⟩:=(ac (hv.at 1 rfl (hdep.1 rfl)) (ac (hv.at 5 rfl (hdep.2.1 rfl)) az)).aO
   refine RL.min (a:=aa.X0) (b:=a0) zt zr zr zr ?_
   exact RL.nil ⟨rfl,(au,av,aw,ax,ay),hv.put 6 zr zr,ha.up zr,zt,hw⟩
  ·rintro D σ w hD hdep hcl ⟨⟨au,av,aw,ax,ay⟩,hv,ha,_,hw⟩
   obtain⟨τ,rfl⟩:=(ac (hv.at 7 rfl (hdep.1 rfl)) az).aO
   have hw:=hw.aP (i:=9) rfl (nf (fun h=>ft hD ((hcl 21 _ rfl h).2.2.2.2.2.2.2.2.2.2.2.1 rfl)))
   have hw:=hw.aP (i:=9) rfl (nf (fun h=>ft hD ((hcl 19 _ rfl h).2.2.2.2.2.2.2.2.2.2.1 rfl)))
   refine RL.aL (i:=9) (f:=(fun x=>x.X1)) zt zr hw zr zr dK bX ?_
   have hw:=hw.cK (i:=9) (b:=D 19) rfl (nf (fun h=>ft hD ((hcl 19 _ rfl h).2.2.2.2.2.2.2.2.2.2.1 rfl))) (bx 61 o {aa with X0:=(if a0<aa.X0 then a0 else aa.X0)})
   have hw:=hw.cK (i:=9) (b:=D 21) rfl (nf (fun h=>ft hD ((hcl 21 _ rfl h).2.2.2.2.2.2.2.2.2.2.2.1 rfl))) (bx 61 o {{aa with X0:=(if a0<aa.X0 then a0 else aa.X0)} with X1:=(if aa.X1<a1 then a1 else aa.X1)})
   exact RL.nil ⟨rfl,(au,av,aw,ax,ay),hv.put 8 zr zr,ha.up zr,zt,hw⟩
  ·rintro D σ w hD hdep hcl ⟨⟨au,av,aw,ax,ay⟩,hv,ha,_,hw⟩
   obtain⟨τ,rfl⟩:=(ac (hv.at 9 rfl (hdep.1 rfl)) az).aO
   have hw:=hw.aP (i:=2) rfl hD
   refine RL.aY (i:=5) (f:=(fun x=>x.Xs)) zt zr hw zr zr bR dL fun ca hw=>?_
   have hw:=hw.pl 12 [1,2,0,4,5,6,7,8,9,10,11] rfl
   have hw:=hw.aS (i:=2) (b:=true) rfl rfl (aK)
   exact RL.nil ⟨rfl,(au,av,ca,ax,ay),hv.put 10 zr zr,ha.up zr,zt,hw⟩
  ·rintro D σ w hD hdep hcl ⟨⟨au,av,aw,ax,ay⟩,hv,ha,_,hw⟩
   obtain⟨τ,rfl⟩:=(ac (hv.at 11 rfl (hdep.1 rfl)) az).aO
   have hw:=hw.aP (i:=3) rfl hD
   refine RL.aY (i:=5) (f:=(fun x=>x.Xs)) zt zr hw zr zr bR dL fun cb hw=>?_
   have hw:=hw.pl 12 [1,2,3,0,5,6,7,8,9,10,11] rfl
   have hw:=hw.aS (i:=3) (b:=true) rfl rfl (aK)
   exact RL.nil ⟨rfl,(au,av,aw,cb,ay),hv.put 12 zr zr,ha.up zr,zt,hw⟩
  ·rintro D σ w hD hdep hcl ⟨⟨au,av,aw,ax,ay⟩,hv,ha,_,hw⟩
   obtain⟨τ,rfl⟩:=(ac (hv.at 12 rfl (hdep.1 rfl)) az).aO
   have hw:=hw.aR (i:=3) rfl (hdep.1 rfl)
   refine RL.bG (i:=3) (l:=a4.Xs) zt zr hw zr zr jH ?_
   have hw:=hw.aS (i:=3) (b:=D 12) rfl (hdep.1 rfl) (aK)
   exact RL.nil ⟨rfl,(au,av,aw,ax,ay),hv.put 13 zr zr,ha.up zr,zt,hw⟩
  ·rintro D σ w hD hdep hcl ⟨⟨au,av,aw,ax,ay⟩,hv,ha,_,hw⟩
   obtain⟨τ,rfl⟩:=(ac (hv.at 10 rfl (hdep.1 rfl)) (ac (hv.at 14 rfl (hdep.2.1 rfl)) az)).aO
   have hw:=hw.aR (i:=2) rfl (hdep.1 rfl)
   have hw:=hw.aP (i:=4) rfl hD
   refine RL.bO (i:=2) zt zr hw zr zr zr dM b7 fun cc hw=>?_
   have hw:=hw.pl 12 [1,2,3,4,0,6,7,8,9,10,11] rfl
   have hw:=hw.aS (i:=2) (b:=D 10) rfl (hdep.1 rfl) (aK)
   have hw:=hw.aS (i:=4) (b:=true) rfl rfl (aK)
   exact RL.nil ⟨rfl,(au,av,aw,ax,cc),hv.put 15 zr zr,ha.up zr,zt,hw⟩
  ·rintro D σ w hD hdep hcl ⟨⟨au,av,aw,ax,ay⟩,hv,ha,_,hw⟩
   obtain⟨τ,rfl⟩:=(ac (hv.at 15 rfl (hdep.1 rfl)) az).aO
   have hw:=hw.aR (i:=4) rfl (hdep.1 rfl)
   refine RL.bA (i:=4) (y:=a1) zt zr hw zr zr bX ?_
   have hw:=hw.aS (i:=4) (b:=D 15) rfl (hdep.1 rfl) (aK)
   exact RL.nil ⟨rfl,(au,av,aw,ax,ay),hv.put 16 zr zr,ha.up zr,zt,hw⟩
  ·rintro D σ w hD hdep hcl ⟨⟨au,av,aw,ax,ay⟩,hv,ha,_,hw⟩
   obtain⟨τ,rfl⟩:=(ac (hv.at 8 rfl (hdep.1 rfl)) (ac (hv.at 16 rfl (hdep.2.1 rfl)) az)).aO
   refine RL.max (a:=aa.X1) (b:=a1) zt zr zr zr ?_
   exact RL.nil ⟨rfl,(au,av,aw,ax,ay),hv.put 17 zr zr,ha.up zr,zt,hw⟩
  ·rintro D σ w hD hdep hcl ⟨⟨au,av,aw,ax,ay⟩,hv,ha,_,hw⟩
   obtain⟨τ,rfl⟩:=(ac (hv.at 6 rfl (hdep.2.1 rfl)) (ac (hv.at 18 rfl (hdep.1 rfl)) az)).aO
   have hw:=hw.aP (i:=9) rfl (nf (fun h=>ft hD ((hcl 21 _ rfl h).2.2.1 rfl)))
   have hw:=hw.aP (i:=9) rfl hD
   have hw:=hw.sc (γ:=Int) (if a0<aa.X0 then a0 else aa.X0)
   refine RL.vr (i:=10) (j:=0) (f:=fun x y=>{x with X0:=y}) trivial hw rfl rfl rfl rfl lB (by decide) bX fun w hw=>?_
   have hw:=hw.pl 12 [1,2,3,4,5,6,7,8,9,10,11] rfl
   have hw:=hw.aS (i:=9) (b:=true) rfl rfl (bx 61 o aa)
   have hw:=hw.cK (i:=9) (b:=D 21) rfl (nf (fun h=>ft hD ((hcl 21 _ rfl h).2.2.1 rfl))) (bx 61 o {{aa with X0:=(if a0<aa.X0 then a0 else aa.X0)} with X1:=(if aa.X1<a1 then a1 else aa.X1)})
   exact RL.nil ⟨rfl,(au,av,aw,ax,ay),hv.no zr,ha,zt,hw⟩
  ·rintro D σ w hD hdep hcl ⟨⟨au,av,aw,ax,ay⟩,hv,ha,_,hw⟩
   obtain⟨τ,rfl⟩:=(ac (hv.at 17 rfl (hdep.2.1 rfl)) (ac (hv.at 19 rfl (hdep.1 rfl)) az)).aO
   have hw:=hw.aP (i:=9) rfl hD
   have hw:=hw.aR (i:=9) rfl (hdep.2.2.1 rfl)
   have hw:=hw.sc (γ:=Int) (if aa.X1<a1 then a1 else aa.X1)
   refine RL.vr (i:=10) (j:=0) (f:=fun x y=>{x with X1:=y}) trivial hw rfl rfl rfl rfl lC (by decide) bX fun w hw=>?_
   have hw:=hw.pl 12 [1,2,3,4,5,6,7,8,9,10,11] rfl
   have hw:=hw.aS (i:=9) (b:=true) rfl rfl (bif D 19 then (bx 61 o {aa with X0:=(if a0<aa.X0 then a0 else aa.X0)}) else (bx 61 o aa))
   exact RL.nil ⟨rfl,(au,av,aw,ax,ay),hv.no zr,ha,zt,hw⟩
  rintro D σ w hall ⟨⟨au,av,aw,ax,ay⟩,hv,ha,_,hw⟩
  have hw:=hw.aR (i:=0) rfl (hall 3 (by decide))
  have hw:=hw.aR (i:=1) rfl (hall 4 (by decide))
  have hw:=hw.aR (i:=2) rfl (hall 10 (by decide))
  have hw:=hw.aR (i:=3) rfl (hall 12 (by decide))
  have hw:=hw.aR (i:=4) rfl (hall 15 (by decide))
  have hw:=hw.aR (i:=9) rfl (hall 21 (by decide))
  obtain⟨τ,rfl⟩:=(ac (ha.at 0 rfl) (ac (ha.at 1 rfl) (ac (ha.at 2 rfl) (ac (ha.at 3 rfl) (ac (ha.at 4 rfl) (ac (ha.at 5 rfl) az)))))).aO
  refine bJ (aG (RC.region (RL.inc zt zr hk hm zr zr (mv (vi ((a8+1:Nat):Int)) zr zr (RL.nil ?_)))))
  obtain rfl:=oi hb
  exact⟨rfl,(ag zr),hw.pk 11 [8,9,10] zr⟩
 intro σ w hJ
 obtain⟨ha,hw⟩:=hJ
 obtain⟨τ,rfl⟩:=ha.aO
 refine aG (RC.sr (RL.aY (i:=1) (f:=(fun x=>x)) zt zr hw zr zr Fd.self eM fun cd hw=>(RL.bC (i:=1) (j:=0) zt hw zr zr zr zr eM zr fun w hw=>(RL.nt (RC.ret ?_)))))
 obtain rfl:=oi hb
 exact A1 (i:=1) zr hw zr zr eM fun cf hw=>(hw.pk 5 [0] zr)
def qF (E:World) (Γ:List HP) (res:Bool) (v:Value) (w:World):Prop:=v= (vb res)∧Holds E w Γ
theorem pD (N:Nat) {E w:World} {Γ:List HP} {i0:Nat} {v0:Value} {p0: (List aA)} {res:Bool} (hw:Holds E w Γ) (h0:Γ[i0]? =some (rd v0 p0)) (hb:gZ N p0=some res):
    Calls Tryz.prog 29 [v0].toArray w (fw (qF E Γ res)):=by
 unfold gZ at hb
 refine enter Tryz.func29 zr zr (Nat.le_of_ble_eq_true zr) ?_
 have hw:=hw.dup (i:=i0+0) h0
 refine RC.sr (aM (vb false) zr zr (RL.nq ?_))
 obtain⟨o,hj,hb⟩:=bd hb
 refine RC.jn (fun(o:Bool) (σ:Nat→Value) (w:World)=>agree σ [(2,(vb o))]∧Holds E w ([]++Γ)) o ?_ ?_
 ·refine RC.region (mv v0 zr zr (RL.bG (i:=0) (l:=p0) zt zr hw zr zr nO (ic ((p0.length:Int)) 0 zr zr zr zr (mv (vb ((p0.length:Int)==0)) zr zr (fH hj (fun j hj=>?_) fun j hj=>?_)))))
  ·refine sk rfl (.inl (cb j)) rfl (sk rfl (.inl (cb j)) rfl (sk rfl (.inl (cb j)) rfl (RL.pick (b:=((p0.length:Int)==0)) (v:=(vb true)) trivial rfl rfl (by rw [j];rfl) (aM (vb true) rfl rfl (RL.nil ?_)))))
   obtain rfl:=oi hj
   exact⟨rfl,⟨rfl,zt⟩,hw.pk 1 [] zr⟩
  refine RL.move (v:=v0) (cg j) zr zr ?_
  obtain⟨af,ab,hj⟩:=bd hj
  refine RL.call (cg j) zr Ej [v0] zr (aF (nT N (i0:=0) hw zr ab) ?_)
  rintro ad w hw
  obtain⟨aa,ae,hj⟩:=bd hj
  refine RL.call (cg j) zr CR [ad] zr (aF (mq N (i0:=0) hw zr ae) ?_)
  rintro _ w ⟨rfl,hw⟩
  refine RL.pick (b:=((p0.length:Int)==0)) (v:=(vb aa)) trivial rfl rfl (by rw [j];rfl) (aM (vb aa) rfl rfl (RL.nil ?_))
  obtain rfl:=oi hj
  exact⟨rfl,⟨rfl,zt⟩,hw.pk 2 [] zr⟩
 rintro σ w ⟨ha,hw⟩
 obtain⟨τ,rfl⟩:=ha.aO
 refine aG (RC.ret ?_)
 obtain rfl:=oi hb
 exact bQ zr zr ⟨rfl,hw.drop 0 zr⟩
def rF (E:World) (Γ:List HP) (res:aC×Int) (v:Value) (w:World):Prop:=∃u0:Value,v = .tuple #[u0,(vi res.2)]∧Holds E w ([rd u0 res.1]++Γ)
theorem lM (N:Nat) {E w:World} {Γ:List HP} {i0:Nat} {v0:Value} {p0:bD} {res:aC×Int} (hw:Holds E w Γ) (h0:Γ[i0]? =some (rd v0 p0)) (hb:fM N p0=some res):
    Calls Tryz.prog 13 [v0].toArray w (fw (rF E Γ res)):=by
 unfold fM at hb
 refine enter Tryz.func13 zr zr (Nat.le_of_ble_eq_true zr) ?_
 have hw:=hw.dup (i:=i0+0) h0
 refine RC.sr (RL.dN (i:=0) (v:=v0) zt zr hw zr zr fun ad w hw=>(RL.alloc zt zr hw kP.z fun ae w hw=>(aM (vi 0) zr zr (RL.nq (RC.seq ?_)))))
 obtain⟨ab,hj,hb⟩:=bd hb
 refine RC.jn (fun(ab:Bool) (σ:Nat→Value) (w:World)=>agree σ [(1,(vp ad 0)),(2,(vp ae 0)),(14,(vb ab))]∧Holds E w ([bx 65 ad p0,raw 61 ae 4]++Γ)) ab ?_ ?_
 ·refine RC.region (RL.bF zt zr zr sj (RL.aL (i:=1) (f:=(fun x=>x.cD)) zt zr hw zr zr lD bX ?_))
  obtain⟨aa,ah,hj⟩:=bd hj
  refine RL.call zt zr zV [(vi p0.cD),(vi 1),(vi 10000)] zr (aF (gh N (p0:=p0.cD) (p1:=1) (p2:=10000) hw ah) ?_)
  rintro _ w ⟨rfl,hw⟩
  refine RL.not (b:=aa) zt zr zr (mv (vb (!aa)) zr zr (fH hj (fun o hj=>?_) fun o hj=>?_))
  ·refine sk rfl (.inl (cb o)) rfl (sk rfl (.inl (cb o)) rfl (sk rfl (.inl (cb o)) rfl (sk rfl (.inl (cb o)) rfl (RL.pick (b:=(!aa)) (v:=(vb true)) trivial rfl rfl (by rw [o];rfl) (RL.nil ?_)))))
   obtain rfl:=oi hj
   exact⟨rfl,(ag zr),hw.pk 3 [1,0] zr⟩
  refine RL.bF (cg o) zr zr xf (RL.aY (i:=1) (f:=(fun x=>x.At)) (cg o) zr hw zr zr qq yB fun ai hw=>?_)
  obtain⟨af,aj,hj⟩:=bd hj
  refine RL.call (cg o) zr C0 [ai] zr (aF (lL N (i0:=0) hw zr aj) ?_)
  rintro _ w ⟨rfl,hw⟩
  refine RL.not (b:=af) (cg o) rfl rfl (RL.pick (b:=(!aa)) (v:=(vb (!af))) trivial rfl rfl (by rw [o];rfl) (RL.nil ?_))
  obtain rfl:=oi hj
  exact⟨rfl,(ag zr),hw.pk 4 [2,1] zr⟩
 rintro σ w ⟨ha,hw⟩
 obtain⟨τ,rfl⟩:=ha.aO
 refine aG (eI hb zr (fun hc hb=>?_) fun hc hb=>?_)
 ·refine RC.sr (RL.build (y:=(⟨0,0,0,0⟩:aC)) trivial rfl hw [] rfl yz rfl (fun M hs g=>by have h:=oD M;exact cB.nil h) fun a0 hw=>(RL.bC (i:=2) (j:=0) trivial hw rfl rfl rfl rfl eM rfl fun w hw=>(aM (vi 1) rfl rfl (RL.nt (RC.rt ?_)))))
  obtain rfl:=oi hb
  exact tP (i:=2) zr hw zr zr eM zr fun ak hw=>⟨ak,zr,hw.pk 4 [0] zr⟩
 refine RC.sx (RL.aY (i:=0) (f:=(fun x=>x)) zt zr hw zr zr Fd.self kr fun al hw=>?_)
 obtain⟨an,ao,hb⟩:=bd hb
 refine RL.call zt zr yC [al] zr (aF (eD N (i0:=0) hw zr ao) ?_)
 rintro a1 w hw
 refine RL.alloc zt zr hw kP.z fun a2 w hw=>(RL.bC (i:=0) (j:=1) zt hw zr zr zr zr eM zr fun w hw=>(RL.nq (RC.sr (RL.aY (i:=0) (f:=(fun x=>x)) zt zr hw zr zr Fd.self eM fun aq hw=>(RL.dY (l:=([an]: (List aC))) zt zr hw [aq] zr zr zr iE kP (fun M hs g=>⟨(g.sat 0 _ zr).1,zt⟩) fun ar w hw=>?_)))))
 have hw:=hw.freeze (i:=0) rfl
 obtain⟨a3,au,hb⟩:=bd hb
 refine RL.call zt zr yy [ar] zr (aF (ga N (i0:=0) hw zr au) ?_)
 rintro av w hw
 have hw:=hw.freeze (i:=0) rfl
 obtain⟨aw,ax,hb⟩:=bd hb
 refine RL.call zt zr Ek [av] zr (aF (pD N (i0:=0) hw zr ax) ?_)
 rintro _ w ⟨rfl,hw⟩
 refine RL.not (b:=aw) zt zr zr (RL.nt (eI hb zr (fun hc hb=>?_) fun hc hb=>?_))
 ·refine RC.sr (RL.build (y:=(⟨0,0,0,0⟩:aC)) trivial rfl hw [] rfl yz rfl (fun M hs g=>by have h:=oD M;exact cB.nil h) fun a4 hw=>(RL.bC (i:=8) (j:=0) trivial hw rfl rfl rfl rfl eM rfl fun w hw=>(aM (vi 1) rfl rfl (RL.nt (RC.rt ?_)))))
  obtain rfl:=oi hb
  exact tP (i:=8) zr hw zr zr eM zr fun ay hw=>⟨ay,zr,hw.pk 10 [0] zr⟩
 refine RC.sx (RL.aY (i:=3) (f:=(fun x=>x)) zt zr hw zr zr Fd.self eM fun a5 hw=>(RL.bC (i:=8) (j:=0) zt hw zr zr zr zr eM zr fun w hw=>(aM (vi 0) zr zr (RL.nt (RC.ret ?_)))))
 obtain rfl:=oi hb
 exact tP (i:=8) zr hw zr zr eM zr fun az hw=>⟨az,zr,hw.pk 10 [0] zr⟩
def j8 (E:World) (Γ:List HP) (res:Int) (v:Value) (w:World):Prop:=v= (vi res)∧Holds E w Γ
def nU (E:World) (Γ:List HP) (r:Int) (σ:Nat→Value) (w:World):Prop:=kc Tryz.prog 47 Tryz.f21 (j8 E Γ r) .ret σ w
theorem mX (N:Nat) {E w:World} {Γ:List HP} {i0:Nat} {v0:Value} {p0:jQ} {res:Int} (hw:Holds E w Γ) (h0:Γ[i0]? =some (rd v0 p0)) (hb:fE N p0=some res):
    Calls Tryz.prog 21 [v0].toArray w (fw (j8 E Γ res)):=by
 unfold fE at hb
 refine enter Tryz.func21 zr zr (Nat.le_of_ble_eq_true zr) ?_
 have hw:=hw.dup (i:=i0+0) h0
 refine RC.sr (RL.dN (i:=0) (v:=v0) zt zr hw zr zr fun au w hw=>(aM (vi 0) zr zr (RL.nq (RC.sr (RL.bF zt zr zr ll (RL.aY (i:=0) (f:=(fun x=>x.aT)) zt zr hw zr zr mQ tC fun av hw=>(RL.bG (i:=0) (l:=p0.aT) zt zr hw zr zr uJ (ic ((p0.aT.length:Int)) 500 zr zr zr zr ?_))))))))
 refine RL.nt (eI hb zr (fun hc hb=>?_) fun hc hb=>?_)
 ·refine RC.sr (aM (vi 2) zr zr (RL.nt (RC.rt ?_)))
  obtain rfl:=oi hb
  exact bQ zr zr ⟨rfl,hw.drop 3 zr⟩
 refine RC.sx (RL.bF zt zr zr qu (RL.aY (i:=1) (f:=(fun x=>x.aJ)) zt zr hw zr zr lF yw fun aw hw=>(RL.bG (i:=0) (l:=p0.aJ) zt zr hw zr zr tB (aM (vi (p0.aJ.length:Int)) zr zr (RL.nq (RC.sr (RL.bF zt zr zr ll (RL.aY (i:=2) (f:=(fun x=>x.aT)) zt zr hw zr zr mQ tC fun ad hw=>?_))))))))
 refine RL.bG (i:=0) (l:=p0.aT) zt zr hw zr zr uJ (mv (vi 0) zr zr (RL.nt ?_))
 obtain⟨ax,hN,hb⟩:=bd hb
 refine RC.range (fun(ae:Nat) (af:Unit) (σ:Nat→Value) (w:World)=>agree σ [(3,(vi (p0.aJ.length:Int))),(16,ad),(17,(vi (p0.aT.length:Int))),(18,(vi (ae:Int)))]∧Holds E w ([rd ad p0.aT]++Γ)) (fun(af:Unit) (σ:Nat→Value) (w:World)=>agree σ []∧Holds E w ([rd ad p0.aT]++Γ)) (nU E Γ) hN ?_ ?_ ?_ ?_ ?_
 ·exact⟨(ag zr),hw.pk 5 [0] zr⟩
 ·intro hm af σ w hI
  obtain⟨ha,hw⟩:=hI
  obtain⟨τ,rfl⟩:=ha.aO
  refine RC.sr (ic ((p0.aT.length:Int)) ((p0.aT.length:Int)) zr zr zr zr (RL.nq (RC.cH lZ (RC.ex ?_))))
  exact⟨rfl,zt,hw.pk 1 [0] zr⟩
 ·intro hm ae af fl σ w hk hI hb
  obtain⟨ha,hw⟩:=hI
  obtain⟨τ,rfl⟩:=ha.aO
  refine RC.sr (ic ((ae:Int)) ((p0.aT.length:Int)) zr zr zr zr (RL.nq (RC.cG (lY hk) (RC.ss (RC.bs ?_)))))
  obtain⟨aa,al,hb⟩:=bd hb
  refine RL.bO (i:=0) zt zr hw zr zr zr vY al fun ay hw=>(RL.bP (i:=0) (x:=aa) zt zr hw zr zr kr fun az hw=>(RL.alloc zt zr hw yA.z fun a0 w hw=>(RL.bC (i:=0) (j:=1) zt hw zr zr zr zr kr zr fun w hw=>(RL.nq (RC.sr (RL.aY (i:=0) (f:=(fun x=>x)) zt zr hw zr zr Fd.self kr fun an hw=>?_))))))
  obtain⟨ab,ao,hb⟩:=bd hb
  refine RL.call zt zr C1 [an] zr (aF (lM N (i0:=0) hw zr ao) ?_)
  rintro _ w ⟨aj,rfl,hw⟩
  refine mv (.tuple #[aj,(vi ab.2)]) zr zr (RL.extract (v:=aj) zt zr zr zr (RL.extract (v:=(vi ab.2)) zt zr zr zr (RL.alloc zt zr hw kP.z fun a1 w hw=>(RL.bC (i:=0) (j:=1) zt hw zr zr zr zr eM zr fun w hw=>(aM (vi ab.2) zr zr (RL.ns (mv (vi ab.2) zr zr (ic (ab.2) 0 zr zr zr zr ?_))))))))
  refine RL.nt (eI hb zr (fun hc hb=>?_) fun hc hb=>?_)
  ·refine RC.sr (mv (vi ab.2) zr zr (aM (vi ab.2) zr zr (RL.nt (RC.rt (lf (bL ?_))))))
   obtain rfl:=oi hb
   exact⟨rfl,bQ zr zr ⟨rfl,hw.drop 7 zr⟩⟩
  refine RC.ss ?_
  obtain⟨ai,hj,hb⟩:=bd hb
  refine RC.jn (fun(ai:Bool) (σ:Nat→Value) (w:World)=>agree σ [(3,(vi (p0.aJ.length:Int))),(16,ad),(17,(vi (p0.aT.length:Int))),(18,(vi (ae:Int))),(45,(vb ai))]∧Holds E w ([rd ad p0.aT]++Γ)) ai ?_ ?_
  ·refine RC.region (RL.bF zt zr zr oE (RL.aL (i:=3) (f:=(fun x=>x.bN)) zt zr hw zr zr jz bX (mv (vi (p0.aJ.length:Int)) zr zr (RL.gQ (a:=(p0.aJ.length:Int)) (b:=1) zt zr zr zr zr ?_))))
   obtain⟨ah,aq,hj⟩:=bd hj
   refine RL.call zt zr zV [(vi aa.bN),(vi 0),(vi (IntKind.wrap .i64 ((p0.aJ.length:Int) - 1)))] zr (aF (gh N (p0:=aa.bN) (p1:=0) (p2:=(IntKind.wrap .i64 ((p0.aJ.length:Int) - 1))) hw aq) ?_)
   rintro _ w ⟨rfl,hw⟩
   refine RL.not (b:=ah) zt zr zr (mv (vb (!ah)) zr zr (fH hj (fun o hj=>?_) fun o hj=>?_))
   ·refine sk rfl (.inl (cb o)) rfl (sk rfl (.inl (cb o)) rfl (sk rfl (.inl (cb o)) rfl (sk rfl (.inl (cb o)) rfl (sk rfl (.inl (cb o)) rfl (sk rfl (.inl (cb o)) rfl (sk rfl (.inl (cb o)) rfl (sk rfl (.inl (cb o)) rfl (RL.pick (b:=(!ah)) (v:=(vb true)) trivial rfl rfl (by rw [o];rfl) ?_))))))))
    refine RL.nil ?_
    obtain rfl:=oi hj
    exact⟨rfl,(ag zr),hw.pk 7 [6] zr⟩
   refine RL.bF (cg o) zr zr qy (RL.aL (i:=3) (f:=(fun x=>x.To)) (cg o) zr hw zr zr ki bX (RL.bF (cg o) zr zr oE (RL.aL (i:=3) (f:=(fun x=>x.bN)) (cg o) zr hw zr zr jz bX (RL.move (v:=(vi (p0.aJ.length:Int))) (cg o) zr zr (RL.gQ (a:=(p0.aJ.length:Int)) (b:=1) (cg o) zr zr zr zr ?_)))))
   obtain⟨ak,ar,hj⟩:=bd hj
   refine RL.call (cg o) zr zV [(vi aa.To),(vi aa.bN),(vi (IntKind.wrap .i64 ((p0.aJ.length:Int) - 1)))] zr (aF (gh N (p0:=aa.To) (p1:=aa.bN) (p2:=(IntKind.wrap .i64 ((p0.aJ.length:Int) - 1))) hw ar) ?_)
   rintro _ w ⟨rfl,hw⟩
   refine RL.not (b:=ak) (cg o) rfl rfl (RL.pick (b:=(!ah)) (v:=(vb (!ak))) trivial rfl rfl (by rw [o];rfl) (RL.nil ?_))
   obtain rfl:=oi hj
   exact⟨rfl,(ag zr),hw.pk 7 [6] zr⟩
  rintro σ w ⟨ha,hw⟩
  obtain⟨τ,rfl⟩:=ha.aO
  refine aG (eI hb zr (fun hc hb=>?_) fun hc hb=>?_)
  rotate_left
  ·refine RC.skip (bJ (aG (RC.region (RL.inc zt zr hk hm zr zr (mv (vi ((ae+1:Nat):Int)) zr zr (RL.nil ?_))))))
   obtain rfl:=oi hb
   exact⟨rfl,(ag zr),hw.pk 1 [0] zr⟩
  refine RC.sr (aM (vi 1) zr zr (RL.nt (RC.rb (bL ?_))))
  obtain rfl:=oi hb
  exact⟨rfl,bQ zr zr ⟨rfl,hw.drop 1 zr⟩⟩
 ·intro r σ w e hK
  subst e
  refine bL ?_
  obtain rfl:=oi hb
  exact hK
 intro af σ w e hJ
 subst e
 rw [Fo.eT] at hb
 obtain⟨ha,hw⟩:=hJ
 obtain⟨τ,rfl⟩:=ha.aO
 refine aG (RC.sr (aM (vi 0) zr zr (RL.nt (RC.ret ?_))))
 obtain rfl:=oi hb
 exact bQ zr zr ⟨rfl,hw.drop 1 zr⟩
def lN (E:World) (Γ:List HP) (res:Int) (v:Value) (w:World):Prop:=v= (vi res)∧Holds E w Γ
theorem iF (N:Nat) {E w:World} {Γ:List HP} {p0:bS} {p1:Int} {res:Int} (hw:Holds E w Γ) (hb:dZ N p0 p1=some res):
    Calls Tryz.prog 98 [(str p0),(.int .u8 p1)].toArray w (fw (lN E Γ res)):=by
 unfold dZ at hb
 refine enter Tryz.func98 zr zr (Nat.le_of_ble_eq_true zr) (RC.sr (aM (vi 0) zr zr (RL.ns (mv (str p0) zr zr (mv (.int .u8 p1) zr zr (RL.rZ (v:=(vi (Lib.indexByte p0.bM (Int.toNat p1).toUInt8))) zt zr [(str p0),(.int .u8 p1)] zr (En p0 p1 w) (aM (vi (Lib.indexByte p0.bM (Int.toNat p1).toUInt8)) zr zr (RL.nt ?_))))))))
 refine RC.ret ?_
 obtain rfl:=oi hb
 exact bQ zr zr ⟨rfl,hw.drop 0 zr⟩
def nV (E:World) (Γ:List HP) (res:Int) (v:Value) (w:World):Prop:=v= (vi res)∧Holds E w Γ
theorem mY (N:Nat) {E w:World} {Γ:List HP} {p0:bS} {p1:bS} {res:Int} (hw:Holds E w Γ) (hb:fF N p0 p1=some res):
    Calls Tryz.prog 122 [(str p0),(str p1)].toArray w (fw (nV E Γ res)):=by
 unfold fF at hb
 refine enter Tryz.func122 zr zr (Nat.le_of_ble_eq_true zr) (RC.sr (aM (vi 0) zr zr (RL.ns (mv (str p1) zr zr (RL.lens (s:=p1) zt zr zr v5 (aM (vi (p1.bM.length:Int)) zr zr (RL.nq (RC.bs ?_))))))))
 refine mv (vi (p1.bM.length:Int)) rfl rfl (ic ((p1.bM.length:Int)) 0 rfl rfl rfl rfl (mv (vb ((p1.bM.length:Int)==0)) rfl rfl (RL.gs (c:=true) (b:=((p1.bM.length:Int)==0)) (v:=(str p1)) rfl rfl rfl (cN rfl (fun _=>rfl)) (RL.gs (c:=true) (b:=((p1.bM.length:Int)==0)) (v:=(str p0)) rfl rfl rfl (cN rfl (fun _=>rfl)) (RL.gs (c:=true) (b:=((p1.bM.length:Int)==0)) (v:=(vb (p1.wR p0))) rfl rfl rfl (AX (bop:= .eql) (a:=p1) (b:=p0) rfl (fun h=>by exact(cC h:cv (true&&(((p1.bM.length:Int)==0)==false)) (str p1)= (str p1))) (fun h=>by exact(cC h:cv (true&&(((p1.bM.length:Int)==0)==false)) (str p0)= (str p0))) rfl) (RL.pick (b:=((p1.bM.length:Int)==0)) (v:=(vb (((p1.bM.length:Int)==0)||(p1.wR p0)))) trivial rfl rfl (ml (c:=true) rfl) (aM (vb (((p1.bM.length:Int)==0)||(p1.wR p0))) rfl rfl (RL.nt ?_))))))))
 refine eI hb zr (fun hc hb=>?_) fun hc hb=>?_
 ·refine RC.sr (aM (vi 0) zr zr (RL.nt (RC.rb (bL ?_))))
  obtain rfl:=oi hb
  exact bQ zr zr ⟨rfl,hw.drop 0 zr⟩
 refine RC.sr (mv (vi (p1.bM.length:Int)) zr zr (ic ((p1.bM.length:Int)) 1 zr zr zr zr (aM (vb ((p1.bM.length:Int)==1)) zr zr (RL.nt (eI hb zr (fun hc hb=>?_) fun hc hb=>?_)))))
 ·refine RC.sr (mv (str p0) zr zr (mv (str p1) zr zr ?_))
  obtain⟨j,o,hb⟩:=bd hb
  refine RL.idxs (s:=p1) (i:=0) (c:=j) zt zr zr zr v5 o ?_
  obtain⟨aa,ab,hb⟩:=bd hb
  refine RL.call zt zr C3 [(str p0),(.int .u8 (j.toNat:Int))] zr (aF (iF N (p0:=p0) (p1:=(j.toNat:Int)) hw ab) ?_)
  rintro _ w ⟨rfl,hw⟩
  refine aM (vi aa) zr zr (RL.nt (RC.rb (bL ?_)))
  obtain rfl:=oi hb
  exact bQ zr zr ⟨rfl,hw.drop 0 zr⟩
 refine RC.sr (mv (vi (p1.bM.length:Int)) zr zr (mv (str p0) zr zr (RL.lens (s:=p0) zt zr zr v5 (ic ((p1.bM.length:Int)) ((p0.bM.length:Int)) zr zr zr zr (aM (vb (decide ((p1.bM.length:Int)≥(p0.bM.length:Int)))) zr zr (RL.nt (eI hb zr (fun hc hb=>?_) fun hc hb=>?_)))))))
 rotate_left
 ·cases hb
 refine RC.sr (aM (vi (-1)) zr zr (RL.nt (RC.rb (bL ?_))))
 obtain rfl:=oi hb
 exact bQ zr zr ⟨rfl,hw.drop 0 zr⟩
def rG (E:World) (Γ:List HP) (res:Int) (v:Value) (w:World):Prop:=v= (vi res)∧Holds E w Γ
theorem lO (N:Nat) {E w:World} {Γ:List HP} {p0:bS} {p1:bS} {res:Int} (hw:Holds E w Γ) (hb:gH N p0 p1=some res):
    Calls Tryz.prog 114 [(str p0),(str p1)].toArray w (fw (rG E Γ res)):=by
 unfold gH at hb
 refine enter Tryz.func114 zr zr (Nat.le_of_ble_eq_true zr) (RC.sr (aM (vi 0) zr zr (RL.ns (mv (str p0) zr zr (mv (str p1) zr zr ?_)))))
 obtain⟨j,o,hb⟩:=bd hb
 refine RL.call zt zr C4 [(str p0),(str p1)] zr (aF (mY N (p0:=p0) (p1:=p1) hw o) ?_)
 rintro _ w ⟨rfl,hw⟩
 refine aM (vi j) zr zr (RL.nt (RC.ret ?_))
 obtain rfl:=oi hb
 exact bQ zr zr ⟨rfl,hw.drop 0 zr⟩
def mu (E:World) (Γ:List HP) (res:Int) (v:Value) (w:World):Prop:=v= (vi res)∧Holds E w Γ
def rH (E:World) (Γ:List HP) (r:Int) (σ:Nat→Value) (w:World):Prop:=kc Tryz.prog 34 Tryz.f113 (mu E Γ r) .ret σ w
theorem qG (N:Nat) {E w:World} {Γ:List HP} {p0:bS} {p1:bS} {res:Int} (hw:Holds E w Γ) (hb:iB N p0 p1=some res):
    Calls Tryz.prog 113 [(str p0),(str p1)].toArray w (fw (mu E Γ res)):=by
 unfold iB at hb
 refine enter Tryz.func113 zr zr (Nat.le_of_ble_eq_true zr) (RC.sr (aM (vi 0) zr zr (RL.nq (RC.sr (mv (str p1) zr zr (RL.lens (s:=p1) zt zr zr v5 (ic ((p1.bM.length:Int)) 0 zr zr zr zr (RL.nt ?_))))))))
 refine eI hb zr (fun hc hb=>?_) fun hc hb=>?_
 ·cases hb
 refine RC.ss (RC.sr (mv (str p1) zr zr (RL.lens (s:=p1) zt zr zr v5 (ic ((p1.bM.length:Int)) 1 zr zr zr zr (RL.nt (eI hb zr (fun hc hb=>?_) fun hc hb=>?_))))))
 ·refine RC.sr (mv (str p0) zr zr (mv (str p1) zr zr ?_))
  obtain⟨o,ab,hb⟩:=bd hb
  refine RL.idxs (s:=p1) (i:=0) (c:=o) zt zr zr zr v5 ab (RL.rZ (v:=(vi ((Lib.countByte p0.bM (Int.toNat (o.toNat:Int)).toUInt8:Nat):Int))) zt zr [(str p0),(.int .u8 (o.toNat:Int))] zr (Em p0 (o.toNat:Int) w) (aM (vi ((Lib.countByte p0.bM (Int.toNat (o.toNat:Int)).toUInt8:Nat):Int)) zr zr (RL.nt (RC.rt ?_))))
  obtain rfl:=oi hb
  exact bQ zr zr ⟨rfl,hw.drop 0 zr⟩
 refine RC.sx (aM (vi 0) zr zr (RL.nt ?_))
 obtain⟨ah,hN,hb⟩:=bd hb
 refine RC.iter (fun(j:bS×Int) (σ:Nat→Value) (w:World)=>agree σ [(0,(str j.1)),(1,(str p1)),(4,(vi 0)),(5,(vi j.2))]∧Holds E w ([]++Γ)) (fun(j:bS×Int) (σ:Nat→Value) (w:World)=>agree σ [(4,(vi 0))]∧Holds E w ([]++Γ)) (rH E Γ) hN ?_ ?_ ?_ ?_
 ·exact⟨(ag zr),hw.pk 0 [] zr⟩
 ·intro j fl σ w hI hb
  obtain⟨ha,hw⟩:=hI
  obtain⟨τ,rfl⟩:=ha.aO
  refine RC.bs (mv (str j.1) zr zr (mv (str p1) zr zr ?_))
  obtain⟨aa,ad,hb⟩:=bd hb
  refine RL.call zt zr BI [(str j.1),(str p1)] zr (aF (lO N (p0:=j.1) (p1:=p1) hw ad) ?_)
  rintro _ w ⟨rfl,hw⟩
  refine aM (vi aa) zr zr (RL.nq (RC.sr (mv (vi aa) zr zr (ic aa ((-1)) zr zr zr zr (RL.nt (eI hb zr (fun hc hb=>?_) fun hc hb=>?_))))))
  ·refine RC.sr (mv (vi j.2) zr zr (aM (vi j.2) zr zr (RL.nt (RC.rt (lf ?_)))))
   obtain rfl:=oi hb
   exact⟨rfl,bQ zr zr ⟨rfl,hw.drop 0 zr⟩⟩
  refine RC.sx (mv (vi j.2) zr zr (RL.gQ (a:=j.2) (b:=1) zt zr zr zr zr (aM (vi (IntKind.wrap .i64 (j.2+1))) zr zr (RL.nt (RC.region (mv (str j.1) zr zr (mv (vi aa) zr zr (mv (str p1) zr zr ?_))))))))
  refine RL.lens (s:=p1) zt zr zr v5 (RL.gQ (a:=aa) (b:=(p1.bM.length:Int)) zt zr zr zr zr ?_)
  obtain⟨ae,af,hb⟩:=bd hb
  refine RL.oz (s:=j.1) zt zr zr v5 (.inl zr) (.inr ⟨rfl,zr⟩) af (aM (str ae) zr zr (RL.nil (bJ ?_)))
  obtain rfl:=oi hb
  exact⟨rfl,(ag zr),hw.pk 0 [] zr⟩
 ·intro r σ w e hK
  subst e
  obtain rfl:=oi hb
  exact hK
 intro j σ w e hJ
 subst e
 rw [Fo.eT] at hb
 obtain⟨ha,hw⟩:=hJ
 obtain⟨τ,rfl⟩:=ha.aO
 obtain rfl:=oi hb
 refine xH ?_
 exact bQ zr zr ⟨rfl,hw.drop 0 zr⟩
def oJ (E:World) (Γ:List HP) (res: (List bS)) (v:Value) (w:World):Prop:=Holds E w ([own 9 v res]++Γ)
theorem nW (N:Nat) {E w:World} {Γ:List HP} {p0:bS} {p1:bS} {p2:Int} {p3:Int} {res: (List bS)} (hw:Holds E w Γ) (hb:ij N p0 p1 p2 p3=some res):
    Calls Tryz.prog 97 [(str p0),(str p1),(vi p2),(vi p3)].toArray w (fw (oJ E Γ res)):=by
 unfold ij at hb
 refine enter Tryz.func97 zr zr (Nat.le_of_ble_eq_true zr) (RC.sr (aM (.slice none 0 0) zr zr (RL.nq (RC.sr (mv (vi p3) zr zr (ic p3 0 zr zr zr zr (RL.nt (eI hb zr (fun hc hb=>?_) fun hc hb=>?_))))))))
 ·refine RC.sr (aM (.slice none 0 0) zr zr (RL.nt (RC.rt ?_)))
  obtain rfl:=oi hb
  have hw:=hw.bV bS 9
  exact bQ zr zr (hw.pk 1 [0] zr)
 refine RC.ss (RC.sr (mv (str p1) zr zr (RL.ym (a:=p1) (b:=⟨[]⟩) zt zr zr zr zr (RL.nt (eI hb zr (fun hc hb=>?_) fun hc hb=>?_)))))
 ·cases hb
 refine RC.ss (RC.sr (mv (vi p3) zr zr (ic p3 0 zr zr zr zr (RL.nt ?_))))
 obtain⟨aa,hj,hb⟩:=bd hb
 refine RC.jn (fun(aa:Int) (σ:Nat→Value) (w:World)=>agree σ [(0,(str p0)),(1,(str p1)),(2,(vi p2)),(3,(vi aa))]∧Holds E w ([]++Γ)) aa ?_ ?_
 ·refine eI hj zr (fun hc hj=>?_) fun hc hj=>?_
  rotate_left
  ·refine RC.skip ?_
   obtain rfl:=oi hj
   exact⟨rfl,(ag zr),hw.pk 0 [] zr⟩
  refine RC.region (mv (str p0) zr zr (mv (str p1) zr zr ?_))
  obtain⟨ah,ai,hj⟩:=bd hj
  refine RL.call zt zr C5 [(str p0),(str p1)] zr (aF (qG N (p0:=p0) (p1:=p1) hw ai) ?_)
  rintro _ w ⟨rfl,hw⟩
  refine RL.gQ (a:=ah) (b:=1) zt zr zr zr zr (aM (vi (IntKind.wrap .i64 (ah+1))) zr zr (RL.nil ?_))
  obtain rfl:=oi hj
  exact⟨rfl,(ag zr),hw.pk 0 [] zr⟩
 rintro σ w ⟨ha,hw⟩
 obtain⟨τ,rfl⟩:=ha.aO
 refine aG (RC.sr (mv (vi aa) zr zr (mv (str p0) zr zr (RL.lens (s:=p0) zt zr zr v5 (RL.gQ (a:=(p0.bM.length:Int)) (b:=1) zt zr zr zr zr (RL.min (a:=aa) (b:=(IntKind.wrap .i64 ((p0.bM.length:Int)+1))) zt zr zr zr (aM (vi (if (IntKind.wrap .i64 ((p0.bM.length:Int)+1))<aa then (IntKind.wrap .i64 ((p0.bM.length:Int)+1)) else aa)) zr zr (RL.ns ?_))))))))
 refine mv (vi (if (IntKind.wrap .i64 ((p0.bM.length:Int)+1))<aa then (IntKind.wrap .i64 ((p0.bM.length:Int)+1)) else aa)) zr zr ?_
 obtain⟨av,aj,hb⟩:=bd hb
 refine RL.mk (k:=(if (IntKind.wrap .i64 ((p0.bM.length:Int)+1))<aa then (IntKind.wrap .i64 ((p0.bM.length:Int)+1)) else aa)) zt zr hw zr zr C6 FE aj fun ab w hw=>(aM ab zr zr (RL.ns (mv (vi (if (IntKind.wrap .i64 ((p0.bM.length:Int)+1))<aa then (IntKind.wrap .i64 ((p0.bM.length:Int)+1)) else aa)) zr zr (RL.gQ (a:=(if (IntKind.wrap .i64 ((p0.bM.length:Int)+1))<aa then (IntKind.wrap .i64 ((p0.bM.length:Int)+1)) else aa)) (b:=1) zt zr zr zr zr (aM (vi (IntKind.wrap .i64 ((if (IntKind.wrap .i64 ((p0.bM.length:Int)+1))<aa then (IntKind.wrap .i64 ((p0.bM.length:Int)+1)) else aa) - 1))) zr zr (RL.ns (aM (vi 0) zr zr (RL.nq ?_))))))))
 obtain⟨aw,hN,hb⟩:=bd hb
 refine RC.iter (fun(o:bS×(List bS)×Int) (σ:Nat→Value) (w:World)=>agree σ [(0,(str o.1)),(1,(str p1)),(2,(vi p2)),(3,(vi (IntKind.wrap .i64 ((if (IntKind.wrap .i64 ((p0.bM.length:Int)+1))<aa then (IntKind.wrap .i64 ((p0.bM.length:Int)+1)) else aa) - 1)))),(9,ab),(10,(vi o.2.2))]∧Holds E w ([own 9 ab o.2.1]++Γ)) (fun(o:bS×(List bS)×Int) (σ:Nat→Value) (w:World)=>agree σ [(0,(str o.1)),(9,ab),(10,(vi o.2.2))]∧Holds E w ([own 9 ab o.2.1]++Γ)) (fun(r:Empty) (_:Nat→Value) (_:World)=>r.elim) hN ?_ ?_ ?_ ?_
 ·exact⟨(ag zr),hw.pk 1 [0] zr⟩
 ·intro o fl σ w hI hb
  obtain⟨ha,hw⟩:=hI
  obtain⟨τ,rfl⟩:=ha.aO
  refine RC.seq (RC.sr (mv (vi o.2.2) zr zr (mv (vi (IntKind.wrap .i64 ((if (IntKind.wrap .i64 ((p0.bM.length:Int)+1))<aa then (IntKind.wrap .i64 ((p0.bM.length:Int)+1)) else aa) - 1))) zr zr (ic (o.2.2) ((IntKind.wrap .i64 ((if (IntKind.wrap .i64 ((p0.bM.length:Int)+1))<aa then (IntKind.wrap .i64 ((p0.bM.length:Int)+1)) else aa) - 1))) zr zr zr zr (RL.nt (eI hb zr (fun hc hb=>?_) fun hc hb=>?_))))))
  rotate_left
  ·refine RC.ex ?_
   obtain rfl:=oi hb
   exact⟨rfl,(ag zr),hw.pk 1 [0] zr⟩
  refine RC.sn (RC.bs (mv (str o.1) zr zr (mv (str p1) zr zr ?_)))
  obtain⟨ad,ak,hb⟩:=bd hb
  refine RL.call zt zr BI [(str o.1),(str p1)] zr (aF (lO N (p0:=o.1) (p1:=p1) hw ak) ?_)
  rintro _ w ⟨rfl,hw⟩
  refine aM (vi ad) zr zr (RL.nq (RC.sr (mv (vi ad) zr zr (ic ad 0 zr zr zr zr (RL.nt (eI hb zr (fun hc hb=>?_) fun hc hb=>?_))))))
  ·refine RC.ex (BW (by decide) ?_)
   obtain rfl:=oi hb
   exact⟨rfl,(ag zr),hw.pk 1 [0] zr⟩
  refine RC.sx (mv ab zr zr (mv (vi o.2.2) zr zr (mv (str o.1) zr zr (mv (vi ad) zr zr (mv (vi p2) zr zr (RL.gQ (a:=ad) (b:=p2) zt zr zr zr zr ?_))))))
  obtain⟨al,an,hb⟩:=bd hb
  refine RL.oz (s:=o.1) zt zr zr v5 (.inr ⟨rfl,zr⟩) (.inl zr) an ?_
  obtain⟨ax,ae,hb⟩:=bd hb
  refine RL.bB (i:=0) zt zr hw zr zr zr xT ae ?_
  have hw:=hw.sc (γ:=bS) al
  refine RL.eO (i:=1) (j:=0) (f:=(fun _ y=>y)) trivial hw rfl rfl (gS hw (i:=1) rfl ae 0) rfl (aQ ae).2.1 rfl Fs.self (by decide) zX fun w hw=>(RL.ns (mv (str o.1) rfl rfl (mv (vi ad) rfl rfl (mv (str p1) rfl rfl (RL.lens (s:=p1) trivial rfl rfl v5 (RL.gQ (a:=ad) (b:=(p1.bM.length:Int)) trivial rfl rfl rfl rfl ?_))))))
  obtain⟨ao,aq,hb⟩:=bd hb
  refine RL.oz (s:=o.1) zt zr zr v5 (.inl zr) (.inr ⟨rfl,zr⟩) aq (aM (str ao) zr zr (RL.nt (RC.region (mv (vi o.2.2) zr zr (RL.gQ (a:=o.2.2) (b:=1) zt zr zr zr zr (aM (vi (IntKind.wrap .i64 (o.2.2+1))) zr zr (RL.nil (bJ ?_))))))))
  obtain rfl:=oi hb
  exact⟨rfl,(ag zr),hw.pk 2 [1] zr⟩
 ·intro r _ _ _ _
  exact r.elim
 intro o σ w e hJ
 subst e
 rw [Fo.eT] at hb
 obtain⟨ha,hw⟩:=hJ
 obtain⟨τ,rfl⟩:=ha.aO
 refine aG (RC.sr (mv ab zr zr (mv (vi o.2.2) zr zr (mv (str o.1) zr zr ?_))))
 obtain⟨ay,af,hb⟩:=bd hb
 refine RL.bB (i:=0) zt zr hw zr zr zr xT af ?_
 have hw:=hw.sc (γ:=bS) o.1
 refine RL.eO (i:=1) (j:=0) (f:=(fun _ y=>y)) trivial hw rfl rfl (gS hw (i:=1) rfl af 0) rfl (aQ af).2.1 rfl Fs.self (by decide) zX fun w hw=>(RL.ns (mv ab rfl rfl (mv (vi o.2.2) rfl rfl (RL.gQ (a:=o.2.2) (b:=1) trivial rfl rfl rfl rfl ?_))))
 obtain⟨az,ar,hb⟩:=bd hb
 refine RL.uo (i:=1) zt zr hw zr zr xT (.inr ⟨rfl,zr⟩) (.inl zr) ar fun au hw=>(aM au zr zr (RL.nt (RC.ret ?_)))
 obtain rfl:=oi hb
 exact bQ zr zr (hw.pk 2 [1] zr)
def rI (E:World) (Γ:List HP) (res: (List bS)) (v:Value) (w:World):Prop:=Holds E w ([own 9 v res]++Γ)
theorem qH (N:Nat) {E w:World} {Γ:List HP} {p0:bS} {p1:bS} {res: (List bS)} (hw:Holds E w Γ) (hb:iC N p0 p1=some res):
    Calls Tryz.prog 67 [(str p0),(str p1)].toArray w (fw (rI E Γ res)):=by
 unfold iC at hb
 refine enter Tryz.func67 zr zr (Nat.le_of_ble_eq_true zr) (RC.sr (aM (.slice none 0 0) zr zr (RL.ns (mv (str p0) zr zr (mv (str p1) zr zr ?_)))))
 obtain⟨aa,j,hb⟩:=bd hb
 refine RL.call zt zr Eo [(str p0),(str p1),(vi 0),(vi (-1))] zr (aF (nW N (p0:=p0) (p1:=p1) (p2:=0) (p3:=(-1)) hw j) ?_)
 rintro o w hw
 refine aM o zr zr (RL.nt (RC.ret ?_))
 obtain rfl:=oi hb
 exact bQ zr zr (hw.pk 1 [0] zr)
def iu (E:World) (Γ:List HP) (res:Int) (v:Value) (w:World):Prop:=v= (vi res)∧Holds E w Γ
def kR (E:World) (Γ:List HP) (r:Int) (σ:Nat→Value) (w:World):Prop:=kc Tryz.prog 19 Tryz.f96 (iu E Γ r) .ret σ w
theorem kz (N:Nat) {E w:World} {Γ:List HP} {i0:Nat} {v0:Value} {p0: (List bS)} {v1:Value} {p1:bS→Option Bool} {res:Int} (hw:Holds E w Γ) (h0:Γ[i0]? =some (rd v0 p0)) (h1:AP Tryz.prog E Γ v1 p1 (fun(r:Bool)=>Value.bool r)) (hb:fV N p0 p1=some res):
    Calls Tryz.prog 96 [v0,v1].toArray w (fw (iu E Γ res)):=by
 unfold fV at hb
 refine enter Tryz.func96 zr zr (Nat.le_of_ble_eq_true zr) ?_
 have hw:=hw.dup (i:=i0+0) h0
 refine RC.sr (aM (vi 0) zr zr (RL.nq (RC.sr (mv v0 zr zr (RL.bG (i:=0) (l:=p0) zt zr hw zr zr C7 (mv (vi 0) zr zr (RL.nt ?_)))))))
 obtain⟨ae,hN,hb⟩:=bd hb
 refine RC.range (fun(j:Nat) (o:Unit) (σ:Nat→Value) (w:World)=>agree σ [(0,v0),(1,v1),(7,(vi (p0.length:Int))),(8,(vi (j:Int)))]∧Holds E w ([rd v0 p0]++Γ)) (fun(o:Unit) (σ:Nat→Value) (w:World)=>agree σ []∧Holds E w ([rd v0 p0]++Γ)) (kR E Γ) hN ?_ ?_ ?_ ?_ ?_
 ·exact⟨(ag zr),hw.pk 1 [0] zr⟩
 ·intro hm o σ w hI
  obtain⟨ha,hw⟩:=hI
  obtain⟨τ,rfl⟩:=ha.aO
  refine RC.sr (ic ((p0.length:Int)) ((p0.length:Int)) zr zr zr zr (RL.nq (RC.cH lZ (RC.ex ?_))))
  exact⟨rfl,zt,hw.pk 1 [0] zr⟩
 ·intro hm j o fl σ w hk hI hb
  obtain⟨ha,hw⟩:=hI
  obtain⟨τ,rfl⟩:=ha.aO
  refine RC.sr (ic ((j:Int)) ((p0.length:Int)) zr zr zr zr (RL.nq (RC.cG (lY hk) (RC.ss (RC.bs (mv (vi (j:Int)) zr zr (aM (vi (j:Int)) zr zr (RL.ns ?_))))))))
  refine mv v1 zr zr (mv v0 zr zr (mv (vi (j:Int)) zr zr ?_))
  obtain⟨aa,ab,hb⟩:=bd hb
  refine RL.bO (i:=0) zt zr hw zr zr zr xT ab fun af hw=>(RL.bA (i:=0) (y:=aa) zt zr hw zr zr zX ?_)
  have hw:=hw.sc (γ:=bS) aa
  obtain⟨ah,ad,hb⟩:=bd hb
  refine RL.uk (i:=0) zt zr hw zr h1 3 zr zr zr ad fun w hw=>(RL.nt (eI hb zr (fun hc hb=>?_) fun hc hb=>?_))
  rotate_left
  ·refine RC.skip (bJ (aG (RC.region (RL.inc zt zr hk hm zr zr (mv (vi ((j+1:Nat):Int)) zr zr (RL.nil ?_))))))
   obtain rfl:=oi hb
   exact⟨rfl,(ag zr),hw.pk 3 [2] zr⟩
  refine RC.sr (mv (vi (j:Int)) zr zr (aM (vi (j:Int)) zr zr (RL.nt (RC.rb (bL ?_)))))
  obtain rfl:=oi hb
  exact⟨rfl,bQ zr zr ⟨rfl,hw.drop 3 zr⟩⟩
 ·intro r σ w e hK
  subst e
  refine bL ?_
  obtain rfl:=oi hb
  exact hK
 intro o σ w e hJ
 subst e
 rw [Fo.eT] at hb
 obtain⟨ha,hw⟩:=hJ
 obtain⟨τ,rfl⟩:=ha.aO
 refine aG (RC.sr (aM (vi (-1)) zr zr (RL.nt (RC.ret ?_))))
 obtain rfl:=oi hb
 exact bQ zr zr ⟨rfl,hw.drop 1 zr⟩
def jW (E:World) (Γ:List HP) (res:Bool) (v:Value) (w:World):Prop:=v= (vb res)∧Holds E w Γ
theorem jJ (N:Nat) {E w:World} {Γ:List HP} {i0:Nat} {v0:Value} {p0: (List bS)} {v1:Value} {p1:bS→Option Bool} {res:Bool} (hw:Holds E w Γ) (h0:Γ[i0]? =some (rd v0 p0)) (h1:AP Tryz.prog E Γ v1 p1 (fun(r:Bool)=>Value.bool r)) (hb:dT N p0 p1=some res):
    Calls Tryz.prog 66 [v0,v1].toArray w (fw (jW E Γ res)):=by
 unfold dT at hb
 refine enter Tryz.func66 zr zr (Nat.le_of_ble_eq_true zr) ?_
 have hw:=hw.dup (i:=i0+0) h0
 refine RC.sr (aM (vb false) zr zr (RL.ns (mv v0 zr zr (mv v1 zr zr ?_))))
 obtain⟨j,o,hb⟩:=bd hb
 refine RL.call zt zr Er [v0,v1] zr (aF (kz N (i0:=0) hw zr (h1.lift 1 zr) o) ?_)
 rintro _ w ⟨rfl,hw⟩
 refine ic j 0 zr zr zr zr (aM (vb (decide (j≥0))) zr zr (RL.nt (RC.ret ?_)))
 obtain rfl:=oi hb
 exact bQ zr zr ⟨rfl,hw.drop 1 zr⟩
def nX (E:World) (Γ:List HP) (res:Int) (v:Value) (w:World):Prop:=v= (vi res)∧Holds E w Γ
theorem mZ (N:Nat) {E w:World} {Γ:List HP} {p0:bS} {p1:Int} {res:Int} (hw:Holds E w Γ) (hb:eK N p0 p1=some res):
    Calls Tryz.prog 69 [(str p0),(.int .u8 p1)].toArray w (fw (nX E Γ res)):=by
 unfold eK at hb
 refine enter Tryz.func69 zr zr (Nat.le_of_ble_eq_true zr) (RC.sr (aM (vi 0) zr zr (RL.ns (mv (str p0) zr zr (mv (.int .u8 p1) zr zr ?_)))))
 obtain⟨j,o,hb⟩:=bd hb
 refine RL.call zt zr C3 [(str p0),(.int .u8 p1)] zr (aF (iF N (p0:=p0) (p1:=p1) hw o) ?_)
 rintro _ w ⟨rfl,hw⟩
 refine aM (vi j) zr zr (RL.nt (RC.ret ?_))
 obtain rfl:=oi hb
 exact bQ zr zr ⟨rfl,hw.drop 0 zr⟩
def lP (E:World) (Γ:List HP) (res:Bool) (v:Value) (w:World):Prop:=v= (vb res)∧Holds E w Γ
def qI (E:World) (Γ:List HP) (r:Bool) (σ:Nat→Value) (w:World):Prop:=kc Tryz.prog 49 Tryz.f43 (lP E Γ r) .ret σ w
theorem kW (N:Nat) {E w:World} {Γ:List HP} {p0:bS} {res:Bool} (hw:Holds E w Γ) (hb:eH N p0=some res):
    Calls Tryz.prog 43 [(str p0)].toArray w (fw (lP E Γ res)):=by
 unfold eH at hb
 refine enter Tryz.func43 zr zr (Nat.le_of_ble_eq_true zr) (RC.sr (aM (vb false) zr zr (RL.nq (RC.sr (mv (str p0) zr zr (RL.lens (s:=p0) zt zr zr v5 (mv (vi 0) zr zr (RL.nt ?_))))))))
 obtain⟨ai,hN,hb⟩:=bd hb
 refine RC.range (fun(o:Nat) (ab:Unit) (σ:Nat→Value) (w:World)=>agree σ [(0,(str p0)),(6,(vi (p0.bM.length:Int))),(7,(vi (o:Int)))]∧Holds E w ([]++Γ)) (fun(ab:Unit) (σ:Nat→Value) (w:World)=>agree σ [(0,(str p0))]∧Holds E w ([]++Γ)) (qI E Γ) hN ?_ ?_ ?_ ?_ ?_
 ·exact⟨(ag zr),hw.pk 0 [] zr⟩
 ·intro hm ab σ w hI
  obtain⟨ha,hw⟩:=hI
  obtain⟨τ,rfl⟩:=ha.aO
  refine RC.sr (ic ((p0.bM.length:Int)) ((p0.bM.length:Int)) zr zr zr zr (RL.nq (RC.cH lZ (RC.ex ?_))))
  exact⟨rfl,⟨rfl,zt⟩,hw.pk 0 [] zr⟩
 ·intro hm o ab fl σ w hk hI hb
  obtain⟨ha,hw⟩:=hI
  obtain⟨τ,rfl⟩:=ha.aO
  refine RC.sr (ic ((o:Int)) ((p0.bM.length:Int)) zr zr zr zr (RL.nq (RC.cG (lY hk) (RC.ss (RC.bs (mv (vi (o:Int)) zr zr (aM (vi (o:Int)) zr zr (RL.ns ?_))))))))
  refine mv (str p0) zr zr (mv (vi (o:Int)) zr zr ?_)
  obtain⟨j,af,hb⟩:=bd hb
  refine RL.idxs (s:=p0) (i:=(o:Int)) (c:=j) zt zr zr zr v5 af (aM (.int .u8 (j.toNat:Int)) zr zr (RL.nq ?_))
  obtain⟨ad,hj,hb⟩:=bd hb
  refine RC.jn (fun(ad:Bool) (σ:Nat→Value) (w:World)=>agree σ [(0,(str p0)),(6,(vi (p0.bM.length:Int))),(7,(vi (o:Int))),(39,(vb ad))]∧Holds E w ([]++Γ)) ad ?_ ?_
  ·refine RC.region (mv (.int .u8 (j.toNat:Int)) rfl rfl (ic ((j.toNat:Int)) 65 rfl rfl rfl rfl (mv (vb (decide ((j.toNat:Int)<65))) rfl rfl (RL.gs (c:=true) (b:=(decide ((j.toNat:Int)<65))) (v:=(.int .u8 (j.toNat:Int))) rfl rfl rfl (cN rfl (fun _=>rfl)) (RL.gs (c:=true) (b:=(decide ((j.toNat:Int)<65))) (v:=(vb (decide ((j.toNat:Int)>90)))) rfl rfl rfl (cV (bop:= .gtr) (K:= .u8) (a:=(j.toNat:Int)) (b:=90) rfl (fun h=>by exact(cC h:cv (true&&((decide ((j.toNat:Int)<65))==false)) (.int .u8 (j.toNat:Int))= (.int .u8 (j.toNat:Int)))) (fun _=>rfl) rfl) (RL.pick (b:=(decide ((j.toNat:Int)<65))) (v:=(vb ((decide ((j.toNat:Int)<65))||(decide ((j.toNat:Int)>90))))) trivial rfl rfl (ml (c:=true) rfl) (mv (vb ((decide ((j.toNat:Int)<65))||(decide ((j.toNat:Int)>90)))) rfl rfl (RL.gs (c:=true) (b:=((decide ((j.toNat:Int)<65))||(decide ((j.toNat:Int)>90)))) (v:=(.int .u8 (j.toNat:Int))) rfl rfl rfl (cN rfl (fun _=>rfl)) ?_))))))))
   refine RL.gs (c:=true) (b:=((decide ((j.toNat:Int)<65))||(decide ((j.toNat:Int)>90)))) (v:=(vb (decide ((j.toNat:Int)<97)))) rfl rfl rfl (cV (bop:= .lss) (K:= .u8) (a:=(j.toNat:Int)) (b:=97) rfl (fun h=>by exact(cC h:cv (true&&(((decide ((j.toNat:Int)<65))||(decide ((j.toNat:Int)>90)))==true)) (.int .u8 (j.toNat:Int))= (.int .u8 (j.toNat:Int)))) (fun _=>rfl) rfl) (RL.gs (c:=true) (b:=((decide ((j.toNat:Int)<65))||(decide ((j.toNat:Int)>90)))) (v:=(vb (decide ((j.toNat:Int)<97)))) rfl rfl rfl (cN rfl (fun h=>by exact(cC h:cv (true&&(((decide ((j.toNat:Int)<65))||(decide ((j.toNat:Int)>90)))==true)) (vb (decide ((j.toNat:Int)<97)))= (vb (decide ((j.toNat:Int)<97)))))) (RL.gs (c:=(true&&(((decide ((j.toNat:Int)<65))||(decide ((j.toNat:Int)>90)))==true))) (b:=(decide ((j.toNat:Int)<97))) (v:=(.int .u8 (j.toNat:Int))) rfl rfl rfl (cN rfl (fun _=>rfl)) (RL.gs (c:=(true&&(((decide ((j.toNat:Int)<65))||(decide ((j.toNat:Int)>90)))==true))) (b:=(decide ((j.toNat:Int)<97))) (v:=(vb (decide ((j.toNat:Int)>122)))) rfl rfl rfl (cV (bop:= .gtr) (K:= .u8) (a:=(j.toNat:Int)) (b:=122) rfl (fun h=>by exact(cC h:cv ((true&&(((decide ((j.toNat:Int)<65))||(decide ((j.toNat:Int)>90)))==true))&&((decide ((j.toNat:Int)<97))==false)) (.int .u8 (j.toNat:Int))= (.int .u8 (j.toNat:Int)))) (fun _=>rfl) rfl) (RL.gs (c:=true) (b:=((decide ((j.toNat:Int)<65))||(decide ((j.toNat:Int)>90)))) (v:=(vb ((decide ((j.toNat:Int)<97))||(decide ((j.toNat:Int)>122))))) rfl rfl rfl (nv (b:=(decide ((j.toNat:Int)<97))) rfl (fun h=>by exact(cC h:cv (true&&(((decide ((j.toNat:Int)<65))||(decide ((j.toNat:Int)>90)))==true)) (vb (decide ((j.toNat:Int)<97)))= (vb (decide ((j.toNat:Int)<97))))) (fun h=>by exact ml (c:=(true&&(((decide ((j.toNat:Int)<65))||(decide ((j.toNat:Int)>90)))==true))) h)) (RL.pick (b:=((decide ((j.toNat:Int)<65))||(decide ((j.toNat:Int)>90)))) (v:=(vb (((decide ((j.toNat:Int)<65))||(decide ((j.toNat:Int)>90)))&&((decide ((j.toNat:Int)<97))||(decide ((j.toNat:Int)>122)))))) trivial rfl rfl (gW (c:=true) rfl) (mv (vb (((decide ((j.toNat:Int)<65))||(decide ((j.toNat:Int)>90)))&&((decide ((j.toNat:Int)<97))||(decide ((j.toNat:Int)>122))))) rfl rfl (RL.gs (c:=true) (b:=(((decide ((j.toNat:Int)<65))||(decide ((j.toNat:Int)>90)))&&((decide ((j.toNat:Int)<97))||(decide ((j.toNat:Int)>122))))) (v:=(.int .u8 (j.toNat:Int))) rfl rfl rfl (cN rfl (fun _=>rfl)) (RL.gs (c:=true) (b:=(((decide ((j.toNat:Int)<65))||(decide ((j.toNat:Int)>90)))&&((decide ((j.toNat:Int)<97))||(decide ((j.toNat:Int)>122))))) (v:=(vb (decide ((j.toNat:Int)<48)))) rfl rfl rfl (cV (bop:= .lss) (K:= .u8) (a:=(j.toNat:Int)) (b:=48) rfl (fun h=>by exact(cC h:cv (true&&((((decide ((j.toNat:Int)<65))||(decide ((j.toNat:Int)>90)))&&((decide ((j.toNat:Int)<97))||(decide ((j.toNat:Int)>122))))==true)) (.int .u8 (j.toNat:Int))= (.int .u8 (j.toNat:Int)))) (fun _=>rfl) rfl) ?_))))))))
   refine RL.gs (c:=true) (b:=(((decide ((j.toNat:Int)<65))||(decide ((j.toNat:Int)>90)))&&((decide ((j.toNat:Int)<97))||(decide ((j.toNat:Int)>122))))) (v:=(vb (decide ((j.toNat:Int)<48)))) rfl rfl rfl (cN rfl (fun h=>by exact(cC h:cv (true&&((((decide ((j.toNat:Int)<65))||(decide ((j.toNat:Int)>90)))&&((decide ((j.toNat:Int)<97))||(decide ((j.toNat:Int)>122))))==true)) (vb (decide ((j.toNat:Int)<48)))= (vb (decide ((j.toNat:Int)<48)))))) (RL.gs (c:=(true&&((((decide ((j.toNat:Int)<65))||(decide ((j.toNat:Int)>90)))&&((decide ((j.toNat:Int)<97))||(decide ((j.toNat:Int)>122))))==true))) (b:=(decide ((j.toNat:Int)<48))) (v:=(.int .u8 (j.toNat:Int))) rfl rfl rfl (cN rfl (fun _=>rfl)) (RL.gs (c:=(true&&((((decide ((j.toNat:Int)<65))||(decide ((j.toNat:Int)>90)))&&((decide ((j.toNat:Int)<97))||(decide ((j.toNat:Int)>122))))==true))) (b:=(decide ((j.toNat:Int)<48))) (v:=(vb (decide ((j.toNat:Int)>57)))) rfl rfl rfl (cV (bop:= .gtr) (K:= .u8) (a:=(j.toNat:Int)) (b:=57) rfl (fun h=>by exact(cC h:cv ((true&&((((decide ((j.toNat:Int)<65))||(decide ((j.toNat:Int)>90)))&&((decide ((j.toNat:Int)<97))||(decide ((j.toNat:Int)>122))))==true))&&((decide ((j.toNat:Int)<48))==false)) (.int .u8 (j.toNat:Int))= (.int .u8 (j.toNat:Int)))) (fun _=>rfl) rfl) (RL.gs (c:=true) (b:=(((decide ((j.toNat:Int)<65))||(decide ((j.toNat:Int)>90)))&&((decide ((j.toNat:Int)<97))||(decide ((j.toNat:Int)>122))))) (v:=(vb ((decide ((j.toNat:Int)<48))||(decide ((j.toNat:Int)>57))))) rfl rfl rfl (nv (b:=(decide ((j.toNat:Int)<48))) rfl (fun h=>by exact(cC h:cv (true&&((((decide ((j.toNat:Int)<65))||(decide ((j.toNat:Int)>90)))&&((decide ((j.toNat:Int)<97))||(decide ((j.toNat:Int)>122))))==true)) (vb (decide ((j.toNat:Int)<48)))= (vb (decide ((j.toNat:Int)<48))))) (fun h=>by exact ml (c:=(true&&((((decide ((j.toNat:Int)<65))||(decide ((j.toNat:Int)>90)))&&((decide ((j.toNat:Int)<97))||(decide ((j.toNat:Int)>122))))==true))) h)) (RL.pick (b:=(((decide ((j.toNat:Int)<65))||(decide ((j.toNat:Int)>90)))&&((decide ((j.toNat:Int)<97))||(decide ((j.toNat:Int)>122))))) (v:=(vb ((((decide ((j.toNat:Int)<65))||(decide ((j.toNat:Int)>90)))&&((decide ((j.toNat:Int)<97))||(decide ((j.toNat:Int)>122))))&&((decide ((j.toNat:Int)<48))||(decide ((j.toNat:Int)>57)))))) trivial rfl rfl (gW (c:=true) rfl) (mv (vb ((((decide ((j.toNat:Int)<65))||(decide ((j.toNat:Int)>90)))&&((decide ((j.toNat:Int)<97))||(decide ((j.toNat:Int)>122))))&&((decide ((j.toNat:Int)<48))||(decide ((j.toNat:Int)>57))))) rfl rfl (fH hj (fun aa hj=>?_) fun aa hj=>?_))))))
   rotate_left
   ·refine sk rfl (.inl (cb aa)) rfl (sk rfl (.inl (cb aa)) rfl (sk rfl (.inl (cb aa)) rfl (RL.pick (b:=((((decide ((j.toNat:Int)<65))||(decide ((j.toNat:Int)>90)))&&((decide ((j.toNat:Int)<97))||(decide ((j.toNat:Int)>122))))&&((decide ((j.toNat:Int)<48))||(decide ((j.toNat:Int)>57))))) (v:=(vb false)) trivial rfl rfl (by rw [aa];rfl) (RL.nil ?_))))
    obtain rfl:=oi hj
    exact⟨rfl,(ag zr),hw.pk 0 [] zr⟩
   refine RL.move (v:=(.int .u8 (j.toNat:Int))) (cg aa) zr zr ?_
   obtain⟨ae,ah,hj⟩:=bd hj
   refine RL.call (cg aa) zr Es [(str ⟨[95,43,45,35]⟩),(.int .u8 (j.toNat:Int))] zr (aF (mZ N (p0:=⟨[95,43,45,35]⟩) (p1:=(j.toNat:Int)) hw ah) ?_)
   rintro _ w ⟨rfl,hw⟩
   refine RL.iO (a:=ae) (b:=0) (cg aa) rfl rfl rfl rfl (RL.pick (b:=((((decide ((j.toNat:Int)<65))||(decide ((j.toNat:Int)>90)))&&((decide ((j.toNat:Int)<97))||(decide ((j.toNat:Int)>122))))&&((decide ((j.toNat:Int)<48))||(decide ((j.toNat:Int)>57))))) (v:=(vb (decide (ae<0)))) trivial rfl rfl (by rw [aa];rfl) (RL.nil ?_))
   obtain rfl:=oi hj
   exact⟨rfl,(ag zr),hw.pk 0 [] zr⟩
  rintro σ w ⟨ha,hw⟩
  obtain⟨τ,rfl⟩:=ha.aO
  refine aG (eI hb zr (fun hc hb=>?_) fun hc hb=>?_)
  rotate_left
  ·refine RC.skip (bJ (aG (RC.region (RL.inc zt zr hk hm zr zr (mv (vi ((o+1:Nat):Int)) zr zr (RL.nil ?_))))))
   obtain rfl:=oi hb
   exact⟨rfl,(ag zr),hw.pk 0 [] zr⟩
  refine RC.sr (aM (vb false) zr zr (RL.nt (RC.rb (bL ?_))))
  obtain rfl:=oi hb
  exact⟨rfl,bQ zr zr ⟨rfl,hw.drop 0 zr⟩⟩
 ·intro r σ w e hK
  subst e
  refine bL ?_
  obtain rfl:=oi hb
  exact hK
 intro ab σ w e hJ
 subst e
 rw [Fo.eT] at hb
 obtain⟨ha,hw⟩:=hJ
 obtain⟨τ,rfl⟩:=ha.aO
 refine aG (RC.sr (mv (str p0) rfl rfl (RL.lens (s:=p0) trivial rfl rfl v5 (ic ((p0.bM.length:Int)) 1 rfl rfl rfl rfl (mv (vb (decide ((p0.bM.length:Int)≥1))) rfl rfl (RL.gs (c:=true) (b:=(decide ((p0.bM.length:Int)≥1))) (v:=(str p0)) rfl rfl rfl (cN rfl (fun _=>rfl)) (RL.gs (c:=true) (b:=(decide ((p0.bM.length:Int)≥1))) (v:=(vi (p0.bM.length:Int))) rfl rfl rfl (AY (s:=p0) rfl (fun h=>by exact(cC h:cv (true&&((decide ((p0.bM.length:Int)≥1))==true)) (str p0)= (str p0))) v5) (RL.gs (c:=true) (b:=(decide ((p0.bM.length:Int)≥1))) (v:=(vb (decide ((p0.bM.length:Int)≤40)))) rfl rfl rfl (cV (bop:= .leq) (K:= .i64) (a:=(p0.bM.length:Int)) (b:=40) rfl (fun h=>by exact(cC h:cv (true&&((decide ((p0.bM.length:Int)≥1))==true)) (vi (p0.bM.length:Int))= (vi (p0.bM.length:Int)))) (fun _=>rfl) rfl) ?_))))))))
 refine RL.pick (b:=(decide ((p0.bM.length:Int)≥1))) (v:=(vb ((decide ((p0.bM.length:Int)≥1))&&(decide ((p0.bM.length:Int)≤40))))) zt zr zr (gW (c:=true) zr) (aM (vb ((decide ((p0.bM.length:Int)≥1))&&(decide ((p0.bM.length:Int)≤40)))) zr zr (RL.nt (RC.ret ?_)))
 obtain rfl:=oi hb
 exact bQ zr zr ⟨rfl,hw.drop 0 zr⟩
def nY (E:World) (Γ:List HP) (res:Bool) (v:Value) (w:World):Prop:=v= (vb res)∧Holds E w Γ
theorem m0 (N:Nat) {E w:World} {Γ:List HP} {p0:bS} {res:Bool} (hw:Holds E w Γ) (hb:dU N p0=some res):
    Calls Tryz.prog 68 [(str p0)].toArray w (fw (nY E Γ res)):=by
 unfold dU at hb
 refine enter Tryz.func68 zr zr (Nat.le_of_ble_eq_true zr) (RC.sr (aM (vb false) zr zr (RL.ns (mv (str p0) zr zr ?_))))
 obtain⟨j,o,hb⟩:=bd hb
 refine RL.call zt zr C8 [(str p0)] zr (aF (kW N (p0:=p0) hw o) ?_)
 rintro _ w ⟨rfl,hw⟩
 refine RL.not (b:=j) zt zr zr (aM (vb (!j)) zr zr (RL.nt (RC.ret ?_)))
 obtain rfl:=oi hb
 exact bQ zr zr ⟨rfl,hw.drop 0 zr⟩
def qJ (E:World) (Γ:List HP) (res:Bool) (v:Value) (w:World):Prop:=v= (vb res)∧Holds E w Γ
theorem pE (N:Nat) {E w:World} {Γ:List HP} {p0:bS} {res:Bool} (hw:Holds E w Γ) (hb:g8 N p0=some res):
    Calls Tryz.prog 42 [(str p0)].toArray w (fw (qJ E Γ res)):=by
 unfold g8 at hb
 refine enter Tryz.func42 zr zr (Nat.le_of_ble_eq_true zr) (RC.sr (aM (vb false) zr zr (RL.nq ?_)))
 obtain⟨o,hj,hb⟩:=bd hb
 refine RC.jn (fun(o:Bool) (σ:Nat→Value) (w:World)=>agree σ [(2,(vb o))]∧Holds E w ([]++Γ)) o ?_ ?_
 ·refine RC.region (mv (str p0) zr zr (RL.lens (s:=p0) zt zr zr v5 (ic ((p0.bM.length:Int)) 200 zr zr zr zr (mv (vb (decide ((p0.bM.length:Int)≤200))) zr zr (fH hj (fun j hj=>?_) fun j hj=>?_)))))
  rotate_left
  ·refine sk rfl (.inl (cb j)) rfl (sk rfl (.inl (cb j)) rfl (sk rfl (.inl (cb j)) rfl (sk rfl (.inl (cb j)) rfl (RL.pick (b:=(decide ((p0.bM.length:Int)≤200))) (v:=(vb false)) trivial rfl rfl (by rw [j];rfl) (aM (vb false) rfl rfl (RL.nil ?_))))))
   obtain rfl:=oi hj
   exact⟨rfl,⟨rfl,zt⟩,hw.pk 0 [] zr⟩
  refine RL.move (v:=(str p0)) (cg j) zr zr ?_
  obtain⟨af,ab,hj⟩:=bd hj
  refine RL.call (cg j) zr Ep [(str p0),(str ⟨[47]⟩)] zr (aF (qH N (p0:=p0) (p1:=⟨[47]⟩) hw ab) ?_)
  rintro ad w hw
  have hw:=hw.freeze (i:=0) rfl
  obtain⟨aa,ae,hj⟩:=bd hj
  refine RL.call (cg j) rfl Eu [ad,(.func (.func 68) #[] #[])] rfl (aF (jJ N (i0:=0) hw rfl ⟨68,[],rfl,Et,fun w Γl v y0 r i hw hi hr=>by obtain rfl:=hw.wT (γ:=bS) hi;exact aF (m0 N (p0:=y0) hw hr) fun _ _ h=>h⟩ ae) ?_)
  rintro _ w ⟨rfl,hw⟩
  refine RL.not (b:=aa) (cg j) rfl rfl (RL.pick (b:=(decide ((p0.bM.length:Int)≤200))) (v:=(vb (!aa))) trivial rfl rfl (by rw [j];rfl) (aM (vb (!aa)) rfl rfl (RL.nil ?_)))
  obtain rfl:=oi hj
  exact⟨rfl,⟨rfl,zt⟩,hw.pk 1 [] zr⟩
 rintro σ w ⟨ha,hw⟩
 obtain⟨τ,rfl⟩:=ha.aO
 refine aG (RC.ret ?_)
 obtain rfl:=oi hb
 exact bQ zr zr ⟨rfl,hw.drop 0 zr⟩
def sA (E:World) (Γ:List HP) (res:fC) (v:Value) (w:World):Prop:=Holds E w ([rd v res]++Γ)
theorem jX (N:Nat) {E w:World} {Γ:List HP} {i0:Nat} {v0:Value} {p0:cT} {res:fC} (hw:Holds E w Γ) (h0:Γ[i0]? =some (rd v0 p0)) (hb:ik N p0=some res):
    Calls Tryz.prog 45 [v0].toArray w (fw (sA E Γ res)):=by
 unfold ik at hb
 refine enter Tryz.func45 zr zr (Nat.le_of_ble_eq_true zr) ?_
 have hw:=hw.dup (i:=i0+0) h0
 refine RC.sr (RL.dN (i:=0) (v:=v0) zt zr hw zr zr fun o w hw=>(RL.alloc zt zr hw C9.z fun aa w hw=>(RL.ns (RL.bF zt zr zr zW (RL.aL (i:=1) (f:=(fun x=>x.Part)) zt zr hw zr zr tW zX (RL.bF zt zr zr zY (RL.aL (i:=1) (f:=(fun x=>x.fC)) zt zr hw zr zr tX zX ?_)))))))
 have hw:=hw.sc (γ:=bS) p0.Part
 have hw:=hw.sc (γ:=bS) p0.fC
 refine RL.build (y:=(⟨p0.Part,p0.fC⟩:fC)) trivial rfl hw [(0,(str p0.Part)),(1,(str p0.fC))] rfl Ew rfl (fun M hs g=>by have h:=CQ M;exact cB.cons (f:=fun(x:fC) y=>{x with Part:=y}) rfl h zM (by decide) (g.sat 1 _ rfl).1 fun _ h=>cB.cons (f:=fun(x:fC) y=>{x with fC:=y}) rfl h zN (by decide) (g.sat 0 _ rfl).1 fun _ h=>cB.nil h) fun ab hw=>(RL.bC (i:=3) (j:=0) trivial hw rfl rfl rfl rfl Da rfl fun w hw=>(RL.nt (RC.ret ?_)))
 obtain rfl:=oi hb
 exact A1 (i:=3) zr hw zr zr Da fun ad hw=>(hw.pk 7 [0] zr)
def lQ (E:World) (Γ:List HP) (res:Int) (v:Value) (w:World):Prop:=v= (vi res)∧Holds E w Γ
theorem lu (N:Nat) {E w:World} {Γ:List HP} {p0:bS} {p1:bS} {res:Int} (hw:Holds E w Γ) (hb:gL N p0 p1=some res):
    Calls Tryz.prog 99 [(str p0),(str p1)].toArray w (fw (lQ E Γ res)):=by
 unfold gL at hb
 refine enter Tryz.func99 zr zr (Nat.le_of_ble_eq_true zr) (RC.sr (aM (vi 0) zr zr (RL.ns (mv (str p0) zr zr (mv (str p1) zr zr (RL.rZ (v:=(vi (Lib.compareBytes p0.bM p1.bM))) zt zr [(str p0),(str p1)] zr (zG p0 p1 w) (aM (vi (Lib.compareBytes p0.bM p1.bM)) zr zr (RL.nt ?_))))))))
 refine RC.ret ?_
 obtain rfl:=oi hb
 exact bQ zr zr ⟨rfl,hw.drop 0 zr⟩
def pF (E:World) (Γ:List HP) (res:Int) (v:Value) (w:World):Prop:=v= (vi res)∧Holds E w Γ
theorem kA (N:Nat) {E w:World} {Γ:List HP} {p0:bS} {p1:bS} {res:Int} (hw:Holds E w Γ) (hb:iL N p0 p1=some res):
    Calls Tryz.prog 70 [(str p0),(str p1)].toArray w (fw (pF E Γ res)):=by
 unfold iL at hb
 refine enter Tryz.func70 zr zr (Nat.le_of_ble_eq_true zr) (RC.sr (aM (vi 0) zr zr (RL.ns (mv (str p0) zr zr (mv (str p1) zr zr ?_)))))
 obtain⟨j,o,hb⟩:=bd hb
 refine RL.call zt zr Ex [(str p0),(str p1)] zr (aF (lu N (p0:=p0) (p1:=p1) hw o) ?_)
 rintro _ w ⟨rfl,hw⟩
 refine aM (vi j) zr zr (RL.nt (RC.ret ?_))
 obtain rfl:=oi hb
 exact bQ zr zr ⟨rfl,hw.drop 0 zr⟩
end Go.Gk
