/-
  Printed texts: Go functions as plain functions, and that they are. No statement of the seed is proved here.
-/
import Derived.Test.YtgehimfkgpbooaaGreatDoorG1
import Derived.Test.YtgehimfkgpbooaaGreatDoorG6
import Derived.Test.YtgehimfkgpbooaaGreatDoorG7
import Derived.Test.YtgehimfkgpbooaaGreatDoorA2
set_option linter.unusedVariables false
set_option linter.unusedSimpArgs false
set_option linter.unusedSectionVars false
set_option maxRecDepth 100000
set_option maxHeartbeats 4000000
namespace Go.Gk
open Go Go.Proofs
variable (N:Nat) {E w:World} {b0 i0 i1:Nat} {p1 res:Int} {v0 v0_0 v0_1 v0_2 v0_3 v0_4 v0_5 v0_6 v0_7 v1 v2:Value} {Γ:List HP}
def kD (E:World) (Γ:List HP) (r:Int) (σ:Nat->Value) (w:World):Prop:=lZ bM 72 Tryz.f13 (aW E Γ r) .ret σ w
theorem mP {p0:ld} (hw:Holds E w Γ) (h0:Γ[i0]? =some (rd v0 p0)) (hb:dB N p0=some res):
    Calls bM 13 [v0].toArray w (gL (aW E Γ res)):=by
 unfold dB at hb
 refine enter Tryz.func13 zr zr ?_
 have hw:=hw.dup (i0+0) h0
 refine RC.sr (RL.dJ 0 v0 hw zr fun ab w hw=>?_)
 have hw:=hw.lE (i:=0) rfl
 refine aQ (vi 0) (RL.nq (RC.sr (RL.bL 0 p0 hw tx fun aj hw=>?_)))
 obtain⟨ae,ak,hb⟩:=bd hb
 refine RL.call zt zr Mb [aj] zr (aD (pM N (i0:=0) hw zr ak) ?_)
 rintro _ w ⟨rfl,hw⟩
 refine aQ (vi ae) (RL.ns (mv (vi ae) (ic ae 0 (RL.nt (dT hb (fun hc hb=>?_) fun hc hb=>?_)))))
 ·refine RC.sr (mv (vi ae) (aQ (vi ae) (RL.nt (RC.rt ?_))))
  obtain rfl:=oi hb
  exact bX ⟨rfl,hw.drop 3⟩
 refine RC.ss (RC.sr (aQ (vi 0) (RL.nt ?_)))
 obtain⟨bc,hN,hb⟩:=bd hb
 refine RC.iter (fun(aa:Int)=>SH E Γ [(1,vp ab 0),(4,vi aa)] [pt (vp ab 0) p0]) (fun(aa:Int)=>SH E Γ [(1,vp ab 0)] [pt (vp ab 0) p0]) (kD E Γ) hN ?_ ?_ ?_ ?_
 ·exact hw.sp 3 [1]
 ·rintro aa fl _ w ⟨τ,rfl,hw⟩ hb
  refine RC.seq (RC.sr (mv (vi aa) (RL.dV 0 hw zr gC gk fun bf hw=>(RL.bL 0 p0.aO hw mT fun bg hw=>(RL.bC 0 p0.aO hw t3 (ic aa ((p0.aO.length:Int)) (RL.nt (dT hb (fun hc hb=>?_) fun hc hb=>?_))))))))
  rotate_left
  ·refine RC.ex ?_
   obtain rfl:=oi hb
   exact⟨rfl,hw.sp 3 [2]⟩
  refine RC.ss (RC.bs (aQ (vi 0) (RL.nt ?_)))
  obtain⟨bh,hN,hb⟩:=bd hb
  refine RC.iter (fun(ad:Int)=>SH E Γ [(1,vp ab 0),(4,vi aa),(5,vi ad)] [pt (vp ab 0) p0]) (fun(ad:Int)=>SH E Γ [(1,vp ab 0),(4,vi aa)] [pt (vp ab 0) p0]) (kD E Γ) hN ?_ ?_ ?_ ?_
  ·exact hw.sp 3 [2]
  ·rintro ad fl _ w ⟨τ,rfl,hw⟩ hb
   refine RC.seq (RC.sr (mv (vi ad) (mv (vi aa) (ic ad aa (RL.nt (dT hb (fun hc hb=>?_) fun hc hb=>?_))))))
   rotate_left
   ·refine RC.ex ?_
    obtain rfl:=oi hb
    exact⟨rfl,hw.sp 1 [0]⟩
   refine RC.ss (RC.block (RC.seq ?_))
   obtain⟨ag,hj,hb⟩:=bd hb
   refine RC.jn (fun(ag:Bool)=>SH E Γ [(1,vp ab 0),(4,vi aa),(5,vi ad),(51,vb ag)] [pt (vp ab 0) p0]) ag ?_ ?_
   ·refine RC.vH mixed [0,0,0,0,0,0,0,0,0,0,2,0,0,0,0,0,0,2,1,1,1,1,1,2,2,0] [0,1,2,3,4,5,6,7,8,9,10,11,12,13,14,15,16,18,19,20,21,22,17,23,24,25] ?_
    have hw:=hw.drew
    refine DP.e0 zr (RL.dV 0 hw zr gC gk fun bj hw=>(aZ zr (RL.bL 0 p0.aO hw mT fun bk hw=>(aZ zr (mv (vi aa) (aZ zr ?_))))))
    obtain⟨al,an,hj⟩:=bd hj
    refine RL.bN 0 hw qc an fun bl hw=>(aZ zr (RL.bL 0 al hw lP fun ao hw=>(aZ zr (RL.dV 4 hw zr gC gk fun bm hw=>(aZ zr (RL.bL 0 p0.aO hw mT fun bn hw=>(aZ zr (mv (vi ad) ?_))))))))
    refine aZ zr ?_
    obtain⟨aq,ar,hj⟩:=bd hj
    refine RL.bN 0 hw qc ar fun bo hw=>(aZ zr (RL.bL 0 aq hw lP fun au hw=>(pz zr ?_)))
    obtain⟨av,aw,hj⟩:=bd hj
    refine RL.call zt zr Mc [ao,au] zr (aD (rU N (i0:=4) (i1:=0) hw zr zr aw) ?_)
    rintro _ w ⟨rfl,hw⟩
    refine tw zr (mv (vb av) (DP.d0 (fB hj (fun j hj=>?_) fun j hj=>?_)))
    rotate_left
    ·refine DP.e0 zr (bJ j (aZ zr (bJ j (aZ zr (bJ j (aZ zr (bJ j (aZ zr ?_))))))))
     refine bJ j (DP.d0 (DP.e1 undef zr (fun w=>bJ j DP.d1) (DP.e1 undef zr (fun w=>bJ j DP.d1) (DP.e1 undef zr (fun w=>bJ j DP.d1) (DP.e1 undef zr (fun w=>bJ j DP.d1) (DP.e1 undef zr (fun w=>bJ j DP.d1) (DP.e2 zr (bJ j ?_))))))))
     refine EM zr (bJ j (EM zr (bJ j (tw zr (fG j (vb false) (DP.d0 (DP.z ?_)))))))
     obtain rfl:=oi hj
     exact⟨rfl,hw.sp 9 [8]⟩
    refine DP.e0 zr (RL.dV (hg:=(cg j)) 8 hw zr gC gk fun bp hw=>(aZ zr (RL.bL (hg:=(cg j)) 0 p0.aO hw mT fun bq hw=>(aZ zr (RL.move (vi aa) (cg j) (aZ zr ?_))))))
    obtain⟨ax,ay,hj⟩:=bd hj
    refine RL.bN (hg:=(cg j)) 0 hw qc ay fun br hw=>(aZ zr (RL.bL (hg:=(cg j)) 0 ax hw lP fun az hw=>(DP.d0 (DP.BK 12 zr (cg j) hw zr gC gk fun bt hw=>(DP.yJ p0.aO 0 zr (cg j) hw mT fun bu a704 bw hw=>(DP.e1 (vi ad) zr (fun w=>RL.move (vi ad) (cg j) DP.d1) ?_))))))
    obtain⟨a0,a1,hj⟩:=bd hj
    refine DP.vI (hg:=(cg j)) 1 zr hw qc a1 fun bx hw=>(DP.yJ a0 0 zr (cg j) hw lP fun a2 a709 bz hw=>(DP.e2 zr ?_))
    obtain⟨b0,a3,hj⟩:=bd hj
    refine RL.call (cg j) zr Fy [az] zr (aD (fp N (i0:=6) hw zr a3) ?_)
    rintro a4 w hw
    refine DP.d2 (⟨⟨zt,hw.g8 4⟩,hw.g8 1⟩) (DP.e2 zr ?_)
    obtain⟨b1,a5,hj⟩:=bd hj
    refine RL.call (cg j) zr Fy [a2] zr (aD (fp N (i0:=2) hw zr a5) ?_)
    rintro a6 w hw
    refine DP.d2 (⟨⟨zt,hw.g8 5⟩,hw.g8 2⟩) (DP.e2 zr ?_)
    obtain⟨a7,a8,hj⟩:=bd hj
    refine RL.call (cg j) zr Md [a4,a6] zr (aD (rq N (i0:=1) (i1:=0) hw zr zr a8) ?_)
    rintro _ w ⟨rfl,hw⟩
    refine DP.d2 (⟨⟨zt,hw.g8 5⟩,hw.g8 2⟩) (DP.e0 zr (fG j (vb a7) (DP.d0 ?_)))
    have hw:=hw.pl 21 [0,1,3,4,6,7,8,9,10,11,12,13,14,15,16,17,18,19,20]
    refine DP.z ?_
    obtain rfl:=oi hj
    exact⟨rfl,hw.sp 19 [18]⟩
   rintro _ w ⟨τ,rfl,hw⟩
   refine aH (dT hb (fun hc hb=>?_) fun hc hb=>?_)
   ·refine RC.sr (aQ (vi 12) (RL.nt (RC.rb (bS ?_))))
    obtain rfl:=oi hb
    exact⟨rfl,bX ⟨rfl,hw.drop 1⟩⟩
   refine RC.skip (bO (aH (RC.region (mv (vi ad) (RL.fQ ad 1 (aQ (vi (IntKind.wrap .i64 (ad+1))) (RL.nil ?_)))))))
   obtain rfl:=oi hb
   exact⟨rfl,hw.sp 1 [0]⟩
  ·intro r σ w e hK
   subst e
   refine nX (bS ?_)
   obtain rfl:=oi hb
   exact⟨rfl,hK⟩
  rintro ad _ w rfl ⟨τ,rfl,hw⟩
  rw [Fo.dF] at hb
  refine bO (aH (RC.region (mv (vi aa) (RL.fQ aa 1 (aQ (vi (IntKind.wrap .i64 (aa+1))) (RL.nil ?_))))))
  obtain rfl:=oi hb
  exact⟨rfl,hw.sp 1 [0]⟩
 ·intro r σ w e hK
  subst e
  refine bS ?_
  obtain rfl:=oi hb
  exact hK
 rintro aa _ w rfl ⟨τ,rfl,hw⟩
 rw [Fo.dF] at hb
 refine aH (RC.sr (aQ (vi 0) (RL.nq (RC.sr (aQ (vi 0) (RL.nt ?_))))))
 obtain⟨b2,hN,hb⟩:=bd hb
 refine RC.iter (fun(o:Int×Int)=>SH E Γ [(1,vp ab 0),(6,vi o.1),(7,vi o.2)] [pt (vp ab 0) p0]) (fun(o:Int×Int)=>SH E Γ [(6,vi o.1)] [pt (vp ab 0) p0]) (kD E Γ) hN ?_ ?_ ?_ ?_
 ·exact hw.sp 1 [0]
 ·rintro o fl _ w ⟨τ,rfl,hw⟩ hb
  refine RC.seq (RC.sr (mv (vi o.2) (RL.dV 0 hw zr me iS fun b3 hw=>(RL.bL 0 p0.aJ hw oD fun b4 hw=>(RL.bC 0 p0.aJ hw pE (ic o.2 ((p0.aJ.length:Int)) (RL.nt (dT hb (fun hc hb=>?_) fun hc hb=>?_))))))))
  rotate_left
  ·refine RC.ex ?_
   obtain rfl:=oi hb
   exact⟨rfl,hw.sp 3 [2]⟩
  refine RC.ss (RC.bs (RL.bL 2 p0 hw tx fun a9 hw=>(mv (vi o.2) ?_)))
  obtain⟨ai,ba,hb⟩:=bd hb
  refine RL.call zt zr KI [a9,(vi o.2)] zr (aD (ml N (p1:=o.2) (i0:=0) hw zr ba) ?_)
  rintro af w hw
  refine aQ af (RL.nq (RC.sr (mv af (RL.fR 0 ai hw mS (ic ((ai.length:Int)) 2000 (RL.nt (dT hb (fun hc hb=>?_) fun hc hb=>?_)))))))
  ·refine RC.sr (aQ (vi 2) (RL.nt (RC.rt (nX (bS ?_)))))
   obtain rfl:=oi hb
   exact⟨rfl,bX ⟨rfl,hw.drop 5⟩⟩
  refine RC.sn (RC.region (mv (vi o.1) (mv af ?_)))
  have hw:=hw.freeze 0
  obtain⟨ah,bb,hb⟩:=bd hb
  refine RL.call zt zr KJ [af] zr (aD (mO N (i0:=0) hw zr bb) ?_)
  rintro b5 w hw
  refine RL.fR 0 ah hw pE (RL.fQ o.1 (ah.length:Int) (aQ (vi (IntKind.wrap .i64 (o.1+ (ah.length:Int)))) (RL.nil (bO (aH (RC.region (mv (vi o.2) (RL.fQ o.2 1 ?_))))))))
  refine aQ (vi (IntKind.wrap .i64 (o.2+1))) (RL.nil ?_)
  obtain rfl:=oi hb
  exact⟨rfl,hw.sp 6 [5]⟩
 ·intro r σ w e hK
  subst e
  refine bS ?_
  obtain rfl:=oi hb
  exact hK
 rintro o _ w rfl ⟨τ,rfl,hw⟩
 rw [Fo.dF] at hb
 refine aH (RC.seq (RC.sr (mv (vi o.1) (ic o.1 2000 (RL.nt (dT hb (fun hc hb=>?_) fun hc hb=>?_))))))
 ·refine RC.sr (aQ (vi 2) (RL.nt (RC.rt ?_)))
  obtain rfl:=oi hb
  exact bX ⟨rfl,hw.drop 1⟩
 refine RC.sx (aQ (vi 0) (RL.nt (RC.ret ?_)))
 obtain rfl:=oi hb
 exact bX ⟨rfl,hw.drop 1⟩
def uu (E:World) (Γ:List HP) (r:Bool) (σ:Nat->Value) (w:World):Prop:=lZ bM 62 Tryz.f32 (aV E Γ r) .ret σ w
theorem tJ {p0: (List aI)} {p1:aI} {res:Bool} (hw:Holds E w Γ) (h0:Γ[i0]? =some (rd v0 p0)) (h1:Γ[i1]? =some (rd v1 p1)) (hb:iX N p0 p1=some res):
    Calls bM 32 [v0,v1].toArray w (gL (aV E Γ res)):=by
 unfold iX at hb
 refine enter Tryz.func32 zr zr ?_
 have hw:=(hw.dup (i0+0) h0).dup (i1+1) h1
 refine RC.sr (RL.dJ 0 v1 hw zr fun ae w hw=>?_)
 refine aQ (vb false) (RL.nq (RC.sr (aQ (vi 0) (RL.nt ?_))))
 obtain⟨aj,hN,hb⟩:=bd hb
 refine RC.iter (fun(ad:Int)=>SH E Γ [(0,v0),(3,vp ae 0),(5,vi ad)] [rd v0 p0,bx 59 ae p1]) (fun(ad:Int)=>SH E Γ [] [rd v0 p0,bx 59 ae p1]) (uu E Γ) hN ?_ ?_ ?_ ?_
 ·exact hw.sp 3 [2,0]
 ·rintro ad fl _ w ⟨τ,rfl,hw⟩ hb
  refine RC.seq (RC.sr (mv (vi ad) (mv v0 (RL.bC 0 p0 hw mS (ic ad ((p0.length:Int)) (RL.nt (dT hb (fun hc hb=>?_) fun hc hb=>?_)))))))
  rotate_left
  ·refine RC.ex ?_
   obtain rfl:=oi hb
   exact⟨rfl,hw.sp 2 [0,1]⟩
  refine RC.ss (RC.block (RC.seq (RC.yI mixed ?_)))
  have hw:=hw.drew
  refine RO.go (mv v0 (RO.nx (mv (vi ad) (RO.nx ?_))))
  obtain⟨j,af,hb⟩:=bd hb
  refine RL.bN 0 hw iY af fun ak hw=>(RO.nx (RL.dV 0 hw zr iZ eC fun al hw=>(RO.nx (RL.bF j.X1 0 hw cJ (RO.nx (RL.aX zr iZ (RO.nx (RL.aM 3 hw zr eC cJ ?_))))))))
  refine RO.nx (RL.min j.X1 p1.X1 (RO.nx (mv v0 (RO.nx (mv (vi ad) (RO.nx ?_))))))
  obtain⟨o,ag,hb⟩:=bd hb
  refine RL.bN 2 hw iY ag fun an hw=>(RO.nx (RL.dV 0 hw zr g9 dL fun ao hw=>(RO.nx (RL.bF o.X0 0 hw cJ (RO.nx (RL.aX zr g9 (RO.nx (RL.aM 5 hw zr dL cJ ?_))))))))
  refine RO.nx (RL.max o.X0 p1.X0 (RO.nx (RL.fQ (if p1.X1<j.X1 then p1.X1 else j.X1) (if o.X0<p1.X0 then p1.X0 else o.X0) (RO.nx (aQ (vi (IntKind.wrap .i64 ((if p1.X1<j.X1 then p1.X1 else j.X1) - (if o.X0<p1.X0 then p1.X0 else o.X0)))) (RO.last (aH (RC.seq ?_))))))))
  refine RC.yI mixed ?_
  have hw:=hw.drew
  refine RO.go (mv v0 (RO.nx (mv (vi ad) (RO.nx ?_))))
  obtain⟨aa,ah,hb⟩:=bd hb
  refine RL.bN 4 hw iY ah fun aq hw=>(RO.nx (RL.dV 0 hw zr ka fo fun ar hw=>(RO.nx (RL.bF aa.Y1 0 hw cJ (RO.nx (RL.aX zr ka (RO.nx (RL.aM 7 hw zr fo cJ ?_))))))))
  refine RO.nx (RL.min aa.Y1 p1.Y1 (RO.nx (mv v0 (RO.nx (mv (vi ad) (RO.nx ?_))))))
  obtain⟨ab,ai,hb⟩:=bd hb
  refine RL.bN 6 hw iY ai fun au hw=>(RO.nx (RL.dV 0 hw zr gR dG fun av hw=>(RO.nx (RL.bF ab.Y0 0 hw cJ (RO.nx (RL.aX zr gR (RO.nx (RL.aM 9 hw zr dG cJ ?_))))))))
  refine RO.nx (RL.max ab.Y0 p1.Y0 (RO.nx (RL.fQ (if p1.Y1<aa.Y1 then p1.Y1 else aa.Y1) (if ab.Y0<p1.Y0 then p1.Y0 else ab.Y0) (RO.nx (aQ (vi (IntKind.wrap .i64 ((if p1.Y1<aa.Y1 then p1.Y1 else aa.Y1) - (if ab.Y0<p1.Y0 then p1.Y0 else ab.Y0)))) (RO.last (aH (RC.sr ?_))))))))
  refine mv (vi (IntKind.wrap .i64 ((if p1.X1<j.X1 then p1.X1 else j.X1) - (if o.X0<p1.X0 then p1.X0 else o.X0)))) (ic ((IntKind.wrap .i64 ((if p1.X1<j.X1 then p1.X1 else j.X1) - (if o.X0<p1.X0 then p1.X0 else o.X0)))) 0 (mv (vb (decide ((IntKind.wrap .i64 ((if p1.X1<j.X1 then p1.X1 else j.X1) - (if o.X0<p1.X0 then p1.X0 else o.X0)))>0))) (RL.gs true (decide ((IntKind.wrap .i64 ((if p1.X1<j.X1 then p1.X1 else j.X1) - (if o.X0<p1.X0 then p1.X0 else o.X0)))>0)) (vi (IntKind.wrap .i64 ((if p1.Y1<aa.Y1 then p1.Y1 else aa.Y1) - (if ab.Y0<p1.Y0 then p1.Y0 else ab.Y0)))) rfl rfl rfl cF (RL.gs true (decide ((IntKind.wrap .i64 ((if p1.X1<j.X1 then p1.X1 else j.X1) - (if o.X0<p1.X0 then p1.X0 else o.X0)))>0)) (vb ((IntKind.wrap .i64 ((if p1.Y1<aa.Y1 then p1.Y1 else aa.Y1) - (if ab.Y0<p1.Y0 then p1.Y0 else ab.Y0)))==0)) rfl rfl rfl (dI .eql .i64 (IntKind.wrap .i64 ((if p1.Y1<aa.Y1 then p1.Y1 else aa.Y1) - (if ab.Y0<p1.Y0 then p1.Y0 else ab.Y0))) 0 rfl (fun h=>by exact(cI h:cv (true&&((decide ((IntKind.wrap .i64 ((if p1.X1<j.X1 then p1.X1 else j.X1) - (if o.X0<p1.X0 then p1.X0 else o.X0)))>0))==true)) (vi (IntKind.wrap .i64 ((if p1.Y1<aa.Y1 then p1.Y1 else aa.Y1) - (if ab.Y0<p1.Y0 then p1.Y0 else ab.Y0))))= (vi (IntKind.wrap .i64 ((if p1.Y1<aa.Y1 then p1.Y1 else aa.Y1) - (if ab.Y0<p1.Y0 then p1.Y0 else ab.Y0)))))) (fun _=>rfl) rfl) (RL.pick (decide ((IntKind.wrap .i64 ((if p1.X1<j.X1 then p1.X1 else j.X1) - (if o.X0<p1.X0 then p1.X0 else o.X0)))>0)) (vb ((decide ((IntKind.wrap .i64 ((if p1.X1<j.X1 then p1.X1 else j.X1) - (if o.X0<p1.X0 then p1.X0 else o.X0)))>0))&&((IntKind.wrap .i64 ((if p1.Y1<aa.Y1 then p1.Y1 else aa.Y1) - (if ab.Y0<p1.Y0 then p1.Y0 else ab.Y0)))==0))) (fZ true rfl) (mv (vb ((decide ((IntKind.wrap .i64 ((if p1.X1<j.X1 then p1.X1 else j.X1) - (if o.X0<p1.X0 then p1.X0 else o.X0)))>0))&&((IntKind.wrap .i64 ((if p1.Y1<aa.Y1 then p1.Y1 else aa.Y1) - (if ab.Y0<p1.Y0 then p1.Y0 else ab.Y0)))==0))) (RL.gs true ((decide ((IntKind.wrap .i64 ((if p1.X1<j.X1 then p1.X1 else j.X1) - (if o.X0<p1.X0 then p1.X0 else o.X0)))>0))&&((IntKind.wrap .i64 ((if p1.Y1<aa.Y1 then p1.Y1 else aa.Y1) - (if ab.Y0<p1.Y0 then p1.Y0 else ab.Y0)))==0)) (vi (IntKind.wrap .i64 ((if p1.X1<j.X1 then p1.X1 else j.X1) - (if o.X0<p1.X0 then p1.X0 else o.X0)))) rfl rfl rfl cF (RL.gs true ((decide ((IntKind.wrap .i64 ((if p1.X1<j.X1 then p1.X1 else j.X1) - (if o.X0<p1.X0 then p1.X0 else o.X0)))>0))&&((IntKind.wrap .i64 ((if p1.Y1<aa.Y1 then p1.Y1 else aa.Y1) - (if ab.Y0<p1.Y0 then p1.Y0 else ab.Y0)))==0)) (vb ((IntKind.wrap .i64 ((if p1.X1<j.X1 then p1.X1 else j.X1) - (if o.X0<p1.X0 then p1.X0 else o.X0)))==0)) rfl rfl rfl (dI .eql .i64 (IntKind.wrap .i64 ((if p1.X1<j.X1 then p1.X1 else j.X1) - (if o.X0<p1.X0 then p1.X0 else o.X0))) 0 rfl (fun h=>by exact(cI h:cv (true&&(((decide ((IntKind.wrap .i64 ((if p1.X1<j.X1 then p1.X1 else j.X1) - (if o.X0<p1.X0 then p1.X0 else o.X0)))>0))&&((IntKind.wrap .i64 ((if p1.Y1<aa.Y1 then p1.Y1 else aa.Y1) - (if ab.Y0<p1.Y0 then p1.Y0 else ab.Y0)))==0))==false)) (vi (IntKind.wrap .i64 ((if p1.X1<j.X1 then p1.X1 else j.X1) - (if o.X0<p1.X0 then p1.X0 else o.X0))))= (vi (IntKind.wrap .i64 ((if p1.X1<j.X1 then p1.X1 else j.X1) - (if o.X0<p1.X0 then p1.X0 else o.X0)))))) (fun _=>rfl) rfl) ?_))))))))
  refine RL.gs true ((decide ((IntKind.wrap .i64 ((if p1.X1<j.X1 then p1.X1 else j.X1) - (if o.X0<p1.X0 then p1.X0 else o.X0)))>0))&&((IntKind.wrap .i64 ((if p1.Y1<aa.Y1 then p1.Y1 else aa.Y1) - (if ab.Y0<p1.Y0 then p1.Y0 else ab.Y0)))==0)) (vb ((IntKind.wrap .i64 ((if p1.X1<j.X1 then p1.X1 else j.X1) - (if o.X0<p1.X0 then p1.X0 else o.X0)))==0)) rfl rfl rfl (cF (hx:=fun h=>by exact(cI h:cv (true&&(((decide ((IntKind.wrap .i64 ((if p1.X1<j.X1 then p1.X1 else j.X1) - (if o.X0<p1.X0 then p1.X0 else o.X0)))>0))&&((IntKind.wrap .i64 ((if p1.Y1<aa.Y1 then p1.Y1 else aa.Y1) - (if ab.Y0<p1.Y0 then p1.Y0 else ab.Y0)))==0))==false)) (vb ((IntKind.wrap .i64 ((if p1.X1<j.X1 then p1.X1 else j.X1) - (if o.X0<p1.X0 then p1.X0 else o.X0)))==0))= (vb ((IntKind.wrap .i64 ((if p1.X1<j.X1 then p1.X1 else j.X1) - (if o.X0<p1.X0 then p1.X0 else o.X0)))==0))))) (RL.gs (true&&(((decide ((IntKind.wrap .i64 ((if p1.X1<j.X1 then p1.X1 else j.X1) - (if o.X0<p1.X0 then p1.X0 else o.X0)))>0))&&((IntKind.wrap .i64 ((if p1.Y1<aa.Y1 then p1.Y1 else aa.Y1) - (if ab.Y0<p1.Y0 then p1.Y0 else ab.Y0)))==0))==false)) ((IntKind.wrap .i64 ((if p1.X1<j.X1 then p1.X1 else j.X1) - (if o.X0<p1.X0 then p1.X0 else o.X0)))==0) (vi (IntKind.wrap .i64 ((if p1.Y1<aa.Y1 then p1.Y1 else aa.Y1) - (if ab.Y0<p1.Y0 then p1.Y0 else ab.Y0)))) rfl rfl rfl cF (RL.gs (true&&(((decide ((IntKind.wrap .i64 ((if p1.X1<j.X1 then p1.X1 else j.X1) - (if o.X0<p1.X0 then p1.X0 else o.X0)))>0))&&((IntKind.wrap .i64 ((if p1.Y1<aa.Y1 then p1.Y1 else aa.Y1) - (if ab.Y0<p1.Y0 then p1.Y0 else ab.Y0)))==0))==false)) ((IntKind.wrap .i64 ((if p1.X1<j.X1 then p1.X1 else j.X1) - (if o.X0<p1.X0 then p1.X0 else o.X0)))==0) (vb (decide ((IntKind.wrap .i64 ((if p1.Y1<aa.Y1 then p1.Y1 else aa.Y1) - (if ab.Y0<p1.Y0 then p1.Y0 else ab.Y0)))>0))) rfl rfl rfl (dI .gtr .i64 (IntKind.wrap .i64 ((if p1.Y1<aa.Y1 then p1.Y1 else aa.Y1) - (if ab.Y0<p1.Y0 then p1.Y0 else ab.Y0))) 0 rfl (fun h=>by exact(cI h:cv ((true&&(((decide ((IntKind.wrap .i64 ((if p1.X1<j.X1 then p1.X1 else j.X1) - (if o.X0<p1.X0 then p1.X0 else o.X0)))>0))&&((IntKind.wrap .i64 ((if p1.Y1<aa.Y1 then p1.Y1 else aa.Y1) - (if ab.Y0<p1.Y0 then p1.Y0 else ab.Y0)))==0))==false))&&(((IntKind.wrap .i64 ((if p1.X1<j.X1 then p1.X1 else j.X1) - (if o.X0<p1.X0 then p1.X0 else o.X0)))==0)==true)) (vi (IntKind.wrap .i64 ((if p1.Y1<aa.Y1 then p1.Y1 else aa.Y1) - (if ab.Y0<p1.Y0 then p1.Y0 else ab.Y0))))= (vi (IntKind.wrap .i64 ((if p1.Y1<aa.Y1 then p1.Y1 else aa.Y1) - (if ab.Y0<p1.Y0 then p1.Y0 else ab.Y0)))))) (fun _=>rfl) rfl) (RL.gs true ((decide ((IntKind.wrap .i64 ((if p1.X1<j.X1 then p1.X1 else j.X1) - (if o.X0<p1.X0 then p1.X0 else o.X0)))>0))&&((IntKind.wrap .i64 ((if p1.Y1<aa.Y1 then p1.Y1 else aa.Y1) - (if ab.Y0<p1.Y0 then p1.Y0 else ab.Y0)))==0)) (vb (((IntKind.wrap .i64 ((if p1.X1<j.X1 then p1.X1 else j.X1) - (if o.X0<p1.X0 then p1.X0 else o.X0)))==0)&&(decide ((IntKind.wrap .i64 ((if p1.Y1<aa.Y1 then p1.Y1 else aa.Y1) - (if ab.Y0<p1.Y0 then p1.Y0 else ab.Y0)))>0)))) rfl rfl rfl (kj ((IntKind.wrap .i64 ((if p1.X1<j.X1 then p1.X1 else j.X1) - (if o.X0<p1.X0 then p1.X0 else o.X0)))==0) rfl (fun h=>by exact(cI h:cv (true&&(((decide ((IntKind.wrap .i64 ((if p1.X1<j.X1 then p1.X1 else j.X1) - (if o.X0<p1.X0 then p1.X0 else o.X0)))>0))&&((IntKind.wrap .i64 ((if p1.Y1<aa.Y1 then p1.Y1 else aa.Y1) - (if ab.Y0<p1.Y0 then p1.Y0 else ab.Y0)))==0))==false)) (vb ((IntKind.wrap .i64 ((if p1.X1<j.X1 then p1.X1 else j.X1) - (if o.X0<p1.X0 then p1.X0 else o.X0)))==0))= (vb ((IntKind.wrap .i64 ((if p1.X1<j.X1 then p1.X1 else j.X1) - (if o.X0<p1.X0 then p1.X0 else o.X0)))==0)))) (fun h=>by exact fZ (true&&(((decide ((IntKind.wrap .i64 ((if p1.X1<j.X1 then p1.X1 else j.X1) - (if o.X0<p1.X0 then p1.X0 else o.X0)))>0))&&((IntKind.wrap .i64 ((if p1.Y1<aa.Y1 then p1.Y1 else aa.Y1) - (if ab.Y0<p1.Y0 then p1.Y0 else ab.Y0)))==0))==false)) h)) (RL.pick ((decide ((IntKind.wrap .i64 ((if p1.X1<j.X1 then p1.X1 else j.X1) - (if o.X0<p1.X0 then p1.X0 else o.X0)))>0))&&((IntKind.wrap .i64 ((if p1.Y1<aa.Y1 then p1.Y1 else aa.Y1) - (if ab.Y0<p1.Y0 then p1.Y0 else ab.Y0)))==0)) (vb (((decide ((IntKind.wrap .i64 ((if p1.X1<j.X1 then p1.X1 else j.X1) - (if o.X0<p1.X0 then p1.X0 else o.X0)))>0))&&((IntKind.wrap .i64 ((if p1.Y1<aa.Y1 then p1.Y1 else aa.Y1) - (if ab.Y0<p1.Y0 then p1.Y0 else ab.Y0)))==0))||(((IntKind.wrap .i64 ((if p1.X1<j.X1 then p1.X1 else j.X1) - (if o.X0<p1.X0 then p1.X0 else o.X0)))==0)&&(decide ((IntKind.wrap .i64 ((if p1.Y1<aa.Y1 then p1.Y1 else aa.Y1) - (if ab.Y0<p1.Y0 then p1.Y0 else ab.Y0)))>0))))) (nD true) (RL.nt (dT hb (fun hc hb=>?_) fun hc hb=>?_))))))
  ·refine RC.sr (aQ (vb true) (RL.nt (RC.rb (bS ?_))))
   obtain rfl:=oi hb
   exact⟨rfl,bX ⟨rfl,hw.drop 10⟩⟩
  refine RC.skip (bO (aH (RC.region (mv (vi ad) (RL.fQ ad 1 (aQ (vi (IntKind.wrap .i64 (ad+1))) (RL.nil ?_)))))))
  obtain rfl:=oi hb
  exact⟨rfl,hw.sp 10 [8,9]⟩
 ·intro r σ w e hK
  subst e
  refine bS ?_
  obtain rfl:=oi hb
  exact hK
 rintro ad _ w rfl ⟨τ,rfl,hw⟩
 rw [Fo.dF] at hb
 refine aH (RC.sr (aQ (vb false) (RL.nt (RC.ret ?_))))
 obtain rfl:=oi hb
 exact bX ⟨rfl,hw.drop 2⟩
def qM (E:World) (Γ:List HP) (r:Bool) (σ:Nat->Value) (w:World):Prop:=lZ bM 18 Tryz.f100 (aV E Γ r) .ret σ w
theorem iJ {p0: (List Int)} {res:Bool} (hw:Holds E w Γ) (h0:Γ[i0]? =some (rd v0 p0)) (hb:cS N p0 p1=some res):
    Calls bM 100 [v0,(vi p1)].toArray w (gL (aV E Γ res)):=by
 unfold cS at hb
 refine enter Tryz.func100 zr zr ?_
 have hw:=hw.dup (i0+0) h0
 refine RC.sr (aQ (vb false) (RL.nq (RC.sr (aQ (vi 0) (RL.nt ?_)))))
 obtain⟨ab,hN,hb⟩:=bd hb
 refine RC.iter (fun(j:Int)=>SH E Γ [(0,v0),(1,vi p1),(5,vi j)] [rd v0 p0]) (fun(j:Int)=>SH E Γ [] [rd v0 p0]) (qM E Γ) hN ?_ ?_ ?_ ?_
 ·exact hw.sp 1 [0]
 ·rintro j fl _ w ⟨τ,rfl,hw⟩ hb
  refine RC.seq (RC.sr (mv (vi j) (mv v0 (RL.bC 0 p0 hw l4 (ic j ((p0.length:Int)) (RL.nt (dT hb (fun hc hb=>?_) fun hc hb=>?_)))))))
  rotate_left
  ·refine RC.ex ?_
   obtain rfl:=oi hb
   exact⟨rfl,hw.sp 1 [0]⟩
  refine RC.ss (RC.bs (mv v0 (mv (vi j) ?_)))
  obtain⟨o,aa,hb⟩:=bd hb
  refine RL.bN 0 hw eB aa fun ad hw=>(RL.bF o 0 hw cJ (mv (vi p1) (ic o p1 (RL.nt (dT hb (fun hc hb=>?_) fun hc hb=>?_)))))
  ·refine RC.sr (aQ (vb true) (RL.nt (RC.rb (bS ?_))))
   obtain rfl:=oi hb
   exact⟨rfl,bX ⟨rfl,hw.drop 2⟩⟩
  refine RC.skip (bO (aH (RC.region (mv (vi j) (RL.fQ j 1 (aQ (vi (IntKind.wrap .i64 (j+1))) (RL.nil ?_)))))))
  obtain rfl:=oi hb
  exact⟨rfl,hw.sp 2 [1]⟩
 ·intro r σ w e hK
  subst e
  refine bS ?_
  obtain rfl:=oi hb
  exact hK
 rintro j _ w rfl ⟨τ,rfl,hw⟩
 rw [Fo.dF] at hb
 refine aH (RC.sr (aQ (vb false) (RL.nt (RC.ret ?_))))
 obtain rfl:=oi hb
 exact bX ⟨rfl,hw.drop 1⟩
theorem nO {p0: (List Int)} {res: (List Int)} (hw:Holds E w Γ) (h0:Γ[i0]? =some (rd v0 p0)) (hb:iv N p0 p1=some res):
    Calls bM 101 [v0,(vi p1)].toArray w (gL (mU E Γ res)):=by
 unfold iv at hb
 refine enter Tryz.func101 zr zr ?_
 have hw:=hw.dup (i0+0) h0
 refine RC.sr (aQ (.slice none 0 0) (RL.ns (mv v0 (RL.bC 0 p0 hw l4 (aQ (vi p0.length) (RL.nq ?_))))))
 obtain⟨au,hN,hb⟩:=bd hb
 refine RC.iter (fun(j:Int)=>SH E Γ [(0,v0),(1,vi p1),(5,vi j)] [rd v0 p0]) (fun(j:Int)=>SH E Γ [(0,v0),(1,vi p1),(5,vi j)] [rd v0 p0]) (fun(r:Empty) _ _=>r.elim) hN ?_ ?_ ?_ ?_
 ·exact hw.sp 1 [0]
 ·rintro j fl _ w ⟨τ,rfl,hw⟩ hb
  refine RC.seq (RC.seq ?_)
  obtain⟨ab,hj,hb⟩:=bd hb
  refine RC.jn (fun(ab:Bool)=>SH E Γ [(0,v0),(1,vi p1),(5,vi j),(19,vb ab)] [rd v0 p0]) ab ?_ ?_
  ·refine RC.region (mv (vi j) (ic j 0 (mv (vb (decide (j>0))) (fB hj (fun o hj=>?_) fun o hj=>?_))))
   rotate_left
   ·refine bJ o (bJ o (bJ o (bJ o (bJ o (bJ o (bJ o (fG o (vb false) (RL.nil ?_))))))))
    obtain rfl:=oi hj
    exact⟨rfl,hw.sp 1 [0]⟩
   refine RL.move v0 (cg o) (RL.move (vi j) (cg o) (RL.fQ (hg:=(cg o)) j 1 ?_))
   obtain⟨ad,ai,hj⟩:=bd hj
   refine RL.bN (hg:=(cg o)) 0 hw eB ai fun av hw=>(RL.bF (hg:=(cg o)) ad 0 hw cJ (RL.move (vi p1) (cg o) (RL.kL ad p1 (cg o) (fG o (vb (decide (ad>p1))) (RL.nil ?_)))))
   obtain rfl:=oi hj
   exact⟨rfl,hw.sp 2 [1]⟩
  rintro _ w ⟨τ,rfl,hw⟩
  refine aH (dT hb (fun hc hb=>?_) fun hc hb=>?_)
  rotate_left
  ·refine RC.ex ?_
   obtain rfl:=oi hb
   exact⟨rfl,hw.sp 1 [0]⟩
  refine RC.sn (RC.block (RC.region (mv (vi j) (RL.fQ j 1 (aQ (vi (IntKind.wrap .i64 (j - 1))) (RL.nil (bO ?_)))))))
  obtain rfl:=oi hb
  exact⟨rfl,hw.sp 1 [0]⟩
 ·intro r _ _ _ _
  exact r.elim
 rintro j _ w rfl ⟨τ,rfl,hw⟩
 rw [Fo.dF] at hb
 refine aH (RC.seq (RC.seq ?_))
 obtain⟨ae,hj,hb⟩:=bd hb
 refine RC.jn (fun(ae:Bool)=>SH E Γ [(0,v0),(1,vi p1),(5,vi j),(32,vb ae)] [rd v0 p0]) ae ?_ ?_
 ·refine RC.region (mv (vi j) (ic j 0 (mv (vb (decide (j>0))) (fB hj (fun aa hj=>?_) fun aa hj=>?_))))
  rotate_left
  ·refine bJ aa (bJ aa (bJ aa (bJ aa (bJ aa (bJ aa (bJ aa (fG aa (vb false) (RL.nil ?_))))))))
   obtain rfl:=oi hj
   exact⟨rfl,hw.sp 1 [0]⟩
  refine RL.move v0 (cg aa) (RL.move (vi j) (cg aa) (RL.fQ (hg:=(cg aa)) j 1 ?_))
  obtain⟨af,aj,hj⟩:=bd hj
  refine RL.bN (hg:=(cg aa)) 0 hw eB aj fun aw hw=>(RL.bF (hg:=(cg aa)) af 0 hw cJ (RL.move (vi p1) (cg aa) (RL.kL af p1 (cg aa) (fG aa (vb (af==p1)) (RL.nil ?_)))))
  obtain rfl:=oi hj
  exact⟨rfl,hw.sp 2 [1]⟩
 rintro _ w ⟨τ,rfl,hw⟩
 refine aH (dT hb (fun hc hb=>?_) fun hc hb=>?_)
 ·refine RC.sr (mv v0 (aQ v0 (RL.nt (RC.rt ?_))))
  obtain rfl:=oi hb
  exact bX (hw.pk 1 [0])
 refine RC.sx (aQ (.slice none 0 0) (RL.ns (mv (.slice none 0 0) (mv v0 (mv (vi j) ?_)))))
 obtain⟨ax,ak,hb⟩:=bd hb
 refine RL.cut (hl:= .inr ⟨rfl,zr⟩) 0 hw eB (.inl zr) ak fun ay hw=>?_
 have hw:=hw.cX Int 3
 obtain⟨az,al,hb⟩:=bd hb
 refine RL.app 0 1 hw qF al fun ag w hw=>?_
 refine aQ ag (RL.ns (mv ag (mv (vi p1) ?_)))
 have hw:=hw.sc Int p1
 refine RL.dW ([p1]: (List Int)) hw [(vi p1)] eB Ch (fun M hs g=>⟨(g.sat 0 _ zr).1,zt⟩) fun a0 w hw=>?_
 have hw:=hw.freeze 0
 obtain⟨a1,an,hb⟩:=bd hb
 refine RL.app 2 0 hw qF an fun ah w hw=>?_
 refine aQ ah (RL.ns (mv ah (mv v0 (mv (vi j) ?_))))
 obtain⟨a2,ao,hb⟩:=bd hb
 refine RL.cut 4 hw eB (.inr ⟨rfl,zr⟩) ao fun a3 hw=>?_
 obtain⟨a4,aq,hb⟩:=bd hb
 refine RL.app 3 0 hw qF aq fun ar w hw=>?_
 refine aQ ar (RL.nt (RC.ret ?_))
 obtain rfl:=oi hb
 have hw:=hw.freeze 3
 exact bX (hw.pk 6 [3])
def ph (E:World) (Γ:List HP) (b0:Nat) (v0_0 v0_1:Value) (v0_2 v0_3:Value) (v0_4 v0_5:Value) (v0_6 v0_7 v2:Value) (res: ((List Int)×(List Int)×(List fk))×(List Bool)) (v:Value) (w:World):Prop:=∃u0_0 u0_1 u0_2:Value,v= (.agg ([u0_0,u0_1,u0_2]:List Value).toArray)/\Holds E w ([rd u0_0 res.1.1,rd u0_1 res.1.2.1,own 83 u0_2 res.1.2.2,bc 57 b0 [v0_0,v0_1,v0_2,v0_3,v0_4,v0_5,v0_6,v0_7],own 4 v2 res.2]++Γ)
theorem oY {p0_7: (List (List Int))} {p2: (List Bool)} {res: ((List Int)×(List Int)×(List fk))×(List Bool)} (hw:Holds E w (bc 57 b0 [v0_0,v0_1,v0_2,v0_3,v0_4,v0_5,v0_6,v0_7]::rd v0_7 p0_7::own 4 v2 p2::Γ)) (hb:gj N p0_7 p1 p2=some res):
    Calls bM 64 [(vp b0 0),(vi p1),v2].toArray w (gL (ph E Γ b0 v0_0 v0_1 v0_2 v0_3 v0_4 v0_5 v0_6 v0_7 v2 res)):=by
 unfold gj at hb
 refine enter Tryz.func64 zr zr (RC.sr (RL.tT zr hw Jh zr fun ae w hw=>?_))
 refine RL.ns (mv (vi p1) ?_)
 have hw:=hw.sc Int p1
 refine RL.dW ([p1]: (List Int)) hw [(vi p1)] eB Ch (fun M hs g=>⟨(g.sat 0 _ zr).1,zt⟩) fun an w hw=>(RL.DV [(.slice none 0 0),(.slice none 0 0),(.slice none 0 0)] [an,(.slice none 0 0),(.slice none 0 0)] zr [(0,an)] zr KL ⟨(iD 0 hw),zt⟩ zr (RL.tT zr hw Jh zr fun af w hw=>?_))
 refine RL.AQ (cs:=[an,(.slice none 0 0),(.slice none 0 0)]) 0 zt hw zr zr zr (wu.all (⟨(iD 1 hw),zr,zr,zt⟩:wu [an,(.slice none 0 0),(.slice none 0 0)])) GI zr zr fun w hw=>?_
 refine RL.ns (mv v2 (mv (vi p1) ?_))
 obtain⟨cd,a1,hb⟩:=bd hb
 refine RL.bU 6 hw zr zr vq a1 ?_
 have hw:=hw.sc Bool true
 refine RL.gx (f:=(fun _ y=>y)) 7 0 hw (jA 7 hw a1 0) (bI a1).2.1 zr Fs.self A2 fun w hw=>?_
 refine RL.ns (mv (vp b0 0) (RL.nilCheck zr (RL.aX zr ri (RL.bH 5 v0_7 hw wM (RL.bC 6 p0_7 hw Fw ?_)))))
 obtain⟨cf,bx,hb⟩:=bd hb
 refine RL.mk (p0_7.length:Int) hw GO Mg bx fun ab w hw=>?_
 refine aQ ab (RL.ns (mv (vi p1) ?_))
 have hw:=hw.sc Int p1
 refine RL.dW ([p1]: (List Int)) hw [(vi p1)] eB Ch (fun M hs g=>⟨(g.sat 0 _ zr).1,zt⟩) fun bb w hw=>(aQ bb (RL.nq (RC.sr (aQ (vi 0) (RL.nt ?_)))))
 obtain⟨ch,hN,hb⟩:=bd hb
 refine RC.iter (fun(aa: (List Bool)×(List Int)×(List Int)×(List Bool)×(List Int)×Int) σ w=>∃bf bg bh:Value,SH E Γ [(0,vp b0 0),(2,v2),(6,vp ae 0),(7,vp af 0),(8,ab),(9,bh),(10,vi aa.2.2.2.2.2)] [bc 57 b0 [v0_0,v0_1,v0_2,v0_3,v0_4,v0_5,v0_6,v0_7],rd v0_7 p0_7,own 4 v2 aa.1,bc 97 ae [(.slice none 0 0),(.slice none 0 0),(.slice none 0 0)],bc 97 af [bf,bg,(.slice none 0 0)],rd bf aa.2.1,rd bg aa.2.2.1,own 4 ab aa.2.2.2.1,own 3 bh aa.2.2.2.2.1] σ w) (fun(aa: (List Bool)×(List Int)×(List Int)×(List Bool)×(List Int)×Int) σ w=>∃ah ai:Value,SH E Γ [(0,vp b0 0),(2,v2),(6,vp ae 0),(7,vp af 0)] [bc 57 b0 [v0_0,v0_1,v0_2,v0_3,v0_4,v0_5,v0_6,v0_7],rd v0_7 p0_7,own 4 v2 aa.1,bc 97 ae [(.slice none 0 0),(.slice none 0 0),(.slice none 0 0)],bc 97 af [ah,ai,(.slice none 0 0)],rd ah aa.2.1,rd ai aa.2.2.1,own 4 ab aa.2.2.2.1] σ w) (fun(r:Empty) _ _=>r.elim) hN ?_ ?_ ?_ ?_
 ·have hw:=(hw.freeze 5).mR Int
  exact⟨an,(.slice none 0 0),bb,hw.sp 12 [9,10,11,8,5,6,0,3,1]⟩
 ·rintro aa fl _ w ⟨bj,bk,bl,τ,rfl,hw⟩ hb
  refine RC.seq (RC.sr (mv (vi aa.2.2.2.2.2) (mv bl (RL.fR 8 aa.2.2.2.2.1 hw l4 (ic aa.2.2.2.2.2 ((aa.2.2.2.2.1.length:Int)) (RL.nt (dT hb (fun hc hb=>?_) fun hc hb=>?_)))))))
  rotate_left
  ·refine RC.ex ?_
   obtain rfl:=oi hb
   exact⟨rfl,bj,bk,hw.sp 9 [0,1,2,3,4,5,6,7]⟩
  refine RC.ss (RC.bs (aQ (vi 0) (RL.nt ?_)))
  obtain⟨cj,hN,hb⟩:=bd hb
  refine RC.iter (fun(j: (List Bool)×(List Int)×(List Int)×(List Bool)×(List Int)×Int) σ w=>∃bm bn bo:Value,SH E Γ [(0,vp b0 0),(2,v2),(6,vp ae 0),(7,vp af 0),(8,ab),(9,bo),(10,vi aa.2.2.2.2.2),(11,vi j.2.2.2.2.2)] [bc 57 b0 [v0_0,v0_1,v0_2,v0_3,v0_4,v0_5,v0_6,v0_7],rd v0_7 p0_7,own 4 v2 j.1,bc 97 ae [(.slice none 0 0),(.slice none 0 0),(.slice none 0 0)],bc 97 af [bm,bn,(.slice none 0 0)],rd bm j.2.1,rd bn j.2.2.1,own 4 ab j.2.2.2.1,own 3 bo j.2.2.2.2.1] σ w) (fun(j: (List Bool)×(List Int)×(List Int)×(List Bool)×(List Int)×Int) σ w=>∃ar au av:Value,SH E Γ [(0,vp b0 0),(2,v2),(6,vp ae 0),(7,vp af 0),(8,ab),(9,av),(10,vi aa.2.2.2.2.2)] [bc 57 b0 [v0_0,v0_1,v0_2,v0_3,v0_4,v0_5,v0_6,v0_7],rd v0_7 p0_7,own 4 v2 j.1,bc 97 ae [(.slice none 0 0),(.slice none 0 0),(.slice none 0 0)],bc 97 af [ar,au,(.slice none 0 0)],rd ar j.2.1,rd au j.2.2.1,own 4 ab j.2.2.2.1,own 3 av j.2.2.2.2.1] σ w) (fun(r:Empty) _ _=>r.elim) hN ?_ ?_ ?_ ?_
  ·exact⟨bj,bk,bl,hw.sp 9 [0,1,2,3,4,5,6,7,8]⟩
  ·rintro j fl _ w ⟨ao,ak,al,τ,rfl,hw⟩ hb
   refine RC.seq (RC.sr (mv (vi j.2.2.2.2.2) (mv (vp b0 0) (RL.nilCheck zr (RL.aX zr ri (RL.bH 0 v0_7 hw wM (RL.bC 1 p0_7 hw Fw (ic j.2.2.2.2.2 ((p0_7.length:Int)) ?_))))))))
   refine RL.nt (dT hb (fun hc hb=>?_) fun hc hb=>?_)
   rotate_left
   ·refine RC.ex ?_
    obtain rfl:=oi hb
    exact⟨rfl,ao,ak,al,hw.sp 9 [0,1,2,3,4,5,6,7,8]⟩
   refine RC.ss (RC.block (RC.seq (RC.seq ?_)))
   obtain⟨a2,hj,hb⟩:=bd hb
   refine RC.jn (fun(a2:Bool)=>SH E Γ [(0,vp b0 0),(2,v2),(6,vp ae 0),(7,vp af 0),(8,ab),(9,al),(10,vi aa.2.2.2.2.2),(11,vi j.2.2.2.2.2),(61,vb a2)] [bc 57 b0 [v0_0,v0_1,v0_2,v0_3,v0_4,v0_5,v0_6,v0_7],rd v0_7 p0_7,own 4 v2 j.1,bc 97 ae [(.slice none 0 0),(.slice none 0 0),(.slice none 0 0)],bc 97 af [ao,ak,(.slice none 0 0)],rd ao j.2.1,rd ak j.2.2.1,own 4 ab j.2.2.2.1,own 3 al j.2.2.2.2.1]) a2 ?_ ?_
   ·refine RC.vH mixed [0,0,0,0,0,0,0,0,0,0,0,0,0,0,0,0,2,0,0] [0,1,2,3,4,5,6,7,8,9,10,11,12,13,14,15,16,17,18] ?_
    have hw:=hw.drew
    refine DP.e0 zr (mv ab (aZ zr (mv (vi j.2.2.2.2.2) (aZ zr ?_))))
    obtain⟨bz,a3,hj⟩:=bd hj
    refine RL.bU 7 hw zr zr vq a3 (aZ zr (RL.dO (f:=(fun x=>x)) 7 hw (jA 7 hw a3 0) (bI a3).2.1 Fd.self A2 (aZ zr (mv (vb bz) (DP.d0 (fB hj (fun o hj=>?_) fun o hj=>?_))))))
    ·refine DP.e0 zr (bJ o (aZ zr (bJ o (aZ zr (bJ o (aZ zr (bJ o (aZ zr ?_))))))))
     refine bJ o (aZ zr (bJ o (aZ zr (bJ o (aZ zr (bJ o (aZ zr (bJ o ?_))))))))
     refine aZ zr (bJ o (aZ zr (bJ o (pz zr (bJ o (tw zr (bJ o (aZ zr ?_))))))))
     refine fG o (vb true) (DP.d0 (DP.z ?_))
     obtain rfl:=oi hj
     exact⟨rfl,hw.sp 9 [0,1,2,3,4,5,6,7,8]⟩
    refine DP.e0 zr (RL.move (vp b0 0) (cg o) (aZ zr (RL.nilCheck (hg:=(cg o)) zr (aZ zr (RL.aX (hg:=(cg o)) zr ri (aZ zr (RL.bH (hg:=(cg o)) 0 v0_7 hw wM (aZ zr ?_))))))))
    refine RL.move (vi j.2.2.2.2.2) (cg o) (aZ zr ?_)
    obtain⟨b1,b2,hj⟩:=bd hj
    refine RL.bN (hg:=(cg o)) 1 hw xH b2 fun ck hw=>(aZ zr (RL.bL (hg:=(cg o)) 0 b1 hw fA fun b3 hw=>(aZ zr (RL.move al (cg o) (aZ zr (RL.move (vi aa.2.2.2.2.2) (cg o) (aZ zr ?_)))))))
    obtain⟨bp,a4,hj⟩:=bd hj
    refine RL.bU (hg:=(cg o)) 10 hw zr zr eB a4 (aZ zr (RL.dO (hg:=(cg o)) (f:=(fun x=>x)) 10 hw (jA 10 hw a4 0) (bI a4).2.1 Fd.self cJ (pz zr ?_)))
    obtain⟨bq,b4,hj⟩:=bd hj
    refine RL.call (cg o) zr ER [b3,(vi bp)] zr (aD (iJ N (p1:=bp) (i0:=0) hw zr b4) ?_)
    rintro _ w ⟨rfl,hw⟩
    refine tw zr (RL.not (hg:=(cg o)) bq (aZ zr (fG o (vb (!bq)) (DP.d0 (DP.z ?_)))))
    obtain rfl:=oi hj
    exact⟨rfl,hw.sp 11 [2,3,4,5,6,7,8,9,10]⟩
   rintro _ w ⟨τ,rfl,hw⟩
   refine aH (dT hb (fun hc hb=>?_) fun hc hb=>?_)
   ·refine RC.ex (F8 (aH (RC.region (mv (vi j.2.2.2.2.2) (RL.fQ j.2.2.2.2.2 1 (aQ (vi (IntKind.wrap .i64 (j.2.2.2.2.2+1))) (RL.nil ?_)))))))
    obtain rfl:=oi hb
    exact⟨rfl,ao,ak,al,hw.sp 9 [0,1,2,3,4,5,6,7,8]⟩
   refine RC.sx (mv ab (mv (vi j.2.2.2.2.2) ?_))
   obtain⟨cl,a5,hb⟩:=bd hb
   refine RL.bU 7 hw zr zr vq a5 ?_
   have hw:=hw.sc Bool true
   refine RL.gx (f:=(fun _ y=>y)) 8 0 hw (jA 8 hw a5 0) (bI a5).2.1 zr Fs.self A2 fun w hw=>?_
   refine RL.ns (RL.aX zr xJ (RL.bH 5 ak hw fA (mv (vi j.2.2.2.2.2) ?_)))
   obtain⟨a6,b5,hb⟩:=bd hb
   refine RL.call zt zr IA [ak,(vi j.2.2.2.2.2)] zr (aD (nO N (p1:=j.2.2.2.2.2) (i0:=7) hw zr b5) ?_)
   rintro aj w hw
   refine RL.aX zr xJ (RL.ig 6 aj hw zr zr (nj 0 hw) fA fun w hw=>?_)
   refine RL.ns (aQ (vi 0) (RL.nt ?_))
   obtain⟨cm,hN,hb⟩:=bd hb
   refine RC.iter (fun(ad: (List Bool)×(List Int)×(List Int)×Int) σ w=>∃br bt:Value,SH E Γ [(0,vp b0 0),(2,v2),(6,vp ae 0),(7,vp af 0),(8,ab),(9,bt),(10,vi aa.2.2.2.2.2),(11,vi j.2.2.2.2.2),(12,vi ad.2.2.2)] [bc 57 b0 [v0_0,v0_1,v0_2,v0_3,v0_4,v0_5,v0_6,v0_7],rd v0_7 p0_7,own 4 v2 ad.1,bc 97 ae [(.slice none 0 0),(.slice none 0 0),(.slice none 0 0)],bc 97 af [br,aj,(.slice none 0 0)],rd br ad.2.1,rd aj a6,own 4 ab (j.2.2.2.1.set (Int.toNat j.2.2.2.2.2) true),own 3 bt ad.2.2.1] σ w) (fun(ad: (List Bool)×(List Int)×(List Int)×Int) σ w=>∃aw ax:Value,SH E Γ [(0,vp b0 0),(2,v2),(6,vp ae 0),(7,vp af 0),(8,ab),(9,ax),(10,vi aa.2.2.2.2.2),(11,vi j.2.2.2.2.2)] [bc 57 b0 [v0_0,v0_1,v0_2,v0_3,v0_4,v0_5,v0_6,v0_7],rd v0_7 p0_7,own 4 v2 ad.1,bc 97 ae [(.slice none 0 0),(.slice none 0 0),(.slice none 0 0)],bc 97 af [aw,aj,(.slice none 0 0)],rd aw ad.2.1,rd aj a6,own 4 ab (j.2.2.2.1.set (Int.toNat j.2.2.2.2.2) true),own 3 ax ad.2.2.1] σ w) (fun(r:Empty) _ _=>r.elim) hN ?_ ?_ ?_ ?_
   ·exact⟨ao,al,hw.sp 11 [2,3,4,5,6,7,0,9,10]⟩
   ·rintro ad fl _ w ⟨ay,a7,τ,rfl,hw⟩ hb
    refine RC.seq (RC.sr (mv (vi ad.2.2.2) (mv (vp b0 0) (RL.nilCheck zr (RL.aX zr ri (RL.bH 0 v0_7 hw wM (mv (vi j.2.2.2.2.2) ?_)))))))
    obtain⟨a8,b6,hb⟩:=bd hb
    refine RL.bN 1 hw xH b6 fun cn hw=>(RL.bL 0 a8 hw fA fun cp hw=>(RL.bC 0 a8 hw l4 (ic ad.2.2.2 ((a8.length:Int)) (RL.nt (dT hb (fun hc hb=>?_) fun hc hb=>?_)))))
    rotate_left
    ·refine RC.ex ?_
     obtain rfl:=oi hb
     exact⟨rfl,ay,a7,hw.sp 11 [2,3,4,5,6,7,8,9,10]⟩
    refine RC.ss (RC.bs (mv (vp b0 0) (RL.nilCheck zr (RL.aX zr ri (RL.bH 2 v0_7 hw wM (mv (vi j.2.2.2.2.2) ?_))))))
    obtain⟨b7,b8,hb⟩:=bd hb
    refine RL.bN 3 hw xH b8 fun cq hw=>(RL.bL 0 b7 hw fA fun cr hw=>(mv (vi ad.2.2.2) ?_))
    obtain⟨ag,b9,hb⟩:=bd hb
    refine RL.bN 0 hw eB b9 fun ct hw=>(RL.bF ag 0 hw cJ (aQ (vi ag) (RL.ns (mv v2 (mv (vi ag) ?_)))))
    obtain⟨ca,a9,hb⟩:=bd hb
    refine RL.bU 7 hw zr zr vq a9 (RL.dO (f:=(fun x=>x)) 7 hw (jA 7 hw a9 0) (bI a9).2.1 Fd.self A2 (RL.not ca (RL.nt ?_)))
    obtain⟨aq,hj,hb⟩:=bd hb
    refine RC.jn (fun(aq: (List Bool)×(List Int)×(List Int)) σ w=>∃az a0:Value,SH E Γ [(0,vp b0 0),(2,v2),(6,vp ae 0),(7,vp af 0),(8,ab),(9,a0),(10,vi aa.2.2.2.2.2),(11,vi j.2.2.2.2.2),(12,vi ad.2.2.2)] [bc 57 b0 [v0_0,v0_1,v0_2,v0_3,v0_4,v0_5,v0_6,v0_7],rd v0_7 p0_7,own 4 v2 aq.1,bc 97 ae [(.slice none 0 0),(.slice none 0 0),(.slice none 0 0)],bc 97 af [az,aj,(.slice none 0 0)],rd az aq.2.1,rd aj a6,own 4 ab (j.2.2.2.1.set (Int.toNat j.2.2.2.2.2) true),own 3 a0 aq.2.2] σ w) aq ?_ ?_
    ·refine dT hj (fun hc hj=>?_) fun hc hj=>?_
     rotate_left
     ·refine RC.skip ?_
      obtain rfl:=oi hj
      exact⟨rfl,ay,a7,hw.sp 14 [5,6,7,8,9,10,11,12,13]⟩
     refine RC.sr (mv v2 (mv (vi ag) ?_))
     obtain⟨cu,ba,hj⟩:=bd hj
     refine RL.bU 7 hw zr zr vq ba ?_
     have hw:=hw.sc Bool true
     refine RL.gx (f:=(fun _ y=>y)) 8 0 hw (jA 8 hw ba 0) (bI ba).2.1 zr Fs.self A2 fun w hw=>?_
     refine RL.ns (RL.aX zr vL (RL.bH 10 ay hw fA (mv (vi ag) ?_)))
     obtain⟨cv,cb,hj⟩:=bd hj
     refine RL.call zt zr IA [ay,(vi ag)] zr (aD (nO N (p1:=ag) (i0:=11) hw zr cb) ?_)
     rintro bu w hw
     refine RL.aX zr vL (RL.ig 11 bu hw zr zr (nj 0 hw) fA fun w hw=>?_)
     refine RL.nt (RC.region (mv a7 (mv (vi ag) ?_)))
     have hw:=hw.sc Int ag
     refine RL.dW ([ag]: (List Int)) hw [(vi ag)] eB Ch (fun M hs g=>⟨(g.sat 0 _ zr).1,zt⟩) fun cw w hw=>?_
     have hw:=hw.freeze 0
     obtain⟨cx,cc,hj⟩:=bd hj
     refine RL.app 17 0 hw qF cc fun bw w hw=>?_
     refine aQ bw (RL.nil ?_)
     obtain rfl:=oi hj
     exact⟨rfl,bu,bw,hw.sp 18 [9,10,11,12,13,2,15,16,17]⟩
    rintro _ w ⟨az,a0,τ,rfl,hw⟩
    refine bO (aH (RC.region (mv (vi ad.2.2.2) (RL.fQ ad.2.2.2 1 (aQ (vi (IntKind.wrap .i64 (ad.2.2.2+1))) (RL.nil ?_))))))
    obtain rfl:=oi hb
    exact⟨rfl,az,a0,hw.sp 9 [0,1,2,3,4,5,6,7,8]⟩
   ·intro r _ _ _ _
    exact r.elim
   rintro ad _ w rfl ⟨aw,ax,τ,rfl,hw⟩
   rw [Fo.dF] at hb
   refine bO (aH (RC.region (mv (vi j.2.2.2.2.2) (RL.fQ j.2.2.2.2.2 1 (aQ (vi (IntKind.wrap .i64 (j.2.2.2.2.2+1))) (RL.nil ?_))))))
   obtain rfl:=oi hb
   exact⟨rfl,aw,aj,ax,hw.sp 9 [0,1,2,3,4,5,6,7,8]⟩
  ·intro r _ _ _ _
   exact r.elim
  rintro j _ w rfl ⟨ar,au,av,τ,rfl,hw⟩
  rw [Fo.dF] at hb
  refine bO (aH (RC.region (mv (vi aa.2.2.2.2.2) (RL.fQ aa.2.2.2.2.2 1 (aQ (vi (IntKind.wrap .i64 (aa.2.2.2.2.2+1))) (RL.nil ?_))))))
  obtain rfl:=oi hb
  exact⟨rfl,ar,au,av,hw.sp 9 [0,1,2,3,4,5,6,7,8]⟩
 ·intro r _ _ _ _
  exact r.elim
 rintro aa _ w rfl ⟨ah,ai,τ,rfl,hw⟩
 rw [Fo.dF] at hb
 refine aH (RC.sr (RL.CG (cs:=[ah,ai,(.slice none 0 0)]) 4 zt zr hw zr zr GI zr (RL.AQ (cs:=[ah,ai,(.slice none 0 0)]) 3 zt hw zr zr zr (wu.all (⟨(nj 5 hw),(nj 6 hw),zr,zt⟩:wu [ah,ai,(.slice none 0 0)])) GI zr zr fun w hw=>?_)))
 refine RL.nt (RC.ret ?_)
 obtain rfl:=oi hb
 have hw:=hw.cX fk 83
 exact JJ (i:=4) (cs:=[ah,ai,(.slice none 0 0)]) zr hw zr zr GI zr ⟨ah,ai,(.slice none 0 0),zr,hw.pk 9 [6,7,0,1,3]⟩
theorem mQ {p0: (List aI)} {p1:jc} {res:Bool} (hw:Holds E w Γ) (h0:Γ[i0]? =some (rd v0 p0)) (h1:Γ[i1]? =some (rd v1 p1)) (hb:eM N p0 p1=some res):
    Calls bM 121 [v0,v1].toArray w (gL (aV E Γ res)):=by
 unfold eM at hb
 refine enter Tryz.func121 zr zr ?_
 have hw:=(hw.dup (i0+0) h0).dup (i1+1) h1
 refine RC.sr (RL.dJ 0 v1 hw zr fun j w hw=>?_)
 refine aQ (vb false) (RL.nq ?_)
 have hw:=hw.drew
 refine RC.D4 (fun w=>Holds E w ([bx 63 j p1]++Γ)) mixed zr [0,0,0,2,1,1,2,0] [0,1,2,4,5,3,6,7] (hw.pk 3 [0]) (DP.e0 zr (mv v0 (aZ zr (RL.aX zr vK (aZ zr (RL.aM 0 hw zr ny cJ (DP.d0 (DP.e1 (vp j 0) zr (fun w=>RL.aX zr vJ DP.d1) ?_))))))))
 refine DP.HL (vi p1.X) zr (fun w hw=>RL.aM 0 hw zr nv cJ DP.d1) (DP.e2 zr ?_)
 obtain⟨ae,o,hb⟩:=bd hb
 refine RL.call zt zr HR [v0,(vi p1.Y)] zr (aD (kr N (p1:=p1.Y) (i0:=2) hw zr o) ?_)
 rintro aa w hw
 refine DP.d2 (hw.pk 4 [1]) (DP.e2 zr ?_)
 have hw:=hw.freeze 0
 obtain⟨ab,ad,hb⟩:=bd hb
 refine RL.call zt zr GN [aa,(vi p1.X)] zr (aD (kX N (p1:=p1.X) (i0:=0) hw zr ad) ?_)
 rintro _ w ⟨rfl,hw⟩
 refine DP.d2 (hw.pk 4 [1]) (DP.e0 zr (aQ (vb ab) (DP.d0 (DP.z (aH (RC.ret ?_))))))
 obtain rfl:=oi hb
 exact bX ⟨rfl,hw.drop 4⟩
def lW (E:World) (Γ:List HP) (b0:Nat) (v0_0 v0_1:Value) (v0_2 v0_3:Value) (v0_4 v0_5:Value) (v0_6 v0_7:Value) (res:j9×Bool) (v:Value) (w:World):Prop:=∃u0:Value,v = .tuple #[u0,(vb res.2)]/\Holds E w ([rd u0 res.1,bc 57 b0 [v0_0,v0_1,v0_2,v0_3,v0_4,v0_5,v0_6,v0_7]]++Γ)
def lX (E:World) (Γ:List HP) (b0:Nat) (v0_0 v0_1:Value) (v0_2 v0_3:Value) (v0_4 v0_5:Value) (v0_6 v0_7:Value) (r:j9×Bool) (σ:Nat->Value) (w:World):Prop:=lZ bM 91 Tryz.f102 (lW E Γ b0 v0_0 v0_1 v0_2 v0_3 v0_4 v0_5 v0_6 v0_7 r) .ret σ w
theorem pj {p0_2: (List cD)} {p0_4: (List Int)} {p0_5: (List (List aI))} {p1:fK} {res:j9×Bool} (hw:Holds E w (bc 57 b0 [v0_0,v0_1,v0_2,v0_3,v0_4,v0_5,v0_6,v0_7]::rd v0_2 p0_2::rd v0_4 p0_4::rd v0_5 p0_5::Γ)) (h1:Γ[i1]? =some (rd v1 p1)) (hb:gA N p0_2 p0_4 p0_5 p1=some res):
    Calls bM 102 [(vp b0 0),v1].toArray w (gL (lW E Γ b0 v0_0 v0_1 v0_2 v0_3 v0_4 v0_5 v0_6 v0_7 res)):=by
 unfold gA at hb
 refine enter Tryz.func102 zr zr ?_
 have hw:=hw.dup (i1+4) h1
 refine RC.sr (RL.dJ 0 v1 hw zr fun af w hw=>?_)
 have hw:=hw.lE (i:=0) rfl
 refine RL.alloc hw GJ.z fun ae w hw=>?_
 refine aQ (vb false) (RL.nq (RC.sr (aQ (vi 0) (RL.nt ?_))))
 obtain⟨bh,hN,hb⟩:=bd hb
 refine RC.iter (fun(ad:Int)=>SH E Γ [(0,vp b0 0),(3,vp af 0),(4,vp ae 0),(6,vi ad)] [bc 57 b0 [v0_0,v0_1,v0_2,v0_3,v0_4,v0_5,v0_6,v0_7],rd v0_2 p0_2,rd v0_4 p0_4,rd v0_5 p0_5,pt (vp af 0) p1,raw 99 ae 2]) (fun(ad:Int)=>SH E Γ [(0,vp b0 0),(3,vp af 0),(4,vp ae 0)] [bc 57 b0 [v0_0,v0_1,v0_2,v0_3,v0_4,v0_5,v0_6,v0_7],rd v0_2 p0_2,rd v0_4 p0_4,rd v0_5 p0_5,pt (vp af 0) p1,raw 99 ae 2]) (lX E Γ b0 v0_0 v0_1 v0_2 v0_3 v0_4 v0_5 v0_6 v0_7) hN ?_ ?_ ?_ ?_
 ·exact hw.sp 7 [3,4,5,6,1,0]
 ·rintro ad fl _ w ⟨τ,rfl,hw⟩ hb
  refine RC.seq (RC.sr (mv (vi ad) (mv (vp b0 0) (RL.nilCheck zr (RL.aX zr rh (RL.bH 0 v0_5 hw oD (RL.bC 3 p0_5 hw pE (ic ad ((p0_5.length:Int)) ?_))))))))
  refine RL.nt (dT hb (fun hc hb=>?_) fun hc hb=>?_)
  rotate_left
  ·refine RC.ex ?_
   obtain rfl:=oi hb
   exact⟨rfl,hw.sp 6 [0,1,2,3,4,5]⟩
  refine RC.ss (RC.block (RC.seq ?_))
  obtain⟨ag,hj,hb⟩:=bd hb
  refine RC.jn (fun(ag:Bool)=>SH E Γ [(0,vp b0 0),(3,vp af 0),(4,vp ae 0),(6,vi ad),(38,vb ag)] [bc 57 b0 [v0_0,v0_1,v0_2,v0_3,v0_4,v0_5,v0_6,v0_7],rd v0_2 p0_2,rd v0_4 p0_4,rd v0_5 p0_5,pt (vp af 0) p1,raw 99 ae 2]) ag ?_ ?_
  ·refine RC.vH mixed [0,0,0,0,0,0,0,0,0,0,0,0,0,0,0,0,0,0,0,0,2,0] [0,1,2,3,4,5,6,7,8,9,10,11,12,13,14,15,16,17,18,19,20,21] ?_
   have hw:=hw.drew
   refine DP.e0 zr (mv (vp b0 0) (aZ zr (RL.nilCheck zr (aZ zr (RL.aX zr zk (aZ zr (RL.bH 0 v0_4 hw fA (aZ zr ?_))))))))
   refine mv (vi ad) (aZ zr ?_)
   obtain⟨ah,al,hj⟩:=bd hj
   refine RL.bN 2 hw eB al fun bj hw=>(aZ zr (RL.bF ah 0 hw cJ (aZ zr (RL.dV 5 hw zr xE pZ fun bk hw=>(aZ zr (RL.bF p1.cU 0 hw cJ (aZ zr (ic ah p1.cU ?_))))))))
   refine aZ zr (mv (vb (ah==p1.cU)) (DP.d0 (fB hj (fun aa hj=>?_) fun aa hj=>?_)))
   rotate_left
   ·refine DP.e0 zr (bJ aa (aZ zr (bJ aa (aZ zr (bJ aa (aZ zr (bJ aa (aZ zr ?_))))))))
    refine bJ aa (aZ zr (bJ aa (aZ zr (bJ aa (aZ zr (bJ aa (aZ zr (bJ aa ?_))))))))
    refine pz zr (bJ aa (tw zr (fG aa (vb false) (DP.d0 (DP.z ?_)))))
    obtain rfl:=oi hj
    exact⟨rfl,hw.sp 8 [2,3,4,5,6,7]⟩
   refine DP.e0 zr (RL.move (vp b0 0) (cg aa) (aZ zr (RL.nilCheck (hg:=(cg aa)) zr (aZ zr (RL.aX (hg:=(cg aa)) zr rh (aZ zr (RL.bH (hg:=(cg aa)) 2 v0_5 hw oD (aZ zr ?_))))))))
   refine RL.move (vi ad) (cg aa) (aZ zr ?_)
   obtain⟨an,ao,hj⟩:=bd hj
   refine RL.bN (hg:=(cg aa)) 5 hw tz ao fun bl hw=>(aZ zr (RL.bL (hg:=(cg aa)) 0 an hw rH fun aq hw=>(aZ zr (RL.dV (hg:=(cg aa)) 8 hw zr xF p4 fun bm hw=>(aZ zr (RL.bL (hg:=(cg aa)) 0 p1.At hw CZ fun ar hw=>(pz zr ?_)))))))
   obtain⟨au,av,hj⟩:=bd hj
   refine RL.call (cg aa) zr IB [aq,ar] zr (aD (mQ N (i0:=2) (i1:=0) hw zr zr av) ?_)
   rintro _ w ⟨rfl,hw⟩
   refine tw zr (fG aa (vb au) (DP.d0 (DP.z ?_)))
   obtain rfl:=oi hj
   exact⟨rfl,hw.sp 12 [6,7,8,9,10,11]⟩
  rintro _ w ⟨τ,rfl,hw⟩
  refine aH (dT hb (fun hc hb=>?_) fun hc hb=>?_)
  rotate_left
  ·refine RC.skip (bO (aH (RC.region (mv (vi ad) (RL.fQ ad 1 (aQ (vi (IntKind.wrap .i64 (ad+1))) (RL.nil ?_)))))))
   obtain rfl:=oi hb
   exact⟨rfl,hw.sp 6 [0,1,2,3,4,5]⟩
  refine RC.sr (mv (vi ad) ?_)
  have hw:=hw.sc Int ad
  refine RL.build (⟨false,ad⟩:j9) trivial rfl hw [(1,vi ad)] rfl Fx rfl (fun M hs g=>by have h:=A1 M;exact cT.cons (f:=fun(x:j9) y=>{x with Number:=y}) h wI (g.sat 0 _ rfl).1 fun _ h=>cT.nil h) fun bn hw=>?_
  refine RL.cB 7 hw 0 zr t6 fun w hw=>?_
  refine aQ (vb true) (RL.nt (RC.rb (bS ?_)))
  obtain rfl:=oi hb
  exact⟨rfl,wm 7 hw t6 fun aw hw=>⟨aw,zr,hw.pk 9 [0,3]⟩⟩
 ·intro r σ w e hK
  subst e
  refine bS ?_
  obtain rfl:=oi hb
  exact hK
 rintro ad _ w rfl ⟨τ,rfl,hw⟩
 rw [Fo.dF] at hb
 refine aH (RC.seq (RC.sr (aQ (vi 0) (RL.nt ?_))))
 obtain⟨bo,hN,hb⟩:=bd hb
 refine RC.iter (fun(ab:Int)=>SH E Γ [(0,vp b0 0),(3,vp af 0),(4,vp ae 0),(7,vi ab)] [bc 57 b0 [v0_0,v0_1,v0_2,v0_3,v0_4,v0_5,v0_6,v0_7],rd v0_2 p0_2,rd v0_4 p0_4,rd v0_5 p0_5,pt (vp af 0) p1,raw 99 ae 2]) (fun(ab:Int)=>SH E Γ [(0,vp b0 0),(4,vp ae 0)] [bc 57 b0 [v0_0,v0_1,v0_2,v0_3,v0_4,v0_5,v0_6,v0_7],rd v0_2 p0_2,rd v0_4 p0_4,rd v0_5 p0_5,pt (vp af 0) p1,raw 99 ae 2]) (lX E Γ b0 v0_0 v0_1 v0_2 v0_3 v0_4 v0_5 v0_6 v0_7) hN ?_ ?_ ?_ ?_
 ·exact hw.sp 6 [0,1,2,3,4,5]
 ·rintro ab fl _ w ⟨τ,rfl,hw⟩ hb
  refine RC.seq (RC.sr (mv (vi ab) (mv (vp b0 0) (RL.nilCheck zr (RL.aX zr vM (RL.aX zr gC (RL.bH 0 v0_2 hw mT (RL.bC 1 p0_2 hw t3 ?_))))))))
  refine ic ab ((p0_2.length:Int)) (RL.nt (dT hb (fun hc hb=>?_) fun hc hb=>?_))
  rotate_left
  ·refine RC.ex ?_
   obtain rfl:=oi hb
   exact⟨rfl,hw.sp 6 [0,1,2,3,4,5]⟩
  refine RC.ss (RC.block (RC.seq ?_))
  obtain⟨ai,hj,hb⟩:=bd hb
  refine RC.jn (fun(ai:Bool)=>SH E Γ [(0,vp b0 0),(3,vp af 0),(4,vp ae 0),(7,vi ab),(87,vb ai)] [bc 57 b0 [v0_0,v0_1,v0_2,v0_3,v0_4,v0_5,v0_6,v0_7],rd v0_2 p0_2,rd v0_4 p0_4,rd v0_5 p0_5,pt (vp af 0) p1,raw 99 ae 2]) ai ?_ ?_
  ·refine RC.vH mixed [0,0,0,0,0,0,0,0,0,0,0,0,0,0,0,0,0,0,0,0,2,0,0,0,0,0,0,0,0,0,0,2,2,1,1,2,0] [0,1,2,3,4,5,6,7,8,9,10,11,12,13,14,15,16,17,18,19,20,21,22,23,24,25,26,27,28,29,30,33,34,31,32,35,36] ?_
   have hw:=hw.drew
   refine DP.e0 zr (mv (vp b0 0) (aZ zr (RL.nilCheck zr (aZ zr (RL.aX zr vM (aZ zr (RL.aX zr gC (aZ zr ?_))))))))
   refine RL.bH 0 v0_2 hw mT (aZ zr (mv (vi ab) (aZ zr ?_)))
   obtain⟨aj,ax,hj⟩:=bd hj
   refine RL.bN 1 hw qc ax fun bp hw=>(aZ zr (RL.dV 0 hw zr xG pX fun bq hw=>(aZ zr (RL.bF aj.fJ 0 hw A2 (aZ zr (mv (vb aj.fJ) (DP.d0 (fB hj (fun o hj=>?_) fun o hj=>?_))))))))
   rotate_left
   ·refine DP.e0 zr (bJ o (aZ zr (bJ o (aZ zr (bJ o (aZ zr (bJ o (aZ zr ?_))))))))
    refine bJ o (aZ zr (bJ o (aZ zr (bJ o (aZ zr (bJ o (aZ zr (bJ o ?_))))))))
    refine aZ zr (bJ o (pz zr (bJ o (tw zr (fG o (vb false) (aZ zr (mv (vb false) (aZ zr ?_))))))))
    refine j7 (aZ zr (j7 (aZ zr (j7 (aZ zr (j7 (aZ zr (j7 ?_))))))))
    refine aZ zr (j7 (aZ zr (j7 (aZ zr (j7 (DP.d0 (DP.e1 undef zr (fun w=>j7 DP.d1) (DP.e1 undef zr (fun w=>j7 DP.d1) ?_))))))))
    refine DP.e2 zr (j7 (EM zr (j7 (EM zr (j7 (tw zr (RL.pick false (vb false) zr (DP.d0 ?_))))))))
    refine DP.z ?_
    obtain rfl:=oi hj
    exact⟨rfl,hw.sp 8 [2,3,4,5,6,7]⟩
   refine DP.e0 zr (RL.move (vp b0 0) (cg o) (aZ zr (RL.nilCheck (hg:=(cg o)) zr (aZ zr (RL.aX (hg:=(cg o)) zr vM (aZ zr (RL.aX (hg:=(cg o)) zr gC (aZ zr ?_))))))))
   refine RL.bH (hg:=(cg o)) 2 v0_2 hw mT (aZ zr (RL.move (vi ab) (cg o) (aZ zr ?_)))
   obtain⟨ay,az,hj⟩:=bd hj
   refine RL.bN (hg:=(cg o)) 3 hw qc az fun br hw=>(aZ zr (RL.bL (hg:=(cg o)) 0 ay hw lP fun a0 hw=>(aZ zr (RL.dV (hg:=(cg o)) 8 hw zr xE pZ fun bs hw=>(aZ zr (RL.bF (hg:=(cg o)) p1.cU 0 hw cJ (pz zr ?_)))))))
   obtain⟨ak,a1,hj⟩:=bd hj
   refine RL.call (cg o) zr HS [a0,(vi p1.cU)] zr (aD (jd N (p1:=p1.cU) (i0:=1) hw zr a1) ?_)
   rintro _ w ⟨rfl,hw⟩
   refine tw zr (fG o (vb ak) (aZ zr (mv (vb ak) (DP.d0 (fB hj (fun j hj=>?_) fun j hj=>?_)))))
   rotate_left
   ·refine DP.e0 zr (bJ j (aZ zr (bJ j (aZ zr (bJ j (aZ zr (bJ j (aZ zr ?_))))))))
    refine bJ j (aZ zr (bJ j (aZ zr (bJ j (aZ zr (bJ j (DP.d0 (DP.e1 undef zr (fun w=>bJ j DP.d1) ?_))))))))
    refine DP.e1 undef zr (fun w=>bJ j DP.d1) (DP.e2 zr (bJ j (EM zr (bJ j (EM zr (bJ j (tw zr (fG j (vb false) ?_))))))))
    refine DP.d0 (DP.z ?_)
    obtain rfl:=oi hj
    exact⟨rfl,hw.sp 11 [5,6,7,8,9,10]⟩
   refine DP.e0 zr (RL.move (vp b0 0) (cg j) (aZ zr (RL.nilCheck (hg:=(cg j)) zr (aZ zr (RL.aX (hg:=(cg j)) zr vM (aZ zr (RL.aX (hg:=(cg j)) zr gC (aZ zr ?_))))))))
   refine RL.bH (hg:=(cg j)) 5 v0_2 hw mT (aZ zr (RL.move (vi ab) (cg j) (aZ zr ?_)))
   obtain⟨a2,a3,hj⟩:=bd hj
   refine RL.bN (hg:=(cg j)) 6 hw qc a3 fun bt hw=>(aZ zr (RL.bL (hg:=(cg j)) 0 a2 hw lP fun a4 hw=>(DP.d0 (DP.BK 11 zr (cg j) hw zr xF p4 fun bu hw=>(DP.yJ p1.At 0 zr (cg j) hw CZ fun a5 a279 bw hw=>(DP.e2 zr ?_))))))
   obtain⟨a6,a7,hj⟩:=bd hj
   refine RL.call (cg j) zr Fy [a4] zr (aD (fp N (i0:=3) hw zr a7) ?_)
   rintro a8 w hw
   refine DP.d2 (⟨zt,hw.g8 1⟩) (DP.e2 zr (RL.dW (hg:=(cg j)) ([a6]: (List aI)) hw [a8] iY oc (fun M hs g=>⟨(g.sat 0 _ zr).1,zt⟩) fun a9 w hw=>(DP.d2 (⟨zt,hw.g8 2⟩) (DP.e2 zr ?_))))
   have hw:=hw.freeze 0
   obtain⟨ba,bb,hj⟩:=bd hj
   refine RL.call (cg j) zr IB [a9,a5] zr (aD (mQ N (i0:=0) (i1:=3) hw zr zr bb) ?_)
   rintro _ w ⟨rfl,hw⟩
   refine DP.d2 (⟨zt,hw.g8 2⟩) (DP.e0 zr (fG j (vb ba) (DP.d0 ?_)))
   have hw:=hw.pl 18 [0,1,3,4,5,6,7,8,9,10,11,12,13,14,15,16,17]
   refine DP.z ?_
   obtain rfl:=oi hj
   exact⟨rfl,hw.sp 17 [11,12,13,14,15,16]⟩
  rintro _ w ⟨τ,rfl,hw⟩
  refine aH (dT hb (fun hc hb=>?_) fun hc hb=>?_)
  rotate_left
  ·refine RC.skip (bO (aH (RC.region (mv (vi ab) (RL.fQ ab 1 (aQ (vi (IntKind.wrap .i64 (ab+1))) (RL.nil ?_)))))))
   obtain rfl:=oi hb
   exact⟨rfl,hw.sp 6 [0,1,2,3,4,5]⟩
  refine RC.sr (mv (vi ab) ?_)
  have hw:=(hw.sc Bool true).sc Int ab
  refine RL.build (⟨true,ab⟩:j9) trivial rfl hw [(0,vb true),(1,vi ab)] rfl Fx rfl (fun M hs g=>by have h:=A1 M;exact cT.cons (f:=fun(x:j9) y=>{x with cD:=y}) h CW (g.sat 1 _ rfl).1 fun _ h=>cT.cons (f:=fun(x:j9) y=>{x with Number:=y}) h wI (g.sat 0 _ rfl).1 fun _ h=>cT.nil h) fun bx hw=>?_
  refine RL.cB 8 hw 0 zr t6 fun w hw=>?_
  refine aQ (vb true) (RL.nt (RC.rb (bS ?_)))
  obtain rfl:=oi hb
  exact⟨rfl,wm 8 hw t6 fun bf hw=>⟨bf,zr,hw.pk 10 [0,4]⟩⟩
 ·intro r σ w e hK
  subst e
  refine bS ?_
  obtain rfl:=oi hb
  exact hK
 rintro ab _ w rfl ⟨τ,rfl,hw⟩
 rw [Fo.dF] at hb
 refine aH (RC.sr (RL.build (⟨false,0⟩:j9) trivial rfl hw [] rfl Fx rfl (fun M hs g=>by have h:=A1 M;exact cT.nil h) fun bz hw=>?_))
 refine RL.cB 6 hw 0 zr t6 fun w hw=>?_
 refine aQ (vb false) (RL.nt (RC.ret ?_))
 obtain rfl:=oi hb
 exact wm 6 hw t6 fun bg hw=>⟨bg,zr,hw.pk 8 [0,2]⟩
def mm (E:World) (Γ:List HP) (b0:Nat) (v0_0 v0_1:Value) (v0_2 v0_3:Value) (v0_4 v0_5 v0_6:Value) (us0_6:List aT) (p0_6: (List cO)) (v0_7:Value) (r:Int) (σ:Nat->Value) (w:World):Prop:=lZ bM 49 Tryz.f103 (gl E Γ b0 v0_0 v0_1 v0_2 v0_3 v0_4 v0_5 v0_6 us0_6 p0_6 v0_7 r) .ret σ w
theorem l5 {us0_6:List aT} {p0_6: (List cO)} {p1:j9} (hw:Holds E w (bc 57 b0 [v0_0,v0_1,v0_2,v0_3,v0_4,v0_5,v0_6,v0_7]::own 97 v0_6 us0_6::hU aU us0_6 p0_6 none::Γ)) (h1:Γ[i1]? =some (rd v1 p1)) (hb:dR N p0_6 p1=some res):
    Calls bM 103 [(vp b0 0),v1].toArray w (gL (gl E Γ b0 v0_0 v0_1 v0_2 v0_3 v0_4 v0_5 v0_6 us0_6 p0_6 v0_7 res)):=by
 unfold dR at hb
 refine enter Tryz.func103 zr zr ?_
 have hw:=hw.dup (i1+3) h1
 refine RC.sr (RL.dJ 0 v1 hw zr fun ae w hw=>?_)
 refine aQ (vi 0) (RL.nq (RC.sr (aQ (vi 0) (RL.nt ?_))))
 obtain⟨az,hN,hb⟩:=bd hb
 refine RC.iter (fun(ab:Int)=>SH E Γ [(0,vp b0 0),(3,vp ae 0),(5,vi ab)] [bc 57 b0 [v0_0,v0_1,v0_2,v0_3,v0_4,v0_5,v0_6,v0_7],own 97 v0_6 us0_6,hU aU us0_6 p0_6 none,bx 99 ae p1]) (fun(ab:Int)=>SH E Γ [(0,vp b0 0)] [bc 57 b0 [v0_0,v0_1,v0_2,v0_3,v0_4,v0_5,v0_6,v0_7],own 97 v0_6 us0_6,hU aU us0_6 p0_6 none,bx 99 ae p1]) (mm E Γ b0 v0_0 v0_1 v0_2 v0_3 v0_4 v0_5 v0_6 us0_6 p0_6 v0_7) hN ?_ ?_ ?_ ?_
 ·exact hw.sp 5 [2,3,4,0]
 ·rintro ab fl _ w ⟨τ,rfl,hw⟩ hb
  refine RC.seq (RC.sr (mv (vi ab) (mv (vp b0 0) (RL.nilCheck zr (RL.aX zr rj (RL.bH 0 v0_6 hw u6 (RL.rC 1 2 p0_6 hw Ji (ic ab ((p0_6.length:Int)) ?_))))))))
  refine RL.nt (dT hb (fun hc hb=>?_) fun hc hb=>?_)
  rotate_left
  ·refine RC.ex ?_
   obtain rfl:=oi hb
   exact⟨rfl,hw.sp 4 [0,1,2,3]⟩
  refine RC.ss (RC.block (RC.seq ?_))
  obtain⟨ai,hj,hb⟩:=bd hb
  refine RC.jn (fun(ai:Bool)=>SH E Γ [(0,vp b0 0),(3,vp ae 0),(5,vi ab),(47,vb ai)] [bc 57 b0 [v0_0,v0_1,v0_2,v0_3,v0_4,v0_5,v0_6,v0_7],own 97 v0_6 us0_6,hU aU us0_6 p0_6 none,bx 99 ae p1]) ai ?_ ?_
  ·refine RC.vH mixed [0,0,0,0,0,0,0,0,0,0,0,0,0,2,0,0,0,0,0,0,0,0,0,0,0,0,0,0,0,0,2,0,0] [0,1,2,3,4,5,6,7,8,9,10,11,12,13,14,15,16,17,18,19,20,21,22,23,24,25,26,27,28,29,30,31,32] ?_
   have hw:=hw.drew
   refine DP.e0 zr (RL.aX zr BO (aZ zr (RL.aM 3 hw zr wH A2 (aZ zr (mv (vb p1.cD) (DP.d0 (fB hj (fun j hj=>?_) fun j hj=>?_)))))))
   rotate_left
   ·refine DP.e0 zr (bJ j (aZ zr (bJ j (aZ zr (bJ j (aZ zr (bJ j (aZ zr ?_))))))))
    refine bJ j (aZ zr (bJ j (aZ zr (bJ j (aZ zr (bJ j (aZ zr (bJ j ?_))))))))
    refine aZ zr (bJ j (pz zr (bJ j (tw zr (fG j (vb false) (aZ zr (mv (vb false) (aZ zr ?_))))))))
    refine RL.aX (hg:=⟨_,zr,zr⟩) zr BO (aZ zr (RL.aM (hg:=⟨_,zr,zr⟩) 3 hw zr wH A2 (aZ zr (RL.not (hg:=⟨_,zr,zr⟩) p1.cD (aZ zr (RL.move (vb (!p1.cD)) ⟨_,zr,zr⟩ (DP.d0 (fB hj (fun o hj=>?_) fun o hj=>?_))))))))
    rotate_left
    ·refine DP.e0 zr (bJ o (aZ zr (bJ o (aZ zr (bJ o (aZ zr (bJ o (aZ zr ?_))))))))
     refine bJ o (aZ zr (bJ o (aZ zr (bJ o (aZ zr (bJ o (aZ zr (bJ o ?_))))))))
     refine aZ zr (bJ o (pz zr (bJ o (tw zr (fG o (vb false) (hg:=⟨_,zr,zr⟩) (aZ zr (RL.pick false (vb false) zr (DP.d0 ?_))))))))
     refine DP.z ?_
     obtain rfl:=oi hj
     exact⟨rfl,hw.sp 4 [0,1,2,3]⟩
    refine DP.e0 zr (RL.move (vp b0 0) (cg o) (aZ zr (RL.nilCheck (hg:=(cg o)) zr (aZ zr (RL.aX (hg:=(cg o)) zr rj (aZ zr (RL.bH (hg:=(cg o)) 0 v0_6 hw u6 (aZ zr ?_))))))))
    refine RL.move (vi ab) (cg o) (aZ zr ?_)
    obtain⟨an,af,hj⟩:=bd hj
    have hl265:=hw.eA 2
    have hr266:=fE (default:aT) hl265 af
    have hq267:=jA 1 hw hr266 0
    refine RL.bU (hg:=(cg o)) 1 hw zr zr AB hr266 (aZ zr ?_)
    have hl268:=hw.eA 2
    have hr269:=fE (default:aT) hl268 af
    refine RL.kM (α:=aT) (cg o) (jA 1 hw hr269 0) vL (aZ zr ?_)
    have hl270:=hw.eA 2
    have hr271:=fE (default:aT) hl270 af
    refine RL.vF (fun u=>u.jP) an.jP 1 2 ab vn (default:aT) (cg o) zr hw zr (jA 1 hw hr271 0) zr zr af (fun u hu=>hu.1) fA fun ao hw=>(aZ zr (RL.aX (hg:=(cg o)) zr zj (aZ zr (RL.aM (hg:=(cg o)) 4 hw zr tZ cJ (pz zr ?_)))))
    obtain⟨aj,aq,hj⟩:=bd hj
    refine RL.call (cg o) zr ER [ao,(vi p1.Number)] zr (aD (iJ N (p1:=p1.Number) (i0:=0) hw zr aq) ?_)
    rintro _ w ⟨rfl,hw⟩
    refine tw zr (fG o (vb aj) (hg:=⟨_,zr,zr⟩) (aZ zr (RL.pick false (vb aj) zr (DP.d0 (DP.z ?_)))))
    obtain rfl:=oi hj
    exact⟨rfl,hw.sp 5 [1,2,3,4]⟩
   refine DP.e0 zr (RL.move (vp b0 0) (cg j) (aZ zr (RL.nilCheck (hg:=(cg j)) zr (aZ zr (RL.aX (hg:=(cg j)) zr rj (aZ zr (RL.bH (hg:=(cg j)) 0 v0_6 hw u6 (aZ zr ?_))))))))
   refine RL.move (vi ab) (cg j) (aZ zr ?_)
   obtain⟨ar,ag,hj⟩:=bd hj
   have hl242:=hw.eA 2
   have hr243:=fE (default:aT) hl242 ag
   have hq244:=jA 1 hw hr243 0
   refine RL.bU (hg:=(cg j)) 1 hw zr zr AB hr243 (aZ zr ?_)
   have hl245:=hw.eA 2
   have hr246:=fE (default:aT) hl245 ag
   refine RL.kM (α:=aT) (cg j) (jA 1 hw hr246 0) xJ (aZ zr ?_)
   have hl247:=hw.eA 2
   have hr248:=fE (default:aT) hl247 ag
   refine RL.vF (fun u=>u.aO) ar.aO 1 2 ab Aw (default:aT) (cg j) zr hw zr (jA 1 hw hr248 1) zr zr ag (fun u hu=>hu.2) fA fun au hw=>(aZ zr (RL.aX (hg:=(cg j)) zr zj (aZ zr (RL.aM (hg:=(cg j)) 4 hw zr tZ cJ (pz zr ?_)))))
   obtain⟨ak,av,hj⟩:=bd hj
   refine RL.call (cg j) zr ER [au,(vi p1.Number)] zr (aD (iJ N (p1:=p1.Number) (i0:=0) hw zr av) ?_)
   rintro _ w ⟨rfl,hw⟩
   refine tw zr (fG j (vb ak) (aZ zr (mv (vb ak) (DP.d0 (fB hj (fun ad hj=>?_) fun ad hj=>?_)))))
   ·refine DP.e0 zr (bJ ad (aZ zr (bJ ad (aZ zr (bJ ad (aZ zr (bJ ad (aZ zr ?_))))))))
    refine Cg (aZ zr (Cg (aZ zr (Cg (aZ zr (Cg (aZ zr (Cg ?_))))))))
    refine aZ zr (Cg (aZ zr (Cg (aZ zr (Cg (aZ zr (Cg (aZ zr ?_))))))))
    refine Cg (pz zr (Cg (tw zr (bJ ad (aZ zr (fG ad (vb true) (DP.d0 (DP.z ?_))))))))
    obtain rfl:=oi hj
    exact⟨rfl,hw.sp 5 [1,2,3,4]⟩
   refine DP.e0 zr (RL.aX (hg:=(cg ad)) zr BO (aZ zr (RL.aM (hg:=(cg ad)) 4 hw zr wH A2 (aZ zr (RL.not (hg:=(cg ad)) p1.cD (aZ zr (RL.move (vb (!p1.cD)) (cg ad) (DP.d0 ?_))))))))
   refine fB hj (fun aa hj=>?_) fun aa hj=>?_
   rotate_left
   ·refine DP.e0 zr (bJ aa (aZ zr (bJ aa (aZ zr (bJ aa (aZ zr (bJ aa (aZ zr ?_))))))))
    refine bJ aa (aZ zr (bJ aa (aZ zr (bJ aa (aZ zr (bJ aa (aZ zr (bJ aa ?_))))))))
    refine aZ zr (bJ aa (pz zr (bJ aa (tw zr (fG aa (vb false) (hg:=(cg ad)) (aZ zr (fG ad (vb false) (DP.d0 ?_))))))))
    refine DP.z ?_
    obtain rfl:=oi hj
    exact⟨rfl,hw.sp 5 [1,2,3,4]⟩
   refine DP.e0 zr (RL.move (vp b0 0) (cg aa) (aZ zr (RL.nilCheck (hg:=(cg aa)) zr (aZ zr (RL.aX (hg:=(cg aa)) zr rj (aZ zr (RL.bH (hg:=(cg aa)) 1 v0_6 hw u6 (aZ zr ?_))))))))
   refine RL.move (vi ab) (cg aa) (aZ zr ?_)
   obtain⟨aw,ah,hj⟩:=bd hj
   have hl254:=hw.eA 3
   have hr255:=fE (default:aT) hl254 ah
   have hq256:=jA 2 hw hr255 0
   refine RL.bU (hg:=(cg aa)) 2 hw zr zr AB hr255 (aZ zr ?_)
   have hl257:=hw.eA 3
   have hr258:=fE (default:aT) hl257 ah
   refine RL.kM (α:=aT) (cg aa) (jA 2 hw hr258 0) vL (aZ zr ?_)
   have hl259:=hw.eA 3
   have hr260:=fE (default:aT) hl259 ah
   refine RL.vF (fun u=>u.jP) aw.jP 2 3 ab vn (default:aT) (cg aa) zr hw zr (jA 2 hw hr260 0) zr zr ah (fun u hu=>hu.1) fA fun ax hw=>(aZ zr (RL.aX (hg:=(cg aa)) zr zj (aZ zr (RL.aM (hg:=(cg aa)) 5 hw zr tZ cJ (pz zr ?_)))))
   obtain⟨al,ay,hj⟩:=bd hj
   refine RL.call (cg aa) zr ER [ax,(vi p1.Number)] zr (aD (iJ N (p1:=p1.Number) (i0:=0) hw zr ay) ?_)
   rintro _ w ⟨rfl,hw⟩
   refine tw zr (fG aa (vb al) (hg:=(cg ad)) (aZ zr (fG ad (vb al) (DP.d0 (DP.z ?_)))))
   obtain rfl:=oi hj
   exact⟨rfl,hw.sp 6 [2,3,4,5]⟩
  rintro _ w ⟨τ,rfl,hw⟩
  refine aH (dT hb (fun hc hb=>?_) fun hc hb=>?_)
  rotate_left
  ·refine RC.skip (bO (aH (RC.region (mv (vi ab) (RL.fQ ab 1 (aQ (vi (IntKind.wrap .i64 (ab+1))) (RL.nil ?_)))))))
   obtain rfl:=oi hb
   exact⟨rfl,hw.sp 4 [0,1,2,3]⟩
  refine RC.sr (mv (vi ab) (aQ (vi ab) (RL.nt (RC.rb (bS ?_)))))
  obtain rfl:=oi hb
  exact⟨rfl,bX ⟨rfl,hw.pk 4 [0,1,2]⟩⟩
 ·intro r σ w e hK
  subst e
  refine bS ?_
  obtain rfl:=oi hb
  exact hK
 rintro ab _ w rfl ⟨τ,rfl,hw⟩
 rw [Fo.dF] at hb
 refine aH (RC.sr (aQ (vi (-1)) (RL.nt (RC.ret ?_))))
 obtain rfl:=oi hb
 exact bX ⟨rfl,hw.pk 4 [0,1,2]⟩
theorem mV {p0_2: (List cD)} {p0_4: (List Int)} {p0_5: (List (List aI))} {us0_6:List aT} {p0_6: (List cO)} {p1:fK} (hw:Holds E w (bc 57 b0 [v0_0,v0_1,v0_2,v0_3,v0_4,v0_5,v0_6,v0_7]::rd v0_2 p0_2::rd v0_4 p0_4::rd v0_5 p0_5::own 97 v0_6 us0_6::hU aU us0_6 p0_6 none::Γ)) (h1:Γ[i1]? =some (rd v1 p1)) (hb:eI N p0_2 p0_4 p0_5 p0_6 p1=some res):
    Calls bM 65 [(vp b0 0),v1].toArray w (gL (gl E Γ b0 v0_0 v0_1 v0_2 v0_3 v0_4 v0_5 v0_6 us0_6 p0_6 v0_7 res)):=by
 unfold eI at hb
 refine enter Tryz.func65 zr zr ?_
 have hw:=hw.dup (i1+6) h1
 refine RC.sr (RL.dJ 0 v1 hw zr fun ag w hw=>?_)
 refine aQ (vi 0) (RL.ns (mv (vp b0 0) (RL.bE (f:=(fun x=>x)) 0 hw zr Fd.self u5 fun aa hw=>?_)))
 have hw:=(((hw.dup 6 rfl).dup 6 rfl).dup 6 rfl).pull 6
 obtain⟨j,ab,hb⟩:=bd hb
 refine RL.call zt zr KM [(vp b0 0),aa] zr (aD (pj N (i1:=0) hw zr ab) ?_)
 rintro _ w ⟨o,rfl,hw⟩
 refine mv (.tuple #[o,(vb j.2)]) (RL.extract o (RL.extract (vb j.2) (RL.alloc hw GJ.z fun ah w hw=>?_)))
 refine RL.cB 0 hw 1 zr t6 fun w hw=>?_
 refine aQ (vb j.2) (RL.nq (RC.sr (mv (vb j.2) (RL.not j.2 (RL.nt (dT hb (fun hc hb=>?_) fun hc hb=>?_))))))
 ·refine RC.sr (aQ (vi (-1)) (RL.nt (RC.rt ?_)))
  obtain rfl:=oi hb
  exact bX ⟨rfl,hw.pk 12 [2,10,11]⟩
 refine RC.sx (mv (vp b0 0) (RL.bE (f:=(fun x=>x)) 0 hw zr Fd.self t6 fun ad hw=>?_))
 have hw:=((hw.pull 12).pull 12).pull 5
 obtain⟨ae,af,hb⟩:=bd hb
 refine RL.call zt zr KN [(vp b0 0),ad] zr (aD (l5 N (i1:=0) hw zr af) ?_)
 rintro _ w ⟨rfl,hw⟩
 refine aQ (vi ae) (RL.nt (RC.ret ?_))
 obtain rfl:=oi hb
 exact bX ⟨rfl,hw.pk 16 [0,1,2]⟩
end Go.Gk
