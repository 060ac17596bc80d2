/-
  Printed texts: Go functions as plain functions, and that they are. No statement of the seed is proved here.
-/
import Derived.Test.YtmmiladckdcjeabGreatDoorG1
import Derived.Test.YtmmiladckdcjeabGreatDoorG5
import Derived.Test.YtmmiladckdcjeabGreatDoorG6
import Derived.Test.YtmmiladckdcjeabGreatDoorA2
set_option linter.unusedVariables false
set_option linter.unusedSimpArgs false
set_option linter.unusedSectionVars false
set_option maxRecDepth 100000
set_option maxHeartbeats 4000000
namespace Go.Gk
open Go Go.Proofs
variable (N:Nat) {E w:World} {b0 i0 i1:Nat} {p1 res:Int} {v0 v0_0 v0_1 v0_2 v0_3 v0_4 v0_5 v0_6 v0_7 v1 v2:Value} {V:List HP}
def kX (E:World) (V:List HP) (r:Int) (U:Nat->Value) (w:World):Prop:=lG bN 72 Tryz.f14 (aY E V r) .ret U w
theorem nA {p0:kY} (j:Holds E w V) (h0:V[i0]? =some (rd v0 p0)) (o:dO N p0=some res):
    Calls bN 14 [v0].toArray w (gJ (aY E V res)):=by
 unfold dO at o
 refine enter Tryz.func14 zr zr ?_
 have j:=j.dup (i0+0) h0
 refine RC.sr (RL.dD 0 v0 j zr fun af w j=>?_)
 have j:=j.l6 (i:=0) rfl
 refine aP (vi 0) (RL.nq (RC.sr (RL.bJ 0 p0 j ux fun au j=>?_)))
 obtain⟨ai,av,o⟩:=bd o
 refine RL.call zt zr Nd [au] zr (aD (qu N (i0:=0) j zr av) ?_)
 rintro _ w ⟨rfl,j⟩
 refine aP (vi ai) (RL.ns (mv (vi ai) (ic ai 0 (RL.nt (dT o (fun hc o=>?_) fun hc o=>?_)))))
 ·refine RC.sr (mv (vi ai) (aP (vi ai) (RL.nt (RC.rt ?_))))
  obtain rfl:=oi o
  exact bY ⟨rfl,j.drop 3⟩
 refine RC.ss (RC.sr (aP (vi 0) (RL.nt ?_)))
 obtain⟨bm,hN,o⟩:=bd o
 refine RC.iter (fun(ae:Int)=>SH E V [(1,vp af 0),(4,vi ae)] [pt (vp af 0) p0]) (fun(ae:Int)=>SH E V [(1,vp af 0)] [pt (vp af 0) p0]) (kX E V) hN ?_ ?_ ?_ ?_
 ·exact j.sp 3 [1]
 ·rintro ae fl _ w ⟨O,rfl,j⟩ o
  refine RC.seq (RC.sr (mv (vi ae) (RL.dV 0 j zr iz gM fun bn j=>(RL.bJ 0 p0.aN j n7 fun bo j=>(RL.bB 0 p0.aN j wO (ic ae ((p0.aN.length:Int)) (RL.nt (dT o (fun hc o=>?_) fun hc o=>?_))))))))
  rotate_left
  ·refine RC.ex ?_
   obtain rfl:=oi o
   exact⟨rfl,j.sp 3 [2]⟩
  refine RC.ss (RC.bs (aP (vi 0) (RL.nt ?_)))
  obtain⟨bp,hN,o⟩:=bd o
  refine RC.iter (fun(ah:Int)=>SH E V [(1,vp af 0),(4,vi ae),(5,vi ah)] [pt (vp af 0) p0]) (fun(ah:Int)=>SH E V [(1,vp af 0),(4,vi ae)] [pt (vp af 0) p0]) (kX E V) hN ?_ ?_ ?_ ?_
  ·exact j.sp 3 [2]
  ·rintro ah fl _ w ⟨O,rfl,j⟩ o
   refine RC.seq (RC.sr (mv (vi ah) (mv (vi ae) (ic ah ae (RL.nt (dT o (fun hc o=>?_) fun hc o=>?_))))))
   rotate_left
   ·refine RC.ex ?_
    obtain rfl:=oi o
    exact⟨rfl,j.sp 1 [0]⟩
   refine RC.ss (RC.block (RC.seq ?_))
   obtain⟨an,hj,o⟩:=bd o
   refine RC.jn (fun(an:Bool)=>SH E V [(1,vp af 0),(4,vi ae),(5,vi ah),(51,vb an)] [pt (vp af 0) p0]) an ?_ ?_
   ·refine RC.vV mixed [0,0,0,0,0,0,0,0,0,0,2,0,0,0,0,0,0,2,1,1,1,1,1,2,2,0] [0,1,2,3,4,5,6,7,8,9,10,11,12,13,14,15,16,18,19,20,21,22,17,23,24,25] ?_
    have j:=j.drew
    refine DP.e0 zr (RL.dV 0 j zr iz gM fun bq j=>(aW zr (RL.bJ 0 p0.aN j n7 fun br j=>(aW zr (mv (vi ae) (aW zr ?_))))))
    obtain⟨aw,ax,hj⟩:=bd hj
    refine RL.bO 0 j qQ ax fun bt j=>(aW zr (RL.bJ 0 aw j mj fun ay j=>(aW zr (RL.dV 4 j zr iz gM fun bu j=>(aW zr (RL.bJ 0 p0.aN j n7 fun bw j=>(aW zr (mv (vi ah) ?_))))))))
    refine aW zr ?_
    obtain⟨az,a0,hj⟩:=bd hj
    refine RL.bO 0 j qQ a0 fun bx j=>(aW zr (RL.bJ 0 az j mj fun a1 j=>(oZ zr ?_)))
    obtain⟨a2,a3,hj⟩:=bd hj
    refine RL.call zt zr Nf [ay,a1] zr (aD (sS N (i0:=4) (i1:=0) j zr zr a3) ?_)
    rintro _ w ⟨rfl,j⟩
    refine rB zr (mv (vb a2) (DP.d0 (fA hj (fun aa hj=>?_) fun aa hj=>?_)))
    rotate_left
    ·refine DP.e0 zr (bC aa (aW zr (bC aa (aW zr (bC aa (aW zr (bC aa (aW zr ?_))))))))
     refine bC aa (DP.d0 (DP.e1 undef zr (fun w=>bC aa DP.d1) (DP.e1 undef zr (fun w=>bC aa DP.d1) (DP.e1 undef zr (fun w=>bC aa DP.d1) (DP.e1 undef zr (fun w=>bC aa DP.d1) (DP.e1 undef zr (fun w=>bC aa DP.d1) (DP.e2 zr (bC aa ?_))))))))
     refine EI zr (bC aa (EI zr (bC aa (rB zr (fB aa (vb false) (DP.d0 (DP.z ?_)))))))
     obtain rfl:=oi hj
     exact⟨rfl,j.sp 9 [8]⟩
    refine DP.e0 zr (RL.dV (hg:=(cg aa)) 8 j zr iz gM fun bz j=>(aW zr (RL.bJ (hg:=(cg aa)) 0 p0.aN j n7 fun b0 j=>(aW zr (RL.move (vi ae) (cg aa) (aW zr ?_))))))
    obtain⟨a4,a5,hj⟩:=bd hj
    refine RL.bO (hg:=(cg aa)) 0 j qQ a5 fun b1 j=>(aW zr (RL.bJ (hg:=(cg aa)) 0 a4 j mj fun a6 j=>(DP.d0 (DP.CH 12 zr (cg aa) j zr iz gM fun b2 j=>(DP.zT p0.aN 0 zr (cg aa) j n7 fun b3 a704 b4 j=>(DP.e1 (vi ah) zr (fun w=>RL.move (vi ah) (cg aa) DP.d1) ?_))))))
    obtain⟨a7,a8,hj⟩:=bd hj
    refine DP.wM (hg:=(cg aa)) 1 zr j qQ a8 fun b5 j=>(DP.zT a7 0 zr (cg aa) j mj fun a9 a709 b6 j=>(DP.e2 zr ?_))
    obtain⟨b7,ba,hj⟩:=bd hj
    refine RL.call (cg aa) zr GD [a6] zr (aD (fK N (i0:=6) j zr ba) ?_)
    rintro bb w j
    refine DP.d2 (⟨⟨zt,j.iv 4⟩,j.iv 1⟩) (DP.e2 zr ?_)
    obtain⟨b8,bc,hj⟩:=bd hj
    refine RL.call (cg aa) zr GD [a9] zr (aD (fK N (i0:=2) j zr bc) ?_)
    rintro bf w j
    refine DP.d2 (⟨⟨zt,j.iv 5⟩,j.iv 2⟩) (DP.e2 zr ?_)
    obtain⟨bg,bh,hj⟩:=bd hj
    refine RL.call (cg aa) zr Ng [bb,bf] zr (aD (sm N (i0:=1) (i1:=0) j zr zr bh) ?_)
    rintro _ w ⟨rfl,j⟩
    refine DP.d2 (⟨⟨zt,j.iv 5⟩,j.iv 2⟩) (DP.e0 zr (fB aa (vb bg) (DP.d0 ?_)))
    have j:=j.pl 21 [0,1,3,4,6,7,8,9,10,11,12,13,14,15,16,17,18,19,20]
    refine DP.z ?_
    obtain rfl:=oi hj
    exact⟨rfl,j.sp 19 [18]⟩
   rintro _ w ⟨O,rfl,j⟩
   refine aH (dT o (fun hc o=>?_) fun hc o=>?_)
   ·refine RC.sr (aP (vi 12) (RL.nt (RC.rb (bR ?_))))
    obtain rfl:=oi o
    exact⟨rfl,bY ⟨rfl,j.drop 1⟩⟩
   refine RC.skip (bP (aH (RC.region (mv (vi ah) (RL.gk ah 1 (aP (vi (IntKind.wrap .i64 (ah+1))) (RL.nil ?_)))))))
   obtain rfl:=oi o
   exact⟨rfl,j.sp 1 [0]⟩
  ·intro r U w e hK
   subst e
   refine oL (bR ?_)
   obtain rfl:=oi o
   exact⟨rfl,hK⟩
  rintro ah _ w rfl ⟨O,rfl,j⟩
  rw [Fo.cZ] at o
  refine bP (aH (RC.region (mv (vi ae) (RL.gk ae 1 (aP (vi (IntKind.wrap .i64 (ae+1))) (RL.nil ?_))))))
  obtain rfl:=oi o
  exact⟨rfl,j.sp 1 [0]⟩
 ·intro r U w e hK
  subst e
  refine bR ?_
  obtain rfl:=oi o
  exact hK
 rintro ae _ w rfl ⟨O,rfl,j⟩
 rw [Fo.cZ] at o
 refine aH (RC.sr (aP (vi 0) (RL.nq (RC.sr (aP (vi 0) (RL.nt ?_))))))
 obtain⟨b9,hN,o⟩:=bd o
 refine RC.iter (fun(ad:Int×Int)=>SH E V [(1,vp af 0),(6,vi ad.1),(7,vi ad.2)] [pt (vp af 0) p0]) (fun(ad:Int×Int)=>SH E V [(6,vi ad.1)] [pt (vp af 0) p0]) (kX E V) hN ?_ ?_ ?_ ?_
 ·exact j.sp 1 [0]
 ·rintro ad fl _ w ⟨O,rfl,j⟩ o
  refine RC.seq (RC.sr (mv (vi ad.2) (RL.dV 0 j zr mL jf fun ca j=>(RL.bJ 0 p0.aJ j pY fun cb j=>(RL.bB 0 p0.aJ j qP (ic ad.2 ((p0.aJ.length:Int)) (RL.nt (dT o (fun hc o=>?_) fun hc o=>?_))))))))
  rotate_left
  ·refine RC.ex ?_
   obtain rfl:=oi o
   exact⟨rfl,j.sp 3 [2]⟩
  refine RC.ss (RC.bs (RL.bJ 2 p0 j ux fun bj j=>(mv (vi ad.2) ?_)))
  obtain⟨ar,bk,o⟩:=bd o
  refine RL.call zt zr LN [bj,(vi ad.2)] zr (aD (mQ N (p1:=ad.2) (i0:=0) j zr bk) ?_)
  rintro al w j
  refine aP al (RL.nq (RC.sr (mv al (RL.fL 0 ar j nC (ic ((ar.length:Int)) 2000 (RL.nt (dT o (fun hc o=>?_) fun hc o=>?_)))))))
  ·refine RC.sr (aP (vi 2) (RL.nt (RC.rt (oL (bR ?_)))))
   obtain rfl:=oi o
   exact⟨rfl,bY ⟨rfl,j.drop 5⟩⟩
  refine RC.sn (RC.region (mv (vi ad.1) (mv al ?_)))
  have j:=j.freeze 0
  obtain⟨ao,bl,o⟩:=bd o
  refine RL.call zt zr LO [al] zr (aD (nz N (i0:=0) j zr bl) ?_)
  rintro cc w j
  refine RL.fL 0 ao j qP (RL.gk ad.1 (ao.length:Int) (aP (vi (IntKind.wrap .i64 (ad.1+ (ao.length:Int)))) (RL.nil (bP (aH (RC.region (mv (vi ad.2) (RL.gk ad.2 1 ?_))))))))
  refine aP (vi (IntKind.wrap .i64 (ad.2+1))) (RL.nil ?_)
  obtain rfl:=oi o
  exact⟨rfl,j.sp 6 [5]⟩
 ·intro r U w e hK
  subst e
  refine bR ?_
  obtain rfl:=oi o
  exact hK
 rintro ad _ w rfl ⟨O,rfl,j⟩
 rw [Fo.cZ] at o
 refine aH (RC.seq (RC.sr (mv (vi ad.1) (ic ad.1 2000 (RL.nt (dT o (fun hc o=>?_) fun hc o=>?_))))))
 ·refine RC.sr (aP (vi 2) (RL.nt (RC.rt ?_)))
  obtain rfl:=oi o
  exact bY ⟨rfl,j.drop 1⟩
 refine RC.sx (aP (vi 0) (RL.nt (RC.ret ?_)))
 obtain rfl:=oi o
 exact bY ⟨rfl,j.drop 1⟩
def vj (E:World) (V:List HP) (r:Bool) (U:Nat->Value) (w:World):Prop:=lG bN 62 Tryz.f36 (aU E V r) .ret U w
theorem uI {p0: (List aI)} {p1:aI} {res:Bool} (hw:Holds E w V) (h0:V[i0]? =some (rd v0 p0)) (h1:V[i1]? =some (rd v1 p1)) (hb:jk N p0 p1=some res):
    Calls bN 36 [v0,v1].toArray w (gJ (aU E V res)):=by
 unfold jk at hb
 refine enter Tryz.func36 zr zr ?_
 have hw:=(hw.dup (i0+0) h0).dup (i1+1) h1
 refine RC.sr (RL.dD 0 v1 hw zr fun ag w hw=>?_)
 refine aP (vb false) (RL.nq (RC.sr (aP (vi 0) (RL.nt ?_))))
 obtain⟨aq,hN,hb⟩:=bd hb
 refine RC.iter (fun(af:Int)=>SH E V [(0,v0),(3,vp ag 0),(5,vi af)] [rd v0 p0,bx 69 ag p1]) (fun(af:Int)=>SH E V [] [rd v0 p0,bx 69 ag p1]) (vj E V) hN ?_ ?_ ?_ ?_
 ·exact hw.sp 3 [2,0]
 ·rintro af fl _ w ⟨O,rfl,hw⟩ hb
  refine RC.seq (RC.sr (mv (vi af) (mv v0 (RL.bB 0 p0 hw nC (ic af ((p0.length:Int)) (RL.nt (dT hb (fun hc hb=>?_) fun hc hb=>?_)))))))
  rotate_left
  ·refine RC.ex ?_
   obtain rfl:=oi hb
   exact⟨rfl,hw.sp 2 [0,1]⟩
  refine RC.ss (RC.block (RC.seq (RC.zm mixed ?_)))
  have hw:=hw.drew
  refine RO.go (mv v0 (RO.nx (mv (vi af) (RO.nx ?_))))
  obtain⟨j,aj,hb⟩:=bd hb
  refine RL.bO 0 hw jm aj fun au hw=>(RO.nx (RL.dV 0 hw zr jo eJ fun av hw=>(RO.nx (RL.bG j.X1 0 hw cL (RO.nx (RL.aX zr jo (RO.nx (RL.aM 3 hw zr eJ cL ?_))))))))
  refine RO.nx (RL.min j.X1 p1.X1 (RO.nx (mv v0 (RO.nx (mv (vi af) (RO.nx ?_))))))
  obtain⟨o,ak,hb⟩:=bd hb
  refine RL.bO 2 hw jm ak fun aw hw=>(RO.nx (RL.dV 0 hw zr iw dQ fun ax hw=>(RO.nx (RL.bG o.X0 0 hw cL (RO.nx (RL.aX zr iw (RO.nx (RL.aM 5 hw zr dQ cL ?_))))))))
  refine RO.nx (RL.max o.X0 p1.X0 (RO.nx (RL.gk (if p1.X1<j.X1 then p1.X1 else j.X1) (if o.X0<p1.X0 then p1.X0 else o.X0) (RO.nx (aP (vi (IntKind.wrap .i64 ((if p1.X1<j.X1 then p1.X1 else j.X1) - (if o.X0<p1.X0 then p1.X0 else o.X0)))) (RO.last (aH (RC.seq ?_))))))))
  refine RC.zm mixed ?_
  have hw:=hw.drew
  refine RO.go (mv v0 (RO.nx (mv (vi af) (RO.nx ?_))))
  obtain⟨aa,al,hb⟩:=bd hb
  refine RL.bO 4 hw jm al fun ay hw=>(RO.nx (RL.dV 0 hw zr kA fJ fun az hw=>(RO.nx (RL.bG aa.Y1 0 hw cL (RO.nx (RL.aX zr kA (RO.nx (RL.aM 7 hw zr fJ cL ?_))))))))
  refine RO.nx (RL.min aa.Y1 p1.Y1 (RO.nx (mv v0 (RO.nx (mv (vi af) (RO.nx ?_))))))
  obtain⟨ab,an,hb⟩:=bd hb
  refine RL.bO 6 hw jm an fun a0 hw=>(RO.nx (RL.dV 0 hw zr g8 dH fun a1 hw=>(RO.nx (RL.bG ab.Y0 0 hw cL (RO.nx (RL.aX zr g8 (RO.nx (RL.aM 9 hw zr dH cL ?_))))))))
  refine RO.nx (RL.max ab.Y0 p1.Y0 (RO.nx (RL.gk (if p1.Y1<aa.Y1 then p1.Y1 else aa.Y1) (if ab.Y0<p1.Y0 then p1.Y0 else ab.Y0) (RO.nx (aP (vi (IntKind.wrap .i64 ((if p1.Y1<aa.Y1 then p1.Y1 else aa.Y1) - (if ab.Y0<p1.Y0 then p1.Y0 else ab.Y0)))) (RO.last (aH (RC.sr ?_))))))))
  refine mv (vi (IntKind.wrap .i64 ((if p1.X1<j.X1 then p1.X1 else j.X1) - (if o.X0<p1.X0 then p1.X0 else o.X0)))) (ic ((IntKind.wrap .i64 ((if p1.X1<j.X1 then p1.X1 else j.X1) - (if o.X0<p1.X0 then p1.X0 else o.X0)))) 0 (mv (vb (decide ((IntKind.wrap .i64 ((if p1.X1<j.X1 then p1.X1 else j.X1) - (if o.X0<p1.X0 then p1.X0 else o.X0)))>0))) (RL.gs true (decide ((IntKind.wrap .i64 ((if p1.X1<j.X1 then p1.X1 else j.X1) - (if o.X0<p1.X0 then p1.X0 else o.X0)))>0)) (vi (IntKind.wrap .i64 ((if p1.Y1<aa.Y1 then p1.Y1 else aa.Y1) - (if ab.Y0<p1.Y0 then p1.Y0 else ab.Y0)))) rfl rfl rfl cH (RL.gs true (decide ((IntKind.wrap .i64 ((if p1.X1<j.X1 then p1.X1 else j.X1) - (if o.X0<p1.X0 then p1.X0 else o.X0)))>0)) (vb ((IntKind.wrap .i64 ((if p1.Y1<aa.Y1 then p1.Y1 else aa.Y1) - (if ab.Y0<p1.Y0 then p1.Y0 else ab.Y0)))==0)) rfl rfl rfl (dK .eql .i64 (IntKind.wrap .i64 ((if p1.Y1<aa.Y1 then p1.Y1 else aa.Y1) - (if ab.Y0<p1.Y0 then p1.Y0 else ab.Y0))) 0 rfl (fun h=>by exact(cM h:cv (true&&((decide ((IntKind.wrap .i64 ((if p1.X1<j.X1 then p1.X1 else j.X1) - (if o.X0<p1.X0 then p1.X0 else o.X0)))>0))==true)) (vi (IntKind.wrap .i64 ((if p1.Y1<aa.Y1 then p1.Y1 else aa.Y1) - (if ab.Y0<p1.Y0 then p1.Y0 else ab.Y0))))= (vi (IntKind.wrap .i64 ((if p1.Y1<aa.Y1 then p1.Y1 else aa.Y1) - (if ab.Y0<p1.Y0 then p1.Y0 else ab.Y0)))))) (fun _=>rfl) rfl) (RL.pick (decide ((IntKind.wrap .i64 ((if p1.X1<j.X1 then p1.X1 else j.X1) - (if o.X0<p1.X0 then p1.X0 else o.X0)))>0)) (vb ((decide ((IntKind.wrap .i64 ((if p1.X1<j.X1 then p1.X1 else j.X1) - (if o.X0<p1.X0 then p1.X0 else o.X0)))>0))&&((IntKind.wrap .i64 ((if p1.Y1<aa.Y1 then p1.Y1 else aa.Y1) - (if ab.Y0<p1.Y0 then p1.Y0 else ab.Y0)))==0))) (gr true rfl) (mv (vb ((decide ((IntKind.wrap .i64 ((if p1.X1<j.X1 then p1.X1 else j.X1) - (if o.X0<p1.X0 then p1.X0 else o.X0)))>0))&&((IntKind.wrap .i64 ((if p1.Y1<aa.Y1 then p1.Y1 else aa.Y1) - (if ab.Y0<p1.Y0 then p1.Y0 else ab.Y0)))==0))) (RL.gs true ((decide ((IntKind.wrap .i64 ((if p1.X1<j.X1 then p1.X1 else j.X1) - (if o.X0<p1.X0 then p1.X0 else o.X0)))>0))&&((IntKind.wrap .i64 ((if p1.Y1<aa.Y1 then p1.Y1 else aa.Y1) - (if ab.Y0<p1.Y0 then p1.Y0 else ab.Y0)))==0)) (vi (IntKind.wrap .i64 ((if p1.X1<j.X1 then p1.X1 else j.X1) - (if o.X0<p1.X0 then p1.X0 else o.X0)))) rfl rfl rfl cH (RL.gs true ((decide ((IntKind.wrap .i64 ((if p1.X1<j.X1 then p1.X1 else j.X1) - (if o.X0<p1.X0 then p1.X0 else o.X0)))>0))&&((IntKind.wrap .i64 ((if p1.Y1<aa.Y1 then p1.Y1 else aa.Y1) - (if ab.Y0<p1.Y0 then p1.Y0 else ab.Y0)))==0)) (vb ((IntKind.wrap .i64 ((if p1.X1<j.X1 then p1.X1 else j.X1) - (if o.X0<p1.X0 then p1.X0 else o.X0)))==0)) rfl rfl rfl (dK .eql .i64 (IntKind.wrap .i64 ((if p1.X1<j.X1 then p1.X1 else j.X1) - (if o.X0<p1.X0 then p1.X0 else o.X0))) 0 rfl (fun h=>by exact(cM h:cv (true&&(((decide ((IntKind.wrap .i64 ((if p1.X1<j.X1 then p1.X1 else j.X1) - (if o.X0<p1.X0 then p1.X0 else o.X0)))>0))&&((IntKind.wrap .i64 ((if p1.Y1<aa.Y1 then p1.Y1 else aa.Y1) - (if ab.Y0<p1.Y0 then p1.Y0 else ab.Y0)))==0))==false)) (vi (IntKind.wrap .i64 ((if p1.X1<j.X1 then p1.X1 else j.X1) - (if o.X0<p1.X0 then p1.X0 else o.X0))))= (vi (IntKind.wrap .i64 ((if p1.X1<j.X1 then p1.X1 else j.X1) - (if o.X0<p1.X0 then p1.X0 else o.X0)))))) (fun _=>rfl) rfl) ?_))))))))
  refine RL.gs true ((decide ((IntKind.wrap .i64 ((if p1.X1<j.X1 then p1.X1 else j.X1) - (if o.X0<p1.X0 then p1.X0 else o.X0)))>0))&&((IntKind.wrap .i64 ((if p1.Y1<aa.Y1 then p1.Y1 else aa.Y1) - (if ab.Y0<p1.Y0 then p1.Y0 else ab.Y0)))==0)) (vb ((IntKind.wrap .i64 ((if p1.X1<j.X1 then p1.X1 else j.X1) - (if o.X0<p1.X0 then p1.X0 else o.X0)))==0)) rfl rfl rfl (cH (hx:=fun h=>by exact(cM h:cv (true&&(((decide ((IntKind.wrap .i64 ((if p1.X1<j.X1 then p1.X1 else j.X1) - (if o.X0<p1.X0 then p1.X0 else o.X0)))>0))&&((IntKind.wrap .i64 ((if p1.Y1<aa.Y1 then p1.Y1 else aa.Y1) - (if ab.Y0<p1.Y0 then p1.Y0 else ab.Y0)))==0))==false)) (vb ((IntKind.wrap .i64 ((if p1.X1<j.X1 then p1.X1 else j.X1) - (if o.X0<p1.X0 then p1.X0 else o.X0)))==0))= (vb ((IntKind.wrap .i64 ((if p1.X1<j.X1 then p1.X1 else j.X1) - (if o.X0<p1.X0 then p1.X0 else o.X0)))==0))))) (RL.gs (true&&(((decide ((IntKind.wrap .i64 ((if p1.X1<j.X1 then p1.X1 else j.X1) - (if o.X0<p1.X0 then p1.X0 else o.X0)))>0))&&((IntKind.wrap .i64 ((if p1.Y1<aa.Y1 then p1.Y1 else aa.Y1) - (if ab.Y0<p1.Y0 then p1.Y0 else ab.Y0)))==0))==false)) ((IntKind.wrap .i64 ((if p1.X1<j.X1 then p1.X1 else j.X1) - (if o.X0<p1.X0 then p1.X0 else o.X0)))==0) (vi (IntKind.wrap .i64 ((if p1.Y1<aa.Y1 then p1.Y1 else aa.Y1) - (if ab.Y0<p1.Y0 then p1.Y0 else ab.Y0)))) rfl rfl rfl cH (RL.gs (true&&(((decide ((IntKind.wrap .i64 ((if p1.X1<j.X1 then p1.X1 else j.X1) - (if o.X0<p1.X0 then p1.X0 else o.X0)))>0))&&((IntKind.wrap .i64 ((if p1.Y1<aa.Y1 then p1.Y1 else aa.Y1) - (if ab.Y0<p1.Y0 then p1.Y0 else ab.Y0)))==0))==false)) ((IntKind.wrap .i64 ((if p1.X1<j.X1 then p1.X1 else j.X1) - (if o.X0<p1.X0 then p1.X0 else o.X0)))==0) (vb (decide ((IntKind.wrap .i64 ((if p1.Y1<aa.Y1 then p1.Y1 else aa.Y1) - (if ab.Y0<p1.Y0 then p1.Y0 else ab.Y0)))>0))) rfl rfl rfl (dK .gtr .i64 (IntKind.wrap .i64 ((if p1.Y1<aa.Y1 then p1.Y1 else aa.Y1) - (if ab.Y0<p1.Y0 then p1.Y0 else ab.Y0))) 0 rfl (fun h=>by exact(cM h:cv ((true&&(((decide ((IntKind.wrap .i64 ((if p1.X1<j.X1 then p1.X1 else j.X1) - (if o.X0<p1.X0 then p1.X0 else o.X0)))>0))&&((IntKind.wrap .i64 ((if p1.Y1<aa.Y1 then p1.Y1 else aa.Y1) - (if ab.Y0<p1.Y0 then p1.Y0 else ab.Y0)))==0))==false))&&(((IntKind.wrap .i64 ((if p1.X1<j.X1 then p1.X1 else j.X1) - (if o.X0<p1.X0 then p1.X0 else o.X0)))==0)==true)) (vi (IntKind.wrap .i64 ((if p1.Y1<aa.Y1 then p1.Y1 else aa.Y1) - (if ab.Y0<p1.Y0 then p1.Y0 else ab.Y0))))= (vi (IntKind.wrap .i64 ((if p1.Y1<aa.Y1 then p1.Y1 else aa.Y1) - (if ab.Y0<p1.Y0 then p1.Y0 else ab.Y0)))))) (fun _=>rfl) rfl) (RL.gs true ((decide ((IntKind.wrap .i64 ((if p1.X1<j.X1 then p1.X1 else j.X1) - (if o.X0<p1.X0 then p1.X0 else o.X0)))>0))&&((IntKind.wrap .i64 ((if p1.Y1<aa.Y1 then p1.Y1 else aa.Y1) - (if ab.Y0<p1.Y0 then p1.Y0 else ab.Y0)))==0)) (vb (((IntKind.wrap .i64 ((if p1.X1<j.X1 then p1.X1 else j.X1) - (if o.X0<p1.X0 then p1.X0 else o.X0)))==0)&&(decide ((IntKind.wrap .i64 ((if p1.Y1<aa.Y1 then p1.Y1 else aa.Y1) - (if ab.Y0<p1.Y0 then p1.Y0 else ab.Y0)))>0)))) rfl rfl rfl (kI ((IntKind.wrap .i64 ((if p1.X1<j.X1 then p1.X1 else j.X1) - (if o.X0<p1.X0 then p1.X0 else o.X0)))==0) rfl (fun h=>by exact(cM h:cv (true&&(((decide ((IntKind.wrap .i64 ((if p1.X1<j.X1 then p1.X1 else j.X1) - (if o.X0<p1.X0 then p1.X0 else o.X0)))>0))&&((IntKind.wrap .i64 ((if p1.Y1<aa.Y1 then p1.Y1 else aa.Y1) - (if ab.Y0<p1.Y0 then p1.Y0 else ab.Y0)))==0))==false)) (vb ((IntKind.wrap .i64 ((if p1.X1<j.X1 then p1.X1 else j.X1) - (if o.X0<p1.X0 then p1.X0 else o.X0)))==0))= (vb ((IntKind.wrap .i64 ((if p1.X1<j.X1 then p1.X1 else j.X1) - (if o.X0<p1.X0 then p1.X0 else o.X0)))==0)))) (fun h=>by exact gr (true&&(((decide ((IntKind.wrap .i64 ((if p1.X1<j.X1 then p1.X1 else j.X1) - (if o.X0<p1.X0 then p1.X0 else o.X0)))>0))&&((IntKind.wrap .i64 ((if p1.Y1<aa.Y1 then p1.Y1 else aa.Y1) - (if ab.Y0<p1.Y0 then p1.Y0 else ab.Y0)))==0))==false)) h)) (RL.pick ((decide ((IntKind.wrap .i64 ((if p1.X1<j.X1 then p1.X1 else j.X1) - (if o.X0<p1.X0 then p1.X0 else o.X0)))>0))&&((IntKind.wrap .i64 ((if p1.Y1<aa.Y1 then p1.Y1 else aa.Y1) - (if ab.Y0<p1.Y0 then p1.Y0 else ab.Y0)))==0)) (vb (((decide ((IntKind.wrap .i64 ((if p1.X1<j.X1 then p1.X1 else j.X1) - (if o.X0<p1.X0 then p1.X0 else o.X0)))>0))&&((IntKind.wrap .i64 ((if p1.Y1<aa.Y1 then p1.Y1 else aa.Y1) - (if ab.Y0<p1.Y0 then p1.Y0 else ab.Y0)))==0))||(((IntKind.wrap .i64 ((if p1.X1<j.X1 then p1.X1 else j.X1) - (if o.X0<p1.X0 then p1.X0 else o.X0)))==0)&&(decide ((IntKind.wrap .i64 ((if p1.Y1<aa.Y1 then p1.Y1 else aa.Y1) - (if ab.Y0<p1.Y0 then p1.Y0 else ab.Y0)))>0))))) (oh true) (RL.nt (dT hb (fun hc hb=>?_) fun hc hb=>?_))))))
  ·refine RC.sr (aP (vb true) (RL.nt (RC.rb (bR ?_))))
   obtain rfl:=oi hb
   exact⟨rfl,bY ⟨rfl,hw.drop 10⟩⟩
  refine RC.skip (bP (aH (RC.region (mv (vi af) (RL.gk af 1 (aP (vi (IntKind.wrap .i64 (af+1))) (RL.nil ?_)))))))
  obtain rfl:=oi hb
  exact⟨rfl,hw.sp 10 [8,9]⟩
 ·intro r U w e hK
  subst e
  refine bR ?_
  obtain rfl:=oi hb
  exact hK
 rintro af _ w rfl ⟨O,rfl,hw⟩
 rw [Fo.cZ] at hb
 refine aH (RC.sr (aP (vb false) (RL.nt (RC.ret ?_))))
 obtain rfl:=oi hb
 exact bY ⟨rfl,hw.drop 2⟩
def rJ (E:World) (V:List HP) (r:Bool) (U:Nat->Value) (w:World):Prop:=lG bN 18 Tryz.f73 (aU E V r) .ret U w
theorem eG {p0: (List Int)} {res:Bool} (o:Holds E w V) (h0:V[i0]? =some (rd v0 p0)) (j:cE N p0 p1=some res):
    Calls bN 73 [v0,(vi p1)].toArray w (gJ (aU E V res)):=by
 unfold cE at j
 refine enter Tryz.func73 zr zr ?_
 have o:=o.dup (i0+0) h0
 refine RC.sr (aP (vb false) (RL.nq (RC.sr (aP (vi 0) (RL.nt ?_)))))
 obtain⟨ah,hN,j⟩:=bd j
 refine RC.iter (fun(aa:Int)=>SH E V [(0,v0),(1,vi p1),(5,vi aa)] [rd v0 p0]) (fun(aa:Int)=>SH E V [] [rd v0 p0]) (rJ E V) hN ?_ ?_ ?_ ?_
 ·exact o.sp 1 [0]
 ·rintro aa fl _ w ⟨O,rfl,o⟩ j
  refine RC.seq (RC.sr (mv (vi aa) (mv v0 (RL.bB 0 p0 o mB (ic aa ((p0.length:Int)) (RL.nt (dT j (fun hc j=>?_) fun hc j=>?_)))))))
  rotate_left
  ·refine RC.ex ?_
   obtain rfl:=oi j
   exact⟨rfl,o.sp 1 [0]⟩
  refine RC.ss (RC.bs (mv v0 (mv (vi aa) ?_)))
  obtain⟨ad,af,j⟩:=bd j
  refine RL.bO 0 o eF af fun aj o=>(RL.bG ad 0 o cL (mv (vi p1) (ic ad p1 (RL.nt (dT j (fun hc j=>?_) fun hc j=>?_)))))
  ·refine RC.sr (aP (vb true) (RL.nt (RC.rb (bR ?_))))
   obtain rfl:=oi j
   exact⟨rfl,bY ⟨rfl,o.drop 2⟩⟩
  refine RC.skip (bP (aH (RC.region (mv (vi aa) (RL.gk aa 1 (aP (vi (IntKind.wrap .i64 (aa+1))) (RL.nil ?_)))))))
  obtain rfl:=oi j
  exact⟨rfl,o.sp 2 [1]⟩
 ·intro r U w e hK
  subst e
  refine bR ?_
  obtain rfl:=oi j
  exact hK
 rintro aa _ w rfl ⟨O,rfl,o⟩
 rw [Fo.cZ] at j
 refine aH (RC.sr (aP (vb false) (RL.nt (RC.ret ?_))))
 obtain rfl:=oi j
 exact bY ⟨rfl,o.drop 1⟩
theorem oC {p0: (List Int)} {res: (List Int)} (j:Holds E w V) (h0:V[i0]? =some (rd v0 p0)) (o:iI N p0 p1=some res):
    Calls bN 109 [v0,(vi p1)].toArray w (gJ (nD E V res)):=by
 unfold iI at o
 refine enter Tryz.func109 zr zr ?_
 have j:=j.dup (i0+0) h0
 refine RC.sr (aP (.slice none 0 0) (RL.ns (mv v0 (RL.bB 0 p0 j mB (aP (vi p0.length) (RL.nq ?_))))))
 obtain⟨az,hN,o⟩:=bd o
 refine RC.iter (fun(aa:Int)=>SH E V [(0,v0),(1,vi p1),(5,vi aa)] [rd v0 p0]) (fun(aa:Int)=>SH E V [(0,v0),(1,vi p1),(5,vi aa)] [rd v0 p0]) (fun(r:Empty) _ _=>r.elim) hN ?_ ?_ ?_ ?_
 ·exact j.sp 1 [0]
 ·rintro aa fl _ w ⟨O,rfl,j⟩ o
  refine RC.seq (RC.seq ?_)
  obtain⟨af,hj,o⟩:=bd o
  refine RC.jn (fun(af:Bool)=>SH E V [(0,v0),(1,vi p1),(5,vi aa),(19,vb af)] [rd v0 p0]) af ?_ ?_
  ·refine RC.region (mv (vi aa) (ic aa 0 (mv (vb (decide (aa>0))) (fA hj (fun ab hj=>?_) fun ab hj=>?_))))
   rotate_left
   ·refine bC ab (bC ab (bC ab (bC ab (bC ab (bC ab (bC ab (fB ab (vb false) (RL.nil ?_))))))))
    obtain rfl:=oi hj
    exact⟨rfl,j.sp 1 [0]⟩
   refine RL.move v0 (cg ab) (RL.move (vi aa) (cg ab) (RL.gk (hg:=(cg ab)) aa 1 ?_))
   obtain⟨ag,ao,hj⟩:=bd hj
   refine RL.bO (hg:=(cg ab)) 0 j eF ao fun a1 j=>(RL.bG (hg:=(cg ab)) ag 0 j cL (RL.move (vi p1) (cg ab) (RL.lh ag p1 (cg ab) (fB ab (vb (decide (ag>p1))) (RL.nil ?_)))))
   obtain rfl:=oi hj
   exact⟨rfl,j.sp 2 [1]⟩
  rintro _ w ⟨O,rfl,j⟩
  refine aH (dT o (fun hc o=>?_) fun hc o=>?_)
  rotate_left
  ·refine RC.ex ?_
   obtain rfl:=oi o
   exact⟨rfl,j.sp 1 [0]⟩
  refine RC.sn (RC.block (RC.region (mv (vi aa) (RL.gk aa 1 (aP (vi (IntKind.wrap .i64 (aa - 1))) (RL.nil (bP ?_)))))))
  obtain rfl:=oi o
  exact⟨rfl,j.sp 1 [0]⟩
 ·intro r _ _ _ _
  exact r.elim
 rintro aa _ w rfl ⟨O,rfl,j⟩
 rw [Fo.cZ] at o
 refine aH (RC.seq (RC.seq ?_))
 obtain⟨ai,hj,o⟩:=bd o
 refine RC.jn (fun(ai:Bool)=>SH E V [(0,v0),(1,vi p1),(5,vi aa),(32,vb ai)] [rd v0 p0]) ai ?_ ?_
 ·refine RC.region (mv (vi aa) (ic aa 0 (mv (vb (decide (aa>0))) (fA hj (fun ad hj=>?_) fun ad hj=>?_))))
  rotate_left
  ·refine bC ad (bC ad (bC ad (bC ad (bC ad (bC ad (bC ad (fB ad (vb false) (RL.nil ?_))))))))
   obtain rfl:=oi hj
   exact⟨rfl,j.sp 1 [0]⟩
  refine RL.move v0 (cg ad) (RL.move (vi aa) (cg ad) (RL.gk (hg:=(cg ad)) aa 1 ?_))
  obtain⟨aj,aq,hj⟩:=bd hj
  refine RL.bO (hg:=(cg ad)) 0 j eF aq fun a2 j=>(RL.bG (hg:=(cg ad)) aj 0 j cL (RL.move (vi p1) (cg ad) (RL.lh aj p1 (cg ad) (fB ad (vb (aj==p1)) (RL.nil ?_)))))
  obtain rfl:=oi hj
  exact⟨rfl,j.sp 2 [1]⟩
 rintro _ w ⟨O,rfl,j⟩
 refine aH (dT o (fun hc o=>?_) fun hc o=>?_)
 ·refine RC.sr (mv v0 (aP v0 (RL.nt (RC.rt ?_))))
  obtain rfl:=oi o
  exact bY (j.pk 1 [0])
 refine RC.sx (aP (.slice none 0 0) (RL.ns (mv (.slice none 0 0) (mv v0 (mv (vi aa) ?_)))))
 obtain⟨a3,ar,o⟩:=bd o
 refine RL.cut (hl:= .inr ⟨rfl,zr⟩) 0 j eF (.inl zr) ar fun a4 j=>?_
 have j:=j.cP Int 3
 obtain⟨a5,au,o⟩:=bd o
 refine RL.app 0 1 j rC au fun ak w j=>?_
 refine aP ak (RL.ns (mv ak (mv (vi p1) ?_)))
 have j:=j.sc Int p1
 refine RL.dN ([p1]: (List Int)) j [(vi p1)] eF Dd (fun M hs g=>⟨(g.sat 0 _ zr).1,zt⟩) fun a6 w j=>?_
 have j:=j.freeze 0
 obtain⟨a7,av,o⟩:=bd o
 refine RL.app 2 0 j rC av fun al w j=>?_
 refine aP al (RL.ns (mv al (mv v0 (mv (vi aa) ?_))))
 obtain⟨a8,aw,o⟩:=bd o
 refine RL.cut 4 j eF (.inr ⟨rfl,zr⟩) aw fun a9 j=>?_
 obtain⟨ba,ax,o⟩:=bd o
 refine RL.app 3 0 j rC ax fun ay w j=>?_
 refine aP ay (RL.nt (RC.ret ?_))
 obtain rfl:=oi o
 have j:=j.freeze 3
 exact bY (j.pk 6 [3])
def p7 (E:World) (V:List HP) (b0:Nat) (v0_0 v0_1:Value) (v0_2 v0_3:Value) (v0_4 v0_5:Value) (v0_6 v0_7 v2:Value) (res: ((List Int)×(List Int)×(List dB))×(List Bool)) (v:Value) (w:World):Prop:=∃u0_0 u0_1 u0_2:Value,v= (.agg ([u0_0,u0_1,u0_2]:List Value).toArray)/\Holds E w ([rd u0_0 res.1.1,rd u0_1 res.1.2.1,own 64 u0_2 res.1.2.2,bc 56 b0 [v0_0,v0_1,v0_2,v0_3,v0_4,v0_5,v0_6,v0_7],own 4 v2 res.2]++V)
theorem pQ {p0_7: (List (List Int))} {p2: (List Bool)} {res: ((List Int)×(List Int)×(List dB))×(List Bool)} (j:Holds E w (bc 56 b0 [v0_0,v0_1,v0_2,v0_3,v0_4,v0_5,v0_6,v0_7]::rd v0_7 p0_7::own 4 v2 p2::V)) (o:gz N p0_7 p1 p2=some res):
    Calls bN 71 [(vp b0 0),(vi p1),v2].toArray w (gJ (p7 E V b0 v0_0 v0_1 v0_2 v0_3 v0_4 v0_5 v0_6 v0_7 v2 res)):=by
 unfold gz at o
 refine enter Tryz.func71 zr zr (RC.sr (RL.uO zr j Kq zr fun ah w j=>?_))
 refine RL.ns (mv (vi p1) ?_)
 have j:=j.sc Int p1
 refine RL.dN ([p1]: (List Int)) j [(vi p1)] eF Dd (fun M hs g=>⟨(g.sat 0 _ zr).1,zt⟩) fun au w j=>(RL.ET [(.slice none 0 0),(.slice none 0 0),(.slice none 0 0)] [au,(.slice none 0 0),(.slice none 0 0)] zr [(0,au)] zr LQ ⟨(iT 0 j),zt⟩ zr (RL.uO zr j Kq zr fun ai w j=>?_))
 refine RL.BW (cs:=[au,(.slice none 0 0),(.slice none 0 0)]) 0 zt j zr zr zr (xx.all (⟨(iT 1 j),zr,zr,zt⟩:xx [au,(.slice none 0 0),(.slice none 0 0)])) yK zr zr fun w j=>?_
 refine RL.ns (mv v2 (mv (vi p1) ?_))
 obtain⟨cm,a6,o⟩:=bd o
 refine RL.bT 6 j zr zr wq a6 ?_
 have j:=j.sc Bool true
 refine RL.gK (f:=(fun _ y=>y)) 7 0 j (jz 7 j a6 0) (bH a6).2.1 zr Fs.self Ax fun w j=>?_
 refine RL.ns (mv (vp b0 0) (RL.nilCheck zr (RL.aX zr tK (RL.bF 5 v0_7 j zU (RL.bB 6 p0_7 j Gx ?_)))))
 obtain⟨cn,b5,o⟩:=bd o
 refine RL.mk (p0_7.length:Int) j HQ Ni b5 fun af w j=>?_
 refine aP af (RL.ns (mv (vi p1) ?_))
 have j:=j.sc Int p1
 refine RL.dN ([p1]: (List Int)) j [(vi p1)] eF Dd (fun M hs g=>⟨(g.sat 0 _ zr).1,zt⟩) fun bk w j=>(aP bk (RL.nq (RC.sr (aP (vi 0) (RL.nt ?_)))))
 obtain⟨cp,hN,o⟩:=bd o
 refine RC.iter (fun(ad: (List Bool)×(List Int)×(List Int)×(List Bool)×(List Int)×Int) U w=>∃bl bm bn:Value,SH E V [(0,vp b0 0),(2,v2),(6,vp ah 0),(7,vp ai 0),(8,af),(9,bn),(10,vi ad.2.2.2.2.2)] [bc 56 b0 [v0_0,v0_1,v0_2,v0_3,v0_4,v0_5,v0_6,v0_7],rd v0_7 p0_7,own 4 v2 ad.1,bc 39 ah [(.slice none 0 0),(.slice none 0 0),(.slice none 0 0)],bc 39 ai [bl,bm,(.slice none 0 0)],rd bl ad.2.1,rd bm ad.2.2.1,own 4 af ad.2.2.2.1,own 3 bn ad.2.2.2.2.1] U w) (fun(ad: (List Bool)×(List Int)×(List Int)×(List Bool)×(List Int)×Int) U w=>∃al an:Value,SH E V [(0,vp b0 0),(2,v2),(6,vp ah 0),(7,vp ai 0)] [bc 56 b0 [v0_0,v0_1,v0_2,v0_3,v0_4,v0_5,v0_6,v0_7],rd v0_7 p0_7,own 4 v2 ad.1,bc 39 ah [(.slice none 0 0),(.slice none 0 0),(.slice none 0 0)],bc 39 ai [al,an,(.slice none 0 0)],rd al ad.2.1,rd an ad.2.2.1,own 4 af ad.2.2.2.1] U w) (fun(r:Empty) _ _=>r.elim) hN ?_ ?_ ?_ ?_
 ·have j:=(j.freeze 5).yB Int
  exact⟨au,(.slice none 0 0),bk,j.sp 12 [9,10,11,8,5,6,0,3,1]⟩
 ·rintro ad fl _ w ⟨bp,bq,br,O,rfl,j⟩ o
  refine RC.seq (RC.sr (mv (vi ad.2.2.2.2.2) (mv br (RL.fL 8 ad.2.2.2.2.1 j mB (ic ad.2.2.2.2.2 ((ad.2.2.2.2.1.length:Int)) (RL.nt (dT o (fun hc o=>?_) fun hc o=>?_)))))))
  rotate_left
  ·refine RC.ex ?_
   obtain rfl:=oi o
   exact⟨rfl,bp,bq,j.sp 9 [0,1,2,3,4,5,6,7]⟩
  refine RC.ss (RC.bs (aP (vi 0) (RL.nt ?_)))
  obtain⟨cq,hN,o⟩:=bd o
  refine RC.iter (fun(aa: (List Bool)×(List Int)×(List Int)×(List Bool)×(List Int)×Int) U w=>∃bt bu bw:Value,SH E V [(0,vp b0 0),(2,v2),(6,vp ah 0),(7,vp ai 0),(8,af),(9,bw),(10,vi ad.2.2.2.2.2),(11,vi aa.2.2.2.2.2)] [bc 56 b0 [v0_0,v0_1,v0_2,v0_3,v0_4,v0_5,v0_6,v0_7],rd v0_7 p0_7,own 4 v2 aa.1,bc 39 ah [(.slice none 0 0),(.slice none 0 0),(.slice none 0 0)],bc 39 ai [bt,bu,(.slice none 0 0)],rd bt aa.2.1,rd bu aa.2.2.1,own 4 af aa.2.2.2.1,own 3 bw aa.2.2.2.2.1] U w) (fun(aa: (List Bool)×(List Int)×(List Int)×(List Bool)×(List Int)×Int) U w=>∃ay az a0:Value,SH E V [(0,vp b0 0),(2,v2),(6,vp ah 0),(7,vp ai 0),(8,af),(9,a0),(10,vi ad.2.2.2.2.2)] [bc 56 b0 [v0_0,v0_1,v0_2,v0_3,v0_4,v0_5,v0_6,v0_7],rd v0_7 p0_7,own 4 v2 aa.1,bc 39 ah [(.slice none 0 0),(.slice none 0 0),(.slice none 0 0)],bc 39 ai [ay,az,(.slice none 0 0)],rd ay aa.2.1,rd az aa.2.2.1,own 4 af aa.2.2.2.1,own 3 a0 aa.2.2.2.2.1] U w) (fun(r:Empty) _ _=>r.elim) hN ?_ ?_ ?_ ?_
  ·exact⟨bp,bq,br,j.sp 9 [0,1,2,3,4,5,6,7,8]⟩
  ·rintro aa fl _ w ⟨aw,aq,ar,O,rfl,j⟩ o
   refine RC.seq (RC.sr (mv (vi aa.2.2.2.2.2) (mv (vp b0 0) (RL.nilCheck zr (RL.aX zr tK (RL.bF 0 v0_7 j zU (RL.bB 1 p0_7 j Gx (ic aa.2.2.2.2.2 ((p0_7.length:Int)) ?_))))))))
   refine RL.nt (dT o (fun hc o=>?_) fun hc o=>?_)
   rotate_left
   ·refine RC.ex ?_
    obtain rfl:=oi o
    exact⟨rfl,aw,aq,ar,j.sp 9 [0,1,2,3,4,5,6,7,8]⟩
   refine RC.ss (RC.block (RC.seq (RC.seq ?_)))
   obtain⟨a7,hj,o⟩:=bd o
   refine RC.jn (fun(a7:Bool)=>SH E V [(0,vp b0 0),(2,v2),(6,vp ah 0),(7,vp ai 0),(8,af),(9,ar),(10,vi ad.2.2.2.2.2),(11,vi aa.2.2.2.2.2),(61,vb a7)] [bc 56 b0 [v0_0,v0_1,v0_2,v0_3,v0_4,v0_5,v0_6,v0_7],rd v0_7 p0_7,own 4 v2 aa.1,bc 39 ah [(.slice none 0 0),(.slice none 0 0),(.slice none 0 0)],bc 39 ai [aw,aq,(.slice none 0 0)],rd aw aa.2.1,rd aq aa.2.2.1,own 4 af aa.2.2.2.1,own 3 ar aa.2.2.2.2.1]) a7 ?_ ?_
   ·refine RC.vV mixed [0,0,0,0,0,0,0,0,0,0,0,0,0,0,0,0,2,0,0] [0,1,2,3,4,5,6,7,8,9,10,11,12,13,14,15,16,17,18] ?_
    have j:=j.drew
    refine DP.e0 zr (mv af (aW zr (mv (vi aa.2.2.2.2.2) (aW zr ?_))))
    obtain⟨b6,a8,hj⟩:=bd hj
    refine RL.bT 7 j zr zr wq a8 (aW zr (RL.dR (f:=(fun x=>x)) 7 j (jz 7 j a8 0) (bH a8).2.1 Fd.self Ax (aW zr (mv (vb b6) (DP.d0 (fA hj (fun ab hj=>?_) fun ab hj=>?_))))))
    ·refine DP.e0 zr (bC ab (aW zr (bC ab (aW zr (bC ab (aW zr (bC ab (aW zr ?_))))))))
     refine bC ab (aW zr (bC ab (aW zr (bC ab (aW zr (bC ab (aW zr (bC ab ?_))))))))
     refine aW zr (bC ab (aW zr (bC ab (oZ zr (bC ab (rB zr (bC ab (aW zr ?_))))))))
     refine fB ab (vb true) (DP.d0 (DP.z ?_))
     obtain rfl:=oi hj
     exact⟨rfl,j.sp 9 [0,1,2,3,4,5,6,7,8]⟩
    refine DP.e0 zr (RL.move (vp b0 0) (cg ab) (aW zr (RL.nilCheck (hg:=(cg ab)) zr (aW zr (RL.aX (hg:=(cg ab)) zr tK (aW zr (RL.bF (hg:=(cg ab)) 0 v0_7 j zU (aW zr ?_))))))))
    refine RL.move (vi aa.2.2.2.2.2) (cg ab) (aW zr ?_)
    obtain⟨b7,b8,hj⟩:=bd hj
    refine RL.bO (hg:=(cg ab)) 1 j Ay b8 fun cr j=>(aW zr (RL.bJ (hg:=(cg ab)) 0 b7 j eV fun b9 j=>(aW zr (RL.move ar (cg ab) (aW zr (RL.move (vi ad.2.2.2.2.2) (cg ab) (aW zr ?_)))))))
    obtain⟨bx,a9,hj⟩:=bd hj
    refine RL.bT (hg:=(cg ab)) 10 j zr zr eF a9 (aW zr (RL.dR (hg:=(cg ab)) (f:=(fun x=>x)) 10 j (jz 10 j a9 0) (bH a9).2.1 Fd.self cL (oZ zr ?_)))
    obtain⟨bz,ca,hj⟩:=bd hj
    refine RL.call (cg ab) zr E9 [b9,(vi bx)] zr (aD (eG N (p1:=bx) (i0:=0) j zr ca) ?_)
    rintro _ w ⟨rfl,j⟩
    refine rB zr (RL.not (hg:=(cg ab)) bz (aW zr (fB ab (vb (!bz)) (DP.d0 (DP.z ?_)))))
    obtain rfl:=oi hj
    exact⟨rfl,j.sp 11 [2,3,4,5,6,7,8,9,10]⟩
   rintro _ w ⟨O,rfl,j⟩
   refine aH (dT o (fun hc o=>?_) fun hc o=>?_)
   ·refine RC.ex (He (aH (RC.region (mv (vi aa.2.2.2.2.2) (RL.gk aa.2.2.2.2.2 1 (aP (vi (IntKind.wrap .i64 (aa.2.2.2.2.2+1))) (RL.nil ?_)))))))
    obtain rfl:=oi o
    exact⟨rfl,aw,aq,ar,j.sp 9 [0,1,2,3,4,5,6,7,8]⟩
   refine RC.sx (mv af (mv (vi aa.2.2.2.2.2) ?_))
   obtain⟨ct,ba,o⟩:=bd o
   refine RL.bT 7 j zr zr wq ba ?_
   have j:=j.sc Bool true
   refine RL.gK (f:=(fun _ y=>y)) 8 0 j (jz 8 j ba 0) (bH ba).2.1 zr Fs.self Ax fun w j=>?_
   refine RL.ns (RL.aX zr tI (RL.bF 5 aq j eV (mv (vi aa.2.2.2.2.2) ?_)))
   obtain⟨bb,cb,o⟩:=bd o
   refine RL.call zt zr JN [aq,(vi aa.2.2.2.2.2)] zr (aD (oC N (p1:=aa.2.2.2.2.2) (i0:=7) j zr cb) ?_)
   rintro ao w j
   refine RL.aX zr tI (RL.iB 6 ao j zr zr (nS 0 j) eV fun w j=>?_)
   refine RL.ns (aP (vi 0) (RL.nt ?_))
   obtain⟨cu,hN,o⟩:=bd o
   refine RC.iter (fun(ag: (List Bool)×(List Int)×(List Int)×Int) U w=>∃b1 b2:Value,SH E V [(0,vp b0 0),(2,v2),(6,vp ah 0),(7,vp ai 0),(8,af),(9,b2),(10,vi ad.2.2.2.2.2),(11,vi aa.2.2.2.2.2),(12,vi ag.2.2.2)] [bc 56 b0 [v0_0,v0_1,v0_2,v0_3,v0_4,v0_5,v0_6,v0_7],rd v0_7 p0_7,own 4 v2 ag.1,bc 39 ah [(.slice none 0 0),(.slice none 0 0),(.slice none 0 0)],bc 39 ai [b1,ao,(.slice none 0 0)],rd b1 ag.2.1,rd ao bb,own 4 af (aa.2.2.2.1.set (Int.toNat aa.2.2.2.2.2) true),own 3 b2 ag.2.2.1] U w) (fun(ag: (List Bool)×(List Int)×(List Int)×Int) U w=>∃a1 a2:Value,SH E V [(0,vp b0 0),(2,v2),(6,vp ah 0),(7,vp ai 0),(8,af),(9,a2),(10,vi ad.2.2.2.2.2),(11,vi aa.2.2.2.2.2)] [bc 56 b0 [v0_0,v0_1,v0_2,v0_3,v0_4,v0_5,v0_6,v0_7],rd v0_7 p0_7,own 4 v2 ag.1,bc 39 ah [(.slice none 0 0),(.slice none 0 0),(.slice none 0 0)],bc 39 ai [a1,ao,(.slice none 0 0)],rd a1 ag.2.1,rd ao bb,own 4 af (aa.2.2.2.1.set (Int.toNat aa.2.2.2.2.2) true),own 3 a2 ag.2.2.1] U w) (fun(r:Empty) _ _=>r.elim) hN ?_ ?_ ?_ ?_
   ·exact⟨aw,ar,j.sp 11 [2,3,4,5,6,7,0,9,10]⟩
   ·rintro ag fl _ w ⟨a3,bf,O,rfl,j⟩ o
    refine RC.seq (RC.sr (mv (vi ag.2.2.2) (mv (vp b0 0) (RL.nilCheck zr (RL.aX zr tK (RL.bF 0 v0_7 j zU (mv (vi aa.2.2.2.2.2) ?_)))))))
    obtain⟨bg,cc,o⟩:=bd o
    refine RL.bO 1 j Ay cc fun cv j=>(RL.bJ 0 bg j eV fun cw j=>(RL.bB 0 bg j mB (ic ag.2.2.2 ((bg.length:Int)) (RL.nt (dT o (fun hc o=>?_) fun hc o=>?_)))))
    rotate_left
    ·refine RC.ex ?_
     obtain rfl:=oi o
     exact⟨rfl,a3,bf,j.sp 11 [2,3,4,5,6,7,8,9,10]⟩
    refine RC.ss (RC.bs (mv (vp b0 0) (RL.nilCheck zr (RL.aX zr tK (RL.bF 2 v0_7 j zU (mv (vi aa.2.2.2.2.2) ?_))))))
    obtain⟨cd,cf,o⟩:=bd o
    refine RL.bO 3 j Ay cf fun cx j=>(RL.bJ 0 cd j eV fun cy j=>(mv (vi ag.2.2.2) ?_))
    obtain⟨aj,ch,o⟩:=bd o
    refine RL.bO 0 j eF ch fun cz j=>(RL.bG aj 0 j cL (aP (vi aj) (RL.ns (mv v2 (mv (vi aj) ?_)))))
    obtain⟨cj,bh,o⟩:=bd o
    refine RL.bT 7 j zr zr wq bh (RL.dR (f:=(fun x=>x)) 7 j (jz 7 j bh 0) (bH bh).2.1 Fd.self Ax (RL.not cj (RL.nt ?_)))
    obtain⟨ax,hj,o⟩:=bd o
    refine RC.jn (fun(ax: (List Bool)×(List Int)×(List Int)) U w=>∃a4 a5:Value,SH E V [(0,vp b0 0),(2,v2),(6,vp ah 0),(7,vp ai 0),(8,af),(9,a5),(10,vi ad.2.2.2.2.2),(11,vi aa.2.2.2.2.2),(12,vi ag.2.2.2)] [bc 56 b0 [v0_0,v0_1,v0_2,v0_3,v0_4,v0_5,v0_6,v0_7],rd v0_7 p0_7,own 4 v2 ax.1,bc 39 ah [(.slice none 0 0),(.slice none 0 0),(.slice none 0 0)],bc 39 ai [a4,ao,(.slice none 0 0)],rd a4 ax.2.1,rd ao bb,own 4 af (aa.2.2.2.1.set (Int.toNat aa.2.2.2.2.2) true),own 3 a5 ax.2.2] U w) ax ?_ ?_
    ·refine dT hj (fun hc hj=>?_) fun hc hj=>?_
     rotate_left
     ·refine RC.skip ?_
      obtain rfl:=oi hj
      exact⟨rfl,a3,bf,j.sp 14 [5,6,7,8,9,10,11,12,13]⟩
     refine RC.sr (mv v2 (mv (vi aj) ?_))
     obtain⟨c0,bj,hj⟩:=bd hj
     refine RL.bT 7 j zr zr wq bj ?_
     have j:=j.sc Bool true
     refine RL.gK (f:=(fun _ y=>y)) 8 0 j (jz 8 j bj 0) (bH bj).2.1 zr Fs.self Ax fun w j=>?_
     refine RL.ns (RL.aX zr qR (RL.bF 10 a3 j eV (mv (vi aj) ?_)))
     obtain⟨c1,ck,hj⟩:=bd hj
     refine RL.call zt zr JN [a3,(vi aj)] zr (aD (oC N (p1:=aj) (i0:=11) j zr ck) ?_)
     rintro b3 w j
     refine RL.aX zr qR (RL.iB 11 b3 j zr zr (nS 0 j) eV fun w j=>?_)
     refine RL.nt (RC.region (mv bf (mv (vi aj) ?_)))
     have j:=j.sc Int aj
     refine RL.dN ([aj]: (List Int)) j [(vi aj)] eF Dd (fun M hs g=>⟨(g.sat 0 _ zr).1,zt⟩) fun c2 w j=>?_
     have j:=j.freeze 0
     obtain⟨c3,cl,hj⟩:=bd hj
     refine RL.app 17 0 j rC cl fun b4 w j=>?_
     refine aP b4 (RL.nil ?_)
     obtain rfl:=oi hj
     exact⟨rfl,b3,b4,j.sp 18 [9,10,11,12,13,2,15,16,17]⟩
    rintro _ w ⟨a4,a5,O,rfl,j⟩
    refine bP (aH (RC.region (mv (vi ag.2.2.2) (RL.gk ag.2.2.2 1 (aP (vi (IntKind.wrap .i64 (ag.2.2.2+1))) (RL.nil ?_))))))
    obtain rfl:=oi o
    exact⟨rfl,a4,a5,j.sp 9 [0,1,2,3,4,5,6,7,8]⟩
   ·intro r _ _ _ _
    exact r.elim
   rintro ag _ w rfl ⟨a1,a2,O,rfl,j⟩
   rw [Fo.cZ] at o
   refine bP (aH (RC.region (mv (vi aa.2.2.2.2.2) (RL.gk aa.2.2.2.2.2 1 (aP (vi (IntKind.wrap .i64 (aa.2.2.2.2.2+1))) (RL.nil ?_))))))
   obtain rfl:=oi o
   exact⟨rfl,a1,ao,a2,j.sp 9 [0,1,2,3,4,5,6,7,8]⟩
  ·intro r _ _ _ _
   exact r.elim
  rintro aa _ w rfl ⟨ay,az,a0,O,rfl,j⟩
  rw [Fo.cZ] at o
  refine bP (aH (RC.region (mv (vi ad.2.2.2.2.2) (RL.gk ad.2.2.2.2.2 1 (aP (vi (IntKind.wrap .i64 (ad.2.2.2.2.2+1))) (RL.nil ?_))))))
  obtain rfl:=oi o
  exact⟨rfl,ay,az,a0,j.sp 9 [0,1,2,3,4,5,6,7,8]⟩
 ·intro r _ _ _ _
  exact r.elim
 rintro ad _ w rfl ⟨al,an,O,rfl,j⟩
 rw [Fo.cZ] at o
 refine aH (RC.sr (RL.DD (cs:=[al,an,(.slice none 0 0)]) 4 zt zr j zr zr yK zr (RL.BW (cs:=[al,an,(.slice none 0 0)]) 3 zt j zr zr zr (xx.all (⟨(nS 5 j),(nS 6 j),zr,zt⟩:xx [al,an,(.slice none 0 0)])) yK zr zr fun w j=>?_)))
 refine RL.nt (RC.ret ?_)
 obtain rfl:=oi o
 have j:=j.cP dB 64
 exact KQ (i:=4) (cs:=[al,an,(.slice none 0 0)]) zr j zr zr yK zr ⟨al,an,(.slice none 0 0),zr,j.pk 9 [6,7,0,1,3]⟩
theorem nB {p0: (List aI)} {p1:jw} {res:Bool} (j:Holds E w V) (h0:V[i0]? =some (rd v0 p0)) (h1:V[i1]? =some (rd v1 p1)) (o:eP N p0 p1=some res):
    Calls bN 72 [v0,v1].toArray w (gJ (aU E V res)):=by
 unfold eP at o
 refine enter Tryz.func72 zr zr ?_
 have j:=(j.dup (i0+0) h0).dup (i1+1) h1
 refine RC.sr (RL.dD 0 v1 j zr fun aa w j=>?_)
 refine aP (vb false) (RL.nq ?_)
 have j:=j.drew
 refine RC.E2 (fun w=>Holds E w ([bx 60 aa p1]++V)) mixed zr [0,0,0,2,1,1,2,0] [0,1,2,4,5,3,6,7] (j.pk 3 [0]) (DP.e0 zr (mv v0 (aW zr (RL.aX zr wQ (aW zr (RL.aM 0 j zr n0 cL (DP.d0 (DP.e1 (vp aa 0) zr (fun w=>RL.aX zr wP DP.d1) ?_))))))))
 refine DP.IX (vi p1.X) zr (fun w j=>RL.aM 0 j zr nZ cL DP.d1) (DP.e2 zr ?_)
 obtain⟨ag,ab,o⟩:=bd o
 refine RL.call zt zr FV [v0,(vi p1.Y)] zr (aD (kO N (p1:=p1.Y) (i0:=2) j zr ab) ?_)
 rintro ad w j
 refine DP.d2 (j.pk 4 [1]) (DP.e2 zr ?_)
 have j:=j.freeze 0
 obtain⟨ae,af,o⟩:=bd o
 refine RL.call zt zr HO [ad,(vi p1.X)] zr (aD (lC N (p1:=p1.X) (i0:=0) j zr af) ?_)
 rintro _ w ⟨rfl,j⟩
 refine DP.d2 (j.pk 4 [1]) (DP.e0 zr (aP (vb ae) (DP.d0 (DP.z (aH (RC.ret ?_))))))
 obtain rfl:=oi o
 exact bY ⟨rfl,j.drop 4⟩
def mx (E:World) (V:List HP) (b0:Nat) (v0_0 v0_1:Value) (v0_2 v0_3:Value) (v0_4 v0_5:Value) (v0_6 v0_7:Value) (res:ka×Bool) (v:Value) (w:World):Prop:=∃u0:Value,v = .tuple #[u0,(vb res.2)]/\Holds E w ([rd u0 res.1,bc 56 b0 [v0_0,v0_1,v0_2,v0_3,v0_4,v0_5,v0_6,v0_7]]++V)
def my (E:World) (V:List HP) (b0:Nat) (v0_0 v0_1:Value) (v0_2 v0_3:Value) (v0_4 v0_5:Value) (v0_6 v0_7:Value) (r:ka×Bool) (U:Nat->Value) (w:World):Prop:=lG bN 91 Tryz.f38 (mx E V b0 v0_0 v0_1 v0_2 v0_3 v0_4 v0_5 v0_6 v0_7 r) .ret U w
theorem lW {p0_2: (List cA)} {p0_4: (List Int)} {p0_5: (List (List aI))} {p1:eQ} {res:ka×Bool} (j:Holds E w (bc 56 b0 [v0_0,v0_1,v0_2,v0_3,v0_4,v0_5,v0_6,v0_7]::rd v0_2 p0_2::rd v0_4 p0_4::rd v0_5 p0_5::V)) (h1:V[i1]? =some (rd v1 p1)) (o:fI N p0_2 p0_4 p0_5 p1=some res):
    Calls bN 38 [(vp b0 0),v1].toArray w (gJ (mx E V b0 v0_0 v0_1 v0_2 v0_3 v0_4 v0_5 v0_6 v0_7 res)):=by
 unfold fI at o
 refine enter Tryz.func38 zr zr ?_
 have j:=j.dup (i1+4) h1
 refine RC.sr (RL.dD 0 v1 j zr fun ai w j=>?_)
 have j:=j.l6 (i:=0) rfl
 refine RL.alloc j Gz.z fun ah w j=>?_
 refine aP (vb false) (RL.nq (RC.sr (aP (vi 0) (RL.nt ?_))))
 obtain⟨bp,hN,o⟩:=bd o
 refine RC.iter (fun(ag:Int)=>SH E V [(0,vp b0 0),(3,vp ai 0),(4,vp ah 0),(6,vi ag)] [bc 56 b0 [v0_0,v0_1,v0_2,v0_3,v0_4,v0_5,v0_6,v0_7],rd v0_2 p0_2,rd v0_4 p0_4,rd v0_5 p0_5,pt (vp ai 0) p1,raw 84 ah 2]) (fun(ag:Int)=>SH E V [(0,vp b0 0),(3,vp ai 0),(4,vp ah 0)] [bc 56 b0 [v0_0,v0_1,v0_2,v0_3,v0_4,v0_5,v0_6,v0_7],rd v0_2 p0_2,rd v0_4 p0_4,rd v0_5 p0_5,pt (vp ai 0) p1,raw 84 ah 2]) (my E V b0 v0_0 v0_1 v0_2 v0_3 v0_4 v0_5 v0_6 v0_7) hN ?_ ?_ ?_ ?_
 ·exact j.sp 7 [3,4,5,6,1,0]
 ·rintro ag fl _ w ⟨O,rfl,j⟩ o
  refine RC.seq (RC.sr (mv (vi ag) (mv (vp b0 0) (RL.nilCheck zr (RL.aX zr uY (RL.bF 0 v0_5 j pY (RL.bB 3 p0_5 j qP (ic ag ((p0_5.length:Int)) ?_))))))))
  refine RL.nt (dT o (fun hc o=>?_) fun hc o=>?_)
  rotate_left
  ·refine RC.ex ?_
   obtain rfl:=oi o
   exact⟨rfl,j.sp 6 [0,1,2,3,4,5]⟩
  refine RC.ss (RC.block (RC.seq ?_))
  obtain⟨al,hj,o⟩:=bd o
  refine RC.jn (fun(al:Bool)=>SH E V [(0,vp b0 0),(3,vp ai 0),(4,vp ah 0),(6,vi ag),(38,vb al)] [bc 56 b0 [v0_0,v0_1,v0_2,v0_3,v0_4,v0_5,v0_6,v0_7],rd v0_2 p0_2,rd v0_4 p0_4,rd v0_5 p0_5,pt (vp ai 0) p1,raw 84 ah 2]) al ?_ ?_
  ·refine RC.vV mixed [0,0,0,0,0,0,0,0,0,0,0,0,0,0,0,0,0,0,0,0,2,0] [0,1,2,3,4,5,6,7,8,9,10,11,12,13,14,15,16,17,18,19,20,21] ?_
   have j:=j.drew
   refine DP.e0 zr (mv (vp b0 0) (aW zr (RL.nilCheck zr (aW zr (RL.aX zr Az (aW zr (RL.bF 0 v0_4 j eV (aW zr ?_))))))))
   refine mv (vi ag) (aW zr ?_)
   obtain⟨an,aw,hj⟩:=bd hj
   refine RL.bO 2 j eF aw fun bq j=>(aW zr (RL.bG an 0 j cL (aW zr (RL.dV 5 j zr yG qG fun br j=>(aW zr (RL.bG p1.cU 0 j cL (aW zr (ic an p1.cU ?_))))))))
   refine aW zr (mv (vb (an==p1.cU)) (DP.d0 (fA hj (fun ae hj=>?_) fun ae hj=>?_)))
   rotate_left
   ·refine DP.e0 zr (bC ae (aW zr (bC ae (aW zr (bC ae (aW zr (bC ae (aW zr ?_))))))))
    refine bC ae (aW zr (bC ae (aW zr (bC ae (aW zr (bC ae (aW zr (bC ae ?_))))))))
    refine oZ zr (bC ae (rB zr (fB ae (vb false) (DP.d0 (DP.z ?_)))))
    obtain rfl:=oi hj
    exact⟨rfl,j.sp 8 [2,3,4,5,6,7]⟩
   refine DP.e0 zr (RL.move (vp b0 0) (cg ae) (aW zr (RL.nilCheck (hg:=(cg ae)) zr (aW zr (RL.aX (hg:=(cg ae)) zr uY (aW zr (RL.bF (hg:=(cg ae)) 2 v0_5 j pY (aW zr ?_))))))))
   refine RL.move (vi ag) (cg ae) (aW zr ?_)
   obtain⟨ax,ay,hj⟩:=bd hj
   refine RL.bO (hg:=(cg ae)) 5 j uV ay fun bs j=>(aW zr (RL.bJ (hg:=(cg ae)) 0 ax j uy fun az j=>(aW zr (RL.dV (hg:=(cg ae)) 8 j zr yH qH fun bt j=>(aW zr (RL.bJ (hg:=(cg ae)) 0 p1.At j DW fun a0 j=>(oZ zr ?_)))))))
   obtain⟨a1,a2,hj⟩:=bd hj
   refine RL.call (cg ae) zr LR [az,a0] zr (aD (nB N (i0:=2) (i1:=0) j zr zr a2) ?_)
   rintro _ w ⟨rfl,j⟩
   refine rB zr (fB ae (vb a1) (DP.d0 (DP.z ?_)))
   obtain rfl:=oi hj
   exact⟨rfl,j.sp 12 [6,7,8,9,10,11]⟩
  rintro _ w ⟨O,rfl,j⟩
  refine aH (dT o (fun hc o=>?_) fun hc o=>?_)
  rotate_left
  ·refine RC.skip (bP (aH (RC.region (mv (vi ag) (RL.gk ag 1 (aP (vi (IntKind.wrap .i64 (ag+1))) (RL.nil ?_)))))))
   obtain rfl:=oi o
   exact⟨rfl,j.sp 6 [0,1,2,3,4,5]⟩
  refine RC.sr (mv (vi ag) ?_)
  have j:=j.sc Int ag
  refine RL.build (⟨false,ag⟩:ka) trivial rfl j [(1,vi ag)] rfl GA rfl (fun M hs g=>by have h:=B6 M;exact cT.cons (f:=fun(x:ka) y=>{x with Number:=y}) h xL (g.sat 0 _ rfl).1 fun _ h=>cT.nil h) fun bu j=>?_
  refine RL.bZ 7 j 0 zr tJ fun w j=>?_
  refine aP (vb true) (RL.nt (RC.rb (bR ?_)))
  obtain rfl:=oi o
  exact⟨rfl,xu 7 j tJ fun a3 j=>⟨a3,zr,j.pk 9 [0,3]⟩⟩
 ·intro r U w e hK
  subst e
  refine bR ?_
  obtain rfl:=oi o
  exact hK
 rintro ag _ w rfl ⟨O,rfl,j⟩
 rw [Fo.cZ] at o
 refine aH (RC.seq (RC.sr (aP (vi 0) (RL.nt ?_))))
 obtain⟨bw,hN,o⟩:=bd o
 refine RC.iter (fun(af:Int)=>SH E V [(0,vp b0 0),(3,vp ai 0),(4,vp ah 0),(7,vi af)] [bc 56 b0 [v0_0,v0_1,v0_2,v0_3,v0_4,v0_5,v0_6,v0_7],rd v0_2 p0_2,rd v0_4 p0_4,rd v0_5 p0_5,pt (vp ai 0) p1,raw 84 ah 2]) (fun(af:Int)=>SH E V [(0,vp b0 0),(4,vp ah 0)] [bc 56 b0 [v0_0,v0_1,v0_2,v0_3,v0_4,v0_5,v0_6,v0_7],rd v0_2 p0_2,rd v0_4 p0_4,rd v0_5 p0_5,pt (vp ai 0) p1,raw 84 ah 2]) (my E V b0 v0_0 v0_1 v0_2 v0_3 v0_4 v0_5 v0_6 v0_7) hN ?_ ?_ ?_ ?_
 ·exact j.sp 6 [0,1,2,3,4,5]
 ·rintro af fl _ w ⟨O,rfl,j⟩ o
  refine RC.seq (RC.sr (mv (vi af) (mv (vp b0 0) (RL.nilCheck zr (RL.aX zr wU (RL.aX zr iz (RL.bF 0 v0_2 j n7 (RL.bB 1 p0_2 j wO ?_))))))))
  refine ic af ((p0_2.length:Int)) (RL.nt (dT o (fun hc o=>?_) fun hc o=>?_))
  rotate_left
  ·refine RC.ex ?_
   obtain rfl:=oi o
   exact⟨rfl,j.sp 6 [0,1,2,3,4,5]⟩
  refine RC.ss (RC.block (RC.seq ?_))
  obtain⟨aq,hj,o⟩:=bd o
  refine RC.jn (fun(aq:Bool)=>SH E V [(0,vp b0 0),(3,vp ai 0),(4,vp ah 0),(7,vi af),(87,vb aq)] [bc 56 b0 [v0_0,v0_1,v0_2,v0_3,v0_4,v0_5,v0_6,v0_7],rd v0_2 p0_2,rd v0_4 p0_4,rd v0_5 p0_5,pt (vp ai 0) p1,raw 84 ah 2]) aq ?_ ?_
  ·refine RC.vV mixed [0,0,0,0,0,0,0,0,0,0,0,0,0,0,0,0,0,0,0,0,2,0,0,0,0,0,0,0,0,0,0,2,2,1,1,2,0] [0,1,2,3,4,5,6,7,8,9,10,11,12,13,14,15,16,17,18,19,20,21,22,23,24,25,26,27,28,29,30,33,34,31,32,35,36] ?_
   have j:=j.drew
   refine DP.e0 zr (mv (vp b0 0) (aW zr (RL.nilCheck zr (aW zr (RL.aX zr wU (aW zr (RL.aX zr iz (aW zr ?_))))))))
   refine RL.bF 0 v0_2 j n7 (aW zr (mv (vi af) (aW zr ?_)))
   obtain⟨ar,a4,hj⟩:=bd hj
   refine RL.bO 1 j qQ a4 fun bx j=>(aW zr (RL.dV 0 j zr yJ qF fun bz j=>(aW zr (RL.bG ar.fY 0 j Ax (aW zr (mv (vb ar.fY) (DP.d0 (fA hj (fun ad hj=>?_) fun ad hj=>?_))))))))
   rotate_left
   ·refine DP.e0 zr (bC ad (aW zr (bC ad (aW zr (bC ad (aW zr (bC ad (aW zr ?_))))))))
    refine bC ad (aW zr (bC ad (aW zr (bC ad (aW zr (bC ad (aW zr (bC ad ?_))))))))
    refine aW zr (bC ad (oZ zr (bC ad (rB zr (fB ad (vb false) (aW zr (mv (vb false) (aW zr ?_))))))))
    refine kc (aW zr (kc (aW zr (kc (aW zr (kc (aW zr (kc ?_))))))))
    refine aW zr (kc (aW zr (kc (aW zr (kc (DP.d0 (DP.e1 undef zr (fun w=>kc DP.d1) (DP.e1 undef zr (fun w=>kc DP.d1) ?_))))))))
    refine DP.e2 zr (kc (EI zr (kc (EI zr (kc (rB zr (RL.pick false (vb false) zr (DP.d0 ?_))))))))
    refine DP.z ?_
    obtain rfl:=oi hj
    exact⟨rfl,j.sp 8 [2,3,4,5,6,7]⟩
   refine DP.e0 zr (RL.move (vp b0 0) (cg ad) (aW zr (RL.nilCheck (hg:=(cg ad)) zr (aW zr (RL.aX (hg:=(cg ad)) zr wU (aW zr (RL.aX (hg:=(cg ad)) zr iz (aW zr ?_))))))))
   refine RL.bF (hg:=(cg ad)) 2 v0_2 j n7 (aW zr (RL.move (vi af) (cg ad) (aW zr ?_)))
   obtain⟨a5,a6,hj⟩:=bd hj
   refine RL.bO (hg:=(cg ad)) 3 j qQ a6 fun b1 j=>(aW zr (RL.bJ (hg:=(cg ad)) 0 a5 j mj fun a7 j=>(aW zr (RL.dV (hg:=(cg ad)) 8 j zr yG qG fun b2 j=>(aW zr (RL.bG (hg:=(cg ad)) p1.cU 0 j cL (oZ zr ?_)))))))
   obtain⟨au,a8,hj⟩:=bd hj
   refine RL.call (cg ad) zr I3 [a7,(vi p1.cU)] zr (aD (jA N (p1:=p1.cU) (i0:=1) j zr a8) ?_)
   rintro _ w ⟨rfl,j⟩
   refine rB zr (fB ad (vb au) (aW zr (mv (vb au) (DP.d0 (fA hj (fun ab hj=>?_) fun ab hj=>?_)))))
   rotate_left
   ·refine DP.e0 zr (bC ab (aW zr (bC ab (aW zr (bC ab (aW zr (bC ab (aW zr ?_))))))))
    refine bC ab (aW zr (bC ab (aW zr (bC ab (aW zr (bC ab (DP.d0 (DP.e1 undef zr (fun w=>bC ab DP.d1) ?_))))))))
    refine DP.e1 undef zr (fun w=>bC ab DP.d1) (DP.e2 zr (bC ab (EI zr (bC ab (EI zr (bC ab (rB zr (fB ab (vb false) ?_))))))))
    refine DP.d0 (DP.z ?_)
    obtain rfl:=oi hj
    exact⟨rfl,j.sp 11 [5,6,7,8,9,10]⟩
   refine DP.e0 zr (RL.move (vp b0 0) (cg ab) (aW zr (RL.nilCheck (hg:=(cg ab)) zr (aW zr (RL.aX (hg:=(cg ab)) zr wU (aW zr (RL.aX (hg:=(cg ab)) zr iz (aW zr ?_))))))))
   refine RL.bF (hg:=(cg ab)) 5 v0_2 j n7 (aW zr (RL.move (vi af) (cg ab) (aW zr ?_)))
   obtain⟨a9,ba,hj⟩:=bd hj
   refine RL.bO (hg:=(cg ab)) 6 j qQ ba fun b3 j=>(aW zr (RL.bJ (hg:=(cg ab)) 0 a9 j mj fun bb j=>(DP.d0 (DP.CH 11 zr (cg ab) j zr yH qH fun b4 j=>(DP.zT p1.At 0 zr (cg ab) j DW fun bf a279 b5 j=>(DP.e2 zr ?_))))))
   obtain⟨bg,bh,hj⟩:=bd hj
   refine RL.call (cg ab) zr GD [bb] zr (aD (fK N (i0:=3) j zr bh) ?_)
   rintro bj w j
   refine DP.d2 (⟨zt,j.iv 1⟩) (DP.e2 zr (RL.dN (hg:=(cg ab)) ([bg]: (List aI)) j [bj] jm oR (fun M hs g=>⟨(g.sat 0 _ zr).1,zt⟩) fun bk w j=>(DP.d2 (⟨zt,j.iv 2⟩) (DP.e2 zr ?_))))
   have j:=j.freeze 0
   obtain⟨bl,bm,hj⟩:=bd hj
   refine RL.call (cg ab) zr LR [bk,bf] zr (aD (nB N (i0:=0) (i1:=3) j zr zr bm) ?_)
   rintro _ w ⟨rfl,j⟩
   refine DP.d2 (⟨zt,j.iv 2⟩) (DP.e0 zr (fB ab (vb bl) (DP.d0 ?_)))
   have j:=j.pl 18 [0,1,3,4,5,6,7,8,9,10,11,12,13,14,15,16,17]
   refine DP.z ?_
   obtain rfl:=oi hj
   exact⟨rfl,j.sp 17 [11,12,13,14,15,16]⟩
  rintro _ w ⟨O,rfl,j⟩
  refine aH (dT o (fun hc o=>?_) fun hc o=>?_)
  rotate_left
  ·refine RC.skip (bP (aH (RC.region (mv (vi af) (RL.gk af 1 (aP (vi (IntKind.wrap .i64 (af+1))) (RL.nil ?_)))))))
   obtain rfl:=oi o
   exact⟨rfl,j.sp 6 [0,1,2,3,4,5]⟩
  refine RC.sr (mv (vi af) ?_)
  have j:=(j.sc Bool true).sc Int af
  refine RL.build (⟨true,af⟩:ka) trivial rfl j [(0,vb true),(1,vi af)] rfl GA rfl (fun M hs g=>by have h:=B6 M;exact cT.cons (f:=fun(x:ka) y=>{x with cA:=y}) h DT (g.sat 1 _ rfl).1 fun _ h=>cT.cons (f:=fun(x:ka) y=>{x with Number:=y}) h xL (g.sat 0 _ rfl).1 fun _ h=>cT.nil h) fun b6 j=>?_
  refine RL.bZ 8 j 0 zr tJ fun w j=>?_
  refine aP (vb true) (RL.nt (RC.rb (bR ?_)))
  obtain rfl:=oi o
  exact⟨rfl,xu 8 j tJ fun bn j=>⟨bn,zr,j.pk 10 [0,4]⟩⟩
 ·intro r U w e hK
  subst e
  refine bR ?_
  obtain rfl:=oi o
  exact hK
 rintro af _ w rfl ⟨O,rfl,j⟩
 rw [Fo.cZ] at o
 refine aH (RC.sr (RL.build (⟨false,0⟩:ka) trivial rfl j [] rfl GA rfl (fun M hs g=>by have h:=B6 M;exact cT.nil h) fun b7 j=>?_))
 refine RL.bZ 6 j 0 zr tJ fun w j=>?_
 refine aP (vb false) (RL.nt (RC.ret ?_))
 obtain rfl:=oi o
 exact xu 6 j tJ fun bo j=>⟨bo,zr,j.pk 8 [0,2]⟩
def mR (E:World) (V:List HP) (b0:Nat) (v0_0 v0_1:Value) (v0_2 v0_3:Value) (v0_4 v0_5 v0_6:Value) (us0_6:List aT) (p0_6: (List bQ)) (v0_7:Value) (r:Int) (U:Nat->Value) (w:World):Prop:=lG bN 49 Tryz.f39 (gA E V b0 v0_0 v0_1 v0_2 v0_3 v0_4 v0_5 v0_6 us0_6 p0_6 v0_7 r) .ret U w
theorem mC {us0_6:List aT} {p0_6: (List bQ)} {p1:ka} (j:Holds E w (bc 56 b0 [v0_0,v0_1,v0_2,v0_3,v0_4,v0_5,v0_6,v0_7]::own 39 v0_6 us0_6::iA aV us0_6 p0_6 none::V)) (h1:V[i1]? =some (rd v1 p1)) (hb:dX N p0_6 p1=some res):
    Calls bN 39 [(vp b0 0),v1].toArray w (gJ (gA E V b0 v0_0 v0_1 v0_2 v0_3 v0_4 v0_5 v0_6 us0_6 p0_6 v0_7 res)):=by
 unfold dX at hb
 refine enter Tryz.func39 zr zr ?_
 have j:=j.dup (i1+3) h1
 refine RC.sr (RL.dD 0 v1 j zr fun ah w j=>?_)
 refine aP (vi 0) (RL.nq (RC.sr (aP (vi 0) (RL.nt ?_))))
 obtain⟨a5,hN,hb⟩:=bd hb
 refine RC.iter (fun(af:Int)=>SH E V [(0,vp b0 0),(3,vp ah 0),(5,vi af)] [bc 56 b0 [v0_0,v0_1,v0_2,v0_3,v0_4,v0_5,v0_6,v0_7],own 39 v0_6 us0_6,iA aV us0_6 p0_6 none,bx 84 ah p1]) (fun(af:Int)=>SH E V [(0,vp b0 0)] [bc 56 b0 [v0_0,v0_1,v0_2,v0_3,v0_4,v0_5,v0_6,v0_7],own 39 v0_6 us0_6,iA aV us0_6 p0_6 none,bx 84 ah p1]) (mR E V b0 v0_0 v0_1 v0_2 v0_3 v0_4 v0_5 v0_6 us0_6 p0_6 v0_7) hN ?_ ?_ ?_ ?_
 ·exact j.sp 5 [2,3,4,0]
 ·rintro af fl _ w ⟨O,rfl,j⟩ hb
  refine RC.seq (RC.sr (mv (vi af) (mv (vp b0 0) (RL.nilCheck zr (RL.aX zr ml (RL.bF 0 v0_6 j pI (RL.sB 1 2 p0_6 j CK (ic af ((p0_6.length:Int)) ?_))))))))
  refine RL.nt (dT hb (fun hc hb=>?_) fun hc hb=>?_)
  rotate_left
  ·refine RC.ex ?_
   obtain rfl:=oi hb
   exact⟨rfl,j.sp 4 [0,1,2,3]⟩
  refine RC.ss (RC.block (RC.seq ?_))
  obtain⟨an,o,hb⟩:=bd hb
  refine RC.jn (fun(an:Bool)=>SH E V [(0,vp b0 0),(3,vp ah 0),(5,vi af),(47,vb an)] [bc 56 b0 [v0_0,v0_1,v0_2,v0_3,v0_4,v0_5,v0_6,v0_7],own 39 v0_6 us0_6,iA aV us0_6 p0_6 none,bx 84 ah p1]) an ?_ ?_
  ·refine RC.vV mixed [0,0,0,0,0,0,0,0,0,0,0,0,0,2,0,0,0,0,0,0,0,0,0,0,0,0,0,0,0,0,2,0,0] [0,1,2,3,4,5,6,7,8,9,10,11,12,13,14,15,16,17,18,19,20,21,22,23,24,25,26,27,28,29,30,31,32] ?_
   have j:=j.drew
   refine DP.e0 zr (RL.aX zr wT (aW zr (RL.aM 3 j zr qO Ax (aW zr (mv (vb p1.cA) (DP.d0 (fA o (fun aa o=>?_) fun aa o=>?_)))))))
   rotate_left
   ·refine DP.e0 zr (bC aa (aW zr (bC aa (aW zr (bC aa (aW zr (bC aa (aW zr ?_))))))))
    refine bC aa (aW zr (bC aa (aW zr (bC aa (aW zr (bC aa (aW zr (bC aa ?_))))))))
    refine aW zr (bC aa (oZ zr (bC aa (rB zr (fB aa (vb false) (aW zr (mv (vb false) (aW zr ?_))))))))
    refine RL.aX (hg:=⟨_,zr,zr⟩) zr wT (aW zr (RL.aM (hg:=⟨_,zr,zr⟩) 3 j zr qO Ax (aW zr (RL.not (hg:=⟨_,zr,zr⟩) p1.cA (aW zr (RL.move (vb (!p1.cA)) ⟨_,zr,zr⟩ (DP.d0 (fA o (fun ab o=>?_) fun ab o=>?_))))))))
    rotate_left
    ·refine DP.e0 zr (bC ab (aW zr (bC ab (aW zr (bC ab (aW zr (bC ab (aW zr ?_))))))))
     refine bC ab (aW zr (bC ab (aW zr (bC ab (aW zr (bC ab (aW zr (bC ab ?_))))))))
     refine aW zr (bC ab (oZ zr (bC ab (rB zr (fB ab (vb false) (hg:=⟨_,zr,zr⟩) (aW zr (RL.pick false (vb false) zr (DP.d0 ?_))))))))
     refine DP.z ?_
     obtain rfl:=oi o
     exact⟨rfl,j.sp 4 [0,1,2,3]⟩
    refine DP.e0 zr (RL.move (vp b0 0) (cg ab) (aW zr (RL.nilCheck (hg:=(cg ab)) zr (aW zr (RL.aX (hg:=(cg ab)) zr ml (aW zr (RL.bF (hg:=(cg ab)) 0 v0_6 j pI (aW zr ?_))))))))
    refine RL.move (vi af) (cg ab) (aW zr ?_)
    obtain⟨av,ai,o⟩:=bd o
    have hl265:=j.eH 2
    have hr266:=fU (default:aT) hl265 ai
    have hq267:=jz 1 j hr266 0
    refine RL.bT (hg:=(cg ab)) 1 j zr zr uz hr266 (aW zr ?_)
    have hl268:=j.eH 2
    have hr269:=fU (default:aT) hl268 ai
    refine RL.kz (hg:=(cg ab)) (α:=aT) (jz 1 j hr269 0) qR (aW zr ?_)
    have hl270:=j.eH 2
    have hr271:=fU (default:aT) hl270 ai
    refine RL.wK (fun u=>u.gN) av.gN 1 2 af wk (default:aT) (cg ab) zr j zr (jz 1 j hr271 0) zr zr ai (fun u hu=>hu.1) eV fun aw j=>(aW zr (RL.aX (hg:=(cg ab)) zr uX (aW zr (RL.aM (hg:=(cg ab)) 4 j zr pF cL (oZ zr ?_)))))
    obtain⟨ao,ax,o⟩:=bd o
    refine RL.call (cg ab) zr E9 [aw,(vi p1.Number)] zr (aD (eG N (p1:=p1.Number) (i0:=0) j zr ax) ?_)
    rintro _ w ⟨rfl,j⟩
    refine rB zr (fB ab (vb ao) (hg:=⟨_,zr,zr⟩) (aW zr (RL.pick false (vb ao) zr (DP.d0 (DP.z ?_)))))
    obtain rfl:=oi o
    exact⟨rfl,j.sp 5 [1,2,3,4]⟩
   refine DP.e0 zr (RL.move (vp b0 0) (cg aa) (aW zr (RL.nilCheck (hg:=(cg aa)) zr (aW zr (RL.aX (hg:=(cg aa)) zr ml (aW zr (RL.bF (hg:=(cg aa)) 0 v0_6 j pI (aW zr ?_))))))))
   refine RL.move (vi af) (cg aa) (aW zr ?_)
   obtain⟨ay,aj,o⟩:=bd o
   have hl242:=j.eH 2
   have hr243:=fU (default:aT) hl242 aj
   have hq244:=jz 1 j hr243 0
   refine RL.bT (hg:=(cg aa)) 1 j zr zr uz hr243 (aW zr ?_)
   have hl245:=j.eH 2
   have hr246:=fU (default:aT) hl245 aj
   refine RL.kz (hg:=(cg aa)) (α:=aT) (jz 1 j hr246 0) tI (aW zr ?_)
   have hl247:=j.eH 2
   have hr248:=fU (default:aT) hl247 aj
   refine RL.wK (fun u=>u.aN) ay.aN 1 2 af BH (default:aT) (cg aa) zr j zr (jz 1 j hr248 1) zr zr aj (fun u hu=>hu.2) eV fun az j=>(aW zr (RL.aX (hg:=(cg aa)) zr uX (aW zr (RL.aM (hg:=(cg aa)) 4 j zr pF cL (oZ zr ?_)))))
   obtain⟨aq,a0,o⟩:=bd o
   refine RL.call (cg aa) zr E9 [az,(vi p1.Number)] zr (aD (eG N (p1:=p1.Number) (i0:=0) j zr a0) ?_)
   rintro _ w ⟨rfl,j⟩
   refine rB zr (fB aa (vb aq) (aW zr (mv (vb aq) (DP.d0 (fA o (fun ag o=>?_) fun ag o=>?_)))))
   ·refine DP.e0 zr (bC ag (aW zr (bC ag (aW zr (bC ag (aW zr (bC ag (aW zr ?_))))))))
    refine xF (aW zr (xF (aW zr (xF (aW zr (xF (aW zr (xF ?_))))))))
    refine aW zr (xF (aW zr (xF (aW zr (xF (aW zr (xF (aW zr ?_))))))))
    refine xF (oZ zr (xF (rB zr (bC ag (aW zr (fB ag (vb true) (DP.d0 (DP.z ?_))))))))
    obtain rfl:=oi o
    exact⟨rfl,j.sp 5 [1,2,3,4]⟩
   refine DP.e0 zr (RL.aX (hg:=(cg ag)) zr wT (aW zr (RL.aM (hg:=(cg ag)) 4 j zr qO Ax (aW zr (RL.not (hg:=(cg ag)) p1.cA (aW zr (RL.move (vb (!p1.cA)) (cg ag) (DP.d0 ?_))))))))
   refine fA o (fun ad o=>?_) fun ad o=>?_
   rotate_left
   ·refine DP.e0 zr (bC ad (aW zr (bC ad (aW zr (bC ad (aW zr (bC ad (aW zr ?_))))))))
    refine bC ad (aW zr (bC ad (aW zr (bC ad (aW zr (bC ad (aW zr (bC ad ?_))))))))
    refine aW zr (bC ad (oZ zr (bC ad (rB zr (fB ad (vb false) (hg:=(cg ag)) (aW zr (fB ag (vb false) (DP.d0 ?_))))))))
    refine DP.z ?_
    obtain rfl:=oi o
    exact⟨rfl,j.sp 5 [1,2,3,4]⟩
   refine DP.e0 zr (RL.move (vp b0 0) (cg ad) (aW zr (RL.nilCheck (hg:=(cg ad)) zr (aW zr (RL.aX (hg:=(cg ad)) zr ml (aW zr (RL.bF (hg:=(cg ad)) 1 v0_6 j pI (aW zr ?_))))))))
   refine RL.move (vi af) (cg ad) (aW zr ?_)
   obtain⟨a1,ak,o⟩:=bd o
   have hl254:=j.eH 3
   have hr255:=fU (default:aT) hl254 ak
   have hq256:=jz 2 j hr255 0
   refine RL.bT (hg:=(cg ad)) 2 j zr zr uz hr255 (aW zr ?_)
   have hl257:=j.eH 3
   have hr258:=fU (default:aT) hl257 ak
   refine RL.kz (hg:=(cg ad)) (α:=aT) (jz 2 j hr258 0) qR (aW zr ?_)
   have hl259:=j.eH 3
   have hr260:=fU (default:aT) hl259 ak
   refine RL.wK (fun u=>u.gN) a1.gN 2 3 af wk (default:aT) (cg ad) zr j zr (jz 2 j hr260 0) zr zr ak (fun u hu=>hu.1) eV fun a2 j=>(aW zr (RL.aX (hg:=(cg ad)) zr uX (aW zr (RL.aM (hg:=(cg ad)) 5 j zr pF cL (oZ zr ?_)))))
   obtain⟨ar,a3,o⟩:=bd o
   refine RL.call (cg ad) zr E9 [a2,(vi p1.Number)] zr (aD (eG N (p1:=p1.Number) (i0:=0) j zr a3) ?_)
   rintro _ w ⟨rfl,j⟩
   refine rB zr (fB ad (vb ar) (hg:=(cg ag)) (aW zr (fB ag (vb ar) (DP.d0 (DP.z ?_)))))
   obtain rfl:=oi o
   exact⟨rfl,j.sp 6 [2,3,4,5]⟩
  rintro _ w ⟨O,rfl,j⟩
  refine aH (dT hb (fun hc hb=>?_) fun hc hb=>?_)
  rotate_left
  ·refine RC.skip (bP (aH (RC.region (mv (vi af) (RL.gk af 1 (aP (vi (IntKind.wrap .i64 (af+1))) (RL.nil ?_)))))))
   obtain rfl:=oi hb
   exact⟨rfl,j.sp 4 [0,1,2,3]⟩
  refine RC.sr (mv (vi af) (aP (vi af) (RL.nt (RC.rb (bR ?_)))))
  obtain rfl:=oi hb
  exact⟨rfl,bY ⟨rfl,j.pk 4 [0,1,2]⟩⟩
 ·intro r U w e hK
  subst e
  refine bR ?_
  obtain rfl:=oi hb
  exact hK
 rintro af _ w rfl ⟨O,rfl,j⟩
 rw [Fo.cZ] at hb
 refine aH (RC.sr (aP (vi (-1)) (RL.nt (RC.ret ?_))))
 obtain rfl:=oi hb
 exact bY ⟨rfl,j.pk 4 [0,1,2]⟩
theorem nF {p0_2: (List cA)} {p0_4: (List Int)} {p0_5: (List (List aI))} {us0_6:List aT} {p0_6: (List bQ)} {p1:eQ} (j:Holds E w (bc 56 b0 [v0_0,v0_1,v0_2,v0_3,v0_4,v0_5,v0_6,v0_7]::rd v0_2 p0_2::rd v0_4 p0_4::rd v0_5 p0_5::own 39 v0_6 us0_6::iA aV us0_6 p0_6 none::V)) (h1:V[i1]? =some (rd v1 p1)) (o:dP N p0_2 p0_4 p0_5 p0_6 p1=some res):
    Calls bN 17 [(vp b0 0),v1].toArray w (gJ (gA E V b0 v0_0 v0_1 v0_2 v0_3 v0_4 v0_5 v0_6 us0_6 p0_6 v0_7 res)):=by
 unfold dP at o
 refine enter Tryz.func17 zr zr ?_
 have j:=j.dup (i1+6) h1
 refine RC.sr (RL.dD 0 v1 j zr fun aj w j=>?_)
 refine aP (vi 0) (RL.ns (mv (vp b0 0) (RL.aZ (f:=(fun x=>x)) 0 j zr Fd.self r8 fun ad j=>?_)))
 have j:=(((j.dup 6 rfl).dup 6 rfl).dup 6 rfl).pull 6
 obtain⟨aa,ae,o⟩:=bd o
 refine RL.call zt zr LS [(vp b0 0),ad] zr (aD (lW N (i1:=0) j zr ae) ?_)
 rintro _ w ⟨ab,rfl,j⟩
 refine mv (.tuple #[ab,(vb aa.2)]) (RL.extract ab (RL.extract (vb aa.2) (RL.alloc j Gz.z fun ak w j=>?_)))
 refine RL.bZ 0 j 1 zr tJ fun w j=>?_
 refine aP (vb aa.2) (RL.nq (RC.sr (mv (vb aa.2) (RL.not aa.2 (RL.nt (dT o (fun hc o=>?_) fun hc o=>?_))))))
 ·refine RC.sr (aP (vi (-1)) (RL.nt (RC.rt ?_)))
  obtain rfl:=oi o
  exact bY ⟨rfl,j.pk 12 [2,10,11]⟩
 refine RC.sx (mv (vp b0 0) (RL.aZ (f:=(fun x=>x)) 0 j zr Fd.self tJ fun ag j=>?_))
 have j:=((j.pull 12).pull 12).pull 5
 obtain⟨ah,ai,o⟩:=bd o
 refine RL.call zt zr LU [(vp b0 0),ag] zr (aD (mC N (i1:=0) j zr ai) ?_)
 rintro _ w ⟨rfl,j⟩
 refine aP (vi ah) (RL.nt (RC.ret ?_))
 obtain rfl:=oi o
 exact bY ⟨rfl,j.pk 16 [0,1,2]⟩
end Go.Gk
