/-
  Printed texts: Go functions as plain functions, and that they are. No statement of the seed is proved here.
-/
import Derived.Test.YtmmiladckdcjeaaGreatDoorG1
import Derived.Test.YtmmiladckdcjeaaGreatDoorG5
import Derived.Test.YtmmiladckdcjeaaGreatDoorG6
import Derived.Test.YtmmiladckdcjeaaGreatDoorA2
set_option linter.unusedVariables false
set_option linter.unusedSimpArgs false
set_option linter.unusedSectionVars false
set_option maxRecDepth 100000
set_option maxHeartbeats 4000000
namespace Go.Gk
open Go Go.Proofs
variable (N:Nat) {E w:World} {b0 i0 i1:Nat} {p1 res:Int} {v0 v0_0 v0_1 v0_2 v0_3 v0_4 v0_5 v0_6 v0_7 v1 v2:Value} {V:List HP}
def kT (E:World) (V:List HP) (r:Int) (U:Nat->Value) (w:World):Prop:=mh bO 72 Tryz.f11 (aW E V r) .ret U w
theorem na {p0:k7} (j:Holds E w V) (h0:V[i0]? =some (rd v0 p0)) (o:dB N p0=some res):
    Calls bO 11 [v0].toArray w (gW (aW E V res)):=by
 unfold dB at o
 refine enter Tryz.func11 zr zr ?_
 have j:=j.dup (i0+0) h0
 refine RC.sr (RL.dJ 0 v0 j zr fun af w j=>?_)
 have j:=j.lR (i:=0) rfl
 refine aQ (vi 0) (RL.nq (RC.sr (RL.bL 0 p0 j tQ fun au j=>?_)))
 obtain⟨ai,av,o⟩:=bd o
 refine RL.call zt zr MF [au] zr (aD (p6 N (i0:=0) j zr av) ?_)
 rintro _ w ⟨rfl,j⟩
 refine aQ (vi ai) (RL.ns (mv (vi ai) (ic ai 0 (RL.nt (dU o (fun hc o=>?_) fun hc o=>?_)))))
 ·refine RC.sr (mv (vi ai) (aQ (vi ai) (RL.nt (RC.rt ?_))))
  obtain rfl:=oi o
  exact bX ⟨rfl,j.drop 3⟩
 refine RC.ss (RC.sr (aQ (vi 0) (RL.nt ?_)))
 obtain⟨bm,hN,o⟩:=bd o
 refine RC.iter (fun(ae:Int)=>SH E V [(1,vp af 0),(4,vi ae)] [pt (vp af 0) p0]) (fun(ae:Int)=>SH E V [(1,vp af 0)] [pt (vp af 0) p0]) (kT E V) hN ?_ ?_ ?_ ?_
 ·exact j.sp 3 [1]
 ·rintro ae fl _ w ⟨O,rfl,j⟩ o
  refine RC.seq (RC.sr (mv (vi ae) (RL.dX 0 j zr gK gj fun bn j=>(RL.bL 0 p0.aM j mZ fun bo j=>(RL.bA 0 p0.aM j um (ic ae ((p0.aM.length:Int)) (RL.nt (dU o (fun hc o=>?_) fun hc o=>?_))))))))
  rotate_left
  ·refine RC.ex ?_
   obtain rfl:=oi o
   exact⟨rfl,j.sp 3 [2]⟩
  refine RC.ss (RC.bs (aQ (vi 0) (RL.nt ?_)))
  obtain⟨bp,hN,o⟩:=bd o
  refine RC.iter (fun(ah:Int)=>SH E V [(1,vp af 0),(4,vi ae),(5,vi ah)] [pt (vp af 0) p0]) (fun(ah:Int)=>SH E V [(1,vp af 0),(4,vi ae)] [pt (vp af 0) p0]) (kT E V) hN ?_ ?_ ?_ ?_
  ·exact j.sp 3 [2]
  ·rintro ah fl _ w ⟨O,rfl,j⟩ o
   refine RC.seq (RC.sr (mv (vi ah) (mv (vi ae) (ic ah ae (RL.nt (dU o (fun hc o=>?_) fun hc o=>?_))))))
   rotate_left
   ·refine RC.ex ?_
    obtain rfl:=oi o
    exact⟨rfl,j.sp 1 [0]⟩
   refine RC.ss (RC.block (RC.seq ?_))
   obtain⟨an,hj,o⟩:=bd o
   refine RC.jn (fun(an:Bool)=>SH E V [(1,vp af 0),(4,vi ae),(5,vi ah),(51,vb an)] [pt (vp af 0) p0]) an ?_ ?_
   ·refine RC.v5 mixed [0,0,0,0,0,0,0,0,0,0,2,0,0,0,0,0,0,2,1,1,1,1,1,2,2,0] [0,1,2,3,4,5,6,7,8,9,10,11,12,13,14,15,16,18,19,20,21,22,17,23,24,25] ?_
    have j:=j.drew
    refine DP.e0 zr (RL.dX 0 j zr gK gj fun bq j=>(aZ zr (RL.bL 0 p0.aM j mZ fun br j=>(aZ zr (mv (vi ae) (aZ zr ?_))))))
    obtain⟨aw,ax,hj⟩:=bd hj
    refine RL.bP 0 j pE ax fun bt j=>(aZ zr (RL.bL 0 aw j lE fun ay j=>(aZ zr (RL.dX 4 j zr gK gj fun bu j=>(aZ zr (RL.bL 0 p0.aM j mZ fun bw j=>(aZ zr (mv (vi ah) ?_))))))))
    refine aZ zr ?_
    obtain⟨az,a0,hj⟩:=bd hj
    refine RL.bP 0 j pE a0 fun bx j=>(aZ zr (RL.bL 0 az j lE fun a1 j=>(pP zr ?_)))
    obtain⟨a2,a3,hj⟩:=bd hj
    refine RL.call zt zr MG [ay,a1] zr (aD (sf N (i0:=4) (i1:=0) j zr zr a3) ?_)
    rintro _ w ⟨rfl,j⟩
    refine tP zr (mv (vb a2) (DP.d0 (fC hj (fun aa hj=>?_) fun aa hj=>?_)))
    rotate_left
    ·refine DP.e0 zr (bG aa (aZ zr (bG aa (aZ zr (bG aa (aZ zr (bG aa (aZ zr ?_))))))))
     refine bG aa (DP.d0 (DP.e1 undef zr (fun w=>bG aa DP.d1) (DP.e1 undef zr (fun w=>bG aa DP.d1) (DP.e1 undef zr (fun w=>bG aa DP.d1) (DP.e1 undef zr (fun w=>bG aa DP.d1) (DP.e1 undef zr (fun w=>bG aa DP.d1) (DP.e2 zr (bG aa ?_))))))))
     refine E7 zr (bG aa (E7 zr (bG aa (tP zr (fL aa (vb false) (DP.d0 (DP.z ?_)))))))
     obtain rfl:=oi hj
     exact⟨rfl,j.sp 9 [8]⟩
    refine DP.e0 zr (RL.dX (hg:=(cg aa)) 8 j zr gK gj fun bz j=>(aZ zr (RL.bL (hg:=(cg aa)) 0 p0.aM j mZ fun b0 j=>(aZ zr (RL.move (vi ae) (cg aa) (aZ zr ?_))))))
    obtain⟨a4,a5,hj⟩:=bd hj
    refine RL.bP (hg:=(cg aa)) 0 j pE a5 fun b1 j=>(aZ zr (RL.bL (hg:=(cg aa)) 0 a4 j lE fun a6 j=>(DP.d0 (DP.B5 12 zr (cg aa) j zr gK gj fun b2 j=>(DP.zg p0.aM 0 zr (cg aa) j mZ fun b3 a704 b4 j=>(DP.e1 (vi ah) zr (fun w=>RL.move (vi ah) (cg aa) DP.d1) ?_))))))
    obtain⟨a7,a8,hj⟩:=bd hj
    refine DP.v7 (hg:=(cg aa)) 1 zr j pE a8 fun b5 j=>(DP.zg a7 0 zr (cg aa) j lE fun a9 a709 b6 j=>(DP.e2 zr ?_))
    obtain⟨b7,ba,hj⟩:=bd hj
    refine RL.call (cg aa) zr FV [a6] zr (aD (fG N (i0:=6) j zr ba) ?_)
    rintro bb w j
    refine DP.d2 (⟨⟨zt,j.iq 4⟩,j.iq 1⟩) (DP.e2 zr ?_)
    obtain⟨b8,bc,hj⟩:=bd hj
    refine RL.call (cg aa) zr FV [a9] zr (aD (fG N (i0:=2) j zr bc) ?_)
    rintro bf w j
    refine DP.d2 (⟨⟨zt,j.iq 5⟩,j.iq 2⟩) (DP.e2 zr ?_)
    obtain⟨bg,bh,hj⟩:=bd hj
    refine RL.call (cg aa) zr MH [bb,bf] zr (aD (rJ N (i0:=1) (i1:=0) j zr zr bh) ?_)
    rintro _ w ⟨rfl,j⟩
    refine DP.d2 (⟨⟨zt,j.iq 5⟩,j.iq 2⟩) (DP.e0 zr (fL aa (vb bg) (DP.d0 ?_)))
    have j:=j.pl 21 [0,1,3,4,6,7,8,9,10,11,12,13,14,15,16,17,18,19,20]
    refine DP.z ?_
    obtain rfl:=oi hj
    exact⟨rfl,j.sp 19 [18]⟩
   rintro _ w ⟨O,rfl,j⟩
   refine aH (dU o (fun hc o=>?_) fun hc o=>?_)
   ·refine RC.sr (aQ (vi 12) (RL.nt (RC.rb (bT ?_))))
    obtain rfl:=oi o
    exact⟨rfl,bX ⟨rfl,j.drop 1⟩⟩
   refine RC.skip (bM (aH (RC.region (mv (vi ah) (RL.gl ah 1 (aQ (vi (IntKind.wrap .i64 (ah+1))) (RL.nil ?_)))))))
   obtain rfl:=oi o
   exact⟨rfl,j.sp 1 [0]⟩
  ·intro r U w e hK
   subst e
   refine ot (bT ?_)
   obtain rfl:=oi o
   exact⟨rfl,hK⟩
  rintro ah _ w rfl ⟨O,rfl,j⟩
  rw [Fo.dA] at o
  refine bM (aH (RC.region (mv (vi ae) (RL.gl ae 1 (aQ (vi (IntKind.wrap .i64 (ae+1))) (RL.nil ?_))))))
  obtain rfl:=oi o
  exact⟨rfl,j.sp 1 [0]⟩
 ·intro r U w e hK
  subst e
  refine bT ?_
  obtain rfl:=oi o
  exact hK
 rintro ae _ w rfl ⟨O,rfl,j⟩
 rw [Fo.dA] at o
 refine aH (RC.sr (aQ (vi 0) (RL.nq (RC.sr (aQ (vi 0) (RL.nt ?_))))))
 obtain⟨b9,hN,o⟩:=bd o
 refine RC.iter (fun(ad:Int×Int)=>SH E V [(1,vp af 0),(6,vi ad.1),(7,vi ad.2)] [pt (vp af 0) p0]) (fun(ad:Int×Int)=>SH E V [(6,vi ad.1)] [pt (vp af 0) p0]) (kT E V) hN ?_ ?_ ?_ ?_
 ·exact j.sp 1 [0]
 ·rintro ad fl _ w ⟨O,rfl,j⟩ o
  refine RC.seq (RC.sr (mv (vi ad.2) (RL.dX 0 j zr mx jc fun ca j=>(RL.bL 0 p0.aJ j pB fun cb j=>(RL.bA 0 p0.aJ j qw (ic ad.2 ((p0.aJ.length:Int)) (RL.nt (dU o (fun hc o=>?_) fun hc o=>?_))))))))
  rotate_left
  ·refine RC.ex ?_
   obtain rfl:=oi o
   exact⟨rfl,j.sp 3 [2]⟩
  refine RC.ss (RC.bs (RL.bL 2 p0 j tQ fun bj j=>(mv (vi ad.2) ?_)))
  obtain⟨ar,bk,o⟩:=bd o
  refine RL.call zt zr Ld [bj,(vi ad.2)] zr (aD (mC N (p1:=ad.2) (i0:=0) j zr bk) ?_)
  rintro al w j
  refine aQ al (RL.nq (RC.sr (mv al (RL.fS 0 ar j nc (ic ((ar.length:Int)) 2000 (RL.nt (dU o (fun hc o=>?_) fun hc o=>?_)))))))
  ·refine RC.sr (aQ (vi 2) (RL.nt (RC.rt (ot (bT ?_)))))
   obtain rfl:=oi o
   exact⟨rfl,bX ⟨rfl,j.drop 5⟩⟩
  refine RC.sn (RC.region (mv (vi ad.1) (mv al ?_)))
  have j:=j.freeze 0
  obtain⟨ao,bl,o⟩:=bd o
  refine RL.call zt zr Le [al] zr (aD (m9 N (i0:=0) j zr bl) ?_)
  rintro cc w j
  refine RL.fS 0 ao j qw (RL.gl ad.1 (ao.length:Int) (aQ (vi (IntKind.wrap .i64 (ad.1+ (ao.length:Int)))) (RL.nil (bM (aH (RC.region (mv (vi ad.2) (RL.gl ad.2 1 ?_))))))))
  refine aQ (vi (IntKind.wrap .i64 (ad.2+1))) (RL.nil ?_)
  obtain rfl:=oi o
  exact⟨rfl,j.sp 6 [5]⟩
 ·intro r U w e hK
  subst e
  refine bT ?_
  obtain rfl:=oi o
  exact hK
 rintro ad _ w rfl ⟨O,rfl,j⟩
 rw [Fo.dA] at o
 refine aH (RC.seq (RC.sr (mv (vi ad.1) (ic ad.1 2000 (RL.nt (dU o (fun hc o=>?_) fun hc o=>?_))))))
 ·refine RC.sr (aQ (vi 2) (RL.nt (RC.rt ?_)))
  obtain rfl:=oi o
  exact bX ⟨rfl,j.drop 1⟩
 refine RC.sx (aQ (vi 0) (RL.nt (RC.ret ?_)))
 obtain rfl:=oi o
 exact bX ⟨rfl,j.drop 1⟩
def uL (E:World) (V:List HP) (r:Bool) (U:Nat->Value) (w:World):Prop:=mh bO 62 Tryz.f30 (aV E V r) .ret U w
theorem t3 {p0: (List aI)} {p1:aI} {res:Bool} (hw:Holds E w V) (h0:V[i0]? =some (rd v0 p0)) (h1:V[i1]? =some (rd v1 p1)) (hb:ji N p0 p1=some res):
    Calls bO 30 [v0,v1].toArray w (gW (aV E V res)):=by
 unfold ji at hb
 refine enter Tryz.func30 zr zr ?_
 have hw:=(hw.dup (i0+0) h0).dup (i1+1) h1
 refine RC.sr (RL.dJ 0 v1 hw zr fun ag w hw=>?_)
 refine aQ (vb false) (RL.nq (RC.sr (aQ (vi 0) (RL.nt ?_))))
 obtain⟨aq,hN,hb⟩:=bd hb
 refine RC.iter (fun(af:Int)=>SH E V [(0,v0),(3,vp ag 0),(5,vi af)] [rd v0 p0,bx 59 ag p1]) (fun(af:Int)=>SH E V [] [rd v0 p0,bx 59 ag p1]) (uL E V) hN ?_ ?_ ?_ ?_
 ·exact hw.sp 3 [2,0]
 ·rintro af fl _ w ⟨O,rfl,hw⟩ hb
  refine RC.seq (RC.sr (mv (vi af) (mv v0 (RL.bA 0 p0 hw nc (ic af ((p0.length:Int)) (RL.nt (dU hb (fun hc hb=>?_) fun hc hb=>?_)))))))
  rotate_left
  ·refine RC.ex ?_
   obtain rfl:=oi hb
   exact⟨rfl,hw.sp 2 [0,1]⟩
  refine RC.ss (RC.block (RC.seq (RC.zf mixed ?_)))
  have hw:=hw.drew
  refine RO.go (mv v0 (RO.nx (mv (vi af) (RO.nx ?_))))
  obtain⟨j,aj,hb⟩:=bd hb
  refine RL.bP 0 hw jk aj fun au hw=>(RO.nx (RL.dX 0 hw zr jl eE fun av hw=>(RO.nx (RL.bD j.X1 0 hw cJ (RO.nx (RL.aX zr jl (RO.nx (RL.aN 3 hw zr eE cJ ?_))))))))
  refine RO.nx (RL.min j.X1 p1.X1 (RO.nx (mv v0 (RO.nx (mv (vi af) (RO.nx ?_))))))
  obtain⟨o,ak,hb⟩:=bd hb
  refine RL.bP 2 hw jk ak fun aw hw=>(RO.nx (RL.dX 0 hw zr ir dL fun ax hw=>(RO.nx (RL.bD o.X0 0 hw cJ (RO.nx (RL.aX zr ir (RO.nx (RL.aN 5 hw zr dL cJ ?_))))))))
  refine RO.nx (RL.max o.X0 p1.X0 (RO.nx (RL.gl (if p1.X1<j.X1 then p1.X1 else j.X1) (if o.X0<p1.X0 then p1.X0 else o.X0) (RO.nx (aQ (vi (IntKind.wrap .i64 ((if p1.X1<j.X1 then p1.X1 else j.X1) - (if o.X0<p1.X0 then p1.X0 else o.X0)))) (RO.last (aH (RC.seq ?_))))))))
  refine RC.zf mixed ?_
  have hw:=hw.drew
  refine RO.go (mv v0 (RO.nx (mv (vi af) (RO.nx ?_))))
  obtain⟨aa,al,hb⟩:=bd hb
  refine RL.bP 4 hw jk al fun ay hw=>(RO.nx (RL.dX 0 hw zr kq fF fun az hw=>(RO.nx (RL.bD aa.Y1 0 hw cJ (RO.nx (RL.aX zr kq (RO.nx (RL.aN 7 hw zr fF cJ ?_))))))))
  refine RO.nx (RL.min aa.Y1 p1.Y1 (RO.nx (mv v0 (RO.nx (mv (vi af) (RO.nx ?_))))))
  obtain⟨ab,an,hb⟩:=bd hb
  refine RL.bP 6 hw jk an fun a0 hw=>(RO.nx (RL.dX 0 hw zr g8 dF fun a1 hw=>(RO.nx (RL.bD ab.Y0 0 hw cJ (RO.nx (RL.aX zr g8 (RO.nx (RL.aN 9 hw zr dF cJ ?_))))))))
  refine RO.nx (RL.max ab.Y0 p1.Y0 (RO.nx (RL.gl (if p1.Y1<aa.Y1 then p1.Y1 else aa.Y1) (if ab.Y0<p1.Y0 then p1.Y0 else ab.Y0) (RO.nx (aQ (vi (IntKind.wrap .i64 ((if p1.Y1<aa.Y1 then p1.Y1 else aa.Y1) - (if ab.Y0<p1.Y0 then p1.Y0 else ab.Y0)))) (RO.last (aH (RC.sr ?_))))))))
  refine mv (vi (IntKind.wrap .i64 ((if p1.X1<j.X1 then p1.X1 else j.X1) - (if o.X0<p1.X0 then p1.X0 else o.X0)))) (ic ((IntKind.wrap .i64 ((if p1.X1<j.X1 then p1.X1 else j.X1) - (if o.X0<p1.X0 then p1.X0 else o.X0)))) 0 (mv (vb (decide ((IntKind.wrap .i64 ((if p1.X1<j.X1 then p1.X1 else j.X1) - (if o.X0<p1.X0 then p1.X0 else o.X0)))>0))) (RL.gs true (decide ((IntKind.wrap .i64 ((if p1.X1<j.X1 then p1.X1 else j.X1) - (if o.X0<p1.X0 then p1.X0 else o.X0)))>0)) (vi (IntKind.wrap .i64 ((if p1.Y1<aa.Y1 then p1.Y1 else aa.Y1) - (if ab.Y0<p1.Y0 then p1.Y0 else ab.Y0)))) rfl rfl rfl cH (RL.gs true (decide ((IntKind.wrap .i64 ((if p1.X1<j.X1 then p1.X1 else j.X1) - (if o.X0<p1.X0 then p1.X0 else o.X0)))>0)) (vb ((IntKind.wrap .i64 ((if p1.Y1<aa.Y1 then p1.Y1 else aa.Y1) - (if ab.Y0<p1.Y0 then p1.Y0 else ab.Y0)))==0)) rfl rfl rfl (dI .eql .i64 (IntKind.wrap .i64 ((if p1.Y1<aa.Y1 then p1.Y1 else aa.Y1) - (if ab.Y0<p1.Y0 then p1.Y0 else ab.Y0))) 0 rfl (fun h=>by exact(cK h:cv (true&&((decide ((IntKind.wrap .i64 ((if p1.X1<j.X1 then p1.X1 else j.X1) - (if o.X0<p1.X0 then p1.X0 else o.X0)))>0))==true)) (vi (IntKind.wrap .i64 ((if p1.Y1<aa.Y1 then p1.Y1 else aa.Y1) - (if ab.Y0<p1.Y0 then p1.Y0 else ab.Y0))))= (vi (IntKind.wrap .i64 ((if p1.Y1<aa.Y1 then p1.Y1 else aa.Y1) - (if ab.Y0<p1.Y0 then p1.Y0 else ab.Y0)))))) (fun _=>rfl) rfl) (RL.pick (decide ((IntKind.wrap .i64 ((if p1.X1<j.X1 then p1.X1 else j.X1) - (if o.X0<p1.X0 then p1.X0 else o.X0)))>0)) (vb ((decide ((IntKind.wrap .i64 ((if p1.X1<j.X1 then p1.X1 else j.X1) - (if o.X0<p1.X0 then p1.X0 else o.X0)))>0))&&((IntKind.wrap .i64 ((if p1.Y1<aa.Y1 then p1.Y1 else aa.Y1) - (if ab.Y0<p1.Y0 then p1.Y0 else ab.Y0)))==0))) (gr true rfl) (mv (vb ((decide ((IntKind.wrap .i64 ((if p1.X1<j.X1 then p1.X1 else j.X1) - (if o.X0<p1.X0 then p1.X0 else o.X0)))>0))&&((IntKind.wrap .i64 ((if p1.Y1<aa.Y1 then p1.Y1 else aa.Y1) - (if ab.Y0<p1.Y0 then p1.Y0 else ab.Y0)))==0))) (RL.gs true ((decide ((IntKind.wrap .i64 ((if p1.X1<j.X1 then p1.X1 else j.X1) - (if o.X0<p1.X0 then p1.X0 else o.X0)))>0))&&((IntKind.wrap .i64 ((if p1.Y1<aa.Y1 then p1.Y1 else aa.Y1) - (if ab.Y0<p1.Y0 then p1.Y0 else ab.Y0)))==0)) (vi (IntKind.wrap .i64 ((if p1.X1<j.X1 then p1.X1 else j.X1) - (if o.X0<p1.X0 then p1.X0 else o.X0)))) rfl rfl rfl cH (RL.gs true ((decide ((IntKind.wrap .i64 ((if p1.X1<j.X1 then p1.X1 else j.X1) - (if o.X0<p1.X0 then p1.X0 else o.X0)))>0))&&((IntKind.wrap .i64 ((if p1.Y1<aa.Y1 then p1.Y1 else aa.Y1) - (if ab.Y0<p1.Y0 then p1.Y0 else ab.Y0)))==0)) (vb ((IntKind.wrap .i64 ((if p1.X1<j.X1 then p1.X1 else j.X1) - (if o.X0<p1.X0 then p1.X0 else o.X0)))==0)) rfl rfl rfl (dI .eql .i64 (IntKind.wrap .i64 ((if p1.X1<j.X1 then p1.X1 else j.X1) - (if o.X0<p1.X0 then p1.X0 else o.X0))) 0 rfl (fun h=>by exact(cK h:cv (true&&(((decide ((IntKind.wrap .i64 ((if p1.X1<j.X1 then p1.X1 else j.X1) - (if o.X0<p1.X0 then p1.X0 else o.X0)))>0))&&((IntKind.wrap .i64 ((if p1.Y1<aa.Y1 then p1.Y1 else aa.Y1) - (if ab.Y0<p1.Y0 then p1.Y0 else ab.Y0)))==0))==false)) (vi (IntKind.wrap .i64 ((if p1.X1<j.X1 then p1.X1 else j.X1) - (if o.X0<p1.X0 then p1.X0 else o.X0))))= (vi (IntKind.wrap .i64 ((if p1.X1<j.X1 then p1.X1 else j.X1) - (if o.X0<p1.X0 then p1.X0 else o.X0)))))) (fun _=>rfl) rfl) ?_))))))))
  refine RL.gs true ((decide ((IntKind.wrap .i64 ((if p1.X1<j.X1 then p1.X1 else j.X1) - (if o.X0<p1.X0 then p1.X0 else o.X0)))>0))&&((IntKind.wrap .i64 ((if p1.Y1<aa.Y1 then p1.Y1 else aa.Y1) - (if ab.Y0<p1.Y0 then p1.Y0 else ab.Y0)))==0)) (vb ((IntKind.wrap .i64 ((if p1.X1<j.X1 then p1.X1 else j.X1) - (if o.X0<p1.X0 then p1.X0 else o.X0)))==0)) rfl rfl rfl (cH (hx:=fun h=>by exact(cK h:cv (true&&(((decide ((IntKind.wrap .i64 ((if p1.X1<j.X1 then p1.X1 else j.X1) - (if o.X0<p1.X0 then p1.X0 else o.X0)))>0))&&((IntKind.wrap .i64 ((if p1.Y1<aa.Y1 then p1.Y1 else aa.Y1) - (if ab.Y0<p1.Y0 then p1.Y0 else ab.Y0)))==0))==false)) (vb ((IntKind.wrap .i64 ((if p1.X1<j.X1 then p1.X1 else j.X1) - (if o.X0<p1.X0 then p1.X0 else o.X0)))==0))= (vb ((IntKind.wrap .i64 ((if p1.X1<j.X1 then p1.X1 else j.X1) - (if o.X0<p1.X0 then p1.X0 else o.X0)))==0))))) (RL.gs (true&&(((decide ((IntKind.wrap .i64 ((if p1.X1<j.X1 then p1.X1 else j.X1) - (if o.X0<p1.X0 then p1.X0 else o.X0)))>0))&&((IntKind.wrap .i64 ((if p1.Y1<aa.Y1 then p1.Y1 else aa.Y1) - (if ab.Y0<p1.Y0 then p1.Y0 else ab.Y0)))==0))==false)) ((IntKind.wrap .i64 ((if p1.X1<j.X1 then p1.X1 else j.X1) - (if o.X0<p1.X0 then p1.X0 else o.X0)))==0) (vi (IntKind.wrap .i64 ((if p1.Y1<aa.Y1 then p1.Y1 else aa.Y1) - (if ab.Y0<p1.Y0 then p1.Y0 else ab.Y0)))) rfl rfl rfl cH (RL.gs (true&&(((decide ((IntKind.wrap .i64 ((if p1.X1<j.X1 then p1.X1 else j.X1) - (if o.X0<p1.X0 then p1.X0 else o.X0)))>0))&&((IntKind.wrap .i64 ((if p1.Y1<aa.Y1 then p1.Y1 else aa.Y1) - (if ab.Y0<p1.Y0 then p1.Y0 else ab.Y0)))==0))==false)) ((IntKind.wrap .i64 ((if p1.X1<j.X1 then p1.X1 else j.X1) - (if o.X0<p1.X0 then p1.X0 else o.X0)))==0) (vb (decide ((IntKind.wrap .i64 ((if p1.Y1<aa.Y1 then p1.Y1 else aa.Y1) - (if ab.Y0<p1.Y0 then p1.Y0 else ab.Y0)))>0))) rfl rfl rfl (dI .gtr .i64 (IntKind.wrap .i64 ((if p1.Y1<aa.Y1 then p1.Y1 else aa.Y1) - (if ab.Y0<p1.Y0 then p1.Y0 else ab.Y0))) 0 rfl (fun h=>by exact(cK h:cv ((true&&(((decide ((IntKind.wrap .i64 ((if p1.X1<j.X1 then p1.X1 else j.X1) - (if o.X0<p1.X0 then p1.X0 else o.X0)))>0))&&((IntKind.wrap .i64 ((if p1.Y1<aa.Y1 then p1.Y1 else aa.Y1) - (if ab.Y0<p1.Y0 then p1.Y0 else ab.Y0)))==0))==false))&&(((IntKind.wrap .i64 ((if p1.X1<j.X1 then p1.X1 else j.X1) - (if o.X0<p1.X0 then p1.X0 else o.X0)))==0)==true)) (vi (IntKind.wrap .i64 ((if p1.Y1<aa.Y1 then p1.Y1 else aa.Y1) - (if ab.Y0<p1.Y0 then p1.Y0 else ab.Y0))))= (vi (IntKind.wrap .i64 ((if p1.Y1<aa.Y1 then p1.Y1 else aa.Y1) - (if ab.Y0<p1.Y0 then p1.Y0 else ab.Y0)))))) (fun _=>rfl) rfl) (RL.gs true ((decide ((IntKind.wrap .i64 ((if p1.X1<j.X1 then p1.X1 else j.X1) - (if o.X0<p1.X0 then p1.X0 else o.X0)))>0))&&((IntKind.wrap .i64 ((if p1.Y1<aa.Y1 then p1.Y1 else aa.Y1) - (if ab.Y0<p1.Y0 then p1.Y0 else ab.Y0)))==0)) (vb (((IntKind.wrap .i64 ((if p1.X1<j.X1 then p1.X1 else j.X1) - (if o.X0<p1.X0 then p1.X0 else o.X0)))==0)&&(decide ((IntKind.wrap .i64 ((if p1.Y1<aa.Y1 then p1.Y1 else aa.Y1) - (if ab.Y0<p1.Y0 then p1.Y0 else ab.Y0)))>0)))) rfl rfl rfl (kE ((IntKind.wrap .i64 ((if p1.X1<j.X1 then p1.X1 else j.X1) - (if o.X0<p1.X0 then p1.X0 else o.X0)))==0) rfl (fun h=>by exact(cK h:cv (true&&(((decide ((IntKind.wrap .i64 ((if p1.X1<j.X1 then p1.X1 else j.X1) - (if o.X0<p1.X0 then p1.X0 else o.X0)))>0))&&((IntKind.wrap .i64 ((if p1.Y1<aa.Y1 then p1.Y1 else aa.Y1) - (if ab.Y0<p1.Y0 then p1.Y0 else ab.Y0)))==0))==false)) (vb ((IntKind.wrap .i64 ((if p1.X1<j.X1 then p1.X1 else j.X1) - (if o.X0<p1.X0 then p1.X0 else o.X0)))==0))= (vb ((IntKind.wrap .i64 ((if p1.X1<j.X1 then p1.X1 else j.X1) - (if o.X0<p1.X0 then p1.X0 else o.X0)))==0)))) (fun h=>by exact gr (true&&(((decide ((IntKind.wrap .i64 ((if p1.X1<j.X1 then p1.X1 else j.X1) - (if o.X0<p1.X0 then p1.X0 else o.X0)))>0))&&((IntKind.wrap .i64 ((if p1.Y1<aa.Y1 then p1.Y1 else aa.Y1) - (if ab.Y0<p1.Y0 then p1.Y0 else ab.Y0)))==0))==false)) h)) (RL.pick ((decide ((IntKind.wrap .i64 ((if p1.X1<j.X1 then p1.X1 else j.X1) - (if o.X0<p1.X0 then p1.X0 else o.X0)))>0))&&((IntKind.wrap .i64 ((if p1.Y1<aa.Y1 then p1.Y1 else aa.Y1) - (if ab.Y0<p1.Y0 then p1.Y0 else ab.Y0)))==0)) (vb (((decide ((IntKind.wrap .i64 ((if p1.X1<j.X1 then p1.X1 else j.X1) - (if o.X0<p1.X0 then p1.X0 else o.X0)))>0))&&((IntKind.wrap .i64 ((if p1.Y1<aa.Y1 then p1.Y1 else aa.Y1) - (if ab.Y0<p1.Y0 then p1.Y0 else ab.Y0)))==0))||(((IntKind.wrap .i64 ((if p1.X1<j.X1 then p1.X1 else j.X1) - (if o.X0<p1.X0 then p1.X0 else o.X0)))==0)&&(decide ((IntKind.wrap .i64 ((if p1.Y1<aa.Y1 then p1.Y1 else aa.Y1) - (if ab.Y0<p1.Y0 then p1.Y0 else ab.Y0)))>0))))) (nR true) (RL.nt (dU hb (fun hc hb=>?_) fun hc hb=>?_))))))
  ·refine RC.sr (aQ (vb true) (RL.nt (RC.rb (bT ?_))))
   obtain rfl:=oi hb
   exact⟨rfl,bX ⟨rfl,hw.drop 10⟩⟩
  refine RC.skip (bM (aH (RC.region (mv (vi af) (RL.gl af 1 (aQ (vi (IntKind.wrap .i64 (af+1))) (RL.nil ?_)))))))
  obtain rfl:=oi hb
  exact⟨rfl,hw.sp 10 [8,9]⟩
 ·intro r U w e hK
  subst e
  refine bT ?_
  obtain rfl:=oi hb
  exact hK
 rintro af _ w rfl ⟨O,rfl,hw⟩
 rw [Fo.dA] at hb
 refine aH (RC.sr (aQ (vb false) (RL.nt (RC.ret ?_))))
 obtain rfl:=oi hb
 exact bX ⟨rfl,hw.drop 2⟩
def q8 (E:World) (V:List HP) (r:Bool) (U:Nat->Value) (w:World):Prop:=mh bO 18 Tryz.f101 (aV E V r) .ret U w
theorem iT {p0: (List Int)} {res:Bool} (o:Holds E w V) (h0:V[i0]? =some (rd v0 p0)) (j:cS N p0 p1=some res):
    Calls bO 101 [v0,(vi p1)].toArray w (gW (aV E V res)):=by
 unfold cS at j
 refine enter Tryz.func101 zr zr ?_
 have o:=o.dup (i0+0) h0
 refine RC.sr (aQ (vb false) (RL.nq (RC.sr (aQ (vi 0) (RL.nt ?_)))))
 obtain⟨ah,hN,j⟩:=bd j
 refine RC.iter (fun(aa:Int)=>SH E V [(0,v0),(1,vi p1),(5,vi aa)] [rd v0 p0]) (fun(aa:Int)=>SH E V [] [rd v0 p0]) (q8 E V) hN ?_ ?_ ?_ ?_
 ·exact o.sp 1 [0]
 ·rintro aa fl _ w ⟨O,rfl,o⟩ j
  refine RC.seq (RC.sr (mv (vi aa) (mv v0 (RL.bA 0 p0 o ly (ic aa ((p0.length:Int)) (RL.nt (dU j (fun hc j=>?_) fun hc j=>?_)))))))
  rotate_left
  ·refine RC.ex ?_
   obtain rfl:=oi j
   exact⟨rfl,o.sp 1 [0]⟩
  refine RC.ss (RC.bs (mv v0 (mv (vi aa) ?_)))
  obtain⟨ad,af,j⟩:=bd j
  refine RL.bP 0 o dW af fun aj o=>(RL.bD ad 0 o cJ (mv (vi p1) (ic ad p1 (RL.nt (dU j (fun hc j=>?_) fun hc j=>?_)))))
  ·refine RC.sr (aQ (vb true) (RL.nt (RC.rb (bT ?_))))
   obtain rfl:=oi j
   exact⟨rfl,bX ⟨rfl,o.drop 2⟩⟩
  refine RC.skip (bM (aH (RC.region (mv (vi aa) (RL.gl aa 1 (aQ (vi (IntKind.wrap .i64 (aa+1))) (RL.nil ?_)))))))
  obtain rfl:=oi j
  exact⟨rfl,o.sp 2 [1]⟩
 ·intro r U w e hK
  subst e
  refine bT ?_
  obtain rfl:=oi j
  exact hK
 rintro aa _ w rfl ⟨O,rfl,o⟩
 rw [Fo.dA] at j
 refine aH (RC.sr (aQ (vb false) (RL.nt (RC.ret ?_))))
 obtain rfl:=oi j
 exact bX ⟨rfl,o.drop 1⟩
theorem lr {p0: (List Int)} {res: (List Int)} (j:Holds E w V) (h0:V[i0]? =some (rd v0 p0)) (o:gz N p0 p1=some res):
    Calls bO 13 [v0,(vi p1)].toArray w (gW (ng E V res)):=by
 unfold gz at o
 refine enter Tryz.func13 zr zr ?_
 have j:=j.dup (i0+0) h0
 refine RC.sr (aQ (.slice none 0 0) (RL.ns (mv v0 (RL.bA 0 p0 j ly (aQ (vi p0.length) (RL.nq ?_))))))
 obtain⟨az,hN,o⟩:=bd o
 refine RC.iter (fun(aa:Int)=>SH E V [(0,v0),(1,vi p1),(5,vi aa)] [rd v0 p0]) (fun(aa:Int)=>SH E V [(0,v0),(1,vi p1),(5,vi aa)] [rd v0 p0]) (fun(r:Empty) _ _=>r.elim) hN ?_ ?_ ?_ ?_
 ·exact j.sp 1 [0]
 ·rintro aa fl _ w ⟨O,rfl,j⟩ o
  refine RC.seq (RC.seq ?_)
  obtain⟨af,hj,o⟩:=bd o
  refine RC.jn (fun(af:Bool)=>SH E V [(0,v0),(1,vi p1),(5,vi aa),(19,vb af)] [rd v0 p0]) af ?_ ?_
  ·refine RC.region (mv (vi aa) (ic aa 0 (mv (vb (decide (aa>0))) (fC hj (fun ab hj=>?_) fun ab hj=>?_))))
   rotate_left
   ·refine bG ab (bG ab (bG ab (bG ab (bG ab (bG ab (bG ab (fL ab (vb false) (RL.nil ?_))))))))
    obtain rfl:=oi hj
    exact⟨rfl,j.sp 1 [0]⟩
   refine RL.move v0 (cg ab) (RL.move (vi aa) (cg ab) (RL.gl (hg:=(cg ab)) aa 1 ?_))
   obtain⟨ag,ao,hj⟩:=bd hj
   refine RL.bP (hg:=(cg ab)) 0 j dW ao fun a1 j=>(RL.bD (hg:=(cg ab)) ag 0 j cJ (RL.move (vi p1) (cg ab) (RL.kD ag p1 (cg ab) (fL ab (vb (decide (ag>p1))) (RL.nil ?_)))))
   obtain rfl:=oi hj
   exact⟨rfl,j.sp 2 [1]⟩
  rintro _ w ⟨O,rfl,j⟩
  refine aH (dU o (fun hc o=>?_) fun hc o=>?_)
  rotate_left
  ·refine RC.ex ?_
   obtain rfl:=oi o
   exact⟨rfl,j.sp 1 [0]⟩
  refine RC.sn (RC.block (RC.region (mv (vi aa) (RL.gl aa 1 (aQ (vi (IntKind.wrap .i64 (aa - 1))) (RL.nil (bM ?_)))))))
  obtain rfl:=oi o
  exact⟨rfl,j.sp 1 [0]⟩
 ·intro r _ _ _ _
  exact r.elim
 rintro aa _ w rfl ⟨O,rfl,j⟩
 rw [Fo.dA] at o
 refine aH (RC.seq (RC.seq ?_))
 obtain⟨ai,hj,o⟩:=bd o
 refine RC.jn (fun(ai:Bool)=>SH E V [(0,v0),(1,vi p1),(5,vi aa),(32,vb ai)] [rd v0 p0]) ai ?_ ?_
 ·refine RC.region (mv (vi aa) (ic aa 0 (mv (vb (decide (aa>0))) (fC hj (fun ad hj=>?_) fun ad hj=>?_))))
  rotate_left
  ·refine bG ad (bG ad (bG ad (bG ad (bG ad (bG ad (bG ad (fL ad (vb false) (RL.nil ?_))))))))
   obtain rfl:=oi hj
   exact⟨rfl,j.sp 1 [0]⟩
  refine RL.move v0 (cg ad) (RL.move (vi aa) (cg ad) (RL.gl (hg:=(cg ad)) aa 1 ?_))
  obtain⟨aj,aq,hj⟩:=bd hj
  refine RL.bP (hg:=(cg ad)) 0 j dW aq fun a2 j=>(RL.bD (hg:=(cg ad)) aj 0 j cJ (RL.move (vi p1) (cg ad) (RL.kD aj p1 (cg ad) (fL ad (vb (aj==p1)) (RL.nil ?_)))))
  obtain rfl:=oi hj
  exact⟨rfl,j.sp 2 [1]⟩
 rintro _ w ⟨O,rfl,j⟩
 refine aH (dU o (fun hc o=>?_) fun hc o=>?_)
 ·refine RC.sr (mv v0 (aQ v0 (RL.nt (RC.rt ?_))))
  obtain rfl:=oi o
  exact bX (j.pk 1 [0])
 refine RC.sx (aQ (.slice none 0 0) (RL.ns (mv (.slice none 0 0) (mv v0 (mv (vi aa) ?_)))))
 obtain⟨a3,ar,o⟩:=bd o
 refine RL.cut (hl:= .inr ⟨rfl,zr⟩) 0 j dW (.inl zr) ar fun a4 j=>?_
 have j:=j.cO Int 3
 obtain⟨a5,au,o⟩:=bd o
 refine RL.app 0 1 j pC au fun ak w j=>?_
 refine aQ ak (RL.ns (mv ak (mv (vi p1) ?_)))
 have j:=j.sc Int p1
 refine RL.dR ([p1]: (List Int)) j [(vi p1)] dW A1 (fun M hs g=>⟨(g.sat 0 _ zr).1,zt⟩) fun a6 w j=>?_
 have j:=j.freeze 0
 obtain⟨a7,av,o⟩:=bd o
 refine RL.app 2 0 j pC av fun al w j=>?_
 refine aQ al (RL.ns (mv al (mv v0 (mv (vi aa) ?_))))
 obtain⟨a8,aw,o⟩:=bd o
 refine RL.cut 4 j dW (.inr ⟨rfl,zr⟩) aw fun a9 j=>?_
 obtain⟨ba,ax,o⟩:=bd o
 refine RL.app 3 0 j pC ax fun ay w j=>?_
 refine aQ ay (RL.nt (RC.ret ?_))
 obtain rfl:=oi o
 have j:=j.freeze 3
 exact bX (j.pk 6 [3])
def pJ (E:World) (V:List HP) (b0:Nat) (v0_0 v0_1:Value) (v0_2 v0_3:Value) (v0_4 v0_5:Value) (v0_6 v0_7 v2:Value) (res: ((List Int)×(List Int)×(List fD))×(List Bool)) (v:Value) (w:World):Prop:=∃u0_0 u0_1 u0_2:Value,v= (.agg ([u0_0,u0_1,u0_2]:List Value).toArray)/\Holds E w ([rd u0_0 res.1.1,rd u0_1 res.1.2.1,own 83 u0_2 res.1.2.2,bc 52 b0 [v0_0,v0_1,v0_2,v0_3,v0_4,v0_5,v0_6,v0_7],own 4 v2 res.2]++V)
theorem pq {p0_7: (List (List Int))} {p2: (List Bool)} {res: ((List Int)×(List Int)×(List fD))×(List Bool)} (j:Holds E w (bc 52 b0 [v0_0,v0_1,v0_2,v0_3,v0_4,v0_5,v0_6,v0_7]::rd v0_7 p0_7::own 4 v2 p2::V)) (o:gA N p0_7 p1 p2=some res):
    Calls bO 64 [(vp b0 0),(vi p1),v2].toArray w (gW (pJ E V b0 v0_0 v0_1 v0_2 v0_3 v0_4 v0_5 v0_6 v0_7 v2 res)):=by
 unfold gA at o
 refine enter Tryz.func64 zr zr (RC.sr (RL.uc zr j JK zr fun ah w j=>?_))
 refine RL.ns (mv (vi p1) ?_)
 have j:=j.sc Int p1
 refine RL.dR ([p1]: (List Int)) j [(vi p1)] dW A1 (fun M hs g=>⟨(g.sat 0 _ zr).1,zt⟩) fun au w j=>(RL.Ej [(.slice none 0 0),(.slice none 0 0),(.slice none 0 0)] [au,(.slice none 0 0),(.slice none 0 0)] zr [(0,au)] zr Lh ⟨(iM 0 j),zt⟩ zr (RL.uc zr j JK zr fun ai w j=>?_))
 refine RL.Bg (cs:=[au,(.slice none 0 0),(.slice none 0 0)]) 0 zt j zr zr zr (wO.all (⟨(iM 1 j),zr,zr,zt⟩:wO [au,(.slice none 0 0),(.slice none 0 0)])) G4 zr zr fun w j=>?_
 refine RL.ns (mv v2 (mv (vi p1) ?_))
 obtain⟨cm,a6,o⟩:=bd o
 refine RL.bQ 6 j zr zr vM a6 ?_
 have j:=j.sc Bool true
 refine RL.gL (f:=(fun _ y=>y)) 7 0 j (jg 7 j a6 0) (bF a6).2.1 zr Fs.self AR fun w j=>?_
 refine RL.ns (mv (vp b0 0) (RL.nilCheck zr (RL.aX zr rD (RL.bI 5 v0_7 j w9 (RL.bA 6 p0_7 j FR ?_)))))
 obtain⟨cn,b5,o⟩:=bd o
 refine RL.mk (p0_7.length:Int) j Hb MK b5 fun af w j=>?_
 refine aQ af (RL.ns (mv (vi p1) ?_))
 have j:=j.sc Int p1
 refine RL.dR ([p1]: (List Int)) j [(vi p1)] dW A1 (fun M hs g=>⟨(g.sat 0 _ zr).1,zt⟩) fun bk w j=>(aQ bk (RL.nq (RC.sr (aQ (vi 0) (RL.nt ?_)))))
 obtain⟨cp,hN,o⟩:=bd o
 refine RC.iter (fun(ad: (List Bool)×(List Int)×(List Int)×(List Bool)×(List Int)×Int) U w=>∃bl bm bn:Value,SH E V [(0,vp b0 0),(2,v2),(6,vp ah 0),(7,vp ai 0),(8,af),(9,bn),(10,vi ad.2.2.2.2.2)] [bc 52 b0 [v0_0,v0_1,v0_2,v0_3,v0_4,v0_5,v0_6,v0_7],rd v0_7 p0_7,own 4 v2 ad.1,bc 47 ah [(.slice none 0 0),(.slice none 0 0),(.slice none 0 0)],bc 47 ai [bl,bm,(.slice none 0 0)],rd bl ad.2.1,rd bm ad.2.2.1,own 4 af ad.2.2.2.1,own 3 bn ad.2.2.2.2.1] U w) (fun(ad: (List Bool)×(List Int)×(List Int)×(List Bool)×(List Int)×Int) U w=>∃al an:Value,SH E V [(0,vp b0 0),(2,v2),(6,vp ah 0),(7,vp ai 0)] [bc 52 b0 [v0_0,v0_1,v0_2,v0_3,v0_4,v0_5,v0_6,v0_7],rd v0_7 p0_7,own 4 v2 ad.1,bc 47 ah [(.slice none 0 0),(.slice none 0 0),(.slice none 0 0)],bc 47 ai [al,an,(.slice none 0 0)],rd al ad.2.1,rd an ad.2.2.1,own 4 af ad.2.2.2.1] U w) (fun(r:Empty) _ _=>r.elim) hN ?_ ?_ ?_ ?_
 ·have j:=(j.freeze 5).t8 Int
  exact⟨au,(.slice none 0 0),bk,j.sp 12 [9,10,11,8,5,6,0,3,1]⟩
 ·rintro ad fl _ w ⟨bp,bq,br,O,rfl,j⟩ o
  refine RC.seq (RC.sr (mv (vi ad.2.2.2.2.2) (mv br (RL.fS 8 ad.2.2.2.2.1 j ly (ic ad.2.2.2.2.2 ((ad.2.2.2.2.1.length:Int)) (RL.nt (dU o (fun hc o=>?_) fun hc o=>?_)))))))
  rotate_left
  ·refine RC.ex ?_
   obtain rfl:=oi o
   exact⟨rfl,bp,bq,j.sp 9 [0,1,2,3,4,5,6,7]⟩
  refine RC.ss (RC.bs (aQ (vi 0) (RL.nt ?_)))
  obtain⟨cq,hN,o⟩:=bd o
  refine RC.iter (fun(aa: (List Bool)×(List Int)×(List Int)×(List Bool)×(List Int)×Int) U w=>∃bt bu bw:Value,SH E V [(0,vp b0 0),(2,v2),(6,vp ah 0),(7,vp ai 0),(8,af),(9,bw),(10,vi ad.2.2.2.2.2),(11,vi aa.2.2.2.2.2)] [bc 52 b0 [v0_0,v0_1,v0_2,v0_3,v0_4,v0_5,v0_6,v0_7],rd v0_7 p0_7,own 4 v2 aa.1,bc 47 ah [(.slice none 0 0),(.slice none 0 0),(.slice none 0 0)],bc 47 ai [bt,bu,(.slice none 0 0)],rd bt aa.2.1,rd bu aa.2.2.1,own 4 af aa.2.2.2.1,own 3 bw aa.2.2.2.2.1] U w) (fun(aa: (List Bool)×(List Int)×(List Int)×(List Bool)×(List Int)×Int) U w=>∃ay az a0:Value,SH E V [(0,vp b0 0),(2,v2),(6,vp ah 0),(7,vp ai 0),(8,af),(9,a0),(10,vi ad.2.2.2.2.2)] [bc 52 b0 [v0_0,v0_1,v0_2,v0_3,v0_4,v0_5,v0_6,v0_7],rd v0_7 p0_7,own 4 v2 aa.1,bc 47 ah [(.slice none 0 0),(.slice none 0 0),(.slice none 0 0)],bc 47 ai [ay,az,(.slice none 0 0)],rd ay aa.2.1,rd az aa.2.2.1,own 4 af aa.2.2.2.1,own 3 a0 aa.2.2.2.2.1] U w) (fun(r:Empty) _ _=>r.elim) hN ?_ ?_ ?_ ?_
  ·exact⟨bp,bq,br,j.sp 9 [0,1,2,3,4,5,6,7,8]⟩
  ·rintro aa fl _ w ⟨aw,aq,ar,O,rfl,j⟩ o
   refine RC.seq (RC.sr (mv (vi aa.2.2.2.2.2) (mv (vp b0 0) (RL.nilCheck zr (RL.aX zr rD (RL.bI 0 v0_7 j w9 (RL.bA 1 p0_7 j FR (ic aa.2.2.2.2.2 ((p0_7.length:Int)) ?_))))))))
   refine RL.nt (dU o (fun hc o=>?_) fun hc o=>?_)
   rotate_left
   ·refine RC.ex ?_
    obtain rfl:=oi o
    exact⟨rfl,aw,aq,ar,j.sp 9 [0,1,2,3,4,5,6,7,8]⟩
   refine RC.ss (RC.block (RC.seq (RC.seq ?_)))
   obtain⟨a7,hj,o⟩:=bd o
   refine RC.jn (fun(a7:Bool)=>SH E V [(0,vp b0 0),(2,v2),(6,vp ah 0),(7,vp ai 0),(8,af),(9,ar),(10,vi ad.2.2.2.2.2),(11,vi aa.2.2.2.2.2),(61,vb a7)] [bc 52 b0 [v0_0,v0_1,v0_2,v0_3,v0_4,v0_5,v0_6,v0_7],rd v0_7 p0_7,own 4 v2 aa.1,bc 47 ah [(.slice none 0 0),(.slice none 0 0),(.slice none 0 0)],bc 47 ai [aw,aq,(.slice none 0 0)],rd aw aa.2.1,rd aq aa.2.2.1,own 4 af aa.2.2.2.1,own 3 ar aa.2.2.2.2.1]) a7 ?_ ?_
   ·refine RC.v5 mixed [0,0,0,0,0,0,0,0,0,0,0,0,0,0,0,0,2,0,0] [0,1,2,3,4,5,6,7,8,9,10,11,12,13,14,15,16,17,18] ?_
    have j:=j.drew
    refine DP.e0 zr (mv af (aZ zr (mv (vi aa.2.2.2.2.2) (aZ zr ?_))))
    obtain⟨b6,a8,hj⟩:=bd hj
    refine RL.bQ 7 j zr zr vM a8 (aZ zr (RL.dQ (f:=(fun x=>x)) 7 j (jg 7 j a8 0) (bF a8).2.1 Fd.self AR (aZ zr (mv (vb b6) (DP.d0 (fC hj (fun ab hj=>?_) fun ab hj=>?_))))))
    ·refine DP.e0 zr (bG ab (aZ zr (bG ab (aZ zr (bG ab (aZ zr (bG ab (aZ zr ?_))))))))
     refine bG ab (aZ zr (bG ab (aZ zr (bG ab (aZ zr (bG ab (aZ zr (bG ab ?_))))))))
     refine aZ zr (bG ab (aZ zr (bG ab (pP zr (bG ab (tP zr (bG ab (aZ zr ?_))))))))
     refine fL ab (vb true) (DP.d0 (DP.z ?_))
     obtain rfl:=oi hj
     exact⟨rfl,j.sp 9 [0,1,2,3,4,5,6,7,8]⟩
    refine DP.e0 zr (RL.move (vp b0 0) (cg ab) (aZ zr (RL.nilCheck (hg:=(cg ab)) zr (aZ zr (RL.aX (hg:=(cg ab)) zr rD (aZ zr (RL.bI (hg:=(cg ab)) 0 v0_7 j w9 (aZ zr ?_))))))))
    refine RL.move (vi aa.2.2.2.2.2) (cg ab) (aZ zr ?_)
    obtain⟨b7,b8,hj⟩:=bd hj
    refine RL.bP (hg:=(cg ab)) 1 j yd b8 fun cr j=>(aZ zr (RL.bL (hg:=(cg ab)) 0 b7 j eY fun b9 j=>(aZ zr (RL.move ar (cg ab) (aZ zr (RL.move (vi ad.2.2.2.2.2) (cg ab) (aZ zr ?_)))))))
    obtain⟨bx,a9,hj⟩:=bd hj
    refine RL.bQ (hg:=(cg ab)) 10 j zr zr dW a9 (aZ zr (RL.dQ (hg:=(cg ab)) (f:=(fun x=>x)) 10 j (jg 10 j a9 0) (bF a9).2.1 Fd.self cJ (pP zr ?_)))
    obtain⟨bz,ca,hj⟩:=bd hj
    refine RL.call (cg ab) zr Fb [b9,(vi bx)] zr (aD (iT N (p1:=bx) (i0:=0) j zr ca) ?_)
    rintro _ w ⟨rfl,j⟩
    refine tP zr (RL.not (hg:=(cg ab)) bz (aZ zr (fL ab (vb (!bz)) (DP.d0 (DP.z ?_)))))
    obtain rfl:=oi hj
    exact⟨rfl,j.sp 11 [2,3,4,5,6,7,8,9,10]⟩
   rintro _ w ⟨O,rfl,j⟩
   refine aH (dU o (fun hc o=>?_) fun hc o=>?_)
   ·refine RC.ex (Gw (aH (RC.region (mv (vi aa.2.2.2.2.2) (RL.gl aa.2.2.2.2.2 1 (aQ (vi (IntKind.wrap .i64 (aa.2.2.2.2.2+1))) (RL.nil ?_)))))))
    obtain rfl:=oi o
    exact⟨rfl,aw,aq,ar,j.sp 9 [0,1,2,3,4,5,6,7,8]⟩
   refine RC.sx (mv af (mv (vi aa.2.2.2.2.2) ?_))
   obtain⟨ct,ba,o⟩:=bd o
   refine RL.bQ 7 j zr zr vM ba ?_
   have j:=j.sc Bool true
   refine RL.gL (f:=(fun _ y=>y)) 8 0 j (jg 8 j ba 0) (bF ba).2.1 zr Fs.self AR fun w j=>?_
   refine RL.ns (RL.aX zr ye (RL.bI 5 aq j eY (mv (vi aa.2.2.2.2.2) ?_)))
   obtain⟨bb,cb,o⟩:=bd o
   refine RL.call zt zr JP [aq,(vi aa.2.2.2.2.2)] zr (aD (lr N (p1:=aa.2.2.2.2.2) (i0:=7) j zr cb) ?_)
   rintro ao w j
   refine RL.aX zr ye (RL.iw 6 ao j zr zr (nF 0 j) eY fun w j=>?_)
   refine RL.ns (aQ (vi 0) (RL.nt ?_))
   obtain⟨cu,hN,o⟩:=bd o
   refine RC.iter (fun(ag: (List Bool)×(List Int)×(List Int)×Int) U w=>∃b1 b2:Value,SH E V [(0,vp b0 0),(2,v2),(6,vp ah 0),(7,vp ai 0),(8,af),(9,b2),(10,vi ad.2.2.2.2.2),(11,vi aa.2.2.2.2.2),(12,vi ag.2.2.2)] [bc 52 b0 [v0_0,v0_1,v0_2,v0_3,v0_4,v0_5,v0_6,v0_7],rd v0_7 p0_7,own 4 v2 ag.1,bc 47 ah [(.slice none 0 0),(.slice none 0 0),(.slice none 0 0)],bc 47 ai [b1,ao,(.slice none 0 0)],rd b1 ag.2.1,rd ao bb,own 4 af (aa.2.2.2.1.set (Int.toNat aa.2.2.2.2.2) true),own 3 b2 ag.2.2.1] U w) (fun(ag: (List Bool)×(List Int)×(List Int)×Int) U w=>∃a1 a2:Value,SH E V [(0,vp b0 0),(2,v2),(6,vp ah 0),(7,vp ai 0),(8,af),(9,a2),(10,vi ad.2.2.2.2.2),(11,vi aa.2.2.2.2.2)] [bc 52 b0 [v0_0,v0_1,v0_2,v0_3,v0_4,v0_5,v0_6,v0_7],rd v0_7 p0_7,own 4 v2 ag.1,bc 47 ah [(.slice none 0 0),(.slice none 0 0),(.slice none 0 0)],bc 47 ai [a1,ao,(.slice none 0 0)],rd a1 ag.2.1,rd ao bb,own 4 af (aa.2.2.2.1.set (Int.toNat aa.2.2.2.2.2) true),own 3 a2 ag.2.2.1] U w) (fun(r:Empty) _ _=>r.elim) hN ?_ ?_ ?_ ?_
   ·exact⟨aw,ar,j.sp 11 [2,3,4,5,6,7,0,9,10]⟩
   ·rintro ag fl _ w ⟨a3,bf,O,rfl,j⟩ o
    refine RC.seq (RC.sr (mv (vi ag.2.2.2) (mv (vp b0 0) (RL.nilCheck zr (RL.aX zr rD (RL.bI 0 v0_7 j w9 (mv (vi aa.2.2.2.2.2) ?_)))))))
    obtain⟨bg,cc,o⟩:=bd o
    refine RL.bP 1 j yd cc fun cv j=>(RL.bL 0 bg j eY fun cw j=>(RL.bA 0 bg j ly (ic ag.2.2.2 ((bg.length:Int)) (RL.nt (dU o (fun hc o=>?_) fun hc o=>?_)))))
    rotate_left
    ·refine RC.ex ?_
     obtain rfl:=oi o
     exact⟨rfl,a3,bf,j.sp 11 [2,3,4,5,6,7,8,9,10]⟩
    refine RC.ss (RC.bs (mv (vp b0 0) (RL.nilCheck zr (RL.aX zr rD (RL.bI 2 v0_7 j w9 (mv (vi aa.2.2.2.2.2) ?_))))))
    obtain⟨cd,cf,o⟩:=bd o
    refine RL.bP 3 j yd cf fun cx j=>(RL.bL 0 cd j eY fun cy j=>(mv (vi ag.2.2.2) ?_))
    obtain⟨aj,ch,o⟩:=bd o
    refine RL.bP 0 j dW ch fun cz j=>(RL.bD aj 0 j cJ (aQ (vi aj) (RL.ns (mv v2 (mv (vi aj) ?_)))))
    obtain⟨cj,bh,o⟩:=bd o
    refine RL.bQ 7 j zr zr vM bh (RL.dQ (f:=(fun x=>x)) 7 j (jg 7 j bh 0) (bF bh).2.1 Fd.self AR (RL.not cj (RL.nt ?_)))
    obtain⟨ax,hj,o⟩:=bd o
    refine RC.jn (fun(ax: (List Bool)×(List Int)×(List Int)) U w=>∃a4 a5:Value,SH E V [(0,vp b0 0),(2,v2),(6,vp ah 0),(7,vp ai 0),(8,af),(9,a5),(10,vi ad.2.2.2.2.2),(11,vi aa.2.2.2.2.2),(12,vi ag.2.2.2)] [bc 52 b0 [v0_0,v0_1,v0_2,v0_3,v0_4,v0_5,v0_6,v0_7],rd v0_7 p0_7,own 4 v2 ax.1,bc 47 ah [(.slice none 0 0),(.slice none 0 0),(.slice none 0 0)],bc 47 ai [a4,ao,(.slice none 0 0)],rd a4 ax.2.1,rd ao bb,own 4 af (aa.2.2.2.1.set (Int.toNat aa.2.2.2.2.2) true),own 3 a5 ax.2.2] U w) ax ?_ ?_
    ·refine dU hj (fun hc hj=>?_) fun hc hj=>?_
     rotate_left
     ·refine RC.skip ?_
      obtain rfl:=oi hj
      exact⟨rfl,a3,bf,j.sp 14 [5,6,7,8,9,10,11,12,13]⟩
     refine RC.sr (mv v2 (mv (vi aj) ?_))
     obtain⟨c0,bj,hj⟩:=bd hj
     refine RL.bQ 7 j zr zr vM bj ?_
     have j:=j.sc Bool true
     refine RL.gL (f:=(fun _ y=>y)) 8 0 j (jg 8 j bj 0) (bF bj).2.1 zr Fs.self AR fun w j=>?_
     refine RL.ns (RL.aX zr sZ (RL.bI 10 a3 j eY (mv (vi aj) ?_)))
     obtain⟨c1,ck,hj⟩:=bd hj
     refine RL.call zt zr JP [a3,(vi aj)] zr (aD (lr N (p1:=aj) (i0:=11) j zr ck) ?_)
     rintro b3 w j
     refine RL.aX zr sZ (RL.iw 11 b3 j zr zr (nF 0 j) eY fun w j=>?_)
     refine RL.nt (RC.region (mv bf (mv (vi aj) ?_)))
     have j:=j.sc Int aj
     refine RL.dR ([aj]: (List Int)) j [(vi aj)] dW A1 (fun M hs g=>⟨(g.sat 0 _ zr).1,zt⟩) fun c2 w j=>?_
     have j:=j.freeze 0
     obtain⟨c3,cl,hj⟩:=bd hj
     refine RL.app 17 0 j pC cl fun b4 w j=>?_
     refine aQ b4 (RL.nil ?_)
     obtain rfl:=oi hj
     exact⟨rfl,b3,b4,j.sp 18 [9,10,11,12,13,2,15,16,17]⟩
    rintro _ w ⟨a4,a5,O,rfl,j⟩
    refine bM (aH (RC.region (mv (vi ag.2.2.2) (RL.gl ag.2.2.2 1 (aQ (vi (IntKind.wrap .i64 (ag.2.2.2+1))) (RL.nil ?_))))))
    obtain rfl:=oi o
    exact⟨rfl,a4,a5,j.sp 9 [0,1,2,3,4,5,6,7,8]⟩
   ·intro r _ _ _ _
    exact r.elim
   rintro ag _ w rfl ⟨a1,a2,O,rfl,j⟩
   rw [Fo.dA] at o
   refine bM (aH (RC.region (mv (vi aa.2.2.2.2.2) (RL.gl aa.2.2.2.2.2 1 (aQ (vi (IntKind.wrap .i64 (aa.2.2.2.2.2+1))) (RL.nil ?_))))))
   obtain rfl:=oi o
   exact⟨rfl,a1,ao,a2,j.sp 9 [0,1,2,3,4,5,6,7,8]⟩
  ·intro r _ _ _ _
   exact r.elim
  rintro aa _ w rfl ⟨ay,az,a0,O,rfl,j⟩
  rw [Fo.dA] at o
  refine bM (aH (RC.region (mv (vi ad.2.2.2.2.2) (RL.gl ad.2.2.2.2.2 1 (aQ (vi (IntKind.wrap .i64 (ad.2.2.2.2.2+1))) (RL.nil ?_))))))
  obtain rfl:=oi o
  exact⟨rfl,ay,az,a0,j.sp 9 [0,1,2,3,4,5,6,7,8]⟩
 ·intro r _ _ _ _
  exact r.elim
 rintro ad _ w rfl ⟨al,an,O,rfl,j⟩
 rw [Fo.dA] at o
 refine aH (RC.sr (RL.C0 (cs:=[al,an,(.slice none 0 0)]) 4 zt zr j zr zr G4 zr (RL.Bg (cs:=[al,an,(.slice none 0 0)]) 3 zt j zr zr zr (wO.all (⟨(nF 5 j),(nF 6 j),zr,zt⟩:wO [al,an,(.slice none 0 0)])) G4 zr zr fun w j=>?_)))
 refine RL.nt (RC.ret ?_)
 obtain rfl:=oi o
 have j:=j.cO fD 83
 exact Ke (i:=4) (cs:=[al,an,(.slice none 0 0)]) zr j zr zr G4 zr ⟨al,an,(.slice none 0 0),zr,j.pk 9 [6,7,0,1,3]⟩
theorem nb {p0: (List aI)} {p1:jt} {res:Bool} (j:Holds E w V) (h0:V[i0]? =some (rd v0 p0)) (h1:V[i1]? =some (rd v1 p1)) (o:eO N p0 p1=some res):
    Calls bO 121 [v0,v1].toArray w (gW (aV E V res)):=by
 unfold eO at o
 refine enter Tryz.func121 zr zr ?_
 have j:=(j.dup (i0+0) h0).dup (i1+1) h1
 refine RC.sr (RL.dJ 0 v1 j zr fun aa w j=>?_)
 refine aQ (vb false) (RL.nq ?_)
 have j:=j.drew
 refine RC.Et (fun w=>Holds E w ([bx 55 aa p1]++V)) mixed zr [0,0,0,2,1,1,2,0] [0,1,2,4,5,3,6,7] (j.pk 3 [0]) (DP.e0 zr (mv v0 (aZ zr (RL.aX zr v9 (aZ zr (RL.aN 0 j zr nM cJ (DP.d0 (DP.e1 (vp aa 0) zr (fun w=>RL.aX zr v8 DP.d1) ?_))))))))
 refine DP.Ic (vi p1.X) zr (fun w j=>RL.aN 0 j zr nL cJ DP.d1) (DP.e2 zr ?_)
 obtain⟨ag,ab,o⟩:=bd o
 refine RL.call zt zr Ik [v0,(vi p1.Y)] zr (aD (kK N (p1:=p1.Y) (i0:=2) j zr ab) ?_)
 rintro ad w j
 refine DP.d2 (j.pk 4 [1]) (DP.e2 zr ?_)
 have j:=j.freeze 0
 obtain⟨ae,af,o⟩:=bd o
 refine RL.call zt zr Ha [ad,(vi p1.X)] zr (aD (lq N (p1:=p1.X) (i0:=0) j zr af) ?_)
 rintro _ w ⟨rfl,j⟩
 refine DP.d2 (j.pk 4 [1]) (DP.e0 zr (aQ (vb ae) (DP.d0 (DP.z (aH (RC.ret ?_))))))
 obtain rfl:=oi o
 exact bX ⟨rfl,j.drop 4⟩
def me (E:World) (V:List HP) (b0:Nat) (v0_0 v0_1:Value) (v0_2 v0_3:Value) (v0_4 v0_5:Value) (v0_6 v0_7:Value) (res:km×Bool) (v:Value) (w:World):Prop:=∃u0:Value,v = .tuple #[u0,(vb res.2)]/\Holds E w ([rd u0 res.1,bc 52 b0 [v0_0,v0_1,v0_2,v0_3,v0_4,v0_5,v0_6,v0_7]]++V)
def mf (E:World) (V:List HP) (b0:Nat) (v0_0 v0_1:Value) (v0_2 v0_3:Value) (v0_4 v0_5:Value) (v0_6 v0_7:Value) (r:km×Bool) (U:Nat->Value) (w:World):Prop:=mh bO 91 Tryz.f102 (me E V b0 v0_0 v0_1 v0_2 v0_3 v0_4 v0_5 v0_6 v0_7 r) .ret U w
theorem pK {p0_2: (List cE)} {p0_4: (List Int)} {p0_5: (List (List aI))} {p1:fW} {res:km×Bool} (j:Holds E w (bc 52 b0 [v0_0,v0_1,v0_2,v0_3,v0_4,v0_5,v0_6,v0_7]::rd v0_2 p0_2::rd v0_4 p0_4::rd v0_5 p0_5::V)) (h1:V[i1]? =some (rd v1 p1)) (o:gN N p0_2 p0_4 p0_5 p1=some res):
    Calls bO 102 [(vp b0 0),v1].toArray w (gW (me E V b0 v0_0 v0_1 v0_2 v0_3 v0_4 v0_5 v0_6 v0_7 res)):=by
 unfold gN at o
 refine enter Tryz.func102 zr zr ?_
 have j:=j.dup (i1+4) h1
 refine RC.sr (RL.dJ 0 v1 j zr fun ai w j=>?_)
 have j:=j.lR (i:=0) rfl
 refine RL.alloc j G5.z fun ah w j=>?_
 refine aQ (vb false) (RL.nq (RC.sr (aQ (vi 0) (RL.nt ?_))))
 obtain⟨bp,hN,o⟩:=bd o
 refine RC.iter (fun(ag:Int)=>SH E V [(0,vp b0 0),(3,vp ai 0),(4,vp ah 0),(6,vi ag)] [bc 52 b0 [v0_0,v0_1,v0_2,v0_3,v0_4,v0_5,v0_6,v0_7],rd v0_2 p0_2,rd v0_4 p0_4,rd v0_5 p0_5,pt (vp ai 0) p1,raw 98 ah 2]) (fun(ag:Int)=>SH E V [(0,vp b0 0),(3,vp ai 0),(4,vp ah 0)] [bc 52 b0 [v0_0,v0_1,v0_2,v0_3,v0_4,v0_5,v0_6,v0_7],rd v0_2 p0_2,rd v0_4 p0_4,rd v0_5 p0_5,pt (vp ai 0) p1,raw 98 ah 2]) (mf E V b0 v0_0 v0_1 v0_2 v0_3 v0_4 v0_5 v0_6 v0_7) hN ?_ ?_ ?_ ?_
 ·exact j.sp 7 [3,4,5,6,1,0]
 ·rintro ag fl _ w ⟨O,rfl,j⟩ o
  refine RC.seq (RC.sr (mv (vi ag) (mv (vp b0 0) (RL.nilCheck zr (RL.aX zr uv (RL.bI 0 v0_5 j pB (RL.bA 3 p0_5 j qw (ic ag ((p0_5.length:Int)) ?_))))))))
  refine RL.nt (dU o (fun hc o=>?_) fun hc o=>?_)
  rotate_left
  ·refine RC.ex ?_
   obtain rfl:=oi o
   exact⟨rfl,j.sp 6 [0,1,2,3,4,5]⟩
  refine RC.ss (RC.block (RC.seq ?_))
  obtain⟨al,hj,o⟩:=bd o
  refine RC.jn (fun(al:Bool)=>SH E V [(0,vp b0 0),(3,vp ai 0),(4,vp ah 0),(6,vi ag),(38,vb al)] [bc 52 b0 [v0_0,v0_1,v0_2,v0_3,v0_4,v0_5,v0_6,v0_7],rd v0_2 p0_2,rd v0_4 p0_4,rd v0_5 p0_5,pt (vp ai 0) p1,raw 98 ah 2]) al ?_ ?_
  ·refine RC.v5 mixed [0,0,0,0,0,0,0,0,0,0,0,0,0,0,0,0,0,0,0,0,2,0] [0,1,2,3,4,5,6,7,8,9,10,11,12,13,14,15,16,17,18,19,20,21] ?_
   have j:=j.drew
   refine DP.e0 zr (mv (vp b0 0) (aZ zr (RL.nilCheck zr (aZ zr (RL.aX zr zQ (aZ zr (RL.bI 0 v0_4 j eY (aZ zr ?_))))))))
   refine mv (vi ag) (aZ zr ?_)
   obtain⟨an,aw,hj⟩:=bd hj
   refine RL.bP 2 j dW aw fun bq j=>(aZ zr (RL.bD an 0 j cJ (aZ zr (RL.dX 5 j zr ya ql fun br j=>(aZ zr (RL.bD p1.cU 0 j cJ (aZ zr (ic an p1.cU ?_))))))))
   refine aZ zr (mv (vb (an==p1.cU)) (DP.d0 (fC hj (fun ae hj=>?_) fun ae hj=>?_)))
   rotate_left
   ·refine DP.e0 zr (bG ae (aZ zr (bG ae (aZ zr (bG ae (aZ zr (bG ae (aZ zr ?_))))))))
    refine bG ae (aZ zr (bG ae (aZ zr (bG ae (aZ zr (bG ae (aZ zr (bG ae ?_))))))))
    refine pP zr (bG ae (tP zr (fL ae (vb false) (DP.d0 (DP.z ?_)))))
    obtain rfl:=oi hj
    exact⟨rfl,j.sp 8 [2,3,4,5,6,7]⟩
   refine DP.e0 zr (RL.move (vp b0 0) (cg ae) (aZ zr (RL.nilCheck (hg:=(cg ae)) zr (aZ zr (RL.aX (hg:=(cg ae)) zr uv (aZ zr (RL.bI (hg:=(cg ae)) 2 v0_5 j pB (aZ zr ?_))))))))
   refine RL.move (vi ag) (cg ae) (aZ zr ?_)
   obtain⟨ax,ay,hj⟩:=bd hj
   refine RL.bP (hg:=(cg ae)) 5 j uk ay fun bs j=>(aZ zr (RL.bL (hg:=(cg ae)) 0 ax j tR fun az j=>(aZ zr (RL.dX (hg:=(cg ae)) 8 j zr yb qm fun bt j=>(aZ zr (RL.bL (hg:=(cg ae)) 0 p1.At j Dk fun a0 j=>(pP zr ?_)))))))
   obtain⟨a1,a2,hj⟩:=bd hj
   refine RL.call (cg ae) zr I9 [az,a0] zr (aD (nb N (i0:=2) (i1:=0) j zr zr a2) ?_)
   rintro _ w ⟨rfl,j⟩
   refine tP zr (fL ae (vb a1) (DP.d0 (DP.z ?_)))
   obtain rfl:=oi hj
   exact⟨rfl,j.sp 12 [6,7,8,9,10,11]⟩
  rintro _ w ⟨O,rfl,j⟩
  refine aH (dU o (fun hc o=>?_) fun hc o=>?_)
  rotate_left
  ·refine RC.skip (bM (aH (RC.region (mv (vi ag) (RL.gl ag 1 (aQ (vi (IntKind.wrap .i64 (ag+1))) (RL.nil ?_)))))))
   obtain rfl:=oi o
   exact⟨rfl,j.sp 6 [0,1,2,3,4,5]⟩
  refine RC.sr (mv (vi ag) ?_)
  have j:=j.sc Int ag
  refine RL.build (⟨false,ag⟩:km) trivial rfl j [(1,vi ag)] rfl FT rfl (fun M hs g=>by have h:=Bq M;exact cT.cons (f:=fun(x:km) y=>{x with Number:=y}) h w5 (g.sat 0 _ rfl).1 fun _ h=>cT.nil h) fun bu j=>?_
  refine RL.cA 7 j 0 zr uu fun w j=>?_
  refine aQ (vb true) (RL.nt (RC.rb (bT ?_)))
  obtain rfl:=oi o
  exact⟨rfl,wL 7 j uu fun a3 j=>⟨a3,zr,j.pk 9 [0,3]⟩⟩
 ·intro r U w e hK
  subst e
  refine bT ?_
  obtain rfl:=oi o
  exact hK
 rintro ag _ w rfl ⟨O,rfl,j⟩
 rw [Fo.dA] at o
 refine aH (RC.seq (RC.sr (aQ (vi 0) (RL.nt ?_))))
 obtain⟨bw,hN,o⟩:=bd o
 refine RC.iter (fun(af:Int)=>SH E V [(0,vp b0 0),(3,vp ai 0),(4,vp ah 0),(7,vi af)] [bc 52 b0 [v0_0,v0_1,v0_2,v0_3,v0_4,v0_5,v0_6,v0_7],rd v0_2 p0_2,rd v0_4 p0_4,rd v0_5 p0_5,pt (vp ai 0) p1,raw 98 ah 2]) (fun(af:Int)=>SH E V [(0,vp b0 0),(4,vp ah 0)] [bc 52 b0 [v0_0,v0_1,v0_2,v0_3,v0_4,v0_5,v0_6,v0_7],rd v0_2 p0_2,rd v0_4 p0_4,rd v0_5 p0_5,pt (vp ai 0) p1,raw 98 ah 2]) (mf E V b0 v0_0 v0_1 v0_2 v0_3 v0_4 v0_5 v0_6 v0_7) hN ?_ ?_ ?_ ?_
 ·exact j.sp 6 [0,1,2,3,4,5]
 ·rintro af fl _ w ⟨O,rfl,j⟩ o
  refine RC.seq (RC.sr (mv (vi af) (mv (vp b0 0) (RL.nilCheck zr (RL.aX zr we (RL.aX zr gK (RL.bI 0 v0_2 j mZ (RL.bA 1 p0_2 j um ?_))))))))
  refine ic af ((p0_2.length:Int)) (RL.nt (dU o (fun hc o=>?_) fun hc o=>?_))
  rotate_left
  ·refine RC.ex ?_
   obtain rfl:=oi o
   exact⟨rfl,j.sp 6 [0,1,2,3,4,5]⟩
  refine RC.ss (RC.block (RC.seq ?_))
  obtain⟨aq,hj,o⟩:=bd o
  refine RC.jn (fun(aq:Bool)=>SH E V [(0,vp b0 0),(3,vp ai 0),(4,vp ah 0),(7,vi af),(87,vb aq)] [bc 52 b0 [v0_0,v0_1,v0_2,v0_3,v0_4,v0_5,v0_6,v0_7],rd v0_2 p0_2,rd v0_4 p0_4,rd v0_5 p0_5,pt (vp ai 0) p1,raw 98 ah 2]) aq ?_ ?_
  ·refine RC.v5 mixed [0,0,0,0,0,0,0,0,0,0,0,0,0,0,0,0,0,0,0,0,2,0,0,0,0,0,0,0,0,0,0,2,2,1,1,2,0] [0,1,2,3,4,5,6,7,8,9,10,11,12,13,14,15,16,17,18,19,20,21,22,23,24,25,26,27,28,29,30,33,34,31,32,35,36] ?_
   have j:=j.drew
   refine DP.e0 zr (mv (vp b0 0) (aZ zr (RL.nilCheck zr (aZ zr (RL.aX zr we (aZ zr (RL.aX zr gK (aZ zr ?_))))))))
   refine RL.bI 0 v0_2 j mZ (aZ zr (mv (vi af) (aZ zr ?_)))
   obtain⟨ar,a4,hj⟩:=bd hj
   refine RL.bP 1 j pE a4 fun bx j=>(aZ zr (RL.dX 0 j zr uq nT fun bz j=>(aZ zr (RL.bD ar.eH 0 j AR (aZ zr (mv (vb ar.eH) (DP.d0 (fC hj (fun ad hj=>?_) fun ad hj=>?_))))))))
   rotate_left
   ·refine DP.e0 zr (bG ad (aZ zr (bG ad (aZ zr (bG ad (aZ zr (bG ad (aZ zr ?_))))))))
    refine bG ad (aZ zr (bG ad (aZ zr (bG ad (aZ zr (bG ad (aZ zr (bG ad ?_))))))))
    refine aZ zr (bG ad (pP zr (bG ad (tP zr (fL ad (vb false) (aZ zr (mv (vb false) (aZ zr ?_))))))))
    refine ko (aZ zr (ko (aZ zr (ko (aZ zr (ko (aZ zr (ko ?_))))))))
    refine aZ zr (ko (aZ zr (ko (aZ zr (ko (DP.d0 (DP.e1 undef zr (fun w=>ko DP.d1) (DP.e1 undef zr (fun w=>ko DP.d1) ?_))))))))
    refine DP.e2 zr (ko (E7 zr (ko (E7 zr (ko (tP zr (RL.pick false (vb false) zr (DP.d0 ?_))))))))
    refine DP.z ?_
    obtain rfl:=oi hj
    exact⟨rfl,j.sp 8 [2,3,4,5,6,7]⟩
   refine DP.e0 zr (RL.move (vp b0 0) (cg ad) (aZ zr (RL.nilCheck (hg:=(cg ad)) zr (aZ zr (RL.aX (hg:=(cg ad)) zr we (aZ zr (RL.aX (hg:=(cg ad)) zr gK (aZ zr ?_))))))))
   refine RL.bI (hg:=(cg ad)) 2 v0_2 j mZ (aZ zr (RL.move (vi af) (cg ad) (aZ zr ?_)))
   obtain⟨a5,a6,hj⟩:=bd hj
   refine RL.bP (hg:=(cg ad)) 3 j pE a6 fun b1 j=>(aZ zr (RL.bL (hg:=(cg ad)) 0 a5 j lE fun a7 j=>(aZ zr (RL.dX (hg:=(cg ad)) 8 j zr ya ql fun b2 j=>(aZ zr (RL.bD (hg:=(cg ad)) p1.cU 0 j cJ (pP zr ?_)))))))
   obtain⟨au,a8,hj⟩:=bd hj
   refine RL.call (cg ad) zr Il [a7,(vi p1.cU)] zr (aD (jv N (p1:=p1.cU) (i0:=1) j zr a8) ?_)
   rintro _ w ⟨rfl,j⟩
   refine tP zr (fL ad (vb au) (aZ zr (mv (vb au) (DP.d0 (fC hj (fun ab hj=>?_) fun ab hj=>?_)))))
   rotate_left
   ·refine DP.e0 zr (bG ab (aZ zr (bG ab (aZ zr (bG ab (aZ zr (bG ab (aZ zr ?_))))))))
    refine bG ab (aZ zr (bG ab (aZ zr (bG ab (aZ zr (bG ab (DP.d0 (DP.e1 undef zr (fun w=>bG ab DP.d1) ?_))))))))
    refine DP.e1 undef zr (fun w=>bG ab DP.d1) (DP.e2 zr (bG ab (E7 zr (bG ab (E7 zr (bG ab (tP zr (fL ab (vb false) ?_))))))))
    refine DP.d0 (DP.z ?_)
    obtain rfl:=oi hj
    exact⟨rfl,j.sp 11 [5,6,7,8,9,10]⟩
   refine DP.e0 zr (RL.move (vp b0 0) (cg ab) (aZ zr (RL.nilCheck (hg:=(cg ab)) zr (aZ zr (RL.aX (hg:=(cg ab)) zr we (aZ zr (RL.aX (hg:=(cg ab)) zr gK (aZ zr ?_))))))))
   refine RL.bI (hg:=(cg ab)) 5 v0_2 j mZ (aZ zr (RL.move (vi af) (cg ab) (aZ zr ?_)))
   obtain⟨a9,ba,hj⟩:=bd hj
   refine RL.bP (hg:=(cg ab)) 6 j pE ba fun b3 j=>(aZ zr (RL.bL (hg:=(cg ab)) 0 a9 j lE fun bb j=>(DP.d0 (DP.B5 11 zr (cg ab) j zr yb qm fun b4 j=>(DP.zg p1.At 0 zr (cg ab) j Dk fun bf a279 b5 j=>(DP.e2 zr ?_))))))
   obtain⟨bg,bh,hj⟩:=bd hj
   refine RL.call (cg ab) zr FV [bb] zr (aD (fG N (i0:=3) j zr bh) ?_)
   rintro bj w j
   refine DP.d2 (⟨zt,j.iq 1⟩) (DP.e2 zr (RL.dR (hg:=(cg ab)) ([bg]: (List aI)) j [bj] jk oA (fun M hs g=>⟨(g.sat 0 _ zr).1,zt⟩) fun bk w j=>(DP.d2 (⟨zt,j.iq 2⟩) (DP.e2 zr ?_))))
   have j:=j.freeze 0
   obtain⟨bl,bm,hj⟩:=bd hj
   refine RL.call (cg ab) zr I9 [bk,bf] zr (aD (nb N (i0:=0) (i1:=3) j zr zr bm) ?_)
   rintro _ w ⟨rfl,j⟩
   refine DP.d2 (⟨zt,j.iq 2⟩) (DP.e0 zr (fL ab (vb bl) (DP.d0 ?_)))
   have j:=j.pl 18 [0,1,3,4,5,6,7,8,9,10,11,12,13,14,15,16,17]
   refine DP.z ?_
   obtain rfl:=oi hj
   exact⟨rfl,j.sp 17 [11,12,13,14,15,16]⟩
  rintro _ w ⟨O,rfl,j⟩
  refine aH (dU o (fun hc o=>?_) fun hc o=>?_)
  rotate_left
  ·refine RC.skip (bM (aH (RC.region (mv (vi af) (RL.gl af 1 (aQ (vi (IntKind.wrap .i64 (af+1))) (RL.nil ?_)))))))
   obtain rfl:=oi o
   exact⟨rfl,j.sp 6 [0,1,2,3,4,5]⟩
  refine RC.sr (mv (vi af) ?_)
  have j:=(j.sc Bool true).sc Int af
  refine RL.build (⟨true,af⟩:km) trivial rfl j [(0,vb true),(1,vi af)] rfl FT rfl (fun M hs g=>by have h:=Bq M;exact cT.cons (f:=fun(x:km) y=>{x with cE:=y}) h Dg (g.sat 1 _ rfl).1 fun _ h=>cT.cons (f:=fun(x:km) y=>{x with Number:=y}) h w5 (g.sat 0 _ rfl).1 fun _ h=>cT.nil h) fun b6 j=>?_
  refine RL.cA 8 j 0 zr uu fun w j=>?_
  refine aQ (vb true) (RL.nt (RC.rb (bT ?_)))
  obtain rfl:=oi o
  exact⟨rfl,wL 8 j uu fun bn j=>⟨bn,zr,j.pk 10 [0,4]⟩⟩
 ·intro r U w e hK
  subst e
  refine bT ?_
  obtain rfl:=oi o
  exact hK
 rintro af _ w rfl ⟨O,rfl,j⟩
 rw [Fo.dA] at o
 refine aH (RC.sr (RL.build (⟨false,0⟩:km) trivial rfl j [] rfl FT rfl (fun M hs g=>by have h:=Bq M;exact cT.nil h) fun b7 j=>?_))
 refine RL.cA 6 j 0 zr uu fun w j=>?_
 refine aQ (vb false) (RL.nt (RC.ret ?_))
 obtain rfl:=oi o
 exact wL 6 j uu fun bo j=>⟨bo,zr,j.pk 8 [0,2]⟩
def mD (E:World) (V:List HP) (b0:Nat) (v0_0 v0_1:Value) (v0_2 v0_3:Value) (v0_4 v0_5 v0_6:Value) (us0_6:List aT) (p0_6: (List cC)) (v0_7:Value) (r:Int) (U:Nat->Value) (w:World):Prop:=mh bO 49 Tryz.f103 (gC E V b0 v0_0 v0_1 v0_2 v0_3 v0_4 v0_5 v0_6 us0_6 p0_6 v0_7 r) .ret U w
theorem mj {us0_6:List aT} {p0_6: (List cC)} {p1:km} (j:Holds E w (bc 52 b0 [v0_0,v0_1,v0_2,v0_3,v0_4,v0_5,v0_6,v0_7]::own 47 v0_6 us0_6::iu aU us0_6 p0_6 none::V)) (h1:V[i1]? =some (rd v1 p1)) (hb:dT N p0_6 p1=some res):
    Calls bO 103 [(vp b0 0),v1].toArray w (gW (gC E V b0 v0_0 v0_1 v0_2 v0_3 v0_4 v0_5 v0_6 us0_6 p0_6 v0_7 res)):=by
 unfold dT at hb
 refine enter Tryz.func103 zr zr ?_
 have j:=j.dup (i1+3) h1
 refine RC.sr (RL.dJ 0 v1 j zr fun ah w j=>?_)
 refine aQ (vi 0) (RL.nq (RC.sr (aQ (vi 0) (RL.nt ?_))))
 obtain⟨a5,hN,hb⟩:=bd hb
 refine RC.iter (fun(af:Int)=>SH E V [(0,vp b0 0),(3,vp ah 0),(5,vi af)] [bc 52 b0 [v0_0,v0_1,v0_2,v0_3,v0_4,v0_5,v0_6,v0_7],own 47 v0_6 us0_6,iu aU us0_6 p0_6 none,bx 98 ah p1]) (fun(af:Int)=>SH E V [(0,vp b0 0)] [bc 52 b0 [v0_0,v0_1,v0_2,v0_3,v0_4,v0_5,v0_6,v0_7],own 47 v0_6 us0_6,iu aU us0_6 p0_6 none,bx 98 ah p1]) (mD E V b0 v0_0 v0_1 v0_2 v0_3 v0_4 v0_5 v0_6 us0_6 p0_6 v0_7) hN ?_ ?_ ?_ ?_
 ·exact j.sp 5 [2,3,4,0]
 ·rintro af fl _ w ⟨O,rfl,j⟩ hb
  refine RC.seq (RC.sr (mv (vi af) (mv (vp b0 0) (RL.nilCheck zr (RL.aX zr oC (RL.bI 0 v0_6 j rC (RL.rP 1 2 p0_6 j Ij (ic af ((p0_6.length:Int)) ?_))))))))
  refine RL.nt (dU hb (fun hc hb=>?_) fun hc hb=>?_)
  rotate_left
  ·refine RC.ex ?_
   obtain rfl:=oi hb
   exact⟨rfl,j.sp 4 [0,1,2,3]⟩
  refine RC.ss (RC.block (RC.seq ?_))
  obtain⟨an,o,hb⟩:=bd hb
  refine RC.jn (fun(an:Bool)=>SH E V [(0,vp b0 0),(3,vp ah 0),(5,vi af),(47,vb an)] [bc 52 b0 [v0_0,v0_1,v0_2,v0_3,v0_4,v0_5,v0_6,v0_7],own 47 v0_6 us0_6,iu aU us0_6 p0_6 none,bx 98 ah p1]) an ?_ ?_
  ·refine RC.v5 mixed [0,0,0,0,0,0,0,0,0,0,0,0,0,2,0,0,0,0,0,0,0,0,0,0,0,0,0,0,0,0,2,0,0] [0,1,2,3,4,5,6,7,8,9,10,11,12,13,14,15,16,17,18,19,20,21,22,23,24,25,26,27,28,29,30,31,32] ?_
   have j:=j.drew
   refine DP.e0 zr (RL.aX zr Ca (aZ zr (RL.aN 3 j zr w4 AR (aZ zr (mv (vb p1.cE) (DP.d0 (fC o (fun aa o=>?_) fun aa o=>?_)))))))
   rotate_left
   ·refine DP.e0 zr (bG aa (aZ zr (bG aa (aZ zr (bG aa (aZ zr (bG aa (aZ zr ?_))))))))
    refine bG aa (aZ zr (bG aa (aZ zr (bG aa (aZ zr (bG aa (aZ zr (bG aa ?_))))))))
    refine aZ zr (bG aa (pP zr (bG aa (tP zr (fL aa (vb false) (aZ zr (mv (vb false) (aZ zr ?_))))))))
    refine RL.aX (hg:=⟨_,zr,zr⟩) zr Ca (aZ zr (RL.aN (hg:=⟨_,zr,zr⟩) 3 j zr w4 AR (aZ zr (RL.not (hg:=⟨_,zr,zr⟩) p1.cE (aZ zr (RL.move (vb (!p1.cE)) ⟨_,zr,zr⟩ (DP.d0 (fC o (fun ab o=>?_) fun ab o=>?_))))))))
    rotate_left
    ·refine DP.e0 zr (bG ab (aZ zr (bG ab (aZ zr (bG ab (aZ zr (bG ab (aZ zr ?_))))))))
     refine bG ab (aZ zr (bG ab (aZ zr (bG ab (aZ zr (bG ab (aZ zr (bG ab ?_))))))))
     refine aZ zr (bG ab (pP zr (bG ab (tP zr (fL ab (vb false) (hg:=⟨_,zr,zr⟩) (aZ zr (RL.pick false (vb false) zr (DP.d0 ?_))))))))
     refine DP.z ?_
     obtain rfl:=oi o
     exact⟨rfl,j.sp 4 [0,1,2,3]⟩
    refine DP.e0 zr (RL.move (vp b0 0) (cg ab) (aZ zr (RL.nilCheck (hg:=(cg ab)) zr (aZ zr (RL.aX (hg:=(cg ab)) zr oC (aZ zr (RL.bI (hg:=(cg ab)) 0 v0_6 j rC (aZ zr ?_))))))))
    refine RL.move (vi af) (cg ab) (aZ zr ?_)
    obtain⟨av,ai,o⟩:=bd o
    have hl265:=j.eD 2
    have hr266:=fT (default:aT) hl265 ai
    have hq267:=jg 1 j hr266 0
    refine RL.bQ (hg:=(cg ab)) 1 j zr zr xc hr266 (aZ zr ?_)
    have hl268:=j.eD 2
    have hr269:=fT (default:aT) hl268 ai
    refine RL.jV (hg:=(cg ab)) (α:=aT) (jg 1 j hr269 0) sZ (aZ zr ?_)
    have hl270:=j.eD 2
    have hr271:=fT (default:aT) hl270 ai
    refine RL.vY (fun u=>u.eI) av.eI 1 2 af vK (default:aT) (cg ab) zr j zr (jg 1 j hr271 0) zr zr ai (fun u hu=>hu.1) eY fun aw j=>(aZ zr (RL.aX (hg:=(cg ab)) zr zP (aZ zr (RL.aN (hg:=(cg ab)) 4 j zr uj cJ (pP zr ?_)))))
    obtain⟨ao,ax,o⟩:=bd o
    refine RL.call (cg ab) zr Fb [aw,(vi p1.Number)] zr (aD (iT N (p1:=p1.Number) (i0:=0) j zr ax) ?_)
    rintro _ w ⟨rfl,j⟩
    refine tP zr (fL ab (vb ao) (hg:=⟨_,zr,zr⟩) (aZ zr (RL.pick false (vb ao) zr (DP.d0 (DP.z ?_)))))
    obtain rfl:=oi o
    exact⟨rfl,j.sp 5 [1,2,3,4]⟩
   refine DP.e0 zr (RL.move (vp b0 0) (cg aa) (aZ zr (RL.nilCheck (hg:=(cg aa)) zr (aZ zr (RL.aX (hg:=(cg aa)) zr oC (aZ zr (RL.bI (hg:=(cg aa)) 0 v0_6 j rC (aZ zr ?_))))))))
   refine RL.move (vi af) (cg aa) (aZ zr ?_)
   obtain⟨ay,aj,o⟩:=bd o
   have hl242:=j.eD 2
   have hr243:=fT (default:aT) hl242 aj
   have hq244:=jg 1 j hr243 0
   refine RL.bQ (hg:=(cg aa)) 1 j zr zr xc hr243 (aZ zr ?_)
   have hl245:=j.eD 2
   have hr246:=fT (default:aT) hl245 aj
   refine RL.jV (hg:=(cg aa)) (α:=aT) (jg 1 j hr246 0) ye (aZ zr ?_)
   have hl247:=j.eD 2
   have hr248:=fT (default:aT) hl247 aj
   refine RL.vY (fun u=>u.aM) ay.aM 1 2 af AY (default:aT) (cg aa) zr j zr (jg 1 j hr248 1) zr zr aj (fun u hu=>hu.2) eY fun az j=>(aZ zr (RL.aX (hg:=(cg aa)) zr zP (aZ zr (RL.aN (hg:=(cg aa)) 4 j zr uj cJ (pP zr ?_)))))
   obtain⟨aq,a0,o⟩:=bd o
   refine RL.call (cg aa) zr Fb [az,(vi p1.Number)] zr (aD (iT N (p1:=p1.Number) (i0:=0) j zr a0) ?_)
   rintro _ w ⟨rfl,j⟩
   refine tP zr (fL aa (vb aq) (aZ zr (mv (vb aq) (DP.d0 (fC o (fun ag o=>?_) fun ag o=>?_)))))
   ·refine DP.e0 zr (bG ag (aZ zr (bG ag (aZ zr (bG ag (aZ zr (bG ag (aZ zr ?_))))))))
    refine CC (aZ zr (CC (aZ zr (CC (aZ zr (CC (aZ zr (CC ?_))))))))
    refine aZ zr (CC (aZ zr (CC (aZ zr (CC (aZ zr (CC (aZ zr ?_))))))))
    refine CC (pP zr (CC (tP zr (bG ag (aZ zr (fL ag (vb true) (DP.d0 (DP.z ?_))))))))
    obtain rfl:=oi o
    exact⟨rfl,j.sp 5 [1,2,3,4]⟩
   refine DP.e0 zr (RL.aX (hg:=(cg ag)) zr Ca (aZ zr (RL.aN (hg:=(cg ag)) 4 j zr w4 AR (aZ zr (RL.not (hg:=(cg ag)) p1.cE (aZ zr (RL.move (vb (!p1.cE)) (cg ag) (DP.d0 ?_))))))))
   refine fC o (fun ad o=>?_) fun ad o=>?_
   rotate_left
   ·refine DP.e0 zr (bG ad (aZ zr (bG ad (aZ zr (bG ad (aZ zr (bG ad (aZ zr ?_))))))))
    refine bG ad (aZ zr (bG ad (aZ zr (bG ad (aZ zr (bG ad (aZ zr (bG ad ?_))))))))
    refine aZ zr (bG ad (pP zr (bG ad (tP zr (fL ad (vb false) (hg:=(cg ag)) (aZ zr (fL ag (vb false) (DP.d0 ?_))))))))
    refine DP.z ?_
    obtain rfl:=oi o
    exact⟨rfl,j.sp 5 [1,2,3,4]⟩
   refine DP.e0 zr (RL.move (vp b0 0) (cg ad) (aZ zr (RL.nilCheck (hg:=(cg ad)) zr (aZ zr (RL.aX (hg:=(cg ad)) zr oC (aZ zr (RL.bI (hg:=(cg ad)) 1 v0_6 j rC (aZ zr ?_))))))))
   refine RL.move (vi af) (cg ad) (aZ zr ?_)
   obtain⟨a1,ak,o⟩:=bd o
   have hl254:=j.eD 3
   have hr255:=fT (default:aT) hl254 ak
   have hq256:=jg 2 j hr255 0
   refine RL.bQ (hg:=(cg ad)) 2 j zr zr xc hr255 (aZ zr ?_)
   have hl257:=j.eD 3
   have hr258:=fT (default:aT) hl257 ak
   refine RL.jV (hg:=(cg ad)) (α:=aT) (jg 2 j hr258 0) sZ (aZ zr ?_)
   have hl259:=j.eD 3
   have hr260:=fT (default:aT) hl259 ak
   refine RL.vY (fun u=>u.eI) a1.eI 2 3 af vK (default:aT) (cg ad) zr j zr (jg 2 j hr260 0) zr zr ak (fun u hu=>hu.1) eY fun a2 j=>(aZ zr (RL.aX (hg:=(cg ad)) zr zP (aZ zr (RL.aN (hg:=(cg ad)) 5 j zr uj cJ (pP zr ?_)))))
   obtain⟨ar,a3,o⟩:=bd o
   refine RL.call (cg ad) zr Fb [a2,(vi p1.Number)] zr (aD (iT N (p1:=p1.Number) (i0:=0) j zr a3) ?_)
   rintro _ w ⟨rfl,j⟩
   refine tP zr (fL ad (vb ar) (hg:=(cg ag)) (aZ zr (fL ag (vb ar) (DP.d0 (DP.z ?_)))))
   obtain rfl:=oi o
   exact⟨rfl,j.sp 6 [2,3,4,5]⟩
  rintro _ w ⟨O,rfl,j⟩
  refine aH (dU hb (fun hc hb=>?_) fun hc hb=>?_)
  rotate_left
  ·refine RC.skip (bM (aH (RC.region (mv (vi af) (RL.gl af 1 (aQ (vi (IntKind.wrap .i64 (af+1))) (RL.nil ?_)))))))
   obtain rfl:=oi hb
   exact⟨rfl,j.sp 4 [0,1,2,3]⟩
  refine RC.sr (mv (vi af) (aQ (vi af) (RL.nt (RC.rb (bT ?_)))))
  obtain rfl:=oi hb
  exact⟨rfl,bX ⟨rfl,j.pk 4 [0,1,2]⟩⟩
 ·intro r U w e hK
  subst e
  refine bT ?_
  obtain rfl:=oi hb
  exact hK
 rintro af _ w rfl ⟨O,rfl,j⟩
 rw [Fo.dA] at hb
 refine aH (RC.sr (aQ (vi (-1)) (RL.nt (RC.ret ?_))))
 obtain rfl:=oi hb
 exact bX ⟨rfl,j.pk 4 [0,1,2]⟩
theorem nj {p0_2: (List cE)} {p0_4: (List Int)} {p0_5: (List (List aI))} {us0_6:List aT} {p0_6: (List cC)} {p1:fW} (j:Holds E w (bc 52 b0 [v0_0,v0_1,v0_2,v0_3,v0_4,v0_5,v0_6,v0_7]::rd v0_2 p0_2::rd v0_4 p0_4::rd v0_5 p0_5::own 47 v0_6 us0_6::iu aU us0_6 p0_6 none::V)) (h1:V[i1]? =some (rd v1 p1)) (o:eM N p0_2 p0_4 p0_5 p0_6 p1=some res):
    Calls bO 65 [(vp b0 0),v1].toArray w (gW (gC E V b0 v0_0 v0_1 v0_2 v0_3 v0_4 v0_5 v0_6 us0_6 p0_6 v0_7 res)):=by
 unfold eM at o
 refine enter Tryz.func65 zr zr ?_
 have j:=j.dup (i1+6) h1
 refine RC.sr (RL.dJ 0 v1 j zr fun aj w j=>?_)
 refine aQ (vi 0) (RL.ns (mv (vp b0 0) (RL.bE (f:=(fun x=>x)) 0 j zr Fd.self vt fun ad j=>?_)))
 have j:=(((j.dup 6 rfl).dup 6 rfl).dup 6 rfl).pull 6
 obtain⟨aa,ae,o⟩:=bd o
 refine RL.call zt zr Li [(vp b0 0),ad] zr (aD (pK N (i1:=0) j zr ae) ?_)
 rintro _ w ⟨ab,rfl,j⟩
 refine mv (.tuple #[ab,(vb aa.2)]) (RL.extract ab (RL.extract (vb aa.2) (RL.alloc j G5.z fun ak w j=>?_)))
 refine RL.cA 0 j 1 zr uu fun w j=>?_
 refine aQ (vb aa.2) (RL.nq (RC.sr (mv (vb aa.2) (RL.not aa.2 (RL.nt (dU o (fun hc o=>?_) fun hc o=>?_))))))
 ·refine RC.sr (aQ (vi (-1)) (RL.nt (RC.rt ?_)))
  obtain rfl:=oi o
  exact bX ⟨rfl,j.pk 12 [2,10,11]⟩
 refine RC.sx (mv (vp b0 0) (RL.bE (f:=(fun x=>x)) 0 j zr Fd.self uu fun ag j=>?_))
 have j:=((j.pull 12).pull 12).pull 5
 obtain⟨ah,ai,o⟩:=bd o
 refine RL.call zt zr Lj [(vp b0 0),ag] zr (aD (mj N (i1:=0) j zr ai) ?_)
 rintro _ w ⟨rfl,j⟩
 refine aQ (vi ah) (RL.nt (RC.ret ?_))
 obtain rfl:=oi o
 exact bX ⟨rfl,j.pk 16 [0,1,2]⟩
end Go.Gk
