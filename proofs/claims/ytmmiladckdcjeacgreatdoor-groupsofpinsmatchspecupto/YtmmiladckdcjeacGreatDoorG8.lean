/-
  Printed texts: Go functions as plain functions, and that they are. No statement of the seed is proved here.
-/
import Derived.Test.YtmmiladckdcjeacGreatDoorG1
import Derived.Test.YtmmiladckdcjeacGreatDoorG6
import Derived.Test.YtmmiladckdcjeacGreatDoorG7
import Derived.Test.YtmmiladckdcjeacGreatDoorA2
set_option linter.unusedVariables false
set_option linter.unusedSimpArgs false
set_option linter.unusedSectionVars false
set_option maxRecDepth 100000
set_option maxHeartbeats 4000000
namespace Go.Gk
open Go Go.Proofs
variable (N:Nat) {E w:World} {b0 i0 i1:Nat} {p1 res:Int} {v0 v0_0 v0_1 v0_2 v0_3 v0_4 v0_5 v0_6 v0_7 v1 v2:Value} {V:List HP}
theorem ni {p0: (List aI)} {res: (List (List aI))} (j:Holds E w V) (h0:V[i0]? =some (rd v0 p0)) (o:fK N p0=some res):
    Calls bN 31 [v0].toArray w (gL (oJ E V res)):=by
 unfold fK at o
 refine enter Tryz.func31 zr zr ?_
 have j:=j.dup (i0+0) h0
 refine RC.sr (aQ (.slice none 0 0) (RL.ns (mv v0 (RL.bF 0 p0 j nk ?_))))
 obtain⟨bu,bb,o⟩:=bd o
 refine RL.mk (p0.length:Int) j Ht MX bb fun af w j=>?_
 refine aQ af (RL.ns (aQ (.slice none 0 0) (RL.nq (RC.sr (aQ (vi 0) (RL.nt ?_))))))
 obtain⟨bw,hN,o⟩:=bd o
 refine RC.iter (fun(aa: (List Bool)×(List (List aI))×Int) U w=>∃a1:Value,SH E V [(0,v0),(3,af),(4,a1),(5,vi aa.2.2)] [rd v0 p0,own 4 af aa.1,own 23 a1 aa.2.1] U w) (fun(aa: (List Bool)×(List (List aI))×Int) U w=>∃al:Value,SH E V [(4,al)] [rd v0 p0,own 4 af aa.1,own 23 al aa.2.1] U w) (fun(r:Empty) _ _=>r.elim) hN ?_ ?_ ?_ ?_
 ·have j:=j.cW (List aI) 23
  exact⟨(.slice none 0 0),j.sp 3 [2,1,0]⟩
 ·rintro aa fl _ w ⟨ah,O,rfl,j⟩ o
  refine RC.seq (RC.sr (mv (vi aa.2.2) (mv v0 (RL.bF 0 p0 j nk (ic aa.2.2 ((p0.length:Int)) (RL.nt (dQ o (fun hc o=>?_) fun hc o=>?_)))))))
  rotate_left
  ·refine RC.ex ?_
   obtain rfl:=oi o
   exact⟨rfl,ah,j.sp 3 [0,1,2]⟩
  refine RC.ss (RC.block (RC.seq (RC.sr (mv af (mv (vi aa.2.2) ?_)))))
  obtain⟨bx,au,o⟩:=bd o
  refine RL.bV 1 j zr zr vS au (RL.dH (f:=(fun x=>x)) 1 j (jF 1 j au 0) (bH au).2.1 Fd.self zZ (RL.nt (dQ o (fun hc o=>?_) fun hc o=>?_)))
  ·refine RC.ex (GU (aH (RC.region (mv (vi aa.2.2) (RL.fY aa.2.2 1 (aQ (vi (IntKind.wrap .i64 (aa.2.2+1))) (RL.nil ?_)))))))
   obtain rfl:=oi o
   exact⟨rfl,ah,j.sp 3 [0,1,2]⟩
  refine RC.sx (mv af (mv (vi aa.2.2) ?_))
  obtain⟨bz,av,o⟩:=bd o
  refine RL.bV 1 j zr zr vS av ?_
  have j:=j.sc Bool true
  refine RL.gI (f:=(fun _ y=>y)) 2 0 j (jF 2 j av 0) (bH av).2.1 zr Fs.self zZ fun w j=>?_
  refine RL.ns (mv v0 (mv (vi aa.2.2) ?_))
  obtain⟨a3,bc,o⟩:=bd o
  refine RL.bP 1 j jh bc fun b0 j=>(RL.bJ 0 a3 j iE fun bf j=>(RL.dY ([a3]: (List aI)) j [bf] jh oG (fun M hs g=>⟨(g.sat 0 _ zr).1,zt⟩) fun a4 w j=>(aQ a4 (RL.nq (RC.sr (aQ (vi 0) (RL.nt ?_)))))))
  obtain⟨b1,hN,o⟩:=bd o
  refine RC.iter (fun(ag: (List Bool)×(List aI)×Int) U w=>∃a5:Value,SH E V [(0,v0),(3,af),(4,ah),(5,vi aa.2.2),(6,a5),(7,vi ag.2.2)] [rd v0 p0,own 4 af ag.1,own 23 ah aa.2.1,own 56 a5 ag.2.1] U w) (fun(ag: (List Bool)×(List aI)×Int) U w=>∃an:Value,SH E V [(0,v0),(3,af),(4,ah),(5,vi aa.2.2),(6,an)] [rd v0 p0,own 4 af ag.1,own 23 ah aa.2.1,own 56 an ag.2.1] U w) (fun(r:Empty) _ _=>r.elim) hN ?_ ?_ ?_ ?_
  ·exact⟨a4,j.sp 7 [4,5,6,0]⟩
  ·rintro ag fl _ w ⟨aw,O,rfl,j⟩ o
   refine RC.seq (RC.sr (mv (vi ag.2.2) (mv aw (RL.fZ 3 ag.2.1 j nk (ic ag.2.2 ((ag.2.1.length:Int)) (RL.nt (dQ o (fun hc o=>?_) fun hc o=>?_)))))))
   rotate_left
   ·refine RC.ex ?_
    obtain rfl:=oi o
    exact⟨rfl,aw,j.sp 4 [0,1,2,3]⟩
   refine RC.ss (RC.bs (aQ (vi 0) (RL.nt ?_)))
   obtain⟨b2,hN,o⟩:=bd o
   refine RC.iter (fun(ad: (List Bool)×(List aI)×Int) U w=>∃a6:Value,SH E V [(0,v0),(3,af),(4,ah),(5,vi aa.2.2),(6,a6),(7,vi ag.2.2),(8,vi ad.2.2)] [rd v0 p0,own 4 af ad.1,own 23 ah aa.2.1,own 56 a6 ad.2.1] U w) (fun(ad: (List Bool)×(List aI)×Int) U w=>∃ao:Value,SH E V [(0,v0),(3,af),(4,ah),(5,vi aa.2.2),(6,ao),(7,vi ag.2.2)] [rd v0 p0,own 4 af ad.1,own 23 ah aa.2.1,own 56 ao ad.2.1] U w) (fun(r:Empty) _ _=>r.elim) hN ?_ ?_ ?_ ?_
   ·exact⟨aw,j.sp 4 [0,1,2,3]⟩
   ·rintro ad fl _ w ⟨aj,O,rfl,j⟩ o
    refine RC.seq (RC.sr (mv (vi ad.2.2) (mv v0 (RL.bF 0 p0 j nk (ic ad.2.2 ((p0.length:Int)) (RL.nt (dQ o (fun hc o=>?_) fun hc o=>?_)))))))
    rotate_left
    ·refine RC.ex ?_
     obtain rfl:=oi o
     exact⟨rfl,aj,j.sp 4 [0,1,2,3]⟩
    refine RC.ss (RC.block (RC.seq ?_))
    obtain⟨ax,hj,o⟩:=bd o
    refine RC.jn (fun(ax:Bool)=>SH E V [(0,v0),(3,af),(4,ah),(5,vi aa.2.2),(6,aj),(7,vi ag.2.2),(8,vi ad.2.2),(57,vb ax)] [rd v0 p0,own 4 af ad.1,own 23 ah aa.2.1,own 56 aj ad.2.1]) ax ?_ ?_
    ·refine RC.ug mixed [0,0,0,0,0,0,0,0,0,0,0,0,0,0,2,0] [0,1,2,3,4,5,6,7,8,9,10,11,12,13,14,15] ?_
     have j:=j.drew
     refine DP.e0 zr (mv af (aW zr (mv (vi ad.2.2) (aW zr ?_))))
     obtain⟨a7,ay,hj⟩:=bd hj
     refine RL.bV 1 j zr zr vS ay (aW zr (RL.dH (f:=(fun x=>x)) 1 j (jF 1 j ay 0) (bH ay).2.1 Fd.self zZ (aW zr (RL.not a7 (aW zr (mv (vb (!a7)) (DP.d0 (eZ hj (fun ae hj=>?_) fun ae hj=>?_))))))))
     rotate_left
     ·refine DP.e0 zr (bC ae (aW zr (bC ae (aW zr (bC ae (aW zr (bC ae (aW zr ?_))))))))
      refine bC ae (aW zr (bC ae (aW zr (bC ae (aW zr (bC ae (ou zr (bC ae ?_))))))))
      refine qz zr (fq ae (vb false) (DP.d0 (DP.z ?_)))
      obtain rfl:=oi hj
      exact⟨rfl,j.sp 4 [0,1,2,3]⟩
     refine DP.e0 zr (RL.move aj (cg ae) (aW zr (RL.move (vi ag.2.2) (cg ae) (aW zr ?_))))
     obtain⟨b3,az,hj⟩:=bd hj
     refine RL.bV (hg:=(cg ae)) 3 j zr zr jh az (aW zr (RL.kF (hg:=(cg ae)) (f:=(fun x=>x)) 3 j (jF 3 j az 0) (bH az).2.1 Fd.self iE fun bg j=>?_))
     refine aW zr (RL.move v0 (cg ae) (aW zr (RL.move (vi ad.2.2) (cg ae) (aW zr ?_))))
     obtain⟨bh,bj,hj⟩:=bd hj
     refine RL.bP (hg:=(cg ae)) 1 j jh bj fun b4 j=>(aW zr (RL.bJ (hg:=(cg ae)) 0 bh j iE fun bk j=>(ou zr ?_)))
     obtain⟨bl,bm,hj⟩:=bd hj
     refine RL.call (cg ae) zr MY [bg,bk] zr (aD (tx N (i0:=2) (i1:=0) j zr zr bm) ?_)
     rintro _ w ⟨rfl,j⟩
     refine qz zr (fq ae (vb bl) (DP.d0 (DP.z ?_)))
     obtain rfl:=oi hj
     exact⟨rfl,j.sp 7 [3,4,5,6]⟩
    rintro _ w ⟨O,rfl,j⟩
    refine aH ?_
    obtain⟨aq,hj,o⟩:=bd o
    refine RC.jn (fun(aq: (List Bool)×(List aI)) U w=>∃ar:Value,SH E V [(0,v0),(3,af),(4,ah),(5,vi aa.2.2),(6,ar),(7,vi ag.2.2),(8,vi ad.2.2)] [rd v0 p0,own 4 af aq.1,own 23 ah aa.2.1,own 56 ar aq.2] U w) aq ?_ ?_
    ·refine dQ hj (fun hc hj=>?_) fun hc hj=>?_
     rotate_left
     ·refine RC.skip ?_
      obtain rfl:=oi hj
      exact⟨rfl,aj,j.sp 4 [0,1,2,3]⟩
     refine RC.sr (mv af (mv (vi ad.2.2) ?_))
     obtain⟨b5,a0,hj⟩:=bd hj
     refine RL.bV 1 j zr zr vS a0 ?_
     have j:=j.sc Bool true
     refine RL.gI (f:=(fun _ y=>y)) 2 0 j (jF 2 j a0 0) (bH a0).2.1 zr Fs.self zZ fun w j=>?_
     refine RL.nt (RC.region (mv aj (mv v0 (mv (vi ad.2.2) ?_))))
     obtain⟨a8,bn,hj⟩:=bd hj
     refine RL.bP 1 j jh bn fun b6 j=>(RL.bJ 0 a8 j iE fun bo j=>(RL.dY ([a8]: (List aI)) j [bo] jh oG (fun M hs g=>⟨(g.sat 0 _ zr).1,zt⟩) fun b7 w j=>?_))
     have j:=j.freeze 0
     obtain⟨b8,bp,hj⟩:=bd hj
     refine RL.app 7 0 j zX bp fun a9 w j=>?_
     refine aQ a9 (RL.nil ?_)
     obtain rfl:=oi hj
     exact⟨rfl,a9,j.sp 8 [4,5,6,7]⟩
    rintro _ w ⟨ar,O,rfl,j⟩
    refine bQ (aH (RC.region (mv (vi ad.2.2) (RL.fY ad.2.2 1 (aQ (vi (IntKind.wrap .i64 (ad.2.2+1))) (RL.nil ?_))))))
    obtain rfl:=oi o
    exact⟨rfl,ar,j.sp 4 [0,1,2,3]⟩
   ·intro r _ _ _ _
    exact r.elim
   rintro ad _ w rfl ⟨ao,O,rfl,j⟩
   rw [Fo.dB] at o
   refine bQ (aH (RC.region (mv (vi ag.2.2) (RL.fY ag.2.2 1 (aQ (vi (IntKind.wrap .i64 (ag.2.2+1))) (RL.nil ?_))))))
   obtain rfl:=oi o
   exact⟨rfl,ao,j.sp 4 [0,1,2,3]⟩
  ·intro r _ _ _ _
   exact r.elim
  rintro ag _ w rfl ⟨an,O,rfl,j⟩
  rw [Fo.dB] at o
  refine aH (RC.region (mv ah (mv an ?_)))
  have j:=j.freeze 3
  obtain⟨b9,bq,o⟩:=bd o
  refine RL.call zt zr J9 [an] zr (aD (kh N (i0:=3) j zr bq) ?_)
  rintro br w j
  have j:=(j.freeze 3).freeze 0
  obtain⟨ca,bt,o⟩:=bd o
  refine RL.call zt zr MZ [ah,br] zr (aD (sF N (i0:=3) (i1:=0) j zr zr bt) ?_)
  rintro ba w j
  refine aQ ba (RL.nil (bQ (aH (RC.region (mv (vi aa.2.2) (RL.fY aa.2.2 1 (aQ (vi (IntKind.wrap .i64 (aa.2.2+1))) (RL.nil ?_))))))))
  obtain rfl:=oi o
  exact⟨rfl,ba,j.sp 6 [2,3,0]⟩
 ·intro r _ _ _ _
  exact r.elim
 rintro aa _ w rfl ⟨al,O,rfl,j⟩
 rw [Fo.dB] at o
 refine aH (RC.sr (mv al (aQ al (RL.nt (RC.ret ?_)))))
 obtain rfl:=oi o
 exact bX (j.pk 3 [2])
def kW (E:World) (V:List HP) (r:Int) (U:Nat->Value) (w:World):Prop:=lF bN 72 Tryz.f9 (aU E V r) .ret U w
theorem rj {p0:kT} (j:Holds E w V) (h0:V[i0]? =some (rd v0 p0)) (o:dW N p0=some res):
    Calls bN 9 [v0].toArray w (gL (aU E V res)):=by
 unfold dW at o
 refine enter Tryz.func9 zr zr ?_
 have j:=j.dup (i0+0) h0
 refine RC.sr (RL.cS 0 v0 j zr fun af w j=>?_)
 have j:=j.jI (i:=0) rfl
 refine aQ (vi 0) (RL.nq (RC.sr (RL.bJ 0 p0 j vz fun au j=>?_)))
 obtain⟨ai,av,o⟩:=bd o
 refine RL.call zt zr MT [au] zr (aD (p8 N (i0:=0) j zr av) ?_)
 rintro _ w ⟨rfl,j⟩
 refine aQ (vi ai) (RL.ns (mv (vi ai) (ic ai 0 (RL.nt (dQ o (fun hc o=>?_) fun hc o=>?_)))))
 ·refine RC.sr (mv (vi ai) (aQ (vi ai) (RL.nt (RC.rt ?_))))
  obtain rfl:=oi o
  exact bX ⟨rfl,j.drop 3⟩
 refine RC.ss (RC.sr (aQ (vi 0) (RL.nt ?_)))
 obtain⟨bm,hN,o⟩:=bd o
 refine RC.iter (fun(ae:Int)=>SH E V [(1,vp af 0),(4,vi ae)] [pt (vp af 0) p0]) (fun(ae:Int)=>SH E V [(1,vp af 0)] [pt (vp af 0) p0]) (kW E V) hN ?_ ?_ ?_ ?_
 ·exact j.sp 3 [1]
 ·rintro ae fl _ w ⟨O,rfl,j⟩ o
  refine RC.seq (RC.sr (mv (vi ae) (RL.dP 0 j zr ik gK fun bn j=>(RL.bJ 0 p0.aO j nQ fun bo j=>(RL.bF 0 p0.aO j wj (ic ae ((p0.aO.length:Int)) (RL.nt (dQ o (fun hc o=>?_) fun hc o=>?_))))))))
  rotate_left
  ·refine RC.ex ?_
   obtain rfl:=oi o
   exact⟨rfl,j.sp 3 [2]⟩
  refine RC.ss (RC.bs (aQ (vi 0) (RL.nt ?_)))
  obtain⟨bp,hN,o⟩:=bd o
  refine RC.iter (fun(ah:Int)=>SH E V [(1,vp af 0),(4,vi ae),(5,vi ah)] [pt (vp af 0) p0]) (fun(ah:Int)=>SH E V [(1,vp af 0),(4,vi ae)] [pt (vp af 0) p0]) (kW E V) hN ?_ ?_ ?_ ?_
  ·exact j.sp 3 [2]
  ·rintro ah fl _ w ⟨O,rfl,j⟩ o
   refine RC.seq (RC.sr (mv (vi ah) (mv (vi ae) (ic ah ae (RL.nt (dQ o (fun hc o=>?_) fun hc o=>?_))))))
   rotate_left
   ·refine RC.ex ?_
    obtain rfl:=oi o
    exact⟨rfl,j.sp 1 [0]⟩
   refine RC.ss (RC.block (RC.seq ?_))
   obtain⟨an,hj,o⟩:=bd o
   refine RC.jn (fun(an:Bool)=>SH E V [(1,vp af 0),(4,vi ae),(5,vi ah),(51,vb an)] [pt (vp af 0) p0]) an ?_ ?_
   ·refine RC.ug mixed [0,0,0,0,0,0,0,0,0,0,2,0,0,0,0,0,0,2,1,1,1,1,1,2,2,0] [0,1,2,3,4,5,6,7,8,9,10,11,12,13,14,15,16,18,19,20,21,22,17,23,24,25] ?_
    have j:=j.drew
    refine DP.e0 zr (RL.dP 0 j zr ik gK fun bq j=>(aW zr (RL.bJ 0 p0.aO j nQ fun br j=>(aW zr (mv (vi ae) (aW zr ?_))))))
    obtain⟨aw,ax,hj⟩:=bd hj
    refine RL.bP 0 j qD ax fun bt j=>(aW zr (RL.bJ 0 aw j ma fun ay j=>(aW zr (RL.dP 4 j zr ik gK fun bu j=>(aW zr (RL.bJ 0 p0.aO j nQ fun bw j=>(aW zr (mv (vi ah) ?_))))))))
    refine aW zr ?_
    obtain⟨az,a0,hj⟩:=bd hj
    refine RL.bP 0 j qD a0 fun bx j=>(aW zr (RL.bJ 0 az j ma fun a1 j=>(ou zr ?_)))
    obtain⟨a2,a3,hj⟩:=bd hj
    refine RL.call zt zr MU [ay,a1] zr (aD (sE N (i0:=4) (i1:=0) j zr zr a3) ?_)
    rintro _ w ⟨rfl,j⟩
    refine qz zr (mv (vb a2) (DP.d0 (eZ hj (fun aa hj=>?_) fun aa hj=>?_)))
    rotate_left
    ·refine DP.e0 zr (bC aa (aW zr (bC aa (aW zr (bC aa (aW zr (bC aa (aW zr ?_))))))))
     refine bC aa (DP.d0 (DP.e1 undef zr (fun w=>bC aa DP.d1) (DP.e1 undef zr (fun w=>bC aa DP.d1) (DP.e1 undef zr (fun w=>bC aa DP.d1) (DP.e1 undef zr (fun w=>bC aa DP.d1) (DP.e1 undef zr (fun w=>bC aa DP.d1) (DP.e2 zr (bC aa ?_))))))))
     refine Fq zr (bC aa (Fq zr (bC aa (qz zr (fq aa (vb false) (DP.d0 (DP.z ?_)))))))
     obtain rfl:=oi hj
     exact⟨rfl,j.sp 9 [8]⟩
    refine DP.e0 zr (RL.dP (hg:=(cg aa)) 8 j zr ik gK fun bz j=>(aW zr (RL.bJ (hg:=(cg aa)) 0 p0.aO j nQ fun b0 j=>(aW zr (RL.move (vi ae) (cg aa) (aW zr ?_))))))
    obtain⟨a4,a5,hj⟩:=bd hj
    refine RL.bP (hg:=(cg aa)) 0 j qD a5 fun b1 j=>(aW zr (RL.bJ (hg:=(cg aa)) 0 a4 j ma fun a6 j=>(DP.d0 (DP.Bc 12 zr (cg aa) j zr ik gK fun b2 j=>(DP.wi p0.aO 0 zr (cg aa) j nQ fun b3 a704 b4 j=>(DP.e1 (vi ah) zr (fun w=>RL.move (vi ah) (cg aa) DP.d1) ?_))))))
    obtain⟨a7,a8,hj⟩:=bd hj
    refine DP.vx (hg:=(cg aa)) 1 zr j qD a8 fun b5 j=>(DP.wi a7 0 zr (cg aa) j ma fun a9 a709 b6 j=>(DP.e2 zr ?_))
    obtain⟨b7,ba,hj⟩:=bd hj
    refine RL.call (cg aa) zr Gb [a6] zr (aD (fH N (i0:=6) j zr ba) ?_)
    rintro bb w j
    refine DP.d2 (⟨⟨zt,j.gF 4⟩,j.gF 1⟩) (DP.e2 zr ?_)
    obtain⟨b8,bc,hj⟩:=bd hj
    refine RL.call (cg aa) zr Gb [a9] zr (aD (fH N (i0:=2) j zr bc) ?_)
    rintro bf w j
    refine DP.d2 (⟨⟨zt,j.gF 5⟩,j.gF 2⟩) (DP.e2 zr ?_)
    obtain⟨bg,bh,hj⟩:=bd hj
    refine RL.call (cg aa) zr MV [bb,bf] zr (aD (rR N (i0:=1) (i1:=0) j zr zr bh) ?_)
    rintro _ w ⟨rfl,j⟩
    refine DP.d2 (⟨⟨zt,j.gF 5⟩,j.gF 2⟩) (DP.e0 zr (fq aa (vb bg) (DP.d0 ?_)))
    have j:=j.pl 21 [0,1,3,4,6,7,8,9,10,11,12,13,14,15,16,17,18,19,20]
    refine DP.z ?_
    obtain rfl:=oi hj
    exact⟨rfl,j.sp 19 [18]⟩
   rintro _ w ⟨O,rfl,j⟩
   refine aH (dQ o (fun hc o=>?_) fun hc o=>?_)
   ·refine RC.sr (aQ (vi 12) (RL.nt (RC.rb (bS ?_))))
    obtain rfl:=oi o
    exact⟨rfl,bX ⟨rfl,j.drop 1⟩⟩
   refine RC.skip (bQ (aH (RC.region (mv (vi ah) (RL.fY ah 1 (aQ (vi (IntKind.wrap .i64 (ah+1))) (RL.nil ?_)))))))
   obtain rfl:=oi o
   exact⟨rfl,j.sp 1 [0]⟩
  ·intro r U w e hK
   subst e
   refine oA (bS ?_)
   obtain rfl:=oi o
   exact⟨rfl,hK⟩
  rintro ah _ w rfl ⟨O,rfl,j⟩
  rw [Fo.dB] at o
  refine bQ (aH (RC.region (mv (vi ae) (RL.fY ae 1 (aQ (vi (IntKind.wrap .i64 (ae+1))) (RL.nil ?_))))))
  obtain rfl:=oi o
  exact⟨rfl,j.sp 1 [0]⟩
 ·intro r U w e hK
  subst e
  refine bS ?_
  obtain rfl:=oi o
  exact hK
 rintro ae _ w rfl ⟨O,rfl,j⟩
 rw [Fo.dB] at o
 refine aH (RC.sr (aQ (vi 0) (RL.nq (RC.sr (aQ (vi 0) (RL.nt ?_))))))
 obtain⟨b9,hN,o⟩:=bd o
 refine RC.iter (fun(ad:Int×Int)=>SH E V [(1,vp af 0),(6,vi ad.1),(7,vi ad.2)] [pt (vp af 0) p0]) (fun(ad:Int×Int)=>SH E V [(6,vi ad.1)] [pt (vp af 0) p0]) (kW E V) hN ?_ ?_ ?_ ?_
 ·exact j.sp 1 [0]
 ·rintro ad fl _ w ⟨O,rfl,j⟩ o
  refine RC.seq (RC.sr (mv (vi ad.2) (RL.dP 0 j zr mC i9 fun ca j=>(RL.bJ 0 p0.aJ j pJ fun cb j=>(RL.bF 0 p0.aJ j qC (ic ad.2 ((p0.aJ.length:Int)) (RL.nt (dQ o (fun hc o=>?_) fun hc o=>?_))))))))
  rotate_left
  ·refine RC.ex ?_
   obtain rfl:=oi o
   exact⟨rfl,j.sp 3 [2]⟩
  refine RC.ss (RC.bs (RL.bJ 2 p0 j vz fun bj j=>(mv (vi ad.2) ?_)))
  obtain⟨ar,bk,o⟩:=bd o
  refine RL.call zt zr Lr [bj,(vi ad.2)] zr (aD (mH N (p1:=ad.2) (i0:=0) j zr bk) ?_)
  rintro al w j
  refine aQ al (RL.nq (RC.sr (mv al (RL.fZ 0 ar j nk (ic ((ar.length:Int)) 2000 (RL.nt (dQ o (fun hc o=>?_) fun hc o=>?_)))))))
  ·refine RC.sr (aQ (vi 2) (RL.nt (RC.rt (oA (bS ?_)))))
   obtain rfl:=oi o
   exact⟨rfl,bX ⟨rfl,j.drop 5⟩⟩
  refine RC.sn (RC.region (mv (vi ad.1) (mv al ?_)))
  have j:=j.freeze 0
  obtain⟨ao,bl,o⟩:=bd o
  refine RL.call zt zr Ls [al] zr (aD (ni N (i0:=0) j zr bl) ?_)
  rintro cc w j
  refine RL.fZ 0 ao j qC (RL.fY ad.1 (ao.length:Int) (aQ (vi (IntKind.wrap .i64 (ad.1+ (ao.length:Int)))) (RL.nil (bQ (aH (RC.region (mv (vi ad.2) (RL.fY ad.2 1 ?_))))))))
  refine aQ (vi (IntKind.wrap .i64 (ad.2+1))) (RL.nil ?_)
  obtain rfl:=oi o
  exact⟨rfl,j.sp 6 [5]⟩
 ·intro r U w e hK
  subst e
  refine bS ?_
  obtain rfl:=oi o
  exact hK
 rintro ad _ w rfl ⟨O,rfl,j⟩
 rw [Fo.dB] at o
 refine aH (RC.seq (RC.sr (mv (vi ad.1) (ic ad.1 2000 (RL.nt (dQ o (fun hc o=>?_) fun hc o=>?_))))))
 ·refine RC.sr (aQ (vi 2) (RL.nt (RC.rt ?_)))
  obtain rfl:=oi o
  exact bX ⟨rfl,j.drop 1⟩
 refine RC.sx (aQ (vi 0) (RL.nt (RC.ret ?_)))
 obtain rfl:=oi o
 exact bX ⟨rfl,j.drop 1⟩
def uP (E:World) (V:List HP) (r:Int) (U:Nat->Value) (w:World):Prop:=lF bN 34 Tryz.f10 (aU E V r) .ret U w
theorem t8 {p0:kT} {p1:dV} (j:Holds E w V) (h0:V[i0]? =some (rd v0 p0)) (h1:V[i1]? =some (rd v1 p1)) (hb:kf N p0 p1=some res):
    Calls bN 10 [v0,v1].toArray w (gL (aU E V res)):=by
 unfold kf at hb
 refine enter Tryz.func10 zr zr ?_
 have j:=(j.dup (i0+0) h0).dup (i1+1) h1
 refine RC.sr (RL.cS 1 v0 j zr fun ae w j=>?_)
 refine RL.cS 1 v1 j zr fun af w j=>?_
 refine aQ (vi 0) (RL.nq (RC.sr (aQ (vi 0) (RL.nt ?_))))
 obtain⟨aq,hN,hb⟩:=bd hb
 refine RC.iter (fun(ab:Int)=>SH E V [(2,vp ae 0),(3,vp af 0),(5,vi ab)] [bx 27 ae p0,bx 29 af p1]) (fun(ab:Int)=>SH E V [] [bx 27 ae p0,bx 29 af p1]) (uP E V) hN ?_ ?_ ?_ ?_
 ·exact j.sp 4 [1,0]
 ·rintro ab fl _ w ⟨O,rfl,j⟩ hb
  refine RC.seq (RC.sr (mv (vi ab) (RL.aY zr nR (RL.bB 0 j zr kK wo fun au j=>(RL.bF 0 p0.bM j Dp (ic ab ((p0.bM.length:Int)) (RL.nt (dQ hb (fun hc hb=>?_) fun hc hb=>?_))))))))
  rotate_left
  ·refine RC.ex ?_
   obtain rfl:=oi hb
   exact⟨rfl,j.sp 3 [1,2]⟩
  refine RC.ss (RC.block (RC.seq ?_))
  obtain⟨ah,hj,hb⟩:=bd hb
  refine RC.jn (fun(ah:Bool)=>SH E V [(2,vp ae 0),(3,vp af 0),(5,vi ab),(32,vb ah)] [bx 27 ae p0,bx 29 af p1]) ah ?_ ?_
  ·refine RC.yN mixed ?_
   have j:=j.drew
   refine RO.go (RL.aY zr nR (RO.nx (RL.bB 1 j zr kK wo fun av j=>(RO.nx (mv (vi ab) (RO.nx ?_))))))
   obtain⟨ai,al,hj⟩:=bd hj
   refine RL.bP 0 j zY al fun aw j=>(RO.nx (RL.dP 0 j zr tk m8 fun ax j=>(RO.nx (RL.bE ai.Part 0 j yP (RO.nx (RL.aY zr EF (RO.nx (RL.aM 5 j zr zS yP ?_))))))))
   refine RO.nx (RL.B2 ai.Part p1.Part zt zr zr zr zr (RO.nx (mv (vb (ai.Part.qw p1.Part)) (eZ hj (fun o hj=>?_) fun o hj=>?_))))
   rotate_left
   ·refine RO.nx (bC o (RO.nx (bC o (RO.nx (bC o (RO.nx (bC o (RO.nx ?_))))))))
    refine bC o (RO.nx (bC o (RO.nx (bC o (RO.nx (bC o (RO.nx (bC o ?_))))))))
    refine RO.nx (fq o (vb false) (RO.last ?_))
    obtain rfl:=oi hj
    exact⟨rfl,j.sp 6 [4,5]⟩
   refine RO.nx (RL.aY (hg:=(cg o)) zr nR (RO.nx (RL.bB (hg:=(cg o)) 4 j zr kK wo fun ay j=>(RO.nx (RL.move (vi ab) (cg o) (RO.nx ?_))))))
   obtain⟨aj,an,hj⟩:=bd hj
   refine RL.bP (hg:=(cg o)) 0 j zY an fun az j=>(RO.nx (RL.dP (hg:=(cg o)) 0 j zr wq oY fun a0 j=>(RO.nx (RL.bE (hg:=(cg o)) aj.dV 0 j yP (RO.nx (RL.aY (hg:=(cg o)) zr EG (RO.nx (RL.aM (hg:=(cg o)) 8 j zr zT yP ?_))))))))
   refine RO.nx (RL.B2 aj.dV p1.dV (cg o) zr zr zr zr (RO.nx (fq o (vb (aj.dV.qw p1.dV)) (RO.last ?_))))
   obtain rfl:=oi hj
   exact⟨rfl,j.sp 9 [7,8]⟩
  rintro _ w ⟨O,rfl,j⟩
  refine aH (dQ hb (fun hc hb=>?_) fun hc hb=>?_)
  rotate_left
  ·refine RC.skip (bQ (aH (RC.region (mv (vi ab) (RL.fY ab 1 (aQ (vi (IntKind.wrap .i64 (ab+1))) (RL.nil ?_)))))))
   obtain rfl:=oi hb
   exact⟨rfl,j.sp 2 [0,1]⟩
  refine RC.sr (mv (vi ab) (aQ (vi ab) (RL.nt (RC.rb (bS ?_)))))
  obtain rfl:=oi hb
  exact⟨rfl,bX ⟨rfl,j.drop 2⟩⟩
 ·intro r U w e hK
  subst e
  refine bS ?_
  obtain rfl:=oi hb
  exact hK
 rintro ab _ w rfl ⟨O,rfl,j⟩
 rw [Fo.dB] at hb
 refine aH (RC.sr (aQ (vi (-1)) (RL.nt (RC.ret ?_))))
 obtain rfl:=oi hb
 exact bX ⟨rfl,j.drop 2⟩
def uQ (E:World) (V:List HP) (r:Bool) (U:Nat->Value) (w:World):Prop:=lF bN 62 Tryz.f33 (aX E V r) .ret U w
theorem t9 {p0: (List aI)} {p1:aI} {res:Bool} (hw:Holds E w V) (h0:V[i0]? =some (rd v0 p0)) (h1:V[i1]? =some (rd v1 p1)) (hb:jf N p0 p1=some res):
    Calls bN 33 [v0,v1].toArray w (gL (aX E V res)):=by
 unfold jf at hb
 refine enter Tryz.func33 zr zr ?_
 have hw:=(hw.dup (i0+0) h0).dup (i1+1) h1
 refine RC.sr (RL.cS 0 v1 hw zr fun ag w hw=>?_)
 refine aQ (vb false) (RL.nq (RC.sr (aQ (vi 0) (RL.nt ?_))))
 obtain⟨aq,hN,hb⟩:=bd hb
 refine RC.iter (fun(af:Int)=>SH E V [(0,v0),(3,vp ag 0),(5,vi af)] [rd v0 p0,bx 56 ag p1]) (fun(af:Int)=>SH E V [] [rd v0 p0,bx 56 ag p1]) (uQ E V) hN ?_ ?_ ?_ ?_
 ·exact hw.sp 3 [2,0]
 ·rintro af fl _ w ⟨O,rfl,hw⟩ hb
  refine RC.seq (RC.sr (mv (vi af) (mv v0 (RL.bF 0 p0 hw nk (ic af ((p0.length:Int)) (RL.nt (dQ hb (fun hc hb=>?_) fun hc hb=>?_)))))))
  rotate_left
  ·refine RC.ex ?_
   obtain rfl:=oi hb
   exact⟨rfl,hw.sp 2 [0,1]⟩
  refine RC.ss (RC.block (RC.seq (RC.yN mixed ?_)))
  have hw:=hw.drew
  refine RO.go (mv v0 (RO.nx (mv (vi af) (RO.nx ?_))))
  obtain⟨j,aj,hb⟩:=bd hb
  refine RL.bP 0 hw jh aj fun au hw=>(RO.nx (RL.dP 0 hw zr ji eF fun av hw=>(RO.nx (RL.bE j.X1 0 hw cI (RO.nx (RL.aY zr ji (RO.nx (RL.aM 3 hw zr eF cI ?_))))))))
  refine RO.nx (RL.min j.X1 p1.X1 (RO.nx (mv v0 (RO.nx (mv (vi af) (RO.nx ?_))))))
  obtain⟨o,ak,hb⟩:=bd hb
  refine RL.bP 2 hw jh ak fun aw hw=>(RO.nx (RL.dP 0 hw zr ij dM fun ax hw=>(RO.nx (RL.bE o.X0 0 hw cI (RO.nx (RL.aY zr ij (RO.nx (RL.aM 5 hw zr dM cI ?_))))))))
  refine RO.nx (RL.max o.X0 p1.X0 (RO.nx (RL.fY (if p1.X1<j.X1 then p1.X1 else j.X1) (if o.X0<p1.X0 then p1.X0 else o.X0) (RO.nx (aQ (vi (IntKind.wrap .i64 ((if p1.X1<j.X1 then p1.X1 else j.X1) - (if o.X0<p1.X0 then p1.X0 else o.X0)))) (RO.last (aH (RC.seq ?_))))))))
  refine RC.yN mixed ?_
  have hw:=hw.drew
  refine RO.go (mv v0 (RO.nx (mv (vi af) (RO.nx ?_))))
  obtain⟨aa,al,hb⟩:=bd hb
  refine RL.bP 4 hw jh al fun ay hw=>(RO.nx (RL.dP 0 hw zr kr fG fun az hw=>(RO.nx (RL.bE aa.Y1 0 hw cI (RO.nx (RL.aY zr kr (RO.nx (RL.aM 7 hw zr fG cI ?_))))))))
  refine RO.nx (RL.min aa.Y1 p1.Y1 (RO.nx (mv v0 (RO.nx (mv (vi af) (RO.nx ?_))))))
  obtain⟨ab,an,hb⟩:=bd hb
  refine RL.bP 6 hw jh an fun a0 hw=>(RO.nx (RL.dP 0 hw zr gW dF fun a1 hw=>(RO.nx (RL.bE ab.Y0 0 hw cI (RO.nx (RL.aY zr gW (RO.nx (RL.aM 9 hw zr dF cI ?_))))))))
  refine RO.nx (RL.max ab.Y0 p1.Y0 (RO.nx (RL.fY (if p1.Y1<aa.Y1 then p1.Y1 else aa.Y1) (if ab.Y0<p1.Y0 then p1.Y0 else ab.Y0) (RO.nx (aQ (vi (IntKind.wrap .i64 ((if p1.Y1<aa.Y1 then p1.Y1 else aa.Y1) - (if ab.Y0<p1.Y0 then p1.Y0 else ab.Y0)))) (RO.last (aH (RC.sr ?_))))))))
  refine mv (vi (IntKind.wrap .i64 ((if p1.X1<j.X1 then p1.X1 else j.X1) - (if o.X0<p1.X0 then p1.X0 else o.X0)))) (ic ((IntKind.wrap .i64 ((if p1.X1<j.X1 then p1.X1 else j.X1) - (if o.X0<p1.X0 then p1.X0 else o.X0)))) 0 (mv (vb (decide ((IntKind.wrap .i64 ((if p1.X1<j.X1 then p1.X1 else j.X1) - (if o.X0<p1.X0 then p1.X0 else o.X0)))>0))) (RL.gs true (decide ((IntKind.wrap .i64 ((if p1.X1<j.X1 then p1.X1 else j.X1) - (if o.X0<p1.X0 then p1.X0 else o.X0)))>0)) (vi (IntKind.wrap .i64 ((if p1.Y1<aa.Y1 then p1.Y1 else aa.Y1) - (if ab.Y0<p1.Y0 then p1.Y0 else ab.Y0)))) rfl rfl rfl cK (RL.gs true (decide ((IntKind.wrap .i64 ((if p1.X1<j.X1 then p1.X1 else j.X1) - (if o.X0<p1.X0 then p1.X0 else o.X0)))>0)) (vb ((IntKind.wrap .i64 ((if p1.Y1<aa.Y1 then p1.Y1 else aa.Y1) - (if ab.Y0<p1.Y0 then p1.Y0 else ab.Y0)))==0)) rfl rfl rfl (dK .eql .i64 (IntKind.wrap .i64 ((if p1.Y1<aa.Y1 then p1.Y1 else aa.Y1) - (if ab.Y0<p1.Y0 then p1.Y0 else ab.Y0))) 0 rfl (fun h=>by exact(cM h:cv (true&&((decide ((IntKind.wrap .i64 ((if p1.X1<j.X1 then p1.X1 else j.X1) - (if o.X0<p1.X0 then p1.X0 else o.X0)))>0))==true)) (vi (IntKind.wrap .i64 ((if p1.Y1<aa.Y1 then p1.Y1 else aa.Y1) - (if ab.Y0<p1.Y0 then p1.Y0 else ab.Y0))))= (vi (IntKind.wrap .i64 ((if p1.Y1<aa.Y1 then p1.Y1 else aa.Y1) - (if ab.Y0<p1.Y0 then p1.Y0 else ab.Y0)))))) (fun _=>rfl) rfl) (RL.pick (decide ((IntKind.wrap .i64 ((if p1.X1<j.X1 then p1.X1 else j.X1) - (if o.X0<p1.X0 then p1.X0 else o.X0)))>0)) (vb ((decide ((IntKind.wrap .i64 ((if p1.X1<j.X1 then p1.X1 else j.X1) - (if o.X0<p1.X0 then p1.X0 else o.X0)))>0))&&((IntKind.wrap .i64 ((if p1.Y1<aa.Y1 then p1.Y1 else aa.Y1) - (if ab.Y0<p1.Y0 then p1.Y0 else ab.Y0)))==0))) (gD true rfl) (mv (vb ((decide ((IntKind.wrap .i64 ((if p1.X1<j.X1 then p1.X1 else j.X1) - (if o.X0<p1.X0 then p1.X0 else o.X0)))>0))&&((IntKind.wrap .i64 ((if p1.Y1<aa.Y1 then p1.Y1 else aa.Y1) - (if ab.Y0<p1.Y0 then p1.Y0 else ab.Y0)))==0))) (RL.gs true ((decide ((IntKind.wrap .i64 ((if p1.X1<j.X1 then p1.X1 else j.X1) - (if o.X0<p1.X0 then p1.X0 else o.X0)))>0))&&((IntKind.wrap .i64 ((if p1.Y1<aa.Y1 then p1.Y1 else aa.Y1) - (if ab.Y0<p1.Y0 then p1.Y0 else ab.Y0)))==0)) (vi (IntKind.wrap .i64 ((if p1.X1<j.X1 then p1.X1 else j.X1) - (if o.X0<p1.X0 then p1.X0 else o.X0)))) rfl rfl rfl cK (RL.gs true ((decide ((IntKind.wrap .i64 ((if p1.X1<j.X1 then p1.X1 else j.X1) - (if o.X0<p1.X0 then p1.X0 else o.X0)))>0))&&((IntKind.wrap .i64 ((if p1.Y1<aa.Y1 then p1.Y1 else aa.Y1) - (if ab.Y0<p1.Y0 then p1.Y0 else ab.Y0)))==0)) (vb ((IntKind.wrap .i64 ((if p1.X1<j.X1 then p1.X1 else j.X1) - (if o.X0<p1.X0 then p1.X0 else o.X0)))==0)) rfl rfl rfl (dK .eql .i64 (IntKind.wrap .i64 ((if p1.X1<j.X1 then p1.X1 else j.X1) - (if o.X0<p1.X0 then p1.X0 else o.X0))) 0 rfl (fun h=>by exact(cM h:cv (true&&(((decide ((IntKind.wrap .i64 ((if p1.X1<j.X1 then p1.X1 else j.X1) - (if o.X0<p1.X0 then p1.X0 else o.X0)))>0))&&((IntKind.wrap .i64 ((if p1.Y1<aa.Y1 then p1.Y1 else aa.Y1) - (if ab.Y0<p1.Y0 then p1.Y0 else ab.Y0)))==0))==false)) (vi (IntKind.wrap .i64 ((if p1.X1<j.X1 then p1.X1 else j.X1) - (if o.X0<p1.X0 then p1.X0 else o.X0))))= (vi (IntKind.wrap .i64 ((if p1.X1<j.X1 then p1.X1 else j.X1) - (if o.X0<p1.X0 then p1.X0 else o.X0)))))) (fun _=>rfl) rfl) ?_))))))))
  refine RL.gs true ((decide ((IntKind.wrap .i64 ((if p1.X1<j.X1 then p1.X1 else j.X1) - (if o.X0<p1.X0 then p1.X0 else o.X0)))>0))&&((IntKind.wrap .i64 ((if p1.Y1<aa.Y1 then p1.Y1 else aa.Y1) - (if ab.Y0<p1.Y0 then p1.Y0 else ab.Y0)))==0)) (vb ((IntKind.wrap .i64 ((if p1.X1<j.X1 then p1.X1 else j.X1) - (if o.X0<p1.X0 then p1.X0 else o.X0)))==0)) rfl rfl rfl (cK (hx:=fun h=>by exact(cM h:cv (true&&(((decide ((IntKind.wrap .i64 ((if p1.X1<j.X1 then p1.X1 else j.X1) - (if o.X0<p1.X0 then p1.X0 else o.X0)))>0))&&((IntKind.wrap .i64 ((if p1.Y1<aa.Y1 then p1.Y1 else aa.Y1) - (if ab.Y0<p1.Y0 then p1.Y0 else ab.Y0)))==0))==false)) (vb ((IntKind.wrap .i64 ((if p1.X1<j.X1 then p1.X1 else j.X1) - (if o.X0<p1.X0 then p1.X0 else o.X0)))==0))= (vb ((IntKind.wrap .i64 ((if p1.X1<j.X1 then p1.X1 else j.X1) - (if o.X0<p1.X0 then p1.X0 else o.X0)))==0))))) (RL.gs (true&&(((decide ((IntKind.wrap .i64 ((if p1.X1<j.X1 then p1.X1 else j.X1) - (if o.X0<p1.X0 then p1.X0 else o.X0)))>0))&&((IntKind.wrap .i64 ((if p1.Y1<aa.Y1 then p1.Y1 else aa.Y1) - (if ab.Y0<p1.Y0 then p1.Y0 else ab.Y0)))==0))==false)) ((IntKind.wrap .i64 ((if p1.X1<j.X1 then p1.X1 else j.X1) - (if o.X0<p1.X0 then p1.X0 else o.X0)))==0) (vi (IntKind.wrap .i64 ((if p1.Y1<aa.Y1 then p1.Y1 else aa.Y1) - (if ab.Y0<p1.Y0 then p1.Y0 else ab.Y0)))) rfl rfl rfl cK (RL.gs (true&&(((decide ((IntKind.wrap .i64 ((if p1.X1<j.X1 then p1.X1 else j.X1) - (if o.X0<p1.X0 then p1.X0 else o.X0)))>0))&&((IntKind.wrap .i64 ((if p1.Y1<aa.Y1 then p1.Y1 else aa.Y1) - (if ab.Y0<p1.Y0 then p1.Y0 else ab.Y0)))==0))==false)) ((IntKind.wrap .i64 ((if p1.X1<j.X1 then p1.X1 else j.X1) - (if o.X0<p1.X0 then p1.X0 else o.X0)))==0) (vb (decide ((IntKind.wrap .i64 ((if p1.Y1<aa.Y1 then p1.Y1 else aa.Y1) - (if ab.Y0<p1.Y0 then p1.Y0 else ab.Y0)))>0))) rfl rfl rfl (dK .gtr .i64 (IntKind.wrap .i64 ((if p1.Y1<aa.Y1 then p1.Y1 else aa.Y1) - (if ab.Y0<p1.Y0 then p1.Y0 else ab.Y0))) 0 rfl (fun h=>by exact(cM h:cv ((true&&(((decide ((IntKind.wrap .i64 ((if p1.X1<j.X1 then p1.X1 else j.X1) - (if o.X0<p1.X0 then p1.X0 else o.X0)))>0))&&((IntKind.wrap .i64 ((if p1.Y1<aa.Y1 then p1.Y1 else aa.Y1) - (if ab.Y0<p1.Y0 then p1.Y0 else ab.Y0)))==0))==false))&&(((IntKind.wrap .i64 ((if p1.X1<j.X1 then p1.X1 else j.X1) - (if o.X0<p1.X0 then p1.X0 else o.X0)))==0)==true)) (vi (IntKind.wrap .i64 ((if p1.Y1<aa.Y1 then p1.Y1 else aa.Y1) - (if ab.Y0<p1.Y0 then p1.Y0 else ab.Y0))))= (vi (IntKind.wrap .i64 ((if p1.Y1<aa.Y1 then p1.Y1 else aa.Y1) - (if ab.Y0<p1.Y0 then p1.Y0 else ab.Y0)))))) (fun _=>rfl) rfl) (RL.gs true ((decide ((IntKind.wrap .i64 ((if p1.X1<j.X1 then p1.X1 else j.X1) - (if o.X0<p1.X0 then p1.X0 else o.X0)))>0))&&((IntKind.wrap .i64 ((if p1.Y1<aa.Y1 then p1.Y1 else aa.Y1) - (if ab.Y0<p1.Y0 then p1.Y0 else ab.Y0)))==0)) (vb (((IntKind.wrap .i64 ((if p1.X1<j.X1 then p1.X1 else j.X1) - (if o.X0<p1.X0 then p1.X0 else o.X0)))==0)&&(decide ((IntKind.wrap .i64 ((if p1.Y1<aa.Y1 then p1.Y1 else aa.Y1) - (if ab.Y0<p1.Y0 then p1.Y0 else ab.Y0)))>0)))) rfl rfl rfl (kE ((IntKind.wrap .i64 ((if p1.X1<j.X1 then p1.X1 else j.X1) - (if o.X0<p1.X0 then p1.X0 else o.X0)))==0) rfl (fun h=>by exact(cM h:cv (true&&(((decide ((IntKind.wrap .i64 ((if p1.X1<j.X1 then p1.X1 else j.X1) - (if o.X0<p1.X0 then p1.X0 else o.X0)))>0))&&((IntKind.wrap .i64 ((if p1.Y1<aa.Y1 then p1.Y1 else aa.Y1) - (if ab.Y0<p1.Y0 then p1.Y0 else ab.Y0)))==0))==false)) (vb ((IntKind.wrap .i64 ((if p1.X1<j.X1 then p1.X1 else j.X1) - (if o.X0<p1.X0 then p1.X0 else o.X0)))==0))= (vb ((IntKind.wrap .i64 ((if p1.X1<j.X1 then p1.X1 else j.X1) - (if o.X0<p1.X0 then p1.X0 else o.X0)))==0)))) (fun h=>by exact gD (true&&(((decide ((IntKind.wrap .i64 ((if p1.X1<j.X1 then p1.X1 else j.X1) - (if o.X0<p1.X0 then p1.X0 else o.X0)))>0))&&((IntKind.wrap .i64 ((if p1.Y1<aa.Y1 then p1.Y1 else aa.Y1) - (if ab.Y0<p1.Y0 then p1.Y0 else ab.Y0)))==0))==false)) h)) (RL.pick ((decide ((IntKind.wrap .i64 ((if p1.X1<j.X1 then p1.X1 else j.X1) - (if o.X0<p1.X0 then p1.X0 else o.X0)))>0))&&((IntKind.wrap .i64 ((if p1.Y1<aa.Y1 then p1.Y1 else aa.Y1) - (if ab.Y0<p1.Y0 then p1.Y0 else ab.Y0)))==0)) (vb (((decide ((IntKind.wrap .i64 ((if p1.X1<j.X1 then p1.X1 else j.X1) - (if o.X0<p1.X0 then p1.X0 else o.X0)))>0))&&((IntKind.wrap .i64 ((if p1.Y1<aa.Y1 then p1.Y1 else aa.Y1) - (if ab.Y0<p1.Y0 then p1.Y0 else ab.Y0)))==0))||(((IntKind.wrap .i64 ((if p1.X1<j.X1 then p1.X1 else j.X1) - (if o.X0<p1.X0 then p1.X0 else o.X0)))==0)&&(decide ((IntKind.wrap .i64 ((if p1.Y1<aa.Y1 then p1.Y1 else aa.Y1) - (if ab.Y0<p1.Y0 then p1.Y0 else ab.Y0)))>0))))) (nX true) (RL.nt (dQ hb (fun hc hb=>?_) fun hc hb=>?_))))))
  ·refine RC.sr (aQ (vb true) (RL.nt (RC.rb (bS ?_))))
   obtain rfl:=oi hb
   exact⟨rfl,bX ⟨rfl,hw.drop 10⟩⟩
  refine RC.skip (bQ (aH (RC.region (mv (vi af) (RL.fY af 1 (aQ (vi (IntKind.wrap .i64 (af+1))) (RL.nil ?_)))))))
  obtain rfl:=oi hb
  exact⟨rfl,hw.sp 10 [8,9]⟩
 ·intro r U w e hK
  subst e
  refine bS ?_
  obtain rfl:=oi hb
  exact hK
 rintro af _ w rfl ⟨O,rfl,hw⟩
 rw [Fo.dB] at hb
 refine aH (RC.sr (aQ (vb false) (RL.nt (RC.ret ?_))))
 obtain rfl:=oi hb
 exact bX ⟨rfl,hw.drop 2⟩
def rk (E:World) (V:List HP) (r:Bool) (U:Nat->Value) (w:World):Prop:=lF bN 18 Tryz.f70 (aX E V r) .ret U w
theorem eD {p0: (List Int)} {res:Bool} (o:Holds E w V) (h0:V[i0]? =some (rd v0 p0)) (j:cE N p0 p1=some res):
    Calls bN 70 [v0,(vi p1)].toArray w (gL (aX E V res)):=by
 unfold cE at j
 refine enter Tryz.func70 zr zr ?_
 have o:=o.dup (i0+0) h0
 refine RC.sr (aQ (vb false) (RL.nq (RC.sr (aQ (vi 0) (RL.nt ?_)))))
 obtain⟨ah,hN,j⟩:=bd j
 refine RC.iter (fun(aa:Int)=>SH E V [(0,v0),(1,vi p1),(5,vi aa)] [rd v0 p0]) (fun(aa:Int)=>SH E V [] [rd v0 p0]) (rk E V) hN ?_ ?_ ?_ ?_
 ·exact o.sp 1 [0]
 ·rintro aa fl _ w ⟨O,rfl,o⟩ j
  refine RC.seq (RC.sr (mv (vi aa) (mv v0 (RL.bF 0 p0 o mn (ic aa ((p0.length:Int)) (RL.nt (dQ j (fun hc j=>?_) fun hc j=>?_)))))))
  rotate_left
  ·refine RC.ex ?_
   obtain rfl:=oi j
   exact⟨rfl,o.sp 1 [0]⟩
  refine RC.ss (RC.bs (mv v0 (mv (vi aa) ?_)))
  obtain⟨ad,af,j⟩:=bd j
  refine RL.bP 0 o eC af fun aj o=>(RL.bE ad 0 o cI (mv (vi p1) (ic ad p1 (RL.nt (dQ j (fun hc j=>?_) fun hc j=>?_)))))
  ·refine RC.sr (aQ (vb true) (RL.nt (RC.rb (bS ?_))))
   obtain rfl:=oi j
   exact⟨rfl,bX ⟨rfl,o.drop 2⟩⟩
  refine RC.skip (bQ (aH (RC.region (mv (vi aa) (RL.fY aa 1 (aQ (vi (IntKind.wrap .i64 (aa+1))) (RL.nil ?_)))))))
  obtain rfl:=oi j
  exact⟨rfl,o.sp 2 [1]⟩
 ·intro r U w e hK
  subst e
  refine bS ?_
  obtain rfl:=oi j
  exact hK
 rintro aa _ w rfl ⟨O,rfl,o⟩
 rw [Fo.dB] at j
 refine aH (RC.sr (aQ (vb false) (RL.nt (RC.ret ?_))))
 obtain rfl:=oi j
 exact bX ⟨rfl,o.drop 1⟩
theorem oh {p0: (List Int)} {res: (List Int)} (j:Holds E w V) (h0:V[i0]? =some (rd v0 p0)) (o:iD N p0 p1=some res):
    Calls bN 106 [v0,(vi p1)].toArray w (gL (nn E V res)):=by
 unfold iD at o
 refine enter Tryz.func106 zr zr ?_
 have j:=j.dup (i0+0) h0
 refine RC.sr (aQ (.slice none 0 0) (RL.ns (mv v0 (RL.bF 0 p0 j mn (aQ (vi p0.length) (RL.nq ?_))))))
 obtain⟨az,hN,o⟩:=bd o
 refine RC.iter (fun(aa:Int)=>SH E V [(0,v0),(1,vi p1),(5,vi aa)] [rd v0 p0]) (fun(aa:Int)=>SH E V [(0,v0),(1,vi p1),(5,vi aa)] [rd v0 p0]) (fun(r:Empty) _ _=>r.elim) hN ?_ ?_ ?_ ?_
 ·exact j.sp 1 [0]
 ·rintro aa fl _ w ⟨O,rfl,j⟩ o
  refine RC.seq (RC.seq ?_)
  obtain⟨af,hj,o⟩:=bd o
  refine RC.jn (fun(af:Bool)=>SH E V [(0,v0),(1,vi p1),(5,vi aa),(19,vb af)] [rd v0 p0]) af ?_ ?_
  ·refine RC.region (mv (vi aa) (ic aa 0 (mv (vb (decide (aa>0))) (eZ hj (fun ab hj=>?_) fun ab hj=>?_))))
   rotate_left
   ·refine bC ab (bC ab (bC ab (bC ab (bC ab (bC ab (bC ab (fq ab (vb false) (RL.nil ?_))))))))
    obtain rfl:=oi hj
    exact⟨rfl,j.sp 1 [0]⟩
   refine RL.move v0 (cg ab) (RL.move (vi aa) (cg ab) (RL.fY (hg:=(cg ab)) aa 1 ?_))
   obtain⟨ag,ao,hj⟩:=bd hj
   refine RL.bP (hg:=(cg ab)) 0 j eC ao fun a1 j=>(RL.bE (hg:=(cg ab)) ag 0 j cI (RL.move (vi p1) (cg ab) (RL.kX ag p1 (cg ab) (fq ab (vb (decide (ag>p1))) (RL.nil ?_)))))
   obtain rfl:=oi hj
   exact⟨rfl,j.sp 2 [1]⟩
  rintro _ w ⟨O,rfl,j⟩
  refine aH (dQ o (fun hc o=>?_) fun hc o=>?_)
  rotate_left
  ·refine RC.ex ?_
   obtain rfl:=oi o
   exact⟨rfl,j.sp 1 [0]⟩
  refine RC.sn (RC.block (RC.region (mv (vi aa) (RL.fY aa 1 (aQ (vi (IntKind.wrap .i64 (aa - 1))) (RL.nil (bQ ?_)))))))
  obtain rfl:=oi o
  exact⟨rfl,j.sp 1 [0]⟩
 ·intro r _ _ _ _
  exact r.elim
 rintro aa _ w rfl ⟨O,rfl,j⟩
 rw [Fo.dB] at o
 refine aH (RC.seq (RC.seq ?_))
 obtain⟨ai,hj,o⟩:=bd o
 refine RC.jn (fun(ai:Bool)=>SH E V [(0,v0),(1,vi p1),(5,vi aa),(32,vb ai)] [rd v0 p0]) ai ?_ ?_
 ·refine RC.region (mv (vi aa) (ic aa 0 (mv (vb (decide (aa>0))) (eZ hj (fun ad hj=>?_) fun ad hj=>?_))))
  rotate_left
  ·refine bC ad (bC ad (bC ad (bC ad (bC ad (bC ad (bC ad (fq ad (vb false) (RL.nil ?_))))))))
   obtain rfl:=oi hj
   exact⟨rfl,j.sp 1 [0]⟩
  refine RL.move v0 (cg ad) (RL.move (vi aa) (cg ad) (RL.fY (hg:=(cg ad)) aa 1 ?_))
  obtain⟨aj,aq,hj⟩:=bd hj
  refine RL.bP (hg:=(cg ad)) 0 j eC aq fun a2 j=>(RL.bE (hg:=(cg ad)) aj 0 j cI (RL.move (vi p1) (cg ad) (RL.kX aj p1 (cg ad) (fq ad (vb (aj==p1)) (RL.nil ?_)))))
  obtain rfl:=oi hj
  exact⟨rfl,j.sp 2 [1]⟩
 rintro _ w ⟨O,rfl,j⟩
 refine aH (dQ o (fun hc o=>?_) fun hc o=>?_)
 ·refine RC.sr (mv v0 (aQ v0 (RL.nt (RC.rt ?_))))
  obtain rfl:=oi o
  exact bX (j.pk 1 [0])
 refine RC.sx (aQ (.slice none 0 0) (RL.ns (mv (.slice none 0 0) (mv v0 (mv (vi aa) ?_)))))
 obtain⟨a3,ar,o⟩:=bd o
 refine RL.cut (hl:= .inr ⟨rfl,zr⟩) 0 j eC (.inl zr) ar fun a4 j=>?_
 have j:=j.cW Int 3
 obtain⟨a5,au,o⟩:=bd o
 refine RL.app 0 1 j q7 au fun ak w j=>?_
 refine aQ ak (RL.ns (mv ak (mv (vi p1) ?_)))
 have j:=j.sc Int p1
 refine RL.dY ([p1]: (List Int)) j [(vi p1)] eC CI (fun M hs g=>⟨(g.sat 0 _ zr).1,zt⟩) fun a6 w j=>?_
 have j:=j.freeze 0
 obtain⟨a7,av,o⟩:=bd o
 refine RL.app 2 0 j q7 av fun al w j=>?_
 refine aQ al (RL.ns (mv al (mv v0 (mv (vi aa) ?_))))
 obtain⟨a8,aw,o⟩:=bd o
 refine RL.cut 4 j eC (.inr ⟨rfl,zr⟩) aw fun a9 j=>?_
 obtain⟨ba,ax,o⟩:=bd o
 refine RL.app 3 0 j q7 ax fun ay w j=>?_
 refine aQ ay (RL.nt (RC.ret ?_))
 obtain rfl:=oi o
 have j:=j.freeze 3
 exact bX (j.pk 6 [3])
def pO (E:World) (V:List HP) (b0:Nat) (v0_0 v0_1:Value) (v0_2 v0_3:Value) (v0_4 v0_5:Value) (v0_6 v0_7 v2:Value) (res: ((List Int)×(List Int)×(List dV))×(List Bool)) (v:Value) (w:World):Prop:=∃u0_0 u0_1 u0_2:Value,v= (.agg ([u0_0,u0_1,u0_2]:List Value).toArray)/\Holds E w ([rd u0_0 res.1.1,rd u0_1 res.1.2.1,own 29 u0_2 res.1.2.2,bc 74 b0 [v0_0,v0_1,v0_2,v0_3,v0_4,v0_5,v0_6,v0_7],own 4 v2 res.2]++V)
theorem pB {p0_7: (List (List Int))} {p2: (List Bool)} {res: ((List Int)×(List Int)×(List dV))×(List Bool)} (j:Holds E w (bc 74 b0 [v0_0,v0_1,v0_2,v0_3,v0_4,v0_5,v0_6,v0_7]::rd v0_7 p0_7::own 4 v2 p2::V)) (o:gv N p0_7 p1 p2=some res):
    Calls bN 68 [(vp b0 0),(vi p1),v2].toArray w (gL (pO E V b0 v0_0 v0_1 v0_2 v0_3 v0_4 v0_5 v0_6 v0_7 v2 res)):=by
 unfold gv at o
 refine enter Tryz.func68 zr zr (RC.sr (RL.uo zr j Hn zr fun ah w j=>?_))
 refine RL.ns (mv (vi p1) ?_)
 have j:=j.sc Int p1
 refine RL.dY ([p1]: (List Int)) j [(vi p1)] eC CI (fun M hs g=>⟨(g.sat 0 _ zr).1,zt⟩) fun au w j=>(RL.Es [(.slice none 0 0),(.slice none 0 0),(.slice none 0 0)] [au,(.slice none 0 0),(.slice none 0 0)] zr [(0,au)] zr Jt ⟨(iO 0 j),zt⟩ zr (RL.uo zr j Hn zr fun ai w j=>?_))
 refine RL.Bu (cs:=[au,(.slice none 0 0),(.slice none 0 0)]) 0 zt j zr zr zr (wY.all (⟨(iO 1 j),zr,zr,zt⟩:wY [au,(.slice none 0 0),(.slice none 0 0)])) Ds zr zr fun w j=>?_
 refine RL.ns (mv v2 (mv (vi p1) ?_))
 obtain⟨cm,a6,o⟩:=bd o
 refine RL.bV 6 j zr zr vS a6 ?_
 have j:=j.sc Bool true
 refine RL.gI (f:=(fun _ y=>y)) 7 0 j (jF 7 j a6 0) (bH a6).2.1 zr Fs.self zZ fun w j=>?_
 refine RL.ns (mv (vp b0 0) (RL.nilCheck zr (RL.aY zr tp (RL.bK 5 v0_7 j zj (RL.bF 6 p0_7 j F8 ?_)))))
 obtain⟨cn,b5,o⟩:=bd o
 refine RL.mk (p0_7.length:Int) j Ht MX b5 fun af w j=>?_
 refine aQ af (RL.ns (mv (vi p1) ?_))
 have j:=j.sc Int p1
 refine RL.dY ([p1]: (List Int)) j [(vi p1)] eC CI (fun M hs g=>⟨(g.sat 0 _ zr).1,zt⟩) fun bk w j=>(aQ bk (RL.nq (RC.sr (aQ (vi 0) (RL.nt ?_)))))
 obtain⟨cp,hN,o⟩:=bd o
 refine RC.iter (fun(ad: (List Bool)×(List Int)×(List Int)×(List Bool)×(List Int)×Int) U w=>∃bl bm bn:Value,SH E V [(0,vp b0 0),(2,v2),(6,vp ah 0),(7,vp ai 0),(8,af),(9,bn),(10,vi ad.2.2.2.2.2)] [bc 74 b0 [v0_0,v0_1,v0_2,v0_3,v0_4,v0_5,v0_6,v0_7],rd v0_7 p0_7,own 4 v2 ad.1,bc 104 ah [(.slice none 0 0),(.slice none 0 0),(.slice none 0 0)],bc 104 ai [bl,bm,(.slice none 0 0)],rd bl ad.2.1,rd bm ad.2.2.1,own 4 af ad.2.2.2.1,own 3 bn ad.2.2.2.2.1] U w) (fun(ad: (List Bool)×(List Int)×(List Int)×(List Bool)×(List Int)×Int) U w=>∃al an:Value,SH E V [(0,vp b0 0),(2,v2),(6,vp ah 0),(7,vp ai 0)] [bc 74 b0 [v0_0,v0_1,v0_2,v0_3,v0_4,v0_5,v0_6,v0_7],rd v0_7 p0_7,own 4 v2 ad.1,bc 104 ah [(.slice none 0 0),(.slice none 0 0),(.slice none 0 0)],bc 104 ai [al,an,(.slice none 0 0)],rd al ad.2.1,rd an ad.2.2.1,own 4 af ad.2.2.2.1] U w) (fun(r:Empty) _ _=>r.elim) hN ?_ ?_ ?_ ?_
 ·have j:=(j.freeze 5).x6 Int
  exact⟨au,(.slice none 0 0),bk,j.sp 12 [9,10,11,8,5,6,0,3,1]⟩
 ·rintro ad fl _ w ⟨bp,bq,br,O,rfl,j⟩ o
  refine RC.seq (RC.sr (mv (vi ad.2.2.2.2.2) (mv br (RL.fZ 8 ad.2.2.2.2.1 j mn (ic ad.2.2.2.2.2 ((ad.2.2.2.2.1.length:Int)) (RL.nt (dQ o (fun hc o=>?_) fun hc o=>?_)))))))
  rotate_left
  ·refine RC.ex ?_
   obtain rfl:=oi o
   exact⟨rfl,bp,bq,j.sp 9 [0,1,2,3,4,5,6,7]⟩
  refine RC.ss (RC.bs (aQ (vi 0) (RL.nt ?_)))
  obtain⟨cq,hN,o⟩:=bd o
  refine RC.iter (fun(aa: (List Bool)×(List Int)×(List Int)×(List Bool)×(List Int)×Int) U w=>∃bt bu bw:Value,SH E V [(0,vp b0 0),(2,v2),(6,vp ah 0),(7,vp ai 0),(8,af),(9,bw),(10,vi ad.2.2.2.2.2),(11,vi aa.2.2.2.2.2)] [bc 74 b0 [v0_0,v0_1,v0_2,v0_3,v0_4,v0_5,v0_6,v0_7],rd v0_7 p0_7,own 4 v2 aa.1,bc 104 ah [(.slice none 0 0),(.slice none 0 0),(.slice none 0 0)],bc 104 ai [bt,bu,(.slice none 0 0)],rd bt aa.2.1,rd bu aa.2.2.1,own 4 af aa.2.2.2.1,own 3 bw aa.2.2.2.2.1] U w) (fun(aa: (List Bool)×(List Int)×(List Int)×(List Bool)×(List Int)×Int) U w=>∃ay az a0:Value,SH E V [(0,vp b0 0),(2,v2),(6,vp ah 0),(7,vp ai 0),(8,af),(9,a0),(10,vi ad.2.2.2.2.2)] [bc 74 b0 [v0_0,v0_1,v0_2,v0_3,v0_4,v0_5,v0_6,v0_7],rd v0_7 p0_7,own 4 v2 aa.1,bc 104 ah [(.slice none 0 0),(.slice none 0 0),(.slice none 0 0)],bc 104 ai [ay,az,(.slice none 0 0)],rd ay aa.2.1,rd az aa.2.2.1,own 4 af aa.2.2.2.1,own 3 a0 aa.2.2.2.2.1] U w) (fun(r:Empty) _ _=>r.elim) hN ?_ ?_ ?_ ?_
  ·exact⟨bp,bq,br,j.sp 9 [0,1,2,3,4,5,6,7,8]⟩
  ·rintro aa fl _ w ⟨aw,aq,ar,O,rfl,j⟩ o
   refine RC.seq (RC.sr (mv (vi aa.2.2.2.2.2) (mv (vp b0 0) (RL.nilCheck zr (RL.aY zr tp (RL.bK 0 v0_7 j zj (RL.bF 1 p0_7 j F8 (ic aa.2.2.2.2.2 ((p0_7.length:Int)) ?_))))))))
   refine RL.nt (dQ o (fun hc o=>?_) fun hc o=>?_)
   rotate_left
   ·refine RC.ex ?_
    obtain rfl:=oi o
    exact⟨rfl,aw,aq,ar,j.sp 9 [0,1,2,3,4,5,6,7,8]⟩
   refine RC.ss (RC.block (RC.seq (RC.seq ?_)))
   obtain⟨a7,hj,o⟩:=bd o
   refine RC.jn (fun(a7:Bool)=>SH E V [(0,vp b0 0),(2,v2),(6,vp ah 0),(7,vp ai 0),(8,af),(9,ar),(10,vi ad.2.2.2.2.2),(11,vi aa.2.2.2.2.2),(61,vb a7)] [bc 74 b0 [v0_0,v0_1,v0_2,v0_3,v0_4,v0_5,v0_6,v0_7],rd v0_7 p0_7,own 4 v2 aa.1,bc 104 ah [(.slice none 0 0),(.slice none 0 0),(.slice none 0 0)],bc 104 ai [aw,aq,(.slice none 0 0)],rd aw aa.2.1,rd aq aa.2.2.1,own 4 af aa.2.2.2.1,own 3 ar aa.2.2.2.2.1]) a7 ?_ ?_
   ·refine RC.ug mixed [0,0,0,0,0,0,0,0,0,0,0,0,0,0,0,0,2,0,0] [0,1,2,3,4,5,6,7,8,9,10,11,12,13,14,15,16,17,18] ?_
    have j:=j.drew
    refine DP.e0 zr (mv af (aW zr (mv (vi aa.2.2.2.2.2) (aW zr ?_))))
    obtain⟨b6,a8,hj⟩:=bd hj
    refine RL.bV 7 j zr zr vS a8 (aW zr (RL.dH (f:=(fun x=>x)) 7 j (jF 7 j a8 0) (bH a8).2.1 Fd.self zZ (aW zr (mv (vb b6) (DP.d0 (eZ hj (fun ab hj=>?_) fun ab hj=>?_))))))
    ·refine DP.e0 zr (bC ab (aW zr (bC ab (aW zr (bC ab (aW zr (bC ab (aW zr ?_))))))))
     refine bC ab (aW zr (bC ab (aW zr (bC ab (aW zr (bC ab (aW zr (bC ab ?_))))))))
     refine aW zr (bC ab (aW zr (bC ab (ou zr (bC ab (qz zr (bC ab (aW zr ?_))))))))
     refine fq ab (vb true) (DP.d0 (DP.z ?_))
     obtain rfl:=oi hj
     exact⟨rfl,j.sp 9 [0,1,2,3,4,5,6,7,8]⟩
    refine DP.e0 zr (RL.move (vp b0 0) (cg ab) (aW zr (RL.nilCheck (hg:=(cg ab)) zr (aW zr (RL.aY (hg:=(cg ab)) zr tp (aW zr (RL.bK (hg:=(cg ab)) 0 v0_7 j zj (aW zr ?_))))))))
    refine RL.move (vi aa.2.2.2.2.2) (cg ab) (aW zr ?_)
    obtain⟨b7,b8,hj⟩:=bd hj
    refine RL.bP (hg:=(cg ab)) 1 j z5 b8 fun cr j=>(aW zr (RL.bJ (hg:=(cg ab)) 0 b7 j fu fun b9 j=>(aW zr (RL.move ar (cg ab) (aW zr (RL.move (vi ad.2.2.2.2.2) (cg ab) (aW zr ?_)))))))
    obtain⟨bx,a9,hj⟩:=bd hj
    refine RL.bV (hg:=(cg ab)) 10 j zr zr eC a9 (aW zr (RL.dH (hg:=(cg ab)) (f:=(fun x=>x)) 10 j (jF 10 j a9 0) (bH a9).2.1 Fd.self cI (ou zr ?_)))
    obtain⟨bz,ca,hj⟩:=bd hj
    refine RL.call (cg ab) zr EJ [b9,(vi bx)] zr (aD (eD N (p1:=bx) (i0:=0) j zr ca) ?_)
    rintro _ w ⟨rfl,j⟩
    refine qz zr (RL.not (hg:=(cg ab)) bz (aW zr (fq ab (vb (!bz)) (DP.d0 (DP.z ?_)))))
    obtain rfl:=oi hj
    exact⟨rfl,j.sp 11 [2,3,4,5,6,7,8,9,10]⟩
   rintro _ w ⟨O,rfl,j⟩
   refine aH (dQ o (fun hc o=>?_) fun hc o=>?_)
   ·refine RC.ex (GU (aH (RC.region (mv (vi aa.2.2.2.2.2) (RL.fY aa.2.2.2.2.2 1 (aQ (vi (IntKind.wrap .i64 (aa.2.2.2.2.2+1))) (RL.nil ?_)))))))
    obtain rfl:=oi o
    exact⟨rfl,aw,aq,ar,j.sp 9 [0,1,2,3,4,5,6,7,8]⟩
   refine RC.sx (mv af (mv (vi aa.2.2.2.2.2) ?_))
   obtain⟨ct,ba,o⟩:=bd o
   refine RL.bV 7 j zr zr vS ba ?_
   have j:=j.sc Bool true
   refine RL.gI (f:=(fun _ y=>y)) 8 0 j (jF 8 j ba 0) (bH ba).2.1 zr Fs.self zZ fun w j=>?_
   refine RL.ns (RL.aY zr tm (RL.bK 5 aq j fu (mv (vi aa.2.2.2.2.2) ?_)))
   obtain⟨bb,cb,o⟩:=bd o
   refine RL.call zt zr Ju [aq,(vi aa.2.2.2.2.2)] zr (aD (oh N (p1:=aa.2.2.2.2.2) (i0:=7) j zr cb) ?_)
   rintro ao w j
   refine RL.aY zr tm (RL.iu 6 ao j zr zr (nH 0 j) fu fun w j=>?_)
   refine RL.ns (aQ (vi 0) (RL.nt ?_))
   obtain⟨cu,hN,o⟩:=bd o
   refine RC.iter (fun(ag: (List Bool)×(List Int)×(List Int)×Int) U w=>∃b1 b2:Value,SH E V [(0,vp b0 0),(2,v2),(6,vp ah 0),(7,vp ai 0),(8,af),(9,b2),(10,vi ad.2.2.2.2.2),(11,vi aa.2.2.2.2.2),(12,vi ag.2.2.2)] [bc 74 b0 [v0_0,v0_1,v0_2,v0_3,v0_4,v0_5,v0_6,v0_7],rd v0_7 p0_7,own 4 v2 ag.1,bc 104 ah [(.slice none 0 0),(.slice none 0 0),(.slice none 0 0)],bc 104 ai [b1,ao,(.slice none 0 0)],rd b1 ag.2.1,rd ao bb,own 4 af (aa.2.2.2.1.set (Int.toNat aa.2.2.2.2.2) true),own 3 b2 ag.2.2.1] U w) (fun(ag: (List Bool)×(List Int)×(List Int)×Int) U w=>∃a1 a2:Value,SH E V [(0,vp b0 0),(2,v2),(6,vp ah 0),(7,vp ai 0),(8,af),(9,a2),(10,vi ad.2.2.2.2.2),(11,vi aa.2.2.2.2.2)] [bc 74 b0 [v0_0,v0_1,v0_2,v0_3,v0_4,v0_5,v0_6,v0_7],rd v0_7 p0_7,own 4 v2 ag.1,bc 104 ah [(.slice none 0 0),(.slice none 0 0),(.slice none 0 0)],bc 104 ai [a1,ao,(.slice none 0 0)],rd a1 ag.2.1,rd ao bb,own 4 af (aa.2.2.2.1.set (Int.toNat aa.2.2.2.2.2) true),own 3 a2 ag.2.2.1] U w) (fun(r:Empty) _ _=>r.elim) hN ?_ ?_ ?_ ?_
   ·exact⟨aw,ar,j.sp 11 [2,3,4,5,6,7,0,9,10]⟩
   ·rintro ag fl _ w ⟨a3,bf,O,rfl,j⟩ o
    refine RC.seq (RC.sr (mv (vi ag.2.2.2) (mv (vp b0 0) (RL.nilCheck zr (RL.aY zr tp (RL.bK 0 v0_7 j zj (mv (vi aa.2.2.2.2.2) ?_)))))))
    obtain⟨bg,cc,o⟩:=bd o
    refine RL.bP 1 j z5 cc fun cv j=>(RL.bJ 0 bg j fu fun cw j=>(RL.bF 0 bg j mn (ic ag.2.2.2 ((bg.length:Int)) (RL.nt (dQ o (fun hc o=>?_) fun hc o=>?_)))))
    rotate_left
    ·refine RC.ex ?_
     obtain rfl:=oi o
     exact⟨rfl,a3,bf,j.sp 11 [2,3,4,5,6,7,8,9,10]⟩
    refine RC.ss (RC.bs (mv (vp b0 0) (RL.nilCheck zr (RL.aY zr tp (RL.bK 2 v0_7 j zj (mv (vi aa.2.2.2.2.2) ?_))))))
    obtain⟨cd,cf,o⟩:=bd o
    refine RL.bP 3 j z5 cf fun cx j=>(RL.bJ 0 cd j fu fun cy j=>(mv (vi ag.2.2.2) ?_))
    obtain⟨aj,ch,o⟩:=bd o
    refine RL.bP 0 j eC ch fun cz j=>(RL.bE aj 0 j cI (aQ (vi aj) (RL.ns (mv v2 (mv (vi aj) ?_)))))
    obtain⟨cj,bh,o⟩:=bd o
    refine RL.bV 7 j zr zr vS bh (RL.dH (f:=(fun x=>x)) 7 j (jF 7 j bh 0) (bH bh).2.1 Fd.self zZ (RL.not cj (RL.nt ?_)))
    obtain⟨ax,hj,o⟩:=bd o
    refine RC.jn (fun(ax: (List Bool)×(List Int)×(List Int)) U w=>∃a4 a5:Value,SH E V [(0,vp b0 0),(2,v2),(6,vp ah 0),(7,vp ai 0),(8,af),(9,a5),(10,vi ad.2.2.2.2.2),(11,vi aa.2.2.2.2.2),(12,vi ag.2.2.2)] [bc 74 b0 [v0_0,v0_1,v0_2,v0_3,v0_4,v0_5,v0_6,v0_7],rd v0_7 p0_7,own 4 v2 ax.1,bc 104 ah [(.slice none 0 0),(.slice none 0 0),(.slice none 0 0)],bc 104 ai [a4,ao,(.slice none 0 0)],rd a4 ax.2.1,rd ao bb,own 4 af (aa.2.2.2.1.set (Int.toNat aa.2.2.2.2.2) true),own 3 a5 ax.2.2] U w) ax ?_ ?_
    ·refine dQ hj (fun hc hj=>?_) fun hc hj=>?_
     rotate_left
     ·refine RC.skip ?_
      obtain rfl:=oi hj
      exact⟨rfl,a3,bf,j.sp 14 [5,6,7,8,9,10,11,12,13]⟩
     refine RC.sr (mv v2 (mv (vi aj) ?_))
     obtain⟨c0,bj,hj⟩:=bd hj
     refine RL.bV 7 j zr zr vS bj ?_
     have j:=j.sc Bool true
     refine RL.gI (f:=(fun _ y=>y)) 8 0 j (jF 8 j bj 0) (bH bj).2.1 zr Fs.self zZ fun w j=>?_
     refine RL.ns (RL.aY zr pY (RL.bK 10 a3 j fu (mv (vi aj) ?_)))
     obtain⟨c1,ck,hj⟩:=bd hj
     refine RL.call zt zr Ju [a3,(vi aj)] zr (aD (oh N (p1:=aj) (i0:=11) j zr ck) ?_)
     rintro b3 w j
     refine RL.aY zr pY (RL.iu 11 b3 j zr zr (nH 0 j) fu fun w j=>?_)
     refine RL.nt (RC.region (mv bf (mv (vi aj) ?_)))
     have j:=j.sc Int aj
     refine RL.dY ([aj]: (List Int)) j [(vi aj)] eC CI (fun M hs g=>⟨(g.sat 0 _ zr).1,zt⟩) fun c2 w j=>?_
     have j:=j.freeze 0
     obtain⟨c3,cl,hj⟩:=bd hj
     refine RL.app 17 0 j q7 cl fun b4 w j=>?_
     refine aQ b4 (RL.nil ?_)
     obtain rfl:=oi hj
     exact⟨rfl,b3,b4,j.sp 18 [9,10,11,12,13,2,15,16,17]⟩
    rintro _ w ⟨a4,a5,O,rfl,j⟩
    refine bQ (aH (RC.region (mv (vi ag.2.2.2) (RL.fY ag.2.2.2 1 (aQ (vi (IntKind.wrap .i64 (ag.2.2.2+1))) (RL.nil ?_))))))
    obtain rfl:=oi o
    exact⟨rfl,a4,a5,j.sp 9 [0,1,2,3,4,5,6,7,8]⟩
   ·intro r _ _ _ _
    exact r.elim
   rintro ag _ w rfl ⟨a1,a2,O,rfl,j⟩
   rw [Fo.dB] at o
   refine bQ (aH (RC.region (mv (vi aa.2.2.2.2.2) (RL.fY aa.2.2.2.2.2 1 (aQ (vi (IntKind.wrap .i64 (aa.2.2.2.2.2+1))) (RL.nil ?_))))))
   obtain rfl:=oi o
   exact⟨rfl,a1,ao,a2,j.sp 9 [0,1,2,3,4,5,6,7,8]⟩
  ·intro r _ _ _ _
   exact r.elim
  rintro aa _ w rfl ⟨ay,az,a0,O,rfl,j⟩
  rw [Fo.dB] at o
  refine bQ (aH (RC.region (mv (vi ad.2.2.2.2.2) (RL.fY ad.2.2.2.2.2 1 (aQ (vi (IntKind.wrap .i64 (ad.2.2.2.2.2+1))) (RL.nil ?_))))))
  obtain rfl:=oi o
  exact⟨rfl,ay,az,a0,j.sp 9 [0,1,2,3,4,5,6,7,8]⟩
 ·intro r _ _ _ _
  exact r.elim
 rintro ad _ w rfl ⟨al,an,O,rfl,j⟩
 rw [Fo.dB] at o
 refine aH (RC.sr (RL.C6 (cs:=[al,an,(.slice none 0 0)]) 4 zt zr j zr zr Ds zr (RL.Bu (cs:=[al,an,(.slice none 0 0)]) 3 zt j zr zr zr (wY.all (⟨(nH 5 j),(nH 6 j),zr,zt⟩:wY [al,an,(.slice none 0 0)])) Ds zr zr fun w j=>?_)))
 refine RL.nt (RC.ret ?_)
 obtain rfl:=oi o
 have j:=j.cW dV 29
 exact Kw (i:=4) (cs:=[al,an,(.slice none 0 0)]) zr j zr zr Ds zr ⟨al,an,(.slice none 0 0),zr,j.pk 9 [6,7,0,1,3]⟩
theorem nj {p0: (List aI)} {p1:jr} {res:Bool} (j:Holds E w V) (h0:V[i0]? =some (rd v0 p0)) (h1:V[i1]? =some (rd v1 p1)) (o:eO N p0 p1=some res):
    Calls bN 69 [v0,v1].toArray w (gL (aX E V res)):=by
 unfold eO at o
 refine enter Tryz.func69 zr zr ?_
 have j:=(j.dup (i0+0) h0).dup (i1+1) h1
 refine RC.sr (RL.cS 0 v1 j zr fun aa w j=>?_)
 refine aQ (vb false) (RL.nq ?_)
 have j:=j.drew
 refine RC.EB (fun w=>Holds E w ([bx 52 aa p1]++V)) mixed zr [0,0,0,2,1,1,2,0] [0,1,2,4,5,3,6,7] (j.pk 3 [0]) (DP.e0 zr (mv v0 (aW zr (RL.aY zr wm (aW zr (RL.aM 0 j zr nP cI (DP.d0 (DP.e1 (vp aa 0) zr (fun w=>RL.aY zr wk DP.d1) ?_))))))))
 refine DP.Iy (vi p1.X) zr (fun w j=>RL.aM 0 j zr nO cI DP.d1) (DP.e2 zr ?_)
 obtain⟨ag,ab,o⟩:=bd o
 refine RL.call zt zr Fw [v0,(vi p1.Y)] zr (aD (kM N (p1:=p1.Y) (i0:=2) j zr ab) ?_)
 rintro ad w j
 refine DP.d2 (j.pk 4 [1]) (DP.e2 zr ?_)
 have j:=j.freeze 0
 obtain⟨ae,af,o⟩:=bd o
 refine RL.call zt zr Hs [ad,(vi p1.X)] zr (aD (lq N (p1:=p1.X) (i0:=0) j zr af) ?_)
 rintro _ w ⟨rfl,j⟩
 refine DP.d2 (j.pk 4 [1]) (DP.e0 zr (aQ (vb ae) (DP.d0 (DP.z (aH (RC.ret ?_))))))
 obtain rfl:=oi o
 exact bX ⟨rfl,j.drop 4⟩
def mi (E:World) (V:List HP) (b0:Nat) (v0_0 v0_1:Value) (v0_2 v0_3:Value) (v0_4 v0_5:Value) (v0_6 v0_7:Value) (res:j8×Bool) (v:Value) (w:World):Prop:=∃u0:Value,v = .tuple #[u0,(vb res.2)]/\Holds E w ([rd u0 res.1,bc 74 b0 [v0_0,v0_1,v0_2,v0_3,v0_4,v0_5,v0_6,v0_7]]++V)
def mj (E:World) (V:List HP) (b0:Nat) (v0_0 v0_1:Value) (v0_2 v0_3:Value) (v0_4 v0_5:Value) (v0_6 v0_7:Value) (r:j8×Bool) (U:Nat->Value) (w:World):Prop:=lF bN 91 Tryz.f35 (mi E V b0 v0_0 v0_1 v0_2 v0_3 v0_4 v0_5 v0_6 v0_7 r) .ret U w
theorem lQ {p0_2: (List bZ)} {p0_4: (List Int)} {p0_5: (List (List aI))} {p1:eM} {res:j8×Bool} (j:Holds E w (bc 74 b0 [v0_0,v0_1,v0_2,v0_3,v0_4,v0_5,v0_6,v0_7]::rd v0_2 p0_2::rd v0_4 p0_4::rd v0_5 p0_5::V)) (h1:V[i1]? =some (rd v1 p1)) (o:fF N p0_2 p0_4 p0_5 p1=some res):
    Calls bN 35 [(vp b0 0),v1].toArray w (gL (mi E V b0 v0_0 v0_1 v0_2 v0_3 v0_4 v0_5 v0_6 v0_7 res)):=by
 unfold fF at o
 refine enter Tryz.func35 zr zr ?_
 have j:=j.dup (i1+4) h1
 refine RC.sr (RL.cS 0 v1 j zr fun ai w j=>?_)
 have j:=j.jI (i:=0) rfl
 refine RL.alloc j F9.z fun ah w j=>?_
 refine aQ (vb false) (RL.nq (RC.sr (aQ (vi 0) (RL.nt ?_))))
 obtain⟨bp,hN,o⟩:=bd o
 refine RC.iter (fun(ag:Int)=>SH E V [(0,vp b0 0),(3,vp ai 0),(4,vp ah 0),(6,vi ag)] [bc 74 b0 [v0_0,v0_1,v0_2,v0_3,v0_4,v0_5,v0_6,v0_7],rd v0_2 p0_2,rd v0_4 p0_4,rd v0_5 p0_5,pt (vp ai 0) p1,raw 78 ah 2]) (fun(ag:Int)=>SH E V [(0,vp b0 0),(3,vp ai 0),(4,vp ah 0)] [bc 74 b0 [v0_0,v0_1,v0_2,v0_3,v0_4,v0_5,v0_6,v0_7],rd v0_2 p0_2,rd v0_4 p0_4,rd v0_5 p0_5,pt (vp ai 0) p1,raw 78 ah 2]) (mj E V b0 v0_0 v0_1 v0_2 v0_3 v0_4 v0_5 v0_6 v0_7) hN ?_ ?_ ?_ ?_
 ·exact j.sp 7 [3,4,5,6,1,0]
 ·rintro ag fl _ w ⟨O,rfl,j⟩ o
  refine RC.seq (RC.sr (mv (vi ag) (mv (vp b0 0) (RL.nilCheck zr (RL.aY zr uB (RL.bK 0 v0_5 j pJ (RL.bF 3 p0_5 j qC (ic ag ((p0_5.length:Int)) ?_))))))))
  refine RL.nt (dQ o (fun hc o=>?_) fun hc o=>?_)
  rotate_left
  ·refine RC.ex ?_
   obtain rfl:=oi o
   exact⟨rfl,j.sp 6 [0,1,2,3,4,5]⟩
  refine RC.ss (RC.block (RC.seq ?_))
  obtain⟨al,hj,o⟩:=bd o
  refine RC.jn (fun(al:Bool)=>SH E V [(0,vp b0 0),(3,vp ai 0),(4,vp ah 0),(6,vi ag),(38,vb al)] [bc 74 b0 [v0_0,v0_1,v0_2,v0_3,v0_4,v0_5,v0_6,v0_7],rd v0_2 p0_2,rd v0_4 p0_4,rd v0_5 p0_5,pt (vp ai 0) p1,raw 78 ah 2]) al ?_ ?_
  ·refine RC.ug mixed [0,0,0,0,0,0,0,0,0,0,0,0,0,0,0,0,0,0,0,0,2,0] [0,1,2,3,4,5,6,7,8,9,10,11,12,13,14,15,16,17,18,19,20,21] ?_
   have j:=j.drew
   refine DP.e0 zr (mv (vp b0 0) (aW zr (RL.nilCheck zr (aW zr (RL.aY zr z6 (aW zr (RL.bK 0 v0_4 j fu (aW zr ?_))))))))
   refine mv (vi ag) (aW zr ?_)
   obtain⟨an,aw,hj⟩:=bd hj
   refine RL.bP 2 j eC aw fun bq j=>(aW zr (RL.bE an 0 j cI (aW zr (RL.dP 5 j zr ye qp fun br j=>(aW zr (RL.bE p1.cT 0 j cI (aW zr (ic an p1.cT ?_))))))))
   refine aW zr (mv (vb (an==p1.cT)) (DP.d0 (eZ hj (fun ae hj=>?_) fun ae hj=>?_)))
   rotate_left
   ·refine DP.e0 zr (bC ae (aW zr (bC ae (aW zr (bC ae (aW zr (bC ae (aW zr ?_))))))))
    refine bC ae (aW zr (bC ae (aW zr (bC ae (aW zr (bC ae (aW zr (bC ae ?_))))))))
    refine ou zr (bC ae (qz zr (fq ae (vb false) (DP.d0 (DP.z ?_)))))
    obtain rfl:=oi hj
    exact⟨rfl,j.sp 8 [2,3,4,5,6,7]⟩
   refine DP.e0 zr (RL.move (vp b0 0) (cg ae) (aW zr (RL.nilCheck (hg:=(cg ae)) zr (aW zr (RL.aY (hg:=(cg ae)) zr uB (aW zr (RL.bK (hg:=(cg ae)) 2 v0_5 j pJ (aW zr ?_))))))))
   refine RL.move (vi ag) (cg ae) (aW zr ?_)
   obtain⟨ax,ay,hj⟩:=bd hj
   refine RL.bP (hg:=(cg ae)) 5 j uy ay fun bs j=>(aW zr (RL.bJ (hg:=(cg ae)) 0 ax j tW fun az j=>(aW zr (RL.dP (hg:=(cg ae)) 8 j zr yf qq fun bt j=>(aW zr (RL.bJ (hg:=(cg ae)) 0 p1.At j Dn fun a0 j=>(ou zr ?_)))))))
   obtain⟨a1,a2,hj⟩:=bd hj
   refine RL.call (cg ae) zr Lt [az,a0] zr (aD (nj N (i0:=2) (i1:=0) j zr zr a2) ?_)
   rintro _ w ⟨rfl,j⟩
   refine qz zr (fq ae (vb a1) (DP.d0 (DP.z ?_)))
   obtain rfl:=oi hj
   exact⟨rfl,j.sp 12 [6,7,8,9,10,11]⟩
  rintro _ w ⟨O,rfl,j⟩
  refine aH (dQ o (fun hc o=>?_) fun hc o=>?_)
  rotate_left
  ·refine RC.skip (bQ (aH (RC.region (mv (vi ag) (RL.fY ag 1 (aQ (vi (IntKind.wrap .i64 (ag+1))) (RL.nil ?_)))))))
   obtain rfl:=oi o
   exact⟨rfl,j.sp 6 [0,1,2,3,4,5]⟩
  refine RC.sr (mv (vi ag) ?_)
  have j:=j.sc Int ag
  refine RL.build (⟨false,ag⟩:j8) trivial rfl j [(1,vi ag)] rfl Ga rfl (fun M hs g=>by have h:=BE M;exact cU.cons (f:=fun(x:j8) y=>{x with Number:=y}) h xg (g.sat 0 _ rfl).1 fun _ h=>cU.nil h) fun bu j=>?_
  refine RL.cC 7 j 0 zr tn fun w j=>?_
  refine aQ (vb true) (RL.nt (RC.rb (bS ?_)))
  obtain rfl:=oi o
  exact⟨rfl,wV 7 j tn fun a3 j=>⟨a3,zr,j.pk 9 [0,3]⟩⟩
 ·intro r U w e hK
  subst e
  refine bS ?_
  obtain rfl:=oi o
  exact hK
 rintro ag _ w rfl ⟨O,rfl,j⟩
 rw [Fo.dB] at o
 refine aH (RC.seq (RC.sr (aQ (vi 0) (RL.nt ?_))))
 obtain⟨bw,hN,o⟩:=bd o
 refine RC.iter (fun(af:Int)=>SH E V [(0,vp b0 0),(3,vp ai 0),(4,vp ah 0),(7,vi af)] [bc 74 b0 [v0_0,v0_1,v0_2,v0_3,v0_4,v0_5,v0_6,v0_7],rd v0_2 p0_2,rd v0_4 p0_4,rd v0_5 p0_5,pt (vp ai 0) p1,raw 78 ah 2]) (fun(af:Int)=>SH E V [(0,vp b0 0),(4,vp ah 0)] [bc 74 b0 [v0_0,v0_1,v0_2,v0_3,v0_4,v0_5,v0_6,v0_7],rd v0_2 p0_2,rd v0_4 p0_4,rd v0_5 p0_5,pt (vp ai 0) p1,raw 78 ah 2]) (mj E V b0 v0_0 v0_1 v0_2 v0_3 v0_4 v0_5 v0_6 v0_7) hN ?_ ?_ ?_ ?_
 ·exact j.sp 6 [0,1,2,3,4,5]
 ·rintro af fl _ w ⟨O,rfl,j⟩ o
  refine RC.seq (RC.sr (mv (vi af) (mv (vp b0 0) (RL.nilCheck zr (RL.aY zr wv (RL.aY zr ik (RL.bK 0 v0_2 j nQ (RL.bF 1 p0_2 j wj ?_))))))))
  refine ic af ((p0_2.length:Int)) (RL.nt (dQ o (fun hc o=>?_) fun hc o=>?_))
  rotate_left
  ·refine RC.ex ?_
   obtain rfl:=oi o
   exact⟨rfl,j.sp 6 [0,1,2,3,4,5]⟩
  refine RC.ss (RC.block (RC.seq ?_))
  obtain⟨aq,hj,o⟩:=bd o
  refine RC.jn (fun(aq:Bool)=>SH E V [(0,vp b0 0),(3,vp ai 0),(4,vp ah 0),(7,vi af),(87,vb aq)] [bc 74 b0 [v0_0,v0_1,v0_2,v0_3,v0_4,v0_5,v0_6,v0_7],rd v0_2 p0_2,rd v0_4 p0_4,rd v0_5 p0_5,pt (vp ai 0) p1,raw 78 ah 2]) aq ?_ ?_
  ·refine RC.ug mixed [0,0,0,0,0,0,0,0,0,0,0,0,0,0,0,0,0,0,0,0,2,0,0,0,0,0,0,0,0,0,0,2,2,1,1,2,0] [0,1,2,3,4,5,6,7,8,9,10,11,12,13,14,15,16,17,18,19,20,21,22,23,24,25,26,27,28,29,30,33,34,31,32,35,36] ?_
   have j:=j.drew
   refine DP.e0 zr (mv (vp b0 0) (aW zr (RL.nilCheck zr (aW zr (RL.aY zr wv (aW zr (RL.aY zr ik (aW zr ?_))))))))
   refine RL.bK 0 v0_2 j nQ (aW zr (mv (vi af) (aW zr ?_)))
   obtain⟨ar,a4,hj⟩:=bd hj
   refine RL.bP 1 j qD a4 fun bx j=>(aW zr (RL.dP 0 j zr yh qo fun bz j=>(aW zr (RL.bE ar.fS 0 j zZ (aW zr (mv (vb ar.fS) (DP.d0 (eZ hj (fun ad hj=>?_) fun ad hj=>?_))))))))
   rotate_left
   ·refine DP.e0 zr (bC ad (aW zr (bC ad (aW zr (bC ad (aW zr (bC ad (aW zr ?_))))))))
    refine bC ad (aW zr (bC ad (aW zr (bC ad (aW zr (bC ad (aW zr (bC ad ?_))))))))
    refine aW zr (bC ad (ou zr (bC ad (qz zr (fq ad (vb false) (aW zr (mv (vb false) (aW zr ?_))))))))
    refine kp (aW zr (kp (aW zr (kp (aW zr (kp (aW zr (kp ?_))))))))
    refine aW zr (kp (aW zr (kp (aW zr (kp (DP.d0 (DP.e1 undef zr (fun w=>kp DP.d1) (DP.e1 undef zr (fun w=>kp DP.d1) ?_))))))))
    refine DP.e2 zr (kp (Fq zr (kp (Fq zr (kp (qz zr (RL.pick false (vb false) zr (DP.d0 ?_))))))))
    refine DP.z ?_
    obtain rfl:=oi hj
    exact⟨rfl,j.sp 8 [2,3,4,5,6,7]⟩
   refine DP.e0 zr (RL.move (vp b0 0) (cg ad) (aW zr (RL.nilCheck (hg:=(cg ad)) zr (aW zr (RL.aY (hg:=(cg ad)) zr wv (aW zr (RL.aY (hg:=(cg ad)) zr ik (aW zr ?_))))))))
   refine RL.bK (hg:=(cg ad)) 2 v0_2 j nQ (aW zr (RL.move (vi af) (cg ad) (aW zr ?_)))
   obtain⟨a5,a6,hj⟩:=bd hj
   refine RL.bP (hg:=(cg ad)) 3 j qD a6 fun b1 j=>(aW zr (RL.bJ (hg:=(cg ad)) 0 a5 j ma fun a7 j=>(aW zr (RL.dP (hg:=(cg ad)) 8 j zr ye qp fun b2 j=>(aW zr (RL.bE (hg:=(cg ad)) p1.cT 0 j cI (ou zr ?_)))))))
   obtain⟨au,a8,hj⟩:=bd hj
   refine RL.call (cg ad) zr IG [a7,(vi p1.cT)] zr (aD (jt N (p1:=p1.cT) (i0:=1) j zr a8) ?_)
   rintro _ w ⟨rfl,j⟩
   refine qz zr (fq ad (vb au) (aW zr (mv (vb au) (DP.d0 (eZ hj (fun ab hj=>?_) fun ab hj=>?_)))))
   rotate_left
   ·refine DP.e0 zr (bC ab (aW zr (bC ab (aW zr (bC ab (aW zr (bC ab (aW zr ?_))))))))
    refine bC ab (aW zr (bC ab (aW zr (bC ab (aW zr (bC ab (DP.d0 (DP.e1 undef zr (fun w=>bC ab DP.d1) ?_))))))))
    refine DP.e1 undef zr (fun w=>bC ab DP.d1) (DP.e2 zr (bC ab (Fq zr (bC ab (Fq zr (bC ab (qz zr (fq ab (vb false) ?_))))))))
    refine DP.d0 (DP.z ?_)
    obtain rfl:=oi hj
    exact⟨rfl,j.sp 11 [5,6,7,8,9,10]⟩
   refine DP.e0 zr (RL.move (vp b0 0) (cg ab) (aW zr (RL.nilCheck (hg:=(cg ab)) zr (aW zr (RL.aY (hg:=(cg ab)) zr wv (aW zr (RL.aY (hg:=(cg ab)) zr ik (aW zr ?_))))))))
   refine RL.bK (hg:=(cg ab)) 5 v0_2 j nQ (aW zr (RL.move (vi af) (cg ab) (aW zr ?_)))
   obtain⟨a9,ba,hj⟩:=bd hj
   refine RL.bP (hg:=(cg ab)) 6 j qD ba fun b3 j=>(aW zr (RL.bJ (hg:=(cg ab)) 0 a9 j ma fun bb j=>(DP.d0 (DP.Bc 11 zr (cg ab) j zr yf qq fun b4 j=>(DP.wi p1.At 0 zr (cg ab) j Dn fun bf a279 b5 j=>(DP.e2 zr ?_))))))
   obtain⟨bg,bh,hj⟩:=bd hj
   refine RL.call (cg ab) zr Gb [bb] zr (aD (fH N (i0:=3) j zr bh) ?_)
   rintro bj w j
   refine DP.d2 (⟨zt,j.gF 1⟩) (DP.e2 zr (RL.dY (hg:=(cg ab)) ([bg]: (List aI)) j [bj] jh oG (fun M hs g=>⟨(g.sat 0 _ zr).1,zt⟩) fun bk w j=>(DP.d2 (⟨zt,j.gF 2⟩) (DP.e2 zr ?_))))
   have j:=j.freeze 0
   obtain⟨bl,bm,hj⟩:=bd hj
   refine RL.call (cg ab) zr Lt [bk,bf] zr (aD (nj N (i0:=0) (i1:=3) j zr zr bm) ?_)
   rintro _ w ⟨rfl,j⟩
   refine DP.d2 (⟨zt,j.gF 2⟩) (DP.e0 zr (fq ab (vb bl) (DP.d0 ?_)))
   have j:=j.pl 18 [0,1,3,4,5,6,7,8,9,10,11,12,13,14,15,16,17]
   refine DP.z ?_
   obtain rfl:=oi hj
   exact⟨rfl,j.sp 17 [11,12,13,14,15,16]⟩
  rintro _ w ⟨O,rfl,j⟩
  refine aH (dQ o (fun hc o=>?_) fun hc o=>?_)
  rotate_left
  ·refine RC.skip (bQ (aH (RC.region (mv (vi af) (RL.fY af 1 (aQ (vi (IntKind.wrap .i64 (af+1))) (RL.nil ?_)))))))
   obtain rfl:=oi o
   exact⟨rfl,j.sp 6 [0,1,2,3,4,5]⟩
  refine RC.sr (mv (vi af) ?_)
  have j:=(j.sc Bool true).sc Int af
  refine RL.build (⟨true,af⟩:j8) trivial rfl j [(0,vb true),(1,vi af)] rfl Ga rfl (fun M hs g=>by have h:=BE M;exact cU.cons (f:=fun(x:j8) y=>{x with bZ:=y}) h Dk (g.sat 1 _ rfl).1 fun _ h=>cU.cons (f:=fun(x:j8) y=>{x with Number:=y}) h xg (g.sat 0 _ rfl).1 fun _ h=>cU.nil h) fun b6 j=>?_
  refine RL.cC 8 j 0 zr tn fun w j=>?_
  refine aQ (vb true) (RL.nt (RC.rb (bS ?_)))
  obtain rfl:=oi o
  exact⟨rfl,wV 8 j tn fun bn j=>⟨bn,zr,j.pk 10 [0,4]⟩⟩
 ·intro r U w e hK
  subst e
  refine bS ?_
  obtain rfl:=oi o
  exact hK
 rintro af _ w rfl ⟨O,rfl,j⟩
 rw [Fo.dB] at o
 refine aH (RC.sr (RL.build (⟨false,0⟩:j8) trivial rfl j [] rfl Ga rfl (fun M hs g=>by have h:=BE M;exact cU.nil h) fun b7 j=>?_))
 refine RL.cC 6 j 0 zr tn fun w j=>?_
 refine aQ (vb false) (RL.nt (RC.ret ?_))
 obtain rfl:=oi o
 exact wV 6 j tn fun bo j=>⟨bo,zr,j.pk 8 [0,2]⟩
end Go.Gk
