/-
  Printed texts: Go functions as plain functions, and that they are. No statement of the seed is proved here.
-/
import Derived.Test.YtmmiladckdcjeadGreatDoorG1
import Derived.Test.YtmmiladckdcjeadGreatDoorG4
import Derived.Test.YtmmiladckdcjeadGreatDoorG5
import Derived.Test.YtmmiladckdcjeadGreatDoorG6
import Derived.Test.YtmmiladckdcjeadGreatDoorA2
set_option linter.unusedVariables false
set_option linter.unusedSimpArgs false
set_option linter.unusedSectionVars false
set_option maxRecDepth 100000
set_option maxHeartbeats 4000000
namespace Go.Gk
open Go Go.Proofs
variable (N:Nat) {E w:World} {b0 i0 i1:Nat} {p1 res:Int} {v0 v0_0 v0_1 v0_2 v0_3 v0_4 v0_5 v0_6 v0_7 v1 v2:Value} {V:List HP}
def kX (E:World) (V:List HP) (r:Int) (U:Nat->Value) (w:World):Prop:=lS bN 72 Tryz.f9 (aV E V r) .ret U w
theorem kx {p0:kH} (j:Holds E w V) (h0:V[i0]? =some (rd v0 p0)) (o:cU N p0=some res):
    Calls bN 9 [v0].toArray w (gQ (aV E V res)):=by
 unfold cU at o
 refine enter Tryz.func9 zr zr ?_
 have j:=j.dup (i0+0) h0
 refine RC.sr (RL.dK 0 v0 j zr fun af w j=>?_)
 have j:=j.lf (i:=0) rfl
 refine aP (vi 0) (RL.nq (RC.sr (RL.bF 0 p0 j rN fun au j=>?_)))
 obtain⟨ai,av,o⟩:=bd o
 refine RL.call zt zr Nb [au] zr (aD (qd N (i0:=0) j zr av) ?_)
 rintro _ w ⟨rfl,j⟩
 refine aP (vi ai) (RL.ns (mv (vi ai) (ic ai 0 (RL.nt (dX o (fun hc o=>?_) fun hc o=>?_)))))
 ·refine RC.sr (mv (vi ai) (aP (vi ai) (RL.nt (RC.rt ?_))))
  obtain rfl:=oi o
  exact bY ⟨rfl,j.drop 3⟩
 refine RC.ss (RC.sr (aP (vi 0) (RL.nt ?_)))
 obtain⟨bm,hN,o⟩:=bd o
 refine RC.iter (fun(ae:Int)=>SH E V [(1,vp af 0),(4,vi ae)] [pt (vp af 0) p0]) (fun(ae:Int)=>SH E V [(1,vp af 0)] [pt (vp af 0) p0]) (kX E V) hN ?_ ?_ ?_ ?_
 ·exact j.sp 3 [1]
 ·rintro ae fl _ w ⟨O,rfl,j⟩ o
  refine RC.seq (RC.sr (mv (vi ae) (RL.dN 0 j zr iw gU fun bn j=>(RL.bF 0 p0.aO j nQ fun bo j=>(RL.bC 0 p0.aO j wy (ic ae ((p0.aO.length:Int)) (RL.nt (dX o (fun hc o=>?_) fun hc o=>?_))))))))
  rotate_left
  ·refine RC.ex ?_
   obtain rfl:=oi o
   exact⟨rfl,j.sp 3 [2]⟩
  refine RC.ss (RC.bs (aP (vi 0) (RL.nt ?_)))
  obtain⟨bp,hN,o⟩:=bd o
  refine RC.iter (fun(ah:Int)=>SH E V [(1,vp af 0),(4,vi ae),(5,vi ah)] [pt (vp af 0) p0]) (fun(ah:Int)=>SH E V [(1,vp af 0),(4,vi ae)] [pt (vp af 0) p0]) (kX E V) hN ?_ ?_ ?_ ?_
  ·exact j.sp 3 [2]
  ·rintro ah fl _ w ⟨O,rfl,j⟩ o
   refine RC.seq (RC.sr (mv (vi ah) (mv (vi ae) (ic ah ae (RL.nt (dX o (fun hc o=>?_) fun hc o=>?_))))))
   rotate_left
   ·refine RC.ex ?_
    obtain rfl:=oi o
    exact⟨rfl,j.sp 1 [0]⟩
   refine RC.ss (RC.block (RC.seq ?_))
   obtain⟨an,hj,o⟩:=bd o
   refine RC.jn (fun(an:Bool)=>SH E V [(1,vp af 0),(4,vi ae),(5,vi ah),(51,vb an)] [pt (vp af 0) p0]) an ?_ ?_
   ·refine RC.vH mixed [0,0,0,0,0,0,0,0,0,0,2,0,0,0,0,0,0,2,1,1,1,1,1,2,2,0] [0,1,2,3,4,5,6,7,8,9,10,11,12,13,14,15,16,18,19,20,21,22,17,23,24,25] ?_
    have j:=j.drew
    refine DP.e0 zr (RL.dN 0 j zr iw gU fun bq j=>(aY zr (RL.bF 0 p0.aO j nQ fun br j=>(aY zr (mv (vi ae) (aY zr ?_))))))
    obtain⟨aw,ax,hj⟩:=bd hj
    refine RL.bM 0 j qE ax fun bt j=>(aY zr (RL.bF 0 aw j mf fun ay j=>(aY zr (RL.dN 4 j zr iw gU fun bu j=>(aY zr (RL.bF 0 p0.aO j nQ fun bw j=>(aY zr (mv (vi ah) ?_))))))))
    refine aY zr ?_
    obtain⟨az,a0,hj⟩:=bd hj
    refine RL.bM 0 j qE a0 fun bx j=>(aY zr (RL.bF 0 az j mf fun a1 j=>(oN zr ?_)))
    obtain⟨a2,a3,hj⟩:=bd hj
    refine RL.call zt zr Nc [ay,a1] zr (aD (sM N (i0:=4) (i1:=0) j zr zr a3) ?_)
    rintro _ w ⟨rfl,j⟩
    refine uh zr (mv (vb a2) (DP.d0 (fN hj (fun aa hj=>?_) fun aa hj=>?_)))
    rotate_left
    ·refine DP.e0 zr (bJ aa (aY zr (bJ aa (aY zr (bJ aa (aY zr (bJ aa (aY zr ?_))))))))
     refine bJ aa (DP.d0 (DP.e1 undef zr (fun w=>bJ aa DP.d1) (DP.e1 undef zr (fun w=>bJ aa DP.d1) (DP.e1 undef zr (fun w=>bJ aa DP.d1) (DP.e1 undef zr (fun w=>bJ aa DP.d1) (DP.e1 undef zr (fun w=>bJ aa DP.d1) (DP.e2 zr (bJ aa ?_))))))))
     refine FM zr (bJ aa (FM zr (bJ aa (uh zr (fU aa (vb false) (DP.d0 (DP.z ?_)))))))
     obtain rfl:=oi hj
     exact⟨rfl,j.sp 9 [8]⟩
    refine DP.e0 zr (RL.dN (hg:=(cg aa)) 8 j zr iw gU fun bz j=>(aY zr (RL.bF (hg:=(cg aa)) 0 p0.aO j nQ fun b0 j=>(aY zr (RL.move (vi ae) (cg aa) (aY zr ?_))))))
    obtain⟨a4,a5,hj⟩:=bd hj
    refine RL.bM (hg:=(cg aa)) 0 j qE a5 fun b1 j=>(aY zr (RL.bF (hg:=(cg aa)) 0 a4 j mf fun a6 j=>(DP.d0 (DP.Cq 12 zr (cg aa) j zr iw gU fun b2 j=>(DP.yj p0.aO 0 zr (cg aa) j nQ fun b3 a704 b4 j=>(DP.e1 (vi ah) zr (fun w=>RL.move (vi ah) (cg aa) DP.d1) ?_))))))
    obtain⟨a7,a8,hj⟩:=bd hj
    refine DP.wx (hg:=(cg aa)) 1 zr j qE a8 fun b5 j=>(DP.yj a7 0 zr (cg aa) j mf fun a9 a709 b6 j=>(DP.e2 zr ?_))
    obtain⟨b7,ba,hj⟩:=bd hj
    refine RL.call (cg aa) zr Gu [a6] zr (aD (fI N (i0:=6) j zr ba) ?_)
    rintro bb w j
    refine DP.d2 (⟨⟨zt,j.gm 4⟩,j.gm 1⟩) (DP.e2 zr ?_)
    obtain⟨b8,bc,hj⟩:=bd hj
    refine RL.call (cg aa) zr Gu [a9] zr (aD (fI N (i0:=2) j zr bc) ?_)
    rintro bf w j
    refine DP.d2 (⟨⟨zt,j.gm 5⟩,j.gm 2⟩) (DP.e2 zr ?_)
    obtain⟨bg,bh,hj⟩:=bd hj
    refine RL.call (cg aa) zr Nd [bb,bf] zr (aD (rZ N (i0:=1) (i1:=0) j zr zr bh) ?_)
    rintro _ w ⟨rfl,j⟩
    refine DP.d2 (⟨⟨zt,j.gm 5⟩,j.gm 2⟩) (DP.e0 zr (fU aa (vb bg) (DP.d0 ?_)))
    have j:=j.pl 21 [0,1,3,4,6,7,8,9,10,11,12,13,14,15,16,17,18,19,20]
    refine DP.z ?_
    obtain rfl:=oi hj
    exact⟨rfl,j.sp 19 [18]⟩
   rintro _ w ⟨O,rfl,j⟩
   refine aG (dX o (fun hc o=>?_) fun hc o=>?_)
   ·refine RC.sr (aP (vi 12) (RL.nt (RC.rb (bQ ?_))))
    obtain rfl:=oi o
    exact⟨rfl,bY ⟨rfl,j.drop 1⟩⟩
   refine RC.skip (bO (aG (RC.region (mv (vi ah) (RL.fO ah 1 (aP (vi (IntKind.wrap .i64 (ah+1))) (RL.nil ?_)))))))
   obtain rfl:=oi o
   exact⟨rfl,j.sp 1 [0]⟩
  ·intro r U w e hK
   subst e
   refine oz (bQ ?_)
   obtain rfl:=oi o
   exact⟨rfl,hK⟩
  rintro ah _ w rfl ⟨O,rfl,j⟩
  rw [Fo.dB] at o
  refine bO (aG (RC.region (mv (vi ae) (RL.fO ae 1 (aP (vi (IntKind.wrap .i64 (ae+1))) (RL.nil ?_))))))
  obtain rfl:=oi o
  exact⟨rfl,j.sp 1 [0]⟩
 ·intro r U w e hK
  subst e
  refine bQ ?_
  obtain rfl:=oi o
  exact hK
 rintro ae _ w rfl ⟨O,rfl,j⟩
 rw [Fo.dB] at o
 refine aG (RC.sr (aP (vi 0) (RL.nq (RC.sr (aP (vi 0) (RL.nt ?_))))))
 obtain⟨b9,hN,o⟩:=bd o
 refine RC.iter (fun(ad:Int×Int)=>SH E V [(1,vp af 0),(6,vi ad.1),(7,vi ad.2)] [pt (vp af 0) p0]) (fun(ad:Int×Int)=>SH E V [(6,vi ad.1)] [pt (vp af 0) p0]) (kX E V) hN ?_ ?_ ?_ ?_
 ·exact j.sp 1 [0]
 ·rintro ad fl _ w ⟨O,rfl,j⟩ o
  refine RC.seq (RC.sr (mv (vi ad.2) (RL.dN 0 j zr me iW fun ca j=>(RL.bF 0 p0.aJ j oQ fun cb j=>(RL.bC 0 p0.aJ j oR (ic ad.2 ((p0.aJ.length:Int)) (RL.nt (dX o (fun hc o=>?_) fun hc o=>?_))))))))
  rotate_left
  ·refine RC.ex ?_
   obtain rfl:=oi o
   exact⟨rfl,j.sp 3 [2]⟩
  refine RC.ss (RC.bs (RL.bF 2 p0 j rN fun bj j=>(mv (vi ad.2) ?_)))
  obtain⟨ar,bk,o⟩:=bd o
  refine RL.call zt zr Ks [bj,(vi ad.2)] zr (aD (kl N (p1:=ad.2) (i0:=0) j zr bk) ?_)
  rintro al w j
  refine aP al (RL.nq (RC.sr (mv al (RL.fS 0 ar j mH (ic ((ar.length:Int)) 2000 (RL.nt (dX o (fun hc o=>?_) fun hc o=>?_)))))))
  ·refine RC.sr (aP (vi 2) (RL.nt (RC.rt (oz (bQ ?_)))))
   obtain rfl:=oi o
   exact⟨rfl,bY ⟨rfl,j.drop 5⟩⟩
  refine RC.sn (RC.region (mv (vi ad.1) (mv al ?_)))
  have j:=j.freeze 0
  obtain⟨ao,bl,o⟩:=bd o
  refine RL.call zt zr LO [al] zr (aD (np N (i0:=0) j zr bl) ?_)
  rintro cc w j
  refine RL.fS 0 ao j oR (RL.fO ad.1 (ao.length:Int) (aP (vi (IntKind.wrap .i64 (ad.1+ (ao.length:Int)))) (RL.nil (bO (aG (RC.region (mv (vi ad.2) (RL.fO ad.2 1 ?_))))))))
  refine aP (vi (IntKind.wrap .i64 (ad.2+1))) (RL.nil ?_)
  obtain rfl:=oi o
  exact⟨rfl,j.sp 6 [5]⟩
 ·intro r U w e hK
  subst e
  refine bQ ?_
  obtain rfl:=oi o
  exact hK
 rintro ad _ w rfl ⟨O,rfl,j⟩
 rw [Fo.dB] at o
 refine aG (RC.seq (RC.sr (mv (vi ad.1) (ic ad.1 2000 (RL.nt (dX o (fun hc o=>?_) fun hc o=>?_))))))
 ·refine RC.sr (aP (vi 2) (RL.nt (RC.rt ?_)))
  obtain rfl:=oi o
  exact bY ⟨rfl,j.drop 1⟩
 refine RC.sx (aP (vi 0) (RL.nt (RC.ret ?_)))
 obtain rfl:=oi o
 exact bY ⟨rfl,j.drop 1⟩
theorem r6 {p0:kH} {res: (List (List aI))×Int} (j:Holds E w V) (h0:V[i0]? =some (rd v0 p0)) (o:gh N p0=some res):
    Calls bN 5 [v0].toArray w (gQ (sw E V res)):=by
 unfold gh at o
 refine enter Tryz.func5 zr zr ?_
 have j:=j.dup (i0+0) h0
 refine RC.sr (RL.dK 0 v0 j zr fun ae w j=>?_)
 refine aP (.slice none 0 0) (aP (vi 0) (RL.nq (RC.sr (RL.bG (f:=(fun x=>x)) 0 j zr Fd.self rN fun aj j=>?_))))
 obtain⟨ad,ak,o⟩:=bd o
 refine RL.call zt zr Nk [aj] zr (aD (kx N (i0:=0) j zr ak) ?_)
 rintro _ w ⟨rfl,j⟩
 refine aP (vi ad) (RL.ns (mv (vi ad) (ic ad 0 (RL.nt (dX o (fun hc o=>?_) fun hc o=>?_)))))
 ·refine RC.sr (mv (vi ad) (aP (.slice none 0 0) (aP (vi ad) (RL.nt (RC.rt ?_)))))
  obtain rfl:=oi o
  have j:=j.cQ (List aI) 23
  exact qA ⟨(.slice none 0 0),zr,j.pk 4 [0]⟩
 refine RC.sx (aP (.slice none 0 0) (RL.nq (RC.sr (aP (vi 0) (RL.nt ?_)))))
 obtain⟨av,hN,o⟩:=bd o
 refine RC.iter (fun(aa: (List (List aI))×Int) U w=>∃ag:Value,SH E V [(1,vp ae 0),(5,ag),(6,vi aa.2)] [bx 27 ae p0,own 23 ag aa.1] U w) (fun(aa: (List (List aI))×Int) U w=>∃ab:Value,SH E V [(5,ab)] [bx 27 ae p0,own 23 ab aa.1] U w) (fun(r:Empty) _ _=>r.elim) hN ?_ ?_ ?_ ?_
 ·have j:=j.cQ (List aI) 23
  exact⟨(.slice none 0 0),j.sp 4 [2,0]⟩
 ·rintro aa fl _ w ⟨ah,O,rfl,j⟩ o
  refine RC.seq (RC.sr (mv (vi aa.2) (RL.aZ zr me (RL.bG 0 j zr iW oQ fun ax j=>(RL.bC 0 p0.aJ j oR (ic aa.2 ((p0.aJ.length:Int)) (RL.nt (dX o (fun hc o=>?_) fun hc o=>?_))))))))
  rotate_left
  ·refine RC.ex ?_
   obtain rfl:=oi o
   exact⟨rfl,ah,j.sp 3 [1,2]⟩
  refine RC.ss (RC.block (RC.region (mv ah (RL.bG (f:=(fun x=>x)) 1 j zr Fd.self rN fun an j=>(mv (vi aa.2) ?_)))))
  obtain⟨ao,aq,o⟩:=bd o
  refine RL.call zt zr Ks [an,(vi aa.2)] zr (aD (kl N (p1:=aa.2) (i0:=0) j zr aq) ?_)
  rintro ar w j
  have j:=j.freeze 0
  refine RL.dQ ([ao]: (List (List aI))) j [ar] rf HF (fun M hs g=>⟨(g.sat 0 _ zr).1,zt⟩) fun ay w j=>?_
  have j:=j.freeze 0
  obtain⟨az,au,o⟩:=bd o
  refine RL.app 5 0 j EX au fun ai w j=>?_
  refine aP ai (RL.nil (bO (aG (RC.region (mv (vi aa.2) (RL.fO aa.2 1 (aP (vi (IntKind.wrap .i64 (aa.2+1))) (RL.nil ?_))))))))
  obtain rfl:=oi o
  exact⟨rfl,ai,j.sp 6 [4,5]⟩
 ·intro r _ _ _ _
  exact r.elim
 rintro aa _ w rfl ⟨ab,O,rfl,j⟩
 rw [Fo.dB] at o
 refine aG (RC.sr (mv ab (aP ab (aP (vi 0) (RL.nt (RC.ret ?_))))))
 obtain rfl:=oi o
 exact qA ⟨ab,zr,j.pk 2 [1]⟩
def xF (E:World) (V:List HP) (res:eQ) (v:Value) (w:World):Prop:=Holds E w ([rd v res]++V)
theorem wK {p0: (List aA)} {res:eQ} (j:Holds E w V) (h0:V[i0]? =some (rd v0 p0)) (o:lU N p0=some res):
    Calls bN 17 [v0].toArray w (gQ (xF E V res)):=by
 unfold lU at o
 refine enter Tryz.func17 zr zr ?_
 have j:=j.dup (i0+0) h0
 refine RC.sr (RL.alloc j Nl.z fun ah w j=>?_)
 refine RL.nq (RC.vH mixed [0,0,0,0,0,0,0,0,0,0,0,2] [0,1,2,3,4,5,6,7,8,9,10,11] ?_)
 have j:=j.drew
 refine DP.e0 zr (mv v0 (aY zr ?_))
 obtain⟨ad,ae,o⟩:=bd o
 refine RL.bM 1 j o0 ae fun ai j=>(aY zr (RL.dN 0 j zr nP dS fun aj j=>(aY zr (RL.bF 0 ad.Xs j fM fun ak j=>(aY zr ?_)))))
 obtain⟨aa,af,o⟩:=bd o
 refine RL.bM 0 j eD af fun al j=>(aY zr (RL.bB aa 0 j cG (aY zr (mv v0 (aY zr ?_)))))
 obtain⟨ab,ag,o⟩:=bd o
 refine RL.bM 5 j o0 ag fun an j=>(aY zr (RL.dN 0 j zr rO gK fun ao j=>(aY zr (RL.bB ab.Y0 0 j cG (aY zr ?_)))))
 have j:=(j.sc Int aa).sc Int ab.Y0
 refine RL.build (⟨aa,ab.Y0⟩:eQ) trivial rfl j [(0,vi aa),(1,vi ab.Y0)] rfl LP rfl (fun M hs g=>by have h:=zC M;exact cS.cons (f:=fun(x:eQ) y=>{x with X:=y}) h zY (g.sat 1 _ rfl).1 fun _ h=>cS.cons (f:=fun(x:eQ) y=>{x with Y:=y}) h zZ (g.sat 0 _ rfl).1 fun _ h=>cS.nil h) fun aq j=>?_
 refine oN zr (RL.bZ 9 j 0 zr zm fun w j=>?_)
 refine DP.d2 zt (DP.z (aG (RC.ret ?_)))
 obtain rfl:=oi o
 exact Gf 9 j zm fun ar j=>(j.pk 12 [0])
theorem zu {p0: (List aI)} (j:Holds E w V) (h0:V[i0]? =some (rd v0 p0)) (hb:oD N p0=some res):
    Calls bN 18 [v0].toArray w (gQ (aV E V res)):=by
 unfold oD at hb
 refine enter Tryz.func18 zr zr ?_
 have j:=j.dup (i0+0) h0
 refine RC.sr (aP (vi 0) (RL.ns (aP (vi 0) (RL.nq (RC.sr (mv v0 (RL.bC 0 p0 j mH (mv (vi 0) ?_))))))))
 refine RL.nt ?_
 obtain⟨aa,hN,hb⟩:=bd hb
 refine RC.fold (fun(ad:Nat) (aa:Int)=>SH E V [(3,vi aa),(6,v0),(7,vi p0.length),(8,vi ad)] [rd v0 p0]) (fun(aa:Int)=>SH E V [(3,vi aa)] [rd v0 p0]) hN ?_ ?_ ?_ ?_
 ·exact j.sp 1 [0]
 ·rintro hm aa _ w ⟨O,rfl,j⟩
  refine RC.sr (ic ((p0.length:Int)) ((p0.length:Int)) (RL.nq (RC.fw sf (RC.ex ?_))))
  exact⟨rfl,j.sp 1 [0]⟩
 ·rintro hm ad aa s' _ w hk ⟨O,rfl,j⟩ hb
  refine RC.sr (ic ((ad:Int)) ((p0.length:Int)) (RL.nq (RC.fu (sd hk) (RC.ss (RC.bs ?_)))))
  obtain⟨o,ah,hb⟩:=bd hb
  refine RL.bM 0 j iK ah fun ai j=>(RL.bF 0 o j iq fun aj j=>(RL.alloc j om.z fun ak w j=>?_))
  refine RL.bZ 0 j 1 zr iq fun w j=>?_
  refine RL.nt (RC.region (mv (vi aa) (RL.aZ zr iX (RL.aM 0 j zr dY cG (RL.aZ zr gO (RL.aM 0 j zr dD cG (RL.fO o.X1 o.X0 (RL.aZ zr jZ ?_))))))))
  refine RL.aM 0 j zr eT cG (RL.aZ zr gG (RL.aM 0 j zr cZ cG (RL.fO o.Y1 o.Y0 (RL.fO (IntKind.wrap .i64 (o.X1 - o.X0)) (IntKind.wrap .i64 (o.Y1 - o.Y0)) (RL.fO aa (IntKind.wrap .i64 ((IntKind.wrap .i64 (o.X1 - o.X0))* (IntKind.wrap .i64 (o.Y1 - o.Y0)))) (aP (vi (IntKind.wrap .i64 (aa+ (IntKind.wrap .i64 ((IntKind.wrap .i64 (o.X1 - o.X0))* (IntKind.wrap .i64 (o.Y1 - o.Y0))))))) (RL.nil (bO ?_))))))))
  refine aG (RC.region (RL.inc hk hm (mv (vi ((ad+1:Nat):Int)) (RL.nil ?_))))
  obtain rfl:=oi hb
  exact⟨rfl,j.sp 4 [3]⟩
 rintro _ w ⟨O,rfl,j⟩
 refine aG (RC.sr (mv (vi aa) (aP (vi aa) (RL.nt (RC.ret ?_)))))
 obtain rfl:=oi hb
 exact bY ⟨rfl,j.drop 1⟩
theorem yy {p0:kH} {res: (List Piece)×Int} (j:Holds E w V) (h0:V[i0]? =some (rd v0 p0)) (hb:kW N p0=some res):
    Calls bN 6 [v0].toArray w (gQ (t7 E V res)):=by
 unfold kW at hb
 refine enter Tryz.func6 zr zr ?_
 have j:=j.dup (i0+0) h0
 refine RC.sr (RL.dK 0 v0 j zr fun bu w j=>?_)
 refine aP (.slice none 0 0) (aP (vi 0) (RL.ns (RL.bG (f:=(fun x=>x)) 0 j zr Fd.self rN fun bb j=>?_)))
 obtain⟨an,bc,hb⟩:=bd hb
 refine RL.call zt zr Kp [bb] zr (aD (qM N (i0:=0) j zr bc) ?_)
 rintro _ w hK49
 rcases a3:an.1 with _ | ar
 ·replace hb:=J8 a3 hb
  obtain⟨rfl,j⟩:=Hl a3 hK49
  refine mv (.tuple #[(.pointer none),(vi an.2)]) (RL.extract (.pointer none) (RL.extract (vi an.2) (aP (.pointer none) (aP (vi an.2) (RL.nq (RC.sr (mv (vi an.2) (ic an.2 0 ?_))))))))
  refine RL.nt (dX hb (fun hc hb=>?_) fun hc hb=>?_)
  rotate_left
  ·cases hb
  refine RC.sr (mv (vi an.2) (aP (.slice none 0 0) (aP (vi an.2) (RL.nt (RC.rt ?_)))))
  obtain rfl:=oi hb
  have j:=j.cQ Piece 41
  exact qA ⟨(.slice none 0 0),zr,j.pk 4 [0]⟩
 replace hb:=J9 a3 hb
 obtain⟨a4,bw,bz,b0,b1,b2,ax,b3,b4,b5,b6,b7,b8,rfl,j⟩:=Hm a3 hK49
 refine mv (.tuple #[(vp a4 0),(vi an.2)]) (RL.extract (vp a4 0) (RL.extract (vi an.2) (aP (vp a4 0) (aP (vi an.2) (RL.nq (RC.sr (mv (vi an.2) (ic an.2 0 ?_))))))))
 refine RL.nt (dX hb (fun hc hb=>?_) fun hc hb=>?_)
 ·refine RC.sr (mv (vi an.2) (aP (.slice none 0 0) (aP (vi an.2) (RL.nt (RC.rt ?_)))))
  obtain rfl:=oi hb
  have j:=j.cQ Piece 41
  exact qA ⟨(.slice none 0 0),zr,j.pk 17 [0]⟩
 refine RC.sx (aP (.slice none 0 0) (RL.nq (RC.sr (mv (vp a4 0) (RL.nilCheck zr (RL.aZ zr wB (RL.bK 0 ax j EY (RL.bC 6 ar.2.2.2.2.2.1 j HG ?_))))))))
 refine mv (vi 0) (RL.nt ?_)
 obtain⟨au,hN,hb⟩:=bd hb
 refine RC.fold (fun(a0:Nat) (au: (List Piece)) U w=>∃a6:Value,SH E V [(6,a6),(20,ax),(21,vi ar.2.2.2.2.2.1.length),(22,vi a0)] [rd ax ar.2.2.2.2.2.1,own 41 a6 au] U w) (fun(au: (List Piece)) U w=>∃ay:Value,SH E V [(6,ay)] [rd ax ar.2.2.2.2.2.1,own 41 ay au] U w) hN ?_ ?_ ?_ ?_
 ·have j:=j.cQ Piece 41
  exact⟨(.slice none 0 0),j.sp 17 [7,0]⟩
 ·rintro hm au _ w ⟨bg,O,rfl,j⟩
  refine RC.sr (ic ((ar.2.2.2.2.2.1.length:Int)) ((ar.2.2.2.2.2.1.length:Int)) (RL.nq (RC.fw sf (RC.ex ?_))))
  exact⟨rfl,bg,j.sp 2 [0,1]⟩
 ·rintro hm a0 au s' _ w hk ⟨a1,O,rfl,j⟩ hb
  refine RC.sr (ic ((a0:Int)) ((ar.2.2.2.2.2.1.length:Int)) (RL.nq (RC.fu (sd hk) (RC.ss (RC.bs ?_)))))
  obtain⟨al,bh,hb⟩:=bd hb
  refine RL.bM 0 j IZ bh fun bj j=>(RL.bF 0 al j Gs fun bk j=>(RL.alloc j I0.z fun a2 w j=>?_))
  refine RL.bZ 0 j 1 zr Gs fun w j=>?_
  refine RL.nt ?_
  obtain⟨av,bl,hb⟩:=bd hb
  obtain⟨aq,bm,hb⟩:=bd hb
  obtain⟨bn,bo,hb⟩:=bd hb
  refine RC.ER E V mixed [0,1,0,1,0,0,1,0,0,0,0,0,1] [4,5,7,9,10,11] (fun(x:Value×Value×Value×Value×Value×Value)=>(fun af ag ah ai ad ae=>[(0,26,a1),(1,27,(vp a2 0)),(2,28,(vi al.cK)),(3,29,(vp a2 1)),(4,30,af),(5,31,ag),(6,32,(vp a2 2)),(7,33,ah),(8,34,(vi aq)),(9,35,ai),(10,36,ad),(11,37,ae),(12,6,ae)]) x.1 x.2.1 x.2.2.1 x.2.2.2.1 x.2.2.2.2.1 x.2.2.2.2.2) [(8,vp a2 0),(20,ax),(21,vi ar.2.2.2.2.2.1.length),(22,vi a0)] [(12,6,a1)] (fun(D:Nat->Bool) (x:Value×Value×Value×Value×Value×Value)=>(fun af ag ah ai ad ae=>[bif D 0 then (rd af al.Set) else aX,bif D 1 then (rd ag av) else aX,bif D 2 then (rd ah al.gz) else aX,bif D 3 then (rd ai (⟨al.cK,av,aq⟩:Piece)) else aX,bif D 5 then (rd ad ([(⟨al.cK,av,aq⟩:Piece)]: (List Piece))) else (bif D 4 then (own 41 ad ([(⟨al.cK,av,aq⟩:Piece)]: (List Piece))) else aX),bx 60 a2 al,rd bk al,pt bj al,rd ax ar.2.2.2.2.2.1,bif D 5 then (own 41 ae bn) else (own 41 a1 au)]) x.1 x.2.1 x.2.2.1 x.2.2.2.1 x.2.2.2.2.1 x.2.2.2.2.2) (fun x=>by kernel_rfl) ?_ ⟨?_,fun _=>mG gn EZ,?_,fun _=>mG gn Ku,?_,?_,fun _=>mG gn E0,?_,?_,?_,?_,?_,fun _=>Mp gn rfl,trivial⟩ ?_
  ·have j:=(((((j.drew).aX).aX).aX).aX).aX
   exact⟨(undef,undef,undef,undef,undef,undef),eU.none,(DB zr),⟨fun _=>zr,zt⟩,j⟩
  ·rintro D U w hD ab ao ⟨⟨af,ag,ah,ai,ad,ae⟩,o,ha,ho,j⟩
   obtain⟨O,rfl⟩:=(ac (ho.at 0 rfl (nh ao hD 12)) az).eN
   refine mv a1 ?_
   exact RL.nil ⟨rfl,(af,ag,ah,ai,ad,ae),o.pu 0,ha.u,ho.up zr,j⟩
  ·rintro D U w hD ab ao ⟨⟨af,ag,ah,ai,ad,ae⟩,o,ha,ho,j⟩
   obtain⟨O,rfl⟩:=(ac (o.at 1 rfl (ab.1 rfl)) az).eN
   refine RL.aM 5 j zr oG cG ?_
   exact RL.nil ⟨rfl,(af,ag,ah,ai,ad,ae),o.pu 2,ha.u,ho.up zr,j⟩
  ·rintro D U w hD ab ao ⟨⟨af,ag,ah,ai,ad,ae⟩,o,ha,ho,j⟩
   obtain⟨O,rfl⟩:=(ac (o.at 3 rfl (ab.1 rfl)) az).eN
   have j:=j.bX 0 hD
   refine RL.bG 5 j zr xh IY fun bp j=>?_
   have j:=(j.pl 11 [0,2,3,4,5,6,7,8,9,10]).cD 0 true rfl aX
   exact RL.nil ⟨rfl,(bp,ag,ah,ai,ad,ae),o.pu 4,ha.u,ho.up zr,j⟩
  ·rintro D U w hD ab ao ⟨⟨af,ag,ah,ai,ad,ae⟩,o,ha,ho,j⟩
   obtain⟨O,rfl⟩:=(ac (o.at 4 rfl (ab.1 rfl)) az).eN
   have j:=(j.cC 0 (ab.1 rfl)).bX 1 hD
   refine RL.call zt zr Nm [af] zr (aD (wK N (i0:=0) j zr bl) ?_)
   rintro bq w j
   have j:=((j.pl 11 [1,0,3,4,5,6,7,8,9,10]).cD 0 (D 4) (ab.1 rfl) aX).cD 1 true rfl aX
   exact RL.nil ⟨rfl,(af,bq,ah,ai,ad,ae),o.pu 5,ha.u,ho.up zr,j⟩
  ·rintro D U w hD ab ao ⟨⟨af,ag,ah,ai,ad,ae⟩,o,ha,ho,j⟩
   obtain⟨O,rfl⟩:=(ac (o.at 6 rfl (ab.1 rfl)) az).eN
   have j:=j.bX 2 hD
   refine RL.bG 5 j zr oH q9 fun br j=>?_
   have j:=(j.pl 11 [1,2,0,4,5,6,7,8,9,10]).cD 2 true rfl aX
   exact RL.nil ⟨rfl,(af,ag,br,ai,ad,ae),o.pu 7,ha.u,ho.up zr,j⟩
  ·rintro D U w hD ab ao ⟨⟨af,ag,ah,ai,ad,ae⟩,o,ha,ho,j⟩
   obtain⟨O,rfl⟩:=(ac (o.at 7 rfl (ab.1 rfl)) az).eN
   have j:=j.cC 2 (ab.1 rfl)
   refine RL.call zt zr Nn [ah] zr (aD (zu N (i0:=2) j zr bm) ?_)
   rintro _ w ⟨rfl,j⟩
   have j:=j.cD 2 (D 7) (ab.1 rfl) aX
   exact RL.nil ⟨rfl,(af,ag,ah,ai,ad,ae),o.pu 8,ha.u,ho.up zr,j⟩
  ·rintro D U w hD ab ao ⟨⟨af,ag,ah,ai,ad,ae⟩,o,ha,ho,j⟩
   obtain⟨O,rfl⟩:=(ac (o.at 2 rfl (ab.1 rfl)) (ac (o.at 5 rfl (ab.2.1 rfl)) (ac (o.at 8 rfl (ab.2.2.1 rfl)) az))).eN
   have j:=(((j.cC 1 (ab.2.1 rfl)).bX 3 hD).sc Int al.cK).sc Int aq
   refine RL.build (⟨al.cK,av,aq⟩:Piece) trivial rfl j [(0,vi al.cK),(1,ag),(2,vi aq)] rfl LQ rfl (fun M hs g=>by have h:=FN M;exact cS.cons (f:=fun(x:Piece) y=>{x with cK:=y}) h z5 (g.sat 1 _ rfl).1 fun _ h=>cS.cons (f:=fun(x:Piece) y=>{x with Dp:=y}) h z6 (g.sat 3 _ rfl).1 fun _ h=>cS.cons (f:=fun(x:Piece) y=>{x with Hr:=y}) h z7 (g.sat 0 _ rfl).1 fun _ h=>cS.nil h) fun bt j=>?_
   have j:=((j.pl 13 [3,4,5,0,7,8,9,10,11,12]).cD 1 (D 5) (ab.2.1 rfl) aX).cD 3 true rfl aX
   exact RL.nil ⟨rfl,(af,ag,ah,bt,ad,ae),o.pu 9,ha.u,ho.up zr,j⟩
  ·rintro D U w hD ab ao ⟨⟨af,ag,ah,ai,ad,ae⟩,o,ha,ho,j⟩
   obtain⟨O,rfl⟩:=(ac (o.at 9 rfl (ab.1 rfl)) az).eN
   have j:=((j.cC 3 (ab.1 rfl)).bX 4 (nh ao hD 11)).bX 4 hD
   refine RL.dQ ([(⟨al.cK,av,aq⟩:Piece)]: (List Piece)) j [ai] I3 Kv (fun M hs g=>⟨(g.sat 3 _ zr).1,zt⟩) fun a9 w j=>?_
   have j:=(((j.pl 11 [1,2,3,4,0,6,7,8,9,10]).cD 3 (D 9) (ab.1 rfl) aX).cD 4 true rfl aX).eY 4 (D 11) (nh ao hD 11) (rd a9 ([(⟨al.cK,av,aq⟩:Piece)]: (List Piece)))
   exact RL.nil ⟨rfl,(af,ag,ah,ai,a9,ae),o.pu 10,ha.u,ho.up zr,j⟩
  ·rintro D U w hD ab ao ⟨⟨af,ag,ah,ai,ad,ae⟩,o,ha,ho,j⟩
   obtain⟨O,rfl⟩:=(ac (o.at 0 rfl (ab.1 rfl)) (ac (o.at 10 rfl (ab.2.1 rfl)) az)).eN
   have j:=(((j.bX 4 hD).cC 4 (ab.2.1 rfl)).bX 9 hD).freeze 4
   refine RL.app 9 4 j LR bo fun ba w j=>?_
   have j:=(j.cD 4 true rfl (bif D 10 then (own 41 ad ([(⟨al.cK,av,aq⟩:Piece)]: (List Piece))) else aX)).cD 9 true rfl (own 41 a1 au)
   have o:=o.re 12 rfl (v':=ba) (fun h=>ft hD ((ao 12 _ rfl h).1 rfl))
   exact RL.nil ⟨rfl,(af,ag,ah,ai,ad,ba),o.pu 11,ha.u,ho.up zr,j⟩
  rintro D U w aw ⟨⟨af,ag,ah,ai,ad,ae⟩,o,ha,_,j⟩
  have j:=(((((j.cC 0 (jQ aw 4)).cC 1 (jQ aw 5)).cC 2 (jQ aw 7)).cC 3 (jQ aw 9)).cC 4 (jQ aw 11)).cC 9 (jQ aw 11)
  obtain⟨O,rfl⟩:=(ac (o.at 12 rfl (jQ aw 12)) (ac (ha.at 0 rfl) (ac (ha.at 1 rfl) (ac (ha.at 2 rfl) (ac (ha.at 3 rfl) az))))).eN
  refine bO (aG (RC.region (RL.inc hk hm (mv (vi ((a0+1:Nat):Int)) (RL.nil ?_)))))
  obtain rfl:=oi hb
  exact⟨rfl,ae,j.sp 10 [8,9]⟩
 rintro _ w ⟨ay,O,rfl,j⟩
 refine aG (RC.sr (mv ay (aP ay (aP (vi 0) (RL.nt (RC.ret ?_))))))
 obtain rfl:=oi hb
 exact qA ⟨ay,zr,j.pk 2 [1]⟩
def uZ (E:World) (V:List HP) (r:Bool) (U:Nat->Value) (w:World):Prop:=lS bN 62 Tryz.f38 (aU E V r) .ret U w
theorem uw {p0: (List aI)} {p1:aI} {res:Bool} (hw:Holds E w V) (h0:V[i0]? =some (rd v0 p0)) (h1:V[i1]? =some (rd v1 p1)) (hb:jm N p0 p1=some res):
    Calls bN 38 [v0,v1].toArray w (gQ (aU E V res)):=by
 unfold jm at hb
 refine enter Tryz.func38 zr zr ?_
 have hw:=(hw.dup (i0+0) h0).dup (i1+1) h1
 refine RC.sr (RL.dK 0 v1 hw zr fun ag w hw=>?_)
 refine aP (vb false) (RL.nq (RC.sr (aP (vi 0) (RL.nt ?_))))
 obtain⟨aq,hN,hb⟩:=bd hb
 refine RC.iter (fun(af:Int)=>SH E V [(0,v0),(3,vp ag 0),(5,vi af)] [rd v0 p0,bx 73 ag p1]) (fun(af:Int)=>SH E V [] [rd v0 p0,bx 73 ag p1]) (uZ E V) hN ?_ ?_ ?_ ?_
 ·exact hw.sp 3 [2,0]
 ·rintro af fl _ w ⟨O,rfl,hw⟩ hb
  refine RC.seq (RC.sr (mv (vi af) (mv v0 (RL.bC 0 p0 hw mH (ic af ((p0.length:Int)) (RL.nt (dX hb (fun hc hb=>?_) fun hc hb=>?_)))))))
  rotate_left
  ·refine RC.ex ?_
   obtain rfl:=oi hb
   exact⟨rfl,hw.sp 2 [0,1]⟩
  refine RC.ss (RC.block (RC.seq (RC.yh mixed ?_)))
  have hw:=hw.drew
  refine RO.go (mv v0 (RO.nx (mv (vi af) (RO.nx ?_))))
  obtain⟨j,aj,hb⟩:=bd hb
  refine RL.bM 0 hw iK aj fun au hw=>(RO.nx (RL.dN 0 hw zr iX dY fun av hw=>(RO.nx (RL.bB j.X1 0 hw cG (RO.nx (RL.aZ zr iX (RO.nx (RL.aM 3 hw zr dY cG ?_))))))))
  refine RO.nx (RL.min j.X1 p1.X1 (RO.nx (mv v0 (RO.nx (mv (vi af) (RO.nx ?_))))))
  obtain⟨o,ak,hb⟩:=bd hb
  refine RL.bM 2 hw iK ak fun aw hw=>(RO.nx (RL.dN 0 hw zr gO dD fun ax hw=>(RO.nx (RL.bB o.X0 0 hw cG (RO.nx (RL.aZ zr gO (RO.nx (RL.aM 5 hw zr dD cG ?_))))))))
  refine RO.nx (RL.max o.X0 p1.X0 (RO.nx (RL.fO (if p1.X1<j.X1 then p1.X1 else j.X1) (if o.X0<p1.X0 then p1.X0 else o.X0) (RO.nx (aP (vi (IntKind.wrap .i64 ((if p1.X1<j.X1 then p1.X1 else j.X1) - (if o.X0<p1.X0 then p1.X0 else o.X0)))) (RO.last (aG (RC.seq ?_))))))))
  refine RC.yh mixed ?_
  have hw:=hw.drew
  refine RO.go (mv v0 (RO.nx (mv (vi af) (RO.nx ?_))))
  obtain⟨aa,al,hb⟩:=bd hb
  refine RL.bM 4 hw iK al fun ay hw=>(RO.nx (RL.dN 0 hw zr jZ eT fun az hw=>(RO.nx (RL.bB aa.Y1 0 hw cG (RO.nx (RL.aZ zr jZ (RO.nx (RL.aM 7 hw zr eT cG ?_))))))))
  refine RO.nx (RL.min aa.Y1 p1.Y1 (RO.nx (mv v0 (RO.nx (mv (vi af) (RO.nx ?_))))))
  obtain⟨ab,an,hb⟩:=bd hb
  refine RL.bM 6 hw iK an fun a0 hw=>(RO.nx (RL.dN 0 hw zr gG cZ fun a1 hw=>(RO.nx (RL.bB ab.Y0 0 hw cG (RO.nx (RL.aZ zr gG (RO.nx (RL.aM 9 hw zr cZ cG ?_))))))))
  refine RO.nx (RL.max ab.Y0 p1.Y0 (RO.nx (RL.fO (if p1.Y1<aa.Y1 then p1.Y1 else aa.Y1) (if ab.Y0<p1.Y0 then p1.Y0 else ab.Y0) (RO.nx (aP (vi (IntKind.wrap .i64 ((if p1.Y1<aa.Y1 then p1.Y1 else aa.Y1) - (if ab.Y0<p1.Y0 then p1.Y0 else ab.Y0)))) (RO.last (aG (RC.sr ?_))))))))
  refine mv (vi (IntKind.wrap .i64 ((if p1.X1<j.X1 then p1.X1 else j.X1) - (if o.X0<p1.X0 then p1.X0 else o.X0)))) (ic ((IntKind.wrap .i64 ((if p1.X1<j.X1 then p1.X1 else j.X1) - (if o.X0<p1.X0 then p1.X0 else o.X0)))) 0 (mv (vb (decide ((IntKind.wrap .i64 ((if p1.X1<j.X1 then p1.X1 else j.X1) - (if o.X0<p1.X0 then p1.X0 else o.X0)))>0))) (RL.gs true (decide ((IntKind.wrap .i64 ((if p1.X1<j.X1 then p1.X1 else j.X1) - (if o.X0<p1.X0 then p1.X0 else o.X0)))>0)) (vi (IntKind.wrap .i64 ((if p1.Y1<aa.Y1 then p1.Y1 else aa.Y1) - (if ab.Y0<p1.Y0 then p1.Y0 else ab.Y0)))) rfl rfl rfl cI (RL.gs true (decide ((IntKind.wrap .i64 ((if p1.X1<j.X1 then p1.X1 else j.X1) - (if o.X0<p1.X0 then p1.X0 else o.X0)))>0)) (vb ((IntKind.wrap .i64 ((if p1.Y1<aa.Y1 then p1.Y1 else aa.Y1) - (if ab.Y0<p1.Y0 then p1.Y0 else ab.Y0)))==0)) rfl rfl rfl (dL .eql .i64 (IntKind.wrap .i64 ((if p1.Y1<aa.Y1 then p1.Y1 else aa.Y1) - (if ab.Y0<p1.Y0 then p1.Y0 else ab.Y0))) 0 rfl (fun h=>by exact(cO h:cv (true&&((decide ((IntKind.wrap .i64 ((if p1.X1<j.X1 then p1.X1 else j.X1) - (if o.X0<p1.X0 then p1.X0 else o.X0)))>0))==true)) (vi (IntKind.wrap .i64 ((if p1.Y1<aa.Y1 then p1.Y1 else aa.Y1) - (if ab.Y0<p1.Y0 then p1.Y0 else ab.Y0))))= (vi (IntKind.wrap .i64 ((if p1.Y1<aa.Y1 then p1.Y1 else aa.Y1) - (if ab.Y0<p1.Y0 then p1.Y0 else ab.Y0)))))) (fun _=>rfl) rfl) (RL.pick (decide ((IntKind.wrap .i64 ((if p1.X1<j.X1 then p1.X1 else j.X1) - (if o.X0<p1.X0 then p1.X0 else o.X0)))>0)) (vb ((decide ((IntKind.wrap .i64 ((if p1.X1<j.X1 then p1.X1 else j.X1) - (if o.X0<p1.X0 then p1.X0 else o.X0)))>0))&&((IntKind.wrap .i64 ((if p1.Y1<aa.Y1 then p1.Y1 else aa.Y1) - (if ab.Y0<p1.Y0 then p1.Y0 else ab.Y0)))==0))) (gx true rfl) (mv (vb ((decide ((IntKind.wrap .i64 ((if p1.X1<j.X1 then p1.X1 else j.X1) - (if o.X0<p1.X0 then p1.X0 else o.X0)))>0))&&((IntKind.wrap .i64 ((if p1.Y1<aa.Y1 then p1.Y1 else aa.Y1) - (if ab.Y0<p1.Y0 then p1.Y0 else ab.Y0)))==0))) (RL.gs true ((decide ((IntKind.wrap .i64 ((if p1.X1<j.X1 then p1.X1 else j.X1) - (if o.X0<p1.X0 then p1.X0 else o.X0)))>0))&&((IntKind.wrap .i64 ((if p1.Y1<aa.Y1 then p1.Y1 else aa.Y1) - (if ab.Y0<p1.Y0 then p1.Y0 else ab.Y0)))==0)) (vi (IntKind.wrap .i64 ((if p1.X1<j.X1 then p1.X1 else j.X1) - (if o.X0<p1.X0 then p1.X0 else o.X0)))) rfl rfl rfl cI (RL.gs true ((decide ((IntKind.wrap .i64 ((if p1.X1<j.X1 then p1.X1 else j.X1) - (if o.X0<p1.X0 then p1.X0 else o.X0)))>0))&&((IntKind.wrap .i64 ((if p1.Y1<aa.Y1 then p1.Y1 else aa.Y1) - (if ab.Y0<p1.Y0 then p1.Y0 else ab.Y0)))==0)) (vb ((IntKind.wrap .i64 ((if p1.X1<j.X1 then p1.X1 else j.X1) - (if o.X0<p1.X0 then p1.X0 else o.X0)))==0)) rfl rfl rfl (dL .eql .i64 (IntKind.wrap .i64 ((if p1.X1<j.X1 then p1.X1 else j.X1) - (if o.X0<p1.X0 then p1.X0 else o.X0))) 0 rfl (fun h=>by exact(cO h:cv (true&&(((decide ((IntKind.wrap .i64 ((if p1.X1<j.X1 then p1.X1 else j.X1) - (if o.X0<p1.X0 then p1.X0 else o.X0)))>0))&&((IntKind.wrap .i64 ((if p1.Y1<aa.Y1 then p1.Y1 else aa.Y1) - (if ab.Y0<p1.Y0 then p1.Y0 else ab.Y0)))==0))==false)) (vi (IntKind.wrap .i64 ((if p1.X1<j.X1 then p1.X1 else j.X1) - (if o.X0<p1.X0 then p1.X0 else o.X0))))= (vi (IntKind.wrap .i64 ((if p1.X1<j.X1 then p1.X1 else j.X1) - (if o.X0<p1.X0 then p1.X0 else o.X0)))))) (fun _=>rfl) rfl) ?_))))))))
  refine RL.gs true ((decide ((IntKind.wrap .i64 ((if p1.X1<j.X1 then p1.X1 else j.X1) - (if o.X0<p1.X0 then p1.X0 else o.X0)))>0))&&((IntKind.wrap .i64 ((if p1.Y1<aa.Y1 then p1.Y1 else aa.Y1) - (if ab.Y0<p1.Y0 then p1.Y0 else ab.Y0)))==0)) (vb ((IntKind.wrap .i64 ((if p1.X1<j.X1 then p1.X1 else j.X1) - (if o.X0<p1.X0 then p1.X0 else o.X0)))==0)) rfl rfl rfl (cI (hx:=fun h=>by exact(cO h:cv (true&&(((decide ((IntKind.wrap .i64 ((if p1.X1<j.X1 then p1.X1 else j.X1) - (if o.X0<p1.X0 then p1.X0 else o.X0)))>0))&&((IntKind.wrap .i64 ((if p1.Y1<aa.Y1 then p1.Y1 else aa.Y1) - (if ab.Y0<p1.Y0 then p1.Y0 else ab.Y0)))==0))==false)) (vb ((IntKind.wrap .i64 ((if p1.X1<j.X1 then p1.X1 else j.X1) - (if o.X0<p1.X0 then p1.X0 else o.X0)))==0))= (vb ((IntKind.wrap .i64 ((if p1.X1<j.X1 then p1.X1 else j.X1) - (if o.X0<p1.X0 then p1.X0 else o.X0)))==0))))) (RL.gs (true&&(((decide ((IntKind.wrap .i64 ((if p1.X1<j.X1 then p1.X1 else j.X1) - (if o.X0<p1.X0 then p1.X0 else o.X0)))>0))&&((IntKind.wrap .i64 ((if p1.Y1<aa.Y1 then p1.Y1 else aa.Y1) - (if ab.Y0<p1.Y0 then p1.Y0 else ab.Y0)))==0))==false)) ((IntKind.wrap .i64 ((if p1.X1<j.X1 then p1.X1 else j.X1) - (if o.X0<p1.X0 then p1.X0 else o.X0)))==0) (vi (IntKind.wrap .i64 ((if p1.Y1<aa.Y1 then p1.Y1 else aa.Y1) - (if ab.Y0<p1.Y0 then p1.Y0 else ab.Y0)))) rfl rfl rfl cI (RL.gs (true&&(((decide ((IntKind.wrap .i64 ((if p1.X1<j.X1 then p1.X1 else j.X1) - (if o.X0<p1.X0 then p1.X0 else o.X0)))>0))&&((IntKind.wrap .i64 ((if p1.Y1<aa.Y1 then p1.Y1 else aa.Y1) - (if ab.Y0<p1.Y0 then p1.Y0 else ab.Y0)))==0))==false)) ((IntKind.wrap .i64 ((if p1.X1<j.X1 then p1.X1 else j.X1) - (if o.X0<p1.X0 then p1.X0 else o.X0)))==0) (vb (decide ((IntKind.wrap .i64 ((if p1.Y1<aa.Y1 then p1.Y1 else aa.Y1) - (if ab.Y0<p1.Y0 then p1.Y0 else ab.Y0)))>0))) rfl rfl rfl (dL .gtr .i64 (IntKind.wrap .i64 ((if p1.Y1<aa.Y1 then p1.Y1 else aa.Y1) - (if ab.Y0<p1.Y0 then p1.Y0 else ab.Y0))) 0 rfl (fun h=>by exact(cO h:cv ((true&&(((decide ((IntKind.wrap .i64 ((if p1.X1<j.X1 then p1.X1 else j.X1) - (if o.X0<p1.X0 then p1.X0 else o.X0)))>0))&&((IntKind.wrap .i64 ((if p1.Y1<aa.Y1 then p1.Y1 else aa.Y1) - (if ab.Y0<p1.Y0 then p1.Y0 else ab.Y0)))==0))==false))&&(((IntKind.wrap .i64 ((if p1.X1<j.X1 then p1.X1 else j.X1) - (if o.X0<p1.X0 then p1.X0 else o.X0)))==0)==true)) (vi (IntKind.wrap .i64 ((if p1.Y1<aa.Y1 then p1.Y1 else aa.Y1) - (if ab.Y0<p1.Y0 then p1.Y0 else ab.Y0))))= (vi (IntKind.wrap .i64 ((if p1.Y1<aa.Y1 then p1.Y1 else aa.Y1) - (if ab.Y0<p1.Y0 then p1.Y0 else ab.Y0)))))) (fun _=>rfl) rfl) (RL.gs true ((decide ((IntKind.wrap .i64 ((if p1.X1<j.X1 then p1.X1 else j.X1) - (if o.X0<p1.X0 then p1.X0 else o.X0)))>0))&&((IntKind.wrap .i64 ((if p1.Y1<aa.Y1 then p1.Y1 else aa.Y1) - (if ab.Y0<p1.Y0 then p1.Y0 else ab.Y0)))==0)) (vb (((IntKind.wrap .i64 ((if p1.X1<j.X1 then p1.X1 else j.X1) - (if o.X0<p1.X0 then p1.X0 else o.X0)))==0)&&(decide ((IntKind.wrap .i64 ((if p1.Y1<aa.Y1 then p1.Y1 else aa.Y1) - (if ab.Y0<p1.Y0 then p1.Y0 else ab.Y0)))>0)))) rfl rfl rfl (kG ((IntKind.wrap .i64 ((if p1.X1<j.X1 then p1.X1 else j.X1) - (if o.X0<p1.X0 then p1.X0 else o.X0)))==0) rfl (fun h=>by exact(cO h:cv (true&&(((decide ((IntKind.wrap .i64 ((if p1.X1<j.X1 then p1.X1 else j.X1) - (if o.X0<p1.X0 then p1.X0 else o.X0)))>0))&&((IntKind.wrap .i64 ((if p1.Y1<aa.Y1 then p1.Y1 else aa.Y1) - (if ab.Y0<p1.Y0 then p1.Y0 else ab.Y0)))==0))==false)) (vb ((IntKind.wrap .i64 ((if p1.X1<j.X1 then p1.X1 else j.X1) - (if o.X0<p1.X0 then p1.X0 else o.X0)))==0))= (vb ((IntKind.wrap .i64 ((if p1.X1<j.X1 then p1.X1 else j.X1) - (if o.X0<p1.X0 then p1.X0 else o.X0)))==0)))) (fun h=>by exact gx (true&&(((decide ((IntKind.wrap .i64 ((if p1.X1<j.X1 then p1.X1 else j.X1) - (if o.X0<p1.X0 then p1.X0 else o.X0)))>0))&&((IntKind.wrap .i64 ((if p1.Y1<aa.Y1 then p1.Y1 else aa.Y1) - (if ab.Y0<p1.Y0 then p1.Y0 else ab.Y0)))==0))==false)) h)) (RL.pick ((decide ((IntKind.wrap .i64 ((if p1.X1<j.X1 then p1.X1 else j.X1) - (if o.X0<p1.X0 then p1.X0 else o.X0)))>0))&&((IntKind.wrap .i64 ((if p1.Y1<aa.Y1 then p1.Y1 else aa.Y1) - (if ab.Y0<p1.Y0 then p1.Y0 else ab.Y0)))==0)) (vb (((decide ((IntKind.wrap .i64 ((if p1.X1<j.X1 then p1.X1 else j.X1) - (if o.X0<p1.X0 then p1.X0 else o.X0)))>0))&&((IntKind.wrap .i64 ((if p1.Y1<aa.Y1 then p1.Y1 else aa.Y1) - (if ab.Y0<p1.Y0 then p1.Y0 else ab.Y0)))==0))||(((IntKind.wrap .i64 ((if p1.X1<j.X1 then p1.X1 else j.X1) - (if o.X0<p1.X0 then p1.X0 else o.X0)))==0)&&(decide ((IntKind.wrap .i64 ((if p1.Y1<aa.Y1 then p1.Y1 else aa.Y1) - (if ab.Y0<p1.Y0 then p1.Y0 else ab.Y0)))>0))))) (nW true) (RL.nt (dX hb (fun hc hb=>?_) fun hc hb=>?_))))))
  ·refine RC.sr (aP (vb true) (RL.nt (RC.rb (bQ ?_))))
   obtain rfl:=oi hb
   exact⟨rfl,bY ⟨rfl,hw.drop 10⟩⟩
  refine RC.skip (bO (aG (RC.region (mv (vi af) (RL.fO af 1 (aP (vi (IntKind.wrap .i64 (af+1))) (RL.nil ?_)))))))
  obtain rfl:=oi hb
  exact⟨rfl,hw.sp 10 [8,9]⟩
 ·intro r U w e hK
  subst e
  refine bQ ?_
  obtain rfl:=oi hb
  exact hK
 rintro af _ w rfl ⟨O,rfl,hw⟩
 rw [Fo.dB] at hb
 refine aG (RC.sr (aP (vb false) (RL.nt (RC.ret ?_))))
 obtain rfl:=oi hb
 exact bY ⟨rfl,hw.drop 2⟩
def rp (E:World) (V:List HP) (r:Bool) (U:Nat->Value) (w:World):Prop:=lS bN 18 Tryz.f110 (aU E V r) .ret U w
theorem iZ {p0: (List Int)} {res:Bool} (o:Holds E w V) (h0:V[i0]? =some (rd v0 p0)) (j:cV N p0 p1=some res):
    Calls bN 110 [v0,(vi p1)].toArray w (gQ (aU E V res)):=by
 unfold cV at j
 refine enter Tryz.func110 zr zr ?_
 have o:=o.dup (i0+0) h0
 refine RC.sr (aP (vb false) (RL.nq (RC.sr (aP (vi 0) (RL.nt ?_)))))
 obtain⟨ah,hN,j⟩:=bd j
 refine RC.iter (fun(aa:Int)=>SH E V [(0,v0),(1,vi p1),(5,vi aa)] [rd v0 p0]) (fun(aa:Int)=>SH E V [] [rd v0 p0]) (rp E V) hN ?_ ?_ ?_ ?_
 ·exact o.sp 1 [0]
 ·rintro aa fl _ w ⟨O,rfl,o⟩ j
  refine RC.seq (RC.sr (mv (vi aa) (mv v0 (RL.bC 0 p0 o mw (ic aa ((p0.length:Int)) (RL.nt (dX j (fun hc j=>?_) fun hc j=>?_)))))))
  rotate_left
  ·refine RC.ex ?_
   obtain rfl:=oi j
   exact⟨rfl,o.sp 1 [0]⟩
  refine RC.ss (RC.bs (mv v0 (mv (vi aa) ?_)))
  obtain⟨ad,af,j⟩:=bd j
  refine RL.bM 0 o eD af fun aj o=>(RL.bB ad 0 o cG (mv (vi p1) (ic ad p1 (RL.nt (dX j (fun hc j=>?_) fun hc j=>?_)))))
  ·refine RC.sr (aP (vb true) (RL.nt (RC.rb (bQ ?_))))
   obtain rfl:=oi j
   exact⟨rfl,bY ⟨rfl,o.drop 2⟩⟩
  refine RC.skip (bO (aG (RC.region (mv (vi aa) (RL.fO aa 1 (aP (vi (IntKind.wrap .i64 (aa+1))) (RL.nil ?_)))))))
  obtain rfl:=oi j
  exact⟨rfl,o.sp 2 [1]⟩
 ·intro r U w e hK
  subst e
  refine bQ ?_
  obtain rfl:=oi j
  exact hK
 rintro aa _ w rfl ⟨O,rfl,o⟩
 rw [Fo.dB] at j
 refine aG (RC.sr (aP (vb false) (RL.nt (RC.ret ?_))))
 obtain rfl:=oi j
 exact bY ⟨rfl,o.drop 1⟩
theorem oh {p0: (List Int)} {res: (List Int)} (j:Holds E w V) (h0:V[i0]? =some (rd v0 p0)) (o:iJ N p0 p1=some res):
    Calls bN 111 [v0,(vi p1)].toArray w (gQ (nu E V res)):=by
 unfold iJ at o
 refine enter Tryz.func111 zr zr ?_
 have j:=j.dup (i0+0) h0
 refine RC.sr (aP (.slice none 0 0) (RL.ns (mv v0 (RL.bC 0 p0 j mw (aP (vi p0.length) (RL.nq ?_))))))
 obtain⟨az,hN,o⟩:=bd o
 refine RC.iter (fun(aa:Int)=>SH E V [(0,v0),(1,vi p1),(5,vi aa)] [rd v0 p0]) (fun(aa:Int)=>SH E V [(0,v0),(1,vi p1),(5,vi aa)] [rd v0 p0]) (fun(r:Empty) _ _=>r.elim) hN ?_ ?_ ?_ ?_
 ·exact j.sp 1 [0]
 ·rintro aa fl _ w ⟨O,rfl,j⟩ o
  refine RC.seq (RC.seq ?_)
  obtain⟨af,hj,o⟩:=bd o
  refine RC.jn (fun(af:Bool)=>SH E V [(0,v0),(1,vi p1),(5,vi aa),(19,vb af)] [rd v0 p0]) af ?_ ?_
  ·refine RC.region (mv (vi aa) (ic aa 0 (mv (vb (decide (aa>0))) (fN hj (fun ab hj=>?_) fun ab hj=>?_))))
   rotate_left
   ·refine bJ ab (bJ ab (bJ ab (bJ ab (bJ ab (bJ ab (bJ ab (fU ab (vb false) (RL.nil ?_))))))))
    obtain rfl:=oi hj
    exact⟨rfl,j.sp 1 [0]⟩
   refine RL.move v0 (cg ab) (RL.move (vi aa) (cg ab) (RL.fO (hg:=(cg ab)) aa 1 ?_))
   obtain⟨ag,ao,hj⟩:=bd hj
   refine RL.bM (hg:=(cg ab)) 0 j eD ao fun a1 j=>(RL.bB (hg:=(cg ab)) ag 0 j cG (RL.move (vi p1) (cg ab) (RL.ld ag p1 (cg ab) (fU ab (vb (decide (ag>p1))) (RL.nil ?_)))))
   obtain rfl:=oi hj
   exact⟨rfl,j.sp 2 [1]⟩
  rintro _ w ⟨O,rfl,j⟩
  refine aG (dX o (fun hc o=>?_) fun hc o=>?_)
  rotate_left
  ·refine RC.ex ?_
   obtain rfl:=oi o
   exact⟨rfl,j.sp 1 [0]⟩
  refine RC.sn (RC.block (RC.region (mv (vi aa) (RL.fO aa 1 (aP (vi (IntKind.wrap .i64 (aa - 1))) (RL.nil (bO ?_)))))))
  obtain rfl:=oi o
  exact⟨rfl,j.sp 1 [0]⟩
 ·intro r _ _ _ _
  exact r.elim
 rintro aa _ w rfl ⟨O,rfl,j⟩
 rw [Fo.dB] at o
 refine aG (RC.seq (RC.seq ?_))
 obtain⟨ai,hj,o⟩:=bd o
 refine RC.jn (fun(ai:Bool)=>SH E V [(0,v0),(1,vi p1),(5,vi aa),(32,vb ai)] [rd v0 p0]) ai ?_ ?_
 ·refine RC.region (mv (vi aa) (ic aa 0 (mv (vb (decide (aa>0))) (fN hj (fun ad hj=>?_) fun ad hj=>?_))))
  rotate_left
  ·refine bJ ad (bJ ad (bJ ad (bJ ad (bJ ad (bJ ad (bJ ad (fU ad (vb false) (RL.nil ?_))))))))
   obtain rfl:=oi hj
   exact⟨rfl,j.sp 1 [0]⟩
  refine RL.move v0 (cg ad) (RL.move (vi aa) (cg ad) (RL.fO (hg:=(cg ad)) aa 1 ?_))
  obtain⟨aj,aq,hj⟩:=bd hj
  refine RL.bM (hg:=(cg ad)) 0 j eD aq fun a2 j=>(RL.bB (hg:=(cg ad)) aj 0 j cG (RL.move (vi p1) (cg ad) (RL.ld aj p1 (cg ad) (fU ad (vb (aj==p1)) (RL.nil ?_)))))
  obtain rfl:=oi hj
  exact⟨rfl,j.sp 2 [1]⟩
 rintro _ w ⟨O,rfl,j⟩
 refine aG (dX o (fun hc o=>?_) fun hc o=>?_)
 ·refine RC.sr (mv v0 (aP v0 (RL.nt (RC.rt ?_))))
  obtain rfl:=oi o
  exact bY (j.pk 1 [0])
 refine RC.sx (aP (.slice none 0 0) (RL.ns (mv (.slice none 0 0) (mv v0 (mv (vi aa) ?_)))))
 obtain⟨a3,ar,o⟩:=bd o
 refine RL.cut (hl:= .inr ⟨rfl,zr⟩) 0 j eD (.inl zr) ar fun a4 j=>?_
 have j:=j.cQ Int 3
 obtain⟨a5,au,o⟩:=bd o
 refine RL.app 0 1 j rh au fun ak w j=>?_
 refine aP ak (RL.ns (mv ak (mv (vi p1) ?_)))
 have j:=j.sc Int p1
 refine RL.dQ ([p1]: (List Int)) j [(vi p1)] eD CX (fun M hs g=>⟨(g.sat 0 _ zr).1,zt⟩) fun a6 w j=>?_
 have j:=j.freeze 0
 obtain⟨a7,av,o⟩:=bd o
 refine RL.app 2 0 j rh av fun al w j=>?_
 refine aP al (RL.ns (mv al (mv v0 (mv (vi aa) ?_))))
 obtain⟨a8,aw,o⟩:=bd o
 refine RL.cut 4 j eD (.inr ⟨rfl,zr⟩) aw fun a9 j=>?_
 obtain⟨ba,ax,o⟩:=bd o
 refine RL.app 3 0 j rh ax fun ay w j=>?_
 refine aP ay (RL.nt (RC.ret ?_))
 obtain rfl:=oi o
 have j:=j.freeze 3
 exact bY (j.pk 6 [3])
def pQ (E:World) (V:List HP) (b0:Nat) (v0_0 v0_1:Value) (v0_2 v0_3:Value) (v0_4 v0_5:Value) (v0_6 v0_7 v2:Value) (res: ((List Int)×(List Int)×(List fG))×(List Bool)) (v:Value) (w:World):Prop:=∃u0_0 u0_1 u0_2:Value,v= (.agg ([u0_0,u0_1,u0_2]:List Value).toArray)/\Holds E w ([rd u0_0 res.1.1,rd u0_1 res.1.2.1,own 98 u0_2 res.1.2.2,bc 66 b0 [v0_0,v0_1,v0_2,v0_3,v0_4,v0_5,v0_6,v0_7],own 4 v2 res.2]++V)
theorem pC {p0_7: (List (List Int))} {p2: (List Bool)} {res: ((List Int)×(List Int)×(List fG))×(List Bool)} (j:Holds E w (bc 66 b0 [v0_0,v0_1,v0_2,v0_3,v0_4,v0_5,v0_6,v0_7]::rd v0_7 p0_7::own 4 v2 p2::V)) (o:gE N p0_7 p1 p2=some res):
    Calls bN 75 [(vp b0 0),(vi p1),v2].toArray w (gQ (pQ E V b0 v0_0 v0_1 v0_2 v0_3 v0_4 v0_5 v0_6 v0_7 v2 res)):=by
 unfold gE at o
 refine enter Tryz.func75 zr zr (RC.sr (RL.uD zr j HI zr fun ah w j=>?_))
 refine RL.ns (mv (vi p1) ?_)
 have j:=j.sc Int p1
 refine RL.dQ ([p1]: (List Int)) j [(vi p1)] eD CX (fun M hs g=>⟨(g.sat 0 _ zr).1,zt⟩) fun au w j=>(RL.EJ [(.slice none 0 0),(.slice none 0 0),(.slice none 0 0)] [au,(.slice none 0 0),(.slice none 0 0)] zr [(0,au)] zr JI ⟨(iS 0 j),zt⟩ zr (RL.uD zr j HI zr fun ai w j=>?_))
 refine RL.BC (cs:=[au,(.slice none 0 0),(.slice none 0 0)]) 0 zt j zr zr zr (w5.all (⟨(iS 1 j),zr,zr,zt⟩:w5 [au,(.slice none 0 0),(.slice none 0 0)])) DL zr zr fun w j=>?_
 refine RL.ns (mv v2 (mv (vi p1) ?_))
 obtain⟨cm,a6,o⟩:=bd o
 refine RL.bS 6 j zr zr Bo a6 ?_
 have j:=j.sc Bool true
 refine RL.gR (f:=(fun _ y=>y)) 7 0 j (jJ 7 j a6 0) (bI a6).2.1 zr Fs.self BN fun w j=>?_
 refine RL.ns (mv (vp b0 0) (RL.nilCheck zr (RL.aZ zr tA (RL.bK 5 v0_7 j zn (RL.bC 6 p0_7 j Gt ?_)))))
 obtain⟨cn,b5,o⟩:=bd o
 refine RL.mk (p0_7.length:Int) j Kt Nh b5 fun af w j=>?_
 refine aP af (RL.ns (mv (vi p1) ?_))
 have j:=j.sc Int p1
 refine RL.dQ ([p1]: (List Int)) j [(vi p1)] eD CX (fun M hs g=>⟨(g.sat 0 _ zr).1,zt⟩) fun bk w j=>(aP bk (RL.nq (RC.sr (aP (vi 0) (RL.nt ?_)))))
 obtain⟨cp,hN,o⟩:=bd o
 refine RC.iter (fun(ad: (List Bool)×(List Int)×(List Int)×(List Bool)×(List Int)×Int) U w=>∃bl bm bn:Value,SH E V [(0,vp b0 0),(2,v2),(6,vp ah 0),(7,vp ai 0),(8,af),(9,bn),(10,vi ad.2.2.2.2.2)] [bc 66 b0 [v0_0,v0_1,v0_2,v0_3,v0_4,v0_5,v0_6,v0_7],rd v0_7 p0_7,own 4 v2 ad.1,bc 112 ah [(.slice none 0 0),(.slice none 0 0),(.slice none 0 0)],bc 112 ai [bl,bm,(.slice none 0 0)],rd bl ad.2.1,rd bm ad.2.2.1,own 4 af ad.2.2.2.1,own 3 bn ad.2.2.2.2.1] U w) (fun(ad: (List Bool)×(List Int)×(List Int)×(List Bool)×(List Int)×Int) U w=>∃al an:Value,SH E V [(0,vp b0 0),(2,v2),(6,vp ah 0),(7,vp ai 0)] [bc 66 b0 [v0_0,v0_1,v0_2,v0_3,v0_4,v0_5,v0_6,v0_7],rd v0_7 p0_7,own 4 v2 ad.1,bc 112 ah [(.slice none 0 0),(.slice none 0 0),(.slice none 0 0)],bc 112 ai [al,an,(.slice none 0 0)],rd al ad.2.1,rd an ad.2.2.1,own 4 af ad.2.2.2.1] U w) (fun(r:Empty) _ _=>r.elim) hN ?_ ?_ ?_ ?_
 ·have j:=(j.freeze 5).yf Int
  exact⟨au,(.slice none 0 0),bk,j.sp 12 [9,10,11,8,5,6,0,3,1]⟩
 ·rintro ad fl _ w ⟨bp,bq,br,O,rfl,j⟩ o
  refine RC.seq (RC.sr (mv (vi ad.2.2.2.2.2) (mv br (RL.fS 8 ad.2.2.2.2.1 j mw (ic ad.2.2.2.2.2 ((ad.2.2.2.2.1.length:Int)) (RL.nt (dX o (fun hc o=>?_) fun hc o=>?_)))))))
  rotate_left
  ·refine RC.ex ?_
   obtain rfl:=oi o
   exact⟨rfl,bp,bq,j.sp 9 [0,1,2,3,4,5,6,7]⟩
  refine RC.ss (RC.bs (aP (vi 0) (RL.nt ?_)))
  obtain⟨cq,hN,o⟩:=bd o
  refine RC.iter (fun(aa: (List Bool)×(List Int)×(List Int)×(List Bool)×(List Int)×Int) U w=>∃bt bu bw:Value,SH E V [(0,vp b0 0),(2,v2),(6,vp ah 0),(7,vp ai 0),(8,af),(9,bw),(10,vi ad.2.2.2.2.2),(11,vi aa.2.2.2.2.2)] [bc 66 b0 [v0_0,v0_1,v0_2,v0_3,v0_4,v0_5,v0_6,v0_7],rd v0_7 p0_7,own 4 v2 aa.1,bc 112 ah [(.slice none 0 0),(.slice none 0 0),(.slice none 0 0)],bc 112 ai [bt,bu,(.slice none 0 0)],rd bt aa.2.1,rd bu aa.2.2.1,own 4 af aa.2.2.2.1,own 3 bw aa.2.2.2.2.1] U w) (fun(aa: (List Bool)×(List Int)×(List Int)×(List Bool)×(List Int)×Int) U w=>∃ay az a0:Value,SH E V [(0,vp b0 0),(2,v2),(6,vp ah 0),(7,vp ai 0),(8,af),(9,a0),(10,vi ad.2.2.2.2.2)] [bc 66 b0 [v0_0,v0_1,v0_2,v0_3,v0_4,v0_5,v0_6,v0_7],rd v0_7 p0_7,own 4 v2 aa.1,bc 112 ah [(.slice none 0 0),(.slice none 0 0),(.slice none 0 0)],bc 112 ai [ay,az,(.slice none 0 0)],rd ay aa.2.1,rd az aa.2.2.1,own 4 af aa.2.2.2.1,own 3 a0 aa.2.2.2.2.1] U w) (fun(r:Empty) _ _=>r.elim) hN ?_ ?_ ?_ ?_
  ·exact⟨bp,bq,br,j.sp 9 [0,1,2,3,4,5,6,7,8]⟩
  ·rintro aa fl _ w ⟨aw,aq,ar,O,rfl,j⟩ o
   refine RC.seq (RC.sr (mv (vi aa.2.2.2.2.2) (mv (vp b0 0) (RL.nilCheck zr (RL.aZ zr tA (RL.bK 0 v0_7 j zn (RL.bC 1 p0_7 j Gt (ic aa.2.2.2.2.2 ((p0_7.length:Int)) ?_))))))))
   refine RL.nt (dX o (fun hc o=>?_) fun hc o=>?_)
   rotate_left
   ·refine RC.ex ?_
    obtain rfl:=oi o
    exact⟨rfl,aw,aq,ar,j.sp 9 [0,1,2,3,4,5,6,7,8]⟩
   refine RC.ss (RC.block (RC.seq (RC.seq ?_)))
   obtain⟨a7,hj,o⟩:=bd o
   refine RC.jn (fun(a7:Bool)=>SH E V [(0,vp b0 0),(2,v2),(6,vp ah 0),(7,vp ai 0),(8,af),(9,ar),(10,vi ad.2.2.2.2.2),(11,vi aa.2.2.2.2.2),(61,vb a7)] [bc 66 b0 [v0_0,v0_1,v0_2,v0_3,v0_4,v0_5,v0_6,v0_7],rd v0_7 p0_7,own 4 v2 aa.1,bc 112 ah [(.slice none 0 0),(.slice none 0 0),(.slice none 0 0)],bc 112 ai [aw,aq,(.slice none 0 0)],rd aw aa.2.1,rd aq aa.2.2.1,own 4 af aa.2.2.2.1,own 3 ar aa.2.2.2.2.1]) a7 ?_ ?_
   ·refine RC.vH mixed [0,0,0,0,0,0,0,0,0,0,0,0,0,0,0,0,2,0,0] [0,1,2,3,4,5,6,7,8,9,10,11,12,13,14,15,16,17,18] ?_
    have j:=j.drew
    refine DP.e0 zr (mv af (aY zr (mv (vi aa.2.2.2.2.2) (aY zr ?_))))
    obtain⟨b6,a8,hj⟩:=bd hj
    refine RL.bS 7 j zr zr Bo a8 (aY zr (RL.dR (f:=(fun x=>x)) 7 j (jJ 7 j a8 0) (bI a8).2.1 Fd.self BN (aY zr (mv (vb b6) (DP.d0 (fN hj (fun ab hj=>?_) fun ab hj=>?_))))))
    ·refine DP.e0 zr (bJ ab (aY zr (bJ ab (aY zr (bJ ab (aY zr (bJ ab (aY zr ?_))))))))
     refine bJ ab (aY zr (bJ ab (aY zr (bJ ab (aY zr (bJ ab (aY zr (bJ ab ?_))))))))
     refine aY zr (bJ ab (aY zr (bJ ab (oN zr (bJ ab (uh zr (bJ ab (aY zr ?_))))))))
     refine fU ab (vb true) (DP.d0 (DP.z ?_))
     obtain rfl:=oi hj
     exact⟨rfl,j.sp 9 [0,1,2,3,4,5,6,7,8]⟩
    refine DP.e0 zr (RL.move (vp b0 0) (cg ab) (aY zr (RL.nilCheck (hg:=(cg ab)) zr (aY zr (RL.aZ (hg:=(cg ab)) zr tA (aY zr (RL.bK (hg:=(cg ab)) 0 v0_7 j zn (aY zr ?_))))))))
    refine RL.move (vi aa.2.2.2.2.2) (cg ab) (aY zr ?_)
    obtain⟨b7,b8,hj⟩:=bd hj
    refine RL.bM (hg:=(cg ab)) 1 j Aa b8 fun cr j=>(aY zr (RL.bF (hg:=(cg ab)) 0 b7 j fM fun b9 j=>(aY zr (RL.move ar (cg ab) (aY zr (RL.move (vi ad.2.2.2.2.2) (cg ab) (aY zr ?_)))))))
    obtain⟨bx,a9,hj⟩:=bd hj
    refine RL.bS (hg:=(cg ab)) 10 j zr zr eD a9 (aY zr (RL.dR (hg:=(cg ab)) (f:=(fun x=>x)) 10 j (jJ 10 j a9 0) (bI a9).2.1 Fd.self cG (oN zr ?_)))
    obtain⟨bz,ca,hj⟩:=bd hj
    refine RL.call (cg ab) zr FR [b9,(vi bx)] zr (aD (iZ N (p1:=bx) (i0:=0) j zr ca) ?_)
    rintro _ w ⟨rfl,j⟩
    refine uh zr (RL.not (hg:=(cg ab)) bz (aY zr (fU ab (vb (!bz)) (DP.d0 (DP.z ?_)))))
    obtain rfl:=oi hj
    exact⟨rfl,j.sp 11 [2,3,4,5,6,7,8,9,10]⟩
   rintro _ w ⟨O,rfl,j⟩
   refine aG (dX o (fun hc o=>?_) fun hc o=>?_)
   ·refine RC.ex (G7 (aG (RC.region (mv (vi aa.2.2.2.2.2) (RL.fO aa.2.2.2.2.2 1 (aP (vi (IntKind.wrap .i64 (aa.2.2.2.2.2+1))) (RL.nil ?_)))))))
    obtain rfl:=oi o
    exact⟨rfl,aw,aq,ar,j.sp 9 [0,1,2,3,4,5,6,7,8]⟩
   refine RC.sx (mv af (mv (vi aa.2.2.2.2.2) ?_))
   obtain⟨ct,ba,o⟩:=bd o
   refine RL.bS 7 j zr zr Bo ba ?_
   have j:=j.sc Bool true
   refine RL.gR (f:=(fun _ y=>y)) 8 0 j (jJ 8 j ba 0) (bI ba).2.1 zr Fs.self BN fun w j=>?_
   refine RL.ns (RL.aZ zr vl (RL.bK 5 aq j fM (mv (vi aa.2.2.2.2.2) ?_)))
   obtain⟨bb,cb,o⟩:=bd o
   refine RL.call zt zr JJ [aq,(vi aa.2.2.2.2.2)] zr (aD (oh N (p1:=aa.2.2.2.2.2) (i0:=7) j zr cb) ?_)
   rintro ao w j
   refine RL.aZ zr vl (RL.iB 6 ao j zr zr (nK 0 j) fM fun w j=>?_)
   refine RL.ns (aP (vi 0) (RL.nt ?_))
   obtain⟨cu,hN,o⟩:=bd o
   refine RC.iter (fun(ag: (List Bool)×(List Int)×(List Int)×Int) U w=>∃b1 b2:Value,SH E V [(0,vp b0 0),(2,v2),(6,vp ah 0),(7,vp ai 0),(8,af),(9,b2),(10,vi ad.2.2.2.2.2),(11,vi aa.2.2.2.2.2),(12,vi ag.2.2.2)] [bc 66 b0 [v0_0,v0_1,v0_2,v0_3,v0_4,v0_5,v0_6,v0_7],rd v0_7 p0_7,own 4 v2 ag.1,bc 112 ah [(.slice none 0 0),(.slice none 0 0),(.slice none 0 0)],bc 112 ai [b1,ao,(.slice none 0 0)],rd b1 ag.2.1,rd ao bb,own 4 af (aa.2.2.2.1.set (Int.toNat aa.2.2.2.2.2) true),own 3 b2 ag.2.2.1] U w) (fun(ag: (List Bool)×(List Int)×(List Int)×Int) U w=>∃a1 a2:Value,SH E V [(0,vp b0 0),(2,v2),(6,vp ah 0),(7,vp ai 0),(8,af),(9,a2),(10,vi ad.2.2.2.2.2),(11,vi aa.2.2.2.2.2)] [bc 66 b0 [v0_0,v0_1,v0_2,v0_3,v0_4,v0_5,v0_6,v0_7],rd v0_7 p0_7,own 4 v2 ag.1,bc 112 ah [(.slice none 0 0),(.slice none 0 0),(.slice none 0 0)],bc 112 ai [a1,ao,(.slice none 0 0)],rd a1 ag.2.1,rd ao bb,own 4 af (aa.2.2.2.1.set (Int.toNat aa.2.2.2.2.2) true),own 3 a2 ag.2.2.1] U w) (fun(r:Empty) _ _=>r.elim) hN ?_ ?_ ?_ ?_
   ·exact⟨aw,ar,j.sp 11 [2,3,4,5,6,7,0,9,10]⟩
   ·rintro ag fl _ w ⟨a3,bf,O,rfl,j⟩ o
    refine RC.seq (RC.sr (mv (vi ag.2.2.2) (mv (vp b0 0) (RL.nilCheck zr (RL.aZ zr tA (RL.bK 0 v0_7 j zn (mv (vi aa.2.2.2.2.2) ?_)))))))
    obtain⟨bg,cc,o⟩:=bd o
    refine RL.bM 1 j Aa cc fun cv j=>(RL.bF 0 bg j fM fun cw j=>(RL.bC 0 bg j mw (ic ag.2.2.2 ((bg.length:Int)) (RL.nt (dX o (fun hc o=>?_) fun hc o=>?_)))))
    rotate_left
    ·refine RC.ex ?_
     obtain rfl:=oi o
     exact⟨rfl,a3,bf,j.sp 11 [2,3,4,5,6,7,8,9,10]⟩
    refine RC.ss (RC.bs (mv (vp b0 0) (RL.nilCheck zr (RL.aZ zr tA (RL.bK 2 v0_7 j zn (mv (vi aa.2.2.2.2.2) ?_))))))
    obtain⟨cd,cf,o⟩:=bd o
    refine RL.bM 3 j Aa cf fun cx j=>(RL.bF 0 cd j fM fun cy j=>(mv (vi ag.2.2.2) ?_))
    obtain⟨aj,ch,o⟩:=bd o
    refine RL.bM 0 j eD ch fun cz j=>(RL.bB aj 0 j cG (aP (vi aj) (RL.ns (mv v2 (mv (vi aj) ?_)))))
    obtain⟨cj,bh,o⟩:=bd o
    refine RL.bS 7 j zr zr Bo bh (RL.dR (f:=(fun x=>x)) 7 j (jJ 7 j bh 0) (bI bh).2.1 Fd.self BN (RL.not cj (RL.nt ?_)))
    obtain⟨ax,hj,o⟩:=bd o
    refine RC.jn (fun(ax: (List Bool)×(List Int)×(List Int)) U w=>∃a4 a5:Value,SH E V [(0,vp b0 0),(2,v2),(6,vp ah 0),(7,vp ai 0),(8,af),(9,a5),(10,vi ad.2.2.2.2.2),(11,vi aa.2.2.2.2.2),(12,vi ag.2.2.2)] [bc 66 b0 [v0_0,v0_1,v0_2,v0_3,v0_4,v0_5,v0_6,v0_7],rd v0_7 p0_7,own 4 v2 ax.1,bc 112 ah [(.slice none 0 0),(.slice none 0 0),(.slice none 0 0)],bc 112 ai [a4,ao,(.slice none 0 0)],rd a4 ax.2.1,rd ao bb,own 4 af (aa.2.2.2.1.set (Int.toNat aa.2.2.2.2.2) true),own 3 a5 ax.2.2] U w) ax ?_ ?_
    ·refine dX hj (fun hc hj=>?_) fun hc hj=>?_
     rotate_left
     ·refine RC.skip ?_
      obtain rfl:=oi hj
      exact⟨rfl,a3,bf,j.sp 14 [5,6,7,8,9,10,11,12,13]⟩
     refine RC.sr (mv v2 (mv (vi aj) ?_))
     obtain⟨c0,bj,hj⟩:=bd hj
     refine RL.bS 7 j zr zr Bo bj ?_
     have j:=j.sc Bool true
     refine RL.gR (f:=(fun _ y=>y)) 8 0 j (jJ 8 j bj 0) (bI bj).2.1 zr Fs.self BN fun w j=>?_
     refine RL.ns (RL.aZ zr tz (RL.bK 10 a3 j fM (mv (vi aj) ?_)))
     obtain⟨c1,ck,hj⟩:=bd hj
     refine RL.call zt zr JJ [a3,(vi aj)] zr (aD (oh N (p1:=aj) (i0:=11) j zr ck) ?_)
     rintro b3 w j
     refine RL.aZ zr tz (RL.iB 11 b3 j zr zr (nK 0 j) fM fun w j=>?_)
     refine RL.nt (RC.region (mv bf (mv (vi aj) ?_)))
     have j:=j.sc Int aj
     refine RL.dQ ([aj]: (List Int)) j [(vi aj)] eD CX (fun M hs g=>⟨(g.sat 0 _ zr).1,zt⟩) fun c2 w j=>?_
     have j:=j.freeze 0
     obtain⟨c3,cl,hj⟩:=bd hj
     refine RL.app 17 0 j rh cl fun b4 w j=>?_
     refine aP b4 (RL.nil ?_)
     obtain rfl:=oi hj
     exact⟨rfl,b3,b4,j.sp 18 [9,10,11,12,13,2,15,16,17]⟩
    rintro _ w ⟨a4,a5,O,rfl,j⟩
    refine bO (aG (RC.region (mv (vi ag.2.2.2) (RL.fO ag.2.2.2 1 (aP (vi (IntKind.wrap .i64 (ag.2.2.2+1))) (RL.nil ?_))))))
    obtain rfl:=oi o
    exact⟨rfl,a4,a5,j.sp 9 [0,1,2,3,4,5,6,7,8]⟩
   ·intro r _ _ _ _
    exact r.elim
   rintro ag _ w rfl ⟨a1,a2,O,rfl,j⟩
   rw [Fo.dB] at o
   refine bO (aG (RC.region (mv (vi aa.2.2.2.2.2) (RL.fO aa.2.2.2.2.2 1 (aP (vi (IntKind.wrap .i64 (aa.2.2.2.2.2+1))) (RL.nil ?_))))))
   obtain rfl:=oi o
   exact⟨rfl,a1,ao,a2,j.sp 9 [0,1,2,3,4,5,6,7,8]⟩
  ·intro r _ _ _ _
   exact r.elim
  rintro aa _ w rfl ⟨ay,az,a0,O,rfl,j⟩
  rw [Fo.dB] at o
  refine bO (aG (RC.region (mv (vi ad.2.2.2.2.2) (RL.fO ad.2.2.2.2.2 1 (aP (vi (IntKind.wrap .i64 (ad.2.2.2.2.2+1))) (RL.nil ?_))))))
  obtain rfl:=oi o
  exact⟨rfl,ay,az,a0,j.sp 9 [0,1,2,3,4,5,6,7,8]⟩
 ·intro r _ _ _ _
  exact r.elim
 rintro ad _ w rfl ⟨al,an,O,rfl,j⟩
 rw [Fo.dB] at o
 refine aG (RC.sr (RL.Dl (cs:=[al,an,(.slice none 0 0)]) 4 zt zr j zr zr DL zr (RL.BC (cs:=[al,an,(.slice none 0 0)]) 3 zt j zr zr zr (w5.all (⟨(nK 5 j),(nK 6 j),zr,zt⟩:w5 [al,an,(.slice none 0 0)])) DL zr zr fun w j=>?_)))
 refine RL.nt (RC.ret ?_)
 obtain rfl:=oi o
 have j:=j.cQ fG 98
 exact KR (i:=4) (cs:=[al,an,(.slice none 0 0)]) zr j zr zr DL zr ⟨al,an,(.slice none 0 0),zr,j.pk 9 [6,7,0,1,3]⟩
theorem nr {p0: (List aI)} {p1:eQ} {res:Bool} (j:Holds E w V) (h0:V[i0]? =some (rd v0 p0)) (h1:V[i1]? =some (rd v1 p1)) (o:eO N p0 p1=some res):
    Calls bN 129 [v0,v1].toArray w (gQ (aU E V res)):=by
 unfold eO at o
 refine enter Tryz.func129 zr zr ?_
 have j:=(j.dup (i0+0) h0).dup (i1+1) h1
 refine RC.sr (RL.dK 0 v1 j zr fun aa w j=>?_)
 refine aP (vb false) (RL.nq ?_)
 have j:=j.drew
 refine RC.EU (fun w=>Holds E w ([bx 39 aa p1]++V)) mixed zr [0,0,0,2,1,1,2,0] [0,1,2,4,5,3,6,7] (j.pk 3 [0]) (DP.e0 zr (mv v0 (aY zr (RL.aZ zr wA (aY zr (RL.aM 0 j zr nO cG (DP.d0 (DP.e1 (vp aa 0) zr (fun w=>RL.aZ zr wz DP.d1) ?_))))))))
 refine DP.IV (vi p1.X) zr (fun w j=>RL.aM 0 j zr nN cG DP.d1) (DP.e2 zr ?_)
 obtain⟨ag,ab,o⟩:=bd o
 refine RL.call zt zr I1 [v0,(vi p1.Y)] zr (aD (kN N (p1:=p1.Y) (i0:=2) j zr ab) ?_)
 rintro ad w j
 refine DP.d2 (j.pk 4 [1]) (DP.e2 zr ?_)
 have j:=j.freeze 0
 obtain⟨ae,af,o⟩:=bd o
 refine RL.call zt zr HO [ad,(vi p1.X)] zr (aD (ly N (p1:=p1.X) (i0:=0) j zr af) ?_)
 rintro _ w ⟨rfl,j⟩
 refine DP.d2 (j.pk 4 [1]) (DP.e0 zr (aP (vb ae) (DP.d0 (DP.z (aG (RC.ret ?_))))))
 obtain rfl:=oi o
 exact bY ⟨rfl,j.drop 4⟩
def mm (E:World) (V:List HP) (b0:Nat) (v0_0 v0_1:Value) (v0_2 v0_3:Value) (v0_4 v0_5:Value) (v0_6 v0_7:Value) (res:j4×Bool) (v:Value) (w:World):Prop:=∃u0:Value,v = .tuple #[u0,(vb res.2)]/\Holds E w ([rd u0 res.1,bc 66 b0 [v0_0,v0_1,v0_2,v0_3,v0_4,v0_5,v0_6,v0_7]]++V)
def mn (E:World) (V:List HP) (b0:Nat) (v0_0 v0_1:Value) (v0_2 v0_3:Value) (v0_4 v0_5:Value) (v0_6 v0_7:Value) (r:j4×Bool) (U:Nat->Value) (w:World):Prop:=lS bN 91 Tryz.f112 (mm E V b0 v0_0 v0_1 v0_2 v0_3 v0_4 v0_5 v0_6 v0_7 r) .ret U w
theorem pR {p0_2: (List cE)} {p0_4: (List Int)} {p0_5: (List (List aI))} {p1:fP} {res:j4×Bool} (j:Holds E w (bc 66 b0 [v0_0,v0_1,v0_2,v0_3,v0_4,v0_5,v0_6,v0_7]::rd v0_2 p0_2::rd v0_4 p0_4::rd v0_5 p0_5::V)) (h1:V[i1]? =some (rd v1 p1)) (o:gT N p0_2 p0_4 p0_5 p1=some res):
    Calls bN 112 [(vp b0 0),v1].toArray w (gQ (mm E V b0 v0_0 v0_1 v0_2 v0_3 v0_4 v0_5 v0_6 v0_7 res)):=by
 unfold gT at o
 refine enter Tryz.func112 zr zr ?_
 have j:=j.dup (i1+4) h1
 refine RC.sr (RL.dK 0 v1 j zr fun ai w j=>?_)
 have j:=j.lf (i:=0) rfl
 refine RL.alloc j DM.z fun ah w j=>?_
 refine aP (vb false) (RL.nq (RC.sr (aP (vi 0) (RL.nt ?_))))
 obtain⟨bp,hN,o⟩:=bd o
 refine RC.iter (fun(ag:Int)=>SH E V [(0,vp b0 0),(3,vp ai 0),(4,vp ah 0),(6,vi ag)] [bc 66 b0 [v0_0,v0_1,v0_2,v0_3,v0_4,v0_5,v0_6,v0_7],rd v0_2 p0_2,rd v0_4 p0_4,rd v0_5 p0_5,pt (vp ai 0) p1,raw 114 ah 2]) (fun(ag:Int)=>SH E V [(0,vp b0 0),(3,vp ai 0),(4,vp ah 0)] [bc 66 b0 [v0_0,v0_1,v0_2,v0_3,v0_4,v0_5,v0_6,v0_7],rd v0_2 p0_2,rd v0_4 p0_4,rd v0_5 p0_5,pt (vp ai 0) p1,raw 114 ah 2]) (mn E V b0 v0_0 v0_1 v0_2 v0_3 v0_4 v0_5 v0_6 v0_7) hN ?_ ?_ ?_ ?_
 ·exact j.sp 7 [3,4,5,6,1,0]
 ·rintro ag fl _ w ⟨O,rfl,j⟩ o
  refine RC.seq (RC.sr (mv (vi ag) (mv (vp b0 0) (RL.nilCheck zr (RL.aZ zr rS (RL.bK 0 v0_5 j oQ (RL.bC 3 p0_5 j oR (ic ag ((p0_5.length:Int)) ?_))))))))
  refine RL.nt (dX o (fun hc o=>?_) fun hc o=>?_)
  rotate_left
  ·refine RC.ex ?_
   obtain rfl:=oi o
   exact⟨rfl,j.sp 6 [0,1,2,3,4,5]⟩
  refine RC.ss (RC.block (RC.seq ?_))
  obtain⟨al,hj,o⟩:=bd o
  refine RC.jn (fun(al:Bool)=>SH E V [(0,vp b0 0),(3,vp ai 0),(4,vp ah 0),(6,vi ag),(38,vb al)] [bc 66 b0 [v0_0,v0_1,v0_2,v0_3,v0_4,v0_5,v0_6,v0_7],rd v0_2 p0_2,rd v0_4 p0_4,rd v0_5 p0_5,pt (vp ai 0) p1,raw 114 ah 2]) al ?_ ?_
  ·refine RC.vH mixed [0,0,0,0,0,0,0,0,0,0,0,0,0,0,0,0,0,0,0,0,2,0] [0,1,2,3,4,5,6,7,8,9,10,11,12,13,14,15,16,17,18,19,20,21] ?_
   have j:=j.drew
   refine DP.e0 zr (mv (vp b0 0) (aY zr (RL.nilCheck zr (aY zr (RL.aZ zr yq (aY zr (RL.bK 0 v0_4 j fM (aY zr ?_))))))))
   refine mv (vi ag) (aY zr ?_)
   obtain⟨an,aw,hj⟩:=bd hj
   refine RL.bM 2 j eD aw fun bq j=>(aY zr (RL.bB an 0 j cG (aY zr (RL.dN 5 j zr ym qw fun br j=>(aY zr (RL.bB p1.cK 0 j cG (aY zr (ic an p1.cK ?_))))))))
   refine aY zr (mv (vb (an==p1.cK)) (DP.d0 (fN hj (fun ae hj=>?_) fun ae hj=>?_)))
   rotate_left
   ·refine DP.e0 zr (bJ ae (aY zr (bJ ae (aY zr (bJ ae (aY zr (bJ ae (aY zr ?_))))))))
    refine bJ ae (aY zr (bJ ae (aY zr (bJ ae (aY zr (bJ ae (aY zr (bJ ae ?_))))))))
    refine oN zr (bJ ae (uh zr (fU ae (vb false) (DP.d0 (DP.z ?_)))))
    obtain rfl:=oi hj
    exact⟨rfl,j.sp 8 [2,3,4,5,6,7]⟩
   refine DP.e0 zr (RL.move (vp b0 0) (cg ae) (aY zr (RL.nilCheck (hg:=(cg ae)) zr (aY zr (RL.aZ (hg:=(cg ae)) zr rS (aY zr (RL.bK (hg:=(cg ae)) 2 v0_5 j oQ (aY zr ?_))))))))
   refine RL.move (vi ag) (cg ae) (aY zr ?_)
   obtain⟨ax,ay,hj⟩:=bd hj
   refine RL.bM (hg:=(cg ae)) 5 j rf ay fun bs j=>(aY zr (RL.bF (hg:=(cg ae)) 0 ax j q9 fun az j=>(aY zr (RL.dN (hg:=(cg ae)) 8 j zr yn qx fun bt j=>(aY zr (RL.bF (hg:=(cg ae)) 0 p1.At j zm fun a0 j=>(oN zr ?_)))))))
   obtain⟨a1,a2,hj⟩:=bd hj
   refine RL.call (cg ae) zr JK [az,a0] zr (aD (nr N (i0:=2) (i1:=0) j zr zr a2) ?_)
   rintro _ w ⟨rfl,j⟩
   refine uh zr (fU ae (vb a1) (DP.d0 (DP.z ?_)))
   obtain rfl:=oi hj
   exact⟨rfl,j.sp 12 [6,7,8,9,10,11]⟩
  rintro _ w ⟨O,rfl,j⟩
  refine aG (dX o (fun hc o=>?_) fun hc o=>?_)
  rotate_left
  ·refine RC.skip (bO (aG (RC.region (mv (vi ag) (RL.fO ag 1 (aP (vi (IntKind.wrap .i64 (ag+1))) (RL.nil ?_)))))))
   obtain rfl:=oi o
   exact⟨rfl,j.sp 6 [0,1,2,3,4,5]⟩
  refine RC.sr (mv (vi ag) ?_)
  have j:=j.sc Int ag
  refine RL.build (⟨false,ag⟩:j4) trivial rfl j [(1,vi ag)] rfl BO rfl (fun M hs g=>by have h:=BM M;exact cS.cons (f:=fun(x:j4) y=>{x with Number:=y}) h xo (g.sat 0 _ rfl).1 fun _ h=>cS.nil h) fun bu j=>?_
  refine RL.bZ 7 j 0 zr pq fun w j=>?_
  refine aP (vb true) (RL.nt (RC.rb (bQ ?_)))
  obtain rfl:=oi o
  exact⟨rfl,wZ 7 j pq fun a3 j=>⟨a3,zr,j.pk 9 [0,3]⟩⟩
 ·intro r U w e hK
  subst e
  refine bQ ?_
  obtain rfl:=oi o
  exact hK
 rintro ag _ w rfl ⟨O,rfl,j⟩
 rw [Fo.dB] at o
 refine aG (RC.seq (RC.sr (aP (vi 0) (RL.nt ?_))))
 obtain⟨bw,hN,o⟩:=bd o
 refine RC.iter (fun(af:Int)=>SH E V [(0,vp b0 0),(3,vp ai 0),(4,vp ah 0),(7,vi af)] [bc 66 b0 [v0_0,v0_1,v0_2,v0_3,v0_4,v0_5,v0_6,v0_7],rd v0_2 p0_2,rd v0_4 p0_4,rd v0_5 p0_5,pt (vp ai 0) p1,raw 114 ah 2]) (fun(af:Int)=>SH E V [(0,vp b0 0),(4,vp ah 0)] [bc 66 b0 [v0_0,v0_1,v0_2,v0_3,v0_4,v0_5,v0_6,v0_7],rd v0_2 p0_2,rd v0_4 p0_4,rd v0_5 p0_5,pt (vp ai 0) p1,raw 114 ah 2]) (mn E V b0 v0_0 v0_1 v0_2 v0_3 v0_4 v0_5 v0_6 v0_7) hN ?_ ?_ ?_ ?_
 ·exact j.sp 6 [0,1,2,3,4,5]
 ·rintro af fl _ w ⟨O,rfl,j⟩ o
  refine RC.seq (RC.sr (mv (vi af) (mv (vp b0 0) (RL.nilCheck zr (RL.aZ zr wC (RL.aZ zr iw (RL.bK 0 v0_2 j nQ (RL.bC 1 p0_2 j wy ?_))))))))
  refine ic af ((p0_2.length:Int)) (RL.nt (dX o (fun hc o=>?_) fun hc o=>?_))
  rotate_left
  ·refine RC.ex ?_
   obtain rfl:=oi o
   exact⟨rfl,j.sp 6 [0,1,2,3,4,5]⟩
  refine RC.ss (RC.block (RC.seq ?_))
  obtain⟨aq,hj,o⟩:=bd o
  refine RC.jn (fun(aq:Bool)=>SH E V [(0,vp b0 0),(3,vp ai 0),(4,vp ah 0),(7,vi af),(87,vb aq)] [bc 66 b0 [v0_0,v0_1,v0_2,v0_3,v0_4,v0_5,v0_6,v0_7],rd v0_2 p0_2,rd v0_4 p0_4,rd v0_5 p0_5,pt (vp ai 0) p1,raw 114 ah 2]) aq ?_ ?_
  ·refine RC.vH mixed [0,0,0,0,0,0,0,0,0,0,0,0,0,0,0,0,0,0,0,0,2,0,0,0,0,0,0,0,0,0,0,2,2,1,1,2,0] [0,1,2,3,4,5,6,7,8,9,10,11,12,13,14,15,16,17,18,19,20,21,22,23,24,25,26,27,28,29,30,33,34,31,32,35,36] ?_
   have j:=j.drew
   refine DP.e0 zr (mv (vp b0 0) (aY zr (RL.nilCheck zr (aY zr (RL.aZ zr wC (aY zr (RL.aZ zr iw (aY zr ?_))))))))
   refine RL.bK 0 v0_2 j nQ (aY zr (mv (vi af) (aY zr ?_)))
   obtain⟨ar,a4,hj⟩:=bd hj
   refine RL.bM 1 j qE a4 fun bx j=>(aY zr (RL.dN 0 j zr yo qt fun bz j=>(aY zr (RL.bB ar.fY 0 j BN (aY zr (mv (vb ar.fY) (DP.d0 (fN hj (fun ad hj=>?_) fun ad hj=>?_))))))))
   rotate_left
   ·refine DP.e0 zr (bJ ad (aY zr (bJ ad (aY zr (bJ ad (aY zr (bJ ad (aY zr ?_))))))))
    refine bJ ad (aY zr (bJ ad (aY zr (bJ ad (aY zr (bJ ad (aY zr (bJ ad ?_))))))))
    refine aY zr (bJ ad (oN zr (bJ ad (uh zr (fU ad (vb false) (aY zr (mv (vb false) (aY zr ?_))))))))
    refine jR (aY zr (jR (aY zr (jR (aY zr (jR (aY zr (jR ?_))))))))
    refine aY zr (jR (aY zr (jR (aY zr (jR (DP.d0 (DP.e1 undef zr (fun w=>jR DP.d1) (DP.e1 undef zr (fun w=>jR DP.d1) ?_))))))))
    refine DP.e2 zr (jR (FM zr (jR (FM zr (jR (uh zr (RL.pick false (vb false) zr (DP.d0 ?_))))))))
    refine DP.z ?_
    obtain rfl:=oi hj
    exact⟨rfl,j.sp 8 [2,3,4,5,6,7]⟩
   refine DP.e0 zr (RL.move (vp b0 0) (cg ad) (aY zr (RL.nilCheck (hg:=(cg ad)) zr (aY zr (RL.aZ (hg:=(cg ad)) zr wC (aY zr (RL.aZ (hg:=(cg ad)) zr iw (aY zr ?_))))))))
   refine RL.bK (hg:=(cg ad)) 2 v0_2 j nQ (aY zr (RL.move (vi af) (cg ad) (aY zr ?_)))
   obtain⟨a5,a6,hj⟩:=bd hj
   refine RL.bM (hg:=(cg ad)) 3 j qE a6 fun b1 j=>(aY zr (RL.bF (hg:=(cg ad)) 0 a5 j mf fun a7 j=>(aY zr (RL.dN (hg:=(cg ad)) 8 j zr ym qw fun b2 j=>(aY zr (RL.bB (hg:=(cg ad)) p1.cK 0 j cG (oN zr ?_)))))))
   obtain⟨au,a8,hj⟩:=bd hj
   refine RL.call (cg ad) zr I2 [a7,(vi p1.cK)] zr (aD (jw N (p1:=p1.cK) (i0:=1) j zr a8) ?_)
   rintro _ w ⟨rfl,j⟩
   refine uh zr (fU ad (vb au) (aY zr (mv (vb au) (DP.d0 (fN hj (fun ab hj=>?_) fun ab hj=>?_)))))
   rotate_left
   ·refine DP.e0 zr (bJ ab (aY zr (bJ ab (aY zr (bJ ab (aY zr (bJ ab (aY zr ?_))))))))
    refine bJ ab (aY zr (bJ ab (aY zr (bJ ab (aY zr (bJ ab (DP.d0 (DP.e1 undef zr (fun w=>bJ ab DP.d1) ?_))))))))
    refine DP.e1 undef zr (fun w=>bJ ab DP.d1) (DP.e2 zr (bJ ab (FM zr (bJ ab (FM zr (bJ ab (uh zr (fU ab (vb false) ?_))))))))
    refine DP.d0 (DP.z ?_)
    obtain rfl:=oi hj
    exact⟨rfl,j.sp 11 [5,6,7,8,9,10]⟩
   refine DP.e0 zr (RL.move (vp b0 0) (cg ab) (aY zr (RL.nilCheck (hg:=(cg ab)) zr (aY zr (RL.aZ (hg:=(cg ab)) zr wC (aY zr (RL.aZ (hg:=(cg ab)) zr iw (aY zr ?_))))))))
   refine RL.bK (hg:=(cg ab)) 5 v0_2 j nQ (aY zr (RL.move (vi af) (cg ab) (aY zr ?_)))
   obtain⟨a9,ba,hj⟩:=bd hj
   refine RL.bM (hg:=(cg ab)) 6 j qE ba fun b3 j=>(aY zr (RL.bF (hg:=(cg ab)) 0 a9 j mf fun bb j=>(DP.d0 (DP.Cq 11 zr (cg ab) j zr yn qx fun b4 j=>(DP.yj p1.At 0 zr (cg ab) j zm fun bf a279 b5 j=>(DP.e2 zr ?_))))))
   obtain⟨bg,bh,hj⟩:=bd hj
   refine RL.call (cg ab) zr Gu [bb] zr (aD (fI N (i0:=3) j zr bh) ?_)
   rintro bj w j
   refine DP.d2 (⟨zt,j.gm 1⟩) (DP.e2 zr (RL.dQ (hg:=(cg ab)) ([bg]: (List aI)) j [bj] iK om (fun M hs g=>⟨(g.sat 0 _ zr).1,zt⟩) fun bk w j=>(DP.d2 (⟨zt,j.gm 2⟩) (DP.e2 zr ?_))))
   have j:=j.freeze 0
   obtain⟨bl,bm,hj⟩:=bd hj
   refine RL.call (cg ab) zr JK [bk,bf] zr (aD (nr N (i0:=0) (i1:=3) j zr zr bm) ?_)
   rintro _ w ⟨rfl,j⟩
   refine DP.d2 (⟨zt,j.gm 2⟩) (DP.e0 zr (fU ab (vb bl) (DP.d0 ?_)))
   have j:=j.pl 18 [0,1,3,4,5,6,7,8,9,10,11,12,13,14,15,16,17]
   refine DP.z ?_
   obtain rfl:=oi hj
   exact⟨rfl,j.sp 17 [11,12,13,14,15,16]⟩
  rintro _ w ⟨O,rfl,j⟩
  refine aG (dX o (fun hc o=>?_) fun hc o=>?_)
  rotate_left
  ·refine RC.skip (bO (aG (RC.region (mv (vi af) (RL.fO af 1 (aP (vi (IntKind.wrap .i64 (af+1))) (RL.nil ?_)))))))
   obtain rfl:=oi o
   exact⟨rfl,j.sp 6 [0,1,2,3,4,5]⟩
  refine RC.sr (mv (vi af) ?_)
  have j:=(j.sc Bool true).sc Int af
  refine RL.build (⟨true,af⟩:j4) trivial rfl j [(0,vb true),(1,vi af)] rfl BO rfl (fun M hs g=>by have h:=BM M;exact cS.cons (f:=fun(x:j4) y=>{x with cE:=y}) h DH (g.sat 1 _ rfl).1 fun _ h=>cS.cons (f:=fun(x:j4) y=>{x with Number:=y}) h xo (g.sat 0 _ rfl).1 fun _ h=>cS.nil h) fun b6 j=>?_
  refine RL.bZ 8 j 0 zr pq fun w j=>?_
  refine aP (vb true) (RL.nt (RC.rb (bQ ?_)))
  obtain rfl:=oi o
  exact⟨rfl,wZ 8 j pq fun bn j=>⟨bn,zr,j.pk 10 [0,4]⟩⟩
 ·intro r U w e hK
  subst e
  refine bQ ?_
  obtain rfl:=oi o
  exact hK
 rintro af _ w rfl ⟨O,rfl,j⟩
 rw [Fo.dB] at o
 refine aG (RC.sr (RL.build (⟨false,0⟩:j4) trivial rfl j [] rfl BO rfl (fun M hs g=>by have h:=BM M;exact cS.nil h) fun b7 j=>?_))
 refine RL.bZ 6 j 0 zr pq fun w j=>?_
 refine aP (vb false) (RL.nt (RC.ret ?_))
 obtain rfl:=oi o
 exact wZ 6 j pq fun bo j=>⟨bo,zr,j.pk 8 [0,2]⟩
end Go.Gk
