/-
  Printed texts: Go functions as plain functions, and that they are. No statement of the seed is proved here.
-/
import Derived.Test.YtmmiladckdcjeabGreatDoorG1
import Derived.Test.YtmmiladckdcjeabGreatDoorG2
import Derived.Test.YtmmiladckdcjeabGreatDoorG4
import Derived.Test.YtmmiladckdcjeabGreatDoorA2
set_option linter.unusedVariables false
set_option linter.unusedSimpArgs false
set_option linter.unusedSectionVars false
set_option maxRecDepth 100000
set_option maxHeartbeats 4000000
namespace Go.Gk
open Go Go.Proofs
variable (N:Nat) {E w:World} {i0 i1:Nat} {p0 p1 p2 res:Int} {v0 v1:Value} {V:List HP}
theorem oy {p0 p1:aI} {res:Bool} (j:Holds E w V) (h0:V[i0]? =some (rd v0 p0)) (h1:V[i1]? =some (rd v1 p1)) (hb:iE N p0 p1=some res):
    Calls bN 98 [v0,v1].toArray w (gJ (aU E V res)):=by
 unfold iE at hb
 refine enter Tryz.func98 zr zr ?_
 have j:=(j.dup (i0+0) h0).dup (i1+1) h1
 refine RC.sr (RL.dD 1 v0 j zr fun o w j=>?_)
 refine RL.dD 1 v1 j zr fun aa w j=>?_
 refine aP (vb false) (RL.ns (RL.aX zr g8 (RL.aM 1 j zr dH cL (RL.aX zr g8 (RL.aM 0 j zr dH cL (ic p0.Y0 p1.Y0 (mv (vb (decide (p0.Y0<p1.Y0))) (RL.gs true (decide (p0.Y0<p1.Y0)) (vp o 1) zr zr zr (eB g8) ?_))))))))
 refine RL.gs true (decide (p0.Y0<p1.Y0)) (vi p0.Y0) rfl rfl rfl (cC 1 rfl j (fun h=>by exact(cM h:cv (true&&((decide (p0.Y0<p1.Y0))==false)) (vp o 1)= (vp o 1))) rfl dH cL) (RL.gs true (decide (p0.Y0<p1.Y0)) (vp aa 1) rfl rfl rfl (eB g8) (RL.gs true (decide (p0.Y0<p1.Y0)) (vi p1.Y0) rfl rfl rfl (cC 0 rfl j (fun h=>by exact(cM h:cv (true&&((decide (p0.Y0<p1.Y0))==false)) (vp aa 1)= (vp aa 1))) rfl dH cL) (RL.gs true (decide (p0.Y0<p1.Y0)) (vb (p0.Y0==p1.Y0)) rfl rfl rfl (dK .eql .i64 p0.Y0 p1.Y0 rfl (fun h=>by exact(cM h:cv (true&&((decide (p0.Y0<p1.Y0))==false)) (vi p0.Y0)= (vi p0.Y0))) (fun h=>by exact(cM h:cv (true&&((decide (p0.Y0<p1.Y0))==false)) (vi p1.Y0)= (vi p1.Y0))) rfl) (RL.gs true (decide (p0.Y0<p1.Y0)) (vb (p0.Y0==p1.Y0)) rfl rfl rfl (cH (hx:=fun h=>by exact(cM h:cv (true&&((decide (p0.Y0<p1.Y0))==false)) (vb (p0.Y0==p1.Y0))= (vb (p0.Y0==p1.Y0))))) (RL.gs (true&&((decide (p0.Y0<p1.Y0))==false)) (p0.Y0==p1.Y0) (vp o 0) rfl rfl rfl (eB iw) (RL.gs (true&&((decide (p0.Y0<p1.Y0))==false)) (p0.Y0==p1.Y0) (vi p0.X0) rfl rfl rfl (cC 1 rfl j (fun h=>by exact(cM h:cv ((true&&((decide (p0.Y0<p1.Y0))==false))&&((p0.Y0==p1.Y0)==true)) (vp o 0)= (vp o 0))) rfl dQ cL) (RL.gs (true&&((decide (p0.Y0<p1.Y0))==false)) (p0.Y0==p1.Y0) (vp aa 0) rfl rfl rfl (eB iw) (RL.gs (true&&((decide (p0.Y0<p1.Y0))==false)) (p0.Y0==p1.Y0) (vi p1.X0) rfl rfl rfl (cC 0 rfl j (fun h=>by exact(cM h:cv ((true&&((decide (p0.Y0<p1.Y0))==false))&&((p0.Y0==p1.Y0)==true)) (vp aa 0)= (vp aa 0))) rfl dQ cL) ?_))))))))
 refine RL.gs (true&&((decide (p0.Y0<p1.Y0))==false)) (p0.Y0==p1.Y0) (vb (decide (p0.X0<p1.X0))) rfl rfl rfl (dK .lss .i64 p0.X0 p1.X0 rfl (fun h=>by exact(cM h:cv ((true&&((decide (p0.Y0<p1.Y0))==false))&&((p0.Y0==p1.Y0)==true)) (vi p0.X0)= (vi p0.X0))) (fun h=>by exact(cM h:cv ((true&&((decide (p0.Y0<p1.Y0))==false))&&((p0.Y0==p1.Y0)==true)) (vi p1.X0)= (vi p1.X0))) rfl) (RL.gs true (decide (p0.Y0<p1.Y0)) (vb ((p0.Y0==p1.Y0)&&(decide (p0.X0<p1.X0)))) rfl rfl rfl (kI (p0.Y0==p1.Y0) rfl (fun h=>by exact(cM h:cv (true&&((decide (p0.Y0<p1.Y0))==false)) (vb (p0.Y0==p1.Y0))= (vb (p0.Y0==p1.Y0)))) (fun h=>by exact gr (true&&((decide (p0.Y0<p1.Y0))==false)) h)) (RL.pick (decide (p0.Y0<p1.Y0)) (vb ((decide (p0.Y0<p1.Y0))||((p0.Y0==p1.Y0)&&(decide (p0.X0<p1.X0))))) (oh true) (aP (vb ((decide (p0.Y0<p1.Y0))||((p0.Y0==p1.Y0)&&(decide (p0.X0<p1.X0))))) (RL.nt (RC.ret ?_)))))
 obtain rfl:=oi hb
 exact bY ⟨rfl,j.drop 4⟩
theorem iL {p0: (List Int)} {res: (List Int)} (j:Holds E w V) (h0:V[i0]? =some (rd v0 p0)) (hb:fF N p0 p1=some res):
    Calls bN 125 [v0,(vi p1)].toArray w (gJ (nD E V res)):=by
 unfold fF at hb
 refine enter Tryz.func125 zr zr ?_
 have j:=j.dup (i0+0) h0
 refine RC.sr (aP (.slice none 0 0) (RL.ns (mv v0 (RL.bB 0 p0 j mB (aP (vi 0) (aP (vi p0.length) (RL.nq ?_)))))))
 obtain⟨ay,hN,hb⟩:=bd hb
 refine RC.iter (fun(o:Int×Int)=>SH E V [(0,v0),(1,vi p1),(5,vi o.1),(6,vi o.2)] [rd v0 p0]) (fun(o:Int×Int)=>SH E V [(0,v0),(1,vi p1),(5,vi o.1)] [rd v0 p0]) (fun(r:Empty) _ _=>r.elim) hN ?_ ?_ ?_ ?_
 ·exact j.sp 1 [0]
 ·rintro o fl _ w ⟨O,rfl,j⟩ hb
  refine RC.seq (RC.sr (mv (vi o.1) (mv (vi o.2) (ic o.1 o.2 (RL.nt (dT hb (fun hc hb=>?_) fun hc hb=>?_))))))
  rotate_left
  ·refine RC.ex ?_
   obtain rfl:=oi hb
   exact⟨rfl,j.sp 1 [0]⟩
  refine RC.sn (RC.bs (mv (vi o.1) (mv (vi o.2) (RL.gk o.1 o.2 (RL.quo (IntKind.wrap .i64 (o.1+o.2)) 2 (aP (vi (IntKind.wrap .i64 (Int.tdiv (IntKind.wrap .i64 (o.1+o.2)) 2))) (RL.ns (mv v0 ?_))))))))
  refine mv (vi (IntKind.wrap .i64 (Int.tdiv (IntKind.wrap .i64 (o.1+o.2)) 2))) ?_
  obtain⟨ai,an,hb⟩:=bd hb
  refine RL.bO 0 j eF an fun a0 j=>(RL.bG ai 0 j cL (mv (vi p1) (ic ai p1 (RL.nt ?_))))
  obtain⟨af,hj,hb⟩:=bd hb
  refine RC.jn (fun(af:Int×Int)=>SH E V [(0,v0),(1,vi p1),(5,vi af.1),(6,vi af.2)] [rd v0 p0]) af ?_ ?_
  ·refine dT hj (fun hc hj=>?_) fun hc hj=>?_
   rotate_left
   ·refine RC.region (mv (vi (IntKind.wrap .i64 (Int.tdiv (IntKind.wrap .i64 (o.1+o.2)) 2))) (aP (vi (IntKind.wrap .i64 (Int.tdiv (IntKind.wrap .i64 (o.1+o.2)) 2))) (RL.nil ?_)))
    obtain rfl:=oi hj
    exact⟨rfl,j.sp 2 [1]⟩
   refine RC.region (mv (vi (IntKind.wrap .i64 (Int.tdiv (IntKind.wrap .i64 (o.1+o.2)) 2))) (RL.gk (IntKind.wrap .i64 (Int.tdiv (IntKind.wrap .i64 (o.1+o.2)) 2)) 1 (aP (vi (IntKind.wrap .i64 ((IntKind.wrap .i64 (Int.tdiv (IntKind.wrap .i64 (o.1+o.2)) 2))+1))) (RL.nil ?_))))
   obtain rfl:=oi hj
   exact⟨rfl,j.sp 2 [1]⟩
  rintro _ w ⟨O,rfl,j⟩
  refine bP ?_
  obtain rfl:=oi hb
  exact⟨rfl,j.sp 1 [0]⟩
 ·intro r _ _ _ _
  exact r.elim
 rintro o _ w rfl ⟨O,rfl,j⟩
 rw [Fo.cZ] at hb
 refine aH (RC.seq (RC.seq ?_))
 obtain⟨ag,hj,hb⟩:=bd hb
 refine RC.jn (fun(ag:Bool)=>SH E V [(0,v0),(1,vi p1),(5,vi o.1),(38,vb ag)] [rd v0 p0]) ag ?_ ?_
 ·refine RC.region (mv (vi o.1) (mv v0 (RL.bB 0 p0 j mB (ic o.1 ((p0.length:Int)) (mv (vb (decide (o.1< (p0.length:Int)))) (fA hj (fun ab hj=>?_) fun ab hj=>?_))))))
  rotate_left
  ·refine bC ab (bC ab (bC ab (bC ab (bC ab (bC ab (fB ab (vb false) (RL.nil ?_)))))))
   obtain rfl:=oi hj
   exact⟨rfl,j.sp 1 [0]⟩
  refine RL.move v0 (cg ab) (RL.move (vi o.1) (cg ab) ?_)
  obtain⟨ah,ao,hj⟩:=bd hj
  refine RL.bO (hg:=(cg ab)) 0 j eF ao fun a1 j=>(RL.bG (hg:=(cg ab)) ah 0 j cL (RL.move (vi p1) (cg ab) (RL.lh ah p1 (cg ab) (fB ab (vb (ah==p1)) (RL.nil ?_)))))
  obtain rfl:=oi hj
  exact⟨rfl,j.sp 2 [1]⟩
 rintro _ w ⟨O,rfl,j⟩
 refine aH (dT hb (fun hc hb=>?_) fun hc hb=>?_)
 ·refine RC.sr (mv v0 (aP v0 (RL.nt (RC.rt ?_))))
  obtain rfl:=oi hb
  exact bY (j.pk 1 [0])
 refine RC.sx (aP (.slice none 0 0) (RL.ns (mv (.slice none 0 0) (mv v0 (mv (vi o.1) ?_)))))
 obtain⟨a2,aq,hb⟩:=bd hb
 refine RL.cut (hl:= .inr ⟨rfl,zr⟩) 0 j eF (.inl zr) aq fun a3 j=>?_
 have j:=j.cP Int 3
 obtain⟨a4,ar,hb⟩:=bd hb
 refine RL.app 0 1 j rC ar fun aj w j=>?_
 refine aP aj (RL.ns (mv aj (mv (vi p1) ?_)))
 have j:=j.sc Int p1
 refine RL.dN ([p1]: (List Int)) j [(vi p1)] eF Dd (fun M hs g=>⟨(g.sat 0 _ zr).1,zt⟩) fun a5 w j=>?_
 have j:=j.freeze 0
 obtain⟨a6,au,hb⟩:=bd hb
 refine RL.app 2 0 j rC au fun ak w j=>?_
 refine aP ak (RL.ns (mv ak (mv v0 (mv (vi o.1) ?_))))
 obtain⟨a7,av,hb⟩:=bd hb
 refine RL.cut 4 j eF (.inr ⟨rfl,zr⟩) av fun a8 j=>?_
 obtain⟨a9,aw,hb⟩:=bd hb
 refine RL.app 3 0 j rC aw fun ax w j=>?_
 refine aP ax (RL.nt (RC.ret ?_))
 obtain rfl:=oi hb
 have j:=j.freeze 3
 exact bY (j.pk 6 [3])
theorem nM {p0: (List aI)} {res: (List Int)} (j:Holds E w V) (h0:V[i0]? =some (rd v0 p0)) (o:gV N p0=some res):
    Calls bN 105 [v0].toArray w (gJ (nD E V res)):=by
 unfold gV at o
 refine enter Tryz.func105 zr zr ?_
 have j:=j.dup (i0+0) h0
 refine RC.sr (aP (.slice none 0 0) (RL.ns (aP (.slice none 0 0) (RL.nq (RC.sr (aP (vi 0) (RL.nt ?_)))))))
 obtain⟨ar,hN,o⟩:=bd o
 refine RC.iter (fun(aa: (List Int)×Int) U w=>∃ag:Value,SH E V [(0,v0),(3,ag),(4,vi aa.2)] [rd v0 p0,rd ag aa.1] U w) (fun(aa: (List Int)×Int) U w=>∃ab:Value,SH E V [(3,ab)] [rd v0 p0,rd ab aa.1] U w) (fun(r:Empty) _ _=>r.elim) hN ?_ ?_ ?_ ?_
 ·have j:=j.yB Int
  exact⟨(.slice none 0 0),j.sp 2 [1,0]⟩
 ·rintro aa fl _ w ⟨ad,O,rfl,j⟩ o
  refine RC.seq (RC.sr (mv (vi aa.2) (mv v0 (RL.bB 0 p0 j nC (ic aa.2 ((p0.length:Int)) (RL.nt (dT o (fun hc o=>?_) fun hc o=>?_)))))))
  rotate_left
  ·refine RC.ex ?_
   obtain rfl:=oi o
   exact⟨rfl,ad,j.sp 2 [0,1]⟩
  refine RC.ss (RC.block (RC.vV mixed [0,0,0,0,0,0,2,1,1,1,1,1,2,0] [0,1,2,3,4,5,7,8,9,10,11,6,12,13] ?_))
  have j:=j.drew
  refine DP.e0 zr (mv ad (aW zr (mv v0 (aW zr (mv (vi aa.2) (aW zr ?_))))))
  obtain⟨ae,ak,o⟩:=bd o
  refine RL.bO 0 j jm ak fun av j=>(aW zr (RL.dV 0 j zr g8 dH fun aw j=>(aW zr (RL.bG ae.Y0 0 j cL (DP.d0 (DP.e1 v0 zr (fun w=>RL.move v0 zt DP.d1) (DP.e1 (vi aa.2) zr (fun w=>RL.move (vi aa.2) zt DP.d1) ?_)))))))
  obtain⟨af,al,o⟩:=bd o
  refine DP.wM 2 zr j jm al fun ax j=>(DP.CH 0 zr zt j zr kA fJ fun ay j=>(DP.rO af.Y1 0 zr j cL fun a68 az j=>(DP.e2 zr ?_)))
  obtain⟨a0,an,o⟩:=bd o
  refine RL.call zt zr B7 [ad,(vi ae.Y0)] zr (aD (iL N (p1:=ae.Y0) (i0:=6) j zr an) ?_)
  rintro ao w j
  refine DP.d2 (⟨zt,j.iv 1⟩) (DP.e2 zr ?_)
  obtain⟨a1,aq,o⟩:=bd o
  refine RL.call zt zr B7 [ao,(vi af.Y1)] zr (aD (iL N (p1:=af.Y1) (i0:=0) j zr aq) ?_)
  rintro ah w j
  refine DP.d2 (⟨zt,j.iv 2⟩) (DP.e0 zr (aP ah (DP.d0 ?_)))
  have j:=j.pl 9 [0,1,3,4,5,6,7,8]
  refine DP.z (bP (aH (RC.region (mv (vi aa.2) (RL.gk aa.2 1 (aP (vi (IntKind.wrap .i64 (aa.2+1))) (RL.nil ?_)))))))
  obtain rfl:=oi o
  exact⟨rfl,ah,j.sp 8 [6,0]⟩
 ·intro r _ _ _ _
  exact r.elim
 rintro aa _ w rfl ⟨ab,O,rfl,j⟩
 rw [Fo.cZ] at o
 refine aH (RC.sr (mv ab (aP ab (RL.nt (RC.ret ?_)))))
 obtain rfl:=oi o
 exact bY (j.pk 2 [1])
theorem oz {p0: (List aG)} {p1:aG} {res: (List aG)} (j:Holds E w V) (h0:V[i0]? =some (rd v0 p0)) (h1:V[i1]? =some (rd v1 p1)) (o:iF N p0 p1=some res):
    Calls bN 127 [v0,v1].toArray w (gJ (lP E V res)):=by
 unfold iF at o
 refine enter Tryz.func127 zr zr ?_
 have j:=(j.dup (i0+0) h0).dup (i1+1) h1
 refine RC.sr (RL.dD 0 v1 j zr fun ag w j=>?_)
 refine aP (.slice none 0 0) (RL.ns (aP (.slice none 0 0) (RL.ns (aP (vi 0) (RL.nq ?_)))))
 obtain⟨bc,hN,o⟩:=bd o
 refine RC.iter (fun(ab: (List aG)×Int) U w=>∃av:Value,SH E V [(0,v0),(3,vp ag 0),(5,av),(6,vi ab.2)] [rd v0 p0,bx 164 ag p1,own 164 av ab.1] U w) (fun(ab: (List aG)×Int) U w=>∃ah:Value,SH E V [(0,v0),(3,vp ag 0),(5,ah),(6,vi ab.2)] [rd v0 p0,bx 164 ag p1,own 164 ah ab.1] U w) (fun(r:Empty) _ _=>r.elim) hN ?_ ?_ ?_ ?_
 ·have j:=j.cP aG 164
  exact⟨(.slice none 0 0),j.sp 4 [3,1,0]⟩
 ·rintro ab fl _ w ⟨aj,O,rfl,j⟩ o
  refine RC.seq (RC.seq ?_)
  obtain⟨an,hj,o⟩:=bd o
  refine RC.jn (fun(an:Bool)=>SH E V [(0,v0),(3,vp ag 0),(5,aj),(6,vi ab.2),(20,vb an)] [rd v0 p0,bx 164 ag p1,own 164 aj ab.1]) an ?_ ?_
  ·refine RC.zm mixed ?_
   have j:=j.drew
   refine RO.go (mv (vi ab.2) (RO.nx (mv v0 (RO.nx (RL.bB 0 p0 j wo (RO.nx (ic ab.2 ((p0.length:Int)) (RO.nx ?_))))))))
   refine mv (vb (decide (ab.2< (p0.length:Int)))) (fA hj (fun ad hj=>?_) fun ad hj=>?_)
   rotate_left
   ·refine RO.nx (bC ad (RO.nx (bC ad (RO.nx (bC ad (RO.nx (bC ad (RO.nx ?_))))))))
    refine bC ad (RO.nx (bC ad (RO.nx (bC ad (RO.nx (bC ad (RO.nx (fB ad (vb false) ?_))))))))
    refine RO.last ?_
    obtain rfl:=oi hj
    exact⟨rfl,j.sp 3 [0,1,2]⟩
   refine RO.nx (RL.move v0 (cg ad) (RO.nx (RL.move (vi ab.2) (cg ad) (RO.nx ?_))))
   obtain⟨ao,a0,hj⟩:=bd hj
   refine RL.bO (hg:=(cg ad)) 0 j o7 a0 fun bf j=>(RO.nx (RL.dV (hg:=(cg ad)) 0 j zr qo eL fun bg j=>(RO.nx (RL.bG (hg:=(cg ad)) ao.to 0 j cL (RO.nx (RL.aX (hg:=(cg ad)) zr qp (RO.nx (RL.aM (hg:=(cg ad)) 3 j zr eK cL ?_))))))))
   refine RO.nx (RL.lh ao.to p1.from_ (cg ad) (RO.nx (fB ad (vb (decide (ao.to<p1.from_))) (RO.last ?_))))
   obtain rfl:=oi hj
   exact⟨rfl,j.sp 5 [2,3,4]⟩
  rintro _ w ⟨O,rfl,j⟩
  refine aH (dT o (fun hc o=>?_) fun hc o=>?_)
  rotate_left
  ·refine RC.ex ?_
   obtain rfl:=oi o
   exact⟨rfl,aj,j.sp 3 [0,1,2]⟩
  refine RC.sn (RC.bs (mv aj (mv v0 (mv (vi ab.2) ?_))))
  obtain⟨aw,a1,o⟩:=bd o
  refine RL.bO 0 j o7 a1 fun bh j=>(RL.bJ 0 aw j FU fun a2 j=>(RL.dN ([aw]: (List aG)) j [a2] o7 JF (fun M hs g=>⟨(g.sat 0 _ zr).1,zt⟩) fun bj w j=>?_))
  have j:=j.freeze 0
  obtain⟨bk,a3,o⟩:=bd o
  refine RL.app 5 0 j HM a3 fun ax w j=>?_
  refine aP ax (RL.nt (RC.region (mv (vi ab.2) (RL.gk ab.2 1 (aP (vi (IntKind.wrap .i64 (ab.2+1))) (RL.nil (bP ?_)))))))
  obtain rfl:=oi o
  exact⟨rfl,ax,j.sp 6 [3,4,5]⟩
 ·intro r _ _ _ _
  exact r.elim
 rintro ab _ w rfl ⟨ah,O,rfl,j⟩
 rw [Fo.cZ] at o
 refine aH (RC.seq ?_)
 obtain⟨bl,hN,o⟩:=bd o
 refine RC.iter (fun(aa:aG×Int)=>SH E V [(0,v0),(3,vp ag 0),(5,ah),(6,vi aa.2)] [rd v0 p0,bx 164 ag aa.1,own 164 ah ab.1]) (fun(aa:aG×Int)=>SH E V [(0,v0),(3,vp ag 0),(5,ah),(6,vi aa.2)] [rd v0 p0,bx 164 ag aa.1,own 164 ah ab.1]) (fun(r:Empty) _ _=>r.elim) hN ?_ ?_ ?_ ?_
 ·exact j.sp 3 [0,1,2]
 ·rintro aa fl _ w ⟨O,rfl,j⟩ o
  refine RC.seq (RC.seq ?_)
  obtain⟨ar,hj,o⟩:=bd o
  refine RC.jn (fun(ar:Bool)=>SH E V [(0,v0),(3,vp ag 0),(5,ah),(6,vi aa.2),(43,vb ar)] [rd v0 p0,bx 164 ag aa.1,own 164 ah ab.1]) ar ?_ ?_
  ·refine RC.zm mixed ?_
   have j:=j.drew
   refine RO.go (mv (vi aa.2) (RO.nx (mv v0 (RO.nx (RL.bB 0 p0 j wo (RO.nx (ic aa.2 ((p0.length:Int)) (RO.nx ?_))))))))
   refine mv (vb (decide (aa.2< (p0.length:Int)))) (fA hj (fun ae hj=>?_) fun ae hj=>?_)
   rotate_left
   ·refine RO.nx (bC ae (RO.nx (bC ae (RO.nx (bC ae (RO.nx (bC ae (RO.nx ?_))))))))
    refine bC ae (RO.nx (bC ae (RO.nx (bC ae (RO.nx (bC ae (RO.nx (fB ae (vb false) ?_))))))))
    refine RO.last ?_
    obtain rfl:=oi hj
    exact⟨rfl,j.sp 3 [0,1,2]⟩
   refine RO.nx (RL.move v0 (cg ae) (RO.nx (RL.move (vi aa.2) (cg ae) (RO.nx ?_))))
   obtain⟨au,a4,hj⟩:=bd hj
   refine RL.bO (hg:=(cg ae)) 0 j o7 a4 fun bm j=>(RO.nx (RL.dV (hg:=(cg ae)) 0 j zr qp eK fun bn j=>(RO.nx (RL.bG (hg:=(cg ae)) au.from_ 0 j cL (RO.nx (RL.aX (hg:=(cg ae)) zr qo (RO.nx (RL.aM (hg:=(cg ae)) 3 j zr eL cL ?_))))))))
   refine RO.nx (RL.lh au.from_ aa.1.to (cg ae) (RO.nx (fB ae (vb (decide (au.from_<=aa.1.to))) (RO.last ?_))))
   obtain rfl:=oi hj
   exact⟨rfl,j.sp 5 [2,3,4]⟩
  rintro _ w ⟨O,rfl,j⟩
  refine aH (dT o (fun hc o=>?_) fun hc o=>?_)
  rotate_left
  ·refine RC.ex ?_
   obtain rfl:=oi o
   exact⟨rfl,j.sp 3 [0,1,2]⟩
  refine RC.sn (RC.block (RC.seq (RC.vV mixed [0,0,0,0,0,0,0,0,0,0,1,1,1,1,1,1,0,2,0,2] [0,1,2,3,4,5,6,7,8,9,10,11,12,13,14,15,16,17,18,19] ?_)))
  have j:=j.drew
  refine DP.e0 zr (RL.aX zr qp (aW zr (RL.aM 1 j zr eK cL (aW zr (mv v0 (aW zr (mv (vi aa.2) (aW zr ?_))))))))
  obtain⟨ak,a5,o⟩:=bd o
  refine RL.bO 0 j o7 a5 fun bo j=>(aW zr (RL.dV 0 j zr qp eK fun bp j=>(aW zr (RL.bG ak.from_ 0 j cL (aW zr (RL.min aa.1.from_ ak.from_ (aW zr (RL.aX zr qo ?_))))))))
  refine aW zr (RL.aM 3 j zr eL cL (DP.d0 (DP.e1 v0 zr (fun w=>RL.move v0 zt DP.d1) (DP.e1 (vi aa.2) zr (fun w=>RL.move (vi aa.2) zt DP.d1) ?_))))
  obtain⟨ai,a6,o⟩:=bd o
  refine DP.wM 2 zr j o7 a6 fun bq j=>(DP.CH 0 zr zt j zr qo eL fun br j=>(DP.rO ai.to 0 zr j cL fun a135 bt j=>(DP.e1 (vi (if aa.1.to<ai.to then ai.to else aa.1.to)) zr (fun w=>RL.max aa.1.to ai.to DP.d1) (DP.e0 zr (RL.aX zr qp (oZ zr ?_))))))
  have j:=j.sc Int (if ak.from_<aa.1.from_ then ak.from_ else aa.1.from_)
  refine RL.xo 7 j zr zr zr 0 zr lv cL fun w j=>?_
  refine DP.d2 (⟨zt,j.iv 1⟩) (DP.e0 zr (RL.aX zr qo (oZ zr ?_)))
  have j:=j.sc Int (if aa.1.to<ai.to then ai.to else aa.1.to)
  refine RL.xo 8 j zr zr zr 0 zr lz cL fun w j=>?_
  refine DP.d2 (⟨zt,j.iv 2⟩) ?_
  have j:=j.pl 10 [0,1,3,4,5,6,7,8,9]
  refine DP.z (aH (RC.region (mv (vi aa.2) (RL.gk aa.2 1 (aP (vi (IntKind.wrap .i64 (aa.2+1))) (RL.nil (bP ?_)))))))
  obtain rfl:=oi o
  exact⟨rfl,j.sp 9 [6,7,8]⟩
 ·intro r _ _ _ _
  exact r.elim
 rintro aa _ w rfl ⟨O,rfl,j⟩
 rw [Fo.cZ] at o
 refine aH (RC.sr (mv ah (RL.aZ (f:=(fun x=>x)) 1 j zr Fd.self FU fun a7 j=>(RL.dN ([aa.1]: (List aG)) j [a7] o7 JF (fun M hs g=>⟨(g.sat 0 _ zr).1,zt⟩) fun bu w j=>?_))))
 have j:=j.freeze 0
 obtain⟨bw,a8,o⟩:=bd o
 refine RL.app 4 0 j HM a8 fun ay w j=>?_
 refine aP ay (RL.ns (mv ay (mv v0 (mv (vi aa.2) ?_))))
 obtain⟨bz,a9,o⟩:=bd o
 refine RL.cut 2 j o7 (.inr ⟨rfl,zr⟩) a9 fun b0 j=>?_
 obtain⟨b1,ba,o⟩:=bd o
 refine RL.app 5 0 j HM ba fun bb w j=>?_
 refine aP bb (RL.nt (RC.ret ?_))
 obtain rfl:=oi o
 exact bY (j.pk 6 [5])
theorem kO {p0: (List aI)} {res: (List aG)} (j:Holds E w V) (h0:V[i0]? =some (rd v0 p0)) (hb:gT N p0 p1=some res):
    Calls bN 107 [v0,(vi p1)].toArray w (gJ (lP E V res)):=by
 unfold gT at hb
 refine enter Tryz.func107 zr zr ?_
 have j:=j.dup (i0+0) h0
 refine RC.sr (aP (.slice none 0 0) (RL.ns (aP (.slice none 0 0) (RL.nq (RC.sr (aP (vi 0) (RL.nt ?_)))))))
 obtain⟨a1,hN,hb⟩:=bd hb
 refine RC.iter (fun(aa: (List aG)×Int) U w=>∃aq:Value,SH E V [(0,v0),(1,vi p1),(5,aq),(6,vi aa.2)] [rd v0 p0,own 164 aq aa.1] U w) (fun(aa: (List aG)×Int) U w=>∃af:Value,SH E V [(5,af)] [rd v0 p0,own 164 af aa.1] U w) (fun(r:Empty) _ _=>r.elim) hN ?_ ?_ ?_ ?_
 ·have j:=j.cP aG 164
  exact⟨(.slice none 0 0),j.sp 2 [1,0]⟩
 ·rintro aa fl _ w ⟨ae,O,rfl,j⟩ hb
  refine RC.seq (RC.sr (mv (vi aa.2) (mv v0 (RL.bB 0 p0 j nC (ic aa.2 ((p0.length:Int)) (RL.nt (dT hb (fun hc hb=>?_) fun hc hb=>?_)))))))
  rotate_left
  ·refine RC.ex ?_
   obtain rfl:=oi hb
   exact⟨rfl,ae,j.sp 2 [0,1]⟩
  refine RC.ss (RC.block (RC.seq ?_))
  obtain⟨ak,o,hb⟩:=bd hb
  refine RC.jn (fun(ak:Bool)=>SH E V [(0,v0),(1,vi p1),(5,ae),(6,vi aa.2),(28,vb ak)] [rd v0 p0,own 164 ae aa.1]) ak ?_ ?_
  ·refine RC.region (mv v0 (mv (vi aa.2) ?_))
   obtain⟨al,av,o⟩:=bd o
   refine RL.bO 0 j jm av fun a3 j=>(RL.dV 0 j zr g8 dH fun a4 j=>(RL.bG al.Y0 0 j cL (mv (vi p1) (ic al.Y0 p1 (mv (vb (decide (al.Y0<=p1))) (fA o (fun ab o=>?_) fun ab o=>?_))))))
   rotate_left
   ·refine bC ab (bC ab (bC ab (bC ab (bC ab (bC ab (bC ab (fB ab (vb false) (RL.nil ?_))))))))
    obtain rfl:=oi o
    exact⟨rfl,j.sp 4 [2,3]⟩
   refine RL.move (vi p1) (cg ab) (RL.move v0 (cg ab) (RL.move (vi aa.2) (cg ab) ?_))
   obtain⟨an,aw,o⟩:=bd o
   refine RL.bO (hg:=(cg ab)) 2 j jm aw fun a5 j=>(RL.dV (hg:=(cg ab)) 0 j zr kA fJ fun a6 j=>(RL.bG (hg:=(cg ab)) an.Y1 0 j cL (RL.lh p1 an.Y1 (cg ab) (fB ab (vb (decide (p1<an.Y1))) (RL.nil ?_)))))
   obtain rfl:=oi o
   exact⟨rfl,j.sp 6 [4,5]⟩
  rintro _ w ⟨O,rfl,j⟩
  refine aH ?_
  obtain⟨ao,o,hb⟩:=bd hb
  refine RC.jn (fun(ao: (List aG)) U w=>∃ag:Value,SH E V [(0,v0),(1,vi p1),(5,ag),(6,vi aa.2)] [rd v0 p0,own 164 ag ao] U w) ao ?_ ?_
  ·refine dT o (fun hc o=>?_) fun hc o=>?_
   rotate_left
   ·refine RC.skip ?_
    obtain rfl:=oi o
    exact⟨rfl,ae,j.sp 2 [0,1]⟩
   refine RC.vV mixed [0,0,0,0,0,0,0,0,0,0,0,0,2,0] [0,1,2,3,4,5,6,7,8,9,10,11,12,13] ?_
   have j:=j.drew
   refine DP.e0 zr (mv ae (aW zr (mv v0 (aW zr (mv (vi aa.2) (aW zr ?_))))))
   obtain⟨ah,ax,o⟩:=bd o
   refine RL.bO 0 j jm ax fun a7 j=>(aW zr (RL.dV 0 j zr iw dQ fun a8 j=>(aW zr (RL.bG ah.X0 0 j cL (aW zr (mv v0 (aW zr (mv (vi aa.2) ?_))))))))
   refine aW zr ?_
   obtain⟨ai,ay,o⟩:=bd o
   refine RL.bO 2 j jm ay fun a9 j=>(aW zr (RL.dV 0 j zr jo eJ fun ba j=>(aW zr (RL.bG ai.X1 0 j cL (aW zr ?_)))))
   have j:=(j.sc Int ah.X0).sc Int ai.X1
   refine RL.build (⟨ah.X0,ai.X1⟩:aG) trivial rfl j [(0,vi ah.X0),(1,vi ai.X1)] rfl JE rfl (fun M hs g=>by have h:=pH M;exact cT.cons (f:=fun(x:aG) y=>{x with from_:=y}) h lv (g.sat 1 _ rfl).1 fun _ h=>cT.cons (f:=fun(x:aG) y=>{x with to:=y}) h lz (g.sat 0 _ rfl).1 fun _ h=>cT.nil h) fun az j=>?_
   refine oZ zr ?_
   have j:=j.freeze 8
   obtain⟨uR,a0,o⟩:=bd o
   refine RL.call zt zr JG [ae,az] zr (aD (oz N (i0:=8) (i1:=0) j zr zr a0) ?_)
   rintro ar w j
   refine rB zr (aP ar (DP.d0 (DP.z ?_)))
   obtain rfl:=oi o
   exact⟨rfl,ar,j.sp 10 [8,0]⟩
  rintro _ w ⟨ag,O,rfl,j⟩
  refine bP (aH (RC.region (mv (vi aa.2) (RL.gk aa.2 1 (aP (vi (IntKind.wrap .i64 (aa.2+1))) (RL.nil ?_))))))
  obtain rfl:=oi hb
  exact⟨rfl,ag,j.sp 2 [0,1]⟩
 ·intro r _ _ _ _
  exact r.elim
 rintro aa _ w rfl ⟨af,O,rfl,j⟩
 rw [Fo.cZ] at hb
 refine aH (RC.sr (mv af (aP af (RL.nt (RC.ret ?_)))))
 obtain rfl:=oi hb
 exact bY (j.pk 2 [1])
def rG (E:World) (V:List HP) (r:Bool) (U:Nat->Value) (w:World):Prop:=lG bN 26 Tryz.f126 (aU E V r) .ret U w
theorem q6 {p0: (List aG)} {p1: (List aG)} {res:Bool} (j:Holds E w V) (h0:V[i0]? =some (rd v0 p0)) (h1:V[i1]? =some (rd v1 p1)) (o:jP N p0 p1=some res):
    Calls bN 126 [v0,v1].toArray w (gJ (aU E V res)):=by
 unfold jP at o
 refine enter Tryz.func126 zr zr ?_
 have j:=(j.dup (i0+0) h0).dup (i1+1) h1
 refine RC.sr (aP (vb false) (RL.nq (RC.sr (mv v0 (RL.bB 1 p0 j wo (mv v1 (RL.bB 0 p1 j wo (ic ((p0.length:Int)) ((p1.length:Int)) ?_))))))))
 refine RL.nt (dT o (fun hc o=>?_) fun hc o=>?_)
 ·refine RC.sr (aP (vb false) (RL.nt (RC.rt ?_)))
  obtain rfl:=oi o
  exact bY ⟨rfl,j.drop 2⟩
 refine RC.ss (RC.sr (aP (vi 0) (RL.nt ?_)))
 obtain⟨aj,hN,o⟩:=bd o
 refine RC.iter (fun(aa:Int)=>SH E V [(0,v0),(1,v1),(5,vi aa)] [rd v0 p0,rd v1 p1]) (fun(aa:Int)=>SH E V [] [rd v0 p0,rd v1 p1]) (rG E V) hN ?_ ?_ ?_ ?_
 ·exact j.sp 2 [1,0]
 ·rintro aa fl _ w ⟨O,rfl,j⟩ o
  refine RC.seq (RC.sr (mv (vi aa) (mv v0 (RL.bB 0 p0 j wo (ic aa ((p0.length:Int)) (RL.nt (dT o (fun hc o=>?_) fun hc o=>?_)))))))
  rotate_left
  ·refine RC.ex ?_
   obtain rfl:=oi o
   exact⟨rfl,j.sp 2 [0,1]⟩
  refine RC.ss (RC.block (RC.seq (RC.zm mixed ?_)))
  have j:=j.drew
  refine RO.go (mv v0 (RO.nx (mv (vi aa) (RO.nx ?_))))
  obtain⟨ad,ag,o⟩:=bd o
  refine RL.bO 0 j o7 ag fun al j=>(RO.nx (RL.bJ 0 ad j FU fun an j=>(RO.nx (mv v1 (RO.nx (mv (vi aa) (RO.nx ?_)))))))
  obtain⟨ae,ah,o⟩:=bd o
  refine RL.bO 3 j o7 ah fun ao j=>(RO.nx (RL.bJ 0 ae j FU fun aq j=>(RO.nx (RL.Mg 2 0 ad ae zr j zr zr zr zr Ks zr (RO.last (aH (dT o (fun hc o=>?_) fun hc o=>?_)))))))
  ·refine RC.sr (aP (vb false) (RL.nt (RC.rb (bR ?_))))
   obtain rfl:=oi o
   exact⟨rfl,bY ⟨rfl,j.drop 6⟩⟩
  refine RC.skip (bP (aH (RC.region (mv (vi aa) (RL.gk aa 1 (aP (vi (IntKind.wrap .i64 (aa+1))) (RL.nil ?_)))))))
  obtain rfl:=oi o
  exact⟨rfl,j.sp 6 [4,5]⟩
 ·intro r U w e hK
  subst e
  refine bR ?_
  obtain rfl:=oi o
  exact hK
 rintro aa _ w rfl ⟨O,rfl,j⟩
 rw [Fo.cZ] at o
 refine aH (RC.sr (aP (vb true) (RL.nt (RC.ret ?_))))
 obtain rfl:=oi o
 exact bY ⟨rfl,j.drop 2⟩
def sQ (E:World) (V:List HP) (res: (List aL)) (v:Value) (w:World):Prop:=Holds E w ([own 147 v res]++V)
theorem nN {p0: (List aL)} {p1:aL} {res: (List aL)} (j:Holds E w (own 147 v0 p0::V)) (h1:V[i1]? =some (rd v1 p1)) (hb:fZ N p0 p1=some res):
    Calls bN 106 [v0,v1].toArray w (gJ (sQ E V res)):=by
 unfold fZ at hb
 refine enter Tryz.func106 zr zr ?_
 have j:=j.dup (i1+1) h1
 refine RC.sr (RL.dD 0 v1 j zr fun ak w j=>?_)
 refine aP (.slice none 0 0) (RL.nq (RC.sr (RL.aX zr vF (RL.aZ 0 j zr gp B8 fun aw j=>(RL.bB 0 p1.ja j wo (ic ((p1.ja.length:Int)) 0 (RL.nt (dT hb (fun hc hb=>?_) fun hc hb=>?_))))))))
 ·refine RC.sr (mv v0 (aP v0 (RL.nt (RC.rt ?_))))
  obtain rfl:=oi hb
  exact bY (j.pk 4 [3])
 refine RC.ss (RC.sr (mv v0 (RL.fL 3 p0 j JI (aP (vi p0.length) (RL.nq ?_)))))
 obtain⟨ai,hj,hb⟩:=bd hb
 refine RC.jn (fun(ai:Bool)=>SH E V [(0,v0),(3,vp ak 0),(5,vi p0.length),(36,vb ai)] [own 147 v0 p0,bx 147 ak p1]) ai ?_ ?_
 ·refine RC.vV mixed [0,0,0,0,0,0,0,0,0,0,0,0,0,0,0,0,0,0,0,0,0,0,2,0] [0,1,2,3,4,5,6,7,8,9,10,11,12,13,14,15,16,17,18,19,20,21,22,23] ?_
  have j:=j.drew
  refine DP.e0 zr (mv (vi p0.length) (aW zr (ic ((p0.length:Int)) 0 (aW zr (mv (vb (decide ((p0.length:Int)>0))) (DP.d0 (fA hj (fun o hj=>?_) fun o hj=>?_)))))))
  rotate_left
  ·refine DP.e0 zr (bC o (aW zr (bC o (aW zr (bC o (aW zr (bC o (aW zr ?_))))))))
   refine bC o (aW zr (bC o (aW zr (bC o (aW zr (bC o (aW zr (bC o ?_))))))))
   refine aW zr (fB o (vb false) (aW zr (mv (vb false) (aW zr (kc (aW zr (kc (aW zr ?_))))))))
   refine kc (aW zr (kc (aW zr (kc (aW zr (kc (aW zr (kc ?_))))))))
   refine aW zr (kc (oZ zr (kc (rB zr (RL.pick false (vb false) zr (DP.d0 (DP.z ?_)))))))
   obtain rfl:=oi hj
   exact⟨rfl,j.sp 4 [3,1]⟩
  refine DP.e0 zr (RL.move v0 (cg o) (aW zr (RL.move (vi p0.length) (cg o) (aW zr (RL.gk (hg:=(cg o)) (p0.length:Int) 1 (aW zr ?_))))))
  obtain⟨aj,ae,hj⟩:=bd hj
  refine RL.bT (hg:=(cg o)) 3 j zr zr xP ae (aW zr (RL.kz (hg:=(cg o)) (α:=aL) (jz 3 j ae 0) Ab (aW zr (RL.dR (hg:=(cg o)) 3 j (jz 3 j ae 1) (bH ae).2.1 lA cL (aW zr (RL.aX (hg:=(cg o)) zr FW (aW zr (RL.aM (hg:=(cg o)) 1 j zr om cL ?_))))))))
  refine aW zr (RL.lh aj.to p1.from_ (cg o) (aW zr (fB o (vb (aj.to==p1.from_)) (aW zr (mv (vb (aj.to==p1.from_)) (DP.d0 (fA hj (fun aa hj=>?_) fun aa hj=>?_)))))))
  rotate_left
  ·refine DP.e0 zr (bC aa (aW zr (bC aa (aW zr (bC aa (aW zr (bC aa (aW zr ?_))))))))
   refine bC aa (aW zr (bC aa (aW zr (bC aa (aW zr (bC aa (oZ zr (bC aa ?_))))))))
   refine rB zr (fB aa (vb false) (DP.d0 (DP.z ?_)))
   obtain rfl:=oi hj
   exact⟨rfl,j.sp 4 [3,1]⟩
  refine DP.e0 zr (RL.move v0 (cg aa) (aW zr (RL.move (vi p0.length) (cg aa) (aW zr (RL.gk (hg:=(cg aa)) (p0.length:Int) 1 (aW zr ?_))))))
  obtain⟨ax,af,hj⟩:=bd hj
  refine RL.bT (hg:=(cg aa)) 3 j zr zr xP af (aW zr (RL.kz (hg:=(cg aa)) (α:=aL) (jz 3 j af 0) vF (aW zr (RL.jM (hg:=(cg aa)) 3 j (jz 3 j af 2) (bH af).2.1 gp B8 fun al j=>?_))))
  refine aW zr (RL.aX (hg:=(cg aa)) zr vF (aW zr (RL.aZ (hg:=(cg aa)) 2 j zr gp B8 fun an j=>(oZ zr ?_))))
  obtain⟨ao,aq,hj⟩:=bd hj
  refine RL.call (cg aa) zr LF [al,an] zr (aD (q6 N (i0:=1) (i1:=0) j zr zr aq) ?_)
  rintro _ w ⟨rfl,j⟩
  refine rB zr (fB aa (vb ao) (DP.d0 (DP.z ?_)))
  obtain rfl:=oi hj
  exact⟨rfl,j.sp 6 [5,3]⟩
 rintro _ w ⟨O,rfl,j⟩
 refine aH (dT hb (fun hc hb=>?_) fun hc hb=>?_)
 rotate_left
 ·refine RC.sx (mv v0 (RL.aZ (f:=(fun x=>x)) 1 j zr Fd.self LG fun ar j=>(RL.dN ([p1]: (List aL)) j [ar] xP LH (fun M hs g=>⟨(g.sat 0 _ zr).1,zt⟩) fun ay w j=>?_)))
  have j:=j.freeze 0
  obtain⟨az,au,hb⟩:=bd hb
  refine RL.app 2 0 j LI au fun av w j=>?_
  refine aP av (RL.nt (RC.ret ?_))
  obtain rfl:=oi hb
  exact bY (j.pk 4 [2])
 refine RC.sr (mv v0 (mv (vi p0.length) (RL.gk (p0.length:Int) 1 (RL.aX zr Ab (RL.aM 1 j zr lA cL ?_)))))
 obtain⟨a0,ag,hb⟩:=bd hb
 refine RL.bT 0 j zr zr xP ag (RL.kz (α:=aL) (jz 0 j ag 0) Ab ?_)
 have j:=j.sc Int p1.to
 refine RL.gK 1 0 j (jz 1 j ag 1) (bH ag).2.1 zr lB cL fun w j=>?_
 refine RL.ns (mv v0 (aP v0 (RL.nt (RC.rt ?_))))
 obtain rfl:=oi hb
 exact bY (j.pk 3 [1])
theorem o8 {p0: (List aL)} {res: (List aI)} (j:Holds E w V) (h0:V[i0]? =some (rd v0 p0)) (o:ji N p0=some res):
    Calls bN 108 [v0].toArray w (gJ (fX E V res)):=by
 unfold ji at o
 refine enter Tryz.func108 zr zr ?_
 have j:=j.dup (i0+0) h0
 refine RC.sr (aP (.slice none 0 0) (RL.ns (aP (.slice none 0 0) (RL.nq (RC.sr (aP (vi 0) (RL.nt ?_)))))))
 obtain⟨a7,hN,o⟩:=bd o
 refine RC.iter (fun(aa: (List aI)×Int) U w=>∃ao:Value,SH E V [(0,v0),(3,ao),(4,vi aa.2)] [rd v0 p0,own 69 ao aa.1] U w) (fun(aa: (List aI)×Int) U w=>∃ad:Value,SH E V [(3,ad)] [rd v0 p0,own 69 ad aa.1] U w) (fun(r:Empty) _ _=>r.elim) hN ?_ ?_ ?_ ?_
 ·have j:=j.cP aI 69
  exact⟨(.slice none 0 0),j.sp 2 [1,0]⟩
 ·rintro aa fl _ w ⟨aq,O,rfl,j⟩ o
  refine RC.seq (RC.sr (mv (vi aa.2) (mv v0 (RL.bB 0 p0 j JI (ic aa.2 ((p0.length:Int)) (RL.nt (dT o (fun hc o=>?_) fun hc o=>?_)))))))
  rotate_left
  ·refine RC.ex ?_
   obtain rfl:=oi o
   exact⟨rfl,aq,j.sp 2 [0,1]⟩
  refine RC.ss (RC.bs (aP (vi 0) (RL.nt ?_)))
  obtain⟨a8,hN,o⟩:=bd o
  refine RC.iter (fun(ab: (List aI)×Int) U w=>∃ar:Value,SH E V [(0,v0),(3,ar),(4,vi aa.2),(5,vi ab.2)] [rd v0 p0,own 69 ar ab.1] U w) (fun(ab: (List aI)×Int) U w=>∃ai:Value,SH E V [(0,v0),(3,ai),(4,vi aa.2)] [rd v0 p0,own 69 ai ab.1] U w) (fun(r:Empty) _ _=>r.elim) hN ?_ ?_ ?_ ?_
  ·exact⟨aq,j.sp 2 [0,1]⟩
  ·rintro ab fl _ w ⟨al,O,rfl,j⟩ o
   refine RC.seq (RC.sr (mv (vi ab.2) (mv v0 (mv (vi aa.2) ?_))))
   obtain⟨an,aw,o⟩:=bd o
   refine RL.bO 0 j xP aw fun a9 j=>(RL.dV 0 j zr vF gp fun ba j=>(RL.bJ 0 an.ja j B8 fun bb j=>(RL.bB 0 an.ja j wo (ic ab.2 ((an.ja.length:Int)) (RL.nt (dT o (fun hc o=>?_) fun hc o=>?_))))))
   rotate_left
   ·refine RC.ex ?_
    obtain rfl:=oi o
    exact⟨rfl,al,j.sp 5 [3,4]⟩
   refine RC.ss (RC.block (RC.vV mixed [1,0,0,0,0,0,0,0,0,0,0,0,0,0,0,0,0,0,0,0,0,0,0,0,0,0,0,0,0,0,2,2,0] [0,1,2,3,4,5,6,7,8,9,10,11,12,13,14,15,16,17,18,19,20,21,22,23,24,25,26,27,28,29,30,31,32] ?_))
   have j:=j.drew
   refine DP.e1 al zr (fun w=>RL.move al zt DP.d1) (DP.e0 zr (mv v0 (aW zr (mv (vi aa.2) (aW zr ?_)))))
   obtain⟨ax,ay,o⟩:=bd o
   refine RL.bO 3 j xP ay fun bc j=>(aW zr (RL.dV 0 j zr vF gp fun bf j=>(aW zr (RL.bJ 0 ax.ja j B8 fun bg j=>(aW zr (mv (vi ab.2) (aW zr ?_)))))))
   obtain⟨ae,az,o⟩:=bd o
   refine RL.bO 0 j o7 az fun bh j=>(aW zr (RL.dV 0 j zr qp eK fun bj j=>(aW zr (RL.bG ae.from_ 0 j cL (aW zr (mv v0 (aW zr (mv (vi aa.2) ?_))))))))
   refine aW zr ?_
   obtain⟨af,a0,o⟩:=bd o
   refine RL.bO 8 j xP a0 fun bk j=>(aW zr (RL.dV 0 j zr FW om fun bl j=>(aW zr (RL.bG af.from_ 0 j cL (aW zr (mv v0 (aW zr (mv (vi aa.2) ?_))))))))
   refine aW zr ?_
   obtain⟨a1,a2,o⟩:=bd o
   refine RL.bO 10 j xP a2 fun bm j=>(aW zr (RL.dV 0 j zr vF gp fun bn j=>(aW zr (RL.bJ 0 a1.ja j B8 fun bo j=>(aW zr (mv (vi ab.2) (aW zr ?_)))))))
   obtain⟨ag,a3,o⟩:=bd o
   refine RL.bO 0 j o7 a3 fun bp j=>(aW zr (RL.dV 0 j zr qo eL fun bq j=>(aW zr (RL.bG ag.to 0 j cL (aW zr (mv v0 (aW zr (mv (vi aa.2) ?_))))))))
   refine aW zr ?_
   obtain⟨ah,a4,o⟩:=bd o
   refine RL.bO 15 j xP a4 fun br j=>(aW zr (RL.dV 0 j zr Ab lA fun bt j=>(aW zr (RL.bG ah.to 0 j cL (aW zr ?_)))))
   have j:=(((j.sc Int ae.from_).sc Int af.from_).sc Int ag.to).sc Int ah.to
   refine RL.build (⟨ae.from_,af.from_,ag.to,ah.to⟩:aI) trivial rfl j [(0,vi ae.from_),(1,vi af.from_),(2,vi ag.to),(3,vi ah.to)] rfl DV rfl (fun M hs g=>by have h:=tF M;exact cT.cons (f:=fun(x:aI) y=>{x with X0:=y}) h pf (g.sat 3 _ rfl).1 fun _ h=>cT.cons (f:=fun(x:aI) y=>{x with Y0:=y}) h qC (g.sat 2 _ rfl).1 fun _ h=>cT.cons (f:=fun(x:aI) y=>{x with X1:=y}) h pg (g.sat 1 _ rfl).1 fun _ h=>cT.cons (f:=fun(x:aI) y=>{x with Y1:=y}) h qD (g.sat 0 _ rfl).1 fun _ h=>cT.nil h) fun a5 j=>?_
   refine oZ zr (RL.dN ([(⟨ae.from_,af.from_,ag.to,ah.to⟩:aI)]: (List aI)) j [a5] jm oR (fun M hs g=>⟨(g.sat 0 _ zr).1,zt⟩) fun bu w j=>(EI zr ?_))
   have j:=j.freeze 0
   obtain⟨bw,a6,o⟩:=bd o
   refine RL.app 24 0 j Av a6 fun au w j=>?_
   refine rB zr (aP au (DP.d0 (DP.z (bP (aH (RC.region (mv (vi ab.2) (RL.gk ab.2 1 ?_))))))))
   refine aP (vi (IntKind.wrap .i64 (ab.2+1))) (RL.nil ?_)
   obtain rfl:=oi o
   exact⟨rfl,au,j.sp 25 [23,24]⟩
  ·intro r _ _ _ _
   exact r.elim
  rintro ab _ w rfl ⟨ai,O,rfl,j⟩
  rw [Fo.cZ] at o
  refine bP (aH (RC.region (mv (vi aa.2) (RL.gk aa.2 1 (aP (vi (IntKind.wrap .i64 (aa.2+1))) (RL.nil ?_))))))
  obtain rfl:=oi o
  exact⟨rfl,ai,j.sp 2 [0,1]⟩
 ·intro r _ _ _ _
  exact r.elim
 rintro aa _ w rfl ⟨ad,O,rfl,j⟩
 rw [Fo.cZ] at o
 refine aH (RC.sr (mv ad (aP ad (RL.nt (RC.ret ?_)))))
 obtain rfl:=oi o
 exact bY (j.pk 2 [1])
theorem kn {p0: (List aI)} {res: (List aI)} (j:Holds E w V) (h0:V[i0]? =some (rd v0 p0)) (o:fz N p0=some res):
    Calls bN 68 [v0].toArray w (gJ (fX E V res)):=by
 unfold fz at o
 refine enter Tryz.func68 zr zr ?_
 have j:=j.dup (i0+0) h0
 refine RC.sr (aP (.slice none 0 0) (RL.ns (mv v0 ?_)))
 obtain⟨ae,al,o⟩:=bd o
 refine RL.call zt zr JD [v0] zr (aD (nM N (i0:=0) j zr al) ?_)
 rintro ab w j
 refine aP ab (RL.ns (aP (.slice none 0 0) (RL.nq (RC.sr (aP (vi 1) (RL.nt ?_))))))
 obtain⟨a2,hN,o⟩:=bd o
 refine RC.iter (fun(aa: (List aL)×Int) U w=>∃aj:Value,SH E V [(0,v0),(3,ab),(4,aj),(5,vi aa.2)] [rd v0 p0,rd ab ae,own 147 aj aa.1] U w) (fun(aa: (List aL)×Int) U w=>∃ad:Value,SH E V [(4,ad)] [rd v0 p0,rd ab ae,own 147 ad aa.1] U w) (fun(r:Empty) _ _=>r.elim) hN ?_ ?_ ?_ ?_
 ·have j:=j.cP aL 147
  exact⟨(.slice none 0 0),j.sp 3 [2,1,0]⟩
 ·rintro aa fl _ w ⟨af,O,rfl,j⟩ o
  refine RC.seq (RC.sr (mv (vi aa.2) (mv ab (RL.bB 1 ae j mB (ic aa.2 ((ae.length:Int)) (RL.nt (dT o (fun hc o=>?_) fun hc o=>?_)))))))
  rotate_left
  ·refine RC.ex ?_
   obtain rfl:=oi o
   exact⟨rfl,af,j.sp 3 [0,1,2]⟩
  refine RC.ss (RC.block (RC.vV mixed [1,1,1,1,1,1,1,1,1,1,0,0,0,0,0,0,2,0,2,0] [0,1,2,3,4,5,6,7,8,9,10,11,12,13,14,15,16,17,18,19] ?_))
  have j:=j.drew
  refine DP.e1 af zr (fun w=>RL.move af zt DP.d1) (DP.e1 ab zr (fun w=>RL.move ab zt DP.d1) (DP.e1 (vi aa.2) zr (fun w=>RL.move (vi aa.2) zt DP.d1) (DP.e1 (vi (IntKind.wrap .i64 (aa.2 - 1))) zr (fun w=>RL.gk aa.2 1 DP.d1) ?_)))
  obtain⟨ag,aq,o⟩:=bd o
  refine DP.wM 1 zr j eF aq fun a4 j=>(DP.rO ag 0 zr j cL fun a72 a5 j=>(DP.e1 ab zr (fun w=>RL.move ab zt DP.d1) (DP.e1 (vi aa.2) zr (fun w=>RL.move (vi aa.2) zt DP.d1) ?_)))
  obtain⟨ah,ar,o⟩:=bd o
  refine DP.wM 3 zr j eF ar fun a6 j=>(DP.rO ah 0 zr j cL fun a76 a7 j=>(DP.e0 zr (mv v0 (aW zr (mv ab (aW zr (mv (vi aa.2) (aW zr ?_))))))))
  refine RL.gk aa.2 1 (aW zr ?_)
  obtain⟨ai,au,o⟩:=bd o
  refine RL.bO 5 j eF au fun a8 j=>(aW zr (RL.bG ai 0 j cL (oZ zr ?_)))
  obtain⟨av,aw,o⟩:=bd o
  refine RL.call zt zr FV [v0,(vi ai)] zr (aD (kO N (p1:=ai) (i0:=5) j zr aw) ?_)
  rintro ax w j
  refine DP.d2 (⟨⟨zt,j.iv 4⟩,j.iv 2⟩) (DP.e0 zr ?_)
  have j:=((j.sc Int ag).sc Int ah).freeze 2
  refine RL.build (⟨ag,ah,av⟩:aL) trivial rfl j [(0,vi ag),(1,vi ah),(2,ax)] rfl JH rfl (fun M hs g=>by have h:=pG M;exact cT.cons (f:=fun(x:aL) y=>{x with from_:=y}) h oq (g.sat 1 _ rfl).1 fun _ h=>cT.cons (f:=fun(x:aL) y=>{x with to:=y}) h lB (g.sat 0 _ rfl).1 fun _ h=>cT.cons (f:=fun(x:aL) y=>{x with ja:=y}) h ot (g.sat 2 _ rfl).1 fun _ h=>cT.nil h) fun ay j=>?_
  refine oZ zr ?_
  have j:=j.pull 11
  obtain⟨a9,az,o⟩:=bd o
  refine RL.call zt zr JJ [af,ay] zr (aD (nN N (i1:=0) j zr az) ?_)
  rintro ak w j
  refine DP.d2 (⟨⟨zt,j.iv 8⟩,j.iv 6⟩) (DP.e0 zr (aP ak (DP.d0 ?_)))
  have j:=j.pl 13 [0,1,2,3,4,5,7,9,10,11,12]
  refine DP.z (bP (aH (RC.region (mv (vi aa.2) (RL.gk aa.2 1 (aP (vi (IntKind.wrap .i64 (aa.2+1))) (RL.nil ?_)))))))
  obtain rfl:=oi o
  exact⟨rfl,ak,j.sp 11 [8,9,0]⟩
 ·intro r _ _ _ _
  exact r.elim
 rintro aa _ w rfl ⟨ad,O,rfl,j⟩
 rw [Fo.cZ] at o
 refine aH (RC.sr (mv ad ?_))
 have j:=j.freeze 2
 obtain⟨ba,a0,o⟩:=bd o
 refine RL.call zt zr JK [ad] zr (aD (o8 N (i0:=2) j zr a0) ?_)
 rintro a1 w j
 refine aP a1 (RL.nt (RC.ret ?_))
 obtain rfl:=oi o
 exact bY (j.pk 4 [0])
def rH (E:World) (V:List HP) (r:Bool) (U:Nat->Value) (w:World):Prop:=lG bN 26 Tryz.f99 (aU E V r) .ret U w
theorem q7 {p0: (List aI)} {p1: (List aI)} {res:Bool} (j:Holds E w V) (h0:V[i0]? =some (rd v0 p0)) (h1:V[i1]? =some (rd v1 p1)) (o:jQ N p0 p1=some res):
    Calls bN 99 [v0,v1].toArray w (gJ (aU E V res)):=by
 unfold jQ at o
 refine enter Tryz.func99 zr zr ?_
 have j:=(j.dup (i0+0) h0).dup (i1+1) h1
 refine RC.sr (aP (vb false) (RL.nq (RC.sr (mv v0 (RL.bB 1 p0 j nC (mv v1 (RL.bB 0 p1 j nC (ic ((p0.length:Int)) ((p1.length:Int)) ?_))))))))
 refine RL.nt (dT o (fun hc o=>?_) fun hc o=>?_)
 ·refine RC.sr (aP (vb false) (RL.nt (RC.rt ?_)))
  obtain rfl:=oi o
  exact bY ⟨rfl,j.drop 2⟩
 refine RC.ss (RC.sr (aP (vi 0) (RL.nt ?_)))
 obtain⟨aj,hN,o⟩:=bd o
 refine RC.iter (fun(aa:Int)=>SH E V [(0,v0),(1,v1),(5,vi aa)] [rd v0 p0,rd v1 p1]) (fun(aa:Int)=>SH E V [] [rd v0 p0,rd v1 p1]) (rH E V) hN ?_ ?_ ?_ ?_
 ·exact j.sp 2 [1,0]
 ·rintro aa fl _ w ⟨O,rfl,j⟩ o
  refine RC.seq (RC.sr (mv (vi aa) (mv v0 (RL.bB 0 p0 j nC (ic aa ((p0.length:Int)) (RL.nt (dT o (fun hc o=>?_) fun hc o=>?_)))))))
  rotate_left
  ·refine RC.ex ?_
   obtain rfl:=oi o
   exact⟨rfl,j.sp 2 [0,1]⟩
  refine RC.ss (RC.block (RC.seq (RC.zm mixed ?_)))
  have j:=j.drew
  refine RO.go (mv v0 (RO.nx (mv (vi aa) (RO.nx ?_))))
  obtain⟨ad,ag,o⟩:=bd o
  refine RL.bO 0 j jm ag fun al j=>(RO.nx (RL.bJ 0 ad j iK fun an j=>(RO.nx (mv v1 (RO.nx (mv (vi aa) (RO.nx ?_)))))))
  obtain⟨ae,ah,o⟩:=bd o
  refine RL.bO 3 j jm ah fun ao j=>(RO.nx (RL.bJ 0 ae j iK fun aq j=>(RO.nx (RL.Mg 2 0 ad ae zr j zr zr zr zr HD zr (RO.last (aH (dT o (fun hc o=>?_) fun hc o=>?_)))))))
  ·refine RC.sr (aP (vb false) (RL.nt (RC.rb (bR ?_))))
   obtain rfl:=oi o
   exact⟨rfl,bY ⟨rfl,j.drop 6⟩⟩
  refine RC.skip (bP (aH (RC.region (mv (vi aa) (RL.gk aa 1 (aP (vi (IntKind.wrap .i64 (aa+1))) (RL.nil ?_)))))))
  obtain rfl:=oi o
  exact⟨rfl,j.sp 6 [4,5]⟩
 ·intro r U w e hK
  subst e
  refine bR ?_
  obtain rfl:=oi o
  exact hK
 rintro aa _ w rfl ⟨O,rfl,j⟩
 rw [Fo.cZ] at o
 refine aH (RC.sr (aP (vb true) (RL.nt (RC.ret ?_))))
 obtain rfl:=oi o
 exact bY ⟨rfl,j.drop 2⟩
def qt (E:World) (V:List HP) (r:Int) (U:Nat->Value) (w:World):Prop:=lG bN 32 Tryz.f63 (aY E V r) .ret U w
theorem lV {p0: (List aI)} (o:Holds E w V) (h0:V[i0]? =some (rd v0 p0)) (j:fH N p0=some res):
    Calls bN 63 [v0].toArray w (gJ (aY E V res)):=by
 unfold fH at j
 refine enter Tryz.func63 zr zr ?_
 have o:=o.dup (i0+0) h0
 refine RC.sr (aP (vi 0) (RL.nq (RC.sr (mv v0 ?_))))
 obtain⟨ad,ae,j⟩:=bd j
 refine RL.call zt zr M9 [v0] zr (aD (qs N (i0:=0) o zr ae) ?_)
 rintro _ w ⟨rfl,o⟩
 refine aP (vi ad) (RL.ns (mv (vi ad) (ic ad 0 (RL.nt (dT j (fun hc j=>?_) fun hc j=>?_)))))
 ·refine RC.sr (mv (vi ad) (aP (vi ad) (RL.nt (RC.rt ?_))))
  obtain rfl:=oi j
  exact bY ⟨rfl,o.drop 1⟩
 refine RC.ss (RC.sr (aP (vi 1) (RL.nt ?_)))
 obtain⟨ax,hN,j⟩:=bd j
 refine RC.iter (fun(aa:Int)=>SH E V [(0,v0),(4,vi aa)] [rd v0 p0]) (fun(aa:Int)=>SH E V [(0,v0)] [rd v0 p0]) (qt E V) hN ?_ ?_ ?_ ?_
 ·exact o.sp 1 [0]
 ·rintro aa fl _ w ⟨O,rfl,o⟩ j
  refine RC.seq (RC.sr (mv (vi aa) (mv v0 (RL.bB 0 p0 o nC (ic aa ((p0.length:Int)) (RL.nt (dT j (fun hc j=>?_) fun hc j=>?_)))))))
  rotate_left
  ·refine RC.ex ?_
   obtain rfl:=oi j
   exact⟨rfl,o.sp 1 [0]⟩
  refine RC.ss (RC.block (RC.seq (RC.vV mixed [0,0,0,0,0,0,0,0,0,2,0] [0,1,2,3,4,5,6,7,8,9,10] ?_)))
  have o:=o.drew
  refine DP.e0 zr (mv v0 (aW zr (mv (vi aa) (aW zr (RL.gk aa 1 (aW zr ?_))))))
  obtain⟨ag,ah,j⟩:=bd j
  refine RL.bO 0 o jm ah fun az o=>(aW zr (RL.bJ 0 ag o iK fun ai o=>(aW zr (mv v0 (aW zr (mv (vi aa) (aW zr ?_)))))))
  obtain⟨aj,ak,j⟩:=bd j
  refine RL.bO 2 o jm ak fun a0 o=>(aW zr (RL.bJ 0 aj o iK fun al o=>(oZ zr ?_)))
  obtain⟨an,ao,j⟩:=bd j
  refine RL.call zt zr LD [ai,al] zr (aD (oy N (i0:=2) (i1:=0) o zr zr ao) ?_)
  rintro _ w ⟨rfl,o⟩
  refine rB zr (RL.not an (DP.d0 (DP.z (aH (dT j (fun hc j=>?_) fun hc j=>?_)))))
  ·refine RC.sr (aP (vi 8) (RL.nt (RC.rb (bR ?_))))
   obtain rfl:=oi j
   exact⟨rfl,bY ⟨rfl,o.drop 5⟩⟩
  refine RC.skip (bP (aH (RC.region (mv (vi aa) (RL.gk aa 1 (aP (vi (IntKind.wrap .i64 (aa+1))) (RL.nil ?_)))))))
  obtain rfl:=oi j
  exact⟨rfl,o.sp 5 [4]⟩
 ·intro r U w e hK
  subst e
  refine bR ?_
  obtain rfl:=oi j
  exact hK
 rintro aa _ w rfl ⟨O,rfl,o⟩
 rw [Fo.cZ] at j
 refine aH (RC.seq (RC.sr (mv v0 (mv v0 ?_))))
 obtain⟨a1,ar,j⟩:=bd j
 refine RL.call zt zr Kt [v0] zr (aD (kn N (i0:=0) o zr ar) ?_)
 rintro au w o
 have o:=o.freeze 0
 obtain⟨av,aw,j⟩:=bd j
 refine RL.call zt zr Na [v0,au] zr (aD (q7 N (i0:=1) (i1:=0) o zr zr aw) ?_)
 rintro _ w ⟨rfl,o⟩
 refine RL.not av (RL.nt (dT j (fun hc j=>?_) fun hc j=>?_))
 ·refine RC.sr (aP (vi 3) (RL.nt (RC.rt ?_)))
  obtain rfl:=oi j
  exact bY ⟨rfl,o.drop 2⟩
 refine RC.sx (aP (vi 0) (RL.nt (RC.ret ?_)))
 obtain rfl:=oi j
 exact bY ⟨rfl,o.drop 2⟩
theorem iM {res:Bool} (o:Holds E w V) (j:dY N p0 p1 p2=some res):
    Calls bN 65 [(vi p0),(vi p1),(vi p2)].toArray w (gJ (aU E V res)):=by
 unfold dY at j
 refine enter Tryz.func65 zr zr (RC.sr (aP (vb false) (RL.ns (mv (vi p0) (mv (vi p1) (ic p0 p1 (mv (vb (decide (p0>=p1))) (RL.gs true (decide (p0>=p1)) (vi p0) zr zr zr cH ?_))))))))
 refine RL.gs true (decide (p0>=p1)) (vi p2) rfl rfl rfl cH (RL.gs true (decide (p0>=p1)) (vb (decide (p0<=p2))) rfl rfl rfl (dK .leq .i64 p0 p2 rfl (fun h=>by exact(cM h:cv (true&&((decide (p0>=p1))==true)) (vi p0)= (vi p0))) (fun h=>by exact(cM h:cv (true&&((decide (p0>=p1))==true)) (vi p2)= (vi p2))) rfl) (RL.pick (decide (p0>=p1)) (vb ((decide (p0>=p1))&&(decide (p0<=p2)))) (gr true rfl) (aP (vb ((decide (p0>=p1))&&(decide (p0<=p2)))) (RL.nt (RC.ret ?_)))))
 obtain rfl:=oi j
 exact bY ⟨rfl,o.drop 0⟩
theorem nO {p0:jw} {res:Bool} (j:Holds E w V) (h0:V[i0]? =some (rd v0 p0)) (hb:f0 N p0=some res):
    Calls bN 100 [v0].toArray w (gJ (aU E V res)):=by
 unfold f0 at hb
 refine enter Tryz.func100 zr zr ?_
 have j:=j.dup (i0+0) h0
 refine RC.sr (RL.dD 0 v0 j zr fun ai w j=>?_)
 refine aP (vb false) (RL.nq ?_)
 obtain⟨ad,o,hb⟩:=bd hb
 refine RC.jn (fun(ad:Bool)=>SH E V [(2,vb ad)] []) ad ?_ ?_
 ·refine RC.region (RL.aX zr wP (RL.aM 0 j zr nZ cL ?_))
  obtain⟨af,ag,o⟩:=bd o
  refine RL.call zt zr wm [(vi p0.X)] zr (aD (eN N (p0:=p0.X) j ag) ?_)
  rintro _ w ⟨rfl,j⟩
  refine mv (vb af) (fA o (fun aa o=>?_) fun aa o=>?_)
  rotate_left
  ·refine bC aa (bC aa (bC aa (fB aa (vb false) (aP (vb false) (RL.nil ?_)))))
   obtain rfl:=oi o
   exact⟨rfl,j.sp 2 []⟩
  refine RL.aX (hg:=(cg aa)) zr wQ (RL.aM (hg:=(cg aa)) 0 j zr n0 cL ?_)
  obtain⟨ae,ah,o⟩:=bd o
  refine RL.call (cg aa) zr wm [(vi p0.Y)] zr (aD (eN N (p0:=p0.Y) j ah) ?_)
  rintro _ w ⟨rfl,j⟩
  refine fB aa (vb ae) (aP (vb ae) (RL.nil ?_))
  obtain rfl:=oi o
  exact⟨rfl,j.sp 2 []⟩
 rintro _ w ⟨O,rfl,j⟩
 refine aH (RC.ret ?_)
 obtain rfl:=oi hb
 exact bY ⟨rfl,j.drop 0⟩
theorem fK {p0:cA} {res:aI} (j:Holds E w V) (h0:V[i0]? =some (rd v0 p0)) (o:cJ N p0=some res):
    Calls bN 32 [v0].toArray w (gJ (oS E V res)):=by
 unfold cJ at o
 refine enter Tryz.func32 zr zr ?_
 have j:=j.dup (i0+0) h0
 refine RC.sr (RL.dD 0 v0 j zr fun aa w j=>?_)
 refine RL.alloc j oR.z fun ab w j=>?_
 refine RL.nq (RC.zm mixed ?_)
 have j:=j.drew
 refine RO.go (RL.aX zr yF (RO.nx (RL.aX zr wP (RO.nx (RL.aM (f:=(fun x=>x.At.X)) 1 j zr (Fd.comp (f:=fun(x:cA)=>x.At) (fun(x:jw)=>x.X) qE nZ) cL (RO.nx (RL.aX zr r6 (RO.nx ?_))))))))
 refine RL.aM 1 j zr mb cL (RO.nx (RL.quo p0.dG 2 (RO.nx (RL.gk p0.At.X (IntKind.wrap .i64 (Int.tdiv p0.dG 2)) (RO.nx (RL.aX zr yF (RO.nx (RL.aX zr wQ ?_))))))))
 refine RO.nx (RL.aM (f:=(fun x=>x.At.Y)) 1 j zr (Fd.comp (f:=fun(x:cA)=>x.At) (fun(x:jw)=>x.Y) qE n0) cL (RO.nx (RL.aX zr r6 (RO.nx (RL.aM 1 j zr mb cL (RO.nx (RL.quo p0.dG 2 (RO.nx ?_))))))))
 refine RL.gk p0.At.Y (IntKind.wrap .i64 (Int.tdiv p0.dG 2)) (RO.nx (aP (vi (IntKind.wrap .i64 (p0.At.X - (IntKind.wrap .i64 (Int.tdiv p0.dG 2))))) (RO.nx (aP (vi (IntKind.wrap .i64 (p0.At.Y - (IntKind.wrap .i64 (Int.tdiv p0.dG 2))))) (RO.last (aH (RC.sr (mv (vi (IntKind.wrap .i64 (p0.At.X - (IntKind.wrap .i64 (Int.tdiv p0.dG 2))))) ?_))))))))
 refine mv (vi (IntKind.wrap .i64 (p0.At.Y - (IntKind.wrap .i64 (Int.tdiv p0.dG 2))))) (mv (vi (IntKind.wrap .i64 (p0.At.X - (IntKind.wrap .i64 (Int.tdiv p0.dG 2))))) (RL.aX zr r6 (RL.aM 1 j zr mb cL (RL.gk (IntKind.wrap .i64 (p0.At.X - (IntKind.wrap .i64 (Int.tdiv p0.dG 2)))) p0.dG (mv (vi (IntKind.wrap .i64 (p0.At.Y - (IntKind.wrap .i64 (Int.tdiv p0.dG 2))))) (RL.aX zr r6 (RL.aM 1 j zr mb cL (RL.gk (IntKind.wrap .i64 (p0.At.Y - (IntKind.wrap .i64 (Int.tdiv p0.dG 2)))) p0.dG ?_))))))))
 have j:=((j.sc Int (IntKind.wrap .i64 (p0.At.X - (IntKind.wrap .i64 (Int.tdiv p0.dG 2))))).sc Int (IntKind.wrap .i64 (p0.At.Y - (IntKind.wrap .i64 (Int.tdiv p0.dG 2))))).sc Int (IntKind.wrap .i64 ((IntKind.wrap .i64 (p0.At.X - (IntKind.wrap .i64 (Int.tdiv p0.dG 2))))+p0.dG))
 have j:=j.sc Int (IntKind.wrap .i64 ((IntKind.wrap .i64 (p0.At.Y - (IntKind.wrap .i64 (Int.tdiv p0.dG 2))))+p0.dG))
 refine RL.build (⟨(IntKind.wrap .i64 (p0.At.X - (IntKind.wrap .i64 (Int.tdiv p0.dG 2)))),(IntKind.wrap .i64 (p0.At.Y - (IntKind.wrap .i64 (Int.tdiv p0.dG 2)))),(IntKind.wrap .i64 ((IntKind.wrap .i64 (p0.At.X - (IntKind.wrap .i64 (Int.tdiv p0.dG 2))))+p0.dG)),(IntKind.wrap .i64 ((IntKind.wrap .i64 (p0.At.Y - (IntKind.wrap .i64 (Int.tdiv p0.dG 2))))+p0.dG))⟩:aI) trivial rfl j [(0,(vi (IntKind.wrap .i64 (p0.At.X - (IntKind.wrap .i64 (Int.tdiv p0.dG 2)))))),(1,(vi (IntKind.wrap .i64 (p0.At.Y - (IntKind.wrap .i64 (Int.tdiv p0.dG 2)))))),(2,(vi (IntKind.wrap .i64 ((IntKind.wrap .i64 (p0.At.X - (IntKind.wrap .i64 (Int.tdiv p0.dG 2))))+p0.dG)))),(3,(vi (IntKind.wrap .i64 ((IntKind.wrap .i64 (p0.At.Y - (IntKind.wrap .i64 (Int.tdiv p0.dG 2))))+p0.dG))))] rfl DV rfl (fun M hs g=>by have h:=tF M;exact cT.cons (f:=fun(x:aI) y=>{x with X0:=y}) h pf (g.sat 3 _ rfl).1 fun _ h=>cT.cons (f:=fun(x:aI) y=>{x with Y0:=y}) h qC (g.sat 2 _ rfl).1 fun _ h=>cT.cons (f:=fun(x:aI) y=>{x with X1:=y}) h pg (g.sat 1 _ rfl).1 fun _ h=>cT.cons (f:=fun(x:aI) y=>{x with Y1:=y}) h qD (g.sat 0 _ rfl).1 fun _ h=>cT.nil h) fun ad j=>?_
 refine RL.bZ 5 j 0 zr iK fun w j=>?_
 refine RL.nt (RC.ret ?_)
 obtain rfl:=oi o
 exact IH 5 zr j zr zr iK fun ae j=>(j.pk 9 [0])
theorem p6 {p0:cA} (j:Holds E w V) (h0:V[i0]? =some (rd v0 p0)) (hb:gL N p0=some res):
    Calls bN 64 [v0].toArray w (gJ (aY E V res)):=by
 unfold gL at hb
 refine enter Tryz.func64 zr zr ?_
 have j:=j.dup (i0+0) h0
 refine RC.sr (RL.dD 0 v0 j zr fun an w j=>?_)
 refine aP (vi 0) (RL.nq (RC.seq ?_))
 obtain⟨ah,o,hb⟩:=bd hb
 refine RC.jn (fun(ah:Bool)=>SH E V [(1,vp an 0),(13,vb ah)] [bx 73 an p0]) ah ?_ ?_
 ·refine RC.region (RL.aX zr r6 (RL.aM 0 j zr mb cL ?_))
  obtain⟨ao,av,o⟩:=bd o
  refine RL.call zt zr HN [(vi p0.dG),(vi 1),(vi 10000)] zr (aD (iM N (p0:=p0.dG) (p1:=1) (p2:=10000) j av) ?_)
  rintro _ w ⟨rfl,j⟩
  refine RL.not ao (mv (vb (!ao)) (fA o (fun ab o=>?_) fun ab o=>?_))
  ·refine bC ab (bC ab (bC ab (bC ab (fB ab (vb true) (RL.nil ?_)))))
   obtain rfl:=oi o
   exact⟨rfl,j.sp 2 [0]⟩
  refine RL.aX (hg:=(cg ab)) zr yF (RL.aZ (hg:=(cg ab)) 0 j zr qE DW fun aw j=>?_)
  obtain⟨aq,ax,o⟩:=bd o
  refine RL.call (cg ab) zr JL [aw] zr (aD (nO N (i0:=0) j zr ax) ?_)
  rintro _ w ⟨rfl,j⟩
  refine RL.not (hg:=(cg ab)) aq (fB ab (vb (!aq)) (RL.nil ?_))
  obtain rfl:=oi o
  exact⟨rfl,j.sp 3 [1]⟩
 rintro _ w ⟨O,rfl,j⟩
 refine aH (dT hb (fun hc hb=>?_) fun hc hb=>?_)
 ·refine RC.sr (aP (vi 1) (RL.nt (RC.rt ?_)))
  obtain rfl:=oi hb
  exact bY ⟨rfl,j.drop 1⟩
 refine RC.sx (RL.aZ (f:=(fun x=>x)) 0 j zr Fd.self mj fun ay j=>?_)
 obtain⟨ag,az,hb⟩:=bd hb
 refine RL.call zt zr GD [ay] zr (aD (fK N (i0:=0) j zr az) ?_)
 rintro a4 w j
 refine RL.alloc j oR.z fun a5 w j=>?_
 refine RL.bZ 0 j 1 zr iK fun w j=>?_
 refine RL.nq (RC.seq ?_)
 obtain⟨aj,o,hb⟩:=bd hb
 refine RC.jn (fun(aj:Bool)=>SH E V [(37,vb aj)] []) aj ?_ ?_
 ·refine RC.region (RL.aX zr iw (RL.aM 0 j zr dQ cL ?_))
  obtain⟨ar,a0,o⟩:=bd o
  refine RL.call zt zr wm [(vi ag.X0)] zr (aD (eN N (p0:=ag.X0) j a0) ?_)
  rintro _ w ⟨rfl,j⟩
  refine RL.not ar (mv (vb (!ar)) (fA o (fun ad o=>?_) fun ad o=>?_))
  ·refine bC ad (bC ad (bC ad (bC ad (fB ad (vb true) (mv (vb true) (kc (kc (kc ?_))))))))
   refine kc (RL.pick true (vb true) zr (mv (vb true) (kc (kc (kc (kc (RL.pick true (vb true) zr (RL.nil ?_))))))))
   obtain rfl:=oi o
   exact⟨rfl,j.sp 4 []⟩
  refine RL.aX (hg:=(cg ad)) zr g8 (RL.aM (hg:=(cg ad)) 0 j zr dH cL ?_)
  obtain⟨ak,a1,o⟩:=bd o
  refine RL.call (cg ad) zr wm [(vi ag.Y0)] zr (aD (eN N (p0:=ag.Y0) j a1) ?_)
  rintro _ w ⟨rfl,j⟩
  refine RL.not (hg:=(cg ad)) ak (fB ad (vb (!ak)) (mv (vb (!ak)) (fA o (fun ae o=>?_) fun ae o=>?_)))
  ·refine bC ae (bC ae (bC ae (bC ae (fB ae (vb true) (mv (vb true) (kc (kc (kc ?_))))))))
   refine kc (RL.pick true (vb true) zr (RL.nil ?_))
   obtain rfl:=oi o
   exact⟨rfl,j.sp 4 []⟩
  refine RL.aX (hg:=(cg ae)) zr jo (RL.aM (hg:=(cg ae)) 0 j zr eJ cL ?_)
  obtain⟨al,a2,o⟩:=bd o
  refine RL.call (cg ae) zr wm [(vi ag.X1)] zr (aD (eN N (p0:=ag.X1) j a2) ?_)
  rintro _ w ⟨rfl,j⟩
  refine RL.not (hg:=(cg ae)) al (fB ae (vb (!al)) (mv (vb (!al)) (fA o (fun af o=>?_) fun af o=>?_)))
  ·refine bC af (bC af (bC af (bC af (fB af (vb true) (RL.nil ?_)))))
   obtain rfl:=oi o
   exact⟨rfl,j.sp 4 []⟩
  refine RL.aX (hg:=(cg af)) zr kA (RL.aM (hg:=(cg af)) 0 j zr fJ cL ?_)
  obtain⟨au,a3,o⟩:=bd o
  refine RL.call (cg af) zr wm [(vi ag.Y1)] zr (aD (eN N (p0:=ag.Y1) j a3) ?_)
  rintro _ w ⟨rfl,j⟩
  refine RL.not (hg:=(cg af)) au (fB af (vb (!au)) (RL.nil ?_))
  obtain rfl:=oi o
  exact⟨rfl,j.sp 4 []⟩
 rintro _ w ⟨O,rfl,j⟩
 refine aH (dT hb (fun hc hb=>?_) fun hc hb=>?_)
 ·refine RC.sr (aP (vi 1) (RL.nt (RC.rt ?_)))
  obtain rfl:=oi hb
  exact bY ⟨rfl,j.drop 0⟩
 refine RC.sx (aP (vi 0) (RL.nt (RC.ret ?_)))
 obtain rfl:=oi hb
 exact bY ⟨rfl,j.drop 0⟩
def tO (E:World) (V:List HP) (r:Bool) (U:Nat->Value) (w:World):Prop:=lG bN 45 Tryz.f103 (aU E V r) .ret U w
theorem oA {p0:eI} {res:Bool} (hw:Holds E w V) (o:gv N p0=some res):
    Calls bN 103 [(str p0)].toArray w (gJ (aU E V res)):=by
 unfold gv at o
 refine enter Tryz.func103 zr zr (RC.sr (aP (vb false) (RL.nq (RC.sr (aP (vi 0) (RL.nt ?_))))))
 obtain⟨aq,hN,o⟩:=bd o
 refine RC.iter (fun(ab:Int)=>SH E V [(0,(str p0)),(3,vi ab)] []) (fun(ab:Int)=>SH E V [(0,(str p0))] []) (tO E V) hN ?_ ?_ ?_ ?_
 ·exact hw.sp 0 []
 ·rintro ab fl _ w ⟨O,rfl,hw⟩ o
  refine RC.seq (RC.sr (mv (vi ab) (mv (str p0) (RL.lens p0 Aw (ic ab ((p0.cY.length:Int)) (RL.nt (dT o (fun hc o=>?_) fun hc o=>?_)))))))
  rotate_left
  ·refine RC.ex ?_
   obtain rfl:=oi o
   exact⟨rfl,hw.sp 0 []⟩
  refine RC.ss (RC.bs (mv (str p0) (mv (vi ab) ?_)))
  obtain⟨j,aj,o⟩:=bd o
  refine RL.idxs p0 ab j zr zr zr Aw aj (aP (.int .u8 (j.toNat:Int)) (RL.nq ?_))
  obtain⟨ag,hj,o⟩:=bd o
  refine RC.jn (fun(ag:Bool)=>SH E V [(0,(str p0)),(3,vi ab),(41,vb ag)] []) ag ?_ ?_
  ·refine RC.region (mv (.int .u8 (j.toNat:Int)) (ic ((j.toNat:Int)) 97 (mv (vb (decide ((j.toNat:Int)>=97))) (RL.gs true (decide ((j.toNat:Int)>=97)) (.int .u8 (j.toNat:Int)) rfl rfl rfl cH (RL.gs true (decide ((j.toNat:Int)>=97)) (vb (decide ((j.toNat:Int)<=122))) rfl rfl rfl (dK .leq .u8 (j.toNat:Int) 122 rfl (fun h=>by exact(cM h:cv (true&&((decide ((j.toNat:Int)>=97))==true)) (.int .u8 (j.toNat:Int))= (.int .u8 (j.toNat:Int)))) (fun _=>rfl) rfl) (RL.pick (decide ((j.toNat:Int)>=97)) (vb ((decide ((j.toNat:Int)>=97))&&(decide ((j.toNat:Int)<=122)))) (gr true rfl) (mv (vb ((decide ((j.toNat:Int)>=97))&&(decide ((j.toNat:Int)<=122)))) (RL.gs true ((decide ((j.toNat:Int)>=97))&&(decide ((j.toNat:Int)<=122))) (.int .u8 (j.toNat:Int)) rfl rfl rfl cH ?_))))))))
   refine RL.gs true ((decide ((j.toNat:Int)>=97))&&(decide ((j.toNat:Int)<=122))) (vb (decide ((j.toNat:Int)>=65))) rfl rfl rfl (dK .geq .u8 (j.toNat:Int) 65 rfl (fun h=>by exact(cM h:cv (true&&(((decide ((j.toNat:Int)>=97))&&(decide ((j.toNat:Int)<=122)))==false)) (.int .u8 (j.toNat:Int))= (.int .u8 (j.toNat:Int)))) (fun _=>rfl) rfl) (RL.gs true ((decide ((j.toNat:Int)>=97))&&(decide ((j.toNat:Int)<=122))) (vb (decide ((j.toNat:Int)>=65))) rfl rfl rfl (cH (hx:=fun h=>by exact(cM h:cv (true&&(((decide ((j.toNat:Int)>=97))&&(decide ((j.toNat:Int)<=122)))==false)) (vb (decide ((j.toNat:Int)>=65)))= (vb (decide ((j.toNat:Int)>=65)))))) (RL.gs (true&&(((decide ((j.toNat:Int)>=97))&&(decide ((j.toNat:Int)<=122)))==false)) (decide ((j.toNat:Int)>=65)) (.int .u8 (j.toNat:Int)) rfl rfl rfl cH (RL.gs (true&&(((decide ((j.toNat:Int)>=97))&&(decide ((j.toNat:Int)<=122)))==false)) (decide ((j.toNat:Int)>=65)) (vb (decide ((j.toNat:Int)<=90))) rfl rfl rfl (dK .leq .u8 (j.toNat:Int) 90 rfl (fun h=>by exact(cM h:cv ((true&&(((decide ((j.toNat:Int)>=97))&&(decide ((j.toNat:Int)<=122)))==false))&&((decide ((j.toNat:Int)>=65))==true)) (.int .u8 (j.toNat:Int))= (.int .u8 (j.toNat:Int)))) (fun _=>rfl) rfl) (RL.gs true ((decide ((j.toNat:Int)>=97))&&(decide ((j.toNat:Int)<=122))) (vb ((decide ((j.toNat:Int)>=65))&&(decide ((j.toNat:Int)<=90)))) rfl rfl rfl (kI (decide ((j.toNat:Int)>=65)) rfl (fun h=>by exact(cM h:cv (true&&(((decide ((j.toNat:Int)>=97))&&(decide ((j.toNat:Int)<=122)))==false)) (vb (decide ((j.toNat:Int)>=65)))= (vb (decide ((j.toNat:Int)>=65))))) (fun h=>by exact gr (true&&(((decide ((j.toNat:Int)>=97))&&(decide ((j.toNat:Int)<=122)))==false)) h)) (RL.pick ((decide ((j.toNat:Int)>=97))&&(decide ((j.toNat:Int)<=122))) (vb (((decide ((j.toNat:Int)>=97))&&(decide ((j.toNat:Int)<=122)))||((decide ((j.toNat:Int)>=65))&&(decide ((j.toNat:Int)<=90))))) (oh true) (mv (vb (((decide ((j.toNat:Int)>=97))&&(decide ((j.toNat:Int)<=122)))||((decide ((j.toNat:Int)>=65))&&(decide ((j.toNat:Int)<=90))))) (RL.gs true (((decide ((j.toNat:Int)>=97))&&(decide ((j.toNat:Int)<=122)))||((decide ((j.toNat:Int)>=65))&&(decide ((j.toNat:Int)<=90)))) (.int .u8 (j.toNat:Int)) rfl rfl rfl cH (RL.gs true (((decide ((j.toNat:Int)>=97))&&(decide ((j.toNat:Int)<=122)))||((decide ((j.toNat:Int)>=65))&&(decide ((j.toNat:Int)<=90)))) (vb (decide ((j.toNat:Int)>=48))) rfl rfl rfl (dK .geq .u8 (j.toNat:Int) 48 rfl (fun h=>by exact(cM h:cv (true&&((((decide ((j.toNat:Int)>=97))&&(decide ((j.toNat:Int)<=122)))||((decide ((j.toNat:Int)>=65))&&(decide ((j.toNat:Int)<=90))))==false)) (.int .u8 (j.toNat:Int))= (.int .u8 (j.toNat:Int)))) (fun _=>rfl) rfl) ?_))))))))
   refine RL.gs true (((decide ((j.toNat:Int)>=97))&&(decide ((j.toNat:Int)<=122)))||((decide ((j.toNat:Int)>=65))&&(decide ((j.toNat:Int)<=90)))) (vb (decide ((j.toNat:Int)>=48))) rfl rfl rfl (cH (hx:=fun h=>by exact(cM h:cv (true&&((((decide ((j.toNat:Int)>=97))&&(decide ((j.toNat:Int)<=122)))||((decide ((j.toNat:Int)>=65))&&(decide ((j.toNat:Int)<=90))))==false)) (vb (decide ((j.toNat:Int)>=48)))= (vb (decide ((j.toNat:Int)>=48)))))) (RL.gs (true&&((((decide ((j.toNat:Int)>=97))&&(decide ((j.toNat:Int)<=122)))||((decide ((j.toNat:Int)>=65))&&(decide ((j.toNat:Int)<=90))))==false)) (decide ((j.toNat:Int)>=48)) (.int .u8 (j.toNat:Int)) rfl rfl rfl cH (RL.gs (true&&((((decide ((j.toNat:Int)>=97))&&(decide ((j.toNat:Int)<=122)))||((decide ((j.toNat:Int)>=65))&&(decide ((j.toNat:Int)<=90))))==false)) (decide ((j.toNat:Int)>=48)) (vb (decide ((j.toNat:Int)<=57))) rfl rfl rfl (dK .leq .u8 (j.toNat:Int) 57 rfl (fun h=>by exact(cM h:cv ((true&&((((decide ((j.toNat:Int)>=97))&&(decide ((j.toNat:Int)<=122)))||((decide ((j.toNat:Int)>=65))&&(decide ((j.toNat:Int)<=90))))==false))&&((decide ((j.toNat:Int)>=48))==true)) (.int .u8 (j.toNat:Int))= (.int .u8 (j.toNat:Int)))) (fun _=>rfl) rfl) (RL.gs true (((decide ((j.toNat:Int)>=97))&&(decide ((j.toNat:Int)<=122)))||((decide ((j.toNat:Int)>=65))&&(decide ((j.toNat:Int)<=90)))) (vb ((decide ((j.toNat:Int)>=48))&&(decide ((j.toNat:Int)<=57)))) rfl rfl rfl (kI (decide ((j.toNat:Int)>=48)) rfl (fun h=>by exact(cM h:cv (true&&((((decide ((j.toNat:Int)>=97))&&(decide ((j.toNat:Int)<=122)))||((decide ((j.toNat:Int)>=65))&&(decide ((j.toNat:Int)<=90))))==false)) (vb (decide ((j.toNat:Int)>=48)))= (vb (decide ((j.toNat:Int)>=48))))) (fun h=>by exact gr (true&&((((decide ((j.toNat:Int)>=97))&&(decide ((j.toNat:Int)<=122)))||((decide ((j.toNat:Int)>=65))&&(decide ((j.toNat:Int)<=90))))==false)) h)) (RL.pick (((decide ((j.toNat:Int)>=97))&&(decide ((j.toNat:Int)<=122)))||((decide ((j.toNat:Int)>=65))&&(decide ((j.toNat:Int)<=90)))) (vb ((((decide ((j.toNat:Int)>=97))&&(decide ((j.toNat:Int)<=122)))||((decide ((j.toNat:Int)>=65))&&(decide ((j.toNat:Int)<=90))))||((decide ((j.toNat:Int)>=48))&&(decide ((j.toNat:Int)<=57))))) (oh true) (RL.not ((((decide ((j.toNat:Int)>=97))&&(decide ((j.toNat:Int)<=122)))||((decide ((j.toNat:Int)>=65))&&(decide ((j.toNat:Int)<=90))))||((decide ((j.toNat:Int)>=48))&&(decide ((j.toNat:Int)<=57)))) (mv (vb (!((((decide ((j.toNat:Int)>=97))&&(decide ((j.toNat:Int)<=122)))||((decide ((j.toNat:Int)>=65))&&(decide ((j.toNat:Int)<=90))))||((decide ((j.toNat:Int)>=48))&&(decide ((j.toNat:Int)<=57)))))) (fA hj (fun ad hj=>?_) fun ad hj=>?_)))))))
   rotate_left
   ·refine bC ad (bC ad (bC ad (fB ad (vb false) (RL.nil ?_))))
    obtain rfl:=oi hj
    exact⟨rfl,hw.sp 0 []⟩
   refine RL.move (.int .u8 (j.toNat:Int)) (cg ad) ?_
   obtain⟨ah,ak,hj⟩:=bd hj
   refine RL.call (cg ad) zr Lj [(str ⟨[95,43,45,35]⟩),(.int .u8 (j.toNat:Int))] zr (aD (pM N (p0:=⟨[95,43,45,35]⟩) (p1:=(j.toNat:Int)) hw ak) ?_)
   rintro _ w ⟨rfl,hw⟩
   refine RL.lh ah 0 (cg ad) (fB ad (vb (decide (ah<0))) (RL.nil ?_))
   obtain rfl:=oi hj
   exact⟨rfl,hw.sp 0 []⟩
  rintro _ w ⟨O,rfl,hw⟩
  refine aH (dT o (fun hc o=>?_) fun hc o=>?_)
  ·refine RC.sr (aP (vb false) (RL.nt (RC.rb (bR ?_))))
   obtain rfl:=oi o
   exact⟨rfl,bY ⟨rfl,hw.drop 0⟩⟩
  refine RC.skip (bP (aH (RC.region (mv (vi ab) (RL.gk ab 1 (aP (vi (IntKind.wrap .i64 (ab+1))) (RL.nil ?_)))))))
  obtain rfl:=oi o
  exact⟨rfl,hw.sp 0 []⟩
 ·intro r U w e hK
  subst e
  refine bR ?_
  obtain rfl:=oi o
  exact hK
 rintro ab _ w rfl ⟨O,rfl,hw⟩
 rw [Fo.cZ] at o
 refine aH (RC.sr (mv (str p0) (RL.lens p0 Aw ?_)))
 obtain⟨an,ao,o⟩:=bd o
 refine RL.call zt zr HN [(vi p0.cY.length),(vi 1),(vi 40)] zr (aD (iM N (p0:=(p0.cY.length:Int)) (p1:=1) (p2:=40) hw ao) ?_)
 rintro _ w ⟨rfl,hw⟩
 refine aP (vb an) (RL.nt (RC.ret ?_))
 obtain rfl:=oi o
 exact bY ⟨rfl,hw.drop 0⟩
def tP (E:World) (V:List HP) (r:Bool) (U:Nat->Value) (w:World):Prop:=lG bN 22 Tryz.f102 (aU E V r) .ret U w
theorem sR {p0:eI} {res:Bool} (o:Holds E w V) (j:jG N p0=some res):
    Calls bN 102 [(str p0)].toArray w (gJ (aU E V res)):=by
 unfold jG at j
 refine enter Tryz.func102 zr zr (RC.sr (aP (vb false) (RL.ns (mv (str p0) ?_))))
 obtain⟨ad,ah,j⟩:=bd j
 refine RL.call zt zr Lh [(str p0),(str ⟨[47]⟩)] zr (aD (sN N (p0:=p0) (p1:=⟨[47]⟩) o ah) ?_)
 rintro ab w o
 refine aP ab (RL.nq (RC.sr (aP (vi 0) (RL.nt ?_))))
 obtain⟨an,hN,j⟩:=bd j
 refine RC.iter (fun(aa:Int)=>SH E V [(0,(str p0)),(3,ab),(4,vi aa)] [own 9 ab ad]) (fun(aa:Int)=>SH E V [(0,(str p0))] [own 9 ab ad]) (tP E V) hN ?_ ?_ ?_ ?_
 ·exact o.sp 1 [0]
 ·rintro aa fl _ w ⟨O,rfl,o⟩ j
  refine RC.seq (RC.sr (mv (vi aa) (mv ab (RL.fL 0 ad o JB (ic aa ((ad.length:Int)) (RL.nt (dT j (fun hc j=>?_) fun hc j=>?_)))))))
  rotate_left
  ·refine RC.ex ?_
   obtain rfl:=oi j
   exact⟨rfl,o.sp 1 [0]⟩
  refine RC.ss (RC.bs (mv ab (mv (vi aa) ?_)))
  obtain⟨ag,af,j⟩:=bd j
  refine RL.bT 0 o zr zr DY af (RL.dR (f:=(fun x=>x)) 0 o (jz 0 o af 0) (bH af).2.1 Fd.self yx ?_)
  obtain⟨aj,ak,j⟩:=bd j
  refine RL.call zt zr JM [(str ag)] zr (aD (oA N (p0:=ag) o ak) ?_)
  rintro _ w ⟨rfl,o⟩
  refine RL.not aj (RL.nt (dT j (fun hc j=>?_) fun hc j=>?_))
  ·refine RC.sr (aP (vb false) (RL.nt (RC.rb (bR ?_))))
   obtain rfl:=oi j
   exact⟨rfl,bY ⟨rfl,o.drop 1⟩⟩
  refine RC.skip (bP (aH (RC.region (mv (vi aa) (RL.gk aa 1 (aP (vi (IntKind.wrap .i64 (aa+1))) (RL.nil ?_)))))))
  obtain rfl:=oi j
  exact⟨rfl,o.sp 1 [0]⟩
 ·intro r U w e hK
  subst e
  refine bR ?_
  obtain rfl:=oi j
  exact hK
 rintro aa _ w rfl ⟨O,rfl,o⟩
 rw [Fo.cZ] at j
 refine aH (RC.sr (mv (str p0) (RL.lens p0 Aw (ic ((p0.cY.length:Int)) 200 (aP (vb (decide ((p0.cY.length:Int)<=200))) (RL.nt (RC.ret ?_)))))))
 obtain rfl:=oi j
 exact bY ⟨rfl,o.drop 1⟩
end Go.Gk
