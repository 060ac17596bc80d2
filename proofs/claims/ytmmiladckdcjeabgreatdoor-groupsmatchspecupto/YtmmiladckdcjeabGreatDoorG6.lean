/-
  Printed texts: Go functions as plain functions, and that they are. No statement of the seed is proved here.
-/
import Derived.Test.YtmmiladckdcjeabGreatDoorG1
import Derived.Test.YtmmiladckdcjeabGreatDoorG5
import Derived.Test.YtmmiladckdcjeabGreatDoorA2
set_option linter.unusedVariables false
set_option linter.unusedSimpArgs false
set_option linter.unusedSectionVars false
set_option maxRecDepth 100000
set_option maxHeartbeats 4000000
namespace Go.Gk
open Go Go.Proofs
variable (N:Nat) {E w:World} {i0 i1:Nat} {p1 p2 res:Int} {v0 v1:Value} {V:List HP}
theorem q8 {p0:kY} (hw:Holds E w V) (h0:V[i0]? =some (rd v0 p0)) (hb:iG N p0 p1=some res):
    Calls bN 66 [v0,(vi p1)].toArray w (gJ (aY E V res)):=by
 unfold iG at hb
 refine enter Tryz.func66 zr zr ?_
 have hw:=hw.dup (i0+0) h0
 refine RC.sr (RL.dD 0 v0 hw zr fun aj w hw=>?_)
 refine aP (vi 0) (RL.ns (RL.aX zr n8 (RL.aZ 0 hw zr lu wR fun a1 hw=>(mv (vi p1) ?_))))
 obtain⟨j,au,hb⟩:=bd hb
 refine RL.bO 0 hw BL au fun a2 hw=>(RL.bJ 0 j hw r8 fun a3 hw=>(RL.alloc hw Gv.z fun ag w hw=>?_))
 refine RL.bZ 0 hw 1 zr r8 fun w hw=>?_
 refine RL.nq (RC.seq ?_)
 obtain⟨ak,hj,hb⟩:=bd hb
 refine RC.jn (fun(ak:Bool)=>SH E V [(1,vi p1),(2,vp aj 0),(5,vp ag 0),(21,vb ak)] [bx 27 aj p0,bx 62 ag j]) ak ?_ ?_
 ·refine RC.region (RL.aX zr tG (RL.aM 0 hw zr nn yx ?_))
  obtain⟨an,av,hj⟩:=bd hj
  refine RL.call zt zr LK [(str j.Part)] zr (aD (sR N (p0:=j.Part) hw av) ?_)
  rintro _ w ⟨rfl,hw⟩
  refine RL.not an (mv (vb (!an)) (fA hj (fun ae hj=>?_) fun ae hj=>?_))
  ·refine bC ae (bC ae (bC ae (bC ae (fB ae (vb true) (RL.nil ?_)))))
   obtain rfl:=oi hj
   exact⟨rfl,hw.sp 6 [4,0]⟩
  refine RL.aX (hg:=(cg ae)) zr wS (RL.aM (hg:=(cg ae)) 0 hw zr ph yx ?_)
  obtain⟨ao,aw,hj⟩:=bd hj
  refine RL.call (cg ae) zr JM [(str j.dB)] zr (aD (oA N (p0:=j.dB) hw aw) ?_)
  rintro _ w ⟨rfl,hw⟩
  refine RL.not (hg:=(cg ae)) ao (fB ae (vb (!ao)) (RL.nil ?_))
  obtain rfl:=oi hj
  exact⟨rfl,hw.sp 6 [4,0]⟩
 rintro _ w ⟨O,rfl,hw⟩
 refine aH (dT hb (fun hc hb=>?_) fun hc hb=>?_)
 ·refine RC.sr (aP (vi 5) (RL.nt (RC.rt ?_)))
  obtain rfl:=oi hb
  exact bY ⟨rfl,hw.drop 2⟩
 refine RC.ss (RC.seq ?_)
 obtain⟨al,hj,hb⟩:=bd hb
 refine RC.jn (fun(al:Bool)=>SH E V [(1,vi p1),(2,vp aj 0),(5,vp ag 0),(35,vb al)] [bx 27 aj p0,bx 62 ag j]) al ?_ ?_
 ·refine RC.region (RL.aX zr yG (RL.aM 1 hw zr qG cL (RL.aX zr mL (RL.aZ 0 hw zr jf pY fun a4 hw=>(RL.bB 0 p0.aJ hw qP (RL.gk (p0.aJ.length:Int) 1 ?_))))))
  obtain⟨aq,ax,hj⟩:=bd hj
  refine RL.call zt zr HN [(vi j.cU),(vi 0),(vi (IntKind.wrap .i64 ((p0.aJ.length:Int) - 1)))] zr (aD (iM N (p0:=j.cU) (p1:=0) (p2:=(IntKind.wrap .i64 ((p0.aJ.length:Int) - 1))) hw ax) ?_)
  rintro _ w ⟨rfl,hw⟩
  refine RL.not aq (mv (vb (!aq)) (fA hj (fun af hj=>?_) fun af hj=>?_))
  ·refine bC af (bC af (bC af (bC af (fB af (vb true) (RL.nil ?_)))))
   obtain rfl:=oi hj
   exact⟨rfl,hw.sp 3 [1,2]⟩
  refine RL.aX (hg:=(cg af)) zr yH (RL.aZ (hg:=(cg af)) 2 hw zr qH DW fun ay hw=>?_)
  obtain⟨ar,az,hj⟩:=bd hj
  refine RL.call (cg af) zr JL [ay] zr (aD (nO N (i0:=0) hw zr az) ?_)
  rintro _ w ⟨rfl,hw⟩
  refine RL.not (hg:=(cg af)) ar (fB af (vb (!ar)) (RL.nil ?_))
  obtain rfl:=oi hj
  exact⟨rfl,hw.sp 4 [2,3]⟩
 rintro _ w ⟨O,rfl,hw⟩
 refine aH (dT hb (fun hc hb=>?_) fun hc hb=>?_)
 ·refine RC.sr (aP (vi 1) (RL.nt (RC.rt ?_)))
  obtain rfl:=oi hb
  exact bY ⟨rfl,hw.drop 2⟩
 refine RC.ss (RC.sr (mv (vi p1) (ic p1 0 (RL.nt (dT hb (fun hc hb=>?_) fun hc hb=>?_)))))
 rotate_left
 ·refine RC.sx (aP (vi 0) (RL.nt (RC.ret ?_)))
  obtain rfl:=oi hb
  exact bY ⟨rfl,hw.drop 2⟩
 refine RC.sr (RL.aX zr n8 (RL.aZ 0 hw zr lu wR fun a5 hw=>(mv (vi p1) (RL.gk p1 1 ?_))))
 obtain⟨o,a0,hb⟩:=bd hb
 refine RL.bO 0 hw BL a0 fun a6 hw=>(RL.bJ 0 o hw r8 fun a7 hw=>(RL.alloc hw Gv.z fun ai w hw=>?_))
 refine RL.bZ 0 hw 1 zr r8 fun w hw=>?_
 refine RL.ns (RL.aX rfl tG (RL.aM 5 hw rfl nn yx (RL.aX rfl tG (RL.aM 0 hw rfl nn yx (RL.EM j.Part o.Part trivial rfl rfl rfl rfl (mv (vb (j.Part.tr o.Part)) (RL.gs true (j.Part.tr o.Part) (vp ag 0) rfl rfl rfl (eB tG) (RL.gs true (j.Part.tr o.Part) (str j.Part) rfl rfl rfl (cC 5 rfl hw (fun h=>by exact(cM h:cv (true&&((j.Part.tr o.Part)==false)) (vp ag 0)= (vp ag 0))) rfl nn yx) ?_))))))))
 refine RL.gs true (j.Part.tr o.Part) (vp ai 0) rfl rfl rfl (eB tG) (RL.gs true (j.Part.tr o.Part) (str o.Part) rfl rfl rfl (cC 0 rfl hw (fun h=>by exact(cM h:cv (true&&((j.Part.tr o.Part)==false)) (vp ai 0)= (vp ai 0))) rfl nn yx) (RL.gs true (j.Part.tr o.Part) (vb (j.Part.tq o.Part)) rfl rfl rfl (Ct .eql j.Part o.Part rfl (fun h=>by exact(cM h:cv (true&&((j.Part.tr o.Part)==false)) (str j.Part)= (str j.Part))) (fun h=>by exact(cM h:cv (true&&((j.Part.tr o.Part)==false)) (str o.Part)= (str o.Part))) rfl) (RL.gs true (j.Part.tr o.Part) (vb (j.Part.tq o.Part)) rfl rfl rfl (cH (hx:=fun h=>by exact(cM h:cv (true&&((j.Part.tr o.Part)==false)) (vb (j.Part.tq o.Part))= (vb (j.Part.tq o.Part))))) (RL.gs (true&&((j.Part.tr o.Part)==false)) (j.Part.tq o.Part) (vp ag 1) rfl rfl rfl (eB wS) (RL.gs (true&&((j.Part.tr o.Part)==false)) (j.Part.tq o.Part) (str j.dB) rfl rfl rfl (cC 5 rfl hw (fun h=>by exact(cM h:cv ((true&&((j.Part.tr o.Part)==false))&&((j.Part.tq o.Part)==true)) (vp ag 1)= (vp ag 1))) rfl ph yx) (RL.gs (true&&((j.Part.tr o.Part)==false)) (j.Part.tq o.Part) (vp ai 1) rfl rfl rfl (eB wS) (RL.gs (true&&((j.Part.tr o.Part)==false)) (j.Part.tq o.Part) (str o.dB) rfl rfl rfl (cC 0 rfl hw (fun h=>by exact(cM h:cv ((true&&((j.Part.tr o.Part)==false))&&((j.Part.tq o.Part)==true)) (vp ai 1)= (vp ai 1))) rfl ph yx) (RL.gs (true&&((j.Part.tr o.Part)==false)) (j.Part.tq o.Part) (vb (j.dB.tr o.dB||j.dB.tq o.dB)) rfl rfl rfl (Ct .leq j.dB o.dB rfl (fun h=>by exact(cM h:cv ((true&&((j.Part.tr o.Part)==false))&&((j.Part.tq o.Part)==true)) (str j.dB)= (str j.dB))) (fun h=>by exact(cM h:cv ((true&&((j.Part.tr o.Part)==false))&&((j.Part.tq o.Part)==true)) (str o.dB)= (str o.dB))) rfl) ?_))))))))
 refine RL.gs true (j.Part.tr o.Part) (vb ((j.Part.tq o.Part)&&(j.dB.tr o.dB||j.dB.tq o.dB))) rfl rfl rfl (kI (j.Part.tq o.Part) rfl (fun h=>by exact(cM h:cv (true&&((j.Part.tr o.Part)==false)) (vb (j.Part.tq o.Part))= (vb (j.Part.tq o.Part)))) (fun h=>by exact gr (true&&((j.Part.tr o.Part)==false)) h)) (RL.pick (j.Part.tr o.Part) (vb ((j.Part.tr o.Part)||((j.Part.tq o.Part)&&(j.dB.tr o.dB||j.dB.tq o.dB)))) (oh true) (RL.nt (dT hb (fun hc hb=>?_) fun hc hb=>?_)))
 ·refine RC.sr (aP (vi 8) (RL.nt (RC.rt ?_)))
  obtain rfl:=oi hb
  exact bY ⟨rfl,hw.drop 6⟩
 refine RC.sx (aP (vi 0) (RL.nt (RC.ret ?_)))
 obtain rfl:=oi hb
 exact bY ⟨rfl,hw.drop 6⟩
def ko (E:World) (V:List HP) (r:Int) (U:Nat->Value) (w:World):Prop:=lG bN 115 Tryz.f29 (aY E V r) .ret U w
theorem qu {p0:kY} (j:Holds E w V) (h0:V[i0]? =some (rd v0 p0)) (o:gZ N p0=some res):
    Calls bN 29 [v0].toArray w (gJ (aY E V res)):=by
 unfold gZ at o
 refine enter Tryz.func29 zr zr ?_
 have j:=j.dup (i0+0) h0
 refine RC.sr (RL.dD 0 v0 j zr fun ae w j=>?_)
 refine aP (vi 0) (RL.nq (RC.sr (RL.aX zr mL (RL.aZ 0 j zr jf pY fun bf j=>(RL.bB 0 p0.aJ j qP (ic ((p0.aJ.length:Int)) 0 (RL.nt (dT o (fun hc o=>?_) fun hc o=>?_))))))))
 ·refine RC.sr (aP (vi 9) (RL.nt (RC.rt ?_)))
  obtain rfl:=oi o
  exact bY ⟨rfl,j.drop 3⟩
 refine RC.ss (RC.sr (RL.aX zr mL (RL.aZ 1 j zr jf pY fun bg j=>(RL.bB 0 p0.aJ j qP (ic ((p0.aJ.length:Int)) 16 (RL.nt (dT o (fun hc o=>?_) fun hc o=>?_)))))))
 ·refine RC.sr (aP (vi 2) (RL.nt (RC.rt ?_)))
  obtain rfl:=oi o
  exact bY ⟨rfl,j.drop 4⟩
 refine RC.sx (RL.aX zr CI (RL.aZ 2 j zr sF uy fun bh j=>(RL.bB 0 p0.cI j nC (aP (vi p0.cI.length) (RL.nq (RC.sr (aP (vi 0) (RL.nt ?_))))))))
 obtain⟨bj,hN,o⟩:=bd o
 refine RC.iter (fun(ad:Int×Int)=>SH E V [(1,vp ae 0),(3,vi ad.1),(4,vi ad.2)] [bx 27 ae p0]) (fun(ad:Int×Int)=>SH E V [(1,vp ae 0),(3,vi ad.1)] [bx 27 ae p0]) (ko E V) hN ?_ ?_ ?_ ?_
 ·exact j.sp 5 [3]
 ·rintro ad fl _ w ⟨O,rfl,j⟩ o
  refine RC.seq (RC.sr (mv (vi ad.2) (RL.aX zr mL (RL.aZ 0 j zr jf pY fun bk j=>(RL.bB 0 p0.aJ j qP (ic ad.2 ((p0.aJ.length:Int)) (RL.nt (dT o (fun hc o=>?_) fun hc o=>?_))))))))
  rotate_left
  ·refine RC.ex ?_
   obtain rfl:=oi o
   exact⟨rfl,j.sp 2 [1]⟩
  refine RC.ss (RC.block (RC.seq (RC.sr (RL.aX zr mL (RL.aZ 1 j zr jf pY fun bl j=>(mv (vi ad.2) ?_))))))
  obtain⟨az,a0,o⟩:=bd o
  refine RL.bO 0 j uV a0 fun bm j=>(RL.bJ 0 az j uy fun a1 j=>?_)
  obtain⟨al,a2,o⟩:=bd o
  refine RL.call zt zr LJ [a1] zr (aD (lV N (i0:=0) j zr a2) ?_)
  rintro _ w ⟨rfl,j⟩
  refine aP (vi al) (RL.ns (mv (vi al) (ic al 0 (RL.nt (dT o (fun hc o=>?_) fun hc o=>?_)))))
  ·refine RC.sr (mv (vi al) (aP (vi al) (RL.nt (RC.rt (oL (bR ?_))))))
   obtain rfl:=oi o
   exact⟨rfl,bY ⟨rfl,j.drop 5⟩⟩
  refine RC.sn (RC.region (mv (vi ad.1) (RL.aX zr mL (RL.aZ 4 j zr jf pY fun bn j=>(mv (vi ad.2) ?_)))))
  obtain⟨ar,a3,o⟩:=bd o
  refine RL.bO 0 j uV a3 fun bo j=>(RL.bJ 0 ar j uy fun bp j=>(RL.bB 0 ar j nC (RL.gk ad.1 (ar.length:Int) (aP (vi (IntKind.wrap .i64 (ad.1+ (ar.length:Int)))) (RL.nil (bP (aH (RC.region ?_))))))))
  refine mv (vi ad.2) (RL.gk ad.2 1 (aP (vi (IntKind.wrap .i64 (ad.2+1))) (RL.nil ?_)))
  obtain rfl:=oi o
  exact⟨rfl,j.sp 8 [7]⟩
 ·intro r U w e hK
  subst e
  refine bR ?_
  obtain rfl:=oi o
  exact hK
 rintro ad _ w rfl ⟨O,rfl,j⟩
 rw [Fo.cZ] at o
 refine aH (RC.seq (RC.sr (RL.aX zr CI (RL.aZ 0 j zr sF uy fun a4 j=>?_))))
 obtain⟨ao,a5,o⟩:=bd o
 refine RL.call zt zr LJ [a4] zr (aD (lV N (i0:=0) j zr a5) ?_)
 rintro _ w ⟨rfl,j⟩
 refine aP (vi ao) (RL.ns (mv (vi ao) (ic ao 0 (RL.nt (dT o (fun hc o=>?_) fun hc o=>?_)))))
 ·refine RC.sr (mv (vi ao) (aP (vi ao) (RL.nt (RC.rt ?_))))
  obtain rfl:=oi o
  exact bY ⟨rfl,j.drop 2⟩
 refine RC.ss (RC.seq ?_)
 obtain⟨au,hj,o⟩:=bd o
 refine RC.jn (fun(au:Bool)=>SH E V [(1,vp ae 0),(60,vb au)] [bx 27 ae p0]) au ?_ ?_
 ·refine RC.region (mv (vi ad.1) (ic ad.1 2000 (mv (vb (decide (ad.1>2000))) (fA hj (fun ah hj=>?_) fun ah hj=>?_))))
  ·refine bC ah (bC ah (bC ah (bC ah (fB ah (vb true) (RL.nil ?_)))))
   obtain rfl:=oi hj
   exact⟨rfl,j.sp 2 [1]⟩
  refine RL.aX (hg:=(cg ah)) zr iz (RL.aZ (hg:=(cg ah)) 1 j zr gM n7 fun bq j=>(RL.bB (hg:=(cg ah)) 0 p0.aN j wO (RL.lh (p0.aN.length:Int) 500 (cg ah) (fB ah (vb (decide ((p0.aN.length:Int)>500))) (RL.nil ?_)))))
  obtain rfl:=oi hj
  exact⟨rfl,j.sp 3 [2]⟩
 rintro _ w ⟨O,rfl,j⟩
 refine aH (dT o (fun hc o=>?_) fun hc o=>?_)
 ·refine RC.sr (aP (vi 2) (RL.nt (RC.rt ?_)))
  obtain rfl:=oi o
  exact bY ⟨rfl,j.drop 1⟩
 refine RC.ss (RC.sr (aP (vi 0) (RL.nt ?_)))
 obtain⟨br,hN,o⟩:=bd o
 refine RC.iter (fun(ai:Int)=>SH E V [(1,vp ae 0),(7,vi ai)] [bx 27 ae p0]) (fun(ai:Int)=>SH E V [(1,vp ae 0)] [bx 27 ae p0]) (ko E V) hN ?_ ?_ ?_ ?_
 ·exact j.sp 1 [0]
 ·rintro ai fl _ w ⟨O,rfl,j⟩ o
  refine RC.seq (RC.sr (mv (vi ai) (RL.aX zr iz (RL.aZ 0 j zr gM n7 fun bt j=>(RL.bB 0 p0.aN j wO (ic ai ((p0.aN.length:Int)) (RL.nt (dT o (fun hc o=>?_) fun hc o=>?_))))))))
  rotate_left
  ·refine RC.ex ?_
   obtain rfl:=oi o
   exact⟨rfl,j.sp 2 [1]⟩
  refine RC.ss (RC.bs (RL.aX zr iz (RL.aZ 1 j zr gM n7 fun bu j=>(mv (vi ai) ?_))))
  obtain⟨aj,a6,o⟩:=bd o
  refine RL.bO 0 j qQ a6 fun bw j=>(RL.bJ 0 aj j mj fun bz j=>(RL.alloc j E5.z fun b0 w j=>?_))
  refine RL.bZ 0 j 1 zr mj fun w j=>?_
  refine RL.nq (RC.sr (RL.aZ (f:=(fun x=>x)) 0 j zr Fd.self mj fun a7 j=>?_))
  obtain⟨aq,a8,o⟩:=bd o
  refine RL.call zt zr Nb [a7] zr (aD (p6 N (i0:=0) j zr a8) ?_)
  rintro _ w ⟨rfl,j⟩
  refine aP (vi aq) (RL.ns (mv (vi aq) (ic aq 0 (RL.nt (dT o (fun hc o=>?_) fun hc o=>?_)))))
  ·refine RC.sr (mv (vi aq) (aP (vi aq) (RL.nt (RC.rt (oL (bR ?_))))))
   obtain rfl:=oi o
   exact⟨rfl,bY ⟨rfl,j.drop 7⟩⟩
  refine RC.ss ?_
  obtain⟨av,hj,o⟩:=bd o
  refine RC.jn (fun(av:Bool)=>SH E V [(1,vp ae 0),(7,vi ai),(97,vb av)] [bx 27 ae p0]) av ?_ ?_
  ·refine RC.region (RL.aX zr p4 (RL.aM 1 j zr kF cL (RL.aX zr mL (RL.aZ 6 j zr jf pY fun b1 j=>(RL.bB 0 p0.aJ j qP (RL.gk (p0.aJ.length:Int) 1 ?_))))))
   obtain⟨ax,a9,hj⟩:=bd hj
   refine RL.call zt zr HN [(vi aj.cO),(vi 0),(vi (IntKind.wrap .i64 ((p0.aJ.length:Int) - 1)))] zr (aD (iM N (p0:=aj.cO) (p1:=0) (p2:=(IntKind.wrap .i64 ((p0.aJ.length:Int) - 1))) j a9) ?_)
   rintro _ w ⟨rfl,j⟩
   refine RL.not ax (mv (vb (!ax)) (fA hj (fun ab hj=>?_) fun ab hj=>?_))
   ·refine bC ab (bC ab (bC ab (bC ab (bC ab (bC ab (bC ab (bC ab (bC ab ?_))))))))
    refine bC ab (fB ab (vb true) (RL.nil ?_))
    obtain rfl:=oi hj
    exact⟨rfl,j.sp 8 [7]⟩
   refine RL.aX (hg:=(cg ab)) zr r7 (RL.aM (hg:=(cg ab)) 2 j zr mc cL (RL.aX (hg:=(cg ab)) zr p4 (RL.aM (hg:=(cg ab)) 2 j zr kF cL (RL.aX (hg:=(cg ab)) zr mL (RL.aZ (hg:=(cg ab)) 7 j zr jf pY fun b2 j=>(RL.bB (hg:=(cg ab)) 0 p0.aJ j qP (RL.gk (hg:=(cg ab)) (p0.aJ.length:Int) 1 ?_)))))))
   obtain⟨ay,ba,hj⟩:=bd hj
   refine RL.call (cg ab) zr HN [(vi aj.To),(vi aj.cO),(vi (IntKind.wrap .i64 ((p0.aJ.length:Int) - 1)))] zr (aD (iM N (p0:=aj.To) (p1:=aj.cO) (p2:=(IntKind.wrap .i64 ((p0.aJ.length:Int) - 1))) j ba) ?_)
   rintro _ w ⟨rfl,j⟩
   refine RL.not (hg:=(cg ab)) ay (fB ab (vb (!ay)) (RL.nil ?_))
   obtain rfl:=oi hj
   exact⟨rfl,j.sp 9 [8]⟩
  rintro _ w ⟨O,rfl,j⟩
  refine aH (dT o (fun hc o=>?_) fun hc o=>?_)
  ·refine RC.sr (aP (vi 1) (RL.nt (RC.rb (bR ?_))))
   obtain rfl:=oi o
   exact⟨rfl,bY ⟨rfl,j.drop 1⟩⟩
  refine RC.skip (bP (aH (RC.region (mv (vi ai) (RL.gk ai 1 (aP (vi (IntKind.wrap .i64 (ai+1))) (RL.nil ?_)))))))
  obtain rfl:=oi o
  exact⟨rfl,j.sp 1 [0]⟩
 ·intro r U w e hK
  subst e
  refine bR ?_
  obtain rfl:=oi o
  exact hK
 rintro ai _ w rfl ⟨O,rfl,j⟩
 rw [Fo.cZ] at o
 refine aH (RC.seq (RC.sr (RL.aX zr n8 (RL.aZ 0 j zr lu wR fun b3 j=>(RL.bB 0 p0.bM j DX (ic ((p0.bM.length:Int)) 1000 (RL.nt (dT o (fun hc o=>?_) fun hc o=>?_))))))))
 ·refine RC.sr (aP (vi 2) (RL.nt (RC.rt ?_)))
  obtain rfl:=oi o
  exact bY ⟨rfl,j.drop 2⟩
 refine RC.ss (RC.sr (aP (vi 0) (RL.nt ?_)))
 obtain⟨b4,hN,o⟩:=bd o
 refine RC.iter (fun(ag:Int)=>SH E V [(1,vp ae 0),(10,vi ag)] [bx 27 ae p0]) (fun(ag:Int)=>SH E V [] [bx 27 ae p0]) (ko E V) hN ?_ ?_ ?_ ?_
 ·exact j.sp 2 [1]
 ·rintro ag fl _ w ⟨O,rfl,j⟩ o
  refine RC.seq (RC.sr (mv (vi ag) (RL.aX zr n8 (RL.aZ 0 j zr lu wR fun b5 j=>(RL.bB 0 p0.bM j DX (ic ag ((p0.bM.length:Int)) (RL.nt (dT o (fun hc o=>?_) fun hc o=>?_))))))))
  rotate_left
  ·refine RC.ex ?_
   obtain rfl:=oi o
   exact⟨rfl,j.sp 2 [1]⟩
  refine RC.ss (RC.bs (RL.aZ (f:=(fun x=>x)) 1 j zr Fd.self ux fun bb j=>(mv (vi ag) ?_)))
  obtain⟨uR,bc,o⟩:=bd o
  refine RL.call zt zr Nc [bb,(vi ag)] zr (aD (q8 N (p1:=ag) (i0:=0) j zr bc) ?_)
  rintro _ w ⟨rfl,j⟩
  refine aP (vi uR) (RL.ns (mv (vi uR) (ic uR 0 (RL.nt (dT o (fun hc o=>?_) fun hc o=>?_)))))
  rotate_left
  ·refine RC.skip (bP (aH (RC.region (mv (vi ag) (RL.gk ag 1 (aP (vi (IntKind.wrap .i64 (ag+1))) (RL.nil ?_)))))))
   obtain rfl:=oi o
   exact⟨rfl,j.sp 3 [2]⟩
  refine RC.sr (mv (vi uR) (aP (vi uR) (RL.nt (RC.rb (bR ?_)))))
  obtain rfl:=oi o
  exact⟨rfl,bY ⟨rfl,j.drop 3⟩⟩
 ·intro r U w e hK
  subst e
  refine bR ?_
  obtain rfl:=oi o
  exact hK
 rintro ag _ w rfl ⟨O,rfl,j⟩
 rw [Fo.cZ] at o
 refine aH (RC.sr (aP (vi 0) (RL.nt (RC.ret ?_))))
 obtain rfl:=oi o
 exact bY ⟨rfl,j.drop 1⟩
theorem sS {p0 p1:cA} {res:Bool} (j:Holds E w V) (h0:V[i0]? =some (rd v0 p0)) (h1:V[i1]? =some (rd v1 p1)) (hb:iH N p0 p1=some res):
    Calls bN 30 [v0,v1].toArray w (gJ (aU E V res)):=by
 unfold iH at hb
 refine enter Tryz.func30 zr zr ?_
 have j:=(j.dup (i0+0) h0).dup (i1+1) h1
 refine RC.sr (RL.dD 1 v0 j zr fun o w j=>?_)
 refine RL.dD 1 v1 j zr fun aa w j=>?_
 refine aP (vb false) (RL.ns (RL.aX zr p4 (RL.aM 1 j zr kF cL (RL.aX zr r7 (RL.aM 0 j zr mc cL (ic p0.cO p1.To (mv (vb (decide (p0.cO<=p1.To))) (RL.gs true (decide (p0.cO<=p1.To)) (vp aa 3) zr zr zr (eB p4) ?_))))))))
 refine RL.gs true (decide (p0.cO<=p1.To)) (vi p1.cO) rfl rfl rfl (cC 0 rfl j (fun h=>by exact(cM h:cv (true&&((decide (p0.cO<=p1.To))==true)) (vp aa 3)= (vp aa 3))) rfl kF cL) (RL.gs true (decide (p0.cO<=p1.To)) (vp o 4) rfl rfl rfl (eB r7) (RL.gs true (decide (p0.cO<=p1.To)) (vi p0.To) rfl rfl rfl (cC 1 rfl j (fun h=>by exact(cM h:cv (true&&((decide (p0.cO<=p1.To))==true)) (vp o 4)= (vp o 4))) rfl mc cL) (RL.gs true (decide (p0.cO<=p1.To)) (vb (decide (p1.cO<=p0.To))) rfl rfl rfl (dK .leq .i64 p1.cO p0.To rfl (fun h=>by exact(cM h:cv (true&&((decide (p0.cO<=p1.To))==true)) (vi p1.cO)= (vi p1.cO))) (fun h=>by exact(cM h:cv (true&&((decide (p0.cO<=p1.To))==true)) (vi p0.To)= (vi p0.To))) rfl) (RL.pick (decide (p0.cO<=p1.To)) (vb ((decide (p0.cO<=p1.To))&&(decide (p1.cO<=p0.To)))) (gr true rfl) (aP (vb ((decide (p0.cO<=p1.To))&&(decide (p1.cO<=p0.To)))) (RL.nt (RC.ret ?_)))))))
 obtain rfl:=oi hb
 exact bY ⟨rfl,j.drop 4⟩
theorem sm {p0 p1:aI} {res:Bool} (o:Holds E w V) (h0:V[i0]? =some (rd v0 p0)) (h1:V[i1]? =some (rd v1 p1)) (hb:f9 N p0 p1=some res):
    Calls bN 31 [v0,v1].toArray w (gJ (aU E V res)):=by
 unfold f9 at hb
 refine enter Tryz.func31 zr zr ?_
 have o:=(o.dup (i0+0) h0).dup (i1+1) h1
 refine RC.sr (RL.dD 1 v0 o zr fun ae w o=>?_)
 refine RL.dD 1 v1 o zr fun af w o=>?_
 refine aP (vb false) (RL.nq ?_)
 obtain⟨ad,hj,hb⟩:=bd hb
 refine RC.jn (fun(ad:Bool)=>SH E V [(4,vb ad)] []) ad ?_ ?_
 ·refine RC.region (RL.aX zr jo (RL.aM 1 o zr eJ cL (RL.aX zr jo (RL.aM 0 o zr eJ cL (RL.min p0.X1 p1.X1 (RL.aX zr iw (RL.aM 1 o zr dQ cL (RL.aX zr iw ?_))))))))
  refine RL.aM 0 o zr dQ cL (RL.max p0.X0 p1.X0 (ic ((if p1.X1<p0.X1 then p1.X1 else p0.X1)) ((if p0.X0<p1.X0 then p1.X0 else p0.X0)) (mv (vb (decide ((if p1.X1<p0.X1 then p1.X1 else p0.X1)> (if p0.X0<p1.X0 then p1.X0 else p0.X0)))) (fA hj (fun j hj=>?_) fun j hj=>?_))))
  ·refine RL.aX (hg:=(cg j)) zr kA (RL.aM (hg:=(cg j)) 1 o zr fJ cL (RL.aX (hg:=(cg j)) zr kA (RL.aM (hg:=(cg j)) 0 o zr fJ cL (RL.min (hg:=(cg j)) p0.Y1 p1.Y1 (RL.aX (hg:=(cg j)) zr g8 (RL.aM (hg:=(cg j)) 1 o zr dH cL (RL.aX (hg:=(cg j)) zr g8 (RL.aM (hg:=(cg j)) 0 o zr dH cL ?_))))))))
   refine RL.max (hg:=(cg j)) p0.Y0 p1.Y0 (RL.lh (if p1.Y1<p0.Y1 then p1.Y1 else p0.Y1) (if p0.Y0<p1.Y0 then p1.Y0 else p0.Y0) (cg j) (fB j (vb (decide ((if p1.Y1<p0.Y1 then p1.Y1 else p0.Y1)> (if p0.Y0<p1.Y0 then p1.Y0 else p0.Y0)))) (aP (vb (decide ((if p1.Y1<p0.Y1 then p1.Y1 else p0.Y1)> (if p0.Y0<p1.Y0 then p1.Y0 else p0.Y0)))) (RL.nil ?_))))
   obtain rfl:=oi hj
   exact⟨rfl,o.sp 4 []⟩
  refine bC j (bC j (bC j (bC j (bC j (bC j (bC j (bC j (bC j ?_))))))))
  refine bC j (bC j (fB j (vb false) (aP (vb false) (RL.nil ?_))))
  obtain rfl:=oi hj
  exact⟨rfl,o.sp 4 []⟩
 rintro _ w ⟨O,rfl,o⟩
 refine aH (RC.ret ?_)
 obtain rfl:=oi hb
 exact bY ⟨rfl,o.drop 0⟩
theorem jA {p0:cA} {res:Bool} (j:Holds E w V) (h0:V[i0]? =some (rd v0 p0)) (hb:eW N p0 p1=some res):
    Calls bN 35 [v0,(vi p1)].toArray w (gJ (aU E V res)):=by
 unfold eW at hb
 refine enter Tryz.func35 zr zr ?_
 have j:=j.dup (i0+0) h0
 refine RC.sr (RL.dD 0 v0 j zr fun o w j=>?_)
 refine aP (vb false) (RL.ns (RL.aX zr p4 (RL.aM 0 j zr kF cL (mv (vi p1) (ic p0.cO p1 (mv (vb (decide (p0.cO<=p1))) (RL.gs true (decide (p0.cO<=p1)) (vi p1) zr zr zr cH (RL.gs true (decide (p0.cO<=p1)) (vp o 4) zr zr zr (eB r7) ?_))))))))
 refine RL.gs true (decide (p0.cO<=p1)) (vi p0.To) rfl rfl rfl (cC 0 rfl j (fun h=>by exact(cM h:cv (true&&((decide (p0.cO<=p1))==true)) (vp o 4)= (vp o 4))) rfl mc cL) (RL.gs true (decide (p0.cO<=p1)) (vb (decide (p1<=p0.To))) rfl rfl rfl (dK .leq .i64 p1 p0.To rfl (fun h=>by exact(cM h:cv (true&&((decide (p0.cO<=p1))==true)) (vi p1)= (vi p1))) (fun h=>by exact(cM h:cv (true&&((decide (p0.cO<=p1))==true)) (vi p0.To)= (vi p0.To))) rfl) (RL.pick (decide (p0.cO<=p1)) (vb ((decide (p0.cO<=p1))&&(decide (p1<=p0.To)))) (gr true rfl) (aP (vb ((decide (p0.cO<=p1))&&(decide (p1<=p0.To)))) (RL.nt (RC.ret ?_)))))
 obtain rfl:=oi hb
 exact bY ⟨rfl,j.drop 2⟩
def tQ (E:World) (V:List HP) (r:Bool) (U:Nat->Value) (w:World):Prop:=lG bN 28 Tryz.f110 (aU E V r) .ret U w
theorem lC {p0: (List aG)} {res:Bool} (j:Holds E w V) (h0:V[i0]? =some (rd v0 p0)) (o:gw N p0 p1=some res):
    Calls bN 110 [v0,(vi p1)].toArray w (gJ (aU E V res)):=by
 unfold gw at o
 refine enter Tryz.func110 zr zr ?_
 have j:=j.dup (i0+0) h0
 refine RC.sr (aP (vb false) (RL.nq (RC.sr (aP (vi 0) (RL.nt ?_)))))
 obtain⟨an,hN,o⟩:=bd o
 refine RC.iter (fun(ab:Int)=>SH E V [(0,v0),(1,vi p1),(5,vi ab)] [rd v0 p0]) (fun(ab:Int)=>SH E V [] [rd v0 p0]) (tQ E V) hN ?_ ?_ ?_ ?_
 ·exact j.sp 1 [0]
 ·rintro ab fl _ w ⟨O,rfl,j⟩ o
  refine RC.seq (RC.sr (mv (vi ab) (mv v0 (RL.bB 0 p0 j wo (ic ab ((p0.length:Int)) (RL.nt (dT o (fun hc o=>?_) fun hc o=>?_)))))))
  rotate_left
  ·refine RC.ex ?_
   obtain rfl:=oi o
   exact⟨rfl,j.sp 1 [0]⟩
  refine RC.ss (RC.block (RC.seq ?_))
  obtain⟨af,hj,o⟩:=bd o
  refine RC.jn (fun(af:Bool)=>SH E V [(0,v0),(1,vi p1),(5,vi ab),(27,vb af)] [rd v0 p0]) af ?_ ?_
  ·refine RC.region (mv v0 (mv (vi ab) ?_))
   obtain⟨ag,aj,hj⟩:=bd hj
   refine RL.bO 0 j o7 aj fun aq j=>(RL.dV 0 j zr qp eK fun ar j=>(RL.bG ag.from_ 0 j cL (mv (vi p1) (ic ag.from_ p1 (mv (vb (decide (ag.from_<=p1))) (fA hj (fun aa hj=>?_) fun aa hj=>?_))))))
   rotate_left
   ·refine bC aa (bC aa (bC aa (bC aa (bC aa (bC aa (bC aa (fB aa (vb false) (RL.nil ?_))))))))
    obtain rfl:=oi hj
    exact⟨rfl,j.sp 3 [2]⟩
   refine RL.move (vi p1) (cg aa) (RL.move v0 (cg aa) (RL.move (vi ab) (cg aa) ?_))
   obtain⟨ah,ak,hj⟩:=bd hj
   refine RL.bO (hg:=(cg aa)) 2 j o7 ak fun au j=>(RL.dV (hg:=(cg aa)) 0 j zr qo eL fun av j=>(RL.bG (hg:=(cg aa)) ah.to 0 j cL (RL.lh p1 ah.to (cg aa) (fB aa (vb (decide (p1<ah.to))) (RL.nil ?_)))))
   obtain rfl:=oi hj
   exact⟨rfl,j.sp 5 [4]⟩
  rintro _ w ⟨O,rfl,j⟩
  refine aH (dT o (fun hc o=>?_) fun hc o=>?_)
  ·refine RC.sr (aP (vb true) (RL.nt (RC.rb (bR ?_))))
   obtain rfl:=oi o
   exact⟨rfl,bY ⟨rfl,j.drop 1⟩⟩
  refine RC.skip (bP (aH (RC.region (mv (vi ab) (RL.gk ab 1 (aP (vi (IntKind.wrap .i64 (ab+1))) (RL.nil ?_)))))))
  obtain rfl:=oi o
  exact⟨rfl,j.sp 1 [0]⟩
 ·intro r U w e hK
  subst e
  refine bR ?_
  obtain rfl:=oi o
  exact hK
 rintro ab _ w rfl ⟨O,rfl,j⟩
 rw [Fo.cZ] at o
 refine aH (RC.sr (aP (vb false) (RL.nt (RC.ret ?_))))
 obtain rfl:=oi o
 exact bY ⟨rfl,j.drop 1⟩
theorem tR {p0: (List aG)} {p1: (List aG)} {res: (List aG)} (j:Holds E w V) (h0:V[i0]? =some (rd v0 p0)) (h1:V[i1]? =some (rd v1 p1)) (hb:jW N p0 p1 p2=some res):
    Calls bN 124 [v0,v1,(vi p2)].toArray w (gJ (lP E V res)):=by
 unfold jW at hb
 refine enter Tryz.func124 zr zr ?_
 have j:=(j.dup (i0+0) h0).dup (i1+1) h1
 refine RC.sr (aP (.slice none 0 0) (RL.ns (aP (.slice none 0 0) (RL.nq (RC.sr (aP (vi 0) (RL.nt ?_)))))))
 obtain⟨bw,hN,hb⟩:=bd hb
 refine RC.iter (fun(af: (List Int)×Int) U w=>∃a3:Value,SH E V [(0,v0),(1,v1),(2,vi p2),(7,a3),(8,vi af.2)] [rd v0 p0,rd v1 p1,rd a3 af.1] U w) (fun(af: (List Int)×Int) U w=>∃al:Value,SH E V [(0,v0),(1,v1),(2,vi p2),(7,al)] [rd v0 p0,rd v1 p1,rd al af.1] U w) (fun(r:Empty) _ _=>r.elim) hN ?_ ?_ ?_ ?_
 ·have j:=j.yB Int
  exact⟨(.slice none 0 0),j.sp 3 [2,1,0]⟩
 ·rintro af fl _ w ⟨au,O,rfl,j⟩ hb
  refine RC.seq (RC.sr (mv (vi af.2) (mv v0 (RL.bB 0 p0 j wo (ic af.2 ((p0.length:Int)) (RL.nt (dT hb (fun hc hb=>?_) fun hc hb=>?_)))))))
  rotate_left
  ·refine RC.ex ?_
   obtain rfl:=oi hb
   exact⟨rfl,au,j.sp 3 [0,1,2]⟩
  refine RC.ss (RC.block (RC.vV mixed [0,0,0,0,0,0,2,1,1,1,1,1,2,0] [0,1,2,3,4,5,7,8,9,10,11,6,12,13] ?_))
  have j:=j.drew
  refine DP.e0 zr (mv au (aW zr (mv v0 (aW zr (mv (vi af.2) (aW zr ?_))))))
  obtain⟨av,ba,hb⟩:=bd hb
  refine RL.bO 0 j o7 ba fun bx j=>(aW zr (RL.dV 0 j zr qp eK fun bz j=>(aW zr (RL.bG av.from_ 0 j cL (DP.d0 (DP.e1 v0 zr (fun w=>RL.move v0 zt DP.d1) (DP.e1 (vi af.2) zr (fun w=>RL.move (vi af.2) zt DP.d1) ?_)))))))
  obtain⟨aw,bb,hb⟩:=bd hb
  refine DP.wM 2 zr j o7 bb fun b0 j=>(DP.CH 0 zr zt j zr qo eL fun b1 j=>(DP.rO aw.to 0 zr j cL fun a68 b2 j=>(DP.e2 zr ?_)))
  obtain⟨b3,bc,hb⟩:=bd hb
  refine RL.call zt zr B7 [au,(vi av.from_)] zr (aD (iL N (p1:=av.from_) (i0:=7) j zr bc) ?_)
  rintro bf w j
  refine DP.d2 (⟨zt,j.iv 1⟩) (DP.e2 zr ?_)
  obtain⟨b4,bg,hb⟩:=bd hb
  refine RL.call zt zr B7 [bf,(vi aw.to)] zr (aD (iL N (p1:=aw.to) (i0:=0) j zr bg) ?_)
  rintro a5 w j
  refine DP.d2 (⟨zt,j.iv 2⟩) (DP.e0 zr (aP a5 (DP.d0 ?_)))
  have j:=j.pl 10 [0,1,3,4,5,6,7,8,9]
  refine DP.z (bP (aH (RC.region (mv (vi af.2) (RL.gk af.2 1 (aP (vi (IntKind.wrap .i64 (af.2+1))) (RL.nil ?_)))))))
  obtain rfl:=oi hb
  exact⟨rfl,a5,j.sp 9 [6,7,0]⟩
 ·intro r _ _ _ _
  exact r.elim
 rintro af _ w rfl ⟨al,O,rfl,j⟩
 rw [Fo.cZ] at hb
 refine aH (RC.seq (RC.sr (aP (vi 0) (RL.nt ?_))))
 obtain⟨b5,hN,hb⟩:=bd hb
 refine RC.iter (fun(ae: (List Int)×Int) U w=>∃a6:Value,SH E V [(0,v0),(1,v1),(2,vi p2),(7,a6),(9,vi ae.2)] [rd v0 p0,rd v1 p1,rd a6 ae.1] U w) (fun(ae: (List Int)×Int) U w=>∃ag:Value,SH E V [(0,v0),(1,v1),(2,vi p2),(7,ag)] [rd v0 p0,rd v1 p1,rd ag ae.1] U w) (fun(r:Empty) _ _=>r.elim) hN ?_ ?_ ?_ ?_
 ·exact⟨al,j.sp 3 [0,1,2]⟩
 ·rintro ae fl _ w ⟨ax,O,rfl,j⟩ hb
  refine RC.seq (RC.sr (mv (vi ae.2) (mv v1 (RL.bB 1 p1 j wo (ic ae.2 ((p1.length:Int)) (RL.nt (dT hb (fun hc hb=>?_) fun hc hb=>?_)))))))
  rotate_left
  ·refine RC.ex ?_
   obtain rfl:=oi hb
   exact⟨rfl,ax,j.sp 3 [0,1,2]⟩
  refine RC.ss (RC.block (RC.vV mixed [0,0,0,0,0,0,2,1,1,1,1,1,2,0] [0,1,2,3,4,5,7,8,9,10,11,6,12,13] ?_))
  have j:=j.drew
  refine DP.e0 zr (mv ax (aW zr (mv v1 (aW zr (mv (vi ae.2) (aW zr ?_))))))
  obtain⟨ay,bh,hb⟩:=bd hb
  refine RL.bO 1 j o7 bh fun b6 j=>(aW zr (RL.dV 0 j zr qp eK fun b7 j=>(aW zr (RL.bG ay.from_ 0 j cL (DP.d0 (DP.e1 v1 zr (fun w=>RL.move v1 zt DP.d1) (DP.e1 (vi ae.2) zr (fun w=>RL.move (vi ae.2) zt DP.d1) ?_)))))))
  obtain⟨az,bj,hb⟩:=bd hb
  refine DP.wM 3 zr j o7 bj fun b8 j=>(DP.CH 0 zr zt j zr qo eL fun b9 j=>(DP.rO az.to 0 zr j cL fun a111 ca j=>(DP.e2 zr ?_)))
  obtain⟨cb,bk,hb⟩:=bd hb
  refine RL.call zt zr B7 [ax,(vi ay.from_)] zr (aD (iL N (p1:=ay.from_) (i0:=7) j zr bk) ?_)
  rintro bl w j
  refine DP.d2 (⟨zt,j.iv 1⟩) (DP.e2 zr ?_)
  obtain⟨cc,bm,hb⟩:=bd hb
  refine RL.call zt zr B7 [bl,(vi az.to)] zr (aD (iL N (p1:=az.to) (i0:=0) j zr bm) ?_)
  rintro a7 w j
  refine DP.d2 (⟨zt,j.iv 2⟩) (DP.e0 zr (aP a7 (DP.d0 ?_)))
  have j:=j.pl 10 [0,1,3,4,5,6,7,8,9]
  refine DP.z (bP (aH (RC.region (mv (vi ae.2) (RL.gk ae.2 1 (aP (vi (IntKind.wrap .i64 (ae.2+1))) (RL.nil ?_)))))))
  obtain rfl:=oi hb
  exact⟨rfl,a7,j.sp 9 [6,7,0]⟩
 ·intro r _ _ _ _
  exact r.elim
 rintro ae _ w rfl ⟨ag,O,rfl,j⟩
 rw [Fo.cZ] at hb
 refine aH (RC.sr (aP (.slice none 0 0) (RL.nq (RC.sr (aP (vi 1) (RL.nt ?_))))))
 obtain⟨cd,hN,hb⟩:=bd hb
 refine RC.iter (fun(ad: (List aG)×Int) U w=>∃a8:Value,SH E V [(0,v0),(1,v1),(2,vi p2),(7,ag),(10,a8),(11,vi ad.2)] [rd v0 p0,rd v1 p1,rd ag ae.1,own 164 a8 ad.1] U w) (fun(ad: (List aG)×Int) U w=>∃ak:Value,SH E V [(10,ak)] [rd v0 p0,rd v1 p1,rd ag ae.1,own 164 ak ad.1] U w) (fun(r:Empty) _ _=>r.elim) hN ?_ ?_ ?_ ?_
 ·have j:=j.cP aG 164
  exact⟨(.slice none 0 0),j.sp 4 [1,2,3,0]⟩
 ·rintro ad fl _ w ⟨an,O,rfl,j⟩ hb
  refine RC.seq (RC.sr (mv (vi ad.2) (mv ag (RL.bB 2 ae.1 j mB (ic ad.2 ((ae.1.length:Int)) (RL.nt (dT hb (fun hc hb=>?_) fun hc hb=>?_)))))))
  rotate_left
  ·refine RC.ex ?_
   obtain rfl:=oi hb
   exact⟨rfl,an,j.sp 4 [0,1,2,3]⟩
  refine RC.ss (RC.block (RC.seq (RC.vV mixed [0,0,0,0,0,0,2,1,1,1,1,1,1,2,0,0] [0,1,2,3,4,5,7,8,9,10,11,12,6,13,14,15] ?_)))
  have j:=j.drew
  refine DP.e0 zr (mv v0 (aW zr (mv ag (aW zr (mv (vi ad.2) (aW zr (RL.gk ad.2 1 (aW zr ?_))))))))
  obtain⟨a0,bn,hb⟩:=bd hb
  refine RL.bO 2 j eF bn fun cf j=>(aW zr (RL.bG a0 0 j cL (DP.d0 (DP.e1 v1 zr (fun w=>RL.move v1 zt DP.d1) (DP.e1 ag zr (fun w=>RL.move ag zt DP.d1) (DP.e1 (vi ad.2) zr (fun w=>RL.move (vi ad.2) zt DP.d1) (DP.e1 (vi (IntKind.wrap .i64 (ad.2 - 1))) zr (fun w=>RL.gk ad.2 1 DP.d1) ?_)))))))
  obtain⟨a1,bo,hb⟩:=bd hb
  refine DP.wM 3 zr j eF bo fun cg j=>(DP.rO a1 0 zr j cL fun a176 ch j=>(DP.e2 zr ?_))
  obtain⟨o,bp,hb⟩:=bd hb
  refine RL.call zt zr HO [v0,(vi a0)] zr (aD (lC N (p1:=a0) (i0:=3) j zr bp) ?_)
  rintro _ w ⟨rfl,j⟩
  refine DP.d2 (⟨zt,j.iv 0⟩) (DP.e2 zr ?_)
  obtain⟨aa,bq,hb⟩:=bd hb
  refine RL.call zt zr HO [v1,(vi a1)] zr (aD (lC N (p1:=a1) (i0:=4) j zr bq) ?_)
  rintro _ w ⟨rfl,j⟩
  refine DP.d2 (⟨zt,j.iv 0⟩) (DP.e0 zr (aP (vb o) (aW zr (aP (vb aa) (DP.d0 ?_)))))
  have j:=j.pl 7 [1,2,3,4,5,6]
  refine DP.z (aH (RC.sr (mv (vi p2) (ic p2 1 (mv (vb (p2==1)) (RL.gs true (p2==1) (vb o) rfl rfl rfl cH (RL.gs true (p2==1) (vb o) rfl rfl rfl (cH (hx:=fun h=>by exact(cM h:cv (true&&((p2==1)==true)) (vb o)= (vb o)))) (RL.gs (true&&((p2==1)==true)) o (vb aa) rfl rfl rfl cH ?_))))))))
  refine RL.gs true (p2==1) (vb (o||aa)) rfl rfl rfl (kI o rfl (fun h=>by exact(cM h:cv (true&&((p2==1)==true)) (vb o)= (vb o))) (fun h=>by exact oh (h:=h) (true&&((p2==1)==true)))) (RL.pick (p2==1) (vb ((p2==1)&&(o||aa))) (gr true rfl) (mv (vb ((p2==1)&&(o||aa))) (RL.gs true ((p2==1)&&(o||aa)) (vi p2) rfl rfl rfl cH (RL.gs true ((p2==1)&&(o||aa)) (vb (p2==2)) rfl rfl rfl (dK .eql .i64 p2 2 rfl (fun h=>by exact(cM h:cv (true&&(((p2==1)&&(o||aa))==false)) (vi p2)= (vi p2))) (fun _=>rfl) rfl) (RL.gs true ((p2==1)&&(o||aa)) (vb (p2==2)) rfl rfl rfl (cH (hx:=fun h=>by exact(cM h:cv (true&&(((p2==1)&&(o||aa))==false)) (vb (p2==2))= (vb (p2==2))))) (RL.gs (true&&(((p2==1)&&(o||aa))==false)) (p2==2) (vb o) rfl rfl rfl cH (RL.gs true ((p2==1)&&(o||aa)) (vb ((p2==2)&&o)) rfl rfl rfl (kI (p2==2) rfl (fun h=>by exact(cM h:cv (true&&(((p2==1)&&(o||aa))==false)) (vb (p2==2))= (vb (p2==2)))) (fun h=>by exact gr (true&&(((p2==1)&&(o||aa))==false)) h)) (RL.gs true ((p2==1)&&(o||aa)) (vb ((p2==2)&&o)) rfl rfl rfl (cH (hx:=fun h=>by exact(cM h:cv (true&&(((p2==1)&&(o||aa))==false)) (vb ((p2==2)&&o))= (vb ((p2==2)&&o))))) ?_))))))))
  refine RL.gs (true&&(((p2==1)&&(o||aa))==false)) ((p2==2)&&o) (vb aa) rfl rfl rfl cH (RL.gs true ((p2==1)&&(o||aa)) (vb (((p2==2)&&o)&&aa)) rfl rfl rfl (kI ((p2==2)&&o) rfl (fun h=>by exact(cM h:cv (true&&(((p2==1)&&(o||aa))==false)) (vb ((p2==2)&&o))= (vb ((p2==2)&&o)))) (fun h=>by exact gr (true&&(((p2==1)&&(o||aa))==false)) h)) (RL.pick ((p2==1)&&(o||aa)) (vb (((p2==1)&&(o||aa))||(((p2==2)&&o)&&aa))) (oh true) (mv (vb (((p2==1)&&(o||aa))||(((p2==2)&&o)&&aa))) (RL.gs true (((p2==1)&&(o||aa))||(((p2==2)&&o)&&aa)) (vi p2) rfl rfl rfl cH (RL.gs true (((p2==1)&&(o||aa))||(((p2==2)&&o)&&aa)) (vb (p2==3)) rfl rfl rfl (dK .eql .i64 p2 3 rfl (fun h=>by exact(cM h:cv (true&&((((p2==1)&&(o||aa))||(((p2==2)&&o)&&aa))==false)) (vi p2)= (vi p2))) (fun _=>rfl) rfl) (RL.gs true (((p2==1)&&(o||aa))||(((p2==2)&&o)&&aa)) (vb (p2==3)) rfl rfl rfl (cH (hx:=fun h=>by exact(cM h:cv (true&&((((p2==1)&&(o||aa))||(((p2==2)&&o)&&aa))==false)) (vb (p2==3))= (vb (p2==3))))) (RL.gs (true&&((((p2==1)&&(o||aa))||(((p2==2)&&o)&&aa))==false)) (p2==3) (vb o) rfl rfl rfl cH (RL.gs true (((p2==1)&&(o||aa))||(((p2==2)&&o)&&aa)) (vb ((p2==3)&&o)) rfl rfl rfl (kI (p2==3) rfl (fun h=>by exact(cM h:cv (true&&((((p2==1)&&(o||aa))||(((p2==2)&&o)&&aa))==false)) (vb (p2==3))= (vb (p2==3)))) (fun h=>by exact gr (true&&((((p2==1)&&(o||aa))||(((p2==2)&&o)&&aa))==false)) h)) ?_))))))))
  refine RL.gs true (((p2==1)&&(o||aa))||(((p2==2)&&o)&&aa)) (vb ((p2==3)&&o)) rfl rfl rfl (cH (hx:=fun h=>by exact(cM h:cv (true&&((((p2==1)&&(o||aa))||(((p2==2)&&o)&&aa))==false)) (vb ((p2==3)&&o))= (vb ((p2==3)&&o))))) (RL.gs (true&&((((p2==1)&&(o||aa))||(((p2==2)&&o)&&aa))==false)) ((p2==3)&&o) (vb aa) rfl rfl rfl cH (RL.gs (true&&((((p2==1)&&(o||aa))||(((p2==2)&&o)&&aa))==false)) ((p2==3)&&o) (vb (!aa)) rfl rfl rfl (Hf aa rfl (fun h=>by exact(cM h:cv ((true&&((((p2==1)&&(o||aa))||(((p2==2)&&o)&&aa))==false))&&(((p2==3)&&o)==true)) (vb aa)= (vb aa)))) (RL.gs true (((p2==1)&&(o||aa))||(((p2==2)&&o)&&aa)) (vb (((p2==3)&&o)&&(!aa))) rfl rfl rfl (kI ((p2==3)&&o) rfl (fun h=>by exact(cM h:cv (true&&((((p2==1)&&(o||aa))||(((p2==2)&&o)&&aa))==false)) (vb ((p2==3)&&o))= (vb ((p2==3)&&o)))) (fun h=>by exact gr (true&&((((p2==1)&&(o||aa))||(((p2==2)&&o)&&aa))==false)) h)) (RL.pick (((p2==1)&&(o||aa))||(((p2==2)&&o)&&aa)) (vb ((((p2==1)&&(o||aa))||(((p2==2)&&o)&&aa))||(((p2==3)&&o)&&(!aa)))) (oh true) (RL.nt ?_)))))
  obtain⟨a2,hj,hb⟩:=bd hb
  refine RC.jn (fun(a2: (List aG)) U w=>∃ao:Value,SH E V [(0,v0),(1,v1),(2,vi p2),(7,ag),(10,ao),(11,vi ad.2)] [rd v0 p0,rd v1 p1,rd ag ae.1,own 164 ao a2] U w) a2 ?_ ?_
  ·refine dT hj (fun hc hj=>?_) fun hc hj=>?_
   rotate_left
   ·refine RC.skip ?_
    obtain rfl:=oi hj
    exact⟨rfl,an,j.sp 6 [2,3,4,5]⟩
   refine RC.vV mixed [0,0,0,0,0,0,0,0,0,0,0,2,0] [0,1,2,3,4,5,6,7,8,9,10,11,12] ?_
   have j:=j.drew
   refine DP.e0 zr (mv an (aW zr (mv ag (aW zr (mv (vi ad.2) (aW zr (RL.gk ad.2 1 (aW zr ?_))))))))
   obtain⟨aq,br,hj⟩:=bd hj
   refine RL.bO 4 j eF br fun cj j=>(aW zr (RL.bG aq 0 j cL (aW zr (mv ag (aW zr (mv (vi ad.2) (aW zr ?_)))))))
   obtain⟨ar,bs,hj⟩:=bd hj
   refine RL.bO 5 j eF bs fun ck j=>(aW zr (RL.bG ar 0 j cL (aW zr ?_)))
   have j:=(j.sc Int aq).sc Int ar
   refine RL.build (⟨aq,ar⟩:aG) trivial rfl j [(0,vi aq),(1,vi ar)] rfl JE rfl (fun M hs g=>by have h:=pH M;exact cT.cons (f:=fun(x:aG) y=>{x with from_:=y}) h lv (g.sat 1 _ rfl).1 fun _ h=>cT.cons (f:=fun(x:aG) y=>{x with to:=y}) h lz (g.sat 0 _ rfl).1 fun _ h=>cT.nil h) fun bt j=>?_
   refine oZ zr ?_
   have j:=j.freeze 10
   obtain⟨cl,bu,hj⟩:=bd hj
   refine RL.call zt zr JG [an,bt] zr (aD (oz N (i0:=10) (i1:=0) j zr zr bu) ?_)
   rintro a9 w j
   refine rB zr (aP a9 (DP.d0 (DP.z ?_)))
   obtain rfl:=oi hj
   exact⟨rfl,a9,j.sp 12 [8,9,10,0]⟩
  rintro _ w ⟨ao,O,rfl,j⟩
  refine bP (aH (RC.region (mv (vi ad.2) (RL.gk ad.2 1 (aP (vi (IntKind.wrap .i64 (ad.2+1))) (RL.nil ?_))))))
  obtain rfl:=oi hb
  exact⟨rfl,ao,j.sp 4 [0,1,2,3]⟩
 ·intro r _ _ _ _
  exact r.elim
 rintro ad _ w rfl ⟨ak,O,rfl,j⟩
 rw [Fo.cZ] at hb
 refine aH (RC.sr (mv ak (aP ak (RL.nt (RC.ret ?_)))))
 obtain rfl:=oi hb
 exact bY (j.pk 4 [3])
theorem rI {p0: (List aI)} {p1: (List aI)} {res: (List aI)} (j:Holds E w V) (h0:V[i0]? =some (rd v0 p0)) (h1:V[i1]? =some (rd v1 p1)) (o:gG N p0 p1 p2=some res):
    Calls bN 104 [v0,v1,(vi p2)].toArray w (gJ (fX E V res)):=by
 unfold gG at o
 refine enter Tryz.func104 zr zr ?_
 have j:=(j.dup (i0+0) h0).dup (i1+1) h1
 refine RC.sr (aP (.slice none 0 0) (RL.ns (aP (.slice none 0 0) (RL.ns (mv (.slice none 0 0) (mv v0 ?_))))))
 have j:=j.cP aI 69
 obtain⟨bc,aq,o⟩:=bd o
 refine RL.app 0 2 j Av aq fun al w j=>?_
 refine aP al (RL.ns (mv al (mv v1 ?_)))
 obtain⟨bf,ar,o⟩:=bd o
 refine RL.app 0 1 j Av ar fun ai w j=>?_
 refine aP ai (RL.ns (mv ai ?_))
 have j:=j.freeze 0
 obtain⟨ae,au,o⟩:=bd o
 refine RL.call zt zr JD [ai] zr (aD (nM N (i0:=0) j zr au) ?_)
 rintro ab w j
 refine aP ab (RL.ns (aP (.slice none 0 0) (RL.nq (RC.sr (aP (vi 1) (RL.nt ?_))))))
 obtain⟨bg,hN,o⟩:=bd o
 refine RC.iter (fun(aa: (List aL)×Int) U w=>∃an:Value,SH E V [(0,v0),(1,v1),(2,vi p2),(8,ab),(9,an),(10,vi aa.2)] [rd v0 p0,rd v1 p1,rd ab ae,own 147 an aa.1] U w) (fun(aa: (List aL)×Int) U w=>∃ad:Value,SH E V [(9,ad)] [rd v0 p0,rd v1 p1,rd ab ae,own 147 ad aa.1] U w) (fun(r:Empty) _ _=>r.elim) hN ?_ ?_ ?_ ?_
 ·have j:=j.cP aL 147
  exact⟨(.slice none 0 0),j.sp 5 [4,3,1,0]⟩
 ·rintro aa fl _ w ⟨af,O,rfl,j⟩ o
  refine RC.seq (RC.sr (mv (vi aa.2) (mv ab (RL.bB 2 ae j mB (ic aa.2 ((ae.length:Int)) (RL.nt (dT o (fun hc o=>?_) fun hc o=>?_)))))))
  rotate_left
  ·refine RC.ex ?_
   obtain rfl:=oi o
   exact⟨rfl,af,j.sp 4 [0,1,2,3]⟩
  refine RC.ss (RC.block (RC.vV mixed [1,1,1,1,1,1,1,1,1,1,0,0,0,0,0,0,2,1,1,1,1,1,1,2,1,2,0,2,0] [0,1,2,3,4,5,6,7,8,9,10,11,12,13,14,15,17,18,19,20,21,22,24,16,23,25,26,27,28] ?_))
  have j:=j.drew
  refine DP.e1 af zr (fun w=>RL.move af zt DP.d1) (DP.e1 ab zr (fun w=>RL.move ab zt DP.d1) (DP.e1 (vi aa.2) zr (fun w=>RL.move (vi aa.2) zt DP.d1) (DP.e1 (vi (IntKind.wrap .i64 (aa.2 - 1))) zr (fun w=>RL.gk aa.2 1 DP.d1) ?_)))
  obtain⟨ag,ax,o⟩:=bd o
  refine DP.wM 2 zr j eF ax fun bj j=>(DP.rO ag 0 zr j cL fun a92 bk j=>(DP.e1 ab zr (fun w=>RL.move ab zt DP.d1) (DP.e1 (vi aa.2) zr (fun w=>RL.move (vi aa.2) zt DP.d1) ?_)))
  obtain⟨ah,ay,o⟩:=bd o
  refine DP.wM 4 zr j eF ay fun bl j=>(DP.rO ah 0 zr j cL fun a96 bm j=>(DP.e0 zr (mv v0 (aW zr (mv ab (aW zr (mv (vi aa.2) (aW zr ?_))))))))
  refine RL.gk aa.2 1 (aW zr ?_)
  obtain⟨aj,az,o⟩:=bd o
  refine RL.bO 6 j eF az fun bn j=>(aW zr (RL.bG aj 0 j cL (DP.d0 (DP.e1 v1 zr (fun w=>RL.move v1 zt DP.d1) (DP.e1 ab zr (fun w=>RL.move ab zt DP.d1) (DP.e1 (vi aa.2) zr (fun w=>RL.move (vi aa.2) zt DP.d1) (DP.e1 (vi (IntKind.wrap .i64 (aa.2 - 1))) zr (fun w=>RL.gk aa.2 1 DP.d1) ?_)))))))
  obtain⟨ak,a0,o⟩:=bd o
  refine DP.wM 7 zr j eF a0 fun bo j=>(DP.rO ak 0 zr j cL fun a102 bp j=>(DP.e1 (vi p2) zr (fun w=>RL.move (vi p2) zt DP.d1) (DP.e2 zr ?_)))
  obtain⟨bq,a1,o⟩:=bd o
  refine RL.call zt zr FV [v0,(vi aj)] zr (aD (kO N (p1:=aj) (i0:=7) j zr a1) ?_)
  rintro a2 w j
  refine DP.d2 (⟨⟨⟨zt,j.iv 6⟩,j.iv 4⟩,j.iv 1⟩) (DP.e2 zr ?_)
  obtain⟨br,a3,o⟩:=bd o
  refine RL.call zt zr FV [v1,(vi ak)] zr (aD (kO N (p1:=ak) (i0:=9) j zr a3) ?_)
  rintro a4 w j
  refine DP.d2 (⟨⟨⟨zt,j.iv 7⟩,j.iv 5⟩,j.iv 2⟩) (DP.e2 zr ?_)
  have j:=(j.freeze 1).freeze 0
  obtain⟨a5,a6,o⟩:=bd o
  refine RL.call zt zr LL [a2,a4,(vi p2)] zr (aD (tR N (p2:=p2) (i0:=1) (i1:=0) j zr zr a6) ?_)
  rintro a7 w j
  refine DP.d2 (⟨⟨⟨zt,j.iv 8⟩,j.iv 6⟩,j.iv 3⟩) (DP.e0 zr ?_)
  have j:=((j.sc Int ag).sc Int ah).freeze 2
  refine RL.build (⟨ag,ah,a5⟩:aL) trivial rfl j [(0,vi ag),(1,vi ah),(2,a7)] rfl JH rfl (fun M hs g=>by have h:=pG M;exact cT.cons (f:=fun(x:aL) y=>{x with from_:=y}) h oq (g.sat 1 _ rfl).1 fun _ h=>cT.cons (f:=fun(x:aL) y=>{x with to:=y}) h lB (g.sat 0 _ rfl).1 fun _ h=>cT.cons (f:=fun(x:aL) y=>{x with ja:=y}) h ot (g.sat 2 _ rfl).1 fun _ h=>cT.nil h) fun a8 j=>?_
  refine oZ zr ?_
  have j:=j.pull 16
  obtain⟨bs,a9,o⟩:=bd o
  refine RL.call zt zr JJ [af,a8] zr (aD (nN N (i1:=0) j zr a9) ?_)
  rintro ao w j
  refine DP.d2 (⟨⟨⟨zt,j.iv 12⟩,j.iv 10⟩,j.iv 7⟩) (DP.e0 zr (aP ao (DP.d0 ?_)))
  have j:=j.pl 18 [0,1,2,3,4,5,6,8,9,11,13,14,15,16,17]
  refine DP.z (bP (aH (RC.region (mv (vi aa.2) (RL.gk aa.2 1 (aP (vi (IntKind.wrap .i64 (aa.2+1))) (RL.nil ?_)))))))
  obtain rfl:=oi o
  exact⟨rfl,ao,j.sp 15 [11,12,13,0]⟩
 ·intro r _ _ _ _
  exact r.elim
 rintro aa _ w rfl ⟨ad,O,rfl,j⟩
 rw [Fo.cZ] at o
 refine aH (RC.sr (mv ad ?_))
 have j:=j.freeze 3
 obtain⟨bt,ba,o⟩:=bd o
 refine RL.call zt zr JK [ad] zr (aD (o8 N (i0:=3) j zr ba) ?_)
 rintro bb w j
 refine aP bb (RL.nt (RC.ret ?_))
 obtain rfl:=oi o
 exact bY (j.pk 5 [0])
theorem sq {p0: (List aI)} {p1: (List aI)} {res: (List aI)} (j:Holds E w V) (h0:V[i0]? =some (rd v0 p0)) (h1:V[i1]? =some (rd v1 p1)) (o:ku N p0 p1=some res):
    Calls bN 67 [v0,v1].toArray w (gJ (fX E V res)):=by
 unfold ku at o
 refine enter Tryz.func67 zr zr ?_
 have j:=(j.dup (i0+0) h0).dup (i1+1) h1
 refine RC.sr (aP (.slice none 0 0) (RL.ns (mv v0 (mv v1 ?_))))
 obtain⟨ad,aa,o⟩:=bd o
 refine RL.call zt zr LM [v0,v1,(vi 3)] zr (aD (rI N (p2:=3) (i0:=1) (i1:=0) j zr zr aa) ?_)
 rintro ab w j
 refine aP ab (RL.nt (RC.ret ?_))
 obtain rfl:=oi o
 exact bY (j.pk 3 [0])
theorem mQ {p0:kY} {res: (List aI)} (j:Holds E w V) (h0:V[i0]? =some (rd v0 p0)) (o:gl N p0 p1=some res):
    Calls bN 33 [v0,(vi p1)].toArray w (gJ (fX E V res)):=by
 unfold gl at o
 refine enter Tryz.func33 zr zr ?_
 have j:=j.dup (i0+0) h0
 refine RC.sr (RL.dD 0 v0 j zr fun ad w j=>?_)
 have j:=j.l6 (i:=0) rfl
 refine aP (.slice none 0 0) (RL.ns (aP (.slice none 0 0) (RL.nq (RC.sr (aP (vi 0) (RL.nt ?_))))))
 obtain⟨a8,hN,o⟩:=bd o
 refine RC.iter (fun(aa: (List aI)×Int) U w=>∃aj:Value,SH E V [(1,vi p1),(2,vp ad 0),(5,aj),(6,vi aa.2)] [pt (vp ad 0) p0,own 69 aj aa.1] U w) (fun(aa: (List aI)×Int) U w=>∃ae:Value,SH E V [(1,vi p1),(2,vp ad 0),(5,ae)] [pt (vp ad 0) p0,own 69 ae aa.1] U w) (fun(r:Empty) _ _=>r.elim) hN ?_ ?_ ?_ ?_
 ·have j:=j.cP aI 69
  exact⟨(.slice none 0 0),j.sp 3 [1,0]⟩
 ·rintro aa fl _ w ⟨ag,O,rfl,j⟩ o
  refine RC.seq (RC.sr (mv (vi aa.2) (RL.dV 0 j zr iz gM fun ba j=>(RL.bJ 0 p0.aN j n7 fun bb j=>(RL.bB 0 p0.aN j wO (ic aa.2 ((p0.aN.length:Int)) (RL.nt (dT o (fun hc o=>?_) fun hc o=>?_))))))))
  rotate_left
  ·refine RC.ex ?_
   obtain rfl:=oi o
   exact⟨rfl,ag,j.sp 4 [2,3]⟩
  refine RC.ss (RC.bs (RL.dV 2 j zr iz gM fun bc j=>(RL.bJ 0 p0.aN j n7 fun bf j=>(mv (vi aa.2) ?_))))
  obtain⟨an,ao,o⟩:=bd o
  refine RL.bO 0 j qQ ao fun bg j=>(RL.bJ 0 an j mj fun aq j=>(mv (vi p1) ?_))
  obtain⟨bh,ar,o⟩:=bd o
  refine RL.call zt zr I3 [aq,(vi p1)] zr (aD (jA N (p1:=p1) (i0:=0) j zr ar) ?_)
  rintro _ w ⟨rfl,j⟩
  refine RL.nt ?_
  obtain⟨ai,hj,o⟩:=bd o
  refine RC.jn (fun(ai: (List aI)) U w=>∃af:Value,SH E V [(1,vi p1),(2,vp ad 0),(5,af),(6,vi aa.2)] [pt (vp ad 0) p0,own 69 af ai] U w) ai ?_ ?_
  ·refine dT hj (fun hc hj=>?_) fun hc hj=>?_
   rotate_left
   ·refine RC.skip ?_
    obtain rfl:=oi hj
    exact⟨rfl,ag,j.sp 8 [6,7]⟩
   refine RC.region (mv ag (RL.dV 6 j zr iz gM fun bj j=>(RL.bJ 0 p0.aN j n7 fun bk j=>(mv (vi aa.2) ?_))))
   obtain⟨au,av,hj⟩:=bd hj
   refine RL.bO 0 j qQ av fun bl j=>(RL.bJ 0 au j mj fun aw j=>?_)
   obtain⟨ax,ay,hj⟩:=bd hj
   refine RL.call zt zr GD [aw] zr (aD (fK N (i0:=0) j zr ay) ?_)
   rintro az w j
   refine RL.dN ([ax]: (List aI)) j [az] jm oR (fun M hs g=>⟨(g.sat 0 _ zr).1,zt⟩) fun bm w j=>?_
   have j:=j.freeze 0
   obtain⟨bn,a0,hj⟩:=bd hj
   refine RL.app 13 0 j Av a0 fun ak w j=>?_
   refine aP ak (RL.nil ?_)
   obtain rfl:=oi hj
   exact⟨rfl,ak,j.sp 14 [12,13]⟩
  rintro _ w ⟨af,O,rfl,j⟩
  refine bP (aH (RC.region (mv (vi aa.2) (RL.gk aa.2 1 (aP (vi (IntKind.wrap .i64 (aa.2+1))) (RL.nil ?_))))))
  obtain rfl:=oi o
  exact⟨rfl,af,j.sp 2 [0,1]⟩
 ·intro r _ _ _ _
  exact r.elim
 rintro aa _ w rfl ⟨ae,O,rfl,j⟩
 rw [Fo.cZ] at o
 refine aH (RC.seq (RC.vV mixed [1,1,1,1,1,0,2,2,0] [0,1,2,3,4,5,6,7,8] ?_))
 have j:=j.drew
 refine DP.CH 0 zr zt j zr mL jf fun bo j=>(DP.zT p0.aJ 0 zr zt j pY fun bp a131 bq j=>(DP.e1 (vi p1) zr (fun w=>RL.move (vi p1) zt DP.d1) ?_))
 obtain⟨a1,a2,o⟩:=bd o
 refine DP.wM 1 zr j uV a2 fun br j=>(DP.zT a1 0 zr zt j uy fun a3 a136 bt j=>(DP.e0 zr (mv ae (oZ zr ?_))))
 have j:=j.freeze 7
 obtain⟨bu,a4,o⟩:=bd o
 refine RL.call zt zr Kt [ae] zr (aD (kn N (i0:=7) j zr a4) ?_)
 rintro a5 w j
 refine DP.d2 (⟨⟨zt,j.iv 4⟩,j.iv 1⟩) (DP.e2 zr ?_)
 have j:=j.freeze 0
 obtain⟨bw,a6,o⟩:=bd o
 refine RL.call zt zr Nh [a3,a5] zr (aD (sq N (i0:=2) (i1:=0) j zr zr a6) ?_)
 rintro a7 w j
 refine DP.d2 (⟨⟨zt,j.iv 5⟩,j.iv 2⟩) (DP.e0 zr (aP a7 (DP.d0 ?_)))
 have j:=j.pl 10 [0,1,3,4,6,7,8,9]
 refine DP.z (aH (RC.ret ?_))
 obtain rfl:=oi o
 exact bY (j.pk 8 [0])
theorem tS {p0 p1:aI} {res:Bool} (j:Holds E w V) (h0:V[i0]? =some (rd v0 p0)) (h1:V[i1]? =some (rd v1 p1)) (o:i7 N p0 p1=some res):
    Calls bN 69 [v0,v1].toArray w (gJ (aU E V res)):=by
 unfold i7 at o
 refine enter Tryz.func69 zr zr ?_
 have j:=(j.dup (i0+0) h0).dup (i1+1) h1
 refine RC.sr (RL.dD 1 v0 j zr fun aa w j=>?_)
 refine RL.dD 1 v1 j zr fun ab w j=>?_
 refine aP (vb false) (RL.ns (RL.aX zr jo (RL.aM 1 j zr eJ cL (RL.aX zr jo (RL.aM 0 j zr eJ cL (RL.min p0.X1 p1.X1 (RL.aX zr iw (RL.aM 1 j zr dQ cL ?_))))))))
 refine RL.aX zr iw (RL.aM 0 j zr dQ cL (RL.max p0.X0 p1.X0 (RL.gk (if p1.X1<p0.X1 then p1.X1 else p0.X1) (if p0.X0<p1.X0 then p1.X0 else p0.X0) (aP (vi (IntKind.wrap .i64 ((if p1.X1<p0.X1 then p1.X1 else p0.X1) - (if p0.X0<p1.X0 then p1.X0 else p0.X0)))) (RL.ns (RL.aX zr kA (RL.aM 1 j zr fJ cL (RL.aX zr kA ?_))))))))
 refine RL.aM 0 j zr fJ cL (RL.min p0.Y1 p1.Y1 (RL.aX zr g8 (RL.aM 1 j zr dH cL (RL.aX zr g8 (RL.aM 0 j zr dH cL (RL.max p0.Y0 p1.Y0 (RL.gk (if p1.Y1<p0.Y1 then p1.Y1 else p0.Y1) (if p0.Y0<p1.Y0 then p1.Y0 else p0.Y0) (aP (vi (IntKind.wrap .i64 ((if p1.Y1<p0.Y1 then p1.Y1 else p0.Y1) - (if p0.Y0<p1.Y0 then p1.Y0 else p0.Y0)))) ?_))))))))
 refine RL.ns (mv (vi (IntKind.wrap .i64 ((if p1.X1<p0.X1 then p1.X1 else p0.X1) - (if p0.X0<p1.X0 then p1.X0 else p0.X0)))) (ic ((IntKind.wrap .i64 ((if p1.X1<p0.X1 then p1.X1 else p0.X1) - (if p0.X0<p1.X0 then p1.X0 else p0.X0)))) 0 (mv (vb (decide ((IntKind.wrap .i64 ((if p1.X1<p0.X1 then p1.X1 else p0.X1) - (if p0.X0<p1.X0 then p1.X0 else p0.X0)))>0))) (RL.gs true (decide ((IntKind.wrap .i64 ((if p1.X1<p0.X1 then p1.X1 else p0.X1) - (if p0.X0<p1.X0 then p1.X0 else p0.X0)))>0)) (vi (IntKind.wrap .i64 ((if p1.Y1<p0.Y1 then p1.Y1 else p0.Y1) - (if p0.Y0<p1.Y0 then p1.Y0 else p0.Y0)))) rfl rfl rfl cH (RL.gs true (decide ((IntKind.wrap .i64 ((if p1.X1<p0.X1 then p1.X1 else p0.X1) - (if p0.X0<p1.X0 then p1.X0 else p0.X0)))>0)) (vb (decide ((IntKind.wrap .i64 ((if p1.Y1<p0.Y1 then p1.Y1 else p0.Y1) - (if p0.Y0<p1.Y0 then p1.Y0 else p0.Y0)))>=0))) rfl rfl rfl (dK .geq .i64 (IntKind.wrap .i64 ((if p1.Y1<p0.Y1 then p1.Y1 else p0.Y1) - (if p0.Y0<p1.Y0 then p1.Y0 else p0.Y0))) 0 rfl (fun h=>by exact(cM h:cv (true&&((decide ((IntKind.wrap .i64 ((if p1.X1<p0.X1 then p1.X1 else p0.X1) - (if p0.X0<p1.X0 then p1.X0 else p0.X0)))>0))==true)) (vi (IntKind.wrap .i64 ((if p1.Y1<p0.Y1 then p1.Y1 else p0.Y1) - (if p0.Y0<p1.Y0 then p1.Y0 else p0.Y0))))= (vi (IntKind.wrap .i64 ((if p1.Y1<p0.Y1 then p1.Y1 else p0.Y1) - (if p0.Y0<p1.Y0 then p1.Y0 else p0.Y0)))))) (fun _=>rfl) rfl) (RL.pick (decide ((IntKind.wrap .i64 ((if p1.X1<p0.X1 then p1.X1 else p0.X1) - (if p0.X0<p1.X0 then p1.X0 else p0.X0)))>0)) (vb ((decide ((IntKind.wrap .i64 ((if p1.X1<p0.X1 then p1.X1 else p0.X1) - (if p0.X0<p1.X0 then p1.X0 else p0.X0)))>0))&&(decide ((IntKind.wrap .i64 ((if p1.Y1<p0.Y1 then p1.Y1 else p0.Y1) - (if p0.Y0<p1.Y0 then p1.Y0 else p0.Y0)))>=0)))) (gr true rfl) (mv (vb ((decide ((IntKind.wrap .i64 ((if p1.X1<p0.X1 then p1.X1 else p0.X1) - (if p0.X0<p1.X0 then p1.X0 else p0.X0)))>0))&&(decide ((IntKind.wrap .i64 ((if p1.Y1<p0.Y1 then p1.Y1 else p0.Y1) - (if p0.Y0<p1.Y0 then p1.Y0 else p0.Y0)))>=0)))) (RL.gs true ((decide ((IntKind.wrap .i64 ((if p1.X1<p0.X1 then p1.X1 else p0.X1) - (if p0.X0<p1.X0 then p1.X0 else p0.X0)))>0))&&(decide ((IntKind.wrap .i64 ((if p1.Y1<p0.Y1 then p1.Y1 else p0.Y1) - (if p0.Y0<p1.Y0 then p1.Y0 else p0.Y0)))>=0))) (vi (IntKind.wrap .i64 ((if p1.X1<p0.X1 then p1.X1 else p0.X1) - (if p0.X0<p1.X0 then p1.X0 else p0.X0)))) rfl rfl rfl cH ?_))))))))
 refine RL.gs true ((decide ((IntKind.wrap .i64 ((if p1.X1<p0.X1 then p1.X1 else p0.X1) - (if p0.X0<p1.X0 then p1.X0 else p0.X0)))>0))&&(decide ((IntKind.wrap .i64 ((if p1.Y1<p0.Y1 then p1.Y1 else p0.Y1) - (if p0.Y0<p1.Y0 then p1.Y0 else p0.Y0)))>=0))) (vb (decide ((IntKind.wrap .i64 ((if p1.X1<p0.X1 then p1.X1 else p0.X1) - (if p0.X0<p1.X0 then p1.X0 else p0.X0)))>=0))) rfl rfl rfl (dK .geq .i64 (IntKind.wrap .i64 ((if p1.X1<p0.X1 then p1.X1 else p0.X1) - (if p0.X0<p1.X0 then p1.X0 else p0.X0))) 0 rfl (fun h=>by exact(cM h:cv (true&&(((decide ((IntKind.wrap .i64 ((if p1.X1<p0.X1 then p1.X1 else p0.X1) - (if p0.X0<p1.X0 then p1.X0 else p0.X0)))>0))&&(decide ((IntKind.wrap .i64 ((if p1.Y1<p0.Y1 then p1.Y1 else p0.Y1) - (if p0.Y0<p1.Y0 then p1.Y0 else p0.Y0)))>=0)))==false)) (vi (IntKind.wrap .i64 ((if p1.X1<p0.X1 then p1.X1 else p0.X1) - (if p0.X0<p1.X0 then p1.X0 else p0.X0))))= (vi (IntKind.wrap .i64 ((if p1.X1<p0.X1 then p1.X1 else p0.X1) - (if p0.X0<p1.X0 then p1.X0 else p0.X0)))))) (fun _=>rfl) rfl) (RL.gs true ((decide ((IntKind.wrap .i64 ((if p1.X1<p0.X1 then p1.X1 else p0.X1) - (if p0.X0<p1.X0 then p1.X0 else p0.X0)))>0))&&(decide ((IntKind.wrap .i64 ((if p1.Y1<p0.Y1 then p1.Y1 else p0.Y1) - (if p0.Y0<p1.Y0 then p1.Y0 else p0.Y0)))>=0))) (vb (decide ((IntKind.wrap .i64 ((if p1.X1<p0.X1 then p1.X1 else p0.X1) - (if p0.X0<p1.X0 then p1.X0 else p0.X0)))>=0))) rfl rfl rfl (cH (hx:=fun h=>by exact(cM h:cv (true&&(((decide ((IntKind.wrap .i64 ((if p1.X1<p0.X1 then p1.X1 else p0.X1) - (if p0.X0<p1.X0 then p1.X0 else p0.X0)))>0))&&(decide ((IntKind.wrap .i64 ((if p1.Y1<p0.Y1 then p1.Y1 else p0.Y1) - (if p0.Y0<p1.Y0 then p1.Y0 else p0.Y0)))>=0)))==false)) (vb (decide ((IntKind.wrap .i64 ((if p1.X1<p0.X1 then p1.X1 else p0.X1) - (if p0.X0<p1.X0 then p1.X0 else p0.X0)))>=0)))= (vb (decide ((IntKind.wrap .i64 ((if p1.X1<p0.X1 then p1.X1 else p0.X1) - (if p0.X0<p1.X0 then p1.X0 else p0.X0)))>=0)))))) (RL.gs (true&&(((decide ((IntKind.wrap .i64 ((if p1.X1<p0.X1 then p1.X1 else p0.X1) - (if p0.X0<p1.X0 then p1.X0 else p0.X0)))>0))&&(decide ((IntKind.wrap .i64 ((if p1.Y1<p0.Y1 then p1.Y1 else p0.Y1) - (if p0.Y0<p1.Y0 then p1.Y0 else p0.Y0)))>=0)))==false)) (decide ((IntKind.wrap .i64 ((if p1.X1<p0.X1 then p1.X1 else p0.X1) - (if p0.X0<p1.X0 then p1.X0 else p0.X0)))>=0)) (vi (IntKind.wrap .i64 ((if p1.Y1<p0.Y1 then p1.Y1 else p0.Y1) - (if p0.Y0<p1.Y0 then p1.Y0 else p0.Y0)))) rfl rfl rfl cH (RL.gs (true&&(((decide ((IntKind.wrap .i64 ((if p1.X1<p0.X1 then p1.X1 else p0.X1) - (if p0.X0<p1.X0 then p1.X0 else p0.X0)))>0))&&(decide ((IntKind.wrap .i64 ((if p1.Y1<p0.Y1 then p1.Y1 else p0.Y1) - (if p0.Y0<p1.Y0 then p1.Y0 else p0.Y0)))>=0)))==false)) (decide ((IntKind.wrap .i64 ((if p1.X1<p0.X1 then p1.X1 else p0.X1) - (if p0.X0<p1.X0 then p1.X0 else p0.X0)))>=0)) (vb (decide ((IntKind.wrap .i64 ((if p1.Y1<p0.Y1 then p1.Y1 else p0.Y1) - (if p0.Y0<p1.Y0 then p1.Y0 else p0.Y0)))>0))) rfl rfl rfl (dK .gtr .i64 (IntKind.wrap .i64 ((if p1.Y1<p0.Y1 then p1.Y1 else p0.Y1) - (if p0.Y0<p1.Y0 then p1.Y0 else p0.Y0))) 0 rfl (fun h=>by exact(cM h:cv ((true&&(((decide ((IntKind.wrap .i64 ((if p1.X1<p0.X1 then p1.X1 else p0.X1) - (if p0.X0<p1.X0 then p1.X0 else p0.X0)))>0))&&(decide ((IntKind.wrap .i64 ((if p1.Y1<p0.Y1 then p1.Y1 else p0.Y1) - (if p0.Y0<p1.Y0 then p1.Y0 else p0.Y0)))>=0)))==false))&&((decide ((IntKind.wrap .i64 ((if p1.X1<p0.X1 then p1.X1 else p0.X1) - (if p0.X0<p1.X0 then p1.X0 else p0.X0)))>=0))==true)) (vi (IntKind.wrap .i64 ((if p1.Y1<p0.Y1 then p1.Y1 else p0.Y1) - (if p0.Y0<p1.Y0 then p1.Y0 else p0.Y0))))= (vi (IntKind.wrap .i64 ((if p1.Y1<p0.Y1 then p1.Y1 else p0.Y1) - (if p0.Y0<p1.Y0 then p1.Y0 else p0.Y0)))))) (fun _=>rfl) rfl) (RL.gs true ((decide ((IntKind.wrap .i64 ((if p1.X1<p0.X1 then p1.X1 else p0.X1) - (if p0.X0<p1.X0 then p1.X0 else p0.X0)))>0))&&(decide ((IntKind.wrap .i64 ((if p1.Y1<p0.Y1 then p1.Y1 else p0.Y1) - (if p0.Y0<p1.Y0 then p1.Y0 else p0.Y0)))>=0))) (vb ((decide ((IntKind.wrap .i64 ((if p1.X1<p0.X1 then p1.X1 else p0.X1) - (if p0.X0<p1.X0 then p1.X0 else p0.X0)))>=0))&&(decide ((IntKind.wrap .i64 ((if p1.Y1<p0.Y1 then p1.Y1 else p0.Y1) - (if p0.Y0<p1.Y0 then p1.Y0 else p0.Y0)))>0)))) rfl rfl rfl (kI (decide ((IntKind.wrap .i64 ((if p1.X1<p0.X1 then p1.X1 else p0.X1) - (if p0.X0<p1.X0 then p1.X0 else p0.X0)))>=0)) rfl (fun h=>by exact(cM h:cv (true&&(((decide ((IntKind.wrap .i64 ((if p1.X1<p0.X1 then p1.X1 else p0.X1) - (if p0.X0<p1.X0 then p1.X0 else p0.X0)))>0))&&(decide ((IntKind.wrap .i64 ((if p1.Y1<p0.Y1 then p1.Y1 else p0.Y1) - (if p0.Y0<p1.Y0 then p1.Y0 else p0.Y0)))>=0)))==false)) (vb (decide ((IntKind.wrap .i64 ((if p1.X1<p0.X1 then p1.X1 else p0.X1) - (if p0.X0<p1.X0 then p1.X0 else p0.X0)))>=0)))= (vb (decide ((IntKind.wrap .i64 ((if p1.X1<p0.X1 then p1.X1 else p0.X1) - (if p0.X0<p1.X0 then p1.X0 else p0.X0)))>=0))))) (fun h=>by exact gr (true&&(((decide ((IntKind.wrap .i64 ((if p1.X1<p0.X1 then p1.X1 else p0.X1) - (if p0.X0<p1.X0 then p1.X0 else p0.X0)))>0))&&(decide ((IntKind.wrap .i64 ((if p1.Y1<p0.Y1 then p1.Y1 else p0.Y1) - (if p0.Y0<p1.Y0 then p1.Y0 else p0.Y0)))>=0)))==false)) h)) (RL.pick ((decide ((IntKind.wrap .i64 ((if p1.X1<p0.X1 then p1.X1 else p0.X1) - (if p0.X0<p1.X0 then p1.X0 else p0.X0)))>0))&&(decide ((IntKind.wrap .i64 ((if p1.Y1<p0.Y1 then p1.Y1 else p0.Y1) - (if p0.Y0<p1.Y0 then p1.Y0 else p0.Y0)))>=0))) (vb (((decide ((IntKind.wrap .i64 ((if p1.X1<p0.X1 then p1.X1 else p0.X1) - (if p0.X0<p1.X0 then p1.X0 else p0.X0)))>0))&&(decide ((IntKind.wrap .i64 ((if p1.Y1<p0.Y1 then p1.Y1 else p0.Y1) - (if p0.Y0<p1.Y0 then p1.Y0 else p0.Y0)))>=0)))||((decide ((IntKind.wrap .i64 ((if p1.X1<p0.X1 then p1.X1 else p0.X1) - (if p0.X0<p1.X0 then p1.X0 else p0.X0)))>=0))&&(decide ((IntKind.wrap .i64 ((if p1.Y1<p0.Y1 then p1.Y1 else p0.Y1) - (if p0.Y0<p1.Y0 then p1.Y0 else p0.Y0)))>0))))) (oh true) (aP (vb (((decide ((IntKind.wrap .i64 ((if p1.X1<p0.X1 then p1.X1 else p0.X1) - (if p0.X0<p1.X0 then p1.X0 else p0.X0)))>0))&&(decide ((IntKind.wrap .i64 ((if p1.Y1<p0.Y1 then p1.Y1 else p0.Y1) - (if p0.Y0<p1.Y0 then p1.Y0 else p0.Y0)))>=0)))||((decide ((IntKind.wrap .i64 ((if p1.X1<p0.X1 then p1.X1 else p0.X1) - (if p0.X0<p1.X0 then p1.X0 else p0.X0)))>=0))&&(decide ((IntKind.wrap .i64 ((if p1.Y1<p0.Y1 then p1.Y1 else p0.Y1) - (if p0.Y0<p1.Y0 then p1.Y0 else p0.Y0)))>0))))) (RL.nt (RC.ret ?_))))))))
 obtain rfl:=oi o
 exact bY ⟨rfl,j.drop 4⟩
theorem sT {p0: (List (List aI))} {p1: (List aI)} {res: (List (List aI))} (j:Holds E w V) (h0:V[i0]? =some (rd v0 p0)) (h1:V[i1]? =some (rd v1 p1)) (hb:jH N p0 p1=some res):
    Calls bN 70 [v0,v1].toArray w (gJ (oT E V res)):=by
 unfold jH at hb
 refine enter Tryz.func70 zr zr ?_
 have j:=(j.dup (i0+0) h0).dup (i1+1) h1
 refine RC.sr (aP (.slice none 0 0) (RL.ns (mv v0 (RL.bB 1 p0 j qP (aP (vi p0.length) (RL.nq ?_))))))
 obtain⟨a3,hN,hb⟩:=bd hb
 refine RC.iter (fun(ab:Int)=>SH E V [(0,v0),(1,v1),(5,vi ab)] [rd v0 p0,rd v1 p1]) (fun(ab:Int)=>SH E V [(0,v0),(1,v1),(5,vi ab)] [rd v0 p0,rd v1 p1]) (fun(r:Empty) _ _=>r.elim) hN ?_ ?_ ?_ ?_
 ·exact j.sp 2 [1,0]
 ·rintro ab fl _ w ⟨O,rfl,j⟩ hb
  refine RC.seq (RC.seq ?_)
  obtain⟨ae,hj,hb⟩:=bd hb
  refine RC.jn (fun(ae:Bool)=>SH E V [(0,v0),(1,v1),(5,vi ab),(23,vb ae)] [rd v0 p0,rd v1 p1]) ae ?_ ?_
  ·refine RC.vV mixed [0,0,0,0,0,0,0,0,0,0,0,0,0,2,0] [0,1,2,3,4,5,6,7,8,9,10,11,12,13,14] ?_
   have j:=j.drew
   refine DP.e0 zr (mv (vi ab) (aW zr (ic ab 0 (aW zr (mv (vb (decide (ab>0))) (DP.d0 (fA hj (fun o hj=>?_) fun o hj=>?_)))))))
   rotate_left
   ·refine DP.e0 zr (bC o (aW zr (bC o (aW zr (bC o (aW zr (bC o (aW zr ?_))))))))
    refine bC o (aW zr (bC o (aW zr (bC o (aW zr (bC o (aW zr (bC o ?_))))))))
    refine aW zr (bC o (oZ zr (bC o (rB zr (fB o (vb false) (DP.d0 (DP.z ?_)))))))
    obtain rfl:=oi hj
    exact⟨rfl,j.sp 2 [0,1]⟩
   refine DP.e0 zr (RL.move v1 (cg o) (aW zr ?_))
   obtain⟨ai,aj,hj⟩:=bd hj
   refine RL.bO (hg:=(cg o)) 1 j jm aj fun a5 j=>(aW zr (RL.bJ (hg:=(cg o)) 0 ai j iK fun ak j=>(aW zr (RL.move v0 (cg o) (aW zr (RL.move (vi ab) (cg o) (aW zr (RL.gk (hg:=(cg o)) ab 1 ?_))))))))
   refine aW zr ?_
   obtain⟨al,an,hj⟩:=bd hj
   refine RL.bO (hg:=(cg o)) 2 j uV an fun a6 j=>(aW zr (RL.bJ (hg:=(cg o)) 0 al j uy fun a7 j=>(aW zr ?_)))
   obtain⟨ao,aq,hj⟩:=bd hj
   refine RL.bO (hg:=(cg o)) 0 j jm aq fun a8 j=>(aW zr (RL.bJ (hg:=(cg o)) 0 ao j iK fun ar j=>(oZ zr ?_)))
   obtain⟨au,av,hj⟩:=bd hj
   refine RL.call (cg o) zr LD [ak,ar] zr (aD (oy N (i0:=4) (i1:=0) j zr zr av) ?_)
   rintro _ w ⟨rfl,j⟩
   refine rB zr (fB o (vb au) (DP.d0 (DP.z ?_)))
   obtain rfl:=oi hj
   exact⟨rfl,j.sp 8 [6,7]⟩
  rintro _ w ⟨O,rfl,j⟩
  refine aH (dT hb (fun hc hb=>?_) fun hc hb=>?_)
  rotate_left
  ·refine RC.ex ?_
   obtain rfl:=oi hb
   exact⟨rfl,j.sp 2 [0,1]⟩
  refine RC.sn (RC.block (RC.region (mv (vi ab) (RL.gk ab 1 (aP (vi (IntKind.wrap .i64 (ab - 1))) (RL.nil (bP ?_)))))))
  obtain rfl:=oi hb
  exact⟨rfl,j.sp 2 [0,1]⟩
 ·intro r _ _ _ _
  exact r.elim
 rintro ab _ w rfl ⟨O,rfl,j⟩
 rw [Fo.cZ] at hb
 refine aH (RC.sr (aP (.slice none 0 0) (RL.ns (mv (.slice none 0 0) (mv v0 (mv (vi ab) ?_))))))
 obtain⟨a9,ax,hb⟩:=bd hb
 refine RL.cut (hl:= .inr ⟨rfl,zr⟩) 0 j uV (.inl zr) ax fun ba j=>?_
 have j:=j.cP (List aI) 23
 obtain⟨bb,ay,hb⟩:=bd hb
 refine RL.app 0 1 j HJ ay fun af w j=>?_
 refine aP af (RL.ns (mv af (mv v1 (RL.dN ([p1]: (List (List aI))) j [v1] uV Kl (fun M hs g=>⟨(g.sat 3 _ zr).1,zt⟩) fun bc w j=>?_))))
 have j:=j.freeze 0
 obtain⟨bf,az,hb⟩:=bd hb
 refine RL.app 1 0 j HJ az fun ag w j=>?_
 refine aP ag (RL.ns (mv ag (mv v0 (mv (vi ab) ?_))))
 obtain⟨bg,a0,hb⟩:=bd hb
 refine RL.cut 3 j uV (.inr ⟨rfl,zr⟩) a0 fun bh j=>?_
 obtain⟨bj,a1,hb⟩:=bd hb
 refine RL.app 2 0 j HJ a1 fun a2 w j=>?_
 refine aP a2 (RL.nt (RC.ret ?_))
 obtain rfl:=oi hb
 exact bY (j.pk 6 [2])
theorem nz {p0: (List aI)} {res: (List (List aI))} (j:Holds E w V) (h0:V[i0]? =some (rd v0 p0)) (o:fO N p0=some res):
    Calls bN 34 [v0].toArray w (gJ (oT E V res)):=by
 unfold fO at o
 refine enter Tryz.func34 zr zr ?_
 have j:=j.dup (i0+0) h0
 refine RC.sr (aP (.slice none 0 0) (RL.ns (mv v0 (RL.bB 0 p0 j nC ?_))))
 obtain⟨bu,bb,o⟩:=bd o
 refine RL.mk (p0.length:Int) j HQ Ni bb fun af w j=>?_
 refine aP af (RL.ns (aP (.slice none 0 0) (RL.nq (RC.sr (aP (vi 0) (RL.nt ?_))))))
 obtain⟨bw,hN,o⟩:=bd o
 refine RC.iter (fun(aa: (List Bool)×(List (List aI))×Int) U w=>∃a1:Value,SH E V [(0,v0),(3,af),(4,a1),(5,vi aa.2.2)] [rd v0 p0,own 4 af aa.1,own 23 a1 aa.2.1] U w) (fun(aa: (List Bool)×(List (List aI))×Int) U w=>∃al:Value,SH E V [(4,al)] [rd v0 p0,own 4 af aa.1,own 23 al aa.2.1] U w) (fun(r:Empty) _ _=>r.elim) hN ?_ ?_ ?_ ?_
 ·have j:=j.cP (List aI) 23
  exact⟨(.slice none 0 0),j.sp 3 [2,1,0]⟩
 ·rintro aa fl _ w ⟨ah,O,rfl,j⟩ o
  refine RC.seq (RC.sr (mv (vi aa.2.2) (mv v0 (RL.bB 0 p0 j nC (ic aa.2.2 ((p0.length:Int)) (RL.nt (dT o (fun hc o=>?_) fun hc o=>?_)))))))
  rotate_left
  ·refine RC.ex ?_
   obtain rfl:=oi o
   exact⟨rfl,ah,j.sp 3 [0,1,2]⟩
  refine RC.ss (RC.block (RC.seq (RC.sr (mv af (mv (vi aa.2.2) ?_)))))
  obtain⟨bx,au,o⟩:=bd o
  refine RL.bT 1 j zr zr wq au (RL.dR (f:=(fun x=>x)) 1 j (jz 1 j au 0) (bH au).2.1 Fd.self Ax (RL.nt (dT o (fun hc o=>?_) fun hc o=>?_)))
  ·refine RC.ex (He (aH (RC.region (mv (vi aa.2.2) (RL.gk aa.2.2 1 (aP (vi (IntKind.wrap .i64 (aa.2.2+1))) (RL.nil ?_)))))))
   obtain rfl:=oi o
   exact⟨rfl,ah,j.sp 3 [0,1,2]⟩
  refine RC.sx (mv af (mv (vi aa.2.2) ?_))
  obtain⟨bz,av,o⟩:=bd o
  refine RL.bT 1 j zr zr wq av ?_
  have j:=j.sc Bool true
  refine RL.gK (f:=(fun _ y=>y)) 2 0 j (jz 2 j av 0) (bH av).2.1 zr Fs.self Ax fun w j=>?_
  refine RL.ns (mv v0 (mv (vi aa.2.2) ?_))
  obtain⟨a3,bc,o⟩:=bd o
  refine RL.bO 1 j jm bc fun b0 j=>(RL.bJ 0 a3 j iK fun bf j=>(RL.dN ([a3]: (List aI)) j [bf] jm oR (fun M hs g=>⟨(g.sat 0 _ zr).1,zt⟩) fun a4 w j=>(aP a4 (RL.nq (RC.sr (aP (vi 0) (RL.nt ?_)))))))
  obtain⟨b1,hN,o⟩:=bd o
  refine RC.iter (fun(ag: (List Bool)×(List aI)×Int) U w=>∃a5:Value,SH E V [(0,v0),(3,af),(4,ah),(5,vi aa.2.2),(6,a5),(7,vi ag.2.2)] [rd v0 p0,own 4 af ag.1,own 23 ah aa.2.1,own 69 a5 ag.2.1] U w) (fun(ag: (List Bool)×(List aI)×Int) U w=>∃an:Value,SH E V [(0,v0),(3,af),(4,ah),(5,vi aa.2.2),(6,an)] [rd v0 p0,own 4 af ag.1,own 23 ah aa.2.1,own 69 an ag.2.1] U w) (fun(r:Empty) _ _=>r.elim) hN ?_ ?_ ?_ ?_
  ·exact⟨a4,j.sp 7 [4,5,6,0]⟩
  ·rintro ag fl _ w ⟨aw,O,rfl,j⟩ o
   refine RC.seq (RC.sr (mv (vi ag.2.2) (mv aw (RL.fL 3 ag.2.1 j nC (ic ag.2.2 ((ag.2.1.length:Int)) (RL.nt (dT o (fun hc o=>?_) fun hc o=>?_)))))))
   rotate_left
   ·refine RC.ex ?_
    obtain rfl:=oi o
    exact⟨rfl,aw,j.sp 4 [0,1,2,3]⟩
   refine RC.ss (RC.bs (aP (vi 0) (RL.nt ?_)))
   obtain⟨b2,hN,o⟩:=bd o
   refine RC.iter (fun(ad: (List Bool)×(List aI)×Int) U w=>∃a6:Value,SH E V [(0,v0),(3,af),(4,ah),(5,vi aa.2.2),(6,a6),(7,vi ag.2.2),(8,vi ad.2.2)] [rd v0 p0,own 4 af ad.1,own 23 ah aa.2.1,own 69 a6 ad.2.1] U w) (fun(ad: (List Bool)×(List aI)×Int) U w=>∃ao:Value,SH E V [(0,v0),(3,af),(4,ah),(5,vi aa.2.2),(6,ao),(7,vi ag.2.2)] [rd v0 p0,own 4 af ad.1,own 23 ah aa.2.1,own 69 ao ad.2.1] U w) (fun(r:Empty) _ _=>r.elim) hN ?_ ?_ ?_ ?_
   ·exact⟨aw,j.sp 4 [0,1,2,3]⟩
   ·rintro ad fl _ w ⟨aj,O,rfl,j⟩ o
    refine RC.seq (RC.sr (mv (vi ad.2.2) (mv v0 (RL.bB 0 p0 j nC (ic ad.2.2 ((p0.length:Int)) (RL.nt (dT o (fun hc o=>?_) fun hc o=>?_)))))))
    rotate_left
    ·refine RC.ex ?_
     obtain rfl:=oi o
     exact⟨rfl,aj,j.sp 4 [0,1,2,3]⟩
    refine RC.ss (RC.block (RC.seq ?_))
    obtain⟨ax,hj,o⟩:=bd o
    refine RC.jn (fun(ax:Bool)=>SH E V [(0,v0),(3,af),(4,ah),(5,vi aa.2.2),(6,aj),(7,vi ag.2.2),(8,vi ad.2.2),(57,vb ax)] [rd v0 p0,own 4 af ad.1,own 23 ah aa.2.1,own 69 aj ad.2.1]) ax ?_ ?_
    ·refine RC.vV mixed [0,0,0,0,0,0,0,0,0,0,0,0,0,0,2,0] [0,1,2,3,4,5,6,7,8,9,10,11,12,13,14,15] ?_
     have j:=j.drew
     refine DP.e0 zr (mv af (aW zr (mv (vi ad.2.2) (aW zr ?_))))
     obtain⟨a7,ay,hj⟩:=bd hj
     refine RL.bT 1 j zr zr wq ay (aW zr (RL.dR (f:=(fun x=>x)) 1 j (jz 1 j ay 0) (bH ay).2.1 Fd.self Ax (aW zr (RL.not a7 (aW zr (mv (vb (!a7)) (DP.d0 (fA hj (fun ae hj=>?_) fun ae hj=>?_))))))))
     rotate_left
     ·refine DP.e0 zr (bC ae (aW zr (bC ae (aW zr (bC ae (aW zr (bC ae (aW zr ?_))))))))
      refine bC ae (aW zr (bC ae (aW zr (bC ae (aW zr (bC ae (oZ zr (bC ae ?_))))))))
      refine rB zr (fB ae (vb false) (DP.d0 (DP.z ?_)))
      obtain rfl:=oi hj
      exact⟨rfl,j.sp 4 [0,1,2,3]⟩
     refine DP.e0 zr (RL.move aj (cg ae) (aW zr (RL.move (vi ag.2.2) (cg ae) (aW zr ?_))))
     obtain⟨b3,az,hj⟩:=bd hj
     refine RL.bT (hg:=(cg ae)) 3 j zr zr jm az (aW zr (RL.jM (hg:=(cg ae)) (f:=(fun x=>x)) 3 j (jz 3 j az 0) (bH az).2.1 Fd.self iK fun bg j=>?_))
     refine aW zr (RL.move v0 (cg ae) (aW zr (RL.move (vi ad.2.2) (cg ae) (aW zr ?_))))
     obtain⟨bh,bj,hj⟩:=bd hj
     refine RL.bO (hg:=(cg ae)) 1 j jm bj fun b4 j=>(aW zr (RL.bJ (hg:=(cg ae)) 0 bh j iK fun bk j=>(oZ zr ?_)))
     obtain⟨bl,bm,hj⟩:=bd hj
     refine RL.call (cg ae) zr Nj [bg,bk] zr (aD (tS N (i0:=2) (i1:=0) j zr zr bm) ?_)
     rintro _ w ⟨rfl,j⟩
     refine rB zr (fB ae (vb bl) (DP.d0 (DP.z ?_)))
     obtain rfl:=oi hj
     exact⟨rfl,j.sp 7 [3,4,5,6]⟩
    rintro _ w ⟨O,rfl,j⟩
    refine aH ?_
    obtain⟨aq,hj,o⟩:=bd o
    refine RC.jn (fun(aq: (List Bool)×(List aI)) U w=>∃ar:Value,SH E V [(0,v0),(3,af),(4,ah),(5,vi aa.2.2),(6,ar),(7,vi ag.2.2),(8,vi ad.2.2)] [rd v0 p0,own 4 af aq.1,own 23 ah aa.2.1,own 69 ar aq.2] U w) aq ?_ ?_
    ·refine dT hj (fun hc hj=>?_) fun hc hj=>?_
     rotate_left
     ·refine RC.skip ?_
      obtain rfl:=oi hj
      exact⟨rfl,aj,j.sp 4 [0,1,2,3]⟩
     refine RC.sr (mv af (mv (vi ad.2.2) ?_))
     obtain⟨b5,a0,hj⟩:=bd hj
     refine RL.bT 1 j zr zr wq a0 ?_
     have j:=j.sc Bool true
     refine RL.gK (f:=(fun _ y=>y)) 2 0 j (jz 2 j a0 0) (bH a0).2.1 zr Fs.self Ax fun w j=>?_
     refine RL.nt (RC.region (mv aj (mv v0 (mv (vi ad.2.2) ?_))))
     obtain⟨a8,bn,hj⟩:=bd hj
     refine RL.bO 1 j jm bn fun b6 j=>(RL.bJ 0 a8 j iK fun bo j=>(RL.dN ([a8]: (List aI)) j [bo] jm oR (fun M hs g=>⟨(g.sat 0 _ zr).1,zt⟩) fun b7 w j=>?_))
     have j:=j.freeze 0
     obtain⟨b8,bp,hj⟩:=bd hj
     refine RL.app 7 0 j Av bp fun a9 w j=>?_
     refine aP a9 (RL.nil ?_)
     obtain rfl:=oi hj
     exact⟨rfl,a9,j.sp 8 [4,5,6,7]⟩
    rintro _ w ⟨ar,O,rfl,j⟩
    refine bP (aH (RC.region (mv (vi ad.2.2) (RL.gk ad.2.2 1 (aP (vi (IntKind.wrap .i64 (ad.2.2+1))) (RL.nil ?_))))))
    obtain rfl:=oi o
    exact⟨rfl,ar,j.sp 4 [0,1,2,3]⟩
   ·intro r _ _ _ _
    exact r.elim
   rintro ad _ w rfl ⟨ao,O,rfl,j⟩
   rw [Fo.cZ] at o
   refine bP (aH (RC.region (mv (vi ag.2.2) (RL.gk ag.2.2 1 (aP (vi (IntKind.wrap .i64 (ag.2.2+1))) (RL.nil ?_))))))
   obtain rfl:=oi o
   exact⟨rfl,ao,j.sp 4 [0,1,2,3]⟩
  ·intro r _ _ _ _
   exact r.elim
  rintro ag _ w rfl ⟨an,O,rfl,j⟩
  rw [Fo.cZ] at o
  refine aH (RC.region (mv ah (mv an ?_)))
  have j:=j.freeze 3
  obtain⟨b9,bq,o⟩:=bd o
  refine RL.call zt zr Kt [an] zr (aD (kn N (i0:=3) j zr bq) ?_)
  rintro br w j
  have j:=(j.freeze 3).freeze 0
  obtain⟨ca,bt,o⟩:=bd o
  refine RL.call zt zr Nk [ah,br] zr (aD (sT N (i0:=3) (i1:=0) j zr zr bt) ?_)
  rintro ba w j
  refine aP ba (RL.nil (bP (aH (RC.region (mv (vi aa.2.2) (RL.gk aa.2.2 1 (aP (vi (IntKind.wrap .i64 (aa.2.2+1))) (RL.nil ?_))))))))
  obtain rfl:=oi o
  exact⟨rfl,ba,j.sp 6 [2,3,0]⟩
 ·intro r _ _ _ _
  exact r.elim
 rintro aa _ w rfl ⟨al,O,rfl,j⟩
 rw [Fo.cZ] at o
 refine aH (RC.sr (mv al (aP al (RL.nt (RC.ret ?_)))))
 obtain rfl:=oi o
 exact bY (j.pk 3 [2])
end Go.Gk
