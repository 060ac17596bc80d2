/-
  Printed texts: Go functions as plain functions, and that they are. No statement of the seed is proved here.
-/
import Derived.Test.YtmmiladckdcjeaaGreatDoorG1
import Derived.Test.YtmmiladckdcjeaaGreatDoorG5
import Derived.Test.YtmmiladckdcjeaaGreatDoorA2
set_option linter.unusedVariables false
set_option linter.unusedSimpArgs false
set_option linter.unusedSectionVars false
set_option maxRecDepth 100000
set_option maxHeartbeats 4000000
namespace Go.Gk
open Go Go.Proofs
variable (N:Nat) {E w:World} {i0 i1:Nat} {p1 p2 res:Int} {v0 v1:Value} {V:List HP}
theorem qH {p0:k7} (hw:Holds E w V) (h0:V[i0]? =some (rd v0 p0)) (hb:iD N p0 p1=some res):
    Calls bO 59 [v0,(vi p1)].toArray w (gW (aW E V res)):=by
 unfold iD at hb
 refine enter Tryz.func59 zr zr ?_
 have hw:=hw.dup (i0+0) h0
 refine RC.sr (RL.dJ 0 v0 hw zr fun aj w hw=>?_)
 refine aQ (vi 0) (RL.ns (RL.aX zr rB (RL.bE 0 hw zr oy A2 fun a1 hw=>(mv (vi p1) ?_))))
 obtain⟨j,au,hb⟩:=bd hb
 refine RL.bP 0 hw FP au fun a2 hw=>(RL.bL 0 j hw vt fun a3 hw=>(RL.alloc hw GW.z fun ag w hw=>?_))
 refine RL.cA 0 hw 1 zr vt fun w hw=>?_
 refine RL.nq (RC.seq ?_)
 obtain⟨ak,hj,hb⟩:=bd hb
 refine RC.jn (fun(ak:Bool)=>SH E V [(1,vi p1),(2,vp aj 0),(5,vp ag 0),(21,vb ak)] [bx 27 aj p0,bx 79 ag j]) ak ?_ ?_
 ·refine RC.region (RL.aX zr uo (RL.aN 0 hw zr nU AQ ?_))
  obtain⟨an,av,hj⟩:=bd hj
  refine RL.call zt zr MD [(str j.Part)] zr (aD (sd N (p0:=j.Part) hw av) ?_)
  rintro _ w ⟨rfl,hw⟩
  refine RL.not an (mv (vb (!an)) (fC hj (fun ae hj=>?_) fun ae hj=>?_))
  ·refine bG ae (bG ae (bG ae (bG ae (fL ae (vb true) (RL.nil ?_)))))
   obtain rfl:=oi hj
   exact⟨rfl,hw.sp 6 [4,0]⟩
  refine RL.aX (hg:=(cg ae)) zr x9 (RL.aN (hg:=(cg ae)) 0 hw zr qj AQ ?_)
  obtain⟨ao,aw,hj⟩:=bd hj
  refine RL.call (cg ae) zr Lb [(str j.fD)] zr (aD (n8 N (p0:=j.fD) hw aw) ?_)
  rintro _ w ⟨rfl,hw⟩
  refine RL.not (hg:=(cg ae)) ao (fL ae (vb (!ao)) (RL.nil ?_))
  obtain rfl:=oi hj
  exact⟨rfl,hw.sp 6 [4,0]⟩
 rintro _ w ⟨O,rfl,hw⟩
 refine aH (dU hb (fun hc hb=>?_) fun hc hb=>?_)
 ·refine RC.sr (aQ (vi 5) (RL.nt (RC.rt ?_)))
  obtain rfl:=oi hb
  exact bX ⟨rfl,hw.drop 2⟩
 refine RC.ss (RC.seq ?_)
 obtain⟨al,hj,hb⟩:=bd hb
 refine RC.jn (fun(al:Bool)=>SH E V [(1,vi p1),(2,vp aj 0),(5,vp ag 0),(35,vb al)] [bx 27 aj p0,bx 79 ag j]) al ?_ ?_
 ·refine RC.region (RL.aX zr ya (RL.aN 1 hw zr ql cJ (RL.aX zr mx (RL.bE 0 hw zr jc pB fun a4 hw=>(RL.bA 0 p0.aJ hw qw (RL.gl (p0.aJ.length:Int) 1 ?_))))))
  obtain⟨aq,ax,hj⟩:=bd hj
  refine RL.call zt zr G9 [(vi j.cU),(vi 0),(vi (IntKind.wrap .i64 ((p0.aJ.length:Int) - 1)))] zr (aD (iH N (p0:=j.cU) (p1:=0) (p2:=(IntKind.wrap .i64 ((p0.aJ.length:Int) - 1))) hw ax) ?_)
  rintro _ w ⟨rfl,hw⟩
  refine RL.not aq (mv (vb (!aq)) (fC hj (fun af hj=>?_) fun af hj=>?_))
  ·refine bG af (bG af (bG af (bG af (fL af (vb true) (RL.nil ?_)))))
   obtain rfl:=oi hj
   exact⟨rfl,hw.sp 3 [1,2]⟩
  refine RL.aX (hg:=(cg af)) zr yb (RL.bE (hg:=(cg af)) 2 hw zr qm Dk fun ay hw=>?_)
  obtain⟨ar,az,hj⟩:=bd hj
  refine RL.call (cg af) zr K9 [ay] zr (aD (nz N (i0:=0) hw zr az) ?_)
  rintro _ w ⟨rfl,hw⟩
  refine RL.not (hg:=(cg af)) ar (fL af (vb (!ar)) (RL.nil ?_))
  obtain rfl:=oi hj
  exact⟨rfl,hw.sp 4 [2,3]⟩
 rintro _ w ⟨O,rfl,hw⟩
 refine aH (dU hb (fun hc hb=>?_) fun hc hb=>?_)
 ·refine RC.sr (aQ (vi 1) (RL.nt (RC.rt ?_)))
  obtain rfl:=oi hb
  exact bX ⟨rfl,hw.drop 2⟩
 refine RC.ss (RC.sr (mv (vi p1) (ic p1 0 (RL.nt (dU hb (fun hc hb=>?_) fun hc hb=>?_)))))
 rotate_left
 ·refine RC.sx (aQ (vi 0) (RL.nt (RC.ret ?_)))
  obtain rfl:=oi hb
  exact bX ⟨rfl,hw.drop 2⟩
 refine RC.sr (RL.aX zr rB (RL.bE 0 hw zr oy A2 fun a5 hw=>(mv (vi p1) (RL.gl p1 1 ?_))))
 obtain⟨o,a0,hb⟩:=bd hb
 refine RL.bP 0 hw FP a0 fun a6 hw=>(RL.bL 0 o hw vt fun a7 hw=>(RL.alloc hw GW.z fun ai w hw=>?_))
 refine RL.cA 0 hw 1 zr vt fun w hw=>?_
 refine RL.ns (RL.aX rfl uo (RL.aN 5 hw rfl nU AQ (RL.aX rfl uo (RL.aN 0 hw rfl nU AQ (RL.Ee j.Part o.Part trivial rfl rfl rfl rfl (mv (vb (j.Part.sN o.Part)) (RL.gs true (j.Part.sN o.Part) (vp ag 0) rfl rfl rfl (eA uo) (RL.gs true (j.Part.sN o.Part) (str j.Part) rfl rfl rfl (bZ 5 rfl hw (fun h=>by exact(cK h:cv (true&&((j.Part.sN o.Part)==false)) (vp ag 0)= (vp ag 0))) rfl nU AQ) ?_))))))))
 refine RL.gs true (j.Part.sN o.Part) (vp ai 0) rfl rfl rfl (eA uo) (RL.gs true (j.Part.sN o.Part) (str o.Part) rfl rfl rfl (bZ 0 rfl hw (fun h=>by exact(cK h:cv (true&&((j.Part.sN o.Part)==false)) (vp ai 0)= (vp ai 0))) rfl nU AQ) (RL.gs true (j.Part.sN o.Part) (vb (j.Part.sM o.Part)) rfl rfl rfl (BQ .eql j.Part o.Part rfl (fun h=>by exact(cK h:cv (true&&((j.Part.sN o.Part)==false)) (str j.Part)= (str j.Part))) (fun h=>by exact(cK h:cv (true&&((j.Part.sN o.Part)==false)) (str o.Part)= (str o.Part))) rfl) (RL.gs true (j.Part.sN o.Part) (vb (j.Part.sM o.Part)) rfl rfl rfl (cH (hx:=fun h=>by exact(cK h:cv (true&&((j.Part.sN o.Part)==false)) (vb (j.Part.sM o.Part))= (vb (j.Part.sM o.Part))))) (RL.gs (true&&((j.Part.sN o.Part)==false)) (j.Part.sM o.Part) (vp ag 1) rfl rfl rfl (eA x9) (RL.gs (true&&((j.Part.sN o.Part)==false)) (j.Part.sM o.Part) (str j.fD) rfl rfl rfl (bZ 5 rfl hw (fun h=>by exact(cK h:cv ((true&&((j.Part.sN o.Part)==false))&&((j.Part.sM o.Part)==true)) (vp ag 1)= (vp ag 1))) rfl qj AQ) (RL.gs (true&&((j.Part.sN o.Part)==false)) (j.Part.sM o.Part) (vp ai 1) rfl rfl rfl (eA x9) (RL.gs (true&&((j.Part.sN o.Part)==false)) (j.Part.sM o.Part) (str o.fD) rfl rfl rfl (bZ 0 rfl hw (fun h=>by exact(cK h:cv ((true&&((j.Part.sN o.Part)==false))&&((j.Part.sM o.Part)==true)) (vp ai 1)= (vp ai 1))) rfl qj AQ) (RL.gs (true&&((j.Part.sN o.Part)==false)) (j.Part.sM o.Part) (vb (j.fD.sN o.fD||j.fD.sM o.fD)) rfl rfl rfl (BQ .leq j.fD o.fD rfl (fun h=>by exact(cK h:cv ((true&&((j.Part.sN o.Part)==false))&&((j.Part.sM o.Part)==true)) (str j.fD)= (str j.fD))) (fun h=>by exact(cK h:cv ((true&&((j.Part.sN o.Part)==false))&&((j.Part.sM o.Part)==true)) (str o.fD)= (str o.fD))) rfl) ?_))))))))
 refine RL.gs true (j.Part.sN o.Part) (vb ((j.Part.sM o.Part)&&(j.fD.sN o.fD||j.fD.sM o.fD))) rfl rfl rfl (kE (j.Part.sM o.Part) rfl (fun h=>by exact(cK h:cv (true&&((j.Part.sN o.Part)==false)) (vb (j.Part.sM o.Part))= (vb (j.Part.sM o.Part)))) (fun h=>by exact gr (true&&((j.Part.sN o.Part)==false)) h)) (RL.pick (j.Part.sN o.Part) (vb ((j.Part.sN o.Part)||((j.Part.sM o.Part)&&(j.fD.sN o.fD||j.fD.sM o.fD)))) (nR true) (RL.nt (dU hb (fun hc hb=>?_) fun hc hb=>?_)))
 ·refine RC.sr (aQ (vi 8) (RL.nt (RC.rt ?_)))
  obtain rfl:=oi hb
  exact bX ⟨rfl,hw.drop 6⟩
 refine RC.sx (aQ (vi 0) (RL.nt (RC.ret ?_)))
 obtain rfl:=oi hb
 exact bX ⟨rfl,hw.drop 6⟩
def kf (E:World) (V:List HP) (r:Int) (U:Nat->Value) (w:World):Prop:=mh bO 115 Tryz.f23 (aW E V r) .ret U w
theorem p6 {p0:k7} (j:Holds E w V) (h0:V[i0]? =some (rd v0 p0)) (o:gZ N p0=some res):
    Calls bO 23 [v0].toArray w (gW (aW E V res)):=by
 unfold gZ at o
 refine enter Tryz.func23 zr zr ?_
 have j:=j.dup (i0+0) h0
 refine RC.sr (RL.dJ 0 v0 j zr fun ae w j=>?_)
 refine aQ (vi 0) (RL.nq (RC.sr (RL.aX zr mx (RL.bE 0 j zr jc pB fun bg j=>(RL.bA 0 p0.aJ j qw (ic ((p0.aJ.length:Int)) 0 (RL.nt (dU o (fun hc o=>?_) fun hc o=>?_))))))))
 ·refine RC.sr (aQ (vi 9) (RL.nt (RC.rt ?_)))
  obtain rfl:=oi o
  exact bX ⟨rfl,j.drop 3⟩
 refine RC.ss (RC.sr (RL.aX zr mx (RL.bE 1 j zr jc pB fun bh j=>(RL.bA 0 p0.aJ j qw (ic ((p0.aJ.length:Int)) 16 (RL.nt (dU o (fun hc o=>?_) fun hc o=>?_)))))))
 ·refine RC.sr (aQ (vi 2) (RL.nt (RC.rt ?_)))
  obtain rfl:=oi o
  exact bX ⟨rfl,j.drop 4⟩
 refine RC.sx (RL.aX zr B6 (RL.bE 2 j zr rT tR fun bj j=>(RL.bA 0 p0.cG j nc (aQ (vi p0.cG.length) (RL.nq (RC.sr (aQ (vi 0) (RL.nt ?_))))))))
 obtain⟨bk,hN,o⟩:=bd o
 refine RC.iter (fun(ad:Int×Int)=>SH E V [(1,vp ae 0),(3,vi ad.1),(4,vi ad.2)] [bx 27 ae p0]) (fun(ad:Int×Int)=>SH E V [(1,vp ae 0),(3,vi ad.1)] [bx 27 ae p0]) (kf E V) hN ?_ ?_ ?_ ?_
 ·exact j.sp 5 [3]
 ·rintro ad fl _ w ⟨O,rfl,j⟩ o
  refine RC.seq (RC.sr (mv (vi ad.2) (RL.aX zr mx (RL.bE 0 j zr jc pB fun bl j=>(RL.bA 0 p0.aJ j qw (ic ad.2 ((p0.aJ.length:Int)) (RL.nt (dU o (fun hc o=>?_) fun hc o=>?_))))))))
  rotate_left
  ·refine RC.ex ?_
   obtain rfl:=oi o
   exact⟨rfl,j.sp 2 [1]⟩
  refine RC.ss (RC.block (RC.seq (RC.sr (RL.aX zr mx (RL.bE 1 j zr jc pB fun bm j=>(mv (vi ad.2) ?_))))))
  obtain⟨a0,a1,o⟩:=bd o
  refine RL.bP 0 j uk a1 fun bn j=>(RL.bL 0 a0 j tR fun a2 j=>?_)
  obtain⟨al,a3,o⟩:=bd o
  refine RL.call zt zr K8 [a2] zr (aD (lL N (i0:=0) j zr a3) ?_)
  rintro _ w ⟨rfl,j⟩
  refine aQ (vi al) (RL.ns (mv (vi al) (ic al 0 (RL.nt (dU o (fun hc o=>?_) fun hc o=>?_)))))
  ·refine RC.sr (mv (vi al) (aQ (vi al) (RL.nt (RC.rt (ot (bT ?_))))))
   obtain rfl:=oi o
   exact⟨rfl,bX ⟨rfl,j.drop 5⟩⟩
  refine RC.sn (RC.region (mv (vi ad.1) (RL.aX zr mx (RL.bE 4 j zr jc pB fun bo j=>(mv (vi ad.2) ?_)))))
  obtain⟨au,a4,o⟩:=bd o
  refine RL.bP 0 j uk a4 fun bp j=>(RL.bL 0 au j tR fun bq j=>(RL.bA 0 au j nc (RL.gl ad.1 (au.length:Int) (aQ (vi (IntKind.wrap .i64 (ad.1+ (au.length:Int)))) (RL.nil (bM (aH (RC.region ?_))))))))
  refine mv (vi ad.2) (RL.gl ad.2 1 (aQ (vi (IntKind.wrap .i64 (ad.2+1))) (RL.nil ?_)))
  obtain rfl:=oi o
  exact⟨rfl,j.sp 8 [7]⟩
 ·intro r U w e hK
  subst e
  refine bT ?_
  obtain rfl:=oi o
  exact hK
 rintro ad _ w rfl ⟨O,rfl,j⟩
 rw [Fo.dA] at o
 refine aH (RC.seq (RC.sr (RL.aX zr B6 (RL.bE 0 j zr rT tR fun a5 j=>?_))))
 obtain⟨ao,a6,o⟩:=bd o
 refine RL.call zt zr K8 [a5] zr (aD (lL N (i0:=0) j zr a6) ?_)
 rintro _ w ⟨rfl,j⟩
 refine aQ (vi ao) (RL.ns (mv (vi ao) (ic ao 0 (RL.nt (dU o (fun hc o=>?_) fun hc o=>?_)))))
 ·refine RC.sr (mv (vi ao) (aQ (vi ao) (RL.nt (RC.rt ?_))))
  obtain rfl:=oi o
  exact bX ⟨rfl,j.drop 2⟩
 refine RC.ss (RC.seq ?_)
 obtain⟨av,hj,o⟩:=bd o
 refine RC.jn (fun(av:Bool)=>SH E V [(1,vp ae 0),(60,vb av)] [bx 27 ae p0]) av ?_ ?_
 ·refine RC.region (mv (vi ad.1) (ic ad.1 2000 (mv (vb (decide (ad.1>2000))) (fC hj (fun ah hj=>?_) fun ah hj=>?_))))
  ·refine bG ah (bG ah (bG ah (bG ah (fL ah (vb true) (RL.nil ?_)))))
   obtain rfl:=oi hj
   exact⟨rfl,j.sp 2 [1]⟩
  refine RL.aX (hg:=(cg ah)) zr gK (RL.bE (hg:=(cg ah)) 1 j zr gj mZ fun br j=>(RL.bA (hg:=(cg ah)) 0 p0.aM j um (RL.kD (p0.aM.length:Int) 500 (cg ah) (fL ah (vb (decide ((p0.aM.length:Int)>500))) (RL.nil ?_)))))
  obtain rfl:=oi hj
  exact⟨rfl,j.sp 3 [2]⟩
 rintro _ w ⟨O,rfl,j⟩
 refine aH (dU o (fun hc o=>?_) fun hc o=>?_)
 ·refine RC.sr (aQ (vi 2) (RL.nt (RC.rt ?_)))
  obtain rfl:=oi o
  exact bX ⟨rfl,j.drop 1⟩
 refine RC.ss (RC.sr (aQ (vi 0) (RL.nt ?_)))
 obtain⟨bt,hN,o⟩:=bd o
 refine RC.iter (fun(ai:Int)=>SH E V [(1,vp ae 0),(7,vi ai)] [bx 27 ae p0]) (fun(ai:Int)=>SH E V [(1,vp ae 0)] [bx 27 ae p0]) (kf E V) hN ?_ ?_ ?_ ?_
 ·exact j.sp 1 [0]
 ·rintro ai fl _ w ⟨O,rfl,j⟩ o
  refine RC.seq (RC.sr (mv (vi ai) (RL.aX zr gK (RL.bE 0 j zr gj mZ fun bu j=>(RL.bA 0 p0.aM j um (ic ai ((p0.aM.length:Int)) (RL.nt (dU o (fun hc o=>?_) fun hc o=>?_))))))))
  rotate_left
  ·refine RC.ex ?_
   obtain rfl:=oi o
   exact⟨rfl,j.sp 2 [1]⟩
  refine RC.ss (RC.bs (RL.aX zr gK (RL.bE 1 j zr gj mZ fun bw j=>(mv (vi ai) ?_))))
  obtain⟨aj,a7,o⟩:=bd o
  refine RL.bP 0 j pE a7 fun bz j=>(RL.bL 0 aj j lE fun b0 j=>(RL.alloc j Dj.z fun b1 w j=>?_))
  refine RL.cA 0 j 1 zr lE fun w j=>?_
  refine RL.nq (RC.sr (RL.bE (f:=(fun x=>x)) 0 j zr Fd.self lE fun a8 j=>?_))
  obtain⟨aq,a9,o⟩:=bd o
  refine RL.call zt zr MC [a8] zr (aD (pI N (i0:=0) j zr a9) ?_)
  rintro _ w ⟨rfl,j⟩
  refine aQ (vi aq) (RL.ns (mv (vi aq) (ic aq 0 (RL.nt (dU o (fun hc o=>?_) fun hc o=>?_)))))
  ·refine RC.sr (mv (vi aq) (aQ (vi aq) (RL.nt (RC.rt (ot (bT ?_))))))
   obtain rfl:=oi o
   exact⟨rfl,bX ⟨rfl,j.drop 7⟩⟩
  refine RC.ss ?_
  obtain⟨aw,hj,o⟩:=bd o
  refine RC.jn (fun(aw:Bool)=>SH E V [(1,vp ae 0),(7,vi ai),(97,vb aw)] [bx 27 ae p0]) aw ?_ ?_
  ·refine RC.region (RL.aX zr pF (RL.aN 1 j zr kz cJ (RL.aX zr mx (RL.bE 6 j zr jc pB fun b2 j=>(RL.bA 0 p0.aJ j qw (RL.gl (p0.aJ.length:Int) 1 ?_))))))
   obtain⟨ay,ba,hj⟩:=bd hj
   refine RL.call zt zr G9 [(vi aj.cM),(vi 0),(vi (IntKind.wrap .i64 ((p0.aJ.length:Int) - 1)))] zr (aD (iH N (p0:=aj.cM) (p1:=0) (p2:=(IntKind.wrap .i64 ((p0.aJ.length:Int) - 1))) j ba) ?_)
   rintro _ w ⟨rfl,j⟩
   refine RL.not ay (mv (vb (!ay)) (fC hj (fun ab hj=>?_) fun ab hj=>?_))
   ·refine bG ab (bG ab (bG ab (bG ab (bG ab (bG ab (bG ab (bG ab (bG ab ?_))))))))
    refine bG ab (fL ab (vb true) (RL.nil ?_))
    obtain rfl:=oi hj
    exact⟨rfl,j.sp 8 [7]⟩
   refine RL.aX (hg:=(cg ab)) zr rA (RL.aN (hg:=(cg ab)) 2 j zr lW cJ (RL.aX (hg:=(cg ab)) zr pF (RL.aN (hg:=(cg ab)) 2 j zr kz cJ (RL.aX (hg:=(cg ab)) zr mx (RL.bE (hg:=(cg ab)) 7 j zr jc pB fun b3 j=>(RL.bA (hg:=(cg ab)) 0 p0.aJ j qw (RL.gl (hg:=(cg ab)) (p0.aJ.length:Int) 1 ?_)))))))
   obtain⟨az,bb,hj⟩:=bd hj
   refine RL.call (cg ab) zr G9 [(vi aj.To),(vi aj.cM),(vi (IntKind.wrap .i64 ((p0.aJ.length:Int) - 1)))] zr (aD (iH N (p0:=aj.To) (p1:=aj.cM) (p2:=(IntKind.wrap .i64 ((p0.aJ.length:Int) - 1))) j bb) ?_)
   rintro _ w ⟨rfl,j⟩
   refine RL.not (hg:=(cg ab)) az (fL ab (vb (!az)) (RL.nil ?_))
   obtain rfl:=oi hj
   exact⟨rfl,j.sp 9 [8]⟩
  rintro _ w ⟨O,rfl,j⟩
  refine aH (dU o (fun hc o=>?_) fun hc o=>?_)
  ·refine RC.sr (aQ (vi 1) (RL.nt (RC.rb (bT ?_))))
   obtain rfl:=oi o
   exact⟨rfl,bX ⟨rfl,j.drop 1⟩⟩
  refine RC.skip (bM (aH (RC.region (mv (vi ai) (RL.gl ai 1 (aQ (vi (IntKind.wrap .i64 (ai+1))) (RL.nil ?_)))))))
  obtain rfl:=oi o
  exact⟨rfl,j.sp 1 [0]⟩
 ·intro r U w e hK
  subst e
  refine bT ?_
  obtain rfl:=oi o
  exact hK
 rintro ai _ w rfl ⟨O,rfl,j⟩
 rw [Fo.dA] at o
 refine aH (RC.seq (RC.sr (RL.aX zr rB (RL.bE 0 j zr oy A2 fun b4 j=>(RL.bA 0 p0.bV j FO (ic ((p0.bV.length:Int)) 1000 (RL.nt (dU o (fun hc o=>?_) fun hc o=>?_))))))))
 ·refine RC.sr (aQ (vi 2) (RL.nt (RC.rt ?_)))
  obtain rfl:=oi o
  exact bX ⟨rfl,j.drop 2⟩
 refine RC.ss (RC.sr (aQ (vi 0) (RL.nt ?_)))
 obtain⟨b5,hN,o⟩:=bd o
 refine RC.iter (fun(ag:Int)=>SH E V [(1,vp ae 0),(10,vi ag)] [bx 27 ae p0]) (fun(ag:Int)=>SH E V [] [bx 27 ae p0]) (kf E V) hN ?_ ?_ ?_ ?_
 ·exact j.sp 2 [1]
 ·rintro ag fl _ w ⟨O,rfl,j⟩ o
  refine RC.seq (RC.sr (mv (vi ag) (RL.aX zr rB (RL.bE 0 j zr oy A2 fun b6 j=>(RL.bA 0 p0.bV j FO (ic ag ((p0.bV.length:Int)) (RL.nt (dU o (fun hc o=>?_) fun hc o=>?_))))))))
  rotate_left
  ·refine RC.ex ?_
   obtain rfl:=oi o
   exact⟨rfl,j.sp 2 [1]⟩
  refine RC.ss (RC.bs (RL.bE (f:=(fun x=>x)) 1 j zr Fd.self tQ fun bc j=>(mv (vi ag) ?_)))
  obtain⟨ar,bf,o⟩:=bd o
  refine RL.call zt zr ME [bc,(vi ag)] zr (aD (qH N (p1:=ag) (i0:=0) j zr bf) ?_)
  rintro _ w ⟨rfl,j⟩
  refine aQ (vi ar) (RL.ns (mv (vi ar) (ic ar 0 (RL.nt (dU o (fun hc o=>?_) fun hc o=>?_)))))
  rotate_left
  ·refine RC.skip (bM (aH (RC.region (mv (vi ag) (RL.gl ag 1 (aQ (vi (IntKind.wrap .i64 (ag+1))) (RL.nil ?_)))))))
   obtain rfl:=oi o
   exact⟨rfl,j.sp 3 [2]⟩
  refine RC.sr (mv (vi ar) (aQ (vi ar) (RL.nt (RC.rb (bT ?_)))))
  obtain rfl:=oi o
  exact⟨rfl,bX ⟨rfl,j.drop 3⟩⟩
 ·intro r U w e hK
  subst e
  refine bT ?_
  obtain rfl:=oi o
  exact hK
 rintro ag _ w rfl ⟨O,rfl,j⟩
 rw [Fo.dA] at o
 refine aH (RC.sr (aQ (vi 0) (RL.nt (RC.ret ?_))))
 obtain rfl:=oi o
 exact bX ⟨rfl,j.drop 1⟩
theorem sf {p0 p1:cE} {res:Bool} (j:Holds E w V) (h0:V[i0]? =some (rd v0 p0)) (h1:V[i1]? =some (rd v1 p1)) (hb:iE N p0 p1=some res):
    Calls bO 24 [v0,v1].toArray w (gW (aV E V res)):=by
 unfold iE at hb
 refine enter Tryz.func24 zr zr ?_
 have j:=(j.dup (i0+0) h0).dup (i1+1) h1
 refine RC.sr (RL.dJ 1 v0 j zr fun o w j=>?_)
 refine RL.dJ 1 v1 j zr fun aa w j=>?_
 refine aQ (vb false) (RL.ns (RL.aX zr pF (RL.aN 1 j zr kz cJ (RL.aX zr rA (RL.aN 0 j zr lW cJ (ic p0.cM p1.To (mv (vb (decide (p0.cM<=p1.To))) (RL.gs true (decide (p0.cM<=p1.To)) (vp aa 3) zr zr zr (eA pF) ?_))))))))
 refine RL.gs true (decide (p0.cM<=p1.To)) (vi p1.cM) rfl rfl rfl (bZ 0 rfl j (fun h=>by exact(cK h:cv (true&&((decide (p0.cM<=p1.To))==true)) (vp aa 3)= (vp aa 3))) rfl kz cJ) (RL.gs true (decide (p0.cM<=p1.To)) (vp o 4) rfl rfl rfl (eA rA) (RL.gs true (decide (p0.cM<=p1.To)) (vi p0.To) rfl rfl rfl (bZ 1 rfl j (fun h=>by exact(cK h:cv (true&&((decide (p0.cM<=p1.To))==true)) (vp o 4)= (vp o 4))) rfl lW cJ) (RL.gs true (decide (p0.cM<=p1.To)) (vb (decide (p1.cM<=p0.To))) rfl rfl rfl (dI .leq .i64 p1.cM p0.To rfl (fun h=>by exact(cK h:cv (true&&((decide (p0.cM<=p1.To))==true)) (vi p1.cM)= (vi p1.cM))) (fun h=>by exact(cK h:cv (true&&((decide (p0.cM<=p1.To))==true)) (vi p0.To)= (vi p0.To))) rfl) (RL.pick (decide (p0.cM<=p1.To)) (vb ((decide (p0.cM<=p1.To))&&(decide (p1.cM<=p0.To)))) (gr true rfl) (aQ (vb ((decide (p0.cM<=p1.To))&&(decide (p1.cM<=p0.To)))) (RL.nt (RC.ret ?_)))))))
 obtain rfl:=oi hb
 exact bX ⟨rfl,j.drop 4⟩
theorem rJ {p0 p1:aI} {res:Bool} (o:Holds E w V) (h0:V[i0]? =some (rd v0 p0)) (h1:V[i1]? =some (rd v1 p1)) (hb:f0 N p0 p1=some res):
    Calls bO 25 [v0,v1].toArray w (gW (aV E V res)):=by
 unfold f0 at hb
 refine enter Tryz.func25 zr zr ?_
 have o:=(o.dup (i0+0) h0).dup (i1+1) h1
 refine RC.sr (RL.dJ 1 v0 o zr fun ae w o=>?_)
 refine RL.dJ 1 v1 o zr fun af w o=>?_
 refine aQ (vb false) (RL.nq ?_)
 obtain⟨ad,hj,hb⟩:=bd hb
 refine RC.jn (fun(ad:Bool)=>SH E V [(4,vb ad)] []) ad ?_ ?_
 ·refine RC.region (RL.aX zr jl (RL.aN 1 o zr eE cJ (RL.aX zr jl (RL.aN 0 o zr eE cJ (RL.min p0.X1 p1.X1 (RL.aX zr ir (RL.aN 1 o zr dL cJ (RL.aX zr ir ?_))))))))
  refine RL.aN 0 o zr dL cJ (RL.max p0.X0 p1.X0 (ic ((if p1.X1<p0.X1 then p1.X1 else p0.X1)) ((if p0.X0<p1.X0 then p1.X0 else p0.X0)) (mv (vb (decide ((if p1.X1<p0.X1 then p1.X1 else p0.X1)> (if p0.X0<p1.X0 then p1.X0 else p0.X0)))) (fC hj (fun j hj=>?_) fun j hj=>?_))))
  ·refine RL.aX (hg:=(cg j)) zr kq (RL.aN (hg:=(cg j)) 1 o zr fF cJ (RL.aX (hg:=(cg j)) zr kq (RL.aN (hg:=(cg j)) 0 o zr fF cJ (RL.min (hg:=(cg j)) p0.Y1 p1.Y1 (RL.aX (hg:=(cg j)) zr g8 (RL.aN (hg:=(cg j)) 1 o zr dF cJ (RL.aX (hg:=(cg j)) zr g8 (RL.aN (hg:=(cg j)) 0 o zr dF cJ ?_))))))))
   refine RL.max (hg:=(cg j)) p0.Y0 p1.Y0 (RL.kD (if p1.Y1<p0.Y1 then p1.Y1 else p0.Y1) (if p0.Y0<p1.Y0 then p1.Y0 else p0.Y0) (cg j) (fL j (vb (decide ((if p1.Y1<p0.Y1 then p1.Y1 else p0.Y1)> (if p0.Y0<p1.Y0 then p1.Y0 else p0.Y0)))) (aQ (vb (decide ((if p1.Y1<p0.Y1 then p1.Y1 else p0.Y1)> (if p0.Y0<p1.Y0 then p1.Y0 else p0.Y0)))) (RL.nil ?_))))
   obtain rfl:=oi hj
   exact⟨rfl,o.sp 4 []⟩
  refine bG j (bG j (bG j (bG j (bG j (bG j (bG j (bG j (bG j ?_))))))))
  refine bG j (bG j (fL j (vb false) (aQ (vb false) (RL.nil ?_))))
  obtain rfl:=oi hj
  exact⟨rfl,o.sp 4 []⟩
 rintro _ w ⟨O,rfl,o⟩
 refine aH (RC.ret ?_)
 obtain rfl:=oi hb
 exact bX ⟨rfl,o.drop 0⟩
theorem jv {p0:cE} {res:Bool} (j:Holds E w V) (h0:V[i0]? =some (rd v0 p0)) (hb:eU N p0 p1=some res):
    Calls bO 29 [v0,(vi p1)].toArray w (gW (aV E V res)):=by
 unfold eU at hb
 refine enter Tryz.func29 zr zr ?_
 have j:=j.dup (i0+0) h0
 refine RC.sr (RL.dJ 0 v0 j zr fun o w j=>?_)
 refine aQ (vb false) (RL.ns (RL.aX zr pF (RL.aN 0 j zr kz cJ (mv (vi p1) (ic p0.cM p1 (mv (vb (decide (p0.cM<=p1))) (RL.gs true (decide (p0.cM<=p1)) (vi p1) zr zr zr cH (RL.gs true (decide (p0.cM<=p1)) (vp o 4) zr zr zr (eA rA) ?_))))))))
 refine RL.gs true (decide (p0.cM<=p1)) (vi p0.To) rfl rfl rfl (bZ 0 rfl j (fun h=>by exact(cK h:cv (true&&((decide (p0.cM<=p1))==true)) (vp o 4)= (vp o 4))) rfl lW cJ) (RL.gs true (decide (p0.cM<=p1)) (vb (decide (p1<=p0.To))) rfl rfl rfl (dI .leq .i64 p1 p0.To rfl (fun h=>by exact(cK h:cv (true&&((decide (p0.cM<=p1))==true)) (vi p1)= (vi p1))) (fun h=>by exact(cK h:cv (true&&((decide (p0.cM<=p1))==true)) (vi p0.To)= (vi p0.To))) rfl) (RL.pick (decide (p0.cM<=p1)) (vb ((decide (p0.cM<=p1))&&(decide (p1<=p0.To)))) (gr true rfl) (aQ (vb ((decide (p0.cM<=p1))&&(decide (p1<=p0.To)))) (RL.nt (RC.ret ?_)))))
 obtain rfl:=oi hb
 exact bX ⟨rfl,j.drop 2⟩
def tg (E:World) (V:List HP) (r:Bool) (U:Nat->Value) (w:World):Prop:=mh bO 28 Tryz.f146 (aV E V r) .ret U w
theorem lq {p0: (List aF)} {res:Bool} (j:Holds E w V) (h0:V[i0]? =some (rd v0 p0)) (o:gw N p0 p1=some res):
    Calls bO 146 [v0,(vi p1)].toArray w (gW (aV E V res)):=by
 unfold gw at o
 refine enter Tryz.func146 zr zr ?_
 have j:=j.dup (i0+0) h0
 refine RC.sr (aQ (vb false) (RL.nq (RC.sr (aQ (vi 0) (RL.nt ?_)))))
 obtain⟨an,hN,o⟩:=bd o
 refine RC.iter (fun(ab:Int)=>SH E V [(0,v0),(1,vi p1),(5,vi ab)] [rd v0 p0]) (fun(ab:Int)=>SH E V [] [rd v0 p0]) (tg E V) hN ?_ ?_ ?_ ?_
 ·exact j.sp 1 [0]
 ·rintro ab fl _ w ⟨O,rfl,j⟩ o
  refine RC.seq (RC.sr (mv (vi ab) (mv v0 (RL.bA 0 p0 j vL (ic ab ((p0.length:Int)) (RL.nt (dU o (fun hc o=>?_) fun hc o=>?_)))))))
  rotate_left
  ·refine RC.ex ?_
   obtain rfl:=oi o
   exact⟨rfl,j.sp 1 [0]⟩
  refine RC.ss (RC.block (RC.seq ?_))
  obtain⟨af,hj,o⟩:=bd o
  refine RC.jn (fun(af:Bool)=>SH E V [(0,v0),(1,vi p1),(5,vi ab),(27,vb af)] [rd v0 p0]) af ?_ ?_
  ·refine RC.region (mv v0 (mv (vi ab) ?_))
   obtain⟨ag,aj,hj⟩:=bd hj
   refine RL.bP 0 j oL aj fun aq j=>(RL.dX 0 j zr pY eF fun ar j=>(RL.bD ag.from_ 0 j cJ (mv (vi p1) (ic ag.from_ p1 (mv (vb (decide (ag.from_<=p1))) (fC hj (fun aa hj=>?_) fun aa hj=>?_))))))
   rotate_left
   ·refine bG aa (bG aa (bG aa (bG aa (bG aa (bG aa (bG aa (fL aa (vb false) (RL.nil ?_))))))))
    obtain rfl:=oi hj
    exact⟨rfl,j.sp 3 [2]⟩
   refine RL.move (vi p1) (cg aa) (RL.move v0 (cg aa) (RL.move (vi ab) (cg aa) ?_))
   obtain⟨ah,ak,hj⟩:=bd hj
   refine RL.bP (hg:=(cg aa)) 2 j oL ak fun au j=>(RL.dX (hg:=(cg aa)) 0 j zr pX eG fun av j=>(RL.bD (hg:=(cg aa)) ah.to 0 j cJ (RL.kD p1 ah.to (cg aa) (fL aa (vb (decide (p1<ah.to))) (RL.nil ?_)))))
   obtain rfl:=oi hj
   exact⟨rfl,j.sp 5 [4]⟩
  rintro _ w ⟨O,rfl,j⟩
  refine aH (dU o (fun hc o=>?_) fun hc o=>?_)
  ·refine RC.sr (aQ (vb true) (RL.nt (RC.rb (bT ?_))))
   obtain rfl:=oi o
   exact⟨rfl,bX ⟨rfl,j.drop 1⟩⟩
  refine RC.skip (bM (aH (RC.region (mv (vi ab) (RL.gl ab 1 (aQ (vi (IntKind.wrap .i64 (ab+1))) (RL.nil ?_)))))))
  obtain rfl:=oi o
  exact⟨rfl,j.sp 1 [0]⟩
 ·intro r U w e hK
  subst e
  refine bT ?_
  obtain rfl:=oi o
  exact hK
 rintro ab _ w rfl ⟨O,rfl,j⟩
 rw [Fo.dA] at o
 refine aH (RC.sr (aQ (vb false) (RL.nt (RC.ret ?_))))
 obtain rfl:=oi o
 exact bX ⟨rfl,j.drop 1⟩
theorem th {p0: (List aF)} {p1: (List aF)} {res: (List aF)} (j:Holds E w V) (h0:V[i0]? =some (rd v0 p0)) (h1:V[i1]? =some (rd v1 p1)) (hb:jQ N p0 p1 p2=some res):
    Calls bO 117 [v0,v1,(vi p2)].toArray w (gW (lF E V res)):=by
 unfold jQ at hb
 refine enter Tryz.func117 zr zr ?_
 have j:=(j.dup (i0+0) h0).dup (i1+1) h1
 refine RC.sr (aQ (.slice none 0 0) (RL.ns (aQ (.slice none 0 0) (RL.nq (RC.sr (aQ (vi 0) (RL.nt ?_)))))))
 obtain⟨bw,hN,hb⟩:=bd hb
 refine RC.iter (fun(af: (List Int)×Int) U w=>∃a3:Value,SH E V [(0,v0),(1,v1),(2,vi p2),(7,a3),(8,vi af.2)] [rd v0 p0,rd v1 p1,rd a3 af.1] U w) (fun(af: (List Int)×Int) U w=>∃al:Value,SH E V [(0,v0),(1,v1),(2,vi p2),(7,al)] [rd v0 p0,rd v1 p1,rd al af.1] U w) (fun(r:Empty) _ _=>r.elim) hN ?_ ?_ ?_ ?_
 ·have j:=j.t8 Int
  exact⟨(.slice none 0 0),j.sp 3 [2,1,0]⟩
 ·rintro af fl _ w ⟨au,O,rfl,j⟩ hb
  refine RC.seq (RC.sr (mv (vi af.2) (mv v0 (RL.bA 0 p0 j vL (ic af.2 ((p0.length:Int)) (RL.nt (dU hb (fun hc hb=>?_) fun hc hb=>?_)))))))
  rotate_left
  ·refine RC.ex ?_
   obtain rfl:=oi hb
   exact⟨rfl,au,j.sp 3 [0,1,2]⟩
  refine RC.ss (RC.block (RC.v5 mixed [0,0,0,0,0,0,2,1,1,1,1,1,2,0] [0,1,2,3,4,5,7,8,9,10,11,6,12,13] ?_))
  have j:=j.drew
  refine DP.e0 zr (mv au (aZ zr (mv v0 (aZ zr (mv (vi af.2) (aZ zr ?_))))))
  obtain⟨av,ba,hb⟩:=bd hb
  refine RL.bP 0 j oL ba fun bx j=>(aZ zr (RL.dX 0 j zr pY eF fun bz j=>(aZ zr (RL.bD av.from_ 0 j cJ (DP.d0 (DP.e1 v0 zr (fun w=>RL.move v0 zt DP.d1) (DP.e1 (vi af.2) zr (fun w=>RL.move (vi af.2) zt DP.d1) ?_)))))))
  obtain⟨aw,bb,hb⟩:=bd hb
  refine DP.v7 2 zr j oL bb fun b0 j=>(DP.B5 0 zr zt j zr pX eG fun b1 j=>(DP.re aw.to 0 zr j cJ fun a68 b2 j=>(DP.e2 zr ?_)))
  obtain⟨b3,bc,hb⟩:=bd hb
  refine RL.call zt zr Bs [au,(vi av.from_)] zr (aD (iG N (p1:=av.from_) (i0:=7) j zr bc) ?_)
  rintro bf w j
  refine DP.d2 (⟨zt,j.iq 1⟩) (DP.e2 zr ?_)
  obtain⟨b4,bg,hb⟩:=bd hb
  refine RL.call zt zr Bs [bf,(vi aw.to)] zr (aD (iG N (p1:=aw.to) (i0:=0) j zr bg) ?_)
  rintro a5 w j
  refine DP.d2 (⟨zt,j.iq 2⟩) (DP.e0 zr (aQ a5 (DP.d0 ?_)))
  have j:=j.pl 10 [0,1,3,4,5,6,7,8,9]
  refine DP.z (bM (aH (RC.region (mv (vi af.2) (RL.gl af.2 1 (aQ (vi (IntKind.wrap .i64 (af.2+1))) (RL.nil ?_)))))))
  obtain rfl:=oi hb
  exact⟨rfl,a5,j.sp 9 [6,7,0]⟩
 ·intro r _ _ _ _
  exact r.elim
 rintro af _ w rfl ⟨al,O,rfl,j⟩
 rw [Fo.dA] at hb
 refine aH (RC.seq (RC.sr (aQ (vi 0) (RL.nt ?_))))
 obtain⟨b5,hN,hb⟩:=bd hb
 refine RC.iter (fun(ae: (List Int)×Int) U w=>∃a6:Value,SH E V [(0,v0),(1,v1),(2,vi p2),(7,a6),(9,vi ae.2)] [rd v0 p0,rd v1 p1,rd a6 ae.1] U w) (fun(ae: (List Int)×Int) U w=>∃ag:Value,SH E V [(0,v0),(1,v1),(2,vi p2),(7,ag)] [rd v0 p0,rd v1 p1,rd ag ae.1] U w) (fun(r:Empty) _ _=>r.elim) hN ?_ ?_ ?_ ?_
 ·exact⟨al,j.sp 3 [0,1,2]⟩
 ·rintro ae fl _ w ⟨ax,O,rfl,j⟩ hb
  refine RC.seq (RC.sr (mv (vi ae.2) (mv v1 (RL.bA 1 p1 j vL (ic ae.2 ((p1.length:Int)) (RL.nt (dU hb (fun hc hb=>?_) fun hc hb=>?_)))))))
  rotate_left
  ·refine RC.ex ?_
   obtain rfl:=oi hb
   exact⟨rfl,ax,j.sp 3 [0,1,2]⟩
  refine RC.ss (RC.block (RC.v5 mixed [0,0,0,0,0,0,2,1,1,1,1,1,2,0] [0,1,2,3,4,5,7,8,9,10,11,6,12,13] ?_))
  have j:=j.drew
  refine DP.e0 zr (mv ax (aZ zr (mv v1 (aZ zr (mv (vi ae.2) (aZ zr ?_))))))
  obtain⟨ay,bh,hb⟩:=bd hb
  refine RL.bP 1 j oL bh fun b6 j=>(aZ zr (RL.dX 0 j zr pY eF fun b7 j=>(aZ zr (RL.bD ay.from_ 0 j cJ (DP.d0 (DP.e1 v1 zr (fun w=>RL.move v1 zt DP.d1) (DP.e1 (vi ae.2) zr (fun w=>RL.move (vi ae.2) zt DP.d1) ?_)))))))
  obtain⟨az,bj,hb⟩:=bd hb
  refine DP.v7 3 zr j oL bj fun b8 j=>(DP.B5 0 zr zt j zr pX eG fun b9 j=>(DP.re az.to 0 zr j cJ fun a111 ca j=>(DP.e2 zr ?_)))
  obtain⟨cb,bk,hb⟩:=bd hb
  refine RL.call zt zr Bs [ax,(vi ay.from_)] zr (aD (iG N (p1:=ay.from_) (i0:=7) j zr bk) ?_)
  rintro bl w j
  refine DP.d2 (⟨zt,j.iq 1⟩) (DP.e2 zr ?_)
  obtain⟨cc,bm,hb⟩:=bd hb
  refine RL.call zt zr Bs [bl,(vi az.to)] zr (aD (iG N (p1:=az.to) (i0:=0) j zr bm) ?_)
  rintro a7 w j
  refine DP.d2 (⟨zt,j.iq 2⟩) (DP.e0 zr (aQ a7 (DP.d0 ?_)))
  have j:=j.pl 10 [0,1,3,4,5,6,7,8,9]
  refine DP.z (bM (aH (RC.region (mv (vi ae.2) (RL.gl ae.2 1 (aQ (vi (IntKind.wrap .i64 (ae.2+1))) (RL.nil ?_)))))))
  obtain rfl:=oi hb
  exact⟨rfl,a7,j.sp 9 [6,7,0]⟩
 ·intro r _ _ _ _
  exact r.elim
 rintro ae _ w rfl ⟨ag,O,rfl,j⟩
 rw [Fo.dA] at hb
 refine aH (RC.sr (aQ (.slice none 0 0) (RL.nq (RC.sr (aQ (vi 1) (RL.nt ?_))))))
 obtain⟨cd,hN,hb⟩:=bd hb
 refine RC.iter (fun(ad: (List aF)×Int) U w=>∃a8:Value,SH E V [(0,v0),(1,v1),(2,vi p2),(7,ag),(10,a8),(11,vi ad.2)] [rd v0 p0,rd v1 p1,rd ag ae.1,own 156 a8 ad.1] U w) (fun(ad: (List aF)×Int) U w=>∃ak:Value,SH E V [(10,ak)] [rd v0 p0,rd v1 p1,rd ag ae.1,own 156 ak ad.1] U w) (fun(r:Empty) _ _=>r.elim) hN ?_ ?_ ?_ ?_
 ·have j:=j.cO aF 156
  exact⟨(.slice none 0 0),j.sp 4 [1,2,3,0]⟩
 ·rintro ad fl _ w ⟨an,O,rfl,j⟩ hb
  refine RC.seq (RC.sr (mv (vi ad.2) (mv ag (RL.bA 2 ae.1 j ly (ic ad.2 ((ae.1.length:Int)) (RL.nt (dU hb (fun hc hb=>?_) fun hc hb=>?_)))))))
  rotate_left
  ·refine RC.ex ?_
   obtain rfl:=oi hb
   exact⟨rfl,an,j.sp 4 [0,1,2,3]⟩
  refine RC.ss (RC.block (RC.seq (RC.v5 mixed [0,0,0,0,0,0,2,1,1,1,1,1,1,2,0,0] [0,1,2,3,4,5,7,8,9,10,11,12,6,13,14,15] ?_)))
  have j:=j.drew
  refine DP.e0 zr (mv v0 (aZ zr (mv ag (aZ zr (mv (vi ad.2) (aZ zr (RL.gl ad.2 1 (aZ zr ?_))))))))
  obtain⟨a0,bn,hb⟩:=bd hb
  refine RL.bP 2 j dW bn fun cf j=>(aZ zr (RL.bD a0 0 j cJ (DP.d0 (DP.e1 v1 zr (fun w=>RL.move v1 zt DP.d1) (DP.e1 ag zr (fun w=>RL.move ag zt DP.d1) (DP.e1 (vi ad.2) zr (fun w=>RL.move (vi ad.2) zt DP.d1) (DP.e1 (vi (IntKind.wrap .i64 (ad.2 - 1))) zr (fun w=>RL.gl ad.2 1 DP.d1) ?_)))))))
  obtain⟨a1,bo,hb⟩:=bd hb
  refine DP.v7 3 zr j dW bo fun cg j=>(DP.re a1 0 zr j cJ fun a176 ch j=>(DP.e2 zr ?_))
  obtain⟨o,bp,hb⟩:=bd hb
  refine RL.call zt zr Ha [v0,(vi a0)] zr (aD (lq N (p1:=a0) (i0:=3) j zr bp) ?_)
  rintro _ w ⟨rfl,j⟩
  refine DP.d2 (⟨zt,j.iq 0⟩) (DP.e2 zr ?_)
  obtain⟨aa,bq,hb⟩:=bd hb
  refine RL.call zt zr Ha [v1,(vi a1)] zr (aD (lq N (p1:=a1) (i0:=4) j zr bq) ?_)
  rintro _ w ⟨rfl,j⟩
  refine DP.d2 (⟨zt,j.iq 0⟩) (DP.e0 zr (aQ (vb o) (aZ zr (aQ (vb aa) (DP.d0 ?_)))))
  have j:=j.pl 7 [1,2,3,4,5,6]
  refine DP.z (aH (RC.sr (mv (vi p2) (ic p2 1 (mv (vb (p2==1)) (RL.gs true (p2==1) (vb o) rfl rfl rfl cH (RL.gs true (p2==1) (vb o) rfl rfl rfl (cH (hx:=fun h=>by exact(cK h:cv (true&&((p2==1)==true)) (vb o)= (vb o)))) (RL.gs (true&&((p2==1)==true)) o (vb aa) rfl rfl rfl cH ?_))))))))
  refine RL.gs true (p2==1) (vb (o||aa)) rfl rfl rfl (kE o rfl (fun h=>by exact(cK h:cv (true&&((p2==1)==true)) (vb o)= (vb o))) (fun h=>by exact nR (h:=h) (true&&((p2==1)==true)))) (RL.pick (p2==1) (vb ((p2==1)&&(o||aa))) (gr true rfl) (mv (vb ((p2==1)&&(o||aa))) (RL.gs true ((p2==1)&&(o||aa)) (vi p2) rfl rfl rfl cH (RL.gs true ((p2==1)&&(o||aa)) (vb (p2==2)) rfl rfl rfl (dI .eql .i64 p2 2 rfl (fun h=>by exact(cK h:cv (true&&(((p2==1)&&(o||aa))==false)) (vi p2)= (vi p2))) (fun _=>rfl) rfl) (RL.gs true ((p2==1)&&(o||aa)) (vb (p2==2)) rfl rfl rfl (cH (hx:=fun h=>by exact(cK h:cv (true&&(((p2==1)&&(o||aa))==false)) (vb (p2==2))= (vb (p2==2))))) (RL.gs (true&&(((p2==1)&&(o||aa))==false)) (p2==2) (vb o) rfl rfl rfl cH (RL.gs true ((p2==1)&&(o||aa)) (vb ((p2==2)&&o)) rfl rfl rfl (kE (p2==2) rfl (fun h=>by exact(cK h:cv (true&&(((p2==1)&&(o||aa))==false)) (vb (p2==2))= (vb (p2==2)))) (fun h=>by exact gr (true&&(((p2==1)&&(o||aa))==false)) h)) (RL.gs true ((p2==1)&&(o||aa)) (vb ((p2==2)&&o)) rfl rfl rfl (cH (hx:=fun h=>by exact(cK h:cv (true&&(((p2==1)&&(o||aa))==false)) (vb ((p2==2)&&o))= (vb ((p2==2)&&o))))) ?_))))))))
  refine RL.gs (true&&(((p2==1)&&(o||aa))==false)) ((p2==2)&&o) (vb aa) rfl rfl rfl cH (RL.gs true ((p2==1)&&(o||aa)) (vb (((p2==2)&&o)&&aa)) rfl rfl rfl (kE ((p2==2)&&o) rfl (fun h=>by exact(cK h:cv (true&&(((p2==1)&&(o||aa))==false)) (vb ((p2==2)&&o))= (vb ((p2==2)&&o)))) (fun h=>by exact gr (true&&(((p2==1)&&(o||aa))==false)) h)) (RL.pick ((p2==1)&&(o||aa)) (vb (((p2==1)&&(o||aa))||(((p2==2)&&o)&&aa))) (nR true) (mv (vb (((p2==1)&&(o||aa))||(((p2==2)&&o)&&aa))) (RL.gs true (((p2==1)&&(o||aa))||(((p2==2)&&o)&&aa)) (vi p2) rfl rfl rfl cH (RL.gs true (((p2==1)&&(o||aa))||(((p2==2)&&o)&&aa)) (vb (p2==3)) rfl rfl rfl (dI .eql .i64 p2 3 rfl (fun h=>by exact(cK h:cv (true&&((((p2==1)&&(o||aa))||(((p2==2)&&o)&&aa))==false)) (vi p2)= (vi p2))) (fun _=>rfl) rfl) (RL.gs true (((p2==1)&&(o||aa))||(((p2==2)&&o)&&aa)) (vb (p2==3)) rfl rfl rfl (cH (hx:=fun h=>by exact(cK h:cv (true&&((((p2==1)&&(o||aa))||(((p2==2)&&o)&&aa))==false)) (vb (p2==3))= (vb (p2==3))))) (RL.gs (true&&((((p2==1)&&(o||aa))||(((p2==2)&&o)&&aa))==false)) (p2==3) (vb o) rfl rfl rfl cH (RL.gs true (((p2==1)&&(o||aa))||(((p2==2)&&o)&&aa)) (vb ((p2==3)&&o)) rfl rfl rfl (kE (p2==3) rfl (fun h=>by exact(cK h:cv (true&&((((p2==1)&&(o||aa))||(((p2==2)&&o)&&aa))==false)) (vb (p2==3))= (vb (p2==3)))) (fun h=>by exact gr (true&&((((p2==1)&&(o||aa))||(((p2==2)&&o)&&aa))==false)) h)) ?_))))))))
  refine RL.gs true (((p2==1)&&(o||aa))||(((p2==2)&&o)&&aa)) (vb ((p2==3)&&o)) rfl rfl rfl (cH (hx:=fun h=>by exact(cK h:cv (true&&((((p2==1)&&(o||aa))||(((p2==2)&&o)&&aa))==false)) (vb ((p2==3)&&o))= (vb ((p2==3)&&o))))) (RL.gs (true&&((((p2==1)&&(o||aa))||(((p2==2)&&o)&&aa))==false)) ((p2==3)&&o) (vb aa) rfl rfl rfl cH (RL.gs (true&&((((p2==1)&&(o||aa))||(((p2==2)&&o)&&aa))==false)) ((p2==3)&&o) (vb (!aa)) rfl rfl rfl (Gx aa rfl (fun h=>by exact(cK h:cv ((true&&((((p2==1)&&(o||aa))||(((p2==2)&&o)&&aa))==false))&&(((p2==3)&&o)==true)) (vb aa)= (vb aa)))) (RL.gs true (((p2==1)&&(o||aa))||(((p2==2)&&o)&&aa)) (vb (((p2==3)&&o)&&(!aa))) rfl rfl rfl (kE ((p2==3)&&o) rfl (fun h=>by exact(cK h:cv (true&&((((p2==1)&&(o||aa))||(((p2==2)&&o)&&aa))==false)) (vb ((p2==3)&&o))= (vb ((p2==3)&&o)))) (fun h=>by exact gr (true&&((((p2==1)&&(o||aa))||(((p2==2)&&o)&&aa))==false)) h)) (RL.pick (((p2==1)&&(o||aa))||(((p2==2)&&o)&&aa)) (vb ((((p2==1)&&(o||aa))||(((p2==2)&&o)&&aa))||(((p2==3)&&o)&&(!aa)))) (nR true) (RL.nt ?_)))))
  obtain⟨a2,hj,hb⟩:=bd hb
  refine RC.jn (fun(a2: (List aF)) U w=>∃ao:Value,SH E V [(0,v0),(1,v1),(2,vi p2),(7,ag),(10,ao),(11,vi ad.2)] [rd v0 p0,rd v1 p1,rd ag ae.1,own 156 ao a2] U w) a2 ?_ ?_
  ·refine dU hj (fun hc hj=>?_) fun hc hj=>?_
   rotate_left
   ·refine RC.skip ?_
    obtain rfl:=oi hj
    exact⟨rfl,an,j.sp 6 [2,3,4,5]⟩
   refine RC.v5 mixed [0,0,0,0,0,0,0,0,0,0,0,2,0] [0,1,2,3,4,5,6,7,8,9,10,11,12] ?_
   have j:=j.drew
   refine DP.e0 zr (mv an (aZ zr (mv ag (aZ zr (mv (vi ad.2) (aZ zr (RL.gl ad.2 1 (aZ zr ?_))))))))
   obtain⟨aq,br,hj⟩:=bd hj
   refine RL.bP 4 j dW br fun cj j=>(aZ zr (RL.bD aq 0 j cJ (aZ zr (mv ag (aZ zr (mv (vi ad.2) (aZ zr ?_)))))))
   obtain⟨ar,bs,hj⟩:=bd hj
   refine RL.bP 5 j dW bs fun ck j=>(aZ zr (RL.bD ar 0 j cJ (aZ zr ?_)))
   have j:=(j.sc Int aq).sc Int ar
   refine RL.build (⟨aq,ar⟩:aF) trivial rfl j [(0,vi aq),(1,vi ar)] rfl I3 rfl (fun M hs g=>by have h:=o8 M;exact cT.cons (f:=fun(x:aF) y=>{x with from_:=y}) h lj (g.sat 1 _ rfl).1 fun _ h=>cT.cons (f:=fun(x:aF) y=>{x with to:=y}) h lk (g.sat 0 _ rfl).1 fun _ h=>cT.nil h) fun bt j=>?_
   refine pP zr ?_
   have j:=j.freeze 10
   obtain⟨cl,bu,hj⟩:=bd hj
   refine RL.call zt zr I5 [an,bt] zr (aD (n7 N (i0:=10) (i1:=0) j zr zr bu) ?_)
   rintro a9 w j
   refine tP zr (aQ a9 (DP.d0 (DP.z ?_)))
   obtain rfl:=oi hj
   exact⟨rfl,a9,j.sp 12 [8,9,10,0]⟩
  rintro _ w ⟨ao,O,rfl,j⟩
  refine bM (aH (RC.region (mv (vi ad.2) (RL.gl ad.2 1 (aQ (vi (IntKind.wrap .i64 (ad.2+1))) (RL.nil ?_))))))
  obtain rfl:=oi hb
  exact⟨rfl,ao,j.sp 4 [0,1,2,3]⟩
 ·intro r _ _ _ _
  exact r.elim
 rintro ad _ w rfl ⟨ak,O,rfl,j⟩
 rw [Fo.dA] at hb
 refine aH (RC.sr (mv ak (aQ ak (RL.nt (RC.ret ?_)))))
 obtain rfl:=oi hb
 exact bX (j.pk 4 [3])
theorem q7 {p0: (List aI)} {p1: (List aI)} {res: (List aI)} (j:Holds E w V) (h0:V[i0]? =some (rd v0 p0)) (h1:V[i1]? =some (rd v1 p1)) (o:gH N p0 p1 p2=some res):
    Calls bO 96 [v0,v1,(vi p2)].toArray w (gW (fX E V res)):=by
 unfold gH at o
 refine enter Tryz.func96 zr zr ?_
 have j:=(j.dup (i0+0) h0).dup (i1+1) h1
 refine RC.sr (aQ (.slice none 0 0) (RL.ns (aQ (.slice none 0 0) (RL.ns (mv (.slice none 0 0) (mv v0 ?_))))))
 have j:=j.cO aI 59
 obtain⟨bc,aq,o⟩:=bd o
 refine RL.app 0 2 j zO aq fun al w j=>?_
 refine aQ al (RL.ns (mv al (mv v1 ?_)))
 obtain⟨bf,ar,o⟩:=bd o
 refine RL.app 0 1 j zO ar fun ai w j=>?_
 refine aQ ai (RL.ns (mv ai ?_))
 have j:=j.freeze 0
 obtain⟨ae,au,o⟩:=bd o
 refine RL.call zt zr K2 [ai] zr (aD (nv N (i0:=0) j zr au) ?_)
 rintro ab w j
 refine aQ ab (RL.ns (aQ (.slice none 0 0) (RL.nq (RC.sr (aQ (vi 1) (RL.nt ?_))))))
 obtain⟨bg,hN,o⟩:=bd o
 refine RC.iter (fun(aa: (List aL)×Int) U w=>∃an:Value,SH E V [(0,v0),(1,v1),(2,vi p2),(8,ab),(9,an),(10,vi aa.2)] [rd v0 p0,rd v1 p1,rd ab ae,own 140 an aa.1] U w) (fun(aa: (List aL)×Int) U w=>∃ad:Value,SH E V [(9,ad)] [rd v0 p0,rd v1 p1,rd ab ae,own 140 ad aa.1] U w) (fun(r:Empty) _ _=>r.elim) hN ?_ ?_ ?_ ?_
 ·have j:=j.cO aL 140
  exact⟨(.slice none 0 0),j.sp 5 [4,3,1,0]⟩
 ·rintro aa fl _ w ⟨af,O,rfl,j⟩ o
  refine RC.seq (RC.sr (mv (vi aa.2) (mv ab (RL.bA 2 ae j ly (ic aa.2 ((ae.length:Int)) (RL.nt (dU o (fun hc o=>?_) fun hc o=>?_)))))))
  rotate_left
  ·refine RC.ex ?_
   obtain rfl:=oi o
   exact⟨rfl,af,j.sp 4 [0,1,2,3]⟩
  refine RC.ss (RC.block (RC.v5 mixed [1,1,1,1,1,1,1,1,1,1,0,0,0,0,0,0,2,1,1,1,1,1,1,2,1,2,0,2,0] [0,1,2,3,4,5,6,7,8,9,10,11,12,13,14,15,17,18,19,20,21,22,24,16,23,25,26,27,28] ?_))
  have j:=j.drew
  refine DP.e1 af zr (fun w=>RL.move af zt DP.d1) (DP.e1 ab zr (fun w=>RL.move ab zt DP.d1) (DP.e1 (vi aa.2) zr (fun w=>RL.move (vi aa.2) zt DP.d1) (DP.e1 (vi (IntKind.wrap .i64 (aa.2 - 1))) zr (fun w=>RL.gl aa.2 1 DP.d1) ?_)))
  obtain⟨ag,ax,o⟩:=bd o
  refine DP.v7 2 zr j dW ax fun bj j=>(DP.re ag 0 zr j cJ fun a92 bk j=>(DP.e1 ab zr (fun w=>RL.move ab zt DP.d1) (DP.e1 (vi aa.2) zr (fun w=>RL.move (vi aa.2) zt DP.d1) ?_)))
  obtain⟨ah,ay,o⟩:=bd o
  refine DP.v7 4 zr j dW ay fun bl j=>(DP.re ah 0 zr j cJ fun a96 bm j=>(DP.e0 zr (mv v0 (aZ zr (mv ab (aZ zr (mv (vi aa.2) (aZ zr ?_))))))))
  refine RL.gl aa.2 1 (aZ zr ?_)
  obtain⟨aj,az,o⟩:=bd o
  refine RL.bP 6 j dW az fun bn j=>(aZ zr (RL.bD aj 0 j cJ (DP.d0 (DP.e1 v1 zr (fun w=>RL.move v1 zt DP.d1) (DP.e1 ab zr (fun w=>RL.move ab zt DP.d1) (DP.e1 (vi aa.2) zr (fun w=>RL.move (vi aa.2) zt DP.d1) (DP.e1 (vi (IntKind.wrap .i64 (aa.2 - 1))) zr (fun w=>RL.gl aa.2 1 DP.d1) ?_)))))))
  obtain⟨ak,a0,o⟩:=bd o
  refine DP.v7 7 zr j dW a0 fun bo j=>(DP.re ak 0 zr j cJ fun a102 bp j=>(DP.e1 (vi p2) zr (fun w=>RL.move (vi p2) zt DP.d1) (DP.e2 zr ?_)))
  obtain⟨bq,a1,o⟩:=bd o
  refine RL.call zt zr Ik [v0,(vi aj)] zr (aD (kK N (p1:=aj) (i0:=7) j zr a1) ?_)
  rintro a2 w j
  refine DP.d2 (⟨⟨⟨zt,j.iq 6⟩,j.iq 4⟩,j.iq 1⟩) (DP.e2 zr ?_)
  obtain⟨br,a3,o⟩:=bd o
  refine RL.call zt zr Ik [v1,(vi ak)] zr (aD (kK N (p1:=ak) (i0:=9) j zr a3) ?_)
  rintro a4 w j
  refine DP.d2 (⟨⟨⟨zt,j.iq 7⟩,j.iq 5⟩,j.iq 2⟩) (DP.e2 zr ?_)
  have j:=(j.freeze 1).freeze 0
  obtain⟨a5,a6,o⟩:=bd o
  refine RL.call zt zr Lc [a2,a4,(vi p2)] zr (aD (th N (p2:=p2) (i0:=1) (i1:=0) j zr zr a6) ?_)
  rintro a7 w j
  refine DP.d2 (⟨⟨⟨zt,j.iq 8⟩,j.iq 6⟩,j.iq 3⟩) (DP.e0 zr ?_)
  have j:=((j.sc Int ag).sc Int ah).freeze 2
  refine RL.build (⟨ag,ah,a5⟩:aL) trivial rfl j [(0,vi ag),(1,vi ah),(2,a7)] rfl I6 rfl (fun M hs g=>by have h:=o7 M;exact cT.cons (f:=fun(x:aL) y=>{x with from_:=y}) h nW (g.sat 1 _ rfl).1 fun _ h=>cT.cons (f:=fun(x:aL) y=>{x with to:=y}) h ln (g.sat 0 _ rfl).1 fun _ h=>cT.cons (f:=fun(x:aL) y=>{x with iZ:=y}) h nX (g.sat 2 _ rfl).1 fun _ h=>cT.nil h) fun a8 j=>?_
  refine pP zr ?_
  have j:=j.pull 16
  obtain⟨bs,a9,o⟩:=bd o
  refine RL.call zt zr K7 [af,a8] zr (aD (ny N (i1:=0) j zr a9) ?_)
  rintro ao w j
  refine DP.d2 (⟨⟨⟨zt,j.iq 12⟩,j.iq 10⟩,j.iq 7⟩) (DP.e0 zr (aQ ao (DP.d0 ?_)))
  have j:=j.pl 18 [0,1,2,3,4,5,6,8,9,11,13,14,15,16,17]
  refine DP.z (bM (aH (RC.region (mv (vi aa.2) (RL.gl aa.2 1 (aQ (vi (IntKind.wrap .i64 (aa.2+1))) (RL.nil ?_)))))))
  obtain rfl:=oi o
  exact⟨rfl,ao,j.sp 15 [11,12,13,0]⟩
 ·intro r _ _ _ _
  exact r.elim
 rintro aa _ w rfl ⟨ad,O,rfl,j⟩
 rw [Fo.dA] at o
 refine aH (RC.sr (mv ad ?_))
 have j:=j.freeze 3
 obtain⟨bt,ba,o⟩:=bd o
 refine RL.call zt zr I8 [ad] zr (aD (oM N (i0:=3) j zr ba) ?_)
 rintro bb w j
 refine aQ bb (RL.nt (RC.ret ?_))
 obtain rfl:=oi o
 exact bX (j.pk 5 [0])
theorem rK {p0: (List aI)} {p1: (List aI)} {res: (List aI)} (j:Holds E w V) (h0:V[i0]? =some (rd v0 p0)) (h1:V[i1]? =some (rd v1 p1)) (o:kj N p0 p1=some res):
    Calls bO 60 [v0,v1].toArray w (gW (fX E V res)):=by
 unfold kj at o
 refine enter Tryz.func60 zr zr ?_
 have j:=(j.dup (i0+0) h0).dup (i1+1) h1
 refine RC.sr (aQ (.slice none 0 0) (RL.ns (mv v0 (mv v1 ?_))))
 obtain⟨ad,aa,o⟩:=bd o
 refine RL.call zt zr MI [v0,v1,(vi 3)] zr (aD (q7 N (p2:=3) (i0:=1) (i1:=0) j zr zr aa) ?_)
 rintro ab w j
 refine aQ ab (RL.nt (RC.ret ?_))
 obtain rfl:=oi o
 exact bX (j.pk 3 [0])
theorem mC {p0:k7} {res: (List aI)} (j:Holds E w V) (h0:V[i0]? =some (rd v0 p0)) (o:gm N p0 p1=some res):
    Calls bO 27 [v0,(vi p1)].toArray w (gW (fX E V res)):=by
 unfold gm at o
 refine enter Tryz.func27 zr zr ?_
 have j:=j.dup (i0+0) h0
 refine RC.sr (RL.dJ 0 v0 j zr fun ad w j=>?_)
 have j:=j.lR (i:=0) rfl
 refine aQ (.slice none 0 0) (RL.ns (aQ (.slice none 0 0) (RL.nq (RC.sr (aQ (vi 0) (RL.nt ?_))))))
 obtain⟨a8,hN,o⟩:=bd o
 refine RC.iter (fun(aa: (List aI)×Int) U w=>∃aj:Value,SH E V [(1,vi p1),(2,vp ad 0),(5,aj),(6,vi aa.2)] [pt (vp ad 0) p0,own 59 aj aa.1] U w) (fun(aa: (List aI)×Int) U w=>∃ae:Value,SH E V [(1,vi p1),(2,vp ad 0),(5,ae)] [pt (vp ad 0) p0,own 59 ae aa.1] U w) (fun(r:Empty) _ _=>r.elim) hN ?_ ?_ ?_ ?_
 ·have j:=j.cO aI 59
  exact⟨(.slice none 0 0),j.sp 3 [1,0]⟩
 ·rintro aa fl _ w ⟨ag,O,rfl,j⟩ o
  refine RC.seq (RC.sr (mv (vi aa.2) (RL.dX 0 j zr gK gj fun ba j=>(RL.bL 0 p0.aM j mZ fun bb j=>(RL.bA 0 p0.aM j um (ic aa.2 ((p0.aM.length:Int)) (RL.nt (dU o (fun hc o=>?_) fun hc o=>?_))))))))
  rotate_left
  ·refine RC.ex ?_
   obtain rfl:=oi o
   exact⟨rfl,ag,j.sp 4 [2,3]⟩
  refine RC.ss (RC.bs (RL.dX 2 j zr gK gj fun bc j=>(RL.bL 0 p0.aM j mZ fun bf j=>(mv (vi aa.2) ?_))))
  obtain⟨an,ao,o⟩:=bd o
  refine RL.bP 0 j pE ao fun bg j=>(RL.bL 0 an j lE fun aq j=>(mv (vi p1) ?_))
  obtain⟨bh,ar,o⟩:=bd o
  refine RL.call zt zr Il [aq,(vi p1)] zr (aD (jv N (p1:=p1) (i0:=0) j zr ar) ?_)
  rintro _ w ⟨rfl,j⟩
  refine RL.nt ?_
  obtain⟨ai,hj,o⟩:=bd o
  refine RC.jn (fun(ai: (List aI)) U w=>∃af:Value,SH E V [(1,vi p1),(2,vp ad 0),(5,af),(6,vi aa.2)] [pt (vp ad 0) p0,own 59 af ai] U w) ai ?_ ?_
  ·refine dU hj (fun hc hj=>?_) fun hc hj=>?_
   rotate_left
   ·refine RC.skip ?_
    obtain rfl:=oi hj
    exact⟨rfl,ag,j.sp 8 [6,7]⟩
   refine RC.region (mv ag (RL.dX 6 j zr gK gj fun bj j=>(RL.bL 0 p0.aM j mZ fun bk j=>(mv (vi aa.2) ?_))))
   obtain⟨au,av,hj⟩:=bd hj
   refine RL.bP 0 j pE av fun bl j=>(RL.bL 0 au j lE fun aw j=>?_)
   obtain⟨ax,ay,hj⟩:=bd hj
   refine RL.call zt zr FV [aw] zr (aD (fG N (i0:=0) j zr ay) ?_)
   rintro az w j
   refine RL.dR ([ax]: (List aI)) j [az] jk oA (fun M hs g=>⟨(g.sat 0 _ zr).1,zt⟩) fun bm w j=>?_
   have j:=j.freeze 0
   obtain⟨bn,a0,hj⟩:=bd hj
   refine RL.app 13 0 j zO a0 fun ak w j=>?_
   refine aQ ak (RL.nil ?_)
   obtain rfl:=oi hj
   exact⟨rfl,ak,j.sp 14 [12,13]⟩
  rintro _ w ⟨af,O,rfl,j⟩
  refine bM (aH (RC.region (mv (vi aa.2) (RL.gl aa.2 1 (aQ (vi (IntKind.wrap .i64 (aa.2+1))) (RL.nil ?_))))))
  obtain rfl:=oi o
  exact⟨rfl,af,j.sp 2 [0,1]⟩
 ·intro r _ _ _ _
  exact r.elim
 rintro aa _ w rfl ⟨ae,O,rfl,j⟩
 rw [Fo.dA] at o
 refine aH (RC.seq (RC.v5 mixed [1,1,1,1,1,0,2,2,0] [0,1,2,3,4,5,6,7,8] ?_))
 have j:=j.drew
 refine DP.B5 0 zr zt j zr mx jc fun bo j=>(DP.zg p0.aJ 0 zr zt j pB fun bp a131 bq j=>(DP.e1 (vi p1) zr (fun w=>RL.move (vi p1) zt DP.d1) ?_))
 obtain⟨a1,a2,o⟩:=bd o
 refine DP.v7 1 zr j uk a2 fun br j=>(DP.zg a1 0 zr zt j tR fun a3 a136 bt j=>(DP.e0 zr (mv ae (pP zr ?_))))
 have j:=j.freeze 7
 obtain⟨bu,a4,o⟩:=bd o
 refine RL.call zt zr JO [ae] zr (aD (ke N (i0:=7) j zr a4) ?_)
 rintro a5 w j
 refine DP.d2 (⟨⟨zt,j.iq 4⟩,j.iq 1⟩) (DP.e2 zr ?_)
 have j:=j.freeze 0
 obtain⟨bw,a6,o⟩:=bd o
 refine RL.call zt zr MJ [a3,a5] zr (aD (rK N (i0:=2) (i1:=0) j zr zr a6) ?_)
 rintro a7 w j
 refine DP.d2 (⟨⟨zt,j.iq 5⟩,j.iq 2⟩) (DP.e0 zr (aQ a7 (DP.d0 ?_)))
 have j:=j.pl 10 [0,1,3,4,6,7,8,9]
 refine DP.z (aH (RC.ret ?_))
 obtain rfl:=oi o
 exact bX (j.pk 8 [0])
theorem ti {p0 p1:aI} {res:Bool} (j:Holds E w V) (h0:V[i0]? =some (rd v0 p0)) (h1:V[i1]? =some (rd v1 p1)) (o:iW N p0 p1=some res):
    Calls bO 62 [v0,v1].toArray w (gW (aV E V res)):=by
 unfold iW at o
 refine enter Tryz.func62 zr zr ?_
 have j:=(j.dup (i0+0) h0).dup (i1+1) h1
 refine RC.sr (RL.dJ 1 v0 j zr fun aa w j=>?_)
 refine RL.dJ 1 v1 j zr fun ab w j=>?_
 refine aQ (vb false) (RL.ns (RL.aX zr jl (RL.aN 1 j zr eE cJ (RL.aX zr jl (RL.aN 0 j zr eE cJ (RL.min p0.X1 p1.X1 (RL.aX zr ir (RL.aN 1 j zr dL cJ ?_))))))))
 refine RL.aX zr ir (RL.aN 0 j zr dL cJ (RL.max p0.X0 p1.X0 (RL.gl (if p1.X1<p0.X1 then p1.X1 else p0.X1) (if p0.X0<p1.X0 then p1.X0 else p0.X0) (aQ (vi (IntKind.wrap .i64 ((if p1.X1<p0.X1 then p1.X1 else p0.X1) - (if p0.X0<p1.X0 then p1.X0 else p0.X0)))) (RL.ns (RL.aX zr kq (RL.aN 1 j zr fF cJ (RL.aX zr kq ?_))))))))
 refine RL.aN 0 j zr fF cJ (RL.min p0.Y1 p1.Y1 (RL.aX zr g8 (RL.aN 1 j zr dF cJ (RL.aX zr g8 (RL.aN 0 j zr dF cJ (RL.max p0.Y0 p1.Y0 (RL.gl (if p1.Y1<p0.Y1 then p1.Y1 else p0.Y1) (if p0.Y0<p1.Y0 then p1.Y0 else p0.Y0) (aQ (vi (IntKind.wrap .i64 ((if p1.Y1<p0.Y1 then p1.Y1 else p0.Y1) - (if p0.Y0<p1.Y0 then p1.Y0 else p0.Y0)))) ?_))))))))
 refine RL.ns (mv (vi (IntKind.wrap .i64 ((if p1.X1<p0.X1 then p1.X1 else p0.X1) - (if p0.X0<p1.X0 then p1.X0 else p0.X0)))) (ic ((IntKind.wrap .i64 ((if p1.X1<p0.X1 then p1.X1 else p0.X1) - (if p0.X0<p1.X0 then p1.X0 else p0.X0)))) 0 (mv (vb (decide ((IntKind.wrap .i64 ((if p1.X1<p0.X1 then p1.X1 else p0.X1) - (if p0.X0<p1.X0 then p1.X0 else p0.X0)))>0))) (RL.gs true (decide ((IntKind.wrap .i64 ((if p1.X1<p0.X1 then p1.X1 else p0.X1) - (if p0.X0<p1.X0 then p1.X0 else p0.X0)))>0)) (vi (IntKind.wrap .i64 ((if p1.Y1<p0.Y1 then p1.Y1 else p0.Y1) - (if p0.Y0<p1.Y0 then p1.Y0 else p0.Y0)))) rfl rfl rfl cH (RL.gs true (decide ((IntKind.wrap .i64 ((if p1.X1<p0.X1 then p1.X1 else p0.X1) - (if p0.X0<p1.X0 then p1.X0 else p0.X0)))>0)) (vb (decide ((IntKind.wrap .i64 ((if p1.Y1<p0.Y1 then p1.Y1 else p0.Y1) - (if p0.Y0<p1.Y0 then p1.Y0 else p0.Y0)))>=0))) rfl rfl rfl (dI .geq .i64 (IntKind.wrap .i64 ((if p1.Y1<p0.Y1 then p1.Y1 else p0.Y1) - (if p0.Y0<p1.Y0 then p1.Y0 else p0.Y0))) 0 rfl (fun h=>by exact(cK h:cv (true&&((decide ((IntKind.wrap .i64 ((if p1.X1<p0.X1 then p1.X1 else p0.X1) - (if p0.X0<p1.X0 then p1.X0 else p0.X0)))>0))==true)) (vi (IntKind.wrap .i64 ((if p1.Y1<p0.Y1 then p1.Y1 else p0.Y1) - (if p0.Y0<p1.Y0 then p1.Y0 else p0.Y0))))= (vi (IntKind.wrap .i64 ((if p1.Y1<p0.Y1 then p1.Y1 else p0.Y1) - (if p0.Y0<p1.Y0 then p1.Y0 else p0.Y0)))))) (fun _=>rfl) rfl) (RL.pick (decide ((IntKind.wrap .i64 ((if p1.X1<p0.X1 then p1.X1 else p0.X1) - (if p0.X0<p1.X0 then p1.X0 else p0.X0)))>0)) (vb ((decide ((IntKind.wrap .i64 ((if p1.X1<p0.X1 then p1.X1 else p0.X1) - (if p0.X0<p1.X0 then p1.X0 else p0.X0)))>0))&&(decide ((IntKind.wrap .i64 ((if p1.Y1<p0.Y1 then p1.Y1 else p0.Y1) - (if p0.Y0<p1.Y0 then p1.Y0 else p0.Y0)))>=0)))) (gr true rfl) (mv (vb ((decide ((IntKind.wrap .i64 ((if p1.X1<p0.X1 then p1.X1 else p0.X1) - (if p0.X0<p1.X0 then p1.X0 else p0.X0)))>0))&&(decide ((IntKind.wrap .i64 ((if p1.Y1<p0.Y1 then p1.Y1 else p0.Y1) - (if p0.Y0<p1.Y0 then p1.Y0 else p0.Y0)))>=0)))) (RL.gs true ((decide ((IntKind.wrap .i64 ((if p1.X1<p0.X1 then p1.X1 else p0.X1) - (if p0.X0<p1.X0 then p1.X0 else p0.X0)))>0))&&(decide ((IntKind.wrap .i64 ((if p1.Y1<p0.Y1 then p1.Y1 else p0.Y1) - (if p0.Y0<p1.Y0 then p1.Y0 else p0.Y0)))>=0))) (vi (IntKind.wrap .i64 ((if p1.X1<p0.X1 then p1.X1 else p0.X1) - (if p0.X0<p1.X0 then p1.X0 else p0.X0)))) rfl rfl rfl cH ?_))))))))
 refine RL.gs true ((decide ((IntKind.wrap .i64 ((if p1.X1<p0.X1 then p1.X1 else p0.X1) - (if p0.X0<p1.X0 then p1.X0 else p0.X0)))>0))&&(decide ((IntKind.wrap .i64 ((if p1.Y1<p0.Y1 then p1.Y1 else p0.Y1) - (if p0.Y0<p1.Y0 then p1.Y0 else p0.Y0)))>=0))) (vb (decide ((IntKind.wrap .i64 ((if p1.X1<p0.X1 then p1.X1 else p0.X1) - (if p0.X0<p1.X0 then p1.X0 else p0.X0)))>=0))) rfl rfl rfl (dI .geq .i64 (IntKind.wrap .i64 ((if p1.X1<p0.X1 then p1.X1 else p0.X1) - (if p0.X0<p1.X0 then p1.X0 else p0.X0))) 0 rfl (fun h=>by exact(cK h:cv (true&&(((decide ((IntKind.wrap .i64 ((if p1.X1<p0.X1 then p1.X1 else p0.X1) - (if p0.X0<p1.X0 then p1.X0 else p0.X0)))>0))&&(decide ((IntKind.wrap .i64 ((if p1.Y1<p0.Y1 then p1.Y1 else p0.Y1) - (if p0.Y0<p1.Y0 then p1.Y0 else p0.Y0)))>=0)))==false)) (vi (IntKind.wrap .i64 ((if p1.X1<p0.X1 then p1.X1 else p0.X1) - (if p0.X0<p1.X0 then p1.X0 else p0.X0))))= (vi (IntKind.wrap .i64 ((if p1.X1<p0.X1 then p1.X1 else p0.X1) - (if p0.X0<p1.X0 then p1.X0 else p0.X0)))))) (fun _=>rfl) rfl) (RL.gs true ((decide ((IntKind.wrap .i64 ((if p1.X1<p0.X1 then p1.X1 else p0.X1) - (if p0.X0<p1.X0 then p1.X0 else p0.X0)))>0))&&(decide ((IntKind.wrap .i64 ((if p1.Y1<p0.Y1 then p1.Y1 else p0.Y1) - (if p0.Y0<p1.Y0 then p1.Y0 else p0.Y0)))>=0))) (vb (decide ((IntKind.wrap .i64 ((if p1.X1<p0.X1 then p1.X1 else p0.X1) - (if p0.X0<p1.X0 then p1.X0 else p0.X0)))>=0))) rfl rfl rfl (cH (hx:=fun h=>by exact(cK h:cv (true&&(((decide ((IntKind.wrap .i64 ((if p1.X1<p0.X1 then p1.X1 else p0.X1) - (if p0.X0<p1.X0 then p1.X0 else p0.X0)))>0))&&(decide ((IntKind.wrap .i64 ((if p1.Y1<p0.Y1 then p1.Y1 else p0.Y1) - (if p0.Y0<p1.Y0 then p1.Y0 else p0.Y0)))>=0)))==false)) (vb (decide ((IntKind.wrap .i64 ((if p1.X1<p0.X1 then p1.X1 else p0.X1) - (if p0.X0<p1.X0 then p1.X0 else p0.X0)))>=0)))= (vb (decide ((IntKind.wrap .i64 ((if p1.X1<p0.X1 then p1.X1 else p0.X1) - (if p0.X0<p1.X0 then p1.X0 else p0.X0)))>=0)))))) (RL.gs (true&&(((decide ((IntKind.wrap .i64 ((if p1.X1<p0.X1 then p1.X1 else p0.X1) - (if p0.X0<p1.X0 then p1.X0 else p0.X0)))>0))&&(decide ((IntKind.wrap .i64 ((if p1.Y1<p0.Y1 then p1.Y1 else p0.Y1) - (if p0.Y0<p1.Y0 then p1.Y0 else p0.Y0)))>=0)))==false)) (decide ((IntKind.wrap .i64 ((if p1.X1<p0.X1 then p1.X1 else p0.X1) - (if p0.X0<p1.X0 then p1.X0 else p0.X0)))>=0)) (vi (IntKind.wrap .i64 ((if p1.Y1<p0.Y1 then p1.Y1 else p0.Y1) - (if p0.Y0<p1.Y0 then p1.Y0 else p0.Y0)))) rfl rfl rfl cH (RL.gs (true&&(((decide ((IntKind.wrap .i64 ((if p1.X1<p0.X1 then p1.X1 else p0.X1) - (if p0.X0<p1.X0 then p1.X0 else p0.X0)))>0))&&(decide ((IntKind.wrap .i64 ((if p1.Y1<p0.Y1 then p1.Y1 else p0.Y1) - (if p0.Y0<p1.Y0 then p1.Y0 else p0.Y0)))>=0)))==false)) (decide ((IntKind.wrap .i64 ((if p1.X1<p0.X1 then p1.X1 else p0.X1) - (if p0.X0<p1.X0 then p1.X0 else p0.X0)))>=0)) (vb (decide ((IntKind.wrap .i64 ((if p1.Y1<p0.Y1 then p1.Y1 else p0.Y1) - (if p0.Y0<p1.Y0 then p1.Y0 else p0.Y0)))>0))) rfl rfl rfl (dI .gtr .i64 (IntKind.wrap .i64 ((if p1.Y1<p0.Y1 then p1.Y1 else p0.Y1) - (if p0.Y0<p1.Y0 then p1.Y0 else p0.Y0))) 0 rfl (fun h=>by exact(cK h:cv ((true&&(((decide ((IntKind.wrap .i64 ((if p1.X1<p0.X1 then p1.X1 else p0.X1) - (if p0.X0<p1.X0 then p1.X0 else p0.X0)))>0))&&(decide ((IntKind.wrap .i64 ((if p1.Y1<p0.Y1 then p1.Y1 else p0.Y1) - (if p0.Y0<p1.Y0 then p1.Y0 else p0.Y0)))>=0)))==false))&&((decide ((IntKind.wrap .i64 ((if p1.X1<p0.X1 then p1.X1 else p0.X1) - (if p0.X0<p1.X0 then p1.X0 else p0.X0)))>=0))==true)) (vi (IntKind.wrap .i64 ((if p1.Y1<p0.Y1 then p1.Y1 else p0.Y1) - (if p0.Y0<p1.Y0 then p1.Y0 else p0.Y0))))= (vi (IntKind.wrap .i64 ((if p1.Y1<p0.Y1 then p1.Y1 else p0.Y1) - (if p0.Y0<p1.Y0 then p1.Y0 else p0.Y0)))))) (fun _=>rfl) rfl) (RL.gs true ((decide ((IntKind.wrap .i64 ((if p1.X1<p0.X1 then p1.X1 else p0.X1) - (if p0.X0<p1.X0 then p1.X0 else p0.X0)))>0))&&(decide ((IntKind.wrap .i64 ((if p1.Y1<p0.Y1 then p1.Y1 else p0.Y1) - (if p0.Y0<p1.Y0 then p1.Y0 else p0.Y0)))>=0))) (vb ((decide ((IntKind.wrap .i64 ((if p1.X1<p0.X1 then p1.X1 else p0.X1) - (if p0.X0<p1.X0 then p1.X0 else p0.X0)))>=0))&&(decide ((IntKind.wrap .i64 ((if p1.Y1<p0.Y1 then p1.Y1 else p0.Y1) - (if p0.Y0<p1.Y0 then p1.Y0 else p0.Y0)))>0)))) rfl rfl rfl (kE (decide ((IntKind.wrap .i64 ((if p1.X1<p0.X1 then p1.X1 else p0.X1) - (if p0.X0<p1.X0 then p1.X0 else p0.X0)))>=0)) rfl (fun h=>by exact(cK h:cv (true&&(((decide ((IntKind.wrap .i64 ((if p1.X1<p0.X1 then p1.X1 else p0.X1) - (if p0.X0<p1.X0 then p1.X0 else p0.X0)))>0))&&(decide ((IntKind.wrap .i64 ((if p1.Y1<p0.Y1 then p1.Y1 else p0.Y1) - (if p0.Y0<p1.Y0 then p1.Y0 else p0.Y0)))>=0)))==false)) (vb (decide ((IntKind.wrap .i64 ((if p1.X1<p0.X1 then p1.X1 else p0.X1) - (if p0.X0<p1.X0 then p1.X0 else p0.X0)))>=0)))= (vb (decide ((IntKind.wrap .i64 ((if p1.X1<p0.X1 then p1.X1 else p0.X1) - (if p0.X0<p1.X0 then p1.X0 else p0.X0)))>=0))))) (fun h=>by exact gr (true&&(((decide ((IntKind.wrap .i64 ((if p1.X1<p0.X1 then p1.X1 else p0.X1) - (if p0.X0<p1.X0 then p1.X0 else p0.X0)))>0))&&(decide ((IntKind.wrap .i64 ((if p1.Y1<p0.Y1 then p1.Y1 else p0.Y1) - (if p0.Y0<p1.Y0 then p1.Y0 else p0.Y0)))>=0)))==false)) h)) (RL.pick ((decide ((IntKind.wrap .i64 ((if p1.X1<p0.X1 then p1.X1 else p0.X1) - (if p0.X0<p1.X0 then p1.X0 else p0.X0)))>0))&&(decide ((IntKind.wrap .i64 ((if p1.Y1<p0.Y1 then p1.Y1 else p0.Y1) - (if p0.Y0<p1.Y0 then p1.Y0 else p0.Y0)))>=0))) (vb (((decide ((IntKind.wrap .i64 ((if p1.X1<p0.X1 then p1.X1 else p0.X1) - (if p0.X0<p1.X0 then p1.X0 else p0.X0)))>0))&&(decide ((IntKind.wrap .i64 ((if p1.Y1<p0.Y1 then p1.Y1 else p0.Y1) - (if p0.Y0<p1.Y0 then p1.Y0 else p0.Y0)))>=0)))||((decide ((IntKind.wrap .i64 ((if p1.X1<p0.X1 then p1.X1 else p0.X1) - (if p0.X0<p1.X0 then p1.X0 else p0.X0)))>=0))&&(decide ((IntKind.wrap .i64 ((if p1.Y1<p0.Y1 then p1.Y1 else p0.Y1) - (if p0.Y0<p1.Y0 then p1.Y0 else p0.Y0)))>0))))) (nR true) (aQ (vb (((decide ((IntKind.wrap .i64 ((if p1.X1<p0.X1 then p1.X1 else p0.X1) - (if p0.X0<p1.X0 then p1.X0 else p0.X0)))>0))&&(decide ((IntKind.wrap .i64 ((if p1.Y1<p0.Y1 then p1.Y1 else p0.Y1) - (if p0.Y0<p1.Y0 then p1.Y0 else p0.Y0)))>=0)))||((decide ((IntKind.wrap .i64 ((if p1.X1<p0.X1 then p1.X1 else p0.X1) - (if p0.X0<p1.X0 then p1.X0 else p0.X0)))>=0))&&(decide ((IntKind.wrap .i64 ((if p1.Y1<p0.Y1 then p1.Y1 else p0.Y1) - (if p0.Y0<p1.Y0 then p1.Y0 else p0.Y0)))>0))))) (RL.nt (RC.ret ?_))))))))
 obtain rfl:=oi o
 exact bX ⟨rfl,j.drop 4⟩
theorem sg {p0: (List (List aI))} {p1: (List aI)} {res: (List (List aI))} (j:Holds E w V) (h0:V[i0]? =some (rd v0 p0)) (h1:V[i1]? =some (rd v1 p1)) (hb:jC N p0 p1=some res):
    Calls bO 63 [v0,v1].toArray w (gW (oE E V res)):=by
 unfold jC at hb
 refine enter Tryz.func63 zr zr ?_
 have j:=(j.dup (i0+0) h0).dup (i1+1) h1
 refine RC.sr (aQ (.slice none 0 0) (RL.ns (mv v0 (RL.bA 1 p0 j qw (aQ (vi p0.length) (RL.nq ?_))))))
 obtain⟨a3,hN,hb⟩:=bd hb
 refine RC.iter (fun(ab:Int)=>SH E V [(0,v0),(1,v1),(5,vi ab)] [rd v0 p0,rd v1 p1]) (fun(ab:Int)=>SH E V [(0,v0),(1,v1),(5,vi ab)] [rd v0 p0,rd v1 p1]) (fun(r:Empty) _ _=>r.elim) hN ?_ ?_ ?_ ?_
 ·exact j.sp 2 [1,0]
 ·rintro ab fl _ w ⟨O,rfl,j⟩ hb
  refine RC.seq (RC.seq ?_)
  obtain⟨ae,hj,hb⟩:=bd hb
  refine RC.jn (fun(ae:Bool)=>SH E V [(0,v0),(1,v1),(5,vi ab),(23,vb ae)] [rd v0 p0,rd v1 p1]) ae ?_ ?_
  ·refine RC.v5 mixed [0,0,0,0,0,0,0,0,0,0,0,0,0,2,0] [0,1,2,3,4,5,6,7,8,9,10,11,12,13,14] ?_
   have j:=j.drew
   refine DP.e0 zr (mv (vi ab) (aZ zr (ic ab 0 (aZ zr (mv (vb (decide (ab>0))) (DP.d0 (fC hj (fun o hj=>?_) fun o hj=>?_)))))))
   rotate_left
   ·refine DP.e0 zr (bG o (aZ zr (bG o (aZ zr (bG o (aZ zr (bG o (aZ zr ?_))))))))
    refine bG o (aZ zr (bG o (aZ zr (bG o (aZ zr (bG o (aZ zr (bG o ?_))))))))
    refine aZ zr (bG o (pP zr (bG o (tP zr (fL o (vb false) (DP.d0 (DP.z ?_)))))))
    obtain rfl:=oi hj
    exact⟨rfl,j.sp 2 [0,1]⟩
   refine DP.e0 zr (RL.move v1 (cg o) (aZ zr ?_))
   obtain⟨ai,aj,hj⟩:=bd hj
   refine RL.bP (hg:=(cg o)) 1 j jk aj fun a5 j=>(aZ zr (RL.bL (hg:=(cg o)) 0 ai j iF fun ak j=>(aZ zr (RL.move v0 (cg o) (aZ zr (RL.move (vi ab) (cg o) (aZ zr (RL.gl (hg:=(cg o)) ab 1 ?_))))))))
   refine aZ zr ?_
   obtain⟨al,an,hj⟩:=bd hj
   refine RL.bP (hg:=(cg o)) 2 j uk an fun a6 j=>(aZ zr (RL.bL (hg:=(cg o)) 0 al j tR fun a7 j=>(aZ zr ?_)))
   obtain⟨ao,aq,hj⟩:=bd hj
   refine RL.bP (hg:=(cg o)) 0 j jk aq fun a8 j=>(aZ zr (RL.bL (hg:=(cg o)) 0 ao j iF fun ar j=>(pP zr ?_)))
   obtain⟨au,av,hj⟩:=bd hj
   refine RL.call (cg o) zr K1 [ak,ar] zr (aD (n0 N (i0:=4) (i1:=0) j zr zr av) ?_)
   rintro _ w ⟨rfl,j⟩
   refine tP zr (fL o (vb au) (DP.d0 (DP.z ?_)))
   obtain rfl:=oi hj
   exact⟨rfl,j.sp 8 [6,7]⟩
  rintro _ w ⟨O,rfl,j⟩
  refine aH (dU hb (fun hc hb=>?_) fun hc hb=>?_)
  rotate_left
  ·refine RC.ex ?_
   obtain rfl:=oi hb
   exact⟨rfl,j.sp 2 [0,1]⟩
  refine RC.sn (RC.block (RC.region (mv (vi ab) (RL.gl ab 1 (aQ (vi (IntKind.wrap .i64 (ab - 1))) (RL.nil (bM ?_)))))))
  obtain rfl:=oi hb
  exact⟨rfl,j.sp 2 [0,1]⟩
 ·intro r _ _ _ _
  exact r.elim
 rintro ab _ w rfl ⟨O,rfl,j⟩
 rw [Fo.dA] at hb
 refine aH (RC.sr (aQ (.slice none 0 0) (RL.ns (mv (.slice none 0 0) (mv v0 (mv (vi ab) ?_))))))
 obtain⟨a9,ax,hb⟩:=bd hb
 refine RL.cut (hl:= .inr ⟨rfl,zr⟩) 0 j uk (.inl zr) ax fun ba j=>?_
 have j:=j.cO (List aI) 23
 obtain⟨bb,ay,hb⟩:=bd hb
 refine RL.app 0 1 j G1 ay fun af w j=>?_
 refine aQ af (RL.ns (mv af (mv v1 (RL.dR ([p1]: (List (List aI))) j [v1] uk JE (fun M hs g=>⟨(g.sat 3 _ zr).1,zt⟩) fun bc w j=>?_))))
 have j:=j.freeze 0
 obtain⟨bf,az,hb⟩:=bd hb
 refine RL.app 1 0 j G1 az fun ag w j=>?_
 refine aQ ag (RL.ns (mv ag (mv v0 (mv (vi ab) ?_))))
 obtain⟨bg,a0,hb⟩:=bd hb
 refine RL.cut 3 j uk (.inr ⟨rfl,zr⟩) a0 fun bh j=>?_
 obtain⟨bj,a1,hb⟩:=bd hb
 refine RL.app 2 0 j G1 a1 fun a2 w j=>?_
 refine aQ a2 (RL.nt (RC.ret ?_))
 obtain rfl:=oi hb
 exact bX (j.pk 6 [2])
theorem m9 {p0: (List aI)} {res: (List (List aI))} (j:Holds E w V) (h0:V[i0]? =some (rd v0 p0)) (o:fJ N p0=some res):
    Calls bO 28 [v0].toArray w (gW (oE E V res)):=by
 unfold fJ at o
 refine enter Tryz.func28 zr zr ?_
 have j:=j.dup (i0+0) h0
 refine RC.sr (aQ (.slice none 0 0) (RL.ns (mv v0 (RL.bA 0 p0 j nc ?_))))
 obtain⟨bu,bb,o⟩:=bd o
 refine RL.mk (p0.length:Int) j Hb MK bb fun af w j=>?_
 refine aQ af (RL.ns (aQ (.slice none 0 0) (RL.nq (RC.sr (aQ (vi 0) (RL.nt ?_))))))
 obtain⟨bw,hN,o⟩:=bd o
 refine RC.iter (fun(aa: (List Bool)×(List (List aI))×Int) U w=>∃a1:Value,SH E V [(0,v0),(3,af),(4,a1),(5,vi aa.2.2)] [rd v0 p0,own 4 af aa.1,own 23 a1 aa.2.1] U w) (fun(aa: (List Bool)×(List (List aI))×Int) U w=>∃al:Value,SH E V [(4,al)] [rd v0 p0,own 4 af aa.1,own 23 al aa.2.1] U w) (fun(r:Empty) _ _=>r.elim) hN ?_ ?_ ?_ ?_
 ·have j:=j.cO (List aI) 23
  exact⟨(.slice none 0 0),j.sp 3 [2,1,0]⟩
 ·rintro aa fl _ w ⟨ah,O,rfl,j⟩ o
  refine RC.seq (RC.sr (mv (vi aa.2.2) (mv v0 (RL.bA 0 p0 j nc (ic aa.2.2 ((p0.length:Int)) (RL.nt (dU o (fun hc o=>?_) fun hc o=>?_)))))))
  rotate_left
  ·refine RC.ex ?_
   obtain rfl:=oi o
   exact⟨rfl,ah,j.sp 3 [0,1,2]⟩
  refine RC.ss (RC.block (RC.seq (RC.sr (mv af (mv (vi aa.2.2) ?_)))))
  obtain⟨bx,au,o⟩:=bd o
  refine RL.bQ 1 j zr zr vM au (RL.dQ (f:=(fun x=>x)) 1 j (jg 1 j au 0) (bF au).2.1 Fd.self AR (RL.nt (dU o (fun hc o=>?_) fun hc o=>?_)))
  ·refine RC.ex (Gw (aH (RC.region (mv (vi aa.2.2) (RL.gl aa.2.2 1 (aQ (vi (IntKind.wrap .i64 (aa.2.2+1))) (RL.nil ?_)))))))
   obtain rfl:=oi o
   exact⟨rfl,ah,j.sp 3 [0,1,2]⟩
  refine RC.sx (mv af (mv (vi aa.2.2) ?_))
  obtain⟨bz,av,o⟩:=bd o
  refine RL.bQ 1 j zr zr vM av ?_
  have j:=j.sc Bool true
  refine RL.gL (f:=(fun _ y=>y)) 2 0 j (jg 2 j av 0) (bF av).2.1 zr Fs.self AR fun w j=>?_
  refine RL.ns (mv v0 (mv (vi aa.2.2) ?_))
  obtain⟨a3,bc,o⟩:=bd o
  refine RL.bP 1 j jk bc fun b0 j=>(RL.bL 0 a3 j iF fun bf j=>(RL.dR ([a3]: (List aI)) j [bf] jk oA (fun M hs g=>⟨(g.sat 0 _ zr).1,zt⟩) fun a4 w j=>(aQ a4 (RL.nq (RC.sr (aQ (vi 0) (RL.nt ?_)))))))
  obtain⟨b1,hN,o⟩:=bd o
  refine RC.iter (fun(ag: (List Bool)×(List aI)×Int) U w=>∃a5:Value,SH E V [(0,v0),(3,af),(4,ah),(5,vi aa.2.2),(6,a5),(7,vi ag.2.2)] [rd v0 p0,own 4 af ag.1,own 23 ah aa.2.1,own 59 a5 ag.2.1] U w) (fun(ag: (List Bool)×(List aI)×Int) U w=>∃an:Value,SH E V [(0,v0),(3,af),(4,ah),(5,vi aa.2.2),(6,an)] [rd v0 p0,own 4 af ag.1,own 23 ah aa.2.1,own 59 an ag.2.1] U w) (fun(r:Empty) _ _=>r.elim) hN ?_ ?_ ?_ ?_
  ·exact⟨a4,j.sp 7 [4,5,6,0]⟩
  ·rintro ag fl _ w ⟨aw,O,rfl,j⟩ o
   refine RC.seq (RC.sr (mv (vi ag.2.2) (mv aw (RL.fS 3 ag.2.1 j nc (ic ag.2.2 ((ag.2.1.length:Int)) (RL.nt (dU o (fun hc o=>?_) fun hc o=>?_)))))))
   rotate_left
   ·refine RC.ex ?_
    obtain rfl:=oi o
    exact⟨rfl,aw,j.sp 4 [0,1,2,3]⟩
   refine RC.ss (RC.bs (aQ (vi 0) (RL.nt ?_)))
   obtain⟨b2,hN,o⟩:=bd o
   refine RC.iter (fun(ad: (List Bool)×(List aI)×Int) U w=>∃a6:Value,SH E V [(0,v0),(3,af),(4,ah),(5,vi aa.2.2),(6,a6),(7,vi ag.2.2),(8,vi ad.2.2)] [rd v0 p0,own 4 af ad.1,own 23 ah aa.2.1,own 59 a6 ad.2.1] U w) (fun(ad: (List Bool)×(List aI)×Int) U w=>∃ao:Value,SH E V [(0,v0),(3,af),(4,ah),(5,vi aa.2.2),(6,ao),(7,vi ag.2.2)] [rd v0 p0,own 4 af ad.1,own 23 ah aa.2.1,own 59 ao ad.2.1] U w) (fun(r:Empty) _ _=>r.elim) hN ?_ ?_ ?_ ?_
   ·exact⟨aw,j.sp 4 [0,1,2,3]⟩
   ·rintro ad fl _ w ⟨aj,O,rfl,j⟩ o
    refine RC.seq (RC.sr (mv (vi ad.2.2) (mv v0 (RL.bA 0 p0 j nc (ic ad.2.2 ((p0.length:Int)) (RL.nt (dU o (fun hc o=>?_) fun hc o=>?_)))))))
    rotate_left
    ·refine RC.ex ?_
     obtain rfl:=oi o
     exact⟨rfl,aj,j.sp 4 [0,1,2,3]⟩
    refine RC.ss (RC.block (RC.seq ?_))
    obtain⟨ax,hj,o⟩:=bd o
    refine RC.jn (fun(ax:Bool)=>SH E V [(0,v0),(3,af),(4,ah),(5,vi aa.2.2),(6,aj),(7,vi ag.2.2),(8,vi ad.2.2),(57,vb ax)] [rd v0 p0,own 4 af ad.1,own 23 ah aa.2.1,own 59 aj ad.2.1]) ax ?_ ?_
    ·refine RC.v5 mixed [0,0,0,0,0,0,0,0,0,0,0,0,0,0,2,0] [0,1,2,3,4,5,6,7,8,9,10,11,12,13,14,15] ?_
     have j:=j.drew
     refine DP.e0 zr (mv af (aZ zr (mv (vi ad.2.2) (aZ zr ?_))))
     obtain⟨a7,ay,hj⟩:=bd hj
     refine RL.bQ 1 j zr zr vM ay (aZ zr (RL.dQ (f:=(fun x=>x)) 1 j (jg 1 j ay 0) (bF ay).2.1 Fd.self AR (aZ zr (RL.not a7 (aZ zr (mv (vb (!a7)) (DP.d0 (fC hj (fun ae hj=>?_) fun ae hj=>?_))))))))
     rotate_left
     ·refine DP.e0 zr (bG ae (aZ zr (bG ae (aZ zr (bG ae (aZ zr (bG ae (aZ zr ?_))))))))
      refine bG ae (aZ zr (bG ae (aZ zr (bG ae (aZ zr (bG ae (pP zr (bG ae ?_))))))))
      refine tP zr (fL ae (vb false) (DP.d0 (DP.z ?_)))
      obtain rfl:=oi hj
      exact⟨rfl,j.sp 4 [0,1,2,3]⟩
     refine DP.e0 zr (RL.move aj (cg ae) (aZ zr (RL.move (vi ag.2.2) (cg ae) (aZ zr ?_))))
     obtain⟨b3,az,hj⟩:=bd hj
     refine RL.bQ (hg:=(cg ae)) 3 j zr zr jk az (aZ zr (RL.ju (hg:=(cg ae)) (f:=(fun x=>x)) 3 j (jg 3 j az 0) (bF az).2.1 Fd.self iF fun bg j=>?_))
     refine aZ zr (RL.move v0 (cg ae) (aZ zr (RL.move (vi ad.2.2) (cg ae) (aZ zr ?_))))
     obtain⟨bh,bj,hj⟩:=bd hj
     refine RL.bP (hg:=(cg ae)) 1 j jk bj fun b4 j=>(aZ zr (RL.bL (hg:=(cg ae)) 0 bh j iF fun bk j=>(pP zr ?_)))
     obtain⟨bl,bm,hj⟩:=bd hj
     refine RL.call (cg ae) zr ML [bg,bk] zr (aD (ti N (i0:=2) (i1:=0) j zr zr bm) ?_)
     rintro _ w ⟨rfl,j⟩
     refine tP zr (fL ae (vb bl) (DP.d0 (DP.z ?_)))
     obtain rfl:=oi hj
     exact⟨rfl,j.sp 7 [3,4,5,6]⟩
    rintro _ w ⟨O,rfl,j⟩
    refine aH ?_
    obtain⟨aq,hj,o⟩:=bd o
    refine RC.jn (fun(aq: (List Bool)×(List aI)) U w=>∃ar:Value,SH E V [(0,v0),(3,af),(4,ah),(5,vi aa.2.2),(6,ar),(7,vi ag.2.2),(8,vi ad.2.2)] [rd v0 p0,own 4 af aq.1,own 23 ah aa.2.1,own 59 ar aq.2] U w) aq ?_ ?_
    ·refine dU hj (fun hc hj=>?_) fun hc hj=>?_
     rotate_left
     ·refine RC.skip ?_
      obtain rfl:=oi hj
      exact⟨rfl,aj,j.sp 4 [0,1,2,3]⟩
     refine RC.sr (mv af (mv (vi ad.2.2) ?_))
     obtain⟨b5,a0,hj⟩:=bd hj
     refine RL.bQ 1 j zr zr vM a0 ?_
     have j:=j.sc Bool true
     refine RL.gL (f:=(fun _ y=>y)) 2 0 j (jg 2 j a0 0) (bF a0).2.1 zr Fs.self AR fun w j=>?_
     refine RL.nt (RC.region (mv aj (mv v0 (mv (vi ad.2.2) ?_))))
     obtain⟨a8,bn,hj⟩:=bd hj
     refine RL.bP 1 j jk bn fun b6 j=>(RL.bL 0 a8 j iF fun bo j=>(RL.dR ([a8]: (List aI)) j [bo] jk oA (fun M hs g=>⟨(g.sat 0 _ zr).1,zt⟩) fun b7 w j=>?_))
     have j:=j.freeze 0
     obtain⟨b8,bp,hj⟩:=bd hj
     refine RL.app 7 0 j zO bp fun a9 w j=>?_
     refine aQ a9 (RL.nil ?_)
     obtain rfl:=oi hj
     exact⟨rfl,a9,j.sp 8 [4,5,6,7]⟩
    rintro _ w ⟨ar,O,rfl,j⟩
    refine bM (aH (RC.region (mv (vi ad.2.2) (RL.gl ad.2.2 1 (aQ (vi (IntKind.wrap .i64 (ad.2.2+1))) (RL.nil ?_))))))
    obtain rfl:=oi o
    exact⟨rfl,ar,j.sp 4 [0,1,2,3]⟩
   ·intro r _ _ _ _
    exact r.elim
   rintro ad _ w rfl ⟨ao,O,rfl,j⟩
   rw [Fo.dA] at o
   refine bM (aH (RC.region (mv (vi ag.2.2) (RL.gl ag.2.2 1 (aQ (vi (IntKind.wrap .i64 (ag.2.2+1))) (RL.nil ?_))))))
   obtain rfl:=oi o
   exact⟨rfl,ao,j.sp 4 [0,1,2,3]⟩
  ·intro r _ _ _ _
   exact r.elim
  rintro ag _ w rfl ⟨an,O,rfl,j⟩
  rw [Fo.dA] at o
  refine aH (RC.region (mv ah (mv an ?_)))
  have j:=j.freeze 3
  obtain⟨b9,bq,o⟩:=bd o
  refine RL.call zt zr JO [an] zr (aD (ke N (i0:=3) j zr bq) ?_)
  rintro br w j
  have j:=(j.freeze 3).freeze 0
  obtain⟨ca,bt,o⟩:=bd o
  refine RL.call zt zr MM [ah,br] zr (aD (sg N (i0:=3) (i1:=0) j zr zr bt) ?_)
  rintro ba w j
  refine aQ ba (RL.nil (bM (aH (RC.region (mv (vi aa.2.2) (RL.gl aa.2.2 1 (aQ (vi (IntKind.wrap .i64 (aa.2.2+1))) (RL.nil ?_))))))))
  obtain rfl:=oi o
  exact⟨rfl,ba,j.sp 6 [2,3,0]⟩
 ·intro r _ _ _ _
  exact r.elim
 rintro aa _ w rfl ⟨al,O,rfl,j⟩
 rw [Fo.dA] at o
 refine aH (RC.sr (mv al (aQ al (RL.nt (RC.ret ?_)))))
 obtain rfl:=oi o
 exact bX (j.pk 3 [2])
end Go.Gk
