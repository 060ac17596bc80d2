/-
  Printed texts: Go functions as plain functions, and that they are. No statement of the seed is proved here.
-/
import Derived.Test.YtmmiladckdcjeadGreatDoorG1
import Derived.Test.YtmmiladckdcjeadGreatDoorG5
import Derived.Test.YtmmiladckdcjeadGreatDoorA2
set_option linter.unusedVariables false
set_option linter.unusedSimpArgs false
set_option linter.unusedSectionVars false
set_option maxRecDepth 100000
set_option maxHeartbeats 4000000
namespace Go.Gk
open Go Go.Proofs
variable (N:Nat) {E w:World} {i0 i1:Nat} {p1 p2 res:Int} {v0 v1:Value} {V:List HP}
theorem qP {p0:kH} (hw:Holds E w V) (h0:V[i0]? =some (rd v0 p0)) (hb:iH N p0 p1=some res):
    Calls bN 44 [v0,(vi p1)].toArray w (gQ (aV E V res)):=by
 unfold iH at hb
 refine enter Tryz.func44 zr zr ?_
 have hw:=hw.dup (i0+0) h0
 refine RC.sr (RL.dK 0 v0 hw zr fun aj w hw=>?_)
 refine aP (vi 0) (RL.ns (RL.aZ zr rR (RL.bG 0 hw zr oF Bj fun a1 hw=>(mv (vi p1) ?_))))
 obtain⟨j,au,hb⟩:=bd hb
 refine RL.bM 0 hw Gq au fun a2 hw=>(RL.bF 0 j hw vJ fun a3 hw=>(RL.alloc hw HB.z fun ag w hw=>?_))
 refine RL.bZ 0 hw 1 zr vJ fun w hw=>?_
 refine RL.nq (RC.seq ?_)
 obtain⟨ak,hj,hb⟩:=bd hb
 refine RC.jn (fun(ak:Bool)=>SH E V [(1,vi p1),(2,vp aj 0),(5,vp ag 0),(21,vb ak)] [bx 27 aj p0,bx 94 ag j]) ak ?_ ?_
 ·refine RC.region (RL.aZ zr uK (RL.aM 0 hw zr nY Ba ?_))
  obtain⟨an,av,hj⟩:=bd hj
  refine RL.call zt zr M9 [(str j.Part)] zr (aD (sL N (p0:=j.Part) hw av) ?_)
  rintro _ w ⟨rfl,hw⟩
  refine RL.not an (mv (vb (!an)) (fN hj (fun ae hj=>?_) fun ae hj=>?_))
  ·refine bJ ae (bJ ae (bJ ae (bJ ae (fU ae (vb true) (RL.nil ?_)))))
   obtain rfl:=oi hj
   exact⟨rfl,hw.sp 6 [4,0]⟩
  refine RL.aZ (hg:=(cg ae)) zr yl (RL.aM (hg:=(cg ae)) 0 hw zr qu Ba ?_)
  obtain⟨ao,aw,hj⟩:=bd hj
  refine RL.call (cg ae) zr LM [(str j.fG)] zr (aD (og N (p0:=j.fG) hw aw) ?_)
  rintro _ w ⟨rfl,hw⟩
  refine RL.not (hg:=(cg ae)) ao (fU ae (vb (!ao)) (RL.nil ?_))
  obtain rfl:=oi hj
  exact⟨rfl,hw.sp 6 [4,0]⟩
 rintro _ w ⟨O,rfl,hw⟩
 refine aG (dX hb (fun hc hb=>?_) fun hc hb=>?_)
 ·refine RC.sr (aP (vi 5) (RL.nt (RC.rt ?_)))
  obtain rfl:=oi hb
  exact bY ⟨rfl,hw.drop 2⟩
 refine RC.ss (RC.seq ?_)
 obtain⟨al,hj,hb⟩:=bd hb
 refine RC.jn (fun(al:Bool)=>SH E V [(1,vi p1),(2,vp aj 0),(5,vp ag 0),(35,vb al)] [bx 27 aj p0,bx 94 ag j]) al ?_ ?_
 ·refine RC.region (RL.aZ zr ym (RL.aM 1 hw zr qw cG (RL.aZ zr me (RL.bG 0 hw zr iW oQ fun a4 hw=>(RL.bC 0 p0.aJ hw oR (RL.fO (p0.aJ.length:Int) 1 ?_))))))
  obtain⟨aq,ax,hj⟩:=bd hj
  refine RL.call zt zr HN [(vi j.cK),(vi 0),(vi (IntKind.wrap .i64 ((p0.aJ.length:Int) - 1)))] zr (aD (iM N (p0:=j.cK) (p1:=0) (p2:=(IntKind.wrap .i64 ((p0.aJ.length:Int) - 1))) hw ax) ?_)
  rintro _ w ⟨rfl,hw⟩
  refine RL.not aq (mv (vb (!aq)) (fN hj (fun af hj=>?_) fun af hj=>?_))
  ·refine bJ af (bJ af (bJ af (bJ af (fU af (vb true) (RL.nil ?_)))))
   obtain rfl:=oi hj
   exact⟨rfl,hw.sp 3 [1,2]⟩
  refine RL.aZ (hg:=(cg af)) zr yn (RL.bG (hg:=(cg af)) 2 hw zr qx zm fun ay hw=>?_)
  obtain⟨ar,az,hj⟩:=bd hj
  refine RL.call (cg af) zr LL [ay] zr (aD (nE N (i0:=0) hw zr az) ?_)
  rintro _ w ⟨rfl,hw⟩
  refine RL.not (hg:=(cg af)) ar (fU af (vb (!ar)) (RL.nil ?_))
  obtain rfl:=oi hj
  exact⟨rfl,hw.sp 4 [2,3]⟩
 rintro _ w ⟨O,rfl,hw⟩
 refine aG (dX hb (fun hc hb=>?_) fun hc hb=>?_)
 ·refine RC.sr (aP (vi 1) (RL.nt (RC.rt ?_)))
  obtain rfl:=oi hb
  exact bY ⟨rfl,hw.drop 2⟩
 refine RC.ss (RC.sr (mv (vi p1) (ic p1 0 (RL.nt (dX hb (fun hc hb=>?_) fun hc hb=>?_)))))
 rotate_left
 ·refine RC.sx (aP (vi 0) (RL.nt (RC.ret ?_)))
  obtain rfl:=oi hb
  exact bY ⟨rfl,hw.drop 2⟩
 refine RC.sr (RL.aZ zr rR (RL.bG 0 hw zr oF Bj fun a5 hw=>(mv (vi p1) (RL.fO p1 1 ?_))))
 obtain⟨o,a0,hb⟩:=bd hb
 refine RL.bM 0 hw Gq a0 fun a6 hw=>(RL.bF 0 o hw vJ fun a7 hw=>(RL.alloc hw HB.z fun ai w hw=>?_))
 refine RL.bZ 0 hw 1 zr vJ fun w hw=>?_
 refine RL.ns (RL.aZ rfl uK (RL.aM 5 hw rfl nY Ba (RL.aZ rfl uK (RL.aM 0 hw rfl nY Ba (RL.EE j.Part o.Part trivial rfl rfl rfl rfl (mv (vb (j.Part.tk o.Part)) (RL.gs true (j.Part.tk o.Part) (vp ag 0) rfl rfl rfl (eC uK) (RL.gs true (j.Part.tk o.Part) (str j.Part) rfl rfl rfl (cB 5 rfl hw (fun h=>by exact(cO h:cv (true&&((j.Part.tk o.Part)==false)) (vp ag 0)= (vp ag 0))) rfl nY Ba) ?_))))))))
 refine RL.gs true (j.Part.tk o.Part) (vp ai 0) rfl rfl rfl (eC uK) (RL.gs true (j.Part.tk o.Part) (str o.Part) rfl rfl rfl (cB 0 rfl hw (fun h=>by exact(cO h:cv (true&&((j.Part.tk o.Part)==false)) (vp ai 0)= (vp ai 0))) rfl nY Ba) (RL.gs true (j.Part.tk o.Part) (vb (j.Part.tj o.Part)) rfl rfl rfl (Cb .eql j.Part o.Part rfl (fun h=>by exact(cO h:cv (true&&((j.Part.tk o.Part)==false)) (str j.Part)= (str j.Part))) (fun h=>by exact(cO h:cv (true&&((j.Part.tk o.Part)==false)) (str o.Part)= (str o.Part))) rfl) (RL.gs true (j.Part.tk o.Part) (vb (j.Part.tj o.Part)) rfl rfl rfl (cI (hx:=fun h=>by exact(cO h:cv (true&&((j.Part.tk o.Part)==false)) (vb (j.Part.tj o.Part))= (vb (j.Part.tj o.Part))))) (RL.gs (true&&((j.Part.tk o.Part)==false)) (j.Part.tj o.Part) (vp ag 1) rfl rfl rfl (eC yl) (RL.gs (true&&((j.Part.tk o.Part)==false)) (j.Part.tj o.Part) (str j.fG) rfl rfl rfl (cB 5 rfl hw (fun h=>by exact(cO h:cv ((true&&((j.Part.tk o.Part)==false))&&((j.Part.tj o.Part)==true)) (vp ag 1)= (vp ag 1))) rfl qu Ba) (RL.gs (true&&((j.Part.tk o.Part)==false)) (j.Part.tj o.Part) (vp ai 1) rfl rfl rfl (eC yl) (RL.gs (true&&((j.Part.tk o.Part)==false)) (j.Part.tj o.Part) (str o.fG) rfl rfl rfl (cB 0 rfl hw (fun h=>by exact(cO h:cv ((true&&((j.Part.tk o.Part)==false))&&((j.Part.tj o.Part)==true)) (vp ai 1)= (vp ai 1))) rfl qu Ba) (RL.gs (true&&((j.Part.tk o.Part)==false)) (j.Part.tj o.Part) (vb (j.fG.tk o.fG||j.fG.tj o.fG)) rfl rfl rfl (Cb .leq j.fG o.fG rfl (fun h=>by exact(cO h:cv ((true&&((j.Part.tk o.Part)==false))&&((j.Part.tj o.Part)==true)) (str j.fG)= (str j.fG))) (fun h=>by exact(cO h:cv ((true&&((j.Part.tk o.Part)==false))&&((j.Part.tj o.Part)==true)) (str o.fG)= (str o.fG))) rfl) ?_))))))))
 refine RL.gs true (j.Part.tk o.Part) (vb ((j.Part.tj o.Part)&&(j.fG.tk o.fG||j.fG.tj o.fG))) rfl rfl rfl (kG (j.Part.tj o.Part) rfl (fun h=>by exact(cO h:cv (true&&((j.Part.tk o.Part)==false)) (vb (j.Part.tj o.Part))= (vb (j.Part.tj o.Part)))) (fun h=>by exact gx (true&&((j.Part.tk o.Part)==false)) h)) (RL.pick (j.Part.tk o.Part) (vb ((j.Part.tk o.Part)||((j.Part.tj o.Part)&&(j.fG.tk o.fG||j.fG.tj o.fG)))) (nW true) (RL.nt (dX hb (fun hc hb=>?_) fun hc hb=>?_)))
 ·refine RC.sr (aP (vi 8) (RL.nt (RC.rt ?_)))
  obtain rfl:=oi hb
  exact bY ⟨rfl,hw.drop 6⟩
 refine RC.sx (aP (vi 0) (RL.nt (RC.ret ?_)))
 obtain rfl:=oi hb
 exact bY ⟨rfl,hw.drop 6⟩
def kj (E:World) (V:List HP) (r:Int) (U:Nat->Value) (w:World):Prop:=lS bN 115 Tryz.f21 (aV E V r) .ret U w
theorem qd {p0:kH} (j:Holds E w V) (h0:V[i0]? =some (rd v0 p0)) (o:ig N p0=some res):
    Calls bN 21 [v0].toArray w (gQ (aV E V res)):=by
 unfold ig at o
 refine enter Tryz.func21 zr zr ?_
 have j:=j.dup (i0+0) h0
 refine RC.sr (RL.dK 0 v0 j zr fun ae w j=>?_)
 refine aP (vi 0) (RL.nq (RC.sr (RL.aZ zr me (RL.bG 0 j zr iW oQ fun bg j=>(RL.bC 0 p0.aJ j oR (ic ((p0.aJ.length:Int)) 0 (RL.nt (dX o (fun hc o=>?_) fun hc o=>?_))))))))
 ·refine RC.sr (aP (vi 9) (RL.nt (RC.rt ?_)))
  obtain rfl:=oi o
  exact bY ⟨rfl,j.drop 3⟩
 refine RC.ss (RC.sr (RL.aZ zr me (RL.bG 1 j zr iW oQ fun bh j=>(RL.bC 0 p0.aJ j oR (ic ((p0.aJ.length:Int)) 16 (RL.nt (dX o (fun hc o=>?_) fun hc o=>?_)))))))
 ·refine RC.sr (aP (vi 2) (RL.nt (RC.rt ?_)))
  obtain rfl:=oi o
  exact bY ⟨rfl,j.drop 4⟩
 refine RC.sx (RL.aZ zr Cr (RL.bG 2 j zr sq q9 fun bj j=>(RL.bC 0 p0.cH j mH (aP (vi p0.cH.length) (RL.nq (RC.sr (aP (vi 0) (RL.nt ?_))))))))
 obtain⟨bk,hN,o⟩:=bd o
 refine RC.iter (fun(ad:Int×Int)=>SH E V [(1,vp ae 0),(3,vi ad.1),(4,vi ad.2)] [bx 27 ae p0]) (fun(ad:Int×Int)=>SH E V [(1,vp ae 0),(3,vi ad.1)] [bx 27 ae p0]) (kj E V) hN ?_ ?_ ?_ ?_
 ·exact j.sp 5 [3]
 ·rintro ad fl _ w ⟨O,rfl,j⟩ o
  refine RC.seq (RC.sr (mv (vi ad.2) (RL.aZ zr me (RL.bG 0 j zr iW oQ fun bl j=>(RL.bC 0 p0.aJ j oR (ic ad.2 ((p0.aJ.length:Int)) (RL.nt (dX o (fun hc o=>?_) fun hc o=>?_))))))))
  rotate_left
  ·refine RC.ex ?_
   obtain rfl:=oi o
   exact⟨rfl,j.sp 2 [1]⟩
  refine RC.ss (RC.block (RC.seq (RC.sr (RL.aZ zr me (RL.bG 1 j zr iW oQ fun bm j=>(mv (vi ad.2) ?_))))))
  obtain⟨a0,a1,o⟩:=bd o
  refine RL.bM 0 j rf a1 fun bn j=>(RL.bF 0 a0 j q9 fun a2 j=>?_)
  obtain⟨al,a3,o⟩:=bd o
  refine RL.call zt zr LK [a2] zr (aD (lV N (i0:=0) j zr a3) ?_)
  rintro _ w ⟨rfl,j⟩
  refine aP (vi al) (RL.ns (mv (vi al) (ic al 0 (RL.nt (dX o (fun hc o=>?_) fun hc o=>?_)))))
  ·refine RC.sr (mv (vi al) (aP (vi al) (RL.nt (RC.rt (oz (bQ ?_))))))
   obtain rfl:=oi o
   exact⟨rfl,bY ⟨rfl,j.drop 5⟩⟩
  refine RC.sn (RC.region (mv (vi ad.1) (RL.aZ zr me (RL.bG 4 j zr iW oQ fun bo j=>(mv (vi ad.2) ?_)))))
  obtain⟨au,a4,o⟩:=bd o
  refine RL.bM 0 j rf a4 fun bp j=>(RL.bF 0 au j q9 fun bq j=>(RL.bC 0 au j mH (RL.fO ad.1 (au.length:Int) (aP (vi (IntKind.wrap .i64 (ad.1+ (au.length:Int)))) (RL.nil (bO (aG (RC.region ?_))))))))
  refine mv (vi ad.2) (RL.fO ad.2 1 (aP (vi (IntKind.wrap .i64 (ad.2+1))) (RL.nil ?_)))
  obtain rfl:=oi o
  exact⟨rfl,j.sp 8 [7]⟩
 ·intro r U w e hK
  subst e
  refine bQ ?_
  obtain rfl:=oi o
  exact hK
 rintro ad _ w rfl ⟨O,rfl,j⟩
 rw [Fo.dB] at o
 refine aG (RC.seq (RC.sr (RL.aZ zr Cr (RL.bG 0 j zr sq q9 fun a5 j=>?_))))
 obtain⟨ao,a6,o⟩:=bd o
 refine RL.call zt zr LK [a5] zr (aD (lV N (i0:=0) j zr a6) ?_)
 rintro _ w ⟨rfl,j⟩
 refine aP (vi ao) (RL.ns (mv (vi ao) (ic ao 0 (RL.nt (dX o (fun hc o=>?_) fun hc o=>?_)))))
 ·refine RC.sr (mv (vi ao) (aP (vi ao) (RL.nt (RC.rt ?_))))
  obtain rfl:=oi o
  exact bY ⟨rfl,j.drop 2⟩
 refine RC.ss (RC.seq ?_)
 obtain⟨av,hj,o⟩:=bd o
 refine RC.jn (fun(av:Bool)=>SH E V [(1,vp ae 0),(60,vb av)] [bx 27 ae p0]) av ?_ ?_
 ·refine RC.region (mv (vi ad.1) (ic ad.1 2000 (mv (vb (decide (ad.1>2000))) (fN hj (fun ah hj=>?_) fun ah hj=>?_))))
  ·refine bJ ah (bJ ah (bJ ah (bJ ah (fU ah (vb true) (RL.nil ?_)))))
   obtain rfl:=oi hj
   exact⟨rfl,j.sp 2 [1]⟩
  refine RL.aZ (hg:=(cg ah)) zr iw (RL.bG (hg:=(cg ah)) 1 j zr gU nQ fun br j=>(RL.bC (hg:=(cg ah)) 0 p0.aO j wy (RL.ld (p0.aO.length:Int) 500 (cg ah) (fU ah (vb (decide ((p0.aO.length:Int)>500))) (RL.nil ?_)))))
  obtain rfl:=oi hj
  exact⟨rfl,j.sp 3 [2]⟩
 rintro _ w ⟨O,rfl,j⟩
 refine aG (dX o (fun hc o=>?_) fun hc o=>?_)
 ·refine RC.sr (aP (vi 2) (RL.nt (RC.rt ?_)))
  obtain rfl:=oi o
  exact bY ⟨rfl,j.drop 1⟩
 refine RC.ss (RC.sr (aP (vi 0) (RL.nt ?_)))
 obtain⟨bt,hN,o⟩:=bd o
 refine RC.iter (fun(ai:Int)=>SH E V [(1,vp ae 0),(7,vi ai)] [bx 27 ae p0]) (fun(ai:Int)=>SH E V [(1,vp ae 0)] [bx 27 ae p0]) (kj E V) hN ?_ ?_ ?_ ?_
 ·exact j.sp 1 [0]
 ·rintro ai fl _ w ⟨O,rfl,j⟩ o
  refine RC.seq (RC.sr (mv (vi ai) (RL.aZ zr iw (RL.bG 0 j zr gU nQ fun bu j=>(RL.bC 0 p0.aO j wy (ic ai ((p0.aO.length:Int)) (RL.nt (dX o (fun hc o=>?_) fun hc o=>?_))))))))
  rotate_left
  ·refine RC.ex ?_
   obtain rfl:=oi o
   exact⟨rfl,j.sp 2 [1]⟩
  refine RC.ss (RC.bs (RL.aZ zr iw (RL.bG 1 j zr gU nQ fun bw j=>(mv (vi ai) ?_))))
  obtain⟨aj,a7,o⟩:=bd o
  refine RL.bM 0 j qE a7 fun bz j=>(RL.bF 0 aj j mf fun b0 j=>(RL.alloc j EV.z fun b1 w j=>?_))
  refine RL.bZ 0 j 1 zr mf fun w j=>?_
  refine RL.nq (RC.sr (RL.bG (f:=(fun x=>x)) 0 j zr Fd.self mf fun a8 j=>?_))
  obtain⟨aq,a9,o⟩:=bd o
  refine RL.call zt zr M8 [a8] zr (aD (pP N (i0:=0) j zr a9) ?_)
  rintro _ w ⟨rfl,j⟩
  refine aP (vi aq) (RL.ns (mv (vi aq) (ic aq 0 (RL.nt (dX o (fun hc o=>?_) fun hc o=>?_)))))
  ·refine RC.sr (mv (vi aq) (aP (vi aq) (RL.nt (RC.rt (oz (bQ ?_))))))
   obtain rfl:=oi o
   exact⟨rfl,bY ⟨rfl,j.drop 7⟩⟩
  refine RC.ss ?_
  obtain⟨aw,hj,o⟩:=bd o
  refine RC.jn (fun(aw:Bool)=>SH E V [(1,vp ae 0),(7,vi ai),(97,vb aw)] [bx 27 ae p0]) aw ?_ ?_
  ·refine RC.region (RL.aZ zr pM (RL.aM 1 j zr kC cG (RL.aZ zr me (RL.bG 6 j zr iW oQ fun b2 j=>(RL.bC 0 p0.aJ j oR (RL.fO (p0.aJ.length:Int) 1 ?_))))))
   obtain⟨ay,ba,hj⟩:=bd hj
   refine RL.call zt zr HN [(vi aj.cR),(vi 0),(vi (IntKind.wrap .i64 ((p0.aJ.length:Int) - 1)))] zr (aD (iM N (p0:=aj.cR) (p1:=0) (p2:=(IntKind.wrap .i64 ((p0.aJ.length:Int) - 1))) j ba) ?_)
   rintro _ w ⟨rfl,j⟩
   refine RL.not ay (mv (vb (!ay)) (fN hj (fun ab hj=>?_) fun ab hj=>?_))
   ·refine bJ ab (bJ ab (bJ ab (bJ ab (bJ ab (bJ ab (bJ ab (bJ ab (bJ ab ?_))))))))
    refine bJ ab (fU ab (vb true) (RL.nil ?_))
    obtain rfl:=oi hj
    exact⟨rfl,j.sp 8 [7]⟩
   refine RL.aZ (hg:=(cg ab)) zr rQ (RL.aM (hg:=(cg ab)) 2 j zr l7 cG (RL.aZ (hg:=(cg ab)) zr pM (RL.aM (hg:=(cg ab)) 2 j zr kC cG (RL.aZ (hg:=(cg ab)) zr me (RL.bG (hg:=(cg ab)) 7 j zr iW oQ fun b3 j=>(RL.bC (hg:=(cg ab)) 0 p0.aJ j oR (RL.fO (hg:=(cg ab)) (p0.aJ.length:Int) 1 ?_)))))))
   obtain⟨az,bb,hj⟩:=bd hj
   refine RL.call (cg ab) zr HN [(vi aj.To),(vi aj.cR),(vi (IntKind.wrap .i64 ((p0.aJ.length:Int) - 1)))] zr (aD (iM N (p0:=aj.To) (p1:=aj.cR) (p2:=(IntKind.wrap .i64 ((p0.aJ.length:Int) - 1))) j bb) ?_)
   rintro _ w ⟨rfl,j⟩
   refine RL.not (hg:=(cg ab)) az (fU ab (vb (!az)) (RL.nil ?_))
   obtain rfl:=oi hj
   exact⟨rfl,j.sp 9 [8]⟩
  rintro _ w ⟨O,rfl,j⟩
  refine aG (dX o (fun hc o=>?_) fun hc o=>?_)
  ·refine RC.sr (aP (vi 1) (RL.nt (RC.rb (bQ ?_))))
   obtain rfl:=oi o
   exact⟨rfl,bY ⟨rfl,j.drop 1⟩⟩
  refine RC.skip (bO (aG (RC.region (mv (vi ai) (RL.fO ai 1 (aP (vi (IntKind.wrap .i64 (ai+1))) (RL.nil ?_)))))))
  obtain rfl:=oi o
  exact⟨rfl,j.sp 1 [0]⟩
 ·intro r U w e hK
  subst e
  refine bQ ?_
  obtain rfl:=oi o
  exact hK
 rintro ai _ w rfl ⟨O,rfl,j⟩
 rw [Fo.dB] at o
 refine aG (RC.seq (RC.sr (RL.aZ zr rR (RL.bG 0 j zr oF Bj fun b4 j=>(RL.bC 0 p0.bV j Gp (ic ((p0.bV.length:Int)) 1000 (RL.nt (dX o (fun hc o=>?_) fun hc o=>?_))))))))
 ·refine RC.sr (aP (vi 2) (RL.nt (RC.rt ?_)))
  obtain rfl:=oi o
  exact bY ⟨rfl,j.drop 2⟩
 refine RC.ss (RC.sr (aP (vi 0) (RL.nt ?_)))
 obtain⟨b5,hN,o⟩:=bd o
 refine RC.iter (fun(ag:Int)=>SH E V [(1,vp ae 0),(10,vi ag)] [bx 27 ae p0]) (fun(ag:Int)=>SH E V [] [bx 27 ae p0]) (kj E V) hN ?_ ?_ ?_ ?_
 ·exact j.sp 2 [1]
 ·rintro ag fl _ w ⟨O,rfl,j⟩ o
  refine RC.seq (RC.sr (mv (vi ag) (RL.aZ zr rR (RL.bG 0 j zr oF Bj fun b6 j=>(RL.bC 0 p0.bV j Gp (ic ag ((p0.bV.length:Int)) (RL.nt (dX o (fun hc o=>?_) fun hc o=>?_))))))))
  rotate_left
  ·refine RC.ex ?_
   obtain rfl:=oi o
   exact⟨rfl,j.sp 2 [1]⟩
  refine RC.ss (RC.bs (RL.bG (f:=(fun x=>x)) 1 j zr Fd.self rN fun bc j=>(mv (vi ag) ?_)))
  obtain⟨ar,bf,o⟩:=bd o
  refine RL.call zt zr Na [bc,(vi ag)] zr (aD (qP N (p1:=ag) (i0:=0) j zr bf) ?_)
  rintro _ w ⟨rfl,j⟩
  refine aP (vi ar) (RL.ns (mv (vi ar) (ic ar 0 (RL.nt (dX o (fun hc o=>?_) fun hc o=>?_)))))
  rotate_left
  ·refine RC.skip (bO (aG (RC.region (mv (vi ag) (RL.fO ag 1 (aP (vi (IntKind.wrap .i64 (ag+1))) (RL.nil ?_)))))))
   obtain rfl:=oi o
   exact⟨rfl,j.sp 3 [2]⟩
  refine RC.sr (mv (vi ar) (aP (vi ar) (RL.nt (RC.rb (bQ ?_)))))
  obtain rfl:=oi o
  exact⟨rfl,bY ⟨rfl,j.drop 3⟩⟩
 ·intro r U w e hK
  subst e
  refine bQ ?_
  obtain rfl:=oi o
  exact hK
 rintro ag _ w rfl ⟨O,rfl,j⟩
 rw [Fo.dB] at o
 refine aG (RC.sr (aP (vi 0) (RL.nt (RC.ret ?_))))
 obtain rfl:=oi o
 exact bY ⟨rfl,j.drop 1⟩
theorem sM {p0 p1:cE} {res:Bool} (j:Holds E w V) (h0:V[i0]? =some (rd v0 p0)) (h1:V[i1]? =some (rd v1 p1)) (hb:iI N p0 p1=some res):
    Calls bN 22 [v0,v1].toArray w (gQ (aU E V res)):=by
 unfold iI at hb
 refine enter Tryz.func22 zr zr ?_
 have j:=(j.dup (i0+0) h0).dup (i1+1) h1
 refine RC.sr (RL.dK 1 v0 j zr fun o w j=>?_)
 refine RL.dK 1 v1 j zr fun aa w j=>?_
 refine aP (vb false) (RL.ns (RL.aZ zr pM (RL.aM 1 j zr kC cG (RL.aZ zr rQ (RL.aM 0 j zr l7 cG (ic p0.cR p1.To (mv (vb (decide (p0.cR<=p1.To))) (RL.gs true (decide (p0.cR<=p1.To)) (vp aa 3) zr zr zr (eC pM) ?_))))))))
 refine RL.gs true (decide (p0.cR<=p1.To)) (vi p1.cR) rfl rfl rfl (cB 0 rfl j (fun h=>by exact(cO h:cv (true&&((decide (p0.cR<=p1.To))==true)) (vp aa 3)= (vp aa 3))) rfl kC cG) (RL.gs true (decide (p0.cR<=p1.To)) (vp o 4) rfl rfl rfl (eC rQ) (RL.gs true (decide (p0.cR<=p1.To)) (vi p0.To) rfl rfl rfl (cB 1 rfl j (fun h=>by exact(cO h:cv (true&&((decide (p0.cR<=p1.To))==true)) (vp o 4)= (vp o 4))) rfl l7 cG) (RL.gs true (decide (p0.cR<=p1.To)) (vb (decide (p1.cR<=p0.To))) rfl rfl rfl (dL .leq .i64 p1.cR p0.To rfl (fun h=>by exact(cO h:cv (true&&((decide (p0.cR<=p1.To))==true)) (vi p1.cR)= (vi p1.cR))) (fun h=>by exact(cO h:cv (true&&((decide (p0.cR<=p1.To))==true)) (vi p0.To)= (vi p0.To))) rfl) (RL.pick (decide (p0.cR<=p1.To)) (vb ((decide (p0.cR<=p1.To))&&(decide (p1.cR<=p0.To)))) (gx true rfl) (aP (vb ((decide (p0.cR<=p1.To))&&(decide (p1.cR<=p0.To)))) (RL.nt (RC.ret ?_)))))))
 obtain rfl:=oi hb
 exact bY ⟨rfl,j.drop 4⟩
theorem rZ {p0 p1:aI} {res:Bool} (o:Holds E w V) (h0:V[i0]? =some (rd v0 p0)) (h1:V[i1]? =some (rd v1 p1)) (hb:ga N p0 p1=some res):
    Calls bN 23 [v0,v1].toArray w (gQ (aU E V res)):=by
 unfold ga at hb
 refine enter Tryz.func23 zr zr ?_
 have o:=(o.dup (i0+0) h0).dup (i1+1) h1
 refine RC.sr (RL.dK 1 v0 o zr fun ae w o=>?_)
 refine RL.dK 1 v1 o zr fun af w o=>?_
 refine aP (vb false) (RL.nq ?_)
 obtain⟨ad,hj,hb⟩:=bd hb
 refine RC.jn (fun(ad:Bool)=>SH E V [(4,vb ad)] []) ad ?_ ?_
 ·refine RC.region (RL.aZ zr iX (RL.aM 1 o zr dY cG (RL.aZ zr iX (RL.aM 0 o zr dY cG (RL.min p0.X1 p1.X1 (RL.aZ zr gO (RL.aM 1 o zr dD cG (RL.aZ zr gO ?_))))))))
  refine RL.aM 0 o zr dD cG (RL.max p0.X0 p1.X0 (ic ((if p1.X1<p0.X1 then p1.X1 else p0.X1)) ((if p0.X0<p1.X0 then p1.X0 else p0.X0)) (mv (vb (decide ((if p1.X1<p0.X1 then p1.X1 else p0.X1)> (if p0.X0<p1.X0 then p1.X0 else p0.X0)))) (fN hj (fun j hj=>?_) fun j hj=>?_))))
  ·refine RL.aZ (hg:=(cg j)) zr jZ (RL.aM (hg:=(cg j)) 1 o zr eT cG (RL.aZ (hg:=(cg j)) zr jZ (RL.aM (hg:=(cg j)) 0 o zr eT cG (RL.min (hg:=(cg j)) p0.Y1 p1.Y1 (RL.aZ (hg:=(cg j)) zr gG (RL.aM (hg:=(cg j)) 1 o zr cZ cG (RL.aZ (hg:=(cg j)) zr gG (RL.aM (hg:=(cg j)) 0 o zr cZ cG ?_))))))))
   refine RL.max (hg:=(cg j)) p0.Y0 p1.Y0 (RL.ld (if p1.Y1<p0.Y1 then p1.Y1 else p0.Y1) (if p0.Y0<p1.Y0 then p1.Y0 else p0.Y0) (cg j) (fU j (vb (decide ((if p1.Y1<p0.Y1 then p1.Y1 else p0.Y1)> (if p0.Y0<p1.Y0 then p1.Y0 else p0.Y0)))) (aP (vb (decide ((if p1.Y1<p0.Y1 then p1.Y1 else p0.Y1)> (if p0.Y0<p1.Y0 then p1.Y0 else p0.Y0)))) (RL.nil ?_))))
   obtain rfl:=oi hj
   exact⟨rfl,o.sp 4 []⟩
  refine bJ j (bJ j (bJ j (bJ j (bJ j (bJ j (bJ j (bJ j (bJ j ?_))))))))
  refine bJ j (bJ j (fU j (vb false) (aP (vb false) (RL.nil ?_))))
  obtain rfl:=oi hj
  exact⟨rfl,o.sp 4 []⟩
 rintro _ w ⟨O,rfl,o⟩
 refine aG (RC.ret ?_)
 obtain rfl:=oi hb
 exact bY ⟨rfl,o.drop 0⟩
theorem jw {p0:cE} {res:Bool} (j:Holds E w V) (h0:V[i0]? =some (rd v0 p0)) (hb:eW N p0 p1=some res):
    Calls bN 35 [v0,(vi p1)].toArray w (gQ (aU E V res)):=by
 unfold eW at hb
 refine enter Tryz.func35 zr zr ?_
 have j:=j.dup (i0+0) h0
 refine RC.sr (RL.dK 0 v0 j zr fun o w j=>?_)
 refine aP (vb false) (RL.ns (RL.aZ zr pM (RL.aM 0 j zr kC cG (mv (vi p1) (ic p0.cR p1 (mv (vb (decide (p0.cR<=p1))) (RL.gs true (decide (p0.cR<=p1)) (vi p1) zr zr zr cI (RL.gs true (decide (p0.cR<=p1)) (vp o 4) zr zr zr (eC rQ) ?_))))))))
 refine RL.gs true (decide (p0.cR<=p1)) (vi p0.To) rfl rfl rfl (cB 0 rfl j (fun h=>by exact(cO h:cv (true&&((decide (p0.cR<=p1))==true)) (vp o 4)= (vp o 4))) rfl l7 cG) (RL.gs true (decide (p0.cR<=p1)) (vb (decide (p1<=p0.To))) rfl rfl rfl (dL .leq .i64 p1 p0.To rfl (fun h=>by exact(cO h:cv (true&&((decide (p0.cR<=p1))==true)) (vi p1)= (vi p1))) (fun h=>by exact(cO h:cv (true&&((decide (p0.cR<=p1))==true)) (vi p0.To)= (vi p0.To))) rfl) (RL.pick (decide (p0.cR<=p1)) (vb ((decide (p0.cR<=p1))&&(decide (p1<=p0.To)))) (gx true rfl) (aP (vb ((decide (p0.cR<=p1))&&(decide (p1<=p0.To)))) (RL.nt (RC.ret ?_)))))
 obtain rfl:=oi hb
 exact bY ⟨rfl,j.drop 2⟩
def tG (E:World) (V:List HP) (r:Bool) (U:Nat->Value) (w:World):Prop:=lS bN 28 Tryz.f128 (aU E V r) .ret U w
theorem ly {p0: (List aF)} {res:Bool} (j:Holds E w V) (h0:V[i0]? =some (rd v0 p0)) (o:gD N p0 p1=some res):
    Calls bN 128 [v0,(vi p1)].toArray w (gQ (aU E V res)):=by
 unfold gD at o
 refine enter Tryz.func128 zr zr ?_
 have j:=j.dup (i0+0) h0
 refine RC.sr (aP (vb false) (RL.nq (RC.sr (aP (vi 0) (RL.nt ?_)))))
 obtain⟨an,hN,o⟩:=bd o
 refine RC.iter (fun(ab:Int)=>SH E V [(0,v0),(1,vi p1),(5,vi ab)] [rd v0 p0]) (fun(ab:Int)=>SH E V [] [rd v0 p0]) (tG E V) hN ?_ ?_ ?_ ?_
 ·exact j.sp 1 [0]
 ·rintro ab fl _ w ⟨O,rfl,j⟩ o
  refine RC.seq (RC.sr (mv (vi ab) (mv v0 (RL.bC 0 p0 j v5 (ic ab ((p0.length:Int)) (RL.nt (dX o (fun hc o=>?_) fun hc o=>?_)))))))
  rotate_left
  ·refine RC.ex ?_
   obtain rfl:=oi o
   exact⟨rfl,j.sp 1 [0]⟩
  refine RC.ss (RC.block (RC.seq ?_))
  obtain⟨af,hj,o⟩:=bd o
  refine RC.jn (fun(af:Bool)=>SH E V [(0,v0),(1,vi p1),(5,vi ab),(27,vb af)] [rd v0 p0]) af ?_ ?_
  ·refine RC.region (mv v0 (mv (vi ab) ?_))
   obtain⟨ag,aj,hj⟩:=bd hj
   refine RL.bM 0 j oV aj fun aq j=>(RL.dN 0 j zr p7 eG fun ar j=>(RL.bB ag.from_ 0 j cG (mv (vi p1) (ic ag.from_ p1 (mv (vb (decide (ag.from_<=p1))) (fN hj (fun aa hj=>?_) fun aa hj=>?_))))))
   rotate_left
   ·refine bJ aa (bJ aa (bJ aa (bJ aa (bJ aa (bJ aa (bJ aa (fU aa (vb false) (RL.nil ?_))))))))
    obtain rfl:=oi hj
    exact⟨rfl,j.sp 3 [2]⟩
   refine RL.move (vi p1) (cg aa) (RL.move v0 (cg aa) (RL.move (vi ab) (cg aa) ?_))
   obtain⟨ah,ak,hj⟩:=bd hj
   refine RL.bM (hg:=(cg aa)) 2 j oV ak fun au j=>(RL.dN (hg:=(cg aa)) 0 j zr p6 eH fun av j=>(RL.bB (hg:=(cg aa)) ah.to 0 j cG (RL.ld p1 ah.to (cg aa) (fU aa (vb (decide (p1<ah.to))) (RL.nil ?_)))))
   obtain rfl:=oi hj
   exact⟨rfl,j.sp 5 [4]⟩
  rintro _ w ⟨O,rfl,j⟩
  refine aG (dX o (fun hc o=>?_) fun hc o=>?_)
  ·refine RC.sr (aP (vb true) (RL.nt (RC.rb (bQ ?_))))
   obtain rfl:=oi o
   exact⟨rfl,bY ⟨rfl,j.drop 1⟩⟩
  refine RC.skip (bO (aG (RC.region (mv (vi ab) (RL.fO ab 1 (aP (vi (IntKind.wrap .i64 (ab+1))) (RL.nil ?_)))))))
  obtain rfl:=oi o
  exact⟨rfl,j.sp 1 [0]⟩
 ·intro r U w e hK
  subst e
  refine bQ ?_
  obtain rfl:=oi o
  exact hK
 rintro ab _ w rfl ⟨O,rfl,j⟩
 rw [Fo.dB] at o
 refine aG (RC.sr (aP (vb false) (RL.nt (RC.ret ?_))))
 obtain rfl:=oi o
 exact bY ⟨rfl,j.drop 1⟩
theorem tH {p0: (List aF)} {p1: (List aF)} {res: (List aF)} (j:Holds E w V) (h0:V[i0]? =some (rd v0 p0)) (h1:V[i1]? =some (rd v1 p1)) (hb:jT N p0 p1 p2=some res):
    Calls bN 106 [v0,v1,(vi p2)].toArray w (gQ (lM E V res)):=by
 unfold jT at hb
 refine enter Tryz.func106 zr zr ?_
 have j:=(j.dup (i0+0) h0).dup (i1+1) h1
 refine RC.sr (aP (.slice none 0 0) (RL.ns (aP (.slice none 0 0) (RL.nq (RC.sr (aP (vi 0) (RL.nt ?_)))))))
 obtain⟨bw,hN,hb⟩:=bd hb
 refine RC.iter (fun(af: (List Int)×Int) U w=>∃a3:Value,SH E V [(0,v0),(1,v1),(2,vi p2),(7,a3),(8,vi af.2)] [rd v0 p0,rd v1 p1,rd a3 af.1] U w) (fun(af: (List Int)×Int) U w=>∃al:Value,SH E V [(0,v0),(1,v1),(2,vi p2),(7,al)] [rd v0 p0,rd v1 p1,rd al af.1] U w) (fun(r:Empty) _ _=>r.elim) hN ?_ ?_ ?_ ?_
 ·have j:=j.yf Int
  exact⟨(.slice none 0 0),j.sp 3 [2,1,0]⟩
 ·rintro af fl _ w ⟨au,O,rfl,j⟩ hb
  refine RC.seq (RC.sr (mv (vi af.2) (mv v0 (RL.bC 0 p0 j v5 (ic af.2 ((p0.length:Int)) (RL.nt (dX hb (fun hc hb=>?_) fun hc hb=>?_)))))))
  rotate_left
  ·refine RC.ex ?_
   obtain rfl:=oi hb
   exact⟨rfl,au,j.sp 3 [0,1,2]⟩
  refine RC.ss (RC.block (RC.vH mixed [0,0,0,0,0,0,2,1,1,1,1,1,2,0] [0,1,2,3,4,5,7,8,9,10,11,6,12,13] ?_))
  have j:=j.drew
  refine DP.e0 zr (mv au (aY zr (mv v0 (aY zr (mv (vi af.2) (aY zr ?_))))))
  obtain⟨av,ba,hb⟩:=bd hb
  refine RL.bM 0 j oV ba fun bx j=>(aY zr (RL.dN 0 j zr p7 eG fun bz j=>(aY zr (RL.bB av.from_ 0 j cG (DP.d0 (DP.e1 v0 zr (fun w=>RL.move v0 zt DP.d1) (DP.e1 (vi af.2) zr (fun w=>RL.move (vi af.2) zt DP.d1) ?_)))))))
  obtain⟨aw,bb,hb⟩:=bd hb
  refine DP.wx 2 zr j oV bb fun b0 j=>(DP.Cq 0 zr zt j zr p6 eH fun b1 j=>(DP.rA aw.to 0 zr j cG fun a68 b2 j=>(DP.e2 zr ?_)))
  obtain⟨b3,bc,hb⟩:=bd hb
  refine RL.call zt zr BP [au,(vi av.from_)] zr (aD (iL N (p1:=av.from_) (i0:=7) j zr bc) ?_)
  rintro bf w j
  refine DP.d2 (⟨zt,j.gm 1⟩) (DP.e2 zr ?_)
  obtain⟨b4,bg,hb⟩:=bd hb
  refine RL.call zt zr BP [bf,(vi aw.to)] zr (aD (iL N (p1:=aw.to) (i0:=0) j zr bg) ?_)
  rintro a5 w j
  refine DP.d2 (⟨zt,j.gm 2⟩) (DP.e0 zr (aP a5 (DP.d0 ?_)))
  have j:=j.pl 10 [0,1,3,4,5,6,7,8,9]
  refine DP.z (bO (aG (RC.region (mv (vi af.2) (RL.fO af.2 1 (aP (vi (IntKind.wrap .i64 (af.2+1))) (RL.nil ?_)))))))
  obtain rfl:=oi hb
  exact⟨rfl,a5,j.sp 9 [6,7,0]⟩
 ·intro r _ _ _ _
  exact r.elim
 rintro af _ w rfl ⟨al,O,rfl,j⟩
 rw [Fo.dB] at hb
 refine aG (RC.seq (RC.sr (aP (vi 0) (RL.nt ?_))))
 obtain⟨b5,hN,hb⟩:=bd hb
 refine RC.iter (fun(ae: (List Int)×Int) U w=>∃a6:Value,SH E V [(0,v0),(1,v1),(2,vi p2),(7,a6),(9,vi ae.2)] [rd v0 p0,rd v1 p1,rd a6 ae.1] U w) (fun(ae: (List Int)×Int) U w=>∃ag:Value,SH E V [(0,v0),(1,v1),(2,vi p2),(7,ag)] [rd v0 p0,rd v1 p1,rd ag ae.1] U w) (fun(r:Empty) _ _=>r.elim) hN ?_ ?_ ?_ ?_
 ·exact⟨al,j.sp 3 [0,1,2]⟩
 ·rintro ae fl _ w ⟨ax,O,rfl,j⟩ hb
  refine RC.seq (RC.sr (mv (vi ae.2) (mv v1 (RL.bC 1 p1 j v5 (ic ae.2 ((p1.length:Int)) (RL.nt (dX hb (fun hc hb=>?_) fun hc hb=>?_)))))))
  rotate_left
  ·refine RC.ex ?_
   obtain rfl:=oi hb
   exact⟨rfl,ax,j.sp 3 [0,1,2]⟩
  refine RC.ss (RC.block (RC.vH mixed [0,0,0,0,0,0,2,1,1,1,1,1,2,0] [0,1,2,3,4,5,7,8,9,10,11,6,12,13] ?_))
  have j:=j.drew
  refine DP.e0 zr (mv ax (aY zr (mv v1 (aY zr (mv (vi ae.2) (aY zr ?_))))))
  obtain⟨ay,bh,hb⟩:=bd hb
  refine RL.bM 1 j oV bh fun b6 j=>(aY zr (RL.dN 0 j zr p7 eG fun b7 j=>(aY zr (RL.bB ay.from_ 0 j cG (DP.d0 (DP.e1 v1 zr (fun w=>RL.move v1 zt DP.d1) (DP.e1 (vi ae.2) zr (fun w=>RL.move (vi ae.2) zt DP.d1) ?_)))))))
  obtain⟨az,bj,hb⟩:=bd hb
  refine DP.wx 3 zr j oV bj fun b8 j=>(DP.Cq 0 zr zt j zr p6 eH fun b9 j=>(DP.rA az.to 0 zr j cG fun a111 ca j=>(DP.e2 zr ?_)))
  obtain⟨cb,bk,hb⟩:=bd hb
  refine RL.call zt zr BP [ax,(vi ay.from_)] zr (aD (iL N (p1:=ay.from_) (i0:=7) j zr bk) ?_)
  rintro bl w j
  refine DP.d2 (⟨zt,j.gm 1⟩) (DP.e2 zr ?_)
  obtain⟨cc,bm,hb⟩:=bd hb
  refine RL.call zt zr BP [bl,(vi az.to)] zr (aD (iL N (p1:=az.to) (i0:=0) j zr bm) ?_)
  rintro a7 w j
  refine DP.d2 (⟨zt,j.gm 2⟩) (DP.e0 zr (aP a7 (DP.d0 ?_)))
  have j:=j.pl 10 [0,1,3,4,5,6,7,8,9]
  refine DP.z (bO (aG (RC.region (mv (vi ae.2) (RL.fO ae.2 1 (aP (vi (IntKind.wrap .i64 (ae.2+1))) (RL.nil ?_)))))))
  obtain rfl:=oi hb
  exact⟨rfl,a7,j.sp 9 [6,7,0]⟩
 ·intro r _ _ _ _
  exact r.elim
 rintro ae _ w rfl ⟨ag,O,rfl,j⟩
 rw [Fo.dB] at hb
 refine aG (RC.sr (aP (.slice none 0 0) (RL.nq (RC.sr (aP (vi 1) (RL.nt ?_))))))
 obtain⟨cd,hN,hb⟩:=bd hb
 refine RC.iter (fun(ad: (List aF)×Int) U w=>∃a8:Value,SH E V [(0,v0),(1,v1),(2,vi p2),(7,ag),(10,a8),(11,vi ad.2)] [rd v0 p0,rd v1 p1,rd ag ae.1,own 155 a8 ad.1] U w) (fun(ad: (List aF)×Int) U w=>∃ak:Value,SH E V [(10,ak)] [rd v0 p0,rd v1 p1,rd ag ae.1,own 155 ak ad.1] U w) (fun(r:Empty) _ _=>r.elim) hN ?_ ?_ ?_ ?_
 ·have j:=j.cQ aF 155
  exact⟨(.slice none 0 0),j.sp 4 [1,2,3,0]⟩
 ·rintro ad fl _ w ⟨an,O,rfl,j⟩ hb
  refine RC.seq (RC.sr (mv (vi ad.2) (mv ag (RL.bC 2 ae.1 j mw (ic ad.2 ((ae.1.length:Int)) (RL.nt (dX hb (fun hc hb=>?_) fun hc hb=>?_)))))))
  rotate_left
  ·refine RC.ex ?_
   obtain rfl:=oi hb
   exact⟨rfl,an,j.sp 4 [0,1,2,3]⟩
  refine RC.ss (RC.block (RC.seq (RC.vH mixed [0,0,0,0,0,0,2,1,1,1,1,1,1,2,0,0] [0,1,2,3,4,5,7,8,9,10,11,12,6,13,14,15] ?_)))
  have j:=j.drew
  refine DP.e0 zr (mv v0 (aY zr (mv ag (aY zr (mv (vi ad.2) (aY zr (RL.fO ad.2 1 (aY zr ?_))))))))
  obtain⟨a0,bn,hb⟩:=bd hb
  refine RL.bM 2 j eD bn fun cf j=>(aY zr (RL.bB a0 0 j cG (DP.d0 (DP.e1 v1 zr (fun w=>RL.move v1 zt DP.d1) (DP.e1 ag zr (fun w=>RL.move ag zt DP.d1) (DP.e1 (vi ad.2) zr (fun w=>RL.move (vi ad.2) zt DP.d1) (DP.e1 (vi (IntKind.wrap .i64 (ad.2 - 1))) zr (fun w=>RL.fO ad.2 1 DP.d1) ?_)))))))
  obtain⟨a1,bo,hb⟩:=bd hb
  refine DP.wx 3 zr j eD bo fun cg j=>(DP.rA a1 0 zr j cG fun a176 ch j=>(DP.e2 zr ?_))
  obtain⟨o,bp,hb⟩:=bd hb
  refine RL.call zt zr HO [v0,(vi a0)] zr (aD (ly N (p1:=a0) (i0:=3) j zr bp) ?_)
  rintro _ w ⟨rfl,j⟩
  refine DP.d2 (⟨zt,j.gm 0⟩) (DP.e2 zr ?_)
  obtain⟨aa,bq,hb⟩:=bd hb
  refine RL.call zt zr HO [v1,(vi a1)] zr (aD (ly N (p1:=a1) (i0:=4) j zr bq) ?_)
  rintro _ w ⟨rfl,j⟩
  refine DP.d2 (⟨zt,j.gm 0⟩) (DP.e0 zr (aP (vb o) (aY zr (aP (vb aa) (DP.d0 ?_)))))
  have j:=j.pl 7 [1,2,3,4,5,6]
  refine DP.z (aG (RC.sr (mv (vi p2) (ic p2 1 (mv (vb (p2==1)) (RL.gs true (p2==1) (vb o) rfl rfl rfl cI (RL.gs true (p2==1) (vb o) rfl rfl rfl (cI (hx:=fun h=>by exact(cO h:cv (true&&((p2==1)==true)) (vb o)= (vb o)))) (RL.gs (true&&((p2==1)==true)) o (vb aa) rfl rfl rfl cI ?_))))))))
  refine RL.gs true (p2==1) (vb (o||aa)) rfl rfl rfl (kG o rfl (fun h=>by exact(cO h:cv (true&&((p2==1)==true)) (vb o)= (vb o))) (fun h=>by exact nW (h:=h) (true&&((p2==1)==true)))) (RL.pick (p2==1) (vb ((p2==1)&&(o||aa))) (gx true rfl) (mv (vb ((p2==1)&&(o||aa))) (RL.gs true ((p2==1)&&(o||aa)) (vi p2) rfl rfl rfl cI (RL.gs true ((p2==1)&&(o||aa)) (vb (p2==2)) rfl rfl rfl (dL .eql .i64 p2 2 rfl (fun h=>by exact(cO h:cv (true&&(((p2==1)&&(o||aa))==false)) (vi p2)= (vi p2))) (fun _=>rfl) rfl) (RL.gs true ((p2==1)&&(o||aa)) (vb (p2==2)) rfl rfl rfl (cI (hx:=fun h=>by exact(cO h:cv (true&&(((p2==1)&&(o||aa))==false)) (vb (p2==2))= (vb (p2==2))))) (RL.gs (true&&(((p2==1)&&(o||aa))==false)) (p2==2) (vb o) rfl rfl rfl cI (RL.gs true ((p2==1)&&(o||aa)) (vb ((p2==2)&&o)) rfl rfl rfl (kG (p2==2) rfl (fun h=>by exact(cO h:cv (true&&(((p2==1)&&(o||aa))==false)) (vb (p2==2))= (vb (p2==2)))) (fun h=>by exact gx (true&&(((p2==1)&&(o||aa))==false)) h)) (RL.gs true ((p2==1)&&(o||aa)) (vb ((p2==2)&&o)) rfl rfl rfl (cI (hx:=fun h=>by exact(cO h:cv (true&&(((p2==1)&&(o||aa))==false)) (vb ((p2==2)&&o))= (vb ((p2==2)&&o))))) ?_))))))))
  refine RL.gs (true&&(((p2==1)&&(o||aa))==false)) ((p2==2)&&o) (vb aa) rfl rfl rfl cI (RL.gs true ((p2==1)&&(o||aa)) (vb (((p2==2)&&o)&&aa)) rfl rfl rfl (kG ((p2==2)&&o) rfl (fun h=>by exact(cO h:cv (true&&(((p2==1)&&(o||aa))==false)) (vb ((p2==2)&&o))= (vb ((p2==2)&&o)))) (fun h=>by exact gx (true&&(((p2==1)&&(o||aa))==false)) h)) (RL.pick ((p2==1)&&(o||aa)) (vb (((p2==1)&&(o||aa))||(((p2==2)&&o)&&aa))) (nW true) (mv (vb (((p2==1)&&(o||aa))||(((p2==2)&&o)&&aa))) (RL.gs true (((p2==1)&&(o||aa))||(((p2==2)&&o)&&aa)) (vi p2) rfl rfl rfl cI (RL.gs true (((p2==1)&&(o||aa))||(((p2==2)&&o)&&aa)) (vb (p2==3)) rfl rfl rfl (dL .eql .i64 p2 3 rfl (fun h=>by exact(cO h:cv (true&&((((p2==1)&&(o||aa))||(((p2==2)&&o)&&aa))==false)) (vi p2)= (vi p2))) (fun _=>rfl) rfl) (RL.gs true (((p2==1)&&(o||aa))||(((p2==2)&&o)&&aa)) (vb (p2==3)) rfl rfl rfl (cI (hx:=fun h=>by exact(cO h:cv (true&&((((p2==1)&&(o||aa))||(((p2==2)&&o)&&aa))==false)) (vb (p2==3))= (vb (p2==3))))) (RL.gs (true&&((((p2==1)&&(o||aa))||(((p2==2)&&o)&&aa))==false)) (p2==3) (vb o) rfl rfl rfl cI (RL.gs true (((p2==1)&&(o||aa))||(((p2==2)&&o)&&aa)) (vb ((p2==3)&&o)) rfl rfl rfl (kG (p2==3) rfl (fun h=>by exact(cO h:cv (true&&((((p2==1)&&(o||aa))||(((p2==2)&&o)&&aa))==false)) (vb (p2==3))= (vb (p2==3)))) (fun h=>by exact gx (true&&((((p2==1)&&(o||aa))||(((p2==2)&&o)&&aa))==false)) h)) ?_))))))))
  refine RL.gs true (((p2==1)&&(o||aa))||(((p2==2)&&o)&&aa)) (vb ((p2==3)&&o)) rfl rfl rfl (cI (hx:=fun h=>by exact(cO h:cv (true&&((((p2==1)&&(o||aa))||(((p2==2)&&o)&&aa))==false)) (vb ((p2==3)&&o))= (vb ((p2==3)&&o))))) (RL.gs (true&&((((p2==1)&&(o||aa))||(((p2==2)&&o)&&aa))==false)) ((p2==3)&&o) (vb aa) rfl rfl rfl cI (RL.gs (true&&((((p2==1)&&(o||aa))||(((p2==2)&&o)&&aa))==false)) ((p2==3)&&o) (vb (!aa)) rfl rfl rfl (G8 aa rfl (fun h=>by exact(cO h:cv ((true&&((((p2==1)&&(o||aa))||(((p2==2)&&o)&&aa))==false))&&(((p2==3)&&o)==true)) (vb aa)= (vb aa)))) (RL.gs true (((p2==1)&&(o||aa))||(((p2==2)&&o)&&aa)) (vb (((p2==3)&&o)&&(!aa))) rfl rfl rfl (kG ((p2==3)&&o) rfl (fun h=>by exact(cO h:cv (true&&((((p2==1)&&(o||aa))||(((p2==2)&&o)&&aa))==false)) (vb ((p2==3)&&o))= (vb ((p2==3)&&o)))) (fun h=>by exact gx (true&&((((p2==1)&&(o||aa))||(((p2==2)&&o)&&aa))==false)) h)) (RL.pick (((p2==1)&&(o||aa))||(((p2==2)&&o)&&aa)) (vb ((((p2==1)&&(o||aa))||(((p2==2)&&o)&&aa))||(((p2==3)&&o)&&(!aa)))) (nW true) (RL.nt ?_)))))
  obtain⟨a2,hj,hb⟩:=bd hb
  refine RC.jn (fun(a2: (List aF)) U w=>∃ao:Value,SH E V [(0,v0),(1,v1),(2,vi p2),(7,ag),(10,ao),(11,vi ad.2)] [rd v0 p0,rd v1 p1,rd ag ae.1,own 155 ao a2] U w) a2 ?_ ?_
  ·refine dX hj (fun hc hj=>?_) fun hc hj=>?_
   rotate_left
   ·refine RC.skip ?_
    obtain rfl:=oi hj
    exact⟨rfl,an,j.sp 6 [2,3,4,5]⟩
   refine RC.vH mixed [0,0,0,0,0,0,0,0,0,0,0,2,0] [0,1,2,3,4,5,6,7,8,9,10,11,12] ?_
   have j:=j.drew
   refine DP.e0 zr (mv an (aY zr (mv ag (aY zr (mv (vi ad.2) (aY zr (RL.fO ad.2 1 (aY zr ?_))))))))
   obtain⟨aq,br,hj⟩:=bd hj
   refine RL.bM 4 j eD br fun cj j=>(aY zr (RL.bB aq 0 j cG (aY zr (mv ag (aY zr (mv (vi ad.2) (aY zr ?_)))))))
   obtain⟨ar,bs,hj⟩:=bd hj
   refine RL.bM 5 j eD bs fun ck j=>(aY zr (RL.bB ar 0 j cG (aY zr ?_)))
   have j:=(j.sc Int aq).sc Int ar
   refine RL.build (⟨aq,ar⟩:aF) trivial rfl j [(0,vi aq),(1,vi ar)] rfl JD rfl (fun M hs g=>by have h:=po M;exact cS.cons (f:=fun(x:aF) y=>{x with from_:=y}) h lr (g.sat 1 _ rfl).1 fun _ h=>cS.cons (f:=fun(x:aF) y=>{x with to:=y}) h lu (g.sat 0 _ rfl).1 fun _ h=>cS.nil h) fun bt j=>?_
   refine oN zr ?_
   have j:=j.freeze 10
   obtain⟨cl,bu,hj⟩:=bd hj
   refine RL.call zt zr JF [an,bt] zr (aD (oe N (i0:=10) (i1:=0) j zr zr bu) ?_)
   rintro a9 w j
   refine uh zr (aP a9 (DP.d0 (DP.z ?_)))
   obtain rfl:=oi hj
   exact⟨rfl,a9,j.sp 12 [8,9,10,0]⟩
  rintro _ w ⟨ao,O,rfl,j⟩
  refine bO (aG (RC.region (mv (vi ad.2) (RL.fO ad.2 1 (aP (vi (IntKind.wrap .i64 (ad.2+1))) (RL.nil ?_))))))
  obtain rfl:=oi hb
  exact⟨rfl,ao,j.sp 4 [0,1,2,3]⟩
 ·intro r _ _ _ _
  exact r.elim
 rintro ad _ w rfl ⟨ak,O,rfl,j⟩
 rw [Fo.dB] at hb
 refine aG (RC.sr (mv ak (aP ak (RL.nt (RC.ret ?_)))))
 obtain rfl:=oi hb
 exact bY (j.pk 4 [3])
theorem rn {p0: (List aI)} {p1: (List aI)} {res: (List aI)} (j:Holds E w V) (h0:V[i0]? =some (rd v0 p0)) (h1:V[i1]? =some (rd v1 p1)) (o:gM N p0 p1 p2=some res):
    Calls bN 70 [v0,v1,(vi p2)].toArray w (gQ (fX E V res)):=by
 unfold gM at o
 refine enter Tryz.func70 zr zr ?_
 have j:=(j.dup (i0+0) h0).dup (i1+1) h1
 refine RC.sr (aP (.slice none 0 0) (RL.ns (aP (.slice none 0 0) (RL.ns (mv (.slice none 0 0) (mv v0 ?_))))))
 have j:=j.cQ aI 73
 obtain⟨bc,aq,o⟩:=bd o
 refine RL.app 0 2 j z9 aq fun al w j=>?_
 refine aP al (RL.ns (mv al (mv v1 ?_)))
 obtain⟨bf,ar,o⟩:=bd o
 refine RL.app 0 1 j z9 ar fun ai w j=>?_
 refine aP ai (RL.ns (mv ai ?_))
 have j:=j.freeze 0
 obtain⟨ae,au,o⟩:=bd o
 refine RL.call zt zr LB [ai] zr (aD (nC N (i0:=0) j zr au) ?_)
 rintro ab w j
 refine aP ab (RL.ns (aP (.slice none 0 0) (RL.nq (RC.sr (aP (vi 1) (RL.nt ?_))))))
 obtain⟨bg,hN,o⟩:=bd o
 refine RC.iter (fun(aa: (List aL)×Int) U w=>∃an:Value,SH E V [(0,v0),(1,v1),(2,vi p2),(8,ab),(9,an),(10,vi aa.2)] [rd v0 p0,rd v1 p1,rd ab ae,own 125 an aa.1] U w) (fun(aa: (List aL)×Int) U w=>∃ad:Value,SH E V [(9,ad)] [rd v0 p0,rd v1 p1,rd ab ae,own 125 ad aa.1] U w) (fun(r:Empty) _ _=>r.elim) hN ?_ ?_ ?_ ?_
 ·have j:=j.cQ aL 125
  exact⟨(.slice none 0 0),j.sp 5 [4,3,1,0]⟩
 ·rintro aa fl _ w ⟨af,O,rfl,j⟩ o
  refine RC.seq (RC.sr (mv (vi aa.2) (mv ab (RL.bC 2 ae j mw (ic aa.2 ((ae.length:Int)) (RL.nt (dX o (fun hc o=>?_) fun hc o=>?_)))))))
  rotate_left
  ·refine RC.ex ?_
   obtain rfl:=oi o
   exact⟨rfl,af,j.sp 4 [0,1,2,3]⟩
  refine RC.ss (RC.block (RC.vH mixed [1,1,1,1,1,1,1,1,1,1,0,0,0,0,0,0,2,1,1,1,1,1,1,2,1,2,0,2,0] [0,1,2,3,4,5,6,7,8,9,10,11,12,13,14,15,17,18,19,20,21,22,24,16,23,25,26,27,28] ?_))
  have j:=j.drew
  refine DP.e1 af zr (fun w=>RL.move af zt DP.d1) (DP.e1 ab zr (fun w=>RL.move ab zt DP.d1) (DP.e1 (vi aa.2) zr (fun w=>RL.move (vi aa.2) zt DP.d1) (DP.e1 (vi (IntKind.wrap .i64 (aa.2 - 1))) zr (fun w=>RL.fO aa.2 1 DP.d1) ?_)))
  obtain⟨ag,ax,o⟩:=bd o
  refine DP.wx 2 zr j eD ax fun bj j=>(DP.rA ag 0 zr j cG fun a92 bk j=>(DP.e1 ab zr (fun w=>RL.move ab zt DP.d1) (DP.e1 (vi aa.2) zr (fun w=>RL.move (vi aa.2) zt DP.d1) ?_)))
  obtain⟨ah,ay,o⟩:=bd o
  refine DP.wx 4 zr j eD ay fun bl j=>(DP.rA ah 0 zr j cG fun a96 bm j=>(DP.e0 zr (mv v0 (aY zr (mv ab (aY zr (mv (vi aa.2) (aY zr ?_))))))))
  refine RL.fO aa.2 1 (aY zr ?_)
  obtain⟨aj,az,o⟩:=bd o
  refine RL.bM 6 j eD az fun bn j=>(aY zr (RL.bB aj 0 j cG (DP.d0 (DP.e1 v1 zr (fun w=>RL.move v1 zt DP.d1) (DP.e1 ab zr (fun w=>RL.move ab zt DP.d1) (DP.e1 (vi aa.2) zr (fun w=>RL.move (vi aa.2) zt DP.d1) (DP.e1 (vi (IntKind.wrap .i64 (aa.2 - 1))) zr (fun w=>RL.fO aa.2 1 DP.d1) ?_)))))))
  obtain⟨ak,a0,o⟩:=bd o
  refine DP.wx 7 zr j eD a0 fun bo j=>(DP.rA ak 0 zr j cG fun a102 bp j=>(DP.e1 (vi p2) zr (fun w=>RL.move (vi p2) zt DP.d1) (DP.e2 zr ?_)))
  obtain⟨bq,a1,o⟩:=bd o
  refine RL.call zt zr I1 [v0,(vi aj)] zr (aD (kN N (p1:=aj) (i0:=7) j zr a1) ?_)
  rintro a2 w j
  refine DP.d2 (⟨⟨⟨zt,j.gm 6⟩,j.gm 4⟩,j.gm 1⟩) (DP.e2 zr ?_)
  obtain⟨br,a3,o⟩:=bd o
  refine RL.call zt zr I1 [v1,(vi ak)] zr (aD (kN N (p1:=ak) (i0:=9) j zr a3) ?_)
  rintro a4 w j
  refine DP.d2 (⟨⟨⟨zt,j.gm 7⟩,j.gm 5⟩,j.gm 2⟩) (DP.e2 zr ?_)
  have j:=(j.freeze 1).freeze 0
  obtain⟨a5,a6,o⟩:=bd o
  refine RL.call zt zr LN [a2,a4,(vi p2)] zr (aD (tH N (p2:=p2) (i0:=1) (i1:=0) j zr zr a6) ?_)
  rintro a7 w j
  refine DP.d2 (⟨⟨⟨zt,j.gm 8⟩,j.gm 6⟩,j.gm 3⟩) (DP.e0 zr ?_)
  have j:=((j.sc Int ag).sc Int ah).freeze 2
  refine RL.build (⟨ag,ah,a5⟩:aL) trivial rfl j [(0,vi ag),(1,vi ah),(2,a7)] rfl JG rfl (fun M hs g=>by have h:=pj M;exact cS.cons (f:=fun(x:aL) y=>{x with from_:=y}) h n0 (g.sat 1 _ rfl).1 fun _ h=>cS.cons (f:=fun(x:aL) y=>{x with to:=y}) h lx (g.sat 0 _ rfl).1 fun _ h=>cS.cons (f:=fun(x:aL) y=>{x with ja:=y}) h n7 (g.sat 2 _ rfl).1 fun _ h=>cS.nil h) fun a8 j=>?_
  refine oN zr ?_
  have j:=j.pull 16
  obtain⟨bs,a9,o⟩:=bd o
  refine RL.call zt zr LH [af,a8] zr (aD (nD N (i1:=0) j zr a9) ?_)
  rintro ao w j
  refine DP.d2 (⟨⟨⟨zt,j.gm 12⟩,j.gm 10⟩,j.gm 7⟩) (DP.e0 zr (aP ao (DP.d0 ?_)))
  have j:=j.pl 18 [0,1,2,3,4,5,6,8,9,11,13,14,15,16,17]
  refine DP.z (bO (aG (RC.region (mv (vi aa.2) (RL.fO aa.2 1 (aP (vi (IntKind.wrap .i64 (aa.2+1))) (RL.nil ?_)))))))
  obtain rfl:=oi o
  exact⟨rfl,ao,j.sp 15 [11,12,13,0]⟩
 ·intro r _ _ _ _
  exact r.elim
 rintro aa _ w rfl ⟨ad,O,rfl,j⟩
 rw [Fo.dB] at o
 refine aG (RC.sr (mv ad ?_))
 have j:=j.freeze 3
 obtain⟨bt,ba,o⟩:=bd o
 refine RL.call zt zr LI [ad] zr (aD (oW N (i0:=3) j zr ba) ?_)
 rintro bb w j
 refine aP bb (RL.nt (RC.ret ?_))
 obtain rfl:=oi o
 exact bY (j.pk 5 [0])
theorem r5 {p0: (List aI)} {p1: (List aI)} {res: (List aI)} (j:Holds E w V) (h0:V[i0]? =some (rd v0 p0)) (h1:V[i1]? =some (rd v1 p1)) (o:kp N p0 p1=some res):
    Calls bN 36 [v0,v1].toArray w (gQ (fX E V res)):=by
 unfold kp at o
 refine enter Tryz.func36 zr zr ?_
 have j:=(j.dup (i0+0) h0).dup (i1+1) h1
 refine RC.sr (aP (.slice none 0 0) (RL.ns (mv v0 (mv v1 ?_))))
 obtain⟨ad,aa,o⟩:=bd o
 refine RL.call zt zr Nf [v0,v1,(vi 3)] zr (aD (rn N (p2:=3) (i0:=1) (i1:=0) j zr zr aa) ?_)
 rintro ab w j
 refine aP ab (RL.nt (RC.ret ?_))
 obtain rfl:=oi o
 exact bY (j.pk 3 [0])
theorem kl {p0:kH} {res: (List aI)} (j:Holds E w V) (h0:V[i0]? =some (rd v0 p0)) (o:fA N p0 p1=some res):
    Calls bN 16 [v0,(vi p1)].toArray w (gQ (fX E V res)):=by
 unfold fA at o
 refine enter Tryz.func16 zr zr ?_
 have j:=j.dup (i0+0) h0
 refine RC.sr (RL.dK 0 v0 j zr fun ad w j=>?_)
 have j:=j.lf (i:=0) rfl
 refine aP (.slice none 0 0) (RL.ns (aP (.slice none 0 0) (RL.nq (RC.sr (aP (vi 0) (RL.nt ?_))))))
 obtain⟨a8,hN,o⟩:=bd o
 refine RC.iter (fun(aa: (List aI)×Int) U w=>∃aj:Value,SH E V [(1,vi p1),(2,vp ad 0),(5,aj),(6,vi aa.2)] [pt (vp ad 0) p0,own 73 aj aa.1] U w) (fun(aa: (List aI)×Int) U w=>∃ae:Value,SH E V [(1,vi p1),(2,vp ad 0),(5,ae)] [pt (vp ad 0) p0,own 73 ae aa.1] U w) (fun(r:Empty) _ _=>r.elim) hN ?_ ?_ ?_ ?_
 ·have j:=j.cQ aI 73
  exact⟨(.slice none 0 0),j.sp 3 [1,0]⟩
 ·rintro aa fl _ w ⟨ag,O,rfl,j⟩ o
  refine RC.seq (RC.sr (mv (vi aa.2) (RL.dN 0 j zr iw gU fun ba j=>(RL.bF 0 p0.aO j nQ fun bb j=>(RL.bC 0 p0.aO j wy (ic aa.2 ((p0.aO.length:Int)) (RL.nt (dX o (fun hc o=>?_) fun hc o=>?_))))))))
  rotate_left
  ·refine RC.ex ?_
   obtain rfl:=oi o
   exact⟨rfl,ag,j.sp 4 [2,3]⟩
  refine RC.ss (RC.bs (RL.dN 2 j zr iw gU fun bc j=>(RL.bF 0 p0.aO j nQ fun bf j=>(mv (vi aa.2) ?_))))
  obtain⟨an,ao,o⟩:=bd o
  refine RL.bM 0 j qE ao fun bg j=>(RL.bF 0 an j mf fun aq j=>(mv (vi p1) ?_))
  obtain⟨bh,ar,o⟩:=bd o
  refine RL.call zt zr I2 [aq,(vi p1)] zr (aD (jw N (p1:=p1) (i0:=0) j zr ar) ?_)
  rintro _ w ⟨rfl,j⟩
  refine RL.nt ?_
  obtain⟨ai,hj,o⟩:=bd o
  refine RC.jn (fun(ai: (List aI)) U w=>∃af:Value,SH E V [(1,vi p1),(2,vp ad 0),(5,af),(6,vi aa.2)] [pt (vp ad 0) p0,own 73 af ai] U w) ai ?_ ?_
  ·refine dX hj (fun hc hj=>?_) fun hc hj=>?_
   rotate_left
   ·refine RC.skip ?_
    obtain rfl:=oi hj
    exact⟨rfl,ag,j.sp 8 [6,7]⟩
   refine RC.region (mv ag (RL.dN 6 j zr iw gU fun bj j=>(RL.bF 0 p0.aO j nQ fun bk j=>(mv (vi aa.2) ?_))))
   obtain⟨au,av,hj⟩:=bd hj
   refine RL.bM 0 j qE av fun bl j=>(RL.bF 0 au j mf fun aw j=>?_)
   obtain⟨ax,ay,hj⟩:=bd hj
   refine RL.call zt zr Gu [aw] zr (aD (fI N (i0:=0) j zr ay) ?_)
   rintro az w j
   refine RL.dQ ([ax]: (List aI)) j [az] iK om (fun M hs g=>⟨(g.sat 0 _ zr).1,zt⟩) fun bm w j=>?_
   have j:=j.freeze 0
   obtain⟨bn,a0,hj⟩:=bd hj
   refine RL.app 13 0 j z9 a0 fun ak w j=>?_
   refine aP ak (RL.nil ?_)
   obtain rfl:=oi hj
   exact⟨rfl,ak,j.sp 14 [12,13]⟩
  rintro _ w ⟨af,O,rfl,j⟩
  refine bO (aG (RC.region (mv (vi aa.2) (RL.fO aa.2 1 (aP (vi (IntKind.wrap .i64 (aa.2+1))) (RL.nil ?_))))))
  obtain rfl:=oi o
  exact⟨rfl,af,j.sp 2 [0,1]⟩
 ·intro r _ _ _ _
  exact r.elim
 rintro aa _ w rfl ⟨ae,O,rfl,j⟩
 rw [Fo.dB] at o
 refine aG (RC.seq (RC.vH mixed [1,1,1,1,1,0,2,2,0] [0,1,2,3,4,5,6,7,8] ?_))
 have j:=j.drew
 refine DP.Cq 0 zr zt j zr me iW fun bo j=>(DP.yj p0.aJ 0 zr zt j oQ fun bp a131 bq j=>(DP.e1 (vi p1) zr (fun w=>RL.move (vi p1) zt DP.d1) ?_))
 obtain⟨a1,a2,o⟩:=bd o
 refine DP.wx 1 zr j rf a2 fun br j=>(DP.yj a1 0 zr zt j q9 fun a3 a136 bt j=>(DP.e0 zr (mv ae (oN zr ?_))))
 have j:=j.freeze 7
 obtain⟨bu,a4,o⟩:=bd o
 refine RL.call zt zr Kr [ae] zr (aD (ki N (i0:=7) j zr a4) ?_)
 rintro a5 w j
 refine DP.d2 (⟨⟨zt,j.gm 4⟩,j.gm 1⟩) (DP.e2 zr ?_)
 have j:=j.freeze 0
 obtain⟨bw,a6,o⟩:=bd o
 refine RL.call zt zr Ng [a3,a5] zr (aD (r5 N (i0:=2) (i1:=0) j zr zr a6) ?_)
 rintro a7 w j
 refine DP.d2 (⟨⟨zt,j.gm 5⟩,j.gm 2⟩) (DP.e0 zr (aP a7 (DP.d0 ?_)))
 have j:=j.pl 10 [0,1,3,4,6,7,8,9]
 refine DP.z (aG (RC.ret ?_))
 obtain rfl:=oi o
 exact bY (j.pk 8 [0])
theorem tI {p0 p1:aI} {res:Bool} (j:Holds E w V) (h0:V[i0]? =some (rd v0 p0)) (h1:V[i1]? =some (rd v1 p1)) (o:i7 N p0 p1=some res):
    Calls bN 45 [v0,v1].toArray w (gQ (aU E V res)):=by
 unfold i7 at o
 refine enter Tryz.func45 zr zr ?_
 have j:=(j.dup (i0+0) h0).dup (i1+1) h1
 refine RC.sr (RL.dK 1 v0 j zr fun aa w j=>?_)
 refine RL.dK 1 v1 j zr fun ab w j=>?_
 refine aP (vb false) (RL.ns (RL.aZ zr iX (RL.aM 1 j zr dY cG (RL.aZ zr iX (RL.aM 0 j zr dY cG (RL.min p0.X1 p1.X1 (RL.aZ zr gO (RL.aM 1 j zr dD cG ?_))))))))
 refine RL.aZ zr gO (RL.aM 0 j zr dD cG (RL.max p0.X0 p1.X0 (RL.fO (if p1.X1<p0.X1 then p1.X1 else p0.X1) (if p0.X0<p1.X0 then p1.X0 else p0.X0) (aP (vi (IntKind.wrap .i64 ((if p1.X1<p0.X1 then p1.X1 else p0.X1) - (if p0.X0<p1.X0 then p1.X0 else p0.X0)))) (RL.ns (RL.aZ zr jZ (RL.aM 1 j zr eT cG (RL.aZ zr jZ ?_))))))))
 refine RL.aM 0 j zr eT cG (RL.min p0.Y1 p1.Y1 (RL.aZ zr gG (RL.aM 1 j zr cZ cG (RL.aZ zr gG (RL.aM 0 j zr cZ cG (RL.max p0.Y0 p1.Y0 (RL.fO (if p1.Y1<p0.Y1 then p1.Y1 else p0.Y1) (if p0.Y0<p1.Y0 then p1.Y0 else p0.Y0) (aP (vi (IntKind.wrap .i64 ((if p1.Y1<p0.Y1 then p1.Y1 else p0.Y1) - (if p0.Y0<p1.Y0 then p1.Y0 else p0.Y0)))) ?_))))))))
 refine RL.ns (mv (vi (IntKind.wrap .i64 ((if p1.X1<p0.X1 then p1.X1 else p0.X1) - (if p0.X0<p1.X0 then p1.X0 else p0.X0)))) (ic ((IntKind.wrap .i64 ((if p1.X1<p0.X1 then p1.X1 else p0.X1) - (if p0.X0<p1.X0 then p1.X0 else p0.X0)))) 0 (mv (vb (decide ((IntKind.wrap .i64 ((if p1.X1<p0.X1 then p1.X1 else p0.X1) - (if p0.X0<p1.X0 then p1.X0 else p0.X0)))>0))) (RL.gs true (decide ((IntKind.wrap .i64 ((if p1.X1<p0.X1 then p1.X1 else p0.X1) - (if p0.X0<p1.X0 then p1.X0 else p0.X0)))>0)) (vi (IntKind.wrap .i64 ((if p1.Y1<p0.Y1 then p1.Y1 else p0.Y1) - (if p0.Y0<p1.Y0 then p1.Y0 else p0.Y0)))) rfl rfl rfl cI (RL.gs true (decide ((IntKind.wrap .i64 ((if p1.X1<p0.X1 then p1.X1 else p0.X1) - (if p0.X0<p1.X0 then p1.X0 else p0.X0)))>0)) (vb (decide ((IntKind.wrap .i64 ((if p1.Y1<p0.Y1 then p1.Y1 else p0.Y1) - (if p0.Y0<p1.Y0 then p1.Y0 else p0.Y0)))>=0))) rfl rfl rfl (dL .geq .i64 (IntKind.wrap .i64 ((if p1.Y1<p0.Y1 then p1.Y1 else p0.Y1) - (if p0.Y0<p1.Y0 then p1.Y0 else p0.Y0))) 0 rfl (fun h=>by exact(cO h:cv (true&&((decide ((IntKind.wrap .i64 ((if p1.X1<p0.X1 then p1.X1 else p0.X1) - (if p0.X0<p1.X0 then p1.X0 else p0.X0)))>0))==true)) (vi (IntKind.wrap .i64 ((if p1.Y1<p0.Y1 then p1.Y1 else p0.Y1) - (if p0.Y0<p1.Y0 then p1.Y0 else p0.Y0))))= (vi (IntKind.wrap .i64 ((if p1.Y1<p0.Y1 then p1.Y1 else p0.Y1) - (if p0.Y0<p1.Y0 then p1.Y0 else p0.Y0)))))) (fun _=>rfl) rfl) (RL.pick (decide ((IntKind.wrap .i64 ((if p1.X1<p0.X1 then p1.X1 else p0.X1) - (if p0.X0<p1.X0 then p1.X0 else p0.X0)))>0)) (vb ((decide ((IntKind.wrap .i64 ((if p1.X1<p0.X1 then p1.X1 else p0.X1) - (if p0.X0<p1.X0 then p1.X0 else p0.X0)))>0))&&(decide ((IntKind.wrap .i64 ((if p1.Y1<p0.Y1 then p1.Y1 else p0.Y1) - (if p0.Y0<p1.Y0 then p1.Y0 else p0.Y0)))>=0)))) (gx true rfl) (mv (vb ((decide ((IntKind.wrap .i64 ((if p1.X1<p0.X1 then p1.X1 else p0.X1) - (if p0.X0<p1.X0 then p1.X0 else p0.X0)))>0))&&(decide ((IntKind.wrap .i64 ((if p1.Y1<p0.Y1 then p1.Y1 else p0.Y1) - (if p0.Y0<p1.Y0 then p1.Y0 else p0.Y0)))>=0)))) (RL.gs true ((decide ((IntKind.wrap .i64 ((if p1.X1<p0.X1 then p1.X1 else p0.X1) - (if p0.X0<p1.X0 then p1.X0 else p0.X0)))>0))&&(decide ((IntKind.wrap .i64 ((if p1.Y1<p0.Y1 then p1.Y1 else p0.Y1) - (if p0.Y0<p1.Y0 then p1.Y0 else p0.Y0)))>=0))) (vi (IntKind.wrap .i64 ((if p1.X1<p0.X1 then p1.X1 else p0.X1) - (if p0.X0<p1.X0 then p1.X0 else p0.X0)))) rfl rfl rfl cI ?_))))))))
 refine RL.gs true ((decide ((IntKind.wrap .i64 ((if p1.X1<p0.X1 then p1.X1 else p0.X1) - (if p0.X0<p1.X0 then p1.X0 else p0.X0)))>0))&&(decide ((IntKind.wrap .i64 ((if p1.Y1<p0.Y1 then p1.Y1 else p0.Y1) - (if p0.Y0<p1.Y0 then p1.Y0 else p0.Y0)))>=0))) (vb (decide ((IntKind.wrap .i64 ((if p1.X1<p0.X1 then p1.X1 else p0.X1) - (if p0.X0<p1.X0 then p1.X0 else p0.X0)))>=0))) rfl rfl rfl (dL .geq .i64 (IntKind.wrap .i64 ((if p1.X1<p0.X1 then p1.X1 else p0.X1) - (if p0.X0<p1.X0 then p1.X0 else p0.X0))) 0 rfl (fun h=>by exact(cO h:cv (true&&(((decide ((IntKind.wrap .i64 ((if p1.X1<p0.X1 then p1.X1 else p0.X1) - (if p0.X0<p1.X0 then p1.X0 else p0.X0)))>0))&&(decide ((IntKind.wrap .i64 ((if p1.Y1<p0.Y1 then p1.Y1 else p0.Y1) - (if p0.Y0<p1.Y0 then p1.Y0 else p0.Y0)))>=0)))==false)) (vi (IntKind.wrap .i64 ((if p1.X1<p0.X1 then p1.X1 else p0.X1) - (if p0.X0<p1.X0 then p1.X0 else p0.X0))))= (vi (IntKind.wrap .i64 ((if p1.X1<p0.X1 then p1.X1 else p0.X1) - (if p0.X0<p1.X0 then p1.X0 else p0.X0)))))) (fun _=>rfl) rfl) (RL.gs true ((decide ((IntKind.wrap .i64 ((if p1.X1<p0.X1 then p1.X1 else p0.X1) - (if p0.X0<p1.X0 then p1.X0 else p0.X0)))>0))&&(decide ((IntKind.wrap .i64 ((if p1.Y1<p0.Y1 then p1.Y1 else p0.Y1) - (if p0.Y0<p1.Y0 then p1.Y0 else p0.Y0)))>=0))) (vb (decide ((IntKind.wrap .i64 ((if p1.X1<p0.X1 then p1.X1 else p0.X1) - (if p0.X0<p1.X0 then p1.X0 else p0.X0)))>=0))) rfl rfl rfl (cI (hx:=fun h=>by exact(cO h:cv (true&&(((decide ((IntKind.wrap .i64 ((if p1.X1<p0.X1 then p1.X1 else p0.X1) - (if p0.X0<p1.X0 then p1.X0 else p0.X0)))>0))&&(decide ((IntKind.wrap .i64 ((if p1.Y1<p0.Y1 then p1.Y1 else p0.Y1) - (if p0.Y0<p1.Y0 then p1.Y0 else p0.Y0)))>=0)))==false)) (vb (decide ((IntKind.wrap .i64 ((if p1.X1<p0.X1 then p1.X1 else p0.X1) - (if p0.X0<p1.X0 then p1.X0 else p0.X0)))>=0)))= (vb (decide ((IntKind.wrap .i64 ((if p1.X1<p0.X1 then p1.X1 else p0.X1) - (if p0.X0<p1.X0 then p1.X0 else p0.X0)))>=0)))))) (RL.gs (true&&(((decide ((IntKind.wrap .i64 ((if p1.X1<p0.X1 then p1.X1 else p0.X1) - (if p0.X0<p1.X0 then p1.X0 else p0.X0)))>0))&&(decide ((IntKind.wrap .i64 ((if p1.Y1<p0.Y1 then p1.Y1 else p0.Y1) - (if p0.Y0<p1.Y0 then p1.Y0 else p0.Y0)))>=0)))==false)) (decide ((IntKind.wrap .i64 ((if p1.X1<p0.X1 then p1.X1 else p0.X1) - (if p0.X0<p1.X0 then p1.X0 else p0.X0)))>=0)) (vi (IntKind.wrap .i64 ((if p1.Y1<p0.Y1 then p1.Y1 else p0.Y1) - (if p0.Y0<p1.Y0 then p1.Y0 else p0.Y0)))) rfl rfl rfl cI (RL.gs (true&&(((decide ((IntKind.wrap .i64 ((if p1.X1<p0.X1 then p1.X1 else p0.X1) - (if p0.X0<p1.X0 then p1.X0 else p0.X0)))>0))&&(decide ((IntKind.wrap .i64 ((if p1.Y1<p0.Y1 then p1.Y1 else p0.Y1) - (if p0.Y0<p1.Y0 then p1.Y0 else p0.Y0)))>=0)))==false)) (decide ((IntKind.wrap .i64 ((if p1.X1<p0.X1 then p1.X1 else p0.X1) - (if p0.X0<p1.X0 then p1.X0 else p0.X0)))>=0)) (vb (decide ((IntKind.wrap .i64 ((if p1.Y1<p0.Y1 then p1.Y1 else p0.Y1) - (if p0.Y0<p1.Y0 then p1.Y0 else p0.Y0)))>0))) rfl rfl rfl (dL .gtr .i64 (IntKind.wrap .i64 ((if p1.Y1<p0.Y1 then p1.Y1 else p0.Y1) - (if p0.Y0<p1.Y0 then p1.Y0 else p0.Y0))) 0 rfl (fun h=>by exact(cO h:cv ((true&&(((decide ((IntKind.wrap .i64 ((if p1.X1<p0.X1 then p1.X1 else p0.X1) - (if p0.X0<p1.X0 then p1.X0 else p0.X0)))>0))&&(decide ((IntKind.wrap .i64 ((if p1.Y1<p0.Y1 then p1.Y1 else p0.Y1) - (if p0.Y0<p1.Y0 then p1.Y0 else p0.Y0)))>=0)))==false))&&((decide ((IntKind.wrap .i64 ((if p1.X1<p0.X1 then p1.X1 else p0.X1) - (if p0.X0<p1.X0 then p1.X0 else p0.X0)))>=0))==true)) (vi (IntKind.wrap .i64 ((if p1.Y1<p0.Y1 then p1.Y1 else p0.Y1) - (if p0.Y0<p1.Y0 then p1.Y0 else p0.Y0))))= (vi (IntKind.wrap .i64 ((if p1.Y1<p0.Y1 then p1.Y1 else p0.Y1) - (if p0.Y0<p1.Y0 then p1.Y0 else p0.Y0)))))) (fun _=>rfl) rfl) (RL.gs true ((decide ((IntKind.wrap .i64 ((if p1.X1<p0.X1 then p1.X1 else p0.X1) - (if p0.X0<p1.X0 then p1.X0 else p0.X0)))>0))&&(decide ((IntKind.wrap .i64 ((if p1.Y1<p0.Y1 then p1.Y1 else p0.Y1) - (if p0.Y0<p1.Y0 then p1.Y0 else p0.Y0)))>=0))) (vb ((decide ((IntKind.wrap .i64 ((if p1.X1<p0.X1 then p1.X1 else p0.X1) - (if p0.X0<p1.X0 then p1.X0 else p0.X0)))>=0))&&(decide ((IntKind.wrap .i64 ((if p1.Y1<p0.Y1 then p1.Y1 else p0.Y1) - (if p0.Y0<p1.Y0 then p1.Y0 else p0.Y0)))>0)))) rfl rfl rfl (kG (decide ((IntKind.wrap .i64 ((if p1.X1<p0.X1 then p1.X1 else p0.X1) - (if p0.X0<p1.X0 then p1.X0 else p0.X0)))>=0)) rfl (fun h=>by exact(cO h:cv (true&&(((decide ((IntKind.wrap .i64 ((if p1.X1<p0.X1 then p1.X1 else p0.X1) - (if p0.X0<p1.X0 then p1.X0 else p0.X0)))>0))&&(decide ((IntKind.wrap .i64 ((if p1.Y1<p0.Y1 then p1.Y1 else p0.Y1) - (if p0.Y0<p1.Y0 then p1.Y0 else p0.Y0)))>=0)))==false)) (vb (decide ((IntKind.wrap .i64 ((if p1.X1<p0.X1 then p1.X1 else p0.X1) - (if p0.X0<p1.X0 then p1.X0 else p0.X0)))>=0)))= (vb (decide ((IntKind.wrap .i64 ((if p1.X1<p0.X1 then p1.X1 else p0.X1) - (if p0.X0<p1.X0 then p1.X0 else p0.X0)))>=0))))) (fun h=>by exact gx (true&&(((decide ((IntKind.wrap .i64 ((if p1.X1<p0.X1 then p1.X1 else p0.X1) - (if p0.X0<p1.X0 then p1.X0 else p0.X0)))>0))&&(decide ((IntKind.wrap .i64 ((if p1.Y1<p0.Y1 then p1.Y1 else p0.Y1) - (if p0.Y0<p1.Y0 then p1.Y0 else p0.Y0)))>=0)))==false)) h)) (RL.pick ((decide ((IntKind.wrap .i64 ((if p1.X1<p0.X1 then p1.X1 else p0.X1) - (if p0.X0<p1.X0 then p1.X0 else p0.X0)))>0))&&(decide ((IntKind.wrap .i64 ((if p1.Y1<p0.Y1 then p1.Y1 else p0.Y1) - (if p0.Y0<p1.Y0 then p1.Y0 else p0.Y0)))>=0))) (vb (((decide ((IntKind.wrap .i64 ((if p1.X1<p0.X1 then p1.X1 else p0.X1) - (if p0.X0<p1.X0 then p1.X0 else p0.X0)))>0))&&(decide ((IntKind.wrap .i64 ((if p1.Y1<p0.Y1 then p1.Y1 else p0.Y1) - (if p0.Y0<p1.Y0 then p1.Y0 else p0.Y0)))>=0)))||((decide ((IntKind.wrap .i64 ((if p1.X1<p0.X1 then p1.X1 else p0.X1) - (if p0.X0<p1.X0 then p1.X0 else p0.X0)))>=0))&&(decide ((IntKind.wrap .i64 ((if p1.Y1<p0.Y1 then p1.Y1 else p0.Y1) - (if p0.Y0<p1.Y0 then p1.Y0 else p0.Y0)))>0))))) (nW true) (aP (vb (((decide ((IntKind.wrap .i64 ((if p1.X1<p0.X1 then p1.X1 else p0.X1) - (if p0.X0<p1.X0 then p1.X0 else p0.X0)))>0))&&(decide ((IntKind.wrap .i64 ((if p1.Y1<p0.Y1 then p1.Y1 else p0.Y1) - (if p0.Y0<p1.Y0 then p1.Y0 else p0.Y0)))>=0)))||((decide ((IntKind.wrap .i64 ((if p1.X1<p0.X1 then p1.X1 else p0.X1) - (if p0.X0<p1.X0 then p1.X0 else p0.X0)))>=0))&&(decide ((IntKind.wrap .i64 ((if p1.Y1<p0.Y1 then p1.Y1 else p0.Y1) - (if p0.Y0<p1.Y0 then p1.Y0 else p0.Y0)))>0))))) (RL.nt (RC.ret ?_))))))))
 obtain rfl:=oi o
 exact bY ⟨rfl,j.drop 4⟩
theorem sN {p0: (List (List aI))} {p1: (List aI)} {res: (List (List aI))} (j:Holds E w V) (h0:V[i0]? =some (rd v0 p0)) (h1:V[i1]? =some (rd v1 p1)) (hb:jE N p0 p1=some res):
    Calls bN 46 [v0,v1].toArray w (gQ (oK E V res)):=by
 unfold jE at hb
 refine enter Tryz.func46 zr zr ?_
 have j:=(j.dup (i0+0) h0).dup (i1+1) h1
 refine RC.sr (aP (.slice none 0 0) (RL.ns (mv v0 (RL.bC 1 p0 j oR (aP (vi p0.length) (RL.nq ?_))))))
 obtain⟨a3,hN,hb⟩:=bd hb
 refine RC.iter (fun(ab:Int)=>SH E V [(0,v0),(1,v1),(5,vi ab)] [rd v0 p0,rd v1 p1]) (fun(ab:Int)=>SH E V [(0,v0),(1,v1),(5,vi ab)] [rd v0 p0,rd v1 p1]) (fun(r:Empty) _ _=>r.elim) hN ?_ ?_ ?_ ?_
 ·exact j.sp 2 [1,0]
 ·rintro ab fl _ w ⟨O,rfl,j⟩ hb
  refine RC.seq (RC.seq ?_)
  obtain⟨ae,hj,hb⟩:=bd hb
  refine RC.jn (fun(ae:Bool)=>SH E V [(0,v0),(1,v1),(5,vi ab),(23,vb ae)] [rd v0 p0,rd v1 p1]) ae ?_ ?_
  ·refine RC.vH mixed [0,0,0,0,0,0,0,0,0,0,0,0,0,2,0] [0,1,2,3,4,5,6,7,8,9,10,11,12,13,14] ?_
   have j:=j.drew
   refine DP.e0 zr (mv (vi ab) (aY zr (ic ab 0 (aY zr (mv (vb (decide (ab>0))) (DP.d0 (fN hj (fun o hj=>?_) fun o hj=>?_)))))))
   rotate_left
   ·refine DP.e0 zr (bJ o (aY zr (bJ o (aY zr (bJ o (aY zr (bJ o (aY zr ?_))))))))
    refine bJ o (aY zr (bJ o (aY zr (bJ o (aY zr (bJ o (aY zr (bJ o ?_))))))))
    refine aY zr (bJ o (oN zr (bJ o (uh zr (fU o (vb false) (DP.d0 (DP.z ?_)))))))
    obtain rfl:=oi hj
    exact⟨rfl,j.sp 2 [0,1]⟩
   refine DP.e0 zr (RL.move v1 (cg o) (aY zr ?_))
   obtain⟨ai,aj,hj⟩:=bd hj
   refine RL.bM (hg:=(cg o)) 1 j iK aj fun a5 j=>(aY zr (RL.bF (hg:=(cg o)) 0 ai j iq fun ak j=>(aY zr (RL.move v0 (cg o) (aY zr (RL.move (vi ab) (cg o) (aY zr (RL.fO (hg:=(cg o)) ab 1 ?_))))))))
   refine aY zr ?_
   obtain⟨al,an,hj⟩:=bd hj
   refine RL.bM (hg:=(cg o)) 2 j rf an fun a6 j=>(aY zr (RL.bF (hg:=(cg o)) 0 al j q9 fun a7 j=>(aY zr ?_)))
   obtain⟨ao,aq,hj⟩:=bd hj
   refine RL.bM (hg:=(cg o)) 0 j iK aq fun a8 j=>(aY zr (RL.bF (hg:=(cg o)) 0 ao j iq fun ar j=>(oN zr ?_)))
   obtain⟨au,av,hj⟩:=bd hj
   refine RL.call (cg o) zr LA [ak,ar] zr (aD (oc N (i0:=4) (i1:=0) j zr zr av) ?_)
   rintro _ w ⟨rfl,j⟩
   refine uh zr (fU o (vb au) (DP.d0 (DP.z ?_)))
   obtain rfl:=oi hj
   exact⟨rfl,j.sp 8 [6,7]⟩
  rintro _ w ⟨O,rfl,j⟩
  refine aG (dX hb (fun hc hb=>?_) fun hc hb=>?_)
  rotate_left
  ·refine RC.ex ?_
   obtain rfl:=oi hb
   exact⟨rfl,j.sp 2 [0,1]⟩
  refine RC.sn (RC.block (RC.region (mv (vi ab) (RL.fO ab 1 (aP (vi (IntKind.wrap .i64 (ab - 1))) (RL.nil (bO ?_)))))))
  obtain rfl:=oi hb
  exact⟨rfl,j.sp 2 [0,1]⟩
 ·intro r _ _ _ _
  exact r.elim
 rintro ab _ w rfl ⟨O,rfl,j⟩
 rw [Fo.dB] at hb
 refine aG (RC.sr (aP (.slice none 0 0) (RL.ns (mv (.slice none 0 0) (mv v0 (mv (vi ab) ?_))))))
 obtain⟨a9,ax,hb⟩:=bd hb
 refine RL.cut (hl:= .inr ⟨rfl,zr⟩) 0 j rf (.inl zr) ax fun ba j=>?_
 have j:=j.cQ (List aI) 23
 obtain⟨bb,ay,hb⟩:=bd hb
 refine RL.app 0 1 j EX ay fun af w j=>?_
 refine aP af (RL.ns (mv af (mv v1 (RL.dQ ([p1]: (List (List aI))) j [v1] rf HF (fun M hs g=>⟨(g.sat 3 _ zr).1,zt⟩) fun bc w j=>?_))))
 have j:=j.freeze 0
 obtain⟨bf,az,hb⟩:=bd hb
 refine RL.app 1 0 j EX az fun ag w j=>?_
 refine aP ag (RL.ns (mv ag (mv v0 (mv (vi ab) ?_))))
 obtain⟨bg,a0,hb⟩:=bd hb
 refine RL.cut 3 j rf (.inr ⟨rfl,zr⟩) a0 fun bh j=>?_
 obtain⟨bj,a1,hb⟩:=bd hb
 refine RL.app 2 0 j EX a1 fun a2 w j=>?_
 refine aP a2 (RL.nt (RC.ret ?_))
 obtain rfl:=oi hb
 exact bY (j.pk 6 [2])
theorem np {p0: (List aI)} {res: (List (List aI))} (j:Holds E w V) (h0:V[i0]? =some (rd v0 p0)) (o:fK N p0=some res):
    Calls bN 25 [v0].toArray w (gQ (oK E V res)):=by
 unfold fK at o
 refine enter Tryz.func25 zr zr ?_
 have j:=j.dup (i0+0) h0
 refine RC.sr (aP (.slice none 0 0) (RL.ns (mv v0 (RL.bC 0 p0 j mH ?_))))
 obtain⟨bu,bb,o⟩:=bd o
 refine RL.mk (p0.length:Int) j Kt Nh bb fun af w j=>?_
 refine aP af (RL.ns (aP (.slice none 0 0) (RL.nq (RC.sr (aP (vi 0) (RL.nt ?_))))))
 obtain⟨bw,hN,o⟩:=bd o
 refine RC.iter (fun(aa: (List Bool)×(List (List aI))×Int) U w=>∃a1:Value,SH E V [(0,v0),(3,af),(4,a1),(5,vi aa.2.2)] [rd v0 p0,own 4 af aa.1,own 23 a1 aa.2.1] U w) (fun(aa: (List Bool)×(List (List aI))×Int) U w=>∃al:Value,SH E V [(4,al)] [rd v0 p0,own 4 af aa.1,own 23 al aa.2.1] U w) (fun(r:Empty) _ _=>r.elim) hN ?_ ?_ ?_ ?_
 ·have j:=j.cQ (List aI) 23
  exact⟨(.slice none 0 0),j.sp 3 [2,1,0]⟩
 ·rintro aa fl _ w ⟨ah,O,rfl,j⟩ o
  refine RC.seq (RC.sr (mv (vi aa.2.2) (mv v0 (RL.bC 0 p0 j mH (ic aa.2.2 ((p0.length:Int)) (RL.nt (dX o (fun hc o=>?_) fun hc o=>?_)))))))
  rotate_left
  ·refine RC.ex ?_
   obtain rfl:=oi o
   exact⟨rfl,ah,j.sp 3 [0,1,2]⟩
  refine RC.ss (RC.block (RC.seq (RC.sr (mv af (mv (vi aa.2.2) ?_)))))
  obtain⟨bx,au,o⟩:=bd o
  refine RL.bS 1 j zr zr Bo au (RL.dR (f:=(fun x=>x)) 1 j (jJ 1 j au 0) (bI au).2.1 Fd.self BN (RL.nt (dX o (fun hc o=>?_) fun hc o=>?_)))
  ·refine RC.ex (G7 (aG (RC.region (mv (vi aa.2.2) (RL.fO aa.2.2 1 (aP (vi (IntKind.wrap .i64 (aa.2.2+1))) (RL.nil ?_)))))))
   obtain rfl:=oi o
   exact⟨rfl,ah,j.sp 3 [0,1,2]⟩
  refine RC.sx (mv af (mv (vi aa.2.2) ?_))
  obtain⟨bz,av,o⟩:=bd o
  refine RL.bS 1 j zr zr Bo av ?_
  have j:=j.sc Bool true
  refine RL.gR (f:=(fun _ y=>y)) 2 0 j (jJ 2 j av 0) (bI av).2.1 zr Fs.self BN fun w j=>?_
  refine RL.ns (mv v0 (mv (vi aa.2.2) ?_))
  obtain⟨a3,bc,o⟩:=bd o
  refine RL.bM 1 j iK bc fun b0 j=>(RL.bF 0 a3 j iq fun bf j=>(RL.dQ ([a3]: (List aI)) j [bf] iK om (fun M hs g=>⟨(g.sat 0 _ zr).1,zt⟩) fun a4 w j=>(aP a4 (RL.nq (RC.sr (aP (vi 0) (RL.nt ?_)))))))
  obtain⟨b1,hN,o⟩:=bd o
  refine RC.iter (fun(ag: (List Bool)×(List aI)×Int) U w=>∃a5:Value,SH E V [(0,v0),(3,af),(4,ah),(5,vi aa.2.2),(6,a5),(7,vi ag.2.2)] [rd v0 p0,own 4 af ag.1,own 23 ah aa.2.1,own 73 a5 ag.2.1] U w) (fun(ag: (List Bool)×(List aI)×Int) U w=>∃an:Value,SH E V [(0,v0),(3,af),(4,ah),(5,vi aa.2.2),(6,an)] [rd v0 p0,own 4 af ag.1,own 23 ah aa.2.1,own 73 an ag.2.1] U w) (fun(r:Empty) _ _=>r.elim) hN ?_ ?_ ?_ ?_
  ·exact⟨a4,j.sp 7 [4,5,6,0]⟩
  ·rintro ag fl _ w ⟨aw,O,rfl,j⟩ o
   refine RC.seq (RC.sr (mv (vi ag.2.2) (mv aw (RL.fS 3 ag.2.1 j mH (ic ag.2.2 ((ag.2.1.length:Int)) (RL.nt (dX o (fun hc o=>?_) fun hc o=>?_)))))))
   rotate_left
   ·refine RC.ex ?_
    obtain rfl:=oi o
    exact⟨rfl,aw,j.sp 4 [0,1,2,3]⟩
   refine RC.ss (RC.bs (aP (vi 0) (RL.nt ?_)))
   obtain⟨b2,hN,o⟩:=bd o
   refine RC.iter (fun(ad: (List Bool)×(List aI)×Int) U w=>∃a6:Value,SH E V [(0,v0),(3,af),(4,ah),(5,vi aa.2.2),(6,a6),(7,vi ag.2.2),(8,vi ad.2.2)] [rd v0 p0,own 4 af ad.1,own 23 ah aa.2.1,own 73 a6 ad.2.1] U w) (fun(ad: (List Bool)×(List aI)×Int) U w=>∃ao:Value,SH E V [(0,v0),(3,af),(4,ah),(5,vi aa.2.2),(6,ao),(7,vi ag.2.2)] [rd v0 p0,own 4 af ad.1,own 23 ah aa.2.1,own 73 ao ad.2.1] U w) (fun(r:Empty) _ _=>r.elim) hN ?_ ?_ ?_ ?_
   ·exact⟨aw,j.sp 4 [0,1,2,3]⟩
   ·rintro ad fl _ w ⟨aj,O,rfl,j⟩ o
    refine RC.seq (RC.sr (mv (vi ad.2.2) (mv v0 (RL.bC 0 p0 j mH (ic ad.2.2 ((p0.length:Int)) (RL.nt (dX o (fun hc o=>?_) fun hc o=>?_)))))))
    rotate_left
    ·refine RC.ex ?_
     obtain rfl:=oi o
     exact⟨rfl,aj,j.sp 4 [0,1,2,3]⟩
    refine RC.ss (RC.block (RC.seq ?_))
    obtain⟨ax,hj,o⟩:=bd o
    refine RC.jn (fun(ax:Bool)=>SH E V [(0,v0),(3,af),(4,ah),(5,vi aa.2.2),(6,aj),(7,vi ag.2.2),(8,vi ad.2.2),(57,vb ax)] [rd v0 p0,own 4 af ad.1,own 23 ah aa.2.1,own 73 aj ad.2.1]) ax ?_ ?_
    ·refine RC.vH mixed [0,0,0,0,0,0,0,0,0,0,0,0,0,0,2,0] [0,1,2,3,4,5,6,7,8,9,10,11,12,13,14,15] ?_
     have j:=j.drew
     refine DP.e0 zr (mv af (aY zr (mv (vi ad.2.2) (aY zr ?_))))
     obtain⟨a7,ay,hj⟩:=bd hj
     refine RL.bS 1 j zr zr Bo ay (aY zr (RL.dR (f:=(fun x=>x)) 1 j (jJ 1 j ay 0) (bI ay).2.1 Fd.self BN (aY zr (RL.not a7 (aY zr (mv (vb (!a7)) (DP.d0 (fN hj (fun ae hj=>?_) fun ae hj=>?_))))))))
     rotate_left
     ·refine DP.e0 zr (bJ ae (aY zr (bJ ae (aY zr (bJ ae (aY zr (bJ ae (aY zr ?_))))))))
      refine bJ ae (aY zr (bJ ae (aY zr (bJ ae (aY zr (bJ ae (oN zr (bJ ae ?_))))))))
      refine uh zr (fU ae (vb false) (DP.d0 (DP.z ?_)))
      obtain rfl:=oi hj
      exact⟨rfl,j.sp 4 [0,1,2,3]⟩
     refine DP.e0 zr (RL.move aj (cg ae) (aY zr (RL.move (vi ag.2.2) (cg ae) (aY zr ?_))))
     obtain⟨b3,az,hj⟩:=bd hj
     refine RL.bS (hg:=(cg ae)) 3 j zr zr iK az (aY zr (RL.kn (hg:=(cg ae)) (f:=(fun x=>x)) 3 j (jJ 3 j az 0) (bI az).2.1 Fd.self iq fun bg j=>?_))
     refine aY zr (RL.move v0 (cg ae) (aY zr (RL.move (vi ad.2.2) (cg ae) (aY zr ?_))))
     obtain⟨bh,bj,hj⟩:=bd hj
     refine RL.bM (hg:=(cg ae)) 1 j iK bj fun b4 j=>(aY zr (RL.bF (hg:=(cg ae)) 0 bh j iq fun bk j=>(oN zr ?_)))
     obtain⟨bl,bm,hj⟩:=bd hj
     refine RL.call (cg ae) zr Ni [bg,bk] zr (aD (tI N (i0:=2) (i1:=0) j zr zr bm) ?_)
     rintro _ w ⟨rfl,j⟩
     refine uh zr (fU ae (vb bl) (DP.d0 (DP.z ?_)))
     obtain rfl:=oi hj
     exact⟨rfl,j.sp 7 [3,4,5,6]⟩
    rintro _ w ⟨O,rfl,j⟩
    refine aG ?_
    obtain⟨aq,hj,o⟩:=bd o
    refine RC.jn (fun(aq: (List Bool)×(List aI)) U w=>∃ar:Value,SH E V [(0,v0),(3,af),(4,ah),(5,vi aa.2.2),(6,ar),(7,vi ag.2.2),(8,vi ad.2.2)] [rd v0 p0,own 4 af aq.1,own 23 ah aa.2.1,own 73 ar aq.2] U w) aq ?_ ?_
    ·refine dX hj (fun hc hj=>?_) fun hc hj=>?_
     rotate_left
     ·refine RC.skip ?_
      obtain rfl:=oi hj
      exact⟨rfl,aj,j.sp 4 [0,1,2,3]⟩
     refine RC.sr (mv af (mv (vi ad.2.2) ?_))
     obtain⟨b5,a0,hj⟩:=bd hj
     refine RL.bS 1 j zr zr Bo a0 ?_
     have j:=j.sc Bool true
     refine RL.gR (f:=(fun _ y=>y)) 2 0 j (jJ 2 j a0 0) (bI a0).2.1 zr Fs.self BN fun w j=>?_
     refine RL.nt (RC.region (mv aj (mv v0 (mv (vi ad.2.2) ?_))))
     obtain⟨a8,bn,hj⟩:=bd hj
     refine RL.bM 1 j iK bn fun b6 j=>(RL.bF 0 a8 j iq fun bo j=>(RL.dQ ([a8]: (List aI)) j [bo] iK om (fun M hs g=>⟨(g.sat 0 _ zr).1,zt⟩) fun b7 w j=>?_))
     have j:=j.freeze 0
     obtain⟨b8,bp,hj⟩:=bd hj
     refine RL.app 7 0 j z9 bp fun a9 w j=>?_
     refine aP a9 (RL.nil ?_)
     obtain rfl:=oi hj
     exact⟨rfl,a9,j.sp 8 [4,5,6,7]⟩
    rintro _ w ⟨ar,O,rfl,j⟩
    refine bO (aG (RC.region (mv (vi ad.2.2) (RL.fO ad.2.2 1 (aP (vi (IntKind.wrap .i64 (ad.2.2+1))) (RL.nil ?_))))))
    obtain rfl:=oi o
    exact⟨rfl,ar,j.sp 4 [0,1,2,3]⟩
   ·intro r _ _ _ _
    exact r.elim
   rintro ad _ w rfl ⟨ao,O,rfl,j⟩
   rw [Fo.dB] at o
   refine bO (aG (RC.region (mv (vi ag.2.2) (RL.fO ag.2.2 1 (aP (vi (IntKind.wrap .i64 (ag.2.2+1))) (RL.nil ?_))))))
   obtain rfl:=oi o
   exact⟨rfl,ao,j.sp 4 [0,1,2,3]⟩
  ·intro r _ _ _ _
   exact r.elim
  rintro ag _ w rfl ⟨an,O,rfl,j⟩
  rw [Fo.dB] at o
  refine aG (RC.region (mv ah (mv an ?_)))
  have j:=j.freeze 3
  obtain⟨b9,bq,o⟩:=bd o
  refine RL.call zt zr Kr [an] zr (aD (ki N (i0:=3) j zr bq) ?_)
  rintro br w j
  have j:=(j.freeze 3).freeze 0
  obtain⟨ca,bt,o⟩:=bd o
  refine RL.call zt zr Nj [ah,br] zr (aD (sN N (i0:=3) (i1:=0) j zr zr bt) ?_)
  rintro ba w j
  refine aP ba (RL.nil (bO (aG (RC.region (mv (vi aa.2.2) (RL.fO aa.2.2 1 (aP (vi (IntKind.wrap .i64 (aa.2.2+1))) (RL.nil ?_))))))))
  obtain rfl:=oi o
  exact⟨rfl,ba,j.sp 6 [2,3,0]⟩
 ·intro r _ _ _ _
  exact r.elim
 rintro aa _ w rfl ⟨al,O,rfl,j⟩
 rw [Fo.dB] at o
 refine aG (RC.sr (mv al (aP al (RL.nt (RC.ret ?_)))))
 obtain rfl:=oi o
 exact bY (j.pk 3 [2])
end Go.Gk
