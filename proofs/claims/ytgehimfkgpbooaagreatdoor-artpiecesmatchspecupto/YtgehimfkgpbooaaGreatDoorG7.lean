/-
  Printed texts: Go functions as plain functions, and that they are. No statement of the seed is proved here.
-/
import Derived.Test.YtgehimfkgpbooaaGreatDoorG1
import Derived.Test.YtgehimfkgpbooaaGreatDoorG6
import Derived.Test.YtgehimfkgpbooaaGreatDoorA2
set_option linter.unusedVariables false
set_option linter.unusedSimpArgs false
set_option linter.unusedSectionVars false
set_option maxRecDepth 100000
set_option maxHeartbeats 4000000
namespace Go.Gk
open Go Go.Proofs
variable (N:Nat) {E w:World} {i0 i1:Nat} {p1 p2 res:Int} {v0 v1:Value} {Γ:List HP}
theorem qq {p0:ld} (hw:Holds E w Γ) (h0:Γ[i0]? =some (rd v0 p0)) (hb:ir N p0 p1=some res):
    Calls bM 59 [v0,(vi p1)].toArray w (gL (aW E Γ res)):=by
 unfold ir at hb
 refine enter Tryz.func59 zr zr ?_
 have hw:=hw.dup (i0+0) h0
 refine RC.sr (RL.dJ 0 v0 hw zr fun af w hw=>?_)
 refine aQ (vi 0) (RL.ns (RL.aX zr rf (RL.bE 0 hw zr n7 Az fun ax hw=>(mv (vi p1) ?_))))
 obtain⟨j,an,hb⟩:=bd hb
 refine RL.bN 0 hw Fv an fun ay hw=>(RL.bL 0 j hw u5 fun az hw=>(RL.alloc hw Gy.z fun ad w hw=>?_))
 refine RL.cB 0 hw 1 zr u5 fun w hw=>?_
 refine RL.nq (RC.seq ?_)
 obtain⟨ag,hj,hb⟩:=bd hb
 refine RC.jn (fun(ag:Bool)=>SH E Γ [(1,vi p1),(2,vp af 0),(5,vp ad 0),(21,vb ag)] [bx 27 af p0,bx 79 ad j]) ag ?_ ?_
 ·refine RC.region (RL.aX zr t4 (RL.aM 0 hw zr nF Aq ?_))
  obtain⟨ai,ao,hj⟩:=bd hj
  refine RL.call zt zr L9 [(str j.Part)] zr (aD (rT N (p0:=j.Part) hw ao) ?_)
  rintro _ w ⟨rfl,hw⟩
  refine RL.not ai (mv (vb (!ai)) (fB hj (fun aa hj=>?_) fun aa hj=>?_))
  ·refine bJ aa (bJ aa (bJ aa (bJ aa (fG aa (vb true) (RL.nil ?_)))))
   obtain rfl:=oi hj
   exact⟨rfl,hw.sp 6 [4,0]⟩
  refine RL.aX (hg:=(cg aa)) zr xD (RL.aM (hg:=(cg aa)) 0 hw zr pY Aq ?_)
  obtain⟨aj,aq,hj⟩:=bd hj
  refine RL.call (cg aa) zr KG [(str j.fk)] zr (aD (nN N (p0:=j.fk) hw aq) ?_)
  rintro _ w ⟨rfl,hw⟩
  refine RL.not (hg:=(cg aa)) aj (fG aa (vb (!aj)) (RL.nil ?_))
  obtain rfl:=oi hj
  exact⟨rfl,hw.sp 6 [4,0]⟩
 rintro _ w ⟨τ,rfl,hw⟩
 refine aH (dT hb (fun hc hb=>?_) fun hc hb=>?_)
 ·refine RC.sr (aQ (vi 5) (RL.nt (RC.rt ?_)))
  obtain rfl:=oi hb
  exact bX ⟨rfl,hw.drop 2⟩
 refine RC.ss (RC.seq ?_)
 obtain⟨ah,hj,hb⟩:=bd hb
 refine RC.jn (fun(ah:Bool)=>SH E Γ [(1,vi p1),(2,vp af 0),(5,vp ad 0),(35,vb ah)] [bx 27 af p0,bx 79 ad j]) ah ?_ ?_
 ·refine RC.region (RL.aX zr xE (RL.aM 1 hw zr pZ cJ (RL.aX zr me (RL.bE 0 hw zr iS oD fun a0 hw=>(RL.bC 0 p0.aJ hw pE (RL.fQ (p0.aJ.length:Int) 1 ?_))))))
  obtain⟨ak,ar,hj⟩:=bd hj
  refine RL.call zt zr D9 [(vi j.cU),(vi 0),(vi (IntKind.wrap .i64 ((p0.aJ.length:Int) - 1)))] zr (aD (eY N (p0:=j.cU) (p1:=0) (p2:=(IntKind.wrap .i64 ((p0.aJ.length:Int) - 1))) hw ar) ?_)
  rintro _ w ⟨rfl,hw⟩
  refine RL.not ak (mv (vb (!ak)) (fB hj (fun ab hj=>?_) fun ab hj=>?_))
  ·refine bJ ab (bJ ab (bJ ab (bJ ab (fG ab (vb true) (RL.nil ?_)))))
   obtain rfl:=oi hj
   exact⟨rfl,hw.sp 3 [1,2]⟩
  refine RL.aX (hg:=(cg ab)) zr xF (RL.bE (hg:=(cg ab)) 2 hw zr p4 CZ fun au hw=>?_)
  obtain⟨al,av,hj⟩:=bd hj
  refine RL.call (cg ab) zr KF [au] zr (aD (m9 N (i0:=0) hw zr av) ?_)
  rintro _ w ⟨rfl,hw⟩
  refine RL.not (hg:=(cg ab)) al (fG ab (vb (!al)) (RL.nil ?_))
  obtain rfl:=oi hj
  exact⟨rfl,hw.sp 4 [2,3]⟩
 rintro _ w ⟨τ,rfl,hw⟩
 refine aH (dT hb (fun hc hb=>?_) fun hc hb=>?_)
 ·refine RC.sr (aQ (vi 1) (RL.nt (RC.rt ?_)))
  obtain rfl:=oi hb
  exact bX ⟨rfl,hw.drop 2⟩
 refine RC.ss (RC.sr (mv (vi p1) (ic p1 0 (RL.nt (dT hb (fun hc hb=>?_) fun hc hb=>?_)))))
 rotate_left
 ·refine RC.sx (aQ (vi 0) (RL.nt (RC.ret ?_)))
  obtain rfl:=oi hb
  exact bX ⟨rfl,hw.drop 2⟩
 refine RC.sr (RL.aX zr rf (RL.bE 0 hw zr n7 Az fun a1 hw=>(mv (vi p1) (RL.fQ p1 1 ?_))))
 obtain⟨o,aw,hb⟩:=bd hb
 refine RL.bN 0 hw Fv aw fun a2 hw=>(RL.bL 0 o hw u5 fun a3 hw=>(RL.alloc hw Gy.z fun ae w hw=>?_))
 refine RL.cB 0 hw 1 zr u5 fun w hw=>?_
 refine RL.ns (RL.aX rfl t4 (RL.aM 5 hw rfl nF Aq (RL.aX rfl t4 (RL.aM 0 hw rfl nF Aq (RL.DQ j.Part o.Part trivial rfl rfl rfl rfl (mv (vb (j.Part.sB o.Part)) (RL.gs true (j.Part.sB o.Part) (vp ad 0) rfl rfl rfl (dY t4) (RL.gs true (j.Part.sB o.Part) (str j.Part) rfl rfl rfl (bZ 5 rfl hw (fun h=>by exact(cI h:cv (true&&((j.Part.sB o.Part)==false)) (vp ad 0)= (vp ad 0))) rfl nF Aq) ?_))))))))
 refine RL.gs true (j.Part.sB o.Part) (vp ae 0) rfl rfl rfl (dY t4) (RL.gs true (j.Part.sB o.Part) (str o.Part) rfl rfl rfl (bZ 0 rfl hw (fun h=>by exact(cI h:cv (true&&((j.Part.sB o.Part)==false)) (vp ae 0)= (vp ae 0))) rfl nF Aq) (RL.gs true (j.Part.sB o.Part) (vb (j.Part.sA o.Part)) rfl rfl rfl (Bu .eql j.Part o.Part rfl (fun h=>by exact(cI h:cv (true&&((j.Part.sB o.Part)==false)) (str j.Part)= (str j.Part))) (fun h=>by exact(cI h:cv (true&&((j.Part.sB o.Part)==false)) (str o.Part)= (str o.Part))) rfl) (RL.gs true (j.Part.sB o.Part) (vb (j.Part.sA o.Part)) rfl rfl rfl (cF (hx:=fun h=>by exact(cI h:cv (true&&((j.Part.sB o.Part)==false)) (vb (j.Part.sA o.Part))= (vb (j.Part.sA o.Part))))) (RL.gs (true&&((j.Part.sB o.Part)==false)) (j.Part.sA o.Part) (vp ad 1) rfl rfl rfl (dY xD) (RL.gs (true&&((j.Part.sB o.Part)==false)) (j.Part.sA o.Part) (str j.fk) rfl rfl rfl (bZ 5 rfl hw (fun h=>by exact(cI h:cv ((true&&((j.Part.sB o.Part)==false))&&((j.Part.sA o.Part)==true)) (vp ad 1)= (vp ad 1))) rfl pY Aq) (RL.gs (true&&((j.Part.sB o.Part)==false)) (j.Part.sA o.Part) (vp ae 1) rfl rfl rfl (dY xD) (RL.gs (true&&((j.Part.sB o.Part)==false)) (j.Part.sA o.Part) (str o.fk) rfl rfl rfl (bZ 0 rfl hw (fun h=>by exact(cI h:cv ((true&&((j.Part.sB o.Part)==false))&&((j.Part.sA o.Part)==true)) (vp ae 1)= (vp ae 1))) rfl pY Aq) (RL.gs (true&&((j.Part.sB o.Part)==false)) (j.Part.sA o.Part) (vb (j.fk.sB o.fk||j.fk.sA o.fk)) rfl rfl rfl (Bu .leq j.fk o.fk rfl (fun h=>by exact(cI h:cv ((true&&((j.Part.sB o.Part)==false))&&((j.Part.sA o.Part)==true)) (str j.fk)= (str j.fk))) (fun h=>by exact(cI h:cv ((true&&((j.Part.sB o.Part)==false))&&((j.Part.sA o.Part)==true)) (str o.fk)= (str o.fk))) rfl) ?_))))))))
 refine RL.gs true (j.Part.sB o.Part) (vb ((j.Part.sA o.Part)&&(j.fk.sB o.fk||j.fk.sA o.fk))) rfl rfl rfl (kj (j.Part.sA o.Part) rfl (fun h=>by exact(cI h:cv (true&&((j.Part.sB o.Part)==false)) (vb (j.Part.sA o.Part))= (vb (j.Part.sA o.Part)))) (fun h=>by exact fZ (true&&((j.Part.sB o.Part)==false)) h)) (RL.pick (j.Part.sB o.Part) (vb ((j.Part.sB o.Part)||((j.Part.sA o.Part)&&(j.fk.sB o.fk||j.fk.sA o.fk)))) (nD true) (RL.nt (dT hb (fun hc hb=>?_) fun hc hb=>?_)))
 ·refine RC.sr (aQ (vi 8) (RL.nt (RC.rt ?_)))
  obtain rfl:=oi hb
  exact bX ⟨rfl,hw.drop 6⟩
 refine RC.sx (aQ (vi 0) (RL.nt (RC.ret ?_)))
 obtain rfl:=oi hb
 exact bX ⟨rfl,hw.drop 6⟩
def jZ (E:World) (Γ:List HP) (r:Int) (σ:Nat->Value) (w:World):Prop:=lZ bM 115 Tryz.f25 (aW E Γ r) .ret σ w
theorem pM {p0:ld} (hw:Holds E w Γ) (h0:Γ[i0]? =some (rd v0 p0)) (hb:gQ N p0=some res):
    Calls bM 25 [v0].toArray w (gL (aW E Γ res)):=by
 unfold gQ at hb
 refine enter Tryz.func25 zr zr ?_
 have hw:=hw.dup (i0+0) h0
 refine RC.sr (RL.dJ 0 v0 hw zr fun aa w hw=>?_)
 refine aQ (vi 0) (RL.nq (RC.sr (RL.aX zr me (RL.bE 0 hw zr iS oD fun a7 hw=>(RL.bC 0 p0.aJ hw pE (ic ((p0.aJ.length:Int)) 0 (RL.nt (dT hb (fun hc hb=>?_) fun hc hb=>?_))))))))
 ·refine RC.sr (aQ (vi 9) (RL.nt (RC.rt ?_)))
  obtain rfl:=oi hb
  exact bX ⟨rfl,hw.drop 3⟩
 refine RC.ss (RC.sr (RL.aX zr me (RL.bE 1 hw zr iS oD fun a8 hw=>(RL.bC 0 p0.aJ hw pE (ic ((p0.aJ.length:Int)) 16 (RL.nt (dT hb (fun hc hb=>?_) fun hc hb=>?_)))))))
 ·refine RC.sr (aQ (vi 2) (RL.nt (RC.rt ?_)))
  obtain rfl:=oi hb
  exact bX ⟨rfl,hw.drop 4⟩
 refine RC.sx (RL.aX zr BL (RL.bE 2 hw zr rG rH fun a9 hw=>(RL.bC 0 p0.cE hw mS (aQ (vi p0.cE.length) (RL.nq (RC.sr (aQ (vi 0) (RL.nt ?_))))))))
 obtain⟨ba,hN,hb⟩:=bd hb
 refine RC.iter (fun(o:Int×Int)=>SH E Γ [(1,vp aa 0),(3,vi o.1),(4,vi o.2)] [bx 27 aa p0]) (fun(o:Int×Int)=>SH E Γ [(1,vp aa 0),(3,vi o.1)] [bx 27 aa p0]) (jZ E Γ) hN ?_ ?_ ?_ ?_
 ·exact hw.sp 5 [3]
 ·rintro o fl _ w ⟨τ,rfl,hw⟩ hb
  refine RC.seq (RC.sr (mv (vi o.2) (RL.aX zr me (RL.bE 0 hw zr iS oD fun bb hw=>(RL.bC 0 p0.aJ hw pE (ic o.2 ((p0.aJ.length:Int)) (RL.nt (dT hb (fun hc hb=>?_) fun hc hb=>?_))))))))
  rotate_left
  ·refine RC.ex ?_
   obtain rfl:=oi hb
   exact⟨rfl,hw.sp 2 [1]⟩
  refine RC.ss (RC.block (RC.seq (RC.sr (RL.aX zr me (RL.bE 1 hw zr iS oD fun bc hw=>(mv (vi o.2) ?_))))))
  obtain⟨ar,au,hb⟩:=bd hb
  refine RL.bN 0 hw tz au fun bf hw=>(RL.bL 0 ar hw rH fun av hw=>?_)
  obtain⟨ag,aw,hb⟩:=bd hb
  refine RL.call zt zr KE [av] zr (aD (ly N (i0:=0) hw zr aw) ?_)
  rintro _ w ⟨rfl,hw⟩
  refine aQ (vi ag) (RL.ns (mv (vi ag) (ic ag 0 (RL.nt (dT hb (fun hc hb=>?_) fun hc hb=>?_)))))
  ·refine RC.sr (mv (vi ag) (aQ (vi ag) (RL.nt (RC.rt (nX (bS ?_))))))
   obtain rfl:=oi hb
   exact⟨rfl,bX ⟨rfl,hw.drop 5⟩⟩
  refine RC.sn (RC.region (mv (vi o.1) (RL.aX zr me (RL.bE 4 hw zr iS oD fun bg hw=>(mv (vi o.2) ?_)))))
  obtain⟨ak,ax,hb⟩:=bd hb
  refine RL.bN 0 hw tz ax fun bh hw=>(RL.bL 0 ak hw rH fun bj hw=>(RL.bC 0 ak hw mS (RL.fQ o.1 (ak.length:Int) (aQ (vi (IntKind.wrap .i64 (o.1+ (ak.length:Int)))) (RL.nil (bO (aH (RC.region ?_))))))))
  refine mv (vi o.2) (RL.fQ o.2 1 (aQ (vi (IntKind.wrap .i64 (o.2+1))) (RL.nil ?_)))
  obtain rfl:=oi hb
  exact⟨rfl,hw.sp 8 [7]⟩
 ·intro r σ w e hK
  subst e
  refine bS ?_
  obtain rfl:=oi hb
  exact hK
 rintro o _ w rfl ⟨τ,rfl,hw⟩
 rw [Fo.dF] at hb
 refine aH (RC.seq (RC.sr (RL.aX zr BL (RL.bE 0 hw zr rG rH fun ay hw=>?_))))
 obtain⟨ah,az,hb⟩:=bd hb
 refine RL.call zt zr KE [ay] zr (aD (ly N (i0:=0) hw zr az) ?_)
 rintro _ w ⟨rfl,hw⟩
 refine aQ (vi ah) (RL.ns (mv (vi ah) (ic ah 0 (RL.nt (dT hb (fun hc hb=>?_) fun hc hb=>?_)))))
 ·refine RC.sr (mv (vi ah) (aQ (vi ah) (RL.nt (RC.rt ?_))))
  obtain rfl:=oi hb
  exact bX ⟨rfl,hw.drop 2⟩
 refine RC.ss (RC.seq ?_)
 obtain⟨al,hj,hb⟩:=bd hb
 refine RC.jn (fun(al:Bool)=>SH E Γ [(1,vp aa 0),(60,vb al)] [bx 27 aa p0]) al ?_ ?_
 ·refine RC.region (mv (vi o.1) (ic o.1 2000 (mv (vb (decide (o.1>2000))) (fB hj (fun ad hj=>?_) fun ad hj=>?_))))
  ·refine bJ ad (bJ ad (bJ ad (bJ ad (fG ad (vb true) (RL.nil ?_)))))
   obtain rfl:=oi hj
   exact⟨rfl,hw.sp 2 [1]⟩
  refine RL.aX (hg:=(cg ad)) zr gC (RL.bE (hg:=(cg ad)) 1 hw zr gk mT fun bk hw=>(RL.bC (hg:=(cg ad)) 0 p0.aO hw t3 (RL.kL (p0.aO.length:Int) 500 (cg ad) (fG ad (vb (decide ((p0.aO.length:Int)>500))) (RL.nil ?_)))))
  obtain rfl:=oi hj
  exact⟨rfl,hw.sp 3 [2]⟩
 rintro _ w ⟨τ,rfl,hw⟩
 refine aH (dT hb (fun hc hb=>?_) fun hc hb=>?_)
 ·refine RC.sr (aQ (vi 2) (RL.nt (RC.rt ?_)))
  obtain rfl:=oi hb
  exact bX ⟨rfl,hw.drop 1⟩
 refine RC.ss (RC.sr (aQ (vi 0) (RL.nt ?_)))
 obtain⟨bl,hN,hb⟩:=bd hb
 refine RC.iter (fun(ae:Int)=>SH E Γ [(1,vp aa 0),(7,vi ae)] [bx 27 aa p0]) (fun(ae:Int)=>SH E Γ [(1,vp aa 0)] [bx 27 aa p0]) (jZ E Γ) hN ?_ ?_ ?_ ?_
 ·exact hw.sp 1 [0]
 ·rintro ae fl _ w ⟨τ,rfl,hw⟩ hb
  refine RC.seq (RC.sr (mv (vi ae) (RL.aX zr gC (RL.bE 0 hw zr gk mT fun bm hw=>(RL.bC 0 p0.aO hw t3 (ic ae ((p0.aO.length:Int)) (RL.nt (dT hb (fun hc hb=>?_) fun hc hb=>?_))))))))
  rotate_left
  ·refine RC.ex ?_
   obtain rfl:=oi hb
   exact⟨rfl,hw.sp 2 [1]⟩
  refine RC.ss (RC.bs (RL.aX zr gC (RL.bE 1 hw zr gk mT fun bn hw=>(mv (vi ae) ?_))))
  obtain⟨af,a0,hb⟩:=bd hb
  refine RL.bN 0 hw qc a0 fun bo hw=>(RL.bL 0 af hw lP fun bp hw=>(RL.alloc hw D6.z fun bq w hw=>?_))
  refine RL.cB 0 hw 1 zr lP fun w hw=>?_
  refine RL.nq (RC.sr (RL.bE (f:=(fun x=>x)) 0 hw zr Fd.self lP fun a1 hw=>?_))
  obtain⟨ai,a2,hb⟩:=bd hb
  refine RL.call zt zr L8 [a1] zr (aD (pg N (i0:=0) hw zr a2) ?_)
  rintro _ w ⟨rfl,hw⟩
  refine aQ (vi ai) (RL.ns (mv (vi ai) (ic ai 0 (RL.nt (dT hb (fun hc hb=>?_) fun hc hb=>?_)))))
  ·refine RC.sr (mv (vi ai) (aQ (vi ai) (RL.nt (RC.rt (nX (bS ?_))))))
   obtain rfl:=oi hb
   exact⟨rfl,bX ⟨rfl,hw.drop 7⟩⟩
  refine RC.ss ?_
  obtain⟨an,hj,hb⟩:=bd hb
  refine RC.jn (fun(an:Bool)=>SH E Γ [(1,vp aa 0),(7,vi ae),(97,vb an)] [bx 27 aa p0]) an ?_ ?_
  ·refine RC.region (RL.aX zr o9 (RL.aM 1 hw zr kf cJ (RL.aX zr me (RL.bE 6 hw zr iS oD fun br hw=>(RL.bC 0 p0.aJ hw pE (RL.fQ (p0.aJ.length:Int) 1 ?_))))))
   obtain⟨ao,a3,hj⟩:=bd hj
   refine RL.call zt zr D9 [(vi af.cN),(vi 0),(vi (IntKind.wrap .i64 ((p0.aJ.length:Int) - 1)))] zr (aD (eY N (p0:=af.cN) (p1:=0) (p2:=(IntKind.wrap .i64 ((p0.aJ.length:Int) - 1))) hw a3) ?_)
   rintro _ w ⟨rfl,hw⟩
   refine RL.not ao (mv (vb (!ao)) (fB hj (fun j hj=>?_) fun j hj=>?_))
   ·refine bJ j (bJ j (bJ j (bJ j (bJ j (bJ j (bJ j (bJ j (bJ j ?_))))))))
    refine bJ j (fG j (vb true) (RL.nil ?_))
    obtain rfl:=oi hj
    exact⟨rfl,hw.sp 8 [7]⟩
   refine RL.aX (hg:=(cg j)) zr re (RL.aM (hg:=(cg j)) 2 hw zr lJ cJ (RL.aX (hg:=(cg j)) zr o9 (RL.aM (hg:=(cg j)) 2 hw zr kf cJ (RL.aX (hg:=(cg j)) zr me (RL.bE (hg:=(cg j)) 7 hw zr iS oD fun bt hw=>(RL.bC (hg:=(cg j)) 0 p0.aJ hw pE (RL.fQ (hg:=(cg j)) (p0.aJ.length:Int) 1 ?_)))))))
   obtain⟨aq,a4,hj⟩:=bd hj
   refine RL.call (cg j) zr D9 [(vi af.To),(vi af.cN),(vi (IntKind.wrap .i64 ((p0.aJ.length:Int) - 1)))] zr (aD (eY N (p0:=af.To) (p1:=af.cN) (p2:=(IntKind.wrap .i64 ((p0.aJ.length:Int) - 1))) hw a4) ?_)
   rintro _ w ⟨rfl,hw⟩
   refine RL.not (hg:=(cg j)) aq (fG j (vb (!aq)) (RL.nil ?_))
   obtain rfl:=oi hj
   exact⟨rfl,hw.sp 9 [8]⟩
  rintro _ w ⟨τ,rfl,hw⟩
  refine aH (dT hb (fun hc hb=>?_) fun hc hb=>?_)
  ·refine RC.sr (aQ (vi 1) (RL.nt (RC.rb (bS ?_))))
   obtain rfl:=oi hb
   exact⟨rfl,bX ⟨rfl,hw.drop 1⟩⟩
  refine RC.skip (bO (aH (RC.region (mv (vi ae) (RL.fQ ae 1 (aQ (vi (IntKind.wrap .i64 (ae+1))) (RL.nil ?_)))))))
  obtain rfl:=oi hb
  exact⟨rfl,hw.sp 1 [0]⟩
 ·intro r σ w e hK
  subst e
  refine bS ?_
  obtain rfl:=oi hb
  exact hK
 rintro ae _ w rfl ⟨τ,rfl,hw⟩
 rw [Fo.dF] at hb
 refine aH (RC.seq (RC.sr (RL.aX zr rf (RL.bE 0 hw zr n7 Az fun bu hw=>(RL.bC 0 p0.bV hw Fu (ic ((p0.bV.length:Int)) 1000 (RL.nt (dT hb (fun hc hb=>?_) fun hc hb=>?_))))))))
 ·refine RC.sr (aQ (vi 2) (RL.nt (RC.rt ?_)))
  obtain rfl:=oi hb
  exact bX ⟨rfl,hw.drop 2⟩
 refine RC.ss (RC.sr (aQ (vi 0) (RL.nt ?_)))
 obtain⟨bw,hN,hb⟩:=bd hb
 refine RC.iter (fun(ab:Int)=>SH E Γ [(1,vp aa 0),(10,vi ab)] [bx 27 aa p0]) (fun(ab:Int)=>SH E Γ [] [bx 27 aa p0]) (jZ E Γ) hN ?_ ?_ ?_ ?_
 ·exact hw.sp 2 [1]
 ·rintro ab fl _ w ⟨τ,rfl,hw⟩ hb
  refine RC.seq (RC.sr (mv (vi ab) (RL.aX zr rf (RL.bE 0 hw zr n7 Az fun bz hw=>(RL.bC 0 p0.bV hw Fu (ic ab ((p0.bV.length:Int)) (RL.nt (dT hb (fun hc hb=>?_) fun hc hb=>?_))))))))
  rotate_left
  ·refine RC.ex ?_
   obtain rfl:=oi hb
   exact⟨rfl,hw.sp 2 [1]⟩
  refine RC.ss (RC.bs (RL.bE (f:=(fun x=>x)) 1 hw zr Fd.self tx fun a5 hw=>(mv (vi ab) ?_)))
  obtain⟨aj,a6,hb⟩:=bd hb
  refine RL.call zt zr Ma [a5,(vi ab)] zr (aD (qq N (p1:=ab) (i0:=0) hw zr a6) ?_)
  rintro _ w ⟨rfl,hw⟩
  refine aQ (vi aj) (RL.ns (mv (vi aj) (ic aj 0 (RL.nt (dT hb (fun hc hb=>?_) fun hc hb=>?_)))))
  rotate_left
  ·refine RC.skip (bO (aH (RC.region (mv (vi ab) (RL.fQ ab 1 (aQ (vi (IntKind.wrap .i64 (ab+1))) (RL.nil ?_)))))))
   obtain rfl:=oi hb
   exact⟨rfl,hw.sp 3 [2]⟩
  refine RC.sr (mv (vi aj) (aQ (vi aj) (RL.nt (RC.rb (bS ?_)))))
  obtain rfl:=oi hb
  exact⟨rfl,bX ⟨rfl,hw.drop 3⟩⟩
 ·intro r σ w e hK
  subst e
  refine bS ?_
  obtain rfl:=oi hb
  exact hK
 rintro ab _ w rfl ⟨τ,rfl,hw⟩
 rw [Fo.dF] at hb
 refine aH (RC.sr (aQ (vi 0) (RL.nt (RC.ret ?_))))
 obtain rfl:=oi hb
 exact bX ⟨rfl,hw.drop 1⟩
theorem rU {p0 p1:cD} {res:Bool} (hw:Holds E w Γ) (h0:Γ[i0]? =some (rd v0 p0)) (h1:Γ[i1]? =some (rd v1 p1)) (hb:iu N p0 p1=some res):
    Calls bM 26 [v0,v1].toArray w (gL (aV E Γ res)):=by
 unfold iu at hb
 refine enter Tryz.func26 zr zr ?_
 have hw:=(hw.dup (i0+0) h0).dup (i1+1) h1
 refine RC.sr (RL.dJ 1 v0 hw zr fun j w hw=>?_)
 refine RL.dJ 1 v1 hw zr fun o w hw=>?_
 refine aQ (vb false) (RL.ns (RL.aX zr o9 (RL.aM 1 hw zr kf cJ (RL.aX zr re (RL.aM 0 hw zr lJ cJ (ic p0.cN p1.To (mv (vb (decide (p0.cN<=p1.To))) (RL.gs true (decide (p0.cN<=p1.To)) (vp o 3) zr zr zr (dY o9) ?_))))))))
 refine RL.gs true (decide (p0.cN<=p1.To)) (vi p1.cN) rfl rfl rfl (bZ 0 rfl hw (fun h=>by exact(cI h:cv (true&&((decide (p0.cN<=p1.To))==true)) (vp o 3)= (vp o 3))) rfl kf cJ) (RL.gs true (decide (p0.cN<=p1.To)) (vp j 4) rfl rfl rfl (dY re) (RL.gs true (decide (p0.cN<=p1.To)) (vi p0.To) rfl rfl rfl (bZ 1 rfl hw (fun h=>by exact(cI h:cv (true&&((decide (p0.cN<=p1.To))==true)) (vp j 4)= (vp j 4))) rfl lJ cJ) (RL.gs true (decide (p0.cN<=p1.To)) (vb (decide (p1.cN<=p0.To))) rfl rfl rfl (dI .leq .i64 p1.cN p0.To rfl (fun h=>by exact(cI h:cv (true&&((decide (p0.cN<=p1.To))==true)) (vi p1.cN)= (vi p1.cN))) (fun h=>by exact(cI h:cv (true&&((decide (p0.cN<=p1.To))==true)) (vi p0.To)= (vi p0.To))) rfl) (RL.pick (decide (p0.cN<=p1.To)) (vb ((decide (p0.cN<=p1.To))&&(decide (p1.cN<=p0.To)))) (fZ true rfl) (aQ (vb ((decide (p0.cN<=p1.To))&&(decide (p1.cN<=p0.To)))) (RL.nt (RC.ret ?_)))))))
 obtain rfl:=oi hb
 exact bX ⟨rfl,hw.drop 4⟩
theorem rq {p0 p1:aI} {res:Bool} (hw:Holds E w Γ) (h0:Γ[i0]? =some (rd v0 p0)) (h1:Γ[i1]? =some (rd v1 p1)) (hb:fN N p0 p1=some res):
    Calls bM 27 [v0,v1].toArray w (gL (aV E Γ res)):=by
 unfold fN at hb
 refine enter Tryz.func27 zr zr ?_
 have hw:=(hw.dup (i0+0) h0).dup (i1+1) h1
 refine RC.sr (RL.dJ 1 v0 hw zr fun aa w hw=>?_)
 refine RL.dJ 1 v1 hw zr fun ab w hw=>?_
 refine aQ (vb false) (RL.nq ?_)
 obtain⟨o,hj,hb⟩:=bd hb
 refine RC.jn (fun(o:Bool)=>SH E Γ [(4,vb o)] []) o ?_ ?_
 ·refine RC.region (RL.aX zr iZ (RL.aM 1 hw zr eC cJ (RL.aX zr iZ (RL.aM 0 hw zr eC cJ (RL.min p0.X1 p1.X1 (RL.aX zr g9 (RL.aM 1 hw zr dL cJ (RL.aX zr g9 ?_))))))))
  refine RL.aM 0 hw zr dL cJ (RL.max p0.X0 p1.X0 (ic ((if p1.X1<p0.X1 then p1.X1 else p0.X1)) ((if p0.X0<p1.X0 then p1.X0 else p0.X0)) (mv (vb (decide ((if p1.X1<p0.X1 then p1.X1 else p0.X1)> (if p0.X0<p1.X0 then p1.X0 else p0.X0)))) (fB hj (fun j hj=>?_) fun j hj=>?_))))
  ·refine RL.aX (hg:=(cg j)) zr ka (RL.aM (hg:=(cg j)) 1 hw zr fo cJ (RL.aX (hg:=(cg j)) zr ka (RL.aM (hg:=(cg j)) 0 hw zr fo cJ (RL.min (hg:=(cg j)) p0.Y1 p1.Y1 (RL.aX (hg:=(cg j)) zr gR (RL.aM (hg:=(cg j)) 1 hw zr dG cJ (RL.aX (hg:=(cg j)) zr gR (RL.aM (hg:=(cg j)) 0 hw zr dG cJ ?_))))))))
   refine RL.max (hg:=(cg j)) p0.Y0 p1.Y0 (RL.kL (if p1.Y1<p0.Y1 then p1.Y1 else p0.Y1) (if p0.Y0<p1.Y0 then p1.Y0 else p0.Y0) (cg j) (fG j (vb (decide ((if p1.Y1<p0.Y1 then p1.Y1 else p0.Y1)> (if p0.Y0<p1.Y0 then p1.Y0 else p0.Y0)))) (aQ (vb (decide ((if p1.Y1<p0.Y1 then p1.Y1 else p0.Y1)> (if p0.Y0<p1.Y0 then p1.Y0 else p0.Y0)))) (RL.nil ?_))))
   obtain rfl:=oi hj
   exact⟨rfl,hw.sp 4 []⟩
  refine bJ j (bJ j (bJ j (bJ j (bJ j (bJ j (bJ j (bJ j (bJ j ?_))))))))
  refine bJ j (bJ j (fG j (vb false) (aQ (vb false) (RL.nil ?_))))
  obtain rfl:=oi hj
  exact⟨rfl,hw.sp 4 []⟩
 rintro _ w ⟨τ,rfl,hw⟩
 refine aH (RC.ret ?_)
 obtain rfl:=oi hb
 exact bX ⟨rfl,hw.drop 0⟩
theorem jd {p0:cD} {res:Bool} (hw:Holds E w Γ) (h0:Γ[i0]? =some (rd v0 p0)) (hb:eR N p0 p1=some res):
    Calls bM 31 [v0,(vi p1)].toArray w (gL (aV E Γ res)):=by
 unfold eR at hb
 refine enter Tryz.func31 zr zr ?_
 have hw:=hw.dup (i0+0) h0
 refine RC.sr (RL.dJ 0 v0 hw zr fun j w hw=>?_)
 refine aQ (vb false) (RL.ns (RL.aX zr o9 (RL.aM 0 hw zr kf cJ (mv (vi p1) (ic p0.cN p1 (mv (vb (decide (p0.cN<=p1))) (RL.gs true (decide (p0.cN<=p1)) (vi p1) zr zr zr cF (RL.gs true (decide (p0.cN<=p1)) (vp j 4) zr zr zr (dY re) ?_))))))))
 refine RL.gs true (decide (p0.cN<=p1)) (vi p0.To) rfl rfl rfl (bZ 0 rfl hw (fun h=>by exact(cI h:cv (true&&((decide (p0.cN<=p1))==true)) (vp j 4)= (vp j 4))) rfl lJ cJ) (RL.gs true (decide (p0.cN<=p1)) (vb (decide (p1<=p0.To))) rfl rfl rfl (dI .leq .i64 p1 p0.To rfl (fun h=>by exact(cI h:cv (true&&((decide (p0.cN<=p1))==true)) (vi p1)= (vi p1))) (fun h=>by exact(cI h:cv (true&&((decide (p0.cN<=p1))==true)) (vi p0.To)= (vi p0.To))) rfl) (RL.pick (decide (p0.cN<=p1)) (vb ((decide (p0.cN<=p1))&&(decide (p1<=p0.To)))) (fZ true rfl) (aQ (vb ((decide (p0.cN<=p1))&&(decide (p1<=p0.To)))) (RL.nt (RC.ret ?_)))))
 obtain rfl:=oi hb
 exact bX ⟨rfl,hw.drop 2⟩
def sR (E:World) (Γ:List HP) (r:Bool) (σ:Nat->Value) (w:World):Prop:=lZ bM 28 Tryz.f146 (aV E Γ r) .ret σ w
theorem kX {p0: (List aF)} {res:Bool} (hw:Holds E w Γ) (h0:Γ[i0]? =some (rd v0 p0)) (hb:gh N p0 p1=some res):
    Calls bM 146 [v0,(vi p1)].toArray w (gL (aV E Γ res)):=by
 unfold gh at hb
 refine enter Tryz.func146 zr zr ?_
 have hw:=hw.dup (i0+0) h0
 refine RC.sr (aQ (vb false) (RL.nq (RC.sr (aQ (vi 0) (RL.nt ?_)))))
 obtain⟨ag,hN,hb⟩:=bd hb
 refine RC.iter (fun(o:Int)=>SH E Γ [(0,v0),(1,vi p1),(5,vi o)] [rd v0 p0]) (fun(o:Int)=>SH E Γ [] [rd v0 p0]) (sR E Γ) hN ?_ ?_ ?_ ?_
 ·exact hw.sp 1 [0]
 ·rintro o fl _ w ⟨τ,rfl,hw⟩ hb
  refine RC.seq (RC.sr (mv (vi o) (mv v0 (RL.bC 0 p0 hw vo (ic o ((p0.length:Int)) (RL.nt (dT hb (fun hc hb=>?_) fun hc hb=>?_)))))))
  rotate_left
  ·refine RC.ex ?_
   obtain rfl:=oi hb
   exact⟨rfl,hw.sp 1 [0]⟩
  refine RC.ss (RC.block (RC.seq ?_))
  obtain⟨aa,hj,hb⟩:=bd hb
  refine RC.jn (fun(aa:Bool)=>SH E Γ [(0,v0),(1,vi p1),(5,vi o),(27,vb aa)] [rd v0 p0]) aa ?_ ?_
  ·refine RC.region (mv v0 (mv (vi o) ?_))
   obtain⟨ab,ae,hj⟩:=bd hj
   refine RL.bN 0 hw ou ae fun ah hw=>(RL.dV 0 hw zr pI eD fun ai hw=>(RL.bF ab.from_ 0 hw cJ (mv (vi p1) (ic ab.from_ p1 (mv (vb (decide (ab.from_<=p1))) (fB hj (fun j hj=>?_) fun j hj=>?_))))))
   rotate_left
   ·refine bJ j (bJ j (bJ j (bJ j (bJ j (bJ j (bJ j (fG j (vb false) (RL.nil ?_))))))))
    obtain rfl:=oi hj
    exact⟨rfl,hw.sp 3 [2]⟩
   refine RL.move (vi p1) (cg j) (RL.move v0 (cg j) (RL.move (vi o) (cg j) ?_))
   obtain⟨ad,af,hj⟩:=bd hj
   refine RL.bN (hg:=(cg j)) 2 hw ou af fun aj hw=>(RL.dV (hg:=(cg j)) 0 hw zr pH eE fun ak hw=>(RL.bF (hg:=(cg j)) ad.to 0 hw cJ (RL.kL p1 ad.to (cg j) (fG j (vb (decide (p1<ad.to))) (RL.nil ?_)))))
   obtain rfl:=oi hj
   exact⟨rfl,hw.sp 5 [4]⟩
  rintro _ w ⟨τ,rfl,hw⟩
  refine aH (dT hb (fun hc hb=>?_) fun hc hb=>?_)
  ·refine RC.sr (aQ (vb true) (RL.nt (RC.rb (bS ?_))))
   obtain rfl:=oi hb
   exact⟨rfl,bX ⟨rfl,hw.drop 1⟩⟩
  refine RC.skip (bO (aH (RC.region (mv (vi o) (RL.fQ o 1 (aQ (vi (IntKind.wrap .i64 (o+1))) (RL.nil ?_)))))))
  obtain rfl:=oi hb
  exact⟨rfl,hw.sp 1 [0]⟩
 ·intro r σ w e hK
  subst e
  refine bS ?_
  obtain rfl:=oi hb
  exact hK
 rintro o _ w rfl ⟨τ,rfl,hw⟩
 rw [Fo.dF] at hb
 refine aH (RC.sr (aQ (vb false) (RL.nt (RC.ret ?_))))
 obtain rfl:=oi hb
 exact bX ⟨rfl,hw.drop 1⟩
theorem sS {p0: (List aF)} {p1: (List aF)} {res: (List aF)} (hw:Holds E w Γ) (h0:Γ[i0]? =some (rd v0 p0)) (h1:Γ[i1]? =some (rd v1 p1)) (hb:jE N p0 p1 p2=some res):
    Calls bM 117 [v0,v1,(vi p2)].toArray w (gL (ln E Γ res)):=by
 unfold jE at hb
 refine enter Tryz.func117 zr zr ?_
 have hw:=(hw.dup (i0+0) h0).dup (i1+1) h1
 refine RC.sr (aQ (.slice none 0 0) (RL.ns (aQ (.slice none 0 0) (RL.nq (RC.sr (aQ (vi 0) (RL.nt ?_)))))))
 obtain⟨bp,hN,hb⟩:=bd hb
 refine RC.iter (fun(ad: (List Int)×Int) σ w=>∃ay:Value,SH E Γ [(0,v0),(1,v1),(2,vi p2),(7,ay),(8,vi ad.2)] [rd v0 p0,rd v1 p1,rd ay ad.1] σ w) (fun(ad: (List Int)×Int) σ w=>∃ag:Value,SH E Γ [(0,v0),(1,v1),(2,vi p2),(7,ag)] [rd v0 p0,rd v1 p1,rd ag ad.1] σ w) (fun(r:Empty) _ _=>r.elim) hN ?_ ?_ ?_ ?_
 ·have hw:=hw.mR Int
  exact⟨(.slice none 0 0),hw.sp 3 [2,1,0]⟩
 ·rintro ad fl _ w ⟨al,τ,rfl,hw⟩ hb
  refine RC.seq (RC.sr (mv (vi ad.2) (mv v0 (RL.bC 0 p0 hw vo (ic ad.2 ((p0.length:Int)) (RL.nt (dT hb (fun hc hb=>?_) fun hc hb=>?_)))))))
  rotate_left
  ·refine RC.ex ?_
   obtain rfl:=oi hb
   exact⟨rfl,al,hw.sp 3 [0,1,2]⟩
  refine RC.ss (RC.block (RC.vH mixed [0,0,0,0,0,0,2,1,1,1,1,1,2,0] [0,1,2,3,4,5,7,8,9,10,11,6,12,13] ?_))
  have hw:=hw.drew
  refine DP.e0 zr (mv al (aZ zr (mv v0 (aZ zr (mv (vi ad.2) (aZ zr ?_))))))
  obtain⟨an,a4,hb⟩:=bd hb
  refine RL.bN 0 hw ou a4 fun bq hw=>(aZ zr (RL.dV 0 hw zr pI eD fun br hw=>(aZ zr (RL.bF an.from_ 0 hw cJ (DP.d0 (DP.e1 v0 zr (fun w=>RL.move v0 zt DP.d1) (DP.e1 (vi ad.2) zr (fun w=>RL.move (vi ad.2) zt DP.d1) ?_)))))))
  obtain⟨ao,a5,hb⟩:=bd hb
  refine DP.vI 2 zr hw ou a5 fun bs hw=>(DP.BK 0 zr zt hw zr pH eE fun bt hw=>(DP.qR ao.to 0 zr hw cJ fun a68 bu hw=>(DP.e2 zr ?_)))
  obtain⟨bw,a6,hb⟩:=bd hb
  refine RL.call zt zr A3 [al,(vi an.from_)] zr (aD (iz N (p1:=an.from_) (i0:=7) hw zr a6) ?_)
  rintro a7 w hw
  refine DP.d2 (⟨zt,hw.g8 1⟩) (DP.e2 zr ?_)
  obtain⟨bx,a8,hb⟩:=bd hb
  refine RL.call zt zr A3 [a7,(vi ao.to)] zr (aD (iz N (p1:=ao.to) (i0:=0) hw zr a8) ?_)
  rintro az w hw
  refine DP.d2 (⟨zt,hw.g8 2⟩) (DP.e0 zr (aQ az (DP.d0 ?_)))
  have hw:=hw.pl 10 [0,1,3,4,5,6,7,8,9]
  refine DP.z (bO (aH (RC.region (mv (vi ad.2) (RL.fQ ad.2 1 (aQ (vi (IntKind.wrap .i64 (ad.2+1))) (RL.nil ?_)))))))
  obtain rfl:=oi hb
  exact⟨rfl,az,hw.sp 9 [6,7,0]⟩
 ·intro r _ _ _ _
  exact r.elim
 rintro ad _ w rfl ⟨ag,τ,rfl,hw⟩
 rw [Fo.dF] at hb
 refine aH (RC.seq (RC.sr (aQ (vi 0) (RL.nt ?_))))
 obtain⟨bz,hN,hb⟩:=bd hb
 refine RC.iter (fun(ab: (List Int)×Int) σ w=>∃a0:Value,SH E Γ [(0,v0),(1,v1),(2,vi p2),(7,a0),(9,vi ab.2)] [rd v0 p0,rd v1 p1,rd a0 ab.1] σ w) (fun(ab: (List Int)×Int) σ w=>∃ae:Value,SH E Γ [(0,v0),(1,v1),(2,vi p2),(7,ae)] [rd v0 p0,rd v1 p1,rd ae ab.1] σ w) (fun(r:Empty) _ _=>r.elim) hN ?_ ?_ ?_ ?_
 ·exact⟨ag,hw.sp 3 [0,1,2]⟩
 ·rintro ab fl _ w ⟨aq,τ,rfl,hw⟩ hb
  refine RC.seq (RC.sr (mv (vi ab.2) (mv v1 (RL.bC 1 p1 hw vo (ic ab.2 ((p1.length:Int)) (RL.nt (dT hb (fun hc hb=>?_) fun hc hb=>?_)))))))
  rotate_left
  ·refine RC.ex ?_
   obtain rfl:=oi hb
   exact⟨rfl,aq,hw.sp 3 [0,1,2]⟩
  refine RC.ss (RC.block (RC.vH mixed [0,0,0,0,0,0,2,1,1,1,1,1,2,0] [0,1,2,3,4,5,7,8,9,10,11,6,12,13] ?_))
  have hw:=hw.drew
  refine DP.e0 zr (mv aq (aZ zr (mv v1 (aZ zr (mv (vi ab.2) (aZ zr ?_))))))
  obtain⟨ar,a9,hb⟩:=bd hb
  refine RL.bN 1 hw ou a9 fun b0 hw=>(aZ zr (RL.dV 0 hw zr pI eD fun b1 hw=>(aZ zr (RL.bF ar.from_ 0 hw cJ (DP.d0 (DP.e1 v1 zr (fun w=>RL.move v1 zt DP.d1) (DP.e1 (vi ab.2) zr (fun w=>RL.move (vi ab.2) zt DP.d1) ?_)))))))
  obtain⟨au,ba,hb⟩:=bd hb
  refine DP.vI 3 zr hw ou ba fun b2 hw=>(DP.BK 0 zr zt hw zr pH eE fun b3 hw=>(DP.qR au.to 0 zr hw cJ fun a111 b4 hw=>(DP.e2 zr ?_)))
  obtain⟨b5,bb,hb⟩:=bd hb
  refine RL.call zt zr A3 [aq,(vi ar.from_)] zr (aD (iz N (p1:=ar.from_) (i0:=7) hw zr bb) ?_)
  rintro bc w hw
  refine DP.d2 (⟨zt,hw.g8 1⟩) (DP.e2 zr ?_)
  obtain⟨b6,bf,hb⟩:=bd hb
  refine RL.call zt zr A3 [bc,(vi au.to)] zr (aD (iz N (p1:=au.to) (i0:=0) hw zr bf) ?_)
  rintro a1 w hw
  refine DP.d2 (⟨zt,hw.g8 2⟩) (DP.e0 zr (aQ a1 (DP.d0 ?_)))
  have hw:=hw.pl 10 [0,1,3,4,5,6,7,8,9]
  refine DP.z (bO (aH (RC.region (mv (vi ab.2) (RL.fQ ab.2 1 (aQ (vi (IntKind.wrap .i64 (ab.2+1))) (RL.nil ?_)))))))
  obtain rfl:=oi hb
  exact⟨rfl,a1,hw.sp 9 [6,7,0]⟩
 ·intro r _ _ _ _
  exact r.elim
 rintro ab _ w rfl ⟨ae,τ,rfl,hw⟩
 rw [Fo.dF] at hb
 refine aH (RC.sr (aQ (.slice none 0 0) (RL.nq (RC.sr (aQ (vi 1) (RL.nt ?_))))))
 obtain⟨b7,hN,hb⟩:=bd hb
 refine RC.iter (fun(aa: (List aF)×Int) σ w=>∃a2:Value,SH E Γ [(0,v0),(1,v1),(2,vi p2),(7,ae),(10,a2),(11,vi aa.2)] [rd v0 p0,rd v1 p1,rd ae ab.1,own 158 a2 aa.1] σ w) (fun(aa: (List aF)×Int) σ w=>∃af:Value,SH E Γ [(10,af)] [rd v0 p0,rd v1 p1,rd ae ab.1,own 158 af aa.1] σ w) (fun(r:Empty) _ _=>r.elim) hN ?_ ?_ ?_ ?_
 ·have hw:=hw.cX aF 158
  exact⟨(.slice none 0 0),hw.sp 4 [1,2,3,0]⟩
 ·rintro aa fl _ w ⟨ah,τ,rfl,hw⟩ hb
  refine RC.seq (RC.sr (mv (vi aa.2) (mv ae (RL.bC 2 ab.1 hw l4 (ic aa.2 ((ab.1.length:Int)) (RL.nt (dT hb (fun hc hb=>?_) fun hc hb=>?_)))))))
  rotate_left
  ·refine RC.ex ?_
   obtain rfl:=oi hb
   exact⟨rfl,ah,hw.sp 4 [0,1,2,3]⟩
  refine RC.ss (RC.block (RC.seq (RC.vH mixed [0,0,0,0,0,0,2,1,1,1,1,1,1,2,0,0] [0,1,2,3,4,5,7,8,9,10,11,12,6,13,14,15] ?_)))
  have hw:=hw.drew
  refine DP.e0 zr (mv v0 (aZ zr (mv ae (aZ zr (mv (vi aa.2) (aZ zr (RL.fQ aa.2 1 (aZ zr ?_))))))))
  obtain⟨av,bg,hb⟩:=bd hb
  refine RL.bN 2 hw eB bg fun b8 hw=>(aZ zr (RL.bF av 0 hw cJ (DP.d0 (DP.e1 v1 zr (fun w=>RL.move v1 zt DP.d1) (DP.e1 ae zr (fun w=>RL.move ae zt DP.d1) (DP.e1 (vi aa.2) zr (fun w=>RL.move (vi aa.2) zt DP.d1) (DP.e1 (vi (IntKind.wrap .i64 (aa.2 - 1))) zr (fun w=>RL.fQ aa.2 1 DP.d1) ?_)))))))
  obtain⟨aw,bh,hb⟩:=bd hb
  refine DP.vI 3 zr hw eB bh fun b9 hw=>(DP.qR aw 0 zr hw cJ fun a176 ca hw=>(DP.e2 zr ?_))
  obtain⟨j,bj,hb⟩:=bd hb
  refine RL.call zt zr GN [v0,(vi av)] zr (aD (kX N (p1:=av) (i0:=3) hw zr bj) ?_)
  rintro _ w ⟨rfl,hw⟩
  refine DP.d2 (⟨zt,hw.g8 0⟩) (DP.e2 zr ?_)
  obtain⟨o,bk,hb⟩:=bd hb
  refine RL.call zt zr GN [v1,(vi aw)] zr (aD (kX N (p1:=aw) (i0:=4) hw zr bk) ?_)
  rintro _ w ⟨rfl,hw⟩
  refine DP.d2 (⟨zt,hw.g8 0⟩) (DP.e0 zr (aQ (vb j) (aZ zr (aQ (vb o) (DP.d0 ?_)))))
  have hw:=hw.pl 7 [1,2,3,4,5,6]
  refine DP.z (aH (RC.sr (mv (vi p2) (ic p2 1 (mv (vb (p2==1)) (RL.gs true (p2==1) (vb j) rfl rfl rfl cF (RL.gs true (p2==1) (vb j) rfl rfl rfl (cF (hx:=fun h=>by exact(cI h:cv (true&&((p2==1)==true)) (vb j)= (vb j)))) (RL.gs (true&&((p2==1)==true)) j (vb o) rfl rfl rfl cF ?_))))))))
  refine RL.gs true (p2==1) (vb (j||o)) rfl rfl rfl (kj j rfl (fun h=>by exact(cI h:cv (true&&((p2==1)==true)) (vb j)= (vb j))) (fun h=>by exact nD (h:=h) (true&&((p2==1)==true)))) (RL.pick (p2==1) (vb ((p2==1)&&(j||o))) (fZ true rfl) (mv (vb ((p2==1)&&(j||o))) (RL.gs true ((p2==1)&&(j||o)) (vi p2) rfl rfl rfl cF (RL.gs true ((p2==1)&&(j||o)) (vb (p2==2)) rfl rfl rfl (dI .eql .i64 p2 2 rfl (fun h=>by exact(cI h:cv (true&&(((p2==1)&&(j||o))==false)) (vi p2)= (vi p2))) (fun _=>rfl) rfl) (RL.gs true ((p2==1)&&(j||o)) (vb (p2==2)) rfl rfl rfl (cF (hx:=fun h=>by exact(cI h:cv (true&&(((p2==1)&&(j||o))==false)) (vb (p2==2))= (vb (p2==2))))) (RL.gs (true&&(((p2==1)&&(j||o))==false)) (p2==2) (vb j) rfl rfl rfl cF (RL.gs true ((p2==1)&&(j||o)) (vb ((p2==2)&&j)) rfl rfl rfl (kj (p2==2) rfl (fun h=>by exact(cI h:cv (true&&(((p2==1)&&(j||o))==false)) (vb (p2==2))= (vb (p2==2)))) (fun h=>by exact fZ (true&&(((p2==1)&&(j||o))==false)) h)) (RL.gs true ((p2==1)&&(j||o)) (vb ((p2==2)&&j)) rfl rfl rfl (cF (hx:=fun h=>by exact(cI h:cv (true&&(((p2==1)&&(j||o))==false)) (vb ((p2==2)&&j))= (vb ((p2==2)&&j))))) ?_))))))))
  refine RL.gs (true&&(((p2==1)&&(j||o))==false)) ((p2==2)&&j) (vb o) rfl rfl rfl cF (RL.gs true ((p2==1)&&(j||o)) (vb (((p2==2)&&j)&&o)) rfl rfl rfl (kj ((p2==2)&&j) rfl (fun h=>by exact(cI h:cv (true&&(((p2==1)&&(j||o))==false)) (vb ((p2==2)&&j))= (vb ((p2==2)&&j)))) (fun h=>by exact fZ (true&&(((p2==1)&&(j||o))==false)) h)) (RL.pick ((p2==1)&&(j||o)) (vb (((p2==1)&&(j||o))||(((p2==2)&&j)&&o))) (nD true) (mv (vb (((p2==1)&&(j||o))||(((p2==2)&&j)&&o))) (RL.gs true (((p2==1)&&(j||o))||(((p2==2)&&j)&&o)) (vi p2) rfl rfl rfl cF (RL.gs true (((p2==1)&&(j||o))||(((p2==2)&&j)&&o)) (vb (p2==3)) rfl rfl rfl (dI .eql .i64 p2 3 rfl (fun h=>by exact(cI h:cv (true&&((((p2==1)&&(j||o))||(((p2==2)&&j)&&o))==false)) (vi p2)= (vi p2))) (fun _=>rfl) rfl) (RL.gs true (((p2==1)&&(j||o))||(((p2==2)&&j)&&o)) (vb (p2==3)) rfl rfl rfl (cF (hx:=fun h=>by exact(cI h:cv (true&&((((p2==1)&&(j||o))||(((p2==2)&&j)&&o))==false)) (vb (p2==3))= (vb (p2==3))))) (RL.gs (true&&((((p2==1)&&(j||o))||(((p2==2)&&j)&&o))==false)) (p2==3) (vb j) rfl rfl rfl cF (RL.gs true (((p2==1)&&(j||o))||(((p2==2)&&j)&&o)) (vb ((p2==3)&&j)) rfl rfl rfl (kj (p2==3) rfl (fun h=>by exact(cI h:cv (true&&((((p2==1)&&(j||o))||(((p2==2)&&j)&&o))==false)) (vb (p2==3))= (vb (p2==3)))) (fun h=>by exact fZ (true&&((((p2==1)&&(j||o))||(((p2==2)&&j)&&o))==false)) h)) ?_))))))))
  refine RL.gs true (((p2==1)&&(j||o))||(((p2==2)&&j)&&o)) (vb ((p2==3)&&j)) rfl rfl rfl (cF (hx:=fun h=>by exact(cI h:cv (true&&((((p2==1)&&(j||o))||(((p2==2)&&j)&&o))==false)) (vb ((p2==3)&&j))= (vb ((p2==3)&&j))))) (RL.gs (true&&((((p2==1)&&(j||o))||(((p2==2)&&j)&&o))==false)) ((p2==3)&&j) (vb o) rfl rfl rfl cF (RL.gs (true&&((((p2==1)&&(j||o))||(((p2==2)&&j)&&o))==false)) ((p2==3)&&j) (vb (!o)) rfl rfl rfl (F9 o rfl (fun h=>by exact(cI h:cv ((true&&((((p2==1)&&(j||o))||(((p2==2)&&j)&&o))==false))&&(((p2==3)&&j)==true)) (vb o)= (vb o)))) (RL.gs true (((p2==1)&&(j||o))||(((p2==2)&&j)&&o)) (vb (((p2==3)&&j)&&(!o))) rfl rfl rfl (kj ((p2==3)&&j) rfl (fun h=>by exact(cI h:cv (true&&((((p2==1)&&(j||o))||(((p2==2)&&j)&&o))==false)) (vb ((p2==3)&&j))= (vb ((p2==3)&&j)))) (fun h=>by exact fZ (true&&((((p2==1)&&(j||o))||(((p2==2)&&j)&&o))==false)) h)) (RL.pick (((p2==1)&&(j||o))||(((p2==2)&&j)&&o)) (vb ((((p2==1)&&(j||o))||(((p2==2)&&j)&&o))||(((p2==3)&&j)&&(!o)))) (nD true) (RL.nt ?_)))))
  obtain⟨ax,hj,hb⟩:=bd hb
  refine RC.jn (fun(ax: (List aF)) σ w=>∃ai:Value,SH E Γ [(0,v0),(1,v1),(2,vi p2),(7,ae),(10,ai),(11,vi aa.2)] [rd v0 p0,rd v1 p1,rd ae ab.1,own 158 ai ax] σ w) ax ?_ ?_
  ·refine dT hj (fun hc hj=>?_) fun hc hj=>?_
   rotate_left
   ·refine RC.skip ?_
    obtain rfl:=oi hj
    exact⟨rfl,ah,hw.sp 6 [2,3,4,5]⟩
   refine RC.vH mixed [0,0,0,0,0,0,0,0,0,0,0,2,0] [0,1,2,3,4,5,6,7,8,9,10,11,12] ?_
   have hw:=hw.drew
   refine DP.e0 zr (mv ah (aZ zr (mv ae (aZ zr (mv (vi aa.2) (aZ zr (RL.fQ aa.2 1 (aZ zr ?_))))))))
   obtain⟨aj,bl,hj⟩:=bd hj
   refine RL.bN 4 hw eB bl fun cb hw=>(aZ zr (RL.bF aj 0 hw cJ (aZ zr (mv ae (aZ zr (mv (vi aa.2) (aZ zr ?_)))))))
   obtain⟨ak,bm,hj⟩:=bd hj
   refine RL.bN 5 hw eB bm fun cc hw=>(aZ zr (RL.bF ak 0 hw cJ (aZ zr ?_)))
   have hw:=(hw.sc Int aj).sc Int ak
   refine RL.build (⟨aj,ak⟩:aF) trivial rfl hw [(0,vi aj),(1,vi ak)] rfl Iv rfl (fun M hs g=>by have h:=oO M;exact cT.cons (f:=fun(x:aF) y=>{x with from_:=y}) h kT (g.sat 1 _ rfl).1 fun _ h=>cT.cons (f:=fun(x:aF) y=>{x with to:=y}) h kU (g.sat 0 _ rfl).1 fun _ h=>cT.nil h) fun bn hw=>?_
   refine pz zr ?_
   have hw:=hw.freeze 10
   obtain⟨cd,bo,hj⟩:=bd hj
   refine RL.call zt zr Ix [ah,bn] zr (aD (nM N (i0:=10) (i1:=0) hw zr zr bo) ?_)
   rintro a3 w hw
   refine tw zr (aQ a3 (DP.d0 (DP.z ?_)))
   obtain rfl:=oi hj
   exact⟨rfl,a3,hw.sp 12 [8,9,10,0]⟩
  rintro _ w ⟨ai,τ,rfl,hw⟩
  refine bO (aH (RC.region (mv (vi aa.2) (RL.fQ aa.2 1 (aQ (vi (IntKind.wrap .i64 (aa.2+1))) (RL.nil ?_))))))
  obtain rfl:=oi hb
  exact⟨rfl,ai,hw.sp 4 [0,1,2,3]⟩
 ·intro r _ _ _ _
  exact r.elim
 rintro aa _ w rfl ⟨af,τ,rfl,hw⟩
 rw [Fo.dF] at hb
 refine aH (RC.sr (mv af (aQ af (RL.nt (RC.ret ?_)))))
 obtain rfl:=oi hb
 exact bX (hw.pk 4 [3])
theorem qL {p0: (List aI)} {p1: (List aI)} {res: (List aI)} (hw:Holds E w Γ) (h0:Γ[i0]? =some (rd v0 p0)) (h1:Γ[i1]? =some (rd v1 p1)) (hb:gu N p0 p1 p2=some res):
    Calls bM 95 [v0,v1,(vi p2)].toArray w (gL (fH E Γ res)):=by
 unfold gu at hb
 refine enter Tryz.func95 zr zr ?_
 have hw:=(hw.dup (i0+0) h0).dup (i1+1) h1
 refine RC.sr (aQ (.slice none 0 0) (RL.ns (aQ (.slice none 0 0) (RL.ns (mv (.slice none 0 0) (mv v0 ?_))))))
 have hw:=hw.cX aI 59
 obtain⟨a8,an,hb⟩:=bd hb
 refine RL.app 0 2 hw zi an fun aj w hw=>?_
 refine aQ aj (RL.ns (mv aj (mv v1 ?_)))
 obtain⟨a9,ao,hb⟩:=bd hb
 refine RL.app 0 1 hw zi ao fun ag w hw=>?_
 refine aQ ag (RL.ns (mv ag ?_))
 have hw:=hw.freeze 0
 obtain⟨ab,aq,hb⟩:=bd hb
 refine RL.call zt zr Kx [ag] zr (aD (m7 N (i0:=0) hw zr aq) ?_)
 rintro o w hw
 refine aQ o (RL.ns (aQ (.slice none 0 0) (RL.nq (RC.sr (aQ (vi 1) (RL.nt ?_))))))
 obtain⟨ba,hN,hb⟩:=bd hb
 refine RC.iter (fun(j: (List aL)×Int) σ w=>∃ak:Value,SH E Γ [(0,v0),(1,v1),(2,vi p2),(8,o),(9,ak),(10,vi j.2)] [rd v0 p0,rd v1 p1,rd o ab,own 141 ak j.1] σ w) (fun(j: (List aL)×Int) σ w=>∃aa:Value,SH E Γ [(9,aa)] [rd v0 p0,rd v1 p1,rd o ab,own 141 aa j.1] σ w) (fun(r:Empty) _ _=>r.elim) hN ?_ ?_ ?_ ?_
 ·have hw:=hw.cX aL 141
  exact⟨(.slice none 0 0),hw.sp 5 [4,3,1,0]⟩
 ·rintro j fl _ w ⟨ad,τ,rfl,hw⟩ hb
  refine RC.seq (RC.sr (mv (vi j.2) (mv o (RL.bC 2 ab hw l4 (ic j.2 ((ab.length:Int)) (RL.nt (dT hb (fun hc hb=>?_) fun hc hb=>?_)))))))
  rotate_left
  ·refine RC.ex ?_
   obtain rfl:=oi hb
   exact⟨rfl,ad,hw.sp 4 [0,1,2,3]⟩
  refine RC.ss (RC.block (RC.vH mixed [1,1,1,1,1,1,1,1,1,1,0,0,0,0,0,0,2,1,1,1,1,1,1,2,1,2,0,2,0] [0,1,2,3,4,5,6,7,8,9,10,11,12,13,14,15,17,18,19,20,21,22,24,16,23,25,26,27,28] ?_))
  have hw:=hw.drew
  refine DP.e1 ad zr (fun w=>RL.move ad zt DP.d1) (DP.e1 o zr (fun w=>RL.move o zt DP.d1) (DP.e1 (vi j.2) zr (fun w=>RL.move (vi j.2) zt DP.d1) (DP.e1 (vi (IntKind.wrap .i64 (j.2 - 1))) zr (fun w=>RL.fQ j.2 1 DP.d1) ?_)))
  obtain⟨ae,ar,hb⟩:=bd hb
  refine DP.vI 2 zr hw eB ar fun bb hw=>(DP.qR ae 0 zr hw cJ fun a92 bc hw=>(DP.e1 o zr (fun w=>RL.move o zt DP.d1) (DP.e1 (vi j.2) zr (fun w=>RL.move (vi j.2) zt DP.d1) ?_)))
  obtain⟨af,au,hb⟩:=bd hb
  refine DP.vI 4 zr hw eB au fun bf hw=>(DP.qR af 0 zr hw cJ fun a96 bg hw=>(DP.e0 zr (mv v0 (aZ zr (mv o (aZ zr (mv (vi j.2) (aZ zr ?_))))))))
  refine RL.fQ j.2 1 (aZ zr ?_)
  obtain⟨ah,av,hb⟩:=bd hb
  refine RL.bN 6 hw eB av fun bh hw=>(aZ zr (RL.bF ah 0 hw cJ (DP.d0 (DP.e1 v1 zr (fun w=>RL.move v1 zt DP.d1) (DP.e1 o zr (fun w=>RL.move o zt DP.d1) (DP.e1 (vi j.2) zr (fun w=>RL.move (vi j.2) zt DP.d1) (DP.e1 (vi (IntKind.wrap .i64 (j.2 - 1))) zr (fun w=>RL.fQ j.2 1 DP.d1) ?_)))))))
  obtain⟨ai,aw,hb⟩:=bd hb
  refine DP.vI 7 zr hw eB aw fun bj hw=>(DP.qR ai 0 zr hw cJ fun a102 bk hw=>(DP.e1 (vi p2) zr (fun w=>RL.move (vi p2) zt DP.d1) (DP.e2 zr ?_)))
  obtain⟨bl,ax,hb⟩:=bd hb
  refine RL.call zt zr HR [v0,(vi ah)] zr (aD (kr N (p1:=ah) (i0:=7) hw zr ax) ?_)
  rintro ay w hw
  refine DP.d2 (⟨⟨⟨zt,hw.g8 6⟩,hw.g8 4⟩,hw.g8 1⟩) (DP.e2 zr ?_)
  obtain⟨bm,az,hb⟩:=bd hb
  refine RL.call zt zr HR [v1,(vi ai)] zr (aD (kr N (p1:=ai) (i0:=9) hw zr az) ?_)
  rintro a0 w hw
  refine DP.d2 (⟨⟨⟨zt,hw.g8 7⟩,hw.g8 5⟩,hw.g8 2⟩) (DP.e2 zr ?_)
  have hw:=(hw.freeze 1).freeze 0
  obtain⟨a1,a2,hb⟩:=bd hb
  refine RL.call zt zr KH [ay,a0,(vi p2)] zr (aD (sS N (p2:=p2) (i0:=1) (i1:=0) hw zr zr a2) ?_)
  rintro a3 w hw
  refine DP.d2 (⟨⟨⟨zt,hw.g8 8⟩,hw.g8 6⟩,hw.g8 3⟩) (DP.e0 zr ?_)
  have hw:=((hw.sc Int ae).sc Int af).freeze 2
  refine RL.build (⟨ae,af,a1⟩:aL) trivial rfl hw [(0,vi ae),(1,vi af),(2,a3)] rfl Iy rfl (fun M hs g=>by have h:=oN M;exact cT.cons (f:=fun(x:aL) y=>{x with from_:=y}) h nH (g.sat 1 _ rfl).1 fun _ h=>cT.cons (f:=fun(x:aL) y=>{x with to:=y}) h kW (g.sat 0 _ rfl).1 fun _ h=>cT.cons (f:=fun(x:aL) y=>{x with iN:=y}) h nI (g.sat 2 _ rfl).1 fun _ h=>cT.nil h) fun a4 hw=>?_
  refine pz zr ?_
  have hw:=hw.pull 16
  obtain⟨bn,a5,hb⟩:=bd hb
  refine RL.call zt zr KC [ad,a4] zr (aD (m8 N (i1:=0) hw zr a5) ?_)
  rintro al w hw
  refine DP.d2 (⟨⟨⟨zt,hw.g8 12⟩,hw.g8 10⟩,hw.g8 7⟩) (DP.e0 zr (aQ al (DP.d0 ?_)))
  have hw:=hw.pl 18 [0,1,2,3,4,5,6,8,9,11,13,14,15,16,17]
  refine DP.z (bO (aH (RC.region (mv (vi j.2) (RL.fQ j.2 1 (aQ (vi (IntKind.wrap .i64 (j.2+1))) (RL.nil ?_)))))))
  obtain rfl:=oi hb
  exact⟨rfl,al,hw.sp 15 [11,12,13,0]⟩
 ·intro r _ _ _ _
  exact r.elim
 rintro j _ w rfl ⟨aa,τ,rfl,hw⟩
 rw [Fo.dF] at hb
 refine aH (RC.sr (mv aa ?_))
 have hw:=hw.freeze 3
 obtain⟨bo,a6,hb⟩:=bd hb
 refine RL.call zt zr KD [aa] zr (aD (ov N (i0:=3) hw zr a6) ?_)
 rintro a7 w hw
 refine aQ a7 (RL.nt (RC.ret ?_))
 obtain rfl:=oi hb
 exact bX (hw.pk 5 [0])
theorem ru {p0: (List aI)} {p1: (List aI)} {res: (List aI)} (hw:Holds E w Γ) (h0:Γ[i0]? =some (rd v0 p0)) (h1:Γ[i1]? =some (rd v1 p1)) (hb:j5 N p0 p1=some res):
    Calls bM 60 [v0,v1].toArray w (gL (fH E Γ res)):=by
 unfold j5 at hb
 refine enter Tryz.func60 zr zr ?_
 have hw:=(hw.dup (i0+0) h0).dup (i1+1) h1
 refine RC.sr (aQ (.slice none 0 0) (RL.ns (mv v0 (mv v1 ?_))))
 obtain⟨aa,j,hb⟩:=bd hb
 refine RL.call zt zr Me [v0,v1,(vi 3)] zr (aD (qL N (p2:=3) (i0:=1) (i1:=0) hw zr zr j) ?_)
 rintro o w hw
 refine aQ o (RL.nt (RC.ret ?_))
 obtain rfl:=oi hb
 exact bX (hw.pk 3 [0])
theorem ml {p0:ld} {res: (List aI)} (hw:Holds E w Γ) (h0:Γ[i0]? =some (rd v0 p0)) (hb:fX N p0 p1=some res):
    Calls bM 29 [v0,(vi p1)].toArray w (gL (fH E Γ res)):=by
 unfold fX at hb
 refine enter Tryz.func29 zr zr ?_
 have hw:=hw.dup (i0+0) h0
 refine RC.sr (RL.dJ 0 v0 hw zr fun o w hw=>?_)
 have hw:=hw.lE (i:=0) rfl
 refine aQ (.slice none 0 0) (RL.ns (aQ (.slice none 0 0) (RL.nq (RC.sr (aQ (vi 0) (RL.nt ?_))))))
 obtain⟨a3,hN,hb⟩:=bd hb
 refine RC.iter (fun(j: (List aI)×Int) σ w=>∃af:Value,SH E Γ [(1,vi p1),(2,vp o 0),(5,af),(6,vi j.2)] [pt (vp o 0) p0,own 59 af j.1] σ w) (fun(j: (List aI)×Int) σ w=>∃aa:Value,SH E Γ [(1,vi p1),(2,vp o 0),(5,aa)] [pt (vp o 0) p0,own 59 aa j.1] σ w) (fun(r:Empty) _ _=>r.elim) hN ?_ ?_ ?_ ?_
 ·have hw:=hw.cX aI 59
  exact⟨(.slice none 0 0),hw.sp 3 [1,0]⟩
 ·rintro j fl _ w ⟨ad,τ,rfl,hw⟩ hb
  refine RC.seq (RC.sr (mv (vi j.2) (RL.dV 0 hw zr gC gk fun a4 hw=>(RL.bL 0 p0.aO hw mT fun a5 hw=>(RL.bC 0 p0.aO hw t3 (ic j.2 ((p0.aO.length:Int)) (RL.nt (dT hb (fun hc hb=>?_) fun hc hb=>?_))))))))
  rotate_left
  ·refine RC.ex ?_
   obtain rfl:=oi hb
   exact⟨rfl,ad,hw.sp 4 [2,3]⟩
  refine RC.ss (RC.bs (RL.dV 2 hw zr gC gk fun a6 hw=>(RL.bL 0 p0.aO hw mT fun a7 hw=>(mv (vi j.2) ?_))))
  obtain⟨ah,ai,hb⟩:=bd hb
  refine RL.bN 0 hw qc ai fun a8 hw=>(RL.bL 0 ah hw lP fun aj hw=>(mv (vi p1) ?_))
  obtain⟨a9,ak,hb⟩:=bd hb
  refine RL.call zt zr HS [aj,(vi p1)] zr (aD (jd N (p1:=p1) (i0:=0) hw zr ak) ?_)
  rintro _ w ⟨rfl,hw⟩
  refine RL.nt ?_
  obtain⟨ae,hj,hb⟩:=bd hb
  refine RC.jn (fun(ae: (List aI)) σ w=>∃ab:Value,SH E Γ [(1,vi p1),(2,vp o 0),(5,ab),(6,vi j.2)] [pt (vp o 0) p0,own 59 ab ae] σ w) ae ?_ ?_
  ·refine dT hj (fun hc hj=>?_) fun hc hj=>?_
   rotate_left
   ·refine RC.skip ?_
    obtain rfl:=oi hj
    exact⟨rfl,ad,hw.sp 8 [6,7]⟩
   refine RC.region (mv ad (RL.dV 6 hw zr gC gk fun ba hw=>(RL.bL 0 p0.aO hw mT fun bb hw=>(mv (vi j.2) ?_))))
   obtain⟨al,an,hj⟩:=bd hj
   refine RL.bN 0 hw qc an fun bc hw=>(RL.bL 0 al hw lP fun ao hw=>?_)
   obtain⟨aq,ar,hj⟩:=bd hj
   refine RL.call zt zr Fy [ao] zr (aD (fp N (i0:=0) hw zr ar) ?_)
   rintro au w hw
   refine RL.dW ([aq]: (List aI)) hw [au] iY oc (fun M hs g=>⟨(g.sat 0 _ zr).1,zt⟩) fun bf w hw=>?_
   have hw:=hw.freeze 0
   obtain⟨bg,av,hj⟩:=bd hj
   refine RL.app 13 0 hw zi av fun ag w hw=>?_
   refine aQ ag (RL.nil ?_)
   obtain rfl:=oi hj
   exact⟨rfl,ag,hw.sp 14 [12,13]⟩
  rintro _ w ⟨ab,τ,rfl,hw⟩
  refine bO (aH (RC.region (mv (vi j.2) (RL.fQ j.2 1 (aQ (vi (IntKind.wrap .i64 (j.2+1))) (RL.nil ?_))))))
  obtain rfl:=oi hb
  exact⟨rfl,ab,hw.sp 2 [0,1]⟩
 ·intro r _ _ _ _
  exact r.elim
 rintro j _ w rfl ⟨aa,τ,rfl,hw⟩
 rw [Fo.dF] at hb
 refine aH (RC.seq (RC.vH mixed [1,1,1,1,1,0,2,2,0] [0,1,2,3,4,5,6,7,8] ?_))
 have hw:=hw.drew
 refine DP.BK 0 zr zt hw zr me iS fun bh hw=>(DP.yJ p0.aJ 0 zr zt hw oD fun bj a131 bk hw=>(DP.e1 (vi p1) zr (fun w=>RL.move (vi p1) zt DP.d1) ?_))
 obtain⟨aw,ax,hb⟩:=bd hb
 refine DP.vI 1 zr hw tz ax fun bl hw=>(DP.yJ aw 0 zr zt hw rH fun ay a136 bm hw=>(DP.e0 zr (mv aa (pz zr ?_))))
 have hw:=hw.freeze 7
 obtain⟨bn,az,hb⟩:=bd hb
 refine RL.call zt zr Jm [aa] zr (aD (jY N (i0:=7) hw zr az) ?_)
 rintro a0 w hw
 refine DP.d2 (⟨⟨zt,hw.g8 4⟩,hw.g8 1⟩) (DP.e2 zr ?_)
 have hw:=hw.freeze 0
 obtain⟨bo,a1,hb⟩:=bd hb
 refine RL.call zt zr Mf [ay,a0] zr (aD (ru N (i0:=2) (i1:=0) hw zr zr a1) ?_)
 rintro a2 w hw
 refine DP.d2 (⟨⟨zt,hw.g8 5⟩,hw.g8 2⟩) (DP.e0 zr (aQ a2 (DP.d0 ?_)))
 have hw:=hw.pl 10 [0,1,3,4,6,7,8,9]
 refine DP.z (aH (RC.ret ?_))
 obtain rfl:=oi hb
 exact bX (hw.pk 8 [0])
theorem sT {p0 p1:aI} {res:Bool} (hw:Holds E w Γ) (h0:Γ[i0]? =some (rd v0 p0)) (h1:Γ[i1]? =some (rd v1 p1)) (hb:iL N p0 p1=some res):
    Calls bM 62 [v0,v1].toArray w (gL (aV E Γ res)):=by
 unfold iL at hb
 refine enter Tryz.func62 zr zr ?_
 have hw:=(hw.dup (i0+0) h0).dup (i1+1) h1
 refine RC.sr (RL.dJ 1 v0 hw zr fun j w hw=>?_)
 refine RL.dJ 1 v1 hw zr fun o w hw=>?_
 refine aQ (vb false) (RL.ns (RL.aX zr iZ (RL.aM 1 hw zr eC cJ (RL.aX zr iZ (RL.aM 0 hw zr eC cJ (RL.min p0.X1 p1.X1 (RL.aX zr g9 (RL.aM 1 hw zr dL cJ ?_))))))))
 refine RL.aX zr g9 (RL.aM 0 hw zr dL cJ (RL.max p0.X0 p1.X0 (RL.fQ (if p1.X1<p0.X1 then p1.X1 else p0.X1) (if p0.X0<p1.X0 then p1.X0 else p0.X0) (aQ (vi (IntKind.wrap .i64 ((if p1.X1<p0.X1 then p1.X1 else p0.X1) - (if p0.X0<p1.X0 then p1.X0 else p0.X0)))) (RL.ns (RL.aX zr ka (RL.aM 1 hw zr fo cJ (RL.aX zr ka ?_))))))))
 refine RL.aM 0 hw zr fo cJ (RL.min p0.Y1 p1.Y1 (RL.aX zr gR (RL.aM 1 hw zr dG cJ (RL.aX zr gR (RL.aM 0 hw zr dG cJ (RL.max p0.Y0 p1.Y0 (RL.fQ (if p1.Y1<p0.Y1 then p1.Y1 else p0.Y1) (if p0.Y0<p1.Y0 then p1.Y0 else p0.Y0) (aQ (vi (IntKind.wrap .i64 ((if p1.Y1<p0.Y1 then p1.Y1 else p0.Y1) - (if p0.Y0<p1.Y0 then p1.Y0 else p0.Y0)))) ?_))))))))
 refine RL.ns (mv (vi (IntKind.wrap .i64 ((if p1.X1<p0.X1 then p1.X1 else p0.X1) - (if p0.X0<p1.X0 then p1.X0 else p0.X0)))) (ic ((IntKind.wrap .i64 ((if p1.X1<p0.X1 then p1.X1 else p0.X1) - (if p0.X0<p1.X0 then p1.X0 else p0.X0)))) 0 (mv (vb (decide ((IntKind.wrap .i64 ((if p1.X1<p0.X1 then p1.X1 else p0.X1) - (if p0.X0<p1.X0 then p1.X0 else p0.X0)))>0))) (RL.gs true (decide ((IntKind.wrap .i64 ((if p1.X1<p0.X1 then p1.X1 else p0.X1) - (if p0.X0<p1.X0 then p1.X0 else p0.X0)))>0)) (vi (IntKind.wrap .i64 ((if p1.Y1<p0.Y1 then p1.Y1 else p0.Y1) - (if p0.Y0<p1.Y0 then p1.Y0 else p0.Y0)))) rfl rfl rfl cF (RL.gs true (decide ((IntKind.wrap .i64 ((if p1.X1<p0.X1 then p1.X1 else p0.X1) - (if p0.X0<p1.X0 then p1.X0 else p0.X0)))>0)) (vb (decide ((IntKind.wrap .i64 ((if p1.Y1<p0.Y1 then p1.Y1 else p0.Y1) - (if p0.Y0<p1.Y0 then p1.Y0 else p0.Y0)))>=0))) rfl rfl rfl (dI .geq .i64 (IntKind.wrap .i64 ((if p1.Y1<p0.Y1 then p1.Y1 else p0.Y1) - (if p0.Y0<p1.Y0 then p1.Y0 else p0.Y0))) 0 rfl (fun h=>by exact(cI h:cv (true&&((decide ((IntKind.wrap .i64 ((if p1.X1<p0.X1 then p1.X1 else p0.X1) - (if p0.X0<p1.X0 then p1.X0 else p0.X0)))>0))==true)) (vi (IntKind.wrap .i64 ((if p1.Y1<p0.Y1 then p1.Y1 else p0.Y1) - (if p0.Y0<p1.Y0 then p1.Y0 else p0.Y0))))= (vi (IntKind.wrap .i64 ((if p1.Y1<p0.Y1 then p1.Y1 else p0.Y1) - (if p0.Y0<p1.Y0 then p1.Y0 else p0.Y0)))))) (fun _=>rfl) rfl) (RL.pick (decide ((IntKind.wrap .i64 ((if p1.X1<p0.X1 then p1.X1 else p0.X1) - (if p0.X0<p1.X0 then p1.X0 else p0.X0)))>0)) (vb ((decide ((IntKind.wrap .i64 ((if p1.X1<p0.X1 then p1.X1 else p0.X1) - (if p0.X0<p1.X0 then p1.X0 else p0.X0)))>0))&&(decide ((IntKind.wrap .i64 ((if p1.Y1<p0.Y1 then p1.Y1 else p0.Y1) - (if p0.Y0<p1.Y0 then p1.Y0 else p0.Y0)))>=0)))) (fZ true rfl) (mv (vb ((decide ((IntKind.wrap .i64 ((if p1.X1<p0.X1 then p1.X1 else p0.X1) - (if p0.X0<p1.X0 then p1.X0 else p0.X0)))>0))&&(decide ((IntKind.wrap .i64 ((if p1.Y1<p0.Y1 then p1.Y1 else p0.Y1) - (if p0.Y0<p1.Y0 then p1.Y0 else p0.Y0)))>=0)))) (RL.gs true ((decide ((IntKind.wrap .i64 ((if p1.X1<p0.X1 then p1.X1 else p0.X1) - (if p0.X0<p1.X0 then p1.X0 else p0.X0)))>0))&&(decide ((IntKind.wrap .i64 ((if p1.Y1<p0.Y1 then p1.Y1 else p0.Y1) - (if p0.Y0<p1.Y0 then p1.Y0 else p0.Y0)))>=0))) (vi (IntKind.wrap .i64 ((if p1.X1<p0.X1 then p1.X1 else p0.X1) - (if p0.X0<p1.X0 then p1.X0 else p0.X0)))) rfl rfl rfl cF ?_))))))))
 refine RL.gs true ((decide ((IntKind.wrap .i64 ((if p1.X1<p0.X1 then p1.X1 else p0.X1) - (if p0.X0<p1.X0 then p1.X0 else p0.X0)))>0))&&(decide ((IntKind.wrap .i64 ((if p1.Y1<p0.Y1 then p1.Y1 else p0.Y1) - (if p0.Y0<p1.Y0 then p1.Y0 else p0.Y0)))>=0))) (vb (decide ((IntKind.wrap .i64 ((if p1.X1<p0.X1 then p1.X1 else p0.X1) - (if p0.X0<p1.X0 then p1.X0 else p0.X0)))>=0))) rfl rfl rfl (dI .geq .i64 (IntKind.wrap .i64 ((if p1.X1<p0.X1 then p1.X1 else p0.X1) - (if p0.X0<p1.X0 then p1.X0 else p0.X0))) 0 rfl (fun h=>by exact(cI h:cv (true&&(((decide ((IntKind.wrap .i64 ((if p1.X1<p0.X1 then p1.X1 else p0.X1) - (if p0.X0<p1.X0 then p1.X0 else p0.X0)))>0))&&(decide ((IntKind.wrap .i64 ((if p1.Y1<p0.Y1 then p1.Y1 else p0.Y1) - (if p0.Y0<p1.Y0 then p1.Y0 else p0.Y0)))>=0)))==false)) (vi (IntKind.wrap .i64 ((if p1.X1<p0.X1 then p1.X1 else p0.X1) - (if p0.X0<p1.X0 then p1.X0 else p0.X0))))= (vi (IntKind.wrap .i64 ((if p1.X1<p0.X1 then p1.X1 else p0.X1) - (if p0.X0<p1.X0 then p1.X0 else p0.X0)))))) (fun _=>rfl) rfl) (RL.gs true ((decide ((IntKind.wrap .i64 ((if p1.X1<p0.X1 then p1.X1 else p0.X1) - (if p0.X0<p1.X0 then p1.X0 else p0.X0)))>0))&&(decide ((IntKind.wrap .i64 ((if p1.Y1<p0.Y1 then p1.Y1 else p0.Y1) - (if p0.Y0<p1.Y0 then p1.Y0 else p0.Y0)))>=0))) (vb (decide ((IntKind.wrap .i64 ((if p1.X1<p0.X1 then p1.X1 else p0.X1) - (if p0.X0<p1.X0 then p1.X0 else p0.X0)))>=0))) rfl rfl rfl (cF (hx:=fun h=>by exact(cI h:cv (true&&(((decide ((IntKind.wrap .i64 ((if p1.X1<p0.X1 then p1.X1 else p0.X1) - (if p0.X0<p1.X0 then p1.X0 else p0.X0)))>0))&&(decide ((IntKind.wrap .i64 ((if p1.Y1<p0.Y1 then p1.Y1 else p0.Y1) - (if p0.Y0<p1.Y0 then p1.Y0 else p0.Y0)))>=0)))==false)) (vb (decide ((IntKind.wrap .i64 ((if p1.X1<p0.X1 then p1.X1 else p0.X1) - (if p0.X0<p1.X0 then p1.X0 else p0.X0)))>=0)))= (vb (decide ((IntKind.wrap .i64 ((if p1.X1<p0.X1 then p1.X1 else p0.X1) - (if p0.X0<p1.X0 then p1.X0 else p0.X0)))>=0)))))) (RL.gs (true&&(((decide ((IntKind.wrap .i64 ((if p1.X1<p0.X1 then p1.X1 else p0.X1) - (if p0.X0<p1.X0 then p1.X0 else p0.X0)))>0))&&(decide ((IntKind.wrap .i64 ((if p1.Y1<p0.Y1 then p1.Y1 else p0.Y1) - (if p0.Y0<p1.Y0 then p1.Y0 else p0.Y0)))>=0)))==false)) (decide ((IntKind.wrap .i64 ((if p1.X1<p0.X1 then p1.X1 else p0.X1) - (if p0.X0<p1.X0 then p1.X0 else p0.X0)))>=0)) (vi (IntKind.wrap .i64 ((if p1.Y1<p0.Y1 then p1.Y1 else p0.Y1) - (if p0.Y0<p1.Y0 then p1.Y0 else p0.Y0)))) rfl rfl rfl cF (RL.gs (true&&(((decide ((IntKind.wrap .i64 ((if p1.X1<p0.X1 then p1.X1 else p0.X1) - (if p0.X0<p1.X0 then p1.X0 else p0.X0)))>0))&&(decide ((IntKind.wrap .i64 ((if p1.Y1<p0.Y1 then p1.Y1 else p0.Y1) - (if p0.Y0<p1.Y0 then p1.Y0 else p0.Y0)))>=0)))==false)) (decide ((IntKind.wrap .i64 ((if p1.X1<p0.X1 then p1.X1 else p0.X1) - (if p0.X0<p1.X0 then p1.X0 else p0.X0)))>=0)) (vb (decide ((IntKind.wrap .i64 ((if p1.Y1<p0.Y1 then p1.Y1 else p0.Y1) - (if p0.Y0<p1.Y0 then p1.Y0 else p0.Y0)))>0))) rfl rfl rfl (dI .gtr .i64 (IntKind.wrap .i64 ((if p1.Y1<p0.Y1 then p1.Y1 else p0.Y1) - (if p0.Y0<p1.Y0 then p1.Y0 else p0.Y0))) 0 rfl (fun h=>by exact(cI h:cv ((true&&(((decide ((IntKind.wrap .i64 ((if p1.X1<p0.X1 then p1.X1 else p0.X1) - (if p0.X0<p1.X0 then p1.X0 else p0.X0)))>0))&&(decide ((IntKind.wrap .i64 ((if p1.Y1<p0.Y1 then p1.Y1 else p0.Y1) - (if p0.Y0<p1.Y0 then p1.Y0 else p0.Y0)))>=0)))==false))&&((decide ((IntKind.wrap .i64 ((if p1.X1<p0.X1 then p1.X1 else p0.X1) - (if p0.X0<p1.X0 then p1.X0 else p0.X0)))>=0))==true)) (vi (IntKind.wrap .i64 ((if p1.Y1<p0.Y1 then p1.Y1 else p0.Y1) - (if p0.Y0<p1.Y0 then p1.Y0 else p0.Y0))))= (vi (IntKind.wrap .i64 ((if p1.Y1<p0.Y1 then p1.Y1 else p0.Y1) - (if p0.Y0<p1.Y0 then p1.Y0 else p0.Y0)))))) (fun _=>rfl) rfl) (RL.gs true ((decide ((IntKind.wrap .i64 ((if p1.X1<p0.X1 then p1.X1 else p0.X1) - (if p0.X0<p1.X0 then p1.X0 else p0.X0)))>0))&&(decide ((IntKind.wrap .i64 ((if p1.Y1<p0.Y1 then p1.Y1 else p0.Y1) - (if p0.Y0<p1.Y0 then p1.Y0 else p0.Y0)))>=0))) (vb ((decide ((IntKind.wrap .i64 ((if p1.X1<p0.X1 then p1.X1 else p0.X1) - (if p0.X0<p1.X0 then p1.X0 else p0.X0)))>=0))&&(decide ((IntKind.wrap .i64 ((if p1.Y1<p0.Y1 then p1.Y1 else p0.Y1) - (if p0.Y0<p1.Y0 then p1.Y0 else p0.Y0)))>0)))) rfl rfl rfl (kj (decide ((IntKind.wrap .i64 ((if p1.X1<p0.X1 then p1.X1 else p0.X1) - (if p0.X0<p1.X0 then p1.X0 else p0.X0)))>=0)) rfl (fun h=>by exact(cI h:cv (true&&(((decide ((IntKind.wrap .i64 ((if p1.X1<p0.X1 then p1.X1 else p0.X1) - (if p0.X0<p1.X0 then p1.X0 else p0.X0)))>0))&&(decide ((IntKind.wrap .i64 ((if p1.Y1<p0.Y1 then p1.Y1 else p0.Y1) - (if p0.Y0<p1.Y0 then p1.Y0 else p0.Y0)))>=0)))==false)) (vb (decide ((IntKind.wrap .i64 ((if p1.X1<p0.X1 then p1.X1 else p0.X1) - (if p0.X0<p1.X0 then p1.X0 else p0.X0)))>=0)))= (vb (decide ((IntKind.wrap .i64 ((if p1.X1<p0.X1 then p1.X1 else p0.X1) - (if p0.X0<p1.X0 then p1.X0 else p0.X0)))>=0))))) (fun h=>by exact fZ (true&&(((decide ((IntKind.wrap .i64 ((if p1.X1<p0.X1 then p1.X1 else p0.X1) - (if p0.X0<p1.X0 then p1.X0 else p0.X0)))>0))&&(decide ((IntKind.wrap .i64 ((if p1.Y1<p0.Y1 then p1.Y1 else p0.Y1) - (if p0.Y0<p1.Y0 then p1.Y0 else p0.Y0)))>=0)))==false)) h)) (RL.pick ((decide ((IntKind.wrap .i64 ((if p1.X1<p0.X1 then p1.X1 else p0.X1) - (if p0.X0<p1.X0 then p1.X0 else p0.X0)))>0))&&(decide ((IntKind.wrap .i64 ((if p1.Y1<p0.Y1 then p1.Y1 else p0.Y1) - (if p0.Y0<p1.Y0 then p1.Y0 else p0.Y0)))>=0))) (vb (((decide ((IntKind.wrap .i64 ((if p1.X1<p0.X1 then p1.X1 else p0.X1) - (if p0.X0<p1.X0 then p1.X0 else p0.X0)))>0))&&(decide ((IntKind.wrap .i64 ((if p1.Y1<p0.Y1 then p1.Y1 else p0.Y1) - (if p0.Y0<p1.Y0 then p1.Y0 else p0.Y0)))>=0)))||((decide ((IntKind.wrap .i64 ((if p1.X1<p0.X1 then p1.X1 else p0.X1) - (if p0.X0<p1.X0 then p1.X0 else p0.X0)))>=0))&&(decide ((IntKind.wrap .i64 ((if p1.Y1<p0.Y1 then p1.Y1 else p0.Y1) - (if p0.Y0<p1.Y0 then p1.Y0 else p0.Y0)))>0))))) (nD true) (aQ (vb (((decide ((IntKind.wrap .i64 ((if p1.X1<p0.X1 then p1.X1 else p0.X1) - (if p0.X0<p1.X0 then p1.X0 else p0.X0)))>0))&&(decide ((IntKind.wrap .i64 ((if p1.Y1<p0.Y1 then p1.Y1 else p0.Y1) - (if p0.Y0<p1.Y0 then p1.Y0 else p0.Y0)))>=0)))||((decide ((IntKind.wrap .i64 ((if p1.X1<p0.X1 then p1.X1 else p0.X1) - (if p0.X0<p1.X0 then p1.X0 else p0.X0)))>=0))&&(decide ((IntKind.wrap .i64 ((if p1.Y1<p0.Y1 then p1.Y1 else p0.Y1) - (if p0.Y0<p1.Y0 then p1.Y0 else p0.Y0)))>0))))) (RL.nt (RC.ret ?_))))))))
 obtain rfl:=oi hb
 exact bX ⟨rfl,hw.drop 4⟩
theorem rV {p0: (List (List aI))} {p1: (List aI)} {res: (List (List aI))} (hw:Holds E w Γ) (h0:Γ[i0]? =some (rd v0 p0)) (h1:Γ[i1]? =some (rd v1 p1)) (hb:jl N p0 p1=some res):
    Calls bM 63 [v0,v1].toArray w (gL (og E Γ res)):=by
 unfold jl at hb
 refine enter Tryz.func63 zr zr ?_
 have hw:=(hw.dup (i0+0) h0).dup (i1+1) h1
 refine RC.sr (aQ (.slice none 0 0) (RL.ns (mv v0 (RL.bC 1 p0 hw pE (aQ (vi p0.length) (RL.nq ?_))))))
 obtain⟨ay,hN,hb⟩:=bd hb
 refine RC.iter (fun(o:Int)=>SH E Γ [(0,v0),(1,v1),(5,vi o)] [rd v0 p0,rd v1 p1]) (fun(o:Int)=>SH E Γ [(0,v0),(1,v1),(5,vi o)] [rd v0 p0,rd v1 p1]) (fun(r:Empty) _ _=>r.elim) hN ?_ ?_ ?_ ?_
 ·exact hw.sp 2 [1,0]
 ·rintro o fl _ w ⟨τ,rfl,hw⟩ hb
  refine RC.seq (RC.seq ?_)
  obtain⟨aa,hj,hb⟩:=bd hb
  refine RC.jn (fun(aa:Bool)=>SH E Γ [(0,v0),(1,v1),(5,vi o),(23,vb aa)] [rd v0 p0,rd v1 p1]) aa ?_ ?_
  ·refine RC.vH mixed [0,0,0,0,0,0,0,0,0,0,0,0,0,2,0] [0,1,2,3,4,5,6,7,8,9,10,11,12,13,14] ?_
   have hw:=hw.drew
   refine DP.e0 zr (mv (vi o) (aZ zr (ic o 0 (aZ zr (mv (vb (decide (o>0))) (DP.d0 (fB hj (fun j hj=>?_) fun j hj=>?_)))))))
   rotate_left
   ·refine DP.e0 zr (bJ j (aZ zr (bJ j (aZ zr (bJ j (aZ zr (bJ j (aZ zr ?_))))))))
    refine bJ j (aZ zr (bJ j (aZ zr (bJ j (aZ zr (bJ j (aZ zr (bJ j ?_))))))))
    refine aZ zr (bJ j (pz zr (bJ j (tw zr (fG j (vb false) (DP.d0 (DP.z ?_)))))))
    obtain rfl:=oi hj
    exact⟨rfl,hw.sp 2 [0,1]⟩
   refine DP.e0 zr (RL.move v1 (cg j) (aZ zr ?_))
   obtain⟨ae,af,hj⟩:=bd hj
   refine RL.bN (hg:=(cg j)) 1 hw iY af fun az hw=>(aZ zr (RL.bL (hg:=(cg j)) 0 ae hw iw fun ag hw=>(aZ zr (RL.move v0 (cg j) (aZ zr (RL.move (vi o) (cg j) (aZ zr (RL.fQ (hg:=(cg j)) o 1 ?_))))))))
   refine aZ zr ?_
   obtain⟨ah,ai,hj⟩:=bd hj
   refine RL.bN (hg:=(cg j)) 2 hw tz ai fun a0 hw=>(aZ zr (RL.bL (hg:=(cg j)) 0 ah hw rH fun a1 hw=>(aZ zr ?_)))
   obtain⟨aj,ak,hj⟩:=bd hj
   refine RL.bN (hg:=(cg j)) 0 hw iY ak fun a2 hw=>(aZ zr (RL.bL (hg:=(cg j)) 0 aj hw iw fun al hw=>(pz zr ?_)))
   obtain⟨an,ao,hj⟩:=bd hj
   refine RL.call (cg j) zr Kw [ag,al] zr (aD (nL N (i0:=4) (i1:=0) hw zr zr ao) ?_)
   rintro _ w ⟨rfl,hw⟩
   refine tw zr (fG j (vb an) (DP.d0 (DP.z ?_)))
   obtain rfl:=oi hj
   exact⟨rfl,hw.sp 8 [6,7]⟩
  rintro _ w ⟨τ,rfl,hw⟩
  refine aH (dT hb (fun hc hb=>?_) fun hc hb=>?_)
  rotate_left
  ·refine RC.ex ?_
   obtain rfl:=oi hb
   exact⟨rfl,hw.sp 2 [0,1]⟩
  refine RC.sn (RC.block (RC.region (mv (vi o) (RL.fQ o 1 (aQ (vi (IntKind.wrap .i64 (o - 1))) (RL.nil (bO ?_)))))))
  obtain rfl:=oi hb
  exact⟨rfl,hw.sp 2 [0,1]⟩
 ·intro r _ _ _ _
  exact r.elim
 rintro o _ w rfl ⟨τ,rfl,hw⟩
 rw [Fo.dF] at hb
 refine aH (RC.sr (aQ (.slice none 0 0) (RL.ns (mv (.slice none 0 0) (mv v0 (mv (vi o) ?_))))))
 obtain⟨a3,aq,hb⟩:=bd hb
 refine RL.cut (hl:= .inr ⟨rfl,zr⟩) 0 hw tz (.inl zr) aq fun a4 hw=>?_
 have hw:=hw.cX (List aI) 23
 obtain⟨a5,ar,hb⟩:=bd hb
 refine RL.app 0 1 hw GF ar fun ab w hw=>?_
 refine aQ ab (RL.ns (mv ab (mv v1 (RL.dW ([p1]: (List (List aI))) hw [v1] tz Jc (fun M hs g=>⟨(g.sat 3 _ zr).1,zt⟩) fun a6 w hw=>?_))))
 have hw:=hw.freeze 0
 obtain⟨a7,au,hb⟩:=bd hb
 refine RL.app 1 0 hw GF au fun ad w hw=>?_
 refine aQ ad (RL.ns (mv ad (mv v0 (mv (vi o) ?_))))
 obtain⟨a8,av,hb⟩:=bd hb
 refine RL.cut 3 hw tz (.inr ⟨rfl,zr⟩) av fun a9 hw=>?_
 obtain⟨ba,aw,hb⟩:=bd hb
 refine RL.app 2 0 hw GF aw fun ax w hw=>?_
 refine aQ ax (RL.nt (RC.ret ?_))
 obtain rfl:=oi hb
 exact bX (hw.pk 6 [2])
theorem mO {p0: (List aI)} {res: (List (List aI))} (hw:Holds E w Γ) (h0:Γ[i0]? =some (rd v0 p0)) (hb:fw N p0=some res):
    Calls bM 30 [v0].toArray w (gL (og E Γ res)):=by
 unfold fw at hb
 refine enter Tryz.func30 zr zr ?_
 have hw:=hw.dup (i0+0) h0
 refine RC.sr (aQ (.slice none 0 0) (RL.ns (mv v0 (RL.bC 0 p0 hw mS ?_))))
 obtain⟨bn,a5,hb⟩:=bd hb
 refine RL.mk (p0.length:Int) hw GO Mg a5 fun ab w hw=>?_
 refine aQ ab (RL.ns (aQ (.slice none 0 0) (RL.nq (RC.sr (aQ (vi 0) (RL.nt ?_))))))
 obtain⟨bo,hN,hb⟩:=bd hb
 refine RC.iter (fun(j: (List Bool)×(List (List aI))×Int) σ w=>∃aw:Value,SH E Γ [(0,v0),(3,ab),(4,aw),(5,vi j.2.2)] [rd v0 p0,own 4 ab j.1,own 23 aw j.2.1] σ w) (fun(j: (List Bool)×(List (List aI))×Int) σ w=>∃ag:Value,SH E Γ [(4,ag)] [rd v0 p0,own 4 ab j.1,own 23 ag j.2.1] σ w) (fun(r:Empty) _ _=>r.elim) hN ?_ ?_ ?_ ?_
 ·have hw:=hw.cX (List aI) 23
  exact⟨(.slice none 0 0),hw.sp 3 [2,1,0]⟩
 ·rintro j fl _ w ⟨ae,τ,rfl,hw⟩ hb
  refine RC.seq (RC.sr (mv (vi j.2.2) (mv v0 (RL.bC 0 p0 hw mS (ic j.2.2 ((p0.length:Int)) (RL.nt (dT hb (fun hc hb=>?_) fun hc hb=>?_)))))))
  rotate_left
  ·refine RC.ex ?_
   obtain rfl:=oi hb
   exact⟨rfl,ae,hw.sp 3 [0,1,2]⟩
  refine RC.ss (RC.block (RC.seq (RC.sr (mv ab (mv (vi j.2.2) ?_)))))
  obtain⟨bp,al,hb⟩:=bd hb
  refine RL.bU 1 hw zr zr vq al (RL.dO (f:=(fun x=>x)) 1 hw (jA 1 hw al 0) (bI al).2.1 Fd.self A2 (RL.nt (dT hb (fun hc hb=>?_) fun hc hb=>?_)))
  ·refine RC.ex (F8 (aH (RC.region (mv (vi j.2.2) (RL.fQ j.2.2 1 (aQ (vi (IntKind.wrap .i64 (j.2.2+1))) (RL.nil ?_)))))))
   obtain rfl:=oi hb
   exact⟨rfl,ae,hw.sp 3 [0,1,2]⟩
  refine RC.sx (mv ab (mv (vi j.2.2) ?_))
  obtain⟨bq,an,hb⟩:=bd hb
  refine RL.bU 1 hw zr zr vq an ?_
  have hw:=hw.sc Bool true
  refine RL.gx (f:=(fun _ y=>y)) 2 0 hw (jA 2 hw an 0) (bI an).2.1 zr Fs.self A2 fun w hw=>?_
  refine RL.ns (mv v0 (mv (vi j.2.2) ?_))
  obtain⟨ax,a6,hb⟩:=bd hb
  refine RL.bN 1 hw iY a6 fun br hw=>(RL.bL 0 ax hw iw fun a7 hw=>(RL.dW ([ax]: (List aI)) hw [a7] iY oc (fun M hs g=>⟨(g.sat 0 _ zr).1,zt⟩) fun ay w hw=>(aQ ay (RL.nq (RC.sr (aQ (vi 0) (RL.nt ?_)))))))
  obtain⟨bt,hN,hb⟩:=bd hb
  refine RC.iter (fun(ad: (List Bool)×(List aI)×Int) σ w=>∃az:Value,SH E Γ [(0,v0),(3,ab),(4,ae),(5,vi j.2.2),(6,az),(7,vi ad.2.2)] [rd v0 p0,own 4 ab ad.1,own 23 ae j.2.1,own 59 az ad.2.1] σ w) (fun(ad: (List Bool)×(List aI)×Int) σ w=>∃ah:Value,SH E Γ [(0,v0),(3,ab),(4,ae),(5,vi j.2.2),(6,ah)] [rd v0 p0,own 4 ab ad.1,own 23 ae j.2.1,own 59 ah ad.2.1] σ w) (fun(r:Empty) _ _=>r.elim) hN ?_ ?_ ?_ ?_
  ·exact⟨ay,hw.sp 7 [4,5,6,0]⟩
  ·rintro ad fl _ w ⟨ao,τ,rfl,hw⟩ hb
   refine RC.seq (RC.sr (mv (vi ad.2.2) (mv ao (RL.fR 3 ad.2.1 hw mS (ic ad.2.2 ((ad.2.1.length:Int)) (RL.nt (dT hb (fun hc hb=>?_) fun hc hb=>?_)))))))
   rotate_left
   ·refine RC.ex ?_
    obtain rfl:=oi hb
    exact⟨rfl,ao,hw.sp 4 [0,1,2,3]⟩
   refine RC.ss (RC.bs (aQ (vi 0) (RL.nt ?_)))
   obtain⟨bu,hN,hb⟩:=bd hb
   refine RC.iter (fun(o: (List Bool)×(List aI)×Int) σ w=>∃a0:Value,SH E Γ [(0,v0),(3,ab),(4,ae),(5,vi j.2.2),(6,a0),(7,vi ad.2.2),(8,vi o.2.2)] [rd v0 p0,own 4 ab o.1,own 23 ae j.2.1,own 59 a0 o.2.1] σ w) (fun(o: (List Bool)×(List aI)×Int) σ w=>∃ai:Value,SH E Γ [(0,v0),(3,ab),(4,ae),(5,vi j.2.2),(6,ai),(7,vi ad.2.2)] [rd v0 p0,own 4 ab o.1,own 23 ae j.2.1,own 59 ai o.2.1] σ w) (fun(r:Empty) _ _=>r.elim) hN ?_ ?_ ?_ ?_
   ·exact⟨ao,hw.sp 4 [0,1,2,3]⟩
   ·rintro o fl _ w ⟨af,τ,rfl,hw⟩ hb
    refine RC.seq (RC.sr (mv (vi o.2.2) (mv v0 (RL.bC 0 p0 hw mS (ic o.2.2 ((p0.length:Int)) (RL.nt (dT hb (fun hc hb=>?_) fun hc hb=>?_)))))))
    rotate_left
    ·refine RC.ex ?_
     obtain rfl:=oi hb
     exact⟨rfl,af,hw.sp 4 [0,1,2,3]⟩
    refine RC.ss (RC.block (RC.seq ?_))
    obtain⟨aq,hj,hb⟩:=bd hb
    refine RC.jn (fun(aq:Bool)=>SH E Γ [(0,v0),(3,ab),(4,ae),(5,vi j.2.2),(6,af),(7,vi ad.2.2),(8,vi o.2.2),(57,vb aq)] [rd v0 p0,own 4 ab o.1,own 23 ae j.2.1,own 59 af o.2.1]) aq ?_ ?_
    ·refine RC.vH mixed [0,0,0,0,0,0,0,0,0,0,0,0,0,0,2,0] [0,1,2,3,4,5,6,7,8,9,10,11,12,13,14,15] ?_
     have hw:=hw.drew
     refine DP.e0 zr (mv ab (aZ zr (mv (vi o.2.2) (aZ zr ?_))))
     obtain⟨a1,ar,hj⟩:=bd hj
     refine RL.bU 1 hw zr zr vq ar (aZ zr (RL.dO (f:=(fun x=>x)) 1 hw (jA 1 hw ar 0) (bI ar).2.1 Fd.self A2 (aZ zr (RL.not a1 (aZ zr (mv (vb (!a1)) (DP.d0 (fB hj (fun aa hj=>?_) fun aa hj=>?_))))))))
     rotate_left
     ·refine DP.e0 zr (bJ aa (aZ zr (bJ aa (aZ zr (bJ aa (aZ zr (bJ aa (aZ zr ?_))))))))
      refine bJ aa (aZ zr (bJ aa (aZ zr (bJ aa (aZ zr (bJ aa (pz zr (bJ aa ?_))))))))
      refine tw zr (fG aa (vb false) (DP.d0 (DP.z ?_)))
      obtain rfl:=oi hj
      exact⟨rfl,hw.sp 4 [0,1,2,3]⟩
     refine DP.e0 zr (RL.move af (cg aa) (aZ zr (RL.move (vi ad.2.2) (cg aa) (aZ zr ?_))))
     obtain⟨bw,au,hj⟩:=bd hj
     refine RL.bU (hg:=(cg aa)) 3 hw zr zr iY au (aZ zr (RL.kl (hg:=(cg aa)) (f:=(fun x=>x)) 3 hw (jA 3 hw au 0) (bI au).2.1 Fd.self iw fun a8 hw=>?_))
     refine aZ zr (RL.move v0 (cg aa) (aZ zr (RL.move (vi o.2.2) (cg aa) (aZ zr ?_))))
     obtain⟨a9,ba,hj⟩:=bd hj
     refine RL.bN (hg:=(cg aa)) 1 hw iY ba fun bx hw=>(aZ zr (RL.bL (hg:=(cg aa)) 0 a9 hw iw fun bb hw=>(pz zr ?_)))
     obtain⟨bc,bf,hj⟩:=bd hj
     refine RL.call (cg aa) zr Mh [a8,bb] zr (aD (sT N (i0:=2) (i1:=0) hw zr zr bf) ?_)
     rintro _ w ⟨rfl,hw⟩
     refine tw zr (fG aa (vb bc) (DP.d0 (DP.z ?_)))
     obtain rfl:=oi hj
     exact⟨rfl,hw.sp 7 [3,4,5,6]⟩
    rintro _ w ⟨τ,rfl,hw⟩
    refine aH ?_
    obtain⟨aj,hj,hb⟩:=bd hb
    refine RC.jn (fun(aj: (List Bool)×(List aI)) σ w=>∃ak:Value,SH E Γ [(0,v0),(3,ab),(4,ae),(5,vi j.2.2),(6,ak),(7,vi ad.2.2),(8,vi o.2.2)] [rd v0 p0,own 4 ab aj.1,own 23 ae j.2.1,own 59 ak aj.2] σ w) aj ?_ ?_
    ·refine dT hj (fun hc hj=>?_) fun hc hj=>?_
     rotate_left
     ·refine RC.skip ?_
      obtain rfl:=oi hj
      exact⟨rfl,af,hw.sp 4 [0,1,2,3]⟩
     refine RC.sr (mv ab (mv (vi o.2.2) ?_))
     obtain⟨bz,av,hj⟩:=bd hj
     refine RL.bU 1 hw zr zr vq av ?_
     have hw:=hw.sc Bool true
     refine RL.gx (f:=(fun _ y=>y)) 2 0 hw (jA 2 hw av 0) (bI av).2.1 zr Fs.self A2 fun w hw=>?_
     refine RL.nt (RC.region (mv af (mv v0 (mv (vi o.2.2) ?_))))
     obtain⟨a2,bg,hj⟩:=bd hj
     refine RL.bN 1 hw iY bg fun b0 hw=>(RL.bL 0 a2 hw iw fun bh hw=>(RL.dW ([a2]: (List aI)) hw [bh] iY oc (fun M hs g=>⟨(g.sat 0 _ zr).1,zt⟩) fun b1 w hw=>?_))
     have hw:=hw.freeze 0
     obtain⟨b2,bj,hj⟩:=bd hj
     refine RL.app 7 0 hw zi bj fun a3 w hw=>?_
     refine aQ a3 (RL.nil ?_)
     obtain rfl:=oi hj
     exact⟨rfl,a3,hw.sp 8 [4,5,6,7]⟩
    rintro _ w ⟨ak,τ,rfl,hw⟩
    refine bO (aH (RC.region (mv (vi o.2.2) (RL.fQ o.2.2 1 (aQ (vi (IntKind.wrap .i64 (o.2.2+1))) (RL.nil ?_))))))
    obtain rfl:=oi hb
    exact⟨rfl,ak,hw.sp 4 [0,1,2,3]⟩
   ·intro r _ _ _ _
    exact r.elim
   rintro o _ w rfl ⟨ai,τ,rfl,hw⟩
   rw [Fo.dF] at hb
   refine bO (aH (RC.region (mv (vi ad.2.2) (RL.fQ ad.2.2 1 (aQ (vi (IntKind.wrap .i64 (ad.2.2+1))) (RL.nil ?_))))))
   obtain rfl:=oi hb
   exact⟨rfl,ai,hw.sp 4 [0,1,2,3]⟩
  ·intro r _ _ _ _
   exact r.elim
  rintro ad _ w rfl ⟨ah,τ,rfl,hw⟩
  rw [Fo.dF] at hb
  refine aH (RC.region (mv ae (mv ah ?_)))
  have hw:=hw.freeze 3
  obtain⟨b3,bk,hb⟩:=bd hb
  refine RL.call zt zr Jm [ah] zr (aD (jY N (i0:=3) hw zr bk) ?_)
  rintro bl w hw
  have hw:=(hw.freeze 3).freeze 0
  obtain⟨b4,bm,hb⟩:=bd hb
  refine RL.call zt zr Mi [ae,bl] zr (aD (rV N (i0:=3) (i1:=0) hw zr zr bm) ?_)
  rintro a4 w hw
  refine aQ a4 (RL.nil (bO (aH (RC.region (mv (vi j.2.2) (RL.fQ j.2.2 1 (aQ (vi (IntKind.wrap .i64 (j.2.2+1))) (RL.nil ?_))))))))
  obtain rfl:=oi hb
  exact⟨rfl,a4,hw.sp 6 [2,3,0]⟩
 ·intro r _ _ _ _
  exact r.elim
 rintro j _ w rfl ⟨ag,τ,rfl,hw⟩
 rw [Fo.dF] at hb
 refine aH (RC.sr (mv ag (aQ ag (RL.nt (RC.ret ?_)))))
 obtain rfl:=oi hb
 exact bX (hw.pk 3 [2])
end Go.Gk
