/-
  Printed texts: Go functions as plain functions, and that they are. No statement of the seed is proved here.
-/
import Derived.Test.YtgehimfkgpbooaaGreatDoorG1
import Derived.Test.YtgehimfkgpbooaaGreatDoorG2
import Derived.Test.YtgehimfkgpbooaaGreatDoorG5
import Derived.Test.YtgehimfkgpbooaaGreatDoorG6
import Derived.Test.YtgehimfkgpbooaaGreatDoorG7
import Derived.Test.YtgehimfkgpbooaaGreatDoorG8
import Derived.Test.YtgehimfkgpbooaaGreatDoorA2
set_option linter.unusedVariables false
set_option linter.unusedSimpArgs false
set_option linter.unusedSectionVars false
set_option maxRecDepth 100000
set_option maxHeartbeats 4000000
namespace Go.Gk
open Go Go.Proofs
variable (N:Nat) {E w:World} {b0 i0:Nat} {p1 p2:Int} {v0 v0_0 v0_1 v0_2 v0_3 v0_4 v0_5 v0_7:Value} {Γ:List HP}
def nQ (E:World) (Γ:List HP) (b0:Nat) (v0_0 v0_1:Value) (v0_2 v0_3:Value) (v0_4 v0_5 v0_7:Value) (res: (List cO)) (v:Value) (w:World):Prop:=∃u0_6:Value,v = .tuple #[]/\Holds E w ([bc 57 b0 [v0_0,v0_1,v0_2,v0_3,v0_4,v0_5,u0_6,v0_7],own 97 u0_6 res]++Γ)
theorem nA {p0_2: (List cD)} {p0_3: (List fK)} {p0_4: (List Int)} {p0_5: (List (List aI))} {p0_7: (List (List Int))} {res: (List cO)} (hw:Holds E w (bc 57 b0 [v0_0,v0_1,v0_2,v0_3,v0_4,v0_5,(.slice none 0 0),v0_7]::rd v0_2 p0_2::rd v0_3 p0_3::rd v0_4 p0_4::rd v0_5 p0_5::rd v0_7 p0_7::Γ)) (hb:eP N p0_2 p0_3 p0_4 p0_5 p0_7=some res):
    Calls bM 33 [(vp b0 0)].toArray w (gL (nQ E Γ b0 v0_0 v0_1 v0_2 v0_3 v0_4 v0_5 v0_7 res)):=by
 unfold eP at hb
 refine enter Tryz.func33 zr zr (RC.sr (mv (vp b0 0) (RL.nilCheck zr (RL.aX zr rh (RL.bH 0 v0_5 hw oD (RL.bC 4 p0_5 hw pE ?_))))))
 obtain⟨b5,bn,hb⟩:=bd hb
 refine RL.mk (p0_5.length:Int) hw GO Mg bn fun al w hw=>?_
 refine aQ al (RL.nq (RC.sr (aQ (vi 0) (RL.nt ?_))))
 obtain⟨b6,hN,hb⟩:=bd hb
 refine RC.iter (fun(aj: (List cO)×(List Bool)×Int) σ w=>∃(bf:Value) (us76:List aT),SH E Γ [(0,vp b0 0),(2,al),(3,vi aj.2.2)] [bc 57 b0 [v0_0,v0_1,v0_2,v0_3,v0_4,v0_5,bf,v0_7],own 97 bf us76,hU aU us76 aj.1 none,rd v0_2 p0_2,rd v0_3 p0_3,rd v0_4 p0_4,rd v0_5 p0_5,rd v0_7 p0_7,own 4 al aj.2.1] σ w) (fun(aj: (List cO)×(List Bool)×Int) σ w=>∃(ax:Value) (us78:List aT),SH E Γ [(0,vp b0 0)] [bc 57 b0 [v0_0,v0_1,v0_2,v0_3,v0_4,v0_5,ax,v0_7],own 97 ax us78,hU aU us78 aj.1 none,rd v0_2 p0_2,rd v0_3 p0_3,rd v0_4 p0_4,rd v0_5 p0_5,rd v0_7 p0_7,own 4 al aj.2.1] σ w) (fun(r:Empty) _ _=>r.elim) hN ?_ ?_ ?_ ?_
 ·have hw:=(hw.yT aU).cX aT 97
  exact⟨(.slice none 0 0),([]:List aT),hw.sp 9 [3,0,1,4,5,6,7,8,2]⟩
 ·rintro aj fl _ w ⟨au,us80,τ,rfl,hw⟩ hb
  refine RC.seq (RC.sr (mv (vi aj.2.2) (mv (vp b0 0) (RL.nilCheck zr (RL.aX zr rh (RL.bH 0 v0_5 hw oD (RL.bC 6 p0_5 hw pE (ic aj.2.2 ((p0_5.length:Int)) ?_))))))))
  refine RL.nt (dT hb (fun hc hb=>?_) fun hc hb=>?_)
  rotate_left
  ·refine RC.ex ?_
   obtain rfl:=oi hb
   exact⟨rfl,au,us80,hw.sp 9 [0,1,2,3,4,5,6,7,8]⟩
  refine RC.ss (RC.bs (mv al (mv (vi aj.2.2) ?_)))
  obtain⟨bo,a6,hb⟩:=bd hb
  refine RL.bU 8 hw zr zr vq a6 (RL.dO (f:=(fun x=>x)) 8 hw (jA 8 hw a6 0) (bI a6).2.1 Fd.self A2 (RL.not bo (RL.nt ?_)))
  obtain⟨ay,hj,hb⟩:=bd hb
  refine RC.jn (fun(ay: (List cO)×(List Bool)) σ w=>∃(a0:Value) (us91:List aT),SH E Γ [(0,vp b0 0),(2,al),(3,vi aj.2.2)] [bc 57 b0 [v0_0,v0_1,v0_2,v0_3,v0_4,v0_5,a0,v0_7],own 97 a0 us91,hU aU us91 ay.1 none,rd v0_2 p0_2,rd v0_3 p0_3,rd v0_4 p0_4,rd v0_5 p0_5,rd v0_7 p0_7,own 4 al ay.2] σ w) ay ?_ ?_
  ·refine dT hj (fun hc hj=>?_) fun hc hj=>?_
   rotate_left
   ·refine RC.skip ?_
    obtain rfl:=oi hj
    exact⟨rfl,au,us80,hw.sp 9 [0,1,2,3,4,5,6,7,8]⟩
   have hw:=hw.drew
   refine RC.D4 (fun w=>Holds E w ([bc 57 b0 [v0_0,v0_1,v0_2,v0_3,v0_4,v0_5,au,v0_7]]++Γ)) mixed zr [1,1,1,1,1,0,0,0,2,2,2,0,0,2] [0,1,2,3,4,5,6,7,8,9,10,11,12,13] (hw.pk 9 [0]) (DP.e1 (vp b0 0) zr (fun w=>RL.move (vp b0 0) zt DP.d1) (DP.e1 (vp b0 0) zr (fun w=>RL.move (vp b0 0) zt DP.d1) (DP.e1 (vp b0 0) zr (fun w=>RL.nilCheck zr DP.d1) (DP.e1 (vp b0 6) zr (fun w=>RL.aX zr rj DP.d1) (DP.HL au zr (fun w hw=>RL.bH 0 au hw u6 DP.d1) (DP.e0 zr (mv (vp b0 0) (aZ zr ?_))))))))
   refine mv (vi aj.2.2) (aZ zr (mv al (pz zr ?_)))
   have hw:=((hw.pull 8).dup 8 rfl).pull 2
   obtain⟨ak,bp,hj⟩:=bd hj
   refine RL.call zt zr Ml [(vp b0 0),(vi aj.2.2),al] zr (aD (oY N (p1:=aj.2.2) hw bp) ?_)
   rintro _ w ⟨a7,a1,an,rfl,hw⟩
   refine DP.d2 (hw.pk 14 [3]) (DP.e2 zr ?_)
   have hw:=(hw.AV (i:=2) rfl).DW (cs:=[a7,a1,an]) (x:=(⟨ak.1.1,ak.1.2.1,(rv an)⟩:aT)) (fun M hs g=>⟨[a7],[a1,an],rfl,(q7 (g.sat 1 _ rfl).1),⟨[a1],[an],rfl,(q7 (g.sat 2 _ rfl).1),(q7 (g.sat 0 _ rfl).1)⟩⟩) rfl
   refine RL.dW ([(⟨ak.1.1,ak.1.2.1,(rv an)⟩:aT)]:List aT) hw [(.agg ([a7,a1,an]:List Value).toArray)] AB Jj (fun M hs g=>⟨(g.sat 0 _ zr).1,zt⟩) fun b7 w hw=>(DP.d2 (hw.pk 17 [6]) (DP.e2 zr ?_))
   obtain⟨b8,bq,hj⟩:=bd hj
   have hw:=hw.freeze 0
   refine RL.xy 9 0 10 5 aU (⟨ak.1.1,ak.1.2.1,(rv an)⟩:aT) (⟨ak.1.1,ak.1.2.1,ak.1.2.2⟩:cO) an ak.1.2.2 (fun _ _ ho=>⟨⟨rfl,zr⟩,ho⟩) zr hw zr zr zr zr zr zr Jk bq fun bg w hw=>?_
   refine DP.d2 (hw.pk 17 [6]) (DP.e0 zr (RL.nilCheck zr (aZ zr (RL.aX zr rj (DP.d0 (DP.K9 zr zr (RL.ig 6 bg hw zr zr (iD 9 hw) u6 fun w hw=>?_)))))))
   refine DP.d2 zt (DP.z ?_)
   obtain rfl:=oi hj
   exact⟨rfl,bg,(us80++[(⟨ak.1.1,ak.1.2.1,(rv an)⟩:aT)]),hw.sp 17 [6,9,10,11,12,13,14,15,7]⟩
  rintro _ w ⟨a0,us91,τ,rfl,hw⟩
  refine bO (aH (RC.region (mv (vi aj.2.2) (RL.fQ aj.2.2 1 (aQ (vi (IntKind.wrap .i64 (aj.2.2+1))) (RL.nil ?_))))))
  obtain rfl:=oi hb
  exact⟨rfl,a0,us91,hw.sp 9 [0,1,2,3,4,5,6,7,8]⟩
 ·intro r _ _ _ _
  exact r.elim
 rintro aj _ w rfl ⟨ax,us78,τ,rfl,hw⟩
 rw [Fo.dF] at hb
 refine aH (RC.seq (RC.sr (aQ (vi 0) (RL.nt ?_))))
 obtain⟨b9,hN,hb⟩:=bd hb
 refine RC.iter (fun(ag: (List cO)×Int) σ w=>∃(bh:Value) (us164:List aT),SH E Γ [(0,vp b0 0),(4,vi ag.2)] [bc 57 b0 [v0_0,v0_1,v0_2,v0_3,v0_4,v0_5,bh,v0_7],own 97 bh us164,hU aU us164 ag.1 none,rd v0_2 p0_2,rd v0_3 p0_3,rd v0_4 p0_4,rd v0_5 p0_5,rd v0_7 p0_7] σ w) (fun(ag: (List cO)×Int) σ w=>∃(af:Value) (us166:List aT),SH E Γ [(0,vp b0 0)] [bc 57 b0 [v0_0,v0_1,v0_2,v0_3,v0_4,v0_5,af,v0_7],own 97 af us166,hU aU us166 ag.1 none,rd v0_2 p0_2,rd v0_3 p0_3,rd v0_4 p0_4,rd v0_5 p0_5,rd v0_7 p0_7] σ w) (fun(r:Empty) _ _=>r.elim) hN ?_ ?_ ?_ ?_
 ·exact⟨ax,us78,hw.sp 9 [0,1,2,3,4,5,6,7]⟩
 ·rintro ag fl _ w ⟨av,us168,τ,rfl,hw⟩ hb
  refine RC.seq (RC.sr (mv (vi ag.2) (mv (vp b0 0) (RL.nilCheck zr (RL.aX zr ri (RL.bH 0 v0_7 hw wM (RL.bC 7 p0_7 hw Fw (ic ag.2 ((p0_7.length:Int)) ?_))))))))
  refine RL.nt (dT hb (fun hc hb=>?_) fun hc hb=>?_)
  rotate_left
  ·refine RC.ex ?_
   obtain rfl:=oi hb
   exact⟨rfl,av,us168,hw.sp 8 [0,1,2,3,4,5,6,7]⟩
  refine RC.ss (RC.block (RC.seq ?_))
  obtain⟨a8,hj,hb⟩:=bd hb
  refine RC.jn (fun(a8:Bool)=>SH E Γ [(0,vp b0 0),(4,vi ag.2),(69,vb a8)] [bc 57 b0 [v0_0,v0_1,v0_2,v0_3,v0_4,v0_5,av,v0_7],rd v0_2 p0_2,rd v0_3 p0_3,rd v0_4 p0_4,rd v0_5 p0_5,own 97 av us168,hU aU us168 ag.1 none,rd v0_7 p0_7]) a8 ?_ ?_
  ·refine RC.region (mv (vp b0 0) (RL.nilCheck zr (RL.aX zr vM (RL.aX zr gC (RL.bH 0 v0_2 hw mT (mv (vi ag.2) ?_))))))
   obtain⟨bj,br,hj⟩:=bd hj
   refine RL.bN 3 hw qc br fun ca hw=>(RL.dV 0 hw zr xG pX fun cb hw=>(RL.bF bj.fJ 0 hw A2 (mv (vb bj.fJ) (fB hj (fun ai hj=>?_) fun ai hj=>?_))))
   rotate_left
   ·refine bJ ai (bJ ai (bJ ai (bJ ai (bJ ai (bJ ai (bJ ai (bJ ai (bJ ai ?_))))))))
    refine fG ai (vb false) (RL.nil ?_)
    obtain rfl:=oi hj
    exact⟨rfl,hw.sp 10 [2,5,6,7,8,3,4,9]⟩
   refine RL.move (vp b0 0) (cg ai) (RL.nilCheck (hg:=(cg ai)) zr (RL.aX (hg:=(cg ai)) zr ri (RL.bH (hg:=(cg ai)) 2 v0_7 hw wM (RL.move (vi ag.2) (cg ai) ?_))))
   obtain⟨a2,bt,hj⟩:=bd hj
   refine RL.bN (hg:=(cg ai)) 9 hw xH bt fun cc hw=>(RL.bL (hg:=(cg ai)) 0 a2 hw fA fun cd hw=>(RL.bC (hg:=(cg ai)) 0 a2 hw l4 (RL.kL (a2.length:Int) 0 (cg ai) (fG ai (vb ((a2.length:Int)==0)) (RL.nil ?_)))))
   obtain rfl:=oi hj
   exact⟨rfl,hw.sp 12 [4,7,8,9,10,5,6,11]⟩
  rintro _ w ⟨τ,rfl,hw⟩
  refine aH ?_
  obtain⟨a9,hj,hb⟩:=bd hb
  refine RC.jn (fun(a9: (List cO)) σ w=>∃(a3:Value) (us193:List aT),SH E Γ [(0,vp b0 0),(4,vi ag.2)] [bc 57 b0 [v0_0,v0_1,v0_2,v0_3,v0_4,v0_5,a3,v0_7],own 97 a3 us193,hU aU us193 a9 none,rd v0_2 p0_2,rd v0_3 p0_3,rd v0_4 p0_4,rd v0_5 p0_5,rd v0_7 p0_7] σ w) a9 ?_ ?_
  ·refine dT hj (fun hc hj=>?_) fun hc hj=>?_
   rotate_left
   ·refine RC.skip ?_
    obtain rfl:=oi hj
    exact⟨rfl,av,us168,hw.sp 8 [0,5,6,1,2,3,4,7]⟩
   refine RC.region (mv (vp b0 0) (mv (vp b0 0) (RL.nilCheck zr (RL.aX zr rj (RL.bH 0 av hw u6 (mv (vi ag.2) ?_))))))
   have hw:=hw.sc Int ag.2
   refine RL.dW ([ag.2]: (List Int)) hw [(vi ag.2)] eB Ch (fun M hs g=>⟨(g.sat 0 _ zr).1,zt⟩) fun ar w hw=>(RL.DV [(.slice none 0 0),(.slice none 0 0),(.slice none 0 0)] [(.slice none 0 0),ar,(.slice none 0 0)] zr [(1,ar)] zr KL ⟨(iD 0 hw),zt⟩ zr ?_)
   have hw:=((((hw.cX fk 83).AV (i:=0) rfl).mR Int).freeze 3).DW (cs:=[(.slice none 0 0),ar,(.slice none 0 0)]) (x:=(⟨([]: (List Int)),([ag.2]: (List Int)),(rv (.slice none 0 0))⟩:aT)) (fun M hs g=>⟨[(.slice none 0 0)],[ar,(.slice none 0 0)],rfl,(q7 (g.sat 0 _ rfl).1),⟨[ar],[(.slice none 0 0)],rfl,(q7 (g.sat 3 _ rfl).1),(q7 (g.sat 1 _ rfl).1)⟩⟩) rfl
   refine RL.dW ([(⟨([]: (List Int)),([ag.2]: (List Int)),(rv (.slice none 0 0))⟩:aT)]:List aT) hw [(.agg ([(.slice none 0 0),ar,(.slice none 0 0)]:List Value).toArray)] AB Jj (fun M hs g=>⟨(g.sat 0 _ zr).1,zt⟩) fun cf w hw=>?_
   obtain⟨ch,bu,hj⟩:=bd hj
   have hw:=hw.freeze 0
   refine RL.xy 12 0 13 4 aU (⟨([]: (List Int)),([ag.2]: (List Int)),(rv (.slice none 0 0))⟩:aT) (⟨([]: (List Int)),([ag.2]: (List Int)),([]: (List fk))⟩:cO) (.slice none 0 0) ([]: (List fk)) (fun _ _ ho=>⟨⟨rfl,zr⟩,ho⟩) zr hw zr zr zr zr zr zr Jk bu fun bk w hw=>?_
   refine RL.nilCheck zr (RL.aX zr rj (RL.ig 7 bk hw zr zr (iD 12 hw) u6 fun w hw=>?_))
   refine RL.nil ?_
   obtain rfl:=oi hj
   exact⟨rfl,bk,(us168++[(⟨([]: (List Int)),([ag.2]: (List Int)),(rv (.slice none 0 0))⟩:aT)]),hw.sp 15 [7,12,13,8,9,10,11,14]⟩
  rintro _ w ⟨a3,us193,τ,rfl,hw⟩
  refine bO (aH (RC.region (mv (vi ag.2) (RL.fQ ag.2 1 (aQ (vi (IntKind.wrap .i64 (ag.2+1))) (RL.nil ?_))))))
  obtain rfl:=oi hb
  exact⟨rfl,a3,us193,hw.sp 8 [0,1,2,3,4,5,6,7]⟩
 ·intro r _ _ _ _
  exact r.elim
 rintro ag _ w rfl ⟨af,us166,τ,rfl,hw⟩
 rw [Fo.dF] at hb
 refine aH (RC.sr (aQ (vi 0) (RL.nt ?_)))
 obtain⟨cj,hN,hb⟩:=bd hb
 refine RC.iter (fun(ab: (List cO)×Int) σ w=>∃(us350:List aT),SH E Γ [(0,vp b0 0),(5,vi ab.2)] [bc 57 b0 [v0_0,v0_1,v0_2,v0_3,v0_4,v0_5,af,v0_7],rd v0_2 p0_2,rd v0_3 p0_3,rd v0_4 p0_4,rd v0_5 p0_5,own 97 af us350,hU aU us350 ab.1 none,rd v0_7 p0_7] σ w) (fun(ab: (List cO)×Int) σ w=>∃(us351:List aT),SH E Γ [(0,vp b0 0)] [bc 57 b0 [v0_0,v0_1,v0_2,v0_3,v0_4,v0_5,af,v0_7],rd v0_2 p0_2,rd v0_3 p0_3,rd v0_4 p0_4,rd v0_5 p0_5,own 97 af us351,hU aU us351 ab.1 none,rd v0_7 p0_7] σ w) (fun(r:Empty) _ _=>r.elim) hN ?_ ?_ ?_ ?_
 ·exact⟨us166,hw.sp 8 [0,3,4,5,6,1,2,7]⟩
 ·rintro ab fl _ w ⟨us352,τ,rfl,hw⟩ hb
  refine RC.seq (RC.sr (mv (vi ab.2) (mv (vp b0 0) (RL.nilCheck zr (RL.aX zr vM (RL.aX zr rf (RL.bH 0 v0_3 hw Az (RL.bC 2 p0_3 hw Fu ?_))))))))
  refine ic ab.2 ((p0_3.length:Int)) (RL.nt (dT hb (fun hc hb=>?_) fun hc hb=>?_))
  rotate_left
  ·refine RC.ex ?_
   obtain rfl:=oi hb
   exact⟨rfl,us352,hw.sp 8 [0,1,2,3,4,5,6,7]⟩
  refine RC.ss (RC.bs (mv (vp b0 0) (RL.nilCheck zr (RL.aX zr vM (RL.aX zr rf (RL.bH 0 v0_3 hw Az (mv (vi ab.2) ?_)))))))
  obtain⟨ah,bw,hb⟩:=bd hb
  refine RL.bN 2 hw Fv bw fun bz hw=>(RL.bL 0 ah hw u5 fun b1 hw=>(RL.alloc hw Gy.z fun a4 w hw=>?_))
  refine RL.cB 0 hw 1 zr u5 fun w hw=>?_
  refine RL.ns (mv (vp b0 0) (RL.bE (f:=(fun x=>x)) 0 hw zr Fd.self u5 fun bl hw=>?_))
  have hw:=(((((hw.pull 10).pull 10).dup 10 rfl).dup 10 rfl).dup 9 rfl).pull 9
  obtain⟨o,b2,hb⟩:=bd hb
  refine RL.call zt zr Mm [(vp b0 0),bl] zr (aD (mV N (i1:=0) hw zr b2) ?_)
  rintro _ w ⟨rfl,hw⟩
  refine aQ (vi o) (RL.ns (mv (vi o) (ic o 0 (RL.nt ?_))))
  obtain⟨ba,hj,hb⟩:=bd hb
  refine RC.jn (fun(ba: (List cO)) σ w=>∃(us393:List aT),SH E Γ [(0,vp b0 0),(5,vi ab.2)] [bc 57 b0 [v0_0,v0_1,v0_2,v0_3,v0_4,v0_5,af,v0_7],rd v0_2 p0_2,rd v0_3 p0_3,rd v0_4 p0_4,rd v0_5 p0_5,own 97 af us393,hU aU us393 ba none,rd v0_7 p0_7] σ w) ba ?_ ?_
  ·refine dT hj (fun hc hj=>?_) fun hc hj=>?_
   rotate_left
   ·refine RC.skip ?_
    obtain rfl:=oi hj
    exact⟨rfl,us352,hw.sp 15 [0,8,9,10,11,1,2,14]⟩
   obtain⟨ck,aw,hj⟩:=bd hj
   obtain⟨ao,b3,hj⟩:=bd hj
   obtain⟨aq,a5,hj⟩:=bd hj
   refine RC.Fi E Γ mixed [1,1,1,0,1,1,1,1,0,1,0,0,0,1,0,1,0,0,0,0,0,0,0] [17,18,19,22] (fun(x:Value×Value×Value)=>(fun ae ad aa=>[(0,105,(vp b0 0)),(1,106,(vp b0 0)),(2,107,(vp b0 6)),(3,108,af),(4,109,(vi o)),(5,110,(vp b0 0)),(6,111,(vp b0 0)),(7,112,(vp b0 6)),(8,113,af),(9,114,(vi o)),(10,115,(yF af (Int.toNat o) 3 0)),(11,116,(yF af (Int.toNat o) 3 2)),(12,117,(us352.getD (Int.toNat o) (default:aT)).fW.v),(13,118,(vp a4 0)),(14,119,(str ah.Part)),(15,120,(vp a4 1)),(16,121,(str ah.fk)),(17,122,ae),(18,123,ad),(19,124,aa),(20,125,(yF af (Int.toNat o) 3 0)),(21,126,(yF af (Int.toNat o) 3 2))]) x.1 x.2.1 x.2.2) [(0,vp b0 0),(5,vi ab.2),(6,vp a4 0),(7,vi o)] [] (fun(D:Nat->Bool) (x:Value×Value×Value)=>(fun ae ad aa=>[bif D 0 then (rd ae (⟨ah.Part,ah.fk⟩:fk)) else bB,bif D 2 then (rd ad ([(⟨ah.Part,ah.fk⟩:fk)]: (List fk))) else (bif D 1 then (own 83 ad ([(⟨ah.Part,ah.fk⟩:fk)]: (List fk))) else bB),bif D 3 then bB else (bif D 2 then (own 83 aa ao) else bB),bc 57 b0 [v0_0,v0_1,v0_2,v0_3,v0_4,v0_5,af,v0_7],bif D 3 then (own 97 af (us352.set (Int.toNat o) {(us352.getD (Int.toNat o) (default:aT)) with fW:=rv aa})) else (own 97 af us352),bif D 3 then (hU aU (us352.set (Int.toNat o) {(us352.getD (Int.toNat o) (default:aT)) with fW:=rv aa}) (ab.1.set (Int.toNat o) {aq with fW:=ao}) none) else (bif D 2 then (hU aU us352 ab.1 (some (Int.toNat o))) else (hU aU us352 ab.1 none)),rd bl ah,bx 79 a4 ah,rd b1 ah,pt bz ah,bB,rd v0_2 p0_2,rd v0_3 p0_3,rd v0_4 p0_4,rd v0_5 p0_5,bB,bB,rd v0_7 p0_7]) x.1 x.2.1 x.2.2) (fun x=>by kernel_rfl) ?_ ⟨fun _=>jq gn,fun _=>wz gn,fun _=>nu gn rj,?_,fun _=>jq gn,fun _=>jq gn,fun _=>wz gn,fun _=>nu gn rj,?_,fun _=>jq gn,?_,?_,?_,fun _=>nu gn t4,?_,fun _=>nu gn xD,?_,?_,?_,?_,?_,?_,?_,trivial⟩ ?_
   ·have hw:=(((hw.drew).bB).bB).bB
    exact⟨(undef,undef,undef),gw.none,(D5 zr),zt,hw⟩
   ·rintro D σ w hD hdep hcl ⟨⟨ae,ad,aa⟩,hv,ha,_,hw⟩
    obtain⟨τ,rfl⟩:=(ac (hv.at 2 rfl (hdep.1 rfl)) az).fq
    refine RL.bH 3 af hw u6 ?_
    exact RL.nil ⟨rfl,(ae,ad,aa),hv.put 3 zr zr,ha.up zr,zt,hw⟩
   ·rintro D σ w hD hdep hcl ⟨⟨ae,ad,aa⟩,hv,ha,_,hw⟩
    obtain⟨τ,rfl⟩:=(ac (hv.at 7 rfl (hdep.1 rfl)) az).fq
    refine RL.bH 3 af hw u6 ?_
    exact RL.nil ⟨rfl,(ae,ad,aa),hv.put 8 zr zr,ha.up zr,zt,hw⟩
   ·rintro D σ w hD hdep hcl ⟨⟨ae,ad,aa⟩,hv,ha,_,hw⟩
    obtain⟨τ,rfl⟩:=(ac (hv.at 8 rfl (hdep.1 rfl)) (ac (hv.at 9 rfl (hdep.2.1 rfl)) az)).fq
    have hw:=((hw.cA 4 (nf (fun h=>ft hD ((hcl 22 _ rfl h).2.2.2.2.2.2.2.2.2.2.2.2.2.1 rfl)))).cA 5 (nf (fun h=>ft hD ((hcl 22 _ rfl h).2.2.2.2.2.2.2.2.2.2.2.2.2.1 rfl)))).cA 5 (nf (fun h=>ft hD ((hcl 11 _ rfl ((hcl 12 _ rfl ((hcl 19 _ rfl h).1 rfl)).1 rfl)).1 rfl)))
    have hl412:=hw.eA 5
    have hr413:=fE (default:aT) hl412 aw
    refine RL.bU 4 hw zr zr AB hr413 ?_
    have hw:=(hw.eV 4 (D 22) (nf (fun h=>ft hD ((hcl 22 _ rfl h).2.2.2.2.2.2.2.2.2.2.2.2.2.1 rfl))) (own 97 af (us352.set (Int.toNat o) {(us352.getD (Int.toNat o) (default:aT)) with fW:=rv aa}))).eV 5 (D 19) (nf (fun h=>ft hD ((hcl 11 _ rfl ((hcl 12 _ rfl ((hcl 19 _ rfl h).1 rfl)).1 rfl)).1 rfl))) (hU aU us352 ab.1 (some (Int.toNat o)))
    have hw:=hw.eV 5 (D 22) (nf (fun h=>ft hD ((hcl 22 _ rfl h).2.2.2.2.2.2.2.2.2.2.2.2.2.1 rfl))) (hU aU (us352.set (Int.toNat o) {(us352.getD (Int.toNat o) (default:aT)) with fW:=rv aa}) (ab.1.set (Int.toNat o) {aq with fW:=ao}) none)
    exact RL.nil ⟨rfl,(ae,ad,aa),hv.put 10 zr zr,ha.up zr,zt,hw⟩
   ·rintro D σ w hD hdep hcl ⟨⟨ae,ad,aa⟩,hv,ha,_,hw⟩
    obtain⟨τ,rfl⟩:=(ac (hv.at 10 rfl (hdep.1 rfl)) az).fq
    have hw:=((hw.cA 4 (nf (fun h=>ft hD ((hcl 22 _ rfl h).2.2.2.2.2.2.2.2.2.2.2.2.2.2.1 rfl)))).cA 5 (nf (fun h=>ft hD ((hcl 22 _ rfl h).2.2.2.2.2.2.2.2.2.2.2.2.2.2.1 rfl)))).cA 5 (nf (fun h=>ft hD ((hcl 12 _ rfl ((hcl 19 _ rfl h).1 rfl)).1 rfl)))
    have hl414:=hw.eA 5
    have hr415:=fE (default:aT) hl414 aw
    refine RL.kM (α:=aT) zt (jA 4 hw hr415 0) BP ?_
    have hw:=(hw.eV 4 (D 22) (nf (fun h=>ft hD ((hcl 22 _ rfl h).2.2.2.2.2.2.2.2.2.2.2.2.2.2.1 rfl))) (own 97 af (us352.set (Int.toNat o) {(us352.getD (Int.toNat o) (default:aT)) with fW:=rv aa}))).eV 5 (D 19) (nf (fun h=>ft hD ((hcl 12 _ rfl ((hcl 19 _ rfl h).1 rfl)).1 rfl))) (hU aU us352 ab.1 (some (Int.toNat o)))
    have hw:=hw.eV 5 (D 22) (nf (fun h=>ft hD ((hcl 22 _ rfl h).2.2.2.2.2.2.2.2.2.2.2.2.2.2.1 rfl))) (hU aU (us352.set (Int.toNat o) {(us352.getD (Int.toNat o) (default:aT)) with fW:=rv aa}) (ab.1.set (Int.toNat o) {aq with fW:=ao}) none)
    exact RL.nil ⟨rfl,(ae,ad,aa),hv.put 11 zr zr,ha.up zr,zt,hw⟩
   ·rintro D σ w hD hdep hcl ⟨⟨ae,ad,aa⟩,hv,ha,_,hw⟩
    obtain⟨τ,rfl⟩:=(ac (hv.at 11 rfl (hdep.1 rfl)) az).fq
    have hw:=((hw.cA 4 (nf (fun h=>ft hD ((hcl 22 _ rfl h).2.2.2.2.2.2.2.2.2.2.2.2.2.2.2.1 rfl)))).cA 5 (nf (fun h=>ft hD ((hcl 22 _ rfl h).2.2.2.2.2.2.2.2.2.2.2.2.2.2.2.1 rfl)))).cA 5 (nf (fun h=>ft hD ((hcl 19 _ rfl h).1 rfl)))
    have hl416:=hw.eA 5
    have hr417:=fE (default:aT) hl416 aw
    refine RL.uJ 4 5 o nJ (default:aT) zr hw zr (jA 4 hw hr417 2) zr zr aw HQ ?_
    have hw:=(hw.eV 4 (D 22) (nf (fun h=>ft hD ((hcl 22 _ rfl h).2.2.2.2.2.2.2.2.2.2.2.2.2.2.2.1 rfl))) (own 97 af (us352.set (Int.toNat o) {(us352.getD (Int.toNat o) (default:aT)) with fW:=rv aa}))).eV 5 (D 19) (nf (fun h=>ft hD ((hcl 19 _ rfl h).1 rfl))) (hU aU us352 ab.1 (some (Int.toNat o)))
    have hw:=hw.eV 5 (D 22) (nf (fun h=>ft hD ((hcl 22 _ rfl h).2.2.2.2.2.2.2.2.2.2.2.2.2.2.2.1 rfl))) (hU aU (us352.set (Int.toNat o) {(us352.getD (Int.toNat o) (default:aT)) with fW:=rv aa}) (ab.1.set (Int.toNat o) {aq with fW:=ao}) none)
    exact RL.nil ⟨rfl,(ae,ad,aa),hv.put 12 zr zr,ha.up zr,zt,hw⟩
   ·rintro D σ w hD hdep hcl ⟨⟨ae,ad,aa⟩,hv,ha,_,hw⟩
    obtain⟨τ,rfl⟩:=(ac (hv.at 13 rfl (hdep.1 rfl)) az).fq
    refine RL.aM 7 hw zr nF Aq ?_
    exact RL.nil ⟨rfl,(ae,ad,aa),hv.put 14 zr zr,ha.up zr,zt,hw⟩
   ·rintro D σ w hD hdep hcl ⟨⟨ae,ad,aa⟩,hv,ha,_,hw⟩
    obtain⟨τ,rfl⟩:=(ac (hv.at 15 rfl (hdep.1 rfl)) az).fq
    refine RL.aM 7 hw zr pY Aq ?_
    exact RL.nil ⟨rfl,(ae,ad,aa),hv.put 16 zr zr,ha.up zr,zt,hw⟩
   ·rintro D σ w hD hdep hcl ⟨⟨ae,ad,aa⟩,hv,ha,_,hw⟩
    obtain⟨τ,rfl⟩:=(ac (hv.at 14 rfl (hdep.1 rfl)) (ac (hv.at 16 rfl (hdep.2.1 rfl)) az)).fq
    have hw:=((hw.cA 0 hD).sc eG ah.Part).sc eG ah.fk
    refine RL.build (⟨ah.Part,ah.fk⟩:fk) trivial rfl hw [(0,(str ah.Part)),(1,(str ah.fk))] rfl Kd rfl (fun M hs g=>by have h:=Ip M;exact cT.cons (f:=fun(x:fk) y=>{x with Part:=y}) h CT (g.sat 1 _ rfl).1 fun _ h=>cT.cons (f:=fun(x:fk) y=>{x with fk:=y}) h CV (g.sat 0 _ rfl).1 fun _ h=>cT.nil h) fun b4 hw=>?_
    have hw:=(hw.pl 21 [0,4,5,6,7,8,9,10,11,12,13,14,15,16,17,18,19,20]).cQ 0 true rfl bB
    exact RL.nil ⟨rfl,(b4,ad,aa),hv.put 17 zr zr,ha.up zr,zt,hw⟩
   ·rintro D σ w hD hdep hcl ⟨⟨ae,ad,aa⟩,hv,ha,_,hw⟩
    obtain⟨τ,rfl⟩:=(ac (hv.at 17 rfl (hdep.1 rfl)) az).fq
    have hw:=((hw.cP 0 (hdep.1 rfl)).cA 1 (nf (fun h=>ft hD ((hcl 19 _ rfl h).2.1 rfl)))).cA 1 hD
    refine RL.dW ([(⟨ah.Part,ah.fk⟩:fk)]: (List fk)) hw [ae] Kr I7 (fun M hs g=>⟨(g.sat 0 _ zr).1,zt⟩) fun bm w hw=>?_
    have hw:=(((hw.pl 19 [1,0,3,4,5,6,7,8,9,10,11,12,13,14,15,16,17,18]).cQ 0 (D 17) (hdep.1 rfl) bB).cQ 1 true rfl bB).eV 1 (D 19) (nf (fun h=>ft hD ((hcl 19 _ rfl h).2.1 rfl))) (rd bm ([(⟨ah.Part,ah.fk⟩:fk)]: (List fk)))
    exact RL.nil ⟨rfl,(ae,bm,aa),hv.put 18 zr zr,ha.up zr,zt,hw⟩
   ·rintro D σ w hD hdep hcl ⟨⟨ae,ad,aa⟩,hv,ha,_,hw⟩
    obtain⟨τ,rfl⟩:=(ac (hv.at 12 rfl (hdep.1 rfl)) (ac (hv.at 18 rfl (hdep.2.1 rfl)) az)).fq
    have hw:=((((hw.cA 1 hD).cP 1 (hdep.2.1 rfl)).cA 2 (nf (fun h=>ft hD ((hcl 22 _ rfl h).2.1 rfl)))).cA 2 hD).cA 4 (nf (fun h=>ft hD ((hcl 22 _ rfl h).2.1 rfl)))
    have hw:=(((hw.cA 5 (nf (fun h=>ft hD ((hcl 22 _ rfl h).2.1 rfl)))).cA 5 hD).zb (j:=5) (jj:=o) nJ (default:aT) rfl aw).freeze 2
    refine RL.app 0 2 hw Ks b3 fun bb w hw=>?_
    have hw:=(((hw.pl 19 [1,2,0,4,5,6,7,8,9,10,11,12,13,14,15,16,17,18]).cQ 1 true rfl (bif D 18 then (own 83 ad ([(⟨ah.Part,ah.fk⟩:fk)]: (List fk))) else bB)).cQ 2 true rfl bB).eV 2 (D 22) (nf (fun h=>ft hD ((hcl 22 _ rfl h).2.1 rfl))) bB
    have hw:=(hw.eV 4 (D 22) (nf (fun h=>ft hD ((hcl 22 _ rfl h).2.1 rfl))) (own 97 af (us352.set (Int.toNat o) {(us352.getD (Int.toNat o) (default:aT)) with fW:=rv bb}))).cQ 5 true rfl (hU aU us352 ab.1 none)
    have hw:=hw.eV 5 (D 22) (nf (fun h=>ft hD ((hcl 22 _ rfl h).2.1 rfl))) (hU aU (us352.set (Int.toNat o) {(us352.getD (Int.toNat o) (default:aT)) with fW:=rv bb}) (ab.1.set (Int.toNat o) {aq with fW:=ao}) none)
    exact RL.nil ⟨rfl,(ae,ad,bb),hv.put 19 zr zr,ha.up zr,zt,hw⟩
   ·rintro D σ w hD hdep hcl ⟨⟨ae,ad,aa⟩,hv,ha,_,hw⟩
    obtain⟨τ,rfl⟩:=(ac (hv.at 3 rfl (hdep.1 rfl)) (ac (hv.at 4 rfl (hdep.2.1 rfl)) az)).fq
    have hw:=hw.cA 4 (nf (fun h=>ft hD ((hcl 21 _ rfl ((hcl 22 _ rfl h).1 rfl)).1 rfl)))
    have hw:=hw.cA 5 (nf (fun h=>ft hD ((hcl 21 _ rfl ((hcl 22 _ rfl h).1 rfl)).1 rfl)))
    have hw:=hw.cP 5 (hdep.2.2.2.2.2.2.2.2.2.2.2.2.2.2.2.2.2.2.2.2.2.1 rfl)
    have hl421:=hw.eA 5
    have hr422:=fE (default:aT) hl421 a5
    refine RL.bU 4 hw zr zr AB hr422 ?_
    have hw:=hw.eV 4 (D 22) (nf (fun h=>ft hD ((hcl 21 _ rfl ((hcl 22 _ rfl h).1 rfl)).1 rfl))) (own 97 af (us352.set (Int.toNat o) {(us352.getD (Int.toNat o) (default:aT)) with fW:=rv aa}))
    have hw:=(hw.cQ 5 (D 19) (hdep.2.2.2.2.2.2.2.2.2.2.2.2.2.2.2.2.2.2.2.2.2.1 rfl) (hU aU us352 ab.1 none)).eV 5 (D 22) (nf (fun h=>ft hD ((hcl 21 _ rfl ((hcl 22 _ rfl h).1 rfl)).1 rfl))) (hU aU (us352.set (Int.toNat o) {(us352.getD (Int.toNat o) (default:aT)) with fW:=rv aa}) (ab.1.set (Int.toNat o) {aq with fW:=ao}) none)
    exact RL.nil ⟨rfl,(ae,ad,aa),hv.put 20 zr zr,ha.up zr,zt,hw⟩
   ·rintro D σ w hD hdep hcl ⟨⟨ae,ad,aa⟩,hv,ha,_,hw⟩
    obtain⟨τ,rfl⟩:=(ac (hv.at 20 rfl (hdep.1 rfl)) az).fq
    have hw:=((hw.cA 4 (nf (fun h=>ft hD ((hcl 22 _ rfl h).1 rfl)))).cA 5 (nf (fun h=>ft hD ((hcl 22 _ rfl h).1 rfl)))).cP 5 (hdep.2.2.2.2.2.2.2.2.2.2.2.2.2.2.2.2.2.2.2.2.1 rfl)
    have hl423:=hw.eA 5
    have hr424:=fE (default:aT) hl423 a5
    refine RL.kM (α:=aT) zt (jA 4 hw hr424 0) BP ?_
    have hw:=(hw.eV 4 (D 22) (nf (fun h=>ft hD ((hcl 22 _ rfl h).1 rfl))) (own 97 af (us352.set (Int.toNat o) {(us352.getD (Int.toNat o) (default:aT)) with fW:=rv aa}))).cQ 5 (D 19) (hdep.2.2.2.2.2.2.2.2.2.2.2.2.2.2.2.2.2.2.2.2.1 rfl) (hU aU us352 ab.1 none)
    have hw:=hw.eV 5 (D 22) (nf (fun h=>ft hD ((hcl 22 _ rfl h).1 rfl))) (hU aU (us352.set (Int.toNat o) {(us352.getD (Int.toNat o) (default:aT)) with fW:=rv aa}) (ab.1.set (Int.toNat o) {aq with fW:=ao}) none)
    exact RL.nil ⟨rfl,(ae,ad,aa),hv.put 21 zr zr,ha.up zr,zt,hw⟩
   ·rintro D σ w hD hdep hcl ⟨⟨ae,ad,aa⟩,hv,ha,_,hw⟩
    obtain⟨τ,rfl⟩:=(ac (hv.at 19 rfl (hdep.2.1 rfl)) (ac (hv.at 21 rfl (hdep.1 rfl)) az)).fq
    have hw:=((((hw.cA 2 hD).cP 2 (hdep.2.1 rfl)).cA 4 hD).cA 5 hD).cP 5 (hdep.2.1 rfl)
    have hl425:=hw.eA 5
    have hr426:=fE (default:aT) hl425 a5
    refine RL.sF 4 5 2 o nJ (default:aT) hw zr zr (jA 4 hw hr426 2) zr zr zr a5 HQ fun w hw=>?_
    have hw:=((hw.cQ 2 true rfl (bif D 19 then (own 83 aa ao) else bB)).cQ 4 true rfl (own 97 af us352)).cQ 5 true rfl (bif D 19 then (hU aU us352 ab.1 (some (Int.toNat o))) else (hU aU us352 ab.1 none))
    exact RL.nil ⟨rfl,(ae,ad,aa),hv.no zr,ha,zt,hw⟩
   rintro D σ w hall ⟨⟨ae,ad,aa⟩,hv,ha,_,hw⟩
   have hw:=hw.cP 0 (hall 17 (by decide))
   have hw:=hw.cP 1 (hall 19 (by decide))
   have hw:=hw.cP 2 (hall 22 (by decide))
   have hw:=hw.cP 4 (hall 22 (by decide))
   have hw:=hw.cP 5 (hall 22 (by decide))
   obtain⟨τ,rfl⟩:=(ac (ha.at 0 rfl) (ac (ha.at 1 rfl) (ac (ha.at 2 rfl) (ac (ha.at 3 rfl) az)))).fq
   obtain rfl:=oi hj
   exact⟨rfl,(us352.set (Int.toNat o) {(us352.getD (Int.toNat o) (default:aT)) with fW:=rv aa}),hw.sp 18 [3,11,12,13,14,4,5,17]⟩
  rintro _ w ⟨us393,τ,rfl,hw⟩
  refine bO (aH (RC.region (mv (vi ab.2) (RL.fQ ab.2 1 (aQ (vi (IntKind.wrap .i64 (ab.2+1))) (RL.nil ?_))))))
  obtain rfl:=oi hb
  exact⟨rfl,us393,hw.sp 8 [0,1,2,3,4,5,6,7]⟩
 ·intro r _ _ _ _
  exact r.elim
 rintro ab _ w rfl ⟨us351,τ,rfl,hw⟩
 rw [Fo.dF] at hb
 obtain rfl:=oi hb
 have hw:=hw.yU (X:=aU) (b:=6) (j:=5) rfl (fun M h u x cs=>wK M h u x cs) rfl rfl (by decide)
 refine Cj ?_
 exact Hv zr ⟨af,zr,hw.pk 8 [0,5]⟩
def rW (E:World) (Γ:List HP) (res: ((List (List aI))×(List aI)×(List cD)×(List fK)×(List Int)×(List (List aI))×(List cO)×(List (List Int)))) (v:Value) (w:World):Prop:=∃(ub0:Nat) (u0_0 u0_1:Value) (u0_2 u0_3:Value) (u0_4 u0_5:Value) (u0_6 u0_7:Value),v=vp ub0 0/\Holds E w ([bc 57 ub0 [u0_0,u0_1,u0_2,u0_3,u0_4,u0_5,u0_6,u0_7],rd u0_0 res.1,rd u0_1 res.2.1,rd u0_2 res.2.2.1,rd u0_3 res.2.2.2.1,rd u0_4 res.2.2.2.2.1,rd u0_5 res.2.2.2.2.2.1,own 97 u0_6 res.2.2.2.2.2.2.1,rd u0_7 res.2.2.2.2.2.2.2]++Γ)
theorem na {p0:ld} {res: ((List (List aI))×(List aI)×(List cD)×(List fK)×(List Int)×(List (List aI))×(List cO)×(List (List Int)))} (hw:Holds E w Γ) (h0:Γ[i0]? =some (rd v0 p0)) (hb:gK N p0=some res):
    Calls bM 14 [v0].toArray w (gL (rW E Γ res)):=by
 unfold gK at hb
 refine enter Tryz.func14 zr zr ?_
 have hw:=hw.dup (i0+0) h0
 refine RC.sr (RL.dJ 0 v0 hw zr fun au w hw=>?_)
 refine aQ (.pointer none) (RL.ns (RL.bE (f:=(fun x=>x)) 0 hw zr Fd.self tx fun b9 hw=>?_))
 obtain⟨cs,hcs,hv37,hw⟩:=hw.EG (i:=0) rfl rfl
 obtain⟨aj,ak,al,an,rfl⟩:=JG hcs
 have hw:=(((hw.nE (i:=0) (k:=0) (f:=fun x=>x.aJ) rfl iS rfl rfl rfl).nE (i:=1) (k:=1) (f:=fun x=>x.cE) rfl rG rfl rfl rfl).nE (i:=2) (k:=2) (f:=fun x=>x.aO) rfl gk rfl rfl rfl).nE (i:=3) (k:=3) (f:=fun x=>x.bV) rfl n7 rfl rfl rfl
 refine RL.Gp (zs:=[(.slice none 0 0),(.slice none 0 0),(.slice none 0 0),(.slice none 0 0),(.slice none 0 0),(.slice none 0 0),(.slice none 0 0),(.slice none 0 0)]) (cs:=[aj,ak,al,an,(.slice none 0 0),(.slice none 0 0),(.slice none 0 0),(.slice none 0 0)]) zt zr [(0,b9)] [(0,[aj,ak,al,an])] zr Mj ⟨rfl,(congrArg Value.cells hv37),zt⟩ zr (RL.BB [aj,ak,al,an,(.slice none 0 0),(.slice none 0 0),(.slice none 0 0),(.slice none 0 0)] zr hw zr (wu.all (⟨(nj 3 hw),(nj 2 hw),(nj 1 hw),(nj 0 hw),zr,zr,zr,zr,zt⟩:wu [aj,ak,al,an,(.slice none 0 0),(.slice none 0 0),(.slice none 0 0),(.slice none 0 0)])) fun j w hw=>?_)
 refine aQ (vp j 0) (RL.nq (RC.sr (aQ (vi 0) (RL.nt ?_))))
 obtain⟨c8,hN,hb⟩:=bd hb
 refine RC.iter (fun(ad: (List Int)×(List (List aI))×Int) σ w=>∃bp bq:Value,SH E Γ [(1,vp au 0),(3,vp j 0),(4,vi ad.2.2)] [bx 27 au p0,bc 57 j [aj,ak,al,an,bp,bq,(.slice none 0 0),(.slice none 0 0)],own 3 bp ad.1,own 23 bq ad.2.1,rd aj p0.aJ,rd ak p0.cE,rd al p0.aO,rd an p0.bV] σ w) (fun(ad: (List Int)×(List (List aI))×Int) σ w=>∃av aw:Value,SH E Γ [(1,vp au 0),(3,vp j 0)] [bx 27 au p0,bc 57 j [aj,ak,al,an,av,aw,(.slice none 0 0),(.slice none 0 0)],own 3 av ad.1,own 23 aw ad.2.1,rd aj p0.aJ,rd ak p0.cE,rd al p0.aO,rd an p0.bV] σ w) (fun(r:Empty) _ _=>r.elim) hN ?_ ?_ ?_ ?_
 ·have hw:=(hw.cX Int 3).cX (List aI) 23
  exact⟨(.slice none 0 0),(.slice none 0 0),hw.sp 11 [9,2,1,0,6,5,4,3]⟩
 ·rintro ad fl _ w ⟨br,bt,τ,rfl,hw⟩ hb
  refine RC.seq (RC.sr (mv (vi ad.2.2) (RL.aX zr me (RL.bE 0 hw zr iS oD fun c9 hw=>(RL.bC 0 p0.aJ hw pE (ic ad.2.2 ((p0.aJ.length:Int)) (RL.nt (dT hb (fun hc hb=>?_) fun hc hb=>?_))))))))
  rotate_left
  ·refine RC.ex ?_
   obtain rfl:=oi hb
   exact⟨rfl,br,bt,hw.sp 9 [1,2,3,4,5,6,7,8]⟩
  refine RC.ss (RC.bs (RL.bE (f:=(fun x=>x)) 1 hw zr Fd.self tx fun ca hw=>(mv (vi ad.2.2) ?_)))
  obtain⟨da,cb,hb⟩:=bd hb
  refine RL.call zt zr KI [ca,(vi ad.2.2)] zr (aD (ml N (p1:=ad.2.2) (i0:=0) hw zr cb) ?_)
  rintro cc w hw
  have hw:=hw.freeze 0
  obtain⟨a7,cd,hb⟩:=bd hb
  refine RL.call zt zr KJ [cc] zr (aD (mO N (i0:=0) hw zr cd) ?_)
  rintro a2 w hw
  refine aQ a2 (RL.ns (aQ (vi 0) (RL.nt ?_)))
  obtain⟨db,hN,hb⟩:=bd hb
  refine RC.iter (fun(a0: (List Int)×(List (List aI))×Int) σ w=>∃bu bw:Value,SH E Γ [(1,vp au 0),(3,vp j 0),(4,vi ad.2.2),(5,a2),(6,vi a0.2.2)] [bx 27 au p0,bc 57 j [aj,ak,al,an,bu,bw,(.slice none 0 0),(.slice none 0 0)],own 3 bu a0.1,own 23 bw a0.2.1,rd aj p0.aJ,rd ak p0.cE,rd al p0.aO,rd an p0.bV,own 23 a2 a7] σ w) (fun(a0: (List Int)×(List (List aI))×Int) σ w=>∃a8 a9:Value,SH E Γ [(1,vp au 0),(3,vp j 0),(4,vi ad.2.2)] [bx 27 au p0,bc 57 j [aj,ak,al,an,a8,a9,(.slice none 0 0),(.slice none 0 0)],own 3 a8 a0.1,own 23 a9 a0.2.1,rd aj p0.aJ,rd ak p0.cE,rd al p0.aO,rd an p0.bV,own 23 a2 a7] σ w) (fun(r:Empty) _ _=>r.elim) hN ?_ ?_ ?_ ?_
  ·exact⟨br,bt,hw.sp 12 [4,5,6,7,8,9,10,11,0]⟩
  ·rintro a0 fl _ w ⟨bz,ba,τ,rfl,hw⟩ hb
   refine RC.seq (RC.sr (mv (vi a0.2.2) (mv a2 (RL.fR 8 a7 hw pE (ic a0.2.2 ((a7.length:Int)) (RL.nt (dT hb (fun hc hb=>?_) fun hc hb=>?_)))))))
   rotate_left
   ·refine RC.ex ?_
    obtain rfl:=oi hb
    exact⟨rfl,bz,ba,hw.sp 9 [0,1,2,3,4,5,6,7,8]⟩
   refine RC.ss (RC.bs (mv (vp j 0) (mv (vp j 0) (RL.nilCheck zr (RL.aX zr zk (RL.bH 1 bz hw fA (mv (vi ad.2.2) ?_)))))))
   have hw:=hw.sc Int ad.2.2
   refine RL.dW ([ad.2.2]: (List Int)) hw [(vi ad.2.2)] eB Ch (fun M hs g=>⟨(g.sat 0 _ zr).1,zt⟩) fun dc w hw=>?_
   have hw:=hw.freeze 0
   obtain⟨dd,cf,hb⟩:=bd hb
   refine RL.app 4 0 hw qF cf fun bh w hw=>?_
   refine RL.nilCheck zr (RL.aX zr zk (RL.ig 3 bh hw zr zr (iD 4 hw) fA fun w hw=>?_))
   refine RL.nt ?_
   have hw:=hw.drew
   refine RC.D4 (fun w=>Holds E w ([bc 57 j [aj,ak,al,an,bh,ba,(.slice none 0 0),(.slice none 0 0)]]++Γ)) mixed zr [1,1,1,1,1,0,0,0,0,2,2,0,0,2] [0,1,2,3,4,5,6,7,8,9,10,11,12,13] (hw.pk 11 [3]) (DP.e1 (vp j 0) zr (fun w=>RL.move (vp j 0) zt DP.d1) (DP.e1 (vp j 0) zr (fun w=>RL.move (vp j 0) zt DP.d1) (DP.e1 (vp j 0) zr (fun w=>RL.nilCheck zr DP.d1) (DP.e1 (vp j 5) zr (fun w=>RL.aX zr rh DP.d1) (DP.HL ba zr (fun w hw=>RL.bH 0 ba hw oD DP.d1) (DP.e0 zr (mv a2 (aZ zr ?_))))))))
   refine mv (vi a0.2.2) (aZ zr ?_)
   obtain⟨ch,bj,hb⟩:=bd hb
   refine RL.bU 10 hw zr zr tz bj (aZ zr (RL.kl (f:=(fun x=>x)) 10 hw (jA 10 hw bj 0) (bI bj).2.1 Fd.self rH fun cj hw=>?_))
   refine pz zr (RL.dW ([ch]: (List (List aI))) hw [cj] tz Jc (fun M hs g=>⟨(g.sat 0 _ zr).1,zt⟩) fun de w hw=>(DP.d2 (hw.pk 13 [5]) (DP.e2 zr ?_)))
   have hw:=hw.freeze 0
   obtain⟨df,ck,hb⟩:=bd hb
   refine RL.app 7 0 hw GF ck fun b0 w hw=>?_
   refine DP.d2 (hw.pk 13 [5]) (DP.e0 zr (RL.nilCheck zr (aZ zr (RL.aX zr rh (DP.d0 (DP.K9 zr zr (RL.ig 5 b0 hw zr zr (iD 7 hw) oD fun w hw=>?_)))))))
   refine DP.d2 zt (DP.z (bO (aH (RC.region (mv (vi a0.2.2) (RL.fQ a0.2.2 1 (aQ (vi (IntKind.wrap .i64 (a0.2.2+1))) (RL.nil ?_))))))))
   obtain rfl:=oi hb
   exact⟨rfl,bh,b0,hw.sp 13 [4,5,6,7,8,9,10,11,12]⟩
  ·intro r _ _ _ _
   exact r.elim
  rintro a0 _ w rfl ⟨a8,a9,τ,rfl,hw⟩
  rw [Fo.dF] at hb
  refine bO (aH (RC.region (mv (vi ad.2.2) (RL.fQ ad.2.2 1 (aQ (vi (IntKind.wrap .i64 (ad.2.2+1))) (RL.nil ?_))))))
  obtain rfl:=oi hb
  exact⟨rfl,a8,a9,hw.sp 9 [0,1,2,3,4,5,6,7]⟩
 ·intro r _ _ _ _
  exact r.elim
 rintro ad _ w rfl ⟨av,aw,τ,rfl,hw⟩
 rw [Fo.dF] at hb
 refine aH (RC.seq (RC.sr (aQ (vi 0) (RL.nt ?_))))
 obtain⟨dg,hN,hb⟩:=bd hb
 refine RC.iter (fun(ar: (List (List Int))×Int) σ w=>∃b1:Value,SH E Γ [(1,vp au 0),(3,vp j 0),(7,vi ar.2)] [bx 27 au p0,bc 57 j [aj,ak,al,an,av,aw,(.slice none 0 0),b1],own 31 b1 ar.1,rd aj p0.aJ,rd ak p0.cE,rd al p0.aO,rd an p0.bV,own 3 av ad.1,own 23 aw ad.2.1] σ w) (fun(ar: (List (List Int))×Int) σ w=>∃bb:Value,SH E Γ [(3,vp j 0)] [bx 27 au p0,bc 57 j [aj,ak,al,an,av,aw,(.slice none 0 0),bb],own 31 bb ar.1,rd aj p0.aJ,rd ak p0.cE,rd al p0.aO,rd an p0.bV,own 3 av ad.1,own 23 aw ad.2.1] σ w) (fun(r:Empty) _ _=>r.elim) hN ?_ ?_ ?_ ?_
 ·have hw:=hw.cX (List Int) 31
  exact⟨(.slice none 0 0),hw.sp 9 [1,2,0,5,6,7,8,3,4]⟩
 ·rintro ar fl _ w ⟨ax,τ,rfl,hw⟩ hb
  refine RC.seq (RC.sr (mv (vi ar.2) (RL.aX zr gC (RL.bE 0 hw zr gk mT fun dh hw=>(RL.bC 0 p0.aO hw t3 (ic ar.2 ((p0.aO.length:Int)) (RL.nt (dT hb (fun hc hb=>?_) fun hc hb=>?_))))))))
  rotate_left
  ·refine RC.ex ?_
   obtain rfl:=oi hb
   exact⟨rfl,ax,hw.sp 10 [1,2,3,4,5,6,7,8,9]⟩
  refine RC.ss (RC.bs (aQ (.slice none 0 0) (RL.nq (RC.sr (aQ (vi 0) (RL.nt ?_))))))
  obtain⟨di,hN,hb⟩:=bd hb
  refine RC.iter (fun(ao: (List Int)×Int) σ w=>∃b2:Value,SH E Γ [(1,vp au 0),(3,vp j 0),(7,vi ar.2),(8,b2),(9,vi ao.2)] [bx 27 au p0,bc 57 j [aj,ak,al,an,av,aw,(.slice none 0 0),ax],rd aj p0.aJ,rd ak p0.cE,rd al p0.aO,rd an p0.bV,own 3 av ad.1,own 23 aw ad.2.1,own 31 ax ar.1,own 3 b2 ao.1] σ w) (fun(ao: (List Int)×Int) σ w=>∃a6:Value,SH E Γ [(1,vp au 0),(3,vp j 0),(7,vi ar.2),(8,a6)] [bx 27 au p0,bc 57 j [aj,ak,al,an,av,aw,(.slice none 0 0),ax],rd aj p0.aJ,rd ak p0.cE,rd al p0.aO,rd an p0.bV,own 3 av ad.1,own 23 aw ad.2.1,own 31 ax ar.1,own 3 a6 ao.1] σ w) (fun(r:Empty) _ _=>r.elim) hN ?_ ?_ ?_ ?_
  ·have hw:=hw.cX Int 3
   exact⟨(.slice none 0 0),hw.sp 11 [2,3,5,6,7,8,9,10,4,0]⟩
  ·rintro ao fl _ w ⟨a1,τ,rfl,hw⟩ hb
   refine RC.seq (RC.seq ?_)
   obtain⟨bk,hj,hb⟩:=bd hb
   refine RC.jn (fun(bk:Bool)=>SH E Γ [(1,vp au 0),(3,vp j 0),(7,vi ar.2),(8,a1),(9,vi ao.2),(74,vb bk)] [bx 27 au p0,bc 57 j [aj,ak,al,an,av,aw,(.slice none 0 0),ax],rd aj p0.aJ,rd ak p0.cE,rd al p0.aO,rd an p0.bV,own 3 av ad.1,own 23 aw ad.2.1,own 31 ax ar.1,own 3 a1 ao.1]) bk ?_ ?_
   ·refine RC.region (mv (vi ao.2) (mv (vp j 0) (RL.nilCheck zr (RL.aX zr rh (RL.bH 1 aw hw oD (RL.fR 7 ad.2.1 hw pE (ic ao.2 ((ad.2.1.length:Int)) (mv (vb (decide (ao.2< (ad.2.1.length:Int)))) ?_))))))))
    refine fB hj (fun ay hj=>?_) fun ay hj=>?_
    rotate_left
    ·refine bJ ay (bJ ay (bJ ay (bJ ay (bJ ay (bJ ay (fG ay (vb false) (RL.nil ?_)))))))
     obtain rfl:=oi hj
     exact⟨rfl,hw.sp 10 [0,1,2,3,4,5,6,7,8,9]⟩
    refine RL.aX (hg:=(cg ay)) zr gC (RL.bE (hg:=(cg ay)) 0 hw zr gk mT fun dj hw=>(RL.move (vi ar.2) (cg ay) ?_))
    obtain⟨b3,cl,hj⟩:=bd hj
    refine RL.bN (hg:=(cg ay)) 0 hw qc cl fun dk hw=>(RL.dV (hg:=(cg ay)) 0 hw zr xG pX fun dm hw=>(RL.bF (hg:=(cg ay)) b3.fJ 0 hw A2 (fG ay (vb b3.fJ) (RL.nil ?_))))
    obtain rfl:=oi hj
    exact⟨rfl,hw.sp 13 [3,4,5,6,7,8,9,10,11,12]⟩
   rintro _ w ⟨τ,rfl,hw⟩
   refine aH (dT hb (fun hc hb=>?_) fun hc hb=>?_)
   rotate_left
   ·refine RC.ex ?_
    obtain rfl:=oi hb
    exact⟨rfl,a1,hw.sp 10 [0,1,2,3,4,5,6,7,8,9]⟩
   refine RC.ss (RC.block (RC.seq ?_))
   obtain⟨bl,hj,hb⟩:=bd hb
   refine RC.jn (fun(bl:Bool)=>SH E Γ [(1,vp au 0),(3,vp j 0),(7,vi ar.2),(8,a1),(9,vi ao.2),(105,vb bl)] [bx 27 au p0,bc 57 j [aj,ak,al,an,av,aw,(.slice none 0 0),ax],rd aj p0.aJ,rd ak p0.cE,rd al p0.aO,rd an p0.bV,own 3 av ad.1,own 23 aw ad.2.1,own 31 ax ar.1,own 3 a1 ao.1]) bl ?_ ?_
   ·obtain⟨a3,b4,hj⟩:=bd hj
    obtain⟨a4,a5,hj⟩:=bd hj
    obtain⟨bf,b5,hj⟩:=bd hj
    refine fB hj (fun aq hj=>?_) fun aq hj=>?_
    rotate_left
    ·refine RC.Fi E Γ mixed [1,0,1,0,0,1,1,1,0,1,0,0,0,1,1,1,1,1,1,1,1,1,1,1,1,1,1,1,1] [1,3,4] (fun(x:Value×Value×Value)=>(fun aa ab o=>[(0,77,(vp au 2)),(1,78,aa),(2,79,(vi ar.2)),(3,80,ab),(4,81,o),(5,82,(vp j 0)),(6,83,(vp j 0)),(7,84,(vp j 4)),(8,85,av),(9,86,(vi ao.2)),(10,87,(yF av (Int.toNat ao.2) 1 0)),(11,88,(vi a4)),(12,89,(vb bf)),(13,90,(vb bf)),(14,91,undef),(15,92,undef),(16,93,undef),(17,94,undef),(18,95,undef),(19,96,undef),(20,97,undef),(21,98,undef),(22,99,undef),(23,100,undef),(24,101,undef),(25,102,undef),(26,103,undef),(27,104,undef),(28,105,(vb false))]) x.1 x.2.1 x.2.2) [(1,vp au 0),(3,vp j 0),(7,vi ar.2),(8,a1),(9,vi ao.2)] [] (fun(D:Nat->Bool) (x:Value×Value×Value)=>(fun aa ab o=>[bif D 0 then (rd aa p0.aO) else bB,bif D 1 then (pt ab a3) else bB,bif D 2 then (rd o a3) else bB,bx 27 au p0,bc 57 j [aj,ak,al,an,av,aw,(.slice none 0 0),ax],rd aj p0.aJ,rd ak p0.cE,rd al p0.aO,rd an p0.bV,own 3 av ad.1,own 23 aw ad.2.1,own 31 ax ar.1,own 3 a1 ao.1]) x.1 x.2.1 x.2.2) (fun x=>by kernel_rfl) ?_ ⟨fun _=>nu gn gC,?_,fun _=>jq gn,?_,?_,fun _=>jq gn,fun _=>wz gn,fun _=>nu gn zk,?_,fun _=>jq gn,?_,?_,?_,fun _=>jq gn,fun _=>rE aq,fun _=>rE aq,fun _=>rE aq,fun _=>rE aq,fun _=>rE aq,fun _=>rE aq,fun _=>rE aq,fun _=>rE aq,fun _=>rE aq,fun _=>rE aq,fun _=>rE aq,fun _=>rE aq,fun _=>rE aq,fun _=>rE aq,fun _=>JP gn aq rfl,trivial⟩ ?_
     ·have hw:=(((hw.drew).bB).bB).bB
      exact⟨(undef,undef,undef),gw.none,(D5 zr),zt,hw⟩
     ·rintro D σ w hD hdep hcl ⟨⟨aa,ab,o⟩,hv,ha,_,hw⟩
      obtain⟨τ,rfl⟩:=(ac (hv.at 0 rfl (hdep.1 rfl)) az).fq
      have hw:=hw.cA 0 hD
      refine RL.bE 3 hw zr gk mT fun cm hw=>?_
      have hw:=(hw.pl 14 [0,2,3,4,5,6,7,8,9,10,11,12,13]).cQ 0 true rfl bB
      exact RL.nil ⟨rfl,(cm,ab,o),hv.put 1 zr zr,ha.up zr,zt,hw⟩
     ·rintro D σ w hD hdep hcl ⟨⟨aa,ab,o⟩,hv,ha,_,hw⟩
      obtain⟨τ,rfl⟩:=(ac (hv.at 1 rfl (hdep.1 rfl)) (ac (hv.at 2 rfl (hdep.2.1 rfl)) az)).fq
      have hw:=(hw.cP 0 (hdep.1 rfl)).cA 1 hD
      refine RL.bN 0 hw qc b4 fun cn hw=>?_
      have hw:=((hw.pl 14 [1,0,3,4,5,6,7,8,9,10,11,12,13]).cQ 0 (D 1) (hdep.1 rfl) bB).cQ 1 true rfl bB
      exact RL.nil ⟨rfl,(aa,cn,o),hv.put 3 zr zr,ha.up zr,zt,hw⟩
     ·rintro D σ w hD hdep hcl ⟨⟨aa,ab,o⟩,hv,ha,_,hw⟩
      obtain⟨τ,rfl⟩:=(ac (hv.at 3 rfl (hdep.1 rfl)) az).fq
      have hw:=(hw.cP 1 (hdep.1 rfl)).cA 2 hD
      refine RL.bL 1 a3 hw lP fun cp hw=>?_
      have hw:=((hw.pl 14 [1,2,0,4,5,6,7,8,9,10,11,12,13]).cQ 1 (D 3) (hdep.1 rfl) bB).cQ 2 true rfl bB
      exact RL.nil ⟨rfl,(aa,ab,cp),hv.put 4 zr zr,ha.up zr,zt,hw⟩
     ·rintro D σ w hD hdep hcl ⟨⟨aa,ab,o⟩,hv,ha,_,hw⟩
      obtain⟨τ,rfl⟩:=(ac (hv.at 7 rfl (hdep.1 rfl)) az).fq
      refine RL.bH 4 av hw fA ?_
      exact RL.nil ⟨rfl,(aa,ab,o),hv.put 8 zr zr,ha.up zr,zt,hw⟩
     ·rintro D σ w hD hdep hcl ⟨⟨aa,ab,o⟩,hv,ha,_,hw⟩
      obtain⟨τ,rfl⟩:=(ac (hv.at 8 rfl (hdep.1 rfl)) (ac (hv.at 9 rfl (hdep.2.1 rfl)) az)).fq
      refine RL.bU 9 hw zr zr eB a5 ?_
      exact RL.nil ⟨rfl,(aa,ab,o),hv.put 10 zr zr,ha.up zr,zt,hw⟩
     ·rintro D σ w hD hdep hcl ⟨⟨aa,ab,o⟩,hv,ha,_,hw⟩
      obtain⟨τ,rfl⟩:=(ac (hv.at 10 rfl (hdep.1 rfl)) az).fq
      refine RL.dO (f:=(fun x=>x)) 9 hw (jA 9 hw a5 0) (bI a5).2.1 Fd.self cJ ?_
      exact RL.nil ⟨rfl,(aa,ab,o),hv.put 11 zr zr,ha.up zr,zt,hw⟩
     ·rintro D σ w hD hdep hcl ⟨⟨aa,ab,o⟩,hv,ha,_,hw⟩
      obtain⟨τ,rfl⟩:=(ac (hv.at 4 rfl (hdep.1 rfl)) (ac (hv.at 11 rfl (hdep.2.1 rfl)) az)).fq
      have hw:=hw.cP 2 (hdep.1 rfl)
      refine RL.call zt zr HS [o,(vi a4)] zr (aD (jd N (p1:=a4) (i0:=2) hw zr b5) ?_)
      rintro _ w ⟨rfl,hw⟩
      have hw:=hw.cQ 2 (D 4) (hdep.1 rfl) bB
      exact RL.nil ⟨rfl,(aa,ab,o),hv.put 12 zr zr,ha.up zr,zt,hw⟩
     rintro D σ w hall ⟨⟨aa,ab,o⟩,hv,ha,_,hw⟩
     have hw:=hw.cP 0 (hall 1 (by decide))
     have hw:=hw.cP 1 (hall 3 (by decide))
     have hw:=hw.cP 2 (hall 4 (by decide))
     obtain⟨τ,rfl⟩:=(ac (hv.at 28 rfl (hall 28 (by decide))) (ac (ha.at 0 rfl) (ac (ha.at 1 rfl) (ac (ha.at 2 rfl) (ac (ha.at 3 rfl) (ac (ha.at 4 rfl) az)))))).fq
     obtain rfl:=oi hj
     exact⟨rfl,hw.sp 13 [3,4,5,6,7,8,9,10,11,12]⟩
    obtain⟨cq,bm,hj⟩:=bd hj
    obtain⟨bn,cr,hj⟩:=bd hj
    obtain⟨ct,cu,hj⟩:=bd hj
    obtain⟨b6,cv,hj⟩:=bd hj
    refine RC.Fi E Γ mixed [1,0,1,0,0,1,1,1,0,1,0,0,0,1,1,1,1,0,1,0,0,1,0,1,0,0,0,0,1] [1,3,4,20,22,24,25,26] (fun(x:Value×Value×Value×Value×Value×Value×Value×Value)=>(fun aa ab o ae ah ai af ag=>[(0,77,(vp au 2)),(1,78,aa),(2,79,(vi ar.2)),(3,80,ab),(4,81,o),(5,82,(vp j 0)),(6,83,(vp j 0)),(7,84,(vp j 4)),(8,85,av),(9,86,(vi ao.2)),(10,87,(yF av (Int.toNat ao.2) 1 0)),(11,88,(vi a4)),(12,89,(vb bf)),(13,90,(vb bf)),(14,91,(vp j 0)),(15,92,(vp j 0)),(16,93,(vp j 5)),(17,94,aw),(18,95,(vi ao.2)),(19,96,(yF aw (Int.toNat ao.2) 1 0)),(20,97,ae),(21,98,(vp au 2)),(22,99,ah),(23,100,(vi ar.2)),(24,101,ai),(25,102,af),(26,103,ag),(27,104,(vb b6)),(28,105,(vb b6))]) x.1 x.2.1 x.2.2.1 x.2.2.2.1 x.2.2.2.2.1 x.2.2.2.2.2.1 x.2.2.2.2.2.2.1 x.2.2.2.2.2.2.2) [(1,vp au 0),(3,vp j 0),(7,vi ar.2),(8,a1),(9,vi ao.2)] [] (fun(D:Nat->Bool) (x:Value×Value×Value×Value×Value×Value×Value×Value)=>(fun aa ab o ae ah ai af ag=>[bif D 0 then (rd aa p0.aO) else bB,bif D 1 then (pt ab a3) else bB,bif D 2 then (rd o a3) else bB,bif D 3 then (rd ae cq) else bB,bif D 4 then (rd ah p0.aO) else bB,bif D 5 then (pt ai bn) else bB,bif D 6 then (rd af bn) else bB,bif D 7 then (rd ag ct) else bB,bx 27 au p0,bc 57 j [aj,ak,al,an,av,aw,(.slice none 0 0),ax],rd aj p0.aJ,rd ak p0.cE,rd al p0.aO,rd an p0.bV,own 3 av ad.1,own 23 aw ad.2.1,own 31 ax ar.1,own 3 a1 ao.1]) x.1 x.2.1 x.2.2.1 x.2.2.2.1 x.2.2.2.2.1 x.2.2.2.2.2.1 x.2.2.2.2.2.2.1 x.2.2.2.2.2.2.2) (fun x=>by kernel_rfl) ?_ ⟨fun _=>nu gn gC,?_,fun _=>jq gn,?_,?_,fun _=>jq gn,fun _=>wz gn,fun _=>nu gn zk,?_,fun _=>jq gn,?_,?_,?_,fun _=>jq gn,fun _=>jq (gy aq),fun _=>wz (gy aq),fun _=>nu (gy aq) rh,?_,fun _=>jq (gy aq),?_,?_,fun _=>nu (gy aq) gC,?_,fun _=>jq (gy aq),?_,?_,?_,?_,fun _=>JO gn aq rfl,trivial⟩ ?_
    ·have hw:=((((((((hw.drew).bB).bB).bB).bB).bB).bB).bB).bB
     exact⟨(undef,undef,undef,undef,undef,undef,undef,undef),gw.none,(D5 zr),zt,hw⟩
    ·rintro D σ w hD hdep hcl ⟨⟨aa,ab,o,ae,ah,ai,af,ag⟩,hv,ha,_,hw⟩
     obtain⟨τ,rfl⟩:=(ac (hv.at 0 rfl (hdep.1 rfl)) az).fq
     have hw:=hw.cA 0 hD
     refine RL.bE 8 hw zr gk mT fun cw hw=>?_
     have hw:=(hw.pl 19 [0,2,3,4,5,6,7,8,9,10,11,12,13,14,15,16,17,18]).cQ 0 true rfl bB
     exact RL.nil ⟨rfl,(cw,ab,o,ae,ah,ai,af,ag),hv.put 1 zr zr,ha.up zr,zt,hw⟩
    ·rintro D σ w hD hdep hcl ⟨⟨aa,ab,o,ae,ah,ai,af,ag⟩,hv,ha,_,hw⟩
     obtain⟨τ,rfl⟩:=(ac (hv.at 1 rfl (hdep.1 rfl)) (ac (hv.at 2 rfl (hdep.2.1 rfl)) az)).fq
     have hw:=(hw.cP 0 (hdep.1 rfl)).cA 1 hD
     refine RL.bN 0 hw qc b4 fun cx hw=>?_
     have hw:=((hw.pl 19 [1,0,3,4,5,6,7,8,9,10,11,12,13,14,15,16,17,18]).cQ 0 (D 1) (hdep.1 rfl) bB).cQ 1 true rfl bB
     exact RL.nil ⟨rfl,(aa,cx,o,ae,ah,ai,af,ag),hv.put 3 zr zr,ha.up zr,zt,hw⟩
    ·rintro D σ w hD hdep hcl ⟨⟨aa,ab,o,ae,ah,ai,af,ag⟩,hv,ha,_,hw⟩
     obtain⟨τ,rfl⟩:=(ac (hv.at 3 rfl (hdep.1 rfl)) az).fq
     have hw:=(hw.cP 1 (hdep.1 rfl)).cA 2 hD
     refine RL.bL 1 a3 hw lP fun cy hw=>?_
     have hw:=((hw.pl 19 [1,2,0,4,5,6,7,8,9,10,11,12,13,14,15,16,17,18]).cQ 1 (D 3) (hdep.1 rfl) bB).cQ 2 true rfl bB
     exact RL.nil ⟨rfl,(aa,ab,cy,ae,ah,ai,af,ag),hv.put 4 zr zr,ha.up zr,zt,hw⟩
    ·rintro D σ w hD hdep hcl ⟨⟨aa,ab,o,ae,ah,ai,af,ag⟩,hv,ha,_,hw⟩
     obtain⟨τ,rfl⟩:=(ac (hv.at 7 rfl (hdep.1 rfl)) az).fq
     refine RL.bH 9 av hw fA ?_
     exact RL.nil ⟨rfl,(aa,ab,o,ae,ah,ai,af,ag),hv.put 8 zr zr,ha.up zr,zt,hw⟩
    ·rintro D σ w hD hdep hcl ⟨⟨aa,ab,o,ae,ah,ai,af,ag⟩,hv,ha,_,hw⟩
     obtain⟨τ,rfl⟩:=(ac (hv.at 8 rfl (hdep.1 rfl)) (ac (hv.at 9 rfl (hdep.2.1 rfl)) az)).fq
     refine RL.bU 14 hw zr zr eB a5 ?_
     exact RL.nil ⟨rfl,(aa,ab,o,ae,ah,ai,af,ag),hv.put 10 zr zr,ha.up zr,zt,hw⟩
    ·rintro D σ w hD hdep hcl ⟨⟨aa,ab,o,ae,ah,ai,af,ag⟩,hv,ha,_,hw⟩
     obtain⟨τ,rfl⟩:=(ac (hv.at 10 rfl (hdep.1 rfl)) az).fq
     refine RL.dO (f:=(fun x=>x)) 14 hw (jA 14 hw a5 0) (bI a5).2.1 Fd.self cJ ?_
     exact RL.nil ⟨rfl,(aa,ab,o,ae,ah,ai,af,ag),hv.put 11 zr zr,ha.up zr,zt,hw⟩
    ·rintro D σ w hD hdep hcl ⟨⟨aa,ab,o,ae,ah,ai,af,ag⟩,hv,ha,_,hw⟩
     obtain⟨τ,rfl⟩:=(ac (hv.at 4 rfl (hdep.1 rfl)) (ac (hv.at 11 rfl (hdep.2.1 rfl)) az)).fq
     have hw:=hw.cP 2 (hdep.1 rfl)
     refine RL.call zt zr HS [o,(vi a4)] zr (aD (jd N (p1:=a4) (i0:=2) hw zr b5) ?_)
     rintro _ w ⟨rfl,hw⟩
     have hw:=hw.cQ 2 (D 4) (hdep.1 rfl) bB
     exact RL.nil ⟨rfl,(aa,ab,o,ae,ah,ai,af,ag),hv.put 12 zr zr,ha.up zr,zt,hw⟩
    ·rintro D σ w hD hdep hcl ⟨⟨aa,ab,o,ae,ah,ai,af,ag⟩,hv,ha,_,hw⟩
     obtain⟨τ,rfl⟩:=(ac (hv.at 13 rfl (hdep.2.1 rfl)) (ac (hv.at 16 rfl (hdep.1 rfl)) az)).fq
     refine RL.bH (hg:=(cg aq)) 9 aw hw oD ?_
     exact RL.nil ⟨rfl,(aa,ab,o,ae,ah,ai,af,ag),hv.put 17 zr zr,ha.up zr,zt,hw⟩
    ·rintro D σ w hD hdep hcl ⟨⟨aa,ab,o,ae,ah,ai,af,ag⟩,hv,ha,_,hw⟩
     obtain⟨τ,rfl⟩:=(ac (hv.at 13 rfl (hdep.2.2.1 rfl)) (ac (hv.at 17 rfl (hdep.1 rfl)) (ac (hv.at 18 rfl (hdep.2.1 rfl)) az))).fq
     refine RL.bU (hg:=(cg aq)) 15 hw zr zr tz bm ?_
     exact RL.nil ⟨rfl,(aa,ab,o,ae,ah,ai,af,ag),hv.put 19 zr zr,ha.up zr,zt,hw⟩
    ·rintro D σ w hD hdep hcl ⟨⟨aa,ab,o,ae,ah,ai,af,ag⟩,hv,ha,_,hw⟩
     obtain⟨τ,rfl⟩:=(ac (hv.at 13 rfl (hdep.2.1 rfl)) (ac (hv.at 19 rfl (hdep.1 rfl)) az)).fq
     have hw:=hw.cA 3 hD
     refine RL.kl (hg:=(cg aq)) (f:=(fun x=>x)) 15 hw (jA 15 hw bm 0) (bI bm).2.1 Fd.self rH fun cz hw=>?_
     have hw:=(hw.pl 19 [1,2,3,0,5,6,7,8,9,10,11,12,13,14,15,16,17,18]).cQ 3 true rfl bB
     exact RL.nil ⟨rfl,(aa,ab,o,cz,ah,ai,af,ag),hv.put 20 zr zr,ha.up zr,zt,hw⟩
    ·rintro D σ w hD hdep hcl ⟨⟨aa,ab,o,ae,ah,ai,af,ag⟩,hv,ha,_,hw⟩
     obtain⟨τ,rfl⟩:=(ac (hv.at 13 rfl (hdep.2.1 rfl)) (ac (hv.at 21 rfl (hdep.1 rfl)) az)).fq
     have hw:=hw.cA 4 hD
     refine RL.bE (hg:=(cg aq)) 8 hw zr gk mT fun c0 hw=>?_
     have hw:=(hw.pl 19 [1,2,3,4,0,6,7,8,9,10,11,12,13,14,15,16,17,18]).cQ 4 true rfl bB
     exact RL.nil ⟨rfl,(aa,ab,o,ae,c0,ai,af,ag),hv.put 22 zr zr,ha.up zr,zt,hw⟩
    ·rintro D σ w hD hdep hcl ⟨⟨aa,ab,o,ae,ah,ai,af,ag⟩,hv,ha,_,hw⟩
     obtain⟨τ,rfl⟩:=(ac (hv.at 13 rfl (hdep.2.2.1 rfl)) (ac (hv.at 22 rfl (hdep.1 rfl)) (ac (hv.at 23 rfl (hdep.2.1 rfl)) az))).fq
     have hw:=(hw.cP 4 (hdep.1 rfl)).cA 5 hD
     refine RL.bN (hg:=(cg aq)) 4 hw qc cr fun c1 hw=>?_
     have hw:=((hw.pl 19 [1,2,3,4,5,0,7,8,9,10,11,12,13,14,15,16,17,18]).cQ 4 (D 22) (hdep.1 rfl) bB).cQ 5 true rfl bB
     exact RL.nil ⟨rfl,(aa,ab,o,ae,ah,c1,af,ag),hv.put 24 zr zr,ha.up zr,zt,hw⟩
    ·rintro D σ w hD hdep hcl ⟨⟨aa,ab,o,ae,ah,ai,af,ag⟩,hv,ha,_,hw⟩
     obtain⟨τ,rfl⟩:=(ac (hv.at 13 rfl (hdep.2.1 rfl)) (ac (hv.at 24 rfl (hdep.1 rfl)) az)).fq
     have hw:=(hw.cP 5 (hdep.1 rfl)).cA 6 hD
     refine RL.bL (hg:=(cg aq)) 5 bn hw lP fun c2 hw=>?_
     have hw:=((hw.pl 19 [1,2,3,4,5,6,0,8,9,10,11,12,13,14,15,16,17,18]).cQ 5 (D 24) (hdep.1 rfl) bB).cQ 6 true rfl bB
     exact RL.nil ⟨rfl,(aa,ab,o,ae,ah,ai,c2,ag),hv.put 25 zr zr,ha.up zr,zt,hw⟩
    ·rintro D σ w hD hdep hcl ⟨⟨aa,ab,o,ae,ah,ai,af,ag⟩,hv,ha,_,hw⟩
     obtain⟨τ,rfl⟩:=(ac (hv.at 13 rfl (hdep.2.1 rfl)) (ac (hv.at 25 rfl (hdep.1 rfl)) az)).fq
     have hw:=(hw.cP 6 (hdep.1 rfl)).cA 7 hD
     refine RL.call (cg aq) zr Fy [af] zr (aD (fp N (i0:=6) hw zr cu) ?_)
     rintro c3 w hw
     have hw:=((hw.pl 19 [1,2,3,4,5,6,7,0,9,10,11,12,13,14,15,16,17,18]).cQ 6 (D 25) (hdep.1 rfl) bB).cQ 7 true rfl bB
     exact RL.nil ⟨rfl,(aa,ab,o,ae,ah,ai,af,c3),hv.put 26 zr zr,ha.up zr,zt,hw⟩
    ·rintro D σ w hD hdep hcl ⟨⟨aa,ab,o,ae,ah,ai,af,ag⟩,hv,ha,_,hw⟩
     obtain⟨τ,rfl⟩:=(ac (hv.at 13 rfl (hdep.2.2.2.1 rfl)) (ac (hv.at 20 rfl (hdep.1 rfl)) (ac (hv.at 26 rfl (hdep.2.1 rfl)) az))).fq
     have hw:=(hw.cP 3 (hdep.1 rfl)).cP 7 (hdep.2.1 rfl)
     refine RL.call (cg aq) zr Mk [ae,ag] zr (aD (tJ N (i0:=3) (i1:=7) hw zr zr cv) ?_)
     rintro _ w ⟨rfl,hw⟩
     have hw:=(hw.cQ 3 (D 20) (hdep.1 rfl) bB).cQ 7 (D 26) (hdep.2.1 rfl) bB
     exact RL.nil ⟨rfl,(aa,ab,o,ae,ah,ai,af,ag),hv.put 27 zr zr,ha.up zr,zt,hw⟩
    rintro D σ w hall ⟨⟨aa,ab,o,ae,ah,ai,af,ag⟩,hv,ha,_,hw⟩
    have hw:=hw.cP 0 (hall 1 (by decide))
    have hw:=hw.cP 1 (hall 3 (by decide))
    have hw:=hw.cP 2 (hall 4 (by decide))
    have hw:=hw.cP 3 (hall 20 (by decide))
    have hw:=hw.cP 4 (hall 22 (by decide))
    have hw:=hw.cP 5 (hall 24 (by decide))
    have hw:=hw.cP 6 (hall 25 (by decide))
    have hw:=hw.cP 7 (hall 26 (by decide))
    obtain⟨τ,rfl⟩:=(ac (hv.at 28 rfl (hall 28 (by decide))) (ac (ha.at 0 rfl) (ac (ha.at 1 rfl) (ac (ha.at 2 rfl) (ac (ha.at 3 rfl) (ac (ha.at 4 rfl) az)))))).fq
    obtain rfl:=oi hj
    exact⟨rfl,hw.sp 18 [8,9,10,11,12,13,14,15,16,17]⟩
   rintro _ w ⟨τ,rfl,hw⟩
   refine aH ?_
   obtain⟨bo,hj,hb⟩:=bd hb
   refine RC.jn (fun(bo: (List Int)) σ w=>∃bg:Value,SH E Γ [(1,vp au 0),(3,vp j 0),(7,vi ar.2),(8,bg),(9,vi ao.2)] [bx 27 au p0,bc 57 j [aj,ak,al,an,av,aw,(.slice none 0 0),ax],rd aj p0.aJ,rd ak p0.cE,rd al p0.aO,rd an p0.bV,own 3 av ad.1,own 23 aw ad.2.1,own 31 ax ar.1,own 3 bg bo] σ w) bo ?_ ?_
   ·refine dT hj (fun hc hj=>?_) fun hc hj=>?_
    rotate_left
    ·refine RC.skip ?_
     obtain rfl:=oi hj
     exact⟨rfl,a1,hw.sp 10 [0,1,2,3,4,5,6,7,8,9]⟩
    refine RC.region (mv a1 (mv (vi ao.2) ?_))
    have hw:=hw.sc Int ao.2
    refine RL.dW ([ao.2]: (List Int)) hw [(vi ao.2)] eB Ch (fun M hs g=>⟨(g.sat 0 _ zr).1,zt⟩) fun dn w hw=>?_
    have hw:=hw.freeze 0
    obtain⟨dp,c4,hj⟩:=bd hj
    refine RL.app 11 0 hw qF c4 fun b7 w hw=>?_
    refine aQ b7 (RL.nil ?_)
    obtain rfl:=oi hj
    exact⟨rfl,b7,hw.sp 12 [2,3,4,5,6,7,8,9,10,11]⟩
   rintro _ w ⟨bg,τ,rfl,hw⟩
   refine bO (aH (RC.region (mv (vi ao.2) (RL.fQ ao.2 1 (aQ (vi (IntKind.wrap .i64 (ao.2+1))) (RL.nil ?_))))))
   obtain rfl:=oi hb
   exact⟨rfl,bg,hw.sp 10 [0,1,2,3,4,5,6,7,8,9]⟩
  ·intro r _ _ _ _
   exact r.elim
  rintro ao _ w rfl ⟨a6,τ,rfl,hw⟩
  rw [Fo.dF] at hb
  refine aH (RC.region (mv (vp j 0) (mv (vp j 0) (RL.nilCheck zr (RL.aX zr ri (RL.bH 1 ax hw wM (mv a6 ?_)))))))
  have hw:=hw.freeze 9
  refine RL.dW ([ao.1]: (List (List Int))) hw [a6] xH Je (fun M hs g=>⟨(g.sat 9 _ zr).1,zt⟩) fun dq w hw=>?_
  have hw:=hw.freeze 0
  obtain⟨dr,c5,hb⟩:=bd hb
  refine RL.app 9 0 hw Jf c5 fun b8 w hw=>?_
  refine RL.nilCheck zr (RL.aX zr ri (RL.ig 2 b8 hw zr zr (iD 9 hw) wM fun w hw=>?_))
  refine RL.nil (bO (aH (RC.region (mv (vi ar.2) (RL.fQ ar.2 1 (aQ (vi (IntKind.wrap .i64 (ar.2+1))) (RL.nil ?_)))))))
  obtain rfl:=oi hb
  exact⟨rfl,b8,hw.sp 11 [1,2,9,3,4,5,6,7,8]⟩
 ·intro r _ _ _ _
  exact r.elim
 rintro ar _ w rfl ⟨bb,τ,rfl,hw⟩
 rw [Fo.dF] at hb
 refine aH (RC.sr (mv (vp j 0) ?_))
 have hw:=((((((((hw.freeze 7).freeze 8).freeze 2).dup 2 rfl).dup 9 rfl).dup 9 rfl).dup 9 rfl).dup 9 rfl).pull 6
 obtain⟨ds,c6,hb⟩:=bd hb
 refine RL.call zt zr Mn [(vp j 0)] zr (aD (nA N hw c6) ?_)
 rintro _ w ⟨c7,rfl,hw⟩
 refine RL.ns (mv (vp j 0) (aQ (vp j 0) (RL.nt (RC.ret ?_))))
 obtain rfl:=oi hb
 exact bX ⟨j,aj,ak,al,an,av,aw,c7,bb,zr,hw.pk 11 [0,5,6,7,8,9,10,1,4]⟩
theorem po {p0:ld} {res: (List aI)×Int} (hw:Holds E w Γ) (h0:Γ[i0]? =some (rd v0 p0)) (hb:eL N p0 p1=some res):
    Calls bM 5 [v0,(vi p1)].toArray w (gL (oQ E Γ res)):=by
 unfold eL at hb
 refine enter Tryz.func5 zr zr ?_
 have hw:=hw.dup (i0+0) h0
 refine RC.sr (RL.dJ 0 v0 hw zr fun an w hw=>?_)
 refine aQ (.slice none 0 0) (aQ (vi 0) (RL.nq (RC.sr (RL.bE (f:=(fun x=>x)) 0 hw zr Fd.self tx fun ae hw=>?_))))
 obtain⟨j,af,hb⟩:=bd hb
 refine RL.call zt zr KK [ae] zr (aD (mP N (i0:=0) hw zr af) ?_)
 rintro _ w ⟨rfl,hw⟩
 refine aQ (vi j) (RL.ns (mv (vi j) (ic j 0 (RL.nt (dT hb (fun hc hb=>?_) fun hc hb=>?_)))))
 ·refine RC.sr (mv (vi j) (aQ (.slice none 0 0) (aQ (vi j) (RL.nt (RC.rt ?_)))))
  obtain rfl:=oi hb
  have hw:=hw.mR aI
  exact oy ⟨(.slice none 0 0),zr,hw.pk 4 [0]⟩
 refine RC.sx (RL.bE (f:=(fun x=>x)) 1 hw zr Fd.self tx fun ag hw=>?_)
 obtain⟨o,ah,hb⟩:=bd hb
 refine RL.call zt zr KO [ag] zr (aD (na N (i0:=0) hw zr ah) ?_)
 rintro _ w ⟨aa,ao,aq,ar,au,av,ab,aw,ax,rfl,hw⟩
 refine aQ (vp aa 0) (RL.nq (RC.sr (mv (vi p1) (mv (vp aa 0) (RL.nilCheck zr (RL.aX zr rh (RL.bH 0 ab hw oD (RL.bC 6 o.2.2.2.2.2.1 hw pE ?_))))))))
 refine RL.fQ (o.2.2.2.2.2.1.length:Int) 1 ?_
 obtain⟨ai,aj,hb⟩:=bd hb
 refine RL.call zt zr D9 [(vi p1),(vi 0),(vi (IntKind.wrap .i64 ((o.2.2.2.2.2.1.length:Int) - 1)))] zr (aD (eY N (p0:=p1) (p1:=0) (p2:=(IntKind.wrap .i64 ((o.2.2.2.2.2.1.length:Int) - 1))) hw aj) ?_)
 rintro _ w ⟨rfl,hw⟩
 refine RL.not ai (RL.nt (dT hb (fun hc hb=>?_) fun hc hb=>?_))
 ·refine RC.sr (aQ (.slice none 0 0) (aQ (vi 9) (RL.nt (RC.rt ?_))))
  obtain rfl:=oi hb
  have hw:=hw.mR aI
  exact oy ⟨(.slice none 0 0),zr,hw.pk 14 [0]⟩
 refine RC.sx (mv (vp aa 0) (RL.nilCheck zr (RL.aX zr rh (RL.bH 0 ab hw oD (mv (vi p1) ?_)))))
 obtain⟨ak,al,hb⟩:=bd hb
 refine RL.bN 6 hw tz al fun ay hw=>(RL.bL 0 ak hw rH fun ad hw=>(aQ ad (aQ (vi 0) (RL.nt (RC.ret ?_)))))
 obtain rfl:=oi hb
 exact oy ⟨ad,zr,hw.pk 15 [0]⟩
theorem wX {p0:ld} {res: (List Int)×Int} (hw:Holds E w Γ) (h0:Γ[i0]? =some (rd v0 p0)) (hb:jV N p0 p1=some res):
    Calls bM 6 [v0,(vi p1)].toArray w (gL (qe E Γ res)):=by
 unfold jV at hb
 refine enter Tryz.func6 zr zr ?_
 have hw:=hw.dup (i0+0) h0
 refine RC.sr (RL.dJ 0 v0 hw zr fun an w hw=>?_)
 refine aQ (.slice none 0 0) (aQ (vi 0) (RL.ns (RL.bE (f:=(fun x=>x)) 0 hw zr Fd.self tx fun ae hw=>?_)))
 obtain⟨j,af,hb⟩:=bd hb
 refine RL.call zt zr Ku [ae] zr (aD (uq N (i0:=0) hw zr af) ?_)
 rintro _ w hK49
 rcases aa:j.1 with _ | ab
 ·replace hb:=JK aa hb
  obtain⟨rfl,hw⟩:=Il aa hK49
  refine mv (.tuple #[(.pointer none),(vi j.2)]) (RL.extract (.pointer none) (RL.extract (vi j.2) (aQ (.pointer none) (aQ (vi j.2) (RL.nq (RC.sr (mv (vi j.2) (ic j.2 0 ?_))))))))
  refine RL.nt (dT hb (fun hc hb=>?_) fun hc hb=>?_)
  rotate_left
  ·cases hb
  refine RC.sr (mv (vi j.2) (aQ (.slice none 0 0) (aQ (vi j.2) (RL.nt (RC.rt ?_)))))
  obtain rfl:=oi hb
  have hw:=hw.mR Int
  exact oy ⟨(.slice none 0 0),zr,hw.pk 4 [0]⟩
 replace hb:=JL aa hb
 obtain⟨o,ao,aq,ag,ar,au,av,ah,aw,ax,ay,az,a0,rfl,hw⟩:=Im aa hK49
 refine mv (.tuple #[(vp o 0),(vi j.2)]) (RL.extract (vp o 0) (RL.extract (vi j.2) (aQ (vp o 0) (aQ (vi j.2) (RL.nq (RC.sr (mv (vi j.2) (ic j.2 0 ?_))))))))
 refine RL.nt (dT hb (fun hc hb=>?_) fun hc hb=>?_)
 ·refine RC.sr (mv (vi j.2) (aQ (.slice none 0 0) (aQ (vi j.2) (RL.nt (RC.rt ?_)))))
  obtain rfl:=oi hb
  have hw:=hw.mR Int
  exact oy ⟨(.slice none 0 0),zr,hw.pk 17 [0]⟩
 refine RC.ss (RC.sr (mv (vi p1) (mv (vp o 0) (RL.nilCheck zr (RL.aX zr sL (RL.aX zr gC (RL.bH 0 ag hw mT (RL.bC 3 ab.2.2.1 hw t3 ?_))))))))
 refine RL.fQ (ab.2.2.1.length:Int) 1 ?_
 obtain⟨ai,aj,hb⟩:=bd hb
 refine RL.call zt zr Fq [(vi p1),(vi 0),(vi (IntKind.wrap .i64 ((ab.2.2.1.length:Int) - 1)))] zr (aD (jN N (p0:=p1) (p1:=0) (p2:=(IntKind.wrap .i64 ((ab.2.2.1.length:Int) - 1))) hw aj) ?_)
 rintro _ w ⟨rfl,hw⟩
 refine RL.not ai (RL.nt (dT hb (fun hc hb=>?_) fun hc hb=>?_))
 ·refine RC.sr (aQ (.slice none 0 0) (aQ (vi 9) (RL.nt (RC.rt ?_))))
  obtain rfl:=oi hb
  have hw:=hw.mR Int
  exact oy ⟨(.slice none 0 0),zr,hw.pk 17 [0]⟩
 refine RC.sx (mv (vp o 0) (RL.nilCheck zr (RL.aX zr BM (RL.bH 0 ah hw wM (mv (vi p1) ?_)))))
 obtain⟨ak,al,hb⟩:=bd hb
 refine RL.bN 7 hw xH al fun a1 hw=>(RL.bL 0 ak hw fA fun ad hw=>(aQ ad (aQ (vi 0) (RL.nt (RC.ret ?_)))))
 obtain rfl:=oi hb
 exact oy ⟨ad,zr,hw.pk 18 [0]⟩
theorem ry {p0:ld} {res: (List Int)×Int} (hw:Holds E w Γ) (h0:Γ[i0]? =some (rd v0 p0)) (hb:fO N p0 p1=some res):
    Calls bM 7 [v0,(vi p1)].toArray w (gL (qe E Γ res)):=by
 unfold fO at hb
 refine enter Tryz.func7 zr zr ?_
 have hw:=hw.dup (i0+0) h0
 refine RC.sr (RL.dJ 0 v0 hw zr fun ak w hw=>?_)
 refine aQ (.slice none 0 0) (aQ (vi 0) (RL.nq (RC.sr (RL.bE (f:=(fun x=>x)) 0 hw zr Fd.self tx fun aa hw=>?_))))
 obtain⟨j,ab,hb⟩:=bd hb
 refine RL.call zt zr KK [aa] zr (aD (mP N (i0:=0) hw zr ab) ?_)
 rintro _ w ⟨rfl,hw⟩
 refine aQ (vi j) (RL.ns (mv (vi j) (ic j 0 (RL.nt (dT hb (fun hc hb=>?_) fun hc hb=>?_)))))
 ·refine RC.sr (mv (vi j) (aQ (.slice none 0 0) (aQ (vi j) (RL.nt (RC.rt ?_)))))
  obtain rfl:=oi hb
  have hw:=hw.mR Int
  exact oy ⟨(.slice none 0 0),zr,hw.pk 4 [0]⟩
 refine RC.ss (RC.sr (mv (vi p1) (RL.aX zr gC (RL.bE 1 hw zr gk mT fun al hw=>(RL.bC 0 p0.aO hw t3 (RL.fQ (p0.aO.length:Int) 1 ?_))))))
 obtain⟨ad,ae,hb⟩:=bd hb
 refine RL.call zt zr D9 [(vi p1),(vi 0),(vi (IntKind.wrap .i64 ((p0.aO.length:Int) - 1)))] zr (aD (eY N (p0:=p1) (p1:=0) (p2:=(IntKind.wrap .i64 ((p0.aO.length:Int) - 1))) hw ae) ?_)
 rintro _ w ⟨rfl,hw⟩
 refine RL.not ad (RL.nt (dT hb (fun hc hb=>?_) fun hc hb=>?_))
 ·refine RC.sr (aQ (.slice none 0 0) (aQ (vi 9) (RL.nt (RC.rt ?_))))
  obtain rfl:=oi hb
  have hw:=hw.mR Int
  exact oy ⟨(.slice none 0 0),zr,hw.pk 5 [0]⟩
 refine RC.sx (RL.bE (f:=(fun x=>x)) 2 hw zr Fd.self tx fun af hw=>?_)
 obtain⟨an,ag,hb⟩:=bd hb
 refine RL.call zt zr KO [af] zr (aD (na N (i0:=0) hw zr ag) ?_)
 rintro _ w ⟨ao,aq,ar,au,av,aw,ax,ay,ah,rfl,hw⟩
 refine RL.nilCheck zr (RL.aX zr ri (RL.bH 0 ah hw wM (mv (vi p1) ?_)))
 obtain⟨ai,aj,hb⟩:=bd hb
 refine RL.bN 8 hw xH aj fun az hw=>(RL.bL 0 ai hw fA fun o hw=>(aQ o (aQ (vi 0) (RL.nt (RC.ret ?_)))))
 obtain rfl:=oi hb
 exact oy ⟨o,zr,hw.pk 16 [0]⟩
theorem sU {res:Bool} (hw:Holds E w Γ) (hb:iM N=some res):
    Calls bM 10 [].toArray w (gL (aV E Γ res)):=by
 unfold iM at hb
 refine enter Tryz.func10 zr zr (RC.sr (aQ (vb false) (RL.ns ?_)))
 have hw:=hw.sc Int 2
 refine RL.build (⟨⟨0,0⟩,2,0,0,false⟩:cD) trivial rfl hw [(1,vi 2)] rfl Mo rfl (fun M hs g=>by have h:=I4 M;exact cT.cons (f:=fun(x:cD) y=>{x with dE:=y}) h Fk (g.sat 0 _ rfl).1 fun _ h=>cT.nil h) fun ae hw=>?_
 obtain⟨o,af,hb⟩:=bd hb
 refine RL.call zt zr J4 [ae] zr (aD (rN N (i0:=0) hw zr af) ?_)
 rintro _ w ⟨ad,rfl,hw⟩
 refine mv (.tuple #[ad,(vi o.2)]) (RL.extract ad (RL.extract (vi o.2) (RL.alloc hw oc.z fun ag w hw=>?_)))
 refine RL.cB 0 hw 1 zr iw fun w hw=>?_
 refine aQ (vi o.2) (RL.nq ?_)
 obtain⟨ab,hj,hb⟩:=bd hb
 refine RC.jn (fun(ab:Bool)=>SH E Γ [(0,vb ab)] []) ab ?_ ?_
 ·refine RC.region (mv (vi o.2) (ic o.2 0 (mv (vb (o.2==0)) (fB hj (fun aa hj=>?_) fun aa hj=>?_))))
  rotate_left
  ·refine bJ aa (bJ aa (bJ aa (fG aa (vb false) (aQ (vb false) (RL.nil ?_)))))
   obtain rfl:=oi hj
   exact⟨rfl,hw.sp 4 []⟩
  refine RL.bE (hg:=(cg aa)) (f:=(fun x=>x)) 0 hw zr Fd.self iw fun ah hw=>?_
  have hw:=(((hw.sc Int (-1)).sc Int (-1)).sc Int 1).sc Int 1
  refine RL.build (⟨(-1),(-1),1,1⟩:aI) (cg aa) rfl hw [(0,(vi (-1))),(1,(vi (-1))),(2,vi 1),(3,vi 1)] rfl CY rfl (fun M hs g=>by have h:=sK M;exact cT.cons (f:=fun(x:aI) y=>{x with X0:=y}) h oA (g.sat 3 _ rfl).1 fun _ h=>cT.cons (f:=fun(x:aI) y=>{x with Y0:=y}) h pU (g.sat 2 _ rfl).1 fun _ h=>cT.cons (f:=fun(x:aI) y=>{x with X1:=y}) h oC (g.sat 1 _ rfl).1 fun _ h=>cT.cons (f:=fun(x:aI) y=>{x with Y1:=y}) h pV (g.sat 0 _ rfl).1 fun _ h=>cT.nil h) fun ai hw=>?_
  refine RL.seq (i:=5) (j:=0) (a:=o.1) (b:=(⟨(-1),(-1),1,1⟩:aI)) (cg aa) zr hw zr zr zr zr Gx zr (fG aa (vb (decide (o.1= (⟨(-1),(-1),1,1⟩:aI)))) (aQ (vb (decide (o.1= (⟨(-1),(-1),1,1⟩:aI)))) (RL.nil ?_)))
  obtain rfl:=oi hj
  exact⟨rfl,hw.sp 10 []⟩
 rintro _ w ⟨τ,rfl,hw⟩
 refine aH (RC.ret ?_)
 obtain rfl:=oi hb
 exact bX ⟨rfl,hw.drop 0⟩
theorem nb {p0:ld} {res:Bool} (hw:Holds E w Γ) (h0:Γ[i0]? =some (rd v0 p0)) (hb:fS N p0 p1 p2=some res):
    Calls bM 3 [v0,(vi p1),(vi p2)].toArray w (gL (aV E Γ res)):=by
 unfold fS at hb
 refine enter Tryz.func3 zr zr ?_
 have hw:=hw.dup (i0+0) h0
 refine RC.sr (RL.dJ 0 v0 hw zr fun a2 w hw=>?_)
 refine aQ (vb false) (RL.ns (RL.bE (f:=(fun x=>x)) 0 hw zr Fd.self tx fun ao hw=>(mv (vi p1) ?_)))
 obtain⟨j,aq,hb⟩:=bd hb
 refine RL.call zt zr MP [ao,(vi p1)] zr (aD (tI N (p1:=p1) (i0:=0) hw zr aq) ?_)
 rintro _ w ⟨ag,rfl,hw⟩
 refine mv (.tuple #[ag,(vi j.2)]) (RL.extract ag (RL.extract (vi j.2) (aQ ag (aQ (vi j.2) (RL.ns (RL.bE (f:=(fun x=>x)) 2 hw zr Fd.self tx fun ar hw=>(mv (vi p1) ?_)))))))
 obtain⟨o,au,hb⟩:=bd hb
 refine RL.call zt zr MQ [ar,(vi p1)] zr (aD (po N (p1:=p1) (i0:=0) hw zr au) ?_)
 rintro _ w ⟨ah,rfl,hw⟩
 refine mv (.tuple #[ah,(vi o.2)]) (RL.extract ah (RL.extract (vi o.2) (aQ ah (aQ (vi o.2) (RL.ns (RL.bE (f:=(fun x=>x)) 4 hw zr Fd.self tx fun av hw=>(mv (vi p2) ?_)))))))
 obtain⟨aa,aw,hb⟩:=bd hb
 refine RL.call zt zr MR [av,(vi p2)] zr (aD (wX N (p1:=p2) (i0:=0) hw zr aw) ?_)
 rintro _ w ⟨ai,rfl,hw⟩
 refine mv (.tuple #[ai,(vi aa.2)]) (RL.extract ai (RL.extract (vi aa.2) (aQ ai (aQ (vi aa.2) (RL.ns (RL.bE (f:=(fun x=>x)) 6 hw zr Fd.self tx fun ax hw=>(mv (vi p2) ?_)))))))
 obtain⟨ab,ay,hb⟩:=bd hb
 refine RL.call zt zr MS [ax,(vi p2)] zr (aD (ry N (p1:=p2) (i0:=0) hw zr ay) ?_)
 rintro _ w ⟨aj,rfl,hw⟩
 refine mv (.tuple #[aj,(vi ab.2)]) (RL.extract aj (RL.extract (vi ab.2) (aQ aj (aQ (vi ab.2) (RL.nq ?_)))))
 obtain⟨al,hj,hb⟩:=bd hb
 refine RC.jn (fun(al:Bool)=>SH E Γ [(6,vb al)] []) al ?_ ?_
 ·refine RC.region (mv ag (mv ah ?_))
  obtain⟨ae,az,hj⟩:=bd hj
  refine RL.call zt zr MF [ag,ah] zr (aD (mj N (i0:=6) (i1:=4) hw zr zr az) ?_)
  rintro _ w ⟨rfl,hw⟩
  refine mv (vb ae) (RL.gs true ae (vi j.2) rfl rfl rfl cF (RL.gs true ae (vi o.2) rfl rfl rfl cF (RL.gs true ae (vb (j.2==o.2)) rfl rfl rfl (dI .eql .i64 j.2 o.2 rfl (fun h=>by exact(cI h:cv (true&&(ae==true)) (vi j.2)= (vi j.2))) (fun h=>by exact(cI h:cv (true&&(ae==true)) (vi o.2)= (vi o.2))) rfl) (RL.pick ae (vb (ae&&(j.2==o.2))) (fZ true rfl) (mv (vb (ae&&(j.2==o.2))) (fB hj (fun af hj=>?_) fun af hj=>?_))))))
  rotate_left
  ·refine bJ af (bJ af (bJ af (fG af (vb false) (mv (vb false) (j7 (j7 (j7 (RL.pick false (vb false) zr ?_))))))))
   refine mv (vb false) (j7 (RL.pick false (vb false) zr (aQ (vb false) (RL.nil ?_))))
   obtain rfl:=oi hj
   exact⟨rfl,hw.sp 10 []⟩
  refine RL.move ai (cg af) (RL.move aj (cg af) ?_)
  obtain⟨ad,a0,hj⟩:=bd hj
  refine RL.call (cg af) zr ME [ai,aj] zr (aD (pA N (i0:=2) (i1:=0) hw zr zr a0) ?_)
  rintro _ w ⟨rfl,hw⟩
  refine fG af (vb ad) (mv (vb ad) (RL.gs true ad (vi aa.2) rfl rfl rfl cF (RL.gs true ad (vi ab.2) rfl rfl rfl cF (RL.gs true ad (vb (aa.2==ab.2)) rfl rfl rfl (dI .eql .i64 aa.2 ab.2 rfl (fun h=>by exact(cI h:cv (true&&(ad==true)) (vi aa.2)= (vi aa.2))) (fun h=>by exact(cI h:cv (true&&(ad==true)) (vi ab.2)= (vi ab.2))) rfl) (RL.pick ad (vb (ad&&(aa.2==ab.2))) (fZ true rfl) (mv (vb (ad&&(aa.2==ab.2))) (fB hj (fun ak hj=>?_) fun ak hj=>?_)))))))
  rotate_left
  ·refine bJ ak (fG ak (vb false) (aQ (vb false) (RL.nil ?_)))
   obtain rfl:=oi hj
   exact⟨rfl,hw.sp 10 []⟩
  obtain⟨an,a1,hj⟩:=bd hj
  refine RL.call (cg ak) zr Mp [] zr (aD (sU N hw a1) ?_)
  rintro _ w ⟨rfl,hw⟩
  refine fG ak (vb an) (aQ (vb an) (RL.nil ?_))
  obtain rfl:=oi hj
  exact⟨rfl,hw.sp 10 []⟩
 rintro _ w ⟨τ,rfl,hw⟩
 refine aH (RC.ret ?_)
 obtain rfl:=oi hb
 exact bX ⟨rfl,hw.drop 0⟩
end Go.Gk
