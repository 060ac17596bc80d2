/-
  Printed texts: Go functions as plain functions, and that they are. No statement of the seed is proved here.
-/
import Derived.Test.YtmmiladckdcjeabGreatDoorG1
import Derived.Test.YtmmiladckdcjeabGreatDoorG2
import Derived.Test.YtmmiladckdcjeabGreatDoorG4
import Derived.Test.YtmmiladckdcjeabGreatDoorG5
import Derived.Test.YtmmiladckdcjeabGreatDoorG6
import Derived.Test.YtmmiladckdcjeabGreatDoorG7
import Derived.Test.YtmmiladckdcjeabGreatDoorA2
set_option linter.unusedVariables false
set_option linter.unusedSimpArgs false
set_option linter.unusedSectionVars false
set_option maxRecDepth 100000
set_option maxHeartbeats 4000000
namespace Go.Gk
open Go Go.Proofs
variable (N:Nat) {E w:World} {b0 i0 i1:Nat} {res:Int} {v0 v0_0 v0_1 v0_2 v0_3 v0_4 v0_5 v0_6 v0_7 v1:Value} {V:List HP}
def oF (E:World) (V:List HP) (b0:Nat) (v0_0 v0_1:Value) (v0_2 v0_3:Value) (v0_4 v0_5 v0_7:Value) (res: (List bQ)) (v:Value) (w:World):Prop:=∃u0_6:Value,v = .tuple #[]/\Holds E w ([bc 56 b0 [v0_0,v0_1,v0_2,v0_3,v0_4,v0_5,u0_6,v0_7],own 39 u0_6 res]++V)
theorem oc {p0_2: (List cA)} {p0_3: (List eQ)} {p0_4: (List Int)} {p0_5: (List (List aI))} {p0_7: (List (List Int))} {res: (List bQ)} (o:Holds E w (bc 56 b0 [v0_0,v0_1,v0_2,v0_3,v0_4,v0_5,(.slice none 0 0),v0_7]::rd v0_2 p0_2::rd v0_3 p0_3::rd v0_4 p0_4::rd v0_5 p0_5::rd v0_7 p0_7::V)) (hb:eT N p0_2 p0_3 p0_4 p0_5 p0_7=some res):
    Calls bN 37 [(vp b0 0)].toArray w (gJ (oF E V b0 v0_0 v0_1 v0_2 v0_3 v0_4 v0_5 v0_7 res)):=by
 unfold eT at hb
 refine enter Tryz.func37 zr zr (RC.sr (mv (vp b0 0) (RL.nilCheck zr (RL.aX zr uY (RL.bF 0 v0_5 o pY (RL.bB 4 p0_5 o qP ?_))))))
 obtain⟨ck,b4,hb⟩:=bd hb
 refine RL.mk (p0_5.length:Int) o HQ Ni b4 fun ay w o=>?_
 refine aP ay (RL.nq (RC.sr (aP (vi 0) (RL.nt ?_))))
 obtain⟨cl,hN,hb⟩:=bd hb
 refine RC.iter (fun(av: (List bQ)×(List Bool)×Int) U w=>∃(br:Value) (us76:List aT),SH E V [(0,vp b0 0),(2,ay),(3,vi av.2.2)] [bc 56 b0 [v0_0,v0_1,v0_2,v0_3,v0_4,v0_5,br,v0_7],own 39 br us76,iA aV us76 av.1 none,rd v0_2 p0_2,rd v0_3 p0_3,rd v0_4 p0_4,rd v0_5 p0_5,rd v0_7 p0_7,own 4 ay av.2.1] U w) (fun(av: (List bQ)×(List Bool)×Int) U w=>∃(a9:Value) (us78:List aT),SH E V [(0,vp b0 0)] [bc 56 b0 [v0_0,v0_1,v0_2,v0_3,v0_4,v0_5,a9,v0_7],own 39 a9 us78,iA aV us78 av.1 none,rd v0_2 p0_2,rd v0_3 p0_3,rd v0_4 p0_4,rd v0_5 p0_5,rd v0_7 p0_7,own 4 ay av.2.1] U w) (fun(r:Empty) _ _=>r.elim) hN ?_ ?_ ?_ ?_
 ·have o:=(o.z9 aV).cP aT 39
  exact⟨(.slice none 0 0),([]:List aT),o.sp 9 [3,0,1,4,5,6,7,8,2]⟩
 ·rintro av fl _ w ⟨a5,us80,O,rfl,o⟩ hb
  refine RC.seq (RC.sr (mv (vi av.2.2) (mv (vp b0 0) (RL.nilCheck zr (RL.aX zr uY (RL.bF 0 v0_5 o pY (RL.bB 6 p0_5 o qP (ic av.2.2 ((p0_5.length:Int)) ?_))))))))
  refine RL.nt (dT hb (fun hc hb=>?_) fun hc hb=>?_)
  rotate_left
  ·refine RC.ex ?_
   obtain rfl:=oi hb
   exact⟨rfl,a5,us80,o.sp 9 [0,1,2,3,4,5,6,7,8]⟩
  refine RC.ss (RC.bs (mv ay (mv (vi av.2.2) ?_)))
  obtain⟨b5,bl,hb⟩:=bd hb
  refine RL.bT 8 o zr zr wq bl (RL.dR (f:=(fun x=>x)) 8 o (jz 8 o bl 0) (bH bl).2.1 Fd.self Ax (RL.not b5 (RL.nt ?_)))
  obtain⟨ba,hj,hb⟩:=bd hb
  refine RC.jn (fun(ba: (List bQ)×(List Bool)) U w=>∃(bb:Value) (us91:List aT),SH E V [(0,vp b0 0),(2,ay),(3,vi av.2.2)] [bc 56 b0 [v0_0,v0_1,v0_2,v0_3,v0_4,v0_5,bb,v0_7],own 39 bb us91,iA aV us91 ba.1 none,rd v0_2 p0_2,rd v0_3 p0_3,rd v0_4 p0_4,rd v0_5 p0_5,rd v0_7 p0_7,own 4 ay ba.2] U w) ba ?_ ?_
  ·refine dT hj (fun hc hj=>?_) fun hc hj=>?_
   rotate_left
   ·refine RC.skip ?_
    obtain rfl:=oi hj
    exact⟨rfl,a5,us80,o.sp 9 [0,1,2,3,4,5,6,7,8]⟩
   have o:=o.drew
   refine RC.E2 (fun w=>Holds E w ([bc 56 b0 [v0_0,v0_1,v0_2,v0_3,v0_4,v0_5,a5,v0_7]]++V)) mixed zr [1,1,1,1,1,0,0,0,2,2,2,0,0,2] [0,1,2,3,4,5,6,7,8,9,10,11,12,13] (o.pk 9 [0]) (DP.e1 (vp b0 0) zr (fun w=>RL.move (vp b0 0) zt DP.d1) (DP.e1 (vp b0 0) zr (fun w=>RL.move (vp b0 0) zt DP.d1) (DP.e1 (vp b0 0) zr (fun w=>RL.nilCheck zr DP.d1) (DP.e1 (vp b0 6) zr (fun w=>RL.aX zr ml DP.d1) (DP.IX a5 zr (fun w o=>RL.bF 0 a5 o pI DP.d1) (DP.e0 zr (mv (vp b0 0) (aW zr ?_))))))))
   refine mv (vi av.2.2) (aW zr (mv ay (oZ zr ?_)))
   have o:=((o.pull 8).dup 8 rfl).pull 2
   obtain⟨aw,b6,hj⟩:=bd hj
   refine RL.call zt zr Nn [(vp b0 0),(vi av.2.2),ay] zr (aD (pQ N (p1:=av.2.2) o b6) ?_)
   rintro _ w ⟨bm,bf,a0,rfl,o⟩
   refine DP.d2 (o.pk 14 [3]) (DP.e2 zr ?_)
   have o:=(o.B0 (i:=2) rfl).EU (cs:=[bm,bf,a0]) (x:=(⟨aw.1.1,aw.1.2.1,(rv a0)⟩:aT)) (fun M hs g=>⟨[bm],[bf,a0],rfl,(rZ (g.sat 1 _ rfl).1),⟨[bf],[a0],rfl,(rZ (g.sat 2 _ rfl).1),(rZ (g.sat 0 _ rfl).1)⟩⟩) rfl
   refine RL.dN ([(⟨aw.1.1,aw.1.2.1,(rv a0)⟩:aT)]:List aT) o [(.agg ([bm,bf,a0]:List Value).toArray)] uz Gy (fun M hs g=>⟨(g.sat 0 _ zr).1,zt⟩) fun cm w o=>(DP.d2 (o.pk 17 [6]) (DP.e2 zr ?_))
   obtain⟨cn,b7,hj⟩:=bd hj
   have o:=o.freeze 0
   refine RL.yC 9 0 10 5 aV (⟨aw.1.1,aw.1.2.1,(rv a0)⟩:aT) (⟨aw.1.1,aw.1.2.1,aw.1.2.2⟩:bQ) a0 aw.1.2.2 (fun _ _ ho=>⟨⟨rfl,zr⟩,ho⟩) zr o zr zr zr zr zr zr Kr b7 fun bu w o=>?_
   refine DP.d2 (o.pk 17 [6]) (DP.e0 zr (RL.nilCheck zr (aW zr (RL.aX zr ml (DP.d0 (DP.Mi zr zr (RL.iB 6 bu o zr zr (iT 9 o) pI fun w o=>?_)))))))
   refine DP.d2 zt (DP.z ?_)
   obtain rfl:=oi hj
   exact⟨rfl,bu,(us80++[(⟨aw.1.1,aw.1.2.1,(rv a0)⟩:aT)]),o.sp 17 [6,9,10,11,12,13,14,15,7]⟩
  rintro _ w ⟨bb,us91,O,rfl,o⟩
  refine bP (aH (RC.region (mv (vi av.2.2) (RL.gk av.2.2 1 (aP (vi (IntKind.wrap .i64 (av.2.2+1))) (RL.nil ?_))))))
  obtain rfl:=oi hb
  exact⟨rfl,bb,us91,o.sp 9 [0,1,2,3,4,5,6,7,8]⟩
 ·intro r _ _ _ _
  exact r.elim
 rintro av _ w rfl ⟨a9,us78,O,rfl,o⟩
 rw [Fo.cZ] at hb
 refine aH (RC.seq (RC.sr (aP (vi 0) (RL.nt ?_))))
 obtain⟨cp,hN,hb⟩:=bd hb
 refine RC.iter (fun(aq: (List bQ)×Int) U w=>∃(bw:Value) (us164:List aT),SH E V [(0,vp b0 0),(4,vi aq.2)] [bc 56 b0 [v0_0,v0_1,v0_2,v0_3,v0_4,v0_5,bw,v0_7],own 39 bw us164,iA aV us164 aq.1 none,rd v0_2 p0_2,rd v0_3 p0_3,rd v0_4 p0_4,rd v0_5 p0_5,rd v0_7 p0_7] U w) (fun(aq: (List bQ)×Int) U w=>∃(ao:Value) (us166:List aT),SH E V [(0,vp b0 0)] [bc 56 b0 [v0_0,v0_1,v0_2,v0_3,v0_4,v0_5,ao,v0_7],own 39 ao us166,iA aV us166 aq.1 none,rd v0_2 p0_2,rd v0_3 p0_3,rd v0_4 p0_4,rd v0_5 p0_5,rd v0_7 p0_7] U w) (fun(r:Empty) _ _=>r.elim) hN ?_ ?_ ?_ ?_
 ·exact⟨a9,us78,o.sp 9 [0,1,2,3,4,5,6,7]⟩
 ·rintro aq fl _ w ⟨a6,us168,O,rfl,o⟩ hb
  refine RC.seq (RC.sr (mv (vi aq.2) (mv (vp b0 0) (RL.nilCheck zr (RL.aX zr tK (RL.bF 0 v0_7 o zU (RL.bB 7 p0_7 o Gx (ic aq.2 ((p0_7.length:Int)) ?_))))))))
  refine RL.nt (dT hb (fun hc hb=>?_) fun hc hb=>?_)
  rotate_left
  ·refine RC.ex ?_
   obtain rfl:=oi hb
   exact⟨rfl,a6,us168,o.sp 8 [0,1,2,3,4,5,6,7]⟩
  refine RC.ss (RC.block (RC.seq ?_))
  obtain⟨bn,hj,hb⟩:=bd hb
  refine RC.jn (fun(bn:Bool)=>SH E V [(0,vp b0 0),(4,vi aq.2),(69,vb bn)] [bc 56 b0 [v0_0,v0_1,v0_2,v0_3,v0_4,v0_5,a6,v0_7],rd v0_2 p0_2,rd v0_3 p0_3,rd v0_4 p0_4,rd v0_5 p0_5,own 39 a6 us168,iA aV us168 aq.1 none,rd v0_7 p0_7]) bn ?_ ?_
  ·refine RC.region (mv (vp b0 0) (RL.nilCheck zr (RL.aX zr wU (RL.aX zr iz (RL.bF 0 v0_2 o n7 (mv (vi aq.2) ?_))))))
   obtain⟨bz,b8,hj⟩:=bd hj
   refine RL.bO 3 o qQ b8 fun cq o=>(RL.dV 0 o zr yJ qF fun cr o=>(RL.bG bz.fY 0 o Ax (mv (vb bz.fY) (fA hj (fun au hj=>?_) fun au hj=>?_))))
   rotate_left
   ·refine bC au (bC au (bC au (bC au (bC au (bC au (bC au (bC au (bC au ?_))))))))
    refine fB au (vb false) (RL.nil ?_)
    obtain rfl:=oi hj
    exact⟨rfl,o.sp 10 [2,5,6,7,8,3,4,9]⟩
   refine RL.move (vp b0 0) (cg au) (RL.nilCheck (hg:=(cg au)) zr (RL.aX (hg:=(cg au)) zr tK (RL.bF (hg:=(cg au)) 2 v0_7 o zU (RL.move (vi aq.2) (cg au) ?_))))
   obtain⟨bg,b9,hj⟩:=bd hj
   refine RL.bO (hg:=(cg au)) 9 o Ay b9 fun ct o=>(RL.bJ (hg:=(cg au)) 0 bg o eV fun cu o=>(RL.bB (hg:=(cg au)) 0 bg o mB (RL.lh (bg.length:Int) 0 (cg au) (fB au (vb ((bg.length:Int)==0)) (RL.nil ?_)))))
   obtain rfl:=oi hj
   exact⟨rfl,o.sp 12 [4,7,8,9,10,5,6,11]⟩
  rintro _ w ⟨O,rfl,o⟩
  refine aH ?_
  obtain⟨bo,hj,hb⟩:=bd hb
  refine RC.jn (fun(bo: (List bQ)) U w=>∃(bh:Value) (us193:List aT),SH E V [(0,vp b0 0),(4,vi aq.2)] [bc 56 b0 [v0_0,v0_1,v0_2,v0_3,v0_4,v0_5,bh,v0_7],own 39 bh us193,iA aV us193 bo none,rd v0_2 p0_2,rd v0_3 p0_3,rd v0_4 p0_4,rd v0_5 p0_5,rd v0_7 p0_7] U w) bo ?_ ?_
  ·refine dT hj (fun hc hj=>?_) fun hc hj=>?_
   rotate_left
   ·refine RC.skip ?_
    obtain rfl:=oi hj
    exact⟨rfl,a6,us168,o.sp 8 [0,5,6,1,2,3,4,7]⟩
   refine RC.region (mv (vp b0 0) (mv (vp b0 0) (RL.nilCheck zr (RL.aX zr ml (RL.bF 0 a6 o pI (mv (vi aq.2) ?_))))))
   have o:=o.sc Int aq.2
   refine RL.dN ([aq.2]: (List Int)) o [(vi aq.2)] eF Dd (fun M hs g=>⟨(g.sat 0 _ zr).1,zt⟩) fun a3 w o=>(RL.ET [(.slice none 0 0),(.slice none 0 0),(.slice none 0 0)] [(.slice none 0 0),a3,(.slice none 0 0)] zr [(1,a3)] zr LQ ⟨(iT 0 o),zt⟩ zr ?_)
   have o:=((((o.cP dB 64).B0 (i:=0) rfl).yB Int).freeze 3).EU (cs:=[(.slice none 0 0),a3,(.slice none 0 0)]) (x:=(⟨([]: (List Int)),([aq.2]: (List Int)),(rv (.slice none 0 0))⟩:aT)) (fun M hs g=>⟨[(.slice none 0 0)],[a3,(.slice none 0 0)],rfl,(rZ (g.sat 0 _ rfl).1),⟨[a3],[(.slice none 0 0)],rfl,(rZ (g.sat 3 _ rfl).1),(rZ (g.sat 1 _ rfl).1)⟩⟩) rfl
   refine RL.dN ([(⟨([]: (List Int)),([aq.2]: (List Int)),(rv (.slice none 0 0))⟩:aT)]:List aT) o [(.agg ([(.slice none 0 0),a3,(.slice none 0 0)]:List Value).toArray)] uz Gy (fun M hs g=>⟨(g.sat 0 _ zr).1,zt⟩) fun cv w o=>?_
   obtain⟨cw,ca,hj⟩:=bd hj
   have o:=o.freeze 0
   refine RL.yC 12 0 13 4 aV (⟨([]: (List Int)),([aq.2]: (List Int)),(rv (.slice none 0 0))⟩:aT) (⟨([]: (List Int)),([aq.2]: (List Int)),([]: (List dB))⟩:bQ) (.slice none 0 0) ([]: (List dB)) (fun _ _ ho=>⟨⟨rfl,zr⟩,ho⟩) zr o zr zr zr zr zr zr Kr ca fun b1 w o=>?_
   refine RL.nilCheck zr (RL.aX zr ml (RL.iB 7 b1 o zr zr (iT 12 o) pI fun w o=>?_))
   refine RL.nil ?_
   obtain rfl:=oi hj
   exact⟨rfl,b1,(us168++[(⟨([]: (List Int)),([aq.2]: (List Int)),(rv (.slice none 0 0))⟩:aT)]),o.sp 15 [7,12,13,8,9,10,11,14]⟩
  rintro _ w ⟨bh,us193,O,rfl,o⟩
  refine bP (aH (RC.region (mv (vi aq.2) (RL.gk aq.2 1 (aP (vi (IntKind.wrap .i64 (aq.2+1))) (RL.nil ?_))))))
  obtain rfl:=oi hb
  exact⟨rfl,bh,us193,o.sp 8 [0,1,2,3,4,5,6,7]⟩
 ·intro r _ _ _ _
  exact r.elim
 rintro aq _ w rfl ⟨ao,us166,O,rfl,o⟩
 rw [Fo.cZ] at hb
 refine aH (RC.sr (aP (vi 0) (RL.nt ?_)))
 obtain⟨cx,hN,hb⟩:=bd hb
 refine RC.iter (fun(aj: (List bQ)×Int) U w=>∃(us350:List aT),SH E V [(0,vp b0 0),(5,vi aj.2)] [bc 56 b0 [v0_0,v0_1,v0_2,v0_3,v0_4,v0_5,ao,v0_7],rd v0_2 p0_2,rd v0_3 p0_3,rd v0_4 p0_4,rd v0_5 p0_5,own 39 ao us350,iA aV us350 aj.1 none,rd v0_7 p0_7] U w) (fun(aj: (List bQ)×Int) U w=>∃(us351:List aT),SH E V [(0,vp b0 0)] [bc 56 b0 [v0_0,v0_1,v0_2,v0_3,v0_4,v0_5,ao,v0_7],rd v0_2 p0_2,rd v0_3 p0_3,rd v0_4 p0_4,rd v0_5 p0_5,own 39 ao us351,iA aV us351 aj.1 none,rd v0_7 p0_7] U w) (fun(r:Empty) _ _=>r.elim) hN ?_ ?_ ?_ ?_
 ·exact⟨us166,o.sp 8 [0,3,4,5,6,1,2,7]⟩
 ·rintro aj fl _ w ⟨us352,O,rfl,o⟩ hb
  refine RC.seq (RC.sr (mv (vi aj.2) (mv (vp b0 0) (RL.nilCheck zr (RL.aX zr wU (RL.aX zr n8 (RL.bF 0 v0_3 o wR (RL.bB 2 p0_3 o DX ?_))))))))
  refine ic aj.2 ((p0_3.length:Int)) (RL.nt (dT hb (fun hc hb=>?_) fun hc hb=>?_))
  rotate_left
  ·refine RC.ex ?_
   obtain rfl:=oi hb
   exact⟨rfl,us352,o.sp 8 [0,1,2,3,4,5,6,7]⟩
  refine RC.ss (RC.bs (mv (vp b0 0) (RL.nilCheck zr (RL.aX zr wU (RL.aX zr n8 (RL.bF 0 v0_3 o wR (mv (vi aj.2) ?_)))))))
  obtain⟨ar,cb,hb⟩:=bd hb
  refine RL.bO 2 o BL cb fun cc o=>(RL.bJ 0 ar o r8 fun cd o=>(RL.alloc o Gv.z fun bj w o=>?_))
  refine RL.bZ 0 o 1 zr r8 fun w o=>?_
  refine RL.ns (mv (vp b0 0) (RL.aZ (f:=(fun x=>x)) 0 o zr Fd.self r8 fun b2 o=>?_))
  have o:=(((((o.pull 10).pull 10).dup 10 rfl).dup 10 rfl).dup 9 rfl).pull 9
  obtain⟨aa,cf,hb⟩:=bd hb
  refine RL.call zt zr LV [(vp b0 0),b2] zr (aD (nF N (i1:=0) o zr cf) ?_)
  rintro _ w ⟨rfl,o⟩
  refine aP (vi aa) (RL.ns (mv (vi aa) (ic aa 0 (RL.nt ?_))))
  obtain⟨bp,hj,hb⟩:=bd hb
  refine RC.jn (fun(bp: (List bQ)) U w=>∃(us393:List aT),SH E V [(0,vp b0 0),(5,vi aj.2)] [bc 56 b0 [v0_0,v0_1,v0_2,v0_3,v0_4,v0_5,ao,v0_7],rd v0_2 p0_2,rd v0_3 p0_3,rd v0_4 p0_4,rd v0_5 p0_5,own 39 ao us393,iA aV us393 bp none,rd v0_7 p0_7] U w) bp ?_ ?_
  ·refine dT hj (fun hc hj=>?_) fun hc hj=>?_
   rotate_left
   ·refine RC.skip ?_
    obtain rfl:=oi hj
    exact⟨rfl,us352,o.sp 15 [0,8,9,10,11,1,2,14]⟩
   obtain⟨cy,a7,hj⟩:=bd hj
   obtain⟨a1,ch,hj⟩:=bd hj
   obtain⟨a2,bk,hj⟩:=bd hj
   refine RC.Gq E V mixed [1,1,1,0,1,1,1,1,0,1,0,0,0,1,0,1,0,0,0,0,0,0,0] [17,18,19,22] (fun(x:Value×Value×Value)=>(fun al ak ag=>[(0,105,(vp b0 0)),(1,106,(vp b0 0)),(2,107,(vp b0 6)),(3,108,ao),(4,109,(vi aa)),(5,110,(vp b0 0)),(6,111,(vp b0 0)),(7,112,(vp b0 6)),(8,113,ao),(9,114,(vi aa)),(10,115,(zQ ao (Int.toNat aa) 3 0)),(11,116,(zQ ao (Int.toNat aa) 3 2)),(12,117,(us352.getD (Int.toNat aa) (default:aT)).eE.v),(13,118,(vp bj 0)),(14,119,(str ar.Part)),(15,120,(vp bj 1)),(16,121,(str ar.dB)),(17,122,al),(18,123,ak),(19,124,ag),(20,125,(zQ ao (Int.toNat aa) 3 0)),(21,126,(zQ ao (Int.toNat aa) 3 2))]) x.1 x.2.1 x.2.2) [(0,vp b0 0),(5,vi aj.2),(6,vp bj 0),(7,vi aa)] [] (fun(D:Nat->Bool) (x:Value×Value×Value)=>(fun al ak ag=>[bif D 0 then (rd al (⟨ar.Part,ar.dB⟩:dB)) else bE,bif D 2 then (rd ak ([(⟨ar.Part,ar.dB⟩:dB)]: (List dB))) else (bif D 1 then (own 64 ak ([(⟨ar.Part,ar.dB⟩:dB)]: (List dB))) else bE),bif D 3 then bE else (bif D 2 then (own 64 ag a1) else bE),bc 56 b0 [v0_0,v0_1,v0_2,v0_3,v0_4,v0_5,ao,v0_7],bif D 3 then (own 39 ao (us352.set (Int.toNat aa) {(us352.getD (Int.toNat aa) (default:aT)) with eE:=rv ag})) else (own 39 ao us352),bif D 3 then (iA aV (us352.set (Int.toNat aa) {(us352.getD (Int.toNat aa) (default:aT)) with eE:=rv ag}) (aj.1.set (Int.toNat aa) {a2 with eE:=a1}) none) else (bif D 2 then (iA aV us352 aj.1 (some (Int.toNat aa))) else (iA aV us352 aj.1 none)),rd b2 ar,bx 62 bj ar,rd cd ar,pt cc ar,bE,rd v0_2 p0_2,rd v0_3 p0_3,rd v0_4 p0_4,rd v0_5 p0_5,bE,bE,rd v0_7 p0_7]) x.1 x.2.1 x.2.2) (fun x=>by kernel_rfl) ?_ ⟨fun _=>jL gn,fun _=>xD gn,fun _=>nY gn ml,?_,fun _=>jL gn,fun _=>jL gn,fun _=>xD gn,fun _=>nY gn ml,?_,fun _=>jL gn,?_,?_,?_,fun _=>nY gn tG,?_,fun _=>nY gn wS,?_,?_,?_,?_,?_,?_,?_,trivial⟩ ?_
   ·have o:=(((o.drew).bE).bE).bE
    exact⟨(undef,undef,undef),fR.none,(E3 zr),zt,o⟩
   ·rintro D U w hD ai ab ⟨⟨al,ak,ag⟩,hv,ha,_,o⟩
    obtain⟨O,rfl⟩:=(ac (hv.at 2 rfl (ai.1 rfl)) az).fM
    refine RL.bF 3 ao o pI ?_
    exact RL.nil ⟨rfl,(al,ak,ag),hv.pu 3,ha.u,zt,o⟩
   ·rintro D U w hD ai ab ⟨⟨al,ak,ag⟩,hv,ha,_,o⟩
    obtain⟨O,rfl⟩:=(ac (hv.at 7 rfl (ai.1 rfl)) az).fM
    refine RL.bF 3 ao o pI ?_
    exact RL.nil ⟨rfl,(al,ak,ag),hv.pu 8,ha.u,zt,o⟩
   ·rintro D U w hD ai ab ⟨⟨al,ak,ag⟩,hv,ha,_,o⟩
    obtain⟨O,rfl⟩:=(ac (hv.at 8 rfl (ai.1 rfl)) (ac (hv.at 9 rfl (ai.2.1 rfl)) az)).fM
    have o:=((o.cD 4 (nh ab hD 22)).cD 5 (nh ab hD 22)).cD 5 (nf (fun h=>ft hD ((ab 11 _ rfl ((ab 12 _ rfl ((ab 19 _ rfl h).1 rfl)).1 rfl)).1 rfl)))
    have hl412:=o.eH 5
    have hr413:=fU (default:aT) hl412 a7
    refine RL.bT 4 o zr zr uz hr413 ?_
    have o:=(o.fw 4 (D 22) (nh ab hD 22) (own 39 ao (us352.set (Int.toNat aa) {(us352.getD (Int.toNat aa) (default:aT)) with eE:=rv ag}))).fw 5 (D 19) (nf (fun h=>ft hD ((ab 11 _ rfl ((ab 12 _ rfl ((ab 19 _ rfl h).1 rfl)).1 rfl)).1 rfl))) (iA aV us352 aj.1 (some (Int.toNat aa)))
    have o:=o.fw 5 (D 22) (nh ab hD 22) (iA aV (us352.set (Int.toNat aa) {(us352.getD (Int.toNat aa) (default:aT)) with eE:=rv ag}) (aj.1.set (Int.toNat aa) {a2 with eE:=a1}) none)
    exact RL.nil ⟨rfl,(al,ak,ag),hv.pu 10,ha.u,zt,o⟩
   ·rintro D U w hD ai ab ⟨⟨al,ak,ag⟩,hv,ha,_,o⟩
    obtain⟨O,rfl⟩:=(ac (hv.at 10 rfl (ai.1 rfl)) az).fM
    have o:=((o.cD 4 (nh ab hD 22)).cD 5 (nh ab hD 22)).cD 5 (nf (fun h=>ft hD ((ab 12 _ rfl ((ab 19 _ rfl h).1 rfl)).1 rfl)))
    have hl414:=o.eH 5
    have hr415:=fU (default:aT) hl414 a7
    refine RL.kz (α:=aT) (jz 4 o hr415 0) r9 ?_
    have o:=(o.fw 4 (D 22) (nh ab hD 22) (own 39 ao (us352.set (Int.toNat aa) {(us352.getD (Int.toNat aa) (default:aT)) with eE:=rv ag}))).fw 5 (D 19) (nf (fun h=>ft hD ((ab 12 _ rfl ((ab 19 _ rfl h).1 rfl)).1 rfl))) (iA aV us352 aj.1 (some (Int.toNat aa)))
    have o:=o.fw 5 (D 22) (nh ab hD 22) (iA aV (us352.set (Int.toNat aa) {(us352.getD (Int.toNat aa) (default:aT)) with eE:=rv ag}) (aj.1.set (Int.toNat aa) {a2 with eE:=a1}) none)
    exact RL.nil ⟨rfl,(al,ak,ag),hv.pu 11,ha.u,zt,o⟩
   ·rintro D U w hD ai ab ⟨⟨al,ak,ag⟩,hv,ha,_,o⟩
    obtain⟨O,rfl⟩:=(ac (hv.at 11 rfl (ai.1 rfl)) az).fM
    have o:=((o.cD 4 (nh ab hD 22)).cD 5 (nh ab hD 22)).cD 5 (nh ab hD 19)
    have hl416:=o.eH 5
    have hr417:=fU (default:aT) hl416 a7
    refine RL.vC 4 5 aa ou (default:aT) zr o zr (jz 4 o hr417 2) zr zr a7 zV ?_
    have o:=(o.fw 4 (D 22) (nh ab hD 22) (own 39 ao (us352.set (Int.toNat aa) {(us352.getD (Int.toNat aa) (default:aT)) with eE:=rv ag}))).fw 5 (D 19) (nh ab hD 19) (iA aV us352 aj.1 (some (Int.toNat aa)))
    have o:=o.fw 5 (D 22) (nh ab hD 22) (iA aV (us352.set (Int.toNat aa) {(us352.getD (Int.toNat aa) (default:aT)) with eE:=rv ag}) (aj.1.set (Int.toNat aa) {a2 with eE:=a1}) none)
    exact RL.nil ⟨rfl,(al,ak,ag),hv.pu 12,ha.u,zt,o⟩
   ·rintro D U w hD ai ab ⟨⟨al,ak,ag⟩,hv,ha,_,o⟩
    obtain⟨O,rfl⟩:=(ac (hv.at 13 rfl (ai.1 rfl)) az).fM
    refine RL.aM 7 o zr nn yx ?_
    exact RL.nil ⟨rfl,(al,ak,ag),hv.pu 14,ha.u,zt,o⟩
   ·rintro D U w hD ai ab ⟨⟨al,ak,ag⟩,hv,ha,_,o⟩
    obtain⟨O,rfl⟩:=(ac (hv.at 15 rfl (ai.1 rfl)) az).fM
    refine RL.aM 7 o zr ph yx ?_
    exact RL.nil ⟨rfl,(al,ak,ag),hv.pu 16,ha.u,zt,o⟩
   ·rintro D U w hD ai ab ⟨⟨al,ak,ag⟩,hv,ha,_,o⟩
    obtain⟨O,rfl⟩:=(ac (hv.at 14 rfl (ai.1 rfl)) (ac (hv.at 16 rfl (ai.2.1 rfl)) az)).fM
    have o:=((o.cD 0 hD).sc eI ar.Part).sc eI ar.dB
    refine RL.build (⟨ar.Part,ar.dB⟩:dB) trivial rfl o [(0,(str ar.Part)),(1,(str ar.dB))] rfl Kh rfl (fun M hs g=>by have h:=HB M;exact cT.cons (f:=fun(x:dB) y=>{x with Part:=y}) h Ar (g.sat 1 _ rfl).1 fun _ h=>cT.cons (f:=fun(x:dB) y=>{x with dB:=y}) h As (g.sat 0 _ rfl).1 fun _ h=>cT.nil h) fun cj o=>?_
    have o:=(o.pl 21 [0,4,5,6,7,8,9,10,11,12,13,14,15,16,17,18,19,20]).cR 0 true rfl bE
    exact RL.nil ⟨rfl,(cj,ak,ag),hv.pu 17,ha.u,zt,o⟩
   ·rintro D U w hD ai ab ⟨⟨al,ak,ag⟩,hv,ha,_,o⟩
    obtain⟨O,rfl⟩:=(ac (hv.at 17 rfl (ai.1 rfl)) az).fM
    have o:=((o.cQ 0 (ai.1 rfl)).cD 1 (nh ab hD 19)).cD 1 hD
    refine RL.dN ([(⟨ar.Part,ar.dB⟩:dB)]: (List dB)) o [al] GC HE (fun M hs g=>⟨(g.sat 0 _ zr).1,zt⟩) fun b3 w o=>?_
    have o:=(((o.pl 19 [1,0,3,4,5,6,7,8,9,10,11,12,13,14,15,16,17,18]).cR 0 (D 17) (ai.1 rfl) bE).cR 1 true rfl bE).fw 1 (D 19) (nh ab hD 19) (rd b3 ([(⟨ar.Part,ar.dB⟩:dB)]: (List dB)))
    exact RL.nil ⟨rfl,(al,b3,ag),hv.pu 18,ha.u,zt,o⟩
   ·rintro D U w hD ai ab ⟨⟨al,ak,ag⟩,hv,ha,_,o⟩
    obtain⟨O,rfl⟩:=(ac (hv.at 12 rfl (ai.1 rfl)) (ac (hv.at 18 rfl (ai.2.1 rfl)) az)).fM
    have o:=(((((((o.cD 1 hD).cQ 1 (ai.2.1 rfl)).cD 2 (nh ab hD 22)).cD 2 hD).cD 4 (nh ab hD 22)).cD 5 (nh ab hD 22)).cD 5 hD).Al (j:=5) (jj:=aa) ou (default:aT) rfl a7
    have o:=o.freeze 2
    refine RL.app 0 2 o Lz ch fun bq w o=>?_
    have o:=((((o.pl 19 [1,2,0,4,5,6,7,8,9,10,11,12,13,14,15,16,17,18]).cR 1 true rfl (bif D 18 then (own 64 ak ([(⟨ar.Part,ar.dB⟩:dB)]: (List dB))) else bE)).cR 2 true rfl bE).fw 2 (D 22) (nh ab hD 22) bE).fw 4 (D 22) (nh ab hD 22) (own 39 ao (us352.set (Int.toNat aa) {(us352.getD (Int.toNat aa) (default:aT)) with eE:=rv bq}))
    have o:=(o.cR 5 true rfl (iA aV us352 aj.1 none)).fw 5 (D 22) (nh ab hD 22) (iA aV (us352.set (Int.toNat aa) {(us352.getD (Int.toNat aa) (default:aT)) with eE:=rv bq}) (aj.1.set (Int.toNat aa) {a2 with eE:=a1}) none)
    exact RL.nil ⟨rfl,(al,ak,bq),hv.pu 19,ha.u,zt,o⟩
   ·rintro D U w hD ai ab ⟨⟨al,ak,ag⟩,hv,ha,_,o⟩
    obtain⟨O,rfl⟩:=(ac (hv.at 3 rfl (ai.1 rfl)) (ac (hv.at 4 rfl (ai.2.1 rfl)) az)).fM
    have o:=o.cD 4 (nf (fun h=>ft hD ((ab 21 _ rfl ((ab 22 _ rfl h).1 rfl)).1 rfl)))
    have o:=o.cD 5 (nf (fun h=>ft hD ((ab 21 _ rfl ((ab 22 _ rfl h).1 rfl)).1 rfl)))
    have o:=o.cQ 5 (ai.2.2.2.2.2.2.2.2.2.2.2.2.2.2.2.2.2.2.2.2.2.1 rfl)
    have hl421:=o.eH 5
    have hr422:=fU (default:aT) hl421 bk
    refine RL.bT 4 o zr zr uz hr422 ?_
    have o:=o.fw 4 (D 22) (nf (fun h=>ft hD ((ab 21 _ rfl ((ab 22 _ rfl h).1 rfl)).1 rfl))) (own 39 ao (us352.set (Int.toNat aa) {(us352.getD (Int.toNat aa) (default:aT)) with eE:=rv ag}))
    have o:=(o.cR 5 (D 19) (ai.2.2.2.2.2.2.2.2.2.2.2.2.2.2.2.2.2.2.2.2.2.1 rfl) (iA aV us352 aj.1 none)).fw 5 (D 22) (nf (fun h=>ft hD ((ab 21 _ rfl ((ab 22 _ rfl h).1 rfl)).1 rfl))) (iA aV (us352.set (Int.toNat aa) {(us352.getD (Int.toNat aa) (default:aT)) with eE:=rv ag}) (aj.1.set (Int.toNat aa) {a2 with eE:=a1}) none)
    exact RL.nil ⟨rfl,(al,ak,ag),hv.pu 20,ha.u,zt,o⟩
   ·rintro D U w hD ai ab ⟨⟨al,ak,ag⟩,hv,ha,_,o⟩
    obtain⟨O,rfl⟩:=(ac (hv.at 20 rfl (ai.1 rfl)) az).fM
    have o:=((o.cD 4 (nh ab hD 22)).cD 5 (nh ab hD 22)).cQ 5 (ai.2.2.2.2.2.2.2.2.2.2.2.2.2.2.2.2.2.2.2.2.1 rfl)
    have hl423:=o.eH 5
    have hr424:=fU (default:aT) hl423 bk
    refine RL.kz (α:=aT) (jz 4 o hr424 0) r9 ?_
    have o:=(o.fw 4 (D 22) (nh ab hD 22) (own 39 ao (us352.set (Int.toNat aa) {(us352.getD (Int.toNat aa) (default:aT)) with eE:=rv ag}))).cR 5 (D 19) (ai.2.2.2.2.2.2.2.2.2.2.2.2.2.2.2.2.2.2.2.2.1 rfl) (iA aV us352 aj.1 none)
    have o:=o.fw 5 (D 22) (nh ab hD 22) (iA aV (us352.set (Int.toNat aa) {(us352.getD (Int.toNat aa) (default:aT)) with eE:=rv ag}) (aj.1.set (Int.toNat aa) {a2 with eE:=a1}) none)
    exact RL.nil ⟨rfl,(al,ak,ag),hv.pu 21,ha.u,zt,o⟩
   ·rintro D U w hD ai ab ⟨⟨al,ak,ag⟩,hv,ha,_,o⟩
    obtain⟨O,rfl⟩:=(ac (hv.at 19 rfl (ai.2.1 rfl)) (ac (hv.at 21 rfl (ai.1 rfl)) az)).fM
    have o:=((((o.cD 2 hD).cQ 2 (ai.2.1 rfl)).cD 4 hD).cD 5 hD).cQ 5 (ai.2.1 rfl)
    have hl425:=o.eH 5
    have hr426:=fU (default:aT) hl425 bk
    refine RL.tz 4 5 2 aa ou (default:aT) o zr zr (jz 4 o hr426 2) zr zr zr bk zV fun w o=>?_
    have o:=((o.cR 2 true rfl (bif D 19 then (own 64 ag a1) else bE)).cR 4 true rfl (own 39 ao us352)).cR 5 true rfl (bif D 19 then (iA aV us352 aj.1 (some (Int.toNat aa))) else (iA aV us352 aj.1 none))
    exact RL.nil ⟨rfl,(al,ak,ag),hv.n1,ha,zt,o⟩
   rintro D U w a8 ⟨⟨al,ak,ag⟩,hv,ha,_,o⟩
   have o:=((((o.cQ 0 (kU a8 17)).cQ 1 (kU a8 19)).cQ 2 (kU a8 22)).cQ 4 (kU a8 22)).cQ 5 (kU a8 22)
   obtain⟨O,rfl⟩:=(ac (ha.at 0 rfl) (ac (ha.at 1 rfl) (ac (ha.at 2 rfl) (ac (ha.at 3 rfl) az)))).fM
   obtain rfl:=oi hj
   exact⟨rfl,(us352.set (Int.toNat aa) {(us352.getD (Int.toNat aa) (default:aT)) with eE:=rv ag}),o.sp 18 [3,11,12,13,14,4,5,17]⟩
  rintro _ w ⟨us393,O,rfl,o⟩
  refine bP (aH (RC.region (mv (vi aj.2) (RL.gk aj.2 1 (aP (vi (IntKind.wrap .i64 (aj.2+1))) (RL.nil ?_))))))
  obtain rfl:=oi hb
  exact⟨rfl,us393,o.sp 8 [0,1,2,3,4,5,6,7]⟩
 ·intro r _ _ _ _
  exact r.elim
 rintro aj _ w rfl ⟨us351,O,rfl,o⟩
 rw [Fo.cZ] at hb
 obtain rfl:=oi hb
 have o:=o.Aa (X:=aV) (b:=6) (j:=5) rfl (fun M h u x cs=>xN M h u x cs) rfl rfl (by decide)
 refine Df ?_
 exact ID zr ⟨ao,zr,o.pk 8 [0,5]⟩
def sU (E:World) (V:List HP) (res: ((List (List aI))×(List aI)×(List cA)×(List eQ)×(List Int)×(List (List aI))×(List bQ)×(List (List Int)))) (v:Value) (w:World):Prop:=∃(ub0:Nat) (u0_0 u0_1:Value) (u0_2 u0_3:Value) (u0_4 u0_5:Value) (u0_6 u0_7:Value),v=vp ub0 0/\Holds E w ([bc 56 ub0 [u0_0,u0_1,u0_2,u0_3,u0_4,u0_5,u0_6,u0_7],rd u0_0 res.1,rd u0_1 res.2.1,rd u0_2 res.2.2.1,rd u0_3 res.2.2.2.1,rd u0_4 res.2.2.2.2.1,rd u0_5 res.2.2.2.2.2.1,own 39 u0_6 res.2.2.2.2.2.2.1,rd u0_7 res.2.2.2.2.2.2.2]++V)
theorem nP {p0:kY} {res: ((List (List aI))×(List aI)×(List cA)×(List eQ)×(List Int)×(List (List aI))×(List bQ)×(List (List Int)))} (j:Holds E w V) (h0:V[i0]? =some (rd v0 p0)) (hb:gW N p0=some res):
    Calls bN 15 [v0].toArray w (gJ (sU E V res)):=by
 unfold gW at hb
 refine enter Tryz.func15 zr zr ?_
 have j:=j.dup (i0+0) h0
 refine RC.sr (RL.dD 0 v0 j zr fun a2 w j=>?_)
 refine aP (.pointer none) (RL.ns (RL.aZ (f:=(fun x=>x)) 0 j zr Fd.self ux fun cp j=>?_))
 obtain⟨cs,hcs,hv37,j⟩:=j.FK (i:=0) rfl rfl
 obtain⟨ar,au,av,aw,rfl⟩:=KN hcs
 have j:=(((j.nI (i:=0) (k:=0) (f:=fun x=>x.aJ) rfl jf rfl rfl rfl).nI (i:=1) (k:=1) (f:=fun x=>x.cI) rfl sF rfl rfl rfl).nI (i:=2) (k:=2) (f:=fun x=>x.aN) rfl gM rfl rfl rfl).nI (i:=3) (k:=3) (f:=fun x=>x.bM) rfl lu rfl rfl rfl
 refine RL.Hs (zs:=[(.slice none 0 0),(.slice none 0 0),(.slice none 0 0),(.slice none 0 0),(.slice none 0 0),(.slice none 0 0),(.slice none 0 0),(.slice none 0 0)]) (cs:=[ar,au,av,aw,(.slice none 0 0),(.slice none 0 0),(.slice none 0 0),(.slice none 0 0)]) zt zr [(0,cp)] [(0,[ar,au,av,aw])] zr Nl ⟨rfl,(congrArg Value.cells hv37),zt⟩ zr (RL.Cz [ar,au,av,aw,(.slice none 0 0),(.slice none 0 0),(.slice none 0 0),(.slice none 0 0)] zr j zr (xx.all (⟨(nS 3 j),(nS 2 j),(nS 1 j),(nS 0 j),zr,zr,zr,zr,zt⟩:xx [ar,au,av,aw,(.slice none 0 0),(.slice none 0 0),(.slice none 0 0),(.slice none 0 0)])) fun ae w j=>?_)
 refine aP (vp ae 0) (RL.nq (RC.sr (aP (vi 0) (RL.nt ?_))))
 obtain⟨dk,hN,hb⟩:=bd hb
 refine RC.iter (fun(ai: (List Int)×(List (List aI))×Int) U w=>∃b5 b6:Value,SH E V [(1,vp a2 0),(3,vp ae 0),(4,vi ai.2.2)] [bx 27 a2 p0,bc 56 ae [ar,au,av,aw,b5,b6,(.slice none 0 0),(.slice none 0 0)],own 3 b5 ai.1,own 23 b6 ai.2.1,rd ar p0.aJ,rd au p0.cI,rd av p0.aN,rd aw p0.bM] U w) (fun(ai: (List Int)×(List (List aI))×Int) U w=>∃a3 a4:Value,SH E V [(1,vp a2 0),(3,vp ae 0)] [bx 27 a2 p0,bc 56 ae [ar,au,av,aw,a3,a4,(.slice none 0 0),(.slice none 0 0)],own 3 a3 ai.1,own 23 a4 ai.2.1,rd ar p0.aJ,rd au p0.cI,rd av p0.aN,rd aw p0.bM] U w) (fun(r:Empty) _ _=>r.elim) hN ?_ ?_ ?_ ?_
 ·have j:=(j.cP Int 3).cP (List aI) 23
  exact⟨(.slice none 0 0),(.slice none 0 0),j.sp 11 [9,2,1,0,6,5,4,3]⟩
 ·rintro ai fl _ w ⟨b7,b8,O,rfl,j⟩ hb
  refine RC.seq (RC.sr (mv (vi ai.2.2) (RL.aX zr mL (RL.aZ 0 j zr jf pY fun dm j=>(RL.bB 0 p0.aJ j qP (ic ai.2.2 ((p0.aJ.length:Int)) (RL.nt (dT hb (fun hc hb=>?_) fun hc hb=>?_))))))))
  rotate_left
  ·refine RC.ex ?_
   obtain rfl:=oi hb
   exact⟨rfl,b7,b8,j.sp 9 [1,2,3,4,5,6,7,8]⟩
  refine RC.ss (RC.bs (RL.aZ (f:=(fun x=>x)) 1 j zr Fd.self ux fun cq j=>(mv (vi ai.2.2) ?_)))
  obtain⟨dn,cr,hb⟩:=bd hb
  refine RL.call zt zr LN [cq,(vi ai.2.2)] zr (aD (mQ N (p1:=ai.2.2) (i0:=0) j zr cr) ?_)
  rintro ct w j
  have j:=j.freeze 0
  obtain⟨bm,cu,hb⟩:=bd hb
  refine RL.call zt zr LO [ct] zr (aD (nz N (i0:=0) j zr cu) ?_)
  rintro bg w j
  refine aP bg (RL.ns (aP (vi 0) (RL.nt ?_)))
  obtain⟨dp,hN,hb⟩:=bd hb
  refine RC.iter (fun(a8: (List Int)×(List (List aI))×Int) U w=>∃b9 ca:Value,SH E V [(1,vp a2 0),(3,vp ae 0),(4,vi ai.2.2),(5,bg),(6,vi a8.2.2)] [bx 27 a2 p0,bc 56 ae [ar,au,av,aw,b9,ca,(.slice none 0 0),(.slice none 0 0)],own 3 b9 a8.1,own 23 ca a8.2.1,rd ar p0.aJ,rd au p0.cI,rd av p0.aN,rd aw p0.bM,own 23 bg bm] U w) (fun(a8: (List Int)×(List (List aI))×Int) U w=>∃bn bo:Value,SH E V [(1,vp a2 0),(3,vp ae 0),(4,vi ai.2.2)] [bx 27 a2 p0,bc 56 ae [ar,au,av,aw,bn,bo,(.slice none 0 0),(.slice none 0 0)],own 3 bn a8.1,own 23 bo a8.2.1,rd ar p0.aJ,rd au p0.cI,rd av p0.aN,rd aw p0.bM,own 23 bg bm] U w) (fun(r:Empty) _ _=>r.elim) hN ?_ ?_ ?_ ?_
  ·exact⟨b7,b8,j.sp 12 [4,5,6,7,8,9,10,11,0]⟩
  ·rintro a8 fl _ w ⟨cb,bp,O,rfl,j⟩ hb
   refine RC.seq (RC.sr (mv (vi a8.2.2) (mv bg (RL.fL 8 bm j qP (ic a8.2.2 ((bm.length:Int)) (RL.nt (dT hb (fun hc hb=>?_) fun hc hb=>?_)))))))
   rotate_left
   ·refine RC.ex ?_
    obtain rfl:=oi hb
    exact⟨rfl,cb,bp,j.sp 9 [0,1,2,3,4,5,6,7,8]⟩
   refine RC.ss (RC.bs (mv (vp ae 0) (mv (vp ae 0) (RL.nilCheck zr (RL.aX zr Az (RL.bF 1 cb j eV (mv (vi ai.2.2) ?_)))))))
   have j:=j.sc Int ai.2.2
   refine RL.dN ([ai.2.2]: (List Int)) j [(vi ai.2.2)] eF Dd (fun M hs g=>⟨(g.sat 0 _ zr).1,zt⟩) fun dq w j=>?_
   have j:=j.freeze 0
   obtain⟨dr,cv,hb⟩:=bd hb
   refine RL.app 4 0 j rC cv fun bw w j=>?_
   refine RL.nilCheck zr (RL.aX zr Az (RL.iB 3 bw j zr zr (iT 4 j) eV fun w j=>?_))
   refine RL.nt ?_
   have j:=j.drew
   refine RC.E2 (fun w=>Holds E w ([bc 56 ae [ar,au,av,aw,bw,bp,(.slice none 0 0),(.slice none 0 0)]]++V)) mixed zr [1,1,1,1,1,0,0,0,0,2,2,0,0,2] [0,1,2,3,4,5,6,7,8,9,10,11,12,13] (j.pk 11 [3]) (DP.e1 (vp ae 0) zr (fun w=>RL.move (vp ae 0) zt DP.d1) (DP.e1 (vp ae 0) zr (fun w=>RL.move (vp ae 0) zt DP.d1) (DP.e1 (vp ae 0) zr (fun w=>RL.nilCheck zr DP.d1) (DP.e1 (vp ae 5) zr (fun w=>RL.aX zr uY DP.d1) (DP.IX bp zr (fun w j=>RL.bF 0 bp j pY DP.d1) (DP.e0 zr (mv bg (aW zr ?_))))))))
   refine mv (vi a8.2.2) (aW zr ?_)
   obtain⟨cw,bz,hb⟩:=bd hb
   refine RL.bT 10 j zr zr uV bz (aW zr (RL.jM (f:=(fun x=>x)) 10 j (jz 10 j bz 0) (bH bz).2.1 Fd.self uy fun cx j=>?_))
   refine oZ zr (RL.dN ([cw]: (List (List aI))) j [cx] uV Kl (fun M hs g=>⟨(g.sat 0 _ zr).1,zt⟩) fun ds w j=>(DP.d2 (j.pk 13 [5]) (DP.e2 zr ?_)))
   have j:=j.freeze 0
   obtain⟨dt,cy,hb⟩:=bd hb
   refine RL.app 7 0 j HJ cy fun cc w j=>?_
   refine DP.d2 (j.pk 13 [5]) (DP.e0 zr (RL.nilCheck zr (aW zr (RL.aX zr uY (DP.d0 (DP.Mi zr zr (RL.iB 5 cc j zr zr (iT 7 j) pY fun w j=>?_)))))))
   refine DP.d2 zt (DP.z (bP (aH (RC.region (mv (vi a8.2.2) (RL.gk a8.2.2 1 (aP (vi (IntKind.wrap .i64 (a8.2.2+1))) (RL.nil ?_))))))))
   obtain rfl:=oi hb
   exact⟨rfl,bw,cc,j.sp 13 [4,5,6,7,8,9,10,11,12]⟩
  ·intro r _ _ _ _
   exact r.elim
  rintro a8 _ w rfl ⟨bn,bo,O,rfl,j⟩
  rw [Fo.cZ] at hb
  refine bP (aH (RC.region (mv (vi ai.2.2) (RL.gk ai.2.2 1 (aP (vi (IntKind.wrap .i64 (ai.2.2+1))) (RL.nil ?_))))))
  obtain rfl:=oi hb
  exact⟨rfl,bn,bo,j.sp 9 [0,1,2,3,4,5,6,7]⟩
 ·intro r _ _ _ _
  exact r.elim
 rintro ai _ w rfl ⟨a3,a4,O,rfl,j⟩
 rw [Fo.cZ] at hb
 refine aH (RC.seq (RC.sr (aP (vi 0) (RL.nt ?_))))
 obtain⟨du,hN,hb⟩:=bd hb
 refine RC.iter (fun(a1: (List (List Int))×Int) U w=>∃cd:Value,SH E V [(1,vp a2 0),(3,vp ae 0),(7,vi a1.2)] [bx 27 a2 p0,bc 56 ae [ar,au,av,aw,a3,a4,(.slice none 0 0),cd],own 36 cd a1.1,rd ar p0.aJ,rd au p0.cI,rd av p0.aN,rd aw p0.bM,own 3 a3 ai.1,own 23 a4 ai.2.1] U w) (fun(a1: (List (List Int))×Int) U w=>∃bq:Value,SH E V [(3,vp ae 0)] [bx 27 a2 p0,bc 56 ae [ar,au,av,aw,a3,a4,(.slice none 0 0),bq],own 36 bq a1.1,rd ar p0.aJ,rd au p0.cI,rd av p0.aN,rd aw p0.bM,own 3 a3 ai.1,own 23 a4 ai.2.1] U w) (fun(r:Empty) _ _=>r.elim) hN ?_ ?_ ?_ ?_
 ·have j:=j.cP (List Int) 36
  exact⟨(.slice none 0 0),j.sp 9 [1,2,0,5,6,7,8,3,4]⟩
 ·rintro a1 fl _ w ⟨a6,O,rfl,j⟩ hb
  refine RC.seq (RC.sr (mv (vi a1.2) (RL.aX zr iz (RL.aZ 0 j zr gM n7 fun dv j=>(RL.bB 0 p0.aN j wO (ic a1.2 ((p0.aN.length:Int)) (RL.nt (dT hb (fun hc hb=>?_) fun hc hb=>?_))))))))
  rotate_left
  ·refine RC.ex ?_
   obtain rfl:=oi hb
   exact⟨rfl,a6,j.sp 10 [1,2,3,4,5,6,7,8,9]⟩
  refine RC.ss (RC.bs (aP (.slice none 0 0) (RL.nq (RC.sr (aP (vi 0) (RL.nt ?_))))))
  obtain⟨dw,hN,hb⟩:=bd hb
  refine RC.iter (fun(ax: (List Int)×Int) U w=>∃cf:Value,SH E V [(1,vp a2 0),(3,vp ae 0),(7,vi a1.2),(8,cf),(9,vi ax.2)] [bx 27 a2 p0,bc 56 ae [ar,au,av,aw,a3,a4,(.slice none 0 0),a6],rd ar p0.aJ,rd au p0.cI,rd av p0.aN,rd aw p0.bM,own 3 a3 ai.1,own 23 a4 ai.2.1,own 36 a6 a1.1,own 3 cf ax.1] U w) (fun(ax: (List Int)×Int) U w=>∃bl:Value,SH E V [(1,vp a2 0),(3,vp ae 0),(7,vi a1.2),(8,bl)] [bx 27 a2 p0,bc 56 ae [ar,au,av,aw,a3,a4,(.slice none 0 0),a6],rd ar p0.aJ,rd au p0.cI,rd av p0.aN,rd aw p0.bM,own 3 a3 ai.1,own 23 a4 ai.2.1,own 36 a6 a1.1,own 3 bl ax.1] U w) (fun(r:Empty) _ _=>r.elim) hN ?_ ?_ ?_ ?_
  ·have j:=j.cP Int 3
   exact⟨(.slice none 0 0),j.sp 11 [2,3,5,6,7,8,9,10,4,0]⟩
  ·rintro ax fl _ w ⟨ba,O,rfl,j⟩ hb
   refine RC.seq (RC.seq ?_)
   obtain⟨b0,hj,hb⟩:=bd hb
   refine RC.jn (fun(b0:Bool)=>SH E V [(1,vp a2 0),(3,vp ae 0),(7,vi a1.2),(8,ba),(9,vi ax.2),(74,vb b0)] [bx 27 a2 p0,bc 56 ae [ar,au,av,aw,a3,a4,(.slice none 0 0),a6],rd ar p0.aJ,rd au p0.cI,rd av p0.aN,rd aw p0.bM,own 3 a3 ai.1,own 23 a4 ai.2.1,own 36 a6 a1.1,own 3 ba ax.1]) b0 ?_ ?_
   ·refine RC.region (mv (vi ax.2) (mv (vp ae 0) (RL.nilCheck zr (RL.aX zr uY (RL.bF 1 a4 j pY (RL.fL 7 ai.2.1 j qP (ic ax.2 ((ai.2.1.length:Int)) (mv (vb (decide (ax.2< (ai.2.1.length:Int)))) ?_))))))))
    refine fA hj (fun a7 hj=>?_) fun a7 hj=>?_
    rotate_left
    ·refine bC a7 (bC a7 (bC a7 (bC a7 (bC a7 (bC a7 (fB a7 (vb false) (RL.nil ?_)))))))
     obtain rfl:=oi hj
     exact⟨rfl,j.sp 10 [0,1,2,3,4,5,6,7,8,9]⟩
    refine RL.aX (hg:=(cg a7)) zr iz (RL.aZ (hg:=(cg a7)) 0 j zr gM n7 fun dx j=>(RL.move (vi a1.2) (cg a7) ?_))
    obtain⟨ch,cz,hj⟩:=bd hj
    refine RL.bO (hg:=(cg a7)) 0 j qQ cz fun dy j=>(RL.dV (hg:=(cg a7)) 0 j zr yJ qF fun dz j=>(RL.bG (hg:=(cg a7)) ch.fY 0 j Ax (fB a7 (vb ch.fY) (RL.nil ?_))))
    obtain rfl:=oi hj
    exact⟨rfl,j.sp 13 [3,4,5,6,7,8,9,10,11,12]⟩
   rintro _ w ⟨O,rfl,j⟩
   refine aH (dT hb (fun hc hb=>?_) fun hc hb=>?_)
   rotate_left
   ·refine RC.ex ?_
    obtain rfl:=oi hb
    exact⟨rfl,ba,j.sp 10 [0,1,2,3,4,5,6,7,8,9]⟩
   refine RC.ss (RC.block (RC.seq ?_))
   obtain⟨b1,hj,hb⟩:=bd hb
   refine RC.jn (fun(b1:Bool)=>SH E V [(1,vp a2 0),(3,vp ae 0),(7,vi a1.2),(8,ba),(9,vi ax.2),(105,vb b1)] [bx 27 a2 p0,bc 56 ae [ar,au,av,aw,a3,a4,(.slice none 0 0),a6],rd ar p0.aJ,rd au p0.cI,rd av p0.aN,rd aw p0.bM,own 3 a3 ai.1,own 23 a4 ai.2.1,own 36 a6 a1.1,own 3 ba ax.1]) b1 ?_ ?_
   ·obtain⟨bh,cj,hj⟩:=bd hj
    obtain⟨bj,bk,hj⟩:=bd hj
    obtain⟨br,ck,hj⟩:=bd hj
    refine fA hj (fun a0 hj=>?_) fun a0 hj=>?_
    rotate_left
    ·refine RC.Gq E V mixed [1,0,1,0,0,1,1,1,0,1,0,0,0,1,1,1,1,1,1,1,1,1,1,1,1,1,1,1,1] [1,3,4] (fun(x:Value×Value×Value)=>(fun ag ah af=>[(0,77,(vp a2 2)),(1,78,ag),(2,79,(vi a1.2)),(3,80,ah),(4,81,af),(5,82,(vp ae 0)),(6,83,(vp ae 0)),(7,84,(vp ae 4)),(8,85,a3),(9,86,(vi ax.2)),(10,87,(zQ a3 (Int.toNat ax.2) 1 0)),(11,88,(vi bj)),(12,89,(vb br)),(13,90,(vb br)),(14,91,undef),(15,92,undef),(16,93,undef),(17,94,undef),(18,95,undef),(19,96,undef),(20,97,undef),(21,98,undef),(22,99,undef),(23,100,undef),(24,101,undef),(25,102,undef),(26,103,undef),(27,104,undef),(28,105,(vb false))]) x.1 x.2.1 x.2.2) [(1,vp a2 0),(3,vp ae 0),(7,vi a1.2),(8,ba),(9,vi ax.2)] [] (fun(D:Nat->Bool) (x:Value×Value×Value)=>(fun ag ah af=>[bif D 0 then (rd ag p0.aN) else bE,bif D 1 then (pt ah bh) else bE,bif D 2 then (rd af bh) else bE,bx 27 a2 p0,bc 56 ae [ar,au,av,aw,a3,a4,(.slice none 0 0),a6],rd ar p0.aJ,rd au p0.cI,rd av p0.aN,rd aw p0.bM,own 3 a3 ai.1,own 23 a4 ai.2.1,own 36 a6 a1.1,own 3 ba ax.1]) x.1 x.2.1 x.2.2) (fun x=>by kernel_rfl) ?_ ⟨fun _=>nY gn iz,?_,fun _=>jL gn,?_,?_,fun _=>jL gn,fun _=>xD gn,fun _=>nY gn Az,?_,fun _=>jL gn,?_,?_,?_,fun _=>jL gn,fun _=>sD a0,fun _=>sD a0,fun _=>sD a0,fun _=>sD a0,fun _=>sD a0,fun _=>sD a0,fun _=>sD a0,fun _=>sD a0,fun _=>sD a0,fun _=>sD a0,fun _=>sD a0,fun _=>sD a0,fun _=>sD a0,fun _=>sD a0,fun _=>KX gn a0 rfl,trivial⟩ ?_
     ·have j:=(((j.drew).bE).bE).bE
      exact⟨(undef,undef,undef),fR.none,(E3 zr),zt,j⟩
     ·rintro D U w hD aa a5 ⟨⟨ag,ah,af⟩,o,ha,_,j⟩
      obtain⟨O,rfl⟩:=(ac (o.at 0 rfl (aa.1 rfl)) az).fM
      have j:=j.cD 0 hD
      refine RL.aZ 3 j zr gM n7 fun c0 j=>?_
      have j:=(j.pl 14 [0,2,3,4,5,6,7,8,9,10,11,12,13]).cR 0 true rfl bE
      exact RL.nil ⟨rfl,(c0,ah,af),o.pu 1,ha.u,zt,j⟩
     ·rintro D U w hD aa a5 ⟨⟨ag,ah,af⟩,o,ha,_,j⟩
      obtain⟨O,rfl⟩:=(ac (o.at 1 rfl (aa.1 rfl)) (ac (o.at 2 rfl (aa.2.1 rfl)) az)).fM
      have j:=(j.cQ 0 (aa.1 rfl)).cD 1 hD
      refine RL.bO 0 j qQ cj fun c1 j=>?_
      have j:=((j.pl 14 [1,0,3,4,5,6,7,8,9,10,11,12,13]).cR 0 (D 1) (aa.1 rfl) bE).cR 1 true rfl bE
      exact RL.nil ⟨rfl,(ag,c1,af),o.pu 3,ha.u,zt,j⟩
     ·rintro D U w hD aa a5 ⟨⟨ag,ah,af⟩,o,ha,_,j⟩
      obtain⟨O,rfl⟩:=(ac (o.at 3 rfl (aa.1 rfl)) az).fM
      have j:=(j.cQ 1 (aa.1 rfl)).cD 2 hD
      refine RL.bJ 1 bh j mj fun c2 j=>?_
      have j:=((j.pl 14 [1,2,0,4,5,6,7,8,9,10,11,12,13]).cR 1 (D 3) (aa.1 rfl) bE).cR 2 true rfl bE
      exact RL.nil ⟨rfl,(ag,ah,c2),o.pu 4,ha.u,zt,j⟩
     ·rintro D U w hD aa a5 ⟨⟨ag,ah,af⟩,o,ha,_,j⟩
      obtain⟨O,rfl⟩:=(ac (o.at 7 rfl (aa.1 rfl)) az).fM
      refine RL.bF 4 a3 j eV ?_
      exact RL.nil ⟨rfl,(ag,ah,af),o.pu 8,ha.u,zt,j⟩
     ·rintro D U w hD aa a5 ⟨⟨ag,ah,af⟩,o,ha,_,j⟩
      obtain⟨O,rfl⟩:=(ac (o.at 8 rfl (aa.1 rfl)) (ac (o.at 9 rfl (aa.2.1 rfl)) az)).fM
      refine RL.bT 9 j zr zr eF bk ?_
      exact RL.nil ⟨rfl,(ag,ah,af),o.pu 10,ha.u,zt,j⟩
     ·rintro D U w hD aa a5 ⟨⟨ag,ah,af⟩,o,ha,_,j⟩
      obtain⟨O,rfl⟩:=(ac (o.at 10 rfl (aa.1 rfl)) az).fM
      refine RL.dR (f:=(fun x=>x)) 9 j (jz 9 j bk 0) (bH bk).2.1 Fd.self cL ?_
      exact RL.nil ⟨rfl,(ag,ah,af),o.pu 11,ha.u,zt,j⟩
     ·rintro D U w hD aa a5 ⟨⟨ag,ah,af⟩,o,ha,_,j⟩
      obtain⟨O,rfl⟩:=(ac (o.at 4 rfl (aa.1 rfl)) (ac (o.at 11 rfl (aa.2.1 rfl)) az)).fM
      have j:=j.cQ 2 (aa.1 rfl)
      refine RL.call zt zr I3 [af,(vi bj)] zr (aD (jA N (p1:=bj) (i0:=2) j zr ck) ?_)
      rintro _ w ⟨rfl,j⟩
      have j:=j.cR 2 (D 4) (aa.1 rfl) bE
      exact RL.nil ⟨rfl,(ag,ah,af),o.pu 12,ha.u,zt,j⟩
     rintro D U w a9 ⟨⟨ag,ah,af⟩,o,ha,_,j⟩
     have j:=((j.cQ 0 (kU a9 1)).cQ 1 (kU a9 3)).cQ 2 (kU a9 4)
     obtain⟨O,rfl⟩:=(ac (o.at 28 rfl (kU a9 28)) (ac (ha.at 0 rfl) (ac (ha.at 1 rfl) (ac (ha.at 2 rfl) (ac (ha.at 3 rfl) (ac (ha.at 4 rfl) az)))))).fM
     obtain rfl:=oi hj
     exact⟨rfl,j.sp 13 [3,4,5,6,7,8,9,10,11,12]⟩
    obtain⟨c3,b2,hj⟩:=bd hj
    obtain⟨b3,c4,hj⟩:=bd hj
    obtain⟨c5,c6,hj⟩:=bd hj
    obtain⟨cl,c7,hj⟩:=bd hj
    refine RC.Gq E V mixed [1,0,1,0,0,1,1,1,0,1,0,0,0,1,1,1,1,0,1,0,0,1,0,1,0,0,0,0,1] [1,3,4,20,22,24,25,26] (fun(x:Value×Value×Value×Value×Value×Value×Value×Value)=>(fun ag ah af ak ao aq al an=>[(0,77,(vp a2 2)),(1,78,ag),(2,79,(vi a1.2)),(3,80,ah),(4,81,af),(5,82,(vp ae 0)),(6,83,(vp ae 0)),(7,84,(vp ae 4)),(8,85,a3),(9,86,(vi ax.2)),(10,87,(zQ a3 (Int.toNat ax.2) 1 0)),(11,88,(vi bj)),(12,89,(vb br)),(13,90,(vb br)),(14,91,(vp ae 0)),(15,92,(vp ae 0)),(16,93,(vp ae 5)),(17,94,a4),(18,95,(vi ax.2)),(19,96,(zQ a4 (Int.toNat ax.2) 1 0)),(20,97,ak),(21,98,(vp a2 2)),(22,99,ao),(23,100,(vi a1.2)),(24,101,aq),(25,102,al),(26,103,an),(27,104,(vb cl)),(28,105,(vb cl))]) x.1 x.2.1 x.2.2.1 x.2.2.2.1 x.2.2.2.2.1 x.2.2.2.2.2.1 x.2.2.2.2.2.2.1 x.2.2.2.2.2.2.2) [(1,vp a2 0),(3,vp ae 0),(7,vi a1.2),(8,ba),(9,vi ax.2)] [] (fun(D:Nat->Bool) (x:Value×Value×Value×Value×Value×Value×Value×Value)=>(fun ag ah af ak ao aq al an=>[bif D 0 then (rd ag p0.aN) else bE,bif D 1 then (pt ah bh) else bE,bif D 2 then (rd af bh) else bE,bif D 3 then (rd ak c3) else bE,bif D 4 then (rd ao p0.aN) else bE,bif D 5 then (pt aq b3) else bE,bif D 6 then (rd al b3) else bE,bif D 7 then (rd an c5) else bE,bx 27 a2 p0,bc 56 ae [ar,au,av,aw,a3,a4,(.slice none 0 0),a6],rd ar p0.aJ,rd au p0.cI,rd av p0.aN,rd aw p0.bM,own 3 a3 ai.1,own 23 a4 ai.2.1,own 36 a6 a1.1,own 3 ba ax.1]) x.1 x.2.1 x.2.2.1 x.2.2.2.1 x.2.2.2.2.1 x.2.2.2.2.2.1 x.2.2.2.2.2.2.1 x.2.2.2.2.2.2.2) (fun x=>by kernel_rfl) ?_ ⟨fun _=>nY gn iz,?_,fun _=>jL gn,?_,?_,fun _=>jL gn,fun _=>xD gn,fun _=>nY gn Az,?_,fun _=>jL gn,?_,?_,?_,fun _=>jL gn,fun _=>jL (gy a0),fun _=>xD (gy a0),fun _=>nY (gy a0) uY,?_,fun _=>jL (gy a0),?_,?_,fun _=>nY (gy a0) iz,?_,fun _=>jL (gy a0),?_,?_,?_,?_,fun _=>KW gn a0 rfl,trivial⟩ ?_
    ·have j:=((((((((j.drew).bE).bE).bE).bE).bE).bE).bE).bE
     exact⟨(undef,undef,undef,undef,undef,undef,undef,undef),fR.none,(E3 zr),zt,j⟩
    ·rintro D U w hD aa a5 ⟨⟨ag,ah,af,ak,ao,aq,al,an⟩,o,ha,_,j⟩
     obtain⟨O,rfl⟩:=(ac (o.at 0 rfl (aa.1 rfl)) az).fM
     have j:=j.cD 0 hD
     refine RL.aZ 8 j zr gM n7 fun c8 j=>?_
     have j:=(j.pl 19 [0,2,3,4,5,6,7,8,9,10,11,12,13,14,15,16,17,18]).cR 0 true rfl bE
     exact RL.nil ⟨rfl,(c8,ah,af,ak,ao,aq,al,an),o.pu 1,ha.u,zt,j⟩
    ·rintro D U w hD aa a5 ⟨⟨ag,ah,af,ak,ao,aq,al,an⟩,o,ha,_,j⟩
     obtain⟨O,rfl⟩:=(ac (o.at 1 rfl (aa.1 rfl)) (ac (o.at 2 rfl (aa.2.1 rfl)) az)).fM
     have j:=(j.cQ 0 (aa.1 rfl)).cD 1 hD
     refine RL.bO 0 j qQ cj fun c9 j=>?_
     have j:=((j.pl 19 [1,0,3,4,5,6,7,8,9,10,11,12,13,14,15,16,17,18]).cR 0 (D 1) (aa.1 rfl) bE).cR 1 true rfl bE
     exact RL.nil ⟨rfl,(ag,c9,af,ak,ao,aq,al,an),o.pu 3,ha.u,zt,j⟩
    ·rintro D U w hD aa a5 ⟨⟨ag,ah,af,ak,ao,aq,al,an⟩,o,ha,_,j⟩
     obtain⟨O,rfl⟩:=(ac (o.at 3 rfl (aa.1 rfl)) az).fM
     have j:=(j.cQ 1 (aa.1 rfl)).cD 2 hD
     refine RL.bJ 1 bh j mj fun da j=>?_
     have j:=((j.pl 19 [1,2,0,4,5,6,7,8,9,10,11,12,13,14,15,16,17,18]).cR 1 (D 3) (aa.1 rfl) bE).cR 2 true rfl bE
     exact RL.nil ⟨rfl,(ag,ah,da,ak,ao,aq,al,an),o.pu 4,ha.u,zt,j⟩
    ·rintro D U w hD aa a5 ⟨⟨ag,ah,af,ak,ao,aq,al,an⟩,o,ha,_,j⟩
     obtain⟨O,rfl⟩:=(ac (o.at 7 rfl (aa.1 rfl)) az).fM
     refine RL.bF 9 a3 j eV ?_
     exact RL.nil ⟨rfl,(ag,ah,af,ak,ao,aq,al,an),o.pu 8,ha.u,zt,j⟩
    ·rintro D U w hD aa a5 ⟨⟨ag,ah,af,ak,ao,aq,al,an⟩,o,ha,_,j⟩
     obtain⟨O,rfl⟩:=(ac (o.at 8 rfl (aa.1 rfl)) (ac (o.at 9 rfl (aa.2.1 rfl)) az)).fM
     refine RL.bT 14 j zr zr eF bk ?_
     exact RL.nil ⟨rfl,(ag,ah,af,ak,ao,aq,al,an),o.pu 10,ha.u,zt,j⟩
    ·rintro D U w hD aa a5 ⟨⟨ag,ah,af,ak,ao,aq,al,an⟩,o,ha,_,j⟩
     obtain⟨O,rfl⟩:=(ac (o.at 10 rfl (aa.1 rfl)) az).fM
     refine RL.dR (f:=(fun x=>x)) 14 j (jz 14 j bk 0) (bH bk).2.1 Fd.self cL ?_
     exact RL.nil ⟨rfl,(ag,ah,af,ak,ao,aq,al,an),o.pu 11,ha.u,zt,j⟩
    ·rintro D U w hD aa a5 ⟨⟨ag,ah,af,ak,ao,aq,al,an⟩,o,ha,_,j⟩
     obtain⟨O,rfl⟩:=(ac (o.at 4 rfl (aa.1 rfl)) (ac (o.at 11 rfl (aa.2.1 rfl)) az)).fM
     have j:=j.cQ 2 (aa.1 rfl)
     refine RL.call zt zr I3 [af,(vi bj)] zr (aD (jA N (p1:=bj) (i0:=2) j zr ck) ?_)
     rintro _ w ⟨rfl,j⟩
     have j:=j.cR 2 (D 4) (aa.1 rfl) bE
     exact RL.nil ⟨rfl,(ag,ah,af,ak,ao,aq,al,an),o.pu 12,ha.u,zt,j⟩
    ·rintro D U w hD aa a5 ⟨⟨ag,ah,af,ak,ao,aq,al,an⟩,o,ha,_,j⟩
     obtain⟨O,rfl⟩:=(ac (o.at 13 rfl (aa.2.1 rfl)) (ac (o.at 16 rfl (aa.1 rfl)) az)).fM
     refine RL.bF (hg:=(cg a0)) 9 a4 j pY ?_
     exact RL.nil ⟨rfl,(ag,ah,af,ak,ao,aq,al,an),o.pu 17,ha.u,zt,j⟩
    ·rintro D U w hD aa a5 ⟨⟨ag,ah,af,ak,ao,aq,al,an⟩,o,ha,_,j⟩
     obtain⟨O,rfl⟩:=(ac (o.at 13 rfl (aa.2.2.1 rfl)) (ac (o.at 17 rfl (aa.1 rfl)) (ac (o.at 18 rfl (aa.2.1 rfl)) az))).fM
     refine RL.bT (hg:=(cg a0)) 15 j zr zr uV b2 ?_
     exact RL.nil ⟨rfl,(ag,ah,af,ak,ao,aq,al,an),o.pu 19,ha.u,zt,j⟩
    ·rintro D U w hD aa a5 ⟨⟨ag,ah,af,ak,ao,aq,al,an⟩,o,ha,_,j⟩
     obtain⟨O,rfl⟩:=(ac (o.at 13 rfl (aa.2.1 rfl)) (ac (o.at 19 rfl (aa.1 rfl)) az)).fM
     have j:=j.cD 3 hD
     refine RL.jM (hg:=(cg a0)) (f:=(fun x=>x)) 15 j (jz 15 j b2 0) (bH b2).2.1 Fd.self uy fun db j=>?_
     have j:=(j.pl 19 [1,2,3,0,5,6,7,8,9,10,11,12,13,14,15,16,17,18]).cR 3 true rfl bE
     exact RL.nil ⟨rfl,(ag,ah,af,db,ao,aq,al,an),o.pu 20,ha.u,zt,j⟩
    ·rintro D U w hD aa a5 ⟨⟨ag,ah,af,ak,ao,aq,al,an⟩,o,ha,_,j⟩
     obtain⟨O,rfl⟩:=(ac (o.at 13 rfl (aa.2.1 rfl)) (ac (o.at 21 rfl (aa.1 rfl)) az)).fM
     have j:=j.cD 4 hD
     refine RL.aZ (hg:=(cg a0)) 8 j zr gM n7 fun dc j=>?_
     have j:=(j.pl 19 [1,2,3,4,0,6,7,8,9,10,11,12,13,14,15,16,17,18]).cR 4 true rfl bE
     exact RL.nil ⟨rfl,(ag,ah,af,ak,dc,aq,al,an),o.pu 22,ha.u,zt,j⟩
    ·rintro D U w hD aa a5 ⟨⟨ag,ah,af,ak,ao,aq,al,an⟩,o,ha,_,j⟩
     obtain⟨O,rfl⟩:=(ac (o.at 13 rfl (aa.2.2.1 rfl)) (ac (o.at 22 rfl (aa.1 rfl)) (ac (o.at 23 rfl (aa.2.1 rfl)) az))).fM
     have j:=(j.cQ 4 (aa.1 rfl)).cD 5 hD
     refine RL.bO (hg:=(cg a0)) 4 j qQ c4 fun dd j=>?_
     have j:=((j.pl 19 [1,2,3,4,5,0,7,8,9,10,11,12,13,14,15,16,17,18]).cR 4 (D 22) (aa.1 rfl) bE).cR 5 true rfl bE
     exact RL.nil ⟨rfl,(ag,ah,af,ak,ao,dd,al,an),o.pu 24,ha.u,zt,j⟩
    ·rintro D U w hD aa a5 ⟨⟨ag,ah,af,ak,ao,aq,al,an⟩,o,ha,_,j⟩
     obtain⟨O,rfl⟩:=(ac (o.at 13 rfl (aa.2.1 rfl)) (ac (o.at 24 rfl (aa.1 rfl)) az)).fM
     have j:=(j.cQ 5 (aa.1 rfl)).cD 6 hD
     refine RL.bJ (hg:=(cg a0)) 5 b3 j mj fun de j=>?_
     have j:=((j.pl 19 [1,2,3,4,5,6,0,8,9,10,11,12,13,14,15,16,17,18]).cR 5 (D 24) (aa.1 rfl) bE).cR 6 true rfl bE
     exact RL.nil ⟨rfl,(ag,ah,af,ak,ao,aq,de,an),o.pu 25,ha.u,zt,j⟩
    ·rintro D U w hD aa a5 ⟨⟨ag,ah,af,ak,ao,aq,al,an⟩,o,ha,_,j⟩
     obtain⟨O,rfl⟩:=(ac (o.at 13 rfl (aa.2.1 rfl)) (ac (o.at 25 rfl (aa.1 rfl)) az)).fM
     have j:=(j.cQ 6 (aa.1 rfl)).cD 7 hD
     refine RL.call (cg a0) zr GD [al] zr (aD (fK N (i0:=6) j zr c6) ?_)
     rintro df w j
     have j:=((j.pl 19 [1,2,3,4,5,6,7,0,9,10,11,12,13,14,15,16,17,18]).cR 6 (D 25) (aa.1 rfl) bE).cR 7 true rfl bE
     exact RL.nil ⟨rfl,(ag,ah,af,ak,ao,aq,al,df),o.pu 26,ha.u,zt,j⟩
    ·rintro D U w hD aa a5 ⟨⟨ag,ah,af,ak,ao,aq,al,an⟩,o,ha,_,j⟩
     obtain⟨O,rfl⟩:=(ac (o.at 13 rfl (aa.2.2.2.1 rfl)) (ac (o.at 20 rfl (aa.1 rfl)) (ac (o.at 26 rfl (aa.2.1 rfl)) az))).fM
     have j:=(j.cQ 3 (aa.1 rfl)).cQ 7 (aa.2.1 rfl)
     refine RL.call (cg a0) zr Nm [ak,an] zr (aD (uI N (i0:=3) (i1:=7) j zr zr c7) ?_)
     rintro _ w ⟨rfl,j⟩
     have j:=(j.cR 3 (D 20) (aa.1 rfl) bE).cR 7 (D 26) (aa.2.1 rfl) bE
     exact RL.nil ⟨rfl,(ag,ah,af,ak,ao,aq,al,an),o.pu 27,ha.u,zt,j⟩
    rintro D U w a9 ⟨⟨ag,ah,af,ak,ao,aq,al,an⟩,o,ha,_,j⟩
    have j:=((((((j.cQ 0 (kU a9 1)).cQ 1 (kU a9 3)).cQ 2 (kU a9 4)).cQ 3 (kU a9 20)).cQ 4 (kU a9 22)).cQ 5 (kU a9 24)).cQ 6 (kU a9 25)
    have j:=j.cQ 7 (kU a9 26)
    obtain⟨O,rfl⟩:=(ac (o.at 28 rfl (kU a9 28)) (ac (ha.at 0 rfl) (ac (ha.at 1 rfl) (ac (ha.at 2 rfl) (ac (ha.at 3 rfl) (ac (ha.at 4 rfl) az)))))).fM
    obtain rfl:=oi hj
    exact⟨rfl,j.sp 18 [8,9,10,11,12,13,14,15,16,17]⟩
   rintro _ w ⟨O,rfl,j⟩
   refine aH ?_
   obtain⟨b4,hj,hb⟩:=bd hb
   refine RC.jn (fun(b4: (List Int)) U w=>∃bt:Value,SH E V [(1,vp a2 0),(3,vp ae 0),(7,vi a1.2),(8,bt),(9,vi ax.2)] [bx 27 a2 p0,bc 56 ae [ar,au,av,aw,a3,a4,(.slice none 0 0),a6],rd ar p0.aJ,rd au p0.cI,rd av p0.aN,rd aw p0.bM,own 3 a3 ai.1,own 23 a4 ai.2.1,own 36 a6 a1.1,own 3 bt b4] U w) b4 ?_ ?_
   ·refine dT hj (fun hc hj=>?_) fun hc hj=>?_
    rotate_left
    ·refine RC.skip ?_
     obtain rfl:=oi hj
     exact⟨rfl,ba,j.sp 10 [0,1,2,3,4,5,6,7,8,9]⟩
    refine RC.region (mv ba (mv (vi ax.2) ?_))
    have j:=j.sc Int ax.2
    refine RL.dN ([ax.2]: (List Int)) j [(vi ax.2)] eF Dd (fun M hs g=>⟨(g.sat 0 _ zr).1,zt⟩) fun d3 w j=>?_
    have j:=j.freeze 0
    obtain⟨d4,dg,hj⟩:=bd hj
    refine RL.app 11 0 j rC dg fun cm w j=>?_
    refine aP cm (RL.nil ?_)
    obtain rfl:=oi hj
    exact⟨rfl,cm,j.sp 12 [2,3,4,5,6,7,8,9,10,11]⟩
   rintro _ w ⟨bt,O,rfl,j⟩
   refine bP (aH (RC.region (mv (vi ax.2) (RL.gk ax.2 1 (aP (vi (IntKind.wrap .i64 (ax.2+1))) (RL.nil ?_))))))
   obtain rfl:=oi hb
   exact⟨rfl,bt,j.sp 10 [0,1,2,3,4,5,6,7,8,9]⟩
  ·intro r _ _ _ _
   exact r.elim
  rintro ax _ w rfl ⟨bl,O,rfl,j⟩
  rw [Fo.cZ] at hb
  refine aH (RC.region (mv (vp ae 0) (mv (vp ae 0) (RL.nilCheck zr (RL.aX zr tK (RL.bF 1 a6 j zU (mv bl ?_)))))))
  have j:=j.freeze 9
  refine RL.dN ([ax.1]: (List (List Int))) j [bl] Ay Kn (fun M hs g=>⟨(g.sat 9 _ zr).1,zt⟩) fun d5 w j=>?_
  have j:=j.freeze 0
  obtain⟨d6,dh,hb⟩:=bd hb
  refine RL.app 9 0 j Ko dh fun cn w j=>?_
  refine RL.nilCheck zr (RL.aX zr tK (RL.iB 2 cn j zr zr (iT 9 j) zU fun w j=>?_))
  refine RL.nil (bP (aH (RC.region (mv (vi a1.2) (RL.gk a1.2 1 (aP (vi (IntKind.wrap .i64 (a1.2+1))) (RL.nil ?_)))))))
  obtain rfl:=oi hb
  exact⟨rfl,cn,j.sp 11 [1,2,9,3,4,5,6,7,8]⟩
 ·intro r _ _ _ _
  exact r.elim
 rintro a1 _ w rfl ⟨bq,O,rfl,j⟩
 rw [Fo.cZ] at hb
 refine aH (RC.sr (mv (vp ae 0) ?_))
 have j:=((((((((j.freeze 7).freeze 8).freeze 2).dup 2 rfl).dup 9 rfl).dup 9 rfl).dup 9 rfl).dup 9 rfl).pull 6
 obtain⟨d7,di,hb⟩:=bd hb
 refine RL.call zt zr Np [(vp ae 0)] zr (aD (oc N j di) ?_)
 rintro _ w ⟨dj,rfl,j⟩
 refine RL.ns (mv (vp ae 0) (aP (vp ae 0) (RL.nt (RC.ret ?_))))
 obtain rfl:=oi hb
 exact bY ⟨ae,ar,au,av,aw,a3,a4,dj,bq,zr,j.pk 11 [0,5,6,7,8,9,10,1,4]⟩
theorem sV {p0:kY} {res: (List bQ)×Int} (j:Holds E w V) (h0:V[i0]? =some (rd v0 p0)) (o:iJ N p0=some res):
    Calls bN 5 [v0].toArray w (gJ (uk E V res)):=by
 unfold iJ at o
 refine enter Tryz.func5 zr zr ?_
 have j:=j.dup (i0+0) h0
 refine RC.sr (RL.dD 0 v0 j zr fun ai w j=>?_)
 refine aP (.slice none 0 0) (aP (vi 0) (RL.nq (RC.sr (RL.aZ (f:=(fun x=>x)) 0 j zr Fd.self ux fun ad j=>?_))))
 obtain⟨aa,ae,o⟩:=bd o
 refine RL.call zt zr LP [ad] zr (aD (nA N (i0:=0) j zr ae) ?_)
 rintro _ w ⟨rfl,j⟩
 refine aP (vi aa) (RL.ns (mv (vi aa) (ic aa 0 (RL.nt (dT o (fun hc o=>?_) fun hc o=>?_)))))
 ·refine RC.sr (mv (vi aa) (aP (.slice none 0 0) (aP (vi aa) (RL.nt (RC.rt ?_)))))
  obtain rfl:=oi o
  have j:=j.cP bQ 39
  exact qK ⟨(.slice none 0 0),zr,j.pk 4 [0]⟩
 refine RC.sx (RL.aZ (f:=(fun x=>x)) 1 j zr Fd.self ux fun ag j=>?_)
 obtain⟨aj,ah,o⟩:=bd o
 refine RL.call zt zr LW [ag] zr (aD (nP N (i0:=0) j zr ah) ?_)
 rintro _ w ⟨ak,al,an,ao,aq,ar,au,ab,av,rfl,j⟩
 refine RL.nilCheck zr (RL.aX zr ml (RL.bF 0 ab j pI (aP ab (aP (vi 0) (RL.nt (RC.ret ?_))))))
 obtain rfl:=oi o
 exact qK ⟨ab,zr,j.pk 13 [7]⟩
theorem AH {p0:kY} {res: (List (List dB))×Int} (j:Holds E w V) (h0:V[i0]? =some (rd v0 p0)) (hb:mK N p0=some res):
    Calls bN 6 [v0].toArray w (gJ (wu E V res)):=by
 unfold mK at hb
 refine enter Tryz.func6 zr zr ?_
 have j:=j.dup (i0+0) h0
 refine RC.sr (RL.dD 0 v0 j zr fun b5 w j=>?_)
 refine aP (.slice none 0 0) (aP (vi 0) (RL.ns (RL.aZ (f:=(fun x=>x)) 0 j zr Fd.self ux fun bo j=>?_)))
 obtain⟨ae,bp,hb⟩:=bd hb
 refine RL.call zt zr LB [bo] zr (aD (vh N (i0:=0) j zr bp) ?_)
 rintro _ w hK49
 rcases a3:ae.1 with _ | o
 ·replace hb:=KR a3 hb
  obtain⟨rfl,j⟩:=Jv a3 hK49
  refine mv (.tuple #[(.pointer none),(vi ae.2)]) (RL.extract (.pointer none) (RL.extract (vi ae.2) (aP (.pointer none) (aP (vi ae.2) (RL.nq (RC.sr (mv (vi ae.2) (ic ae.2 0 ?_))))))))
  refine RL.nt (dT hb (fun hc hb=>?_) fun hc hb=>?_)
  rotate_left
  ·cases hb
  refine RC.sr (mv (vi ae.2) (aP (.slice none 0 0) (aP (vi ae.2) (RL.nt (RC.rt ?_)))))
  obtain rfl:=oi hb
  have j:=j.cP (List dB) 37
  exact qK ⟨(.slice none 0 0),zr,j.pk 4 [0]⟩
 replace hb:=KS a3 hb
 obtain⟨ab,ai,aj,ak,af,al,an,ao,ag,aq,ar,ah,au,rfl,j⟩:=Jw a3 hK49
 refine mv (.tuple #[(vp ab 0),(vi ae.2)]) (RL.extract (vp ab 0) (RL.extract (vi ae.2) (aP (vp ab 0) (aP (vi ae.2) (RL.nq (RC.sr (mv (vi ae.2) (ic ae.2 0 ?_))))))))
 refine RL.nt (dT hb (fun hc hb=>?_) fun hc hb=>?_)
 ·refine RC.sr (mv (vi ae.2) (aP (.slice none 0 0) (aP (vi ae.2) (RL.nt (RC.rt ?_)))))
  obtain rfl:=oi hb
  have j:=j.cP (List dB) 37
  exact qK ⟨(.slice none 0 0),zr,j.pk 17 [0]⟩
 refine RC.sx (aP (.slice none 0 0) (RL.nq (RC.sr (mv (vp ab 0) (RL.nilCheck zr (RL.aX zr uW (RL.bF 0 ag j pI (RL.fL 8 o.2.2.2.2.2.2.2.1 j CK ?_))))))))
 refine mv (vi 0) (RL.nt ?_)
 obtain⟨ax,hN,hb⟩:=bd hb
 refine RC.fold (fun(a0:Nat) (ax: (List (List dB))) U w=>∃bg:Value,SH E V [(4,vp ab 0),(6,bg),(22,ag),(23,vi o.2.2.2.2.2.2.2.1.length),(24,vi a0)] [bc 53 ab [ai,aj,ak,af,al,an,ao,ag,aq,ar,ah,au],rd ai o.1,rd aj o.2.1,rd ak o.2.2.1,rd af o.2.2.2.1,own 91 al o.2.2.2.2.1,rd an o.2.2.2.2.2.1,rd ao o.2.2.2.2.2.2.1,own 39 ag o.2.2.2.2.2.2.2.1,rd aq o.2.2.2.2.2.2.2.2.1,rd ar o.2.2.2.2.2.2.2.2.2.1,own 3 ah o.2.2.2.2.2.2.2.2.2.2.1,own 84 au o.2.2.2.2.2.2.2.2.2.2.2,own 37 bg ax] U w) (fun(ax: (List (List dB))) U w=>∃a4:Value,SH E V [(4,vp ab 0),(6,a4)] [bc 53 ab [ai,aj,ak,af,al,an,ao,ag,aq,ar,ah,au],rd ai o.1,rd aj o.2.1,rd ak o.2.2.1,rd af o.2.2.2.1,own 91 al o.2.2.2.2.1,rd an o.2.2.2.2.2.1,rd ao o.2.2.2.2.2.2.1,own 39 ag o.2.2.2.2.2.2.2.1,rd aq o.2.2.2.2.2.2.2.2.1,rd ar o.2.2.2.2.2.2.2.2.2.1,own 3 ah o.2.2.2.2.2.2.2.2.2.2.1,own 84 au o.2.2.2.2.2.2.2.2.2.2.2,own 37 a4 ax] U w) hN ?_ ?_ ?_ ?_
 ·have j:=j.cP (List dB) 37
  exact⟨(.slice none 0 0),j.sp 17 [1,2,3,4,5,6,7,8,9,10,11,12,13,0]⟩
 ·rintro hm ax _ w ⟨bq,O,rfl,j⟩
  refine RC.sr (ic ((o.2.2.2.2.2.2.2.1.length:Int)) ((o.2.2.2.2.2.2.2.1.length:Int)) (RL.nq (RC.fu sA (RC.ex ?_))))
  exact⟨rfl,bq,j.sp 14 [0,1,2,3,4,5,6,7,8,9,10,11,12,13]⟩
 ·rintro hm a0 ax s' _ w hk ⟨bh,O,rfl,j⟩ hb
  refine RC.sr (ic ((a0:Int)) ((o.2.2.2.2.2.2.2.1.length:Int)) (RL.nq (RC.eZ (sw hk) (RC.ss (RC.bs ?_)))))
  obtain⟨a8,a9,hb⟩:=bd hb
  refine RL.bT 8 j zr zr uz a9 (RL.jM (f:=(fun x=>x)) 8 j (jz 8 j a9 0) (bH a9).2.1 Fd.self yK fun b6 j=>?_)
  refine RL.alloc j Gy.z fun b7 w j=>?_
  refine RL.bZ 0 j 1 zr yK fun w j=>?_
  refine RL.ns (RL.aX zr r9 (RL.aZ 0 j zr pj zV fun b8 j=>(RL.bB 0 a8.eE j HR (ic ((a8.eE.length:Int)) 0 (RL.nt ?_)))))
  obtain⟨ba,hj,hb⟩:=bd hb
  refine RC.jn (fun(ba: (List (List dB))) U w=>∃a5:Value,SH E V [(4,vp ab 0),(6,a5),(22,ag),(23,vi o.2.2.2.2.2.2.2.1.length),(24,vi a0)] [bc 53 ab [ai,aj,ak,af,al,an,ao,ag,aq,ar,ah,au],rd ai o.1,rd aj o.2.1,rd ak o.2.2.1,rd af o.2.2.2.1,own 91 al o.2.2.2.2.1,rd an o.2.2.2.2.2.1,rd ao o.2.2.2.2.2.2.1,own 39 ag o.2.2.2.2.2.2.2.1,rd aq o.2.2.2.2.2.2.2.2.1,rd ar o.2.2.2.2.2.2.2.2.2.1,own 3 ah o.2.2.2.2.2.2.2.2.2.2.1,own 84 au o.2.2.2.2.2.2.2.2.2.2.2,own 37 a5 ba] U w) ba ?_ ?_
  ·refine dT hj (fun hc hj=>?_) fun hc hj=>?_
   rotate_left
   ·refine RC.skip ?_
    obtain rfl:=oi hj
    exact⟨rfl,bh,j.sp 17 [3,4,5,6,7,8,9,10,11,12,13,14,15,16]⟩
   refine RC.region (mv bh (RL.aX zr r9 (RL.aZ 1 j zr pj zV fun br j=>(RL.dN ([a8.eE]: (List (List dB))) j [br] GF I4 (fun M hs g=>⟨(g.sat 0 _ zr).1,zt⟩) fun b9 w j=>?_))))
   have j:=j.freeze 0
   obtain⟨ca,bt,hj⟩:=bd hj
   refine RL.app 18 0 j I5 bt fun bj w j=>?_
   refine aP bj (RL.nil ?_)
   obtain rfl:=oi hj
   exact⟨rfl,bj,j.sp 19 [5,6,7,8,9,10,11,12,13,14,15,16,17,18]⟩
  rintro _ w ⟨a5,O,rfl,j⟩
  refine bP (aH (RC.region (RL.inc hk hm (mv (vi ((a0+1:Nat):Int)) (RL.nil ?_)))))
  obtain rfl:=oi hb
  exact⟨rfl,a5,j.sp 14 [0,1,2,3,4,5,6,7,8,9,10,11,12,13]⟩
 rintro _ w ⟨a4,O,rfl,j⟩
 refine aH (RC.seq (RC.sr (mv (vp ab 0) (RL.nilCheck zr (RL.aX zr tH (RL.aX zr n8 (RL.bF 0 af j wR (RL.bB 4 o.2.2.2.1 j DX ?_))))))))
 refine mv (vi 0) (RL.nt ?_)
 obtain⟨ay,hN,hb⟩:=bd hb
 refine RC.fold (fun(av:Nat) (ay: (List (List dB))) U w=>∃bk:Value,SH E V [(4,vp ab 0),(6,bk),(42,af),(43,vi o.2.2.2.1.length),(44,vi av)] [bc 53 ab [ai,aj,ak,af,al,an,ao,ag,aq,ar,ah,au],rd ai o.1,rd aj o.2.1,rd ak o.2.2.1,rd af o.2.2.2.1,own 91 al o.2.2.2.2.1,rd an o.2.2.2.2.2.1,rd ao o.2.2.2.2.2.2.1,own 39 ag o.2.2.2.2.2.2.2.1,rd aq o.2.2.2.2.2.2.2.2.1,rd ar o.2.2.2.2.2.2.2.2.2.1,own 3 ah o.2.2.2.2.2.2.2.2.2.2.1,own 84 au o.2.2.2.2.2.2.2.2.2.2.2,own 37 bk ay] U w) (fun(ay: (List (List dB))) U w=>∃az:Value,SH E V [(6,az)] [bc 53 ab [ai,aj,ak,af,al,an,ao,ag,aq,ar,ah,au],rd ai o.1,rd aj o.2.1,rd ak o.2.2.1,rd af o.2.2.2.1,own 91 al o.2.2.2.2.1,rd an o.2.2.2.2.2.1,rd ao o.2.2.2.2.2.2.1,own 39 ag o.2.2.2.2.2.2.2.1,rd aq o.2.2.2.2.2.2.2.2.1,rd ar o.2.2.2.2.2.2.2.2.2.1,own 3 ah o.2.2.2.2.2.2.2.2.2.2.1,own 84 au o.2.2.2.2.2.2.2.2.2.2.2,own 37 az ay] U w) hN ?_ ?_ ?_ ?_
 ·exact⟨a4,j.sp 14 [0,1,2,3,4,5,6,7,8,9,10,11,12,13]⟩
 ·rintro hm ay _ w ⟨bu,O,rfl,j⟩
  refine RC.sr (ic ((o.2.2.2.1.length:Int)) ((o.2.2.2.1.length:Int)) (RL.nq (RC.fu sA (RC.ex ?_))))
  exact⟨rfl,bu,j.sp 14 [0,1,2,3,4,5,6,7,8,9,10,11,12,13]⟩
 ·rintro hm av ay s' _ w hk ⟨bl,O,rfl,j⟩ hb
  refine RC.sr (ic ((av:Int)) ((o.2.2.2.1.length:Int)) (RL.nq (RC.eZ (sw hk) (RC.ss (RC.bs (mv (vi av) ?_))))))
  obtain⟨bw,bx,hb⟩:=bd hb
  refine RL.bO 4 j BL bx fun cb j=>(RL.bJ 0 bw j r8 fun cc j=>(RL.alloc j Gv.z fun cd w j=>?_))
  refine aP (vi av) (RL.bZ 0 j 1 zr r8 fun w j=>?_)
  refine RL.ns (mv (vp ab 0) (RL.nilCheck zr (RL.aX zr E8 (RL.bF 3 ah j eV (mv (vi av) ?_)))))
  obtain⟨bz,bb,hb⟩:=bd hb
  refine RL.bT 14 j zr zr eF bb (RL.dR (f:=(fun x=>x)) 14 j (jz 14 j bb 0) (bH bb).2.1 Fd.self cL (ic bz 0 (RL.nt ?_)))
  obtain⟨bf,hj,hb⟩:=bd hb
  refine RC.jn (fun(bf: (List (List dB))) U w=>∃a6:Value,SH E V [(4,vp ab 0),(6,a6),(42,af),(43,vi o.2.2.2.1.length),(44,vi av)] [bc 53 ab [ai,aj,ak,af,al,an,ao,ag,aq,ar,ah,au],rd ai o.1,rd aj o.2.1,rd ak o.2.2.1,rd af o.2.2.2.1,own 91 al o.2.2.2.2.1,rd an o.2.2.2.2.2.1,rd ao o.2.2.2.2.2.2.1,own 39 ag o.2.2.2.2.2.2.2.1,rd aq o.2.2.2.2.2.2.2.2.1,rd ar o.2.2.2.2.2.2.2.2.2.1,own 3 ah o.2.2.2.2.2.2.2.2.2.2.1,own 84 au o.2.2.2.2.2.2.2.2.2.2.2,own 37 a6 bf] U w) bf ?_ ?_
  ·refine dT hj (fun hc hj=>?_) fun hc hj=>?_
   rotate_left
   ·refine RC.skip ?_
    obtain rfl:=oi hj
    exact⟨rfl,bl,j.sp 17 [3,4,5,6,7,8,9,10,11,12,13,14,15,16]⟩
   refine RC.region (mv bl (RL.aZ (f:=(fun x=>x)) 0 j zr Fd.self r8 fun b0 j=>?_))
   obtain⟨bm,b1,hj⟩:=bd hj
   refine RL.call zt zr I1 [b0] zr (aD (nV N (i0:=0) j zr b1) ?_)
   rintro b2 w j
   refine RL.dN ([bm]: (List dB)) j [b2] GC HE (fun M hs g=>⟨(g.sat 0 _ zr).1,zt⟩) fun b3 w j=>?_
   have j:=j.freeze 0
   refine RL.dN ([([bm]: (List dB))]: (List (List dB))) j [b3] GF I4 (fun M hs g=>⟨(g.sat 0 _ zr).1,zt⟩) fun cf w j=>?_
   have j:=j.freeze 0
   obtain⟨cg,b4,hj⟩:=bd hj
   refine RL.app 20 0 j I5 b4 fun bn w j=>?_
   refine aP bn (RL.nil ?_)
   obtain rfl:=oi hj
   exact⟨rfl,bn,j.sp 21 [7,8,9,10,11,12,13,14,15,16,17,18,19,20]⟩
  rintro _ w ⟨a6,O,rfl,j⟩
  refine bP (aH (RC.region (RL.inc hk hm (mv (vi ((av+1:Nat):Int)) (RL.nil ?_)))))
  obtain rfl:=oi hb
  exact⟨rfl,a6,j.sp 14 [0,1,2,3,4,5,6,7,8,9,10,11,12,13]⟩
 rintro _ w ⟨az,O,rfl,j⟩
 refine aH (RC.sr (mv az (aP az (aP (vi 0) (RL.nt (RC.ret ?_))))))
 obtain rfl:=oi hb
 exact qK ⟨az,zr,j.pk 14 [13]⟩
def oW (E:World) (V:List HP) (b0:Nat) (v0_0 v0_1:Value) (v0_2 v0_3:Value) (v0_4 v0_5:Value) (v0_6 v0_7:Value) (r:Int) (U:Nat->Value) (w:World):Prop:=lG bN 49 Tryz.f39 (iX E V b0 v0_0 v0_1 v0_2 v0_3 v0_4 v0_5 v0_6 v0_7 r) .ret U w
theorem oG {p0_6: (List bQ)} {p1:ka} (j:Holds E w (bc 56 b0 [v0_0,v0_1,v0_2,v0_3,v0_4,v0_5,v0_6,v0_7]::rd v0_6 p0_6::V)) (h1:V[i1]? =some (rd v1 p1)) (hb:jl N p0_6 p1=some res):
    Calls bN 39 [(vp b0 0),v1].toArray w (gJ (iX E V b0 v0_0 v0_1 v0_2 v0_3 v0_4 v0_5 v0_6 v0_7 res)):=by
 unfold jl at hb
 refine enter Tryz.func39 zr zr ?_
 have j:=j.dup (i1+2) h1
 refine RC.sr (RL.dD 0 v1 j zr fun ah w j=>?_)
 refine aP (vi 0) (RL.nq (RC.sr (aP (vi 0) (RL.nt ?_))))
 obtain⟨a4,hN,hb⟩:=bd hb
 refine RC.iter (fun(af:Int)=>SH E V [(0,vp b0 0),(3,vp ah 0),(5,vi af)] [bc 56 b0 [v0_0,v0_1,v0_2,v0_3,v0_4,v0_5,v0_6,v0_7],rd v0_6 p0_6,bx 84 ah p1]) (fun(af:Int)=>SH E V [(0,vp b0 0)] [bc 56 b0 [v0_0,v0_1,v0_2,v0_3,v0_4,v0_5,v0_6,v0_7],rd v0_6 p0_6,bx 84 ah p1]) (oW E V b0 v0_0 v0_1 v0_2 v0_3 v0_4 v0_5 v0_6 v0_7) hN ?_ ?_ ?_ ?_
 ·exact j.sp 4 [2,3,0]
 ·rintro af fl _ w ⟨O,rfl,j⟩ hb
  refine RC.seq (RC.sr (mv (vi af) (mv (vp b0 0) (RL.nilCheck zr (RL.aX zr ml (RL.bF 0 v0_6 j pI (RL.bB 1 p0_6 j CK (ic af ((p0_6.length:Int)) ?_))))))))
  refine RL.nt (dT hb (fun hc hb=>?_) fun hc hb=>?_)
  rotate_left
  ·refine RC.ex ?_
   obtain rfl:=oi hb
   exact⟨rfl,j.sp 3 [0,1,2]⟩
  refine RC.ss (RC.block (RC.seq ?_))
  obtain⟨aj,o,hb⟩:=bd hb
  refine RC.jn (fun(aj:Bool)=>SH E V [(0,vp b0 0),(3,vp ah 0),(5,vi af),(47,vb aj)] [bc 56 b0 [v0_0,v0_1,v0_2,v0_3,v0_4,v0_5,v0_6,v0_7],rd v0_6 p0_6,bx 84 ah p1]) aj ?_ ?_
  ·refine RC.vV mixed [0,0,0,0,0,0,0,0,0,0,0,0,0,2,0,0,0,0,0,0,0,0,0,0,0,0,0,0,0,0,2,0,0] [0,1,2,3,4,5,6,7,8,9,10,11,12,13,14,15,16,17,18,19,20,21,22,23,24,25,26,27,28,29,30,31,32] ?_
   have j:=j.drew
   refine DP.e0 zr (RL.aX zr wT (aW zr (RL.aM 2 j zr qO Ax (aW zr (mv (vb p1.cA) (DP.d0 (fA o (fun aa o=>?_) fun aa o=>?_)))))))
   rotate_left
   ·refine DP.e0 zr (bC aa (aW zr (bC aa (aW zr (bC aa (aW zr (bC aa (aW zr ?_))))))))
    refine bC aa (aW zr (bC aa (aW zr (bC aa (aW zr (bC aa (aW zr (bC aa ?_))))))))
    refine aW zr (bC aa (oZ zr (bC aa (rB zr (fB aa (vb false) (aW zr (mv (vb false) (aW zr ?_))))))))
    refine RL.aX (hg:=⟨_,zr,zr⟩) zr wT (aW zr (RL.aM (hg:=⟨_,zr,zr⟩) 2 j zr qO Ax (aW zr (RL.not (hg:=⟨_,zr,zr⟩) p1.cA (aW zr (RL.move (vb (!p1.cA)) ⟨_,zr,zr⟩ (DP.d0 (fA o (fun ab o=>?_) fun ab o=>?_))))))))
    rotate_left
    ·refine DP.e0 zr (bC ab (aW zr (bC ab (aW zr (bC ab (aW zr (bC ab (aW zr ?_))))))))
     refine bC ab (aW zr (bC ab (aW zr (bC ab (aW zr (bC ab (aW zr (bC ab ?_))))))))
     refine aW zr (bC ab (oZ zr (bC ab (rB zr (fB ab (vb false) (hg:=⟨_,zr,zr⟩) (aW zr (RL.pick false (vb false) zr (DP.d0 ?_))))))))
     refine DP.z ?_
     obtain rfl:=oi o
     exact⟨rfl,j.sp 3 [0,1,2]⟩
    refine DP.e0 zr (RL.move (vp b0 0) (cg ab) (aW zr (RL.nilCheck (hg:=(cg ab)) zr (aW zr (RL.aX (hg:=(cg ab)) zr ml (aW zr (RL.bF (hg:=(cg ab)) 0 v0_6 j pI (aW zr ?_))))))))
    refine RL.move (vi af) (cg ab) (aW zr ?_)
    obtain⟨aq,ar,o⟩:=bd o
    refine RL.bO (hg:=(cg ab)) 1 j uz ar fun a6 j=>(aW zr (RL.dV (hg:=(cg ab)) 0 j zr qR tE fun a7 j=>(aW zr (RL.bJ (hg:=(cg ab)) 0 aq.gN j eV fun au j=>(aW zr (RL.aX (hg:=(cg ab)) zr uX (aW zr (RL.aM (hg:=(cg ab)) 5 j zr pF cL ?_))))))))
    refine oZ zr ?_
    obtain⟨ak,av,o⟩:=bd o
    refine RL.call (cg ab) zr E9 [au,(vi p1.Number)] zr (aD (eG N (p1:=p1.Number) (i0:=0) j zr av) ?_)
    rintro _ w ⟨rfl,j⟩
    refine rB zr (fB ab (vb ak) (hg:=⟨_,zr,zr⟩) (aW zr (RL.pick false (vb ak) zr (DP.d0 (DP.z ?_)))))
    obtain rfl:=oi o
    exact⟨rfl,j.sp 6 [3,4,5]⟩
   refine DP.e0 zr (RL.move (vp b0 0) (cg aa) (aW zr (RL.nilCheck (hg:=(cg aa)) zr (aW zr (RL.aX (hg:=(cg aa)) zr ml (aW zr (RL.bF (hg:=(cg aa)) 0 v0_6 j pI (aW zr ?_))))))))
   refine RL.move (vi af) (cg aa) (aW zr ?_)
   obtain⟨Hx,aw,o⟩:=bd o
   refine RL.bO (hg:=(cg aa)) 1 j uz aw fun a8 j=>(aW zr (RL.dV (hg:=(cg aa)) 0 j zr tI wN fun a9 j=>(aW zr (RL.bJ (hg:=(cg aa)) 0 Hx.aN j eV fun ax j=>(aW zr (RL.aX (hg:=(cg aa)) zr uX (aW zr (RL.aM (hg:=(cg aa)) 5 j zr pF cL ?_))))))))
   refine oZ zr ?_
   obtain⟨al,ay,o⟩:=bd o
   refine RL.call (cg aa) zr E9 [ax,(vi p1.Number)] zr (aD (eG N (p1:=p1.Number) (i0:=0) j zr ay) ?_)
   rintro _ w ⟨rfl,j⟩
   refine rB zr (fB aa (vb al) (aW zr (mv (vb al) (DP.d0 (fA o (fun ag o=>?_) fun ag o=>?_)))))
   ·refine DP.e0 zr (bC ag (aW zr (bC ag (aW zr (bC ag (aW zr (bC ag (aW zr ?_))))))))
    refine xF (aW zr (xF (aW zr (xF (aW zr (xF (aW zr (xF ?_))))))))
    refine aW zr (xF (aW zr (xF (aW zr (xF (aW zr (xF (aW zr ?_))))))))
    refine xF (oZ zr (xF (rB zr (bC ag (aW zr (fB ag (vb true) (DP.d0 (DP.z ?_))))))))
    obtain rfl:=oi o
    exact⟨rfl,j.sp 6 [3,4,5]⟩
   refine DP.e0 zr (RL.aX (hg:=(cg ag)) zr wT (aW zr (RL.aM (hg:=(cg ag)) 5 j zr qO Ax (aW zr (RL.not (hg:=(cg ag)) p1.cA (aW zr (RL.move (vb (!p1.cA)) (cg ag) (DP.d0 ?_))))))))
   refine fA o (fun ad o=>?_) fun ad o=>?_
   rotate_left
   ·refine DP.e0 zr (bC ad (aW zr (bC ad (aW zr (bC ad (aW zr (bC ad (aW zr ?_))))))))
    refine bC ad (aW zr (bC ad (aW zr (bC ad (aW zr (bC ad (aW zr (bC ad ?_))))))))
    refine aW zr (bC ad (oZ zr (bC ad (rB zr (fB ad (vb false) (hg:=(cg ag)) (aW zr (fB ag (vb false) (DP.d0 ?_))))))))
    refine DP.z ?_
    obtain rfl:=oi o
    exact⟨rfl,j.sp 6 [3,4,5]⟩
   refine DP.e0 zr (RL.move (vp b0 0) (cg ad) (aW zr (RL.nilCheck (hg:=(cg ad)) zr (aW zr (RL.aX (hg:=(cg ad)) zr ml (aW zr (RL.bF (hg:=(cg ad)) 3 v0_6 j pI (aW zr ?_))))))))
   refine RL.move (vi af) (cg ad) (aW zr ?_)
   obtain⟨az,a0,o⟩:=bd o
   refine RL.bO (hg:=(cg ad)) 4 j uz a0 fun ba j=>(aW zr (RL.dV (hg:=(cg ad)) 0 j zr qR tE fun bb j=>(aW zr (RL.bJ (hg:=(cg ad)) 0 az.gN j eV fun a1 j=>(aW zr (RL.aX (hg:=(cg ad)) zr uX (aW zr (RL.aM (hg:=(cg ad)) 8 j zr pF cL ?_))))))))
   refine oZ zr ?_
   obtain⟨an,a2,o⟩:=bd o
   refine RL.call (cg ad) zr E9 [a1,(vi p1.Number)] zr (aD (eG N (p1:=p1.Number) (i0:=0) j zr a2) ?_)
   rintro _ w ⟨rfl,j⟩
   refine rB zr (fB ad (vb an) (hg:=(cg ag)) (aW zr (fB ag (vb an) (DP.d0 (DP.z ?_)))))
   obtain rfl:=oi o
   exact⟨rfl,j.sp 9 [6,7,8]⟩
  rintro _ w ⟨O,rfl,j⟩
  refine aH (dT hb (fun hc hb=>?_) fun hc hb=>?_)
  rotate_left
  ·refine RC.skip (bP (aH (RC.region (mv (vi af) (RL.gk af 1 (aP (vi (IntKind.wrap .i64 (af+1))) (RL.nil ?_)))))))
   obtain rfl:=oi hb
   exact⟨rfl,j.sp 3 [0,1,2]⟩
  refine RC.sr (mv (vi af) (aP (vi af) (RL.nt (RC.rb (bR ?_)))))
  obtain rfl:=oi hb
  exact⟨rfl,bY ⟨rfl,j.pk 3 [0]⟩⟩
 ·intro r U w e hK
  subst e
  refine bR ?_
  obtain rfl:=oi hb
  exact hK
 rintro af _ w rfl ⟨O,rfl,j⟩
 rw [Fo.cZ] at hb
 refine aH (RC.sr (aP (vi (-1)) (RL.nt (RC.ret ?_))))
 obtain rfl:=oi hb
 exact bY ⟨rfl,j.pk 3 [0]⟩
theorem pq {p0_2: (List cA)} {p0_4: (List Int)} {p0_5: (List (List aI))} {p0_6: (List bQ)} {p1:eQ} (j:Holds E w (bc 56 b0 [v0_0,v0_1,v0_2,v0_3,v0_4,v0_5,v0_6,v0_7]::rd v0_2 p0_2::rd v0_4 p0_4::rd v0_5 p0_5::rd v0_6 p0_6::V)) (h1:V[i1]? =some (rd v1 p1)) (o:gh N p0_2 p0_4 p0_5 p0_6 p1=some res):
    Calls bN 17 [(vp b0 0),v1].toArray w (gJ (iX E V b0 v0_0 v0_1 v0_2 v0_3 v0_4 v0_5 v0_6 v0_7 res)):=by
 unfold gh at o
 refine enter Tryz.func17 zr zr ?_
 have j:=j.dup (i1+5) h1
 refine RC.sr (RL.dD 0 v1 j zr fun aj w j=>?_)
 refine aP (vi 0) (RL.ns (mv (vp b0 0) (RL.aZ (f:=(fun x=>x)) 0 j zr Fd.self r8 fun ad j=>?_)))
 have j:=(((j.dup 6 rfl).dup 6 rfl).dup 6 rfl).pull 6
 obtain⟨aa,ae,o⟩:=bd o
 refine RL.call zt zr LS [(vp b0 0),ad] zr (aD (lW N (i1:=0) j zr ae) ?_)
 rintro _ w ⟨ab,rfl,j⟩
 refine mv (.tuple #[ab,(vb aa.2)]) (RL.extract ab (RL.extract (vb aa.2) (RL.alloc j Gz.z fun ak w j=>?_)))
 refine RL.bZ 0 j 1 zr tJ fun w j=>?_
 refine aP (vb aa.2) (RL.nq (RC.sr (mv (vb aa.2) (RL.not aa.2 (RL.nt (dT o (fun hc o=>?_) fun hc o=>?_))))))
 ·refine RC.sr (aP (vi (-1)) (RL.nt (RC.rt ?_)))
  obtain rfl:=oi o
  exact bY ⟨rfl,j.pk 11 [2]⟩
 refine RC.sx (mv (vp b0 0) (RL.aZ (f:=(fun x=>x)) 0 j zr Fd.self tJ fun ag j=>?_))
 have j:=(j.dup 11 rfl).pull 4
 obtain⟨ah,ai,o⟩:=bd o
 refine RL.call zt zr LU [(vp b0 0),ag] zr (aD (oG N (i1:=0) j zr ai) ?_)
 rintro _ w ⟨rfl,j⟩
 refine aP (vi ah) (RL.nt (RC.ret ?_))
 obtain rfl:=oi o
 exact bY ⟨rfl,j.pk 13 [0]⟩
end Go.Gk
namespace Go.Gk
open Go Go.Proofs
variable (N:Nat) {E w:World} {i0 i1:Nat} {v0 v1 v2:Value} {V:List HP}
theorem uJ {p0:kY} {res: (List (List dB))×Int} (j:Holds E w V) (h0:V[i0]? =some (rd v0 p0)) (hb:iu N p0=some res):
    Calls bN 7 [v0].toArray w (gJ (wu E V res)):=by
 unfold iu at hb
 refine enter Tryz.func7 zr zr ?_
 have j:=j.dup (i0+0) h0
 refine RC.sr (RL.dD 0 v0 j zr fun ao w j=>?_)
 refine aP (.slice none 0 0) (aP (vi 0) (RL.nq (RC.sr (RL.aZ (f:=(fun x=>x)) 0 j zr Fd.self ux fun bk j=>?_))))
 obtain⟨ax,bl,hb⟩:=bd hb
 refine RL.call zt zr LP [bk] zr (aD (nA N (i0:=0) j zr bl) ?_)
 rintro _ w ⟨rfl,j⟩
 refine aP (vi ax) (RL.ns (mv (vi ax) (ic ax 0 (RL.nt (dT hb (fun hc hb=>?_) fun hc hb=>?_)))))
 ·refine RC.sr (mv (vi ax) (aP (.slice none 0 0) (aP (vi ax) (RL.nt (RC.rt ?_)))))
  obtain rfl:=oi hb
  have j:=j.cP (List dB) 37
  exact qK ⟨(.slice none 0 0),zr,j.pk 4 [0]⟩
 refine RC.sx (RL.aZ (f:=(fun x=>x)) 1 j zr Fd.self ux fun bm j=>?_)
 obtain⟨o,bn,hb⟩:=bd hb
 refine RL.call zt zr LW [bm] zr (aD (nP N (i0:=0) j zr bn) ?_)
 rintro _ w ⟨ae,ag,ah,ai,aj,ak,al,aq,an,rfl,j⟩
 refine aP (vp ae 0) (RL.ns (aP (.slice none 0 0) (RL.nq (RC.sr (aP (vi 0) (RL.nt ?_))))))
 obtain⟨b6,hN,hb⟩:=bd hb
 refine RC.iter (fun(af: (List (List dB))×Int) U w=>∃ba:Value,SH E V [(1,vp ao 0),(5,vp ae 0),(6,ba),(7,vi af.2)] [bx 27 ao p0,bc 56 ae [ag,ah,ai,aj,ak,al,aq,an],rd ag o.1,rd ah o.2.1,rd ai o.2.2.1,rd aj o.2.2.2.1,rd ak o.2.2.2.2.1,rd al o.2.2.2.2.2.1,own 39 aq o.2.2.2.2.2.2.1,rd an o.2.2.2.2.2.2.2,own 37 ba af.1] U w) (fun(af: (List (List dB))×Int) U w=>∃ay:Value,SH E V [(1,vp ao 0),(5,vp ae 0),(6,ay)] [bx 27 ao p0,bc 56 ae [ag,ah,ai,aj,ak,al,aq,an],rd ag o.1,rd ah o.2.1,rd ai o.2.2.1,rd aj o.2.2.2.1,rd ak o.2.2.2.2.1,rd al o.2.2.2.2.2.1,own 39 aq o.2.2.2.2.2.2.1,rd an o.2.2.2.2.2.2.2,own 37 ay af.1] U w) (fun(r:Empty) _ _=>r.elim) hN ?_ ?_ ?_ ?_
 ·have j:=j.cP (List dB) 37
  exact⟨(.slice none 0 0),j.sp 14 [12,1,2,3,4,5,6,7,8,9,0]⟩
 ·rintro af fl _ w ⟨a6,O,rfl,j⟩ hb
  refine RC.seq (RC.sr (mv (vi af.2) (mv (vp ae 0) (RL.nilCheck zr (RL.aX zr ml (RL.bF 1 aq j pI (RL.fL 8 o.2.2.2.2.2.2.1 j CK (ic af.2 ((o.2.2.2.2.2.2.1.length:Int)) ?_))))))))
  refine RL.nt (dT hb (fun hc hb=>?_) fun hc hb=>?_)
  rotate_left
  ·refine RC.ex ?_
   obtain rfl:=oi hb
   exact⟨rfl,a6,j.sp 11 [0,1,2,3,4,5,6,7,8,9,10]⟩
  refine RC.ss (RC.bs (mv (vp ae 0) (RL.nilCheck zr (RL.aX zr ml (RL.bF 1 aq j pI (mv (vi af.2) ?_))))))
  obtain⟨bb,az,hb⟩:=bd hb
  refine RL.bT 8 j zr zr uz az (RL.kz (α:=bQ) (jz 8 j az 0) r9 (RL.jM 8 j (jz 8 j az 2) (bH az).2.1 pj zV fun b7 j=>?_))
  refine RL.bB 0 bb.eE j HR (ic ((bb.eE.length:Int)) 0 (RL.nt ?_))
  obtain⟨a7,hj,hb⟩:=bd hb
  refine RC.jn (fun(a7: (List (List dB))) U w=>∃a0:Value,SH E V [(1,vp ao 0),(5,vp ae 0),(6,a0),(7,vi af.2)] [bx 27 ao p0,bc 56 ae [ag,ah,ai,aj,ak,al,aq,an],rd ag o.1,rd ah o.2.1,rd ai o.2.2.1,rd aj o.2.2.2.1,rd ak o.2.2.2.2.1,rd al o.2.2.2.2.2.1,own 39 aq o.2.2.2.2.2.2.1,rd an o.2.2.2.2.2.2.2,own 37 a0 a7] U w) a7 ?_ ?_
  ·refine dT hj (fun hc hj=>?_) fun hc hj=>?_
   rotate_left
   ·refine RC.skip ?_
    obtain rfl:=oi hj
    exact⟨rfl,a6,j.sp 12 [1,2,3,4,5,6,7,8,9,10,11]⟩
   refine RC.region (mv a6 (mv (vp ae 0) (RL.nilCheck zr (RL.aX zr ml (RL.bF 2 aq j pI (mv (vi af.2) ?_))))))
   obtain⟨bp,a1,hj⟩:=bd hj
   refine RL.bT 9 j zr zr uz a1 (RL.kz (α:=bQ) (jz 9 j a1 0) r9 (RL.jM 9 j (jz 9 j a1 2) (bH a1).2.1 pj zV fun bq j=>?_))
   refine RL.dN ([bp.eE]: (List (List dB))) j [bq] GF I4 (fun M hs g=>⟨(g.sat 0 _ zr).1,zt⟩) fun b8 w j=>?_
   have j:=j.freeze 0
   obtain⟨b9,br,hj⟩:=bd hj
   refine RL.app 13 0 j I5 br fun bf w j=>?_
   refine aP bf (RL.nil ?_)
   obtain rfl:=oi hj
   exact⟨rfl,bf,j.sp 14 [3,4,5,6,7,8,9,10,11,12,13]⟩
  rintro _ w ⟨a0,O,rfl,j⟩
  refine bP (aH (RC.region (mv (vi af.2) (RL.gk af.2 1 (aP (vi (IntKind.wrap .i64 (af.2+1))) (RL.nil ?_))))))
  obtain rfl:=oi hb
  exact⟨rfl,a0,j.sp 11 [0,1,2,3,4,5,6,7,8,9,10]⟩
 ·intro r _ _ _ _
  exact r.elim
 rintro af _ w rfl ⟨ay,O,rfl,j⟩
 rw [Fo.cZ] at hb
 refine aH (RC.seq (RC.sr (aP (vi 0) (RL.nt ?_))))
 obtain⟨ca,hN,hb⟩:=bd hb
 refine RC.iter (fun(ad: (List bQ)×(List (List dB))×Int) U w=>∃bg bh:Value,SH E V [(1,vp ao 0),(5,vp ae 0),(6,bh),(8,vi ad.2.2)] [bx 27 ao p0,bc 56 ae [ag,ah,ai,aj,ak,al,bg,an],rd bg ad.1,rd ag o.1,rd ah o.2.1,rd ai o.2.2.1,rd aj o.2.2.2.1,rd ak o.2.2.2.2.1,rd al o.2.2.2.2.2.1,rd an o.2.2.2.2.2.2.2,own 37 bh ad.2.1] U w) (fun(ad: (List bQ)×(List (List dB))×Int) U w=>∃a8 au:Value,SH E V [(6,au)] [bx 27 ao p0,bc 56 ae [ag,ah,ai,aj,ak,al,a8,an],rd a8 ad.1,rd ag o.1,rd ah o.2.1,rd ai o.2.2.1,rd aj o.2.2.2.1,rd ak o.2.2.2.2.1,rd al o.2.2.2.2.2.1,rd an o.2.2.2.2.2.2.2,own 37 au ad.2.1] U w) (fun(r:Empty) _ _=>r.elim) hN ?_ ?_ ?_ ?_
 ·have j:=j.freeze 8
  exact⟨aq,ay,j.sp 11 [0,1,8,2,3,4,5,6,7,9,10]⟩
 ·rintro ad fl _ w ⟨a2,a3,O,rfl,j⟩ hb
  refine RC.seq (RC.sr (mv (vi ad.2.2) (RL.aX zr n8 (RL.aZ 0 j zr lu wR fun cb j=>(RL.bB 0 p0.bM j DX (ic ad.2.2 ((p0.bM.length:Int)) (RL.nt (dT hb (fun hc hb=>?_) fun hc hb=>?_))))))))
  rotate_left
  ·refine RC.ex ?_
   obtain rfl:=oi hb
   exact⟨rfl,a2,a3,j.sp 12 [1,2,3,4,5,6,7,8,9,10,11]⟩
  refine RC.ss (RC.bs (mv (vp ae 0) (RL.aX zr n8 (RL.aZ 1 j zr lu wR fun cc j=>(mv (vi ad.2.2) ?_)))))
  obtain⟨bt,bu,hb⟩:=bd hb
  refine RL.bO 0 j BL bu fun cd j=>(RL.bJ 0 bt j r8 fun bw j=>?_)
  have j:=((((j.dup 6 rfl).dup 13 rfl).dup 13 rfl).dup 12 rfl).pull 9
  obtain⟨bz,b0,hb⟩:=bd hb
  refine RL.call zt zr LV [(vp ae 0),bw] zr (aD (pq N (i1:=0) j zr b0) ?_)
  rintro _ w ⟨rfl,j⟩
  refine ic bz 0 (RL.nt ?_)
  obtain⟨a9,hj,hb⟩:=bd hb
  refine RC.jn (fun(a9: (List (List dB))) U w=>∃a4:Value,SH E V [(1,vp ao 0),(5,vp ae 0),(6,a4),(8,vi ad.2.2)] [bx 27 ao p0,bc 56 ae [ag,ah,ai,aj,ak,al,a2,an],rd ag o.1,rd ah o.2.1,rd ai o.2.2.1,rd aj o.2.2.2.1,rd ak o.2.2.2.2.1,rd al o.2.2.2.2.2.1,rd a2 ad.1,rd an o.2.2.2.2.2.2.2,own 37 a4 a9] U w) a9 ?_ ?_
  ·refine dT hj (fun hc hj=>?_) fun hc hj=>?_
   rotate_left
   ·refine RC.skip ?_
    obtain rfl:=oi hj
    exact⟨rfl,a3,j.sp 16 [5,0,8,9,10,11,12,13,7,14,15]⟩
   refine RC.vV mixed [1,0,0,0,0,0,0,0,0,0,0,0,0,0,2,2,2,0] [0,1,2,3,4,5,6,7,8,9,10,11,12,13,14,15,16,17] ?_
   have j:=j.drew
   refine DP.e1 a3 zr (fun w=>RL.move a3 zt DP.d1) (DP.e0 zr (RL.aX zr n8 (aW zr (RL.aZ 5 j zr lu wR fun cf j=>(aW zr (mv (vi ad.2.2) (aW zr ?_)))))))
   obtain⟨av,b1,hj⟩:=bd hj
   refine RL.bO 0 j BL b1 fun cg j=>(aW zr (RL.dV 0 j zr tG nn fun ch j=>(aW zr (RL.bG av.Part 0 j yx (aW zr (RL.aX zr n8 (aW zr (RL.aZ 8 j zr lu wR fun cj j=>?_))))))))
   refine aW zr (mv (vi ad.2.2) (aW zr ?_))
   obtain⟨aw,b2,hj⟩:=bd hj
   refine RL.bO 0 j BL b2 fun ck j=>(aW zr (RL.dV 0 j zr wS ph fun cl j=>(aW zr (RL.bG aw.dB 0 j yx (aW zr ?_)))))
   have j:=(j.sc eI av.Part).sc eI aw.dB
   refine RL.build (⟨av.Part,aw.dB⟩:dB) trivial rfl j [(0,(str av.Part)),(1,(str aw.dB))] rfl Kh rfl (fun M hs g=>by have h:=HB M;exact cT.cons (f:=fun(x:dB) y=>{x with Part:=y}) h Ar (g.sat 1 _ rfl).1 fun _ h=>cT.cons (f:=fun(x:dB) y=>{x with dB:=y}) h As (g.sat 0 _ rfl).1 fun _ h=>cT.nil h) fun b3 j=>?_
   refine oZ zr (RL.dN ([(⟨av.Part,aw.dB⟩:dB)]: (List dB)) j [b3] GC HE (fun M hs g=>⟨(g.sat 0 _ zr).1,zt⟩) fun b4 w j=>(EI zr ?_))
   have j:=j.freeze 0
   refine RL.dN ([([(⟨av.Part,aw.dB⟩:dB)]: (List dB))]: (List (List dB))) j [b4] GF I4 (fun M hs g=>⟨(g.sat 0 _ zr).1,zt⟩) fun cm w j=>(EI zr ?_)
   have j:=j.freeze 0
   obtain⟨cn,b5,hj⟩:=bd hj
   refine RL.app 26 0 j I5 b5 fun bj w j=>?_
   refine rB zr (aP bj (DP.d0 (DP.z ?_)))
   obtain rfl:=oi hj
   exact⟨rfl,bj,j.sp 27 [16,11,19,20,21,22,23,24,18,25,26]⟩
  rintro _ w ⟨a4,O,rfl,j⟩
  refine bP (aH (RC.region (mv (vi ad.2.2) (RL.gk ad.2.2 1 (aP (vi (IntKind.wrap .i64 (ad.2.2+1))) (RL.nil ?_))))))
  obtain rfl:=oi hb
  exact⟨rfl,a2,a4,j.sp 11 [0,1,8,2,3,4,5,6,7,9,10]⟩
 ·intro r _ _ _ _
  exact r.elim
 rintro ad _ w rfl ⟨a8,au,O,rfl,j⟩
 rw [Fo.cZ] at hb
 refine aH (RC.sr (mv au (aP au (aP (vi 0) (RL.nt (RC.ret ?_))))))
 obtain rfl:=oi hb
 exact qK ⟨au,zr,j.pk 11 [10]⟩
def nG (E:World) (V:List HP) (r:Bool) (U:Nat->Value) (w:World):Prop:=lG bN 32 Tryz.f8 (aU E V r) .ret U w
theorem nu {p0: (List bQ)} {p1: (List bQ)} {p2:bQ->bQ->Option Bool} {res:Bool} (j:Holds E w V) (h0:V[i0]? =some (rd v0 p0)) (h1:V[i1]? =some (rd v1 p1)) (h2:Jt bN E V v2 p2 (fun(r:Bool)=>Value.bool r)) (o:fP N p0 p1 p2=some res):
    Calls bN 8 [v0,v1,v2].toArray w (gJ (aU E V res)):=by
 unfold fP at o
 refine enter Tryz.func8 zr zr ?_
 have j:=(j.dup (i0+0) h0).dup (i1+1) h1
 refine RC.sr (aP (vb false) (RL.nq (RC.sr (mv v0 (RL.bB 1 p0 j CK (mv v1 (RL.bB 0 p1 j CK (ic ((p0.length:Int)) ((p1.length:Int)) ?_))))))))
 refine RL.nt (dT o (fun hc o=>?_) fun hc o=>?_)
 ·refine RC.sr (aP (vb false) (RL.nt (RC.rt ?_)))
  obtain rfl:=oi o
  exact bY ⟨rfl,j.drop 2⟩
 refine RC.ss (RC.sr (mv v0 (RL.bB 1 p0 j CK (mv (vi 0) (RL.nt ?_)))))
 obtain⟨aq,hN,o⟩:=bd o
 refine RC.range (fun(aa:Nat) (ab:Unit)=>SH E V [(1,v1),(2,v2),(15,v0),(16,vi p0.length),(17,vi aa)] [rd v1 p1,rd v0 p0]) (fun(ab:Unit)=>SH E V [] [rd v1 p1,rd v0 p0]) (nG E V) hN ?_ ?_ ?_ ?_ ?_
 ·exact j.sp 2 [0,1]
 ·rintro hm ab _ w ⟨O,rfl,j⟩
  refine RC.sr (ic ((p0.length:Int)) ((p0.length:Int)) (RL.nq (RC.fu sA (RC.ex ?_))))
  exact⟨rfl,j.sp 2 [0,1]⟩
 ·rintro hm aa ab fl _ w hk ⟨O,rfl,j⟩ o
  refine RC.sr (ic ((aa:Int)) ((p0.length:Int)) (RL.nq (RC.eZ (sw hk) (RC.ss (RC.bs (mv (vi aa) ?_))))))
  obtain⟨ah,ai,o⟩:=bd o
  refine RL.bO 1 j uz ai fun au j=>(RL.bJ 0 ah j yK fun av j=>(RL.alloc j Gy.z fun aw w j=>?_))
  refine aP (vi aa) (RL.bZ 0 j 1 zr yK fun w j=>?_)
  refine RL.ns (mv v1 (mv (vi aa) ?_))
  obtain⟨aj,ak,o⟩:=bd o
  refine RL.bO 3 j uz ak fun ax j=>(RL.bJ 0 aj j yK fun ay j=>(RL.alloc j Gy.z fun az w j=>?_))
  refine RL.bZ 0 j 1 zr yK fun w j=>?_
  refine RL.ns (mv v2 (RL.aZ (f:=(fun x=>x)) 3 j zr Fd.self yK fun a0 j=>(RL.aZ (f:=(fun x=>x)) 1 j zr Fd.self yK fun a1 j=>?_)))
  obtain⟨al,an,o⟩:=bd o
  refine RL.ER 1 0 zr j zr h2 10 zr zr zr zr zr an fun w j=>(RL.not al (RL.nt (dT o (fun hc o=>?_) fun hc o=>?_)))
  rotate_left
  ·refine RC.skip (bP (aH (RC.region (RL.inc hk hm (mv (vi ((aa+1:Nat):Int)) (RL.nil ?_))))))
   obtain rfl:=oi o
   exact⟨rfl,j.sp 10 [8,9]⟩
  refine RC.sr (aP (vb false) (RL.nt (RC.rb (bR ?_))))
  obtain rfl:=oi o
  exact⟨rfl,bY ⟨rfl,j.drop 10⟩⟩
 ·intro r U w e hK
  subst e
  refine bR ?_
  obtain rfl:=oi o
  exact hK
 rintro ab _ w rfl ⟨O,rfl,j⟩
 rw [Fo.cZ] at o
 refine aH (RC.sr (aP (vb true) (RL.nt (RC.ret ?_))))
 obtain rfl:=oi o
 exact bY ⟨rfl,j.drop 2⟩
def w5 (E:World) (V:List HP) (r:Bool) (U:Nat->Value) (w:World):Prop:=lG bN 26 Tryz.f19 (aU E V r) .ret U w
theorem qe {p0: (List dB)} {p1: (List dB)} {res:Bool} (j:Holds E w V) (h0:V[i0]? =some (rd v0 p0)) (h1:V[i1]? =some (rd v1 p1)) (o:lr N p0 p1=some res):
    Calls bN 19 [v0,v1].toArray w (gJ (aU E V res)):=by
 unfold lr at o
 refine enter Tryz.func19 zr zr ?_
 have j:=(j.dup (i0+0) h0).dup (i1+1) h1
 refine RC.sr (aP (vb false) (RL.nq (RC.sr (mv v0 (RL.bB 1 p0 j HR (mv v1 (RL.bB 0 p1 j HR (ic ((p0.length:Int)) ((p1.length:Int)) ?_))))))))
 refine RL.nt (dT o (fun hc o=>?_) fun hc o=>?_)
 ·refine RC.sr (aP (vb false) (RL.nt (RC.rt ?_)))
  obtain rfl:=oi o
  exact bY ⟨rfl,j.drop 2⟩
 refine RC.ss (RC.sr (mv v0 (RL.bB 1 p0 j HR (mv (vi 0) (RL.nt ?_)))))
 obtain⟨an,hN,o⟩:=bd o
 refine RC.range (fun(aa:Nat) (ab:Unit)=>SH E V [(0,v0),(1,v1),(12,vi p0.length),(13,vi aa)] [rd v0 p0,rd v1 p1]) (fun(ab:Unit)=>SH E V [] [rd v0 p0,rd v1 p1]) (w5 E V) hN ?_ ?_ ?_ ?_ ?_
 ·exact j.sp 2 [1,0]
 ·rintro hm ab _ w ⟨O,rfl,j⟩
  refine RC.sr (ic ((p0.length:Int)) ((p0.length:Int)) (RL.nq (RC.fu sA (RC.ex ?_))))
  exact⟨rfl,j.sp 2 [0,1]⟩
 ·rintro hm aa ab fl _ w hk ⟨O,rfl,j⟩ o
  refine RC.sr (ic ((aa:Int)) ((p0.length:Int)) (RL.nq (RC.eZ (sw hk) (RC.ss (RC.bs (mv (vi aa) (aP (vi aa) (RL.nq ?_))))))))
  refine RC.zm mixed ?_
  have j:=j.drew
  refine RO.go (mv v0 (RO.nx (mv (vi aa) (RO.nx ?_))))
  obtain⟨ag,aj,o⟩:=bd o
  refine RL.bO 0 j GC aj fun aq j=>(RO.nx (RL.bJ 0 ag j I0 fun ar j=>(RO.nx (mv v1 (RO.nx (mv (vi aa) (RO.nx ?_)))))))
  obtain⟨ah,ak,o⟩:=bd o
  refine RL.bO 3 j GC ak fun au j=>(RO.nx (RL.bJ 0 ah j I0 fun av j=>(RO.nx (RL.Mg 2 0 ag ah zr j zr zr zr zr LX zr (RO.last (aH (dT o (fun hc o=>?_) fun hc o=>?_)))))))
  rotate_left
  ·refine RC.skip (bP (aH (RC.region (RL.inc hk hm (mv (vi ((aa+1:Nat):Int)) (RL.nil ?_))))))
   obtain rfl:=oi o
   exact⟨rfl,j.sp 6 [4,5]⟩
  refine RC.sr (aP (vb false) (RL.nt (RC.rb (bR ?_))))
  obtain rfl:=oi o
  exact⟨rfl,bY ⟨rfl,j.drop 6⟩⟩
 ·intro r U w e hK
  subst e
  refine bR ?_
  obtain rfl:=oi o
  exact hK
 rintro ab _ w rfl ⟨O,rfl,j⟩
 rw [Fo.cZ] at o
 refine aH (RC.sr (aP (vb true) (RL.nt (RC.ret ?_))))
 obtain rfl:=oi o
 exact bY ⟨rfl,j.drop 2⟩
theorem q9 {p0 p1:bQ} {res:Bool} (j:Holds E w V) (h0:V[i0]? =some (rd v0 p0)) (h1:V[i1]? =some (rd v1 p1)) (hb:gm N p0 p1=some res):
    Calls bN 9 [v0,v1].toArray w (gJ (aU E V res)):=by
 unfold gm at hb
 refine enter Tryz.func9 zr zr ?_
 have j:=(j.dup (i0+0) h0).dup (i1+1) h1
 refine RC.sr (RL.dD 1 v0 j zr fun av w j=>?_)
 refine RL.dD 1 v1 j zr fun aw w j=>?_
 refine aP (vb false) (RL.nq ?_)
 obtain⟨ae,o,hb⟩:=bd hb
 refine RC.jn (fun(ae:Bool)=>SH E V [(4,vb ae)] []) ae ?_ ?_
 ·refine RC.region (RL.aX zr qR (RL.aZ 1 j zr tE eV fun ah j=>(RL.aX zr qR (RL.aZ 1 j zr tE eV fun ai j=>?_))))
  obtain⟨aj,ak,o⟩:=bd o
  refine RL.call zt zr Ke [ah,ai] zr (aD (nE N (i0:=1) (i1:=0) j zr zr ak) ?_)
  rintro _ w ⟨rfl,j⟩
  refine mv (vb aj) (fA o (fun aa o=>?_) fun aa o=>?_)
  rotate_left
  ·refine bC aa (bC aa (bC aa (bC aa (bC aa (fB aa (vb false) (mv (vb false) (kc (kc ?_))))))))
   refine kc (kc (kc (RL.pick false (vb false) zr (aP (vb false) (RL.nil ?_)))))
   obtain rfl:=oi o
   exact⟨rfl,j.sp 6 []⟩
  refine RL.aX (hg:=(cg aa)) zr tI (RL.aZ (hg:=(cg aa)) 3 j zr wN eV fun al j=>(RL.aX (hg:=(cg aa)) zr tI (RL.aZ (hg:=(cg aa)) 3 j zr wN eV fun an j=>?_)))
  obtain⟨af,ao,o⟩:=bd o
  refine RL.call (cg aa) zr Ke [al,an] zr (aD (nE N (i0:=1) (i1:=0) j zr zr ao) ?_)
  rintro _ w ⟨rfl,j⟩
  refine fB aa (vb af) (mv (vb af) (fA o (fun ab o=>?_) fun ab o=>?_))
  rotate_left
  ·refine bC ab (bC ab (bC ab (bC ab (bC ab (fB ab (vb false) (aP (vb false) (RL.nil ?_)))))))
   obtain rfl:=oi o
   exact⟨rfl,j.sp 8 []⟩
  refine RL.aX (hg:=(cg ab)) zr r9 (RL.aZ (hg:=(cg ab)) 5 j zr pj zV fun aq j=>(RL.aX (hg:=(cg ab)) zr r9 (RL.aZ (hg:=(cg ab)) 5 j zr pj zV fun ar j=>?_)))
  obtain⟨ag,au,o⟩:=bd o
  refine RL.call (cg ab) zr LY [aq,ar] zr (aD (qe N (i0:=1) (i1:=0) j zr zr au) ?_)
  rintro _ w ⟨rfl,j⟩
  refine fB ab (vb ag) (aP (vb ag) (RL.nil ?_))
  obtain rfl:=oi o
  exact⟨rfl,j.sp 10 []⟩
 rintro _ w ⟨O,rfl,j⟩
 refine aH (RC.ret ?_)
 obtain rfl:=oi hb
 exact bY ⟨rfl,j.drop 0⟩
def pr (E:World) (V:List HP) (r:Bool) (U:Nat->Value) (w:World):Prop:=lG bN 32 Tryz.f10 (aU E V r) .ret U w
theorem o4 {p0: (List (List dB))} {p1: (List (List dB))} {p2: (List dB)->(List dB)->Option Bool} {res:Bool} (j:Holds E w V) (h0:V[i0]? =some (rd v0 p0)) (h1:V[i1]? =some (rd v1 p1)) (h2:Jt bN E V v2 p2 (fun(r:Bool)=>Value.bool r)) (o:ij N p0 p1 p2=some res):
    Calls bN 10 [v0,v1,v2].toArray w (gJ (aU E V res)):=by
 unfold ij at o
 refine enter Tryz.func10 zr zr ?_
 have j:=(j.dup (i0+0) h0).dup (i1+1) h1
 refine RC.sr (aP (vb false) (RL.nq (RC.sr (mv v0 (RL.bB 1 p0 j Ku (mv v1 (RL.bB 0 p1 j Ku (ic ((p0.length:Int)) ((p1.length:Int)) ?_))))))))
 refine RL.nt (dT o (fun hc o=>?_) fun hc o=>?_)
 ·refine RC.sr (aP (vb false) (RL.nt (RC.rt ?_)))
  obtain rfl:=oi o
  exact bY ⟨rfl,j.drop 2⟩
 refine RC.ss (RC.sr (mv v0 (RL.bB 1 p0 j Ku (mv (vi 0) (RL.nt ?_)))))
 obtain⟨au,hN,o⟩:=bd o
 refine RC.range (fun(aa:Nat) (ab:Unit)=>SH E V [(1,v1),(2,v2),(15,v0),(16,vi p0.length),(17,vi aa)] [rd v1 p1,rd v0 p0]) (fun(ab:Unit)=>SH E V [] [rd v1 p1,rd v0 p0]) (pr E V) hN ?_ ?_ ?_ ?_ ?_
 ·exact j.sp 2 [0,1]
 ·rintro hm ab _ w ⟨O,rfl,j⟩
  refine RC.sr (ic ((p0.length:Int)) ((p0.length:Int)) (RL.nq (RC.fu sA (RC.ex ?_))))
  exact⟨rfl,j.sp 2 [0,1]⟩
 ·rintro hm aa ab fl _ w hk ⟨O,rfl,j⟩ o
  refine RC.sr (ic ((aa:Int)) ((p0.length:Int)) (RL.nq (RC.eZ (sw hk) (RC.ss (RC.bs (mv (vi aa) ?_))))))
  obtain⟨aj,ak,o⟩:=bd o
  refine RL.bO 1 j GF ak fun aw j=>(RL.bJ 0 aj j zV fun ag j=>(aP (vi aa) (aP ag (RL.ns (mv v1 (mv (vi aa) ?_))))))
  obtain⟨al,an,o⟩:=bd o
  refine RL.bO 2 j GF an fun ax j=>(RL.bJ 0 al j zV fun ah j=>(aP ah (RL.ns (mv v2 (mv ag (mv ah ?_))))))
  obtain⟨ao,aq,o⟩:=bd o
  refine RL.ER 2 0 zr j zr h2 6 zr zr zr zr zr aq fun w j=>(RL.not ao (RL.nt (dT o (fun hc o=>?_) fun hc o=>?_)))
  rotate_left
  ·refine RC.skip (bP (aH (RC.region (RL.inc hk hm (mv (vi ((aa+1:Nat):Int)) (RL.nil ?_))))))
   obtain rfl:=oi o
   exact⟨rfl,j.sp 6 [4,5]⟩
  refine RC.sr (aP (vb false) (RL.nt (RC.rb (bR ?_))))
  obtain rfl:=oi o
  exact⟨rfl,bY ⟨rfl,j.drop 6⟩⟩
 ·intro r U w e hK
  subst e
  refine bR ?_
  obtain rfl:=oi o
  exact hK
 rintro ab _ w rfl ⟨O,rfl,j⟩
 rw [Fo.cZ] at o
 refine aH (RC.sr (aP (vb true) (RL.nt (RC.ret ?_))))
 obtain rfl:=oi o
 exact bY ⟨rfl,j.drop 2⟩
theorem rK {p0: (List dB)} {p1: (List dB)} {res:Bool} (j:Holds E w V) (h0:V[i0]? =some (rd v0 p0)) (h1:V[i1]? =some (rd v1 p1)) (o:gH N p0 p1=some res):
    Calls bN 11 [v0,v1].toArray w (gJ (aU E V res)):=by
 unfold gH at o
 refine enter Tryz.func11 zr zr ?_
 have j:=(j.dup (i0+0) h0).dup (i1+1) h1
 refine RC.sr (aP (vb false) (RL.ns (mv v0 (mv v1 ?_))))
 obtain⟨aa,ab,o⟩:=bd o
 refine RL.call zt zr LY [v0,v1] zr (aD (qe N (i0:=1) (i1:=0) j zr zr ab) ?_)
 rintro _ w ⟨rfl,j⟩
 refine aP (vb aa) (RL.nt (RC.ret ?_))
 obtain rfl:=oi o
 exact bY ⟨rfl,j.drop 2⟩
theorem tT {res:Bool} (o:Holds E w V) (hb:i9 N=some res):
    Calls bN 12 [].toArray w (gJ (aU E V res)):=by
 unfold i9 at hb
 refine enter Tryz.func12 zr zr (RC.sr (aP (vb false) (RL.ns ?_)))
 have o:=o.sc Int 2
 refine RL.build (⟨⟨0,0⟩,2,0,0,false⟩:cA) trivial rfl o [(1,vi 2)] rfl Ns rfl (fun M hs g=>by have h:=Kd M;exact cT.cons (f:=fun(x:cA) y=>{x with dG:=y}) h Gs (g.sat 0 _ rfl).1 fun _ h=>cT.nil h) fun ah o=>?_
 obtain⟨aa,ai,hb⟩:=bd hb
 refine RL.call zt zr Lb [ah] zr (aD (sL N (i0:=0) o zr ai) ?_)
 rintro _ w ⟨ag,rfl,o⟩
 refine mv (.tuple #[ag,(vi aa.2)]) (RL.extract ag (RL.extract (vi aa.2) (RL.alloc o oR.z fun aj w o=>?_)))
 refine RL.bZ 0 o 1 zr iK fun w o=>?_
 refine aP (vi aa.2) (RL.nq ?_)
 obtain⟨af,hj,hb⟩:=bd hb
 refine RC.jn (fun(af:Bool)=>SH E V [(0,vb af)] []) af ?_ ?_
 ·refine RC.region (mv (vi aa.2) (ic aa.2 0 (mv (vb (aa.2==0)) (fA hj (fun ab hj=>?_) fun ab hj=>?_))))
  rotate_left
  ·refine bC ab (bC ab (bC ab (fB ab (vb false) (aP (vb false) (RL.nil ?_)))))
   obtain rfl:=oi hj
   exact⟨rfl,o.sp 4 []⟩
  refine RL.aZ (hg:=(cg ab)) (f:=(fun x=>x)) 0 o zr Fd.self iK fun ak o=>?_
  have o:=(((o.sc Int (-1)).sc Int (-1)).sc Int 1).sc Int 1
  refine RL.build (⟨(-1),(-1),1,1⟩:aI) (cg ab) rfl o [(0,(vi (-1))),(1,(vi (-1))),(2,vi 1),(3,vi 1)] rfl DV rfl (fun M hs g=>by have h:=tF M;exact cT.cons (f:=fun(x:aI) y=>{x with X0:=y}) h pf (g.sat 3 _ rfl).1 fun _ h=>cT.cons (f:=fun(x:aI) y=>{x with Y0:=y}) h qC (g.sat 2 _ rfl).1 fun _ h=>cT.cons (f:=fun(x:aI) y=>{x with X1:=y}) h pg (g.sat 1 _ rfl).1 fun _ h=>cT.cons (f:=fun(x:aI) y=>{x with Y1:=y}) h qD (g.sat 0 _ rfl).1 fun _ h=>cT.nil h) fun al o=>?_
  refine RL.seq (i:=5) (j:=0) (a:=aa.1) (b:=(⟨(-1),(-1),1,1⟩:aI)) (cg ab) zr o zr zr zr zr HD zr (fB ab (vb (decide (aa.1= (⟨(-1),(-1),1,1⟩:aI)))) (aP (vb (decide (aa.1= (⟨(-1),(-1),1,1⟩:aI)))) (RL.nil ?_)))
  obtain rfl:=oi hj
  exact⟨rfl,o.sp 10 []⟩
 rintro _ w ⟨O,rfl,o⟩
 refine aH (RC.ret ?_)
 obtain rfl:=oi hb
 exact bY ⟨rfl,o.drop 0⟩
theorem oX {p0:kY} {res:Bool} (o:Holds E w V) (h0:V[i0]? =some (rd v0 p0)) (hb:gU N p0=some res):
    Calls bN 3 [v0].toArray w (gJ (aU E V res)):=by
 unfold gU at hb
 refine enter Tryz.func3 zr zr ?_
 have o:=o.dup (i0+0) h0
 refine RC.sr (RL.dD 0 v0 o zr fun a6 w o=>?_)
 refine aP (vb false) (RL.ns (RL.aZ (f:=(fun x=>x)) 0 o zr Fd.self ux fun av o=>?_))
 obtain⟨ad,aw,hb⟩:=bd hb
 refine RL.call zt zr NT [av] zr (aD (yR N (i0:=0) o zr aw) ?_)
 rintro _ w ⟨ak,rfl,o⟩
 refine mv (.tuple #[ak,(vi ad.2)]) (RL.extract ak (RL.extract (vi ad.2) (aP ak (aP (vi ad.2) (RL.ns (RL.aZ (f:=(fun x=>x)) 2 o zr Fd.self ux fun ax o=>?_))))))
 obtain⟨ae,ay,hb⟩:=bd hb
 refine RL.call zt zr NU [ax] zr (aD (sV N (i0:=0) o zr ay) ?_)
 rintro _ w ⟨al,rfl,o⟩
 refine mv (.tuple #[al,(vi ae.2)]) (RL.extract al (RL.extract (vi ae.2) (aP al (aP (vi ae.2) (RL.ns (RL.aZ (f:=(fun x=>x)) 4 o zr Fd.self ux fun az o=>?_))))))
 obtain⟨af,a0,hb⟩:=bd hb
 refine RL.call zt zr NV [az] zr (aD (AH N (i0:=0) o zr a0) ?_)
 rintro _ w ⟨an,rfl,o⟩
 refine mv (.tuple #[an,(vi af.2)]) (RL.extract an (RL.extract (vi af.2) (aP an (aP (vi af.2) (RL.ns (RL.aZ (f:=(fun x=>x)) 6 o zr Fd.self ux fun a1 o=>?_))))))
 obtain⟨ag,a2,hb⟩:=bd hb
 refine RL.call zt zr NW [a1] zr (aD (uJ N (i0:=0) o zr a2) ?_)
 rintro _ w ⟨ao,rfl,o⟩
 refine mv (.tuple #[ao,(vi ag.2)]) (RL.extract ao (RL.extract (vi ag.2) (aP ao (aP (vi ag.2) (RL.nq ?_)))))
 obtain⟨ar,hj,hb⟩:=bd hb
 refine RC.jn (fun(ar:Bool)=>SH E V [(2,vb ar)] []) ar ?_ ?_
 ·refine RC.region (mv ak (mv al ?_))
  have o:=(o.freeze 6).freeze 4
  obtain⟨ai,a3,hj⟩:=bd hj
  refine RL.call trivial rfl NY [ak,al,(.func (.func 9) #[] #[])] rfl (aD (nu N (i0:=6) (i1:=4) o rfl rfl ⟨9,[],rfl,NX,fun w Γl v v' y0 y1 r i j o hi hj hr=>by exact aD (q9 N (i0:=i) (i1:=j) o hi hj hr) fun _ _ h=>h⟩ a3) ?_)
  rintro _ w ⟨rfl,o⟩
  refine mv (vb ai) (RL.gs true ai (vi ad.2) rfl rfl rfl cH (RL.gs true ai (vi ae.2) rfl rfl rfl cH (RL.gs true ai (vb (ad.2==ae.2)) rfl rfl rfl (dK .eql .i64 ad.2 ae.2 rfl (fun h=>by exact(cM h:cv (true&&(ai==true)) (vi ad.2)= (vi ad.2))) (fun h=>by exact(cM h:cv (true&&(ai==true)) (vi ae.2)= (vi ae.2))) rfl) (RL.pick ai (vb (ai&&(ad.2==ae.2))) (gr true rfl) (mv (vb (ai&&(ad.2==ae.2))) (fA hj (fun aj hj=>?_) fun aj hj=>?_))))))
  rotate_left
  ·refine bC aj (bC aj (bC aj (fB aj (vb false) (mv (vb false) (kc (kc (kc (RL.pick false (vb false) zr ?_))))))))
   refine mv (vb false) (kc (RL.pick false (vb false) zr (aP (vb false) (RL.nil ?_))))
   obtain rfl:=oi hj
   exact⟨rfl,o.sp 10 []⟩
  refine RL.move an (cg aj) (RL.move ao (cg aj) ?_)
  have o:=(o.freeze 2).freeze 0
  obtain⟨ah,a4,hj⟩:=bd hj
  refine RL.call (cg aj) rfl Nr [an,ao,(.func (.func 11) #[] #[])] rfl (aD (o4 N (i0:=2) (i1:=0) o rfl rfl ⟨11,[],rfl,Nq,fun w Γl v v' y0 y1 r i j o hi hj hr=>by exact aD (rK N (i0:=i) (i1:=j) o hi hj hr) fun _ _ h=>h⟩ a4) ?_)
  rintro _ w ⟨rfl,o⟩
  refine fB aj (vb ah) (mv (vb ah) (RL.gs true ah (vi af.2) rfl rfl rfl cH (RL.gs true ah (vi ag.2) rfl rfl rfl cH (RL.gs true ah (vb (af.2==ag.2)) rfl rfl rfl (dK .eql .i64 af.2 ag.2 rfl (fun h=>by exact(cM h:cv (true&&(ah==true)) (vi af.2)= (vi af.2))) (fun h=>by exact(cM h:cv (true&&(ah==true)) (vi ag.2)= (vi ag.2))) rfl) (RL.pick ah (vb (ah&&(af.2==ag.2))) (gr true rfl) (mv (vb (ah&&(af.2==ag.2))) (fA hj (fun aq hj=>?_) fun aq hj=>?_)))))))
  rotate_left
  ·refine bC aq (fB aq (vb false) (aP (vb false) (RL.nil ?_)))
   obtain rfl:=oi hj
   exact⟨rfl,o.sp 10 []⟩
  obtain⟨au,a5,hj⟩:=bd hj
  refine RL.call (cg aq) zr Nt [] zr (aD (tT N o a5) ?_)
  rintro _ w ⟨rfl,o⟩
  refine fB aq (vb au) (aP (vb au) (RL.nil ?_))
  obtain rfl:=oi hj
  exact⟨rfl,o.sp 10 []⟩
 rintro _ w ⟨O,rfl,o⟩
 refine aH (RC.ret ?_)
 obtain rfl:=oi hb
 exact bY ⟨rfl,o.drop 0⟩
end Go.Gk
