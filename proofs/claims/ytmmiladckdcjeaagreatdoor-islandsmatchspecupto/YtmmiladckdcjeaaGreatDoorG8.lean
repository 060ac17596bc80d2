/-
  Printed texts: Go functions as plain functions, and that they are. No statement of the seed is proved here.
-/
import Derived.Test.YtmmiladckdcjeaaGreatDoorG1
import Derived.Test.YtmmiladckdcjeaaGreatDoorG2
import Derived.Test.YtmmiladckdcjeaaGreatDoorG4
import Derived.Test.YtmmiladckdcjeaaGreatDoorG5
import Derived.Test.YtmmiladckdcjeaaGreatDoorG6
import Derived.Test.YtmmiladckdcjeaaGreatDoorG7
import Derived.Test.YtmmiladckdcjeaaGreatDoorA2
set_option linter.unusedVariables false
set_option linter.unusedSimpArgs false
set_option linter.unusedSectionVars false
set_option maxRecDepth 100000
set_option maxHeartbeats 4000000
namespace Go.Gk
open Go Go.Proofs
variable (N:Nat) {E w:World} {b0 i0:Nat} {v0 v0_0 v0_1 v0_2 v0_3 v0_4 v0_5 v0_7:Value} {V:List HP}
def oe (E:World) (V:List HP) (b0:Nat) (v0_0 v0_1:Value) (v0_2 v0_3:Value) (v0_4 v0_5 v0_7:Value) (res: (List cC)) (v:Value) (w:World):Prop:=∃u0_6:Value,v = .tuple #[]/\Holds E w ([bc 52 b0 [v0_0,v0_1,v0_2,v0_3,v0_4,v0_5,u0_6,v0_7],own 47 u0_6 res]++V)
theorem nO {p0_2: (List cE)} {p0_3: (List fW)} {p0_4: (List Int)} {p0_5: (List (List aI))} {p0_7: (List (List Int))} {res: (List cC)} (o:Holds E w (bc 52 b0 [v0_0,v0_1,v0_2,v0_3,v0_4,v0_5,(.slice none 0 0),v0_7]::rd v0_2 p0_2::rd v0_3 p0_3::rd v0_4 p0_4::rd v0_5 p0_5::rd v0_7 p0_7::V)) (hb:eR N p0_2 p0_3 p0_4 p0_5 p0_7=some res):
    Calls bO 31 [(vp b0 0)].toArray w (gW (oe E V b0 v0_0 v0_1 v0_2 v0_3 v0_4 v0_5 v0_7 res)):=by
 unfold eR at hb
 refine enter Tryz.func31 zr zr (RC.sr (mv (vp b0 0) (RL.nilCheck zr (RL.aX zr uv (RL.bI 0 v0_5 o pB (RL.bA 4 p0_5 o qw ?_))))))
 obtain⟨ck,b4,hb⟩:=bd hb
 refine RL.mk (p0_5.length:Int) o Hb MK b4 fun ay w o=>?_
 refine aQ ay (RL.nq (RC.sr (aQ (vi 0) (RL.nt ?_))))
 obtain⟨cl,hN,hb⟩:=bd hb
 refine RC.iter (fun(av: (List cC)×(List Bool)×Int) U w=>∃(br:Value) (us76:List aT),SH E V [(0,vp b0 0),(2,ay),(3,vi av.2.2)] [bc 52 b0 [v0_0,v0_1,v0_2,v0_3,v0_4,v0_5,br,v0_7],own 47 br us76,iu aU us76 av.1 none,rd v0_2 p0_2,rd v0_3 p0_3,rd v0_4 p0_4,rd v0_5 p0_5,rd v0_7 p0_7,own 4 ay av.2.1] U w) (fun(av: (List cC)×(List Bool)×Int) U w=>∃(a9:Value) (us78:List aT),SH E V [(0,vp b0 0)] [bc 52 b0 [v0_0,v0_1,v0_2,v0_3,v0_4,v0_5,a9,v0_7],own 47 a9 us78,iu aU us78 av.1 none,rd v0_2 p0_2,rd v0_3 p0_3,rd v0_4 p0_4,rd v0_5 p0_5,rd v0_7 p0_7,own 4 ay av.2.1] U w) (fun(r:Empty) _ _=>r.elim) hN ?_ ?_ ?_ ?_
 ·have o:=(o.zq aU).cO aT 47
  exact⟨(.slice none 0 0),([]:List aT),o.sp 9 [3,0,1,4,5,6,7,8,2]⟩
 ·rintro av fl _ w ⟨a5,us80,O,rfl,o⟩ hb
  refine RC.seq (RC.sr (mv (vi av.2.2) (mv (vp b0 0) (RL.nilCheck zr (RL.aX zr uv (RL.bI 0 v0_5 o pB (RL.bA 6 p0_5 o qw (ic av.2.2 ((p0_5.length:Int)) ?_))))))))
  refine RL.nt (dU hb (fun hc hb=>?_) fun hc hb=>?_)
  rotate_left
  ·refine RC.ex ?_
   obtain rfl:=oi hb
   exact⟨rfl,a5,us80,o.sp 9 [0,1,2,3,4,5,6,7,8]⟩
  refine RC.ss (RC.bs (mv ay (mv (vi av.2.2) ?_)))
  obtain⟨b5,bl,hb⟩:=bd hb
  refine RL.bQ 8 o zr zr vM bl (RL.dQ (f:=(fun x=>x)) 8 o (jg 8 o bl 0) (bF bl).2.1 Fd.self AR (RL.not b5 (RL.nt ?_)))
  obtain⟨ba,hj,hb⟩:=bd hb
  refine RC.jn (fun(ba: (List cC)×(List Bool)) U w=>∃(bb:Value) (us91:List aT),SH E V [(0,vp b0 0),(2,ay),(3,vi av.2.2)] [bc 52 b0 [v0_0,v0_1,v0_2,v0_3,v0_4,v0_5,bb,v0_7],own 47 bb us91,iu aU us91 ba.1 none,rd v0_2 p0_2,rd v0_3 p0_3,rd v0_4 p0_4,rd v0_5 p0_5,rd v0_7 p0_7,own 4 ay ba.2] U w) ba ?_ ?_
  ·refine dU hj (fun hc hj=>?_) fun hc hj=>?_
   rotate_left
   ·refine RC.skip ?_
    obtain rfl:=oi hj
    exact⟨rfl,a5,us80,o.sp 9 [0,1,2,3,4,5,6,7,8]⟩
   have o:=o.drew
   refine RC.Et (fun w=>Holds E w ([bc 52 b0 [v0_0,v0_1,v0_2,v0_3,v0_4,v0_5,a5,v0_7]]++V)) mixed zr [1,1,1,1,1,0,0,0,2,2,2,0,0,2] [0,1,2,3,4,5,6,7,8,9,10,11,12,13] (o.pk 9 [0]) (DP.e1 (vp b0 0) zr (fun w=>RL.move (vp b0 0) zt DP.d1) (DP.e1 (vp b0 0) zr (fun w=>RL.move (vp b0 0) zt DP.d1) (DP.e1 (vp b0 0) zr (fun w=>RL.nilCheck zr DP.d1) (DP.e1 (vp b0 6) zr (fun w=>RL.aX zr oC DP.d1) (DP.Ic a5 zr (fun w o=>RL.bI 0 a5 o rC DP.d1) (DP.e0 zr (mv (vp b0 0) (aZ zr ?_))))))))
   refine mv (vi av.2.2) (aZ zr (mv ay (pP zr ?_)))
   have o:=((o.pull 8).dup 8 rfl).pull 2
   obtain⟨aw,b6,hj⟩:=bd hj
   refine RL.call zt zr MP [(vp b0 0),(vi av.2.2),ay] zr (aD (pq N (p1:=av.2.2) o b6) ?_)
   rintro _ w ⟨bm,bf,a0,rfl,o⟩
   refine DP.d2 (o.pk 14 [3]) (DP.e2 zr ?_)
   have o:=(o.Bj (i:=2) rfl).Ek (cs:=[bm,bf,a0]) (x:=(⟨aw.1.1,aw.1.2.1,(rv a0)⟩:aT)) (fun M hs g=>⟨[bm],[bf,a0],rfl,(ru (g.sat 1 _ rfl).1),⟨[bf],[a0],rfl,(ru (g.sat 2 _ rfl).1),(ru (g.sat 0 _ rfl).1)⟩⟩) rfl
   refine RL.dR ([(⟨aw.1.1,aw.1.2.1,(rv a0)⟩:aT)]:List aT) o [(.agg ([bm,bf,a0]:List Value).toArray)] xc JL (fun M hs g=>⟨(g.sat 0 _ zr).1,zt⟩) fun cm w o=>(DP.d2 (o.pk 17 [6]) (DP.e2 zr ?_))
   obtain⟨cn,b7,hj⟩:=bd hj
   have o:=o.freeze 0
   refine RL.xX 9 0 10 5 aU (⟨aw.1.1,aw.1.2.1,(rv a0)⟩:aT) (⟨aw.1.1,aw.1.2.1,aw.1.2.2⟩:cC) a0 aw.1.2.2 (fun _ _ ho=>⟨⟨rfl,zr⟩,ho⟩) zr o zr zr zr zr zr zr JM b7 fun bu w o=>?_
   refine DP.d2 (o.pk 17 [6]) (DP.e0 zr (RL.nilCheck zr (aZ zr (RL.aX zr oC (DP.d0 (DP.LF zr zr (RL.iw 6 bu o zr zr (iM 9 o) rC fun w o=>?_)))))))
   refine DP.d2 zt (DP.z ?_)
   obtain rfl:=oi hj
   exact⟨rfl,bu,(us80++[(⟨aw.1.1,aw.1.2.1,(rv a0)⟩:aT)]),o.sp 17 [6,9,10,11,12,13,14,15,7]⟩
  rintro _ w ⟨bb,us91,O,rfl,o⟩
  refine bM (aH (RC.region (mv (vi av.2.2) (RL.gl av.2.2 1 (aQ (vi (IntKind.wrap .i64 (av.2.2+1))) (RL.nil ?_))))))
  obtain rfl:=oi hb
  exact⟨rfl,bb,us91,o.sp 9 [0,1,2,3,4,5,6,7,8]⟩
 ·intro r _ _ _ _
  exact r.elim
 rintro av _ w rfl ⟨a9,us78,O,rfl,o⟩
 rw [Fo.dA] at hb
 refine aH (RC.seq (RC.sr (aQ (vi 0) (RL.nt ?_))))
 obtain⟨cp,hN,hb⟩:=bd hb
 refine RC.iter (fun(aq: (List cC)×Int) U w=>∃(bw:Value) (us164:List aT),SH E V [(0,vp b0 0),(4,vi aq.2)] [bc 52 b0 [v0_0,v0_1,v0_2,v0_3,v0_4,v0_5,bw,v0_7],own 47 bw us164,iu aU us164 aq.1 none,rd v0_2 p0_2,rd v0_3 p0_3,rd v0_4 p0_4,rd v0_5 p0_5,rd v0_7 p0_7] U w) (fun(aq: (List cC)×Int) U w=>∃(ao:Value) (us166:List aT),SH E V [(0,vp b0 0)] [bc 52 b0 [v0_0,v0_1,v0_2,v0_3,v0_4,v0_5,ao,v0_7],own 47 ao us166,iu aU us166 aq.1 none,rd v0_2 p0_2,rd v0_3 p0_3,rd v0_4 p0_4,rd v0_5 p0_5,rd v0_7 p0_7] U w) (fun(r:Empty) _ _=>r.elim) hN ?_ ?_ ?_ ?_
 ·exact⟨a9,us78,o.sp 9 [0,1,2,3,4,5,6,7]⟩
 ·rintro aq fl _ w ⟨a6,us168,O,rfl,o⟩ hb
  refine RC.seq (RC.sr (mv (vi aq.2) (mv (vp b0 0) (RL.nilCheck zr (RL.aX zr rD (RL.bI 0 v0_7 o w9 (RL.bA 7 p0_7 o FR (ic aq.2 ((p0_7.length:Int)) ?_))))))))
  refine RL.nt (dU hb (fun hc hb=>?_) fun hc hb=>?_)
  rotate_left
  ·refine RC.ex ?_
   obtain rfl:=oi hb
   exact⟨rfl,a6,us168,o.sp 8 [0,1,2,3,4,5,6,7]⟩
  refine RC.ss (RC.block (RC.seq ?_))
  obtain⟨bn,hj,hb⟩:=bd hb
  refine RC.jn (fun(bn:Bool)=>SH E V [(0,vp b0 0),(4,vi aq.2),(69,vb bn)] [bc 52 b0 [v0_0,v0_1,v0_2,v0_3,v0_4,v0_5,a6,v0_7],rd v0_2 p0_2,rd v0_3 p0_3,rd v0_4 p0_4,rd v0_5 p0_5,own 47 a6 us168,iu aU us168 aq.1 none,rd v0_7 p0_7]) bn ?_ ?_
  ·refine RC.region (mv (vp b0 0) (RL.nilCheck zr (RL.aX zr we (RL.aX zr gK (RL.bI 0 v0_2 o mZ (mv (vi aq.2) ?_))))))
   obtain⟨bz,b8,hj⟩:=bd hj
   refine RL.bP 3 o pE b8 fun cq o=>(RL.dX 0 o zr uq nT fun cr o=>(RL.bD bz.eH 0 o AR (mv (vb bz.eH) (fC hj (fun au hj=>?_) fun au hj=>?_))))
   rotate_left
   ·refine bG au (bG au (bG au (bG au (bG au (bG au (bG au (bG au (bG au ?_))))))))
    refine fL au (vb false) (RL.nil ?_)
    obtain rfl:=oi hj
    exact⟨rfl,o.sp 10 [2,5,6,7,8,3,4,9]⟩
   refine RL.move (vp b0 0) (cg au) (RL.nilCheck (hg:=(cg au)) zr (RL.aX (hg:=(cg au)) zr rD (RL.bI (hg:=(cg au)) 2 v0_7 o w9 (RL.move (vi aq.2) (cg au) ?_))))
   obtain⟨bg,b9,hj⟩:=bd hj
   refine RL.bP (hg:=(cg au)) 9 o yd b9 fun ct o=>(RL.bL (hg:=(cg au)) 0 bg o eY fun cu o=>(RL.bA (hg:=(cg au)) 0 bg o ly (RL.kD (bg.length:Int) 0 (cg au) (fL au (vb ((bg.length:Int)==0)) (RL.nil ?_)))))
   obtain rfl:=oi hj
   exact⟨rfl,o.sp 12 [4,7,8,9,10,5,6,11]⟩
  rintro _ w ⟨O,rfl,o⟩
  refine aH ?_
  obtain⟨bo,hj,hb⟩:=bd hb
  refine RC.jn (fun(bo: (List cC)) U w=>∃(bh:Value) (us193:List aT),SH E V [(0,vp b0 0),(4,vi aq.2)] [bc 52 b0 [v0_0,v0_1,v0_2,v0_3,v0_4,v0_5,bh,v0_7],own 47 bh us193,iu aU us193 bo none,rd v0_2 p0_2,rd v0_3 p0_3,rd v0_4 p0_4,rd v0_5 p0_5,rd v0_7 p0_7] U w) bo ?_ ?_
  ·refine dU hj (fun hc hj=>?_) fun hc hj=>?_
   rotate_left
   ·refine RC.skip ?_
    obtain rfl:=oi hj
    exact⟨rfl,a6,us168,o.sp 8 [0,5,6,1,2,3,4,7]⟩
   refine RC.region (mv (vp b0 0) (mv (vp b0 0) (RL.nilCheck zr (RL.aX zr oC (RL.bI 0 a6 o rC (mv (vi aq.2) ?_))))))
   have o:=o.sc Int aq.2
   refine RL.dR ([aq.2]: (List Int)) o [(vi aq.2)] dW A1 (fun M hs g=>⟨(g.sat 0 _ zr).1,zt⟩) fun a3 w o=>(RL.Ej [(.slice none 0 0),(.slice none 0 0),(.slice none 0 0)] [(.slice none 0 0),a3,(.slice none 0 0)] zr [(1,a3)] zr Lh ⟨(iM 0 o),zt⟩ zr ?_)
   have o:=((((o.cO fD 83).Bj (i:=0) rfl).t8 Int).freeze 3).Ek (cs:=[(.slice none 0 0),a3,(.slice none 0 0)]) (x:=(⟨([]: (List Int)),([aq.2]: (List Int)),(rv (.slice none 0 0))⟩:aT)) (fun M hs g=>⟨[(.slice none 0 0)],[a3,(.slice none 0 0)],rfl,(ru (g.sat 0 _ rfl).1),⟨[a3],[(.slice none 0 0)],rfl,(ru (g.sat 3 _ rfl).1),(ru (g.sat 1 _ rfl).1)⟩⟩) rfl
   refine RL.dR ([(⟨([]: (List Int)),([aq.2]: (List Int)),(rv (.slice none 0 0))⟩:aT)]:List aT) o [(.agg ([(.slice none 0 0),a3,(.slice none 0 0)]:List Value).toArray)] xc JL (fun M hs g=>⟨(g.sat 0 _ zr).1,zt⟩) fun cv w o=>?_
   obtain⟨cw,ca,hj⟩:=bd hj
   have o:=o.freeze 0
   refine RL.xX 12 0 13 4 aU (⟨([]: (List Int)),([aq.2]: (List Int)),(rv (.slice none 0 0))⟩:aT) (⟨([]: (List Int)),([aq.2]: (List Int)),([]: (List fD))⟩:cC) (.slice none 0 0) ([]: (List fD)) (fun _ _ ho=>⟨⟨rfl,zr⟩,ho⟩) zr o zr zr zr zr zr zr JM ca fun b1 w o=>?_
   refine RL.nilCheck zr (RL.aX zr oC (RL.iw 7 b1 o zr zr (iM 12 o) rC fun w o=>?_))
   refine RL.nil ?_
   obtain rfl:=oi hj
   exact⟨rfl,b1,(us168++[(⟨([]: (List Int)),([aq.2]: (List Int)),(rv (.slice none 0 0))⟩:aT)]),o.sp 15 [7,12,13,8,9,10,11,14]⟩
  rintro _ w ⟨bh,us193,O,rfl,o⟩
  refine bM (aH (RC.region (mv (vi aq.2) (RL.gl aq.2 1 (aQ (vi (IntKind.wrap .i64 (aq.2+1))) (RL.nil ?_))))))
  obtain rfl:=oi hb
  exact⟨rfl,bh,us193,o.sp 8 [0,1,2,3,4,5,6,7]⟩
 ·intro r _ _ _ _
  exact r.elim
 rintro aq _ w rfl ⟨ao,us166,O,rfl,o⟩
 rw [Fo.dA] at hb
 refine aH (RC.sr (aQ (vi 0) (RL.nt ?_)))
 obtain⟨cx,hN,hb⟩:=bd hb
 refine RC.iter (fun(aj: (List cC)×Int) U w=>∃(us350:List aT),SH E V [(0,vp b0 0),(5,vi aj.2)] [bc 52 b0 [v0_0,v0_1,v0_2,v0_3,v0_4,v0_5,ao,v0_7],rd v0_2 p0_2,rd v0_3 p0_3,rd v0_4 p0_4,rd v0_5 p0_5,own 47 ao us350,iu aU us350 aj.1 none,rd v0_7 p0_7] U w) (fun(aj: (List cC)×Int) U w=>∃(us351:List aT),SH E V [(0,vp b0 0)] [bc 52 b0 [v0_0,v0_1,v0_2,v0_3,v0_4,v0_5,ao,v0_7],rd v0_2 p0_2,rd v0_3 p0_3,rd v0_4 p0_4,rd v0_5 p0_5,own 47 ao us351,iu aU us351 aj.1 none,rd v0_7 p0_7] U w) (fun(r:Empty) _ _=>r.elim) hN ?_ ?_ ?_ ?_
 ·exact⟨us166,o.sp 8 [0,3,4,5,6,1,2,7]⟩
 ·rintro aj fl _ w ⟨us352,O,rfl,o⟩ hb
  refine RC.seq (RC.sr (mv (vi aj.2) (mv (vp b0 0) (RL.nilCheck zr (RL.aX zr we (RL.aX zr rB (RL.bI 0 v0_3 o A2 (RL.bA 2 p0_3 o FO ?_))))))))
  refine ic aj.2 ((p0_3.length:Int)) (RL.nt (dU hb (fun hc hb=>?_) fun hc hb=>?_))
  rotate_left
  ·refine RC.ex ?_
   obtain rfl:=oi hb
   exact⟨rfl,us352,o.sp 8 [0,1,2,3,4,5,6,7]⟩
  refine RC.ss (RC.bs (mv (vp b0 0) (RL.nilCheck zr (RL.aX zr we (RL.aX zr rB (RL.bI 0 v0_3 o A2 (mv (vi aj.2) ?_)))))))
  obtain⟨ar,cb,hb⟩:=bd hb
  refine RL.bP 2 o FP cb fun cc o=>(RL.bL 0 ar o vt fun cd o=>(RL.alloc o GW.z fun bj w o=>?_))
  refine RL.cA 0 o 1 zr vt fun w o=>?_
  refine RL.ns (mv (vp b0 0) (RL.bE (f:=(fun x=>x)) 0 o zr Fd.self vt fun b2 o=>?_))
  have o:=(((((o.pull 10).pull 10).dup 10 rfl).dup 10 rfl).dup 9 rfl).pull 9
  obtain⟨aa,cf,hb⟩:=bd hb
  refine RL.call zt zr MQ [(vp b0 0),b2] zr (aD (nj N (i1:=0) o zr cf) ?_)
  rintro _ w ⟨rfl,o⟩
  refine aQ (vi aa) (RL.ns (mv (vi aa) (ic aa 0 (RL.nt ?_))))
  obtain⟨bp,hj,hb⟩:=bd hb
  refine RC.jn (fun(bp: (List cC)) U w=>∃(us393:List aT),SH E V [(0,vp b0 0),(5,vi aj.2)] [bc 52 b0 [v0_0,v0_1,v0_2,v0_3,v0_4,v0_5,ao,v0_7],rd v0_2 p0_2,rd v0_3 p0_3,rd v0_4 p0_4,rd v0_5 p0_5,own 47 ao us393,iu aU us393 bp none,rd v0_7 p0_7] U w) bp ?_ ?_
  ·refine dU hj (fun hc hj=>?_) fun hc hj=>?_
   rotate_left
   ·refine RC.skip ?_
    obtain rfl:=oi hj
    exact⟨rfl,us352,o.sp 15 [0,8,9,10,11,1,2,14]⟩
   obtain⟨cy,a7,hj⟩:=bd hj
   obtain⟨a1,ch,hj⟩:=bd hj
   obtain⟨a2,bk,hj⟩:=bd hj
   refine RC.FJ E V mixed [1,1,1,0,1,1,1,1,0,1,0,0,0,1,0,1,0,0,0,0,0,0,0] [17,18,19,22] (fun(x:Value×Value×Value)=>(fun al ak ag=>[(0,105,(vp b0 0)),(1,106,(vp b0 0)),(2,107,(vp b0 6)),(3,108,ao),(4,109,(vi aa)),(5,110,(vp b0 0)),(6,111,(vp b0 0)),(7,112,(vp b0 6)),(8,113,ao),(9,114,(vi aa)),(10,115,(zc ao (Int.toNat aa) 3 0)),(11,116,(zc ao (Int.toNat aa) 3 2)),(12,117,(us352.getD (Int.toNat aa) (default:aT)).eL.v),(13,118,(vp bj 0)),(14,119,(str ar.Part)),(15,120,(vp bj 1)),(16,121,(str ar.fD)),(17,122,al),(18,123,ak),(19,124,ag),(20,125,(zc ao (Int.toNat aa) 3 0)),(21,126,(zc ao (Int.toNat aa) 3 2))]) x.1 x.2.1 x.2.2) [(0,vp b0 0),(5,vi aj.2),(6,vp bj 0),(7,vi aa)] [] (fun(D:Nat->Bool) (x:Value×Value×Value)=>(fun al ak ag=>[bif D 0 then (rd al (⟨ar.Part,ar.fD⟩:fD)) else bC,bif D 2 then (rd ak ([(⟨ar.Part,ar.fD⟩:fD)]: (List fD))) else (bif D 1 then (own 83 ak ([(⟨ar.Part,ar.fD⟩:fD)]: (List fD))) else bC),bif D 3 then bC else (bif D 2 then (own 83 ag a1) else bC),bc 52 b0 [v0_0,v0_1,v0_2,v0_3,v0_4,v0_5,ao,v0_7],bif D 3 then (own 47 ao (us352.set (Int.toNat aa) {(us352.getD (Int.toNat aa) (default:aT)) with eL:=rv ag})) else (own 47 ao us352),bif D 3 then (iu aU (us352.set (Int.toNat aa) {(us352.getD (Int.toNat aa) (default:aT)) with eL:=rv ag}) (aj.1.set (Int.toNat aa) {a2 with eL:=a1}) none) else (bif D 2 then (iu aU us352 aj.1 (some (Int.toNat aa))) else (iu aU us352 aj.1 none)),rd b2 ar,bx 79 bj ar,rd cd ar,pt cc ar,bC,rd v0_2 p0_2,rd v0_3 p0_3,rd v0_4 p0_4,rd v0_5 p0_5,bC,bC,rd v0_7 p0_7]) x.1 x.2.1 x.2.2) (fun x=>by kernel_rfl) ?_ ⟨fun _=>jF gn,fun _=>wT gn,fun _=>nK gn oC,?_,fun _=>jF gn,fun _=>jF gn,fun _=>wT gn,fun _=>nK gn oC,?_,fun _=>jF gn,?_,?_,?_,fun _=>nK gn uo,?_,fun _=>nK gn x9,?_,?_,?_,?_,?_,?_,?_,trivial⟩ ?_
   ·have o:=(((o.drew).bC).bC).bC
    exact⟨(undef,undef,undef),fP.none,(Eu zr),zt,o⟩
   ·rintro D U w hD ai ab ⟨⟨al,ak,ag⟩,hv,ha,_,o⟩
    obtain⟨O,rfl⟩:=(ac (hv.at 2 rfl (ai.1 rfl)) az).fH
    refine RL.bI 3 ao o rC ?_
    exact RL.nil ⟨rfl,(al,ak,ag),hv.pu 3,ha.u,zt,o⟩
   ·rintro D U w hD ai ab ⟨⟨al,ak,ag⟩,hv,ha,_,o⟩
    obtain⟨O,rfl⟩:=(ac (hv.at 7 rfl (ai.1 rfl)) az).fH
    refine RL.bI 3 ao o rC ?_
    exact RL.nil ⟨rfl,(al,ak,ag),hv.pu 8,ha.u,zt,o⟩
   ·rintro D U w hD ai ab ⟨⟨al,ak,ag⟩,hv,ha,_,o⟩
    obtain⟨O,rfl⟩:=(ac (hv.at 8 rfl (ai.1 rfl)) (ac (hv.at 9 rfl (ai.2.1 rfl)) az)).fH
    have o:=((o.cB 4 (nh ab hD 22)).cB 5 (nh ab hD 22)).cB 5 (nf (fun h=>ft hD ((ab 11 _ rfl ((ab 12 _ rfl ((ab 19 _ rfl h).1 rfl)).1 rfl)).1 rfl)))
    have hl412:=o.eD 5
    have hr413:=fT (default:aT) hl412 a7
    refine RL.bQ 4 o zr zr xc hr413 ?_
    have o:=(o.eW 4 (D 22) (nh ab hD 22) (own 47 ao (us352.set (Int.toNat aa) {(us352.getD (Int.toNat aa) (default:aT)) with eL:=rv ag}))).eW 5 (D 19) (nf (fun h=>ft hD ((ab 11 _ rfl ((ab 12 _ rfl ((ab 19 _ rfl h).1 rfl)).1 rfl)).1 rfl))) (iu aU us352 aj.1 (some (Int.toNat aa)))
    have o:=o.eW 5 (D 22) (nh ab hD 22) (iu aU (us352.set (Int.toNat aa) {(us352.getD (Int.toNat aa) (default:aT)) with eL:=rv ag}) (aj.1.set (Int.toNat aa) {a2 with eL:=a1}) none)
    exact RL.nil ⟨rfl,(al,ak,ag),hv.pu 10,ha.u,zt,o⟩
   ·rintro D U w hD ai ab ⟨⟨al,ak,ag⟩,hv,ha,_,o⟩
    obtain⟨O,rfl⟩:=(ac (hv.at 10 rfl (ai.1 rfl)) az).fH
    have o:=((o.cB 4 (nh ab hD 22)).cB 5 (nh ab hD 22)).cB 5 (nf (fun h=>ft hD ((ab 12 _ rfl ((ab 19 _ rfl h).1 rfl)).1 rfl)))
    have hl414:=o.eD 5
    have hr415:=fT (default:aT) hl414 a7
    refine RL.jV (α:=aT) (jg 4 o hr415 0) yf ?_
    have o:=(o.eW 4 (D 22) (nh ab hD 22) (own 47 ao (us352.set (Int.toNat aa) {(us352.getD (Int.toNat aa) (default:aT)) with eL:=rv ag}))).eW 5 (D 19) (nf (fun h=>ft hD ((ab 12 _ rfl ((ab 19 _ rfl h).1 rfl)).1 rfl))) (iu aU us352 aj.1 (some (Int.toNat aa)))
    have o:=o.eW 5 (D 22) (nh ab hD 22) (iu aU (us352.set (Int.toNat aa) {(us352.getD (Int.toNat aa) (default:aT)) with eL:=rv ag}) (aj.1.set (Int.toNat aa) {a2 with eL:=a1}) none)
    exact RL.nil ⟨rfl,(al,ak,ag),hv.pu 11,ha.u,zt,o⟩
   ·rintro D U w hD ai ab ⟨⟨al,ak,ag⟩,hv,ha,_,o⟩
    obtain⟨O,rfl⟩:=(ac (hv.at 11 rfl (ai.1 rfl)) az).fH
    have o:=((o.cB 4 (nh ab hD 22)).cB 5 (nh ab hD 22)).cB 5 (nh ab hD 19)
    have hl416:=o.eD 5
    have hr417:=fT (default:aT) hl416 a7
    refine RL.u4 4 5 aa nY (default:aT) zr o zr (jg 4 o hr417 2) zr zr a7 FU ?_
    have o:=(o.eW 4 (D 22) (nh ab hD 22) (own 47 ao (us352.set (Int.toNat aa) {(us352.getD (Int.toNat aa) (default:aT)) with eL:=rv ag}))).eW 5 (D 19) (nh ab hD 19) (iu aU us352 aj.1 (some (Int.toNat aa)))
    have o:=o.eW 5 (D 22) (nh ab hD 22) (iu aU (us352.set (Int.toNat aa) {(us352.getD (Int.toNat aa) (default:aT)) with eL:=rv ag}) (aj.1.set (Int.toNat aa) {a2 with eL:=a1}) none)
    exact RL.nil ⟨rfl,(al,ak,ag),hv.pu 12,ha.u,zt,o⟩
   ·rintro D U w hD ai ab ⟨⟨al,ak,ag⟩,hv,ha,_,o⟩
    obtain⟨O,rfl⟩:=(ac (hv.at 13 rfl (ai.1 rfl)) az).fH
    refine RL.aN 7 o zr nU AQ ?_
    exact RL.nil ⟨rfl,(al,ak,ag),hv.pu 14,ha.u,zt,o⟩
   ·rintro D U w hD ai ab ⟨⟨al,ak,ag⟩,hv,ha,_,o⟩
    obtain⟨O,rfl⟩:=(ac (hv.at 15 rfl (ai.1 rfl)) az).fH
    refine RL.aN 7 o zr qj AQ ?_
    exact RL.nil ⟨rfl,(al,ak,ag),hv.pu 16,ha.u,zt,o⟩
   ·rintro D U w hD ai ab ⟨⟨al,ak,ag⟩,hv,ha,_,o⟩
    obtain⟨O,rfl⟩:=(ac (hv.at 14 rfl (ai.1 rfl)) (ac (hv.at 16 rfl (ai.2.1 rfl)) az)).fH
    have o:=((o.cB 0 hD).sc eJ ar.Part).sc eJ ar.fD
    refine RL.build (⟨ar.Part,ar.fD⟩:fD) trivial rfl o [(0,(str ar.Part)),(1,(str ar.fD))] rfl KG rfl (fun M hs g=>by have h:=IX M;exact cT.cons (f:=fun(x:fD) y=>{x with Part:=y}) h Dd (g.sat 1 _ rfl).1 fun _ h=>cT.cons (f:=fun(x:fD) y=>{x with fD:=y}) h Df (g.sat 0 _ rfl).1 fun _ h=>cT.nil h) fun cj o=>?_
    have o:=(o.pl 21 [0,4,5,6,7,8,9,10,11,12,13,14,15,16,17,18,19,20]).cQ 0 true rfl bC
    exact RL.nil ⟨rfl,(cj,ak,ag),hv.pu 17,ha.u,zt,o⟩
   ·rintro D U w hD ai ab ⟨⟨al,ak,ag⟩,hv,ha,_,o⟩
    obtain⟨O,rfl⟩:=(ac (hv.at 17 rfl (ai.1 rfl)) az).fH
    have o:=((o.cP 0 (ai.1 rfl)).cB 1 (nh ab hD 19)).cB 1 hD
    refine RL.dR ([(⟨ar.Part,ar.fD⟩:fD)]: (List fD)) o [al] KU Jz (fun M hs g=>⟨(g.sat 0 _ zr).1,zt⟩) fun b3 w o=>?_
    have o:=(((o.pl 19 [1,0,3,4,5,6,7,8,9,10,11,12,13,14,15,16,17,18]).cQ 0 (D 17) (ai.1 rfl) bC).cQ 1 true rfl bC).eW 1 (D 19) (nh ab hD 19) (rd b3 ([(⟨ar.Part,ar.fD⟩:fD)]: (List fD)))
    exact RL.nil ⟨rfl,(al,b3,ag),hv.pu 18,ha.u,zt,o⟩
   ·rintro D U w hD ai ab ⟨⟨al,ak,ag⟩,hv,ha,_,o⟩
    obtain⟨O,rfl⟩:=(ac (hv.at 12 rfl (ai.1 rfl)) (ac (hv.at 18 rfl (ai.2.1 rfl)) az)).fH
    have o:=(((((((o.cB 1 hD).cP 1 (ai.2.1 rfl)).cB 2 (nh ab hD 22)).cB 2 hD).cB 4 (nh ab hD 22)).cB 5 (nh ab hD 22)).cB 5 hD).zF (j:=5) (jj:=aa) nY (default:aT) rfl a7
    have o:=o.freeze 2
    refine RL.app 0 2 o KW ch fun bq w o=>?_
    have o:=((((o.pl 19 [1,2,0,4,5,6,7,8,9,10,11,12,13,14,15,16,17,18]).cQ 1 true rfl (bif D 18 then (own 83 ak ([(⟨ar.Part,ar.fD⟩:fD)]: (List fD))) else bC)).cQ 2 true rfl bC).eW 2 (D 22) (nh ab hD 22) bC).eW 4 (D 22) (nh ab hD 22) (own 47 ao (us352.set (Int.toNat aa) {(us352.getD (Int.toNat aa) (default:aT)) with eL:=rv bq}))
    have o:=(o.cQ 5 true rfl (iu aU us352 aj.1 none)).eW 5 (D 22) (nh ab hD 22) (iu aU (us352.set (Int.toNat aa) {(us352.getD (Int.toNat aa) (default:aT)) with eL:=rv bq}) (aj.1.set (Int.toNat aa) {a2 with eL:=a1}) none)
    exact RL.nil ⟨rfl,(al,ak,bq),hv.pu 19,ha.u,zt,o⟩
   ·rintro D U w hD ai ab ⟨⟨al,ak,ag⟩,hv,ha,_,o⟩
    obtain⟨O,rfl⟩:=(ac (hv.at 3 rfl (ai.1 rfl)) (ac (hv.at 4 rfl (ai.2.1 rfl)) az)).fH
    have o:=o.cB 4 (nf (fun h=>ft hD ((ab 21 _ rfl ((ab 22 _ rfl h).1 rfl)).1 rfl)))
    have o:=o.cB 5 (nf (fun h=>ft hD ((ab 21 _ rfl ((ab 22 _ rfl h).1 rfl)).1 rfl)))
    have o:=o.cP 5 (ai.2.2.2.2.2.2.2.2.2.2.2.2.2.2.2.2.2.2.2.2.2.1 rfl)
    have hl421:=o.eD 5
    have hr422:=fT (default:aT) hl421 bk
    refine RL.bQ 4 o zr zr xc hr422 ?_
    have o:=o.eW 4 (D 22) (nf (fun h=>ft hD ((ab 21 _ rfl ((ab 22 _ rfl h).1 rfl)).1 rfl))) (own 47 ao (us352.set (Int.toNat aa) {(us352.getD (Int.toNat aa) (default:aT)) with eL:=rv ag}))
    have o:=(o.cQ 5 (D 19) (ai.2.2.2.2.2.2.2.2.2.2.2.2.2.2.2.2.2.2.2.2.2.1 rfl) (iu aU us352 aj.1 none)).eW 5 (D 22) (nf (fun h=>ft hD ((ab 21 _ rfl ((ab 22 _ rfl h).1 rfl)).1 rfl))) (iu aU (us352.set (Int.toNat aa) {(us352.getD (Int.toNat aa) (default:aT)) with eL:=rv ag}) (aj.1.set (Int.toNat aa) {a2 with eL:=a1}) none)
    exact RL.nil ⟨rfl,(al,ak,ag),hv.pu 20,ha.u,zt,o⟩
   ·rintro D U w hD ai ab ⟨⟨al,ak,ag⟩,hv,ha,_,o⟩
    obtain⟨O,rfl⟩:=(ac (hv.at 20 rfl (ai.1 rfl)) az).fH
    have o:=((o.cB 4 (nh ab hD 22)).cB 5 (nh ab hD 22)).cP 5 (ai.2.2.2.2.2.2.2.2.2.2.2.2.2.2.2.2.2.2.2.2.1 rfl)
    have hl423:=o.eD 5
    have hr424:=fT (default:aT) hl423 bk
    refine RL.jV (α:=aT) (jg 4 o hr424 0) yf ?_
    have o:=(o.eW 4 (D 22) (nh ab hD 22) (own 47 ao (us352.set (Int.toNat aa) {(us352.getD (Int.toNat aa) (default:aT)) with eL:=rv ag}))).cQ 5 (D 19) (ai.2.2.2.2.2.2.2.2.2.2.2.2.2.2.2.2.2.2.2.2.1 rfl) (iu aU us352 aj.1 none)
    have o:=o.eW 5 (D 22) (nh ab hD 22) (iu aU (us352.set (Int.toNat aa) {(us352.getD (Int.toNat aa) (default:aT)) with eL:=rv ag}) (aj.1.set (Int.toNat aa) {a2 with eL:=a1}) none)
    exact RL.nil ⟨rfl,(al,ak,ag),hv.pu 21,ha.u,zt,o⟩
   ·rintro D U w hD ai ab ⟨⟨al,ak,ag⟩,hv,ha,_,o⟩
    obtain⟨O,rfl⟩:=(ac (hv.at 19 rfl (ai.2.1 rfl)) (ac (hv.at 21 rfl (ai.1 rfl)) az)).fH
    have o:=((((o.cB 2 hD).cP 2 (ai.2.1 rfl)).cB 4 hD).cB 5 hD).cP 5 (ai.2.1 rfl)
    have hl425:=o.eD 5
    have hr426:=fT (default:aT) hl425 bk
    refine RL.sS 4 5 2 aa nY (default:aT) o zr zr (jg 4 o hr426 2) zr zr zr bk FU fun w o=>?_
    have o:=((o.cQ 2 true rfl (bif D 19 then (own 83 ag a1) else bC)).cQ 4 true rfl (own 47 ao us352)).cQ 5 true rfl (bif D 19 then (iu aU us352 aj.1 (some (Int.toNat aa))) else (iu aU us352 aj.1 none))
    exact RL.nil ⟨rfl,(al,ak,ag),hv.n1,ha,zt,o⟩
   rintro D U w a8 ⟨⟨al,ak,ag⟩,hv,ha,_,o⟩
   have o:=((((o.cP 0 (kQ a8 17)).cP 1 (kQ a8 19)).cP 2 (kQ a8 22)).cP 4 (kQ a8 22)).cP 5 (kQ a8 22)
   obtain⟨O,rfl⟩:=(ac (ha.at 0 rfl) (ac (ha.at 1 rfl) (ac (ha.at 2 rfl) (ac (ha.at 3 rfl) az)))).fH
   obtain rfl:=oi hj
   exact⟨rfl,(us352.set (Int.toNat aa) {(us352.getD (Int.toNat aa) (default:aT)) with eL:=rv ag}),o.sp 18 [3,11,12,13,14,4,5,17]⟩
  rintro _ w ⟨us393,O,rfl,o⟩
  refine bM (aH (RC.region (mv (vi aj.2) (RL.gl aj.2 1 (aQ (vi (IntKind.wrap .i64 (aj.2+1))) (RL.nil ?_))))))
  obtain rfl:=oi hb
  exact⟨rfl,us393,o.sp 8 [0,1,2,3,4,5,6,7]⟩
 ·intro r _ _ _ _
  exact r.elim
 rintro aj _ w rfl ⟨us351,O,rfl,o⟩
 rw [Fo.dA] at hb
 obtain rfl:=oi hb
 have o:=o.zu (X:=aU) (b:=6) (j:=5) rfl (fun M h u x cs=>w7 M h u x cs) rfl rfl (by decide)
 refine CE ?_
 exact HW zr ⟨ao,zr,o.pk 8 [0,5]⟩
def si (E:World) (V:List HP) (res: ((List (List aI))×(List aI)×(List cE)×(List fW)×(List Int)×(List (List aI))×(List cC)×(List (List Int)))) (v:Value) (w:World):Prop:=∃(ub0:Nat) (u0_0 u0_1:Value) (u0_2 u0_3:Value) (u0_4 u0_5:Value) (u0_6 u0_7:Value),v=vp ub0 0/\Holds E w ([bc 52 ub0 [u0_0,u0_1,u0_2,u0_3,u0_4,u0_5,u0_6,u0_7],rd u0_0 res.1,rd u0_1 res.2.1,rd u0_2 res.2.2.1,rd u0_3 res.2.2.2.1,rd u0_4 res.2.2.2.2.1,rd u0_5 res.2.2.2.2.2.1,own 47 u0_6 res.2.2.2.2.2.2.1,rd u0_7 res.2.2.2.2.2.2.2]++V)
theorem nA {p0:k7} {res: ((List (List aI))×(List aI)×(List cE)×(List fW)×(List Int)×(List (List aI))×(List cC)×(List (List Int)))} (j:Holds E w V) (h0:V[i0]? =some (rd v0 p0)) (hb:gV N p0=some res):
    Calls bO 12 [v0].toArray w (gW (si E V res)):=by
 unfold gV at hb
 refine enter Tryz.func12 zr zr ?_
 have j:=j.dup (i0+0) h0
 refine RC.sr (RL.dJ 0 v0 j zr fun a2 w j=>?_)
 refine aQ (.pointer none) (RL.ns (RL.bE (f:=(fun x=>x)) 0 j zr Fd.self tQ fun cp j=>?_))
 obtain⟨cs,hcs,hv37,j⟩:=j.E1 (i:=0) rfl rfl
 obtain⟨ar,au,av,aw,rfl⟩:=Kb hcs
 have j:=(((j.nn (i:=0) (k:=0) (f:=fun x=>x.aJ) rfl jc rfl rfl rfl).nn (i:=1) (k:=1) (f:=fun x=>x.cG) rfl rT rfl rfl rfl).nn (i:=2) (k:=2) (f:=fun x=>x.aM) rfl gj rfl rfl rfl).nn (i:=3) (k:=3) (f:=fun x=>x.bV) rfl oy rfl rfl rfl
 refine RL.GM (zs:=[(.slice none 0 0),(.slice none 0 0),(.slice none 0 0),(.slice none 0 0),(.slice none 0 0),(.slice none 0 0),(.slice none 0 0),(.slice none 0 0)]) (cs:=[ar,au,av,aw,(.slice none 0 0),(.slice none 0 0),(.slice none 0 0),(.slice none 0 0)]) zt zr [(0,cp)] [(0,[ar,au,av,aw])] zr MN ⟨rfl,(congrArg Value.cells hv37),zt⟩ zr (RL.BW [ar,au,av,aw,(.slice none 0 0),(.slice none 0 0),(.slice none 0 0),(.slice none 0 0)] zr j zr (wO.all (⟨(nF 3 j),(nF 2 j),(nF 1 j),(nF 0 j),zr,zr,zr,zr,zt⟩:wO [ar,au,av,aw,(.slice none 0 0),(.slice none 0 0),(.slice none 0 0),(.slice none 0 0)])) fun ae w j=>?_)
 refine aQ (vp ae 0) (RL.nq (RC.sr (aQ (vi 0) (RL.nt ?_))))
 obtain⟨dk,hN,hb⟩:=bd hb
 refine RC.iter (fun(ai: (List Int)×(List (List aI))×Int) U w=>∃b5 b6:Value,SH E V [(1,vp a2 0),(3,vp ae 0),(4,vi ai.2.2)] [bx 27 a2 p0,bc 52 ae [ar,au,av,aw,b5,b6,(.slice none 0 0),(.slice none 0 0)],own 3 b5 ai.1,own 23 b6 ai.2.1,rd ar p0.aJ,rd au p0.cG,rd av p0.aM,rd aw p0.bV] U w) (fun(ai: (List Int)×(List (List aI))×Int) U w=>∃a3 a4:Value,SH E V [(1,vp a2 0),(3,vp ae 0)] [bx 27 a2 p0,bc 52 ae [ar,au,av,aw,a3,a4,(.slice none 0 0),(.slice none 0 0)],own 3 a3 ai.1,own 23 a4 ai.2.1,rd ar p0.aJ,rd au p0.cG,rd av p0.aM,rd aw p0.bV] U w) (fun(r:Empty) _ _=>r.elim) hN ?_ ?_ ?_ ?_
 ·have j:=(j.cO Int 3).cO (List aI) 23
  exact⟨(.slice none 0 0),(.slice none 0 0),j.sp 11 [9,2,1,0,6,5,4,3]⟩
 ·rintro ai fl _ w ⟨b7,b8,O,rfl,j⟩ hb
  refine RC.seq (RC.sr (mv (vi ai.2.2) (RL.aX zr mx (RL.bE 0 j zr jc pB fun dm j=>(RL.bA 0 p0.aJ j qw (ic ai.2.2 ((p0.aJ.length:Int)) (RL.nt (dU hb (fun hc hb=>?_) fun hc hb=>?_))))))))
  rotate_left
  ·refine RC.ex ?_
   obtain rfl:=oi hb
   exact⟨rfl,b7,b8,j.sp 9 [1,2,3,4,5,6,7,8]⟩
  refine RC.ss (RC.bs (RL.bE (f:=(fun x=>x)) 1 j zr Fd.self tQ fun cq j=>(mv (vi ai.2.2) ?_)))
  obtain⟨dn,cr,hb⟩:=bd hb
  refine RL.call zt zr Ld [cq,(vi ai.2.2)] zr (aD (mC N (p1:=ai.2.2) (i0:=0) j zr cr) ?_)
  rintro ct w j
  have j:=j.freeze 0
  obtain⟨bm,cu,hb⟩:=bd hb
  refine RL.call zt zr Le [ct] zr (aD (m9 N (i0:=0) j zr cu) ?_)
  rintro bg w j
  refine aQ bg (RL.ns (aQ (vi 0) (RL.nt ?_)))
  obtain⟨dp,hN,hb⟩:=bd hb
  refine RC.iter (fun(a8: (List Int)×(List (List aI))×Int) U w=>∃b9 ca:Value,SH E V [(1,vp a2 0),(3,vp ae 0),(4,vi ai.2.2),(5,bg),(6,vi a8.2.2)] [bx 27 a2 p0,bc 52 ae [ar,au,av,aw,b9,ca,(.slice none 0 0),(.slice none 0 0)],own 3 b9 a8.1,own 23 ca a8.2.1,rd ar p0.aJ,rd au p0.cG,rd av p0.aM,rd aw p0.bV,own 23 bg bm] U w) (fun(a8: (List Int)×(List (List aI))×Int) U w=>∃bn bo:Value,SH E V [(1,vp a2 0),(3,vp ae 0),(4,vi ai.2.2)] [bx 27 a2 p0,bc 52 ae [ar,au,av,aw,bn,bo,(.slice none 0 0),(.slice none 0 0)],own 3 bn a8.1,own 23 bo a8.2.1,rd ar p0.aJ,rd au p0.cG,rd av p0.aM,rd aw p0.bV,own 23 bg bm] U w) (fun(r:Empty) _ _=>r.elim) hN ?_ ?_ ?_ ?_
  ·exact⟨b7,b8,j.sp 12 [4,5,6,7,8,9,10,11,0]⟩
  ·rintro a8 fl _ w ⟨cb,bp,O,rfl,j⟩ hb
   refine RC.seq (RC.sr (mv (vi a8.2.2) (mv bg (RL.fS 8 bm j qw (ic a8.2.2 ((bm.length:Int)) (RL.nt (dU hb (fun hc hb=>?_) fun hc hb=>?_)))))))
   rotate_left
   ·refine RC.ex ?_
    obtain rfl:=oi hb
    exact⟨rfl,cb,bp,j.sp 9 [0,1,2,3,4,5,6,7,8]⟩
   refine RC.ss (RC.bs (mv (vp ae 0) (mv (vp ae 0) (RL.nilCheck zr (RL.aX zr zQ (RL.bI 1 cb j eY (mv (vi ai.2.2) ?_)))))))
   have j:=j.sc Int ai.2.2
   refine RL.dR ([ai.2.2]: (List Int)) j [(vi ai.2.2)] dW A1 (fun M hs g=>⟨(g.sat 0 _ zr).1,zt⟩) fun dq w j=>?_
   have j:=j.freeze 0
   obtain⟨dr,cv,hb⟩:=bd hb
   refine RL.app 4 0 j pC cv fun bw w j=>?_
   refine RL.nilCheck zr (RL.aX zr zQ (RL.iw 3 bw j zr zr (iM 4 j) eY fun w j=>?_))
   refine RL.nt ?_
   have j:=j.drew
   refine RC.Et (fun w=>Holds E w ([bc 52 ae [ar,au,av,aw,bw,bp,(.slice none 0 0),(.slice none 0 0)]]++V)) mixed zr [1,1,1,1,1,0,0,0,0,2,2,0,0,2] [0,1,2,3,4,5,6,7,8,9,10,11,12,13] (j.pk 11 [3]) (DP.e1 (vp ae 0) zr (fun w=>RL.move (vp ae 0) zt DP.d1) (DP.e1 (vp ae 0) zr (fun w=>RL.move (vp ae 0) zt DP.d1) (DP.e1 (vp ae 0) zr (fun w=>RL.nilCheck zr DP.d1) (DP.e1 (vp ae 5) zr (fun w=>RL.aX zr uv DP.d1) (DP.Ic bp zr (fun w j=>RL.bI 0 bp j pB DP.d1) (DP.e0 zr (mv bg (aZ zr ?_))))))))
   refine mv (vi a8.2.2) (aZ zr ?_)
   obtain⟨cw,bz,hb⟩:=bd hb
   refine RL.bQ 10 j zr zr uk bz (aZ zr (RL.ju (f:=(fun x=>x)) 10 j (jg 10 j bz 0) (bF bz).2.1 Fd.self tR fun cx j=>?_))
   refine pP zr (RL.dR ([cw]: (List (List aI))) j [cx] uk JE (fun M hs g=>⟨(g.sat 0 _ zr).1,zt⟩) fun ds w j=>(DP.d2 (j.pk 13 [5]) (DP.e2 zr ?_)))
   have j:=j.freeze 0
   obtain⟨dt,cy,hb⟩:=bd hb
   refine RL.app 7 0 j G1 cy fun cc w j=>?_
   refine DP.d2 (j.pk 13 [5]) (DP.e0 zr (RL.nilCheck zr (aZ zr (RL.aX zr uv (DP.d0 (DP.LF zr zr (RL.iw 5 cc j zr zr (iM 7 j) pB fun w j=>?_)))))))
   refine DP.d2 zt (DP.z (bM (aH (RC.region (mv (vi a8.2.2) (RL.gl a8.2.2 1 (aQ (vi (IntKind.wrap .i64 (a8.2.2+1))) (RL.nil ?_))))))))
   obtain rfl:=oi hb
   exact⟨rfl,bw,cc,j.sp 13 [4,5,6,7,8,9,10,11,12]⟩
  ·intro r _ _ _ _
   exact r.elim
  rintro a8 _ w rfl ⟨bn,bo,O,rfl,j⟩
  rw [Fo.dA] at hb
  refine bM (aH (RC.region (mv (vi ai.2.2) (RL.gl ai.2.2 1 (aQ (vi (IntKind.wrap .i64 (ai.2.2+1))) (RL.nil ?_))))))
  obtain rfl:=oi hb
  exact⟨rfl,bn,bo,j.sp 9 [0,1,2,3,4,5,6,7]⟩
 ·intro r _ _ _ _
  exact r.elim
 rintro ai _ w rfl ⟨a3,a4,O,rfl,j⟩
 rw [Fo.dA] at hb
 refine aH (RC.seq (RC.sr (aQ (vi 0) (RL.nt ?_))))
 obtain⟨du,hN,hb⟩:=bd hb
 refine RC.iter (fun(a1: (List (List Int))×Int) U w=>∃cd:Value,SH E V [(1,vp a2 0),(3,vp ae 0),(7,vi a1.2)] [bx 27 a2 p0,bc 52 ae [ar,au,av,aw,a3,a4,(.slice none 0 0),cd],own 28 cd a1.1,rd ar p0.aJ,rd au p0.cG,rd av p0.aM,rd aw p0.bV,own 3 a3 ai.1,own 23 a4 ai.2.1] U w) (fun(a1: (List (List Int))×Int) U w=>∃bq:Value,SH E V [(3,vp ae 0)] [bx 27 a2 p0,bc 52 ae [ar,au,av,aw,a3,a4,(.slice none 0 0),bq],own 28 bq a1.1,rd ar p0.aJ,rd au p0.cG,rd av p0.aM,rd aw p0.bV,own 3 a3 ai.1,own 23 a4 ai.2.1] U w) (fun(r:Empty) _ _=>r.elim) hN ?_ ?_ ?_ ?_
 ·have j:=j.cO (List Int) 28
  exact⟨(.slice none 0 0),j.sp 9 [1,2,0,5,6,7,8,3,4]⟩
 ·rintro a1 fl _ w ⟨a6,O,rfl,j⟩ hb
  refine RC.seq (RC.sr (mv (vi a1.2) (RL.aX zr gK (RL.bE 0 j zr gj mZ fun dv j=>(RL.bA 0 p0.aM j um (ic a1.2 ((p0.aM.length:Int)) (RL.nt (dU hb (fun hc hb=>?_) fun hc hb=>?_))))))))
  rotate_left
  ·refine RC.ex ?_
   obtain rfl:=oi hb
   exact⟨rfl,a6,j.sp 10 [1,2,3,4,5,6,7,8,9]⟩
  refine RC.ss (RC.bs (aQ (.slice none 0 0) (RL.nq (RC.sr (aQ (vi 0) (RL.nt ?_))))))
  obtain⟨dw,hN,hb⟩:=bd hb
  refine RC.iter (fun(ax: (List Int)×Int) U w=>∃cf:Value,SH E V [(1,vp a2 0),(3,vp ae 0),(7,vi a1.2),(8,cf),(9,vi ax.2)] [bx 27 a2 p0,bc 52 ae [ar,au,av,aw,a3,a4,(.slice none 0 0),a6],rd ar p0.aJ,rd au p0.cG,rd av p0.aM,rd aw p0.bV,own 3 a3 ai.1,own 23 a4 ai.2.1,own 28 a6 a1.1,own 3 cf ax.1] U w) (fun(ax: (List Int)×Int) U w=>∃bl:Value,SH E V [(1,vp a2 0),(3,vp ae 0),(7,vi a1.2),(8,bl)] [bx 27 a2 p0,bc 52 ae [ar,au,av,aw,a3,a4,(.slice none 0 0),a6],rd ar p0.aJ,rd au p0.cG,rd av p0.aM,rd aw p0.bV,own 3 a3 ai.1,own 23 a4 ai.2.1,own 28 a6 a1.1,own 3 bl ax.1] U w) (fun(r:Empty) _ _=>r.elim) hN ?_ ?_ ?_ ?_
  ·have j:=j.cO Int 3
   exact⟨(.slice none 0 0),j.sp 11 [2,3,5,6,7,8,9,10,4,0]⟩
  ·rintro ax fl _ w ⟨ba,O,rfl,j⟩ hb
   refine RC.seq (RC.seq ?_)
   obtain⟨b0,hj,hb⟩:=bd hb
   refine RC.jn (fun(b0:Bool)=>SH E V [(1,vp a2 0),(3,vp ae 0),(7,vi a1.2),(8,ba),(9,vi ax.2),(74,vb b0)] [bx 27 a2 p0,bc 52 ae [ar,au,av,aw,a3,a4,(.slice none 0 0),a6],rd ar p0.aJ,rd au p0.cG,rd av p0.aM,rd aw p0.bV,own 3 a3 ai.1,own 23 a4 ai.2.1,own 28 a6 a1.1,own 3 ba ax.1]) b0 ?_ ?_
   ·refine RC.region (mv (vi ax.2) (mv (vp ae 0) (RL.nilCheck zr (RL.aX zr uv (RL.bI 1 a4 j pB (RL.fS 7 ai.2.1 j qw (ic ax.2 ((ai.2.1.length:Int)) (mv (vb (decide (ax.2< (ai.2.1.length:Int)))) ?_))))))))
    refine fC hj (fun a7 hj=>?_) fun a7 hj=>?_
    rotate_left
    ·refine bG a7 (bG a7 (bG a7 (bG a7 (bG a7 (bG a7 (fL a7 (vb false) (RL.nil ?_)))))))
     obtain rfl:=oi hj
     exact⟨rfl,j.sp 10 [0,1,2,3,4,5,6,7,8,9]⟩
    refine RL.aX (hg:=(cg a7)) zr gK (RL.bE (hg:=(cg a7)) 0 j zr gj mZ fun dx j=>(RL.move (vi a1.2) (cg a7) ?_))
    obtain⟨ch,cz,hj⟩:=bd hj
    refine RL.bP (hg:=(cg a7)) 0 j pE cz fun dy j=>(RL.dX (hg:=(cg a7)) 0 j zr uq nT fun dz j=>(RL.bD (hg:=(cg a7)) ch.eH 0 j AR (fL a7 (vb ch.eH) (RL.nil ?_))))
    obtain rfl:=oi hj
    exact⟨rfl,j.sp 13 [3,4,5,6,7,8,9,10,11,12]⟩
   rintro _ w ⟨O,rfl,j⟩
   refine aH (dU hb (fun hc hb=>?_) fun hc hb=>?_)
   rotate_left
   ·refine RC.ex ?_
    obtain rfl:=oi hb
    exact⟨rfl,ba,j.sp 10 [0,1,2,3,4,5,6,7,8,9]⟩
   refine RC.ss (RC.block (RC.seq ?_))
   obtain⟨b1,hj,hb⟩:=bd hb
   refine RC.jn (fun(b1:Bool)=>SH E V [(1,vp a2 0),(3,vp ae 0),(7,vi a1.2),(8,ba),(9,vi ax.2),(105,vb b1)] [bx 27 a2 p0,bc 52 ae [ar,au,av,aw,a3,a4,(.slice none 0 0),a6],rd ar p0.aJ,rd au p0.cG,rd av p0.aM,rd aw p0.bV,own 3 a3 ai.1,own 23 a4 ai.2.1,own 28 a6 a1.1,own 3 ba ax.1]) b1 ?_ ?_
   ·obtain⟨bh,cj,hj⟩:=bd hj
    obtain⟨bj,bk,hj⟩:=bd hj
    obtain⟨br,ck,hj⟩:=bd hj
    refine fC hj (fun a0 hj=>?_) fun a0 hj=>?_
    rotate_left
    ·refine RC.FJ E V mixed [1,0,1,0,0,1,1,1,0,1,0,0,0,1,1,1,1,1,1,1,1,1,1,1,1,1,1,1,1] [1,3,4] (fun(x:Value×Value×Value)=>(fun ag ah af=>[(0,77,(vp a2 2)),(1,78,ag),(2,79,(vi a1.2)),(3,80,ah),(4,81,af),(5,82,(vp ae 0)),(6,83,(vp ae 0)),(7,84,(vp ae 4)),(8,85,a3),(9,86,(vi ax.2)),(10,87,(zc a3 (Int.toNat ax.2) 1 0)),(11,88,(vi bj)),(12,89,(vb br)),(13,90,(vb br)),(14,91,undef),(15,92,undef),(16,93,undef),(17,94,undef),(18,95,undef),(19,96,undef),(20,97,undef),(21,98,undef),(22,99,undef),(23,100,undef),(24,101,undef),(25,102,undef),(26,103,undef),(27,104,undef),(28,105,(vb false))]) x.1 x.2.1 x.2.2) [(1,vp a2 0),(3,vp ae 0),(7,vi a1.2),(8,ba),(9,vi ax.2)] [] (fun(D:Nat->Bool) (x:Value×Value×Value)=>(fun ag ah af=>[bif D 0 then (rd ag p0.aM) else bC,bif D 1 then (pt ah bh) else bC,bif D 2 then (rd af bh) else bC,bx 27 a2 p0,bc 52 ae [ar,au,av,aw,a3,a4,(.slice none 0 0),a6],rd ar p0.aJ,rd au p0.cG,rd av p0.aM,rd aw p0.bV,own 3 a3 ai.1,own 23 a4 ai.2.1,own 28 a6 a1.1,own 3 ba ax.1]) x.1 x.2.1 x.2.2) (fun x=>by kernel_rfl) ?_ ⟨fun _=>nK gn gK,?_,fun _=>jF gn,?_,?_,fun _=>jF gn,fun _=>wT gn,fun _=>nK gn zQ,?_,fun _=>jF gn,?_,?_,?_,fun _=>jF gn,fun _=>rR a0,fun _=>rR a0,fun _=>rR a0,fun _=>rR a0,fun _=>rR a0,fun _=>rR a0,fun _=>rR a0,fun _=>rR a0,fun _=>rR a0,fun _=>rR a0,fun _=>rR a0,fun _=>rR a0,fun _=>rR a0,fun _=>rR a0,fun _=>Kk gn a0 rfl,trivial⟩ ?_
     ·have j:=(((j.drew).bC).bC).bC
      exact⟨(undef,undef,undef),fP.none,(Eu zr),zt,j⟩
     ·rintro D U w hD aa a5 ⟨⟨ag,ah,af⟩,o,ha,_,j⟩
      obtain⟨O,rfl⟩:=(ac (o.at 0 rfl (aa.1 rfl)) az).fH
      have j:=j.cB 0 hD
      refine RL.bE 3 j zr gj mZ fun c0 j=>?_
      have j:=(j.pl 14 [0,2,3,4,5,6,7,8,9,10,11,12,13]).cQ 0 true rfl bC
      exact RL.nil ⟨rfl,(c0,ah,af),o.pu 1,ha.u,zt,j⟩
     ·rintro D U w hD aa a5 ⟨⟨ag,ah,af⟩,o,ha,_,j⟩
      obtain⟨O,rfl⟩:=(ac (o.at 1 rfl (aa.1 rfl)) (ac (o.at 2 rfl (aa.2.1 rfl)) az)).fH
      have j:=(j.cP 0 (aa.1 rfl)).cB 1 hD
      refine RL.bP 0 j pE cj fun c1 j=>?_
      have j:=((j.pl 14 [1,0,3,4,5,6,7,8,9,10,11,12,13]).cQ 0 (D 1) (aa.1 rfl) bC).cQ 1 true rfl bC
      exact RL.nil ⟨rfl,(ag,c1,af),o.pu 3,ha.u,zt,j⟩
     ·rintro D U w hD aa a5 ⟨⟨ag,ah,af⟩,o,ha,_,j⟩
      obtain⟨O,rfl⟩:=(ac (o.at 3 rfl (aa.1 rfl)) az).fH
      have j:=(j.cP 1 (aa.1 rfl)).cB 2 hD
      refine RL.bL 1 bh j lE fun c2 j=>?_
      have j:=((j.pl 14 [1,2,0,4,5,6,7,8,9,10,11,12,13]).cQ 1 (D 3) (aa.1 rfl) bC).cQ 2 true rfl bC
      exact RL.nil ⟨rfl,(ag,ah,c2),o.pu 4,ha.u,zt,j⟩
     ·rintro D U w hD aa a5 ⟨⟨ag,ah,af⟩,o,ha,_,j⟩
      obtain⟨O,rfl⟩:=(ac (o.at 7 rfl (aa.1 rfl)) az).fH
      refine RL.bI 4 a3 j eY ?_
      exact RL.nil ⟨rfl,(ag,ah,af),o.pu 8,ha.u,zt,j⟩
     ·rintro D U w hD aa a5 ⟨⟨ag,ah,af⟩,o,ha,_,j⟩
      obtain⟨O,rfl⟩:=(ac (o.at 8 rfl (aa.1 rfl)) (ac (o.at 9 rfl (aa.2.1 rfl)) az)).fH
      refine RL.bQ 9 j zr zr dW bk ?_
      exact RL.nil ⟨rfl,(ag,ah,af),o.pu 10,ha.u,zt,j⟩
     ·rintro D U w hD aa a5 ⟨⟨ag,ah,af⟩,o,ha,_,j⟩
      obtain⟨O,rfl⟩:=(ac (o.at 10 rfl (aa.1 rfl)) az).fH
      refine RL.dQ (f:=(fun x=>x)) 9 j (jg 9 j bk 0) (bF bk).2.1 Fd.self cJ ?_
      exact RL.nil ⟨rfl,(ag,ah,af),o.pu 11,ha.u,zt,j⟩
     ·rintro D U w hD aa a5 ⟨⟨ag,ah,af⟩,o,ha,_,j⟩
      obtain⟨O,rfl⟩:=(ac (o.at 4 rfl (aa.1 rfl)) (ac (o.at 11 rfl (aa.2.1 rfl)) az)).fH
      have j:=j.cP 2 (aa.1 rfl)
      refine RL.call zt zr Il [af,(vi bj)] zr (aD (jv N (p1:=bj) (i0:=2) j zr ck) ?_)
      rintro _ w ⟨rfl,j⟩
      have j:=j.cQ 2 (D 4) (aa.1 rfl) bC
      exact RL.nil ⟨rfl,(ag,ah,af),o.pu 12,ha.u,zt,j⟩
     rintro D U w a9 ⟨⟨ag,ah,af⟩,o,ha,_,j⟩
     have j:=((j.cP 0 (kQ a9 1)).cP 1 (kQ a9 3)).cP 2 (kQ a9 4)
     obtain⟨O,rfl⟩:=(ac (o.at 28 rfl (kQ a9 28)) (ac (ha.at 0 rfl) (ac (ha.at 1 rfl) (ac (ha.at 2 rfl) (ac (ha.at 3 rfl) (ac (ha.at 4 rfl) az)))))).fH
     obtain rfl:=oi hj
     exact⟨rfl,j.sp 13 [3,4,5,6,7,8,9,10,11,12]⟩
    obtain⟨c3,b2,hj⟩:=bd hj
    obtain⟨b3,c4,hj⟩:=bd hj
    obtain⟨c5,c6,hj⟩:=bd hj
    obtain⟨cl,c7,hj⟩:=bd hj
    refine RC.FJ E V mixed [1,0,1,0,0,1,1,1,0,1,0,0,0,1,1,1,1,0,1,0,0,1,0,1,0,0,0,0,1] [1,3,4,20,22,24,25,26] (fun(x:Value×Value×Value×Value×Value×Value×Value×Value)=>(fun ag ah af ak ao aq al an=>[(0,77,(vp a2 2)),(1,78,ag),(2,79,(vi a1.2)),(3,80,ah),(4,81,af),(5,82,(vp ae 0)),(6,83,(vp ae 0)),(7,84,(vp ae 4)),(8,85,a3),(9,86,(vi ax.2)),(10,87,(zc a3 (Int.toNat ax.2) 1 0)),(11,88,(vi bj)),(12,89,(vb br)),(13,90,(vb br)),(14,91,(vp ae 0)),(15,92,(vp ae 0)),(16,93,(vp ae 5)),(17,94,a4),(18,95,(vi ax.2)),(19,96,(zc a4 (Int.toNat ax.2) 1 0)),(20,97,ak),(21,98,(vp a2 2)),(22,99,ao),(23,100,(vi a1.2)),(24,101,aq),(25,102,al),(26,103,an),(27,104,(vb cl)),(28,105,(vb cl))]) x.1 x.2.1 x.2.2.1 x.2.2.2.1 x.2.2.2.2.1 x.2.2.2.2.2.1 x.2.2.2.2.2.2.1 x.2.2.2.2.2.2.2) [(1,vp a2 0),(3,vp ae 0),(7,vi a1.2),(8,ba),(9,vi ax.2)] [] (fun(D:Nat->Bool) (x:Value×Value×Value×Value×Value×Value×Value×Value)=>(fun ag ah af ak ao aq al an=>[bif D 0 then (rd ag p0.aM) else bC,bif D 1 then (pt ah bh) else bC,bif D 2 then (rd af bh) else bC,bif D 3 then (rd ak c3) else bC,bif D 4 then (rd ao p0.aM) else bC,bif D 5 then (pt aq b3) else bC,bif D 6 then (rd al b3) else bC,bif D 7 then (rd an c5) else bC,bx 27 a2 p0,bc 52 ae [ar,au,av,aw,a3,a4,(.slice none 0 0),a6],rd ar p0.aJ,rd au p0.cG,rd av p0.aM,rd aw p0.bV,own 3 a3 ai.1,own 23 a4 ai.2.1,own 28 a6 a1.1,own 3 ba ax.1]) x.1 x.2.1 x.2.2.1 x.2.2.2.1 x.2.2.2.2.1 x.2.2.2.2.2.1 x.2.2.2.2.2.2.1 x.2.2.2.2.2.2.2) (fun x=>by kernel_rfl) ?_ ⟨fun _=>nK gn gK,?_,fun _=>jF gn,?_,?_,fun _=>jF gn,fun _=>wT gn,fun _=>nK gn zQ,?_,fun _=>jF gn,?_,?_,?_,fun _=>jF gn,fun _=>jF (gy a0),fun _=>wT (gy a0),fun _=>nK (gy a0) uv,?_,fun _=>jF (gy a0),?_,?_,fun _=>nK (gy a0) gK,?_,fun _=>jF (gy a0),?_,?_,?_,?_,fun _=>Kj gn a0 rfl,trivial⟩ ?_
    ·have j:=((((((((j.drew).bC).bC).bC).bC).bC).bC).bC).bC
     exact⟨(undef,undef,undef,undef,undef,undef,undef,undef),fP.none,(Eu zr),zt,j⟩
    ·rintro D U w hD aa a5 ⟨⟨ag,ah,af,ak,ao,aq,al,an⟩,o,ha,_,j⟩
     obtain⟨O,rfl⟩:=(ac (o.at 0 rfl (aa.1 rfl)) az).fH
     have j:=j.cB 0 hD
     refine RL.bE 8 j zr gj mZ fun c8 j=>?_
     have j:=(j.pl 19 [0,2,3,4,5,6,7,8,9,10,11,12,13,14,15,16,17,18]).cQ 0 true rfl bC
     exact RL.nil ⟨rfl,(c8,ah,af,ak,ao,aq,al,an),o.pu 1,ha.u,zt,j⟩
    ·rintro D U w hD aa a5 ⟨⟨ag,ah,af,ak,ao,aq,al,an⟩,o,ha,_,j⟩
     obtain⟨O,rfl⟩:=(ac (o.at 1 rfl (aa.1 rfl)) (ac (o.at 2 rfl (aa.2.1 rfl)) az)).fH
     have j:=(j.cP 0 (aa.1 rfl)).cB 1 hD
     refine RL.bP 0 j pE cj fun c9 j=>?_
     have j:=((j.pl 19 [1,0,3,4,5,6,7,8,9,10,11,12,13,14,15,16,17,18]).cQ 0 (D 1) (aa.1 rfl) bC).cQ 1 true rfl bC
     exact RL.nil ⟨rfl,(ag,c9,af,ak,ao,aq,al,an),o.pu 3,ha.u,zt,j⟩
    ·rintro D U w hD aa a5 ⟨⟨ag,ah,af,ak,ao,aq,al,an⟩,o,ha,_,j⟩
     obtain⟨O,rfl⟩:=(ac (o.at 3 rfl (aa.1 rfl)) az).fH
     have j:=(j.cP 1 (aa.1 rfl)).cB 2 hD
     refine RL.bL 1 bh j lE fun da j=>?_
     have j:=((j.pl 19 [1,2,0,4,5,6,7,8,9,10,11,12,13,14,15,16,17,18]).cQ 1 (D 3) (aa.1 rfl) bC).cQ 2 true rfl bC
     exact RL.nil ⟨rfl,(ag,ah,da,ak,ao,aq,al,an),o.pu 4,ha.u,zt,j⟩
    ·rintro D U w hD aa a5 ⟨⟨ag,ah,af,ak,ao,aq,al,an⟩,o,ha,_,j⟩
     obtain⟨O,rfl⟩:=(ac (o.at 7 rfl (aa.1 rfl)) az).fH
     refine RL.bI 9 a3 j eY ?_
     exact RL.nil ⟨rfl,(ag,ah,af,ak,ao,aq,al,an),o.pu 8,ha.u,zt,j⟩
    ·rintro D U w hD aa a5 ⟨⟨ag,ah,af,ak,ao,aq,al,an⟩,o,ha,_,j⟩
     obtain⟨O,rfl⟩:=(ac (o.at 8 rfl (aa.1 rfl)) (ac (o.at 9 rfl (aa.2.1 rfl)) az)).fH
     refine RL.bQ 14 j zr zr dW bk ?_
     exact RL.nil ⟨rfl,(ag,ah,af,ak,ao,aq,al,an),o.pu 10,ha.u,zt,j⟩
    ·rintro D U w hD aa a5 ⟨⟨ag,ah,af,ak,ao,aq,al,an⟩,o,ha,_,j⟩
     obtain⟨O,rfl⟩:=(ac (o.at 10 rfl (aa.1 rfl)) az).fH
     refine RL.dQ (f:=(fun x=>x)) 14 j (jg 14 j bk 0) (bF bk).2.1 Fd.self cJ ?_
     exact RL.nil ⟨rfl,(ag,ah,af,ak,ao,aq,al,an),o.pu 11,ha.u,zt,j⟩
    ·rintro D U w hD aa a5 ⟨⟨ag,ah,af,ak,ao,aq,al,an⟩,o,ha,_,j⟩
     obtain⟨O,rfl⟩:=(ac (o.at 4 rfl (aa.1 rfl)) (ac (o.at 11 rfl (aa.2.1 rfl)) az)).fH
     have j:=j.cP 2 (aa.1 rfl)
     refine RL.call zt zr Il [af,(vi bj)] zr (aD (jv N (p1:=bj) (i0:=2) j zr ck) ?_)
     rintro _ w ⟨rfl,j⟩
     have j:=j.cQ 2 (D 4) (aa.1 rfl) bC
     exact RL.nil ⟨rfl,(ag,ah,af,ak,ao,aq,al,an),o.pu 12,ha.u,zt,j⟩
    ·rintro D U w hD aa a5 ⟨⟨ag,ah,af,ak,ao,aq,al,an⟩,o,ha,_,j⟩
     obtain⟨O,rfl⟩:=(ac (o.at 13 rfl (aa.2.1 rfl)) (ac (o.at 16 rfl (aa.1 rfl)) az)).fH
     refine RL.bI (hg:=(cg a0)) 9 a4 j pB ?_
     exact RL.nil ⟨rfl,(ag,ah,af,ak,ao,aq,al,an),o.pu 17,ha.u,zt,j⟩
    ·rintro D U w hD aa a5 ⟨⟨ag,ah,af,ak,ao,aq,al,an⟩,o,ha,_,j⟩
     obtain⟨O,rfl⟩:=(ac (o.at 13 rfl (aa.2.2.1 rfl)) (ac (o.at 17 rfl (aa.1 rfl)) (ac (o.at 18 rfl (aa.2.1 rfl)) az))).fH
     refine RL.bQ (hg:=(cg a0)) 15 j zr zr uk b2 ?_
     exact RL.nil ⟨rfl,(ag,ah,af,ak,ao,aq,al,an),o.pu 19,ha.u,zt,j⟩
    ·rintro D U w hD aa a5 ⟨⟨ag,ah,af,ak,ao,aq,al,an⟩,o,ha,_,j⟩
     obtain⟨O,rfl⟩:=(ac (o.at 13 rfl (aa.2.1 rfl)) (ac (o.at 19 rfl (aa.1 rfl)) az)).fH
     have j:=j.cB 3 hD
     refine RL.ju (hg:=(cg a0)) (f:=(fun x=>x)) 15 j (jg 15 j b2 0) (bF b2).2.1 Fd.self tR fun db j=>?_
     have j:=(j.pl 19 [1,2,3,0,5,6,7,8,9,10,11,12,13,14,15,16,17,18]).cQ 3 true rfl bC
     exact RL.nil ⟨rfl,(ag,ah,af,db,ao,aq,al,an),o.pu 20,ha.u,zt,j⟩
    ·rintro D U w hD aa a5 ⟨⟨ag,ah,af,ak,ao,aq,al,an⟩,o,ha,_,j⟩
     obtain⟨O,rfl⟩:=(ac (o.at 13 rfl (aa.2.1 rfl)) (ac (o.at 21 rfl (aa.1 rfl)) az)).fH
     have j:=j.cB 4 hD
     refine RL.bE (hg:=(cg a0)) 8 j zr gj mZ fun dc j=>?_
     have j:=(j.pl 19 [1,2,3,4,0,6,7,8,9,10,11,12,13,14,15,16,17,18]).cQ 4 true rfl bC
     exact RL.nil ⟨rfl,(ag,ah,af,ak,dc,aq,al,an),o.pu 22,ha.u,zt,j⟩
    ·rintro D U w hD aa a5 ⟨⟨ag,ah,af,ak,ao,aq,al,an⟩,o,ha,_,j⟩
     obtain⟨O,rfl⟩:=(ac (o.at 13 rfl (aa.2.2.1 rfl)) (ac (o.at 22 rfl (aa.1 rfl)) (ac (o.at 23 rfl (aa.2.1 rfl)) az))).fH
     have j:=(j.cP 4 (aa.1 rfl)).cB 5 hD
     refine RL.bP (hg:=(cg a0)) 4 j pE c4 fun dd j=>?_
     have j:=((j.pl 19 [1,2,3,4,5,0,7,8,9,10,11,12,13,14,15,16,17,18]).cQ 4 (D 22) (aa.1 rfl) bC).cQ 5 true rfl bC
     exact RL.nil ⟨rfl,(ag,ah,af,ak,ao,dd,al,an),o.pu 24,ha.u,zt,j⟩
    ·rintro D U w hD aa a5 ⟨⟨ag,ah,af,ak,ao,aq,al,an⟩,o,ha,_,j⟩
     obtain⟨O,rfl⟩:=(ac (o.at 13 rfl (aa.2.1 rfl)) (ac (o.at 24 rfl (aa.1 rfl)) az)).fH
     have j:=(j.cP 5 (aa.1 rfl)).cB 6 hD
     refine RL.bL (hg:=(cg a0)) 5 b3 j lE fun de j=>?_
     have j:=((j.pl 19 [1,2,3,4,5,6,0,8,9,10,11,12,13,14,15,16,17,18]).cQ 5 (D 24) (aa.1 rfl) bC).cQ 6 true rfl bC
     exact RL.nil ⟨rfl,(ag,ah,af,ak,ao,aq,de,an),o.pu 25,ha.u,zt,j⟩
    ·rintro D U w hD aa a5 ⟨⟨ag,ah,af,ak,ao,aq,al,an⟩,o,ha,_,j⟩
     obtain⟨O,rfl⟩:=(ac (o.at 13 rfl (aa.2.1 rfl)) (ac (o.at 25 rfl (aa.1 rfl)) az)).fH
     have j:=(j.cP 6 (aa.1 rfl)).cB 7 hD
     refine RL.call (cg a0) zr FV [al] zr (aD (fG N (i0:=6) j zr c6) ?_)
     rintro df w j
     have j:=((j.pl 19 [1,2,3,4,5,6,7,0,9,10,11,12,13,14,15,16,17,18]).cQ 6 (D 25) (aa.1 rfl) bC).cQ 7 true rfl bC
     exact RL.nil ⟨rfl,(ag,ah,af,ak,ao,aq,al,df),o.pu 26,ha.u,zt,j⟩
    ·rintro D U w hD aa a5 ⟨⟨ag,ah,af,ak,ao,aq,al,an⟩,o,ha,_,j⟩
     obtain⟨O,rfl⟩:=(ac (o.at 13 rfl (aa.2.2.2.1 rfl)) (ac (o.at 20 rfl (aa.1 rfl)) (ac (o.at 26 rfl (aa.2.1 rfl)) az))).fH
     have j:=(j.cP 3 (aa.1 rfl)).cP 7 (aa.2.1 rfl)
     refine RL.call (cg a0) zr MO [ak,an] zr (aD (t3 N (i0:=3) (i1:=7) j zr zr c7) ?_)
     rintro _ w ⟨rfl,j⟩
     have j:=(j.cQ 3 (D 20) (aa.1 rfl) bC).cQ 7 (D 26) (aa.2.1 rfl) bC
     exact RL.nil ⟨rfl,(ag,ah,af,ak,ao,aq,al,an),o.pu 27,ha.u,zt,j⟩
    rintro D U w a9 ⟨⟨ag,ah,af,ak,ao,aq,al,an⟩,o,ha,_,j⟩
    have j:=((((((j.cP 0 (kQ a9 1)).cP 1 (kQ a9 3)).cP 2 (kQ a9 4)).cP 3 (kQ a9 20)).cP 4 (kQ a9 22)).cP 5 (kQ a9 24)).cP 6 (kQ a9 25)
    have j:=j.cP 7 (kQ a9 26)
    obtain⟨O,rfl⟩:=(ac (o.at 28 rfl (kQ a9 28)) (ac (ha.at 0 rfl) (ac (ha.at 1 rfl) (ac (ha.at 2 rfl) (ac (ha.at 3 rfl) (ac (ha.at 4 rfl) az)))))).fH
    obtain rfl:=oi hj
    exact⟨rfl,j.sp 18 [8,9,10,11,12,13,14,15,16,17]⟩
   rintro _ w ⟨O,rfl,j⟩
   refine aH ?_
   obtain⟨b4,hj,hb⟩:=bd hb
   refine RC.jn (fun(b4: (List Int)) U w=>∃bt:Value,SH E V [(1,vp a2 0),(3,vp ae 0),(7,vi a1.2),(8,bt),(9,vi ax.2)] [bx 27 a2 p0,bc 52 ae [ar,au,av,aw,a3,a4,(.slice none 0 0),a6],rd ar p0.aJ,rd au p0.cG,rd av p0.aM,rd aw p0.bV,own 3 a3 ai.1,own 23 a4 ai.2.1,own 28 a6 a1.1,own 3 bt b4] U w) b4 ?_ ?_
   ·refine dU hj (fun hc hj=>?_) fun hc hj=>?_
    rotate_left
    ·refine RC.skip ?_
     obtain rfl:=oi hj
     exact⟨rfl,ba,j.sp 10 [0,1,2,3,4,5,6,7,8,9]⟩
    refine RC.region (mv ba (mv (vi ax.2) ?_))
    have j:=j.sc Int ax.2
    refine RL.dR ([ax.2]: (List Int)) j [(vi ax.2)] dW A1 (fun M hs g=>⟨(g.sat 0 _ zr).1,zt⟩) fun d3 w j=>?_
    have j:=j.freeze 0
    obtain⟨d4,dg,hj⟩:=bd hj
    refine RL.app 11 0 j pC dg fun cm w j=>?_
    refine aQ cm (RL.nil ?_)
    obtain rfl:=oi hj
    exact⟨rfl,cm,j.sp 12 [2,3,4,5,6,7,8,9,10,11]⟩
   rintro _ w ⟨bt,O,rfl,j⟩
   refine bM (aH (RC.region (mv (vi ax.2) (RL.gl ax.2 1 (aQ (vi (IntKind.wrap .i64 (ax.2+1))) (RL.nil ?_))))))
   obtain rfl:=oi hb
   exact⟨rfl,bt,j.sp 10 [0,1,2,3,4,5,6,7,8,9]⟩
  ·intro r _ _ _ _
   exact r.elim
  rintro ax _ w rfl ⟨bl,O,rfl,j⟩
  rw [Fo.dA] at hb
  refine aH (RC.region (mv (vp ae 0) (mv (vp ae 0) (RL.nilCheck zr (RL.aX zr rD (RL.bI 1 a6 j w9 (mv bl ?_)))))))
  have j:=j.freeze 9
  refine RL.dR ([ax.1]: (List (List Int))) j [bl] yd JH (fun M hs g=>⟨(g.sat 9 _ zr).1,zt⟩) fun d5 w j=>?_
  have j:=j.freeze 0
  obtain⟨d6,dh,hb⟩:=bd hb
  refine RL.app 9 0 j JI dh fun cn w j=>?_
  refine RL.nilCheck zr (RL.aX zr rD (RL.iw 2 cn j zr zr (iM 9 j) w9 fun w j=>?_))
  refine RL.nil (bM (aH (RC.region (mv (vi a1.2) (RL.gl a1.2 1 (aQ (vi (IntKind.wrap .i64 (a1.2+1))) (RL.nil ?_)))))))
  obtain rfl:=oi hb
  exact⟨rfl,cn,j.sp 11 [1,2,9,3,4,5,6,7,8]⟩
 ·intro r _ _ _ _
  exact r.elim
 rintro a1 _ w rfl ⟨bq,O,rfl,j⟩
 rw [Fo.dA] at hb
 refine aH (RC.sr (mv (vp ae 0) ?_))
 have j:=((((((((j.freeze 7).freeze 8).freeze 2).dup 2 rfl).dup 9 rfl).dup 9 rfl).dup 9 rfl).dup 9 rfl).pull 6
 obtain⟨d7,di,hb⟩:=bd hb
 refine RL.call zt zr MR [(vp ae 0)] zr (aD (nO N j di) ?_)
 rintro _ w ⟨dj,rfl,j⟩
 refine RL.ns (mv (vp ae 0) (aQ (vp ae 0) (RL.nt (RC.ret ?_))))
 obtain rfl:=oi hb
 exact bX ⟨ae,ar,au,av,aw,a3,a4,dj,bq,zr,j.pk 11 [0,5,6,7,8,9,10,1,4]⟩
theorem rL {p0:k7} {res: (List Int)×Int} (j:Holds E w V) (h0:V[i0]? =some (rd v0 p0)) (hb:f9 N p0=some res):
    Calls bO 5 [v0].toArray w (gW (uw E V res)):=by
 unfold f9 at hb
 refine enter Tryz.func5 zr zr ?_
 have j:=j.dup (i0+0) h0
 refine RC.sr (RL.dJ 0 v0 j zr fun bl w j=>?_)
 refine aQ (.slice none 0 0) (aQ (vi 0) (RL.nq (RC.sr (RL.bE (f:=(fun x=>x)) 0 j zr Fd.self tQ fun ba j=>?_))))
 obtain⟨au,bb,hb⟩:=bd hb
 refine RL.call zt zr Lg [ba] zr (aD (na N (i0:=0) j zr bb) ?_)
 rintro _ w ⟨rfl,j⟩
 refine aQ (vi au) (RL.ns (mv (vi au) (ic au 0 (RL.nt (dU hb (fun hc hb=>?_) fun hc hb=>?_)))))
 ·refine RC.sr (mv (vi au) (aQ (.slice none 0 0) (aQ (vi au) (RL.nt (RC.rt ?_)))))
  obtain rfl:=oi hb
  have j:=j.t8 Int
  exact qq ⟨(.slice none 0 0),zr,j.pk 4 [0]⟩
 refine RC.sx (RL.bE (f:=(fun x=>x)) 1 j zr Fd.self tQ fun bf j=>?_)
 obtain⟨o,bg,hb⟩:=bd hb
 refine RL.call zt zr Ll [bf] zr (aD (nA N (i0:=0) j zr bg) ?_)
 rintro _ w ⟨af,ah,ai,aj,ak,al,an,ag,ao,rfl,j⟩
 refine aQ (vp af 0) (RL.ns (aQ (.slice none 0 0) (RL.nq (RC.sr (aQ (vi 0) (RL.nt ?_))))))
 obtain⟨bm,hN,hb⟩:=bd hb
 refine RC.iter (fun(ad: (List Int)×Int) U w=>∃a6:Value,SH E V [(5,vp af 0),(6,a6),(7,vi ad.2)] [bc 52 af [ah,ai,aj,ak,al,an,ag,ao],rd ah o.1,rd ai o.2.1,rd aj o.2.2.1,rd ak o.2.2.2.1,rd al o.2.2.2.2.1,rd an o.2.2.2.2.2.1,own 47 ag o.2.2.2.2.2.2.1,rd ao o.2.2.2.2.2.2.2,rd a6 ad.1] U w) (fun(ad: (List Int)×Int) U w=>∃ar:Value,SH E V [(6,ar)] [bc 52 af [ah,ai,aj,ak,al,an,ag,ao],rd ah o.1,rd ai o.2.1,rd aj o.2.2.1,rd ak o.2.2.2.1,rd al o.2.2.2.2.1,rd an o.2.2.2.2.2.1,own 47 ag o.2.2.2.2.2.2.1,rd ao o.2.2.2.2.2.2.2,rd ar ad.1] U w) (fun(r:Empty) _ _=>r.elim) hN ?_ ?_ ?_ ?_
 ·have j:=j.t8 Int
  exact⟨(.slice none 0 0),j.sp 14 [1,2,3,4,5,6,7,8,9,0]⟩
 ·rintro ad fl _ w ⟨a7,O,rfl,j⟩ hb
  refine RC.seq (RC.sr (mv (vi ad.2) (mv (vp af 0) (RL.nilCheck zr (RL.aX zr oC (RL.bI 0 ag j rC (RL.fS 7 o.2.2.2.2.2.2.1 j Ij (ic ad.2 ((o.2.2.2.2.2.2.1.length:Int)) ?_))))))))
  refine RL.nt (dU hb (fun hc hb=>?_) fun hc hb=>?_)
  rotate_left
  ·refine RC.ex ?_
   obtain rfl:=oi hb
   exact⟨rfl,a7,j.sp 10 [0,1,2,3,4,5,6,7,8,9]⟩
  refine RC.ss (RC.bs (aQ (vi 0) (RL.nt ?_)))
  obtain⟨bn,hN,hb⟩:=bd hb
  refine RC.iter (fun(ae: (List Int)×Int) U w=>∃a8:Value,SH E V [(5,vp af 0),(6,a8),(7,vi ad.2),(8,vi ae.2)] [bc 52 af [ah,ai,aj,ak,al,an,ag,ao],rd ah o.1,rd ai o.2.1,rd aj o.2.2.1,rd ak o.2.2.2.1,rd al o.2.2.2.2.1,rd an o.2.2.2.2.2.1,own 47 ag o.2.2.2.2.2.2.1,rd ao o.2.2.2.2.2.2.2,rd a8 ae.1] U w) (fun(ae: (List Int)×Int) U w=>∃ax:Value,SH E V [(5,vp af 0),(6,ax),(7,vi ad.2)] [bc 52 af [ah,ai,aj,ak,al,an,ag,ao],rd ah o.1,rd ai o.2.1,rd aj o.2.2.1,rd ak o.2.2.2.1,rd al o.2.2.2.2.1,rd an o.2.2.2.2.2.1,own 47 ag o.2.2.2.2.2.2.1,rd ao o.2.2.2.2.2.2.2,rd ax ae.1] U w) (fun(r:Empty) _ _=>r.elim) hN ?_ ?_ ?_ ?_
  ·exact⟨a7,j.sp 10 [0,1,2,3,4,5,6,7,8,9]⟩
  ·rintro ae fl _ w ⟨aw,O,rfl,j⟩ hb
   refine RC.seq (RC.seq ?_)
   obtain⟨a2,hj,hb⟩:=bd hb
   refine RC.jn (fun(a2:Bool)=>SH E V [(5,vp af 0),(6,aw),(7,vi ad.2),(8,vi ae.2),(47,vb a2)] [bc 52 af [ah,ai,aj,ak,al,an,ag,ao],rd ah o.1,rd ai o.2.1,rd aj o.2.2.1,rd ak o.2.2.2.1,rd al o.2.2.2.2.1,rd an o.2.2.2.2.2.1,own 47 ag o.2.2.2.2.2.2.1,rd ao o.2.2.2.2.2.2.2,rd aw ae.1]) a2 ?_ ?_
   ·refine RC.region (mv (vi ae.2) (mv (vp af 0) (RL.nilCheck zr (RL.aX zr oC (RL.bI 0 ag j rC (mv (vi ad.2) ?_))))))
    obtain⟨a3,ay,hj⟩:=bd hj
    refine RL.bQ 7 j zr zr xc ay (RL.jV (α:=cC) (jg 7 j ay 0) sZ (RL.ju 7 j (jg 7 j ay 0) (bF ay).2.1 zL eY fun bo j=>?_))
    refine RL.bA 0 a3.eI j ly (ic ae.2 ((a3.eI.length:Int)) (mv (vb (decide (ae.2< (a3.eI.length:Int)))) (fC hj (fun ab hj=>?_) fun ab hj=>?_)))
    rotate_left
    ·refine bG ab (bG ab (bG ab (bG ab (bG ab (bG ab (bG ab (bG ab (bG ab ?_))))))))
     refine bG ab (fL ab (vb false) (RL.nil ?_))
     obtain rfl:=oi hj
     exact⟨rfl,j.sp 11 [1,2,3,4,5,6,7,8,9,10]⟩
    refine RL.move (vp af 0) (cg ab) (RL.nilCheck (hg:=(cg ab)) zr (RL.aX (hg:=(cg ab)) zr oC (RL.bI (hg:=(cg ab)) 1 ag j rC (RL.move (vi ad.2) (cg ab) ?_))))
    obtain⟨a4,az,hj⟩:=bd hj
    refine RL.bQ (hg:=(cg ab)) 8 j zr zr xc az (RL.jV (hg:=(cg ab)) (α:=cC) (jg 8 j az 0) yf (RL.ju (hg:=(cg ab)) 8 j (jg 8 j az 2) (bF az).2.1 zM FU fun bp j=>?_))
    refine RL.bA (hg:=(cg ab)) 0 a4.eL j KZ (RL.kD (a4.eL.length:Int) 0 (cg ab) (fL ab (vb ((a4.eL.length:Int)==0)) (RL.nil ?_)))
    obtain rfl:=oi hj
    exact⟨rfl,j.sp 12 [2,3,4,5,6,7,8,9,10,11]⟩
   rintro _ w ⟨O,rfl,j⟩
   refine aH (dU hb (fun hc hb=>?_) fun hc hb=>?_)
   rotate_left
   ·refine RC.ex ?_
    obtain rfl:=oi hb
    exact⟨rfl,aw,j.sp 10 [0,1,2,3,4,5,6,7,8,9]⟩
   refine RC.ss (RC.block (RC.region (mv aw (mv (vp af 0) (RL.nilCheck zr (RL.aX zr oC (RL.bI 0 ag j rC (mv (vi ad.2) ?_))))))))
   obtain⟨bq,a0,hb⟩:=bd hb
   refine RL.bQ 7 j zr zr xc a0 (RL.jV (α:=cC) (jg 7 j a0 0) sZ (RL.ju 7 j (jg 7 j a0 0) (bF a0).2.1 zL eY fun br j=>?_))
   refine mv (vi ae.2) ?_
   obtain⟨a5,bj,hb⟩:=bd hb
   refine RL.bP 0 j dW bj fun bt j=>(RL.bD a5 0 j cJ ?_)
   obtain⟨bu,bk,hb⟩:=bd hb
   refine RL.call zt zr JP [aw,(vi a5)] zr (aD (lr N (p1:=a5) (i0:=11) j zr bk) ?_)
   rintro a9 w j
   refine aQ a9 (RL.nil (bM (aH (RC.region (mv (vi ae.2) (RL.gl ae.2 1 (aQ (vi (IntKind.wrap .i64 (ae.2+1))) (RL.nil ?_))))))))
   obtain rfl:=oi hb
   exact⟨rfl,a9,j.sp 13 [3,4,5,6,7,8,9,10,11,0]⟩
  ·intro r _ _ _ _
   exact r.elim
  rintro ae _ w rfl ⟨ax,O,rfl,j⟩
  rw [Fo.dA] at hb
  refine bM (aH (RC.region (mv (vi ad.2) (RL.gl ad.2 1 (aQ (vi (IntKind.wrap .i64 (ad.2+1))) (RL.nil ?_))))))
  obtain rfl:=oi hb
  exact⟨rfl,ax,j.sp 10 [0,1,2,3,4,5,6,7,8,9]⟩
 ·intro r _ _ _ _
  exact r.elim
 rintro ad _ w rfl ⟨ar,O,rfl,j⟩
 rw [Fo.dA] at hb
 refine aH (RC.sr (mv ar (aQ ar (aQ (vi 0) (RL.nt (RC.ret ?_))))))
 obtain rfl:=oi hb
 exact qq ⟨ar,zr,j.pk 10 [9]⟩
theorem xq {p0:k7} {res: (List Int)×Int} (j:Holds E w V) (h0:V[i0]? =some (rd v0 p0)) (hb:kb N p0=some res):
    Calls bO 6 [v0].toArray w (gW (oR E V res)):=by
 unfold kb at hb
 refine enter Tryz.func6 zr zr ?_
 have j:=j.dup (i0+0) h0
 refine RC.sr (RL.dJ 0 v0 j zr fun bm w j=>?_)
 refine aQ (.slice none 0 0) (aQ (vi 0) (RL.ns (RL.bE (f:=(fun x=>x)) 0 j zr Fd.self tQ fun bb j=>?_)))
 obtain⟨ad,bf,hb⟩:=bd hb
 refine RL.call zt zr KY [bb] zr (aD (uK N (i0:=0) j zr bf) ?_)
 rintro _ w hK49
 rcases a0:ad.1 with _ | o
 ·replace hb:=Kf a0 hb
  obtain⟨rfl,j⟩:=IU a0 hK49
  refine mv (.tuple #[(.pointer none),(vi ad.2)]) (RL.extract (.pointer none) (RL.extract (vi ad.2) (aQ (.pointer none) (aQ (vi ad.2) (RL.nq (RC.sr (mv (vi ad.2) (ic ad.2 0 ?_))))))))
  refine RL.nt (dU hb (fun hc hb=>?_) fun hc hb=>?_)
  rotate_left
  ·cases hb
  refine RC.sr (mv (vi ad.2) (aQ (.slice none 0 0) (aQ (vi ad.2) (RL.nt (RC.rt ?_)))))
  obtain rfl:=oi hb
  have j:=j.cO Int 3
  exact qq ⟨(.slice none 0 0),zr,j.pk 4 [0]⟩
 replace hb:=Kg a0 hb
 obtain⟨ag,aj,ak,ah,al,an,ao,ai,aq,ar,au,av,aw,rfl,j⟩:=IV a0 hK49
 refine mv (.tuple #[(vp ag 0),(vi ad.2)]) (RL.extract (vp ag 0) (RL.extract (vi ad.2) (aQ (vp ag 0) (aQ (vi ad.2) (RL.nq (RC.sr (mv (vi ad.2) (ic ad.2 0 ?_))))))))
 refine RL.nt (dU hb (fun hc hb=>?_) fun hc hb=>?_)
 ·refine RC.sr (mv (vi ad.2) (aQ (.slice none 0 0) (aQ (vi ad.2) (RL.nt (RC.rt ?_)))))
  obtain rfl:=oi hb
  have j:=j.cO Int 3
  exact qq ⟨(.slice none 0 0),zr,j.pk 17 [0]⟩
 refine RC.sx (aQ (.slice none 0 0) (RL.nq (RC.sr (mv (vp ag 0) (RL.nilCheck zr (RL.aX zr sY (RL.aX zr gK (RL.bI 0 ah j mZ ?_))))))))
 refine RL.bA 3 o.2.2.1 j um (mv (vi 0) (RL.nt ?_))
 obtain⟨ax,hN,hb⟩:=bd hb
 refine RC.fold (fun(af:Nat) (ax: (List Int)) U w=>∃a6:Value,SH E V [(4,vp ag 0),(6,a6),(21,ah),(22,vi o.2.2.1.length),(23,vi af)] [bc 44 ag [aj,ak,ah,al,an,ao,ai,aq,ar,au,av,aw],rd aj o.1,rd ak o.2.1,rd ah o.2.2.1,rd al o.2.2.2.1,own 74 an o.2.2.2.2.1,rd ao o.2.2.2.2.2.1,rd ai o.2.2.2.2.2.2.1,own 47 aq o.2.2.2.2.2.2.2.1,rd ar o.2.2.2.2.2.2.2.2.1,rd au o.2.2.2.2.2.2.2.2.2.1,own 3 av o.2.2.2.2.2.2.2.2.2.2.1,own 98 aw o.2.2.2.2.2.2.2.2.2.2.2,own 3 a6 ax] U w) (fun(ax: (List Int)) U w=>∃ay:Value,SH E V [(6,ay)] [bc 44 ag [aj,ak,ah,al,an,ao,ai,aq,ar,au,av,aw],rd aj o.1,rd ak o.2.1,rd ah o.2.2.1,rd al o.2.2.2.1,own 74 an o.2.2.2.2.1,rd ao o.2.2.2.2.2.1,rd ai o.2.2.2.2.2.2.1,own 47 aq o.2.2.2.2.2.2.2.1,rd ar o.2.2.2.2.2.2.2.2.1,rd au o.2.2.2.2.2.2.2.2.2.1,own 3 av o.2.2.2.2.2.2.2.2.2.2.1,own 98 aw o.2.2.2.2.2.2.2.2.2.2.2,own 3 ay ax] U w) hN ?_ ?_ ?_ ?_
 ·have j:=j.cO Int 3
  exact⟨(.slice none 0 0),j.sp 17 [1,2,3,4,5,6,7,8,9,10,11,12,13,0]⟩
 ·rintro hm ax _ w ⟨bh,O,rfl,j⟩
  refine RC.sr (ic ((o.2.2.1.length:Int)) ((o.2.2.1.length:Int)) (RL.nq (RC.fO tG (RC.ex ?_))))
  exact⟨rfl,bh,j.sp 14 [0,1,2,3,4,5,6,7,8,9,10,11,12,13]⟩
 ·rintro hm af ax s' _ w hk ⟨a1,O,rfl,j⟩ hb
  refine RC.sr (ic ((af:Int)) ((o.2.2.1.length:Int)) (RL.nq (RC.fN (tF hk) (RC.ss (RC.bs (mv (vi af) ?_))))))
  obtain⟨a9,bj,hb⟩:=bd hb
  refine RL.bP 3 j pE bj fun bn j=>(RL.bL 0 a9 j lE fun bo j=>(RL.alloc j Dj.z fun bp w j=>?_))
  refine aQ (vi af) (RL.cA 0 j 1 zr lE fun w j=>?_)
  refine RL.nq ?_
  obtain⟨a4,hj,hb⟩:=bd hb
  refine RC.jn (fun(a4:Bool)=>SH E V [(4,vp ag 0),(6,a1),(7,vi af),(21,ah),(22,vi o.2.2.1.length),(23,vi af),(40,vb a4)] [bc 44 ag [aj,ak,ah,al,an,ao,ai,aq,ar,au,av,aw],rd aj o.1,rd ak o.2.1,rd ah o.2.2.1,rd al o.2.2.2.1,own 74 an o.2.2.2.2.1,rd ao o.2.2.2.2.2.1,rd ai o.2.2.2.2.2.2.1,own 47 aq o.2.2.2.2.2.2.2.1,rd ar o.2.2.2.2.2.2.2.2.1,rd au o.2.2.2.2.2.2.2.2.2.1,own 3 av o.2.2.2.2.2.2.2.2.2.2.1,own 98 aw o.2.2.2.2.2.2.2.2.2.2.2,own 3 a1 ax]) a4 ?_ ?_
  ·refine RC.region (RL.aX zr uq (RL.aN 0 j zr nT AR (mv (vb a9.eH) (fC hj (fun ab hj=>?_) fun ab hj=>?_))))
   rotate_left
   ·refine bG ab (bG ab (bG ab (bG ab (bG ab (bG ab (bG ab (bG ab (bG ab ?_))))))))
    refine fL ab (vb false) (RL.nil ?_)
    obtain rfl:=oi hj
    exact⟨rfl,j.sp 17 [3,4,5,6,7,8,9,10,11,12,13,14,15,16]⟩
   refine RL.move (vp ag 0) (cg ab) (RL.nilCheck (hg:=(cg ab)) zr (RL.aX (hg:=(cg ab)) zr B7 (RL.bI (hg:=(cg ab)) 3 ai j w9 (RL.move (vi af) (cg ab) ?_))))
   obtain⟨a2,bk,hj⟩:=bd hj
   refine RL.bP (hg:=(cg ab)) 10 j yd bk fun bq j=>(RL.bL (hg:=(cg ab)) 0 a2 j eY fun br j=>(RL.bA (hg:=(cg ab)) 0 a2 j ly (RL.kD (a2.length:Int) 2 (cg ab) (fL ab (vb (decide ((a2.length:Int)<2))) (RL.nil ?_)))))
   obtain rfl:=oi hj
   exact⟨rfl,j.sp 19 [5,6,7,8,9,10,11,12,13,14,15,16,17,18]⟩
  rintro _ w ⟨O,rfl,j⟩
  refine aH ?_
  obtain⟨a5,hj,hb⟩:=bd hb
  refine RC.jn (fun(a5: (List Int)) U w=>∃a3:Value,SH E V [(4,vp ag 0),(6,a3),(21,ah),(22,vi o.2.2.1.length),(23,vi af)] [bc 44 ag [aj,ak,ah,al,an,ao,ai,aq,ar,au,av,aw],rd aj o.1,rd ak o.2.1,rd ah o.2.2.1,rd al o.2.2.2.1,own 74 an o.2.2.2.2.1,rd ao o.2.2.2.2.2.1,rd ai o.2.2.2.2.2.2.1,own 47 aq o.2.2.2.2.2.2.2.1,rd ar o.2.2.2.2.2.2.2.2.1,rd au o.2.2.2.2.2.2.2.2.2.1,own 3 av o.2.2.2.2.2.2.2.2.2.2.1,own 98 aw o.2.2.2.2.2.2.2.2.2.2.2,own 3 a3 a5] U w) a5 ?_ ?_
  ·refine dU hj (fun hc hj=>?_) fun hc hj=>?_
   rotate_left
   ·refine RC.skip ?_
    obtain rfl:=oi hj
    exact⟨rfl,a1,j.sp 14 [0,1,2,3,4,5,6,7,8,9,10,11,12,13]⟩
   refine RC.region (mv a1 (mv (vi af) ?_))
   have j:=j.sc Int (af:Int)
   refine RL.dR ([(af:Int)]: (List Int)) j [(vi af)] dW A1 (fun M hs g=>⟨(g.sat 0 _ zr).1,zt⟩) fun bt w j=>?_
   have j:=j.freeze 0
   obtain⟨bu,bl,hj⟩:=bd hj
   refine RL.app 15 0 j pC bl fun ba w j=>?_
   refine aQ ba (RL.nil ?_)
   obtain rfl:=oi hj
   exact⟨rfl,ba,j.sp 16 [2,3,4,5,6,7,8,9,10,11,12,13,14,15]⟩
  rintro _ w ⟨a3,O,rfl,j⟩
  refine bM (aH (RC.region (RL.inc hk hm (mv (vi ((af+1:Nat):Int)) (RL.nil ?_)))))
  obtain rfl:=oi hb
  exact⟨rfl,a3,j.sp 14 [0,1,2,3,4,5,6,7,8,9,10,11,12,13]⟩
 rintro _ w ⟨ay,O,rfl,j⟩
 refine aH (RC.sr (mv ay (aQ ay (aQ (vi 0) (RL.nt (RC.ret ?_))))))
 obtain rfl:=oi hb
 exact qq ⟨ay,zr,j.pk 14 [13]⟩
theorem rM {p0:k7} {res: (List Int)×Int} (j:Holds E w V) (h0:V[i0]? =some (rd v0 p0)) (hb:ga N p0=some res):
    Calls bO 7 [v0].toArray w (gW (oR E V res)):=by
 unfold ga at hb
 refine enter Tryz.func7 zr zr ?_
 have j:=j.dup (i0+0) h0
 refine RC.sr (RL.dJ 0 v0 j zr fun aq w j=>?_)
 refine aQ (.slice none 0 0) (aQ (vi 0) (RL.nq (RC.sr (RL.bE (f:=(fun x=>x)) 0 j zr Fd.self tQ fun a4 j=>?_))))
 obtain⟨au,a5,hb⟩:=bd hb
 refine RL.call zt zr Lg [a4] zr (aD (na N (i0:=0) j zr a5) ?_)
 rintro _ w ⟨rfl,j⟩
 refine aQ (vi au) (RL.ns (mv (vi au) (ic au 0 (RL.nt (dU hb (fun hc hb=>?_) fun hc hb=>?_)))))
 ·refine RC.sr (mv (vi au) (aQ (.slice none 0 0) (aQ (vi au) (RL.nt (RC.rt ?_)))))
  obtain rfl:=oi hb
  have j:=j.cO Int 3
  exact qq ⟨(.slice none 0 0),zr,j.pk 4 [0]⟩
 refine RC.sx (RL.bE (f:=(fun x=>x)) 1 j zr Fd.self tQ fun a6 j=>?_)
 obtain⟨o,a7,hb⟩:=bd hb
 refine RL.call zt zr Ll [a6] zr (aD (nA N (i0:=0) j zr a7) ?_)
 rintro _ w ⟨af,ah,ai,aj,ak,al,an,ao,ag,rfl,j⟩
 refine aQ (vp af 0) (RL.ns (aQ (.slice none 0 0) (RL.nq (RC.sr (aQ (vi 0) (RL.nt ?_))))))
 obtain⟨bf,hN,hb⟩:=bd hb
 refine RC.iter (fun(ad: (List Int)×Int) U w=>∃a1:Value,SH E V [(1,vp aq 0),(5,vp af 0),(6,a1),(7,vi ad.2)] [bx 27 aq p0,bc 52 af [ah,ai,aj,ak,al,an,ao,ag],rd ah o.1,rd ai o.2.1,rd aj o.2.2.1,rd ak o.2.2.2.1,rd al o.2.2.2.2.1,rd an o.2.2.2.2.2.1,own 47 ao o.2.2.2.2.2.2.1,rd ag o.2.2.2.2.2.2.2,own 3 a1 ad.1] U w) (fun(ad: (List Int)×Int) U w=>∃ar:Value,SH E V [(6,ar)] [bx 27 aq p0,bc 52 af [ah,ai,aj,ak,al,an,ao,ag],rd ah o.1,rd ai o.2.1,rd aj o.2.2.1,rd ak o.2.2.2.1,rd al o.2.2.2.2.1,rd an o.2.2.2.2.2.1,own 47 ao o.2.2.2.2.2.2.1,rd ag o.2.2.2.2.2.2.2,own 3 ar ad.1] U w) (fun(r:Empty) _ _=>r.elim) hN ?_ ?_ ?_ ?_
 ·have j:=j.cO Int 3
  exact⟨(.slice none 0 0),j.sp 14 [12,1,2,3,4,5,6,7,8,9,0]⟩
 ·rintro ad fl _ w ⟨aw,O,rfl,j⟩ hb
  refine RC.seq (RC.sr (mv (vi ad.2) (RL.aX zr gK (RL.bE 0 j zr gj mZ fun bh j=>(RL.bA 0 p0.aM j um (ic ad.2 ((p0.aM.length:Int)) (RL.nt (dU hb (fun hc hb=>?_) fun hc hb=>?_))))))))
  rotate_left
  ·refine RC.ex ?_
   obtain rfl:=oi hb
   exact⟨rfl,aw,j.sp 12 [1,2,3,4,5,6,7,8,9,10,11]⟩
  refine RC.ss (RC.block (RC.seq ?_))
  obtain⟨az,hj,hb⟩:=bd hb
  refine RC.jn (fun(az:Bool)=>SH E V [(1,vp aq 0),(5,vp af 0),(6,aw),(7,vi ad.2),(38,vb az)] [bx 27 aq p0,bc 52 af [ah,ai,aj,ak,al,an,ao,ag],rd ah o.1,rd ai o.2.1,rd aj o.2.2.1,rd ak o.2.2.2.1,rd al o.2.2.2.2.1,rd an o.2.2.2.2.2.1,own 47 ao o.2.2.2.2.2.2.1,rd ag o.2.2.2.2.2.2.2,own 3 aw ad.1]) az ?_ ?_
  ·refine RC.region (RL.aX zr gK (RL.bE 1 j zr gj mZ fun bj j=>(mv (vi ad.2) ?_)))
   obtain⟨a2,a9,hj⟩:=bd hj
   refine RL.bP 0 j pE a9 fun bk j=>(RL.dX 0 j zr uq nT fun bl j=>(RL.bD a2.eH 0 j AR (mv (vb a2.eH) (fC hj (fun ab hj=>?_) fun ab hj=>?_))))
   rotate_left
   ·refine bG ab (bG ab (bG ab (bG ab (bG ab (bG ab (bG ab (bG ab (bG ab ?_))))))))
    refine fL ab (vb false) (RL.nil ?_)
    obtain rfl:=oi hj
    exact⟨rfl,j.sp 15 [4,5,6,7,8,9,10,11,12,13,14]⟩
   refine RL.move (vp af 0) (cg ab) (RL.nilCheck (hg:=(cg ab)) zr (RL.aX (hg:=(cg ab)) zr rD (RL.bI (hg:=(cg ab)) 5 ag j w9 (RL.move (vi ad.2) (cg ab) ?_))))
   obtain⟨ax,ba,hj⟩:=bd hj
   refine RL.bP (hg:=(cg ab)) 13 j yd ba fun bm j=>(RL.bL (hg:=(cg ab)) 0 ax j eY fun bn j=>(RL.bA (hg:=(cg ab)) 0 ax j ly (RL.kD (ax.length:Int) 2 (cg ab) (fL ab (vb (decide ((ax.length:Int)<2))) (RL.nil ?_)))))
   obtain rfl:=oi hj
   exact⟨rfl,j.sp 17 [6,7,8,9,10,11,12,13,14,15,16]⟩
  rintro _ w ⟨O,rfl,j⟩
  refine aH ?_
  obtain⟨a0,hj,hb⟩:=bd hb
  refine RC.jn (fun(a0: (List Int)) U w=>∃ay:Value,SH E V [(1,vp aq 0),(5,vp af 0),(6,ay),(7,vi ad.2)] [bx 27 aq p0,bc 52 af [ah,ai,aj,ak,al,an,ao,ag],rd ah o.1,rd ai o.2.1,rd aj o.2.2.1,rd ak o.2.2.2.1,rd al o.2.2.2.2.1,rd an o.2.2.2.2.2.1,own 47 ao o.2.2.2.2.2.2.1,rd ag o.2.2.2.2.2.2.2,own 3 ay a0] U w) a0 ?_ ?_
  ·refine dU hj (fun hc hj=>?_) fun hc hj=>?_
   rotate_left
   ·refine RC.skip ?_
    obtain rfl:=oi hj
    exact⟨rfl,aw,j.sp 11 [0,1,2,3,4,5,6,7,8,9,10]⟩
   refine RC.region (mv aw (mv (vi ad.2) ?_))
   have j:=j.sc Int ad.2
   refine RL.dR ([ad.2]: (List Int)) j [(vi ad.2)] dW A1 (fun M hs g=>⟨(g.sat 0 _ zr).1,zt⟩) fun bo w j=>?_
   have j:=j.freeze 0
   obtain⟨bp,bb,hj⟩:=bd hj
   refine RL.app 12 0 j pC bb fun a3 w j=>?_
   refine aQ a3 (RL.nil ?_)
   obtain rfl:=oi hj
   exact⟨rfl,a3,j.sp 13 [2,3,4,5,6,7,8,9,10,11,12]⟩
  rintro _ w ⟨ay,O,rfl,j⟩
  refine bM (aH (RC.region (mv (vi ad.2) (RL.gl ad.2 1 (aQ (vi (IntKind.wrap .i64 (ad.2+1))) (RL.nil ?_))))))
  obtain rfl:=oi hb
  exact⟨rfl,ay,j.sp 11 [0,1,2,3,4,5,6,7,8,9,10]⟩
 ·intro r _ _ _ _
  exact r.elim
 rintro ad _ w rfl ⟨ar,O,rfl,j⟩
 rw [Fo.dA] at hb
 refine aH (RC.sr (mv ar (aQ ar (aQ (vi 0) (RL.nt (RC.ret ?_))))))
 obtain rfl:=oi hb
 exact qq ⟨ar,zr,j.pk 11 [10]⟩
theorem tj {res:Bool} (o:Holds E w V) (hb:iX N=some res):
    Calls bO 9 [].toArray w (gW (aV E V res)):=by
 unfold iX at hb
 refine enter Tryz.func9 zr zr (RC.sr (aQ (vb false) (RL.ns ?_)))
 have o:=o.sc Int 2
 refine RL.build (⟨⟨0,0⟩,2,0,0,false⟩:cE) trivial rfl o [(1,vi 2)] rfl MS rfl (fun M hs g=>by have h:=Jw M;exact cT.cons (f:=fun(x:cE) y=>{x with dE:=y}) h FL (g.sat 0 _ rfl).1 fun _ h=>cT.nil h) fun ah o=>?_
 obtain⟨aa,ai,hb⟩:=bd hb
 refine RL.call zt zr Kx [ah] zr (aD (rZ N (i0:=0) o zr ai) ?_)
 rintro _ w ⟨ag,rfl,o⟩
 refine mv (.tuple #[ag,(vi aa.2)]) (RL.extract ag (RL.extract (vi aa.2) (RL.alloc o oA.z fun aj w o=>?_)))
 refine RL.cA 0 o 1 zr iF fun w o=>?_
 refine aQ (vi aa.2) (RL.nq ?_)
 obtain⟨af,hj,hb⟩:=bd hb
 refine RC.jn (fun(af:Bool)=>SH E V [(0,vb af)] []) af ?_ ?_
 ·refine RC.region (mv (vi aa.2) (ic aa.2 0 (mv (vb (aa.2==0)) (fC hj (fun ab hj=>?_) fun ab hj=>?_))))
  rotate_left
  ·refine bG ab (bG ab (bG ab (fL ab (vb false) (aQ (vb false) (RL.nil ?_)))))
   obtain rfl:=oi hj
   exact⟨rfl,o.sp 4 []⟩
  refine RL.bE (hg:=(cg ab)) (f:=(fun x=>x)) 0 o zr Fd.self iF fun ak o=>?_
  have o:=(((o.sc Int (-1)).sc Int (-1)).sc Int 1).sc Int 1
  refine RL.build (⟨(-1),(-1),1,1⟩:aI) (cg ab) rfl o [(0,(vi (-1))),(1,(vi (-1))),(2,vi 1),(3,vi 1)] rfl Di rfl (fun M hs g=>by have h:=sX M;exact cT.cons (f:=fun(x:aI) y=>{x with X0:=y}) h oO (g.sat 3 _ rfl).1 fun _ h=>cT.cons (f:=fun(x:aI) y=>{x with Y0:=y}) h qf (g.sat 2 _ rfl).1 fun _ h=>cT.cons (f:=fun(x:aI) y=>{x with X1:=y}) h oQ (g.sat 1 _ rfl).1 fun _ h=>cT.cons (f:=fun(x:aI) y=>{x with Y1:=y}) h qg (g.sat 0 _ rfl).1 fun _ h=>cT.nil h) fun al o=>?_
  refine RL.seq (i:=5) (j:=0) (a:=aa.1) (b:=(⟨(-1),(-1),1,1⟩:aI)) (cg ab) zr o zr zr zr zr GV zr (fL ab (vb (decide (aa.1= (⟨(-1),(-1),1,1⟩:aI)))) (aQ (vb (decide (aa.1= (⟨(-1),(-1),1,1⟩:aI)))) (RL.nil ?_)))
  obtain rfl:=oi hj
  exact⟨rfl,o.sp 10 []⟩
 rintro _ w ⟨O,rfl,o⟩
 refine aH (RC.ret ?_)
 obtain rfl:=oi hb
 exact bX ⟨rfl,o.drop 0⟩
theorem og {p0:k7} {res:Bool} (j:Holds E w V) (h0:V[i0]? =some (rd v0 p0)) (hb:gI N p0=some res):
    Calls bO 3 [v0].toArray w (gW (aV E V res)):=by
 unfold gI at hb
 refine enter Tryz.func3 zr zr ?_
 have j:=j.dup (i0+0) h0
 refine RC.sr (RL.dJ 0 v0 j zr fun a5 w j=>?_)
 refine aQ (vb false) (RL.ns (RL.bE (f:=(fun x=>x)) 0 j zr Fd.self tQ fun au j=>?_))
 obtain⟨ab,av,hb⟩:=bd hb
 refine RL.call zt zr Nj [au] zr (aD (xp N (i0:=0) j zr av) ?_)
 rintro _ w ⟨aj,rfl,j⟩
 refine mv (.tuple #[aj,(vi ab.2)]) (RL.extract aj (RL.extract (vi ab.2) (aQ aj (aQ (vi ab.2) (RL.ns (RL.bE (f:=(fun x=>x)) 2 j zr Fd.self tQ fun aw j=>?_))))))
 obtain⟨ad,ax,hb⟩:=bd hb
 refine RL.call zt zr Nk [aw] zr (aD (rL N (i0:=0) j zr ax) ?_)
 rintro _ w ⟨ak,rfl,j⟩
 refine mv (.tuple #[ak,(vi ad.2)]) (RL.extract ak (RL.extract (vi ad.2) (aQ ak (aQ (vi ad.2) (RL.ns (RL.bE (f:=(fun x=>x)) 4 j zr Fd.self tQ fun ay j=>?_))))))
 obtain⟨ae,az,hb⟩:=bd hb
 refine RL.call zt zr Nl [ay] zr (aD (xq N (i0:=0) j zr az) ?_)
 rintro _ w ⟨al,rfl,j⟩
 refine mv (.tuple #[al,(vi ae.2)]) (RL.extract al (RL.extract (vi ae.2) (aQ al (aQ (vi ae.2) (RL.ns (RL.bE (f:=(fun x=>x)) 6 j zr Fd.self tQ fun a0 j=>?_))))))
 obtain⟨af,a1,hb⟩:=bd hb
 refine RL.call zt zr Nm [a0] zr (aD (rM N (i0:=0) j zr a1) ?_)
 rintro _ w ⟨an,rfl,j⟩
 refine mv (.tuple #[an,(vi af.2)]) (RL.extract an (RL.extract (vi af.2) (aQ an (aQ (vi af.2) (RL.nq ?_)))))
 obtain⟨aq,o,hb⟩:=bd hb
 refine RC.jn (fun(aq:Bool)=>SH E V [(2,vb aq)] []) aq ?_ ?_
 ·refine RC.region (mv aj (mv ak ?_))
  have j:=j.freeze 6
  obtain⟨ah,a2,o⟩:=bd o
  refine RL.call zt zr L2 [aj,ak] zr (aD (ni N (i0:=6) (i1:=4) j zr zr a2) ?_)
  rintro _ w ⟨rfl,j⟩
  refine mv (vb ah) (RL.gs true ah (vi ab.2) rfl rfl rfl cH (RL.gs true ah (vi ad.2) rfl rfl rfl cH (RL.gs true ah (vb (ab.2==ad.2)) rfl rfl rfl (dI .eql .i64 ab.2 ad.2 rfl (fun h=>by exact(cK h:cv (true&&(ah==true)) (vi ab.2)= (vi ab.2))) (fun h=>by exact(cK h:cv (true&&(ah==true)) (vi ad.2)= (vi ad.2))) rfl) (RL.pick ah (vb (ah&&(ab.2==ad.2))) (gr true rfl) (mv (vb (ah&&(ab.2==ad.2))) (fC o (fun ai o=>?_) fun ai o=>?_))))))
  rotate_left
  ·refine bG ai (bG ai (bG ai (fL ai (vb false) (mv (vb false) (ko (ko (ko (RL.pick false (vb false) zr ?_))))))))
   refine mv (vb false) (ko (RL.pick false (vb false) zr (aQ (vb false) (RL.nil ?_))))
   obtain rfl:=oi o
   exact⟨rfl,j.sp 10 []⟩
  refine RL.move al (cg ai) (RL.move an (cg ai) ?_)
  have j:=(j.freeze 2).freeze 0
  obtain⟨ag,a3,o⟩:=bd o
  refine RL.call (cg ai) zr L2 [al,an] zr (aD (ni N (i0:=2) (i1:=0) j zr zr a3) ?_)
  rintro _ w ⟨rfl,j⟩
  refine fL ai (vb ag) (mv (vb ag) (RL.gs true ag (vi ae.2) rfl rfl rfl cH (RL.gs true ag (vi af.2) rfl rfl rfl cH (RL.gs true ag (vb (ae.2==af.2)) rfl rfl rfl (dI .eql .i64 ae.2 af.2 rfl (fun h=>by exact(cK h:cv (true&&(ag==true)) (vi ae.2)= (vi ae.2))) (fun h=>by exact(cK h:cv (true&&(ag==true)) (vi af.2)= (vi af.2))) rfl) (RL.pick ag (vb (ag&&(ae.2==af.2))) (gr true rfl) (mv (vb (ag&&(ae.2==af.2))) (fC o (fun ao o=>?_) fun ao o=>?_)))))))
  rotate_left
  ·refine bG ao (fL ao (vb false) (aQ (vb false) (RL.nil ?_)))
   obtain rfl:=oi o
   exact⟨rfl,j.sp 10 []⟩
  obtain⟨ar,a4,o⟩:=bd o
  refine RL.call (cg ao) zr Nn [] zr (aD (tj N j a4) ?_)
  rintro _ w ⟨rfl,j⟩
  refine fL ao (vb ar) (aQ (vb ar) (RL.nil ?_))
  obtain rfl:=oi o
  exact⟨rfl,j.sp 10 []⟩
 rintro _ w ⟨O,rfl,j⟩
 refine aH (RC.ret ?_)
 obtain rfl:=oi hb
 exact bX ⟨rfl,j.drop 0⟩
end Go.Gk
