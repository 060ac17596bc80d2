/-
  Printed texts: Go functions as plain functions, and that they are. No statement of the seed is proved here.
-/
import Derived.Test.YtmmiladckdcjeadGreatDoorG1
import Derived.Test.YtmmiladckdcjeadGreatDoorG5
import Derived.Test.YtmmiladckdcjeadGreatDoorG6
import Derived.Test.YtmmiladckdcjeadGreatDoorG7
import Derived.Test.YtmmiladckdcjeadGreatDoorG2
import Derived.Test.YtmmiladckdcjeadGreatDoorG4
import Derived.Test.YtmmiladckdcjeadGreatDoorA2
set_option linter.unusedVariables false
set_option linter.unusedSimpArgs false
set_option linter.unusedSectionVars false
set_option maxRecDepth 100000
set_option maxHeartbeats 4000000
namespace Go.Gk
open Go Go.Proofs
variable (N:Nat) {E w:World} {b0 i0 i1:Nat} {p1 res:Int} {v0 v0_0 v0_1 v0_2 v0_3 v0_4 v0_5 v0_6 v0_7 v1:Value} {V:List HP}
def mN (E:World) (V:List HP) (b0:Nat) (v0_0 v0_1:Value) (v0_2 v0_3:Value) (v0_4 v0_5 v0_6:Value) (us0_6:List aT) (p0_6: (List cN)) (v0_7:Value) (r:Int) (U:Nat->Value) (w:World):Prop:=lS bN 49 Tryz.f113 (gH E V b0 v0_0 v0_1 v0_2 v0_3 v0_4 v0_5 v0_6 us0_6 p0_6 v0_7 r) .ret U w
theorem mx {us0_6:List aT} {p0_6: (List cN)} {p1:j4} (j:Holds E w (bc 66 b0 [v0_0,v0_1,v0_2,v0_3,v0_4,v0_5,v0_6,v0_7]::own 112 v0_6 us0_6::iz aW us0_6 p0_6 none::V)) (h1:V[i1]? =some (rd v1 p1)) (hb:dW N p0_6 p1=some res):
    Calls bN 113 [(vp b0 0),v1].toArray w (gQ (gH E V b0 v0_0 v0_1 v0_2 v0_3 v0_4 v0_5 v0_6 us0_6 p0_6 v0_7 res)):=by
 unfold dW at hb
 refine enter Tryz.func113 zr zr ?_
 have j:=j.dup (i1+3) h1
 refine RC.sr (RL.dK 0 v1 j zr fun ah w j=>?_)
 refine aP (vi 0) (RL.nq (RC.sr (aP (vi 0) (RL.nt ?_))))
 obtain⟨a5,hN,hb⟩:=bd hb
 refine RC.iter (fun(af:Int)=>SH E V [(0,vp b0 0),(3,vp ah 0),(5,vi af)] [bc 66 b0 [v0_0,v0_1,v0_2,v0_3,v0_4,v0_5,v0_6,v0_7],own 112 v0_6 us0_6,iz aW us0_6 p0_6 none,bx 114 ah p1]) (fun(af:Int)=>SH E V [(0,vp b0 0)] [bc 66 b0 [v0_0,v0_1,v0_2,v0_3,v0_4,v0_5,v0_6,v0_7],own 112 v0_6 us0_6,iz aW us0_6 p0_6 none,bx 114 ah p1]) (mN E V b0 v0_0 v0_1 v0_2 v0_3 v0_4 v0_5 v0_6 us0_6 p0_6 v0_7) hN ?_ ?_ ?_ ?_
 ·exact j.sp 5 [2,3,4,0]
 ·rintro af fl _ w ⟨O,rfl,j⟩ hb
  refine RC.seq (RC.sr (mv (vi af) (mv (vp b0 0) (RL.nilCheck zr (RL.aZ zr rT (RL.bK 0 v0_6 j vK (RL.sg 1 2 p0_6 j Kn (ic af ((p0_6.length:Int)) ?_))))))))
  refine RL.nt (dX hb (fun hc hb=>?_) fun hc hb=>?_)
  rotate_left
  ·refine RC.ex ?_
   obtain rfl:=oi hb
   exact⟨rfl,j.sp 4 [0,1,2,3]⟩
  refine RC.ss (RC.block (RC.seq ?_))
  obtain⟨an,o,hb⟩:=bd hb
  refine RC.jn (fun(an:Bool)=>SH E V [(0,vp b0 0),(3,vp ah 0),(5,vi af),(47,vb an)] [bc 66 b0 [v0_0,v0_1,v0_2,v0_3,v0_4,v0_5,v0_6,v0_7],own 112 v0_6 us0_6,iz aW us0_6 p0_6 none,bx 114 ah p1]) an ?_ ?_
  ·refine RC.vH mixed [0,0,0,0,0,0,0,0,0,0,0,0,0,2,0,0,0,0,0,0,0,0,0,0,0,0,0,0,0,0,2,0,0] [0,1,2,3,4,5,6,7,8,9,10,11,12,13,14,15,16,17,18,19,20,21,22,23,24,25,26,27,28,29,30,31,32] ?_
   have j:=j.drew
   refine DP.e0 zr (RL.aZ zr zD (aY zr (RL.aM 3 j zr xn BN (aY zr (mv (vb p1.cE) (DP.d0 (fN o (fun aa o=>?_) fun aa o=>?_)))))))
   rotate_left
   ·refine DP.e0 zr (bJ aa (aY zr (bJ aa (aY zr (bJ aa (aY zr (bJ aa (aY zr ?_))))))))
    refine bJ aa (aY zr (bJ aa (aY zr (bJ aa (aY zr (bJ aa (aY zr (bJ aa ?_))))))))
    refine aY zr (bJ aa (oN zr (bJ aa (uh zr (fU aa (vb false) (aY zr (mv (vb false) (aY zr ?_))))))))
    refine RL.aZ (hg:=⟨_,zr,zr⟩) zr zD (aY zr (RL.aM (hg:=⟨_,zr,zr⟩) 3 j zr xn BN (aY zr (RL.not (hg:=⟨_,zr,zr⟩) p1.cE (aY zr (RL.move (vb (!p1.cE)) ⟨_,zr,zr⟩ (DP.d0 (fN o (fun ab o=>?_) fun ab o=>?_))))))))
    rotate_left
    ·refine DP.e0 zr (bJ ab (aY zr (bJ ab (aY zr (bJ ab (aY zr (bJ ab (aY zr ?_))))))))
     refine bJ ab (aY zr (bJ ab (aY zr (bJ ab (aY zr (bJ ab (aY zr (bJ ab ?_))))))))
     refine aY zr (bJ ab (oN zr (bJ ab (uh zr (fU ab (vb false) (hg:=⟨_,zr,zr⟩) (aY zr (RL.pick false (vb false) zr (DP.d0 ?_))))))))
     refine DP.z ?_
     obtain rfl:=oi o
     exact⟨rfl,j.sp 4 [0,1,2,3]⟩
    refine DP.e0 zr (RL.move (vp b0 0) (cg ab) (aY zr (RL.nilCheck (hg:=(cg ab)) zr (aY zr (RL.aZ (hg:=(cg ab)) zr rT (aY zr (RL.bK (hg:=(cg ab)) 0 v0_6 j vK (aY zr ?_))))))))
    refine RL.move (vi af) (cg ab) (aY zr ?_)
    obtain⟨av,ai,o⟩:=bd o
    have hl265:=j.eE 2
    have hr266:=fT (default:aT) hl265 ai
    have hq267:=jJ 1 j hr266 0
    refine RL.bS (hg:=(cg ab)) 1 j zr zr Bm hr266 (aY zr ?_)
    have hl268:=j.eE 2
    have hr269:=fT (default:aT) hl268 ai
    refine RL.lh (α:=aT) (cg ab) (jJ 1 j hr269 0) tz (aY zr ?_)
    have hl270:=j.eE 2
    have hr271:=fT (default:aT) hl270 ai
    refine RL.wq (fun u=>u.j9) av.j9 1 2 af vZ (default:aT) (cg ab) zr j zr (jJ 1 j hr271 0) zr zr ai (fun u hu=>hu.1) fM fun aw j=>(aY zr (RL.aZ (hg:=(cg ab)) zr xt (aY zr (RL.aM (hg:=(cg ab)) 4 j zr uJ cG (oN zr ?_)))))
    obtain⟨ao,ax,o⟩:=bd o
    refine RL.call (cg ab) zr FR [aw,(vi p1.Number)] zr (aD (iZ N (p1:=p1.Number) (i0:=0) j zr ax) ?_)
    rintro _ w ⟨rfl,j⟩
    refine uh zr (fU ab (vb ao) (hg:=⟨_,zr,zr⟩) (aY zr (RL.pick false (vb ao) zr (DP.d0 (DP.z ?_)))))
    obtain rfl:=oi o
    exact⟨rfl,j.sp 5 [1,2,3,4]⟩
   refine DP.e0 zr (RL.move (vp b0 0) (cg aa) (aY zr (RL.nilCheck (hg:=(cg aa)) zr (aY zr (RL.aZ (hg:=(cg aa)) zr rT (aY zr (RL.bK (hg:=(cg aa)) 0 v0_6 j vK (aY zr ?_))))))))
   refine RL.move (vi af) (cg aa) (aY zr ?_)
   obtain⟨ay,aj,o⟩:=bd o
   have hl242:=j.eE 2
   have hr243:=fT (default:aT) hl242 aj
   have hq244:=jJ 1 j hr243 0
   refine RL.bS (hg:=(cg aa)) 1 j zr zr Bm hr243 (aY zr ?_)
   have hl245:=j.eE 2
   have hr246:=fT (default:aT) hl245 aj
   refine RL.lh (α:=aT) (cg aa) (jJ 1 j hr246 0) vl (aY zr ?_)
   have hl247:=j.eE 2
   have hr248:=fT (default:aT) hl247 aj
   refine RL.wq (fun u=>u.aO) ay.aO 1 2 af Bg (default:aT) (cg aa) zr j zr (jJ 1 j hr248 1) zr zr aj (fun u hu=>hu.2) fM fun az j=>(aY zr (RL.aZ (hg:=(cg aa)) zr xt (aY zr (RL.aM (hg:=(cg aa)) 4 j zr uJ cG (oN zr ?_)))))
   obtain⟨aq,a0,o⟩:=bd o
   refine RL.call (cg aa) zr FR [az,(vi p1.Number)] zr (aD (iZ N (p1:=p1.Number) (i0:=0) j zr a0) ?_)
   rintro _ w ⟨rfl,j⟩
   refine uh zr (fU aa (vb aq) (aY zr (mv (vb aq) (DP.d0 (fN o (fun ag o=>?_) fun ag o=>?_)))))
   ·refine DP.e0 zr (bJ ag (aY zr (bJ ag (aY zr (bJ ag (aY zr (bJ ag (aY zr ?_))))))))
    refine CW (aY zr (CW (aY zr (CW (aY zr (CW (aY zr (CW ?_))))))))
    refine aY zr (CW (aY zr (CW (aY zr (CW (aY zr (CW (aY zr ?_))))))))
    refine CW (oN zr (CW (uh zr (bJ ag (aY zr (fU ag (vb true) (DP.d0 (DP.z ?_))))))))
    obtain rfl:=oi o
    exact⟨rfl,j.sp 5 [1,2,3,4]⟩
   refine DP.e0 zr (RL.aZ (hg:=(cg ag)) zr zD (aY zr (RL.aM (hg:=(cg ag)) 4 j zr xn BN (aY zr (RL.not (hg:=(cg ag)) p1.cE (aY zr (RL.move (vb (!p1.cE)) (cg ag) (DP.d0 ?_))))))))
   refine fN o (fun ad o=>?_) fun ad o=>?_
   rotate_left
   ·refine DP.e0 zr (bJ ad (aY zr (bJ ad (aY zr (bJ ad (aY zr (bJ ad (aY zr ?_))))))))
    refine bJ ad (aY zr (bJ ad (aY zr (bJ ad (aY zr (bJ ad (aY zr (bJ ad ?_))))))))
    refine aY zr (bJ ad (oN zr (bJ ad (uh zr (fU ad (vb false) (hg:=(cg ag)) (aY zr (fU ag (vb false) (DP.d0 ?_))))))))
    refine DP.z ?_
    obtain rfl:=oi o
    exact⟨rfl,j.sp 5 [1,2,3,4]⟩
   refine DP.e0 zr (RL.move (vp b0 0) (cg ad) (aY zr (RL.nilCheck (hg:=(cg ad)) zr (aY zr (RL.aZ (hg:=(cg ad)) zr rT (aY zr (RL.bK (hg:=(cg ad)) 1 v0_6 j vK (aY zr ?_))))))))
   refine RL.move (vi af) (cg ad) (aY zr ?_)
   obtain⟨a1,ak,o⟩:=bd o
   have hl254:=j.eE 3
   have hr255:=fT (default:aT) hl254 ak
   have hq256:=jJ 2 j hr255 0
   refine RL.bS (hg:=(cg ad)) 2 j zr zr Bm hr255 (aY zr ?_)
   have hl257:=j.eE 3
   have hr258:=fT (default:aT) hl257 ak
   refine RL.lh (α:=aT) (cg ad) (jJ 2 j hr258 0) tz (aY zr ?_)
   have hl259:=j.eE 3
   have hr260:=fT (default:aT) hl259 ak
   refine RL.wq (fun u=>u.j9) a1.j9 2 3 af vZ (default:aT) (cg ad) zr j zr (jJ 2 j hr260 0) zr zr ak (fun u hu=>hu.1) fM fun a2 j=>(aY zr (RL.aZ (hg:=(cg ad)) zr xt (aY zr (RL.aM (hg:=(cg ad)) 5 j zr uJ cG (oN zr ?_)))))
   obtain⟨ar,a3,o⟩:=bd o
   refine RL.call (cg ad) zr FR [a2,(vi p1.Number)] zr (aD (iZ N (p1:=p1.Number) (i0:=0) j zr a3) ?_)
   rintro _ w ⟨rfl,j⟩
   refine uh zr (fU ad (vb ar) (hg:=(cg ag)) (aY zr (fU ag (vb ar) (DP.d0 (DP.z ?_)))))
   obtain rfl:=oi o
   exact⟨rfl,j.sp 6 [2,3,4,5]⟩
  rintro _ w ⟨O,rfl,j⟩
  refine aG (dX hb (fun hc hb=>?_) fun hc hb=>?_)
  rotate_left
  ·refine RC.skip (bO (aG (RC.region (mv (vi af) (RL.fO af 1 (aP (vi (IntKind.wrap .i64 (af+1))) (RL.nil ?_)))))))
   obtain rfl:=oi hb
   exact⟨rfl,j.sp 4 [0,1,2,3]⟩
  refine RC.sr (mv (vi af) (aP (vi af) (RL.nt (RC.rb (bQ ?_)))))
  obtain rfl:=oi hb
  exact⟨rfl,bY ⟨rfl,j.pk 4 [0,1,2]⟩⟩
 ·intro r U w e hK
  subst e
  refine bQ ?_
  obtain rfl:=oi hb
  exact hK
 rintro af _ w rfl ⟨O,rfl,j⟩
 rw [Fo.dB] at hb
 refine aG (RC.sr (aP (vi (-1)) (RL.nt (RC.ret ?_))))
 obtain rfl:=oi hb
 exact bY ⟨rfl,j.pk 4 [0,1,2]⟩
theorem nv {p0_2: (List cE)} {p0_4: (List Int)} {p0_5: (List (List aI))} {us0_6:List aT} {p0_6: (List cN)} {p1:fP} (j:Holds E w (bc 66 b0 [v0_0,v0_1,v0_2,v0_3,v0_4,v0_5,v0_6,v0_7]::rd v0_2 p0_2::rd v0_4 p0_4::rd v0_5 p0_5::own 112 v0_6 us0_6::iz aW us0_6 p0_6 none::V)) (h1:V[i1]? =some (rd v1 p1)) (o:eM N p0_2 p0_4 p0_5 p0_6 p1=some res):
    Calls bN 76 [(vp b0 0),v1].toArray w (gQ (gH E V b0 v0_0 v0_1 v0_2 v0_3 v0_4 v0_5 v0_6 us0_6 p0_6 v0_7 res)):=by
 unfold eM at o
 refine enter Tryz.func76 zr zr ?_
 have j:=j.dup (i1+6) h1
 refine RC.sr (RL.dK 0 v1 j zr fun aj w j=>?_)
 refine aP (vi 0) (RL.ns (mv (vp b0 0) (RL.bG (f:=(fun x=>x)) 0 j zr Fd.self vJ fun ad j=>?_)))
 have j:=(((j.dup 6 rfl).dup 6 rfl).dup 6 rfl).pull 6
 obtain⟨aa,ae,o⟩:=bd o
 refine RL.call zt zr LS [(vp b0 0),ad] zr (aD (pR N (i1:=0) j zr ae) ?_)
 rintro _ w ⟨ab,rfl,j⟩
 refine mv (.tuple #[ab,(vb aa.2)]) (RL.extract ab (RL.extract (vb aa.2) (RL.alloc j DM.z fun ak w j=>?_)))
 refine RL.bZ 0 j 1 zr pq fun w j=>?_
 refine aP (vb aa.2) (RL.nq (RC.sr (mv (vb aa.2) (RL.not aa.2 (RL.nt (dX o (fun hc o=>?_) fun hc o=>?_))))))
 ·refine RC.sr (aP (vi (-1)) (RL.nt (RC.rt ?_)))
  obtain rfl:=oi o
  exact bY ⟨rfl,j.pk 12 [2,10,11]⟩
 refine RC.sx (mv (vp b0 0) (RL.bG (f:=(fun x=>x)) 0 j zr Fd.self pq fun ag j=>?_))
 have j:=((j.pull 12).pull 12).pull 5
 obtain⟨ah,ai,o⟩:=bd o
 refine RL.call zt zr LU [(vp b0 0),ag] zr (aD (mx N (i1:=0) j zr ai) ?_)
 rintro _ w ⟨rfl,j⟩
 refine aP (vi ah) (RL.nt (RC.ret ?_))
 obtain rfl:=oi o
 exact bY ⟨rfl,j.pk 16 [0,1,2]⟩
def oq (E:World) (V:List HP) (b0:Nat) (v0_0 v0_1:Value) (v0_2 v0_3:Value) (v0_4 v0_5 v0_7:Value) (res: (List cN)) (v:Value) (w:World):Prop:=∃u0_6:Value,v = .tuple #[]/\Holds E w ([bc 66 b0 [v0_0,v0_1,v0_2,v0_3,v0_4,v0_5,u0_6,v0_7],own 112 u0_6 res]++V)
theorem nR {p0_2: (List cE)} {p0_3: (List fP)} {p0_4: (List Int)} {p0_5: (List (List aI))} {p0_7: (List (List Int))} {res: (List cN)} (o:Holds E w (bc 66 b0 [v0_0,v0_1,v0_2,v0_3,v0_4,v0_5,(.slice none 0 0),v0_7]::rd v0_2 p0_2::rd v0_3 p0_3::rd v0_4 p0_4::rd v0_5 p0_5::rd v0_7 p0_7::V)) (hb:eV N p0_2 p0_3 p0_4 p0_5 p0_7=some res):
    Calls bN 39 [(vp b0 0)].toArray w (gQ (oq E V b0 v0_0 v0_1 v0_2 v0_3 v0_4 v0_5 v0_7 res)):=by
 unfold eV at hb
 refine enter Tryz.func39 zr zr (RC.sr (mv (vp b0 0) (RL.nilCheck zr (RL.aZ zr rS (RL.bK 0 v0_5 o oQ (RL.bC 4 p0_5 o oR ?_))))))
 obtain⟨ck,b4,hb⟩:=bd hb
 refine RL.mk (p0_5.length:Int) o Kt Nh b4 fun ay w o=>?_
 refine aP ay (RL.nq (RC.sr (aP (vi 0) (RL.nt ?_))))
 obtain⟨cl,hN,hb⟩:=bd hb
 refine RC.iter (fun(av: (List cN)×(List Bool)×Int) U w=>∃(br:Value) (us76:List aT),SH E V [(0,vp b0 0),(2,ay),(3,vi av.2.2)] [bc 66 b0 [v0_0,v0_1,v0_2,v0_3,v0_4,v0_5,br,v0_7],own 112 br us76,iz aW us76 av.1 none,rd v0_2 p0_2,rd v0_3 p0_3,rd v0_4 p0_4,rd v0_5 p0_5,rd v0_7 p0_7,own 4 ay av.2.1] U w) (fun(av: (List cN)×(List Bool)×Int) U w=>∃(a9:Value) (us78:List aT),SH E V [(0,vp b0 0)] [bc 66 b0 [v0_0,v0_1,v0_2,v0_3,v0_4,v0_5,a9,v0_7],own 112 a9 us78,iz aW us78 av.1 none,rd v0_2 p0_2,rd v0_3 p0_3,rd v0_4 p0_4,rd v0_5 p0_5,rd v0_7 p0_7,own 4 ay av.2.1] U w) (fun(r:Empty) _ _=>r.elim) hN ?_ ?_ ?_ ?_
 ·have o:=(o.zA aW).cQ aT 112
  exact⟨(.slice none 0 0),([]:List aT),o.sp 9 [3,0,1,4,5,6,7,8,2]⟩
 ·rintro av fl _ w ⟨a5,us80,O,rfl,o⟩ hb
  refine RC.seq (RC.sr (mv (vi av.2.2) (mv (vp b0 0) (RL.nilCheck zr (RL.aZ zr rS (RL.bK 0 v0_5 o oQ (RL.bC 6 p0_5 o oR (ic av.2.2 ((p0_5.length:Int)) ?_))))))))
  refine RL.nt (dX hb (fun hc hb=>?_) fun hc hb=>?_)
  rotate_left
  ·refine RC.ex ?_
   obtain rfl:=oi hb
   exact⟨rfl,a5,us80,o.sp 9 [0,1,2,3,4,5,6,7,8]⟩
  refine RC.ss (RC.bs (mv ay (mv (vi av.2.2) ?_)))
  obtain⟨b5,bl,hb⟩:=bd hb
  refine RL.bS 8 o zr zr Bo bl (RL.dR (f:=(fun x=>x)) 8 o (jJ 8 o bl 0) (bI bl).2.1 Fd.self BN (RL.not b5 (RL.nt ?_)))
  obtain⟨ba,hj,hb⟩:=bd hb
  refine RC.jn (fun(ba: (List cN)×(List Bool)) U w=>∃(bb:Value) (us91:List aT),SH E V [(0,vp b0 0),(2,ay),(3,vi av.2.2)] [bc 66 b0 [v0_0,v0_1,v0_2,v0_3,v0_4,v0_5,bb,v0_7],own 112 bb us91,iz aW us91 ba.1 none,rd v0_2 p0_2,rd v0_3 p0_3,rd v0_4 p0_4,rd v0_5 p0_5,rd v0_7 p0_7,own 4 ay ba.2] U w) ba ?_ ?_
  ·refine dX hj (fun hc hj=>?_) fun hc hj=>?_
   rotate_left
   ·refine RC.skip ?_
    obtain rfl:=oi hj
    exact⟨rfl,a5,us80,o.sp 9 [0,1,2,3,4,5,6,7,8]⟩
   have o:=o.drew
   refine RC.EU (fun w=>Holds E w ([bc 66 b0 [v0_0,v0_1,v0_2,v0_3,v0_4,v0_5,a5,v0_7]]++V)) mixed zr [1,1,1,1,1,0,0,0,2,2,2,0,0,2] [0,1,2,3,4,5,6,7,8,9,10,11,12,13] (o.pk 9 [0]) (DP.e1 (vp b0 0) zr (fun w=>RL.move (vp b0 0) zt DP.d1) (DP.e1 (vp b0 0) zr (fun w=>RL.move (vp b0 0) zt DP.d1) (DP.e1 (vp b0 0) zr (fun w=>RL.nilCheck zr DP.d1) (DP.e1 (vp b0 6) zr (fun w=>RL.aZ zr rT DP.d1) (DP.IV a5 zr (fun w o=>RL.bK 0 a5 o vK DP.d1) (DP.e0 zr (mv (vp b0 0) (aY zr ?_))))))))
   refine mv (vi av.2.2) (aY zr (mv ay (oN zr ?_)))
   have o:=((o.pull 8).dup 8 rfl).pull 2
   obtain⟨aw,b6,hj⟩:=bd hj
   refine RL.call zt zr Nr [(vp b0 0),(vi av.2.2),ay] zr (aD (pC N (p1:=av.2.2) o b6) ?_)
   rintro _ w ⟨bm,bf,a0,rfl,o⟩
   refine DP.d2 (o.pk 14 [3]) (DP.e2 zr ?_)
   have o:=(o.BF (i:=2) rfl).EK (cs:=[bm,bf,a0]) (x:=(⟨aw.1.1,aw.1.2.1,(rv a0)⟩:aT)) (fun M hs g=>⟨[bm],[bf,a0],rfl,(rL (g.sat 1 _ rfl).1),⟨[bf],[a0],rfl,(rL (g.sat 2 _ rfl).1),(rL (g.sat 0 _ rfl).1)⟩⟩) rfl
   refine RL.dQ ([(⟨aw.1.1,aw.1.2.1,(rv a0)⟩:aT)]:List aT) o [(.agg ([bm,bf,a0]:List Value).toArray)] Bm HJ (fun M hs g=>⟨(g.sat 0 _ zr).1,zt⟩) fun cm w o=>(DP.d2 (o.pk 17 [6]) (DP.e2 zr ?_))
   obtain⟨cn,b7,hj⟩:=bd hj
   have o:=o.freeze 0
   refine RL.yg 9 0 10 5 aW (⟨aw.1.1,aw.1.2.1,(rv a0)⟩:aT) (⟨aw.1.1,aw.1.2.1,aw.1.2.2⟩:cN) a0 aw.1.2.2 (fun _ _ ho=>⟨⟨rfl,zr⟩,ho⟩) zr o zr zr zr zr zr zr Ko b7 fun bu w o=>?_
   refine DP.d2 (o.pk 17 [6]) (DP.e0 zr (RL.nilCheck zr (aY zr (RL.aZ zr rT (DP.d0 (DP.Me zr zr (RL.iB 6 bu o zr zr (iS 9 o) vK fun w o=>?_)))))))
   refine DP.d2 zt (DP.z ?_)
   obtain rfl:=oi hj
   exact⟨rfl,bu,(us80++[(⟨aw.1.1,aw.1.2.1,(rv a0)⟩:aT)]),o.sp 17 [6,9,10,11,12,13,14,15,7]⟩
  rintro _ w ⟨bb,us91,O,rfl,o⟩
  refine bO (aG (RC.region (mv (vi av.2.2) (RL.fO av.2.2 1 (aP (vi (IntKind.wrap .i64 (av.2.2+1))) (RL.nil ?_))))))
  obtain rfl:=oi hb
  exact⟨rfl,bb,us91,o.sp 9 [0,1,2,3,4,5,6,7,8]⟩
 ·intro r _ _ _ _
  exact r.elim
 rintro av _ w rfl ⟨a9,us78,O,rfl,o⟩
 rw [Fo.dB] at hb
 refine aG (RC.seq (RC.sr (aP (vi 0) (RL.nt ?_))))
 obtain⟨cp,hN,hb⟩:=bd hb
 refine RC.iter (fun(aq: (List cN)×Int) U w=>∃(bw:Value) (us164:List aT),SH E V [(0,vp b0 0),(4,vi aq.2)] [bc 66 b0 [v0_0,v0_1,v0_2,v0_3,v0_4,v0_5,bw,v0_7],own 112 bw us164,iz aW us164 aq.1 none,rd v0_2 p0_2,rd v0_3 p0_3,rd v0_4 p0_4,rd v0_5 p0_5,rd v0_7 p0_7] U w) (fun(aq: (List cN)×Int) U w=>∃(ao:Value) (us166:List aT),SH E V [(0,vp b0 0)] [bc 66 b0 [v0_0,v0_1,v0_2,v0_3,v0_4,v0_5,ao,v0_7],own 112 ao us166,iz aW us166 aq.1 none,rd v0_2 p0_2,rd v0_3 p0_3,rd v0_4 p0_4,rd v0_5 p0_5,rd v0_7 p0_7] U w) (fun(r:Empty) _ _=>r.elim) hN ?_ ?_ ?_ ?_
 ·exact⟨a9,us78,o.sp 9 [0,1,2,3,4,5,6,7]⟩
 ·rintro aq fl _ w ⟨a6,us168,O,rfl,o⟩ hb
  refine RC.seq (RC.sr (mv (vi aq.2) (mv (vp b0 0) (RL.nilCheck zr (RL.aZ zr tA (RL.bK 0 v0_7 o zn (RL.bC 7 p0_7 o Gt (ic aq.2 ((p0_7.length:Int)) ?_))))))))
  refine RL.nt (dX hb (fun hc hb=>?_) fun hc hb=>?_)
  rotate_left
  ·refine RC.ex ?_
   obtain rfl:=oi hb
   exact⟨rfl,a6,us168,o.sp 8 [0,1,2,3,4,5,6,7]⟩
  refine RC.ss (RC.block (RC.seq ?_))
  obtain⟨bn,hj,hb⟩:=bd hb
  refine RC.jn (fun(bn:Bool)=>SH E V [(0,vp b0 0),(4,vi aq.2),(69,vb bn)] [bc 66 b0 [v0_0,v0_1,v0_2,v0_3,v0_4,v0_5,a6,v0_7],rd v0_2 p0_2,rd v0_3 p0_3,rd v0_4 p0_4,rd v0_5 p0_5,own 112 a6 us168,iz aW us168 aq.1 none,rd v0_7 p0_7]) bn ?_ ?_
  ·refine RC.region (mv (vp b0 0) (RL.nilCheck zr (RL.aZ zr wC (RL.aZ zr iw (RL.bK 0 v0_2 o nQ (mv (vi aq.2) ?_))))))
   obtain⟨bz,b8,hj⟩:=bd hj
   refine RL.bM 3 o qE b8 fun cq o=>(RL.dN 0 o zr yo qt fun cr o=>(RL.bB bz.fY 0 o BN (mv (vb bz.fY) (fN hj (fun au hj=>?_) fun au hj=>?_))))
   rotate_left
   ·refine bJ au (bJ au (bJ au (bJ au (bJ au (bJ au (bJ au (bJ au (bJ au ?_))))))))
    refine fU au (vb false) (RL.nil ?_)
    obtain rfl:=oi hj
    exact⟨rfl,o.sp 10 [2,5,6,7,8,3,4,9]⟩
   refine RL.move (vp b0 0) (cg au) (RL.nilCheck (hg:=(cg au)) zr (RL.aZ (hg:=(cg au)) zr tA (RL.bK (hg:=(cg au)) 2 v0_7 o zn (RL.move (vi aq.2) (cg au) ?_))))
   obtain⟨bg,b9,hj⟩:=bd hj
   refine RL.bM (hg:=(cg au)) 9 o Aa b9 fun ct o=>(RL.bF (hg:=(cg au)) 0 bg o fM fun cu o=>(RL.bC (hg:=(cg au)) 0 bg o mw (RL.ld (bg.length:Int) 0 (cg au) (fU au (vb ((bg.length:Int)==0)) (RL.nil ?_)))))
   obtain rfl:=oi hj
   exact⟨rfl,o.sp 12 [4,7,8,9,10,5,6,11]⟩
  rintro _ w ⟨O,rfl,o⟩
  refine aG ?_
  obtain⟨bo,hj,hb⟩:=bd hb
  refine RC.jn (fun(bo: (List cN)) U w=>∃(bh:Value) (us193:List aT),SH E V [(0,vp b0 0),(4,vi aq.2)] [bc 66 b0 [v0_0,v0_1,v0_2,v0_3,v0_4,v0_5,bh,v0_7],own 112 bh us193,iz aW us193 bo none,rd v0_2 p0_2,rd v0_3 p0_3,rd v0_4 p0_4,rd v0_5 p0_5,rd v0_7 p0_7] U w) bo ?_ ?_
  ·refine dX hj (fun hc hj=>?_) fun hc hj=>?_
   rotate_left
   ·refine RC.skip ?_
    obtain rfl:=oi hj
    exact⟨rfl,a6,us168,o.sp 8 [0,5,6,1,2,3,4,7]⟩
   refine RC.region (mv (vp b0 0) (mv (vp b0 0) (RL.nilCheck zr (RL.aZ zr rT (RL.bK 0 a6 o vK (mv (vi aq.2) ?_))))))
   have o:=o.sc Int aq.2
   refine RL.dQ ([aq.2]: (List Int)) o [(vi aq.2)] eD CX (fun M hs g=>⟨(g.sat 0 _ zr).1,zt⟩) fun a3 w o=>(RL.EJ [(.slice none 0 0),(.slice none 0 0),(.slice none 0 0)] [(.slice none 0 0),a3,(.slice none 0 0)] zr [(1,a3)] zr JI ⟨(iS 0 o),zt⟩ zr ?_)
   have o:=((((o.cQ fG 98).BF (i:=0) rfl).yf Int).freeze 3).EK (cs:=[(.slice none 0 0),a3,(.slice none 0 0)]) (x:=(⟨([]: (List Int)),([aq.2]: (List Int)),(rv (.slice none 0 0))⟩:aT)) (fun M hs g=>⟨[(.slice none 0 0)],[a3,(.slice none 0 0)],rfl,(rL (g.sat 0 _ rfl).1),⟨[a3],[(.slice none 0 0)],rfl,(rL (g.sat 3 _ rfl).1),(rL (g.sat 1 _ rfl).1)⟩⟩) rfl
   refine RL.dQ ([(⟨([]: (List Int)),([aq.2]: (List Int)),(rv (.slice none 0 0))⟩:aT)]:List aT) o [(.agg ([(.slice none 0 0),a3,(.slice none 0 0)]:List Value).toArray)] Bm HJ (fun M hs g=>⟨(g.sat 0 _ zr).1,zt⟩) fun cv w o=>?_
   obtain⟨cw,ca,hj⟩:=bd hj
   have o:=o.freeze 0
   refine RL.yg 12 0 13 4 aW (⟨([]: (List Int)),([aq.2]: (List Int)),(rv (.slice none 0 0))⟩:aT) (⟨([]: (List Int)),([aq.2]: (List Int)),([]: (List fG))⟩:cN) (.slice none 0 0) ([]: (List fG)) (fun _ _ ho=>⟨⟨rfl,zr⟩,ho⟩) zr o zr zr zr zr zr zr Ko ca fun b1 w o=>?_
   refine RL.nilCheck zr (RL.aZ zr rT (RL.iB 7 b1 o zr zr (iS 12 o) vK fun w o=>?_))
   refine RL.nil ?_
   obtain rfl:=oi hj
   exact⟨rfl,b1,(us168++[(⟨([]: (List Int)),([aq.2]: (List Int)),(rv (.slice none 0 0))⟩:aT)]),o.sp 15 [7,12,13,8,9,10,11,14]⟩
  rintro _ w ⟨bh,us193,O,rfl,o⟩
  refine bO (aG (RC.region (mv (vi aq.2) (RL.fO aq.2 1 (aP (vi (IntKind.wrap .i64 (aq.2+1))) (RL.nil ?_))))))
  obtain rfl:=oi hb
  exact⟨rfl,bh,us193,o.sp 8 [0,1,2,3,4,5,6,7]⟩
 ·intro r _ _ _ _
  exact r.elim
 rintro aq _ w rfl ⟨ao,us166,O,rfl,o⟩
 rw [Fo.dB] at hb
 refine aG (RC.sr (aP (vi 0) (RL.nt ?_)))
 obtain⟨cx,hN,hb⟩:=bd hb
 refine RC.iter (fun(aj: (List cN)×Int) U w=>∃(us350:List aT),SH E V [(0,vp b0 0),(5,vi aj.2)] [bc 66 b0 [v0_0,v0_1,v0_2,v0_3,v0_4,v0_5,ao,v0_7],rd v0_2 p0_2,rd v0_3 p0_3,rd v0_4 p0_4,rd v0_5 p0_5,own 112 ao us350,iz aW us350 aj.1 none,rd v0_7 p0_7] U w) (fun(aj: (List cN)×Int) U w=>∃(us351:List aT),SH E V [(0,vp b0 0)] [bc 66 b0 [v0_0,v0_1,v0_2,v0_3,v0_4,v0_5,ao,v0_7],rd v0_2 p0_2,rd v0_3 p0_3,rd v0_4 p0_4,rd v0_5 p0_5,own 112 ao us351,iz aW us351 aj.1 none,rd v0_7 p0_7] U w) (fun(r:Empty) _ _=>r.elim) hN ?_ ?_ ?_ ?_
 ·exact⟨us166,o.sp 8 [0,3,4,5,6,1,2,7]⟩
 ·rintro aj fl _ w ⟨us352,O,rfl,o⟩ hb
  refine RC.seq (RC.sr (mv (vi aj.2) (mv (vp b0 0) (RL.nilCheck zr (RL.aZ zr wC (RL.aZ zr rR (RL.bK 0 v0_3 o Bj (RL.bC 2 p0_3 o Gp ?_))))))))
  refine ic aj.2 ((p0_3.length:Int)) (RL.nt (dX hb (fun hc hb=>?_) fun hc hb=>?_))
  rotate_left
  ·refine RC.ex ?_
   obtain rfl:=oi hb
   exact⟨rfl,us352,o.sp 8 [0,1,2,3,4,5,6,7]⟩
  refine RC.ss (RC.bs (mv (vp b0 0) (RL.nilCheck zr (RL.aZ zr wC (RL.aZ zr rR (RL.bK 0 v0_3 o Bj (mv (vi aj.2) ?_)))))))
  obtain⟨ar,cb,hb⟩:=bd hb
  refine RL.bM 2 o Gq cb fun cc o=>(RL.bF 0 ar o vJ fun cd o=>(RL.alloc o HB.z fun bj w o=>?_))
  refine RL.bZ 0 o 1 zr vJ fun w o=>?_
  refine RL.ns (mv (vp b0 0) (RL.bG (f:=(fun x=>x)) 0 o zr Fd.self vJ fun b2 o=>?_))
  have o:=(((((o.pull 10).pull 10).dup 10 rfl).dup 10 rfl).dup 9 rfl).pull 9
  obtain⟨aa,cf,hb⟩:=bd hb
  refine RL.call zt zr Ns [(vp b0 0),b2] zr (aD (nv N (i1:=0) o zr cf) ?_)
  rintro _ w ⟨rfl,o⟩
  refine aP (vi aa) (RL.ns (mv (vi aa) (ic aa 0 (RL.nt ?_))))
  obtain⟨bp,hj,hb⟩:=bd hb
  refine RC.jn (fun(bp: (List cN)) U w=>∃(us393:List aT),SH E V [(0,vp b0 0),(5,vi aj.2)] [bc 66 b0 [v0_0,v0_1,v0_2,v0_3,v0_4,v0_5,ao,v0_7],rd v0_2 p0_2,rd v0_3 p0_3,rd v0_4 p0_4,rd v0_5 p0_5,own 112 ao us393,iz aW us393 bp none,rd v0_7 p0_7] U w) bp ?_ ?_
  ·refine dX hj (fun hc hj=>?_) fun hc hj=>?_
   rotate_left
   ·refine RC.skip ?_
    obtain rfl:=oi hj
    exact⟨rfl,us352,o.sp 15 [0,8,9,10,11,1,2,14]⟩
   obtain⟨cy,a7,hj⟩:=bd hj
   obtain⟨a1,ch,hj⟩:=bd hj
   obtain⟨a2,bk,hj⟩:=bd hj
   refine RC.ER E V mixed [1,1,1,0,1,1,1,1,0,1,0,0,0,1,0,1,0,0,0,0,0,0,0] [17,18,19,22] (fun(x:Value×Value×Value)=>(fun al ak ag=>[(0,105,(vp b0 0)),(1,106,(vp b0 0)),(2,107,(vp b0 6)),(3,108,ao),(4,109,(vi aa)),(5,110,(vp b0 0)),(6,111,(vp b0 0)),(7,112,(vp b0 6)),(8,113,ao),(9,114,(vi aa)),(10,115,(zi ao (Int.toNat aa) 3 0)),(11,116,(zi ao (Int.toNat aa) 3 2)),(12,117,(us352.getD (Int.toNat aa) (default:aT)).gq.v),(13,118,(vp bj 0)),(14,119,(str ar.Part)),(15,120,(vp bj 1)),(16,121,(str ar.fG)),(17,122,al),(18,123,ak),(19,124,ag),(20,125,(zi ao (Int.toNat aa) 3 0)),(21,126,(zi ao (Int.toNat aa) 3 2))]) x.1 x.2.1 x.2.2) [(0,vp b0 0),(5,vi aj.2),(6,vp bj 0),(7,vi aa)] [] (fun(D:Nat->Bool) (x:Value×Value×Value)=>(fun al ak ag=>[bif D 0 then (rd al (⟨ar.Part,ar.fG⟩:fG)) else aX,bif D 2 then (rd ak ([(⟨ar.Part,ar.fG⟩:fG)]: (List fG))) else (bif D 1 then (own 98 ak ([(⟨ar.Part,ar.fG⟩:fG)]: (List fG))) else aX),bif D 3 then aX else (bif D 2 then (own 98 ag a1) else aX),bc 66 b0 [v0_0,v0_1,v0_2,v0_3,v0_4,v0_5,ao,v0_7],bif D 3 then (own 112 ao (us352.set (Int.toNat aa) {(us352.getD (Int.toNat aa) (default:aT)) with gq:=rv ag})) else (own 112 ao us352),bif D 3 then (iz aW (us352.set (Int.toNat aa) {(us352.getD (Int.toNat aa) (default:aT)) with gq:=rv ag}) (aj.1.set (Int.toNat aa) {a2 with gq:=a1}) none) else (bif D 2 then (iz aW us352 aj.1 (some (Int.toNat aa))) else (iz aW us352 aj.1 none)),rd b2 ar,bx 94 bj ar,rd cd ar,pt cc ar,aX,rd v0_2 p0_2,rd v0_3 p0_3,rd v0_4 p0_4,rd v0_5 p0_5,aX,aX,rd v0_7 p0_7]) x.1 x.2.1 x.2.2) (fun x=>by kernel_rfl) ?_ ⟨fun _=>je gn,fun _=>wu gn,fun _=>mG gn rT,?_,fun _=>je gn,fun _=>je gn,fun _=>wu gn,fun _=>mG gn rT,?_,fun _=>je gn,?_,?_,?_,fun _=>mG gn uK,?_,fun _=>mG gn yl,?_,?_,?_,?_,?_,?_,?_,trivial⟩ ?_
   ·have o:=(((o.drew).aX).aX).aX
    exact⟨(undef,undef,undef),eU.none,(DB zr),zt,o⟩
   ·rintro D U w hD ai ab ⟨⟨al,ak,ag⟩,hv,ha,_,o⟩
    obtain⟨O,rfl⟩:=(ac (hv.at 2 rfl (ai.1 rfl)) az).eN
    refine RL.bK 3 ao o vK ?_
    exact RL.nil ⟨rfl,(al,ak,ag),hv.pu 3,ha.u,zt,o⟩
   ·rintro D U w hD ai ab ⟨⟨al,ak,ag⟩,hv,ha,_,o⟩
    obtain⟨O,rfl⟩:=(ac (hv.at 7 rfl (ai.1 rfl)) az).eN
    refine RL.bK 3 ao o vK ?_
    exact RL.nil ⟨rfl,(al,ak,ag),hv.pu 8,ha.u,zt,o⟩
   ·rintro D U w hD ai ab ⟨⟨al,ak,ag⟩,hv,ha,_,o⟩
    obtain⟨O,rfl⟩:=(ac (hv.at 8 rfl (ai.1 rfl)) (ac (hv.at 9 rfl (ai.2.1 rfl)) az)).eN
    have o:=((o.bX 4 (nh ab hD 22)).bX 5 (nh ab hD 22)).bX 5 (nf (fun h=>ft hD ((ab 11 _ rfl ((ab 12 _ rfl ((ab 19 _ rfl h).1 rfl)).1 rfl)).1 rfl)))
    have hl412:=o.eE 5
    have hr413:=fT (default:aT) hl412 a7
    refine RL.bS 4 o zr zr Bm hr413 ?_
    have o:=(o.eY 4 (D 22) (nh ab hD 22) (own 112 ao (us352.set (Int.toNat aa) {(us352.getD (Int.toNat aa) (default:aT)) with gq:=rv ag}))).eY 5 (D 19) (nf (fun h=>ft hD ((ab 11 _ rfl ((ab 12 _ rfl ((ab 19 _ rfl h).1 rfl)).1 rfl)).1 rfl))) (iz aW us352 aj.1 (some (Int.toNat aa)))
    have o:=o.eY 5 (D 22) (nh ab hD 22) (iz aW (us352.set (Int.toNat aa) {(us352.getD (Int.toNat aa) (default:aT)) with gq:=rv ag}) (aj.1.set (Int.toNat aa) {a2 with gq:=a1}) none)
    exact RL.nil ⟨rfl,(al,ak,ag),hv.pu 10,ha.u,zt,o⟩
   ·rintro D U w hD ai ab ⟨⟨al,ak,ag⟩,hv,ha,_,o⟩
    obtain⟨O,rfl⟩:=(ac (hv.at 10 rfl (ai.1 rfl)) az).eN
    have o:=((o.bX 4 (nh ab hD 22)).bX 5 (nh ab hD 22)).bX 5 (nf (fun h=>ft hD ((ab 12 _ rfl ((ab 19 _ rfl h).1 rfl)).1 rfl)))
    have hl414:=o.eE 5
    have hr415:=fT (default:aT) hl414 a7
    refine RL.lh (α:=aT) zt (jJ 4 o hr415 0) zF ?_
    have o:=(o.eY 4 (D 22) (nh ab hD 22) (own 112 ao (us352.set (Int.toNat aa) {(us352.getD (Int.toNat aa) (default:aT)) with gq:=rv ag}))).eY 5 (D 19) (nf (fun h=>ft hD ((ab 12 _ rfl ((ab 19 _ rfl h).1 rfl)).1 rfl))) (iz aW us352 aj.1 (some (Int.toNat aa)))
    have o:=o.eY 5 (D 22) (nh ab hD 22) (iz aW (us352.set (Int.toNat aa) {(us352.getD (Int.toNat aa) (default:aT)) with gq:=rv ag}) (aj.1.set (Int.toNat aa) {a2 with gq:=a1}) none)
    exact RL.nil ⟨rfl,(al,ak,ag),hv.pu 11,ha.u,zt,o⟩
   ·rintro D U w hD ai ab ⟨⟨al,ak,ag⟩,hv,ha,_,o⟩
    obtain⟨O,rfl⟩:=(ac (hv.at 11 rfl (ai.1 rfl)) az).eN
    have o:=((o.bX 4 (nh ab hD 22)).bX 5 (nh ab hD 22)).bX 5 (nh ab hD 19)
    have hl416:=o.eE 5
    have hr417:=fT (default:aT) hl416 a7
    refine RL.vk 4 5 aa n8 (default:aT) zr o zr (jJ 4 o hr417 2) zr zr a7 FO ?_
    have o:=(o.eY 4 (D 22) (nh ab hD 22) (own 112 ao (us352.set (Int.toNat aa) {(us352.getD (Int.toNat aa) (default:aT)) with gq:=rv ag}))).eY 5 (D 19) (nh ab hD 19) (iz aW us352 aj.1 (some (Int.toNat aa)))
    have o:=o.eY 5 (D 22) (nh ab hD 22) (iz aW (us352.set (Int.toNat aa) {(us352.getD (Int.toNat aa) (default:aT)) with gq:=rv ag}) (aj.1.set (Int.toNat aa) {a2 with gq:=a1}) none)
    exact RL.nil ⟨rfl,(al,ak,ag),hv.pu 12,ha.u,zt,o⟩
   ·rintro D U w hD ai ab ⟨⟨al,ak,ag⟩,hv,ha,_,o⟩
    obtain⟨O,rfl⟩:=(ac (hv.at 13 rfl (ai.1 rfl)) az).eN
    refine RL.aM 7 o zr nY Ba ?_
    exact RL.nil ⟨rfl,(al,ak,ag),hv.pu 14,ha.u,zt,o⟩
   ·rintro D U w hD ai ab ⟨⟨al,ak,ag⟩,hv,ha,_,o⟩
    obtain⟨O,rfl⟩:=(ac (hv.at 15 rfl (ai.1 rfl)) az).eN
    refine RL.aM 7 o zr qu Ba ?_
    exact RL.nil ⟨rfl,(al,ak,ag),hv.pu 16,ha.u,zt,o⟩
   ·rintro D U w hD ai ab ⟨⟨al,ak,ag⟩,hv,ha,_,o⟩
    obtain⟨O,rfl⟩:=(ac (hv.at 14 rfl (ai.1 rfl)) (ac (hv.at 16 rfl (ai.2.1 rfl)) az)).eN
    have o:=((o.bX 0 hD).sc eJ ar.Part).sc eJ ar.fG
    refine RL.build (⟨ar.Part,ar.fG⟩:fG) trivial rfl o [(0,(str ar.Part)),(1,(str ar.fG))] rfl Lm rfl (fun M hs g=>by have h:=Ju M;exact cS.cons (f:=fun(x:fG) y=>{x with Part:=y}) h DE (g.sat 1 _ rfl).1 fun _ h=>cS.cons (f:=fun(x:fG) y=>{x with fG:=y}) h DG (g.sat 0 _ rfl).1 fun _ h=>cS.nil h) fun cj o=>?_
    have o:=(o.pl 21 [0,4,5,6,7,8,9,10,11,12,13,14,15,16,17,18,19,20]).cD 0 true rfl aX
    exact RL.nil ⟨rfl,(cj,ak,ag),hv.pu 17,ha.u,zt,o⟩
   ·rintro D U w hD ai ab ⟨⟨al,ak,ag⟩,hv,ha,_,o⟩
    obtain⟨O,rfl⟩:=(ac (hv.at 17 rfl (ai.1 rfl)) az).eN
    have o:=((o.cC 0 (ai.1 rfl)).bX 1 (nh ab hD 19)).bX 1 hD
    refine RL.dQ ([(⟨ar.Part,ar.fG⟩:fG)]: (List fG)) o [al] JB Kf (fun M hs g=>⟨(g.sat 0 _ zr).1,zt⟩) fun b3 w o=>?_
    have o:=(((o.pl 19 [1,0,3,4,5,6,7,8,9,10,11,12,13,14,15,16,17,18]).cD 0 (D 17) (ai.1 rfl) aX).cD 1 true rfl aX).eY 1 (D 19) (nh ab hD 19) (rd b3 ([(⟨ar.Part,ar.fG⟩:fG)]: (List fG)))
    exact RL.nil ⟨rfl,(al,b3,ag),hv.pu 18,ha.u,zt,o⟩
   ·rintro D U w hD ai ab ⟨⟨al,ak,ag⟩,hv,ha,_,o⟩
    obtain⟨O,rfl⟩:=(ac (hv.at 12 rfl (ai.1 rfl)) (ac (hv.at 18 rfl (ai.2.1 rfl)) az)).eN
    have o:=(((((((o.bX 1 hD).cC 1 (ai.2.1 rfl)).bX 2 (nh ab hD 22)).bX 2 hD).bX 4 (nh ab hD 22)).bX 5 (nh ab hD 22)).bX 5 hD).zS (j:=5) (jj:=aa) n8 (default:aT) rfl a7
    have o:=o.freeze 2
    refine RL.app 0 2 o JC ch fun bq w o=>?_
    have o:=((((o.pl 19 [1,2,0,4,5,6,7,8,9,10,11,12,13,14,15,16,17,18]).cD 1 true rfl (bif D 18 then (own 98 ak ([(⟨ar.Part,ar.fG⟩:fG)]: (List fG))) else aX)).cD 2 true rfl aX).eY 2 (D 22) (nh ab hD 22) aX).eY 4 (D 22) (nh ab hD 22) (own 112 ao (us352.set (Int.toNat aa) {(us352.getD (Int.toNat aa) (default:aT)) with gq:=rv bq}))
    have o:=(o.cD 5 true rfl (iz aW us352 aj.1 none)).eY 5 (D 22) (nh ab hD 22) (iz aW (us352.set (Int.toNat aa) {(us352.getD (Int.toNat aa) (default:aT)) with gq:=rv bq}) (aj.1.set (Int.toNat aa) {a2 with gq:=a1}) none)
    exact RL.nil ⟨rfl,(al,ak,bq),hv.pu 19,ha.u,zt,o⟩
   ·rintro D U w hD ai ab ⟨⟨al,ak,ag⟩,hv,ha,_,o⟩
    obtain⟨O,rfl⟩:=(ac (hv.at 3 rfl (ai.1 rfl)) (ac (hv.at 4 rfl (ai.2.1 rfl)) az)).eN
    have o:=o.bX 4 (nf (fun h=>ft hD ((ab 21 _ rfl ((ab 22 _ rfl h).1 rfl)).1 rfl)))
    have o:=o.bX 5 (nf (fun h=>ft hD ((ab 21 _ rfl ((ab 22 _ rfl h).1 rfl)).1 rfl)))
    have o:=o.cC 5 (ai.2.2.2.2.2.2.2.2.2.2.2.2.2.2.2.2.2.2.2.2.2.1 rfl)
    have hl421:=o.eE 5
    have hr422:=fT (default:aT) hl421 bk
    refine RL.bS 4 o zr zr Bm hr422 ?_
    have o:=o.eY 4 (D 22) (nf (fun h=>ft hD ((ab 21 _ rfl ((ab 22 _ rfl h).1 rfl)).1 rfl))) (own 112 ao (us352.set (Int.toNat aa) {(us352.getD (Int.toNat aa) (default:aT)) with gq:=rv ag}))
    have o:=(o.cD 5 (D 19) (ai.2.2.2.2.2.2.2.2.2.2.2.2.2.2.2.2.2.2.2.2.2.1 rfl) (iz aW us352 aj.1 none)).eY 5 (D 22) (nf (fun h=>ft hD ((ab 21 _ rfl ((ab 22 _ rfl h).1 rfl)).1 rfl))) (iz aW (us352.set (Int.toNat aa) {(us352.getD (Int.toNat aa) (default:aT)) with gq:=rv ag}) (aj.1.set (Int.toNat aa) {a2 with gq:=a1}) none)
    exact RL.nil ⟨rfl,(al,ak,ag),hv.pu 20,ha.u,zt,o⟩
   ·rintro D U w hD ai ab ⟨⟨al,ak,ag⟩,hv,ha,_,o⟩
    obtain⟨O,rfl⟩:=(ac (hv.at 20 rfl (ai.1 rfl)) az).eN
    have o:=((o.bX 4 (nh ab hD 22)).bX 5 (nh ab hD 22)).cC 5 (ai.2.2.2.2.2.2.2.2.2.2.2.2.2.2.2.2.2.2.2.2.1 rfl)
    have hl423:=o.eE 5
    have hr424:=fT (default:aT) hl423 bk
    refine RL.lh (α:=aT) zt (jJ 4 o hr424 0) zF ?_
    have o:=(o.eY 4 (D 22) (nh ab hD 22) (own 112 ao (us352.set (Int.toNat aa) {(us352.getD (Int.toNat aa) (default:aT)) with gq:=rv ag}))).cD 5 (D 19) (ai.2.2.2.2.2.2.2.2.2.2.2.2.2.2.2.2.2.2.2.2.1 rfl) (iz aW us352 aj.1 none)
    have o:=o.eY 5 (D 22) (nh ab hD 22) (iz aW (us352.set (Int.toNat aa) {(us352.getD (Int.toNat aa) (default:aT)) with gq:=rv ag}) (aj.1.set (Int.toNat aa) {a2 with gq:=a1}) none)
    exact RL.nil ⟨rfl,(al,ak,ag),hv.pu 21,ha.u,zt,o⟩
   ·rintro D U w hD ai ab ⟨⟨al,ak,ag⟩,hv,ha,_,o⟩
    obtain⟨O,rfl⟩:=(ac (hv.at 19 rfl (ai.2.1 rfl)) (ac (hv.at 21 rfl (ai.1 rfl)) az)).eN
    have o:=((((o.bX 2 hD).cC 2 (ai.2.1 rfl)).bX 4 hD).bX 5 hD).cC 5 (ai.2.1 rfl)
    have hl425:=o.eE 5
    have hr426:=fT (default:aT) hl425 bk
    refine RL.tr 4 5 2 aa n8 (default:aT) o zr zr (jJ 4 o hr426 2) zr zr zr bk FO fun w o=>?_
    have o:=((o.cD 2 true rfl (bif D 19 then (own 98 ag a1) else aX)).cD 4 true rfl (own 112 ao us352)).cD 5 true rfl (bif D 19 then (iz aW us352 aj.1 (some (Int.toNat aa))) else (iz aW us352 aj.1 none))
    exact RL.nil ⟨rfl,(al,ak,ag),hv.n1,ha,zt,o⟩
   rintro D U w a8 ⟨⟨al,ak,ag⟩,hv,ha,_,o⟩
   have o:=((((o.cC 0 (jQ a8 17)).cC 1 (jQ a8 19)).cC 2 (jQ a8 22)).cC 4 (jQ a8 22)).cC 5 (jQ a8 22)
   obtain⟨O,rfl⟩:=(ac (ha.at 0 rfl) (ac (ha.at 1 rfl) (ac (ha.at 2 rfl) (ac (ha.at 3 rfl) az)))).eN
   obtain rfl:=oi hj
   exact⟨rfl,(us352.set (Int.toNat aa) {(us352.getD (Int.toNat aa) (default:aT)) with gq:=rv ag}),o.sp 18 [3,11,12,13,14,4,5,17]⟩
  rintro _ w ⟨us393,O,rfl,o⟩
  refine bO (aG (RC.region (mv (vi aj.2) (RL.fO aj.2 1 (aP (vi (IntKind.wrap .i64 (aj.2+1))) (RL.nil ?_))))))
  obtain rfl:=oi hb
  exact⟨rfl,us393,o.sp 8 [0,1,2,3,4,5,6,7]⟩
 ·intro r _ _ _ _
  exact r.elim
 rintro aj _ w rfl ⟨us351,O,rfl,o⟩
 rw [Fo.dB] at hb
 obtain rfl:=oi hb
 have o:=o.zB (X:=aW) (b:=6) (j:=5) rfl (fun M h u x cs=>xq M h u x cs) rfl rfl (by decide)
 refine CZ ?_
 exact IB zr ⟨ao,zr,o.pk 8 [0,5]⟩
def sO (E:World) (V:List HP) (res: ((List (List aI))×(List aI)×(List cE)×(List fP)×(List Int)×(List (List aI))×(List cN)×(List (List Int)))) (v:Value) (w:World):Prop:=∃(ub0:Nat) (u0_0 u0_1:Value) (u0_2 u0_3:Value) (u0_4 u0_5:Value) (u0_6 u0_7:Value),v=vp ub0 0/\Holds E w ([bc 66 ub0 [u0_0,u0_1,u0_2,u0_3,u0_4,u0_5,u0_6,u0_7],rd u0_0 res.1,rd u0_1 res.2.1,rd u0_2 res.2.2.1,rd u0_3 res.2.2.2.1,rd u0_4 res.2.2.2.2.1,rd u0_5 res.2.2.2.2.2.1,own 112 u0_6 res.2.2.2.2.2.2.1,rd u0_7 res.2.2.2.2.2.2.2]++V)
theorem r7 {p0:kH} {res: ((List (List aI))×(List aI)×(List cE)×(List fP)×(List Int)×(List (List aI))×(List cN)×(List (List Int)))} (j:Holds E w V) (h0:V[i0]? =some (rd v0 p0)) (hb:jh N p0=some res):
    Calls bN 19 [v0].toArray w (gQ (sO E V res)):=by
 unfold jh at hb
 refine enter Tryz.func19 zr zr ?_
 have j:=j.dup (i0+0) h0
 refine RC.sr (RL.dK 0 v0 j zr fun a2 w j=>?_)
 refine aP (.pointer none) (RL.ns (RL.bG (f:=(fun x=>x)) 0 j zr Fd.self rN fun cp j=>?_))
 obtain⟨cs,hcs,hv37,j⟩:=j.FG (i:=0) rfl rfl
 obtain⟨ar,au,av,aw,rfl⟩:=KO hcs
 have j:=(((j.mV (i:=0) (k:=0) (f:=fun x=>x.aJ) rfl iW rfl rfl rfl).mV (i:=1) (k:=1) (f:=fun x=>x.cH) rfl sq rfl rfl rfl).mV (i:=2) (k:=2) (f:=fun x=>x.aO) rfl gU rfl rfl rfl).mV (i:=3) (k:=3) (f:=fun x=>x.bV) rfl oF rfl rfl rfl
 refine RL.Hn (zs:=[(.slice none 0 0),(.slice none 0 0),(.slice none 0 0),(.slice none 0 0),(.slice none 0 0),(.slice none 0 0),(.slice none 0 0),(.slice none 0 0)]) (cs:=[ar,au,av,aw,(.slice none 0 0),(.slice none 0 0),(.slice none 0 0),(.slice none 0 0)]) zt zr [(0,cp)] [(0,[ar,au,av,aw])] zr Np ⟨rfl,(congrArg Value.cells hv37),zt⟩ zr (RL.Ci [ar,au,av,aw,(.slice none 0 0),(.slice none 0 0),(.slice none 0 0),(.slice none 0 0)] zr j zr (w5.all (⟨(nK 3 j),(nK 2 j),(nK 1 j),(nK 0 j),zr,zr,zr,zr,zt⟩:w5 [ar,au,av,aw,(.slice none 0 0),(.slice none 0 0),(.slice none 0 0),(.slice none 0 0)])) fun ae w j=>?_)
 refine aP (vp ae 0) (RL.nq (RC.sr (aP (vi 0) (RL.nt ?_))))
 obtain⟨dk,hN,hb⟩:=bd hb
 refine RC.iter (fun(ai: (List Int)×(List (List aI))×Int) U w=>∃b5 b6:Value,SH E V [(1,vp a2 0),(3,vp ae 0),(4,vi ai.2.2)] [bx 27 a2 p0,bc 66 ae [ar,au,av,aw,b5,b6,(.slice none 0 0),(.slice none 0 0)],own 3 b5 ai.1,own 23 b6 ai.2.1,rd ar p0.aJ,rd au p0.cH,rd av p0.aO,rd aw p0.bV] U w) (fun(ai: (List Int)×(List (List aI))×Int) U w=>∃a3 a4:Value,SH E V [(1,vp a2 0),(3,vp ae 0)] [bx 27 a2 p0,bc 66 ae [ar,au,av,aw,a3,a4,(.slice none 0 0),(.slice none 0 0)],own 3 a3 ai.1,own 23 a4 ai.2.1,rd ar p0.aJ,rd au p0.cH,rd av p0.aO,rd aw p0.bV] U w) (fun(r:Empty) _ _=>r.elim) hN ?_ ?_ ?_ ?_
 ·have j:=(j.cQ Int 3).cQ (List aI) 23
  exact⟨(.slice none 0 0),(.slice none 0 0),j.sp 11 [9,2,1,0,6,5,4,3]⟩
 ·rintro ai fl _ w ⟨b7,b8,O,rfl,j⟩ hb
  refine RC.seq (RC.sr (mv (vi ai.2.2) (RL.aZ zr me (RL.bG 0 j zr iW oQ fun dm j=>(RL.bC 0 p0.aJ j oR (ic ai.2.2 ((p0.aJ.length:Int)) (RL.nt (dX hb (fun hc hb=>?_) fun hc hb=>?_))))))))
  rotate_left
  ·refine RC.ex ?_
   obtain rfl:=oi hb
   exact⟨rfl,b7,b8,j.sp 9 [1,2,3,4,5,6,7,8]⟩
  refine RC.ss (RC.bs (RL.bG (f:=(fun x=>x)) 1 j zr Fd.self rN fun cq j=>(mv (vi ai.2.2) ?_)))
  obtain⟨dn,cr,hb⟩:=bd hb
  refine RL.call zt zr Ks [cq,(vi ai.2.2)] zr (aD (kl N (p1:=ai.2.2) (i0:=0) j zr cr) ?_)
  rintro ct w j
  have j:=j.freeze 0
  obtain⟨bm,cu,hb⟩:=bd hb
  refine RL.call zt zr LO [ct] zr (aD (np N (i0:=0) j zr cu) ?_)
  rintro bg w j
  refine aP bg (RL.ns (aP (vi 0) (RL.nt ?_)))
  obtain⟨dp,hN,hb⟩:=bd hb
  refine RC.iter (fun(a8: (List Int)×(List (List aI))×Int) U w=>∃b9 ca:Value,SH E V [(1,vp a2 0),(3,vp ae 0),(4,vi ai.2.2),(5,bg),(6,vi a8.2.2)] [bx 27 a2 p0,bc 66 ae [ar,au,av,aw,b9,ca,(.slice none 0 0),(.slice none 0 0)],own 3 b9 a8.1,own 23 ca a8.2.1,rd ar p0.aJ,rd au p0.cH,rd av p0.aO,rd aw p0.bV,own 23 bg bm] U w) (fun(a8: (List Int)×(List (List aI))×Int) U w=>∃bn bo:Value,SH E V [(1,vp a2 0),(3,vp ae 0),(4,vi ai.2.2)] [bx 27 a2 p0,bc 66 ae [ar,au,av,aw,bn,bo,(.slice none 0 0),(.slice none 0 0)],own 3 bn a8.1,own 23 bo a8.2.1,rd ar p0.aJ,rd au p0.cH,rd av p0.aO,rd aw p0.bV,own 23 bg bm] U w) (fun(r:Empty) _ _=>r.elim) hN ?_ ?_ ?_ ?_
  ·exact⟨b7,b8,j.sp 12 [4,5,6,7,8,9,10,11,0]⟩
  ·rintro a8 fl _ w ⟨cb,bp,O,rfl,j⟩ hb
   refine RC.seq (RC.sr (mv (vi a8.2.2) (mv bg (RL.fS 8 bm j oR (ic a8.2.2 ((bm.length:Int)) (RL.nt (dX hb (fun hc hb=>?_) fun hc hb=>?_)))))))
   rotate_left
   ·refine RC.ex ?_
    obtain rfl:=oi hb
    exact⟨rfl,cb,bp,j.sp 9 [0,1,2,3,4,5,6,7,8]⟩
   refine RC.ss (RC.bs (mv (vp ae 0) (mv (vp ae 0) (RL.nilCheck zr (RL.aZ zr yq (RL.bK 1 cb j fM (mv (vi ai.2.2) ?_)))))))
   have j:=j.sc Int ai.2.2
   refine RL.dQ ([ai.2.2]: (List Int)) j [(vi ai.2.2)] eD CX (fun M hs g=>⟨(g.sat 0 _ zr).1,zt⟩) fun dq w j=>?_
   have j:=j.freeze 0
   obtain⟨dr,cv,hb⟩:=bd hb
   refine RL.app 4 0 j rh cv fun bw w j=>?_
   refine RL.nilCheck zr (RL.aZ zr yq (RL.iB 3 bw j zr zr (iS 4 j) fM fun w j=>?_))
   refine RL.nt ?_
   have j:=j.drew
   refine RC.EU (fun w=>Holds E w ([bc 66 ae [ar,au,av,aw,bw,bp,(.slice none 0 0),(.slice none 0 0)]]++V)) mixed zr [1,1,1,1,1,0,0,0,0,2,2,0,0,2] [0,1,2,3,4,5,6,7,8,9,10,11,12,13] (j.pk 11 [3]) (DP.e1 (vp ae 0) zr (fun w=>RL.move (vp ae 0) zt DP.d1) (DP.e1 (vp ae 0) zr (fun w=>RL.move (vp ae 0) zt DP.d1) (DP.e1 (vp ae 0) zr (fun w=>RL.nilCheck zr DP.d1) (DP.e1 (vp ae 5) zr (fun w=>RL.aZ zr rS DP.d1) (DP.IV bp zr (fun w j=>RL.bK 0 bp j oQ DP.d1) (DP.e0 zr (mv bg (aY zr ?_))))))))
   refine mv (vi a8.2.2) (aY zr ?_)
   obtain⟨cw,bz,hb⟩:=bd hb
   refine RL.bS 10 j zr zr rf bz (aY zr (RL.kn (f:=(fun x=>x)) 10 j (jJ 10 j bz 0) (bI bz).2.1 Fd.self q9 fun cx j=>?_))
   refine oN zr (RL.dQ ([cw]: (List (List aI))) j [cx] rf HF (fun M hs g=>⟨(g.sat 0 _ zr).1,zt⟩) fun ds w j=>(DP.d2 (j.pk 13 [5]) (DP.e2 zr ?_)))
   have j:=j.freeze 0
   obtain⟨dt,cy,hb⟩:=bd hb
   refine RL.app 7 0 j EX cy fun cc w j=>?_
   refine DP.d2 (j.pk 13 [5]) (DP.e0 zr (RL.nilCheck zr (aY zr (RL.aZ zr rS (DP.d0 (DP.Me zr zr (RL.iB 5 cc j zr zr (iS 7 j) oQ fun w j=>?_)))))))
   refine DP.d2 zt (DP.z (bO (aG (RC.region (mv (vi a8.2.2) (RL.fO a8.2.2 1 (aP (vi (IntKind.wrap .i64 (a8.2.2+1))) (RL.nil ?_))))))))
   obtain rfl:=oi hb
   exact⟨rfl,bw,cc,j.sp 13 [4,5,6,7,8,9,10,11,12]⟩
  ·intro r _ _ _ _
   exact r.elim
  rintro a8 _ w rfl ⟨bn,bo,O,rfl,j⟩
  rw [Fo.dB] at hb
  refine bO (aG (RC.region (mv (vi ai.2.2) (RL.fO ai.2.2 1 (aP (vi (IntKind.wrap .i64 (ai.2.2+1))) (RL.nil ?_))))))
  obtain rfl:=oi hb
  exact⟨rfl,bn,bo,j.sp 9 [0,1,2,3,4,5,6,7]⟩
 ·intro r _ _ _ _
  exact r.elim
 rintro ai _ w rfl ⟨a3,a4,O,rfl,j⟩
 rw [Fo.dB] at hb
 refine aG (RC.seq (RC.sr (aP (vi 0) (RL.nt ?_))))
 obtain⟨du,hN,hb⟩:=bd hb
 refine RC.iter (fun(a1: (List (List Int))×Int) U w=>∃cd:Value,SH E V [(1,vp a2 0),(3,vp ae 0),(7,vi a1.2)] [bx 27 a2 p0,bc 66 ae [ar,au,av,aw,a3,a4,(.slice none 0 0),cd],own 51 cd a1.1,rd ar p0.aJ,rd au p0.cH,rd av p0.aO,rd aw p0.bV,own 3 a3 ai.1,own 23 a4 ai.2.1] U w) (fun(a1: (List (List Int))×Int) U w=>∃bq:Value,SH E V [(3,vp ae 0)] [bx 27 a2 p0,bc 66 ae [ar,au,av,aw,a3,a4,(.slice none 0 0),bq],own 51 bq a1.1,rd ar p0.aJ,rd au p0.cH,rd av p0.aO,rd aw p0.bV,own 3 a3 ai.1,own 23 a4 ai.2.1] U w) (fun(r:Empty) _ _=>r.elim) hN ?_ ?_ ?_ ?_
 ·have j:=j.cQ (List Int) 51
  exact⟨(.slice none 0 0),j.sp 9 [1,2,0,5,6,7,8,3,4]⟩
 ·rintro a1 fl _ w ⟨a6,O,rfl,j⟩ hb
  refine RC.seq (RC.sr (mv (vi a1.2) (RL.aZ zr iw (RL.bG 0 j zr gU nQ fun dv j=>(RL.bC 0 p0.aO j wy (ic a1.2 ((p0.aO.length:Int)) (RL.nt (dX hb (fun hc hb=>?_) fun hc hb=>?_))))))))
  rotate_left
  ·refine RC.ex ?_
   obtain rfl:=oi hb
   exact⟨rfl,a6,j.sp 10 [1,2,3,4,5,6,7,8,9]⟩
  refine RC.ss (RC.bs (aP (.slice none 0 0) (RL.nq (RC.sr (aP (vi 0) (RL.nt ?_))))))
  obtain⟨dw,hN,hb⟩:=bd hb
  refine RC.iter (fun(ax: (List Int)×Int) U w=>∃cf:Value,SH E V [(1,vp a2 0),(3,vp ae 0),(7,vi a1.2),(8,cf),(9,vi ax.2)] [bx 27 a2 p0,bc 66 ae [ar,au,av,aw,a3,a4,(.slice none 0 0),a6],rd ar p0.aJ,rd au p0.cH,rd av p0.aO,rd aw p0.bV,own 3 a3 ai.1,own 23 a4 ai.2.1,own 51 a6 a1.1,own 3 cf ax.1] U w) (fun(ax: (List Int)×Int) U w=>∃bl:Value,SH E V [(1,vp a2 0),(3,vp ae 0),(7,vi a1.2),(8,bl)] [bx 27 a2 p0,bc 66 ae [ar,au,av,aw,a3,a4,(.slice none 0 0),a6],rd ar p0.aJ,rd au p0.cH,rd av p0.aO,rd aw p0.bV,own 3 a3 ai.1,own 23 a4 ai.2.1,own 51 a6 a1.1,own 3 bl ax.1] U w) (fun(r:Empty) _ _=>r.elim) hN ?_ ?_ ?_ ?_
  ·have j:=j.cQ Int 3
   exact⟨(.slice none 0 0),j.sp 11 [2,3,5,6,7,8,9,10,4,0]⟩
  ·rintro ax fl _ w ⟨ba,O,rfl,j⟩ hb
   refine RC.seq (RC.seq ?_)
   obtain⟨b0,hj,hb⟩:=bd hb
   refine RC.jn (fun(b0:Bool)=>SH E V [(1,vp a2 0),(3,vp ae 0),(7,vi a1.2),(8,ba),(9,vi ax.2),(74,vb b0)] [bx 27 a2 p0,bc 66 ae [ar,au,av,aw,a3,a4,(.slice none 0 0),a6],rd ar p0.aJ,rd au p0.cH,rd av p0.aO,rd aw p0.bV,own 3 a3 ai.1,own 23 a4 ai.2.1,own 51 a6 a1.1,own 3 ba ax.1]) b0 ?_ ?_
   ·refine RC.region (mv (vi ax.2) (mv (vp ae 0) (RL.nilCheck zr (RL.aZ zr rS (RL.bK 1 a4 j oQ (RL.fS 7 ai.2.1 j oR (ic ax.2 ((ai.2.1.length:Int)) (mv (vb (decide (ax.2< (ai.2.1.length:Int)))) ?_))))))))
    refine fN hj (fun a7 hj=>?_) fun a7 hj=>?_
    rotate_left
    ·refine bJ a7 (bJ a7 (bJ a7 (bJ a7 (bJ a7 (bJ a7 (fU a7 (vb false) (RL.nil ?_)))))))
     obtain rfl:=oi hj
     exact⟨rfl,j.sp 10 [0,1,2,3,4,5,6,7,8,9]⟩
    refine RL.aZ (hg:=(cg a7)) zr iw (RL.bG (hg:=(cg a7)) 0 j zr gU nQ fun dx j=>(RL.move (vi a1.2) (cg a7) ?_))
    obtain⟨ch,cz,hj⟩:=bd hj
    refine RL.bM (hg:=(cg a7)) 0 j qE cz fun dy j=>(RL.dN (hg:=(cg a7)) 0 j zr yo qt fun dz j=>(RL.bB (hg:=(cg a7)) ch.fY 0 j BN (fU a7 (vb ch.fY) (RL.nil ?_))))
    obtain rfl:=oi hj
    exact⟨rfl,j.sp 13 [3,4,5,6,7,8,9,10,11,12]⟩
   rintro _ w ⟨O,rfl,j⟩
   refine aG (dX hb (fun hc hb=>?_) fun hc hb=>?_)
   rotate_left
   ·refine RC.ex ?_
    obtain rfl:=oi hb
    exact⟨rfl,ba,j.sp 10 [0,1,2,3,4,5,6,7,8,9]⟩
   refine RC.ss (RC.block (RC.seq ?_))
   obtain⟨b1,hj,hb⟩:=bd hb
   refine RC.jn (fun(b1:Bool)=>SH E V [(1,vp a2 0),(3,vp ae 0),(7,vi a1.2),(8,ba),(9,vi ax.2),(105,vb b1)] [bx 27 a2 p0,bc 66 ae [ar,au,av,aw,a3,a4,(.slice none 0 0),a6],rd ar p0.aJ,rd au p0.cH,rd av p0.aO,rd aw p0.bV,own 3 a3 ai.1,own 23 a4 ai.2.1,own 51 a6 a1.1,own 3 ba ax.1]) b1 ?_ ?_
   ·obtain⟨bh,cj,hj⟩:=bd hj
    obtain⟨bj,bk,hj⟩:=bd hj
    obtain⟨br,ck,hj⟩:=bd hj
    refine fN hj (fun a0 hj=>?_) fun a0 hj=>?_
    rotate_left
    ·refine RC.ER E V mixed [1,0,1,0,0,1,1,1,0,1,0,0,0,1,1,1,1,1,1,1,1,1,1,1,1,1,1,1,1] [1,3,4] (fun(x:Value×Value×Value)=>(fun ag ah af=>[(0,77,(vp a2 2)),(1,78,ag),(2,79,(vi a1.2)),(3,80,ah),(4,81,af),(5,82,(vp ae 0)),(6,83,(vp ae 0)),(7,84,(vp ae 4)),(8,85,a3),(9,86,(vi ax.2)),(10,87,(zi a3 (Int.toNat ax.2) 1 0)),(11,88,(vi bj)),(12,89,(vb br)),(13,90,(vb br)),(14,91,undef),(15,92,undef),(16,93,undef),(17,94,undef),(18,95,undef),(19,96,undef),(20,97,undef),(21,98,undef),(22,99,undef),(23,100,undef),(24,101,undef),(25,102,undef),(26,103,undef),(27,104,undef),(28,105,(vb false))]) x.1 x.2.1 x.2.2) [(1,vp a2 0),(3,vp ae 0),(7,vi a1.2),(8,ba),(9,vi ax.2)] [] (fun(D:Nat->Bool) (x:Value×Value×Value)=>(fun ag ah af=>[bif D 0 then (rd ag p0.aO) else aX,bif D 1 then (pt ah bh) else aX,bif D 2 then (rd af bh) else aX,bx 27 a2 p0,bc 66 ae [ar,au,av,aw,a3,a4,(.slice none 0 0),a6],rd ar p0.aJ,rd au p0.cH,rd av p0.aO,rd aw p0.bV,own 3 a3 ai.1,own 23 a4 ai.2.1,own 51 a6 a1.1,own 3 ba ax.1]) x.1 x.2.1 x.2.2) (fun x=>by kernel_rfl) ?_ ⟨fun _=>mG gn iw,?_,fun _=>je gn,?_,?_,fun _=>je gn,fun _=>wu gn,fun _=>mG gn yq,?_,fun _=>je gn,?_,?_,?_,fun _=>je gn,fun _=>sj a0,fun _=>sj a0,fun _=>sj a0,fun _=>sj a0,fun _=>sj a0,fun _=>sj a0,fun _=>sj a0,fun _=>sj a0,fun _=>sj a0,fun _=>sj a0,fun _=>sj a0,fun _=>sj a0,fun _=>sj a0,fun _=>sj a0,fun _=>KW gn a0 rfl,trivial⟩ ?_
     ·have j:=(((j.drew).aX).aX).aX
      exact⟨(undef,undef,undef),eU.none,(DB zr),zt,j⟩
     ·rintro D U w hD aa a5 ⟨⟨ag,ah,af⟩,o,ha,_,j⟩
      obtain⟨O,rfl⟩:=(ac (o.at 0 rfl (aa.1 rfl)) az).eN
      have j:=j.bX 0 hD
      refine RL.bG 3 j zr gU nQ fun c0 j=>?_
      have j:=(j.pl 14 [0,2,3,4,5,6,7,8,9,10,11,12,13]).cD 0 true rfl aX
      exact RL.nil ⟨rfl,(c0,ah,af),o.pu 1,ha.u,zt,j⟩
     ·rintro D U w hD aa a5 ⟨⟨ag,ah,af⟩,o,ha,_,j⟩
      obtain⟨O,rfl⟩:=(ac (o.at 1 rfl (aa.1 rfl)) (ac (o.at 2 rfl (aa.2.1 rfl)) az)).eN
      have j:=(j.cC 0 (aa.1 rfl)).bX 1 hD
      refine RL.bM 0 j qE cj fun c1 j=>?_
      have j:=((j.pl 14 [1,0,3,4,5,6,7,8,9,10,11,12,13]).cD 0 (D 1) (aa.1 rfl) aX).cD 1 true rfl aX
      exact RL.nil ⟨rfl,(ag,c1,af),o.pu 3,ha.u,zt,j⟩
     ·rintro D U w hD aa a5 ⟨⟨ag,ah,af⟩,o,ha,_,j⟩
      obtain⟨O,rfl⟩:=(ac (o.at 3 rfl (aa.1 rfl)) az).eN
      have j:=(j.cC 1 (aa.1 rfl)).bX 2 hD
      refine RL.bF 1 bh j mf fun c2 j=>?_
      have j:=((j.pl 14 [1,2,0,4,5,6,7,8,9,10,11,12,13]).cD 1 (D 3) (aa.1 rfl) aX).cD 2 true rfl aX
      exact RL.nil ⟨rfl,(ag,ah,c2),o.pu 4,ha.u,zt,j⟩
     ·rintro D U w hD aa a5 ⟨⟨ag,ah,af⟩,o,ha,_,j⟩
      obtain⟨O,rfl⟩:=(ac (o.at 7 rfl (aa.1 rfl)) az).eN
      refine RL.bK 4 a3 j fM ?_
      exact RL.nil ⟨rfl,(ag,ah,af),o.pu 8,ha.u,zt,j⟩
     ·rintro D U w hD aa a5 ⟨⟨ag,ah,af⟩,o,ha,_,j⟩
      obtain⟨O,rfl⟩:=(ac (o.at 8 rfl (aa.1 rfl)) (ac (o.at 9 rfl (aa.2.1 rfl)) az)).eN
      refine RL.bS 9 j zr zr eD bk ?_
      exact RL.nil ⟨rfl,(ag,ah,af),o.pu 10,ha.u,zt,j⟩
     ·rintro D U w hD aa a5 ⟨⟨ag,ah,af⟩,o,ha,_,j⟩
      obtain⟨O,rfl⟩:=(ac (o.at 10 rfl (aa.1 rfl)) az).eN
      refine RL.dR (f:=(fun x=>x)) 9 j (jJ 9 j bk 0) (bI bk).2.1 Fd.self cG ?_
      exact RL.nil ⟨rfl,(ag,ah,af),o.pu 11,ha.u,zt,j⟩
     ·rintro D U w hD aa a5 ⟨⟨ag,ah,af⟩,o,ha,_,j⟩
      obtain⟨O,rfl⟩:=(ac (o.at 4 rfl (aa.1 rfl)) (ac (o.at 11 rfl (aa.2.1 rfl)) az)).eN
      have j:=j.cC 2 (aa.1 rfl)
      refine RL.call zt zr I2 [af,(vi bj)] zr (aD (jw N (p1:=bj) (i0:=2) j zr ck) ?_)
      rintro _ w ⟨rfl,j⟩
      have j:=j.cD 2 (D 4) (aa.1 rfl) aX
      exact RL.nil ⟨rfl,(ag,ah,af),o.pu 12,ha.u,zt,j⟩
     rintro D U w a9 ⟨⟨ag,ah,af⟩,o,ha,_,j⟩
     have j:=((j.cC 0 (jQ a9 1)).cC 1 (jQ a9 3)).cC 2 (jQ a9 4)
     obtain⟨O,rfl⟩:=(ac (o.at 28 rfl (jQ a9 28)) (ac (ha.at 0 rfl) (ac (ha.at 1 rfl) (ac (ha.at 2 rfl) (ac (ha.at 3 rfl) (ac (ha.at 4 rfl) az)))))).eN
     obtain rfl:=oi hj
     exact⟨rfl,j.sp 13 [3,4,5,6,7,8,9,10,11,12]⟩
    obtain⟨c3,b2,hj⟩:=bd hj
    obtain⟨b3,c4,hj⟩:=bd hj
    obtain⟨c5,c6,hj⟩:=bd hj
    obtain⟨cl,c7,hj⟩:=bd hj
    refine RC.ER E V mixed [1,0,1,0,0,1,1,1,0,1,0,0,0,1,1,1,1,0,1,0,0,1,0,1,0,0,0,0,1] [1,3,4,20,22,24,25,26] (fun(x:Value×Value×Value×Value×Value×Value×Value×Value)=>(fun ag ah af ak ao aq al an=>[(0,77,(vp a2 2)),(1,78,ag),(2,79,(vi a1.2)),(3,80,ah),(4,81,af),(5,82,(vp ae 0)),(6,83,(vp ae 0)),(7,84,(vp ae 4)),(8,85,a3),(9,86,(vi ax.2)),(10,87,(zi a3 (Int.toNat ax.2) 1 0)),(11,88,(vi bj)),(12,89,(vb br)),(13,90,(vb br)),(14,91,(vp ae 0)),(15,92,(vp ae 0)),(16,93,(vp ae 5)),(17,94,a4),(18,95,(vi ax.2)),(19,96,(zi a4 (Int.toNat ax.2) 1 0)),(20,97,ak),(21,98,(vp a2 2)),(22,99,ao),(23,100,(vi a1.2)),(24,101,aq),(25,102,al),(26,103,an),(27,104,(vb cl)),(28,105,(vb cl))]) x.1 x.2.1 x.2.2.1 x.2.2.2.1 x.2.2.2.2.1 x.2.2.2.2.2.1 x.2.2.2.2.2.2.1 x.2.2.2.2.2.2.2) [(1,vp a2 0),(3,vp ae 0),(7,vi a1.2),(8,ba),(9,vi ax.2)] [] (fun(D:Nat->Bool) (x:Value×Value×Value×Value×Value×Value×Value×Value)=>(fun ag ah af ak ao aq al an=>[bif D 0 then (rd ag p0.aO) else aX,bif D 1 then (pt ah bh) else aX,bif D 2 then (rd af bh) else aX,bif D 3 then (rd ak c3) else aX,bif D 4 then (rd ao p0.aO) else aX,bif D 5 then (pt aq b3) else aX,bif D 6 then (rd al b3) else aX,bif D 7 then (rd an c5) else aX,bx 27 a2 p0,bc 66 ae [ar,au,av,aw,a3,a4,(.slice none 0 0),a6],rd ar p0.aJ,rd au p0.cH,rd av p0.aO,rd aw p0.bV,own 3 a3 ai.1,own 23 a4 ai.2.1,own 51 a6 a1.1,own 3 ba ax.1]) x.1 x.2.1 x.2.2.1 x.2.2.2.1 x.2.2.2.2.1 x.2.2.2.2.2.1 x.2.2.2.2.2.2.1 x.2.2.2.2.2.2.2) (fun x=>by kernel_rfl) ?_ ⟨fun _=>mG gn iw,?_,fun _=>je gn,?_,?_,fun _=>je gn,fun _=>wu gn,fun _=>mG gn yq,?_,fun _=>je gn,?_,?_,?_,fun _=>je gn,fun _=>je (gy a0),fun _=>wu (gy a0),fun _=>mG (gy a0) rS,?_,fun _=>je (gy a0),?_,?_,fun _=>mG (gy a0) iw,?_,fun _=>je (gy a0),?_,?_,?_,?_,fun _=>KU gn a0 rfl,trivial⟩ ?_
    ·have j:=((((((((j.drew).aX).aX).aX).aX).aX).aX).aX).aX
     exact⟨(undef,undef,undef,undef,undef,undef,undef,undef),eU.none,(DB zr),zt,j⟩
    ·rintro D U w hD aa a5 ⟨⟨ag,ah,af,ak,ao,aq,al,an⟩,o,ha,_,j⟩
     obtain⟨O,rfl⟩:=(ac (o.at 0 rfl (aa.1 rfl)) az).eN
     have j:=j.bX 0 hD
     refine RL.bG 8 j zr gU nQ fun c8 j=>?_
     have j:=(j.pl 19 [0,2,3,4,5,6,7,8,9,10,11,12,13,14,15,16,17,18]).cD 0 true rfl aX
     exact RL.nil ⟨rfl,(c8,ah,af,ak,ao,aq,al,an),o.pu 1,ha.u,zt,j⟩
    ·rintro D U w hD aa a5 ⟨⟨ag,ah,af,ak,ao,aq,al,an⟩,o,ha,_,j⟩
     obtain⟨O,rfl⟩:=(ac (o.at 1 rfl (aa.1 rfl)) (ac (o.at 2 rfl (aa.2.1 rfl)) az)).eN
     have j:=(j.cC 0 (aa.1 rfl)).bX 1 hD
     refine RL.bM 0 j qE cj fun c9 j=>?_
     have j:=((j.pl 19 [1,0,3,4,5,6,7,8,9,10,11,12,13,14,15,16,17,18]).cD 0 (D 1) (aa.1 rfl) aX).cD 1 true rfl aX
     exact RL.nil ⟨rfl,(ag,c9,af,ak,ao,aq,al,an),o.pu 3,ha.u,zt,j⟩
    ·rintro D U w hD aa a5 ⟨⟨ag,ah,af,ak,ao,aq,al,an⟩,o,ha,_,j⟩
     obtain⟨O,rfl⟩:=(ac (o.at 3 rfl (aa.1 rfl)) az).eN
     have j:=(j.cC 1 (aa.1 rfl)).bX 2 hD
     refine RL.bF 1 bh j mf fun da j=>?_
     have j:=((j.pl 19 [1,2,0,4,5,6,7,8,9,10,11,12,13,14,15,16,17,18]).cD 1 (D 3) (aa.1 rfl) aX).cD 2 true rfl aX
     exact RL.nil ⟨rfl,(ag,ah,da,ak,ao,aq,al,an),o.pu 4,ha.u,zt,j⟩
    ·rintro D U w hD aa a5 ⟨⟨ag,ah,af,ak,ao,aq,al,an⟩,o,ha,_,j⟩
     obtain⟨O,rfl⟩:=(ac (o.at 7 rfl (aa.1 rfl)) az).eN
     refine RL.bK 9 a3 j fM ?_
     exact RL.nil ⟨rfl,(ag,ah,af,ak,ao,aq,al,an),o.pu 8,ha.u,zt,j⟩
    ·rintro D U w hD aa a5 ⟨⟨ag,ah,af,ak,ao,aq,al,an⟩,o,ha,_,j⟩
     obtain⟨O,rfl⟩:=(ac (o.at 8 rfl (aa.1 rfl)) (ac (o.at 9 rfl (aa.2.1 rfl)) az)).eN
     refine RL.bS 14 j zr zr eD bk ?_
     exact RL.nil ⟨rfl,(ag,ah,af,ak,ao,aq,al,an),o.pu 10,ha.u,zt,j⟩
    ·rintro D U w hD aa a5 ⟨⟨ag,ah,af,ak,ao,aq,al,an⟩,o,ha,_,j⟩
     obtain⟨O,rfl⟩:=(ac (o.at 10 rfl (aa.1 rfl)) az).eN
     refine RL.dR (f:=(fun x=>x)) 14 j (jJ 14 j bk 0) (bI bk).2.1 Fd.self cG ?_
     exact RL.nil ⟨rfl,(ag,ah,af,ak,ao,aq,al,an),o.pu 11,ha.u,zt,j⟩
    ·rintro D U w hD aa a5 ⟨⟨ag,ah,af,ak,ao,aq,al,an⟩,o,ha,_,j⟩
     obtain⟨O,rfl⟩:=(ac (o.at 4 rfl (aa.1 rfl)) (ac (o.at 11 rfl (aa.2.1 rfl)) az)).eN
     have j:=j.cC 2 (aa.1 rfl)
     refine RL.call zt zr I2 [af,(vi bj)] zr (aD (jw N (p1:=bj) (i0:=2) j zr ck) ?_)
     rintro _ w ⟨rfl,j⟩
     have j:=j.cD 2 (D 4) (aa.1 rfl) aX
     exact RL.nil ⟨rfl,(ag,ah,af,ak,ao,aq,al,an),o.pu 12,ha.u,zt,j⟩
    ·rintro D U w hD aa a5 ⟨⟨ag,ah,af,ak,ao,aq,al,an⟩,o,ha,_,j⟩
     obtain⟨O,rfl⟩:=(ac (o.at 13 rfl (aa.2.1 rfl)) (ac (o.at 16 rfl (aa.1 rfl)) az)).eN
     refine RL.bK (hg:=(cg a0)) 9 a4 j oQ ?_
     exact RL.nil ⟨rfl,(ag,ah,af,ak,ao,aq,al,an),o.pu 17,ha.u,zt,j⟩
    ·rintro D U w hD aa a5 ⟨⟨ag,ah,af,ak,ao,aq,al,an⟩,o,ha,_,j⟩
     obtain⟨O,rfl⟩:=(ac (o.at 13 rfl (aa.2.2.1 rfl)) (ac (o.at 17 rfl (aa.1 rfl)) (ac (o.at 18 rfl (aa.2.1 rfl)) az))).eN
     refine RL.bS (hg:=(cg a0)) 15 j zr zr rf b2 ?_
     exact RL.nil ⟨rfl,(ag,ah,af,ak,ao,aq,al,an),o.pu 19,ha.u,zt,j⟩
    ·rintro D U w hD aa a5 ⟨⟨ag,ah,af,ak,ao,aq,al,an⟩,o,ha,_,j⟩
     obtain⟨O,rfl⟩:=(ac (o.at 13 rfl (aa.2.1 rfl)) (ac (o.at 19 rfl (aa.1 rfl)) az)).eN
     have j:=j.bX 3 hD
     refine RL.kn (hg:=(cg a0)) (f:=(fun x=>x)) 15 j (jJ 15 j b2 0) (bI b2).2.1 Fd.self q9 fun db j=>?_
     have j:=(j.pl 19 [1,2,3,0,5,6,7,8,9,10,11,12,13,14,15,16,17,18]).cD 3 true rfl aX
     exact RL.nil ⟨rfl,(ag,ah,af,db,ao,aq,al,an),o.pu 20,ha.u,zt,j⟩
    ·rintro D U w hD aa a5 ⟨⟨ag,ah,af,ak,ao,aq,al,an⟩,o,ha,_,j⟩
     obtain⟨O,rfl⟩:=(ac (o.at 13 rfl (aa.2.1 rfl)) (ac (o.at 21 rfl (aa.1 rfl)) az)).eN
     have j:=j.bX 4 hD
     refine RL.bG (hg:=(cg a0)) 8 j zr gU nQ fun dc j=>?_
     have j:=(j.pl 19 [1,2,3,4,0,6,7,8,9,10,11,12,13,14,15,16,17,18]).cD 4 true rfl aX
     exact RL.nil ⟨rfl,(ag,ah,af,ak,dc,aq,al,an),o.pu 22,ha.u,zt,j⟩
    ·rintro D U w hD aa a5 ⟨⟨ag,ah,af,ak,ao,aq,al,an⟩,o,ha,_,j⟩
     obtain⟨O,rfl⟩:=(ac (o.at 13 rfl (aa.2.2.1 rfl)) (ac (o.at 22 rfl (aa.1 rfl)) (ac (o.at 23 rfl (aa.2.1 rfl)) az))).eN
     have j:=(j.cC 4 (aa.1 rfl)).bX 5 hD
     refine RL.bM (hg:=(cg a0)) 4 j qE c4 fun dd j=>?_
     have j:=((j.pl 19 [1,2,3,4,5,0,7,8,9,10,11,12,13,14,15,16,17,18]).cD 4 (D 22) (aa.1 rfl) aX).cD 5 true rfl aX
     exact RL.nil ⟨rfl,(ag,ah,af,ak,ao,dd,al,an),o.pu 24,ha.u,zt,j⟩
    ·rintro D U w hD aa a5 ⟨⟨ag,ah,af,ak,ao,aq,al,an⟩,o,ha,_,j⟩
     obtain⟨O,rfl⟩:=(ac (o.at 13 rfl (aa.2.1 rfl)) (ac (o.at 24 rfl (aa.1 rfl)) az)).eN
     have j:=(j.cC 5 (aa.1 rfl)).bX 6 hD
     refine RL.bF (hg:=(cg a0)) 5 b3 j mf fun de j=>?_
     have j:=((j.pl 19 [1,2,3,4,5,6,0,8,9,10,11,12,13,14,15,16,17,18]).cD 5 (D 24) (aa.1 rfl) aX).cD 6 true rfl aX
     exact RL.nil ⟨rfl,(ag,ah,af,ak,ao,aq,de,an),o.pu 25,ha.u,zt,j⟩
    ·rintro D U w hD aa a5 ⟨⟨ag,ah,af,ak,ao,aq,al,an⟩,o,ha,_,j⟩
     obtain⟨O,rfl⟩:=(ac (o.at 13 rfl (aa.2.1 rfl)) (ac (o.at 25 rfl (aa.1 rfl)) az)).eN
     have j:=(j.cC 6 (aa.1 rfl)).bX 7 hD
     refine RL.call (cg a0) zr Gu [al] zr (aD (fI N (i0:=6) j zr c6) ?_)
     rintro df w j
     have j:=((j.pl 19 [1,2,3,4,5,6,7,0,9,10,11,12,13,14,15,16,17,18]).cD 6 (D 25) (aa.1 rfl) aX).cD 7 true rfl aX
     exact RL.nil ⟨rfl,(ag,ah,af,ak,ao,aq,al,df),o.pu 26,ha.u,zt,j⟩
    ·rintro D U w hD aa a5 ⟨⟨ag,ah,af,ak,ao,aq,al,an⟩,o,ha,_,j⟩
     obtain⟨O,rfl⟩:=(ac (o.at 13 rfl (aa.2.2.2.1 rfl)) (ac (o.at 20 rfl (aa.1 rfl)) (ac (o.at 26 rfl (aa.2.1 rfl)) az))).eN
     have j:=(j.cC 3 (aa.1 rfl)).cC 7 (aa.2.1 rfl)
     refine RL.call (cg a0) zr Nq [ak,an] zr (aD (uw N (i0:=3) (i1:=7) j zr zr c7) ?_)
     rintro _ w ⟨rfl,j⟩
     have j:=(j.cD 3 (D 20) (aa.1 rfl) aX).cD 7 (D 26) (aa.2.1 rfl) aX
     exact RL.nil ⟨rfl,(ag,ah,af,ak,ao,aq,al,an),o.pu 27,ha.u,zt,j⟩
    rintro D U w a9 ⟨⟨ag,ah,af,ak,ao,aq,al,an⟩,o,ha,_,j⟩
    have j:=((((((j.cC 0 (jQ a9 1)).cC 1 (jQ a9 3)).cC 2 (jQ a9 4)).cC 3 (jQ a9 20)).cC 4 (jQ a9 22)).cC 5 (jQ a9 24)).cC 6 (jQ a9 25)
    have j:=j.cC 7 (jQ a9 26)
    obtain⟨O,rfl⟩:=(ac (o.at 28 rfl (jQ a9 28)) (ac (ha.at 0 rfl) (ac (ha.at 1 rfl) (ac (ha.at 2 rfl) (ac (ha.at 3 rfl) (ac (ha.at 4 rfl) az)))))).eN
    obtain rfl:=oi hj
    exact⟨rfl,j.sp 18 [8,9,10,11,12,13,14,15,16,17]⟩
   rintro _ w ⟨O,rfl,j⟩
   refine aG ?_
   obtain⟨b4,hj,hb⟩:=bd hb
   refine RC.jn (fun(b4: (List Int)) U w=>∃bt:Value,SH E V [(1,vp a2 0),(3,vp ae 0),(7,vi a1.2),(8,bt),(9,vi ax.2)] [bx 27 a2 p0,bc 66 ae [ar,au,av,aw,a3,a4,(.slice none 0 0),a6],rd ar p0.aJ,rd au p0.cH,rd av p0.aO,rd aw p0.bV,own 3 a3 ai.1,own 23 a4 ai.2.1,own 51 a6 a1.1,own 3 bt b4] U w) b4 ?_ ?_
   ·refine dX hj (fun hc hj=>?_) fun hc hj=>?_
    rotate_left
    ·refine RC.skip ?_
     obtain rfl:=oi hj
     exact⟨rfl,ba,j.sp 10 [0,1,2,3,4,5,6,7,8,9]⟩
    refine RC.region (mv ba (mv (vi ax.2) ?_))
    have j:=j.sc Int ax.2
    refine RL.dQ ([ax.2]: (List Int)) j [(vi ax.2)] eD CX (fun M hs g=>⟨(g.sat 0 _ zr).1,zt⟩) fun d3 w j=>?_
    have j:=j.freeze 0
    obtain⟨d4,dg,hj⟩:=bd hj
    refine RL.app 11 0 j rh dg fun cm w j=>?_
    refine aP cm (RL.nil ?_)
    obtain rfl:=oi hj
    exact⟨rfl,cm,j.sp 12 [2,3,4,5,6,7,8,9,10,11]⟩
   rintro _ w ⟨bt,O,rfl,j⟩
   refine bO (aG (RC.region (mv (vi ax.2) (RL.fO ax.2 1 (aP (vi (IntKind.wrap .i64 (ax.2+1))) (RL.nil ?_))))))
   obtain rfl:=oi hb
   exact⟨rfl,bt,j.sp 10 [0,1,2,3,4,5,6,7,8,9]⟩
  ·intro r _ _ _ _
   exact r.elim
  rintro ax _ w rfl ⟨bl,O,rfl,j⟩
  rw [Fo.dB] at hb
  refine aG (RC.region (mv (vp ae 0) (mv (vp ae 0) (RL.nilCheck zr (RL.aZ zr tA (RL.bK 1 a6 j zn (mv bl ?_)))))))
  have j:=j.freeze 9
  refine RL.dQ ([ax.1]: (List (List Int))) j [bl] Aa Kl (fun M hs g=>⟨(g.sat 9 _ zr).1,zt⟩) fun d5 w j=>?_
  have j:=j.freeze 0
  obtain⟨d6,dh,hb⟩:=bd hb
  refine RL.app 9 0 j Km dh fun cn w j=>?_
  refine RL.nilCheck zr (RL.aZ zr tA (RL.iB 2 cn j zr zr (iS 9 j) zn fun w j=>?_))
  refine RL.nil (bO (aG (RC.region (mv (vi a1.2) (RL.fO a1.2 1 (aP (vi (IntKind.wrap .i64 (a1.2+1))) (RL.nil ?_)))))))
  obtain rfl:=oi hb
  exact⟨rfl,cn,j.sp 11 [1,2,9,3,4,5,6,7,8]⟩
 ·intro r _ _ _ _
  exact r.elim
 rintro a1 _ w rfl ⟨bq,O,rfl,j⟩
 rw [Fo.dB] at hb
 refine aG (RC.sr (mv (vp ae 0) ?_))
 have j:=((((((((j.freeze 7).freeze 8).freeze 2).dup 2 rfl).dup 9 rfl).dup 9 rfl).dup 9 rfl).dup 9 rfl).pull 6
 obtain⟨d7,di,hb⟩:=bd hb
 refine RL.call zt zr Nt [(vp ae 0)] zr (aD (nR N j di) ?_)
 rintro _ w ⟨dj,rfl,j⟩
 refine RL.ns (mv (vp ae 0) (aP (vp ae 0) (RL.nt (RC.ret ?_))))
 obtain rfl:=oi hb
 exact bY ⟨ae,ar,au,av,aw,a3,a4,dj,bq,zr,j.pk 11 [0,5,6,7,8,9,10,1,4]⟩
theorem sP {p0: (List aI)} (j:Holds E w V) (h0:V[i0]? =some (rd v0 p0)) (hb:jF N p0=some res):
    Calls bN 40 [v0].toArray w (gQ (aV E V res)):=by
 unfold jF at hb
 refine enter Tryz.func40 zr zr ?_
 have j:=j.dup (i0+0) h0
 refine RC.sr (aP (vi 0) (RL.ns (aP (vi 0) (RL.nq (RC.sr (aP (vi 0) (RL.nt ?_)))))))
 obtain⟨an,hN,hb⟩:=bd hb
 refine RC.iter (fun(o:Int×Int)=>SH E V [(0,v0),(3,vi o.1),(4,vi o.2)] [rd v0 p0]) (fun(o:Int×Int)=>SH E V [(3,vi o.1)] [rd v0 p0]) (fun(r:Empty) _ _=>r.elim) hN ?_ ?_ ?_ ?_
 ·exact j.sp 1 [0]
 ·rintro o fl _ w ⟨O,rfl,j⟩ hb
  refine RC.seq (RC.sr (mv (vi o.2) (mv v0 (RL.bC 0 p0 j mH (ic o.2 ((p0.length:Int)) (RL.nt (dX hb (fun hc hb=>?_) fun hc hb=>?_)))))))
  rotate_left
  ·refine RC.ex ?_
   obtain rfl:=oi hb
   exact⟨rfl,j.sp 1 [0]⟩
  refine RC.ss (RC.block (RC.yh mixed ?_))
  have j:=j.drew
  refine RO.go (mv (vi o.1) (RO.nx (mv v0 (RO.nx (mv (vi o.2) (RO.nx ?_))))))
  obtain⟨ab,ai,hb⟩:=bd hb
  refine RL.bM 0 j iK ai fun aq j=>(RO.nx (RL.dN 0 j zr iX dY fun ar j=>(RO.nx (RL.bB ab.X1 0 j cG (RO.nx (mv v0 (RO.nx (mv (vi o.2) ?_))))))))
  refine RO.nx ?_
  obtain⟨ad,aj,hb⟩:=bd hb
  refine RL.bM 2 j iK aj fun au j=>(RO.nx (RL.dN 0 j zr gO dD fun av j=>(RO.nx (RL.bB ad.X0 0 j cG (RO.nx (RL.fO ab.X1 ad.X0 (RO.nx (mv v0 ?_))))))))
  refine RO.nx (mv (vi o.2) (RO.nx ?_))
  obtain⟨ae,ak,hb⟩:=bd hb
  refine RL.bM 4 j iK ak fun aw j=>(RO.nx (RL.dN 0 j zr jZ eT fun ax j=>(RO.nx (RL.bB ae.Y1 0 j cG (RO.nx (mv v0 (RO.nx (mv (vi o.2) ?_))))))))
  refine RO.nx ?_
  obtain⟨af,al,hb⟩:=bd hb
  refine RL.bM 6 j iK al fun ay j=>(RO.nx (RL.dN 0 j zr gG cZ fun az j=>(RO.nx (RL.bB af.Y0 0 j cG (RO.nx (RL.fO ae.Y1 af.Y0 (RO.nx (RL.fO (IntKind.wrap .i64 (ab.X1 - ad.X0)) (IntKind.wrap .i64 (ae.Y1 - af.Y0)) ?_))))))))
  refine RO.nx (RL.fO o.1 (IntKind.wrap .i64 ((IntKind.wrap .i64 (ab.X1 - ad.X0))* (IntKind.wrap .i64 (ae.Y1 - af.Y0)))) (RO.nx (aP (vi (IntKind.wrap .i64 (o.1+ (IntKind.wrap .i64 ((IntKind.wrap .i64 (ab.X1 - ad.X0))* (IntKind.wrap .i64 (ae.Y1 - af.Y0))))))) (RO.last (bO (aG (RC.region (mv (vi o.2) ?_))))))))
  refine RL.fO o.2 1 (aP (vi (IntKind.wrap .i64 (o.2+1))) (RL.nil ?_))
  obtain rfl:=oi hb
  exact⟨rfl,j.sp 9 [8]⟩
 ·intro r _ _ _ _
  exact r.elim
 rintro o _ w rfl ⟨O,rfl,j⟩
 rw [Fo.dB] at hb
 refine aG (RC.sr (mv (vi o.1) (aP (vi o.1) (RL.nt (RC.ret ?_)))))
 obtain rfl:=oi hb
 exact bY ⟨rfl,j.drop 1⟩
def pD (E:World) (V:List HP) (b0:Nat) (v0_0 v0_1:Value) (v0_2 v0_3:Value) (v0_4 v0_5:Value) (v0_6 v0_7:Value) (res:Piece) (v:Value) (w:World):Prop:=Holds E w ([rd v res,bc 66 b0 [v0_0,v0_1,v0_2,v0_3,v0_4,v0_5,v0_6,v0_7]]++V)
theorem o5 {p0_4: (List Int)} {p0_5: (List (List aI))} {res:Piece} (j:Holds E w (bc 66 b0 [v0_0,v0_1,v0_2,v0_3,v0_4,v0_5,v0_6,v0_7]::rd v0_4 p0_4::rd v0_5 p0_5::V)) (hb:iP N p0_4 p0_5 p1=some res):
    Calls bN 20 [(vp b0 0),(vi p1)].toArray w (gQ (pD E V b0 v0_0 v0_1 v0_2 v0_3 v0_4 v0_5 v0_6 v0_7 res)):=by
 unfold iP at hb
 refine enter Tryz.func20 zr zr (RC.sr (RL.alloc j Kv.z fun ax w j=>?_))
 refine RL.ns (mv (vp b0 0) (RL.nilCheck zr (RL.aZ zr rS (RL.bK 1 v0_5 j oQ (mv (vi p1) ?_)))))
 obtain⟨ay,a0,hb⟩:=bd hb
 refine RL.bM 3 j rf a0 fun a1 j=>(RL.bF 0 ay j q9 fun av j=>(aP av (RL.nq ?_)))
 obtain⟨ar,a2,hb⟩:=bd hb
 obtain⟨ao,a3,hb⟩:=bd hb
 obtain⟨aq,a4,hb⟩:=bd hb
 obtain⟨aw,a5,hb⟩:=bd hb
 refine RC.ER E V mixed [1,1,1,0,1,0,0,1,0,0,0,1,0,0,0,0,1,0,0,0] [5,8,9,12,13,15,18,19] (fun(x:Value×Value×Value×Value×Value×Value×Value)=>(fun ae af ag ah ai ad aj=>[(0,13,(vp b0 0)),(1,14,(vp b0 0)),(2,15,(vp b0 4)),(3,16,v0_4),(4,17,(vi p1)),(5,18,ae),(6,19,(vi ar)),(7,20,av),(8,21,af),(9,22,ag),(10,23,(vi ao.X0)),(11,24,av),(12,25,ah),(13,26,ai),(14,27,(vi aq.Y0)),(15,28,ad),(16,29,av),(17,30,(vi aw)),(18,31,aj)]) x.1 x.2.1 x.2.2.1 x.2.2.2.1 x.2.2.2.2.1 x.2.2.2.2.2.1 x.2.2.2.2.2.2) [(0,vp b0 0),(1,vi p1),(4,vp ax 0),(5,av)] [] (fun(D:Nat->Bool) (x:Value×Value×Value×Value×Value×Value×Value)=>(fun ae af ag ah ai ad aj=>[bif D 0 then (pt ae ar) else aX,bif D 1 then (pt af ao) else aX,bif D 2 then (pt ag ao.X0) else aX,bif D 3 then (pt ah aq) else aX,bif D 4 then (pt ai aq.Y0) else aX,bif D 5 then (rd ad (⟨ao.X0,aq.Y0⟩:eQ)) else aX,bif D 6 then (rd aj (⟨ar,(⟨ao.X0,aq.Y0⟩:eQ),aw⟩:Piece)) else aX,rd av ay,pt a1 ay,bif D 7 then (bx 41 ax (⟨ar,(⟨ao.X0,aq.Y0⟩:eQ),aw⟩:Piece)) else (raw 41 ax 4),bc 66 b0 [v0_0,v0_1,v0_2,v0_3,v0_4,v0_5,v0_6,v0_7],rd v0_4 p0_4,rd v0_5 p0_5]) x.1 x.2.1 x.2.2.1 x.2.2.2.1 x.2.2.2.2.1 x.2.2.2.2.2.1 x.2.2.2.2.2.2) (fun x=>by kernel_rfl) ?_ ⟨fun _=>je gn,fun _=>wu gn,fun _=>mG gn yq,?_,fun _=>je gn,?_,?_,fun _=>je gn,?_,?_,?_,fun _=>je gn,?_,?_,?_,?_,fun _=>je gn,?_,?_,?_,trivial⟩ ?_
 ·have j:=(((((((j.drew).aX).aX).aX).aX).aX).aX).aX
  exact⟨(undef,undef,undef,undef,undef,undef,undef),eU.none,(DB zr),zt,j⟩
 ·rintro D U w hD o an ⟨⟨ae,af,ag,ah,ai,ad,aj⟩,hv,ha,_,j⟩
  obtain⟨O,rfl⟩:=(ac (hv.at 2 rfl (o.1 rfl)) az).eN
  refine RL.bK 10 v0_4 j fM ?_
  exact RL.nil ⟨rfl,(ae,af,ag,ah,ai,ad,aj),hv.pu 3,ha.u,zt,j⟩
 ·rintro D U w hD o an ⟨⟨ae,af,ag,ah,ai,ad,aj⟩,hv,ha,_,j⟩
  obtain⟨O,rfl⟩:=(ac (hv.at 3 rfl (o.1 rfl)) (ac (hv.at 4 rfl (o.2.1 rfl)) az)).eN
  have j:=j.bX 0 hD
  refine RL.bM 11 j eD a2 fun a6 j=>?_
  have j:=(j.pl 14 [0,2,3,4,5,6,7,8,9,10,11,12,13]).cD 0 true rfl aX
  exact RL.nil ⟨rfl,(a6,af,ag,ah,ai,ad,aj),hv.pu 5,ha.u,zt,j⟩
 ·rintro D U w hD o an ⟨⟨ae,af,ag,ah,ai,ad,aj⟩,hv,ha,_,j⟩
  obtain⟨O,rfl⟩:=(ac (hv.at 5 rfl (o.1 rfl)) az).eN
  have j:=j.cC 0 (o.1 rfl)
  refine RL.bB ar 0 j cG ?_
  have j:=j.cD 0 (D 5) (o.1 rfl) aX
  exact RL.nil ⟨rfl,(ae,af,ag,ah,ai,ad,aj),hv.pu 6,ha.u,zt,j⟩
 ·rintro D U w hD o an ⟨⟨ae,af,ag,ah,ai,ad,aj⟩,hv,ha,_,j⟩
  obtain⟨O,rfl⟩:=(ac (hv.at 7 rfl (o.1 rfl)) az).eN
  have j:=j.bX 1 hD
  refine RL.bM 7 j iK a3 fun a7 j=>?_
  have j:=(j.pl 14 [1,0,3,4,5,6,7,8,9,10,11,12,13]).cD 1 true rfl aX
  exact RL.nil ⟨rfl,(ae,a7,ag,ah,ai,ad,aj),hv.pu 8,ha.u,zt,j⟩
 ·rintro D U w hD o an ⟨⟨ae,af,ag,ah,ai,ad,aj⟩,hv,ha,_,j⟩
  obtain⟨O,rfl⟩:=(ac (hv.at 8 rfl (o.1 rfl)) az).eN
  have j:=(j.cC 1 (o.1 rfl)).bX 2 hD
  refine RL.dN 1 j zr gO dD fun a8 j=>?_
  have j:=((j.pl 14 [1,2,0,4,5,6,7,8,9,10,11,12,13]).cD 1 (D 8) (o.1 rfl) aX).cD 2 true rfl aX
  exact RL.nil ⟨rfl,(ae,af,a8,ah,ai,ad,aj),hv.pu 9,ha.u,zt,j⟩
 ·rintro D U w hD o an ⟨⟨ae,af,ag,ah,ai,ad,aj⟩,hv,ha,_,j⟩
  obtain⟨O,rfl⟩:=(ac (hv.at 9 rfl (o.1 rfl)) az).eN
  have j:=j.cC 2 (o.1 rfl)
  refine RL.bB ao.X0 2 j cG ?_
  have j:=j.cD 2 (D 9) (o.1 rfl) aX
  exact RL.nil ⟨rfl,(ae,af,ag,ah,ai,ad,aj),hv.pu 10,ha.u,zt,j⟩
 ·rintro D U w hD o an ⟨⟨ae,af,ag,ah,ai,ad,aj⟩,hv,ha,_,j⟩
  obtain⟨O,rfl⟩:=(ac (hv.at 11 rfl (o.1 rfl)) az).eN
  have j:=j.bX 3 hD
  refine RL.bM 7 j iK a4 fun a9 j=>?_
  have j:=(j.pl 14 [1,2,3,0,5,6,7,8,9,10,11,12,13]).cD 3 true rfl aX
  exact RL.nil ⟨rfl,(ae,af,ag,a9,ai,ad,aj),hv.pu 12,ha.u,zt,j⟩
 ·rintro D U w hD o an ⟨⟨ae,af,ag,ah,ai,ad,aj⟩,hv,ha,_,j⟩
  obtain⟨O,rfl⟩:=(ac (hv.at 12 rfl (o.1 rfl)) az).eN
  have j:=(j.cC 3 (o.1 rfl)).bX 4 hD
  refine RL.dN 3 j zr gG cZ fun ba j=>?_
  have j:=((j.pl 14 [1,2,3,4,0,6,7,8,9,10,11,12,13]).cD 3 (D 12) (o.1 rfl) aX).cD 4 true rfl aX
  exact RL.nil ⟨rfl,(ae,af,ag,ah,ba,ad,aj),hv.pu 13,ha.u,zt,j⟩
 ·rintro D U w hD o an ⟨⟨ae,af,ag,ah,ai,ad,aj⟩,hv,ha,_,j⟩
  obtain⟨O,rfl⟩:=(ac (hv.at 13 rfl (o.1 rfl)) az).eN
  have j:=j.cC 4 (o.1 rfl)
  refine RL.bB aq.Y0 4 j cG ?_
  have j:=j.cD 4 (D 13) (o.1 rfl) aX
  exact RL.nil ⟨rfl,(ae,af,ag,ah,ai,ad,aj),hv.pu 14,ha.u,zt,j⟩
 ·rintro D U w hD o an ⟨⟨ae,af,ag,ah,ai,ad,aj⟩,hv,ha,_,j⟩
  obtain⟨O,rfl⟩:=(ac (hv.at 10 rfl (o.1 rfl)) (ac (hv.at 14 rfl (o.2.1 rfl)) az)).eN
  have j:=((j.bX 5 hD).sc Int ao.X0).sc Int aq.Y0
  refine RL.build (⟨ao.X0,aq.Y0⟩:eQ) trivial rfl j [(0,vi ao.X0),(1,vi aq.Y0)] rfl LP rfl (fun M hs g=>by have h:=zC M;exact cS.cons (f:=fun(x:eQ) y=>{x with X:=y}) h zY (g.sat 1 _ rfl).1 fun _ h=>cS.cons (f:=fun(x:eQ) y=>{x with Y:=y}) h zZ (g.sat 0 _ rfl).1 fun _ h=>cS.nil h) fun bb j=>?_
  have j:=(j.pl 16 [3,4,5,6,7,0,9,10,11,12,13,14,15]).cD 5 true rfl aX
  exact RL.nil ⟨rfl,(ae,af,ag,ah,ai,bb,aj),hv.pu 15,ha.u,zt,j⟩
 ·rintro D U w hD o an ⟨⟨ae,af,ag,ah,ai,ad,aj⟩,hv,ha,_,j⟩
  obtain⟨O,rfl⟩:=(ac (hv.at 16 rfl (o.1 rfl)) az).eN
  refine RL.call zt zr Nv [av] zr (aD (sP N (i0:=7) j zr a5) ?_)
  rintro _ w ⟨rfl,j⟩
  exact RL.nil ⟨rfl,(ae,af,ag,ah,ai,ad,aj),hv.pu 17,ha.u,zt,j⟩
 ·rintro D U w hD o an ⟨⟨ae,af,ag,ah,ai,ad,aj⟩,hv,ha,_,j⟩
  obtain⟨O,rfl⟩:=(ac (hv.at 6 rfl (o.1 rfl)) (ac (hv.at 15 rfl (o.2.1 rfl)) (ac (hv.at 17 rfl (o.2.2.1 rfl)) az))).eN
  have j:=(((j.cC 5 (o.2.1 rfl)).bX 6 hD).sc Int ar).sc Int aw
  refine RL.build (⟨ar,(⟨ao.X0,aq.Y0⟩:eQ),aw⟩:Piece) trivial rfl j [(0,vi ar),(1,ad),(2,vi aw)] rfl LQ rfl (fun M hs g=>by have h:=FN M;exact cS.cons (f:=fun(x:Piece) y=>{x with cK:=y}) h z5 (g.sat 1 _ rfl).1 fun _ h=>cS.cons (f:=fun(x:Piece) y=>{x with Dp:=y}) h z6 (g.sat 7 _ rfl).1 fun _ h=>cS.cons (f:=fun(x:Piece) y=>{x with Hr:=y}) h z7 (g.sat 0 _ rfl).1 fun _ h=>cS.nil h) fun bf j=>?_
  have j:=((j.pl 16 [3,4,5,6,7,8,0,10,11,12,13,14,15]).cD 5 (D 15) (o.2.1 rfl) aX).cD 6 true rfl aX
  exact RL.nil ⟨rfl,(ae,af,ag,ah,ai,ad,bf),hv.pu 18,ha.u,zt,j⟩
 ·rintro D U w hD o an ⟨⟨ae,af,ag,ah,ai,ad,aj⟩,hv,ha,_,j⟩
  obtain⟨O,rfl⟩:=(ac (hv.at 18 rfl (o.1 rfl)) (ac (ha.at 2 rfl) az)).eN
  have j:=(j.cC 6 (o.1 rfl)).bX 9 hD
  refine RL.bZ 9 j 6 zr I4 fun w j=>?_
  have j:=(j.cD 6 (D 18) (o.1 rfl) aX).cD 9 true rfl (raw 41 ax 4)
  exact RL.nil ⟨rfl,(ae,af,ag,ah,ai,ad,aj),hv.n1,ha,zt,j⟩
 rintro D U w au ⟨⟨ae,af,ag,ah,ai,ad,aj⟩,hv,ha,_,j⟩
 have j:=((((((j.cC 0 (jQ au 5)).cC 1 (jQ au 8)).cC 2 (jQ au 9)).cC 3 (jQ au 12)).cC 4 (jQ au 13)).cC 5 (jQ au 15)).cC 6 (jQ au 18)
 have j:=j.cC 9 (jQ au 19)
 obtain⟨O,rfl⟩:=(ac (ha.at 0 rfl) (ac (ha.at 1 rfl) (ac (ha.at 2 rfl) (ac (ha.at 3 rfl) az)))).eN
 refine aG (RC.ret ?_)
 obtain rfl:=oi hb
 exact Gf 9 j I4 fun bg j=>(j.pk 14 [0,11])
end Go.Gk
namespace Go.Gk
open Go Go.Proofs
variable (N:Nat) {E w:World} {i0 i1:Nat} {res:Int} {v0 v1 v2:Value} {V:List HP}
theorem sQ {p0:kH} {res: (List Piece)×Int} (j:Holds E w V) (h0:V[i0]? =some (rd v0 p0)) (o:gF N p0=some res):
    Calls bN 7 [v0].toArray w (gQ (t7 E V res)):=by
 unfold gF at o
 refine enter Tryz.func7 zr zr ?_
 have j:=j.dup (i0+0) h0
 refine RC.sr (RL.dK 0 v0 j zr fun a5 w j=>?_)
 refine aP (.slice none 0 0) (aP (vi 0) (RL.nq (RC.sr (RL.bG (f:=(fun x=>x)) 0 j zr Fd.self rN fun aw j=>?_))))
 obtain⟨af,ax,o⟩:=bd o
 refine RL.call zt zr Nk [aw] zr (aD (kx N (i0:=0) j zr ax) ?_)
 rintro _ w ⟨rfl,j⟩
 refine aP (vi af) (RL.ns (mv (vi af) (ic af 0 (RL.nt (dX o (fun hc o=>?_) fun hc o=>?_)))))
 ·refine RC.sr (mv (vi af) (aP (.slice none 0 0) (aP (vi af) (RL.nt (RC.rt ?_)))))
  obtain rfl:=oi o
  have j:=j.cQ Piece 41
  exact qA ⟨(.slice none 0 0),zr,j.pk 4 [0]⟩
 refine RC.sx (RL.bG (f:=(fun x=>x)) 1 j zr Fd.self rN fun ay j=>?_)
 obtain⟨aa,az,o⟩:=bd o
 refine RL.call zt zr Nu [ay] zr (aD (r7 N (i0:=0) j zr az) ?_)
 rintro _ w ⟨ad,ah,ai,aj,ak,al,ag,an,ao,rfl,j⟩
 refine aP (vp ad 0) (RL.ns (aP (.slice none 0 0) (RL.nq (RC.sr (aP (vi 0) (RL.nt ?_))))))
 obtain⟨a6,hN,o⟩:=bd o
 refine RC.iter (fun(ab: (List Piece)×Int) U w=>∃ar:Value,SH E V [(5,vp ad 0),(6,ar),(7,vi ab.2)] [bc 66 ad [ah,ai,aj,ak,al,ag,an,ao],rd ah aa.1,rd ai aa.2.1,rd aj aa.2.2.1,rd ak aa.2.2.2.1,rd al aa.2.2.2.2.1,rd ag aa.2.2.2.2.2.1,own 112 an aa.2.2.2.2.2.2.1,rd ao aa.2.2.2.2.2.2.2,own 41 ar ab.1] U w) (fun(ab: (List Piece)×Int) U w=>∃ae:Value,SH E V [(6,ae)] [bc 66 ad [ah,ai,aj,ak,al,ag,an,ao],rd ah aa.1,rd ai aa.2.1,rd aj aa.2.2.1,rd ak aa.2.2.2.1,rd al aa.2.2.2.2.1,rd ag aa.2.2.2.2.2.1,own 112 an aa.2.2.2.2.2.2.1,rd ao aa.2.2.2.2.2.2.2,own 41 ae ab.1] U w) (fun(r:Empty) _ _=>r.elim) hN ?_ ?_ ?_ ?_
 ·have j:=j.cQ Piece 41
  exact⟨(.slice none 0 0),j.sp 14 [1,2,3,4,5,6,7,8,9,0]⟩
 ·rintro ab fl _ w ⟨au,O,rfl,j⟩ o
  refine RC.seq (RC.sr (mv (vi ab.2) (mv (vp ad 0) (RL.nilCheck zr (RL.aZ zr rS (RL.bK 0 ag j oQ (RL.bC 6 aa.2.2.2.2.2.1 j oR (ic ab.2 ((aa.2.2.2.2.2.1.length:Int)) ?_))))))))
  refine RL.nt (dX o (fun hc o=>?_) fun hc o=>?_)
  rotate_left
  ·refine RC.ex ?_
   obtain rfl:=oi o
   exact⟨rfl,au,j.sp 10 [0,1,2,3,4,5,6,7,8,9]⟩
  refine RC.ss (RC.block (RC.region (mv au (mv (vp ad 0) (mv (vi ab.2) ?_)))))
  have j:=((j.dup 6 rfl).dup 6 rfl).pull 2
  obtain⟨a1,a2,o⟩:=bd o
  refine RL.call zt zr Nw [(vp ad 0),(vi ab.2)] zr (aD (o5 N (p1:=ab.2) j a2) ?_)
  rintro a3 w j
  refine RL.dQ ([a1]: (List Piece)) j [a3] I3 Kv (fun M hs g=>⟨(g.sat 0 _ zr).1,zt⟩) fun a8 w j=>?_
  have j:=j.freeze 0
  obtain⟨a9,a4,o⟩:=bd o
  refine RL.app 12 0 j LR a4 fun av w j=>?_
  refine aP av (RL.nil (bO (aG (RC.region (mv (vi ab.2) (RL.fO ab.2 1 (aP (vi (IntKind.wrap .i64 (ab.2+1))) (RL.nil ?_))))))))
  obtain rfl:=oi o
  exact⟨rfl,av,j.sp 13 [2,4,5,6,7,8,9,10,11,12]⟩
 ·intro r _ _ _ _
  exact r.elim
 rintro ab _ w rfl ⟨ae,O,rfl,j⟩
 rw [Fo.dB] at o
 refine aG (RC.sr (mv ae (aP ae (aP (vi 0) (RL.nt (RC.ret ?_))))))
 obtain rfl:=oi o
 exact qA ⟨ae,zr,j.pk 10 [9]⟩
theorem wL {p0:kH} (j:Holds E w V) (h0:V[i0]? =some (rd v0 p0)) (hb:kB N p0=some res):
    Calls bN 8 [v0].toArray w (gQ (aV E V res)):=by
 unfold kB at hb
 refine enter Tryz.func8 zr zr ?_
 have j:=j.dup (i0+0) h0
 refine RC.sr (RL.dK 0 v0 j zr fun ag w j=>?_)
 refine aP (vi 0) (RL.ns (RL.bG (f:=(fun x=>x)) 0 j zr Fd.self rN fun ae j=>?_))
 obtain⟨o,af,hb⟩:=bd hb
 refine RL.call zt zr Kp [ae] zr (aD (qM N (i0:=0) j zr af) ?_)
 rintro _ w hK49
 rcases ab:o.1 with _ | ah
 ·replace hb:=J8 ab hb
  obtain⟨rfl,j⟩:=Hl ab hK49
  refine mv (.tuple #[(.pointer none),(vi o.2)]) (RL.extract (.pointer none) (RL.extract (vi o.2) (aP (.pointer none) (aP (vi o.2) (RL.ns (mv (vi o.2) (aP (vi o.2) (RL.nt ?_))))))))
  refine RC.ret ?_
  obtain rfl:=oi hb
  exact bY ⟨rfl,j.drop 3⟩
 replace hb:=J9 ab hb
 obtain⟨ad,ai,aj,ak,al,an,ao,aq,ar,au,av,aw,ax,rfl,j⟩:=Hm ab hK49
 refine mv (.tuple #[(vp ad 0),(vi o.2)]) (RL.extract (vp ad 0) (RL.extract (vi o.2) (aP (vp ad 0) (aP (vi o.2) (RL.ns (mv (vi o.2) (aP (vi o.2) (RL.nt ?_))))))))
 refine RC.ret ?_
 obtain rfl:=oi hb
 exact bY ⟨rfl,j.drop 16⟩
def ot (E:World) (V:List HP) (r:Bool) (U:Nat->Value) (w:World):Prop:=lS bN 32 Tryz.f10 (aU E V r) .ret U w
theorem nS {p0: (List (List aI))} {p1: (List (List aI))} {p2: (List aI)->(List aI)->Option Bool} {res:Bool} (j:Holds E w V) (h0:V[i0]? =some (rd v0 p0)) (h1:V[i1]? =some (rd v1 p1)) (h2:JZ bN E V v2 p2 (fun(r:Bool)=>Value.bool r)) (o:gw N p0 p1 p2=some res):
    Calls bN 10 [v0,v1,v2].toArray w (gQ (aU E V res)):=by
 unfold gw at o
 refine enter Tryz.func10 zr zr ?_
 have j:=(j.dup (i0+0) h0).dup (i1+1) h1
 refine RC.sr (aP (vb false) (RL.nq (RC.sr (mv v0 (RL.bC 1 p0 j oR (mv v1 (RL.bC 0 p1 j oR (ic ((p0.length:Int)) ((p1.length:Int)) ?_))))))))
 refine RL.nt (dX o (fun hc o=>?_) fun hc o=>?_)
 ·refine RC.sr (aP (vb false) (RL.nt (RC.rt ?_)))
  obtain rfl:=oi o
  exact bY ⟨rfl,j.drop 2⟩
 refine RC.ss (RC.sr (mv v0 (RL.bC 1 p0 j oR (mv (vi 0) (RL.nt ?_)))))
 obtain⟨au,hN,o⟩:=bd o
 refine RC.range (fun(aa:Nat) (ab:Unit)=>SH E V [(1,v1),(2,v2),(15,v0),(16,vi p0.length),(17,vi aa)] [rd v1 p1,rd v0 p0]) (fun(ab:Unit)=>SH E V [] [rd v1 p1,rd v0 p0]) (ot E V) hN ?_ ?_ ?_ ?_ ?_
 ·exact j.sp 2 [0,1]
 ·rintro hm ab _ w ⟨O,rfl,j⟩
  refine RC.sr (ic ((p0.length:Int)) ((p0.length:Int)) (RL.nq (RC.fw sf (RC.ex ?_))))
  exact⟨rfl,j.sp 2 [0,1]⟩
 ·rintro hm aa ab fl _ w hk ⟨O,rfl,j⟩ o
  refine RC.sr (ic ((aa:Int)) ((p0.length:Int)) (RL.nq (RC.fu (sd hk) (RC.ss (RC.bs (mv (vi aa) ?_))))))
  obtain⟨aj,ak,o⟩:=bd o
  refine RL.bM 1 j rf ak fun aw j=>(RL.bF 0 aj j q9 fun ag j=>(aP (vi aa) (aP ag (RL.ns (mv v1 (mv (vi aa) ?_))))))
  obtain⟨al,an,o⟩:=bd o
  refine RL.bM 2 j rf an fun ax j=>(RL.bF 0 al j q9 fun ah j=>(aP ah (RL.ns (mv v2 (mv ag (mv ah ?_))))))
  obtain⟨ao,aq,o⟩:=bd o
  refine RL.Hd 2 0 zt zr j zr h2 6 zr zr zr zr zr aq fun w j=>(RL.not ao (RL.nt (dX o (fun hc o=>?_) fun hc o=>?_)))
  rotate_left
  ·refine RC.skip (bO (aG (RC.region (RL.inc hk hm (mv (vi ((aa+1:Nat):Int)) (RL.nil ?_))))))
   obtain rfl:=oi o
   exact⟨rfl,j.sp 6 [4,5]⟩
  refine RC.sr (aP (vb false) (RL.nt (RC.rb (bQ ?_))))
  obtain rfl:=oi o
  exact⟨rfl,bY ⟨rfl,j.drop 6⟩⟩
 ·intro r U w e hK
  subst e
  refine bQ ?_
  obtain rfl:=oi o
  exact hK
 rintro ab _ w rfl ⟨O,rfl,j⟩
 rw [Fo.dB] at o
 refine aG (RC.sr (aP (vb true) (RL.nt (RC.ret ?_))))
 obtain rfl:=oi o
 exact bY ⟨rfl,j.drop 2⟩
def u3 (E:World) (V:List HP) (r:Bool) (U:Nat->Value) (w:World):Prop:=lS bN 26 Tryz.f12 (aU E V r) .ret U w
theorem ux {p0: (List Piece)} {p1: (List Piece)} {res:Bool} (j:Holds E w V) (h0:V[i0]? =some (rd v0 p0)) (h1:V[i1]? =some (rd v1 p1)) (o:lL N p0 p1=some res):
    Calls bN 12 [v0,v1].toArray w (gQ (aU E V res)):=by
 unfold lL at o
 refine enter Tryz.func12 zr zr ?_
 have j:=(j.dup (i0+0) h0).dup (i1+1) h1
 refine RC.sr (aP (vb false) (RL.nq (RC.sr (mv v0 (RL.bC 1 p0 j Kw (mv v1 (RL.bC 0 p1 j Kw (ic ((p0.length:Int)) ((p1.length:Int)) ?_))))))))
 refine RL.nt (dX o (fun hc o=>?_) fun hc o=>?_)
 ·refine RC.sr (aP (vb false) (RL.nt (RC.rt ?_)))
  obtain rfl:=oi o
  exact bY ⟨rfl,j.drop 2⟩
 refine RC.ss (RC.sr (mv v0 (RL.bC 1 p0 j Kw (mv (vi 0) (RL.nt ?_)))))
 obtain⟨an,hN,o⟩:=bd o
 refine RC.range (fun(aa:Nat) (ab:Unit)=>SH E V [(0,v0),(1,v1),(12,vi p0.length),(13,vi aa)] [rd v0 p0,rd v1 p1]) (fun(ab:Unit)=>SH E V [] [rd v0 p0,rd v1 p1]) (u3 E V) hN ?_ ?_ ?_ ?_ ?_
 ·exact j.sp 2 [1,0]
 ·rintro hm ab _ w ⟨O,rfl,j⟩
  refine RC.sr (ic ((p0.length:Int)) ((p0.length:Int)) (RL.nq (RC.fw sf (RC.ex ?_))))
  exact⟨rfl,j.sp 2 [0,1]⟩
 ·rintro hm aa ab fl _ w hk ⟨O,rfl,j⟩ o
  refine RC.sr (ic ((aa:Int)) ((p0.length:Int)) (RL.nq (RC.fu (sd hk) (RC.ss (RC.bs (mv (vi aa) (aP (vi aa) (RL.nq ?_))))))))
  refine RC.yh mixed ?_
  have j:=j.drew
  refine RO.go (mv v0 (RO.nx (mv (vi aa) (RO.nx ?_))))
  obtain⟨ag,aj,o⟩:=bd o
  refine RL.bM 0 j I3 aj fun aq j=>(RO.nx (RL.bF 0 ag j I4 fun ar j=>(RO.nx (mv v1 (RO.nx (mv (vi aa) (RO.nx ?_)))))))
  obtain⟨ah,ak,o⟩:=bd o
  refine RL.bM 3 j I3 ak fun au j=>(RO.nx (RL.bF 0 ah j I4 fun av j=>(RO.nx (RL.Mc 2 0 ag ah zr j zr zr zr zr LV zr (RO.last (aG (dX o (fun hc o=>?_) fun hc o=>?_)))))))
  rotate_left
  ·refine RC.skip (bO (aG (RC.region (RL.inc hk hm (mv (vi ((aa+1:Nat):Int)) (RL.nil ?_))))))
   obtain rfl:=oi o
   exact⟨rfl,j.sp 6 [4,5]⟩
  refine RC.sr (aP (vb false) (RL.nt (RC.rb (bQ ?_))))
  obtain rfl:=oi o
  exact⟨rfl,bY ⟨rfl,j.drop 6⟩⟩
 ·intro r U w e hK
  subst e
  refine bQ ?_
  obtain rfl:=oi o
  exact hK
 rintro ab _ w rfl ⟨O,rfl,j⟩
 rw [Fo.dB] at o
 refine aG (RC.sr (aP (vb true) (RL.nt (RC.ret ?_))))
 obtain rfl:=oi o
 exact bY ⟨rfl,j.drop 2⟩
theorem tJ {res:Bool} (o:Holds E w V) (hb:i9 N=some res):
    Calls bN 13 [].toArray w (gQ (aU E V res)):=by
 unfold i9 at hb
 refine enter Tryz.func13 zr zr (RC.sr (aP (vb false) (RL.ns ?_)))
 have o:=o.sc Int 2
 refine RL.build (⟨⟨0,0⟩,2,0,0,false⟩:cE) trivial rfl o [(1,vi 2)] rfl NA rfl (fun M hs g=>by have h:=Ke M;exact cS.cons (f:=fun(x:cE) y=>{x with dH:=y}) h Gj (g.sat 0 _ rfl).1 fun _ h=>cS.nil h) fun ah o=>?_
 obtain⟨aa,ai,hb⟩:=bd hb
 refine RL.call zt zr Lb [ah] zr (aD (sF N (i0:=0) o zr ai) ?_)
 rintro _ w ⟨ag,rfl,o⟩
 refine mv (.tuple #[ag,(vi aa.2)]) (RL.extract ag (RL.extract (vi aa.2) (RL.alloc o om.z fun aj w o=>?_)))
 refine RL.bZ 0 o 1 zr iq fun w o=>?_
 refine aP (vi aa.2) (RL.nq ?_)
 obtain⟨af,hj,hb⟩:=bd hb
 refine RC.jn (fun(af:Bool)=>SH E V [(0,vb af)] []) af ?_ ?_
 ·refine RC.region (mv (vi aa.2) (ic aa.2 0 (mv (vb (aa.2==0)) (fN hj (fun ab hj=>?_) fun ab hj=>?_))))
  rotate_left
  ·refine bJ ab (bJ ab (bJ ab (fU ab (vb false) (aP (vb false) (RL.nil ?_)))))
   obtain rfl:=oi hj
   exact⟨rfl,o.sp 4 []⟩
  refine RL.bG (hg:=(cg ab)) (f:=(fun x=>x)) 0 o zr Fd.self iq fun ak o=>?_
  have o:=(((o.sc Int (-1)).sc Int (-1)).sc Int 1).sc Int 1
  refine RL.build (⟨(-1),(-1),1,1⟩:aI) (cg ab) rfl o [(0,(vi (-1))),(1,(vi (-1))),(2,vi 1),(3,vi 1)] rfl DI rfl (fun M hs g=>by have h:=tx M;exact cS.cons (f:=fun(x:aI) y=>{x with X0:=y}) h oY (g.sat 3 _ rfl).1 fun _ h=>cS.cons (f:=fun(x:aI) y=>{x with Y0:=y}) h qo (g.sat 2 _ rfl).1 fun _ h=>cS.cons (f:=fun(x:aI) y=>{x with X1:=y}) h oZ (g.sat 1 _ rfl).1 fun _ h=>cS.cons (f:=fun(x:aI) y=>{x with Y1:=y}) h qp (g.sat 0 _ rfl).1 fun _ h=>cS.nil h) fun al o=>?_
  refine RL.seq (i:=5) (j:=0) (a:=aa.1) (b:=(⟨(-1),(-1),1,1⟩:aI)) (cg ab) zr o zr zr zr zr HA zr (fU ab (vb (decide (aa.1= (⟨(-1),(-1),1,1⟩:aI)))) (aP (vb (decide (aa.1= (⟨(-1),(-1),1,1⟩:aI)))) (RL.nil ?_)))
  obtain rfl:=oi hj
  exact⟨rfl,o.sp 10 []⟩
 rintro _ w ⟨O,rfl,o⟩
 refine aG (RC.ret ?_)
 obtain rfl:=oi hb
 exact bY ⟨rfl,o.drop 0⟩
theorem nF {p0:kH} {res:Bool} (o:Holds E w V) (h0:V[i0]? =some (rd v0 p0)) (hb:gl N p0=some res):
    Calls bN 3 [v0].toArray w (gQ (aU E V res)):=by
 unfold gl at hb
 refine enter Tryz.func3 zr zr ?_
 have o:=o.dup (i0+0) h0
 refine RC.sr (RL.dK 0 v0 o zr fun bf w o=>?_)
 have o:=o.lf (i:=0) rfl
 refine aP (vb false) (RL.ns (RL.bF 0 p0 o rN fun ay o=>?_))
 obtain⟨ad,az,hb⟩:=bd hb
 refine RL.call zt zr N0 [ay] zr (aD (xE N (i0:=0) o zr az) ?_)
 rintro _ w ⟨al,rfl,o⟩
 refine mv (.tuple #[al,(vi ad.2)]) (RL.extract al (RL.extract (vi ad.2) (aP al (aP (vi ad.2) (RL.ns (RL.bF 2 p0 o rN fun a0 o=>?_))))))
 obtain⟨ae,a1,hb⟩:=bd hb
 refine RL.call zt zr N1 [a0] zr (aD (r6 N (i0:=0) o zr a1) ?_)
 rintro _ w ⟨an,rfl,o⟩
 refine mv (.tuple #[an,(vi ae.2)]) (RL.extract an (RL.extract (vi ae.2) (aP an (aP (vi ae.2) (RL.ns (RL.bF 4 p0 o rN fun a2 o=>?_))))))
 obtain⟨af,a3,hb⟩:=bd hb
 refine RL.call zt zr N2 [a2] zr (aD (yy N (i0:=0) o zr a3) ?_)
 rintro _ w ⟨ao,rfl,o⟩
 refine mv (.tuple #[ao,(vi af.2)]) (RL.extract ao (RL.extract (vi af.2) (aP ao (aP (vi af.2) (RL.ns (RL.bF 6 p0 o rN fun a4 o=>?_))))))
 obtain⟨ag,a5,hb⟩:=bd hb
 refine RL.call zt zr N3 [a4] zr (aD (sQ N (i0:=0) o zr a5) ?_)
 rintro _ w ⟨aq,rfl,o⟩
 refine mv (.tuple #[aq,(vi ag.2)]) (RL.extract aq (RL.extract (vi ag.2) (aP aq (aP (vi ag.2) (RL.nq ?_)))))
 obtain⟨au,hj,hb⟩:=bd hb
 refine RC.jn (fun(au:Bool)=>SH E V [(2,vb au)] []) au ?_ ?_
 ·refine RC.vH mixed [0,2,1,2,0,0,0,0,2,0,0,0,0,0,0,0,0,0,2,0,0,0,0,0,0,0,2,0,0] [0,2,1,3,4,5,6,7,8,9,10,11,12,13,14,15,16,17,18,19,20,21,22,23,24,25,26,27,28] ?_
  have o:=o.drew
  refine DP.e0 zr (RL.bF 8 p0 o rN fun a6 o=>(DP.d0 (DP.yj p0 9 zr zt o rN fun a7 a83 bg o=>(DP.e2 zr ?_))))
  obtain⟨av,a8,hj⟩:=bd hj
  refine RL.call zt zr N4 [a6] zr (aD (wL N (i0:=2) o zr a8) ?_)
  rintro _ w ⟨rfl,o⟩
  refine DP.d2 (⟨zt,o.gm 0⟩) (DP.e2 zr ?_)
  obtain⟨aw,a9,hj⟩:=bd hj
  refine RL.call zt zr Nk [a7] zr (aD (kx N (i0:=1) o zr a9) ?_)
  rintro _ w ⟨rfl,o⟩
  refine DP.d2 (⟨zt,o.gm 0⟩) (DP.e0 zr (ic av aw (aY zr (mv (vb (av==aw)) (DP.d0 (fN hj (fun aj hj=>?_) fun aj hj=>?_))))))
  rotate_left
  ·refine DP.e0 zr (bJ aj (aY zr (bJ aj (oN zr (bJ aj (DP.d2 (⟨zt,o.gm 0⟩) (DP.e0 zr (fU aj (vb false) ?_))))))))
   refine aY zr (mv (vb false) (aY zr (jR (aY zr (jR (aY zr (jR (aY zr ?_))))))))
   refine RL.pick false (vb false) zr (aY zr (mv (vb false) (aY zr (jR (aY zr (jR (oN zr (jR ?_))))))))
   refine DP.d2 (⟨zt,o.gm 0⟩) (DP.e0 zr (RL.pick false (vb false) zr (aY zr (mv (vb false) (aY zr (jR (aY zr (jR ?_))))))))
   refine aY zr (jR (aY zr (RL.pick false (vb false) zr (aY zr (mv (vb false) (oN zr (jR (DP.d2 (⟨zt,o.gm 0⟩) ?_))))))))
   refine DP.e0 zr (RL.pick false (vb false) zr (aY zr (aP (vb false) (DP.d0 ?_))))
   have o:=o.pl 13 [1,2,3,4,5,6,7,8,9,10,11,12]
   refine DP.z ?_
   obtain rfl:=oi hj
   exact⟨rfl,o.sp 12 []⟩
  refine DP.e0 zr (RL.move al (cg aj) (aY zr (RL.move an (cg aj) (oN zr ?_))))
  have o:=(o.freeze 9).freeze 7
  obtain⟨ah,ba,hj⟩:=bd hj
  refine RL.call (cg aj) rfl Ny [al,an,(.func (.func 11) #[] #[])] rfl (aD (nS N (i0:=9) (i1:=7) o rfl rfl ⟨11,[],rfl,LJ,fun w Γl v v' y0 y1 r i j o hi hj hr=>by exact aD (mM N (i0:=i) (i1:=j) o hi hj hr) fun _ _ h=>h⟩ ba) ?_)
  rintro _ w ⟨rfl,o⟩
  refine DP.d2 (⟨zt,o.gm 0⟩) (DP.e0 zr (fU aj (vb ah) (aY zr (mv (vb ah) (aY zr (RL.gs true ah (vi ad.2) zr zr zr cI (aY zr (RL.gs true ah (vi ae.2) zr zr zr cI ?_))))))))
  refine aY rfl (RL.gs true ah (vb (ad.2==ae.2)) rfl rfl rfl (dL .eql .i64 ad.2 ae.2 rfl (fun h=>by exact(cO h:cv (true&&(ah==true)) (vi ad.2)= (vi ad.2))) (fun h=>by exact(cO h:cv (true&&(ah==true)) (vi ae.2)= (vi ae.2))) rfl) (aY rfl (RL.pick ah (vb (ah&&(ad.2==ae.2))) (gx true rfl) (aY rfl (mv (vb (ah&&(ad.2==ae.2))) (DP.d0 (fN hj (fun ak hj=>?_) fun ak hj=>?_)))))))
  rotate_left
  ·refine DP.e0 zr (bJ ak (aY zr (bJ ak (oN zr (bJ ak (DP.d2 (⟨zt,o.gm 0⟩) (DP.e0 zr (fU ak (vb false) ?_))))))))
   refine aY zr (mv (vb false) (aY zr (jR (aY zr (jR (aY zr (jR (aY zr ?_))))))))
   refine RL.pick false (vb false) zr (aY zr (mv (vb false) (oN zr (jR (DP.d2 (⟨zt,o.gm 0⟩) (DP.e0 zr (RL.pick false (vb false) zr (aY zr ?_))))))))
   refine aP (vb false) (DP.d0 ?_)
   have o:=o.pl 13 [1,2,3,4,5,6,7,8,9,10,11,12]
   refine DP.z ?_
   obtain rfl:=oi hj
   exact⟨rfl,o.sp 12 []⟩
  refine DP.e0 zr (RL.move ao (cg ak) (aY zr (RL.move aq (cg ak) (oN zr ?_))))
  have o:=(o.freeze 5).freeze 3
  obtain⟨ai,bb,hj⟩:=bd hj
  refine RL.call (cg ak) zr Nz [ao,aq] zr (aD (ux N (i0:=5) (i1:=3) o zr zr bb) ?_)
  rintro _ w ⟨rfl,o⟩
  refine DP.d2 (⟨zt,o.gm 0⟩) (DP.e0 zr (fU ak (vb ai) (aY zr (mv (vb ai) (aY zr (RL.gs true ai (vi af.2) zr zr zr cI (aY zr (RL.gs true ai (vi ag.2) zr zr zr cI ?_))))))))
  refine aY rfl (RL.gs true ai (vb (af.2==ag.2)) rfl rfl rfl (dL .eql .i64 af.2 ag.2 rfl (fun h=>by exact(cO h:cv (true&&(ai==true)) (vi af.2)= (vi af.2))) (fun h=>by exact(cO h:cv (true&&(ai==true)) (vi ag.2)= (vi ag.2))) rfl) (aY rfl (RL.pick ai (vb (ai&&(af.2==ag.2))) (gx true rfl) (aY rfl (mv (vb (ai&&(af.2==ag.2))) (DP.d0 (fN hj (fun ar hj=>?_) fun ar hj=>?_)))))))
  rotate_left
  ·refine DP.e2 zr (bJ ar (DP.d2 (⟨zt,o.gm 0⟩) (DP.e0 zr (fU ar (vb false) (aY zr (aP (vb false) (DP.d0 ?_)))))))
   have o:=o.pl 13 [1,2,3,4,5,6,7,8,9,10,11,12]
   refine DP.z ?_
   obtain rfl:=oi hj
   exact⟨rfl,o.sp 12 []⟩
  refine DP.e2 zr ?_
  obtain⟨ax,bc,hj⟩:=bd hj
  refine RL.call (cg ar) zr NB [] zr (aD (tJ N o bc) ?_)
  rintro _ w ⟨rfl,o⟩
  refine DP.d2 (⟨zt,o.gm 0⟩) (DP.e0 zr (fU ar (vb ax) (aY zr (aP (vb ax) (DP.d0 ?_)))))
  have o:=o.pl 13 [1,2,3,4,5,6,7,8,9,10,11,12]
  refine DP.z ?_
  obtain rfl:=oi hj
  exact⟨rfl,o.sp 12 []⟩
 rintro _ w ⟨O,rfl,o⟩
 refine aG (RC.ret ?_)
 obtain rfl:=oi hb
 exact bY ⟨rfl,o.drop 0⟩
end Go.Gk
