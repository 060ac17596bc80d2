/-
  Printed texts: Go functions as plain functions, and that they are. No statement of the seed is proved here.
-/
import Derived.Test.YtmmiladckdcjeacGreatDoorG1
import Derived.Test.YtmmiladckdcjeacGreatDoorG6
import Derived.Test.YtmmiladckdcjeacGreatDoorG7
import Derived.Test.YtmmiladckdcjeacGreatDoorG8
import Derived.Test.YtmmiladckdcjeacGreatDoorG2
import Derived.Test.YtmmiladckdcjeacGreatDoorA2
set_option linter.unusedVariables false
set_option linter.unusedSimpArgs false
set_option linter.unusedSectionVars false
set_option maxRecDepth 100000
set_option maxHeartbeats 4000000
namespace Go.Gk
open Go Go.Proofs
variable (N:Nat) {E w:World} {b0 i0 i1:Nat} {res:Int} {v0 v0_0 v0_1 v0_2 v0_3 v0_4 v0_5 v0_6 v0_7 v1:Value} {V:List HP}
def mI (E:World) (V:List HP) (b0:Nat) (v0_0 v0_1:Value) (v0_2 v0_3:Value) (v0_4 v0_5 v0_6:Value) (us0_6:List aT) (p0_6: (List cF)) (v0_7:Value) (r:Int) (U:Nat->Value) (w:World):Prop:=lF bN 49 Tryz.f36 (gw E V b0 v0_0 v0_1 v0_2 v0_3 v0_4 v0_5 v0_6 us0_6 p0_6 v0_7 r) .ret U w
theorem mo {us0_6:List aT} {p0_6: (List cF)} {p1:j8} (j:Holds E w (bc 74 b0 [v0_0,v0_1,v0_2,v0_3,v0_4,v0_5,v0_6,v0_7]::own 104 v0_6 us0_6::ir aV us0_6 p0_6 none::V)) (h1:V[i1]? =some (rd v1 p1)) (hb:dT N p0_6 p1=some res):
    Calls bN 36 [(vp b0 0),v1].toArray w (gL (gw E V b0 v0_0 v0_1 v0_2 v0_3 v0_4 v0_5 v0_6 us0_6 p0_6 v0_7 res)):=by
 unfold dT at hb
 refine enter Tryz.func36 zr zr ?_
 have j:=j.dup (i1+3) h1
 refine RC.sr (RL.cS 0 v1 j zr fun ah w j=>?_)
 refine aQ (vi 0) (RL.nq (RC.sr (aQ (vi 0) (RL.nt ?_))))
 obtain⟨a5,hN,hb⟩:=bd hb
 refine RC.iter (fun(af:Int)=>SH E V [(0,vp b0 0),(3,vp ah 0),(5,vi af)] [bc 74 b0 [v0_0,v0_1,v0_2,v0_3,v0_4,v0_5,v0_6,v0_7],own 104 v0_6 us0_6,ir aV us0_6 p0_6 none,bx 78 ah p1]) (fun(af:Int)=>SH E V [(0,vp b0 0)] [bc 74 b0 [v0_0,v0_1,v0_2,v0_3,v0_4,v0_5,v0_6,v0_7],own 104 v0_6 us0_6,ir aV us0_6 p0_6 none,bx 78 ah p1]) (mI E V b0 v0_0 v0_1 v0_2 v0_3 v0_4 v0_5 v0_6 us0_6 p0_6 v0_7) hN ?_ ?_ ?_ ?_
 ·exact j.sp 5 [2,3,4,0]
 ·rintro af fl _ w ⟨O,rfl,j⟩ hb
  refine RC.seq (RC.sr (mv (vi af) (mv (vp b0 0) (RL.nilCheck zr (RL.aY zr oH (RL.bK 0 v0_6 j r9 (RL.rZ 1 2 p0_6 j IF (ic af ((p0_6.length:Int)) ?_))))))))
  refine RL.nt (dQ hb (fun hc hb=>?_) fun hc hb=>?_)
  rotate_left
  ·refine RC.ex ?_
   obtain rfl:=oi hb
   exact⟨rfl,j.sp 4 [0,1,2,3]⟩
  refine RC.ss (RC.block (RC.seq ?_))
  obtain⟨an,o,hb⟩:=bd hb
  refine RC.jn (fun(an:Bool)=>SH E V [(0,vp b0 0),(3,vp ah 0),(5,vi af),(47,vb an)] [bc 74 b0 [v0_0,v0_1,v0_2,v0_3,v0_4,v0_5,v0_6,v0_7],own 104 v0_6 us0_6,ir aV us0_6 p0_6 none,bx 78 ah p1]) an ?_ ?_
  ·refine RC.ug mixed [0,0,0,0,0,0,0,0,0,0,0,0,0,2,0,0,0,0,0,0,0,0,0,0,0,0,0,0,0,0,2,0,0] [0,1,2,3,4,5,6,7,8,9,10,11,12,13,14,15,16,17,18,19,20,21,22,23,24,25,26,27,28,29,30,31,32] ?_
   have j:=j.drew
   refine DP.e0 zr (RL.aY zr wu (aW zr (RL.aM 3 j zr qB zZ (aW zr (mv (vb p1.bZ) (DP.d0 (eZ o (fun aa o=>?_) fun aa o=>?_)))))))
   rotate_left
   ·refine DP.e0 zr (bC aa (aW zr (bC aa (aW zr (bC aa (aW zr (bC aa (aW zr ?_))))))))
    refine bC aa (aW zr (bC aa (aW zr (bC aa (aW zr (bC aa (aW zr (bC aa ?_))))))))
    refine aW zr (bC aa (ou zr (bC aa (qz zr (fq aa (vb false) (aW zr (mv (vb false) (aW zr ?_))))))))
    refine RL.aY (hg:=⟨_,zr,zr⟩) zr wu (aW zr (RL.aM (hg:=⟨_,zr,zr⟩) 3 j zr qB zZ (aW zr (RL.not (hg:=⟨_,zr,zr⟩) p1.bZ (aW zr (RL.move (vb (!p1.bZ)) ⟨_,zr,zr⟩ (DP.d0 (eZ o (fun ab o=>?_) fun ab o=>?_))))))))
    rotate_left
    ·refine DP.e0 zr (bC ab (aW zr (bC ab (aW zr (bC ab (aW zr (bC ab (aW zr ?_))))))))
     refine bC ab (aW zr (bC ab (aW zr (bC ab (aW zr (bC ab (aW zr (bC ab ?_))))))))
     refine aW zr (bC ab (ou zr (bC ab (qz zr (fq ab (vb false) (hg:=⟨_,zr,zr⟩) (aW zr (RL.pick false (vb false) zr (DP.d0 ?_))))))))
     refine DP.z ?_
     obtain rfl:=oi o
     exact⟨rfl,j.sp 4 [0,1,2,3]⟩
    refine DP.e0 zr (RL.move (vp b0 0) (cg ab) (aW zr (RL.nilCheck (hg:=(cg ab)) zr (aW zr (RL.aY (hg:=(cg ab)) zr oH (aW zr (RL.bK (hg:=(cg ab)) 0 v0_6 j r9 (aW zr ?_))))))))
    refine RL.move (vi af) (cg ab) (aW zr ?_)
    obtain⟨av,ai,o⟩:=bd o
    have hl265:=j.eE 2
    have hr266:=fO (default:aT) hl265 ai
    have hq267:=jF 1 j hr266 0
    refine RL.bV (hg:=(cg ab)) 1 j zr zr yj hr266 (aW zr ?_)
    have hl268:=j.eE 2
    have hr269:=fO (default:aT) hl268 ai
    refine RL.k7 (α:=aT) (cg ab) (jF 1 j hr269 0) pY (aW zr ?_)
    have hl270:=j.eE 2
    have hr271:=fO (default:aT) hl270 ai
    refine RL.wg (fun u=>u.iZ) av.iZ 1 2 af vQ (default:aT) (cg ab) zr j zr (jF 1 j hr271 0) zr zr ai (fun u hu=>hu.1) fu fun aw j=>(aW zr (RL.aY (hg:=(cg ab)) zr uA (aW zr (RL.aM (hg:=(cg ab)) 4 j zr ph cI (ou zr ?_)))))
    obtain⟨ao,ax,o⟩:=bd o
    refine RL.call (cg ab) zr EJ [aw,(vi p1.Number)] zr (aD (eD N (p1:=p1.Number) (i0:=0) j zr ax) ?_)
    rintro _ w ⟨rfl,j⟩
    refine qz zr (fq ab (vb ao) (hg:=⟨_,zr,zr⟩) (aW zr (RL.pick false (vb ao) zr (DP.d0 (DP.z ?_)))))
    obtain rfl:=oi o
    exact⟨rfl,j.sp 5 [1,2,3,4]⟩
   refine DP.e0 zr (RL.move (vp b0 0) (cg aa) (aW zr (RL.nilCheck (hg:=(cg aa)) zr (aW zr (RL.aY (hg:=(cg aa)) zr oH (aW zr (RL.bK (hg:=(cg aa)) 0 v0_6 j r9 (aW zr ?_))))))))
   refine RL.move (vi af) (cg aa) (aW zr ?_)
   obtain⟨ay,aj,o⟩:=bd o
   have hl242:=j.eE 2
   have hr243:=fO (default:aT) hl242 aj
   have hq244:=jF 1 j hr243 0
   refine RL.bV (hg:=(cg aa)) 1 j zr zr yj hr243 (aW zr ?_)
   have hl245:=j.eE 2
   have hr246:=fO (default:aT) hl245 aj
   refine RL.k7 (α:=aT) (cg aa) (jF 1 j hr246 0) tm (aW zr ?_)
   have hl247:=j.eE 2
   have hr248:=fO (default:aT) hl247 aj
   refine RL.wg (fun u=>u.aO) ay.aO 1 2 af Be (default:aT) (cg aa) zr j zr (jF 1 j hr248 1) zr zr aj (fun u hu=>hu.2) fu fun az j=>(aW zr (RL.aY (hg:=(cg aa)) zr uA (aW zr (RL.aM (hg:=(cg aa)) 4 j zr ph cI (ou zr ?_)))))
   obtain⟨aq,a0,o⟩:=bd o
   refine RL.call (cg aa) zr EJ [az,(vi p1.Number)] zr (aD (eD N (p1:=p1.Number) (i0:=0) j zr a0) ?_)
   rintro _ w ⟨rfl,j⟩
   refine qz zr (fq aa (vb aq) (aW zr (mv (vb aq) (DP.d0 (eZ o (fun ag o=>?_) fun ag o=>?_)))))
   ·refine DP.e0 zr (bC ag (aW zr (bC ag (aW zr (bC ag (aW zr (bC ag (aW zr ?_))))))))
    refine w7 (aW zr (w7 (aW zr (w7 (aW zr (w7 (aW zr (w7 ?_))))))))
    refine aW zr (w7 (aW zr (w7 (aW zr (w7 (aW zr (w7 (aW zr ?_))))))))
    refine w7 (ou zr (w7 (qz zr (bC ag (aW zr (fq ag (vb true) (DP.d0 (DP.z ?_))))))))
    obtain rfl:=oi o
    exact⟨rfl,j.sp 5 [1,2,3,4]⟩
   refine DP.e0 zr (RL.aY (hg:=(cg ag)) zr wu (aW zr (RL.aM (hg:=(cg ag)) 4 j zr qB zZ (aW zr (RL.not (hg:=(cg ag)) p1.bZ (aW zr (RL.move (vb (!p1.bZ)) (cg ag) (DP.d0 ?_))))))))
   refine eZ o (fun ad o=>?_) fun ad o=>?_
   rotate_left
   ·refine DP.e0 zr (bC ad (aW zr (bC ad (aW zr (bC ad (aW zr (bC ad (aW zr ?_))))))))
    refine bC ad (aW zr (bC ad (aW zr (bC ad (aW zr (bC ad (aW zr (bC ad ?_))))))))
    refine aW zr (bC ad (ou zr (bC ad (qz zr (fq ad (vb false) (hg:=(cg ag)) (aW zr (fq ag (vb false) (DP.d0 ?_))))))))
    refine DP.z ?_
    obtain rfl:=oi o
    exact⟨rfl,j.sp 5 [1,2,3,4]⟩
   refine DP.e0 zr (RL.move (vp b0 0) (cg ad) (aW zr (RL.nilCheck (hg:=(cg ad)) zr (aW zr (RL.aY (hg:=(cg ad)) zr oH (aW zr (RL.bK (hg:=(cg ad)) 1 v0_6 j r9 (aW zr ?_))))))))
   refine RL.move (vi af) (cg ad) (aW zr ?_)
   obtain⟨a1,ak,o⟩:=bd o
   have hl254:=j.eE 3
   have hr255:=fO (default:aT) hl254 ak
   have hq256:=jF 2 j hr255 0
   refine RL.bV (hg:=(cg ad)) 2 j zr zr yj hr255 (aW zr ?_)
   have hl257:=j.eE 3
   have hr258:=fO (default:aT) hl257 ak
   refine RL.k7 (α:=aT) (cg ad) (jF 2 j hr258 0) pY (aW zr ?_)
   have hl259:=j.eE 3
   have hr260:=fO (default:aT) hl259 ak
   refine RL.wg (fun u=>u.iZ) a1.iZ 2 3 af vQ (default:aT) (cg ad) zr j zr (jF 2 j hr260 0) zr zr ak (fun u hu=>hu.1) fu fun a2 j=>(aW zr (RL.aY (hg:=(cg ad)) zr uA (aW zr (RL.aM (hg:=(cg ad)) 5 j zr ph cI (ou zr ?_)))))
   obtain⟨ar,a3,o⟩:=bd o
   refine RL.call (cg ad) zr EJ [a2,(vi p1.Number)] zr (aD (eD N (p1:=p1.Number) (i0:=0) j zr a3) ?_)
   rintro _ w ⟨rfl,j⟩
   refine qz zr (fq ad (vb ar) (hg:=(cg ag)) (aW zr (fq ag (vb ar) (DP.d0 (DP.z ?_)))))
   obtain rfl:=oi o
   exact⟨rfl,j.sp 6 [2,3,4,5]⟩
  rintro _ w ⟨O,rfl,j⟩
  refine aH (dQ hb (fun hc hb=>?_) fun hc hb=>?_)
  rotate_left
  ·refine RC.skip (bQ (aH (RC.region (mv (vi af) (RL.fY af 1 (aQ (vi (IntKind.wrap .i64 (af+1))) (RL.nil ?_)))))))
   obtain rfl:=oi hb
   exact⟨rfl,j.sp 4 [0,1,2,3]⟩
  refine RC.sr (mv (vi af) (aQ (vi af) (RL.nt (RC.rb (bS ?_)))))
  obtain rfl:=oi hb
  exact⟨rfl,bX ⟨rfl,j.pk 4 [0,1,2]⟩⟩
 ·intro r U w e hK
  subst e
  refine bS ?_
  obtain rfl:=oi hb
  exact hK
 rintro af _ w rfl ⟨O,rfl,j⟩
 rw [Fo.dB] at hb
 refine aH (RC.sr (aQ (vi (-1)) (RL.nt (RC.ret ?_))))
 obtain rfl:=oi hb
 exact bX ⟨rfl,j.pk 4 [0,1,2]⟩
theorem np {p0_2: (List bZ)} {p0_4: (List Int)} {p0_5: (List (List aI))} {us0_6:List aT} {p0_6: (List cF)} {p1:eM} (j:Holds E w (bc 74 b0 [v0_0,v0_1,v0_2,v0_3,v0_4,v0_5,v0_6,v0_7]::rd v0_2 p0_2::rd v0_4 p0_4::rd v0_5 p0_5::own 104 v0_6 us0_6::ir aV us0_6 p0_6 none::V)) (h1:V[i1]? =some (rd v1 p1)) (o:dL N p0_2 p0_4 p0_5 p0_6 p1=some res):
    Calls bN 12 [(vp b0 0),v1].toArray w (gL (gw E V b0 v0_0 v0_1 v0_2 v0_3 v0_4 v0_5 v0_6 us0_6 p0_6 v0_7 res)):=by
 unfold dL at o
 refine enter Tryz.func12 zr zr ?_
 have j:=j.dup (i1+6) h1
 refine RC.sr (RL.cS 0 v1 j zr fun aj w j=>?_)
 refine aQ (vi 0) (RL.ns (mv (vp b0 0) (RL.bB (f:=(fun x=>x)) 0 j zr Fd.self rL fun ad j=>?_)))
 have j:=(((j.dup 6 rfl).dup 6 rfl).dup 6 rfl).pull 6
 obtain⟨aa,ae,o⟩:=bd o
 refine RL.call zt zr Lu [(vp b0 0),ad] zr (aD (lQ N (i1:=0) j zr ae) ?_)
 rintro _ w ⟨ab,rfl,j⟩
 refine mv (.tuple #[ab,(vb aa.2)]) (RL.extract ab (RL.extract (vb aa.2) (RL.alloc j F9.z fun ak w j=>?_)))
 refine RL.cC 0 j 1 zr tn fun w j=>?_
 refine aQ (vb aa.2) (RL.nq (RC.sr (mv (vb aa.2) (RL.not aa.2 (RL.nt (dQ o (fun hc o=>?_) fun hc o=>?_))))))
 ·refine RC.sr (aQ (vi (-1)) (RL.nt (RC.rt ?_)))
  obtain rfl:=oi o
  exact bX ⟨rfl,j.pk 12 [2,10,11]⟩
 refine RC.sx (mv (vp b0 0) (RL.bB (f:=(fun x=>x)) 0 j zr Fd.self tn fun ag j=>?_))
 have j:=((j.pull 12).pull 12).pull 5
 obtain⟨ah,ai,o⟩:=bd o
 refine RL.call zt zr Lv [(vp b0 0),ag] zr (aD (mo N (i1:=0) j zr ai) ?_)
 rintro _ w ⟨rfl,j⟩
 refine aQ (vi ah) (RL.nt (RC.ret ?_))
 obtain rfl:=oi o
 exact bX ⟨rfl,j.pk 16 [0,1,2]⟩
def om (E:World) (V:List HP) (b0:Nat) (v0_0 v0_1:Value) (v0_2 v0_3:Value) (v0_4 v0_5 v0_7:Value) (res: (List cF)) (v:Value) (w:World):Prop:=∃u0_6:Value,v = .tuple #[]/\Holds E w ([bc 74 b0 [v0_0,v0_1,v0_2,v0_3,v0_4,v0_5,u0_6,v0_7],own 104 u0_6 res]++V)
theorem nU {p0_2: (List bZ)} {p0_3: (List eM)} {p0_4: (List Int)} {p0_5: (List (List aI))} {p0_7: (List (List Int))} {res: (List cF)} (o:Holds E w (bc 74 b0 [v0_0,v0_1,v0_2,v0_3,v0_4,v0_5,(.slice none 0 0),v0_7]::rd v0_2 p0_2::rd v0_3 p0_3::rd v0_4 p0_4::rd v0_5 p0_5::rd v0_7 p0_7::V)) (hb:eT N p0_2 p0_3 p0_4 p0_5 p0_7=some res):
    Calls bN 34 [(vp b0 0)].toArray w (gL (om E V b0 v0_0 v0_1 v0_2 v0_3 v0_4 v0_5 v0_7 res)):=by
 unfold eT at hb
 refine enter Tryz.func34 zr zr (RC.sr (mv (vp b0 0) (RL.nilCheck zr (RL.aY zr uB (RL.bK 0 v0_5 o pJ (RL.bF 4 p0_5 o qC ?_))))))
 obtain⟨ck,b4,hb⟩:=bd hb
 refine RL.mk (p0_5.length:Int) o Ht MX b4 fun ay w o=>?_
 refine aQ ay (RL.nq (RC.sr (aQ (vi 0) (RL.nt ?_))))
 obtain⟨cl,hN,hb⟩:=bd hb
 refine RC.iter (fun(av: (List cF)×(List Bool)×Int) U w=>∃(br:Value) (us76:List aT),SH E V [(0,vp b0 0),(2,ay),(3,vi av.2.2)] [bc 74 b0 [v0_0,v0_1,v0_2,v0_3,v0_4,v0_5,br,v0_7],own 104 br us76,ir aV us76 av.1 none,rd v0_2 p0_2,rd v0_3 p0_3,rd v0_4 p0_4,rd v0_5 p0_5,rd v0_7 p0_7,own 4 ay av.2.1] U w) (fun(av: (List cF)×(List Bool)×Int) U w=>∃(a9:Value) (us78:List aT),SH E V [(0,vp b0 0)] [bc 74 b0 [v0_0,v0_1,v0_2,v0_3,v0_4,v0_5,a9,v0_7],own 104 a9 us78,ir aV us78 av.1 none,rd v0_2 p0_2,rd v0_3 p0_3,rd v0_4 p0_4,rd v0_5 p0_5,rd v0_7 p0_7,own 4 ay av.2.1] U w) (fun(r:Empty) _ _=>r.elim) hN ?_ ?_ ?_ ?_
 ·have o:=(o.zw aV).cW aT 104
  exact⟨(.slice none 0 0),([]:List aT),o.sp 9 [3,0,1,4,5,6,7,8,2]⟩
 ·rintro av fl _ w ⟨a5,us80,O,rfl,o⟩ hb
  refine RC.seq (RC.sr (mv (vi av.2.2) (mv (vp b0 0) (RL.nilCheck zr (RL.aY zr uB (RL.bK 0 v0_5 o pJ (RL.bF 6 p0_5 o qC (ic av.2.2 ((p0_5.length:Int)) ?_))))))))
  refine RL.nt (dQ hb (fun hc hb=>?_) fun hc hb=>?_)
  rotate_left
  ·refine RC.ex ?_
   obtain rfl:=oi hb
   exact⟨rfl,a5,us80,o.sp 9 [0,1,2,3,4,5,6,7,8]⟩
  refine RC.ss (RC.bs (mv ay (mv (vi av.2.2) ?_)))
  obtain⟨b5,bl,hb⟩:=bd hb
  refine RL.bV 8 o zr zr vS bl (RL.dH (f:=(fun x=>x)) 8 o (jF 8 o bl 0) (bH bl).2.1 Fd.self zZ (RL.not b5 (RL.nt ?_)))
  obtain⟨ba,hj,hb⟩:=bd hb
  refine RC.jn (fun(ba: (List cF)×(List Bool)) U w=>∃(bb:Value) (us91:List aT),SH E V [(0,vp b0 0),(2,ay),(3,vi av.2.2)] [bc 74 b0 [v0_0,v0_1,v0_2,v0_3,v0_4,v0_5,bb,v0_7],own 104 bb us91,ir aV us91 ba.1 none,rd v0_2 p0_2,rd v0_3 p0_3,rd v0_4 p0_4,rd v0_5 p0_5,rd v0_7 p0_7,own 4 ay ba.2] U w) ba ?_ ?_
  ·refine dQ hj (fun hc hj=>?_) fun hc hj=>?_
   rotate_left
   ·refine RC.skip ?_
    obtain rfl:=oi hj
    exact⟨rfl,a5,us80,o.sp 9 [0,1,2,3,4,5,6,7,8]⟩
   have o:=o.drew
   refine RC.EB (fun w=>Holds E w ([bc 74 b0 [v0_0,v0_1,v0_2,v0_3,v0_4,v0_5,a5,v0_7]]++V)) mixed zr [1,1,1,1,1,0,0,0,2,2,2,0,0,2] [0,1,2,3,4,5,6,7,8,9,10,11,12,13] (o.pk 9 [0]) (DP.e1 (vp b0 0) zr (fun w=>RL.move (vp b0 0) zt DP.d1) (DP.e1 (vp b0 0) zr (fun w=>RL.move (vp b0 0) zt DP.d1) (DP.e1 (vp b0 0) zr (fun w=>RL.nilCheck zr DP.d1) (DP.e1 (vp b0 6) zr (fun w=>RL.aY zr oH DP.d1) (DP.Iy a5 zr (fun w o=>RL.bK 0 a5 o r9 DP.d1) (DP.e0 zr (mv (vp b0 0) (aW zr ?_))))))))
   refine mv (vi av.2.2) (aW zr (mv ay (ou zr ?_)))
   have o:=((o.pull 8).dup 8 rfl).pull 2
   obtain⟨aw,b6,hj⟩:=bd hj
   refine RL.call zt zr M5 [(vp b0 0),(vi av.2.2),ay] zr (aD (pB N (p1:=av.2.2) o b6) ?_)
   rintro _ w ⟨bm,bf,a0,rfl,o⟩
   refine DP.d2 (o.pk 14 [3]) (DP.e2 zr ?_)
   have o:=(o.Bx (i:=2) rfl).Et (cs:=[bm,bf,a0]) (x:=(⟨aw.1.1,aw.1.2.1,(rv a0)⟩:aT)) (fun M hs g=>⟨[bm],[bf,a0],rfl,(rH (g.sat 1 _ rfl).1),⟨[bf],[a0],rfl,(rH (g.sat 2 _ rfl).1),(rH (g.sat 0 _ rfl).1)⟩⟩) rfl
   refine RL.dY ([(⟨aw.1.1,aw.1.2.1,(rv a0)⟩:aT)]:List aT) o [(.agg ([bm,bf,a0]:List Value).toArray)] yj Ho (fun M hs g=>⟨(g.sat 0 _ zr).1,zt⟩) fun cm w o=>(DP.d2 (o.pk 17 [6]) (DP.e2 zr ?_))
   obtain⟨cn,b7,hj⟩:=bd hj
   have o:=o.freeze 0
   refine RL.x8 9 0 10 5 aV (⟨aw.1.1,aw.1.2.1,(rv a0)⟩:aT) (⟨aw.1.1,aw.1.2.1,aw.1.2.2⟩:cF) a0 aw.1.2.2 (fun _ _ ho=>⟨⟨rfl,zr⟩,ho⟩) zr o zr zr zr zr zr zr J7 b7 fun bu w o=>?_
   refine DP.d2 (o.pk 17 [6]) (DP.e0 zr (RL.nilCheck zr (aW zr (RL.aY zr oH (DP.d0 (DP.LP zr zr (RL.iu 6 bu o zr zr (iO 9 o) r9 fun w o=>?_)))))))
   refine DP.d2 zt (DP.z ?_)
   obtain rfl:=oi hj
   exact⟨rfl,bu,(us80++[(⟨aw.1.1,aw.1.2.1,(rv a0)⟩:aT)]),o.sp 17 [6,9,10,11,12,13,14,15,7]⟩
  rintro _ w ⟨bb,us91,O,rfl,o⟩
  refine bQ (aH (RC.region (mv (vi av.2.2) (RL.fY av.2.2 1 (aQ (vi (IntKind.wrap .i64 (av.2.2+1))) (RL.nil ?_))))))
  obtain rfl:=oi hb
  exact⟨rfl,bb,us91,o.sp 9 [0,1,2,3,4,5,6,7,8]⟩
 ·intro r _ _ _ _
  exact r.elim
 rintro av _ w rfl ⟨a9,us78,O,rfl,o⟩
 rw [Fo.dB] at hb
 refine aH (RC.seq (RC.sr (aQ (vi 0) (RL.nt ?_))))
 obtain⟨cp,hN,hb⟩:=bd hb
 refine RC.iter (fun(aq: (List cF)×Int) U w=>∃(bw:Value) (us164:List aT),SH E V [(0,vp b0 0),(4,vi aq.2)] [bc 74 b0 [v0_0,v0_1,v0_2,v0_3,v0_4,v0_5,bw,v0_7],own 104 bw us164,ir aV us164 aq.1 none,rd v0_2 p0_2,rd v0_3 p0_3,rd v0_4 p0_4,rd v0_5 p0_5,rd v0_7 p0_7] U w) (fun(aq: (List cF)×Int) U w=>∃(ao:Value) (us166:List aT),SH E V [(0,vp b0 0)] [bc 74 b0 [v0_0,v0_1,v0_2,v0_3,v0_4,v0_5,ao,v0_7],own 104 ao us166,ir aV us166 aq.1 none,rd v0_2 p0_2,rd v0_3 p0_3,rd v0_4 p0_4,rd v0_5 p0_5,rd v0_7 p0_7] U w) (fun(r:Empty) _ _=>r.elim) hN ?_ ?_ ?_ ?_
 ·exact⟨a9,us78,o.sp 9 [0,1,2,3,4,5,6,7]⟩
 ·rintro aq fl _ w ⟨a6,us168,O,rfl,o⟩ hb
  refine RC.seq (RC.sr (mv (vi aq.2) (mv (vp b0 0) (RL.nilCheck zr (RL.aY zr tp (RL.bK 0 v0_7 o zj (RL.bF 7 p0_7 o F8 (ic aq.2 ((p0_7.length:Int)) ?_))))))))
  refine RL.nt (dQ hb (fun hc hb=>?_) fun hc hb=>?_)
  rotate_left
  ·refine RC.ex ?_
   obtain rfl:=oi hb
   exact⟨rfl,a6,us168,o.sp 8 [0,1,2,3,4,5,6,7]⟩
  refine RC.ss (RC.block (RC.seq ?_))
  obtain⟨bn,hj,hb⟩:=bd hb
  refine RC.jn (fun(bn:Bool)=>SH E V [(0,vp b0 0),(4,vi aq.2),(69,vb bn)] [bc 74 b0 [v0_0,v0_1,v0_2,v0_3,v0_4,v0_5,a6,v0_7],rd v0_2 p0_2,rd v0_3 p0_3,rd v0_4 p0_4,rd v0_5 p0_5,own 104 a6 us168,ir aV us168 aq.1 none,rd v0_7 p0_7]) bn ?_ ?_
  ·refine RC.region (mv (vp b0 0) (RL.nilCheck zr (RL.aY zr wv (RL.aY zr ik (RL.bK 0 v0_2 o nQ (mv (vi aq.2) ?_))))))
   obtain⟨bz,b8,hj⟩:=bd hj
   refine RL.bP 3 o qD b8 fun cq o=>(RL.dP 0 o zr yh qo fun cr o=>(RL.bE bz.fS 0 o zZ (mv (vb bz.fS) (eZ hj (fun au hj=>?_) fun au hj=>?_))))
   rotate_left
   ·refine bC au (bC au (bC au (bC au (bC au (bC au (bC au (bC au (bC au ?_))))))))
    refine fq au (vb false) (RL.nil ?_)
    obtain rfl:=oi hj
    exact⟨rfl,o.sp 10 [2,5,6,7,8,3,4,9]⟩
   refine RL.move (vp b0 0) (cg au) (RL.nilCheck (hg:=(cg au)) zr (RL.aY (hg:=(cg au)) zr tp (RL.bK (hg:=(cg au)) 2 v0_7 o zj (RL.move (vi aq.2) (cg au) ?_))))
   obtain⟨bg,b9,hj⟩:=bd hj
   refine RL.bP (hg:=(cg au)) 9 o z5 b9 fun ct o=>(RL.bJ (hg:=(cg au)) 0 bg o fu fun cu o=>(RL.bF (hg:=(cg au)) 0 bg o mn (RL.kX (bg.length:Int) 0 (cg au) (fq au (vb ((bg.length:Int)==0)) (RL.nil ?_)))))
   obtain rfl:=oi hj
   exact⟨rfl,o.sp 12 [4,7,8,9,10,5,6,11]⟩
  rintro _ w ⟨O,rfl,o⟩
  refine aH ?_
  obtain⟨bo,hj,hb⟩:=bd hb
  refine RC.jn (fun(bo: (List cF)) U w=>∃(bh:Value) (us193:List aT),SH E V [(0,vp b0 0),(4,vi aq.2)] [bc 74 b0 [v0_0,v0_1,v0_2,v0_3,v0_4,v0_5,bh,v0_7],own 104 bh us193,ir aV us193 bo none,rd v0_2 p0_2,rd v0_3 p0_3,rd v0_4 p0_4,rd v0_5 p0_5,rd v0_7 p0_7] U w) bo ?_ ?_
  ·refine dQ hj (fun hc hj=>?_) fun hc hj=>?_
   rotate_left
   ·refine RC.skip ?_
    obtain rfl:=oi hj
    exact⟨rfl,a6,us168,o.sp 8 [0,5,6,1,2,3,4,7]⟩
   refine RC.region (mv (vp b0 0) (mv (vp b0 0) (RL.nilCheck zr (RL.aY zr oH (RL.bK 0 a6 o r9 (mv (vi aq.2) ?_))))))
   have o:=o.sc Int aq.2
   refine RL.dY ([aq.2]: (List Int)) o [(vi aq.2)] eC CI (fun M hs g=>⟨(g.sat 0 _ zr).1,zt⟩) fun a3 w o=>(RL.Es [(.slice none 0 0),(.slice none 0 0),(.slice none 0 0)] [(.slice none 0 0),a3,(.slice none 0 0)] zr [(1,a3)] zr Jt ⟨(iO 0 o),zt⟩ zr ?_)
   have o:=((((o.cW dV 29).Bx (i:=0) rfl).x6 Int).freeze 3).Et (cs:=[(.slice none 0 0),a3,(.slice none 0 0)]) (x:=(⟨([]: (List Int)),([aq.2]: (List Int)),(rv (.slice none 0 0))⟩:aT)) (fun M hs g=>⟨[(.slice none 0 0)],[a3,(.slice none 0 0)],rfl,(rH (g.sat 0 _ rfl).1),⟨[a3],[(.slice none 0 0)],rfl,(rH (g.sat 3 _ rfl).1),(rH (g.sat 1 _ rfl).1)⟩⟩) rfl
   refine RL.dY ([(⟨([]: (List Int)),([aq.2]: (List Int)),(rv (.slice none 0 0))⟩:aT)]:List aT) o [(.agg ([(.slice none 0 0),a3,(.slice none 0 0)]:List Value).toArray)] yj Ho (fun M hs g=>⟨(g.sat 0 _ zr).1,zt⟩) fun cv w o=>?_
   obtain⟨cw,ca,hj⟩:=bd hj
   have o:=o.freeze 0
   refine RL.x8 12 0 13 4 aV (⟨([]: (List Int)),([aq.2]: (List Int)),(rv (.slice none 0 0))⟩:aT) (⟨([]: (List Int)),([aq.2]: (List Int)),([]: (List dV))⟩:cF) (.slice none 0 0) ([]: (List dV)) (fun _ _ ho=>⟨⟨rfl,zr⟩,ho⟩) zr o zr zr zr zr zr zr J7 ca fun b1 w o=>?_
   refine RL.nilCheck zr (RL.aY zr oH (RL.iu 7 b1 o zr zr (iO 12 o) r9 fun w o=>?_))
   refine RL.nil ?_
   obtain rfl:=oi hj
   exact⟨rfl,b1,(us168++[(⟨([]: (List Int)),([aq.2]: (List Int)),(rv (.slice none 0 0))⟩:aT)]),o.sp 15 [7,12,13,8,9,10,11,14]⟩
  rintro _ w ⟨bh,us193,O,rfl,o⟩
  refine bQ (aH (RC.region (mv (vi aq.2) (RL.fY aq.2 1 (aQ (vi (IntKind.wrap .i64 (aq.2+1))) (RL.nil ?_))))))
  obtain rfl:=oi hb
  exact⟨rfl,bh,us193,o.sp 8 [0,1,2,3,4,5,6,7]⟩
 ·intro r _ _ _ _
  exact r.elim
 rintro aq _ w rfl ⟨ao,us166,O,rfl,o⟩
 rw [Fo.dB] at hb
 refine aH (RC.sr (aQ (vi 0) (RL.nt ?_)))
 obtain⟨cx,hN,hb⟩:=bd hb
 refine RC.iter (fun(aj: (List cF)×Int) U w=>∃(us350:List aT),SH E V [(0,vp b0 0),(5,vi aj.2)] [bc 74 b0 [v0_0,v0_1,v0_2,v0_3,v0_4,v0_5,ao,v0_7],rd v0_2 p0_2,rd v0_3 p0_3,rd v0_4 p0_4,rd v0_5 p0_5,own 104 ao us350,ir aV us350 aj.1 none,rd v0_7 p0_7] U w) (fun(aj: (List cF)×Int) U w=>∃(us351:List aT),SH E V [(0,vp b0 0)] [bc 74 b0 [v0_0,v0_1,v0_2,v0_3,v0_4,v0_5,ao,v0_7],rd v0_2 p0_2,rd v0_3 p0_3,rd v0_4 p0_4,rd v0_5 p0_5,own 104 ao us351,ir aV us351 aj.1 none,rd v0_7 p0_7] U w) (fun(r:Empty) _ _=>r.elim) hN ?_ ?_ ?_ ?_
 ·exact⟨us166,o.sp 8 [0,3,4,5,6,1,2,7]⟩
 ·rintro aj fl _ w ⟨us352,O,rfl,o⟩ hb
  refine RC.seq (RC.sr (mv (vi aj.2) (mv (vp b0 0) (RL.nilCheck zr (RL.aY zr wv (RL.aY zr nR (RL.bK 0 v0_3 o wo (RL.bF 2 p0_3 o Dp ?_))))))))
  refine ic aj.2 ((p0_3.length:Int)) (RL.nt (dQ hb (fun hc hb=>?_) fun hc hb=>?_))
  rotate_left
  ·refine RC.ex ?_
   obtain rfl:=oi hb
   exact⟨rfl,us352,o.sp 8 [0,1,2,3,4,5,6,7]⟩
  refine RC.ss (RC.bs (mv (vp b0 0) (RL.nilCheck zr (RL.aY zr wv (RL.aY zr nR (RL.bK 0 v0_3 o wo (mv (vi aj.2) ?_)))))))
  obtain⟨ar,cb,hb⟩:=bd hb
  refine RL.bP 2 o zY cb fun cc o=>(RL.bJ 0 ar o rL fun cd o=>(RL.alloc o Hh.z fun bj w o=>?_))
  refine RL.cC 0 o 1 zr rL fun w o=>?_
  refine RL.ns (mv (vp b0 0) (RL.bB (f:=(fun x=>x)) 0 o zr Fd.self rL fun b2 o=>?_))
  have o:=(((((o.pull 10).pull 10).dup 10 rfl).dup 10 rfl).dup 9 rfl).pull 9
  obtain⟨aa,cf,hb⟩:=bd hb
  refine RL.call zt zr Lw [(vp b0 0),b2] zr (aD (np N (i1:=0) o zr cf) ?_)
  rintro _ w ⟨rfl,o⟩
  refine aQ (vi aa) (RL.ns (mv (vi aa) (ic aa 0 (RL.nt ?_))))
  obtain⟨bp,hj,hb⟩:=bd hb
  refine RC.jn (fun(bp: (List cF)) U w=>∃(us393:List aT),SH E V [(0,vp b0 0),(5,vi aj.2)] [bc 74 b0 [v0_0,v0_1,v0_2,v0_3,v0_4,v0_5,ao,v0_7],rd v0_2 p0_2,rd v0_3 p0_3,rd v0_4 p0_4,rd v0_5 p0_5,own 104 ao us393,ir aV us393 bp none,rd v0_7 p0_7] U w) bp ?_ ?_
  ·refine dQ hj (fun hc hj=>?_) fun hc hj=>?_
   rotate_left
   ·refine RC.skip ?_
    obtain rfl:=oi hj
    exact⟨rfl,us352,o.sp 15 [0,8,9,10,11,1,2,14]⟩
   obtain⟨cy,a7,hj⟩:=bd hj
   obtain⟨a1,ch,hj⟩:=bd hj
   obtain⟨a2,bk,hj⟩:=bd hj
   refine RC.F2 E V mixed [1,1,1,0,1,1,1,1,0,1,0,0,0,1,0,1,0,0,0,0,0,0,0] [17,18,19,22] (fun(x:Value×Value×Value)=>(fun al ak ag=>[(0,105,(vp b0 0)),(1,106,(vp b0 0)),(2,107,(vp b0 6)),(3,108,ao),(4,109,(vi aa)),(5,110,(vp b0 0)),(6,111,(vp b0 0)),(7,112,(vp b0 6)),(8,113,ao),(9,114,(vi aa)),(10,115,(zg ao (Int.toNat aa) 3 0)),(11,116,(zg ao (Int.toNat aa) 3 2)),(12,117,(us352.getD (Int.toNat aa) (default:aT)).gl.v),(13,118,(vp bj 0)),(14,119,(str ar.Part)),(15,120,(vp bj 1)),(16,121,(str ar.dV)),(17,122,al),(18,123,ak),(19,124,ag),(20,125,(zg ao (Int.toNat aa) 3 0)),(21,126,(zg ao (Int.toNat aa) 3 2))]) x.1 x.2.1 x.2.2) [(0,vp b0 0),(5,vi aj.2),(6,vp bj 0),(7,vi aa)] [] (fun(D:Nat->Bool) (x:Value×Value×Value)=>(fun al ak ag=>[bif D 0 then (rd al (⟨ar.Part,ar.dV⟩:dV)) else bD,bif D 2 then (rd ak ([(⟨ar.Part,ar.dV⟩:dV)]: (List dV))) else (bif D 1 then (own 29 ak ([(⟨ar.Part,ar.dV⟩:dV)]: (List dV))) else bD),bif D 3 then bD else (bif D 2 then (own 29 ag a1) else bD),bc 74 b0 [v0_0,v0_1,v0_2,v0_3,v0_4,v0_5,ao,v0_7],bif D 3 then (own 104 ao (us352.set (Int.toNat aa) {(us352.getD (Int.toNat aa) (default:aT)) with gl:=rv ag})) else (own 104 ao us352),bif D 3 then (ir aV (us352.set (Int.toNat aa) {(us352.getD (Int.toNat aa) (default:aT)) with gl:=rv ag}) (aj.1.set (Int.toNat aa) {a2 with gl:=a1}) none) else (bif D 2 then (ir aV us352 aj.1 (some (Int.toNat aa))) else (ir aV us352 aj.1 none)),rd b2 ar,bx 54 bj ar,rd cd ar,pt cc ar,bD,rd v0_2 p0_2,rd v0_3 p0_3,rd v0_4 p0_4,rd v0_5 p0_5,bD,bD,rd v0_7 p0_7]) x.1 x.2.1 x.2.2) (fun x=>by kernel_rfl) ?_ ⟨fun _=>jG gn,fun _=>w5 gn,fun _=>nN gn oH,?_,fun _=>jG gn,fun _=>jG gn,fun _=>w5 gn,fun _=>nN gn oH,?_,fun _=>jG gn,?_,?_,?_,fun _=>nN gn tk,?_,fun _=>nN gn wq,?_,?_,?_,?_,?_,?_,?_,trivial⟩ ?_
   ·have o:=(((o.drew).bD).bD).bD
    exact⟨(undef,undef,undef),gH.none,(EC zr),zt,o⟩
   ·rintro D U w hD ai ab ⟨⟨al,ak,ag⟩,hv,ha,_,o⟩
    obtain⟨O,rfl⟩:=(ac (hv.at 2 rfl (ai.1 rfl)) az).fI
    refine RL.bK 3 ao o r9 ?_
    exact RL.nil ⟨rfl,(al,ak,ag),hv.put 3 zr zr,ha.up zr,zt,o⟩
   ·rintro D U w hD ai ab ⟨⟨al,ak,ag⟩,hv,ha,_,o⟩
    obtain⟨O,rfl⟩:=(ac (hv.at 7 rfl (ai.1 rfl)) az).fI
    refine RL.bK 3 ao o r9 ?_
    exact RL.nil ⟨rfl,(al,ak,ag),hv.put 8 zr zr,ha.up zr,zt,o⟩
   ·rintro D U w hD ai ab ⟨⟨al,ak,ag⟩,hv,ha,_,o⟩
    obtain⟨O,rfl⟩:=(ac (hv.at 8 rfl (ai.1 rfl)) (ac (hv.at 9 rfl (ai.2.1 rfl)) az)).fI
    have o:=((o.cD 4 (nf (fun h=>ft hD ((ab 22 _ rfl h).2.2.2.2.2.2.2.2.2.2.2.2.2.1 rfl)))).cD 5 (nf (fun h=>ft hD ((ab 22 _ rfl h).2.2.2.2.2.2.2.2.2.2.2.2.2.1 rfl)))).cD 5 (nf (fun h=>ft hD ((ab 11 _ rfl ((ab 12 _ rfl ((ab 19 _ rfl h).1 rfl)).1 rfl)).1 rfl)))
    have hl412:=o.eE 5
    have hr413:=fO (default:aT) hl412 a7
    refine RL.bV 4 o zr zr yj hr413 ?_
    have o:=(o.eX 4 (D 22) (nf (fun h=>ft hD ((ab 22 _ rfl h).2.2.2.2.2.2.2.2.2.2.2.2.2.1 rfl))) (own 104 ao (us352.set (Int.toNat aa) {(us352.getD (Int.toNat aa) (default:aT)) with gl:=rv ag}))).eX 5 (D 19) (nf (fun h=>ft hD ((ab 11 _ rfl ((ab 12 _ rfl ((ab 19 _ rfl h).1 rfl)).1 rfl)).1 rfl))) (ir aV us352 aj.1 (some (Int.toNat aa)))
    have o:=o.eX 5 (D 22) (nf (fun h=>ft hD ((ab 22 _ rfl h).2.2.2.2.2.2.2.2.2.2.2.2.2.1 rfl))) (ir aV (us352.set (Int.toNat aa) {(us352.getD (Int.toNat aa) (default:aT)) with gl:=rv ag}) (aj.1.set (Int.toNat aa) {a2 with gl:=a1}) none)
    exact RL.nil ⟨rfl,(al,ak,ag),hv.put 10 zr zr,ha.up zr,zt,o⟩
   ·rintro D U w hD ai ab ⟨⟨al,ak,ag⟩,hv,ha,_,o⟩
    obtain⟨O,rfl⟩:=(ac (hv.at 10 rfl (ai.1 rfl)) az).fI
    have o:=((o.cD 4 (nf (fun h=>ft hD ((ab 22 _ rfl h).2.2.2.2.2.2.2.2.2.2.2.2.2.2.1 rfl)))).cD 5 (nf (fun h=>ft hD ((ab 22 _ rfl h).2.2.2.2.2.2.2.2.2.2.2.2.2.2.1 rfl)))).cD 5 (nf (fun h=>ft hD ((ab 12 _ rfl ((ab 19 _ rfl h).1 rfl)).1 rfl)))
    have hl414:=o.eE 5
    have hr415:=fO (default:aT) hl414 a7
    refine RL.k7 (α:=aT) zt (jF 4 o hr415 0) zy ?_
    have o:=(o.eX 4 (D 22) (nf (fun h=>ft hD ((ab 22 _ rfl h).2.2.2.2.2.2.2.2.2.2.2.2.2.2.1 rfl))) (own 104 ao (us352.set (Int.toNat aa) {(us352.getD (Int.toNat aa) (default:aT)) with gl:=rv ag}))).eX 5 (D 19) (nf (fun h=>ft hD ((ab 12 _ rfl ((ab 19 _ rfl h).1 rfl)).1 rfl))) (ir aV us352 aj.1 (some (Int.toNat aa)))
    have o:=o.eX 5 (D 22) (nf (fun h=>ft hD ((ab 22 _ rfl h).2.2.2.2.2.2.2.2.2.2.2.2.2.2.1 rfl))) (ir aV (us352.set (Int.toNat aa) {(us352.getD (Int.toNat aa) (default:aT)) with gl:=rv ag}) (aj.1.set (Int.toNat aa) {a2 with gl:=a1}) none)
    exact RL.nil ⟨rfl,(al,ak,ag),hv.put 11 zr zr,ha.up zr,zt,o⟩
   ·rintro D U w hD ai ab ⟨⟨al,ak,ag⟩,hv,ha,_,o⟩
    obtain⟨O,rfl⟩:=(ac (hv.at 11 rfl (ai.1 rfl)) az).fI
    have o:=((o.cD 4 (nf (fun h=>ft hD ((ab 22 _ rfl h).2.2.2.2.2.2.2.2.2.2.2.2.2.2.2.1 rfl)))).cD 5 (nf (fun h=>ft hD ((ab 22 _ rfl h).2.2.2.2.2.2.2.2.2.2.2.2.2.2.2.1 rfl)))).cD 5 (nf (fun h=>ft hD ((ab 19 _ rfl h).1 rfl)))
    have hl416:=o.eE 5
    have hr417:=fO (default:aT) hl416 a7
    refine RL.u9 4 5 aa n8 (default:aT) zr o zr (jF 4 o hr417 2) zr zr a7 Fu ?_
    have o:=(o.eX 4 (D 22) (nf (fun h=>ft hD ((ab 22 _ rfl h).2.2.2.2.2.2.2.2.2.2.2.2.2.2.2.1 rfl))) (own 104 ao (us352.set (Int.toNat aa) {(us352.getD (Int.toNat aa) (default:aT)) with gl:=rv ag}))).eX 5 (D 19) (nf (fun h=>ft hD ((ab 19 _ rfl h).1 rfl))) (ir aV us352 aj.1 (some (Int.toNat aa)))
    have o:=o.eX 5 (D 22) (nf (fun h=>ft hD ((ab 22 _ rfl h).2.2.2.2.2.2.2.2.2.2.2.2.2.2.2.1 rfl))) (ir aV (us352.set (Int.toNat aa) {(us352.getD (Int.toNat aa) (default:aT)) with gl:=rv ag}) (aj.1.set (Int.toNat aa) {a2 with gl:=a1}) none)
    exact RL.nil ⟨rfl,(al,ak,ag),hv.put 12 zr zr,ha.up zr,zt,o⟩
   ·rintro D U w hD ai ab ⟨⟨al,ak,ag⟩,hv,ha,_,o⟩
    obtain⟨O,rfl⟩:=(ac (hv.at 13 rfl (ai.1 rfl)) az).fI
    refine RL.aM 7 o zr m8 yP ?_
    exact RL.nil ⟨rfl,(al,ak,ag),hv.put 14 zr zr,ha.up zr,zt,o⟩
   ·rintro D U w hD ai ab ⟨⟨al,ak,ag⟩,hv,ha,_,o⟩
    obtain⟨O,rfl⟩:=(ac (hv.at 15 rfl (ai.1 rfl)) az).fI
    refine RL.aM 7 o zr oY yP ?_
    exact RL.nil ⟨rfl,(al,ak,ag),hv.put 16 zr zr,ha.up zr,zt,o⟩
   ·rintro D U w hD ai ab ⟨⟨al,ak,ag⟩,hv,ha,_,o⟩
    obtain⟨O,rfl⟩:=(ac (hv.at 14 rfl (ai.1 rfl)) (ac (hv.at 16 rfl (ai.2.1 rfl)) az)).fI
    have o:=((o.cD 0 hD).sc eJ ar.Part).sc eJ ar.dV
    refine RL.build (⟨ar.Part,ar.dV⟩:dV) trivial rfl o [(0,(str ar.Part)),(1,(str ar.dV))] rfl K0 rfl (fun M hs g=>by have h:=Jb M;exact cU.cons (f:=fun(x:dV) y=>{x with Part:=y}) h Di (g.sat 1 _ rfl).1 fun _ h=>cU.cons (f:=fun(x:dV) y=>{x with dV:=y}) h Dj (g.sat 0 _ rfl).1 fun _ h=>cU.nil h) fun cj o=>?_
    have o:=(o.pl 21 [0,4,5,6,7,8,9,10,11,12,13,14,15,16,17,18,19,20]).cQ 0 true rfl bD
    exact RL.nil ⟨rfl,(cj,ak,ag),hv.put 17 zr zr,ha.up zr,zt,o⟩
   ·rintro D U w hD ai ab ⟨⟨al,ak,ag⟩,hv,ha,_,o⟩
    obtain⟨O,rfl⟩:=(ac (hv.at 17 rfl (ai.1 rfl)) az).fI
    have o:=((o.cP 0 (ai.1 rfl)).cD 1 (nf (fun h=>ft hD ((ab 19 _ rfl h).2.1 rfl)))).cD 1 hD
    refine RL.dY ([(⟨ar.Part,ar.dV⟩:dV)]: (List dV)) o [al] Jh JV (fun M hs g=>⟨(g.sat 0 _ zr).1,zt⟩) fun b3 w o=>?_
    have o:=(((o.pl 19 [1,0,3,4,5,6,7,8,9,10,11,12,13,14,15,16,17,18]).cQ 0 (D 17) (ai.1 rfl) bD).cQ 1 true rfl bD).eX 1 (D 19) (nf (fun h=>ft hD ((ab 19 _ rfl h).2.1 rfl))) (rd b3 ([(⟨ar.Part,ar.dV⟩:dV)]: (List dV)))
    exact RL.nil ⟨rfl,(al,b3,ag),hv.put 18 zr zr,ha.up zr,zt,o⟩
   ·rintro D U w hD ai ab ⟨⟨al,ak,ag⟩,hv,ha,_,o⟩
    obtain⟨O,rfl⟩:=(ac (hv.at 12 rfl (ai.1 rfl)) (ac (hv.at 18 rfl (ai.2.1 rfl)) az)).fI
    have o:=((((o.cD 1 hD).cP 1 (ai.2.1 rfl)).cD 2 (nf (fun h=>ft hD ((ab 22 _ rfl h).2.1 rfl)))).cD 2 hD).cD 4 (nf (fun h=>ft hD ((ab 22 _ rfl h).2.1 rfl)))
    have o:=(((o.cD 5 (nf (fun h=>ft hD ((ab 22 _ rfl h).2.1 rfl)))).cD 5 hD).zM (j:=5) (jj:=aa) n8 (default:aT) rfl a7).freeze 2
    refine RL.app 0 2 o Ji ch fun bq w o=>?_
    have o:=(((o.pl 19 [1,2,0,4,5,6,7,8,9,10,11,12,13,14,15,16,17,18]).cQ 1 true rfl (bif D 18 then (own 29 ak ([(⟨ar.Part,ar.dV⟩:dV)]: (List dV))) else bD)).cQ 2 true rfl bD).eX 2 (D 22) (nf (fun h=>ft hD ((ab 22 _ rfl h).2.1 rfl))) bD
    have o:=(o.eX 4 (D 22) (nf (fun h=>ft hD ((ab 22 _ rfl h).2.1 rfl))) (own 104 ao (us352.set (Int.toNat aa) {(us352.getD (Int.toNat aa) (default:aT)) with gl:=rv bq}))).cQ 5 true rfl (ir aV us352 aj.1 none)
    have o:=o.eX 5 (D 22) (nf (fun h=>ft hD ((ab 22 _ rfl h).2.1 rfl))) (ir aV (us352.set (Int.toNat aa) {(us352.getD (Int.toNat aa) (default:aT)) with gl:=rv bq}) (aj.1.set (Int.toNat aa) {a2 with gl:=a1}) none)
    exact RL.nil ⟨rfl,(al,ak,bq),hv.put 19 zr zr,ha.up zr,zt,o⟩
   ·rintro D U w hD ai ab ⟨⟨al,ak,ag⟩,hv,ha,_,o⟩
    obtain⟨O,rfl⟩:=(ac (hv.at 3 rfl (ai.1 rfl)) (ac (hv.at 4 rfl (ai.2.1 rfl)) az)).fI
    have o:=o.cD 4 (nf (fun h=>ft hD ((ab 21 _ rfl ((ab 22 _ rfl h).1 rfl)).1 rfl)))
    have o:=o.cD 5 (nf (fun h=>ft hD ((ab 21 _ rfl ((ab 22 _ rfl h).1 rfl)).1 rfl)))
    have o:=o.cP 5 (ai.2.2.2.2.2.2.2.2.2.2.2.2.2.2.2.2.2.2.2.2.2.1 rfl)
    have hl421:=o.eE 5
    have hr422:=fO (default:aT) hl421 bk
    refine RL.bV 4 o zr zr yj hr422 ?_
    have o:=o.eX 4 (D 22) (nf (fun h=>ft hD ((ab 21 _ rfl ((ab 22 _ rfl h).1 rfl)).1 rfl))) (own 104 ao (us352.set (Int.toNat aa) {(us352.getD (Int.toNat aa) (default:aT)) with gl:=rv ag}))
    have o:=(o.cQ 5 (D 19) (ai.2.2.2.2.2.2.2.2.2.2.2.2.2.2.2.2.2.2.2.2.2.1 rfl) (ir aV us352 aj.1 none)).eX 5 (D 22) (nf (fun h=>ft hD ((ab 21 _ rfl ((ab 22 _ rfl h).1 rfl)).1 rfl))) (ir aV (us352.set (Int.toNat aa) {(us352.getD (Int.toNat aa) (default:aT)) with gl:=rv ag}) (aj.1.set (Int.toNat aa) {a2 with gl:=a1}) none)
    exact RL.nil ⟨rfl,(al,ak,ag),hv.put 20 zr zr,ha.up zr,zt,o⟩
   ·rintro D U w hD ai ab ⟨⟨al,ak,ag⟩,hv,ha,_,o⟩
    obtain⟨O,rfl⟩:=(ac (hv.at 20 rfl (ai.1 rfl)) az).fI
    have o:=((o.cD 4 (nf (fun h=>ft hD ((ab 22 _ rfl h).1 rfl)))).cD 5 (nf (fun h=>ft hD ((ab 22 _ rfl h).1 rfl)))).cP 5 (ai.2.2.2.2.2.2.2.2.2.2.2.2.2.2.2.2.2.2.2.2.1 rfl)
    have hl423:=o.eE 5
    have hr424:=fO (default:aT) hl423 bk
    refine RL.k7 (α:=aT) zt (jF 4 o hr424 0) zy ?_
    have o:=(o.eX 4 (D 22) (nf (fun h=>ft hD ((ab 22 _ rfl h).1 rfl))) (own 104 ao (us352.set (Int.toNat aa) {(us352.getD (Int.toNat aa) (default:aT)) with gl:=rv ag}))).cQ 5 (D 19) (ai.2.2.2.2.2.2.2.2.2.2.2.2.2.2.2.2.2.2.2.2.1 rfl) (ir aV us352 aj.1 none)
    have o:=o.eX 5 (D 22) (nf (fun h=>ft hD ((ab 22 _ rfl h).1 rfl))) (ir aV (us352.set (Int.toNat aa) {(us352.getD (Int.toNat aa) (default:aT)) with gl:=rv ag}) (aj.1.set (Int.toNat aa) {a2 with gl:=a1}) none)
    exact RL.nil ⟨rfl,(al,ak,ag),hv.put 21 zr zr,ha.up zr,zt,o⟩
   ·rintro D U w hD ai ab ⟨⟨al,ak,ag⟩,hv,ha,_,o⟩
    obtain⟨O,rfl⟩:=(ac (hv.at 19 rfl (ai.2.1 rfl)) (ac (hv.at 21 rfl (ai.1 rfl)) az)).fI
    have o:=((((o.cD 2 hD).cP 2 (ai.2.1 rfl)).cD 4 hD).cD 5 hD).cP 5 (ai.2.1 rfl)
    have hl425:=o.eE 5
    have hr426:=fO (default:aT) hl425 bk
    refine RL.te 4 5 2 aa n8 (default:aT) o zr zr (jF 4 o hr426 2) zr zr zr bk Fu fun w o=>?_
    have o:=((o.cQ 2 true rfl (bif D 19 then (own 29 ag a1) else bD)).cQ 4 true rfl (own 104 ao us352)).cQ 5 true rfl (bif D 19 then (ir aV us352 aj.1 (some (Int.toNat aa))) else (ir aV us352 aj.1 none))
    exact RL.nil ⟨rfl,(al,ak,ag),hv.no zr,ha,zt,o⟩
   rintro D U w a8 ⟨⟨al,ak,ag⟩,hv,ha,_,o⟩
   have o:=o.cP 0 (a8 17 (by decide))
   have o:=o.cP 1 (a8 19 (by decide))
   have o:=o.cP 2 (a8 22 (by decide))
   have o:=o.cP 4 (a8 22 (by decide))
   have o:=o.cP 5 (a8 22 (by decide))
   obtain⟨O,rfl⟩:=(ac (ha.at 0 rfl) (ac (ha.at 1 rfl) (ac (ha.at 2 rfl) (ac (ha.at 3 rfl) az)))).fI
   obtain rfl:=oi hj
   exact⟨rfl,(us352.set (Int.toNat aa) {(us352.getD (Int.toNat aa) (default:aT)) with gl:=rv ag}),o.sp 18 [3,11,12,13,14,4,5,17]⟩
  rintro _ w ⟨us393,O,rfl,o⟩
  refine bQ (aH (RC.region (mv (vi aj.2) (RL.fY aj.2 1 (aQ (vi (IntKind.wrap .i64 (aj.2+1))) (RL.nil ?_))))))
  obtain rfl:=oi hb
  exact⟨rfl,us393,o.sp 8 [0,1,2,3,4,5,6,7]⟩
 ·intro r _ _ _ _
  exact r.elim
 rintro aj _ w rfl ⟨us351,O,rfl,o⟩
 rw [Fo.dB] at hb
 obtain rfl:=oi hb
 have o:=o.zx (X:=aV) (b:=6) (j:=5) rfl (fun M h u x cs=>xk M h u x cs) rfl rfl (by decide)
 refine CK ?_
 exact Ih zr ⟨ao,zr,o.pk 8 [0,5]⟩
def sG (E:World) (V:List HP) (res: ((List (List aI))×(List aI)×(List bZ)×(List eM)×(List Int)×(List (List aI))×(List cF)×(List (List Int)))) (v:Value) (w:World):Prop:=∃(ub0:Nat) (u0_0 u0_1:Value) (u0_2 u0_3:Value) (u0_4 u0_5:Value) (u0_6 u0_7:Value),v=vp ub0 0/\Holds E w ([bc 74 ub0 [u0_0,u0_1,u0_2,u0_3,u0_4,u0_5,u0_6,u0_7],rd u0_0 res.1,rd u0_1 res.2.1,rd u0_2 res.2.2.1,rd u0_3 res.2.2.2.1,rd u0_4 res.2.2.2.2.1,rd u0_5 res.2.2.2.2.2.1,own 104 u0_6 res.2.2.2.2.2.2.1,rd u0_7 res.2.2.2.2.2.2.2]++V)
theorem rT {p0:kT} {res: ((List (List aI))×(List aI)×(List bZ)×(List eM)×(List Int)×(List (List aI))×(List cF)×(List (List Int)))} (j:Holds E w V) (h0:V[i0]? =some (rd v0 p0)) (hb:i7 N p0=some res):
    Calls bN 11 [v0].toArray w (gL (sG E V res)):=by
 unfold i7 at hb
 refine enter Tryz.func11 zr zr ?_
 have j:=j.dup (i0+0) h0
 refine RC.sr (RL.cS 0 v0 j zr fun a2 w j=>?_)
 refine aQ (.pointer none) (RL.ns (RL.bB (f:=(fun x=>x)) 0 j zr Fd.self vz fun cp j=>?_))
 obtain⟨cs,hcs,hv37,j⟩:=j.Fh (i:=0) rfl rfl
 obtain⟨ar,au,av,aw,rfl⟩:=Kt hcs
 have j:=(((j.nY (i:=0) (k:=0) (f:=fun x=>x.aJ) rfl i9 rfl rfl rfl).nY (i:=1) (k:=1) (f:=fun x=>x.cG) rfl r8 rfl rfl rfl).nY (i:=2) (k:=2) (f:=fun x=>x.aO) rfl gK rfl rfl rfl).nY (i:=3) (k:=3) (f:=fun x=>x.bM) rfl kK rfl rfl rfl
 refine RL.G8 (zs:=[(.slice none 0 0),(.slice none 0 0),(.slice none 0 0),(.slice none 0 0),(.slice none 0 0),(.slice none 0 0),(.slice none 0 0),(.slice none 0 0)]) (cs:=[ar,au,av,aw,(.slice none 0 0),(.slice none 0 0),(.slice none 0 0),(.slice none 0 0)]) zt zr [(0,cp)] [(0,[ar,au,av,aw])] zr M3 ⟨rfl,(congrArg Value.cells hv37),zt⟩ zr (RL.B9 [ar,au,av,aw,(.slice none 0 0),(.slice none 0 0),(.slice none 0 0),(.slice none 0 0)] zr j zr (wY.all (⟨(nH 3 j),(nH 2 j),(nH 1 j),(nH 0 j),zr,zr,zr,zr,zt⟩:wY [ar,au,av,aw,(.slice none 0 0),(.slice none 0 0),(.slice none 0 0),(.slice none 0 0)])) fun ae w j=>?_)
 refine aQ (vp ae 0) (RL.nq (RC.sr (aQ (vi 0) (RL.nt ?_))))
 obtain⟨dk,hN,hb⟩:=bd hb
 refine RC.iter (fun(ai: (List Int)×(List (List aI))×Int) U w=>∃b5 b6:Value,SH E V [(1,vp a2 0),(3,vp ae 0),(4,vi ai.2.2)] [bx 27 a2 p0,bc 74 ae [ar,au,av,aw,b5,b6,(.slice none 0 0),(.slice none 0 0)],own 3 b5 ai.1,own 23 b6 ai.2.1,rd ar p0.aJ,rd au p0.cG,rd av p0.aO,rd aw p0.bM] U w) (fun(ai: (List Int)×(List (List aI))×Int) U w=>∃a3 a4:Value,SH E V [(1,vp a2 0),(3,vp ae 0)] [bx 27 a2 p0,bc 74 ae [ar,au,av,aw,a3,a4,(.slice none 0 0),(.slice none 0 0)],own 3 a3 ai.1,own 23 a4 ai.2.1,rd ar p0.aJ,rd au p0.cG,rd av p0.aO,rd aw p0.bM] U w) (fun(r:Empty) _ _=>r.elim) hN ?_ ?_ ?_ ?_
 ·have j:=(j.cW Int 3).cW (List aI) 23
  exact⟨(.slice none 0 0),(.slice none 0 0),j.sp 11 [9,2,1,0,6,5,4,3]⟩
 ·rintro ai fl _ w ⟨b7,b8,O,rfl,j⟩ hb
  refine RC.seq (RC.sr (mv (vi ai.2.2) (RL.aY zr mC (RL.bB 0 j zr i9 pJ fun dm j=>(RL.bF 0 p0.aJ j qC (ic ai.2.2 ((p0.aJ.length:Int)) (RL.nt (dQ hb (fun hc hb=>?_) fun hc hb=>?_))))))))
  rotate_left
  ·refine RC.ex ?_
   obtain rfl:=oi hb
   exact⟨rfl,b7,b8,j.sp 9 [1,2,3,4,5,6,7,8]⟩
  refine RC.ss (RC.bs (RL.bB (f:=(fun x=>x)) 1 j zr Fd.self vz fun cq j=>(mv (vi ai.2.2) ?_)))
  obtain⟨dn,cr,hb⟩:=bd hb
  refine RL.call zt zr Lr [cq,(vi ai.2.2)] zr (aD (mH N (p1:=ai.2.2) (i0:=0) j zr cr) ?_)
  rintro ct w j
  have j:=j.freeze 0
  obtain⟨bm,cu,hb⟩:=bd hb
  refine RL.call zt zr Ls [ct] zr (aD (ni N (i0:=0) j zr cu) ?_)
  rintro bg w j
  refine aQ bg (RL.ns (aQ (vi 0) (RL.nt ?_)))
  obtain⟨dp,hN,hb⟩:=bd hb
  refine RC.iter (fun(a8: (List Int)×(List (List aI))×Int) U w=>∃b9 ca:Value,SH E V [(1,vp a2 0),(3,vp ae 0),(4,vi ai.2.2),(5,bg),(6,vi a8.2.2)] [bx 27 a2 p0,bc 74 ae [ar,au,av,aw,b9,ca,(.slice none 0 0),(.slice none 0 0)],own 3 b9 a8.1,own 23 ca a8.2.1,rd ar p0.aJ,rd au p0.cG,rd av p0.aO,rd aw p0.bM,own 23 bg bm] U w) (fun(a8: (List Int)×(List (List aI))×Int) U w=>∃bn bo:Value,SH E V [(1,vp a2 0),(3,vp ae 0),(4,vi ai.2.2)] [bx 27 a2 p0,bc 74 ae [ar,au,av,aw,bn,bo,(.slice none 0 0),(.slice none 0 0)],own 3 bn a8.1,own 23 bo a8.2.1,rd ar p0.aJ,rd au p0.cG,rd av p0.aO,rd aw p0.bM,own 23 bg bm] U w) (fun(r:Empty) _ _=>r.elim) hN ?_ ?_ ?_ ?_
  ·exact⟨b7,b8,j.sp 12 [4,5,6,7,8,9,10,11,0]⟩
  ·rintro a8 fl _ w ⟨cb,bp,O,rfl,j⟩ hb
   refine RC.seq (RC.sr (mv (vi a8.2.2) (mv bg (RL.fZ 8 bm j qC (ic a8.2.2 ((bm.length:Int)) (RL.nt (dQ hb (fun hc hb=>?_) fun hc hb=>?_)))))))
   rotate_left
   ·refine RC.ex ?_
    obtain rfl:=oi hb
    exact⟨rfl,cb,bp,j.sp 9 [0,1,2,3,4,5,6,7,8]⟩
   refine RC.ss (RC.bs (mv (vp ae 0) (mv (vp ae 0) (RL.nilCheck zr (RL.aY zr z6 (RL.bK 1 cb j fu (mv (vi ai.2.2) ?_)))))))
   have j:=j.sc Int ai.2.2
   refine RL.dY ([ai.2.2]: (List Int)) j [(vi ai.2.2)] eC CI (fun M hs g=>⟨(g.sat 0 _ zr).1,zt⟩) fun dq w j=>?_
   have j:=j.freeze 0
   obtain⟨dr,cv,hb⟩:=bd hb
   refine RL.app 4 0 j q7 cv fun bw w j=>?_
   refine RL.nilCheck zr (RL.aY zr z6 (RL.iu 3 bw j zr zr (iO 4 j) fu fun w j=>?_))
   refine RL.nt ?_
   have j:=j.drew
   refine RC.EB (fun w=>Holds E w ([bc 74 ae [ar,au,av,aw,bw,bp,(.slice none 0 0),(.slice none 0 0)]]++V)) mixed zr [1,1,1,1,1,0,0,0,0,2,2,0,0,2] [0,1,2,3,4,5,6,7,8,9,10,11,12,13] (j.pk 11 [3]) (DP.e1 (vp ae 0) zr (fun w=>RL.move (vp ae 0) zt DP.d1) (DP.e1 (vp ae 0) zr (fun w=>RL.move (vp ae 0) zt DP.d1) (DP.e1 (vp ae 0) zr (fun w=>RL.nilCheck zr DP.d1) (DP.e1 (vp ae 5) zr (fun w=>RL.aY zr uB DP.d1) (DP.Iy bp zr (fun w j=>RL.bK 0 bp j pJ DP.d1) (DP.e0 zr (mv bg (aW zr ?_))))))))
   refine mv (vi a8.2.2) (aW zr ?_)
   obtain⟨cw,bz,hb⟩:=bd hb
   refine RL.bV 10 j zr zr uy bz (aW zr (RL.kF (f:=(fun x=>x)) 10 j (jF 10 j bz 0) (bH bz).2.1 Fd.self tW fun cx j=>?_))
   refine ou zr (RL.dY ([cw]: (List (List aI))) j [cx] uy JZ (fun M hs g=>⟨(g.sat 0 _ zr).1,zt⟩) fun ds w j=>(DP.d2 (j.pk 13 [5]) (DP.e2 zr ?_)))
   have j:=j.freeze 0
   obtain⟨dt,cy,hb⟩:=bd hb
   refine RL.app 7 0 j Hk cy fun cc w j=>?_
   refine DP.d2 (j.pk 13 [5]) (DP.e0 zr (RL.nilCheck zr (aW zr (RL.aY zr uB (DP.d0 (DP.LP zr zr (RL.iu 5 cc j zr zr (iO 7 j) pJ fun w j=>?_)))))))
   refine DP.d2 zt (DP.z (bQ (aH (RC.region (mv (vi a8.2.2) (RL.fY a8.2.2 1 (aQ (vi (IntKind.wrap .i64 (a8.2.2+1))) (RL.nil ?_))))))))
   obtain rfl:=oi hb
   exact⟨rfl,bw,cc,j.sp 13 [4,5,6,7,8,9,10,11,12]⟩
  ·intro r _ _ _ _
   exact r.elim
  rintro a8 _ w rfl ⟨bn,bo,O,rfl,j⟩
  rw [Fo.dB] at hb
  refine bQ (aH (RC.region (mv (vi ai.2.2) (RL.fY ai.2.2 1 (aQ (vi (IntKind.wrap .i64 (ai.2.2+1))) (RL.nil ?_))))))
  obtain rfl:=oi hb
  exact⟨rfl,bn,bo,j.sp 9 [0,1,2,3,4,5,6,7]⟩
 ·intro r _ _ _ _
  exact r.elim
 rintro ai _ w rfl ⟨a3,a4,O,rfl,j⟩
 rw [Fo.dB] at hb
 refine aH (RC.seq (RC.sr (aQ (vi 0) (RL.nt ?_))))
 obtain⟨du,hN,hb⟩:=bd hb
 refine RC.iter (fun(a1: (List (List Int))×Int) U w=>∃cd:Value,SH E V [(1,vp a2 0),(3,vp ae 0),(7,vi a1.2)] [bx 27 a2 p0,bc 74 ae [ar,au,av,aw,a3,a4,(.slice none 0 0),cd],own 43 cd a1.1,rd ar p0.aJ,rd au p0.cG,rd av p0.aO,rd aw p0.bM,own 3 a3 ai.1,own 23 a4 ai.2.1] U w) (fun(a1: (List (List Int))×Int) U w=>∃bq:Value,SH E V [(3,vp ae 0)] [bx 27 a2 p0,bc 74 ae [ar,au,av,aw,a3,a4,(.slice none 0 0),bq],own 43 bq a1.1,rd ar p0.aJ,rd au p0.cG,rd av p0.aO,rd aw p0.bM,own 3 a3 ai.1,own 23 a4 ai.2.1] U w) (fun(r:Empty) _ _=>r.elim) hN ?_ ?_ ?_ ?_
 ·have j:=j.cW (List Int) 43
  exact⟨(.slice none 0 0),j.sp 9 [1,2,0,5,6,7,8,3,4]⟩
 ·rintro a1 fl _ w ⟨a6,O,rfl,j⟩ hb
  refine RC.seq (RC.sr (mv (vi a1.2) (RL.aY zr ik (RL.bB 0 j zr gK nQ fun dv j=>(RL.bF 0 p0.aO j wj (ic a1.2 ((p0.aO.length:Int)) (RL.nt (dQ hb (fun hc hb=>?_) fun hc hb=>?_))))))))
  rotate_left
  ·refine RC.ex ?_
   obtain rfl:=oi hb
   exact⟨rfl,a6,j.sp 10 [1,2,3,4,5,6,7,8,9]⟩
  refine RC.ss (RC.bs (aQ (.slice none 0 0) (RL.nq (RC.sr (aQ (vi 0) (RL.nt ?_))))))
  obtain⟨dw,hN,hb⟩:=bd hb
  refine RC.iter (fun(ax: (List Int)×Int) U w=>∃cf:Value,SH E V [(1,vp a2 0),(3,vp ae 0),(7,vi a1.2),(8,cf),(9,vi ax.2)] [bx 27 a2 p0,bc 74 ae [ar,au,av,aw,a3,a4,(.slice none 0 0),a6],rd ar p0.aJ,rd au p0.cG,rd av p0.aO,rd aw p0.bM,own 3 a3 ai.1,own 23 a4 ai.2.1,own 43 a6 a1.1,own 3 cf ax.1] U w) (fun(ax: (List Int)×Int) U w=>∃bl:Value,SH E V [(1,vp a2 0),(3,vp ae 0),(7,vi a1.2),(8,bl)] [bx 27 a2 p0,bc 74 ae [ar,au,av,aw,a3,a4,(.slice none 0 0),a6],rd ar p0.aJ,rd au p0.cG,rd av p0.aO,rd aw p0.bM,own 3 a3 ai.1,own 23 a4 ai.2.1,own 43 a6 a1.1,own 3 bl ax.1] U w) (fun(r:Empty) _ _=>r.elim) hN ?_ ?_ ?_ ?_
  ·have j:=j.cW Int 3
   exact⟨(.slice none 0 0),j.sp 11 [2,3,5,6,7,8,9,10,4,0]⟩
  ·rintro ax fl _ w ⟨ba,O,rfl,j⟩ hb
   refine RC.seq (RC.seq ?_)
   obtain⟨b0,hj,hb⟩:=bd hb
   refine RC.jn (fun(b0:Bool)=>SH E V [(1,vp a2 0),(3,vp ae 0),(7,vi a1.2),(8,ba),(9,vi ax.2),(74,vb b0)] [bx 27 a2 p0,bc 74 ae [ar,au,av,aw,a3,a4,(.slice none 0 0),a6],rd ar p0.aJ,rd au p0.cG,rd av p0.aO,rd aw p0.bM,own 3 a3 ai.1,own 23 a4 ai.2.1,own 43 a6 a1.1,own 3 ba ax.1]) b0 ?_ ?_
   ·refine RC.region (mv (vi ax.2) (mv (vp ae 0) (RL.nilCheck zr (RL.aY zr uB (RL.bK 1 a4 j pJ (RL.fZ 7 ai.2.1 j qC (ic ax.2 ((ai.2.1.length:Int)) (mv (vb (decide (ax.2< (ai.2.1.length:Int)))) ?_))))))))
    refine eZ hj (fun a7 hj=>?_) fun a7 hj=>?_
    rotate_left
    ·refine bC a7 (bC a7 (bC a7 (bC a7 (bC a7 (bC a7 (fq a7 (vb false) (RL.nil ?_)))))))
     obtain rfl:=oi hj
     exact⟨rfl,j.sp 10 [0,1,2,3,4,5,6,7,8,9]⟩
    refine RL.aY (hg:=(cg a7)) zr ik (RL.bB (hg:=(cg a7)) 0 j zr gK nQ fun dx j=>(RL.move (vi a1.2) (cg a7) ?_))
    obtain⟨ch,cz,hj⟩:=bd hj
    refine RL.bP (hg:=(cg a7)) 0 j qD cz fun dy j=>(RL.dP (hg:=(cg a7)) 0 j zr yh qo fun dz j=>(RL.bE (hg:=(cg a7)) ch.fS 0 j zZ (fq a7 (vb ch.fS) (RL.nil ?_))))
    obtain rfl:=oi hj
    exact⟨rfl,j.sp 13 [3,4,5,6,7,8,9,10,11,12]⟩
   rintro _ w ⟨O,rfl,j⟩
   refine aH (dQ hb (fun hc hb=>?_) fun hc hb=>?_)
   rotate_left
   ·refine RC.ex ?_
    obtain rfl:=oi hb
    exact⟨rfl,ba,j.sp 10 [0,1,2,3,4,5,6,7,8,9]⟩
   refine RC.ss (RC.block (RC.seq ?_))
   obtain⟨b1,hj,hb⟩:=bd hb
   refine RC.jn (fun(b1:Bool)=>SH E V [(1,vp a2 0),(3,vp ae 0),(7,vi a1.2),(8,ba),(9,vi ax.2),(105,vb b1)] [bx 27 a2 p0,bc 74 ae [ar,au,av,aw,a3,a4,(.slice none 0 0),a6],rd ar p0.aJ,rd au p0.cG,rd av p0.aO,rd aw p0.bM,own 3 a3 ai.1,own 23 a4 ai.2.1,own 43 a6 a1.1,own 3 ba ax.1]) b1 ?_ ?_
   ·obtain⟨bh,cj,hj⟩:=bd hj
    obtain⟨bj,bk,hj⟩:=bd hj
    obtain⟨br,ck,hj⟩:=bd hj
    refine eZ hj (fun a0 hj=>?_) fun a0 hj=>?_
    rotate_left
    ·refine RC.F2 E V mixed [1,0,1,0,0,1,1,1,0,1,0,0,0,1,1,1,1,1,1,1,1,1,1,1,1,1,1,1,1] [1,3,4] (fun(x:Value×Value×Value)=>(fun ag ah af=>[(0,77,(vp a2 2)),(1,78,ag),(2,79,(vi a1.2)),(3,80,ah),(4,81,af),(5,82,(vp ae 0)),(6,83,(vp ae 0)),(7,84,(vp ae 4)),(8,85,a3),(9,86,(vi ax.2)),(10,87,(zg a3 (Int.toNat ax.2) 1 0)),(11,88,(vi bj)),(12,89,(vb br)),(13,90,(vb br)),(14,91,undef),(15,92,undef),(16,93,undef),(17,94,undef),(18,95,undef),(19,96,undef),(20,97,undef),(21,98,undef),(22,99,undef),(23,100,undef),(24,101,undef),(25,102,undef),(26,103,undef),(27,104,undef),(28,105,(vb false))]) x.1 x.2.1 x.2.2) [(1,vp a2 0),(3,vp ae 0),(7,vi a1.2),(8,ba),(9,vi ax.2)] [] (fun(D:Nat->Bool) (x:Value×Value×Value)=>(fun ag ah af=>[bif D 0 then (rd ag p0.aO) else bD,bif D 1 then (pt ah bh) else bD,bif D 2 then (rd af bh) else bD,bx 27 a2 p0,bc 74 ae [ar,au,av,aw,a3,a4,(.slice none 0 0),a6],rd ar p0.aJ,rd au p0.cG,rd av p0.aO,rd aw p0.bM,own 3 a3 ai.1,own 23 a4 ai.2.1,own 43 a6 a1.1,own 3 ba ax.1]) x.1 x.2.1 x.2.2) (fun x=>by kernel_rfl) ?_ ⟨fun _=>nN gn ik,?_,fun _=>jG gn,?_,?_,fun _=>jG gn,fun _=>w5 gn,fun _=>nN gn z6,?_,fun _=>jG gn,?_,?_,?_,fun _=>jG gn,fun _=>r6 a0,fun _=>r6 a0,fun _=>r6 a0,fun _=>r6 a0,fun _=>r6 a0,fun _=>r6 a0,fun _=>r6 a0,fun _=>r6 a0,fun _=>r6 a0,fun _=>r6 a0,fun _=>r6 a0,fun _=>r6 a0,fun _=>r6 a0,fun _=>r6 a0,fun _=>KC gn a0 rfl,trivial⟩ ?_
     ·have j:=(((j.drew).bD).bD).bD
      exact⟨(undef,undef,undef),gH.none,(EC zr),zt,j⟩
     ·rintro D U w hD aa a5 ⟨⟨ag,ah,af⟩,o,ha,_,j⟩
      obtain⟨O,rfl⟩:=(ac (o.at 0 rfl (aa.1 rfl)) az).fI
      have j:=j.cD 0 hD
      refine RL.bB 3 j zr gK nQ fun c0 j=>?_
      have j:=(j.pl 14 [0,2,3,4,5,6,7,8,9,10,11,12,13]).cQ 0 true rfl bD
      exact RL.nil ⟨rfl,(c0,ah,af),o.put 1 zr zr,ha.up zr,zt,j⟩
     ·rintro D U w hD aa a5 ⟨⟨ag,ah,af⟩,o,ha,_,j⟩
      obtain⟨O,rfl⟩:=(ac (o.at 1 rfl (aa.1 rfl)) (ac (o.at 2 rfl (aa.2.1 rfl)) az)).fI
      have j:=(j.cP 0 (aa.1 rfl)).cD 1 hD
      refine RL.bP 0 j qD cj fun c1 j=>?_
      have j:=((j.pl 14 [1,0,3,4,5,6,7,8,9,10,11,12,13]).cQ 0 (D 1) (aa.1 rfl) bD).cQ 1 true rfl bD
      exact RL.nil ⟨rfl,(ag,c1,af),o.put 3 zr zr,ha.up zr,zt,j⟩
     ·rintro D U w hD aa a5 ⟨⟨ag,ah,af⟩,o,ha,_,j⟩
      obtain⟨O,rfl⟩:=(ac (o.at 3 rfl (aa.1 rfl)) az).fI
      have j:=(j.cP 1 (aa.1 rfl)).cD 2 hD
      refine RL.bJ 1 bh j ma fun c2 j=>?_
      have j:=((j.pl 14 [1,2,0,4,5,6,7,8,9,10,11,12,13]).cQ 1 (D 3) (aa.1 rfl) bD).cQ 2 true rfl bD
      exact RL.nil ⟨rfl,(ag,ah,c2),o.put 4 zr zr,ha.up zr,zt,j⟩
     ·rintro D U w hD aa a5 ⟨⟨ag,ah,af⟩,o,ha,_,j⟩
      obtain⟨O,rfl⟩:=(ac (o.at 7 rfl (aa.1 rfl)) az).fI
      refine RL.bK 4 a3 j fu ?_
      exact RL.nil ⟨rfl,(ag,ah,af),o.put 8 zr zr,ha.up zr,zt,j⟩
     ·rintro D U w hD aa a5 ⟨⟨ag,ah,af⟩,o,ha,_,j⟩
      obtain⟨O,rfl⟩:=(ac (o.at 8 rfl (aa.1 rfl)) (ac (o.at 9 rfl (aa.2.1 rfl)) az)).fI
      refine RL.bV 9 j zr zr eC bk ?_
      exact RL.nil ⟨rfl,(ag,ah,af),o.put 10 zr zr,ha.up zr,zt,j⟩
     ·rintro D U w hD aa a5 ⟨⟨ag,ah,af⟩,o,ha,_,j⟩
      obtain⟨O,rfl⟩:=(ac (o.at 10 rfl (aa.1 rfl)) az).fI
      refine RL.dH (f:=(fun x=>x)) 9 j (jF 9 j bk 0) (bH bk).2.1 Fd.self cI ?_
      exact RL.nil ⟨rfl,(ag,ah,af),o.put 11 zr zr,ha.up zr,zt,j⟩
     ·rintro D U w hD aa a5 ⟨⟨ag,ah,af⟩,o,ha,_,j⟩
      obtain⟨O,rfl⟩:=(ac (o.at 4 rfl (aa.1 rfl)) (ac (o.at 11 rfl (aa.2.1 rfl)) az)).fI
      have j:=j.cP 2 (aa.1 rfl)
      refine RL.call zt zr IG [af,(vi bj)] zr (aD (jt N (p1:=bj) (i0:=2) j zr ck) ?_)
      rintro _ w ⟨rfl,j⟩
      have j:=j.cQ 2 (D 4) (aa.1 rfl) bD
      exact RL.nil ⟨rfl,(ag,ah,af),o.put 12 zr zr,ha.up zr,zt,j⟩
     rintro D U w a9 ⟨⟨ag,ah,af⟩,o,ha,_,j⟩
     have j:=j.cP 0 (a9 1 (by decide))
     have j:=j.cP 1 (a9 3 (by decide))
     have j:=j.cP 2 (a9 4 (by decide))
     obtain⟨O,rfl⟩:=(ac (o.at 28 rfl (a9 28 (by decide))) (ac (ha.at 0 rfl) (ac (ha.at 1 rfl) (ac (ha.at 2 rfl) (ac (ha.at 3 rfl) (ac (ha.at 4 rfl) az)))))).fI
     obtain rfl:=oi hj
     exact⟨rfl,j.sp 13 [3,4,5,6,7,8,9,10,11,12]⟩
    obtain⟨c3,b2,hj⟩:=bd hj
    obtain⟨b3,c4,hj⟩:=bd hj
    obtain⟨c5,c6,hj⟩:=bd hj
    obtain⟨cl,c7,hj⟩:=bd hj
    refine RC.F2 E V mixed [1,0,1,0,0,1,1,1,0,1,0,0,0,1,1,1,1,0,1,0,0,1,0,1,0,0,0,0,1] [1,3,4,20,22,24,25,26] (fun(x:Value×Value×Value×Value×Value×Value×Value×Value)=>(fun ag ah af ak ao aq al an=>[(0,77,(vp a2 2)),(1,78,ag),(2,79,(vi a1.2)),(3,80,ah),(4,81,af),(5,82,(vp ae 0)),(6,83,(vp ae 0)),(7,84,(vp ae 4)),(8,85,a3),(9,86,(vi ax.2)),(10,87,(zg a3 (Int.toNat ax.2) 1 0)),(11,88,(vi bj)),(12,89,(vb br)),(13,90,(vb br)),(14,91,(vp ae 0)),(15,92,(vp ae 0)),(16,93,(vp ae 5)),(17,94,a4),(18,95,(vi ax.2)),(19,96,(zg a4 (Int.toNat ax.2) 1 0)),(20,97,ak),(21,98,(vp a2 2)),(22,99,ao),(23,100,(vi a1.2)),(24,101,aq),(25,102,al),(26,103,an),(27,104,(vb cl)),(28,105,(vb cl))]) x.1 x.2.1 x.2.2.1 x.2.2.2.1 x.2.2.2.2.1 x.2.2.2.2.2.1 x.2.2.2.2.2.2.1 x.2.2.2.2.2.2.2) [(1,vp a2 0),(3,vp ae 0),(7,vi a1.2),(8,ba),(9,vi ax.2)] [] (fun(D:Nat->Bool) (x:Value×Value×Value×Value×Value×Value×Value×Value)=>(fun ag ah af ak ao aq al an=>[bif D 0 then (rd ag p0.aO) else bD,bif D 1 then (pt ah bh) else bD,bif D 2 then (rd af bh) else bD,bif D 3 then (rd ak c3) else bD,bif D 4 then (rd ao p0.aO) else bD,bif D 5 then (pt aq b3) else bD,bif D 6 then (rd al b3) else bD,bif D 7 then (rd an c5) else bD,bx 27 a2 p0,bc 74 ae [ar,au,av,aw,a3,a4,(.slice none 0 0),a6],rd ar p0.aJ,rd au p0.cG,rd av p0.aO,rd aw p0.bM,own 3 a3 ai.1,own 23 a4 ai.2.1,own 43 a6 a1.1,own 3 ba ax.1]) x.1 x.2.1 x.2.2.1 x.2.2.2.1 x.2.2.2.2.1 x.2.2.2.2.2.1 x.2.2.2.2.2.2.1 x.2.2.2.2.2.2.2) (fun x=>by kernel_rfl) ?_ ⟨fun _=>nN gn ik,?_,fun _=>jG gn,?_,?_,fun _=>jG gn,fun _=>w5 gn,fun _=>nN gn z6,?_,fun _=>jG gn,?_,?_,?_,fun _=>jG gn,fun _=>jG (gy a0),fun _=>w5 (gy a0),fun _=>nN (gy a0) uB,?_,fun _=>jG (gy a0),?_,?_,fun _=>nN (gy a0) ik,?_,fun _=>jG (gy a0),?_,?_,?_,?_,fun _=>KB gn a0 rfl,trivial⟩ ?_
    ·have j:=((((((((j.drew).bD).bD).bD).bD).bD).bD).bD).bD
     exact⟨(undef,undef,undef,undef,undef,undef,undef,undef),gH.none,(EC zr),zt,j⟩
    ·rintro D U w hD aa a5 ⟨⟨ag,ah,af,ak,ao,aq,al,an⟩,o,ha,_,j⟩
     obtain⟨O,rfl⟩:=(ac (o.at 0 rfl (aa.1 rfl)) az).fI
     have j:=j.cD 0 hD
     refine RL.bB 8 j zr gK nQ fun c8 j=>?_
     have j:=(j.pl 19 [0,2,3,4,5,6,7,8,9,10,11,12,13,14,15,16,17,18]).cQ 0 true rfl bD
     exact RL.nil ⟨rfl,(c8,ah,af,ak,ao,aq,al,an),o.put 1 zr zr,ha.up zr,zt,j⟩
    ·rintro D U w hD aa a5 ⟨⟨ag,ah,af,ak,ao,aq,al,an⟩,o,ha,_,j⟩
     obtain⟨O,rfl⟩:=(ac (o.at 1 rfl (aa.1 rfl)) (ac (o.at 2 rfl (aa.2.1 rfl)) az)).fI
     have j:=(j.cP 0 (aa.1 rfl)).cD 1 hD
     refine RL.bP 0 j qD cj fun c9 j=>?_
     have j:=((j.pl 19 [1,0,3,4,5,6,7,8,9,10,11,12,13,14,15,16,17,18]).cQ 0 (D 1) (aa.1 rfl) bD).cQ 1 true rfl bD
     exact RL.nil ⟨rfl,(ag,c9,af,ak,ao,aq,al,an),o.put 3 zr zr,ha.up zr,zt,j⟩
    ·rintro D U w hD aa a5 ⟨⟨ag,ah,af,ak,ao,aq,al,an⟩,o,ha,_,j⟩
     obtain⟨O,rfl⟩:=(ac (o.at 3 rfl (aa.1 rfl)) az).fI
     have j:=(j.cP 1 (aa.1 rfl)).cD 2 hD
     refine RL.bJ 1 bh j ma fun da j=>?_
     have j:=((j.pl 19 [1,2,0,4,5,6,7,8,9,10,11,12,13,14,15,16,17,18]).cQ 1 (D 3) (aa.1 rfl) bD).cQ 2 true rfl bD
     exact RL.nil ⟨rfl,(ag,ah,da,ak,ao,aq,al,an),o.put 4 zr zr,ha.up zr,zt,j⟩
    ·rintro D U w hD aa a5 ⟨⟨ag,ah,af,ak,ao,aq,al,an⟩,o,ha,_,j⟩
     obtain⟨O,rfl⟩:=(ac (o.at 7 rfl (aa.1 rfl)) az).fI
     refine RL.bK 9 a3 j fu ?_
     exact RL.nil ⟨rfl,(ag,ah,af,ak,ao,aq,al,an),o.put 8 zr zr,ha.up zr,zt,j⟩
    ·rintro D U w hD aa a5 ⟨⟨ag,ah,af,ak,ao,aq,al,an⟩,o,ha,_,j⟩
     obtain⟨O,rfl⟩:=(ac (o.at 8 rfl (aa.1 rfl)) (ac (o.at 9 rfl (aa.2.1 rfl)) az)).fI
     refine RL.bV 14 j zr zr eC bk ?_
     exact RL.nil ⟨rfl,(ag,ah,af,ak,ao,aq,al,an),o.put 10 zr zr,ha.up zr,zt,j⟩
    ·rintro D U w hD aa a5 ⟨⟨ag,ah,af,ak,ao,aq,al,an⟩,o,ha,_,j⟩
     obtain⟨O,rfl⟩:=(ac (o.at 10 rfl (aa.1 rfl)) az).fI
     refine RL.dH (f:=(fun x=>x)) 14 j (jF 14 j bk 0) (bH bk).2.1 Fd.self cI ?_
     exact RL.nil ⟨rfl,(ag,ah,af,ak,ao,aq,al,an),o.put 11 zr zr,ha.up zr,zt,j⟩
    ·rintro D U w hD aa a5 ⟨⟨ag,ah,af,ak,ao,aq,al,an⟩,o,ha,_,j⟩
     obtain⟨O,rfl⟩:=(ac (o.at 4 rfl (aa.1 rfl)) (ac (o.at 11 rfl (aa.2.1 rfl)) az)).fI
     have j:=j.cP 2 (aa.1 rfl)
     refine RL.call zt zr IG [af,(vi bj)] zr (aD (jt N (p1:=bj) (i0:=2) j zr ck) ?_)
     rintro _ w ⟨rfl,j⟩
     have j:=j.cQ 2 (D 4) (aa.1 rfl) bD
     exact RL.nil ⟨rfl,(ag,ah,af,ak,ao,aq,al,an),o.put 12 zr zr,ha.up zr,zt,j⟩
    ·rintro D U w hD aa a5 ⟨⟨ag,ah,af,ak,ao,aq,al,an⟩,o,ha,_,j⟩
     obtain⟨O,rfl⟩:=(ac (o.at 13 rfl (aa.2.1 rfl)) (ac (o.at 16 rfl (aa.1 rfl)) az)).fI
     refine RL.bK (hg:=(cg a0)) 9 a4 j pJ ?_
     exact RL.nil ⟨rfl,(ag,ah,af,ak,ao,aq,al,an),o.put 17 zr zr,ha.up zr,zt,j⟩
    ·rintro D U w hD aa a5 ⟨⟨ag,ah,af,ak,ao,aq,al,an⟩,o,ha,_,j⟩
     obtain⟨O,rfl⟩:=(ac (o.at 13 rfl (aa.2.2.1 rfl)) (ac (o.at 17 rfl (aa.1 rfl)) (ac (o.at 18 rfl (aa.2.1 rfl)) az))).fI
     refine RL.bV (hg:=(cg a0)) 15 j zr zr uy b2 ?_
     exact RL.nil ⟨rfl,(ag,ah,af,ak,ao,aq,al,an),o.put 19 zr zr,ha.up zr,zt,j⟩
    ·rintro D U w hD aa a5 ⟨⟨ag,ah,af,ak,ao,aq,al,an⟩,o,ha,_,j⟩
     obtain⟨O,rfl⟩:=(ac (o.at 13 rfl (aa.2.1 rfl)) (ac (o.at 19 rfl (aa.1 rfl)) az)).fI
     have j:=j.cD 3 hD
     refine RL.kF (hg:=(cg a0)) (f:=(fun x=>x)) 15 j (jF 15 j b2 0) (bH b2).2.1 Fd.self tW fun db j=>?_
     have j:=(j.pl 19 [1,2,3,0,5,6,7,8,9,10,11,12,13,14,15,16,17,18]).cQ 3 true rfl bD
     exact RL.nil ⟨rfl,(ag,ah,af,db,ao,aq,al,an),o.put 20 zr zr,ha.up zr,zt,j⟩
    ·rintro D U w hD aa a5 ⟨⟨ag,ah,af,ak,ao,aq,al,an⟩,o,ha,_,j⟩
     obtain⟨O,rfl⟩:=(ac (o.at 13 rfl (aa.2.1 rfl)) (ac (o.at 21 rfl (aa.1 rfl)) az)).fI
     have j:=j.cD 4 hD
     refine RL.bB (hg:=(cg a0)) 8 j zr gK nQ fun dc j=>?_
     have j:=(j.pl 19 [1,2,3,4,0,6,7,8,9,10,11,12,13,14,15,16,17,18]).cQ 4 true rfl bD
     exact RL.nil ⟨rfl,(ag,ah,af,ak,dc,aq,al,an),o.put 22 zr zr,ha.up zr,zt,j⟩
    ·rintro D U w hD aa a5 ⟨⟨ag,ah,af,ak,ao,aq,al,an⟩,o,ha,_,j⟩
     obtain⟨O,rfl⟩:=(ac (o.at 13 rfl (aa.2.2.1 rfl)) (ac (o.at 22 rfl (aa.1 rfl)) (ac (o.at 23 rfl (aa.2.1 rfl)) az))).fI
     have j:=(j.cP 4 (aa.1 rfl)).cD 5 hD
     refine RL.bP (hg:=(cg a0)) 4 j qD c4 fun dd j=>?_
     have j:=((j.pl 19 [1,2,3,4,5,0,7,8,9,10,11,12,13,14,15,16,17,18]).cQ 4 (D 22) (aa.1 rfl) bD).cQ 5 true rfl bD
     exact RL.nil ⟨rfl,(ag,ah,af,ak,ao,dd,al,an),o.put 24 zr zr,ha.up zr,zt,j⟩
    ·rintro D U w hD aa a5 ⟨⟨ag,ah,af,ak,ao,aq,al,an⟩,o,ha,_,j⟩
     obtain⟨O,rfl⟩:=(ac (o.at 13 rfl (aa.2.1 rfl)) (ac (o.at 24 rfl (aa.1 rfl)) az)).fI
     have j:=(j.cP 5 (aa.1 rfl)).cD 6 hD
     refine RL.bJ (hg:=(cg a0)) 5 b3 j ma fun de j=>?_
     have j:=((j.pl 19 [1,2,3,4,5,6,0,8,9,10,11,12,13,14,15,16,17,18]).cQ 5 (D 24) (aa.1 rfl) bD).cQ 6 true rfl bD
     exact RL.nil ⟨rfl,(ag,ah,af,ak,ao,aq,de,an),o.put 25 zr zr,ha.up zr,zt,j⟩
    ·rintro D U w hD aa a5 ⟨⟨ag,ah,af,ak,ao,aq,al,an⟩,o,ha,_,j⟩
     obtain⟨O,rfl⟩:=(ac (o.at 13 rfl (aa.2.1 rfl)) (ac (o.at 25 rfl (aa.1 rfl)) az)).fI
     have j:=(j.cP 6 (aa.1 rfl)).cD 7 hD
     refine RL.call (cg a0) zr Gb [al] zr (aD (fH N (i0:=6) j zr c6) ?_)
     rintro df w j
     have j:=((j.pl 19 [1,2,3,4,5,6,7,0,9,10,11,12,13,14,15,16,17,18]).cQ 6 (D 25) (aa.1 rfl) bD).cQ 7 true rfl bD
     exact RL.nil ⟨rfl,(ag,ah,af,ak,ao,aq,al,df),o.put 26 zr zr,ha.up zr,zt,j⟩
    ·rintro D U w hD aa a5 ⟨⟨ag,ah,af,ak,ao,aq,al,an⟩,o,ha,_,j⟩
     obtain⟨O,rfl⟩:=(ac (o.at 13 rfl (aa.2.2.2.1 rfl)) (ac (o.at 20 rfl (aa.1 rfl)) (ac (o.at 26 rfl (aa.2.1 rfl)) az))).fI
     have j:=(j.cP 3 (aa.1 rfl)).cP 7 (aa.2.1 rfl)
     refine RL.call (cg a0) zr M4 [ak,an] zr (aD (t9 N (i0:=3) (i1:=7) j zr zr c7) ?_)
     rintro _ w ⟨rfl,j⟩
     have j:=(j.cQ 3 (D 20) (aa.1 rfl) bD).cQ 7 (D 26) (aa.2.1 rfl) bD
     exact RL.nil ⟨rfl,(ag,ah,af,ak,ao,aq,al,an),o.put 27 zr zr,ha.up zr,zt,j⟩
    rintro D U w a9 ⟨⟨ag,ah,af,ak,ao,aq,al,an⟩,o,ha,_,j⟩
    have j:=j.cP 0 (a9 1 (by decide))
    have j:=j.cP 1 (a9 3 (by decide))
    have j:=j.cP 2 (a9 4 (by decide))
    have j:=j.cP 3 (a9 20 (by decide))
    have j:=j.cP 4 (a9 22 (by decide))
    have j:=j.cP 5 (a9 24 (by decide))
    have j:=j.cP 6 (a9 25 (by decide))
    have j:=j.cP 7 (a9 26 (by decide))
    obtain⟨O,rfl⟩:=(ac (o.at 28 rfl (a9 28 (by decide))) (ac (ha.at 0 rfl) (ac (ha.at 1 rfl) (ac (ha.at 2 rfl) (ac (ha.at 3 rfl) (ac (ha.at 4 rfl) az)))))).fI
    obtain rfl:=oi hj
    exact⟨rfl,j.sp 18 [8,9,10,11,12,13,14,15,16,17]⟩
   rintro _ w ⟨O,rfl,j⟩
   refine aH ?_
   obtain⟨b4,hj,hb⟩:=bd hb
   refine RC.jn (fun(b4: (List Int)) U w=>∃bt:Value,SH E V [(1,vp a2 0),(3,vp ae 0),(7,vi a1.2),(8,bt),(9,vi ax.2)] [bx 27 a2 p0,bc 74 ae [ar,au,av,aw,a3,a4,(.slice none 0 0),a6],rd ar p0.aJ,rd au p0.cG,rd av p0.aO,rd aw p0.bM,own 3 a3 ai.1,own 23 a4 ai.2.1,own 43 a6 a1.1,own 3 bt b4] U w) b4 ?_ ?_
   ·refine dQ hj (fun hc hj=>?_) fun hc hj=>?_
    rotate_left
    ·refine RC.skip ?_
     obtain rfl:=oi hj
     exact⟨rfl,ba,j.sp 10 [0,1,2,3,4,5,6,7,8,9]⟩
    refine RC.region (mv ba (mv (vi ax.2) ?_))
    have j:=j.sc Int ax.2
    refine RL.dY ([ax.2]: (List Int)) j [(vi ax.2)] eC CI (fun M hs g=>⟨(g.sat 0 _ zr).1,zt⟩) fun d3 w j=>?_
    have j:=j.freeze 0
    obtain⟨d4,dg,hj⟩:=bd hj
    refine RL.app 11 0 j q7 dg fun cm w j=>?_
    refine aQ cm (RL.nil ?_)
    obtain rfl:=oi hj
    exact⟨rfl,cm,j.sp 12 [2,3,4,5,6,7,8,9,10,11]⟩
   rintro _ w ⟨bt,O,rfl,j⟩
   refine bQ (aH (RC.region (mv (vi ax.2) (RL.fY ax.2 1 (aQ (vi (IntKind.wrap .i64 (ax.2+1))) (RL.nil ?_))))))
   obtain rfl:=oi hb
   exact⟨rfl,bt,j.sp 10 [0,1,2,3,4,5,6,7,8,9]⟩
  ·intro r _ _ _ _
   exact r.elim
  rintro ax _ w rfl ⟨bl,O,rfl,j⟩
  rw [Fo.dB] at hb
  refine aH (RC.region (mv (vp ae 0) (mv (vp ae 0) (RL.nilCheck zr (RL.aY zr tp (RL.bK 1 a6 j zj (mv bl ?_)))))))
  have j:=j.freeze 9
  refine RL.dY ([ax.1]: (List (List Int))) j [bl] z5 J4 (fun M hs g=>⟨(g.sat 9 _ zr).1,zt⟩) fun d5 w j=>?_
  have j:=j.freeze 0
  obtain⟨d6,dh,hb⟩:=bd hb
  refine RL.app 9 0 j J5 dh fun cn w j=>?_
  refine RL.nilCheck zr (RL.aY zr tp (RL.iu 2 cn j zr zr (iO 9 j) zj fun w j=>?_))
  refine RL.nil (bQ (aH (RC.region (mv (vi a1.2) (RL.fY a1.2 1 (aQ (vi (IntKind.wrap .i64 (a1.2+1))) (RL.nil ?_)))))))
  obtain rfl:=oi hb
  exact⟨rfl,cn,j.sp 11 [1,2,9,3,4,5,6,7,8]⟩
 ·intro r _ _ _ _
  exact r.elim
 rintro a1 _ w rfl ⟨bq,O,rfl,j⟩
 rw [Fo.dB] at hb
 refine aH (RC.sr (mv (vp ae 0) ?_))
 have j:=((((((((j.freeze 7).freeze 8).freeze 2).dup 2 rfl).dup 9 rfl).dup 9 rfl).dup 9 rfl).dup 9 rfl).pull 6
 obtain⟨d7,di,hb⟩:=bd hb
 refine RL.call zt zr M6 [(vp ae 0)] zr (aD (nU N j di) ?_)
 rintro _ w ⟨dj,rfl,j⟩
 refine RL.ns (mv (vp ae 0) (aQ (vp ae 0) (RL.nt (RC.ret ?_))))
 obtain rfl:=oi hb
 exact bX ⟨ae,ar,au,av,aw,a3,a4,dj,bq,zr,j.pk 11 [0,5,6,7,8,9,10,1,4]⟩
def oM (E:World) (V:List HP) (b0:Nat) (v0_0 v0_1:Value) (v0_2 v0_3:Value) (v0_4 v0_5:Value) (v0_6 v0_7:Value) (r:Int) (U:Nat->Value) (w:World):Prop:=lF bN 49 Tryz.f36 (iS E V b0 v0_0 v0_1 v0_2 v0_3 v0_4 v0_5 v0_6 v0_7 r) .ret U w
theorem oq {p0_6: (List cF)} {p1:j8} (j:Holds E w (bc 74 b0 [v0_0,v0_1,v0_2,v0_3,v0_4,v0_5,v0_6,v0_7]::rd v0_6 p0_6::V)) (h1:V[i1]? =some (rd v1 p1)) (hb:jg N p0_6 p1=some res):
    Calls bN 36 [(vp b0 0),v1].toArray w (gL (iS E V b0 v0_0 v0_1 v0_2 v0_3 v0_4 v0_5 v0_6 v0_7 res)):=by
 unfold jg at hb
 refine enter Tryz.func36 zr zr ?_
 have j:=j.dup (i1+2) h1
 refine RC.sr (RL.cS 0 v1 j zr fun ah w j=>?_)
 refine aQ (vi 0) (RL.nq (RC.sr (aQ (vi 0) (RL.nt ?_))))
 obtain⟨a5,hN,hb⟩:=bd hb
 refine RC.iter (fun(af:Int)=>SH E V [(0,vp b0 0),(3,vp ah 0),(5,vi af)] [bc 74 b0 [v0_0,v0_1,v0_2,v0_3,v0_4,v0_5,v0_6,v0_7],rd v0_6 p0_6,bx 78 ah p1]) (fun(af:Int)=>SH E V [(0,vp b0 0)] [bc 74 b0 [v0_0,v0_1,v0_2,v0_3,v0_4,v0_5,v0_6,v0_7],rd v0_6 p0_6,bx 78 ah p1]) (oM E V b0 v0_0 v0_1 v0_2 v0_3 v0_4 v0_5 v0_6 v0_7) hN ?_ ?_ ?_ ?_
 ·exact j.sp 4 [2,3,0]
 ·rintro af fl _ w ⟨O,rfl,j⟩ hb
  refine RC.seq (RC.sr (mv (vi af) (mv (vp b0 0) (RL.nilCheck zr (RL.aY zr oH (RL.bK 0 v0_6 j r9 (RL.bF 1 p0_6 j IF (ic af ((p0_6.length:Int)) ?_))))))))
  refine RL.nt (dQ hb (fun hc hb=>?_) fun hc hb=>?_)
  rotate_left
  ·refine RC.ex ?_
   obtain rfl:=oi hb
   exact⟨rfl,j.sp 3 [0,1,2]⟩
  refine RC.ss (RC.block (RC.seq ?_))
  obtain⟨aj,o,hb⟩:=bd hb
  refine RC.jn (fun(aj:Bool)=>SH E V [(0,vp b0 0),(3,vp ah 0),(5,vi af),(47,vb aj)] [bc 74 b0 [v0_0,v0_1,v0_2,v0_3,v0_4,v0_5,v0_6,v0_7],rd v0_6 p0_6,bx 78 ah p1]) aj ?_ ?_
  ·refine RC.ug mixed [0,0,0,0,0,0,0,0,0,0,0,0,0,2,0,0,0,0,0,0,0,0,0,0,0,0,0,0,0,0,2,0,0] [0,1,2,3,4,5,6,7,8,9,10,11,12,13,14,15,16,17,18,19,20,21,22,23,24,25,26,27,28,29,30,31,32] ?_
   have j:=j.drew
   refine DP.e0 zr (RL.aY zr wu (aW zr (RL.aM 2 j zr qB zZ (aW zr (mv (vb p1.bZ) (DP.d0 (eZ o (fun aa o=>?_) fun aa o=>?_)))))))
   rotate_left
   ·refine DP.e0 zr (bC aa (aW zr (bC aa (aW zr (bC aa (aW zr (bC aa (aW zr ?_))))))))
    refine bC aa (aW zr (bC aa (aW zr (bC aa (aW zr (bC aa (aW zr (bC aa ?_))))))))
    refine aW zr (bC aa (ou zr (bC aa (qz zr (fq aa (vb false) (aW zr (mv (vb false) (aW zr ?_))))))))
    refine RL.aY (hg:=⟨_,zr,zr⟩) zr wu (aW zr (RL.aM (hg:=⟨_,zr,zr⟩) 2 j zr qB zZ (aW zr (RL.not (hg:=⟨_,zr,zr⟩) p1.bZ (aW zr (RL.move (vb (!p1.bZ)) ⟨_,zr,zr⟩ (DP.d0 (eZ o (fun ab o=>?_) fun ab o=>?_))))))))
    rotate_left
    ·refine DP.e0 zr (bC ab (aW zr (bC ab (aW zr (bC ab (aW zr (bC ab (aW zr ?_))))))))
     refine bC ab (aW zr (bC ab (aW zr (bC ab (aW zr (bC ab (aW zr (bC ab ?_))))))))
     refine aW zr (bC ab (ou zr (bC ab (qz zr (fq ab (vb false) (hg:=⟨_,zr,zr⟩) (aW zr (RL.pick false (vb false) zr (DP.d0 ?_))))))))
     refine DP.z ?_
     obtain rfl:=oi o
     exact⟨rfl,j.sp 3 [0,1,2]⟩
    refine DP.e0 zr (RL.move (vp b0 0) (cg ab) (aW zr (RL.nilCheck (hg:=(cg ab)) zr (aW zr (RL.aY (hg:=(cg ab)) zr oH (aW zr (RL.bK (hg:=(cg ab)) 0 v0_6 j r9 (aW zr ?_))))))))
    refine RL.move (vi af) (cg ab) (aW zr ?_)
    obtain⟨aq,ar,o⟩:=bd o
    refine RL.bP (hg:=(cg ab)) 1 j yj ar fun a7 j=>(aW zr (RL.dP (hg:=(cg ab)) 0 j zr pY zU fun a8 j=>(aW zr (RL.bJ (hg:=(cg ab)) 0 aq.iZ j fu fun au j=>(aW zr (RL.aY (hg:=(cg ab)) zr uA (aW zr (RL.aM (hg:=(cg ab)) 5 j zr ph cI ?_))))))))
    refine ou zr ?_
    obtain⟨ak,av,o⟩:=bd o
    refine RL.call (cg ab) zr EJ [au,(vi p1.Number)] zr (aD (eD N (p1:=p1.Number) (i0:=0) j zr av) ?_)
    rintro _ w ⟨rfl,j⟩
    refine qz zr (fq ab (vb ak) (hg:=⟨_,zr,zr⟩) (aW zr (RL.pick false (vb ak) zr (DP.d0 (DP.z ?_)))))
    obtain rfl:=oi o
    exact⟨rfl,j.sp 6 [3,4,5]⟩
   refine DP.e0 zr (RL.move (vp b0 0) (cg aa) (aW zr (RL.nilCheck (hg:=(cg aa)) zr (aW zr (RL.aY (hg:=(cg aa)) zr oH (aW zr (RL.bK (hg:=(cg aa)) 0 v0_6 j r9 (aW zr ?_))))))))
   refine RL.move (vi af) (cg aa) (aW zr ?_)
   obtain⟨aw,ax,o⟩:=bd o
   refine RL.bP (hg:=(cg aa)) 1 j yj ax fun a9 j=>(aW zr (RL.dP (hg:=(cg aa)) 0 j zr tm ED fun ba j=>(aW zr (RL.bJ (hg:=(cg aa)) 0 aw.aO j fu fun ay j=>(aW zr (RL.aY (hg:=(cg aa)) zr uA (aW zr (RL.aM (hg:=(cg aa)) 5 j zr ph cI ?_))))))))
   refine ou zr ?_
   obtain⟨al,az,o⟩:=bd o
   refine RL.call (cg aa) zr EJ [ay,(vi p1.Number)] zr (aD (eD N (p1:=p1.Number) (i0:=0) j zr az) ?_)
   rintro _ w ⟨rfl,j⟩
   refine qz zr (fq aa (vb al) (aW zr (mv (vb al) (DP.d0 (eZ o (fun ag o=>?_) fun ag o=>?_)))))
   ·refine DP.e0 zr (bC ag (aW zr (bC ag (aW zr (bC ag (aW zr (bC ag (aW zr ?_))))))))
    refine w7 (aW zr (w7 (aW zr (w7 (aW zr (w7 (aW zr (w7 ?_))))))))
    refine aW zr (w7 (aW zr (w7 (aW zr (w7 (aW zr (w7 (aW zr ?_))))))))
    refine w7 (ou zr (w7 (qz zr (bC ag (aW zr (fq ag (vb true) (DP.d0 (DP.z ?_))))))))
    obtain rfl:=oi o
    exact⟨rfl,j.sp 6 [3,4,5]⟩
   refine DP.e0 zr (RL.aY (hg:=(cg ag)) zr wu (aW zr (RL.aM (hg:=(cg ag)) 5 j zr qB zZ (aW zr (RL.not (hg:=(cg ag)) p1.bZ (aW zr (RL.move (vb (!p1.bZ)) (cg ag) (DP.d0 ?_))))))))
   refine eZ o (fun ad o=>?_) fun ad o=>?_
   rotate_left
   ·refine DP.e0 zr (bC ad (aW zr (bC ad (aW zr (bC ad (aW zr (bC ad (aW zr ?_))))))))
    refine bC ad (aW zr (bC ad (aW zr (bC ad (aW zr (bC ad (aW zr (bC ad ?_))))))))
    refine aW zr (bC ad (ou zr (bC ad (qz zr (fq ad (vb false) (hg:=(cg ag)) (aW zr (fq ag (vb false) (DP.d0 ?_))))))))
    refine DP.z ?_
    obtain rfl:=oi o
    exact⟨rfl,j.sp 6 [3,4,5]⟩
   refine DP.e0 zr (RL.move (vp b0 0) (cg ad) (aW zr (RL.nilCheck (hg:=(cg ad)) zr (aW zr (RL.aY (hg:=(cg ad)) zr oH (aW zr (RL.bK (hg:=(cg ad)) 3 v0_6 j r9 (aW zr ?_))))))))
   refine RL.move (vi af) (cg ad) (aW zr ?_)
   obtain⟨a0,a1,o⟩:=bd o
   refine RL.bP (hg:=(cg ad)) 4 j yj a1 fun bb j=>(aW zr (RL.dP (hg:=(cg ad)) 0 j zr pY zU fun bf j=>(aW zr (RL.bJ (hg:=(cg ad)) 0 a0.iZ j fu fun a2 j=>(aW zr (RL.aY (hg:=(cg ad)) zr uA (aW zr (RL.aM (hg:=(cg ad)) 8 j zr ph cI ?_))))))))
   refine ou zr ?_
   obtain⟨an,a3,o⟩:=bd o
   refine RL.call (cg ad) zr EJ [a2,(vi p1.Number)] zr (aD (eD N (p1:=p1.Number) (i0:=0) j zr a3) ?_)
   rintro _ w ⟨rfl,j⟩
   refine qz zr (fq ad (vb an) (hg:=(cg ag)) (aW zr (fq ag (vb an) (DP.d0 (DP.z ?_)))))
   obtain rfl:=oi o
   exact⟨rfl,j.sp 9 [6,7,8]⟩
  rintro _ w ⟨O,rfl,j⟩
  refine aH (dQ hb (fun hc hb=>?_) fun hc hb=>?_)
  rotate_left
  ·refine RC.skip (bQ (aH (RC.region (mv (vi af) (RL.fY af 1 (aQ (vi (IntKind.wrap .i64 (af+1))) (RL.nil ?_)))))))
   obtain rfl:=oi hb
   exact⟨rfl,j.sp 3 [0,1,2]⟩
  refine RC.sr (mv (vi af) (aQ (vi af) (RL.nt (RC.rb (bS ?_)))))
  obtain rfl:=oi hb
  exact⟨rfl,bX ⟨rfl,j.pk 3 [0]⟩⟩
 ·intro r U w e hK
  subst e
  refine bS ?_
  obtain rfl:=oi hb
  exact hK
 rintro af _ w rfl ⟨O,rfl,j⟩
 rw [Fo.dB] at hb
 refine aH (RC.sr (aQ (vi (-1)) (RL.nt (RC.ret ?_))))
 obtain rfl:=oi hb
 exact bX ⟨rfl,j.pk 3 [0]⟩
theorem o0 {p0_2: (List bZ)} {p0_4: (List Int)} {p0_5: (List (List aI))} {p0_6: (List cF)} {p1:eM} (j:Holds E w (bc 74 b0 [v0_0,v0_1,v0_2,v0_3,v0_4,v0_5,v0_6,v0_7]::rd v0_2 p0_2::rd v0_4 p0_4::rd v0_5 p0_5::rd v0_6 p0_6::V)) (h1:V[i1]? =some (rd v1 p1)) (o:ga N p0_2 p0_4 p0_5 p0_6 p1=some res):
    Calls bN 12 [(vp b0 0),v1].toArray w (gL (iS E V b0 v0_0 v0_1 v0_2 v0_3 v0_4 v0_5 v0_6 v0_7 res)):=by
 unfold ga at o
 refine enter Tryz.func12 zr zr ?_
 have j:=j.dup (i1+5) h1
 refine RC.sr (RL.cS 0 v1 j zr fun aj w j=>?_)
 refine aQ (vi 0) (RL.ns (mv (vp b0 0) (RL.bB (f:=(fun x=>x)) 0 j zr Fd.self rL fun ad j=>?_)))
 have j:=(((j.dup 6 rfl).dup 6 rfl).dup 6 rfl).pull 6
 obtain⟨aa,ae,o⟩:=bd o
 refine RL.call zt zr Lu [(vp b0 0),ad] zr (aD (lQ N (i1:=0) j zr ae) ?_)
 rintro _ w ⟨ab,rfl,j⟩
 refine mv (.tuple #[ab,(vb aa.2)]) (RL.extract ab (RL.extract (vb aa.2) (RL.alloc j F9.z fun ak w j=>?_)))
 refine RL.cC 0 j 1 zr tn fun w j=>?_
 refine aQ (vb aa.2) (RL.nq (RC.sr (mv (vb aa.2) (RL.not aa.2 (RL.nt (dQ o (fun hc o=>?_) fun hc o=>?_))))))
 ·refine RC.sr (aQ (vi (-1)) (RL.nt (RC.rt ?_)))
  obtain rfl:=oi o
  exact bX ⟨rfl,j.pk 11 [2]⟩
 refine RC.sx (mv (vp b0 0) (RL.bB (f:=(fun x=>x)) 0 j zr Fd.self tn fun ag j=>?_))
 have j:=(j.dup 11 rfl).pull 4
 obtain⟨ah,ai,o⟩:=bd o
 refine RL.call zt zr Lv [(vp b0 0),ag] zr (aD (oq N (i1:=0) j zr ai) ?_)
 rintro _ w ⟨rfl,j⟩
 refine aQ (vi ah) (RL.nt (RC.ret ?_))
 obtain rfl:=oi o
 exact bX ⟨rfl,j.pk 13 [0]⟩
end Go.Gk
namespace Go.Gk
open Go Go.Proofs
variable (N:Nat) {E w:World} {i0 i1:Nat} {v0 v1:Value} {V:List HP}
theorem rU {p0:kT} {p1:dV} {res:Int×Bool×Int} (j:Holds E w V) (h0:V[i0]? =some (rd v0 p0)) (h1:V[i1]? =some (rd v1 p1)) (o:fW N p0 p1=some res):
    Calls bN 5 [v0,v1].toArray w (gL (sd E V res)):=by
 unfold fW at o
 refine enter Tryz.func5 zr zr ?_
 have j:=(j.dup (i0+0) h0).dup (i1+1) h1
 refine RC.sr (RL.cS 1 v0 j zr fun av w j=>?_)
 have j:=j.jI (i:=0) rfl
 refine RL.cS 1 v1 j zr fun aw w j=>?_
 have j:=j.jI (i:=0) rfl
 refine aQ (vi 0) (aQ (vb false) (aQ (vi 0) (RL.nq (RC.sr (RL.bJ 1 p0 j vz fun af j=>?_)))))
 obtain⟨aa,ag,o⟩:=bd o
 refine RL.call zt zr NC [af] zr (aD (rj N (i0:=0) j zr ag) ?_)
 rintro _ w ⟨rfl,j⟩
 refine aQ (vi aa) (RL.ns (mv (vi aa) (ic aa 0 (RL.nt (dQ o (fun hc o=>?_) fun hc o=>?_)))))
 ·refine RC.sr (mv (vi aa) (aQ (vi 0) (aQ (vb false) (aQ (vi aa) (RL.nt (RC.rt ?_))))))
  obtain rfl:=oi o
  exact A9 ⟨rfl,j.drop 5⟩
 refine RC.sx (RL.bJ 2 p0 j vz fun ah j=>(RL.bJ 2 p1 j zW fun ai j=>?_))
 obtain⟨ad,aj,o⟩:=bd o
 refine RL.call zt zr M1 [ah,ai] zr (aD (t8 N (i0:=1) (i1:=0) j zr zr aj) ?_)
 rintro _ w ⟨rfl,j⟩
 refine aQ (vi ad) (RL.nq (RC.sr (mv (vi ad) (ic ad 0 (RL.nt (dQ o (fun hc o=>?_) fun hc o=>?_))))))
 ·refine RC.sr (aQ (vi 0) (aQ (vb false) (aQ (vi 9) (RL.nt (RC.rt ?_)))))
  obtain rfl:=oi o
  exact A9 ⟨rfl,j.drop 7⟩
 refine RC.ss (RC.seq (RC.ug mixed [0,2,1,1,1,1,1,2,0] [0,2,3,4,5,6,1,7,8] ?_))
 have j:=j.drew
 refine DP.e0 zr (RL.bJ 4 p0 j vz fun ak j=>(DP.d0 (DP.Bc 5 zr zt j zr nR kK fun ax j=>(DP.wi p0.bM 0 zr zt j wo fun ay a41 az j=>(DP.e1 (vi ad) zr (fun w=>RL.move (vi ad) zt DP.d1) ?_)))))
 obtain⟨al,an,o⟩:=bd o
 refine DP.vx 1 zr j zY an fun a0 j=>(DP.wi al 0 zr zt j rL fun ao a46 a1 j=>(DP.e2 zr ?_))
 obtain⟨a2,aq,o⟩:=bd o
 refine RL.call zt zr M7 [ak] zr (aD (rT N (i0:=6) j zr aq) ?_)
 rintro _ w ⟨ar,a3,a4,a5,a6,a7,a8,a9,ba,rfl,j⟩
 refine DP.d2 (⟨⟨zt,j.gF 12⟩,j.gF 9⟩) (DP.e2 zr ?_)
 have j:=(((((j.freeze 7).dup 7 rfl).dup 7 rfl).dup 7 rfl).dup 6 rfl).pull 4
 obtain⟨ae,au,o⟩:=bd o
 refine RL.call zt zr Lw [(vp ar 0),ao] zr (aD (o0 N (i1:=10) j zr au) ?_)
 rintro _ w ⟨rfl,j⟩
 refine DP.d2 (⟨⟨zt,j.gF 13⟩,j.gF 10⟩) (DP.e0 zr (aQ (vi ae) (DP.d0 ?_)))
 have j:=j.pl 24 [0,1,2,3,4,5,6,7,8,9,11,12,14,15,16,17,18,19,20,21,22,23]
 refine DP.z (aH (RC.sr (mv (vi ae) (ic ae 0 (RL.nt (dQ o (fun hc o=>?_) fun hc o=>?_))))))
 ·refine RC.sr (mv (vi ae) (aQ (vi ae) (aQ (vb true) (aQ (vi 0) (RL.nt (RC.rt ?_))))))
  obtain rfl:=oi o
  exact A9 ⟨rfl,j.drop 22⟩
 refine RC.sx (aQ (vi 0) (aQ (vb false) (aQ (vi 0) (RL.nt (RC.ret ?_)))))
 obtain rfl:=oi o
 exact A9 ⟨rfl,j.drop 22⟩
theorem tz {res:Bool} (o:Holds E w V) (hb:iW N=some res):
    Calls bN 6 [].toArray w (gL (aX E V res)):=by
 unfold iW at hb
 refine enter Tryz.func6 zr zr (RC.sr (aQ (vb false) (RL.ns ?_)))
 have o:=o.sc Int 2
 refine RL.build (⟨⟨0,0⟩,2,0,0,false⟩:bZ) trivial rfl o [(1,vi 2)] rfl M8 rfl (fun M hs g=>by have h:=JT M;exact cU.cons (f:=fun(x:bZ) y=>{x with dE:=y}) h F4 (g.sat 0 _ rfl).1 fun _ h=>cU.nil h) fun ah o=>?_
 obtain⟨aa,ai,hb⟩:=bd hb
 refine RL.call zt zr KQ [ah] zr (aD (sm N (i0:=0) o zr ai) ?_)
 rintro _ w ⟨ag,rfl,o⟩
 refine mv (.tuple #[ag,(vi aa.2)]) (RL.extract ag (RL.extract (vi aa.2) (RL.alloc o oG.z fun aj w o=>?_)))
 refine RL.cC 0 o 1 zr iE fun w o=>?_
 refine aQ (vi aa.2) (RL.nq ?_)
 obtain⟨af,hj,hb⟩:=bd hb
 refine RC.jn (fun(af:Bool)=>SH E V [(0,vb af)] []) af ?_ ?_
 ·refine RC.region (mv (vi aa.2) (ic aa.2 0 (mv (vb (aa.2==0)) (eZ hj (fun ab hj=>?_) fun ab hj=>?_))))
  rotate_left
  ·refine bC ab (bC ab (bC ab (fq ab (vb false) (aQ (vb false) (RL.nil ?_)))))
   obtain rfl:=oi hj
   exact⟨rfl,o.sp 4 []⟩
  refine RL.bB (hg:=(cg ab)) (f:=(fun x=>x)) 0 o zr Fd.self iE fun ak o=>?_
  have o:=(((o.sc Int (-1)).sc Int (-1)).sc Int 1).sc Int 1
  refine RL.build (⟨(-1),(-1),1,1⟩:aI) (cg ab) rfl o [(0,(vi (-1))),(1,(vi (-1))),(2,vi 1),(3,vi 1)] rfl Dm rfl (fun M hs g=>by have h:=tj M;exact cU.cons (f:=fun(x:aI) y=>{x with X0:=y}) h oW (g.sat 3 _ rfl).1 fun _ h=>cU.cons (f:=fun(x:aI) y=>{x with Y0:=y}) h qj (g.sat 2 _ rfl).1 fun _ h=>cU.cons (f:=fun(x:aI) y=>{x with X1:=y}) h oX (g.sat 1 _ rfl).1 fun _ h=>cU.cons (f:=fun(x:aI) y=>{x with Y1:=y}) h ql (g.sat 0 _ rfl).1 fun _ h=>cU.nil h) fun al o=>?_
  refine RL.seq (i:=5) (j:=0) (a:=aa.1) (b:=(⟨(-1),(-1),1,1⟩:aI)) (cg ab) zr o zr zr zr zr Hg zr (fq ab (vb (decide (aa.1= (⟨(-1),(-1),1,1⟩:aI)))) (aQ (vb (decide (aa.1= (⟨(-1),(-1),1,1⟩:aI)))) (RL.nil ?_)))
  obtain rfl:=oi hj
  exact⟨rfl,o.sp 10 []⟩
 rintro _ w ⟨O,rfl,o⟩
 refine aH (RC.ret ?_)
 obtain rfl:=oi hb
 exact bX ⟨rfl,o.drop 0⟩
theorem mJ {p0:kT} {p1:dV} {res:Bool} (hw:Holds E w V) (h0:V[i0]? =some (rd v0 p0)) (h1:V[i1]? =some (rd v1 p1)) (hb:fB N p0 p1=some res):
    Calls bN 3 [v0,v1].toArray w (gL (aX E V res)):=by
 unfold fB at hb
 refine enter Tryz.func3 zr zr ?_
 have hw:=(hw.dup (i0+0) h0).dup (i1+1) h1
 refine RC.sr (RL.cS 1 v0 hw zr fun ar w hw=>?_)
 refine RL.cS 1 v1 hw zr fun au w hw=>?_
 refine aQ (vb false) (RL.ns (RL.bB (f:=(fun x=>x)) 1 hw zr Fd.self vz fun ai hw=>(RL.bB (f:=(fun x=>x)) 1 hw zr Fd.self zW fun aj hw=>?_)))
 obtain⟨j,ak,hb⟩:=bd hb
 refine RL.call zt zr NB [ai,aj] zr (aD (xy N (i0:=1) (i1:=0) hw zr zr ak) ?_)
 rintro _ w ⟨rfl,hw⟩
 refine mv (.tuple #[(vi j.1),(vb j.2.1),(vi j.2.2)]) (RL.extract (vi j.1) (RL.extract (vb j.2.1) (RL.extract (vi j.2.2) (aQ (vi j.1) (aQ (vb j.2.1) (aQ (vi j.2.2) (RL.ns (RL.bB (f:=(fun x=>x)) 3 hw zr Fd.self vz fun al hw=>?_))))))))
 refine RL.bB (f:=(fun x=>x)) 3 hw zr Fd.self zW fun an hw=>?_
 obtain⟨o,ao,hb⟩:=bd hb
 refine RL.call zt zr ND [al,an] zr (aD (rU N (i0:=1) (i1:=0) hw zr zr ao) ?_)
 rintro _ w ⟨rfl,hw⟩
 refine mv (.tuple #[(vi o.1),(vb o.2.1),(vi o.2.2)]) (RL.extract (vi o.1) (RL.extract (vb o.2.1) (RL.extract (vi o.2.2) (aQ (vi o.1) (aQ (vb o.2.1) (aQ (vi o.2.2) (RL.nq ?_)))))))
 obtain⟨ag,hj,hb⟩:=bd hb
 refine RC.jn (fun(ag:Bool)=>SH E V [(4,vb ag)] []) ag ?_ ?_
 ·refine RC.region (mv (vi j.1) (mv (vi o.1) (ic j.1 o.1 (mv (vb (j.1==o.1)) (eZ hj (fun ad hj=>?_) fun ad hj=>?_)))))
  rotate_left
  ·refine bC ad (bC ad (bC ad (fq ad (vb false) (mv (vb false) (kp (kp (kp (RL.pick false (vb false) zr ?_))))))))
   refine mv (vb false) (kp (RL.pick false (vb false) zr (aQ (vb false) (RL.nil ?_))))
   obtain rfl:=oi hj
   exact⟨rfl,hw.sp 8 []⟩
  refine RL.move (vb j.2.1) (cg ad) (RL.move (vb o.2.1) (cg ad) (RL.Io (a:=j.2.1) (b:=o.2.1) (cg ad) rfl rfl rfl Nq (fq ad (vb (j.2.1==o.2.1)) (mv (vb (j.2.1==o.2.1)) (RL.gs true (j.2.1==o.2.1) (vi j.2.2) rfl rfl rfl cK (RL.gs true (j.2.1==o.2.1) (vi o.2.2) rfl rfl rfl cK (RL.gs true (j.2.1==o.2.1) (vb (j.2.2==o.2.2)) rfl rfl rfl (dK .eql .i64 j.2.2 o.2.2 rfl (fun h=>by exact(cM h:cv (true&&((j.2.1==o.2.1)==true)) (vi j.2.2)= (vi j.2.2))) (fun h=>by exact(cM h:cv (true&&((j.2.1==o.2.1)==true)) (vi o.2.2)= (vi o.2.2))) rfl) (RL.pick (j.2.1==o.2.1) (vb ((j.2.1==o.2.1)&&(j.2.2==o.2.2))) (gD true rfl) ?_))))))))
  refine mv (vb ((j.2.1==o.2.1)&&(j.2.2==o.2.2))) (eZ hj (fun af hj=>?_) fun af hj=>?_)
  rotate_left
  ·refine bC af (fq af (vb false) (aQ (vb false) (RL.nil ?_)))
   obtain rfl:=oi hj
   exact⟨rfl,hw.sp 8 []⟩
  obtain⟨ah,aq,hj⟩:=bd hj
  refine RL.call (cg af) zr NF [] zr (aD (tz N hw aq) ?_)
  rintro _ w ⟨rfl,hw⟩
  refine fq af (vb ah) (aQ (vb ah) (RL.nil ?_))
  obtain rfl:=oi hj
  exact⟨rfl,hw.sp 8 []⟩
 rintro _ w ⟨O,rfl,hw⟩
 refine aH (RC.ret ?_)
 obtain rfl:=oi hb
 exact bX ⟨rfl,hw.drop 0⟩
end Go.Gk
