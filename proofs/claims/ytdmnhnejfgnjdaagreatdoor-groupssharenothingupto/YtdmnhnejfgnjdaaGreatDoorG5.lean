/-
  Printed texts: Go functions as plain functions, and that they are. No statement of the seed is proved here.
-/
import Derived.Test.YtdmnhnejfgnjdaaGreatDoorG1
import Derived.Test.YtdmnhnejfgnjdaaGreatDoorG2
import Derived.Test.YtdmnhnejfgnjdaaGreatDoorG3
import Derived.Test.YtdmnhnejfgnjdaaGreatDoorG4
import Derived.Test.YtdmnhnejfgnjdaaGreatDoorA2
set_option linter.unusedVariables false
set_option linter.unusedSimpArgs false
set_option linter.unusedSectionVars false
set_option maxRecDepth 100000
set_option maxHeartbeats 4000000
namespace Go.Gk
open Go Go.Proofs
def mU (E:World) (Γ:List HP) (b0:Nat) (res: (List (List Int))×(List Int)) (v:Value) (w:World):Prop:=∃u0 u0_0:Value,v=u0∧Holds E w ([own 39 u0 res.1,bc 127 b0 [u0_0],own 3 u0_0 res.2]++Γ)
theorem ml (N:Nat) {E w:World} {Γ:List HP} {b0:Nat} {v0_0:Value} {p0_0: (List Int)} {res: (List (List Int))×(List Int)} (hw:Holds E w (bc 127 b0 [v0_0]::own 3 v0_0 p0_0::Γ)) (hb:fj N p0_0=some res):
    Calls Tryz.prog 43 [(vp b0 0)].toArray w (fu (mU E Γ b0 res)):=by
 unfold fj at hb
 refine enter Tryz.func43 zr zr (Nat.le_of_ble_eq_true zr) (RC.sr (aN (.slice none 0 0) zr zr (RL.ns (aN (.slice none 0 0) zr zr (RL.ns (RL.makeMap (κ:=Int) (ν:=Int) zt zr hw fun ai w hw=>(aN ai zr zr (RL.nq ?_))))))))
 refine RC.sr (mv (vp b0 0) zr zr (RL.nilCheck zt zr zr (RL.bD zt zr zr jV (RL.bF (i:=1) (v:=v0_0) zt zr hw zr zr zr cT (RL.cW (i:=2) (l:=p0_0) zt zr hw zr zr iO (mv (vi 0) zr zr (RL.nt ?_)))))))
 obtain⟨ah,hN,hb⟩:=bd hb
 refine RC.fold (fun(ad:Nat) (ah: (List Int)×(List (List Int))×(List (Int×Int))) (σ:Nat→Value) (w:World)=>∃(av:Value) (aw:Value) (us110:List RV),agree σ [(0,(vp b0 0)),(3,aw),(4,ai),(12,(vi (p0_0.length:Int))),(13,(vi (ad:Int)))]∧Holds E w ([bc 127 b0 [av],own 3 av ah.1,mp ai ah.2.2,own 39 aw us110,eZ (XS 3 Int) us110 ah.2.1 none]++Γ)) (fun(ah: (List Int)×(List (List Int))×(List (Int×Int))) (σ:Nat→Value) (w:World)=>∃(an:Value) (ak:Value) (us113:List RV),agree σ [(0,(vp b0 0)),(3,ak)]∧Holds E w ([bc 127 b0 [an],own 3 an ah.1,mp ai ah.2.2,own 39 ak us113,eZ (XS 3 Int) us113 ah.2.1 none]++Γ)) hN ?_ ?_ ?_ ?_
 ·have hw:=hw.tG (XS 3 Int)
  have hw:=hw.bW RV 39
  exact⟨v0_0,(.slice none 0 0),([]:List RV),(ag zr),hw.pk 5 [3,4,2,0,1] zr⟩
 ·intro hm ah σ w hI
  obtain⟨a0,a1,us153,ha,hw⟩:=hI
  obtain⟨τ,rfl⟩:=ha.aO
  refine RC.sr (ic ((p0_0.length:Int)) ((p0_0.length:Int)) zr zr zr zr (RL.nq (RC.cG k6 (RC.ex ?_))))
  exact⟨rfl,a0,a1,us153,(ag zr),hw.pk 5 [0,1,2,3,4] zr⟩
 ·intro hm ad ah s' σ w hk hI hb
  obtain⟨a5,aq,us116,ha,hw⟩:=hI
  obtain⟨τ,rfl⟩:=ha.aO
  refine RC.sr (ic ((ad:Int)) ((p0_0.length:Int)) zr zr zr zr (RL.nq (RC.cF (kZ hk) (RC.ss (RC.bs (mv (vi (ad:Int)) zr zr (aN (vi (ad:Int)) zr zr (RL.ns ?_))))))))
  refine mv (vp b0 0) zr zr (mv (vi (ad:Int)) zr zr ?_)
  have hw:=hw.pull (i:=1) rfl
  have hw:=hw.pull (i:=1) rfl
  obtain⟨eH,a2,hb⟩:=bd hb
  refine RL.call zt zr BA [(vp b0 0),(vi (ad:Int))] zr (aF (gX N (p1:=(ad:Int)) hw a2) ?_)
  rintro _ w ⟨al,rfl,hw⟩
  refine aN (vi eH.1) zr zr (RL.nq (RC.sr (mv (vi eH.1) zr zr (mv (vi (ad:Int)) zr zr (ic (eH.1) ((ad:Int)) zr zr zr zr (RL.nt ?_))))))
  obtain⟨aa,hj,hb⟩:=bd hb
  refine RC.jn (fun(aa: (List (List Int))×(List (Int×Int))) (σ:Nat→Value) (w:World)=>∃(af:Value) (us124:List RV),agree σ [(0,(vp b0 0)),(3,af),(4,ai),(5,(vi (ad:Int))),(6,(vi eH.1)),(12,(vi (p0_0.length:Int))),(13,(vi (ad:Int)))]∧Holds E w ([bc 127 b0 [al],own 3 al eH.2,mp ai aa.2,own 39 af us124,eZ (XS 3 Int) us124 aa.1 none]++Γ)) aa ?_ ?_
  ·refine eI hj zr (fun hc hj=>?_) fun hc hj=>?_
   rotate_left
   ·refine RC.skip ?_
    obtain rfl:=oi hj
    exact⟨rfl,aq,us116,(ag zr),hw.pk 7 [0,1,4,5,6] zr⟩
   refine RC.sr (mv ai zr zr (mv (vi (ad:Int)) zr zr (mv aq zr zr (RL.mz (i:=5) (b:=6) (xs:=ah.2.1) zt zr hw zr zr zr Bz ?_))))
   have hw:=hw.sc (γ:=Int) (ah.2.1.length:Int)
   refine RL.mapUpdate (i:=5) (j:=0) (k:=(ad:Int)) zt hw zr zr zr zr zr vf fun w hw=>(RL.nt (RC.region (mv aq zr zr ?_)))
   have hw:=hw.bW Int 3
   have hw:=hw.wR (i:=0) rfl
   refine RL.dQ (l:=([rv (.slice none 0 0)]:List RV)) zt zr hw [(.slice none 0 0)] zr zr zr xP Ct (fun M hs g=>⟨(g.sat 0 _ zr).1,zt⟩) fun a6 w hw=>?_
   obtain⟨a7,a3,hj⟩:=bd hj
   have hw:=hw.freeze (i:=0) rfl
   refine RL.uU (i:=9) (j:=0) (b:=10) (o:=2) trivial rfl hw rfl rfl rfl rfl rfl rfl (by decide) (by decide) (by decide) Cu a3 fun ax w hw=>(aN ax rfl rfl (RL.nil ?_))
   obtain rfl:=oi hj
   exact⟨rfl,ax,(us116++[rv (.slice none 0 0)]),(ag zr),hw.pk 11 [4,5,8,9,10] zr⟩
  rintro σ w ⟨af,us124,ha,hw⟩
  obtain⟨τ,rfl⟩:=ha.aO
  refine aG ?_
  obtain⟨a8,ao,hb⟩:=bd hb
  obtain⟨aj,a4,hb⟩:=bd hb
  obtain⟨a9,ar,hb⟩:=bd hb
  refine RC.sG (E:=E) (Γ:=Γ) mixed rfl [1,1,1,0,1,1,1,0,0,0,1,0,0,0,0] [11,12,14] (fun(x:Value×Value)=>(fun ae ab=>[(0,29,af),(1,30,ai),(2,31,(vi eH.1)),(3,32,(vi (mget aa.2 eH.1 (0:Int)))),(4,33,af),(5,34,ai),(6,35,(vi eH.1)),(7,36,(vi (mget aa.2 eH.1 (0:Int)))),(8,37,(elA af (Int.toNat (mget aa.2 eH.1 (0:Int))) 1 0)),(9,38,(us124.getD (Int.toNat (mget aa.2 eH.1 (0:Int))) uy).v),(10,39,(vi (ad:Int))),(11,40,ae),(12,41,ab),(13,42,(elA af (Int.toNat (mget aa.2 eH.1 (0:Int))) 1 0))]) x.1 x.2) [(0,(vp b0 0)),(3,af),(4,ai),(5,(vi (ad:Int))),(6,(vi eH.1)),(12,(vi (p0_0.length:Int))),(13,(vi (ad:Int)))] [] (fun(D:Nat→Bool) (x:Value×Value)=>(fun ae ab=>[bif D 1 then (rd ae ([(ad:Int)]: (List Int))) else (bif D 0 then (own 3 ae ([(ad:Int)]: (List Int))) else aI),bif D 2 then (aI) else (bif D 1 then (own 3 ab aj) else aI),bc 127 b0 [al],own 3 al eH.2,mp ai aa.2,bif D 2 then (own 39 af (us124.set (Int.toNat (mget aa.2 eH.1 (0:Int))) (rv ab))) else (own 39 af us124),bif D 2 then (eZ (XS 3 Int) (us124.set (Int.toNat (mget aa.2 eH.1 (0:Int))) (rv ab)) (aa.1.set (Int.toNat (mget aa.2 eH.1 (0:Int))) aj) none) else (bif D 1 then (eZ (XS 3 Int) us124 aa.1 (some (Int.toNat (mget aa.2 eH.1 (0:Int))))) else (eZ (XS 3 Int) us124 aa.1 none))]) x.1 x.2) (fun x=>by kernel_rfl) ?_ ⟨fun _=>dX gn rfl,fun _=>dX gn rfl,fun _=>dX gn rfl,?_,fun _=>dX gn rfl,fun _=>dX gn rfl,fun _=>dX gn rfl,?_,?_,?_,fun _=>dX gn rfl,?_,?_,?_,?_,trivial⟩ ?_
  ·have hw:=hw.drew
   have hw:=hw.aI
   have hw:=hw.aI
   exact⟨(undef,undef),doneV.none,(ag zr),zt,hw⟩
  ·rintro D σ w hD hdep hcl ⟨⟨ae,ab⟩,hv,ha,_,hw⟩
   obtain⟨τ,rfl⟩:=(ac (hv.at 1 rfl (hdep.1 rfl)) (ac (hv.at 2 rfl (hdep.2.1 rfl)) az)).aO
   refine RL.uN (i:=4) (k:=eH.1) zt zr hw zr zr zr vf ?_
   exact RL.nil ⟨rfl,(ae,ab),hv.put 3 zr zr,ha.up zr,zt,hw⟩
  ·rintro D σ w hD hdep hcl ⟨⟨ae,ab⟩,hv,ha,_,hw⟩
   obtain⟨τ,rfl⟩:=(ac (hv.at 5 rfl (hdep.1 rfl)) (ac (hv.at 6 rfl (hdep.2.1 rfl)) az)).aO
   refine RL.uN (i:=4) (k:=eH.1) zt zr hw zr zr zr vf ?_
   exact RL.nil ⟨rfl,(ae,ab),hv.put 7 zr zr,ha.up zr,zt,hw⟩
  ·rintro D σ w hD hdep hcl ⟨⟨ae,ab⟩,hv,ha,_,hw⟩
   obtain⟨τ,rfl⟩:=(ac (hv.at 4 rfl (hdep.1 rfl)) (ac (hv.at 7 rfl (hdep.2.1 rfl)) az)).aO
   have hw:=hw.aQ (i:=5) rfl (nf (fun h=>ft hD ((hcl 14 _ rfl h).2.2.2.2.2.2.2.2.2.2.2.1 rfl)))
   have hw:=hw.aQ (i:=6) rfl (nf (fun h=>ft hD ((hcl 14 _ rfl h).2.2.2.2.2.2.2.2.2.2.2.1 rfl)))
   have hw:=hw.aQ (i:=6) rfl (nf (fun h=>ft hD ((hcl 9 _ rfl ((hcl 12 _ rfl h).1 rfl)).1 rfl)))
   have hl141:=hw.eD (j:=6) rfl
   have hr142:=gj uy hl141 ao
   refine RL.aZ (i:=5) zt zr hw zr zr zr xP hr142 ?_
   have hw:=hw.cJ (i:=5) (b:=D 14) rfl (nf (fun h=>ft hD ((hcl 14 _ rfl h).2.2.2.2.2.2.2.2.2.2.2.1 rfl))) (own 39 af (us124.set (Int.toNat (mget aa.2 eH.1 (0:Int))) (rv ab)))
   have hw:=hw.cJ (i:=6) (b:=D 12) rfl (nf (fun h=>ft hD ((hcl 9 _ rfl ((hcl 12 _ rfl h).1 rfl)).1 rfl))) (eZ (XS 3 Int) us124 aa.1 (some (Int.toNat (mget aa.2 eH.1 (0:Int)))))
   have hw:=hw.cJ (i:=6) (b:=D 14) rfl (nf (fun h=>ft hD ((hcl 14 _ rfl h).2.2.2.2.2.2.2.2.2.2.2.1 rfl))) (eZ (XS 3 Int) (us124.set (Int.toNat (mget aa.2 eH.1 (0:Int))) (rv ab)) (aa.1.set (Int.toNat (mget aa.2 eH.1 (0:Int))) aj) none)
   exact RL.nil ⟨rfl,(ae,ab),hv.put 8 zr zr,ha.up zr,zt,hw⟩
  ·rintro D σ w hD hdep hcl ⟨⟨ae,ab⟩,hv,ha,_,hw⟩
   obtain⟨τ,rfl⟩:=(ac (hv.at 8 rfl (hdep.1 rfl)) az).aO
   have hw:=hw.aQ (i:=5) rfl (nf (fun h=>ft hD ((hcl 14 _ rfl h).2.2.2.2.2.2.2.2.2.2.2.2.1 rfl)))
   have hw:=hw.aQ (i:=6) rfl (nf (fun h=>ft hD ((hcl 14 _ rfl h).2.2.2.2.2.2.2.2.2.2.2.2.1 rfl)))
   have hw:=hw.aQ (i:=6) rfl (nf (fun h=>ft hD ((hcl 12 _ rfl h).1 rfl)))
   have hl143:=hw.eD (j:=6) rfl
   have hr144:=gj uy hl143 ao
   refine RL.pV (i:=5) (b:=6) (jj:=(mget aa.2 eH.1 (0:Int))) (s9 3 Int) uy zt zr hw zr (f0 hw (i:=5) zr hr144 0) zr zr ao cT ?_
   have hw:=hw.cJ (i:=5) (b:=D 14) rfl (nf (fun h=>ft hD ((hcl 14 _ rfl h).2.2.2.2.2.2.2.2.2.2.2.2.1 rfl))) (own 39 af (us124.set (Int.toNat (mget aa.2 eH.1 (0:Int))) (rv ab)))
   have hw:=hw.cJ (i:=6) (b:=D 12) rfl (nf (fun h=>ft hD ((hcl 12 _ rfl h).1 rfl))) (eZ (XS 3 Int) us124 aa.1 (some (Int.toNat (mget aa.2 eH.1 (0:Int)))))
   have hw:=hw.cJ (i:=6) (b:=D 14) rfl (nf (fun h=>ft hD ((hcl 14 _ rfl h).2.2.2.2.2.2.2.2.2.2.2.2.1 rfl))) (eZ (XS 3 Int) (us124.set (Int.toNat (mget aa.2 eH.1 (0:Int))) (rv ab)) (aa.1.set (Int.toNat (mget aa.2 eH.1 (0:Int))) aj) none)
   exact RL.nil ⟨rfl,(ae,ab),hv.put 9 zr zr,ha.up zr,zt,hw⟩
  ·rintro D σ w hD hdep hcl ⟨⟨ae,ab⟩,hv,ha,_,hw⟩
   obtain⟨τ,rfl⟩:=(ac (hv.at 10 rfl (hdep.1 rfl)) az).aO
   have hw:=hw.aQ (i:=0) rfl (nf (fun h=>ft hD ((hcl 12 _ rfl h).2.1 rfl)))
   have hw:=hw.aQ (i:=0) rfl hD
   have hw:=hw.sc (γ:=Int) (ad:Int)
   refine RL.dQ (l:=([(ad:Int)]: (List Int))) zt zr hw [(vi (ad:Int))] zr zr zr dB zY (fun M hs g=>⟨(g.sat 0 _ zr).1,zt⟩) fun ay w hw=>?_
   have hw:=hw.pl 9 [0,3,4,5,6,7,8] rfl
   have hw:=hw.aT (i:=0) (b:=true) rfl rfl (aI)
   have hw:=hw.cJ (i:=0) (b:=D 12) rfl (nf (fun h=>ft hD ((hcl 12 _ rfl h).2.1 rfl))) (rd ay ([(ad:Int)]: (List Int)))
   exact RL.nil ⟨rfl,(ay,ab),hv.put 11 zr zr,ha.up zr,zt,hw⟩
  ·rintro D σ w hD hdep hcl ⟨⟨ae,ab⟩,hv,ha,_,hw⟩
   obtain⟨τ,rfl⟩:=(ac (hv.at 9 rfl (hdep.1 rfl)) (ac (hv.at 11 rfl (hdep.2.1 rfl)) az)).aO
   have hw:=hw.aQ (i:=0) rfl hD
   have hw:=hw.aS (i:=0) rfl (hdep.2.1 rfl)
   have hw:=hw.aQ (i:=1) rfl (nf (fun h=>ft hD ((hcl 14 _ rfl h).2.1 rfl)))
   have hw:=hw.aQ (i:=1) rfl hD
   have hw:=hw.aQ (i:=5) rfl (nf (fun h=>ft hD ((hcl 14 _ rfl h).2.1 rfl)))
   have hw:=hw.aQ (i:=6) rfl (nf (fun h=>ft hD ((hcl 14 _ rfl h).2.1 rfl)))
   have hw:=hw.aQ (i:=6) rfl hD
   have hw:=hw.tH (j:=6) (jj:=(mget aa.2 eH.1 (0:Int))) (s9 3 Int) uy rfl ao
   have hw:=hw.freeze (i:=1) rfl
   refine RL.app (i:=0) (j:=1) zt zr hw zr zr zr zr p6 a4 fun au w hw=>?_
   have hw:=hw.pl 8 [1,0,3,4,5,6,7] rfl
   have hw:=hw.aT (i:=0) (b:=true) rfl rfl (bif D 11 then (own 3 ae ([(ad:Int)]: (List Int))) else aI)
   have hw:=hw.aT (i:=1) (b:=true) rfl rfl (aI)
   have hw:=hw.cJ (i:=1) (b:=D 14) rfl (nf (fun h=>ft hD ((hcl 14 _ rfl h).2.1 rfl))) (aI)
   have hw:=hw.cJ (i:=5) (b:=D 14) rfl (nf (fun h=>ft hD ((hcl 14 _ rfl h).2.1 rfl))) (own 39 af (us124.set (Int.toNat (mget aa.2 eH.1 (0:Int))) (rv au)))
   have hw:=hw.aT (i:=6) (b:=true) rfl rfl (eZ (XS 3 Int) us124 aa.1 none)
   have hw:=hw.cJ (i:=6) (b:=D 14) rfl (nf (fun h=>ft hD ((hcl 14 _ rfl h).2.1 rfl))) (eZ (XS 3 Int) (us124.set (Int.toNat (mget aa.2 eH.1 (0:Int))) (rv au)) (aa.1.set (Int.toNat (mget aa.2 eH.1 (0:Int))) aj) none)
   exact RL.nil ⟨rfl,(ae,au),hv.put 12 zr zr,ha.up zr,zt,hw⟩
  ·rintro D σ w hD hdep hcl ⟨⟨ae,ab⟩,hv,ha,_,hw⟩
   obtain⟨τ,rfl⟩:=(ac (hv.at 0 rfl (hdep.1 rfl)) (ac (hv.at 3 rfl (hdep.2.1 rfl)) az)).aO
   have hw:=hw.aQ (i:=5) rfl (nf (fun h=>ft hD ((hcl 14 _ rfl h).1 rfl)))
   have hw:=hw.aQ (i:=6) rfl (nf (fun h=>ft hD ((hcl 14 _ rfl h).1 rfl)))
   have hw:=hw.aS (i:=6) rfl (hdep.2.2.2.2.2.2.2.2.2.2.2.2.2.2.1 rfl)
   have hl147:=hw.eD (j:=6) rfl
   have hr148:=gj uy hl147 ar
   refine RL.aZ (i:=5) zt zr hw zr zr zr xP hr148 ?_
   have hw:=hw.cJ (i:=5) (b:=D 14) rfl (nf (fun h=>ft hD ((hcl 14 _ rfl h).1 rfl))) (own 39 af (us124.set (Int.toNat (mget aa.2 eH.1 (0:Int))) (rv ab)))
   have hw:=hw.aT (i:=6) (b:=D 12) rfl (hdep.2.2.2.2.2.2.2.2.2.2.2.2.2.2.1 rfl) (eZ (XS 3 Int) us124 aa.1 none)
   have hw:=hw.cJ (i:=6) (b:=D 14) rfl (nf (fun h=>ft hD ((hcl 14 _ rfl h).1 rfl))) (eZ (XS 3 Int) (us124.set (Int.toNat (mget aa.2 eH.1 (0:Int))) (rv ab)) (aa.1.set (Int.toNat (mget aa.2 eH.1 (0:Int))) aj) none)
   exact RL.nil ⟨rfl,(ae,ab),hv.put 13 zr zr,ha.up zr,zt,hw⟩
  ·rintro D σ w hD hdep hcl ⟨⟨ae,ab⟩,hv,ha,_,hw⟩
   obtain⟨τ,rfl⟩:=(ac (hv.at 12 rfl (hdep.2.1 rfl)) (ac (hv.at 13 rfl (hdep.1 rfl)) az)).aO
   have hw:=hw.aQ (i:=1) rfl hD
   have hw:=hw.aS (i:=1) rfl (hdep.2.1 rfl)
   have hw:=hw.aQ (i:=5) rfl hD
   have hw:=hw.aQ (i:=6) rfl hD
   have hw:=hw.aS (i:=6) rfl (hdep.2.1 rfl)
   have hl149:=hw.eD (j:=6) rfl
   have hr150:=gj uy hl149 ar
   refine RL.n7 (i:=5) (b:=6) (o:=1) (jj:=(mget aa.2 eH.1 (0:Int))) (s9 3 Int) uy trivial hw rfl rfl (f0 hw (i:=5) rfl hr150 0) rfl rfl (.inr rfl) rfl ar (by decide) (by decide) (by decide) cT fun w hw=>?_
   have hw:=hw.aT (i:=1) (b:=true) rfl rfl (bif D 12 then (own 3 ab aj) else aI)
   have hw:=hw.aT (i:=5) (b:=true) rfl rfl (own 39 af us124)
   have hw:=hw.aT (i:=6) (b:=true) rfl rfl (bif D 12 then (eZ (XS 3 Int) us124 aa.1 (some (Int.toNat (mget aa.2 eH.1 (0:Int))))) else (eZ (XS 3 Int) us124 aa.1 none))
   exact RL.nil ⟨rfl,(ae,ab),hv.no zr,ha,zt,hw⟩
  rintro D σ w hall ⟨⟨ae,ab⟩,hv,ha,_,hw⟩
  have hw:=hw.aS (i:=0) rfl (hall 12 (by decide))
  have hw:=hw.aS (i:=1) rfl (hall 14 (by decide))
  have hw:=hw.aS (i:=5) rfl (hall 14 (by decide))
  have hw:=hw.aS (i:=6) rfl (hall 14 (by decide))
  obtain⟨τ,rfl⟩:=(ac (ha.at 0 rfl) (ac (ha.at 1 rfl) (ac (ha.at 2 rfl) (ac (ha.at 3 rfl) (ac (ha.at 4 rfl) (ac (ha.at 5 rfl) (ac (ha.at 6 rfl) az))))))).aO
  refine bI (aG (RC.region (RL.inc zt zr hk hm zr zr (mv (vi ((ad+1:Nat):Int)) zr zr (RL.nil ?_)))))
  obtain rfl:=oi hb
  exact⟨rfl,al,af,(us124.set (Int.toNat (mget aa.2 eH.1 (0:Int))) (rv ab)),(ag zr),hw.pk 7 [2,3,4,5,6] zr⟩
 intro σ w hJ
 obtain⟨an,ak,us113,ha,hw⟩:=hJ
 obtain⟨τ,rfl⟩:=ha.aO
 refine aG (RC.sr (mv ak zr zr (aN ak zr zr (RL.nt (RC.ret ?_)))))
 obtain rfl:=oi hb
 have hw:=hw.tI (X:=(XS 3 Int)) (b:=4) (j:=3) rfl (fun M h u x cs=>(AR 3) M h u x cs) rfl rfl (by decide)
 exact bQ zr zr ⟨ak,an,zr,hw.pk 5 [3,0,1] zr⟩
def mV (E:World) (Γ:List HP) (res:Bool) (v:Value) (w:World):Prop:=v= (vb res)∧Holds E w Γ
theorem mm (N:Nat) {E w:World} {Γ:List HP} {i0:Nat} {v0:Value} {p0:aD} {i1:Nat} {v1:Value} {p1:bX} {res:Bool} (hw:Holds E w Γ) (h0:Γ[i0]? =some (rd v0 p0)) (h1:Γ[i1]? =some (pt v1 p1)) (hb:gm N p0 p1=some res):
    Calls Tryz.prog 81 [v0,v1].toArray w (fu (mV E Γ res)):=by
 unfold gm at hb
 refine enter Tryz.func81 zr zr (Nat.le_of_ble_eq_true zr) ?_
 have hw:=hw.dup (i:=i0+0) h0
 have hw:=hw.tD (i:=i1+1) h1
 refine RC.sr (RL.dP (i:=1) (v:=v0) zt zr hw zr zr fun ad w hw=>(aN (vb false) zr zr (RL.nq ?_)))
 obtain⟨ab,hj,hb⟩:=bd hb
 refine RC.jn (fun(ab:Bool) (σ:Nat→Value) (w:World)=>agree σ [(3,(vb ab))]∧Holds E w ([]++Γ)) ab ?_ ?_
 ·refine RC.region (RL.gJ (i:=1) (f:=fun(x:bX)=>x.X) zt zr hw zr zr tU lN fun ae hw=>(RL.aY (i:=0) (y:=p1.X) zt zr hw zr zr bV (RL.bD zt zr zr fX (RL.aL (i:=1) (f:=(fun x=>x.X0)) zt zr hw zr zr cS bV (ic (p1.X) (p0.X0) zr zr zr zr (mv (vb (decide (p1.X≥p0.X0))) zr zr (fW hj (fun j hj=>?_) fun j hj=>?_)))))))
  rotate_left
  ·refine sk rfl (.inl (cb j)) rfl (sk rfl (.inl (cb j)) rfl (sk rfl (.inl (cb j)) rfl (sk rfl (.inl (cb j)) rfl (sk rfl (.inl (cb j)) rfl (RL.pick (b:=(decide (p1.X≥p0.X0))) (v:=(vb false)) trivial rfl rfl (by rw [j];rfl) (mv (vb false) rfl rfl (sk rfl (.inl rfl) rfl (sk rfl (.inl rfl) rfl ?_))))))))
   refine sk zr (.inl zr) zr (sk zr (.inl zr) zr (sk zr (.inl zr) zr (RL.pick (b:=false) (v:=(vb false)) zt zr zr zr (mv (vb false) zr zr (sk zr (.inl zr) zr (sk zr (.inl zr) zr (sk zr (.inl zr) zr (sk zr (.inl zr) zr ?_))))))))
   refine sk zr (.inl zr) zr (RL.pick (b:=false) (v:=(vb false)) zt zr zr zr (aN (vb false) zr zr (RL.nil ?_)))
   obtain rfl:=oi hj
   exact⟨rfl,⟨rfl,zt⟩,hw.pk 4 [] zr⟩
  refine RL.gJ (i:=2) (f:=fun(x:bX)=>x.X) (cg j) rfl hw rfl rfl tU lN fun af hw=>(RL.aY (i:=0) (y:=p1.X) (cg j) rfl hw rfl rfl bV (RL.bD (cg j) rfl rfl gG (RL.aL (i:=2) (f:=(fun x=>x.X1)) (cg j) rfl hw rfl rfl dM bV (RL.iQ (a:=p1.X) (b:=p0.X1) (cg j) rfl rfl rfl rfl (RL.pick (b:=(decide (p1.X≥p0.X0))) (v:=(vb (decide (p1.X<p0.X1)))) trivial rfl rfl (by rw [j];rfl) (mv (vb (decide (p1.X<p0.X1))) rfl rfl (fW hj (fun o hj=>?_) fun o hj=>?_)))))))
  rotate_left
  ·refine sk rfl (.inl (cb o)) rfl (sk rfl (.inl (cb o)) rfl (sk rfl (.inl (cb o)) rfl (sk rfl (.inl (cb o)) rfl (sk rfl (.inl (cb o)) rfl (RL.pick (b:=(decide (p1.X<p0.X1))) (v:=(vb false)) trivial rfl rfl (by rw [o];rfl) (mv (vb false) rfl rfl (sk rfl (.inl rfl) rfl (sk rfl (.inl rfl) rfl ?_))))))))
   refine sk zr (.inl zr) zr (sk zr (.inl zr) zr (sk zr (.inl zr) zr (RL.pick (b:=false) (v:=(vb false)) zt zr zr zr (aN (vb false) zr zr (RL.nil ?_)))))
   obtain rfl:=oi hj
   exact⟨rfl,⟨rfl,zt⟩,hw.pk 5 [] zr⟩
  refine RL.gJ (i:=3) (f:=fun(x:bX)=>x.Y) (cg o) rfl hw rfl rfl tV lO fun ag hw=>(RL.aY (i:=0) (y:=p1.Y) (cg o) rfl hw rfl rfl bV (RL.bD (cg o) rfl rfl gF (RL.aL (i:=3) (f:=(fun x=>x.Y0)) (cg o) rfl hw rfl rfl cZ bV (RL.iQ (a:=p1.Y) (b:=p0.Y0) (cg o) rfl rfl rfl rfl (RL.pick (b:=(decide (p1.X<p0.X1))) (v:=(vb (decide (p1.Y≥p0.Y0)))) trivial rfl rfl (by rw [o];rfl) (mv (vb (decide (p1.Y≥p0.Y0))) rfl rfl (fW hj (fun aa hj=>?_) fun aa hj=>?_)))))))
  ·refine RL.gJ (i:=4) (f:=fun(x:bX)=>x.Y) (cg aa) rfl hw rfl rfl tV lO fun ah hw=>(RL.aY (i:=0) (y:=p1.Y) (cg aa) rfl hw rfl rfl bV (RL.bD (cg aa) rfl rfl jK (RL.aL (i:=4) (f:=(fun x=>x.Y1)) (cg aa) rfl hw rfl rfl fy bV (RL.iQ (a:=p1.Y) (b:=p0.Y1) (cg aa) rfl rfl rfl rfl (RL.pick (b:=(decide (p1.Y≥p0.Y0))) (v:=(vb (decide (p1.Y<p0.Y1)))) trivial rfl rfl (by rw [aa];rfl) (aN (vb (decide (p1.Y<p0.Y1))) rfl rfl (RL.nil ?_)))))))
   obtain rfl:=oi hj
   exact⟨rfl,⟨rfl,zt⟩,hw.pk 7 [] zr⟩
  refine sk rfl (.inl (cb aa)) rfl (sk rfl (.inl (cb aa)) rfl (sk rfl (.inl (cb aa)) rfl (sk rfl (.inl (cb aa)) rfl (sk rfl (.inl (cb aa)) rfl (RL.pick (b:=(decide (p1.Y≥p0.Y0))) (v:=(vb false)) trivial rfl rfl (by rw [aa];rfl) (aN (vb false) rfl rfl (RL.nil ?_)))))))
  obtain rfl:=oi hj
  exact⟨rfl,⟨rfl,zt⟩,hw.pk 6 [] zr⟩
 rintro σ w ⟨ha,hw⟩
 obtain⟨τ,rfl⟩:=ha.aO
 refine aG (RC.ret ?_)
 obtain rfl:=oi hb
 exact bQ zr zr ⟨rfl,hw.drop 0 zr⟩
def pg (E:World) (Γ:List HP) (res:Bool) (v:Value) (w:World):Prop:=v= (vb res)∧Holds E w Γ
theorem kj (N:Nat) {E w:World} {Γ:List HP} {i0:Nat} {v0:Value} {p0: (List aD)} {i1:Nat} {v1:Value} {p1:bX} {res:Bool} (hw:Holds E w Γ) (h0:Γ[i0]? =some (rd v0 p0)) (h1:Γ[i1]? =some (rd v1 p1)) (hb:fx N p0 p1=some res):
    Calls Tryz.prog 68 [v0,v1].toArray w (fu (pg E Γ res)):=by
 unfold fx at hb
 refine enter Tryz.func68 zr zr (Nat.le_of_ble_eq_true zr) ?_
 have hw:=hw.dup (i:=i0+0) h0
 have hw:=hw.dup (i:=i1+1) h1
 refine RC.sr (RL.dP (i:=0) (v:=v1) zt zr hw zr zr fun j w hw=>?_)
 have hw:=hw.nd (i:=0) rfl
 refine aN (vb false) zr zr (RL.ns (mv v0 zr zr (RL.makeFunc zt zr [(vp j 0)] zr ?_)))
 obtain⟨o,aa,hb⟩:=bd hb
 refine RL.call trivial rfl Cs [v0,(.func (.func 81) #[] #[(vp j 0)])] rfl (aF (gM N (i0:=2) hw rfl ⟨81,[(vp j 0)],rfl,DW,fun w Γl v y0 r i hw hi hr=>by exact aF (mm N (i0:=i) (i1:=Γl.length+0) hw hi (tB rfl) hr) fun _ _ h=>h⟩ aa) ?_)
 rintro _ w ⟨rfl,hw⟩
 refine aN (vb o) zr zr (RL.nt (RC.ret ?_))
 obtain rfl:=oi hb
 exact bQ zr zr ⟨rfl,hw.drop 3 zr⟩
def jB (E:World) (Γ:List HP) (b0:Nat) (v0_0:Value) (v0_1:Value) (v0_2:Value) (v0_3:Value) (v0_4:Value) (v0_5:Value) (v0_6:Value) (v0_7:Value) (v0_8:Value) (v0_9:Value) (v0_10:Value) (v0_11:Value) (res:fZ×Bool) (v:Value) (w:World):Prop:=∃u0:Value,v = .tuple #[u0,(vb res.2)]∧Holds E w ([rd u0 res.1,bc 57 b0 [v0_0,v0_1,v0_2,v0_3,v0_4,v0_5,v0_6,v0_7,v0_8,v0_9,v0_10,v0_11]]++Γ)
def jC (E:World) (Γ:List HP) (b0:Nat) (v0_0:Value) (v0_1:Value) (v0_2:Value) (v0_3:Value) (v0_4:Value) (v0_5:Value) (v0_6:Value) (v0_7:Value) (v0_8:Value) (v0_9:Value) (v0_10:Value) (v0_11:Value) (r:fZ×Bool) (σ:Nat→Value) (w:World):Prop:=jU Tryz.prog 66 Tryz.f44 (jB E Γ b0 v0_0 v0_1 v0_2 v0_3 v0_4 v0_5 v0_6 v0_7 v0_8 v0_9 v0_10 v0_11 r) .ret σ w
theorem mn (N:Nat) {E w:World} {Γ:List HP} {b0:Nat} {v0_0:Value} {v0_1:Value} {v0_2:Value} {p0_2: (List bB)} {v0_3:Value} {v0_4:Value} {v0_5:Value} {p0_5: (List aC)} {v0_6:Value} {v0_7:Value} {v0_8:Value} {v0_9:Value} {v0_10:Value} {v0_11:Value} {i1:Nat} {v1:Value} {p1:cE} {res:fZ×Bool} (hw:Holds E w (bc 57 b0 [v0_0,v0_1,v0_2,v0_3,v0_4,v0_5,v0_6,v0_7,v0_8,v0_9,v0_10,v0_11]::rd v0_2 p0_2::rd v0_5 p0_5::Γ)) (h1:Γ[i1]? =some (rd v1 p1)) (hb:fk N p0_2 p0_5 p1=some res):
    Calls Tryz.prog 44 [(vp b0 0),v1].toArray w (fu (jB E Γ b0 v0_0 v0_1 v0_2 v0_3 v0_4 v0_5 v0_6 v0_7 v0_8 v0_9 v0_10 v0_11 res)):=by
 unfold fk at hb
 refine enter Tryz.func44 zr zr (Nat.le_of_ble_eq_true zr) ?_
 have hw:=hw.dup (i:=i1+3) h1
 refine RC.sr (RL.dP (i:=0) (v:=v1) zt zr hw zr zr fun af w hw=>(RL.alloc zt zr hw zb.z fun ai w hw=>(aN (vb false) zr zr (RL.nq (RC.sr (mv (vp b0 0) zr zr (RL.nilCheck zt zr zr (RL.bD zt zr zr lQ ?_))))))))
 refine RL.bD zt zr zr jM (RL.bF (i:=3) (v:=v0_2) zt zr hw zr zr zr qQ (RL.bA (i:=4) (l:=p0_2) zt zr hw zr zr sL (mv (vi 0) zr zr (RL.nt ?_))))
 obtain⟨bq,hN,hb⟩:=bd hb
 refine RC.range (fun(aj:Nat) (aw:Unit) (σ:Nat→Value) (w:World)=>agree σ [(0,(vp b0 0)),(3,(vp af 0)),(4,(vp ai 0)),(14,v0_2),(15,(vi (p0_2.length:Int))),(16,(vi (aj:Int)))]∧Holds E w ([bc 57 b0 [v0_0,v0_1,v0_2,v0_3,v0_4,v0_5,v0_6,v0_7,v0_8,v0_9,v0_10,v0_11],rd v0_2 p0_2,rd v0_5 p0_5,bx 71 af p1,raw 102 ai 2]++Γ)) (fun(aw:Unit) (σ:Nat→Value) (w:World)=>agree σ [(0,(vp b0 0)),(3,(vp af 0)),(4,(vp ai 0))]∧Holds E w ([bc 57 b0 [v0_0,v0_1,v0_2,v0_3,v0_4,v0_5,v0_6,v0_7,v0_8,v0_9,v0_10,v0_11],rd v0_2 p0_2,rd v0_5 p0_5,bx 71 af p1,raw 102 ai 2]++Γ)) (jC E Γ b0 v0_0 v0_1 v0_2 v0_3 v0_4 v0_5 v0_6 v0_7 v0_8 v0_9 v0_10 v0_11) hN ?_ ?_ ?_ ?_ ?_
 ·exact⟨(ag zr),hw.pk 6 [3,4,5,1,0] zr⟩
 ·intro hm aw σ w hI
  obtain⟨ha,hw⟩:=hI
  obtain⟨τ,rfl⟩:=ha.aO
  refine RC.sr (ic ((p0_2.length:Int)) ((p0_2.length:Int)) zr zr zr zr (RL.nq (RC.cG k6 (RC.ex ?_))))
  exact⟨rfl,(ag zr),hw.pk 5 [0,1,2,3,4] zr⟩
 ·intro hm aj aw fl σ w hk hI hb
  obtain⟨ha,hw⟩:=hI
  obtain⟨τ,rfl⟩:=ha.aO
  refine RC.sr (ic ((aj:Int)) ((p0_2.length:Int)) zr zr zr zr (RL.nq (RC.cF (kZ hk) (RC.ss (RC.bs (mv (vi (aj:Int)) zr zr ?_))))))
  obtain⟨ah,a6,hb⟩:=bd hb
  refine RL.bO (i:=1) zt zr hw zr zr zr tT a6 fun ay hw=>(RL.bT (i:=0) (x:=ah) zt zr hw zr zr kc fun a0 hw=>(RL.alloc zt zr hw xK.z fun aq w hw=>(aN (vi (aj:Int)) zr zr (RL.bC (i:=0) (j:=1) zt hw zr zr zr zr kc zr fun w hw=>(RL.nq ?_)))))
  obtain⟨a1,hj,hb⟩:=bd hb
  refine RC.jn (fun(a1:Bool) (σ:Nat→Value) (w:World)=>agree σ [(0,(vp b0 0)),(3,(vp af 0)),(4,(vp ai 0)),(6,(vi (aj:Int))),(14,v0_2),(15,(vi (p0_2.length:Int))),(16,(vi (aj:Int))),(36,(vb a1))]∧Holds E w ([bc 57 b0 [v0_0,v0_1,v0_2,v0_3,v0_4,v0_5,v0_6,v0_7,v0_8,v0_9,v0_10,v0_11],rd v0_2 p0_2,rd v0_5 p0_5,bx 71 af p1,raw 102 ai 2]++Γ)) a1 ?_ ?_
  ·refine fW hj (fun ak hj=>?_) fun ak hj=>?_
   rotate_left
   ·refine RC.sG (E:=E) (Γ:=Γ) mixed rfl [1,0,1,1,1,1,1,1,1,1,1,1,1,1,1,1] [] (fun(x:Unit)=>[(0,21,(vp aq 5)),(1,22,(vb ah.bP)),(2,23,(vb ah.bP)),(3,24,undef),(4,25,undef),(5,26,undef),(6,27,undef),(7,28,(vb false)),(8,29,(vb false)),(9,30,undef),(10,31,undef),(11,32,undef),(12,33,undef),(13,34,undef),(14,35,undef),(15,36,(vb false))]) [(0,(vp b0 0)),(3,(vp af 0)),(4,(vp ai 0)),(6,(vi (aj:Int))),(7,(vp aq 0)),(14,v0_2),(15,(vi (p0_2.length:Int))),(16,(vi (aj:Int)))] [] (fun(D:Nat→Bool) (x:Unit)=>[bx 47 aq ah,rd a0 ah,pt ay ah,bc 57 b0 [v0_0,v0_1,v0_2,v0_3,v0_4,v0_5,v0_6,v0_7,v0_8,v0_9,v0_10,v0_11],rd v0_2 p0_2,rd v0_5 p0_5,bx 71 af p1,raw 102 ai 2]) (fun x=>by kernel_rfl) ?_ ⟨fun _=>fJ gn p9 rfl,?_,fun _=>dX gn rfl,fun _=>ig ak rfl,fun _=>ig ak rfl,fun _=>ig ak rfl,fun _=>ig ak rfl,fun _=>yL gn ak rfl,fun _=>dX gn rfl,fun _=>ig rfl rfl,fun _=>ig rfl rfl,fun _=>ig rfl rfl,fun _=>ig rfl rfl,fun _=>ig rfl rfl,fun _=>ig rfl rfl,fun _=>yL gn rfl rfl,trivial⟩ ?_
    ·have hw:=hw.drew
     exact⟨(),doneV.none,(ag zr),zt,hw⟩
    ·rintro D σ w hD hdep hcl ⟨_,hv,ha,_,hw⟩
     obtain⟨τ,rfl⟩:=(ac (hv.at 0 rfl (hdep.1 rfl)) az).aO
     refine RL.aL (i:=0) (f:=(fun x=>x.bP)) zt zr hw zr zr j5 Bw ?_
     exact RL.nil ⟨rfl,(),hv.put 1 zr zr,ha.up zr,zt,hw⟩
    rintro D σ w hall ⟨_,hv,ha,_,hw⟩
    obtain⟨τ,rfl⟩:=(ac (hv.at 15 rfl (hall 15 (by decide))) (ac (ha.at 0 rfl) (ac (ha.at 1 rfl) (ac (ha.at 2 rfl) (ac (ha.at 3 rfl) (ac (ha.at 4 rfl) (ac (ha.at 5 rfl) (ac (ha.at 6 rfl) (ac (ha.at 7 rfl) az))))))))).aO
    obtain rfl:=oi hj
    exact⟨rfl,(ag zr),hw.pk 8 [3,4,5,6,7] zr⟩
   obtain⟨ar,a3,hj⟩:=bd hj
   refine fW hj (fun al hj=>?_) fun al hj=>?_
   rotate_left
   ·refine RC.sG (E:=E) (Γ:=Γ) mixed rfl [1,0,1,0,1,0,0,1,1,1,1,1,1,1,1,1] [3] (fun(x:Value)=>(fun o=>[(0,21,(vp aq 5)),(1,22,(vb ah.bP)),(2,23,(vb ah.bP)),(3,24,o),(4,25,(vp af 2)),(5,26,(vi p1.bH)),(6,27,(vb ar)),(7,28,(vb ar)),(8,29,(vb ar)),(9,30,undef),(10,31,undef),(11,32,undef),(12,33,undef),(13,34,undef),(14,35,undef),(15,36,(vb false))]) x) [(0,(vp b0 0)),(3,(vp af 0)),(4,(vp ai 0)),(6,(vi (aj:Int))),(7,(vp aq 0)),(14,v0_2),(15,(vi (p0_2.length:Int))),(16,(vi (aj:Int)))] [] (fun(D:Nat→Bool) (x:Value)=>(fun o=>[bif D 0 then (rd o ah) else aI,bx 47 aq ah,rd a0 ah,pt ay ah,bc 57 b0 [v0_0,v0_1,v0_2,v0_3,v0_4,v0_5,v0_6,v0_7,v0_8,v0_9,v0_10,v0_11],rd v0_2 p0_2,rd v0_5 p0_5,bx 71 af p1,raw 102 ai 2]) x) (fun x=>by kernel_rfl) ?_ ⟨fun _=>fJ gn p9 rfl,?_,fun _=>dX gn rfl,?_,fun _=>fJ (gy ak rfl) tW rfl,?_,?_,fun _=>yK gn ak rfl,fun _=>dX gn rfl,fun _=>ig al rfl,fun _=>ig al rfl,fun _=>ig al rfl,fun _=>ig al rfl,fun _=>ig al rfl,fun _=>ig al rfl,fun _=>yL gn al rfl,trivial⟩ ?_
    ·have hw:=hw.drew
     have hw:=hw.aI
     exact⟨undef,doneV.none,(ag zr),zt,hw⟩
    ·rintro D σ w hD hdep hcl ⟨o,hv,ha,_,hw⟩
     obtain⟨τ,rfl⟩:=(ac (hv.at 0 rfl (hdep.1 rfl)) az).aO
     refine RL.aL (i:=1) (f:=(fun x=>x.bP)) zt zr hw zr zr j5 Bw ?_
     exact RL.nil ⟨rfl,o,hv.put 1 zr zr,ha.up zr,zt,hw⟩
    ·rintro D σ w hD hdep hcl ⟨o,hv,ha,_,hw⟩
     obtain⟨τ,rfl⟩:=(ac (hv.at 2 rfl (hdep.1 rfl)) (ac (ha.at 4 rfl) az)).aO
     have hw:=hw.aQ (i:=0) rfl hD
     refine RL.aU (i:=1) (f:=(fun x=>x)) (cg ak) zr hw zr zr Fd.self kc fun a7 hw=>?_
     have hw:=hw.pl 10 [0,2,3,4,5,6,7,8,9] rfl
     have hw:=hw.aT (i:=0) (b:=true) rfl rfl (aI)
     exact RL.nil ⟨rfl,a7,hv.put 3 zr zr,ha.up zr,zt,hw⟩
    ·rintro D σ w hD hdep hcl ⟨o,hv,ha,_,hw⟩
     obtain⟨τ,rfl⟩:=(ac (hv.at 2 rfl (hdep.2.1 rfl)) (ac (hv.at 4 rfl (hdep.1 rfl)) az)).aO
     refine RL.aL (i:=7) (f:=(fun x=>x.bH)) (cg ak) zr hw zr zr ni bV ?_
     exact RL.nil ⟨rfl,o,hv.put 5 zr zr,ha.up zr,zt,hw⟩
    ·rintro D σ w hD hdep hcl ⟨o,hv,ha,_,hw⟩
     obtain⟨τ,rfl⟩:=(ac (hv.at 2 rfl (hdep.2.2.1 rfl)) (ac (hv.at 3 rfl (hdep.1 rfl)) (ac (hv.at 5 rfl (hdep.2.1 rfl)) az))).aO
     have hw:=hw.aS (i:=0) rfl (hdep.1 rfl)
     refine RL.call (cg ak) zr As [o,(vi p1.bH)] zr (aF (gL N (p1:=p1.bH) (i0:=0) hw zr a3) ?_)
     rintro _ w ⟨rfl,hw⟩
     have hw:=hw.aT (i:=0) (b:=D 3) rfl (hdep.1 rfl) (aI)
     exact RL.nil ⟨rfl,o,hv.put 6 zr zr,ha.up zr,zt,hw⟩
    rintro D σ w hall ⟨o,hv,ha,_,hw⟩
    have hw:=hw.aS (i:=0) rfl (hall 3 (by decide))
    obtain⟨τ,rfl⟩:=(ac (hv.at 15 rfl (hall 15 (by decide))) (ac (ha.at 0 rfl) (ac (ha.at 1 rfl) (ac (ha.at 2 rfl) (ac (ha.at 3 rfl) (ac (ha.at 4 rfl) (ac (ha.at 5 rfl) (ac (ha.at 6 rfl) (ac (ha.at 7 rfl) az))))))))).aO
    obtain rfl:=oi hj
    exact⟨rfl,(ag zr),hw.pk 9 [4,5,6,7,8] zr⟩
   obtain⟨au,a8,hj⟩:=bd hj
   obtain⟨a4,a9,hj⟩:=bd hj
   refine RC.sG (E:=E) (Γ:=Γ) mixed rfl [1,0,1,0,1,0,0,1,1,0,0,0,1,0,0,1] [3,9,10,11,13,14] (fun(x:Value×Value×Value×Value×Value)=>(fun o ab ad aa ae=>[(0,21,(vp aq 5)),(1,22,(vb ah.bP)),(2,23,(vb ah.bP)),(3,24,o),(4,25,(vp af 2)),(5,26,(vi p1.bH)),(6,27,(vb ar)),(7,28,(vb ar)),(8,29,(vb ar)),(9,30,ab),(10,31,ad),(11,32,aa),(12,33,(vp af 3)),(13,34,ae),(14,35,(vb a4)),(15,36,(vb a4))]) x.1 x.2.1 x.2.2.1 x.2.2.2.1 x.2.2.2.2) [(0,(vp b0 0)),(3,(vp af 0)),(4,(vp ai 0)),(6,(vi (aj:Int))),(7,(vp aq 0)),(14,v0_2),(15,(vi (p0_2.length:Int))),(16,(vi (aj:Int)))] [] (fun(D:Nat→Bool) (x:Value×Value×Value×Value×Value)=>(fun o ab ad aa ae=>[bif D 0 then (rd o ah) else aI,bif D 1 then (rd ab ah) else aI,bif D 2 then (rd ad au) else aI,bif D 5 then (rd aa ([au]: (List aD))) else (bif D 3 then (own 59 aa ([au]: (List aD))) else aI),bif D 4 then (rd ae p1.At) else aI,bx 47 aq ah,rd a0 ah,pt ay ah,bc 57 b0 [v0_0,v0_1,v0_2,v0_3,v0_4,v0_5,v0_6,v0_7,v0_8,v0_9,v0_10,v0_11],rd v0_2 p0_2,rd v0_5 p0_5,bx 71 af p1,raw 102 ai 2]) x.1 x.2.1 x.2.2.1 x.2.2.2.1 x.2.2.2.2) (fun x=>by kernel_rfl) ?_ ⟨fun _=>fJ gn p9 rfl,?_,fun _=>dX gn rfl,?_,fun _=>fJ (gy ak rfl) tW rfl,?_,?_,fun _=>yK gn ak rfl,fun _=>dX gn rfl,?_,?_,?_,fun _=>fJ (gy al rfl) wi rfl,?_,?_,fun _=>yK gn al rfl,trivial⟩ ?_
   ·have hw:=hw.drew
    have hw:=hw.aI
    have hw:=hw.aI
    have hw:=hw.aI
    have hw:=hw.aI
    have hw:=hw.aI
    exact⟨(undef,undef,undef,undef,undef),doneV.none,(ag zr),zt,hw⟩
   ·rintro D σ w hD hdep hcl ⟨⟨o,ab,ad,aa,ae⟩,hv,ha,_,hw⟩
    obtain⟨τ,rfl⟩:=(ac (hv.at 0 rfl (hdep.1 rfl)) az).aO
    refine RL.aL (i:=5) (f:=(fun x=>x.bP)) zt zr hw zr zr j5 Bw ?_
    exact RL.nil ⟨rfl,(o,ab,ad,aa,ae),hv.put 1 zr zr,ha.up zr,zt,hw⟩
   ·rintro D σ w hD hdep hcl ⟨⟨o,ab,ad,aa,ae⟩,hv,ha,_,hw⟩
    obtain⟨τ,rfl⟩:=(ac (hv.at 2 rfl (hdep.1 rfl)) (ac (ha.at 4 rfl) az)).aO
    have hw:=hw.aQ (i:=0) rfl hD
    refine RL.aU (i:=5) (f:=(fun x=>x)) (cg ak) zr hw zr zr Fd.self kc fun ba hw=>?_
    have hw:=hw.pl 14 [0,2,3,4,5,6,7,8,9,10,11,12,13] rfl
    have hw:=hw.aT (i:=0) (b:=true) rfl rfl (aI)
    exact RL.nil ⟨rfl,(ba,ab,ad,aa,ae),hv.put 3 zr zr,ha.up zr,zt,hw⟩
   ·rintro D σ w hD hdep hcl ⟨⟨o,ab,ad,aa,ae⟩,hv,ha,_,hw⟩
    obtain⟨τ,rfl⟩:=(ac (hv.at 2 rfl (hdep.2.1 rfl)) (ac (hv.at 4 rfl (hdep.1 rfl)) az)).aO
    refine RL.aL (i:=11) (f:=(fun x=>x.bH)) (cg ak) zr hw zr zr ni bV ?_
    exact RL.nil ⟨rfl,(o,ab,ad,aa,ae),hv.put 5 zr zr,ha.up zr,zt,hw⟩
   ·rintro D σ w hD hdep hcl ⟨⟨o,ab,ad,aa,ae⟩,hv,ha,_,hw⟩
    obtain⟨τ,rfl⟩:=(ac (hv.at 2 rfl (hdep.2.2.1 rfl)) (ac (hv.at 3 rfl (hdep.1 rfl)) (ac (hv.at 5 rfl (hdep.2.1 rfl)) az))).aO
    have hw:=hw.aS (i:=0) rfl (hdep.1 rfl)
    refine RL.call (cg ak) zr As [o,(vi p1.bH)] zr (aF (gL N (p1:=p1.bH) (i0:=0) hw zr a3) ?_)
    rintro _ w ⟨rfl,hw⟩
    have hw:=hw.aT (i:=0) (b:=D 3) rfl (hdep.1 rfl) (aI)
    exact RL.nil ⟨rfl,(o,ab,ad,aa,ae),hv.put 6 zr zr,ha.up zr,zt,hw⟩
   ·rintro D σ w hD hdep hcl ⟨⟨o,ab,ad,aa,ae⟩,hv,ha,_,hw⟩
    obtain⟨τ,rfl⟩:=(ac (hv.at 8 rfl (hdep.1 rfl)) (ac (ha.at 4 rfl) az)).aO
    have hw:=hw.aQ (i:=1) rfl hD
    refine RL.aU (i:=5) (f:=(fun x=>x)) (cg al) zr hw zr zr Fd.self kc fun bb hw=>?_
    have hw:=hw.pl 14 [1,0,3,4,5,6,7,8,9,10,11,12,13] rfl
    have hw:=hw.aT (i:=1) (b:=true) rfl rfl (aI)
    exact RL.nil ⟨rfl,(o,bb,ad,aa,ae),hv.put 9 zr zr,ha.up zr,zt,hw⟩
   ·rintro D σ w hD hdep hcl ⟨⟨o,ab,ad,aa,ae⟩,hv,ha,_,hw⟩
    obtain⟨τ,rfl⟩:=(ac (hv.at 8 rfl (hdep.2.1 rfl)) (ac (hv.at 9 rfl (hdep.1 rfl)) az)).aO
    have hw:=hw.aS (i:=1) rfl (hdep.1 rfl)
    have hw:=hw.aQ (i:=2) rfl hD
    refine RL.call (cg al) zr xM [ab] zr (aF (eB N (i0:=1) hw zr a8) ?_)
    rintro bf w hw
    have hw:=hw.pl 14 [1,2,0,4,5,6,7,8,9,10,11,12,13] rfl
    have hw:=hw.aT (i:=1) (b:=D 9) rfl (hdep.1 rfl) (aI)
    have hw:=hw.aT (i:=2) (b:=true) rfl rfl (aI)
    exact RL.nil ⟨rfl,(o,ab,bf,aa,ae),hv.put 10 zr zr,ha.up zr,zt,hw⟩
   ·rintro D σ w hD hdep hcl ⟨⟨o,ab,ad,aa,ae⟩,hv,ha,_,hw⟩
    obtain⟨τ,rfl⟩:=(ac (hv.at 8 rfl (hdep.2.1 rfl)) (ac (hv.at 10 rfl (hdep.1 rfl)) az)).aO
    have hw:=hw.aS (i:=2) rfl (hdep.1 rfl)
    have hw:=hw.aQ (i:=3) rfl (nf (fun h=>ft hD ((hcl 14 _ rfl h).1 rfl)))
    have hw:=hw.aQ (i:=3) rfl hD
    refine RL.dQ (l:=([au]: (List aD))) (cg al) zr hw [ad] zr zr zr iN kA (fun M hs g=>⟨(g.sat 2 _ zr).1,zt⟩) fun a5 w hw=>?_
    have hw:=hw.pl 14 [1,2,3,0,5,6,7,8,9,10,11,12,13] rfl
    have hw:=hw.aT (i:=2) (b:=D 10) rfl (hdep.1 rfl) (aI)
    have hw:=hw.aT (i:=3) (b:=true) rfl rfl (aI)
    have hw:=hw.cJ (i:=3) (b:=D 14) rfl (nf (fun h=>ft hD ((hcl 14 _ rfl h).1 rfl))) (rd a5 ([au]: (List aD)))
    exact RL.nil ⟨rfl,(o,ab,ad,a5,ae),hv.put 11 zr zr,ha.up zr,zt,hw⟩
   ·rintro D σ w hD hdep hcl ⟨⟨o,ab,ad,aa,ae⟩,hv,ha,_,hw⟩
    obtain⟨τ,rfl⟩:=(ac (hv.at 8 rfl (hdep.2.1 rfl)) (ac (hv.at 12 rfl (hdep.1 rfl)) az)).aO
    have hw:=hw.aQ (i:=4) rfl hD
    refine RL.aU (i:=11) (f:=(fun x=>x.At)) (cg al) zr hw zr zr p4 xL fun bg hw=>?_
    have hw:=hw.pl 14 [1,2,3,4,0,6,7,8,9,10,11,12,13] rfl
    have hw:=hw.aT (i:=4) (b:=true) rfl rfl (aI)
    exact RL.nil ⟨rfl,(o,ab,ad,aa,bg),hv.put 13 zr zr,ha.up zr,zt,hw⟩
   ·rintro D σ w hD hdep hcl ⟨⟨o,ab,ad,aa,ae⟩,hv,ha,_,hw⟩
    obtain⟨τ,rfl⟩:=(ac (hv.at 8 rfl (hdep.2.2.2.1 rfl)) (ac (hv.at 11 rfl (hdep.1 rfl)) (ac (hv.at 13 rfl (hdep.2.1 rfl)) az))).aO
    have hw:=hw.aQ (i:=3) rfl hD
    have hw:=hw.aS (i:=3) rfl (hdep.1 rfl)
    have hw:=hw.aS (i:=4) rfl (hdep.2.1 rfl)
    have hw:=hw.freeze (i:=3) rfl
    refine RL.call (cg al) zr Cx [aa,ae] zr (aF (kj N (i0:=3) (i1:=4) hw zr zr a9) ?_)
    rintro _ w ⟨rfl,hw⟩
    have hw:=hw.aT (i:=3) (b:=true) rfl rfl (bif D 11 then (own 59 aa ([au]: (List aD))) else aI)
    have hw:=hw.aT (i:=4) (b:=D 13) rfl (hdep.2.1 rfl) (aI)
    exact RL.nil ⟨rfl,(o,ab,ad,aa,ae),hv.put 14 zr zr,ha.up zr,zt,hw⟩
   rintro D σ w hall ⟨⟨o,ab,ad,aa,ae⟩,hv,ha,_,hw⟩
   have hw:=hw.aS (i:=0) rfl (hall 3 (by decide))
   have hw:=hw.aS (i:=1) rfl (hall 9 (by decide))
   have hw:=hw.aS (i:=2) rfl (hall 10 (by decide))
   have hw:=hw.aS (i:=3) rfl (hall 14 (by decide))
   have hw:=hw.aS (i:=4) rfl (hall 13 (by decide))
   obtain⟨τ,rfl⟩:=(ac (hv.at 15 rfl (hall 15 (by decide))) (ac (ha.at 0 rfl) (ac (ha.at 1 rfl) (ac (ha.at 2 rfl) (ac (ha.at 3 rfl) (ac (ha.at 4 rfl) (ac (ha.at 5 rfl) (ac (ha.at 6 rfl) (ac (ha.at 7 rfl) az))))))))).aO
   obtain rfl:=oi hj
   exact⟨rfl,(ag zr),hw.pk 13 [8,9,10,11,12] zr⟩
  rintro σ w ⟨ha,hw⟩
  obtain⟨τ,rfl⟩:=ha.aO
  refine aG (eI hb zr (fun hc hb=>?_) fun hc hb=>?_)
  rotate_left
  ·refine RC.skip (bI (aG (RC.region (RL.inc zt zr hk hm zr zr (mv (vi ((aj+1:Nat):Int)) zr zr (RL.nil ?_))))))
   obtain rfl:=oi hb
   exact⟨rfl,(ag zr),hw.pk 5 [0,1,2,3,4] zr⟩
  refine RC.sr (mv (vi (aj:Int)) zr zr ?_)
  have hw:=hw.sc (γ:=Bool) true
  have hw:=hw.sc (γ:=Int) (aj:Int)
  refine RL.build (y:=(⟨true,(aj:Int)⟩:fZ)) trivial rfl hw [(0,(vb true)),(1,(vi (aj:Int)))] rfl zc rfl (fun M hs g=>by have h:=yT M;exact cC.cons (f:=fun(x:fZ) y=>{x with bB:=y}) rfl h yS (by decide) (g.sat 1 _ rfl).1 fun _ h=>cC.cons (f:=fun(x:fZ) y=>{x with Number:=y}) rfl h vc (by decide) (g.sat 0 _ rfl).1 fun _ h=>cC.nil h) fun br hw=>(RL.bC (i:=7) (j:=0) trivial hw rfl rfl rfl rfl oV rfl fun w hw=>(aN (vb true) rfl rfl (RL.nt (RC.rb (bK ?_)))))
  obtain rfl:=oi hb
  exact⟨rfl,sZ (i:=7) zr hw zr zr oV zr fun bh hw=>⟨bh,zr,hw.pk 9 [0,4] zr⟩⟩
 ·intro r σ w e hK
  subst e
  refine bK ?_
  obtain rfl:=oi hb
  exact hK
 intro aw σ w e hJ
 subst e
 rw [Fo.eC] at hb
 obtain⟨ha,hw⟩:=hJ
 obtain⟨τ,rfl⟩:=ha.aO
 refine aG (RC.seq (RC.sr (mv (vp b0 0) zr zr (RL.nilCheck zt zr zr (RL.bD zt zr zr oe (RL.bF (i:=0) (v:=v0_5) zt zr hw zr zr zr wj (RL.bA (i:=2) (l:=p0_5) zt zr hw zr zr y9 (mv (vi 0) zr zr ?_))))))))
 refine RL.nt ?_
 obtain⟨bt,hN,hb⟩:=bd hb
 refine RC.range (fun(ao:Nat) (ax:Unit) (σ:Nat→Value) (w:World)=>agree σ [(0,(vp b0 0)),(3,(vp af 0)),(4,(vp ai 0)),(43,v0_5),(44,(vi (p0_5.length:Int))),(45,(vi (ao:Int)))]∧Holds E w ([bc 57 b0 [v0_0,v0_1,v0_2,v0_3,v0_4,v0_5,v0_6,v0_7,v0_8,v0_9,v0_10,v0_11],rd v0_2 p0_2,rd v0_5 p0_5,bx 71 af p1,raw 102 ai 2]++Γ)) (fun(ax:Unit) (σ:Nat→Value) (w:World)=>agree σ [(0,(vp b0 0)),(4,(vp ai 0))]∧Holds E w ([bc 57 b0 [v0_0,v0_1,v0_2,v0_3,v0_4,v0_5,v0_6,v0_7,v0_8,v0_9,v0_10,v0_11],rd v0_2 p0_2,rd v0_5 p0_5,bx 71 af p1,raw 102 ai 2]++Γ)) (jC E Γ b0 v0_0 v0_1 v0_2 v0_3 v0_4 v0_5 v0_6 v0_7 v0_8 v0_9 v0_10 v0_11) hN ?_ ?_ ?_ ?_ ?_
 ·exact⟨(ag zr),hw.pk 5 [0,1,2,3,4] zr⟩
 ·intro hm ax σ w hI
  obtain⟨ha,hw⟩:=hI
  obtain⟨τ,rfl⟩:=ha.aO
  refine RC.sr (ic ((p0_5.length:Int)) ((p0_5.length:Int)) zr zr zr zr (RL.nq (RC.cG k6 (RC.ex ?_))))
  exact⟨rfl,(ag zr),hw.pk 5 [0,1,2,3,4] zr⟩
 ·intro hm ao ax fl σ w hk hI hb
  obtain⟨ha,hw⟩:=hI
  obtain⟨τ,rfl⟩:=ha.aO
  refine RC.sr (ic ((ao:Int)) ((p0_5.length:Int)) zr zr zr zr (RL.nq (RC.cF (kZ hk) (RC.ss (RC.bs (mv (vi (ao:Int)) zr zr ?_))))))
  obtain⟨av,bj,hb⟩:=bd hb
  refine RL.bO (i:=2) zt zr hw zr zr zr Au bj fun bu hw=>(RL.bT (i:=0) (x:=av) zt zr hw zr zr xO fun bw hw=>(RL.alloc zt zr hw Av.z fun bz w hw=>(aN (vi (ao:Int)) zr zr (RL.bC (i:=0) (j:=1) zt hw zr zr zr zr xO zr fun w hw=>(RL.nq ?_)))))
  obtain⟨a2,hj,hb⟩:=bd hb
  refine RC.jn (fun(a2:Bool) (σ:Nat→Value) (w:World)=>agree σ [(0,(vp b0 0)),(3,(vp af 0)),(4,(vp ai 0)),(8,(vi (ao:Int))),(43,v0_5),(44,(vi (p0_5.length:Int))),(45,(vi (ao:Int))),(61,(vb a2))]∧Holds E w ([bc 57 b0 [v0_0,v0_1,v0_2,v0_3,v0_4,v0_5,v0_6,v0_7,v0_8,v0_9,v0_10,v0_11],rd v0_2 p0_2,rd v0_5 p0_5,bx 71 af p1,raw 102 ai 2]++Γ)) a2 ?_ ?_
  ·refine RC.region (RL.bD zt zr zr wk (RL.aL (i:=0) (f:=(fun x=>x.bH)) zt zr hw zr zr iX bV (RL.bD zt zr zr tW (RL.aL (i:=6) (f:=(fun x=>x.bH)) zt zr hw zr zr ni bV (ic (av.bH) (p1.bH) zr zr zr zr (mv (vb (av.bH==p1.bH)) zr zr (fW hj (fun an hj=>?_) fun an hj=>?_)))))))
   rotate_left
   ·refine sk rfl (.inl (cb an)) rfl (sk rfl (.inl (cb an)) rfl (sk rfl (.inl (cb an)) rfl (sk rfl (.inl (cb an)) rfl (sk rfl (.inl (cb an)) rfl (RL.pick (b:=(av.bH==p1.bH)) (v:=(vb false)) trivial rfl rfl (by rw [an];rfl) (RL.nil ?_))))))
    obtain rfl:=oi hj
    exact⟨rfl,(ag zr),hw.pk 8 [3,4,5,6,7] zr⟩
   refine RL.bD (cg an) zr zr wm (RL.aU (i:=0) (f:=(fun x=>x.fL)) (cg an) zr hw zr zr iY sK fun bk hw=>(RL.bD (cg an) zr zr wi (RL.aU (i:=7) (f:=(fun x=>x.At)) (cg an) zr hw zr zr p4 xL fun bl hw=>?_)))
   obtain⟨bm,bn,hj⟩:=bd hj
   refine RL.call (cg an) zr Cx [bk,bl] zr (aF (kj N (i0:=1) (i1:=0) hw zr zr bn) ?_)
   rintro _ w ⟨rfl,hw⟩
   refine RL.pick (b:=(av.bH==p1.bH)) (v:=(vb bm)) trivial rfl rfl (by rw [an];rfl) (RL.nil ?_)
   obtain rfl:=oi hj
   exact⟨rfl,(ag zr),hw.pk 10 [5,6,7,8,9] zr⟩
  rintro σ w ⟨ha,hw⟩
  obtain⟨τ,rfl⟩:=ha.aO
  refine aG (eI hb zr (fun hc hb=>?_) fun hc hb=>?_)
  rotate_left
  ·refine RC.skip (bI (aG (RC.region (RL.inc zt zr hk hm zr zr (mv (vi ((ao+1:Nat):Int)) zr zr (RL.nil ?_))))))
   obtain rfl:=oi hb
   exact⟨rfl,(ag zr),hw.pk 5 [0,1,2,3,4] zr⟩
  refine RC.sr (mv (vi (ao:Int)) zr zr ?_)
  have hw:=hw.sc (γ:=Int) (ao:Int)
  refine RL.build (y:=(⟨false,(ao:Int)⟩:fZ)) trivial rfl hw [(1,(vi (ao:Int)))] rfl zc rfl (fun M hs g=>by have h:=yT M;exact cC.cons (f:=fun(x:fZ) y=>{x with Number:=y}) rfl h vc (by decide) (g.sat 0 _ rfl).1 fun _ h=>cC.nil h) fun b1 hw=>(RL.bC (i:=6) (j:=0) trivial hw rfl rfl rfl rfl oV rfl fun w hw=>(aN (vb true) rfl rfl (RL.nt (RC.rb (bK ?_)))))
  obtain rfl:=oi hb
  exact⟨rfl,sZ (i:=6) zr hw zr zr oV zr fun bo hw=>⟨bo,zr,hw.pk 8 [0,3] zr⟩⟩
 ·intro r σ w e hK
  subst e
  refine bK ?_
  obtain rfl:=oi hb
  exact hK
 intro ax σ w e hJ
 subst e
 rw [Fo.eC] at hb
 obtain⟨ha,hw⟩:=hJ
 obtain⟨τ,rfl⟩:=ha.aO
 refine aG (RC.sr (RL.build (y:=(⟨false,0⟩:fZ)) trivial rfl hw [] rfl zc rfl (fun M hs g=>by have h:=yT M;exact cC.nil h) fun b2 hw=>(RL.bC (i:=5) (j:=0) trivial hw rfl rfl rfl rfl oV rfl fun w hw=>(aN (vb false) rfl rfl (RL.nt (RC.ret ?_))))))
 obtain rfl:=oi hb
 exact sZ (i:=5) zr hw zr zr oV zr fun bp hw=>⟨bp,zr,hw.pk 7 [0,2] zr⟩
def kD (E:World) (Γ:List HP) (b0:Nat) (v0_0:Value) (v0_1:Value) (v0_2:Value) (v0_3:Value) (v0_4:Value) (v0_5:Value) (v0_6:Value) (v0_7:Value) (v0_8:Value) (v0_9:Value) (v0_10:Value) (v0_11:Value) (res:Int) (v:Value) (w:World):Prop:=v= (vi res)∧Holds E w ([bc 57 b0 [v0_0,v0_1,v0_2,v0_3,v0_4,v0_5,v0_6,v0_7,v0_8,v0_9,v0_10,v0_11]]++Γ)
theorem kl (N:Nat) {E w:World} {Γ:List HP} {b0:Nat} {v0_0:Value} {v0_1:Value} {v0_2:Value} {v0_3:Value} {v0_4:Value} {v0_5:Value} {v0_6:Value} {v0_7:Value} {v0_8:Value} {p0_8: (List Int)} {v0_9:Value} {p0_9: (List Int)} {v0_10:Value} {v0_11:Value} {i1:Nat} {v1:Value} {p1:fZ} {res:Int} (hw:Holds E w (bc 57 b0 [v0_0,v0_1,v0_2,v0_3,v0_4,v0_5,v0_6,v0_7,v0_8,v0_9,v0_10,v0_11]::rd v0_8 p0_8::rd v0_9 p0_9::Γ)) (h1:Γ[i1]? =some (rd v1 p1)) (hb:dK N p0_8 p0_9 p1=some res):
    Calls Tryz.prog 45 [(vp b0 0),v1].toArray w (fu (kD E Γ b0 v0_0 v0_1 v0_2 v0_3 v0_4 v0_5 v0_6 v0_7 v0_8 v0_9 v0_10 v0_11 res)):=by
 unfold dK at hb
 refine enter Tryz.func45 zr zr (Nat.le_of_ble_eq_true zr) ?_
 have hw:=hw.dup (i:=i1+3) h1
 refine RC.sr (RL.dP (i:=0) (v:=v1) zt zr hw zr zr fun ad w hw=>(aN (vi 0) zr zr (RL.nq (RC.sr (RL.bD zt zr zr Aw (RL.aL (i:=0) (f:=(fun x=>x.bB)) zt zr hw zr zr yR Bw (RL.nt (eI hb zr (fun hc hb=>?_) fun hc hb=>?_))))))))
 ·refine RC.seq (RC.uA mixed rfl (by kernel_rfl) ?_)
  have hw:=hw.drew
  refine RO.go (mv (vp b0 0) zr zr (RO.nx (RL.nilCheck zt zr zr (RO.nx (RL.bD zt zr zr tX (RO.nx (RL.bF (i:=2) (v:=v0_9) zt zr hw zr zr zr cT (RO.nx ?_))))))))
  refine RL.bD zt zr zr w3 (RO.nx (RL.aL (i:=0) (f:=(fun x=>x.Number)) zt zr hw zr zr va bV (RO.nx ?_)))
  obtain⟨j,aa,hb⟩:=bd hb
  refine RL.bO (i:=4) zt zr hw zr zr zr dB aa fun ae hw=>(RO.nx (RL.aY (i:=0) (y:=j) zt zr hw zr zr bV (RO.nx (aN (vi j) zr zr (RO.last (aG (RC.rt ?_)))))))
  obtain rfl:=oi hb
  exact bQ zr zr ⟨rfl,hw.pk 6 [3] zr⟩
 refine RC.ss (RC.uA mixed rfl (by kernel_rfl) ?_)
 have hw:=hw.drew
 refine RO.go (mv (vp b0 0) zr zr (RO.nx (RL.nilCheck zt zr zr (RO.nx (RL.bD zt zr zr wq (RO.nx (RL.bF (i:=2) (v:=v0_8) zt zr hw zr zr zr cT (RO.nx ?_))))))))
 refine RL.bD zt zr zr w3 (RO.nx (RL.aL (i:=0) (f:=(fun x=>x.Number)) zt zr hw zr zr va bV (RO.nx ?_)))
 obtain⟨o,ab,hb⟩:=bd hb
 refine RL.bO (i:=3) zt zr hw zr zr zr dB ab fun af hw=>(RO.nx (RL.aY (i:=0) (y:=o) zt zr hw zr zr bV (RO.nx (aN (vi o) zr zr (RO.last (aG (RC.ret ?_)))))))
 obtain rfl:=oi hb
 exact bQ zr zr ⟨rfl,hw.pk 6 [3] zr⟩
end Go.Gk
