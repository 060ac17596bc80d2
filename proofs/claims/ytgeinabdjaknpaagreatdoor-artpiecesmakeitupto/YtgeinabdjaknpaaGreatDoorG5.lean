/-
  Printed texts: Go functions as plain functions, and that they are. No statement of the seed is proved here.
-/
import Derived.Test.YtgeinabdjaknpaaGreatDoorG1
import Derived.Test.YtgeinabdjaknpaaGreatDoorG2
import Derived.Test.YtgeinabdjaknpaaGreatDoorG3
import Derived.Test.YtgeinabdjaknpaaGreatDoorG4
import Derived.Test.YtgeinabdjaknpaaGreatDoorA2
set_option linter.unusedVariables false
set_option linter.unusedSimpArgs false
set_option linter.unusedSectionVars false
set_option maxRecDepth 100000
set_option maxHeartbeats 4000000
namespace Go.Gk
open Go Go.Proofs
def na (E:World) (Γ:List HP) (b0:Nat) (res: (List (List Int))×(List Int)) (v:Value) (w:World):Prop:=∃u0 u0_0:Value,v=u0∧Holds E w ([own 53 u0 res.1,bc 133 b0 [u0_0],own 3 u0_0 res.2]++Γ)
theorem mG (N:Nat) {E w:World} {Γ:List HP} {b0:Nat} {v0_0:Value} {p0_0: (List Int)} {res: (List (List Int))×(List Int)} (hw:Holds E w (bc 133 b0 [v0_0]::own 3 v0_0 p0_0::Γ)) (hb:fg N p0_0=some res):
    Calls Tryz.prog 55 [(vp b0 0)].toArray w (fw (na E Γ b0 res)):=by
 unfold fg at hb
 refine enter Tryz.func55 zr zr (Nat.le_of_ble_eq_true zr) (RC.sr (aM (.slice none 0 0) zr zr (RL.ns (aM (.slice none 0 0) zr zr (RL.ns (RL.makeMap (κ:=Int) (ν:=Int) zt zr hw fun aj w hw=>(aM aj zr zr (RL.nq ?_))))))))
 refine RC.sr (mv (vp b0 0) zr zr (RL.nilCheck zt zr zr (RL.bF zt zr zr kd (RL.bE (i:=1) (v:=v0_0) zt zr hw zr zr zr dL (RL.dC (i:=2) (l:=p0_0) zt zr hw zr zr jH (mv (vi 0) zr zr (RL.nt ?_)))))))
 obtain⟨ai,hN,hb⟩:=bd hb
 refine RC.fold (fun(ae:Nat) (ai: (List Int)×(List (List Int))×(List (Int×Int))) (σ:Nat→Value) (w:World)=>∃(aw:Value) (ax:Value) (us110:List RV),agree σ [(0,(vp b0 0)),(3,ax),(4,aj),(12,(vi (p0_0.length:Int))),(13,(vi (ae:Int)))]∧Holds E w ([bc 133 b0 [aw],own 3 aw ai.1,mp aj ai.2.2,own 53 ax us110,eX (XS 3 Int) us110 ai.2.1 none]++Γ)) (fun(ai: (List Int)×(List (List Int))×(List (Int×Int))) (σ:Nat→Value) (w:World)=>∃(ao:Value) (al:Value) (us113:List RV),agree σ [(0,(vp b0 0)),(3,al)]∧Holds E w ([bc 133 b0 [ao],own 3 ao ai.1,mp aj ai.2.2,own 53 al us113,eX (XS 3 Int) us113 ai.2.1 none]++Γ)) hN ?_ ?_ ?_ ?_
 ·have hw:=hw.uu (XS 3 Int)
  have hw:=hw.bV RV 53
  exact⟨v0_0,(.slice none 0 0),([]:List RV),(ag zr),hw.pk 5 [3,4,2,0,1] zr⟩
 ·intro hm ai σ w hI
  obtain⟨a1,a2,us153,ha,hw⟩:=hI
  obtain⟨τ,rfl⟩:=ha.aO
  refine RC.sr (ic ((p0_0.length:Int)) ((p0_0.length:Int)) zr zr zr zr (RL.nq (RC.cH lZ (RC.ex ?_))))
  exact⟨rfl,a1,a2,us153,(ag zr),hw.pk 5 [0,1,2,3,4] zr⟩
 ·intro hm ae ai s' σ w hk hI hb
  obtain⟨a6,ar,us116,ha,hw⟩:=hI
  obtain⟨τ,rfl⟩:=ha.aO
  refine RC.sr (ic ((ae:Int)) ((p0_0.length:Int)) zr zr zr zr (RL.nq (RC.cG (lY hk) (RC.ss (RC.bs (mv (vi (ae:Int)) zr zr (aM (vi (ae:Int)) zr zr (RL.ns ?_))))))))
  refine mv (vp b0 0) zr zr (mv (vi (ae:Int)) zr zr ?_)
  have hw:=hw.pull (i:=1) rfl
  have hw:=hw.pull (i:=1) rfl
  obtain⟨ab,a3,hb⟩:=bd hb
  refine RL.call zt zr Cj [(vp b0 0),(vi (ae:Int))] zr (aF (hG N (p1:=(ae:Int)) hw a3) ?_)
  rintro _ w ⟨an,rfl,hw⟩
  refine aM (vi ab.1) zr zr (RL.nq (RC.sr (mv (vi ab.1) zr zr (mv (vi (ae:Int)) zr zr (ic (ab.1) ((ae:Int)) zr zr zr zr (RL.nt ?_))))))
  obtain⟨aa,hj,hb⟩:=bd hb
  refine RC.jn (fun(aa: (List (List Int))×(List (Int×Int))) (σ:Nat→Value) (w:World)=>∃(ah:Value) (us124:List RV),agree σ [(0,(vp b0 0)),(3,ah),(4,aj),(5,(vi (ae:Int))),(6,(vi ab.1)),(12,(vi (p0_0.length:Int))),(13,(vi (ae:Int)))]∧Holds E w ([bc 133 b0 [an],own 3 an ab.2,mp aj aa.2,own 53 ah us124,eX (XS 3 Int) us124 aa.1 none]++Γ)) aa ?_ ?_
  ·refine eI hj zr (fun hc hj=>?_) fun hc hj=>?_
   rotate_left
   ·refine RC.skip ?_
    obtain rfl:=oi hj
    exact⟨rfl,ar,us116,(ag zr),hw.pk 7 [0,1,4,5,6] zr⟩
   refine RC.sr (mv aj zr zr (mv (vi (ae:Int)) zr zr (mv ar zr zr (RL.mM (i:=5) (b:=6) (xs:=ai.2.1) zt zr hw zr zr zr Ci ?_))))
   have hw:=hw.sc (γ:=Int) (ai.2.1.length:Int)
   refine RL.mapUpdate (i:=5) (j:=0) (k:=(ae:Int)) zt hw zr zr zr zr zr v7 fun w hw=>(RL.nt (RC.region (mv ar zr zr ?_)))
   have hw:=hw.bV Int 3
   have hw:=hw.xL (i:=0) rfl
   refine RL.dY (l:=([rv (.slice none 0 0)]:List RV)) zt zr hw [(.slice none 0 0)] zr zr zr yG Dj (fun M hs g=>⟨(g.sat 0 _ zr).1,zt⟩) fun a7 w hw=>?_
   obtain⟨a8,a4,hj⟩:=bd hj
   have hw:=hw.freeze (i:=0) rfl
   refine RL.vK (i:=9) (j:=0) (b:=10) (o:=2) trivial rfl hw rfl rfl rfl rfl rfl rfl (by decide) (by decide) (by decide) Dk a4 fun ay w hw=>(aM ay rfl rfl (RL.nil ?_))
   obtain rfl:=oi hj
   exact⟨rfl,ay,(us116++[rv (.slice none 0 0)]),(ag zr),hw.pk 11 [4,5,8,9,10] zr⟩
  rintro σ w ⟨ah,us124,ha,hw⟩
  obtain⟨τ,rfl⟩:=ha.aO
  refine aG ?_
  obtain⟨a9,aq,hb⟩:=bd hb
  obtain⟨ak,a5,hb⟩:=bd hb
  obtain⟨ba,au,hb⟩:=bd hb
  refine RC.tw (E:=E) (Γ:=Γ) mixed rfl [1,1,1,0,1,1,1,0,0,0,1,0,0,0,0] [11,12,14] (fun(x:Value×Value)=>(fun af ad=>[(0,29,ah),(1,30,aj),(2,31,(vi ab.1)),(3,32,(vi (mget aa.2 ab.1 (0:Int)))),(4,33,ah),(5,34,aj),(6,35,(vi ab.1)),(7,36,(vi (mget aa.2 ab.1 (0:Int)))),(8,37,(elA ah (Int.toNat (mget aa.2 ab.1 (0:Int))) 1 0)),(9,38,(us124.getD (Int.toNat (mget aa.2 ab.1 (0:Int))) vl).v),(10,39,(vi (ae:Int))),(11,40,af),(12,41,ad),(13,42,(elA ah (Int.toNat (mget aa.2 ab.1 (0:Int))) 1 0))]) x.1 x.2) [(0,(vp b0 0)),(3,ah),(4,aj),(5,(vi (ae:Int))),(6,(vi ab.1)),(12,(vi (p0_0.length:Int))),(13,(vi (ae:Int)))] [] (fun(D:Nat→Bool) (x:Value×Value)=>(fun af ad=>[bif D 1 then (rd af ([(ae:Int)]: (List Int))) else (bif D 0 then (own 3 af ([(ae:Int)]: (List Int))) else aK),bif D 2 then (aK) else (bif D 1 then (own 3 ad ak) else aK),bc 133 b0 [an],own 3 an ab.2,mp aj aa.2,bif D 2 then (own 53 ah (us124.set (Int.toNat (mget aa.2 ab.1 (0:Int))) (rv ad))) else (own 53 ah us124),bif D 2 then (eX (XS 3 Int) (us124.set (Int.toNat (mget aa.2 ab.1 (0:Int))) (rv ad)) (aa.1.set (Int.toNat (mget aa.2 ab.1 (0:Int))) ak) none) else (bif D 1 then (eX (XS 3 Int) us124 aa.1 (some (Int.toNat (mget aa.2 ab.1 (0:Int))))) else (eX (XS 3 Int) us124 aa.1 none))]) x.1 x.2) (fun x=>by kernel_rfl) ?_ ⟨fun _=>eA gn rfl,fun _=>eA gn rfl,fun _=>eA gn rfl,?_,fun _=>eA gn rfl,fun _=>eA gn rfl,fun _=>eA gn rfl,?_,?_,?_,fun _=>eA gn rfl,?_,?_,?_,?_,trivial⟩ ?_
  ·have hw:=hw.drew
   have hw:=hw.aK
   have hw:=hw.aK
   exact⟨(undef,undef),doneV.none,(ag zr),zt,hw⟩
  ·rintro D σ w hD hdep hcl ⟨⟨af,ad⟩,hv,ha,_,hw⟩
   obtain⟨τ,rfl⟩:=(ac (hv.at 1 rfl (hdep.1 rfl)) (ac (hv.at 2 rfl (hdep.2.1 rfl)) az)).aO
   refine RL.vD (i:=4) (k:=ab.1) zt zr hw zr zr zr v7 ?_
   exact RL.nil ⟨rfl,(af,ad),hv.put 3 zr zr,ha.up zr,zt,hw⟩
  ·rintro D σ w hD hdep hcl ⟨⟨af,ad⟩,hv,ha,_,hw⟩
   obtain⟨τ,rfl⟩:=(ac (hv.at 5 rfl (hdep.1 rfl)) (ac (hv.at 6 rfl (hdep.2.1 rfl)) az)).aO
   refine RL.vD (i:=4) (k:=ab.1) zt zr hw zr zr zr v7 ?_
   exact RL.nil ⟨rfl,(af,ad),hv.put 7 zr zr,ha.up zr,zt,hw⟩
  ·rintro D σ w hD hdep hcl ⟨⟨af,ad⟩,hv,ha,_,hw⟩
   obtain⟨τ,rfl⟩:=(ac (hv.at 4 rfl (hdep.1 rfl)) (ac (hv.at 7 rfl (hdep.2.1 rfl)) az)).aO
   have hw:=hw.aP (i:=5) rfl (nf (fun h=>ft hD ((hcl 14 _ rfl h).2.2.2.2.2.2.2.2.2.2.2.1 rfl)))
   have hw:=hw.aP (i:=6) rfl (nf (fun h=>ft hD ((hcl 14 _ rfl h).2.2.2.2.2.2.2.2.2.2.2.1 rfl)))
   have hw:=hw.aP (i:=6) rfl (nf (fun h=>ft hD ((hcl 9 _ rfl ((hcl 12 _ rfl h).1 rfl)).1 rfl)))
   have hl141:=hw.eE (j:=6) rfl
   have hr142:=gp vl hl141 aq
   refine RL.bB (i:=5) zt zr hw zr zr zr yG hr142 ?_
   have hw:=hw.cK (i:=5) (b:=D 14) rfl (nf (fun h=>ft hD ((hcl 14 _ rfl h).2.2.2.2.2.2.2.2.2.2.2.1 rfl))) (own 53 ah (us124.set (Int.toNat (mget aa.2 ab.1 (0:Int))) (rv ad)))
   have hw:=hw.cK (i:=6) (b:=D 12) rfl (nf (fun h=>ft hD ((hcl 9 _ rfl ((hcl 12 _ rfl h).1 rfl)).1 rfl))) (eX (XS 3 Int) us124 aa.1 (some (Int.toNat (mget aa.2 ab.1 (0:Int)))))
   have hw:=hw.cK (i:=6) (b:=D 14) rfl (nf (fun h=>ft hD ((hcl 14 _ rfl h).2.2.2.2.2.2.2.2.2.2.2.1 rfl))) (eX (XS 3 Int) (us124.set (Int.toNat (mget aa.2 ab.1 (0:Int))) (rv ad)) (aa.1.set (Int.toNat (mget aa.2 ab.1 (0:Int))) ak) none)
   exact RL.nil ⟨rfl,(af,ad),hv.put 8 zr zr,ha.up zr,zt,hw⟩
  ·rintro D σ w hD hdep hcl ⟨⟨af,ad⟩,hv,ha,_,hw⟩
   obtain⟨τ,rfl⟩:=(ac (hv.at 8 rfl (hdep.1 rfl)) az).aO
   have hw:=hw.aP (i:=5) rfl (nf (fun h=>ft hD ((hcl 14 _ rfl h).2.2.2.2.2.2.2.2.2.2.2.2.1 rfl)))
   have hw:=hw.aP (i:=6) rfl (nf (fun h=>ft hD ((hcl 14 _ rfl h).2.2.2.2.2.2.2.2.2.2.2.2.1 rfl)))
   have hw:=hw.aP (i:=6) rfl (nf (fun h=>ft hD ((hcl 12 _ rfl h).1 rfl)))
   have hl143:=hw.eE (j:=6) rfl
   have hr144:=gp vl hl143 aq
   refine RL.qm (i:=5) (b:=6) (jj:=(mget aa.2 ab.1 (0:Int))) (tR 3 Int) vl zt zr hw zr (gS hw (i:=5) zr hr144 0) zr zr aq dL ?_
   have hw:=hw.cK (i:=5) (b:=D 14) rfl (nf (fun h=>ft hD ((hcl 14 _ rfl h).2.2.2.2.2.2.2.2.2.2.2.2.1 rfl))) (own 53 ah (us124.set (Int.toNat (mget aa.2 ab.1 (0:Int))) (rv ad)))
   have hw:=hw.cK (i:=6) (b:=D 12) rfl (nf (fun h=>ft hD ((hcl 12 _ rfl h).1 rfl))) (eX (XS 3 Int) us124 aa.1 (some (Int.toNat (mget aa.2 ab.1 (0:Int)))))
   have hw:=hw.cK (i:=6) (b:=D 14) rfl (nf (fun h=>ft hD ((hcl 14 _ rfl h).2.2.2.2.2.2.2.2.2.2.2.2.1 rfl))) (eX (XS 3 Int) (us124.set (Int.toNat (mget aa.2 ab.1 (0:Int))) (rv ad)) (aa.1.set (Int.toNat (mget aa.2 ab.1 (0:Int))) ak) none)
   exact RL.nil ⟨rfl,(af,ad),hv.put 9 zr zr,ha.up zr,zt,hw⟩
  ·rintro D σ w hD hdep hcl ⟨⟨af,ad⟩,hv,ha,_,hw⟩
   obtain⟨τ,rfl⟩:=(ac (hv.at 10 rfl (hdep.1 rfl)) az).aO
   have hw:=hw.aP (i:=0) rfl (nf (fun h=>ft hD ((hcl 12 _ rfl h).2.1 rfl)))
   have hw:=hw.aP (i:=0) rfl hD
   have hw:=hw.sc (γ:=Int) (ae:Int)
   refine RL.dY (l:=([(ae:Int)]: (List Int))) zt zr hw [(vi (ae:Int))] zr zr zr dM AW (fun M hs g=>⟨(g.sat 0 _ zr).1,zt⟩) fun a0 w hw=>?_
   have hw:=hw.pl 9 [0,3,4,5,6,7,8] rfl
   have hw:=hw.aS (i:=0) (b:=true) rfl rfl (aK)
   have hw:=hw.cK (i:=0) (b:=D 12) rfl (nf (fun h=>ft hD ((hcl 12 _ rfl h).2.1 rfl))) (rd a0 ([(ae:Int)]: (List Int)))
   exact RL.nil ⟨rfl,(a0,ad),hv.put 11 zr zr,ha.up zr,zt,hw⟩
  ·rintro D σ w hD hdep hcl ⟨⟨af,ad⟩,hv,ha,_,hw⟩
   obtain⟨τ,rfl⟩:=(ac (hv.at 9 rfl (hdep.1 rfl)) (ac (hv.at 11 rfl (hdep.2.1 rfl)) az)).aO
   have hw:=hw.aP (i:=0) rfl hD
   have hw:=hw.aR (i:=0) rfl (hdep.2.1 rfl)
   have hw:=hw.aP (i:=1) rfl (nf (fun h=>ft hD ((hcl 14 _ rfl h).2.1 rfl)))
   have hw:=hw.aP (i:=1) rfl hD
   have hw:=hw.aP (i:=5) rfl (nf (fun h=>ft hD ((hcl 14 _ rfl h).2.1 rfl)))
   have hw:=hw.aP (i:=6) rfl (nf (fun h=>ft hD ((hcl 14 _ rfl h).2.1 rfl)))
   have hw:=hw.aP (i:=6) rfl hD
   have hw:=hw.uv (j:=6) (jj:=(mget aa.2 ab.1 (0:Int))) (tR 3 Int) vl rfl aq
   have hw:=hw.freeze (i:=1) rfl
   refine RL.app (i:=0) (j:=1) zt zr hw zr zr zr zr qx a5 fun av w hw=>?_
   have hw:=hw.pl 8 [1,0,3,4,5,6,7] rfl
   have hw:=hw.aS (i:=0) (b:=true) rfl rfl (bif D 11 then (own 3 af ([(ae:Int)]: (List Int))) else aK)
   have hw:=hw.aS (i:=1) (b:=true) rfl rfl (aK)
   have hw:=hw.cK (i:=1) (b:=D 14) rfl (nf (fun h=>ft hD ((hcl 14 _ rfl h).2.1 rfl))) (aK)
   have hw:=hw.cK (i:=5) (b:=D 14) rfl (nf (fun h=>ft hD ((hcl 14 _ rfl h).2.1 rfl))) (own 53 ah (us124.set (Int.toNat (mget aa.2 ab.1 (0:Int))) (rv av)))
   have hw:=hw.aS (i:=6) (b:=true) rfl rfl (eX (XS 3 Int) us124 aa.1 none)
   have hw:=hw.cK (i:=6) (b:=D 14) rfl (nf (fun h=>ft hD ((hcl 14 _ rfl h).2.1 rfl))) (eX (XS 3 Int) (us124.set (Int.toNat (mget aa.2 ab.1 (0:Int))) (rv av)) (aa.1.set (Int.toNat (mget aa.2 ab.1 (0:Int))) ak) none)
   exact RL.nil ⟨rfl,(af,av),hv.put 12 zr zr,ha.up zr,zt,hw⟩
  ·rintro D σ w hD hdep hcl ⟨⟨af,ad⟩,hv,ha,_,hw⟩
   obtain⟨τ,rfl⟩:=(ac (hv.at 0 rfl (hdep.1 rfl)) (ac (hv.at 3 rfl (hdep.2.1 rfl)) az)).aO
   have hw:=hw.aP (i:=5) rfl (nf (fun h=>ft hD ((hcl 14 _ rfl h).1 rfl)))
   have hw:=hw.aP (i:=6) rfl (nf (fun h=>ft hD ((hcl 14 _ rfl h).1 rfl)))
   have hw:=hw.aR (i:=6) rfl (hdep.2.2.2.2.2.2.2.2.2.2.2.2.2.2.1 rfl)
   have hl147:=hw.eE (j:=6) rfl
   have hr148:=gp vl hl147 au
   refine RL.bB (i:=5) zt zr hw zr zr zr yG hr148 ?_
   have hw:=hw.cK (i:=5) (b:=D 14) rfl (nf (fun h=>ft hD ((hcl 14 _ rfl h).1 rfl))) (own 53 ah (us124.set (Int.toNat (mget aa.2 ab.1 (0:Int))) (rv ad)))
   have hw:=hw.aS (i:=6) (b:=D 12) rfl (hdep.2.2.2.2.2.2.2.2.2.2.2.2.2.2.1 rfl) (eX (XS 3 Int) us124 aa.1 none)
   have hw:=hw.cK (i:=6) (b:=D 14) rfl (nf (fun h=>ft hD ((hcl 14 _ rfl h).1 rfl))) (eX (XS 3 Int) (us124.set (Int.toNat (mget aa.2 ab.1 (0:Int))) (rv ad)) (aa.1.set (Int.toNat (mget aa.2 ab.1 (0:Int))) ak) none)
   exact RL.nil ⟨rfl,(af,ad),hv.put 13 zr zr,ha.up zr,zt,hw⟩
  ·rintro D σ w hD hdep hcl ⟨⟨af,ad⟩,hv,ha,_,hw⟩
   obtain⟨τ,rfl⟩:=(ac (hv.at 12 rfl (hdep.2.1 rfl)) (ac (hv.at 13 rfl (hdep.1 rfl)) az)).aO
   have hw:=hw.aP (i:=1) rfl hD
   have hw:=hw.aR (i:=1) rfl (hdep.2.1 rfl)
   have hw:=hw.aP (i:=5) rfl hD
   have hw:=hw.aP (i:=6) rfl hD
   have hw:=hw.aR (i:=6) rfl (hdep.2.1 rfl)
   have hl149:=hw.eE (j:=6) rfl
   have hr150:=gp vl hl149 au
   refine RL.oA (i:=5) (b:=6) (o:=1) (jj:=(mget aa.2 ab.1 (0:Int))) (tR 3 Int) vl trivial hw rfl rfl (gS hw (i:=5) rfl hr150 0) rfl rfl (.inr rfl) rfl au (by decide) (by decide) (by decide) dL fun w hw=>?_
   have hw:=hw.aS (i:=1) (b:=true) rfl rfl (bif D 12 then (own 3 ad ak) else aK)
   have hw:=hw.aS (i:=5) (b:=true) rfl rfl (own 53 ah us124)
   have hw:=hw.aS (i:=6) (b:=true) rfl rfl (bif D 12 then (eX (XS 3 Int) us124 aa.1 (some (Int.toNat (mget aa.2 ab.1 (0:Int))))) else (eX (XS 3 Int) us124 aa.1 none))
   exact RL.nil ⟨rfl,(af,ad),hv.no zr,ha,zt,hw⟩
  rintro D σ w hall ⟨⟨af,ad⟩,hv,ha,_,hw⟩
  have hw:=hw.aR (i:=0) rfl (hall 12 (by decide))
  have hw:=hw.aR (i:=1) rfl (hall 14 (by decide))
  have hw:=hw.aR (i:=5) rfl (hall 14 (by decide))
  have hw:=hw.aR (i:=6) rfl (hall 14 (by decide))
  obtain⟨τ,rfl⟩:=(ac (ha.at 0 rfl) (ac (ha.at 1 rfl) (ac (ha.at 2 rfl) (ac (ha.at 3 rfl) (ac (ha.at 4 rfl) (ac (ha.at 5 rfl) (ac (ha.at 6 rfl) az))))))).aO
  refine bJ (aG (RC.region (RL.inc zt zr hk hm zr zr (mv (vi ((ae+1:Nat):Int)) zr zr (RL.nil ?_)))))
  obtain rfl:=oi hb
  exact⟨rfl,an,ah,(us124.set (Int.toNat (mget aa.2 ab.1 (0:Int))) (rv ad)),(ag zr),hw.pk 7 [2,3,4,5,6] zr⟩
 intro σ w hJ
 obtain⟨ao,al,us113,ha,hw⟩:=hJ
 obtain⟨τ,rfl⟩:=ha.aO
 refine aG (RC.sr (mv al zr zr (aM al zr zr (RL.nt (RC.ret ?_)))))
 obtain rfl:=oi hb
 have hw:=hw.uw (X:=(XS 3 Int)) (b:=4) (j:=3) rfl (fun M h u x cs=>(BF 3) M h u x cs) rfl rfl (by decide)
 exact bQ zr zr ⟨al,ao,zr,hw.pk 5 [3,0,1] zr⟩
def nb (E:World) (Γ:List HP) (res:Bool) (v:Value) (w:World):Prop:=v= (vb res)∧Holds E w Γ
theorem mH (N:Nat) {E w:World} {Γ:List HP} {i0:Nat} {v0:Value} {p0:aC} {i1:Nat} {v1:Value} {p1:bU} {res:Bool} (hw:Holds E w Γ) (h0:Γ[i0]? =some (rd v0 p0)) (h1:Γ[i1]? =some (pt v1 p1)) (hb:gr N p0 p1=some res):
    Calls Tryz.prog 102 [v0,v1].toArray w (fw (nb E Γ res)):=by
 unfold gr at hb
 refine enter Tryz.func102 zr zr (Nat.le_of_ble_eq_true zr) ?_
 have hw:=hw.dup (i:=i0+0) h0
 have hw:=hw.um (i:=i1+1) h1
 refine RC.sr (RL.dN (i:=1) (v:=v0) zt zr hw zr zr fun ad w hw=>(aM (vb false) zr zr (RL.nq ?_)))
 obtain⟨ab,hj,hb⟩:=bd hb
 refine RC.jn (fun(ab:Bool) (σ:Nat→Value) (w:World)=>agree σ [(3,(vb ab))]∧Holds E w ([]++Γ)) ab ?_ ?_
 ·refine RC.region (RL.gR (i:=1) (f:=fun(x:bU)=>x.X) zt zr hw zr zr uK l7 fun ae hw=>(RL.bA (i:=0) (y:=p1.X) zt zr hw zr zr bX (RL.bF zt zr zr f0 (RL.aL (i:=1) (f:=(fun x=>x.X0)) zt zr hw zr zr cU bX (ic (p1.X) (p0.X0) zr zr zr zr (mv (vb (decide (p1.X≥p0.X0))) zr zr (fH hj (fun j hj=>?_) fun j hj=>?_)))))))
  rotate_left
  ·refine sk rfl (.inl (cb j)) rfl (sk rfl (.inl (cb j)) rfl (sk rfl (.inl (cb j)) rfl (sk rfl (.inl (cb j)) rfl (sk rfl (.inl (cb j)) rfl (RL.pick (b:=(decide (p1.X≥p0.X0))) (v:=(vb false)) trivial rfl rfl (by rw [j];rfl) (mv (vb false) rfl rfl (sk rfl (.inl rfl) rfl (sk rfl (.inl rfl) rfl ?_))))))))
   refine sk zr (.inl zr) zr (sk zr (.inl zr) zr (sk zr (.inl zr) zr (RL.pick (b:=false) (v:=(vb false)) zt zr zr zr (mv (vb false) zr zr (sk zr (.inl zr) zr (sk zr (.inl zr) zr (sk zr (.inl zr) zr (sk zr (.inl zr) zr ?_))))))))
   refine sk zr (.inl zr) zr (RL.pick (b:=false) (v:=(vb false)) zt zr zr zr (aM (vb false) zr zr (RL.nil ?_)))
   obtain rfl:=oi hj
   exact⟨rfl,⟨rfl,zt⟩,hw.pk 4 [] zr⟩
  refine RL.gR (i:=2) (f:=fun(x:bU)=>x.X) (cg j) rfl hw rfl rfl uK l7 fun af hw=>(RL.bA (i:=0) (y:=p1.X) (cg j) rfl hw rfl rfl bX (RL.bF (cg j) rfl rfl gN (RL.aL (i:=2) (f:=(fun x=>x.X1)) (cg j) rfl hw rfl rfl dK bX (RL.iO (a:=p1.X) (b:=p0.X1) (cg j) rfl rfl rfl rfl (RL.pick (b:=(decide (p1.X≥p0.X0))) (v:=(vb (decide (p1.X<p0.X1)))) trivial rfl rfl (by rw [j];rfl) (mv (vb (decide (p1.X<p0.X1))) rfl rfl (fH hj (fun o hj=>?_) fun o hj=>?_)))))))
  rotate_left
  ·refine sk rfl (.inl (cb o)) rfl (sk rfl (.inl (cb o)) rfl (sk rfl (.inl (cb o)) rfl (sk rfl (.inl (cb o)) rfl (sk rfl (.inl (cb o)) rfl (RL.pick (b:=(decide (p1.X<p0.X1))) (v:=(vb false)) trivial rfl rfl (by rw [o];rfl) (mv (vb false) rfl rfl (sk rfl (.inl rfl) rfl (sk rfl (.inl rfl) rfl ?_))))))))
   refine sk zr (.inl zr) zr (sk zr (.inl zr) zr (sk zr (.inl zr) zr (RL.pick (b:=false) (v:=(vb false)) zt zr zr zr (aM (vb false) zr zr (RL.nil ?_)))))
   obtain rfl:=oi hj
   exact⟨rfl,⟨rfl,zt⟩,hw.pk 5 [] zr⟩
  refine RL.gR (i:=3) (f:=fun(x:bU)=>x.Y) (cg o) rfl hw rfl rfl uL l8 fun ag hw=>(RL.bA (i:=0) (y:=p1.Y) (cg o) rfl hw rfl rfl bX (RL.bF (cg o) rfl rfl gM (RL.aL (i:=3) (f:=(fun x=>x.Y0)) (cg o) rfl hw rfl rfl cZ bX (RL.iO (a:=p1.Y) (b:=p0.Y0) (cg o) rfl rfl rfl rfl (RL.pick (b:=(decide (p1.X<p0.X1))) (v:=(vb (decide (p1.Y≥p0.Y0)))) trivial rfl rfl (by rw [o];rfl) (mv (vb (decide (p1.Y≥p0.Y0))) rfl rfl (fH hj (fun aa hj=>?_) fun aa hj=>?_)))))))
  ·refine RL.gR (i:=4) (f:=fun(x:bU)=>x.Y) (cg aa) rfl hw rfl rfl uL l8 fun ah hw=>(RL.bA (i:=0) (y:=p1.Y) (cg aa) rfl hw rfl rfl bX (RL.bF (cg aa) rfl rfl jU (RL.aL (i:=4) (f:=(fun x=>x.Y1)) (cg aa) rfl hw rfl rfl fz bX (RL.iO (a:=p1.Y) (b:=p0.Y1) (cg aa) rfl rfl rfl rfl (RL.pick (b:=(decide (p1.Y≥p0.Y0))) (v:=(vb (decide (p1.Y<p0.Y1)))) trivial rfl rfl (by rw [aa];rfl) (aM (vb (decide (p1.Y<p0.Y1))) rfl rfl (RL.nil ?_)))))))
   obtain rfl:=oi hj
   exact⟨rfl,⟨rfl,zt⟩,hw.pk 7 [] zr⟩
  refine sk rfl (.inl (cb aa)) rfl (sk rfl (.inl (cb aa)) rfl (sk rfl (.inl (cb aa)) rfl (sk rfl (.inl (cb aa)) rfl (sk rfl (.inl (cb aa)) rfl (RL.pick (b:=(decide (p1.Y≥p0.Y0))) (v:=(vb false)) trivial rfl rfl (by rw [aa];rfl) (aM (vb false) rfl rfl (RL.nil ?_)))))))
  obtain rfl:=oi hj
  exact⟨rfl,⟨rfl,zt⟩,hw.pk 6 [] zr⟩
 rintro σ w ⟨ha,hw⟩
 obtain⟨τ,rfl⟩:=ha.aO
 refine aG (RC.ret ?_)
 obtain rfl:=oi hb
 exact bQ zr zr ⟨rfl,hw.drop 0 zr⟩
def pI (E:World) (Γ:List HP) (res:Bool) (v:Value) (w:World):Prop:=v= (vb res)∧Holds E w Γ
theorem kC (N:Nat) {E w:World} {Γ:List HP} {i0:Nat} {v0:Value} {p0: (List aC)} {i1:Nat} {v1:Value} {p1:bU} {res:Bool} (hw:Holds E w Γ) (h0:Γ[i0]? =some (rd v0 p0)) (h1:Γ[i1]? =some (rd v1 p1)) (hb:fy N p0 p1=some res):
    Calls Tryz.prog 75 [v0,v1].toArray w (fw (pI E Γ res)):=by
 unfold fy at hb
 refine enter Tryz.func75 zr zr (Nat.le_of_ble_eq_true zr) ?_
 have hw:=hw.dup (i:=i0+0) h0
 have hw:=hw.dup (i:=i1+1) h1
 refine RC.sr (RL.dN (i:=0) (v:=v1) zt zr hw zr zr fun j w hw=>?_)
 have hw:=hw.ny (i:=0) rfl
 refine aM (vb false) zr zr (RL.ns (mv v0 zr zr (RL.makeFunc zt zr [(vp j 0)] zr ?_)))
 obtain⟨o,aa,hb⟩:=bd hb
 refine RL.call trivial rfl Di [v0,(.func (.func 102) #[] #[(vp j 0)])] rfl (aF (gV N (i0:=2) hw rfl ⟨102,[(vp j 0)],rfl,Dr,fun w Γl v y0 r i hw hi hr=>by exact aF (mH N (i0:=i) (i1:=Γl.length+0) hw hi (uj rfl) hr) fun _ _ h=>h⟩ aa) ?_)
 rintro _ w ⟨rfl,hw⟩
 refine aM (vb o) zr zr (RL.nt (RC.ret ?_))
 obtain rfl:=oi hb
 exact bQ zr zr ⟨rfl,hw.drop 3 zr⟩
def jK (E:World) (Γ:List HP) (b0:Nat) (v0_0:Value) (v0_1:Value) (v0_2:Value) (v0_3:Value) (v0_4:Value) (v0_5:Value) (v0_6:Value) (v0_7:Value) (v0_8:Value) (v0_9:Value) (v0_10:Value) (v0_11:Value) (res:gk×Bool) (v:Value) (w:World):Prop:=∃u0:Value,v = .tuple #[u0,(vb res.2)]∧Holds E w ([rd u0 res.1,bc 56 b0 [v0_0,v0_1,v0_2,v0_3,v0_4,v0_5,v0_6,v0_7,v0_8,v0_9,v0_10,v0_11]]++Γ)
def jL (E:World) (Γ:List HP) (b0:Nat) (v0_0:Value) (v0_1:Value) (v0_2:Value) (v0_3:Value) (v0_4:Value) (v0_5:Value) (v0_6:Value) (v0_7:Value) (v0_8:Value) (v0_9:Value) (v0_10:Value) (v0_11:Value) (r:gk×Bool) (σ:Nat→Value) (w:World):Prop:=kc Tryz.prog 66 Tryz.f56 (jK E Γ b0 v0_0 v0_1 v0_2 v0_3 v0_4 v0_5 v0_6 v0_7 v0_8 v0_9 v0_10 v0_11 r) .ret σ w
theorem mI (N:Nat) {E w:World} {Γ:List HP} {b0:Nat} {v0_0:Value} {v0_1:Value} {v0_2:Value} {p0_2: (List bD)} {v0_3:Value} {v0_4:Value} {v0_5:Value} {p0_5: (List aD)} {v0_6:Value} {v0_7:Value} {v0_8:Value} {v0_9:Value} {v0_10:Value} {v0_11:Value} {i1:Nat} {v1:Value} {p1:cT} {res:gk×Bool} (hw:Holds E w (bc 56 b0 [v0_0,v0_1,v0_2,v0_3,v0_4,v0_5,v0_6,v0_7,v0_8,v0_9,v0_10,v0_11]::rd v0_2 p0_2::rd v0_5 p0_5::Γ)) (h1:Γ[i1]? =some (rd v1 p1)) (hb:fh N p0_2 p0_5 p1=some res):
    Calls Tryz.prog 56 [(vp b0 0),v1].toArray w (fw (jK E Γ b0 v0_0 v0_1 v0_2 v0_3 v0_4 v0_5 v0_6 v0_7 v0_8 v0_9 v0_10 v0_11 res)):=by
 unfold fh at hb
 refine enter Tryz.func56 zr zr (Nat.le_of_ble_eq_true zr) ?_
 have hw:=hw.dup (i:=i1+3) h1
 refine RC.sr (RL.dN (i:=0) (v:=v1) zt zr hw zr zr fun af w hw=>(RL.alloc zt zr hw z7.z fun ai w hw=>(aM (vb false) zr zr (RL.nq (RC.sr (mv (vp b0 0) zr zr (RL.nilCheck zt zr zr (RL.bF zt zr zr mS ?_))))))))
 refine RL.bF zt zr zr ll (RL.bE (i:=3) (v:=v0_2) zt zr hw zr zr zr tC (RL.bG (i:=4) (l:=p0_2) zt zr hw zr zr uJ (mv (vi 0) zr zr (RL.nt ?_))))
 obtain⟨bq,hN,hb⟩:=bd hb
 refine RC.range (fun(aj:Nat) (aw:Unit) (σ:Nat→Value) (w:World)=>agree σ [(0,(vp b0 0)),(3,(vp af 0)),(4,(vp ai 0)),(14,v0_2),(15,(vi (p0_2.length:Int))),(16,(vi (aj:Int)))]∧Holds E w ([bc 56 b0 [v0_0,v0_1,v0_2,v0_3,v0_4,v0_5,v0_6,v0_7,v0_8,v0_9,v0_10,v0_11],rd v0_2 p0_2,rd v0_5 p0_5,bx 90 af p1,raw 110 ai 2]++Γ)) (fun(aw:Unit) (σ:Nat→Value) (w:World)=>agree σ [(0,(vp b0 0)),(3,(vp af 0)),(4,(vp ai 0))]∧Holds E w ([bc 56 b0 [v0_0,v0_1,v0_2,v0_3,v0_4,v0_5,v0_6,v0_7,v0_8,v0_9,v0_10,v0_11],rd v0_2 p0_2,rd v0_5 p0_5,bx 90 af p1,raw 110 ai 2]++Γ)) (jL E Γ b0 v0_0 v0_1 v0_2 v0_3 v0_4 v0_5 v0_6 v0_7 v0_8 v0_9 v0_10 v0_11) hN ?_ ?_ ?_ ?_ ?_
 ·exact⟨(ag zr),hw.pk 6 [3,4,5,1,0] zr⟩
 ·intro hm aw σ w hI
  obtain⟨ha,hw⟩:=hI
  obtain⟨τ,rfl⟩:=ha.aO
  refine RC.sr (ic ((p0_2.length:Int)) ((p0_2.length:Int)) zr zr zr zr (RL.nq (RC.cH lZ (RC.ex ?_))))
  exact⟨rfl,(ag zr),hw.pk 5 [0,1,2,3,4] zr⟩
 ·intro hm aj aw fl σ w hk hI hb
  obtain⟨ha,hw⟩:=hI
  obtain⟨τ,rfl⟩:=ha.aO
  refine RC.sr (ic ((aj:Int)) ((p0_2.length:Int)) zr zr zr zr (RL.nq (RC.cG (lY hk) (RC.ss (RC.bs (mv (vi (aj:Int)) zr zr ?_))))))
  obtain⟨ah,a6,hb⟩:=bd hb
  refine RL.bO (i:=1) zt zr hw zr zr zr vY a6 fun ay hw=>(RL.bP (i:=0) (x:=ah) zt zr hw zr zr kr fun a0 hw=>(RL.alloc zt zr hw yA.z fun aq w hw=>(aM (vi (aj:Int)) zr zr (RL.bC (i:=0) (j:=1) zt hw zr zr zr zr kr zr fun w hw=>(RL.nq ?_)))))
  obtain⟨a1,hj,hb⟩:=bd hb
  refine RC.jn (fun(a1:Bool) (σ:Nat→Value) (w:World)=>agree σ [(0,(vp b0 0)),(3,(vp af 0)),(4,(vp ai 0)),(6,(vi (aj:Int))),(14,v0_2),(15,(vi (p0_2.length:Int))),(16,(vi (aj:Int))),(36,(vb a1))]∧Holds E w ([bc 56 b0 [v0_0,v0_1,v0_2,v0_3,v0_4,v0_5,v0_6,v0_7,v0_8,v0_9,v0_10,v0_11],rd v0_2 p0_2,rd v0_5 p0_5,bx 90 af p1,raw 110 ai 2]++Γ)) a1 ?_ ?_
  ·refine fH hj (fun ak hj=>?_) fun ak hj=>?_
   rotate_left
   ·refine RC.tw (E:=E) (Γ:=Γ) mixed rfl [1,0,1,1,1,1,1,1,1,1,1,1,1,1,1,1] [] (fun(x:Unit)=>[(0,21,(vp aq 5)),(1,22,(vb ah.cI)),(2,23,(vb ah.cI)),(3,24,undef),(4,25,undef),(5,26,undef),(6,27,undef),(7,28,(vb false)),(8,29,(vb false)),(9,30,undef),(10,31,undef),(11,32,undef),(12,33,undef),(13,34,undef),(14,35,undef),(15,36,(vb false))]) [(0,(vp b0 0)),(3,(vp af 0)),(4,(vp ai 0)),(6,(vi (aj:Int))),(7,(vp aq 0)),(14,v0_2),(15,(vi (p0_2.length:Int))),(16,(vi (aj:Int)))] [] (fun(D:Nat→Bool) (x:Unit)=>[bx 65 aq ah,rd a0 ah,pt ay ah,bc 56 b0 [v0_0,v0_1,v0_2,v0_3,v0_4,v0_5,v0_6,v0_7,v0_8,v0_9,v0_10,v0_11],rd v0_2 p0_2,rd v0_5 p0_5,bx 90 af p1,raw 110 ai 2]) (fun x=>by kernel_rfl) ?_ ⟨fun _=>fN gn sm rfl,?_,fun _=>eA gn rfl,fun _=>iw ak rfl,fun _=>iw ak rfl,fun _=>iw ak rfl,fun _=>iw ak rfl,fun _=>zJ gn ak rfl,fun _=>eA gn rfl,fun _=>iw rfl rfl,fun _=>iw rfl rfl,fun _=>iw rfl rfl,fun _=>iw rfl rfl,fun _=>iw rfl rfl,fun _=>iw rfl rfl,fun _=>zJ gn rfl rfl,trivial⟩ ?_
    ·have hw:=hw.drew
     exact⟨(),doneV.none,(ag zr),zt,hw⟩
    ·rintro D σ w hD hdep hcl ⟨_,hv,ha,_,hw⟩
     obtain⟨τ,rfl⟩:=(ac (hv.at 0 rfl (hdep.1 rfl)) az).aO
     refine RL.aL (i:=0) (f:=(fun x=>x.cI)) zt zr hw zr zr lE Cz ?_
     exact RL.nil ⟨rfl,(),hv.put 1 zr zr,ha.up zr,zt,hw⟩
    rintro D σ w hall ⟨_,hv,ha,_,hw⟩
    obtain⟨τ,rfl⟩:=(ac (hv.at 15 rfl (hall 15 (by decide))) (ac (ha.at 0 rfl) (ac (ha.at 1 rfl) (ac (ha.at 2 rfl) (ac (ha.at 3 rfl) (ac (ha.at 4 rfl) (ac (ha.at 5 rfl) (ac (ha.at 6 rfl) (ac (ha.at 7 rfl) az))))))))).aO
    obtain rfl:=oi hj
    exact⟨rfl,(ag zr),hw.pk 8 [3,4,5,6,7] zr⟩
   obtain⟨ar,a3,hj⟩:=bd hj
   refine fH hj (fun al hj=>?_) fun al hj=>?_
   rotate_left
   ·refine RC.tw (E:=E) (Γ:=Γ) mixed rfl [1,0,1,0,1,0,0,1,1,1,1,1,1,1,1,1] [3] (fun(x:Value)=>(fun o=>[(0,21,(vp aq 5)),(1,22,(vb ah.cI)),(2,23,(vb ah.cI)),(3,24,o),(4,25,(vp af 2)),(5,26,(vi p1.aU)),(6,27,(vb ar)),(7,28,(vb ar)),(8,29,(vb ar)),(9,30,undef),(10,31,undef),(11,32,undef),(12,33,undef),(13,34,undef),(14,35,undef),(15,36,(vb false))]) x) [(0,(vp b0 0)),(3,(vp af 0)),(4,(vp ai 0)),(6,(vi (aj:Int))),(7,(vp aq 0)),(14,v0_2),(15,(vi (p0_2.length:Int))),(16,(vi (aj:Int)))] [] (fun(D:Nat→Bool) (x:Value)=>(fun o=>[bif D 0 then (rd o ah) else aK,bx 65 aq ah,rd a0 ah,pt ay ah,bc 56 b0 [v0_0,v0_1,v0_2,v0_3,v0_4,v0_5,v0_6,v0_7,v0_8,v0_9,v0_10,v0_11],rd v0_2 p0_2,rd v0_5 p0_5,bx 90 af p1,raw 110 ai 2]) x) (fun x=>by kernel_rfl) ?_ ⟨fun _=>fN gn sm rfl,?_,fun _=>eA gn rfl,?_,fun _=>fN (gy ak rfl) uN rfl,?_,?_,fun _=>zI gn ak rfl,fun _=>eA gn rfl,fun _=>iw al rfl,fun _=>iw al rfl,fun _=>iw al rfl,fun _=>iw al rfl,fun _=>iw al rfl,fun _=>iw al rfl,fun _=>zJ gn al rfl,trivial⟩ ?_
    ·have hw:=hw.drew
     have hw:=hw.aK
     exact⟨undef,doneV.none,(ag zr),zt,hw⟩
    ·rintro D σ w hD hdep hcl ⟨o,hv,ha,_,hw⟩
     obtain⟨τ,rfl⟩:=(ac (hv.at 0 rfl (hdep.1 rfl)) az).aO
     refine RL.aL (i:=1) (f:=(fun x=>x.cI)) zt zr hw zr zr lE Cz ?_
     exact RL.nil ⟨rfl,o,hv.put 1 zr zr,ha.up zr,zt,hw⟩
    ·rintro D σ w hD hdep hcl ⟨o,hv,ha,_,hw⟩
     obtain⟨τ,rfl⟩:=(ac (hv.at 2 rfl (hdep.1 rfl)) (ac (ha.at 4 rfl) az)).aO
     have hw:=hw.aP (i:=0) rfl hD
     refine RL.aY (i:=1) (f:=(fun x=>x)) (cg ak) zr hw zr zr Fd.self kr fun a7 hw=>?_
     have hw:=hw.pl 10 [0,2,3,4,5,6,7,8,9] rfl
     have hw:=hw.aS (i:=0) (b:=true) rfl rfl (aK)
     exact RL.nil ⟨rfl,a7,hv.put 3 zr zr,ha.up zr,zt,hw⟩
    ·rintro D σ w hD hdep hcl ⟨o,hv,ha,_,hw⟩
     obtain⟨τ,rfl⟩:=(ac (hv.at 2 rfl (hdep.2.1 rfl)) (ac (hv.at 4 rfl (hdep.1 rfl)) az)).aO
     refine RL.aL (i:=7) (f:=(fun x=>x.aU)) (cg ak) zr hw zr zr nB bX ?_
     exact RL.nil ⟨rfl,o,hv.put 5 zr zr,ha.up zr,zt,hw⟩
    ·rintro D σ w hD hdep hcl ⟨o,hv,ha,_,hw⟩
     obtain⟨τ,rfl⟩:=(ac (hv.at 2 rfl (hdep.2.2.1 rfl)) (ac (hv.at 3 rfl (hdep.1 rfl)) (ac (hv.at 5 rfl (hdep.2.1 rfl)) az))).aO
     have hw:=hw.aR (i:=0) rfl (hdep.1 rfl)
     refine RL.call (cg ak) zr Bi [o,(vi p1.aU)] zr (aF (gU N (p1:=p1.aU) (i0:=0) hw zr a3) ?_)
     rintro _ w ⟨rfl,hw⟩
     have hw:=hw.aS (i:=0) (b:=D 3) rfl (hdep.1 rfl) (aK)
     exact RL.nil ⟨rfl,o,hv.put 6 zr zr,ha.up zr,zt,hw⟩
    rintro D σ w hall ⟨o,hv,ha,_,hw⟩
    have hw:=hw.aR (i:=0) rfl (hall 3 (by decide))
    obtain⟨τ,rfl⟩:=(ac (hv.at 15 rfl (hall 15 (by decide))) (ac (ha.at 0 rfl) (ac (ha.at 1 rfl) (ac (ha.at 2 rfl) (ac (ha.at 3 rfl) (ac (ha.at 4 rfl) (ac (ha.at 5 rfl) (ac (ha.at 6 rfl) (ac (ha.at 7 rfl) az))))))))).aO
    obtain rfl:=oi hj
    exact⟨rfl,(ag zr),hw.pk 9 [4,5,6,7,8] zr⟩
   obtain⟨au,a8,hj⟩:=bd hj
   obtain⟨a4,a9,hj⟩:=bd hj
   refine RC.tw (E:=E) (Γ:=Γ) mixed rfl [1,0,1,0,1,0,0,1,1,0,0,0,1,0,0,1] [3,9,10,11,13,14] (fun(x:Value×Value×Value×Value×Value)=>(fun o ab ad aa ae=>[(0,21,(vp aq 5)),(1,22,(vb ah.cI)),(2,23,(vb ah.cI)),(3,24,o),(4,25,(vp af 2)),(5,26,(vi p1.aU)),(6,27,(vb ar)),(7,28,(vb ar)),(8,29,(vb ar)),(9,30,ab),(10,31,ad),(11,32,aa),(12,33,(vp af 3)),(13,34,ae),(14,35,(vb a4)),(15,36,(vb a4))]) x.1 x.2.1 x.2.2.1 x.2.2.2.1 x.2.2.2.2) [(0,(vp b0 0)),(3,(vp af 0)),(4,(vp ai 0)),(6,(vi (aj:Int))),(7,(vp aq 0)),(14,v0_2),(15,(vi (p0_2.length:Int))),(16,(vi (aj:Int)))] [] (fun(D:Nat→Bool) (x:Value×Value×Value×Value×Value)=>(fun o ab ad aa ae=>[bif D 0 then (rd o ah) else aK,bif D 1 then (rd ab ah) else aK,bif D 2 then (rd ad au) else aK,bif D 5 then (rd aa ([au]: (List aC))) else (bif D 3 then (own 61 aa ([au]: (List aC))) else aK),bif D 4 then (rd ae p1.At) else aK,bx 65 aq ah,rd a0 ah,pt ay ah,bc 56 b0 [v0_0,v0_1,v0_2,v0_3,v0_4,v0_5,v0_6,v0_7,v0_8,v0_9,v0_10,v0_11],rd v0_2 p0_2,rd v0_5 p0_5,bx 90 af p1,raw 110 ai 2]) x.1 x.2.1 x.2.2.1 x.2.2.2.1 x.2.2.2.2) (fun x=>by kernel_rfl) ?_ ⟨fun _=>fN gn sm rfl,?_,fun _=>eA gn rfl,?_,fun _=>fN (gy ak rfl) uN rfl,?_,?_,fun _=>zI gn ak rfl,fun _=>eA gn rfl,?_,?_,?_,fun _=>fN (gy al rfl) xg rfl,?_,?_,fun _=>zI gn al rfl,trivial⟩ ?_
   ·have hw:=hw.drew
    have hw:=hw.aK
    have hw:=hw.aK
    have hw:=hw.aK
    have hw:=hw.aK
    have hw:=hw.aK
    exact⟨(undef,undef,undef,undef,undef),doneV.none,(ag zr),zt,hw⟩
   ·rintro D σ w hD hdep hcl ⟨⟨o,ab,ad,aa,ae⟩,hv,ha,_,hw⟩
    obtain⟨τ,rfl⟩:=(ac (hv.at 0 rfl (hdep.1 rfl)) az).aO
    refine RL.aL (i:=5) (f:=(fun x=>x.cI)) zt zr hw zr zr lE Cz ?_
    exact RL.nil ⟨rfl,(o,ab,ad,aa,ae),hv.put 1 zr zr,ha.up zr,zt,hw⟩
   ·rintro D σ w hD hdep hcl ⟨⟨o,ab,ad,aa,ae⟩,hv,ha,_,hw⟩
    obtain⟨τ,rfl⟩:=(ac (hv.at 2 rfl (hdep.1 rfl)) (ac (ha.at 4 rfl) az)).aO
    have hw:=hw.aP (i:=0) rfl hD
    refine RL.aY (i:=5) (f:=(fun x=>x)) (cg ak) zr hw zr zr Fd.self kr fun ba hw=>?_
    have hw:=hw.pl 14 [0,2,3,4,5,6,7,8,9,10,11,12,13] rfl
    have hw:=hw.aS (i:=0) (b:=true) rfl rfl (aK)
    exact RL.nil ⟨rfl,(ba,ab,ad,aa,ae),hv.put 3 zr zr,ha.up zr,zt,hw⟩
   ·rintro D σ w hD hdep hcl ⟨⟨o,ab,ad,aa,ae⟩,hv,ha,_,hw⟩
    obtain⟨τ,rfl⟩:=(ac (hv.at 2 rfl (hdep.2.1 rfl)) (ac (hv.at 4 rfl (hdep.1 rfl)) az)).aO
    refine RL.aL (i:=11) (f:=(fun x=>x.aU)) (cg ak) zr hw zr zr nB bX ?_
    exact RL.nil ⟨rfl,(o,ab,ad,aa,ae),hv.put 5 zr zr,ha.up zr,zt,hw⟩
   ·rintro D σ w hD hdep hcl ⟨⟨o,ab,ad,aa,ae⟩,hv,ha,_,hw⟩
    obtain⟨τ,rfl⟩:=(ac (hv.at 2 rfl (hdep.2.2.1 rfl)) (ac (hv.at 3 rfl (hdep.1 rfl)) (ac (hv.at 5 rfl (hdep.2.1 rfl)) az))).aO
    have hw:=hw.aR (i:=0) rfl (hdep.1 rfl)
    refine RL.call (cg ak) zr Bi [o,(vi p1.aU)] zr (aF (gU N (p1:=p1.aU) (i0:=0) hw zr a3) ?_)
    rintro _ w ⟨rfl,hw⟩
    have hw:=hw.aS (i:=0) (b:=D 3) rfl (hdep.1 rfl) (aK)
    exact RL.nil ⟨rfl,(o,ab,ad,aa,ae),hv.put 6 zr zr,ha.up zr,zt,hw⟩
   ·rintro D σ w hD hdep hcl ⟨⟨o,ab,ad,aa,ae⟩,hv,ha,_,hw⟩
    obtain⟨τ,rfl⟩:=(ac (hv.at 8 rfl (hdep.1 rfl)) (ac (ha.at 4 rfl) az)).aO
    have hw:=hw.aP (i:=1) rfl hD
    refine RL.aY (i:=5) (f:=(fun x=>x)) (cg al) zr hw zr zr Fd.self kr fun bb hw=>?_
    have hw:=hw.pl 14 [1,0,3,4,5,6,7,8,9,10,11,12,13] rfl
    have hw:=hw.aS (i:=1) (b:=true) rfl rfl (aK)
    exact RL.nil ⟨rfl,(o,bb,ad,aa,ae),hv.put 9 zr zr,ha.up zr,zt,hw⟩
   ·rintro D σ w hD hdep hcl ⟨⟨o,ab,ad,aa,ae⟩,hv,ha,_,hw⟩
    obtain⟨τ,rfl⟩:=(ac (hv.at 8 rfl (hdep.2.1 rfl)) (ac (hv.at 9 rfl (hdep.1 rfl)) az)).aO
    have hw:=hw.aR (i:=1) rfl (hdep.1 rfl)
    have hw:=hw.aP (i:=2) rfl hD
    refine RL.call (cg al) zr yC [ab] zr (aF (eD N (i0:=1) hw zr a8) ?_)
    rintro bf w hw
    have hw:=hw.pl 14 [1,2,0,4,5,6,7,8,9,10,11,12,13] rfl
    have hw:=hw.aS (i:=1) (b:=D 9) rfl (hdep.1 rfl) (aK)
    have hw:=hw.aS (i:=2) (b:=true) rfl rfl (aK)
    exact RL.nil ⟨rfl,(o,ab,bf,aa,ae),hv.put 10 zr zr,ha.up zr,zt,hw⟩
   ·rintro D σ w hD hdep hcl ⟨⟨o,ab,ad,aa,ae⟩,hv,ha,_,hw⟩
    obtain⟨τ,rfl⟩:=(ac (hv.at 8 rfl (hdep.2.1 rfl)) (ac (hv.at 10 rfl (hdep.1 rfl)) az)).aO
    have hw:=hw.aR (i:=2) rfl (hdep.1 rfl)
    have hw:=hw.aP (i:=3) rfl (nf (fun h=>ft hD ((hcl 14 _ rfl h).1 rfl)))
    have hw:=hw.aP (i:=3) rfl hD
    refine RL.dY (l:=([au]: (List aC))) (cg al) zr hw [ad] zr zr zr iE kP (fun M hs g=>⟨(g.sat 2 _ zr).1,zt⟩) fun a5 w hw=>?_
    have hw:=hw.pl 14 [1,2,3,0,5,6,7,8,9,10,11,12,13] rfl
    have hw:=hw.aS (i:=2) (b:=D 10) rfl (hdep.1 rfl) (aK)
    have hw:=hw.aS (i:=3) (b:=true) rfl rfl (aK)
    have hw:=hw.cK (i:=3) (b:=D 14) rfl (nf (fun h=>ft hD ((hcl 14 _ rfl h).1 rfl))) (rd a5 ([au]: (List aC)))
    exact RL.nil ⟨rfl,(o,ab,ad,a5,ae),hv.put 11 zr zr,ha.up zr,zt,hw⟩
   ·rintro D σ w hD hdep hcl ⟨⟨o,ab,ad,aa,ae⟩,hv,ha,_,hw⟩
    obtain⟨τ,rfl⟩:=(ac (hv.at 8 rfl (hdep.2.1 rfl)) (ac (hv.at 12 rfl (hdep.1 rfl)) az)).aO
    have hw:=hw.aP (i:=4) rfl hD
    refine RL.aY (i:=11) (f:=(fun x=>x.At)) (cg al) zr hw zr zr qt yB fun bg hw=>?_
    have hw:=hw.pl 14 [1,2,3,4,0,6,7,8,9,10,11,12,13] rfl
    have hw:=hw.aS (i:=4) (b:=true) rfl rfl (aK)
    exact RL.nil ⟨rfl,(o,ab,ad,aa,bg),hv.put 13 zr zr,ha.up zr,zt,hw⟩
   ·rintro D σ w hD hdep hcl ⟨⟨o,ab,ad,aa,ae⟩,hv,ha,_,hw⟩
    obtain⟨τ,rfl⟩:=(ac (hv.at 8 rfl (hdep.2.2.2.1 rfl)) (ac (hv.at 11 rfl (hdep.1 rfl)) (ac (hv.at 13 rfl (hdep.2.1 rfl)) az))).aO
    have hw:=hw.aP (i:=3) rfl hD
    have hw:=hw.aR (i:=3) rfl (hdep.1 rfl)
    have hw:=hw.aR (i:=4) rfl (hdep.2.1 rfl)
    have hw:=hw.freeze (i:=3) rfl
    refine RL.call (cg al) zr Ds [aa,ae] zr (aF (kC N (i0:=3) (i1:=4) hw zr zr a9) ?_)
    rintro _ w ⟨rfl,hw⟩
    have hw:=hw.aS (i:=3) (b:=true) rfl rfl (bif D 11 then (own 61 aa ([au]: (List aC))) else aK)
    have hw:=hw.aS (i:=4) (b:=D 13) rfl (hdep.2.1 rfl) (aK)
    exact RL.nil ⟨rfl,(o,ab,ad,aa,ae),hv.put 14 zr zr,ha.up zr,zt,hw⟩
   rintro D σ w hall ⟨⟨o,ab,ad,aa,ae⟩,hv,ha,_,hw⟩
   have hw:=hw.aR (i:=0) rfl (hall 3 (by decide))
   have hw:=hw.aR (i:=1) rfl (hall 9 (by decide))
   have hw:=hw.aR (i:=2) rfl (hall 10 (by decide))
   have hw:=hw.aR (i:=3) rfl (hall 14 (by decide))
   have hw:=hw.aR (i:=4) rfl (hall 13 (by decide))
   obtain⟨τ,rfl⟩:=(ac (hv.at 15 rfl (hall 15 (by decide))) (ac (ha.at 0 rfl) (ac (ha.at 1 rfl) (ac (ha.at 2 rfl) (ac (ha.at 3 rfl) (ac (ha.at 4 rfl) (ac (ha.at 5 rfl) (ac (ha.at 6 rfl) (ac (ha.at 7 rfl) az))))))))).aO
   obtain rfl:=oi hj
   exact⟨rfl,(ag zr),hw.pk 13 [8,9,10,11,12] zr⟩
  rintro σ w ⟨ha,hw⟩
  obtain⟨τ,rfl⟩:=ha.aO
  refine aG (eI hb zr (fun hc hb=>?_) fun hc hb=>?_)
  rotate_left
  ·refine RC.skip (bJ (aG (RC.region (RL.inc zt zr hk hm zr zr (mv (vi ((aj+1:Nat):Int)) zr zr (RL.nil ?_))))))
   obtain rfl:=oi hb
   exact⟨rfl,(ag zr),hw.pk 5 [0,1,2,3,4] zr⟩
  refine RC.sr (mv (vi (aj:Int)) zr zr ?_)
  have hw:=hw.sc (γ:=Bool) true
  have hw:=hw.sc (γ:=Int) (aj:Int)
  refine RL.build (y:=(⟨true,(aj:Int)⟩:gk)) trivial rfl hw [(0,(vb true)),(1,(vi (aj:Int)))] rfl z8 rfl (fun M hs g=>by have h:=zQ M;exact cB.cons (f:=fun(x:gk) y=>{x with bD:=y}) rfl h zP (by decide) (g.sat 1 _ rfl).1 fun _ h=>cB.cons (f:=fun(x:gk) y=>{x with Number:=y}) rfl h vX (by decide) (g.sat 0 _ rfl).1 fun _ h=>cB.nil h) fun br hw=>(RL.bC (i:=7) (j:=0) trivial hw rfl rfl rfl rfl pq rfl fun w hw=>(aM (vb true) rfl rfl (RL.nt (RC.rb (bL ?_)))))
  obtain rfl:=oi hb
  exact⟨rfl,tP (i:=7) zr hw zr zr pq zr fun bh hw=>⟨bh,zr,hw.pk 9 [0,4] zr⟩⟩
 ·intro r σ w e hK
  subst e
  refine bL ?_
  obtain rfl:=oi hb
  exact hK
 intro aw σ w e hJ
 subst e
 rw [Fo.eT] at hb
 obtain⟨ha,hw⟩:=hJ
 obtain⟨τ,rfl⟩:=ha.aO
 refine aG (RC.seq (RC.sr (mv (vp b0 0) zr zr (RL.nilCheck zt zr zr (RL.bF zt zr zr l9 (RL.bE (i:=0) (v:=v0_5) zt zr hw zr zr zr uO (RL.bG (i:=2) (l:=p0_5) zt zr hw zr zr yE (mv (vi 0) zr zr ?_))))))))
 refine RL.nt ?_
 obtain⟨bt,hN,hb⟩:=bd hb
 refine RC.range (fun(ao:Nat) (ax:Unit) (σ:Nat→Value) (w:World)=>agree σ [(0,(vp b0 0)),(3,(vp af 0)),(4,(vp ai 0)),(43,v0_5),(44,(vi (p0_5.length:Int))),(45,(vi (ao:Int)))]∧Holds E w ([bc 56 b0 [v0_0,v0_1,v0_2,v0_3,v0_4,v0_5,v0_6,v0_7,v0_8,v0_9,v0_10,v0_11],rd v0_2 p0_2,rd v0_5 p0_5,bx 90 af p1,raw 110 ai 2]++Γ)) (fun(ax:Unit) (σ:Nat→Value) (w:World)=>agree σ [(0,(vp b0 0)),(4,(vp ai 0))]∧Holds E w ([bc 56 b0 [v0_0,v0_1,v0_2,v0_3,v0_4,v0_5,v0_6,v0_7,v0_8,v0_9,v0_10,v0_11],rd v0_2 p0_2,rd v0_5 p0_5,bx 90 af p1,raw 110 ai 2]++Γ)) (jL E Γ b0 v0_0 v0_1 v0_2 v0_3 v0_4 v0_5 v0_6 v0_7 v0_8 v0_9 v0_10 v0_11) hN ?_ ?_ ?_ ?_ ?_
 ·exact⟨(ag zr),hw.pk 5 [0,1,2,3,4] zr⟩
 ·intro hm ax σ w hI
  obtain⟨ha,hw⟩:=hI
  obtain⟨τ,rfl⟩:=ha.aO
  refine RC.sr (ic ((p0_5.length:Int)) ((p0_5.length:Int)) zr zr zr zr (RL.nq (RC.cH lZ (RC.ex ?_))))
  exact⟨rfl,(ag zr),hw.pk 5 [0,1,2,3,4] zr⟩
 ·intro hm ao ax fl σ w hk hI hb
  obtain⟨ha,hw⟩:=hI
  obtain⟨τ,rfl⟩:=ha.aO
  refine RC.sr (ic ((ao:Int)) ((p0_5.length:Int)) zr zr zr zr (RL.nq (RC.cG (lY hk) (RC.ss (RC.bs (mv (vi (ao:Int)) zr zr ?_))))))
  obtain⟨av,bj,hb⟩:=bd hb
  refine RL.bO (i:=2) zt zr hw zr zr zr z6 bj fun bu hw=>(RL.bP (i:=0) (x:=av) zt zr hw zr zr yF fun bw hw=>(RL.alloc zt zr hw Bl.z fun bz w hw=>(aM (vi (ao:Int)) zr zr (RL.bC (i:=0) (j:=1) zt hw zr zr zr zr yF zr fun w hw=>(RL.nq ?_)))))
  obtain⟨a2,hj,hb⟩:=bd hb
  refine RC.jn (fun(a2:Bool) (σ:Nat→Value) (w:World)=>agree σ [(0,(vp b0 0)),(3,(vp af 0)),(4,(vp ai 0)),(8,(vi (ao:Int))),(43,v0_5),(44,(vi (p0_5.length:Int))),(45,(vi (ao:Int))),(61,(vb a2))]∧Holds E w ([bc 56 b0 [v0_0,v0_1,v0_2,v0_3,v0_4,v0_5,v0_6,v0_7,v0_8,v0_9,v0_10,v0_11],rd v0_2 p0_2,rd v0_5 p0_5,bx 90 af p1,raw 110 ai 2]++Γ)) a2 ?_ ?_
  ·refine RC.region (RL.bF zt zr zr xk (RL.aL (i:=0) (f:=(fun x=>x.aU)) zt zr hw zr zr jf bX (RL.bF zt zr zr uN (RL.aL (i:=6) (f:=(fun x=>x.aU)) zt zr hw zr zr nB bX (ic (av.aU) (p1.aU) zr zr zr zr (mv (vb (av.aU==p1.aU)) zr zr (fH hj (fun an hj=>?_) fun an hj=>?_)))))))
   rotate_left
   ·refine sk rfl (.inl (cb an)) rfl (sk rfl (.inl (cb an)) rfl (sk rfl (.inl (cb an)) rfl (sk rfl (.inl (cb an)) rfl (sk rfl (.inl (cb an)) rfl (RL.pick (b:=(av.aU==p1.aU)) (v:=(vb false)) trivial rfl rfl (by rw [an];rfl) (RL.nil ?_))))))
    obtain rfl:=oi hj
    exact⟨rfl,(ag zr),hw.pk 8 [3,4,5,6,7] zr⟩
   refine RL.bF (cg an) zr zr uP (RL.aY (i:=0) (f:=(fun x=>x.dQ)) (cg an) zr hw zr zr gT qw fun bk hw=>(RL.bF (cg an) zr zr xg (RL.aY (i:=7) (f:=(fun x=>x.At)) (cg an) zr hw zr zr qt yB fun bl hw=>?_)))
   obtain⟨bm,bn,hj⟩:=bd hj
   refine RL.call (cg an) zr Ds [bk,bl] zr (aF (kC N (i0:=1) (i1:=0) hw zr zr bn) ?_)
   rintro _ w ⟨rfl,hw⟩
   refine RL.pick (b:=(av.aU==p1.aU)) (v:=(vb bm)) trivial rfl rfl (by rw [an];rfl) (RL.nil ?_)
   obtain rfl:=oi hj
   exact⟨rfl,(ag zr),hw.pk 10 [5,6,7,8,9] zr⟩
  rintro σ w ⟨ha,hw⟩
  obtain⟨τ,rfl⟩:=ha.aO
  refine aG (eI hb zr (fun hc hb=>?_) fun hc hb=>?_)
  rotate_left
  ·refine RC.skip (bJ (aG (RC.region (RL.inc zt zr hk hm zr zr (mv (vi ((ao+1:Nat):Int)) zr zr (RL.nil ?_))))))
   obtain rfl:=oi hb
   exact⟨rfl,(ag zr),hw.pk 5 [0,1,2,3,4] zr⟩
  refine RC.sr (mv (vi (ao:Int)) zr zr ?_)
  have hw:=hw.sc (γ:=Int) (ao:Int)
  refine RL.build (y:=(⟨false,(ao:Int)⟩:gk)) trivial rfl hw [(1,(vi (ao:Int)))] rfl z8 rfl (fun M hs g=>by have h:=zQ M;exact cB.cons (f:=fun(x:gk) y=>{x with Number:=y}) rfl h vX (by decide) (g.sat 0 _ rfl).1 fun _ h=>cB.nil h) fun b1 hw=>(RL.bC (i:=6) (j:=0) trivial hw rfl rfl rfl rfl pq rfl fun w hw=>(aM (vb true) rfl rfl (RL.nt (RC.rb (bL ?_)))))
  obtain rfl:=oi hb
  exact⟨rfl,tP (i:=6) zr hw zr zr pq zr fun bo hw=>⟨bo,zr,hw.pk 8 [0,3] zr⟩⟩
 ·intro r σ w e hK
  subst e
  refine bL ?_
  obtain rfl:=oi hb
  exact hK
 intro ax σ w e hJ
 subst e
 rw [Fo.eT] at hb
 obtain⟨ha,hw⟩:=hJ
 obtain⟨τ,rfl⟩:=ha.aO
 refine aG (RC.sr (RL.build (y:=(⟨false,0⟩:gk)) trivial rfl hw [] rfl z8 rfl (fun M hs g=>by have h:=zQ M;exact cB.nil h) fun b2 hw=>(RL.bC (i:=5) (j:=0) trivial hw rfl rfl rfl rfl pq rfl fun w hw=>(aM (vb false) rfl rfl (RL.nt (RC.ret ?_))))))
 obtain rfl:=oi hb
 exact tP (i:=5) zr hw zr zr pq zr fun bp hw=>⟨bp,zr,hw.pk 7 [0,2] zr⟩
def kS (E:World) (Γ:List HP) (b0:Nat) (v0_0:Value) (v0_1:Value) (v0_2:Value) (v0_3:Value) (v0_4:Value) (v0_5:Value) (v0_6:Value) (v0_7:Value) (v0_8:Value) (v0_9:Value) (v0_10:Value) (v0_11:Value) (res:Int) (v:Value) (w:World):Prop:=v= (vi res)∧Holds E w ([bc 56 b0 [v0_0,v0_1,v0_2,v0_3,v0_4,v0_5,v0_6,v0_7,v0_8,v0_9,v0_10,v0_11]]++Γ)
theorem kD (N:Nat) {E w:World} {Γ:List HP} {b0:Nat} {v0_0:Value} {v0_1:Value} {v0_2:Value} {v0_3:Value} {v0_4:Value} {v0_5:Value} {v0_6:Value} {v0_7:Value} {v0_8:Value} {p0_8: (List Int)} {v0_9:Value} {p0_9: (List Int)} {v0_10:Value} {v0_11:Value} {i1:Nat} {v1:Value} {p1:gk} {res:Int} (hw:Holds E w (bc 56 b0 [v0_0,v0_1,v0_2,v0_3,v0_4,v0_5,v0_6,v0_7,v0_8,v0_9,v0_10,v0_11]::rd v0_8 p0_8::rd v0_9 p0_9::Γ)) (h1:Γ[i1]? =some (rd v1 p1)) (hb:dI N p0_8 p0_9 p1=some res):
    Calls Tryz.prog 57 [(vp b0 0),v1].toArray w (fw (kS E Γ b0 v0_0 v0_1 v0_2 v0_3 v0_4 v0_5 v0_6 v0_7 v0_8 v0_9 v0_10 v0_11 res)):=by
 unfold dI at hb
 refine enter Tryz.func57 zr zr (Nat.le_of_ble_eq_true zr) ?_
 have hw:=hw.dup (i:=i1+3) h1
 refine RC.sr (RL.dN (i:=0) (v:=v1) zt zr hw zr zr fun ad w hw=>(aM (vi 0) zr zr (RL.nq (RC.sr (RL.bF zt zr zr Bm (RL.aL (i:=0) (f:=(fun x=>x.bD)) zt zr hw zr zr zO Cz (RL.nt (eI hb zr (fun hc hb=>?_) fun hc hb=>?_))))))))
 ·refine RC.seq (RC.uy mixed rfl (by kernel_rfl) ?_)
  have hw:=hw.drew
  refine RO.go (mv (vp b0 0) zr zr (RO.nx (RL.nilCheck zt zr zr (RO.nx (RL.bF zt zr zr uQ (RO.nx (RL.bE (i:=2) (v:=v0_9) zt zr hw zr zr zr dL (RO.nx ?_))))))))
  refine RL.bF zt zr zr xU (RO.nx (RL.aL (i:=0) (f:=(fun x=>x.Number)) zt zr hw zr zr vW bX (RO.nx ?_)))
  obtain⟨j,aa,hb⟩:=bd hb
  refine RL.bO (i:=4) zt zr hw zr zr zr dM aa fun ae hw=>(RO.nx (RL.bA (i:=0) (y:=j) zt zr hw zr zr bX (RO.nx (aM (vi j) zr zr (RO.last (aG (RC.rt ?_)))))))
  obtain rfl:=oi hb
  exact bQ zr zr ⟨rfl,hw.pk 6 [3] zr⟩
 refine RC.ss (RC.uy mixed rfl (by kernel_rfl) ?_)
 have hw:=hw.drew
 refine RO.go (mv (vp b0 0) zr zr (RO.nx (RL.nilCheck zt zr zr (RO.nx (RL.bF zt zr zr xm (RO.nx (RL.bE (i:=2) (v:=v0_8) zt zr hw zr zr zr dL (RO.nx ?_))))))))
 refine RL.bF zt zr zr xU (RO.nx (RL.aL (i:=0) (f:=(fun x=>x.Number)) zt zr hw zr zr vW bX (RO.nx ?_)))
 obtain⟨o,ab,hb⟩:=bd hb
 refine RL.bO (i:=3) zt zr hw zr zr zr dM ab fun af hw=>(RO.nx (RL.bA (i:=0) (y:=o) zt zr hw zr zr bX (RO.nx (aM (vi o) zr zr (RO.last (aG (RC.ret ?_)))))))
 obtain rfl:=oi hb
 exact bQ zr zr ⟨rfl,hw.pk 6 [3] zr⟩
end Go.Gk
