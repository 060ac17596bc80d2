/-
  Printed texts: Go functions as plain functions, and that they are. No statement of the seed is proved here.
-/
import Derived.Test.YtdmnhnejfgnjdaaGreatDoorG1
import Derived.Test.YtdmnhnejfgnjdaaGreatDoorG2
import Derived.Test.YtdmnhnejfgnjdaaGreatDoorG6
import Derived.Test.YtdmnhnejfgnjdaaGreatDoorA2
set_option linter.unusedVariables false
set_option linter.unusedSimpArgs false
set_option linter.unusedSectionVars false
set_option maxRecDepth 100000
set_option maxHeartbeats 4000000
namespace Go.Gk
open Go Go.Proofs
def rQ (E:World) (Γ:List HP) (res:Int) (v:Value) (w:World):Prop:=v= (vi res)∧Holds E w Γ
theorem q8 (N:Nat) {E w:World} {Γ:List HP} {i0:Nat} {v0:Value} {p0: (List aD)} {res:Int} (hw:Holds E w Γ) (h0:Γ[i0]? =some (rd v0 p0)) (hb:iV N p0=some res):
    Calls Tryz.prog 12 [v0].toArray w (fu (rQ E Γ res)):=by
 unfold iV at hb
 refine enter Tryz.func12 zr zr (Nat.le_of_ble_eq_true zr) ?_
 have hw:=hw.dup (i:=i0+0) h0
 refine RC.sr (aN (vi 0) zr zr (RL.ns (aN (vi 0) zr zr (RL.nq (RC.sr (mv v0 zr zr (RL.bA (i:=0) (l:=p0) zt zr hw zr zr mc (mv (vi 0) zr zr ?_))))))))
 refine RL.nt ?_
 obtain⟨aa,hN,hb⟩:=bd hb
 refine RC.fold (fun(ab:Nat) (aa:Int) (σ:Nat→Value) (w:World)=>agree σ [(3,(vi aa)),(6,v0),(7,(vi (p0.length:Int))),(8,(vi (ab:Int)))]∧Holds E w ([rd v0 p0]++Γ)) (fun(aa:Int) (σ:Nat→Value) (w:World)=>agree σ [(3,(vi aa))]∧Holds E w ([rd v0 p0]++Γ)) hN ?_ ?_ ?_ ?_
 ·exact⟨(ag zr),hw.pk 1 [0] zr⟩
 ·intro hm aa σ w hI
  obtain⟨ha,hw⟩:=hI
  obtain⟨τ,rfl⟩:=ha.aO
  refine RC.sr (ic ((p0.length:Int)) ((p0.length:Int)) zr zr zr zr (RL.nq (RC.cG k6 (RC.ex ?_))))
  exact⟨rfl,⟨rfl,zt⟩,hw.pk 1 [0] zr⟩
 ·intro hm ab aa s' σ w hk hI hb
  obtain⟨ha,hw⟩:=hI
  obtain⟨τ,rfl⟩:=ha.aO
  refine RC.sr (ic ((ab:Int)) ((p0.length:Int)) zr zr zr zr (RL.nq (RC.cF (kZ hk) (RC.ss (RC.bs ?_)))))
  obtain⟨o,ad,hb⟩:=bd hb
  refine RL.bO (i:=0) zt zr hw zr zr zr iN ad fun ae hw=>(RL.bT (i:=0) (x:=o) zt zr hw zr zr eW fun af hw=>(RL.alloc zt zr hw kA.z fun ah w hw=>(RL.bC (i:=0) (j:=1) zt hw zr zr zr zr eW zr fun w hw=>(RL.nt (RC.region (mv (vi aa) zr zr (RL.bD zt zr zr gG (RL.aL (i:=0) (f:=(fun x=>x.X1)) zt zr hw zr zr dM bV ?_))))))))
  refine RL.bD zt zr zr fX (RL.aL (i:=0) (f:=(fun x=>x.X0)) zt zr hw zr zr cS bV (RL.gq (a:=o.X1) (b:=o.X0) zt zr zr zr zr (RL.bD zt zr zr jK (RL.aL (i:=0) (f:=(fun x=>x.Y1)) zt zr hw zr zr fy bV (RL.bD zt zr zr gF (RL.aL (i:=0) (f:=(fun x=>x.Y0)) zt zr hw zr zr cZ bV (RL.gq (a:=o.Y1) (b:=o.Y0) zt zr zr zr zr (RL.gq (a:=(IntKind.wrap .i64 (o.X1 - o.X0))) (b:=(IntKind.wrap .i64 (o.Y1 - o.Y0))) zt zr zr zr zr ?_))))))))
  refine RL.gq (a:=aa) (b:=(IntKind.wrap .i64 ((IntKind.wrap .i64 (o.X1 - o.X0))* (IntKind.wrap .i64 (o.Y1 - o.Y0))))) zt zr zr zr zr (aN (vi (IntKind.wrap .i64 (aa+ (IntKind.wrap .i64 ((IntKind.wrap .i64 (o.X1 - o.X0))* (IntKind.wrap .i64 (o.Y1 - o.Y0))))))) zr zr (RL.nil (bI (aG (RC.region (RL.inc zt zr hk hm zr zr (mv (vi ((ab+1:Nat):Int)) zr zr (RL.nil ?_))))))))
  obtain rfl:=oi hb
  exact⟨rfl,(ag zr),hw.pk 4 [3] zr⟩
 intro σ w hJ
 obtain⟨ha,hw⟩:=hJ
 obtain⟨τ,rfl⟩:=ha.aO
 refine aG (RC.sr (mv (vi aa) zr zr (aN (vi aa) zr zr (RL.nt (RC.ret ?_)))))
 obtain rfl:=oi hb
 exact bQ zr zr ⟨rfl,hw.drop 1 zr⟩
def q9 (E:World) (Γ:List HP) (res: (List Piece)×Int) (v:Value) (w:World):Prop:=∃u0:Value,v = .tuple #[u0,(vi res.2)]∧Holds E w ([own 69 u0 res.1]++Γ)
theorem qt (N:Nat) {E w:World} {Γ:List HP} {i0:Nat} {v0:Value} {p0:ju} {res: (List Piece)×Int} (hw:Holds E w Γ) (h0:Γ[i0]? =some (rd v0 p0)) (hb:iq N p0=some res):
    Calls Tryz.prog 6 [v0].toArray w (fu (q9 E Γ res)):=by
 unfold iq at hb
 refine enter Tryz.func6 zr zr (Nat.le_of_ble_eq_true zr) ?_
 have hw:=hw.dup (i:=i0+0) h0
 refine RC.sr (RL.dP (i:=0) (v:=v0) zt zr hw zr zr fun bj w hw=>(aN (.slice none 0 0) zr zr (aN (vi 0) zr zr (RL.ns (RL.aU (i:=0) (f:=(fun x=>x)) zt zr hw zr zr Fd.self tR fun a2 hw=>?_)))))
 obtain⟨ai,a3,hb⟩:=bd hb
 refine RL.call zt zr D3 [a2] zr (aF (km N (i0:=0) hw zr a3) ?_)
 rintro _ w hK49
 rcases aw:ai.1 with _ | ak
 ·replace hb:=Bl aw hb
  obtain⟨rfl,hw⟩:=yE aw hK49
  refine mv (.tuple #[(.pointer none),(vi ai.2)]) zr zr (RL.extract (v:=(.pointer none)) zt zr zr zr (RL.extract (v:=(vi ai.2)) zt zr zr zr (aN (.pointer none) zr zr (aN (vi ai.2) zr zr (RL.nq (RC.sr (mv (vi ai.2) zr zr (ic (ai.2) 0 zr zr zr zr ?_))))))))
  refine RL.nt (eI hb zr (fun hc hb=>?_) fun hc hb=>?_)
  rotate_left
  ·cases hb
  refine RC.sr (mv (vi ai.2) zr zr (aN (.slice none 0 0) zr zr (aN (vi ai.2) zr zr (RL.nt (RC.rt ?_)))))
  obtain rfl:=oi hb
  have hw:=hw.bW Piece 69
  exact kz zr zr zr ⟨(.slice none 0 0),zr,hw.pk 4 [0] zr⟩
 replace hb:=Bm aw hb
 obtain⟨ax,bk,bl,bm,bn,bo,ao,bp,bq,br,bt,bu,bw,rfl,hw⟩:=yF aw hK49
 refine mv (.tuple #[(vp ax 0),(vi ai.2)]) zr zr (RL.extract (v:=(vp ax 0)) zt zr zr zr (RL.extract (v:=(vi ai.2)) zt zr zr zr (aN (vp ax 0) zr zr (aN (vi ai.2) zr zr (RL.nq (RC.sr (mv (vi ai.2) zr zr (ic (ai.2) 0 zr zr zr zr ?_))))))))
 refine RL.nt (eI hb zr (fun hc hb=>?_) fun hc hb=>?_)
 ·refine RC.sr (mv (vi ai.2) zr zr (aN (.slice none 0 0) zr zr (aN (vi ai.2) zr zr (RL.nt (RC.rt ?_)))))
  obtain rfl:=oi hb
  have hw:=hw.bW Piece 69
  exact kz zr zr zr ⟨(.slice none 0 0),zr,hw.pk 17 [0] zr⟩
 refine RC.sx (aN (.slice none 0 0) zr zr (RL.nq (RC.sr (mv (vp ax 0) zr zr (RL.nilCheck zt zr zr (RL.bD zt zr zr oe (RL.bF (i:=0) (v:=ao) zt zr hw zr zr zr wj (RL.bA (i:=6) (l:=ak.2.2.2.2.2.1) zt zr hw zr zr y9 ?_))))))))
 refine mv (vi 0) zr zr (RL.nt ?_)
 obtain⟨al,hN,hb⟩:=bd hb
 refine RC.fold (fun(ar:Nat) (al: (List Piece)) (σ:Nat→Value) (w:World)=>∃ay:Value,agree σ [(6,ay),(20,ao),(21,(vi (ak.2.2.2.2.2.1.length:Int))),(22,(vi (ar:Int)))]∧Holds E w ([rd ao ak.2.2.2.2.2.1,own 69 ay al]++Γ)) (fun(al: (List Piece)) (σ:Nat→Value) (w:World)=>∃aq:Value,agree σ [(6,aq)]∧Holds E w ([rd ao ak.2.2.2.2.2.1,own 69 aq al]++Γ)) hN ?_ ?_ ?_ ?_
 ·have hw:=hw.bW Piece 69
  exact⟨(.slice none 0 0),(ag zr),hw.pk 17 [7,0] zr⟩
 ·intro hm al σ w hI
  obtain⟨a4,ha,hw⟩:=hI
  obtain⟨τ,rfl⟩:=ha.aO
  refine RC.sr (ic ((ak.2.2.2.2.2.1.length:Int)) ((ak.2.2.2.2.2.1.length:Int)) zr zr zr zr (RL.nq (RC.cG k6 (RC.ex ?_))))
  exact⟨rfl,a4,⟨rfl,zt⟩,hw.pk 2 [0,1] zr⟩
 ·intro hm ar al s' σ w hk hI hb
  obtain⟨au,ha,hw⟩:=hI
  obtain⟨τ,rfl⟩:=ha.aO
  refine RC.sr (ic ((ar:Int)) ((ak.2.2.2.2.2.1.length:Int)) zr zr zr zr (RL.nq (RC.cF (kZ hk) (RC.ss (RC.bs ?_)))))
  obtain⟨ah,a5,hb⟩:=bd hb
  refine RL.bO (i:=0) zt zr hw zr zr zr Au a5 fun a6 hw=>(RL.bT (i:=0) (x:=ah) zt zr hw zr zr xO fun a7 hw=>(RL.alloc zt zr hw Av.z fun av w hw=>(RL.bC (i:=0) (j:=1) zt hw zr zr zr zr xO zr fun w hw=>(RL.nt ?_))))
  obtain⟨an,a8,hb⟩:=bd hb
  obtain⟨aj,a9,hb⟩:=bd hb
  obtain⟨ba,bb,hb⟩:=bd hb
  refine RC.sG (E:=E) (Γ:=Γ) mixed rfl [0,1,0,1,0,0,1,0,0,0,0,0,1] [4,5,7,9,10,11] (fun(x:Value×Value×Value×Value×Value×Value)=>(fun ab ad ae af o aa=>[(0,26,au),(1,27,(vp av 0)),(2,28,(vi ah.bH)),(3,29,(vp av 1)),(4,30,ab),(5,31,ad),(6,32,(vp av 2)),(7,33,ae),(8,34,(vi aj)),(9,35,af),(10,36,o),(11,37,aa),(12,6,aa)]) x.1 x.2.1 x.2.2.1 x.2.2.2.1 x.2.2.2.2.1 x.2.2.2.2.2) [(8,(vp av 0)),(20,ao),(21,(vi (ak.2.2.2.2.2.1.length:Int))),(22,(vi (ar:Int)))] [(12,6,au)] (fun(D:Nat→Bool) (x:Value×Value×Value×Value×Value×Value)=>(fun ab ad ae af o aa=>[bif D 0 then (rd ab ah.Set) else aI,bif D 1 then (rd ad an) else aI,bif D 2 then (rd ae ah.fL) else aI,bif D 3 then (rd af (⟨ah.bH,an,aj⟩:Piece)) else aI,bif D 5 then (rd o ([(⟨ah.bH,an,aj⟩:Piece)]: (List Piece))) else (bif D 4 then (own 69 o ([(⟨ah.bH,an,aj⟩:Piece)]: (List Piece))) else aI),bx 65 av ah,rd a7 ah,pt a6 ah,rd ao ak.2.2.2.2.2.1,bif D 5 then (own 69 aa ba) else (own 69 au al)]) x.1 x.2.1 x.2.2.1 x.2.2.2.1 x.2.2.2.2.1 x.2.2.2.2.2) (fun x=>by kernel_rfl) ?_ ⟨?_,fun _=>fJ gn wk rfl,?_,fun _=>fJ gn BC rfl,?_,?_,fun _=>fJ gn wm rfl,?_,?_,?_,?_,?_,fun _=>xC gn rfl,trivial⟩ ?_
  ·have hw:=hw.drew
   have hw:=hw.aI
   have hw:=hw.aI
   have hw:=hw.aI
   have hw:=hw.aI
   have hw:=hw.aI
   exact⟨(undef,undef,undef,undef,undef,undef),doneV.none,(ag zr),⟨fun _=>zr,zt⟩,hw⟩
  ·rintro D σ w hD hdep hcl ⟨⟨ab,ad,ae,af,o,aa⟩,hv,ha,ho,hw⟩
   obtain⟨τ,rfl⟩:=(ac (ho.at 0 rfl (nf (fun h=>ft hD ((hcl 12 _ rfl h).2.2.1 rfl)))) az).aO
   refine mv au zr zr ?_
   exact RL.nil ⟨rfl,(ab,ad,ae,af,o,aa),hv.put 0 zr zr,ha.up zr,ho.up zr,hw⟩
  ·rintro D σ w hD hdep hcl ⟨⟨ab,ad,ae,af,o,aa⟩,hv,ha,ho,hw⟩
   obtain⟨τ,rfl⟩:=(ac (hv.at 1 rfl (hdep.1 rfl)) az).aO
   refine RL.aL (i:=5) (f:=(fun x=>x.bH)) zt zr hw zr zr iX bV ?_
   exact RL.nil ⟨rfl,(ab,ad,ae,af,o,aa),hv.put 2 zr zr,ha.up zr,ho.up zr,hw⟩
  ·rintro D σ w hD hdep hcl ⟨⟨ab,ad,ae,af,o,aa⟩,hv,ha,ho,hw⟩
   obtain⟨τ,rfl⟩:=(ac (hv.at 3 rfl (hdep.1 rfl)) az).aO
   have hw:=hw.aQ (i:=0) rfl hD
   refine RL.aU (i:=5) (f:=(fun x=>x.Set)) zt zr hw zr zr oR Bu fun bc hw=>?_
   have hw:=hw.pl 11 [0,2,3,4,5,6,7,8,9,10] rfl
   have hw:=hw.aT (i:=0) (b:=true) rfl rfl (aI)
   exact RL.nil ⟨rfl,(bc,ad,ae,af,o,aa),hv.put 4 zr zr,ha.up zr,ho.up zr,hw⟩
  ·rintro D σ w hD hdep hcl ⟨⟨ab,ad,ae,af,o,aa⟩,hv,ha,ho,hw⟩
   obtain⟨τ,rfl⟩:=(ac (hv.at 4 rfl (hdep.1 rfl)) az).aO
   have hw:=hw.aS (i:=0) rfl (hdep.1 rfl)
   have hw:=hw.aQ (i:=1) rfl hD
   refine RL.call zt zr D7 [ab] zr (aF (ow N (i0:=0) hw zr a8) ?_)
   rintro bf w hw
   have hw:=hw.pl 11 [1,0,3,4,5,6,7,8,9,10] rfl
   have hw:=hw.aT (i:=0) (b:=D 4) rfl (hdep.1 rfl) (aI)
   have hw:=hw.aT (i:=1) (b:=true) rfl rfl (aI)
   exact RL.nil ⟨rfl,(ab,bf,ae,af,o,aa),hv.put 5 zr zr,ha.up zr,ho.up zr,hw⟩
  ·rintro D σ w hD hdep hcl ⟨⟨ab,ad,ae,af,o,aa⟩,hv,ha,ho,hw⟩
   obtain⟨τ,rfl⟩:=(ac (hv.at 6 rfl (hdep.1 rfl)) az).aO
   have hw:=hw.aQ (i:=2) rfl hD
   refine RL.aU (i:=5) (f:=(fun x=>x.fL)) zt zr hw zr zr iY sK fun bg hw=>?_
   have hw:=hw.pl 11 [1,2,0,4,5,6,7,8,9,10] rfl
   have hw:=hw.aT (i:=2) (b:=true) rfl rfl (aI)
   exact RL.nil ⟨rfl,(ab,ad,bg,af,o,aa),hv.put 7 zr zr,ha.up zr,ho.up zr,hw⟩
  ·rintro D σ w hD hdep hcl ⟨⟨ab,ad,ae,af,o,aa⟩,hv,ha,ho,hw⟩
   obtain⟨τ,rfl⟩:=(ac (hv.at 7 rfl (hdep.1 rfl)) az).aO
   have hw:=hw.aS (i:=2) rfl (hdep.1 rfl)
   refine RL.call zt zr D8 [ae] zr (aF (q8 N (i0:=2) hw zr a9) ?_)
   rintro _ w ⟨rfl,hw⟩
   have hw:=hw.aT (i:=2) (b:=D 7) rfl (hdep.1 rfl) (aI)
   exact RL.nil ⟨rfl,(ab,ad,ae,af,o,aa),hv.put 8 zr zr,ha.up zr,ho.up zr,hw⟩
  ·rintro D σ w hD hdep hcl ⟨⟨ab,ad,ae,af,o,aa⟩,hv,ha,ho,hw⟩
   obtain⟨τ,rfl⟩:=(ac (hv.at 2 rfl (hdep.1 rfl)) (ac (hv.at 5 rfl (hdep.2.1 rfl)) (ac (hv.at 8 rfl (hdep.2.2.1 rfl)) az))).aO
   have hw:=hw.aS (i:=1) rfl (hdep.2.1 rfl)
   have hw:=hw.aQ (i:=3) rfl hD
   have hw:=hw.sc (γ:=Int) ah.bH
   have hw:=hw.sc (γ:=Int) aj
   refine RL.build (y:=(⟨ah.bH,an,aj⟩:Piece)) trivial rfl hw [(0,(vi ah.bH)),(1,ad),(2,(vi aj))] rfl D9 rfl (fun M hs g=>by have h:=Ao M;exact cC.cons (f:=fun(x:Piece) y=>{x with bH:=y}) rfl h wc (by decide) (g.sat 1 _ rfl).1 fun _ h=>cC.cons (f:=fun(x:Piece) y=>{x with rA:=y}) rfl h we (by decide) (g.sat 3 _ rfl).1 fun _ h=>cC.cons (f:=fun(x:Piece) y=>{x with v5:=y}) rfl h wg (by decide) (g.sat 0 _ rfl).1 fun _ h=>cC.nil h) fun bh hw=>?_
   have hw:=hw.pl 13 [3,4,5,0,7,8,9,10,11,12] rfl
   have hw:=hw.aT (i:=1) (b:=D 5) rfl (hdep.2.1 rfl) (aI)
   have hw:=hw.aT (i:=3) (b:=true) rfl rfl (aI)
   exact RL.nil ⟨rfl,(ab,ad,ae,bh,o,aa),hv.put 9 zr zr,ha.up zr,ho.up zr,hw⟩
  ·rintro D σ w hD hdep hcl ⟨⟨ab,ad,ae,af,o,aa⟩,hv,ha,ho,hw⟩
   obtain⟨τ,rfl⟩:=(ac (hv.at 9 rfl (hdep.1 rfl)) az).aO
   have hw:=hw.aS (i:=3) rfl (hdep.1 rfl)
   have hw:=hw.aQ (i:=4) rfl (nf (fun h=>ft hD ((hcl 11 _ rfl h).2.1 rfl)))
   have hw:=hw.aQ (i:=4) rfl hD
   refine RL.dQ (l:=([(⟨ah.bH,an,aj⟩:Piece)]: (List Piece))) zt zr hw [af] zr zr zr Ea Eb (fun M hs g=>⟨(g.sat 3 _ zr).1,zt⟩) fun a0 w hw=>?_
   have hw:=hw.pl 11 [1,2,3,4,0,6,7,8,9,10] rfl
   have hw:=hw.aT (i:=3) (b:=D 9) rfl (hdep.1 rfl) (aI)
   have hw:=hw.aT (i:=4) (b:=true) rfl rfl (aI)
   have hw:=hw.cJ (i:=4) (b:=D 11) rfl (nf (fun h=>ft hD ((hcl 11 _ rfl h).2.1 rfl))) (rd a0 ([(⟨ah.bH,an,aj⟩:Piece)]: (List Piece)))
   exact RL.nil ⟨rfl,(ab,ad,ae,af,a0,aa),hv.put 10 zr zr,ha.up zr,ho.up zr,hw⟩
  ·rintro D σ w hD hdep hcl ⟨⟨ab,ad,ae,af,o,aa⟩,hv,ha,ho,hw⟩
   obtain⟨τ,rfl⟩:=(ac (hv.at 0 rfl (hdep.1 rfl)) (ac (hv.at 10 rfl (hdep.2.1 rfl)) az)).aO
   have hw:=hw.aQ (i:=4) rfl hD
   have hw:=hw.aS (i:=4) rfl (hdep.2.1 rfl)
   have hw:=hw.aQ (i:=9) rfl hD
   have hw:=hw.freeze (i:=4) rfl
   refine RL.app (i:=9) (j:=4) zt zr hw zr zr zr zr Ec bb fun a1 w hw=>?_
   have hw:=hw.aT (i:=4) (b:=true) rfl rfl (bif D 10 then (own 69 o ([(⟨ah.bH,an,aj⟩:Piece)]: (List Piece))) else aI)
   have hw:=hw.aT (i:=9) (b:=true) rfl rfl (own 69 au al)
   have hv:=hv.re 12 rfl (v':=a1) (fun h=>ft hD ((hcl 12 _ rfl h).1 rfl))
   exact RL.nil ⟨rfl,(ab,ad,ae,af,o,a1),hv.put 11 zr zr,ha.up zr,ho.up zr,hw⟩
  rintro D σ w hall ⟨⟨ab,ad,ae,af,o,aa⟩,hv,ha,_,hw⟩
  have hw:=hw.aS (i:=0) rfl (hall 4 (by decide))
  have hw:=hw.aS (i:=1) rfl (hall 5 (by decide))
  have hw:=hw.aS (i:=2) rfl (hall 7 (by decide))
  have hw:=hw.aS (i:=3) rfl (hall 9 (by decide))
  have hw:=hw.aS (i:=4) rfl (hall 11 (by decide))
  have hw:=hw.aS (i:=9) rfl (hall 11 (by decide))
  obtain⟨τ,rfl⟩:=(ac (hv.at 12 rfl (hall 12 (by decide))) (ac (ha.at 0 rfl) (ac (ha.at 1 rfl) (ac (ha.at 2 rfl) (ac (ha.at 3 rfl) az))))).aO
  refine bI (aG (RC.region (RL.inc zt zr hk hm zr zr (mv (vi ((ar+1:Nat):Int)) zr zr (RL.nil ?_)))))
  obtain rfl:=oi hb
  exact⟨rfl,aa,(ag zr),hw.pk 10 [8,9] zr⟩
 intro σ w hJ
 obtain⟨aq,ha,hw⟩:=hJ
 obtain⟨τ,rfl⟩:=ha.aO
 refine aG (RC.sr (mv aq zr zr (aN aq zr zr (aN (vi 0) zr zr (RL.nt (RC.ret ?_))))))
 obtain rfl:=oi hb
 exact kz zr zr zr ⟨aq,zr,hw.pk 2 [1] zr⟩
def sP (E:World) (Γ:List HP) (res: (List (List dC))×Int) (v:Value) (w:World):Prop:=∃u0:Value,v = .tuple #[u0,(vi res.2)]∧Holds E w ([own 40 u0 res.1]++Γ)
theorem rR (N:Nat) {E w:World} {Γ:List HP} {i0:Nat} {v0:Value} {p0:ju} {res: (List (List dC))×Int} (hw:Holds E w Γ) (h0:Γ[i0]? =some (rd v0 p0)) (hb:jw N p0=some res):
    Calls Tryz.prog 7 [v0].toArray w (fu (sP E Γ res)):=by
 unfold jw at hb
 refine enter Tryz.func7 zr zr (Nat.le_of_ble_eq_true zr) ?_
 have hw:=hw.dup (i:=i0+0) h0
 refine RC.sr (RL.dP (i:=0) (v:=v0) zt zr hw zr zr fun b0 w hw=>(aN (.slice none 0 0) zr zr (aN (vi 0) zr zr (RL.ns (RL.aU (i:=0) (f:=(fun x=>x)) zt zr hw zr zr Fd.self tR fun bj hw=>?_)))))
 obtain⟨ab,bk,hb⟩:=bd hb
 refine RL.call zt zr D3 [bj] zr (aF (km N (i0:=0) hw zr bk) ?_)
 rintro _ w hK49
 rcases az:ab.1 with _ | o
 ·replace hb:=Bl az hb
  obtain⟨rfl,hw⟩:=yE az hK49
  refine mv (.tuple #[(.pointer none),(vi ab.2)]) zr zr (RL.extract (v:=(.pointer none)) zt zr zr zr (RL.extract (v:=(vi ab.2)) zt zr zr zr (aN (.pointer none) zr zr (aN (vi ab.2) zr zr (RL.nq (RC.sr (mv (vi ab.2) zr zr (ic (ab.2) 0 zr zr zr zr ?_))))))))
  refine RL.nt (eI hb zr (fun hc hb=>?_) fun hc hb=>?_)
  rotate_left
  ·cases hb
  refine RC.sr (mv (vi ab.2) zr zr (aN (.slice none 0 0) zr zr (aN (vi ab.2) zr zr (RL.nt (RC.rt ?_)))))
  obtain rfl:=oi hb
  have hw:=hw.bW (List dC) 40
  exact kz zr zr zr ⟨(.slice none 0 0),zr,hw.pk 4 [0] zr⟩
 replace hb:=Bm az hb
 obtain⟨aa,ah,ai,aj,ad,ak,al,an,ae,ao,aq,af,ar,rfl,hw⟩:=yF az hK49
 refine mv (.tuple #[(vp aa 0),(vi ab.2)]) zr zr (RL.extract (v:=(vp aa 0)) zt zr zr zr (RL.extract (v:=(vi ab.2)) zt zr zr zr (aN (vp aa 0) zr zr (aN (vi ab.2) zr zr (RL.nq (RC.sr (mv (vi ab.2) zr zr (ic (ab.2) 0 zr zr zr zr ?_))))))))
 refine RL.nt (eI hb zr (fun hc hb=>?_) fun hc hb=>?_)
 ·refine RC.sr (mv (vi ab.2) zr zr (aN (.slice none 0 0) zr zr (aN (vi ab.2) zr zr (RL.nt (RC.rt ?_)))))
  obtain rfl:=oi hb
  have hw:=hw.bW (List dC) 40
  exact kz zr zr zr ⟨(.slice none 0 0),zr,hw.pk 17 [0] zr⟩
 refine RC.sx (aN (.slice none 0 0) zr zr (RL.nq (RC.sr (mv (vp aa 0) zr zr (RL.nilCheck zt zr zr (RL.bD zt zr zr mF (RL.bF (i:=0) (v:=ae) zt zr hw zr zr zr vg (RL.cW (i:=8) (l:=o.2.2.2.2.2.2.2.1) zt zr hw zr zr za ?_))))))))
 refine mv (vi 0) zr zr (RL.nt ?_)
 obtain⟨av,hN,hb⟩:=bd hb
 refine RC.fold (fun(ay:Nat) (av: (List (List dC))) (σ:Nat→Value) (w:World)=>∃a8:Value,agree σ [(4,(vp aa 0)),(6,a8),(22,ae),(23,(vi (o.2.2.2.2.2.2.2.1.length:Int))),(24,(vi (ay:Int)))]∧Holds E w ([bc 57 aa [ah,ai,aj,ad,ak,al,an,ae,ao,aq,af,ar],rd ah o.1,rd ai o.2.1,rd aj o.2.2.1,rd ad o.2.2.2.1,own 63 ak o.2.2.2.2.1,rd al o.2.2.2.2.2.1,rd an o.2.2.2.2.2.2.1,own 42 ae o.2.2.2.2.2.2.2.1,rd ao o.2.2.2.2.2.2.2.2.1,rd aq o.2.2.2.2.2.2.2.2.2.1,own 3 af o.2.2.2.2.2.2.2.2.2.2.1,own 102 ar o.2.2.2.2.2.2.2.2.2.2.2,own 40 a8 av]++Γ)) (fun(av: (List (List dC))) (σ:Nat→Value) (w:World)=>∃a0:Value,agree σ [(4,(vp aa 0)),(6,a0)]∧Holds E w ([bc 57 aa [ah,ai,aj,ad,ak,al,an,ae,ao,aq,af,ar],rd ah o.1,rd ai o.2.1,rd aj o.2.2.1,rd ad o.2.2.2.1,own 63 ak o.2.2.2.2.1,rd al o.2.2.2.2.2.1,rd an o.2.2.2.2.2.2.1,own 42 ae o.2.2.2.2.2.2.2.1,rd ao o.2.2.2.2.2.2.2.2.1,rd aq o.2.2.2.2.2.2.2.2.2.1,own 3 af o.2.2.2.2.2.2.2.2.2.2.1,own 102 ar o.2.2.2.2.2.2.2.2.2.2.2,own 40 a0 av]++Γ)) hN ?_ ?_ ?_ ?_
 ·have hw:=hw.bW (List dC) 40
  exact⟨(.slice none 0 0),(ag zr),hw.pk 17 [1,2,3,4,5,6,7,8,9,10,11,12,13,0] zr⟩
 ·intro hm av σ w hI
  obtain⟨bl,ha,hw⟩:=hI
  obtain⟨τ,rfl⟩:=ha.aO
  refine RC.sr (ic ((o.2.2.2.2.2.2.2.1.length:Int)) ((o.2.2.2.2.2.2.2.1.length:Int)) zr zr zr zr (RL.nq (RC.cG k6 (RC.ex ?_))))
  exact⟨rfl,bl,(ag zr),hw.pk 14 [0,1,2,3,4,5,6,7,8,9,10,11,12,13] zr⟩
 ·intro hm ay av s' σ w hk hI hb
  obtain⟨a9,ha,hw⟩:=hI
  obtain⟨τ,rfl⟩:=ha.aO
  refine RC.sr (ic ((ay:Int)) ((o.2.2.2.2.2.2.2.1.length:Int)) zr zr zr zr (RL.nq (RC.cF (kZ hk) (RC.ss (RC.bs ?_)))))
  obtain⟨a3,a4,hb⟩:=bd hb
  refine RL.aZ (i:=8) zt zr hw zr zr zr tZ a4 (RL.eV (i:=8) (f:=(fun x=>x)) zt zr hw zr (f0 hw (i:=8) zr a4 0) zr (aP a4).2.1 Fd.self BB fun b1 hw=>(RL.alloc zt zr hw Cw.z fun b2 w hw=>(RL.bC (i:=0) (j:=1) zt hw zr zr zr zr BB zr fun w hw=>(RL.ns (RL.bD zt zr zr t3 (RL.aU (i:=0) (f:=(fun x=>x.cB)) zt zr hw zr zr rG zd fun b3 hw=>(RL.bA (i:=0) (l:=a3.cB) zt zr hw zr zr CA (ic ((a3.cB.length:Int)) 0 zr zr zr zr ?_))))))))
  refine RL.nt ?_
  obtain⟨a5,hj,hb⟩:=bd hb
  refine RC.jn (fun(a5: (List (List dC))) (σ:Nat→Value) (w:World)=>∃a1:Value,agree σ [(4,(vp aa 0)),(6,a1),(22,ae),(23,(vi (o.2.2.2.2.2.2.2.1.length:Int))),(24,(vi (ay:Int)))]∧Holds E w ([bc 57 aa [ah,ai,aj,ad,ak,al,an,ae,ao,aq,af,ar],rd ah o.1,rd ai o.2.1,rd aj o.2.2.1,rd ad o.2.2.2.1,own 63 ak o.2.2.2.2.1,rd al o.2.2.2.2.2.1,rd an o.2.2.2.2.2.2.1,own 42 ae o.2.2.2.2.2.2.2.1,rd ao o.2.2.2.2.2.2.2.2.1,rd aq o.2.2.2.2.2.2.2.2.2.1,own 3 af o.2.2.2.2.2.2.2.2.2.2.1,own 102 ar o.2.2.2.2.2.2.2.2.2.2.2,own 40 a1 a5]++Γ)) a5 ?_ ?_
  ·refine eI hj zr (fun hc hj=>?_) fun hc hj=>?_
   rotate_left
   ·refine RC.skip ?_
    obtain rfl:=oi hj
    exact⟨rfl,a9,(ag zr),hw.pk 17 [3,4,5,6,7,8,9,10,11,12,13,14,15,16] zr⟩
   refine RC.region (mv a9 zr zr (RL.bD zt zr zr t3 (RL.aU (i:=1) (f:=(fun x=>x.cB)) zt zr hw zr zr rG zd fun bm hw=>(RL.dQ (l:=([a3.cB]: (List (List dC)))) zt zr hw [bm] zr zr zr BD CB (fun M hs g=>⟨(g.sat 0 _ zr).1,zt⟩) fun b4 w hw=>?_))))
   have hw:=hw.freeze (i:=0) rfl
   obtain⟨b5,bn,hj⟩:=bd hj
   refine RL.app (i:=18) (j:=0) zt zr hw zr zr zr zr CC bn fun ba w hw=>(aN ba zr zr (RL.nil ?_))
   obtain rfl:=oi hj
   exact⟨rfl,ba,(ag zr),hw.pk 19 [5,6,7,8,9,10,11,12,13,14,15,16,17,18] zr⟩
  rintro σ w ⟨a1,ha,hw⟩
  obtain⟨τ,rfl⟩:=ha.aO
  refine bI (aG (RC.region (RL.inc zt zr hk hm zr zr (mv (vi ((ay+1:Nat):Int)) zr zr (RL.nil ?_)))))
  obtain rfl:=oi hb
  exact⟨rfl,a1,(ag zr),hw.pk 14 [0,1,2,3,4,5,6,7,8,9,10,11,12,13] zr⟩
 intro σ w hJ
 obtain⟨a0,ha,hw⟩:=hJ
 obtain⟨τ,rfl⟩:=ha.aO
 refine aG (RC.seq (RC.sr (mv (vp aa 0) zr zr (RL.nilCheck zt zr zr (RL.bD zt zr zr lQ (RL.bD zt zr zr p8 (RL.bF (i:=0) (v:=ad) zt zr hw zr zr zr xN (RL.bA (i:=4) (l:=o.2.2.2.1) zt zr hw zr zr yX ?_))))))))
 refine mv (vi 0) zr zr (RL.nt ?_)
 obtain⟨aw,hN,hb⟩:=bd hb
 refine RC.fold (fun(au:Nat) (aw: (List (List dC))) (σ:Nat→Value) (w:World)=>∃bb:Value,agree σ [(4,(vp aa 0)),(6,bb),(42,ad),(43,(vi (o.2.2.2.1.length:Int))),(44,(vi (au:Int)))]∧Holds E w ([bc 57 aa [ah,ai,aj,ad,ak,al,an,ae,ao,aq,af,ar],rd ah o.1,rd ai o.2.1,rd aj o.2.2.1,rd ad o.2.2.2.1,own 63 ak o.2.2.2.2.1,rd al o.2.2.2.2.2.1,rd an o.2.2.2.2.2.2.1,own 42 ae o.2.2.2.2.2.2.2.1,rd ao o.2.2.2.2.2.2.2.2.1,rd aq o.2.2.2.2.2.2.2.2.2.1,own 3 af o.2.2.2.2.2.2.2.2.2.2.1,own 102 ar o.2.2.2.2.2.2.2.2.2.2.2,own 40 bb aw]++Γ)) (fun(aw: (List (List dC))) (σ:Nat→Value) (w:World)=>∃ax:Value,agree σ [(6,ax)]∧Holds E w ([bc 57 aa [ah,ai,aj,ad,ak,al,an,ae,ao,aq,af,ar],rd ah o.1,rd ai o.2.1,rd aj o.2.2.1,rd ad o.2.2.2.1,own 63 ak o.2.2.2.2.1,rd al o.2.2.2.2.2.1,rd an o.2.2.2.2.2.2.1,own 42 ae o.2.2.2.2.2.2.2.1,rd ao o.2.2.2.2.2.2.2.2.1,rd aq o.2.2.2.2.2.2.2.2.2.1,own 3 af o.2.2.2.2.2.2.2.2.2.2.1,own 102 ar o.2.2.2.2.2.2.2.2.2.2.2,own 40 ax aw]++Γ)) hN ?_ ?_ ?_ ?_
 ·exact⟨a0,(ag zr),hw.pk 14 [0,1,2,3,4,5,6,7,8,9,10,11,12,13] zr⟩
 ·intro hm aw σ w hI
  obtain⟨bo,ha,hw⟩:=hI
  obtain⟨τ,rfl⟩:=ha.aO
  refine RC.sr (ic ((o.2.2.2.1.length:Int)) ((o.2.2.2.1.length:Int)) zr zr zr zr (RL.nq (RC.cG k6 (RC.ex ?_))))
  exact⟨rfl,bo,⟨rfl,zt⟩,hw.pk 14 [0,1,2,3,4,5,6,7,8,9,10,11,12,13] zr⟩
 ·intro hm au aw s' σ w hk hI hb
  obtain⟨bf,ha,hw⟩:=hI
  obtain⟨τ,rfl⟩:=ha.aO
  refine RC.sr (ic ((au:Int)) ((o.2.2.2.1.length:Int)) zr zr zr zr (RL.nq (RC.cF (kZ hk) (RC.ss (RC.bs (mv (vi (au:Int)) zr zr ?_))))))
  obtain⟨bp,bq,hb⟩:=bd hb
  refine RL.bO (i:=4) zt zr hw zr zr zr Aq bq fun b6 hw=>(RL.bT (i:=0) (x:=bp) zt zr hw zr zr rJ fun b7 hw=>(RL.alloc zt zr hw Bq.z fun b8 w hw=>(aN (vi (au:Int)) zr zr (RL.bC (i:=0) (j:=1) zt hw zr zr zr zr rJ zr fun w hw=>(RL.ns (mv (vp aa 0) zr zr (RL.nilCheck zt zr zr (RL.bD zt zr zr wu ?_))))))))
  refine RL.bF (i:=3) (v:=af) zt zr hw zr zr zr cT (mv (vi (au:Int)) zr zr ?_)
  obtain⟨br,a6,hb⟩:=bd hb
  refine RL.aZ (i:=14) zt zr hw zr zr zr dB a6 (RL.cK (i:=14) (f:=(fun x=>x)) zt zr hw zr (f0 hw (i:=14) zr a6 0) zr (aP a6).2.1 Fd.self bV (ic br 0 zr zr zr zr (RL.nt ?_)))
  obtain⟨a7,hj,hb⟩:=bd hb
  refine RC.jn (fun(a7: (List (List dC))) (σ:Nat→Value) (w:World)=>∃a2:Value,agree σ [(4,(vp aa 0)),(6,a2),(42,ad),(43,(vi (o.2.2.2.1.length:Int))),(44,(vi (au:Int)))]∧Holds E w ([bc 57 aa [ah,ai,aj,ad,ak,al,an,ae,ao,aq,af,ar],rd ah o.1,rd ai o.2.1,rd aj o.2.2.1,rd ad o.2.2.2.1,own 63 ak o.2.2.2.2.1,rd al o.2.2.2.2.2.1,rd an o.2.2.2.2.2.2.1,own 42 ae o.2.2.2.2.2.2.2.1,rd ao o.2.2.2.2.2.2.2.2.1,rd aq o.2.2.2.2.2.2.2.2.2.1,own 3 af o.2.2.2.2.2.2.2.2.2.2.1,own 102 ar o.2.2.2.2.2.2.2.2.2.2.2,own 40 a2 a7]++Γ)) a7 ?_ ?_
  ·refine eI hj zr (fun hc hj=>?_) fun hc hj=>?_
   rotate_left
   ·refine RC.skip ?_
    obtain rfl:=oi hj
    exact⟨rfl,bf,(ag zr),hw.pk 17 [3,4,5,6,7,8,9,10,11,12,13,14,15,16] zr⟩
   refine RC.region (mv bf zr zr (RL.aU (i:=0) (f:=(fun x=>x)) zt zr hw zr zr Fd.self rJ fun bt hw=>?_))
   obtain⟨bg,bu,hj⟩:=bd hj
   refine RL.call zt zr Ar [bt] zr (aF (iC N (i0:=0) hw zr bu) ?_)
   rintro bw w hw
   refine RL.dQ (l:=([bg]: (List dC))) zt zr hw [bw] zr zr zr Cy Bs (fun M hs g=>⟨(g.sat 0 _ zr).1,zt⟩) fun bx w hw=>?_
   have hw:=hw.freeze (i:=0) rfl
   refine RL.dQ (l:=([([bg]: (List dC))]: (List (List dC)))) zt zr hw [bx] zr zr zr BD CB (fun M hs g=>⟨(g.sat 0 _ zr).1,zt⟩) fun b9 w hw=>?_
   have hw:=hw.freeze (i:=0) rfl
   obtain⟨ca,bz,hj⟩:=bd hj
   refine RL.app (i:=20) (j:=0) zt zr hw zr zr zr zr CC bz fun bh w hw=>(aN bh zr zr (RL.nil ?_))
   obtain rfl:=oi hj
   exact⟨rfl,bh,(ag zr),hw.pk 21 [7,8,9,10,11,12,13,14,15,16,17,18,19,20] zr⟩
  rintro σ w ⟨a2,ha,hw⟩
  obtain⟨τ,rfl⟩:=ha.aO
  refine bI (aG (RC.region (RL.inc zt zr hk hm zr zr (mv (vi ((au+1:Nat):Int)) zr zr (RL.nil ?_)))))
  obtain rfl:=oi hb
  exact⟨rfl,a2,(ag zr),hw.pk 14 [0,1,2,3,4,5,6,7,8,9,10,11,12,13] zr⟩
 intro σ w hJ
 obtain⟨ax,ha,hw⟩:=hJ
 obtain⟨τ,rfl⟩:=ha.aO
 refine aG (RC.sr (mv ax zr zr (aN ax zr zr (aN (vi 0) zr zr (RL.nt (RC.ret ?_))))))
 obtain rfl:=oi hb
 exact kz zr zr zr ⟨ax,zr,hw.pk 14 [13] zr⟩
def kn (E:World) (Γ:List HP) (res:Int) (v:Value) (w:World):Prop:=v= (vi res)∧Holds E w Γ
def ox (E:World) (Γ:List HP) (r:Int) (σ:Nat→Value) (w:World):Prop:=jU Tryz.prog 19 Tryz.f14 (kn E Γ r) .ret σ w
theorem nQ (N:Nat) {E w:World} {Γ:List HP} {i0:Nat} {v0:Value} {p0: (List Int)} {p1:Int} {res:Int} (hw:Holds E w Γ) (h0:Γ[i0]? =some (rd v0 p0)) (hb:jh N p0 p1=some res):
    Calls Tryz.prog 14 [v0,(vi p1)].toArray w (fu (kn E Γ res)):=by
 unfold jh at hb
 refine enter Tryz.func14 zr zr (Nat.le_of_ble_eq_true zr) ?_
 have hw:=hw.dup (i:=i0+0) h0
 refine RC.sr (aN (vi 0) zr zr (RL.nq (RC.sr (mv v0 zr zr (RL.bA (i:=0) (l:=p0) zt zr hw zr zr iO (mv (vi 0) zr zr (RL.nt ?_)))))))
 obtain⟨ad,hN,hb⟩:=bd hb
 refine RC.range (fun(j:Nat) (o:Unit) (σ:Nat→Value) (w:World)=>agree σ [(0,v0),(1,(vi p1)),(7,(vi (p0.length:Int))),(8,(vi (j:Int)))]∧Holds E w ([rd v0 p0]++Γ)) (fun(o:Unit) (σ:Nat→Value) (w:World)=>agree σ []∧Holds E w ([rd v0 p0]++Γ)) (ox E Γ) hN ?_ ?_ ?_ ?_ ?_
 ·exact⟨(ag zr),hw.pk 1 [0] zr⟩
 ·intro hm o σ w hI
  obtain⟨ha,hw⟩:=hI
  obtain⟨τ,rfl⟩:=ha.aO
  refine RC.sr (ic ((p0.length:Int)) ((p0.length:Int)) zr zr zr zr (RL.nq (RC.cG k6 (RC.ex ?_))))
  exact⟨rfl,zt,hw.pk 1 [0] zr⟩
 ·intro hm j o fl σ w hk hI hb
  obtain⟨ha,hw⟩:=hI
  obtain⟨τ,rfl⟩:=ha.aO
  refine RC.sr (ic ((j:Int)) ((p0.length:Int)) zr zr zr zr (RL.nq (RC.cF (kZ hk) (RC.ss (RC.bs (mv (vi (j:Int)) zr zr (aN (vi (j:Int)) zr zr (RL.ns ?_))))))))
  refine mv (vi p1) zr zr (mv v0 zr zr (mv (vi (j:Int)) zr zr ?_))
  obtain⟨aa,ab,hb⟩:=bd hb
  refine RL.bO (i:=0) zt zr hw zr zr zr dB ab fun ae hw=>(RL.aY (i:=0) (y:=aa) zt zr hw zr zr bV (ic p1 aa zr zr zr zr (RL.nt (eI hb zr (fun hc hb=>?_) fun hc hb=>?_))))
  rotate_left
  ·refine RC.skip (bI (aG (RC.region (RL.inc zt zr hk hm zr zr (mv (vi ((j+1:Nat):Int)) zr zr (RL.nil ?_))))))
   obtain rfl:=oi hb
   exact⟨rfl,(ag zr),hw.pk 2 [1] zr⟩
  refine RC.sr (mv (vi (j:Int)) zr zr (aN (vi (j:Int)) zr zr (RL.nt (RC.rb (bK ?_)))))
  obtain rfl:=oi hb
  exact⟨rfl,bQ zr zr ⟨rfl,hw.drop 2 zr⟩⟩
 ·intro r σ w e hK
  subst e
  refine bK ?_
  obtain rfl:=oi hb
  exact hK
 intro o σ w e hJ
 subst e
 rw [Fo.eC] at hb
 obtain⟨ha,hw⟩:=hJ
 obtain⟨τ,rfl⟩:=ha.aO
 refine aG (RC.sr (aN (vi (-1)) zr zr (RL.nt (RC.ret ?_))))
 obtain rfl:=oi hb
 exact bQ zr zr ⟨rfl,hw.drop 1 zr⟩
def mq (E:World) (Γ:List HP) (res:Bool) (v:Value) (w:World):Prop:=v= (vb res)∧Holds E w Γ
theorem lU (N:Nat) {E w:World} {Γ:List HP} {i0:Nat} {v0:Value} {p0: (List Int)} {p1:Int} {res:Bool} (hw:Holds E w Γ) (h0:Γ[i0]? =some (rd v0 p0)) (hb:fM N p0 p1=some res):
    Calls Tryz.prog 8 [v0,(vi p1)].toArray w (fu (mq E Γ res)):=by
 unfold fM at hb
 refine enter Tryz.func8 zr zr (Nat.le_of_ble_eq_true zr) ?_
 have hw:=hw.dup (i:=i0+0) h0
 refine RC.sr (aN (vb false) zr zr (RL.ns (mv v0 zr zr (mv (vi p1) zr zr ?_))))
 obtain⟨j,o,hb⟩:=bd hb
 refine RL.call zt zr Ed [v0,(vi p1)] zr (aF (nQ N (p1:=p1) (i0:=0) hw zr o) ?_)
 rintro _ w ⟨rfl,hw⟩
 refine ic j 0 zr zr zr zr (aN (vb (decide (j≥0))) zr zr (RL.nt (RC.ret ?_)))
 obtain rfl:=oi hb
 exact bQ zr zr ⟨rfl,hw.drop 1 zr⟩
def fo (E:World) (Γ:List HP) (res:Bool) (v:Value) (w:World):Prop:=v= (vb res)∧Holds E w Γ
def dI (E:World) (Γ:List HP) (r:Bool) (σ:Nat→Value) (w:World):Prop:=jU Tryz.prog 144 Tryz.f3 (fo E Γ r) .ret σ w
theorem iu (N:Nat) {E w:World} {Γ:List HP} {i0:Nat} {v0:Value} {p0:ju} {res:Bool} (hw:Holds E w Γ) (h0:Γ[i0]? =some (rd v0 p0)) (hb:cM N p0=some res):
    Calls Tryz.prog 3 [v0].toArray w (fu (fo E Γ res)):=by
 unfold cM at hb
 refine enter Tryz.func3 zr zr (Nat.le_of_ble_eq_true zr) ?_
 have hw:=hw.dup (i:=i0+0) h0
 refine RC.sr (RL.dP (i:=0) (v:=v0) zt zr hw zr zr fun ae w hw=>(aN (vb false) zr zr (RL.ns (RL.aU (i:=0) (f:=(fun x=>x)) zt zr hw zr zr Fd.self tR fun a9 hw=>?_))))
 obtain⟨aj,ba,hb⟩:=bd hb
 refine RL.call zt zr EI [a9] zr (aF (qs N (i0:=0) hw zr ba) ?_)
 rintro _ w ⟨ah,rfl,hw⟩
 refine mv (.tuple #[ah,(vi aj.2)]) zr zr (RL.extract (v:=ah) zt zr zr zr (RL.extract (v:=(vi aj.2)) zt zr zr zr (aN ah zr zr (aN (vi aj.2) zr zr (RL.nq (RC.sr (mv (vi aj.2) zr zr (ic (aj.2) 0 zr zr zr zr ?_))))))))
 refine RL.nt (eI hb zr (fun hc hb=>?_) fun hc hb=>?_)
 ·refine RC.seq ?_
  obtain⟨a0,hj,hb⟩:=bd hb
  refine RC.jn (fun(a0:Bool) (σ:Nat→Value) (w:World)=>agree σ [(2,(vb a0))]∧Holds E w ([]++Γ)) a0 ?_ ?_
  ·refine RC.region (mv ah zr zr (RL.cW (i:=0) (l:=aj.1) zt zr hw zr zr za (ic ((aj.1.length:Int)) 0 zr zr zr zr (mv (vb ((aj.1.length:Int)==0)) zr zr (fW hj (fun ar hj=>?_) fun ar hj=>?_)))))
   rotate_left
   ·refine sk rfl (.inl (cb ar)) rfl (RL.pick (b:=((aj.1.length:Int)==0)) (v:=(vb false)) trivial rfl rfl (by rw [ar];rfl) (aN (vb false) rfl rfl (RL.nil ?_)))
    obtain rfl:=oi hj
    exact⟨rfl,⟨rfl,zt⟩,hw.pk 4 [] zr⟩
   obtain⟨a6,bb,hj⟩:=bd hj
   refine RL.call (cg ar) zr Eu [] zr (aF (i5 N hw bb) ?_)
   rintro _ w ⟨rfl,hw⟩
   refine RL.pick (b:=((aj.1.length:Int)==0)) (v:=(vb a6)) trivial rfl rfl (by rw [ar];rfl) (aN (vb a6) rfl rfl (RL.nil ?_))
   obtain rfl:=oi hj
   exact⟨rfl,⟨rfl,zt⟩,hw.pk 4 [] zr⟩
  rintro σ w ⟨ha,hw⟩
  obtain⟨τ,rfl⟩:=ha.aO
  refine aG (RC.rt ?_)
  obtain rfl:=oi hb
  exact bQ zr zr ⟨rfl,hw.drop 0 zr⟩
 refine RC.sx (RL.aU (i:=2) (f:=(fun x=>x)) zt zr hw zr zr Fd.self tR fun bc hw=>?_)
 obtain⟨o,bf,hb⟩:=bd hb
 refine RL.call zt zr EJ [bc] zr (aF (qt N (i0:=0) hw zr bf) ?_)
 rintro _ w ⟨ab,rfl,hw⟩
 refine mv (.tuple #[ab,(vi o.2)]) zr zr (RL.extract (v:=ab) zt zr zr zr (RL.extract (v:=(vi o.2)) zt zr zr zr (aN ab zr zr (aN (vi o.2) zr zr (RL.ns (RL.aU (i:=4) (f:=(fun x=>x)) zt zr hw zr zr Fd.self tR fun bg hw=>?_))))))
 obtain⟨af,bh,hb⟩:=bd hb
 refine RL.call zt zr EK [bg] zr (aF (rR N (i0:=0) hw zr bh) ?_)
 rintro _ w ⟨ad,rfl,hw⟩
 refine mv (.tuple #[ad,(vi af.2)]) zr zr (RL.extract (v:=ad) zt zr zr zr (RL.extract (v:=(vi af.2)) zt zr zr zr (aN ad zr zr (aN (vi af.2) zr zr (RL.nq (RC.sr (mv (vi o.2) zr zr (ic (o.2) 0 zr zr zr zr ?_))))))))
 refine mv (vb (o.2 != 0)) rfl rfl (RL.gs (c:=true) (b:=(o.2 != 0)) (v:=(vi af.2)) rfl rfl rfl (cR rfl (fun _=>rfl)) (RL.gs (c:=true) (b:=(o.2 != 0)) (v:=(vb (af.2 != 0))) rfl rfl rfl (dO (bop:= .neq) (K:= .i64) (a:=af.2) (b:=0) rfl (fun h=>by exact(cD h:cv (true&&((o.2 != 0)==false)) (vi af.2)= (vi af.2))) (fun _=>rfl) rfl) (RL.pick (b:=(o.2 != 0)) (v:=(vb ((o.2 != 0)||(af.2 != 0)))) trivial rfl rfl (mw (c:=true) rfl) (RL.nt (eI hb rfl (fun hc hb=>?_) fun hc hb=>?_)))))
 ·refine RC.sr (aN (vb false) zr zr (RL.nt (RC.rt ?_)))
  obtain rfl:=oi hb
  exact bQ zr zr ⟨rfl,hw.drop 8 zr⟩
 refine RC.sx (aN (vi 0) zr zr (aN (vi 0) zr zr (aN (vi 0) zr zr (aN (vi 0) zr zr (RL.nq (RC.sr (aN (vi 0) zr zr (RL.nt ?_))))))))
 obtain⟨bp,hN,hb⟩:=bd hb
 refine RC.iter (fun(j:Int×Int×Int) (σ:Nat→Value) (w:World)=>agree σ [(1,(vp ae 0)),(3,ah),(5,ab),(6,ad),(8,(vi j.1)),(9,(vi j.2.1)),(10,(vi 0)),(11,(vi 0)),(12,(vi j.2.2))]∧Holds E w ([bx 27 ae p0,own 42 ah aj.1,own 69 ab o.1,own 40 ad af.1]++Γ)) (fun(j:Int×Int×Int) (σ:Nat→Value) (w:World)=>agree σ [(1,(vp ae 0)),(5,ab),(6,ad),(8,(vi j.1)),(9,(vi j.2.1)),(10,(vi 0)),(11,(vi 0))]∧Holds E w ([bx 27 ae p0,own 42 ah aj.1,own 69 ab o.1,own 40 ad af.1]++Γ)) (dI E Γ) hN ?_ ?_ ?_ ?_
 ·exact⟨(ag zr),hw.pk 8 [6,4,2,0] zr⟩
 ·intro j fl σ w hI hb
  obtain⟨ha,hw⟩:=hI
  obtain⟨τ,rfl⟩:=ha.aO
  refine RC.seq (RC.sr (mv (vi j.2.2) zr zr (mv ah zr zr (RL.cW (i:=1) (l:=aj.1) zt zr hw zr zr za (ic (j.2.2) ((aj.1.length:Int)) zr zr zr zr (RL.nt (eI hb zr (fun hc hb=>?_) fun hc hb=>?_)))))))
  rotate_left
  ·refine RC.ex ?_
   obtain rfl:=oi hb
   exact⟨rfl,(ag zr),hw.pk 4 [0,1,2,3] zr⟩
  refine RC.ss (RC.bs (mv (vi j.1) zr zr (mv ah zr zr (mv (vi j.2.2) zr zr ?_))))
  obtain⟨ao,av,hb⟩:=bd hb
  refine RL.aZ (i:=1) zt zr hw zr zr zr tZ av (RL.gO (α:=aX) zt zr zr (f0 hw (i:=1) zr av 0) og (RL.eV (i:=1) (f:=(fun x=>x.bY)) zt zr hw zr (f0 hw (i:=1) zr av 0) zr (aP av).2.1 lP cT fun bq hw=>(RL.bA (i:=0) (l:=ao.bY) zt zr hw zr zr iO (RL.gq (a:=j.1) (b:=(ao.bY.length:Int)) zt zr zr zr zr (aN (vi (IntKind.wrap .i64 (j.1+ (ao.bY.length:Int)))) zr zr (RL.ns (mv (vi j.2.1) zr zr (mv ah zr zr ?_))))))))
  refine mv (vi j.2.2) zr zr ?_
  obtain⟨aq,aw,hb⟩:=bd hb
  refine RL.aZ (i:=2) zt zr hw zr zr zr tZ aw (RL.gO (α:=aX) zt zr zr (f0 hw (i:=2) zr aw 0) tY (RL.eV (i:=2) (f:=(fun x=>x.aK)) zt zr hw zr (f0 hw (i:=2) zr aw 1) zr (aP aw).2.1 v9 cT fun br hw=>(RL.bA (i:=0) (l:=aq.aK) zt zr hw zr zr iO (RL.gq (a:=j.2.1) (b:=(aq.aK.length:Int)) zt zr zr zr zr (aN (vi (IntKind.wrap .i64 (j.2.1+ (aq.aK.length:Int)))) zr zr (RL.ns (aN (vi 0) zr zr (RL.nt ?_))))))))
  obtain⟨bt,hN,hb⟩:=bd hb
  refine RC.iter (fun(al:Int) (σ:Nat→Value) (w:World)=>agree σ [(1,(vp ae 0)),(3,ah),(5,ab),(6,ad),(8,(vi (IntKind.wrap .i64 (j.1+ (ao.bY.length:Int))))),(9,(vi (IntKind.wrap .i64 (j.2.1+ (aq.aK.length:Int))))),(10,(vi 0)),(11,(vi 0)),(12,(vi j.2.2)),(13,(vi al))]∧Holds E w ([bx 27 ae p0,own 42 ah aj.1,own 69 ab o.1,own 40 ad af.1]++Γ)) (fun(al:Int) (σ:Nat→Value) (w:World)=>agree σ [(1,(vp ae 0)),(3,ah),(5,ab),(6,ad),(8,(vi (IntKind.wrap .i64 (j.1+ (ao.bY.length:Int))))),(9,(vi (IntKind.wrap .i64 (j.2.1+ (aq.aK.length:Int))))),(10,(vi 0)),(11,(vi 0)),(12,(vi j.2.2))]∧Holds E w ([bx 27 ae p0,own 42 ah aj.1,own 69 ab o.1,own 40 ad af.1]++Γ)) (dI E Γ) hN ?_ ?_ ?_ ?_
  ·exact⟨(ag zr),hw.pk 6 [2,3,4,5] zr⟩
  ·intro al fl σ w hI hb
   obtain⟨ha,hw⟩:=hI
   obtain⟨τ,rfl⟩:=ha.aO
   refine RC.seq (RC.sr (mv (vi al) zr zr (mv (vi j.2.2) zr zr (ic al (j.2.2) zr zr zr zr (RL.nt (eI hb zr (fun hc hb=>?_) fun hc hb=>?_))))))
   rotate_left
   ·refine RC.ex ?_
    obtain rfl:=oi hb
    exact⟨rfl,(ag zr),hw.pk 4 [0,1,2,3] zr⟩
   refine RC.ss (RC.bs (aN (vi 0) zr zr (RL.nt ?_)))
   obtain⟨bu,hN,hb⟩:=bd hb
   refine RC.iter (fun(an:Int) (σ:Nat→Value) (w:World)=>agree σ [(1,(vp ae 0)),(3,ah),(5,ab),(6,ad),(8,(vi (IntKind.wrap .i64 (j.1+ (ao.bY.length:Int))))),(9,(vi (IntKind.wrap .i64 (j.2.1+ (aq.aK.length:Int))))),(10,(vi 0)),(11,(vi 0)),(12,(vi j.2.2)),(13,(vi al)),(14,(vi an))]∧Holds E w ([bx 27 ae p0,own 42 ah aj.1,own 69 ab o.1,own 40 ad af.1]++Γ)) (fun(an:Int) (σ:Nat→Value) (w:World)=>agree σ [(1,(vp ae 0)),(3,ah),(5,ab),(6,ad),(8,(vi (IntKind.wrap .i64 (j.1+ (ao.bY.length:Int))))),(9,(vi (IntKind.wrap .i64 (j.2.1+ (aq.aK.length:Int))))),(10,(vi 0)),(11,(vi 0)),(12,(vi j.2.2)),(13,(vi al))]∧Holds E w ([bx 27 ae p0,own 42 ah aj.1,own 69 ab o.1,own 40 ad af.1]++Γ)) (dI E Γ) hN ?_ ?_ ?_ ?_
   ·exact⟨(ag zr),hw.pk 4 [0,1,2,3] zr⟩
   ·intro an fl σ w hI hb
    obtain⟨ha,hw⟩:=hI
    obtain⟨τ,rfl⟩:=ha.aO
    refine RC.seq (RC.sr (mv (vi an) zr zr (mv ah zr zr (mv (vi j.2.2) zr zr ?_))))
    obtain⟨a7,ax,hb⟩:=bd hb
    refine RL.aZ (i:=1) zt zr hw zr zr zr tZ ax (RL.gO (α:=aX) zt zr zr (f0 hw (i:=1) zr ax 0) og (RL.eV (i:=1) (f:=(fun x=>x.bY)) zt zr hw zr (f0 hw (i:=1) zr ax 0) zr (aP ax).2.1 lP cT fun bw hw=>(RL.bA (i:=0) (l:=a7.bY) zt zr hw zr zr iO (ic an ((a7.bY.length:Int)) zr zr zr zr (RL.nt (eI hb zr (fun hc hb=>?_) fun hc hb=>?_))))))
    rotate_left
    ·refine RC.ex ?_
     obtain rfl:=oi hb
     exact⟨rfl,(ag zr),hw.pk 5 [1,2,3,4] zr⟩
    refine RC.ss (RC.block (RC.seq (RC.An mixed rfl [0,0,0,0,0,0,0,0,0,0,0,0,0,2] [0,1,2,3,4,5,6,7,8,9,10,11,12,13] (by kernel_rfl) ?_)))
    have hw:=hw.drew
    refine DP.e0 zr zr (mv ah zr zr (cY zr zr (mv (vi al) zr zr (cY zr zr ?_))))
    obtain⟨bz,ay,hb⟩:=bd hb
    refine RL.aZ (i:=2) zt zr hw zr zr zr tZ ay (cY zr zr (RL.gO (α:=aX) zt zr zr (f0 hw (i:=2) zr ay 0) og (cY zr zr (RL.eV (i:=2) (f:=(fun x=>x.bY)) zt zr hw zr (f0 hw (i:=2) zr ay 0) zr (aP ay).2.1 lP cT fun bj hw=>(cY zr zr (mv ah zr zr (cY zr zr (mv (vi j.2.2) zr zr ?_))))))))
    refine cY zr zr ?_
    obtain⟨b0,az,hb⟩:=bd hb
    refine RL.aZ (i:=3) zt zr hw zr zr zr tZ az (cY zr zr (RL.gO (α:=aX) zt zr zr (f0 hw (i:=3) zr az 0) og (cY zr zr (RL.eV (i:=3) (f:=(fun x=>x.bY)) zt zr hw zr (f0 hw (i:=3) zr az 0) zr (aP az).2.1 lP cT fun b1 hw=>(cY zr zr (mv (vi an) zr zr (cY zr zr ?_)))))))
    obtain⟨a1,bk,hb⟩:=bd hb
    refine RL.bO (i:=0) zt zr hw zr zr zr dB bk fun b2 hw=>(cY zr zr (RL.aY (i:=0) (y:=a1) zt zr hw zr zr bV (yO zr zr ?_)))
    obtain⟨b3,bl,hb⟩:=bd hb
    refine RL.call zt zr EL [bj,(vi a1)] zr (aF (lU N (p1:=a1) (i0:=2) hw zr bl) ?_)
    rintro _ w ⟨rfl,hw⟩
    refine DP.d2 zt (DP.z (aG (eI hb zr (fun hc hb=>?_) fun hc hb=>?_)))
    ·refine RC.sr (aN (vb false) zr zr (RL.nt (RC.rb (bK ?_))))
     obtain rfl:=oi hb
     exact⟨rfl,bQ zr zr ⟨rfl,hw.drop 8 zr⟩⟩
    refine RC.skip (bI (aG (RC.region (mv (vi an) zr zr (RL.gq (a:=an) (b:=1) zt zr zr zr zr (aN (vi (IntKind.wrap .i64 (an+1))) zr zr (RL.nil ?_)))))))
    obtain rfl:=oi hb
    exact⟨rfl,(ag zr),hw.pk 8 [4,5,6,7] zr⟩
   ·intro r σ w e hK
    subst e
    refine j7 (bK ?_)
    obtain rfl:=oi hb
    exact⟨rfl,hK⟩
   intro an σ w e hJ
   subst e
   rw [Fo.eC] at hb
   obtain⟨ha,hw⟩:=hJ
   obtain⟨τ,rfl⟩:=ha.aO
   refine bI (aG (RC.region (mv (vi al) zr zr (RL.gq (a:=al) (b:=1) zt zr zr zr zr (aN (vi (IntKind.wrap .i64 (al+1))) zr zr (RL.nil ?_))))))
   obtain rfl:=oi hb
   exact⟨rfl,(ag zr),hw.pk 4 [0,1,2,3] zr⟩
  ·intro r σ w e hK
   subst e
   refine j7 (bK ?_)
   obtain rfl:=oi hb
   exact⟨rfl,hK⟩
  intro al σ w e hJ
  subst e
  rw [Fo.eC] at hb
  obtain⟨ha,hw⟩:=hJ
  obtain⟨τ,rfl⟩:=ha.aO
  refine bI (aG (RC.region (mv (vi j.2.2) zr zr (RL.gq (a:=j.2.2) (b:=1) zt zr zr zr zr (aN (vi (IntKind.wrap .i64 (j.2.2+1))) zr zr (RL.nil ?_))))))
  obtain rfl:=oi hb
  exact⟨rfl,(ag zr),hw.pk 4 [0,1,2,3] zr⟩
 ·intro r σ w e hK
  subst e
  refine bK ?_
  obtain rfl:=oi hb
  exact hK
 intro j σ w e hJ
 subst e
 rw [Fo.eC] at hb
 obtain⟨ha,hw⟩:=hJ
 obtain⟨τ,rfl⟩:=ha.aO
 refine aG (RC.seq (RC.sr (aN (vi 0) zr zr (RL.nt ?_))))
 obtain⟨b4,hN,hb⟩:=bd hb
 refine RC.iter (fun(aa:Int×Int) (σ:Nat→Value) (w:World)=>agree σ [(1,(vp ae 0)),(5,ab),(6,ad),(8,(vi j.1)),(9,(vi j.2.1)),(10,(vi aa.1)),(11,(vi 0)),(15,(vi aa.2))]∧Holds E w ([bx 27 ae p0,own 69 ab o.1,own 40 ad af.1]++Γ)) (fun(aa:Int×Int) (σ:Nat→Value) (w:World)=>agree σ [(1,(vp ae 0)),(5,ab),(6,ad),(8,(vi j.1)),(9,(vi j.2.1)),(10,(vi aa.1)),(11,(vi 0))]∧Holds E w ([bx 27 ae p0,own 69 ab o.1,own 40 ad af.1]++Γ)) (fun(r:Empty) (_:Nat→Value) (_:World)=>r.elim) hN ?_ ?_ ?_ ?_
 ·exact⟨(ag zr),hw.pk 4 [0,2,3] zr⟩
 ·intro aa fl σ w hI hb
  obtain⟨ha,hw⟩:=hI
  obtain⟨τ,rfl⟩:=ha.aO
  refine RC.seq (RC.sr (mv (vi aa.2) zr zr (RL.bD zt zr zr jM (RL.aU (i:=0) (f:=(fun x=>x.aK)) zt zr hw zr zr kb qQ fun b5 hw=>(RL.bA (i:=0) (l:=p0.aK) zt zr hw zr zr sL (ic (aa.2) ((p0.aK.length:Int)) zr zr zr zr (RL.nt (eI hb zr (fun hc hb=>?_) fun hc hb=>?_))))))))
  rotate_left
  ·refine RC.ex ?_
   obtain rfl:=oi hb
   exact⟨rfl,(ag zr),hw.pk 4 [1,2,3] zr⟩
  refine RC.ss (RC.bs (RL.bD zt zr zr jM (RL.aU (i:=1) (f:=(fun x=>x.aK)) zt zr hw zr zr kb qQ fun b6 hw=>(mv (vi aa.2) zr zr ?_))))
  obtain⟨bm,bn,hb⟩:=bd hb
  refine RL.bO (i:=0) zt zr hw zr zr zr tT bn fun b7 hw=>(RL.gJ (i:=0) (f:=fun(x:bB)=>x.bP) zt zr hw zr zr p9 j5 fun b8 hw=>(RL.aY (i:=0) (y:=bm.bP) zt zr hw zr zr Bw (RL.nt ?_)))
  obtain⟨a2,hj,hb⟩:=bd hb
  refine RC.jn (fun(a2:Int) (σ:Nat→Value) (w:World)=>agree σ [(1,(vp ae 0)),(5,ab),(6,ad),(8,(vi j.1)),(9,(vi j.2.1)),(10,(vi a2)),(11,(vi 0)),(15,(vi aa.2))]∧Holds E w ([bx 27 ae p0,own 69 ab o.1,own 40 ad af.1]++Γ)) a2 ?_ ?_
  ·refine eI hj zr (fun hc hj=>?_) fun hc hj=>?_
   rotate_left
   ·refine RC.skip ?_
    obtain rfl:=oi hj
    exact⟨rfl,(ag zr),hw.pk 7 [4,5,6] zr⟩
   refine RC.region (mv (vi aa.1) zr zr (RL.gq (a:=aa.1) (b:=1) zt zr zr zr zr (aN (vi (IntKind.wrap .i64 (aa.1+1))) zr zr (RL.nil ?_))))
   obtain rfl:=oi hj
   exact⟨rfl,(ag zr),hw.pk 7 [4,5,6] zr⟩
  rintro σ w ⟨ha,hw⟩
  obtain⟨τ,rfl⟩:=ha.aO
  refine bI (aG (RC.region (mv (vi aa.2) zr zr (RL.gq (a:=aa.2) (b:=1) zt zr zr zr zr (aN (vi (IntKind.wrap .i64 (aa.2+1))) zr zr (RL.nil ?_))))))
  obtain rfl:=oi hb
  exact⟨rfl,(ag zr),hw.pk 3 [0,1,2] zr⟩
 ·intro r _ _ _ _
  exact r.elim
 intro aa σ w e hJ
 subst e
 rw [Fo.eC] at hb
 obtain⟨ha,hw⟩:=hJ
 obtain⟨τ,rfl⟩:=ha.aO
 refine aG (RC.seq (RC.sr (aN (vi 0) zr zr (RL.nt ?_))))
 obtain⟨b9,hN,hb⟩:=bd hb
 refine RC.iter (fun(ai:Int×Int) (σ:Nat→Value) (w:World)=>agree σ [(1,(vp ae 0)),(5,ab),(6,ad),(8,(vi j.1)),(9,(vi j.2.1)),(10,(vi aa.1)),(11,(vi ai.1)),(16,(vi ai.2))]∧Holds E w ([bx 27 ae p0,own 69 ab o.1,own 40 ad af.1]++Γ)) (fun(ai:Int×Int) (σ:Nat→Value) (w:World)=>agree σ [(1,(vp ae 0)),(5,ab),(8,(vi j.1)),(9,(vi j.2.1)),(10,(vi aa.1)),(11,(vi ai.1))]∧Holds E w ([bx 27 ae p0,own 69 ab o.1,own 40 ad af.1]++Γ)) (fun(r:Empty) (_:Nat→Value) (_:World)=>r.elim) hN ?_ ?_ ?_ ?_
 ·exact⟨(ag zr),hw.pk 3 [0,1,2] zr⟩
 ·intro ai fl σ w hI hb
  obtain⟨ha,hw⟩:=hI
  obtain⟨τ,rfl⟩:=ha.aO
  refine RC.seq (RC.sr (mv (vi ai.2) zr zr (mv ad zr zr (RL.cW (i:=2) (l:=af.1) zt zr hw zr zr Ee (ic (ai.2) ((af.1.length:Int)) zr zr zr zr (RL.nt (eI hb zr (fun hc hb=>?_) fun hc hb=>?_)))))))
  rotate_left
  ·refine RC.ex ?_
   obtain rfl:=oi hb
   exact⟨rfl,(ag zr),hw.pk 3 [0,1,2] zr⟩
  refine RC.ss (RC.block (RC.region (mv (vi ai.1) zr zr (mv ad zr zr (mv (vi ai.2) zr zr ?_)))))
  obtain⟨a3,a4,hb⟩:=bd hb
  refine RL.aZ (i:=2) zt zr hw zr zr zr BD a4 (RL.eV (i:=2) (f:=(fun x=>x)) zt zr hw zr (f0 hw (i:=2) zr a4 0) zr (aP a4).2.1 Fd.self zd fun ca hw=>(RL.bA (i:=0) (l:=a3) zt zr hw zr zr CA (RL.gq (a:=ai.1) (b:=(a3.length:Int)) zt zr zr zr zr (aN (vi (IntKind.wrap .i64 (ai.1+ (a3.length:Int)))) zr zr (RL.nil (bI (aG (RC.region ?_))))))))
  refine mv (vi ai.2) zr zr (RL.gq (a:=ai.2) (b:=1) zt zr zr zr zr (aN (vi (IntKind.wrap .i64 (ai.2+1))) zr zr (RL.nil ?_)))
  obtain rfl:=oi hb
  exact⟨rfl,(ag zr),hw.pk 4 [1,2,3] zr⟩
 ·intro r _ _ _ _
  exact r.elim
 intro ai σ w e hJ
 subst e
 rw [Fo.eC] at hb
 obtain⟨ha,hw⟩:=hJ
 obtain⟨τ,rfl⟩:=ha.aO
 refine aG (RC.seq ?_)
 obtain⟨a5,hj,hb⟩:=bd hb
 refine RC.jn (fun(a5:Bool) (σ:Nat→Value) (w:World)=>agree σ [(2,(vb a5))]∧Holds E w ([]++Γ)) a5 ?_ ?_
 ·refine RC.region (mv (vi j.1) rfl rfl (mv ab rfl rfl (RL.cW (i:=1) (l:=o.1) trivial rfl hw rfl rfl Ef (ic (j.1) ((o.1.length:Int)) rfl rfl rfl rfl (mv (vb (j.1==(o.1.length:Int))) rfl rfl (RL.gs (c:=true) (b:=(j.1==(o.1.length:Int))) (v:=(vi j.2.1)) rfl rfl rfl (cR rfl (fun _=>rfl)) (RL.gs (c:=true) (b:=(j.1==(o.1.length:Int))) (v:=(vi aa.1)) rfl rfl rfl (cR rfl (fun _=>rfl)) (RL.gs (c:=true) (b:=(j.1==(o.1.length:Int))) (v:=(vb (j.2.1==aa.1))) rfl rfl rfl (dO (bop:= .eql) (K:= .i64) (a:=j.2.1) (b:=aa.1) rfl (fun h=>by exact(cD h:cv (true&&((j.1==(o.1.length:Int))==true)) (vi j.2.1)= (vi j.2.1))) (fun h=>by exact(cD h:cv (true&&((j.1==(o.1.length:Int))==true)) (vi aa.1)= (vi aa.1))) rfl) ?_))))))))
  refine RL.pick (b:=(j.1==(o.1.length:Int))) (v:=(vb ((j.1==(o.1.length:Int))&&(j.2.1==aa.1)))) zt zr zr (hZ (c:=true) zr) (mv (vb ((j.1==(o.1.length:Int))&&(j.2.1==aa.1))) zr zr (fW hj (fun ak hj=>?_) fun ak hj=>?_))
  rotate_left
  ·refine sk rfl (.inl (cb ak)) rfl (sk rfl (.inl (cb ak)) rfl (sk rfl (.inl (cb ak)) rfl (sk rfl (.inl (cb ak)) rfl (sk rfl (.inl (cb ak)) rfl (RL.pick (b:=((j.1==(o.1.length:Int))&&(j.2.1==aa.1))) (v:=(vb false)) trivial rfl rfl (by rw [ak];rfl) (mv (vb false) rfl rfl (sk rfl (.inl rfl) rfl (RL.pick (b:=false) (v:=(vb false)) trivial rfl rfl rfl ?_))))))))
   refine aN (vb false) zr zr (RL.nil ?_)
   obtain rfl:=oi hj
   exact⟨rfl,⟨rfl,zt⟩,hw.pk 3 [] zr⟩
  refine RL.move (v:=(vi ai.1)) (cg ak) rfl rfl (RL.bD (cg ak) rfl rfl p8 (RL.aU (i:=0) (f:=(fun x=>x.aR)) (cg ak) rfl hw rfl rfl mD xN fun cc hw=>(RL.bA (i:=0) (l:=p0.aR) (cg ak) rfl hw rfl rfl yX (RL.iQ (a:=ai.1) (b:=(p0.aR.length:Int)) (cg ak) rfl rfl rfl rfl (RL.pick (b:=((j.1==(o.1.length:Int))&&(j.2.1==aa.1))) (v:=(vb (ai.1==(p0.aR.length:Int)))) trivial rfl rfl (by rw [ak];rfl) (mv (vb (ai.1==(p0.aR.length:Int))) rfl rfl (fW hj (fun au hj=>?_) fun au hj=>?_)))))))
  rotate_left
  ·refine sk rfl (.inl (cb au)) rfl (RL.pick (b:=(ai.1==(p0.aR.length:Int))) (v:=(vb false)) trivial rfl rfl (by rw [au];rfl) (aN (vb false) rfl rfl (RL.nil ?_)))
   obtain rfl:=oi hj
   exact⟨rfl,⟨rfl,zt⟩,hw.pk 4 [] zr⟩
  obtain⟨a8,bo,hj⟩:=bd hj
  refine RL.call (cg au) zr Eu [] zr (aF (i5 N hw bo) ?_)
  rintro _ w ⟨rfl,hw⟩
  refine RL.pick (b:=(ai.1==(p0.aR.length:Int))) (v:=(vb a8)) trivial rfl rfl (by rw [au];rfl) (aN (vb a8) rfl rfl (RL.nil ?_))
  obtain rfl:=oi hj
  exact⟨rfl,⟨rfl,zt⟩,hw.pk 4 [] zr⟩
 rintro σ w ⟨ha,hw⟩
 obtain⟨τ,rfl⟩:=ha.aO
 refine aG (RC.ret ?_)
 obtain rfl:=oi hb
 exact bQ zr zr ⟨rfl,hw.drop 0 zr⟩
end Go.Gk
