/-
  Printed texts: Go functions as plain functions, and that they are. No statement of the seed is proved here.
-/
import Derived.Test.YtgeinabdjaknpaaGreatDoorG1
import Derived.Test.YtgeinabdjaknpaaGreatDoorG2
import Derived.Test.YtgeinabdjaknpaaGreatDoorG3
import Derived.Test.YtgeinabdjaknpaaGreatDoorG6
import Derived.Test.YtgeinabdjaknpaaGreatDoorA2
set_option linter.unusedVariables false
set_option linter.unusedSimpArgs false
set_option linter.unusedSectionVars false
set_option maxRecDepth 100000
set_option maxHeartbeats 4000000
namespace Go.Gk
open Go Go.Proofs
def pK (E:World) (Γ:List HP) (res:bU) (v:Value) (w:World):Prop:=Holds E w ([rd v res]++Γ)
theorem oM (N:Nat) {E w:World} {Γ:List HP} {i0:Nat} {v0:Value} {p0: (List aA)} {res:bU} (hw:Holds E w Γ) (h0:Γ[i0]? =some (rd v0 p0)) (hb:gC N p0=some res):
    Calls Tryz.prog 14 [v0].toArray w (fw (pK E Γ res)):=by
 unfold gC at hb
 refine enter Tryz.func14 zr zr (Nat.le_of_ble_eq_true zr) ?_
 have hw:=hw.dup (i:=i0+0) h0
 refine RC.sr (RL.alloc trivial rfl hw EY.z fun ag w hw=>(RL.nq (RC.BH mixed rfl [0,0,0,0,0,0,0,0,0,0,0,2] [0,1,2,3,4,5,6,7,8,9,10,11] (by kernel_rfl) ?_)))
 have hw:=hw.drew
 refine DP.e0 zr zr (mv v0 zr zr (dO zr zr ?_))
 obtain⟨ab,ad,hb⟩:=bd hb
 refine RL.bO (i:=1) zt zr hw zr zr zr jA ad fun ah hw=>(dO zr zr (RL.gR (i:=0) (f:=fun(x:aA)=>x.Xs) zt zr hw zr zr iP bR fun ai hw=>(dO zr zr (RL.bP (i:=0) (x:=ab.Xs) zt zr hw zr zr dL fun aj hw=>(dO zr zr ?_)))))
 obtain⟨o,ae,hb⟩:=bd hb
 refine RL.bO (i:=0) zt zr hw zr zr zr dM ae fun ak hw=>(dO zr zr (RL.bA (i:=0) (y:=o) zt zr hw zr zr bX (dO zr zr (mv v0 zr zr (dO zr zr ?_)))))
 obtain⟨aa,af,hb⟩:=bd hb
 refine RL.bO (i:=5) zt zr hw zr zr zr jA af fun al hw=>(dO zr zr (RL.gR (i:=0) (f:=fun(x:aA)=>x.Y0) zt zr hw zr zr lk cR fun an hw=>(dO zr zr (RL.bA (i:=0) (y:=aa.Y0) zt zr hw zr zr bX (dO zr zr ?_)))))
 have hw:=hw.sc (γ:=Int) o
 have hw:=hw.sc (γ:=Int) aa.Y0
 refine RL.build (y:=(⟨o,aa.Y0⟩:bU)) trivial rfl hw [(0,(vi o)),(1,(vi aa.Y0))] rfl EZ rfl (fun M hs g=>by have h:=uE M;exact cB.cons (f:=fun(x:bU) y=>{x with X:=y}) rfl h w5 (by decide) (g.sat 1 _ rfl).1 fun _ h=>cB.cons (f:=fun(x:bU) y=>{x with Y:=y}) rfl h w6 (by decide) (g.sat 0 _ rfl).1 fun _ h=>cB.nil h) fun ao hw=>(AV rfl rfl (RL.bC (i:=9) (j:=0) trivial hw rfl rfl rfl rfl yB rfl fun w hw=>(DP.d2 trivial (DP.z (aG (RC.ret ?_))))))
 obtain rfl:=oi hb
 exact A1 (i:=9) zr hw zr zr yB fun aq hw=>(hw.pk 12 [0] zr)
def sD (E:World) (Γ:List HP) (res:Int) (v:Value) (w:World):Prop:=v= (vi res)∧Holds E w Γ
theorem mx (N:Nat) {E w:World} {Γ:List HP} {i0:Nat} {v0:Value} {p0: (List aC)} {res:Int} (hw:Holds E w Γ) (h0:Γ[i0]? =some (rd v0 p0)) (hb:iq N p0=some res):
    Calls Tryz.prog 15 [v0].toArray w (fw (sD E Γ res)):=by
 unfold iq at hb
 refine enter Tryz.func15 zr zr (Nat.le_of_ble_eq_true zr) ?_
 have hw:=hw.dup (i:=i0+0) h0
 refine RC.sr (aM (vi 0) zr zr (RL.ns (aM (vi 0) zr zr (RL.nq (RC.sr (mv v0 zr zr (RL.bG (i:=0) (l:=p0) zt zr hw zr zr lj (mv (vi 0) zr zr ?_))))))))
 refine RL.nt ?_
 obtain⟨aa,hN,hb⟩:=bd hb
 refine RC.fold (fun(ab:Nat) (aa:Int) (σ:Nat→Value) (w:World)=>agree σ [(3,(vi aa)),(6,v0),(7,(vi (p0.length:Int))),(8,(vi (ab:Int)))]∧Holds E w ([rd v0 p0]++Γ)) (fun(aa:Int) (σ:Nat→Value) (w:World)=>agree σ [(3,(vi aa))]∧Holds E w ([rd v0 p0]++Γ)) hN ?_ ?_ ?_ ?_
 ·exact⟨(ag zr),hw.pk 1 [0] zr⟩
 ·intro hm aa σ w hI
  obtain⟨ha,hw⟩:=hI
  obtain⟨τ,rfl⟩:=ha.aO
  refine RC.sr (ic ((p0.length:Int)) ((p0.length:Int)) zr zr zr zr (RL.nq (RC.cH lZ (RC.ex ?_))))
  exact⟨rfl,⟨rfl,zt⟩,hw.pk 1 [0] zr⟩
 ·intro hm ab aa s' σ w hk hI hb
  obtain⟨ha,hw⟩:=hI
  obtain⟨τ,rfl⟩:=ha.aO
  refine RC.sr (ic ((ab:Int)) ((p0.length:Int)) zr zr zr zr (RL.nq (RC.cG (lY hk) (RC.ss (RC.bs ?_)))))
  obtain⟨o,ad,hb⟩:=bd hb
  refine RL.bO (i:=0) zt zr hw zr zr zr iE ad fun ae hw=>(RL.bP (i:=0) (x:=o) zt zr hw zr zr eM fun af hw=>(RL.alloc zt zr hw kP.z fun ah w hw=>(RL.bC (i:=0) (j:=1) zt hw zr zr zr zr eM zr fun w hw=>(RL.nt (RC.region (mv (vi aa) zr zr (RL.bF zt zr zr gN (RL.aL (i:=0) (f:=(fun x=>x.X1)) zt zr hw zr zr dK bX ?_))))))))
  refine RL.bF zt zr zr f0 (RL.aL (i:=0) (f:=(fun x=>x.X0)) zt zr hw zr zr cU bX (RL.gQ (a:=o.X1) (b:=o.X0) zt zr zr zr zr (RL.bF zt zr zr jU (RL.aL (i:=0) (f:=(fun x=>x.Y1)) zt zr hw zr zr fz bX (RL.bF zt zr zr gM (RL.aL (i:=0) (f:=(fun x=>x.Y0)) zt zr hw zr zr cZ bX (RL.gQ (a:=o.Y1) (b:=o.Y0) zt zr zr zr zr (RL.gQ (a:=(IntKind.wrap .i64 (o.X1 - o.X0))) (b:=(IntKind.wrap .i64 (o.Y1 - o.Y0))) zt zr zr zr zr ?_))))))))
  refine RL.gQ (a:=aa) (b:=(IntKind.wrap .i64 ((IntKind.wrap .i64 (o.X1 - o.X0))* (IntKind.wrap .i64 (o.Y1 - o.Y0))))) zt zr zr zr zr (aM (vi (IntKind.wrap .i64 (aa+ (IntKind.wrap .i64 ((IntKind.wrap .i64 (o.X1 - o.X0))* (IntKind.wrap .i64 (o.Y1 - o.Y0))))))) zr zr (RL.nil (bJ (aG (RC.region (RL.inc zt zr hk hm zr zr (mv (vi ((ab+1:Nat):Int)) zr zr (RL.nil ?_))))))))
  obtain rfl:=oi hb
  exact⟨rfl,(ag zr),hw.pk 4 [3] zr⟩
 intro σ w hJ
 obtain⟨ha,hw⟩:=hJ
 obtain⟨τ,rfl⟩:=ha.aO
 refine aG (RC.sr (mv (vi aa) zr zr (aM (vi aa) zr zr (RL.nt (RC.ret ?_)))))
 obtain rfl:=oi hb
 exact bQ zr zr ⟨rfl,hw.drop 1 zr⟩
def rL (E:World) (Γ:List HP) (res: (List Piece)×Int) (v:Value) (w:World):Prop:=∃u0:Value,v = .tuple #[u0,(vi res.2)]∧Holds E w ([own 38 u0 res.1]++Γ)
theorem qP (N:Nat) {E w:World} {Γ:List HP} {i0:Nat} {v0:Value} {p0:jQ} {res: (List Piece)×Int} (hw:Holds E w Γ) (h0:Γ[i0]? =some (rd v0 p0)) (hb:iD N p0=some res):
    Calls Tryz.prog 6 [v0].toArray w (fw (rL E Γ res)):=by
 unfold iD at hb
 refine enter Tryz.func6 zr zr (Nat.le_of_ble_eq_true zr) ?_
 have hw:=hw.dup (i:=i0+0) h0
 refine RC.sr (RL.dN (i:=0) (v:=v0) zt zr hw zr zr fun bj w hw=>(aM (.slice none 0 0) zr zr (aM (vi 0) zr zr (RL.ns (RL.aY (i:=0) (f:=(fun x=>x)) zt zr hw zr zr Fd.self uG fun a2 hw=>?_)))))
 obtain⟨ai,a3,hb⟩:=bd hb
 refine RL.call zt zr Cl [a2] zr (aF (kE N (i0:=0) hw zr a3) ?_)
 rintro _ w hK49
 rcases aw:ai.1 with _ | ak
 ·replace hb:=B5 aw hb
  obtain⟨rfl,hw⟩:=zA aw hK49
  refine mv (.tuple #[(.pointer none),(vi ai.2)]) zr zr (RL.extract (v:=(.pointer none)) zt zr zr zr (RL.extract (v:=(vi ai.2)) zt zr zr zr (aM (.pointer none) zr zr (aM (vi ai.2) zr zr (RL.nq (RC.sr (mv (vi ai.2) zr zr (ic (ai.2) 0 zr zr zr zr ?_))))))))
  refine RL.nt (eI hb zr (fun hc hb=>?_) fun hc hb=>?_)
  rotate_left
  ·cases hb
  refine RC.sr (mv (vi ai.2) zr zr (aM (.slice none 0 0) zr zr (aM (vi ai.2) zr zr (RL.nt (RC.rt ?_)))))
  obtain rfl:=oi hb
  have hw:=hw.bV Piece 38
  exact i5 zr zr zr ⟨(.slice none 0 0),zr,hw.pk 4 [0] zr⟩
 replace hb:=B6 aw hb
 obtain⟨ax,bk,bl,bm,bn,bo,ao,bp,bq,br,bt,bu,bw,rfl,hw⟩:=zB aw hK49
 refine mv (.tuple #[(vp ax 0),(vi ai.2)]) zr zr (RL.extract (v:=(vp ax 0)) zt zr zr zr (RL.extract (v:=(vi ai.2)) zt zr zr zr (aM (vp ax 0) zr zr (aM (vi ai.2) zr zr (RL.nq (RC.sr (mv (vi ai.2) zr zr (ic (ai.2) 0 zr zr zr zr ?_))))))))
 refine RL.nt (eI hb zr (fun hc hb=>?_) fun hc hb=>?_)
 ·refine RC.sr (mv (vi ai.2) zr zr (aM (.slice none 0 0) zr zr (aM (vi ai.2) zr zr (RL.nt (RC.rt ?_)))))
  obtain rfl:=oi hb
  have hw:=hw.bV Piece 38
  exact i5 zr zr zr ⟨(.slice none 0 0),zr,hw.pk 17 [0] zr⟩
 refine RC.sx (aM (.slice none 0 0) zr zr (RL.nq (RC.sr (mv (vp ax 0) zr zr (RL.nilCheck zt zr zr (RL.bF zt zr zr l9 (RL.bE (i:=0) (v:=ao) zt zr hw zr zr zr uO (RL.bG (i:=6) (l:=ak.2.2.2.2.2.1) zt zr hw zr zr yE ?_))))))))
 refine mv (vi 0) zr zr (RL.nt ?_)
 obtain⟨al,hN,hb⟩:=bd hb
 refine RC.fold (fun(ar:Nat) (al: (List Piece)) (σ:Nat→Value) (w:World)=>∃ay:Value,agree σ [(6,ay),(20,ao),(21,(vi (ak.2.2.2.2.2.1.length:Int))),(22,(vi (ar:Int)))]∧Holds E w ([rd ao ak.2.2.2.2.2.1,own 38 ay al]++Γ)) (fun(al: (List Piece)) (σ:Nat→Value) (w:World)=>∃aq:Value,agree σ [(6,aq)]∧Holds E w ([rd ao ak.2.2.2.2.2.1,own 38 aq al]++Γ)) hN ?_ ?_ ?_ ?_
 ·have hw:=hw.bV Piece 38
  exact⟨(.slice none 0 0),(ag zr),hw.pk 17 [7,0] zr⟩
 ·intro hm al σ w hI
  obtain⟨a4,ha,hw⟩:=hI
  obtain⟨τ,rfl⟩:=ha.aO
  refine RC.sr (ic ((ak.2.2.2.2.2.1.length:Int)) ((ak.2.2.2.2.2.1.length:Int)) zr zr zr zr (RL.nq (RC.cH lZ (RC.ex ?_))))
  exact⟨rfl,a4,⟨rfl,zt⟩,hw.pk 2 [0,1] zr⟩
 ·intro hm ar al s' σ w hk hI hb
  obtain⟨au,ha,hw⟩:=hI
  obtain⟨τ,rfl⟩:=ha.aO
  refine RC.sr (ic ((ar:Int)) ((ak.2.2.2.2.2.1.length:Int)) zr zr zr zr (RL.nq (RC.cG (lY hk) (RC.ss (RC.bs ?_)))))
  obtain⟨ah,a5,hb⟩:=bd hb
  refine RL.bO (i:=0) zt zr hw zr zr zr z6 a5 fun a6 hw=>(RL.bP (i:=0) (x:=ah) zt zr hw zr zr yF fun a7 hw=>(RL.alloc zt zr hw Bl.z fun av w hw=>(RL.bC (i:=0) (j:=1) zt hw zr zr zr zr yF zr fun w hw=>(RL.nt ?_))))
  obtain⟨an,a8,hb⟩:=bd hb
  obtain⟨aj,a9,hb⟩:=bd hb
  obtain⟨ba,bb,hb⟩:=bd hb
  refine RC.tw (E:=E) (Γ:=Γ) mixed rfl [0,1,0,1,0,0,1,0,0,0,0,0,1] [4,5,7,9,10,11] (fun(x:Value×Value×Value×Value×Value×Value)=>(fun ab ad ae af o aa=>[(0,26,au),(1,27,(vp av 0)),(2,28,(vi ah.aU)),(3,29,(vp av 1)),(4,30,ab),(5,31,ad),(6,32,(vp av 2)),(7,33,ae),(8,34,(vi aj)),(9,35,af),(10,36,o),(11,37,aa),(12,6,aa)]) x.1 x.2.1 x.2.2.1 x.2.2.2.1 x.2.2.2.2.1 x.2.2.2.2.2) [(8,(vp av 0)),(20,ao),(21,(vi (ak.2.2.2.2.2.1.length:Int))),(22,(vi (ar:Int)))] [(12,6,au)] (fun(D:Nat→Bool) (x:Value×Value×Value×Value×Value×Value)=>(fun ab ad ae af o aa=>[bif D 0 then (rd ab ah.Set) else aK,bif D 1 then (rd ad an) else aK,bif D 2 then (rd ae ah.dQ) else aK,bif D 3 then (rd af (⟨ah.aU,an,aj⟩:Piece)) else aK,bif D 5 then (rd o ([(⟨ah.aU,an,aj⟩:Piece)]: (List Piece))) else (bif D 4 then (own 38 o ([(⟨ah.aU,an,aj⟩:Piece)]: (List Piece))) else aK),bx 67 av ah,rd a7 ah,pt a6 ah,rd ao ak.2.2.2.2.2.1,bif D 5 then (own 38 aa ba) else (own 38 au al)]) x.1 x.2.1 x.2.2.1 x.2.2.2.1 x.2.2.2.2.1 x.2.2.2.2.2) (fun x=>by kernel_rfl) ?_ ⟨?_,fun _=>fN gn xk rfl,?_,fun _=>fN gn Cm rfl,?_,?_,fun _=>fN gn uP rfl,?_,?_,?_,?_,?_,fun _=>yt gn rfl,trivial⟩ ?_
  ·have hw:=hw.drew
   have hw:=hw.aK
   have hw:=hw.aK
   have hw:=hw.aK
   have hw:=hw.aK
   have hw:=hw.aK
   exact⟨(undef,undef,undef,undef,undef,undef),doneV.none,(ag zr),⟨fun _=>zr,zt⟩,hw⟩
  ·rintro D σ w hD hdep hcl ⟨⟨ab,ad,ae,af,o,aa⟩,hv,ha,ho,hw⟩
   obtain⟨τ,rfl⟩:=(ac (ho.at 0 rfl (nf (fun h=>ft hD ((hcl 12 _ rfl h).2.2.1 rfl)))) az).aO
   refine mv au zr zr ?_
   exact RL.nil ⟨rfl,(ab,ad,ae,af,o,aa),hv.put 0 zr zr,ha.up zr,ho.up zr,hw⟩
  ·rintro D σ w hD hdep hcl ⟨⟨ab,ad,ae,af,o,aa⟩,hv,ha,ho,hw⟩
   obtain⟨τ,rfl⟩:=(ac (hv.at 1 rfl (hdep.1 rfl)) az).aO
   refine RL.aL (i:=5) (f:=(fun x=>x.aU)) zt zr hw zr zr jf bX ?_
   exact RL.nil ⟨rfl,(ab,ad,ae,af,o,aa),hv.put 2 zr zr,ha.up zr,ho.up zr,hw⟩
  ·rintro D σ w hD hdep hcl ⟨⟨ab,ad,ae,af,o,aa⟩,hv,ha,ho,hw⟩
   obtain⟨τ,rfl⟩:=(ac (hv.at 3 rfl (hdep.1 rfl)) az).aO
   have hw:=hw.aP (i:=0) rfl hD
   refine RL.aY (i:=5) (f:=(fun x=>x.Set)) zt zr hw zr zr pg Bj fun bc hw=>?_
   have hw:=hw.pl 11 [0,2,3,4,5,6,7,8,9,10] rfl
   have hw:=hw.aS (i:=0) (b:=true) rfl rfl (aK)
   exact RL.nil ⟨rfl,(bc,ad,ae,af,o,aa),hv.put 4 zr zr,ha.up zr,ho.up zr,hw⟩
  ·rintro D σ w hD hdep hcl ⟨⟨ab,ad,ae,af,o,aa⟩,hv,ha,ho,hw⟩
   obtain⟨τ,rfl⟩:=(ac (hv.at 4 rfl (hdep.1 rfl)) az).aO
   have hw:=hw.aR (i:=0) rfl (hdep.1 rfl)
   have hw:=hw.aP (i:=1) rfl hD
   refine RL.call zt zr E0 [ab] zr (aF (oM N (i0:=0) hw zr a8) ?_)
   rintro bf w hw
   have hw:=hw.pl 11 [1,0,3,4,5,6,7,8,9,10] rfl
   have hw:=hw.aS (i:=0) (b:=D 4) rfl (hdep.1 rfl) (aK)
   have hw:=hw.aS (i:=1) (b:=true) rfl rfl (aK)
   exact RL.nil ⟨rfl,(ab,bf,ae,af,o,aa),hv.put 5 zr zr,ha.up zr,ho.up zr,hw⟩
  ·rintro D σ w hD hdep hcl ⟨⟨ab,ad,ae,af,o,aa⟩,hv,ha,ho,hw⟩
   obtain⟨τ,rfl⟩:=(ac (hv.at 6 rfl (hdep.1 rfl)) az).aO
   have hw:=hw.aP (i:=2) rfl hD
   refine RL.aY (i:=5) (f:=(fun x=>x.dQ)) zt zr hw zr zr gT qw fun bg hw=>?_
   have hw:=hw.pl 11 [1,2,0,4,5,6,7,8,9,10] rfl
   have hw:=hw.aS (i:=2) (b:=true) rfl rfl (aK)
   exact RL.nil ⟨rfl,(ab,ad,bg,af,o,aa),hv.put 7 zr zr,ha.up zr,ho.up zr,hw⟩
  ·rintro D σ w hD hdep hcl ⟨⟨ab,ad,ae,af,o,aa⟩,hv,ha,ho,hw⟩
   obtain⟨τ,rfl⟩:=(ac (hv.at 7 rfl (hdep.1 rfl)) az).aO
   have hw:=hw.aR (i:=2) rfl (hdep.1 rfl)
   refine RL.call zt zr Dw [ae] zr (aF (mx N (i0:=2) hw zr a9) ?_)
   rintro _ w ⟨rfl,hw⟩
   have hw:=hw.aS (i:=2) (b:=D 7) rfl (hdep.1 rfl) (aK)
   exact RL.nil ⟨rfl,(ab,ad,ae,af,o,aa),hv.put 8 zr zr,ha.up zr,ho.up zr,hw⟩
  ·rintro D σ w hD hdep hcl ⟨⟨ab,ad,ae,af,o,aa⟩,hv,ha,ho,hw⟩
   obtain⟨τ,rfl⟩:=(ac (hv.at 2 rfl (hdep.1 rfl)) (ac (hv.at 5 rfl (hdep.2.1 rfl)) (ac (hv.at 8 rfl (hdep.2.2.1 rfl)) az))).aO
   have hw:=hw.aR (i:=1) rfl (hdep.2.1 rfl)
   have hw:=hw.aP (i:=3) rfl hD
   have hw:=hw.sc (γ:=Int) ah.aU
   have hw:=hw.sc (γ:=Int) aj
   refine RL.build (y:=(⟨ah.aU,an,aj⟩:Piece)) trivial rfl hw [(0,(vi ah.aU)),(1,ad),(2,(vi aj))] rfl E1 rfl (fun M hs g=>by have h:=Bg M;exact cB.cons (f:=fun(x:Piece) y=>{x with aU:=y}) rfl h w8 (by decide) (g.sat 1 _ rfl).1 fun _ h=>cB.cons (f:=fun(x:Piece) y=>{x with o5:=y}) rfl h w9 (by decide) (g.sat 3 _ rfl).1 fun _ h=>cB.cons (f:=fun(x:Piece) y=>{x with o6:=y}) rfl h xd (by decide) (g.sat 0 _ rfl).1 fun _ h=>cB.nil h) fun bh hw=>?_
   have hw:=hw.pl 13 [3,4,5,0,7,8,9,10,11,12] rfl
   have hw:=hw.aS (i:=1) (b:=D 5) rfl (hdep.2.1 rfl) (aK)
   have hw:=hw.aS (i:=3) (b:=true) rfl rfl (aK)
   exact RL.nil ⟨rfl,(ab,ad,ae,bh,o,aa),hv.put 9 zr zr,ha.up zr,ho.up zr,hw⟩
  ·rintro D σ w hD hdep hcl ⟨⟨ab,ad,ae,af,o,aa⟩,hv,ha,ho,hw⟩
   obtain⟨τ,rfl⟩:=(ac (hv.at 9 rfl (hdep.1 rfl)) az).aO
   have hw:=hw.aR (i:=3) rfl (hdep.1 rfl)
   have hw:=hw.aP (i:=4) rfl (nf (fun h=>ft hD ((hcl 11 _ rfl h).2.1 rfl)))
   have hw:=hw.aP (i:=4) rfl hD
   refine RL.dY (l:=([(⟨ah.aU,an,aj⟩:Piece)]: (List Piece))) zt zr hw [af] zr zr zr Cn E2 (fun M hs g=>⟨(g.sat 3 _ zr).1,zt⟩) fun a0 w hw=>?_
   have hw:=hw.pl 11 [1,2,3,4,0,6,7,8,9,10] rfl
   have hw:=hw.aS (i:=3) (b:=D 9) rfl (hdep.1 rfl) (aK)
   have hw:=hw.aS (i:=4) (b:=true) rfl rfl (aK)
   have hw:=hw.cK (i:=4) (b:=D 11) rfl (nf (fun h=>ft hD ((hcl 11 _ rfl h).2.1 rfl))) (rd a0 ([(⟨ah.aU,an,aj⟩:Piece)]: (List Piece)))
   exact RL.nil ⟨rfl,(ab,ad,ae,af,a0,aa),hv.put 10 zr zr,ha.up zr,ho.up zr,hw⟩
  ·rintro D σ w hD hdep hcl ⟨⟨ab,ad,ae,af,o,aa⟩,hv,ha,ho,hw⟩
   obtain⟨τ,rfl⟩:=(ac (hv.at 0 rfl (hdep.1 rfl)) (ac (hv.at 10 rfl (hdep.2.1 rfl)) az)).aO
   have hw:=hw.aP (i:=4) rfl hD
   have hw:=hw.aR (i:=4) rfl (hdep.2.1 rfl)
   have hw:=hw.aP (i:=9) rfl hD
   have hw:=hw.freeze (i:=4) rfl
   refine RL.app (i:=9) (j:=4) zt zr hw zr zr zr zr E3 bb fun a1 w hw=>?_
   have hw:=hw.aS (i:=4) (b:=true) rfl rfl (bif D 10 then (own 38 o ([(⟨ah.aU,an,aj⟩:Piece)]: (List Piece))) else aK)
   have hw:=hw.aS (i:=9) (b:=true) rfl rfl (own 38 au al)
   have hv:=hv.re 12 rfl (v':=a1) (fun h=>ft hD ((hcl 12 _ rfl h).1 rfl))
   exact RL.nil ⟨rfl,(ab,ad,ae,af,o,a1),hv.put 11 zr zr,ha.up zr,ho.up zr,hw⟩
  rintro D σ w hall ⟨⟨ab,ad,ae,af,o,aa⟩,hv,ha,_,hw⟩
  have hw:=hw.aR (i:=0) rfl (hall 4 (by decide))
  have hw:=hw.aR (i:=1) rfl (hall 5 (by decide))
  have hw:=hw.aR (i:=2) rfl (hall 7 (by decide))
  have hw:=hw.aR (i:=3) rfl (hall 9 (by decide))
  have hw:=hw.aR (i:=4) rfl (hall 11 (by decide))
  have hw:=hw.aR (i:=9) rfl (hall 11 (by decide))
  obtain⟨τ,rfl⟩:=(ac (hv.at 12 rfl (hall 12 (by decide))) (ac (ha.at 0 rfl) (ac (ha.at 1 rfl) (ac (ha.at 2 rfl) (ac (ha.at 3 rfl) az))))).aO
  refine bJ (aG (RC.region (RL.inc zt zr hk hm zr zr (mv (vi ((ar+1:Nat):Int)) zr zr (RL.nil ?_)))))
  obtain rfl:=oi hb
  exact⟨rfl,aa,(ag zr),hw.pk 10 [8,9] zr⟩
 intro σ w hJ
 obtain⟨aq,ha,hw⟩:=hJ
 obtain⟨τ,rfl⟩:=ha.aO
 refine aG (RC.sr (mv aq zr zr (aM aq zr zr (aM (vi 0) zr zr (RL.nt (RC.ret ?_))))))
 obtain rfl:=oi hb
 exact i5 zr zr zr ⟨aq,zr,hw.pk 2 [1] zr⟩
def nc (E:World) (Γ:List HP) (res: (List aC)×Int) (v:Value) (w:World):Prop:=∃u0:Value,v = .tuple #[u0,(vi res.2)]∧Holds E w ([rd u0 res.1]++Γ)
theorem mK (N:Nat) {E w:World} {Γ:List HP} {i0:Nat} {v0:Value} {p0:jQ} {p1:Int} {res: (List aC)×Int} (hw:Holds E w Γ) (h0:Γ[i0]? =some (rd v0 p0)) (hb:fk N p0 p1=some res):
    Calls Tryz.prog 7 [v0,(vi p1)].toArray w (fw (nc E Γ res)):=by
 unfold fk at hb
 refine enter Tryz.func7 zr zr (Nat.le_of_ble_eq_true zr) ?_
 have hw:=hw.dup (i:=i0+0) h0
 refine RC.sr (RL.dN (i:=0) (v:=v0) zt zr hw zr zr fun al w hw=>(aM (.slice none 0 0) zr zr (aM (vi 0) zr zr (RL.ns (RL.aY (i:=0) (f:=(fun x=>x)) zt zr hw zr zr Fd.self uG fun af hw=>?_)))))
 obtain⟨j,ag,hb⟩:=bd hb
 refine RL.call zt zr Cl [af] zr (aF (kE N (i0:=0) hw zr ag) ?_)
 rintro _ w hK49
 rcases aa:j.1 with _ | ab
 ·replace hb:=B5 aa hb
  obtain⟨rfl,hw⟩:=zA aa hK49
  refine mv (.tuple #[(.pointer none),(vi j.2)]) zr zr (RL.extract (v:=(.pointer none)) zt zr zr zr (RL.extract (v:=(vi j.2)) zt zr zr zr (aM (.pointer none) zr zr (aM (vi j.2) zr zr (RL.nq (RC.sr (mv (vi j.2) zr zr (ic (j.2) 0 zr zr zr zr ?_))))))))
  refine RL.nt (eI hb zr (fun hc hb=>?_) fun hc hb=>?_)
  rotate_left
  ·cases hb
  refine RC.sr (mv (vi j.2) zr zr (aM (.slice none 0 0) zr zr (aM (vi j.2) zr zr (RL.nt (RC.rt ?_)))))
  obtain rfl:=oi hb
  have hw:=hw.rW aC
  exact i5 zr zr zr ⟨(.slice none 0 0),zr,hw.pk 4 [0] zr⟩
 replace hb:=B6 aa hb
 obtain⟨o,an,ao,aq,ar,au,ad,av,aw,ax,ay,az,a0,rfl,hw⟩:=zB aa hK49
 refine mv (.tuple #[(vp o 0),(vi j.2)]) zr zr (RL.extract (v:=(vp o 0)) zt zr zr zr (RL.extract (v:=(vi j.2)) zt zr zr zr (aM (vp o 0) zr zr (aM (vi j.2) zr zr (RL.nq (RC.sr (mv (vi j.2) zr zr (ic (j.2) 0 zr zr zr zr ?_))))))))
 refine RL.nt (eI hb zr (fun hc hb=>?_) fun hc hb=>?_)
 ·refine RC.sr (mv (vi j.2) zr zr (aM (.slice none 0 0) zr zr (aM (vi j.2) zr zr (RL.nt (RC.rt ?_)))))
  obtain rfl:=oi hb
  have hw:=hw.rW aC
  exact i5 zr zr zr ⟨(.slice none 0 0),zr,hw.pk 17 [0] zr⟩
 refine RC.ss (RC.sr (mv (vi p1) zr zr (mv (vp o 0) zr zr (RL.nilCheck zt zr zr (RL.bF zt zr zr l9 (RL.bE (i:=0) (v:=ad) zt zr hw zr zr zr uO (RL.bG (i:=6) (l:=ab.2.2.2.2.2.1) zt zr hw zr zr yE (RL.gQ (a:=(ab.2.2.2.2.2.1.length:Int)) (b:=1) zt zr zr zr zr ?_))))))))
 obtain⟨ah,ai,hb⟩:=bd hb
 refine RL.call zt zr zV [(vi p1),(vi 0),(vi (IntKind.wrap .i64 ((ab.2.2.2.2.2.1.length:Int) - 1)))] zr (aF (gh N (p0:=p1) (p1:=0) (p2:=(IntKind.wrap .i64 ((ab.2.2.2.2.2.1.length:Int) - 1))) hw ai) ?_)
 rintro _ w ⟨rfl,hw⟩
 refine RL.not (b:=ah) zt zr zr (RL.nt (eI hb zr (fun hc hb=>?_) fun hc hb=>?_))
 ·refine RC.sr (aM (.slice none 0 0) zr zr (aM (vi 9) zr zr (RL.nt (RC.rt ?_))))
  obtain rfl:=oi hb
  have hw:=hw.rW aC
  exact i5 zr zr zr ⟨(.slice none 0 0),zr,hw.pk 17 [0] zr⟩
 refine RC.sx (mv (vp o 0) zr zr (RL.nilCheck zt zr zr (RL.bF zt zr zr l9 (RL.bE (i:=0) (v:=ad) zt zr hw zr zr zr uO (mv (vi p1) zr zr ?_)))))
 obtain⟨aj,ak,hb⟩:=bd hb
 refine RL.bO (i:=6) zt zr hw zr zr zr z6 ak fun a1 hw=>(RL.gR (i:=0) (f:=fun(x:aD)=>x.dQ) zt zr hw zr zr uP gT fun a2 hw=>(RL.bP (i:=0) (x:=aj.dQ) zt zr hw zr zr qw fun ae hw=>(aM ae zr zr (aM (vi 0) zr zr (RL.nt (RC.ret ?_))))))
 obtain rfl:=oi hb
 exact i5 zr zr zr ⟨ae,zr,hw.pk 19 [0] zr⟩
def uY (E:World) (Γ:List HP) (res:Int×Int) (v:Value) (w:World):Prop:=v = .tuple #[(vi res.1),(vi res.2)]∧Holds E w Γ
theorem oq (N:Nat) {E w:World} {Γ:List HP} {i0:Nat} {v0:Value} {p0: (List aC)} {res:Int×Int} (hw:Holds E w Γ) (h0:Γ[i0]? =some (rd v0 p0)) (hb:jw N p0=some res):
    Calls Tryz.prog 8 [v0].toArray w (fw (uY E Γ res)):=by
 unfold jw at hb
 refine enter Tryz.func8 zr zr (Nat.le_of_ble_eq_true zr) ?_
 have hw:=hw.dup (i:=i0+0) h0
 refine RC.sr (aM (vi 0) zr zr (aM (vi 0) zr zr (RL.nq (RC.sr (mv v0 zr zr ?_)))))
 obtain⟨j,o,hb⟩:=bd hb
 refine RL.call zt zr B9 [v0] zr (aF (hB N (i0:=0) hw zr o) ?_)
 rintro _ w ⟨rfl,hw⟩
 refine aM (vi j) zr zr (RL.ns (mv (vi j) zr zr (ic j 0 zr zr zr zr (RL.nt (eI hb zr (fun hc hb=>?_) fun hc hb=>?_)))))
 ·refine RC.sr (mv (vi j) zr zr (aM (vi 0) zr zr (aM (vi j) zr zr (RL.nt (RC.rt ?_)))))
  obtain rfl:=oi hb
  exact i5 zr zr zr ⟨rfl,hw.drop 1 zr⟩
 refine RC.sx (mv v0 zr zr ?_)
 obtain⟨aa,ab,hb⟩:=bd hb
 refine RL.call zt zr Dw [v0] zr (aF (mx N (i0:=0) hw zr ab) ?_)
 rintro _ w ⟨rfl,hw⟩
 refine aM (vi aa) zr zr (aM (vi 0) zr zr (RL.nt (RC.ret ?_)))
 obtain rfl:=oi hb
 exact i5 zr zr zr ⟨rfl,hw.drop 1 zr⟩
def qQ (E:World) (Γ:List HP) (res: (List aC)×Int) (v:Value) (w:World):Prop:=∃u0:Value,v = .tuple #[u0,(vi res.2)]∧Holds E w ([own 61 u0 res.1]++Γ)
theorem pL (N:Nat) {E w:World} {Γ:List HP} {i0:Nat} {v0:Value} {p0: (List aA)} {res: (List aC)×Int} (hw:Holds E w Γ) (h0:Γ[i0]? =some (rd v0 p0)) (hb:jc N p0=some res):
    Calls Tryz.prog 20 [v0].toArray w (fw (qQ E Γ res)):=by
 unfold jc at hb
 refine enter Tryz.func20 zr zr (Nat.le_of_ble_eq_true zr) ?_
 have hw:=hw.dup (i:=i0+0) h0
 refine RC.sr (aM (.slice none 0 0) zr zr (aM (vi 0) zr zr (RL.nq (RC.sr (mv v0 zr zr ?_)))))
 obtain⟨o,aa,hb⟩:=bd hb
 refine RL.call zt zr De [v0] zr (aF (kX N (i0:=0) hw zr aa) ?_)
 rintro _ w ⟨rfl,hw⟩
 refine ic o 2000 zr zr zr zr (RL.nt (eI hb zr (fun hc hb=>?_) fun hc hb=>?_))
 ·refine RC.sr (aM (.slice none 0 0) zr zr (aM (vi 2) zr zr (RL.nt (RC.rt ?_))))
  obtain rfl:=oi hb
  have hw:=hw.bV aC 61
  exact i5 zr zr zr ⟨(.slice none 0 0),zr,hw.pk 2 [0] zr⟩
 refine RC.sx (mv v0 zr zr ?_)
 obtain⟨ad,ab,hb⟩:=bd hb
 refine RL.call zt zr zT [v0] zr (aF (fo N (i0:=0) hw zr ab) ?_)
 rintro j w hw
 refine aM j zr zr (aM (vi 0) zr zr (RL.nt (RC.ret ?_)))
 obtain rfl:=oi hb
 exact i5 zr zr zr ⟨j,zr,hw.pk 2 [0] zr⟩
def sE (E:World) (Γ:List HP) (res: (List aC)×Int) (v:Value) (w:World):Prop:=∃u0:Value,v = .tuple #[u0,(vi res.2)]∧Holds E w ([own 61 u0 res.1]++Γ)
theorem rM (N:Nat) {E w:World} {Γ:List HP} {i0:Nat} {v0:Value} {p0: (List aC)} {res: (List aC)×Int} (hw:Holds E w Γ) (h0:Γ[i0]? =some (rd v0 p0)) (hb:jd N p0=some res):
    Calls Tryz.prog 9 [v0].toArray w (fw (sE E Γ res)):=by
 unfold jd at hb
 refine enter Tryz.func9 zr zr (Nat.le_of_ble_eq_true zr) ?_
 have hw:=hw.dup (i:=i0+0) h0
 refine RC.sr (aM (.slice none 0 0) zr zr (aM (vi 0) zr zr (RL.nq (RC.sr (mv v0 zr zr ?_)))))
 obtain⟨j,ab,hb⟩:=bd hb
 refine RL.call zt zr CS [v0] zr (aF (j5 N (i0:=0) hw zr ab) ?_)
 rintro _ w ⟨rfl,hw⟩
 refine aM (vi j) zr zr (RL.ns (mv (vi j) zr zr (ic j 0 zr zr zr zr (RL.nt (eI hb zr (fun hc hb=>?_) fun hc hb=>?_)))))
 ·refine RC.sr (mv (vi j) zr zr (aM (.slice none 0 0) zr zr (aM (vi j) zr zr (RL.nt (RC.rt ?_)))))
  obtain rfl:=oi hb
  have hw:=hw.bV aC 61
  exact i5 zr zr zr ⟨(.slice none 0 0),zr,hw.pk 2 [0] zr⟩
 refine RC.sx (mv v0 zr zr ?_)
 obtain⟨ag,ad,hb⟩:=bd hb
 refine RL.call zt zr yy [v0] zr (aF (ga N (i0:=0) hw zr ad) ?_)
 rintro ae w hw
 have hw:=hw.freeze (i:=0) rfl
 obtain⟨aa,af,hb⟩:=bd hb
 refine RL.call zt zr E5 [ae] zr (aF (pL N (i0:=0) hw zr af) ?_)
 rintro _ w ⟨o,rfl,hw⟩
 refine RL.extract (v:=o) zt zr zr zr (RL.extract (v:=(vi aa.2)) zt zr zr zr (aM o zr zr (aM (vi aa.2) zr zr (RL.nt (RC.ret ?_)))))
 obtain rfl:=oi hb
 exact i5 zr zr zr ⟨o,zr,hw.pk 3 [0] zr⟩
def iv (E:World) (Γ:List HP) (res:Bool) (v:Value) (w:World):Prop:=v= (vb res)∧Holds E w Γ
def kT (E:World) (Γ:List HP) (r:Bool) (σ:Nat→Value) (w:World):Prop:=kc Tryz.prog 26 Tryz.f10 (iv E Γ r) .ret σ w
theorem kF (N:Nat) {E w:World} {Γ:List HP} {i0:Nat} {v0:Value} {p0: (List aC)} {i1:Nat} {v1:Value} {p1: (List aC)} {res:Bool} (hw:Holds E w Γ) (h0:Γ[i0]? =some (rd v0 p0)) (h1:Γ[i1]? =some (rd v1 p1)) (hb:dJ N p0 p1=some res):
    Calls Tryz.prog 10 [v0,v1].toArray w (fw (iv E Γ res)):=by
 unfold dJ at hb
 refine enter Tryz.func10 zr zr (Nat.le_of_ble_eq_true zr) ?_
 have hw:=hw.dup (i:=i0+0) h0
 have hw:=hw.dup (i:=i1+1) h1
 refine RC.sr (aM (vb false) zr zr (RL.nq (RC.sr (mv v0 zr zr (RL.bG (i:=1) (l:=p0) zt zr hw zr zr lj (mv v1 zr zr (RL.bG (i:=0) (l:=p1) zt zr hw zr zr lj (ic ((p0.length:Int)) ((p1.length:Int)) zr zr zr zr ?_))))))))
 refine RL.nt (eI hb zr (fun hc hb=>?_) fun hc hb=>?_)
 ·refine RC.sr (aM (vb false) zr zr (RL.nt (RC.rt ?_)))
  obtain rfl:=oi hb
  exact bQ zr zr ⟨rfl,hw.drop 2 zr⟩
 refine RC.ss (RC.sr (aM (vi 0) zr zr (RL.nt ?_)))
 obtain⟨af,hN,hb⟩:=bd hb
 refine RC.iter (fun(o:Int) (σ:Nat→Value) (w:World)=>agree σ [(0,v0),(1,v1),(5,(vi o))]∧Holds E w ([rd v0 p0,rd v1 p1]++Γ)) (fun(o:Int) (σ:Nat→Value) (w:World)=>agree σ []∧Holds E w ([rd v0 p0,rd v1 p1]++Γ)) (kT E Γ) hN ?_ ?_ ?_ ?_
 ·exact⟨(ag zr),hw.pk 2 [1,0] zr⟩
 ·intro o fl σ w hI hb
  obtain⟨ha,hw⟩:=hI
  obtain⟨τ,rfl⟩:=ha.aO
  refine RC.seq (RC.sr (mv (vi o) zr zr (mv v0 zr zr (RL.bG (i:=0) (l:=p0) zt zr hw zr zr lj (ic o ((p0.length:Int)) zr zr zr zr (RL.nt (eI hb zr (fun hc hb=>?_) fun hc hb=>?_)))))))
  rotate_left
  ·refine RC.ex ?_
   obtain rfl:=oi hb
   exact⟨rfl,zt,hw.pk 2 [0,1] zr⟩
  refine RC.ss (RC.block (RC.seq (RC.uy mixed rfl (by kernel_rfl) ?_)))
  have hw:=hw.drew
  refine RO.go (mv v0 zr zr (RO.nx (mv (vi o) zr zr (RO.nx ?_))))
  obtain⟨aa,ad,hb⟩:=bd hb
  refine RL.bO (i:=0) zt zr hw zr zr zr iE ad fun ah hw=>(RO.nx (RL.bP (i:=0) (x:=aa) zt zr hw zr zr eM fun ai hw=>(RO.nx (mv v1 zr zr (RO.nx (mv (vi o) zr zr (RO.nx ?_)))))))
  obtain⟨ab,ae,hb⟩:=bd hb
  refine RL.bO (i:=3) zt zr hw zr zr zr iE ae fun aj hw=>(RO.nx (RL.bP (i:=0) (x:=ab) zt zr hw zr zr eM fun ak hw=>(RO.nx (RL.Fk (i:=2) (j:=0) (a:=aa) (b:=ab) zt zr hw zr zr zr zr zU zr (RO.last (aG (eI hb zr (fun hc hb=>?_) fun hc hb=>?_)))))))
  ·refine RC.sr (aM (vb false) zr zr (RL.nt (RC.rb (bL ?_))))
   obtain rfl:=oi hb
   exact⟨rfl,bQ zr zr ⟨rfl,hw.drop 6 zr⟩⟩
  refine RC.skip (bJ (aG (RC.region (mv (vi o) zr zr (RL.gQ (a:=o) (b:=1) zt zr zr zr zr (aM (vi (IntKind.wrap .i64 (o+1))) zr zr (RL.nil ?_)))))))
  obtain rfl:=oi hb
  exact⟨rfl,(ag zr),hw.pk 6 [4,5] zr⟩
 ·intro r σ w e hK
  subst e
  refine bL ?_
  obtain rfl:=oi hb
  exact hK
 intro o σ w e hJ
 subst e
 rw [Fo.eT] at hb
 obtain⟨ha,hw⟩:=hJ
 obtain⟨τ,rfl⟩:=ha.aO
 refine aG (RC.sr (aM (vb true) zr zr (RL.nt (RC.ret ?_))))
 obtain rfl:=oi hb
 exact bQ zr zr ⟨rfl,hw.drop 2 zr⟩
def fQ (E:World) (Γ:List HP) (res:Bool) (v:Value) (w:World):Prop:=v= (vb res)∧Holds E w Γ
def jq (E:World) (Γ:List HP) (r:Bool) (σ:Nat→Value) (w:World):Prop:=kc Tryz.prog 132 Tryz.f3 (fQ E Γ r) .ret σ w
theorem jh (N:Nat) {E w:World} {Γ:List HP} {i0:Nat} {v0:Value} {p0:jQ} {p1:Int} {res:Bool} (hw:Holds E w Γ) (h0:Γ[i0]? =some (rd v0 p0)) (hb:cY N p0 p1=some res):
    Calls Tryz.prog 3 [v0,(vi p1)].toArray w (fw (fQ E Γ res)):=by
 unfold cY at hb
 refine enter Tryz.func3 zr zr (Nat.le_of_ble_eq_true zr) ?_
 have hw:=hw.dup (i:=i0+0) h0
 refine RC.sr (RL.dN (i:=0) (v:=v0) zt zr hw zr zr fun au w hw=>(aM (vb false) zr zr (RL.ns (RL.aY (i:=0) (f:=(fun x=>x)) zt zr hw zr zr Fd.self uG fun bg hw=>?_))))
 obtain⟨aa,bh,hb⟩:=bd hb
 refine RL.call zt zr FG [bg] zr (aF (pJ N (i0:=0) hw zr bh) ?_)
 rintro _ w ⟨ah,rfl,hw⟩
 refine mv (.tuple #[ah,(vi aa.2)]) zr zr (RL.extract (v:=ah) zt zr zr zr (RL.extract (v:=(vi aa.2)) zt zr zr zr (aM ah zr zr (aM (vi aa.2) zr zr (RL.nq (RC.seq ?_))))))
 obtain⟨a2,hj,hb⟩:=bd hb
 refine RC.jn (fun(a2:Bool) (σ:Nat→Value) (w:World)=>agree σ [(1,(vi p1)),(2,(vp au 0)),(5,ah),(6,(vi aa.2)),(34,(vb a2))]∧Holds E w ([bx 27 au p0,own 23 ah aa.1]++Γ)) a2 ?_ ?_
 ·refine RC.region (mv (vi aa.2) rfl rfl (ic (aa.2) 0 rfl rfl rfl rfl (mv (vb (aa.2 != 0)) rfl rfl (RL.gs (c:=true) (b:=(aa.2 != 0)) (v:=(vi p1)) rfl rfl rfl (cN rfl (fun _=>rfl)) (RL.gs (c:=true) (b:=(aa.2 != 0)) (v:=(vb (decide (p1<0)))) rfl rfl rfl (cV (bop:= .lss) (K:= .i64) (a:=p1) (b:=0) rfl (fun h=>by exact(cC h:cv (true&&((aa.2 != 0)==false)) (vi p1)= (vi p1))) (fun _=>rfl) rfl) (RL.pick (b:=(aa.2 != 0)) (v:=(vb ((aa.2 != 0)||(decide (p1<0))))) trivial rfl rfl (ml (c:=true) rfl) (mv (vb ((aa.2 != 0)||(decide (p1<0)))) rfl rfl (fH hj (fun ak hj=>?_) fun ak hj=>?_))))))))
  ·refine sk rfl (.inl (cb ak)) rfl (sk rfl (.inl (cb ak)) rfl (sk rfl (.inl (cb ak)) rfl (sk rfl (.inl (cb ak)) rfl (RL.pick (b:=((aa.2 != 0)||(decide (p1<0)))) (v:=(vb true)) trivial rfl rfl (by rw [ak];rfl) (RL.nil ?_)))))
   obtain rfl:=oi hj
   exact⟨rfl,(ag zr),hw.pk 4 [2,0] zr⟩
  refine RL.move (v:=(vi p1)) (cg ak) rfl rfl (RL.move (v:=ah) (cg ak) rfl rfl (RL.dC (i:=0) (l:=aa.1) (cg ak) rfl hw rfl rfl tB (RL.iO (a:=p1) (b:=(aa.1.length:Int)) (cg ak) rfl rfl rfl rfl (RL.pick (b:=((aa.2 != 0)||(decide (p1<0)))) (v:=(vb (decide (p1≥(aa.1.length:Int))))) trivial rfl rfl (by rw [ak];rfl) (RL.nil ?_)))))
  obtain rfl:=oi hj
  exact⟨rfl,(ag zr),hw.pk 4 [2,0] zr⟩
 rintro σ w ⟨ha,hw⟩
 obtain⟨τ,rfl⟩:=ha.aO
 refine aG (eI hb zr (fun hc hb=>?_) fun hc hb=>?_)
 ·refine RC.seq ?_
  obtain⟨a3,hj,hb⟩:=bd hb
  refine RC.jn (fun(a3:Bool) (σ:Nat→Value) (w:World)=>agree σ [(4,(vb a3))]∧Holds E w ([]++Γ)) a3 ?_ ?_
  ·refine RC.region (mv (vi aa.2) zr zr (ic (aa.2) 0 zr zr zr zr (mv (vb (aa.2==0)) zr zr (fH hj (fun ao hj=>?_) fun ao hj=>?_))))
   ·refine sk rfl (.inl (cb ao)) rfl (sk rfl (.inl (cb ao)) rfl (sk rfl (.inl (cb ao)) rfl (RL.pick (b:=(aa.2==0)) (v:=(vb true)) trivial rfl rfl (by rw [ao];rfl) (mv (vb true) rfl rfl ?_))))
    obtain⟨a8,bj,hj⟩:=bd hj
    refine RL.call ⟨_,zr,zr⟩ zr EX [] zr (aF (gw N hw bj) ?_)
    rintro _ w ⟨rfl,hw⟩
    refine RL.pick (b:=true) (v:=(vb a8)) zt zr zr zr (aM (vb a8) zr zr (RL.nil ?_))
    obtain rfl:=oi hj
    exact⟨rfl,⟨rfl,zt⟩,hw.pk 2 [] zr⟩
   refine RL.move (v:=ah) (cg ao) rfl rfl (RL.dC (i:=1) (l:=aa.1) (cg ao) rfl hw rfl rfl tB (RL.iO (a:=(aa.1.length:Int)) (b:=0) (cg ao) rfl rfl rfl rfl (RL.pick (b:=(aa.2==0)) (v:=(vb ((aa.1.length:Int)==0))) trivial rfl rfl (by rw [ao];rfl) (mv (vb ((aa.1.length:Int)==0)) rfl rfl (fH hj (fun av hj=>?_) fun av hj=>?_)))))
   rotate_left
   ·refine sk rfl (.inl (cb av)) rfl (RL.pick (b:=((aa.1.length:Int)==0)) (v:=(vb false)) trivial rfl rfl (by rw [av];rfl) (aM (vb false) rfl rfl (RL.nil ?_)))
    obtain rfl:=oi hj
    exact⟨rfl,⟨rfl,zt⟩,hw.pk 2 [] zr⟩
   obtain⟨a9,bk,hj⟩:=bd hj
   refine RL.call (cg av) zr EX [] zr (aF (gw N hw bk) ?_)
   rintro _ w ⟨rfl,hw⟩
   refine RL.pick (b:=((aa.1.length:Int)==0)) (v:=(vb a9)) trivial rfl rfl (by rw [av];rfl) (aM (vb a9) rfl rfl (RL.nil ?_))
   obtain rfl:=oi hj
   exact⟨rfl,⟨rfl,zt⟩,hw.pk 2 [] zr⟩
  rintro σ w ⟨ha,hw⟩
  obtain⟨τ,rfl⟩:=ha.aO
  refine aG (RC.rt ?_)
  obtain rfl:=oi hb
  exact bQ zr zr ⟨rfl,hw.drop 0 zr⟩
 refine RC.sx (RL.aY (i:=0) (f:=(fun x=>x)) zt zr hw zr zr Fd.self uG fun bl hw=>?_)
 obtain⟨an,bm,hb⟩:=bd hb
 refine RL.call zt zr FH [bl] zr (aF (qP N (i0:=0) hw zr bm) ?_)
 rintro _ w ⟨al,rfl,hw⟩
 refine mv (.tuple #[al,(vi an.2)]) zr zr (RL.extract (v:=al) zt zr zr zr (RL.extract (v:=(vi an.2)) zt zr zr zr (aM al zr zr (aM (vi an.2) zr zr (RL.nq (RC.sr (mv (vi an.2) zr zr (ic (an.2) 0 zr zr zr zr ?_))))))))
 refine RL.nt (eI hb zr (fun hc hb=>?_) fun hc hb=>?_)
 ·refine RC.sr (aM (vb false) zr zr (RL.nt (RC.rt ?_)))
  obtain rfl:=oi hb
  exact bQ zr zr ⟨rfl,hw.drop 4 zr⟩
 refine RC.sx (aM (.slice none 0 0) zr zr (RL.ns (aM (vi 0) zr zr (RL.nq (RC.sr (aM (vi 0) zr zr (RL.nt ?_)))))))
 obtain⟨b1,hN,hb⟩:=bd hb
 refine RC.iter (fun(o: (List aC)×Int×Int) (σ:Nat→Value) (w:World)=>∃ba:Value,agree σ [(1,(vi p1)),(2,(vp au 0)),(5,ah),(7,al),(8,ba),(9,(vi o.2.1)),(10,(vi o.2.2))]∧Holds E w ([bx 27 au p0,own 23 ah aa.1,own 38 al an.1,own 61 ba o.1]++Γ)) (fun(o: (List aC)×Int×Int) (σ:Nat→Value) (w:World)=>∃aw:Value,agree σ [(1,(vi p1)),(5,ah),(8,aw),(9,(vi o.2.1))]∧Holds E w ([bx 27 au p0,own 23 ah aa.1,own 38 al an.1,own 61 aw o.1]++Γ)) (jq E Γ) hN ?_ ?_ ?_ ?_
 ·have hw:=hw.bV aC 61
  exact⟨(.slice none 0 0),(ag zr),hw.pk 5 [3,4,1,0] zr⟩
 ·intro o fl σ w hI hb
  obtain⟨ax,ha,hw⟩:=hI
  obtain⟨τ,rfl⟩:=ha.aO
  refine RC.seq (RC.sr (mv (vi o.2.2) zr zr (mv al zr zr (RL.dC (i:=2) (l:=an.1) zt zr hw zr zr E4 (ic (o.2.2) ((an.1.length:Int)) zr zr zr zr (RL.nt (eI hb zr (fun hc hb=>?_) fun hc hb=>?_)))))))
  rotate_left
  ·refine RC.ex ?_
   obtain rfl:=oi hb
   exact⟨rfl,ax,(ag zr),hw.pk 4 [0,1,2,3] zr⟩
  refine RC.ss (RC.block (RC.seq (RC.sr (mv al zr zr (mv (vi o.2.2) zr zr ?_)))))
  obtain⟨bn,a0,hb⟩:=bd hb
  refine RL.bB (i:=2) zt zr hw zr zr zr Cn a0 (RL.i7 (α:=Piece) zt zr zr (gS hw (i:=2) zr a0 0) Co (RL.cF (i:=2) (f:=(fun x=>x.aU)) zt zr hw zr (gS hw (i:=2) zr a0 0) zr (aQ a0).2.1 w7 bX (mv (vi p1) zr zr (ic (bn.aU) p1 zr zr zr zr (RL.nt (eI hb zr (fun hc hb=>?_) fun hc hb=>?_))))))
  ·refine RC.ex (BP (aG (RC.region (mv (vi o.2.2) zr zr (RL.gQ (a:=o.2.2) (b:=1) zt zr zr zr zr (aM (vi (IntKind.wrap .i64 (o.2.2+1))) zr zr (RL.nil ?_)))))))
   obtain rfl:=oi hb
   exact⟨rfl,ax,(ag zr),hw.pk 4 [0,1,2,3] zr⟩
  refine RC.sx (RL.aY (i:=0) (f:=(fun x=>x)) zt zr hw zr zr Fd.self uG fun bo hw=>(mv (vi o.2.2) zr zr ?_))
  obtain⟨ai,bp,hb⟩:=bd hb
  refine RL.call zt zr FI [bo,(vi o.2.2)] zr (aF (mK N (p1:=o.2.2) (i0:=0) hw zr bp) ?_)
  rintro _ w ⟨aq,rfl,hw⟩
  refine mv (.tuple #[aq,(vi ai.2)]) zr zr (RL.extract (v:=aq) zt zr zr zr (RL.extract (v:=(vi ai.2)) zt zr zr zr (aM aq zr zr (aM (vi ai.2) zr zr (RL.ns (mv aq zr zr ?_))))))
  obtain⟨ad,bq,hb⟩:=bd hb
  refine RL.call zt zr Fq [aq] zr (aF (oq N (i0:=0) hw zr bq) ?_)
  rintro _ w ⟨rfl,hw⟩
  refine mv (.tuple #[(vi ad.1),(vi ad.2)]) zr zr (RL.extract (v:=(vi ad.1)) zt zr zr zr (RL.extract (v:=(vi ad.2)) zt zr zr zr (aM (vi ad.1) zr zr (aM (vi ad.2) zr zr (RL.nq (RC.seq ?_))))))
  obtain⟨a4,hj,hb⟩:=bd hb
  refine RC.jn (fun(a4:Bool) (σ:Nat→Value) (w:World)=>agree σ [(1,(vi p1)),(2,(vp au 0)),(5,ah),(7,al),(8,ax),(9,(vi o.2.1)),(10,(vi o.2.2)),(11,aq),(13,(vi ad.1)),(90,(vb a4))]∧Holds E w ([bx 27 au p0,own 23 ah aa.1,own 38 al an.1,own 61 ax o.1,rd aq ai.1]++Γ)) a4 ?_ ?_
  ·refine RC.region (mv (vi ai.2) rfl rfl (ic (ai.2) 0 rfl rfl rfl rfl (mv (vb (ai.2 != 0)) rfl rfl (RL.gs (c:=true) (b:=(ai.2 != 0)) (v:=(vi ad.2)) rfl rfl rfl (cN rfl (fun _=>rfl)) (RL.gs (c:=true) (b:=(ai.2 != 0)) (v:=(vb (ad.2 != 0))) rfl rfl rfl (cV (bop:= .neq) (K:= .i64) (a:=ad.2) (b:=0) rfl (fun h=>by exact(cC h:cv (true&&((ai.2 != 0)==false)) (vi ad.2)= (vi ad.2))) (fun _=>rfl) rfl) (RL.pick (b:=(ai.2 != 0)) (v:=(vb ((ai.2 != 0)||(ad.2 != 0)))) trivial rfl rfl (ml (c:=true) rfl) (mv (vb ((ai.2 != 0)||(ad.2 != 0))) rfl rfl (fH hj (fun af hj=>?_) fun af hj=>?_))))))))
   ·refine sk rfl (.inl (cb af)) rfl (sk rfl (.inl (cb af)) rfl (sk rfl (.inl (cb af)) rfl (sk rfl (.inl (cb af)) rfl (sk rfl (.inl (cb af)) rfl (sk rfl (.inl (cb af)) rfl (sk rfl (.inl (cb af)) rfl (RL.pick (b:=((ai.2 != 0)||(ad.2 != 0))) (v:=(vb true)) trivial rfl rfl (by rw [af];rfl) (RL.nil ?_))))))))
    obtain rfl:=oi hj
    exact⟨rfl,(ag zr),hw.pk 6 [2,3,4,5,0] zr⟩
   refine RL.move (v:=(vi ad.1)) (cg af) zr zr (RL.move (v:=al) (cg af) zr zr (RL.move (v:=(vi o.2.2)) (cg af) zr zr ?_))
   obtain⟨bb,a1,hj⟩:=bd hj
   refine RL.bB (i:=4) (cg af) rfl hw rfl rfl rfl Cn a1 (RL.i7 (α:=Piece) (cg af) rfl rfl (gS hw (i:=4) rfl a1 0) Cp (RL.cF (i:=4) (f:=(fun x=>x.o6)) (cg af) rfl hw rfl (gS hw (i:=4) rfl a1 3) rfl (aQ a1).2.1 xc bX (RL.iO (a:=ad.1) (b:=bb.o6) (cg af) rfl rfl rfl rfl (RL.pick (b:=((ai.2 != 0)||(ad.2 != 0))) (v:=(vb (ad.1 != bb.o6))) trivial rfl rfl (by rw [af];rfl) (RL.nil ?_)))))
   obtain rfl:=oi hj
   exact⟨rfl,(ag zr),hw.pk 6 [2,3,4,5,0] zr⟩
  rintro σ w ⟨ha,hw⟩
  obtain⟨τ,rfl⟩:=ha.aO
  refine aG (eI hb zr (fun hc hb=>?_) fun hc hb=>?_)
  ·refine RC.sr (aM (vb false) zr zr (RL.nt (RC.rt (lf (bL ?_)))))
   obtain rfl:=oi hb
   exact⟨rfl,bQ zr zr ⟨rfl,hw.drop 5 zr⟩⟩
  refine RC.sx (mv (vi o.2.1) zr zr (mv (vi ad.1) zr zr (RL.gQ (a:=o.2.1) (b:=ad.1) zt zr zr zr zr (aM (vi (IntKind.wrap .i64 (o.2.1+ad.1))) zr zr (RL.nt (RC.region (mv ax zr zr (mv aq zr zr ?_))))))))
  obtain⟨b2,br,hb⟩:=bd hb
  refine RL.app (i:=3) (j:=4) zt zr hw zr zr zr zr xe br fun bc w hw=>(aM bc zr zr (RL.nil (bJ (aG (RC.region (mv (vi o.2.2) zr zr (RL.gQ (a:=o.2.2) (b:=1) zt zr zr zr zr (aM (vi (IntKind.wrap .i64 (o.2.2+1))) zr zr ?_))))))))
  refine RL.nil ?_
  obtain rfl:=oi hb
  exact⟨rfl,bc,(ag zr),hw.pk 5 [0,1,2,3] zr⟩
 ·intro r σ w e hK
  subst e
  refine bL ?_
  obtain rfl:=oi hb
  exact hK
 intro o σ w e hJ
 subst e
 rw [Fo.eT] at hb
 obtain⟨aw,ha,hw⟩:=hJ
 obtain⟨τ,rfl⟩:=ha.aO
 refine aG (RC.sr (mv aw zr zr ?_))
 have hw:=hw.freeze (i:=3) rfl
 obtain⟨ar,bs,hb⟩:=bd hb
 refine RL.call zt zr FJ [aw] zr (aF (rM N (i0:=3) hw zr bs) ?_)
 rintro _ w ⟨ay,rfl,hw⟩
 refine mv (.tuple #[ay,(vi ar.2)]) zr zr (RL.extract (v:=ay) zt zr zr zr (RL.extract (v:=(vi ar.2)) zt zr zr zr (aM ay zr zr (aM (vi ar.2) zr zr (RL.ns (mv ah zr zr (mv (vi p1) zr zr ?_)))))))
 obtain⟨b3,a5,hb⟩:=bd hb
 refine RL.bB (i:=2) zt zr hw zr zr zr uH a5 (RL.gl (i:=2) (f:=(fun x=>x)) zt zr hw zr (gS hw (i:=2) zr a5 0) zr (aQ a5).2.1 Fd.self qw fun bt hw=>?_)
 obtain⟨ab,bu,hb⟩:=bd hb
 refine RL.call zt zr Fq [bt] zr (aF (oq N (i0:=0) hw zr bu) ?_)
 rintro _ w ⟨rfl,hw⟩
 refine mv (.tuple #[(vi ab.1),(vi ab.2)]) zr zr (RL.extract (v:=(vi ab.1)) zt zr zr zr (RL.extract (v:=(vi ab.2)) zt zr zr zr (aM (vi ab.1) zr zr (aM (vi ab.2) zr zr (RL.nq ?_)))))
 obtain⟨a6,hj,hb⟩:=bd hb
 refine RC.jn (fun(a6:Bool) (σ:Nat→Value) (w:World)=>agree σ [(4,(vb a6))]∧Holds E w ([]++Γ)) a6 ?_ ?_
 ·refine RC.region (mv (vi ar.2) zr zr (ic (ar.2) 0 zr zr zr zr (mv (vb (ar.2==0)) zr zr (fH hj (fun aj hj=>?_) fun aj hj=>?_))))
  rotate_left
  ·refine sk rfl (.inl (cb aj)) rfl (sk rfl (.inl (cb aj)) rfl (sk rfl (.inl (cb aj)) rfl (sk rfl (.inl (cb aj)) rfl (sk rfl (.inl (cb aj)) rfl (sk rfl (.inl (cb aj)) rfl (RL.pick (b:=(ar.2==0)) (v:=(vb false)) trivial rfl rfl (by rw [aj];rfl) (mv (vb false) rfl rfl (sk rfl (.inl rfl) rfl ?_))))))))
   refine sk zr (.inl zr) zr (RL.pick (b:=false) (v:=(vb false)) zt zr zr zr (mv (vb false) zr zr (sk zr (.inl zr) zr (sk zr (.inl zr) zr (sk zr (.inl zr) zr (RL.pick (b:=false) (v:=(vb false)) zt zr zr zr (mv (vb false) zr zr (sk zr (.inl zr) zr ?_))))))))
   refine RL.pick (b:=false) (v:=(vb false)) zt zr zr zr (aM (vb false) zr zr (RL.nil ?_))
   obtain rfl:=oi hj
   exact⟨rfl,⟨rfl,zt⟩,hw.pk 6 [] zr⟩
  refine RL.move (v:=ay) (cg aj) zr zr (RL.move (v:=ah) (cg aj) zr zr (RL.move (v:=(vi p1)) (cg aj) zr zr ?_))
  obtain⟨b4,a7,hj⟩:=bd hj
  refine RL.bB (i:=3) (cg aj) zr hw zr zr zr uH a7 (RL.gl (i:=3) (f:=(fun x=>x)) (cg aj) zr hw zr (gS hw (i:=3) zr a7 0) zr (aQ a7).2.1 Fd.self qw fun bw hw=>?_)
  have hw:=hw.freeze (i:=2) rfl
  obtain⟨ae,bz,hj⟩:=bd hj
  refine RL.call (cg aj) zr E6 [ay,bw] zr (aF (kF N (i0:=2) (i1:=0) hw zr zr bz) ?_)
  rintro _ w ⟨rfl,hw⟩
  refine RL.pick (b:=(ar.2==0)) (v:=(vb ae)) trivial rfl rfl (by rw [aj];rfl) (mv (vb ae) rfl rfl (RL.gs (c:=true) (b:=ae) (v:=(vi ab.2)) rfl rfl rfl (cN rfl (fun _=>rfl)) (RL.gs (c:=true) (b:=ae) (v:=(vb (ab.2==0))) rfl rfl rfl (cV (bop:= .eql) (K:= .i64) (a:=ab.2) (b:=0) rfl (fun h=>by exact(cC h:cv (true&&(ae==true)) (vi ab.2)= (vi ab.2))) (fun _=>rfl) rfl) (RL.pick (b:=ae) (v:=(vb (ae&&(ab.2==0)))) trivial rfl rfl (gW (c:=true) rfl) (mv (vb (ae&&(ab.2==0))) rfl rfl (RL.gs (c:=true) (b:=(ae&&(ab.2==0))) (v:=(vi ab.1)) rfl rfl rfl (cN rfl (fun _=>rfl)) (RL.gs (c:=true) (b:=(ae&&(ab.2==0))) (v:=(vi o.2.1)) rfl rfl rfl (cN rfl (fun _=>rfl)) (RL.gs (c:=true) (b:=(ae&&(ab.2==0))) (v:=(vb (ab.1==o.2.1))) rfl rfl rfl (cV (bop:= .eql) (K:= .i64) (a:=ab.1) (b:=o.2.1) rfl (fun h=>by exact(cC h:cv (true&&((ae&&(ab.2==0))==true)) (vi ab.1)= (vi ab.1))) (fun h=>by exact(cC h:cv (true&&((ae&&(ab.2==0))==true)) (vi o.2.1)= (vi o.2.1))) rfl) ?_))))))))
  refine RL.pick (b:=(ae&&(ab.2==0))) (v:=(vb ((ae&&(ab.2==0))&&(ab.1==o.2.1)))) zt zr zr (gW (c:=true) zr) (mv (vb ((ae&&(ab.2==0))&&(ab.1==o.2.1))) zr zr (fH hj (fun az hj=>?_) fun az hj=>?_))
  rotate_left
  ·refine sk rfl (.inl (cb az)) rfl (RL.pick (b:=((ae&&(ab.2==0))&&(ab.1==o.2.1))) (v:=(vb false)) trivial rfl rfl (by rw [az];rfl) (aM (vb false) rfl rfl (RL.nil ?_)))
   obtain rfl:=oi hj
   exact⟨rfl,⟨rfl,zt⟩,hw.pk 7 [] zr⟩
  obtain⟨bf,b0,hj⟩:=bd hj
  refine RL.call (cg az) zr EX [] zr (aF (gw N hw b0) ?_)
  rintro _ w ⟨rfl,hw⟩
  refine RL.pick (b:=((ae&&(ab.2==0))&&(ab.1==o.2.1))) (v:=(vb bf)) trivial rfl rfl (by rw [az];rfl) (aM (vb bf) rfl rfl (RL.nil ?_))
  obtain rfl:=oi hj
  exact⟨rfl,⟨rfl,zt⟩,hw.pk 7 [] zr⟩
 rintro σ w ⟨ha,hw⟩
 obtain⟨τ,rfl⟩:=ha.aO
 refine aG (RC.ret ?_)
 obtain rfl:=oi hb
 exact bQ zr zr ⟨rfl,hw.drop 0 zr⟩
end Go.Gk
