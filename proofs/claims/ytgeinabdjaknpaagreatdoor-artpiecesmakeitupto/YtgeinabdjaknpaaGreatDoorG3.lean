/-
  Printed texts: Go functions as plain functions, and that they are. No statement of the seed is proved here.
-/
import Derived.Test.YtgeinabdjaknpaaGreatDoorG1
import Derived.Test.YtgeinabdjaknpaaGreatDoorG2
import Derived.Test.YtgeinabdjaknpaaGreatDoorA2
set_option linter.unusedVariables false
set_option linter.unusedSimpArgs false
set_option linter.unusedSectionVars false
set_option maxRecDepth 100000
set_option maxHeartbeats 4000000
namespace Go.Gk
open Go Go.Proofs
def mC (E:World) (Γ:List HP) (res:Int) (v:Value) (w:World):Prop:=v= (vi res)∧Holds E w Γ
theorem mc (N:Nat) {E w:World} {Γ:List HP} {i0:Nat} {v0:Value} {p0:fC} {i1:Nat} {v1:Value} {p1:fC} {res:Int} (hw:Holds E w Γ) (h0:Γ[i0]? =some (rd v0 p0)) (h1:Γ[i1]? =some (rd v1 p1)) (hb:eP N p0 p1=some res):
    Calls Tryz.prog 44 [v0,v1].toArray w (fw (mC E Γ res)):=by
 unfold eP at hb
 refine enter Tryz.func44 zr zr (Nat.le_of_ble_eq_true zr) ?_
 have hw:=hw.dup (i:=i0+0) h0
 have hw:=hw.dup (i:=i1+1) h1
 refine RC.sr (RL.dN (i:=1) (v:=v0) zt zr hw zr zr fun ad w hw=>(RL.dN (i:=1) (v:=v1) zt zr hw zr zr fun ae w hw=>(aM (vi 0) zr zr (RL.nq (RC.sr (RL.bF zt zr zr zZ (RL.aL (i:=1) (f:=(fun x=>x.Part)) zt zr hw zr zr vU zX (RL.bF zt zr zr zZ ?_))))))))
 refine RL.aL (i:=0) (f:=(fun x=>x.Part)) zt zr hw zr zr vU zX ?_
 obtain⟨j,o,hb⟩:=bd hb
 refine RL.call zt zr Db [(str p0.Part),(str p1.Part)] zr (aF (kA N (p0:=p0.Part) (p1:=p1.Part) hw o) ?_)
 rintro _ w ⟨rfl,hw⟩
 refine aM (vi j) zr zr (RL.ns (mv (vi j) zr zr (ic j 0 zr zr zr zr (RL.nt (eI hb zr (fun hc hb=>?_) fun hc hb=>?_)))))
 ·refine RC.sr (mv (vi j) zr zr (aM (vi j) zr zr (RL.nt (RC.rt ?_))))
  obtain rfl:=oi hb
  exact bQ zr zr ⟨rfl,hw.drop 4 zr⟩
 refine RC.sx (RL.bF zt zr zr z5 (RL.aL (i:=1) (f:=(fun x=>x.fC)) zt zr hw zr zr vV zX (RL.bF zt zr zr z5 (RL.aL (i:=0) (f:=(fun x=>x.fC)) zt zr hw zr zr vV zX ?_))))
 obtain⟨aa,ab,hb⟩:=bd hb
 refine RL.call zt zr Db [(str p0.fC),(str p1.fC)] zr (aF (kA N (p0:=p0.fC) (p1:=p1.fC) hw ab) ?_)
 rintro _ w ⟨rfl,hw⟩
 refine aM (vi aa) zr zr (RL.nt (RC.ret ?_))
 obtain rfl:=oi hb
 exact bQ zr zr ⟨rfl,hw.drop 4 zr⟩
def j9 (E:World) (Γ:List HP) (res:Int) (v:Value) (w:World):Prop:=v= (vi res)∧Holds E w Γ
def nZ (E:World) (Γ:List HP) (r:Int) (σ:Nat→Value) (w:World):Prop:=kc Tryz.prog 60 Tryz.f22 (j9 E Γ r) .ret σ w
theorem m4 (N:Nat) {E w:World} {Γ:List HP} {i0:Nat} {v0:Value} {p0:jQ} {res:Int} (hw:Holds E w Γ) (h0:Γ[i0]? =some (rd v0 p0)) (hb:fG N p0=some res):
    Calls Tryz.prog 22 [v0].toArray w (fw (j9 E Γ res)):=by
 unfold fG at hb
 refine enter Tryz.func22 zr zr (Nat.le_of_ble_eq_true zr) ?_
 have hw:=hw.dup (i:=i0+0) h0
 refine RC.sr (RL.dN (i:=0) (v:=v0) zt zr hw zr zr fun aj w hw=>(aM (vi 0) zr zr (RL.nq (RC.sr (RL.bF zt zr zr uM (RL.aY (i:=0) (f:=(fun x=>x.bH)) zt zr hw zr zr pd Bh fun bp hw=>(RL.bG (i:=0) (l:=p0.bH) zt zr hw zr zr Ca (ic ((p0.bH.length:Int)) 1000 zr zr zr zr ?_))))))))
 refine RL.nt (eI hb zr (fun hc hb=>?_) fun hc hb=>?_)
 ·refine RC.sr (aM (vi 2) zr zr (RL.nt (RC.rt ?_)))
  obtain rfl:=oi hb
  exact bQ zr zr ⟨rfl,hw.drop 3 zr⟩
 refine RC.ss (RC.sr (RL.bF zt zr zr uM (RL.aY (i:=1) (f:=(fun x=>x.bH)) zt zr hw zr zr pd Bh fun ak hw=>(RL.bG (i:=0) (l:=p0.bH) zt zr hw zr zr Ca (mv (vi 0) zr zr (RL.nt ?_))))))
 obtain⟨bq,hN,hb⟩:=bd hb
 refine RC.range (fun(aa:Nat) (ar:Unit) (σ:Nat→Value) (w:World)=>agree σ [(1,(vp aj 0)),(10,ak),(11,(vi (p0.bH.length:Int))),(12,(vi (aa:Int)))]∧Holds E w ([bx 27 aj p0,rd ak p0.bH]++Γ)) (fun(ar:Unit) (σ:Nat→Value) (w:World)=>agree σ []∧Holds E w ([bx 27 aj p0,rd ak p0.bH]++Γ)) (nZ E Γ) hN ?_ ?_ ?_ ?_ ?_
 ·exact⟨(ag zr),hw.pk 4 [2,0] zr⟩
 ·intro hm ar σ w hI
  obtain⟨ha,hw⟩:=hI
  obtain⟨τ,rfl⟩:=ha.aO
  refine RC.sr (ic ((p0.bH.length:Int)) ((p0.bH.length:Int)) zr zr zr zr (RL.nq (RC.cH lZ (RC.ex ?_))))
  exact⟨rfl,zt,hw.pk 2 [0,1] zr⟩
 ·intro hm aa ar fl σ w hk hI hb
  obtain⟨ha,hw⟩:=hI
  obtain⟨τ,rfl⟩:=ha.aO
  refine RC.sr (ic ((aa:Int)) ((p0.bH.length:Int)) zr zr zr zr (RL.nq (RC.cG (lY hk) (RC.ss (RC.bs (mv (vi (aa:Int)) zr zr ?_))))))
  obtain⟨al,a4,hb⟩:=bd hb
  refine RL.bO (i:=1) zt zr hw zr zr zr Cb a4 fun br hw=>(RL.bP (i:=0) (x:=al) zt zr hw zr zr vZ fun bt hw=>(RL.alloc zt zr hw C2.z fun aq w hw=>(aM (vi (aa:Int)) zr zr (RL.bC (i:=0) (j:=1) zt hw zr zr zr zr vZ zr fun w hw=>(RL.nt (RC.block (RC.seq ?_)))))))
  obtain⟨ax,hj,hb⟩:=bd hb
  refine RC.jn (fun(ax:Bool) (σ:Nat→Value) (w:World)=>agree σ [(1,(vp aj 0)),(3,(vi (aa:Int))),(4,(vp aq 0)),(10,ak),(11,(vi (p0.bH.length:Int))),(12,(vi (aa:Int))),(17,(vb ax))]∧Holds E w ([bx 27 aj p0,bx 90 aq al,rd ak p0.bH]++Γ)) ax ?_ ?_
  ·refine RC.region (RL.bF zt zr zr zW (RL.aL (i:=0) (f:=(fun x=>x.Part)) zt zr hw zr zr tW zX ?_))
   obtain⟨au,a5,hj⟩:=bd hj
   refine RL.call zt zr Ev [(str al.Part)] zr (aF (pE N (p0:=al.Part) hw a5) ?_)
   rintro _ w ⟨rfl,hw⟩
   refine RL.not (b:=au) zt zr zr (mv (vb (!au)) zr zr (fH hj (fun an hj=>?_) fun an hj=>?_))
   ·refine sk rfl (.inl (cb an)) rfl (sk rfl (.inl (cb an)) rfl (sk rfl (.inl (cb an)) rfl (sk rfl (.inl (cb an)) rfl (RL.pick (b:=(!au)) (v:=(vb true)) trivial rfl rfl (by rw [an];rfl) (aM (vb true) rfl rfl (RL.nil ?_))))))
    obtain rfl:=oi hj
    exact⟨rfl,(ag zr),hw.pk 5 [3,0,4] zr⟩
   refine RL.bF (cg an) zr zr zY (RL.aL (i:=0) (f:=(fun x=>x.fC)) (cg an) zr hw zr zr tX zX ?_)
   obtain⟨ay,a6,hj⟩:=bd hj
   refine RL.call (cg an) zr C8 [(str al.fC)] zr (aF (kW N (p0:=al.fC) hw a6) ?_)
   rintro _ w ⟨rfl,hw⟩
   refine RL.not (b:=ay) (cg an) rfl rfl (RL.pick (b:=(!au)) (v:=(vb (!ay))) trivial rfl rfl (by rw [an];rfl) (aM (vb (!ay)) rfl rfl (RL.nil ?_)))
   obtain rfl:=oi hj
   exact⟨rfl,(ag zr),hw.pk 5 [3,0,4] zr⟩
  rintro σ w ⟨ha,hw⟩
  obtain⟨τ,rfl⟩:=ha.aO
  refine aG (eI hb zr (fun hc hb=>?_) fun hc hb=>?_)
  ·refine RC.sr (aM (vi 5) zr zr (RL.nt (RC.rb (lf (bL ?_)))))
   obtain rfl:=oi hb
   exact⟨rfl,bQ zr zr ⟨rfl,hw.drop 3 zr⟩⟩
  refine RC.seq ?_
  obtain⟨a0,hj,hb⟩:=bd hb
  refine RC.jn (fun(a0:Bool) (σ:Nat→Value) (w:World)=>agree σ [(1,(vp aj 0)),(3,(vi (aa:Int))),(4,(vp aq 0)),(10,ak),(11,(vi (p0.bH.length:Int))),(12,(vi (aa:Int))),(28,(vb a0))]∧Holds E w ([bx 27 aj p0,bx 90 aq al,rd ak p0.bH]++Γ)) a0 ?_ ?_
  ·refine RC.region (RL.bF zt zr zr uN (RL.aL (i:=1) (f:=(fun x=>x.aU)) zt zr hw zr zr nB bX (RL.bF zt zr zr qu (RL.aY (i:=0) (f:=(fun x=>x.aJ)) zt zr hw zr zr lF yw fun bu hw=>(RL.bG (i:=0) (l:=p0.aJ) zt zr hw zr zr tB (RL.gQ (a:=(p0.aJ.length:Int)) (b:=1) zt zr zr zr zr ?_))))))
   obtain⟨av,a7,hj⟩:=bd hj
   refine RL.call zt zr zV [(vi al.aU),(vi 0),(vi (IntKind.wrap .i64 ((p0.aJ.length:Int) - 1)))] zr (aF (gh N (p0:=al.aU) (p1:=0) (p2:=(IntKind.wrap .i64 ((p0.aJ.length:Int) - 1))) hw a7) ?_)
   rintro _ w ⟨rfl,hw⟩
   refine RL.not (b:=av) zt zr zr (mv (vb (!av)) zr zr (fH hj (fun ao hj=>?_) fun ao hj=>?_))
   ·refine sk rfl (.inl (cb ao)) rfl (sk rfl (.inl (cb ao)) rfl (sk rfl (.inl (cb ao)) rfl (sk rfl (.inl (cb ao)) rfl (RL.pick (b:=(!av)) (v:=(vb true)) trivial rfl rfl (by rw [ao];rfl) (aM (vb true) rfl rfl (RL.nil ?_))))))
    obtain rfl:=oi hj
    exact⟨rfl,(ag zr),hw.pk 4 [1,2,3] zr⟩
   refine RL.bF (cg ao) zr zr xg (RL.aY (i:=2) (f:=(fun x=>x.At)) (cg ao) zr hw zr zr qt yB fun a8 hw=>?_)
   obtain⟨a1,a9,hj⟩:=bd hj
   refine RL.call (cg ao) zr C0 [a8] zr (aF (lL N (i0:=0) hw zr a9) ?_)
   rintro _ w ⟨rfl,hw⟩
   refine RL.not (b:=a1) (cg ao) rfl rfl (RL.pick (b:=(!av)) (v:=(vb (!a1))) trivial rfl rfl (by rw [ao];rfl) (aM (vb (!a1)) rfl rfl (RL.nil ?_)))
   obtain rfl:=oi hj
   exact⟨rfl,(ag zr),hw.pk 5 [2,3,4] zr⟩
  rintro σ w ⟨ha,hw⟩
  obtain⟨τ,rfl⟩:=ha.aO
  refine aG (eI hb zr (fun hc hb=>?_) fun hc hb=>?_)
  ·refine RC.sr (aM (vi 1) zr zr (RL.nt (RC.rb (lf (bL ?_)))))
   obtain rfl:=oi hb
   exact⟨rfl,bQ zr zr ⟨rfl,hw.drop 3 zr⟩⟩
  refine RC.seq ?_
  obtain⟨a2,hj,hb⟩:=bd hb
  refine RC.jn (fun(a2:Bool) (σ:Nat→Value) (w:World)=>agree σ [(1,(vp aj 0)),(10,ak),(11,(vi (p0.bH.length:Int))),(12,(vi (aa:Int))),(43,(vb a2))]∧Holds E w ([bx 27 aj p0,rd ak p0.bH]++Γ)) a2 ?_ ?_
  ·refine fH hj (fun o hj=>?_) fun o hj=>?_
   rotate_left
   ·refine RC.tw (E:=E) (Γ:=Γ) mixed rfl [1,1,1,1,1,1,1,1,1,1,1,1,1,1,1,1] [] (fun(x:Unit)=>[(0,44,(vi (aa:Int))),(1,45,(vb (decide ((aa:Int)>0)))),(2,46,(vb (decide ((aa:Int)>0)))),(3,47,undef),(4,48,undef),(5,49,undef),(6,50,undef),(7,51,undef),(8,52,undef),(9,53,undef),(10,54,undef),(11,55,undef),(12,56,undef),(13,57,undef),(14,58,(vb false)),(15,43,(vb false))]) [(1,(vp aj 0)),(3,(vi (aa:Int))),(4,(vp aq 0)),(10,ak),(11,(vi (p0.bH.length:Int))),(12,(vi (aa:Int)))] [] (fun(D:Nat→Bool) (x:Unit)=>[bx 27 aj p0,bx 90 aq al,rd ak p0.bH]) (fun x=>by kernel_rfl) ?_ ⟨fun _=>eA gn rfl,fun _=>yu gn rfl,fun _=>eA gn rfl,fun _=>iw o rfl,fun _=>iw o rfl,fun _=>iw o rfl,fun _=>iw o rfl,fun _=>iw o rfl,fun _=>iw o rfl,fun _=>iw o rfl,fun _=>iw o rfl,fun _=>iw o rfl,fun _=>iw o rfl,fun _=>iw o rfl,fun _=>zJ gn o rfl,fun _=>yt gn rfl,trivial⟩ ?_
    ·have hw:=hw.drew
     exact⟨(),doneV.none,(ag zr),zt,hw⟩
    rintro D σ w hall ⟨_,hv,ha,_,hw⟩
    obtain⟨τ,rfl⟩:=(ac (hv.at 15 rfl (hall 15 (by decide))) (ac (ha.at 0 rfl) (ac (ha.at 1 rfl) (ac (ha.at 2 rfl) (ac (ha.at 3 rfl) (ac (ha.at 4 rfl) (ac (ha.at 5 rfl) az))))))).aO
    obtain rfl:=oi hj
    exact⟨rfl,(ag zr),hw.pk 3 [0,2] zr⟩
   obtain⟨ba,bb,hj⟩:=bd hj
   obtain⟨a3,bc,hj⟩:=bd hj
   obtain⟨bf,bg,hj⟩:=bd hj
   obtain⟨aw,bh,hj⟩:=bd hj
   refine RC.tw (E:=E) (Γ:=Γ) mixed rfl [1,1,1,0,0,1,0,1,1,0,0,0,0,1,1,1] [3,4,6,9,10,11] (fun(x:Value×Value×Value×Value×Value×Value)=>(fun ab ad ah ai ae af=>[(0,44,(vi (aa:Int))),(1,45,(vb (decide ((aa:Int)>0)))),(2,46,(vb (decide ((aa:Int)>0)))),(3,47,ab),(4,48,ad),(5,49,(vp aj 3)),(6,50,ah),(7,51,(vi (aa:Int))),(8,52,(vi (IntKind.wrap .i64 ((aa:Int) - 1)))),(9,53,ai),(10,54,ae),(11,55,af),(12,56,(vi aw)),(13,57,(vb (decide (aw≤0)))),(14,58,(vb (decide (aw≤0)))),(15,43,(vb (decide (aw≤0))))]) x.1 x.2.1 x.2.2.1 x.2.2.2.1 x.2.2.2.2.1 x.2.2.2.2.2) [(1,(vp aj 0)),(3,(vi (aa:Int))),(4,(vp aq 0)),(10,ak),(11,(vi (p0.bH.length:Int))),(12,(vi (aa:Int)))] [] (fun(D:Nat→Bool) (x:Value×Value×Value×Value×Value×Value)=>(fun ab ad ah ai ae af=>[bif D 0 then (rd ab al) else aK,bif D 1 then (rd ad ba) else aK,bif D 2 then (rd ah p0.bH) else aK,bif D 3 then (pt ai a3) else aK,bif D 4 then (rd ae a3) else aK,bif D 5 then (rd af bf) else aK,bx 27 aj p0,bx 90 aq al,rd ak p0.bH]) x.1 x.2.1 x.2.2.1 x.2.2.2.1 x.2.2.2.2.1 x.2.2.2.2.2) (fun x=>by kernel_rfl) ?_ ⟨fun _=>eA gn rfl,fun _=>yu gn rfl,fun _=>eA gn rfl,?_,?_,fun _=>fN (gy o rfl) uM rfl,?_,fun _=>eA (gy o rfl) rfl,fun _=>zH (gy o rfl) rfl,?_,?_,?_,?_,fun _=>yu (gy o rfl) rfl,fun _=>zI gn o rfl,fun _=>yt gn rfl,trivial⟩ ?_
   ·have hw:=hw.drew
    have hw:=hw.aK
    have hw:=hw.aK
    have hw:=hw.aK
    have hw:=hw.aK
    have hw:=hw.aK
    have hw:=hw.aK
    exact⟨(undef,undef,undef,undef,undef,undef),doneV.none,(ag zr),zt,hw⟩
   ·rintro D σ w hD hdep hcl ⟨⟨ab,ad,ah,ai,ae,af⟩,hv,ha,_,hw⟩
    obtain⟨τ,rfl⟩:=(ac (hv.at 2 rfl (hdep.1 rfl)) (ac (ha.at 2 rfl) az)).aO
    have hw:=hw.aP (i:=0) rfl hD
    refine RL.aY (i:=7) (f:=(fun x=>x)) (cg o) zr hw zr zr Fd.self vZ fun bj hw=>?_
    have hw:=hw.pl 10 [0,2,3,4,5,6,7,8,9] rfl
    have hw:=hw.aS (i:=0) (b:=true) rfl rfl (aK)
    exact RL.nil ⟨rfl,(bj,ad,ah,ai,ae,af),hv.put 3 zr zr,ha.up zr,zt,hw⟩
   ·rintro D σ w hD hdep hcl ⟨⟨ab,ad,ah,ai,ae,af⟩,hv,ha,_,hw⟩
    obtain⟨τ,rfl⟩:=(ac (hv.at 2 rfl (hdep.2.1 rfl)) (ac (hv.at 3 rfl (hdep.1 rfl)) az)).aO
    have hw:=hw.aR (i:=0) rfl (hdep.1 rfl)
    have hw:=hw.aP (i:=1) rfl hD
    refine RL.call (cg o) zr Cc [ab] zr (aF (jX N (i0:=0) hw zr bb) ?_)
    rintro bk w hw
    have hw:=hw.pl 10 [1,0,3,4,5,6,7,8,9] rfl
    have hw:=hw.aS (i:=0) (b:=D 3) rfl (hdep.1 rfl) (aK)
    have hw:=hw.aS (i:=1) (b:=true) rfl rfl (aK)
    exact RL.nil ⟨rfl,(ab,bk,ah,ai,ae,af),hv.put 4 zr zr,ha.up zr,zt,hw⟩
   ·rintro D σ w hD hdep hcl ⟨⟨ab,ad,ah,ai,ae,af⟩,hv,ha,_,hw⟩
    obtain⟨τ,rfl⟩:=(ac (hv.at 2 rfl (hdep.2.1 rfl)) (ac (hv.at 5 rfl (hdep.1 rfl)) az)).aO
    have hw:=hw.aP (i:=2) rfl hD
    refine RL.aY (i:=6) (f:=(fun x=>x.bH)) (cg o) zr hw zr zr pd Bh fun bl hw=>?_
    have hw:=hw.pl 10 [1,2,0,4,5,6,7,8,9] rfl
    have hw:=hw.aS (i:=2) (b:=true) rfl rfl (aK)
    exact RL.nil ⟨rfl,(ab,ad,bl,ai,ae,af),hv.put 6 zr zr,ha.up zr,zt,hw⟩
   ·rintro D σ w hD hdep hcl ⟨⟨ab,ad,ah,ai,ae,af⟩,hv,ha,_,hw⟩
    obtain⟨τ,rfl⟩:=(ac (hv.at 2 rfl (hdep.2.2.1 rfl)) (ac (hv.at 6 rfl (hdep.1 rfl)) (ac (hv.at 8 rfl (hdep.2.1 rfl)) az))).aO
    have hw:=hw.aR (i:=2) rfl (hdep.1 rfl)
    have hw:=hw.aP (i:=3) rfl hD
    refine RL.bO (i:=2) (cg o) zr hw zr zr zr Cb bc fun bm hw=>?_
    have hw:=hw.pl 10 [1,2,3,0,5,6,7,8,9] rfl
    have hw:=hw.aS (i:=2) (b:=D 6) rfl (hdep.1 rfl) (aK)
    have hw:=hw.aS (i:=3) (b:=true) rfl rfl (aK)
    exact RL.nil ⟨rfl,(ab,ad,ah,bm,ae,af),hv.put 9 zr zr,ha.up zr,zt,hw⟩
   ·rintro D σ w hD hdep hcl ⟨⟨ab,ad,ah,ai,ae,af⟩,hv,ha,_,hw⟩
    obtain⟨τ,rfl⟩:=(ac (hv.at 2 rfl (hdep.2.1 rfl)) (ac (hv.at 9 rfl (hdep.1 rfl)) az)).aO
    have hw:=hw.aR (i:=3) rfl (hdep.1 rfl)
    have hw:=hw.aP (i:=4) rfl hD
    refine RL.bP (i:=3) (x:=a3) (cg o) zr hw zr zr vZ fun bn hw=>?_
    have hw:=hw.pl 10 [1,2,3,4,0,6,7,8,9] rfl
    have hw:=hw.aS (i:=3) (b:=D 9) rfl (hdep.1 rfl) (aK)
    have hw:=hw.aS (i:=4) (b:=true) rfl rfl (aK)
    exact RL.nil ⟨rfl,(ab,ad,ah,ai,bn,af),hv.put 10 zr zr,ha.up zr,zt,hw⟩
   ·rintro D σ w hD hdep hcl ⟨⟨ab,ad,ah,ai,ae,af⟩,hv,ha,_,hw⟩
    obtain⟨τ,rfl⟩:=(ac (hv.at 2 rfl (hdep.2.2.1 rfl)) (ac (hv.at 10 rfl (hdep.1 rfl)) az)).aO
    have hw:=hw.aR (i:=4) rfl (hdep.1 rfl)
    have hw:=hw.aP (i:=5) rfl hD
    refine RL.call (cg o) zr Cc [ae] zr (aF (jX N (i0:=4) hw zr bg) ?_)
    rintro bo w hw
    have hw:=hw.pl 10 [1,2,3,4,5,0,7,8,9] rfl
    have hw:=hw.aS (i:=4) (b:=D 10) rfl (hdep.1 rfl) (aK)
    have hw:=hw.aS (i:=5) (b:=true) rfl rfl (aK)
    exact RL.nil ⟨rfl,(ab,ad,ah,ai,ae,bo),hv.put 11 zr zr,ha.up zr,zt,hw⟩
   ·rintro D σ w hD hdep hcl ⟨⟨ab,ad,ah,ai,ae,af⟩,hv,ha,_,hw⟩
    obtain⟨τ,rfl⟩:=(ac (hv.at 2 rfl (hdep.2.2.2.1 rfl)) (ac (hv.at 4 rfl (hdep.1 rfl)) (ac (hv.at 11 rfl (hdep.2.1 rfl)) az))).aO
    have hw:=hw.aR (i:=1) rfl (hdep.1 rfl)
    have hw:=hw.aR (i:=5) rfl (hdep.2.1 rfl)
    refine RL.call (cg o) zr Ey [ad,af] zr (aF (mc N (i0:=1) (i1:=5) hw zr zr bh) ?_)
    rintro _ w ⟨rfl,hw⟩
    have hw:=hw.aS (i:=1) (b:=D 4) rfl (hdep.1 rfl) (aK)
    have hw:=hw.aS (i:=5) (b:=D 11) rfl (hdep.2.1 rfl) (aK)
    exact RL.nil ⟨rfl,(ab,ad,ah,ai,ae,af),hv.put 12 zr zr,ha.up zr,zt,hw⟩
   rintro D σ w hall ⟨⟨ab,ad,ah,ai,ae,af⟩,hv,ha,_,hw⟩
   have hw:=hw.aR (i:=0) rfl (hall 3 (by decide))
   have hw:=hw.aR (i:=1) rfl (hall 4 (by decide))
   have hw:=hw.aR (i:=2) rfl (hall 6 (by decide))
   have hw:=hw.aR (i:=3) rfl (hall 9 (by decide))
   have hw:=hw.aR (i:=4) rfl (hall 10 (by decide))
   have hw:=hw.aR (i:=5) rfl (hall 11 (by decide))
   obtain⟨τ,rfl⟩:=(ac (hv.at 15 rfl (hall 15 (by decide))) (ac (ha.at 0 rfl) (ac (ha.at 1 rfl) (ac (ha.at 2 rfl) (ac (ha.at 3 rfl) (ac (ha.at 4 rfl) (ac (ha.at 5 rfl) az))))))).aO
   obtain rfl:=oi hj
   exact⟨rfl,(ag zr),hw.pk 9 [6,8] zr⟩
  rintro σ w ⟨ha,hw⟩
  obtain⟨τ,rfl⟩:=ha.aO
  refine aG (eI hb zr (fun hc hb=>?_) fun hc hb=>?_)
  rotate_left
  ·refine RC.skip (bJ (bJ (aG (RC.region (RL.inc zt zr hk hm zr zr (mv (vi ((aa+1:Nat):Int)) zr zr (RL.nil ?_)))))))
   obtain rfl:=oi hb
   exact⟨rfl,(ag zr),hw.pk 2 [0,1] zr⟩
  refine RC.sr (aM (vi 8) zr zr (RL.nt (RC.rb (lf (bL ?_)))))
  obtain rfl:=oi hb
  exact⟨rfl,bQ zr zr ⟨rfl,hw.drop 2 zr⟩⟩
 ·intro r σ w e hK
  subst e
  refine bL ?_
  obtain rfl:=oi hb
  exact hK
 intro ar σ w e hJ
 subst e
 rw [Fo.eT] at hb
 obtain⟨ha,hw⟩:=hJ
 obtain⟨τ,rfl⟩:=ha.aO
 refine aG (RC.sr (aM (vi 0) zr zr (RL.nt (RC.ret ?_))))
 obtain rfl:=oi hb
 exact bQ zr zr ⟨rfl,hw.drop 2 zr⟩
def rJ (E:World) (Γ:List HP) (res:Int) (v:Value) (w:World):Prop:=v= (vi res)∧Holds E w Γ
theorem lR (N:Nat) {E w:World} {Γ:List HP} {p0:Int} {p1:Int} {p2:Int} {p3:Int} {res:Int} (hw:Holds E w Γ) (hb:gI N p0 p1 p2 p3=some res):
    Calls Tryz.prog 46 [(vi p0),(vi p1),(vi p2),(vi p3)].toArray w (fw (rJ E Γ res)):=by
 unfold gI at hb
 refine enter Tryz.func46 zr zr (Nat.le_of_ble_eq_true zr) (RC.sr (aM (vi 0) zr zr (RL.ns (mv (vi p2) zr zr (mv (vi p1) zr zr (RL.gQ (a:=p2) (b:=p1) zt zr zr zr zr (RL.gQ (a:=(IntKind.wrap .i64 (p2 - p1))) (b:=1) zt zr zr zr zr (mv (vi p0) zr zr ?_))))))))
 refine mv (vi p3) zr zr (RL.gQ (a:=p0) (b:=p3) zt zr zr zr zr (RL.gQ (a:=(IntKind.wrap .i64 (p0 - p3))) (b:=1) zt zr zr zr zr (RL.D5 (a:=0) (b:=(IntKind.wrap .i64 ((IntKind.wrap .i64 (p2 - p1))+1))) (c:=(IntKind.wrap .i64 ((IntKind.wrap .i64 (p0 - p3))+1))) zt zr zr zr zr (aM (vi (if (if 0< (IntKind.wrap .i64 ((IntKind.wrap .i64 (p2 - p1))+1)) then (IntKind.wrap .i64 ((IntKind.wrap .i64 (p2 - p1))+1)) else 0)< (IntKind.wrap .i64 ((IntKind.wrap .i64 (p0 - p3))+1)) then (IntKind.wrap .i64 ((IntKind.wrap .i64 (p0 - p3))+1)) else (if 0< (IntKind.wrap .i64 ((IntKind.wrap .i64 (p2 - p1))+1)) then (IntKind.wrap .i64 ((IntKind.wrap .i64 (p2 - p1))+1)) else 0))) zr zr (RL.nt (RC.ret ?_))))))
 obtain rfl:=oi hb
 exact bQ zr zr ⟨rfl,hw.drop 0 zr⟩
def wg (E:World) (Γ:List HP) (res:Int) (v:Value) (w:World):Prop:=v= (vi res)∧Holds E w Γ
theorem uW (N:Nat) {E w:World} {Γ:List HP} {i0:Nat} {v0:Value} {p0:aC} {i1:Nat} {v1:Value} {p1:aC} {res:Int} (hw:Holds E w Γ) (h0:Γ[i0]? =some (rd v0 p0)) (h1:Γ[i1]? =some (rd v1 p1)) (hb:lz N p0 p1=some res):
    Calls Tryz.prog 23 [v0,v1].toArray w (fw (wg E Γ res)):=by
 unfold lz at hb
 refine enter Tryz.func23 zr zr (Nat.le_of_ble_eq_true zr) ?_
 have hw:=hw.dup (i:=i0+0) h0
 have hw:=hw.dup (i:=i1+1) h1
 refine RC.sr (RL.dN (i:=1) (v:=v0) zt zr hw zr zr fun j w hw=>(RL.dN (i:=1) (v:=v1) zt zr hw zr zr fun o w hw=>(aM (vi 0) zr zr (RL.nq ?_))))
 obtain⟨aa,ad,hb⟩:=bd hb
 obtain⟨ab,ae,hb⟩:=bd hb
 refine RC.tw (E:=E) (Γ:=Γ) mixed rfl [1,0,1,0,1,0,1,0,0,1,0,1,0,1,0,1,0,0,0,1] [] (fun(x:Unit)=>[(0,5,(vp j 0)),(1,6,(vi p0.X0)),(2,7,(vp j 2)),(3,8,(vi p0.X1)),(4,9,(vp o 0)),(5,10,(vi p1.X0)),(6,11,(vp o 2)),(7,12,(vi p1.X1)),(8,13,(vi aa)),(9,14,(vp j 1)),(10,15,(vi p0.Y0)),(11,16,(vp j 3)),(12,17,(vi p0.Y1)),(13,18,(vp o 1)),(14,19,(vi p1.Y0)),(15,20,(vp o 3)),(16,21,(vi p1.Y1)),(17,22,(vi ab)),(18,23,(vi (if aa<ab then ab else aa))),(19,4,(vi (if aa<ab then ab else aa)))]) [(2,(vp j 0)),(3,(vp o 0))] [] (fun(D:Nat→Bool) (x:Unit)=>[bx 61 o p1,bx 61 j p0,rd v1 p1,rd v0 p0]) (fun x=>by kernel_rfl) ?_ ⟨fun _=>fN gn f0 rfl,?_,fun _=>fN gn gN rfl,?_,fun _=>fN gn f0 rfl,?_,fun _=>fN gn gN rfl,?_,?_,fun _=>fN gn gM rfl,?_,fun _=>fN gn jU rfl,?_,fun _=>fN gn gM rfl,?_,fun _=>fN gn jU rfl,?_,?_,?_,fun _=>yt gn rfl,trivial⟩ ?_
 ·have hw:=hw.drew
  exact⟨(),doneV.none,(ag zr),zt,hw⟩
 ·rintro D σ w hD hdep hcl ⟨_,hv,ha,_,hw⟩
  obtain⟨τ,rfl⟩:=(ac (hv.at 0 rfl (hdep.1 rfl)) az).aO
  refine RL.aL (i:=1) (f:=(fun x=>x.X0)) zt zr hw zr zr cU bX ?_
  exact RL.nil ⟨rfl,(),hv.put 1 zr zr,ha.up zr,zt,hw⟩
 ·rintro D σ w hD hdep hcl ⟨_,hv,ha,_,hw⟩
  obtain⟨τ,rfl⟩:=(ac (hv.at 2 rfl (hdep.1 rfl)) az).aO
  refine RL.aL (i:=1) (f:=(fun x=>x.X1)) zt zr hw zr zr dK bX ?_
  exact RL.nil ⟨rfl,(),hv.put 3 zr zr,ha.up zr,zt,hw⟩
 ·rintro D σ w hD hdep hcl ⟨_,hv,ha,_,hw⟩
  obtain⟨τ,rfl⟩:=(ac (hv.at 4 rfl (hdep.1 rfl)) az).aO
  refine RL.aL (i:=0) (f:=(fun x=>x.X0)) zt zr hw zr zr cU bX ?_
  exact RL.nil ⟨rfl,(),hv.put 5 zr zr,ha.up zr,zt,hw⟩
 ·rintro D σ w hD hdep hcl ⟨_,hv,ha,_,hw⟩
  obtain⟨τ,rfl⟩:=(ac (hv.at 6 rfl (hdep.1 rfl)) az).aO
  refine RL.aL (i:=0) (f:=(fun x=>x.X1)) zt zr hw zr zr dK bX ?_
  exact RL.nil ⟨rfl,(),hv.put 7 zr zr,ha.up zr,zt,hw⟩
 ·rintro D σ w hD hdep hcl ⟨_,hv,ha,_,hw⟩
  obtain⟨τ,rfl⟩:=(ac (hv.at 1 rfl (hdep.1 rfl)) (ac (hv.at 3 rfl (hdep.2.1 rfl)) (ac (hv.at 5 rfl (hdep.2.2.1 rfl)) (ac (hv.at 7 rfl (hdep.2.2.2.1 rfl)) az)))).aO
  refine RL.call zt zr Dc [(vi p0.X0),(vi p0.X1),(vi p1.X0),(vi p1.X1)] zr (aF (lR N (p0:=p0.X0) (p1:=p0.X1) (p2:=p1.X0) (p3:=p1.X1) hw ad) ?_)
  rintro _ w ⟨rfl,hw⟩
  exact RL.nil ⟨rfl,(),hv.put 8 zr zr,ha.up zr,zt,hw⟩
 ·rintro D σ w hD hdep hcl ⟨_,hv,ha,_,hw⟩
  obtain⟨τ,rfl⟩:=(ac (hv.at 9 rfl (hdep.1 rfl)) az).aO
  refine RL.aL (i:=1) (f:=(fun x=>x.Y0)) zt zr hw zr zr cZ bX ?_
  exact RL.nil ⟨rfl,(),hv.put 10 zr zr,ha.up zr,zt,hw⟩
 ·rintro D σ w hD hdep hcl ⟨_,hv,ha,_,hw⟩
  obtain⟨τ,rfl⟩:=(ac (hv.at 11 rfl (hdep.1 rfl)) az).aO
  refine RL.aL (i:=1) (f:=(fun x=>x.Y1)) zt zr hw zr zr fz bX ?_
  exact RL.nil ⟨rfl,(),hv.put 12 zr zr,ha.up zr,zt,hw⟩
 ·rintro D σ w hD hdep hcl ⟨_,hv,ha,_,hw⟩
  obtain⟨τ,rfl⟩:=(ac (hv.at 13 rfl (hdep.1 rfl)) az).aO
  refine RL.aL (i:=0) (f:=(fun x=>x.Y0)) zt zr hw zr zr cZ bX ?_
  exact RL.nil ⟨rfl,(),hv.put 14 zr zr,ha.up zr,zt,hw⟩
 ·rintro D σ w hD hdep hcl ⟨_,hv,ha,_,hw⟩
  obtain⟨τ,rfl⟩:=(ac (hv.at 15 rfl (hdep.1 rfl)) az).aO
  refine RL.aL (i:=0) (f:=(fun x=>x.Y1)) zt zr hw zr zr fz bX ?_
  exact RL.nil ⟨rfl,(),hv.put 16 zr zr,ha.up zr,zt,hw⟩
 ·rintro D σ w hD hdep hcl ⟨_,hv,ha,_,hw⟩
  obtain⟨τ,rfl⟩:=(ac (hv.at 10 rfl (hdep.1 rfl)) (ac (hv.at 12 rfl (hdep.2.1 rfl)) (ac (hv.at 14 rfl (hdep.2.2.1 rfl)) (ac (hv.at 16 rfl (hdep.2.2.2.1 rfl)) az)))).aO
  refine RL.call zt zr Dc [(vi p0.Y0),(vi p0.Y1),(vi p1.Y0),(vi p1.Y1)] zr (aF (lR N (p0:=p0.Y0) (p1:=p0.Y1) (p2:=p1.Y0) (p3:=p1.Y1) hw ae) ?_)
  rintro _ w ⟨rfl,hw⟩
  exact RL.nil ⟨rfl,(),hv.put 17 zr zr,ha.up zr,zt,hw⟩
 ·rintro D σ w hD hdep hcl ⟨_,hv,ha,_,hw⟩
  obtain⟨τ,rfl⟩:=(ac (hv.at 8 rfl (hdep.1 rfl)) (ac (hv.at 17 rfl (hdep.2.1 rfl)) az)).aO
  refine RL.max (a:=aa) (b:=ab) zt zr zr zr ?_
  exact RL.nil ⟨rfl,(),hv.put 18 zr zr,ha.up zr,zt,hw⟩
 rintro D σ w hall ⟨_,hv,ha,_,hw⟩
 obtain⟨τ,rfl⟩:=(ac (hv.at 19 rfl (hall 19 (by decide))) (ac (ha.at 0 rfl) (ac (ha.at 1 rfl) az))).aO
 refine aG (RC.ret ?_)
 obtain rfl:=oi hb
 exact bQ zr zr ⟨rfl,hw.drop 4 zr⟩
def qK (E:World) (Γ:List HP) (res:Bool) (v:Value) (w:World):Prop:=v= (vb res)∧Holds E w Γ
theorem gU (N:Nat) {E w:World} {Γ:List HP} {i0:Nat} {v0:Value} {p0:bD} {p1:Int} {res:Bool} (hw:Holds E w Γ) (h0:Γ[i0]? =some (rd v0 p0)) (hb:fW N p0 p1=some res):
    Calls Tryz.prog 47 [v0,(vi p1)].toArray w (fw (qK E Γ res)):=by
 unfold fW at hb
 refine enter Tryz.func47 zr zr (Nat.le_of_ble_eq_true zr) ?_
 have hw:=hw.dup (i:=i0+0) h0
 refine RC.sr (RL.dN (i:=0) (v:=v0) zt zr hw zr zr fun j w hw=>(aM (vb false) zr zr (RL.ns (RL.bF zt zr zr oE (RL.aL (i:=0) (f:=(fun x=>x.bN)) zt zr hw zr zr jz bX (mv (vi p1) zr zr (ic (p0.bN) p1 zr zr zr zr (mv (vb (decide (p0.bN≤p1))) zr zr ?_))))))))
 refine RL.gs (c:=true) (b:=(decide (p0.bN≤p1))) (v:=(vi p1)) rfl rfl rfl (cN rfl (fun _=>rfl)) (RL.gs (c:=true) (b:=(decide (p0.bN≤p1))) (v:=(vp j 4)) rfl rfl rfl (dD rfl (fun _=>rfl) qy) (RL.gs (c:=true) (b:=(decide (p0.bN≤p1))) (v:=(vi p0.To)) rfl rfl rfl (bK (i:=0) (f:=(fun x=>x.To)) rfl hw (fun h=>by exact(cC h:cv (true&&((decide (p0.bN≤p1))==true)) (vp j 4)= (vp j 4))) rfl ki bX) (RL.gs (c:=true) (b:=(decide (p0.bN≤p1))) (v:=(vb (decide (p1≤p0.To)))) rfl rfl rfl (cV (bop:= .leq) (K:= .i64) (a:=p1) (b:=p0.To) rfl (fun h=>by exact(cC h:cv (true&&((decide (p0.bN≤p1))==true)) (vi p1)= (vi p1))) (fun h=>by exact(cC h:cv (true&&((decide (p0.bN≤p1))==true)) (vi p0.To)= (vi p0.To))) rfl) (RL.pick (b:=(decide (p0.bN≤p1))) (v:=(vb ((decide (p0.bN≤p1))&&(decide (p1≤p0.To))))) trivial rfl rfl (gW (c:=true) rfl) (aM (vb ((decide (p0.bN≤p1))&&(decide (p1≤p0.To)))) rfl rfl (RL.nt (RC.ret ?_)))))))
 obtain rfl:=oi hb
 exact bQ zr zr ⟨rfl,hw.drop 2 zr⟩
def sB (E:World) (Γ:List HP) (res: (List Int)×Int) (v:Value) (w:World):Prop:=∃u0:Value,v = .tuple #[u0,(vi res.2)]∧Holds E w ([rd u0 res.1]++Γ)
theorem mw (N:Nat) {E w:World} {Γ:List HP} {i0:Nat} {v0:Value} {p0: (List aA)} {p1:Int} {p2:Int} {res: (List Int)×Int} (hw:Holds E w Γ) (h0:Γ[i0]? =some (rd v0 p0)) (hb:il N p0 p1 p2=some res):
    Calls Tryz.prog 100 [v0,(vi p1),(vi p2)].toArray w (fw (sB E Γ res)):=by
 unfold il at hb
 refine enter Tryz.func100 zr zr (Nat.le_of_ble_eq_true zr) ?_
 have hw:=hw.dup (i:=i0+0) h0
 refine RC.sr (aM (.slice none 0 0) zr zr (aM (vi 0) zr zr (RL.nq (RC.bs (mv v0 zr zr (RL.bG (i:=0) (l:=p0) zt zr hw zr zr nO (ic ((p0.length:Int)) 0 zr zr zr zr (aM (vb ((p0.length:Int)==0)) zr zr ?_))))))))
 refine RL.nt (eI hb zr (fun hc hb=>?_) fun hc hb=>?_)
 ·refine RC.sr (mv (vi p2) zr zr (aM (.slice none 0 0) zr zr (aM (vi p2) zr zr (RL.nt (RC.rb (bL ?_))))))
  obtain rfl:=oi hb
  have hw:=hw.rW Int
  exact i5 zr zr zr ⟨(.slice none 0 0),zr,hw.pk 2 [0] zr⟩
 refine RC.sr (mv (vi p1) zr zr (mv v0 zr zr ?_))
 obtain⟨aa,ad,hb⟩:=bd hb
 refine RL.bO (i:=0) zt zr hw zr zr zr jA ad fun ai hw=>(RL.gR (i:=0) (f:=fun(x:aA)=>x.Y0) zt zr hw zr zr lk cR fun aj hw=>(RL.bA (i:=0) (y:=aa.Y0) zt zr hw zr zr bX (ic p1 (aa.Y0) zr zr zr zr (aM (vb (decide (p1<aa.Y0))) zr zr (RL.nt (eI hb zr (fun hc hb=>?_) fun hc hb=>?_))))))
 ·refine RC.seq (RC.uy mixed rfl (by kernel_rfl) ?_)
  have hw:=hw.drew
  refine RO.go (mv (vi p2) zr zr (RO.nx (mv v0 zr zr (RO.nx ?_))))
  obtain⟨j,ae,hb⟩:=bd hb
  refine RL.bO (i:=2) zt zr hw zr zr zr jA ae fun ak hw=>(RO.nx (RL.gR (i:=0) (f:=fun(x:aA)=>x.Y0) zt zr hw zr zr lk cR fun al hw=>(RO.nx (RL.bA (i:=0) (y:=j.Y0) zt zr hw zr zr bX (RO.nx (RL.min (a:=p2) (b:=j.Y0) zt zr zr zr (RO.nx (aM (.slice none 0 0) zr zr ?_))))))))
  refine RO.nx (aM (vi (if j.Y0<p2 then j.Y0 else p2)) zr zr (RO.last (aG (RC.rb (bL ?_)))))
  obtain rfl:=oi hb
  have hw:=hw.rW Int
  exact i5 zr zr zr ⟨(.slice none 0 0),zr,hw.pk 6 [0] zr⟩
 refine RC.skip (bJ (aG (RC.seq (RC.uy mixed rfl (by kernel_rfl) ?_))))
 have hw:=hw.drew
 refine RO.go (mv v0 zr zr (RO.nx ?_))
 obtain⟨af,ag,hb⟩:=bd hb
 refine RL.bO (i:=2) zt zr hw zr zr zr jA ag fun an hw=>(RO.nx (RL.gR (i:=0) (f:=fun(x:aA)=>x.Xs) zt zr hw zr zr iP bR fun ao hw=>(RO.nx (RL.bP (i:=0) (x:=af.Xs) zt zr hw zr zr dL fun ab hw=>(RO.nx (mv (vi p2) zr zr (RO.nx (mv v0 zr zr ?_))))))))
 refine RO.nx ?_
 obtain⟨o,ah,hb⟩:=bd hb
 refine RL.bO (i:=5) zt zr hw zr zr zr jA ah fun aq hw=>(RO.nx (RL.gR (i:=0) (f:=fun(x:aA)=>x.Y1) zt zr hw zr zr jV cL fun ar hw=>(RO.nx (RL.bA (i:=0) (y:=o.Y1) zt zr hw zr zr bX (RO.nx (RL.min (a:=p2) (b:=o.Y1) zt zr zr zr (RO.nx (aM ab zr zr ?_))))))))
 refine RO.nx (aM (vi (if o.Y1<p2 then o.Y1 else p2)) zr zr (RO.last (aG (RC.ret ?_))))
 obtain rfl:=oi hb
 exact i5 zr zr zr ⟨ab,zr,hw.pk 8 [2] zr⟩
def uX (E:World) (Γ:List HP) (res: (List Int)) (v:Value) (w:World):Prop:=Holds E w ([own 3 v res]++Γ)
theorem tE (N:Nat) {E w:World} {Γ:List HP} {i0:Nat} {v0:Value} {p0: (List Int)} {i1:Nat} {v1:Value} {p1: (List Int)} {v2:Value} {p2:Bool→Bool→Option Bool} {res: (List Int)} (hw:Holds E w Γ) (h0:Γ[i0]? =some (rd v0 p0)) (h1:Γ[i1]? =some (rd v1 p1)) (h2:Cx Tryz.prog E Γ v2 p2 (fun(r:Bool)=>Value.bool r)) (hb:kp N p0 p1 p2=some res):
    Calls Tryz.prog 101 [v0,v1,v2].toArray w (fw (uX E Γ res)):=by
 unfold kp at hb
 refine enter Tryz.func101 zr zr (Nat.le_of_ble_eq_true zr) ?_
 have hw:=hw.dup (i:=i0+0) h0
 have hw:=hw.dup (i:=i1+1) h1
 refine RC.sr (aM (.slice none 0 0) zr zr (RL.ns (aM (.slice none 0 0) zr zr (RL.ns (aM (vb false) zr zr (aM (vb false) zr zr (aM (vb false) zr zr (RL.nq ?_))))))))
 obtain⟨bq,hN,hb⟩:=bd hb
 refine RC.iter (fun(o: (List Int)×(List Int)×(List Int)×Bool×Bool×Bool) (σ:Nat→Value) (w:World)=>∃a5 a6 a7:Value,agree σ [(0,a5),(1,a6),(2,v2),(7,a7),(8,(vb o.2.2.2.1)),(9,(vb o.2.2.2.2.1)),(10,(vb o.2.2.2.2.2))]∧Holds E w ([rd a5 o.1,rd a6 o.2.1,own 3 a7 o.2.2.1]++Γ)) (fun(o: (List Int)×(List Int)×(List Int)×Bool×Bool×Bool) (σ:Nat→Value) (w:World)=>∃ar:Value,agree σ [(7,ar)]∧Holds E w ([own 3 ar o.2.2.1]++Γ)) (fun(r:Empty) (_:Nat→Value) (_:World)=>r.elim) hN ?_ ?_ ?_ ?_
 ·have hw:=hw.bV Int 3
  exact⟨v0,v1,(.slice none 0 0),(ag zr),hw.pk 3 [2,1,0] zr⟩
 ·intro o fl σ w hI hb
  obtain⟨af,aa,ab,ha,hw⟩:=hI
  obtain⟨τ,rfl⟩:=ha.aO
  refine RC.seq (RC.seq ?_)
  obtain⟨az,hj,hb⟩:=bd hb
  refine RC.jn (fun(az:Bool) (σ:Nat→Value) (w:World)=>agree σ [(0,af),(1,aa),(2,v2),(7,ab),(8,(vb o.2.2.2.1)),(9,(vb o.2.2.2.2.1)),(10,(vb o.2.2.2.2.2)),(20,(vb az))]∧Holds E w ([rd af o.1,rd aa o.2.1,own 3 ab o.2.2.1]++Γ)) az ?_ ?_
  ·refine RC.region (mv af zr zr (RL.bG (i:=0) (l:=o.1) zt zr hw zr zr jH (ic ((o.1.length:Int)) 0 zr zr zr zr (mv (vb (decide ((o.1.length:Int)>0))) zr zr (fH hj (fun an hj=>?_) fun an hj=>?_)))))
   ·refine sk rfl (.inl (cb an)) rfl (sk rfl (.inl (cb an)) rfl (sk rfl (.inl (cb an)) rfl (RL.pick (b:=(decide ((o.1.length:Int)>0))) (v:=(vb true)) trivial rfl rfl (by rw [an];rfl) (RL.nil ?_))))
    obtain rfl:=oi hj
    exact⟨rfl,(ag zr),hw.pk 3 [0,1,2] zr⟩
   refine RL.move (v:=aa) (cg an) rfl rfl (RL.bG (i:=1) (l:=o.2.1) (cg an) rfl hw rfl rfl jH (RL.iO (a:=(o.2.1.length:Int)) (b:=0) (cg an) rfl rfl rfl rfl (RL.pick (b:=(decide ((o.1.length:Int)>0))) (v:=(vb (decide ((o.2.1.length:Int)>0)))) trivial rfl rfl (by rw [an];rfl) (RL.nil ?_))))
   obtain rfl:=oi hj
   exact⟨rfl,(ag zr),hw.pk 3 [0,1,2] zr⟩
  rintro σ w ⟨ha,hw⟩
  obtain⟨τ,rfl⟩:=ha.aO
  refine aG (eI hb zr (fun hc hb=>?_) fun hc hb=>?_)
  rotate_left
  ·refine RC.ex ?_
   obtain rfl:=oi hb
   exact⟨rfl,ab,⟨rfl,zt⟩,hw.pk 3 [2] zr⟩
  refine RC.sn (RC.bs (aM (vi 0) zr zr (RL.nq (RC.seq ?_))))
  obtain⟨a0,hj,hb⟩:=bd hb
  refine RC.jn (fun(a0:Bool) (σ:Nat→Value) (w:World)=>agree σ [(0,af),(1,aa),(2,v2),(7,ab),(8,(vb o.2.2.2.1)),(9,(vb o.2.2.2.2.1)),(10,(vb o.2.2.2.2.2)),(37,(vb a0))]∧Holds E w ([rd af o.1,rd aa o.2.1,own 3 ab o.2.2.1]++Γ)) a0 ?_ ?_
  ·refine RC.uy mixed rfl (by kernel_rfl) ?_
   have hw:=hw.drew
   refine RO.go (mv aa zr zr (RO.nx (RL.bG (i:=1) (l:=o.2.1) zt zr hw zr zr jH (RO.nx (ic ((o.2.1.length:Int)) 0 zr zr zr zr (RO.nx (mv (vb ((o.2.1.length:Int)==0)) zr zr (fH hj (fun ah hj=>?_) fun ah hj=>?_))))))))
   ·refine RO.nx (sk zr (.inl (cb ah)) zr (RO.nx (sk zr (.inl (cb ah)) zr (RO.nx (sk zr (.inl (cb ah)) zr (RO.nx (sk zr (.inl (cb ah)) zr (RO.nx ?_))))))))
    refine sk zr (.inr zr) zr (RO.nx (sk zr (.inr zr) zr (RO.nx (sk zr (.inr zr) zr (RO.nx (sk zr (.inr zr) zr (RO.nx (sk zr (.inr zr) zr ?_))))))))
    refine RO.nx (sk rfl (.inr rfl) rfl (RO.nx (sk rfl (.inr rfl) rfl (RO.nx (sk rfl (.inl (cb ah)) rfl (RO.nx (RL.pick (b:=((o.2.1.length:Int)==0)) (v:=(vb true)) trivial rfl rfl (by rw [ah];rfl) (RO.last ?_))))))))
    obtain rfl:=oi hj
    exact⟨rfl,(ag zr),hw.pk 3 [0,1,2] zr⟩
   refine RO.nx (RL.move (v:=af) (cg ah) zr zr (RO.nx (RL.bG (i:=0) (l:=o.1) (cg ah) zr hw zr zr jH (RO.nx (RL.iO (a:=(o.1.length:Int)) (b:=0) (cg ah) zr zr zr zr (RO.nx (RL.move (v:=(vb (decide ((o.1.length:Int)>0)))) (cg ah) zr zr (fH hj (fun ad hj=>?_) fun ad hj=>?_))))))))
   rotate_left
   ·refine RO.nx (sk zr (.inl (cb ad)) zr (RO.nx (sk zr (.inl (cb ad)) zr (RO.nx (sk zr (.inl (cb ad)) zr (RO.nx (sk zr (.inl (cb ad)) zr (RO.nx ?_))))))))
    refine sk rfl (.inl (cb ad)) rfl (RO.nx (sk rfl (.inl (cb ad)) rfl (RO.nx (sk rfl (.inl (cb ad)) rfl (RO.nx (RL.pick (b:=(decide ((o.1.length:Int)>0))) (v:=(vb false)) (cg ah) rfl rfl (by rw [ad];rfl) (RO.nx (RL.pick (b:=((o.2.1.length:Int)==0)) (v:=(vb false)) trivial rfl rfl (by rw [ah];rfl) ?_))))))))
    refine RO.last ?_
    obtain rfl:=oi hj
    exact⟨rfl,(ag zr),hw.pk 3 [0,1,2] zr⟩
   refine RO.nx (RL.move (v:=af) (cg ad) zr zr (RO.nx ?_))
   obtain⟨av,bf,hj⟩:=bd hj
   refine RL.bO (i:=0) (cg ad) zr hw zr zr zr dM bf fun br hw=>(RO.nx (RL.bA (i:=0) (y:=av) (cg ad) zr hw zr zr bX (RO.nx (RL.move (v:=aa) (cg ad) zr zr (RO.nx ?_)))))
   obtain⟨aw,bg,hj⟩:=bd hj
   refine RL.bO (i:=2) (cg ad) rfl hw rfl rfl rfl dM bg fun bt hw=>(RO.nx (RL.bA (i:=0) (y:=aw) (cg ad) rfl hw rfl rfl bX (RO.nx (RL.iO (a:=av) (b:=aw) (cg ad) rfl rfl rfl rfl (RO.nx (RL.pick (b:=(decide ((o.1.length:Int)>0))) (v:=(vb (decide (av≤aw)))) (cg ah) rfl rfl (by rw [ad];rfl) (RO.nx (RL.pick (b:=((o.2.1.length:Int)==0)) (v:=(vb (decide (av≤aw)))) trivial rfl rfl (by rw [ah];rfl) ?_))))))))
   refine RO.last ?_
   obtain rfl:=oi hj
   exact⟨rfl,(ag zr),hw.pk 5 [2,3,4] zr⟩
  rintro σ w ⟨ha,hw⟩
  obtain⟨τ,rfl⟩:=ha.aO
  refine aG ?_
  obtain⟨ae,hj,hb⟩:=bd hb
  refine RC.jn (fun(ae:Int) (σ:Nat→Value) (w:World)=>agree σ [(0,af),(1,aa),(2,v2),(7,ab),(8,(vb o.2.2.2.1)),(9,(vb o.2.2.2.2.1)),(10,(vb o.2.2.2.2.2)),(11,(vi ae))]∧Holds E w ([rd af o.1,rd aa o.2.1,own 3 ab o.2.2.1]++Γ)) ae ?_ ?_
  ·refine eI hj zr (fun hc hj=>?_) fun hc hj=>?_
   ·refine RC.region (mv af zr zr ?_)
    obtain⟨a8,bh,hj⟩:=bd hj
    refine RL.bO (i:=0) zt zr hw zr zr zr dM bh fun bu hw=>(RL.bA (i:=0) (y:=a8) zt zr hw zr zr bX (aM (vi a8) zr zr (RL.nil ?_)))
    obtain rfl:=oi hj
    exact⟨rfl,(ag zr),hw.pk 4 [1,2,3] zr⟩
   refine RC.region (mv aa zr zr ?_)
   obtain⟨a9,bj,hj⟩:=bd hj
   refine RL.bO (i:=1) zt zr hw zr zr zr dM bj fun bw hw=>(RL.bA (i:=0) (y:=a9) zt zr hw zr zr bX (aM (vi a9) zr zr (RL.nil ?_)))
   obtain rfl:=oi hj
   exact⟨rfl,(ag zr),hw.pk 4 [1,2,3] zr⟩
  rintro σ w ⟨ha,hw⟩
  obtain⟨τ,rfl⟩:=ha.aO
  refine aG (RC.seq (RC.seq ?_))
  obtain⟨a1,hj,hb⟩:=bd hb
  refine RC.jn (fun(a1:Bool) (σ:Nat→Value) (w:World)=>agree σ [(0,af),(1,aa),(2,v2),(7,ab),(8,(vb o.2.2.2.1)),(9,(vb o.2.2.2.2.1)),(10,(vb o.2.2.2.2.2)),(11,(vi ae)),(53,(vb a1))]∧Holds E w ([rd af o.1,rd aa o.2.1,own 3 ab o.2.2.1]++Γ)) a1 ?_ ?_
  ·refine RC.region (mv af zr zr (RL.bG (i:=0) (l:=o.1) zt zr hw zr zr jH (ic ((o.1.length:Int)) 0 zr zr zr zr (mv (vb (decide ((o.1.length:Int)>0))) zr zr (fH hj (fun ai hj=>?_) fun ai hj=>?_)))))
   rotate_left
   ·refine sk rfl (.inl (cb ai)) rfl (sk rfl (.inl (cb ai)) rfl (sk rfl (.inl (cb ai)) rfl (sk rfl (.inl (cb ai)) rfl (sk rfl (.inl (cb ai)) rfl (RL.pick (b:=(decide ((o.1.length:Int)>0))) (v:=(vb false)) trivial rfl rfl (by rw [ai];rfl) (RL.nil ?_))))))
    obtain rfl:=oi hj
    exact⟨rfl,(ag zr),hw.pk 3 [0,1,2] zr⟩
   refine RL.move (v:=af) (cg ai) zr zr ?_
   obtain⟨a2,bk,hj⟩:=bd hj
   refine RL.bO (i:=0) (cg ai) rfl hw rfl rfl rfl dM bk fun bx hw=>(RL.bA (i:=0) (y:=a2) (cg ai) rfl hw rfl rfl bX (RL.move (v:=(vi ae)) (cg ai) rfl rfl (RL.iO (a:=a2) (b:=ae) (cg ai) rfl rfl rfl rfl (RL.pick (b:=(decide ((o.1.length:Int)>0))) (v:=(vb (a2==ae))) trivial rfl rfl (by rw [ai];rfl) (RL.nil ?_)))))
   obtain rfl:=oi hj
   exact⟨rfl,(ag zr),hw.pk 4 [1,2,3] zr⟩
  rintro σ w ⟨ha,hw⟩
  obtain⟨τ,rfl⟩:=ha.aO
  refine aG ?_
  obtain⟨ak,hj,hb⟩:=bd hb
  refine RC.jn (fun(ak: (List Int)×Bool) (σ:Nat→Value) (w:World)=>∃al:Value,agree σ [(0,al),(1,aa),(2,v2),(7,ab),(8,(vb ak.2)),(9,(vb o.2.2.2.2.1)),(10,(vb o.2.2.2.2.2)),(11,(vi ae))]∧Holds E w ([rd aa o.2.1,own 3 ab o.2.2.1,rd al ak.1]++Γ)) ak ?_ ?_
  ·refine eI hj zr (fun hc hj=>?_) fun hc hj=>?_
   rotate_left
   ·refine RC.skip ?_
    obtain rfl:=oi hj
    exact⟨rfl,af,(ag zr),hw.pk 3 [1,2,0] zr⟩
   refine RC.region (mv af zr zr ?_)
   obtain⟨bz,bl,hj⟩:=bd hj
   refine RL.cut (i:=0) zt zr hw zr zr dM (.inl zr) (.inr ⟨rfl,zr⟩) bl fun ba hw=>(mv (vb o.2.2.2.1) zr zr (RL.not (b:=o.2.2.2.1) zt zr zr (aM ba zr zr (aM (vb (!o.2.2.2.1)) zr zr (RL.nil ?_)))))
   obtain rfl:=oi hj
   exact⟨rfl,ba,(ag zr),hw.pk 4 [2,3,0] zr⟩
  rintro σ w ⟨al,ha,hw⟩
  obtain⟨τ,rfl⟩:=ha.aO
  refine aG (RC.seq (RC.seq ?_))
  obtain⟨a3,hj,hb⟩:=bd hb
  refine RC.jn (fun(a3:Bool) (σ:Nat→Value) (w:World)=>agree σ [(0,al),(1,aa),(2,v2),(7,ab),(8,(vb ak.2)),(9,(vb o.2.2.2.2.1)),(10,(vb o.2.2.2.2.2)),(11,(vi ae)),(67,(vb a3))]∧Holds E w ([rd al ak.1,rd aa o.2.1,own 3 ab o.2.2.1]++Γ)) a3 ?_ ?_
  ·refine RC.region (mv aa zr zr (RL.bG (i:=0) (l:=o.2.1) zt zr hw zr zr jH (ic ((o.2.1.length:Int)) 0 zr zr zr zr (mv (vb (decide ((o.2.1.length:Int)>0))) zr zr (fH hj (fun aj hj=>?_) fun aj hj=>?_)))))
   rotate_left
   ·refine sk rfl (.inl (cb aj)) rfl (sk rfl (.inl (cb aj)) rfl (sk rfl (.inl (cb aj)) rfl (sk rfl (.inl (cb aj)) rfl (sk rfl (.inl (cb aj)) rfl (RL.pick (b:=(decide ((o.2.1.length:Int)>0))) (v:=(vb false)) trivial rfl rfl (by rw [aj];rfl) (RL.nil ?_))))))
    obtain rfl:=oi hj
    exact⟨rfl,(ag zr),hw.pk 3 [2,0,1] zr⟩
   refine RL.move (v:=aa) (cg aj) zr zr ?_
   obtain⟨a4,bm,hj⟩:=bd hj
   refine RL.bO (i:=0) (cg aj) rfl hw rfl rfl rfl dM bm fun b0 hw=>(RL.bA (i:=0) (y:=a4) (cg aj) rfl hw rfl rfl bX (RL.move (v:=(vi ae)) (cg aj) rfl rfl (RL.iO (a:=a4) (b:=ae) (cg aj) rfl rfl rfl rfl (RL.pick (b:=(decide ((o.2.1.length:Int)>0))) (v:=(vb (a4==ae))) trivial rfl rfl (by rw [aj];rfl) (RL.nil ?_)))))
   obtain rfl:=oi hj
   exact⟨rfl,(ag zr),hw.pk 4 [3,1,2] zr⟩
  rintro σ w ⟨ha,hw⟩
  obtain⟨τ,rfl⟩:=ha.aO
  refine aG ?_
  obtain⟨ao,hj,hb⟩:=bd hb
  refine RC.jn (fun(ao: (List Int)×Bool) (σ:Nat→Value) (w:World)=>∃aq:Value,agree σ [(0,al),(1,aq),(2,v2),(7,ab),(8,(vb ak.2)),(9,(vb ao.2)),(10,(vb o.2.2.2.2.2)),(11,(vi ae))]∧Holds E w ([rd al ak.1,own 3 ab o.2.2.1,rd aq ao.1]++Γ)) ao ?_ ?_
  ·refine eI hj zr (fun hc hj=>?_) fun hc hj=>?_
   rotate_left
   ·refine RC.skip ?_
    obtain rfl:=oi hj
    exact⟨rfl,aa,(ag zr),hw.pk 3 [0,2,1] zr⟩
   refine RC.region (mv aa zr zr ?_)
   obtain⟨b1,bn,hj⟩:=bd hj
   refine RL.cut (i:=1) zt zr hw zr zr dM (.inl zr) (.inr ⟨rfl,zr⟩) bn fun bb hw=>(mv (vb o.2.2.2.2.1) zr zr (RL.not (b:=o.2.2.2.2.1) zt zr zr (aM bb zr zr (aM (vb (!o.2.2.2.2.1)) zr zr (RL.nil ?_)))))
   obtain rfl:=oi hj
   exact⟨rfl,bb,(ag zr),hw.pk 4 [1,3,0] zr⟩
  rintro σ w ⟨aq,ha,hw⟩
  obtain⟨τ,rfl⟩:=ha.aO
  refine aG (RC.sr (mv v2 zr zr (mv (vb ak.2) zr zr (mv (vb ao.2) zr zr ?_))))
  have hw:=hw.sc (γ:=Bool) ak.2
  have hw:=hw.sc (γ:=Bool) ao.2
  obtain⟨au,bo,hb⟩:=bd hb
  refine RL.BX (i:=1) (j:=0) zt zr hw zr h2 5 zr zr zr zr zr bo fun w hw=>(aM (vb au) zr zr (RL.ns (mv (vb au) zr zr (mv (vb o.2.2.2.2.2) zr zr (RL.A4 (a:=au) (b:=o.2.2.2.2.2) zt zr zr zr FF (RL.nt ?_))))))
  obtain⟨ax,hj,hb⟩:=bd hb
  refine RC.jn (fun(ax: (List Int)×Bool) (σ:Nat→Value) (w:World)=>∃ay:Value,agree σ [(0,al),(1,aq),(2,v2),(7,ay),(8,(vb ak.2)),(9,(vb ao.2)),(10,(vb ax.2))]∧Holds E w ([rd al ak.1,rd aq ao.1,own 3 ay ax.1]++Γ)) ax ?_ ?_
  ·refine eI hj zr (fun hc hj=>?_) fun hc hj=>?_
   rotate_left
   ·refine RC.skip ?_
    obtain rfl:=oi hj
    exact⟨rfl,ab,(ag zr),hw.pk 5 [2,4,3] zr⟩
   refine RC.region (mv ab zr zr (mv (vi ae) zr zr ?_))
   have hw:=hw.sc (γ:=Int) ae
   refine RL.dY (l:=([ae]: (List Int))) zt zr hw [(vi ae)] zr zr zr dM AW (fun M hs g=>⟨(g.sat 0 _ zr).1,zt⟩) fun b2 w hw=>?_
   have hw:=hw.freeze (i:=0) rfl
   obtain⟨b3,bp,hj⟩:=bd hj
   refine RL.app (i:=5) (j:=0) zt zr hw zr zr zr zr qx bp fun bc w hw=>(mv (vb au) zr zr (aM bc zr zr (aM (vb au) zr zr (RL.nil ?_))))
   obtain rfl:=oi hj
   exact⟨rfl,bc,(ag zr),hw.pk 7 [4,6,5] zr⟩
  rintro σ w ⟨ay,ha,hw⟩
  obtain⟨τ,rfl⟩:=ha.aO
  refine bJ ?_
  obtain rfl:=oi hb
  exact⟨rfl,al,aq,ay,(ag zr),hw.pk 3 [0,1,2] zr⟩
 ·intro r _ _ _ _
  exact r.elim
 intro o σ w e hJ
 subst e
 rw [Fo.eT] at hb
 obtain⟨ar,ha,hw⟩:=hJ
 obtain⟨τ,rfl⟩:=ha.aO
 refine aG (RC.sr (mv ar zr zr (aM ar zr zr (RL.nt (RC.ret ?_)))))
 obtain rfl:=oi hb
 exact bQ zr zr (hw.pk 1 [0] zr)
def tF (E:World) (Γ:List HP) (res: (List aA)) (v:Value) (w:World):Prop:=Holds E w ([own 78 v res]++Γ)
theorem sC (N:Nat) {E w:World} {Γ:List HP} {i0:Nat} {v0:Value} {p0: (List aA)} {i1:Nat} {v1:Value} {p1: (List aA)} {v2:Value} {p2:Bool→Bool→Option Bool} {res: (List aA)} (hw:Holds E w Γ) (h0:Γ[i0]? =some (rd v0 p0)) (h1:Γ[i1]? =some (rd v1 p1)) (h2:Cx Tryz.prog E Γ v2 p2 (fun(r:Bool)=>Value.bool r)) (hb:jG N p0 p1 p2=some res):
    Calls Tryz.prog 71 [v0,v1,v2].toArray w (fw (tF E Γ res)):=by
 unfold jG at hb
 refine enter Tryz.func71 zr zr (Nat.le_of_ble_eq_true zr) ?_
 have hw:=hw.dup (i:=i0+0) h0
 have hw:=hw.dup (i:=i1+1) h1
 refine RC.sr (aM (.slice none 0 0) zr zr (RL.ns (aM (.slice none 0 0) zr zr (RL.nq (RC.sr (mv v0 zr zr (RL.bG (i:=1) (l:=p0) zt zr hw zr zr nO (mv v1 zr zr ?_))))))))
 refine RL.bG (i:=0) (l:=p1) zt zr hw zr zr nO (RL.gQ (a:=(p0.length:Int)) (b:=(p1.length:Int)) zt zr zr zr zr (ic ((IntKind.wrap .i64 ((p0.length:Int)+ (p1.length:Int)))) 0 zr zr zr zr (RL.nt (eI hb zr (fun hc hb=>?_) fun hc hb=>?_))))
 ·refine RC.sr (aM (.slice none 0 0) zr zr (RL.nt (RC.rt ?_)))
  obtain rfl:=oi hb
  have hw:=hw.bV aA 78
  exact bQ zr zr (hw.pk 3 [0] zr)
 refine RC.sx (aM (vi 0) zr zr (aM (vi 0) zr zr (RL.nq (RC.sr (mv v0 zr zr (mv v1 zr zr (RL.dY (l:=([p0,p1]: (List (List aA)))) zt zr hw [v0,v1] zr zr zr yD Cd (fun M hs g=>⟨(g.sat 1 _ zr).1,⟨(g.sat 0 _ zr).1,zt⟩⟩) fun ao w hw=>(RL.dC (i:=0) (l:=([p0,p1]: (List (List aA)))) zt zr hw zr zr Ce ?_))))))))
 refine mv (vi 0) zr zr (RL.nt ?_)
 obtain⟨o,hN,hb⟩:=bd hb
 refine RC.fold (fun(ah:Nat) (o:Int×Int) (σ:Nat→Value) (w:World)=>agree σ [(0,v0),(1,v1),(2,v2),(7,(.slice none 0 0)),(8,(vi o.1)),(9,(vi o.2)),(25,ao),(26,(vi ((([p0,p1]: (List (List aA))).length:Nat):Int))),(27,(vi (ah:Int)))]∧Holds E w ([rd v0 p0,rd v1 p1,own 58 ao ([p0,p1]: (List (List aA)))]++Γ)) (fun(o:Int×Int) (σ:Nat→Value) (w:World)=>agree σ [(0,v0),(1,v1),(2,v2),(7,(.slice none 0 0)),(8,(vi o.1)),(9,(vi o.2))]∧Holds E w ([rd v0 p0,rd v1 p1,own 58 ao ([p0,p1]: (List (List aA)))]++Γ)) hN ?_ ?_ ?_ ?_
 ·exact⟨(ag zr),hw.pk 3 [2,1,0] zr⟩
 ·intro hm o σ w hI
  obtain⟨ha,hw⟩:=hI
  obtain⟨τ,rfl⟩:=ha.aO
  refine RC.sr (ic (((([p0,p1]: (List (List aA))).length:Nat):Int)) (((([p0,p1]: (List (List aA))).length:Nat):Int)) zr zr zr zr (RL.nq (RC.cH lZ (RC.ex ?_))))
  exact⟨rfl,(ag zr),hw.pk 3 [0,1,2] zr⟩
 ·intro hm ah o s' σ w hk hI hb
  obtain⟨ha,hw⟩:=hI
  obtain⟨τ,rfl⟩:=ha.aO
  refine RC.sr (ic ((ah:Int)) (((([p0,p1]: (List (List aA))).length:Nat):Int)) zr zr zr zr (RL.nq (RC.cG (lY hk) (RC.ss (RC.bs (mv (vi (ah:Int)) zr zr ?_))))))
  obtain⟨ar,a4,hb⟩:=bd hb
  refine RL.bB (i:=2) zt zr hw zr zr zr yD a4 (RL.gl (i:=2) (f:=(fun x=>x)) zt zr hw zr (gS hw (i:=2) zr a4 0) zr (aQ a4).2.1 Fd.self Bj fun aj hw=>(aM (vi (ah:Int)) zr zr (aM aj zr zr (RL.ns (mv aj zr zr (RL.bG (i:=0) (l:=ar) zt zr hw zr zr nO (ic ((ar.length:Int)) 0 zr zr zr zr (RL.nt ?_))))))))
  obtain⟨a1,hj,hb⟩:=bd hb
  refine RC.jn (fun(a1:Int×Int) (σ:Nat→Value) (w:World)=>agree σ [(0,v0),(1,v1),(2,v2),(7,(.slice none 0 0)),(8,(vi a1.1)),(9,(vi a1.2)),(25,ao),(26,(vi ((([p0,p1]: (List (List aA))).length:Nat):Int))),(27,(vi (ah:Int)))]∧Holds E w ([rd v0 p0,rd v1 p1,own 58 ao ([p0,p1]: (List (List aA)))]++Γ)) a1 ?_ ?_
  ·refine eI hj zr (fun hc hj=>?_) fun hc hj=>?_
   rotate_left
   ·refine RC.skip ?_
    obtain rfl:=oi hj
    exact⟨rfl,(ag zr),hw.pk 4 [1,2,3] zr⟩
   refine RC.seq (RC.seq ?_)
   obtain⟨a5,hjj,hj⟩:=bd hj
   refine RC.jn (fun(a5:Bool) (σ:Nat→Value) (w:World)=>agree σ [(0,v0),(1,v1),(2,v2),(7,(.slice none 0 0)),(8,(vi o.1)),(9,(vi o.2)),(11,aj),(25,ao),(26,(vi ((([p0,p1]: (List (List aA))).length:Nat):Int))),(27,(vi (ah:Int))),(41,(vb a5))]∧Holds E w ([rd v0 p0,rd v1 p1,rd aj ar,own 58 ao ([p0,p1]: (List (List aA)))]++Γ)) a5 ?_ ?_
   ·refine RC.region (mv (vi (ah:Int)) zr zr (ic ((ah:Int)) 0 zr zr zr zr (mv (vb ((ah:Int)==0)) zr zr (fH hjj (fun aq hjj=>?_) fun aq hjj=>?_))))
    ·refine sk rfl (.inl (cb aq)) rfl (sk rfl (.inl (cb aq)) rfl (sk rfl (.inl (cb aq)) rfl (RL.pick (b:=((ah:Int)==0)) (v:=(vb true)) trivial rfl rfl (by rw [aq];rfl) (RL.nil ?_))))
     obtain rfl:=oi hjj
     exact⟨rfl,(ag zr),hw.pk 4 [1,2,0,3] zr⟩
    refine RL.move (v:=v0) (cg aq) rfl rfl (RL.bG (i:=1) (l:=p0) (cg aq) rfl hw rfl rfl nO (RL.iO (a:=(p0.length:Int)) (b:=0) (cg aq) rfl rfl rfl rfl (RL.pick (b:=((ah:Int)==0)) (v:=(vb ((p0.length:Int)==0))) trivial rfl rfl (by rw [aq];rfl) (RL.nil ?_))))
    obtain rfl:=oi hjj
    exact⟨rfl,(ag zr),hw.pk 4 [1,2,0,3] zr⟩
   rintro σ w ⟨ha,hw⟩
   obtain⟨τ,rfl⟩:=ha.aO
   refine aG ?_
   obtain⟨ak,hjj,hj⟩:=bd hj
   refine RC.jn (fun(ak:Int×Int) (σ:Nat→Value) (w:World)=>agree σ [(0,v0),(1,v1),(2,v2),(7,(.slice none 0 0)),(8,(vi ak.1)),(9,(vi ak.2)),(11,aj),(25,ao),(26,(vi ((([p0,p1]: (List (List aA))).length:Nat):Int))),(27,(vi (ah:Int)))]∧Holds E w ([rd v0 p0,rd v1 p1,rd aj ar,own 58 ao ([p0,p1]: (List (List aA)))]++Γ)) ak ?_ ?_
   ·refine eI hjj zr (fun hc hjj=>?_) fun hc hjj=>?_
    rotate_left
    ·refine RC.skip ?_
     obtain rfl:=oi hjj
     exact⟨rfl,(ag zr),hw.pk 4 [0,1,2,3] zr⟩
    refine RC.uy mixed rfl (by kernel_rfl) ?_
    have hw:=hw.drew
    refine RO.go (mv aj zr zr (RO.nx ?_))
    obtain⟨ba,bn,hjj⟩:=bd hjj
    refine RL.bO (i:=2) zt zr hw zr zr zr jA bn fun b6 hw=>(RO.nx (RL.gR (i:=0) (f:=fun(x:aA)=>x.Y0) zt zr hw zr zr lk cR fun b7 hw=>(RO.nx (RL.bA (i:=0) (y:=ba.Y0) zt zr hw zr zr bX (RO.nx (mv aj zr zr (RO.nx (mv aj zr zr ?_))))))))
    refine RO.nx (RL.bG (i:=4) (l:=ar) zt zr hw zr zr nO (RO.nx (RL.gQ (a:=(ar.length:Int)) (b:=1) zt zr zr zr zr (RO.nx ?_))))
    obtain⟨bb,bo,hjj⟩:=bd hjj
    refine RL.bO (i:=4) zt zr hw zr zr zr jA bo fun b8 hw=>(RO.nx (RL.gR (i:=0) (f:=fun(x:aA)=>x.Y1) zt zr hw zr zr jV cL fun b9 hw=>(RO.nx (RL.bA (i:=0) (y:=bb.Y1) zt zr hw zr zr bX (RO.nx (aM (vi ba.Y0) zr zr (RO.nx (aM (vi bb.Y1) zr zr ?_))))))))
    refine RO.last ?_
    obtain rfl:=oi hjj
    exact⟨rfl,(ag zr),hw.pk 8 [4,5,6,7] zr⟩
   rintro σ w ⟨ha,hw⟩
   obtain⟨τ,rfl⟩:=ha.aO
   refine aG (RC.uy mixed rfl (by kernel_rfl) ?_)
   have hw:=hw.drew
   refine RO.go (mv (vi ak.1) zr zr (RO.nx (mv aj zr zr (RO.nx ?_))))
   obtain⟨a2,bp,hj⟩:=bd hj
   refine RL.bO (i:=2) zt zr hw zr zr zr jA bp fun ca hw=>(RO.nx (RL.gR (i:=0) (f:=fun(x:aA)=>x.Y0) zt zr hw zr zr lk cR fun cc hw=>(RO.nx (RL.bA (i:=0) (y:=a2.Y0) zt zr hw zr zr bX (RO.nx (RL.min (a:=ak.1) (b:=a2.Y0) zt zr zr zr (RO.nx (mv (vi ak.2) zr zr ?_))))))))
   refine RO.nx (mv aj zr zr (RO.nx (mv aj zr zr (RO.nx (RL.bG (i:=4) (l:=ar) zt zr hw zr zr nO (RO.nx (RL.gQ (a:=(ar.length:Int)) (b:=1) zt zr zr zr zr (RO.nx ?_))))))))
   obtain⟨a3,bq,hj⟩:=bd hj
   refine RL.bO (i:=4) zt zr hw zr zr zr jA bq fun cd hw=>(RO.nx (RL.gR (i:=0) (f:=fun(x:aA)=>x.Y1) zt zr hw zr zr jV cL fun cf hw=>(RO.nx (RL.bA (i:=0) (y:=a3.Y1) zt zr hw zr zr bX (RO.nx (RL.max (a:=ak.2) (b:=a3.Y1) zt zr zr zr (RO.nx (aM (vi (if a2.Y0<ak.1 then a2.Y0 else ak.1)) zr zr ?_))))))))
   refine RO.nx (aM (vi (if ak.2<a3.Y1 then a3.Y1 else ak.2)) zr zr (RO.last ?_))
   obtain rfl:=oi hj
   exact⟨rfl,(ag zr),hw.pk 8 [4,5,7] zr⟩
  rintro σ w ⟨ha,hw⟩
  obtain⟨τ,rfl⟩:=ha.aO
  refine bJ (aG (RC.region (RL.inc zt zr hk hm zr zr (mv (vi ((ah+1:Nat):Int)) zr zr (RL.nil ?_)))))
  obtain rfl:=oi hb
  exact⟨rfl,(ag zr),hw.pk 3 [0,1,2] zr⟩
 intro σ w hJ
 obtain⟨ha,hw⟩:=hJ
 obtain⟨τ,rfl⟩:=ha.aO
 refine aG (RC.seq ?_)
 obtain⟨ch,hN,hb⟩:=bd hb
 refine RC.iter (fun(j: (List aA)×(List aA)×(List aA)×Int) (σ:Nat→Value) (w:World)=>∃bc bf bg:Value,agree σ [(0,bc),(1,bf),(2,v2),(7,bg),(8,(vi j.2.2.2)),(9,(vi o.2))]∧Holds E w ([rd bc j.1,rd bf j.2.1,own 78 bg j.2.2.1]++Γ)) (fun(j: (List aA)×(List aA)×(List aA)×Int) (σ:Nat→Value) (w:World)=>∃ay:Value,agree σ [(7,ay)]∧Holds E w ([own 78 ay j.2.2.1]++Γ)) (fun(r:Empty) (_:Nat→Value) (_:World)=>r.elim) hN ?_ ?_ ?_ ?_
 ·have hw:=hw.bV aA 78
  exact⟨v0,v1,(.slice none 0 0),(ag zr),hw.pk 4 [1,2,0] zr⟩
 ·intro j fl σ w hI hb
  obtain⟨br,au,ad,ha,hw⟩:=hI
  obtain⟨τ,rfl⟩:=ha.aO
  refine RC.seq (RC.sr (mv (vi j.2.2.2) zr zr (mv (vi o.2) zr zr (ic (j.2.2.2) (o.2) zr zr zr zr (RL.nt (eI hb zr (fun hc hb=>?_) fun hc hb=>?_))))))
  rotate_left
  ·refine RC.ex ?_
   obtain rfl:=oi hb
   exact⟨rfl,ad,⟨rfl,zt⟩,hw.pk 3 [2] zr⟩
  refine RC.sn (RC.block (RC.seq ?_))
  obtain⟨cj,hN,hb⟩:=bd hb
  refine RC.iter (fun(ai: (List aA)) (σ:Nat→Value) (w:World)=>∃bh:Value,agree σ [(0,bh),(1,au),(2,v2),(7,ad),(8,(vi j.2.2.2)),(9,(vi o.2))]∧Holds E w ([rd au j.2.1,own 78 ad j.2.2.1,rd bh ai]++Γ)) (fun(ai: (List aA)) (σ:Nat→Value) (w:World)=>∃al:Value,agree σ [(0,al),(1,au),(2,v2),(7,ad),(8,(vi j.2.2.2)),(9,(vi o.2))]∧Holds E w ([rd au j.2.1,own 78 ad j.2.2.1,rd al ai]++Γ)) (fun(r:Empty) (_:Nat→Value) (_:World)=>r.elim) hN ?_ ?_ ?_ ?_
  ·exact⟨br,(ag zr),hw.pk 3 [1,2,0] zr⟩
  ·intro ai fl σ w hI hb
   obtain⟨av,ha,hw⟩:=hI
   obtain⟨τ,rfl⟩:=ha.aO
   refine RC.seq (RC.seq ?_)
   obtain⟨a6,hj,hb⟩:=bd hb
   refine RC.jn (fun(a6:Bool) (σ:Nat→Value) (w:World)=>agree σ [(0,av),(1,au),(2,v2),(7,ad),(8,(vi j.2.2.2)),(9,(vi o.2)),(82,(vb a6))]∧Holds E w ([rd av ai,rd au j.2.1,own 78 ad j.2.2.1]++Γ)) a6 ?_ ?_
   ·refine RC.region (mv av zr zr (RL.bG (i:=2) (l:=ai) zt zr hw zr zr nO (ic ((ai.length:Int)) 0 zr zr zr zr (mv (vb (decide ((ai.length:Int)>0))) zr zr (fH hj (fun ae hj=>?_) fun ae hj=>?_)))))
    rotate_left
    ·refine sk rfl (.inl (cb ae)) rfl (sk rfl (.inl (cb ae)) rfl (sk rfl (.inl (cb ae)) rfl (sk rfl (.inl (cb ae)) rfl (sk rfl (.inl (cb ae)) rfl (sk rfl (.inl (cb ae)) rfl (RL.pick (b:=(decide ((ai.length:Int)>0))) (v:=(vb false)) trivial rfl rfl (by rw [ae];rfl) (RL.nil ?_)))))))
     obtain rfl:=oi hj
     exact⟨rfl,(ag zr),hw.pk 3 [2,0,1] zr⟩
    refine RL.move (v:=av) (cg ae) zr zr ?_
    obtain⟨a7,bt,hj⟩:=bd hj
    refine RL.bO (i:=2) (cg ae) rfl hw rfl rfl rfl jA bt fun ck hw=>(RL.gR (i:=0) (f:=fun(x:aA)=>x.Y1) (cg ae) rfl hw rfl rfl jV cL fun cl hw=>(RL.bA (i:=0) (y:=a7.Y1) (cg ae) rfl hw rfl rfl bX (RL.move (v:=(vi j.2.2.2)) (cg ae) rfl rfl (RL.iO (a:=a7.Y1) (b:=j.2.2.2) (cg ae) rfl rfl rfl rfl (RL.pick (b:=(decide ((ai.length:Int)>0))) (v:=(vb (decide (a7.Y1≤j.2.2.2)))) trivial rfl rfl (by rw [ae];rfl) (RL.nil ?_))))))
    obtain rfl:=oi hj
    exact⟨rfl,(ag zr),hw.pk 5 [4,2,3] zr⟩
   rintro σ w ⟨ha,hw⟩
   obtain⟨τ,rfl⟩:=ha.aO
   refine aG (eI hb zr (fun hc hb=>?_) fun hc hb=>?_)
   rotate_left
   ·refine RC.ex ?_
    obtain rfl:=oi hb
    exact⟨rfl,av,(ag zr),hw.pk 3 [1,2,0] zr⟩
   refine RC.sn (RC.block (RC.region (mv av zr zr ?_)))
   obtain⟨cm,bu,hb⟩:=bd hb
   refine RL.cut (i:=0) zt zr hw zr zr jA (.inl zr) (.inr ⟨rfl,zr⟩) bu fun bj hw=>(aM bj zr zr (RL.nil (bJ ?_)))
   obtain rfl:=oi hb
   exact⟨rfl,bj,(ag zr),hw.pk 4 [2,3,0] zr⟩
  ·intro r _ _ _ _
   exact r.elim
  intro ai σ w e hJ
  subst e
  rw [Fo.eT] at hb
  obtain⟨al,ha,hw⟩:=hJ
  obtain⟨τ,rfl⟩:=ha.aO
  refine aG (RC.seq ?_)
  obtain⟨cn,hN,hb⟩:=bd hb
  refine RC.iter (fun(an: (List aA)) (σ:Nat→Value) (w:World)=>∃bk:Value,agree σ [(0,al),(1,bk),(2,v2),(7,ad),(8,(vi j.2.2.2)),(9,(vi o.2))]∧Holds E w ([rd al ai,own 78 ad j.2.2.1,rd bk an]++Γ)) (fun(an: (List aA)) (σ:Nat→Value) (w:World)=>∃aw:Value,agree σ [(0,al),(1,aw),(2,v2),(7,ad),(8,(vi j.2.2.2)),(9,(vi o.2))]∧Holds E w ([rd al ai,own 78 ad j.2.2.1,rd aw an]++Γ)) (fun(r:Empty) (_:Nat→Value) (_:World)=>r.elim) hN ?_ ?_ ?_ ?_
  ·exact⟨au,(ag zr),hw.pk 3 [2,1,0] zr⟩
  ·intro an fl σ w hI hb
   obtain⟨ax,ha,hw⟩:=hI
   obtain⟨τ,rfl⟩:=ha.aO
   refine RC.seq (RC.seq ?_)
   obtain⟨a8,hj,hb⟩:=bd hb
   refine RC.jn (fun(a8:Bool) (σ:Nat→Value) (w:World)=>agree σ [(0,al),(1,ax),(2,v2),(7,ad),(8,(vi j.2.2.2)),(9,(vi o.2)),(95,(vb a8))]∧Holds E w ([rd al ai,rd ax an,own 78 ad j.2.2.1]++Γ)) a8 ?_ ?_
   ·refine RC.region (mv ax zr zr (RL.bG (i:=2) (l:=an) zt zr hw zr zr nO (ic ((an.length:Int)) 0 zr zr zr zr (mv (vb (decide ((an.length:Int)>0))) zr zr (fH hj (fun af hj=>?_) fun af hj=>?_)))))
    rotate_left
    ·refine sk rfl (.inl (cb af)) rfl (sk rfl (.inl (cb af)) rfl (sk rfl (.inl (cb af)) rfl (sk rfl (.inl (cb af)) rfl (sk rfl (.inl (cb af)) rfl (sk rfl (.inl (cb af)) rfl (RL.pick (b:=(decide ((an.length:Int)>0))) (v:=(vb false)) trivial rfl rfl (by rw [af];rfl) (RL.nil ?_)))))))
     obtain rfl:=oi hj
     exact⟨rfl,(ag zr),hw.pk 3 [0,2,1] zr⟩
    refine RL.move (v:=ax) (cg af) zr zr ?_
    obtain⟨a9,bw,hj⟩:=bd hj
    refine RL.bO (i:=2) (cg af) rfl hw rfl rfl rfl jA bw fun cp hw=>(RL.gR (i:=0) (f:=fun(x:aA)=>x.Y1) (cg af) rfl hw rfl rfl jV cL fun cq hw=>(RL.bA (i:=0) (y:=a9.Y1) (cg af) rfl hw rfl rfl bX (RL.move (v:=(vi j.2.2.2)) (cg af) rfl rfl (RL.iO (a:=a9.Y1) (b:=j.2.2.2) (cg af) rfl rfl rfl rfl (RL.pick (b:=(decide ((an.length:Int)>0))) (v:=(vb (decide (a9.Y1≤j.2.2.2)))) trivial rfl rfl (by rw [af];rfl) (RL.nil ?_))))))
    obtain rfl:=oi hj
    exact⟨rfl,(ag zr),hw.pk 5 [2,4,3] zr⟩
   rintro σ w ⟨ha,hw⟩
   obtain⟨τ,rfl⟩:=ha.aO
   refine aG (eI hb zr (fun hc hb=>?_) fun hc hb=>?_)
   rotate_left
   ·refine RC.ex ?_
    obtain rfl:=oi hb
    exact⟨rfl,ax,(ag zr),hw.pk 3 [0,2,1] zr⟩
   refine RC.sn (RC.block (RC.region (mv ax zr zr ?_)))
   obtain⟨cr,bx,hb⟩:=bd hb
   refine RL.cut (i:=1) zt zr hw zr zr jA (.inl zr) (.inr ⟨rfl,zr⟩) bx fun bl hw=>(aM bl zr zr (RL.nil (bJ ?_)))
   obtain rfl:=oi hb
   exact⟨rfl,bl,(ag zr),hw.pk 4 [1,3,0] zr⟩
  ·intro r _ _ _ _
   exact r.elim
  intro an σ w e hJ
  subst e
  rw [Fo.eT] at hb
  obtain⟨aw,ha,hw⟩:=hJ
  obtain⟨τ,rfl⟩:=ha.aO
  refine aG (RC.sr (mv al zr zr (mv (vi j.2.2.2) zr zr (mv (vi o.2) zr zr ?_))))
  obtain⟨aa,bz,hb⟩:=bd hb
  refine RL.call zt zr BJ [al,(vi j.2.2.2),(vi o.2)] zr (aF (mw N (p1:=j.2.2.2) (p2:=o.2) (i0:=0) hw zr bz) ?_)
  rintro _ w ⟨az,rfl,hw⟩
  refine mv (.tuple #[az,(vi aa.2)]) zr zr (RL.extract (v:=az) zt zr zr zr (RL.extract (v:=(vi aa.2)) zt zr zr zr (aM az zr zr (aM (vi aa.2) zr zr (RL.ns (mv aw zr zr (mv (vi j.2.2.2) zr zr (mv (vi o.2) zr zr ?_))))))))
  obtain⟨ab,b0,hb⟩:=bd hb
  refine RL.call zt zr BJ [aw,(vi j.2.2.2),(vi o.2)] zr (aF (mw N (p1:=j.2.2.2) (p2:=o.2) (i0:=3) hw zr b0) ?_)
  rintro _ w ⟨a0,rfl,hw⟩
  refine mv (.tuple #[a0,(vi ab.2)]) zr zr (RL.extract (v:=a0) zt zr zr zr (RL.extract (v:=(vi ab.2)) zt zr zr zr (aM a0 zr zr (aM (vi ab.2) zr zr (RL.ns (mv (vi aa.2) zr zr (mv (vi ab.2) zr zr (RL.min (a:=aa.2) (b:=ab.2) zt zr zr zr ?_))))))))
  refine aM (vi (if ab.2<aa.2 then ab.2 else aa.2)) zr zr (RL.ns (mv ad zr zr (mv (vi j.2.2.2) zr zr (mv (vi (if ab.2<aa.2 then ab.2 else aa.2)) zr zr (mv az zr zr (mv a0 zr zr (mv v2 zr zr ?_)))))))
  obtain⟨b1,b2,hb⟩:=bd hb
  refine RL.call zt zr Dd [az,a0,v2] zr (aF (tE N (i0:=1) (i1:=0) hw zr zr (h2.lift 5 zr) b2) ?_)
  rintro b3 w hw
  have hw:=hw.sc (γ:=Int) j.2.2.2
  have hw:=hw.sc (γ:=Int) (if ab.2<aa.2 then ab.2 else aa.2)
  have hw:=hw.freeze (i:=2) rfl
  refine RL.build (y:=(⟨j.2.2.2,(if ab.2<aa.2 then ab.2 else aa.2),b1⟩:aA)) trivial rfl hw [(0,(vi j.2.2.2)),(1,(vi (if ab.2<aa.2 then ab.2 else aa.2))),(2,b3)] rfl CX rfl (fun M hs g=>by have h:=po M;exact cB.cons (f:=fun(x:aA) y=>{x with Y0:=y}) rfl h mn (by decide) (g.sat 1 _ rfl).1 fun _ h=>cB.cons (f:=fun(x:aA) y=>{x with Y1:=y}) rfl h jT (by decide) (g.sat 0 _ rfl).1 fun _ h=>cB.cons (f:=fun(x:aA) y=>{x with Xs:=y}) rfl h mo (by decide) (g.sat 2 _ rfl).1 fun _ h=>cB.nil h) fun b4 hw=>?_
  have hw:=hw.pull (i:=7) rfl
  obtain⟨ct,b5,hb⟩:=bd hb
  refine RL.call zt zr CY [ad,b4] zr (aF (kV N (i1:=0) hw zr b5) ?_)
  rintro bm w hw
  refine aM bm zr zr (RL.nt (RC.region (mv (vi (if ab.2<aa.2 then ab.2 else aa.2)) zr zr (aM (vi (if ab.2<aa.2 then ab.2 else aa.2)) zr zr (RL.nil (bJ ?_))))))
  obtain rfl:=oi hb
  exact⟨rfl,al,aw,bm,(ag zr),hw.pk 10 [7,9,0] zr⟩
 ·intro r _ _ _ _
  exact r.elim
 intro j σ w e hJ
 subst e
 rw [Fo.eT] at hb
 obtain⟨ay,ha,hw⟩:=hJ
 obtain⟨τ,rfl⟩:=ha.aO
 refine aG (RC.sr (mv ay zr zr (aM ay zr zr (RL.nt (RC.ret ?_)))))
 obtain rfl:=oi hb
 exact bQ zr zr (hw.pk 1 [0] zr)
def n0 (E:World) (Γ:List HP) (res:Bool) (v:Value) (w:World):Prop:=v= (vb res)∧Holds E w Γ
theorem m5 (N:Nat) {E w:World} {Γ:List HP} {p0:Bool} {p1:Bool} {res:Bool} (hw:Holds E w Γ) (hb:ja N p0 p1=some res):
    Calls Tryz.prog 72 [(vb p0),(vb p1)].toArray w (fw (n0 E Γ res)):=by
 unfold ja at hb
 refine enter Tryz.func72 rfl rfl (Nat.le_of_ble_eq_true rfl) (RC.sr (aM (vb false) rfl rfl (RL.ns (mv (vb p0) rfl rfl (mv (vb p0) rfl rfl (RL.gs (c:=true) (b:=p0) (v:=(vb p1)) rfl rfl rfl (cN rfl (fun _=>rfl)) (RL.gs (c:=true) (b:=p0) (v:=(vb (!p1))) rfl rfl rfl (BV (b:=p1) rfl (fun h=>by exact(cC h:cv (true&&(p0==true)) (vb p1)= (vb p1)))) (RL.pick (b:=p0) (v:=(vb (p0&&(!p1)))) trivial rfl rfl (gW (c:=true) rfl) ?_))))))))
 refine aM (vb (p0&&(!p1))) zr zr (RL.nt (RC.ret ?_))
 obtain rfl:=oi hb
 exact bQ zr zr ⟨rfl,hw.drop 0 zr⟩
def qL (E:World) (Γ:List HP) (res: (List aA)) (v:Value) (w:World):Prop:=Holds E w ([own 78 v res]++Γ)
theorem pG (N:Nat) {E w:World} {Γ:List HP} {i0:Nat} {v0:Value} {p0: (List aA)} {i1:Nat} {v1:Value} {p1: (List aA)} {res: (List aA)} (hw:Holds E w Γ) (h0:Γ[i0]? =some (rd v0 p0)) (h1:Γ[i1]? =some (rd v1 p1)) (hb:fX N p0 p1=some res):
    Calls Tryz.prog 48 [v0,v1].toArray w (fw (qL E Γ res)):=by
 unfold fX at hb
 refine enter Tryz.func48 zr zr (Nat.le_of_ble_eq_true zr) ?_
 have hw:=hw.dup (i:=i0+0) h0
 have hw:=hw.dup (i:=i1+1) h1
 refine RC.sr (aM (.slice none 0 0) zr zr (RL.ns (mv v0 zr zr (mv v1 zr zr ?_))))
 obtain⟨ab,o,hb⟩:=bd hb
 refine RL.call trivial rfl ED [v0,v1,(.func (.func 72) #[] #[])] rfl (aF (sC N (i0:=1) (i1:=0) hw rfl rfl ⟨72,[],rfl,EC,fun w Γl v v' y0 y1 r i j hw hi hj hr=>by obtain rfl:=hw.wT (γ:=Bool) hi;obtain rfl:=hw.wT (γ:=Bool) hj;exact aF (m5 N (p0:=y0) (p1:=y1) hw hr) fun _ _ h=>h⟩ o) ?_)
 rintro aa w hw
 refine aM aa zr zr (RL.nt (RC.ret ?_))
 obtain rfl:=oi hb
 exact bQ zr zr (hw.pk 3 [0] zr)
def qM (E:World) (Γ:List HP) (res:Int) (v:Value) (w:World):Prop:=v= (vi res)∧Holds E w Γ
theorem kX (N:Nat) {E w:World} {Γ:List HP} {i0:Nat} {v0:Value} {p0: (List aA)} {res:Int} (hw:Holds E w Γ) (h0:Γ[i0]? =some (rd v0 p0)) (hb:fY N p0=some res):
    Calls Tryz.prog 41 [v0].toArray w (fw (qM E Γ res)):=by
 unfold fY at hb
 refine enter Tryz.func41 zr zr (Nat.le_of_ble_eq_true zr) ?_
 have hw:=hw.dup (i:=i0+0) h0
 refine RC.sr (aM (vi 0) zr zr (RL.ns (aM (vi 0) zr zr (RL.nq (RC.sr (mv v0 zr zr (RL.bG (i:=0) (l:=p0) zt zr hw zr zr nO (mv (vi 0) zr zr ?_))))))))
 refine RL.nt ?_
 obtain⟨o,hN,hb⟩:=bd hb
 refine RC.fold (fun(ab:Nat) (o:Int) (σ:Nat→Value) (w:World)=>agree σ [(3,(vi o)),(6,v0),(7,(vi (p0.length:Int))),(8,(vi (ab:Int)))]∧Holds E w ([rd v0 p0]++Γ)) (fun(o:Int) (σ:Nat→Value) (w:World)=>agree σ [(3,(vi o))]∧Holds E w ([rd v0 p0]++Γ)) hN ?_ ?_ ?_ ?_
 ·exact⟨(ag zr),hw.pk 1 [0] zr⟩
 ·intro hm o σ w hI
  obtain⟨ha,hw⟩:=hI
  obtain⟨τ,rfl⟩:=ha.aO
  refine RC.sr (ic ((p0.length:Int)) ((p0.length:Int)) zr zr zr zr (RL.nq (RC.cH lZ (RC.ex ?_))))
  exact⟨rfl,⟨rfl,zt⟩,hw.pk 1 [0] zr⟩
 ·intro hm ab o s' σ w hk hI hb
  obtain⟨ha,hw⟩:=hI
  obtain⟨τ,rfl⟩:=ha.aO
  refine RC.sr (ic ((ab:Int)) ((p0.length:Int)) zr zr zr zr (RL.nq (RC.cG (lY hk) (RC.ss (RC.bs ?_)))))
  obtain⟨aa,ad,hb⟩:=bd hb
  refine RL.bO (i:=0) zt zr hw zr zr zr jA ad fun ae hw=>(RL.bP (i:=0) (x:=aa) zt zr hw zr zr uI fun af hw=>(RL.alloc zt zr hw zS.z fun ah w hw=>(RL.bC (i:=0) (j:=1) zt hw zr zr zr zr uI zr fun w hw=>(RL.nt (RC.region (mv (vi o) zr zr (RL.bF zt zr zr iP (RL.aY (i:=0) (f:=(fun x=>x.Xs)) zt zr hw zr zr bR dL fun ai hw=>?_))))))))
  refine RL.bG (i:=0) (l:=aa.Xs) zt zr hw zr zr jH (RL.quo (a:=(aa.Xs.length:Int)) (b:=2) zt zr zr zr zr (RL.gQ (a:=o) (b:=(IntKind.wrap .i64 (Int.tdiv (aa.Xs.length:Int) 2))) zt zr zr zr zr (aM (vi (IntKind.wrap .i64 (o+ (IntKind.wrap .i64 (Int.tdiv (aa.Xs.length:Int) 2))))) zr zr (RL.nil (bJ (aG (RC.region (RL.inc zt zr hk hm zr zr ?_))))))))
  refine mv (vi ((ab+1:Nat):Int)) zr zr (RL.nil ?_)
  obtain rfl:=oi hb
  exact⟨rfl,(ag zr),hw.pk 5 [4] zr⟩
 intro σ w hJ
 obtain⟨ha,hw⟩:=hJ
 obtain⟨τ,rfl⟩:=ha.aO
 refine aG (RC.sr (mv (vi o) zr zr (aM (vi o) zr zr (RL.nt (RC.ret ?_)))))
 obtain rfl:=oi hb
 exact bQ zr zr ⟨rfl,hw.drop 1 zr⟩
def m6 (E:World) (Γ:List HP) (b1:Nat) (res:Int×(List Int)) (v:Value) (w:World):Prop:=∃u1_0:Value,v= (vi res.1)∧Holds E w ([bc 53 b1 [u1_0],own 3 u1_0 res.2]++Γ)
theorem gO (N:Nat) {E w:World} {Γ:List HP} {p0:Int} {b1:Nat} {v1_0:Value} {p1_0: (List Int)} {res:Int×(List Int)} (hw:Holds E w (bc 53 b1 [v1_0]::own 3 v1_0 p1_0::Γ)) (hb:cJ N p0 p1_0=some res):
    Calls Tryz.prog 73 [(vi p0),(vp b1 0)].toArray w (fw (m6 E Γ b1 res)):=by
 unfold cJ at hb
 refine enter Tryz.func73 zr zr (Nat.le_of_ble_eq_true zr) (RC.sr (aM (vi 0) zr zr (RL.nq ?_)))
 obtain⟨ak,hN,hb⟩:=bd hb
 refine RC.iter (fun(o:Int×(List Int)) (σ:Nat→Value) (w:World)=>agree σ [(0,(vi o.1)),(1,(vp b1 0))]∧Holds E w ([bc 53 b1 [v1_0],own 3 v1_0 o.2]++Γ)) (fun(o:Int×(List Int)) (σ:Nat→Value) (w:World)=>agree σ [(0,(vi o.1)),(1,(vp b1 0))]∧Holds E w ([bc 53 b1 [v1_0],own 3 v1_0 o.2]++Γ)) (fun(r:Empty) (_:Nat→Value) (_:World)=>r.elim) hN ?_ ?_ ?_ ?_
 ·exact⟨(ag zr),hw.pk 2 [0,1] zr⟩
 ·intro o fl σ w hI hb
  obtain⟨ha,hw⟩:=hI
  obtain⟨τ,rfl⟩:=ha.aO
  refine RC.seq (RC.sr (RL.bE (i:=0) (v:=v1_0) zt zr hw zr zr zr dL (mv (vi o.1) zr zr ?_)))
  obtain⟨ah,aa,hb⟩:=bd hb
  refine RL.bB (i:=1) zt zr hw zr zr zr dM aa (RL.cF (i:=1) (f:=(fun x=>x)) zt zr hw zr (gS hw (i:=1) zr aa 0) zr (aQ aa).2.1 Fd.self bX (mv (vi o.1) zr zr (ic ah (o.1) zr zr zr zr (RL.nt (eI hb zr (fun hc hb=>?_) fun hc hb=>?_)))))
  rotate_left
  ·refine RC.ex ?_
   obtain rfl:=oi hb
   exact⟨rfl,(ag zr),hw.pk 2 [0,1] zr⟩
  refine RC.sn (RC.block (RC.seq (RC.BH mixed rfl [0,0,0,0,0,0,0,0,0,0,2] [0,1,2,3,4,5,6,7,8,9,10] (by kernel_rfl) ?_)))
  have hw:=hw.drew
  refine DP.e0 zr zr (RL.bE (i:=0) (v:=v1_0) zt zr hw zr zr zr dL (dO zr zr (mv (vi o.1) zr zr (dO zr zr (RL.bE (i:=0) (v:=v1_0) zt zr hw zr zr zr dL (dO zr zr (RL.bE (i:=0) (v:=v1_0) zt zr hw zr zr zr dL (dO zr zr ?_))))))))
  refine mv (vi o.1) zr zr (dO zr zr ?_)
  obtain⟨al,ab,hb⟩:=bd hb
  refine RL.bB (i:=1) zt zr hw zr zr zr dM ab (dO zr zr (RL.cF (i:=1) (f:=(fun x=>x)) zt zr hw zr (gS hw (i:=1) zr ab 0) zr (aQ ab).2.1 Fd.self bX (dO zr zr ?_)))
  obtain⟨ai,ad,hb⟩:=bd hb
  refine RL.bB (i:=1) zt zr hw zr zr zr dM ad (dO zr zr (RL.cF (i:=1) (f:=(fun x=>x)) zt zr hw zr (gS hw (i:=1) zr ad 0) zr (aQ ad).2.1 Fd.self bX (dO zr zr ?_)))
  obtain⟨an,ae,hb⟩:=bd hb
  refine RL.bB (i:=1) zt zr hw zr zr zr dM ae (AV zr zr ?_)
  have hw:=hw.sc (γ:=Int) ai
  refine RL.eO (i:=2) (j:=0) (f:=(fun _ y=>y)) trivial hw rfl rfl (gS hw (i:=2) rfl ae 0) rfl (aQ ae).2.1 rfl Fs.self (by decide) bX fun w hw=>(DP.d2 trivial (DP.z (aG (RC.region (RL.bE (i:=1) (v:=v1_0) trivial rfl hw rfl rfl rfl dL (mv (vi o.1) rfl rfl ?_))))))
  obtain⟨aj,af,hb⟩:=bd hb
  refine RL.bB (i:=2) zt zr hw zr zr zr dM af (RL.cF (i:=2) (f:=(fun x=>x)) zt zr hw zr (gS hw (i:=2) zr af 0) zr (aQ af).2.1 Fd.self bX (aM (vi aj) zr zr (RL.nil (bJ ?_))))
  obtain rfl:=oi hb
  exact⟨rfl,(ag zr),hw.pk 3 [1,2] zr⟩
 ·intro r _ _ _ _
  exact r.elim
 intro o σ w e hJ
 subst e
 rw [Fo.eT] at hb
 obtain⟨ha,hw⟩:=hJ
 obtain⟨τ,rfl⟩:=ha.aO
 refine aG (RC.sr (mv (vi o.1) zr zr (aM (vi o.1) zr zr (RL.nt (RC.ret ?_)))))
 obtain rfl:=oi hb
 exact bQ zr zr ⟨v1_0,zr,hw.pk 2 [0,1] zr⟩
end Go.Gk
