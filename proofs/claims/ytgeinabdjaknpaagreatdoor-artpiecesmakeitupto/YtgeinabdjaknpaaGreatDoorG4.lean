/-
  Printed texts: Go functions as plain functions, and that they are. No statement of the seed is proved here.
-/
import Derived.Test.YtgeinabdjaknpaaGreatDoorG1
import Derived.Test.YtgeinabdjaknpaaGreatDoorG2
import Derived.Test.YtgeinabdjaknpaaGreatDoorG3
import Derived.Test.YtgeinabdjaknpaaGreatDoorA2
set_option linter.unusedVariables false
set_option linter.unusedSimpArgs false
set_option linter.unusedSectionVars false
set_option maxRecDepth 100000
set_option maxHeartbeats 4000000
namespace Go.Gk
open Go Go.Proofs
def pH (E:World) (Γ:List HP) (res: (List (List aA))) (v:Value) (w:World):Prop:=Holds E w ([own 58 v res]++Γ)
theorem oK (N:Nat) {E w:World} {Γ:List HP} {i0:Nat} {v0:Value} {p0: (List aA)} {res: (List (List aA))} (hw:Holds E w Γ) (h0:Γ[i0]? =some (rd v0 p0)) (hb:gA N p0=some res):
    Calls Tryz.prog 49 [v0].toArray w (fw (pH E Γ res)):=by
 unfold gA at hb
 refine enter Tryz.func49 zr zr (Nat.le_of_ble_eq_true zr) ?_
 have hw:=hw.dup (i:=i0+0) h0
 refine RC.sr (aM (.slice none 0 0) zr zr (RL.ns (mv v0 zr zr ?_)))
 obtain⟨al,cx,hb⟩:=bd hb
 refine RL.call zt zr zT [v0] zr (aF (fo N (i0:=0) hw zr cx) ?_)
 rintro af w hw
 refine aM af zr zr (RL.ns (mv af zr zr (RL.dC (i:=0) (l:=al) zt zr hw zr zr lj ?_)))
 obtain⟨a9,cy,hb⟩:=bd hb
 refine RL.mk (k:=(al.length:Int)) zt zr hw zr zr qx CV cy fun a0 w hw=>(RL.r6 zt zr hw CU zr fun ae w hw=>(RL.fU (i:=0) (v:=a0) zt hw zr zr zr zr (gm hw (i:=1) zr) dL fun w hw=>(RL.nq (RC.sr (RL.bE (i:=0) (v:=a0) zt zr hw zr zr zr dL (RL.dC (i:=1) (l:=a9) zt zr hw zr zr jH (mv (vi 0) zr zr (RL.nt ?_))))))))
 obtain⟨a6,hN,hb⟩:=bd hb
 refine RC.fold (fun(ay:Nat) (a6: (List Int)) (σ:Nat→Value) (w:World)=>agree σ [(0,v0),(3,af),(4,(vp ae 0)),(32,(vi (a9.length:Int))),(33,(vi (ay:Int)))]∧Holds E w ([rd v0 p0,own 61 af al,bc 53 ae [a0],own 3 a0 a6]++Γ)) (fun(a6: (List Int)) (σ:Nat→Value) (w:World)=>agree σ [(0,v0),(3,af),(4,(vp ae 0))]∧Holds E w ([rd v0 p0,own 61 af al,bc 53 ae [a0],own 3 a0 a6]++Γ)) hN ?_ ?_ ?_ ?_
 ·exact⟨(ag zr),hw.pk 4 [3,2,0,1] zr⟩
 ·intro hm a6 σ w hI
  obtain⟨ha,hw⟩:=hI
  obtain⟨τ,rfl⟩:=ha.aO
  refine RC.sr (ic ((a9.length:Int)) ((a9.length:Int)) zr zr zr zr (RL.nq (RC.cH lZ (RC.ex ?_))))
  exact⟨rfl,(ag zr),hw.pk 4 [0,1,2,3] zr⟩
 ·intro hm ay a6 s' σ w hk hI hb
  obtain⟨ha,hw⟩:=hI
  obtain⟨τ,rfl⟩:=ha.aO
  refine RC.sr (ic ((ay:Int)) ((a9.length:Int)) zr zr zr zr (RL.nq (RC.cG (lY hk) (RC.ss (RC.bs (mv (vi (ay:Int)) zr zr (aM (vi (ay:Int)) zr zr (RL.nt ?_))))))))
  refine RC.region (RL.bE (i:=2) (v:=a0) zt zr hw zr zr zr dL (mv (vi (ay:Int)) zr zr (mv (vi (ay:Int)) zr zr ?_)))
  obtain⟨di,b2,hb⟩:=bd hb
  refine RL.bB (i:=3) zt zr hw zr zr zr dM b2 ?_
  have hw:=hw.sc (γ:=Int) (ay:Int)
  refine RL.eO (i:=4) (j:=0) (f:=(fun _ y=>y)) trivial hw rfl rfl (gS hw (i:=4) rfl b2 0) rfl (aQ b2).2.1 rfl Fs.self (by decide) bX fun w hw=>(RL.nil (bJ (aG (RC.region (RL.inc trivial rfl hk hm rfl rfl (mv (vi ((ay+1:Nat):Int)) rfl rfl (RL.nil ?_)))))))
  obtain rfl:=oi hb
  exact⟨rfl,(ag zr),hw.pk 5 [1,2,3,4] zr⟩
 intro σ w hJ
 obtain⟨ha,hw⟩:=hJ
 obtain⟨τ,rfl⟩:=ha.aO
 refine aG (RC.sr (RL.makeFunc zt zr [(vp ae 0)] zr (aM (.func (.func 73) #[] #[(vp ae 0)]) zr zr (RL.ns (aM (vi 0) zr zr (aM (vi 0) zr zr (RL.nq (RC.sr ?_))))))))
 refine mv v0 zr zr (RL.bG (i:=0) (l:=p0) zt zr hw zr zr nO (mv (vi 0) zr zr (RL.nt ?_)))
 obtain⟨aa,hN,hb⟩:=bd hb
 refine RC.fold (fun(ao:Nat) (aa: (List Int)×Int×Int) (σ:Nat→Value) (w:World)=>∃cj:Value,agree σ [(0,v0),(3,af),(4,(vp ae 0)),(6,(.func (.func 73) #[] #[(vp ae 0)])),(7,(vi aa.2.1)),(8,(vi aa.2.2)),(42,v0),(43,(vi (p0.length:Int))),(44,(vi (ao:Int)))]∧Holds E w ([rd v0 p0,own 61 af al,bc 53 ae [cj],own 3 cj aa.1]++Γ)) (fun(aa: (List Int)×Int×Int) (σ:Nat→Value) (w:World)=>∃bf:Value,agree σ [(3,af),(6,(.func (.func 73) #[] #[(vp ae 0)]))]∧Holds E w ([rd v0 p0,own 61 af al,bc 53 ae [bf],own 3 bf aa.1]++Γ)) hN ?_ ?_ ?_ ?_
 ·exact⟨a0,(ag zr),hw.pk 4 [0,1,2,3] zr⟩
 ·intro hm aa σ w hI
  obtain⟨cz,ha,hw⟩:=hI
  obtain⟨τ,rfl⟩:=ha.aO
  refine RC.sr (ic ((p0.length:Int)) ((p0.length:Int)) zr zr zr zr (RL.nq (RC.cH lZ (RC.ex ?_))))
  exact⟨rfl,cz,(ag zr),hw.pk 4 [0,1,2,3] zr⟩
 ·intro hm ao aa s' σ w hk hI hb
  obtain⟨bg,ha,hw⟩:=hI
  obtain⟨τ,rfl⟩:=ha.aO
  refine RC.sr (ic ((ao:Int)) ((p0.length:Int)) zr zr zr zr (RL.nq (RC.cG (lY hk) (RC.ss (RC.bs (mv (vi (ao:Int)) zr zr ?_))))))
  obtain⟨aj,c0,hb⟩:=bd hb
  refine RL.bO (i:=0) zt zr hw zr zr zr jA c0 fun dj hw=>(RL.bP (i:=0) (x:=aj) zt zr hw zr zr uI fun dk hw=>(RL.alloc zt zr hw zS.z fun dm w hw=>(aM (vi (ao:Int)) zr zr (RL.bC (i:=0) (j:=1) zt hw zr zr zr zr uI zr fun w hw=>(RL.ns (RL.bF zt zr zr iP (RL.aY (i:=0) (f:=(fun x=>x.Xs)) zt zr hw zr zr bR dL fun dn hw=>(RL.bG (i:=0) (l:=aj.Xs) zt zr hw zr zr jH ?_))))))))
  refine RL.quo (a:=(aj.Xs.length:Int)) (b:=2) zt zr zr zr zr (aM (vi (IntKind.wrap .i64 (Int.tdiv (aj.Xs.length:Int) 2))) zr zr (RL.nq (RC.seq ?_)))
  obtain⟨b3,hj,hb⟩:=bd hb
  refine RC.jn (fun(b3:Bool) (σ:Nat→Value) (w:World)=>agree σ [(0,v0),(3,af),(4,(vp ae 0)),(6,(.func (.func 73) #[] #[(vp ae 0)])),(7,(vi aa.2.1)),(8,(vi aa.2.2)),(11,(vi (IntKind.wrap .i64 (Int.tdiv (aj.Xs.length:Int) 2)))),(42,v0),(43,(vi (p0.length:Int))),(44,(vi (ao:Int))),(65,(vb b3))]∧Holds E w ([rd v0 p0,own 61 af al,bc 53 ae [bg],own 3 bg aa.1]++Γ)) b3 ?_ ?_
  ·refine RC.uy mixed rfl (by kernel_rfl) ?_
   have hw:=hw.drew
   refine RO.go (mv (vi (ao:Int)) zr zr (RO.nx (ic ((ao:Int)) 0 zr zr zr zr (RO.nx (mv (vb (decide ((ao:Int)>0))) zr zr (fH hj (fun an hj=>?_) fun an hj=>?_))))))
   rotate_left
   ·refine RO.nx (sk zr (.inl (cb an)) zr (RO.nx (sk zr (.inl (cb an)) zr (RO.nx (sk zr (.inl (cb an)) zr (RO.nx (sk zr (.inl (cb an)) zr (RO.nx ?_))))))))
    refine sk zr (.inl (cb an)) zr (RO.nx (sk zr (.inl (cb an)) zr (RO.nx (sk zr (.inl (cb an)) zr (RO.nx (sk zr (.inl (cb an)) zr (RO.nx (sk zr (.inl (cb an)) zr ?_))))))))
    refine RO.nx (RL.pick (b:=(decide ((ao:Int)>0))) (v:=(vb false)) trivial rfl rfl (by rw [an];rfl) (RO.last ?_))
    obtain rfl:=oi hj
    exact⟨rfl,(ag zr),hw.pk 8 [4,5,6,7] zr⟩
   refine RO.nx (RL.move (v:=v0) (cg an) zr zr (RO.nx (RL.move (v:=(vi (ao:Int))) (cg an) zr zr (RO.nx (RL.gQ (a:=(ao:Int)) (b:=1) (cg an) zr zr zr zr (RO.nx ?_))))))
   obtain⟨b4,c1,hj⟩:=bd hj
   refine RL.bO (i:=4) (cg an) zr hw zr zr zr jA c1 fun dp hw=>(RO.nx (RL.gR (i:=0) (f:=fun(x:aA)=>x.Y1) (cg an) zr hw zr zr jV cL fun dq hw=>(RO.nx (RL.bA (i:=0) (y:=b4.Y1) (cg an) zr hw zr zr bX (RO.nx (RL.bF (cg an) zr zr lk (RO.nx (RL.aL (i:=3) (f:=(fun x=>x.Y0)) (cg an) zr hw zr zr cR bX ?_))))))))
   refine RO.nx (RL.iO (a:=b4.Y1) (b:=aj.Y0) (cg an) rfl rfl rfl rfl (RO.nx (RL.pick (b:=(decide ((ao:Int)>0))) (v:=(vb (b4.Y1==aj.Y0))) trivial rfl rfl (by rw [an];rfl) (RO.last ?_))))
   obtain rfl:=oi hj
   exact⟨rfl,(ag zr),hw.pk 10 [6,7,8,9] zr⟩
  rintro σ w ⟨ha,hw⟩
  obtain⟨τ,rfl⟩:=ha.aO
  refine aG ?_
  obtain⟨b5,hj,hb⟩:=bd hb
  refine RC.jn (fun(b5: (List Int)) (σ:Nat→Value) (w:World)=>∃bh:Value,agree σ [(0,v0),(3,af),(4,(vp ae 0)),(6,(.func (.func 73) #[] #[(vp ae 0)])),(7,(vi aa.2.1)),(11,(vi (IntKind.wrap .i64 (Int.tdiv (aj.Xs.length:Int) 2)))),(42,v0),(43,(vi (p0.length:Int))),(44,(vi (ao:Int)))]∧Holds E w ([rd v0 p0,own 61 af al,bc 53 ae [bh],own 3 bh b5]++Γ)) b5 ?_ ?_
  ·refine eI hj zr (fun hc hj=>?_) fun hc hj=>?_
   rotate_left
   ·refine RC.skip ?_
    obtain rfl:=oi hj
    exact⟨rfl,bg,(ag zr),hw.pk 4 [0,1,2,3] zr⟩
   refine RC.sr (mv (vi aa.2.2) zr zr (mv (vi aa.2.1) zr zr (aM (vi aa.2.2) zr zr (aM (vi aa.2.1) zr zr (RL.nt ?_)))))
   obtain⟨dr,hN,hj⟩:=bd hj
   refine RC.iter (fun(ab: (List Int)×Int×Int) (σ:Nat→Value) (w:World)=>∃ck:Value,agree σ [(0,v0),(3,af),(4,(vp ae 0)),(6,(.func (.func 73) #[] #[(vp ae 0)])),(7,(vi aa.2.1)),(11,(vi (IntKind.wrap .i64 (Int.tdiv (aj.Xs.length:Int) 2)))),(12,(vi ab.2.1)),(13,(vi ab.2.2)),(42,v0),(43,(vi (p0.length:Int))),(44,(vi (ao:Int)))]∧Holds E w ([rd v0 p0,own 61 af al,bc 53 ae [ck],own 3 ck ab.1]++Γ)) (fun(ab: (List Int)×Int×Int) (σ:Nat→Value) (w:World)=>∃bj:Value,agree σ [(0,v0),(3,af),(4,(vp ae 0)),(6,(.func (.func 73) #[] #[(vp ae 0)])),(7,(vi aa.2.1)),(11,(vi (IntKind.wrap .i64 (Int.tdiv (aj.Xs.length:Int) 2)))),(42,v0),(43,(vi (p0.length:Int))),(44,(vi (ao:Int)))]∧Holds E w ([rd v0 p0,own 61 af al,bc 53 ae [bj],own 3 bj ab.1]++Γ)) (fun(r:Empty) (_:Nat→Value) (_:World)=>r.elim) hN ?_ ?_ ?_ ?_
   ·exact⟨bg,(ag zr),hw.pk 4 [0,1,2,3] zr⟩
   ·intro ab fl σ w hI hb
    obtain⟨bk,ha,hw⟩:=hI
    obtain⟨τ,rfl⟩:=ha.aO
    refine RC.seq (RC.sr (mv (vi ab.2.1) zr zr (mv (vi aa.2.1) zr zr (ic (ab.2.1) (aa.2.1) zr zr zr zr (mv (vb (decide (ab.2.1<aa.2.1))) zr zr (RL.gs (c:=true) (b:=(decide (ab.2.1<aa.2.1))) (v:=(vi ab.2.2)) zr zr zr (cN zr (fun _=>zr)) (RL.gs (c:=true) (b:=(decide (ab.2.1<aa.2.1))) (v:=(vi aa.2.1)) zr zr zr (cN zr (fun _=>zr)) (RL.gs (c:=true) (b:=(decide (ab.2.1<aa.2.1))) (v:=(vi (IntKind.wrap .i64 (Int.tdiv (aj.Xs.length:Int) 2)))) zr zr zr (cN zr (fun _=>zr)) ?_))))))))
    refine RL.gs (c:=true) (b:=(decide (ab.2.1<aa.2.1))) (v:=(vi (IntKind.wrap .i64 (aa.2.1+ (IntKind.wrap .i64 (Int.tdiv (aj.Xs.length:Int) 2)))))) rfl rfl rfl (BU (bop:= .add) (K:= .i64) (a:=aa.2.1) (b:=(IntKind.wrap .i64 (Int.tdiv (aj.Xs.length:Int) 2))) rfl (fun h=>by exact(cC h:cv (true&&((decide (ab.2.1<aa.2.1))==true)) (vi aa.2.1)= (vi aa.2.1))) (fun h=>by exact(cC h:cv (true&&((decide (ab.2.1<aa.2.1))==true)) (vi (IntKind.wrap .i64 (Int.tdiv (aj.Xs.length:Int) 2)))= (vi (IntKind.wrap .i64 (Int.tdiv (aj.Xs.length:Int) 2))))) rfl) (RL.gs (c:=true) (b:=(decide (ab.2.1<aa.2.1))) (v:=(vb (decide (ab.2.2< (IntKind.wrap .i64 (aa.2.1+ (IntKind.wrap .i64 (Int.tdiv (aj.Xs.length:Int) 2)))))))) rfl rfl rfl (cV (bop:= .lss) (K:= .i64) (a:=ab.2.2) (b:=(IntKind.wrap .i64 (aa.2.1+ (IntKind.wrap .i64 (Int.tdiv (aj.Xs.length:Int) 2))))) rfl (fun h=>by exact(cC h:cv (true&&((decide (ab.2.1<aa.2.1))==true)) (vi ab.2.2)= (vi ab.2.2))) (fun h=>by exact(cC h:cv (true&&((decide (ab.2.1<aa.2.1))==true)) (vi (IntKind.wrap .i64 (aa.2.1+ (IntKind.wrap .i64 (Int.tdiv (aj.Xs.length:Int) 2)))))= (vi (IntKind.wrap .i64 (aa.2.1+ (IntKind.wrap .i64 (Int.tdiv (aj.Xs.length:Int) 2))))))) rfl) (RL.pick (b:=(decide (ab.2.1<aa.2.1))) (v:=(vb ((decide (ab.2.1<aa.2.1))&&(decide (ab.2.2< (IntKind.wrap .i64 (aa.2.1+ (IntKind.wrap .i64 (Int.tdiv (aj.Xs.length:Int) 2))))))))) trivial rfl rfl (gW (c:=true) rfl) (RL.nt (eI hb rfl (fun hc hb=>?_) fun hc hb=>?_))))
    rotate_left
    ·refine RC.ex ?_
     obtain rfl:=oi hb
     exact⟨rfl,bk,(ag zr),hw.pk 4 [0,1,2,3] zr⟩
    refine RC.sn (RC.block (RC.seq (RC.seq ?_)))
    obtain⟨b6,hj,hb⟩:=bd hb
    refine RC.jn (fun(b6:Bool) (σ:Nat→Value) (w:World)=>agree σ [(0,v0),(3,af),(4,(vp ae 0)),(6,(.func (.func 73) #[] #[(vp ae 0)])),(7,(vi aa.2.1)),(11,(vi (IntKind.wrap .i64 (Int.tdiv (aj.Xs.length:Int) 2)))),(12,(vi ab.2.1)),(13,(vi ab.2.2)),(42,v0),(43,(vi (p0.length:Int))),(44,(vi (ao:Int))),(101,(vb b6))]∧Holds E w ([rd v0 p0,own 61 af al,bc 53 ae [bk],own 3 bk ab.1]++Γ)) b6 ?_ ?_
    ·refine RC.uy mixed rfl (by kernel_rfl) ?_
     have hw:=hw.drew
     refine RO.go (mv af zr zr (RO.nx (mv (vi ab.2.1) zr zr (RO.nx ?_))))
     obtain⟨bl,bm,hj⟩:=bd hj
     refine RL.bB (i:=1) zt zr hw zr zr zr iE bm (RO.nx (RL.i7 (α:=aC) zt zr zr (gS hw (i:=1) zr bm 0) f0 (RO.nx (RL.cF (i:=1) (f:=(fun x=>x.X0)) zt zr hw zr (gS hw (i:=1) zr bm 0) zr (aQ bm).2.1 cU bX (RO.nx (mv af zr zr (RO.nx (mv (vi ab.2.2) zr zr ?_))))))))
     refine RO.nx ?_
     obtain⟨bn,bo,hj⟩:=bd hj
     refine RL.bB (i:=1) zt zr hw zr zr zr iE bo (RO.nx (RL.i7 (α:=aC) zt zr zr (gS hw (i:=1) zr bo 0) gN (RO.nx (RL.cF (i:=1) (f:=(fun x=>x.X1)) zt zr hw zr (gS hw (i:=1) zr bo 2) zr (aQ bo).2.1 dK bX (RO.nx (ic (bl.X0) (bn.X1) zr zr zr zr (RO.nx (mv (vb (decide (bl.X0<bn.X1))) zr zr ?_))))))))
     refine fH hj (fun ak hj=>?_) fun ak hj=>?_
     rotate_left
     ·refine RO.nx (sk zr (.inl (cb ak)) zr (RO.nx (sk zr (.inl (cb ak)) zr (RO.nx (sk zr (.inl (cb ak)) zr (RO.nx (sk zr (.inl (cb ak)) zr (RO.nx ?_))))))))
      refine sk zr (.inl (cb ak)) zr (RO.nx (sk zr (.inl (cb ak)) zr (RO.nx (sk zr (.inl (cb ak)) zr (RO.nx (sk zr (.inl (cb ak)) zr (RO.nx (sk zr (.inl (cb ak)) zr ?_))))))))
      refine RO.nx (sk rfl (.inl (cb ak)) rfl (RO.nx (sk rfl (.inl (cb ak)) rfl (RO.nx (RL.pick (b:=(decide (bl.X0<bn.X1))) (v:=(vb false)) trivial rfl rfl (by rw [ak];rfl) (RO.last ?_))))))
      obtain rfl:=oi hj
      exact⟨rfl,(ag zr),hw.pk 4 [0,1,2,3] zr⟩
     refine RO.nx (RL.move (v:=af) (cg ak) zr zr (RO.nx (RL.move (v:=(vi ab.2.2)) (cg ak) zr zr (RO.nx ?_))))
     obtain⟨cl,bp,hj⟩:=bd hj
     refine RL.bB (i:=1) (cg ak) zr hw zr zr zr iE bp (RO.nx (RL.i7 (α:=aC) (cg ak) zr zr (gS hw (i:=1) zr bp 0) f0 (RO.nx (RL.cF (i:=1) (f:=(fun x=>x.X0)) (cg ak) zr hw zr (gS hw (i:=1) zr bp 0) zr (aQ bp).2.1 cU bX (RO.nx (RL.move (v:=af) (cg ak) zr zr (RO.nx (RL.move (v:=(vi ab.2.1)) (cg ak) zr zr ?_))))))))
     refine RO.nx ?_
     obtain⟨cm,bq,hj⟩:=bd hj
     refine RL.bB (i:=1) (cg ak) rfl hw rfl rfl rfl iE bq (RO.nx (RL.i7 (α:=aC) (cg ak) rfl rfl (gS hw (i:=1) rfl bq 0) gN (RO.nx (RL.cF (i:=1) (f:=(fun x=>x.X1)) (cg ak) rfl hw rfl (gS hw (i:=1) rfl bq 2) rfl (aQ bq).2.1 dK bX (RO.nx (RL.iO (a:=cl.X0) (b:=cm.X1) (cg ak) rfl rfl rfl rfl (RO.nx (RL.pick (b:=(decide (bl.X0<bn.X1))) (v:=(vb (decide (cl.X0<cm.X1)))) trivial rfl rfl (by rw [ak];rfl) ?_))))))))
     refine RO.last ?_
     obtain rfl:=oi hj
     exact⟨rfl,(ag zr),hw.pk 4 [0,1,2,3] zr⟩
    rintro σ w ⟨ha,hw⟩
    obtain⟨τ,rfl⟩:=ha.aO
    refine aG ?_
    obtain⟨br,hj,hb⟩:=bd hb
    refine RC.jn (fun(br: (List Int)) (σ:Nat→Value) (w:World)=>∃a7:Value,agree σ [(0,v0),(3,af),(4,(vp ae 0)),(6,(.func (.func 73) #[] #[(vp ae 0)])),(7,(vi aa.2.1)),(11,(vi (IntKind.wrap .i64 (Int.tdiv (aj.Xs.length:Int) 2)))),(12,(vi ab.2.1)),(13,(vi ab.2.2)),(42,v0),(43,(vi (p0.length:Int))),(44,(vi (ao:Int)))]∧Holds E w ([rd v0 p0,own 61 af al,bc 53 ae [a7],own 3 a7 br]++Γ)) br ?_ ?_
    ·refine eI hj zr (fun hc hj=>?_) fun hc hj=>?_
     rotate_left
     ·refine RC.skip ?_
      obtain rfl:=oi hj
      exact⟨rfl,bk,(ag zr),hw.pk 4 [0,1,2,3] zr⟩
     refine RC.sr (mv (.func (.func 73) #[] #[(vp ae 0)]) zr zr (mv (vi ab.2.1) zr zr ?_))
     have hw:=hw.pull (i:=3) rfl
     have hw:=hw.pull (i:=3) rfl
     obtain⟨a2,c2,hj⟩:=bd hj
     refine RL.vn (cap:=[(vp ae 0)]) zt zr Cg zr [(vi ab.2.1)] zr (aF (gO N (p0:=ab.2.1) hw c2) ?_)
     rintro _ w ⟨ds,rfl,hw⟩
     refine mv (.func (.func 73) #[] #[(vp ae 0)]) zr zr (mv (vi ab.2.2) zr zr ?_)
     have hw:=hw.pull (i:=1) rfl
     have hw:=hw.pull (i:=1) rfl
     obtain⟨a3,c3,hj⟩:=bd hj
     refine RL.vn (cap:=[(vp ae 0)]) zt zr Cg zr [(vi ab.2.2)] zr (aF (gO N (p0:=ab.2.2) hw c3) ?_)
     rintro _ w ⟨cn,rfl,hw⟩
     refine aM (vi a2.1) zr zr (aM (vi a3.1) zr zr (RL.nt (RC.region (RL.bE (i:=0) (v:=cn) zt zr hw zr zr zr dL (mv (vi a2.1) zr zr (mv (vi a3.1) zr zr (RL.max (a:=a2.1) (b:=a3.1) zt zr zr zr (mv (vi a2.1) zr zr ?_))))))))
     refine mv (vi a3.1) zr zr (RL.min (a:=a2.1) (b:=a3.1) zt zr zr zr ?_)
     obtain⟨dt,b7,hj⟩:=bd hj
     refine RL.bB (i:=1) zt zr hw zr zr zr dM b7 ?_
     have hw:=hw.sc (γ:=Int) (if a3.1<a2.1 then a3.1 else a2.1)
     refine RL.eO (i:=2) (j:=0) (f:=(fun _ y=>y)) trivial hw rfl rfl (gS hw (i:=2) rfl b7 0) rfl (aQ b7).2.1 rfl Fs.self (by decide) bX fun w hw=>(RL.nil ?_)
     obtain rfl:=oi hj
     exact⟨rfl,cn,(ag zr),hw.pk 9 [5,6,1,2] zr⟩
    rintro σ w ⟨a7,ha,hw⟩
    obtain⟨τ,rfl⟩:=ha.aO
    refine aG (RC.seq (RC.uy mixed rfl (by kernel_rfl) ?_))
    have hw:=hw.drew
    refine RO.go (mv af zr zr (RO.nx (mv (vi ab.2.1) zr zr (RO.nx ?_))))
    obtain⟨c4,bt,hb⟩:=bd hb
    refine RL.bB (i:=1) zt zr hw zr zr zr iE bt (RO.nx (RL.i7 (α:=aC) zt zr zr (gS hw (i:=1) zr bt 0) gN (RO.nx (RL.cF (i:=1) (f:=(fun x=>x.X1)) zt zr hw zr (gS hw (i:=1) zr bt 2) zr (aQ bt).2.1 dK bX (RO.nx (mv af zr zr (RO.nx (mv (vi ab.2.2) zr zr ?_))))))))
    refine RO.nx ?_
    obtain⟨c5,bu,hb⟩:=bd hb
    refine RL.bB (i:=1) zt zr hw zr zr zr iE bu (RO.nx (RL.i7 (α:=aC) zt zr zr (gS hw (i:=1) zr bu 0) gN (RO.nx (RL.cF (i:=1) (f:=(fun x=>x.X1)) zt zr hw zr (gS hw (i:=1) zr bu 2) zr (aQ bu).2.1 dK bX (RO.nx (ic (c4.X1) (c5.X1) zr zr zr zr (RO.last (aG ?_))))))))
    obtain⟨bw,hj,hb⟩:=bd hb
    refine RC.jn (fun(bw:Int×Int) (σ:Nat→Value) (w:World)=>agree σ [(0,v0),(3,af),(4,(vp ae 0)),(6,(.func (.func 73) #[] #[(vp ae 0)])),(7,(vi aa.2.1)),(11,(vi (IntKind.wrap .i64 (Int.tdiv (aj.Xs.length:Int) 2)))),(12,(vi bw.1)),(13,(vi bw.2)),(42,v0),(43,(vi (p0.length:Int))),(44,(vi (ao:Int)))]∧Holds E w ([rd v0 p0,own 61 af al,bc 53 ae [a7],own 3 a7 br]++Γ)) bw ?_ ?_
    ·refine eI hj zr (fun hc hj=>?_) fun hc hj=>?_
     ·refine RC.region (mv (vi ab.2.1) zr zr (RL.gQ (a:=ab.2.1) (b:=1) zt zr zr zr zr (aM (vi (IntKind.wrap .i64 (ab.2.1+1))) zr zr (RL.nil ?_))))
      obtain rfl:=oi hj
      exact⟨rfl,(ag zr),hw.pk 4 [0,1,2,3] zr⟩
     refine RC.region (mv (vi ab.2.2) zr zr (RL.gQ (a:=ab.2.2) (b:=1) zt zr zr zr zr (aM (vi (IntKind.wrap .i64 (ab.2.2+1))) zr zr (RL.nil ?_))))
     obtain rfl:=oi hj
     exact⟨rfl,(ag zr),hw.pk 4 [0,1,2,3] zr⟩
    rintro σ w ⟨ha,hw⟩
    obtain⟨τ,rfl⟩:=ha.aO
    refine bJ ?_
    obtain rfl:=oi hb
    exact⟨rfl,a7,(ag zr),hw.pk 4 [0,1,2,3] zr⟩
   ·intro r _ _ _ _
    exact r.elim
   intro ab σ w e hJ
   subst e
   rw [Fo.eT] at hj
   obtain⟨bj,ha,hw⟩:=hJ
   obtain⟨τ,rfl⟩:=ha.aO
   obtain rfl:=oi hj
   exact⟨rfl,bj,(ag zr),hw.pk 4 [0,1,2,3] zr⟩
  rintro σ w ⟨bh,ha,hw⟩
  obtain⟨τ,rfl⟩:=ha.aO
  refine aG (RC.region (mv (vi aa.2.1) zr zr (mv (vi aa.2.1) zr zr (mv (vi (IntKind.wrap .i64 (Int.tdiv (aj.Xs.length:Int) 2))) zr zr (RL.gQ (a:=aa.2.1) (b:=(IntKind.wrap .i64 (Int.tdiv (aj.Xs.length:Int) 2))) zt zr zr zr zr (aM (vi aa.2.1) zr zr (aM (vi (IntKind.wrap .i64 (aa.2.1+ (IntKind.wrap .i64 (Int.tdiv (aj.Xs.length:Int) 2))))) zr zr (RL.nil ?_))))))))
  refine bJ (aG (RC.region (RL.inc zt zr hk hm zr zr (mv (vi ((ao+1:Nat):Int)) zr zr (RL.nil ?_)))))
  obtain rfl:=oi hb
  exact⟨rfl,bh,(ag zr),hw.pk 4 [0,1,2,3] zr⟩
 intro σ w hJ
 obtain⟨bf,ha,hw⟩:=hJ
 obtain⟨τ,rfl⟩:=ha.aO
 refine aG (RC.sr (RL.makeMap (κ:=Int) (ν:=Int) zt zr hw fun ax w hw=>(aM ax zr zr (RL.ns (aM (.slice none 0 0) zr zr (RL.nq (RC.sr (mv af zr zr ?_))))))))
 refine RL.dC (i:=2) (l:=al) zt zr hw zr zr lj (mv (vi 0) zr zr (RL.nt ?_))
 obtain⟨ah,hN,hb⟩:=bd hb
 refine RC.fold (fun(aw:Nat) (ah: (List Int)×(List (Int×Int))×(List (List aC))) (σ:Nat→Value) (w:World)=>∃(cp:Value) (cq:Value) (us939:List RV),agree σ [(6,(.func (.func 73) #[] #[(vp ae 0)])),(16,ax),(17,cq),(137,af),(138,(vi (al.length:Int))),(139,(vi (aw:Int)))]∧Holds E w ([bc 53 ae [cp],own 3 cp ah.1,mp ax ah.2.1,own 61 af al,own 23 cq us939,eX (XS 61 aC) us939 ah.2.2 none]++Γ)) (fun(ah: (List Int)×(List (Int×Int))×(List (List aC))) (σ:Nat→Value) (w:World)=>∃(b8:Value) (a4:Value) (us942:List RV),agree σ [(17,a4)]∧Holds E w ([bc 53 ae [b8],own 3 b8 ah.1,mp ax ah.2.1,own 61 af al,own 23 a4 us942,eX (XS 61 aC) us942 ah.2.2 none]++Γ)) hN ?_ ?_ ?_ ?_
 ·have hw:=hw.uu (XS 61 aC)
  have hw:=hw.bV RV 23
  exact⟨bf,(.slice none 0 0),([]:List RV),(ag zr),hw.pk 7 [5,6,2,4,0,1] zr⟩
 ·intro hm ah σ w hI
  obtain⟨c6,c7,us987,ha,hw⟩:=hI
  obtain⟨τ,rfl⟩:=ha.aO
  refine RC.sr (ic ((al.length:Int)) ((al.length:Int)) zr zr zr zr (RL.nq (RC.cH lZ (RC.ex ?_))))
  exact⟨rfl,c6,c7,us987,⟨rfl,zt⟩,hw.pk 6 [0,1,2,3,4,5] zr⟩
 ·intro hm aw ah s' σ w hk hI hb
  obtain⟨du,b9,us945,ha,hw⟩:=hI
  obtain⟨τ,rfl⟩:=ha.aO
  refine RC.sr (ic ((aw:Int)) ((al.length:Int)) zr zr zr zr (RL.nq (RC.cG (lY hk) (RC.ss (RC.bs (mv (vi (aw:Int)) zr zr ?_))))))
  obtain⟨a1,ca,hb⟩:=bd hb
  refine RL.bB (i:=3) zt zr hw zr zr zr iE ca (RL.gl (i:=3) (f:=(fun x=>x)) zt zr hw zr (gS hw (i:=3) zr ca 0) zr (aQ ca).2.1 Fd.self eM fun dv hw=>(RL.alloc zt zr hw kP.z fun bz w hw=>(aM (vi (aw:Int)) zr zr (RL.bC (i:=0) (j:=1) zt hw zr zr zr zr eM zr fun w hw=>(RL.ns (mv (.func (.func 73) #[] #[(vp ae 0)]) zr zr (mv (vi (aw:Int)) zr zr ?_)))))))
  have hw:=hw.pull (i:=3) rfl
  have hw:=hw.pull (i:=3) rfl
  obtain⟨av,c8,hb⟩:=bd hb
  refine RL.vn (cap:=[(vp ae 0)]) zt zr Cg zr [(vi (aw:Int))] zr (aF (gO N (p0:=(aw:Int)) hw c8) ?_)
  rintro _ w ⟨ba,rfl,hw⟩
  refine aM (vi av.1) zr zr (RL.ns (mv ax zr zr (mv (vi av.1) zr zr (RL.zq (i:=6) (k:=av.1) zt zr hw zr zr zr v7 (mv (.tuple #[(vi (mget ah.2.1 av.1 (0:Int))),(vb (my ah.2.1 av.1))]) zr zr (RL.extract (v:=(vi (mget ah.2.1 av.1 (0:Int)))) zt zr zr zr (RL.extract (v:=(vb (my ah.2.1 av.1))) zt zr zr zr (aM (vi (mget ah.2.1 av.1 (0:Int))) zr zr ?_))))))))
  refine aM (vb (my ah.2.1 av.1)) zr zr (RL.nq (RC.sr (mv (vb (my ah.2.1 av.1)) zr zr (RL.not (b:=(my ah.2.1 av.1)) zt zr zr (RL.nt ?_)))))
  obtain⟨ad,hj,hb⟩:=bd hb
  refine RC.jn (fun(ad: (List (Int×Int))×(List (List aC))×Int) (σ:Nat→Value) (w:World)=>∃(au:Value) (us956:List RV),agree σ [(6,(.func (.func 73) #[] #[(vp ae 0)])),(16,ax),(17,au),(19,(vp bz 0)),(21,(vi ad.2.2)),(137,af),(138,(vi (al.length:Int))),(139,(vi (aw:Int)))]∧Holds E w ([bc 53 ae [ba],own 3 ba av.2,mp ax ad.1,bx 61 bz a1,own 61 af al,own 23 au us956,eX (XS 61 aC) us956 ad.2.1 none]++Γ)) ad ?_ ?_
  ·refine eI hj zr (fun hc hj=>?_) fun hc hj=>?_
   rotate_left
   ·refine RC.skip ?_
    obtain rfl:=oi hj
    exact⟨rfl,b9,us945,(ag zr),hw.pk 10 [0,1,6,2,7,8,9] zr⟩
   refine RC.sr (mv b9 zr zr (RL.mM (i:=8) (b:=9) (xs:=ah.2.2) zt zr hw zr zr zr tB (aM (vi (ah.2.2.length:Int)) zr zr (RL.ns (mv ax zr zr (mv (vi av.1) zr zr (mv (vi (ah.2.2.length:Int)) zr zr ?_)))))))
   have hw:=hw.sc (γ:=Int) (ah.2.2.length:Int)
   refine RL.mapUpdate (i:=7) (j:=0) (k:=av.1) zt hw zr zr zr zr zr v7 fun w hw=>(RL.nt (RC.region (mv b9 zr zr ?_)))
   have hw:=hw.bV aC 61
   have hw:=hw.xL (i:=0) rfl
   refine RL.dY (l:=([rv (.slice none 0 0)]:List RV)) zt zr hw [(.slice none 0 0)] zr zr zr uH Dg (fun M hs g=>⟨(g.sat 0 _ zr).1,zt⟩) fun dw w hw=>?_
   obtain⟨dx,c9,hj⟩:=bd hj
   have hw:=hw.freeze (i:=0) rfl
   refine RL.vK (i:=12) (j:=0) (b:=13) (o:=2) trivial rfl hw rfl rfl rfl rfl rfl rfl (by decide) (by decide) (by decide) Dh c9 fun cr w hw=>(aM cr rfl rfl (RL.nil ?_))
   obtain rfl:=oi hj
   exact⟨rfl,cr,(us945++[rv (.slice none 0 0)]),(ag zr),hw.pk 14 [4,5,10,6,11,12,13] zr⟩
  rintro σ w ⟨au,us956,ha,hw⟩
  obtain⟨τ,rfl⟩:=ha.aO
  refine aG ?_
  obtain⟨dy,b0,hb⟩:=bd hb
  obtain⟨a5,da,hb⟩:=bd hb
  obtain⟨dz,cc,hb⟩:=bd hb
  refine RC.tw (E:=E) (Γ:=Γ) mixed rfl [1,1,1,1,0,0,0,0,0,0,0] [6,7,8,10] (fun(x:Value×Value×Value)=>(fun ar aq ai=>[(0,163,au),(1,164,(vi ad.2.2)),(2,165,au),(3,166,(vi ad.2.2)),(4,167,(elA au (Int.toNat ad.2.2) 1 0)),(5,168,(us956.getD (Int.toNat ad.2.2) vl).v),(6,169,ar),(7,170,aq),(8,171,ai),(9,172,(elA au (Int.toNat ad.2.2) 1 0))]) x.1 x.2.1 x.2.2) [(6,(.func (.func 73) #[] #[(vp ae 0)])),(16,ax),(17,au),(19,(vp bz 0)),(21,(vi ad.2.2)),(137,af),(138,(vi (al.length:Int))),(139,(vi (aw:Int)))] [] (fun(D:Nat→Bool) (x:Value×Value×Value)=>(fun ar aq ai=>[bif D 0 then (rd ar a1) else aK,bif D 2 then (rd aq ([a1]: (List aC))) else (bif D 1 then (own 61 aq ([a1]: (List aC))) else aK),bif D 3 then (aK) else (bif D 2 then (own 61 ai a5) else aK),bc 53 ae [ba],own 3 ba av.2,mp ax ad.1,bx 61 bz a1,own 61 af al,bif D 3 then (own 23 au (us956.set (Int.toNat ad.2.2) (rv ai))) else (own 23 au us956),bif D 3 then (eX (XS 61 aC) (us956.set (Int.toNat ad.2.2) (rv ai)) (ad.2.1.set (Int.toNat ad.2.2) a5) none) else (bif D 2 then (eX (XS 61 aC) us956 ad.2.1 (some (Int.toNat ad.2.2))) else (eX (XS 61 aC) us956 ad.2.1 none))]) x.1 x.2.1 x.2.2) (fun x=>by kernel_rfl) ?_ ⟨fun _=>eA gn rfl,fun _=>eA gn rfl,fun _=>eA gn rfl,fun _=>eA gn rfl,?_,?_,?_,?_,?_,?_,?_,trivial⟩ ?_
  ·have hw:=hw.drew
   have hw:=hw.aK
   have hw:=hw.aK
   have hw:=hw.aK
   exact⟨(undef,undef,undef),doneV.none,(ag zr),zt,hw⟩
  ·rintro D σ w hD hdep hcl ⟨⟨ar,aq,ai⟩,hv,ha,_,hw⟩
   obtain⟨τ,rfl⟩:=(ac (hv.at 2 rfl (hdep.1 rfl)) (ac (hv.at 3 rfl (hdep.2.1 rfl)) az)).aO
   have hw:=hw.aP (i:=8) rfl (nf (fun h=>ft hD ((hcl 10 _ rfl h).2.2.2.2.2.2.2.1 rfl)))
   have hw:=hw.aP (i:=9) rfl (nf (fun h=>ft hD ((hcl 10 _ rfl h).2.2.2.2.2.2.2.1 rfl)))
   have hw:=hw.aP (i:=9) rfl (nf (fun h=>ft hD ((hcl 5 _ rfl ((hcl 8 _ rfl h).1 rfl)).1 rfl)))
   have hl974:=hw.eE (j:=9) rfl
   have hr975:=gp vl hl974 b0
   refine RL.bB (i:=8) zt zr hw zr zr zr uH hr975 ?_
   have hw:=hw.cK (i:=8) (b:=D 10) rfl (nf (fun h=>ft hD ((hcl 10 _ rfl h).2.2.2.2.2.2.2.1 rfl))) (own 23 au (us956.set (Int.toNat ad.2.2) (rv ai)))
   have hw:=hw.cK (i:=9) (b:=D 8) rfl (nf (fun h=>ft hD ((hcl 5 _ rfl ((hcl 8 _ rfl h).1 rfl)).1 rfl))) (eX (XS 61 aC) us956 ad.2.1 (some (Int.toNat ad.2.2)))
   have hw:=hw.cK (i:=9) (b:=D 10) rfl (nf (fun h=>ft hD ((hcl 10 _ rfl h).2.2.2.2.2.2.2.1 rfl))) (eX (XS 61 aC) (us956.set (Int.toNat ad.2.2) (rv ai)) (ad.2.1.set (Int.toNat ad.2.2) a5) none)
   exact RL.nil ⟨rfl,(ar,aq,ai),hv.put 4 zr zr,ha.up zr,zt,hw⟩
  ·rintro D σ w hD hdep hcl ⟨⟨ar,aq,ai⟩,hv,ha,_,hw⟩
   obtain⟨τ,rfl⟩:=(ac (hv.at 4 rfl (hdep.1 rfl)) az).aO
   have hw:=hw.aP (i:=8) rfl (nf (fun h=>ft hD ((hcl 10 _ rfl h).2.2.2.2.2.2.2.2.1 rfl)))
   have hw:=hw.aP (i:=9) rfl (nf (fun h=>ft hD ((hcl 10 _ rfl h).2.2.2.2.2.2.2.2.1 rfl)))
   have hw:=hw.aP (i:=9) rfl (nf (fun h=>ft hD ((hcl 8 _ rfl h).1 rfl)))
   have hl976:=hw.eE (j:=9) rfl
   have hr977:=gp vl hl976 b0
   refine RL.qm (i:=8) (b:=9) (jj:=ad.2.2) (tR 61 aC) vl zt zr hw zr (gS hw (i:=8) zr hr977 0) zr zr b0 qw ?_
   have hw:=hw.cK (i:=8) (b:=D 10) rfl (nf (fun h=>ft hD ((hcl 10 _ rfl h).2.2.2.2.2.2.2.2.1 rfl))) (own 23 au (us956.set (Int.toNat ad.2.2) (rv ai)))
   have hw:=hw.cK (i:=9) (b:=D 8) rfl (nf (fun h=>ft hD ((hcl 8 _ rfl h).1 rfl))) (eX (XS 61 aC) us956 ad.2.1 (some (Int.toNat ad.2.2)))
   have hw:=hw.cK (i:=9) (b:=D 10) rfl (nf (fun h=>ft hD ((hcl 10 _ rfl h).2.2.2.2.2.2.2.2.1 rfl))) (eX (XS 61 aC) (us956.set (Int.toNat ad.2.2) (rv ai)) (ad.2.1.set (Int.toNat ad.2.2) a5) none)
   exact RL.nil ⟨rfl,(ar,aq,ai),hv.put 5 zr zr,ha.up zr,zt,hw⟩
  ·rintro D σ w hD hdep hcl ⟨⟨ar,aq,ai⟩,hv,ha,_,hw⟩
   obtain⟨τ,rfl⟩:=(ac (ha.at 3 rfl) az).aO
   have hw:=hw.aP (i:=0) rfl hD
   refine RL.aY (i:=6) (f:=(fun x=>x)) zt zr hw zr zr Fd.self eM fun db hw=>?_
   have hw:=hw.pl 11 [0,2,3,4,5,6,7,8,9,10] rfl
   have hw:=hw.aS (i:=0) (b:=true) rfl rfl (aK)
   exact RL.nil ⟨rfl,(db,aq,ai),hv.put 6 zr zr,ha.up zr,zt,hw⟩
  ·rintro D σ w hD hdep hcl ⟨⟨ar,aq,ai⟩,hv,ha,_,hw⟩
   obtain⟨τ,rfl⟩:=(ac (hv.at 6 rfl (hdep.1 rfl)) az).aO
   have hw:=hw.aR (i:=0) rfl (hdep.1 rfl)
   have hw:=hw.aP (i:=1) rfl (nf (fun h=>ft hD ((hcl 8 _ rfl h).2.1 rfl)))
   have hw:=hw.aP (i:=1) rfl hD
   refine RL.dY (l:=([a1]: (List aC))) zt zr hw [ar] zr zr zr iE kP (fun M hs g=>⟨(g.sat 0 _ zr).1,zt⟩) fun ct w hw=>?_
   have hw:=hw.pl 11 [1,0,3,4,5,6,7,8,9,10] rfl
   have hw:=hw.aS (i:=0) (b:=D 6) rfl (hdep.1 rfl) (aK)
   have hw:=hw.aS (i:=1) (b:=true) rfl rfl (aK)
   have hw:=hw.cK (i:=1) (b:=D 8) rfl (nf (fun h=>ft hD ((hcl 8 _ rfl h).2.1 rfl))) (rd ct ([a1]: (List aC)))
   exact RL.nil ⟨rfl,(ar,ct,ai),hv.put 7 zr zr,ha.up zr,zt,hw⟩
  ·rintro D σ w hD hdep hcl ⟨⟨ar,aq,ai⟩,hv,ha,_,hw⟩
   obtain⟨τ,rfl⟩:=(ac (hv.at 5 rfl (hdep.1 rfl)) (ac (hv.at 7 rfl (hdep.2.1 rfl)) az)).aO
   have hw:=hw.aP (i:=1) rfl hD
   have hw:=hw.aR (i:=1) rfl (hdep.2.1 rfl)
   have hw:=hw.aP (i:=2) rfl (nf (fun h=>ft hD ((hcl 10 _ rfl h).2.1 rfl)))
   have hw:=hw.aP (i:=2) rfl hD
   have hw:=hw.aP (i:=8) rfl (nf (fun h=>ft hD ((hcl 10 _ rfl h).2.1 rfl)))
   have hw:=hw.aP (i:=9) rfl (nf (fun h=>ft hD ((hcl 10 _ rfl h).2.1 rfl)))
   have hw:=hw.aP (i:=9) rfl hD
   have hw:=hw.uv (j:=9) (jj:=ad.2.2) (tR 61 aC) vl rfl b0
   have hw:=hw.freeze (i:=2) rfl
   refine RL.app (i:=0) (j:=2) zt zr hw zr zr zr zr xe da fun cd w hw=>?_
   have hw:=hw.pl 11 [1,2,0,4,5,6,7,8,9,10] rfl
   have hw:=hw.aS (i:=1) (b:=true) rfl rfl (bif D 7 then (own 61 aq ([a1]: (List aC))) else aK)
   have hw:=hw.aS (i:=2) (b:=true) rfl rfl (aK)
   have hw:=hw.cK (i:=2) (b:=D 10) rfl (nf (fun h=>ft hD ((hcl 10 _ rfl h).2.1 rfl))) (aK)
   have hw:=hw.cK (i:=8) (b:=D 10) rfl (nf (fun h=>ft hD ((hcl 10 _ rfl h).2.1 rfl))) (own 23 au (us956.set (Int.toNat ad.2.2) (rv cd)))
   have hw:=hw.aS (i:=9) (b:=true) rfl rfl (eX (XS 61 aC) us956 ad.2.1 none)
   have hw:=hw.cK (i:=9) (b:=D 10) rfl (nf (fun h=>ft hD ((hcl 10 _ rfl h).2.1 rfl))) (eX (XS 61 aC) (us956.set (Int.toNat ad.2.2) (rv cd)) (ad.2.1.set (Int.toNat ad.2.2) a5) none)
   exact RL.nil ⟨rfl,(ar,aq,cd),hv.put 8 zr zr,ha.up zr,zt,hw⟩
  ·rintro D σ w hD hdep hcl ⟨⟨ar,aq,ai⟩,hv,ha,_,hw⟩
   obtain⟨τ,rfl⟩:=(ac (hv.at 0 rfl (hdep.1 rfl)) (ac (hv.at 1 rfl (hdep.2.1 rfl)) az)).aO
   have hw:=hw.aP (i:=8) rfl (nf (fun h=>ft hD ((hcl 10 _ rfl h).1 rfl)))
   have hw:=hw.aP (i:=9) rfl (nf (fun h=>ft hD ((hcl 10 _ rfl h).1 rfl)))
   have hw:=hw.aR (i:=9) rfl (hdep.2.2.2.2.2.2.2.2.2.2.1 rfl)
   have hl981:=hw.eE (j:=9) rfl
   have hr982:=gp vl hl981 cc
   refine RL.bB (i:=8) zt zr hw zr zr zr uH hr982 ?_
   have hw:=hw.cK (i:=8) (b:=D 10) rfl (nf (fun h=>ft hD ((hcl 10 _ rfl h).1 rfl))) (own 23 au (us956.set (Int.toNat ad.2.2) (rv ai)))
   have hw:=hw.aS (i:=9) (b:=D 8) rfl (hdep.2.2.2.2.2.2.2.2.2.2.1 rfl) (eX (XS 61 aC) us956 ad.2.1 none)
   have hw:=hw.cK (i:=9) (b:=D 10) rfl (nf (fun h=>ft hD ((hcl 10 _ rfl h).1 rfl))) (eX (XS 61 aC) (us956.set (Int.toNat ad.2.2) (rv ai)) (ad.2.1.set (Int.toNat ad.2.2) a5) none)
   exact RL.nil ⟨rfl,(ar,aq,ai),hv.put 9 zr zr,ha.up zr,zt,hw⟩
  ·rintro D σ w hD hdep hcl ⟨⟨ar,aq,ai⟩,hv,ha,_,hw⟩
   obtain⟨τ,rfl⟩:=(ac (hv.at 8 rfl (hdep.2.1 rfl)) (ac (hv.at 9 rfl (hdep.1 rfl)) az)).aO
   have hw:=hw.aP (i:=2) rfl hD
   have hw:=hw.aR (i:=2) rfl (hdep.2.1 rfl)
   have hw:=hw.aP (i:=8) rfl hD
   have hw:=hw.aP (i:=9) rfl hD
   have hw:=hw.aR (i:=9) rfl (hdep.2.1 rfl)
   have hl983:=hw.eE (j:=9) rfl
   have hr984:=gp vl hl983 cc
   refine RL.oA (i:=8) (b:=9) (o:=2) (jj:=ad.2.2) (tR 61 aC) vl trivial hw rfl rfl (gS hw (i:=8) rfl hr984 0) rfl rfl (.inr rfl) rfl cc (by decide) (by decide) (by decide) qw fun w hw=>?_
   have hw:=hw.aS (i:=2) (b:=true) rfl rfl (bif D 8 then (own 61 ai a5) else aK)
   have hw:=hw.aS (i:=8) (b:=true) rfl rfl (own 23 au us956)
   have hw:=hw.aS (i:=9) (b:=true) rfl rfl (bif D 8 then (eX (XS 61 aC) us956 ad.2.1 (some (Int.toNat ad.2.2))) else (eX (XS 61 aC) us956 ad.2.1 none))
   exact RL.nil ⟨rfl,(ar,aq,ai),hv.no zr,ha,zt,hw⟩
  rintro D σ w hall ⟨⟨ar,aq,ai⟩,hv,ha,_,hw⟩
  have hw:=hw.aR (i:=0) rfl (hall 6 (by decide))
  have hw:=hw.aR (i:=1) rfl (hall 8 (by decide))
  have hw:=hw.aR (i:=2) rfl (hall 10 (by decide))
  have hw:=hw.aR (i:=8) rfl (hall 10 (by decide))
  have hw:=hw.aR (i:=9) rfl (hall 10 (by decide))
  obtain⟨τ,rfl⟩:=(ac (ha.at 0 rfl) (ac (ha.at 1 rfl) (ac (ha.at 2 rfl) (ac (ha.at 3 rfl) (ac (ha.at 4 rfl) (ac (ha.at 5 rfl) (ac (ha.at 6 rfl) (ac (ha.at 7 rfl) az)))))))).aO
  refine bJ (aG (RC.region (RL.inc zt zr hk hm zr zr (mv (vi ((aw+1:Nat):Int)) zr zr (RL.nil ?_)))))
  obtain rfl:=oi hb
  exact⟨rfl,ba,au,(us956.set (Int.toNat ad.2.2) (rv ai)),(ag zr),hw.pk 10 [3,4,5,7,8,9] zr⟩
 intro σ w hJ
 obtain⟨b8,a4,us942,ha,hw⟩:=hJ
 obtain⟨τ,rfl⟩:=ha.aO
 refine aG (RC.sr (aM (.slice none 0 0) zr zr (RL.nq (RC.sr (mv a4 zr zr (RL.mM (i:=4) (b:=5) (xs:=ah.2.2) zt zr hw zr zr zr tB (mv (vi 0) zr zr (RL.nt ?_))))))))
 have hw:=hw.uw (X:=(XS 61 aC)) (b:=5) (j:=4) rfl (fun M h u x cs=>(BF 61) M h u x cs) rfl rfl (by decide)
 obtain⟨a8,hN,hb⟩:=bd hb
 refine RC.fold (fun(b1:Nat) (a8: (List (List aA))) (σ:Nat→Value) (w:World)=>∃cu:Value,agree σ [(23,cu),(174,a4),(175,(vi (ah.2.2.length:Int))),(176,(vi (b1:Int)))]∧Holds E w ([own 23 a4 ah.2.2,own 58 cu a8]++Γ)) (fun(a8: (List (List aA))) (σ:Nat→Value) (w:World)=>∃bb:Value,agree σ [(23,bb)]∧Holds E w ([own 23 a4 ah.2.2,own 58 bb a8]++Γ)) hN ?_ ?_ ?_ ?_
 ·have hw:=hw.bV (List aA) 58
  exact⟨(.slice none 0 0),(ag zr),hw.pk 7 [5,0] zr⟩
 ·intro hm a8 σ w hI
  obtain⟨dc,ha,hw⟩:=hI
  obtain⟨τ,rfl⟩:=ha.aO
  refine RC.sr (ic ((ah.2.2.length:Int)) ((ah.2.2.length:Int)) zr zr zr zr (RL.nq (RC.cH lZ (RC.ex ?_))))
  exact⟨rfl,dc,⟨rfl,zt⟩,hw.pk 2 [0,1] zr⟩
 ·intro hm b1 a8 s' σ w hk hI hb
  obtain⟨dd,ha,hw⟩:=hI
  obtain⟨τ,rfl⟩:=ha.aO
  refine RC.sr (ic ((b1:Int)) ((ah.2.2.length:Int)) zr zr zr zr (RL.nq (RC.cG (lY hk) (RC.ss (RC.bs ?_)))))
  obtain⟨d0,cf,hb⟩:=bd hb
  refine RL.bB (i:=0) zt zr hw zr zr zr uH cf (RL.gl (i:=0) (f:=(fun x=>x)) zt zr hw zr (gS hw (i:=0) zr cf 0) zr (aQ cf).2.1 Fd.self qw fun ch hw=>(aM ch zr zr (RL.nt (RC.region (mv dd zr zr (mv ch zr zr ?_))))))
  obtain⟨de,df,hb⟩:=bd hb
  refine RL.call zt zr yy [ch] zr (aF (ga N (i0:=0) hw zr df) ?_)
  rintro dg w hw
  have hw:=hw.freeze (i:=0) rfl
  refine RL.dY (l:=([de]: (List (List aA)))) zt zr hw [dg] zr zr zr yD Cd (fun M hs g=>⟨(g.sat 0 _ zr).1,zt⟩) fun d3 w hw=>?_
  have hw:=hw.freeze (i:=0) rfl
  obtain⟨d4,dh,hb⟩:=bd hb
  refine RL.app (i:=4) (j:=0) zt zr hw zr zr zr zr Df dh fun cw w hw=>(aM cw zr zr (RL.nil (bJ (aG (RC.region (RL.inc zt zr hk hm zr zr (mv (vi ((b1+1:Nat):Int)) zr zr (RL.nil ?_))))))))
  obtain rfl:=oi hb
  exact⟨rfl,cw,(ag zr),hw.pk 5 [3,4] zr⟩
 intro σ w hJ
 obtain⟨bb,ha,hw⟩:=hJ
 obtain⟨τ,rfl⟩:=ha.aO
 refine aG (RC.sr (mv bb zr zr (aM bb zr zr (RL.nt (RC.ret ?_)))))
 obtain rfl:=oi hb
 exact bQ zr zr (hw.pk 2 [1] zr)
def m7 (E:World) (Γ:List HP) (b0:Nat) (v0_0:Value) (v0_1:Value) (v0_2:Value) (v0_3:Value) (v0_6:Value) (v0_7:Value) (v0_8:Value) (v0_9:Value) (v0_10:Value) (v0_11:Value) (res:Bool×(List (List aA))×(List aD)) (v:Value) (w:World):Prop:=∃u0_4 u0_5:Value,v= (vb res.1)∧Holds E w ([bc 56 b0 [v0_0,v0_1,v0_2,v0_3,u0_4,u0_5,v0_6,v0_7,v0_8,v0_9,v0_10,v0_11],own 58 u0_4 res.2.1,own 67 u0_5 res.2.2]++Γ)
theorem mD (N:Nat) {E w:World} {Γ:List HP} {b0:Nat} {v0_0:Value} {p0_0: (List (List aC))} {v0_1:Value} {v0_2:Value} {p0_2: (List bD)} {v0_3:Value} {v0_4:Value} {p0_4: (List (List aA))} {v0_5:Value} {p0_5: (List aD)} {v0_6:Value} {v0_7:Value} {v0_8:Value} {v0_9:Value} {v0_10:Value} {v0_11:Value} {res:Bool×(List (List aA))×(List aD)} (hw:Holds E w (bc 56 b0 [v0_0,v0_1,v0_2,v0_3,v0_4,v0_5,v0_6,v0_7,v0_8,v0_9,v0_10,v0_11]::rd v0_0 p0_0::rd v0_2 p0_2::own 58 v0_4 p0_4::own 67 v0_5 p0_5::Γ)) (hb:fe N p0_0 p0_2 p0_4 p0_5=some res):
    Calls Tryz.prog 25 [(vp b0 0)].toArray w (fw (m7 E Γ b0 v0_0 v0_1 v0_2 v0_3 v0_6 v0_7 v0_8 v0_9 v0_10 v0_11 res)):=by
 unfold fe at hb
 refine enter Tryz.func25 zr zr (Nat.le_of_ble_eq_true zr) (RC.sr (aM (vb false) zr zr (RL.ns (aM (vb true) zr zr (RL.nq (RC.sr (mv (vp b0 0) zr zr (RL.nilCheck zt zr zr ?_))))))))
 refine RL.bF zt zr zr mS (RL.bF zt zr zr qu (RL.bE (i:=0) (v:=v0_0) zt zr hw zr zr zr yw (RL.bG (i:=1) (l:=p0_0) zt zr hw zr zr tB (mv (vi 0) zr zr (RL.nt ?_)))))
 obtain⟨o,hN,hb⟩:=bd hb
 refine RC.fold (fun(aa:Nat) (o: (List (List aA))×(List aD)×Bool) (σ:Nat→Value) (w:World)=>∃bk bl:Value,agree σ [(0,(vp b0 0)),(3,(vb o.2.2)),(16,v0_0),(17,(vi (p0_0.length:Int))),(18,(vi (aa:Int)))]∧Holds E w ([bc 56 b0 [v0_0,v0_1,v0_2,v0_3,bk,bl,v0_6,v0_7,v0_8,v0_9,v0_10,v0_11],own 58 bk o.1,own 67 bl o.2.1,rd v0_0 p0_0,rd v0_2 p0_2]++Γ)) (fun(o: (List (List aA))×(List aD)×Bool) (σ:Nat→Value) (w:World)=>∃a1 aw:Value,agree σ [(0,(vp b0 0)),(3,(vb o.2.2))]∧Holds E w ([bc 56 b0 [v0_0,v0_1,v0_2,v0_3,a1,aw,v0_6,v0_7,v0_8,v0_9,v0_10,v0_11],own 58 a1 o.1,own 67 aw o.2.1,rd v0_0 p0_0,rd v0_2 p0_2]++Γ)) hN ?_ ?_ ?_ ?_
 ·exact⟨v0_4,v0_5,(ag zr),hw.pk 5 [0,3,4,1,2] zr⟩
 ·intro hm o σ w hI
  obtain⟨bu,bw,ha,hw⟩:=hI
  obtain⟨τ,rfl⟩:=ha.aO
  refine RC.sr (ic ((p0_0.length:Int)) ((p0_0.length:Int)) zr zr zr zr (RL.nq (RC.cH lZ (RC.ex ?_))))
  exact⟨rfl,bu,bw,(ag zr),hw.pk 5 [0,1,2,3,4] zr⟩
 ·intro hm aa o s' σ w hk hI hb
  obtain⟨ak,al,ha,hw⟩:=hI
  obtain⟨τ,rfl⟩:=ha.aO
  refine RC.sr (ic ((aa:Int)) ((p0_0.length:Int)) zr zr zr zr (RL.nq (RC.cG (lY hk) (RC.ss (RC.bs (mv (vi (aa:Int)) zr zr ?_))))))
  obtain⟨a8,bx,hb⟩:=bd hb
  refine RL.bO (i:=3) zt zr hw zr zr zr uH bx fun ct hw=>(RL.bP (i:=0) (x:=a8) zt zr hw zr zr qw fun an hw=>(aM (vi (aa:Int)) zr zr (aM an zr zr (RL.ns (aM (.slice none 0 0) zr zr (RL.nq (RC.sr (mv (vp b0 0) zr zr ?_))))))))
  refine RL.nilCheck zt zr zr (RL.bF zt zr zr mS (RL.bF zt zr zr ll (RL.bE (i:=2) (v:=v0_2) zt zr hw zr zr zr tC (RL.bG (i:=6) (l:=p0_2) zt zr hw zr zr uJ (mv (vi 0) zr zr (RL.nt ?_))))))
  obtain⟨a2,hN,hb⟩:=bd hb
  refine RC.fold (fun(a3:Nat) (a2: (List aC)) (σ:Nat→Value) (w:World)=>∃bm:Value,agree σ [(0,(vp b0 0)),(3,(vb o.2.2)),(4,(vi (aa:Int))),(5,an),(6,bm),(16,v0_0),(17,(vi (p0_0.length:Int))),(18,(vi (aa:Int))),(27,v0_2),(28,(vi (p0_2.length:Int))),(29,(vi (a3:Int)))]∧Holds E w ([bc 56 b0 [v0_0,v0_1,v0_2,v0_3,ak,al,v0_6,v0_7,v0_8,v0_9,v0_10,v0_11],rd v0_0 p0_0,rd v0_2 p0_2,own 58 ak o.1,own 67 al o.2.1,rd an a8,own 61 bm a2]++Γ)) (fun(a2: (List aC)) (σ:Nat→Value) (w:World)=>∃a4:Value,agree σ [(0,(vp b0 0)),(3,(vb o.2.2)),(4,(vi (aa:Int))),(5,an),(6,a4),(16,v0_0),(17,(vi (p0_0.length:Int))),(18,(vi (aa:Int)))]∧Holds E w ([bc 56 b0 [v0_0,v0_1,v0_2,v0_3,ak,al,v0_6,v0_7,v0_8,v0_9,v0_10,v0_11],rd v0_0 p0_0,rd v0_2 p0_2,own 58 ak o.1,own 67 al o.2.1,rd an a8,own 61 a4 a2]++Γ)) hN ?_ ?_ ?_ ?_
  ·have hw:=hw.bV aC 61
   exact⟨(.slice none 0 0),(ag zr),hw.pk 8 [3,6,7,4,5,1,0] zr⟩
  ·intro hm a2 σ w hI
   obtain⟨bz,ha,hw⟩:=hI
   obtain⟨τ,rfl⟩:=ha.aO
   refine RC.sr (ic ((p0_2.length:Int)) ((p0_2.length:Int)) zr zr zr zr (RL.nq (RC.cH lZ (RC.ex ?_))))
   exact⟨rfl,bz,(ag zr),hw.pk 7 [0,1,2,3,4,5,6] zr⟩
  ·intro hm a3 a2 s' σ w hk hI hb
   obtain⟨bn,ha,hw⟩:=hI
   obtain⟨τ,rfl⟩:=ha.aO
   refine RC.sr (ic ((a3:Int)) ((p0_2.length:Int)) zr zr zr zr (RL.nq (RC.cG (lY hk) (RC.ss (RC.bs ?_)))))
   obtain⟨b1,b2,hb⟩:=bd hb
   refine RL.bO (i:=2) zt zr hw zr zr zr vY b2 fun cu hw=>(RL.bP (i:=0) (x:=b1) zt zr hw zr zr kr fun cv hw=>(RL.alloc zt zr hw yA.z fun cw w hw=>(RL.bC (i:=0) (j:=1) zt hw zr zr zr zr kr zr fun w hw=>(RL.ns (RL.aY (i:=0) (f:=(fun x=>x)) zt zr hw zr zr Fd.self kr fun b3 hw=>(mv (vi (aa:Int)) zr zr ?_))))))
   obtain⟨cx,b4,hb⟩:=bd hb
   refine RL.call zt zr Bi [b3,(vi (aa:Int))] zr (aF (gU N (p1:=(aa:Int)) (i0:=0) hw zr b4) ?_)
   rintro _ w ⟨rfl,hw⟩
   refine RL.nt ?_
   obtain⟨bb,hj,hb⟩:=bd hb
   refine RC.jn (fun(bb: (List aC)) (σ:Nat→Value) (w:World)=>∃a9:Value,agree σ [(0,(vp b0 0)),(3,(vb o.2.2)),(4,(vi (aa:Int))),(5,an),(6,a9),(16,v0_0),(17,(vi (p0_0.length:Int))),(18,(vi (aa:Int))),(27,v0_2),(28,(vi (p0_2.length:Int))),(29,(vi (a3:Int)))]∧Holds E w ([bc 56 b0 [v0_0,v0_1,v0_2,v0_3,ak,al,v0_6,v0_7,v0_8,v0_9,v0_10,v0_11],rd v0_0 p0_0,rd v0_2 p0_2,own 58 ak o.1,own 67 al o.2.1,rd an a8,own 61 a9 bb]++Γ)) bb ?_ ?_
   ·refine eI hj zr (fun hc hj=>?_) fun hc hj=>?_
    rotate_left
    ·refine RC.skip ?_
     obtain rfl:=oi hj
     exact⟨rfl,bn,(ag zr),hw.pk 11 [4,5,6,7,8,9,10] zr⟩
    refine RC.region (mv bn zr zr (RL.aY (i:=1) (f:=(fun x=>x)) zt zr hw zr zr Fd.self kr fun b5 hw=>?_))
    obtain⟨b6,b7,hj⟩:=bd hj
    refine RL.call zt zr yC [b5] zr (aF (eD N (i0:=0) hw zr b7) ?_)
    rintro b8 w hw
    refine RL.dY (l:=([b6]: (List aC))) zt zr hw [b8] zr zr zr iE kP (fun M hs g=>⟨(g.sat 0 _ zr).1,zt⟩) fun cy w hw=>?_
    have hw:=hw.freeze (i:=0) rfl
    obtain⟨cz,b9,hj⟩:=bd hj
    refine RL.app (i:=13) (j:=0) zt zr hw zr zr zr zr xe b9 fun bo w hw=>(aM bo zr zr (RL.nil ?_))
    obtain rfl:=oi hj
    exact⟨rfl,bo,(ag zr),hw.pk 14 [7,8,9,10,11,12,13] zr⟩
   rintro σ w ⟨a9,ha,hw⟩
   obtain⟨τ,rfl⟩:=ha.aO
   refine bJ (aG (RC.region (RL.inc zt zr hk hm zr zr (mv (vi ((a3+1:Nat):Int)) zr zr (RL.nil ?_)))))
   obtain rfl:=oi hb
   exact⟨rfl,a9,(ag zr),hw.pk 7 [0,1,2,3,4,5,6] zr⟩
  intro σ w hJ
  obtain⟨a4,ha,hw⟩:=hJ
  obtain⟨τ,rfl⟩:=ha.aO
  refine aG (RC.sr (mv an zr zr ?_))
  obtain⟨c0,ca,hb⟩:=bd hb
  refine RL.call zt zr yy [an] zr (aF (ga N (i0:=5) hw zr ca) ?_)
  rintro cc w hw
  refine mv a4 zr zr ?_
  have hw:=hw.freeze (i:=7) rfl
  obtain⟨c1,cd,hb⟩:=bd hb
  refine RL.call zt zr yy [a4] zr (aF (ga N (i0:=7) hw zr cd) ?_)
  rintro cf w hw
  have hw:=hw.freeze (i:=1) rfl
  have hw:=hw.freeze (i:=0) rfl
  obtain⟨c2,ch,hb⟩:=bd hb
  refine RL.call zt zr EE [cc,cf] zr (aF (pG N (i0:=1) (i1:=0) hw zr zr ch) ?_)
  rintro a5 w hw
  refine aM a5 zr zr (RL.nq ?_)
  obtain⟨au,hj,hb⟩:=bd hb
  refine RC.jn (fun(au:Bool×(List aA)) (σ:Nat→Value) (w:World)=>∃ax:Value,agree σ [(0,(vp b0 0)),(3,(vb au.1)),(4,(vi (aa:Int))),(9,ax),(16,v0_0),(17,(vi (p0_0.length:Int))),(18,(vi (aa:Int)))]∧Holds E w ([bc 56 b0 [v0_0,v0_1,v0_2,v0_3,ak,al,v0_6,v0_7,v0_8,v0_9,v0_10,v0_11],rd v0_0 p0_0,rd v0_2 p0_2,own 58 ak o.1,own 67 al o.2.1,rd ax au.2]++Γ)) au ?_ ?_
  ·refine RC.region (mv (vb o.2.2) zr zr (mv (vb o.2.2) zr zr (fH hj (fun ao hj=>?_) fun ao hj=>?_)))
   rotate_left
   ·refine sk rfl (.inl (cb ao)) rfl (sk rfl (.inl (cb ao)) rfl (sk rfl (.inl (cb ao)) rfl (RL.pick (b:=o.2.2) (v:=(vb false)) trivial rfl rfl (by rw [ao];rfl) (aM (vb false) rfl rfl (RL.nil ?_)))))
    obtain rfl:=oi hj
    have hw:=hw.freeze (i:=0) rfl
    exact⟨rfl,a5,(ag zr),hw.pk 10 [3,4,5,6,7,0] zr⟩
   refine RL.move (v:=a5) (cg ao) zr zr ?_
   have hw:=hw.freeze (i:=0) rfl
   obtain⟨bf,cj,hj⟩:=bd hj
   refine RL.call (cg ao) zr De [a5] zr (aF (kX N (i0:=0) hw zr cj) ?_)
   rintro _ w ⟨rfl,hw⟩
   refine RL.iO (a:=bf) (b:=2000) (cg ao) rfl rfl rfl rfl (RL.pick (b:=o.2.2) (v:=(vb (decide (bf≤2000)))) trivial rfl rfl (by rw [ao];rfl) (aM (vb (decide (bf≤2000))) rfl rfl (RL.nil ?_)))
   obtain rfl:=oi hj
   exact⟨rfl,a5,(ag zr),hw.pk 10 [3,4,5,6,7,0] zr⟩
  rintro σ w ⟨ax,ha,hw⟩
  obtain⟨τ,rfl⟩:=ha.aO
  refine aG (RC.sr (mv (vp b0 0) zr zr (mv (vp b0 0) zr zr (RL.nilCheck zt zr zr (RL.bF zt zr zr xh (RL.bE (i:=0) (v:=ak) zt zr hw zr zr zr Cf (mv ax zr zr (RL.dY (l:=([au.2]: (List (List aA)))) zt zr hw [ax] zr zr zr yD Cd (fun M hs g=>⟨(g.sat 5 _ zr).1,zt⟩) fun c3 w hw=>?_))))))))
  have hw:=hw.freeze (i:=0) rfl
  obtain⟨bg,ck,hb⟩:=bd hb
  refine RL.app (i:=4) (j:=0) zt zr hw zr zr zr zr Df ck fun ai w hw=>(RL.nilCheck zt zr zr (RL.bF zt zr zr xh (RL.fU (i:=1) (v:=ai) zt hw zr zr zr zr (gm hw (i:=4) zr) Cf fun w hw=>(RL.ns (mv ax zr zr ?_)))))
  obtain⟨aq,cl,hb⟩:=bd hb
  refine RL.call zt zr EF [ax] zr (aF (oK N (i0:=6) hw zr cl) ?_)
  rintro a6 w hw
  refine RL.dC (i:=0) (l:=aq) zt zr hw zr zr Ce (mv (vi 0) zr zr (RL.nt ?_))
  obtain⟨ar,hN,hb⟩:=bd hb
  refine RC.fold (fun(a7:Nat) (ar: (List aD)) (σ:Nat→Value) (w:World)=>∃bp:Value,agree σ [(0,(vp b0 0)),(3,(vb au.1)),(4,(vi (aa:Int))),(16,v0_0),(17,(vi (p0_0.length:Int))),(18,(vi (aa:Int))),(64,a6),(65,(vi (aq.length:Int))),(66,(vi (a7:Int)))]∧Holds E w ([bc 56 b0 [v0_0,v0_1,v0_2,v0_3,ai,bp,v0_6,v0_7,v0_8,v0_9,v0_10,v0_11],own 67 bp ar,rd v0_0 p0_0,rd v0_2 p0_2,own 58 ai bg,own 58 a6 aq]++Γ)) (fun(ar: (List aD)) (σ:Nat→Value) (w:World)=>∃ba:Value,agree σ [(0,(vp b0 0)),(3,(vb au.1)),(16,v0_0),(17,(vi (p0_0.length:Int))),(18,(vi (aa:Int)))]∧Holds E w ([bc 56 b0 [v0_0,v0_1,v0_2,v0_3,ai,ba,v0_6,v0_7,v0_8,v0_9,v0_10,v0_11],own 67 ba ar,rd v0_0 p0_0,rd v0_2 p0_2,own 58 ai bg,own 58 a6 aq]++Γ)) hN ?_ ?_ ?_ ?_
  ·exact⟨al,(ag zr),hw.pk 8 [2,6,3,4,5,0] zr⟩
  ·intro hm ar σ w hI
   obtain⟨cm,ha,hw⟩:=hI
   obtain⟨τ,rfl⟩:=ha.aO
   refine RC.sr (ic ((aq.length:Int)) ((aq.length:Int)) zr zr zr zr (RL.nq (RC.cH lZ (RC.ex ?_))))
   exact⟨rfl,cm,(ag zr),hw.pk 6 [0,1,2,3,4,5] zr⟩
  ·intro hm a7 ar s' σ w hk hI hb
   obtain⟨ay,ha,hw⟩:=hI
   obtain⟨τ,rfl⟩:=ha.aO
   refine RC.sr (ic ((a7:Int)) ((aq.length:Int)) zr zr zr zr (RL.nq (RC.cG (lY hk) (RC.ss (RC.bs ?_)))))
   obtain⟨av,bh,hb⟩:=bd hb
   refine RL.bB (i:=5) zt zr hw zr zr zr yD bh (RL.gl (i:=5) (f:=(fun x=>x)) zt zr hw zr (gS hw (i:=5) zr bh 0) zr (aQ bh).2.1 Fd.self Bj fun a0 hw=>(aM a0 zr zr (RL.nt ?_)))
   obtain⟨aj,cn,hb⟩:=bd hb
   obtain⟨cp,cq,hb⟩:=bd hb
   refine RC.tw (E:=E) (Γ:=Γ) mixed rfl [1,1,1,1,0,1,1,1,0,0,0,0,1,1,0] [8,9,10,11,14] (fun(x:Value×Value×Value×Value)=>(fun ad af ae ab=>[(0,70,(vp b0 0)),(1,71,(vp b0 0)),(2,72,(vp b0 0)),(3,73,(vp b0 5)),(4,74,ay),(5,75,(vi (aa:Int))),(6,76,a0),(7,77,a0),(8,78,ad),(9,79,af),(10,80,ae),(11,81,ab),(12,82,(vp b0 0)),(13,83,(vp b0 5))]) x.1 x.2.1 x.2.2.1 x.2.2.2) [(0,(vp b0 0)),(3,(vb au.1)),(4,(vi (aa:Int))),(11,a0),(16,v0_0),(17,(vi (p0_0.length:Int))),(18,(vi (aa:Int))),(64,a6),(65,(vi (aq.length:Int))),(66,(vi (a7:Int)))] [] (fun(D:Nat→Bool) (x:Value×Value×Value×Value)=>(fun ad af ae ab=>[bif D 1 then (rd ad aj) else (bif D 0 then (own 61 ad aj) else aK),bif D 1 then (rd af (⟨(aa:Int),av,aj⟩:aD)) else aK,bif D 3 then (rd ae ([(⟨(aa:Int),av,aj⟩:aD)]: (List aD))) else (bif D 2 then (own 67 ae ([(⟨(aa:Int),av,aj⟩:aD)]: (List aD))) else aK),rd a0 av,bif D 4 then (bc 56 b0 [v0_0,v0_1,v0_2,v0_3,ai,ab,v0_6,v0_7,v0_8,v0_9,v0_10,v0_11]) else (bc 56 b0 [v0_0,v0_1,v0_2,v0_3,ai,ay,v0_6,v0_7,v0_8,v0_9,v0_10,v0_11]),bif D 3 then (own 67 ab cp) else (own 67 ay ar),rd v0_0 p0_0,rd v0_2 p0_2,own 58 ai bg,own 58 a6 aq]) x.1 x.2.1 x.2.2.1 x.2.2.2) (fun x=>by kernel_rfl) ?_ ⟨fun _=>eA gn rfl,fun _=>eA gn rfl,fun _=>qp gn rfl,fun _=>fN gn l9 rfl,?_,fun _=>eA gn rfl,fun _=>eA gn rfl,fun _=>eA gn rfl,?_,?_,?_,?_,fun _=>qp gn rfl,fun _=>fN gn l9 rfl,?_,trivial⟩ ?_
   ·have hw:=hw.drew
    have hw:=hw.aK
    have hw:=hw.aK
    have hw:=hw.aK
    exact⟨(undef,undef,undef,undef),doneV.none,(ag zr),zt,hw⟩
   ·rintro D σ w hD hdep hcl ⟨⟨ad,af,ae,ab⟩,hv,ha,_,hw⟩
    obtain⟨τ,rfl⟩:=(ac (hv.at 3 rfl (hdep.1 rfl)) az).aO
    have hw:=hw.aP (i:=4) rfl (nf (fun h=>ft hD ((hcl 14 _ rfl h).2.2.2.2.2.2.2.1 rfl)))
    refine RL.bE (i:=4) (v:=ay) zt zr hw zr zr zr uO ?_
    have hw:=hw.cK (i:=4) (b:=D 14) rfl (nf (fun h=>ft hD ((hcl 14 _ rfl h).2.2.2.2.2.2.2.1 rfl))) (bc 56 b0 [v0_0,v0_1,v0_2,v0_3,ai,ab,v0_6,v0_7,v0_8,v0_9,v0_10,v0_11])
    exact RL.nil ⟨rfl,(ad,af,ae,ab),hv.put 4 zr zr,ha.up zr,zt,hw⟩
   ·rintro D σ w hD hdep hcl ⟨⟨ad,af,ae,ab⟩,hv,ha,_,hw⟩
    obtain⟨τ,rfl⟩:=(ac (hv.at 7 rfl (hdep.1 rfl)) az).aO
    have hw:=hw.aP (i:=0) rfl (nf (fun h=>ft hD ((hcl 9 _ rfl h).2.2.1 rfl)))
    have hw:=hw.aP (i:=0) rfl hD
    refine RL.call zt zr zT [a0] zr (aF (fo N (i0:=3) hw zr cn) ?_)
    rintro bq w hw
    have hw:=hw.pl 11 [0,2,3,4,5,6,7,8,9,10] rfl
    have hw:=hw.aS (i:=0) (b:=true) rfl rfl (aK)
    have hw:=hw.cK (i:=0) (b:=D 9) rfl (nf (fun h=>ft hD ((hcl 9 _ rfl h).2.2.1 rfl))) (rd bq aj)
    exact RL.nil ⟨rfl,(bq,af,ae,ab),hv.put 8 zr zr,ha.up zr,zt,hw⟩
   ·rintro D σ w hD hdep hcl ⟨⟨ad,af,ae,ab⟩,hv,ha,_,hw⟩
    obtain⟨τ,rfl⟩:=(ac (hv.at 5 rfl (hdep.1 rfl)) (ac (hv.at 6 rfl (hdep.2.1 rfl)) (ac (hv.at 8 rfl (hdep.2.2.1 rfl)) az))).aO
    have hw:=hw.aP (i:=0) rfl hD
    have hw:=hw.aR (i:=0) rfl (hdep.2.2.1 rfl)
    have hw:=hw.aP (i:=1) rfl hD
    have hw:=hw.sc (γ:=Int) (aa:Int)
    have hw:=hw.freeze (i:=1) rfl
    refine RL.build (y:=(⟨(aa:Int),av,aj⟩:aD)) trivial rfl hw [(0,(vi (aa:Int))),(1,a0),(2,ad)] rfl EG rfl (fun M hs g=>by have h:=si M;exact cB.cons (f:=fun(x:aD) y=>{x with aU:=y}) rfl h pf (by decide) (g.sat 0 _ rfl).1 fun _ h=>cB.cons (f:=fun(x:aD) y=>{x with Set:=y}) rfl h ph (by decide) (g.sat 4 _ rfl).1 fun _ h=>cB.cons (f:=fun(x:aD) y=>{x with dQ:=y}) rfl h pj (by decide) (g.sat 1 _ rfl).1 fun _ h=>cB.nil h) fun cr hw=>?_
    have hw:=hw.pl 12 [2,0,4,5,6,7,8,9,10,11] rfl
    have hw:=hw.aS (i:=0) (b:=true) rfl rfl (bif D 8 then (own 61 ad aj) else aK)
    have hw:=hw.aS (i:=1) (b:=true) rfl rfl (aK)
    exact RL.nil ⟨rfl,(ad,cr,ae,ab),hv.put 9 zr zr,ha.up zr,zt,hw⟩
   ·rintro D σ w hD hdep hcl ⟨⟨ad,af,ae,ab⟩,hv,ha,_,hw⟩
    obtain⟨τ,rfl⟩:=(ac (hv.at 9 rfl (hdep.1 rfl)) az).aO
    have hw:=hw.aR (i:=1) rfl (hdep.1 rfl)
    have hw:=hw.aP (i:=2) rfl (nf (fun h=>ft hD ((hcl 11 _ rfl h).2.1 rfl)))
    have hw:=hw.aP (i:=2) rfl hD
    refine RL.dY (l:=([(⟨(aa:Int),av,aj⟩:aD)]: (List aD))) zt zr hw [af] zr zr zr z6 Bl (fun M hs g=>⟨(g.sat 1 _ zr).1,zt⟩) fun br w hw=>?_
    have hw:=hw.pl 11 [1,2,0,4,5,6,7,8,9,10] rfl
    have hw:=hw.aS (i:=1) (b:=D 9) rfl (hdep.1 rfl) (aK)
    have hw:=hw.aS (i:=2) (b:=true) rfl rfl (aK)
    have hw:=hw.cK (i:=2) (b:=D 11) rfl (nf (fun h=>ft hD ((hcl 11 _ rfl h).2.1 rfl))) (rd br ([(⟨(aa:Int),av,aj⟩:aD)]: (List aD)))
    exact RL.nil ⟨rfl,(ad,af,br,ab),hv.put 10 zr zr,ha.up zr,zt,hw⟩
   ·rintro D σ w hD hdep hcl ⟨⟨ad,af,ae,ab⟩,hv,ha,_,hw⟩
    obtain⟨τ,rfl⟩:=(ac (hv.at 4 rfl (hdep.1 rfl)) (ac (hv.at 10 rfl (hdep.2.1 rfl)) az)).aO
    have hw:=hw.aP (i:=2) rfl hD
    have hw:=hw.aR (i:=2) rfl (hdep.2.1 rfl)
    have hw:=hw.aP (i:=4) rfl (nf (fun h=>ft hD ((hcl 14 _ rfl h).2.1 rfl)))
    have hw:=hw.aP (i:=5) rfl hD
    have hw:=hw.freeze (i:=2) rfl
    refine RL.app (i:=5) (j:=2) zt zr hw zr zr zr zr EH cq fun bt w hw=>?_
    have hw:=hw.aS (i:=2) (b:=true) rfl rfl (bif D 10 then (own 67 ae ([(⟨(aa:Int),av,aj⟩:aD)]: (List aD))) else aK)
    have hw:=hw.cK (i:=4) (b:=D 14) rfl (nf (fun h=>ft hD ((hcl 14 _ rfl h).2.1 rfl))) (bc 56 b0 [v0_0,v0_1,v0_2,v0_3,ai,bt,v0_6,v0_7,v0_8,v0_9,v0_10,v0_11])
    have hw:=hw.aS (i:=5) (b:=true) rfl rfl (own 67 ay ar)
    exact RL.nil ⟨rfl,(ad,af,ae,bt),hv.put 11 zr zr,ha.up zr,zt,hw⟩
   ·rintro D σ w hD hdep hcl ⟨⟨ad,af,ae,ab⟩,hv,ha,_,hw⟩
    obtain⟨τ,rfl⟩:=(ac (hv.at 11 rfl (hdep.2.1 rfl)) (ac (hv.at 13 rfl (hdep.1 rfl)) az)).aO
    have hw:=hw.aP (i:=4) rfl hD
    have hw:=hw.aR (i:=5) rfl (hdep.2.1 rfl)
    refine RL.fU (i:=4) (v:=ab) zt hw zr zr zr zr (gm hw (i:=5) zr) uO fun w hw=>?_
    have hw:=hw.aS (i:=4) (b:=true) rfl rfl (bc 56 b0 [v0_0,v0_1,v0_2,v0_3,ai,ay,v0_6,v0_7,v0_8,v0_9,v0_10,v0_11])
    have hw:=hw.aS (i:=5) (b:=D 11) rfl (hdep.2.1 rfl) (own 67 ay ar)
    exact RL.nil ⟨rfl,(ad,af,ae,ab),hv.no zr,ha,zt,hw⟩
   rintro D σ w hall ⟨⟨ad,af,ae,ab⟩,hv,ha,_,hw⟩
   have hw:=hw.aR (i:=0) rfl (hall 9 (by decide))
   have hw:=hw.aR (i:=1) rfl (hall 9 (by decide))
   have hw:=hw.aR (i:=2) rfl (hall 11 (by decide))
   have hw:=hw.aR (i:=4) rfl (hall 14 (by decide))
   have hw:=hw.aR (i:=5) rfl (hall 11 (by decide))
   obtain⟨τ,rfl⟩:=(ac (ha.at 0 rfl) (ac (ha.at 1 rfl) (ac (ha.at 2 rfl) (ac (ha.at 3 rfl) (ac (ha.at 4 rfl) (ac (ha.at 5 rfl) (ac (ha.at 6 rfl) (ac (ha.at 7 rfl) (ac (ha.at 8 rfl) (ac (ha.at 9 rfl) az)))))))))).aO
   refine bJ (aG (RC.region (RL.inc zt zr hk hm zr zr (mv (vi ((a7+1:Nat):Int)) zr zr (RL.nil ?_)))))
   obtain rfl:=oi hb
   exact⟨rfl,ab,(ag zr),hw.pk 10 [4,5,6,7,8,9] zr⟩
  intro σ w hJ
  obtain⟨ba,ha,hw⟩:=hJ
  obtain⟨τ,rfl⟩:=ha.aO
  refine bJ (aG (RC.region (RL.inc zt zr hk hm zr zr (mv (vi ((aa+1:Nat):Int)) zr zr (RL.nil ?_)))))
  obtain rfl:=oi hb
  exact⟨rfl,ai,ba,(ag zr),hw.pk 6 [0,4,1,2,3] zr⟩
 intro σ w hJ
 obtain⟨a1,aw,ha,hw⟩:=hJ
 obtain⟨τ,rfl⟩:=ha.aO
 refine aG (RC.seq ?_)
 obtain⟨bj,hj,hb⟩:=bd hb
 refine RC.jn (fun(bj:Bool) (σ:Nat→Value) (w:World)=>agree σ [(0,(vp b0 0)),(2,(vb bj))]∧Holds E w ([bc 56 b0 [v0_0,v0_1,v0_2,v0_3,a1,aw,v0_6,v0_7,v0_8,v0_9,v0_10,v0_11],rd v0_0 p0_0,rd v0_2 p0_2,own 58 a1 o.1,own 67 aw o.2.1]++Γ)) bj ?_ ?_
 ·refine RC.region (mv (vb o.2.2) zr zr (mv (vb o.2.2) zr zr (fH hj (fun ah hj=>?_) fun ah hj=>?_)))
  ·refine RL.move (v:=(vp b0 0)) (cg ah) rfl rfl (RL.nilCheck (cg ah) rfl rfl (RL.bF (cg ah) rfl rfl l9 (RL.bE (i:=0) (v:=aw) (cg ah) rfl hw rfl rfl rfl uO (RL.dC (i:=2) (l:=o.2.1) (cg ah) rfl hw rfl rfl yE (RL.iO (a:=(o.2.1.length:Int)) (b:=2000) (cg ah) rfl rfl rfl rfl (RL.pick (b:=o.2.2) (v:=(vb (decide ((o.2.1.length:Int)≤2000)))) trivial rfl rfl (by rw [ah];rfl) (aM (vb (decide ((o.2.1.length:Int)≤2000))) rfl rfl (RL.nil ?_))))))))
   obtain rfl:=oi hj
   exact⟨rfl,(ag zr),hw.pk 5 [0,3,4,1,2] zr⟩
  refine sk rfl (.inl (cb ah)) rfl (sk rfl (.inl (cb ah)) rfl (sk rfl (.inl (cb ah)) rfl (sk rfl (.inl (cb ah)) rfl (sk rfl (.inl (cb ah)) rfl (sk rfl (.inl (cb ah)) rfl (RL.pick (b:=o.2.2) (v:=(vb false)) trivial rfl rfl (by rw [ah];rfl) (aM (vb false) rfl rfl (RL.nil ?_))))))))
  obtain rfl:=oi hj
  exact⟨rfl,(ag zr),hw.pk 5 [0,3,4,1,2] zr⟩
 rintro σ w ⟨ha,hw⟩
 obtain⟨τ,rfl⟩:=ha.aO
 refine aG (RC.ret ?_)
 obtain rfl:=oi hb
 exact bQ zr zr ⟨a1,aw,zr,hw.pk 5 [0,3,4] zr⟩
def rK (E:World) (Γ:List HP) (res:Bool) (v:Value) (w:World):Prop:=v= (vb res)∧Holds E w Γ
theorem qN (N:Nat) {E w:World} {Γ:List HP} {i0:Nat} {v0:Value} {p0:aC} {i1:Nat} {v1:Value} {p1:aC} {res:Bool} (hw:Holds E w Γ) (h0:Γ[i0]? =some (rd v0 p0)) (h1:Γ[i1]? =some (rd v1 p1)) (hb:lh N p0 p1=some res):
    Calls Tryz.prog 52 [v0,v1].toArray w (fw (rK E Γ res)):=by
 unfold lh at hb
 refine enter Tryz.func52 zr zr (Nat.le_of_ble_eq_true zr) ?_
 have hw:=hw.dup (i:=i0+0) h0
 have hw:=hw.dup (i:=i1+1) h1
 refine RC.sr (RL.dN (i:=1) (v:=v0) zt zr hw zr zr fun j w hw=>(RL.dN (i:=1) (v:=v1) zt zr hw zr zr fun o w hw=>(aM (vb false) zr zr (RL.ns (RL.bF zt zr zr f0 (RL.aL (i:=1) (f:=(fun x=>x.X0)) zt zr hw zr zr cU bX (RL.bF zt zr zr gN (RL.aL (i:=0) (f:=(fun x=>x.X1)) zt zr hw zr zr dK bX ?_))))))))
 refine ic (p0.X0) (p1.X1) rfl rfl rfl rfl (mv (vb (decide (p0.X0<p1.X1))) rfl rfl (RL.gs (c:=true) (b:=(decide (p0.X0<p1.X1))) (v:=(vp o 0)) rfl rfl rfl (dD rfl (fun _=>rfl) f0) (RL.gs (c:=true) (b:=(decide (p0.X0<p1.X1))) (v:=(vi p1.X0)) rfl rfl rfl (bK (i:=0) (f:=(fun x=>x.X0)) rfl hw (fun h=>by exact(cC h:cv (true&&((decide (p0.X0<p1.X1))==true)) (vp o 0)= (vp o 0))) rfl cU bX) (RL.gs (c:=true) (b:=(decide (p0.X0<p1.X1))) (v:=(vp j 2)) rfl rfl rfl (dD rfl (fun _=>rfl) gN) (RL.gs (c:=true) (b:=(decide (p0.X0<p1.X1))) (v:=(vi p0.X1)) rfl rfl rfl (bK (i:=1) (f:=(fun x=>x.X1)) rfl hw (fun h=>by exact(cC h:cv (true&&((decide (p0.X0<p1.X1))==true)) (vp j 2)= (vp j 2))) rfl dK bX) (RL.gs (c:=true) (b:=(decide (p0.X0<p1.X1))) (v:=(vb (decide (p1.X0<p0.X1)))) rfl rfl rfl (cV (bop:= .lss) (K:= .i64) (a:=p1.X0) (b:=p0.X1) rfl (fun h=>by exact(cC h:cv (true&&((decide (p0.X0<p1.X1))==true)) (vi p1.X0)= (vi p1.X0))) (fun h=>by exact(cC h:cv (true&&((decide (p0.X0<p1.X1))==true)) (vi p0.X1)= (vi p0.X1))) rfl) (RL.pick (b:=(decide (p0.X0<p1.X1))) (v:=(vb ((decide (p0.X0<p1.X1))&&(decide (p1.X0<p0.X1))))) trivial rfl rfl (gW (c:=true) rfl) (aM (vb ((decide (p0.X0<p1.X1))&&(decide (p1.X0<p0.X1)))) rfl rfl ?_))))))))
 refine RL.ns (RL.bF trivial rfl rfl gM (RL.aL (i:=1) (f:=(fun x=>x.Y0)) trivial rfl hw rfl rfl cZ bX (RL.bF trivial rfl rfl jU (RL.aL (i:=0) (f:=(fun x=>x.Y1)) trivial rfl hw rfl rfl fz bX (ic (p0.Y0) (p1.Y1) rfl rfl rfl rfl (mv (vb (decide (p0.Y0<p1.Y1))) rfl rfl (RL.gs (c:=true) (b:=(decide (p0.Y0<p1.Y1))) (v:=(vp o 1)) rfl rfl rfl (dD rfl (fun _=>rfl) gM) (RL.gs (c:=true) (b:=(decide (p0.Y0<p1.Y1))) (v:=(vi p1.Y0)) rfl rfl rfl (bK (i:=0) (f:=(fun x=>x.Y0)) rfl hw (fun h=>by exact(cC h:cv (true&&((decide (p0.Y0<p1.Y1))==true)) (vp o 1)= (vp o 1))) rfl cZ bX) ?_))))))))
 refine RL.gs (c:=true) (b:=(decide (p0.Y0<p1.Y1))) (v:=(vp j 3)) rfl rfl rfl (dD rfl (fun _=>rfl) jU) (RL.gs (c:=true) (b:=(decide (p0.Y0<p1.Y1))) (v:=(vi p0.Y1)) rfl rfl rfl (bK (i:=1) (f:=(fun x=>x.Y1)) rfl hw (fun h=>by exact(cC h:cv (true&&((decide (p0.Y0<p1.Y1))==true)) (vp j 3)= (vp j 3))) rfl fz bX) (RL.gs (c:=true) (b:=(decide (p0.Y0<p1.Y1))) (v:=(vb (decide (p1.Y0<p0.Y1)))) rfl rfl rfl (cV (bop:= .lss) (K:= .i64) (a:=p1.Y0) (b:=p0.Y1) rfl (fun h=>by exact(cC h:cv (true&&((decide (p0.Y0<p1.Y1))==true)) (vi p1.Y0)= (vi p1.Y0))) (fun h=>by exact(cC h:cv (true&&((decide (p0.Y0<p1.Y1))==true)) (vi p0.Y1)= (vi p0.Y1))) rfl) (RL.pick (b:=(decide (p0.Y0<p1.Y1))) (v:=(vb ((decide (p0.Y0<p1.Y1))&&(decide (p1.Y0<p0.Y1))))) trivial rfl rfl (gW (c:=true) rfl) (aM (vb ((decide (p0.Y0<p1.Y1))&&(decide (p1.Y0<p0.Y1)))) rfl rfl (RL.ns (mv (vb ((decide (p0.X0<p1.X1))&&(decide (p1.X0<p0.X1)))) rfl rfl (mv (vb ((decide (p0.X0<p1.X1))&&(decide (p1.X0<p0.X1)))) rfl rfl (RL.gs (c:=true) (b:=((decide (p0.X0<p1.X1))&&(decide (p1.X0<p0.X1)))) (v:=(vp j 3)) rfl rfl rfl (dD rfl (fun _=>rfl) jU) ?_))))))))
 refine RL.gs (c:=true) (b:=((decide (p0.X0<p1.X1))&&(decide (p1.X0<p0.X1)))) (v:=(vi p0.Y1)) rfl rfl rfl (bK (i:=1) (f:=(fun x=>x.Y1)) rfl hw (fun h=>by exact(cC h:cv (true&&(((decide (p0.X0<p1.X1))&&(decide (p1.X0<p0.X1)))==true)) (vp j 3)= (vp j 3))) rfl fz bX) (RL.gs (c:=true) (b:=((decide (p0.X0<p1.X1))&&(decide (p1.X0<p0.X1)))) (v:=(vp o 1)) rfl rfl rfl (dD rfl (fun _=>rfl) gM) (RL.gs (c:=true) (b:=((decide (p0.X0<p1.X1))&&(decide (p1.X0<p0.X1)))) (v:=(vi p1.Y0)) rfl rfl rfl (bK (i:=0) (f:=(fun x=>x.Y0)) rfl hw (fun h=>by exact(cC h:cv (true&&(((decide (p0.X0<p1.X1))&&(decide (p1.X0<p0.X1)))==true)) (vp o 1)= (vp o 1))) rfl cZ bX) (RL.gs (c:=true) (b:=((decide (p0.X0<p1.X1))&&(decide (p1.X0<p0.X1)))) (v:=(vb (p0.Y1==p1.Y0))) rfl rfl rfl (cV (bop:= .eql) (K:= .i64) (a:=p0.Y1) (b:=p1.Y0) rfl (fun h=>by exact(cC h:cv (true&&(((decide (p0.X0<p1.X1))&&(decide (p1.X0<p0.X1)))==true)) (vi p0.Y1)= (vi p0.Y1))) (fun h=>by exact(cC h:cv (true&&(((decide (p0.X0<p1.X1))&&(decide (p1.X0<p0.X1)))==true)) (vi p1.Y0)= (vi p1.Y0))) rfl) (RL.gs (c:=true) (b:=((decide (p0.X0<p1.X1))&&(decide (p1.X0<p0.X1)))) (v:=(vb (p0.Y1==p1.Y0))) rfl rfl rfl (cN rfl (fun h=>by exact(cC h:cv (true&&(((decide (p0.X0<p1.X1))&&(decide (p1.X0<p0.X1)))==true)) (vb (p0.Y1==p1.Y0))= (vb (p0.Y1==p1.Y0))))) (RL.gs (c:=(true&&(((decide (p0.X0<p1.X1))&&(decide (p1.X0<p0.X1)))==true))) (b:=(p0.Y1==p1.Y0)) (v:=(vp o 3)) rfl rfl rfl (dD rfl (fun _=>rfl) jU) (RL.gs (c:=(true&&(((decide (p0.X0<p1.X1))&&(decide (p1.X0<p0.X1)))==true))) (b:=(p0.Y1==p1.Y0)) (v:=(vi p1.Y1)) rfl rfl rfl (bK (i:=0) (f:=(fun x=>x.Y1)) rfl hw (fun h=>by exact(cC h:cv ((true&&(((decide (p0.X0<p1.X1))&&(decide (p1.X0<p0.X1)))==true))&&((p0.Y1==p1.Y0)==false)) (vp o 3)= (vp o 3))) rfl fz bX) (RL.gs (c:=(true&&(((decide (p0.X0<p1.X1))&&(decide (p1.X0<p0.X1)))==true))) (b:=(p0.Y1==p1.Y0)) (v:=(vp j 1)) rfl rfl rfl (dD rfl (fun _=>rfl) gM) (RL.gs (c:=(true&&(((decide (p0.X0<p1.X1))&&(decide (p1.X0<p0.X1)))==true))) (b:=(p0.Y1==p1.Y0)) (v:=(vi p0.Y0)) rfl rfl rfl (bK (i:=1) (f:=(fun x=>x.Y0)) rfl hw (fun h=>by exact(cC h:cv ((true&&(((decide (p0.X0<p1.X1))&&(decide (p1.X0<p0.X1)))==true))&&((p0.Y1==p1.Y0)==false)) (vp j 1)= (vp j 1))) rfl cZ bX) ?_))))))))
 refine RL.gs (c:=(true&&(((decide (p0.X0<p1.X1))&&(decide (p1.X0<p0.X1)))==true))) (b:=(p0.Y1==p1.Y0)) (v:=(vb (p1.Y1==p0.Y0))) rfl rfl rfl (cV (bop:= .eql) (K:= .i64) (a:=p1.Y1) (b:=p0.Y0) rfl (fun h=>by exact(cC h:cv ((true&&(((decide (p0.X0<p1.X1))&&(decide (p1.X0<p0.X1)))==true))&&((p0.Y1==p1.Y0)==false)) (vi p1.Y1)= (vi p1.Y1))) (fun h=>by exact(cC h:cv ((true&&(((decide (p0.X0<p1.X1))&&(decide (p1.X0<p0.X1)))==true))&&((p0.Y1==p1.Y0)==false)) (vi p0.Y0)= (vi p0.Y0))) rfl) (RL.gs (c:=true) (b:=((decide (p0.X0<p1.X1))&&(decide (p1.X0<p0.X1)))) (v:=(vb ((p0.Y1==p1.Y0)||(p1.Y1==p0.Y0)))) rfl rfl rfl (nv (b:=(p0.Y1==p1.Y0)) rfl (fun h=>by exact(cC h:cv (true&&(((decide (p0.X0<p1.X1))&&(decide (p1.X0<p0.X1)))==true)) (vb (p0.Y1==p1.Y0))= (vb (p0.Y1==p1.Y0)))) (fun h=>by exact ml (c:=(true&&(((decide (p0.X0<p1.X1))&&(decide (p1.X0<p0.X1)))==true))) h)) (RL.pick (b:=((decide (p0.X0<p1.X1))&&(decide (p1.X0<p0.X1)))) (v:=(vb (((decide (p0.X0<p1.X1))&&(decide (p1.X0<p0.X1)))&&((p0.Y1==p1.Y0)||(p1.Y1==p0.Y0))))) trivial rfl rfl (gW (c:=true) rfl) (mv (vb (((decide (p0.X0<p1.X1))&&(decide (p1.X0<p0.X1)))&&((p0.Y1==p1.Y0)||(p1.Y1==p0.Y0)))) rfl rfl (RL.gs (c:=true) (b:=(((decide (p0.X0<p1.X1))&&(decide (p1.X0<p0.X1)))&&((p0.Y1==p1.Y0)||(p1.Y1==p0.Y0)))) (v:=(vb ((decide (p0.Y0<p1.Y1))&&(decide (p1.Y0<p0.Y1))))) rfl rfl rfl (cN rfl (fun _=>rfl)) (RL.gs (c:=true) (b:=(((decide (p0.X0<p1.X1))&&(decide (p1.X0<p0.X1)))&&((p0.Y1==p1.Y0)||(p1.Y1==p0.Y0)))) (v:=(vb ((decide (p0.Y0<p1.Y1))&&(decide (p1.Y0<p0.Y1))))) rfl rfl rfl (cN rfl (fun h=>by exact(cC h:cv (true&&((((decide (p0.X0<p1.X1))&&(decide (p1.X0<p0.X1)))&&((p0.Y1==p1.Y0)||(p1.Y1==p0.Y0)))==false)) (vb ((decide (p0.Y0<p1.Y1))&&(decide (p1.Y0<p0.Y1))))= (vb ((decide (p0.Y0<p1.Y1))&&(decide (p1.Y0<p0.Y1))))))) (RL.gs (c:=(true&&((((decide (p0.X0<p1.X1))&&(decide (p1.X0<p0.X1)))&&((p0.Y1==p1.Y0)||(p1.Y1==p0.Y0)))==false))) (b:=((decide (p0.Y0<p1.Y1))&&(decide (p1.Y0<p0.Y1)))) (v:=(vp j 2)) rfl rfl rfl (dD rfl (fun _=>rfl) gN) (RL.gs (c:=(true&&((((decide (p0.X0<p1.X1))&&(decide (p1.X0<p0.X1)))&&((p0.Y1==p1.Y0)||(p1.Y1==p0.Y0)))==false))) (b:=((decide (p0.Y0<p1.Y1))&&(decide (p1.Y0<p0.Y1)))) (v:=(vi p0.X1)) rfl rfl rfl (bK (i:=1) (f:=(fun x=>x.X1)) rfl hw (fun h=>by exact(cC h:cv ((true&&((((decide (p0.X0<p1.X1))&&(decide (p1.X0<p0.X1)))&&((p0.Y1==p1.Y0)||(p1.Y1==p0.Y0)))==false))&&(((decide (p0.Y0<p1.Y1))&&(decide (p1.Y0<p0.Y1)))==true)) (vp j 2)= (vp j 2))) rfl dK bX) (RL.gs (c:=(true&&((((decide (p0.X0<p1.X1))&&(decide (p1.X0<p0.X1)))&&((p0.Y1==p1.Y0)||(p1.Y1==p0.Y0)))==false))) (b:=((decide (p0.Y0<p1.Y1))&&(decide (p1.Y0<p0.Y1)))) (v:=(vp o 0)) rfl rfl rfl (dD rfl (fun _=>rfl) f0) ?_))))))))
 refine RL.gs (c:=(true&&((((decide (p0.X0<p1.X1))&&(decide (p1.X0<p0.X1)))&&((p0.Y1==p1.Y0)||(p1.Y1==p0.Y0)))==false))) (b:=((decide (p0.Y0<p1.Y1))&&(decide (p1.Y0<p0.Y1)))) (v:=(vi p1.X0)) rfl rfl rfl (bK (i:=0) (f:=(fun x=>x.X0)) rfl hw (fun h=>by exact(cC h:cv ((true&&((((decide (p0.X0<p1.X1))&&(decide (p1.X0<p0.X1)))&&((p0.Y1==p1.Y0)||(p1.Y1==p0.Y0)))==false))&&(((decide (p0.Y0<p1.Y1))&&(decide (p1.Y0<p0.Y1)))==true)) (vp o 0)= (vp o 0))) rfl cU bX) (RL.gs (c:=(true&&((((decide (p0.X0<p1.X1))&&(decide (p1.X0<p0.X1)))&&((p0.Y1==p1.Y0)||(p1.Y1==p0.Y0)))==false))) (b:=((decide (p0.Y0<p1.Y1))&&(decide (p1.Y0<p0.Y1)))) (v:=(vb (p0.X1==p1.X0))) rfl rfl rfl (cV (bop:= .eql) (K:= .i64) (a:=p0.X1) (b:=p1.X0) rfl (fun h=>by exact(cC h:cv ((true&&((((decide (p0.X0<p1.X1))&&(decide (p1.X0<p0.X1)))&&((p0.Y1==p1.Y0)||(p1.Y1==p0.Y0)))==false))&&(((decide (p0.Y0<p1.Y1))&&(decide (p1.Y0<p0.Y1)))==true)) (vi p0.X1)= (vi p0.X1))) (fun h=>by exact(cC h:cv ((true&&((((decide (p0.X0<p1.X1))&&(decide (p1.X0<p0.X1)))&&((p0.Y1==p1.Y0)||(p1.Y1==p0.Y0)))==false))&&(((decide (p0.Y0<p1.Y1))&&(decide (p1.Y0<p0.Y1)))==true)) (vi p1.X0)= (vi p1.X0))) rfl) (RL.gs (c:=(true&&((((decide (p0.X0<p1.X1))&&(decide (p1.X0<p0.X1)))&&((p0.Y1==p1.Y0)||(p1.Y1==p0.Y0)))==false))) (b:=((decide (p0.Y0<p1.Y1))&&(decide (p1.Y0<p0.Y1)))) (v:=(vb (p0.X1==p1.X0))) rfl rfl rfl (cN rfl (fun h=>by exact(cC h:cv ((true&&((((decide (p0.X0<p1.X1))&&(decide (p1.X0<p0.X1)))&&((p0.Y1==p1.Y0)||(p1.Y1==p0.Y0)))==false))&&(((decide (p0.Y0<p1.Y1))&&(decide (p1.Y0<p0.Y1)))==true)) (vb (p0.X1==p1.X0))= (vb (p0.X1==p1.X0))))) (RL.gs (c:=((true&&((((decide (p0.X0<p1.X1))&&(decide (p1.X0<p0.X1)))&&((p0.Y1==p1.Y0)||(p1.Y1==p0.Y0)))==false))&&(((decide (p0.Y0<p1.Y1))&&(decide (p1.Y0<p0.Y1)))==true))) (b:=(p0.X1==p1.X0)) (v:=(vp o 2)) rfl rfl rfl (dD rfl (fun _=>rfl) gN) (RL.gs (c:=((true&&((((decide (p0.X0<p1.X1))&&(decide (p1.X0<p0.X1)))&&((p0.Y1==p1.Y0)||(p1.Y1==p0.Y0)))==false))&&(((decide (p0.Y0<p1.Y1))&&(decide (p1.Y0<p0.Y1)))==true))) (b:=(p0.X1==p1.X0)) (v:=(vi p1.X1)) rfl rfl rfl (bK (i:=0) (f:=(fun x=>x.X1)) rfl hw (fun h=>by exact(cC h:cv (((true&&((((decide (p0.X0<p1.X1))&&(decide (p1.X0<p0.X1)))&&((p0.Y1==p1.Y0)||(p1.Y1==p0.Y0)))==false))&&(((decide (p0.Y0<p1.Y1))&&(decide (p1.Y0<p0.Y1)))==true))&&((p0.X1==p1.X0)==false)) (vp o 2)= (vp o 2))) rfl dK bX) (RL.gs (c:=((true&&((((decide (p0.X0<p1.X1))&&(decide (p1.X0<p0.X1)))&&((p0.Y1==p1.Y0)||(p1.Y1==p0.Y0)))==false))&&(((decide (p0.Y0<p1.Y1))&&(decide (p1.Y0<p0.Y1)))==true))) (b:=(p0.X1==p1.X0)) (v:=(vp j 0)) rfl rfl rfl (dD rfl (fun _=>rfl) f0) (RL.gs (c:=((true&&((((decide (p0.X0<p1.X1))&&(decide (p1.X0<p0.X1)))&&((p0.Y1==p1.Y0)||(p1.Y1==p0.Y0)))==false))&&(((decide (p0.Y0<p1.Y1))&&(decide (p1.Y0<p0.Y1)))==true))) (b:=(p0.X1==p1.X0)) (v:=(vi p0.X0)) rfl rfl rfl (bK (i:=1) (f:=(fun x=>x.X0)) rfl hw (fun h=>by exact(cC h:cv (((true&&((((decide (p0.X0<p1.X1))&&(decide (p1.X0<p0.X1)))&&((p0.Y1==p1.Y0)||(p1.Y1==p0.Y0)))==false))&&(((decide (p0.Y0<p1.Y1))&&(decide (p1.Y0<p0.Y1)))==true))&&((p0.X1==p1.X0)==false)) (vp j 0)= (vp j 0))) rfl cU bX) (RL.gs (c:=((true&&((((decide (p0.X0<p1.X1))&&(decide (p1.X0<p0.X1)))&&((p0.Y1==p1.Y0)||(p1.Y1==p0.Y0)))==false))&&(((decide (p0.Y0<p1.Y1))&&(decide (p1.Y0<p0.Y1)))==true))) (b:=(p0.X1==p1.X0)) (v:=(vb (p1.X1==p0.X0))) rfl rfl rfl (cV (bop:= .eql) (K:= .i64) (a:=p1.X1) (b:=p0.X0) rfl (fun h=>by exact(cC h:cv (((true&&((((decide (p0.X0<p1.X1))&&(decide (p1.X0<p0.X1)))&&((p0.Y1==p1.Y0)||(p1.Y1==p0.Y0)))==false))&&(((decide (p0.Y0<p1.Y1))&&(decide (p1.Y0<p0.Y1)))==true))&&((p0.X1==p1.X0)==false)) (vi p1.X1)= (vi p1.X1))) (fun h=>by exact(cC h:cv (((true&&((((decide (p0.X0<p1.X1))&&(decide (p1.X0<p0.X1)))&&((p0.Y1==p1.Y0)||(p1.Y1==p0.Y0)))==false))&&(((decide (p0.Y0<p1.Y1))&&(decide (p1.Y0<p0.Y1)))==true))&&((p0.X1==p1.X0)==false)) (vi p0.X0)= (vi p0.X0))) rfl) (RL.gs (c:=(true&&((((decide (p0.X0<p1.X1))&&(decide (p1.X0<p0.X1)))&&((p0.Y1==p1.Y0)||(p1.Y1==p0.Y0)))==false))) (b:=((decide (p0.Y0<p1.Y1))&&(decide (p1.Y0<p0.Y1)))) (v:=(vb ((p0.X1==p1.X0)||(p1.X1==p0.X0)))) rfl rfl rfl (nv (b:=(p0.X1==p1.X0)) rfl (fun h=>by exact(cC h:cv ((true&&((((decide (p0.X0<p1.X1))&&(decide (p1.X0<p0.X1)))&&((p0.Y1==p1.Y0)||(p1.Y1==p0.Y0)))==false))&&(((decide (p0.Y0<p1.Y1))&&(decide (p1.Y0<p0.Y1)))==true)) (vb (p0.X1==p1.X0))= (vb (p0.X1==p1.X0)))) (fun h=>by exact ml (c:=((true&&((((decide (p0.X0<p1.X1))&&(decide (p1.X0<p0.X1)))&&((p0.Y1==p1.Y0)||(p1.Y1==p0.Y0)))==false))&&(((decide (p0.Y0<p1.Y1))&&(decide (p1.Y0<p0.Y1)))==true))) h)) ?_))))))))
 refine RL.gs (c:=true) (b:=(((decide (p0.X0<p1.X1))&&(decide (p1.X0<p0.X1)))&&((p0.Y1==p1.Y0)||(p1.Y1==p0.Y0)))) (v:=(vb (((decide (p0.Y0<p1.Y1))&&(decide (p1.Y0<p0.Y1)))&&((p0.X1==p1.X0)||(p1.X1==p0.X0))))) rfl rfl rfl (nv (b:=((decide (p0.Y0<p1.Y1))&&(decide (p1.Y0<p0.Y1)))) rfl (fun h=>by exact(cC h:cv (true&&((((decide (p0.X0<p1.X1))&&(decide (p1.X0<p0.X1)))&&((p0.Y1==p1.Y0)||(p1.Y1==p0.Y0)))==false)) (vb ((decide (p0.Y0<p1.Y1))&&(decide (p1.Y0<p0.Y1))))= (vb ((decide (p0.Y0<p1.Y1))&&(decide (p1.Y0<p0.Y1)))))) (fun h=>by exact gW (c:=(true&&((((decide (p0.X0<p1.X1))&&(decide (p1.X0<p0.X1)))&&((p0.Y1==p1.Y0)||(p1.Y1==p0.Y0)))==false))) h)) (RL.pick (b:=(((decide (p0.X0<p1.X1))&&(decide (p1.X0<p0.X1)))&&((p0.Y1==p1.Y0)||(p1.Y1==p0.Y0)))) (v:=(vb ((((decide (p0.X0<p1.X1))&&(decide (p1.X0<p0.X1)))&&((p0.Y1==p1.Y0)||(p1.Y1==p0.Y0)))||(((decide (p0.Y0<p1.Y1))&&(decide (p1.Y0<p0.Y1)))&&((p0.X1==p1.X0)||(p1.X1==p0.X0)))))) trivial rfl rfl (ml (c:=true) rfl) (aM (vb ((((decide (p0.X0<p1.X1))&&(decide (p1.X0<p0.X1)))&&((p0.Y1==p1.Y0)||(p1.Y1==p0.Y0)))||(((decide (p0.Y0<p1.Y1))&&(decide (p1.Y0<p0.Y1)))&&((p0.X1==p1.X0)||(p1.X1==p0.X0))))) rfl rfl (RL.nt (RC.ret ?_))))
 obtain rfl:=oi hb
 exact bQ zr zr ⟨rfl,hw.drop 4 zr⟩
def lS (E:World) (Γ:List HP) (res:Bool) (v:Value) (w:World):Prop:=v= (vb res)∧Holds E w Γ
theorem lv (N:Nat) {E w:World} {Γ:List HP} {i0:Nat} {v0:Value} {p0:aC} {i1:Nat} {v1:Value} {p1:bD} {res:Bool} (hw:Holds E w Γ) (h0:Γ[i0]? =some (rd v0 p0)) (h1:Γ[i1]? =some (pt v1 p1)) (hb:fu N p0 p1=some res):
    Calls Tryz.prog 51 [v0,v1].toArray w (fw (lS E Γ res)):=by
 unfold fu at hb
 refine enter Tryz.func51 zr zr (Nat.le_of_ble_eq_true zr) ?_
 have hw:=hw.dup (i:=i0+0) h0
 have hw:=hw.um (i:=i1+1) h1
 refine RC.sr (RL.dN (i:=1) (v:=v0) zt zr hw zr zr fun ab w hw=>(aM (vb false) zr zr (RL.nq ?_)))
 obtain⟨ae,af,hb⟩:=bd hb
 obtain⟨ad,ah,hb⟩:=bd hb
 refine RC.tw (E:=E) (Γ:=Γ) mixed rfl [0,0,0,0,1] [0,1,2] (fun(x:Value×Value×Value)=>(fun j o aa=>[(0,4,j),(1,5,o),(2,6,aa),(3,7,(vb ad)),(4,3,(vb ad))]) x.1 x.2.1 x.2.2) [(1,v1),(2,(vp ab 0))] [] (fun(D:Nat→Bool) (x:Value×Value×Value)=>(fun j o aa=>[bif D 0 then (rd j p0) else aK,bif D 1 then (rd o p1) else aK,bif D 2 then (rd aa ae) else aK,bx 61 ab p0,pt v1 p1,rd v0 p0]) x.1 x.2.1 x.2.2) (fun x=>by kernel_rfl) ?_ ⟨?_,?_,?_,?_,fun _=>yt gn rfl,trivial⟩ ?_
 ·have hw:=hw.drew
  have hw:=hw.aK
  have hw:=hw.aK
  have hw:=hw.aK
  exact⟨(undef,undef,undef),doneV.none,(ag zr),zt,hw⟩
 ·rintro D σ w hD hdep hcl ⟨⟨j,o,aa⟩,hv,ha,_,hw⟩
  obtain⟨τ,rfl⟩:=(ac (ha.at 1 rfl) az).aO
  have hw:=hw.aP (i:=0) rfl hD
  refine RL.aY (i:=3) (f:=(fun x=>x)) zt zr hw zr zr Fd.self eM fun ai hw=>?_
  have hw:=hw.pl 7 [0,2,3,4,5,6] rfl
  have hw:=hw.aS (i:=0) (b:=true) rfl rfl (aK)
  exact RL.nil ⟨rfl,(ai,o,aa),hv.put 0 zr zr,ha.up zr,zt,hw⟩
 ·rintro D σ w hD hdep hcl ⟨⟨j,o,aa⟩,hv,ha,_,hw⟩
  obtain⟨τ,rfl⟩:=(ac (ha.at 0 rfl) az).aO
  have hw:=hw.aP (i:=1) rfl hD
  refine RL.bP (i:=4) (x:=p1) zt zr hw zr zr kr fun aj hw=>?_
  have hw:=hw.pl 7 [1,0,3,4,5,6] rfl
  have hw:=hw.aS (i:=1) (b:=true) rfl rfl (aK)
  exact RL.nil ⟨rfl,(j,aj,aa),hv.put 1 zr zr,ha.up zr,zt,hw⟩
 ·rintro D σ w hD hdep hcl ⟨⟨j,o,aa⟩,hv,ha,_,hw⟩
  obtain⟨τ,rfl⟩:=(ac (hv.at 1 rfl (hdep.1 rfl)) az).aO
  have hw:=hw.aR (i:=1) rfl (hdep.1 rfl)
  have hw:=hw.aP (i:=2) rfl hD
  refine RL.call zt zr yC [o] zr (aF (eD N (i0:=1) hw zr af) ?_)
  rintro ak w hw
  have hw:=hw.pl 7 [1,2,0,4,5,6] rfl
  have hw:=hw.aS (i:=1) (b:=D 1) rfl (hdep.1 rfl) (aK)
  have hw:=hw.aS (i:=2) (b:=true) rfl rfl (aK)
  exact RL.nil ⟨rfl,(j,o,ak),hv.put 2 zr zr,ha.up zr,zt,hw⟩
 ·rintro D σ w hD hdep hcl ⟨⟨j,o,aa⟩,hv,ha,_,hw⟩
  obtain⟨τ,rfl⟩:=(ac (hv.at 0 rfl (hdep.1 rfl)) (ac (hv.at 2 rfl (hdep.2.1 rfl)) az)).aO
  have hw:=hw.aR (i:=0) rfl (hdep.1 rfl)
  have hw:=hw.aR (i:=2) rfl (hdep.2.1 rfl)
  refine RL.call zt zr EJ [j,aa] zr (aF (qN N (i0:=0) (i1:=2) hw zr zr ah) ?_)
  rintro _ w ⟨rfl,hw⟩
  have hw:=hw.aS (i:=0) (b:=D 0) rfl (hdep.1 rfl) (aK)
  have hw:=hw.aS (i:=2) (b:=D 2) rfl (hdep.2.1 rfl) (aK)
  exact RL.nil ⟨rfl,(j,o,aa),hv.put 3 zr zr,ha.up zr,zt,hw⟩
 rintro D σ w hall ⟨⟨j,o,aa⟩,hv,ha,_,hw⟩
 have hw:=hw.aR (i:=0) rfl (hall 0 (by decide))
 have hw:=hw.aR (i:=1) rfl (hall 1 (by decide))
 have hw:=hw.aR (i:=2) rfl (hall 2 (by decide))
 obtain⟨τ,rfl⟩:=(ac (hv.at 4 rfl (hall 4 (by decide))) (ac (ha.at 0 rfl) (ac (ha.at 1 rfl) az))).aO
 refine aG (RC.ret ?_)
 obtain rfl:=oi hb
 exact bQ zr zr ⟨rfl,hw.drop 6 zr⟩
def kB (E:World) (Γ:List HP) (res:Bool) (v:Value) (w:World):Prop:=v= (vb res)∧Holds E w Γ
theorem gV (N:Nat) {E w:World} {Γ:List HP} {i0:Nat} {v0:Value} {p0: (List aC)} {v1:Value} {p1:aC→Option Bool} {res:Bool} (hw:Holds E w Γ) (h0:Γ[i0]? =some (rd v0 p0)) (h1:AP Tryz.prog E Γ v1 p1 (fun(r:Bool)=>Value.bool r)) (hb:dB N p0 p1=some res):
    Calls Tryz.prog 50 [v0,v1].toArray w (fw (kB E Γ res)):=by
 unfold dB at hb
 refine enter Tryz.func50 zr zr (Nat.le_of_ble_eq_true zr) ?_
 have hw:=hw.dup (i:=i0+0) h0
 refine RC.sr (aM (vb false) zr zr (RL.ns (mv v0 zr zr (mv v1 zr zr ?_))))
 obtain⟨j,o,hb⟩:=bd hb
 refine RL.call zt zr CW [v0,v1] zr (aF (lq N (i0:=0) hw zr (h1.lift 1 zr) o) ?_)
 rintro _ w ⟨rfl,hw⟩
 refine ic j 0 zr zr zr zr (aM (vb (decide (j≥0))) zr zr (RL.nt (RC.ret ?_)))
 obtain rfl:=oi hb
 exact bQ zr zr ⟨rfl,hw.drop 1 zr⟩
def m8 (E:World) (Γ:List HP) (b0:Nat) (v0_0:Value) (v0_1:Value) (v0_2:Value) (v0_3:Value) (v0_4:Value) (v0_5:Value) (v0_7:Value) (v0_8:Value) (v0_9:Value) (v0_10:Value) (v0_11:Value) (res: (List (List Int))) (v:Value) (w:World):Prop:=∃u0_6:Value,v = .tuple #[]∧Holds E w ([bc 56 b0 [v0_0,v0_1,v0_2,v0_3,v0_4,v0_5,u0_6,v0_7,v0_8,v0_9,v0_10,v0_11],own 53 u0_6 res]++Γ)
theorem mE (N:Nat) {E w:World} {Γ:List HP} {b0:Nat} {v0_0:Value} {v0_1:Value} {v0_2:Value} {p0_2: (List bD)} {v0_3:Value} {v0_4:Value} {v0_5:Value} {p0_5: (List aD)} {v0_6:Value} {p0_6: (List (List Int))} {v0_7:Value} {v0_8:Value} {v0_9:Value} {v0_10:Value} {v0_11:Value} {res: (List (List Int))} (hw:Holds E w (bc 56 b0 [v0_0,v0_1,v0_2,v0_3,v0_4,v0_5,v0_6,v0_7,v0_8,v0_9,v0_10,v0_11]::rd v0_2 p0_2::rd v0_5 p0_5::own 53 v0_6 p0_6::Γ)) (hb:ff N p0_2 p0_5 p0_6=some res):
    Calls Tryz.prog 26 [(vp b0 0)].toArray w (fw (m8 E Γ b0 v0_0 v0_1 v0_2 v0_3 v0_4 v0_5 v0_7 v0_8 v0_9 v0_10 v0_11 res)):=by
 unfold ff at hb
 refine enter Tryz.func26 zr zr (Nat.le_of_ble_eq_true zr) (RC.sr (mv (vp b0 0) zr zr (RL.nilCheck zt zr zr (RL.bF zt zr zr mS (RL.bF zt zr zr ll (RL.bE (i:=0) (v:=v0_2) zt zr hw zr zr zr tC (RL.bG (i:=1) (l:=p0_2) zt zr hw zr zr uJ (mv (vi 0) zr zr ?_))))))))
 refine RL.nt ?_
 obtain⟨ad,hN,hb⟩:=bd hb
 refine RC.fold (fun(ai:Nat) (ad: (List (List Int))) (σ:Nat→Value) (w:World)=>∃aw:Value,agree σ [(0,(vp b0 0)),(11,v0_2),(12,(vi (p0_2.length:Int))),(13,(vi (ai:Int)))]∧Holds E w ([bc 56 b0 [v0_0,v0_1,v0_2,v0_3,v0_4,v0_5,aw,v0_7,v0_8,v0_9,v0_10,v0_11],own 53 aw ad,rd v0_2 p0_2,rd v0_5 p0_5]++Γ)) (fun(ad: (List (List Int))) (σ:Nat→Value) (w:World)=>∃al:Value,agree σ [(0,(vp b0 0))]∧Holds E w ([bc 56 b0 [v0_0,v0_1,v0_2,v0_3,v0_4,v0_5,al,v0_7,v0_8,v0_9,v0_10,v0_11],own 53 al ad,rd v0_2 p0_2,rd v0_5 p0_5]++Γ)) hN ?_ ?_ ?_ ?_
 ·exact⟨v0_6,(ag zr),hw.pk 4 [0,3,1,2] zr⟩
 ·intro hm ad σ w hI
  obtain⟨a0,ha,hw⟩:=hI
  obtain⟨τ,rfl⟩:=ha.aO
  refine RC.sr (ic ((p0_2.length:Int)) ((p0_2.length:Int)) zr zr zr zr (RL.nq (RC.cH lZ (RC.ex ?_))))
  exact⟨rfl,a0,⟨rfl,zt⟩,hw.pk 4 [0,1,2,3] zr⟩
 ·intro hm ai ad s' σ w hk hI hb
  obtain⟨ah,ha,hw⟩:=hI
  obtain⟨τ,rfl⟩:=ha.aO
  refine RC.sr (ic ((ai:Int)) ((p0_2.length:Int)) zr zr zr zr (RL.nq (RC.cG (lY hk) (RC.ss (RC.bs ?_)))))
  obtain⟨ae,a1,hb⟩:=bd hb
  refine RL.bO (i:=2) zt zr hw zr zr zr vY a1 fun bb hw=>(RL.bP (i:=0) (x:=ae) zt zr hw zr zr kr fun bf hw=>(RL.alloc zt zr hw yA.z fun af w hw=>(RL.bC (i:=0) (j:=1) zt hw zr zr zr zr kr zr fun w hw=>(RL.ns (aM (.slice none 0 0) zr zr (RL.nq (RC.sr (mv (vp b0 0) zr zr ?_))))))))
  refine RL.nilCheck zt zr zr (RL.bF zt zr zr l9 (RL.bE (i:=3) (v:=v0_5) zt zr hw zr zr zr uO (RL.bG (i:=6) (l:=p0_5) zt zr hw zr zr yE (mv (vi 0) zr zr (RL.nt ?_)))))
  have hw:=hw.ny (i:=0) rfl
  obtain⟨aj,hN,hb⟩:=bd hb
  refine RC.fold (fun(o:Nat) (aj: (List Int)) (σ:Nat→Value) (w:World)=>∃ax:Value,agree σ [(0,(vp b0 0)),(3,(vp af 0)),(4,ax),(11,v0_2),(12,(vi (p0_2.length:Int))),(13,(vi (ai:Int))),(20,v0_5),(21,(vi (p0_5.length:Int))),(22,(vi (o:Int)))]∧Holds E w ([bc 56 b0 [v0_0,v0_1,v0_2,v0_3,v0_4,v0_5,ah,v0_7,v0_8,v0_9,v0_10,v0_11],rd v0_2 p0_2,rd v0_5 p0_5,own 53 ah ad,pt (vp af 0) ae,own 3 ax aj]++Γ)) (fun(aj: (List Int)) (σ:Nat→Value) (w:World)=>∃ak:Value,agree σ [(0,(vp b0 0)),(4,ak),(11,v0_2),(12,(vi (p0_2.length:Int))),(13,(vi (ai:Int)))]∧Holds E w ([bc 56 b0 [v0_0,v0_1,v0_2,v0_3,v0_4,v0_5,ah,v0_7,v0_8,v0_9,v0_10,v0_11],rd v0_2 p0_2,rd v0_5 p0_5,own 53 ah ad,pt (vp af 0) ae,own 3 ak aj]++Γ)) hN ?_ ?_ ?_ ?_
  ·have hw:=hw.bV Int 3
   exact⟨(.slice none 0 0),(ag zr),hw.pk 8 [4,6,7,5,1,0] zr⟩
  ·intro hm aj σ w hI
   obtain⟨a2,ha,hw⟩:=hI
   obtain⟨τ,rfl⟩:=ha.aO
   refine RC.sr (ic ((p0_5.length:Int)) ((p0_5.length:Int)) zr zr zr zr (RL.nq (RC.cH lZ (RC.ex ?_))))
   exact⟨rfl,a2,(ag zr),hw.pk 6 [0,1,2,3,4,5] zr⟩
  ·intro hm o aj s' σ w hk hI hb
   obtain⟨an,ha,hw⟩:=hI
   obtain⟨τ,rfl⟩:=ha.aO
   refine RC.sr (ic ((o:Int)) ((p0_5.length:Int)) zr zr zr zr (RL.nq (RC.cG (lY hk) (RC.ss (RC.bs (mv (vi (o:Int)) zr zr ?_))))))
   obtain⟨ar,a3,hb⟩:=bd hb
   refine RL.bO (i:=2) zt zr hw zr zr zr z6 a3 fun bg hw=>(RL.bP (i:=0) (x:=ar) zt zr hw zr zr yF fun bh hw=>(RL.alloc zt zr hw Bl.z fun bj w hw=>(aM (vi (o:Int)) zr zr (RL.bC (i:=0) (j:=1) zt hw zr zr zr zr yF zr fun w hw=>(RL.nq ?_)))))
   obtain⟨au,hj,hb⟩:=bd hb
   refine RC.jn (fun(au:Bool) (σ:Nat→Value) (w:World)=>agree σ [(0,(vp b0 0)),(3,(vp af 0)),(4,an),(5,(vi (o:Int))),(11,v0_2),(12,(vi (p0_2.length:Int))),(13,(vi (ai:Int))),(20,v0_5),(21,(vi (p0_5.length:Int))),(22,(vi (o:Int))),(40,(vb au))]∧Holds E w ([bc 56 b0 [v0_0,v0_1,v0_2,v0_3,v0_4,v0_5,ah,v0_7,v0_8,v0_9,v0_10,v0_11],rd v0_2 p0_2,rd v0_5 p0_5,own 53 ah ad,pt (vp af 0) ae,own 3 an aj]++Γ)) au ?_ ?_
   ·refine RC.region (RL.gR (i:=7) (f:=fun(x:bD)=>x.cI) zt zr hw zr zr sm lE fun bk hw=>(RL.bA (i:=0) (y:=ae.cI) zt zr hw zr zr Cz (mv (vb ae.cI) zr zr (fH hj (fun aa hj=>?_) fun aa hj=>?_))))
    rotate_left
    ·refine sk rfl (.inl (cb aa)) rfl (sk rfl (.inl (cb aa)) rfl (sk rfl (.inl (cb aa)) rfl (sk rfl (.inl (cb aa)) rfl (RL.pick (b:=ae.cI) (v:=(vb false)) trivial rfl rfl (by rw [aa];rfl) (mv (vb false) rfl rfl (sk rfl (.inl rfl) rfl (sk rfl (.inl rfl) rfl (sk rfl (.inl rfl) rfl ?_))))))))
     refine sk zr (.inl zr) zr (RL.pick (b:=false) (v:=(vb false)) zt zr zr zr (RL.nil ?_))
     obtain rfl:=oi hj
     exact⟨rfl,(ag zr),hw.pk 10 [4,5,6,7,8,9] zr⟩
    refine RL.bP (i:=8) (x:=ae) (cg aa) zr hw zr zr kr fun a4 hw=>(RL.bF (cg aa) zr zr xk (RL.aL (i:=2) (f:=(fun x=>x.aU)) (cg aa) zr hw zr zr jf bX ?_))
    obtain⟨ao,a5,hj⟩:=bd hj
    refine RL.call (cg aa) zr Bi [a4,(vi ar.aU)] zr (aF (gU N (p1:=ar.aU) (i0:=0) hw zr a5) ?_)
    rintro _ w ⟨rfl,hw⟩
    refine RL.pick (b:=ae.cI) (v:=(vb ao)) trivial rfl rfl (by rw [aa];rfl) (mv (vb ao) rfl rfl (fH hj (fun ab hj=>?_) fun ab hj=>?_))
    rotate_left
    ·refine sk rfl (.inl (cb ab)) rfl (sk rfl (.inl (cb ab)) rfl (sk rfl (.inl (cb ab)) rfl (sk rfl (.inl (cb ab)) rfl (RL.pick (b:=ao) (v:=(vb false)) trivial rfl rfl (by rw [ab];rfl) (RL.nil ?_)))))
     obtain rfl:=oi hj
     exact⟨rfl,(ag zr),hw.pk 11 [5,6,7,8,9,10] zr⟩
    refine RL.bF (cg ab) zr zr uP (RL.aY (i:=2) (f:=(fun x=>x.dQ)) (cg ab) zr hw zr zr gT qw fun a6 hw=>(RL.makeFunc (cg ab) zr [(vp af 0)] zr ?_))
    obtain⟨a7,a8,hj⟩:=bd hj
    refine RL.call (cg ab) rfl Di [a6,(.func (.func 51) #[] #[(vp af 0)])] rfl (aF (gV N (i0:=0) hw rfl ⟨51,[(vp af 0)],rfl,EK,fun w Γl v y0 r i hw hi hr=>by exact aF (lv N (i0:=i) (i1:=Γl.length+10) hw hi (uj rfl) hr) fun _ _ h=>h⟩ a8) ?_)
    rintro _ w ⟨rfl,hw⟩
    refine RL.pick (b:=ao) (v:=(vb a7)) trivial rfl rfl (by rw [ab];rfl) (RL.nil ?_)
    obtain rfl:=oi hj
    exact⟨rfl,(ag zr),hw.pk 12 [6,7,8,9,10,11] zr⟩
   rintro σ w ⟨ha,hw⟩
   obtain⟨τ,rfl⟩:=ha.aO
   refine aG ?_
   obtain⟨av,hj,hb⟩:=bd hb
   refine RC.jn (fun(av: (List Int)) (σ:Nat→Value) (w:World)=>∃aq:Value,agree σ [(0,(vp b0 0)),(3,(vp af 0)),(4,aq),(11,v0_2),(12,(vi (p0_2.length:Int))),(13,(vi (ai:Int))),(20,v0_5),(21,(vi (p0_5.length:Int))),(22,(vi (o:Int)))]∧Holds E w ([bc 56 b0 [v0_0,v0_1,v0_2,v0_3,v0_4,v0_5,ah,v0_7,v0_8,v0_9,v0_10,v0_11],rd v0_2 p0_2,rd v0_5 p0_5,own 53 ah ad,pt (vp af 0) ae,own 3 aq av]++Γ)) av ?_ ?_
   ·refine eI hj zr (fun hc hj=>?_) fun hc hj=>?_
    rotate_left
    ·refine RC.skip ?_
     obtain rfl:=oi hj
     exact⟨rfl,an,(ag zr),hw.pk 6 [0,1,2,3,4,5] zr⟩
    refine RC.region (mv an zr zr (mv (vi (o:Int)) zr zr ?_))
    have hw:=hw.sc (γ:=Int) (o:Int)
    refine RL.dY (l:=([(o:Int)]: (List Int))) zt zr hw [(vi (o:Int))] zr zr zr dM AW (fun M hs g=>⟨(g.sat 0 _ zr).1,zt⟩) fun bl w hw=>?_
    have hw:=hw.freeze (i:=0) rfl
    obtain⟨bm,a9,hj⟩:=bd hj
    refine RL.app (i:=7) (j:=0) zt zr hw zr zr zr zr qx a9 fun ay w hw=>(aM ay zr zr (RL.nil ?_))
    obtain rfl:=oi hj
    exact⟨rfl,ay,(ag zr),hw.pk 8 [2,3,4,5,6,7] zr⟩
   rintro σ w ⟨aq,ha,hw⟩
   obtain⟨τ,rfl⟩:=ha.aO
   refine bJ (aG (RC.region (RL.inc zt zr hk hm zr zr (mv (vi ((o+1:Nat):Int)) zr zr (RL.nil ?_)))))
   obtain rfl:=oi hb
   exact⟨rfl,aq,(ag zr),hw.pk 6 [0,1,2,3,4,5] zr⟩
  intro σ w hJ
  obtain⟨ak,ha,hw⟩:=hJ
  obtain⟨τ,rfl⟩:=ha.aO
  refine aG (RC.region (mv (vp b0 0) zr zr (mv (vp b0 0) zr zr (RL.nilCheck zt zr zr (RL.bF zt zr zr xl (RL.bE (i:=0) (v:=ah) zt zr hw zr zr zr Ch (mv ak zr zr ?_)))))))
  have hw:=hw.freeze (i:=5) rfl
  refine RL.dY (l:=([aj]: (List (List Int)))) zt zr hw [ak] zr zr zr yG Dj (fun M hs g=>⟨(g.sat 5 _ zr).1,zt⟩) fun bn w hw=>?_
  have hw:=hw.freeze (i:=0) rfl
  obtain⟨bo,ba,hb⟩:=bd hb
  refine RL.app (i:=4) (j:=0) zt zr hw zr zr zr zr Dk ba fun az w hw=>(RL.nilCheck zt zr zr (RL.bF zt zr zr xl (RL.fU (i:=1) (v:=az) zt hw zr zr zr zr (gm hw (i:=4) zr) Ch fun w hw=>(RL.nil (bJ (aG (RC.region (RL.inc zt zr hk hm zr zr ?_))))))))
  refine mv (vi ((ai+1:Nat):Int)) zr zr (RL.nil ?_)
  obtain rfl:=oi hb
  exact⟨rfl,az,(ag zr),hw.pk 7 [1,4,2,3] zr⟩
 intro σ w hJ
 obtain⟨al,ha,hw⟩:=hJ
 obtain⟨τ,rfl⟩:=ha.aO
 obtain rfl:=oi hb
 refine xH ?_
 exact BQ zr ⟨al,zr,hw.pk 4 [0,1] zr⟩
def oL (E:World) (Γ:List HP) (res: ((List Int))) (v:Value) (w:World):Prop:=∃(ub0:Nat) (u0_0:Value),v=vp ub0 0∧Holds E w ([bc 133 ub0 [u0_0],own 3 u0_0 res]++Γ)
theorem n7 (N:Nat) {E w:World} {Γ:List HP} {p0:Int} {res: ((List Int))} (hw:Holds E w Γ) (hb:fZ N p0=some res):
    Calls Tryz.prog 53 [(vi p0)].toArray w (fw (oL E Γ res)):=by
 unfold fZ at hb
 refine enter Tryz.func53 zr zr (Nat.le_of_ble_eq_true zr) (RC.sr (aM (.pointer none) zr zr (RL.ns (mv (vi p0) zr zr ?_))))
 obtain⟨ae,ah,hb⟩:=bd hb
 refine RL.mk (k:=p0) zt zr hw zr zr qx CV ah fun o w hw=>(RL.B1 (zs:=[(.slice none 0 0)]) (cs:=[o]) zt zr [(0,o)] zr Dl ⟨(gm hw (i:=0) zr),zt⟩ zr (RL.xN (cs:=[o]) zt zr hw zr (vF.all (⟨(gm hw (i:=0) zr),zt⟩:vF [o])) fun aa w hw=>(aM (vp aa 0) zr zr (RL.nq (RC.sr (mv (vp aa 0) zr zr (RL.nilCheck zt zr zr (RL.bF zt zr zr kd ?_))))))))
 refine RL.bE (i:=0) (v:=o) zt zr hw zr zr zr dL (RL.dC (i:=1) (l:=ae) zt zr hw zr zr jH (mv (vi 0) zr zr (RL.nt ?_)))
 obtain⟨ad,hN,hb⟩:=bd hb
 refine RC.fold (fun(ab:Nat) (ad: (List Int)) (σ:Nat→Value) (w:World)=>agree σ [(3,(vp aa 0)),(13,(vi (ae.length:Int))),(14,(vi (ab:Int)))]∧Holds E w ([bc 133 aa [o],own 3 o ad]++Γ)) (fun(ad: (List Int)) (σ:Nat→Value) (w:World)=>agree σ [(3,(vp aa 0))]∧Holds E w ([bc 133 aa [o],own 3 o ad]++Γ)) hN ?_ ?_ ?_ ?_
 ·exact⟨(ag zr),hw.pk 2 [0,1] zr⟩
 ·intro hm ad σ w hI
  obtain⟨ha,hw⟩:=hI
  obtain⟨τ,rfl⟩:=ha.aO
  refine RC.sr (ic ((ae.length:Int)) ((ae.length:Int)) zr zr zr zr (RL.nq (RC.cH lZ (RC.ex ?_))))
  exact⟨rfl,⟨rfl,zt⟩,hw.pk 2 [0,1] zr⟩
 ·intro hm ab ad s' σ w hk hI hb
  obtain⟨ha,hw⟩:=hI
  obtain⟨τ,rfl⟩:=ha.aO
  refine RC.sr (ic ((ab:Int)) ((ae.length:Int)) zr zr zr zr (RL.nq (RC.cG (lY hk) (RC.ss (RC.bs (mv (vi (ab:Int)) zr zr (aM (vi (ab:Int)) zr zr (RL.nt ?_))))))))
  refine RC.region (mv (vp aa 0) zr zr (RL.nilCheck zt zr zr (RL.bF zt zr zr kd (RL.bE (i:=0) (v:=o) zt zr hw zr zr zr dL (mv (vi (ab:Int)) zr zr (mv (vi (ab:Int)) zr zr ?_))))))
  obtain⟨ai,af,hb⟩:=bd hb
  refine RL.bB (i:=1) zt zr hw zr zr zr dM af ?_
  have hw:=hw.sc (γ:=Int) (ab:Int)
  refine RL.eO (i:=2) (j:=0) (f:=(fun _ y=>y)) trivial hw rfl rfl (gS hw (i:=2) rfl af 0) rfl (aQ af).2.1 rfl Fs.self (by decide) bX fun w hw=>(RL.nil (bJ (aG (RC.region (RL.inc trivial rfl hk hm rfl rfl (mv (vi ((ab+1:Nat):Int)) rfl rfl (RL.nil ?_)))))))
  obtain rfl:=oi hb
  exact⟨rfl,(ag zr),hw.pk 3 [1,2] zr⟩
 intro σ w hJ
 obtain⟨ha,hw⟩:=hJ
 obtain⟨τ,rfl⟩:=ha.aO
 refine aG (RC.sr (mv (vp aa 0) zr zr (aM (vp aa 0) zr zr (RL.nt (RC.ret ?_)))))
 obtain rfl:=oi hb
 exact bQ zr zr ⟨aa,o,zr,hw.pk 2 [0,1] zr⟩
def n8 (E:World) (Γ:List HP) (b0:Nat) (res:Int×(List Int)) (v:Value) (w:World):Prop:=∃u0_0:Value,v= (vi res.1)∧Holds E w ([bc 133 b0 [u0_0],own 3 u0_0 res.2]++Γ)
theorem hG (N:Nat) {E w:World} {Γ:List HP} {b0:Nat} {v0_0:Value} {p0_0: (List Int)} {p1:Int} {res:Int×(List Int)} (hw:Holds E w (bc 133 b0 [v0_0]::own 3 v0_0 p0_0::Γ)) (hb:cX N p0_0 p1=some res):
    Calls Tryz.prog 74 [(vp b0 0),(vi p1)].toArray w (fw (n8 E Γ b0 res)):=by
 unfold cX at hb
 refine enter Tryz.func74 zr zr (Nat.le_of_ble_eq_true zr) (RC.sr (aM (vi 0) zr zr (RL.nq ?_)))
 obtain⟨ak,hN,hb⟩:=bd hb
 refine RC.iter (fun(o: (List Int)×Int) (σ:Nat→Value) (w:World)=>agree σ [(0,(vp b0 0)),(1,(vi o.2))]∧Holds E w ([bc 133 b0 [v0_0],own 3 v0_0 o.1]++Γ)) (fun(o: (List Int)×Int) (σ:Nat→Value) (w:World)=>agree σ [(0,(vp b0 0)),(1,(vi o.2))]∧Holds E w ([bc 133 b0 [v0_0],own 3 v0_0 o.1]++Γ)) (fun(r:Empty) (_:Nat→Value) (_:World)=>r.elim) hN ?_ ?_ ?_ ?_
 ·exact⟨(ag zr),hw.pk 2 [0,1] zr⟩
 ·intro o fl σ w hI hb
  obtain⟨ha,hw⟩:=hI
  obtain⟨τ,rfl⟩:=ha.aO
  refine RC.seq (RC.sr (mv (vp b0 0) zr zr (RL.nilCheck zt zr zr (RL.bF zt zr zr kd (RL.bE (i:=0) (v:=v0_0) zt zr hw zr zr zr dL (mv (vi o.2) zr zr ?_))))))
  obtain⟨ah,aa,hb⟩:=bd hb
  refine RL.bB (i:=1) zt zr hw zr zr zr dM aa (RL.cF (i:=1) (f:=(fun x=>x)) zt zr hw zr (gS hw (i:=1) zr aa 0) zr (aQ aa).2.1 Fd.self bX (mv (vi o.2) zr zr (ic ah (o.2) zr zr zr zr (RL.nt (eI hb zr (fun hc hb=>?_) fun hc hb=>?_)))))
  rotate_left
  ·refine RC.ex ?_
   obtain rfl:=oi hb
   exact⟨rfl,(ag zr),hw.pk 2 [0,1] zr⟩
  refine RC.sn (RC.block (RC.seq (RC.BH mixed rfl [0,0,0,0,0,0,0,0,0,0,0,0,0,0,0,0,0,0,0,2] [0,1,2,3,4,5,6,7,8,9,10,11,12,13,14,15,16,17,18,19] (by kernel_rfl) ?_)))
  have hw:=hw.drew
  refine DP.e0 zr zr (mv (vp b0 0) zr zr (dO zr zr (RL.nilCheck zt zr zr (dO zr zr (RL.bF zt zr zr kd (dO zr zr (RL.bE (i:=0) (v:=v0_0) zt zr hw zr zr zr dL (dO zr zr ?_))))))))
  refine mv (vi o.2) zr zr (dO zr zr (mv (vp b0 0) zr zr (dO zr zr (RL.nilCheck zt zr zr (dO zr zr (RL.bF zt zr zr kd (dO zr zr (RL.bE (i:=0) (v:=v0_0) zt zr hw zr zr zr dL ?_))))))))
  refine dO zr zr (mv (vp b0 0) zr zr (dO zr zr (RL.nilCheck zt zr zr (dO zr zr (RL.bF zt zr zr kd (dO zr zr (RL.bE (i:=0) (v:=v0_0) zt zr hw zr zr zr dL (dO zr zr ?_))))))))
  refine mv (vi o.2) zr zr (dO zr zr ?_)
  obtain⟨al,ab,hb⟩:=bd hb
  refine RL.bB (i:=1) zt zr hw zr zr zr dM ab (dO zr zr (RL.cF (i:=1) (f:=(fun x=>x)) zt zr hw zr (gS hw (i:=1) zr ab 0) zr (aQ ab).2.1 Fd.self bX (dO zr zr ?_)))
  obtain⟨ai,ad,hb⟩:=bd hb
  refine RL.bB (i:=1) zt zr hw zr zr zr dM ad (dO zr zr (RL.cF (i:=1) (f:=(fun x=>x)) zt zr hw zr (gS hw (i:=1) zr ad 0) zr (aQ ad).2.1 Fd.self bX (dO zr zr ?_)))
  obtain⟨an,ae,hb⟩:=bd hb
  refine RL.bB (i:=1) zt zr hw zr zr zr dM ae (AV zr zr ?_)
  have hw:=hw.sc (γ:=Int) ai
  refine RL.eO (i:=2) (j:=0) (f:=(fun _ y=>y)) trivial hw rfl rfl (gS hw (i:=2) rfl ae 0) rfl (aQ ae).2.1 rfl Fs.self (by decide) bX fun w hw=>(DP.d2 trivial (DP.z (aG (RC.region (mv (vp b0 0) rfl rfl (RL.nilCheck trivial rfl rfl (RL.bF trivial rfl rfl kd (RL.bE (i:=1) (v:=v0_0) trivial rfl hw rfl rfl rfl dL ?_))))))))
  refine mv (vi o.2) zr zr ?_
  obtain⟨aj,af,hb⟩:=bd hb
  refine RL.bB (i:=2) zt zr hw zr zr zr dM af (RL.cF (i:=2) (f:=(fun x=>x)) zt zr hw zr (gS hw (i:=2) zr af 0) zr (aQ af).2.1 Fd.self bX (aM (vi aj) zr zr (RL.nil (bJ ?_))))
  obtain rfl:=oi hb
  exact⟨rfl,(ag zr),hw.pk 3 [1,2] zr⟩
 ·intro r _ _ _ _
  exact r.elim
 intro o σ w e hJ
 subst e
 rw [Fo.eT] at hb
 obtain⟨ha,hw⟩:=hJ
 obtain⟨τ,rfl⟩:=ha.aO
 refine aG (RC.sr (mv (vi o.2) zr zr (aM (vi o.2) zr zr (RL.nt (RC.ret ?_)))))
 obtain rfl:=oi hb
 exact bQ zr zr ⟨v0_0,zr,hw.pk 2 [0,1] zr⟩
def m9 (E:World) (Γ:List HP) (b0:Nat) (res: (List Int)) (v:Value) (w:World):Prop:=∃u0_0:Value,v = .tuple #[]∧Holds E w ([bc 133 b0 [u0_0],own 3 u0_0 res]++Γ)
theorem mF (N:Nat) {E w:World} {Γ:List HP} {b0:Nat} {v0_0:Value} {p0_0: (List Int)} {p1:Int} {p2:Int} {res: (List Int)} (hw:Holds E w (bc 133 b0 [v0_0]::own 3 v0_0 p0_0::Γ)) (hb:dH N p0_0 p1 p2=some res):
    Calls Tryz.prog 54 [(vp b0 0),(vi p1),(vi p2)].toArray w (fw (m9 E Γ b0 res)):=by
 unfold dH at hb
 refine enter Tryz.func54 zr zr (Nat.le_of_ble_eq_true zr) (RC.sr (mv (vp b0 0) zr zr (mv (vi p1) zr zr ?_)))
 have hw:=hw.pull (i:=1) rfl
 have hw:=hw.pull (i:=1) rfl
 obtain⟨o,ae,hb⟩:=bd hb
 refine RL.call zt zr Cj [(vp b0 0),(vi p1)] zr (aF (hG N (p1:=p1) hw ae) ?_)
 rintro _ w ⟨ag,rfl,hw⟩
 refine mv (vp b0 0) zr zr (mv (vi p2) zr zr ?_)
 have hw:=hw.pull (i:=1) rfl
 have hw:=hw.pull (i:=1) rfl
 obtain⟨aa,af,hb⟩:=bd hb
 refine RL.call zt zr Cj [(vp b0 0),(vi p2)] zr (aF (hG N (p1:=p2) hw af) ?_)
 rintro _ w ⟨ad,rfl,hw⟩
 refine aM (vi o.1) zr zr (aM (vi aa.1) zr zr (RL.nt (RC.region (mv (vp b0 0) zr zr (RL.nilCheck zt zr zr (RL.bF zt zr zr kd (RL.bE (i:=0) (v:=ad) zt zr hw zr zr zr dL (mv (vi o.1) zr zr ?_))))))))
 refine mv (vi aa.1) zr zr (RL.max (a:=o.1) (b:=aa.1) zt zr zr zr (mv (vi o.1) zr zr (mv (vi aa.1) zr zr (RL.min (a:=o.1) (b:=aa.1) zt zr zr zr ?_))))
 obtain⟨ah,ab,hb⟩:=bd hb
 refine RL.bB (i:=1) zt zr hw zr zr zr dM ab ?_
 have hw:=hw.sc (γ:=Int) (if aa.1<o.1 then aa.1 else o.1)
 refine RL.eO (i:=2) (j:=0) (f:=(fun _ y=>y)) trivial hw rfl rfl (gS hw (i:=2) rfl ab 0) rfl (aQ ab).2.1 rfl Fs.self (by decide) bX fun w hw=>(RL.nil ?_)
 obtain rfl:=oi hb
 refine xH ?_
 exact BQ zr ⟨ad,zr,hw.pk 7 [1,2] zr⟩
end Go.Gk
