/-
  Printed texts: Go functions as plain functions, and that they are. No statement of the seed is proved here.
-/
import Derived.Test.YtjocleflknekmabGreatDoorG1
import Derived.Test.YtjocleflknekmabGreatDoorG2
import Derived.Test.YtjocleflknekmabGreatDoorA2
set_option linter.unusedVariables false
set_option linter.unusedSimpArgs false
set_option linter.unusedSectionVars false
set_option maxRecDepth 100000
set_option maxHeartbeats 40000000
namespace Go.Gk
open Go Go.Proofs
variable (N:Nat) {E w:World} {i0 i1:Nat} {p0 p1 p2 p3 res:Int} {v0 v1:Value} {V:List HP}
theorem mh {p0: (List aA)} {res: (List aJ)} (j:Holds E w V) (h0:V[i0]? =some (rd v0 p0)) (o:iD N p0=some res):
    Calls bB 91 [v0].toArray w (gr (lR E V res)):=by
 unfold iD at o
 refine enter Tryz.func91 zr zr ?_
 have j:=j.dup (i0+0) h0
 refine RC.sr (aM (.slice none 0 0) (RL.ns (aM (.slice none 0 0) (RL.nq (RC.sr (mv v0 (RL.bF 0 p0 j nU (mv (vi 0) ?_))))))))
 refine RL.nt ?_
 obtain⟨ad,hN,o⟩:=bd o
 refine RC.fold (fun(ae:Nat) (ad: (List aJ)) U w=>∃an:Value,SH E V [(3,an),(7,v0),(8,vi p0.length),(9,vi ae)] [rd v0 p0,own 83 an ad] U w) (fun(ad: (List aJ)) U w=>∃af:Value,SH E V [(3,af)] [rd v0 p0,own 83 af ad] U w) hN ?_ ?_ ?_ ?_
 ·have j:=j.cW aJ 83
  exact⟨(.slice none 0 0),j.sp 2 [1,0]⟩
 ·rintro hm ad _ w ⟨av,O,rfl,j⟩
  refine RC.sr (ic ((p0.length:Int)) ((p0.length:Int)) (RL.nq (RC.cP mz (RC.ex ?_))))
  exact⟨rfl,av,j.sp 2 [0,1]⟩
 ·rintro hm ae ad s' _ w hk ⟨aw,O,rfl,j⟩ o
  refine RC.sr (ic ((ae:Int)) ((p0.length:Int)) (RL.nq (RC.cO (my hk) (RC.ss (RC.bs ?_)))))
  obtain⟨ab,ax,o⟩:=bd o
  refine RL.cA 0 j ky ax fun a3 j=>(RL.bC 0 ab j vF fun a4 j=>(RL.alloc j Cp.z fun ak w j=>?_))
  refine RL.bD 0 j 1 zr vF fun w j=>?_
  refine RL.ns (aM (vi 0) (RL.nt ?_))
  obtain⟨a5,hN,o⟩:=bd o
  refine RC.iter (fun(aa: (List aJ)×Int) U w=>∃ar:Value,SH E V [(3,ar),(5,vp ak 0),(6,vi aa.2),(7,v0),(8,vi p0.length),(9,vi ae)] [bx 153 ak ab,rd v0 p0,own 83 ar aa.1] U w) (fun(aa: (List aJ)×Int) U w=>∃ai:Value,SH E V [(3,ai),(7,v0),(8,vi p0.length),(9,vi ae)] [bx 153 ak ab,rd v0 p0,own 83 ai aa.1] U w) (fun(r:Empty) _ _=>r.elim) hN ?_ ?_ ?_ ?_
  ·exact⟨aw,j.sp 5 [0,3,4]⟩
  ·rintro aa fl _ w ⟨al,O,rfl,j⟩ o
   refine RC.seq (RC.sr (mv (vi aa.2) (RL.bH zr kO (RL.aN 0 j zr dF fU fun a7 j=>(RL.bF 0 ab.Xs j nC (ic aa.2 ((ab.Xs.length:Int)) (RL.nt (eH o (fun hc o=>?_) fun hc o=>?_))))))))
   rotate_left
   ·refine RC.ex ?_
    obtain rfl:=oi o
    exact⟨rfl,al,j.sp 4 [1,2,3]⟩
   refine RC.ss (RC.block (RC.Cg mixed [1,0,0,0,0,0,0,0,0,0,0,0,0,0,0,0,0,2,2,0] [0,1,2,3,4,5,6,7,8,9,10,11,12,13,14,15,16,17,18,19] ?_))
   have j:=j.drew
   refine DP.e1 al zr (fun w=>RL.move al zt DP.d1) (DP.e0 zr (RL.bH zr kO (dA zr (RL.aN 1 j zr dF fU fun a8 j=>(dA zr (mv (vi aa.2) (dA zr ?_)))))))
   obtain⟨ag,az,o⟩:=bd o
   refine RL.cA 0 j fV az fun a9 j=>(dA zr (RL.bQ ag 0 j dE (dA zr (RL.bH zr n8 (dA zr (RL.aP 3 j zr fT dE (dA zr (RL.bH zr kO ?_))))))))
   refine dA zr (RL.aN 3 j zr dF fU fun ba j=>(dA zr (mv (vi aa.2) (dA zr (RL.jQ aa.2 1 (dA zr ?_))))))
   obtain⟨ah,a0,o⟩:=bd o
   refine RL.cA 0 j fV a0 fun bb j=>(dA zr (RL.bQ ah 0 j dE (dA zr (RL.bH zr mc (dA zr (RL.aP 5 j zr eK dE (dA zr ?_)))))))
   have j:=(((j.sc Int ag).sc Int ab.Y0).sc Int ah).sc Int ab.Y1
   refine RL.build (⟨ag,ab.Y0,ah,ab.Y1⟩:aJ) trivial rfl j [(0,vi ag),(1,vi ab.Y0),(2,vi ah),(3,vi ab.Y1)] rfl Fg rfl (fun M hs g=>by have h:=uI M;exact cZ.cons (f:=fun(x:aJ) y=>{x with X0:=y}) h pX (g.sat 3 _ rfl).1 fun _ h=>cZ.cons (f:=fun(x:aJ) y=>{x with Y0:=y}) h tD (g.sat 2 _ rfl).1 fun _ h=>cZ.cons (f:=fun(x:aJ) y=>{x with X1:=y}) h pY (g.sat 1 _ rfl).1 fun _ h=>cZ.cons (f:=fun(x:aJ) y=>{x with Y1:=y}) h tE (g.sat 0 _ rfl).1 fun _ h=>cZ.nil h) fun a1 j=>?_
   refine xt zr (RL.eF ([(⟨ag,ab.Y0,ah,ab.Y1⟩:aJ)]: (List aJ)) j [a1] mH pH (fun M hs g=>⟨(g.sat 0 _ zr).1,zt⟩) fun bc w j=>(Iq zr ?_))
   have j:=j.freeze 0
   obtain⟨bf,a2,o⟩:=bd o
   refine RL.app 13 0 j Ff a2 fun au w j=>?_
   refine Dh zr (aM au (DP.d0 (DP.z (bO (aG (RC.region (mv (vi aa.2) (RL.jQ aa.2 2 ?_))))))))
   refine aM (vi (IntKind.wrap .i64 (aa.2+2))) (RL.nil ?_)
   obtain rfl:=oi o
   exact⟨rfl,au,j.sp 14 [11,12,13]⟩
  ·intro r _ _ _ _
   exact r.elim
  rintro aa _ w rfl ⟨ai,O,rfl,j⟩
  rw [Fo.fW] at o
  refine bO (aG (RC.region (RL.inc hk hm (mv (vi ((ae+1:Nat):Int)) (RL.nil ?_)))))
  obtain rfl:=oi o
  exact⟨rfl,ai,j.sp 3 [1,2]⟩
 rintro _ w ⟨af,O,rfl,j⟩
 refine aG (RC.sr (mv af (aM af (RL.nt (RC.ret ?_)))))
 obtain rfl:=oi o
 exact bU (j.pk 2 [1])
def t4 (E:World) (V:List HP) (r:Bool) (U:Nat->Value) (w:World):Prop:=mu bB 26 Tryz.f90 (bA E V r) .ret U w
theorem sO {p0: (List aJ)} {p1: (List aJ)} {res:Bool} (o:Holds E w V) (h0:V[i0]? =some (rd v0 p0)) (h1:V[i1]? =some (rd v1 p1)) (hb:jz N p0 p1=some res):
    Calls bB 90 [v0,v1].toArray w (gr (bA E V res)):=by
 unfold jz at hb
 refine enter Tryz.func90 zr zr ?_
 have o:=(o.dup (i0+0) h0).dup (i1+1) h1
 refine RC.sr (aM (vb false) (RL.nq (RC.sr (mv v0 (RL.bF 1 p0 o sB (mv v1 (RL.bF 0 p1 o sB (ic ((p0.length:Int)) ((p1.length:Int)) ?_))))))))
 refine RL.nt (eH hb (fun hc hb=>?_) fun hc hb=>?_)
 ·refine RC.sr (aM (vb false) (RL.nt (RC.rt ?_)))
  obtain rfl:=oi hb
  exact bU ⟨rfl,o.drop 2⟩
 refine RC.ss (RC.sr (mv v0 (RL.bF 1 p0 o sB (mv (vi 0) (RL.nt ?_)))))
 obtain⟨ao,hN,hb⟩:=bd hb
 refine RC.range (fun(ab:Nat) (ad:Unit)=>SH E V [(0,v0),(1,v1),(12,vi p0.length),(13,vi ab)] [rd v0 p0,rd v1 p1]) (fun(ad:Unit)=>SH E V [] [rd v0 p0,rd v1 p1]) (t4 E V) hN ?_ ?_ ?_ ?_ ?_
 ·exact o.sp 2 [1,0]
 ·rintro hm ad _ w ⟨O,rfl,o⟩
  refine RC.sr (ic ((p0.length:Int)) ((p0.length:Int)) (RL.nq (RC.cP mz (RC.ex ?_))))
  exact⟨rfl,o.sp 2 [0,1]⟩
 ·rintro hm ab ad fl _ w hk ⟨O,rfl,o⟩ hb
  refine RC.sr (ic ((ab:Int)) ((p0.length:Int)) (RL.nq (RC.cO (my hk) (RC.ss (RC.bs (mv (vi ab) (aM (vi ab) (RL.nq ?_))))))))
  refine RC.zA mixed ?_
  have o:=o.drew
  refine RO.go (mv v0 (RO.nx (mv (vi ab) (RO.nx ?_))))
  obtain⟨ah,ak,hb⟩:=bd hb
  refine RL.cA 0 o mH ak fun ar o=>(RO.nx (RL.bC 0 ah o jf fun au o=>(RO.nx (mv v1 (RO.nx (mv (vi ab) (RO.nx ?_)))))))
  obtain⟨ai,al,hb⟩:=bd hb
  refine RL.cA 3 o mH al fun av o=>(RO.nx (RL.bC 0 ai o jf fun aw o=>(RO.nx (RL.N3 (i:=2) (j:=0) (a:=ah) (b:=ai) zt zr o zr zr zr zr Jl zr (RO.last (aG (eH hb (fun hc hb=>?_) fun hc hb=>?_)))))))
  rotate_left
  ·refine RC.skip (bO (aG (RC.region (RL.inc hk hm (mv (vi ((ab+1:Nat):Int)) (RL.nil ?_))))))
   obtain rfl:=oi hb
   exact⟨rfl,o.sp 6 [4,5]⟩
  refine RC.sr (aM (vb false) (RL.nt (RC.rb (bN ?_))))
  obtain rfl:=oi hb
  exact⟨rfl,bU ⟨rfl,o.drop 6⟩⟩
 ·intro r U w e hK
  subst e
  refine bN ?_
  obtain rfl:=oi hb
  exact hK
 rintro ad _ w rfl ⟨O,rfl,o⟩
 rw [Fo.fW] at hb
 refine aG (RC.sr (aM (vb true) (RL.nt (RC.ret ?_))))
 obtain rfl:=oi hb
 exact bU ⟨rfl,o.drop 2⟩
def t5 (E:World) (V:List HP) (r:Int) (U:Nat->Value) (w:World):Prop:=mu bB 52 Tryz.f44 (aH E V r) .ret U w
theorem nF {p0: (List aJ)} (j:Holds E w V) (h0:V[i0]? =some (rd v0 p0)) (hb:iv N p0=some res):
    Calls bB 44 [v0].toArray w (gr (aH E V res)):=by
 unfold iv at hb
 refine enter Tryz.func44 zr zr ?_
 have j:=j.dup (i0+0) h0
 refine RC.sr (aM (vi 0) (RL.nq (RC.sr (mv v0 ?_))))
 obtain⟨av,ay,hb⟩:=bd hb
 refine RL.call zt zr Mz [v0] zr (aF (tZ N (i0:=0) j zr ay) ?_)
 rintro _ w ⟨rfl,j⟩
 refine aM (vi av) (RL.ns (mv (vi av) (ic av 0 (RL.nt (eH hb (fun hc hb=>?_) fun hc hb=>?_)))))
 ·refine RC.sr (mv (vi av) (aM (vi av) (RL.nt (RC.rt ?_))))
  obtain rfl:=oi hb
  exact bU ⟨rfl,j.drop 1⟩
 refine RC.ss (RC.sr (aM (vi 1) (RL.nt ?_)))
 obtain⟨bg,hN,hb⟩:=bd hb
 refine RC.iter (fun(ao:Int)=>SH E V [(0,v0),(4,vi ao)] [rd v0 p0]) (fun(ao:Int)=>SH E V [(0,v0)] [rd v0 p0]) (t5 E V) hN ?_ ?_ ?_ ?_
 ·exact j.sp 1 [0]
 ·rintro ao fl _ w ⟨O,rfl,j⟩ hb
  refine RC.seq (RC.sr (mv (vi ao) (mv v0 (RL.bF 0 p0 j sB (ic ao ((p0.length:Int)) (RL.nt (eH hb (fun hc hb=>?_) fun hc hb=>?_)))))))
  rotate_left
  ·refine RC.ex ?_
   obtain rfl:=oi hb
   exact⟨rfl,j.sp 1 [0]⟩
  refine RC.ss (RC.block (RC.seq ?_))
  obtain⟨o,a1,hb⟩:=bd hb
  obtain⟨aa,a2,hb⟩:=bd hb
  refine RC.Gf E V mixed [1,1,1,0,0,1,1,0,0,0,0,0,0] [3,4,7,8,9,10,11,12] (fun(x:Value×Value×Value×Value×Nat×Nat)=>(fun ah ai aj ak ae af=>[(0,18,v0),(1,19,(vi ao)),(2,20,(vi (IntKind.wrap .i64 (ao - 1)))),(3,21,ah),(4,22,ai),(5,23,v0),(6,24,(vi ao)),(7,25,aj),(8,26,ak),(9,5,(vp ae 0)),(10,6,(vp af 0))]) x.1 x.2.1 x.2.2.1 x.2.2.2.1 x.2.2.2.2.1 x.2.2.2.2.2) [(0,v0),(4,vi ao)] [] (fun(D:Nat->Bool) (x:Value×Value×Value×Value×Nat×Nat)=>(fun ah ai aj ak ae af=>[bif D 0 then (pt ah o) else aW,bif D 1 then (rd ai o) else aW,bif D 2 then (pt aj aa) else aW,bif D 3 then (rd ak aa) else aW,bif D 6 then (bx 83 ae o) else (bif D 4 then (raw 83 ae 4) else aW),bif D 7 then (bx 83 af aa) else (bif D 5 then (raw 83 af 4) else aW),rd v0 p0]) x.1 x.2.1 x.2.2.1 x.2.2.2.1 x.2.2.2.2.1 x.2.2.2.2.2) (fun x=>by kernel_rfl) ?_ ⟨fun _=>jZ gn,fun _=>jZ gn,fun _=>JL gn rfl,?_,?_,fun _=>jZ gn,fun _=>jZ gn,?_,?_,?_,?_,?_,?_,trivial⟩ ?_
  ·have j:=((((((j.drew).aW).aW).aW).aW).aW).aW
   exact⟨(undef,undef,undef,undef,0,0),eB.none,(Et zr),zt,j⟩
  ·rintro D U w hD ag aq ⟨⟨ah,ai,aj,ak,ae,af⟩,hv,ha,_,j⟩
   obtain⟨O,rfl⟩:=(ac (hv.at 0 rfl (ag.1 rfl)) (ac (hv.at 2 rfl (ag.2.1 rfl)) az)).fC
   have j:=j.bP 0 hD
   refine RL.cA 6 j mH a1 fun a3 j=>?_
   have j:=(j.pl 8 [0,2,3,4,5,6,7]).cI 0 true rfl aW
   exact RL.nil ⟨rfl,(a3,ai,aj,ak,ae,af),hv.pu 3,ha.u,zt,j⟩
  ·rintro D U w hD ag aq ⟨⟨ah,ai,aj,ak,ae,af⟩,hv,ha,_,j⟩
   obtain⟨O,rfl⟩:=(ac (hv.at 3 rfl (ag.1 rfl)) az).fC
   have j:=(j.cH 0 (ag.1 rfl)).bP 1 hD
   refine RL.bC 0 o j jf fun a4 j=>?_
   have j:=((j.pl 8 [1,0,3,4,5,6,7]).cI 0 (D 3) (ag.1 rfl) aW).cI 1 true rfl aW
   exact RL.nil ⟨rfl,(ah,a4,aj,ak,ae,af),hv.pu 4,ha.u,zt,j⟩
  ·rintro D U w hD ag aq ⟨⟨ah,ai,aj,ak,ae,af⟩,hv,ha,_,j⟩
   obtain⟨O,rfl⟩:=(ac (hv.at 5 rfl (ag.1 rfl)) (ac (hv.at 6 rfl (ag.2.1 rfl)) az)).fC
   have j:=j.bP 2 hD
   refine RL.cA 6 j mH a2 fun a5 j=>?_
   have j:=(j.pl 8 [1,2,0,4,5,6,7]).cI 2 true rfl aW
   exact RL.nil ⟨rfl,(ah,ai,a5,ak,ae,af),hv.pu 7,ha.u,zt,j⟩
  ·rintro D U w hD ag aq ⟨⟨ah,ai,aj,ak,ae,af⟩,hv,ha,_,j⟩
   obtain⟨O,rfl⟩:=(ac (hv.at 7 rfl (ag.1 rfl)) az).fC
   have j:=(j.cH 2 (ag.1 rfl)).bP 3 hD
   refine RL.bC 2 aa j jf fun a6 j=>?_
   have j:=((j.pl 8 [1,2,3,0,5,6,7]).cI 2 (D 7) (ag.1 rfl) aW).cI 3 true rfl aW
   exact RL.nil ⟨rfl,(ah,ai,aj,a6,ae,af),hv.pu 8,ha.u,zt,j⟩
  ·rintro D U w hD ag aq ⟨⟨ah,ai,aj,ak,ae,af⟩,hv,ha,_,j⟩
   obtain⟨O,rfl⟩:=(az (U:=U)).fC
   have j:=(j.bP 4 (nh aq hD 11)).bP 4 hD
   refine RL.alloc j pH.z fun aw w j=>?_
   have j:=((j.pl 8 [1,2,3,4,0,6,7]).cI 4 true rfl aW).dY 4 (D 11) (nh aq hD 11) (bx 83 aw o)
   exact RL.nil ⟨rfl,(ah,ai,aj,ak,aw,af),hv.pu 9,ha.u,zt,j⟩
  ·rintro D U w hD ag aq ⟨⟨ah,ai,aj,ak,ae,af⟩,hv,ha,_,j⟩
   obtain⟨O,rfl⟩:=(az (U:=U)).fC
   have j:=(j.bP 5 (nh aq hD 12)).bP 5 hD
   refine RL.alloc j pH.z fun ax w j=>?_
   have j:=((j.pl 8 [1,2,3,4,5,0,7]).cI 5 true rfl aW).dY 5 (D 12) (nh aq hD 12) (bx 83 ax aa)
   exact RL.nil ⟨rfl,(ah,ai,aj,ak,ae,ax),hv.pu 10,ha.u,zt,j⟩
  ·rintro D U w hD ag aq ⟨⟨ah,ai,aj,ak,ae,af⟩,hv,ha,_,j⟩
   obtain⟨O,rfl⟩:=(ac (hv.at 4 rfl (ag.2.1 rfl)) (ac (hv.at 9 rfl (ag.1 rfl)) az)).fC
   have j:=((j.cH 1 (ag.2.1 rfl)).bP 4 hD).cH 4 (ag.1 rfl)
   refine RL.bD 4 j 1 zr jf fun w j=>?_
   have j:=(j.cI 1 (D 4) (ag.2.1 rfl) aW).cI 4 true rfl (bif D 9 then (raw 83 ae 4) else aW)
   exact RL.nil ⟨rfl,(ah,ai,aj,ak,ae,af),hv.n1,ha,zt,j⟩
  ·rintro D U w hD ag aq ⟨⟨ah,ai,aj,ak,ae,af⟩,hv,ha,_,j⟩
   obtain⟨O,rfl⟩:=(ac (hv.at 8 rfl (ag.2.1 rfl)) (ac (hv.at 10 rfl (ag.1 rfl)) az)).fC
   have j:=((j.cH 3 (ag.2.1 rfl)).bP 5 hD).cH 5 (ag.1 rfl)
   refine RL.bD 5 j 3 zr jf fun w j=>?_
   have j:=(j.cI 3 (D 8) (ag.2.1 rfl) aW).cI 5 true rfl (bif D 10 then (raw 83 af 4) else aW)
   exact RL.nil ⟨rfl,(ah,ai,aj,ak,ae,af),hv.n1,ha,zt,j⟩
  rintro D U w ar ⟨⟨ah,ai,aj,ak,ae,af⟩,hv,ha,_,j⟩
  have j:=(((((j.cH 0 (kD ar 3)).cH 1 (kD ar 4)).cH 2 (kD ar 7)).cH 3 (kD ar 8)).cH 4 (kD ar 11)).cH 5 (kD ar 12)
  obtain⟨O,rfl⟩:=(ac (hv.at 9 rfl (kD ar 9)) (ac (hv.at 10 rfl (kD ar 10)) (ac (ha.at 0 rfl) (ac (ha.at 1 rfl) az)))).fC
  refine aG (RC.sr (RL.bH zr k9 (RL.aP 5 j zr gl dE (RL.bH zr k9 (RL.aP 4 j zr gl dE (ic aa.Y0 o.Y0 (mv (vb (decide (aa.Y0<o.Y0))) (RL.gs true (decide (aa.Y0<o.Y0)) (vp af 1) zr zr zr (fA k9) ?_))))))))
  refine RL.gs true (decide (aa.Y0<o.Y0)) (vi aa.Y0) rfl rfl rfl (cL 5 rfl j (fun h=>by exact(dI h:cv (true&&((decide (aa.Y0<o.Y0))==false)) (vp af 1)= (vp af 1))) rfl gl dE) (RL.gs true (decide (aa.Y0<o.Y0)) (vp ae 1) rfl rfl rfl (fA k9) (RL.gs true (decide (aa.Y0<o.Y0)) (vi o.Y0) rfl rfl rfl (cL 4 rfl j (fun h=>by exact(dI h:cv (true&&((decide (aa.Y0<o.Y0))==false)) (vp ae 1)= (vp ae 1))) rfl gl dE) (RL.gs true (decide (aa.Y0<o.Y0)) (vb (aa.Y0==o.Y0)) rfl rfl rfl (eM .eql .i64 aa.Y0 o.Y0 rfl (fun h=>by exact(dI h:cv (true&&((decide (aa.Y0<o.Y0))==false)) (vi aa.Y0)= (vi aa.Y0))) (fun h=>by exact(dI h:cv (true&&((decide (aa.Y0<o.Y0))==false)) (vi o.Y0)= (vi o.Y0))) rfl) (RL.gs true (decide (aa.Y0<o.Y0)) (vb (aa.Y0==o.Y0)) rfl rfl rfl (dQ (hx:=fun h=>by exact(dI h:cv (true&&((decide (aa.Y0<o.Y0))==false)) (vb (aa.Y0==o.Y0))= (vb (aa.Y0==o.Y0))))) (RL.gs (true&&((decide (aa.Y0<o.Y0))==false)) (aa.Y0==o.Y0) (vp af 0) rfl rfl rfl (fA kn) (RL.gs (true&&((decide (aa.Y0<o.Y0))==false)) (aa.Y0==o.Y0) (vi aa.X0) rfl rfl rfl (cL 5 rfl j (fun h=>by exact(dI h:cv ((true&&((decide (aa.Y0<o.Y0))==false))&&((aa.Y0==o.Y0)==true)) (vp af 0)= (vp af 0))) rfl fK dE) (RL.gs (true&&((decide (aa.Y0<o.Y0))==false)) (aa.Y0==o.Y0) (vp ae 0) rfl rfl rfl (fA kn) (RL.gs (true&&((decide (aa.Y0<o.Y0))==false)) (aa.Y0==o.Y0) (vi o.X0) rfl rfl rfl (cL 4 rfl j (fun h=>by exact(dI h:cv ((true&&((decide (aa.Y0<o.Y0))==false))&&((aa.Y0==o.Y0)==true)) (vp ae 0)= (vp ae 0))) rfl fK dE) ?_))))))))
  refine RL.gs (true&&((decide (aa.Y0<o.Y0))==false)) (aa.Y0==o.Y0) (vb (decide (aa.X0<=o.X0))) rfl rfl rfl (eM .leq .i64 aa.X0 o.X0 rfl (fun h=>by exact(dI h:cv ((true&&((decide (aa.Y0<o.Y0))==false))&&((aa.Y0==o.Y0)==true)) (vi aa.X0)= (vi aa.X0))) (fun h=>by exact(dI h:cv ((true&&((decide (aa.Y0<o.Y0))==false))&&((aa.Y0==o.Y0)==true)) (vi o.X0)= (vi o.X0))) rfl) (RL.gs true (decide (aa.Y0<o.Y0)) (vb ((aa.Y0==o.Y0)&&(decide (aa.X0<=o.X0)))) rfl rfl rfl (tz (aa.Y0==o.Y0) rfl (fun h=>by exact(dI h:cv (true&&((decide (aa.Y0<o.Y0))==false)) (vb (aa.Y0==o.Y0))= (vb (aa.Y0==o.Y0)))) (fun h=>by exact kg (h:=h) (true&&((decide (aa.Y0<o.Y0))==false)))) (RL.pick (decide (aa.Y0<o.Y0)) (vb ((decide (aa.Y0<o.Y0))||((aa.Y0==o.Y0)&&(decide (aa.X0<=o.X0))))) (nz true) (RL.nt (eH hb (fun hc hb=>?_) fun hc hb=>?_))))
  ·refine RC.sr (aM (vi 8) (RL.nt (RC.rb (bN ?_))))
   obtain rfl:=oi hb
   exact⟨rfl,bU ⟨rfl,j.drop 7⟩⟩
  refine RC.skip (bO (aG (RC.region (mv (vi ao) (RL.jQ ao 1 (aM (vi (IntKind.wrap .i64 (ao+1))) (RL.nil ?_)))))))
  obtain rfl:=oi hb
  exact⟨rfl,j.sp 7 [6]⟩
 ·intro r U w e hK
  subst e
  refine bN ?_
  obtain rfl:=oi hb
  exact hK
 rintro ao _ w rfl ⟨O,rfl,j⟩
 rw [Fo.fW] at hb
 refine aG (RC.seq (RC.sr (mv v0 ?_)))
 obtain⟨bj,a8,hb⟩:=bd hb
 refine RL.call zt zr GX [v0] zr (aF (ln N (i0:=0) j zr a8) ?_)
 rintro a9 w j
 have j:=j.freeze 0
 obtain⟨bk,ba,hb⟩:=bd hb
 refine RL.call zt zr JV [a9] zr (aF (mh N (i0:=0) j zr ba) ?_)
 rintro bb w j
 refine mv v0 ?_
 have j:=j.freeze 0
 obtain⟨bc,bf,hb⟩:=bd hb
 refine RL.call zt zr MI [bb,v0] zr (aF (sO N (i0:=0) (i1:=2) j zr zr bf) ?_)
 rintro _ w ⟨rfl,j⟩
 refine RL.not bc (RL.nt (eH hb (fun hc hb=>?_) fun hc hb=>?_))
 ·refine RC.sr (aM (vi 3) (RL.nt (RC.rt ?_)))
  obtain rfl:=oi hb
  exact bU ⟨rfl,j.drop 3⟩
 refine RC.sx (aM (vi 0) (RL.nt (RC.ret ?_)))
 obtain rfl:=oi hb
 exact bU ⟨rfl,j.drop 3⟩
theorem lM {res:Bool} (o:Holds E w V) (j:gu N p0 p1 p2=some res):
    Calls bB 31 [(vi p0),(vi p1),(vi p2)].toArray w (gr (bA E V res)):=by
 unfold gu at j
 refine enter Tryz.func31 zr zr (RC.sr (aM (vb false) (RL.ns (mv (vi p0) (mv (vi p1) (ic p0 p1 (mv (vb (decide (p0>=p1))) (RL.gs true (decide (p0>=p1)) (vi p0) zr zr zr dQ ?_))))))))
 refine RL.gs true (decide (p0>=p1)) (vi p2) rfl rfl rfl dQ (RL.gs true (decide (p0>=p1)) (vb (decide (p0<=p2))) rfl rfl rfl (eM .leq .i64 p0 p2 rfl (fun h=>by exact(dI h:cv (true&&((decide (p0>=p1))==true)) (vi p0)= (vi p0))) (fun h=>by exact(dI h:cv (true&&((decide (p0>=p1))==true)) (vi p2)= (vi p2))) rfl) (RL.pick (decide (p0>=p1)) (vb ((decide (p0>=p1))&&(decide (p0<=p2)))) (kg true) (aM (vb ((decide (p0>=p1))&&(decide (p0<=p2)))) (RL.nt (RC.ret ?_)))))
 obtain rfl:=oi j
 exact bU ⟨rfl,o.drop 0⟩
theorem qh {p0:ka} {res:Bool} (j:Holds E w V) (h0:V[i0]? =some (rd v0 p0)) (hb:iS N p0=some res):
    Calls bB 32 [v0].toArray w (gr (bA E V res)):=by
 unfold iS at hb
 refine enter Tryz.func32 zr zr ?_
 have j:=j.dup (i0+0) h0
 refine RC.sr (RL.cQ 0 v0 j zr fun ai w j=>?_)
 refine aM (vb false) (RL.nq ?_)
 obtain⟨ad,o,hb⟩:=bd hb
 refine RC.jn (fun(ad:Bool)=>SH E V [(2,vb ad)] []) ad ?_ ?_
 ·refine RC.region (RL.bH zr A3 (RL.aP 0 j zr qP dE ?_))
  obtain⟨af,ag,o⟩:=bd o
  refine RL.call zt zr Fe [(vi p0.X)] zr (aF (kH N (p0:=p0.X) j ag) ?_)
  rintro _ w ⟨rfl,j⟩
  refine mv (vb af) (gZ o (fun aa o=>?_) fun aa o=>?_)
  rotate_left
  ·refine bZ aa (bZ aa (bZ aa (g9 aa (vb false) (aM (vb false) (RL.nil ?_)))))
   obtain rfl:=oi o
   exact⟨rfl,j.sp 2 []⟩
  refine RL.bH (hg:=(cg aa)) zr A4 (RL.aP (hg:=(cg aa)) 0 j zr qQ dE ?_)
  obtain⟨ae,ah,o⟩:=bd o
  refine RL.call (cg aa) zr Fe [(vi p0.Y)] zr (aF (kH N (p0:=p0.Y) j ah) ?_)
  rintro _ w ⟨rfl,j⟩
  refine g9 aa (vb ae) (aM (vb ae) (RL.nil ?_))
  obtain rfl:=oi o
  exact⟨rfl,j.sp 2 []⟩
 rintro _ w ⟨O,rfl,j⟩
 refine aG (RC.ret ?_)
 obtain rfl:=oi hb
 exact bU ⟨rfl,j.drop 0⟩
theorem gO {p0:cN} {res:aJ} (j:Holds E w V) (h0:V[i0]? =some (rd v0 p0)) (o:eY N p0=some res):
    Calls bB 33 [v0].toArray w (gr (pg E V res)):=by
 unfold eY at o
 refine enter Tryz.func33 zr zr ?_
 have j:=j.dup (i0+0) h0
 refine RC.sr (RL.cQ 0 v0 j zr fun aa w j=>?_)
 refine RL.alloc j pH.z fun ab w j=>?_
 refine RL.nq (RC.zA mixed ?_)
 have j:=j.drew
 refine RO.go (RL.bH zr Dq (RO.nx (RL.bH zr A3 (RO.nx (RL.aP (f:=(fun x=>x.At.X)) 1 j zr (Fd.comp (f:=fun(x:cN)=>x.At) (f':=fun(x:ka)=>x.X) wE qP) dE (RO.nx (RL.bH zr yA (RO.nx ?_))))))))
 refine RL.aP 1 j zr pZ dE (RO.nx (RL.quo p0.eR 2 zr zr zr zr (RO.nx (RL.jQ p0.At.X (IntKind.wrap .i64 (Int.tdiv p0.eR 2)) (RO.nx (RL.bH zr Dq (RO.nx (RL.bH zr A4 ?_))))))))
 refine RO.nx (RL.aP (f:=(fun x=>x.At.Y)) 1 j zr (Fd.comp (f:=fun(x:cN)=>x.At) (f':=fun(x:ka)=>x.Y) wE qQ) dE (RO.nx (RL.bH zr yA (RO.nx (RL.aP 1 j zr pZ dE (RO.nx (RL.quo p0.eR 2 zr zr zr zr (RO.nx ?_))))))))
 refine RL.jQ p0.At.Y (IntKind.wrap .i64 (Int.tdiv p0.eR 2)) (RO.nx (aM (vi (IntKind.wrap .i64 (p0.At.X - (IntKind.wrap .i64 (Int.tdiv p0.eR 2))))) (RO.nx (aM (vi (IntKind.wrap .i64 (p0.At.Y - (IntKind.wrap .i64 (Int.tdiv p0.eR 2))))) (RO.last (aG (RC.sr (mv (vi (IntKind.wrap .i64 (p0.At.X - (IntKind.wrap .i64 (Int.tdiv p0.eR 2))))) ?_))))))))
 refine mv (vi (IntKind.wrap .i64 (p0.At.Y - (IntKind.wrap .i64 (Int.tdiv p0.eR 2))))) (mv (vi (IntKind.wrap .i64 (p0.At.X - (IntKind.wrap .i64 (Int.tdiv p0.eR 2))))) (RL.bH zr yA (RL.aP 1 j zr pZ dE (RL.jQ (IntKind.wrap .i64 (p0.At.X - (IntKind.wrap .i64 (Int.tdiv p0.eR 2)))) p0.eR (mv (vi (IntKind.wrap .i64 (p0.At.Y - (IntKind.wrap .i64 (Int.tdiv p0.eR 2))))) (RL.bH zr yA (RL.aP 1 j zr pZ dE (RL.jQ (IntKind.wrap .i64 (p0.At.Y - (IntKind.wrap .i64 (Int.tdiv p0.eR 2)))) p0.eR ?_))))))))
 have j:=((j.sc Int (IntKind.wrap .i64 (p0.At.X - (IntKind.wrap .i64 (Int.tdiv p0.eR 2))))).sc Int (IntKind.wrap .i64 (p0.At.Y - (IntKind.wrap .i64 (Int.tdiv p0.eR 2))))).sc Int (IntKind.wrap .i64 ((IntKind.wrap .i64 (p0.At.X - (IntKind.wrap .i64 (Int.tdiv p0.eR 2))))+p0.eR))
 have j:=j.sc Int (IntKind.wrap .i64 ((IntKind.wrap .i64 (p0.At.Y - (IntKind.wrap .i64 (Int.tdiv p0.eR 2))))+p0.eR))
 refine RL.build (⟨(IntKind.wrap .i64 (p0.At.X - (IntKind.wrap .i64 (Int.tdiv p0.eR 2)))),(IntKind.wrap .i64 (p0.At.Y - (IntKind.wrap .i64 (Int.tdiv p0.eR 2)))),(IntKind.wrap .i64 ((IntKind.wrap .i64 (p0.At.X - (IntKind.wrap .i64 (Int.tdiv p0.eR 2))))+p0.eR)),(IntKind.wrap .i64 ((IntKind.wrap .i64 (p0.At.Y - (IntKind.wrap .i64 (Int.tdiv p0.eR 2))))+p0.eR))⟩:aJ) trivial rfl j [(0,(vi (IntKind.wrap .i64 (p0.At.X - (IntKind.wrap .i64 (Int.tdiv p0.eR 2)))))),(1,(vi (IntKind.wrap .i64 (p0.At.Y - (IntKind.wrap .i64 (Int.tdiv p0.eR 2)))))),(2,(vi (IntKind.wrap .i64 ((IntKind.wrap .i64 (p0.At.X - (IntKind.wrap .i64 (Int.tdiv p0.eR 2))))+p0.eR)))),(3,(vi (IntKind.wrap .i64 ((IntKind.wrap .i64 (p0.At.Y - (IntKind.wrap .i64 (Int.tdiv p0.eR 2))))+p0.eR))))] rfl Fg rfl (fun M hs g=>by have h:=uI M;exact cZ.cons (f:=fun(x:aJ) y=>{x with X0:=y}) h pX (g.sat 3 _ rfl).1 fun _ h=>cZ.cons (f:=fun(x:aJ) y=>{x with Y0:=y}) h tD (g.sat 2 _ rfl).1 fun _ h=>cZ.cons (f:=fun(x:aJ) y=>{x with X1:=y}) h pY (g.sat 1 _ rfl).1 fun _ h=>cZ.cons (f:=fun(x:aJ) y=>{x with Y1:=y}) h tE (g.sat 0 _ rfl).1 fun _ h=>cZ.nil h) fun ad j=>?_
 refine RL.bD 5 j 0 zr jf fun w j=>?_
 refine RL.nt (RC.ret ?_)
 obtain rfl:=oi o
 exact JB 5 zr j zr zr jf fun ae j=>(j.pk 9 [0])
theorem t6 {p0: (List aA)} {res:aJ} (j:Holds E w V) (h0:V[i0]? =some (rd v0 p0)) (hb:lG N p0=some res):
    Calls bB 77 [v0].toArray w (gr (pg E V res)):=by
 unfold lG at hb
 refine enter Tryz.func77 zr zr ?_
 have j:=j.dup (i0+0) h0
 refine RC.sr (RL.alloc j pH.z fun bf w j=>?_)
 refine RL.nq ?_
 obtain⟨bj,bo,hb⟩:=bd hb
 obtain⟨bb,bp,hb⟩:=bd hb
 obtain⟨a8,bq,hb⟩:=bd hb
 obtain⟨bk,br,hb⟩:=bd hb
 obtain⟨bc,bt,hb⟩:=bd hb
 obtain⟨a9,bu,hb⟩:=bd hb
 refine RC.Gf E V mixed [1,0,0,0,0,0,1,0,0,0,1,0,0,0,0,0,1,1,0,1,0,0,0,0,0,0] [1,2,3,4,7,8,11,12,13,14,20,21,23,24,25] (fun(x:Value×Value×Value×Value×Value×Value×Value×Value×Value×Value×Value×Value×Value×Nat)=>(fun ah ai aj ak al an ao aq ar au av aw ax ae=>[(0,6,v0),(1,7,ah),(2,8,ai),(3,9,aj),(4,10,ak),(5,11,(vi bb)),(6,12,v0),(7,13,al),(8,14,an),(9,15,(vi a8.Y0)),(10,16,v0),(11,17,ao),(12,18,aq),(13,19,ar),(14,20,au),(15,21,(vi bc)),(16,22,v0),(17,23,v0),(18,24,(vi p0.length)),(19,25,(vi (IntKind.wrap .i64 ((p0.length:Int) - 1)))),(20,26,av),(21,27,aw),(22,28,(vi a9.Y1)),(23,29,ax),(24,3,(vp ae 0))]) x.1 x.2.1 x.2.2.1 x.2.2.2.1 x.2.2.2.2.1 x.2.2.2.2.2.1 x.2.2.2.2.2.2.1 x.2.2.2.2.2.2.2.1 x.2.2.2.2.2.2.2.2.1 x.2.2.2.2.2.2.2.2.2.1 x.2.2.2.2.2.2.2.2.2.2.1 x.2.2.2.2.2.2.2.2.2.2.2.1 x.2.2.2.2.2.2.2.2.2.2.2.2.1 x.2.2.2.2.2.2.2.2.2.2.2.2.2) [(0,v0),(2,vp bf 0)] [] (fun(D:Nat->Bool) (x:Value×Value×Value×Value×Value×Value×Value×Value×Value×Value×Value×Value×Value×Nat)=>(fun ah ai aj ak al an ao aq ar au av aw ax ae=>[bif D 0 then (pt ah bj) else aW,bif D 1 then (pt ai bj.Xs) else aW,bif D 2 then (rd aj bj.Xs) else aW,bif D 3 then (pt ak bb) else aW,bif D 4 then (pt al a8) else aW,bif D 5 then (pt an a8.Y0) else aW,bif D 6 then (pt ao bk) else aW,bif D 7 then (pt aq bk.Xs) else aW,bif D 8 then (rd ar bk.Xs) else aW,bif D 9 then (pt au bc) else aW,bif D 10 then (pt av a9) else aW,bif D 11 then (pt aw a9.Y1) else aW,bif D 12 then (rd ax (⟨bb,a8.Y0,bc,a9.Y1⟩:aJ)) else aW,bif D 14 then (bx 83 ae (⟨bb,a8.Y0,bc,a9.Y1⟩:aJ)) else (bif D 13 then (raw 83 ae 4) else aW),raw 83 bf 4,rd v0 p0]) x.1 x.2.1 x.2.2.1 x.2.2.2.1 x.2.2.2.2.1 x.2.2.2.2.2.1 x.2.2.2.2.2.2.1 x.2.2.2.2.2.2.2.1 x.2.2.2.2.2.2.2.2.1 x.2.2.2.2.2.2.2.2.2.1 x.2.2.2.2.2.2.2.2.2.2.1 x.2.2.2.2.2.2.2.2.2.2.2.1 x.2.2.2.2.2.2.2.2.2.2.2.2.1 x.2.2.2.2.2.2.2.2.2.2.2.2.2) (fun x=>by kernel_rfl) ?_ ⟨fun _=>jZ gn,?_,?_,?_,?_,?_,fun _=>jZ gn,?_,?_,?_,fun _=>jZ gn,?_,?_,?_,?_,?_,fun _=>jZ gn,fun _=>jZ gn,?_,fun _=>JL gn rfl,?_,?_,?_,?_,?_,?_,trivial⟩ ?_
 ·have j:=((((((((((((j.drew).aW).aW).aW).aW).aW).aW).aW).aW).aW).aW).aW).aW
  have j:=(j.aW).aW
  exact⟨(undef,undef,undef,undef,undef,undef,undef,undef,undef,undef,undef,undef,undef,0),eB.none,(Et zr),zt,j⟩
 ·rintro D U w hD o ag ⟨⟨ah,ai,aj,ak,al,an,ao,aq,ar,au,av,aw,ax,ae⟩,hv,ha,_,j⟩
  obtain⟨O,rfl⟩:=(ac (hv.at 0 rfl (o.1 rfl)) az).fC
  have j:=j.bP 0 hD
  refine RL.cA 15 j ky bo fun bw j=>?_
  have j:=(j.pl 17 [0,2,3,4,5,6,7,8,9,10,11,12,13,14,15,16]).cI 0 true rfl aW
  exact RL.nil ⟨rfl,(bw,ai,aj,ak,al,an,ao,aq,ar,au,av,aw,ax,ae),hv.pu 1,ha.u,zt,j⟩
 ·rintro D U w hD o ag ⟨⟨ah,ai,aj,ak,al,an,ao,aq,ar,au,av,aw,ax,ae⟩,hv,ha,_,j⟩
  obtain⟨O,rfl⟩:=(ac (hv.at 1 rfl (o.1 rfl)) az).fC
  have j:=(j.cH 0 (o.1 rfl)).bP 1 hD
  refine RL.fB 0 j zr kO dF fun bz j=>?_
  have j:=((j.pl 17 [1,0,3,4,5,6,7,8,9,10,11,12,13,14,15,16]).cI 0 (D 1) (o.1 rfl) aW).cI 1 true rfl aW
  exact RL.nil ⟨rfl,(ah,bz,aj,ak,al,an,ao,aq,ar,au,av,aw,ax,ae),hv.pu 2,ha.u,zt,j⟩
 ·rintro D U w hD o ag ⟨⟨ah,ai,aj,ak,al,an,ao,aq,ar,au,av,aw,ax,ae⟩,hv,ha,_,j⟩
  obtain⟨O,rfl⟩:=(ac (hv.at 2 rfl (o.1 rfl)) az).fC
  have j:=(j.cH 1 (o.1 rfl)).bP 2 hD
  refine RL.bC 1 bj.Xs j fU fun b0 j=>?_
  have j:=((j.pl 17 [1,2,0,4,5,6,7,8,9,10,11,12,13,14,15,16]).cI 1 (D 2) (o.1 rfl) aW).cI 2 true rfl aW
  exact RL.nil ⟨rfl,(ah,ai,b0,ak,al,an,ao,aq,ar,au,av,aw,ax,ae),hv.pu 3,ha.u,zt,j⟩
 ·rintro D U w hD o ag ⟨⟨ah,ai,aj,ak,al,an,ao,aq,ar,au,av,aw,ax,ae⟩,hv,ha,_,j⟩
  obtain⟨O,rfl⟩:=(ac (hv.at 3 rfl (o.1 rfl)) az).fC
  have j:=(j.cH 2 (o.1 rfl)).bP 3 hD
  refine RL.cA 2 j fV bp fun b1 j=>?_
  have j:=((j.pl 17 [1,2,3,0,5,6,7,8,9,10,11,12,13,14,15,16]).cI 2 (D 3) (o.1 rfl) aW).cI 3 true rfl aW
  exact RL.nil ⟨rfl,(ah,ai,aj,b1,al,an,ao,aq,ar,au,av,aw,ax,ae),hv.pu 4,ha.u,zt,j⟩
 ·rintro D U w hD o ag ⟨⟨ah,ai,aj,ak,al,an,ao,aq,ar,au,av,aw,ax,ae⟩,hv,ha,_,j⟩
  obtain⟨O,rfl⟩:=(ac (hv.at 4 rfl (o.1 rfl)) az).fC
  have j:=j.cH 3 (o.1 rfl)
  refine RL.bQ bb 3 j dE ?_
  have j:=j.cI 3 (D 4) (o.1 rfl) aW
  exact RL.nil ⟨rfl,(ah,ai,aj,ak,al,an,ao,aq,ar,au,av,aw,ax,ae),hv.pu 5,ha.u,zt,j⟩
 ·rintro D U w hD o ag ⟨⟨ah,ai,aj,ak,al,an,ao,aq,ar,au,av,aw,ax,ae⟩,hv,ha,_,j⟩
  obtain⟨O,rfl⟩:=(ac (hv.at 6 rfl (o.1 rfl)) az).fC
  have j:=j.bP 4 hD
  refine RL.cA 15 j ky bq fun b2 j=>?_
  have j:=(j.pl 17 [1,2,3,4,0,6,7,8,9,10,11,12,13,14,15,16]).cI 4 true rfl aW
  exact RL.nil ⟨rfl,(ah,ai,aj,ak,b2,an,ao,aq,ar,au,av,aw,ax,ae),hv.pu 7,ha.u,zt,j⟩
 ·rintro D U w hD o ag ⟨⟨ah,ai,aj,ak,al,an,ao,aq,ar,au,av,aw,ax,ae⟩,hv,ha,_,j⟩
  obtain⟨O,rfl⟩:=(ac (hv.at 7 rfl (o.1 rfl)) az).fC
  have j:=(j.cH 4 (o.1 rfl)).bP 5 hD
  refine RL.fB 4 j zr n8 fT fun b3 j=>?_
  have j:=((j.pl 17 [1,2,3,4,5,0,7,8,9,10,11,12,13,14,15,16]).cI 4 (D 7) (o.1 rfl) aW).cI 5 true rfl aW
  exact RL.nil ⟨rfl,(ah,ai,aj,ak,al,b3,ao,aq,ar,au,av,aw,ax,ae),hv.pu 8,ha.u,zt,j⟩
 ·rintro D U w hD o ag ⟨⟨ah,ai,aj,ak,al,an,ao,aq,ar,au,av,aw,ax,ae⟩,hv,ha,_,j⟩
  obtain⟨O,rfl⟩:=(ac (hv.at 8 rfl (o.1 rfl)) az).fC
  have j:=j.cH 5 (o.1 rfl)
  refine RL.bQ a8.Y0 5 j dE ?_
  have j:=j.cI 5 (D 8) (o.1 rfl) aW
  exact RL.nil ⟨rfl,(ah,ai,aj,ak,al,an,ao,aq,ar,au,av,aw,ax,ae),hv.pu 9,ha.u,zt,j⟩
 ·rintro D U w hD o ag ⟨⟨ah,ai,aj,ak,al,an,ao,aq,ar,au,av,aw,ax,ae⟩,hv,ha,_,j⟩
  obtain⟨O,rfl⟩:=(ac (hv.at 10 rfl (o.1 rfl)) az).fC
  have j:=j.bP 6 hD
  refine RL.cA 15 j ky br fun b4 j=>?_
  have j:=(j.pl 17 [1,2,3,4,5,6,0,8,9,10,11,12,13,14,15,16]).cI 6 true rfl aW
  exact RL.nil ⟨rfl,(ah,ai,aj,ak,al,an,b4,aq,ar,au,av,aw,ax,ae),hv.pu 11,ha.u,zt,j⟩
 ·rintro D U w hD o ag ⟨⟨ah,ai,aj,ak,al,an,ao,aq,ar,au,av,aw,ax,ae⟩,hv,ha,_,j⟩
  obtain⟨O,rfl⟩:=(ac (hv.at 11 rfl (o.1 rfl)) az).fC
  have j:=(j.cH 6 (o.1 rfl)).bP 7 hD
  refine RL.fB 6 j zr kO dF fun b5 j=>?_
  have j:=((j.pl 17 [1,2,3,4,5,6,7,0,9,10,11,12,13,14,15,16]).cI 6 (D 11) (o.1 rfl) aW).cI 7 true rfl aW
  exact RL.nil ⟨rfl,(ah,ai,aj,ak,al,an,ao,b5,ar,au,av,aw,ax,ae),hv.pu 12,ha.u,zt,j⟩
 ·rintro D U w hD o ag ⟨⟨ah,ai,aj,ak,al,an,ao,aq,ar,au,av,aw,ax,ae⟩,hv,ha,_,j⟩
  obtain⟨O,rfl⟩:=(ac (hv.at 12 rfl (o.1 rfl)) az).fC
  have j:=(j.cH 7 (o.1 rfl)).bP 8 hD
  refine RL.bC 7 bk.Xs j fU fun b6 j=>?_
  have j:=((j.pl 17 [1,2,3,4,5,6,7,8,0,10,11,12,13,14,15,16]).cI 7 (D 12) (o.1 rfl) aW).cI 8 true rfl aW
  exact RL.nil ⟨rfl,(ah,ai,aj,ak,al,an,ao,aq,b6,au,av,aw,ax,ae),hv.pu 13,ha.u,zt,j⟩
 ·rintro D U w hD o ag ⟨⟨ah,ai,aj,ak,al,an,ao,aq,ar,au,av,aw,ax,ae⟩,hv,ha,_,j⟩
  obtain⟨O,rfl⟩:=(ac (hv.at 13 rfl (o.1 rfl)) az).fC
  have j:=(j.cH 8 (o.1 rfl)).bP 9 hD
  refine RL.cA 8 j fV bt fun b7 j=>?_
  have j:=((j.pl 17 [1,2,3,4,5,6,7,8,9,0,11,12,13,14,15,16]).cI 8 (D 13) (o.1 rfl) aW).cI 9 true rfl aW
  exact RL.nil ⟨rfl,(ah,ai,aj,ak,al,an,ao,aq,ar,b7,av,aw,ax,ae),hv.pu 14,ha.u,zt,j⟩
 ·rintro D U w hD o ag ⟨⟨ah,ai,aj,ak,al,an,ao,aq,ar,au,av,aw,ax,ae⟩,hv,ha,_,j⟩
  obtain⟨O,rfl⟩:=(ac (hv.at 14 rfl (o.1 rfl)) az).fC
  have j:=j.cH 9 (o.1 rfl)
  refine RL.bQ bc 9 j dE ?_
  have j:=j.cI 9 (D 14) (o.1 rfl) aW
  exact RL.nil ⟨rfl,(ah,ai,aj,ak,al,an,ao,aq,ar,au,av,aw,ax,ae),hv.pu 15,ha.u,zt,j⟩
 ·rintro D U w hD o ag ⟨⟨ah,ai,aj,ak,al,an,ao,aq,ar,au,av,aw,ax,ae⟩,hv,ha,_,j⟩
  obtain⟨O,rfl⟩:=(ac (hv.at 17 rfl (o.1 rfl)) az).fC
  refine RL.bF 15 p0 j nU ?_
  exact RL.nil ⟨rfl,(ah,ai,aj,ak,al,an,ao,aq,ar,au,av,aw,ax,ae),hv.pu 18,ha.u,zt,j⟩
 ·rintro D U w hD o ag ⟨⟨ah,ai,aj,ak,al,an,ao,aq,ar,au,av,aw,ax,ae⟩,hv,ha,_,j⟩
  obtain⟨O,rfl⟩:=(ac (hv.at 16 rfl (o.1 rfl)) (ac (hv.at 19 rfl (o.2.1 rfl)) az)).fC
  have j:=j.bP 10 hD
  refine RL.cA 15 j ky bu fun b8 j=>?_
  have j:=(j.pl 17 [1,2,3,4,5,6,7,8,9,10,0,12,13,14,15,16]).cI 10 true rfl aW
  exact RL.nil ⟨rfl,(ah,ai,aj,ak,al,an,ao,aq,ar,au,b8,aw,ax,ae),hv.pu 20,ha.u,zt,j⟩
 ·rintro D U w hD o ag ⟨⟨ah,ai,aj,ak,al,an,ao,aq,ar,au,av,aw,ax,ae⟩,hv,ha,_,j⟩
  obtain⟨O,rfl⟩:=(ac (hv.at 20 rfl (o.1 rfl)) az).fC
  have j:=(j.cH 10 (o.1 rfl)).bP 11 hD
  refine RL.fB 10 j zr mc eK fun b9 j=>?_
  have j:=((j.pl 17 [1,2,3,4,5,6,7,8,9,10,11,0,13,14,15,16]).cI 10 (D 20) (o.1 rfl) aW).cI 11 true rfl aW
  exact RL.nil ⟨rfl,(ah,ai,aj,ak,al,an,ao,aq,ar,au,av,b9,ax,ae),hv.pu 21,ha.u,zt,j⟩
 ·rintro D U w hD o ag ⟨⟨ah,ai,aj,ak,al,an,ao,aq,ar,au,av,aw,ax,ae⟩,hv,ha,_,j⟩
  obtain⟨O,rfl⟩:=(ac (hv.at 21 rfl (o.1 rfl)) az).fC
  have j:=j.cH 11 (o.1 rfl)
  refine RL.bQ a9.Y1 11 j dE ?_
  have j:=j.cI 11 (D 21) (o.1 rfl) aW
  exact RL.nil ⟨rfl,(ah,ai,aj,ak,al,an,ao,aq,ar,au,av,aw,ax,ae),hv.pu 22,ha.u,zt,j⟩
 ·rintro D U w hD o ag ⟨⟨ah,ai,aj,ak,al,an,ao,aq,ar,au,av,aw,ax,ae⟩,hv,ha,_,j⟩
  obtain⟨O,rfl⟩:=(ac (hv.at 5 rfl (o.1 rfl)) (ac (hv.at 9 rfl (o.2.1 rfl)) (ac (hv.at 15 rfl (o.2.2.1 rfl)) (ac (hv.at 22 rfl (o.2.2.2.1 rfl)) az)))).fC
  have j:=((((j.bP 12 hD).sc Int bb).sc Int a8.Y0).sc Int bc).sc Int a9.Y1
  refine RL.build (⟨bb,a8.Y0,bc,a9.Y1⟩:aJ) trivial rfl j [(0,vi bb),(1,vi a8.Y0),(2,vi bc),(3,vi a9.Y1)] rfl Fg rfl (fun M hs g=>by have h:=uI M;exact cZ.cons (f:=fun(x:aJ) y=>{x with X0:=y}) h pX (g.sat 3 _ rfl).1 fun _ h=>cZ.cons (f:=fun(x:aJ) y=>{x with Y0:=y}) h tD (g.sat 2 _ rfl).1 fun _ h=>cZ.cons (f:=fun(x:aJ) y=>{x with X1:=y}) h pY (g.sat 1 _ rfl).1 fun _ h=>cZ.cons (f:=fun(x:aJ) y=>{x with Y1:=y}) h tE (g.sat 0 _ rfl).1 fun _ h=>cZ.nil h) fun ca j=>?_
  have j:=(j.pl 21 [5,6,7,8,9,10,11,12,13,14,15,16,0,18,19,20]).cI 12 true rfl aW
  exact RL.nil ⟨rfl,(ah,ai,aj,ak,al,an,ao,aq,ar,au,av,aw,ca,ae),hv.pu 23,ha.u,zt,j⟩
 ·rintro D U w hD o ag ⟨⟨ah,ai,aj,ak,al,an,ao,aq,ar,au,av,aw,ax,ae⟩,hv,ha,_,j⟩
  obtain⟨O,rfl⟩:=(az (U:=U)).fC
  have j:=(j.bP 13 (nh ag hD 25)).bP 13 hD
  refine RL.alloc j pH.z fun bl w j=>?_
  have j:=((j.pl 17 [1,2,3,4,5,6,7,8,9,10,11,12,13,0,15,16]).cI 13 true rfl aW).dY 13 (D 25) (nh ag hD 25) (bx 83 bl (⟨bb,a8.Y0,bc,a9.Y1⟩:aJ))
  exact RL.nil ⟨rfl,(ah,ai,aj,ak,al,an,ao,aq,ar,au,av,aw,ax,bl),hv.pu 24,ha.u,zt,j⟩
 ·rintro D U w hD o ag ⟨⟨ah,ai,aj,ak,al,an,ao,aq,ar,au,av,aw,ax,ae⟩,hv,ha,_,j⟩
  obtain⟨O,rfl⟩:=(ac (hv.at 23 rfl (o.2.1 rfl)) (ac (hv.at 24 rfl (o.1 rfl)) az)).fC
  have j:=((j.cH 12 (o.2.1 rfl)).bP 13 hD).cH 13 (o.1 rfl)
  refine RL.bD 13 j 12 zr jf fun w j=>?_
  have j:=(j.cI 12 (D 23) (o.2.1 rfl) aW).cI 13 true rfl (bif D 24 then (raw 83 ae 4) else aW)
  exact RL.nil ⟨rfl,(ah,ai,aj,ak,al,an,ao,aq,ar,au,av,aw,ax,ae),hv.n1,ha,zt,j⟩
 rintro D U w a6 ⟨⟨ah,ai,aj,ak,al,an,ao,aq,ar,au,av,aw,ax,ae⟩,hv,ha,_,j⟩
 have j:=((((((j.cH 0 (kD a6 1)).cH 1 (kD a6 2)).cH 2 (kD a6 3)).cH 3 (kD a6 4)).cH 4 (kD a6 7)).cH 5 (kD a6 8)).cH 6 (kD a6 11)
 have j:=((((((j.cH 7 (kD a6 12)).cH 8 (kD a6 13)).cH 9 (kD a6 14)).cH 10 (kD a6 20)).cH 11 (kD a6 21)).cH 12 (kD a6 23)).cH 13 (kD a6 25)
 obtain⟨O,rfl⟩:=(ac (hv.at 24 rfl (kD a6 24)) (ac (ha.at 0 rfl) (ac (ha.at 1 rfl) az))).fC
 refine aG (RC.seq (RC.sr (mv v0 (RL.bF 15 p0 j nU (mv (vi 0) (RL.nt ?_))))))
 obtain⟨af,hN,hb⟩:=bd hb
 refine RC.fold (fun(bg:Nat) (af:aJ)=>SH E V [(2,vp bf 0),(3,vp ae 0),(30,v0),(31,vi p0.length),(32,vi bg)] [raw 83 bf 4,bx 83 ae af,rd v0 p0]) (fun(af:aJ)=>SH E V [(2,vp bf 0),(3,vp ae 0)] [raw 83 bf 4,bx 83 ae af,rd v0 p0]) hN ?_ ?_ ?_ ?_
 ·exact j.sp 16 [14,13,15]
 ·rintro hm af _ w ⟨O,rfl,j⟩
  refine RC.sr (ic ((p0.length:Int)) ((p0.length:Int)) (RL.nq (RC.cP mz (RC.ex ?_))))
  exact⟨rfl,j.sp 3 [0,1,2]⟩
 ·rintro hm bg af s' _ w hk ⟨O,rfl,j⟩ hb
  refine RC.sr (ic ((bg:Int)) ((p0.length:Int)) (RL.nq (RC.cO (my hk) (RC.ss (RC.bs ?_)))))
  obtain⟨ba,cc,hb⟩:=bd hb
  refine RL.cA 2 j ky cc fun cd j=>(RL.bC 0 ba j vF fun cf j=>(RL.alloc j Cp.z fun bh w j=>?_))
  refine RL.bD 0 j 1 zr vF fun w j=>?_
  refine RL.nt ?_
  obtain⟨a5,cg,hb⟩:=bd hb
  obtain⟨a7,ch,hb⟩:=bd hb
  refine RC.Gf E V mixed [1,0,1,0,0,0,0,1,0,1,0,1,0,0,1,0,0,0,1,0,1,0] [3,4,10,12,15,19,21] (fun(x:Value×Value×Value×Value×Value)=>(fun ay a0 a1 a2 a3=>[(0,36,(vp ae 0)),(1,37,(vi af.X0)),(2,38,(vp bh 2)),(3,39,ay),(4,40,a0),(5,41,(vi a5)),(6,42,(vi (if a5<af.X0 then a5 else af.X0))),(7,43,(vp ae 2)),(8,44,(vi af.X1)),(9,45,(vp bh 2)),(10,46,a1),(11,47,(vp bh 2)),(12,48,a2),(13,49,(vi ba.Xs.length)),(14,50,(vi (IntKind.wrap .i64 ((ba.Xs.length:Int) - 1)))),(15,51,a3),(16,52,(vi a7)),(17,53,(vi (if af.X1<a7 then a7 else af.X1))),(18,54,(vp ae 0)),(20,55,(vp ae 2))]) x.1 x.2.1 x.2.2.1 x.2.2.2.1 x.2.2.2.2) [(2,vp bf 0),(3,vp ae 0),(5,vp bh 0),(30,v0),(31,vi p0.length),(32,vi bg)] [] (fun(D:Nat->Bool) (x:Value×Value×Value×Value×Value)=>(fun ay a0 a1 a2 a3=>[bif D 0 then (rd ay ba.Xs) else aW,bif D 1 then (pt a0 a5) else aW,bif D 2 then (rd a1 ba.Xs) else aW,bif D 3 then (rd a2 ba.Xs) else aW,bif D 4 then (pt a3 a7) else aW,bx 153 bh ba,rd cf ba,pt cd ba,raw 83 bf 4,bif D 6 then (bx 83 ae {{af with X0:=(if a5<af.X0 then a5 else af.X0)} with X1:=(if af.X1<a7 then a7 else af.X1)}) else (bif D 5 then (bx 83 ae {af with X0:=(if a5<af.X0 then a5 else af.X0)}) else (bx 83 ae af)),rd v0 p0]) x.1 x.2.1 x.2.2.1 x.2.2.2.1 x.2.2.2.2) (fun x=>by kernel_rfl) ?_ ⟨fun _=>pF gn kn,?_,fun _=>pF gn kO,?_,?_,?_,?_,fun _=>pF gn ld,?_,fun _=>pF gn kO,?_,fun _=>pF gn kO,?_,?_,fun _=>JL gn rfl,?_,?_,?_,fun _=>pF gn kn,?_,fun _=>pF gn ld,?_,trivial⟩ ?_
  ·have j:=(((((j.drew).aW).aW).aW).aW).aW
   exact⟨(undef,undef,undef,undef,undef),eB.none,(Et zr),zt,j⟩
  ·rintro D U w hD o ag ⟨⟨ay,a0,a1,a2,a3⟩,hv,ha,_,j⟩
   obtain⟨O,rfl⟩:=(ac (hv.at 0 rfl (o.1 rfl)) az).fC
   have j:=(j.bP 9 (nh ag hD 21)).bP 9 (nh ag hD 19)
   refine RL.aP 9 j zr fK dE ?_
   have j:=(j.dY 9 (D 19) (nh ag hD 19) (bx 83 ae {af with X0:=(if a5<af.X0 then a5 else af.X0)})).dY 9 (D 21) (nh ag hD 21) (bx 83 ae {{af with X0:=(if a5<af.X0 then a5 else af.X0)} with X1:=(if af.X1<a7 then a7 else af.X1)})
   exact RL.nil ⟨rfl,(ay,a0,a1,a2,a3),hv.pu 1,ha.u,zt,j⟩
  ·rintro D U w hD o ag ⟨⟨ay,a0,a1,a2,a3⟩,hv,ha,_,j⟩
   obtain⟨O,rfl⟩:=(ac (hv.at 2 rfl (o.1 rfl)) az).fC
   have j:=j.bP 0 hD
   refine RL.aN 5 j zr dF fU fun cj j=>?_
   have j:=(j.pl 12 [0,2,3,4,5,6,7,8,9,10,11]).cI 0 true rfl aW
   exact RL.nil ⟨rfl,(cj,a0,a1,a2,a3),hv.pu 3,ha.u,zt,j⟩
  ·rintro D U w hD o ag ⟨⟨ay,a0,a1,a2,a3⟩,hv,ha,_,j⟩
   obtain⟨O,rfl⟩:=(ac (hv.at 3 rfl (o.1 rfl)) az).fC
   have j:=(j.cH 0 (o.1 rfl)).bP 1 hD
   refine RL.cA 0 j fV cg fun ck j=>?_
   have j:=((j.pl 12 [1,0,3,4,5,6,7,8,9,10,11]).cI 0 (D 3) (o.1 rfl) aW).cI 1 true rfl aW
   exact RL.nil ⟨rfl,(ay,ck,a1,a2,a3),hv.pu 4,ha.u,zt,j⟩
  ·rintro D U w hD o ag ⟨⟨ay,a0,a1,a2,a3⟩,hv,ha,_,j⟩
   obtain⟨O,rfl⟩:=(ac (hv.at 4 rfl (o.1 rfl)) az).fC
   have j:=j.cH 1 (o.1 rfl)
   refine RL.bQ a5 1 j dE ?_
   have j:=j.cI 1 (D 4) (o.1 rfl) aW
   exact RL.nil ⟨rfl,(ay,a0,a1,a2,a3),hv.pu 5,ha.u,zt,j⟩
  ·rintro D U w hD o ag ⟨⟨ay,a0,a1,a2,a3⟩,hv,ha,_,j⟩
   obtain⟨O,rfl⟩:=(ac (hv.at 1 rfl (o.1 rfl)) (ac (hv.at 5 rfl (o.2.1 rfl)) az)).fC
   refine RL.min af.X0 a5 ?_
   exact RL.nil ⟨rfl,(ay,a0,a1,a2,a3),hv.pu 6,ha.u,zt,j⟩
  ·rintro D U w hD o ag ⟨⟨ay,a0,a1,a2,a3⟩,hv,ha,_,j⟩
   obtain⟨O,rfl⟩:=(ac (hv.at 7 rfl (o.1 rfl)) az).fC
   have j:=(j.bP 9 (nh ag hD 21)).bP 9 (nh ag hD 19)
   refine RL.aP 9 j zr gE dE ?_
   have j:=(j.dY 9 (D 19) (nh ag hD 19) (bx 83 ae {af with X0:=(if a5<af.X0 then a5 else af.X0)})).dY 9 (D 21) (nh ag hD 21) (bx 83 ae {{af with X0:=(if a5<af.X0 then a5 else af.X0)} with X1:=(if af.X1<a7 then a7 else af.X1)})
   exact RL.nil ⟨rfl,(ay,a0,a1,a2,a3),hv.pu 8,ha.u,zt,j⟩
  ·rintro D U w hD o ag ⟨⟨ay,a0,a1,a2,a3⟩,hv,ha,_,j⟩
   obtain⟨O,rfl⟩:=(ac (hv.at 9 rfl (o.1 rfl)) az).fC
   have j:=j.bP 2 hD
   refine RL.aN 5 j zr dF fU fun cl j=>?_
   have j:=(j.pl 12 [1,2,0,4,5,6,7,8,9,10,11]).cI 2 true rfl aW
   exact RL.nil ⟨rfl,(ay,a0,cl,a2,a3),hv.pu 10,ha.u,zt,j⟩
  ·rintro D U w hD o ag ⟨⟨ay,a0,a1,a2,a3⟩,hv,ha,_,j⟩
   obtain⟨O,rfl⟩:=(ac (hv.at 11 rfl (o.1 rfl)) az).fC
   have j:=j.bP 3 hD
   refine RL.aN 5 j zr dF fU fun cm j=>?_
   have j:=(j.pl 12 [1,2,3,0,5,6,7,8,9,10,11]).cI 3 true rfl aW
   exact RL.nil ⟨rfl,(ay,a0,a1,cm,a3),hv.pu 12,ha.u,zt,j⟩
  ·rintro D U w hD o ag ⟨⟨ay,a0,a1,a2,a3⟩,hv,ha,_,j⟩
   obtain⟨O,rfl⟩:=(ac (hv.at 12 rfl (o.1 rfl)) az).fC
   have j:=j.cH 3 (o.1 rfl)
   refine RL.bF 3 ba.Xs j nC ?_
   have j:=j.cI 3 (D 12) (o.1 rfl) aW
   exact RL.nil ⟨rfl,(ay,a0,a1,a2,a3),hv.pu 13,ha.u,zt,j⟩
  ·rintro D U w hD o ag ⟨⟨ay,a0,a1,a2,a3⟩,hv,ha,_,j⟩
   obtain⟨O,rfl⟩:=(ac (hv.at 10 rfl (o.1 rfl)) (ac (hv.at 14 rfl (o.2.1 rfl)) az)).fC
   have j:=(j.cH 2 (o.1 rfl)).bP 4 hD
   refine RL.cA 2 j fV ch fun cn j=>?_
   have j:=((j.pl 12 [1,2,3,4,0,6,7,8,9,10,11]).cI 2 (D 10) (o.1 rfl) aW).cI 4 true rfl aW
   exact RL.nil ⟨rfl,(ay,a0,a1,a2,cn),hv.pu 15,ha.u,zt,j⟩
  ·rintro D U w hD o ag ⟨⟨ay,a0,a1,a2,a3⟩,hv,ha,_,j⟩
   obtain⟨O,rfl⟩:=(ac (hv.at 15 rfl (o.1 rfl)) az).fC
   have j:=j.cH 4 (o.1 rfl)
   refine RL.bQ a7 4 j dE ?_
   have j:=j.cI 4 (D 15) (o.1 rfl) aW
   exact RL.nil ⟨rfl,(ay,a0,a1,a2,a3),hv.pu 16,ha.u,zt,j⟩
  ·rintro D U w hD o ag ⟨⟨ay,a0,a1,a2,a3⟩,hv,ha,_,j⟩
   obtain⟨O,rfl⟩:=(ac (hv.at 8 rfl (o.1 rfl)) (ac (hv.at 16 rfl (o.2.1 rfl)) az)).fC
   refine RL.max af.X1 a7 ?_
   exact RL.nil ⟨rfl,(ay,a0,a1,a2,a3),hv.pu 17,ha.u,zt,j⟩
  ·rintro D U w hD o ag ⟨⟨ay,a0,a1,a2,a3⟩,hv,ha,_,j⟩
   obtain⟨O,rfl⟩:=(ac (hv.at 6 rfl (o.2.1 rfl)) (ac (hv.at 18 rfl (o.1 rfl)) az)).fC
   have j:=((j.bP 9 (nh ag hD 21)).bP 9 hD).sc Int (if a5<af.X0 then a5 else af.X0)
   refine RL.BP 10 zt j zr zr zr 0 zr pX dE fun w j=>?_
   have j:=((j.pl 12 [1,2,3,4,5,6,7,8,9,10,11]).cI 9 true rfl (bx 83 ae af)).dY 9 (D 21) (nh ag hD 21) (bx 83 ae {{af with X0:=(if a5<af.X0 then a5 else af.X0)} with X1:=(if af.X1<a7 then a7 else af.X1)})
   exact RL.nil ⟨rfl,(ay,a0,a1,a2,a3),hv.n1,ha,zt,j⟩
  ·rintro D U w hD o ag ⟨⟨ay,a0,a1,a2,a3⟩,hv,ha,_,j⟩
   obtain⟨O,rfl⟩:=(ac (hv.at 17 rfl (o.2.1 rfl)) (ac (hv.at 19 rfl (o.1 rfl)) az)).fC
   have j:=((j.bP 9 hD).cH 9 (o.2.2.1 rfl)).sc Int (if af.X1<a7 then a7 else af.X1)
   refine RL.BP 10 zt j zr zr zr 0 zr pY dE fun w j=>?_
   have j:=(j.pl 12 [1,2,3,4,5,6,7,8,9,10,11]).cI 9 true rfl (bif D 19 then (bx 83 ae {af with X0:=(if a5<af.X0 then a5 else af.X0)}) else (bx 83 ae af))
   exact RL.nil ⟨rfl,(ay,a0,a1,a2,a3),hv.n1,ha,zt,j⟩
  rintro D U w a6 ⟨⟨ay,a0,a1,a2,a3⟩,hv,ha,_,j⟩
  have j:=(((((j.cH 0 (kD a6 3)).cH 1 (kD a6 4)).cH 2 (kD a6 10)).cH 3 (kD a6 12)).cH 4 (kD a6 15)).cH 9 (kD a6 21)
  obtain⟨O,rfl⟩:=(ac (ha.at 0 rfl) (ac (ha.at 1 rfl) (ac (ha.at 2 rfl) (ac (ha.at 3 rfl) (ac (ha.at 4 rfl) (ac (ha.at 5 rfl) az)))))).fC
  refine bO (aG (RC.region (RL.inc hk hm (mv (vi ((bg+1:Nat):Int)) (RL.nil ?_)))))
  obtain rfl:=oi hb
  exact⟨rfl,j.sp 11 [8,9,10]⟩
 rintro _ w ⟨O,rfl,j⟩
 refine aG (RC.sr (RL.aN (f:=(fun x=>x)) 1 j zr Fd.self jf fun cp j=>(RL.bD 1 j 0 zr jf fun w j=>?_)))
 refine RL.nt (RC.ret ?_)
 obtain rfl:=oi hb
 exact JB 1 zr j zr zr jf fun cq j=>(j.pk 5 [0])
theorem vO {p0: (List aA)} {res:Bool} (j:Holds E w V) (h0:V[i0]? =some (rd v0 p0)) (hb:k6 N p0=some res):
    Calls bB 35 [v0].toArray w (gr (bA E V res)):=by
 unfold k6 at hb
 refine enter Tryz.func35 zr zr ?_
 have j:=j.dup (i0+0) h0
 refine RC.sr (aM (vb false) (RL.nq ?_))
 obtain⟨ad,o,hb⟩:=bd hb
 refine RC.jn (fun(ad:Bool)=>SH E V [(2,vb ad)] []) ad ?_ ?_
 ·refine RC.region (mv v0 (RL.bF 0 p0 j nU (ic ((p0.length:Int)) 0 (mv (vb ((p0.length:Int)==0)) (gZ o (fun aa o=>?_) fun aa o=>?_)))))
  ·refine bZ aa (bZ aa (bZ aa (g9 aa (vb true) (aM (vb true) (RL.nil ?_)))))
   obtain rfl:=oi o
   exact⟨rfl,j.sp 1 []⟩
  refine RL.move v0 (cg aa) ?_
  obtain⟨ai,af,o⟩:=bd o
  refine RL.call (cg aa) zr MJ [v0] zr (aF (t6 N (i0:=0) j zr af) ?_)
  rintro ag w j
  obtain⟨ae,ah,o⟩:=bd o
  refine RL.call (cg aa) zr KN [ag] zr (aF (rB N (i0:=0) j zr ah) ?_)
  rintro _ w ⟨rfl,j⟩
  refine g9 aa (vb ae) (aM (vb ae) (RL.nil ?_))
  obtain rfl:=oi o
  exact⟨rfl,j.sp 2 []⟩
 rintro _ w ⟨O,rfl,j⟩
 refine aG (RC.ret ?_)
 obtain rfl:=oi hb
 exact bU ⟨rfl,j.drop 0⟩
def xN (E:World) (V:List HP) (res:aJ×Int) (v:Value) (w:World):Prop:=∃u0:Value,v = .tuple #[u0,(vi res.2)]/\Holds E w ([rd u0 res.1]++V)
theorem qj {p0:cN} {res:aJ×Int} (j:Holds E w V) (h0:V[i0]? =some (rd v0 p0)) (o:jM N p0=some res):
    Calls bB 18 [v0].toArray w (gr (xN E V res)):=by
 unfold jM at o
 refine enter Tryz.func18 zr zr ?_
 have j:=j.dup (i0+0) h0
 refine RC.sr (RL.cQ 0 v0 j zr fun af w j=>?_)
 refine RL.alloc j pH.z fun ag w j=>?_
 refine aM (vi 0) (RL.nq (RC.seq ?_))
 obtain⟨ad,hj,o⟩:=bd o
 refine RC.jn (fun(ad:Bool)=>SH E V [(1,vp af 0),(2,vp ag 0),(14,vb ad)] [bx 87 af p0,raw 83 ag 4]) ad ?_ ?_
 ·refine RC.region (RL.bH zr yA (RL.aP 1 j zr pZ dE ?_))
  obtain⟨ah,aj,hj⟩:=bd hj
  refine RL.call zt zr Ix [(vi p0.eR),(vi 1),(vi 10000)] zr (aF (lM N (p0:=p0.eR) (p1:=1) (p2:=10000) j aj) ?_)
  rintro _ w ⟨rfl,j⟩
  refine RL.not ah (mv (vb (!ah)) (gZ hj (fun aa hj=>?_) fun aa hj=>?_))
  ·refine bZ aa (bZ aa (bZ aa (bZ aa (g9 aa (vb true) (RL.nil ?_)))))
   obtain rfl:=oi hj
   exact⟨rfl,j.sp 3 [1,0]⟩
  refine RL.bH (hg:=(cg aa)) zr Dq (RL.aN (hg:=(cg aa)) 1 j zr wE Iy fun ak j=>?_)
  obtain⟨ai,al,hj⟩:=bd hj
  refine RL.call (cg aa) zr KX [ak] zr (aF (qh N (i0:=0) j zr al) ?_)
  rintro _ w ⟨rfl,j⟩
  refine RL.not (hg:=(cg aa)) ai (g9 aa (vb (!ai)) (RL.nil ?_))
  obtain rfl:=oi hj
  exact⟨rfl,j.sp 4 [2,1]⟩
 rintro _ w ⟨O,rfl,j⟩
 refine aG (eH o (fun hc o=>?_) fun hc o=>?_)
 ·refine RC.sr (RL.build (⟨0,0,0,0⟩:aJ) trivial rfl j [] rfl Fg rfl (fun M hs g=>by have h:=uI M;exact cZ.nil h) fun a2 j=>?_)
  refine RL.bD 2 j 0 zr jf fun w j=>?_
  refine aM (vi 1) (RL.nt (RC.rt ?_))
  obtain rfl:=oi o
  exact z6 2 j jf fun an j=>⟨an,zr,j.pk 4 [0]⟩
 refine RC.sx (RL.aN (f:=(fun x=>x)) 0 j zr Fd.self oY fun ao j=>?_)
 obtain⟨aq,ar,o⟩:=bd o
 refine RL.call zt zr Fi [ao] zr (aF (gO N (i0:=0) j zr ar) ?_)
 rintro a3 w j
 refine RL.alloc j pH.z fun a4 w j=>?_
 refine RL.bD 0 j 1 zr jf fun w j=>?_
 refine RL.nq (RC.sr (RL.aN (f:=(fun x=>x)) 0 j zr Fd.self jf fun au j=>(RL.eF ([aq]: (List aJ)) j [au] mH pH (fun M hs g=>⟨(g.sat 0 _ zr).1,zt⟩) fun av w j=>?_)))
 have j:=j.freeze 0
 obtain⟨a5,aw,o⟩:=bd o
 refine RL.call zt zr GX [av] zr (aF (ln N (i0:=0) j zr aw) ?_)
 rintro ax w j
 have j:=j.freeze 0
 obtain⟨ay,az,o⟩:=bd o
 refine RL.call zt zr MK [ax] zr (aF (vO N (i0:=0) j zr az) ?_)
 rintro _ w ⟨rfl,j⟩
 refine RL.not ay (RL.nt (eH o (fun hc o=>?_) fun hc o=>?_))
 ·refine RC.sr (RL.build (⟨0,0,0,0⟩:aJ) trivial rfl j [] rfl Fg rfl (fun M hs g=>by have h:=uI M;exact cZ.nil h) fun a6 j=>?_)
  refine RL.bD 8 j 0 zr jf fun w j=>?_
  refine aM (vi 1) (RL.nt (RC.rt ?_))
  obtain rfl:=oi o
  exact z6 8 j jf fun a0 j=>⟨a0,zr,j.pk 10 [0]⟩
 refine RC.sx (RL.aN (f:=(fun x=>x)) 3 j zr Fd.self jf fun a7 j=>(RL.bD 8 j 0 zr jf fun w j=>?_))
 refine aM (vi 0) (RL.nt (RC.ret ?_))
 obtain rfl:=oi o
 exact z6 8 j jf fun a1 j=>⟨a1,zr,j.pk 10 [0]⟩
def t7 (E:World) (V:List HP) (r:Int) (U:Nat->Value) (w:World):Prop:=mu bB 47 Tryz.f45 (aH E V r) .ret U w
theorem sP {p0:kr} (j:Holds E w V) (h0:V[i0]? =some (rd v0 p0)) (o:jA N p0=some res):
    Calls bB 45 [v0].toArray w (gr (aH E V res)):=by
 unfold jA at o
 refine enter Tryz.func45 zr zr ?_
 have j:=j.dup (i0+0) h0
 refine RC.sr (RL.cQ 0 v0 j zr fun a0 w j=>?_)
 refine aM (vi 0) (RL.nq (RC.sr (RL.bH zr pI (RL.aN 0 j zr sq zJ fun a1 j=>(RL.bF 0 p0.bL j A2 (ic ((p0.bL.length:Int)) 500 (RL.nt (eH o (fun hc o=>?_) fun hc o=>?_))))))))
 ·refine RC.sr (aM (vi 2) (RL.nt (RC.rt ?_)))
  obtain rfl:=oi o
  exact bU ⟨rfl,j.drop 3⟩
 refine RC.sx (RL.bH zr wK (RL.aN 1 j zr p5 Fb fun a2 j=>(RL.bF 0 p0.aO j Co (aM (vi p0.aO.length) (RL.nq (RC.sr (RL.bH zr pI (RL.aN 2 j zr sq zJ fun ag j=>?_))))))))
 refine RL.bF 0 p0.bL j A2 (mv (vi 0) (RL.nt ?_))
 obtain⟨a3,hN,o⟩:=bd o
 refine RC.range (fun(ah:Nat) (ai:Unit)=>SH E V [(3,vi p0.aO.length),(16,ag),(17,vi p0.bL.length),(18,vi ah)] [rd ag p0.bL]) (fun(ai:Unit)=>SH E V [] [rd ag p0.bL]) (t7 E V) hN ?_ ?_ ?_ ?_ ?_
 ·exact j.sp 5 [0]
 ·rintro hm ai _ w ⟨O,rfl,j⟩
  refine RC.sr (ic ((p0.bL.length:Int)) ((p0.bL.length:Int)) (RL.nq (RC.cP mz (RC.ex ?_))))
  exact⟨rfl,j.sp 1 [0]⟩
 ·rintro hm ah ai fl _ w hk ⟨O,rfl,j⟩ o
  refine RC.sr (ic ((ah:Int)) ((p0.bL.length:Int)) (RL.nq (RC.cO (my hk) (RC.ss (RC.bs ?_)))))
  obtain⟨ad,au,o⟩:=bd o
  refine RL.cA 0 j Cq au fun a5 j=>(RL.bC 0 ad j oY fun a6 j=>(RL.alloc j Fh.z fun a7 w j=>?_))
  refine RL.bD 0 j 1 zr oY fun w j=>?_
  refine RL.nq (RC.sr (RL.aN (f:=(fun x=>x)) 0 j zr Fd.self oY fun av j=>?_))
  obtain⟨ae,aw,o⟩:=bd o
  refine RL.call zt zr KY [av] zr (aF (qj N (i0:=0) j zr aw) ?_)
  rintro _ w ⟨an,rfl,j⟩
  refine mv (.tuple #[an,(vi ae.2)]) (RL.extract an (RL.extract (vi ae.2) (RL.alloc j pH.z fun a8 w j=>?_)))
  refine RL.bD 0 j 1 zr jf fun w j=>?_
  refine aM (vi ae.2) (RL.ns (mv (vi ae.2) (ic ae.2 0 (RL.nt (eH o (fun hc o=>?_) fun hc o=>?_)))))
  ·refine RC.sr (mv (vi ae.2) (aM (vi ae.2) (RL.nt (RC.rt (iA (bN ?_))))))
   obtain rfl:=oi o
   exact⟨rfl,bU ⟨rfl,j.drop 7⟩⟩
  refine RC.ss ?_
  obtain⟨aj,hj,o⟩:=bd o
  refine RC.jn (fun(aj:Bool)=>SH E V [(3,vi p0.aO.length),(16,ag),(17,vi p0.bL.length),(18,vi ah),(45,vb aj)] [rd ag p0.bL]) aj ?_ ?_
  ·refine RC.region (RL.bH zr uJ (RL.aP 3 j zr m6 dE (mv (vi p0.aO.length) (RL.jQ (p0.aO.length:Int) 1 ?_))))
   obtain⟨ao,ax,hj⟩:=bd hj
   refine RL.call zt zr Ix [(vi ad.dD),(vi 0),(vi (IntKind.wrap .i64 ((p0.aO.length:Int) - 1)))] zr (aF (lM N (p0:=ad.dD) (p1:=0) (p2:=(IntKind.wrap .i64 ((p0.aO.length:Int) - 1))) j ax) ?_)
   rintro _ w ⟨rfl,j⟩
   refine RL.not ao (mv (vb (!ao)) (gZ hj (fun aa hj=>?_) fun aa hj=>?_))
   ·refine bZ aa (bZ aa (bZ aa (bZ aa (bZ aa (bZ aa (bZ aa (bZ aa (g9 aa (vb true) ?_))))))))
    refine RL.nil ?_
    obtain rfl:=oi hj
    exact⟨rfl,j.sp 7 [6]⟩
   refine RL.bH (hg:=(cg aa)) zr wM (RL.aP (hg:=(cg aa)) 3 j zr ou dE (RL.bH (hg:=(cg aa)) zr uJ (RL.aP (hg:=(cg aa)) 3 j zr m6 dE (RL.move (vi p0.aO.length) (cg aa) (RL.jQ (hg:=(cg aa)) (p0.aO.length:Int) 1 ?_)))))
   obtain⟨aq,ay,hj⟩:=bd hj
   refine RL.call (cg aa) zr Ix [(vi ad.To),(vi ad.dD),(vi (IntKind.wrap .i64 ((p0.aO.length:Int) - 1)))] zr (aF (lM N (p0:=ad.To) (p1:=ad.dD) (p2:=(IntKind.wrap .i64 ((p0.aO.length:Int) - 1))) j ay) ?_)
   rintro _ w ⟨rfl,j⟩
   refine RL.not (hg:=(cg aa)) aq (g9 aa (vb (!aq)) (RL.nil ?_))
   obtain rfl:=oi hj
   exact⟨rfl,j.sp 7 [6]⟩
  rintro _ w ⟨O,rfl,j⟩
  refine aG (eH o (fun hc o=>?_) fun hc o=>?_)
  rotate_left
  ·refine RC.skip (bO (aG (RC.region (RL.inc hk hm (mv (vi ((ah+1:Nat):Int)) (RL.nil ?_))))))
   obtain rfl:=oi o
   exact⟨rfl,j.sp 1 [0]⟩
  refine RC.sr (aM (vi 1) (RL.nt (RC.rb (bN ?_))))
  obtain rfl:=oi o
  exact⟨rfl,bU ⟨rfl,j.drop 1⟩⟩
 ·intro r U w e hK
  subst e
  refine bN ?_
  obtain rfl:=oi o
  exact hK
 rintro ai _ w rfl ⟨O,rfl,j⟩
 rw [Fo.fW] at o
 refine aG (RC.sr (aM (vi 0) (RL.nt (RC.ret ?_))))
 obtain rfl:=oi o
 exact bU ⟨rfl,j.drop 1⟩
def yL (E:World) (V:List HP) (res:aX) (v:Value) (w:World):Prop:=Holds E w ([rd v res]++V)
theorem jr {p0:eQ} {res:aX} (j:Holds E w V) (h0:V[i0]? =some (rd v0 p0)) (o:iO N p0=some res):
    Calls bB 17 [v0].toArray w (gr (yL E V res)):=by
 unfold iO at o
 refine enter Tryz.func17 zr zr ?_
 have j:=j.dup (i0+0) h0
 refine RC.sr (RL.cQ 0 v0 j zr fun aa w j=>?_)
 refine RL.alloc j sA.z fun ab w j=>?_
 refine RL.ns (RL.bH zr GZ (RL.aP 1 j zr Ag pQ (RL.bH zr G0 (RL.aP 1 j zr Ah pQ ?_))))
 have j:=(j.sc bR p0.Part).sc bR p0.aX
 refine RL.build (⟨p0.Part,p0.aX⟩:aX) trivial rfl j [(0,(str p0.Part)),(1,(str p0.aX))] rfl KZ rfl (fun M hs g=>by have h:=GN M;exact cZ.cons (f:=fun(x:aX) y=>{x with Part:=y}) h Ch (g.sat 1 _ rfl).1 fun _ h=>cZ.cons (f:=fun(x:aX) y=>{x with aX:=y}) h Ci (g.sat 0 _ rfl).1 fun _ h=>cZ.nil h) fun ad j=>?_
 refine RL.bD 3 j 0 zr gT fun w j=>?_
 refine RL.nt (RC.ret ?_)
 obtain rfl:=oi o
 exact JB 3 zr j zr zr gT fun ae j=>(j.pk 7 [0])
def t8 (E:World) (V:List HP) (r:Int) (U:Nat->Value) (w:World):Prop:=mu bB 60 Tryz.f46 (aH E V r) .ret U w
theorem sQ {p0:kr} (j:Holds E w V) (h0:V[i0]? =some (rd v0 p0)) (hb:jB N p0=some res):
    Calls bB 46 [v0].toArray w (gr (aH E V res)):=by
 unfold jB at hb
 refine enter Tryz.func46 zr zr ?_
 have j:=j.dup (i0+0) h0
 refine RC.sr (RL.cQ 0 v0 j zr fun ag w j=>?_)
 have j:=j.hZ (i:=0) rfl
 refine aM (vi 0) (RL.nq (RC.sr (RL.fB 0 j zr wN p6 fun bk j=>(RL.bC 0 p0.bM j Fj fun bl j=>(RL.bF 0 p0.bM j GY (ic ((p0.bM.length:Int)) 1000 (RL.nt (eH hb (fun hc hb=>?_) fun hc hb=>?_))))))))
 ·refine RC.sr (aM (vi 2) (RL.nt (RC.rt ?_)))
  obtain rfl:=oi hb
  exact bU ⟨rfl,j.drop 4⟩
 refine RC.ss (RC.sr (RL.fB 2 j zr wN p6 fun bm j=>(RL.bC 0 p0.bM j Fj fun ah j=>(RL.bF 0 p0.bM j GY (mv (vi 0) (RL.nt ?_))))))
 obtain⟨bn,hN,hb⟩:=bd hb
 refine RC.range (fun(ad:Nat) (ak:Unit)=>SH E V [(1,vp ag 0),(10,ah),(11,vi p0.bM.length),(12,vi ad)] [pt (vp ag 0) p0,rd ah p0.bM]) (fun(ak:Unit)=>SH E V [] [pt (vp ag 0) p0,rd ah p0.bM]) (t8 E V) hN ?_ ?_ ?_ ?_ ?_
 ·exact j.sp 6 [4,0]
 ·rintro hm ak _ w ⟨O,rfl,j⟩
  refine RC.sr (ic ((p0.bM.length:Int)) ((p0.bM.length:Int)) (RL.nq (RC.cP mz (RC.ex ?_))))
  exact⟨rfl,j.sp 2 [0,1]⟩
 ·rintro hm ad ak fl _ w hk ⟨O,rfl,j⟩ hb
  refine RC.sr (ic ((ad:Int)) ((p0.bM.length:Int)) (RL.nq (RC.cO (my hk) (RC.ss (RC.bs (mv (vi ad) ?_))))))
  obtain⟨ai,a1,hb⟩:=bd hb
  refine RL.cA 1 j Fk a1 fun bp j=>(RL.bC 0 ai j uK fun bq j=>(RL.alloc j JW.z fun al w j=>?_))
  refine aM (vi ad) (RL.bD 0 j 1 zr uK fun w j=>?_)
  refine RL.nt (RC.block (RC.seq ?_))
  obtain⟨an,o,hb⟩:=bd hb
  refine RC.jn (fun(an:Bool)=>SH E V [(1,vp ag 0),(3,vi ad),(4,vp al 0),(10,ah),(11,vi p0.bM.length),(12,vi ad),(17,vb an)] [pt (vp ag 0) p0,bx 79 al ai,rd ah p0.bM]) an ?_ ?_
  ·refine RC.region (RL.bH zr GZ (RL.aP 0 j zr Ag pQ ?_))
   obtain⟨ay,a2,o⟩:=bd o
   refine RL.call zt zr JT [(str ai.Part)] zr (aF (mJ N (p0:=ai.Part) j a2) ?_)
   rintro _ w ⟨rfl,j⟩
   refine RL.not ay (mv (vb (!ay)) (gZ o (fun ae o=>?_) fun ae o=>?_))
   ·refine bZ ae (bZ ae (bZ ae (bZ ae (g9 ae (vb true) (aM (vb true) (RL.nil ?_))))))
    obtain rfl:=oi o
    exact⟨rfl,j.sp 5 [3,0,4]⟩
   refine RL.bH (hg:=(cg ae)) zr G0 (RL.aP (hg:=(cg ae)) 0 j zr Ah pQ ?_)
   obtain⟨ao,a3,o⟩:=bd o
   refine RL.call (cg ae) zr Is [(str ai.aX)] zr (aF (kP N (p0:=ai.aX) j a3) ?_)
   rintro _ w ⟨rfl,j⟩
   refine RL.not (hg:=(cg ae)) ao (g9 ae (vb (!ao)) (aM (vb (!ao)) (RL.nil ?_)))
   obtain rfl:=oi o
   exact⟨rfl,j.sp 5 [3,0,4]⟩
  rintro _ w ⟨O,rfl,j⟩
  refine aG (eH hb (fun hc hb=>?_) fun hc hb=>?_)
  ·refine RC.sr (aM (vi 5) (RL.nt (RC.rb (iA (bN ?_)))))
   obtain rfl:=oi hb
   exact⟨rfl,bU ⟨rfl,j.drop 3⟩⟩
  refine RC.seq ?_
  obtain⟨aq,o,hb⟩:=bd hb
  refine RC.jn (fun(aq:Bool)=>SH E V [(1,vp ag 0),(3,vi ad),(4,vp al 0),(10,ah),(11,vi p0.bM.length),(12,vi ad),(28,vb aq)] [pt (vp ag 0) p0,bx 79 al ai,rd ah p0.bM]) aq ?_ ?_
  ·refine RC.region (RL.bH zr Dr (RL.aP 1 j zr wG dE (RL.fB 0 j zr wK p5 fun br j=>(RL.bC 0 p0.aO j Fb fun bt j=>(RL.bF 0 p0.aO j Co (RL.jQ (p0.aO.length:Int) 1 ?_))))))
   obtain⟨az,a4,o⟩:=bd o
   refine RL.call zt zr Ix [(vi ai.eU),(vi 0),(vi (IntKind.wrap .i64 ((p0.aO.length:Int) - 1)))] zr (aF (lM N (p0:=ai.eU) (p1:=0) (p2:=(IntKind.wrap .i64 ((p0.aO.length:Int) - 1))) j a4) ?_)
   rintro _ w ⟨rfl,j⟩
   refine RL.not az (mv (vb (!az)) (gZ o (fun af o=>?_) fun af o=>?_))
   ·refine bZ af (bZ af (bZ af (bZ af (g9 af (vb true) (aM (vb true) (RL.nil ?_))))))
    obtain rfl:=oi o
    exact⟨rfl,j.sp 5 [2,3,4]⟩
   refine RL.bH (hg:=(cg af)) zr Ds (RL.aN (hg:=(cg af)) 3 j zr wH Iy fun a5 j=>?_)
   obtain⟨ar,a6,o⟩:=bd o
   refine RL.call (cg af) zr KX [a5] zr (aF (qh N (i0:=0) j zr a6) ?_)
   rintro _ w ⟨rfl,j⟩
   refine RL.not (hg:=(cg af)) ar (g9 af (vb (!ar)) (aM (vb (!ar)) (RL.nil ?_)))
   obtain rfl:=oi o
   exact⟨rfl,j.sp 6 [3,4,5]⟩
  rintro _ w ⟨O,rfl,j⟩
  refine aG (eH hb (fun hc hb=>?_) fun hc hb=>?_)
  ·refine RC.sr (aM (vi 1) (RL.nt (RC.rb (iA (bN ?_)))))
   obtain rfl:=oi hb
   exact⟨rfl,bU ⟨rfl,j.drop 3⟩⟩
  refine RC.seq ?_
  obtain⟨au,o,hb⟩:=bd hb
  refine RC.jn (fun(au:Bool)=>SH E V [(1,vp ag 0),(10,ah),(11,vi p0.bM.length),(12,vi ad),(43,vb au)] [pt (vp ag 0) p0,rd ah p0.bM]) au ?_ ?_
  ·refine RC.Cg mixed [0,0,0,0,2,1,1,1,1,1,1,2,2,0,0,0] [0,1,2,3,5,6,7,8,9,10,4,11,12,13,14,15] ?_
   have j:=j.drew
   refine DP.e0 zr (mv (vi ad) (dA zr (ic ((ad:Int)) 0 (dA zr (mv (vb (decide ((ad:Int)>0))) (DP.d0 (gZ o (fun ab o=>?_) fun ab o=>?_)))))))
   rotate_left
   ·refine DP.e0 zr (bZ ab (DP.d0 (DP.e1 undef zr (fun w=>bZ ab DP.d1) (DP.e1 undef zr (fun w=>bZ ab DP.d1) (DP.e1 undef zr (fun w=>bZ ab DP.d1) (DP.e1 undef zr (fun w=>bZ ab DP.d1) (DP.e1 undef zr (fun w=>bZ ab DP.d1) (DP.e1 undef zr (fun w=>bZ ab DP.d1) ?_))))))))
    refine DP.e2 zr (bZ ab (Iq zr (bZ ab (Iq zr (bZ ab (Dh zr (bZ ab (dA zr ?_))))))))
    refine g9 ab (vb false) (dA zr (aM (vb false) (DP.d0 (DP.z ?_))))
    obtain rfl:=oi o
    exact⟨rfl,j.sp 3 [0,2]⟩
   refine DP.e0 zr (RL.aN (hg:=(cg ab)) (f:=(fun x=>x)) 1 j zr Fd.self uK fun a7 j=>(DP.d0 (DP.Ky 1 zr zr (cg ab) zr j zr zr wN p6 fun bu j=>(DP.AU p0.bM 0 zr (cg ab) j Fj fun bw a378 bz j=>(DP.e1 (vi ad) zr (fun w=>RL.move (vi ad) (cg ab) DP.d1) (DP.e1 (vi (IntKind.wrap .i64 ((ad:Int) - 1))) zr (fun w=>RL.jQ (hg:=(cg ab)) (ad:Int) 1 DP.d1) ?_))))))
   obtain⟨a8,a9,o⟩:=bd o
   refine DP.JN 1 zr zr (cg ab) zr j zr zr zr Fk a9 fun b0 j=>(DP.AU a8 0 zr (cg ab) j uK fun ba a383 b1 j=>(DP.e2 zr ?_))
   obtain⟨b2,bb,o⟩:=bd o
   refine RL.call (cg ab) zr Fm [a7] zr (aF (jr N (i0:=6) j zr bb) ?_)
   rintro bc w j
   refine DP.d2 (⟨⟨zt,j.m5 4⟩,j.m5 1⟩) (DP.e2 zr ?_)
   obtain⟨b3,bf,o⟩:=bd o
   refine RL.call (cg ab) zr Fm [ba] zr (aF (jr N (i0:=2) j zr bf) ?_)
   rintro bg w j
   refine DP.d2 (⟨⟨zt,j.m5 5⟩,j.m5 2⟩) (DP.e2 zr ?_)
   obtain⟨av,bh,o⟩:=bd o
   refine RL.call (cg ab) zr Iw [bc,bg] zr (aF (iP N (i0:=1) (i1:=0) j zr zr bh) ?_)
   rintro _ w ⟨rfl,j⟩
   refine DP.d2 (⟨⟨zt,j.m5 5⟩,j.m5 2⟩) (DP.e0 zr (RL.kI av 0 (cg ab) (dA zr (g9 ab (vb (decide (av<=0))) (dA zr (aM (vb (decide (av<=0))) (DP.d0 ?_)))))))
   have j:=j.pl 12 [0,1,3,4,6,7,8,9,10,11]
   refine DP.z ?_
   obtain rfl:=oi o
   exact⟨rfl,j.sp 10 [7,9]⟩
  rintro _ w ⟨O,rfl,j⟩
  refine aG (eH hb (fun hc hb=>?_) fun hc hb=>?_)
  rotate_left
  ·refine RC.skip (bO (bO (aG (RC.region (RL.inc hk hm (mv (vi ((ad+1:Nat):Int)) (RL.nil ?_)))))))
   obtain rfl:=oi hb
   exact⟨rfl,j.sp 2 [0,1]⟩
  refine RC.sr (aM (vi 8) (RL.nt (RC.rb (iA (bN ?_)))))
  obtain rfl:=oi hb
  exact⟨rfl,bU ⟨rfl,j.drop 2⟩⟩
 ·intro r U w e hK
  subst e
  refine bN ?_
  obtain rfl:=oi hb
  exact hK
 rintro ak _ w rfl ⟨O,rfl,j⟩
 rw [Fo.fW] at hb
 refine aG (RC.sr (aM (vi 0) (RL.nt (RC.ret ?_))))
 obtain rfl:=oi hb
 exact bU ⟨rfl,j.drop 2⟩
theorem ql (o:Holds E w V) (j:kF N p0 p1 p2 p3=some res):
    Calls bB 92 [(vi p0),(vi p1),(vi p2),(vi p3)].toArray w (gr (aH E V res)):=by
 unfold kF at j
 refine enter Tryz.func92 zr zr (RC.sr (aM (vi 0) (RL.ns (mv (vi p2) (mv (vi p1) (RL.jQ p2 p1 (RL.jQ (IntKind.wrap .i64 (p2 - p1)) 1 (mv (vi p0) ?_))))))))
 refine mv (vi p3) (RL.jQ p0 p3 (RL.jQ (IntKind.wrap .i64 (p0 - p3)) 1 (RL.L9 (a:=0) (b:=(IntKind.wrap .i64 ((IntKind.wrap .i64 (p2 - p1))+1))) (c:=(IntKind.wrap .i64 ((IntKind.wrap .i64 (p0 - p3))+1))) zt zr zr zr zr (aM (vi (if (if 0< (IntKind.wrap .i64 ((IntKind.wrap .i64 (p2 - p1))+1)) then (IntKind.wrap .i64 ((IntKind.wrap .i64 (p2 - p1))+1)) else 0)< (IntKind.wrap .i64 ((IntKind.wrap .i64 (p0 - p3))+1)) then (IntKind.wrap .i64 ((IntKind.wrap .i64 (p0 - p3))+1)) else (if 0< (IntKind.wrap .i64 ((IntKind.wrap .i64 (p2 - p1))+1)) then (IntKind.wrap .i64 ((IntKind.wrap .i64 (p2 - p1))+1)) else 0))) (RL.nt (RC.ret ?_))))))
 obtain rfl:=oi j
 exact bU ⟨rfl,o.drop 0⟩
theorem Bf {p0 p1:aJ} (j:Holds E w V) (h0:V[i0]? =some (rd v0 p0)) (h1:V[i1]? =some (rd v1 p1)) (o:pT N p0 p1=some res):
    Calls bB 47 [v0,v1].toArray w (gr (aH E V res)):=by
 unfold pT at o
 refine enter Tryz.func47 zr zr ?_
 have j:=(j.dup (i0+0) h0).dup (i1+1) h1
 refine RC.sr (RL.cQ 1 v0 j zr fun aa w j=>?_)
 refine RL.cQ 1 v1 j zr fun ab w j=>?_
 refine aM (vi 0) (RL.nq ?_)
 have j:=j.drew
 refine RC.E6 (fun w=>Holds E w ([bx 83 ab p1,bx 83 aa p0]++V)) mixed zr [0,0,0,0,0,0,0,0,2,1,1,1,1,1,1,1,1,2,0,0] [0,1,2,3,4,5,6,7,9,10,11,12,13,14,15,16,8,17,18,19] (j.pk 4 [0,1]) (DP.e0 zr (RL.bH zr kn (dA zr (RL.aP 1 j zr fK dE (dA zr (RL.bH zr ld (dA zr (RL.aP 1 j zr gE dE ?_))))))))
 refine dA zr (RL.bH zr kn (dA zr (RL.aP 0 j zr fK dE (dA zr (RL.bH zr ld (dA zr (RL.aP 0 j zr gE dE (DP.d0 ?_))))))))
 refine DP.e1 (vp aa 1) zr (fun w=>RL.bH zr k9 DP.d1) (DP.Je (vi p0.Y0) zr (fun w j=>RL.aP 1 j zr gl dE DP.d1) (DP.e1 (vp aa 3) zr (fun w=>RL.bH zr oI DP.d1) (DP.Je (vi p0.Y1) zr (fun w j=>RL.aP 1 j zr j3 dE DP.d1) (DP.e1 (vp ab 1) zr (fun w=>RL.bH zr k9 DP.d1) (DP.Je (vi p1.Y0) zr (fun w j=>RL.aP 0 j zr gl dE DP.d1) (DP.e1 (vp ab 3) zr (fun w=>RL.bH zr oI DP.d1) (DP.Je (vi p1.Y1) zr (fun w j=>RL.aP 0 j zr j3 dE DP.d1) (DP.e2 zr ?_))))))))
 obtain⟨ad,af,o⟩:=bd o
 refine RL.call zt zr K0 [(vi p0.X0),(vi p0.X1),(vi p1.X0),(vi p1.X1)] zr (aF (ql N (p0:=p0.X0) (p1:=p0.X1) (p2:=p1.X0) (p3:=p1.X1) j af) ?_)
 rintro _ w ⟨rfl,j⟩
 refine DP.d2 (j.pk 4 [0,1]) (DP.e2 zr ?_)
 obtain⟨ae,ag,o⟩:=bd o
 refine RL.call zt zr K0 [(vi p0.Y0),(vi p0.Y1),(vi p1.Y0),(vi p1.Y1)] zr (aF (ql N (p0:=p0.Y0) (p1:=p0.Y1) (p2:=p1.Y0) (p3:=p1.Y1) j ag) ?_)
 rintro _ w ⟨rfl,j⟩
 refine DP.d2 (j.pk 4 [0,1]) (DP.e0 zr (RL.max ad ae (dA zr (aM (vi (if ad<ae then ae else ad)) (DP.d0 (DP.z (aG (RC.ret ?_))))))))
 obtain rfl:=oi o
 exact bU ⟨rfl,j.drop 4⟩
theorem mL {p0:cN} {res:Bool} (j:Holds E w V) (h0:V[i0]? =some (rd v0 p0)) (hb:jV N p0 p1=some res):
    Calls bB 93 [v0,(vi p1)].toArray w (gr (bA E V res)):=by
 unfold jV at hb
 refine enter Tryz.func93 zr zr ?_
 have j:=j.dup (i0+0) h0
 refine RC.sr (RL.cQ 0 v0 j zr fun o w j=>?_)
 refine aM (vb false) (RL.ns (RL.bH zr uJ (RL.aP 0 j zr m6 dE (mv (vi p1) (ic p0.dD p1 (mv (vb (decide (p0.dD<=p1))) (RL.gs true (decide (p0.dD<=p1)) (vi p1) zr zr zr dQ (RL.gs true (decide (p0.dD<=p1)) (vp o 4) zr zr zr (fA wM) ?_))))))))
 refine RL.gs true (decide (p0.dD<=p1)) (vi p0.To) rfl rfl rfl (cL 0 rfl j (fun h=>by exact(dI h:cv (true&&((decide (p0.dD<=p1))==true)) (vp o 4)= (vp o 4))) rfl ou dE) (RL.gs true (decide (p0.dD<=p1)) (vb (decide (p1<=p0.To))) rfl rfl rfl (eM .leq .i64 p1 p0.To rfl (fun h=>by exact(dI h:cv (true&&((decide (p0.dD<=p1))==true)) (vi p1)= (vi p1))) (fun h=>by exact(dI h:cv (true&&((decide (p0.dD<=p1))==true)) (vi p0.To)= (vi p0.To))) rfl) (RL.pick (decide (p0.dD<=p1)) (vb ((decide (p0.dD<=p1))&&(decide (p1<=p0.To)))) (kg true) (aM (vb ((decide (p0.dD<=p1))&&(decide (p1<=p0.To)))) (RL.nt (RC.ret ?_)))))
 obtain rfl:=oi hb
 exact bU ⟨rfl,j.drop 2⟩
def yM (E:World) (V:List HP) (res: (List Int)×Int) (v:Value) (w:World):Prop:=∃u0:Value,v = .tuple #[u0,(vi res.2)]/\Holds E w ([rd u0 res.1]++V)
theorem rC {p0: (List aA)} {res: (List Int)×Int} (j:Holds E w V) (h0:V[i0]? =some (rd v0 p0)) (o:lH N p0 p1 p2=some res):
    Calls bB 161 [v0,(vi p1),(vi p2)].toArray w (gr (yM E V res)):=by
 unfold lH at o
 refine enter Tryz.func161 zr zr ?_
 have j:=j.dup (i0+0) h0
 refine RC.sr (aM (.slice none 0 0) (aM (vi 0) (RL.nq (RC.bs (mv v0 (RL.bF 0 p0 j nU (ic ((p0.length:Int)) 0 (aM (vb ((p0.length:Int)==0)) ?_))))))))
 refine RL.nt (eH o (fun hc o=>?_) fun hc o=>?_)
 ·refine RC.sr (mv (vi p2) (aM (.slice none 0 0) (aM (vi p2) (RL.nt (RC.rb (bN ?_))))))
  obtain rfl:=oi o
  have j:=j.Gr Int
  exact oz ⟨(.slice none 0 0),zr,j.pk 2 [0]⟩
 refine RC.sr (mv (vi p1) (mv v0 ?_))
 obtain⟨ae,ag,o⟩:=bd o
 refine RL.cA 0 j ky ag fun al j=>(RL.fB 0 j zr n8 fT fun an j=>(RL.bQ ae.Y0 0 j dE (ic p1 ae.Y0 (aM (vb (decide (p1<ae.Y0))) (RL.nt (eH o (fun hc o=>?_) fun hc o=>?_))))))
 ·refine RC.seq (RC.zA mixed ?_)
  have j:=j.drew
  refine RO.go (mv (vi p2) (RO.nx (mv v0 (RO.nx ?_))))
  obtain⟨aa,ah,o⟩:=bd o
  refine RL.cA 2 j ky ah fun ao j=>(RO.nx (RL.fB 0 j zr n8 fT fun aq j=>(RO.nx (RL.bQ aa.Y0 0 j dE (RO.nx (RL.min p2 aa.Y0 (RO.nx (aM (.slice none 0 0) ?_))))))))
  refine RO.nx (aM (vi (if aa.Y0<p2 then aa.Y0 else p2)) (RO.last (aG (RC.rb (bN ?_)))))
  obtain rfl:=oi o
  have j:=j.Gr Int
  exact oz ⟨(.slice none 0 0),zr,j.pk 6 [0]⟩
 refine RC.skip (bO (aG (RC.seq (RC.zA mixed ?_))))
 have j:=j.drew
 refine RO.go (mv v0 (RO.nx ?_))
 obtain⟨ai,aj,o⟩:=bd o
 refine RL.cA 2 j ky aj fun ar j=>(RO.nx (RL.fB 0 j zr kO dF fun au j=>(RO.nx (RL.bC 0 ai.Xs j fU fun af j=>(RO.nx (mv (vi p2) (RO.nx (mv v0 ?_))))))))
 refine RO.nx ?_
 obtain⟨ab,ak,o⟩:=bd o
 refine RL.cA 5 j ky ak fun av j=>(RO.nx (RL.fB 0 j zr mc eK fun aw j=>(RO.nx (RL.bQ ab.Y1 0 j dE (RO.nx (RL.min p2 ab.Y1 (RO.nx (aM af ?_))))))))
 refine RO.nx (aM (vi (if ab.Y1<p2 then ab.Y1 else p2)) (RO.last (aG (RC.ret ?_))))
 obtain rfl:=oi o
 exact oz ⟨af,zr,j.pk 8 [2]⟩
end Go.Gk
