/-
  Printed texts: Go functions as plain functions, and that they are. No statement of the seed is proved here.
-/
import Derived.Test.YthioiiocofohiaaGreatDoorG1
import Derived.Test.YthioiiocofohiaaGreatDoorG3
import Derived.Test.YthioiiocofohiaaGreatDoorG4
import Derived.Test.YthioiiocofohiaaGreatDoorG5
import Derived.Test.YthioiiocofohiaaGreatDoorA2
set_option linter.unusedVariables false
set_option linter.unusedSimpArgs false
set_option linter.unusedSectionVars false
set_option maxRecDepth 100000
set_option maxHeartbeats 40000000
namespace Go.Gk
open Go Go.Proofs
variable (N:Nat) {E w:World} {b0 i0 i1 i2 i3:Nat} {p3 p4:Int} {v0 v0_0 v0_1 v0_10 v0_11 v0_2 v0_3 v0_4 v0_5 v0_6 v0_7 v0_8 v0_9 v1 v2 v3:Value} {V:List HP}
def yM (E:World) (V:List HP) (b0:Nat) (v0_0 v0_1:Value) (v0_2 v0_3:Value) (v0_4 v0_5:Value) (v0_6 v0_7:Value) (v0_8 v0_9:Value) (v0_10 v0_11:Value) (res: (List Int)) (v:Value) (w:World):Prop:=Holds E w ([own 3 v res,bc 126 b0 [v0_0,v0_1,v0_2,v0_3,v0_4,v0_5,v0_6,v0_7,v0_8,v0_9,v0_10,v0_11]]++V)
theorem xU {p0_2: (List cD)} {p0_3: (List dD)} {p0_5: (List aJ)} {p0_6: (List (List Int))} {p0_10: (List Int)} {p0_11: (List fJ)} {p1: (List lK)} {res: (List Int)} (j:Holds E w (bc 126 b0 [v0_0,v0_1,v0_2,v0_3,v0_4,v0_5,v0_6,v0_7,v0_8,v0_9,v0_10,v0_11]::rd v0_2 p0_2::rd v0_3 p0_3::rd v0_5 p0_5::rd v0_6 p0_6::rd v0_10 p0_10::rd v0_11 p0_11::V)) (h1:V[i1]? =some (rd v1 p1)) (o:lq N p0_2 p0_3 p0_5 p0_6 p0_10 p0_11 p1=some res):
    Calls bN 36 [(vp b0 0),v1].toArray w (iE (yM E V b0 v0_0 v0_1 v0_2 v0_3 v0_4 v0_5 v0_6 v0_7 v0_8 v0_9 v0_10 v0_11 res)):=by
 unfold lq at o
 refine enter Tryz.func36 zr zr ?_
 have j:=j.dup (i1+7) h1
 refine RC.sr (aT (.slice none 0 0) (RL.ns (mv (vp b0 0) (RL.nilCheck zr (RL.bO zr qB (RL.bS 1 v0_5 j yj (RL.bM 4 p0_5 j Bl (RL.alloc j Hy.z fun ad w j=>?_))))))))
 have j:=j.sc Int (p0_5.length:Int)
 refine RL.bW 1 j 0 zr cW fun w j=>?_
 refine RL.ns ?_
 have j:=j.hG (i:=1) rfl
 refine RL.makeFunc [(vp ad 0)] (aT (.func (.func 60) #[] #[(vp ad 0)]) (RL.ns (RL.makeMap (κ:=Int) (ν:=Bool) zr j fun af w j=>(RL.jN j Ns fun ae w j=>?_))))
 refine RL.jg 0 af j zr zr (Lh j (i:=1) zr) DN fun w j=>?_
 refine RL.nq (RC.sr (mv v1 (RL.bM 4 p1 j Iq (mv (vi 0) (RL.nt ?_)))))
 obtain⟨ai,hN,o⟩:=bd o
 refine RC.fold (fun(ba:Nat) (ai: (List (Int×Bool)))=>SH E V [(0,vp b0 0),(1,v1),(5,vp ad 0),(6,(.func (.func 60) #[] #[(vp ad 0)])),(7,vp ae 0),(32,v1),(33,vi p1.length),(34,vi ba)] [bc 126 b0 [v0_0,v0_1,v0_2,v0_3,v0_4,v0_5,v0_6,v0_7,v0_8,v0_9,v0_10,v0_11],rd v0_2 p0_2,rd v0_3 p0_3,rd v0_5 p0_5,rd v0_6 p0_6,rd v0_10 p0_10,rd v0_11 p0_11,rd v1 p1,pt (vp ad 0) (p0_5.length:Int),bc 143 ae [af],mp af ai]) (fun(ai: (List (Int×Bool)))=>SH E V [(0,vp b0 0),(1,v1),(5,vp ad 0),(6,(.func (.func 60) #[] #[(vp ad 0)])),(7,vp ae 0)] [bc 126 b0 [v0_0,v0_1,v0_2,v0_3,v0_4,v0_5,v0_6,v0_7,v0_8,v0_9,v0_10,v0_11],rd v0_2 p0_2,rd v0_3 p0_3,rd v0_5 p0_5,rd v0_6 p0_6,rd v0_10 p0_10,rd v0_11 p0_11,rd v1 p1,pt (vp ad 0) (p0_5.length:Int),bc 143 ae [af],mp af ai]) hN ?_ ?_ ?_ ?_
 ·exact j.sp 12 [5,6,7,8,9,10,11,4,3,0,1]
 ·rintro hm ai _ w ⟨O,rfl,j⟩
  refine RC.sr (ic ((p1.length:Int)) ((p1.length:Int)) (RL.nq (RC.dC oE (RC.ex ?_))))
  exact⟨rfl,j.sp 11 [0,1,2,3,4,5,6,7,8,9,10]⟩
 ·rintro hm ba ai s' _ w hk ⟨O,rfl,j⟩ o
  refine RC.sr (ic ((ba:Int)) ((p1.length:Int)) (RL.nq (RC.dB (oD hk) (RC.ss (RC.bs ?_)))))
  obtain⟨b9,ca,o⟩:=bd o
  refine RL.cJ 7 j Ir ca fun dc j=>(RL.bY 0 b9 j AM fun dd j=>(RL.alloc j LI.z fun de w j=>?_))
  refine RL.bW 0 j 1 zr AM fun w j=>?_
  refine RL.ns (RL.bO zr vG (RL.aR 0 j zr n9 yk (RL.nt ?_)))
  obtain⟨bp,hj,o⟩:=bd o
  refine RC.jn (fun(bp: (List (Int×Bool)))=>SH E V [(0,vp b0 0),(1,v1),(5,vp ad 0),(6,(.func (.func 60) #[] #[(vp ad 0)])),(7,vp ae 0),(32,v1),(33,vi p1.length),(34,vi ba)] [bc 126 b0 [v0_0,v0_1,v0_2,v0_3,v0_4,v0_5,v0_6,v0_7,v0_8,v0_9,v0_10,v0_11],rd v0_2 p0_2,rd v0_3 p0_3,rd v0_5 p0_5,rd v0_6 p0_6,rd v0_10 p0_10,rd v0_11 p0_11,rd v1 p1,pt (vp ad 0) (p0_5.length:Int),bc 143 ae [af],mp af bp]) bp ?_ ?_
  ·refine fK hj (fun hc hj=>?_) fun hc hj=>?_
   rotate_left
   ·refine RC.skip ?_
    obtain rfl:=oi hj
    exact⟨rfl,j.sp 14 [3,4,5,6,7,8,9,10,11,12,13]⟩
   have j:=j.drew
   refine RC.GH (fun w=>Holds E w ([bc 143 ae [af]]++V)) mixed zr [1,0,0,0,2,2] [0,1,2,3,4,5] (j.pk 14 [12]) (DP.JQ af zr (fun w j=>RL.bS 0 af j DN DP.d1) (DP.e0 zr (mv (.func (.func 60) #[] #[(vp ad 0)]) (cM zr (RL.bO zr xN (cM zr (RL.aV 0 j zr pD uU fun cb j=>(xt zr ?_))))))))
   obtain⟨cc,cd,hj⟩:=bd hj
   refine RL.sE [(vp ad 0)] Nt [cb] (aF (o8 N (i0:=0) (i1:=12) j zr zr cd) ?_)
   rintro _ w ⟨rfl,j⟩
   refine DP.d2 (j.pk 15 [13]) (DP.e2 zr ?_)
   have j:=j.sc Bool true
   refine RL.mapUpdate 15 0 cc j zr zr zr zr zr F6 fun w j=>(DP.d2 (j.pk 16 [14]) (DP.z ?_))
   obtain rfl:=oi hj
   exact⟨rfl,j.sp 16 [5,6,7,8,9,10,11,12,13,14,15]⟩
  rintro _ w ⟨O,rfl,j⟩
  refine cA (aG (RC.region (RL.inc hk hm (mv (vi ((ba+1:Nat):Int)) (RL.nil ?_)))))
  obtain rfl:=oi o
  exact⟨rfl,j.sp 11 [0,1,2,3,4,5,6,7,8,9,10]⟩
 rintro _ w ⟨O,rfl,j⟩
 refine aG (RC.seq ?_)
 obtain⟨cf,ch,o⟩:=bd o
 refine RC.BX E V mixed [0,1,1,1,1,0,0,1,0,0,0] [8,9,10] (fun(x:Nat×Value×Nat)=>(fun ab al aa=>[(0,46,(vi p0_5.length)),(1,47,(vp b0 0)),(2,48,(vp b0 0)),(3,49,(vp b0 0)),(4,50,(vp b0 2)),(5,51,v0_2),(6,52,(vi p0_2.length)),(7,53,(vi (IntKind.wrap .i64 ((p0_5.length:Int)+ (p0_2.length:Int))))),(8,54,(vp ab 0)),(9,10,(vp aa 0))]) x.1 x.2.1 x.2.2) [(0,vp b0 0),(1,v1),(5,vp ad 0),(6,(.func (.func 60) #[] #[(vp ad 0)])),(7,vp ae 0)] [] (fun(D:Nat->Bool) (x:Nat×Value×Nat)=>(fun ab al aa=>[bif D 0 then (bc 176 ab [al]) else aM,bif D 0 then (own 3 al cf) else aM,bif D 2 then (bc 144 aa [(vp ab 0)]) else (bif D 1 then (bc 144 aa [(.pointer none)]) else aM),bc 126 b0 [v0_0,v0_1,v0_2,v0_3,v0_4,v0_5,v0_6,v0_7,v0_8,v0_9,v0_10,v0_11],rd v0_2 p0_2,rd v0_3 p0_3,rd v0_5 p0_5,rd v0_6 p0_6,rd v0_10 p0_10,rd v0_11 p0_11,rd v1 p1,pt (vp ad 0) (p0_5.length:Int),bc 143 ae [af],mp af ai]) x.1 x.2.1 x.2.2) (fun x=>by kernel_rfl) ?_ ⟨?_,fun _=>g8 gn,fun _=>AB gn,fun _=>nA gn mW,fun _=>nA gn oc,?_,?_,fun _=>BZ gn,?_,?_,?_,trivial⟩ ?_
 ·have j:=(((j.drew).aM).aM).aM
  exact⟨(0,undef,0),eD.none,(AF zr),zt,j⟩
 ·rintro D U w hD av a1 ⟨⟨ab,al,aa⟩,hv,ha,_,j⟩
  obtain⟨O,rfl⟩:=(ac (ha.at 2 rfl) az).dH
  refine RL.cB (p0_5.length:Int) 11 j cW ?_
  exact RL.nil ⟨rfl,(ab,al,aa),hv.pu 0,ha.u,zt,j⟩
 ·rintro D U w hD av a1 ⟨⟨ab,al,aa⟩,hv,ha,_,j⟩
  obtain⟨O,rfl⟩:=(ac (hv.at 4 rfl (av.1 rfl)) az).dH
  refine RL.bS 3 v0_2 j xK ?_
  exact RL.nil ⟨rfl,(ab,al,aa),hv.pu 5,ha.u,zt,j⟩
 ·rintro D U w hD av a1 ⟨⟨ab,al,aa⟩,hv,ha,_,j⟩
  obtain⟨O,rfl⟩:=(ac (hv.at 5 rfl (av.1 rfl)) az).dH
  refine RL.bM 4 p0_2 j zw ?_
  exact RL.nil ⟨rfl,(ab,al,aa),hv.pu 6,ha.u,zt,j⟩
 ·rintro D U w hD av a1 ⟨⟨ab,al,aa⟩,hv,ha,_,j⟩
  obtain⟨O,rfl⟩:=(ac (hv.at 7 rfl (av.1 rfl)) az).dH
  have j:=((j.bK 0 hD).bK 1 hD).bK 2 (nh a1 hD 10)
  refine RL.call zt zr M4 [(vi (IntKind.wrap .i64 ((p0_5.length:Int)+ (p0_2.length:Int))))] zr (aF (o7 N (p0:=(IntKind.wrap .i64 ((p0_5.length:Int)+ (p0_2.length:Int)))) j ch) ?_)
  rintro _ w ⟨b2,cj,rfl,j⟩
  have j:=(((j.pl 16 [0,1,4,5,6,7,8,9,10,11,12,13,14,15]).bF 0 true rfl aM).bF 1 true rfl aM).fD 2 (D 10) (nh a1 hD 10) (bc 144 aa [(vp b2 0)])
  exact RL.nil ⟨rfl,(b2,cj,aa),hv.pu 8,ha.u,zt,j⟩
 ·rintro D U w hD av a1 ⟨⟨ab,al,aa⟩,hv,ha,_,j⟩
  obtain⟨O,rfl⟩:=(az (U:=U)).dH
  have j:=(j.bK 2 (nh a1 hD 10)).bK 2 hD
  refine RL.jN j Nu fun b3 w j=>?_
  have j:=((j.pl 15 [1,2,0,4,5,6,7,8,9,10,11,12,13,14]).bF 2 true rfl aM).fD 2 (D 10) (nh a1 hD 10) (bc 144 b3 [(vp ab 0)])
  exact RL.nil ⟨rfl,(ab,al,b3),hv.pu 9,ha.u,zt,j⟩
 ·rintro D U w hD av a1 ⟨⟨ab,al,aa⟩,hv,ha,_,j⟩
  obtain⟨O,rfl⟩:=(ac (hv.at 8 rfl (av.2.1 rfl)) (ac (hv.at 9 rfl (av.1 rfl)) az)).dH
  have j:=((j.bE 0 (av.2.1 rfl)).bK 2 hD).bE 2 (av.1 rfl)
  refine RL.jg 2 (vp ab 0) j zr zr zr DO fun w j=>?_
  have j:=(j.bF 0 (D 8) (av.2.1 rfl) aM).bF 2 true rfl (bif D 9 then (bc 144 aa [(.pointer none)]) else aM)
  exact RL.nil ⟨rfl,(ab,al,aa),hv.n1,ha,zt,j⟩
 rintro D U w bj ⟨⟨ab,al,aa⟩,hv,ha,_,j⟩
 have j:=((j.bE 0 (gq bj 8)).bE 1 (gq bj 8)).bE 2 (gq bj 10)
 obtain⟨O,rfl⟩:=(ac (hv.at 9 rfl (gq bj 9)) (ac (ha.at 0 rfl) (ac (ha.at 1 rfl) (ac (ha.at 2 rfl) (ac (ha.at 3 rfl) (ac (ha.at 4 rfl) az)))))).dH
 refine aG (RC.sr (RL.makeFunc [(vp ae 0),(vp aa 0)] (aT (.func (.func 62) #[] #[(vp ae 0),(vp aa 0)]) (RL.nq (RC.sr (mv (vp b0 0) (RL.nilCheck zr (RL.bO zr yU ?_))))))))
 refine RL.bS 3 v0_6 j F0 (RL.bM 7 p0_6 j F1 (mv (vi 0) (RL.nt ?_)))
 obtain⟨a6,hN,o⟩:=bd o
 refine RC.fold (fun(aw:Nat) (a6: (List Int)) U w=>∃b4:Value,SH E V [(0,vp b0 0),(1,v1),(5,vp ad 0),(6,(.func (.func 60) #[] #[(vp ad 0)])),(7,vp ae 0),(10,vp aa 0),(11,(.func (.func 62) #[] #[(vp ae 0),(vp aa 0)])),(59,v0_6),(60,vi p0_6.length),(61,vi aw)] [bc 126 b0 [v0_0,v0_1,v0_2,v0_3,v0_4,v0_5,v0_6,v0_7,v0_8,v0_9,v0_10,v0_11],rd v0_2 p0_2,rd v0_3 p0_3,rd v0_5 p0_5,rd v0_6 p0_6,rd v0_10 p0_10,rd v0_11 p0_11,rd v1 p1,pt (vp ad 0) (p0_5.length:Int),bc 143 ae [af],mp af ai,bc 144 aa [(vp ab 0)],bc 176 ab [b4],own 3 b4 a6] U w) (fun(a6: (List Int)) U w=>∃bk:Value,SH E V [(0,vp b0 0),(1,v1),(6,(.func (.func 60) #[] #[(vp ad 0)])),(7,vp ae 0),(10,vp aa 0),(11,(.func (.func 62) #[] #[(vp ae 0),(vp aa 0)]))] [bc 126 b0 [v0_0,v0_1,v0_2,v0_3,v0_4,v0_5,v0_6,v0_7,v0_8,v0_9,v0_10,v0_11],rd v0_2 p0_2,rd v0_3 p0_3,rd v0_5 p0_5,rd v0_6 p0_6,rd v0_10 p0_10,rd v0_11 p0_11,rd v1 p1,pt (vp ad 0) (p0_5.length:Int),bc 143 ae [af],mp af ai,bc 144 aa [(vp ab 0)],bc 176 ab [bk],own 3 bk a6] U w) hN ?_ ?_ ?_ ?_
 ·exact⟨al,j.sp 14 [3,4,5,6,7,8,9,10,11,12,13,2,0,1]⟩
 ·rintro hm a6 _ w ⟨ck,O,rfl,j⟩
  refine RC.sr (ic ((p0_6.length:Int)) ((p0_6.length:Int)) (RL.nq (RC.dC oE (RC.ex ?_))))
  exact⟨rfl,ck,j.sp 14 [0,1,2,3,4,5,6,7,8,9,10,11,12,13]⟩
 ·rintro hm aw a6 s' _ w hk ⟨cl,O,rfl,j⟩ o
  refine RC.sr (ic ((aw:Int)) ((p0_6.length:Int)) (RL.nq (RC.dB (oD hk) (RC.ss (RC.bs (mv (vi aw) ?_))))))
  obtain⟨a4,cm,o⟩:=bd o
  refine RL.cJ 4 j zz cm fun df j=>(RL.bY 0 a4 j gx fun bb j=>(aT (vi aw) (aT bb (RL.ns (mv bb (RL.bM 0 a4 j nN (mv (vi 0) (RL.nt ?_))))))))
  obtain⟨a7,hN,o⟩:=bd o
  refine RC.fold (fun(bl:Nat) (a7: (List Int)) U w=>∃b5:Value,SH E V [(0,vp b0 0),(1,v1),(5,vp ad 0),(6,(.func (.func 60) #[] #[(vp ad 0)])),(7,vp ae 0),(10,vp aa 0),(11,(.func (.func 62) #[] #[(vp ae 0),(vp aa 0)])),(12,vi aw),(59,v0_6),(60,vi p0_6.length),(61,vi aw),(66,bb),(67,vi a4.length),(68,vi bl)] [bc 126 b0 [v0_0,v0_1,v0_2,v0_3,v0_4,v0_5,v0_6,v0_7,v0_8,v0_9,v0_10,v0_11],rd v0_2 p0_2,rd v0_3 p0_3,rd v0_5 p0_5,rd v0_6 p0_6,rd v0_10 p0_10,rd v0_11 p0_11,rd v1 p1,pt (vp ad 0) (p0_5.length:Int),bc 143 ae [af],mp af ai,bc 144 aa [(vp ab 0)],bc 176 ab [b5],own 3 b5 a7,rd bb a4] U w) (fun(a7: (List Int)) U w=>∃bm:Value,SH E V [(0,vp b0 0),(1,v1),(5,vp ad 0),(6,(.func (.func 60) #[] #[(vp ad 0)])),(7,vp ae 0),(10,vp aa 0),(11,(.func (.func 62) #[] #[(vp ae 0),(vp aa 0)])),(59,v0_6),(60,vi p0_6.length),(61,vi aw)] [bc 126 b0 [v0_0,v0_1,v0_2,v0_3,v0_4,v0_5,v0_6,v0_7,v0_8,v0_9,v0_10,v0_11],rd v0_2 p0_2,rd v0_3 p0_3,rd v0_5 p0_5,rd v0_6 p0_6,rd v0_10 p0_10,rd v0_11 p0_11,rd v1 p1,pt (vp ad 0) (p0_5.length:Int),bc 143 ae [af],mp af ai,bc 144 aa [(vp ab 0)],bc 176 ab [bm],own 3 bm a7,rd bb a4] U w) hN ?_ ?_ ?_ ?_
  ·exact⟨cl,j.sp 16 [2,3,4,5,6,7,8,9,10,11,12,13,14,15,0]⟩
  ·rintro hm a7 _ w ⟨cn,O,rfl,j⟩
   refine RC.sr (ic ((a4.length:Int)) ((a4.length:Int)) (RL.nq (RC.dC oE (RC.ex ?_))))
   exact⟨rfl,cn,j.sp 15 [0,1,2,3,4,5,6,7,8,9,10,11,12,13,14]⟩
  ·rintro hm bl a7 s' _ w hk ⟨dg,O,rfl,j⟩ o
   refine RC.sr (ic ((bl:Int)) ((a4.length:Int)) (RL.nq (RC.dB (oD hk) (RC.ss (RC.bs ?_)))))
   obtain⟨bf,cp,o⟩:=bd o
   refine RL.cJ 14 j fI cp fun dh j=>(RL.cB bf 0 j cW (aT (vi bf) (RL.nt (RC.region (mv (.func (.func 62) #[] #[(vp ae 0),(vp aa 0)]) (mv (vi bf) (RL.cB (p0_5.length:Int) 9 j cW (mv (vi aw) ?_))))))))
   refine RL.ja (p0_5.length:Int) (aw:Int) ?_
   have j:=((((j.pull 14).pull 14).pull 14).pull 14).pull 14
   obtain⟨di,cq,o⟩:=bd o
   refine RL.sE [(vp ae 0),(vp aa 0)] Nv [(vi bf),(vi (IntKind.wrap .i64 ((p0_5.length:Int)+ (aw:Int))))] (aF (o9 N (p0:=bf) (p1:=(IntKind.wrap .i64 ((p0_5.length:Int)+ (aw:Int)))) j cq) ?_)
   rintro _ w ⟨cr,rfl,j⟩
   refine RL.nil (cA (aG (RC.region (RL.inc hk hm (mv (vi ((bl+1:Nat):Int)) (RL.nil ?_))))))
   obtain rfl:=oi o
   exact⟨rfl,cr,j.sp 21 [6,7,8,9,10,11,12,13,14,0,1,2,3,4,20]⟩
  rintro _ w ⟨bm,O,rfl,j⟩
  refine cA (aG (RC.region (RL.inc hk hm (mv (vi ((aw+1:Nat):Int)) (RL.nil ?_)))))
  obtain rfl:=oi o
  exact⟨rfl,bm,j.sp 15 [0,1,2,3,4,5,6,7,8,9,10,11,12,13]⟩
 rintro _ w ⟨bk,O,rfl,j⟩
 refine aG (RC.seq (RC.sr (mv v1 (RL.bM 7 p1 j Iq (mv (vi 0) (RL.nt ?_))))))
 obtain⟨a8,hN,o⟩:=bd o
 refine RC.fold (fun(bg:Nat) (a8: (List Int)) U w=>∃b6:Value,SH E V [(0,vp b0 0),(6,(.func (.func 60) #[] #[(vp ad 0)])),(7,vp ae 0),(10,vp aa 0),(11,(.func (.func 62) #[] #[(vp ae 0),(vp aa 0)])),(80,v1),(81,vi p1.length),(82,vi bg)] [bc 126 b0 [v0_0,v0_1,v0_2,v0_3,v0_4,v0_5,v0_6,v0_7,v0_8,v0_9,v0_10,v0_11],rd v0_2 p0_2,rd v0_3 p0_3,rd v0_5 p0_5,rd v0_6 p0_6,rd v0_10 p0_10,rd v0_11 p0_11,pt (vp ad 0) (p0_5.length:Int),bc 143 ae [af],mp af ai,bc 144 aa [(vp ab 0)],bc 176 ab [b6],own 3 b6 a8,rd v1 p1] U w) (fun(a8: (List Int)) U w=>∃bn:Value,SH E V [(0,vp b0 0),(6,(.func (.func 60) #[] #[(vp ad 0)])),(7,vp ae 0),(10,vp aa 0)] [bc 126 b0 [v0_0,v0_1,v0_2,v0_3,v0_4,v0_5,v0_6,v0_7,v0_8,v0_9,v0_10,v0_11],rd v0_2 p0_2,rd v0_3 p0_3,rd v0_5 p0_5,rd v0_6 p0_6,rd v0_10 p0_10,rd v0_11 p0_11,pt (vp ad 0) (p0_5.length:Int),bc 143 ae [af],mp af ai,bc 144 aa [(vp ab 0)],bc 176 ab [bn],own 3 bn a8,rd v1 p1] U w) hN ?_ ?_ ?_ ?_
 ·exact⟨bk,j.sp 14 [0,1,2,3,4,5,6,8,9,10,11,12,13,7]⟩
 ·rintro hm a8 _ w ⟨ct,O,rfl,j⟩
  refine RC.sr (ic ((p1.length:Int)) ((p1.length:Int)) (RL.nq (RC.dC oE (RC.ex ?_))))
  exact⟨rfl,ct,j.sp 14 [0,1,2,3,4,5,6,7,8,9,10,11,12,13]⟩
 ·rintro hm bg a8 s' _ w hk ⟨cu,O,rfl,j⟩ o
  refine RC.sr (ic ((bg:Int)) ((p1.length:Int)) (RL.nq (RC.dB (oD hk) (RC.ss (RC.bs ?_)))))
  obtain⟨a9,cv,o⟩:=bd o
  refine RL.cJ 13 j Ir cv fun dj j=>(RL.bY 0 a9 j AM fun dk j=>(RL.alloc j LI.z fun dm w j=>?_))
  refine RL.bW 0 j 1 zr AM fun w j=>?_
  refine RL.ns (RL.bO zr vG (RL.aR 0 j zr n9 yk (RL.not a9.Open (RL.nt ?_))))
  obtain⟨bq,hj,o⟩:=bd o
  refine RC.jn (fun(bq: (List Int)) U w=>∃bo:Value,SH E V [(0,vp b0 0),(6,(.func (.func 60) #[] #[(vp ad 0)])),(7,vp ae 0),(10,vp aa 0),(11,(.func (.func 62) #[] #[(vp ae 0),(vp aa 0)])),(80,v1),(81,vi p1.length),(82,vi bg)] [bc 126 b0 [v0_0,v0_1,v0_2,v0_3,v0_4,v0_5,v0_6,v0_7,v0_8,v0_9,v0_10,v0_11],rd v0_2 p0_2,rd v0_3 p0_3,rd v0_5 p0_5,rd v0_6 p0_6,rd v0_10 p0_10,rd v0_11 p0_11,pt (vp ad 0) (p0_5.length:Int),bc 143 ae [af],mp af ai,bc 144 aa [(vp ab 0)],bc 176 ab [bo],own 3 bo bq,rd v1 p1] U w) bq ?_ ?_
  ·refine fK hj (fun hc hj=>?_) fun hc hj=>?_
   rotate_left
   ·refine RC.skip ?_
    obtain rfl:=oi hj
    exact⟨rfl,cu,j.sp 17 [3,4,5,6,7,8,9,10,11,12,13,14,15,16]⟩
   refine RC.region (mv (.func (.func 62) #[] #[(vp ae 0),(vp aa 0)]) (RL.bO zr Cm (RL.aR 0 j zr uw cW (RL.bO zr Cn (RL.aR 0 j zr ux cW ?_)))))
   have j:=((((j.pull 15).pull 15).pull 15).pull 15).pull 15
   obtain⟨dn,cw,hj⟩:=bd hj
   refine RL.sE [(vp ae 0),(vp aa 0)] Nv [(vi a9.A),(vi a9.B)] (aF (o9 N (p0:=a9.A) (p1:=a9.B) j cw) ?_)
   rintro _ w ⟨cx,rfl,j⟩
   refine RL.nil ?_
   obtain rfl:=oi hj
   exact⟨rfl,cx,j.sp 22 [8,9,10,11,12,13,14,15,0,1,2,3,4,21]⟩
  rintro _ w ⟨bo,O,rfl,j⟩
  refine cA (aG (RC.region (RL.inc hk hm (mv (vi ((bg+1:Nat):Int)) (RL.nil ?_)))))
  obtain rfl:=oi o
  exact⟨rfl,bo,j.sp 14 [0,1,2,3,4,5,6,7,8,9,10,11,12,13]⟩
 rintro _ w ⟨bn,O,rfl,j⟩
 refine aG (RC.sr (RL.makeMap (κ:=Int) (ν:=Int) zr j fun ay w j=>(aT ay (RL.ns (mv (vp b0 0) (RL.nilCheck zr (RL.bO zr mW (RL.bO zr tx ?_))))))))
 refine RL.bS 1 v0_3 j DH (RL.bM 3 p0_3 j H6 ?_)
 obtain⟨dp,cy,o⟩:=bd o
 refine RL.mk (p0_3.length:Int) j wB L5 cy fun ax w j=>?_
 refine aT ax (RL.nq (RC.sr (mv (vp b0 0) (RL.nilCheck zr (RL.bO zr Ck (RL.bS 2 v0_11 j Ij (RL.bM 8 p0_11 j Nw (mv (vi 0) ?_))))))))
 refine RL.nt ?_
 obtain⟨ah,hN,o⟩:=bd o
 refine RC.fold (fun(an:Nat) (ah: (List Int)×(List (Int×Int))×(List Int)) U w=>∃b7:Value,SH E V [(0,vp b0 0),(6,(.func (.func 60) #[] #[(vp ad 0)])),(7,vp ae 0),(10,vp aa 0),(18,ay),(19,ax),(107,v0_11),(108,vi p0_11.length),(109,vi an)] [bc 126 b0 [v0_0,v0_1,v0_2,v0_3,v0_4,v0_5,v0_6,v0_7,v0_8,v0_9,v0_10,v0_11],rd v0_2 p0_2,rd v0_3 p0_3,rd v0_5 p0_5,rd v0_6 p0_6,rd v0_10 p0_10,rd v0_11 p0_11,pt (vp ad 0) (p0_5.length:Int),bc 143 ae [af],mp af ai,bc 144 aa [(vp ab 0)],bc 176 ab [b7],own 3 b7 ah.1,mp ay ah.2.1,own 3 ax ah.2.2] U w) (fun(ah: (List Int)×(List (Int×Int))×(List Int)) U w=>∃br:Value,SH E V [(0,vp b0 0),(19,ax)] [bc 126 b0 [v0_0,v0_1,v0_2,v0_3,v0_4,v0_5,v0_6,v0_7,v0_8,v0_9,v0_10,v0_11],rd v0_2 p0_2,rd v0_3 p0_3,rd v0_5 p0_5,rd v0_6 p0_6,rd v0_10 p0_10,rd v0_11 p0_11,pt (vp ad 0) (p0_5.length:Int),bc 143 ae [af],mp af ai,bc 144 aa [(vp ab 0)],bc 176 ab [br],own 3 br ah.1,mp ay ah.2.1,own 3 ax ah.2.2] U w) hN ?_ ?_ ?_ ?_
 ·exact⟨bn,j.sp 16 [2,3,4,5,6,7,8,9,10,11,12,13,14,1,0]⟩
 ·rintro hm ah _ w ⟨cz,O,rfl,j⟩
  refine RC.sr (ic ((p0_11.length:Int)) ((p0_11.length:Int)) (RL.nq (RC.dC oE (RC.ex ?_))))
  exact⟨rfl,cz,j.sp 15 [0,1,2,3,4,5,6,7,8,9,10,11,12,13,14]⟩
 ·rintro hm an ah s' _ w hk ⟨bt,O,rfl,j⟩ o
  refine RC.sr (ic ((an:Int)) ((p0_11.length:Int)) (RL.nq (RC.dB (oD hk) (RC.ss (RC.bs (mv (vi an) ?_))))))
  obtain⟨c0,c1,o⟩:=bd o
  refine RL.cJ 6 j KS c1 fun dq j=>(RL.bY 0 c0 j uU fun dr j=>(RL.alloc j JU.z fun ds w j=>?_))
  refine aT (vi an) (RL.bW 0 j 1 zr uU fun w j=>?_)
  refine RL.ns (mv (.func (.func 60) #[] #[(vp ad 0)]) (RL.aV (f:=(fun x=>x)) 0 j zr Fd.self uU fun c2 j=>?_))
  obtain⟨ar,c3,o⟩:=bd o
  refine RL.sE [(vp ad 0)] Nt [c2] (aF (o8 N (i0:=0) (i1:=11) j zr zr c3) ?_)
  rintro _ w ⟨rfl,j⟩
  refine aT (vi ar) (RL.nq (RC.seq ?_))
  obtain⟨bu,hj,o⟩:=bd o
  refine RC.jn (fun(bu:Bool)=>SH E V [(0,vp b0 0),(6,(.func (.func 60) #[] #[(vp ad 0)])),(7,vp ae 0),(10,vp aa 0),(18,ay),(19,ax),(20,vi an),(22,vi ar),(107,v0_11),(108,vi p0_11.length),(109,vi an),(129,vb bu)] [bc 126 b0 [v0_0,v0_1,v0_2,v0_3,v0_4,v0_5,v0_6,v0_7,v0_8,v0_9,v0_10,v0_11],rd v0_2 p0_2,rd v0_3 p0_3,rd v0_5 p0_5,rd v0_6 p0_6,rd v0_10 p0_10,rd v0_11 p0_11,pt (vp ad 0) (p0_5.length:Int),bc 143 ae [af],mp af ai,bc 144 aa [(vp ab 0)],bc 176 ab [bt],own 3 bt ah.1,mp ay ah.2.1,own 3 ax ah.2.2]) bu ?_ ?_
  ·refine RC.region (mv (vp b0 0) (RL.nilCheck zr (RL.bO zr Cj (RL.bS 4 v0_10 j gx (mv (vi an) ?_)))))
   obtain⟨bw,c4,hj⟩:=bd hj
   refine RL.cJ 9 j fI c4 fun dt j=>(RL.cB bw 0 j cW (ic bw 0 (mv (vb (decide (bw<0))) (iA hj (fun a2 hj=>?_) fun a2 hj=>?_))))
   ·refine cH a2 (cH a2 (cH a2 (iF a2 (vb true) (RL.nil ?_))))
    obtain rfl:=oi hj
    exact⟨rfl,j.sp 20 [5,6,7,8,9,10,11,12,13,14,15,16,17,18,19]⟩
   refine RL.bS (hg:=(cg a2)) 13 af j DN (RL.move (vi ar) (cg a2) (RL.q8 14 ar (cg a2) j F6 (iF a2 (vb (eJ ai ar (false:Bool))) (RL.nil ?_))))
   obtain rfl:=oi hj
   exact⟨rfl,j.sp 20 [5,6,7,8,9,10,11,12,13,14,15,16,17,18,19]⟩
  rintro _ w ⟨O,rfl,j⟩
  refine aG (fK o (fun hc o=>?_) fun hc o=>?_)
  ·refine RC.sr (mv ax (mv (vi an) ?_))
   obtain⟨du,bx,o⟩:=bd o
   refine RL.bU 14 j zr zr fI bx ?_
   have j:=j.sc Int (-1)
   refine RL.fQ (f:=(fun _ y=>y)) 15 0 j (jy 15 j bx 0) (bC bx).2.1 zr Fs.self cW fun w j=>?_
   refine RL.nt (RC.ex (HD (aG (RC.region (RL.inc hk hm (mv (vi ((an+1:Nat):Int)) (RL.nil ?_)))))))
   obtain rfl:=oi o
   exact⟨rfl,bt,j.sp 16 [1,2,3,4,5,6,7,8,9,10,11,12,13,14,15]⟩
  refine RC.ss (RC.sr (mv ay (RL.bS 10 (vp ab 0) j DO (mv (vi ar) ?_))))
  have j:=(j.pull 12).pull 12
  obtain⟨a3,c5,o⟩:=bd o
  refine RL.call zt zr GR [(vp ab 0),(vi ar)] zr (aF (gF N (p1:=ar) j c5) ?_)
  rintro _ w ⟨c6,rfl,j⟩
  refine RL.De 15 a3.1 zt zr j zr zr zr yi (mv (.tuple #[(vi (eJ ah.2.1 a3.1 (0:Int))),(vb (kD ah.2.1 a3.1))]) (RL.extract (vi (eJ ah.2.1 a3.1 (0:Int))) (RL.extract (vb (kD ah.2.1 a3.1)) (aT (vi (eJ ah.2.1 a3.1 (0:Int))) (aT (vb (kD ah.2.1 a3.1)) (RL.ns (mv (vb (kD ah.2.1 a3.1)) (RL.not (kD ah.2.1 a3.1) ?_))))))))
  refine RL.nt ?_
  obtain⟨bh,hj,o⟩:=bd o
  refine RC.jn (fun(bh: (List Int)×(List (Int×Int))) U w=>∃bz:Value,SH E V [(0,vp b0 0),(6,(.func (.func 60) #[] #[(vp ad 0)])),(7,vp ae 0),(10,vp aa 0),(18,ay),(19,ax),(20,vi an),(22,vi ar),(107,v0_11),(108,vi p0_11.length),(109,vi an)] [bc 126 b0 [v0_0,v0_1,v0_2,v0_3,v0_4,v0_5,v0_6,v0_7,v0_8,v0_9,v0_10,v0_11],rd v0_2 p0_2,rd v0_3 p0_3,rd v0_5 p0_5,rd v0_6 p0_6,rd v0_10 p0_10,rd v0_11 p0_11,pt (vp ad 0) (p0_5.length:Int),bc 143 ae [af],mp af ai,bc 144 aa [(vp ab 0)],bc 176 ab [bz],own 3 bz bh.1,mp ay bh.2,own 3 ax ah.2.2] U w) bh ?_ ?_
  ·refine fK hj (fun hc hj=>?_) fun hc hj=>?_
   rotate_left
   ·refine RC.skip ?_
    obtain rfl:=oi hj
    exact⟨rfl,c6,j.sp 17 [2,3,4,5,6,7,8,9,10,11,12,0,1,15,16]⟩
   refine RC.region (mv ay (RL.bS 12 (vp ab 0) j DO (mv (vi ar) ?_)))
   have j:=(j.pull 1).pull 1
   obtain⟨c7,c8,hj⟩:=bd hj
   refine RL.call zt zr GR [(vp ab 0),(vi ar)] zr (aF (gF N (p1:=ar) j c8) ?_)
   rintro _ w ⟨c9,rfl,j⟩
   refine mv (vi an) ?_
   have j:=j.sc Int (an:Int)
   refine RL.mapUpdate 18 0 c7.1 j zr zr zr zr zr yi fun w j=>(RL.nil ?_)
   obtain rfl:=oi hj
   exact⟨rfl,c9,j.sp 20 [5,6,7,8,9,10,11,12,13,14,15,1,2,18,19]⟩
  rintro _ w ⟨bz,O,rfl,j⟩
  refine aG (RC.region (mv ax (mv (vi an) (mv ay (RL.bS 10 (vp ab 0) j DO (mv (vi ar) ?_))))))
  have j:=(j.pull 12).pull 12
  obtain⟨b8,da,o⟩:=bd o
  refine RL.call zt zr GR [(vp ab 0),(vi ar)] zr (aF (gF N (p1:=ar) j da) ?_)
  rintro _ w ⟨db,rfl,j⟩
  refine RL.q8 15 b8.1 zt j yi ?_
  obtain⟨dv,b1,o⟩:=bd o
  refine RL.bU 16 j zr zr fI b1 ?_
  have j:=j.sc Int (eJ bh.2 b8.1 (0:Int))
  refine RL.fQ (f:=(fun _ y=>y)) 17 0 j (jy 17 j b1 0) (bC b1).2.1 zr Fs.self cW fun w j=>?_
  refine RL.nil (cA (aG (RC.region (RL.inc hk hm (mv (vi ((an+1:Nat):Int)) (RL.nil ?_))))))
  obtain rfl:=oi o
  exact⟨rfl,db,j.sp 18 [3,4,5,6,7,8,9,10,11,12,13,1,2,16,17]⟩
 rintro _ w ⟨br,O,rfl,j⟩
 refine aG (RC.sr (mv ax (aT ax (RL.nt (RC.ret ?_)))))
 obtain rfl:=oi o
 exact cK (j.pk 15 [14,0])
def wQ (E:World) (V:List HP) (res:Bool×Int) (v:Value) (w:World):Prop:=v = .tuple #[(vb res.1),(vi res.2)]/\Holds E w V
theorem vQ {p0:fz} {p1: (List lK)} {p2 p3:fE} {res:Bool×Int} (j:Holds E w V) (h0:V[i0]? =some (rd v0 p0)) (h1:V[i1]? =some (rd v1 p1)) (h2:V[i2]? =some (rd v2 p2)) (h3:V[i3]? =some (rd v3 p3)) (o:iS N p0 p1 p2 p3=some res):
    Calls bN 29 [v0,v1,v2,v3].toArray w (iE (wQ E V res)):=by
 unfold iS at o
 refine enter Tryz.func29 zr zr ?_
 have j:=(((j.dup (i0+0) h0).dup (i1+1) h1).dup (i2+2) h2).dup (i3+3) h3
 refine RC.sr (RL.dJ 3 v0 j zr fun a6 w j=>?_)
 have j:=j.hG (i:=0) rfl
 refine RL.dJ 2 v2 j zr fun a7 w j=>?_
 have j:=j.hG (i:=0) rfl
 refine RL.dJ 2 v3 j zr fun a8 w j=>?_
 have j:=j.hG (i:=0) rfl
 refine aT (vb false) (aT (vi 0) (RL.ns (RL.bY 2 p0 j mx fun aw j=>?_)))
 obtain⟨ab,ax,o⟩:=bd o
 refine RL.call zt zr Nf [aw] zr (aF (tP N (i0:=0) j zr ax) ?_)
 rintro _ w hK51
 rcases aj:ab.1 with _ | a9
 ·replace o:=Lq aj o
  obtain⟨rfl,j⟩:=HU aj hK51
  refine mv (.tuple #[(.pointer none),(vi ab.2)]) (RL.extract (.pointer none) (RL.extract (vi ab.2) (aT (.pointer none) (aT (vi ab.2) (RL.nq (RC.sr (mv (vi ab.2) (ic ab.2 0 ?_))))))))
  refine RL.nt (fK o (fun hc o=>?_) fun hc o=>?_)
  rotate_left
  ·cases o
  refine RC.sr (mv (vi ab.2) (aT (vb false) (aT (vi ab.2) (RL.nt (RC.rt ?_)))))
  obtain rfl:=oi o
  exact kC ⟨rfl,j.drop 8⟩
 replace o:=Lr aj o
 obtain⟨ah,ba,bb,bc,bf,bg,bh,bj,bk,bl,bm,bn,bo,rfl,j⟩:=HV aj hK51
 refine mv (.tuple #[(vp ah 0),(vi ab.2)]) (RL.extract (vp ah 0) (RL.extract (vi ab.2) (aT (vp ah 0) (aT (vi ab.2) (RL.nq (RC.sr (mv (vi ab.2) (ic ab.2 0 ?_))))))))
 refine RL.nt (fK o (fun hc o=>?_) fun hc o=>?_)
 ·refine RC.sr (mv (vi ab.2) (aT (vb false) (aT (vi ab.2) (RL.nt (RC.rt ?_)))))
  obtain rfl:=oi o
  exact kC ⟨rfl,j.drop 21⟩
 refine RC.ss (RC.sr (mv (vp ah 0) (mv v1 ?_)))
 have j:=((((((((((((j.freeze 5).freeze 8).freeze 11).freeze 12).dup 12 rfl).dup 12 rfl).dup 12 rfl).dup 12 rfl).dup 12 rfl).dup 12 rfl).dup 12 rfl).dup 12 rfl).dup 12 rfl
 have j:=(((j.dup 12 rfl).dup 12 rfl).dup 12 rfl).pull 12
 obtain⟨ai,ay,o⟩:=bd o
 refine RL.call zt zr OZ [(vp ah 0),v1] zr (aF (vc N (i1:=19) j zr ay) ?_)
 rintro _ w ⟨rfl,j⟩
 refine aT (vi ai) (RL.ns (mv (vi ai) (ic ai 0 (RL.nt (fK o (fun hc o=>?_) fun hc o=>?_)))))
 ·refine RC.sr (mv (vi ai) (aT (vb false) (aT (vi ai) (RL.nt (RC.rt ?_)))))
  obtain rfl:=oi o
  exact kC ⟨rfl,j.drop 22⟩
 refine RC.ss (RC.AE mixed [0,0,2,1,1,2,0,0] [0,1,3,4,2,5,6,7] ?_)
 have j:=j.drew
 refine DP.e0 zr (RL.bY 17 p0 j mx fun az j=>(cM zr (RL.bY 17 p2 j qo fun a0 j=>(DP.d0 (DP.yI p0 19 zr j mx fun a1 a56 bp j=>(DP.yI p3 19 zr j qo fun a2 a59 bq j=>(DP.e2 zr ?_)))))))
 obtain⟨ad,a3,o⟩:=bd o
 refine RL.call zt zr DL [az,a0] zr (aF (gG N (i0:=5) (i1:=4) j zr zr a3) ?_)
 rintro _ w ⟨rfl,j⟩
 refine DP.d2 (⟨⟨zt,j.kW 2⟩,j.kW 0⟩) (DP.e2 zr ?_)
 obtain⟨af,a4,o⟩:=bd o
 refine RL.call zt zr DL [a1,a2] zr (aF (gG N (i0:=3) (i1:=1) j zr zr a4) ?_)
 rintro _ w ⟨rfl,j⟩
 refine DP.d2 (⟨⟨zt,j.kW 2⟩,j.kW 0⟩) (DP.e0 zr (aT (vi ad) (cM zr (aT (vi af) (DP.d0 ?_)))))
 have j:=j.pl 28 [1,3,4,5,6,7,8,9,10,11,12,13,14,15,16,17,18,19,20,21,22,23,24,25,26,27]
 refine DP.z (aG (RC.seq (RC.sr (mv (vi ad) (ic ad 0 (mv (vb (decide (ad<0))) (RL.gs true (decide (ad<0)) (vi af) rfl rfl rfl dW (RL.gs true (decide (ad<0)) (vb (decide (af<0))) rfl rfl rfl (eN .lss .i64 af 0 rfl (fun h=>by exact(dG h:cv (true&&((decide (ad<0))==false)) (vi af)= (vi af))) (fun _=>rfl) rfl) ?_))))))))
 refine RL.pick (decide (ad<0)) (vb ((decide (ad<0))||(decide (af<0)))) (oZ true) (RL.nt (fK o (fun hc o=>?_) fun hc o=>?_))
 ·refine RC.sr (aT (vb false) (aT (vi 9) (RL.nt (RC.rt ?_))))
  obtain rfl:=oi o
  exact kC ⟨rfl,j.drop 26⟩
 refine RC.sx (mv (vp ah 0) (mv v1 ?_))
 have j:=((((((j.dup 17 rfl).dup 17 rfl).dup 14 rfl).dup 14 rfl).dup 13 rfl).dup 13 rfl).pull 10
 obtain⟨br,a5,o⟩:=bd o
 refine RL.call zt zr O0 [(vp ah 0),v1] zr (aF (xU N (i1:=24) j zr a5) ?_)
 rintro ak w j
 refine aT ak (RL.nq ?_)
 obtain⟨al,hj,o⟩:=bd o
 refine RC.jn (fun(al:Bool)=>SH E V [(8,vb al),(9,vi 0)] []) al ?_ ?_
 ·refine RC.AA mixed ?_
  have j:=j.drew
  refine RO.go (mv ak (RO.nx (mv (vi ad) (RO.nx ?_))))
  obtain⟨av,an,hj⟩:=bd hj
  refine RL.bU 0 j zr zr fI an (RO.nx (RL.dE (f:=(fun x=>x)) 0 j (jy 0 j an 0) (bC an).2.1 Fd.self cW (RO.nx (ic av 0 (RO.nx (mv (vb (decide (av>=0))) (iA hj (fun aa hj=>?_) fun aa hj=>?_)))))))
  rotate_left
  ·refine RO.nx (cH aa (RO.nx (cH aa (RO.nx (cH aa (RO.nx (cH aa (RO.nx ?_))))))))
   refine cH aa (RO.nx (cH aa (RO.nx (cH aa (RO.nx (cH aa (RO.nx (cH aa ?_))))))))
   refine RO.nx (iF aa (vb false) (RO.nx (aT (vb false) (RO.nx (aT (vi 0) (RO.last ?_))))))
   obtain rfl:=oi hj
   exact⟨rfl,j.sp 28 []⟩
  refine RO.nx (RL.move ak (cg aa) (RO.nx (RL.move (vi ad) (cg aa) (RO.nx ?_))))
  obtain⟨ao,aq,hj⟩:=bd hj
  refine RL.bU (hg:=(cg aa)) 0 j zr zr fI aq (RO.nx (RL.dE (hg:=(cg aa)) (f:=(fun x=>x)) 0 j (jy 0 j aq 0) (bC aq).2.1 Fd.self cW (RO.nx (RL.move ak (cg aa) (RO.nx (RL.move (vi af) (cg aa) (RO.nx ?_)))))))
  obtain⟨ar,au,hj⟩:=bd hj
  refine RL.bU (hg:=(cg aa)) 0 j zr zr fI au (RO.nx (RL.dE (hg:=(cg aa)) (f:=(fun x=>x)) 0 j (jy 0 j au 0) (bC au).2.1 Fd.self cW (RO.nx (RL.lN ao ar (cg aa) (RO.nx (iF aa (vb (ao==ar)) (RO.nx (aT (vb (ao==ar)) ?_))))))))
  refine RO.nx (aT (vi 0) (RO.last ?_))
  obtain rfl:=oi hj
  exact⟨rfl,j.sp 28 []⟩
 rintro _ w ⟨O,rfl,j⟩
 refine aG (RC.ret ?_)
 obtain rfl:=oi o
 exact kC ⟨rfl,j.drop 0⟩
theorem kx {res:Bool} (j:Holds E w V) (hb:fG N=some res):
    Calls bN 10 [].toArray w (iE (bV E V res)):=by
 unfold fG at hb
 refine enter Tryz.func10 zr zr (RC.sr (aT (vb false) (RL.ns ?_)))
 have j:=(j.sc Int 1).sc Int 1
 refine RL.build (⟨0,0,1,1⟩:aH) trivial rfl j [(2,vi 1),(3,vi 1)] rfl GO rfl (fun M hs g=>by have h:=vB M;exact dA.cons (f:=fun(x:aH) y=>{x with X1:=y}) h rf (g.sat 1 _ rfl).1 fun _ h=>dA.cons (f:=fun(x:aH) y=>{x with Y1:=y}) h uu (g.sat 0 _ rfl).1 fun _ h=>dA.nil h) fun ae j=>?_
 refine RL.fR ([(⟨0,0,1,1⟩:aH)]: (List aH)) j [ae] nk qN (fun M hs g=>⟨(g.sat 0 _ zr).1,zt⟩) fun af w j=>?_
 have j:=j.freeze 0
 refine RL.fR ([([(⟨0,0,1,1⟩:aH)]: (List aH))]: (List (List aH))) j [af] EW MW (fun M hs g=>⟨(g.sat 0 _ zr).1,zt⟩) fun ad w j=>?_
 have j:=(j.sc dO ⟨[97]⟩).sc dO ⟨[49]⟩
 refine RL.build (⟨⟨[97]⟩,⟨[49]⟩,0,⟨0,0⟩⟩:dD) trivial rfl j [(0,(str ⟨[97]⟩)),(1,(str ⟨[49]⟩))] rfl OU rfl (fun M hs g=>by have h:=Ly M;exact dA.cons (f:=fun(x:dD) y=>{x with Part:=y}) h GJ (g.sat 1 _ rfl).1 fun _ h=>dA.cons (f:=fun(x:dD) y=>{x with fE:=y}) h GK (g.sat 0 _ rfl).1 fun _ h=>dA.nil h) fun ag j=>?_
 refine RL.fR ([(⟨⟨[97]⟩,⟨[49]⟩,0,⟨0,0⟩⟩:dD)]: (List dD)) j [ag] DI LA (fun M hs g=>⟨(g.sat 0 _ zr).1,zt⟩) fun aa w j=>(RL.HK (zs:=[(.slice none 0 0),(.slice none 0 0),(.slice none 0 0),(.slice none 0 0)]) (cs:=[ad,(.slice none 0 0),(.slice none 0 0),aa]) zt zr [(0,ad),(3,aa)] zr OV ⟨(jM 4 j),(jM 0 j),zt⟩ zr (RL.alloc j OW.z fun al w j=>?_))
 have j:=((((j.freeze 5).y5 aH).y5 cD).freeze 3).HL (cs:=[ad,(.slice none 0 0),(.slice none 0 0),aa]) (x:=(⟨([([(⟨0,0,1,1⟩:aH)]: (List aH))]: (List (List aH))),([]: (List aH)),([]: (List cD)),([(⟨⟨[97]⟩,⟨[49]⟩,0,⟨0,0⟩⟩:dD)]: (List dD))⟩:fz)) (fun M hs g=>⟨[ad],[(.slice none 0 0),(.slice none 0 0),aa],rfl,(tm (g.sat 7 _ rfl).1),⟨[(.slice none 0 0)],[(.slice none 0 0),aa],rfl,(tm (g.sat 1 _ rfl).1),⟨[(.slice none 0 0)],[aa],rfl,(tm (g.sat 0 _ rfl).1),(tm (g.sat 3 _ rfl).1)⟩⟩⟩) rfl
 refine RL.bW 3 j 0 zr mx fun w j=>?_
 refine RL.ns (RL.aV (f:=(fun x=>x)) 3 j zr Fd.self mx fun ah j=>?_)
 have j:=(j.sc dO ⟨[97]⟩).sc dO ⟨[49]⟩
 refine RL.build (⟨⟨[97]⟩,⟨[49]⟩⟩:fE) trivial rfl j [(0,(str ⟨[97]⟩)),(1,(str ⟨[49]⟩))] rfl LB rfl (fun M hs g=>by have h:=H3 M;exact dA.cons (f:=fun(x:fE) y=>{x with Part:=y}) h zk (g.sat 1 _ rfl).1 fun _ h=>dA.cons (f:=fun(x:fE) y=>{x with fE:=y}) h zm (g.sat 0 _ rfl).1 fun _ h=>dA.nil h) fun ai j=>?_
 have j:=(j.sc dO ⟨[97]⟩).sc dO ⟨[49]⟩
 refine RL.build (⟨⟨[97]⟩,⟨[49]⟩⟩:fE) trivial rfl j [(0,(str ⟨[97]⟩)),(1,(str ⟨[49]⟩))] rfl LB rfl (fun M hs g=>by have h:=H3 M;exact dA.cons (f:=fun(x:fE) y=>{x with Part:=y}) h zk (g.sat 1 _ rfl).1 fun _ h=>dA.cons (f:=fun(x:fE) y=>{x with fE:=y}) h zm (g.sat 0 _ rfl).1 fun _ h=>dA.nil h) fun aj j=>?_
 have j:=j.y5 lK
 obtain⟨o,ak,hb⟩:=bd hb
 refine RL.call zt zr O1 [ah,(.slice none 0 0),ai,aj] zr (aF (vQ N (i0:=7) (i1:=0) (i2:=4) (i3:=1) j zr zr zr zr ak) ?_)
 rintro _ w ⟨rfl,j⟩
 refine mv (.tuple #[(vb o.1),(vi o.2)]) (RL.extract (vb o.1) (RL.extract (vi o.2) (aT (vb o.1) (aT (vi o.2) (RL.ns (mv (vi o.2) (ic o.2 0 (mv (vb (o.2==0)) ?_))))))))
 refine RL.gs true (o.2==0) (vb o.1) zr zr zr dW (RL.pick (o.2==0) (vb ((o.2==0)&&o.1)) (kg true) (aT (vb ((o.2==0)&&o.1)) (RL.nt (RC.ret ?_))))
 obtain rfl:=oi hb
 exact cK ⟨rfl,j.drop 21⟩
def wR (E:World) (V:List HP) (r:Int×Int) (U:Nat->Value) (w:World):Prop:=nL bN 92 Tryz.f24 (wE E V r) .ret U w
theorem qU {p0:fz} {p1: (List Test)} {p2: (List Touch)} {res:Int×Int} (j:Holds E w V) (h0:V[i0]? =some (rd v0 p0)) (h1:V[i1]? =some (rd v1 p1)) (h2:V[i2]? =some (rd v2 p2)) (o:lW N p0 p1 p2 p3 p4=some res):
    Calls bN 24 [v0,v1,v2,(vi p3),(vi p4)].toArray w (iE (wE E V res)):=by
 unfold lW at o
 refine enter Tryz.func24 zr zr ?_
 have j:=((j.dup (i0+0) h0).dup (i1+1) h1).dup (i2+2) h2
 refine RC.sr (RL.dJ 2 v0 j zr fun an w j=>?_)
 refine aT (vi 0) (aT (vi 0) (RL.nq (RC.sr (RL.aV (f:=(fun x=>x)) 0 j zr Fd.self mx fun bl j=>(mv v1 (mv (vi p3) (mv (vi p4) ?_)))))))
 obtain⟨ay,bm,o⟩:=bd o
 refine RL.call zt zr LD [bl,v1,(vi p3),(vi p4)] zr (aF (mG N (p2:=p3) (p3:=p4) (i0:=0) (i1:=3) j zr zr bm) ?_)
 rintro _ w ⟨rfl,j⟩
 refine aT (vi ay) (RL.ns (mv (vi ay) (ic ay 0 (RL.nt (fK o (fun hc o=>?_) fun hc o=>?_)))))
 ·refine RC.sr (mv (vi ay) (aT (vi 0) (aT (vi ay) (RL.nt (RC.rt ?_)))))
  obtain rfl:=oi o
  exact kC ⟨rfl,j.drop 5⟩
 refine RC.sx (mv v1 (RL.bM 3 p1 j vD ?_))
 obtain⟨b8,bn,o⟩:=bd o
 refine RL.mk (p1.length:Int) j NB Pv bn fun au w j=>?_
 refine aT au (RL.nq (RC.sr (mv v2 (RL.bM 3 p2 j Ip (mv (vi 0) (RL.nt ?_))))))
 obtain⟨b9,hN,o⟩:=bd o
 refine RC.range (fun(a0:Nat) (aw: (List Bool))=>SH E V [(1,v1),(2,v2),(3,vi p3),(4,vi p4),(5,vp an 0),(13,au),(32,v2),(33,vi p2.length),(34,vi a0)] [rd v1 p1,rd v2 p2,bx 27 an p0,own 4 au aw]) (fun(aw: (List Bool))=>SH E V [(1,v1),(2,v2),(3,vi p3),(4,vi p4),(5,vp an 0)] [rd v1 p1,rd v2 p2,bx 27 an p0,own 4 au aw]) (wR E V) hN ?_ ?_ ?_ ?_ ?_
 ·exact j.sp 6 [4,3,2,0]
 ·rintro hm aw _ w ⟨O,rfl,j⟩
  refine RC.sr (ic ((p2.length:Int)) ((p2.length:Int)) (RL.nq (RC.dC oE (RC.ex ?_))))
  exact⟨rfl,j.sp 4 [0,1,2,3]⟩
 ·rintro hm a0 aw fl _ w hk ⟨O,rfl,j⟩ o
  refine RC.sr (ic ((a0:Int)) ((p2.length:Int)) (RL.nq (RC.dB (oD hk) (RC.ss (RC.bs ?_)))))
  obtain⟨a6,bp,o⟩:=bd o
  refine RL.cJ 1 j Io bp fun ca j=>(RL.bY 0 a6 j JW fun cb j=>(RL.jN j NC fun bh w j=>?_))
  have j:=j.mK (i:=0) (x:=(⟨0,false,0⟩:Touch)) rfl (fun M hs g=>⟨[(vi 0)],[(vb false),(vi 0)],rfl,rfl,⟨[(vb false)],[(vi 0)],rfl,rfl,rfl⟩⟩)
  refine RL.kU 0 j 1 zr JW fun w j=>?_
  refine RL.nq (RC.seq ?_)
  obtain⟨a9,hj,o⟩:=bd o
  refine RC.jn (fun(a9:Bool)=>SH E V [(1,v1),(2,v2),(3,vi p3),(4,vi p4),(5,vp an 0),(13,au),(15,vp bh 0),(32,v2),(33,vi p2.length),(34,vi a0),(51,vb a9)] [rd v1 p1,rd v2 p2,bx 27 an p0,own 4 au aw,bx 66 bh a6]) a9 ?_ ?_
  ·refine RC.region (RL.bO zr zA (RL.aR 0 j zr pL cW (mv v1 (RL.bM 3 p1 j vD (RL.ja (p1.length:Int) 1 ?_)))))
   obtain⟨bj,bq,hj⟩:=bd hj
   refine RL.call zt zr Ik [(vi a6.Test),(vi 0),(vi (IntKind.wrap .i64 ((p1.length:Int) - 1)))] zr (aF (kZ N (p0:=a6.Test) (p1:=0) (p2:=(IntKind.wrap .i64 ((p1.length:Int) - 1))) j bq) ?_)
   rintro _ w ⟨rfl,j⟩
   refine RL.not bj (mv (vb (!bj)) (iA hj (fun al hj=>?_) fun al hj=>?_))
   ·refine cH al (cH al (cH al (cH al (cH al (iF al (vb true) (RL.nil ?_))))))
    obtain rfl:=oi hj
    exact⟨rfl,j.sp 7 [3,4,5,6,0]⟩
   refine RL.move au (cg al) (RL.bO (hg:=(cg al)) zr zA (RL.aR (hg:=(cg al)) 0 j zr pL cW ?_))
   obtain⟨br,ba,hj⟩:=bd hj
   refine RL.bU (hg:=(cg al)) 6 j zr zr GS ba (RL.dE (hg:=(cg al)) (f:=(fun x=>x)) 6 j (jy 6 j ba 0) (bC ba).2.1 Fd.self yk (iF al (vb br) (RL.nil ?_)))
   obtain rfl:=oi hj
   exact⟨rfl,j.sp 7 [3,4,5,6,0]⟩
  rintro _ w ⟨O,rfl,j⟩
  refine aG (fK o (fun hc o=>?_) fun hc o=>?_)
  ·refine RC.sr (aT (vi 0) (aT (vi 3) (RL.nt (RC.rt (kh (bZ ?_))))))
   obtain rfl:=oi o
   exact⟨rfl,kC ⟨rfl,j.drop 5⟩⟩
  refine RC.sn (RC.region (mv au (RL.bO zr zA (RL.aR 4 j zr pL cW ?_))))
  obtain⟨cc,bb,o⟩:=bd o
  refine RL.bU 3 j zr zr GS bb ?_
  have j:=j.sc Bool true
  refine RL.fQ (f:=(fun _ y=>y)) 4 0 j (jy 4 j bb 0) (bC bb).2.1 zr Fs.self yk fun w j=>?_
  refine RL.nil (cA (aG (RC.region (RL.inc hk hm (mv (vi ((a0+1:Nat):Int)) (RL.nil ?_))))))
  obtain rfl:=oi o
  exact⟨rfl,j.sp 6 [1,2,3,4]⟩
 ·intro r U w e hK
  subst e
  refine bZ ?_
  obtain rfl:=oi o
  exact hK
 rintro aw _ w rfl ⟨O,rfl,j⟩
 rw [Fo.gm] at o
 refine aG (RC.seq (RC.sr (mv v2 (RL.bM 1 p2 j Ip (mv v1 (RL.bM 0 p1 j vD (ic ((p2.length:Int)) ((p1.length:Int)) (RL.nt ?_))))))))
 refine fK o (fun hc o=>?_) fun hc o=>?_
 ·refine RC.sr (aT (vi 0) (aT (vi 3) (RL.nt (RC.rt ?_))))
  obtain rfl:=oi o
  exact kC ⟨rfl,j.drop 4⟩
 refine RC.sx (RL.jN j DM fun a3 w j=>?_)
 have j:=j.mK (i:=0) (x:=(⟨(⟨0,0⟩:bH),(⟨0,0⟩:bH)⟩:aX)) rfl (fun M hs g=>⟨[(vi 0),(vi 0)],[(vi 0),(vi 0)],rfl,⟨[(vi 0)],[(vi 0)],rfl,rfl,rfl⟩,⟨[(vi 0)],[(vi 0)],rfl,rfl,rfl⟩⟩)
 refine RL.ns (aT (vi 0) (RL.nq (RC.sr (mv v2 (RL.bM 2 p2 j Ip (mv (vi 0) (RL.nt ?_)))))))
 obtain⟨cd,hN,o⟩:=bd o
 refine RC.range (fun(a4:Nat) (aj:aX×Int)=>SH E V [(1,v1),(3,vi p3),(4,vi p4),(5,vp an 0),(16,vp a3 0),(17,vi aj.2),(62,v2),(63,vi p2.length),(64,vi a4)] [rd v1 p1,bx 27 an p0,bx 100 a3 aj.1,rd v2 p2]) (fun(aj:aX×Int)=>SH E V [(17,vi aj.2)] [rd v1 p1,bx 27 an p0,bx 100 a3 aj.1,rd v2 p2]) (wR E V) hN ?_ ?_ ?_ ?_ ?_
 ·exact j.sp 5 [1,3,0,2]
 ·rintro hm aj _ w ⟨O,rfl,j⟩
  refine RC.sr (ic ((p2.length:Int)) ((p2.length:Int)) (RL.nq (RC.dC oE (RC.ex ?_))))
  exact⟨rfl,j.sp 4 [0,1,2,3]⟩
 ·rintro hm a4 aj fl _ w hk ⟨O,rfl,j⟩ o
  refine RC.sr (ic ((a4:Int)) ((p2.length:Int)) (RL.nq (RC.dB (oD hk) (RC.ss (RC.bs ?_)))))
  obtain⟨aq,bt,o⟩:=bd o
  refine RL.cJ 3 j Io bt fun bu j=>(RL.bY 0 aq j JW fun bw j=>(RL.jN j NC fun a7 w j=>?_))
  have j:=j.mK (i:=0) (x:=(⟨0,false,0⟩:Touch)) rfl (fun M hs g=>⟨[(vi 0)],[(vb false),(vi 0)],rfl,rfl,⟨[(vb false)],[(vi 0)],rfl,rfl,rfl⟩⟩)
  refine RL.kU 0 j 1 zr JW fun w j=>?_
  refine RL.nq ?_
  obtain⟨bf,bz,o⟩:=bd o
  obtain⟨bg,b0,o⟩:=bd o
  refine RC.BX E V mixed [0,1,1,0,0,0,1,0,0,0,0] [0,4,5,8,9,10] (fun(x:Value×Value×Value×Value×Nat)=>(fun af ah ag ai ae=>[(0,68,af),(1,69,v1),(2,70,(vp a7 0)),(3,71,(vi aq.Test)),(4,72,ah),(5,73,ag),(6,74,(vp a7 1)),(7,75,(vb aq.nW)),(8,76,ai),(9,20,(vp ae 0))]) x.1 x.2.1 x.2.2.1 x.2.2.2.1 x.2.2.2.2) [(1,v1),(3,vi p3),(4,vi p4),(5,vp an 0),(16,vp a3 0),(17,vi aj.2),(19,vp a7 0),(62,v2),(63,vi p2.length),(64,vi a4)] [] (fun(D:Nat->Bool) (x:Value×Value×Value×Value×Nat)=>(fun af ah ag ai ae=>[bif D 0 then (rd af p0) else aM,bif D 1 then (pt ah bf) else aM,bif D 2 then (rd ag bf) else aM,bif D 3 then (rd ai bg) else aM,bif D 5 then (bx 100 ae bg) else (bif D 4 then (bx 100 ae (⟨(⟨0,0⟩:bH),(⟨0,0⟩:bH)⟩:aX)) else aM),bx 66 a7 aq,rd bw aq,pt bu aq,rd v1 p1,bx 27 an p0,bx 100 a3 aj.1,rd v2 p2]) x.1 x.2.1 x.2.2.1 x.2.2.2.1 x.2.2.2.2) (fun x=>by kernel_rfl) ?_ ⟨?_,fun _=>g8 gn,fun _=>nA gn zA,?_,?_,?_,fun _=>nA gn LM,?_,?_,?_,?_,trivial⟩ ?_
  ·have j:=(((((j.drew).aM).aM).aM).aM).aM
   exact⟨(undef,undef,undef,undef,0),eD.none,(AF zr),zt,j⟩
  ·rintro D U w hD ad ar ⟨⟨af,ah,ag,ai,ae⟩,hv,ha,_,j⟩
   obtain⟨O,rfl⟩:=(ac (ha.at 3 rfl) az).dH
   have j:=j.bK 0 hD
   refine RL.aV (f:=(fun x=>x)) 9 j zr Fd.self mx fun b1 j=>?_
   have j:=(j.pl 13 [0,2,3,4,5,6,7,8,9,10,11,12]).bF 0 true rfl aM
   exact RL.nil ⟨rfl,(b1,ah,ag,ai,ae),hv.pu 0,ha.u,zt,j⟩
  ·rintro D U w hD ad ar ⟨⟨af,ah,ag,ai,ae⟩,hv,ha,_,j⟩
   obtain⟨O,rfl⟩:=(ac (hv.at 2 rfl (ad.1 rfl)) az).dH
   refine RL.aR 5 j zr pL cW ?_
   exact RL.nil ⟨rfl,(af,ah,ag,ai,ae),hv.pu 3,ha.u,zt,j⟩
  ·rintro D U w hD ad ar ⟨⟨af,ah,ag,ai,ae⟩,hv,ha,_,j⟩
   obtain⟨O,rfl⟩:=(ac (hv.at 1 rfl (ad.1 rfl)) (ac (hv.at 3 rfl (ad.2.1 rfl)) az)).dH
   have j:=j.bK 1 hD
   refine RL.cJ 8 j AL bz fun b2 j=>?_
   have j:=(j.pl 13 [1,0,3,4,5,6,7,8,9,10,11,12]).bF 1 true rfl aM
   exact RL.nil ⟨rfl,(af,b2,ag,ai,ae),hv.pu 4,ha.u,zt,j⟩
  ·rintro D U w hD ad ar ⟨⟨af,ah,ag,ai,ae⟩,hv,ha,_,j⟩
   obtain⟨O,rfl⟩:=(ac (hv.at 4 rfl (ad.1 rfl)) az).dH
   have j:=(j.bE 1 (ad.1 rfl)).bK 2 hD
   refine RL.bY 1 bf j qO fun b3 j=>?_
   have j:=((j.pl 13 [1,2,0,4,5,6,7,8,9,10,11,12]).bF 1 (D 4) (ad.1 rfl) aM).bF 2 true rfl aM
   exact RL.nil ⟨rfl,(af,ah,b3,ai,ae),hv.pu 5,ha.u,zt,j⟩
  ·rintro D U w hD ad ar ⟨⟨af,ah,ag,ai,ae⟩,hv,ha,_,j⟩
   obtain⟨O,rfl⟩:=(ac (hv.at 6 rfl (ad.1 rfl)) az).dH
   refine RL.aR 5 j zr ET yk ?_
   exact RL.nil ⟨rfl,(af,ah,ag,ai,ae),hv.pu 7,ha.u,zt,j⟩
  ·rintro D U w hD ad ar ⟨⟨af,ah,ag,ai,ae⟩,hv,ha,_,j⟩
   obtain⟨O,rfl⟩:=(ac (hv.at 0 rfl (ad.1 rfl)) (ac (hv.at 5 rfl (ad.2.1 rfl)) (ac (hv.at 7 rfl (ad.2.2.1 rfl)) az))).dH
   have j:=((j.bE 0 (ad.1 rfl)).bE 2 (ad.2.1 rfl)).bK 3 hD
   refine RL.call zt zr Cl [af,ag,(vb aq.nW)] zr (aF (iq N (p2:=aq.nW) (i0:=0) (i1:=2) j zr zr b0) ?_)
   rintro b4 w j
   have j:=(((j.pl 13 [1,2,3,0,5,6,7,8,9,10,11,12]).bF 0 (D 0) (ad.1 rfl) aM).bF 2 (D 5) (ad.2.1 rfl) aM).bF 3 true rfl aM
   exact RL.nil ⟨rfl,(af,ah,ag,b4,ae),hv.pu 8,ha.u,zt,j⟩
  ·rintro D U w hD ad ar ⟨⟨af,ah,ag,ai,ae⟩,hv,ha,_,j⟩
   obtain⟨O,rfl⟩:=(az (U:=U)).dH
   have j:=(j.bK 4 (nh ar hD 10)).bK 4 hD
   refine RL.jN j DM fun bk w j=>?_
   have j:=j.mK (i:=0) (x:=(⟨(⟨0,0⟩:bH),(⟨0,0⟩:bH)⟩:aX)) rfl (fun M hs g=>⟨[(vi 0),(vi 0)],[(vi 0),(vi 0)],rfl,⟨[(vi 0)],[(vi 0)],rfl,rfl,rfl⟩,⟨[(vi 0)],[(vi 0)],rfl,rfl,rfl⟩⟩)
   have j:=((j.pl 13 [1,2,3,4,0,6,7,8,9,10,11,12]).bF 4 true rfl aM).fD 4 (D 10) (nh ar hD 10) (bx 100 bk bg)
   exact RL.nil ⟨rfl,(af,ah,ag,ai,bk),hv.pu 9,ha.u,zt,j⟩
  ·rintro D U w hD ad ar ⟨⟨af,ah,ag,ai,ae⟩,hv,ha,_,j⟩
   obtain⟨O,rfl⟩:=(ac (hv.at 8 rfl (ad.2.1 rfl)) (ac (hv.at 9 rfl (ad.1 rfl)) az)).dH
   have j:=((j.bE 3 (ad.2.1 rfl)).bK 4 hD).bE 4 (ad.1 rfl)
   refine RL.kU 4 j 3 zr nT fun w j=>?_
   have j:=(j.bF 3 (D 8) (ad.2.1 rfl) aM).bF 4 true rfl (bif D 9 then (bx 100 ae (⟨(⟨0,0⟩:bH),(⟨0,0⟩:bH)⟩:aX)) else aM)
   exact RL.nil ⟨rfl,(af,ah,ag,ai,ae),hv.n1,ha,zt,j⟩
  rintro D U w ax ⟨⟨af,ah,ag,ai,ae⟩,hv,ha,_,j⟩
  have j:=((((j.bE 0 (gq ax 0)).bE 1 (gq ax 4)).bE 2 (gq ax 5)).bE 3 (gq ax 8)).bE 4 (gq ax 10)
  obtain⟨O,rfl⟩:=(ac (hv.at 9 rfl (gq ax 9)) (ac (ha.at 0 rfl) (ac (ha.at 1 rfl) (ac (ha.at 2 rfl) (ac (ha.at 3 rfl) (ac (ha.at 4 rfl) (ac (ha.at 5 rfl) (ac (ha.at 6 rfl) (ac (ha.at 7 rfl) (ac (ha.at 8 rfl) (ac (ha.at 9 rfl) az))))))))))).dH
  refine aG (RC.sr (mv (vi aj.2) (RL.aV (f:=(fun x=>x)) 10 j zr Fd.self nT fun b5 j=>(RL.aV (f:=(fun x=>x)) 5 j zr Fd.self nT fun b6 j=>(mv (vi p3) ?_)))))
  obtain⟨a5,b7,o⟩:=bd o
  refine RL.call zt zr GU [b5,b6,(vi p3)] zr (aF (lu N (p2:=p3) (i0:=1) (i1:=0) j zr zr b7) ?_)
  rintro _ w ⟨rfl,j⟩
  refine mv (vi p4) (RL.ja a5 p4 (RL.ja aj.2 (IntKind.wrap .i64 (a5+p4)) (aT (vi (IntKind.wrap .i64 (aj.2+ (IntKind.wrap .i64 (a5+p4))))) (RL.ns (RL.aV (f:=(fun x=>x)) 6 j zr Fd.self nT fun cf j=>(RL.kU 13 j 0 zr nT fun w j=>?_))))))
  refine RL.ns (RL.bO zr LN (RL.aR 8 j zr EU cW (mv (vi (IntKind.wrap .i64 (aj.2+ (IntKind.wrap .i64 (a5+p4))))) (ic aq.qy ((IntKind.wrap .i64 (aj.2+ (IntKind.wrap .i64 (a5+p4))))) (RL.nt (fK o (fun hc o=>?_) fun hc o=>?_))))))
  rotate_left
  ·refine RC.skip (cA (aG (RC.region (RL.inc hk hm (mv (vi ((a4+1:Nat):Int)) (RL.nil ?_))))))
   obtain rfl:=oi o
   exact⟨rfl,j.sp 15 [11,12,13,14]⟩
  refine RC.sr (aT (vi 0) (aT (vi 12) (RL.nt (RC.rb (bZ ?_)))))
  obtain rfl:=oi o
  exact⟨rfl,kC ⟨rfl,j.drop 15⟩⟩
 ·intro r U w e hK
  subst e
  refine bZ ?_
  obtain rfl:=oi o
  exact hK
 rintro aj _ w rfl ⟨O,rfl,j⟩
 rw [Fo.gm] at o
 refine aG (RC.sr (mv (vi aj.2) (aT (vi aj.2) (aT (vi 0) (RL.nt (RC.ret ?_))))))
 obtain rfl:=oi o
 exact kC ⟨rfl,j.drop 4⟩
end Go.Gk
namespace Go.Gk
open Go Go.Proofs
variable (N:Nat) {E w:World} {i0 i1 i2:Nat} {p3 p4:Int} {v0 v1 v2:Value} {V:List HP}
def m6 (E:World) (V:List HP) (r:Bool) (U:Nat->Value) (w:World):Prop:=nL bN 105 Tryz.f6 (bV E V r) .ret U w
theorem mQ {p0:fz} {p1: (List Test)} {p2: (List Touch)} {res:Bool} (j:Holds E w V) (h0:V[i0]? =some (rd v0 p0)) (h1:V[i1]? =some (rd v1 p1)) (h2:V[i2]? =some (rd v2 p2)) (o:dF N p0 p1 p2 p3 p4=some res):
    Calls bN 6 [v0,v1,v2,(vi p3),(vi p4)].toArray w (iE (bV E V res)):=by
 unfold dF at o
 refine enter Tryz.func6 zr zr ?_
 have j:=((j.dup (i0+0) h0).dup (i1+1) h1).dup (i2+2) h2
 refine RC.sr (RL.dJ 2 v0 j zr fun bf w j=>?_)
 refine aT (vb false) (RL.ns (RL.aV (f:=(fun x=>x)) 0 j zr Fd.self mx fun aw j=>(mv v1 (mv (vi p3) (mv (vi p4) ?_)))))
 obtain⟨ah,ax,o⟩:=bd o
 refine RL.call zt zr OT [aw,v1,(vi p3),(vi p4)] zr (aF (zH N (p2:=p3) (p3:=p4) (i0:=0) (i1:=3) j zr zr ax) ?_)
 rintro _ w ⟨aj,rfl,j⟩
 refine mv (.tuple #[aj,(vi ah.2)]) (RL.extract aj (RL.extract (vi ah.2) (aT aj (aT (vi ah.2) (RL.nq (RC.sr (mv (vi ah.2) (ic ah.2 0 ?_))))))))
 refine RL.nt (fK o (fun hc o=>?_) fun hc o=>?_)
 ·refine RC.seq ?_
  obtain⟨ao,hj,o⟩:=bd o
  refine RC.jn (fun(ao:Bool)=>SH E V [(10,vb ao)] []) ao ?_ ?_
  ·refine RC.region (mv aj (RL.gK 0 ah.1 j Ip (ic ((ah.1.length:Int)) 0 (mv (vb ((ah.1.length:Int)==0)) (iA hj (fun ak hj=>?_) fun ak hj=>?_)))))
   rotate_left
   ·refine cH ak (iF ak (vb false) (aT (vb false) (RL.nil ?_)))
    obtain rfl:=oi hj
    exact⟨rfl,j.sp 6 []⟩
   obtain⟨ar,ay,hj⟩:=bd hj
   refine RL.call (cg ak) zr LK [] zr (aF (kx N j ay) ?_)
   rintro _ w ⟨rfl,j⟩
   refine iF ak (vb ar) (aT (vb ar) (RL.nil ?_))
   obtain rfl:=oi hj
   exact⟨rfl,j.sp 6 []⟩
  rintro _ w ⟨O,rfl,j⟩
  refine aG (RC.rt ?_)
  obtain rfl:=oi o
  exact cK ⟨rfl,j.drop 0⟩
 refine RC.sx (RL.aV (f:=(fun x=>x)) 2 j zr Fd.self mx fun az j=>(mv v1 (mv (vi p3) (mv (vi p4) ?_))))
 obtain⟨ad,a0,o⟩:=bd o
 refine RL.call zt zr O2 [az,v1,(vi p3),(vi p4)] zr (aF (xT N (p2:=p3) (p3:=p4) (i0:=0) (i1:=5) j zr zr a0) ?_)
 rintro _ w ⟨al,rfl,j⟩
 refine mv (.tuple #[al,(vi ad.2)]) (RL.extract al (RL.extract (vi ad.2) (aT al (aT (vi ad.2) (RL.ns (RL.aV (f:=(fun x=>x)) 4 j zr Fd.self mx fun a1 j=>(mv v1 (mv aj ?_))))))))
 refine mv (vi p3) (mv (vi p4) ?_)
 have j:=j.freeze 3
 obtain⟨ab,a2,o⟩:=bd o
 refine RL.call zt zr LO [a1,v1,aj,(vi p3),(vi p4)] zr (aF (qU N (p3:=p3) (p4:=p4) (i0:=0) (i1:=7) (i2:=3) j zr zr zr a2) ?_)
 rintro _ w ⟨rfl,j⟩
 refine mv (.tuple #[(vi ab.1),(vi ab.2)]) (RL.extract (vi ab.1) (RL.extract (vi ab.2) (aT (vi ab.1) (aT (vi ab.2) (RL.ns (RL.aV (f:=(fun x=>x)) 5 j zr Fd.self mx fun a3 j=>(mv v1 (mv al ?_))))))))
 refine mv (vi p3) (mv (vi p4) ?_)
 have j:=j.freeze 2
 obtain⟨af,a4,o⟩:=bd o
 refine RL.call zt zr LO [a3,v1,al,(vi p3),(vi p4)] zr (aF (qU N (p3:=p3) (p4:=p4) (i0:=0) (i1:=8) (i2:=2) j zr zr zr a4) ?_)
 rintro _ w ⟨rfl,j⟩
 refine mv (.tuple #[(vi af.1),(vi af.2)]) (RL.extract (vi af.1) (RL.extract (vi af.2) (aT (vi af.1) (aT (vi af.2) (RL.nq (RC.sr (mv (vi ad.2) (ic ad.2 0 ?_))))))))
 refine mv (vb (ad.2 != 0)) (RL.gs true (ad.2 != 0) (vi ab.2) rfl rfl rfl dW (RL.gs true (ad.2 != 0) (vb (ab.2 != 0)) rfl rfl rfl (eN .neq .i64 ab.2 0 rfl (fun h=>by exact(dG h:cv (true&&((ad.2 != 0)==false)) (vi ab.2)= (vi ab.2))) (fun _=>rfl) rfl) (RL.pick (ad.2 != 0) (vb ((ad.2 != 0)||(ab.2 != 0))) (oZ true) (mv (vb ((ad.2 != 0)||(ab.2 != 0))) (RL.gs true ((ad.2 != 0)||(ab.2 != 0)) (vi af.2) rfl rfl rfl dW (RL.gs true ((ad.2 != 0)||(ab.2 != 0)) (vb (af.2 != 0)) rfl rfl rfl (eN .neq .i64 af.2 0 rfl (fun h=>by exact(dG h:cv (true&&(((ad.2 != 0)||(ab.2 != 0))==false)) (vi af.2)= (vi af.2))) (fun _=>rfl) rfl) (RL.pick ((ad.2 != 0)||(ab.2 != 0)) (vb (((ad.2 != 0)||(ab.2 != 0))||(af.2 != 0))) (oZ true) (RL.nt ?_))))))))
 refine fK o (fun hc o=>?_) fun hc o=>?_
 ·refine RC.sr (aT (vb false) (RL.nt (RC.rt ?_)))
  obtain rfl:=oi o
  exact cK ⟨rfl,j.drop 10⟩
 refine RC.sx (RL.aV (f:=(fun x=>x)) 6 j zr Fd.self mx fun a5 j=>(mv v1 (mv v2 (mv (vi p3) (mv (vi p4) ?_)))))
 obtain⟨aa,a6,o⟩:=bd o
 refine RL.call zt zr LO [a5,v1,v2,(vi p3),(vi p4)] zr (aF (qU N (p3:=p3) (p4:=p4) (i0:=0) (i1:=9) (i2:=8) j zr zr zr a6) ?_)
 rintro _ w ⟨rfl,j⟩
 refine mv (.tuple #[(vi aa.1),(vi aa.2)]) (RL.extract (vi aa.1) (RL.extract (vi aa.2) (aT (vi aa.1) (aT (vi aa.2) (RL.nq (RC.sr (aT (vi 0) (RL.nt ?_))))))))
 obtain⟨bg,hN,o⟩:=bd o
 refine RC.iter (fun(ag:Int)=>SH E V [(2,v2),(12,vi aa.2),(14,vi ab.1),(18,vi aa.1),(19,vi ag)] [rd v2 p2]) (fun(ag:Int)=>SH E V [(12,vi aa.2),(14,vi ab.1),(18,vi aa.1)] [rd v2 p2]) (m6 E V) hN ?_ ?_ ?_ ?_
 ·exact j.sp 11 [8]
 ·rintro ag fl _ w ⟨O,rfl,j⟩ o
  refine RC.seq (RC.sr (mv (vi ag) (mv v2 (RL.bM 0 p2 j Ip (ic ag ((p2.length:Int)) (RL.nt (fK o (fun hc o=>?_) fun hc o=>?_)))))))
  rotate_left
  ·refine RC.ex ?_
   obtain rfl:=oi o
   exact⟨rfl,j.sp 1 [0]⟩
  refine RC.ss (RC.bs (mv v2 (mv (vi ag) ?_)))
  obtain⟨au,a8,o⟩:=bd o
  refine RL.cJ 0 j Io a8 fun bj j=>(RL.iT 0 j zr zA pL fun bk j=>(RL.cB au.Test 0 j cW (mv (vi ag) (ic au.Test ag (RL.nt (fK o (fun hc o=>?_) fun hc o=>?_))))))
  rotate_left
  ·refine RC.skip (cA (aG (RC.region (mv (vi ag) (RL.ja ag 1 (aT (vi (IntKind.wrap .i64 (ag+1))) (RL.nil ?_)))))))
   obtain rfl:=oi o
   exact⟨rfl,j.sp 3 [2]⟩
  refine RC.sr ?_
  obtain⟨a9,ba,o⟩:=bd o
  refine RL.call zt zr LK [] zr (aF (kx N j ba) ?_)
  rintro _ w ⟨rfl,j⟩
  refine aT (vb a9) (RL.nt (RC.rb (bZ ?_)))
  obtain rfl:=oi o
  exact⟨rfl,cK ⟨rfl,j.drop 3⟩⟩
 ·intro r U w e hK
  subst e
  refine bZ ?_
  obtain rfl:=oi o
  exact hK
 rintro ag _ w rfl ⟨O,rfl,j⟩
 rw [Fo.gm] at o
 refine aG (RC.seq ?_)
 obtain⟨aq,hj,o⟩:=bd o
 refine RC.jn (fun(aq:Bool)=>SH E V [(10,vb aq)] []) aq ?_ ?_
 ·refine RC.region (mv (vi aa.2) (ic aa.2 0 (mv (vb (aa.2 != 0)) (RL.gs true (aa.2 != 0) (vi ab.1) rfl rfl rfl dW (RL.gs true (aa.2 != 0) (vi aa.1) rfl rfl rfl dW (RL.gs true (aa.2 != 0) (vb (decide (ab.1<=aa.1))) rfl rfl rfl (eN .leq .i64 ab.1 aa.1 rfl (fun h=>by exact(dG h:cv (true&&((aa.2 != 0)==false)) (vi ab.1)= (vi ab.1))) (fun h=>by exact(dG h:cv (true&&((aa.2 != 0)==false)) (vi aa.1)= (vi aa.1))) rfl) (RL.pick (aa.2 != 0) (vb ((aa.2 != 0)||(decide (ab.1<=aa.1)))) (oZ true) (mv (vb ((aa.2 != 0)||(decide (ab.1<=aa.1)))) ?_))))))))
  refine iA hj (fun an hj=>?_) fun an hj=>?_
  rotate_left
  ·refine cH an (iF an (vb false) (aT (vb false) (RL.nil ?_)))
   obtain rfl:=oi hj
   exact⟨rfl,j.sp 1 []⟩
  obtain⟨av,bc,hj⟩:=bd hj
  refine RL.call (cg an) zr LK [] zr (aF (kx N j bc) ?_)
  rintro _ w ⟨rfl,j⟩
  refine iF an (vb av) (aT (vb av) (RL.nil ?_))
  obtain rfl:=oi hj
  exact⟨rfl,j.sp 1 []⟩
 rintro _ w ⟨O,rfl,j⟩
 refine aG (RC.ret ?_)
 obtain rfl:=oi o
 exact cK ⟨rfl,j.drop 0⟩
end Go.Gk
