/-
  Printed texts: Go functions as plain functions, and that they are. No statement of the seed is proved here.
-/
import Derived.Test.YthioiiocofohiaaGreatDoorG1
import Derived.Test.YthioiiocofohiaaGreatDoorG3
import Derived.Test.YthioiiocofohiaaGreatDoorG4
import Derived.Test.YthioiiocofohiaaGreatDoorG5
import Derived.Test.YthioiiocofohiaaGreatDoorA2
set_option linter.unusedVariables false
set_option linter.unusedSimpArgs false
set_option linter.unusedSectionVars false
set_option maxRecDepth 100000
set_option maxHeartbeats 4000000
namespace Go.Gk
open Go Go.Proofs
variable (N:Nat) {E w:World} {b0 b2 b3 b3h i0 i1 i2 i3:Nat} {p0 p1 res:Int} {v0 v0_0 v0_1 v0_10 v0_11 v0_2 v0_3 v0_4 v0_5 v0_6 v0_7 v0_8 v0_9 v1 v2 v2_0 v3 v3h_0:Value} {V:List HP}
def tC (E:World) (V:List HP) (b0:Nat) (v0_0 v0_1:Value) (v0_2 v0_3:Value) (v0_4 v0_5:Value) (v0_6 v0_7:Value) (v0_8 v0_9:Value) (v0_10 v0_11:Value) (r:Int) (U:Nat->Value) (w:World):Prop:=l5 bF 112 Tryz.f30 (i9 E V b0 v0_0 v0_1 v0_2 v0_3 v0_4 v0_5 v0_6 v0_7 v0_8 v0_9 v0_10 v0_11 r) .ret U w
theorem sW {p0_0: (List (List aI))} {p0_1: (List aI)} {p0_2: (List bW)} {p0_3: (List cU)} {p0_4: (List (List aA))} {p0_5: (List aH)} {p0_6: (List (List Int))} {p0_7: (List cI)} {p0_8: (List Int)} {p0_9: (List Int)} {p0_10: (List Int)} {p0_11: (List dQ)} {p1: (List aT)} (o:Holds E w (bc 126 b0 [v0_0,v0_1,v0_2,v0_3,v0_4,v0_5,v0_6,v0_7,v0_8,v0_9,v0_10,v0_11]::rd v0_0 p0_0::rd v0_1 p0_1::rd v0_2 p0_2::rd v0_3 p0_3::rd v0_4 p0_4::rd v0_5 p0_5::rd v0_6 p0_6::rd v0_7 p0_7::rd v0_8 p0_8::rd v0_9 p0_9::rd v0_10 p0_10::rd v0_11 p0_11::V)) (h1:V[i1]? =some (rd v1 p1)) (hb:jM N p0_0 p0_1 p0_2 p0_3 p0_4 p0_5 p0_6 p0_7 p0_8 p0_9 p0_10 p0_11 p1=some res):
    Calls bF 30 [(vp b0 0),v1].toArray w (gI (i9 E V b0 v0_0 v0_1 v0_2 v0_3 v0_4 v0_5 v0_6 v0_7 v0_8 v0_9 v0_10 v0_11 res)):=by
 unfold jM at hb
 refine enter Tryz.func30 zr zr ?_
 have o:=o.dup (i1+13) h1
 refine RC.sr (RL.Fa (vp b0 0) zt zr o zr zr fun ae w o=>?_)
 refine aK (vi 0) (RL.nq (RC.sr (mv v1 (RL.bD 1 p1 o uE (ic ((p1.length:Int)) 20 (RL.nt (eQ hb (fun hc hb=>?_) fun hc hb=>?_)))))))
 ·refine RC.sr (aK (vi 2) (RL.nt (RC.rt ?_)))
  obtain rfl:=oi hb
  exact cL ⟨rfl,o.pk 15 [2]⟩
 refine RC.sx (RL.makeFunc [(vp ae 0)] (aK (.func (.func 59) #[] #[(vp ae 0)]) (RL.nq (RC.sr (mv v1 (RL.bD 1 p1 o uE (mv (vi 0) (RL.nt ?_))))))))
 obtain⟨bj,hN,hb⟩:=bd hb
 refine RC.range (fun(ag:Nat) (an:Unit)=>SH E V [(0,vp b0 0),(1,v1),(2,vp ae 0),(5,(.func (.func 59) #[] #[(vp ae 0)])),(13,v1),(14,vi p1.length),(15,vi ag)] [bc 126 b0 [v0_0,v0_1,v0_2,v0_3,v0_4,v0_5,v0_6,v0_7,v0_8,v0_9,v0_10,v0_11],rd v0_0 p0_0,rd v0_1 p0_1,rd v0_2 p0_2,rd v0_3 p0_3,rd v0_4 p0_4,rd v0_5 p0_5,rd v0_6 p0_6,rd v0_7 p0_7,rd v0_8 p0_8,rd v0_9 p0_9,rd v0_10 p0_10,rd v0_11 p0_11,rd v1 p1,bc 68 ae [(vp b0 0)]]) (fun(an:Unit)=>SH E V [(0,vp b0 0)] [bc 126 b0 [v0_0,v0_1,v0_2,v0_3,v0_4,v0_5,v0_6,v0_7,v0_8,v0_9,v0_10,v0_11],rd v0_0 p0_0,rd v0_1 p0_1,rd v0_2 p0_2,rd v0_3 p0_3,rd v0_4 p0_4,rd v0_5 p0_5,rd v0_6 p0_6,rd v0_7 p0_7,rd v0_8 p0_8,rd v0_9 p0_9,rd v0_10 p0_10,rd v0_11 p0_11,rd v1 p1,bc 68 ae [(vp b0 0)]]) (tC E V b0 v0_0 v0_1 v0_2 v0_3 v0_4 v0_5 v0_6 v0_7 v0_8 v0_9 v0_10 v0_11) hN ?_ ?_ ?_ ?_ ?_
 ·exact o.sp 15 [2,3,4,5,6,7,8,9,10,11,12,13,14,1,0]
 ·rintro hm an _ w ⟨O,rfl,o⟩
  refine RC.sr (ic ((p1.length:Int)) ((p1.length:Int)) (RL.nq (RC.cN lS (RC.ex ?_))))
  exact⟨rfl,o.sp 15 [0,1,2,3,4,5,6,7,8,9,10,11,12,13,14]⟩
 ·rintro hm ag an fl _ w hk ⟨O,rfl,o⟩ hb
  refine RC.sr (ic ((ag:Int)) ((p1.length:Int)) (RL.nq (RC.cM (lR hk) (RC.ss (RC.bs (mv (vi ag) ?_))))))
  obtain⟨j,a0,hb⟩:=bd hb
  refine RL.cC 13 o uD a0 fun bl o=>(RL.bV 0 j o pF fun bm o=>(RL.alloc o wN.z fun ad w o=>?_))
  refine aK (vi ag) (RL.bA 0 o 1 zr pF fun w o=>?_)
  refine RL.nq (RC.seq ?_)
  obtain⟨ao,hj,hb⟩:=bd hb
  refine RC.jn (fun(ao:Bool)=>SH E V [(0,vp b0 0),(1,v1),(2,vp ae 0),(5,(.func (.func 59) #[] #[(vp ae 0)])),(6,vi ag),(7,vp ad 0),(13,v1),(14,vi p1.length),(15,vi ag),(42,vb ao)] [bc 126 b0 [v0_0,v0_1,v0_2,v0_3,v0_4,v0_5,v0_6,v0_7,v0_8,v0_9,v0_10,v0_11],rd v0_0 p0_0,rd v0_1 p0_1,rd v0_2 p0_2,rd v0_3 p0_3,rd v0_4 p0_4,rd v0_5 p0_5,rd v0_6 p0_6,rd v0_7 p0_7,rd v0_8 p0_8,rd v0_9 p0_9,rd v0_10 p0_10,rd v0_11 p0_11,rd v1 p1,bc 68 ae [(vp b0 0)],bx 43 ad j]) ao ?_ ?_
  ·refine RC.region (RL.aZ rfl tr (RL.aM 0 o rfl mH xK (mv (vb j.Open) (RL.gs true j.Open (vp ad 3) rfl rfl rfl (dN As) (RL.gs true j.Open (vi j.A) rfl rfl rfl (bZ 0 rfl o (fun h=>by exact(cV h:cv (true&&(j.Open==true)) (vp ad 3)= (vp ad 3))) rfl sg cQ) (RL.gs true j.Open (vb (j.A != 0)) rfl rfl rfl (eE .neq .i64 j.A 0 rfl (fun h=>by exact(cV h:cv (true&&(j.Open==true)) (vi j.A)= (vi j.A))) (fun _=>rfl) rfl) (RL.gs true j.Open (vb (j.A != 0)) rfl rfl rfl (dW (hx:=fun h=>by exact(cV h:cv (true&&(j.Open==true)) (vb (j.A != 0))= (vb (j.A != 0))))) (RL.gs (true&&(j.Open==true)) (j.A != 0) (vp ad 4) rfl rfl rfl (dN Au) ?_))))))))
   refine RL.gs (true&&(j.Open==true)) (j.A != 0) (vi j.B) rfl rfl rfl (bZ 0 rfl o (fun h=>by exact(cV h:cv ((true&&(j.Open==true))&&((j.A != 0)==false)) (vp ad 4)= (vp ad 4))) rfl si cQ) (RL.gs (true&&(j.Open==true)) (j.A != 0) (vb (j.B != 0)) rfl rfl rfl (eE .neq .i64 j.B 0 rfl (fun h=>by exact(cV h:cv ((true&&(j.Open==true))&&((j.A != 0)==false)) (vi j.B)= (vi j.B))) (fun _=>rfl) rfl) (RL.gs true j.Open (vb ((j.A != 0)||(j.B != 0))) rfl rfl rfl (oQ (j.A != 0) rfl (fun h=>by exact(cV h:cv (true&&(j.Open==true)) (vb (j.A != 0))= (vb (j.A != 0)))) (fun h=>by exact nS (true&&(j.Open==true)) h)) (RL.pick j.Open (vb (j.Open&&((j.A != 0)||(j.B != 0)))) (i6 true) (mv (vb (j.Open&&((j.A != 0)||(j.B != 0)))) (fM hj (fun ah hj=>?_) fun ah hj=>?_)))))
   ·refine bO ah (bO ah (bO ah (bO ah (yE (yE (yE (yE (bO ah ?_))))))))
    refine fJ ah (vb true) (RL.nil ?_)
    obtain rfl:=oi hj
    exact⟨rfl,o.sp 18 [3,4,5,6,7,8,9,10,11,12,13,14,15,16,17,0]⟩
   refine RL.aZ (hg:=(cg ah)) zr tr (RL.aM (hg:=(cg ah)) 0 o zr mH xK (RL.not (hg:=(cg ah)) j.Open (RL.move (vb (!j.Open)) (cg ah) (fM hj (fun aj hj=>?_) fun aj hj=>?_))))
   ·refine RL.aZ (hg:=(cg aj)) rfl vH (RL.aP (hg:=(cg aj)) 0 o rfl nQ rn fun bn o=>(RL.build (⟨false,0⟩:dQ) (cg aj) rfl o [] rfl Eo rfl (fun M hs g=>by have h:=xF M;exact cO.nil h) fun bo o=>?_))
    refine RL.Mv 1 0 j.dQ (⟨false,0⟩:dQ) (cg aj) zr o zr zr zr zr Ku zr (fJ aj (vb (!(decide (j.dQ= (⟨false,0⟩:dQ))))) (hg:=(cg ah)) (fJ ah (vb (!(decide (j.dQ= (⟨false,0⟩:dQ))))) (RL.nil ?_)))
    obtain rfl:=oi hj
    exact⟨rfl,o.sp 20 [5,6,7,8,9,10,11,12,13,14,15,16,17,18,19,2]⟩
   refine bO aj (bO aj (bO aj (bO aj (fJ aj (vb false) (hg:=(cg ah)) (fJ ah (vb false) (RL.nil ?_))))))
   obtain rfl:=oi hj
   exact⟨rfl,o.sp 18 [3,4,5,6,7,8,9,10,11,12,13,14,15,16,17,0]⟩
  rintro _ w ⟨O,rfl,o⟩
  refine aG (eQ hb (fun hc hb=>?_) fun hc hb=>?_)
  ·refine RC.sr (aK (vi 3) (RL.nt (RC.rt (jR (bS ?_)))))
   obtain rfl:=oi hb
   exact⟨rfl,cL ⟨rfl,o.pk 16 [0]⟩⟩
  refine RC.ss ?_
  obtain⟨aq,hj,hb⟩:=bd hb
  refine RC.jn (fun(aq:Bool)=>SH E V [(0,vp b0 0),(1,v1),(2,vp ae 0),(5,(.func (.func 59) #[] #[(vp ae 0)])),(6,vi ag),(7,vp ad 0),(8,vb aq),(13,v1),(14,vi p1.length),(15,vi ag)] [bc 126 b0 [v0_0,v0_1,v0_2,v0_3,v0_4,v0_5,v0_6,v0_7,v0_8,v0_9,v0_10,v0_11],rd v0_0 p0_0,rd v0_1 p0_1,rd v0_2 p0_2,rd v0_3 p0_3,rd v0_4 p0_4,rd v0_5 p0_5,rd v0_6 p0_6,rd v0_7 p0_7,rd v0_8 p0_8,rd v0_9 p0_9,rd v0_10 p0_10,rd v0_11 p0_11,rd v1 p1,bc 68 ae [(vp b0 0)],bx 43 ad j]) aq ?_ ?_
  ·refine RC.region (mv (.func (.func 59) #[] #[(vp ae 0)]) (RL.aZ zr As (RL.aM 15 o zr sg cQ ?_)))
   have o:=((o.dup 6 rfl).pull 1).pull 16
   obtain⟨a1,a2,hj⟩:=bd hj
   refine RL.oO [(vp ae 0)] IW [(vi j.A)] (aF (j3 N (p0:=j.A) o a2) ?_)
   rintro _ w ⟨rfl,o⟩
   refine mv (vb a1) (fM hj (fun ak hj=>?_) fun ak hj=>?_)
   rotate_left
   ·refine bO ak (bO ak (bO ak (bO ak (fJ ak (vb false) (aK (vb false) (RL.nil ?_))))))
    obtain rfl:=oi hj
    exact⟨rfl,o.sp 18 [1,3,4,5,6,7,8,9,10,11,12,13,14,15,0,17]⟩
   refine RL.move (.func (.func 59) #[] #[(vp ae 0)]) (cg ak) (RL.aZ (hg:=(cg ak)) zr Au (RL.aM (hg:=(cg ak)) 17 o zr si cQ ?_))
   have o:=((o.dup 8 rfl).pull 2).pull 2
   obtain⟨ay,a3,hj⟩:=bd hj
   refine RL.oO (hg:=(cg ak)) [(vp ae 0)] IW [(vi j.B)] (aF (j3 N (p0:=j.B) o a3) ?_)
   rintro _ w ⟨rfl,o⟩
   refine fJ ak (vb ay) (aK (vb ay) (RL.nil ?_))
   obtain rfl:=oi hj
   exact⟨rfl,o.sp 20 [1,5,6,7,8,9,10,11,12,13,14,15,16,17,0,19]⟩
  rintro _ w ⟨O,rfl,o⟩
  refine aG (RC.seq (RC.sr (RL.aZ zr tr (RL.aM 15 o zr mH xK (RL.nt ?_)))))
  obtain⟨ar,hj,hb⟩:=bd hb
  refine RC.jn (fun(ar:Bool)=>SH E V [(0,vp b0 0),(1,v1),(2,vp ae 0),(5,(.func (.func 59) #[] #[(vp ae 0)])),(6,vi ag),(7,vp ad 0),(8,vb ar),(13,v1),(14,vi p1.length),(15,vi ag)] [bc 126 b0 [v0_0,v0_1,v0_2,v0_3,v0_4,v0_5,v0_6,v0_7,v0_8,v0_9,v0_10,v0_11],rd v0_0 p0_0,rd v0_1 p0_1,rd v0_2 p0_2,rd v0_3 p0_3,rd v0_4 p0_4,rd v0_5 p0_5,rd v0_6 p0_6,rd v0_7 p0_7,rd v0_8 p0_8,rd v0_9 p0_9,rd v0_10 p0_10,rd v0_11 p0_11,rd v1 p1,bc 68 ae [(vp b0 0)],bx 43 ad j]) ar ?_ ?_
  ·refine eQ hj (fun hc hj=>?_) fun hc hj=>?_
   rotate_left
   ·refine RC.skip ?_
    obtain rfl:=oi hj
    exact⟨rfl,o.sp 16 [0,1,2,3,4,5,6,7,8,9,10,11,12,13,14,15]⟩
   refine RC.region (mv (.func (.func 59) #[] #[(vp ae 0)]) (RL.aZ zr vH (RL.aZ zr tn (RL.aM (f:=(fun x=>x.dQ.Number)) 15 o zr (Fd.comp (f:=fun(x:aT)=>x.dQ) (fun(x:dQ)=>x.Number) nQ n0) cQ ?_))))
   have o:=((o.dup 6 rfl).pull 1).pull 16
   obtain⟨a4,a5,hj⟩:=bd hj
   refine RL.oO [(vp ae 0)] IW [(vi j.dQ.Number)] (aF (j3 N (p0:=j.dQ.Number) o a5) ?_)
   rintro _ w ⟨rfl,o⟩
   refine aK (vb a4) (RL.nil ?_)
   obtain rfl:=oi hj
   exact⟨rfl,o.sp 18 [1,3,4,5,6,7,8,9,10,11,12,13,14,15,0,17]⟩
  rintro _ w ⟨O,rfl,o⟩
  refine aG (RC.seq (RC.sr (RL.aZ rfl tr (RL.aM 15 o rfl mH xK (mv (vb j.Open) (RL.gs true j.Open (vp ad 1) rfl rfl rfl (dN vH) (RL.gs true j.Open (vp ad 1) rfl rfl rfl (dN (hx:=fun h=>by exact(cV h:cv (true&&(j.Open==true)) (vp ad 1)= (vp ad 1))) CO) (RL.gs true j.Open (vb j.dQ.bW) rfl rfl rfl (bZ (f:=(fun x=>x.dQ.bW)) 15 rfl o (fun h=>by exact(cV h:cv (true&&(j.Open==true)) (vp ad 1)= (vp ad 1))) rfl (Fd.comp (f:=fun(x:aT)=>x.dQ) (fun(x:dQ)=>x.bW) nQ xE) xK) ?_))))))))
  refine RL.pick j.Open (vb (j.Open&&j.dQ.bW)) (i6 true) (RL.nt ?_)
  obtain⟨al,hj,hb⟩:=bd hb
  refine RC.jn (fun(al:Bool)=>SH E V [(0,vp b0 0),(1,v1),(2,vp ae 0),(5,(.func (.func 59) #[] #[(vp ae 0)])),(6,vi ag),(7,vp ad 0),(8,vb al),(13,v1),(14,vi p1.length),(15,vi ag)] [bc 126 b0 [v0_0,v0_1,v0_2,v0_3,v0_4,v0_5,v0_6,v0_7,v0_8,v0_9,v0_10,v0_11],rd v0_0 p0_0,rd v0_1 p0_1,rd v0_2 p0_2,rd v0_3 p0_3,rd v0_4 p0_4,rd v0_5 p0_5,rd v0_6 p0_6,rd v0_7 p0_7,rd v0_8 p0_8,rd v0_9 p0_9,rd v0_10 p0_10,rd v0_11 p0_11,rd v1 p1,bc 68 ae [(vp b0 0)],bx 43 ad j]) al ?_ ?_
  ·refine eQ hj (fun hc hj=>?_) fun hc hj=>?_
   rotate_left
   ·refine RC.skip ?_
    obtain rfl:=oi hj
    exact⟨rfl,o.sp 16 [0,1,2,3,4,5,6,7,8,9,10,11,12,13,14,15]⟩
   obtain⟨au,hjj,hj⟩:=bd hj
   refine RC.jn (fun(au:Bool)=>SH E V [(0,vp b0 0),(1,v1),(2,vp ae 0),(5,(.func (.func 59) #[] #[(vp ae 0)])),(6,vi ag),(7,vp ad 0),(8,vb au),(13,v1),(14,vi p1.length),(15,vi ag)] [bc 126 b0 [v0_0,v0_1,v0_2,v0_3,v0_4,v0_5,v0_6,v0_7,v0_8,v0_9,v0_10,v0_11],rd v0_0 p0_0,rd v0_1 p0_1,rd v0_2 p0_2,rd v0_3 p0_3,rd v0_4 p0_4,rd v0_5 p0_5,rd v0_6 p0_6,rd v0_7 p0_7,rd v0_8 p0_8,rd v0_9 p0_9,rd v0_10 p0_10,rd v0_11 p0_11,rd v1 p1,bc 68 ae [(vp b0 0)],bx 43 ad j]) au ?_ ?_
   ·refine RC.yC mixed [0,0,0,0,0,0,0,0,0,0,2,0,0,0,0,0,0,0,0,0,0,0,0,0,0] [0,1,2,3,4,5,6,7,8,9,10,11,12,13,14,15,16,17,18,19,20,21,22,23,24] ?_
    have o:=o.drew
    refine DP.e0 zr (RL.aZ zr vH (cB zr (RL.aZ zr tn (cB zr (RL.aM (f:=(fun x=>x.dQ.Number)) 15 o zr (Fd.comp (f:=fun(x:aT)=>x.dQ) (fun(x:dQ)=>x.Number) nQ n0) cQ (cB zr (RL.aY 14 (vp b0 0) o wM (cB zr ?_))))))))
    refine RL.nilCheck zr (cB zr (RL.aZ zr kp (cB zr (RL.aZ zr mJ (cB zr (RL.aY 0 v0_2 o vF (cB zr (RL.bD 3 p0_2 o xI ?_))))))))
    refine cB zr (RL.jA (p0_2.length:Int) 1 (um zr ?_))
    obtain⟨a6,a7,hjj⟩:=bd hjj
    refine RL.call zt zr IP [(vi j.dQ.Number),(vi 0),(vi (IntKind.wrap .i64 ((p0_2.length:Int) - 1)))] zr (aF (nj N (p0:=j.dQ.Number) (p1:=0) (p2:=(IntKind.wrap .i64 ((p0_2.length:Int) - 1))) o a7) ?_)
    rintro _ w ⟨rfl,o⟩
    refine yD zr (mv (vb a6) (DP.d0 (fM hjj (fun af hjj=>?_) fun af hjj=>?_)))
    rotate_left
    ·refine DP.e0 zr (bO af (cB zr (bO af (cB zr (bO af (cB zr (bO af (cB zr ?_))))))))
     refine bO af (cB zr (bO af (cB zr (bO af (cB zr (bO af (cB zr (bO af ?_))))))))
     refine cB zr (bO af (cB zr (bO af (cB zr (fJ af (vb false) (cB zr (aK (vb false) (DP.d0 ?_))))))))
     refine DP.z ?_
     obtain rfl:=oi hjj
     exact⟨rfl,o.sp 16 [0,1,2,3,4,5,6,7,8,9,10,11,12,13,14,15]⟩
    refine DP.e0 zr (RL.aY (hg:=(cg af)) 14 (vp b0 0) o wM (cB zr (RL.nilCheck (hg:=(cg af)) zr (cB zr (RL.aZ (hg:=(cg af)) zr kp (cB zr (RL.aZ (hg:=(cg af)) zr mJ (cB zr ?_))))))))
    refine RL.aY (hg:=(cg af)) 0 v0_2 o vF (cB zr (RL.aZ (hg:=(cg af)) zr vH (cB zr (RL.aZ (hg:=(cg af)) zr tn (cB zr (RL.aM (hg:=(cg af)) (f:=(fun x=>x.dQ.Number)) 15 o zr (Fd.comp (f:=fun(x:aT)=>x.dQ) (fun(x:dQ)=>x.Number) nQ n0) cQ (cB zr ?_)))))))
    obtain⟨av,a8,hjj⟩:=bd hjj
    refine RL.cC (hg:=(cg af)) 3 o Al a8 fun bp o=>(cB zr (RL.iu (hg:=(cg af)) 0 o zr w4 sf fun bq o=>(cB zr (RL.bI (hg:=(cg af)) av.ik 0 o xK (cB zr (fJ af (vb av.ik) (cB zr (aK (vb av.ik) ?_))))))))
    refine DP.d0 (DP.z ?_)
    obtain rfl:=oi hjj
    exact⟨rfl,o.sp 18 [2,3,4,5,6,7,8,9,10,11,12,13,14,15,16,17]⟩
   rintro _ w ⟨O,rfl,o⟩
   obtain rfl:=oi hj
   exact⟨rfl,o.sp 16 [0,1,2,3,4,5,6,7,8,9,10,11,12,13,14,15]⟩
  rintro _ w ⟨O,rfl,o⟩
  refine aG (RC.bs (mv (vb al) (RL.not al (aK (vb (!al)) (RL.nt (eQ hb (fun hc hb=>?_) fun hc hb=>?_))))))
  ·refine RC.sr (aK (vi 9) (RL.nt (RC.rb (jR (bS ?_)))))
   obtain rfl:=oi hb
   exact⟨rfl,cL ⟨rfl,o.pk 16 [0]⟩⟩
  refine RC.sr (RL.aZ rfl tr (RL.aM 15 o rfl mH xK (RL.not j.Open (mv (vb (!j.Open)) (RL.gs true (!j.Open) (vp ad 4) rfl rfl rfl (dN Au) (RL.gs true (!j.Open) (vi j.B) rfl rfl rfl (bZ 15 rfl o (fun h=>by exact(cV h:cv (true&&((!j.Open)==true)) (vp ad 4)= (vp ad 4))) rfl si cQ) (RL.gs true (!j.Open) (vp ad 3) rfl rfl rfl (dN As) (RL.gs true (!j.Open) (vi j.A) rfl rfl rfl (bZ 15 rfl o (fun h=>by exact(cV h:cv (true&&((!j.Open)==true)) (vp ad 3)= (vp ad 3))) rfl sg cQ) ?_))))))))
  refine RL.gs true (!j.Open) (vb (decide (j.B<=j.A))) rfl rfl rfl (eE .leq .i64 j.B j.A rfl (fun h=>by exact(cV h:cv (true&&((!j.Open)==true)) (vi j.B)= (vi j.B))) (fun h=>by exact(cV h:cv (true&&((!j.Open)==true)) (vi j.A)= (vi j.A))) rfl) (RL.pick (!j.Open) (vb ((!j.Open)&&(decide (j.B<=j.A)))) (i6 true) (aK (vb ((!j.Open)&&(decide (j.B<=j.A)))) (RL.nt (eQ hb (fun hc hb=>?_) fun hc hb=>?_))))
  ·refine RC.sr (aK (vi 8) (RL.nt (RC.rb (jR (bS ?_)))))
   obtain rfl:=oi hb
   exact⟨rfl,cL ⟨rfl,o.pk 16 [0]⟩⟩
  refine RC.seq (RC.yC mixed [0,0,0,0,2,0] [0,1,2,3,4,5] ?_)
  have o:=o.drew
  refine DP.e0 zr (mv v1 (cB zr (mv (vi ag) (cB zr ?_))))
  obtain⟨br,a9,hb⟩:=bd hb
  refine RL.cut (hl:= .inr ⟨rfl,zr⟩) 13 o uD (.inl zr) a9 fun ba o=>(cB zr (RL.aP (f:=(fun x=>x)) 16 o zr Fd.self pF fun bb o=>(um zr ?_)))
  obtain⟨bf,bg,hb⟩:=bd hb
  refine RL.call zt zr L3 [ba,bb] zr (aF (pL N (i0:=1) (i1:=0) o zr zr bg) ?_)
  rintro _ w ⟨rfl,o⟩
  refine yD zr (aK (vb bf) (DP.d0 (DP.z (aG (eQ hb (fun hc hb=>?_) fun hc hb=>?_)))))
  rotate_left
  ·refine RC.skip (bK (bK (aG (RC.region (RL.inc hk hm (mv (vi ((ag+1:Nat):Int)) (RL.nil ?_)))))))
   obtain rfl:=oi hb
   exact⟨rfl,o.sp 18 [2,3,4,5,6,7,8,9,10,11,12,13,14,15,16]⟩
  refine RC.sr (aK (vi 7) (RL.nt (RC.rb (jR (bS ?_)))))
  obtain rfl:=oi hb
  exact⟨rfl,cL ⟨rfl,o.pk 18 [2]⟩⟩
 ·intro r U w e hK
  subst e
  refine bS ?_
  obtain rfl:=oi hb
  exact hK
 rintro an _ w rfl ⟨O,rfl,o⟩
 rw [Fo.gl] at hb
 refine aG (RC.sr (aK (vi 0) (RL.nt (RC.ret ?_))))
 obtain rfl:=oi hb
 exact cL ⟨rfl,o.pk 15 [0]⟩
theorem nz {p0:dQ} (j:Holds E w V) (h0:V[i0]? =some (rd v0 p0)) (h1:V[i1]? =some (pt v1 p1)) (o:f0 N p0 p1=some res):
    Calls bF 60 [v0,v1].toArray w (gI (aQ E V res)):=by
 unfold f0 at o
 refine enter Tryz.func60 zr zr ?_
 have j:=(j.dup (i0+0) h0).xk (i:=i1+1) h1
 refine RC.sr (RL.dB 1 v0 j zr fun ab w j=>?_)
 refine aK (vi 0) (RL.nq (RC.sr (RL.aZ zr CO (RL.aM 0 j zr xE xK (RL.nt (eQ o (fun hc o=>?_) fun hc o=>?_))))))
 rotate_left
 ·refine RC.sx (RL.aZ zr tn (RL.aM 0 j zr n0 cQ (aK (vi p0.Number) (RL.nt (RC.ret ?_)))))
  obtain rfl:=oi o
  exact cL ⟨rfl,j.drop 3⟩
 refine RC.sr (RL.bI p1 1 j cQ (RL.aZ zr tn (RL.aM 0 j zr n0 cQ (RL.jA p1 p0.Number (aK (vi (IntKind.wrap .i64 (p1+p0.Number))) (RL.nt (RC.rt ?_)))))))
 obtain rfl:=oi o
 exact cL ⟨rfl,j.drop 3⟩
def tD (E:World) (V:List HP) (b2:Nat) (v2_0:Value) (p2_0: (List (Int×Bool))) (b3 b3h:Nat) (res: (List Int)) (v:Value) (w:World):Prop:=∃u3h_0:Value,v = .tuple #[]/\Holds E w ([bc 143 b2 [v2_0],mp v2_0 p2_0,bc 144 b3 [(vp b3h 0)],bc 176 b3h [u3h_0],own 3 u3h_0 res]++V)
theorem nA {p2_0: (List (Int×Bool))} {p3h_0: (List Int)} {res: (List Int)} (j:Holds E w (bc 143 b2 [v2_0]::mp v2_0 p2_0::bc 144 b3 [(vp b3h 0)]::bc 176 b3h [v3h_0]::own 3 v3h_0 p3h_0::V)) (hb:gN N p0 p1 p2_0 p3h_0=some res):
    Calls bF 62 [(vi p0),(vi p1),(vp b2 0),(vp b3 0)].toArray w (gI (tD E V b2 v2_0 p2_0 b3 b3h res)):=by
 unfold gN at hb
 refine enter Tryz.func62 zr zr (RC.seq ?_)
 obtain⟨ae,o,hb⟩:=bd hb
 refine RC.jn (fun(ae:Bool)=>SH E V [(0,vi p0),(1,vi p1),(2,vp b2 0),(3,vp b3 0),(15,vb ae)] [bc 143 b2 [v2_0],mp v2_0 p2_0,bc 144 b3 [(vp b3h 0)],bc 176 b3h [v3h_0],own 3 v3h_0 p3h_0]) ae ?_ ?_
 ·refine RC.region (RL.aY 0 v2_0 j BK (mv (vi p0) (RL.pr 1 p0 zt j DF (RL.not (dH p2_0 p0 (false:Bool)) (mv (vb (!(dH p2_0 p0 (false:Bool)))) (fM o (fun aa o=>?_) fun aa o=>?_))))))
  ·refine RL.aY (hg:=(cg aa)) 0 v2_0 j BK (RL.move (vi p1) (cg aa) (RL.pr 1 p1 (cg aa) j DF (RL.not (hg:=(cg aa)) (dH p2_0 p1 (false:Bool)) (fJ aa (vb (!(dH p2_0 p1 (false:Bool)))) (RL.nil ?_)))))
   obtain rfl:=oi o
   exact⟨rfl,j.sp 5 [0,1,2,3,4]⟩
  refine bO aa (bO aa (bO aa (bO aa (fJ aa (vb false) (RL.nil ?_)))))
  obtain rfl:=oi o
  exact⟨rfl,j.sp 5 [0,1,2,3,4]⟩
 rintro _ w ⟨O,rfl,j⟩
 refine aG ?_
 obtain⟨af,o,hb⟩:=bd hb
 refine RC.jn (fun(af: (List Int)) U w=>∃ad:Value,SH E V [(2,vp b2 0),(3,vp b3 0)] [bc 143 b2 [v2_0],mp v2_0 p2_0,bc 144 b3 [(vp b3h 0)],bc 176 b3h [ad],own 3 ad af] U w) af ?_ ?_
 ·refine eQ o (fun hc o=>?_) fun hc o=>?_
  rotate_left
  ·refine RC.skip ?_
   obtain rfl:=oi o
   exact⟨rfl,v3h_0,j.sp 5 [0,1,2,3,4]⟩
  refine RC.region (RL.aY 2 (vp b3h 0) j BL (mv (vi p0) (mv (vi p1) ?_)))
  have j:=(j.pull 4).pull 4
  obtain⟨aj,ah,o⟩:=bd o
  refine RL.call zt zr Ke [(vp b3h 0),(vi p0),(vi p1)] zr (aF (mB N (p1:=p0) (p2:=p1) j ah) ?_)
  rintro _ w ⟨ai,rfl,j⟩
  refine RL.nil ?_
  obtain rfl:=oi o
  exact⟨rfl,ai,j.sp 7 [2,3,4,0,1]⟩
 rintro _ w ⟨ad,O,rfl,j⟩
 obtain rfl:=oi hb
 refine y8 ?_
 exact E2 ⟨ad,zr,j.pk 5 [0,1,2,3,4]⟩
def wS (E:World) (V:List HP) (b0:Nat) (v0_0 v0_1:Value) (v0_2 v0_3:Value) (v0_4 v0_5:Value) (v0_6 v0_7:Value) (v0_8 v0_9:Value) (v0_10 v0_11:Value) (res: (List Int)) (v:Value) (w:World):Prop:=Holds E w ([own 3 v res,bc 126 b0 [v0_0,v0_1,v0_2,v0_3,v0_4,v0_5,v0_6,v0_7,v0_8,v0_9,v0_10,v0_11]]++V)
theorem iJ {p0_2: (List bW)} {p0_3: (List cU)} {p0_5: (List aH)} {p0_6: (List (List Int))} {p0_10: (List Int)} {p0_11: (List dQ)} {p1: (List aT)} {res: (List Int)} (j:Holds E w (bc 126 b0 [v0_0,v0_1,v0_2,v0_3,v0_4,v0_5,v0_6,v0_7,v0_8,v0_9,v0_10,v0_11]::rd v0_2 p0_2::rd v0_3 p0_3::rd v0_5 p0_5::rd v0_6 p0_6::rd v0_10 p0_10::rd v0_11 p0_11::V)) (h1:V[i1]? =some (rd v1 p1)) (hb:cY N p0_2 p0_3 p0_5 p0_6 p0_10 p0_11 p1=some res):
    Calls bF 36 [(vp b0 0),v1].toArray w (gI (wS E V b0 v0_0 v0_1 v0_2 v0_3 v0_4 v0_5 v0_6 v0_7 v0_8 v0_9 v0_10 v0_11 res)):=by
 unfold cY at hb
 refine enter Tryz.func36 zr zr ?_
 have j:=j.dup (i1+7) h1
 refine RC.sr (aK (.slice none 0 0) (RL.ns (mv (vp b0 0) (RL.nilCheck zr (RL.aZ zr lI (RL.aY 1 v0_5 j qJ (RL.bD 4 p0_5 j wo (RL.alloc j EY.z fun ab w j=>?_))))))))
 have j:=j.sc Int (p0_5.length:Int)
 refine RL.bA 1 j 0 zr cQ fun w j=>?_
 refine RL.ns ?_
 have j:=j.gJ (i:=1) rfl
 refine RL.makeFunc [(vp ab 0)] (aK (.func (.func 60) #[] #[(vp ab 0)]) (RL.ns (RL.makeMap (κ:=Int) (ν:=Bool) zr j fun ae w j=>(RL.pw j Kw fun ad w j=>?_))))
 refine RL.gV 0 ae j zr zr (Iw j (i:=1) zr) BK fun w j=>?_
 refine RL.nq (RC.sr (mv v1 (RL.bD 4 p1 j uE (mv (vi 0) (RL.nt ?_)))))
 obtain⟨ah,hN,hb⟩:=bd hb
 refine RC.fold (fun(a9:Nat) (ah: (List (Int×Bool)))=>SH E V [(0,vp b0 0),(1,v1),(5,vp ab 0),(6,(.func (.func 60) #[] #[(vp ab 0)])),(7,vp ad 0),(32,v1),(33,vi p1.length),(34,vi a9)] [bc 126 b0 [v0_0,v0_1,v0_2,v0_3,v0_4,v0_5,v0_6,v0_7,v0_8,v0_9,v0_10,v0_11],rd v0_2 p0_2,rd v0_3 p0_3,rd v0_5 p0_5,rd v0_6 p0_6,rd v0_10 p0_10,rd v0_11 p0_11,rd v1 p1,pt (vp ab 0) (p0_5.length:Int),bc 143 ad [ae],mp ae ah]) (fun(ah: (List (Int×Bool)))=>SH E V [(0,vp b0 0),(1,v1),(5,vp ab 0),(6,(.func (.func 60) #[] #[(vp ab 0)])),(7,vp ad 0)] [bc 126 b0 [v0_0,v0_1,v0_2,v0_3,v0_4,v0_5,v0_6,v0_7,v0_8,v0_9,v0_10,v0_11],rd v0_2 p0_2,rd v0_3 p0_3,rd v0_5 p0_5,rd v0_6 p0_6,rd v0_10 p0_10,rd v0_11 p0_11,rd v1 p1,pt (vp ab 0) (p0_5.length:Int),bc 143 ad [ae],mp ae ah]) hN ?_ ?_ ?_ ?_
 ·exact j.sp 12 [5,6,7,8,9,10,11,4,3,0,1]
 ·rintro hm ah _ w ⟨O,rfl,j⟩
  refine RC.sr (ic ((p1.length:Int)) ((p1.length:Int)) (RL.nq (RC.cN lS (RC.ex ?_))))
  exact⟨rfl,j.sp 11 [0,1,2,3,4,5,6,7,8,9,10]⟩
 ·rintro hm a9 ah s' _ w hk ⟨O,rfl,j⟩ hb
  refine RC.sr (ic ((a9:Int)) ((p1.length:Int)) (RL.nq (RC.cM (lR hk) (RC.ss (RC.bs ?_)))))
  obtain⟨b8,b9,hb⟩:=bd hb
  refine RL.cC 7 j uD b9 fun db j=>(RL.bV 0 b8 j pF fun dc j=>(RL.alloc j wN.z fun dd w j=>?_))
  refine RL.bA 0 j 1 zr pF fun w j=>?_
  refine RL.ns (RL.aZ zr tr (RL.aM 0 j zr mH xK (RL.nt ?_)))
  obtain⟨bo,hj,hb⟩:=bd hb
  refine RC.jn (fun(bo: (List (Int×Bool)))=>SH E V [(0,vp b0 0),(1,v1),(5,vp ab 0),(6,(.func (.func 60) #[] #[(vp ab 0)])),(7,vp ad 0),(32,v1),(33,vi p1.length),(34,vi a9)] [bc 126 b0 [v0_0,v0_1,v0_2,v0_3,v0_4,v0_5,v0_6,v0_7,v0_8,v0_9,v0_10,v0_11],rd v0_2 p0_2,rd v0_3 p0_3,rd v0_5 p0_5,rd v0_6 p0_6,rd v0_10 p0_10,rd v0_11 p0_11,rd v1 p1,pt (vp ab 0) (p0_5.length:Int),bc 143 ad [ae],mp ae bo]) bo ?_ ?_
  ·refine eQ hj (fun hc hj=>?_) fun hc hj=>?_
   rotate_left
   ·refine RC.skip ?_
    obtain rfl:=oi hj
    exact⟨rfl,j.sp 14 [3,4,5,6,7,8,9,10,11,12,13]⟩
   have j:=j.drew
   refine RC.Fu (fun w=>Holds E w ([bc 143 ad [ae]]++V)) mixed zr [1,0,0,0,2,2] [0,1,2,3,4,5] (j.pk 14 [12]) (DP.IF ae zr (fun w j=>RL.aY 0 ae j BK DP.d1) (DP.e0 zr (mv (.func (.func 60) #[] #[(vp ab 0)]) (cB zr (RL.aZ zr vH (cB zr (RL.aP 0 j zr nQ rn fun ca j=>(um zr ?_))))))))
   obtain⟨cb,cc,hj⟩:=bd hj
   refine RL.oO [(vp ab 0)] Kx [ca] (aF (nz N (i0:=0) (i1:=12) j zr zr cc) ?_)
   rintro _ w ⟨rfl,j⟩
   refine DP.d2 (j.pk 15 [13]) (DP.e2 zr ?_)
   have j:=j.sc Bool true
   refine RL.mapUpdate 15 0 cb j zr zr zr zr zr DF fun w j=>(DP.d2 (j.pk 16 [14]) (DP.z ?_))
   obtain rfl:=oi hj
   exact⟨rfl,j.sp 16 [5,6,7,8,9,10,11,12,13,14,15]⟩
  rintro _ w ⟨O,rfl,j⟩
  refine bK (aG (RC.region (RL.inc hk hm (mv (vi ((a9+1:Nat):Int)) (RL.nil ?_)))))
  obtain rfl:=oi hb
  exact⟨rfl,j.sp 11 [0,1,2,3,4,5,6,7,8,9,10]⟩
 rintro _ w ⟨O,rfl,j⟩
 refine aG (RC.seq ?_)
 obtain⟨cd,cf,hb⟩:=bd hb
 refine RC.Ds E V mixed [0,1,1,1,1,0,0,1,0,0,0] [8,9,10] (fun(x:Nat×Value×Nat)=>(fun aa ak o=>[(0,46,(vi p0_5.length)),(1,47,(vp b0 0)),(2,48,(vp b0 0)),(3,49,(vp b0 0)),(4,50,(vp b0 2)),(5,51,v0_2),(6,52,(vi p0_2.length)),(7,53,(vi (IntKind.wrap .i64 ((p0_5.length:Int)+ (p0_2.length:Int))))),(8,54,(vp aa 0)),(9,10,(vp o 0))]) x.1 x.2.1 x.2.2) [(0,vp b0 0),(1,v1),(5,vp ab 0),(6,(.func (.func 60) #[] #[(vp ab 0)])),(7,vp ad 0)] [] (fun(D:Nat->Bool) (x:Nat×Value×Nat)=>(fun aa ak o=>[bif D 0 then (bc 176 aa [ak]) else aX,bif D 0 then (own 3 ak cd) else aX,bif D 2 then (bc 144 o [(vp aa 0)]) else (bif D 1 then (bc 144 o [(.pointer none)]) else aX),bc 126 b0 [v0_0,v0_1,v0_2,v0_3,v0_4,v0_5,v0_6,v0_7,v0_8,v0_9,v0_10,v0_11],rd v0_2 p0_2,rd v0_3 p0_3,rd v0_5 p0_5,rd v0_6 p0_6,rd v0_10 p0_10,rd v0_11 p0_11,rd v1 p1,pt (vp ab 0) (p0_5.length:Int),bc 143 ad [ae],mp ae ah]) x.1 x.2.1 x.2.2) (fun x=>by kernel_rfl) ?_ ⟨?_,fun _=>iT gn,fun _=>wI gn,fun _=>mu gn kp,fun _=>mu gn mJ,?_,?_,fun _=>Hc gn rfl,?_,?_,?_,trivial⟩ ?_
 ·have j:=(((j.drew).aX).aX).aX
  exact⟨(0,undef,0),dX.none,(Cr zr),zt,j⟩
 ·rintro D U w hD au a0 ⟨⟨aa,ak,o⟩,hv,ha,_,j⟩
  obtain⟨O,rfl⟩:=(ac (ha.at 2 rfl) az).eT
  refine RL.bI (p0_5.length:Int) 11 j cQ ?_
  exact RL.nil ⟨rfl,(aa,ak,o),hv.pu 0,ha.u,zt,j⟩
 ·rintro D U w hD au a0 ⟨⟨aa,ak,o⟩,hv,ha,_,j⟩
  obtain⟨O,rfl⟩:=(ac (hv.at 4 rfl (au.1 rfl)) az).eT
  refine RL.aY 3 v0_2 j vF ?_
  exact RL.nil ⟨rfl,(aa,ak,o),hv.pu 5,ha.u,zt,j⟩
 ·rintro D U w hD au a0 ⟨⟨aa,ak,o⟩,hv,ha,_,j⟩
  obtain⟨O,rfl⟩:=(ac (hv.at 5 rfl (au.1 rfl)) az).eT
  refine RL.bD 4 p0_2 j xI ?_
  exact RL.nil ⟨rfl,(aa,ak,o),hv.pu 6,ha.u,zt,j⟩
 ·rintro D U w hD au a0 ⟨⟨aa,ak,o⟩,hv,ha,_,j⟩
  obtain⟨O,rfl⟩:=(ac (hv.at 7 rfl (au.1 rfl)) az).eT
  have j:=((j.bN 0 hD).bN 1 hD).bN 2 (nh a0 hD 10)
  refine RL.call zt zr Kd [(vi (IntKind.wrap .i64 ((p0_5.length:Int)+ (p0_2.length:Int))))] zr (aF (ny N (p0:=(IntKind.wrap .i64 ((p0_5.length:Int)+ (p0_2.length:Int)))) j cf) ?_)
  rintro _ w ⟨b1,ch,rfl,j⟩
  have j:=(((j.pl 16 [0,1,4,5,6,7,8,9,10,11,12,13,14,15]).cG 0 true aX).cG 1 true aX).eA 2 (D 10) (nh a0 hD 10) (bc 144 o [(vp b1 0)])
  exact RL.nil ⟨rfl,(b1,ch,o),hv.pu 8,ha.u,zt,j⟩
 ·rintro D U w hD au a0 ⟨⟨aa,ak,o⟩,hv,ha,_,j⟩
  obtain⟨O,rfl⟩:=(az (U:=U)).eT
  have j:=(j.bN 2 (nh a0 hD 10)).bN 2 hD
  refine RL.pw j Ky fun b2 w j=>?_
  have j:=((j.pl 15 [1,2,0,4,5,6,7,8,9,10,11,12,13,14]).cG 2 true aX).eA 2 (D 10) (nh a0 hD 10) (bc 144 b2 [(vp aa 0)])
  exact RL.nil ⟨rfl,(aa,ak,b2),hv.pu 9,ha.u,zt,j⟩
 ·rintro D U w hD au a0 ⟨⟨aa,ak,o⟩,hv,ha,_,j⟩
  obtain⟨O,rfl⟩:=(ac (hv.at 8 rfl (au.2.1 rfl)) (ac (hv.at 9 rfl (au.1 rfl)) az)).eT
  have j:=((j.cF 0 (au.2.1 rfl)).bN 2 hD).cF 2 (au.1 rfl)
  refine RL.gV 2 (vp aa 0) j zr zr zr BL fun w j=>?_
  have j:=(j.cG (hb:=au.2.1 rfl) 0 (D 8) aX).cG 2 true (bif D 9 then (bc 144 o [(.pointer none)]) else aX)
  exact RL.nil ⟨rfl,(aa,ak,o),hv.n1,ha,zt,j⟩
 rintro D U w bh ⟨⟨aa,ak,o⟩,hv,ha,_,j⟩
 have j:=((j.cF 0 (jk bh 8)).cF 1 (jk bh 8)).cF 2 (jk bh 10)
 obtain⟨O,rfl⟩:=(ac (hv.at 9 rfl (jk bh 9)) (ac (ha.at 0 rfl) (ac (ha.at 1 rfl) (ac (ha.at 2 rfl) (ac (ha.at 3 rfl) (ac (ha.at 4 rfl) az)))))).eT
 refine aG (RC.sr (RL.makeFunc [(vp ad 0),(vp o 0)] (aK (.func (.func 62) #[] #[(vp ad 0),(vp o 0)]) (RL.nq (RC.sr (mv (vp b0 0) (RL.nilCheck zr (RL.aZ zr w7 ?_))))))))
 refine RL.aY 3 v0_6 j DA (RL.bD 7 p0_6 j DB (mv (vi 0) (RL.nt ?_)))
 obtain⟨a5,hN,hb⟩:=bd hb
 refine RC.fold (fun(av:Nat) (a5: (List Int)) U w=>∃b3:Value,SH E V [(0,vp b0 0),(1,v1),(5,vp ab 0),(6,(.func (.func 60) #[] #[(vp ab 0)])),(7,vp ad 0),(10,vp o 0),(11,(.func (.func 62) #[] #[(vp ad 0),(vp o 0)])),(59,v0_6),(60,vi p0_6.length),(61,vi av)] [bc 126 b0 [v0_0,v0_1,v0_2,v0_3,v0_4,v0_5,v0_6,v0_7,v0_8,v0_9,v0_10,v0_11],rd v0_2 p0_2,rd v0_3 p0_3,rd v0_5 p0_5,rd v0_6 p0_6,rd v0_10 p0_10,rd v0_11 p0_11,rd v1 p1,pt (vp ab 0) (p0_5.length:Int),bc 143 ad [ae],mp ae ah,bc 144 o [(vp aa 0)],bc 176 aa [b3],own 3 b3 a5] U w) (fun(a5: (List Int)) U w=>∃bj:Value,SH E V [(0,vp b0 0),(1,v1),(6,(.func (.func 60) #[] #[(vp ab 0)])),(7,vp ad 0),(10,vp o 0),(11,(.func (.func 62) #[] #[(vp ad 0),(vp o 0)]))] [bc 126 b0 [v0_0,v0_1,v0_2,v0_3,v0_4,v0_5,v0_6,v0_7,v0_8,v0_9,v0_10,v0_11],rd v0_2 p0_2,rd v0_3 p0_3,rd v0_5 p0_5,rd v0_6 p0_6,rd v0_10 p0_10,rd v0_11 p0_11,rd v1 p1,pt (vp ab 0) (p0_5.length:Int),bc 143 ad [ae],mp ae ah,bc 144 o [(vp aa 0)],bc 176 aa [bj],own 3 bj a5] U w) hN ?_ ?_ ?_ ?_
 ·exact⟨ak,j.sp 14 [3,4,5,6,7,8,9,10,11,12,13,2,0,1]⟩
 ·rintro hm a5 _ w ⟨cj,O,rfl,j⟩
  refine RC.sr (ic ((p0_6.length:Int)) ((p0_6.length:Int)) (RL.nq (RC.cN lS (RC.ex ?_))))
  exact⟨rfl,cj,j.sp 14 [0,1,2,3,4,5,6,7,8,9,10,11,12,13]⟩
 ·rintro hm av a5 s' _ w hk ⟨ck,O,rfl,j⟩ hb
  refine RC.sr (ic ((av:Int)) ((p0_6.length:Int)) (RL.nq (RC.cM (lR hk) (RC.ss (RC.bs (mv (vi av) ?_))))))
  obtain⟨a3,cl,hb⟩:=bd hb
  refine RL.cC 4 j xL cl fun de j=>(RL.bV 0 a3 j fH fun ba j=>(aK (vi av) (aK ba (RL.ns (mv ba (RL.bD 0 a3 j lM (mv (vi 0) (RL.nt ?_))))))))
  obtain⟨a6,hN,hb⟩:=bd hb
  refine RC.fold (fun(bk:Nat) (a6: (List Int)) U w=>∃b4:Value,SH E V [(0,vp b0 0),(1,v1),(5,vp ab 0),(6,(.func (.func 60) #[] #[(vp ab 0)])),(7,vp ad 0),(10,vp o 0),(11,(.func (.func 62) #[] #[(vp ad 0),(vp o 0)])),(12,vi av),(59,v0_6),(60,vi p0_6.length),(61,vi av),(66,ba),(67,vi a3.length),(68,vi bk)] [bc 126 b0 [v0_0,v0_1,v0_2,v0_3,v0_4,v0_5,v0_6,v0_7,v0_8,v0_9,v0_10,v0_11],rd v0_2 p0_2,rd v0_3 p0_3,rd v0_5 p0_5,rd v0_6 p0_6,rd v0_10 p0_10,rd v0_11 p0_11,rd v1 p1,pt (vp ab 0) (p0_5.length:Int),bc 143 ad [ae],mp ae ah,bc 144 o [(vp aa 0)],bc 176 aa [b4],own 3 b4 a6,rd ba a3] U w) (fun(a6: (List Int)) U w=>∃bl:Value,SH E V [(0,vp b0 0),(1,v1),(5,vp ab 0),(6,(.func (.func 60) #[] #[(vp ab 0)])),(7,vp ad 0),(10,vp o 0),(11,(.func (.func 62) #[] #[(vp ad 0),(vp o 0)])),(59,v0_6),(60,vi p0_6.length),(61,vi av)] [bc 126 b0 [v0_0,v0_1,v0_2,v0_3,v0_4,v0_5,v0_6,v0_7,v0_8,v0_9,v0_10,v0_11],rd v0_2 p0_2,rd v0_3 p0_3,rd v0_5 p0_5,rd v0_6 p0_6,rd v0_10 p0_10,rd v0_11 p0_11,rd v1 p1,pt (vp ab 0) (p0_5.length:Int),bc 143 ad [ae],mp ae ah,bc 144 o [(vp aa 0)],bc 176 aa [bl],own 3 bl a6,rd ba a3] U w) hN ?_ ?_ ?_ ?_
  ·exact⟨ck,j.sp 16 [2,3,4,5,6,7,8,9,10,11,12,13,14,15,0]⟩
  ·rintro hm a6 _ w ⟨cm,O,rfl,j⟩
   refine RC.sr (ic ((a3.length:Int)) ((a3.length:Int)) (RL.nq (RC.cN lS (RC.ex ?_))))
   exact⟨rfl,cm,j.sp 15 [0,1,2,3,4,5,6,7,8,9,10,11,12,13,14]⟩
  ·rintro hm bk a6 s' _ w hk ⟨df,O,rfl,j⟩ hb
   refine RC.sr (ic ((bk:Int)) ((a3.length:Int)) (RL.nq (RC.cM (lR hk) (RC.ss (RC.bs ?_)))))
   obtain⟨bb,cn,hb⟩:=bd hb
   refine RL.cC 14 j eJ cn fun dg j=>(RL.bI bb 0 j cQ (aK (vi bb) (RL.nt (RC.region (mv (.func (.func 62) #[] #[(vp ad 0),(vp o 0)]) (mv (vi bb) (RL.bI (p0_5.length:Int) 9 j cQ (mv (vi av) ?_))))))))
   refine RL.jA (p0_5.length:Int) (av:Int) ?_
   have j:=((((j.pull 14).pull 14).pull 14).pull 14).pull 14
   obtain⟨dh,cp,hb⟩:=bd hb
   refine RL.oO [(vp ad 0),(vp o 0)] Kz [(vi bb),(vi (IntKind.wrap .i64 ((p0_5.length:Int)+ (av:Int))))] (aF (nA N (p0:=bb) (p1:=(IntKind.wrap .i64 ((p0_5.length:Int)+ (av:Int)))) j cp) ?_)
   rintro _ w ⟨cq,rfl,j⟩
   refine RL.nil (bK (aG (RC.region (RL.inc hk hm (mv (vi ((bk+1:Nat):Int)) (RL.nil ?_))))))
   obtain rfl:=oi hb
   exact⟨rfl,cq,j.sp 21 [6,7,8,9,10,11,12,13,14,0,1,2,3,4,20]⟩
  rintro _ w ⟨bl,O,rfl,j⟩
  refine bK (aG (RC.region (RL.inc hk hm (mv (vi ((av+1:Nat):Int)) (RL.nil ?_)))))
  obtain rfl:=oi hb
  exact⟨rfl,bl,j.sp 15 [0,1,2,3,4,5,6,7,8,9,10,11,12,13]⟩
 rintro _ w ⟨bj,O,rfl,j⟩
 refine aG (RC.seq (RC.sr (mv v1 (RL.bD 7 p1 j uE (mv (vi 0) (RL.nt ?_))))))
 obtain⟨a7,hN,hb⟩:=bd hb
 refine RC.fold (fun(bf:Nat) (a7: (List Int)) U w=>∃b5:Value,SH E V [(0,vp b0 0),(6,(.func (.func 60) #[] #[(vp ab 0)])),(7,vp ad 0),(10,vp o 0),(11,(.func (.func 62) #[] #[(vp ad 0),(vp o 0)])),(80,v1),(81,vi p1.length),(82,vi bf)] [bc 126 b0 [v0_0,v0_1,v0_2,v0_3,v0_4,v0_5,v0_6,v0_7,v0_8,v0_9,v0_10,v0_11],rd v0_2 p0_2,rd v0_3 p0_3,rd v0_5 p0_5,rd v0_6 p0_6,rd v0_10 p0_10,rd v0_11 p0_11,pt (vp ab 0) (p0_5.length:Int),bc 143 ad [ae],mp ae ah,bc 144 o [(vp aa 0)],bc 176 aa [b5],own 3 b5 a7,rd v1 p1] U w) (fun(a7: (List Int)) U w=>∃bm:Value,SH E V [(0,vp b0 0),(6,(.func (.func 60) #[] #[(vp ab 0)])),(7,vp ad 0),(10,vp o 0)] [bc 126 b0 [v0_0,v0_1,v0_2,v0_3,v0_4,v0_5,v0_6,v0_7,v0_8,v0_9,v0_10,v0_11],rd v0_2 p0_2,rd v0_3 p0_3,rd v0_5 p0_5,rd v0_6 p0_6,rd v0_10 p0_10,rd v0_11 p0_11,pt (vp ab 0) (p0_5.length:Int),bc 143 ad [ae],mp ae ah,bc 144 o [(vp aa 0)],bc 176 aa [bm],own 3 bm a7,rd v1 p1] U w) hN ?_ ?_ ?_ ?_
 ·exact⟨bj,j.sp 14 [0,1,2,3,4,5,6,8,9,10,11,12,13,7]⟩
 ·rintro hm a7 _ w ⟨cr,O,rfl,j⟩
  refine RC.sr (ic ((p1.length:Int)) ((p1.length:Int)) (RL.nq (RC.cN lS (RC.ex ?_))))
  exact⟨rfl,cr,j.sp 14 [0,1,2,3,4,5,6,7,8,9,10,11,12,13]⟩
 ·rintro hm bf a7 s' _ w hk ⟨ct,O,rfl,j⟩ hb
  refine RC.sr (ic ((bf:Int)) ((p1.length:Int)) (RL.nq (RC.cM (lR hk) (RC.ss (RC.bs ?_)))))
  obtain⟨a8,cu,hb⟩:=bd hb
  refine RL.cC 13 j uD cu fun di j=>(RL.bV 0 a8 j pF fun dj j=>(RL.alloc j wN.z fun dk w j=>?_))
  refine RL.bA 0 j 1 zr pF fun w j=>?_
  refine RL.ns (RL.aZ zr tr (RL.aM 0 j zr mH xK (RL.not a8.Open (RL.nt ?_))))
  obtain⟨bp,hj,hb⟩:=bd hb
  refine RC.jn (fun(bp: (List Int)) U w=>∃bn:Value,SH E V [(0,vp b0 0),(6,(.func (.func 60) #[] #[(vp ab 0)])),(7,vp ad 0),(10,vp o 0),(11,(.func (.func 62) #[] #[(vp ad 0),(vp o 0)])),(80,v1),(81,vi p1.length),(82,vi bf)] [bc 126 b0 [v0_0,v0_1,v0_2,v0_3,v0_4,v0_5,v0_6,v0_7,v0_8,v0_9,v0_10,v0_11],rd v0_2 p0_2,rd v0_3 p0_3,rd v0_5 p0_5,rd v0_6 p0_6,rd v0_10 p0_10,rd v0_11 p0_11,pt (vp ab 0) (p0_5.length:Int),bc 143 ad [ae],mp ae ah,bc 144 o [(vp aa 0)],bc 176 aa [bn],own 3 bn bp,rd v1 p1] U w) bp ?_ ?_
  ·refine eQ hj (fun hc hj=>?_) fun hc hj=>?_
   rotate_left
   ·refine RC.skip ?_
    obtain rfl:=oi hj
    exact⟨rfl,ct,j.sp 17 [3,4,5,6,7,8,9,10,11,12,13,14,15,16]⟩
   refine RC.region (mv (.func (.func 62) #[] #[(vp ad 0),(vp o 0)]) (RL.aZ zr As (RL.aM 0 j zr sg cQ (RL.aZ zr Au (RL.aM 0 j zr si cQ ?_)))))
   have j:=((((j.pull 15).pull 15).pull 15).pull 15).pull 15
   obtain⟨dm,cv,hj⟩:=bd hj
   refine RL.oO [(vp ad 0),(vp o 0)] Kz [(vi a8.A),(vi a8.B)] (aF (nA N (p0:=a8.A) (p1:=a8.B) j cv) ?_)
   rintro _ w ⟨cw,rfl,j⟩
   refine RL.nil ?_
   obtain rfl:=oi hj
   exact⟨rfl,cw,j.sp 22 [8,9,10,11,12,13,14,15,0,1,2,3,4,21]⟩
  rintro _ w ⟨bn,O,rfl,j⟩
  refine bK (aG (RC.region (RL.inc hk hm (mv (vi ((bf+1:Nat):Int)) (RL.nil ?_)))))
  obtain rfl:=oi hb
  exact⟨rfl,bn,j.sp 14 [0,1,2,3,4,5,6,7,8,9,10,11,12,13]⟩
 rintro _ w ⟨bm,O,rfl,j⟩
 refine aG (RC.sr (RL.makeMap (κ:=Int) (ν:=Int) zr j fun ax w j=>(aK ax (RL.ns (mv (vp b0 0) (RL.nilCheck zr (RL.aZ zr kp (RL.aZ zr vG ?_))))))))
 refine RL.aY 1 v0_3 j Ek (RL.bD 3 p0_3 j FE ?_)
 obtain⟨dn,cx,hb⟩:=bd hb
 refine RL.mk (p0_3.length:Int) j uz Jg cx fun aw w j=>?_
 refine aK aw (RL.nq (RC.sr (mv (vp b0 0) (RL.nilCheck zr (RL.aZ zr Ar (RL.aY 2 v0_11 j FN (RL.bD 8 p0_11 j KA (mv (vi 0) ?_))))))))
 refine RL.nt ?_
 obtain⟨ag,hN,hb⟩:=bd hb
 refine RC.fold (fun(al:Nat) (ag: (List Int)×(List (Int×Int))×(List Int)) U w=>∃b6:Value,SH E V [(0,vp b0 0),(6,(.func (.func 60) #[] #[(vp ab 0)])),(7,vp ad 0),(10,vp o 0),(18,ax),(19,aw),(107,v0_11),(108,vi p0_11.length),(109,vi al)] [bc 126 b0 [v0_0,v0_1,v0_2,v0_3,v0_4,v0_5,v0_6,v0_7,v0_8,v0_9,v0_10,v0_11],rd v0_2 p0_2,rd v0_3 p0_3,rd v0_5 p0_5,rd v0_6 p0_6,rd v0_10 p0_10,rd v0_11 p0_11,pt (vp ab 0) (p0_5.length:Int),bc 143 ad [ae],mp ae ah,bc 144 o [(vp aa 0)],bc 176 aa [b6],own 3 b6 ag.1,mp ax ag.2.1,own 3 aw ag.2.2] U w) (fun(ag: (List Int)×(List (Int×Int))×(List Int)) U w=>∃bq:Value,SH E V [(0,vp b0 0),(19,aw)] [bc 126 b0 [v0_0,v0_1,v0_2,v0_3,v0_4,v0_5,v0_6,v0_7,v0_8,v0_9,v0_10,v0_11],rd v0_2 p0_2,rd v0_3 p0_3,rd v0_5 p0_5,rd v0_6 p0_6,rd v0_10 p0_10,rd v0_11 p0_11,pt (vp ab 0) (p0_5.length:Int),bc 143 ad [ae],mp ae ah,bc 144 o [(vp aa 0)],bc 176 aa [bq],own 3 bq ag.1,mp ax ag.2.1,own 3 aw ag.2.2] U w) hN ?_ ?_ ?_ ?_
 ·exact⟨bm,j.sp 16 [2,3,4,5,6,7,8,9,10,11,12,13,14,1,0]⟩
 ·rintro hm ag _ w ⟨cy,O,rfl,j⟩
  refine RC.sr (ic ((p0_11.length:Int)) ((p0_11.length:Int)) (RL.nq (RC.cN lS (RC.ex ?_))))
  exact⟨rfl,cy,j.sp 15 [0,1,2,3,4,5,6,7,8,9,10,11,12,13,14]⟩
 ·rintro hm al ag s' _ w hk ⟨br,O,rfl,j⟩ hb
  refine RC.sr (ic ((al:Int)) ((p0_11.length:Int)) (RL.nq (RC.cM (lR hk) (RC.ss (RC.bs (mv (vi al) ?_))))))
  obtain⟨cz,c0,hb⟩:=bd hb
  refine RL.cC 6 j H8 c0 fun dp j=>(RL.bV 0 cz j rn fun dq j=>(RL.alloc j Hj.z fun dr w j=>?_))
  refine aK (vi al) (RL.bA 0 j 1 zr rn fun w j=>?_)
  refine RL.ns (mv (.func (.func 60) #[] #[(vp ab 0)]) (RL.aP (f:=(fun x=>x)) 0 j zr Fd.self rn fun c1 j=>?_))
  obtain⟨aq,c2,hb⟩:=bd hb
  refine RL.oO [(vp ab 0)] Kx [c1] (aF (nz N (i0:=0) (i1:=11) j zr zr c2) ?_)
  rintro _ w ⟨rfl,j⟩
  refine aK (vi aq) (RL.nq (RC.seq ?_))
  obtain⟨bt,hj,hb⟩:=bd hb
  refine RC.jn (fun(bt:Bool)=>SH E V [(0,vp b0 0),(6,(.func (.func 60) #[] #[(vp ab 0)])),(7,vp ad 0),(10,vp o 0),(18,ax),(19,aw),(20,vi al),(22,vi aq),(107,v0_11),(108,vi p0_11.length),(109,vi al),(129,vb bt)] [bc 126 b0 [v0_0,v0_1,v0_2,v0_3,v0_4,v0_5,v0_6,v0_7,v0_8,v0_9,v0_10,v0_11],rd v0_2 p0_2,rd v0_3 p0_3,rd v0_5 p0_5,rd v0_6 p0_6,rd v0_10 p0_10,rd v0_11 p0_11,pt (vp ab 0) (p0_5.length:Int),bc 143 ad [ae],mp ae ah,bc 144 o [(vp aa 0)],bc 176 aa [br],own 3 br ag.1,mp ax ag.2.1,own 3 aw ag.2.2]) bt ?_ ?_
  ·refine RC.region (mv (vp b0 0) (RL.nilCheck zr (RL.aZ zr Aq (RL.aY 4 v0_10 j fH (mv (vi al) ?_)))))
   obtain⟨bu,c3,hj⟩:=bd hj
   refine RL.cC 9 j eJ c3 fun ds j=>(RL.bI bu 0 j cQ (ic bu 0 (mv (vb (decide (bu<0))) (fM hj (fun a1 hj=>?_) fun a1 hj=>?_))))
   ·refine bO a1 (bO a1 (bO a1 (fJ a1 (vb true) (RL.nil ?_))))
    obtain rfl:=oi hj
    exact⟨rfl,j.sp 20 [5,6,7,8,9,10,11,12,13,14,15,16,17,18,19]⟩
   refine RL.aY (hg:=(cg a1)) 13 ae j BK (RL.move (vi aq) (cg a1) (RL.pr 14 aq (cg a1) j DF (fJ a1 (vb (dH ah aq (false:Bool))) (RL.nil ?_))))
   obtain rfl:=oi hj
   exact⟨rfl,j.sp 20 [5,6,7,8,9,10,11,12,13,14,15,16,17,18,19]⟩
  rintro _ w ⟨O,rfl,j⟩
  refine aG (eQ hb (fun hc hb=>?_) fun hc hb=>?_)
  ·refine RC.sr (mv aw (mv (vi al) ?_))
   obtain⟨dt,bw,hb⟩:=bd hb
   refine RL.bQ 14 j zr zr eJ bw ?_
   have j:=j.sc Int (-1)
   refine RL.gE (f:=(fun _ y=>y)) 15 0 j (jG 15 j bw 0) (bB bw).2.1 zr Fs.self cQ fun w j=>?_
   refine RL.nt (RC.ex (E1 (aG (RC.region (RL.inc hk hm (mv (vi ((al+1:Nat):Int)) (RL.nil ?_)))))))
   obtain rfl:=oi hb
   exact⟨rfl,br,j.sp 16 [1,2,3,4,5,6,7,8,9,10,11,12,13,14,15]⟩
  refine RC.ss (RC.sr (mv ax (RL.aY 10 (vp aa 0) j BL (mv (vi aq) ?_))))
  have j:=(j.pull 12).pull 12
  obtain⟨a2,c4,hb⟩:=bd hb
  refine RL.call zt zr En [(vp aa 0),(vi aq)] zr (aF (f9 N (p1:=aq) j c4) ?_)
  rintro _ w ⟨c5,rfl,j⟩
  refine RL.xo 15 a2.1 zr j zr zr zr wm (mv (.tuple #[(vi (dH ag.2.1 a2.1 (0:Int))),(vb (gK ag.2.1 a2.1))]) (RL.extract (vi (dH ag.2.1 a2.1 (0:Int))) (RL.extract (vb (gK ag.2.1 a2.1)) (aK (vi (dH ag.2.1 a2.1 (0:Int))) (aK (vb (gK ag.2.1 a2.1)) (RL.ns (mv (vb (gK ag.2.1 a2.1)) (RL.not (gK ag.2.1 a2.1) ?_))))))))
  refine RL.nt ?_
  obtain⟨bg,hj,hb⟩:=bd hb
  refine RC.jn (fun(bg: (List Int)×(List (Int×Int))) U w=>∃bx:Value,SH E V [(0,vp b0 0),(6,(.func (.func 60) #[] #[(vp ab 0)])),(7,vp ad 0),(10,vp o 0),(18,ax),(19,aw),(20,vi al),(22,vi aq),(107,v0_11),(108,vi p0_11.length),(109,vi al)] [bc 126 b0 [v0_0,v0_1,v0_2,v0_3,v0_4,v0_5,v0_6,v0_7,v0_8,v0_9,v0_10,v0_11],rd v0_2 p0_2,rd v0_3 p0_3,rd v0_5 p0_5,rd v0_6 p0_6,rd v0_10 p0_10,rd v0_11 p0_11,pt (vp ab 0) (p0_5.length:Int),bc 143 ad [ae],mp ae ah,bc 144 o [(vp aa 0)],bc 176 aa [bx],own 3 bx bg.1,mp ax bg.2,own 3 aw ag.2.2] U w) bg ?_ ?_
  ·refine eQ hj (fun hc hj=>?_) fun hc hj=>?_
   rotate_left
   ·refine RC.skip ?_
    obtain rfl:=oi hj
    exact⟨rfl,c5,j.sp 17 [2,3,4,5,6,7,8,9,10,11,12,0,1,15,16]⟩
   refine RC.region (mv ax (RL.aY 12 (vp aa 0) j BL (mv (vi aq) ?_)))
   have j:=(j.pull 1).pull 1
   obtain⟨c6,c7,hj⟩:=bd hj
   refine RL.call zt zr En [(vp aa 0),(vi aq)] zr (aF (f9 N (p1:=aq) j c7) ?_)
   rintro _ w ⟨c8,rfl,j⟩
   refine mv (vi al) ?_
   have j:=j.sc Int (al:Int)
   refine RL.mapUpdate 18 0 c6.1 j zr zr zr zr zr wm fun w j=>(RL.nil ?_)
   obtain rfl:=oi hj
   exact⟨rfl,c8,j.sp 20 [5,6,7,8,9,10,11,12,13,14,15,1,2,18,19]⟩
  rintro _ w ⟨bx,O,rfl,j⟩
  refine aG (RC.region (mv aw (mv (vi al) (mv ax (RL.aY 10 (vp aa 0) j BL (mv (vi aq) ?_))))))
  have j:=(j.pull 12).pull 12
  obtain⟨b7,c9,hb⟩:=bd hb
  refine RL.call zt zr En [(vp aa 0),(vi aq)] zr (aF (f9 N (p1:=aq) j c9) ?_)
  rintro _ w ⟨da,rfl,j⟩
  refine RL.pr 15 b7.1 zt j wm ?_
  obtain⟨du,bz,hb⟩:=bd hb
  refine RL.bQ 16 j zr zr eJ bz ?_
  have j:=j.sc Int (dH bg.2 b7.1 (0:Int))
  refine RL.gE (f:=(fun _ y=>y)) 17 0 j (jG 17 j bz 0) (bB bz).2.1 zr Fs.self cQ fun w j=>?_
  refine RL.nil (bK (aG (RC.region (RL.inc hk hm (mv (vi ((al+1:Nat):Int)) (RL.nil ?_))))))
  obtain rfl:=oi hb
  exact⟨rfl,da,j.sp 18 [3,4,5,6,7,8,9,10,11,12,13,1,2,16,17]⟩
 rintro _ w ⟨bq,O,rfl,j⟩
 refine aG (RC.sr (mv aw (aK aw (RL.nt (RC.ret ?_)))))
 obtain rfl:=oi hb
 exact cL (j.pk 15 [14,0])
def uT (E:World) (V:List HP) (res:Bool×Int) (v:Value) (w:World):Prop:=v = .tuple #[(vb res.1),(vi res.2)]/\Holds E w V
theorem tE {p0:gU} {p1: (List aT)} {p2 p3:fW} {res:Bool×Int} (j:Holds E w V) (h0:V[i0]? =some (rd v0 p0)) (h1:V[i1]? =some (rd v1 p1)) (h2:V[i2]? =some (rd v2 p2)) (h3:V[i3]? =some (rd v3 p3)) (o:ir N p0 p1 p2 p3=some res):
    Calls bF 29 [v0,v1,v2,v3].toArray w (gI (uT E V res)):=by
 unfold ir at o
 refine enter Tryz.func29 zr zr ?_
 have j:=(((j.dup (i0+0) h0).dup (i1+1) h1).dup (i2+2) h2).dup (i3+3) h3
 refine RC.sr (RL.dB 3 v0 j zr fun a6 w j=>?_)
 have j:=j.gJ (i:=0) rfl
 refine RL.dB 2 v2 j zr fun a7 w j=>?_
 have j:=j.gJ (i:=0) rfl
 refine RL.dB 2 v3 j zr fun a8 w j=>?_
 have j:=j.gJ (i:=0) rfl
 refine aK (vb false) (aK (vi 0) (RL.ns (RL.bV 2 p0 j nF fun aw j=>?_)))
 obtain⟨ab,ax,o⟩:=bd o
 refine RL.call zt zr Hk [aw] zr (aF (mj N (i0:=0) j zr ax) ?_)
 rintro _ w hK51
 rcases aj:ab.1 with _ | a9
 ·replace o:=Fi aj o
  obtain⟨rfl,j⟩:=Bj aj hK51
  refine mv (.tuple #[(.pointer none),(vi ab.2)]) (RL.extract (.pointer none) (RL.extract (vi ab.2) (aK (.pointer none) (aK (vi ab.2) (RL.nq (RC.sr (mv (vi ab.2) (ic ab.2 0 ?_))))))))
  refine RL.nt (eQ o (fun hc o=>?_) fun hc o=>?_)
  rotate_left
  ·cases o
  refine RC.sr (mv (vi ab.2) (aK (vb false) (aK (vi ab.2) (RL.nt (RC.rt ?_)))))
  obtain rfl:=oi o
  exact i5 ⟨rfl,j.drop 8⟩
 replace o:=Fj aj o
 obtain⟨ah,ba,bb,bc,bf,bg,bh,bj,bk,bl,bm,bn,bo,rfl,j⟩:=Bl aj hK51
 refine mv (.tuple #[(vp ah 0),(vi ab.2)]) (RL.extract (vp ah 0) (RL.extract (vi ab.2) (aK (vp ah 0) (aK (vi ab.2) (RL.nq (RC.sr (mv (vi ab.2) (ic ab.2 0 ?_))))))))
 refine RL.nt (eQ o (fun hc o=>?_) fun hc o=>?_)
 ·refine RC.sr (mv (vi ab.2) (aK (vb false) (aK (vi ab.2) (RL.nt (RC.rt ?_)))))
  obtain rfl:=oi o
  exact i5 ⟨rfl,j.drop 21⟩
 refine RC.ss (RC.sr (mv (vp ah 0) (mv v1 ?_)))
 have j:=((((((((((((j.freeze 5).freeze 8).freeze 11).freeze 12).dup 12 rfl).dup 12 rfl).dup 12 rfl).dup 12 rfl).dup 12 rfl).dup 12 rfl).dup 12 rfl).dup 12 rfl).dup 12 rfl
 have j:=(((j.dup 12 rfl).dup 12 rfl).dup 12 rfl).pull 12
 obtain⟨ai,ay,o⟩:=bd o
 refine RL.call zt zr L4 [(vp ah 0),v1] zr (aF (sW N (i1:=19) j zr ay) ?_)
 rintro _ w ⟨rfl,j⟩
 refine aK (vi ai) (RL.ns (mv (vi ai) (ic ai 0 (RL.nt (eQ o (fun hc o=>?_) fun hc o=>?_)))))
 ·refine RC.sr (mv (vi ai) (aK (vb false) (aK (vi ai) (RL.nt (RC.rt ?_)))))
  obtain rfl:=oi o
  exact i5 ⟨rfl,j.drop 22⟩
 refine RC.ss (RC.yC mixed [0,0,2,1,1,2,0,0] [0,1,3,4,2,5,6,7] ?_)
 have j:=j.drew
 refine DP.e0 zr (RL.bV 17 p0 j nF fun az j=>(cB zr (RL.bV 17 p2 j oH fun a0 j=>(DP.d0 (DP.wJ p0 19 zr j nF fun a1 a56 bp j=>(DP.wJ p3 19 zr j oH fun a2 a59 bq j=>(DP.e2 zr ?_)))))))
 obtain⟨ad,a3,o⟩:=bd o
 refine RL.call zt zr BJ [az,a0] zr (aF (ga N (i0:=5) (i1:=4) j zr zr a3) ?_)
 rintro _ w ⟨rfl,j⟩
 refine DP.d2 (⟨⟨zt,j.j9 2⟩,j.j9 0⟩) (DP.e2 zr ?_)
 obtain⟨af,a4,o⟩:=bd o
 refine RL.call zt zr BJ [a1,a2] zr (aF (ga N (i0:=3) (i1:=1) j zr zr a4) ?_)
 rintro _ w ⟨rfl,j⟩
 refine DP.d2 (⟨⟨zt,j.j9 2⟩,j.j9 0⟩) (DP.e0 zr (aK (vi ad) (cB zr (aK (vi af) (DP.d0 ?_)))))
 have j:=j.pl 28 [1,3,4,5,6,7,8,9,10,11,12,13,14,15,16,17,18,19,20,21,22,23,24,25,26,27]
 refine DP.z (aG (RC.seq (RC.sr (mv (vi ad) (ic ad 0 (mv (vb (decide (ad<0))) (RL.gs true (decide (ad<0)) (vi af) rfl rfl rfl dW (RL.gs true (decide (ad<0)) (vb (decide (af<0))) rfl rfl rfl (eE .lss .i64 af 0 rfl (fun h=>by exact(cV h:cv (true&&((decide (ad<0))==false)) (vi af)= (vi af))) (fun _=>rfl) rfl) ?_))))))))
 refine RL.pick (decide (ad<0)) (vb ((decide (ad<0))||(decide (af<0)))) (nS true zr) (RL.nt (eQ o (fun hc o=>?_) fun hc o=>?_))
 ·refine RC.sr (aK (vb false) (aK (vi 9) (RL.nt (RC.rt ?_))))
  obtain rfl:=oi o
  exact i5 ⟨rfl,j.drop 26⟩
 refine RC.sx (mv (vp ah 0) (mv v1 ?_))
 have j:=((((((j.dup 17 rfl).dup 17 rfl).dup 14 rfl).dup 14 rfl).dup 13 rfl).dup 13 rfl).pull 10
 obtain⟨br,a5,o⟩:=bd o
 refine RL.call zt zr Ep [(vp ah 0),v1] zr (aF (iJ N (i1:=24) j zr a5) ?_)
 rintro ak w j
 refine aK ak (RL.nq ?_)
 obtain⟨al,hj,o⟩:=bd o
 refine RC.jn (fun(al:Bool)=>SH E V [(8,vb al),(9,vi 0)] []) al ?_ ?_
 ·refine RC.xv mixed ?_
  have j:=j.drew
  refine RO.go (mv ak (RO.nx (mv (vi ad) (RO.nx ?_))))
  obtain⟨av,an,hj⟩:=bd hj
  refine RL.bQ 0 j zr zr eJ an (RO.nx (RL.dL (f:=(fun x=>x)) 0 j (jG 0 j an 0) (bB an).2.1 Fd.self cQ (RO.nx (ic av 0 (RO.nx (mv (vb (decide (av>=0))) (fM hj (fun aa hj=>?_) fun aa hj=>?_)))))))
  rotate_left
  ·refine RO.nx (bO aa (RO.nx (bO aa (RO.nx (bO aa (RO.nx (bO aa (RO.nx ?_))))))))
   refine bO aa (RO.nx (bO aa (RO.nx (bO aa (RO.nx (bO aa (RO.nx (bO aa ?_))))))))
   refine RO.nx (fJ aa (vb false) (RO.nx (aK (vb false) (RO.nx (aK (vi 0) (RO.last ?_))))))
   obtain rfl:=oi hj
   exact⟨rfl,j.sp 28 []⟩
  refine RO.nx (RL.move ak (cg aa) (RO.nx (RL.move (vi ad) (cg aa) (RO.nx ?_))))
  obtain⟨ao,aq,hj⟩:=bd hj
  refine RL.bQ (hg:=(cg aa)) 0 j zr zr eJ aq (RO.nx (RL.dL (hg:=(cg aa)) (f:=(fun x=>x)) 0 j (jG 0 j aq 0) (bB aq).2.1 Fd.self cQ (RO.nx (RL.move ak (cg aa) (RO.nx (RL.move (vi af) (cg aa) (RO.nx ?_)))))))
  obtain⟨ar,au,hj⟩:=bd hj
  refine RL.bQ (hg:=(cg aa)) 0 j zr zr eJ au (RO.nx (RL.dL (hg:=(cg aa)) (f:=(fun x=>x)) 0 j (jG 0 j au 0) (bB au).2.1 Fd.self cQ (RO.nx (RL.i7 ao ar (cg aa) (RO.nx (fJ aa (vb (ao==ar)) (RO.nx (aK (vb (ao==ar)) ?_))))))))
  refine RO.nx (aK (vi 0) (RO.last ?_))
  obtain rfl:=oi hj
  exact⟨rfl,j.sp 28 []⟩
 rintro _ w ⟨O,rfl,j⟩
 refine aG (RC.ret ?_)
 obtain rfl:=oi o
 exact i5 ⟨rfl,j.drop 0⟩
theorem gh {res:Bool} (j:Holds E w V) (hb:dP N=some res):
    Calls bF 10 [].toArray w (gI (bE E V res)):=by
 unfold dP at hb
 refine enter Tryz.func10 zr zr (RC.sr (aK (vb false) (RL.ns ?_)))
 have j:=(j.sc Int 1).sc Int 1
 refine RL.build (⟨0,0,1,1⟩:aI) trivial rfl j [(2,vi 1),(3,vi 1)] rfl CL rfl (fun M hs g=>by have h:=rk M;exact cO.cons (f:=fun(x:aI) y=>{x with X1:=y}) h nO (g.sat 1 _ rfl).1 fun _ h=>cO.cons (f:=fun(x:aI) y=>{x with Y1:=y}) h pA (g.sat 0 _ rfl).1 fun _ h=>cO.nil h) fun ae j=>?_
 refine RL.dS ([(⟨0,0,1,1⟩:aI)]: (List aI)) j [ae] kH mI (fun M hs g=>⟨(g.sat 0 _ zr).1,zt⟩) fun af w j=>?_
 have j:=j.freeze 0
 refine RL.dS ([([(⟨0,0,1,1⟩:aI)]: (List aI))]: (List (List aI))) j [af] CK J7 (fun M hs g=>⟨(g.sat 0 _ zr).1,zt⟩) fun ad w j=>?_
 have j:=(j.sc dA ⟨[97]⟩).sc dA ⟨[49]⟩
 refine RL.build (⟨⟨[97]⟩,⟨[49]⟩,0,⟨0,0⟩⟩:cU) trivial rfl j [(0,(str ⟨[97]⟩)),(1,(str ⟨[49]⟩))] rfl LZ rfl (fun M hs g=>by have h:=II M;exact cO.cons (f:=fun(x:cU) y=>{x with Part:=y}) h Ea (g.sat 1 _ rfl).1 fun _ h=>cO.cons (f:=fun(x:cU) y=>{x with fW:=y}) h Eb (g.sat 0 _ rfl).1 fun _ h=>cO.nil h) fun ag j=>?_
 refine RL.dS ([(⟨⟨[97]⟩,⟨[49]⟩,0,⟨0,0⟩⟩:cU)]: (List cU)) j [ag] El IK (fun M hs g=>⟨(g.sat 0 _ zr).1,zt⟩) fun aa w j=>(RL.Fb (zs:=[(.slice none 0 0),(.slice none 0 0),(.slice none 0 0),(.slice none 0 0)]) (cs:=[ad,(.slice none 0 0),(.slice none 0 0),aa]) zt zr [(0,ad),(3,aa)] zr L0 ⟨(iB 4 j),(iB 0 j),zt⟩ zr (RL.alloc j L1.z fun al w j=>?_))
 have j:=((((j.freeze 5).qY aI).qY bW).freeze 3).z9 (cs:=[ad,(.slice none 0 0),(.slice none 0 0),aa]) (x:=(⟨([([(⟨0,0,1,1⟩:aI)]: (List aI))]: (List (List aI))),([]: (List aI)),([]: (List bW)),([(⟨⟨[97]⟩,⟨[49]⟩,0,⟨0,0⟩⟩:cU)]: (List cU))⟩:gU)) (fun M hs g=>⟨[ad],[(.slice none 0 0),(.slice none 0 0),aa],rfl,(lh (g.sat 7 _ rfl).1),⟨[(.slice none 0 0)],[(.slice none 0 0),aa],rfl,(lh (g.sat 1 _ rfl).1),⟨[(.slice none 0 0)],[aa],rfl,(lh (g.sat 0 _ rfl).1),(lh (g.sat 3 _ rfl).1)⟩⟩⟩) rfl
 refine RL.bA 3 j 0 zr nF fun w j=>?_
 refine RL.ns (RL.aP (f:=(fun x=>x)) 3 j zr Fd.self nF fun ah j=>?_)
 have j:=(j.sc dA ⟨[97]⟩).sc dA ⟨[49]⟩
 refine RL.build (⟨⟨[97]⟩,⟨[49]⟩⟩:fW) trivial rfl j [(0,(str ⟨[97]⟩)),(1,(str ⟨[49]⟩))] rfl IL rfl (fun M hs g=>by have h:=FB M;exact cO.cons (f:=fun(x:fW) y=>{x with Part:=y}) h xB (g.sat 1 _ rfl).1 fun _ h=>cO.cons (f:=fun(x:fW) y=>{x with fW:=y}) h xC (g.sat 0 _ rfl).1 fun _ h=>cO.nil h) fun ai j=>?_
 have j:=(j.sc dA ⟨[97]⟩).sc dA ⟨[49]⟩
 refine RL.build (⟨⟨[97]⟩,⟨[49]⟩⟩:fW) trivial rfl j [(0,(str ⟨[97]⟩)),(1,(str ⟨[49]⟩))] rfl IL rfl (fun M hs g=>by have h:=FB M;exact cO.cons (f:=fun(x:fW) y=>{x with Part:=y}) h xB (g.sat 1 _ rfl).1 fun _ h=>cO.cons (f:=fun(x:fW) y=>{x with fW:=y}) h xC (g.sat 0 _ rfl).1 fun _ h=>cO.nil h) fun aj j=>?_
 have j:=j.qY aT
 obtain⟨o,ak,hb⟩:=bd hb
 refine RL.call zt zr L5 [ah,(.slice none 0 0),ai,aj] zr (aF (tE N (i0:=7) (i1:=0) (i2:=4) (i3:=1) j zr zr zr zr ak) ?_)
 rintro _ w ⟨rfl,j⟩
 refine mv (.tuple #[(vb o.1),(vi o.2)]) (RL.extract (vb o.1) (RL.extract (vi o.2) (aK (vb o.1) (aK (vi o.2) (RL.ns (mv (vi o.2) (ic o.2 0 (mv (vb (o.2==0)) ?_))))))))
 refine RL.gs true (o.2==0) (vb o.1) zr zr zr dW (RL.pick (o.2==0) (vb ((o.2==0)&&o.1)) (i6 true) (aK (vb ((o.2==0)&&o.1)) (RL.nt (RC.ret ?_))))
 obtain rfl:=oi hb
 exact cL ⟨rfl,j.drop 21⟩
def yQ (E:World) (V:List HP) (b0:Nat) (v0_0 v0_1:Value) (v0_2 v0_3:Value) (v0_4 v0_5:Value) (v0_6 v0_7:Value) (v0_8 v0_9:Value) (v0_10 v0_11:Value) (res: (List Bool)) (v:Value) (w:World):Prop:=Holds E w ([own 4 v res,bc 126 b0 [v0_0,v0_1,v0_2,v0_3,v0_4,v0_5,v0_6,v0_7,v0_8,v0_9,v0_10,v0_11]]++V)
theorem rK {p0_0: (List (List aI))} {p0_1: (List aI)} {p0_2: (List bW)} {p0_3: (List cU)} {p0_5: (List aH)} {p0_6: (List (List Int))} {p0_10: (List Int)} {p0_11: (List dQ)} {p1: (List Test)} {p2: (List aT)} {res: (List Bool)} (j:Holds E w (bc 126 b0 [v0_0,v0_1,v0_2,v0_3,v0_4,v0_5,v0_6,v0_7,v0_8,v0_9,v0_10,v0_11]::rd v0_0 p0_0::rd v0_1 p0_1::rd v0_2 p0_2::rd v0_3 p0_3::rd v0_5 p0_5::rd v0_6 p0_6::rd v0_10 p0_10::rd v0_11 p0_11::V)) (h1:V[i1]? =some (rd v1 p1)) (h2:V[i2]? =some (rd v2 p2)) (hb:jP N p0_0 p0_1 p0_2 p0_3 p0_5 p0_6 p0_10 p0_11 p1 p2=some res):
    Calls bF 31 [(vp b0 0),v1,v2].toArray w (gI (yQ E V b0 v0_0 v0_1 v0_2 v0_3 v0_4 v0_5 v0_6 v0_7 v0_8 v0_9 v0_10 v0_11 res)):=by
 unfold jP at hb
 refine enter Tryz.func31 zr zr ?_
 have j:=(j.dup (i1+9) h1).dup (i2+10) h2
 refine RC.sr (aK (.slice none 0 0) (RL.ns (mv (vp b0 0) (mv v2 ?_))))
 have j:=((((((j.dup 10 rfl).dup 10 rfl).dup 10 rfl).dup 10 rfl).dup 10 rfl).dup 10 rfl).pull 8
 obtain⟨au,bf,hb⟩:=bd hb
 refine RL.call zt zr Ep [(vp b0 0),v2] zr (aF (iJ N (i1:=0) j zr bf) ?_)
 rintro ah w j
 refine aK ah (RL.ns (aK (.slice none 0 0) (RL.nq (RC.sr (mv v1 (RL.bD 3 p1 j FP (mv (vi 0) (RL.nt ?_))))))))
 obtain⟨ai,hN,hb⟩:=bd hb
 refine RC.fold (fun(ak:Nat) (ai: (List Bool)) U w=>∃a6:Value,SH E V [(0,vp b0 0),(7,ah),(8,a6),(16,v1),(17,vi p1.length),(18,vi ak)] [bc 126 b0 [v0_0,v0_1,v0_2,v0_3,v0_4,v0_5,v0_6,v0_7,v0_8,v0_9,v0_10,v0_11],rd v0_0 p0_0,rd v0_1 p0_1,rd v0_2 p0_2,rd v0_3 p0_3,rd v0_5 p0_5,rd v0_6 p0_6,rd v0_10 p0_10,rd v0_11 p0_11,own 3 ah au,rd v1 p1,own 4 a6 ai] U w) (fun(ai: (List Bool)) U w=>∃an:Value,SH E V [(0,vp b0 0),(8,an)] [bc 126 b0 [v0_0,v0_1,v0_2,v0_3,v0_4,v0_5,v0_6,v0_7,v0_8,v0_9,v0_10,v0_11],rd v0_0 p0_0,rd v0_1 p0_1,rd v0_2 p0_2,rd v0_3 p0_3,rd v0_5 p0_5,rd v0_6 p0_6,rd v0_10 p0_10,rd v0_11 p0_11,own 3 ah au,rd v1 p1,own 4 an ai] U w) hN ?_ ?_ ?_ ?_
 ·have j:=j.cH Bool 4
  exact⟨(.slice none 0 0),j.sp 14 [2,6,7,8,9,10,11,12,13,1,4,0]⟩
 ·rintro hm ai _ w ⟨bh,O,rfl,j⟩
  refine RC.sr (ic ((p1.length:Int)) ((p1.length:Int)) (RL.nq (RC.cN lS (RC.ex ?_))))
  exact⟨rfl,bh,j.sp 12 [0,1,2,3,4,5,6,7,8,9,10,11]⟩
 ·rintro hm ak ai s' _ w hk ⟨av,O,rfl,j⟩ hb
  refine RC.sr (ic ((ak:Int)) ((p1.length:Int)) (RL.nq (RC.cM (lR hk) (RC.ss (RC.bs ?_)))))
  obtain⟨al,bj,hb⟩:=bd hb
  refine RL.cC 10 j FQ bj fun bk j=>(RL.bV 0 al j yL fun bl j=>(RL.alloc j IV.z fun aw w j=>?_))
  refine RL.bA 0 j 1 zr yL fun w j=>?_
  refine RL.nq ?_
  obtain⟨ax,bm,hb⟩:=bd hb
  obtain⟨a1,bn,hb⟩:=bd hb
  refine RC.Ds E V mixed [1,1,1,0,1,0,0,1,1,1,0,1,0,0,1,1] [5,12] (fun(x:Value×Value)=>(fun ae af=>[(0,22,(vp b0 0)),(1,23,(vp b0 0)),(2,24,(vp b0 0)),(3,25,(.agg ([v0_0,v0_1,v0_2,v0_3]:List Value).toArray)),(4,26,(vp aw 0)),(5,27,ae),(6,28,(vi ax)),(7,29,(vp b0 0)),(8,30,(vp b0 0)),(9,31,(vp b0 0)),(10,32,(.agg ([v0_0,v0_1,v0_2,v0_3]:List Value).toArray)),(11,33,(vp aw 2)),(12,34,af),(13,35,(vi a1)),(14,11,(vi ax)),(15,12,(vi a1))]) x.1 x.2) [(0,vp b0 0),(7,ah),(8,av),(10,vp aw 0),(16,v1),(17,vi p1.length),(18,vi ak)] [] (fun(D:Nat->Bool) (x:Value×Value)=>(fun ae af=>[bif D 0 then (rd ae al.A) else aX,bif D 1 then (rd af al.B) else aX,bx 53 aw al,rd bl al,pt bk al,bc 126 b0 [v0_0,v0_1,v0_2,v0_3,v0_4,v0_5,v0_6,v0_7,v0_8,v0_9,v0_10,v0_11],rd v0_0 p0_0,rd v0_1 p0_1,rd v0_2 p0_2,rd v0_3 p0_3,rd v0_5 p0_5,rd v0_6 p0_6,rd v0_10 p0_10,rd v0_11 p0_11,own 3 ah au,rd v1 p1,own 4 av ai]) x.1 x.2) (fun x=>by kernel_rfl) ?_ ⟨fun _=>iT gn,fun _=>wI gn,fun _=>mu gn kp,?_,fun _=>mu gn tp,?_,?_,fun _=>iT gn,fun _=>wI gn,fun _=>mu gn kp,?_,fun _=>mu gn tq,?_,?_,fun _=>ID gn rfl,fun _=>ID gn rfl,trivial⟩ ?_
  ·have j:=((j.drew).aX).aX
   exact⟨(undef,undef),dX.none,(Cr zr),zt,j⟩
  ·rintro D U w hD ad ao ⟨⟨ae,af⟩,o,ha,_,j⟩
   obtain⟨O,rfl⟩:=(ac (o.at 2 rfl (ad.1 rfl)) az).eT
   refine RL.Bn (cs:=[v0_0,v0_1,v0_2,v0_3]) 5 zt zr j zr zr nF zr zr ?_
   exact RL.nil ⟨rfl,(ae,af),o.pu 3,ha.u,zt,j⟩
  ·rintro D U w hD ad ao ⟨⟨ae,af⟩,o,ha,_,j⟩
   obtain⟨O,rfl⟩:=(ac (o.at 4 rfl (ad.1 rfl)) az).eT
   have j:=j.bN 0 hD
   refine RL.aP 2 j zr mF oH fun bo j=>?_
   have j:=(j.pl 18 [0,2,3,4,5,6,7,8,9,10,11,12,13,14,15,16,17]).cG 0 true aX
   exact RL.nil ⟨rfl,(bo,af),o.pu 5,ha.u,zt,j⟩
  ·rintro D U w hD ad ao ⟨⟨ae,af⟩,o,ha,_,j⟩
   obtain⟨O,rfl⟩:=(ac (o.at 3 rfl (ad.1 rfl)) (ac (o.at 5 rfl (ad.2.1 rfl)) az)).eT
   have j:=(j.cF 0 (ad.2.1 rfl)).z9 (cs:=[v0_0,v0_1,v0_2,v0_3]) (x:=(⟨p0_0,p0_1,p0_2,p0_3⟩:gU)) (fun M hs g=>⟨[v0_0],[v0_1,v0_2,v0_3],rfl,(lh (g.sat 6 _ rfl).1),⟨[v0_1],[v0_2,v0_3],rfl,(lh (g.sat 7 _ rfl).1),⟨[v0_2],[v0_3],rfl,(lh (g.sat 8 _ rfl).1),(lh (g.sat 9 _ rfl).1)⟩⟩⟩) rfl
   refine RL.call zt zr BJ [(.agg ([v0_0,v0_1,v0_2,v0_3]:List Value).toArray),ae] zr (aF (ga N (i0:=0) (i1:=1) j zr zr bm) ?_)
   rintro _ w ⟨rfl,j⟩
   have j:=(j.pl 18 [1,2,3,4,5,6,7,8,9,10,11,12,13,14,15,16,17]).cG (hb:=ad.2.1 rfl) 0 (D 5) aX
   exact RL.nil ⟨rfl,(ae,af),o.pu 6,ha.u,zt,j⟩
  ·rintro D U w hD ad ao ⟨⟨ae,af⟩,o,ha,_,j⟩
   obtain⟨O,rfl⟩:=(ac (o.at 9 rfl (ad.1 rfl)) az).eT
   refine RL.Bn (cs:=[v0_0,v0_1,v0_2,v0_3]) 5 zt zr j zr zr nF zr zr ?_
   exact RL.nil ⟨rfl,(ae,af),o.pu 10,ha.u,zt,j⟩
  ·rintro D U w hD ad ao ⟨⟨ae,af⟩,o,ha,_,j⟩
   obtain⟨O,rfl⟩:=(ac (o.at 11 rfl (ad.1 rfl)) az).eT
   have j:=j.bN 1 hD
   refine RL.aP 2 j zr mG oH fun bp j=>?_
   have j:=(j.pl 18 [1,0,3,4,5,6,7,8,9,10,11,12,13,14,15,16,17]).cG 1 true aX
   exact RL.nil ⟨rfl,(ae,bp),o.pu 12,ha.u,zt,j⟩
  ·rintro D U w hD ad ao ⟨⟨ae,af⟩,o,ha,_,j⟩
   obtain⟨O,rfl⟩:=(ac (o.at 10 rfl (ad.1 rfl)) (ac (o.at 12 rfl (ad.2.1 rfl)) az)).eT
   have j:=(j.cF 1 (ad.2.1 rfl)).z9 (cs:=[v0_0,v0_1,v0_2,v0_3]) (x:=(⟨p0_0,p0_1,p0_2,p0_3⟩:gU)) (fun M hs g=>⟨[v0_0],[v0_1,v0_2,v0_3],rfl,(lh (g.sat 6 _ rfl).1),⟨[v0_1],[v0_2,v0_3],rfl,(lh (g.sat 7 _ rfl).1),⟨[v0_2],[v0_3],rfl,(lh (g.sat 8 _ rfl).1),(lh (g.sat 9 _ rfl).1)⟩⟩⟩) rfl
   refine RL.call zt zr BJ [(.agg ([v0_0,v0_1,v0_2,v0_3]:List Value).toArray),af] zr (aF (ga N (i0:=0) (i1:=2) j zr zr bn) ?_)
   rintro _ w ⟨rfl,j⟩
   have j:=(j.pl 18 [1,2,3,4,5,6,7,8,9,10,11,12,13,14,15,16,17]).cG (hb:=ad.2.1 rfl) 1 (D 12) aX
   exact RL.nil ⟨rfl,(ae,af),o.pu 13,ha.u,zt,j⟩
  rintro D U w ay ⟨⟨ae,af⟩,o,ha,_,j⟩
  have j:=(j.cF 0 (jk ay 5)).cF 1 (jk ay 12)
  obtain⟨O,rfl⟩:=(ac (o.at 14 rfl (jk ay 14)) (ac (o.at 15 rfl (jk ay 15)) (ac (ha.at 0 rfl) (ac (ha.at 1 rfl) (ac (ha.at 2 rfl) (ac (ha.at 3 rfl) (ac (ha.at 4 rfl) (ac (ha.at 5 rfl) (ac (ha.at 6 rfl) az))))))))).eT
  refine aG ?_
  obtain⟨a2,hj,hb⟩:=bd hb
  refine RC.jn (fun(a2: (List Bool)) U w=>∃a0:Value,SH E V [(0,vp b0 0),(7,ah),(8,a0),(16,v1),(17,vi p1.length),(18,vi ak)] [bc 126 b0 [v0_0,v0_1,v0_2,v0_3,v0_4,v0_5,v0_6,v0_7,v0_8,v0_9,v0_10,v0_11],rd v0_0 p0_0,rd v0_1 p0_1,rd v0_2 p0_2,rd v0_3 p0_3,rd v0_5 p0_5,rd v0_6 p0_6,rd v0_10 p0_10,rd v0_11 p0_11,own 3 ah au,rd v1 p1,own 4 a0 a2] U w) a2 ?_ ?_
  ·refine RC.yC mixed [1,0,0,0,0,0,0,0,0,0,0,0,0,0,0,0,0,2,2,0] [0,1,2,3,4,5,6,7,8,9,10,11,12,13,14,15,16,17,18,19] ?_
   have j:=j.drew
   refine DP.e1 av zr (fun w=>RL.move av zt DP.d1) (DP.e0 zr (mv ah (cB zr (mv (vi ax) (cB zr ?_)))))
   obtain⟨a9,a3,hj⟩:=bd hj
   refine RL.bQ 14 j zr zr eJ a3 (cB zr (RL.dL (f:=(fun x=>x)) 14 j (jG 14 j a3 0) (bB a3).2.1 Fd.self cQ (cB zr (ic a9 0 (cB zr (mv (vb (decide (a9>=0))) (DP.d0 (fM hj (fun aa hj=>?_) fun aa hj=>?_))))))))
   rotate_left
   ·refine DP.e0 zr (bO aa (cB zr (bO aa (cB zr (bO aa (cB zr (bO aa (cB zr ?_))))))))
    refine bO aa (cB zr (bO aa (cB zr (bO aa (cB zr (bO aa (cB zr (bO aa ?_))))))))
    refine cB zr (fJ aa (vb false) (um zr ?_))
    have j:=j.sc Bool false
    refine RL.dS ([false]: (List Bool)) j [(vb false)] FT Mz (fun M hs g=>⟨(g.sat 0 _ zr).1,zt⟩) fun bt w j=>(Hd zr ?_)
    have j:=j.freeze 0
    obtain⟨bu,bq,hj⟩:=bd hj
    refine RL.app 18 0 j KB bq fun ba w j=>?_
    refine yD zr (aK ba (DP.d0 (DP.z ?_)))
    obtain rfl:=oi hj
    exact⟨rfl,ba,j.sp 19 [7,8,9,10,11,12,13,14,15,16,17,18]⟩
   refine DP.e0 zr (RL.move ah (cg aa) (cB zr (RL.move (vi ax) (cg aa) (cB zr ?_))))
   obtain⟨aq,a4,hj⟩:=bd hj
   refine RL.bQ (hg:=(cg aa)) 14 j zr zr eJ a4 (cB zr (RL.dL (hg:=(cg aa)) (f:=(fun x=>x)) 14 j (jG 14 j a4 0) (bB a4).2.1 Fd.self cQ (cB zr (RL.move ah (cg aa) (cB zr (RL.move (vi a1) (cg aa) (cB zr ?_)))))))
   obtain⟨ar,a5,hj⟩:=bd hj
   refine RL.bQ (hg:=(cg aa)) 14 j zr zr eJ a5 (cB zr (RL.dL (hg:=(cg aa)) (f:=(fun x=>x)) 14 j (jG 14 j a5 0) (bB a5).2.1 Fd.self cQ (cB zr (RL.i7 aq ar (cg aa) (cB zr (fJ aa (vb (aq==ar)) (um zr ?_)))))))
   have j:=j.sc Bool (aq==ar)
   refine RL.dS ([(aq==ar)]: (List Bool)) j [(vb (aq==ar))] FT Mz (fun M hs g=>⟨(g.sat 0 _ zr).1,zt⟩) fun bw w j=>(Hd zr ?_)
   have j:=j.freeze 0
   obtain⟨bz,br,hj⟩:=bd hj
   refine RL.app 18 0 j KB br fun bb w j=>?_
   refine yD zr (aK bb (DP.d0 (DP.z ?_)))
   obtain rfl:=oi hj
   exact⟨rfl,bb,j.sp 19 [7,8,9,10,11,12,13,14,15,16,17,18]⟩
  rintro _ w ⟨a0,O,rfl,j⟩
  refine bK (aG (RC.region (RL.inc hk hm (mv (vi ((ak+1:Nat):Int)) (RL.nil ?_)))))
  obtain rfl:=oi hb
  exact⟨rfl,a0,j.sp 12 [0,1,2,3,4,5,6,7,8,9,10,11]⟩
 rintro _ w ⟨an,O,rfl,j⟩
 refine aG (RC.sr (mv an (aK an (RL.nt (RC.ret ?_)))))
 obtain rfl:=oi hb
 exact cL (j.pk 12 [11,0])
def sX (E:World) (V:List HP) (r:Bool) (U:Nat->Value) (w:World):Prop:=l5 bF 26 Tryz.f14 (bE E V r) .ret U w
theorem m5 {p0: (List Bool)} {p1: (List Bool)} {res:Bool} (j:Holds E w V) (h0:V[i0]? =some (rd v0 p0)) (h1:V[i1]? =some (rd v1 p1)) (o:hU N p0 p1=some res):
    Calls bF 14 [v0,v1].toArray w (gI (bE E V res)):=by
 unfold hU at o
 refine enter Tryz.func14 zr zr ?_
 have j:=(j.dup (i0+0) h0).dup (i1+1) h1
 refine RC.sr (aK (vb false) (RL.nq (RC.sr (mv v0 (RL.bD 1 p0 j Hm (mv v1 (RL.bD 0 p1 j Hm (ic ((p0.length:Int)) ((p1.length:Int)) ?_))))))))
 refine RL.nt (eQ o (fun hc o=>?_) fun hc o=>?_)
 ·refine RC.sr (aK (vb false) (RL.nt (RC.rt ?_)))
  obtain rfl:=oi o
  exact cL ⟨rfl,j.drop 2⟩
 refine RC.ss (RC.sr (mv v0 (RL.bD 1 p0 j Hm (mv (vi 0) (RL.nt ?_)))))
 obtain⟨an,hN,o⟩:=bd o
 refine RC.range (fun(aa:Nat) (ab:Unit)=>SH E V [(0,v0),(1,v1),(12,vi p0.length),(13,vi aa)] [rd v0 p0,rd v1 p1]) (fun(ab:Unit)=>SH E V [] [rd v0 p0,rd v1 p1]) (sX E V) hN ?_ ?_ ?_ ?_ ?_
 ·exact j.sp 2 [1,0]
 ·rintro hm ab _ w ⟨O,rfl,j⟩
  refine RC.sr (ic ((p0.length:Int)) ((p0.length:Int)) (RL.nq (RC.cN lS (RC.ex ?_))))
  exact⟨rfl,j.sp 2 [0,1]⟩
 ·rintro hm aa ab fl _ w hk ⟨O,rfl,j⟩ o
  refine RC.sr (ic ((aa:Int)) ((p0.length:Int)) (RL.nq (RC.cM (lR hk) (RC.ss (RC.bs (mv (vi aa) (aK (vi aa) (RL.nq ?_))))))))
  refine RC.xv mixed ?_
  have j:=j.drew
  refine RO.go (mv v0 (RO.nx (mv (vi aa) (RO.nx ?_))))
  obtain⟨ag,aj,o⟩:=bd o
  refine RL.cC 0 j FT aj fun aq j=>(RO.nx (RL.bI ag 0 j xK (RO.nx (mv v1 (RO.nx (mv (vi aa) (RO.nx ?_)))))))
  obtain⟨ah,ak,o⟩:=bd o
  refine RL.cC 2 j FT ak fun ar j=>(RO.nx (RL.bI ah 0 j xK (RO.nx (RL.Dk ag ah zr zr zr J3 (RO.last (aG (eQ o (fun hc o=>?_) fun hc o=>?_)))))))
  rotate_left
  ·refine RC.skip (bK (aG (RC.region (RL.inc hk hm (mv (vi ((aa+1:Nat):Int)) (RL.nil ?_))))))
   obtain rfl:=oi o
   exact⟨rfl,j.sp 4 [2,3]⟩
  refine RC.sr (aK (vb false) (RL.nt (RC.rb (bS ?_))))
  obtain rfl:=oi o
  exact⟨rfl,cL ⟨rfl,j.drop 4⟩⟩
 ·intro r U w e hK
  subst e
  refine bS ?_
  obtain rfl:=oi o
  exact hK
 rintro ab _ w rfl ⟨O,rfl,j⟩
 rw [Fo.gl] at o
 refine aG (RC.sr (aK (vb true) (RL.nt (RC.ret ?_))))
 obtain rfl:=oi o
 exact cL ⟨rfl,j.drop 2⟩
end Go.Gk
namespace Go.Gk
open Go Go.Proofs
variable (N:Nat) {E w:World} {i0 i1:Nat} {p2:Int} {v0 v1:Value} {V:List HP}
def yR (E:World) (V:List HP) (r:Bool) (U:Nat->Value) (w:World):Prop:=l5 bF 31 Tryz.f37 (bE E V r) .ret U w
theorem rL {p0: (List Int)} {p1: (List Int)} {res:Bool} (j:Holds E w V) (h0:V[i0]? =some (rd v0 p0)) (h1:V[i1]? =some (rd v1 p1)) (o:lU N p0 p1=some res):
    Calls bF 37 [v0,v1].toArray w (gI (bE E V res)):=by
 unfold lU at o
 refine enter Tryz.func37 zr zr ?_
 have j:=(j.dup (i0+0) h0).dup (i1+1) h1
 refine RC.sr (aK (vb false) (RL.nq (RC.sr (mv v0 (RL.bD 1 p0 j lM (mv (vi 0) (RL.nt ?_)))))))
 obtain⟨ar,hN,o⟩:=bd o
 refine RC.range (fun(aa:Nat) (ah:Unit)=>SH E V [(0,v0),(1,v1),(9,vi p0.length),(10,vi aa)] [rd v0 p0,rd v1 p1]) (fun(ah:Unit)=>SH E V [] [rd v0 p0,rd v1 p1]) (yR E V) hN ?_ ?_ ?_ ?_ ?_
 ·exact j.sp 2 [1,0]
 ·rintro hm ah _ w ⟨O,rfl,j⟩
  refine RC.sr (ic ((p0.length:Int)) ((p0.length:Int)) (RL.nq (RC.cN lS (RC.ex ?_))))
  exact⟨rfl,j.sp 2 [0,1]⟩
 ·rintro hm aa ah fl _ w hk ⟨O,rfl,j⟩ o
  refine RC.sr (ic ((aa:Int)) ((p0.length:Int)) (RL.nq (RC.cM (lR hk) (RC.ss (RC.bs (mv (vi aa) (aK (vi aa) (RL.nq ?_))))))))
  refine RC.xv mixed ?_
  have j:=j.drew
  refine RO.go (mv v0 (RO.nx (mv (vi aa) (RO.nx ?_))))
  obtain⟨ai,an,o⟩:=bd o
  refine RL.cC 0 j eJ an fun av j=>(RO.nx (RL.bI ai 0 j cQ (RO.nx (mv v1 (RO.nx (mv (vi aa) (RO.nx ?_)))))))
  obtain⟨ae,ao,o⟩:=bd o
  refine RL.cC 2 j eJ ao fun aw j=>(RO.nx (RL.bI ae 0 j cQ (RO.nx (aK (vi ai) (RO.nx (aK (vi ae) (RO.last (aG ?_))))))))
  refine RC.seq (RC.sr (mv (vi ai) (ic ai 0 (RL.nt ?_))))
  obtain⟨ad,hj,o⟩:=bd o
  refine RC.jn (fun(ad:Int)=>SH E V [(0,v0),(1,v1),(5,vi aa),(6,vi ad),(7,vi ae),(9,vi p0.length),(10,vi aa)] [rd v0 p0,rd v1 p1]) ad ?_ ?_
  ·refine eQ hj (fun hc hj=>?_) fun hc hj=>?_
   rotate_left
   ·refine RC.skip ?_
    obtain rfl:=oi hj
    exact⟨rfl,j.sp 4 [2,3]⟩
   refine RC.region (mv (vi aa) (aK (vi aa) (RL.nil ?_)))
   obtain rfl:=oi hj
   exact⟨rfl,j.sp 4 [2,3]⟩
  rintro _ w ⟨O,rfl,j⟩
  refine aG (RC.seq (RC.sr (mv (vi ae) (ic ae 0 (RL.nt ?_)))))
  obtain⟨ag,hj,o⟩:=bd o
  refine RC.jn (fun(ag:Int)=>SH E V [(0,v0),(1,v1),(6,vi ad),(7,vi ag),(9,vi p0.length),(10,vi aa)] [rd v0 p0,rd v1 p1]) ag ?_ ?_
  ·refine eQ hj (fun hc hj=>?_) fun hc hj=>?_
   rotate_left
   ·refine RC.skip ?_
    obtain rfl:=oi hj
    exact⟨rfl,j.sp 2 [0,1]⟩
   refine RC.region (mv (vi aa) (aK (vi aa) (RL.nil ?_)))
   obtain rfl:=oi hj
   exact⟨rfl,j.sp 2 [0,1]⟩
  rintro _ w ⟨O,rfl,j⟩
  refine aG (RC.sr (mv (vi ad) (mv (vi ag) (ic ad ag (RL.nt (eQ o (fun hc o=>?_) fun hc o=>?_))))))
  rotate_left
  ·refine RC.skip (bK (aG (RC.region (RL.inc hk hm (mv (vi ((aa+1:Nat):Int)) (RL.nil ?_))))))
   obtain rfl:=oi o
   exact⟨rfl,j.sp 2 [0,1]⟩
  refine RC.sr (aK (vb false) (RL.nt (RC.rb (bS ?_))))
  obtain rfl:=oi o
  exact⟨rfl,cL ⟨rfl,j.drop 2⟩⟩
 ·intro r U w e hK
  subst e
  refine bS ?_
  obtain rfl:=oi o
  exact hK
 rintro ah _ w rfl ⟨O,rfl,j⟩
 rw [Fo.gl] at o
 refine aG (RC.sr (aK (vb true) (RL.nt (RC.ret ?_))))
 obtain rfl:=oi o
 exact cL ⟨rfl,j.drop 2⟩
def wT (E:World) (V:List HP) (res: (List bL)×(List Bool)×Int) (v:Value) (w:World):Prop:=∃u0 u1:Value,v = .tuple #[u0,u1,(vi res.2.2)]/\Holds E w ([own 89 u0 res.1,own 4 u1 res.2.1]++V)
theorem pM {p0:gU} {p1: (List Test)} {res: (List bL)×(List Bool)×Int} (j:Holds E w V) (h0:V[i0]? =some (rd v0 p0)) (h1:V[i1]? =some (rd v1 p1)) (hb:fx N p0 p1 p2=some res):
    Calls bF 33 [v0,v1,(vi p2)].toArray w (gI (wT E V res)):=by
 unfold fx at hb
 refine enter Tryz.func33 zr zr ?_
 have j:=(j.dup (i0+0) h0).dup (i1+1) h1
 refine RC.sr (RL.dB 1 v0 j zr fun cp w j=>?_)
 refine aK (.slice none 0 0) (aK (.slice none 0 0) (aK (vi 0) (RL.ns (RL.aP (f:=(fun x=>x)) 0 j zr Fd.self nF fun b5 j=>(mv v1 ?_)))))
 obtain⟨an,b6,hb⟩:=bd hb
 refine RL.call zt zr LY [b5,v1] zr (aF (yP N (i0:=0) (i1:=2) j zr zr b6) ?_)
 rintro _ w hK49
 rcases bl:an.1 with _ | o
 ·replace hb:=Fi bl hb
  obtain⟨rfl,j⟩:=Bj bl hK49
  refine mv (.tuple #[(.pointer none),(vi an.2)]) (RL.extract (.pointer none) (RL.extract (vi an.2) (aK (.pointer none) (aK (vi an.2) (RL.nq (RC.sr (mv (vi an.2) (ic an.2 0 ?_))))))))
  refine RL.nt (eQ hb (fun hc hb=>?_) fun hc hb=>?_)
  rotate_left
  ·cases hb
  refine RC.sr (mv (vi an.2) (aK (.slice none 0 0) (aK (.slice none 0 0) (aK (vi an.2) (RL.nt (RC.rt ?_))))))
  obtain rfl:=oi hb
  have j:=(j.cH bL 89).cH Bool 4
  exact G0 zr zr zr zr ⟨(.slice none 0 0),(.slice none 0 0),zr,j.pk 6 [1,0]⟩
 replace hb:=Fj bl hb
 obtain⟨ab,ax,ay,a0,a1,a2,a3,a4,a5,a6,a7,a8,a9,rfl,j⟩:=Bl bl hK49
 refine mv (.tuple #[(vp ab 0),(vi an.2)]) (RL.extract (vp ab 0) (RL.extract (vi an.2) (aK (vp ab 0) (aK (vi an.2) (RL.nq (RC.sr (mv (vi an.2) (ic an.2 0 ?_))))))))
 refine RL.nt (eQ hb (fun hc hb=>?_) fun hc hb=>?_)
 ·refine RC.sr (mv (vi an.2) (aK (.slice none 0 0) (aK (.slice none 0 0) (aK (vi an.2) (RL.nt (RC.rt ?_))))))
  obtain rfl:=oi hb
  have j:=(j.cH bL 89).cH Bool 4
  exact G0 zr zr zr zr ⟨(.slice none 0 0),(.slice none 0 0),zr,j.pk 19 [1,0]⟩
 refine RC.sx (mv (vp ab 0) (mv (vi p2) ?_))
 have j:=((((((((((((j.freeze 5).freeze 8).freeze 11).freeze 12).dup 12 rfl).dup 12 rfl).dup 12 rfl).dup 12 rfl).dup 12 rfl).dup 12 rfl).dup 12 rfl).dup 12 rfl).dup 12 rfl
 have j:=(((j.dup 12 rfl).dup 12 rfl).dup 12 rfl).pull 12
 obtain⟨af,b7,hb⟩:=bd hb
 refine RL.call zt zr IU [(vp ab 0),(vi p2)] zr (aF (nk N (p1:=p2) j b7) ?_)
 rintro _ w ⟨aq,rfl,j⟩
 refine mv (.tuple #[aq,(vi af.2)]) (RL.extract aq (RL.extract (vi af.2) (aK aq (aK (vi af.2) (RL.nq (RC.sr (mv (vi af.2) (ic af.2 0 ?_))))))))
 refine RL.nt (eQ hb (fun hc hb=>?_) fun hc hb=>?_)
 ·refine RC.sr (mv (vi af.2) (aK (.slice none 0 0) (aK (.slice none 0 0) (aK (vi af.2) (RL.nt (RC.rt ?_))))))
  obtain rfl:=oi hb
  have j:=(j.cH bL 89).cH Bool 4
  exact G0 zr zr zr zr ⟨(.slice none 0 0),(.slice none 0 0),zr,j.pk 21 [1,0]⟩
 refine RC.sx (mv (vp ab 0) ?_)
 have j:=(((((((j.qY aT).dup 15 rfl).dup 15 rfl).dup 12 rfl).dup 12 rfl).dup 11 rfl).dup 11 rfl).pull 8
 obtain⟨cq,b8,hb⟩:=bd hb
 refine RL.call zt zr Ep [(vp ab 0),(.slice none 0 0)] zr (aF (iJ N (i1:=0) j zr b8) ?_)
 rintro bp w j
 refine aK bp (RL.ns (aK (.slice none 0 0) (RL.nq (RC.sr (mv aq (RL.dY 3 af.1 j uE (mv (vi 0) (RL.nt ?_))))))))
 obtain⟨ar,hN,hb⟩:=bd hb
 refine RC.fold (fun(bg:Nat) (ar: (List Int)×(List bL)) U w=>∃bq br:Value,SH E V [(1,v1),(9,vp ab 0),(12,bq),(13,br),(37,aq),(38,vi af.1.length),(39,vi bg)] [rd v1 p1,bc 126 ab [ax,ay,a0,a1,a2,a3,a4,a5,a6,a7,a8,a9],rd ax o.1,rd ay o.2.1,rd a0 o.2.2.1,rd a1 o.2.2.2.1,rd a2 o.2.2.2.2.1,rd a3 o.2.2.2.2.2.1,rd a4 o.2.2.2.2.2.2.1,rd a5 o.2.2.2.2.2.2.2.1,rd a6 o.2.2.2.2.2.2.2.2.1,rd a7 o.2.2.2.2.2.2.2.2.2.1,rd a8 o.2.2.2.2.2.2.2.2.2.2.1,rd a9 o.2.2.2.2.2.2.2.2.2.2.2,own 43 aq af.1,rd bq ar.1,own 89 br ar.2] U w) (fun(ar: (List Int)×(List bL)) U w=>∃bh:Value,SH E V [(1,v1),(9,vp ab 0),(13,bh)] [rd v1 p1,bc 126 ab [ax,ay,a0,a1,a2,a3,a4,a5,a6,a7,a8,a9],rd ax o.1,rd ay o.2.1,rd a0 o.2.2.1,rd a1 o.2.2.2.1,rd a2 o.2.2.2.2.1,rd a3 o.2.2.2.2.2.1,rd a4 o.2.2.2.2.2.2.1,rd a5 o.2.2.2.2.2.2.2.1,rd a6 o.2.2.2.2.2.2.2.2.1,rd a7 o.2.2.2.2.2.2.2.2.2.1,rd a8 o.2.2.2.2.2.2.2.2.2.2.1,rd a9 o.2.2.2.2.2.2.2.2.2.2.2,own 43 aq af.1,own 89 bh ar.2] U w) hN ?_ ?_ ?_ ?_
 ·have j:=(j.freeze 0).cH bL 89
  exact⟨bp,(.slice none 0 0),j.sp 23 [21,2,7,8,9,10,11,12,13,14,15,16,17,18,4,1,0]⟩
 ·rintro hm ar _ w ⟨cr,ca,O,rfl,j⟩
  refine RC.sr (ic ((af.1.length:Int)) ((af.1.length:Int)) (RL.nq (RC.cN lS (RC.ex ?_))))
  exact⟨rfl,ca,j.sp 17 [0,1,2,3,4,5,6,7,8,9,10,11,12,13,14,16]⟩
 ·rintro hm bg ar s' _ w hk ⟨bb,bj,O,rfl,j⟩ hb
  refine RC.sr (ic ((bg:Int)) ((af.1.length:Int)) (RL.nq (RC.cM (lR hk) (RC.ss (RC.bs ?_)))))
  obtain⟨ao,bn,hb⟩:=bd hb
  refine RL.bQ 14 j zr zr uD bn (RL.iX (f:=(fun x=>x)) 14 j (jG 14 j bn 0) (bB bn).2.1 Fd.self pF fun cb j=>?_)
  refine RL.alloc j wN.z fun bw w j=>?_
  refine RL.bA 0 j 1 zr pF fun w j=>?_
  refine RL.ns (RL.aP (f:=(fun x=>x)) 0 j zr Fd.self pF fun bz j=>(RL.dS ([ao]: (List aT)) j [bz] uD wN (fun M hs g=>⟨(g.sat 0 _ zr).1,zt⟩) fun bf w j=>(aK bf (RL.ns (mv (vp ab 0) (mv bf ?_))))))
  have j:=(((((((j.freeze 0).dup 17 rfl).dup 17 rfl).dup 14 rfl).dup 14 rfl).dup 13 rfl).dup 13 rfl).pull 11
  obtain⟨cc,cd,hb⟩:=bd hb
  refine RL.call zt zr Ep [(vp ab 0),bf] zr (aF (iJ N (i1:=0) j zr cd) ?_)
  rintro b0 w j
  refine mv bb ?_
  have j:=j.freeze 0
  obtain⟨cf,cg,hb⟩:=bd hb
  refine RL.call zt zr KE [b0,bb] zr (aF (rL N (i0:=0) (i1:=21) j zr zr cg) ?_)
  rintro _ w ⟨rfl,j⟩
  refine RL.not cf (RL.nt ?_)
  obtain⟨bo,hj,hb⟩:=bd hb
  refine RC.jn (fun(bo: (List bL)) U w=>∃bm:Value,SH E V [(1,v1),(9,vp ab 0),(12,bb),(13,bm),(37,aq),(38,vi af.1.length),(39,vi bg)] [rd v1 p1,bc 126 ab [ax,ay,a0,a1,a2,a3,a4,a5,a6,a7,a8,a9],rd ax o.1,rd ay o.2.1,rd a0 o.2.2.1,rd a1 o.2.2.2.1,rd a2 o.2.2.2.2.1,rd a3 o.2.2.2.2.2.1,rd a4 o.2.2.2.2.2.2.1,rd a5 o.2.2.2.2.2.2.2.1,rd a6 o.2.2.2.2.2.2.2.2.1,rd a7 o.2.2.2.2.2.2.2.2.2.1,rd a8 o.2.2.2.2.2.2.2.2.2.2.1,rd a9 o.2.2.2.2.2.2.2.2.2.2.2,rd bb ar.1,own 43 aq af.1,own 89 bm bo] U w) bo ?_ ?_
  ·refine eQ hj (fun hc hj=>?_) fun hc hj=>?_
   rotate_left
   ·refine RC.skip ?_
    obtain rfl:=oi hj
    exact⟨rfl,bj,j.sp 23 [6,1,8,9,10,11,12,13,14,15,16,17,18,19,21,20,22]⟩
   obtain⟨au,ch,hj⟩:=bd hj
   obtain⟨cj,ck,hj⟩:=bd hj
   refine RC.Ds E V mixed [0,0,1,1,1,0,0,0,0,1] [1,5,6,7,8] (fun(x:Value×Value×Value×Value×Value)=>(fun ak ag al ai aj=>[(0,51,bj),(1,52,ak),(2,53,(vp ab 0)),(3,54,v1),(4,55,bf),(5,56,ag),(6,57,al),(7,58,ai),(8,59,aj),(9,13,aj)]) x.1 x.2.1 x.2.2.1 x.2.2.2.1 x.2.2.2.2) [(1,v1),(9,vp ab 0),(12,bb),(15,vp bw 0),(16,bf),(37,aq),(38,vi af.1.length),(39,vi bg)] [(9,13,bj)] (fun(D:Nat->Bool) (x:Value×Value×Value×Value×Value)=>(fun ak ag al ai aj=>[bif D 0 then (rd ak ao) else aX,bif D 2 then (rd ag au) else (bif D 1 then (own 4 ag au) else aX),bif D 2 then (rd al (⟨ao,au⟩:bL)) else aX,bif D 4 then (rd ai ([(⟨ao,au⟩:bL)]: (List bL))) else (bif D 3 then (own 89 ai ([(⟨ao,au⟩:bL)]: (List bL))) else aX),rd b0 cc,bc 126 ab [ax,ay,a0,a1,a2,a3,a4,a5,a6,a7,a8,a9],rd bf ([ao]: (List aT)),rd bz ao,bx 43 bw ao,rd cb ao,rd v1 p1,aX,rd ax o.1,rd ay o.2.1,rd a0 o.2.2.1,rd a1 o.2.2.2.1,rd a2 o.2.2.2.2.1,rd a3 o.2.2.2.2.2.1,rd a4 o.2.2.2.2.2.2.1,rd a5 o.2.2.2.2.2.2.2.1,rd a6 o.2.2.2.2.2.2.2.2.1,rd a7 o.2.2.2.2.2.2.2.2.2.1,rd a8 o.2.2.2.2.2.2.2.2.2.2.1,rd a9 o.2.2.2.2.2.2.2.2.2.2.2,own 43 aq af.1,rd bb ar.1,bif D 4 then (own 89 aj cj) else (own 89 bj ar.2)]) x.1 x.2.1 x.2.2.1 x.2.2.2.1 x.2.2.2.2) (fun x=>by kernel_rfl) ?_ ⟨?_,?_,fun _=>iT gn,fun _=>iT gn,fun _=>iT gn,?_,?_,?_,?_,fun _=>ID gn rfl,trivial⟩ ?_
   ·have j:=((((j.drew).aX).aX).aX).aX
    exact⟨(undef,undef,undef,undef,undef),dX.none,(Cr zr),⟨fun _=>zr,zt⟩,j⟩
   ·rintro D U w hD ae av ⟨⟨ak,ag,al,ai,aj⟩,hv,ha,ho,j⟩
    obtain⟨O,rfl⟩:=(ac (ho.at 0 rfl (nh av hD 9)) az).eT
    refine mv bj ?_
    exact RL.nil ⟨rfl,(ak,ag,al,ai,aj),hv.pu 0,ha.u,ho.up zr,j⟩
   ·rintro D U w hD ae av ⟨⟨ak,ag,al,ai,aj⟩,hv,ha,ho,j⟩
    obtain⟨O,rfl⟩:=(ac (ha.at 3 rfl) az).eT
    have j:=j.bN 0 hD
    refine RL.aP (f:=(fun x=>x)) 8 j zr Fd.self pF fun cl j=>?_
    have j:=(j.pl 28 [0,2,3,4,5,6,7,8,9,10,11,12,13,14,15,16,17,18,19,20,21,22,23,24,25,26,27]).cG 0 true aX
    exact RL.nil ⟨rfl,(cl,ag,al,ai,aj),hv.pu 1,ha.u,ho.up zr,j⟩
   ·rintro D U w hD ae av ⟨⟨ak,ag,al,ai,aj⟩,hv,ha,ho,j⟩
    obtain⟨O,rfl⟩:=(ac (hv.at 2 rfl (ae.1 rfl)) (ac (hv.at 3 rfl (ae.2.1 rfl)) (ac (hv.at 4 rfl (ae.2.2.1 rfl)) az))).eT
    have j:=((((((((((j.bN 1 (nh av hD 6)).bN 1 hD).dup 23 rfl).dup 23 rfl).dup 20 rfl).dup 20 rfl).dup 19 rfl).dup 19 rfl).dup 19 rfl).dup 19 rfl).pull 13
    refine RL.call zt zr KC [(vp ab 0),v1,bf] zr (aF (rK N (i1:=10) (i2:=6) j zr zr ch) ?_)
    rintro b1 w j
    have j:=((j.pl 29 [2,0,4,5,6,1,8,9,10,11,12,13,14,15,16,17,18,19,20,21,22,23,24,25,26,27,28]).cG 1 true aX).eA 1 (D 6) (nh av hD 6) (rd b1 au)
    exact RL.nil ⟨rfl,(ak,b1,al,ai,aj),hv.pu 5,ha.u,ho.up zr,j⟩
   ·rintro D U w hD ae av ⟨⟨ak,ag,al,ai,aj⟩,hv,ha,ho,j⟩
    obtain⟨O,rfl⟩:=(ac (hv.at 1 rfl (ae.1 rfl)) (ac (hv.at 5 rfl (ae.2.1 rfl)) az)).eT
    have j:=((((j.cF 0 (ae.1 rfl)).bN 1 hD).cF 1 (ae.2.1 rfl)).bN 2 hD).freeze 1
    refine RL.build (⟨ao,au⟩:bL) trivial rfl j [(0,ak),(1,ag)] rfl L6 rfl (fun M hs g=>by have h:=Aj M;exact cO.cons (f:=fun(x:bL) y=>{x with ug:=y}) h wK (g.sat 0 _ rfl).1 fun _ h=>cO.cons (f:=fun(x:bL) y=>{x with mz:=y}) h wL (g.sat 1 _ rfl).1 fun _ h=>cO.nil h) fun cm j=>?_
    have j:=(((j.pl 28 [1,2,0,4,5,6,7,8,9,10,11,12,13,14,15,16,17,18,19,20,21,22,23,24,25,26,27]).cG (hb:=ae.1 rfl) 0 (D 1) aX).cG 1 true (bif D 5 then (own 4 ag au) else aX)).cG 2 true aX
    exact RL.nil ⟨rfl,(ak,ag,cm,ai,aj),hv.pu 6,ha.u,ho.up zr,j⟩
   ·rintro D U w hD ae av ⟨⟨ak,ag,al,ai,aj⟩,hv,ha,ho,j⟩
    obtain⟨O,rfl⟩:=(ac (hv.at 6 rfl (ae.1 rfl)) az).eT
    have j:=((j.cF 2 (ae.1 rfl)).bN 3 (nh av hD 8)).bN 3 hD
    refine RL.dS ([(⟨ao,au⟩:bL)]: (List bL)) j [al] IX IY (fun M hs g=>⟨(g.sat 2 _ zr).1,zt⟩) fun b2 w j=>?_
    have j:=(((j.pl 28 [1,2,3,0,5,6,7,8,9,10,11,12,13,14,15,16,17,18,19,20,21,22,23,24,25,26,27]).cG (hb:=ae.1 rfl) 2 (D 6) aX).cG 3 true aX).eA 3 (D 8) (nh av hD 8) (rd b2 ([(⟨ao,au⟩:bL)]: (List bL)))
    exact RL.nil ⟨rfl,(ak,ag,al,b2,aj),hv.pu 7,ha.u,ho.up zr,j⟩
   ·rintro D U w hD ae av ⟨⟨ak,ag,al,ai,aj⟩,hv,ha,ho,j⟩
    obtain⟨O,rfl⟩:=(ac (hv.at 0 rfl (ae.1 rfl)) (ac (hv.at 7 rfl (ae.2.1 rfl)) az)).eT
    have j:=(((j.bN 3 hD).cF 3 (ae.2.1 rfl)).bN 26 hD).freeze 3
    refine RL.app 26 3 j L7 ck fun b3 w j=>?_
    have j:=(j.cG 3 true (bif D 7 then (own 89 ai ([(⟨ao,au⟩:bL)]: (List bL))) else aX)).cG 26 true (own 89 bj ar.2)
    have hv:=hv.re 9 rfl (v':=b3) (fun h=>ft hD ((av 9 _ rfl h).1 rfl))
    exact RL.nil ⟨rfl,(ak,ag,al,ai,b3),hv.pu 8,ha.u,ho.up zr,j⟩
   rintro D U w bk ⟨⟨ak,ag,al,ai,aj⟩,hv,ha,_,j⟩
   have j:=((((j.cF 0 (jk bk 1)).cF 1 (jk bk 6)).cF 2 (jk bk 6)).cF 3 (jk bk 8)).cF 26 (jk bk 8)
   obtain⟨O,rfl⟩:=(ac (hv.at 9 rfl (jk bk 9)) (ac (ha.at 0 rfl) (ac (ha.at 1 rfl) (ac (ha.at 2 rfl) (ac (ha.at 3 rfl) (ac (ha.at 4 rfl) (ac (ha.at 5 rfl) (ac (ha.at 6 rfl) (ac (ha.at 7 rfl) az))))))))).eT
   obtain rfl:=oi hj
   exact⟨rfl,aj,j.sp 27 [10,5,12,13,14,15,16,17,18,19,20,21,22,23,25,24,26]⟩
  rintro _ w ⟨bm,O,rfl,j⟩
  refine bK (aG (RC.region (RL.inc hk hm (mv (vi ((bg+1:Nat):Int)) (RL.nil ?_)))))
  obtain rfl:=oi hb
  exact⟨rfl,bb,bm,j.sp 17 [0,1,2,3,4,5,6,7,8,9,10,11,12,13,15,14,16]⟩
 rintro _ w ⟨bh,O,rfl,j⟩
 refine aG (RC.sr (mv bh (mv (vp ab 0) (mv v1 ?_))))
 have j:=(((((((((j.qY aT).dup 14 rfl).dup 14 rfl).dup 11 rfl).dup 11 rfl).dup 10 rfl).dup 10 rfl).dup 10 rfl).dup 10 rfl).pull 10
 obtain⟨ct,cn,hb⟩:=bd hb
 refine RL.call zt zr KC [(vp ab 0),v1,(.slice none 0 0)] zr (aF (rK N (i1:=1) (i2:=0) j zr zr cn) ?_)
 rintro b4 w j
 refine aK bh (aK b4 (aK (vi 0) (RL.nt (RC.ret ?_))))
 obtain rfl:=oi hb
 exact G0 zr zr zr zr ⟨bh,b4,zr,j.pk 19 [18,0]⟩
theorem wU {p0:gU} {p1: (List Test)} {res: (List aT)×Int} (j:Holds E w V) (h0:V[i0]? =some (rd v0 p0)) (h1:V[i1]? =some (rd v1 p1)) (o:mf N p0 p1 p2=some res):
    Calls bF 16 [v0,v1,(vi p2)].toArray w (gI (n9 E V res)):=by
 unfold mf at o
 refine enter Tryz.func16 zr zr ?_
 have j:=(j.dup (i0+0) h0).dup (i1+1) h1
 refine RC.sr (RL.dB 1 v0 j zr fun a6 w j=>?_)
 refine aK (.slice none 0 0) (aK (vi 0) (RL.ns (RL.aP (f:=(fun x=>x)) 0 j zr Fd.self nF fun ax j=>(mv v1 (mv (vi p2) ?_)))))
 obtain⟨aa,ay,o⟩:=bd o
 refine RL.call zt zr KF [ax,v1,(vi p2)] zr (aF (pM N (p2:=p2) (i0:=0) (i1:=2) j zr zr ay) ?_)
 rintro _ w ⟨ab,ai,rfl,j⟩
 refine mv (.tuple #[ab,ai,(vi aa.2.2)]) (RL.extract ab (RL.extract ai (RL.extract (vi aa.2.2) (aK ab (aK ai (aK (vi aa.2.2) (RL.nq (RC.sr ?_))))))))
 refine mv (vi aa.2.2) (ic aa.2.2 0 (RL.nt (eQ o (fun hc o=>?_) fun hc o=>?_)))
 ·refine RC.sr (mv (vi aa.2.2) (aK (.slice none 0 0) (aK (vi aa.2.2) (RL.nt (RC.rt ?_)))))
  obtain rfl:=oi o
  have j:=j.cH aT 43
  exact i5 ⟨(.slice none 0 0),zr,j.pk 7 [0]⟩
 refine RC.sx (aK (.slice none 0 0) (RL.nq (RC.sr (mv ab (RL.dY 0 aa.1 j KG (mv (vi 0) (RL.nt ?_)))))))
 obtain⟨ad,hN,o⟩:=bd o
 refine RC.fold (fun(ag:Nat) (ad: (List Bool)×(List aT)) U w=>∃ao aq:Value,SH E V [(9,ao),(11,aq),(25,ab),(26,vi aa.1.length),(27,vi ag)] [own 89 ab aa.1,rd ao ad.1,own 43 aq ad.2] U w) (fun(ad: (List Bool)×(List aT)) U w=>∃af:Value,SH E V [(11,af)] [own 89 ab aa.1,own 43 af ad.2] U w) hN ?_ ?_ ?_ ?_
 ·have j:=(j.freeze 1).cH aT 43
  exact⟨ai,(.slice none 0 0),j.sp 7 [1,2,0]⟩
 ·rintro hm ad _ w ⟨a7,a0,O,rfl,j⟩
  refine RC.sr (ic ((aa.1.length:Int)) ((aa.1.length:Int)) (RL.nq (RC.cN lS (RC.ex ?_))))
  exact⟨rfl,a0,j.sp 3 [0,2]⟩
 ·rintro hm ag ad s' _ w hk ⟨ah,av,O,rfl,j⟩ o
  refine RC.sr (ic ((ag:Int)) ((aa.1.length:Int)) (RL.nq (RC.cM (lR hk) (RC.ss (RC.bs ?_)))))
  obtain⟨a1,al,o⟩:=bd o
  refine RL.bQ 0 j zr zr IX al (RL.iX (f:=(fun x=>x)) 0 j (jG 0 j al 0) (bB al).2.1 Fd.self Hn fun a8 j=>?_)
  refine RL.alloc j IY.z fun a9 w j=>?_
  refine RL.bA 0 j 1 zr Hn fun w j=>?_
  refine RL.ns (RL.aZ zr CP (RL.aP 0 j zr ng IZ fun a2 j=>(mv ah ?_)))
  obtain⟨ba,a3,o⟩:=bd o
  refine RL.call zt zr KD [a2,ah] zr (aF (m5 N (i0:=0) (i1:=4) j zr zr a3) ?_)
  rintro _ w ⟨rfl,j⟩
  refine RL.nt ?_
  obtain⟨an,hj,o⟩:=bd o
  refine RC.jn (fun(an: (List aT)) U w=>∃aj:Value,SH E V [(9,ah),(11,aj),(25,ab),(26,vi aa.1.length),(27,vi ag)] [rd ah ad.1,own 89 ab aa.1,own 43 aj an] U w) an ?_ ?_
  ·refine eQ hj (fun hc hj=>?_) fun hc hj=>?_
   rotate_left
   ·refine RC.skip ?_
    obtain rfl:=oi hj
    exact⟨rfl,av,j.sp 6 [4,3,5]⟩
   refine RC.region (mv av (RL.aZ zr FU (RL.aP 1 j zr qI pF fun a4 j=>(RL.dS ([a1.ug]: (List aT)) j [a4] uD wN (fun M hs g=>⟨(g.sat 0 _ zr).1,zt⟩) fun bb w j=>?_))))
   have j:=j.freeze 0
   obtain⟨bc,a5,hj⟩:=bd hj
   refine RL.app 7 0 j FO a5 fun aw w j=>?_
   refine aK aw (RL.nil ?_)
   obtain rfl:=oi hj
   exact⟨rfl,aw,j.sp 8 [6,5,7]⟩
  rintro _ w ⟨aj,O,rfl,j⟩
  refine bK (aG (RC.region (RL.inc hk hm (mv (vi ((ag+1:Nat):Int)) (RL.nil ?_)))))
  obtain rfl:=oi o
  exact⟨rfl,ah,aj,j.sp 3 [1,0,2]⟩
 rintro _ w ⟨af,O,rfl,j⟩
 refine aG (RC.sr (mv af (aK af (aK (vi 0) (RL.nt (RC.ret ?_))))))
 obtain rfl:=oi o
 exact i5 ⟨af,zr,j.pk 2 [1]⟩
end Go.Gk
namespace Go.Gk
open Go Go.Proofs
variable (N:Nat) {E w:World} {i0 i1:Nat} {p1 p2:Int} {v0 v1:Value} {V:List HP}
def vN (E:World) (V:List HP) (res: (List (List aT))×Int) (v:Value) (w:World):Prop:=∃u0:Value,v = .tuple #[u0,(vi res.2)]/\Holds E w ([own 29 u0 res.1]++V)
theorem uU {p0:gU} {p1: (List Test)} {res: (List (List aT))×Int} (o:Holds E w V) (h0:V[i0]? =some (rd v0 p0)) (h1:V[i1]? =some (rd v1 p1)) (hb:iS N p0 p1 p2=some res):
    Calls bF 20 [v0,v1,(vi p2)].toArray w (gI (vN E V res)):=by
 unfold iS at hb
 refine enter Tryz.func20 zr zr ?_
 have o:=(o.dup (i0+0) h0).dup (i1+1) h1
 refine RC.sr (RL.dB 1 v0 o zr fun ca w o=>?_)
 refine aK (.slice none 0 0) (aK (vi 0) (RL.ns (RL.aP (f:=(fun x=>x)) 0 o zr Fd.self nF fun bw o=>(mv v1 (mv (vi p2) ?_)))))
 obtain⟨ah,bz,hb⟩:=bd hb
 refine RL.call zt zr KF [bw,v1,(vi p2)] zr (aF (pM N (p2:=p2) (i0:=0) (i1:=2) o zr zr bz) ?_)
 rintro _ w ⟨aq,ba,rfl,o⟩
 refine mv (.tuple #[aq,ba,(vi ah.2.2)]) (RL.extract aq (RL.extract ba (RL.extract (vi ah.2.2) (aK aq (aK ba (aK (vi ah.2.2) (RL.nq (RC.sr ?_))))))))
 refine mv (vi ah.2.2) (ic ah.2.2 0 (RL.nt (eQ hb (fun hc hb=>?_) fun hc hb=>?_)))
 ·refine RC.sr (mv (vi ah.2.2) (aK (.slice none 0 0) (aK (vi ah.2.2) (RL.nt (RC.rt ?_)))))
  obtain rfl:=oi hb
  have o:=o.cH (List aT) 29
  exact i5 ⟨(.slice none 0 0),zr,o.pk 7 [0]⟩
 refine RC.sx (RL.makeMap (κ:=dA) (ν:=Int) zr o fun au w o=>(aK au (RL.ns (aK (.slice none 0 0) (RL.nq (RC.sr (mv aq (RL.dY 1 ah.1 o KG ?_))))))))
 refine mv (vi 0) (RL.nt ?_)
 obtain⟨ad,hN,hb⟩:=bd hb
 refine RC.fold (fun(ay:Nat) (ad: (List Bool)×(List (dA×Int))×(List (List aT))) U w=>∃(bm bn:Value) (us241:List RV),SH E V [(9,bm),(11,au),(12,bn),(32,aq),(33,vi ah.1.length),(34,vi ay)] [mp au ad.2.1,own 89 aq ah.1,rd bm ad.1,own 29 bn us241,gL (XS 43 aT) us241 ad.2.2 none] U w) (fun(ad: (List Bool)×(List (dA×Int))×(List (List aT))) U w=>∃(a3:Value) (us243:List RV),SH E V [(12,a3)] [mp au ad.2.1,own 89 aq ah.1,own 29 a3 us243,gL (XS 43 aT) us243 ad.2.2 none] U w) hN ?_ ?_ ?_ ?_
 ·have o:=((o.freeze 2).wY (XS 43 aT)).cH RV 29
  exact⟨ba,(.slice none 0 0),([]:List RV),o.sp 9 [2,3,4,0,1]⟩
 ·rintro hm ad _ w ⟨cb,b0,us346,O,rfl,o⟩
  refine RC.sr (ic ((ah.1.length:Int)) ((ah.1.length:Int)) (RL.nq (RC.cN lS (RC.ex ?_))))
  exact⟨rfl,b0,us346,o.sp 5 [0,1,3,4]⟩
 ·rintro hm ay ad s' _ w hk ⟨aw,a0,us246,O,rfl,o⟩ hb
  refine RC.sr (ic ((ay:Int)) ((ah.1.length:Int)) (RL.nq (RC.cM (lR hk) (RC.ss (RC.bs ?_)))))
  obtain⟨ak,bg,hb⟩:=bd hb
  refine RL.bQ 1 o zr zr IX bg (RL.iX (f:=(fun x=>x)) 1 o (jG 1 o bg 0) (bB bg).2.1 Fd.self Hn fun cc o=>?_)
  refine RL.alloc o IY.z fun ax w o=>?_
  refine RL.bA 0 o 1 zr Hn fun w o=>?_
  refine RL.nq (RC.sr (RL.aZ zr CP (RL.aP 0 o zr ng IZ fun b1 o=>(mv aw ?_))))
  obtain⟨cd,b2,hb⟩:=bd hb
  refine RL.call zt zr KD [b1,aw] zr (aF (m5 N (i0:=0) (i1:=5) o zr zr b2) ?_)
  rintro _ w ⟨rfl,o⟩
  refine RL.nt (eQ hb (fun hc hb=>?_) fun hc hb=>?_)
  ·refine RC.ex (E1 (aG (RC.region (RL.inc hk hm (mv (vi ((ay+1:Nat):Int)) (RL.nil ?_))))))
   obtain rfl:=oi hb
   exact⟨rfl,aw,a0,us246,o.sp 8 [3,4,5,6,7]⟩
  refine RC.sx (aK (.slice none 0 0) (RL.nq (RC.sr (RL.aZ zr CP (RL.aP 1 o zr ng IZ fun a6 o=>(RL.bD 0 ak.mz o Hm (mv (vi 0) (RL.nt ?_))))))))
  obtain⟨an,hN,hb⟩:=bd hb
  refine RC.fold (fun(a7:Nat) (an: (List UInt8)) U w=>∃bo:Value,SH E V [(9,aw),(11,au),(12,a0),(14,vp ax 0),(15,bo),(32,aq),(33,vi ah.1.length),(34,vi ay),(43,a6),(44,vi ak.mz.length),(45,vi a7)] [rd aw ad.1,mp au ad.2.1,own 29 a0 us246,gL (XS 43 aT) us246 ad.2.2 none,bx 89 ax ak,own 89 aq ah.1,rd a6 ak.mz,own 5 bo an] U w) (fun(an: (List UInt8)) U w=>∃a8:Value,SH E V [(9,aw),(11,au),(12,a0),(14,vp ax 0),(15,a8),(32,aq),(33,vi ah.1.length),(34,vi ay)] [rd aw ad.1,mp au ad.2.1,own 29 a0 us246,gL (XS 43 aT) us246 ad.2.2 none,bx 89 ax ak,own 89 aq ah.1,rd a6 ak.mz,own 5 a8 an] U w) hN ?_ ?_ ?_ ?_
  ·have o:=o.cH UInt8 5
   exact⟨(.slice none 0 0),o.sp 10 [7,5,8,9,3,6,1,0]⟩
  ·rintro hm an _ w ⟨b3,O,rfl,o⟩
   refine RC.sr (ic ((ak.mz.length:Int)) ((ak.mz.length:Int)) (RL.nq (RC.cN lS (RC.ex ?_))))
   exact⟨rfl,b3,o.sp 8 [0,1,2,3,4,5,6,7]⟩
  ·rintro hm a7 an s' _ w hk ⟨bp,O,rfl,o⟩ hb
   refine RC.sr (ic ((a7:Int)) ((ak.mz.length:Int)) (RL.nq (RC.cM (lR hk) (RC.ss (RC.bs ?_)))))
   obtain⟨bh,b4,hb⟩:=bd hb
   refine RL.cC 6 o FT b4 fun cf o=>(RL.bI bh 0 o xK (aK (vb bh) (RL.ns (mv (vb bh) (RL.nt ?_)))))
   obtain⟨bj,hj,hb⟩:=bd hb
   refine RC.jn (fun(bj: (List UInt8)) U w=>∃bb:Value,SH E V [(9,aw),(11,au),(12,a0),(14,vp ax 0),(15,bb),(32,aq),(33,vi ah.1.length),(34,vi ay),(43,a6),(44,vi ak.mz.length),(45,vi a7)] [rd aw ad.1,mp au ad.2.1,own 29 a0 us246,gL (XS 43 aT) us246 ad.2.2 none,bx 89 ax ak,own 89 aq ah.1,rd a6 ak.mz,own 5 bb bj] U w) bj ?_ ?_
   ·refine eQ hj (fun hc hj=>?_) fun hc hj=>?_
    ·refine RC.region (mv bp ?_)
     have o:=o.sc UInt8 121
     refine RL.dS ([121]: (List UInt8)) o [(.int .u8 121)] KH MA (fun M hs g=>⟨(g.sat 0 _ zr).1,zt⟩) fun cg w o=>?_
     have o:=o.freeze 0
     obtain⟨ch,b5,hj⟩:=bd hj
     refine RL.app 10 0 o KI b5 fun bq w o=>?_
     refine aK bq (RL.nil ?_)
     obtain rfl:=oi hj
     exact⟨rfl,bq,o.sp 11 [3,4,5,6,7,8,9,10]⟩
    refine RC.region (mv bp ?_)
    have o:=o.sc UInt8 110
    refine RL.dS ([110]: (List UInt8)) o [(.int .u8 110)] KH MA (fun M hs g=>⟨(g.sat 0 _ zr).1,zt⟩) fun cj w o=>?_
    have o:=o.freeze 0
    obtain⟨ck,b6,hj⟩:=bd hj
    refine RL.app 10 0 o KI b6 fun br w o=>?_
    refine aK br (RL.nil ?_)
    obtain rfl:=oi hj
    exact⟨rfl,br,o.sp 11 [3,4,5,6,7,8,9,10]⟩
   rintro _ w ⟨bb,O,rfl,o⟩
   refine bK (aG (RC.region (RL.inc hk hm (mv (vi ((a7+1:Nat):Int)) (RL.nil ?_)))))
   obtain rfl:=oi hb
   exact⟨rfl,bb,o.sp 8 [0,1,2,3,4,5,6,7]⟩
  rintro _ w ⟨a8,O,rfl,o⟩
  refine aG (RC.sr (mv au (mv a8 ?_)))
  have o:=o.freeze 7
  refine RL.Dw an 7 zt zr o zr zr KJ MB zq (RL.xo 1 (⟨an⟩:dA) zr o zr zr zr KK (mv (.tuple #[(vi (dH ad.2.1 (⟨an⟩:dA) (0:Int))),(vb (gK ad.2.1 (⟨an⟩:dA)))]) (RL.extract (vi (dH ad.2.1 (⟨an⟩:dA) (0:Int))) (RL.extract (vb (gK ad.2.1 (⟨an⟩:dA))) (aK (vi (dH ad.2.1 (⟨an⟩:dA) (0:Int))) (aK (vb (gK ad.2.1 (⟨an⟩:dA))) (RL.nq (RC.sr ?_))))))))
  refine mv (vb (gK ad.2.1 (⟨an⟩:dA))) (RL.not (gK ad.2.1 (⟨an⟩:dA)) (RL.nt ?_))
  obtain⟨aa,hj,hb⟩:=bd hb
  refine RC.jn (fun(aa: (List (dA×Int))×(List (List aT))×Int) U w=>∃(av:Value) (us314:List RV),SH E V [(9,aw),(11,au),(12,av),(14,vp ax 0),(18,vi aa.2.2),(32,aq),(33,vi ah.1.length),(34,vi ay)] [rd aw ad.1,mp au aa.1,bx 89 ax ak,own 89 aq ah.1,own 29 av us314,gL (XS 43 aT) us314 aa.2.1 none] U w) aa ?_ ?_
  ·refine eQ hj (fun hc hj=>?_) fun hc hj=>?_
   rotate_left
   ·refine RC.skip ?_
    obtain rfl:=oi hj
    exact⟨rfl,a0,us246,o.sp 8 [0,1,4,5,2,3]⟩
   refine RC.sr (mv a0 (RL.px 2 3 ad.2.2 o Ho (aK (vi ad.2.2.length) (RL.ns (mv au (mv a8 (RL.Dw an 7 zt zr o zr zr KJ MB zq (mv (vi ad.2.2.length) ?_))))))))
   have o:=o.sc Int (ad.2.2.length:Int)
   refine RL.mapUpdate 2 0 (⟨an⟩:dA) o zr zr zr zr zr KK fun w o=>(RL.nt (RC.region (mv a0 ?_)))
   have o:=(o.cH aT 43).Bi (i:=0) rfl
   refine RL.dS ([rv (.slice none 0 0)]:List RV) o [(.slice none 0 0)] FV L9 (fun M hs g=>⟨(g.sat 0 _ zr).1,zt⟩) fun cl w o=>?_
   obtain⟨cm,b7,hj⟩:=bd hj
   have o:=o.freeze 0
   refine RL.xq 6 0 7 2 zr o zr zr zr zr zr zr Ma b7 fun bt w o=>?_
   refine aK bt (RL.nil ?_)
   obtain rfl:=oi hj
   exact⟨rfl,bt,(us246++[rv (.slice none 0 0)]),o.sp 12 [4,5,8,9,6,7]⟩
  rintro _ w ⟨av,us314,O,rfl,o⟩
  refine aG ?_
  obtain⟨cn,bc,hb⟩:=bd hb
  obtain⟨a2,b8,hb⟩:=bd hb
  obtain⟨cp,bk,hb⟩:=bd hb
  refine RC.Ds E V mixed [1,1,1,1,0,0,1,0,0,0,0,0] [7,8,9,11] (fun(x:Value×Value×Value)=>(fun ao al af=>[(0,75,av),(1,76,(vi aa.2.2)),(2,77,av),(3,78,(vi aa.2.2)),(4,79,(zd av (Int.toNat aa.2.2) 1 0)),(5,80,(us314.getD (Int.toNat aa.2.2) wi).v),(6,81,(vp ax 0)),(7,82,ao),(8,83,al),(9,84,af),(10,85,(zd av (Int.toNat aa.2.2) 1 0))]) x.1 x.2.1 x.2.2) [(9,aw),(11,au),(12,av),(14,vp ax 0),(18,vi aa.2.2),(32,aq),(33,vi ah.1.length),(34,vi ay)] [] (fun(D:Nat->Bool) (x:Value×Value×Value)=>(fun ao al af=>[bif D 0 then (rd ao ak.ug) else aX,bif D 2 then (rd al ([ak.ug]: (List aT))) else (bif D 1 then (own 43 al ([ak.ug]: (List aT))) else aX),bif D 3 then aX else (bif D 2 then (own 43 af a2) else aX),rd aw ad.1,mp au aa.1,bx 89 ax ak,own 89 aq ah.1,bif D 3 then (own 29 av (us314.set (Int.toNat aa.2.2) (rv af))) else (own 29 av us314),bif D 3 then (gL (XS 43 aT) (us314.set (Int.toNat aa.2.2) (rv af)) (aa.2.1.set (Int.toNat aa.2.2) a2) none) else (bif D 2 then (gL (XS 43 aT) us314 aa.2.1 (some (Int.toNat aa.2.2))) else (gL (XS 43 aT) us314 aa.2.1 none))]) x.1 x.2.1 x.2.2) (fun x=>by kernel_rfl) ?_ ⟨fun _=>iT gn,fun _=>iT gn,fun _=>iT gn,fun _=>iT gn,?_,?_,fun _=>mu gn FU,?_,?_,?_,?_,?_,trivial⟩ ?_
  ·have o:=(((o.drew).aX).aX).aX
   exact⟨(undef,undef,undef),dX.none,(Cr zr),zt,o⟩
  ·rintro D U w hD ai ae ⟨⟨ao,al,af⟩,hv,ha,_,o⟩
   obtain⟨O,rfl⟩:=(ac (hv.at 2 rfl (ai.1 rfl)) (ac (hv.at 3 rfl (ai.2.1 rfl)) az)).eT
   have o:=((o.bN 7 (nh ae hD 11)).bN 8 (nh ae hD 11)).bN 8 (nf (fun h=>ft hD ((ae 5 _ rfl ((ae 9 _ rfl h).1 rfl)).1 rfl)))
   have hl332:=o.fR 8
   have hr333:=iC wi hl332 bc
   refine RL.bQ 7 o zr zr FV hr333 ?_
   have o:=(o.eA 7 (D 11) (nh ae hD 11) (own 29 av (us314.set (Int.toNat aa.2.2) (rv af)))).eA 8 (D 9) (nf (fun h=>ft hD ((ae 5 _ rfl ((ae 9 _ rfl h).1 rfl)).1 rfl))) (gL (XS 43 aT) us314 aa.2.1 (some (Int.toNat aa.2.2)))
   have o:=o.eA 8 (D 11) (nh ae hD 11) (gL (XS 43 aT) (us314.set (Int.toNat aa.2.2) (rv af)) (aa.2.1.set (Int.toNat aa.2.2) a2) none)
   exact RL.nil ⟨rfl,(ao,al,af),hv.pu 4,ha.u,zt,o⟩
  ·rintro D U w hD ai ae ⟨⟨ao,al,af⟩,hv,ha,_,o⟩
   obtain⟨O,rfl⟩:=(ac (hv.at 4 rfl (ai.1 rfl)) az).eT
   have o:=((o.bN 7 (nh ae hD 11)).bN 8 (nh ae hD 11)).bN 8 (nh ae hD 9)
   have hl334:=o.fR 8
   have hr335:=iC wi hl334 bc
   refine RL.r8 7 8 aa.2.2 (ud 43 aT) wi zr o zr (jG 7 o hr335 0) zr zr bc yK ?_
   have o:=(o.eA 7 (D 11) (nh ae hD 11) (own 29 av (us314.set (Int.toNat aa.2.2) (rv af)))).eA 8 (D 9) (nh ae hD 9) (gL (XS 43 aT) us314 aa.2.1 (some (Int.toNat aa.2.2)))
   have o:=o.eA 8 (D 11) (nh ae hD 11) (gL (XS 43 aT) (us314.set (Int.toNat aa.2.2) (rv af)) (aa.2.1.set (Int.toNat aa.2.2) a2) none)
   exact RL.nil ⟨rfl,(ao,al,af),hv.pu 5,ha.u,zt,o⟩
  ·rintro D U w hD ai ae ⟨⟨ao,al,af⟩,hv,ha,_,o⟩
   obtain⟨O,rfl⟩:=(ac (hv.at 6 rfl (ai.1 rfl)) az).eT
   have o:=o.bN 0 hD
   refine RL.aP 5 o zr qI pF fun b9 o=>?_
   have o:=(o.pl 10 [0,2,3,4,5,6,7,8,9]).cG 0 true aX
   exact RL.nil ⟨rfl,(b9,al,af),hv.pu 7,ha.u,zt,o⟩
  ·rintro D U w hD ai ae ⟨⟨ao,al,af⟩,hv,ha,_,o⟩
   obtain⟨O,rfl⟩:=(ac (hv.at 7 rfl (ai.1 rfl)) az).eT
   have o:=((o.cF 0 (ai.1 rfl)).bN 1 (nh ae hD 9)).bN 1 hD
   refine RL.dS ([ak.ug]: (List aT)) o [ao] uD wN (fun M hs g=>⟨(g.sat 0 _ zr).1,zt⟩) fun bu w o=>?_
   have o:=(((o.pl 10 [1,0,3,4,5,6,7,8,9]).cG (hb:=ai.1 rfl) 0 (D 7) aX).cG 1 true aX).eA 1 (D 9) (nh ae hD 9) (rd bu ([ak.ug]: (List aT)))
   exact RL.nil ⟨rfl,(ao,bu,af),hv.pu 8,ha.u,zt,o⟩
  ·rintro D U w hD ai ae ⟨⟨ao,al,af⟩,hv,ha,_,o⟩
   obtain⟨O,rfl⟩:=(ac (hv.at 5 rfl (ai.1 rfl)) (ac (hv.at 8 rfl (ai.2.1 rfl)) az)).eT
   have o:=(((((((o.bN 1 hD).cF 1 (ai.2.1 rfl)).bN 2 (nh ae hD 11)).bN 2 hD).bN 7 (nh ae hD 11)).bN 8 (nh ae hD 11)).bN 8 hD).xp (j:=8) (jj:=aa.2.2) (ud 43 aT) wi rfl bc
   have o:=o.freeze 2
   refine RL.app 0 2 o FO b8 fun bl w o=>?_
   have o:=((((o.pl 10 [1,2,0,4,5,6,7,8,9]).cG 1 true (bif D 8 then (own 43 al ([ak.ug]: (List aT))) else aX)).cG 2 true aX).eA 2 (D 11) (nh ae hD 11) aX).eA 7 (D 11) (nh ae hD 11) (own 29 av (us314.set (Int.toNat aa.2.2) (rv bl)))
   have o:=(o.cG 8 true (gL (XS 43 aT) us314 aa.2.1 none)).eA 8 (D 11) (nh ae hD 11) (gL (XS 43 aT) (us314.set (Int.toNat aa.2.2) (rv bl)) (aa.2.1.set (Int.toNat aa.2.2) a2) none)
   exact RL.nil ⟨rfl,(ao,al,bl),hv.pu 9,ha.u,zt,o⟩
  ·rintro D U w hD ai ae ⟨⟨ao,al,af⟩,hv,ha,_,o⟩
   obtain⟨O,rfl⟩:=(ac (hv.at 0 rfl (ai.1 rfl)) (ac (hv.at 1 rfl (ai.2.1 rfl)) az)).eT
   have o:=((o.bN 7 (nh ae hD 11)).bN 8 (nh ae hD 11)).cF 8 (ai.2.2.2.2.2.2.2.2.2.2.2.1 rfl)
   have hl339:=o.fR 8
   have hr340:=iC wi hl339 bk
   refine RL.bQ 7 o zr zr FV hr340 ?_
   have o:=((o.eA 7 (D 11) (nh ae hD 11) (own 29 av (us314.set (Int.toNat aa.2.2) (rv af)))).cG (hb:=ai.2.2.2.2.2.2.2.2.2.2.2.1 rfl) 8 (D 9) (gL (XS 43 aT) us314 aa.2.1 none)).eA 8 (D 11) (nh ae hD 11) (gL (XS 43 aT) (us314.set (Int.toNat aa.2.2) (rv af)) (aa.2.1.set (Int.toNat aa.2.2) a2) none)
   exact RL.nil ⟨rfl,(ao,al,af),hv.pu 10,ha.u,zt,o⟩
  ·rintro D U w hD ai ae ⟨⟨ao,al,af⟩,hv,ha,_,o⟩
   obtain⟨O,rfl⟩:=(ac (hv.at 9 rfl (ai.2.1 rfl)) (ac (hv.at 10 rfl (ai.1 rfl)) az)).eT
   have o:=((((o.bN 2 hD).cF 2 (ai.2.1 rfl)).bN 7 hD).bN 8 hD).cF 8 (ai.2.1 rfl)
   have hl341:=o.fR 8
   have hr342:=iC wi hl341 bk
   refine RL.qe 7 8 2 aa.2.2 (ud 43 aT) wi o zr zr (jG 7 o hr342 0) zr zr zr bk yK fun w o=>?_
   have o:=((o.cG 2 true (bif D 9 then (own 43 af a2) else aX)).cG 7 true (own 29 av us314)).cG 8 true (bif D 9 then (gL (XS 43 aT) us314 aa.2.1 (some (Int.toNat aa.2.2))) else (gL (XS 43 aT) us314 aa.2.1 none))
   exact RL.nil ⟨rfl,(ao,al,af),hv.n1,ha,zt,o⟩
  rintro D U w a9 ⟨⟨ao,al,af⟩,hv,ha,_,o⟩
  have o:=((((o.cF 0 (jk a9 7)).cF 1 (jk a9 9)).cF 2 (jk a9 11)).cF 7 (jk a9 11)).cF 8 (jk a9 11)
  obtain⟨O,rfl⟩:=(ac (ha.at 0 rfl) (ac (ha.at 1 rfl) (ac (ha.at 2 rfl) (ac (ha.at 3 rfl) (ac (ha.at 4 rfl) (ac (ha.at 5 rfl) (ac (ha.at 6 rfl) (ac (ha.at 7 rfl) az)))))))).eT
  refine bK (aG (RC.region (RL.inc hk hm (mv (vi ((ay+1:Nat):Int)) (RL.nil ?_)))))
  obtain rfl:=oi hb
  exact⟨rfl,aw,av,(us314.set (Int.toNat aa.2.2) (rv af)),o.sp 9 [4,6,3,7,8]⟩
 rintro _ w ⟨a3,us243,O,rfl,o⟩
 refine aG (RC.sr (mv a3 (aK a3 (aK (vi 0) (RL.nt (RC.ret ?_))))))
 obtain rfl:=oi hb
 have o:=o.wZ (X:=(XS 43 aT)) (b:=3) (j:=2) rfl (fun M h u x cs=>(Fg 43) M h u x cs) rfl rfl (by decide)
 exact i5 ⟨a3,zr,o.pk 4 [2]⟩
theorem uV {p0:gU} {res: (List aT)×Int} (j:Holds E w V) (h0:V[i0]? =some (rd v0 p0)) (o:kE N p0 p1=some res):
    Calls bF 21 [v0,(vi p1)].toArray w (gI (n9 E V res)):=by
 unfold kE at o
 refine enter Tryz.func21 zr zr ?_
 have j:=j.dup (i0+0) h0
 refine RC.sr (RL.dB 0 v0 j zr fun bx w j=>?_)
 refine aK (.slice none 0 0) (aK (vi 0) (RL.ns (RL.aP (f:=(fun x=>x)) 0 j zr Fd.self nF fun bh j=>?_)))
 obtain⟨ad,bj,o⟩:=bd o
 refine RL.call zt zr Hk [bh] zr (aF (mj N (i0:=0) j zr bj) ?_)
 rintro _ w hK49
 rcases a2:ad.1 with _ | aa
 ·replace o:=Fi a2 o
  obtain⟨rfl,j⟩:=Bj a2 hK49
  refine mv (.tuple #[(.pointer none),(vi ad.2)]) (RL.extract (.pointer none) (RL.extract (vi ad.2) (aK (.pointer none) (aK (vi ad.2) (RL.nq (RC.sr (mv (vi ad.2) (ic ad.2 0 ?_))))))))
  refine RL.nt (eQ o (fun hc o=>?_) fun hc o=>?_)
  rotate_left
  ·cases o
  refine RC.sr (mv (vi ad.2) (aK (.slice none 0 0) (aK (vi ad.2) (RL.nt (RC.rt ?_)))))
  obtain rfl:=oi o
  have j:=j.cH aT 43
  exact i5 ⟨(.slice none 0 0),zr,j.pk 4 [0]⟩
 replace o:=Fj a2 o
 obtain⟨ae,aj,ak,al,an,ao,aq,ar,au,av,aw,ax,ay,rfl,j⟩:=Bl a2 hK49
 refine mv (.tuple #[(vp ae 0),(vi ad.2)]) (RL.extract (vp ae 0) (RL.extract (vi ad.2) (aK (vp ae 0) (aK (vi ad.2) (RL.nq (RC.sr (mv (vi ad.2) (ic ad.2 0 ?_))))))))
 refine RL.nt (eQ o (fun hc o=>?_) fun hc o=>?_)
 ·refine RC.sr (mv (vi ad.2) (aK (.slice none 0 0) (aK (vi ad.2) (RL.nt (RC.rt ?_)))))
  obtain rfl:=oi o
  have j:=j.cH aT 43
  exact i5 ⟨(.slice none 0 0),zr,j.pk 17 [0]⟩
 refine RC.sx (mv (vp ae 0) (mv (vi p1) ?_))
 have j:=((((((((((((j.freeze 5).freeze 8).freeze 11).freeze 12).dup 12 rfl).dup 12 rfl).dup 12 rfl).dup 12 rfl).dup 12 rfl).dup 12 rfl).dup 12 rfl).dup 12 rfl).dup 12 rfl
 have j:=(((j.dup 12 rfl).dup 12 rfl).dup 12 rfl).pull 12
 obtain⟨ab,bk,o⟩:=bd o
 refine RL.call zt zr IU [(vp ae 0),(vi p1)] zr (aF (nk N (p1:=p1) j bk) ?_)
 rintro _ w ⟨af,rfl,j⟩
 refine mv (.tuple #[af,(vi ab.2)]) (RL.extract af (RL.extract (vi ab.2) (aK af (aK (vi ab.2) (RL.nq (RC.sr (mv (vi ab.2) (ic ab.2 0 ?_))))))))
 refine RL.nt (eQ o (fun hc o=>?_) fun hc o=>?_)
 ·refine RC.sr (mv (vi ab.2) (aK (.slice none 0 0) (aK (vi ab.2) (RL.nt (RC.rt ?_)))))
  obtain rfl:=oi o
  have j:=j.cH aT 43
  exact i5 ⟨(.slice none 0 0),zr,j.pk 19 [0]⟩
 refine RC.sx (mv (vp ae 0) ?_)
 have j:=(((((((j.qY aT).dup 15 rfl).dup 15 rfl).dup 12 rfl).dup 12 rfl).dup 11 rfl).dup 11 rfl).pull 8
 obtain⟨bz,bl,o⟩:=bd o
 refine RL.call zt zr Ep [(vp ae 0),(.slice none 0 0)] zr (aF (iJ N (i1:=0) j zr bl) ?_)
 rintro a6 w j
 refine aK a6 (RL.ns (aK (.slice none 0 0) (RL.nq (RC.sr (mv af (RL.dY 3 ab.1 j uE (mv (vi 0) (RL.nt ?_))))))))
 obtain⟨ag,hN,o⟩:=bd o
 refine RC.fold (fun(a0:Nat) (ag: (List Int)×(List aT)) U w=>∃a7 a8:Value,SH E V [(6,vp ae 0),(9,a7),(10,a8),(32,af),(33,vi ab.1.length),(34,vi a0)] [bc 126 ae [aj,ak,al,an,ao,aq,ar,au,av,aw,ax,ay],rd aj aa.1,rd ak aa.2.1,rd al aa.2.2.1,rd an aa.2.2.2.1,rd ao aa.2.2.2.2.1,rd aq aa.2.2.2.2.2.1,rd ar aa.2.2.2.2.2.2.1,rd au aa.2.2.2.2.2.2.2.1,rd av aa.2.2.2.2.2.2.2.2.1,rd aw aa.2.2.2.2.2.2.2.2.2.1,rd ax aa.2.2.2.2.2.2.2.2.2.2.1,rd ay aa.2.2.2.2.2.2.2.2.2.2.2,own 43 af ab.1,rd a7 ag.1,own 43 a8 ag.2] U w) (fun(ag: (List Int)×(List aT)) U w=>∃az:Value,SH E V [(10,az)] [bc 126 ae [aj,ak,al,an,ao,aq,ar,au,av,aw,ax,ay],rd aj aa.1,rd ak aa.2.1,rd al aa.2.2.1,rd an aa.2.2.2.1,rd ao aa.2.2.2.2.1,rd aq aa.2.2.2.2.2.1,rd ar aa.2.2.2.2.2.2.1,rd au aa.2.2.2.2.2.2.2.1,rd av aa.2.2.2.2.2.2.2.2.1,rd aw aa.2.2.2.2.2.2.2.2.2.1,rd ax aa.2.2.2.2.2.2.2.2.2.2.1,rd ay aa.2.2.2.2.2.2.2.2.2.2.2,own 43 af ab.1,own 43 az ag.2] U w) hN ?_ ?_ ?_ ?_
 ·have j:=(j.freeze 0).cH aT 43
  exact⟨a6,(.slice none 0 0),j.sp 22 [2,7,8,9,10,11,12,13,14,15,16,17,18,4,1,0]⟩
 ·rintro hm ag _ w ⟨b0,bn,O,rfl,j⟩
  refine RC.sr (ic ((ab.1.length:Int)) ((ab.1.length:Int)) (RL.nq (RC.cN lS (RC.ex ?_))))
  exact⟨rfl,bn,j.sp 16 [0,1,2,3,4,5,6,7,8,9,10,11,12,13,15]⟩
 ·rintro hm a0 ag s' _ w hk ⟨a1,bb,O,rfl,j⟩ o
  refine RC.sr (ic ((a0:Int)) ((ab.1.length:Int)) (RL.nq (RC.cM (lR hk) (RC.ss (RC.bs ?_)))))
  obtain⟨bf,a4,o⟩:=bd o
  refine RL.bQ 13 j zr zr uD a4 (RL.iX (f:=(fun x=>x)) 13 j (jG 13 j a4 0) (bB a4).2.1 Fd.self pF fun b1 j=>?_)
  refine RL.alloc j wN.z fun b2 w j=>?_
  refine RL.bA 0 j 1 zr pF fun w j=>?_
  refine RL.ns (mv (vp ae 0) (RL.aP (f:=(fun x=>x)) 0 j zr Fd.self pF fun bo j=>(RL.dS ([bf]: (List aT)) j [bo] uD wN (fun M hs g=>⟨(g.sat 0 _ zr).1,zt⟩) fun bp w j=>?_)))
  have j:=(((((((j.freeze 0).dup 16 rfl).dup 16 rfl).dup 13 rfl).dup 13 rfl).dup 12 rfl).dup 12 rfl).pull 10
  obtain⟨b3,bq,o⟩:=bd o
  refine RL.call zt zr Ep [(vp ae 0),bp] zr (aF (iJ N (i1:=0) j zr bq) ?_)
  rintro br w j
  refine mv a1 ?_
  have j:=j.freeze 0
  obtain⟨b4,bt,o⟩:=bd o
  refine RL.call zt zr KE [br,a1] zr (aF (rL N (i0:=0) (i1:=20) j zr zr bt) ?_)
  rintro _ w ⟨rfl,j⟩
  refine RL.nt ?_
  obtain⟨a5,hj,o⟩:=bd o
  refine RC.jn (fun(a5: (List aT)) U w=>∃a3:Value,SH E V [(6,vp ae 0),(9,a1),(10,a3),(32,af),(33,vi ab.1.length),(34,vi a0)] [bc 126 ae [aj,ak,al,an,ao,aq,ar,au,av,aw,ax,ay],rd aj aa.1,rd ak aa.2.1,rd al aa.2.2.1,rd an aa.2.2.2.1,rd ao aa.2.2.2.2.1,rd aq aa.2.2.2.2.2.1,rd ar aa.2.2.2.2.2.2.1,rd au aa.2.2.2.2.2.2.2.1,rd av aa.2.2.2.2.2.2.2.2.1,rd aw aa.2.2.2.2.2.2.2.2.2.1,rd ax aa.2.2.2.2.2.2.2.2.2.2.1,rd ay aa.2.2.2.2.2.2.2.2.2.2.2,rd a1 ag.1,own 43 af ab.1,own 43 a3 a5] U w) a5 ?_ ?_
  ·refine eQ hj (fun hc hj=>?_) fun hc hj=>?_
   rotate_left
   ·refine RC.skip ?_
    obtain rfl:=oi hj
    exact⟨rfl,bb,j.sp 22 [1,7,8,9,10,11,12,13,14,15,16,17,18,20,19,21]⟩
   refine RC.region (mv bb (RL.aP (f:=(fun x=>x)) 4 j zr Fd.self pF fun bu j=>(RL.dS ([bf]: (List aT)) j [bu] uD wN (fun M hs g=>⟨(g.sat 0 _ zr).1,zt⟩) fun b5 w j=>?_)))
   have j:=j.freeze 0
   obtain⟨b6,bw,hj⟩:=bd hj
   refine RL.app 23 0 j FO bw fun bg w j=>?_
   refine aK bg (RL.nil ?_)
   obtain rfl:=oi hj
   exact⟨rfl,bg,j.sp 24 [3,9,10,11,12,13,14,15,16,17,18,19,20,22,21,23]⟩
  rintro _ w ⟨a3,O,rfl,j⟩
  refine bK (aG (RC.region (RL.inc hk hm (mv (vi ((a0+1:Nat):Int)) (RL.nil ?_)))))
  obtain rfl:=oi o
  exact⟨rfl,a1,a3,j.sp 16 [0,1,2,3,4,5,6,7,8,9,10,11,12,14,13,15]⟩
 rintro _ w ⟨az,O,rfl,j⟩
 refine aG (RC.sr (mv az (aK az (aK (vi 0) (RL.nt (RC.ret ?_))))))
 obtain rfl:=oi o
 exact i5 ⟨az,zr,j.pk 15 [14]⟩
def lk (E:World) (V:List HP) (r:Bool) (U:Nat->Value) (w:World):Prop:=l5 bF 105 Tryz.f5 (bE E V r) .ret U w
theorem k7 {p0:gU} {p1: (List Test)} {res:Bool} (j:Holds E w V) (h0:V[i0]? =some (rd v0 p0)) (h1:V[i1]? =some (rd v1 p1)) (hb:cW N p0 p1 p2=some res):
    Calls bF 5 [v0,v1,(vi p2)].toArray w (gI (bE E V res)):=by
 unfold cW at hb
 refine enter Tryz.func5 zr zr ?_
 have j:=(j.dup (i0+0) h0).dup (i1+1) h1
 refine RC.sr (RL.dB 1 v0 j zr fun br w j=>?_)
 refine aK (vb false) (RL.ns (RL.aP (f:=(fun x=>x)) 0 j zr Fd.self nF fun a9 j=>(mv (vi p2) ?_)))
 obtain⟨ad,ba,hb⟩:=bd hb
 refine RL.call zt zr MO [a9,(vi p2)] zr (aF (wR N (p1:=p2) (i0:=0) j zr ba) ?_)
 rintro _ w ⟨ak,rfl,j⟩
 refine mv (.tuple #[ak,(vi ad.2)]) (RL.extract ak (RL.extract (vi ad.2) (aK ak (aK (vi ad.2) (RL.ns (RL.aP (f:=(fun x=>x)) 2 j zr Fd.self nF fun bb j=>(mv v1 (mv (vi p2) ?_))))))))
 obtain⟨ab,bc,hb⟩:=bd hb
 refine RL.call zt zr Mb [bb,v1,(vi p2)] zr (aF (uU N (p2:=p2) (i0:=0) (i1:=4) j zr zr bc) ?_)
 rintro _ w ⟨ai,rfl,j⟩
 refine mv (.tuple #[ai,(vi ab.2)]) (RL.extract ai (RL.extract (vi ab.2) (aK ai (aK (vi ab.2) (RL.nq (RC.sr (mv (vi ad.2) (ic ad.2 0 ?_))))))))
 refine mv (vb (ad.2 != 0)) (RL.gs true (ad.2 != 0) (vi ab.2) rfl rfl rfl dW (RL.gs true (ad.2 != 0) (vb (ab.2 != 0)) rfl rfl rfl (eE .neq .i64 ab.2 0 rfl (fun h=>by exact(cV h:cv (true&&((ad.2 != 0)==false)) (vi ab.2)= (vi ab.2))) (fun _=>rfl) rfl) (RL.pick (ad.2 != 0) (vb ((ad.2 != 0)||(ab.2 != 0))) (nS true rfl) (RL.nt (eQ hb (fun hc hb=>?_) fun hc hb=>?_)))))
 ·refine RC.seq ?_
  obtain⟨ay,o,hb⟩:=bd hb
  refine RC.jn (fun(ay:Bool)=>SH E V [(6,vb ay)] []) ay ?_ ?_
  ·refine RC.region (mv (vi ad.2) (ic ad.2 0 (mv (vb (ad.2==0)) (fM o (fun al o=>?_) fun al o=>?_))))
   ·refine bO al (bO al (bO al (fJ al (vb true) (mv (vb true) (RL.move (vi ab.2) ⟨_,zr,zr⟩ (RL.i7 ab.2 0 ⟨_,zr,zr⟩ (RL.move (vb (ab.2==0)) ⟨_,zr,zr⟩ (fM o (fun an o=>?_) fun an o=>?_))))))))
    ·refine bO an (bO an (bO an (fJ an (vb true) (hg:=⟨_,zr,zr⟩) (RL.pick true (vb true) zr (mv (vb true) ?_)))))
     obtain⟨a3,bf,o⟩:=bd o
     refine RL.call ⟨_,zr,zr⟩ zr FR [] zr (aF (gh N j bf) ?_)
     rintro _ w ⟨rfl,j⟩
     refine RL.pick true (vb a3) zr (aK (vb a3) (RL.nil ?_))
     obtain rfl:=oi o
     exact⟨rfl,j.sp 7 []⟩
    refine RL.move ai (cg an) (RL.dY (hg:=(cg an)) 0 ab.1 j Ho (RL.i7 (ab.1.length:Int) 0 (cg an) (fJ an (vb ((ab.1.length:Int)==0)) (hg:=⟨_,zr,zr⟩) (RL.pick true (vb ((ab.1.length:Int)==0)) zr (mv (vb ((ab.1.length:Int)==0)) (fM o (fun ar o=>?_) fun ar o=>?_))))))
    rotate_left
    ·refine bO ar (fJ ar (vb false) (aK (vb false) (RL.nil ?_)))
     obtain rfl:=oi o
     exact⟨rfl,j.sp 7 []⟩
    obtain⟨a4,bg,o⟩:=bd o
    refine RL.call (cg ar) zr FR [] zr (aF (gh N j bg) ?_)
    rintro _ w ⟨rfl,j⟩
    refine fJ ar (vb a4) (aK (vb a4) (RL.nil ?_))
    obtain rfl:=oi o
    exact⟨rfl,j.sp 7 []⟩
   refine RL.move ak (cg al) (RL.dY (hg:=(cg al)) 2 ad.1 j uE (RL.i7 (ad.1.length:Int) 0 (cg al) (fJ al (vb ((ad.1.length:Int)==0)) (mv (vb ((ad.1.length:Int)==0)) (fM o (fun ah o=>?_) fun ah o=>?_)))))
   rotate_left
   ·refine bO ah (bO ah (bO ah (yE (yE (yE (bO ah (fJ ah (vb false) (mv (vb false) ?_))))))))
    refine oT (RL.pick false (vb false) zr (aK (vb false) (RL.nil ?_)))
    obtain rfl:=oi o
    exact⟨rfl,j.sp 7 []⟩
   refine RL.move (vi ab.2) (cg ah) (RL.i7 ab.2 0 (cg ah) (RL.move (vb (ab.2==0)) (cg ah) (fM o (fun ao o=>?_) fun ao o=>?_)))
   ·refine bO ao (bO ao (bO ao (fJ ao (vb true) (hg:=(cg ah)) (fJ ah (vb true) (mv (vb true) ?_)))))
    obtain⟨a5,bh,o⟩:=bd o
    refine RL.call ⟨_,zr,zr⟩ zr FR [] zr (aF (gh N j bh) ?_)
    rintro _ w ⟨rfl,j⟩
    refine RL.pick true (vb a5) zr (aK (vb a5) (RL.nil ?_))
    obtain rfl:=oi o
    exact⟨rfl,j.sp 7 []⟩
   refine RL.move ai (cg ao) (RL.dY (hg:=(cg ao)) 0 ab.1 j Ho (RL.i7 (ab.1.length:Int) 0 (cg ao) (fJ ao (vb ((ab.1.length:Int)==0)) (hg:=(cg ah)) (fJ ah (vb ((ab.1.length:Int)==0)) (mv (vb ((ab.1.length:Int)==0)) (fM o (fun au o=>?_) fun au o=>?_))))))
   rotate_left
   ·refine bO au (fJ au (vb false) (aK (vb false) (RL.nil ?_)))
    obtain rfl:=oi o
    exact⟨rfl,j.sp 7 []⟩
   obtain⟨a6,bj,o⟩:=bd o
   refine RL.call (cg au) zr FR [] zr (aF (gh N j bj) ?_)
   rintro _ w ⟨rfl,j⟩
   refine fJ au (vb a6) (aK (vb a6) (RL.nil ?_))
   obtain rfl:=oi o
   exact⟨rfl,j.sp 7 []⟩
  rintro _ w ⟨O,rfl,j⟩
  refine aG (RC.rt ?_)
  obtain rfl:=oi hb
  exact cL ⟨rfl,j.drop 0⟩
 refine RC.sx (RL.aP (f:=(fun x=>x)) 4 j zr Fd.self nF fun bk j=>(mv v1 (mv (vi p2) ?_)))
 obtain⟨af,bl,hb⟩:=bd hb
 refine RL.call zt zr L8 [bk,v1,(vi p2)] zr (aF (wU N (p2:=p2) (i0:=0) (i1:=6) j zr zr bl) ?_)
 rintro _ w ⟨aw,rfl,j⟩
 refine mv (.tuple #[aw,(vi af.2)]) (RL.extract aw (RL.extract (vi af.2) (aK aw (aK (vi af.2) (RL.ns (RL.aP (f:=(fun x=>x)) 6 j zr Fd.self nF fun bm j=>(mv (vi p2) ?_)))))))
 obtain⟨ag,bn,hb⟩:=bd hb
 refine RL.call zt zr Mc [bm,(vi p2)] zr (aF (uV N (p1:=p2) (i0:=0) j zr bn) ?_)
 rintro _ w ⟨ax,rfl,j⟩
 refine mv (.tuple #[ax,(vi ag.2)]) (RL.extract ax (RL.extract (vi ag.2) (aK ax (aK (vi ag.2) (RL.ns (mv aw (RL.dY 2 af.1 j uE (mv ax ?_))))))))
 refine RL.dY 0 ag.1 j uE (RL.jA (af.1.length:Int) (ag.1.length:Int) (aK (vi (IntKind.wrap .i64 ((af.1.length:Int)+ (ag.1.length:Int)))) (RL.nq (RC.sr (aK (vi 0) (RL.nt ?_))))))
 obtain⟨bt,hN,hb⟩:=bd hb
 refine RC.iter (fun(ae:Int×Int)=>SH E V [(7,ak),(8,vi af.2),(9,ai),(10,vi ag.2),(13,vi ae.1),(14,vi ae.2)] [own 43 ak ad.1,own 29 ai ab.1]) (fun(ae:Int×Int)=>SH E V [(7,ak),(8,vi af.2),(10,vi ag.2),(13,vi ae.1)] [own 43 ak ad.1,own 29 ai ab.1]) (lk E V) hN ?_ ?_ ?_ ?_
 ·exact j.sp 11 [6,4]
 ·rintro ae fl _ w ⟨O,rfl,j⟩ hb
  refine RC.seq (RC.sr (mv (vi ae.2) (mv ai (RL.dY 1 ab.1 j Ho (ic ae.2 ((ab.1.length:Int)) (RL.nt (eQ hb (fun hc hb=>?_) fun hc hb=>?_)))))))
  rotate_left
  ·refine RC.ex ?_
   obtain rfl:=oi hb
   exact⟨rfl,j.sp 2 [0,1]⟩
  refine RC.ss (RC.bs (mv (vi ae.1) (mv ai (mv (vi ae.2) ?_))))
  obtain⟨az,a0,hb⟩:=bd hb
  refine RL.bQ 1 j zr zr FV a0 (RL.iX (f:=(fun x=>x)) 1 j (jG 1 j a0 0) (bB a0).2.1 Fd.self yK fun bw j=>?_)
  refine RL.bD 0 az j uE (RL.jA ae.1 (az.length:Int) (aK (vi (IntKind.wrap .i64 (ae.1+ (az.length:Int)))) (RL.ns (mv ai (mv (vi ae.2) ?_)))))
  obtain⟨a7,a1,hb⟩:=bd hb
  refine RL.bQ 2 j zr zr FV a1 (RL.iX (f:=(fun x=>x)) 2 j (jG 2 j a1 0) (bB a1).2.1 Fd.self yK fun bx j=>?_)
  refine RL.bD 0 a7 j uE (ic ((a7.length:Int)) 0 (RL.nt (eQ hb (fun hc hb=>?_) fun hc hb=>?_)))
  ·refine RC.sr (aK (vb false) (RL.nt (RC.rb (bS ?_))))
   obtain rfl:=oi hb
   exact⟨rfl,cL ⟨rfl,j.drop 4⟩⟩
  refine RC.skip (bK (aG (RC.region (mv (vi ae.2) (RL.jA ae.2 1 (aK (vi (IntKind.wrap .i64 (ae.2+1))) (RL.nil ?_)))))))
  obtain rfl:=oi hb
  exact⟨rfl,j.sp 4 [2,3]⟩
 ·intro r U w e hK
  subst e
  refine bS ?_
  obtain rfl:=oi hb
  exact hK
 rintro ae _ w rfl ⟨O,rfl,j⟩
 rw [Fo.gl] at hb
 refine aG (RC.seq ?_)
 obtain⟨a2,o,hb⟩:=bd hb
 refine RC.jn (fun(a2:Bool)=>SH E V [(6,vb a2)] []) a2 ?_ ?_
 ·refine RC.region (mv (vi af.2) (ic af.2 0 (mv (vb (af.2==0)) (RL.gs true (af.2==0) (vi ag.2) rfl rfl rfl dW (RL.gs true (af.2==0) (vb (ag.2==0)) rfl rfl rfl (eE .eql .i64 ag.2 0 rfl (fun h=>by exact(cV h:cv (true&&((af.2==0)==true)) (vi ag.2)= (vi ag.2))) (fun _=>rfl) rfl) (RL.pick (af.2==0) (vb ((af.2==0)&&(ag.2==0))) (i6 true) (mv (vb ((af.2==0)&&(ag.2==0))) (fM o (fun aj o=>?_) fun aj o=>?_))))))))
  rotate_left
  ·refine bO aj (bO aj (bO aj (bO aj (fJ aj (vb false) (mv (vb false) (oT (RL.pick false (vb false) zr (aK (vb false) ?_))))))))
   refine RL.nil ?_
   obtain rfl:=oi o
   exact⟨rfl,j.sp 2 []⟩
  refine RL.move (vi ae.1) (cg aj) (RL.move ak (cg aj) (RL.dY (hg:=(cg aj)) 0 ad.1 j uE (RL.i7 ae.1 (ad.1.length:Int) (cg aj) (fJ aj (vb (ae.1==(ad.1.length:Int))) (mv (vb (ae.1==(ad.1.length:Int))) (fM o (fun av o=>?_) fun av o=>?_))))))
  rotate_left
  ·refine bO av (fJ av (vb false) (aK (vb false) (RL.nil ?_)))
   obtain rfl:=oi o
   exact⟨rfl,j.sp 2 []⟩
  obtain⟨a8,bq,o⟩:=bd o
  refine RL.call (cg av) zr FR [] zr (aF (gh N j bq) ?_)
  rintro _ w ⟨rfl,j⟩
  refine fJ av (vb a8) (aK (vb a8) (RL.nil ?_))
  obtain rfl:=oi o
  exact⟨rfl,j.sp 2 []⟩
 rintro _ w ⟨O,rfl,j⟩
 refine aG (RC.ret ?_)
 obtain rfl:=oi hb
 exact cL ⟨rfl,j.drop 0⟩
end Go.Gk
