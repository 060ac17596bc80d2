/-
  Printed texts: Go functions as plain functions, and that they are. No statement of the seed is proved here.
-/
import Derived.Test.YtllecmpemokbfabGreatDoorG1
import Derived.Test.YtllecmpemokbfabGreatDoorG2
import Derived.Test.YtllecmpemokbfabGreatDoorG3
import Derived.Test.YtllecmpemokbfabGreatDoorG4
import Derived.Test.YtllecmpemokbfabGreatDoorA2
set_option linter.unusedVariables false
set_option linter.unusedSimpArgs false
set_option linter.unusedSectionVars false
set_option maxRecDepth 100000
set_option maxHeartbeats 4000000
namespace Go.Gk
open Go Go.Proofs
variable (N:Nat) {E w:World} {b0 b2 b3 b3h i0 i1 i2 i3:Nat} {p0 p1 res:Int} {v0 v0_0 v0_1 v0_10 v0_11 v0_2 v0_3 v0_4 v0_5 v0_6 v0_7 v0_8 v0_9 v1 v2 v2_0 v3 v3h_0:Value} {V:List HP}
def rq (E:World) (V:List HP) (b0:Nat) (v0_0 v0_1:Value) (v0_2 v0_3:Value) (v0_4 v0_5:Value) (v0_6 v0_7:Value) (v0_8 v0_9:Value) (v0_10 v0_11:Value) (r:Int) (U:Nat->Value) (w:World):Prop:=lM bC 112 Tryz.f8 (gX E V b0 v0_0 v0_1 v0_2 v0_3 v0_4 v0_5 v0_6 v0_7 v0_8 v0_9 v0_10 v0_11 r) .ret U w
theorem qM {p0_0: (List (List aI))} {p0_1: (List aI)} {p0_2: (List bU)} {p0_3: (List cT)} {p0_4: (List (List aA))} {p0_5: (List aH)} {p0_6: (List (List Int))} {p0_7: (List cP)} {p0_8: (List Int)} {p0_9: (List Int)} {p0_10: (List Int)} {p0_11: (List eZ)} {p1: (List kA)} (o:Holds E w (bc 57 b0 [v0_0,v0_1,v0_2,v0_3,v0_4,v0_5,v0_6,v0_7,v0_8,v0_9,v0_10,v0_11]::rd v0_0 p0_0::rd v0_1 p0_1::rd v0_2 p0_2::rd v0_3 p0_3::rd v0_4 p0_4::rd v0_5 p0_5::rd v0_6 p0_6::rd v0_7 p0_7::rd v0_8 p0_8::rd v0_9 p0_9::rd v0_10 p0_10::rd v0_11 p0_11::V)) (h1:V[i1]? =some (rd v1 p1)) (hb:iI N p0_0 p0_1 p0_2 p0_3 p0_4 p0_5 p0_6 p0_7 p0_8 p0_9 p0_10 p0_11 p1=some res):
    Calls bC 8 [(vp b0 0),v1].toArray w (gE (gX E V b0 v0_0 v0_1 v0_2 v0_3 v0_4 v0_5 v0_6 v0_7 v0_8 v0_9 v0_10 v0_11 res)):=by
 unfold iI at hb
 refine enter Tryz.func8 zr zr ?_
 have o:=o.dup (i1+13) h1
 refine RC.sr (RL.D8 (v:=(vp b0 0)) zt zr o zr zr fun ae w o=>?_)
 refine aP (vi 0) (RL.nq (RC.sr (mv v1 (RL.bF 1 p1 o B9 (ic ((p1.length:Int)) 20 (RL.nt (fE hb (fun hc hb=>?_) fun hc hb=>?_)))))))
 ·refine RC.sr (aP (vi 2) (RL.nt (RC.rt ?_)))
  obtain rfl:=oi hb
  exact cB ⟨rfl,o.pk 15 [2]⟩
 refine RC.sx (RL.makeFunc [(vp ae 0)] (aP (.func (.func 19) #[] #[(vp ae 0)]) (RL.nq (RC.sr (mv v1 (RL.bF 1 p1 o B9 (mv (vi 0) (RL.nt ?_))))))))
 obtain⟨bj,hN,hb⟩:=bd hb
 refine RC.range (fun(ag:Nat) (an:Unit)=>SH E V [(0,vp b0 0),(1,v1),(2,vp ae 0),(5,(.func (.func 19) #[] #[(vp ae 0)])),(13,v1),(14,vi p1.length),(15,vi ag)] [bc 57 b0 [v0_0,v0_1,v0_2,v0_3,v0_4,v0_5,v0_6,v0_7,v0_8,v0_9,v0_10,v0_11],rd v0_0 p0_0,rd v0_1 p0_1,rd v0_2 p0_2,rd v0_3 p0_3,rd v0_4 p0_4,rd v0_5 p0_5,rd v0_6 p0_6,rd v0_7 p0_7,rd v0_8 p0_8,rd v0_9 p0_9,rd v0_10 p0_10,rd v0_11 p0_11,rd v1 p1,bc 38 ae [(vp b0 0)]]) (fun(an:Unit)=>SH E V [(0,vp b0 0)] [bc 57 b0 [v0_0,v0_1,v0_2,v0_3,v0_4,v0_5,v0_6,v0_7,v0_8,v0_9,v0_10,v0_11],rd v0_0 p0_0,rd v0_1 p0_1,rd v0_2 p0_2,rd v0_3 p0_3,rd v0_4 p0_4,rd v0_5 p0_5,rd v0_6 p0_6,rd v0_7 p0_7,rd v0_8 p0_8,rd v0_9 p0_9,rd v0_10 p0_10,rd v0_11 p0_11,rd v1 p1,bc 38 ae [(vp b0 0)]]) (rq E V b0 v0_0 v0_1 v0_2 v0_3 v0_4 v0_5 v0_6 v0_7 v0_8 v0_9 v0_10 v0_11) hN ?_ ?_ ?_ ?_ ?_
 ·exact o.sp 15 [2,3,4,5,6,7,8,9,10,11,12,13,14,1,0]
 ·rintro hm an _ w ⟨O,rfl,o⟩
  refine RC.sr (ic ((p1.length:Int)) ((p1.length:Int)) (RL.nq (RC.cY nb (RC.ex ?_))))
  exact⟨rfl,o.sp 15 [0,1,2,3,4,5,6,7,8,9,10,11,12,13,14]⟩
 ·rintro hm ag an fl _ w hk ⟨O,rfl,o⟩ hb
  refine RC.sr (ic ((ag:Int)) ((p1.length:Int)) (RL.nq (RC.cX (na hk) (RC.ss (RC.bs (mv (vi ag) ?_))))))
  obtain⟨j,a0,hb⟩:=bd hb
  refine RL.cF 13 o Ca a0 fun bl o=>(RL.bY 0 j o vL fun bm o=>(RL.alloc o Ew.z fun ad w o=>?_))
  refine aP (vi ag) (RL.bJ 0 o 1 zr vL fun w o=>?_)
  refine RL.nq (RC.seq ?_)
  obtain⟨ao,hj,hb⟩:=bd hb
  refine RC.jn (fun(ao:Bool)=>SH E V [(0,vp b0 0),(1,v1),(2,vp ae 0),(5,(.func (.func 19) #[] #[(vp ae 0)])),(6,vi ag),(7,vp ad 0),(13,v1),(14,vi p1.length),(15,vi ag),(42,vb ao)] [bc 57 b0 [v0_0,v0_1,v0_2,v0_3,v0_4,v0_5,v0_6,v0_7,v0_8,v0_9,v0_10,v0_11],rd v0_0 p0_0,rd v0_1 p0_1,rd v0_2 p0_2,rd v0_3 p0_3,rd v0_4 p0_4,rd v0_5 p0_5,rd v0_6 p0_6,rd v0_7 p0_7,rd v0_8 p0_8,rd v0_9 p0_9,rd v0_10 p0_10,rd v0_11 p0_11,rd v1 p1,bc 38 ae [(vp b0 0)],bx 69 ad j]) ao ?_ ?_
  ·refine RC.region (RL.bA rfl rf (RL.aM 0 o rfl ll wo (mv (vb j.Open) (RL.gs true j.Open (vp ad 3) rfl rfl rfl (dI xe) (RL.gs true j.Open (vi j.A) rfl rfl rfl (bQ 0 rfl o (fun h=>by exact(cI h:cv (true&&(j.Open==true)) (vp ad 3)= (vp ad 3))) rfl qf cE) (RL.gs true j.Open (vb (j.A != 0)) rfl rfl rfl (dT .neq .i64 j.A 0 rfl (fun h=>by exact(cI h:cv (true&&(j.Open==true)) (vi j.A)= (vi j.A))) (fun _=>rfl) rfl) (RL.gs true j.Open (vb (j.A != 0)) rfl rfl rfl (dD (hx:=fun h=>by exact(cI h:cv (true&&(j.Open==true)) (vb (j.A != 0))= (vb (j.A != 0))))) (RL.gs (true&&(j.Open==true)) (j.A != 0) (vp ad 4) rfl rfl rfl (dI xf) ?_))))))))
   refine RL.gs (true&&(j.Open==true)) (j.A != 0) (vi j.B) rfl rfl rfl (bQ 0 rfl o (fun h=>by exact(cI h:cv ((true&&(j.Open==true))&&((j.A != 0)==false)) (vp ad 4)= (vp ad 4))) rfl qg cE) (RL.gs (true&&(j.Open==true)) (j.A != 0) (vb (j.B != 0)) rfl rfl rfl (dT .neq .i64 j.B 0 rfl (fun h=>by exact(cI h:cv ((true&&(j.Open==true))&&((j.A != 0)==false)) (vi j.B)= (vi j.B))) (fun _=>rfl) rfl) (RL.gs true j.Open (vb ((j.A != 0)||(j.B != 0))) rfl rfl rfl (n0 (j.A != 0) rfl (fun h=>by exact(cI h:cv (true&&(j.Open==true)) (vb (j.A != 0))= (vb (j.A != 0)))) (fun h=>by exact oF (true&&(j.Open==true)) h)) (RL.pick j.Open (vb (j.Open&&((j.A != 0)||(j.B != 0)))) (gG true) (mv (vb (j.Open&&((j.A != 0)||(j.B != 0)))) (gC hj (fun ah hj=>?_) fun ah hj=>?_)))))
   ·refine bV ah (bV ah (bV ah (bV ah (zc (zc (zc (zc (bV ah ?_))))))))
    refine gF ah (vb true) (RL.nil ?_)
    obtain rfl:=oi hj
    exact⟨rfl,o.sp 18 [3,4,5,6,7,8,9,10,11,12,13,14,15,16,17,0]⟩
   refine RL.bA (hg:=(cg ah)) zr rf (RL.aM (hg:=(cg ah)) 0 o zr ll wo (RL.not (hg:=(cg ah)) j.Open (RL.move (vb (!j.Open)) (cg ah) (gC hj (fun aj hj=>?_) fun aj hj=>?_))))
   ·refine RL.bA (hg:=(cg aj)) rfl tt (RL.aZ (hg:=(cg aj)) 0 o rfl mh qB fun bn o=>(RL.build (⟨false,0⟩:eZ) (cg aj) rfl o [] rfl Dj rfl (fun M hs g=>by have h:=z9 M;exact dA.nil h) fun bo o=>?_))
    refine RL.HM 1 0 j.eZ (⟨false,0⟩:eZ) (cg aj) zr o zr zr zr zr FM zr (gF aj (vb (!(decide (j.eZ= (⟨false,0⟩:eZ))))) (hg:=(cg ah)) (gF ah (vb (!(decide (j.eZ= (⟨false,0⟩:eZ))))) (RL.nil ?_)))
    obtain rfl:=oi hj
    exact⟨rfl,o.sp 20 [5,6,7,8,9,10,11,12,13,14,15,16,17,18,19,2]⟩
   refine bV aj (bV aj (bV aj (bV aj (gF aj (vb false) (hg:=(cg ah)) (gF ah (vb false) (RL.nil ?_))))))
   obtain rfl:=oi hj
   exact⟨rfl,o.sp 18 [3,4,5,6,7,8,9,10,11,12,13,14,15,16,17,0]⟩
  rintro _ w ⟨O,rfl,o⟩
  refine aG (fE hb (fun hc hb=>?_) fun hc hb=>?_)
  ·refine RC.sr (aP (vi 3) (RL.nt (RC.rt (lj (bZ ?_)))))
   obtain rfl:=oi hb
   exact⟨rfl,cB ⟨rfl,o.pk 16 [0]⟩⟩
  refine RC.ss ?_
  obtain⟨aq,hj,hb⟩:=bd hb
  refine RC.jn (fun(aq:Bool)=>SH E V [(0,vp b0 0),(1,v1),(2,vp ae 0),(5,(.func (.func 19) #[] #[(vp ae 0)])),(6,vi ag),(7,vp ad 0),(8,vb aq),(13,v1),(14,vi p1.length),(15,vi ag)] [bc 57 b0 [v0_0,v0_1,v0_2,v0_3,v0_4,v0_5,v0_6,v0_7,v0_8,v0_9,v0_10,v0_11],rd v0_0 p0_0,rd v0_1 p0_1,rd v0_2 p0_2,rd v0_3 p0_3,rd v0_4 p0_4,rd v0_5 p0_5,rd v0_6 p0_6,rd v0_7 p0_7,rd v0_8 p0_8,rd v0_9 p0_9,rd v0_10 p0_10,rd v0_11 p0_11,rd v1 p1,bc 38 ae [(vp b0 0)],bx 69 ad j]) aq ?_ ?_
  ·refine RC.region (mv (.func (.func 19) #[] #[(vp ae 0)]) (RL.bA zr xe (RL.aM 15 o zr qf cE ?_)))
   have o:=((o.dup 6 rfl).pull 1).pull 16
   obtain⟨a1,a2,hj⟩:=bd hj
   refine RL.oE [(vp ae 0)] Ex [(vi j.A)] (aF (iX N (p0:=j.A) o a2) ?_)
   rintro _ w ⟨rfl,o⟩
   refine mv (vb a1) (gC hj (fun ak hj=>?_) fun ak hj=>?_)
   rotate_left
   ·refine bV ak (bV ak (bV ak (bV ak (gF ak (vb false) (aP (vb false) (RL.nil ?_))))))
    obtain rfl:=oi hj
    exact⟨rfl,o.sp 18 [1,3,4,5,6,7,8,9,10,11,12,13,14,15,0,17]⟩
   refine RL.move (.func (.func 19) #[] #[(vp ae 0)]) (cg ak) (RL.bA (hg:=(cg ak)) zr xf (RL.aM (hg:=(cg ak)) 17 o zr qg cE ?_))
   have o:=((o.dup 8 rfl).pull 2).pull 2
   obtain⟨ay,a3,hj⟩:=bd hj
   refine RL.oE (hg:=(cg ak)) [(vp ae 0)] Ex [(vi j.B)] (aF (iX N (p0:=j.B) o a3) ?_)
   rintro _ w ⟨rfl,o⟩
   refine gF ak (vb ay) (aP (vb ay) (RL.nil ?_))
   obtain rfl:=oi hj
   exact⟨rfl,o.sp 20 [1,5,6,7,8,9,10,11,12,13,14,15,16,17,0,19]⟩
  rintro _ w ⟨O,rfl,o⟩
  refine aG (RC.seq (RC.sr (RL.bA zr rf (RL.aM 15 o zr ll wo (RL.nt ?_)))))
  obtain⟨ar,hj,hb⟩:=bd hb
  refine RC.jn (fun(ar:Bool)=>SH E V [(0,vp b0 0),(1,v1),(2,vp ae 0),(5,(.func (.func 19) #[] #[(vp ae 0)])),(6,vi ag),(7,vp ad 0),(8,vb ar),(13,v1),(14,vi p1.length),(15,vi ag)] [bc 57 b0 [v0_0,v0_1,v0_2,v0_3,v0_4,v0_5,v0_6,v0_7,v0_8,v0_9,v0_10,v0_11],rd v0_0 p0_0,rd v0_1 p0_1,rd v0_2 p0_2,rd v0_3 p0_3,rd v0_4 p0_4,rd v0_5 p0_5,rd v0_6 p0_6,rd v0_7 p0_7,rd v0_8 p0_8,rd v0_9 p0_9,rd v0_10 p0_10,rd v0_11 p0_11,rd v1 p1,bc 38 ae [(vp b0 0)],bx 69 ad j]) ar ?_ ?_
  ·refine fE hj (fun hc hj=>?_) fun hc hj=>?_
   rotate_left
   ·refine RC.skip ?_
    obtain rfl:=oi hj
    exact⟨rfl,o.sp 16 [0,1,2,3,4,5,6,7,8,9,10,11,12,13,14,15]⟩
   refine RC.region (mv (.func (.func 19) #[] #[(vp ae 0)]) (RL.bA zr tt (RL.bA zr re (RL.aM (f:=(fun x=>x.eZ.Number)) 15 o zr (Fd.comp (f:=fun(x:kA)=>x.eZ) (fun(x:eZ)=>x.Number) mh mx) cE ?_))))
   have o:=((o.dup 6 rfl).pull 1).pull 16
   obtain⟨a4,a5,hj⟩:=bd hj
   refine RL.oE [(vp ae 0)] Ex [(vi j.eZ.Number)] (aF (iX N (p0:=j.eZ.Number) o a5) ?_)
   rintro _ w ⟨rfl,o⟩
   refine aP (vb a4) (RL.nil ?_)
   obtain rfl:=oi hj
   exact⟨rfl,o.sp 18 [1,3,4,5,6,7,8,9,10,11,12,13,14,15,0,17]⟩
  rintro _ w ⟨O,rfl,o⟩
  refine aG (RC.seq (RC.sr (RL.bA rfl rf (RL.aM 15 o rfl ll wo (mv (vb j.Open) (RL.gs true j.Open (vp ad 1) rfl rfl rfl (dI tt) (RL.gs true j.Open (vp ad 1) rfl rfl rfl (dI (hx:=fun h=>by exact(cI h:cv (true&&(j.Open==true)) (vp ad 1)= (vp ad 1))) zj) (RL.gs true j.Open (vb j.eZ.bU) rfl rfl rfl (bQ (f:=(fun x=>x.eZ.bU)) 15 rfl o (fun h=>by exact(cI h:cv (true&&(j.Open==true)) (vp ad 1)= (vp ad 1))) rfl (Fd.comp (f:=fun(x:kA)=>x.eZ) (fun(x:eZ)=>x.bU) mh uJ) wo) ?_))))))))
  refine RL.pick j.Open (vb (j.Open&&j.eZ.bU)) (gG true) (RL.nt ?_)
  obtain⟨al,hj,hb⟩:=bd hb
  refine RC.jn (fun(al:Bool)=>SH E V [(0,vp b0 0),(1,v1),(2,vp ae 0),(5,(.func (.func 19) #[] #[(vp ae 0)])),(6,vi ag),(7,vp ad 0),(8,vb al),(13,v1),(14,vi p1.length),(15,vi ag)] [bc 57 b0 [v0_0,v0_1,v0_2,v0_3,v0_4,v0_5,v0_6,v0_7,v0_8,v0_9,v0_10,v0_11],rd v0_0 p0_0,rd v0_1 p0_1,rd v0_2 p0_2,rd v0_3 p0_3,rd v0_4 p0_4,rd v0_5 p0_5,rd v0_6 p0_6,rd v0_7 p0_7,rd v0_8 p0_8,rd v0_9 p0_9,rd v0_10 p0_10,rd v0_11 p0_11,rd v1 p1,bc 38 ae [(vp b0 0)],bx 69 ad j]) al ?_ ?_
  ·refine fE hj (fun hc hj=>?_) fun hc hj=>?_
   rotate_left
   ·refine RC.skip ?_
    obtain rfl:=oi hj
    exact⟨rfl,o.sp 16 [0,1,2,3,4,5,6,7,8,9,10,11,12,13,14,15]⟩
   obtain⟨au,hjj,hj⟩:=bd hj
   refine RC.jn (fun(au:Bool)=>SH E V [(0,vp b0 0),(1,v1),(2,vp ae 0),(5,(.func (.func 19) #[] #[(vp ae 0)])),(6,vi ag),(7,vp ad 0),(8,vb au),(13,v1),(14,vi p1.length),(15,vi ag)] [bc 57 b0 [v0_0,v0_1,v0_2,v0_3,v0_4,v0_5,v0_6,v0_7,v0_8,v0_9,v0_10,v0_11],rd v0_0 p0_0,rd v0_1 p0_1,rd v0_2 p0_2,rd v0_3 p0_3,rd v0_4 p0_4,rd v0_5 p0_5,rd v0_6 p0_6,rd v0_7 p0_7,rd v0_8 p0_8,rd v0_9 p0_9,rd v0_10 p0_10,rd v0_11 p0_11,rd v1 p1,bc 38 ae [(vp b0 0)],bx 69 ad j]) au ?_ ?_
   ·refine RC.ye mixed [0,0,0,0,0,0,0,0,0,0,2,0,0,0,0,0,0,0,0,0,0,0,0,0,0] [0,1,2,3,4,5,6,7,8,9,10,11,12,13,14,15,16,17,18,19,20,21,22,23,24] ?_
    have o:=o.drew
    refine DP.e0 zr (RL.bA zr tt (cJ zr (RL.bA zr re (cJ zr (RL.aM (f:=(fun x=>x.eZ.Number)) 15 o zr (Fd.comp (f:=fun(x:kA)=>x.eZ) (fun(x:eZ)=>x.Number) mh mx) cE (cJ zr (RL.aX 14 (vp b0 0) o Ev (cJ zr ?_))))))))
    refine RL.nilCheck zr (cJ zr (RL.bA zr lS (cJ zr (RL.bA zr lq (cJ zr (RL.aX 0 v0_2 o tn (cJ zr (RL.bF 3 p0_2 o uL ?_))))))))
    refine cJ zr (RL.jq (p0_2.length:Int) 1 (uF zr ?_))
    obtain⟨a6,a7,hjj⟩:=bd hjj
    refine RL.call zt zr FL [(vi j.eZ.Number),(vi 0),(vi (IntKind.wrap .i64 ((p0_2.length:Int) - 1)))] zr (aF (oL N (p0:=j.eZ.Number) (p1:=0) (p2:=(IntKind.wrap .i64 ((p0_2.length:Int) - 1))) o a7) ?_)
    rintro _ w ⟨rfl,o⟩
    refine z5 zr (mv (vb a6) (DP.d0 (gC hjj (fun af hjj=>?_) fun af hjj=>?_)))
    rotate_left
    ·refine DP.e0 zr (bV af (cJ zr (bV af (cJ zr (bV af (cJ zr (bV af (cJ zr ?_))))))))
     refine bV af (cJ zr (bV af (cJ zr (bV af (cJ zr (bV af (cJ zr (bV af ?_))))))))
     refine cJ zr (bV af (cJ zr (bV af (cJ zr (gF af (vb false) (cJ zr (aP (vb false) (DP.d0 ?_))))))))
     refine DP.z ?_
     obtain rfl:=oi hjj
     exact⟨rfl,o.sp 16 [0,1,2,3,4,5,6,7,8,9,10,11,12,13,14,15]⟩
    refine DP.e0 zr (RL.aX (hg:=(cg af)) 14 (vp b0 0) o Ev (cJ zr (RL.nilCheck (hg:=(cg af)) zr (cJ zr (RL.bA (hg:=(cg af)) zr lS (cJ zr (RL.bA (hg:=(cg af)) zr lq (cJ zr ?_))))))))
    refine RL.aX (hg:=(cg af)) 0 v0_2 o tn (cJ zr (RL.bA (hg:=(cg af)) zr tt (cJ zr (RL.bA (hg:=(cg af)) zr re (cJ zr (RL.aM (hg:=(cg af)) (f:=(fun x=>x.eZ.Number)) 15 o zr (Fd.comp (f:=fun(x:kA)=>x.eZ) (fun(x:eZ)=>x.Number) mh mx) cE (cJ zr ?_)))))))
    obtain⟨av,a8,hjj⟩:=bd hjj
    refine RL.cF (hg:=(cg af)) 3 o w4 a8 fun bp o=>(cJ zr (RL.iw (hg:=(cg af)) 0 o zr w7 qe fun bq o=>(cJ zr (RL.bH (hg:=(cg af)) av.gh 0 o wo (cJ zr (gF af (vb av.gh) (cJ zr (aP (vb av.gh) ?_))))))))
    refine DP.d0 (DP.z ?_)
    obtain rfl:=oi hjj
    exact⟨rfl,o.sp 18 [2,3,4,5,6,7,8,9,10,11,12,13,14,15,16,17]⟩
   rintro _ w ⟨O,rfl,o⟩
   obtain rfl:=oi hj
   exact⟨rfl,o.sp 16 [0,1,2,3,4,5,6,7,8,9,10,11,12,13,14,15]⟩
  rintro _ w ⟨O,rfl,o⟩
  refine aG (RC.bs (mv (vb al) (RL.not al (aP (vb (!al)) (RL.nt (fE hb (fun hc hb=>?_) fun hc hb=>?_))))))
  ·refine RC.sr (aP (vi 9) (RL.nt (RC.rb (lj (bZ ?_)))))
   obtain rfl:=oi hb
   exact⟨rfl,cB ⟨rfl,o.pk 16 [0]⟩⟩
  refine RC.sr (RL.bA rfl rf (RL.aM 15 o rfl ll wo (RL.not j.Open (mv (vb (!j.Open)) (RL.gs true (!j.Open) (vp ad 4) rfl rfl rfl (dI xf) (RL.gs true (!j.Open) (vi j.B) rfl rfl rfl (bQ 15 rfl o (fun h=>by exact(cI h:cv (true&&((!j.Open)==true)) (vp ad 4)= (vp ad 4))) rfl qg cE) (RL.gs true (!j.Open) (vp ad 3) rfl rfl rfl (dI xe) (RL.gs true (!j.Open) (vi j.A) rfl rfl rfl (bQ 15 rfl o (fun h=>by exact(cI h:cv (true&&((!j.Open)==true)) (vp ad 3)= (vp ad 3))) rfl qf cE) ?_))))))))
  refine RL.gs true (!j.Open) (vb (decide (j.B<=j.A))) rfl rfl rfl (dT .leq .i64 j.B j.A rfl (fun h=>by exact(cI h:cv (true&&((!j.Open)==true)) (vi j.B)= (vi j.B))) (fun h=>by exact(cI h:cv (true&&((!j.Open)==true)) (vi j.A)= (vi j.A))) rfl) (RL.pick (!j.Open) (vb ((!j.Open)&&(decide (j.B<=j.A)))) (gG true) (aP (vb ((!j.Open)&&(decide (j.B<=j.A)))) (RL.nt (fE hb (fun hc hb=>?_) fun hc hb=>?_))))
  ·refine RC.sr (aP (vi 8) (RL.nt (RC.rb (lj (bZ ?_)))))
   obtain rfl:=oi hb
   exact⟨rfl,cB ⟨rfl,o.pk 16 [0]⟩⟩
  refine RC.seq (RC.ye mixed [0,0,0,0,2,0] [0,1,2,3,4,5] ?_)
  have o:=o.drew
  refine DP.e0 zr (mv v1 (cJ zr (mv (vi ag) (cJ zr ?_))))
  obtain⟨br,a9,hb⟩:=bd hb
  refine RL.cut (hl:= .inr ⟨rfl,zr⟩) 13 o Ca (.inl zr) a9 fun ba o=>(cJ zr (RL.aZ (f:=(fun x=>x)) 16 o zr Fd.self vL fun bb o=>(uF zr ?_)))
  obtain⟨bf,bg,hb⟩:=bd hb
  refine RL.call zt zr Hn [ba,bb] zr (aF (nN N (i0:=1) (i1:=0) o zr zr bg) ?_)
  rintro _ w ⟨rfl,o⟩
  refine z5 zr (aP (vb bf) (DP.d0 (DP.z (aG (fE hb (fun hc hb=>?_) fun hc hb=>?_)))))
  rotate_left
  ·refine RC.skip (bT (bT (aG (RC.region (RL.inc hk hm (mv (vi ((ag+1:Nat):Int)) (RL.nil ?_)))))))
   obtain rfl:=oi hb
   exact⟨rfl,o.sp 18 [2,3,4,5,6,7,8,9,10,11,12,13,14,15,16]⟩
  refine RC.sr (aP (vi 7) (RL.nt (RC.rb (lj (bZ ?_)))))
  obtain rfl:=oi hb
  exact⟨rfl,cB ⟨rfl,o.pk 18 [2]⟩⟩
 ·intro r U w e hK
  subst e
  refine bZ ?_
  obtain rfl:=oi hb
  exact hK
 rintro an _ w rfl ⟨O,rfl,o⟩
 rw [Fo.gm] at hb
 refine aG (RC.sr (aP (vi 0) (RL.nt (RC.ret ?_))))
 obtain rfl:=oi hb
 exact cB ⟨rfl,o.pk 15 [0]⟩
def kC (E:World) (V:List HP) (res:Int×Bool) (v:Value) (w:World):Prop:=v = .tuple #[(vi res.1),(vb res.2)]/\Holds E w V
theorem kd {p0: (List cT)} {p1:eK} {p2:cT->eK->Option Int} {res:Int×Bool} (o:Holds E w V) (h0:V[i0]? =some (rd v0 p0)) (h1:V[i1]? =some (rd v1 p1)) (h2:D4 bC E V v2 p2 (fun(r:Int)=>Value.int .i64 r)) (hb:dV N p0 p1 p2=some res):
    Calls bC 22 [v0,v1,v2].toArray w (gE (kC E V res)):=by
 unfold dV at hb
 refine enter Tryz.func22 zr zr ?_
 have o:=(o.dup (i0+0) h0).dup (i1+1) h1
 refine RC.sr (RL.dC 0 v1 o zr fun ae w o=>?_)
 refine aP (vi 0) (aP (vb false) (RL.ns (mv v0 (RL.bF 2 p0 o BZ (aP (vi p0.length) (RL.ns (mv (vi p0.length) (aP (vi 0) ?_))))))))
 refine aP (vi p0.length) (RL.nq ?_)
 obtain⟨av,hN,hb⟩:=bd hb
 refine RC.iter (fun(j:Int×Int)=>SH E V [(0,v0),(2,v2),(4,vp ae 0),(8,vi p0.length),(9,vi j.1),(10,vi j.2)] [rd v0 p0,bx 29 ae p1]) (fun(j:Int×Int)=>SH E V [(0,v0),(2,v2),(4,vp ae 0),(8,vi p0.length),(9,vi j.1)] [rd v0 p0,bx 29 ae p1]) (fun(r:Empty) _ _=>r.elim) hN ?_ ?_ ?_ ?_
 ·exact o.sp 3 [2,0]
 ·rintro j fl _ w ⟨O,rfl,o⟩ hb
  refine RC.seq (RC.sr (mv (vi j.1) (mv (vi j.2) (ic j.1 j.2 (RL.nt (fE hb (fun hc hb=>?_) fun hc hb=>?_))))))
  rotate_left
  ·refine RC.ex ?_
   obtain rfl:=oi hb
   exact⟨rfl,o.sp 2 [0,1]⟩
  refine RC.sn (RC.bs (mv (vi j.1) (mv (vi j.2) (RL.jq j.1 j.2 (RL.conv (IntKind.wrap .i64 (j.1+j.2)) zt zr zr ⟨_,Bt⟩ DN (RL.bin (v:=(.int .u64 (IntKind.wrap .u64 (IntKind.wrap .i64 (j.1+j.2))))) (v':=(.int .u64 1)) (u:=(.int .u64 (Int.fdiv (IntKind.wrap .u64 (IntKind.wrap .i64 (j.1+j.2))) 2))) zt zr zr zr (fun _=>zr) (fun _=>zr) (RL.conv (Int.fdiv (IntKind.wrap .u64 (IntKind.wrap .i64 (j.1+j.2))) 2) zt zr zr ⟨_,DN⟩ Bt (aP (vi (IntKind.wrap .i64 (Int.fdiv (IntKind.wrap .u64 (IntKind.wrap .i64 (j.1+j.2))) 2))) ?_))))))))
  refine RL.nq (RC.ye mixed [0,0,0,0,0,0,2,0] [0,1,2,3,4,5,6,7] ?_)
  have o:=o.drew
  refine DP.e0 zr (mv v2 (cJ zr (mv v0 (cJ zr (mv (vi (IntKind.wrap .i64 (Int.fdiv (IntKind.wrap .u64 (IntKind.wrap .i64 (j.1+j.2))) 2))) (cJ zr ?_))))))
  obtain⟨ak,al,hb⟩:=bd hb
  refine RL.cF 0 o AU al fun ax o=>(cJ zr (RL.bY 0 ak o uN fun ay o=>(cJ zr (RL.aZ (f:=(fun x=>x)) 3 o zr Fd.self r6 fun az o=>(uF zr ?_)))))
  obtain⟨an,ao,hb⟩:=bd hb
  refine RL.yY 1 0 zt zr o zr h2 5 zr zr zr zr zr ao fun w o=>(z5 zr (ic an 0 (DP.d0 (DP.z (aG ?_)))))
  obtain⟨af,hj,hb⟩:=bd hb
  refine RC.jn (fun(af:Int×Int)=>SH E V [(0,v0),(2,v2),(4,vp ae 0),(8,vi p0.length),(9,vi af.1),(10,vi af.2)] [rd v0 p0,bx 29 ae p1]) af ?_ ?_
  ·refine fE hj (fun hc hj=>?_) fun hc hj=>?_
   rotate_left
   ·refine RC.region (mv (vi (IntKind.wrap .i64 (Int.fdiv (IntKind.wrap .u64 (IntKind.wrap .i64 (j.1+j.2))) 2))) (aP (vi (IntKind.wrap .i64 (Int.fdiv (IntKind.wrap .u64 (IntKind.wrap .i64 (j.1+j.2))) 2))) (RL.nil ?_)))
    obtain rfl:=oi hj
    exact⟨rfl,o.sp 5 [3,4]⟩
   refine RC.region (mv (vi (IntKind.wrap .i64 (Int.fdiv (IntKind.wrap .u64 (IntKind.wrap .i64 (j.1+j.2))) 2))) (RL.jq (IntKind.wrap .i64 (Int.fdiv (IntKind.wrap .u64 (IntKind.wrap .i64 (j.1+j.2))) 2)) 1 (aP (vi (IntKind.wrap .i64 ((IntKind.wrap .i64 (Int.fdiv (IntKind.wrap .u64 (IntKind.wrap .i64 (j.1+j.2))) 2))+1))) (RL.nil ?_))))
   obtain rfl:=oi hj
   exact⟨rfl,o.sp 5 [3,4]⟩
  rintro _ w ⟨O,rfl,o⟩
  refine bT ?_
  obtain rfl:=oi hb
  exact⟨rfl,o.sp 2 [0,1]⟩
 ·intro r _ _ _ _
  exact r.elim
 rintro j _ w rfl ⟨O,rfl,o⟩
 rw [Fo.gm] at hb
 refine aG (RC.seq ?_)
 obtain⟨ah,hj,hb⟩:=bd hb
 refine RC.jn (fun(ah:Bool)=>SH E V [(6,vi j.1),(7,vb ah)] []) ah ?_ ?_
 ·refine RC.ye mixed [1,0,0,0,0,0,0,0,0,0,0,2,0,0,0,0] [0,1,2,3,4,5,6,7,8,9,10,11,12,13,14,15] ?_
  have o:=o.drew
  refine DP.e1 (vi j.1) zr (fun w=>RL.move (vi j.1) zt DP.d1) (DP.e0 zr (mv (vi j.1) (cJ zr (mv (vi p0.length) (cJ zr (ic j.1 ((p0.length:Int)) (cJ zr (mv (vb (decide (j.1< (p0.length:Int)))) ?_))))))))
  refine DP.d0 (gC hj (fun ab hj=>?_) fun ab hj=>?_)
  rotate_left
  ·refine DP.e0 zr (bV ab (cJ zr (bV ab (cJ zr (bV ab (cJ zr (bV ab (cJ zr ?_))))))))
   refine bV ab (cJ zr (bV ab (uF zr (bV ab (z5 zr (bV ab (cJ zr (gF ab (vb false) ?_))))))))
   refine cJ zr (aP (vi j.1) (cJ zr (aP (vb false) (DP.d0 (DP.z ?_)))))
   obtain rfl:=oi hj
   exact⟨rfl,o.sp 2 []⟩
  refine DP.e0 zr (RL.move v2 (cg ab) (cJ zr (RL.move v0 (cg ab) (cJ zr (RL.move (vi j.1) (cg ab) (cJ zr ?_))))))
  obtain⟨aq,ar,hj⟩:=bd hj
  refine RL.cF (hg:=(cg ab)) 0 o AU ar fun a0 o=>(cJ zr (RL.bY (hg:=(cg ab)) 0 aq o uN fun a1 o=>(cJ zr (RL.aZ (hg:=(cg ab)) (f:=(fun x=>x)) 3 o zr Fd.self r6 fun a2 o=>(uF zr ?_)))))
  obtain⟨ai,au,hj⟩:=bd hj
  refine RL.yY 1 0 (cg ab) zr o zr h2 5 zr zr zr zr zr au fun w o=>(z5 zr (RL.kz ai 0 (cg ab) (cJ zr (gF ab (vb (ai==0)) (cJ zr (aP (vi j.1) (cJ zr (aP (vb (ai==0)) ?_))))))))
  refine DP.d0 (DP.z ?_)
  obtain rfl:=oi hj
  exact⟨rfl,o.sp 5 []⟩
 rintro _ w ⟨O,rfl,o⟩
 refine aG (RC.ret ?_)
 obtain rfl:=oi hb
 exact nZ ⟨rfl,o.drop 0⟩
theorem qN {p0:cT} {p1:eK} (j:Holds E w V) (h0:V[i0]? =some (rd v0 p0)) (h1:V[i1]? =some (rd v1 p1)) (o:fM N p0 p1=some res):
    Calls bC 23 [v0,v1].toArray w (gE (aO E V res)):=by
 unfold fM at o
 refine enter Tryz.func23 zr zr ?_
 have j:=(j.dup (i0+0) h0).dup (i1+1) h1
 refine RC.sr (RL.dC 1 v0 j zr fun ah w j=>?_)
 have j:=j.gx (i:=0) rfl
 refine RL.dC 1 v1 j zr fun ai w j=>?_
 have j:=j.gx (i:=0) rfl
 refine aP (vi 0) (RL.nq (RC.ye mixed [0,2,1,2,0] [0,2,1,3,4] ?_))
 have j:=j.drew
 refine DP.e0 zr (RL.bY 1 p0 j uN fun aa j=>(DP.d0 (DP.vI p1 1 zr zt j r6 fun ab a35 aj j=>(DP.e2 zr ?_))))
 obtain⟨ak,ad,o⟩:=bd o
 refine RL.call zt zr De [aa] zr (aF (ku N (i0:=2) j zr ad) ?_)
 rintro ae w j
 refine DP.d2 (⟨zt,j.kM 1⟩) (DP.e2 zr ?_)
 obtain⟨af,ag,o⟩:=bd o
 refine RL.call zt zr Fj [ae,ab] zr (aF (kW N (i0:=0) (i1:=2) j zr zr ag) ?_)
 rintro _ w ⟨rfl,j⟩
 refine DP.d2 (⟨zt,j.kM 1⟩) (DP.e0 zr (aP (vi af) (DP.d0 ?_)))
 have j:=j.pl 8 [0,2,3,4,5,6,7]
 refine DP.z (aG (RC.ret ?_))
 obtain rfl:=oi o
 exact cB ⟨rfl,j.drop 7⟩
theorem j4 {p0:jS} {p1:eK} (o:Holds E w V) (h0:V[i0]? =some (rd v0 p0)) (h1:V[i1]? =some (rd v1 p1)) (hb:gw N p0 p1=some res):
    Calls bC 9 [v0,v1].toArray w (gE (aO E V res)):=by
 unfold gw at hb
 refine enter Tryz.func9 zr zr ?_
 have o:=(o.dup (i0+0) h0).dup (i1+1) h1
 refine RC.sr (RL.dC 1 v0 o zr fun ai w o=>?_)
 refine RL.dC 1 v1 o zr fun aj w o=>?_
 refine aP (vi 0) (RL.ns (RL.bA zr tq (RL.aZ 1 o zr pd AR fun ad o=>(RL.aZ (f:=(fun x=>x)) 1 o zr Fd.self r6 fun ae o=>?_))))
 obtain⟨aa,af,hb⟩:=bd hb
 refine RL.call trivial rfl Hp [ad,ae,(.func (.func 23) #[] #[])] rfl (aF (kd N (i0:=1) (i1:=0) o rfl rfl ⟨23,[],rfl,Ho,fun w Γl v v' y0 y1 r i j o hi hj hr=>by exact aF (qN N (i0:=i) (i1:=j) o hi hj hr) fun _ _ h=>h⟩ af) ?_)
 rintro _ w ⟨rfl,o⟩
 refine mv (.tuple #[(vi aa.1),(vb aa.2)]) (RL.extract (vi aa.1) (RL.extract (vb aa.2) (aP (vi aa.1) (aP (vb aa.2) (RL.nq (RC.sr (mv (vb aa.2) (RL.not aa.2 ?_))))))))
 refine RL.nt (fE hb (fun hc hb=>?_) fun hc hb=>?_)
 ·refine RC.sr (aP (vi (-1)) (RL.nt (RC.rt ?_)))
  obtain rfl:=oi hb
  exact cB ⟨rfl,o.drop 6⟩
 refine RC.sx (mv (vi aa.1) (aP (vi aa.1) (RL.nt (RC.ret ?_))))
 obtain rfl:=oi hb
 exact cB ⟨rfl,o.drop 6⟩
theorem lY {p0:eZ} (j:Holds E w V) (h0:V[i0]? =some (rd v0 p0)) (h1:V[i1]? =some (pt v1 p1)) (o:gA N p0 p1=some res):
    Calls bC 26 [v0,v1].toArray w (gE (aO E V res)):=by
 unfold gA at o
 refine enter Tryz.func26 zr zr ?_
 have j:=(j.dup (i0+0) h0).uu (i:=i1+1) h1
 refine RC.sr (RL.dC 1 v0 j zr fun ab w j=>?_)
 refine aP (vi 0) (RL.nq (RC.sr (RL.bA zr zj (RL.aM 0 j zr uJ wo (RL.nt (fE o (fun hc o=>?_) fun hc o=>?_))))))
 rotate_left
 ·refine RC.sx (RL.bA zr re (RL.aM 0 j zr mx cE (aP (vi p0.Number) (RL.nt (RC.ret ?_)))))
  obtain rfl:=oi o
  exact cB ⟨rfl,j.drop 3⟩
 refine RC.sr (RL.bH p1 1 j cE (RL.bA zr re (RL.aM 0 j zr mx cE (RL.jq p1 p0.Number (aP (vi (IntKind.wrap .i64 (p1+p0.Number))) (RL.nt (RC.rt ?_)))))))
 obtain rfl:=oi o
 exact cB ⟨rfl,j.drop 3⟩
def ru (E:World) (V:List HP) (b2:Nat) (v2_0:Value) (p2_0: (List (Int×Bool))) (b3 b3h:Nat) (res: (List Int)) (v:Value) (w:World):Prop:=∃u3h_0:Value,v = .tuple #[]/\Holds E w ([bc 77 b2 [v2_0],mp v2_0 p2_0,bc 78 b3 [(vp b3h 0)],bc 112 b3h [u3h_0],own 3 u3h_0 res]++V)
theorem lZ {p2_0: (List (Int×Bool))} {p3h_0: (List Int)} {res: (List Int)} (j:Holds E w (bc 77 b2 [v2_0]::mp v2_0 p2_0::bc 78 b3 [(vp b3h 0)]::bc 112 b3h [v3h_0]::own 3 v3h_0 p3h_0::V)) (hb:iJ N p0 p1 p2_0 p3h_0=some res):
    Calls bC 28 [(vi p0),(vi p1),(vp b2 0),(vp b3 0)].toArray w (gE (ru E V b2 v2_0 p2_0 b3 b3h res)):=by
 unfold iJ at hb
 refine enter Tryz.func28 zr zr (RC.seq ?_)
 obtain⟨ae,o,hb⟩:=bd hb
 refine RC.jn (fun(ae:Bool)=>SH E V [(0,vi p0),(1,vi p1),(2,vp b2 0),(3,vp b3 0),(15,vb ae)] [bc 77 b2 [v2_0],mp v2_0 p2_0,bc 78 b3 [(vp b3h 0)],bc 112 b3h [v3h_0],own 3 v3h_0 p3h_0]) ae ?_ ?_
 ·refine RC.region (RL.aX 0 v2_0 j Cb (mv (vi p0) (RL.nz 1 p0 zt j Dk (RL.not (dQ p2_0 p0 (false:Bool)) (mv (vb (!(dQ p2_0 p0 (false:Bool)))) (gC o (fun aa o=>?_) fun aa o=>?_))))))
  ·refine RL.aX (hg:=(cg aa)) 0 v2_0 j Cb (RL.move (vi p1) (cg aa) (RL.nz 1 p1 (cg aa) j Dk (RL.not (hg:=(cg aa)) (dQ p2_0 p1 (false:Bool)) (gF aa (vb (!(dQ p2_0 p1 (false:Bool)))) (RL.nil ?_)))))
   obtain rfl:=oi o
   exact⟨rfl,j.sp 5 [0,1,2,3,4]⟩
  refine bV aa (bV aa (bV aa (bV aa (gF aa (vb false) (RL.nil ?_)))))
  obtain rfl:=oi o
  exact⟨rfl,j.sp 5 [0,1,2,3,4]⟩
 rintro _ w ⟨O,rfl,j⟩
 refine aG ?_
 obtain⟨af,o,hb⟩:=bd hb
 refine RC.jn (fun(af: (List Int)) U w=>∃ad:Value,SH E V [(2,vp b2 0),(3,vp b3 0)] [bc 77 b2 [v2_0],mp v2_0 p2_0,bc 78 b3 [(vp b3h 0)],bc 112 b3h [ad],own 3 ad af] U w) af ?_ ?_
 ·refine fE o (fun hc o=>?_) fun hc o=>?_
  rotate_left
  ·refine RC.skip ?_
   obtain rfl:=oi o
   exact⟨rfl,v3h_0,j.sp 5 [0,1,2,3,4]⟩
  refine RC.region (RL.aX 2 (vp b3h 0) j Cc (mv (vi p0) (mv (vi p1) ?_)))
  have j:=(j.pull 4).pull 4
  obtain⟨aj,ah,o⟩:=bd o
  refine RL.call zt zr FC [(vp b3h 0),(vi p0),(vi p1)] zr (aF (lf N (p1:=p0) (p2:=p1) j ah) ?_)
  rintro _ w ⟨ai,rfl,j⟩
  refine RL.nil ?_
  obtain rfl:=oi o
  exact⟨rfl,ai,j.sp 7 [2,3,4,0,1]⟩
 rintro _ w ⟨ad,O,rfl,j⟩
 obtain rfl:=oi hb
 refine xF ?_
 exact CT zr ⟨ad,zr,j.pk 5 [0,1,2,3,4]⟩
def ud (E:World) (V:List HP) (b0:Nat) (v0_0 v0_1:Value) (v0_2 v0_3:Value) (v0_4 v0_5:Value) (v0_6 v0_7:Value) (v0_8 v0_9:Value) (v0_10 v0_11:Value) (res: (List Int)) (v:Value) (w:World):Prop:=Holds E w ([own 3 v res,bc 57 b0 [v0_0,v0_1,v0_2,v0_3,v0_4,v0_5,v0_6,v0_7,v0_8,v0_9,v0_10,v0_11]]++V)
theorem tB {p0_2: (List bU)} {p0_3: (List cT)} {p0_5: (List aH)} {p0_6: (List (List Int))} {p0_10: (List Int)} {p0_11: (List eZ)} {p1: (List kA)} {res: (List Int)} (j:Holds E w (bc 57 b0 [v0_0,v0_1,v0_2,v0_3,v0_4,v0_5,v0_6,v0_7,v0_8,v0_9,v0_10,v0_11]::rd v0_2 p0_2::rd v0_3 p0_3::rd v0_5 p0_5::rd v0_6 p0_6::rd v0_10 p0_10::rd v0_11 p0_11::V)) (h1:V[i1]? =some (rd v1 p1)) (hb:je N p0_2 p0_3 p0_5 p0_6 p0_10 p0_11 p1=some res):
    Calls bC 10 [(vp b0 0),v1].toArray w (gE (ud E V b0 v0_0 v0_1 v0_2 v0_3 v0_4 v0_5 v0_6 v0_7 v0_8 v0_9 v0_10 v0_11 res)):=by
 unfold je at hb
 refine enter Tryz.func10 zr zr ?_
 have j:=j.dup (i1+7) h1
 refine RC.sr (aP (.slice none 0 0) (RL.ns (mv (vp b0 0) (RL.nilCheck zr (RL.bA zr ph (RL.aX 1 v0_5 j ym (RL.bF 4 p0_5 j AV (RL.alloc j BW.z fun ab w j=>?_))))))))
 have j:=j.sc Int (p0_5.length:Int)
 refine RL.bJ 1 j 0 zr cE fun w j=>?_
 refine RL.ns ?_
 have j:=j.gx (i:=1) rfl
 refine RL.makeFunc [(vp ab 0)] (aP (.func (.func 26) #[] #[(vp ab 0)]) (RL.ns (RL.makeMap (κ:=Int) (ν:=Bool) zr j fun ae w j=>(RL.o4 zr j Hq zr fun ad w j=>?_))))
 refine RL.gH 0 ae j zr zr (D7 j (i:=1) zr) Cb fun w j=>?_
 refine RL.nq (RC.sr (mv v1 (RL.bF 4 p1 j B9 (mv (vi 0) (RL.nt ?_)))))
 obtain⟨ah,hN,hb⟩:=bd hb
 refine RC.fold (fun(a9:Nat) (ah: (List (Int×Bool)))=>SH E V [(0,vp b0 0),(1,v1),(5,vp ab 0),(6,(.func (.func 26) #[] #[(vp ab 0)])),(7,vp ad 0),(32,v1),(33,vi p1.length),(34,vi a9)] [bc 57 b0 [v0_0,v0_1,v0_2,v0_3,v0_4,v0_5,v0_6,v0_7,v0_8,v0_9,v0_10,v0_11],rd v0_2 p0_2,rd v0_3 p0_3,rd v0_5 p0_5,rd v0_6 p0_6,rd v0_10 p0_10,rd v0_11 p0_11,rd v1 p1,pt (vp ab 0) (p0_5.length:Int),bc 77 ad [ae],mp ae ah]) (fun(ah: (List (Int×Bool)))=>SH E V [(0,vp b0 0),(1,v1),(5,vp ab 0),(6,(.func (.func 26) #[] #[(vp ab 0)])),(7,vp ad 0)] [bc 57 b0 [v0_0,v0_1,v0_2,v0_3,v0_4,v0_5,v0_6,v0_7,v0_8,v0_9,v0_10,v0_11],rd v0_2 p0_2,rd v0_3 p0_3,rd v0_5 p0_5,rd v0_6 p0_6,rd v0_10 p0_10,rd v0_11 p0_11,rd v1 p1,pt (vp ab 0) (p0_5.length:Int),bc 77 ad [ae],mp ae ah]) hN ?_ ?_ ?_ ?_
 ·exact j.sp 12 [5,6,7,8,9,10,11,4,3,0,1]
 ·rintro hm ah _ w ⟨O,rfl,j⟩
  refine RC.sr (ic ((p1.length:Int)) ((p1.length:Int)) (RL.nq (RC.cY nb (RC.ex ?_))))
  exact⟨rfl,j.sp 11 [0,1,2,3,4,5,6,7,8,9,10]⟩
 ·rintro hm a9 ah s' _ w hk ⟨O,rfl,j⟩ hb
  refine RC.sr (ic ((a9:Int)) ((p1.length:Int)) (RL.nq (RC.cX (na hk) (RC.ss (RC.bs ?_)))))
  obtain⟨b8,b9,hb⟩:=bd hb
  refine RL.cF 7 j Ca b9 fun db j=>(RL.bY 0 b8 j vL fun dc j=>(RL.alloc j Ew.z fun dd w j=>?_))
  refine RL.bJ 0 j 1 zr vL fun w j=>?_
  refine RL.ns (RL.bA zr rf (RL.aM 0 j zr ll wo (RL.nt ?_)))
  obtain⟨bo,hj,hb⟩:=bd hb
  refine RC.jn (fun(bo: (List (Int×Bool)))=>SH E V [(0,vp b0 0),(1,v1),(5,vp ab 0),(6,(.func (.func 26) #[] #[(vp ab 0)])),(7,vp ad 0),(32,v1),(33,vi p1.length),(34,vi a9)] [bc 57 b0 [v0_0,v0_1,v0_2,v0_3,v0_4,v0_5,v0_6,v0_7,v0_8,v0_9,v0_10,v0_11],rd v0_2 p0_2,rd v0_3 p0_3,rd v0_5 p0_5,rd v0_6 p0_6,rd v0_10 p0_10,rd v0_11 p0_11,rd v1 p1,pt (vp ab 0) (p0_5.length:Int),bc 77 ad [ae],mp ae bo]) bo ?_ ?_
  ·refine fE hj (fun hc hj=>?_) fun hc hj=>?_
   rotate_left
   ·refine RC.skip ?_
    obtain rfl:=oi hj
    exact⟨rfl,j.sp 14 [3,4,5,6,7,8,9,10,11,12,13]⟩
   have j:=j.drew
   refine RC.BS (fun w=>Holds E w ([bc 77 ad [ae]]++V)) mixed zr [1,0,0,0,2,2] [0,1,2,3,4,5] (j.pk 14 [12]) (DP.Ef ae zr (fun w j=>RL.aX 0 ae j Cb DP.d1) (DP.e0 zr (mv (.func (.func 26) #[] #[(vp ab 0)]) (cJ zr (RL.bA zr tt (cJ zr (RL.aZ 0 j zr mh qB fun ca j=>(uF zr ?_))))))))
   obtain⟨cb,cc,hj⟩:=bd hj
   refine RL.oE [(vp ab 0)] FO [ca] (aF (lY N (i0:=0) (i1:=12) j zr zr cc) ?_)
   rintro _ w ⟨rfl,j⟩
   refine DP.d2 (j.pk 15 [13]) (DP.e2 zr ?_)
   have j:=j.sc Bool true
   refine RL.mapUpdate 15 0 cb j zr zr zr zr zr Dk fun w j=>(DP.d2 (j.pk 16 [14]) (DP.z ?_))
   obtain rfl:=oi hj
   exact⟨rfl,j.sp 16 [5,6,7,8,9,10,11,12,13,14,15]⟩
  rintro _ w ⟨O,rfl,j⟩
  refine bT (aG (RC.region (RL.inc hk hm (mv (vi ((a9+1:Nat):Int)) (RL.nil ?_)))))
  obtain rfl:=oi hb
  exact⟨rfl,j.sp 11 [0,1,2,3,4,5,6,7,8,9,10]⟩
 rintro _ w ⟨O,rfl,j⟩
 refine aG (RC.seq ?_)
 obtain⟨cd,cf,hb⟩:=bd hb
 refine RC.BO E V mixed [0,1,1,1,1,0,0,1,0,0,0] [8,9,10] (fun(x:Nat×Value×Nat)=>(fun aa ak o=>[(0,46,(vi p0_5.length)),(1,47,(vp b0 0)),(2,48,(vp b0 0)),(3,49,(vp b0 0)),(4,50,(vp b0 2)),(5,51,v0_2),(6,52,(vi p0_2.length)),(7,53,(vi (IntKind.wrap .i64 ((p0_5.length:Int)+ (p0_2.length:Int))))),(8,54,(vp aa 0)),(9,10,(vp o 0))]) x.1 x.2.1 x.2.2) [(0,vp b0 0),(1,v1),(5,vp ab 0),(6,(.func (.func 26) #[] #[(vp ab 0)])),(7,vp ad 0)] [] (fun(D:Nat->Bool) (x:Nat×Value×Nat)=>(fun aa ak o=>[bif D 0 then (bc 112 aa [ak]) else aT,bif D 0 then (own 3 ak cd) else aT,bif D 2 then (bc 78 o [(vp aa 0)]) else (bif D 1 then (bc 78 o [(.pointer none)]) else aT),bc 57 b0 [v0_0,v0_1,v0_2,v0_3,v0_4,v0_5,v0_6,v0_7,v0_8,v0_9,v0_10,v0_11],rd v0_2 p0_2,rd v0_3 p0_3,rd v0_5 p0_5,rd v0_6 p0_6,rd v0_10 p0_10,rd v0_11 p0_11,rd v1 p1,pt (vp ab 0) (p0_5.length:Int),bc 77 ad [ae],mp ae ah]) x.1 x.2.1 x.2.2) (fun x=>by kernel_rfl) ?_ ⟨?_,fun _=>i7 gn,fun _=>vG gn,fun _=>mq gn lS,fun _=>mq gn lq,?_,?_,fun _=>Da gn rfl,?_,?_,?_,trivial⟩ ?_
 ·have j:=(((j.drew).aT).aT).aT
  exact⟨(0,undef,0),dU.none,(AF zr),zt,j⟩
 ·rintro D U w hD au a0 ⟨⟨aa,ak,o⟩,hv,ha,_,j⟩
  obtain⟨O,rfl⟩:=(ac (ha.at 2 rfl) az).eO
  refine RL.bH (p0_5.length:Int) 11 j cE ?_
  exact RL.nil ⟨rfl,(aa,ak,o),hv.pu 0,ha.u,zt,j⟩
 ·rintro D U w hD au a0 ⟨⟨aa,ak,o⟩,hv,ha,_,j⟩
  obtain⟨O,rfl⟩:=(ac (hv.at 4 rfl (au.1 rfl)) az).eO
  refine RL.aX 3 v0_2 j tn ?_
  exact RL.nil ⟨rfl,(aa,ak,o),hv.pu 5,ha.u,zt,j⟩
 ·rintro D U w hD au a0 ⟨⟨aa,ak,o⟩,hv,ha,_,j⟩
  obtain⟨O,rfl⟩:=(ac (hv.at 5 rfl (au.1 rfl)) az).eO
  refine RL.bF 4 p0_2 j uL ?_
  exact RL.nil ⟨rfl,(aa,ak,o),hv.pu 6,ha.u,zt,j⟩
 ·rintro D U w hD au a0 ⟨⟨aa,ak,o⟩,hv,ha,_,j⟩
  obtain⟨O,rfl⟩:=(ac (hv.at 7 rfl (au.1 rfl)) az).eO
  have j:=((j.bN 0 hD).bN 1 hD).bN 2 (nh a0 hD 10)
  refine RL.call zt zr FB [(vi (IntKind.wrap .i64 ((p0_5.length:Int)+ (p0_2.length:Int))))] zr (aF (lX N (p0:=(IntKind.wrap .i64 ((p0_5.length:Int)+ (p0_2.length:Int)))) j cf) ?_)
  rintro _ w ⟨b1,ch,rfl,j⟩
  have j:=(((j.pl 16 [0,1,4,5,6,7,8,9,10,11,12,13,14,15]).cD 0 true aT).cD 1 true aT).eF 2 (D 10) (nh a0 hD 10) (bc 78 o [(vp b1 0)])
  exact RL.nil ⟨rfl,(b1,ch,o),hv.pu 8,ha.u,zt,j⟩
 ·rintro D U w hD au a0 ⟨⟨aa,ak,o⟩,hv,ha,_,j⟩
  obtain⟨O,rfl⟩:=(az (U:=U)).eO
  have j:=(j.bN 2 (nh a0 hD 10)).bN 2 hD
  refine RL.o4 zr j Hr zr fun b2 w j=>?_
  have j:=((j.pl 15 [1,2,0,4,5,6,7,8,9,10,11,12,13,14]).cD 2 true aT).eF 2 (D 10) (nh a0 hD 10) (bc 78 b2 [(vp aa 0)])
  exact RL.nil ⟨rfl,(aa,ak,b2),hv.pu 9,ha.u,zt,j⟩
 ·rintro D U w hD au a0 ⟨⟨aa,ak,o⟩,hv,ha,_,j⟩
  obtain⟨O,rfl⟩:=(ac (hv.at 8 rfl (au.2.1 rfl)) (ac (hv.at 9 rfl (au.1 rfl)) az)).eO
  have j:=((j.cC 0 (au.2.1 rfl)).bN 2 hD).cC 2 (au.1 rfl)
  refine RL.gH 2 (vp aa 0) j zr zr zr Cc fun w j=>?_
  have j:=(j.cD (hb:=au.2.1 rfl) 0 (D 8) aT).cD 2 true (bif D 9 then (bc 78 o [(.pointer none)]) else aT)
  exact RL.nil ⟨rfl,(aa,ak,o),hv.n1,ha,zt,j⟩
 rintro D U w bh ⟨⟨aa,ak,o⟩,hv,ha,_,j⟩
 have j:=((j.cC 0 (jO bh 8)).cC 1 (jO bh 8)).cC 2 (jO bh 10)
 obtain⟨O,rfl⟩:=(ac (hv.at 9 rfl (jO bh 9)) (ac (ha.at 0 rfl) (ac (ha.at 1 rfl) (ac (ha.at 2 rfl) (ac (ha.at 3 rfl) (ac (ha.at 4 rfl) az)))))).eO
 refine aG (RC.sr (RL.makeFunc [(vp ad 0),(vp o 0)] (aP (.func (.func 28) #[] #[(vp ad 0),(vp o 0)]) (RL.nq (RC.sr (mv (vp b0 0) (RL.nilCheck zr (RL.bA zr w8 ?_))))))))
 refine RL.aX 3 v0_6 j Dg (RL.bF 7 p0_6 j Dh (mv (vi 0) (RL.nt ?_)))
 obtain⟨a5,hN,hb⟩:=bd hb
 refine RC.fold (fun(av:Nat) (a5: (List Int)) U w=>∃b3:Value,SH E V [(0,vp b0 0),(1,v1),(5,vp ab 0),(6,(.func (.func 26) #[] #[(vp ab 0)])),(7,vp ad 0),(10,vp o 0),(11,(.func (.func 28) #[] #[(vp ad 0),(vp o 0)])),(59,v0_6),(60,vi p0_6.length),(61,vi av)] [bc 57 b0 [v0_0,v0_1,v0_2,v0_3,v0_4,v0_5,v0_6,v0_7,v0_8,v0_9,v0_10,v0_11],rd v0_2 p0_2,rd v0_3 p0_3,rd v0_5 p0_5,rd v0_6 p0_6,rd v0_10 p0_10,rd v0_11 p0_11,rd v1 p1,pt (vp ab 0) (p0_5.length:Int),bc 77 ad [ae],mp ae ah,bc 78 o [(vp aa 0)],bc 112 aa [b3],own 3 b3 a5] U w) (fun(a5: (List Int)) U w=>∃bj:Value,SH E V [(0,vp b0 0),(1,v1),(6,(.func (.func 26) #[] #[(vp ab 0)])),(7,vp ad 0),(10,vp o 0),(11,(.func (.func 28) #[] #[(vp ad 0),(vp o 0)]))] [bc 57 b0 [v0_0,v0_1,v0_2,v0_3,v0_4,v0_5,v0_6,v0_7,v0_8,v0_9,v0_10,v0_11],rd v0_2 p0_2,rd v0_3 p0_3,rd v0_5 p0_5,rd v0_6 p0_6,rd v0_10 p0_10,rd v0_11 p0_11,rd v1 p1,pt (vp ab 0) (p0_5.length:Int),bc 77 ad [ae],mp ae ah,bc 78 o [(vp aa 0)],bc 112 aa [bj],own 3 bj a5] U w) hN ?_ ?_ ?_ ?_
 ·exact⟨ak,j.sp 14 [3,4,5,6,7,8,9,10,11,12,13,2,0,1]⟩
 ·rintro hm a5 _ w ⟨cj,O,rfl,j⟩
  refine RC.sr (ic ((p0_6.length:Int)) ((p0_6.length:Int)) (RL.nq (RC.cY nb (RC.ex ?_))))
  exact⟨rfl,cj,j.sp 14 [0,1,2,3,4,5,6,7,8,9,10,11,12,13]⟩
 ·rintro hm av a5 s' _ w hk ⟨ck,O,rfl,j⟩ hb
  refine RC.sr (ic ((av:Int)) ((p0_6.length:Int)) (RL.nq (RC.cX (na hk) (RC.ss (RC.bs (mv (vi av) ?_))))))
  obtain⟨a3,cl,hb⟩:=bd hb
  refine RL.cF 4 j zh cl fun de j=>(RL.bY 0 a3 j eJ fun ba j=>(aP (vi av) (aP ba (RL.ns (mv ba (RL.bF 0 a3 j ln (mv (vi 0) (RL.nt ?_))))))))
  obtain⟨a6,hN,hb⟩:=bd hb
  refine RC.fold (fun(bk:Nat) (a6: (List Int)) U w=>∃b4:Value,SH E V [(0,vp b0 0),(1,v1),(5,vp ab 0),(6,(.func (.func 26) #[] #[(vp ab 0)])),(7,vp ad 0),(10,vp o 0),(11,(.func (.func 28) #[] #[(vp ad 0),(vp o 0)])),(12,vi av),(59,v0_6),(60,vi p0_6.length),(61,vi av),(66,ba),(67,vi a3.length),(68,vi bk)] [bc 57 b0 [v0_0,v0_1,v0_2,v0_3,v0_4,v0_5,v0_6,v0_7,v0_8,v0_9,v0_10,v0_11],rd v0_2 p0_2,rd v0_3 p0_3,rd v0_5 p0_5,rd v0_6 p0_6,rd v0_10 p0_10,rd v0_11 p0_11,rd v1 p1,pt (vp ab 0) (p0_5.length:Int),bc 77 ad [ae],mp ae ah,bc 78 o [(vp aa 0)],bc 112 aa [b4],own 3 b4 a6,rd ba a3] U w) (fun(a6: (List Int)) U w=>∃bl:Value,SH E V [(0,vp b0 0),(1,v1),(5,vp ab 0),(6,(.func (.func 26) #[] #[(vp ab 0)])),(7,vp ad 0),(10,vp o 0),(11,(.func (.func 28) #[] #[(vp ad 0),(vp o 0)])),(59,v0_6),(60,vi p0_6.length),(61,vi av)] [bc 57 b0 [v0_0,v0_1,v0_2,v0_3,v0_4,v0_5,v0_6,v0_7,v0_8,v0_9,v0_10,v0_11],rd v0_2 p0_2,rd v0_3 p0_3,rd v0_5 p0_5,rd v0_6 p0_6,rd v0_10 p0_10,rd v0_11 p0_11,rd v1 p1,pt (vp ab 0) (p0_5.length:Int),bc 77 ad [ae],mp ae ah,bc 78 o [(vp aa 0)],bc 112 aa [bl],own 3 bl a6,rd ba a3] U w) hN ?_ ?_ ?_ ?_
  ·exact⟨ck,j.sp 16 [2,3,4,5,6,7,8,9,10,11,12,13,14,15,0]⟩
  ·rintro hm a6 _ w ⟨cm,O,rfl,j⟩
   refine RC.sr (ic ((a3.length:Int)) ((a3.length:Int)) (RL.nq (RC.cY nb (RC.ex ?_))))
   exact⟨rfl,cm,j.sp 15 [0,1,2,3,4,5,6,7,8,9,10,11,12,13,14]⟩
  ·rintro hm bk a6 s' _ w hk ⟨df,O,rfl,j⟩ hb
   refine RC.sr (ic ((bk:Int)) ((a3.length:Int)) (RL.nq (RC.cX (na hk) (RC.ss (RC.bs ?_)))))
   obtain⟨bb,cn,hb⟩:=bd hb
   refine RL.cF 14 j eC cn fun dg j=>(RL.bH bb 0 j cE (aP (vi bb) (RL.nt (RC.region (mv (.func (.func 28) #[] #[(vp ad 0),(vp o 0)]) (mv (vi bb) (RL.bH (p0_5.length:Int) 9 j cE (mv (vi av) ?_))))))))
   refine RL.jq (p0_5.length:Int) (av:Int) ?_
   have j:=((((j.pull 14).pull 14).pull 14).pull 14).pull 14
   obtain⟨dh,cp,hb⟩:=bd hb
   refine RL.oE [(vp ad 0),(vp o 0)] FP [(vi bb),(vi (IntKind.wrap .i64 ((p0_5.length:Int)+ (av:Int))))] (aF (lZ N (p0:=bb) (p1:=(IntKind.wrap .i64 ((p0_5.length:Int)+ (av:Int)))) j cp) ?_)
   rintro _ w ⟨cq,rfl,j⟩
   refine RL.nil (bT (aG (RC.region (RL.inc hk hm (mv (vi ((bk+1:Nat):Int)) (RL.nil ?_))))))
   obtain rfl:=oi hb
   exact⟨rfl,cq,j.sp 21 [6,7,8,9,10,11,12,13,14,0,1,2,3,4,20]⟩
  rintro _ w ⟨bl,O,rfl,j⟩
  refine bT (aG (RC.region (RL.inc hk hm (mv (vi ((av+1:Nat):Int)) (RL.nil ?_)))))
  obtain rfl:=oi hb
  exact⟨rfl,bl,j.sp 15 [0,1,2,3,4,5,6,7,8,9,10,11,12,13]⟩
 rintro _ w ⟨bj,O,rfl,j⟩
 refine aG (RC.seq (RC.sr (mv v1 (RL.bF 7 p1 j B9 (mv (vi 0) (RL.nt ?_))))))
 obtain⟨a7,hN,hb⟩:=bd hb
 refine RC.fold (fun(bf:Nat) (a7: (List Int)) U w=>∃b5:Value,SH E V [(0,vp b0 0),(6,(.func (.func 26) #[] #[(vp ab 0)])),(7,vp ad 0),(10,vp o 0),(11,(.func (.func 28) #[] #[(vp ad 0),(vp o 0)])),(80,v1),(81,vi p1.length),(82,vi bf)] [bc 57 b0 [v0_0,v0_1,v0_2,v0_3,v0_4,v0_5,v0_6,v0_7,v0_8,v0_9,v0_10,v0_11],rd v0_2 p0_2,rd v0_3 p0_3,rd v0_5 p0_5,rd v0_6 p0_6,rd v0_10 p0_10,rd v0_11 p0_11,pt (vp ab 0) (p0_5.length:Int),bc 77 ad [ae],mp ae ah,bc 78 o [(vp aa 0)],bc 112 aa [b5],own 3 b5 a7,rd v1 p1] U w) (fun(a7: (List Int)) U w=>∃bm:Value,SH E V [(0,vp b0 0),(6,(.func (.func 26) #[] #[(vp ab 0)])),(7,vp ad 0),(10,vp o 0)] [bc 57 b0 [v0_0,v0_1,v0_2,v0_3,v0_4,v0_5,v0_6,v0_7,v0_8,v0_9,v0_10,v0_11],rd v0_2 p0_2,rd v0_3 p0_3,rd v0_5 p0_5,rd v0_6 p0_6,rd v0_10 p0_10,rd v0_11 p0_11,pt (vp ab 0) (p0_5.length:Int),bc 77 ad [ae],mp ae ah,bc 78 o [(vp aa 0)],bc 112 aa [bm],own 3 bm a7,rd v1 p1] U w) hN ?_ ?_ ?_ ?_
 ·exact⟨bj,j.sp 14 [0,1,2,3,4,5,6,8,9,10,11,12,13,7]⟩
 ·rintro hm a7 _ w ⟨cr,O,rfl,j⟩
  refine RC.sr (ic ((p1.length:Int)) ((p1.length:Int)) (RL.nq (RC.cY nb (RC.ex ?_))))
  exact⟨rfl,cr,j.sp 14 [0,1,2,3,4,5,6,7,8,9,10,11,12,13]⟩
 ·rintro hm bf a7 s' _ w hk ⟨ct,O,rfl,j⟩ hb
  refine RC.sr (ic ((bf:Int)) ((p1.length:Int)) (RL.nq (RC.cX (na hk) (RC.ss (RC.bs ?_)))))
  obtain⟨a8,cu,hb⟩:=bd hb
  refine RL.cF 13 j Ca cu fun di j=>(RL.bY 0 a8 j vL fun dj j=>(RL.alloc j Ew.z fun dk w j=>?_))
  refine RL.bJ 0 j 1 zr vL fun w j=>?_
  refine RL.ns (RL.bA zr rf (RL.aM 0 j zr ll wo (RL.not a8.Open (RL.nt ?_))))
  obtain⟨bp,hj,hb⟩:=bd hb
  refine RC.jn (fun(bp: (List Int)) U w=>∃bn:Value,SH E V [(0,vp b0 0),(6,(.func (.func 26) #[] #[(vp ab 0)])),(7,vp ad 0),(10,vp o 0),(11,(.func (.func 28) #[] #[(vp ad 0),(vp o 0)])),(80,v1),(81,vi p1.length),(82,vi bf)] [bc 57 b0 [v0_0,v0_1,v0_2,v0_3,v0_4,v0_5,v0_6,v0_7,v0_8,v0_9,v0_10,v0_11],rd v0_2 p0_2,rd v0_3 p0_3,rd v0_5 p0_5,rd v0_6 p0_6,rd v0_10 p0_10,rd v0_11 p0_11,pt (vp ab 0) (p0_5.length:Int),bc 77 ad [ae],mp ae ah,bc 78 o [(vp aa 0)],bc 112 aa [bn],own 3 bn bp,rd v1 p1] U w) bp ?_ ?_
  ·refine fE hj (fun hc hj=>?_) fun hc hj=>?_
   rotate_left
   ·refine RC.skip ?_
    obtain rfl:=oi hj
    exact⟨rfl,ct,j.sp 17 [3,4,5,6,7,8,9,10,11,12,13,14,15,16]⟩
   refine RC.region (mv (.func (.func 28) #[] #[(vp ad 0),(vp o 0)]) (RL.bA zr xe (RL.aM 0 j zr qf cE (RL.bA zr xf (RL.aM 0 j zr qg cE ?_)))))
   have j:=((((j.pull 15).pull 15).pull 15).pull 15).pull 15
   obtain⟨dm,cv,hj⟩:=bd hj
   refine RL.oE [(vp ad 0),(vp o 0)] FP [(vi a8.A),(vi a8.B)] (aF (lZ N (p0:=a8.A) (p1:=a8.B) j cv) ?_)
   rintro _ w ⟨cw,rfl,j⟩
   refine RL.nil ?_
   obtain rfl:=oi hj
   exact⟨rfl,cw,j.sp 22 [8,9,10,11,12,13,14,15,0,1,2,3,4,21]⟩
  rintro _ w ⟨bn,O,rfl,j⟩
  refine bT (aG (RC.region (RL.inc hk hm (mv (vi ((bf+1:Nat):Int)) (RL.nil ?_)))))
  obtain rfl:=oi hb
  exact⟨rfl,bn,j.sp 14 [0,1,2,3,4,5,6,7,8,9,10,11,12,13]⟩
 rintro _ w ⟨bm,O,rfl,j⟩
 refine aG (RC.sr (RL.makeMap (κ:=Int) (ν:=Int) zr j fun ax w j=>(aP ax (RL.ns (mv (vp b0 0) (RL.nilCheck zr (RL.bA zr lS (RL.bA zr tq ?_))))))))
 refine RL.aX 1 v0_3 j AR (RL.bF 3 p0_3 j BZ ?_)
 obtain⟨dn,cx,hb⟩:=bd hb
 refine RL.mk (p0_3.length:Int) j r7 EJ cx fun aw w j=>?_
 refine aP aw (RL.nq (RC.sr (mv (vp b0 0) (RL.nilCheck zr (RL.bA zr zk (RL.aX 2 v0_11 j Eu (RL.bF 8 p0_11 j Hs (mv (vi 0) ?_))))))))
 refine RL.nt ?_
 obtain⟨ag,hN,hb⟩:=bd hb
 refine RC.fold (fun(al:Nat) (ag: (List Int)×(List (Int×Int))×(List Int)) U w=>∃b6:Value,SH E V [(0,vp b0 0),(6,(.func (.func 26) #[] #[(vp ab 0)])),(7,vp ad 0),(10,vp o 0),(18,ax),(19,aw),(107,v0_11),(108,vi p0_11.length),(109,vi al)] [bc 57 b0 [v0_0,v0_1,v0_2,v0_3,v0_4,v0_5,v0_6,v0_7,v0_8,v0_9,v0_10,v0_11],rd v0_2 p0_2,rd v0_3 p0_3,rd v0_5 p0_5,rd v0_6 p0_6,rd v0_10 p0_10,rd v0_11 p0_11,pt (vp ab 0) (p0_5.length:Int),bc 77 ad [ae],mp ae ah,bc 78 o [(vp aa 0)],bc 112 aa [b6],own 3 b6 ag.1,mp ax ag.2.1,own 3 aw ag.2.2] U w) (fun(ag: (List Int)×(List (Int×Int))×(List Int)) U w=>∃bq:Value,SH E V [(0,vp b0 0),(19,aw)] [bc 57 b0 [v0_0,v0_1,v0_2,v0_3,v0_4,v0_5,v0_6,v0_7,v0_8,v0_9,v0_10,v0_11],rd v0_2 p0_2,rd v0_3 p0_3,rd v0_5 p0_5,rd v0_6 p0_6,rd v0_10 p0_10,rd v0_11 p0_11,pt (vp ab 0) (p0_5.length:Int),bc 77 ad [ae],mp ae ah,bc 78 o [(vp aa 0)],bc 112 aa [bq],own 3 bq ag.1,mp ax ag.2.1,own 3 aw ag.2.2] U w) hN ?_ ?_ ?_ ?_
 ·exact⟨bm,j.sp 16 [2,3,4,5,6,7,8,9,10,11,12,13,14,1,0]⟩
 ·rintro hm ag _ w ⟨cy,O,rfl,j⟩
  refine RC.sr (ic ((p0_11.length:Int)) ((p0_11.length:Int)) (RL.nq (RC.cY nb (RC.ex ?_))))
  exact⟨rfl,cy,j.sp 15 [0,1,2,3,4,5,6,7,8,9,10,11,12,13,14]⟩
 ·rintro hm al ag s' _ w hk ⟨br,O,rfl,j⟩ hb
  refine RC.sr (ic ((al:Int)) ((p0_11.length:Int)) (RL.nq (RC.cX (na hk) (RC.ss (RC.bs (mv (vi al) ?_))))))
  obtain⟨cz,c0,hb⟩:=bd hb
  refine RL.cF 6 j FK c0 fun dp j=>(RL.bY 0 cz j qB fun dq j=>(RL.alloc j Di.z fun dr w j=>?_))
  refine aP (vi al) (RL.bJ 0 j 1 zr qB fun w j=>?_)
  refine RL.ns (mv (.func (.func 26) #[] #[(vp ab 0)]) (RL.aZ (f:=(fun x=>x)) 0 j zr Fd.self qB fun c1 j=>?_))
  obtain⟨aq,c2,hb⟩:=bd hb
  refine RL.oE [(vp ab 0)] FO [c1] (aF (lY N (i0:=0) (i1:=11) j zr zr c2) ?_)
  rintro _ w ⟨rfl,j⟩
  refine aP (vi aq) (RL.nq (RC.seq ?_))
  obtain⟨bt,hj,hb⟩:=bd hb
  refine RC.jn (fun(bt:Bool)=>SH E V [(0,vp b0 0),(6,(.func (.func 26) #[] #[(vp ab 0)])),(7,vp ad 0),(10,vp o 0),(18,ax),(19,aw),(20,vi al),(22,vi aq),(107,v0_11),(108,vi p0_11.length),(109,vi al),(129,vb bt)] [bc 57 b0 [v0_0,v0_1,v0_2,v0_3,v0_4,v0_5,v0_6,v0_7,v0_8,v0_9,v0_10,v0_11],rd v0_2 p0_2,rd v0_3 p0_3,rd v0_5 p0_5,rd v0_6 p0_6,rd v0_10 p0_10,rd v0_11 p0_11,pt (vp ab 0) (p0_5.length:Int),bc 77 ad [ae],mp ae ah,bc 78 o [(vp aa 0)],bc 112 aa [br],own 3 br ag.1,mp ax ag.2.1,own 3 aw ag.2.2]) bt ?_ ?_
  ·refine RC.region (mv (vp b0 0) (RL.nilCheck zr (RL.bA zr uO (RL.aX 4 v0_10 j eJ (mv (vi al) ?_)))))
   obtain⟨bu,c3,hj⟩:=bd hj
   refine RL.cF 9 j eC c3 fun ds j=>(RL.bH bu 0 j cE (ic bu 0 (mv (vb (decide (bu<0))) (gC hj (fun a1 hj=>?_) fun a1 hj=>?_))))
   ·refine bV a1 (bV a1 (bV a1 (gF a1 (vb true) (RL.nil ?_))))
    obtain rfl:=oi hj
    exact⟨rfl,j.sp 20 [5,6,7,8,9,10,11,12,13,14,15,16,17,18,19]⟩
   refine RL.aX (hg:=(cg a1)) 13 ae j Cb (RL.move (vi aq) (cg a1) (RL.nz 14 aq (cg a1) j Dk (gF a1 (vb (dQ ah aq (false:Bool))) (RL.nil ?_))))
   obtain rfl:=oi hj
   exact⟨rfl,j.sp 20 [5,6,7,8,9,10,11,12,13,14,15,16,17,18,19]⟩
  rintro _ w ⟨O,rfl,j⟩
  refine aG (fE hb (fun hc hb=>?_) fun hc hb=>?_)
  ·refine RC.sr (mv aw (mv (vi al) ?_))
   obtain⟨dt,bw,hb⟩:=bd hb
   refine RL.bK 14 j zr zr eC bw ?_
   have j:=j.sc Int (-1)
   refine RL.fJ (f:=(fun _ y=>y)) 15 0 j (jl 15 j bw 0) (aV bw).2.1 zr Fs.self cE fun w j=>?_
   refine RL.nt (RC.ex (DW (aG (RC.region (RL.inc hk hm (mv (vi ((al+1:Nat):Int)) (RL.nil ?_)))))))
   obtain rfl:=oi hb
   exact⟨rfl,br,j.sp 16 [1,2,3,4,5,6,7,8,9,10,11,12,13,14,15]⟩
  refine RC.ss (RC.sr (mv ax (RL.aX 10 (vp aa 0) j Cc (mv (vi aq) ?_))))
  have j:=(j.pull 12).pull 12
  obtain⟨a2,c4,hb⟩:=bd hb
  refine RL.call zt zr AW [(vp aa 0),(vi aq)] zr (aF (eX N (p1:=aq) j c4) ?_)
  rintro _ w ⟨c5,rfl,j⟩
  refine RL.xR 15 a2.1 zt zr j zr zr zr yl (mv (.tuple #[(vi (dQ ag.2.1 a2.1 (0:Int))),(vb (jy ag.2.1 a2.1))]) (RL.extract (vi (dQ ag.2.1 a2.1 (0:Int))) (RL.extract (vb (jy ag.2.1 a2.1)) (aP (vi (dQ ag.2.1 a2.1 (0:Int))) (aP (vb (jy ag.2.1 a2.1)) (RL.ns (mv (vb (jy ag.2.1 a2.1)) (RL.not (jy ag.2.1 a2.1) ?_))))))))
  refine RL.nt ?_
  obtain⟨bg,hj,hb⟩:=bd hb
  refine RC.jn (fun(bg: (List Int)×(List (Int×Int))) U w=>∃bx:Value,SH E V [(0,vp b0 0),(6,(.func (.func 26) #[] #[(vp ab 0)])),(7,vp ad 0),(10,vp o 0),(18,ax),(19,aw),(20,vi al),(22,vi aq),(107,v0_11),(108,vi p0_11.length),(109,vi al)] [bc 57 b0 [v0_0,v0_1,v0_2,v0_3,v0_4,v0_5,v0_6,v0_7,v0_8,v0_9,v0_10,v0_11],rd v0_2 p0_2,rd v0_3 p0_3,rd v0_5 p0_5,rd v0_6 p0_6,rd v0_10 p0_10,rd v0_11 p0_11,pt (vp ab 0) (p0_5.length:Int),bc 77 ad [ae],mp ae ah,bc 78 o [(vp aa 0)],bc 112 aa [bx],own 3 bx bg.1,mp ax bg.2,own 3 aw ag.2.2] U w) bg ?_ ?_
  ·refine fE hj (fun hc hj=>?_) fun hc hj=>?_
   rotate_left
   ·refine RC.skip ?_
    obtain rfl:=oi hj
    exact⟨rfl,c5,j.sp 17 [2,3,4,5,6,7,8,9,10,11,12,0,1,15,16]⟩
   refine RC.region (mv ax (RL.aX 12 (vp aa 0) j Cc (mv (vi aq) ?_)))
   have j:=(j.pull 1).pull 1
   obtain⟨c6,c7,hj⟩:=bd hj
   refine RL.call zt zr AW [(vp aa 0),(vi aq)] zr (aF (eX N (p1:=aq) j c7) ?_)
   rintro _ w ⟨c8,rfl,j⟩
   refine mv (vi al) ?_
   have j:=j.sc Int (al:Int)
   refine RL.mapUpdate 18 0 c6.1 j zr zr zr zr zr yl fun w j=>(RL.nil ?_)
   obtain rfl:=oi hj
   exact⟨rfl,c8,j.sp 20 [5,6,7,8,9,10,11,12,13,14,15,1,2,18,19]⟩
  rintro _ w ⟨bx,O,rfl,j⟩
  refine aG (RC.region (mv aw (mv (vi al) (mv ax (RL.aX 10 (vp aa 0) j Cc (mv (vi aq) ?_))))))
  have j:=(j.pull 12).pull 12
  obtain⟨b7,c9,hb⟩:=bd hb
  refine RL.call zt zr AW [(vp aa 0),(vi aq)] zr (aF (eX N (p1:=aq) j c9) ?_)
  rintro _ w ⟨da,rfl,j⟩
  refine RL.nz 15 b7.1 zt j yl ?_
  obtain⟨du,bz,hb⟩:=bd hb
  refine RL.bK 16 j zr zr eC bz ?_
  have j:=j.sc Int (dQ bg.2 b7.1 (0:Int))
  refine RL.fJ (f:=(fun _ y=>y)) 17 0 j (jl 17 j bz 0) (aV bz).2.1 zr Fs.self cE fun w j=>?_
  refine RL.nil (bT (aG (RC.region (RL.inc hk hm (mv (vi ((al+1:Nat):Int)) (RL.nil ?_))))))
  obtain rfl:=oi hb
  exact⟨rfl,da,j.sp 18 [3,4,5,6,7,8,9,10,11,12,13,1,2,16,17]⟩
 rintro _ w ⟨bq,O,rfl,j⟩
 refine aG (RC.sr (mv aw (aP aw (RL.nt (RC.ret ?_)))))
 obtain rfl:=oi hb
 exact cB (j.pk 15 [14,0])
def sB (E:World) (V:List HP) (res:Bool×Int) (v:Value) (w:World):Prop:=v = .tuple #[(vb res.1),(vi res.2)]/\Holds E w V
theorem mF {p0:jS} {p1: (List kA)} {p2 p3:eK} {res:Bool×Int} (j:Holds E w V) (h0:V[i0]? =some (rd v0 p0)) (h1:V[i1]? =some (rd v1 p1)) (h2:V[i2]? =some (rd v2 p2)) (h3:V[i3]? =some (rd v3 p3)) (o:dE N p0 p1 p2 p3=some res):
    Calls bC 4 [v0,v1,v2,v3].toArray w (gE (sB E V res)):=by
 unfold dE at o
 refine enter Tryz.func4 zr zr ?_
 have j:=(((j.dup (i0+0) h0).dup (i1+1) h1).dup (i2+2) h2).dup (i3+3) h3
 refine RC.sr (RL.dC 3 v0 j zr fun a6 w j=>?_)
 have j:=j.gx (i:=0) rfl
 refine RL.dC 2 v2 j zr fun a7 w j=>?_
 have j:=j.gx (i:=0) rfl
 refine RL.dC 2 v3 j zr fun a8 w j=>?_
 have j:=j.gx (i:=0) rfl
 refine aP (vb false) (aP (vi 0) (RL.ns (RL.bY 2 p0 j r5 fun aw j=>?_)))
 obtain⟨ab,ax,o⟩:=bd o
 refine RL.call zt zr HR [aw] zr (aF (pG N (i0:=0) j zr ax) ?_)
 rintro _ w hK51
 rcases aj:ab.1 with _ | a9
 ·replace o:=EV aj o
  obtain⟨rfl,j⟩:=DH aj hK51
  refine mv (.tuple #[(.pointer none),(vi ab.2)]) (RL.extract (.pointer none) (RL.extract (vi ab.2) (aP (.pointer none) (aP (vi ab.2) (RL.nq (RC.sr (mv (vi ab.2) (ic ab.2 0 ?_))))))))
  refine RL.nt (fE o (fun hc o=>?_) fun hc o=>?_)
  rotate_left
  ·cases o
  refine RC.sr (mv (vi ab.2) (aP (vb false) (aP (vi ab.2) (RL.nt (RC.rt ?_)))))
  obtain rfl:=oi o
  exact nZ ⟨rfl,j.drop 8⟩
 replace o:=EW aj o
 obtain⟨ah,ba,bb,bc,bf,bg,bh,bj,bk,bl,bm,bn,bo,rfl,j⟩:=DI aj hK51
 refine mv (.tuple #[(vp ah 0),(vi ab.2)]) (RL.extract (vp ah 0) (RL.extract (vi ab.2) (aP (vp ah 0) (aP (vi ab.2) (RL.nq (RC.sr (mv (vi ab.2) (ic ab.2 0 ?_))))))))
 refine RL.nt (fE o (fun hc o=>?_) fun hc o=>?_)
 ·refine RC.sr (mv (vi ab.2) (aP (vb false) (aP (vi ab.2) (RL.nt (RC.rt ?_)))))
  obtain rfl:=oi o
  exact nZ ⟨rfl,j.drop 21⟩
 refine RC.ss (RC.sr (mv (vp ah 0) (mv v1 ?_)))
 have j:=((((((((((((j.freeze 5).freeze 8).freeze 11).freeze 12).dup 12 rfl).dup 12 rfl).dup 12 rfl).dup 12 rfl).dup 12 rfl).dup 12 rfl).dup 12 rfl).dup 12 rfl).dup 12 rfl
 have j:=(((j.dup 12 rfl).dup 12 rfl).dup 12 rfl).pull 12
 obtain⟨ai,ay,o⟩:=bd o
 refine RL.call zt zr H6 [(vp ah 0),v1] zr (aF (qM N (i1:=19) j zr ay) ?_)
 rintro _ w ⟨rfl,j⟩
 refine aP (vi ai) (RL.ns (mv (vi ai) (ic ai 0 (RL.nt (fE o (fun hc o=>?_) fun hc o=>?_)))))
 ·refine RC.sr (mv (vi ai) (aP (vb false) (aP (vi ai) (RL.nt (RC.rt ?_)))))
  obtain rfl:=oi o
  exact nZ ⟨rfl,j.drop 22⟩
 refine RC.ss (RC.ye mixed [0,0,2,1,1,2,0,0] [0,1,3,4,2,5,6,7] ?_)
 have j:=j.drew
 refine DP.e0 zr (RL.bY 17 p0 j r5 fun az j=>(cJ zr (RL.bY 17 p2 j r6 fun a0 j=>(DP.d0 (DP.vI p0 19 zr zt j r5 fun a1 a56 bp j=>(DP.vI p3 19 zr zt j r6 fun a2 a59 bq j=>(DP.e2 zr ?_)))))))
 obtain⟨ad,a3,o⟩:=bd o
 refine RL.call zt zr Gc [az,a0] zr (aF (j4 N (i0:=5) (i1:=4) j zr zr a3) ?_)
 rintro _ w ⟨rfl,j⟩
 refine DP.d2 (⟨⟨zt,j.kM 2⟩,j.kM 0⟩) (DP.e2 zr ?_)
 obtain⟨af,a4,o⟩:=bd o
 refine RL.call zt zr Gc [a1,a2] zr (aF (j4 N (i0:=3) (i1:=1) j zr zr a4) ?_)
 rintro _ w ⟨rfl,j⟩
 refine DP.d2 (⟨⟨zt,j.kM 2⟩,j.kM 0⟩) (DP.e0 zr (aP (vi ad) (cJ zr (aP (vi af) (DP.d0 ?_)))))
 have j:=j.pl 28 [1,3,4,5,6,7,8,9,10,11,12,13,14,15,16,17,18,19,20,21,22,23,24,25,26,27]
 refine DP.z (aG (RC.seq (RC.sr (mv (vi ad) (ic ad 0 (mv (vb (decide (ad<0))) (RL.gs true (decide (ad<0)) (vi af) rfl rfl rfl dD (RL.gs true (decide (ad<0)) (vb (decide (af<0))) rfl rfl rfl (dT .lss .i64 af 0 rfl (fun h=>by exact(cI h:cv (true&&((decide (ad<0))==false)) (vi af)= (vi af))) (fun _=>rfl) rfl) ?_))))))))
 refine RL.pick (decide (ad<0)) (vb ((decide (ad<0))||(decide (af<0)))) (oF true zr) (RL.nt (fE o (fun hc o=>?_) fun hc o=>?_))
 ·refine RC.sr (aP (vb false) (aP (vi 9) (RL.nt (RC.rt ?_))))
  obtain rfl:=oi o
  exact nZ ⟨rfl,j.drop 26⟩
 refine RC.sx (mv (vp ah 0) (mv v1 ?_))
 have j:=((((((j.dup 17 rfl).dup 17 rfl).dup 14 rfl).dup 14 rfl).dup 13 rfl).dup 13 rfl).pull 10
 obtain⟨br,a5,o⟩:=bd o
 refine RL.call zt zr Ht [(vp ah 0),v1] zr (aF (tB N (i1:=24) j zr a5) ?_)
 rintro ak w j
 refine aP ak (RL.nq ?_)
 obtain⟨al,hj,o⟩:=bd o
 refine RC.jn (fun(al:Bool)=>SH E V [(8,vb al),(9,vi 0)] []) al ?_ ?_
 ·refine RC.wg mixed ?_
  have j:=j.drew
  refine RO.go (mv ak (RO.nx (mv (vi ad) (RO.nx ?_))))
  obtain⟨av,an,hj⟩:=bd hj
  refine RL.bK 0 j zr zr eC an (RO.nx (RL.cV (f:=(fun x=>x)) 0 j (jl 0 j an 0) (aV an).2.1 Fd.self cE (RO.nx (ic av 0 (RO.nx (mv (vb (decide (av>=0))) (gC hj (fun aa hj=>?_) fun aa hj=>?_)))))))
  rotate_left
  ·refine RO.nx (bV aa (RO.nx (bV aa (RO.nx (bV aa (RO.nx (bV aa (RO.nx ?_))))))))
   refine bV aa (RO.nx (bV aa (RO.nx (bV aa (RO.nx (bV aa (RO.nx (bV aa ?_))))))))
   refine RO.nx (gF aa (vb false) (RO.nx (aP (vb false) (RO.nx (aP (vi 0) (RO.last ?_))))))
   obtain rfl:=oi hj
   exact⟨rfl,j.sp 28 []⟩
  refine RO.nx (RL.move ak (cg aa) (RO.nx (RL.move (vi ad) (cg aa) (RO.nx ?_))))
  obtain⟨ao,aq,hj⟩:=bd hj
  refine RL.bK (hg:=(cg aa)) 0 j zr zr eC aq (RO.nx (RL.cV (hg:=(cg aa)) (f:=(fun x=>x)) 0 j (jl 0 j aq 0) (aV aq).2.1 Fd.self cE (RO.nx (RL.move ak (cg aa) (RO.nx (RL.move (vi af) (cg aa) (RO.nx ?_)))))))
  obtain⟨ar,au,hj⟩:=bd hj
  refine RL.bK (hg:=(cg aa)) 0 j zr zr eC au (RO.nx (RL.cV (hg:=(cg aa)) (f:=(fun x=>x)) 0 j (jl 0 j au 0) (aV au).2.1 Fd.self cE (RO.nx (RL.kz ao ar (cg aa) (RO.nx (gF aa (vb (ao==ar)) (RO.nx (aP (vb (ao==ar)) ?_))))))))
  refine RO.nx (aP (vi 0) (RO.last ?_))
  obtain rfl:=oi hj
  exact⟨rfl,j.sp 28 []⟩
 rintro _ w ⟨O,rfl,j⟩
 refine aG (RC.ret ?_)
 obtain rfl:=oi o
 exact nZ ⟨rfl,j.drop 0⟩
theorem kG {res:Bool} (j:Holds E w V) (hb:eV N=some res):
    Calls bC 5 [].toArray w (gE (bB E V res)):=by
 unfold eV at hb
 refine enter Tryz.func5 zr zr (RC.sr (aP (vb false) (RL.ns ?_)))
 have j:=(j.sc Int 1).sc Int 1
 refine RL.build (⟨0,0,1,1⟩:aI) trivial rfl j [(2,vi 1),(3,vi 1)] rfl AO rfl (fun M hs g=>by have h:=q9 M;exact dA.cons (f:=fun(x:aI) y=>{x with X1:=y}) h nC (g.sat 1 _ rfl).1 fun _ h=>dA.cons (f:=fun(x:aI) y=>{x with Y1:=y}) h qd (g.sat 0 _ rfl).1 fun _ h=>dA.nil h) fun ae j=>?_
 refine RL.fy ([(⟨0,0,1,1⟩:aI)]: (List aI)) j [ae] kN ni (fun M hs g=>⟨(g.sat 0 _ zr).1,zt⟩) fun af w j=>?_
 have j:=j.freeze 0
 refine RL.fy ([([(⟨0,0,1,1⟩:aI)]: (List aI))]: (List (List aI))) j [af] zd Fw (fun M hs g=>⟨(g.sat 0 _ zr).1,zt⟩) fun ad w j=>?_
 have j:=(j.sc cS ⟨[97]⟩).sc cS ⟨[49]⟩
 refine RL.build (⟨⟨[97]⟩,⟨[49]⟩,0,⟨0,0⟩⟩:cT) trivial rfl j [(0,(str ⟨[97]⟩)),(1,(str ⟨[49]⟩))] rfl Hu rfl (fun M hs g=>by have h:=Ej M;exact dA.cons (f:=fun(x:cT) y=>{x with Part:=y}) h AG (g.sat 1 _ rfl).1 fun _ h=>dA.cons (f:=fun(x:cT) y=>{x with eK:=y}) h AH (g.sat 0 _ rfl).1 fun _ h=>dA.nil h) fun ag j=>?_
 refine RL.fy ([(⟨⟨[97]⟩,⟨[49]⟩,0,⟨0,0⟩⟩:cT)]: (List cT)) j [ag] AU El (fun M hs g=>⟨(g.sat 0 _ zr).1,zt⟩) fun aa w j=>(RL.BD (zs:=[(.slice none 0 0),(.slice none 0 0),(.slice none 0 0),(.slice none 0 0)]) (cs:=[ad,(.slice none 0 0),(.slice none 0 0),aa]) zt zr [(0,ad),(3,aa)] zr Hv ⟨(hL 4 j),(hL 0 j),zt⟩ zr (RL.alloc j Hx.z fun al w j=>?_))
 have j:=((((j.freeze 5).te aI).te bU).freeze 3).BE (cs:=[ad,(.slice none 0 0),(.slice none 0 0),aa]) (x:=(⟨([([(⟨0,0,1,1⟩:aI)]: (List aI))]: (List (List aI))),([]: (List aI)),([]: (List bU)),([(⟨⟨[97]⟩,⟨[49]⟩,0,⟨0,0⟩⟩:cT)]: (List cT))⟩:jS)) (fun M hs g=>⟨[ad],[(.slice none 0 0),(.slice none 0 0),aa],rfl,(o1 (g.sat 7 _ rfl).1),⟨[(.slice none 0 0)],[(.slice none 0 0),aa],rfl,(o1 (g.sat 1 _ rfl).1),⟨[(.slice none 0 0)],[aa],rfl,(o1 (g.sat 0 _ rfl).1),(o1 (g.sat 3 _ rfl).1)⟩⟩⟩) rfl
 refine RL.bJ 3 j 0 zr r5 fun w j=>?_
 refine RL.ns (RL.aZ (f:=(fun x=>x)) 3 j zr Fd.self r5 fun ah j=>?_)
 have j:=(j.sc cS ⟨[97]⟩).sc cS ⟨[49]⟩
 refine RL.build (⟨⟨[97]⟩,⟨[49]⟩⟩:eK) trivial rfl j [(0,(str ⟨[97]⟩)),(1,(str ⟨[49]⟩))] rfl Em rfl (fun M hs g=>by have h:=BU M;exact dA.cons (f:=fun(x:eK) y=>{x with Part:=y}) h uH (g.sat 1 _ rfl).1 fun _ h=>dA.cons (f:=fun(x:eK) y=>{x with eK:=y}) h uI (g.sat 0 _ rfl).1 fun _ h=>dA.nil h) fun ai j=>?_
 have j:=(j.sc cS ⟨[97]⟩).sc cS ⟨[49]⟩
 refine RL.build (⟨⟨[97]⟩,⟨[49]⟩⟩:eK) trivial rfl j [(0,(str ⟨[97]⟩)),(1,(str ⟨[49]⟩))] rfl Em rfl (fun M hs g=>by have h:=BU M;exact dA.cons (f:=fun(x:eK) y=>{x with Part:=y}) h uH (g.sat 1 _ rfl).1 fun _ h=>dA.cons (f:=fun(x:eK) y=>{x with eK:=y}) h uI (g.sat 0 _ rfl).1 fun _ h=>dA.nil h) fun aj j=>?_
 have j:=j.te kA
 obtain⟨o,ak,hb⟩:=bd hb
 refine RL.call zt zr HS [ah,(.slice none 0 0),ai,aj] zr (aF (mF N (i0:=7) (i1:=0) (i2:=4) (i3:=1) j zr zr zr zr ak) ?_)
 rintro _ w ⟨rfl,j⟩
 refine mv (.tuple #[(vb o.1),(vi o.2)]) (RL.extract (vb o.1) (RL.extract (vi o.2) (aP (vb o.1) (aP (vi o.2) (RL.ns (mv (vi o.2) (ic o.2 0 (mv (vb (o.2==0)) ?_))))))))
 refine RL.gs true (o.2==0) (vb o.1) zr zr zr dD (RL.pick (o.2==0) (vb ((o.2==0)&&o.1)) (gG true) (aP (vb ((o.2==0)&&o.1)) (RL.nt (RC.ret ?_))))
 obtain rfl:=oi hb
 exact cB ⟨rfl,j.drop 21⟩
def tC (E:World) (V:List HP) (res:Int×Bool×Int) (v:Value) (w:World):Prop:=v = .tuple #[(vi res.1),(vb res.2.1),(vi res.2.2)]/\Holds E w V
theorem m4 {p0:jS} {p1:eK} {res:Int×Bool×Int} (j:Holds E w V) (h0:V[i0]? =some (rd v0 p0)) (h1:V[i1]? =some (rd v1 p1)) (o:iK N p0 p1=some res):
    Calls bC 6 [v0,v1].toArray w (gE (tC E V res)):=by
 unfold iK at o
 refine enter Tryz.func6 zr zr ?_
 have j:=(j.dup (i0+0) h0).dup (i1+1) h1
 refine RC.sr (RL.dC 1 v0 j zr fun ay w j=>?_)
 refine RL.dC 1 v1 j zr fun az w j=>?_
 refine aP (vi 0) (aP (vb false) (aP (vi 0) (RL.ns (RL.aZ (f:=(fun x=>x)) 1 j zr Fd.self r5 fun ak j=>?_))))
 obtain⟨aa,al,o⟩:=bd o
 refine RL.call zt zr HR [ak] zr (aF (pG N (i0:=0) j zr al) ?_)
 rintro _ w hK50
 rcases af:aa.1 with _ | a0
 ·replace o:=EV af o
  obtain⟨rfl,j⟩:=DH af hK50
  refine mv (.tuple #[(.pointer none),(vi aa.2)]) (RL.extract (.pointer none) (RL.extract (vi aa.2) (aP (.pointer none) (aP (vi aa.2) (RL.nq (RC.sr (mv (vi aa.2) (ic aa.2 0 ?_))))))))
  refine RL.nt (fE o (fun hc o=>?_) fun hc o=>?_)
  ·refine RC.sr (mv (vi aa.2) (aP (vi 0) (aP (vb false) (aP (vi aa.2) (RL.nt (RC.rt ?_))))))
   obtain rfl:=oi o
   exact Aw ⟨rfl,j.drop 5⟩
  refine RC.sx (RL.aZ (f:=(fun x=>x)) 2 j zr Fd.self r5 fun an j=>(RL.aZ (f:=(fun x=>x)) 2 j zr Fd.self r6 fun ao j=>?_))
  obtain⟨ag,aq,o⟩:=bd o
  refine RL.call zt zr Gc [an,ao] zr (aF (j4 N (i0:=1) (i1:=0) j zr zr aq) ?_)
  rintro _ w ⟨rfl,j⟩
  refine aP (vi ag) (RL.nq (RC.sr (mv (vi ag) (ic ag 0 (RL.nt (fE o (fun hc o=>?_) fun hc o=>?_))))))
  rotate_left
  ·cases o
  refine RC.sr (aP (vi 0) (aP (vb false) (aP (vi 9) (RL.nt (RC.rt ?_)))))
  obtain rfl:=oi o
  exact Aw ⟨rfl,j.drop 7⟩
 replace o:=EW af o
 obtain⟨ad,a1,a2,a3,a4,a5,a6,a7,a8,a9,ba,aj,bb,rfl,j⟩:=DI af hK50
 refine mv (.tuple #[(vp ad 0),(vi aa.2)]) (RL.extract (vp ad 0) (RL.extract (vi aa.2) (aP (vp ad 0) (aP (vi aa.2) (RL.nq (RC.sr (mv (vi aa.2) (ic aa.2 0 ?_))))))))
 refine RL.nt (fE o (fun hc o=>?_) fun hc o=>?_)
 ·refine RC.sr (mv (vi aa.2) (aP (vi 0) (aP (vb false) (aP (vi aa.2) (RL.nt (RC.rt ?_))))))
  obtain rfl:=oi o
  exact Aw ⟨rfl,j.drop 18⟩
 refine RC.sx (RL.aZ (f:=(fun x=>x)) 15 j zr Fd.self r5 fun ar j=>(RL.aZ (f:=(fun x=>x)) 15 j zr Fd.self r6 fun au j=>?_))
 obtain⟨ae,av,o⟩:=bd o
 refine RL.call zt zr Gc [ar,au] zr (aF (j4 N (i0:=1) (i1:=0) j zr zr av) ?_)
 rintro _ w ⟨rfl,j⟩
 refine aP (vi ae) (RL.nq (RC.sr (mv (vi ae) (ic ae 0 (RL.nt (fE o (fun hc o=>?_) fun hc o=>?_))))))
 ·refine RC.sr (aP (vi 0) (aP (vb false) (aP (vi 9) (RL.nt (RC.rt ?_)))))
  obtain rfl:=oi o
  exact Aw ⟨rfl,j.drop 20⟩
 refine RC.ss (RC.sr (mv (vp ad 0) (RL.nilCheck zr (RL.bA zr uO (RL.aX 2 aj j eJ (mv (vi ae) ?_))))))
 obtain⟨aw,ah,o⟩:=bd o
 refine RL.bK 13 j zr zr eC ah (RL.cV (f:=(fun x=>x)) 13 j (jl 13 j ah 0) (aV ah).2.1 Fd.self cE (ic aw 0 (RL.nt (fE o (fun hc o=>?_) fun hc o=>?_))))
 ·refine RC.sr (aP (vi 0) (aP (vb false) (aP (vi 0) (RL.nt (RC.rt ?_)))))
  obtain rfl:=oi o
  exact Aw ⟨rfl,j.drop 20⟩
 refine RC.sx (mv (vp ad 0) (RL.nilCheck zr (RL.bA zr uO (RL.aX 2 aj j eJ (mv (vi ae) ?_)))))
 obtain⟨ax,ai,o⟩:=bd o
 refine RL.bK 13 j zr zr eC ai (RL.cV (f:=(fun x=>x)) 13 j (jl 13 j ai 0) (aV ai).2.1 Fd.self cE (aP (vi ax) (aP (vb true) (aP (vi 0) (RL.nt (RC.ret ?_))))))
 obtain rfl:=oi o
 exact Aw ⟨rfl,j.drop 20⟩
theorem jI {p0:jS} {p1 p2:eK} {res:Bool} (j:Holds E w V) (h0:V[i0]? =some (rd v0 p0)) (h1:V[i1]? =some (rd v1 p1)) (h2:V[i2]? =some (rd v2 p2)) (hb:bR N p0 p1 p2=some res):
    Calls bC 3 [v0,v1,v2].toArray w (gE (bB E V res)):=by
 unfold bR at hb
 refine enter Tryz.func3 zr zr ?_
 have j:=((j.dup (i0+0) h0).dup (i1+1) h1).dup (i2+2) h2
 refine RC.sr (RL.dC 2 v0 j zr fun a3 w j=>?_)
 refine RL.dC 2 v1 j zr fun a4 w j=>?_
 refine RL.dC 2 v2 j zr fun a5 w j=>?_
 refine aP (vb false) (RL.ns (RL.aZ (f:=(fun x=>x)) 2 j zr Fd.self r5 fun an j=>(RL.aZ (f:=(fun x=>x)) 2 j zr Fd.self r6 fun ao j=>(RL.aZ (f:=(fun x=>x)) 2 j zr Fd.self r6 fun aq j=>?_))))
 have j:=j.te kA
 obtain⟨af,ar,hb⟩:=bd hb
 refine RL.call zt zr HS [an,(.slice none 0 0),ao,aq] zr (aF (mF N (i0:=3) (i1:=0) (i2:=2) (i3:=1) j zr zr zr zr ar) ?_)
 rintro _ w ⟨rfl,j⟩
 refine mv (.tuple #[(vb af.1),(vi af.2)]) (RL.extract (vb af.1) (RL.extract (vi af.2) (aP (vb af.1) (aP (vi af.2) (RL.nq (RC.sr (mv (vi af.2) (ic af.2 0 ?_))))))))
 refine RL.nt (fE hb (fun hc hb=>?_) fun hc hb=>?_)
 ·refine RC.seq ?_
  obtain⟨ai,hj,hb⟩:=bd hb
  refine RC.jn (fun(ai:Bool)=>SH E V [(6,vb ai)] []) ai ?_ ?_
  ·refine RC.region (mv (vb af.1) (RL.not af.1 (mv (vb (!af.1)) (gC hj (fun ag hj=>?_) fun ag hj=>?_))))
   rotate_left
   ·refine bV ag (gF ag (vb false) (aP (vb false) (RL.nil ?_)))
    obtain rfl:=oi hj
    exact⟨rfl,j.sp 10 []⟩
   obtain⟨ak,av,hj⟩:=bd hj
   refine RL.call (cg ag) zr HT [] zr (aF (kG N j av) ?_)
   rintro _ w ⟨rfl,j⟩
   refine gF ag (vb ak) (aP (vb ak) (RL.nil ?_))
   obtain rfl:=oi hj
   exact⟨rfl,j.sp 10 []⟩
  rintro _ w ⟨O,rfl,j⟩
  refine aG (RC.rt ?_)
  obtain rfl:=oi hb
  exact cB ⟨rfl,j.drop 0⟩
 refine RC.sx (RL.aZ (f:=(fun x=>x)) 6 j zr Fd.self r5 fun aw j=>(RL.aZ (f:=(fun x=>x)) 6 j zr Fd.self r6 fun ax j=>?_))
 obtain⟨o,ay,hb⟩:=bd hb
 refine RL.call zt zr HU [aw,ax] zr (aF (m4 N (i0:=1) (i1:=0) j zr zr ay) ?_)
 rintro _ w ⟨rfl,j⟩
 refine mv (.tuple #[(vi o.1),(vb o.2.1),(vi o.2.2)]) (RL.extract (vi o.1) (RL.extract (vb o.2.1) (RL.extract (vi o.2.2) (aP (vi o.1) (aP (vb o.2.1) (aP (vi o.2.2) (RL.ns (RL.aZ (f:=(fun x=>x)) 8 j zr Fd.self r5 fun az j=>?_))))))))
 refine RL.aZ (f:=(fun x=>x)) 7 j zr Fd.self r6 fun a0 j=>?_
 obtain⟨aa,a1,hb⟩:=bd hb
 refine RL.call zt zr HU [az,a0] zr (aF (m4 N (i0:=1) (i1:=0) j zr zr a1) ?_)
 rintro _ w ⟨rfl,j⟩
 refine mv (.tuple #[(vi aa.1),(vb aa.2.1),(vi aa.2.2)]) (RL.extract (vi aa.1) (RL.extract (vb aa.2.1) (RL.extract (vi aa.2.2) (aP (vi aa.1) (aP (vb aa.2.1) (aP (vi aa.2.2) (RL.nq ?_)))))))
 obtain⟨aj,hj,hb⟩:=bd hb
 refine RC.jn (fun(aj:Bool)=>SH E V [(6,vb aj)] []) aj ?_ ?_
 ·refine RC.region (mv (vi o.2.2) (ic o.2.2 0 (mv (vb (o.2.2==0)) (RL.gs true (o.2.2==0) (vi aa.2.2) rfl rfl rfl dD (RL.gs true (o.2.2==0) (vb (aa.2.2==0)) rfl rfl rfl (dT .eql .i64 aa.2.2 0 rfl (fun h=>by exact(cI h:cv (true&&((o.2.2==0)==true)) (vi aa.2.2)= (vi aa.2.2))) (fun _=>rfl) rfl) (RL.pick (o.2.2==0) (vb ((o.2.2==0)&&(aa.2.2==0))) (gG true) (mv (vb ((o.2.2==0)&&(aa.2.2==0))) (gC hj (fun ad hj=>?_) fun ad hj=>?_))))))))
  rotate_left
  ·refine bV ad (bV ad (bV ad (zc (bV ad (bV ad (zc (zc (zc ?_))))))))
   refine bV ad (bV ad (gF ad (vb false) (mv (vb false) (ng (RL.pick false (vb false) zr (aP (vb false) (RL.nil ?_)))))))
   obtain rfl:=oi hj
   exact⟨rfl,j.sp 14 []⟩
  refine RL.move (vb af.1) (cg ad) (RL.move (vb o.2.1) (cg ad) (RL.move (vb o.2.1) (cg ad) (RL.gs true o.2.1 (vb aa.2.1) rfl rfl rfl dD (RL.pick (hg:=(cg ad)) o.2.1 (vb (o.2.1&&aa.2.1)) (gG true) (RL.move (vb (o.2.1&&aa.2.1)) (cg ad) (RL.gs true (o.2.1&&aa.2.1) (vi o.1) rfl rfl rfl dD (RL.gs true (o.2.1&&aa.2.1) (vi aa.1) rfl rfl rfl dD (RL.gs true (o.2.1&&aa.2.1) (vb (o.1==aa.1)) rfl rfl rfl (dT .eql .i64 o.1 aa.1 rfl (fun h=>by exact(cI h:cv (true&&((o.2.1&&aa.2.1)==true)) (vi o.1)= (vi o.1))) (fun h=>by exact(cI h:cv (true&&((o.2.1&&aa.2.1)==true)) (vi aa.1)= (vi aa.1))) rfl) ?_))))))))
  refine RL.pick (hg:=(cg ad)) (o.2.1&&aa.2.1) (vb ((o.2.1&&aa.2.1)&&(o.1==aa.1))) (gG true) (RL.C0 (a:=af.1) (b:=((o.2.1&&aa.2.1)&&(o.1==aa.1))) (cg ad) zr zr zr Ft (gF ad (vb (af.1==((o.2.1&&aa.2.1)&&(o.1==aa.1)))) (mv (vb (af.1==((o.2.1&&aa.2.1)&&(o.1==aa.1)))) (gC hj (fun ah hj=>?_) fun ah hj=>?_))))
  rotate_left
  ·refine bV ah (gF ah (vb false) (aP (vb false) (RL.nil ?_)))
   obtain rfl:=oi hj
   exact⟨rfl,j.sp 14 []⟩
  obtain⟨al,a2,hj⟩:=bd hj
  refine RL.call (cg ah) zr HT [] zr (aF (kG N j a2) ?_)
  rintro _ w ⟨rfl,j⟩
  refine gF ah (vb al) (aP (vb al) (RL.nil ?_))
  obtain rfl:=oi hj
  exact⟨rfl,j.sp 14 []⟩
 rintro _ w ⟨O,rfl,j⟩
 refine aG (RC.ret ?_)
 obtain rfl:=oi hb
 exact cB ⟨rfl,j.drop 0⟩
end Go.Gk
