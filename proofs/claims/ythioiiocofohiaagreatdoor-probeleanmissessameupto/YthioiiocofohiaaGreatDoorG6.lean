/-
  Printed texts: Go functions as plain functions, and that they are. No statement of the seed is proved here.
-/
import Derived.Test.YthioiiocofohiaaGreatDoorG1
import Derived.Test.YthioiiocofohiaaGreatDoorG3
import Derived.Test.YthioiiocofohiaaGreatDoorG4
import Derived.Test.YthioiiocofohiaaGreatDoorG5
import Derived.Test.YthioiiocofohiaaGreatDoorA2
set_option linter.unusedVariables false
set_option linter.unusedSimpArgs false
set_option linter.unusedSectionVars false
set_option maxRecDepth 100000
set_option maxHeartbeats 4000000
namespace Go.Gk
open Go Go.Proofs
variable (N:Nat) {E w:World} {b0 b2 b3 b3h i0 i1 i2 i3:Nat} {p0 p1 res:Int} {v0 v0_0 v0_1 v0_10 v0_11 v0_2 v0_3 v0_4 v0_5 v0_6 v0_7 v0_8 v0_9 v1 v2 v2_0 v3 v3h_0:Value} {V:List HP}
def t7 (E:World) (V:List HP) (b0:Nat) (v0_0 v0_1:Value) (v0_2 v0_3:Value) (v0_4 v0_5:Value) (v0_6 v0_7:Value) (v0_8 v0_9:Value) (v0_10 v0_11:Value) (r:Int) (U:Nat->Value) (w:World):Prop:=ly bE 112 Tryz.f30 (i7 E V b0 v0_0 v0_1 v0_2 v0_3 v0_4 v0_5 v0_6 v0_7 v0_8 v0_9 v0_10 v0_11 r) .ret U w
theorem th {p0_0: (List (List aI))} {p0_1: (List aI)} {p0_2: (List bZ)} {p0_3: (List cY)} {p0_4: (List (List aA))} {p0_5: (List aH)} {p0_6: (List (List Int))} {p0_7: (List cI)} {p0_8: (List Int)} {p0_9: (List Int)} {p0_10: (List Int)} {p0_11: (List dU)} {p1: (List bQ)} (o:Holds E w (bc 126 b0 [v0_0,v0_1,v0_2,v0_3,v0_4,v0_5,v0_6,v0_7,v0_8,v0_9,v0_10,v0_11]::rd v0_0 p0_0::rd v0_1 p0_1::rd v0_2 p0_2::rd v0_3 p0_3::rd v0_4 p0_4::rd v0_5 p0_5::rd v0_6 p0_6::rd v0_7 p0_7::rd v0_8 p0_8::rd v0_9 p0_9::rd v0_10 p0_10::rd v0_11 p0_11::V)) (h1:V[i1]? =some (rd v1 p1)) (hb:jL N p0_0 p0_1 p0_2 p0_3 p0_4 p0_5 p0_6 p0_7 p0_8 p0_9 p0_10 p0_11 p1=some res):
    Calls bE 30 [(vp b0 0),v1].toArray w (gF (i7 E V b0 v0_0 v0_1 v0_2 v0_3 v0_4 v0_5 v0_6 v0_7 v0_8 v0_9 v0_10 v0_11 res)):=by
 unfold jL at hb
 refine enter Tryz.func30 zr zr ?_
 have o:=o.dup (i1+13) h1
 refine RC.sr (RL.FF (vp b0 0) zt zr o zr zr fun ae w o=>?_)
 refine aK (vi 0) (RL.nq (RC.sr (mv v1 (RL.bC 1 p1 o yX (ic ((p1.length:Int)) 20 (RL.nt (eI hb (fun hc hb=>?_) fun hc hb=>?_)))))))
 ·refine RC.sr (aK (vi 2) (RL.nt (RC.rt ?_)))
  obtain rfl:=oi hb
  exact cF ⟨rfl,o.pk 15 [2]⟩
 refine RC.sx (RL.makeFunc [(vp ae 0)] (aK (.func (.func 59) #[] #[(vp ae 0)]) (RL.nq (RC.sr (mv v1 (RL.bC 1 p1 o yX (mv (vi 0) (RL.nt ?_))))))))
 obtain⟨bj,hN,hb⟩:=bd hb
 refine RC.range (fun(ag:Nat) (an:Unit)=>SH E V [(0,vp b0 0),(1,v1),(2,vp ae 0),(5,(.func (.func 59) #[] #[(vp ae 0)])),(13,v1),(14,vi p1.length),(15,vi ag)] [bc 126 b0 [v0_0,v0_1,v0_2,v0_3,v0_4,v0_5,v0_6,v0_7,v0_8,v0_9,v0_10,v0_11],rd v0_0 p0_0,rd v0_1 p0_1,rd v0_2 p0_2,rd v0_3 p0_3,rd v0_4 p0_4,rd v0_5 p0_5,rd v0_6 p0_6,rd v0_7 p0_7,rd v0_8 p0_8,rd v0_9 p0_9,rd v0_10 p0_10,rd v0_11 p0_11,rd v1 p1,bc 68 ae [(vp b0 0)]]) (fun(an:Unit)=>SH E V [(0,vp b0 0)] [bc 126 b0 [v0_0,v0_1,v0_2,v0_3,v0_4,v0_5,v0_6,v0_7,v0_8,v0_9,v0_10,v0_11],rd v0_0 p0_0,rd v0_1 p0_1,rd v0_2 p0_2,rd v0_3 p0_3,rd v0_4 p0_4,rd v0_5 p0_5,rd v0_6 p0_6,rd v0_7 p0_7,rd v0_8 p0_8,rd v0_9 p0_9,rd v0_10 p0_10,rd v0_11 p0_11,rd v1 p1,bc 68 ae [(vp b0 0)]]) (t7 E V b0 v0_0 v0_1 v0_2 v0_3 v0_4 v0_5 v0_6 v0_7 v0_8 v0_9 v0_10 v0_11) hN ?_ ?_ ?_ ?_ ?_
 ·exact o.sp 15 [2,3,4,5,6,7,8,9,10,11,12,13,14,1,0]
 ·rintro hm an _ w ⟨O,rfl,o⟩
  refine RC.sr (ic ((p1.length:Int)) ((p1.length:Int)) (RL.nq (RC.cH lD (RC.ex ?_))))
  exact⟨rfl,o.sp 15 [0,1,2,3,4,5,6,7,8,9,10,11,12,13,14]⟩
 ·rintro hm ag an fl _ w hk ⟨O,rfl,o⟩ hb
  refine RC.sr (ic ((ag:Int)) ((p1.length:Int)) (RL.nq (RC.cG (lC hk) (RC.ss (RC.bs (mv (vi ag) ?_))))))
  obtain⟨j,a0,hb⟩:=bd hb
  refine RL.bW 13 o w7 a0 fun bl o=>(RL.bL 0 j o rC fun bm o=>(RL.alloc o B0.z fun ad w o=>?_))
  refine aK (vi ag) (RL.bA 0 o 1 zr rC fun w o=>?_)
  refine RL.nq (RC.seq ?_)
  obtain⟨ao,hj,hb⟩:=bd hb
  refine RC.jn (fun(ao:Bool)=>SH E V [(0,vp b0 0),(1,v1),(2,vp ae 0),(5,(.func (.func 59) #[] #[(vp ae 0)])),(6,vi ag),(7,vp ad 0),(13,v1),(14,vi p1.length),(15,vi ag),(42,vb ao)] [bc 126 b0 [v0_0,v0_1,v0_2,v0_3,v0_4,v0_5,v0_6,v0_7,v0_8,v0_9,v0_10,v0_11],rd v0_0 p0_0,rd v0_1 p0_1,rd v0_2 p0_2,rd v0_3 p0_3,rd v0_4 p0_4,rd v0_5 p0_5,rd v0_6 p0_6,rd v0_7 p0_7,rd v0_8 p0_8,rd v0_9 p0_9,rd v0_10 p0_10,rd v0_11 p0_11,rd v1 p1,bc 68 ae [(vp b0 0)],bx 43 ad j]) ao ?_ ?_
  ·refine RC.region (RL.bB rfl tR (RL.aM 0 o rfl mR ux (mv (vb j.Open) (RL.gs true j.Open (vp ad 3) rfl rfl rfl (dP AD) (RL.gs true j.Open (vi j.A) rfl rfl rfl (bX 0 rfl o (fun h=>by exact(cV h:cv (true&&(j.Open==true)) (vp ad 3)= (vp ad 3))) rfl sC cN) (RL.gs true j.Open (vb (j.A != 0)) rfl rfl rfl (dZ .neq .i64 j.A 0 rfl (fun h=>by exact(cV h:cv (true&&(j.Open==true)) (vi j.A)= (vi j.A))) (fun _=>rfl) rfl) (RL.gs true j.Open (vb (j.A != 0)) rfl rfl rfl (dT (hx:=fun h=>by exact(cV h:cv (true&&(j.Open==true)) (vb (j.A != 0))= (vb (j.A != 0))))) (RL.gs (true&&(j.Open==true)) (j.A != 0) (vp ad 4) rfl rfl rfl (dP AE) ?_))))))))
   refine RL.gs (true&&(j.Open==true)) (j.A != 0) (vi j.B) rfl rfl rfl (bX 0 rfl o (fun h=>by exact(cV h:cv ((true&&(j.Open==true))&&((j.A != 0)==false)) (vp ad 4)= (vp ad 4))) rfl sD cN) (RL.gs (true&&(j.Open==true)) (j.A != 0) (vb (j.B != 0)) rfl rfl rfl (dZ .neq .i64 j.B 0 rfl (fun h=>by exact(cV h:cv ((true&&(j.Open==true))&&((j.A != 0)==false)) (vi j.B)= (vi j.B))) (fun _=>rfl) rfl) (RL.gs true j.Open (vb ((j.A != 0)||(j.B != 0))) rfl rfl rfl (oY (j.A != 0) rfl (fun h=>by exact(cV h:cv (true&&(j.Open==true)) (vb (j.A != 0))= (vb (j.A != 0)))) (fun h=>by exact oX (true&&(j.Open==true)) h)) (RL.pick j.Open (vb (j.Open&&((j.A != 0)||(j.B != 0)))) (iL true) (mv (vb (j.Open&&((j.A != 0)||(j.B != 0)))) (fU hj (fun ah hj=>?_) fun ah hj=>?_)))))
   ·refine bN ah (bN ah (bN ah (bN ah (xl (xl (xl (xl (bN ah ?_))))))))
    refine fP ah (vb true) (RL.nil ?_)
    obtain rfl:=oi hj
    exact⟨rfl,o.sp 18 [3,4,5,6,7,8,9,10,11,12,13,14,15,16,17,0]⟩
   refine RL.bB (hg:=(cg ah)) zr tR (RL.aM (hg:=(cg ah)) 0 o zr mR ux (RL.not (hg:=(cg ah)) j.Open (RL.move (vb (!j.Open)) (cg ah) (fU hj (fun aj hj=>?_) fun aj hj=>?_))))
   ·refine RL.bB (hg:=(cg aj)) rfl v7 (RL.aQ (hg:=(cg aj)) 0 o rfl n7 rB fun bn o=>(RL.build (⟨false,0⟩:dU) (cg aj) rfl o [] rfl EO rfl (fun M hs g=>by have h:=xS M;exact cO.nil h) fun bo o=>?_))
    refine RL.Ly 1 0 j.dU (⟨false,0⟩:dU) (cg aj) zr o zr zr zr zr KW zr (fP aj (vb (!(decide (j.dU= (⟨false,0⟩:dU))))) (hg:=(cg ah)) (fP ah (vb (!(decide (j.dU= (⟨false,0⟩:dU))))) (RL.nil ?_)))
    obtain rfl:=oi hj
    exact⟨rfl,o.sp 20 [5,6,7,8,9,10,11,12,13,14,15,16,17,18,19,2]⟩
   refine bN aj (bN aj (bN aj (bN aj (fP aj (vb false) (hg:=(cg ah)) (fP ah (vb false) (RL.nil ?_))))))
   obtain rfl:=oi hj
   exact⟨rfl,o.sp 18 [3,4,5,6,7,8,9,10,11,12,13,14,15,16,17,0]⟩
  rintro _ w ⟨O,rfl,o⟩
  refine aG (eI hb (fun hc hb=>?_) fun hc hb=>?_)
  ·refine RC.sr (aK (vi 3) (RL.nt (RC.rt (jS (bM ?_)))))
   obtain rfl:=oi hb
   exact⟨rfl,cF ⟨rfl,o.pk 16 [0]⟩⟩
  refine RC.ss ?_
  obtain⟨aq,hj,hb⟩:=bd hb
  refine RC.jn (fun(aq:Bool)=>SH E V [(0,vp b0 0),(1,v1),(2,vp ae 0),(5,(.func (.func 59) #[] #[(vp ae 0)])),(6,vi ag),(7,vp ad 0),(8,vb aq),(13,v1),(14,vi p1.length),(15,vi ag)] [bc 126 b0 [v0_0,v0_1,v0_2,v0_3,v0_4,v0_5,v0_6,v0_7,v0_8,v0_9,v0_10,v0_11],rd v0_0 p0_0,rd v0_1 p0_1,rd v0_2 p0_2,rd v0_3 p0_3,rd v0_4 p0_4,rd v0_5 p0_5,rd v0_6 p0_6,rd v0_7 p0_7,rd v0_8 p0_8,rd v0_9 p0_9,rd v0_10 p0_10,rd v0_11 p0_11,rd v1 p1,bc 68 ae [(vp b0 0)],bx 43 ad j]) aq ?_ ?_
  ·refine RC.region (mv (.func (.func 59) #[] #[(vp ae 0)]) (RL.bB zr AD (RL.aM 15 o zr sC cN ?_)))
   have o:=((o.dup 6 rfl).pull 1).pull 16
   obtain⟨a1,a2,hj⟩:=bd hj
   refine RL.oW [(vp ae 0)] Jq [(vi j.A)] (aF (j4 N (p0:=j.A) o a2) ?_)
   rintro _ w ⟨rfl,o⟩
   refine mv (vb a1) (fU hj (fun ak hj=>?_) fun ak hj=>?_)
   rotate_left
   ·refine bN ak (bN ak (bN ak (bN ak (fP ak (vb false) (aK (vb false) (RL.nil ?_))))))
    obtain rfl:=oi hj
    exact⟨rfl,o.sp 18 [1,3,4,5,6,7,8,9,10,11,12,13,14,15,0,17]⟩
   refine RL.move (.func (.func 59) #[] #[(vp ae 0)]) (cg ak) (RL.bB (hg:=(cg ak)) zr AE (RL.aM (hg:=(cg ak)) 17 o zr sD cN ?_))
   have o:=((o.dup 8 rfl).pull 2).pull 2
   obtain⟨ay,a3,hj⟩:=bd hj
   refine RL.oW (hg:=(cg ak)) [(vp ae 0)] Jq [(vi j.B)] (aF (j4 N (p0:=j.B) o a3) ?_)
   rintro _ w ⟨rfl,o⟩
   refine fP ak (vb ay) (aK (vb ay) (RL.nil ?_))
   obtain rfl:=oi hj
   exact⟨rfl,o.sp 20 [1,5,6,7,8,9,10,11,12,13,14,15,16,17,0,19]⟩
  rintro _ w ⟨O,rfl,o⟩
  refine aG (RC.seq (RC.sr (RL.bB zr tR (RL.aM 15 o zr mR ux (RL.nt ?_)))))
  obtain⟨ar,hj,hb⟩:=bd hb
  refine RC.jn (fun(ar:Bool)=>SH E V [(0,vp b0 0),(1,v1),(2,vp ae 0),(5,(.func (.func 59) #[] #[(vp ae 0)])),(6,vi ag),(7,vp ad 0),(8,vb ar),(13,v1),(14,vi p1.length),(15,vi ag)] [bc 126 b0 [v0_0,v0_1,v0_2,v0_3,v0_4,v0_5,v0_6,v0_7,v0_8,v0_9,v0_10,v0_11],rd v0_0 p0_0,rd v0_1 p0_1,rd v0_2 p0_2,rd v0_3 p0_3,rd v0_4 p0_4,rd v0_5 p0_5,rd v0_6 p0_6,rd v0_7 p0_7,rd v0_8 p0_8,rd v0_9 p0_9,rd v0_10 p0_10,rd v0_11 p0_11,rd v1 p1,bc 68 ae [(vp b0 0)],bx 43 ad j]) ar ?_ ?_
  ·refine eI hj (fun hc hj=>?_) fun hc hj=>?_
   rotate_left
   ·refine RC.skip ?_
    obtain rfl:=oi hj
    exact⟨rfl,o.sp 16 [0,1,2,3,4,5,6,7,8,9,10,11,12,13,14,15]⟩
   refine RC.region (mv (.func (.func 59) #[] #[(vp ae 0)]) (RL.bB zr v7 (RL.bB zr tN (RL.aM (f:=(fun x=>x.dU.Number)) 15 o zr (Fd.comp (f:=fun(x:bQ)=>x.dU) (fun(x:dU)=>x.Number) n7 ot) cN ?_))))
   have o:=((o.dup 6 rfl).pull 1).pull 16
   obtain⟨a4,a5,hj⟩:=bd hj
   refine RL.oW [(vp ae 0)] Jq [(vi j.dU.Number)] (aF (j4 N (p0:=j.dU.Number) o a5) ?_)
   rintro _ w ⟨rfl,o⟩
   refine aK (vb a4) (RL.nil ?_)
   obtain rfl:=oi hj
   exact⟨rfl,o.sp 18 [1,3,4,5,6,7,8,9,10,11,12,13,14,15,0,17]⟩
  rintro _ w ⟨O,rfl,o⟩
  refine aG (RC.seq (RC.sr (RL.bB rfl tR (RL.aM 15 o rfl mR ux (mv (vb j.Open) (RL.gs true j.Open (vp ad 1) rfl rfl rfl (dP v7) (RL.gs true j.Open (vp ad 1) rfl rfl rfl (dP (hx:=fun h=>by exact(cV h:cv (true&&(j.Open==true)) (vp ad 1)= (vp ad 1))) C6) (RL.gs true j.Open (vb j.dU.bZ) rfl rfl rfl (bX (f:=(fun x=>x.dU.bZ)) 15 rfl o (fun h=>by exact(cV h:cv (true&&(j.Open==true)) (vp ad 1)= (vp ad 1))) rfl (Fd.comp (f:=fun(x:bQ)=>x.dU) (fun(x:dU)=>x.bZ) n7 xR) ux) ?_))))))))
  refine RL.pick j.Open (vb (j.Open&&j.dU.bZ)) (iL true) (RL.nt ?_)
  obtain⟨al,hj,hb⟩:=bd hb
  refine RC.jn (fun(al:Bool)=>SH E V [(0,vp b0 0),(1,v1),(2,vp ae 0),(5,(.func (.func 59) #[] #[(vp ae 0)])),(6,vi ag),(7,vp ad 0),(8,vb al),(13,v1),(14,vi p1.length),(15,vi ag)] [bc 126 b0 [v0_0,v0_1,v0_2,v0_3,v0_4,v0_5,v0_6,v0_7,v0_8,v0_9,v0_10,v0_11],rd v0_0 p0_0,rd v0_1 p0_1,rd v0_2 p0_2,rd v0_3 p0_3,rd v0_4 p0_4,rd v0_5 p0_5,rd v0_6 p0_6,rd v0_7 p0_7,rd v0_8 p0_8,rd v0_9 p0_9,rd v0_10 p0_10,rd v0_11 p0_11,rd v1 p1,bc 68 ae [(vp b0 0)],bx 43 ad j]) al ?_ ?_
  ·refine eI hj (fun hc hj=>?_) fun hc hj=>?_
   rotate_left
   ·refine RC.skip ?_
    obtain rfl:=oi hj
    exact⟨rfl,o.sp 16 [0,1,2,3,4,5,6,7,8,9,10,11,12,13,14,15]⟩
   obtain⟨au,hjj,hj⟩:=bd hj
   refine RC.jn (fun(au:Bool)=>SH E V [(0,vp b0 0),(1,v1),(2,vp ae 0),(5,(.func (.func 59) #[] #[(vp ae 0)])),(6,vi ag),(7,vp ad 0),(8,vb au),(13,v1),(14,vi p1.length),(15,vi ag)] [bc 126 b0 [v0_0,v0_1,v0_2,v0_3,v0_4,v0_5,v0_6,v0_7,v0_8,v0_9,v0_10,v0_11],rd v0_0 p0_0,rd v0_1 p0_1,rd v0_2 p0_2,rd v0_3 p0_3,rd v0_4 p0_4,rd v0_5 p0_5,rd v0_6 p0_6,rd v0_7 p0_7,rd v0_8 p0_8,rd v0_9 p0_9,rd v0_10 p0_10,rd v0_11 p0_11,rd v1 p1,bc 68 ae [(vp b0 0)],bx 43 ad j]) au ?_ ?_
   ·refine RC.xM mixed [0,0,0,0,0,0,0,0,0,0,2,0,0,0,0,0,0,0,0,0,0,0,0,0,0] [0,1,2,3,4,5,6,7,8,9,10,11,12,13,14,15,16,17,18,19,20,21,22,23,24] ?_
    have o:=o.drew
    refine DP.e0 zr (RL.bB zr v7 (cB zr (RL.bB zr tN (cB zr (RL.aM (f:=(fun x=>x.dU.Number)) 15 o zr (Fd.comp (f:=fun(x:bQ)=>x.dU) (fun(x:dU)=>x.Number) n7 ot) cN (cB zr (RL.aX 14 (vp b0 0) o w6 (cB zr ?_))))))))
    refine RL.nilCheck zr (cB zr (RL.bB zr kx (cB zr (RL.bB zr mT (cB zr (RL.aX 0 v0_2 o vY (cB zr (RL.bC 3 p0_2 o xV ?_))))))))
    refine cB zr (RL.i6 (p0_2.length:Int) 1 (tL zr ?_))
    obtain⟨a6,a7,hjj⟩:=bd hjj
    refine RL.call zt zr Jn [(vi j.dU.Number),(vi 0),(vi (IntKind.wrap .i64 ((p0_2.length:Int) - 1)))] zr (aF (nB N (p0:=j.dU.Number) (p1:=0) (p2:=(IntKind.wrap .i64 ((p0_2.length:Int) - 1))) o a7) ?_)
    rintro _ w ⟨rfl,o⟩
    refine xN zr (mv (vb a6) (DP.d0 (fU hjj (fun af hjj=>?_) fun af hjj=>?_)))
    rotate_left
    ·refine DP.e0 zr (bN af (cB zr (bN af (cB zr (bN af (cB zr (bN af (cB zr ?_))))))))
     refine bN af (cB zr (bN af (cB zr (bN af (cB zr (bN af (cB zr (bN af ?_))))))))
     refine cB zr (bN af (cB zr (bN af (cB zr (fP af (vb false) (cB zr (aK (vb false) (DP.d0 ?_))))))))
     refine DP.z ?_
     obtain rfl:=oi hjj
     exact⟨rfl,o.sp 16 [0,1,2,3,4,5,6,7,8,9,10,11,12,13,14,15]⟩
    refine DP.e0 zr (RL.aX (hg:=(cg af)) 14 (vp b0 0) o w6 (cB zr (RL.nilCheck (hg:=(cg af)) zr (cB zr (RL.bB (hg:=(cg af)) zr kx (cB zr (RL.bB (hg:=(cg af)) zr mT (cB zr ?_))))))))
    refine RL.aX (hg:=(cg af)) 0 v0_2 o vY (cB zr (RL.bB (hg:=(cg af)) zr v7 (cB zr (RL.bB (hg:=(cg af)) zr tN (cB zr (RL.aM (hg:=(cg af)) (f:=(fun x=>x.dU.Number)) 15 o zr (Fd.comp (f:=fun(x:bQ)=>x.dU) (fun(x:dU)=>x.Number) n7 ot) cN (cB zr ?_)))))))
    obtain⟨av,a8,hjj⟩:=bd hjj
    refine RL.bW (hg:=(cg af)) 3 o Au a8 fun bp o=>(cB zr (RL.iu (hg:=(cg af)) 0 o zr xn sA fun bq o=>(cB zr (RL.bH (hg:=(cg af)) av.ij 0 o ux (cB zr (fP af (vb av.ij) (cB zr (aK (vb av.ij) ?_))))))))
    refine DP.d0 (DP.z ?_)
    obtain rfl:=oi hjj
    exact⟨rfl,o.sp 18 [2,3,4,5,6,7,8,9,10,11,12,13,14,15,16,17]⟩
   rintro _ w ⟨O,rfl,o⟩
   obtain rfl:=oi hj
   exact⟨rfl,o.sp 16 [0,1,2,3,4,5,6,7,8,9,10,11,12,13,14,15]⟩
  rintro _ w ⟨O,rfl,o⟩
  refine aG (RC.bs (mv (vb al) (RL.not al (aK (vb (!al)) (RL.nt (eI hb (fun hc hb=>?_) fun hc hb=>?_))))))
  ·refine RC.sr (aK (vi 9) (RL.nt (RC.rb (jS (bM ?_)))))
   obtain rfl:=oi hb
   exact⟨rfl,cF ⟨rfl,o.pk 16 [0]⟩⟩
  refine RC.sr (RL.bB rfl tR (RL.aM 15 o rfl mR ux (RL.not j.Open (mv (vb (!j.Open)) (RL.gs true (!j.Open) (vp ad 4) rfl rfl rfl (dP AE) (RL.gs true (!j.Open) (vi j.B) rfl rfl rfl (bX 15 rfl o (fun h=>by exact(cV h:cv (true&&((!j.Open)==true)) (vp ad 4)= (vp ad 4))) rfl sD cN) (RL.gs true (!j.Open) (vp ad 3) rfl rfl rfl (dP AD) (RL.gs true (!j.Open) (vi j.A) rfl rfl rfl (bX 15 rfl o (fun h=>by exact(cV h:cv (true&&((!j.Open)==true)) (vp ad 3)= (vp ad 3))) rfl sC cN) ?_))))))))
  refine RL.gs true (!j.Open) (vb (decide (j.B<=j.A))) rfl rfl rfl (dZ .leq .i64 j.B j.A rfl (fun h=>by exact(cV h:cv (true&&((!j.Open)==true)) (vi j.B)= (vi j.B))) (fun h=>by exact(cV h:cv (true&&((!j.Open)==true)) (vi j.A)= (vi j.A))) rfl) (RL.pick (!j.Open) (vb ((!j.Open)&&(decide (j.B<=j.A)))) (iL true) (aK (vb ((!j.Open)&&(decide (j.B<=j.A)))) (RL.nt (eI hb (fun hc hb=>?_) fun hc hb=>?_))))
  ·refine RC.sr (aK (vi 8) (RL.nt (RC.rb (jS (bM ?_)))))
   obtain rfl:=oi hb
   exact⟨rfl,cF ⟨rfl,o.pk 16 [0]⟩⟩
  refine RC.seq (RC.xM mixed [0,0,0,0,2,0] [0,1,2,3,4,5] ?_)
  have o:=o.drew
  refine DP.e0 zr (mv v1 (cB zr (mv (vi ag) (cB zr ?_))))
  obtain⟨br,a9,hb⟩:=bd hb
  refine RL.cut (hl:= .inr ⟨rfl,zr⟩) 13 o w7 (.inl zr) a9 fun ba o=>(cB zr (RL.aQ (f:=(fun x=>x)) 16 o zr Fd.self rC fun bb o=>(tL zr ?_)))
  obtain⟨bf,bg,hb⟩:=bd hb
  refine RL.call zt zr Ms [ba,bb] zr (aF (pT N (i0:=1) (i1:=0) o zr zr bg) ?_)
  rintro _ w ⟨rfl,o⟩
  refine xN zr (aK (vb bf) (DP.d0 (DP.z (aG (eI hb (fun hc hb=>?_) fun hc hb=>?_)))))
  rotate_left
  ·refine RC.skip (bI (bI (aG (RC.region (RL.inc hk hm (mv (vi ((ag+1:Nat):Int)) (RL.nil ?_)))))))
   obtain rfl:=oi hb
   exact⟨rfl,o.sp 18 [2,3,4,5,6,7,8,9,10,11,12,13,14,15,16]⟩
  refine RC.sr (aK (vi 7) (RL.nt (RC.rb (jS (bM ?_)))))
  obtain rfl:=oi hb
  exact⟨rfl,cF ⟨rfl,o.pk 18 [2]⟩⟩
 ·intro r U w e hK
  subst e
  refine bM ?_
  obtain rfl:=oi hb
  exact hK
 rintro an _ w rfl ⟨O,rfl,o⟩
 rw [Fo.fB] at hb
 refine aG (RC.sr (aK (vi 0) (RL.nt (RC.ret ?_))))
 obtain rfl:=oi hb
 exact cF ⟨rfl,o.pk 15 [0]⟩
theorem nJ {p0:dU} (j:Holds E w V) (h0:V[i0]? =some (rd v0 p0)) (h1:V[i1]? =some (pt v1 p1)) (o:fZ N p0 p1=some res):
    Calls bE 60 [v0,v1].toArray w (gF (aN E V res)):=by
 unfold fZ at o
 refine enter Tryz.func60 zr zr ?_
 have j:=(j.dup (i0+0) h0).xB (i:=i1+1) h1
 refine RC.sr (RL.dB 1 v0 j zr fun ab w j=>?_)
 refine aK (vi 0) (RL.nq (RC.sr (RL.bB zr C6 (RL.aM 0 j zr xR ux (RL.nt (eI o (fun hc o=>?_) fun hc o=>?_))))))
 rotate_left
 ·refine RC.sx (RL.bB zr tN (RL.aM 0 j zr ot cN (aK (vi p0.Number) (RL.nt (RC.ret ?_)))))
  obtain rfl:=oi o
  exact cF ⟨rfl,j.drop 3⟩
 refine RC.sr (RL.bH p1 1 j cN (RL.bB zr tN (RL.aM 0 j zr ot cN (RL.i6 p1 p0.Number (aK (vi (IntKind.wrap .i64 (p1+p0.Number))) (RL.nt (RC.rt ?_)))))))
 obtain rfl:=oi o
 exact cF ⟨rfl,j.drop 3⟩
def t8 (E:World) (V:List HP) (b2:Nat) (v2_0:Value) (p2_0: (List (Int×Bool))) (b3 b3h:Nat) (res: (List Int)) (v:Value) (w:World):Prop:=∃u3h_0:Value,v = .tuple #[]/\Holds E w ([bc 143 b2 [v2_0],mp v2_0 p2_0,bc 144 b3 [(vp b3h 0)],bc 176 b3h [u3h_0],own 3 u3h_0 res]++V)
theorem nK {p2_0: (List (Int×Bool))} {p3h_0: (List Int)} {res: (List Int)} (j:Holds E w (bc 143 b2 [v2_0]::mp v2_0 p2_0::bc 144 b3 [(vp b3h 0)]::bc 176 b3h [v3h_0]::own 3 v3h_0 p3h_0::V)) (hb:gM N p0 p1 p2_0 p3h_0=some res):
    Calls bE 62 [(vi p0),(vi p1),(vp b2 0),(vp b3 0)].toArray w (gF (t8 E V b2 v2_0 p2_0 b3 b3h res)):=by
 unfold gM at hb
 refine enter Tryz.func62 zr zr (RC.seq ?_)
 obtain⟨ae,o,hb⟩:=bd hb
 refine RC.jn (fun(ae:Bool)=>SH E V [(0,vi p0),(1,vi p1),(2,vp b2 0),(3,vp b3 0),(15,vb ae)] [bc 143 b2 [v2_0],mp v2_0 p2_0,bc 144 b3 [(vp b3h 0)],bc 176 b3h [v3h_0],own 3 v3h_0 p3h_0]) ae ?_ ?_
 ·refine RC.region (RL.aX 0 v2_0 j B2 (mv (vi p0) (RL.pF 1 p0 zt j D0 (RL.not (dM p2_0 p0 (false:Bool)) (mv (vb (!(dM p2_0 p0 (false:Bool)))) (fU o (fun aa o=>?_) fun aa o=>?_))))))
  ·refine RL.aX (hg:=(cg aa)) 0 v2_0 j B2 (RL.move (vi p1) (cg aa) (RL.pF 1 p1 (cg aa) j D0 (RL.not (hg:=(cg aa)) (dM p2_0 p1 (false:Bool)) (fP aa (vb (!(dM p2_0 p1 (false:Bool)))) (RL.nil ?_)))))
   obtain rfl:=oi o
   exact⟨rfl,j.sp 5 [0,1,2,3,4]⟩
  refine bN aa (bN aa (bN aa (bN aa (fP aa (vb false) (RL.nil ?_)))))
  obtain rfl:=oi o
  exact⟨rfl,j.sp 5 [0,1,2,3,4]⟩
 rintro _ w ⟨O,rfl,j⟩
 refine aG ?_
 obtain⟨af,o,hb⟩:=bd hb
 refine RC.jn (fun(af: (List Int)) U w=>∃ad:Value,SH E V [(2,vp b2 0),(3,vp b3 0)] [bc 143 b2 [v2_0],mp v2_0 p2_0,bc 144 b3 [(vp b3h 0)],bc 176 b3h [ad],own 3 ad af] U w) af ?_ ?_
 ·refine eI o (fun hc o=>?_) fun hc o=>?_
  rotate_left
  ·refine RC.skip ?_
   obtain rfl:=oi o
   exact⟨rfl,v3h_0,j.sp 5 [0,1,2,3,4]⟩
  refine RC.region (RL.aX 2 (vp b3h 0) j B3 (mv (vi p0) (mv (vi p1) ?_)))
  have j:=(j.pull 4).pull 4
  obtain⟨aj,ah,o⟩:=bd o
  refine RL.call zt zr KE [(vp b3h 0),(vi p0),(vi p1)] zr (aF (mJ N (p1:=p0) (p2:=p1) j ah) ?_)
  rintro _ w ⟨ai,rfl,j⟩
  refine RL.nil ?_
  obtain rfl:=oi o
  exact⟨rfl,ai,j.sp 7 [2,3,4,0,1]⟩
 rintro _ w ⟨ad,O,rfl,j⟩
 obtain rfl:=oi hb
 refine xz ?_
 exact Ep ⟨ad,zr,j.pk 5 [0,1,2,3,4]⟩
def xe (E:World) (V:List HP) (b0:Nat) (v0_0 v0_1:Value) (v0_2 v0_3:Value) (v0_4 v0_5:Value) (v0_6 v0_7:Value) (v0_8 v0_9:Value) (v0_10 v0_11:Value) (res: (List Int)) (v:Value) (w:World):Prop:=Holds E w ([own 3 v res,bc 126 b0 [v0_0,v0_1,v0_2,v0_3,v0_4,v0_5,v0_6,v0_7,v0_8,v0_9,v0_10,v0_11]]++V)
theorem lj {p0_2: (List bZ)} {p0_3: (List cY)} {p0_5: (List aH)} {p0_6: (List (List Int))} {p0_10: (List Int)} {p0_11: (List dU)} {p1: (List bQ)} {res: (List Int)} (j:Holds E w (bc 126 b0 [v0_0,v0_1,v0_2,v0_3,v0_4,v0_5,v0_6,v0_7,v0_8,v0_9,v0_10,v0_11]::rd v0_2 p0_2::rd v0_3 p0_3::rd v0_5 p0_5::rd v0_6 p0_6::rd v0_10 p0_10::rd v0_11 p0_11::V)) (h1:V[i1]? =some (rd v1 p1)) (hb:dE N p0_2 p0_3 p0_5 p0_6 p0_10 p0_11 p1=some res):
    Calls bE 36 [(vp b0 0),v1].toArray w (gF (xe E V b0 v0_0 v0_1 v0_2 v0_3 v0_4 v0_5 v0_6 v0_7 v0_8 v0_9 v0_10 v0_11 res)):=by
 unfold dE at hb
 refine enter Tryz.func36 zr zr ?_
 have j:=j.dup (i1+7) h1
 refine RC.sr (aK (.slice none 0 0) (RL.ns (mv (vp b0 0) (RL.nilCheck zr (RL.bB zr lW (RL.aX 1 v0_5 j qN (RL.bC 4 p0_5 j wK (RL.alloc j Ft.z fun ab w j=>?_))))))))
 have j:=j.sc Int (p0_5.length:Int)
 refine RL.bA 1 j 0 zr cN fun w j=>?_
 refine RL.ns ?_
 have j:=j.gJ (i:=1) rfl
 refine RL.makeFunc [(vp ab 0)] (aK (.func (.func 60) #[] #[(vp ab 0)]) (RL.ns (RL.makeMap (κ:=Int) (ν:=Bool) zr j fun ae w j=>(RL.pG j KX fun ad w j=>?_))))
 refine RL.gU 0 ae j zr zr (I3 j (i:=1) zr) B2 fun w j=>?_
 refine RL.nq (RC.sr (mv v1 (RL.bC 4 p1 j yX (mv (vi 0) (RL.nt ?_)))))
 obtain⟨ah,hN,hb⟩:=bd hb
 refine RC.fold (fun(a9:Nat) (ah: (List (Int×Bool)))=>SH E V [(0,vp b0 0),(1,v1),(5,vp ab 0),(6,(.func (.func 60) #[] #[(vp ab 0)])),(7,vp ad 0),(32,v1),(33,vi p1.length),(34,vi a9)] [bc 126 b0 [v0_0,v0_1,v0_2,v0_3,v0_4,v0_5,v0_6,v0_7,v0_8,v0_9,v0_10,v0_11],rd v0_2 p0_2,rd v0_3 p0_3,rd v0_5 p0_5,rd v0_6 p0_6,rd v0_10 p0_10,rd v0_11 p0_11,rd v1 p1,pt (vp ab 0) (p0_5.length:Int),bc 143 ad [ae],mp ae ah]) (fun(ah: (List (Int×Bool)))=>SH E V [(0,vp b0 0),(1,v1),(5,vp ab 0),(6,(.func (.func 60) #[] #[(vp ab 0)])),(7,vp ad 0)] [bc 126 b0 [v0_0,v0_1,v0_2,v0_3,v0_4,v0_5,v0_6,v0_7,v0_8,v0_9,v0_10,v0_11],rd v0_2 p0_2,rd v0_3 p0_3,rd v0_5 p0_5,rd v0_6 p0_6,rd v0_10 p0_10,rd v0_11 p0_11,rd v1 p1,pt (vp ab 0) (p0_5.length:Int),bc 143 ad [ae],mp ae ah]) hN ?_ ?_ ?_ ?_
 ·exact j.sp 12 [5,6,7,8,9,10,11,4,3,0,1]
 ·rintro hm ah _ w ⟨O,rfl,j⟩
  refine RC.sr (ic ((p1.length:Int)) ((p1.length:Int)) (RL.nq (RC.cH lD (RC.ex ?_))))
  exact⟨rfl,j.sp 11 [0,1,2,3,4,5,6,7,8,9,10]⟩
 ·rintro hm a9 ah s' _ w hk ⟨O,rfl,j⟩ hb
  refine RC.sr (ic ((a9:Int)) ((p1.length:Int)) (RL.nq (RC.cG (lC hk) (RC.ss (RC.bs ?_)))))
  obtain⟨b8,b9,hb⟩:=bd hb
  refine RL.bW 7 j w7 b9 fun db j=>(RL.bL 0 b8 j rC fun dc j=>(RL.alloc j B0.z fun dd w j=>?_))
  refine RL.bA 0 j 1 zr rC fun w j=>?_
  refine RL.ns (RL.bB zr tR (RL.aM 0 j zr mR ux (RL.nt ?_)))
  obtain⟨bo,hj,hb⟩:=bd hb
  refine RC.jn (fun(bo: (List (Int×Bool)))=>SH E V [(0,vp b0 0),(1,v1),(5,vp ab 0),(6,(.func (.func 60) #[] #[(vp ab 0)])),(7,vp ad 0),(32,v1),(33,vi p1.length),(34,vi a9)] [bc 126 b0 [v0_0,v0_1,v0_2,v0_3,v0_4,v0_5,v0_6,v0_7,v0_8,v0_9,v0_10,v0_11],rd v0_2 p0_2,rd v0_3 p0_3,rd v0_5 p0_5,rd v0_6 p0_6,rd v0_10 p0_10,rd v0_11 p0_11,rd v1 p1,pt (vp ab 0) (p0_5.length:Int),bc 143 ad [ae],mp ae bo]) bo ?_ ?_
  ·refine eI hj (fun hc hj=>?_) fun hc hj=>?_
   rotate_left
   ·refine RC.skip ?_
    obtain rfl:=oi hj
    exact⟨rfl,j.sp 14 [3,4,5,6,7,8,9,10,11,12,13]⟩
   have j:=j.drew
   refine RC.FT (fun w=>Holds E w ([bc 143 ad [ae]]++V)) mixed zr [1,0,0,0,2,2] [0,1,2,3,4,5] (j.pk 14 [12]) (DP.Je ae zr (fun w j=>RL.aX 0 ae j B2 DP.d1) (DP.e0 zr (mv (.func (.func 60) #[] #[(vp ab 0)]) (cB zr (RL.bB zr v7 (cB zr (RL.aQ 0 j zr n7 rB fun ca j=>(tL zr ?_))))))))
   obtain⟨cb,cc,hj⟩:=bd hj
   refine RL.oW [(vp ab 0)] KY [ca] (aF (nJ N (i0:=0) (i1:=12) j zr zr cc) ?_)
   rintro _ w ⟨rfl,j⟩
   refine DP.d2 (j.pk 15 [13]) (DP.e2 zr ?_)
   have j:=j.sc Bool true
   refine RL.mapUpdate 15 0 cb j zr zr zr zr zr D0 fun w j=>(DP.d2 (j.pk 16 [14]) (DP.z ?_))
   obtain rfl:=oi hj
   exact⟨rfl,j.sp 16 [5,6,7,8,9,10,11,12,13,14,15]⟩
  rintro _ w ⟨O,rfl,j⟩
  refine bI (aG (RC.region (RL.inc hk hm (mv (vi ((a9+1:Nat):Int)) (RL.nil ?_)))))
  obtain rfl:=oi hb
  exact⟨rfl,j.sp 11 [0,1,2,3,4,5,6,7,8,9,10]⟩
 rintro _ w ⟨O,rfl,j⟩
 refine aG (RC.seq ?_)
 obtain⟨cd,cf,hb⟩:=bd hb
 refine RC.Ew E V mixed [0,1,1,1,1,0,0,1,0,0,0] [8,9,10] (fun(x:Nat×Value×Nat)=>(fun aa ak o=>[(0,46,(vi p0_5.length)),(1,47,(vp b0 0)),(2,48,(vp b0 0)),(3,49,(vp b0 0)),(4,50,(vp b0 2)),(5,51,v0_2),(6,52,(vi p0_2.length)),(7,53,(vi (IntKind.wrap .i64 ((p0_5.length:Int)+ (p0_2.length:Int))))),(8,54,(vp aa 0)),(9,10,(vp o 0))]) x.1 x.2.1 x.2.2) [(0,vp b0 0),(1,v1),(5,vp ab 0),(6,(.func (.func 60) #[] #[(vp ab 0)])),(7,vp ad 0)] [] (fun(D:Nat->Bool) (x:Nat×Value×Nat)=>(fun aa ak o=>[bif D 0 then (bc 176 aa [ak]) else aZ,bif D 0 then (own 3 ak cd) else aZ,bif D 2 then (bc 144 o [(vp aa 0)]) else (bif D 1 then (bc 144 o [(.pointer none)]) else aZ),bc 126 b0 [v0_0,v0_1,v0_2,v0_3,v0_4,v0_5,v0_6,v0_7,v0_8,v0_9,v0_10,v0_11],rd v0_2 p0_2,rd v0_3 p0_3,rd v0_5 p0_5,rd v0_6 p0_6,rd v0_10 p0_10,rd v0_11 p0_11,rd v1 p1,pt (vp ab 0) (p0_5.length:Int),bc 143 ad [ae],mp ae ah]) x.1 x.2.1 x.2.2) (fun x=>by kernel_rfl) ?_ ⟨?_,fun _=>jt gn,fun _=>wY gn,fun _=>mN gn kx,fun _=>mN gn mT,?_,?_,fun _=>HF gn rfl,?_,?_,?_,trivial⟩ ?_
 ·have j:=(((j.drew).aZ).aZ).aZ
  exact⟨(0,undef,0),dX.none,(CX zr),zt,j⟩
 ·rintro D U w hD au a0 ⟨⟨aa,ak,o⟩,hv,ha,_,j⟩
  obtain⟨O,rfl⟩:=(ac (ha.at 2 rfl) az).eV
  refine RL.bH (p0_5.length:Int) 11 j cN ?_
  exact RL.nil ⟨rfl,(aa,ak,o),hv.pu 0,ha.u,zt,j⟩
 ·rintro D U w hD au a0 ⟨⟨aa,ak,o⟩,hv,ha,_,j⟩
  obtain⟨O,rfl⟩:=(ac (hv.at 4 rfl (au.1 rfl)) az).eV
  refine RL.aX 3 v0_2 j vY ?_
  exact RL.nil ⟨rfl,(aa,ak,o),hv.pu 5,ha.u,zt,j⟩
 ·rintro D U w hD au a0 ⟨⟨aa,ak,o⟩,hv,ha,_,j⟩
  obtain⟨O,rfl⟩:=(ac (hv.at 5 rfl (au.1 rfl)) az).eV
  refine RL.bC 4 p0_2 j xV ?_
  exact RL.nil ⟨rfl,(aa,ak,o),hv.pu 6,ha.u,zt,j⟩
 ·rintro D U w hD au a0 ⟨⟨aa,ak,o⟩,hv,ha,_,j⟩
  obtain⟨O,rfl⟩:=(ac (hv.at 7 rfl (au.1 rfl)) az).eV
  have j:=((j.cA 0 hD).cA 1 hD).cA 2 (nh a0 hD 10)
  refine RL.call zt zr KD [(vi (IntKind.wrap .i64 ((p0_5.length:Int)+ (p0_2.length:Int))))] zr (aF (nI N (p0:=(IntKind.wrap .i64 ((p0_5.length:Int)+ (p0_2.length:Int)))) j cf) ?_)
  rintro _ w ⟨b1,ch,rfl,j⟩
  have j:=(((j.pl 16 [0,1,4,5,6,7,8,9,10,11,12,13,14,15]).cL 0 true aZ).cL 1 true aZ).eY 2 (D 10) (nh a0 hD 10) (bc 144 o [(vp b1 0)])
  exact RL.nil ⟨rfl,(b1,ch,o),hv.pu 8,ha.u,zt,j⟩
 ·rintro D U w hD au a0 ⟨⟨aa,ak,o⟩,hv,ha,_,j⟩
  obtain⟨O,rfl⟩:=(az (U:=U)).eV
  have j:=(j.cA 2 (nh a0 hD 10)).cA 2 hD
  refine RL.pG j KZ fun b2 w j=>?_
  have j:=((j.pl 15 [1,2,0,4,5,6,7,8,9,10,11,12,13,14]).cL 2 true aZ).eY 2 (D 10) (nh a0 hD 10) (bc 144 b2 [(vp aa 0)])
  exact RL.nil ⟨rfl,(aa,ak,b2),hv.pu 9,ha.u,zt,j⟩
 ·rintro D U w hD au a0 ⟨⟨aa,ak,o⟩,hv,ha,_,j⟩
  obtain⟨O,rfl⟩:=(ac (hv.at 8 rfl (au.2.1 rfl)) (ac (hv.at 9 rfl (au.1 rfl)) az)).eV
  have j:=((j.cK 0 (au.2.1 rfl)).cA 2 hD).cK 2 (au.1 rfl)
  refine RL.gU 2 (vp aa 0) j zr zr zr B3 fun w j=>?_
  have j:=(j.cL (hb:=au.2.1 rfl) 0 (D 8) aZ).cL 2 true (bif D 9 then (bc 144 o [(.pointer none)]) else aZ)
  exact RL.nil ⟨rfl,(aa,ak,o),hv.n1,ha,zt,j⟩
 rintro D U w bh ⟨⟨aa,ak,o⟩,hv,ha,_,j⟩
 have j:=((j.cK 0 (jC bh 8)).cK 1 (jC bh 8)).cK 2 (jC bh 10)
 obtain⟨O,rfl⟩:=(ac (hv.at 9 rfl (jC bh 9)) (ac (ha.at 0 rfl) (ac (ha.at 1 rfl) (ac (ha.at 2 rfl) (ac (ha.at 3 rfl) (ac (ha.at 4 rfl) az)))))).eV
 refine aG (RC.sr (RL.makeFunc [(vp ad 0),(vp o 0)] (aK (.func (.func 62) #[] #[(vp ad 0),(vp o 0)]) (RL.nq (RC.sr (mv (vp b0 0) (RL.nilCheck zr (RL.bB zr xq ?_))))))))
 refine RL.aX 3 v0_6 j DV (RL.bC 7 p0_6 j DW (mv (vi 0) (RL.nt ?_)))
 obtain⟨a5,hN,hb⟩:=bd hb
 refine RC.fold (fun(av:Nat) (a5: (List Int)) U w=>∃b3:Value,SH E V [(0,vp b0 0),(1,v1),(5,vp ab 0),(6,(.func (.func 60) #[] #[(vp ab 0)])),(7,vp ad 0),(10,vp o 0),(11,(.func (.func 62) #[] #[(vp ad 0),(vp o 0)])),(59,v0_6),(60,vi p0_6.length),(61,vi av)] [bc 126 b0 [v0_0,v0_1,v0_2,v0_3,v0_4,v0_5,v0_6,v0_7,v0_8,v0_9,v0_10,v0_11],rd v0_2 p0_2,rd v0_3 p0_3,rd v0_5 p0_5,rd v0_6 p0_6,rd v0_10 p0_10,rd v0_11 p0_11,rd v1 p1,pt (vp ab 0) (p0_5.length:Int),bc 143 ad [ae],mp ae ah,bc 144 o [(vp aa 0)],bc 176 aa [b3],own 3 b3 a5] U w) (fun(a5: (List Int)) U w=>∃bj:Value,SH E V [(0,vp b0 0),(1,v1),(6,(.func (.func 60) #[] #[(vp ab 0)])),(7,vp ad 0),(10,vp o 0),(11,(.func (.func 62) #[] #[(vp ad 0),(vp o 0)]))] [bc 126 b0 [v0_0,v0_1,v0_2,v0_3,v0_4,v0_5,v0_6,v0_7,v0_8,v0_9,v0_10,v0_11],rd v0_2 p0_2,rd v0_3 p0_3,rd v0_5 p0_5,rd v0_6 p0_6,rd v0_10 p0_10,rd v0_11 p0_11,rd v1 p1,pt (vp ab 0) (p0_5.length:Int),bc 143 ad [ae],mp ae ah,bc 144 o [(vp aa 0)],bc 176 aa [bj],own 3 bj a5] U w) hN ?_ ?_ ?_ ?_
 ·exact⟨ak,j.sp 14 [3,4,5,6,7,8,9,10,11,12,13,2,0,1]⟩
 ·rintro hm a5 _ w ⟨cj,O,rfl,j⟩
  refine RC.sr (ic ((p0_6.length:Int)) ((p0_6.length:Int)) (RL.nq (RC.cH lD (RC.ex ?_))))
  exact⟨rfl,cj,j.sp 14 [0,1,2,3,4,5,6,7,8,9,10,11,12,13]⟩
 ·rintro hm av a5 s' _ w hk ⟨ck,O,rfl,j⟩ hb
  refine RC.sr (ic ((av:Int)) ((p0_6.length:Int)) (RL.nq (RC.cG (lC hk) (RC.ss (RC.bs (mv (vi av) ?_))))))
  obtain⟨a3,cl,hb⟩:=bd hb
  refine RL.bW 4 j xX cl fun de j=>(RL.bL 0 a3 j fE fun ba j=>(aK (vi av) (aK ba (RL.ns (mv ba (RL.bC 0 a3 j l3 (mv (vi 0) (RL.nt ?_))))))))
  obtain⟨a6,hN,hb⟩:=bd hb
  refine RC.fold (fun(bk:Nat) (a6: (List Int)) U w=>∃b4:Value,SH E V [(0,vp b0 0),(1,v1),(5,vp ab 0),(6,(.func (.func 60) #[] #[(vp ab 0)])),(7,vp ad 0),(10,vp o 0),(11,(.func (.func 62) #[] #[(vp ad 0),(vp o 0)])),(12,vi av),(59,v0_6),(60,vi p0_6.length),(61,vi av),(66,ba),(67,vi a3.length),(68,vi bk)] [bc 126 b0 [v0_0,v0_1,v0_2,v0_3,v0_4,v0_5,v0_6,v0_7,v0_8,v0_9,v0_10,v0_11],rd v0_2 p0_2,rd v0_3 p0_3,rd v0_5 p0_5,rd v0_6 p0_6,rd v0_10 p0_10,rd v0_11 p0_11,rd v1 p1,pt (vp ab 0) (p0_5.length:Int),bc 143 ad [ae],mp ae ah,bc 144 o [(vp aa 0)],bc 176 aa [b4],own 3 b4 a6,rd ba a3] U w) (fun(a6: (List Int)) U w=>∃bl:Value,SH E V [(0,vp b0 0),(1,v1),(5,vp ab 0),(6,(.func (.func 60) #[] #[(vp ab 0)])),(7,vp ad 0),(10,vp o 0),(11,(.func (.func 62) #[] #[(vp ad 0),(vp o 0)])),(59,v0_6),(60,vi p0_6.length),(61,vi av)] [bc 126 b0 [v0_0,v0_1,v0_2,v0_3,v0_4,v0_5,v0_6,v0_7,v0_8,v0_9,v0_10,v0_11],rd v0_2 p0_2,rd v0_3 p0_3,rd v0_5 p0_5,rd v0_6 p0_6,rd v0_10 p0_10,rd v0_11 p0_11,rd v1 p1,pt (vp ab 0) (p0_5.length:Int),bc 143 ad [ae],mp ae ah,bc 144 o [(vp aa 0)],bc 176 aa [bl],own 3 bl a6,rd ba a3] U w) hN ?_ ?_ ?_ ?_
  ·exact⟨ck,j.sp 16 [2,3,4,5,6,7,8,9,10,11,12,13,14,15,0]⟩
  ·rintro hm a6 _ w ⟨cm,O,rfl,j⟩
   refine RC.sr (ic ((a3.length:Int)) ((a3.length:Int)) (RL.nq (RC.cH lD (RC.ex ?_))))
   exact⟨rfl,cm,j.sp 15 [0,1,2,3,4,5,6,7,8,9,10,11,12,13,14]⟩
  ·rintro hm bk a6 s' _ w hk ⟨df,O,rfl,j⟩ hb
   refine RC.sr (ic ((bk:Int)) ((a3.length:Int)) (RL.nq (RC.cG (lC hk) (RC.ss (RC.bs ?_)))))
   obtain⟨bb,cn,hb⟩:=bd hb
   refine RL.bW 14 j dV cn fun dg j=>(RL.bH bb 0 j cN (aK (vi bb) (RL.nt (RC.region (mv (.func (.func 62) #[] #[(vp ad 0),(vp o 0)]) (mv (vi bb) (RL.bH (p0_5.length:Int) 9 j cN (mv (vi av) ?_))))))))
   refine RL.i6 (p0_5.length:Int) (av:Int) ?_
   have j:=((((j.pull 14).pull 14).pull 14).pull 14).pull 14
   obtain⟨dh,cp,hb⟩:=bd hb
   refine RL.oW [(vp ad 0),(vp o 0)] K0 [(vi bb),(vi (IntKind.wrap .i64 ((p0_5.length:Int)+ (av:Int))))] (aF (nK N (p0:=bb) (p1:=(IntKind.wrap .i64 ((p0_5.length:Int)+ (av:Int)))) j cp) ?_)
   rintro _ w ⟨cq,rfl,j⟩
   refine RL.nil (bI (aG (RC.region (RL.inc hk hm (mv (vi ((bk+1:Nat):Int)) (RL.nil ?_))))))
   obtain rfl:=oi hb
   exact⟨rfl,cq,j.sp 21 [6,7,8,9,10,11,12,13,14,0,1,2,3,4,20]⟩
  rintro _ w ⟨bl,O,rfl,j⟩
  refine bI (aG (RC.region (RL.inc hk hm (mv (vi ((av+1:Nat):Int)) (RL.nil ?_)))))
  obtain rfl:=oi hb
  exact⟨rfl,bl,j.sp 15 [0,1,2,3,4,5,6,7,8,9,10,11,12,13]⟩
 rintro _ w ⟨bj,O,rfl,j⟩
 refine aG (RC.seq (RC.sr (mv v1 (RL.bC 7 p1 j yX (mv (vi 0) (RL.nt ?_))))))
 obtain⟨a7,hN,hb⟩:=bd hb
 refine RC.fold (fun(bf:Nat) (a7: (List Int)) U w=>∃b5:Value,SH E V [(0,vp b0 0),(6,(.func (.func 60) #[] #[(vp ab 0)])),(7,vp ad 0),(10,vp o 0),(11,(.func (.func 62) #[] #[(vp ad 0),(vp o 0)])),(80,v1),(81,vi p1.length),(82,vi bf)] [bc 126 b0 [v0_0,v0_1,v0_2,v0_3,v0_4,v0_5,v0_6,v0_7,v0_8,v0_9,v0_10,v0_11],rd v0_2 p0_2,rd v0_3 p0_3,rd v0_5 p0_5,rd v0_6 p0_6,rd v0_10 p0_10,rd v0_11 p0_11,pt (vp ab 0) (p0_5.length:Int),bc 143 ad [ae],mp ae ah,bc 144 o [(vp aa 0)],bc 176 aa [b5],own 3 b5 a7,rd v1 p1] U w) (fun(a7: (List Int)) U w=>∃bm:Value,SH E V [(0,vp b0 0),(6,(.func (.func 60) #[] #[(vp ab 0)])),(7,vp ad 0),(10,vp o 0)] [bc 126 b0 [v0_0,v0_1,v0_2,v0_3,v0_4,v0_5,v0_6,v0_7,v0_8,v0_9,v0_10,v0_11],rd v0_2 p0_2,rd v0_3 p0_3,rd v0_5 p0_5,rd v0_6 p0_6,rd v0_10 p0_10,rd v0_11 p0_11,pt (vp ab 0) (p0_5.length:Int),bc 143 ad [ae],mp ae ah,bc 144 o [(vp aa 0)],bc 176 aa [bm],own 3 bm a7,rd v1 p1] U w) hN ?_ ?_ ?_ ?_
 ·exact⟨bj,j.sp 14 [0,1,2,3,4,5,6,8,9,10,11,12,13,7]⟩
 ·rintro hm a7 _ w ⟨cr,O,rfl,j⟩
  refine RC.sr (ic ((p1.length:Int)) ((p1.length:Int)) (RL.nq (RC.cH lD (RC.ex ?_))))
  exact⟨rfl,cr,j.sp 14 [0,1,2,3,4,5,6,7,8,9,10,11,12,13]⟩
 ·rintro hm bf a7 s' _ w hk ⟨ct,O,rfl,j⟩ hb
  refine RC.sr (ic ((bf:Int)) ((p1.length:Int)) (RL.nq (RC.cG (lC hk) (RC.ss (RC.bs ?_)))))
  obtain⟨a8,cu,hb⟩:=bd hb
  refine RL.bW 13 j w7 cu fun di j=>(RL.bL 0 a8 j rC fun dj j=>(RL.alloc j B0.z fun dk w j=>?_))
  refine RL.bA 0 j 1 zr rC fun w j=>?_
  refine RL.ns (RL.bB zr tR (RL.aM 0 j zr mR ux (RL.not a8.Open (RL.nt ?_))))
  obtain⟨bp,hj,hb⟩:=bd hb
  refine RC.jn (fun(bp: (List Int)) U w=>∃bn:Value,SH E V [(0,vp b0 0),(6,(.func (.func 60) #[] #[(vp ab 0)])),(7,vp ad 0),(10,vp o 0),(11,(.func (.func 62) #[] #[(vp ad 0),(vp o 0)])),(80,v1),(81,vi p1.length),(82,vi bf)] [bc 126 b0 [v0_0,v0_1,v0_2,v0_3,v0_4,v0_5,v0_6,v0_7,v0_8,v0_9,v0_10,v0_11],rd v0_2 p0_2,rd v0_3 p0_3,rd v0_5 p0_5,rd v0_6 p0_6,rd v0_10 p0_10,rd v0_11 p0_11,pt (vp ab 0) (p0_5.length:Int),bc 143 ad [ae],mp ae ah,bc 144 o [(vp aa 0)],bc 176 aa [bn],own 3 bn bp,rd v1 p1] U w) bp ?_ ?_
  ·refine eI hj (fun hc hj=>?_) fun hc hj=>?_
   rotate_left
   ·refine RC.skip ?_
    obtain rfl:=oi hj
    exact⟨rfl,ct,j.sp 17 [3,4,5,6,7,8,9,10,11,12,13,14,15,16]⟩
   refine RC.region (mv (.func (.func 62) #[] #[(vp ad 0),(vp o 0)]) (RL.bB zr AD (RL.aM 0 j zr sC cN (RL.bB zr AE (RL.aM 0 j zr sD cN ?_)))))
   have j:=((((j.pull 15).pull 15).pull 15).pull 15).pull 15
   obtain⟨dm,cv,hj⟩:=bd hj
   refine RL.oW [(vp ad 0),(vp o 0)] K0 [(vi a8.A),(vi a8.B)] (aF (nK N (p0:=a8.A) (p1:=a8.B) j cv) ?_)
   rintro _ w ⟨cw,rfl,j⟩
   refine RL.nil ?_
   obtain rfl:=oi hj
   exact⟨rfl,cw,j.sp 22 [8,9,10,11,12,13,14,15,0,1,2,3,4,21]⟩
  rintro _ w ⟨bn,O,rfl,j⟩
  refine bI (aG (RC.region (RL.inc hk hm (mv (vi ((bf+1:Nat):Int)) (RL.nil ?_)))))
  obtain rfl:=oi hb
  exact⟨rfl,bn,j.sp 14 [0,1,2,3,4,5,6,7,8,9,10,11,12,13]⟩
 rintro _ w ⟨bm,O,rfl,j⟩
 refine aG (RC.sr (RL.makeMap (κ:=Int) (ν:=Int) zr j fun ax w j=>(aK ax (RL.ns (mv (vp b0 0) (RL.nilCheck zr (RL.bB zr kx (RL.bB zr vZ ?_))))))))
 refine RL.aX 1 v0_3 j EK (RL.bC 3 p0_3 j F3 ?_)
 obtain⟨dn,cx,hb⟩:=bd hb
 refine RL.mk (p0_3.length:Int) j tM Ji cx fun aw w j=>?_
 refine aK aw (RL.nq (RC.sr (mv (vp b0 0) (RL.nilCheck zr (RL.bB zr AB (RL.aX 2 v0_11 j Gb (RL.bC 8 p0_11 j K1 (mv (vi 0) ?_))))))))
 refine RL.nt ?_
 obtain⟨ag,hN,hb⟩:=bd hb
 refine RC.fold (fun(al:Nat) (ag: (List Int)×(List (Int×Int))×(List Int)) U w=>∃b6:Value,SH E V [(0,vp b0 0),(6,(.func (.func 60) #[] #[(vp ab 0)])),(7,vp ad 0),(10,vp o 0),(18,ax),(19,aw),(107,v0_11),(108,vi p0_11.length),(109,vi al)] [bc 126 b0 [v0_0,v0_1,v0_2,v0_3,v0_4,v0_5,v0_6,v0_7,v0_8,v0_9,v0_10,v0_11],rd v0_2 p0_2,rd v0_3 p0_3,rd v0_5 p0_5,rd v0_6 p0_6,rd v0_10 p0_10,rd v0_11 p0_11,pt (vp ab 0) (p0_5.length:Int),bc 143 ad [ae],mp ae ah,bc 144 o [(vp aa 0)],bc 176 aa [b6],own 3 b6 ag.1,mp ax ag.2.1,own 3 aw ag.2.2] U w) (fun(ag: (List Int)×(List (Int×Int))×(List Int)) U w=>∃bq:Value,SH E V [(0,vp b0 0),(19,aw)] [bc 126 b0 [v0_0,v0_1,v0_2,v0_3,v0_4,v0_5,v0_6,v0_7,v0_8,v0_9,v0_10,v0_11],rd v0_2 p0_2,rd v0_3 p0_3,rd v0_5 p0_5,rd v0_6 p0_6,rd v0_10 p0_10,rd v0_11 p0_11,pt (vp ab 0) (p0_5.length:Int),bc 143 ad [ae],mp ae ah,bc 144 o [(vp aa 0)],bc 176 aa [bq],own 3 bq ag.1,mp ax ag.2.1,own 3 aw ag.2.2] U w) hN ?_ ?_ ?_ ?_
 ·exact⟨bm,j.sp 16 [2,3,4,5,6,7,8,9,10,11,12,13,14,1,0]⟩
 ·rintro hm ag _ w ⟨cy,O,rfl,j⟩
  refine RC.sr (ic ((p0_11.length:Int)) ((p0_11.length:Int)) (RL.nq (RC.cH lD (RC.ex ?_))))
  exact⟨rfl,cy,j.sp 15 [0,1,2,3,4,5,6,7,8,9,10,11,12,13,14]⟩
 ·rintro hm al ag s' _ w hk ⟨br,O,rfl,j⟩ hb
  refine RC.sr (ic ((al:Int)) ((p0_11.length:Int)) (RL.nq (RC.cG (lC hk) (RC.ss (RC.bs (mv (vi al) ?_))))))
  obtain⟨cz,c0,hb⟩:=bd hb
  refine RL.bW 6 j ID c0 fun dp j=>(RL.bL 0 cz j rB fun dq j=>(RL.alloc j HN.z fun dr w j=>?_))
  refine aK (vi al) (RL.bA 0 j 1 zr rB fun w j=>?_)
  refine RL.ns (mv (.func (.func 60) #[] #[(vp ab 0)]) (RL.aQ (f:=(fun x=>x)) 0 j zr Fd.self rB fun c1 j=>?_))
  obtain⟨aq,c2,hb⟩:=bd hb
  refine RL.oW [(vp ab 0)] KY [c1] (aF (nJ N (i0:=0) (i1:=11) j zr zr c2) ?_)
  rintro _ w ⟨rfl,j⟩
  refine aK (vi aq) (RL.nq (RC.seq ?_))
  obtain⟨bt,hj,hb⟩:=bd hb
  refine RC.jn (fun(bt:Bool)=>SH E V [(0,vp b0 0),(6,(.func (.func 60) #[] #[(vp ab 0)])),(7,vp ad 0),(10,vp o 0),(18,ax),(19,aw),(20,vi al),(22,vi aq),(107,v0_11),(108,vi p0_11.length),(109,vi al),(129,vb bt)] [bc 126 b0 [v0_0,v0_1,v0_2,v0_3,v0_4,v0_5,v0_6,v0_7,v0_8,v0_9,v0_10,v0_11],rd v0_2 p0_2,rd v0_3 p0_3,rd v0_5 p0_5,rd v0_6 p0_6,rd v0_10 p0_10,rd v0_11 p0_11,pt (vp ab 0) (p0_5.length:Int),bc 143 ad [ae],mp ae ah,bc 144 o [(vp aa 0)],bc 176 aa [br],own 3 br ag.1,mp ax ag.2.1,own 3 aw ag.2.2]) bt ?_ ?_
  ·refine RC.region (mv (vp b0 0) (RL.nilCheck zr (RL.bB zr AA (RL.aX 4 v0_10 j fE (mv (vi al) ?_)))))
   obtain⟨bu,c3,hj⟩:=bd hj
   refine RL.bW 9 j dV c3 fun ds j=>(RL.bH bu 0 j cN (ic bu 0 (mv (vb (decide (bu<0))) (fU hj (fun a1 hj=>?_) fun a1 hj=>?_))))
   ·refine bN a1 (bN a1 (bN a1 (fP a1 (vb true) (RL.nil ?_))))
    obtain rfl:=oi hj
    exact⟨rfl,j.sp 20 [5,6,7,8,9,10,11,12,13,14,15,16,17,18,19]⟩
   refine RL.aX (hg:=(cg a1)) 13 ae j B2 (RL.move (vi aq) (cg a1) (RL.pF 14 aq (cg a1) j D0 (fP a1 (vb (dM ah aq (false:Bool))) (RL.nil ?_))))
   obtain rfl:=oi hj
   exact⟨rfl,j.sp 20 [5,6,7,8,9,10,11,12,13,14,15,16,17,18,19]⟩
  rintro _ w ⟨O,rfl,j⟩
  refine aG (eI hb (fun hc hb=>?_) fun hc hb=>?_)
  ·refine RC.sr (mv aw (mv (vi al) ?_))
   obtain⟨dt,bw,hb⟩:=bd hb
   refine RL.bG 14 j zr zr dV bw ?_
   have j:=j.sc Int (-1)
   refine RL.fA (f:=(fun _ y=>y)) 15 0 j (iX 15 j bw 0) (aU bw).2.1 zr Fs.self cN fun w j=>?_
   refine RL.nt (RC.ex (Fx (aG (RC.region (RL.inc hk hm (mv (vi ((al+1:Nat):Int)) (RL.nil ?_)))))))
   obtain rfl:=oi hb
   exact⟨rfl,br,j.sp 16 [1,2,3,4,5,6,7,8,9,10,11,12,13,14,15]⟩
  refine RC.ss (RC.sr (mv ax (RL.aX 10 (vp aa 0) j B3 (mv (vi aq) ?_))))
  have j:=(j.pull 12).pull 12
  obtain⟨a2,c4,hb⟩:=bd hb
  refine RL.call zt zr EN [(vp aa 0),(vi aq)] zr (aF (f9 N (p1:=aq) j c4) ?_)
  rintro _ w ⟨c5,rfl,j⟩
  refine RL.Bt 15 a2.1 zr j zr zr zr wJ (mv (.tuple #[(vi (dM ag.2.1 a2.1 (0:Int))),(vb (iW ag.2.1 a2.1))]) (RL.extract (vi (dM ag.2.1 a2.1 (0:Int))) (RL.extract (vb (iW ag.2.1 a2.1)) (aK (vi (dM ag.2.1 a2.1 (0:Int))) (aK (vb (iW ag.2.1 a2.1)) (RL.ns (mv (vb (iW ag.2.1 a2.1)) (RL.not (iW ag.2.1 a2.1) ?_))))))))
  refine RL.nt ?_
  obtain⟨bg,hj,hb⟩:=bd hb
  refine RC.jn (fun(bg: (List Int)×(List (Int×Int))) U w=>∃bx:Value,SH E V [(0,vp b0 0),(6,(.func (.func 60) #[] #[(vp ab 0)])),(7,vp ad 0),(10,vp o 0),(18,ax),(19,aw),(20,vi al),(22,vi aq),(107,v0_11),(108,vi p0_11.length),(109,vi al)] [bc 126 b0 [v0_0,v0_1,v0_2,v0_3,v0_4,v0_5,v0_6,v0_7,v0_8,v0_9,v0_10,v0_11],rd v0_2 p0_2,rd v0_3 p0_3,rd v0_5 p0_5,rd v0_6 p0_6,rd v0_10 p0_10,rd v0_11 p0_11,pt (vp ab 0) (p0_5.length:Int),bc 143 ad [ae],mp ae ah,bc 144 o [(vp aa 0)],bc 176 aa [bx],own 3 bx bg.1,mp ax bg.2,own 3 aw ag.2.2] U w) bg ?_ ?_
  ·refine eI hj (fun hc hj=>?_) fun hc hj=>?_
   rotate_left
   ·refine RC.skip ?_
    obtain rfl:=oi hj
    exact⟨rfl,c5,j.sp 17 [2,3,4,5,6,7,8,9,10,11,12,0,1,15,16]⟩
   refine RC.region (mv ax (RL.aX 12 (vp aa 0) j B3 (mv (vi aq) ?_)))
   have j:=(j.pull 1).pull 1
   obtain⟨c6,c7,hj⟩:=bd hj
   refine RL.call zt zr EN [(vp aa 0),(vi aq)] zr (aF (f9 N (p1:=aq) j c7) ?_)
   rintro _ w ⟨c8,rfl,j⟩
   refine mv (vi al) ?_
   have j:=j.sc Int (al:Int)
   refine RL.mapUpdate 18 0 c6.1 j zr zr zr zr zr wJ fun w j=>(RL.nil ?_)
   obtain rfl:=oi hj
   exact⟨rfl,c8,j.sp 20 [5,6,7,8,9,10,11,12,13,14,15,1,2,18,19]⟩
  rintro _ w ⟨bx,O,rfl,j⟩
  refine aG (RC.region (mv aw (mv (vi al) (mv ax (RL.aX 10 (vp aa 0) j B3 (mv (vi aq) ?_))))))
  have j:=(j.pull 12).pull 12
  obtain⟨b7,c9,hb⟩:=bd hb
  refine RL.call zt zr EN [(vp aa 0),(vi aq)] zr (aF (f9 N (p1:=aq) j c9) ?_)
  rintro _ w ⟨da,rfl,j⟩
  refine RL.pF 15 b7.1 zt j wJ ?_
  obtain⟨du,bz,hb⟩:=bd hb
  refine RL.bG 16 j zr zr dV bz ?_
  have j:=j.sc Int (dM bg.2 b7.1 (0:Int))
  refine RL.fA (f:=(fun _ y=>y)) 17 0 j (iX 17 j bz 0) (aU bz).2.1 zr Fs.self cN fun w j=>?_
  refine RL.nil (bI (aG (RC.region (RL.inc hk hm (mv (vi ((al+1:Nat):Int)) (RL.nil ?_))))))
  obtain rfl:=oi hb
  exact⟨rfl,da,j.sp 18 [3,4,5,6,7,8,9,10,11,12,13,1,2,16,17]⟩
 rintro _ w ⟨bq,O,rfl,j⟩
 refine aG (RC.sr (mv aw (aK aw (RL.nt (RC.ret ?_)))))
 obtain rfl:=oi hb
 exact cF (j.pk 15 [14,0])
def vh (E:World) (V:List HP) (res:Bool×Int) (v:Value) (w:World):Prop:=v = .tuple #[(vb res.1),(vi res.2)]/\Holds E w V
theorem t9 {p0:gS} {p1: (List bQ)} {p2 p3:fV} {res:Bool×Int} (j:Holds E w V) (h0:V[i0]? =some (rd v0 p0)) (h1:V[i1]? =some (rd v1 p1)) (h2:V[i2]? =some (rd v2 p2)) (h3:V[i3]? =some (rd v3 p3)) (o:iq N p0 p1 p2 p3=some res):
    Calls bE 29 [v0,v1,v2,v3].toArray w (gF (vh E V res)):=by
 unfold iq at o
 refine enter Tryz.func29 zr zr ?_
 have j:=(((j.dup (i0+0) h0).dup (i1+1) h1).dup (i2+2) h2).dup (i3+3) h3
 refine RC.sr (RL.dB 3 v0 j zr fun a6 w j=>?_)
 have j:=j.gJ (i:=0) rfl
 refine RL.dB 2 v2 j zr fun a7 w j=>?_
 have j:=j.gJ (i:=0) rfl
 refine RL.dB 2 v3 j zr fun a8 w j=>?_
 have j:=j.gJ (i:=0) rfl
 refine aK (vb false) (aK (vi 0) (RL.ns (RL.bL 2 p0 j oN fun aw j=>?_)))
 obtain⟨ab,ax,o⟩:=bd o
 refine RL.call zt zr KN [aw] zr (aF (rR N (i0:=0) j zr ax) ?_)
 rintro _ w hK51
 rcases aj:ab.1 with _ | a9
 ·replace o:=I7 aj o
  obtain⟨rfl,j⟩:=FL aj hK51
  refine mv (.tuple #[(.pointer none),(vi ab.2)]) (RL.extract (.pointer none) (RL.extract (vi ab.2) (aK (.pointer none) (aK (vi ab.2) (RL.nq (RC.sr (mv (vi ab.2) (ic ab.2 0 ?_))))))))
  refine RL.nt (eI o (fun hc o=>?_) fun hc o=>?_)
  rotate_left
  ·cases o
  refine RC.sr (mv (vi ab.2) (aK (vb false) (aK (vi ab.2) (RL.nt (RC.rt ?_)))))
  obtain rfl:=oi o
  exact j9 ⟨rfl,j.drop 8⟩
 replace o:=I8 aj o
 obtain⟨ah,ba,bb,bc,bf,bg,bh,bj,bk,bl,bm,bn,bo,rfl,j⟩:=FM aj hK51
 refine mv (.tuple #[(vp ah 0),(vi ab.2)]) (RL.extract (vp ah 0) (RL.extract (vi ab.2) (aK (vp ah 0) (aK (vi ab.2) (RL.nq (RC.sr (mv (vi ab.2) (ic ab.2 0 ?_))))))))
 refine RL.nt (eI o (fun hc o=>?_) fun hc o=>?_)
 ·refine RC.sr (mv (vi ab.2) (aK (vb false) (aK (vi ab.2) (RL.nt (RC.rt ?_)))))
  obtain rfl:=oi o
  exact j9 ⟨rfl,j.drop 21⟩
 refine RC.ss (RC.sr (mv (vp ah 0) (mv v1 ?_)))
 have j:=((((((((((((j.freeze 5).freeze 8).freeze 11).freeze 12).dup 12 rfl).dup 12 rfl).dup 12 rfl).dup 12 rfl).dup 12 rfl).dup 12 rfl).dup 12 rfl).dup 12 rfl).dup 12 rfl
 have j:=(((j.dup 12 rfl).dup 12 rfl).dup 12 rfl).pull 12
 obtain⟨ai,ay,o⟩:=bd o
 refine RL.call zt zr Mt [(vp ah 0),v1] zr (aF (th N (i1:=19) j zr ay) ?_)
 rintro _ w ⟨rfl,j⟩
 refine aK (vi ai) (RL.ns (mv (vi ai) (ic ai 0 (RL.nt (eI o (fun hc o=>?_) fun hc o=>?_)))))
 ·refine RC.sr (mv (vi ai) (aK (vb false) (aK (vi ai) (RL.nt (RC.rt ?_)))))
  obtain rfl:=oi o
  exact j9 ⟨rfl,j.drop 22⟩
 refine RC.ss (RC.xM mixed [0,0,2,1,1,2,0,0] [0,1,3,4,2,5,6,7] ?_)
 have j:=j.drew
 refine DP.e0 zr (RL.bL 17 p0 j oN fun az j=>(cB zr (RL.bL 17 p2 j m8 fun a0 j=>(DP.d0 (DP.wZ p0 19 zr j oN fun a1 a56 bp j=>(DP.wZ p3 19 zr j m8 fun a2 a59 bq j=>(DP.e2 zr ?_)))))))
 obtain⟨ad,a3,o⟩:=bd o
 refine RL.call zt zr B1 [az,a0] zr (aF (ga N (i0:=5) (i1:=4) j zr zr a3) ?_)
 rintro _ w ⟨rfl,j⟩
 refine DP.d2 (⟨⟨zt,j.kb 2⟩,j.kb 0⟩) (DP.e2 zr ?_)
 obtain⟨af,a4,o⟩:=bd o
 refine RL.call zt zr B1 [a1,a2] zr (aF (ga N (i0:=3) (i1:=1) j zr zr a4) ?_)
 rintro _ w ⟨rfl,j⟩
 refine DP.d2 (⟨⟨zt,j.kb 2⟩,j.kb 0⟩) (DP.e0 zr (aK (vi ad) (cB zr (aK (vi af) (DP.d0 ?_)))))
 have j:=j.pl 28 [1,3,4,5,6,7,8,9,10,11,12,13,14,15,16,17,18,19,20,21,22,23,24,25,26,27]
 refine DP.z (aG (RC.seq (RC.sr (mv (vi ad) (ic ad 0 (mv (vb (decide (ad<0))) (RL.gs true (decide (ad<0)) (vi af) rfl rfl rfl dT (RL.gs true (decide (ad<0)) (vb (decide (af<0))) rfl rfl rfl (dZ .lss .i64 af 0 rfl (fun h=>by exact(cV h:cv (true&&((decide (ad<0))==false)) (vi af)= (vi af))) (fun _=>rfl) rfl) ?_))))))))
 refine RL.pick (decide (ad<0)) (vb ((decide (ad<0))||(decide (af<0)))) (oX true zr) (RL.nt (eI o (fun hc o=>?_) fun hc o=>?_))
 ·refine RC.sr (aK (vb false) (aK (vi 9) (RL.nt (RC.rt ?_))))
  obtain rfl:=oi o
  exact j9 ⟨rfl,j.drop 26⟩
 refine RC.sx (mv (vp ah 0) (mv v1 ?_))
 have j:=((((((j.dup 17 rfl).dup 17 rfl).dup 14 rfl).dup 14 rfl).dup 13 rfl).dup 13 rfl).pull 10
 obtain⟨br,a5,o⟩:=bd o
 refine RL.call zt zr HR [(vp ah 0),v1] zr (aF (lj N (i1:=24) j zr a5) ?_)
 rintro ak w j
 refine aK ak (RL.nq ?_)
 obtain⟨al,hj,o⟩:=bd o
 refine RC.jn (fun(al:Bool)=>SH E V [(8,vb al),(9,vi 0)] []) al ?_ ?_
 ·refine RC.uK mixed ?_
  have j:=j.drew
  refine RO.go (mv ak (RO.nx (mv (vi ad) (RO.nx ?_))))
  obtain⟨av,an,hj⟩:=bd hj
  refine RL.bG 0 j zr zr dV an (RO.nx (RL.cX (f:=(fun x=>x)) 0 j (iX 0 j an 0) (aU an).2.1 Fd.self cN (RO.nx (ic av 0 (RO.nx (mv (vb (decide (av>=0))) (fU hj (fun aa hj=>?_) fun aa hj=>?_)))))))
  rotate_left
  ·refine RO.nx (bN aa (RO.nx (bN aa (RO.nx (bN aa (RO.nx (bN aa (RO.nx ?_))))))))
   refine bN aa (RO.nx (bN aa (RO.nx (bN aa (RO.nx (bN aa (RO.nx (bN aa ?_))))))))
   refine RO.nx (fP aa (vb false) (RO.nx (aK (vb false) (RO.nx (aK (vi 0) (RO.last ?_))))))
   obtain rfl:=oi hj
   exact⟨rfl,j.sp 28 []⟩
  refine RO.nx (RL.move ak (cg aa) (RO.nx (RL.move (vi ad) (cg aa) (RO.nx ?_))))
  obtain⟨ao,aq,hj⟩:=bd hj
  refine RL.bG (hg:=(cg aa)) 0 j zr zr dV aq (RO.nx (RL.cX (hg:=(cg aa)) (f:=(fun x=>x)) 0 j (iX 0 j aq 0) (aU aq).2.1 Fd.self cN (RO.nx (RL.move ak (cg aa) (RO.nx (RL.move (vi af) (cg aa) (RO.nx ?_)))))))
  obtain⟨ar,au,hj⟩:=bd hj
  refine RL.bG (hg:=(cg aa)) 0 j zr zr dV au (RO.nx (RL.cX (hg:=(cg aa)) (f:=(fun x=>x)) 0 j (iX 0 j au 0) (aU au).2.1 Fd.self cN (RO.nx (RL.jO ao ar (cg aa) (RO.nx (fP aa (vb (ao==ar)) (RO.nx (aK (vb (ao==ar)) ?_))))))))
  refine RO.nx (aK (vi 0) (RO.last ?_))
  obtain rfl:=oi hj
  exact⟨rfl,j.sp 28 []⟩
 rintro _ w ⟨O,rfl,j⟩
 refine aG (RC.ret ?_)
 obtain rfl:=oi o
 exact j9 ⟨rfl,j.drop 0⟩
theorem ma {res:Bool} (j:Holds E w V) (hb:f0 N=some res):
    Calls bE 10 [].toArray w (gF (aY E V res)):=by
 unfold f0 at hb
 refine enter Tryz.func10 zr zr (RC.sr (aK (vb false) (RL.ns ?_)))
 have j:=(j.sc Int 1).sc Int 1
 refine RL.build (⟨0,0,1,1⟩:aI) trivial rfl j [(2,vi 1),(3,vi 1)] rfl C3 rfl (fun M hs g=>by have h:=ry M;exact cO.cons (f:=fun(x:aI) y=>{x with X1:=y}) h nZ (g.sat 1 _ rfl).1 fun _ h=>cO.cons (f:=fun(x:aI) y=>{x with Y1:=y}) h pJ (g.sat 0 _ rfl).1 fun _ h=>cO.nil h) fun ae j=>?_
 refine RL.eE ([(⟨0,0,1,1⟩:aI)]: (List aI)) j [ae] kN mS (fun M hs g=>⟨(g.sat 0 _ zr).1,zt⟩) fun af w j=>?_
 have j:=j.freeze 0
 refine RL.eE ([([(⟨0,0,1,1⟩:aI)]: (List aI))]: (List (List aI))) j [af] C2 Kx (fun M hs g=>⟨(g.sat 0 _ zr).1,zt⟩) fun ad w j=>?_
 have j:=(j.sc dJ ⟨[97]⟩).sc dJ ⟨[49]⟩
 refine RL.build (⟨⟨[97]⟩,⟨[49]⟩,0,⟨0,0⟩⟩:cY) trivial rfl j [(0,(str ⟨[97]⟩)),(1,(str ⟨[49]⟩))] rfl Mo rfl (fun M hs g=>by have h:=Jh M;exact cO.cons (f:=fun(x:cY) y=>{x with Part:=y}) h EA (g.sat 1 _ rfl).1 fun _ h=>cO.cons (f:=fun(x:cY) y=>{x with fV:=y}) h EB (g.sat 0 _ rfl).1 fun _ h=>cO.nil h) fun ag j=>?_
 refine RL.eE ([(⟨⟨[97]⟩,⟨[49]⟩,0,⟨0,0⟩⟩:cY)]: (List cY)) j [ag] EL Jk (fun M hs g=>⟨(g.sat 0 _ zr).1,zt⟩) fun aa w j=>(RL.FG (zs:=[(.slice none 0 0),(.slice none 0 0),(.slice none 0 0),(.slice none 0 0)]) (cs:=[ad,(.slice none 0 0),(.slice none 0 0),aa]) zt zr [(0,ad),(3,aa)] zr Mp ⟨(iE 4 j),(iE 0 j),zt⟩ zr (RL.alloc j Mq.z fun al w j=>?_))
 have j:=((((j.freeze 5).tH aI).tH bZ).freeze 3).Af (cs:=[ad,(.slice none 0 0),(.slice none 0 0),aa]) (x:=(⟨([([(⟨0,0,1,1⟩:aI)]: (List aI))]: (List (List aI))),([]: (List aI)),([]: (List bZ)),([(⟨⟨[97]⟩,⟨[49]⟩,0,⟨0,0⟩⟩:cY)]: (List cY))⟩:gS)) (fun M hs g=>⟨[ad],[(.slice none 0 0),(.slice none 0 0),aa],rfl,(lz (g.sat 7 _ rfl).1),⟨[(.slice none 0 0)],[(.slice none 0 0),aa],rfl,(lz (g.sat 1 _ rfl).1),⟨[(.slice none 0 0)],[aa],rfl,(lz (g.sat 0 _ rfl).1),(lz (g.sat 3 _ rfl).1)⟩⟩⟩) rfl
 refine RL.bA 3 j 0 zr oN fun w j=>?_
 refine RL.ns (RL.aQ (f:=(fun x=>x)) 3 j zr Fd.self oN fun ah j=>?_)
 have j:=(j.sc dJ ⟨[97]⟩).sc dJ ⟨[49]⟩
 refine RL.build (⟨⟨[97]⟩,⟨[49]⟩⟩:fV) trivial rfl j [(0,(str ⟨[97]⟩)),(1,(str ⟨[49]⟩))] rfl Jl rfl (fun M hs g=>by have h:=F0 M;exact cO.cons (f:=fun(x:fV) y=>{x with Part:=y}) h xP (g.sat 1 _ rfl).1 fun _ h=>cO.cons (f:=fun(x:fV) y=>{x with fV:=y}) h xQ (g.sat 0 _ rfl).1 fun _ h=>cO.nil h) fun ai j=>?_
 have j:=(j.sc dJ ⟨[97]⟩).sc dJ ⟨[49]⟩
 refine RL.build (⟨⟨[97]⟩,⟨[49]⟩⟩:fV) trivial rfl j [(0,(str ⟨[97]⟩)),(1,(str ⟨[49]⟩))] rfl Jl rfl (fun M hs g=>by have h:=F0 M;exact cO.cons (f:=fun(x:fV) y=>{x with Part:=y}) h xP (g.sat 1 _ rfl).1 fun _ h=>cO.cons (f:=fun(x:fV) y=>{x with fV:=y}) h xQ (g.sat 0 _ rfl).1 fun _ h=>cO.nil h) fun aj j=>?_
 have j:=j.tH bQ
 obtain⟨o,ak,hb⟩:=bd hb
 refine RL.call zt zr Mu [ah,(.slice none 0 0),ai,aj] zr (aF (t9 N (i0:=7) (i1:=0) (i2:=4) (i3:=1) j zr zr zr zr ak) ?_)
 rintro _ w ⟨rfl,j⟩
 refine mv (.tuple #[(vb o.1),(vi o.2)]) (RL.extract (vb o.1) (RL.extract (vi o.2) (aK (vb o.1) (aK (vi o.2) (RL.ns (mv (vi o.2) (ic o.2 0 (mv (vb (o.2==0)) ?_))))))))
 refine RL.gs true (o.2==0) (vb o.1) zr zr zr dT (RL.pick (o.2==0) (vb ((o.2==0)&&o.1)) (iL true) (aK (vb ((o.2==0)&&o.1)) (RL.nt (RC.ret ?_))))
 obtain rfl:=oi hb
 exact cF ⟨rfl,j.drop 21⟩
def y7 (E:World) (V:List HP) (b0:Nat) (v0_0 v0_1:Value) (v0_2 v0_3:Value) (v0_4 v0_5:Value) (v0_6 v0_7:Value) (v0_8 v0_9:Value) (v0_10 v0_11:Value) (res: (List Bool)) (v:Value) (w:World):Prop:=Holds E w ([own 4 v res,bc 126 b0 [v0_0,v0_1,v0_2,v0_3,v0_4,v0_5,v0_6,v0_7,v0_8,v0_9,v0_10,v0_11]]++V)
theorem rT {p0_0: (List (List aI))} {p0_1: (List aI)} {p0_2: (List bZ)} {p0_3: (List cY)} {p0_5: (List aH)} {p0_6: (List (List Int))} {p0_10: (List Int)} {p0_11: (List dU)} {p1: (List Test)} {p2: (List bQ)} {res: (List Bool)} (j:Holds E w (bc 126 b0 [v0_0,v0_1,v0_2,v0_3,v0_4,v0_5,v0_6,v0_7,v0_8,v0_9,v0_10,v0_11]::rd v0_0 p0_0::rd v0_1 p0_1::rd v0_2 p0_2::rd v0_3 p0_3::rd v0_5 p0_5::rd v0_6 p0_6::rd v0_10 p0_10::rd v0_11 p0_11::V)) (h1:V[i1]? =some (rd v1 p1)) (h2:V[i2]? =some (rd v2 p2)) (hb:jP N p0_0 p0_1 p0_2 p0_3 p0_5 p0_6 p0_10 p0_11 p1 p2=some res):
    Calls bE 31 [(vp b0 0),v1,v2].toArray w (gF (y7 E V b0 v0_0 v0_1 v0_2 v0_3 v0_4 v0_5 v0_6 v0_7 v0_8 v0_9 v0_10 v0_11 res)):=by
 unfold jP at hb
 refine enter Tryz.func31 zr zr ?_
 have j:=(j.dup (i1+9) h1).dup (i2+10) h2
 refine RC.sr (aK (.slice none 0 0) (RL.ns (mv (vp b0 0) (mv v2 ?_))))
 have j:=((((((j.dup 10 rfl).dup 10 rfl).dup 10 rfl).dup 10 rfl).dup 10 rfl).dup 10 rfl).pull 8
 obtain⟨au,bf,hb⟩:=bd hb
 refine RL.call zt zr HR [(vp b0 0),v2] zr (aF (lj N (i1:=0) j zr bf) ?_)
 rintro ah w j
 refine aK ah (RL.ns (aK (.slice none 0 0) (RL.nq (RC.sr (mv v1 (RL.bC 3 p1 j uW (mv (vi 0) (RL.nt ?_))))))))
 obtain⟨ai,hN,hb⟩:=bd hb
 refine RC.fold (fun(ak:Nat) (ai: (List Bool)) U w=>∃a6:Value,SH E V [(0,vp b0 0),(7,ah),(8,a6),(16,v1),(17,vi p1.length),(18,vi ak)] [bc 126 b0 [v0_0,v0_1,v0_2,v0_3,v0_4,v0_5,v0_6,v0_7,v0_8,v0_9,v0_10,v0_11],rd v0_0 p0_0,rd v0_1 p0_1,rd v0_2 p0_2,rd v0_3 p0_3,rd v0_5 p0_5,rd v0_6 p0_6,rd v0_10 p0_10,rd v0_11 p0_11,own 3 ah au,rd v1 p1,own 4 a6 ai] U w) (fun(ai: (List Bool)) U w=>∃an:Value,SH E V [(0,vp b0 0),(8,an)] [bc 126 b0 [v0_0,v0_1,v0_2,v0_3,v0_4,v0_5,v0_6,v0_7,v0_8,v0_9,v0_10,v0_11],rd v0_0 p0_0,rd v0_1 p0_1,rd v0_2 p0_2,rd v0_3 p0_3,rd v0_5 p0_5,rd v0_6 p0_6,rd v0_10 p0_10,rd v0_11 p0_11,own 3 ah au,rd v1 p1,own 4 an ai] U w) hN ?_ ?_ ?_ ?_
 ·have j:=j.cT Bool 4
  exact⟨(.slice none 0 0),j.sp 14 [2,6,7,8,9,10,11,12,13,1,4,0]⟩
 ·rintro hm ai _ w ⟨bh,O,rfl,j⟩
  refine RC.sr (ic ((p1.length:Int)) ((p1.length:Int)) (RL.nq (RC.cH lD (RC.ex ?_))))
  exact⟨rfl,bh,j.sp 12 [0,1,2,3,4,5,6,7,8,9,10,11]⟩
 ·rintro hm ak ai s' _ w hk ⟨av,O,rfl,j⟩ hb
  refine RC.sr (ic ((ak:Int)) ((p1.length:Int)) (RL.nq (RC.cG (lC hk) (RC.ss (RC.bs ?_)))))
  obtain⟨al,bj,hb⟩:=bd hb
  refine RL.bW 10 j tO bj fun bk j=>(RL.bL 0 al j pq fun bl j=>(RL.alloc j HQ.z fun aw w j=>?_))
  refine RL.bA 0 j 1 zr pq fun w j=>?_
  refine RL.nq ?_
  obtain⟨ax,bm,hb⟩:=bd hb
  obtain⟨a1,bn,hb⟩:=bd hb
  refine RC.Ew E V mixed [1,1,1,0,1,0,0,1,1,1,0,1,0,0,1,1] [5,12] (fun(x:Value×Value)=>(fun ae af=>[(0,22,(vp b0 0)),(1,23,(vp b0 0)),(2,24,(vp b0 0)),(3,25,(.agg ([v0_0,v0_1,v0_2,v0_3]:List Value).toArray)),(4,26,(vp aw 0)),(5,27,ae),(6,28,(vi ax)),(7,29,(vp b0 0)),(8,30,(vp b0 0)),(9,31,(vp b0 0)),(10,32,(.agg ([v0_0,v0_1,v0_2,v0_3]:List Value).toArray)),(11,33,(vp aw 2)),(12,34,af),(13,35,(vi a1)),(14,11,(vi ax)),(15,12,(vi a1))]) x.1 x.2) [(0,vp b0 0),(7,ah),(8,av),(10,vp aw 0),(16,v1),(17,vi p1.length),(18,vi ak)] [] (fun(D:Nat->Bool) (x:Value×Value)=>(fun ae af=>[bif D 0 then (rd ae al.A) else aZ,bif D 1 then (rd af al.B) else aZ,bx 53 aw al,rd bl al,pt bk al,bc 126 b0 [v0_0,v0_1,v0_2,v0_3,v0_4,v0_5,v0_6,v0_7,v0_8,v0_9,v0_10,v0_11],rd v0_0 p0_0,rd v0_1 p0_1,rd v0_2 p0_2,rd v0_3 p0_3,rd v0_5 p0_5,rd v0_6 p0_6,rd v0_10 p0_10,rd v0_11 p0_11,own 3 ah au,rd v1 p1,own 4 av ai]) x.1 x.2) (fun x=>by kernel_rfl) ?_ ⟨fun _=>jt gn,fun _=>wY gn,fun _=>mN gn kx,?_,fun _=>mN gn tP,?_,?_,fun _=>jt gn,fun _=>wY gn,fun _=>mN gn kx,?_,fun _=>mN gn tQ,?_,?_,fun _=>Jc gn rfl,fun _=>Jc gn rfl,trivial⟩ ?_
  ·have j:=((j.drew).aZ).aZ
   exact⟨(undef,undef),dX.none,(CX zr),zt,j⟩
  ·rintro D U w hD ad ao ⟨⟨ae,af⟩,o,ha,_,j⟩
   obtain⟨O,rfl⟩:=(ac (o.at 2 rfl (ad.1 rfl)) az).eV
   refine RL.BE (cs:=[v0_0,v0_1,v0_2,v0_3]) 5 zt zr j zr zr oN zr zr ?_
   exact RL.nil ⟨rfl,(ae,af),o.pu 3,ha.u,zt,j⟩
  ·rintro D U w hD ad ao ⟨⟨ae,af⟩,o,ha,_,j⟩
   obtain⟨O,rfl⟩:=(ac (o.at 4 rfl (ad.1 rfl)) az).eV
   have j:=j.cA 0 hD
   refine RL.aQ 2 j zr mP m8 fun bo j=>?_
   have j:=(j.pl 18 [0,2,3,4,5,6,7,8,9,10,11,12,13,14,15,16,17]).cL 0 true aZ
   exact RL.nil ⟨rfl,(bo,af),o.pu 5,ha.u,zt,j⟩
  ·rintro D U w hD ad ao ⟨⟨ae,af⟩,o,ha,_,j⟩
   obtain⟨O,rfl⟩:=(ac (o.at 3 rfl (ad.1 rfl)) (ac (o.at 5 rfl (ad.2.1 rfl)) az)).eV
   have j:=(j.cK 0 (ad.2.1 rfl)).Af (cs:=[v0_0,v0_1,v0_2,v0_3]) (x:=(⟨p0_0,p0_1,p0_2,p0_3⟩:gS)) (fun M hs g=>⟨[v0_0],[v0_1,v0_2,v0_3],rfl,(lz (g.sat 6 _ rfl).1),⟨[v0_1],[v0_2,v0_3],rfl,(lz (g.sat 7 _ rfl).1),⟨[v0_2],[v0_3],rfl,(lz (g.sat 8 _ rfl).1),(lz (g.sat 9 _ rfl).1)⟩⟩⟩) rfl
   refine RL.call zt zr B1 [(.agg ([v0_0,v0_1,v0_2,v0_3]:List Value).toArray),ae] zr (aF (ga N (i0:=0) (i1:=1) j zr zr bm) ?_)
   rintro _ w ⟨rfl,j⟩
   have j:=(j.pl 18 [1,2,3,4,5,6,7,8,9,10,11,12,13,14,15,16,17]).cL (hb:=ad.2.1 rfl) 0 (D 5) aZ
   exact RL.nil ⟨rfl,(ae,af),o.pu 6,ha.u,zt,j⟩
  ·rintro D U w hD ad ao ⟨⟨ae,af⟩,o,ha,_,j⟩
   obtain⟨O,rfl⟩:=(ac (o.at 9 rfl (ad.1 rfl)) az).eV
   refine RL.BE (cs:=[v0_0,v0_1,v0_2,v0_3]) 5 zt zr j zr zr oN zr zr ?_
   exact RL.nil ⟨rfl,(ae,af),o.pu 10,ha.u,zt,j⟩
  ·rintro D U w hD ad ao ⟨⟨ae,af⟩,o,ha,_,j⟩
   obtain⟨O,rfl⟩:=(ac (o.at 11 rfl (ad.1 rfl)) az).eV
   have j:=j.cA 1 hD
   refine RL.aQ 2 j zr mQ m8 fun bp j=>?_
   have j:=(j.pl 18 [1,0,3,4,5,6,7,8,9,10,11,12,13,14,15,16,17]).cL 1 true aZ
   exact RL.nil ⟨rfl,(ae,bp),o.pu 12,ha.u,zt,j⟩
  ·rintro D U w hD ad ao ⟨⟨ae,af⟩,o,ha,_,j⟩
   obtain⟨O,rfl⟩:=(ac (o.at 10 rfl (ad.1 rfl)) (ac (o.at 12 rfl (ad.2.1 rfl)) az)).eV
   have j:=(j.cK 1 (ad.2.1 rfl)).Af (cs:=[v0_0,v0_1,v0_2,v0_3]) (x:=(⟨p0_0,p0_1,p0_2,p0_3⟩:gS)) (fun M hs g=>⟨[v0_0],[v0_1,v0_2,v0_3],rfl,(lz (g.sat 6 _ rfl).1),⟨[v0_1],[v0_2,v0_3],rfl,(lz (g.sat 7 _ rfl).1),⟨[v0_2],[v0_3],rfl,(lz (g.sat 8 _ rfl).1),(lz (g.sat 9 _ rfl).1)⟩⟩⟩) rfl
   refine RL.call zt zr B1 [(.agg ([v0_0,v0_1,v0_2,v0_3]:List Value).toArray),af] zr (aF (ga N (i0:=0) (i1:=2) j zr zr bn) ?_)
   rintro _ w ⟨rfl,j⟩
   have j:=(j.pl 18 [1,2,3,4,5,6,7,8,9,10,11,12,13,14,15,16,17]).cL (hb:=ad.2.1 rfl) 1 (D 12) aZ
   exact RL.nil ⟨rfl,(ae,af),o.pu 13,ha.u,zt,j⟩
  rintro D U w ay ⟨⟨ae,af⟩,o,ha,_,j⟩
  have j:=(j.cK 0 (jC ay 5)).cK 1 (jC ay 12)
  obtain⟨O,rfl⟩:=(ac (o.at 14 rfl (jC ay 14)) (ac (o.at 15 rfl (jC ay 15)) (ac (ha.at 0 rfl) (ac (ha.at 1 rfl) (ac (ha.at 2 rfl) (ac (ha.at 3 rfl) (ac (ha.at 4 rfl) (ac (ha.at 5 rfl) (ac (ha.at 6 rfl) az))))))))).eV
  refine aG ?_
  obtain⟨a2,hj,hb⟩:=bd hb
  refine RC.jn (fun(a2: (List Bool)) U w=>∃a0:Value,SH E V [(0,vp b0 0),(7,ah),(8,a0),(16,v1),(17,vi p1.length),(18,vi ak)] [bc 126 b0 [v0_0,v0_1,v0_2,v0_3,v0_4,v0_5,v0_6,v0_7,v0_8,v0_9,v0_10,v0_11],rd v0_0 p0_0,rd v0_1 p0_1,rd v0_2 p0_2,rd v0_3 p0_3,rd v0_5 p0_5,rd v0_6 p0_6,rd v0_10 p0_10,rd v0_11 p0_11,own 3 ah au,rd v1 p1,own 4 a0 a2] U w) a2 ?_ ?_
  ·refine RC.xM mixed [1,0,0,0,0,0,0,0,0,0,0,0,0,0,0,0,0,2,2,0] [0,1,2,3,4,5,6,7,8,9,10,11,12,13,14,15,16,17,18,19] ?_
   have j:=j.drew
   refine DP.e1 av zr (fun w=>RL.move av zt DP.d1) (DP.e0 zr (mv ah (cB zr (mv (vi ax) (cB zr ?_)))))
   obtain⟨a9,a3,hj⟩:=bd hj
   refine RL.bG 14 j zr zr dV a3 (cB zr (RL.cX (f:=(fun x=>x)) 14 j (iX 14 j a3 0) (aU a3).2.1 Fd.self cN (cB zr (ic a9 0 (cB zr (mv (vb (decide (a9>=0))) (DP.d0 (fU hj (fun aa hj=>?_) fun aa hj=>?_))))))))
   rotate_left
   ·refine DP.e0 zr (bN aa (cB zr (bN aa (cB zr (bN aa (cB zr (bN aa (cB zr ?_))))))))
    refine bN aa (cB zr (bN aa (cB zr (bN aa (cB zr (bN aa (cB zr (bN aa ?_))))))))
    refine cB zr (fP aa (vb false) (tL zr ?_))
    have j:=j.sc Bool false
    refine RL.eE ([false]: (List Bool)) j [(vb false)] yY MZ (fun M hs g=>⟨(g.sat 0 _ zr).1,zt⟩) fun bt w j=>(HG zr ?_)
    have j:=j.freeze 0
    obtain⟨bu,bq,hj⟩:=bd hj
    refine RL.app 18 0 j K3 bq fun ba w j=>?_
    refine xN zr (aK ba (DP.d0 (DP.z ?_)))
    obtain rfl:=oi hj
    exact⟨rfl,ba,j.sp 19 [7,8,9,10,11,12,13,14,15,16,17,18]⟩
   refine DP.e0 zr (RL.move ah (cg aa) (cB zr (RL.move (vi ax) (cg aa) (cB zr ?_))))
   obtain⟨aq,a4,hj⟩:=bd hj
   refine RL.bG (hg:=(cg aa)) 14 j zr zr dV a4 (cB zr (RL.cX (hg:=(cg aa)) (f:=(fun x=>x)) 14 j (iX 14 j a4 0) (aU a4).2.1 Fd.self cN (cB zr (RL.move ah (cg aa) (cB zr (RL.move (vi a1) (cg aa) (cB zr ?_)))))))
   obtain⟨ar,a5,hj⟩:=bd hj
   refine RL.bG (hg:=(cg aa)) 14 j zr zr dV a5 (cB zr (RL.cX (hg:=(cg aa)) (f:=(fun x=>x)) 14 j (iX 14 j a5 0) (aU a5).2.1 Fd.self cN (cB zr (RL.jO aq ar (cg aa) (cB zr (fP aa (vb (aq==ar)) (tL zr ?_)))))))
   have j:=j.sc Bool (aq==ar)
   refine RL.eE ([(aq==ar)]: (List Bool)) j [(vb (aq==ar))] yY MZ (fun M hs g=>⟨(g.sat 0 _ zr).1,zt⟩) fun bw w j=>(HG zr ?_)
   have j:=j.freeze 0
   obtain⟨bz,br,hj⟩:=bd hj
   refine RL.app 18 0 j K3 br fun bb w j=>?_
   refine xN zr (aK bb (DP.d0 (DP.z ?_)))
   obtain rfl:=oi hj
   exact⟨rfl,bb,j.sp 19 [7,8,9,10,11,12,13,14,15,16,17,18]⟩
  rintro _ w ⟨a0,O,rfl,j⟩
  refine bI (aG (RC.region (RL.inc hk hm (mv (vi ((ak+1:Nat):Int)) (RL.nil ?_)))))
  obtain rfl:=oi hb
  exact⟨rfl,a0,j.sp 12 [0,1,2,3,4,5,6,7,8,9,10,11]⟩
 rintro _ w ⟨an,O,rfl,j⟩
 refine aG (RC.sr (mv an (aK an (RL.nt (RC.ret ?_)))))
 obtain rfl:=oi hb
 exact cF (j.pk 12 [11,0])
def ti (E:World) (V:List HP) (r:Bool) (U:Nat->Value) (w:World):Prop:=ly bE 26 Tryz.f14 (aY E V r) .ret U w
theorem rU {p0: (List Bool)} {p1: (List Bool)} {res:Bool} (j:Holds E w V) (h0:V[i0]? =some (rd v0 p0)) (h1:V[i1]? =some (rd v1 p1)) (o:jl N p0 p1=some res):
    Calls bE 14 [v0,v1].toArray w (gF (aY E V res)):=by
 unfold jl at o
 refine enter Tryz.func14 zr zr ?_
 have j:=(j.dup (i0+0) h0).dup (i1+1) h1
 refine RC.sr (aK (vb false) (RL.nq (RC.sr (mv v0 (RL.bC 1 p0 j Jr (mv v1 (RL.bC 0 p1 j Jr (ic ((p0.length:Int)) ((p1.length:Int)) ?_))))))))
 refine RL.nt (eI o (fun hc o=>?_) fun hc o=>?_)
 ·refine RC.sr (aK (vb false) (RL.nt (RC.rt ?_)))
  obtain rfl:=oi o
  exact cF ⟨rfl,j.drop 2⟩
 refine RC.ss (RC.sr (mv v0 (RL.bC 1 p0 j Jr (mv (vi 0) (RL.nt ?_)))))
 obtain⟨an,hN,o⟩:=bd o
 refine RC.range (fun(aa:Nat) (ab:Unit)=>SH E V [(0,v0),(1,v1),(12,vi p0.length),(13,vi aa)] [rd v0 p0,rd v1 p1]) (fun(ab:Unit)=>SH E V [] [rd v0 p0,rd v1 p1]) (ti E V) hN ?_ ?_ ?_ ?_ ?_
 ·exact j.sp 2 [1,0]
 ·rintro hm ab _ w ⟨O,rfl,j⟩
  refine RC.sr (ic ((p0.length:Int)) ((p0.length:Int)) (RL.nq (RC.cH lD (RC.ex ?_))))
  exact⟨rfl,j.sp 2 [0,1]⟩
 ·rintro hm aa ab fl _ w hk ⟨O,rfl,j⟩ o
  refine RC.sr (ic ((aa:Int)) ((p0.length:Int)) (RL.nq (RC.cG (lC hk) (RC.ss (RC.bs (mv (vi aa) (aK (vi aa) (RL.nq ?_))))))))
  refine RC.uK mixed ?_
  have j:=j.drew
  refine RO.go (mv v0 (RO.nx (mv (vi aa) (RO.nx ?_))))
  obtain⟨ag,aj,o⟩:=bd o
  refine RL.bW 0 j yY aj fun aq j=>(RO.nx (RL.bH ag 0 j ux (RO.nx (mv v1 (RO.nx (mv (vi aa) (RO.nx ?_)))))))
  obtain⟨ah,ak,o⟩:=bd o
  refine RL.bW 2 j yY ak fun ar j=>(RO.nx (RL.bH ah 0 j ux (RO.nx (RL.uE ag ah zr zr zr HM (RO.last (aG (eI o (fun hc o=>?_) fun hc o=>?_)))))))
  rotate_left
  ·refine RC.skip (bI (aG (RC.region (RL.inc hk hm (mv (vi ((aa+1:Nat):Int)) (RL.nil ?_))))))
   obtain rfl:=oi o
   exact⟨rfl,j.sp 4 [2,3]⟩
  refine RC.sr (aK (vb false) (RL.nt (RC.rb (bM ?_))))
  obtain rfl:=oi o
  exact⟨rfl,cF ⟨rfl,j.drop 4⟩⟩
 ·intro r U w e hK
  subst e
  refine bM ?_
  obtain rfl:=oi o
  exact hK
 rintro ab _ w rfl ⟨O,rfl,j⟩
 rw [Fo.fB] at o
 refine aG (RC.sr (aK (vb true) (RL.nt (RC.ret ?_))))
 obtain rfl:=oi o
 exact cF ⟨rfl,j.drop 2⟩
end Go.Gk
namespace Go.Gk
open Go Go.Proofs
variable (N:Nat) {E w:World} {i0 i1:Nat} {p2:Int} {v0 v1:Value} {V:List HP}
def y8 (E:World) (V:List HP) (r:Bool) (U:Nat->Value) (w:World):Prop:=ly bE 31 Tryz.f37 (aY E V r) .ret U w
theorem yb {p0: (List Int)} {p1: (List Int)} {res:Bool} (j:Holds E w V) (h0:V[i0]? =some (rd v0 p0)) (h1:V[i1]? =some (rd v1 p1)) (o:m7 N p0 p1=some res):
    Calls bE 37 [v0,v1].toArray w (gF (aY E V res)):=by
 unfold m7 at o
 refine enter Tryz.func37 zr zr ?_
 have j:=(j.dup (i0+0) h0).dup (i1+1) h1
 refine RC.sr (aK (vb false) (RL.nq (RC.sr (mv v0 (RL.bC 1 p0 j l3 (mv (vi 0) (RL.nt ?_)))))))
 obtain⟨ar,hN,o⟩:=bd o
 refine RC.range (fun(aa:Nat) (ah:Unit)=>SH E V [(0,v0),(1,v1),(9,vi p0.length),(10,vi aa)] [rd v0 p0,rd v1 p1]) (fun(ah:Unit)=>SH E V [] [rd v0 p0,rd v1 p1]) (y8 E V) hN ?_ ?_ ?_ ?_ ?_
 ·exact j.sp 2 [1,0]
 ·rintro hm ah _ w ⟨O,rfl,j⟩
  refine RC.sr (ic ((p0.length:Int)) ((p0.length:Int)) (RL.nq (RC.cH lD (RC.ex ?_))))
  exact⟨rfl,j.sp 2 [0,1]⟩
 ·rintro hm aa ah fl _ w hk ⟨O,rfl,j⟩ o
  refine RC.sr (ic ((aa:Int)) ((p0.length:Int)) (RL.nq (RC.cG (lC hk) (RC.ss (RC.bs (mv (vi aa) (aK (vi aa) (RL.nq ?_))))))))
  refine RC.uK mixed ?_
  have j:=j.drew
  refine RO.go (mv v0 (RO.nx (mv (vi aa) (RO.nx ?_))))
  obtain⟨ai,an,o⟩:=bd o
  refine RL.bW 0 j dV an fun av j=>(RO.nx (RL.bH ai 0 j cN (RO.nx (mv v1 (RO.nx (mv (vi aa) (RO.nx ?_)))))))
  obtain⟨ae,ao,o⟩:=bd o
  refine RL.bW 2 j dV ao fun aw j=>(RO.nx (RL.bH ae 0 j cN (RO.nx (aK (vi ai) (RO.nx (aK (vi ae) (RO.last (aG ?_))))))))
  refine RC.seq (RC.sr (mv (vi ai) (ic ai 0 (RL.nt ?_))))
  obtain⟨ad,hj,o⟩:=bd o
  refine RC.jn (fun(ad:Int)=>SH E V [(0,v0),(1,v1),(5,vi aa),(6,vi ad),(7,vi ae),(9,vi p0.length),(10,vi aa)] [rd v0 p0,rd v1 p1]) ad ?_ ?_
  ·refine eI hj (fun hc hj=>?_) fun hc hj=>?_
   rotate_left
   ·refine RC.skip ?_
    obtain rfl:=oi hj
    exact⟨rfl,j.sp 4 [2,3]⟩
   refine RC.region (mv (vi aa) (aK (vi aa) (RL.nil ?_)))
   obtain rfl:=oi hj
   exact⟨rfl,j.sp 4 [2,3]⟩
  rintro _ w ⟨O,rfl,j⟩
  refine aG (RC.seq (RC.sr (mv (vi ae) (ic ae 0 (RL.nt ?_)))))
  obtain⟨ag,hj,o⟩:=bd o
  refine RC.jn (fun(ag:Int)=>SH E V [(0,v0),(1,v1),(6,vi ad),(7,vi ag),(9,vi p0.length),(10,vi aa)] [rd v0 p0,rd v1 p1]) ag ?_ ?_
  ·refine eI hj (fun hc hj=>?_) fun hc hj=>?_
   rotate_left
   ·refine RC.skip ?_
    obtain rfl:=oi hj
    exact⟨rfl,j.sp 2 [0,1]⟩
   refine RC.region (mv (vi aa) (aK (vi aa) (RL.nil ?_)))
   obtain rfl:=oi hj
   exact⟨rfl,j.sp 2 [0,1]⟩
  rintro _ w ⟨O,rfl,j⟩
  refine aG (RC.sr (mv (vi ad) (mv (vi ag) (ic ad ag (RL.nt (eI o (fun hc o=>?_) fun hc o=>?_))))))
  rotate_left
  ·refine RC.skip (bI (aG (RC.region (RL.inc hk hm (mv (vi ((aa+1:Nat):Int)) (RL.nil ?_))))))
   obtain rfl:=oi o
   exact⟨rfl,j.sp 2 [0,1]⟩
  refine RC.sr (aK (vb false) (RL.nt (RC.rb (bM ?_))))
  obtain rfl:=oi o
  exact⟨rfl,cF ⟨rfl,j.drop 2⟩⟩
 ·intro r U w e hK
  subst e
  refine bM ?_
  obtain rfl:=oi o
  exact hK
 rintro ah _ w rfl ⟨O,rfl,j⟩
 rw [Fo.fB] at o
 refine aG (RC.sr (aK (vb true) (RL.nt (RC.ret ?_))))
 obtain rfl:=oi o
 exact cF ⟨rfl,j.drop 2⟩
def xf (E:World) (V:List HP) (res: (List bO)×(List Bool)×Int) (v:Value) (w:World):Prop:=∃u0 u1:Value,v = .tuple #[u0,u1,(vi res.2.2)]/\Holds E w ([own 89 u0 res.1,own 4 u1 res.2.1]++V)
theorem pU {p0:gS} {p1: (List Test)} {res: (List bO)×(List Bool)×Int} (j:Holds E w V) (h0:V[i0]? =some (rd v0 p0)) (h1:V[i1]? =some (rd v1 p1)) (hb:eX N p0 p1 p2=some res):
    Calls bE 33 [v0,v1,(vi p2)].toArray w (gF (xf E V res)):=by
 unfold eX at hb
 refine enter Tryz.func33 zr zr ?_
 have j:=(j.dup (i0+0) h0).dup (i1+1) h1
 refine RC.sr (RL.dB 1 v0 j zr fun cp w j=>?_)
 refine aK (.slice none 0 0) (aK (.slice none 0 0) (aK (vi 0) (RL.ns (RL.aQ (f:=(fun x=>x)) 0 j zr Fd.self oN fun b5 j=>(mv v1 ?_)))))
 obtain⟨an,b6,hb⟩:=bd hb
 refine RL.call zt zr Mn [b5,v1] zr (aF (y6 N (i0:=0) (i1:=2) j zr zr b6) ?_)
 rintro _ w hK49
 rcases bl:an.1 with _ | o
 ·replace hb:=I7 bl hb
  obtain⟨rfl,j⟩:=FL bl hK49
  refine mv (.tuple #[(.pointer none),(vi an.2)]) (RL.extract (.pointer none) (RL.extract (vi an.2) (aK (.pointer none) (aK (vi an.2) (RL.nq (RC.sr (mv (vi an.2) (ic an.2 0 ?_))))))))
  refine RL.nt (eI hb (fun hc hb=>?_) fun hc hb=>?_)
  rotate_left
  ·cases hb
  refine RC.sr (mv (vi an.2) (aK (.slice none 0 0) (aK (.slice none 0 0) (aK (vi an.2) (RL.nt (RC.rt ?_))))))
  obtain rfl:=oi hb
  have j:=(j.cT bO 89).cT Bool 4
  exact Hs zr zr zr zr ⟨(.slice none 0 0),(.slice none 0 0),zr,j.pk 6 [1,0]⟩
 replace hb:=I8 bl hb
 obtain⟨ab,ax,ay,a0,a1,a2,a3,a4,a5,a6,a7,a8,a9,rfl,j⟩:=FM bl hK49
 refine mv (.tuple #[(vp ab 0),(vi an.2)]) (RL.extract (vp ab 0) (RL.extract (vi an.2) (aK (vp ab 0) (aK (vi an.2) (RL.nq (RC.sr (mv (vi an.2) (ic an.2 0 ?_))))))))
 refine RL.nt (eI hb (fun hc hb=>?_) fun hc hb=>?_)
 ·refine RC.sr (mv (vi an.2) (aK (.slice none 0 0) (aK (.slice none 0 0) (aK (vi an.2) (RL.nt (RC.rt ?_))))))
  obtain rfl:=oi hb
  have j:=(j.cT bO 89).cT Bool 4
  exact Hs zr zr zr zr ⟨(.slice none 0 0),(.slice none 0 0),zr,j.pk 19 [1,0]⟩
 refine RC.sx (mv (vp ab 0) (mv (vi p2) ?_))
 have j:=((((((((((((j.freeze 5).freeze 8).freeze 11).freeze 12).dup 12 rfl).dup 12 rfl).dup 12 rfl).dup 12 rfl).dup 12 rfl).dup 12 rfl).dup 12 rfl).dup 12 rfl).dup 12 rfl
 have j:=(((j.dup 12 rfl).dup 12 rfl).dup 12 rfl).pull 12
 obtain⟨af,b7,hb⟩:=bd hb
 refine RL.call zt zr Mj [(vp ab 0),(vi p2)] zr (aF (xd N (p1:=p2) j b7) ?_)
 rintro _ w ⟨aq,rfl,j⟩
 refine mv (.tuple #[aq,(vi af.2)]) (RL.extract aq (RL.extract (vi af.2) (aK aq (aK (vi af.2) (RL.nq (RC.sr (mv (vi af.2) (ic af.2 0 ?_))))))))
 refine RL.nt (eI hb (fun hc hb=>?_) fun hc hb=>?_)
 ·refine RC.sr (mv (vi af.2) (aK (.slice none 0 0) (aK (.slice none 0 0) (aK (vi af.2) (RL.nt (RC.rt ?_))))))
  obtain rfl:=oi hb
  have j:=(j.cT bO 89).cT Bool 4
  exact Hs zr zr zr zr ⟨(.slice none 0 0),(.slice none 0 0),zr,j.pk 21 [1,0]⟩
 refine RC.sx (mv (vp ab 0) ?_)
 have j:=(((((((j.tH bQ).dup 15 rfl).dup 15 rfl).dup 12 rfl).dup 12 rfl).dup 11 rfl).dup 11 rfl).pull 8
 obtain⟨cq,b8,hb⟩:=bd hb
 refine RL.call zt zr HR [(vp ab 0),(.slice none 0 0)] zr (aF (lj N (i1:=0) j zr b8) ?_)
 rintro bp w j
 refine aK bp (RL.ns (aK (.slice none 0 0) (RL.nq (RC.sr (mv aq (RL.eH 3 af.1 j yX (mv (vi 0) (RL.nt ?_))))))))
 obtain⟨ar,hN,hb⟩:=bd hb
 refine RC.fold (fun(bg:Nat) (ar: (List Int)×(List bO)) U w=>∃bq br:Value,SH E V [(1,v1),(9,vp ab 0),(12,bq),(13,br),(37,aq),(38,vi af.1.length),(39,vi bg)] [rd v1 p1,bc 126 ab [ax,ay,a0,a1,a2,a3,a4,a5,a6,a7,a8,a9],rd ax o.1,rd ay o.2.1,rd a0 o.2.2.1,rd a1 o.2.2.2.1,rd a2 o.2.2.2.2.1,rd a3 o.2.2.2.2.2.1,rd a4 o.2.2.2.2.2.2.1,rd a5 o.2.2.2.2.2.2.2.1,rd a6 o.2.2.2.2.2.2.2.2.1,rd a7 o.2.2.2.2.2.2.2.2.2.1,rd a8 o.2.2.2.2.2.2.2.2.2.2.1,rd a9 o.2.2.2.2.2.2.2.2.2.2.2,own 43 aq af.1,rd bq ar.1,own 89 br ar.2] U w) (fun(ar: (List Int)×(List bO)) U w=>∃bh:Value,SH E V [(1,v1),(9,vp ab 0),(13,bh)] [rd v1 p1,bc 126 ab [ax,ay,a0,a1,a2,a3,a4,a5,a6,a7,a8,a9],rd ax o.1,rd ay o.2.1,rd a0 o.2.2.1,rd a1 o.2.2.2.1,rd a2 o.2.2.2.2.1,rd a3 o.2.2.2.2.2.1,rd a4 o.2.2.2.2.2.2.1,rd a5 o.2.2.2.2.2.2.2.1,rd a6 o.2.2.2.2.2.2.2.2.1,rd a7 o.2.2.2.2.2.2.2.2.2.1,rd a8 o.2.2.2.2.2.2.2.2.2.2.1,rd a9 o.2.2.2.2.2.2.2.2.2.2.2,own 43 aq af.1,own 89 bh ar.2] U w) hN ?_ ?_ ?_ ?_
 ·have j:=(j.freeze 0).cT bO 89
  exact⟨bp,(.slice none 0 0),j.sp 23 [21,2,7,8,9,10,11,12,13,14,15,16,17,18,4,1,0]⟩
 ·rintro hm ar _ w ⟨cr,ca,O,rfl,j⟩
  refine RC.sr (ic ((af.1.length:Int)) ((af.1.length:Int)) (RL.nq (RC.cH lD (RC.ex ?_))))
  exact⟨rfl,ca,j.sp 17 [0,1,2,3,4,5,6,7,8,9,10,11,12,13,14,16]⟩
 ·rintro hm bg ar s' _ w hk ⟨bb,bj,O,rfl,j⟩ hb
  refine RC.sr (ic ((bg:Int)) ((af.1.length:Int)) (RL.nq (RC.cG (lC hk) (RC.ss (RC.bs ?_)))))
  obtain⟨ao,bn,hb⟩:=bd hb
  refine RL.bG 14 j zr zr w7 bn (RL.iD (f:=(fun x=>x)) 14 j (iX 14 j bn 0) (aU bn).2.1 Fd.self rC fun cb j=>?_)
  refine RL.alloc j B0.z fun bw w j=>?_
  refine RL.bA 0 j 1 zr rC fun w j=>?_
  refine RL.ns (RL.aQ (f:=(fun x=>x)) 0 j zr Fd.self rC fun bz j=>(RL.eE ([ao]: (List bQ)) j [bz] w7 B0 (fun M hs g=>⟨(g.sat 0 _ zr).1,zt⟩) fun bf w j=>(aK bf (RL.ns (mv (vp ab 0) (mv bf ?_))))))
  have j:=(((((((j.freeze 0).dup 17 rfl).dup 17 rfl).dup 14 rfl).dup 14 rfl).dup 13 rfl).dup 13 rfl).pull 11
  obtain⟨cc,cd,hb⟩:=bd hb
  refine RL.call zt zr HR [(vp ab 0),bf] zr (aF (lj N (i1:=0) j zr cd) ?_)
  rintro b0 w j
  refine mv bb ?_
  have j:=j.freeze 0
  obtain⟨cf,cg,hb⟩:=bd hb
  refine RL.call zt zr Mw [b0,bb] zr (aF (yb N (i0:=0) (i1:=21) j zr zr cg) ?_)
  rintro _ w ⟨rfl,j⟩
  refine RL.not cf (RL.nt ?_)
  obtain⟨bo,hj,hb⟩:=bd hb
  refine RC.jn (fun(bo: (List bO)) U w=>∃bm:Value,SH E V [(1,v1),(9,vp ab 0),(12,bb),(13,bm),(37,aq),(38,vi af.1.length),(39,vi bg)] [rd v1 p1,bc 126 ab [ax,ay,a0,a1,a2,a3,a4,a5,a6,a7,a8,a9],rd ax o.1,rd ay o.2.1,rd a0 o.2.2.1,rd a1 o.2.2.2.1,rd a2 o.2.2.2.2.1,rd a3 o.2.2.2.2.2.1,rd a4 o.2.2.2.2.2.2.1,rd a5 o.2.2.2.2.2.2.2.1,rd a6 o.2.2.2.2.2.2.2.2.1,rd a7 o.2.2.2.2.2.2.2.2.2.1,rd a8 o.2.2.2.2.2.2.2.2.2.2.1,rd a9 o.2.2.2.2.2.2.2.2.2.2.2,rd bb ar.1,own 43 aq af.1,own 89 bm bo] U w) bo ?_ ?_
  ·refine eI hj (fun hc hj=>?_) fun hc hj=>?_
   rotate_left
   ·refine RC.skip ?_
    obtain rfl:=oi hj
    exact⟨rfl,bj,j.sp 23 [6,1,8,9,10,11,12,13,14,15,16,17,18,19,21,20,22]⟩
   obtain⟨au,ch,hj⟩:=bd hj
   obtain⟨cj,ck,hj⟩:=bd hj
   refine RC.Ew E V mixed [0,0,1,1,1,0,0,0,0,1] [1,5,6,7,8] (fun(x:Value×Value×Value×Value×Value)=>(fun ak ag al ai aj=>[(0,51,bj),(1,52,ak),(2,53,(vp ab 0)),(3,54,v1),(4,55,bf),(5,56,ag),(6,57,al),(7,58,ai),(8,59,aj),(9,13,aj)]) x.1 x.2.1 x.2.2.1 x.2.2.2.1 x.2.2.2.2) [(1,v1),(9,vp ab 0),(12,bb),(15,vp bw 0),(16,bf),(37,aq),(38,vi af.1.length),(39,vi bg)] [(9,13,bj)] (fun(D:Nat->Bool) (x:Value×Value×Value×Value×Value)=>(fun ak ag al ai aj=>[bif D 0 then (rd ak ao) else aZ,bif D 2 then (rd ag au) else (bif D 1 then (own 4 ag au) else aZ),bif D 2 then (rd al (⟨ao,au⟩:bO)) else aZ,bif D 4 then (rd ai ([(⟨ao,au⟩:bO)]: (List bO))) else (bif D 3 then (own 89 ai ([(⟨ao,au⟩:bO)]: (List bO))) else aZ),rd b0 cc,bc 126 ab [ax,ay,a0,a1,a2,a3,a4,a5,a6,a7,a8,a9],rd bf ([ao]: (List bQ)),rd bz ao,bx 43 bw ao,rd cb ao,rd v1 p1,aZ,rd ax o.1,rd ay o.2.1,rd a0 o.2.2.1,rd a1 o.2.2.2.1,rd a2 o.2.2.2.2.1,rd a3 o.2.2.2.2.2.1,rd a4 o.2.2.2.2.2.2.1,rd a5 o.2.2.2.2.2.2.2.1,rd a6 o.2.2.2.2.2.2.2.2.1,rd a7 o.2.2.2.2.2.2.2.2.2.1,rd a8 o.2.2.2.2.2.2.2.2.2.2.1,rd a9 o.2.2.2.2.2.2.2.2.2.2.2,own 43 aq af.1,rd bb ar.1,bif D 4 then (own 89 aj cj) else (own 89 bj ar.2)]) x.1 x.2.1 x.2.2.1 x.2.2.2.1 x.2.2.2.2) (fun x=>by kernel_rfl) ?_ ⟨?_,?_,fun _=>jt gn,fun _=>jt gn,fun _=>jt gn,?_,?_,?_,?_,fun _=>Jc gn rfl,trivial⟩ ?_
   ·have j:=((((j.drew).aZ).aZ).aZ).aZ
    exact⟨(undef,undef,undef,undef,undef),dX.none,(CX zr),⟨fun _=>zr,zt⟩,j⟩
   ·rintro D U w hD ae av ⟨⟨ak,ag,al,ai,aj⟩,hv,ha,ho,j⟩
    obtain⟨O,rfl⟩:=(ac (ho.at 0 rfl (nh av hD 9)) az).eV
    refine mv bj ?_
    exact RL.nil ⟨rfl,(ak,ag,al,ai,aj),hv.pu 0,ha.u,ho.up zr,j⟩
   ·rintro D U w hD ae av ⟨⟨ak,ag,al,ai,aj⟩,hv,ha,ho,j⟩
    obtain⟨O,rfl⟩:=(ac (ha.at 3 rfl) az).eV
    have j:=j.cA 0 hD
    refine RL.aQ (f:=(fun x=>x)) 8 j zr Fd.self rC fun cl j=>?_
    have j:=(j.pl 28 [0,2,3,4,5,6,7,8,9,10,11,12,13,14,15,16,17,18,19,20,21,22,23,24,25,26,27]).cL 0 true aZ
    exact RL.nil ⟨rfl,(cl,ag,al,ai,aj),hv.pu 1,ha.u,ho.up zr,j⟩
   ·rintro D U w hD ae av ⟨⟨ak,ag,al,ai,aj⟩,hv,ha,ho,j⟩
    obtain⟨O,rfl⟩:=(ac (hv.at 2 rfl (ae.1 rfl)) (ac (hv.at 3 rfl (ae.2.1 rfl)) (ac (hv.at 4 rfl (ae.2.2.1 rfl)) az))).eV
    have j:=((((((((((j.cA 1 (nh av hD 6)).cA 1 hD).dup 23 rfl).dup 23 rfl).dup 20 rfl).dup 20 rfl).dup 19 rfl).dup 19 rfl).dup 19 rfl).dup 19 rfl).pull 13
    refine RL.call zt zr K4 [(vp ab 0),v1,bf] zr (aF (rT N (i1:=10) (i2:=6) j zr zr ch) ?_)
    rintro b1 w j
    have j:=((j.pl 29 [2,0,4,5,6,1,8,9,10,11,12,13,14,15,16,17,18,19,20,21,22,23,24,25,26,27,28]).cL 1 true aZ).eY 1 (D 6) (nh av hD 6) (rd b1 au)
    exact RL.nil ⟨rfl,(ak,b1,al,ai,aj),hv.pu 5,ha.u,ho.up zr,j⟩
   ·rintro D U w hD ae av ⟨⟨ak,ag,al,ai,aj⟩,hv,ha,ho,j⟩
    obtain⟨O,rfl⟩:=(ac (hv.at 1 rfl (ae.1 rfl)) (ac (hv.at 5 rfl (ae.2.1 rfl)) az)).eV
    have j:=((((j.cK 0 (ae.1 rfl)).cA 1 hD).cK 1 (ae.2.1 rfl)).cA 2 hD).freeze 1
    refine RL.build (⟨ao,au⟩:bO) trivial rfl j [(0,ak),(1,ag)] rfl Mx rfl (fun M hs g=>by have h:=Ar M;exact cO.cons (f:=fun(x:bO) y=>{x with CU:=y}) h w4 (g.sat 0 _ rfl).1 fun _ h=>cO.cons (f:=fun(x:bO) y=>{x with tp:=y}) h w5 (g.sat 1 _ rfl).1 fun _ h=>cO.nil h) fun cm j=>?_
    have j:=(((j.pl 28 [1,2,0,4,5,6,7,8,9,10,11,12,13,14,15,16,17,18,19,20,21,22,23,24,25,26,27]).cL (hb:=ae.1 rfl) 0 (D 1) aZ).cL 1 true (bif D 5 then (own 4 ag au) else aZ)).cL 2 true aZ
    exact RL.nil ⟨rfl,(ak,ag,cm,ai,aj),hv.pu 6,ha.u,ho.up zr,j⟩
   ·rintro D U w hD ae av ⟨⟨ak,ag,al,ai,aj⟩,hv,ha,ho,j⟩
    obtain⟨O,rfl⟩:=(ac (hv.at 6 rfl (ae.1 rfl)) az).eV
    have j:=((j.cK 2 (ae.1 rfl)).cA 3 (nh av hD 8)).cA 3 hD
    refine RL.eE ([(⟨ao,au⟩:bO)]: (List bO)) j [al] Gc Gd (fun M hs g=>⟨(g.sat 2 _ zr).1,zt⟩) fun b2 w j=>?_
    have j:=(((j.pl 28 [1,2,3,0,5,6,7,8,9,10,11,12,13,14,15,16,17,18,19,20,21,22,23,24,25,26,27]).cL (hb:=ae.1 rfl) 2 (D 6) aZ).cL 3 true aZ).eY 3 (D 8) (nh av hD 8) (rd b2 ([(⟨ao,au⟩:bO)]: (List bO)))
    exact RL.nil ⟨rfl,(ak,ag,al,b2,aj),hv.pu 7,ha.u,ho.up zr,j⟩
   ·rintro D U w hD ae av ⟨⟨ak,ag,al,ai,aj⟩,hv,ha,ho,j⟩
    obtain⟨O,rfl⟩:=(ac (hv.at 0 rfl (ae.1 rfl)) (ac (hv.at 7 rfl (ae.2.1 rfl)) az)).eV
    have j:=(((j.cA 3 hD).cK 3 (ae.2.1 rfl)).cA 26 hD).freeze 3
    refine RL.app 26 3 j My ck fun b3 w j=>?_
    have j:=(j.cL 3 true (bif D 7 then (own 89 ai ([(⟨ao,au⟩:bO)]: (List bO))) else aZ)).cL 26 true (own 89 bj ar.2)
    have hv:=hv.re 9 rfl (v':=b3) (fun h=>ft hD ((av 9 _ rfl h).1 rfl))
    exact RL.nil ⟨rfl,(ak,ag,al,ai,b3),hv.pu 8,ha.u,ho.up zr,j⟩
   rintro D U w bk ⟨⟨ak,ag,al,ai,aj⟩,hv,ha,_,j⟩
   have j:=((((j.cK 0 (jC bk 1)).cK 1 (jC bk 6)).cK 2 (jC bk 6)).cK 3 (jC bk 8)).cK 26 (jC bk 8)
   obtain⟨O,rfl⟩:=(ac (hv.at 9 rfl (jC bk 9)) (ac (ha.at 0 rfl) (ac (ha.at 1 rfl) (ac (ha.at 2 rfl) (ac (ha.at 3 rfl) (ac (ha.at 4 rfl) (ac (ha.at 5 rfl) (ac (ha.at 6 rfl) (ac (ha.at 7 rfl) az))))))))).eV
   obtain rfl:=oi hj
   exact⟨rfl,aj,j.sp 27 [10,5,12,13,14,15,16,17,18,19,20,21,22,23,25,24,26]⟩
  rintro _ w ⟨bm,O,rfl,j⟩
  refine bI (aG (RC.region (RL.inc hk hm (mv (vi ((bg+1:Nat):Int)) (RL.nil ?_)))))
  obtain rfl:=oi hb
  exact⟨rfl,bb,bm,j.sp 17 [0,1,2,3,4,5,6,7,8,9,10,11,12,13,15,14,16]⟩
 rintro _ w ⟨bh,O,rfl,j⟩
 refine aG (RC.sr (mv bh (mv (vp ab 0) (mv v1 ?_))))
 have j:=(((((((((j.tH bQ).dup 14 rfl).dup 14 rfl).dup 11 rfl).dup 11 rfl).dup 10 rfl).dup 10 rfl).dup 10 rfl).dup 10 rfl).pull 10
 obtain⟨ct,cn,hb⟩:=bd hb
 refine RL.call zt zr K4 [(vp ab 0),v1,(.slice none 0 0)] zr (aF (rT N (i1:=1) (i2:=0) j zr zr cn) ?_)
 rintro b4 w j
 refine aK bh (aK b4 (aK (vi 0) (RL.nt (RC.ret ?_))))
 obtain rfl:=oi hb
 exact Hs zr zr zr zr ⟨bh,b4,zr,j.pk 19 [18,0]⟩
theorem qQ {p0:gS} {p1: (List Test)} {res: (List bQ)×Int} (j:Holds E w V) (h0:V[i0]? =some (rd v0 p0)) (h1:V[i1]? =some (rd v1 p1)) (o:ld N p0 p1 p2=some res):
    Calls bE 16 [v0,v1,(vi p2)].toArray w (gF (xZ E V res)):=by
 unfold ld at o
 refine enter Tryz.func16 zr zr ?_
 have j:=(j.dup (i0+0) h0).dup (i1+1) h1
 refine RC.sr (RL.dB 1 v0 j zr fun a6 w j=>?_)
 refine aK (.slice none 0 0) (aK (vi 0) (RL.ns (RL.aQ (f:=(fun x=>x)) 0 j zr Fd.self oN fun ax j=>(mv v1 (mv (vi p2) ?_)))))
 obtain⟨aa,ay,o⟩:=bd o
 refine RL.call zt zr K5 [ax,v1,(vi p2)] zr (aF (pU N (p2:=p2) (i0:=0) (i1:=2) j zr zr ay) ?_)
 rintro _ w ⟨ab,ai,rfl,j⟩
 refine mv (.tuple #[ab,ai,(vi aa.2.2)]) (RL.extract ab (RL.extract ai (RL.extract (vi aa.2.2) (aK ab (aK ai (aK (vi aa.2.2) (RL.nq (RC.sr ?_))))))))
 refine mv (vi aa.2.2) (ic aa.2.2 0 (RL.nt (eI o (fun hc o=>?_) fun hc o=>?_)))
 ·refine RC.sr (mv (vi aa.2.2) (aK (.slice none 0 0) (aK (vi aa.2.2) (RL.nt (RC.rt ?_)))))
  obtain rfl:=oi o
  have j:=j.cT bQ 43
  exact j9 ⟨(.slice none 0 0),zr,j.pk 7 [0]⟩
 refine RC.sx (aK (.slice none 0 0) (RL.nq (RC.sr (mv ab (RL.eH 0 aa.1 j Ge (mv (vi 0) (RL.nt ?_)))))))
 obtain⟨ad,hN,o⟩:=bd o
 refine RC.fold (fun(ag:Nat) (ad: (List Bool)×(List bQ)) U w=>∃ao aq:Value,SH E V [(9,ao),(11,aq),(25,ab),(26,vi aa.1.length),(27,vi ag)] [own 89 ab aa.1,rd ao ad.1,own 43 aq ad.2] U w) (fun(ad: (List Bool)×(List bQ)) U w=>∃af:Value,SH E V [(11,af)] [own 89 ab aa.1,own 43 af ad.2] U w) hN ?_ ?_ ?_ ?_
 ·have j:=(j.freeze 1).cT bQ 43
  exact⟨ai,(.slice none 0 0),j.sp 7 [1,2,0]⟩
 ·rintro hm ad _ w ⟨a7,a0,O,rfl,j⟩
  refine RC.sr (ic ((aa.1.length:Int)) ((aa.1.length:Int)) (RL.nq (RC.cH lD (RC.ex ?_))))
  exact⟨rfl,a0,j.sp 3 [0,2]⟩
 ·rintro hm ag ad s' _ w hk ⟨ah,av,O,rfl,j⟩ o
  refine RC.sr (ic ((ag:Int)) ((aa.1.length:Int)) (RL.nq (RC.cG (lC hk) (RC.ss (RC.bs ?_)))))
  obtain⟨a1,al,o⟩:=bd o
  refine RL.bG 0 j zr zr Gc al (RL.iD (f:=(fun x=>x)) 0 j (iX 0 j al 0) (aU al).2.1 Fd.self B4 fun a8 j=>?_)
  refine RL.alloc j Gd.z fun a9 w j=>?_
  refine RL.bA 0 j 1 zr B4 fun w j=>?_
  refine RL.ns (RL.bB zr AF (RL.aQ 0 j zr lU HS fun a2 j=>(mv ah ?_)))
  obtain⟨ba,a3,o⟩:=bd o
  refine RL.call zt zr Mv [a2,ah] zr (aF (rU N (i0:=0) (i1:=4) j zr zr a3) ?_)
  rintro _ w ⟨rfl,j⟩
  refine RL.nt ?_
  obtain⟨an,hj,o⟩:=bd o
  refine RC.jn (fun(an: (List bQ)) U w=>∃aj:Value,SH E V [(9,ah),(11,aj),(25,ab),(26,vi aa.1.length),(27,vi ag)] [rd ah ad.1,own 89 ab aa.1,own 43 aj an] U w) an ?_ ?_
  ·refine eI hj (fun hc hj=>?_) fun hc hj=>?_
   rotate_left
   ·refine RC.skip ?_
    obtain rfl:=oi hj
    exact⟨rfl,av,j.sp 6 [4,3,5]⟩
   refine RC.region (mv av (RL.bB zr Js (RL.aQ 1 j zr w3 rC fun a4 j=>(RL.eE ([a1.CU]: (List bQ)) j [a4] w7 B0 (fun M hs g=>⟨(g.sat 0 _ zr).1,zt⟩) fun bb w j=>?_))))
   have j:=j.freeze 0
   obtain⟨bc,a5,hj⟩:=bd hj
   refine RL.app 7 0 j Jo a5 fun aw w j=>?_
   refine aK aw (RL.nil ?_)
   obtain rfl:=oi hj
   exact⟨rfl,aw,j.sp 8 [6,5,7]⟩
  rintro _ w ⟨aj,O,rfl,j⟩
  refine bI (aG (RC.region (RL.inc hk hm (mv (vi ((ag+1:Nat):Int)) (RL.nil ?_)))))
  obtain rfl:=oi o
  exact⟨rfl,ah,aj,j.sp 3 [1,0,2]⟩
 rintro _ w ⟨af,O,rfl,j⟩
 refine aG (RC.sr (mv af (aK af (aK (vi 0) (RL.nt (RC.ret ?_))))))
 obtain rfl:=oi o
 exact j9 ⟨af,zr,j.pk 2 [1]⟩
end Go.Gk
namespace Go.Gk
open Go Go.Proofs
variable (N:Nat) {E w:World} {i0 i1:Nat} {p2 res:Int} {v0 v1:Value} {V:List HP}
def ra (E:World) (V:List HP) (v0:Value) (res: (List Test)) (v:Value) (w:World):Prop:=v = .tuple #[]/\Holds E w ([own 53 v0 res]++V)
theorem qz {p0: (List Test)} {res: (List Test)} (j:Holds E w (own 53 v0 p0::V)) (hb:iz N p0=some res):
    Calls bE 34 [v0].toArray w (gF (ra E V v0 res)):=by
 unfold iz at hb
 refine enter Tryz.func34 zr zr (RC.sr (mv v0 (RL.eH 0 p0 j uW (RL.i6 (p0.length:Int) 1 (aK (vi 0) (aK (vi (IntKind.wrap .i64 ((p0.length:Int) - 1))) (RL.nt ?_)))))))
 obtain⟨ai,hN,hb⟩:=bd hb
 refine RC.iter (fun(o: (List Test)×Int×Int)=>SH E V [(0,v0),(2,vi o.2.1),(3,vi o.2.2)] [own 53 v0 o.1]) (fun(o: (List Test)×Int×Int)=>SH E V [(0,v0)] [own 53 v0 o.1]) (fun(r:Empty) _ _=>r.elim) hN ?_ ?_ ?_ ?_
 ·exact j.sp 1 [0]
 ·rintro o fl _ w ⟨O,rfl,j⟩ hb
  refine RC.seq (RC.sr (mv (vi o.2.1) (mv (vi o.2.2) (ic o.2.1 o.2.2 (RL.nt (eI hb (fun hc hb=>?_) fun hc hb=>?_))))))
  rotate_left
  ·refine RC.ex ?_
   obtain rfl:=oi hb
   exact⟨rfl,j.sp 1 [0]⟩
  refine RC.ss (RC.block (RC.xM mixed [0,0,1,1,0,0,0,0,0,0,0,0,0,2,0,2] [0,1,2,3,4,5,6,7,8,9,10,11,12,13,14,15] ?_))
  have j:=j.drew
  refine DP.e0 zr (mv v0 (cB zr (mv (vi o.2.1) (DP.d0 (DP.e1 v0 zr (fun w=>RL.move v0 zt DP.d1) (DP.e1 (vi o.2.2) zr (fun w=>RL.move (vi o.2.2) zt DP.d1) (DP.e0 zr (mv v0 ?_))))))))
  refine cB zr (mv (vi o.2.2) (cB zr ?_))
  obtain⟨ak,ab,hb⟩:=bd hb
  refine RL.bG 0 j zr zr tO ab (cB zr (RL.iD (f:=(fun x=>x)) 0 j (iX 0 j ab 0) (aU ab).2.1 Fd.self pq fun al j=>?_))
  refine cB zr (mv v0 (cB zr (mv (vi o.2.1) (cB zr ?_))))
  obtain⟨an,ad,hb⟩:=bd hb
  refine RL.bG 1 j zr zr tO ad (cB zr (RL.iD (f:=(fun x=>x)) 1 j (iX 1 j ad 0) (aU ad).2.1 Fd.self pq fun ao j=>?_))
  refine cB zr ?_
  obtain⟨aq,ae,hb⟩:=bd hb
  refine RL.bG 2 j zr zr tO ae (tL zr (RL.fA (f:=(fun _ y=>y)) 2 1 j (iX 2 j ae 0) (aU ae).2.1 zr Fs.self pq fun w j=>?_))
  refine xN zr ?_
  obtain⟨ar,af,hb⟩:=bd hb
  refine RL.bG 2 j zr zr tO af (tL zr (RL.fA (f:=(fun _ y=>y)) 2 0 j (iX 2 j af 0) (aU af).2.1 zr Fs.self pq fun w j=>?_))
  refine DP.d2 zt (DP.z (bI (aG (RC.region (mv (vi o.2.1) (RL.i6 o.2.1 1 (mv (vi o.2.2) (RL.i6 o.2.2 1 ?_))))))))
  refine aK (vi (IntKind.wrap .i64 (o.2.1+1))) (aK (vi (IntKind.wrap .i64 (o.2.2 - 1))) (RL.nil ?_))
  obtain rfl:=oi hb
  exact⟨rfl,j.sp 3 [2]⟩
 ·intro r _ _ _ _
  exact r.elim
 rintro o _ w rfl ⟨O,rfl,j⟩
 rw [Fo.fB] at hb
 obtain rfl:=oi hb
 refine xz ?_
 exact Ep ⟨rfl,j.pk 1 [0]⟩
def AN (E:World) (V:List HP) (res: (List Test)×Int) (v:Value) (w:World):Prop:=∃u0:Value,v = .tuple #[u0,(vi res.2)]/\Holds E w ([own 53 u0 res.1]++V)
theorem tw {p0:gS} {p1: (List Test)} {res: (List Test)×Int} (j:Holds E w V) (h0:V[i0]? =some (rd v0 p0)) (h1:V[i1]? =some (rd v1 p1)) (o:kK N p0 p1 p2=some res):
    Calls bE 15 [v0,v1,(vi p2)].toArray w (gF (AN E V res)):=by
 unfold kK at o
 refine enter Tryz.func15 zr zr ?_
 have j:=(j.dup (i0+0) h0).dup (i1+1) h1
 refine RC.sr (RL.dB 1 v0 j zr fun ca w j=>?_)
 refine aK (.slice none 0 0) (aK (vi 0) (RL.ns (RL.aQ (f:=(fun x=>x)) 0 j zr Fd.self oN fun bw j=>(mv v1 (mv (vi p2) ?_)))))
 obtain⟨aa,bz,o⟩:=bd o
 refine RL.call zt zr K5 [bw,v1,(vi p2)] zr (aF (pU N (p2:=p2) (i0:=0) (i1:=2) j zr zr bz) ?_)
 rintro _ w ⟨ab,af,rfl,j⟩
 refine mv (.tuple #[ab,af,(vi aa.2.2)]) (RL.extract ab (RL.extract af (RL.extract (vi aa.2.2) (aK ab (aK af (aK (vi aa.2.2) (RL.nq (RC.sr ?_))))))))
 refine mv (vi aa.2.2) (ic aa.2.2 0 (RL.nt (eI o (fun hc o=>?_) fun hc o=>?_)))
 ·refine RC.sr (mv (vi aa.2.2) (aK (.slice none 0 0) (aK (vi aa.2.2) (RL.nt (RC.rt ?_)))))
  obtain rfl:=oi o
  have j:=j.cT Test 53
  exact j9 ⟨(.slice none 0 0),zr,j.pk 7 [0]⟩
 refine RC.sx (mv ab (RL.eH 0 aa.1 j Ge ?_))
 obtain⟨cb,b0,o⟩:=bd o
 refine RL.mk (aa.1.length:Int) j tM Ji b0 fun ag w j=>?_
 refine aK ag (RL.nq (RC.sr (mv ab (RL.eH 1 aa.1 j Ge (mv (vi 0) (RL.nt ?_))))))
 obtain⟨ay,hN,o⟩:=bd o
 refine RC.fold (fun(ak:Nat) (ay: (List Int))=>SH E V [(1,v1),(8,ab),(9,af),(11,ag),(36,ab),(37,vi aa.1.length),(38,vi ak)] [rd v1 p1,own 89 ab aa.1,own 4 af aa.2.1,own 3 ag ay]) (fun(ay: (List Int))=>SH E V [(1,v1),(8,ab),(9,af),(11,ag)] [rd v1 p1,own 89 ab aa.1,own 4 af aa.2.1,own 3 ag ay]) hN ?_ ?_ ?_ ?_
 ·exact j.sp 7 [5,1,2,0]
 ·rintro hm ay _ w ⟨O,rfl,j⟩
  refine RC.sr (ic ((aa.1.length:Int)) ((aa.1.length:Int)) (RL.nq (RC.cH lD (RC.ex ?_))))
  exact⟨rfl,j.sp 4 [0,1,2,3]⟩
 ·rintro hm ak ay s' _ w hk ⟨O,rfl,j⟩ o
  refine RC.sr (ic ((ak:Int)) ((aa.1.length:Int)) (RL.nq (RC.cG (lC hk) (RC.ss (RC.bs (mv (vi ak) ?_))))))
  obtain⟨a3,a4,o⟩:=bd o
  refine RL.bG 1 j zr zr Gc a4 (RL.iD (f:=(fun x=>x)) 1 j (iX 1 j a4 0) (aU a4).2.1 Fd.self B4 fun cc j=>?_)
  refine RL.alloc j Gd.z fun a1 w j=>?_
  refine aK (vi ak) (RL.bA 0 j 1 zr B4 fun w j=>?_)
  refine RL.ns (mv v1 (RL.bC 2 p1 j uW (mv (vi 0) (RL.nt ?_))))
  obtain⟨az,hN,o⟩:=bd o
  refine RC.fold (fun(ar:Nat) (az: (List Int))=>SH E V [(1,v1),(8,ab),(9,af),(11,ag),(12,vi ak),(13,vp a1 0),(36,ab),(37,vi aa.1.length),(38,vi ak),(44,vi p1.length),(45,vi ar)] [rd v1 p1,own 89 ab aa.1,own 4 af aa.2.1,own 3 ag az,bx 89 a1 a3]) (fun(az: (List Int))=>SH E V [(1,v1),(8,ab),(9,af),(11,ag),(36,ab),(37,vi aa.1.length),(38,vi ak)] [rd v1 p1,own 89 ab aa.1,own 4 af aa.2.1,own 3 ag az,bx 89 a1 a3]) hN ?_ ?_ ?_ ?_
  ·exact j.sp 6 [2,3,4,5,0]
  ·rintro hm az _ w ⟨O,rfl,j⟩
   refine RC.sr (ic ((p1.length:Int)) ((p1.length:Int)) (RL.nq (RC.cH lD (RC.ex ?_))))
   exact⟨rfl,j.sp 5 [0,1,2,3,4]⟩
  ·rintro hm ar az s' _ w hk ⟨O,rfl,j⟩ o
   refine RC.sr (ic ((ar:Int)) ((p1.length:Int)) (RL.nq (RC.cG (lC hk) (RC.ss (RC.bs (mv (vi ar) (aK (vi ar) (RL.nq ?_))))))))
   refine RC.uK mixed ?_
   have j:=j.drew
   refine RO.go (RL.bB zr AF (RO.nx (RL.aQ 4 j zr lU HS fun cd j=>(RO.nx (mv (vi ar) (RO.nx ?_))))))
   obtain⟨bm,b1,o⟩:=bd o
   refine RL.bW 0 j yY b1 fun cf j=>(RO.nx (RL.bH bm 0 j ux (RO.nx (mv af (RO.nx (mv (vi ar) (RO.nx ?_)))))))
   obtain⟨b2,a5,o⟩:=bd o
   refine RL.bG 4 j zr zr yY a5 (RO.nx (RL.cX (f:=(fun x=>x)) 4 j (iX 4 j a5 0) (aU a5).2.1 Fd.self ux (RO.nx (RL.uE bm b2 zr zr zr HM (RO.last (aG ?_))))))
   obtain⟨a6,hj,o⟩:=bd o
   refine RC.jn (fun(a6: (List Int))=>SH E V [(1,v1),(8,ab),(9,af),(11,ag),(12,vi ak),(13,vp a1 0),(36,ab),(37,vi aa.1.length),(38,vi ak),(44,vi p1.length),(45,vi ar)] [rd v1 p1,own 89 ab aa.1,own 4 af aa.2.1,own 3 ag a6,bx 89 a1 a3]) a6 ?_ ?_
   ·refine eI hj (fun hc hj=>?_) fun hc hj=>?_
    rotate_left
    ·refine RC.skip ?_
     obtain rfl:=oi hj
     exact⟨rfl,j.sp 7 [2,3,4,5,6]⟩
    refine RC.region (mv ag (mv (vi ak) ?_))
    obtain⟨bn,a7,hj⟩:=bd hj
    refine RL.bG 5 j zr zr dV a7 (RL.cX (f:=(fun x=>x)) 5 j (iX 5 j a7 0) (aU a7).2.1 Fd.self cN (RL.i6 bn 1 ?_))
    obtain⟨ch,a8,hj⟩:=bd hj
    refine RL.bG 5 j zr zr dV a8 ?_
    have j:=j.sc Int (IntKind.wrap .i64 (bn+1))
    refine RL.fA (f:=(fun _ y=>y)) 6 0 j (iX 6 j a8 0) (aU a8).2.1 zr Fs.self cN fun w j=>?_
    refine RL.nil ?_
    obtain rfl:=oi hj
    exact⟨rfl,j.sp 8 [3,4,5,6,7]⟩
   rintro _ w ⟨O,rfl,j⟩
   refine bI (aG (RC.region (RL.inc hk hm (mv (vi ((ar+1:Nat):Int)) (RL.nil ?_)))))
   obtain rfl:=oi o
   exact⟨rfl,j.sp 5 [0,1,2,3,4]⟩
  rintro _ w ⟨O,rfl,j⟩
  refine bI (aG (RC.region (RL.inc hk hm (mv (vi ((ak+1:Nat):Int)) (RL.nil ?_)))))
  obtain rfl:=oi o
  exact⟨rfl,j.sp 5 [0,1,2,3]⟩
 rintro _ w ⟨O,rfl,j⟩
 refine aG (RC.sr (aK (.slice none 0 0) (RL.nq (RC.sr (mv v1 (RL.bC 0 p1 j uW (RL.i6 (p1.length:Int) 1 (aK (vi (IntKind.wrap .i64 ((p1.length:Int) - 1))) ?_))))))))
 refine RL.nt ?_
 obtain⟨cj,hN,o⟩:=bd o
 refine RC.iter (fun(ad: (List Int)×(List Test)×Int) U w=>∃bo:Value,SH E V [(1,v1),(8,ab),(9,af),(11,ag),(15,bo),(16,vi ad.2.2)] [rd v1 p1,own 89 ab aa.1,own 4 af aa.2.1,own 3 ag ad.1,own 53 bo ad.2.1] U w) (fun(ad: (List Int)×(List Test)×Int) U w=>∃av:Value,SH E V [(15,av)] [rd v1 p1,own 89 ab aa.1,own 4 af aa.2.1,own 3 ag ad.1,own 53 av ad.2.1] U w) (fun(r:Empty) _ _=>r.elim) hN ?_ ?_ ?_ ?_
 ·have j:=j.cT Test 53
  exact⟨(.slice none 0 0),j.sp 5 [1,2,3,4,0]⟩
 ·rintro ad fl _ w ⟨ai,O,rfl,j⟩ o
  refine RC.seq (RC.sr (mv (vi ad.2.2) (ic ad.2.2 0 (RL.nt (eI o (fun hc o=>?_) fun hc o=>?_)))))
  rotate_left
  ·refine RC.ex ?_
   obtain rfl:=oi o
   exact⟨rfl,ai,j.sp 5 [0,1,2,3,4]⟩
  refine RC.ss (RC.bs (aK (vb false) (RL.nq (RC.sr (mv ab (RL.eH 1 aa.1 j Ge (mv (vi 0) (RL.nt ?_))))))))
  obtain⟨au,hN,o⟩:=bd o
  refine RC.fold (fun(aw:Nat) (au:Bool)=>SH E V [(1,v1),(8,ab),(9,af),(11,ag),(15,ai),(16,vi ad.2.2),(17,vb au),(73,ab),(74,vi aa.1.length),(75,vi aw)] [rd v1 p1,own 89 ab aa.1,own 4 af aa.2.1,own 3 ag ad.1,own 53 ai ad.2.1]) (fun(au:Bool)=>SH E V [(1,v1),(8,ab),(9,af),(11,ag),(15,ai),(16,vi ad.2.2),(17,vb au)] [rd v1 p1,own 89 ab aa.1,own 4 af aa.2.1,own 3 ag ad.1,own 53 ai ad.2.1]) hN ?_ ?_ ?_ ?_
  ·exact j.sp 5 [0,1,2,3,4]
  ·rintro hm au _ w ⟨O,rfl,j⟩
   refine RC.sr (ic ((aa.1.length:Int)) ((aa.1.length:Int)) (RL.nq (RC.cH lD (RC.ex ?_))))
   exact⟨rfl,j.sp 5 [0,1,2,3,4]⟩
  ·rintro hm aw au s' _ w hk ⟨O,rfl,j⟩ o
   refine RC.sr (ic ((aw:Int)) ((aa.1.length:Int)) (RL.nq (RC.cG (lC hk) (RC.ss (RC.bs (mv (vi aw) ?_))))))
   obtain⟨cl,a9,o⟩:=bd o
   refine RL.bG 1 j zr zr Gc a9 (RL.iD (f:=(fun x=>x)) 1 j (iX 1 j a9 0) (aU a9).2.1 Fd.self B4 fun cm j=>?_)
   refine RL.alloc j Gd.z fun cn w j=>?_
   refine aK (vi aw) (RL.bA 0 j 1 zr B4 fun w j=>?_)
   refine RL.nt ?_
   obtain⟨ba,hj,o⟩:=bd o
   refine RC.jn (fun(ba:Bool)=>SH E V [(1,v1),(8,ab),(9,af),(11,ag),(15,ai),(16,vi ad.2.2),(17,vb ba),(73,ab),(74,vi aa.1.length),(75,vi aw)] [rd v1 p1,own 89 ab aa.1,own 4 af aa.2.1,own 3 ag ad.1,own 53 ai ad.2.1]) ba ?_ ?_
   ·refine RC.uK mixed ?_
    have j:=j.drew
    refine RO.go (mv (vb au) (RO.nx (mv (vb au) (fU hj (fun ah hj=>?_) fun ah hj=>?_))))
    ·refine RO.nx (bN ah (RO.nx (bN ah (RO.nx (bN ah (RO.nx (bN ah (RO.nx ?_))))))))
     refine bN ah (RO.nx (bN ah (RO.nx (bN ah (RO.nx (bN ah (RO.nx (bN ah ?_))))))))
     refine RO.nx (bN ah (RO.nx (bN ah (RO.nx (xl (RO.nx (xl (RO.nx ?_))))))))
     refine xl (RO.nx (xl (RO.nx (xl (RO.nx (bN ah (RO.nx (fP ah (vb true) ?_))))))))
     refine RO.nx (aK (vb true) (RO.last ?_))
     obtain rfl:=oi hj
     exact⟨rfl,j.sp 7 [2,3,4,5,6]⟩
    refine RO.nx (RL.bB (hg:=(cg ah)) zr AF (RO.nx (RL.aQ (hg:=(cg ah)) 0 j zr lU HS fun cp j=>(RO.nx (RL.move (vi ad.2.2) (cg ah) (RO.nx ?_))))))
    obtain⟨bb,b3,hj⟩:=bd hj
    refine RL.bW (hg:=(cg ah)) 0 j yY b3 fun cq j=>(RO.nx (RL.bH (hg:=(cg ah)) bb 0 j ux (RO.nx (RL.move af (cg ah) (RO.nx (RL.move (vi ad.2.2) (cg ah) (RO.nx ?_)))))))
    obtain⟨bp,bc,hj⟩:=bd hj
    refine RL.bG (hg:=(cg ah)) 6 j zr zr yY bc (RO.nx (RL.cX (hg:=(cg ah)) (f:=(fun x=>x)) 6 j (iX 6 j bc 0) (aU bc).2.1 Fd.self ux (RO.nx (RL.uE (hg:=(cg ah)) bb bp zr zr zr HM (RO.nx (RL.move (vb (bb != bp)) (cg ah) (fU hj (fun aj hj=>?_) fun aj hj=>?_)))))))
    rotate_left
    ·refine RO.nx (bN aj (RO.nx (bN aj (RO.nx (bN aj (RO.nx (bN aj (RO.nx ?_))))))))
     refine bN aj (RO.nx (fP aj (vb false) (hg:=(cg ah)) (RO.nx (fP ah (vb false) (RO.nx (aK (vb false) (RO.last ?_)))))))
     obtain rfl:=oi hj
     exact⟨rfl,j.sp 9 [4,5,6,7,8]⟩
    refine RO.nx (RL.move ag (cg aj) (RO.nx (RL.move (vi aw) (cg aj) (RO.nx ?_))))
    obtain⟨a2,bf,hj⟩:=bd hj
    refine RL.bG (hg:=(cg aj)) 7 j zr zr dV bf (RO.nx (RL.cX (hg:=(cg aj)) (f:=(fun x=>x)) 7 j (iX 7 j bf 0) (aU bf).2.1 Fd.self cN (RO.nx (RL.jO a2 1 (cg aj) (RO.nx (fP aj (vb (a2==1)) (hg:=(cg ah)) (RO.nx (fP ah (vb (a2==1)) ?_))))))))
    refine RO.nx (aK (vb (a2==1)) (RO.last ?_))
    obtain rfl:=oi hj
    exact⟨rfl,j.sp 9 [4,5,6,7,8]⟩
   rintro _ w ⟨O,rfl,j⟩
   refine bI (aG (RC.region (RL.inc hk hm (mv (vi ((aw+1:Nat):Int)) (RL.nil ?_)))))
   obtain rfl:=oi o
   exact⟨rfl,j.sp 5 [0,1,2,3,4]⟩
  rintro _ w ⟨O,rfl,j⟩
  refine aG (RC.seq (RC.sr (mv (vb au) (RL.nt (eI o (fun hc o=>?_) fun hc o=>?_)))))
  ·refine RC.sr (mv ai (mv v1 (mv (vi ad.2.2) ?_)))
   obtain⟨bq,b4,o⟩:=bd o
   refine RL.bW 0 j tO b4 fun cr j=>(RL.bL 0 bq j pq fun b5 j=>(RL.eE ([bq]: (List Test)) j [b5] tO HQ (fun M hs g=>⟨(g.sat 0 _ zr).1,zt⟩) fun ct w j=>?_))
   have j:=j.freeze 0
   obtain⟨cu,b6,o⟩:=bd o
   refine RL.app 7 0 j Mz b6 fun br w j=>?_
   refine aK br (RL.nt (RC.ex (Fx (aG (RC.region (mv (vi ad.2.2) (RL.i6 ad.2.2 1 (aK (vi (IntKind.wrap .i64 (ad.2.2 - 1))) ?_))))))))
   refine RL.nil ?_
   obtain rfl:=oi o
   exact⟨rfl,br,j.sp 8 [3,4,5,6,7]⟩
  refine RC.sx (mv ab (RL.eH 1 aa.1 j Ge (mv (vi 0) (RL.nt ?_))))
  obtain⟨a0,hN,o⟩:=bd o
  refine RC.fold (fun(ax:Nat) (a0: (List Int))=>SH E V [(1,v1),(8,ab),(9,af),(11,ag),(15,ai),(16,vi ad.2.2),(109,ab),(110,vi aa.1.length),(111,vi ax)] [rd v1 p1,own 89 ab aa.1,own 4 af aa.2.1,own 3 ag a0,own 53 ai ad.2.1]) (fun(a0: (List Int))=>SH E V [(1,v1),(8,ab),(9,af),(11,ag),(15,ai),(16,vi ad.2.2)] [rd v1 p1,own 89 ab aa.1,own 4 af aa.2.1,own 3 ag a0,own 53 ai ad.2.1]) hN ?_ ?_ ?_ ?_
  ·exact j.sp 5 [0,1,2,3,4]
  ·rintro hm a0 _ w ⟨O,rfl,j⟩
   refine RC.sr (ic ((aa.1.length:Int)) ((aa.1.length:Int)) (RL.nq (RC.cH lD (RC.ex ?_))))
   exact⟨rfl,j.sp 5 [0,1,2,3,4]⟩
  ·rintro hm ax a0 s' _ w hk ⟨O,rfl,j⟩ o
   refine RC.sr (ic ((ax:Int)) ((aa.1.length:Int)) (RL.nq (RC.cG (lC hk) (RC.ss (RC.bs (mv (vi ax) ?_))))))
   obtain⟨cv,bg,o⟩:=bd o
   refine RL.bG 1 j zr zr Gc bg (RL.iD (f:=(fun x=>x)) 1 j (iX 1 j bg 0) (aU bg).2.1 Fd.self B4 fun cw j=>?_)
   refine RL.alloc j Gd.z fun cx w j=>?_
   refine aK (vi ax) (RL.bA 0 j 1 zr B4 fun w j=>?_)
   refine RL.nq (RC.uK mixed ?_)
   have j:=j.drew
   refine RO.go (RL.bB zr AF (RO.nx (RL.aQ 0 j zr lU HS fun cy j=>(RO.nx (mv (vi ad.2.2) (RO.nx ?_))))))
   obtain⟨bt,b7,o⟩:=bd o
   refine RL.bW 0 j yY b7 fun cz j=>(RO.nx (RL.bH bt 0 j ux (RO.nx (mv af (RO.nx (mv (vi ad.2.2) (RO.nx ?_)))))))
   obtain⟨b8,bh,o⟩:=bd o
   refine RL.bG 6 j zr zr yY bh (RO.nx (RL.cX (f:=(fun x=>x)) 6 j (iX 6 j bh 0) (aU bh).2.1 Fd.self ux (RO.nx (RL.uE bt b8 zr zr zr HM (RO.last (aG ?_))))))
   obtain⟨bj,hj,o⟩:=bd o
   refine RC.jn (fun(bj: (List Int))=>SH E V [(1,v1),(8,ab),(9,af),(11,ag),(15,ai),(16,vi ad.2.2),(109,ab),(110,vi aa.1.length),(111,vi ax)] [rd v1 p1,own 89 ab aa.1,own 4 af aa.2.1,own 3 ag bj,own 53 ai ad.2.1]) bj ?_ ?_
   ·refine eI hj (fun hc hj=>?_) fun hc hj=>?_
    rotate_left
    ·refine RC.skip ?_
     obtain rfl:=oi hj
     exact⟨rfl,j.sp 9 [4,5,6,7,8]⟩
    refine RC.region (mv ag (mv (vi ax) ?_))
    obtain⟨bu,bk,hj⟩:=bd hj
    refine RL.bG 7 j zr zr dV bk (RL.cX (f:=(fun x=>x)) 7 j (iX 7 j bk 0) (aU bk).2.1 Fd.self cN (RL.i6 bu 1 ?_))
    obtain⟨c0,bl,hj⟩:=bd hj
    refine RL.bG 7 j zr zr dV bl ?_
    have j:=j.sc Int (IntKind.wrap .i64 (bu - 1))
    refine RL.fA (f:=(fun _ y=>y)) 8 0 j (iX 8 j bl 0) (aU bl).2.1 zr Fs.self cN fun w j=>?_
    refine RL.nil ?_
    obtain rfl:=oi hj
    exact⟨rfl,j.sp 10 [5,6,7,8,9]⟩
   rintro _ w ⟨O,rfl,j⟩
   refine bI (aG (RC.region (RL.inc hk hm (mv (vi ((ax+1:Nat):Int)) (RL.nil ?_)))))
   obtain rfl:=oi o
   exact⟨rfl,j.sp 5 [0,1,2,3,4]⟩
  rintro _ w ⟨O,rfl,j⟩
  refine bI (aG (RC.region (mv (vi ad.2.2) (RL.i6 ad.2.2 1 (aK (vi (IntKind.wrap .i64 (ad.2.2 - 1))) (RL.nil ?_))))))
  obtain rfl:=oi o
  exact⟨rfl,ai,j.sp 5 [0,1,2,3,4]⟩
 ·intro r _ _ _ _
  exact r.elim
 rintro ad _ w rfl ⟨av,O,rfl,j⟩
 rw [Fo.fB] at o
 refine aG (RC.sr (mv av ?_))
 have j:=j.pull 4
 obtain⟨c1,b9,o⟩:=bd o
 refine RL.call zt zr MA [av] zr (aF (qz N j b9) ?_)
 rintro _ w ⟨rfl,j⟩
 refine RL.ns (mv av (aK av (aK (vi 0) (RL.nt (RC.ret ?_)))))
 obtain rfl:=oi o
 exact j9 ⟨av,zr,j.pk 6 [0]⟩
def tj (E:World) (V:List HP) (r:Int) (U:Nat->Value) (w:World):Prop:=ly bE 19 Tryz.f35 (aN E V r) .ret U w
theorem rV {p0: (List Test)} {p1:Test} (j:Holds E w V) (h0:V[i0]? =some (rd v0 p0)) (h1:V[i1]? =some (rd v1 p1)) (o:mx N p0 p1=some res):
    Calls bE 35 [v0,v1].toArray w (gF (aN E V res)):=by
 unfold mx at o
 refine enter Tryz.func35 zr zr ?_
 have j:=(j.dup (i0+0) h0).dup (i1+1) h1
 refine RC.sr (RL.dB 0 v1 j zr fun ad w j=>?_)
 refine aK (vi 0) (RL.nq (RC.sr (mv v0 (RL.bC 2 p0 j uW (mv (vi 0) (RL.nt ?_))))))
 obtain⟨al,hN,o⟩:=bd o
 refine RC.range (fun(aa:Nat) (ab:Unit)=>SH E V [(0,v0),(3,vp ad 0),(7,vi p0.length),(8,vi aa)] [rd v0 p0,bx 53 ad p1]) (fun(ab:Unit)=>SH E V [] [rd v0 p0,bx 53 ad p1]) (tj E V) hN ?_ ?_ ?_ ?_ ?_
 ·exact j.sp 3 [2,0]
 ·rintro hm ab _ w ⟨O,rfl,j⟩
  refine RC.sr (ic ((p0.length:Int)) ((p0.length:Int)) (RL.nq (RC.cH lD (RC.ex ?_))))
  exact⟨rfl,j.sp 2 [0,1]⟩
 ·rintro hm aa ab fl _ w hk ⟨O,rfl,j⟩ o
  refine RC.sr (ic ((aa:Int)) ((p0.length:Int)) (RL.nq (RC.cG (lC hk) (RC.ss (RC.bs (mv (vi aa) (aK (vi aa) (RL.nq ?_))))))))
  refine RC.uK mixed ?_
  have j:=j.drew
  refine RO.go (RL.aQ (f:=(fun x=>x)) 1 j zr Fd.self pq fun ao j=>(RO.nx (mv v0 (RO.nx (mv (vi aa) (RO.nx ?_))))))
  obtain⟨ag,ai,o⟩:=bd o
  refine RL.bW 1 j tO ai fun aq j=>(RO.nx (RL.bL 0 ag j pq fun ar j=>(RO.nx (RL.seq 2 0 p1 ag zt zr j zr zr zr zr IH zr (RO.last (aG (eI o (fun hc o=>?_) fun hc o=>?_)))))))
  rotate_left
  ·refine RC.skip (bI (aG (RC.region (RL.inc hk hm (mv (vi ((aa+1:Nat):Int)) (RL.nil ?_))))))
   obtain rfl:=oi o
   exact⟨rfl,j.sp 5 [3,4]⟩
  refine RC.sr (mv (vi aa) (aK (vi aa) (RL.nt (RC.rb (bM ?_)))))
  obtain rfl:=oi o
  exact⟨rfl,cF ⟨rfl,j.drop 5⟩⟩
 ·intro r U w e hK
  subst e
  refine bM ?_
  obtain rfl:=oi o
  exact hK
 rintro ab _ w rfl ⟨O,rfl,j⟩
 rw [Fo.fB] at o
 refine aG (RC.sr (aK (vi (-1)) (RL.nt (RC.ret ?_))))
 obtain rfl:=oi o
 exact cF ⟨rfl,j.drop 2⟩
theorem pV {p0: (List Test)} {p1:Test} {res:Bool} (j:Holds E w V) (h0:V[i0]? =some (rd v0 p0)) (h1:V[i1]? =some (rd v1 p1)) (o:gY N p0 p1=some res):
    Calls bE 17 [v0,v1].toArray w (gF (aY E V res)):=by
 unfold gY at o
 refine enter Tryz.func17 zr zr ?_
 have j:=(j.dup (i0+0) h0).dup (i1+1) h1
 refine RC.sr (RL.dB 0 v1 j zr fun ae w j=>?_)
 refine aK (vb false) (RL.ns (mv v0 (RL.aQ (f:=(fun x=>x)) 0 j zr Fd.self pq fun ab j=>?_)))
 obtain⟨aa,ad,o⟩:=bd o
 refine RL.call zt zr MB [v0,ab] zr (aF (rV N (i0:=3) (i1:=0) j zr zr ad) ?_)
 rintro _ w ⟨rfl,j⟩
 refine ic aa 0 (aK (vb (decide (aa>=0))) (RL.nt (RC.ret ?_)))
 obtain rfl:=oi o
 exact cF ⟨rfl,j.drop 4⟩
def tk (E:World) (V:List HP) (r:Bool) (U:Nat->Value) (w:World):Prop:=ly bE 26 Tryz.f18 (aY E V r) .ret U w
theorem rW {p0: (List bQ)} {p1: (List bQ)} {res:Bool} (j:Holds E w V) (h0:V[i0]? =some (rd v0 p0)) (h1:V[i1]? =some (rd v1 p1)) (o:ko N p0 p1=some res):
    Calls bE 18 [v0,v1].toArray w (gF (aY E V res)):=by
 unfold ko at o
 refine enter Tryz.func18 zr zr ?_
 have j:=(j.dup (i0+0) h0).dup (i1+1) h1
 refine RC.sr (aK (vb false) (RL.nq (RC.sr (mv v0 (RL.bC 1 p0 j yX (mv v1 (RL.bC 0 p1 j yX (ic ((p0.length:Int)) ((p1.length:Int)) ?_))))))))
 refine RL.nt (eI o (fun hc o=>?_) fun hc o=>?_)
 ·refine RC.sr (aK (vb false) (RL.nt (RC.rt ?_)))
  obtain rfl:=oi o
  exact cF ⟨rfl,j.drop 2⟩
 refine RC.ss (RC.sr (mv v0 (RL.bC 1 p0 j yX (mv (vi 0) (RL.nt ?_)))))
 obtain⟨an,hN,o⟩:=bd o
 refine RC.range (fun(aa:Nat) (ab:Unit)=>SH E V [(0,v0),(1,v1),(12,vi p0.length),(13,vi aa)] [rd v0 p0,rd v1 p1]) (fun(ab:Unit)=>SH E V [] [rd v0 p0,rd v1 p1]) (tk E V) hN ?_ ?_ ?_ ?_ ?_
 ·exact j.sp 2 [1,0]
 ·rintro hm ab _ w ⟨O,rfl,j⟩
  refine RC.sr (ic ((p0.length:Int)) ((p0.length:Int)) (RL.nq (RC.cH lD (RC.ex ?_))))
  exact⟨rfl,j.sp 2 [0,1]⟩
 ·rintro hm aa ab fl _ w hk ⟨O,rfl,j⟩ o
  refine RC.sr (ic ((aa:Int)) ((p0.length:Int)) (RL.nq (RC.cG (lC hk) (RC.ss (RC.bs (mv (vi aa) (aK (vi aa) (RL.nq ?_))))))))
  refine RC.uK mixed ?_
  have j:=j.drew
  refine RO.go (mv v0 (RO.nx (mv (vi aa) (RO.nx ?_))))
  obtain⟨ag,aj,o⟩:=bd o
  refine RL.bW 0 j w7 aj fun aq j=>(RO.nx (RL.bL 0 ag j rC fun ar j=>(RO.nx (mv v1 (RO.nx (mv (vi aa) (RO.nx ?_)))))))
  obtain⟨ah,ak,o⟩:=bd o
  refine RL.bW 3 j w7 ak fun au j=>(RO.nx (RL.bL 0 ah j rC fun av j=>(RO.nx (RL.Ly 2 0 ag ah zt zr j zr zr zr zr IG zr (RO.last (aG (eI o (fun hc o=>?_) fun hc o=>?_)))))))
  rotate_left
  ·refine RC.skip (bI (aG (RC.region (RL.inc hk hm (mv (vi ((aa+1:Nat):Int)) (RL.nil ?_))))))
   obtain rfl:=oi o
   exact⟨rfl,j.sp 6 [4,5]⟩
  refine RC.sr (aK (vb false) (RL.nt (RC.rb (bM ?_))))
  obtain rfl:=oi o
  exact⟨rfl,cF ⟨rfl,j.drop 6⟩⟩
 ·intro r U w e hK
  subst e
  refine bM ?_
  obtain rfl:=oi o
  exact hK
 rintro ab _ w rfl ⟨O,rfl,j⟩
 rw [Fo.fB] at o
 refine aG (RC.sr (aK (vb true) (RL.nt (RC.ret ?_))))
 obtain rfl:=oi o
 exact cF ⟨rfl,j.drop 2⟩
def tl (E:World) (V:List HP) (r:Bool) (U:Nat->Value) (w:World):Prop:=ly bE 26 Tryz.f19 (aY E V r) .ret U w
theorem rX {p0: (List Test)} {p1: (List Test)} {res:Bool} (j:Holds E w V) (h0:V[i0]? =some (rd v0 p0)) (h1:V[i1]? =some (rd v1 p1)) (o:kp N p0 p1=some res):
    Calls bE 19 [v0,v1].toArray w (gF (aY E V res)):=by
 unfold kp at o
 refine enter Tryz.func19 zr zr ?_
 have j:=(j.dup (i0+0) h0).dup (i1+1) h1
 refine RC.sr (aK (vb false) (RL.nq (RC.sr (mv v0 (RL.bC 1 p0 j uW (mv v1 (RL.bC 0 p1 j uW (ic ((p0.length:Int)) ((p1.length:Int)) ?_))))))))
 refine RL.nt (eI o (fun hc o=>?_) fun hc o=>?_)
 ·refine RC.sr (aK (vb false) (RL.nt (RC.rt ?_)))
  obtain rfl:=oi o
  exact cF ⟨rfl,j.drop 2⟩
 refine RC.ss (RC.sr (mv v0 (RL.bC 1 p0 j uW (mv (vi 0) (RL.nt ?_)))))
 obtain⟨an,hN,o⟩:=bd o
 refine RC.range (fun(aa:Nat) (ab:Unit)=>SH E V [(0,v0),(1,v1),(12,vi p0.length),(13,vi aa)] [rd v0 p0,rd v1 p1]) (fun(ab:Unit)=>SH E V [] [rd v0 p0,rd v1 p1]) (tl E V) hN ?_ ?_ ?_ ?_ ?_
 ·exact j.sp 2 [1,0]
 ·rintro hm ab _ w ⟨O,rfl,j⟩
  refine RC.sr (ic ((p0.length:Int)) ((p0.length:Int)) (RL.nq (RC.cH lD (RC.ex ?_))))
  exact⟨rfl,j.sp 2 [0,1]⟩
 ·rintro hm aa ab fl _ w hk ⟨O,rfl,j⟩ o
  refine RC.sr (ic ((aa:Int)) ((p0.length:Int)) (RL.nq (RC.cG (lC hk) (RC.ss (RC.bs (mv (vi aa) (aK (vi aa) (RL.nq ?_))))))))
  refine RC.uK mixed ?_
  have j:=j.drew
  refine RO.go (mv v0 (RO.nx (mv (vi aa) (RO.nx ?_))))
  obtain⟨ag,aj,o⟩:=bd o
  refine RL.bW 0 j tO aj fun aq j=>(RO.nx (RL.bL 0 ag j pq fun ar j=>(RO.nx (mv v1 (RO.nx (mv (vi aa) (RO.nx ?_)))))))
  obtain⟨ah,ak,o⟩:=bd o
  refine RL.bW 3 j tO ak fun au j=>(RO.nx (RL.bL 0 ah j pq fun av j=>(RO.nx (RL.Ly 2 0 ag ah zt zr j zr zr zr zr IH zr (RO.last (aG (eI o (fun hc o=>?_) fun hc o=>?_)))))))
  rotate_left
  ·refine RC.skip (bI (aG (RC.region (RL.inc hk hm (mv (vi ((aa+1:Nat):Int)) (RL.nil ?_))))))
   obtain rfl:=oi o
   exact⟨rfl,j.sp 6 [4,5]⟩
  refine RC.sr (aK (vb false) (RL.nt (RC.rb (bM ?_))))
  obtain rfl:=oi o
  exact⟨rfl,cF ⟨rfl,j.drop 6⟩⟩
 ·intro r U w e hK
  subst e
  refine bM ?_
  obtain rfl:=oi o
  exact hK
 rintro ab _ w rfl ⟨O,rfl,j⟩
 rw [Fo.fB] at o
 refine aG (RC.sr (aK (vb true) (RL.nt (RC.ret ?_))))
 obtain rfl:=oi o
 exact cF ⟨rfl,j.drop 2⟩
def lB (E:World) (V:List HP) (r:Bool) (U:Nat->Value) (w:World):Prop:=ly bE 87 Tryz.f4 (aY E V r) .ret U w
theorem lk {p0:gS} {p1: (List Test)} {res:Bool} (j:Holds E w V) (h0:V[i0]? =some (rd v0 p0)) (h1:V[i1]? =some (rd v1 p1)) (o:cW N p0 p1 p2=some res):
    Calls bE 4 [v0,v1,(vi p2)].toArray w (gF (aY E V res)):=by
 unfold cW at o
 refine enter Tryz.func4 zr zr ?_
 have j:=(j.dup (i0+0) h0).dup (i1+1) h1
 refine RC.sr (RL.dB 1 v0 j zr fun bm w j=>?_)
 refine aK (vb false) (RL.ns (RL.aQ (f:=(fun x=>x)) 0 j zr Fd.self oN fun a0 j=>(mv v1 (mv (vi p2) ?_))))
 obtain⟨ag,a1,o⟩:=bd o
 refine RL.call zt zr K6 [a0,v1,(vi p2)] zr (aF (tw N (p2:=p2) (i0:=0) (i1:=2) j zr zr a1) ?_)
 rintro _ w ⟨ab,rfl,j⟩
 refine mv (.tuple #[ab,(vi ag.2)]) (RL.extract ab (RL.extract (vi ag.2) (aK ab (aK (vi ag.2) (RL.nq (RC.sr (mv (vi ag.2) (ic ag.2 0 ?_))))))))
 refine RL.nt (eI o (fun hc o=>?_) fun hc o=>?_)
 ·refine RC.seq ?_
  obtain⟨av,hj,o⟩:=bd o
  refine RC.jn (fun(av:Bool)=>SH E V [(6,vb av)] []) av ?_ ?_
  ·refine RC.region (mv ab (RL.eH 0 ag.1 j uW (ic ((ag.1.length:Int)) 0 (mv (vb ((ag.1.length:Int)==0)) (fU hj (fun ar hj=>?_) fun ar hj=>?_)))))
   rotate_left
   ·refine bN ar (fP ar (vb false) (aK (vb false) (RL.nil ?_)))
    obtain rfl:=oi hj
    exact⟨rfl,j.sp 5 []⟩
   obtain⟨ax,a2,hj⟩:=bd hj
   refine RL.call (cg ar) zr K2 [] zr (aF (ma N j a2) ?_)
   rintro _ w ⟨rfl,j⟩
   refine fP ar (vb ax) (aK (vb ax) (RL.nil ?_))
   obtain rfl:=oi hj
   exact⟨rfl,j.sp 5 []⟩
  rintro _ w ⟨O,rfl,j⟩
  refine aG (RC.rt ?_)
  obtain rfl:=oi o
  exact cF ⟨rfl,j.drop 0⟩
 refine RC.sx (RL.aQ (f:=(fun x=>x)) 2 j zr Fd.self oN fun a3 j=>(mv v1 (mv (vi p2) ?_)))
 obtain⟨ad,a4,o⟩:=bd o
 refine RL.call zt zr K7 [a3,v1,(vi p2)] zr (aF (qQ N (p2:=p2) (i0:=0) (i1:=4) j zr zr a4) ?_)
 rintro _ w ⟨ai,rfl,j⟩
 refine mv (.tuple #[ai,(vi ad.2)]) (RL.extract ai (RL.extract (vi ad.2) (aK ai (aK (vi ad.2) (RL.ns (RL.aQ (f:=(fun x=>x)) 4 j zr Fd.self oN fun a5 j=>(mv ab (mv (vi p2) ?_))))))))
 have j:=j.freeze 3
 obtain⟨ae,a6,o⟩:=bd o
 refine RL.call zt zr K7 [a5,ab,(vi p2)] zr (aF (qQ N (p2:=p2) (i0:=0) (i1:=3) j zr zr a6) ?_)
 rintro _ w ⟨aj,rfl,j⟩
 refine mv (.tuple #[aj,(vi ae.2)]) (RL.extract aj (RL.extract (vi ae.2) (aK aj (aK (vi ae.2) (RL.ns (RL.aQ (f:=(fun x=>x)) 6 j zr Fd.self oN fun a7 j=>(mv ab (mv (vi p2) ?_))))))))
 obtain⟨af,a8,o⟩:=bd o
 refine RL.call zt zr K6 [a7,ab,(vi p2)] zr (aF (tw N (p2:=p2) (i0:=0) (i1:=5) j zr zr a8) ?_)
 rintro _ w ⟨ak,rfl,j⟩
 refine mv (.tuple #[ak,(vi af.2)]) (RL.extract ak (RL.extract (vi af.2) (aK ak (aK (vi af.2) (RL.nq (RC.sr (aK (vi 0) (RL.nt ?_))))))))
 obtain⟨bn,hN,o⟩:=bd o
 refine RC.iter (fun(ah:Int)=>SH E V [(1,v1),(7,ab),(8,vi ad.2),(9,ai),(10,aj),(11,vi ae.2),(12,ak),(13,vi af.2),(14,vi ah)] [rd v1 p1,rd ab ag.1,own 43 ai ad.1,own 43 aj ae.1,own 53 ak af.1]) (fun(ah:Int)=>SH E V [(7,ab),(8,vi ad.2),(9,ai),(10,aj),(11,vi ae.2),(12,ak),(13,vi af.2)] [rd v1 p1,rd ab ag.1,own 43 ai ad.1,own 43 aj ae.1,own 53 ak af.1]) (lB E V) hN ?_ ?_ ?_ ?_
 ·exact j.sp 11 [9,6,4,2,0]
 ·rintro ah fl _ w ⟨O,rfl,j⟩ o
  refine RC.seq (RC.sr (mv (vi ah) (mv ab (RL.bC 1 ag.1 j uW (ic ah ((ag.1.length:Int)) (RL.nt (eI o (fun hc o=>?_) fun hc o=>?_)))))))
  rotate_left
  ·refine RC.ex ?_
   obtain rfl:=oi o
   exact⟨rfl,j.sp 5 [0,1,2,3,4]⟩
  refine RC.ss (RC.bs (mv v1 (mv ab (mv (vi ah) ?_))))
  obtain⟨ba,bb,o⟩:=bd o
  refine RL.bW 1 j tO bb fun bp j=>(RL.bL 0 ba j pq fun bc j=>?_)
  obtain⟨bf,bg,o⟩:=bd o
  refine RL.call zt zr MC [v1,bc] zr (aF (pV N (i0:=2) (i1:=0) j zr zr bg) ?_)
  rintro _ w ⟨rfl,j⟩
  refine RL.not bf (RL.nt (eI o (fun hc o=>?_) fun hc o=>?_))
  ·refine RC.sr (aK (vb false) (RL.nt (RC.rb (bM ?_))))
   obtain rfl:=oi o
   exact⟨rfl,cF ⟨rfl,j.drop 7⟩⟩
  refine RC.skip (bI (aG (RC.region (mv (vi ah) (RL.i6 ah 1 (aK (vi (IntKind.wrap .i64 (ah+1))) (RL.nil ?_)))))))
  obtain rfl:=oi o
  exact⟨rfl,j.sp 7 [2,3,4,5,6]⟩
 ·intro r U w e hK
  subst e
  refine bM ?_
  obtain rfl:=oi o
  exact hK
 rintro ah _ w rfl ⟨O,rfl,j⟩
 rw [Fo.fB] at o
 refine aG (RC.seq ?_)
 obtain⟨aw,hj,o⟩:=bd o
 refine RC.jn (fun(aw:Bool)=>SH E V [(6,vb aw)] []) aw ?_ ?_
 ·refine RC.region (mv (vi ad.2) (ic ad.2 0 (mv (vb (ad.2==0)) (RL.gs true (ad.2==0) (vi ae.2) rfl rfl rfl dT (RL.gs true (ad.2==0) (vb (ae.2==0)) rfl rfl rfl (dZ .eql .i64 ae.2 0 rfl (fun h=>by exact(cV h:cv (true&&((ad.2==0)==true)) (vi ae.2)= (vi ae.2))) (fun _=>rfl) rfl) (RL.pick (ad.2==0) (vb ((ad.2==0)&&(ae.2==0))) (iL true) (mv (vb ((ad.2==0)&&(ae.2==0))) (fU hj (fun al hj=>?_) fun al hj=>?_))))))))
  rotate_left
  ·refine bN al (bN al (bN al (fP al (vb false) (mv (vb false) (nQ (nQ (RL.pick false (vb false) zr (mv (vb false) ?_))))))))
   refine nQ (nQ (nQ (RL.pick false (vb false) zr (mv (vb false) (nQ (RL.pick false (vb false) zr (aK (vb false) (RL.nil ?_))))))))
   obtain rfl:=oi hj
   exact⟨rfl,j.sp 5 []⟩
  refine RL.move ai (cg al) (RL.move aj (cg al) ?_)
  have j:=(j.freeze 2).freeze 3
  obtain⟨ao,bj,hj⟩:=bd hj
  refine RL.call (cg al) zr MD [ai,aj] zr (aF (rW N (i0:=2) (i1:=3) j zr zr bj) ?_)
  rintro _ w ⟨rfl,j⟩
  refine fP al (vb ao) (mv (vb ao) (RL.gs true ao (vi af.2) rfl rfl rfl dT (RL.gs true ao (vb (af.2==0)) rfl rfl rfl (dZ .eql .i64 af.2 0 rfl (fun h=>by exact(cV h:cv (true&&(ao==true)) (vi af.2)= (vi af.2))) (fun _=>rfl) rfl) (RL.pick ao (vb (ao&&(af.2==0))) (iL true) (mv (vb (ao&&(af.2==0))) (fU hj (fun an hj=>?_) fun an hj=>?_))))))
  rotate_left
  ·refine bN an (bN an (bN an (fP an (vb false) (mv (vb false) (nQ (RL.pick false (vb false) zr (aK (vb false) (RL.nil ?_))))))))
   obtain rfl:=oi hj
   exact⟨rfl,j.sp 5 []⟩
  refine RL.move ak (cg an) (RL.move ab (cg an) ?_)
  have j:=j.freeze 4
  obtain⟨ay,bk,hj⟩:=bd hj
  refine RL.call (cg an) zr ME [ak,ab] zr (aF (rX N (i0:=4) (i1:=1) j zr zr bk) ?_)
  rintro _ w ⟨rfl,j⟩
  refine fP an (vb ay) (mv (vb ay) (fU hj (fun au hj=>?_) fun au hj=>?_))
  rotate_left
  ·refine bN au (fP au (vb false) (aK (vb false) (RL.nil ?_)))
   obtain rfl:=oi hj
   exact⟨rfl,j.sp 5 []⟩
  obtain⟨az,bl,hj⟩:=bd hj
  refine RL.call (cg au) zr K2 [] zr (aF (ma N j bl) ?_)
  rintro _ w ⟨rfl,j⟩
  refine fP au (vb az) (aK (vb az) (RL.nil ?_))
  obtain rfl:=oi hj
  exact⟨rfl,j.sp 5 []⟩
 rintro _ w ⟨O,rfl,j⟩
 refine aG (RC.ret ?_)
 obtain rfl:=oi o
 exact cF ⟨rfl,j.drop 0⟩
end Go.Gk
