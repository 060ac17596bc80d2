/-
  Printed texts: Go functions as plain functions, and that they are. No statement of the seed is proved here.
-/
import Derived.Test.YthioiiocofohiaaGreatDoorG1
import Derived.Test.YthioiiocofohiaaGreatDoorG3
import Derived.Test.YthioiiocofohiaaGreatDoorG4
import Derived.Test.YthioiiocofohiaaGreatDoorG5
import Derived.Test.YthioiiocofohiaaGreatDoorA2
set_option linter.unusedVariables false
set_option linter.unusedSimpArgs false
set_option linter.unusedSectionVars false
set_option maxRecDepth 100000
set_option maxHeartbeats 4000000
namespace Go.Gk
open Go Go.Proofs
variable (N:Nat) {E w:World} {b0 b2 b3 b3h i0 i1 i2 i3:Nat} {p0 p1 res:Int} {v0 v0_0 v0_1 v0_10 v0_11 v0_2 v0_3 v0_4 v0_5 v0_6 v0_7 v0_8 v0_9 v1 v2 v2_0 v3 v3h_0:Value} {V:List HP}
def th (E:World) (V:List HP) (b0:Nat) (v0_0 v0_1:Value) (v0_2 v0_3:Value) (v0_4 v0_5:Value) (v0_6 v0_7:Value) (v0_8 v0_9:Value) (v0_10 v0_11:Value) (r:Int) (U:Nat->Value) (w:World):Prop:=l6 bG 112 Tryz.f30 (iP E V b0 v0_0 v0_1 v0_2 v0_3 v0_4 v0_5 v0_6 v0_7 v0_8 v0_9 v0_10 v0_11 r) .ret U w
theorem m7 {p0_0: (List (List aI))} {p0_1: (List aI)} {p0_2: (List bQ)} {p0_3: (List cQ)} {p0_4: (List (List aA))} {p0_5: (List aH)} {p0_6: (List (List Int))} {p0_7: (List cE)} {p0_8: (List Int)} {p0_9: (List Int)} {p0_10: (List Int)} {p0_11: (List dF)} {p1: (List bS)} (o:Holds E w (bc 126 b0 [v0_0,v0_1,v0_2,v0_3,v0_4,v0_5,v0_6,v0_7,v0_8,v0_9,v0_10,v0_11]::rd v0_0 p0_0::rd v0_1 p0_1::rd v0_2 p0_2::rd v0_3 p0_3::rd v0_4 p0_4::rd v0_5 p0_5::rd v0_6 p0_6::rd v0_7 p0_7::rd v0_8 p0_8::rd v0_9 p0_9::rd v0_10 p0_10::rd v0_11 p0_11::V)) (h1:V[i1]? =some (rd v1 p1)) (hb:gA N p0_0 p0_1 p0_2 p0_3 p0_4 p0_5 p0_6 p0_7 p0_8 p0_9 p0_10 p0_11 p1=some res):
    Calls bG 30 [(vp b0 0),v1].toArray w (gH (iP E V b0 v0_0 v0_1 v0_2 v0_3 v0_4 v0_5 v0_6 v0_7 v0_8 v0_9 v0_10 v0_11 res)):=by
 unfold gA at hb
 refine enter Tryz.func30 zr zr ?_
 have o:=o.dup (i1+13) h1
 refine RC.sr (RL.Ew (vp b0 0) zt zr o zr zr fun ae w o=>?_)
 refine aM (vi 0) (RL.nq (RC.sr (mv v1 (RL.bB 1 p1 o xZ (ic ((p1.length:Int)) 20 (RL.nt (eL hb (fun hc hb=>?_) fun hc hb=>?_)))))))
 ·refine RC.sr (aM (vi 2) (RL.nt (RC.rt ?_)))
  obtain rfl:=oi hb
  exact cF ⟨rfl,o.pk 15 [2]⟩
 refine RC.sx (RL.makeFunc [(vp ae 0)] (aM (.func (.func 59) #[] #[(vp ae 0)]) (RL.nq (RC.sr (mv v1 (RL.bB 1 p1 o xZ (mv (vi 0) (RL.nt ?_))))))))
 obtain⟨bj,hN,hb⟩:=bd hb
 refine RC.range (fun(ag:Nat) (an:Unit)=>SH E V [(0,vp b0 0),(1,v1),(2,vp ae 0),(5,(.func (.func 59) #[] #[(vp ae 0)])),(13,v1),(14,vi p1.length),(15,vi ag)] [bc 126 b0 [v0_0,v0_1,v0_2,v0_3,v0_4,v0_5,v0_6,v0_7,v0_8,v0_9,v0_10,v0_11],rd v0_0 p0_0,rd v0_1 p0_1,rd v0_2 p0_2,rd v0_3 p0_3,rd v0_4 p0_4,rd v0_5 p0_5,rd v0_6 p0_6,rd v0_7 p0_7,rd v0_8 p0_8,rd v0_9 p0_9,rd v0_10 p0_10,rd v0_11 p0_11,rd v1 p1,bc 68 ae [(vp b0 0)]]) (fun(an:Unit)=>SH E V [(0,vp b0 0)] [bc 126 b0 [v0_0,v0_1,v0_2,v0_3,v0_4,v0_5,v0_6,v0_7,v0_8,v0_9,v0_10,v0_11],rd v0_0 p0_0,rd v0_1 p0_1,rd v0_2 p0_2,rd v0_3 p0_3,rd v0_4 p0_4,rd v0_5 p0_5,rd v0_6 p0_6,rd v0_7 p0_7,rd v0_8 p0_8,rd v0_9 p0_9,rd v0_10 p0_10,rd v0_11 p0_11,rd v1 p1,bc 68 ae [(vp b0 0)]]) (th E V b0 v0_0 v0_1 v0_2 v0_3 v0_4 v0_5 v0_6 v0_7 v0_8 v0_9 v0_10 v0_11) hN ?_ ?_ ?_ ?_ ?_
 ·exact o.sp 15 [2,3,4,5,6,7,8,9,10,11,12,13,14,1,0]
 ·rintro hm an _ w ⟨O,rfl,o⟩
  refine RC.sr (ic ((p1.length:Int)) ((p1.length:Int)) (RL.nq (RC.cO l9 (RC.ex ?_))))
  exact⟨rfl,o.sp 15 [0,1,2,3,4,5,6,7,8,9,10,11,12,13,14]⟩
 ·rintro hm ag an fl _ w hk ⟨O,rfl,o⟩ hb
  refine RC.sr (ic ((ag:Int)) ((p1.length:Int)) (RL.nq (RC.cN (l8 hk) (RC.ss (RC.bs (mv (vi ag) ?_))))))
  obtain⟨j,a0,hb⟩:=bd hb
  refine RL.cC 13 o va a0 fun bl o=>(RL.bO 0 j o sW fun bm o=>(RL.alloc o A4.z fun ad w o=>?_))
  refine aM (vi ag) (RL.bA 0 o 1 zr sW fun w o=>?_)
  refine RL.nq (RC.seq ?_)
  obtain⟨ao,hj,hb⟩:=bd hb
  refine RC.jn (fun(ao:Bool)=>SH E V [(0,vp b0 0),(1,v1),(2,vp ae 0),(5,(.func (.func 59) #[] #[(vp ae 0)])),(6,vi ag),(7,vp ad 0),(13,v1),(14,vi p1.length),(15,vi ag),(42,vb ao)] [bc 126 b0 [v0_0,v0_1,v0_2,v0_3,v0_4,v0_5,v0_6,v0_7,v0_8,v0_9,v0_10,v0_11],rd v0_0 p0_0,rd v0_1 p0_1,rd v0_2 p0_2,rd v0_3 p0_3,rd v0_4 p0_4,rd v0_5 p0_5,rd v0_6 p0_6,rd v0_7 p0_7,rd v0_8 p0_8,rd v0_9 p0_9,rd v0_10 p0_10,rd v0_11 p0_11,rd v1 p1,bc 68 ae [(vp b0 0)],bx 43 ad j]) ao ?_ ?_
  ·refine RC.region (RL.aY rfl sX (RL.aL 0 o rfl mn xU (mv (vb j.Open) (RL.gs true j.Open (vp ad 3) rfl rfl rfl (dN zH) (RL.gs true j.Open (vi j.A) rfl rfl rfl (bW 0 rfl o (fun h=>by exact(cT h:cv (true&&(j.Open==true)) (vp ad 3)= (vp ad 3))) rfl rJ cH) (RL.gs true j.Open (vb (j.A != 0)) rfl rfl rfl (dY .neq .i64 j.A 0 rfl (fun h=>by exact(cT h:cv (true&&(j.Open==true)) (vi j.A)= (vi j.A))) (fun _=>rfl) rfl) (RL.gs true j.Open (vb (j.A != 0)) rfl rfl rfl (dR (hx:=fun h=>by exact(cT h:cv (true&&(j.Open==true)) (vb (j.A != 0))= (vb (j.A != 0))))) (RL.gs (true&&(j.Open==true)) (j.A != 0) (vp ad 4) rfl rfl rfl (dN zI) ?_))))))))
   refine RL.gs (true&&(j.Open==true)) (j.A != 0) (vi j.B) rfl rfl rfl (bW 0 rfl o (fun h=>by exact(cT h:cv ((true&&(j.Open==true))&&((j.A != 0)==false)) (vp ad 4)= (vp ad 4))) rfl rK cH) (RL.gs (true&&(j.Open==true)) (j.A != 0) (vb (j.B != 0)) rfl rfl rfl (dY .neq .i64 j.B 0 rfl (fun h=>by exact(cT h:cv ((true&&(j.Open==true))&&((j.A != 0)==false)) (vi j.B)= (vi j.B))) (fun _=>rfl) rfl) (RL.gs true j.Open (vb ((j.A != 0)||(j.B != 0))) rfl rfl rfl (oy (j.A != 0) rfl (fun h=>by exact(cT h:cv (true&&(j.Open==true)) (vb (j.A != 0))= (vb (j.A != 0)))) (fun h=>by exact nE (true&&(j.Open==true)) h)) (RL.pick j.Open (vb (j.Open&&((j.A != 0)||(j.B != 0)))) (je true) (mv (vb (j.Open&&((j.A != 0)||(j.B != 0)))) (fM hj (fun ah hj=>?_) fun ah hj=>?_)))))
   ·refine bJ ah (bJ ah (bJ ah (bJ ah (zx (zx (zx (zx (bJ ah ?_))))))))
    refine fI ah (vb true) (RL.nil ?_)
    obtain rfl:=oi hj
    exact⟨rfl,o.sp 18 [3,4,5,6,7,8,9,10,11,12,13,14,15,16,17,0]⟩
   refine RL.aY (hg:=(cg ah)) zr sX (RL.aL (hg:=(cg ah)) 0 o zr mn xU (RL.not (hg:=(cg ah)) j.Open (RL.move (vb (!j.Open)) (cg ah) (fM hj (fun aj hj=>?_) fun aj hj=>?_))))
   ·refine RL.aY (hg:=(cg aj)) rfl vc (RL.aS (hg:=(cg aj)) 0 o rfl nC qQ fun bn o=>(RL.build (⟨false,0⟩:dF) (cg aj) rfl o [] rfl DI rfl (fun M hs g=>by have h:=wV M;exact cL.nil h) fun bo o=>?_))
    refine RL.Lr 1 0 j.dF (⟨false,0⟩:dF) (cg aj) zr o zr zr zr zr JD zr (fI aj (vb (!(decide (j.dF= (⟨false,0⟩:dF))))) (hg:=(cg ah)) (fI ah (vb (!(decide (j.dF= (⟨false,0⟩:dF))))) (RL.nil ?_)))
    obtain rfl:=oi hj
    exact⟨rfl,o.sp 20 [5,6,7,8,9,10,11,12,13,14,15,16,17,18,19,2]⟩
   refine bJ aj (bJ aj (bJ aj (bJ aj (fI aj (vb false) (hg:=(cg ah)) (fI ah (vb false) (RL.nil ?_))))))
   obtain rfl:=oi hj
   exact⟨rfl,o.sp 18 [3,4,5,6,7,8,9,10,11,12,13,14,15,16,17,0]⟩
  rintro _ w ⟨O,rfl,o⟩
  refine aG (eL hb (fun hc hb=>?_) fun hc hb=>?_)
  ·refine RC.sr (aM (vi 3) (RL.nt (RC.rt (jF (bV ?_)))))
   obtain rfl:=oi hb
   exact⟨rfl,cF ⟨rfl,o.pk 16 [0]⟩⟩
  refine RC.ss ?_
  obtain⟨aq,hj,hb⟩:=bd hb
  refine RC.jn (fun(aq:Bool)=>SH E V [(0,vp b0 0),(1,v1),(2,vp ae 0),(5,(.func (.func 59) #[] #[(vp ae 0)])),(6,vi ag),(7,vp ad 0),(8,vb aq),(13,v1),(14,vi p1.length),(15,vi ag)] [bc 126 b0 [v0_0,v0_1,v0_2,v0_3,v0_4,v0_5,v0_6,v0_7,v0_8,v0_9,v0_10,v0_11],rd v0_0 p0_0,rd v0_1 p0_1,rd v0_2 p0_2,rd v0_3 p0_3,rd v0_4 p0_4,rd v0_5 p0_5,rd v0_6 p0_6,rd v0_7 p0_7,rd v0_8 p0_8,rd v0_9 p0_9,rd v0_10 p0_10,rd v0_11 p0_11,rd v1 p1,bc 68 ae [(vp b0 0)],bx 43 ad j]) aq ?_ ?_
  ·refine RC.region (mv (.func (.func 59) #[] #[(vp ae 0)]) (RL.aY zr zH (RL.aL 15 o zr rJ cH ?_)))
   have o:=((o.dup 6 rfl).pull 1).pull 16
   obtain⟨a1,a2,hj⟩:=bd hj
   refine RL.ox [(vp ae 0)] HY [(vi j.A)] (aF (jP N (p0:=j.A) o a2) ?_)
   rintro _ w ⟨rfl,o⟩
   refine mv (vb a1) (fM hj (fun ak hj=>?_) fun ak hj=>?_)
   rotate_left
   ·refine bJ ak (bJ ak (bJ ak (bJ ak (fI ak (vb false) (aM (vb false) (RL.nil ?_))))))
    obtain rfl:=oi hj
    exact⟨rfl,o.sp 18 [1,3,4,5,6,7,8,9,10,11,12,13,14,15,0,17]⟩
   refine RL.move (.func (.func 59) #[] #[(vp ae 0)]) (cg ak) (RL.aY (hg:=(cg ak)) zr zI (RL.aL (hg:=(cg ak)) 17 o zr rK cH ?_))
   have o:=((o.dup 8 rfl).pull 2).pull 2
   obtain⟨ay,a3,hj⟩:=bd hj
   refine RL.ox (hg:=(cg ak)) [(vp ae 0)] HY [(vi j.B)] (aF (jP N (p0:=j.B) o a3) ?_)
   rintro _ w ⟨rfl,o⟩
   refine fI ak (vb ay) (aM (vb ay) (RL.nil ?_))
   obtain rfl:=oi hj
   exact⟨rfl,o.sp 20 [1,5,6,7,8,9,10,11,12,13,14,15,16,17,0,19]⟩
  rintro _ w ⟨O,rfl,o⟩
  refine aG (RC.seq (RC.sr (RL.aY zr sX (RL.aL 15 o zr mn xU (RL.nt ?_)))))
  obtain⟨ar,hj,hb⟩:=bd hb
  refine RC.jn (fun(ar:Bool)=>SH E V [(0,vp b0 0),(1,v1),(2,vp ae 0),(5,(.func (.func 59) #[] #[(vp ae 0)])),(6,vi ag),(7,vp ad 0),(8,vb ar),(13,v1),(14,vi p1.length),(15,vi ag)] [bc 126 b0 [v0_0,v0_1,v0_2,v0_3,v0_4,v0_5,v0_6,v0_7,v0_8,v0_9,v0_10,v0_11],rd v0_0 p0_0,rd v0_1 p0_1,rd v0_2 p0_2,rd v0_3 p0_3,rd v0_4 p0_4,rd v0_5 p0_5,rd v0_6 p0_6,rd v0_7 p0_7,rd v0_8 p0_8,rd v0_9 p0_9,rd v0_10 p0_10,rd v0_11 p0_11,rd v1 p1,bc 68 ae [(vp b0 0)],bx 43 ad j]) ar ?_ ?_
  ·refine eL hj (fun hc hj=>?_) fun hc hj=>?_
   rotate_left
   ·refine RC.skip ?_
    obtain rfl:=oi hj
    exact⟨rfl,o.sp 16 [0,1,2,3,4,5,6,7,8,9,10,11,12,13,14,15]⟩
   refine RC.region (mv (.func (.func 59) #[] #[(vp ae 0)]) (RL.aY zr vc (RL.aY zr sT (RL.aL (f:=(fun x=>x.dF.Number)) 15 o zr (Fd.comp (f:=fun(x:bS)=>x.dF) (fun(x:dF)=>x.Number) nC nL) cH ?_))))
   have o:=((o.dup 6 rfl).pull 1).pull 16
   obtain⟨a4,a5,hj⟩:=bd hj
   refine RL.ox [(vp ae 0)] HY [(vi j.dF.Number)] (aF (jP N (p0:=j.dF.Number) o a5) ?_)
   rintro _ w ⟨rfl,o⟩
   refine aM (vb a4) (RL.nil ?_)
   obtain rfl:=oi hj
   exact⟨rfl,o.sp 18 [1,3,4,5,6,7,8,9,10,11,12,13,14,15,0,17]⟩
  rintro _ w ⟨O,rfl,o⟩
  refine aG (RC.seq (RC.sr (RL.aY rfl sX (RL.aL 15 o rfl mn xU (mv (vb j.Open) (RL.gs true j.Open (vp ad 1) rfl rfl rfl (dN vc) (RL.gs true j.Open (vp ad 1) rfl rfl rfl (dN (hx:=fun h=>by exact(cT h:cv (true&&(j.Open==true)) (vp ad 1)= (vp ad 1))) Ca) (RL.gs true j.Open (vb j.dF.bQ) rfl rfl rfl (bW (f:=(fun x=>x.dF.bQ)) 15 rfl o (fun h=>by exact(cT h:cv (true&&(j.Open==true)) (vp ad 1)= (vp ad 1))) rfl (Fd.comp (f:=fun(x:bS)=>x.dF) (fun(x:dF)=>x.bQ) nC wT) xU) ?_))))))))
  refine RL.pick j.Open (vb (j.Open&&j.dF.bQ)) (je true) (RL.nt ?_)
  obtain⟨al,hj,hb⟩:=bd hb
  refine RC.jn (fun(al:Bool)=>SH E V [(0,vp b0 0),(1,v1),(2,vp ae 0),(5,(.func (.func 59) #[] #[(vp ae 0)])),(6,vi ag),(7,vp ad 0),(8,vb al),(13,v1),(14,vi p1.length),(15,vi ag)] [bc 126 b0 [v0_0,v0_1,v0_2,v0_3,v0_4,v0_5,v0_6,v0_7,v0_8,v0_9,v0_10,v0_11],rd v0_0 p0_0,rd v0_1 p0_1,rd v0_2 p0_2,rd v0_3 p0_3,rd v0_4 p0_4,rd v0_5 p0_5,rd v0_6 p0_6,rd v0_7 p0_7,rd v0_8 p0_8,rd v0_9 p0_9,rd v0_10 p0_10,rd v0_11 p0_11,rd v1 p1,bc 68 ae [(vp b0 0)],bx 43 ad j]) al ?_ ?_
  ·refine eL hj (fun hc hj=>?_) fun hc hj=>?_
   rotate_left
   ·refine RC.skip ?_
    obtain rfl:=oi hj
    exact⟨rfl,o.sp 16 [0,1,2,3,4,5,6,7,8,9,10,11,12,13,14,15]⟩
   obtain⟨au,hjj,hj⟩:=bd hj
   refine RC.jn (fun(au:Bool)=>SH E V [(0,vp b0 0),(1,v1),(2,vp ae 0),(5,(.func (.func 59) #[] #[(vp ae 0)])),(6,vi ag),(7,vp ad 0),(8,vb au),(13,v1),(14,vi p1.length),(15,vi ag)] [bc 126 b0 [v0_0,v0_1,v0_2,v0_3,v0_4,v0_5,v0_6,v0_7,v0_8,v0_9,v0_10,v0_11],rd v0_0 p0_0,rd v0_1 p0_1,rd v0_2 p0_2,rd v0_3 p0_3,rd v0_4 p0_4,rd v0_5 p0_5,rd v0_6 p0_6,rd v0_7 p0_7,rd v0_8 p0_8,rd v0_9 p0_9,rd v0_10 p0_10,rd v0_11 p0_11,rd v1 p1,bc 68 ae [(vp b0 0)],bx 43 ad j]) au ?_ ?_
   ·refine RC.wk mixed [0,0,0,0,0,0,0,0,0,0,2,0,0,0,0,0,0,0,0,0,0,0,0,0,0] [0,1,2,3,4,5,6,7,8,9,10,11,12,13,14,15,16,17,18,19,20,21,22,23,24] ?_
    have o:=o.drew
    refine DP.e0 zr (RL.aY zr vc (bU zr (RL.aY zr sT (bU zr (RL.aL (f:=(fun x=>x.dF.Number)) 15 o zr (Fd.comp (f:=fun(x:bS)=>x.dF) (fun(x:dF)=>x.Number) nC nL) cH (bU zr (RL.aW 14 (vp b0 0) o vZ (bU zr ?_))))))))
    refine RL.nilCheck zr (bU zr (RL.aY zr ke (bU zr (RL.aY zr mq (bU zr (RL.aW 0 v0_2 o u7 (bU zr (RL.bB 3 p0_2 o wY ?_))))))))
    refine bU zr (RL.jl (p0_2.length:Int) 1 (sS zr ?_))
    obtain⟨a6,a7,hjj⟩:=bd hjj
    refine RL.call zt zr HT [(vi j.dF.Number),(vi 0),(vi (IntKind.wrap .i64 ((p0_2.length:Int) - 1)))] zr (aF (mX N (p0:=j.dF.Number) (p1:=0) (p2:=(IntKind.wrap .i64 ((p0_2.length:Int) - 1))) o a7) ?_)
    rintro _ w ⟨rfl,o⟩
    refine wm zr (mv (vb a6) (DP.d0 (fM hjj (fun af hjj=>?_) fun af hjj=>?_)))
    rotate_left
    ·refine DP.e0 zr (bJ af (bU zr (bJ af (bU zr (bJ af (bU zr (bJ af (bU zr ?_))))))))
     refine bJ af (bU zr (bJ af (bU zr (bJ af (bU zr (bJ af (bU zr (bJ af ?_))))))))
     refine bU zr (bJ af (bU zr (bJ af (bU zr (fI af (vb false) (bU zr (aM (vb false) (DP.d0 ?_))))))))
     refine DP.z ?_
     obtain rfl:=oi hjj
     exact⟨rfl,o.sp 16 [0,1,2,3,4,5,6,7,8,9,10,11,12,13,14,15]⟩
    refine DP.e0 zr (RL.aW (hg:=(cg af)) 14 (vp b0 0) o vZ (bU zr (RL.nilCheck (hg:=(cg af)) zr (bU zr (RL.aY (hg:=(cg af)) zr ke (bU zr (RL.aY (hg:=(cg af)) zr mq (bU zr ?_))))))))
    refine RL.aW (hg:=(cg af)) 0 v0_2 o u7 (bU zr (RL.aY (hg:=(cg af)) zr vc (bU zr (RL.aY (hg:=(cg af)) zr sT (bU zr (RL.aL (hg:=(cg af)) (f:=(fun x=>x.dF.Number)) 15 o zr (Fd.comp (f:=fun(x:bS)=>x.dF) (fun(x:dF)=>x.Number) nC nL) cH (bU zr ?_)))))))
    obtain⟨av,a8,hjj⟩:=bd hjj
    refine RL.cC (hg:=(cg af)) 3 o zz a8 fun bp o=>(bU zr (RL.ig (hg:=(cg af)) 0 o zr wq rI fun bq o=>(bU zr (RL.bI (hg:=(cg af)) av.gL 0 o xU (bU zr (fI af (vb av.gL) (bU zr (aM (vb av.gL) ?_))))))))
    refine DP.d0 (DP.z ?_)
    obtain rfl:=oi hjj
    exact⟨rfl,o.sp 18 [2,3,4,5,6,7,8,9,10,11,12,13,14,15,16,17]⟩
   rintro _ w ⟨O,rfl,o⟩
   obtain rfl:=oi hj
   exact⟨rfl,o.sp 16 [0,1,2,3,4,5,6,7,8,9,10,11,12,13,14,15]⟩
  rintro _ w ⟨O,rfl,o⟩
  refine aG (RC.bs (mv (vb al) (RL.not al (aM (vb (!al)) (RL.nt (eL hb (fun hc hb=>?_) fun hc hb=>?_))))))
  ·refine RC.sr (aM (vi 9) (RL.nt (RC.rb (jF (bV ?_)))))
   obtain rfl:=oi hb
   exact⟨rfl,cF ⟨rfl,o.pk 16 [0]⟩⟩
  refine RC.sr (RL.aY rfl sX (RL.aL 15 o rfl mn xU (RL.not j.Open (mv (vb (!j.Open)) (RL.gs true (!j.Open) (vp ad 4) rfl rfl rfl (dN zI) (RL.gs true (!j.Open) (vi j.B) rfl rfl rfl (bW 15 rfl o (fun h=>by exact(cT h:cv (true&&((!j.Open)==true)) (vp ad 4)= (vp ad 4))) rfl rK cH) (RL.gs true (!j.Open) (vp ad 3) rfl rfl rfl (dN zH) (RL.gs true (!j.Open) (vi j.A) rfl rfl rfl (bW 15 rfl o (fun h=>by exact(cT h:cv (true&&((!j.Open)==true)) (vp ad 3)= (vp ad 3))) rfl rJ cH) ?_))))))))
  refine RL.gs true (!j.Open) (vb (decide (j.B<=j.A))) rfl rfl rfl (dY .leq .i64 j.B j.A rfl (fun h=>by exact(cT h:cv (true&&((!j.Open)==true)) (vi j.B)= (vi j.B))) (fun h=>by exact(cT h:cv (true&&((!j.Open)==true)) (vi j.A)= (vi j.A))) rfl) (RL.pick (!j.Open) (vb ((!j.Open)&&(decide (j.B<=j.A)))) (je true) (aM (vb ((!j.Open)&&(decide (j.B<=j.A)))) (RL.nt (eL hb (fun hc hb=>?_) fun hc hb=>?_))))
  ·refine RC.sr (aM (vi 8) (RL.nt (RC.rb (jF (bV ?_)))))
   obtain rfl:=oi hb
   exact⟨rfl,cF ⟨rfl,o.pk 16 [0]⟩⟩
  refine RC.seq (RC.wk mixed [0,0,0,0,2,0] [0,1,2,3,4,5] ?_)
  have o:=o.drew
  refine DP.e0 zr (mv v1 (bU zr (mv (vi ag) (bU zr ?_))))
  obtain⟨br,a9,hb⟩:=bd hb
  refine RL.cut (hl:= .inr ⟨rfl,zr⟩) 13 o va (.inl zr) a9 fun ba o=>(bU zr (RL.aS (f:=(fun x=>x)) 16 o zr Fd.self sW fun bb o=>(sS zr ?_)))
  obtain⟨bf,bg,hb⟩:=bd hb
  refine RL.call zt zr JF [ba,bb] zr (aF (lK N (i0:=1) (i1:=0) o zr zr bg) ?_)
  rintro _ w ⟨rfl,o⟩
  refine wm zr (aM (vb bf) (DP.d0 (DP.z (aG (eL hb (fun hc hb=>?_) fun hc hb=>?_)))))
  rotate_left
  ·refine RC.skip (bL (bL (aG (RC.region (RL.inc hk hm (mv (vi ((ag+1:Nat):Int)) (RL.nil ?_)))))))
   obtain rfl:=oi hb
   exact⟨rfl,o.sp 18 [2,3,4,5,6,7,8,9,10,11,12,13,14,15,16]⟩
  refine RC.sr (aM (vi 7) (RL.nt (RC.rb (jF (bV ?_)))))
  obtain rfl:=oi hb
  exact⟨rfl,cF ⟨rfl,o.pk 18 [2]⟩⟩
 ·intro r U w e hK
  subst e
  refine bV ?_
  obtain rfl:=oi hb
  exact hK
 rintro an _ w rfl ⟨O,rfl,o⟩
 rw [Fo.f0] at hb
 refine aG (RC.sr (aM (vi 0) (RL.nt (RC.ret ?_))))
 obtain rfl:=oi hb
 exact cF ⟨rfl,o.pk 15 [0]⟩
theorem m8 {p0:dF} (j:Holds E w V) (h0:V[i0]? =some (rd v0 p0)) (h1:V[i1]? =some (pt v1 p1)) (o:fR N p0 p1=some res):
    Calls bG 60 [v0,v1].toArray w (gH (aP E V res)):=by
 unfold fR at o
 refine enter Tryz.func60 zr zr ?_
 have j:=(j.dup (i0+0) h0).wE (i:=i1+1) h1
 refine RC.sr (RL.cY 1 v0 j zr fun ab w j=>?_)
 refine aM (vi 0) (RL.nq (RC.sr (RL.aY zr Ca (RL.aL 0 j zr wT xU (RL.nt (eL o (fun hc o=>?_) fun hc o=>?_))))))
 rotate_left
 ·refine RC.sx (RL.aY zr sT (RL.aL 0 j zr nL cH (aM (vi p0.Number) (RL.nt (RC.ret ?_)))))
  obtain rfl:=oi o
  exact cF ⟨rfl,j.drop 3⟩
 refine RC.sr (RL.bI p1 1 j cH (RL.aY zr sT (RL.aL 0 j zr nL cH (RL.jl p1 p0.Number (aM (vi (IntKind.wrap .i64 (p1+p0.Number))) (RL.nt (RC.rt ?_)))))))
 obtain rfl:=oi o
 exact cF ⟨rfl,j.drop 3⟩
def ti (E:World) (V:List HP) (b2:Nat) (v2_0:Value) (p2_0: (List (Int×Bool))) (b3 b3h:Nat) (res: (List Int)) (v:Value) (w:World):Prop:=∃u3h_0:Value,v = .tuple #[]/\Holds E w ([bc 143 b2 [v2_0],mp v2_0 p2_0,bc 144 b3 [(vp b3h 0)],bc 176 b3h [u3h_0],own 3 u3h_0 res]++V)
theorem m9 {p2_0: (List (Int×Bool))} {p3h_0: (List Int)} {res: (List Int)} (j:Holds E w (bc 143 b2 [v2_0]::mp v2_0 p2_0::bc 144 b3 [(vp b3h 0)]::bc 176 b3h [v3h_0]::own 3 v3h_0 p3h_0::V)) (hb:gC N p0 p1 p2_0 p3h_0=some res):
    Calls bG 62 [(vi p0),(vi p1),(vp b2 0),(vp b3 0)].toArray w (gH (ti E V b2 v2_0 p2_0 b3 b3h res)):=by
 unfold gC at hb
 refine enter Tryz.func62 zr zr (RC.seq ?_)
 obtain⟨ae,o,hb⟩:=bd hb
 refine RC.jn (fun(ae:Bool)=>SH E V [(0,vi p0),(1,vi p1),(2,vp b2 0),(3,vp b3 0),(15,vb ae)] [bc 143 b2 [v2_0],mp v2_0 p2_0,bc 144 b3 [(vp b3h 0)],bc 176 b3h [v3h_0],own 3 v3h_0 p3h_0]) ae ?_ ?_
 ·refine RC.region (RL.aW 0 v2_0 j A6 (mv (vi p0) (RL.o1 1 p0 zt j CW (RL.not (dK p2_0 p0 (false:Bool)) (mv (vb (!(dK p2_0 p0 (false:Bool)))) (fM o (fun aa o=>?_) fun aa o=>?_))))))
  ·refine RL.aW (hg:=(cg aa)) 0 v2_0 j A6 (RL.move (vi p1) (cg aa) (RL.o1 1 p1 (cg aa) j CW (RL.not (hg:=(cg aa)) (dK p2_0 p1 (false:Bool)) (fI aa (vb (!(dK p2_0 p1 (false:Bool)))) (RL.nil ?_)))))
   obtain rfl:=oi o
   exact⟨rfl,j.sp 5 [0,1,2,3,4]⟩
  refine bJ aa (bJ aa (bJ aa (bJ aa (fI aa (vb false) (RL.nil ?_)))))
  obtain rfl:=oi o
  exact⟨rfl,j.sp 5 [0,1,2,3,4]⟩
 rintro _ w ⟨O,rfl,j⟩
 refine aG ?_
 obtain⟨af,o,hb⟩:=bd hb
 refine RC.jn (fun(af: (List Int)) U w=>∃ad:Value,SH E V [(2,vp b2 0),(3,vp b3 0)] [bc 143 b2 [v2_0],mp v2_0 p2_0,bc 144 b3 [(vp b3h 0)],bc 176 b3h [ad],own 3 ad af] U w) af ?_ ?_
 ·refine eL o (fun hc o=>?_) fun hc o=>?_
  rotate_left
  ·refine RC.skip ?_
   obtain rfl:=oi o
   exact⟨rfl,v3h_0,j.sp 5 [0,1,2,3,4]⟩
  refine RC.region (RL.aW 2 (vp b3h 0) j A7 (mv (vi p0) (mv (vi p1) ?_)))
  have j:=(j.pull 4).pull 4
  obtain⟨aj,ah,o⟩:=bd o
  refine RL.call zt zr Jm [(vp b3h 0),(vi p0),(vi p1)] zr (aF (mg N (p1:=p0) (p2:=p1) j ah) ?_)
  rintro _ w ⟨ai,rfl,j⟩
  refine RL.nil ?_
  obtain rfl:=oi o
  exact⟨rfl,ai,j.sp 7 [2,3,4,0,1]⟩
 rintro _ w ⟨ad,O,rfl,j⟩
 obtain rfl:=oi hb
 refine yn ?_
 exact En ⟨ad,zr,j.pk 5 [0,1,2,3,4]⟩
def wg (E:World) (V:List HP) (b0:Nat) (v0_0 v0_1:Value) (v0_2 v0_3:Value) (v0_4 v0_5:Value) (v0_6 v0_7:Value) (v0_8 v0_9:Value) (v0_10 v0_11:Value) (res: (List Int)) (v:Value) (w:World):Prop:=Holds E w ([own 3 v res,bc 126 b0 [v0_0,v0_1,v0_2,v0_3,v0_4,v0_5,v0_6,v0_7,v0_8,v0_9,v0_10,v0_11]]++V)
theorem pw {p0_2: (List bQ)} {p0_3: (List cQ)} {p0_5: (List aH)} {p0_6: (List (List Int))} {p0_10: (List Int)} {p0_11: (List dF)} {p1: (List bS)} {res: (List Int)} (j:Holds E w (bc 126 b0 [v0_0,v0_1,v0_2,v0_3,v0_4,v0_5,v0_6,v0_7,v0_8,v0_9,v0_10,v0_11]::rd v0_2 p0_2::rd v0_3 p0_3::rd v0_5 p0_5::rd v0_6 p0_6::rd v0_10 p0_10::rd v0_11 p0_11::V)) (h1:V[i1]? =some (rd v1 p1)) (hb:dH N p0_2 p0_3 p0_5 p0_6 p0_10 p0_11 p1=some res):
    Calls bG 36 [(vp b0 0),v1].toArray w (gH (wg E V b0 v0_0 v0_1 v0_2 v0_3 v0_4 v0_5 v0_6 v0_7 v0_8 v0_9 v0_10 v0_11 res)):=by
 unfold dH at hb
 refine enter Tryz.func36 zr zr ?_
 have j:=j.dup (i1+7) h1
 refine RC.sr (aM (.slice none 0 0) (RL.ns (mv (vp b0 0) (RL.nilCheck zr (RL.aY zr lz (RL.aW 1 v0_5 j qj (RL.bB 4 p0_5 j vK (RL.alloc j Ej.z fun ab w j=>?_))))))))
 have j:=j.sc Int (p0_5.length:Int)
 refine RL.bA 1 j 0 zr cH fun w j=>?_
 refine RL.ns ?_
 have j:=j.gx (i:=1) rfl
 refine RL.makeFunc [(vp ab 0)] (aM (.func (.func 60) #[] #[(vp ab 0)]) (RL.ns (RL.makeMap (κ:=Int) (ν:=Bool) zr j fun ae w j=>(RL.o4 j JH fun ad w j=>?_))))
 refine RL.gK 0 ae j zr zr (HB j (i:=1) zr) A6 fun w j=>?_
 refine RL.nq (RC.sr (mv v1 (RL.bB 4 p1 j xZ (mv (vi 0) (RL.nt ?_)))))
 obtain⟨ah,hN,hb⟩:=bd hb
 refine RC.fold (fun(a9:Nat) (ah: (List (Int×Bool)))=>SH E V [(0,vp b0 0),(1,v1),(5,vp ab 0),(6,(.func (.func 60) #[] #[(vp ab 0)])),(7,vp ad 0),(32,v1),(33,vi p1.length),(34,vi a9)] [bc 126 b0 [v0_0,v0_1,v0_2,v0_3,v0_4,v0_5,v0_6,v0_7,v0_8,v0_9,v0_10,v0_11],rd v0_2 p0_2,rd v0_3 p0_3,rd v0_5 p0_5,rd v0_6 p0_6,rd v0_10 p0_10,rd v0_11 p0_11,rd v1 p1,pt (vp ab 0) (p0_5.length:Int),bc 143 ad [ae],mp ae ah]) (fun(ah: (List (Int×Bool)))=>SH E V [(0,vp b0 0),(1,v1),(5,vp ab 0),(6,(.func (.func 60) #[] #[(vp ab 0)])),(7,vp ad 0)] [bc 126 b0 [v0_0,v0_1,v0_2,v0_3,v0_4,v0_5,v0_6,v0_7,v0_8,v0_9,v0_10,v0_11],rd v0_2 p0_2,rd v0_3 p0_3,rd v0_5 p0_5,rd v0_6 p0_6,rd v0_10 p0_10,rd v0_11 p0_11,rd v1 p1,pt (vp ab 0) (p0_5.length:Int),bc 143 ad [ae],mp ae ah]) hN ?_ ?_ ?_ ?_
 ·exact j.sp 12 [5,6,7,8,9,10,11,4,3,0,1]
 ·rintro hm ah _ w ⟨O,rfl,j⟩
  refine RC.sr (ic ((p1.length:Int)) ((p1.length:Int)) (RL.nq (RC.cO l9 (RC.ex ?_))))
  exact⟨rfl,j.sp 11 [0,1,2,3,4,5,6,7,8,9,10]⟩
 ·rintro hm a9 ah s' _ w hk ⟨O,rfl,j⟩ hb
  refine RC.sr (ic ((a9:Int)) ((p1.length:Int)) (RL.nq (RC.cN (l8 hk) (RC.ss (RC.bs ?_)))))
  obtain⟨b8,b9,hb⟩:=bd hb
  refine RL.cC 7 j va b9 fun db j=>(RL.bO 0 b8 j sW fun dc j=>(RL.alloc j A4.z fun dd w j=>?_))
  refine RL.bA 0 j 1 zr sW fun w j=>?_
  refine RL.ns (RL.aY zr sX (RL.aL 0 j zr mn xU (RL.nt ?_)))
  obtain⟨bo,hj,hb⟩:=bd hb
  refine RC.jn (fun(bo: (List (Int×Bool)))=>SH E V [(0,vp b0 0),(1,v1),(5,vp ab 0),(6,(.func (.func 60) #[] #[(vp ab 0)])),(7,vp ad 0),(32,v1),(33,vi p1.length),(34,vi a9)] [bc 126 b0 [v0_0,v0_1,v0_2,v0_3,v0_4,v0_5,v0_6,v0_7,v0_8,v0_9,v0_10,v0_11],rd v0_2 p0_2,rd v0_3 p0_3,rd v0_5 p0_5,rd v0_6 p0_6,rd v0_10 p0_10,rd v0_11 p0_11,rd v1 p1,pt (vp ab 0) (p0_5.length:Int),bc 143 ad [ae],mp ae bo]) bo ?_ ?_
  ·refine eL hj (fun hc hj=>?_) fun hc hj=>?_
   rotate_left
   ·refine RC.skip ?_
    obtain rfl:=oi hj
    exact⟨rfl,j.sp 14 [3,4,5,6,7,8,9,10,11,12,13]⟩
   have j:=j.drew
   refine RC.EH (fun w=>Holds E w ([bc 143 ad [ae]]++V)) mixed zr [1,0,0,0,2,2] [0,1,2,3,4,5] (j.pk 14 [12]) (DP.HJ ae zr (fun w j=>RL.aW 0 ae j A6 DP.d1) (DP.e0 zr (mv (.func (.func 60) #[] #[(vp ab 0)]) (bU zr (RL.aY zr vc (bU zr (RL.aS 0 j zr nC qQ fun ca j=>(sS zr ?_))))))))
   obtain⟨cb,cc,hj⟩:=bd hj
   refine RL.ox [(vp ab 0)] JI [ca] (aF (m8 N (i0:=0) (i1:=12) j zr zr cc) ?_)
   rintro _ w ⟨rfl,j⟩
   refine DP.d2 (j.pk 15 [13]) (DP.e2 zr ?_)
   have j:=j.sc Bool true
   refine RL.mapUpdate 15 0 cb j zr zr zr zr zr CW fun w j=>(DP.d2 (j.pk 16 [14]) (DP.z ?_))
   obtain rfl:=oi hj
   exact⟨rfl,j.sp 16 [5,6,7,8,9,10,11,12,13,14,15]⟩
  rintro _ w ⟨O,rfl,j⟩
  refine bL (aG (RC.region (RL.inc hk hm (mv (vi ((a9+1:Nat):Int)) (RL.nil ?_)))))
  obtain rfl:=oi hb
  exact⟨rfl,j.sp 11 [0,1,2,3,4,5,6,7,8,9,10]⟩
 rintro _ w ⟨O,rfl,j⟩
 refine aG (RC.seq ?_)
 obtain⟨cd,cf,hb⟩:=bd hb
 refine RC.Ei E V mixed [0,1,1,1,1,0,0,1,0,0,0] [8,9,10] (fun(x:Nat×Value×Nat)=>(fun aa ak o=>[(0,46,(vi p0_5.length)),(1,47,(vp b0 0)),(2,48,(vp b0 0)),(3,49,(vp b0 0)),(4,50,(vp b0 2)),(5,51,v0_2),(6,52,(vi p0_2.length)),(7,53,(vi (IntKind.wrap .i64 ((p0_5.length:Int)+ (p0_2.length:Int))))),(8,54,(vp aa 0)),(9,10,(vp o 0))]) x.1 x.2.1 x.2.2) [(0,vp b0 0),(1,v1),(5,vp ab 0),(6,(.func (.func 60) #[] #[(vp ab 0)])),(7,vp ad 0)] [] (fun(D:Nat->Bool) (x:Nat×Value×Nat)=>(fun aa ak o=>[bif D 0 then (bc 176 aa [ak]) else aX,bif D 0 then (own 3 ak cd) else aX,bif D 2 then (bc 144 o [(vp aa 0)]) else (bif D 1 then (bc 144 o [(.pointer none)]) else aX),bc 126 b0 [v0_0,v0_1,v0_2,v0_3,v0_4,v0_5,v0_6,v0_7,v0_8,v0_9,v0_10,v0_11],rd v0_2 p0_2,rd v0_3 p0_3,rd v0_5 p0_5,rd v0_6 p0_6,rd v0_10 p0_10,rd v0_11 p0_11,rd v1 p1,pt (vp ab 0) (p0_5.length:Int),bc 143 ad [ae],mp ae ah]) x.1 x.2.1 x.2.2) (fun x=>by kernel_rfl) ?_ ⟨?_,fun _=>jD gn,fun _=>vX gn,fun _=>mi gn ke,fun _=>mi gn mq,?_,?_,fun _=>Gn gn rfl,?_,?_,?_,trivial⟩ ?_
 ·have j:=(((j.drew).aX).aX).aX
  exact⟨(0,undef,0),eF.none,(CN zr),zt,j⟩
 ·rintro D U w hD au a0 ⟨⟨aa,ak,o⟩,hv,ha,_,j⟩
  obtain⟨O,rfl⟩:=(ac (ha.at 2 rfl) az).fx
  refine RL.bI (p0_5.length:Int) 11 j cH ?_
  exact RL.nil ⟨rfl,(aa,ak,o),hv.pu 0,ha.u,zt,j⟩
 ·rintro D U w hD au a0 ⟨⟨aa,ak,o⟩,hv,ha,_,j⟩
  obtain⟨O,rfl⟩:=(ac (hv.at 4 rfl (au.1 rfl)) az).fx
  refine RL.aW 3 v0_2 j u7 ?_
  exact RL.nil ⟨rfl,(aa,ak,o),hv.pu 5,ha.u,zt,j⟩
 ·rintro D U w hD au a0 ⟨⟨aa,ak,o⟩,hv,ha,_,j⟩
  obtain⟨O,rfl⟩:=(ac (hv.at 5 rfl (au.1 rfl)) az).fx
  refine RL.bB 4 p0_2 j wY ?_
  exact RL.nil ⟨rfl,(aa,ak,o),hv.pu 6,ha.u,zt,j⟩
 ·rintro D U w hD au a0 ⟨⟨aa,ak,o⟩,hv,ha,_,j⟩
  obtain⟨O,rfl⟩:=(ac (hv.at 7 rfl (au.1 rfl)) az).fx
  have j:=((j.cA 0 hD).cA 1 hD).cA 2 (nh a0 hD 10)
  refine RL.call zt zr Jl [(vi (IntKind.wrap .i64 ((p0_5.length:Int)+ (p0_2.length:Int))))] zr (aF (m6 N (p0:=(IntKind.wrap .i64 ((p0_5.length:Int)+ (p0_2.length:Int)))) j cf) ?_)
  rintro _ w ⟨b1,ch,rfl,j⟩
  have j:=(((j.pl 16 [0,1,4,5,6,7,8,9,10,11,12,13,14,15]).cK 0 true aX).cK 1 true aX).fu 2 (D 10) (nh a0 hD 10) (bc 144 o [(vp b1 0)])
  exact RL.nil ⟨rfl,(b1,ch,o),hv.pu 8,ha.u,zt,j⟩
 ·rintro D U w hD au a0 ⟨⟨aa,ak,o⟩,hv,ha,_,j⟩
  obtain⟨O,rfl⟩:=(az (U:=U)).fx
  have j:=(j.cA 2 (nh a0 hD 10)).cA 2 hD
  refine RL.o4 j JJ fun b2 w j=>?_
  have j:=((j.pl 15 [1,2,0,4,5,6,7,8,9,10,11,12,13,14]).cK 2 true aX).fu 2 (D 10) (nh a0 hD 10) (bc 144 b2 [(vp aa 0)])
  exact RL.nil ⟨rfl,(aa,ak,b2),hv.pu 9,ha.u,zt,j⟩
 ·rintro D U w hD au a0 ⟨⟨aa,ak,o⟩,hv,ha,_,j⟩
  obtain⟨O,rfl⟩:=(ac (hv.at 8 rfl (au.2.1 rfl)) (ac (hv.at 9 rfl (au.1 rfl)) az)).fx
  have j:=((j.cJ 0 (au.2.1 rfl)).cA 2 hD).cJ 2 (au.1 rfl)
  refine RL.gK 2 (vp aa 0) j zr zr zr A7 fun w j=>?_
  have j:=(j.cK (hb:=au.2.1 rfl) 0 (D 8) aX).cK 2 true (bif D 9 then (bc 144 o [(.pointer none)]) else aX)
  exact RL.nil ⟨rfl,(aa,ak,o),hv.n1,ha,zt,j⟩
 rintro D U w bh ⟨⟨aa,ak,o⟩,hv,ha,_,j⟩
 have j:=((j.cJ 0 (jT bh 8)).cJ 1 (jT bh 8)).cJ 2 (jT bh 10)
 obtain⟨O,rfl⟩:=(ac (hv.at 9 rfl (jT bh 9)) (ac (ha.at 0 rfl) (ac (ha.at 1 rfl) (ac (ha.at 2 rfl) (ac (ha.at 3 rfl) (ac (ha.at 4 rfl) az)))))).fx
 refine aG (RC.sr (RL.makeFunc [(vp ad 0),(vp o 0)] (aM (.func (.func 62) #[] #[(vp ad 0),(vp o 0)]) (RL.nq (RC.sr (mv (vp b0 0) (RL.nilCheck zr (RL.aY zr wv ?_))))))))
 refine RL.aW 3 v0_6 j CR (RL.bB 7 p0_6 j CS (mv (vi 0) (RL.nt ?_)))
 obtain⟨a5,hN,hb⟩:=bd hb
 refine RC.fold (fun(av:Nat) (a5: (List Int)) U w=>∃b3:Value,SH E V [(0,vp b0 0),(1,v1),(5,vp ab 0),(6,(.func (.func 60) #[] #[(vp ab 0)])),(7,vp ad 0),(10,vp o 0),(11,(.func (.func 62) #[] #[(vp ad 0),(vp o 0)])),(59,v0_6),(60,vi p0_6.length),(61,vi av)] [bc 126 b0 [v0_0,v0_1,v0_2,v0_3,v0_4,v0_5,v0_6,v0_7,v0_8,v0_9,v0_10,v0_11],rd v0_2 p0_2,rd v0_3 p0_3,rd v0_5 p0_5,rd v0_6 p0_6,rd v0_10 p0_10,rd v0_11 p0_11,rd v1 p1,pt (vp ab 0) (p0_5.length:Int),bc 143 ad [ae],mp ae ah,bc 144 o [(vp aa 0)],bc 176 aa [b3],own 3 b3 a5] U w) (fun(a5: (List Int)) U w=>∃bj:Value,SH E V [(0,vp b0 0),(1,v1),(6,(.func (.func 60) #[] #[(vp ab 0)])),(7,vp ad 0),(10,vp o 0),(11,(.func (.func 62) #[] #[(vp ad 0),(vp o 0)]))] [bc 126 b0 [v0_0,v0_1,v0_2,v0_3,v0_4,v0_5,v0_6,v0_7,v0_8,v0_9,v0_10,v0_11],rd v0_2 p0_2,rd v0_3 p0_3,rd v0_5 p0_5,rd v0_6 p0_6,rd v0_10 p0_10,rd v0_11 p0_11,rd v1 p1,pt (vp ab 0) (p0_5.length:Int),bc 143 ad [ae],mp ae ah,bc 144 o [(vp aa 0)],bc 176 aa [bj],own 3 bj a5] U w) hN ?_ ?_ ?_ ?_
 ·exact⟨ak,j.sp 14 [3,4,5,6,7,8,9,10,11,12,13,2,0,1]⟩
 ·rintro hm a5 _ w ⟨cj,O,rfl,j⟩
  refine RC.sr (ic ((p0_6.length:Int)) ((p0_6.length:Int)) (RL.nq (RC.cO l9 (RC.ex ?_))))
  exact⟨rfl,cj,j.sp 14 [0,1,2,3,4,5,6,7,8,9,10,11,12,13]⟩
 ·rintro hm av a5 s' _ w hk ⟨ck,O,rfl,j⟩ hb
  refine RC.sr (ic ((av:Int)) ((p0_6.length:Int)) (RL.nq (RC.cN (l8 hk) (RC.ss (RC.bs (mv (vi av) ?_))))))
  obtain⟨a3,cl,hb⟩:=bd hb
  refine RL.cC 4 j w3 cl fun de j=>(RL.bO 0 a3 j fz fun ba j=>(aM (vi av) (aM ba (RL.ns (mv ba (RL.bB 0 a3 j lQ (mv (vi 0) (RL.nt ?_))))))))
  obtain⟨a6,hN,hb⟩:=bd hb
  refine RC.fold (fun(bk:Nat) (a6: (List Int)) U w=>∃b4:Value,SH E V [(0,vp b0 0),(1,v1),(5,vp ab 0),(6,(.func (.func 60) #[] #[(vp ab 0)])),(7,vp ad 0),(10,vp o 0),(11,(.func (.func 62) #[] #[(vp ad 0),(vp o 0)])),(12,vi av),(59,v0_6),(60,vi p0_6.length),(61,vi av),(66,ba),(67,vi a3.length),(68,vi bk)] [bc 126 b0 [v0_0,v0_1,v0_2,v0_3,v0_4,v0_5,v0_6,v0_7,v0_8,v0_9,v0_10,v0_11],rd v0_2 p0_2,rd v0_3 p0_3,rd v0_5 p0_5,rd v0_6 p0_6,rd v0_10 p0_10,rd v0_11 p0_11,rd v1 p1,pt (vp ab 0) (p0_5.length:Int),bc 143 ad [ae],mp ae ah,bc 144 o [(vp aa 0)],bc 176 aa [b4],own 3 b4 a6,rd ba a3] U w) (fun(a6: (List Int)) U w=>∃bl:Value,SH E V [(0,vp b0 0),(1,v1),(5,vp ab 0),(6,(.func (.func 60) #[] #[(vp ab 0)])),(7,vp ad 0),(10,vp o 0),(11,(.func (.func 62) #[] #[(vp ad 0),(vp o 0)])),(59,v0_6),(60,vi p0_6.length),(61,vi av)] [bc 126 b0 [v0_0,v0_1,v0_2,v0_3,v0_4,v0_5,v0_6,v0_7,v0_8,v0_9,v0_10,v0_11],rd v0_2 p0_2,rd v0_3 p0_3,rd v0_5 p0_5,rd v0_6 p0_6,rd v0_10 p0_10,rd v0_11 p0_11,rd v1 p1,pt (vp ab 0) (p0_5.length:Int),bc 143 ad [ae],mp ae ah,bc 144 o [(vp aa 0)],bc 176 aa [bl],own 3 bl a6,rd ba a3] U w) hN ?_ ?_ ?_ ?_
  ·exact⟨ck,j.sp 16 [2,3,4,5,6,7,8,9,10,11,12,13,14,15,0]⟩
  ·rintro hm a6 _ w ⟨cm,O,rfl,j⟩
   refine RC.sr (ic ((a3.length:Int)) ((a3.length:Int)) (RL.nq (RC.cO l9 (RC.ex ?_))))
   exact⟨rfl,cm,j.sp 15 [0,1,2,3,4,5,6,7,8,9,10,11,12,13,14]⟩
  ·rintro hm bk a6 s' _ w hk ⟨df,O,rfl,j⟩ hb
   refine RC.sr (ic ((bk:Int)) ((a3.length:Int)) (RL.nq (RC.cN (l8 hk) (RC.ss (RC.bs ?_)))))
   obtain⟨bb,cn,hb⟩:=bd hb
   refine RL.cC 14 j eD cn fun dg j=>(RL.bI bb 0 j cH (aM (vi bb) (RL.nt (RC.region (mv (.func (.func 62) #[] #[(vp ad 0),(vp o 0)]) (mv (vi bb) (RL.bI (p0_5.length:Int) 9 j cH (mv (vi av) ?_))))))))
   refine RL.jl (p0_5.length:Int) (av:Int) ?_
   have j:=((((j.pull 14).pull 14).pull 14).pull 14).pull 14
   obtain⟨dh,cp,hb⟩:=bd hb
   refine RL.ox [(vp ad 0),(vp o 0)] JK [(vi bb),(vi (IntKind.wrap .i64 ((p0_5.length:Int)+ (av:Int))))] (aF (m9 N (p0:=bb) (p1:=(IntKind.wrap .i64 ((p0_5.length:Int)+ (av:Int)))) j cp) ?_)
   rintro _ w ⟨cq,rfl,j⟩
   refine RL.nil (bL (aG (RC.region (RL.inc hk hm (mv (vi ((bk+1:Nat):Int)) (RL.nil ?_))))))
   obtain rfl:=oi hb
   exact⟨rfl,cq,j.sp 21 [6,7,8,9,10,11,12,13,14,0,1,2,3,4,20]⟩
  rintro _ w ⟨bl,O,rfl,j⟩
  refine bL (aG (RC.region (RL.inc hk hm (mv (vi ((av+1:Nat):Int)) (RL.nil ?_)))))
  obtain rfl:=oi hb
  exact⟨rfl,bl,j.sp 15 [0,1,2,3,4,5,6,7,8,9,10,11,12,13]⟩
 rintro _ w ⟨bj,O,rfl,j⟩
 refine aG (RC.seq (RC.sr (mv v1 (RL.bB 7 p1 j xZ (mv (vi 0) (RL.nt ?_))))))
 obtain⟨a7,hN,hb⟩:=bd hb
 refine RC.fold (fun(bf:Nat) (a7: (List Int)) U w=>∃b5:Value,SH E V [(0,vp b0 0),(6,(.func (.func 60) #[] #[(vp ab 0)])),(7,vp ad 0),(10,vp o 0),(11,(.func (.func 62) #[] #[(vp ad 0),(vp o 0)])),(80,v1),(81,vi p1.length),(82,vi bf)] [bc 126 b0 [v0_0,v0_1,v0_2,v0_3,v0_4,v0_5,v0_6,v0_7,v0_8,v0_9,v0_10,v0_11],rd v0_2 p0_2,rd v0_3 p0_3,rd v0_5 p0_5,rd v0_6 p0_6,rd v0_10 p0_10,rd v0_11 p0_11,pt (vp ab 0) (p0_5.length:Int),bc 143 ad [ae],mp ae ah,bc 144 o [(vp aa 0)],bc 176 aa [b5],own 3 b5 a7,rd v1 p1] U w) (fun(a7: (List Int)) U w=>∃bm:Value,SH E V [(0,vp b0 0),(6,(.func (.func 60) #[] #[(vp ab 0)])),(7,vp ad 0),(10,vp o 0)] [bc 126 b0 [v0_0,v0_1,v0_2,v0_3,v0_4,v0_5,v0_6,v0_7,v0_8,v0_9,v0_10,v0_11],rd v0_2 p0_2,rd v0_3 p0_3,rd v0_5 p0_5,rd v0_6 p0_6,rd v0_10 p0_10,rd v0_11 p0_11,pt (vp ab 0) (p0_5.length:Int),bc 143 ad [ae],mp ae ah,bc 144 o [(vp aa 0)],bc 176 aa [bm],own 3 bm a7,rd v1 p1] U w) hN ?_ ?_ ?_ ?_
 ·exact⟨bj,j.sp 14 [0,1,2,3,4,5,6,8,9,10,11,12,13,7]⟩
 ·rintro hm a7 _ w ⟨cr,O,rfl,j⟩
  refine RC.sr (ic ((p1.length:Int)) ((p1.length:Int)) (RL.nq (RC.cO l9 (RC.ex ?_))))
  exact⟨rfl,cr,j.sp 14 [0,1,2,3,4,5,6,7,8,9,10,11,12,13]⟩
 ·rintro hm bf a7 s' _ w hk ⟨ct,O,rfl,j⟩ hb
  refine RC.sr (ic ((bf:Int)) ((p1.length:Int)) (RL.nq (RC.cN (l8 hk) (RC.ss (RC.bs ?_)))))
  obtain⟨a8,cu,hb⟩:=bd hb
  refine RL.cC 13 j va cu fun di j=>(RL.bO 0 a8 j sW fun dj j=>(RL.alloc j A4.z fun dk w j=>?_))
  refine RL.bA 0 j 1 zr sW fun w j=>?_
  refine RL.ns (RL.aY zr sX (RL.aL 0 j zr mn xU (RL.not a8.Open (RL.nt ?_))))
  obtain⟨bp,hj,hb⟩:=bd hb
  refine RC.jn (fun(bp: (List Int)) U w=>∃bn:Value,SH E V [(0,vp b0 0),(6,(.func (.func 60) #[] #[(vp ab 0)])),(7,vp ad 0),(10,vp o 0),(11,(.func (.func 62) #[] #[(vp ad 0),(vp o 0)])),(80,v1),(81,vi p1.length),(82,vi bf)] [bc 126 b0 [v0_0,v0_1,v0_2,v0_3,v0_4,v0_5,v0_6,v0_7,v0_8,v0_9,v0_10,v0_11],rd v0_2 p0_2,rd v0_3 p0_3,rd v0_5 p0_5,rd v0_6 p0_6,rd v0_10 p0_10,rd v0_11 p0_11,pt (vp ab 0) (p0_5.length:Int),bc 143 ad [ae],mp ae ah,bc 144 o [(vp aa 0)],bc 176 aa [bn],own 3 bn bp,rd v1 p1] U w) bp ?_ ?_
  ·refine eL hj (fun hc hj=>?_) fun hc hj=>?_
   rotate_left
   ·refine RC.skip ?_
    obtain rfl:=oi hj
    exact⟨rfl,ct,j.sp 17 [3,4,5,6,7,8,9,10,11,12,13,14,15,16]⟩
   refine RC.region (mv (.func (.func 62) #[] #[(vp ad 0),(vp o 0)]) (RL.aY zr zH (RL.aL 0 j zr rJ cH (RL.aY zr zI (RL.aL 0 j zr rK cH ?_)))))
   have j:=((((j.pull 15).pull 15).pull 15).pull 15).pull 15
   obtain⟨dm,cv,hj⟩:=bd hj
   refine RL.ox [(vp ad 0),(vp o 0)] JK [(vi a8.A),(vi a8.B)] (aF (m9 N (p0:=a8.A) (p1:=a8.B) j cv) ?_)
   rintro _ w ⟨cw,rfl,j⟩
   refine RL.nil ?_
   obtain rfl:=oi hj
   exact⟨rfl,cw,j.sp 22 [8,9,10,11,12,13,14,15,0,1,2,3,4,21]⟩
  rintro _ w ⟨bn,O,rfl,j⟩
  refine bL (aG (RC.region (RL.inc hk hm (mv (vi ((bf+1:Nat):Int)) (RL.nil ?_)))))
  obtain rfl:=oi hb
  exact⟨rfl,bn,j.sp 14 [0,1,2,3,4,5,6,7,8,9,10,11,12,13]⟩
 rintro _ w ⟨bm,O,rfl,j⟩
 refine aG (RC.sr (RL.makeMap (κ:=Int) (ν:=Int) zr j fun ax w j=>(aM ax (RL.ns (mv (vp b0 0) (RL.nilCheck zr (RL.aY zr ke (RL.aY zr u9 ?_))))))))
 refine RL.aW 1 v0_3 j DE (RL.bB 3 p0_3 j ET ?_)
 obtain⟨dn,cx,hb⟩:=bd hb
 refine RL.mk (p0_3.length:Int) j tU Ii cx fun aw w j=>?_
 refine aM aw (RL.nq (RC.sr (mv (vp b0 0) (RL.nilCheck zr (RL.aY zr zG (RL.aW 2 v0_11 j E2 (RL.bB 8 p0_11 j JL (mv (vi 0) ?_))))))))
 refine RL.nt ?_
 obtain⟨ag,hN,hb⟩:=bd hb
 refine RC.fold (fun(al:Nat) (ag: (List Int)×(List (Int×Int))×(List Int)) U w=>∃b6:Value,SH E V [(0,vp b0 0),(6,(.func (.func 60) #[] #[(vp ab 0)])),(7,vp ad 0),(10,vp o 0),(18,ax),(19,aw),(107,v0_11),(108,vi p0_11.length),(109,vi al)] [bc 126 b0 [v0_0,v0_1,v0_2,v0_3,v0_4,v0_5,v0_6,v0_7,v0_8,v0_9,v0_10,v0_11],rd v0_2 p0_2,rd v0_3 p0_3,rd v0_5 p0_5,rd v0_6 p0_6,rd v0_10 p0_10,rd v0_11 p0_11,pt (vp ab 0) (p0_5.length:Int),bc 143 ad [ae],mp ae ah,bc 144 o [(vp aa 0)],bc 176 aa [b6],own 3 b6 ag.1,mp ax ag.2.1,own 3 aw ag.2.2] U w) (fun(ag: (List Int)×(List (Int×Int))×(List Int)) U w=>∃bq:Value,SH E V [(0,vp b0 0),(19,aw)] [bc 126 b0 [v0_0,v0_1,v0_2,v0_3,v0_4,v0_5,v0_6,v0_7,v0_8,v0_9,v0_10,v0_11],rd v0_2 p0_2,rd v0_3 p0_3,rd v0_5 p0_5,rd v0_6 p0_6,rd v0_10 p0_10,rd v0_11 p0_11,pt (vp ab 0) (p0_5.length:Int),bc 143 ad [ae],mp ae ah,bc 144 o [(vp aa 0)],bc 176 aa [bq],own 3 bq ag.1,mp ax ag.2.1,own 3 aw ag.2.2] U w) hN ?_ ?_ ?_ ?_
 ·exact⟨bm,j.sp 16 [2,3,4,5,6,7,8,9,10,11,12,13,14,1,0]⟩
 ·rintro hm ag _ w ⟨cy,O,rfl,j⟩
  refine RC.sr (ic ((p0_11.length:Int)) ((p0_11.length:Int)) (RL.nq (RC.cO l9 (RC.ex ?_))))
  exact⟨rfl,cy,j.sp 15 [0,1,2,3,4,5,6,7,8,9,10,11,12,13,14]⟩
 ·rintro hm al ag s' _ w hk ⟨br,O,rfl,j⟩ hb
  refine RC.sr (ic ((al:Int)) ((p0_11.length:Int)) (RL.nq (RC.cN (l8 hk) (RC.ss (RC.bs (mv (vi al) ?_))))))
  obtain⟨cz,c0,hb⟩:=bd hb
  refine RL.cC 6 j Hh c0 fun dp j=>(RL.bO 0 cz j qQ fun dq j=>(RL.alloc j Gv.z fun dr w j=>?_))
  refine aM (vi al) (RL.bA 0 j 1 zr qQ fun w j=>?_)
  refine RL.ns (mv (.func (.func 60) #[] #[(vp ab 0)]) (RL.aS (f:=(fun x=>x)) 0 j zr Fd.self qQ fun c1 j=>?_))
  obtain⟨aq,c2,hb⟩:=bd hb
  refine RL.ox [(vp ab 0)] JI [c1] (aF (m8 N (i0:=0) (i1:=11) j zr zr c2) ?_)
  rintro _ w ⟨rfl,j⟩
  refine aM (vi aq) (RL.nq (RC.seq ?_))
  obtain⟨bt,hj,hb⟩:=bd hb
  refine RC.jn (fun(bt:Bool)=>SH E V [(0,vp b0 0),(6,(.func (.func 60) #[] #[(vp ab 0)])),(7,vp ad 0),(10,vp o 0),(18,ax),(19,aw),(20,vi al),(22,vi aq),(107,v0_11),(108,vi p0_11.length),(109,vi al),(129,vb bt)] [bc 126 b0 [v0_0,v0_1,v0_2,v0_3,v0_4,v0_5,v0_6,v0_7,v0_8,v0_9,v0_10,v0_11],rd v0_2 p0_2,rd v0_3 p0_3,rd v0_5 p0_5,rd v0_6 p0_6,rd v0_10 p0_10,rd v0_11 p0_11,pt (vp ab 0) (p0_5.length:Int),bc 143 ad [ae],mp ae ah,bc 144 o [(vp aa 0)],bc 176 aa [br],own 3 br ag.1,mp ax ag.2.1,own 3 aw ag.2.2]) bt ?_ ?_
  ·refine RC.region (mv (vp b0 0) (RL.nilCheck zr (RL.aY zr zF (RL.aW 4 v0_10 j fz (mv (vi al) ?_)))))
   obtain⟨bu,c3,hj⟩:=bd hj
   refine RL.cC 9 j eD c3 fun ds j=>(RL.bI bu 0 j cH (ic bu 0 (mv (vb (decide (bu<0))) (fM hj (fun a1 hj=>?_) fun a1 hj=>?_))))
   ·refine bJ a1 (bJ a1 (bJ a1 (fI a1 (vb true) (RL.nil ?_))))
    obtain rfl:=oi hj
    exact⟨rfl,j.sp 20 [5,6,7,8,9,10,11,12,13,14,15,16,17,18,19]⟩
   refine RL.aW (hg:=(cg a1)) 13 ae j A6 (RL.move (vi aq) (cg a1) (RL.o1 14 aq (cg a1) j CW (fI a1 (vb (dK ah aq (false:Bool))) (RL.nil ?_))))
   obtain rfl:=oi hj
   exact⟨rfl,j.sp 20 [5,6,7,8,9,10,11,12,13,14,15,16,17,18,19]⟩
  rintro _ w ⟨O,rfl,j⟩
  refine aG (eL hb (fun hc hb=>?_) fun hc hb=>?_)
  ·refine RC.sr (mv aw (mv (vi al) ?_))
   obtain⟨dt,bw,hb⟩:=bd hb
   refine RL.bY 14 j zr zr eD bw ?_
   have j:=j.sc Int (-1)
   refine RL.gr (f:=(fun _ y=>y)) 15 0 j (jZ 15 j bw 0) (bC bw).2.1 zr Fs.self cH fun w j=>?_
   refine RL.nt (RC.ex (Hq (aG (RC.region (RL.inc hk hm (mv (vi ((al+1:Nat):Int)) (RL.nil ?_)))))))
   obtain rfl:=oi hb
   exact⟨rfl,br,j.sp 16 [1,2,3,4,5,6,7,8,9,10,11,12,13,14,15]⟩
  refine RC.ss (RC.sr (mv ax (RL.aW 10 (vp aa 0) j A7 (mv (vi aq) ?_))))
  have j:=(j.pull 12).pull 12
  obtain⟨a2,c4,hb⟩:=bd hb
  refine RL.call zt zr DH [(vp aa 0),(vi aq)] zr (aF (fS N (p1:=aq) j c4) ?_)
  rintro _ w ⟨c5,rfl,j⟩
  refine RL.Av 15 a2.1 zr j zr zr zr vJ (mv (.tuple #[(vi (dK ag.2.1 a2.1 (0:Int))),(vb (iM ag.2.1 a2.1))]) (RL.extract (vi (dK ag.2.1 a2.1 (0:Int))) (RL.extract (vb (iM ag.2.1 a2.1)) (aM (vi (dK ag.2.1 a2.1 (0:Int))) (aM (vb (iM ag.2.1 a2.1)) (RL.ns (mv (vb (iM ag.2.1 a2.1)) (RL.not (iM ag.2.1 a2.1) ?_))))))))
  refine RL.nt ?_
  obtain⟨bg,hj,hb⟩:=bd hb
  refine RC.jn (fun(bg: (List Int)×(List (Int×Int))) U w=>∃bx:Value,SH E V [(0,vp b0 0),(6,(.func (.func 60) #[] #[(vp ab 0)])),(7,vp ad 0),(10,vp o 0),(18,ax),(19,aw),(20,vi al),(22,vi aq),(107,v0_11),(108,vi p0_11.length),(109,vi al)] [bc 126 b0 [v0_0,v0_1,v0_2,v0_3,v0_4,v0_5,v0_6,v0_7,v0_8,v0_9,v0_10,v0_11],rd v0_2 p0_2,rd v0_3 p0_3,rd v0_5 p0_5,rd v0_6 p0_6,rd v0_10 p0_10,rd v0_11 p0_11,pt (vp ab 0) (p0_5.length:Int),bc 143 ad [ae],mp ae ah,bc 144 o [(vp aa 0)],bc 176 aa [bx],own 3 bx bg.1,mp ax bg.2,own 3 aw ag.2.2] U w) bg ?_ ?_
  ·refine eL hj (fun hc hj=>?_) fun hc hj=>?_
   rotate_left
   ·refine RC.skip ?_
    obtain rfl:=oi hj
    exact⟨rfl,c5,j.sp 17 [2,3,4,5,6,7,8,9,10,11,12,0,1,15,16]⟩
   refine RC.region (mv ax (RL.aW 12 (vp aa 0) j A7 (mv (vi aq) ?_)))
   have j:=(j.pull 1).pull 1
   obtain⟨c6,c7,hj⟩:=bd hj
   refine RL.call zt zr DH [(vp aa 0),(vi aq)] zr (aF (fS N (p1:=aq) j c7) ?_)
   rintro _ w ⟨c8,rfl,j⟩
   refine mv (vi al) ?_
   have j:=j.sc Int (al:Int)
   refine RL.mapUpdate 18 0 c6.1 j zr zr zr zr zr vJ fun w j=>(RL.nil ?_)
   obtain rfl:=oi hj
   exact⟨rfl,c8,j.sp 20 [5,6,7,8,9,10,11,12,13,14,15,1,2,18,19]⟩
  rintro _ w ⟨bx,O,rfl,j⟩
  refine aG (RC.region (mv aw (mv (vi al) (mv ax (RL.aW 10 (vp aa 0) j A7 (mv (vi aq) ?_))))))
  have j:=(j.pull 12).pull 12
  obtain⟨b7,c9,hb⟩:=bd hb
  refine RL.call zt zr DH [(vp aa 0),(vi aq)] zr (aF (fS N (p1:=aq) j c9) ?_)
  rintro _ w ⟨da,rfl,j⟩
  refine RL.o1 15 b7.1 zt j vJ ?_
  obtain⟨du,bz,hb⟩:=bd hb
  refine RL.bY 16 j zr zr eD bz ?_
  have j:=j.sc Int (dK bg.2 b7.1 (0:Int))
  refine RL.gr (f:=(fun _ y=>y)) 17 0 j (jZ 17 j bz 0) (bC bz).2.1 zr Fs.self cH fun w j=>?_
  refine RL.nil (bL (aG (RC.region (RL.inc hk hm (mv (vi ((al+1:Nat):Int)) (RL.nil ?_))))))
  obtain rfl:=oi hb
  exact⟨rfl,da,j.sp 18 [3,4,5,6,7,8,9,10,11,12,13,1,2,16,17]⟩
 rintro _ w ⟨bq,O,rfl,j⟩
 refine aG (RC.sr (mv aw (aM aw (RL.nt (RC.ret ?_)))))
 obtain rfl:=oi hb
 exact cF (j.pk 15 [14,0])
def uq (E:World) (V:List HP) (res:Bool×Int) (v:Value) (w:World):Prop:=v = .tuple #[(vb res.1),(vi res.2)]/\Holds E w V
theorem tj {p0:iu} {p1: (List bS)} {p2 p3:fN} {res:Bool×Int} (j:Holds E w V) (h0:V[i0]? =some (rd v0 p0)) (h1:V[i1]? =some (rd v1 p1)) (h2:V[i2]? =some (rd v2 p2)) (h3:V[i3]? =some (rd v3 p3)) (o:hU N p0 p1 p2 p3=some res):
    Calls bG 29 [v0,v1,v2,v3].toArray w (gH (uq E V res)):=by
 unfold hU at o
 refine enter Tryz.func29 zr zr ?_
 have j:=(((j.dup (i0+0) h0).dup (i1+1) h1).dup (i2+2) h2).dup (i3+3) h3
 refine RC.sr (RL.cY 3 v0 j zr fun a6 w j=>?_)
 have j:=j.gx (i:=0) rfl
 refine RL.cY 2 v2 j zr fun a7 w j=>?_
 have j:=j.gx (i:=0) rfl
 refine RL.cY 2 v3 j zr fun a8 w j=>?_
 have j:=j.gx (i:=0) rfl
 refine aM (vb false) (aM (vi 0) (RL.ns (RL.bO 2 p0 j nj fun aw j=>?_)))
 obtain⟨ab,ax,o⟩:=bd o
 refine RL.call zt zr HS [aw] zr (aF (nU N (i0:=0) j zr ax) ?_)
 rintro _ w hK51
 rcases aj:ab.1 with _ | a9
 ·replace o:=Dm aj o
  obtain⟨rfl,j⟩:=yw aj hK51
  refine mv (.tuple #[(.pointer none),(vi ab.2)]) (RL.extract (.pointer none) (RL.extract (vi ab.2) (aM (.pointer none) (aM (vi ab.2) (RL.nq (RC.sr (mv (vi ab.2) (ic ab.2 0 ?_))))))))
  refine RL.nt (eL o (fun hc o=>?_) fun hc o=>?_)
  rotate_left
  ·cases o
  refine RC.sr (mv (vi ab.2) (aM (vb false) (aM (vi ab.2) (RL.nt (RC.rt ?_)))))
  obtain rfl:=oi o
  exact iL ⟨rfl,j.drop 8⟩
 replace o:=Dn aj o
 obtain⟨ah,ba,bb,bc,bf,bg,bh,bj,bk,bl,bm,bn,bo,rfl,j⟩:=yx aj hK51
 refine mv (.tuple #[(vp ah 0),(vi ab.2)]) (RL.extract (vp ah 0) (RL.extract (vi ab.2) (aM (vp ah 0) (aM (vi ab.2) (RL.nq (RC.sr (mv (vi ab.2) (ic ab.2 0 ?_))))))))
 refine RL.nt (eL o (fun hc o=>?_) fun hc o=>?_)
 ·refine RC.sr (mv (vi ab.2) (aM (vb false) (aM (vi ab.2) (RL.nt (RC.rt ?_)))))
  obtain rfl:=oi o
  exact iL ⟨rfl,j.drop 21⟩
 refine RC.ss (RC.sr (mv (vp ah 0) (mv v1 ?_)))
 have j:=((((((((((((j.freeze 5).freeze 8).freeze 11).freeze 12).dup 12 rfl).dup 12 rfl).dup 12 rfl).dup 12 rfl).dup 12 rfl).dup 12 rfl).dup 12 rfl).dup 12 rfl).dup 12 rfl
 have j:=(((j.dup 12 rfl).dup 12 rfl).dup 12 rfl).pull 12
 obtain⟨ai,ay,o⟩:=bd o
 refine RL.call zt zr JG [(vp ah 0),v1] zr (aF (m7 N (i1:=19) j zr ay) ?_)
 rintro _ w ⟨rfl,j⟩
 refine aM (vi ai) (RL.ns (mv (vi ai) (ic ai 0 (RL.nt (eL o (fun hc o=>?_) fun hc o=>?_)))))
 ·refine RC.sr (mv (vi ai) (aM (vb false) (aM (vi ai) (RL.nt (RC.rt ?_)))))
  obtain rfl:=oi o
  exact iL ⟨rfl,j.drop 22⟩
 refine RC.ss (RC.wk mixed [0,0,2,1,1,2,0,0] [0,1,3,4,2,5,6,7] ?_)
 have j:=j.drew
 refine DP.e0 zr (RL.bO 17 p0 j nj fun az j=>(bU zr (RL.bO 17 p2 j oh fun a0 j=>(DP.d0 (DP.vY p0 19 zr j nj fun a1 a56 bp j=>(DP.vY p3 19 zr j oh fun a2 a59 bq j=>(DP.e2 zr ?_)))))))
 obtain⟨ad,a3,o⟩:=bd o
 refine RL.call zt zr A5 [az,a0] zr (aF (fT N (i0:=5) (i1:=4) j zr zr a3) ?_)
 rintro _ w ⟨rfl,j⟩
 refine DP.d2 (⟨⟨zt,j.jV 2⟩,j.jV 0⟩) (DP.e2 zr ?_)
 obtain⟨af,a4,o⟩:=bd o
 refine RL.call zt zr A5 [a1,a2] zr (aF (fT N (i0:=3) (i1:=1) j zr zr a4) ?_)
 rintro _ w ⟨rfl,j⟩
 refine DP.d2 (⟨⟨zt,j.jV 2⟩,j.jV 0⟩) (DP.e0 zr (aM (vi ad) (bU zr (aM (vi af) (DP.d0 ?_)))))
 have j:=j.pl 28 [1,3,4,5,6,7,8,9,10,11,12,13,14,15,16,17,18,19,20,21,22,23,24,25,26,27]
 refine DP.z (aG (RC.seq (RC.sr (mv (vi ad) (ic ad 0 (mv (vb (decide (ad<0))) (RL.gs true (decide (ad<0)) (vi af) rfl rfl rfl dR (RL.gs true (decide (ad<0)) (vb (decide (af<0))) rfl rfl rfl (dY .lss .i64 af 0 rfl (fun h=>by exact(cT h:cv (true&&((decide (ad<0))==false)) (vi af)= (vi af))) (fun _=>rfl) rfl) ?_))))))))
 refine RL.pick (decide (ad<0)) (vb ((decide (ad<0))||(decide (af<0)))) (nE true zr) (RL.nt (eL o (fun hc o=>?_) fun hc o=>?_))
 ·refine RC.sr (aM (vb false) (aM (vi 9) (RL.nt (RC.rt ?_))))
  obtain rfl:=oi o
  exact iL ⟨rfl,j.drop 26⟩
 refine RC.sx (mv (vp ah 0) (mv v1 ?_))
 have j:=((((((j.dup 17 rfl).dup 17 rfl).dup 14 rfl).dup 14 rfl).dup 13 rfl).dup 13 rfl).pull 10
 obtain⟨br,a5,o⟩:=bd o
 refine RL.call zt zr JM [(vp ah 0),v1] zr (aF (pw N (i1:=24) j zr a5) ?_)
 rintro ak w j
 refine aM ak (RL.nq ?_)
 obtain⟨al,hj,o⟩:=bd o
 refine RC.jn (fun(al:Bool)=>SH E V [(8,vb al),(9,vi 0)] []) al ?_ ?_
 ·refine RC.xT mixed ?_
  have j:=j.drew
  refine RO.go (mv ak (RO.nx (mv (vi ad) (RO.nx ?_))))
  obtain⟨av,an,hj⟩:=bd hj
  refine RL.bY 0 j zr zr eD an (RO.nx (RL.dJ (f:=(fun x=>x)) 0 j (jZ 0 j an 0) (bC an).2.1 Fd.self cH (RO.nx (ic av 0 (RO.nx (mv (vb (decide (av>=0))) (fM hj (fun aa hj=>?_) fun aa hj=>?_)))))))
  rotate_left
  ·refine RO.nx (bJ aa (RO.nx (bJ aa (RO.nx (bJ aa (RO.nx (bJ aa (RO.nx ?_))))))))
   refine bJ aa (RO.nx (bJ aa (RO.nx (bJ aa (RO.nx (bJ aa (RO.nx (bJ aa ?_))))))))
   refine RO.nx (fI aa (vb false) (RO.nx (aM (vb false) (RO.nx (aM (vi 0) (RO.last ?_))))))
   obtain rfl:=oi hj
   exact⟨rfl,j.sp 28 []⟩
  refine RO.nx (RL.move ak (cg aa) (RO.nx (RL.move (vi ad) (cg aa) (RO.nx ?_))))
  obtain⟨ao,aq,hj⟩:=bd hj
  refine RL.bY (hg:=(cg aa)) 0 j zr zr eD aq (RO.nx (RL.dJ (hg:=(cg aa)) (f:=(fun x=>x)) 0 j (jZ 0 j aq 0) (bC aq).2.1 Fd.self cH (RO.nx (RL.move ak (cg aa) (RO.nx (RL.move (vi af) (cg aa) (RO.nx ?_)))))))
  obtain⟨ar,au,hj⟩:=bd hj
  refine RL.bY (hg:=(cg aa)) 0 j zr zr eD au (RO.nx (RL.dJ (hg:=(cg aa)) (f:=(fun x=>x)) 0 j (jZ 0 j au 0) (bC au).2.1 Fd.self cH (RO.nx (RL.jk ao ar (cg aa) (RO.nx (fI aa (vb (ao==ar)) (RO.nx (aM (vb (ao==ar)) ?_))))))))
  refine RO.nx (aM (vi 0) (RO.last ?_))
  obtain rfl:=oi hj
  exact⟨rfl,j.sp 28 []⟩
 rintro _ w ⟨O,rfl,j⟩
 refine aG (RC.ret ?_)
 obtain rfl:=oi o
 exact iL ⟨rfl,j.drop 0⟩
theorem jB {res:Bool} (j:Holds E w V) (hb:eQ N=some res):
    Calls bG 10 [].toArray w (gH (bF E V res)):=by
 unfold eQ at hb
 refine enter Tryz.func10 zr zr (RC.sr (aM (vb false) (RL.ns ?_)))
 have j:=(j.sc Int 1).sc Int 1
 refine RL.build (⟨0,0,1,1⟩:aI) trivial rfl j [(2,vi 1),(3,vi 1)] rfl B7 rfl (fun M hs g=>by have h:=qN M;exact cL.cons (f:=fun(x:aI) y=>{x with X1:=y}) h nA (g.sat 1 _ rfl).1 fun _ h=>cL.cons (f:=fun(x:aI) y=>{x with Y1:=y}) h o8 (g.sat 0 _ rfl).1 fun _ h=>cL.nil h) fun ae j=>?_
 refine RL.eJ ([(⟨0,0,1,1⟩:aI)]: (List aI)) j [ae] ku mo (fun M hs g=>⟨(g.sat 0 _ zr).1,zt⟩) fun af w j=>?_
 have j:=j.freeze 0
 refine RL.eJ ([([(⟨0,0,1,1⟩:aI)]: (List aI))]: (List (List aI))) j [af] B6 Jf (fun M hs g=>⟨(g.sat 0 _ zr).1,zt⟩) fun ad w j=>?_
 have j:=(j.sc dD ⟨[97]⟩).sc dD ⟨[49]⟩
 refine RL.build (⟨⟨[97]⟩,⟨[49]⟩,0,⟨0,0⟩⟩:cQ) trivial rfl j [(0,(str ⟨[97]⟩)),(1,(str ⟨[49]⟩))] rfl K3 rfl (fun M hs g=>by have h:=HM M;exact cL.cons (f:=fun(x:cQ) y=>{x with Part:=y}) h Du (g.sat 1 _ rfl).1 fun _ h=>cL.cons (f:=fun(x:cQ) y=>{x with fN:=y}) h Dv (g.sat 0 _ rfl).1 fun _ h=>cL.nil h) fun ag j=>?_
 refine RL.eJ ([(⟨⟨[97]⟩,⟨[49]⟩,0,⟨0,0⟩⟩:cQ)]: (List cQ)) j [ag] DF HO (fun M hs g=>⟨(g.sat 0 _ zr).1,zt⟩) fun aa w j=>(RL.Ex (zs:=[(.slice none 0 0),(.slice none 0 0),(.slice none 0 0),(.slice none 0 0)]) (cs:=[ad,(.slice none 0 0),(.slice none 0 0),aa]) zt zr [(0,ad),(3,aa)] zr K4 ⟨(ir 4 j),(ir 0 j),zt⟩ zr (RL.alloc j K5.z fun al w j=>?_))
 have j:=((((j.freeze 5).wC aI).wC bQ).freeze 3).zi (cs:=[ad,(.slice none 0 0),(.slice none 0 0),aa]) (x:=(⟨([([(⟨0,0,1,1⟩:aI)]: (List aI))]: (List (List aI))),([]: (List aI)),([]: (List bQ)),([(⟨⟨[97]⟩,⟨[49]⟩,0,⟨0,0⟩⟩:cQ)]: (List cQ))⟩:iu)) (fun M hs g=>⟨[ad],[(.slice none 0 0),(.slice none 0 0),aa],rfl,(kX (g.sat 7 _ rfl).1),⟨[(.slice none 0 0)],[(.slice none 0 0),aa],rfl,(kX (g.sat 1 _ rfl).1),⟨[(.slice none 0 0)],[aa],rfl,(kX (g.sat 0 _ rfl).1),(kX (g.sat 3 _ rfl).1)⟩⟩⟩) rfl
 refine RL.bA 3 j 0 zr nj fun w j=>?_
 refine RL.ns (RL.aS (f:=(fun x=>x)) 3 j zr Fd.self nj fun ah j=>?_)
 have j:=(j.sc dD ⟨[97]⟩).sc dD ⟨[49]⟩
 refine RL.build (⟨⟨[97]⟩,⟨[49]⟩⟩:fN) trivial rfl j [(0,(str ⟨[97]⟩)),(1,(str ⟨[49]⟩))] rfl HQ rfl (fun M hs g=>by have h:=EP M;exact cL.cons (f:=fun(x:fN) y=>{x with Part:=y}) h wQ (g.sat 1 _ rfl).1 fun _ h=>cL.cons (f:=fun(x:fN) y=>{x with fN:=y}) h wR (g.sat 0 _ rfl).1 fun _ h=>cL.nil h) fun ai j=>?_
 have j:=(j.sc dD ⟨[97]⟩).sc dD ⟨[49]⟩
 refine RL.build (⟨⟨[97]⟩,⟨[49]⟩⟩:fN) trivial rfl j [(0,(str ⟨[97]⟩)),(1,(str ⟨[49]⟩))] rfl HQ rfl (fun M hs g=>by have h:=EP M;exact cL.cons (f:=fun(x:fN) y=>{x with Part:=y}) h wQ (g.sat 1 _ rfl).1 fun _ h=>cL.cons (f:=fun(x:fN) y=>{x with fN:=y}) h wR (g.sat 0 _ rfl).1 fun _ h=>cL.nil h) fun aj j=>?_
 have j:=j.wC bS
 obtain⟨o,ak,hb⟩:=bd hb
 refine RL.call zt zr K7 [ah,(.slice none 0 0),ai,aj] zr (aF (tj N (i0:=7) (i1:=0) (i2:=4) (i3:=1) j zr zr zr zr ak) ?_)
 rintro _ w ⟨rfl,j⟩
 refine mv (.tuple #[(vb o.1),(vi o.2)]) (RL.extract (vb o.1) (RL.extract (vi o.2) (aM (vb o.1) (aM (vi o.2) (RL.ns (mv (vi o.2) (ic o.2 0 (mv (vb (o.2==0)) ?_))))))))
 refine RL.gs true (o.2==0) (vb o.1) zr zr zr dR (RL.pick (o.2==0) (vb ((o.2==0)&&o.1)) (je true) (aM (vb ((o.2==0)&&o.1)) (RL.nt (RC.ret ?_))))
 obtain rfl:=oi hb
 exact cF ⟨rfl,j.drop 21⟩
def x8 (E:World) (V:List HP) (b0:Nat) (v0_0 v0_1:Value) (v0_2 v0_3:Value) (v0_4 v0_5:Value) (v0_6 v0_7:Value) (v0_8 v0_9:Value) (v0_10 v0_11:Value) (res: (List Bool)) (v:Value) (w:World):Prop:=Holds E w ([own 4 v res,bc 126 b0 [v0_0,v0_1,v0_2,v0_3,v0_4,v0_5,v0_6,v0_7,v0_8,v0_9,v0_10,v0_11]]++V)
theorem rk {p0_0: (List (List aI))} {p0_1: (List aI)} {p0_2: (List bQ)} {p0_3: (List cQ)} {p0_5: (List aH)} {p0_6: (List (List Int))} {p0_10: (List Int)} {p0_11: (List dF)} {p1: (List Test)} {p2: (List bS)} {res: (List Bool)} (j:Holds E w (bc 126 b0 [v0_0,v0_1,v0_2,v0_3,v0_4,v0_5,v0_6,v0_7,v0_8,v0_9,v0_10,v0_11]::rd v0_0 p0_0::rd v0_1 p0_1::rd v0_2 p0_2::rd v0_3 p0_3::rd v0_5 p0_5::rd v0_6 p0_6::rd v0_10 p0_10::rd v0_11 p0_11::V)) (h1:V[i1]? =some (rd v1 p1)) (h2:V[i2]? =some (rd v2 p2)) (hb:kq N p0_0 p0_1 p0_2 p0_3 p0_5 p0_6 p0_10 p0_11 p1 p2=some res):
    Calls bG 31 [(vp b0 0),v1,v2].toArray w (gH (x8 E V b0 v0_0 v0_1 v0_2 v0_3 v0_4 v0_5 v0_6 v0_7 v0_8 v0_9 v0_10 v0_11 res)):=by
 unfold kq at hb
 refine enter Tryz.func31 zr zr ?_
 have j:=(j.dup (i1+9) h1).dup (i2+10) h2
 refine RC.sr (aM (.slice none 0 0) (RL.ns (mv (vp b0 0) (mv v2 ?_))))
 have j:=((((((j.dup 10 rfl).dup 10 rfl).dup 10 rfl).dup 10 rfl).dup 10 rfl).dup 10 rfl).pull 8
 obtain⟨au,bf,hb⟩:=bd hb
 refine RL.call zt zr JM [(vp b0 0),v2] zr (aF (pw N (i1:=0) j zr bf) ?_)
 rintro ah w j
 refine aM ah (RL.ns (aM (.slice none 0 0) (RL.nq (RC.sr (mv v1 (RL.bB 3 p1 j DK (mv (vi 0) (RL.nt ?_))))))))
 obtain⟨ai,hN,hb⟩:=bd hb
 refine RC.fold (fun(ak:Nat) (ai: (List Bool)) U w=>∃a6:Value,SH E V [(0,vp b0 0),(7,ah),(8,a6),(16,v1),(17,vi p1.length),(18,vi ak)] [bc 126 b0 [v0_0,v0_1,v0_2,v0_3,v0_4,v0_5,v0_6,v0_7,v0_8,v0_9,v0_10,v0_11],rd v0_0 p0_0,rd v0_1 p0_1,rd v0_2 p0_2,rd v0_3 p0_3,rd v0_5 p0_5,rd v0_6 p0_6,rd v0_10 p0_10,rd v0_11 p0_11,own 3 ah au,rd v1 p1,own 4 a6 ai] U w) (fun(ai: (List Bool)) U w=>∃an:Value,SH E V [(0,vp b0 0),(8,an)] [bc 126 b0 [v0_0,v0_1,v0_2,v0_3,v0_4,v0_5,v0_6,v0_7,v0_8,v0_9,v0_10,v0_11],rd v0_0 p0_0,rd v0_1 p0_1,rd v0_2 p0_2,rd v0_3 p0_3,rd v0_5 p0_5,rd v0_6 p0_6,rd v0_10 p0_10,rd v0_11 p0_11,own 3 ah au,rd v1 p1,own 4 an ai] U w) hN ?_ ?_ ?_ ?_
 ·have j:=j.cS Bool 4
  exact⟨(.slice none 0 0),j.sp 14 [2,6,7,8,9,10,11,12,13,1,4,0]⟩
 ·rintro hm ai _ w ⟨bh,O,rfl,j⟩
  refine RC.sr (ic ((p1.length:Int)) ((p1.length:Int)) (RL.nq (RC.cO l9 (RC.ex ?_))))
  exact⟨rfl,bh,j.sp 12 [0,1,2,3,4,5,6,7,8,9,10,11]⟩
 ·rintro hm ak ai s' _ w hk ⟨av,O,rfl,j⟩ hb
  refine RC.sr (ic ((ak:Int)) ((p1.length:Int)) (RL.nq (RC.cN (l8 hk) (RC.ss (RC.bs ?_)))))
  obtain⟨al,bj,hb⟩:=bd hb
  refine RL.cC 10 j E3 bj fun bk j=>(RL.bO 0 al j x0 fun bl j=>(RL.alloc j HW.z fun aw w j=>?_))
  refine RL.bA 0 j 1 zr x0 fun w j=>?_
  refine RL.nq ?_
  obtain⟨ax,bm,hb⟩:=bd hb
  obtain⟨a1,bn,hb⟩:=bd hb
  refine RC.Ei E V mixed [1,1,1,0,1,0,0,1,1,1,0,1,0,0,1,1] [5,12] (fun(x:Value×Value)=>(fun ae af=>[(0,22,(vp b0 0)),(1,23,(vp b0 0)),(2,24,(vp b0 0)),(3,25,(.agg ([v0_0,v0_1,v0_2,v0_3]:List Value).toArray)),(4,26,(vp aw 0)),(5,27,ae),(6,28,(vi ax)),(7,29,(vp b0 0)),(8,30,(vp b0 0)),(9,31,(vp b0 0)),(10,32,(.agg ([v0_0,v0_1,v0_2,v0_3]:List Value).toArray)),(11,33,(vp aw 2)),(12,34,af),(13,35,(vi a1)),(14,11,(vi ax)),(15,12,(vi a1))]) x.1 x.2) [(0,vp b0 0),(7,ah),(8,av),(10,vp aw 0),(16,v1),(17,vi p1.length),(18,vi ak)] [] (fun(D:Nat->Bool) (x:Value×Value)=>(fun ae af=>[bif D 0 then (rd ae al.A) else aX,bif D 1 then (rd af al.B) else aX,bx 53 aw al,rd bl al,pt bk al,bc 126 b0 [v0_0,v0_1,v0_2,v0_3,v0_4,v0_5,v0_6,v0_7,v0_8,v0_9,v0_10,v0_11],rd v0_0 p0_0,rd v0_1 p0_1,rd v0_2 p0_2,rd v0_3 p0_3,rd v0_5 p0_5,rd v0_6 p0_6,rd v0_10 p0_10,rd v0_11 p0_11,own 3 ah au,rd v1 p1,own 4 av ai]) x.1 x.2) (fun x=>by kernel_rfl) ?_ ⟨fun _=>jD gn,fun _=>vX gn,fun _=>mi gn ke,?_,fun _=>mi gn sU,?_,?_,fun _=>jD gn,fun _=>vX gn,fun _=>mi gn ke,?_,fun _=>mi gn sV,?_,?_,fun _=>Iv gn rfl,fun _=>Iv gn rfl,trivial⟩ ?_
  ·have j:=((j.drew).aX).aX
   exact⟨(undef,undef),eF.none,(CN zr),zt,j⟩
  ·rintro D U w hD ad ao ⟨⟨ae,af⟩,o,ha,_,j⟩
   obtain⟨O,rfl⟩:=(ac (o.at 2 rfl (ad.1 rfl)) az).fx
   refine RL.AH (cs:=[v0_0,v0_1,v0_2,v0_3]) 5 zt zr j zr zr nj zr zr ?_
   exact RL.nil ⟨rfl,(ae,af),o.pu 3,ha.u,zt,j⟩
  ·rintro D U w hD ad ao ⟨⟨ae,af⟩,o,ha,_,j⟩
   obtain⟨O,rfl⟩:=(ac (o.at 4 rfl (ad.1 rfl)) az).fx
   have j:=j.cA 0 hD
   refine RL.aS 2 j zr ml oh fun bo j=>?_
   have j:=(j.pl 18 [0,2,3,4,5,6,7,8,9,10,11,12,13,14,15,16,17]).cK 0 true aX
   exact RL.nil ⟨rfl,(bo,af),o.pu 5,ha.u,zt,j⟩
  ·rintro D U w hD ad ao ⟨⟨ae,af⟩,o,ha,_,j⟩
   obtain⟨O,rfl⟩:=(ac (o.at 3 rfl (ad.1 rfl)) (ac (o.at 5 rfl (ad.2.1 rfl)) az)).fx
   have j:=(j.cJ 0 (ad.2.1 rfl)).zi (cs:=[v0_0,v0_1,v0_2,v0_3]) (x:=(⟨p0_0,p0_1,p0_2,p0_3⟩:iu)) (fun M hs g=>⟨[v0_0],[v0_1,v0_2,v0_3],rfl,(kX (g.sat 6 _ rfl).1),⟨[v0_1],[v0_2,v0_3],rfl,(kX (g.sat 7 _ rfl).1),⟨[v0_2],[v0_3],rfl,(kX (g.sat 8 _ rfl).1),(kX (g.sat 9 _ rfl).1)⟩⟩⟩) rfl
   refine RL.call zt zr A5 [(.agg ([v0_0,v0_1,v0_2,v0_3]:List Value).toArray),ae] zr (aF (fT N (i0:=0) (i1:=1) j zr zr bm) ?_)
   rintro _ w ⟨rfl,j⟩
   have j:=(j.pl 18 [1,2,3,4,5,6,7,8,9,10,11,12,13,14,15,16,17]).cK (hb:=ad.2.1 rfl) 0 (D 5) aX
   exact RL.nil ⟨rfl,(ae,af),o.pu 6,ha.u,zt,j⟩
  ·rintro D U w hD ad ao ⟨⟨ae,af⟩,o,ha,_,j⟩
   obtain⟨O,rfl⟩:=(ac (o.at 9 rfl (ad.1 rfl)) az).fx
   refine RL.AH (cs:=[v0_0,v0_1,v0_2,v0_3]) 5 zt zr j zr zr nj zr zr ?_
   exact RL.nil ⟨rfl,(ae,af),o.pu 10,ha.u,zt,j⟩
  ·rintro D U w hD ad ao ⟨⟨ae,af⟩,o,ha,_,j⟩
   obtain⟨O,rfl⟩:=(ac (o.at 11 rfl (ad.1 rfl)) az).fx
   have j:=j.cA 1 hD
   refine RL.aS 2 j zr mm oh fun bp j=>?_
   have j:=(j.pl 18 [1,0,3,4,5,6,7,8,9,10,11,12,13,14,15,16,17]).cK 1 true aX
   exact RL.nil ⟨rfl,(ae,bp),o.pu 12,ha.u,zt,j⟩
  ·rintro D U w hD ad ao ⟨⟨ae,af⟩,o,ha,_,j⟩
   obtain⟨O,rfl⟩:=(ac (o.at 10 rfl (ad.1 rfl)) (ac (o.at 12 rfl (ad.2.1 rfl)) az)).fx
   have j:=(j.cJ 1 (ad.2.1 rfl)).zi (cs:=[v0_0,v0_1,v0_2,v0_3]) (x:=(⟨p0_0,p0_1,p0_2,p0_3⟩:iu)) (fun M hs g=>⟨[v0_0],[v0_1,v0_2,v0_3],rfl,(kX (g.sat 6 _ rfl).1),⟨[v0_1],[v0_2,v0_3],rfl,(kX (g.sat 7 _ rfl).1),⟨[v0_2],[v0_3],rfl,(kX (g.sat 8 _ rfl).1),(kX (g.sat 9 _ rfl).1)⟩⟩⟩) rfl
   refine RL.call zt zr A5 [(.agg ([v0_0,v0_1,v0_2,v0_3]:List Value).toArray),af] zr (aF (fT N (i0:=0) (i1:=2) j zr zr bn) ?_)
   rintro _ w ⟨rfl,j⟩
   have j:=(j.pl 18 [1,2,3,4,5,6,7,8,9,10,11,12,13,14,15,16,17]).cK (hb:=ad.2.1 rfl) 1 (D 12) aX
   exact RL.nil ⟨rfl,(ae,af),o.pu 13,ha.u,zt,j⟩
  rintro D U w ay ⟨⟨ae,af⟩,o,ha,_,j⟩
  have j:=(j.cJ 0 (jT ay 5)).cJ 1 (jT ay 12)
  obtain⟨O,rfl⟩:=(ac (o.at 14 rfl (jT ay 14)) (ac (o.at 15 rfl (jT ay 15)) (ac (ha.at 0 rfl) (ac (ha.at 1 rfl) (ac (ha.at 2 rfl) (ac (ha.at 3 rfl) (ac (ha.at 4 rfl) (ac (ha.at 5 rfl) (ac (ha.at 6 rfl) az))))))))).fx
  refine aG ?_
  obtain⟨a2,hj,hb⟩:=bd hb
  refine RC.jn (fun(a2: (List Bool)) U w=>∃a0:Value,SH E V [(0,vp b0 0),(7,ah),(8,a0),(16,v1),(17,vi p1.length),(18,vi ak)] [bc 126 b0 [v0_0,v0_1,v0_2,v0_3,v0_4,v0_5,v0_6,v0_7,v0_8,v0_9,v0_10,v0_11],rd v0_0 p0_0,rd v0_1 p0_1,rd v0_2 p0_2,rd v0_3 p0_3,rd v0_5 p0_5,rd v0_6 p0_6,rd v0_10 p0_10,rd v0_11 p0_11,own 3 ah au,rd v1 p1,own 4 a0 a2] U w) a2 ?_ ?_
  ·refine RC.wk mixed [1,0,0,0,0,0,0,0,0,0,0,0,0,0,0,0,0,2,2,0] [0,1,2,3,4,5,6,7,8,9,10,11,12,13,14,15,16,17,18,19] ?_
   have j:=j.drew
   refine DP.e1 av zr (fun w=>RL.move av zt DP.d1) (DP.e0 zr (mv ah (bU zr (mv (vi ax) (bU zr ?_)))))
   obtain⟨a9,a3,hj⟩:=bd hj
   refine RL.bY 14 j zr zr eD a3 (bU zr (RL.dJ (f:=(fun x=>x)) 14 j (jZ 14 j a3 0) (bC a3).2.1 Fd.self cH (bU zr (ic a9 0 (bU zr (mv (vb (decide (a9>=0))) (DP.d0 (fM hj (fun aa hj=>?_) fun aa hj=>?_))))))))
   rotate_left
   ·refine DP.e0 zr (bJ aa (bU zr (bJ aa (bU zr (bJ aa (bU zr (bJ aa (bU zr ?_))))))))
    refine bJ aa (bU zr (bJ aa (bU zr (bJ aa (bU zr (bJ aa (bU zr (bJ aa ?_))))))))
    refine bU zr (fI aa (vb false) (sS zr ?_))
    have j:=j.sc Bool false
    refine RL.eJ ([false]: (List Bool)) j [(vb false)] Gx Lv (fun M hs g=>⟨(g.sat 0 _ zr).1,zt⟩) fun bt w j=>(Gp zr ?_)
    have j:=j.freeze 0
    obtain⟨bu,bq,hj⟩:=bd hj
    refine RL.app 18 0 j JN bq fun ba w j=>?_
    refine wm zr (aM ba (DP.d0 (DP.z ?_)))
    obtain rfl:=oi hj
    exact⟨rfl,ba,j.sp 19 [7,8,9,10,11,12,13,14,15,16,17,18]⟩
   refine DP.e0 zr (RL.move ah (cg aa) (bU zr (RL.move (vi ax) (cg aa) (bU zr ?_))))
   obtain⟨aq,a4,hj⟩:=bd hj
   refine RL.bY (hg:=(cg aa)) 14 j zr zr eD a4 (bU zr (RL.dJ (hg:=(cg aa)) (f:=(fun x=>x)) 14 j (jZ 14 j a4 0) (bC a4).2.1 Fd.self cH (bU zr (RL.move ah (cg aa) (bU zr (RL.move (vi a1) (cg aa) (bU zr ?_)))))))
   obtain⟨ar,a5,hj⟩:=bd hj
   refine RL.bY (hg:=(cg aa)) 14 j zr zr eD a5 (bU zr (RL.dJ (hg:=(cg aa)) (f:=(fun x=>x)) 14 j (jZ 14 j a5 0) (bC a5).2.1 Fd.self cH (bU zr (RL.jk aq ar (cg aa) (bU zr (fI aa (vb (aq==ar)) (sS zr ?_)))))))
   have j:=j.sc Bool (aq==ar)
   refine RL.eJ ([(aq==ar)]: (List Bool)) j [(vb (aq==ar))] Gx Lv (fun M hs g=>⟨(g.sat 0 _ zr).1,zt⟩) fun bw w j=>(Gp zr ?_)
   have j:=j.freeze 0
   obtain⟨bz,br,hj⟩:=bd hj
   refine RL.app 18 0 j JN br fun bb w j=>?_
   refine wm zr (aM bb (DP.d0 (DP.z ?_)))
   obtain rfl:=oi hj
   exact⟨rfl,bb,j.sp 19 [7,8,9,10,11,12,13,14,15,16,17,18]⟩
  rintro _ w ⟨a0,O,rfl,j⟩
  refine bL (aG (RC.region (RL.inc hk hm (mv (vi ((ak+1:Nat):Int)) (RL.nil ?_)))))
  obtain rfl:=oi hb
  exact⟨rfl,a0,j.sp 12 [0,1,2,3,4,5,6,7,8,9,10,11]⟩
 rintro _ w ⟨an,O,rfl,j⟩
 refine aG (RC.sr (mv an (aM an (RL.nt (RC.ret ?_)))))
 obtain rfl:=oi hb
 exact cF (j.pk 12 [11,0])
def sw (E:World) (V:List HP) (r:Bool) (U:Nat->Value) (w:World):Prop:=l6 bG 26 Tryz.f14 (bF E V r) .ret U w
theorem mP {p0: (List Bool)} {p1: (List Bool)} {res:Bool} (j:Holds E w V) (h0:V[i0]? =some (rd v0 p0)) (h1:V[i1]? =some (rd v1 p1)) (o:gW N p0 p1=some res):
    Calls bG 14 [v0,v1].toArray w (gH (bF E V res)):=by
 unfold gW at o
 refine enter Tryz.func14 zr zr ?_
 have j:=(j.dup (i0+0) h0).dup (i1+1) h1
 refine RC.sr (aM (vb false) (RL.nq (RC.sr (mv v0 (RL.bB 1 p0 j Gy (mv v1 (RL.bB 0 p1 j Gy (ic ((p0.length:Int)) ((p1.length:Int)) ?_))))))))
 refine RL.nt (eL o (fun hc o=>?_) fun hc o=>?_)
 ·refine RC.sr (aM (vb false) (RL.nt (RC.rt ?_)))
  obtain rfl:=oi o
  exact cF ⟨rfl,j.drop 2⟩
 refine RC.ss (RC.sr (mv v0 (RL.bB 1 p0 j Gy (mv (vi 0) (RL.nt ?_)))))
 obtain⟨an,hN,o⟩:=bd o
 refine RC.range (fun(aa:Nat) (ab:Unit)=>SH E V [(0,v0),(1,v1),(12,vi p0.length),(13,vi aa)] [rd v0 p0,rd v1 p1]) (fun(ab:Unit)=>SH E V [] [rd v0 p0,rd v1 p1]) (sw E V) hN ?_ ?_ ?_ ?_ ?_
 ·exact j.sp 2 [1,0]
 ·rintro hm ab _ w ⟨O,rfl,j⟩
  refine RC.sr (ic ((p0.length:Int)) ((p0.length:Int)) (RL.nq (RC.cO l9 (RC.ex ?_))))
  exact⟨rfl,j.sp 2 [0,1]⟩
 ·rintro hm aa ab fl _ w hk ⟨O,rfl,j⟩ o
  refine RC.sr (ic ((aa:Int)) ((p0.length:Int)) (RL.nq (RC.cN (l8 hk) (RC.ss (RC.bs (mv (vi aa) (aM (vi aa) (RL.nq ?_))))))))
  refine RC.xT mixed ?_
  have j:=j.drew
  refine RO.go (mv v0 (RO.nx (mv (vi aa) (RO.nx ?_))))
  obtain⟨ag,aj,o⟩:=bd o
  refine RL.cC 0 j Gx aj fun aq j=>(RO.nx (RL.bI ag 0 j xU (RO.nx (mv v1 (RO.nx (mv (vi aa) (RO.nx ?_)))))))
  obtain⟨ah,ak,o⟩:=bd o
  refine RL.cC 2 j Gx ak fun ar j=>(RO.nx (RL.bI ah 0 j xU (RO.nx (RL.CB ag ah zr zr zr Jb (RO.last (aG (eL o (fun hc o=>?_) fun hc o=>?_)))))))
  rotate_left
  ·refine RC.skip (bL (aG (RC.region (RL.inc hk hm (mv (vi ((aa+1:Nat):Int)) (RL.nil ?_))))))
   obtain rfl:=oi o
   exact⟨rfl,j.sp 4 [2,3]⟩
  refine RC.sr (aM (vb false) (RL.nt (RC.rb (bV ?_))))
  obtain rfl:=oi o
  exact⟨rfl,cF ⟨rfl,j.drop 4⟩⟩
 ·intro r U w e hK
  subst e
  refine bV ?_
  obtain rfl:=oi o
  exact hK
 rintro ab _ w rfl ⟨O,rfl,j⟩
 rw [Fo.f0] at o
 refine aG (RC.sr (aM (vb true) (RL.nt (RC.ret ?_))))
 obtain rfl:=oi o
 exact cF ⟨rfl,j.drop 2⟩
end Go.Gk
namespace Go.Gk
open Go Go.Proofs
variable (N:Nat) {E w:World} {i0 i1 i2:Nat} {p2 p3:Int} {v0 v1 v2:Value} {V:List HP}
def x9 (E:World) (V:List HP) (res: (List Bool)×Int) (v:Value) (w:World):Prop:=∃u0:Value,v = .tuple #[u0,(vi res.2)]/\Holds E w ([own 4 u0 res.1]++V)
theorem rl {p0:iu} {p1: (List Test)} {p2: (List bS)} {res: (List Bool)×Int} (j:Holds E w V) (h0:V[i0]? =some (rd v0 p0)) (h1:V[i1]? =some (rd v1 p1)) (h2:V[i2]? =some (rd v2 p2)) (o:ja N p0 p1 p2=some res):
    Calls bG 11 [v0,v1,v2].toArray w (gH (x9 E V res)):=by
 unfold ja at o
 refine enter Tryz.func11 zr zr ?_
 have j:=((j.dup (i0+0) h0).dup (i1+1) h1).dup (i2+2) h2
 refine RC.sr (RL.cY 2 v0 j zr fun al w j=>?_)
 refine aM (.slice none 0 0) (aM (vi 0) (RL.ns (RL.aS (f:=(fun x=>x)) 0 j zr Fd.self nj fun ah j=>(mv v1 ?_))))
 obtain⟨aa,ai,o⟩:=bd o
 refine RL.call zt zr HX [ah,v1] zr (aF (oW N (i0:=0) (i1:=3) j zr zr ai) ?_)
 rintro _ w hK49
 rcases af:aa.1 with _ | an
 ·replace o:=Dm af o
  obtain⟨rfl,j⟩:=yw af hK49
  refine mv (.tuple #[(.pointer none),(vi aa.2)]) (RL.extract (.pointer none) (RL.extract (vi aa.2) (aM (.pointer none) (aM (vi aa.2) (RL.nq (RC.sr (mv (vi aa.2) (ic aa.2 0 ?_))))))))
  refine RL.nt (eL o (fun hc o=>?_) fun hc o=>?_)
  rotate_left
  ·cases o
  refine RC.sr (mv (vi aa.2) (aM (.slice none 0 0) (aM (vi aa.2) (RL.nt (RC.rt ?_)))))
  obtain rfl:=oi o
  have j:=j.cS Bool 4
  exact iL ⟨(.slice none 0 0),zr,j.pk 6 [0]⟩
 replace o:=Dn af o
 obtain⟨ab,ao,aq,ar,au,av,aw,ax,ay,az,a0,a1,a2,rfl,j⟩:=yx af hK49
 refine mv (.tuple #[(vp ab 0),(vi aa.2)]) (RL.extract (vp ab 0) (RL.extract (vi aa.2) (aM (vp ab 0) (aM (vi aa.2) (RL.nq (RC.sr (mv (vi aa.2) (ic aa.2 0 ?_))))))))
 refine RL.nt (eL o (fun hc o=>?_) fun hc o=>?_)
 ·refine RC.sr (mv (vi aa.2) (aM (.slice none 0 0) (aM (vi aa.2) (RL.nt (RC.rt ?_)))))
  obtain rfl:=oi o
  have j:=j.cS Bool 4
  exact iL ⟨(.slice none 0 0),zr,j.pk 19 [0]⟩
 refine RC.ss (RC.sr (mv (vp ab 0) (mv v2 ?_)))
 have j:=((((((((((((j.freeze 5).freeze 8).freeze 11).freeze 12).dup 12 rfl).dup 12 rfl).dup 12 rfl).dup 12 rfl).dup 12 rfl).dup 12 rfl).dup 12 rfl).dup 12 rfl).dup 12 rfl
 have j:=(((j.dup 12 rfl).dup 12 rfl).dup 12 rfl).pull 12
 obtain⟨ae,aj,o⟩:=bd o
 refine RL.call zt zr JG [(vp ab 0),v2] zr (aF (m7 N (i1:=15) j zr aj) ?_)
 rintro _ w ⟨rfl,j⟩
 refine aM (vi ae) (RL.ns (mv (vi ae) (ic ae 0 (RL.nt (eL o (fun hc o=>?_) fun hc o=>?_)))))
 ·refine RC.sr (mv (vi ae) (aM (.slice none 0 0) (aM (vi ae) (RL.nt (RC.rt ?_)))))
  obtain rfl:=oi o
  have j:=j.cS Bool 4
  exact iL ⟨(.slice none 0 0),zr,j.pk 20 [0]⟩
 refine RC.sx (mv (vp ab 0) (mv v1 (mv v2 ?_)))
 have j:=((((((((j.dup 13 rfl).dup 13 rfl).dup 10 rfl).dup 10 rfl).dup 9 rfl).dup 9 rfl).dup 9 rfl).dup 9 rfl).pull 8
 obtain⟨a3,ak,o⟩:=bd o
 refine RL.call zt zr JO [(vp ab 0),v1,v2] zr (aF (rk N (i1:=17) (i2:=16) j zr zr ak) ?_)
 rintro ag w j
 refine aM ag (aM (vi 0) (RL.nt (RC.ret ?_)))
 obtain rfl:=oi o
 exact iL ⟨ag,zr,j.pk 21 [0]⟩
theorem zO {p0:iu} {p1: (List Test)} {p2: (List Bool)} {res: (List bS)×Int} (j:Holds E w V) (h0:V[i0]? =some (rd v0 p0)) (h1:V[i1]? =some (rd v1 p1)) (h2:V[i2]? =some (rd v2 p2)) (o:o5 N p0 p1 p2 p3=some res):
    Calls bG 12 [v0,v1,v2,(vi p3)].toArray w (gH (qR E V res)):=by
 unfold o5 at o
 refine enter Tryz.func12 zr zr ?_
 have j:=((j.dup (i0+0) h0).dup (i1+1) h1).dup (i2+2) h2
 refine RC.sr (RL.cY 2 v0 j zr fun br w j=>?_)
 refine aM (.slice none 0 0) (aM (vi 0) (RL.ns (RL.aS (f:=(fun x=>x)) 0 j zr Fd.self nj fun bb j=>(mv v1 ?_))))
 obtain⟨ad,bf,o⟩:=bd o
 refine RL.call zt zr HX [bb,v1] zr (aF (oW N (i0:=0) (i1:=3) j zr zr bf) ?_)
 rintro _ w hK49
 rcases a1:ad.1 with _ | aa
 ·replace o:=Dm a1 o
  obtain⟨rfl,j⟩:=yw a1 hK49
  refine mv (.tuple #[(.pointer none),(vi ad.2)]) (RL.extract (.pointer none) (RL.extract (vi ad.2) (aM (.pointer none) (aM (vi ad.2) (RL.nq (RC.sr (mv (vi ad.2) (ic ad.2 0 ?_))))))))
  refine RL.nt (eL o (fun hc o=>?_) fun hc o=>?_)
  rotate_left
  ·cases o
  refine RC.sr (mv (vi ad.2) (aM (.slice none 0 0) (aM (vi ad.2) (RL.nt (RC.rt ?_)))))
  obtain rfl:=oi o
  have j:=j.cS bS 43
  exact iL ⟨(.slice none 0 0),zr,j.pk 6 [0]⟩
 replace o:=Dn a1 o
 obtain⟨ae,ai,aj,ak,al,an,ao,aq,ar,au,av,aw,ax,rfl,j⟩:=yx a1 hK49
 refine mv (.tuple #[(vp ae 0),(vi ad.2)]) (RL.extract (vp ae 0) (RL.extract (vi ad.2) (aM (vp ae 0) (aM (vi ad.2) (RL.nq (RC.sr (mv (vi ad.2) (ic ad.2 0 ?_))))))))
 refine RL.nt (eL o (fun hc o=>?_) fun hc o=>?_)
 ·refine RC.sr (mv (vi ad.2) (aM (.slice none 0 0) (aM (vi ad.2) (RL.nt (RC.rt ?_)))))
  obtain rfl:=oi o
  have j:=j.cS bS 43
  exact iL ⟨(.slice none 0 0),zr,j.pk 19 [0]⟩
 refine RC.sx (mv (vp ae 0) (mv (vi p3) ?_))
 have j:=((((((((((((j.freeze 5).freeze 8).freeze 11).freeze 12).dup 12 rfl).dup 12 rfl).dup 12 rfl).dup 12 rfl).dup 12 rfl).dup 12 rfl).dup 12 rfl).dup 12 rfl).dup 12 rfl
 have j:=(((j.dup 12 rfl).dup 12 rfl).dup 12 rfl).pull 12
 obtain⟨ab,bg,o⟩:=bd o
 refine RL.call zt zr JB [(vp ae 0),(vi p3)] zr (aF (qo N (p1:=p3) j bg) ?_)
 rintro _ w ⟨ag,rfl,j⟩
 refine mv (.tuple #[ag,(vi ab.2)]) (RL.extract ag (RL.extract (vi ab.2) (aM ag (aM (vi ab.2) (RL.nq (RC.sr (mv (vi ab.2) (ic ab.2 0 ?_))))))))
 refine RL.nt (eL o (fun hc o=>?_) fun hc o=>?_)
 ·refine RC.sr (mv (vi ab.2) (aM (.slice none 0 0) (aM (vi ab.2) (RL.nt (RC.rt ?_)))))
  obtain rfl:=oi o
  have j:=j.cS bS 43
  exact iL ⟨(.slice none 0 0),zr,j.pk 21 [0]⟩
 refine RC.ss (RC.sr (mv v2 (RL.bB 17 p2 j Gy (mv v1 (RL.bB 18 p1 j DK (ic ((p2.length:Int)) ((p1.length:Int)) (RL.nt (eL o (fun hc o=>?_) fun hc o=>?_))))))))
 ·refine RC.sr (aM (.slice none 0 0) (aM (vi 3) (RL.nt (RC.rt ?_))))
  obtain rfl:=oi o
  have j:=j.cS bS 43
  exact iL ⟨(.slice none 0 0),zr,j.pk 21 [0]⟩
 refine RC.sx (aM (.slice none 0 0) (RL.nq (RC.sr (mv ag (RL.fG 0 ab.1 j xZ (mv (vi 0) (RL.nt ?_)))))))
 obtain⟨ay,hN,o⟩:=bd o
 refine RC.fold (fun(a0:Nat) (ay: (List bS)) U w=>∃a5:Value,SH E V [(1,v1),(2,v2),(10,vp ae 0),(13,a5),(39,ag),(40,vi ab.1.length),(41,vi a0)] [rd v1 p1,rd v2 p2,bc 126 ae [ai,aj,ak,al,an,ao,aq,ar,au,av,aw,ax],rd ai aa.1,rd aj aa.2.1,rd ak aa.2.2.1,rd al aa.2.2.2.1,rd an aa.2.2.2.2.1,rd ao aa.2.2.2.2.2.1,rd aq aa.2.2.2.2.2.2.1,rd ar aa.2.2.2.2.2.2.2.1,rd au aa.2.2.2.2.2.2.2.2.1,rd av aa.2.2.2.2.2.2.2.2.2.1,rd aw aa.2.2.2.2.2.2.2.2.2.2.1,rd ax aa.2.2.2.2.2.2.2.2.2.2.2,own 43 ag ab.1,own 43 a5 ay] U w) (fun(ay: (List bS)) U w=>∃az:Value,SH E V [(13,az)] [rd v1 p1,rd v2 p2,bc 126 ae [ai,aj,ak,al,an,ao,aq,ar,au,av,aw,ax],rd ai aa.1,rd aj aa.2.1,rd ak aa.2.2.1,rd al aa.2.2.2.1,rd an aa.2.2.2.2.1,rd ao aa.2.2.2.2.2.1,rd aq aa.2.2.2.2.2.2.1,rd ar aa.2.2.2.2.2.2.2.1,rd au aa.2.2.2.2.2.2.2.2.1,rd av aa.2.2.2.2.2.2.2.2.2.1,rd aw aa.2.2.2.2.2.2.2.2.2.2.1,rd ax aa.2.2.2.2.2.2.2.2.2.2.2,own 43 ag ab.1,own 43 az ay] U w) hN ?_ ?_ ?_ ?_
 ·have j:=j.cS bS 43
  exact⟨(.slice none 0 0),j.sp 21 [19,18,2,4,5,6,7,8,9,10,11,12,13,14,15,1,0]⟩
 ·rintro hm ay _ w ⟨bj,O,rfl,j⟩
  refine RC.sr (ic ((ab.1.length:Int)) ((ab.1.length:Int)) (RL.nq (RC.cO l9 (RC.ex ?_))))
  exact⟨rfl,bj,j.sp 17 [0,1,2,3,4,5,6,7,8,9,10,11,12,13,14,15,16]⟩
 ·rintro hm a0 ay s' _ w hk ⟨a8,O,rfl,j⟩ o
  refine RC.sr (ic ((a0:Int)) ((ab.1.length:Int)) (RL.nq (RC.cN (l8 hk) (RC.ss (RC.bs ?_)))))
  obtain⟨a9,a3,o⟩:=bd o
  refine RL.bY 15 j zr zr va a3 (RL.kK (f:=(fun x=>x)) 15 j (jZ 15 j a3 0) (bC a3).2.1 Fd.self sW fun bt j=>?_)
  refine RL.alloc j A4.z fun bu w j=>?_
  refine RL.bA 0 j 1 zr sW fun w j=>?_
  refine RL.ns (mv (vp ae 0) (mv v1 (RL.aS (f:=(fun x=>x)) 0 j zr Fd.self sW fun bk j=>(RL.eJ ([a9]: (List bS)) j [bk] va A4 (fun M hs g=>⟨(g.sat 0 _ zr).1,zt⟩) fun bl w j=>?_))))
  have j:=(((((((((j.freeze 0).dup 18 rfl).dup 18 rfl).dup 15 rfl).dup 15 rfl).dup 14 rfl).dup 14 rfl).dup 14 rfl).dup 14 rfl).pull 14
  obtain⟨bw,bm,o⟩:=bd o
  refine RL.call zt zr JO [(vp ae 0),v1,bl] zr (aF (rk N (i1:=4) (i2:=0) j zr zr bm) ?_)
  rintro bn w j
  refine mv v2 ?_
  have j:=j.freeze 0
  obtain⟨bx,bo,o⟩:=bd o
  refine RL.call zt zr JQ [bn,v2] zr (aF (mP N (i0:=0) (i1:=7) j zr zr bo) ?_)
  rintro _ w ⟨rfl,j⟩
  refine RL.nt ?_
  obtain⟨a4,hj,o⟩:=bd o
  refine RC.jn (fun(a4: (List bS)) U w=>∃a2:Value,SH E V [(1,v1),(2,v2),(10,vp ae 0),(13,a2),(39,ag),(40,vi ab.1.length),(41,vi a0)] [rd v1 p1,rd v2 p2,bc 126 ae [ai,aj,ak,al,an,ao,aq,ar,au,av,aw,ax],rd ai aa.1,rd aj aa.2.1,rd ak aa.2.2.1,rd al aa.2.2.2.1,rd an aa.2.2.2.2.1,rd ao aa.2.2.2.2.2.1,rd aq aa.2.2.2.2.2.2.1,rd ar aa.2.2.2.2.2.2.2.1,rd au aa.2.2.2.2.2.2.2.2.1,rd av aa.2.2.2.2.2.2.2.2.2.1,rd aw aa.2.2.2.2.2.2.2.2.2.2.1,rd ax aa.2.2.2.2.2.2.2.2.2.2.2,own 43 ag ab.1,own 43 a2 a4] U w) a4 ?_ ?_
  ·refine eL hj (fun hc hj=>?_) fun hc hj=>?_
   rotate_left
   ·refine RC.skip ?_
    obtain rfl:=oi hj
    exact⟨rfl,a8,j.sp 23 [6,7,1,9,10,11,12,13,14,15,16,17,18,19,20,21,22]⟩
   refine RC.region (mv a8 (RL.aS (f:=(fun x=>x)) 4 j zr Fd.self sW fun bp j=>(RL.eJ ([a9]: (List bS)) j [bp] va A4 (fun M hs g=>⟨(g.sat 0 _ zr).1,zt⟩) fun bz w j=>?_)))
   have j:=j.freeze 0
   obtain⟨b0,bq,hj⟩:=bd hj
   refine RL.app 24 0 j HU bq fun ba w j=>?_
   refine aM ba (RL.nil ?_)
   obtain rfl:=oi hj
   exact⟨rfl,ba,j.sp 25 [8,9,3,11,12,13,14,15,16,17,18,19,20,21,22,23,24]⟩
  rintro _ w ⟨a2,O,rfl,j⟩
  refine bL (aG (RC.region (RL.inc hk hm (mv (vi ((a0+1:Nat):Int)) (RL.nil ?_)))))
  obtain rfl:=oi o
  exact⟨rfl,a2,j.sp 17 [0,1,2,3,4,5,6,7,8,9,10,11,12,13,14,15,16]⟩
 rintro _ w ⟨az,O,rfl,j⟩
 refine aG (RC.sr (mv az (aM az (aM (vi 0) (RL.nt (RC.ret ?_))))))
 obtain rfl:=oi o
 exact iL ⟨az,zr,j.pk 17 [16]⟩
def mw (E:World) (V:List HP) (r:Bool) (U:Nat->Value) (w:World):Prop:=l6 bG 108 Tryz.f3 (bF E V r) .ret U w
theorem mb {p0:iu} {p1: (List Test)} {res:Bool} (j:Holds E w V) (h0:V[i0]? =some (rd v0 p0)) (h1:V[i1]? =some (rd v1 p1)) (o:dL N p0 p1 p2 p3=some res):
    Calls bG 3 [v0,v1,(vi p2),(vi p3)].toArray w (gH (bF E V res)):=by
 unfold dL at o
 refine enter Tryz.func3 zr zr ?_
 have j:=(j.dup (i0+0) h0).dup (i1+1) h1
 refine RC.sr (RL.cY 1 v0 j zr fun ak w j=>?_)
 refine aM (vb false) (RL.ns (RL.aS (f:=(fun x=>x)) 0 j zr Fd.self nj fun a7 j=>(mv (vi p2) ?_)))
 obtain⟨ab,a8,o⟩:=bd o
 refine RL.call zt zr LI [a7,(vi p2)] zr (aF (we N (p1:=p2) (i0:=0) j zr a8) ?_)
 rintro _ w ⟨al,rfl,j⟩
 refine mv (.tuple #[al,(vi ab.2)]) (RL.extract al (RL.extract (vi ab.2) (aM al (aM (vi ab.2) (RL.nq (RC.seq ?_))))))
 obtain⟨az,hj,o⟩:=bd o
 refine RC.jn (fun(az:Bool)=>SH E V [(1,v1),(2,vi p2),(3,vi p3),(4,vp ak 0),(9,al),(10,vi ab.2),(39,vb az)] [rd v1 p1,bx 27 ak p0,own 43 al ab.1]) az ?_ ?_
 ·refine RC.region (mv (vi ab.2) (ic ab.2 0 (mv (vb (ab.2 != 0)) (RL.gs true (ab.2 != 0) (vi p3) rfl rfl rfl dR (RL.gs true (ab.2 != 0) (vb (decide (p3<0))) rfl rfl rfl (dY .lss .i64 p3 0 rfl (fun h=>by exact(cT h:cv (true&&((ab.2 != 0)==false)) (vi p3)= (vi p3))) (fun _=>rfl) rfl) (RL.pick (ab.2 != 0) (vb ((ab.2 != 0)||(decide (p3<0)))) (nE true rfl) (mv (vb ((ab.2 != 0)||(decide (p3<0)))) (fM hj (fun ag hj=>?_) fun ag hj=>?_))))))))
  ·refine bJ ag (bJ ag (bJ ag (bJ ag (fI ag (vb true) (mv (vb true) (n9 (n9 (n9 ?_))))))))
   refine n9 (RL.pick true (vb true) zr (RL.nil ?_))
   obtain rfl:=oi hj
   exact⟨rfl,j.sp 5 [3,2,0]⟩
  refine RL.move (vi p3) (cg ag) (RL.move al (cg ag) (RL.fG (hg:=(cg ag)) 0 ab.1 j xZ (RL.jk p3 (ab.1.length:Int) (cg ag) (fI ag (vb (decide (p3>=(ab.1.length:Int)))) (mv (vb (decide (p3>=(ab.1.length:Int)))) (fM hj (fun ah hj=>?_) fun ah hj=>?_))))))
  ·refine bJ ah (bJ ah (bJ ah (bJ ah (fI ah (vb true) (RL.nil ?_)))))
   obtain rfl:=oi hj
   exact⟨rfl,j.sp 5 [3,2,0]⟩
  refine RL.aS (hg:=(cg ah)) (f:=(fun x=>x)) 2 j zr Fd.self nj fun a9 j=>(RL.move v1 (cg ah) ?_)
  obtain⟨a2,ba,hj⟩:=bd hj
  refine RL.call (cg ah) zr LJ [a9,v1] zr (aF (su N (i0:=0) (i1:=4) j zr zr ba) ?_)
  rintro _ w ⟨rfl,j⟩
  refine RL.jk a2 0 (cg ah) (fI ah (vb (a2 != 0)) (RL.nil ?_))
  obtain rfl:=oi hj
  exact⟨rfl,j.sp 6 [4,3,1]⟩
 rintro _ w ⟨O,rfl,j⟩
 refine aG (eL o (fun hc o=>?_) fun hc o=>?_)
 ·refine RC.seq ?_
  obtain⟨a0,hj,o⟩:=bd o
  refine RC.jn (fun(a0:Bool)=>SH E V [(8,vb a0)] []) a0 ?_ ?_
  ·refine RC.region (mv (vi ab.2) (ic ab.2 0 (mv (vb (ab.2==0)) (fM hj (fun ao hj=>?_) fun ao hj=>?_))))
   ·refine bJ ao (bJ ao (bJ ao (fI ao (vb true) (mv (vb true) ?_))))
    obtain⟨a3,bb,hj⟩:=bd hj
    refine RL.call ⟨_,zr,zr⟩ zr HZ [] zr (aF (jB N j bb) ?_)
    rintro _ w ⟨rfl,j⟩
    refine RL.pick true (vb a3) zr (aM (vb a3) (RL.nil ?_))
    obtain rfl:=oi hj
    exact⟨rfl,j.sp 3 []⟩
   refine RL.move al (cg ao) (RL.fG (hg:=(cg ao)) 2 ab.1 j xZ (RL.jk (ab.1.length:Int) 0 (cg ao) (fI ao (vb ((ab.1.length:Int)==0)) (mv (vb ((ab.1.length:Int)==0)) (fM hj (fun ax hj=>?_) fun ax hj=>?_)))))
   rotate_left
   ·refine bJ ax (fI ax (vb false) (aM (vb false) (RL.nil ?_)))
    obtain rfl:=oi hj
    exact⟨rfl,j.sp 3 []⟩
   obtain⟨a4,bc,hj⟩:=bd hj
   refine RL.call (cg ax) zr HZ [] zr (aF (jB N j bc) ?_)
   rintro _ w ⟨rfl,j⟩
   refine fI ax (vb a4) (aM (vb a4) (RL.nil ?_))
   obtain rfl:=oi hj
   exact⟨rfl,j.sp 3 []⟩
  rintro _ w ⟨O,rfl,j⟩
  refine aG (RC.rt ?_)
  obtain rfl:=oi o
  exact cF ⟨rfl,j.drop 0⟩
 refine RC.ss (RC.wk mixed [0,0,0,0,0,0,0,2,0,0,0,0,0] [0,1,2,3,4,5,6,7,8,9,10,11,12] ?_)
 have j:=j.drew
 refine DP.e0 zr (RL.aS (f:=(fun x=>x)) 1 j zr Fd.self nj fun bf j=>(bU zr (mv v1 (bU zr (mv al (bU zr (mv (vi p3) (bU zr ?_))))))))
 refine mv (vi p3) (bU zr (RL.jl p3 1 (bU zr ?_)))
 have j:=j.freeze 3
 obtain⟨b2,bg,o⟩:=bd o
 refine RL.cut 3 j va (.inl zr) bg fun bh j=>(sS zr ?_)
 obtain⟨aq,bj,o⟩:=bd o
 refine RL.call zt zr JP [bf,v1,bh] zr (aF (rl N (i0:=1) (i1:=2) (i2:=0) j zr zr zr bj) ?_)
 rintro _ w ⟨ae,rfl,j⟩
 refine wm zr (mv (.tuple #[ae,(vi aq.2)]) (bU zr (RL.extract ae (bU zr (RL.extract (vi aq.2) (bU zr (aM ae (bU zr ?_))))))))
 refine aM (vi aq.2) (DP.d0 (DP.z (aG (RC.seq (RC.sr (mv (vi aq.2) (ic aq.2 0 (RL.nt ?_))))))))
 refine eL o (fun hc o=>?_) fun hc o=>?_
 ·refine RC.sr (aM (vb false) (RL.nt (RC.rt ?_)))
  obtain rfl:=oi o
  exact cF ⟨rfl,j.drop 6⟩
 refine RC.sx (RL.aS (f:=(fun x=>x)) 4 j zr Fd.self nj fun bk j=>(mv v1 (mv ae (mv (vi p2) ?_))))
 have j:=j.freeze 1
 obtain⟨av,bl,o⟩:=bd o
 refine RL.call zt zr K8 [bk,v1,ae,(vi p2)] zr (aF (zO N (p3:=p2) (i0:=0) (i1:=4) (i2:=1) j zr zr zr bl) ?_)
 rintro _ w ⟨au,rfl,j⟩
 refine mv (.tuple #[au,(vi av.2)]) (RL.extract au (RL.extract (vi av.2) (aM au (aM (vi av.2) (RL.nq (RC.seq ?_))))))
 obtain⟨ar,hj,o⟩:=bd o
 refine RC.jn (fun(ar: (List bS)×Bool) U w=>∃aj:Value,SH E V [(1,v1),(4,vp ak 0),(11,ae),(12,aj),(81,vb ar.2)] [rd v1 p1,bx 27 ak p0,rd ae aq.1,rd aj ar.1] U w) ar ?_ ?_
 ·refine RC.region (mv (vi av.2) (ic av.2 0 (mv (vb (av.2 != 0)) (fM hj (fun ad hj=>?_) fun ad hj=>?_))))
  ·refine bJ ad (bJ ad (bJ ad (bJ ad (bJ ad (bJ ad (bJ ad (fI ad (vb true) (RL.nil ?_))))))))
   obtain rfl:=oi hj
   have j:=j.freeze 0
   exact⟨rfl,au,j.sp 8 [5,6,2,0]⟩
  refine RL.move au (cg ad) (RL.move al (cg ad) (RL.move (vi p3) (cg ad) ?_))
  obtain⟨bm,bn,hj⟩:=bd hj
  refine RL.cC (hg:=(cg ad)) 7 j va bn fun b3 j=>(RL.bO (hg:=(cg ad)) 0 bm j sW fun bo j=>?_)
  have j:=j.freeze 2
  obtain⟨a5,bp,hj⟩:=bd hj
  refine RL.call (cg ad) zr JF [au,bo] zr (aF (lK N (i0:=2) (i1:=0) j zr zr bp) ?_)
  rintro _ w ⟨rfl,j⟩
  refine RL.not (hg:=(cg ad)) a5 (fI ad (vb (!a5)) (RL.nil ?_))
  obtain rfl:=oi hj
  exact⟨rfl,au,j.sp 10 [7,8,4,2]⟩
 rintro _ w ⟨aj,O,rfl,j⟩
 refine aG (eL o (fun hc o=>?_) fun hc o=>?_)
 ·refine RC.sr (aM (vb false) (RL.nt (RC.rt ?_)))
  obtain rfl:=oi o
  exact cF ⟨rfl,j.drop 4⟩
 refine RC.ss (RC.sr (aM (vi 0) (RL.nt ?_)))
 obtain⟨b4,hN,o⟩:=bd o
 refine RC.iter (fun(af:Int)=>SH E V [(1,v1),(4,vp ak 0),(11,ae),(12,aj),(13,vi af)] [rd v1 p1,bx 27 ak p0,rd ae aq.1,rd aj ar.1]) (fun(af:Int)=>SH E V [] [rd v1 p1,bx 27 ak p0,rd ae aq.1,rd aj ar.1]) (mw E V) hN ?_ ?_ ?_ ?_
 ·exact j.sp 4 [0,1,2,3]
 ·rintro af fl _ w ⟨O,rfl,j⟩ o
  refine RC.seq (RC.sr (mv (vi af) (mv aj (RL.bB 3 ar.1 j xZ (ic af ((ar.1.length:Int)) (RL.nt (eL o (fun hc o=>?_) fun hc o=>?_)))))))
  rotate_left
  ·refine RC.ex ?_
   obtain rfl:=oi o
   exact⟨rfl,j.sp 4 [0,1,2,3]⟩
  refine RC.ss (RC.block (RC.seq (RC.wk mixed [0,0,0,0,0,0,0,2,0,0,0,0,0] [0,1,2,3,4,5,6,7,8,9,10,11,12] ?_)))
  have j:=j.drew
  refine DP.e0 zr (RL.aS (f:=(fun x=>x)) 1 j zr Fd.self nj fun br j=>(bU zr (mv v1 (bU zr (mv aj (bU zr (mv (vi af) (bU zr ?_))))))))
  refine mv (vi af) (bU zr (RL.jl af 1 (bU zr ?_)))
  obtain⟨b6,bs,o⟩:=bd o
  refine RL.cut 4 j va (.inl zr) bs fun bt j=>(sS zr ?_)
  obtain⟨aw,bu,o⟩:=bd o
  refine RL.call zt zr JP [br,v1,bt] zr (aF (rl N (i0:=1) (i1:=2) (i2:=0) j zr zr zr bu) ?_)
  rintro _ w ⟨ay,rfl,j⟩
  refine wm zr (mv (.tuple #[ay,(vi aw.2)]) (bU zr (RL.extract ay (bU zr (RL.extract (vi aw.2) (bU zr (aM ay (bU zr ?_))))))))
  refine aM (vi aw.2) (DP.d0 (DP.z (aG (RC.seq ?_))))
  obtain⟨a1,hj,o⟩:=bd o
  refine RC.jn (fun(a1:Bool)=>SH E V [(1,v1),(4,vp ak 0),(11,ae),(12,aj),(13,vi af),(106,vb a1)] [rd v1 p1,bx 27 ak p0,rd ae aq.1,rd aj ar.1]) a1 ?_ ?_
  ·refine RC.region (mv (vi aw.2) (ic aw.2 0 (mv (vb (aw.2 != 0)) (fM hj (fun ai hj=>?_) fun ai hj=>?_))))
   ·refine bJ ai (bJ ai (bJ ai (bJ ai (fI ai (vb true) (RL.nil ?_)))))
    obtain rfl:=oi hj
    exact⟨rfl,j.sp 7 [3,4,5,6]⟩
   refine RL.move ae (cg ai) (RL.move ay (cg ai) ?_)
   have j:=j.freeze 0
   obtain⟨a6,bw,hj⟩:=bd hj
   refine RL.call (cg ai) zr JQ [ae,ay] zr (aF (mP N (i0:=5) (i1:=0) j zr zr bw) ?_)
   rintro _ w ⟨rfl,j⟩
   refine RL.not (hg:=(cg ai)) a6 (fI ai (vb (!a6)) (RL.nil ?_))
   obtain rfl:=oi hj
   exact⟨rfl,j.sp 7 [3,4,5,6]⟩
  rintro _ w ⟨O,rfl,j⟩
  refine aG (eL o (fun hc o=>?_) fun hc o=>?_)
  ·refine RC.sr (aM (vb false) (RL.nt (RC.rb (bV ?_))))
   obtain rfl:=oi o
   exact⟨rfl,cF ⟨rfl,j.drop 4⟩⟩
  refine RC.skip (bL (aG (RC.region (mv (vi af) (RL.jl af 1 (aM (vi (IntKind.wrap .i64 (af+1))) (RL.nil ?_)))))))
  obtain rfl:=oi o
  exact⟨rfl,j.sp 4 [0,1,2,3]⟩
 ·intro r U w e hK
  subst e
  refine bV ?_
  obtain rfl:=oi o
  exact hK
 rintro af _ w rfl ⟨O,rfl,j⟩
 rw [Fo.f0] at o
 refine aG (RC.sr ?_)
 obtain⟨b0,b1,o⟩:=bd o
 refine RL.call zt zr HZ [] zr (aF (jB N j b1) ?_)
 rintro _ w ⟨rfl,j⟩
 refine aM (vb b0) (RL.nt (RC.ret ?_))
 obtain rfl:=oi o
 exact cF ⟨rfl,j.drop 4⟩
end Go.Gk
