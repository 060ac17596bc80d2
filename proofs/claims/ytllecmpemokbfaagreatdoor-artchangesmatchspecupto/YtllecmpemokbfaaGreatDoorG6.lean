/-
  Printed texts: Go functions as plain functions, and that they are. No statement of the seed is proved here.
-/
import Derived.Test.YtllecmpemokbfaaGreatDoorG1
import Derived.Test.YtllecmpemokbfaaGreatDoorG2
import Derived.Test.YtllecmpemokbfaaGreatDoorG5
import Derived.Test.YtllecmpemokbfaaGreatDoorA2
set_option linter.unusedVariables false
set_option linter.unusedSimpArgs false
set_option linter.unusedSectionVars false
set_option maxRecDepth 100000
set_option maxHeartbeats 4000000
namespace Go.Gk
open Go Go.Proofs
variable (N:Nat) {E w:World} {i0 i1:Nat} {p1 p2 res:Int} {v0 v1:Value} {V:List HP}
theorem iO {p0:bJ} {res:aG} (j:Holds E w V) (h0:V[i0]? =some (rd v0 p0)) (o:cV N p0=some res):
    Calls bD 58 [v0].toArray w (gm (nX E V res)):=by
 unfold cV at o
 refine enter Tryz.func58 zr zr ?_
 have j:=j.dup (i0+0) h0
 refine RC.sr (RL.dA 0 v0 j zr fun aa w j=>?_)
 refine RL.alloc j oe.z fun ab w j=>?_
 refine RL.nq (RC.yk mixed ?_)
 have j:=j.drew
 refine RO.go (RL.aX zr xu (RO.nx (RL.aX zr xv (RO.nx (RL.aL (f:=(fun x=>x.At.X)) 1 j zr (Fd.comp (f:=fun(x:bJ)=>x.At) (fun(x:jy)=>x.X) pM ov) cF (RO.nx (RL.aX zr qP (RO.nx ?_))))))))
 refine RL.aL 1 j zr lJ cF (RO.nx (RL.quo p0.cZ 2 (RO.nx (RL.gQ p0.At.X (IntKind.wrap .i64 (Int.tdiv p0.cZ 2)) (RO.nx (RL.aX zr xu (RO.nx (RL.aX zr xw ?_))))))))
 refine RO.nx (RL.aL (f:=(fun x=>x.At.Y)) 1 j zr (Fd.comp (f:=fun(x:bJ)=>x.At) (fun(x:jy)=>x.Y) pM ox) cF (RO.nx (RL.aX zr qP (RO.nx (RL.aL 1 j zr lJ cF (RO.nx (RL.quo p0.cZ 2 (RO.nx ?_))))))))
 refine RL.gQ p0.At.Y (IntKind.wrap .i64 (Int.tdiv p0.cZ 2)) (RO.nx (aP (vi (IntKind.wrap .i64 (p0.At.X - (IntKind.wrap .i64 (Int.tdiv p0.cZ 2))))) (RO.nx (aP (vi (IntKind.wrap .i64 (p0.At.Y - (IntKind.wrap .i64 (Int.tdiv p0.cZ 2))))) (RO.last (aJ (RC.sr (mv (vi (IntKind.wrap .i64 (p0.At.X - (IntKind.wrap .i64 (Int.tdiv p0.cZ 2))))) ?_))))))))
 refine mv (vi (IntKind.wrap .i64 (p0.At.Y - (IntKind.wrap .i64 (Int.tdiv p0.cZ 2))))) (mv (vi (IntKind.wrap .i64 (p0.At.X - (IntKind.wrap .i64 (Int.tdiv p0.cZ 2))))) (RL.aX zr qP (RL.aL 1 j zr lJ cF (RL.gQ (IntKind.wrap .i64 (p0.At.X - (IntKind.wrap .i64 (Int.tdiv p0.cZ 2)))) p0.cZ (mv (vi (IntKind.wrap .i64 (p0.At.Y - (IntKind.wrap .i64 (Int.tdiv p0.cZ 2))))) (RL.aX zr qP (RL.aL 1 j zr lJ cF (RL.gQ (IntKind.wrap .i64 (p0.At.Y - (IntKind.wrap .i64 (Int.tdiv p0.cZ 2)))) p0.cZ ?_))))))))
 have j:=((j.sc Int (IntKind.wrap .i64 (p0.At.X - (IntKind.wrap .i64 (Int.tdiv p0.cZ 2))))).sc Int (IntKind.wrap .i64 (p0.At.Y - (IntKind.wrap .i64 (Int.tdiv p0.cZ 2))))).sc Int (IntKind.wrap .i64 ((IntKind.wrap .i64 (p0.At.X - (IntKind.wrap .i64 (Int.tdiv p0.cZ 2))))+p0.cZ))
 have j:=j.sc Int (IntKind.wrap .i64 ((IntKind.wrap .i64 (p0.At.Y - (IntKind.wrap .i64 (Int.tdiv p0.cZ 2))))+p0.cZ))
 refine RL.build (⟨(IntKind.wrap .i64 (p0.At.X - (IntKind.wrap .i64 (Int.tdiv p0.cZ 2)))),(IntKind.wrap .i64 (p0.At.Y - (IntKind.wrap .i64 (Int.tdiv p0.cZ 2)))),(IntKind.wrap .i64 ((IntKind.wrap .i64 (p0.At.X - (IntKind.wrap .i64 (Int.tdiv p0.cZ 2))))+p0.cZ)),(IntKind.wrap .i64 ((IntKind.wrap .i64 (p0.At.Y - (IntKind.wrap .i64 (Int.tdiv p0.cZ 2))))+p0.cZ))⟩:aG) trivial rfl j [(0,(vi (IntKind.wrap .i64 (p0.At.X - (IntKind.wrap .i64 (Int.tdiv p0.cZ 2)))))),(1,(vi (IntKind.wrap .i64 (p0.At.Y - (IntKind.wrap .i64 (Int.tdiv p0.cZ 2)))))),(2,(vi (IntKind.wrap .i64 ((IntKind.wrap .i64 (p0.At.X - (IntKind.wrap .i64 (Int.tdiv p0.cZ 2))))+p0.cZ)))),(3,(vi (IntKind.wrap .i64 ((IntKind.wrap .i64 (p0.At.Y - (IntKind.wrap .i64 (Int.tdiv p0.cZ 2))))+p0.cZ))))] rfl Cw rfl (fun M hs g=>by have h:=sm M;exact dB.cons (f:=fun(x:aG) y=>{x with X0:=y}) h ot (g.sat 3 _ rfl).1 fun _ h=>dB.cons (f:=fun(x:aG) y=>{x with Y0:=y}) h pK (g.sat 2 _ rfl).1 fun _ h=>dB.cons (f:=fun(x:aG) y=>{x with X1:=y}) h ou (g.sat 1 _ rfl).1 fun _ h=>dB.cons (f:=fun(x:aG) y=>{x with Y1:=y}) h pL (g.sat 0 _ rfl).1 fun _ h=>dB.nil h) fun ad j=>?_
 refine RL.aY 5 j 0 zr hZ fun w j=>?_
 refine RL.nt (RC.ret ?_)
 obtain rfl:=oi o
 exact Hm 5 zr j zr zr hZ fun ae j=>(j.pk 9 [0])
theorem o9 {p0:bJ} (j:Holds E w V) (h0:V[i0]? =some (rd v0 p0)) (hb:gq N p0=some res):
    Calls bD 80 [v0].toArray w (gm (aU E V res)):=by
 unfold gq at hb
 refine enter Tryz.func80 zr zr ?_
 have j:=j.dup (i0+0) h0
 refine RC.sr (RL.dA 0 v0 j zr fun an w j=>?_)
 refine aP (vi 0) (RL.nq (RC.seq ?_))
 obtain⟨ah,o,hb⟩:=bd hb
 refine RC.jn (fun(ah:Bool)=>SH E V [(1,vp an 0),(13,vb ah)] [bx 46 an p0]) ah ?_ ?_
 ·refine RC.region (RL.aX zr qP (RL.aL 0 j zr lJ cF ?_))
  obtain⟨ao,av,o⟩:=bd o
  refine RL.call zt zr Fe [(vi p0.cZ),(vi 1),(vi 10000)] zr (aC (fX N (p0:=p0.cZ) (p1:=1) (p2:=10000) j av) ?_)
  rintro _ w ⟨rfl,j⟩
  refine RL.not ao (mv (vb (!ao)) (gu o (fun ab o=>?_) fun ab o=>?_))
  ·refine bN ab (bN ab (bN ab (bN ab (gD ab (vb true) (RL.nil ?_)))))
   obtain rfl:=oi o
   exact⟨rfl,j.sp 2 [0]⟩
  refine RL.aX (hg:=(cg ab)) zr xu (RL.aV (hg:=(cg ab)) 0 j zr pM zZ fun aw j=>?_)
  obtain⟨aq,ax,o⟩:=bd o
  refine RL.call (cg ab) zr Ik [aw] zr (aC (m6 N (i0:=0) j zr ax) ?_)
  rintro _ w ⟨rfl,j⟩
  refine RL.not (hg:=(cg ab)) aq (gD ab (vb (!aq)) (RL.nil ?_))
  obtain rfl:=oi o
  exact⟨rfl,j.sp 3 [1]⟩
 rintro _ w ⟨O,rfl,j⟩
 refine aJ (dW hb (fun hc hb=>?_) fun hc hb=>?_)
 ·refine RC.sr (aP (vi 1) (RL.nt (RC.rt ?_)))
  obtain rfl:=oi hb
  exact bM ⟨rfl,j.drop 1⟩
 refine RC.sx (RL.aV (f:=(fun x=>x)) 0 j zr Fd.self mJ fun ay j=>?_)
 obtain⟨ag,az,hb⟩:=bd hb
 refine RL.call zt zr HG [ay] zr (aC (iO N (i0:=0) j zr az) ?_)
 rintro a4 w j
 refine RL.alloc j oe.z fun a5 w j=>?_
 refine RL.aY 0 j 1 zr hZ fun w j=>?_
 refine RL.nq (RC.seq ?_)
 obtain⟨aj,o,hb⟩:=bd hb
 refine RC.jn (fun(aj:Bool)=>SH E V [(37,vb aj)] []) aj ?_ ?_
 ·refine RC.region (RL.aX zr iD (RL.aL 0 j zr dM cF ?_))
  obtain⟨ar,a0,o⟩:=bd o
  refine RL.call zt zr z5 [(vi ag.X0)] zr (aC (dV N (p0:=ag.X0) j a0) ?_)
  rintro _ w ⟨rfl,j⟩
  refine RL.not ar (mv (vb (!ar)) (gu o (fun ad o=>?_) fun ad o=>?_))
  ·refine bN ad (bN ad (bN ad (bN ad (gD ad (vb true) (mv (vb true) (jX (jX (jX ?_))))))))
   refine jX (RL.pick true (vb true) zr (mv (vb true) (jX (jX (jX (jX (RL.pick true (vb true) zr (RL.nil ?_))))))))
   obtain rfl:=oi o
   exact⟨rfl,j.sp 4 []⟩
  refine RL.aX (hg:=(cg ad)) zr il (RL.aL (hg:=(cg ad)) 0 j zr dG cF ?_)
  obtain⟨ak,a1,o⟩:=bd o
  refine RL.call (cg ad) zr z5 [(vi ag.Y0)] zr (aC (dV N (p0:=ag.Y0) j a1) ?_)
  rintro _ w ⟨rfl,j⟩
  refine RL.not (hg:=(cg ad)) ak (gD ad (vb (!ak)) (mv (vb (!ak)) (gu o (fun ae o=>?_) fun ae o=>?_)))
  ·refine bN ae (bN ae (bN ae (bN ae (gD ae (vb true) (mv (vb true) (jX (jX (jX ?_))))))))
   refine jX (RL.pick true (vb true) zr (RL.nil ?_))
   obtain rfl:=oi o
   exact⟨rfl,j.sp 4 []⟩
  refine RL.aX (hg:=(cg ae)) zr jl (RL.aL (hg:=(cg ae)) 0 j zr eG cF ?_)
  obtain⟨al,a2,o⟩:=bd o
  refine RL.call (cg ae) zr z5 [(vi ag.X1)] zr (aC (dV N (p0:=ag.X1) j a2) ?_)
  rintro _ w ⟨rfl,j⟩
  refine RL.not (hg:=(cg ae)) al (gD ae (vb (!al)) (mv (vb (!al)) (gu o (fun af o=>?_) fun af o=>?_)))
  ·refine bN af (bN af (bN af (bN af (gD af (vb true) (RL.nil ?_)))))
   obtain rfl:=oi o
   exact⟨rfl,j.sp 4 []⟩
  refine RL.aX (hg:=(cg af)) zr kT (RL.aL (hg:=(cg af)) 0 j zr fV cF ?_)
  obtain⟨au,a3,o⟩:=bd o
  refine RL.call (cg af) zr z5 [(vi ag.Y1)] zr (aC (dV N (p0:=ag.Y1) j a3) ?_)
  rintro _ w ⟨rfl,j⟩
  refine RL.not (hg:=(cg af)) au (gD af (vb (!au)) (RL.nil ?_))
  obtain rfl:=oi o
  exact⟨rfl,j.sp 4 []⟩
 rintro _ w ⟨O,rfl,j⟩
 refine aJ (dW hb (fun hc hb=>?_) fun hc hb=>?_)
 ·refine RC.sr (aP (vi 1) (RL.nt (RC.rt ?_)))
  obtain rfl:=oi hb
  exact bM ⟨rfl,j.drop 0⟩
 refine RC.sx (aP (vi 0) (RL.nt (RC.ret ?_)))
 obtain rfl:=oi hb
 exact bM ⟨rfl,j.drop 0⟩
def sC (E:World) (V:List HP) (r:Bool) (U:Nat->Value) (w:World):Prop:=l6 bD 45 Tryz.f128 (aS E V r) .ret U w
theorem nH {p0:dY} {res:Bool} (hw:Holds E w V) (o:f9 N p0=some res):
    Calls bD 128 [(str p0)].toArray w (gm (aS E V res)):=by
 unfold f9 at o
 refine enter Tryz.func128 zr zr (RC.sr (aP (vb false) (RL.nq (RC.sr (aP (vi 0) (RL.nt ?_))))))
 obtain⟨aq,hN,o⟩:=bd o
 refine RC.iter (fun(ab:Int)=>SH E V [(0,(str p0)),(3,vi ab)] []) (fun(ab:Int)=>SH E V [(0,(str p0))] []) (sC E V) hN ?_ ?_ ?_ ?_
 ·exact hw.sp 0 []
 ·rintro ab fl _ w ⟨O,rfl,hw⟩ o
  refine RC.seq (RC.sr (mv (vi ab) (mv (str p0) (RL.lens p0 yR (ic ab ((p0.cQ.length:Int)) (RL.nt (dW o (fun hc o=>?_) fun hc o=>?_)))))))
  rotate_left
  ·refine RC.ex ?_
   obtain rfl:=oi o
   exact⟨rfl,hw.sp 0 []⟩
  refine RC.ss (RC.bs (mv (str p0) (mv (vi ab) ?_)))
  obtain⟨j,aj,o⟩:=bd o
  refine RL.idxs p0 ab j zr zr zr yR aj (aP (.int .u8 (j.toNat:Int)) (RL.nq ?_))
  obtain⟨ag,hj,o⟩:=bd o
  refine RC.jn (fun(ag:Bool)=>SH E V [(0,(str p0)),(3,vi ab),(41,vb ag)] []) ag ?_ ?_
  ·refine RC.region (mv (.int .u8 (j.toNat:Int)) (ic ((j.toNat:Int)) 97 (mv (vb (decide ((j.toNat:Int)>=97))) (RL.gs true (decide ((j.toNat:Int)>=97)) (.int .u8 (j.toNat:Int)) rfl rfl rfl cE (RL.gs true (decide ((j.toNat:Int)>=97)) (vb (decide ((j.toNat:Int)<=122))) rfl rfl rfl (dK .leq .u8 (j.toNat:Int) 122 rfl (fun h=>by exact(cG h:cv (true&&((decide ((j.toNat:Int)>=97))==true)) (.int .u8 (j.toNat:Int))= (.int .u8 (j.toNat:Int)))) (fun _=>rfl) rfl) (RL.pick (decide ((j.toNat:Int)>=97)) (vb ((decide ((j.toNat:Int)>=97))&&(decide ((j.toNat:Int)<=122)))) (gr true) (mv (vb ((decide ((j.toNat:Int)>=97))&&(decide ((j.toNat:Int)<=122)))) (RL.gs true ((decide ((j.toNat:Int)>=97))&&(decide ((j.toNat:Int)<=122))) (.int .u8 (j.toNat:Int)) rfl rfl rfl cE ?_))))))))
   refine RL.gs true ((decide ((j.toNat:Int)>=97))&&(decide ((j.toNat:Int)<=122))) (vb (decide ((j.toNat:Int)>=65))) rfl rfl rfl (dK .geq .u8 (j.toNat:Int) 65 rfl (fun h=>by exact(cG h:cv (true&&(((decide ((j.toNat:Int)>=97))&&(decide ((j.toNat:Int)<=122)))==false)) (.int .u8 (j.toNat:Int))= (.int .u8 (j.toNat:Int)))) (fun _=>rfl) rfl) (RL.gs true ((decide ((j.toNat:Int)>=97))&&(decide ((j.toNat:Int)<=122))) (vb (decide ((j.toNat:Int)>=65))) rfl rfl rfl (cE (hx:=fun h=>by exact(cG h:cv (true&&(((decide ((j.toNat:Int)>=97))&&(decide ((j.toNat:Int)<=122)))==false)) (vb (decide ((j.toNat:Int)>=65)))= (vb (decide ((j.toNat:Int)>=65)))))) (RL.gs (true&&(((decide ((j.toNat:Int)>=97))&&(decide ((j.toNat:Int)<=122)))==false)) (decide ((j.toNat:Int)>=65)) (.int .u8 (j.toNat:Int)) rfl rfl rfl cE (RL.gs (true&&(((decide ((j.toNat:Int)>=97))&&(decide ((j.toNat:Int)<=122)))==false)) (decide ((j.toNat:Int)>=65)) (vb (decide ((j.toNat:Int)<=90))) rfl rfl rfl (dK .leq .u8 (j.toNat:Int) 90 rfl (fun h=>by exact(cG h:cv ((true&&(((decide ((j.toNat:Int)>=97))&&(decide ((j.toNat:Int)<=122)))==false))&&((decide ((j.toNat:Int)>=65))==true)) (.int .u8 (j.toNat:Int))= (.int .u8 (j.toNat:Int)))) (fun _=>rfl) rfl) (RL.gs true ((decide ((j.toNat:Int)>=97))&&(decide ((j.toNat:Int)<=122))) (vb ((decide ((j.toNat:Int)>=65))&&(decide ((j.toNat:Int)<=90)))) rfl rfl rfl (kF (decide ((j.toNat:Int)>=65)) rfl (fun h=>by exact(cG h:cv (true&&(((decide ((j.toNat:Int)>=97))&&(decide ((j.toNat:Int)<=122)))==false)) (vb (decide ((j.toNat:Int)>=65)))= (vb (decide ((j.toNat:Int)>=65))))) (fun h=>by exact gr (h:=h) (true&&(((decide ((j.toNat:Int)>=97))&&(decide ((j.toNat:Int)<=122)))==false)))) (RL.pick ((decide ((j.toNat:Int)>=97))&&(decide ((j.toNat:Int)<=122))) (vb (((decide ((j.toNat:Int)>=97))&&(decide ((j.toNat:Int)<=122)))||((decide ((j.toNat:Int)>=65))&&(decide ((j.toNat:Int)<=90))))) (nz true) (mv (vb (((decide ((j.toNat:Int)>=97))&&(decide ((j.toNat:Int)<=122)))||((decide ((j.toNat:Int)>=65))&&(decide ((j.toNat:Int)<=90))))) (RL.gs true (((decide ((j.toNat:Int)>=97))&&(decide ((j.toNat:Int)<=122)))||((decide ((j.toNat:Int)>=65))&&(decide ((j.toNat:Int)<=90)))) (.int .u8 (j.toNat:Int)) rfl rfl rfl cE (RL.gs true (((decide ((j.toNat:Int)>=97))&&(decide ((j.toNat:Int)<=122)))||((decide ((j.toNat:Int)>=65))&&(decide ((j.toNat:Int)<=90)))) (vb (decide ((j.toNat:Int)>=48))) rfl rfl rfl (dK .geq .u8 (j.toNat:Int) 48 rfl (fun h=>by exact(cG h:cv (true&&((((decide ((j.toNat:Int)>=97))&&(decide ((j.toNat:Int)<=122)))||((decide ((j.toNat:Int)>=65))&&(decide ((j.toNat:Int)<=90))))==false)) (.int .u8 (j.toNat:Int))= (.int .u8 (j.toNat:Int)))) (fun _=>rfl) rfl) ?_))))))))
   refine RL.gs true (((decide ((j.toNat:Int)>=97))&&(decide ((j.toNat:Int)<=122)))||((decide ((j.toNat:Int)>=65))&&(decide ((j.toNat:Int)<=90)))) (vb (decide ((j.toNat:Int)>=48))) rfl rfl rfl (cE (hx:=fun h=>by exact(cG h:cv (true&&((((decide ((j.toNat:Int)>=97))&&(decide ((j.toNat:Int)<=122)))||((decide ((j.toNat:Int)>=65))&&(decide ((j.toNat:Int)<=90))))==false)) (vb (decide ((j.toNat:Int)>=48)))= (vb (decide ((j.toNat:Int)>=48)))))) (RL.gs (true&&((((decide ((j.toNat:Int)>=97))&&(decide ((j.toNat:Int)<=122)))||((decide ((j.toNat:Int)>=65))&&(decide ((j.toNat:Int)<=90))))==false)) (decide ((j.toNat:Int)>=48)) (.int .u8 (j.toNat:Int)) rfl rfl rfl cE (RL.gs (true&&((((decide ((j.toNat:Int)>=97))&&(decide ((j.toNat:Int)<=122)))||((decide ((j.toNat:Int)>=65))&&(decide ((j.toNat:Int)<=90))))==false)) (decide ((j.toNat:Int)>=48)) (vb (decide ((j.toNat:Int)<=57))) rfl rfl rfl (dK .leq .u8 (j.toNat:Int) 57 rfl (fun h=>by exact(cG h:cv ((true&&((((decide ((j.toNat:Int)>=97))&&(decide ((j.toNat:Int)<=122)))||((decide ((j.toNat:Int)>=65))&&(decide ((j.toNat:Int)<=90))))==false))&&((decide ((j.toNat:Int)>=48))==true)) (.int .u8 (j.toNat:Int))= (.int .u8 (j.toNat:Int)))) (fun _=>rfl) rfl) (RL.gs true (((decide ((j.toNat:Int)>=97))&&(decide ((j.toNat:Int)<=122)))||((decide ((j.toNat:Int)>=65))&&(decide ((j.toNat:Int)<=90)))) (vb ((decide ((j.toNat:Int)>=48))&&(decide ((j.toNat:Int)<=57)))) rfl rfl rfl (kF (decide ((j.toNat:Int)>=48)) rfl (fun h=>by exact(cG h:cv (true&&((((decide ((j.toNat:Int)>=97))&&(decide ((j.toNat:Int)<=122)))||((decide ((j.toNat:Int)>=65))&&(decide ((j.toNat:Int)<=90))))==false)) (vb (decide ((j.toNat:Int)>=48)))= (vb (decide ((j.toNat:Int)>=48))))) (fun h=>by exact gr (h:=h) (true&&((((decide ((j.toNat:Int)>=97))&&(decide ((j.toNat:Int)<=122)))||((decide ((j.toNat:Int)>=65))&&(decide ((j.toNat:Int)<=90))))==false)))) (RL.pick (((decide ((j.toNat:Int)>=97))&&(decide ((j.toNat:Int)<=122)))||((decide ((j.toNat:Int)>=65))&&(decide ((j.toNat:Int)<=90)))) (vb ((((decide ((j.toNat:Int)>=97))&&(decide ((j.toNat:Int)<=122)))||((decide ((j.toNat:Int)>=65))&&(decide ((j.toNat:Int)<=90))))||((decide ((j.toNat:Int)>=48))&&(decide ((j.toNat:Int)<=57))))) (nz true) (RL.not ((((decide ((j.toNat:Int)>=97))&&(decide ((j.toNat:Int)<=122)))||((decide ((j.toNat:Int)>=65))&&(decide ((j.toNat:Int)<=90))))||((decide ((j.toNat:Int)>=48))&&(decide ((j.toNat:Int)<=57)))) (mv (vb (!((((decide ((j.toNat:Int)>=97))&&(decide ((j.toNat:Int)<=122)))||((decide ((j.toNat:Int)>=65))&&(decide ((j.toNat:Int)<=90))))||((decide ((j.toNat:Int)>=48))&&(decide ((j.toNat:Int)<=57)))))) (gu hj (fun ad hj=>?_) fun ad hj=>?_)))))))
   rotate_left
   ·refine bN ad (bN ad (bN ad (gD ad (vb false) (RL.nil ?_))))
    obtain rfl:=oi hj
    exact⟨rfl,hw.sp 0 []⟩
   refine RL.move (.int .u8 (j.toNat:Int)) (cg ad) ?_
   obtain⟨ah,ak,hj⟩:=bd hj
   refine RL.call (cg ad) zr H6 [(str ⟨[95,43,45,35]⟩),(.int .u8 (j.toNat:Int))] zr (aC (oQ N (p0:=⟨[95,43,45,35]⟩) (p1:=(j.toNat:Int)) hw ak) ?_)
   rintro _ w ⟨rfl,hw⟩
   refine RL.lA ah 0 (cg ad) (gD ad (vb (decide (ah<0))) (RL.nil ?_))
   obtain rfl:=oi hj
   exact⟨rfl,hw.sp 0 []⟩
  rintro _ w ⟨O,rfl,hw⟩
  refine aJ (dW o (fun hc o=>?_) fun hc o=>?_)
  ·refine RC.sr (aP (vb false) (RL.nt (RC.rb (bL ?_))))
   obtain rfl:=oi o
   exact⟨rfl,bM ⟨rfl,hw.drop 0⟩⟩
  refine RC.skip (bQ (aJ (RC.region (mv (vi ab) (RL.gQ ab 1 (aP (vi (IntKind.wrap .i64 (ab+1))) (RL.nil ?_)))))))
  obtain rfl:=oi o
  exact⟨rfl,hw.sp 0 []⟩
 ·intro r U w e hK
  subst e
  refine bL ?_
  obtain rfl:=oi o
  exact hK
 rintro ab _ w rfl ⟨O,rfl,hw⟩
 rw [Fo.dQ] at o
 refine aJ (RC.sr (mv (str p0) (RL.lens p0 yR ?_)))
 obtain⟨an,ao,o⟩:=bd o
 refine RL.call zt zr Fe [(vi p0.cQ.length),(vi 1),(vi 40)] zr (aC (fX N (p0:=(p0.cQ.length:Int)) (p1:=1) (p2:=40) hw ao) ?_)
 rintro _ w ⟨rfl,hw⟩
 refine aP (vb an) (RL.nt (RC.ret ?_))
 obtain rfl:=oi o
 exact bM ⟨rfl,hw.drop 0⟩
def sD (E:World) (V:List HP) (r:Bool) (U:Nat->Value) (w:World):Prop:=l6 bD 22 Tryz.f127 (aS E V r) .ret U w
theorem rF {p0:dY} {res:Bool} (o:Holds E w V) (j:ja N p0=some res):
    Calls bD 127 [(str p0)].toArray w (gm (aS E V res)):=by
 unfold ja at j
 refine enter Tryz.func127 zr zr (RC.sr (aP (vb false) (RL.ns (mv (str p0) ?_))))
 obtain⟨ad,ah,j⟩:=bd j
 refine RL.call zt zr H4 [(str p0),(str ⟨[47]⟩)] zr (aC (rz N (p0:=p0) (p1:=⟨[47]⟩) o ah) ?_)
 rintro ab w o
 refine aP ab (RL.nq (RC.sr (aP (vi 0) (RL.nt ?_))))
 obtain⟨an,hN,j⟩:=bd j
 refine RC.iter (fun(aa:Int)=>SH E V [(0,(str p0)),(3,ab),(4,vi aa)] [own 9 ab ad]) (fun(aa:Int)=>SH E V [(0,(str p0))] [own 9 ab ad]) (sD E V) hN ?_ ?_ ?_ ?_
 ·exact o.sp 1 [0]
 ·rintro aa fl _ w ⟨O,rfl,o⟩ j
  refine RC.seq (RC.sr (mv (vi aa) (mv ab (RL.fY 0 ad o H5 (ic aa ((ad.length:Int)) (RL.nt (dW j (fun hc j=>?_) fun hc j=>?_)))))))
  rotate_left
  ·refine RC.ex ?_
   obtain rfl:=oi j
   exact⟨rfl,o.sp 1 [0]⟩
  refine RC.ss (RC.bs (mv ab (mv (vi aa) ?_)))
  obtain⟨ag,af,j⟩:=bd j
  refine RL.bX 0 o zr zr Cz af (RL.eH (f:=(fun x=>x)) 0 o (kJ 0 o af 0) (bE af).2.1 Fd.self yw ?_)
  obtain⟨aj,ak,j⟩:=bd j
  refine RL.call zt zr Il [(str ag)] zr (aC (nH N (p0:=ag) o ak) ?_)
  rintro _ w ⟨rfl,o⟩
  refine RL.not aj (RL.nt (dW j (fun hc j=>?_) fun hc j=>?_))
  ·refine RC.sr (aP (vb false) (RL.nt (RC.rb (bL ?_))))
   obtain rfl:=oi j
   exact⟨rfl,bM ⟨rfl,o.drop 1⟩⟩
  refine RC.skip (bQ (aJ (RC.region (mv (vi aa) (RL.gQ aa 1 (aP (vi (IntKind.wrap .i64 (aa+1))) (RL.nil ?_)))))))
  obtain rfl:=oi j
  exact⟨rfl,o.sp 1 [0]⟩
 ·intro r U w e hK
  subst e
  refine bL ?_
  obtain rfl:=oi j
  exact hK
 rintro aa _ w rfl ⟨O,rfl,o⟩
 rw [Fo.dQ] at j
 refine aJ (RC.sr (mv (str p0) (RL.lens p0 yR (ic ((p0.cQ.length:Int)) 200 (aP (vb (decide ((p0.cQ.length:Int)<=200))) (RL.nt (RC.ret ?_)))))))
 obtain rfl:=oi j
 exact bM ⟨rfl,o.drop 1⟩
theorem p5 {p0:fu} (hw:Holds E w V) (h0:V[i0]? =some (rd v0 p0)) (hb:g8 N p0 p1=some res):
    Calls bD 81 [v0,(vi p1)].toArray w (gm (aU E V res)):=by
 unfold g8 at hb
 refine enter Tryz.func81 zr zr ?_
 have hw:=hw.dup (i0+0) h0
 refine RC.sr (RL.dA 0 v0 hw zr fun aj w hw=>?_)
 refine aP (vi 0) (RL.ns (RL.aX zr o6 (RL.aV 0 hw zr lC yl fun a1 hw=>(mv (vi p1) ?_))))
 obtain⟨j,au,hb⟩:=bd hb
 refine RL.bP 0 hw Cy au fun a2 hw=>(RL.bF 0 j hw wv fun a3 hw=>(RL.alloc hw Gl.z fun ag w hw=>?_))
 refine RL.aY 0 hw 1 zr wv fun w hw=>?_
 refine RL.nq (RC.seq ?_)
 obtain⟨ak,hj,hb⟩:=bd hb
 refine RC.jn (fun(ak:Bool)=>SH E V [(1,vi p1),(2,vp aj 0),(5,vp ag 0),(21,vb ak)] [bx 27 aj p0,bx 49 ag j]) ak ?_ ?_
 ·refine RC.region (RL.aX zr vx (RL.aL 0 hw zr oy yw ?_))
  obtain⟨an,av,hj⟩:=bd hj
  refine RL.call zt zr KB [(str j.Part)] zr (aC (rF N (p0:=j.Part) hw av) ?_)
  rintro _ w ⟨rfl,hw⟩
  refine RL.not an (mv (vb (!an)) (gu hj (fun ae hj=>?_) fun ae hj=>?_))
  ·refine bN ae (bN ae (bN ae (bN ae (gD ae (vb true) (RL.nil ?_)))))
   obtain rfl:=oi hj
   exact⟨rfl,hw.sp 6 [4,0]⟩
  refine RL.aX (hg:=(cg ae)) zr yS (RL.aL (hg:=(cg ae)) 0 hw zr rj yw ?_)
  obtain⟨ao,aw,hj⟩:=bd hj
  refine RL.call (cg ae) zr Il [(str j.ik)] zr (aC (nH N (p0:=j.ik) hw aw) ?_)
  rintro _ w ⟨rfl,hw⟩
  refine RL.not (hg:=(cg ae)) ao (gD ae (vb (!ao)) (RL.nil ?_))
  obtain rfl:=oi hj
  exact⟨rfl,hw.sp 6 [4,0]⟩
 rintro _ w ⟨O,rfl,hw⟩
 refine aJ (dW hb (fun hc hb=>?_) fun hc hb=>?_)
 ·refine RC.sr (aP (vi 5) (RL.nt (RC.rt ?_)))
  obtain rfl:=oi hb
  exact bM ⟨rfl,hw.drop 2⟩
 refine RC.ss (RC.seq ?_)
 obtain⟨al,hj,hb⟩:=bd hb
 refine RC.jn (fun(al:Bool)=>SH E V [(1,vi p1),(2,vp aj 0),(5,vp ag 0),(35,vb al)] [bx 27 aj p0,bx 49 ag j]) al ?_ ?_
 ·refine RC.region (RL.aX zr Bf (RL.aL 1 hw zr uk cF (RL.aX zr fB (RL.aV 0 hw zr dX lk fun a4 hw=>(RL.bA 0 p0.aI hw oN (RL.gQ (p0.aI.length:Int) 1 ?_))))))
  obtain⟨aq,ax,hj⟩:=bd hj
  refine RL.call zt zr Fe [(vi j.eU),(vi 0),(vi (IntKind.wrap .i64 ((p0.aI.length:Int) - 1)))] zr (aC (fX N (p0:=j.eU) (p1:=0) (p2:=(IntKind.wrap .i64 ((p0.aI.length:Int) - 1))) hw ax) ?_)
  rintro _ w ⟨rfl,hw⟩
  refine RL.not aq (mv (vb (!aq)) (gu hj (fun af hj=>?_) fun af hj=>?_))
  ·refine bN af (bN af (bN af (bN af (gD af (vb true) (RL.nil ?_)))))
   obtain rfl:=oi hj
   exact⟨rfl,hw.sp 3 [1,2]⟩
  refine RL.aX (hg:=(cg af)) zr Bg (RL.aV (hg:=(cg af)) 2 hw zr um zZ fun ay hw=>?_)
  obtain⟨ar,az,hj⟩:=bd hj
  refine RL.call (cg af) zr Ik [ay] zr (aC (m6 N (i0:=0) hw zr az) ?_)
  rintro _ w ⟨rfl,hw⟩
  refine RL.not (hg:=(cg af)) ar (gD af (vb (!ar)) (RL.nil ?_))
  obtain rfl:=oi hj
  exact⟨rfl,hw.sp 4 [2,3]⟩
 rintro _ w ⟨O,rfl,hw⟩
 refine aJ (dW hb (fun hc hb=>?_) fun hc hb=>?_)
 ·refine RC.sr (aP (vi 1) (RL.nt (RC.rt ?_)))
  obtain rfl:=oi hb
  exact bM ⟨rfl,hw.drop 2⟩
 refine RC.ss (RC.sr (mv (vi p1) (ic p1 0 (RL.nt (dW hb (fun hc hb=>?_) fun hc hb=>?_)))))
 rotate_left
 ·refine RC.sx (aP (vi 0) (RL.nt (RC.ret ?_)))
  obtain rfl:=oi hb
  exact bM ⟨rfl,hw.drop 2⟩
 refine RC.sr (RL.aX zr o6 (RL.aV 0 hw zr lC yl fun a5 hw=>(mv (vi p1) (RL.gQ p1 1 ?_))))
 obtain⟨o,a0,hb⟩:=bd hb
 refine RL.bP 0 hw Cy a0 fun a6 hw=>(RL.bF 0 o hw wv fun a7 hw=>(RL.alloc hw Gl.z fun ai w hw=>?_))
 refine RL.aY 0 hw 1 zr wv fun w hw=>?_
 refine RL.ns (RL.aX rfl vx (RL.aL 5 hw rfl oy yw (RL.aX rfl vx (RL.aL 0 hw rfl oy yw (RL.Dj j.Part o.Part trivial rfl rfl rfl rfl (mv (vb (j.Part.rX o.Part)) (RL.gs true (j.Part.rX o.Part) (vp ag 0) rfl rfl rfl (dP vx) (RL.gs true (j.Part.rX o.Part) (str j.Part) rfl rfl rfl (bT 5 rfl hw (fun h=>by exact(cG h:cv (true&&((j.Part.rX o.Part)==false)) (vp ag 0)= (vp ag 0))) rfl oy yw) ?_))))))))
 refine RL.gs true (j.Part.rX o.Part) (vp ai 0) rfl rfl rfl (dP vx) (RL.gs true (j.Part.rX o.Part) (str o.Part) rfl rfl rfl (bT 0 rfl hw (fun h=>by exact(cG h:cv (true&&((j.Part.rX o.Part)==false)) (vp ai 0)= (vp ai 0))) rfl oy yw) (RL.gs true (j.Part.rX o.Part) (vb (j.Part.rW o.Part)) rfl rfl rfl (AR .eql j.Part o.Part rfl (fun h=>by exact(cG h:cv (true&&((j.Part.rX o.Part)==false)) (str j.Part)= (str j.Part))) (fun h=>by exact(cG h:cv (true&&((j.Part.rX o.Part)==false)) (str o.Part)= (str o.Part))) rfl) (RL.gs true (j.Part.rX o.Part) (vb (j.Part.rW o.Part)) rfl rfl rfl (cE (hx:=fun h=>by exact(cG h:cv (true&&((j.Part.rX o.Part)==false)) (vb (j.Part.rW o.Part))= (vb (j.Part.rW o.Part))))) (RL.gs (true&&((j.Part.rX o.Part)==false)) (j.Part.rW o.Part) (vp ag 1) rfl rfl rfl (dP yS) (RL.gs (true&&((j.Part.rX o.Part)==false)) (j.Part.rW o.Part) (str j.ik) rfl rfl rfl (bT 5 rfl hw (fun h=>by exact(cG h:cv ((true&&((j.Part.rX o.Part)==false))&&((j.Part.rW o.Part)==true)) (vp ag 1)= (vp ag 1))) rfl rj yw) (RL.gs (true&&((j.Part.rX o.Part)==false)) (j.Part.rW o.Part) (vp ai 1) rfl rfl rfl (dP yS) (RL.gs (true&&((j.Part.rX o.Part)==false)) (j.Part.rW o.Part) (str o.ik) rfl rfl rfl (bT 0 rfl hw (fun h=>by exact(cG h:cv ((true&&((j.Part.rX o.Part)==false))&&((j.Part.rW o.Part)==true)) (vp ai 1)= (vp ai 1))) rfl rj yw) (RL.gs (true&&((j.Part.rX o.Part)==false)) (j.Part.rW o.Part) (vb (j.ik.rX o.ik||j.ik.rW o.ik)) rfl rfl rfl (AR .leq j.ik o.ik rfl (fun h=>by exact(cG h:cv ((true&&((j.Part.rX o.Part)==false))&&((j.Part.rW o.Part)==true)) (str j.ik)= (str j.ik))) (fun h=>by exact(cG h:cv ((true&&((j.Part.rX o.Part)==false))&&((j.Part.rW o.Part)==true)) (str o.ik)= (str o.ik))) rfl) ?_))))))))
 refine RL.gs true (j.Part.rX o.Part) (vb ((j.Part.rW o.Part)&&(j.ik.rX o.ik||j.ik.rW o.ik))) rfl rfl rfl (kF (j.Part.rW o.Part) rfl (fun h=>by exact(cG h:cv (true&&((j.Part.rX o.Part)==false)) (vb (j.Part.rW o.Part))= (vb (j.Part.rW o.Part)))) (fun h=>by exact gr (h:=h) (true&&((j.Part.rX o.Part)==false)))) (RL.pick (j.Part.rX o.Part) (vb ((j.Part.rX o.Part)||((j.Part.rW o.Part)&&(j.ik.rX o.ik||j.ik.rW o.ik)))) (nz true) (RL.nt (dW hb (fun hc hb=>?_) fun hc hb=>?_)))
 ·refine RC.sr (aP (vi 8) (RL.nt (RC.rt ?_)))
  obtain rfl:=oi hb
  exact bM ⟨rfl,hw.drop 6⟩
 refine RC.sx (aP (vi 0) (RL.nt (RC.ret ?_)))
 obtain rfl:=oi hb
 exact bM ⟨rfl,hw.drop 6⟩
def jQ (E:World) (V:List HP) (r:Int) (U:Nat->Value) (w:World):Prop:=l6 bD 115 Tryz.f55 (aU E V r) .ret U w
theorem pG {p0:fu} (j:Holds E w V) (h0:V[i0]? =some (rd v0 p0)) (o:gJ N p0=some res):
    Calls bD 55 [v0].toArray w (gm (aU E V res)):=by
 unfold gJ at o
 refine enter Tryz.func55 zr zr ?_
 have j:=j.dup (i0+0) h0
 refine RC.sr (RL.dA 0 v0 j zr fun ae w j=>?_)
 refine aP (vi 0) (RL.nq (RC.sr (RL.aX zr fB (RL.aV 0 j zr dX lk fun bg j=>(RL.bA 0 p0.aI j oN (ic ((p0.aI.length:Int)) 0 (RL.nt (dW o (fun hc o=>?_) fun hc o=>?_))))))))
 ·refine RC.sr (aP (vi 9) (RL.nt (RC.rt ?_)))
  obtain rfl:=oi o
  exact bM ⟨rfl,j.drop 3⟩
 refine RC.ss (RC.sr (RL.aX zr fB (RL.aV 1 j zr dX lk fun bh j=>(RL.bA 0 p0.aI j oN (ic ((p0.aI.length:Int)) 16 (RL.nt (dW o (fun hc o=>?_) fun hc o=>?_)))))))
 ·refine RC.sr (aP (vi 2) (RL.nt (RC.rt ?_)))
  obtain rfl:=oi o
  exact bM ⟨rfl,j.drop 4⟩
 refine RC.sx (RL.aX zr tE (RL.aV 2 j zr nV nL fun bj j=>(RL.bA 0 p0.bZ j mS (aP (vi p0.bZ.length) (RL.nq (RC.sr (aP (vi 0) (RL.nt ?_))))))))
 obtain⟨bk,hN,o⟩:=bd o
 refine RC.iter (fun(ad:Int×Int)=>SH E V [(1,vp ae 0),(3,vi ad.1),(4,vi ad.2)] [bx 27 ae p0]) (fun(ad:Int×Int)=>SH E V [(1,vp ae 0),(3,vi ad.1)] [bx 27 ae p0]) (jQ E V) hN ?_ ?_ ?_ ?_
 ·exact j.sp 5 [3]
 ·rintro ad fl _ w ⟨O,rfl,j⟩ o
  refine RC.seq (RC.sr (mv (vi ad.2) (RL.aX zr fB (RL.aV 0 j zr dX lk fun bl j=>(RL.bA 0 p0.aI j oN (ic ad.2 ((p0.aI.length:Int)) (RL.nt (dW o (fun hc o=>?_) fun hc o=>?_))))))))
  rotate_left
  ·refine RC.ex ?_
   obtain rfl:=oi o
   exact⟨rfl,j.sp 2 [1]⟩
  refine RC.ss (RC.block (RC.seq (RC.sr (RL.aX zr fB (RL.aV 1 j zr dX lk fun bm j=>(mv (vi ad.2) ?_))))))
  obtain⟨a0,a1,o⟩:=bd o
  refine RL.bP 0 j oz a1 fun bn j=>(RL.bF 0 a0 j nL fun a2 j=>?_)
  obtain⟨al,a3,o⟩:=bd o
  refine RL.call zt zr I5 [a2] zr (aC (jo N (i0:=0) j zr a3) ?_)
  rintro _ w ⟨rfl,j⟩
  refine aP (vi al) (RL.ns (mv (vi al) (ic al 0 (RL.nt (dW o (fun hc o=>?_) fun hc o=>?_)))))
  ·refine RC.sr (mv (vi al) (aP (vi al) (RL.nt (RC.rt (nS (bL ?_))))))
   obtain rfl:=oi o
   exact⟨rfl,bM ⟨rfl,j.drop 5⟩⟩
  refine RC.sn (RC.region (mv (vi ad.1) (RL.aX zr fB (RL.aV 4 j zr dX lk fun bo j=>(mv (vi ad.2) ?_)))))
  obtain⟨au,a4,o⟩:=bd o
  refine RL.bP 0 j oz a4 fun bp j=>(RL.bF 0 au j nL fun bq j=>(RL.bA 0 au j mS (RL.gQ ad.1 (au.length:Int) (aP (vi (IntKind.wrap .i64 (ad.1+ (au.length:Int)))) (RL.nil (bQ (aJ (RC.region ?_))))))))
  refine mv (vi ad.2) (RL.gQ ad.2 1 (aP (vi (IntKind.wrap .i64 (ad.2+1))) (RL.nil ?_)))
  obtain rfl:=oi o
  exact⟨rfl,j.sp 8 [7]⟩
 ·intro r U w e hK
  subst e
  refine bL ?_
  obtain rfl:=oi o
  exact hK
 rintro ad _ w rfl ⟨O,rfl,j⟩
 rw [Fo.dQ] at o
 refine aJ (RC.seq (RC.sr (RL.aX zr tE (RL.aV 0 j zr nV nL fun a5 j=>?_))))
 obtain⟨ao,a6,o⟩:=bd o
 refine RL.call zt zr I5 [a5] zr (aC (jo N (i0:=0) j zr a6) ?_)
 rintro _ w ⟨rfl,j⟩
 refine aP (vi ao) (RL.ns (mv (vi ao) (ic ao 0 (RL.nt (dW o (fun hc o=>?_) fun hc o=>?_)))))
 ·refine RC.sr (mv (vi ao) (aP (vi ao) (RL.nt (RC.rt ?_))))
  obtain rfl:=oi o
  exact bM ⟨rfl,j.drop 2⟩
 refine RC.ss (RC.seq ?_)
 obtain⟨av,hj,o⟩:=bd o
 refine RC.jn (fun(av:Bool)=>SH E V [(1,vp ae 0),(60,vb av)] [bx 27 ae p0]) av ?_ ?_
 ·refine RC.region (mv (vi ad.1) (ic ad.1 2000 (mv (vb (decide (ad.1>2000))) (gu hj (fun ah hj=>?_) fun ah hj=>?_))))
  ·refine bN ah (bN ah (bN ah (bN ah (gD ah (vb true) (RL.nil ?_)))))
   obtain rfl:=oi hj
   exact⟨rfl,j.sp 2 [1]⟩
  refine RL.aX (hg:=(cg ah)) zr jm (RL.aV (hg:=(cg ah)) 1 j zr hU o4 fun br j=>(RL.bA (hg:=(cg ah)) 0 p0.aR j tF (RL.lA (p0.aR.length:Int) 500 (cg ah) (gD ah (vb (decide ((p0.aR.length:Int)>500))) (RL.nil ?_)))))
  obtain rfl:=oi hj
  exact⟨rfl,j.sp 3 [2]⟩
 rintro _ w ⟨O,rfl,j⟩
 refine aJ (dW o (fun hc o=>?_) fun hc o=>?_)
 ·refine RC.sr (aP (vi 2) (RL.nt (RC.rt ?_)))
  obtain rfl:=oi o
  exact bM ⟨rfl,j.drop 1⟩
 refine RC.ss (RC.sr (aP (vi 0) (RL.nt ?_)))
 obtain⟨bt,hN,o⟩:=bd o
 refine RC.iter (fun(ai:Int)=>SH E V [(1,vp ae 0),(7,vi ai)] [bx 27 ae p0]) (fun(ai:Int)=>SH E V [(1,vp ae 0)] [bx 27 ae p0]) (jQ E V) hN ?_ ?_ ?_ ?_
 ·exact j.sp 1 [0]
 ·rintro ai fl _ w ⟨O,rfl,j⟩ o
  refine RC.seq (RC.sr (mv (vi ai) (RL.aX zr jm (RL.aV 0 j zr hU o4 fun bu j=>(RL.bA 0 p0.aR j tF (ic ai ((p0.aR.length:Int)) (RL.nt (dW o (fun hc o=>?_) fun hc o=>?_))))))))
  rotate_left
  ·refine RC.ex ?_
   obtain rfl:=oi o
   exact⟨rfl,j.sp 2 [1]⟩
  refine RC.ss (RC.bs (RL.aX zr jm (RL.aV 1 j zr hU o4 fun bw j=>(mv (vi ai) ?_))))
  obtain⟨aj,a7,o⟩:=bd o
  refine RL.bP 0 j tg a7 fun bz j=>(RL.bF 0 aj j mJ fun b0 j=>(RL.alloc j Cx.z fun b1 w j=>?_))
  refine RL.aY 0 j 1 zr mJ fun w j=>?_
  refine RL.nq (RC.sr (RL.aV (f:=(fun x=>x)) 0 j zr Fd.self mJ fun a8 j=>?_))
  obtain⟨aq,a9,o⟩:=bd o
  refine RL.call zt zr L7 [a8] zr (aC (o9 N (i0:=0) j zr a9) ?_)
  rintro _ w ⟨rfl,j⟩
  refine aP (vi aq) (RL.ns (mv (vi aq) (ic aq 0 (RL.nt (dW o (fun hc o=>?_) fun hc o=>?_)))))
  ·refine RC.sr (mv (vi aq) (aP (vi aq) (RL.nt (RC.rt (nS (bL ?_))))))
   obtain rfl:=oi o
   exact⟨rfl,bM ⟨rfl,j.drop 7⟩⟩
  refine RC.ss ?_
  obtain⟨aw,hj,o⟩:=bd o
  refine RC.jn (fun(aw:Bool)=>SH E V [(1,vp ae 0),(7,vi ai),(97,vb aw)] [bx 27 ae p0]) aw ?_ ?_
  ·refine RC.region (RL.aX zr o5 (RL.aL 1 j zr j8 cF (RL.aX zr fB (RL.aV 6 j zr dX lk fun b2 j=>(RL.bA 0 p0.aI j oN (RL.gQ (p0.aI.length:Int) 1 ?_))))))
   obtain⟨ay,ba,hj⟩:=bd hj
   refine RL.call zt zr Fe [(vi aj.cH),(vi 0),(vi (IntKind.wrap .i64 ((p0.aI.length:Int) - 1)))] zr (aC (fX N (p0:=aj.cH) (p1:=0) (p2:=(IntKind.wrap .i64 ((p0.aI.length:Int) - 1))) j ba) ?_)
   rintro _ w ⟨rfl,j⟩
   refine RL.not ay (mv (vb (!ay)) (gu hj (fun ab hj=>?_) fun ab hj=>?_))
   ·refine bN ab (bN ab (bN ab (bN ab (bN ab (bN ab (bN ab (bN ab (bN ab ?_))))))))
    refine bN ab (gD ab (vb true) (RL.nil ?_))
    obtain rfl:=oi hj
    exact⟨rfl,j.sp 8 [7]⟩
   refine RL.aX (hg:=(cg ab)) zr qQ (RL.aL (hg:=(cg ab)) 2 j zr lK cF (RL.aX (hg:=(cg ab)) zr o5 (RL.aL (hg:=(cg ab)) 2 j zr j8 cF (RL.aX (hg:=(cg ab)) zr fB (RL.aV (hg:=(cg ab)) 7 j zr dX lk fun b3 j=>(RL.bA (hg:=(cg ab)) 0 p0.aI j oN (RL.gQ (hg:=(cg ab)) (p0.aI.length:Int) 1 ?_)))))))
   obtain⟨az,bb,hj⟩:=bd hj
   refine RL.call (cg ab) zr Fe [(vi aj.To),(vi aj.cH),(vi (IntKind.wrap .i64 ((p0.aI.length:Int) - 1)))] zr (aC (fX N (p0:=aj.To) (p1:=aj.cH) (p2:=(IntKind.wrap .i64 ((p0.aI.length:Int) - 1))) j bb) ?_)
   rintro _ w ⟨rfl,j⟩
   refine RL.not (hg:=(cg ab)) az (gD ab (vb (!az)) (RL.nil ?_))
   obtain rfl:=oi hj
   exact⟨rfl,j.sp 9 [8]⟩
  rintro _ w ⟨O,rfl,j⟩
  refine aJ (dW o (fun hc o=>?_) fun hc o=>?_)
  ·refine RC.sr (aP (vi 1) (RL.nt (RC.rb (bL ?_))))
   obtain rfl:=oi o
   exact⟨rfl,bM ⟨rfl,j.drop 1⟩⟩
  refine RC.skip (bQ (aJ (RC.region (mv (vi ai) (RL.gQ ai 1 (aP (vi (IntKind.wrap .i64 (ai+1))) (RL.nil ?_)))))))
  obtain rfl:=oi o
  exact⟨rfl,j.sp 1 [0]⟩
 ·intro r U w e hK
  subst e
  refine bL ?_
  obtain rfl:=oi o
  exact hK
 rintro ai _ w rfl ⟨O,rfl,j⟩
 rw [Fo.dQ] at o
 refine aJ (RC.seq (RC.sr (RL.aX zr o6 (RL.aV 0 j zr lC yl fun b4 j=>(RL.bA 0 p0.bI j Be (ic ((p0.bI.length:Int)) 1000 (RL.nt (dW o (fun hc o=>?_) fun hc o=>?_))))))))
 ·refine RC.sr (aP (vi 2) (RL.nt (RC.rt ?_)))
  obtain rfl:=oi o
  exact bM ⟨rfl,j.drop 2⟩
 refine RC.ss (RC.sr (aP (vi 0) (RL.nt ?_)))
 obtain⟨b5,hN,o⟩:=bd o
 refine RC.iter (fun(ag:Int)=>SH E V [(1,vp ae 0),(10,vi ag)] [bx 27 ae p0]) (fun(ag:Int)=>SH E V [] [bx 27 ae p0]) (jQ E V) hN ?_ ?_ ?_ ?_
 ·exact j.sp 2 [1]
 ·rintro ag fl _ w ⟨O,rfl,j⟩ o
  refine RC.seq (RC.sr (mv (vi ag) (RL.aX zr o6 (RL.aV 0 j zr lC yl fun b6 j=>(RL.bA 0 p0.bI j Be (ic ag ((p0.bI.length:Int)) (RL.nt (dW o (fun hc o=>?_) fun hc o=>?_))))))))
  rotate_left
  ·refine RC.ex ?_
   obtain rfl:=oi o
   exact⟨rfl,j.sp 2 [1]⟩
  refine RC.ss (RC.bs (RL.aV (f:=(fun x=>x)) 1 j zr Fd.self eJ fun bc j=>(mv (vi ag) ?_)))
  obtain⟨ar,bf,o⟩:=bd o
  refine RL.call zt zr L8 [bc,(vi ag)] zr (aC (p5 N (p1:=ag) (i0:=0) j zr bf) ?_)
  rintro _ w ⟨rfl,j⟩
  refine aP (vi ar) (RL.ns (mv (vi ar) (ic ar 0 (RL.nt (dW o (fun hc o=>?_) fun hc o=>?_)))))
  rotate_left
  ·refine RC.skip (bQ (aJ (RC.region (mv (vi ag) (RL.gQ ag 1 (aP (vi (IntKind.wrap .i64 (ag+1))) (RL.nil ?_)))))))
   obtain rfl:=oi o
   exact⟨rfl,j.sp 3 [2]⟩
  refine RC.sr (mv (vi ar) (aP (vi ar) (RL.nt (RC.rb (bL ?_)))))
  obtain rfl:=oi o
  exact⟨rfl,bM ⟨rfl,j.drop 3⟩⟩
 ·intro r U w e hK
  subst e
  refine bL ?_
  obtain rfl:=oi o
  exact hK
 rintro ag _ w rfl ⟨O,rfl,j⟩
 rw [Fo.dQ] at o
 refine aJ (RC.sr (aP (vi 0) (RL.nt (RC.ret ?_))))
 obtain rfl:=oi o
 exact bM ⟨rfl,j.drop 1⟩
theorem rG {p0 p1:bJ} {res:Bool} (j:Holds E w V) (h0:V[i0]? =some (rd v0 p0)) (h1:V[i1]? =some (rd v1 p1)) (hb:g9 N p0 p1=some res):
    Calls bD 56 [v0,v1].toArray w (gm (aS E V res)):=by
 unfold g9 at hb
 refine enter Tryz.func56 zr zr ?_
 have j:=(j.dup (i0+0) h0).dup (i1+1) h1
 refine RC.sr (RL.dA 1 v0 j zr fun o w j=>?_)
 refine RL.dA 1 v1 j zr fun aa w j=>?_
 refine aP (vb false) (RL.ns (RL.aX zr o5 (RL.aL 1 j zr j8 cF (RL.aX zr qQ (RL.aL 0 j zr lK cF (ic p0.cH p1.To (mv (vb (decide (p0.cH<=p1.To))) (RL.gs true (decide (p0.cH<=p1.To)) (vp aa 3) zr zr zr (dP o5) ?_))))))))
 refine RL.gs true (decide (p0.cH<=p1.To)) (vi p1.cH) rfl rfl rfl (bT 0 rfl j (fun h=>by exact(cG h:cv (true&&((decide (p0.cH<=p1.To))==true)) (vp aa 3)= (vp aa 3))) rfl j8 cF) (RL.gs true (decide (p0.cH<=p1.To)) (vp o 4) rfl rfl rfl (dP qQ) (RL.gs true (decide (p0.cH<=p1.To)) (vi p0.To) rfl rfl rfl (bT 1 rfl j (fun h=>by exact(cG h:cv (true&&((decide (p0.cH<=p1.To))==true)) (vp o 4)= (vp o 4))) rfl lK cF) (RL.gs true (decide (p0.cH<=p1.To)) (vb (decide (p1.cH<=p0.To))) rfl rfl rfl (dK .leq .i64 p1.cH p0.To rfl (fun h=>by exact(cG h:cv (true&&((decide (p0.cH<=p1.To))==true)) (vi p1.cH)= (vi p1.cH))) (fun h=>by exact(cG h:cv (true&&((decide (p0.cH<=p1.To))==true)) (vi p0.To)= (vi p0.To))) rfl) (RL.pick (decide (p0.cH<=p1.To)) (vb ((decide (p0.cH<=p1.To))&&(decide (p1.cH<=p0.To)))) (gr true) (aP (vb ((decide (p0.cH<=p1.To))&&(decide (p1.cH<=p0.To)))) (RL.nt (RC.ret ?_)))))))
 obtain rfl:=oi hb
 exact bM ⟨rfl,j.drop 4⟩
theorem qW {p0 p1:aG} {res:Bool} (o:Holds E w V) (h0:V[i0]? =some (rd v0 p0)) (h1:V[i1]? =some (rd v1 p1)) (hb:fQ N p0 p1=some res):
    Calls bD 57 [v0,v1].toArray w (gm (aS E V res)):=by
 unfold fQ at hb
 refine enter Tryz.func57 zr zr ?_
 have o:=(o.dup (i0+0) h0).dup (i1+1) h1
 refine RC.sr (RL.dA 1 v0 o zr fun ae w o=>?_)
 refine RL.dA 1 v1 o zr fun af w o=>?_
 refine aP (vb false) (RL.nq ?_)
 obtain⟨ad,hj,hb⟩:=bd hb
 refine RC.jn (fun(ad:Bool)=>SH E V [(4,vb ad)] []) ad ?_ ?_
 ·refine RC.region (RL.aX zr jl (RL.aL 1 o zr eG cF (RL.aX zr jl (RL.aL 0 o zr eG cF (RL.min p0.X1 p1.X1 (RL.aX zr iD (RL.aL 1 o zr dM cF (RL.aX zr iD ?_))))))))
  refine RL.aL 0 o zr dM cF (RL.max p0.X0 p1.X0 (ic ((if p1.X1<p0.X1 then p1.X1 else p0.X1)) ((if p0.X0<p1.X0 then p1.X0 else p0.X0)) (mv (vb (decide ((if p1.X1<p0.X1 then p1.X1 else p0.X1)> (if p0.X0<p1.X0 then p1.X0 else p0.X0)))) (gu hj (fun j hj=>?_) fun j hj=>?_))))
  ·refine RL.aX (hg:=(cg j)) zr kT (RL.aL (hg:=(cg j)) 1 o zr fV cF (RL.aX (hg:=(cg j)) zr kT (RL.aL (hg:=(cg j)) 0 o zr fV cF (RL.min (hg:=(cg j)) p0.Y1 p1.Y1 (RL.aX (hg:=(cg j)) zr il (RL.aL (hg:=(cg j)) 1 o zr dG cF (RL.aX (hg:=(cg j)) zr il (RL.aL (hg:=(cg j)) 0 o zr dG cF ?_))))))))
   refine RL.max (hg:=(cg j)) p0.Y0 p1.Y0 (RL.lA (if p1.Y1<p0.Y1 then p1.Y1 else p0.Y1) (if p0.Y0<p1.Y0 then p1.Y0 else p0.Y0) (cg j) (gD j (vb (decide ((if p1.Y1<p0.Y1 then p1.Y1 else p0.Y1)> (if p0.Y0<p1.Y0 then p1.Y0 else p0.Y0)))) (aP (vb (decide ((if p1.Y1<p0.Y1 then p1.Y1 else p0.Y1)> (if p0.Y0<p1.Y0 then p1.Y0 else p0.Y0)))) (RL.nil ?_))))
   obtain rfl:=oi hj
   exact⟨rfl,o.sp 4 []⟩
  refine bN j (bN j (bN j (bN j (bN j (bN j (bN j (bN j (bN j ?_))))))))
  refine bN j (bN j (gD j (vb false) (aP (vb false) (RL.nil ?_))))
  obtain rfl:=oi hj
  exact⟨rfl,o.sp 4 []⟩
 rintro _ w ⟨O,rfl,o⟩
 refine aJ (RC.ret ?_)
 obtain rfl:=oi hb
 exact bM ⟨rfl,o.drop 0⟩
theorem qX {p0:bJ} {res:Bool} (j:Holds E w V) (h0:V[i0]? =some (rd v0 p0)) (hb:jW N p0 p1=some res):
    Calls bD 82 [v0,(vi p1)].toArray w (gm (aS E V res)):=by
 unfold jW at hb
 refine enter Tryz.func82 zr zr ?_
 have j:=j.dup (i0+0) h0
 refine RC.sr (RL.dA 0 v0 j zr fun o w j=>?_)
 refine aP (vb false) (RL.ns (RL.aX zr o5 (RL.aL 0 j zr j8 cF (mv (vi p1) (ic p0.cH p1 (mv (vb (decide (p0.cH<=p1))) (RL.gs true (decide (p0.cH<=p1)) (vi p1) zr zr zr cE (RL.gs true (decide (p0.cH<=p1)) (vp o 4) zr zr zr (dP qQ) ?_))))))))
 refine RL.gs true (decide (p0.cH<=p1)) (vi p0.To) rfl rfl rfl (bT 0 rfl j (fun h=>by exact(cG h:cv (true&&((decide (p0.cH<=p1))==true)) (vp o 4)= (vp o 4))) rfl lK cF) (RL.gs true (decide (p0.cH<=p1)) (vb (decide (p1<=p0.To))) rfl rfl rfl (dK .leq .i64 p1 p0.To rfl (fun h=>by exact(cG h:cv (true&&((decide (p0.cH<=p1))==true)) (vi p1)= (vi p1))) (fun h=>by exact(cG h:cv (true&&((decide (p0.cH<=p1))==true)) (vi p0.To)= (vi p0.To))) rfl) (RL.pick (decide (p0.cH<=p1)) (vb ((decide (p0.cH<=p1))&&(decide (p1<=p0.To)))) (gr true) (aP (vb ((decide (p0.cH<=p1))&&(decide (p1<=p0.To)))) (RL.nt (RC.ret ?_)))))
 obtain rfl:=oi hb
 exact bM ⟨rfl,j.drop 2⟩
def sE (E:World) (V:List HP) (r:Bool) (U:Nat->Value) (w:World):Prop:=l6 bD 28 Tryz.f133 (aS E V r) .ret U w
theorem nI {p0: (List aF)} {res:Bool} (j:Holds E w V) (h0:V[i0]? =some (rd v0 p0)) (o:hG N p0 p1=some res):
    Calls bD 133 [v0,(vi p1)].toArray w (gm (aS E V res)):=by
 unfold hG at o
 refine enter Tryz.func133 zr zr ?_
 have j:=j.dup (i0+0) h0
 refine RC.sr (aP (vb false) (RL.nq (RC.sr (aP (vi 0) (RL.nt ?_)))))
 obtain⟨an,hN,o⟩:=bd o
 refine RC.iter (fun(ab:Int)=>SH E V [(0,v0),(1,vi p1),(5,vi ab)] [rd v0 p0]) (fun(ab:Int)=>SH E V [] [rd v0 p0]) (sE E V) hN ?_ ?_ ?_ ?_
 ·exact j.sp 1 [0]
 ·rintro ab fl _ w ⟨O,rfl,j⟩ o
  refine RC.seq (RC.sr (mv (vi ab) (mv v0 (RL.bA 0 p0 j va (ic ab ((p0.length:Int)) (RL.nt (dW o (fun hc o=>?_) fun hc o=>?_)))))))
  rotate_left
  ·refine RC.ex ?_
   obtain rfl:=oi o
   exact⟨rfl,j.sp 1 [0]⟩
  refine RC.ss (RC.block (RC.seq ?_))
  obtain⟨af,hj,o⟩:=bd o
  refine RC.jn (fun(af:Bool)=>SH E V [(0,v0),(1,vi p1),(5,vi ab),(27,vb af)] [rd v0 p0]) af ?_ ?_
  ·refine RC.region (mv v0 (mv (vi ab) ?_))
   obtain⟨ag,aj,hj⟩:=bd hj
   refine RL.bP 0 j oj aj fun aq j=>(RL.eT 0 j zr pC dT fun ar j=>(RL.bG ag.from_ 0 j cF (mv (vi p1) (ic ag.from_ p1 (mv (vb (decide (ag.from_<=p1))) (gu hj (fun aa hj=>?_) fun aa hj=>?_))))))
   rotate_left
   ·refine bN aa (bN aa (bN aa (bN aa (bN aa (bN aa (bN aa (gD aa (vb false) (RL.nil ?_))))))))
    obtain rfl:=oi hj
    exact⟨rfl,j.sp 3 [2]⟩
   refine RL.move (vi p1) (cg aa) (RL.move v0 (cg aa) (RL.move (vi ab) (cg aa) ?_))
   obtain⟨ah,ak,hj⟩:=bd hj
   refine RL.bP (hg:=(cg aa)) 2 j oj ak fun au j=>(RL.eT (hg:=(cg aa)) 0 j zr pB dU fun av j=>(RL.bG (hg:=(cg aa)) ah.to 0 j cF (RL.lA p1 ah.to (cg aa) (gD aa (vb (decide (p1<ah.to))) (RL.nil ?_)))))
   obtain rfl:=oi hj
   exact⟨rfl,j.sp 5 [4]⟩
  rintro _ w ⟨O,rfl,j⟩
  refine aJ (dW o (fun hc o=>?_) fun hc o=>?_)
  ·refine RC.sr (aP (vb true) (RL.nt (RC.rb (bL ?_))))
   obtain rfl:=oi o
   exact⟨rfl,bM ⟨rfl,j.drop 1⟩⟩
  refine RC.skip (bQ (aJ (RC.region (mv (vi ab) (RL.gQ ab 1 (aP (vi (IntKind.wrap .i64 (ab+1))) (RL.nil ?_)))))))
  obtain rfl:=oi o
  exact⟨rfl,j.sp 1 [0]⟩
 ·intro r U w e hK
  subst e
  refine bL ?_
  obtain rfl:=oi o
  exact hK
 rintro ab _ w rfl ⟨O,rfl,j⟩
 rw [Fo.dQ] at o
 refine aJ (RC.sr (aP (vb false) (RL.nt (RC.ret ?_))))
 obtain rfl:=oi o
 exact bM ⟨rfl,j.drop 1⟩
theorem sF {p0: (List aF)} {p1: (List aF)} {res: (List aF)} (j:Holds E w V) (h0:V[i0]? =some (rd v0 p0)) (h1:V[i1]? =some (rd v1 p1)) (hb:jr N p0 p1 p2=some res):
    Calls bD 90 [v0,v1,(vi p2)].toArray w (gm (ln E V res)):=by
 unfold jr at hb
 refine enter Tryz.func90 zr zr ?_
 have j:=(j.dup (i0+0) h0).dup (i1+1) h1
 refine RC.sr (aP (.slice none 0 0) (RL.ns (aP (.slice none 0 0) (RL.nq (RC.sr (aP (vi 0) (RL.nt ?_)))))))
 obtain⟨bw,hN,hb⟩:=bd hb
 refine RC.iter (fun(af: (List Int)×Int) U w=>∃a3:Value,SH E V [(0,v0),(1,v1),(2,vi p2),(7,a3),(8,vi af.2)] [rd v0 p0,rd v1 p1,rd a3 af.1] U w) (fun(af: (List Int)×Int) U w=>∃al:Value,SH E V [(0,v0),(1,v1),(2,vi p2),(7,al)] [rd v0 p0,rd v1 p1,rd al af.1] U w) (fun(r:Empty) _ _=>r.elim) hN ?_ ?_ ?_ ?_
 ·have j:=j.cO Int
  exact⟨(.slice none 0 0),j.sp 3 [2,1,0]⟩
 ·rintro af fl _ w ⟨au,O,rfl,j⟩ hb
  refine RC.seq (RC.sr (mv (vi af.2) (mv v0 (RL.bA 0 p0 j va (ic af.2 ((p0.length:Int)) (RL.nt (dW hb (fun hc hb=>?_) fun hc hb=>?_)))))))
  rotate_left
  ·refine RC.ex ?_
   obtain rfl:=oi hb
   exact⟨rfl,au,j.sp 3 [0,1,2]⟩
  refine RC.ss (RC.block (RC.xq mixed [0,0,0,0,0,0,2,1,1,1,1,1,2,0] [0,1,2,3,4,5,7,8,9,10,11,6,12,13] ?_))
  have j:=j.drew
  refine DP.e0 zr (mv au (bW zr (mv v0 (bW zr (mv (vi af.2) (bW zr ?_))))))
  obtain⟨av,ba,hb⟩:=bd hb
  refine RL.bP 0 j oj ba fun bx j=>(bW zr (RL.eT 0 j zr pC dT fun bz j=>(bW zr (RL.bG av.from_ 0 j cF (DP.d0 (DP.e1 v0 zr (fun w=>RL.move v0 zt DP.d1) (DP.e1 (vi af.2) zr (fun w=>RL.move (vi af.2) zt DP.d1) ?_)))))))
  obtain⟨aw,bb,hb⟩:=bd hb
  refine DP.vv 2 zr j oj bb fun b0 j=>(DP.Cr 0 zr zt j zr pB dU fun b1 j=>(DP.qz aw.to 0 zr j cF fun a68 b2 j=>(DP.e2 zr ?_)))
  obtain⟨b3,bc,hb⟩:=bd hb
  refine RL.call zt zr Ao [au,(vi av.from_)] zr (aC (ig N (p1:=av.from_) (i0:=7) j zr bc) ?_)
  rintro bf w j
  refine DP.d2 (⟨zt,j.iu 1⟩) (DP.e2 zr ?_)
  obtain⟨b4,bg,hb⟩:=bd hb
  refine RL.call zt zr Ao [bf,(vi aw.to)] zr (aC (ig N (p1:=aw.to) (i0:=0) j zr bg) ?_)
  rintro a5 w j
  refine DP.d2 (⟨zt,j.iu 2⟩) (DP.e0 zr (aP a5 (DP.d0 ?_)))
  have j:=j.pl 10 [0,1,3,4,5,6,7,8,9]
  refine DP.z (bQ (aJ (RC.region (mv (vi af.2) (RL.gQ af.2 1 (aP (vi (IntKind.wrap .i64 (af.2+1))) (RL.nil ?_)))))))
  obtain rfl:=oi hb
  exact⟨rfl,a5,j.sp 9 [6,7,0]⟩
 ·intro r _ _ _ _
  exact r.elim
 rintro af _ w rfl ⟨al,O,rfl,j⟩
 rw [Fo.dQ] at hb
 refine aJ (RC.seq (RC.sr (aP (vi 0) (RL.nt ?_))))
 obtain⟨b5,hN,hb⟩:=bd hb
 refine RC.iter (fun(ae: (List Int)×Int) U w=>∃a6:Value,SH E V [(0,v0),(1,v1),(2,vi p2),(7,a6),(9,vi ae.2)] [rd v0 p0,rd v1 p1,rd a6 ae.1] U w) (fun(ae: (List Int)×Int) U w=>∃ag:Value,SH E V [(0,v0),(1,v1),(2,vi p2),(7,ag)] [rd v0 p0,rd v1 p1,rd ag ae.1] U w) (fun(r:Empty) _ _=>r.elim) hN ?_ ?_ ?_ ?_
 ·exact⟨al,j.sp 3 [0,1,2]⟩
 ·rintro ae fl _ w ⟨ax,O,rfl,j⟩ hb
  refine RC.seq (RC.sr (mv (vi ae.2) (mv v1 (RL.bA 1 p1 j va (ic ae.2 ((p1.length:Int)) (RL.nt (dW hb (fun hc hb=>?_) fun hc hb=>?_)))))))
  rotate_left
  ·refine RC.ex ?_
   obtain rfl:=oi hb
   exact⟨rfl,ax,j.sp 3 [0,1,2]⟩
  refine RC.ss (RC.block (RC.xq mixed [0,0,0,0,0,0,2,1,1,1,1,1,2,0] [0,1,2,3,4,5,7,8,9,10,11,6,12,13] ?_))
  have j:=j.drew
  refine DP.e0 zr (mv ax (bW zr (mv v1 (bW zr (mv (vi ae.2) (bW zr ?_))))))
  obtain⟨ay,bh,hb⟩:=bd hb
  refine RL.bP 1 j oj bh fun b6 j=>(bW zr (RL.eT 0 j zr pC dT fun b7 j=>(bW zr (RL.bG ay.from_ 0 j cF (DP.d0 (DP.e1 v1 zr (fun w=>RL.move v1 zt DP.d1) (DP.e1 (vi ae.2) zr (fun w=>RL.move (vi ae.2) zt DP.d1) ?_)))))))
  obtain⟨az,bj,hb⟩:=bd hb
  refine DP.vv 3 zr j oj bj fun b8 j=>(DP.Cr 0 zr zt j zr pB dU fun b9 j=>(DP.qz az.to 0 zr j cF fun a111 ca j=>(DP.e2 zr ?_)))
  obtain⟨cb,bk,hb⟩:=bd hb
  refine RL.call zt zr Ao [ax,(vi ay.from_)] zr (aC (ig N (p1:=ay.from_) (i0:=7) j zr bk) ?_)
  rintro bl w j
  refine DP.d2 (⟨zt,j.iu 1⟩) (DP.e2 zr ?_)
  obtain⟨cc,bm,hb⟩:=bd hb
  refine RL.call zt zr Ao [bl,(vi az.to)] zr (aC (ig N (p1:=az.to) (i0:=0) j zr bm) ?_)
  rintro a7 w j
  refine DP.d2 (⟨zt,j.iu 2⟩) (DP.e0 zr (aP a7 (DP.d0 ?_)))
  have j:=j.pl 10 [0,1,3,4,5,6,7,8,9]
  refine DP.z (bQ (aJ (RC.region (mv (vi ae.2) (RL.gQ ae.2 1 (aP (vi (IntKind.wrap .i64 (ae.2+1))) (RL.nil ?_)))))))
  obtain rfl:=oi hb
  exact⟨rfl,a7,j.sp 9 [6,7,0]⟩
 ·intro r _ _ _ _
  exact r.elim
 rintro ae _ w rfl ⟨ag,O,rfl,j⟩
 rw [Fo.dQ] at hb
 refine aJ (RC.sr (aP (.slice none 0 0) (RL.nq (RC.sr (aP (vi 1) (RL.nt ?_))))))
 obtain⟨cd,hN,hb⟩:=bd hb
 refine RC.iter (fun(ad: (List aF)×Int) U w=>∃a8:Value,SH E V [(0,v0),(1,v1),(2,vi p2),(7,ag),(10,a8),(11,vi ad.2)] [rd v0 p0,rd v1 p1,rd ag ae.1,own 166 a8 ad.1] U w) (fun(ad: (List aF)×Int) U w=>∃ak:Value,SH E V [(10,ak)] [rd v0 p0,rd v1 p1,rd ag ae.1,own 166 ak ad.1] U w) (fun(r:Empty) _ _=>r.elim) hN ?_ ?_ ?_ ?_
 ·have j:=j.cX aF 166
  exact⟨(.slice none 0 0),j.sp 4 [1,2,3,0]⟩
 ·rintro ad fl _ w ⟨an,O,rfl,j⟩ hb
  refine RC.seq (RC.sr (mv (vi ad.2) (mv ag (RL.bA 2 ae.1 j nr (ic ad.2 ((ae.1.length:Int)) (RL.nt (dW hb (fun hc hb=>?_) fun hc hb=>?_)))))))
  rotate_left
  ·refine RC.ex ?_
   obtain rfl:=oi hb
   exact⟨rfl,an,j.sp 4 [0,1,2,3]⟩
  refine RC.ss (RC.block (RC.seq (RC.xq mixed [0,0,0,0,0,0,2,1,1,1,1,1,1,2,0,0] [0,1,2,3,4,5,7,8,9,10,11,12,6,13,14,15] ?_)))
  have j:=j.drew
  refine DP.e0 zr (mv v0 (bW zr (mv ag (bW zr (mv (vi ad.2) (bW zr (RL.gQ ad.2 1 (bW zr ?_))))))))
  obtain⟨a0,bn,hb⟩:=bd hb
  refine RL.bP 2 j fG bn fun cf j=>(bW zr (RL.bG a0 0 j cF (DP.d0 (DP.e1 v1 zr (fun w=>RL.move v1 zt DP.d1) (DP.e1 ag zr (fun w=>RL.move ag zt DP.d1) (DP.e1 (vi ad.2) zr (fun w=>RL.move (vi ad.2) zt DP.d1) (DP.e1 (vi (IntKind.wrap .i64 (ad.2 - 1))) zr (fun w=>RL.gQ ad.2 1 DP.d1) ?_)))))))
  obtain⟨a1,bo,hb⟩:=bd hb
  refine DP.vv 3 zr j fG bo fun cg j=>(DP.qz a1 0 zr j cF fun a176 ch j=>(DP.e2 zr ?_))
  obtain⟨o,bp,hb⟩:=bd hb
  refine RL.call zt zr Im [v0,(vi a0)] zr (aC (nI N (p1:=a0) (i0:=3) j zr bp) ?_)
  rintro _ w ⟨rfl,j⟩
  refine DP.d2 (⟨zt,j.iu 0⟩) (DP.e2 zr ?_)
  obtain⟨aa,bq,hb⟩:=bd hb
  refine RL.call zt zr Im [v1,(vi a1)] zr (aC (nI N (p1:=a1) (i0:=4) j zr bq) ?_)
  rintro _ w ⟨rfl,j⟩
  refine DP.d2 (⟨zt,j.iu 0⟩) (DP.e0 zr (aP (vb o) (bW zr (aP (vb aa) (DP.d0 ?_)))))
  have j:=j.pl 7 [1,2,3,4,5,6]
  refine DP.z (aJ (RC.sr (mv (vi p2) (ic p2 1 (mv (vb (p2==1)) (RL.gs true (p2==1) (vb o) rfl rfl rfl cE (RL.gs true (p2==1) (vb o) rfl rfl rfl (cE (hx:=fun h=>by exact(cG h:cv (true&&((p2==1)==true)) (vb o)= (vb o)))) (RL.gs (true&&((p2==1)==true)) o (vb aa) rfl rfl rfl cE ?_))))))))
  refine RL.gs true (p2==1) (vb (o||aa)) rfl rfl rfl (kF o rfl (fun h=>by exact(cG h:cv (true&&((p2==1)==true)) (vb o)= (vb o))) (fun h=>by exact nz (h:=h) (true&&((p2==1)==true)))) (RL.pick (p2==1) (vb ((p2==1)&&(o||aa))) (gr true) (mv (vb ((p2==1)&&(o||aa))) (RL.gs true ((p2==1)&&(o||aa)) (vi p2) rfl rfl rfl cE (RL.gs true ((p2==1)&&(o||aa)) (vb (p2==2)) rfl rfl rfl (dK .eql .i64 p2 2 rfl (fun h=>by exact(cG h:cv (true&&(((p2==1)&&(o||aa))==false)) (vi p2)= (vi p2))) (fun _=>rfl) rfl) (RL.gs true ((p2==1)&&(o||aa)) (vb (p2==2)) rfl rfl rfl (cE (hx:=fun h=>by exact(cG h:cv (true&&(((p2==1)&&(o||aa))==false)) (vb (p2==2))= (vb (p2==2))))) (RL.gs (true&&(((p2==1)&&(o||aa))==false)) (p2==2) (vb o) rfl rfl rfl cE (RL.gs true ((p2==1)&&(o||aa)) (vb ((p2==2)&&o)) rfl rfl rfl (kF (p2==2) rfl (fun h=>by exact(cG h:cv (true&&(((p2==1)&&(o||aa))==false)) (vb (p2==2))= (vb (p2==2)))) (fun h=>by exact gr (h:=h) (true&&(((p2==1)&&(o||aa))==false)))) (RL.gs true ((p2==1)&&(o||aa)) (vb ((p2==2)&&o)) rfl rfl rfl (cE (hx:=fun h=>by exact(cG h:cv (true&&(((p2==1)&&(o||aa))==false)) (vb ((p2==2)&&o))= (vb ((p2==2)&&o))))) ?_))))))))
  refine RL.gs (true&&(((p2==1)&&(o||aa))==false)) ((p2==2)&&o) (vb aa) rfl rfl rfl cE (RL.gs true ((p2==1)&&(o||aa)) (vb (((p2==2)&&o)&&aa)) rfl rfl rfl (kF ((p2==2)&&o) rfl (fun h=>by exact(cG h:cv (true&&(((p2==1)&&(o||aa))==false)) (vb ((p2==2)&&o))= (vb ((p2==2)&&o)))) (fun h=>by exact gr (h:=h) (true&&(((p2==1)&&(o||aa))==false)))) (RL.pick ((p2==1)&&(o||aa)) (vb (((p2==1)&&(o||aa))||(((p2==2)&&o)&&aa))) (nz true) (mv (vb (((p2==1)&&(o||aa))||(((p2==2)&&o)&&aa))) (RL.gs true (((p2==1)&&(o||aa))||(((p2==2)&&o)&&aa)) (vi p2) rfl rfl rfl cE (RL.gs true (((p2==1)&&(o||aa))||(((p2==2)&&o)&&aa)) (vb (p2==3)) rfl rfl rfl (dK .eql .i64 p2 3 rfl (fun h=>by exact(cG h:cv (true&&((((p2==1)&&(o||aa))||(((p2==2)&&o)&&aa))==false)) (vi p2)= (vi p2))) (fun _=>rfl) rfl) (RL.gs true (((p2==1)&&(o||aa))||(((p2==2)&&o)&&aa)) (vb (p2==3)) rfl rfl rfl (cE (hx:=fun h=>by exact(cG h:cv (true&&((((p2==1)&&(o||aa))||(((p2==2)&&o)&&aa))==false)) (vb (p2==3))= (vb (p2==3))))) (RL.gs (true&&((((p2==1)&&(o||aa))||(((p2==2)&&o)&&aa))==false)) (p2==3) (vb o) rfl rfl rfl cE (RL.gs true (((p2==1)&&(o||aa))||(((p2==2)&&o)&&aa)) (vb ((p2==3)&&o)) rfl rfl rfl (kF (p2==3) rfl (fun h=>by exact(cG h:cv (true&&((((p2==1)&&(o||aa))||(((p2==2)&&o)&&aa))==false)) (vb (p2==3))= (vb (p2==3)))) (fun h=>by exact gr (h:=h) (true&&((((p2==1)&&(o||aa))||(((p2==2)&&o)&&aa))==false)))) ?_))))))))
  refine RL.gs true (((p2==1)&&(o||aa))||(((p2==2)&&o)&&aa)) (vb ((p2==3)&&o)) rfl rfl rfl (cE (hx:=fun h=>by exact(cG h:cv (true&&((((p2==1)&&(o||aa))||(((p2==2)&&o)&&aa))==false)) (vb ((p2==3)&&o))= (vb ((p2==3)&&o))))) (RL.gs (true&&((((p2==1)&&(o||aa))||(((p2==2)&&o)&&aa))==false)) ((p2==3)&&o) (vb aa) rfl rfl rfl cE (RL.gs (true&&((((p2==1)&&(o||aa))||(((p2==2)&&o)&&aa))==false)) ((p2==3)&&o) (vb (!aa)) rfl rfl rfl (FU aa rfl (fun h=>by exact(cG h:cv ((true&&((((p2==1)&&(o||aa))||(((p2==2)&&o)&&aa))==false))&&(((p2==3)&&o)==true)) (vb aa)= (vb aa)))) (RL.gs true (((p2==1)&&(o||aa))||(((p2==2)&&o)&&aa)) (vb (((p2==3)&&o)&&(!aa))) rfl rfl rfl (kF ((p2==3)&&o) rfl (fun h=>by exact(cG h:cv (true&&((((p2==1)&&(o||aa))||(((p2==2)&&o)&&aa))==false)) (vb ((p2==3)&&o))= (vb ((p2==3)&&o)))) (fun h=>by exact gr (h:=h) (true&&((((p2==1)&&(o||aa))||(((p2==2)&&o)&&aa))==false)))) (RL.pick (((p2==1)&&(o||aa))||(((p2==2)&&o)&&aa)) (vb ((((p2==1)&&(o||aa))||(((p2==2)&&o)&&aa))||(((p2==3)&&o)&&(!aa)))) (nz true) (RL.nt ?_)))))
  obtain⟨a2,hj,hb⟩:=bd hb
  refine RC.jn (fun(a2: (List aF)) U w=>∃ao:Value,SH E V [(0,v0),(1,v1),(2,vi p2),(7,ag),(10,ao),(11,vi ad.2)] [rd v0 p0,rd v1 p1,rd ag ae.1,own 166 ao a2] U w) a2 ?_ ?_
  ·refine dW hj (fun hc hj=>?_) fun hc hj=>?_
   rotate_left
   ·refine RC.skip ?_
    obtain rfl:=oi hj
    exact⟨rfl,an,j.sp 6 [2,3,4,5]⟩
   refine RC.xq mixed [0,0,0,0,0,0,0,0,0,0,0,2,0] [0,1,2,3,4,5,6,7,8,9,10,11,12] ?_
   have j:=j.drew
   refine DP.e0 zr (mv an (bW zr (mv ag (bW zr (mv (vi ad.2) (bW zr (RL.gQ ad.2 1 (bW zr ?_))))))))
   obtain⟨aq,br,hj⟩:=bd hj
   refine RL.bP 4 j fG br fun cj j=>(bW zr (RL.bG aq 0 j cF (bW zr (mv ag (bW zr (mv (vi ad.2) (bW zr ?_)))))))
   obtain⟨ar,bs,hj⟩:=bd hj
   refine RL.bP 5 j fG bs fun ck j=>(bW zr (RL.bG ar 0 j cF (bW zr ?_)))
   have j:=(j.sc Int aq).sc Int ar
   refine RL.build (⟨aq,ar⟩:aF) trivial rfl j [(0,vi aq),(1,vi ar)] rfl Ie rfl (fun M hs g=>by have h:=oM M;exact dB.cons (f:=fun(x:aF) y=>{x with from_:=y}) h kP (g.sat 1 _ rfl).1 fun _ h=>dB.cons (f:=fun(x:aF) y=>{x with to:=y}) h kQ (g.sat 0 _ rfl).1 fun _ h=>dB.nil h) fun bt j=>?_
   refine r6 zr ?_
   have j:=j.freeze 10
   obtain⟨cl,bu,hj⟩:=bd hj
   refine RL.call zt zr Ih [an,bt] zr (aC (nG N (i0:=10) (i1:=0) j zr zr bu) ?_)
   rintro a9 w j
   refine yv zr (aP a9 (DP.d0 (DP.z ?_)))
   obtain rfl:=oi hj
   exact⟨rfl,a9,j.sp 12 [8,9,10,0]⟩
  rintro _ w ⟨ao,O,rfl,j⟩
  refine bQ (aJ (RC.region (mv (vi ad.2) (RL.gQ ad.2 1 (aP (vi (IntKind.wrap .i64 (ad.2+1))) (RL.nil ?_))))))
  obtain rfl:=oi hb
  exact⟨rfl,ao,j.sp 4 [0,1,2,3]⟩
 ·intro r _ _ _ _
  exact r.elim
 rintro ad _ w rfl ⟨ak,O,rfl,j⟩
 rw [Fo.dQ] at hb
 refine aJ (RC.sr (mv ak (aP ak (RL.nt (RC.ret ?_)))))
 obtain rfl:=oi hb
 exact bM (j.pk 4 [3])
theorem mO {p0: (List aG)} {p1: (List aG)} {res: (List aG)} (j:Holds E w V) (h0:V[i0]? =some (rd v0 p0)) (h1:V[i1]? =some (rd v1 p1)) (o:eC N p0 p1 p2=some res):
    Calls bD 64 [v0,v1,(vi p2)].toArray w (gm (eN E V res)):=by
 unfold eC at o
 refine enter Tryz.func64 zr zr ?_
 have j:=(j.dup (i0+0) h0).dup (i1+1) h1
 refine RC.sr (aP (.slice none 0 0) (RL.ns (aP (.slice none 0 0) (RL.ns (mv (.slice none 0 0) (mv v0 ?_))))))
 have j:=j.cX aG 51
 obtain⟨bc,aq,o⟩:=bd o
 refine RL.app 0 2 j yQ aq fun al w j=>?_
 refine aP al (RL.ns (mv al (mv v1 ?_)))
 obtain⟨bf,ar,o⟩:=bd o
 refine RL.app 0 1 j yQ ar fun ai w j=>?_
 refine aP ai (RL.ns (mv ai ?_))
 have j:=j.freeze 0
 obtain⟨ae,au,o⟩:=bd o
 refine RL.call zt zr Ku [ai] zr (aC (mZ N (i0:=0) j zr au) ?_)
 rintro ab w j
 refine aP ab (RL.ns (aP (.slice none 0 0) (RL.nq (RC.sr (aP (vi 1) (RL.nt ?_))))))
 obtain⟨bg,hN,o⟩:=bd o
 refine RC.iter (fun(aa: (List aK)×Int) U w=>∃an:Value,SH E V [(0,v0),(1,v1),(2,vi p2),(8,ab),(9,an),(10,vi aa.2)] [rd v0 p0,rd v1 p1,rd ab ae,own 119 an aa.1] U w) (fun(aa: (List aK)×Int) U w=>∃ad:Value,SH E V [(9,ad)] [rd v0 p0,rd v1 p1,rd ab ae,own 119 ad aa.1] U w) (fun(r:Empty) _ _=>r.elim) hN ?_ ?_ ?_ ?_
 ·have j:=j.cX aK 119
  exact⟨(.slice none 0 0),j.sp 5 [4,3,1,0]⟩
 ·rintro aa fl _ w ⟨af,O,rfl,j⟩ o
  refine RC.seq (RC.sr (mv (vi aa.2) (mv ab (RL.bA 2 ae j nr (ic aa.2 ((ae.length:Int)) (RL.nt (dW o (fun hc o=>?_) fun hc o=>?_)))))))
  rotate_left
  ·refine RC.ex ?_
   obtain rfl:=oi o
   exact⟨rfl,af,j.sp 4 [0,1,2,3]⟩
  refine RC.ss (RC.block (RC.xq mixed [1,1,1,1,1,1,1,1,1,1,0,0,0,0,0,0,2,1,1,1,1,1,1,2,1,2,0,2,0] [0,1,2,3,4,5,6,7,8,9,10,11,12,13,14,15,17,18,19,20,21,22,24,16,23,25,26,27,28] ?_))
  have j:=j.drew
  refine DP.e1 af zr (fun w=>RL.move af zt DP.d1) (DP.e1 ab zr (fun w=>RL.move ab zt DP.d1) (DP.e1 (vi aa.2) zr (fun w=>RL.move (vi aa.2) zt DP.d1) (DP.e1 (vi (IntKind.wrap .i64 (aa.2 - 1))) zr (fun w=>RL.gQ aa.2 1 DP.d1) ?_)))
  obtain⟨ag,ax,o⟩:=bd o
  refine DP.vv 2 zr j fG ax fun bj j=>(DP.qz ag 0 zr j cF fun a92 bk j=>(DP.e1 ab zr (fun w=>RL.move ab zt DP.d1) (DP.e1 (vi aa.2) zr (fun w=>RL.move (vi aa.2) zt DP.d1) ?_)))
  obtain⟨ah,ay,o⟩:=bd o
  refine DP.vv 4 zr j fG ay fun bl j=>(DP.qz ah 0 zr j cF fun a96 bm j=>(DP.e0 zr (mv v0 (bW zr (mv ab (bW zr (mv (vi aa.2) (bW zr ?_))))))))
  refine RL.gQ aa.2 1 (bW zr ?_)
  obtain⟨aj,az,o⟩:=bd o
  refine RL.bP 6 j fG az fun bn j=>(bW zr (RL.bG aj 0 j cF (DP.d0 (DP.e1 v1 zr (fun w=>RL.move v1 zt DP.d1) (DP.e1 ab zr (fun w=>RL.move ab zt DP.d1) (DP.e1 (vi aa.2) zr (fun w=>RL.move (vi aa.2) zt DP.d1) (DP.e1 (vi (IntKind.wrap .i64 (aa.2 - 1))) zr (fun w=>RL.gQ aa.2 1 DP.d1) ?_)))))))
  obtain⟨ak,a0,o⟩:=bd o
  refine DP.vv 7 zr j fG a0 fun bo j=>(DP.qz ak 0 zr j cF fun a102 bp j=>(DP.e1 (vi p2) zr (fun w=>RL.move (vi p2) zt DP.d1) (DP.e2 zr ?_)))
  obtain⟨bq,a1,o⟩:=bd o
  refine RL.call zt zr I1 [v0,(vi aj)] zr (aC (mi N (p1:=aj) (i0:=7) j zr a1) ?_)
  rintro a2 w j
  refine DP.d2 (⟨⟨⟨zt,j.iu 6⟩,j.iu 4⟩,j.iu 1⟩) (DP.e2 zr ?_)
  obtain⟨br,a3,o⟩:=bd o
  refine RL.call zt zr I1 [v1,(vi ak)] zr (aC (mi N (p1:=ak) (i0:=9) j zr a3) ?_)
  rintro a4 w j
  refine DP.d2 (⟨⟨⟨zt,j.iu 7⟩,j.iu 5⟩,j.iu 2⟩) (DP.e2 zr ?_)
  have j:=(j.freeze 1).freeze 0
  obtain⟨a5,a6,o⟩:=bd o
  refine RL.call zt zr Md [a2,a4,(vi p2)] zr (aC (sF N (p2:=p2) (i0:=1) (i1:=0) j zr zr a6) ?_)
  rintro a7 w j
  refine DP.d2 (⟨⟨⟨zt,j.iu 8⟩,j.iu 6⟩,j.iu 3⟩) (DP.e0 zr ?_)
  have j:=((j.sc Int ag).sc Int ah).freeze 2
  refine RL.build (⟨ag,ah,a5⟩:aK) trivial rfl j [(0,vi ag),(1,vi ah),(2,a7)] rfl Ii rfl (fun M hs g=>by have h:=oL M;exact dB.cons (f:=fun(x:aK) y=>{x with from_:=y}) h nC (g.sat 1 _ rfl).1 fun _ h=>dB.cons (f:=fun(x:aK) y=>{x with to:=y}) h kS (g.sat 0 _ rfl).1 fun _ h=>dB.cons (f:=fun(x:aK) y=>{x with iK:=y}) h nD (g.sat 2 _ rfl).1 fun _ h=>dB.nil h) fun a8 j=>?_
  refine r6 zr ?_
  have j:=j.pull 16
  obtain⟨bs,a9,o⟩:=bd o
  refine RL.call zt zr Kz [af,a8] zr (aC (m0 N (i1:=0) j zr a9) ?_)
  rintro ao w j
  refine DP.d2 (⟨⟨⟨zt,j.iu 12⟩,j.iu 10⟩,j.iu 7⟩) (DP.e0 zr (aP ao (DP.d0 ?_)))
  have j:=j.pl 18 [0,1,2,3,4,5,6,8,9,11,13,14,15,16,17]
  refine DP.z (bQ (aJ (RC.region (mv (vi aa.2) (RL.gQ aa.2 1 (aP (vi (IntKind.wrap .i64 (aa.2+1))) (RL.nil ?_)))))))
  obtain rfl:=oi o
  exact⟨rfl,ao,j.sp 15 [11,12,13,0]⟩
 ·intro r _ _ _ _
  exact r.elim
 rintro aa _ w rfl ⟨ad,O,rfl,j⟩
 rw [Fo.dQ] at o
 refine aJ (RC.sr (mv ad ?_))
 have j:=j.freeze 3
 obtain⟨bt,ba,o⟩:=bd o
 refine RL.call zt zr KA [ad] zr (aC (om N (i0:=3) j zr ba) ?_)
 rintro bb w j
 refine aP bb (RL.nt (RC.ret ?_))
 obtain rfl:=oi o
 exact bM (j.pk 5 [0])
theorem m7 {p0: (List aG)} {p1: (List aG)} {res: (List aG)} (j:Holds E w V) (h0:V[i0]? =some (rd v0 p0)) (h1:V[i1]? =some (rd v1 p1)) (o:eK N p0 p1=some res):
    Calls bD 30 [v0,v1].toArray w (gm (eN E V res)):=by
 unfold eK at o
 refine enter Tryz.func30 zr zr ?_
 have j:=(j.dup (i0+0) h0).dup (i1+1) h1
 refine RC.sr (aP (.slice none 0 0) (RL.ns (mv v0 (mv v1 ?_))))
 obtain⟨ad,aa,o⟩:=bd o
 refine RL.call zt zr KC [v0,v1,(vi 3)] zr (aC (mO N (p2:=3) (i0:=1) (i1:=0) j zr zr aa) ?_)
 rintro ab w j
 refine aP ab (RL.nt (RC.ret ?_))
 obtain rfl:=oi o
 exact bM (j.pk 3 [0])
theorem p6 {p0:fu} {res: (List aG)} (j:Holds E w V) (h0:V[i0]? =some (rd v0 p0)) (o:hQ N p0 p1=some res):
    Calls bD 59 [v0,(vi p1)].toArray w (gm (eN E V res)):=by
 unfold hQ at o
 refine enter Tryz.func59 zr zr ?_
 have j:=j.dup (i0+0) h0
 refine RC.sr (RL.dA 0 v0 j zr fun ad w j=>?_)
 have j:=j.mC (i:=0) rfl
 refine aP (.slice none 0 0) (RL.ns (aP (.slice none 0 0) (RL.nq (RC.sr (aP (vi 0) (RL.nt ?_))))))
 obtain⟨a8,hN,o⟩:=bd o
 refine RC.iter (fun(aa: (List aG)×Int) U w=>∃aj:Value,SH E V [(1,vi p1),(2,vp ad 0),(5,aj),(6,vi aa.2)] [pt (vp ad 0) p0,own 51 aj aa.1] U w) (fun(aa: (List aG)×Int) U w=>∃ae:Value,SH E V [(1,vi p1),(2,vp ad 0),(5,ae)] [pt (vp ad 0) p0,own 51 ae aa.1] U w) (fun(r:Empty) _ _=>r.elim) hN ?_ ?_ ?_ ?_
 ·have j:=j.cX aG 51
  exact⟨(.slice none 0 0),j.sp 3 [1,0]⟩
 ·rintro aa fl _ w ⟨ag,O,rfl,j⟩ o
  refine RC.seq (RC.sr (mv (vi aa.2) (RL.eT 0 j zr jm hU fun ba j=>(RL.bF 0 p0.aR j o4 fun bb j=>(RL.bA 0 p0.aR j tF (ic aa.2 ((p0.aR.length:Int)) (RL.nt (dW o (fun hc o=>?_) fun hc o=>?_))))))))
  rotate_left
  ·refine RC.ex ?_
   obtain rfl:=oi o
   exact⟨rfl,ag,j.sp 4 [2,3]⟩
  refine RC.ss (RC.bs (RL.eT 2 j zr jm hU fun bc j=>(RL.bF 0 p0.aR j o4 fun bf j=>(mv (vi aa.2) ?_))))
  obtain⟨an,ao,o⟩:=bd o
  refine RL.bP 0 j tg ao fun bg j=>(RL.bF 0 an j mJ fun aq j=>(mv (vi p1) ?_))
  obtain⟨bh,ar,o⟩:=bd o
  refine RL.call zt zr Mc [aq,(vi p1)] zr (aC (qX N (p1:=p1) (i0:=0) j zr ar) ?_)
  rintro _ w ⟨rfl,j⟩
  refine RL.nt ?_
  obtain⟨ai,hj,o⟩:=bd o
  refine RC.jn (fun(ai: (List aG)) U w=>∃af:Value,SH E V [(1,vi p1),(2,vp ad 0),(5,af),(6,vi aa.2)] [pt (vp ad 0) p0,own 51 af ai] U w) ai ?_ ?_
  ·refine dW hj (fun hc hj=>?_) fun hc hj=>?_
   rotate_left
   ·refine RC.skip ?_
    obtain rfl:=oi hj
    exact⟨rfl,ag,j.sp 8 [6,7]⟩
   refine RC.region (mv ag (RL.eT 6 j zr jm hU fun bj j=>(RL.bF 0 p0.aR j o4 fun bk j=>(mv (vi aa.2) ?_))))
   obtain⟨au,av,hj⟩:=bd hj
   refine RL.bP 0 j tg av fun bl j=>(RL.bF 0 au j mJ fun aw j=>?_)
   obtain⟨ax,ay,hj⟩:=bd hj
   refine RL.call zt zr HG [aw] zr (aC (iO N (i0:=0) j zr ay) ?_)
   rintro az w j
   refine RL.eX ([ax]: (List aG)) j [az] jt oe (fun M hs g=>⟨(g.sat 0 _ zr).1,zt⟩) fun bm w j=>?_
   have j:=j.freeze 0
   obtain⟨bn,a0,hj⟩:=bd hj
   refine RL.app 13 0 j yQ a0 fun ak w j=>?_
   refine aP ak (RL.nil ?_)
   obtain rfl:=oi hj
   exact⟨rfl,ak,j.sp 14 [12,13]⟩
  rintro _ w ⟨af,O,rfl,j⟩
  refine bQ (aJ (RC.region (mv (vi aa.2) (RL.gQ aa.2 1 (aP (vi (IntKind.wrap .i64 (aa.2+1))) (RL.nil ?_))))))
  obtain rfl:=oi o
  exact⟨rfl,af,j.sp 2 [0,1]⟩
 ·intro r _ _ _ _
  exact r.elim
 rintro aa _ w rfl ⟨ae,O,rfl,j⟩
 rw [Fo.dQ] at o
 refine aJ (RC.seq (RC.xq mixed [1,1,1,1,1,0,2,2,0] [0,1,2,3,4,5,6,7,8] ?_))
 have j:=j.drew
 refine DP.Cr 0 zr zt j zr fB dX fun bo j=>(DP.yN p0.aI 0 zr zt j lk fun bp a131 bq j=>(DP.e1 (vi p1) zr (fun w=>RL.move (vi p1) zt DP.d1) ?_))
 obtain⟨a1,a2,o⟩:=bd o
 refine DP.vv 1 zr j oz a2 fun br j=>(DP.yN a1 0 zr zt j nL fun a3 a136 bt j=>(DP.e0 zr (mv ae (r6 zr ?_))))
 have j:=j.freeze 7
 obtain⟨bu,a4,o⟩:=bd o
 refine RL.call zt zr I3 [ae] zr (aC (jO N (i0:=7) j zr a4) ?_)
 rintro a5 w j
 refine DP.d2 (⟨⟨zt,j.iu 4⟩,j.iu 1⟩) (DP.e2 zr ?_)
 have j:=j.freeze 0
 obtain⟨bw,a6,o⟩:=bd o
 refine RL.call zt zr KD [a3,a5] zr (aC (m7 N (i0:=2) (i1:=0) j zr zr a6) ?_)
 rintro a7 w j
 refine DP.d2 (⟨⟨zt,j.iu 5⟩,j.iu 2⟩) (DP.e0 zr (aP a7 (DP.d0 ?_)))
 have j:=j.pl 10 [0,1,3,4,6,7,8,9]
 refine DP.z (aJ (RC.ret ?_))
 obtain rfl:=oi o
 exact bM (j.pk 8 [0])
end Go.Gk
