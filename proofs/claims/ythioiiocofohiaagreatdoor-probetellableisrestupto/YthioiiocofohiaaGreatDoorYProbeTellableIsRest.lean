/-
  The law ProbeTellableIsRest: whatever the input of bulk at most 1048576, the call returns true and each argument reads afterwards as it did. The Go functions are told as plain functions (printed texts), the plain functions answer as the statement says (plain laws). Conditions: the statement's own (its bound, its listed tables).
-/
import Derived.Test.YthioiiocofohiaaGreatDoorCards
import Derived.Test.YthioiiocofohiaaGreatDoorTie
import Derived.Test.YthioiiocofohiaaGreatDoorG1
import Derived.Test.YthioiiocofohiaaGreatDoorG6
import Derived.Test.YthioiiocofohiaaGreatDoorE2
import Derived.WalkKit
import Derived.ProofKit
import Derived.OpenShut
import Derived.Deep.DeepHandedRow
import Derived.Lay
namespace Go.Proofs.YthioiiocofohiaaGreatDoor.probeTellableIsRest
open Go.ChangeShapes Go.WideShapes Go.ChangeAt Go.RowKit
theorem own:ownKnob Tryz.prog.godebug=none:=by kernel_rfl
theorem laidOut:laidOutB Tryz.prog=true:=by kernel_rfl
theorem args_readable: ∀t∈Tryz.f5.params.toList,Tryz.prog.readableRec t=true∧t<Tryz.prog.types.size:=by
  intro t ht
  rw [Tryz.params5] at ht
  simp only [List.mem_cons,List.not_mem_nil,or_false] at ht
  rcases ht with rfl | rfl | rfl
  all_goals exact⟨by kernel_rfl,of_decide_eq_true (by kernel_rfl)⟩
set_option maxRecDepth 100000 in
theorem contract (H:Type) (enc:TypeId×Value→H) (W:World) (base:Nat) (args:Array Value) (ds gs:List (DataW H)) (before:List MemPlace)
    (hval: ∀(j:Nat) t v,Tryz.f5.params[j]? =some t→args[j]? =some v→Value.okWide Tryz.prog W .any base t v)
    (hW:DataW.Whole enc Tryz.prog Tryz.f5.params.toList Rows.probeTellableIsRestSpec.vars false W args.toList ds gs before) (hk:Rows.uptoSmall H (ds++gs)=true):
    Calls Tryz.prog 5 args W fun e W'=>∃v,e = .returned v∧Rows.probeTellableIsRestSpec.post enc Tryz.prog Tryz.f5 false true false false W args v W':=by
  have hW':=hW
  obtain⟨p,q,hA0,hV,rfl,hfz,hnd⟩:=hW
  have hA:DataW.TrodAll enc Tryz.prog W 0 (fun _=>true) true Tryz.f5.params.toList args.toList ds p:=hA0
  have hA1:=hA
  rw [Tryz.params5] at hA hval
  obtain⟨v0,vs0,d0,ds0,p0,q0,hargs,rfl,rfl,h0,r0⟩:=trodAll_cons hA
  obtain⟨v1,vs1,d1,ds1,p1,q1,rfl,rfl,rfl,h1,r1⟩:=trodAll_cons r0
  obtain⟨v2,vs2,d2,ds2,p2,q2,rfl,rfl,rfl,h2,r2⟩:=trodAll_cons r1
  obtain⟨rfl,rfl,rfl⟩:=trodAll_nil r2
  obtain rfl:args = #[v0,v1,v2]:=by cases args;simp_all
  obtain⟨rfl,rfl⟩:=trodVars_none hV
  obtain⟨a0,e0,b0⟩:=Gk.iV.arg Gk.Mj (hval 0 27 _ rfl rfl) h0
  obtain⟨a1,e1,b1⟩:=Gk.iV.arg Gk.Ml (hval 1 28 _ rfl rfl) h1
  obtain⟨a2,rfl,b2⟩:=Gk.iV.Md Gk.F7 (hval 2 3 _ rfl rfl) h2
  have hsum:=of_decide_eq_true hk
  simp only [List.append_nil,Rows.uptoBulkAll] at hsum
  have c0:Gk.bk a0≤1048576:=by have:Gk.w9 H d0=Rows.uptoBulk d0:=rfl;omega
  have c1:Gk.bk a1≤1048576:=by have:Gk.w9 H d1=Rows.uptoBulk d1:=rfl;omega
  have c2:Gk.bk a2≤1048576:=by have:Gk.w9 H d2=Rows.uptoBulk d2:=rfl;omega
  have hg0:=Gk.Holds.begin W
  have hg1:=Gk.Holds.Ic (V:=[]) hg0 e1
  have hg2:=Gk.Holds.Ic (V:=[Gk.rd v1 a1]) hg1 e0
  have walk:=Gk.k7 4398046511104 (res:=true) (p2:=a2) (i0:=0) (i1:=1) hg2 rfl rfl (Gk.qE c0 c1 c2 (Nat.le_refl _))
  refine Gk.Calls.fin walk fun v W' hR=>?_
  obtain⟨rfl,hH⟩:=hR
  have hbl:Below W.heap.size W W':=Gk.Holds.kept (V:=[Gk.rd v0 a0,Gk.rd v1 a1]) hH rfl
  exact Gk.Ex (pa:=_) (pv:=[]) hW' (fun _ _ _=>trodAll_cons_mk (shut_bool Tryz.underlying4 _) trodAll_mk0)
    (fun sp hsp=>Gk.s9 laidOut hbl args_readable hA1 (fun x hx=>hW'.lt x (by simpa using hx)) (fun x hx=>hsp x (by simpa using hx))) (fun _ _=>rfl) rfl hbl
    (ok_one (by kernel_rfl) rfl (okWide_bool_mk Tryz.underlying4 _))
theorem laid_met (os:Os):laidMet Tryz.prog Rows.probeTellableIsRestUptoRow.laid ((World.laidAll Tryz.prog os Rows.probeTellableIsRestUptoRow.laid).forCall (fun _ _=>0) ⟨#[],#[.agg #[(.slice none 0 0),(.slice none 0 0),(.slice none 0 0),(.slice none 0 0)], .slice none 0 0, .int .i64 0],[]⟩).memory:=
  laidMet_laidAll _ (by kernel_rfl) (by kernel_rfl)
theorem reads (os:Os) {H:Type} (enc:TypeId×Value→H): ∃places,DataW.whole enc Tryz.prog ((World.laidAll Tryz.prog os Rows.probeTellableIsRestUptoRow.laid).forCall (fun _ _=>0) ⟨#[],#[.agg #[(.slice none 0 0),(.slice none 0 0),(.slice none 0 0),(.slice none 0 0)], .slice none 0 0, .int .i64 0],[]⟩).memory Tryz.f5.params.toList Rows.probeTellableIsRestSpec.vars false (#[.agg #[(.slice none 0 0),(.slice none 0 0),(.slice none 0 0),(.slice none 0 0)], .slice none 0 0, .int .i64 0]:Array Value).toList 8=some ([.agg [.nil, .nil, .nil, .nil], .nil, .lit (.int .i64 0)],[],places):=
  ⟨[],by kernel_rfl⟩
set_option maxRecDepth 100000 in
theorem lifted (os:Os) (started:os.Started) (H:Type) (enc:TypeId×Value→H) (F:Stop.Interp):
    ReturnsInHanded {} Tryz.checked os 5 .any ((Rows.OpenSpec.upto Rows.probeTellableIsRestSpec).preRow enc Tryz.prog Tryz.f5 Rows.probeTellableIsRestUptoRow.domain false Rows.probeTellableIsRestUptoRow.laid) (((Rows.OpenSpec.upto Rows.probeTellableIsRestSpec).at F).post enc Tryz.prog Tryz.f5 false true false false):=by
  obtain⟨places,hx⟩:=reads os enc
  refine returnsInHanded_of_row (C:=Tryz.checked) (s:=Rows.OpenSpec.upto Rows.probeTellableIsRestSpec) own started (by kernel_rfl) Tryz.func5
    (witness_row_at (enc:=enc) (C:=Tryz.checked) false (World.laidAll Tryz.prog os Rows.probeTellableIsRestUptoRow.laid) #[.agg #[(.slice none 0 0),(.slice none 0 0),(.slice none 0 0),(.slice none 0 0)], .slice none 0 0, .int .i64 0] (World.laidAll_os _ _ _) (by kernel_rfl) (by kernel_rfl) (by kernel_rfl)
      (OpenSpec.preRow_of_cond 8 hx (by kernel_rfl) (fun k hk=>by cases hk;kernel_rfl) (by kernel_rfl) (laid_met os))) ?_
  intro W base args ds gs before hval hW _ hcond _ _ _ _
  exact contract H enc W base args ds gs before hval hW (hcond _ rfl)
theorem said:Rows.ProbeTellableIsRestUptoSaid:=
  OpenClaim.holds_of_cond 5 Tryz.f5 rfl rfl rfl rfl rfl rfl rfl ⟨rfl,rfl,rfl,rfl,rfl⟩ rfl rfl rfl rfl rfl (by kernel_rfl) Tryz.func5 (by kernel_rfl)
    (of_decide_eq_true (by kernel_rfl)) (by unfold Func.isWrapper;first | (rw [if_pos (by decide +kernel)];kernel_rfl) | (rw [if_neg (by decide +kernel)];exact⟨rfl,rfl⟩))
    (fun os started H enc _ F=>by rw [OpenClaim.pre_eq_preRow];exact lifted os started H enc F)
theorem plain (f:FuncId) (fn:Func) (hf:Tryz.pinned.checked.prog.funcNamed "etchhouse/etchhouselaw11.ProbeTellableIsRest" =some f) (hfn:Tryz.pinned.checked.prog.funcs[f]? =some fn):
    false=Tryz.pinned.checked.prog.looks []∧∀(j:Nat) t,fn.params[j]? =some t→Tryz.pinned.checked.prog.wantsStandIn t=false:=by
  obtain rfl:f=5:=Option.some.inj ((show Tryz.prog.funcNamed "etchhouse/etchhouselaw11.ProbeTellableIsRest" =some 5 by kernel_rfl).symm.trans hf) |>.symm
  obtain rfl:fn=Tryz.f5:=(Option.some.inj (Tryz.func5.symm.trans hfn)).symm
  refine⟨by kernel_rfl,fun j t ht=>?_⟩
  rw [Tryz.params5] at ht
  have ht:=Array.mem_of_getElem? ht
  simp only [List.mem_toArray,List.mem_cons,List.not_mem_nil,or_false] at ht
  rcases ht with rfl | rfl | rfl
  all_goals exact(show Tryz.prog.wantsStandIn _=false by kernel_rfl)
theorem card:Rows.ProbeTellableIsRestUptoCardSaid:=
  Claim7.holds_tied_plain_at .later [] _ _ _ _ said (fun _ h=>by cases h) (by kernel_rfl) (fun _ h=>by cases h) probeTellableIsRestUpto_row_tie rfl ⟨rfl,rfl⟩ (by kernel_rfl) rfl plain (by kernel_rfl)
end Go.Proofs.YthioiiocofohiaaGreatDoor.probeTellableIsRest
