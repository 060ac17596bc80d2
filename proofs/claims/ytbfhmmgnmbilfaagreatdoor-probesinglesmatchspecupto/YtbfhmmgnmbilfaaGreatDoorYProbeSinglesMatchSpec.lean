/-
  The law ProbeSinglesMatchSpec: whatever the input of bulk at most 1048576, the call returns true and each argument reads afterwards as it did. The Go functions are told as plain functions (printed texts), the plain functions answer as the statement says (plain laws). Conditions: the statement's own (its bound, its listed tables).
-/
import Derived.Test.YtbfhmmgnmbilfaaGreatDoorCards
import Derived.Test.YtbfhmmgnmbilfaaGreatDoorTie
import Derived.Test.YtbfhmmgnmbilfaaGreatDoorG1
import Derived.Test.YtbfhmmgnmbilfaaGreatDoorG9
import Derived.Test.YtbfhmmgnmbilfaaGreatDoorE3
import Derived.WalkKit
import Derived.ProofKit
import Derived.OpenShut
import Derived.Deep.DeepHandedRow
import Derived.Lay
namespace Go.Proofs.YtbfhmmgnmbilfaaGreatDoor.probeSinglesMatchSpec
open Go.ChangeShapes Go.WideShapes Go.ChangeAt Go.RowKit
theorem own:ownKnob Tryz.prog.godebug=none:=by kernel_rfl
theorem laidOut:laidOutB Tryz.prog=true:=by kernel_rfl
theorem args_readable: ∀t∈Tryz.f3.params.toList,Tryz.prog.readableRec t=true∧t<Tryz.prog.types.size:=by
  intro t ht
  rw [Tryz.params3] at ht
  simp only [List.mem_cons,List.not_mem_nil,or_false] at ht
  rcases ht with rfl | rfl
  all_goals exact⟨by kernel_rfl,of_decide_eq_true (by kernel_rfl)⟩
set_option maxRecDepth 100000 in
theorem contract (H:Type) (enc:TypeId×Value→H) (W:World) (base:Nat) (args:Array Value) (ds gs:List (DataW H)) (before:List MemPlace)
    (hval: ∀(j:Nat) t v,Tryz.f3.params[j]? =some t→args[j]? =some v→Value.okWide Tryz.prog W .any base t v)
    (hW:DataW.Whole enc Tryz.prog Tryz.f3.params.toList Rows.probeSinglesMatchSpecSpec.vars false W args.toList ds gs before) (hk:Rows.uptoSmall H (ds++gs)=true):
    Calls Tryz.prog 3 args W fun e W'=>∃v,e = .returned v∧Rows.probeSinglesMatchSpecSpec.post enc Tryz.prog Tryz.f3 false true false false W args v W':=by
  have hW':=hW
  obtain⟨p,q,hA0,hV,rfl,hfz,hnd⟩:=hW
  have hA:DataW.TrodAll enc Tryz.prog W 0 (fun _=>true) true Tryz.f3.params.toList args.toList ds p:=hA0
  have hA1:=hA
  rw [Tryz.params3] at hA hval
  obtain⟨v0,vs0,d0,ds0,p0,q0,hargs,rfl,rfl,h0,r0⟩:=trodAll_cons hA
  obtain⟨v1,vs1,d1,ds1,p1,q1,rfl,rfl,rfl,h1,r1⟩:=trodAll_cons r0
  obtain⟨rfl,rfl,rfl⟩:=trodAll_nil r1
  obtain rfl:args = #[v0,v1]:=by cases args;simp_all
  obtain⟨rfl,rfl⟩:=trodVars_none hV
  obtain⟨a0,e0,b0⟩:=Gk.mx.arg Gk.Tm (hval 0 27 _ rfl rfl) h0
  obtain⟨a1,rfl,b1⟩:=Gk.mx.Tf Gk.Mo (hval 1 3 _ rfl rfl) h1
  have hsum:=of_decide_eq_true hk
  simp only [List.append_nil,Rows.uptoBulkAll] at hsum
  have c0:Gk.bk a0≤1048576:=by have:Gk.Fy H d0=Rows.uptoBulk d0:=rfl;omega
  have c1:Gk.bk a1≤1048576:=by have:Gk.Fy H d1=Rows.uptoBulk d1:=rfl;omega
  have hg0:=Gk.Holds.begin W
  have hg1:=Gk.Holds.RH (V:=[]) hg0 e0
  have walk:=Gk.nN 4398046511104 (res:=true) (p1:=a1) (i0:=0) hg1 rfl (Gk.ve c0 c1 (Nat.le_refl _))
  refine Gk.Calls.fin walk fun v W' hR=>?_
  obtain⟨rfl,hH⟩:=hR
  have hbl:Below W.heap.size W W':=Gk.Holds.kept (V:=[Gk.rd v0 a0]) hH rfl
  exact Gk.K8 (pa:=_) (pv:=[]) hW' (fun _ _ _=>trodAll_cons_mk (shut_bool Tryz.underlying4 _) trodAll_mk0)
    (fun sp hsp=>Gk.zj laidOut hbl args_readable hA1 (fun x hx=>hW'.lt x (by simpa using hx)) (fun x hx=>hsp x (by simpa using hx))) (fun _ _=>rfl) rfl hbl
    (ok_one (by kernel_rfl) rfl (okWide_bool_mk Tryz.underlying4 _))
theorem laid_met (os:Os):laidMet Tryz.prog Rows.probeSinglesMatchSpecUptoRow.laid ((World.laidAll Tryz.prog os Rows.probeSinglesMatchSpecUptoRow.laid).forCall (fun _ _=>0) ⟨#[],#[.agg #[(.slice none 0 0),(.slice none 0 0),(.slice none 0 0),(.slice none 0 0)], .int .i64 0],[]⟩).memory:=
  laidMet_laidAll _ (by kernel_rfl) (by kernel_rfl)
theorem reads (os:Os) {H:Type} (enc:TypeId×Value→H): ∃places,DataW.whole enc Tryz.prog ((World.laidAll Tryz.prog os Rows.probeSinglesMatchSpecUptoRow.laid).forCall (fun _ _=>0) ⟨#[],#[.agg #[(.slice none 0 0),(.slice none 0 0),(.slice none 0 0),(.slice none 0 0)], .int .i64 0],[]⟩).memory Tryz.f3.params.toList Rows.probeSinglesMatchSpecSpec.vars false (#[.agg #[(.slice none 0 0),(.slice none 0 0),(.slice none 0 0),(.slice none 0 0)], .int .i64 0]:Array Value).toList 8=some ([.agg [.nil, .nil, .nil, .nil], .lit (.int .i64 0)],[],places):=
  ⟨[],by kernel_rfl⟩
set_option maxRecDepth 100000 in
theorem lifted (os:Os) (started:os.Started) (H:Type) (enc:TypeId×Value→H) (F:Stop.Interp):
    ReturnsInHanded {} Tryz.checked os 3 .any ((Rows.OpenSpec.upto Rows.probeSinglesMatchSpecSpec).preRow enc Tryz.prog Tryz.f3 Rows.probeSinglesMatchSpecUptoRow.domain false Rows.probeSinglesMatchSpecUptoRow.laid) (((Rows.OpenSpec.upto Rows.probeSinglesMatchSpecSpec).at F).post enc Tryz.prog Tryz.f3 false true false false):=by
  obtain⟨places,hx⟩:=reads os enc
  refine returnsInHanded_of_row (C:=Tryz.checked) (s:=Rows.OpenSpec.upto Rows.probeSinglesMatchSpecSpec) own started (by kernel_rfl) Tryz.func3
    (witness_row_at (enc:=enc) (C:=Tryz.checked) false (World.laidAll Tryz.prog os Rows.probeSinglesMatchSpecUptoRow.laid) #[.agg #[(.slice none 0 0),(.slice none 0 0),(.slice none 0 0),(.slice none 0 0)], .int .i64 0] (World.laidAll_os _ _ _) (by kernel_rfl) (by kernel_rfl) (by kernel_rfl)
      (OpenSpec.preRow_of_cond 8 hx (by kernel_rfl) (fun k hk=>by cases hk;kernel_rfl) (by kernel_rfl) (laid_met os))) ?_
  intro W base args ds gs before hval hW _ hcond _ _ _ _
  exact contract H enc W base args ds gs before hval hW (hcond _ rfl)
theorem said:Rows.ProbeSinglesMatchSpecUptoSaid:=
  OpenClaim.holds_of_cond 3 Tryz.f3 rfl rfl rfl rfl rfl rfl rfl ⟨rfl,rfl,rfl,rfl,rfl⟩ rfl rfl rfl rfl rfl (by kernel_rfl) Tryz.func3 (by kernel_rfl)
    (of_decide_eq_true (by kernel_rfl)) (by unfold Func.isWrapper;first | (rw [if_pos (by decide +kernel)];kernel_rfl) | (rw [if_neg (by decide +kernel)];exact⟨rfl,rfl⟩))
    (fun os started H enc _ F=>by rw [OpenClaim.pre_eq_preRow];exact lifted os started H enc F)
theorem plain (f:FuncId) (fn:Func) (hf:Tryz.pinned.checked.prog.funcNamed "etchhouse/etchhouselaw11.ProbeSinglesMatchSpec" =some f) (hfn:Tryz.pinned.checked.prog.funcs[f]? =some fn):
    false=Tryz.pinned.checked.prog.looks []∧∀(j:Nat) t,fn.params[j]? =some t→Tryz.pinned.checked.prog.wantsStandIn t=false:=by
  obtain rfl:f=3:=Option.some.inj ((show Tryz.prog.funcNamed "etchhouse/etchhouselaw11.ProbeSinglesMatchSpec" =some 3 by kernel_rfl).symm.trans hf) |>.symm
  obtain rfl:fn=Tryz.f3:=(Option.some.inj (Tryz.func3.symm.trans hfn)).symm
  refine⟨by kernel_rfl,fun j t ht=>?_⟩
  rw [Tryz.params3] at ht
  have ht:=Array.mem_of_getElem? ht
  simp only [List.mem_toArray,List.mem_cons,List.not_mem_nil,or_false] at ht
  rcases ht with rfl | rfl
  all_goals exact(show Tryz.prog.wantsStandIn _=false by kernel_rfl)
theorem card:Rows.ProbeSinglesMatchSpecUptoCardSaid:=
  Claim7.holds_tied_plain_at .later [] _ _ _ _ said (fun _ h=>by cases h) (by kernel_rfl) (fun _ h=>by cases h) probeSinglesMatchSpecUpto_row_tie rfl ⟨rfl,rfl⟩ (by kernel_rfl) rfl plain (by kernel_rfl)
end Go.Proofs.YtbfhmmgnmbilfaaGreatDoor.probeSinglesMatchSpec
