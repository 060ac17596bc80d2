/-
  The law TopCopperOnPanels: whatever the input of bulk at most 1048576, the call returns true and each argument reads afterwards as it did. The Go functions are told as plain functions (printed texts), the plain functions answer as the statement says (plain laws). Conditions: the statement's own (its bound, its listed tables).
-/
import Derived.Test.YtpgchlbhifkckaaRows
import Derived.Test.YtpgchlbhifkckaaG1
import Derived.Test.YtpgchlbhifkckaaG3
import Derived.Test.YtpgchlbhifkckaaE1
import Derived.WalkKit
import Derived.ProofKit
import Derived.OpenShut
import Derived.Deep.DeepHandedRow
import Derived.Lay
namespace Go.Proofs.Ytpgchlbhifkckaa.topCopperOnPanels
open Go.ChangeShapes Go.WideShapes Go.ChangeAt Go.RowKit
theorem own:ownKnob Try.prog.godebug=none:=by kernel_rfl
theorem laidOut:laidOutB Try.prog=true:=by kernel_rfl
theorem args_readable: ∀t∈Try.f3.params.toList,Try.prog.readableRec t=true∧t<Try.prog.types.size:=by
  intro t ht
  rw [Try.params3] at ht
  simp only [List.mem_cons,List.not_mem_nil,or_false] at ht
  rcases ht with rfl | rfl | rfl
  all_goals exact⟨by kernel_rfl,of_decide_eq_true (by kernel_rfl)⟩
set_option maxRecDepth 100000 in
theorem contract (H:Type) (enc:TypeId×Value→H) (W:World) (base:Nat) (args:Array Value) (ds gs:List (DataW H)) (before:List MemPlace)
    (hval: ∀(j:Nat) t v,Try.f3.params[j]? =some t→args[j]? =some v→Value.okWide Try.prog W .any base t v)
    (hW:DataW.Whole enc Try.prog Try.f3.params.toList Rows.topCopperOnPanelsSpec.vars false W args.toList ds gs before) (hk:Rows.uptoSmall H (ds++gs)=true):
    Calls Try.prog 3 args W fun e W'=>∃v,e = .returned v∧Rows.topCopperOnPanelsSpec.post enc Try.prog Try.f3 false true false false W args v W':=by
  have hW':=hW
  obtain⟨p,q,hA0,hV,rfl,hfz,hnd⟩:=hW
  have hA:DataW.TrodAll enc Try.prog W 0 (fun _=>true) true Try.f3.params.toList args.toList ds p:=hA0
  have hA1:=hA
  rw [Try.params3] at hA hval
  obtain⟨v0,vs0,d0,ds0,p0,q0,hargs,rfl,rfl,h0,r0⟩:=trodAll_cons hA
  obtain⟨v1,vs1,d1,ds1,p1,q1,rfl,rfl,rfl,h1,r1⟩:=trodAll_cons r0
  obtain⟨v2,vs2,d2,ds2,p2,q2,rfl,rfl,rfl,h2,r2⟩:=trodAll_cons r1
  obtain⟨rfl,rfl,rfl⟩:=trodAll_nil r2
  obtain rfl:args = #[v0,v1,v2]:=by cases args;simp_all
  obtain⟨rfl,rfl⟩:=trodVars_none hV
  obtain⟨a0,e0,b0⟩:=Gk.fq.arg Gk.Bl (hval 0 26 _ rfl rfl) h0
  obtain⟨a1,rfl,b1⟩:=Gk.fq.Bc Gk.Be (hval 1 9 _ rfl rfl) h1
  obtain⟨a2,e2,b2⟩:=Gk.fq.arg Gk.Bn (hval 2 27 _ rfl rfl) h2
  have hsum:=of_decide_eq_true hk
  simp only [List.append_nil,Rows.uptoBulkAll] at hsum
  have c0:Gk.bk a0≤1048576:=by have:Gk.qR H d0=Rows.uptoBulk d0:=rfl;omega
  have c1:Gk.bk a1≤1048576:=by have:Gk.qR H d1=Rows.uptoBulk d1:=rfl;omega
  have c2:Gk.bk a2≤1048576:=by have:Gk.qR H d2=Rows.uptoBulk d2:=rfl;omega
  have hg0:=Gk.Holds.begin W
  have hg1:=Gk.Holds.yo (V:=[]) hg0 e2
  have hg2:=Gk.Holds.yo (V:=[Gk.rd v2 a2]) hg1 e0
  have walk:=Gk.gZ 4398046511104 (res:=true) (p1:=a1) (i0:=0) (i2:=1) hg2 rfl rfl (Gk.lW c0 c1 c2 (Nat.le_refl _))
  refine Gk.Calls.fin walk fun v W' hR=>?_
  obtain⟨rfl,hH⟩:=hR
  have hbl:Below W.heap.size W W':=Gk.Holds.kept (V:=[Gk.rd v0 a0,Gk.rd v2 a2]) hH rfl
  exact Gk.vm (pa:=_) (pv:=[]) hW' (fun _ _ _=>trodAll_cons_mk (shut_bool Try.underlying4 _) trodAll_mk0)
    (fun sp hsp=>Gk.mw laidOut hbl args_readable hA1 (fun x hx=>hW'.lt x (by simpa using hx)) (fun x hx=>hsp x (by simpa using hx))) (fun _ _=>rfl) rfl hbl
    (ok_one (by kernel_rfl) rfl (okWide_bool_mk Try.underlying4 _))
theorem laid_met (os:Os):laidMet Try.prog Rows.topCopperOnPanelsUptoRow.laid ((World.laidAll Try.prog os Rows.topCopperOnPanelsUptoRow.laid).forCall (fun _ _=>0) ⟨#[],#[.agg #[(.int .i64 0),(.int .i64 0),(.int .i64 0),(.int .i64 0),(.slice none 0 0),(.slice none 0 0),(.slice none 0 0)], .string ⟨#[]⟩, .slice none 0 0],[]⟩).memory:=
  laidMet_laidAll _ (by kernel_rfl) (by kernel_rfl)
theorem reads (os:Os) {H:Type} (enc:TypeId×Value→H): ∃places,DataW.whole enc Try.prog ((World.laidAll Try.prog os Rows.topCopperOnPanelsUptoRow.laid).forCall (fun _ _=>0) ⟨#[],#[.agg #[(.int .i64 0),(.int .i64 0),(.int .i64 0),(.int .i64 0),(.slice none 0 0),(.slice none 0 0),(.slice none 0 0)], .string ⟨#[]⟩, .slice none 0 0],[]⟩).memory Try.f3.params.toList Rows.topCopperOnPanelsSpec.vars false (#[.agg #[(.int .i64 0),(.int .i64 0),(.int .i64 0),(.int .i64 0),(.slice none 0 0),(.slice none 0 0),(.slice none 0 0)], .string ⟨#[]⟩, .slice none 0 0]:Array Value).toList 8=some ([.agg [.lit (.int .i64 0), .lit (.int .i64 0), .lit (.int .i64 0), .lit (.int .i64 0), .nil, .nil, .nil], .lit (.string []), .nil],[],places):=
  ⟨[],by kernel_rfl⟩
set_option maxRecDepth 100000 in
theorem lifted (os:Os) (started:os.Started) (H:Type) (enc:TypeId×Value→H) (F:Stop.Interp):
    ReturnsInHanded {} Try.checked os 3 .any ((Rows.OpenSpec.upto Rows.topCopperOnPanelsSpec).preRow enc Try.prog Try.f3 Rows.topCopperOnPanelsUptoRow.domain false Rows.topCopperOnPanelsUptoRow.laid) (((Rows.OpenSpec.upto Rows.topCopperOnPanelsSpec).at F).post enc Try.prog Try.f3 false true false false):=by
  obtain⟨places,hx⟩:=reads os enc
  refine returnsInHanded_of_row (C:=Try.checked) (s:=Rows.OpenSpec.upto Rows.topCopperOnPanelsSpec) own started (by kernel_rfl) Try.func3
    (witness_row_at (enc:=enc) (C:=Try.checked) false (World.laidAll Try.prog os Rows.topCopperOnPanelsUptoRow.laid) #[.agg #[(.int .i64 0),(.int .i64 0),(.int .i64 0),(.int .i64 0),(.slice none 0 0),(.slice none 0 0),(.slice none 0 0)], .string ⟨#[]⟩, .slice none 0 0] (World.laidAll_os _ _ _) (by kernel_rfl) (by kernel_rfl) (by kernel_rfl)
      (OpenSpec.preRow_of_cond 8 hx (by kernel_rfl) (fun k hk=>by cases hk;kernel_rfl) (by kernel_rfl) (laid_met os))) ?_
  intro W base args ds gs before hval hW _ hcond _ _ _ _
  exact contract H enc W base args ds gs before hval hW (hcond _ rfl)
theorem said:Rows.TopCopperOnPanelsUptoSaid:=
  OpenClaim.holds_of_cond 3 Try.f3 rfl rfl rfl rfl rfl rfl rfl ⟨rfl,rfl,rfl,rfl,rfl⟩ rfl rfl rfl rfl rfl (by kernel_rfl) Try.func3 (by kernel_rfl)
    (of_decide_eq_true (by kernel_rfl)) (by unfold Func.isWrapper;first | (rw [if_pos (by decide +kernel)];kernel_rfl) | (rw [if_neg (by decide +kernel)];exact⟨rfl,rfl⟩))
    (fun os started H enc _ F=>by rw [OpenClaim.pre_eq_preRow];exact lifted os started H enc F)
end Go.Proofs.Ytpgchlbhifkckaa.topCopperOnPanels
