/-
  The law ProbeSwapsAreBest: whatever the input of bulk at most 1048576, the call returns true and each argument reads afterwards as it did. The Go functions are told as plain functions (printed texts), the plain functions answer as the statement says (plain laws). Conditions: the statement's own (its bound, its listed tables).
-/
import Derived.Test.YthioiiocofohiaaGreatDoorCards
import Derived.Test.YthioiiocofohiaaGreatDoorTie
import Derived.Test.YthioiiocofohiaaGreatDoorG1
import Derived.Test.YthioiiocofohiaaGreatDoorG6
import Derived.Test.YthioiiocofohiaaGreatDoorE2
import Derived.WalkKit
import Derived.ProofKit
import Derived.OpenShut
import Derived.Deep.DeepHandedRow
import Derived.Lay
namespace Go.Proofs.YthioiiocofohiaaGreatDoor.probeSwapsAreBest
open Go.ChangeShapes Go.WideShapes Go.ChangeAt Go.RowKit
theorem own:ownKnob Tryz.prog.godebug=none:=by kernel_rfl
theorem laidOut:laidOutB Tryz.prog=true:=by kernel_rfl
theorem args_readable: ∀t∈Tryz.f6.params.toList,Tryz.prog.readableRec t=true∧t<Tryz.prog.types.size:=by
  intro t ht
  rw [Tryz.params6] at ht
  simp only [List.mem_cons,List.not_mem_nil,or_false] at ht
  rcases ht with rfl | rfl | rfl | rfl | rfl
  all_goals exact⟨by kernel_rfl,of_decide_eq_true (by kernel_rfl)⟩
set_option maxRecDepth 100000 in
theorem contract (H:Type) (enc:TypeId×Value→H) (W:World) (base:Nat) (args:Array Value) (ds gs:List (DataW H)) (before:List MemPlace)
    (hval: ∀(j:Nat) t v,Tryz.f6.params[j]? =some t→args[j]? =some v→Value.okWide Tryz.prog W .any base t v)
    (hW:DataW.Whole enc Tryz.prog Tryz.f6.params.toList Rows.probeSwapsAreBestSpec.vars false W args.toList ds gs before) (hk:Rows.uptoSmall H (ds++gs)=true):
    Calls Tryz.prog 6 args W fun e W'=>∃v,e = .returned v∧Rows.probeSwapsAreBestSpec.post enc Tryz.prog Tryz.f6 false true false false W args v W':=by
  have hW':=hW
  obtain⟨p,q,hA0,hV,rfl,hfz,hnd⟩:=hW
  have hA:DataW.TrodAll enc Tryz.prog W 0 (fun _=>true) true Tryz.f6.params.toList args.toList ds p:=hA0
  have hA1:=hA
  rw [Tryz.params6] at hA hval
  obtain⟨v0,vs0,d0,ds0,p0,q0,hargs,rfl,rfl,h0,r0⟩:=trodAll_cons hA
  obtain⟨v1,vs1,d1,ds1,p1,q1,rfl,rfl,rfl,h1,r1⟩:=trodAll_cons r0
  obtain⟨v2,vs2,d2,ds2,p2,q2,rfl,rfl,rfl,h2,r2⟩:=trodAll_cons r1
  obtain⟨v3,vs3,d3,ds3,p3,q3,rfl,rfl,rfl,h3,r3⟩:=trodAll_cons r2
  obtain⟨v4,vs4,d4,ds4,p4,q4,rfl,rfl,rfl,h4,r4⟩:=trodAll_cons r3
  obtain⟨rfl,rfl,rfl⟩:=trodAll_nil r4
  obtain rfl:args = #[v0,v1,v2,v3,v4]:=by cases args;simp_all
  obtain⟨rfl,rfl⟩:=trodVars_none hV
  obtain⟨a0,e0,b0⟩:=Gk.iC.arg Gk.O9 (hval 0 27 _ rfl rfl) h0
  obtain⟨a1,e1,b1⟩:=Gk.iC.arg Gk.Pb (hval 1 28 _ rfl rfl) h1
  obtain⟨a2,e2,b2⟩:=Gk.iC.arg Gk.Pd (hval 2 60 _ rfl rfl) h2
  obtain⟨a3,rfl,b3⟩:=Gk.iC.NF Gk.F9 (hval 3 3 _ rfl rfl) h3
  obtain⟨a4,rfl,b4⟩:=Gk.iC.NF Gk.F9 (hval 4 3 _ rfl rfl) h4
  have hsum:=of_decide_eq_true hk
  simp only [List.append_nil,Rows.uptoBulkAll] at hsum
  have c0:Gk.bk a0≤1048576:=by have:Gk.xu H d0=Rows.uptoBulk d0:=rfl;omega
  have c1:Gk.bk a1≤1048576:=by have:Gk.xu H d1=Rows.uptoBulk d1:=rfl;omega
  have c2:Gk.bk a2≤1048576:=by have:Gk.xu H d2=Rows.uptoBulk d2:=rfl;omega
  have c3:Gk.bk a3≤1048576:=by have:Gk.xu H d3=Rows.uptoBulk d3:=rfl;omega
  have c4:Gk.bk a4≤1048576:=by have:Gk.xu H d4=Rows.uptoBulk d4:=rfl;omega
  have hg0:=Gk.Holds.begin W
  have hg1:=Gk.Holds.IB (V:=[]) hg0 e2
  have hg2:=Gk.Holds.IB (V:=[Gk.rd v2 a2]) hg1 e1
  have hg3:=Gk.Holds.IB (V:=[Gk.rd v1 a1,Gk.rd v2 a2]) hg2 e0
  have walk:=Gk.mQ 4398046511104 (res:=true) (p3:=a3) (p4:=a4) (i0:=0) (i1:=1) (i2:=2) hg3 rfl rfl rfl (Gk.uk c0 c1 c2 c3 c4 (Nat.le_refl _))
  refine Gk.Calls.fin walk fun v W' hR=>?_
  obtain⟨rfl,hH⟩:=hR
  have hbl:Below W.heap.size W W':=Gk.Holds.kept (V:=[Gk.rd v0 a0,Gk.rd v1 a1,Gk.rd v2 a2]) hH rfl
  exact Gk.G1 (pa:=_) (pv:=[]) hW' (fun _ _ _=>trodAll_cons_mk (shut_bool Tryz.underlying4 _) trodAll_mk0)
    (fun sp hsp=>Gk.vl laidOut hbl args_readable hA1 (fun x hx=>hW'.lt x (by simpa using hx)) (fun x hx=>hsp x (by simpa using hx))) (fun _ _=>rfl) rfl hbl
    (ok_one (by kernel_rfl) rfl (okWide_bool_mk Tryz.underlying4 _))
theorem laid_met (os:Os):laidMet Tryz.prog Rows.probeSwapsAreBestUptoRow.laid ((World.laidAll Tryz.prog os Rows.probeSwapsAreBestUptoRow.laid).forCall (fun _ _=>0) ⟨#[],#[.agg #[(.slice none 0 0),(.slice none 0 0),(.slice none 0 0),(.slice none 0 0)], .slice none 0 0, .slice none 0 0, .int .i64 0, .int .i64 0],[]⟩).memory:=
  laidMet_laidAll _ (by kernel_rfl) (by kernel_rfl)
theorem reads (os:Os) {H:Type} (enc:TypeId×Value→H): ∃places,DataW.whole enc Tryz.prog ((World.laidAll Tryz.prog os Rows.probeSwapsAreBestUptoRow.laid).forCall (fun _ _=>0) ⟨#[],#[.agg #[(.slice none 0 0),(.slice none 0 0),(.slice none 0 0),(.slice none 0 0)], .slice none 0 0, .slice none 0 0, .int .i64 0, .int .i64 0],[]⟩).memory Tryz.f6.params.toList Rows.probeSwapsAreBestSpec.vars false (#[.agg #[(.slice none 0 0),(.slice none 0 0),(.slice none 0 0),(.slice none 0 0)], .slice none 0 0, .slice none 0 0, .int .i64 0, .int .i64 0]:Array Value).toList 8=some ([.agg [.nil, .nil, .nil, .nil], .nil, .nil, .lit (.int .i64 0), .lit (.int .i64 0)],[],places):=
  ⟨[],by kernel_rfl⟩
set_option maxRecDepth 100000 in
theorem lifted (os:Os) (started:os.Started) (H:Type) (enc:TypeId×Value→H) (F:Stop.Interp):
    ReturnsInHanded {} Tryz.checked os 6 .any ((Rows.OpenSpec.upto Rows.probeSwapsAreBestSpec).preRow enc Tryz.prog Tryz.f6 Rows.probeSwapsAreBestUptoRow.domain false Rows.probeSwapsAreBestUptoRow.laid) (((Rows.OpenSpec.upto Rows.probeSwapsAreBestSpec).at F).post enc Tryz.prog Tryz.f6 false true false false):=by
  obtain⟨places,hx⟩:=reads os enc
  refine returnsInHanded_of_row (C:=Tryz.checked) (s:=Rows.OpenSpec.upto Rows.probeSwapsAreBestSpec) own started (by kernel_rfl) Tryz.func6
    (witness_row_at (enc:=enc) (C:=Tryz.checked) false (World.laidAll Tryz.prog os Rows.probeSwapsAreBestUptoRow.laid) #[.agg #[(.slice none 0 0),(.slice none 0 0),(.slice none 0 0),(.slice none 0 0)], .slice none 0 0, .slice none 0 0, .int .i64 0, .int .i64 0] (World.laidAll_os _ _ _) (by kernel_rfl) (by kernel_rfl) (by kernel_rfl)
      (OpenSpec.preRow_of_cond 8 hx (by kernel_rfl) (fun k hk=>by cases hk;kernel_rfl) (by kernel_rfl) (laid_met os))) ?_
  intro W base args ds gs before hval hW _ hcond _ _ _ _
  exact contract H enc W base args ds gs before hval hW (hcond _ rfl)
theorem said:Rows.ProbeSwapsAreBestUptoSaid:=
  OpenClaim.holds_of_cond 6 Tryz.f6 rfl rfl rfl rfl rfl rfl rfl ⟨rfl,rfl,rfl,rfl,rfl⟩ rfl rfl rfl rfl rfl (by kernel_rfl) Tryz.func6 (by kernel_rfl)
    (of_decide_eq_true (by kernel_rfl)) (by unfold Func.isWrapper;first | (rw [if_pos (by decide +kernel)];kernel_rfl) | (rw [if_neg (by decide +kernel)];exact⟨rfl,rfl⟩))
    (fun os started H enc _ F=>by rw [OpenClaim.pre_eq_preRow];exact lifted os started H enc F)
theorem plain (f:FuncId) (fn:Func) (hf:Tryz.pinned.checked.prog.funcNamed "etchhouse/etchhouselaw11.ProbeSwapsAreBest" =some f) (hfn:Tryz.pinned.checked.prog.funcs[f]? =some fn):
    false=Tryz.pinned.checked.prog.looks []∧∀(j:Nat) t,fn.params[j]? =some t→Tryz.pinned.checked.prog.wantsStandIn t=false:=by
  obtain rfl:f=6:=Option.some.inj ((show Tryz.prog.funcNamed "etchhouse/etchhouselaw11.ProbeSwapsAreBest" =some 6 by kernel_rfl).symm.trans hf) |>.symm
  obtain rfl:fn=Tryz.f6:=(Option.some.inj (Tryz.func6.symm.trans hfn)).symm
  refine⟨by kernel_rfl,fun j t ht=>?_⟩
  rw [Tryz.params6] at ht
  have ht:=Array.mem_of_getElem? ht
  simp only [List.mem_toArray,List.mem_cons,List.not_mem_nil,or_false] at ht
  rcases ht with rfl | rfl | rfl | rfl | rfl
  all_goals exact(show Tryz.prog.wantsStandIn _=false by kernel_rfl)
theorem card:Rows.ProbeSwapsAreBestUptoCardSaid:=
  Claim7.holds_tied_plain_at .later [] _ _ _ _ said (fun _ h=>by cases h) (by kernel_rfl) (fun _ h=>by cases h) probeSwapsAreBestUpto_row_tie rfl ⟨rfl,rfl⟩ (by kernel_rfl) rfl plain (by kernel_rfl)
end Go.Proofs.YthioiiocofohiaaGreatDoor.probeSwapsAreBest
