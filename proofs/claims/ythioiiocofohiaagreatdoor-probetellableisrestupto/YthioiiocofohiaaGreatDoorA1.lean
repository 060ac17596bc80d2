/-
  Helping texts on the memory of the model. No statement of the seed is proved here.
-/
import Derived.Tactics
import Derived.Orders
import Derived.Maps.AppendAt
import Derived.Laws.Tables
import Derived.Laws.CopyRow
import Derived.KernelRfl
import Derived.Laws.Cells
import Derived.Laws.Strings
import Derived.Lib.Strings
import Derived.Laws.AppendOwn
import Derived.Laws.Externs
import Derived.Lib.Bytealg
import Derived.Laws.OwnMore
import Derived.MapKept
import Derived.Laws.Append
import Derived.Sort.AssemblyPlain
import Derived.Sort.Defs
import Derived.Sort.Statements
import Derived.Lib.BitFns
set_option linter.unusedVariables false
set_option linter.unusedSimpArgs false
set_option linter.unusedSectionVars false
namespace Go.Gk
open Go
theorem aJ: ∀{α:Type _} {l:List α} {i:Nat} (h:i<l.length),l[i]? =some l[i]:= @List.getElem?_eq_getElem
theorem bC: ∀{α:Type _} {i:Nat} {a:α} {l:List α},l[i]? =some a↔∃h,l[i]=a:= @List.getElem?_eq_some_iff
theorem eM: ∀{α:Type _} {i:Nat} {l:List α} (h:i<l.length),List.take (i+1) l=List.take i l++[l[i]]:= @List.take_succ_eq_append_getElem
theorem bY: ∀(n:Nat),((n:Nat):Int).toNat=n:= @Int.toNat_natCast
theorem cP: ∀{α:Type _} {l:List α} {n:Nat} (h:n<l.length),l[n]∈l:= @List.getElem_mem
theorem eY: ∀{α:Type _} {β:Type _} {a0:List α} (f:α->β),(List.map f a0).length=a0.length:= @List.length_map
theorem bT: ∀(a b:Bool),((a&&b)=true)= (a=true/\b=true):= @Bool.and_eq_true
theorem dR: ∀{α:Type _} {a0 bs:List α},(a0++bs).length=a0.length+bs.length:= @List.length_append
theorem cS: ∀{α:Type _} {a:α} {s t:List α},a∈s++t↔a∈s\/a∈t:= @List.mem_append
theorem gH: ∀{α:Type _} {l:List α} {i:Nat} {a:α},l[i]? =some a->a∈l:= @List.mem_of_getElem?
theorem eB: ∀{α:Type _} {β:Type _} {f:α->β} {l₁ l₂:List α},List.map f (l₁++l₂)=List.map f l₁++List.map f l₂:= @List.map_append
theorem eC: ∀{n m:Nat},n.beq m=true->n=m:= @Nat.eq_of_beq_eq_true
theorem dM: ∀{α:Type _} {l:List α} {i j:Nat},(List.take i l)[j]? =if j<i then l[j]? else none:= @List.getElem?_take
theorem eH: ∀{α:Type _} {xs:List α} {i j:Nat},(List.drop i xs)[j]? =xs[i+j]? := @List.getElem?_drop
theorem fN: ∀{α:Type _} {xs:Array α} {i:Nat} (h:i<xs.size),xs[i]? =some xs[i]:= @Array.getElem?_eq_getElem
theorem fO: ∀{α:Type _} {l₁ l₂:List α} {i:Nat},i<l₁.length->(l₁++l₂)[i]? =l₁[i]? := @List.getElem?_append_left
theorem fz: ∀{α:Type _} {l₁ l₂:List α} {i:Nat},l₁.length<=i->(l₁++l₂)[i]? =l₂[i - l₁.length]? := @List.getElem?_append_right
theorem aR: ∀{α:Sort _} (a b:α),(bif true then a else b)=a:= @cond_true
theorem aS: ∀{α:Sort _} (a b:α),(bif false then a else b)=b:= @cond_false
theorem fP: ∀{α:Type _} {β:Type _} {f:α->β} {l:List α} {i:Nat},(List.map f l)[i]? =Option.map f l[i]? := @List.getElem?_map
theorem cT: ∀{α:Type _} {β:Type _} {b:β} {f:α->β} {l:List α},b∈List.map f l↔∃a,a∈l/\f a=b:= @List.mem_map
theorem iA: ∀{α:Type _} {p:α->Bool} {a0:List α} {x:α},x∈List.filter p a0↔x∈a0/\p x=true:= @List.mem_filter
theorem fQ: ∀{α:Type _} {b:α} {l:List α} {a:α},a∈b::l↔a=b\/a∈l:= @List.mem_cons
theorem fI: ∀{α:Type _} {a:α} {a0:List α},(a::a0).length=a0.length+1:= @List.length_cons
theorem dE: ∀{α:Type _} {i:Nat} {l:List α},(List.take i l).length=min i l.length:= @List.length_take
theorem jf: ∀{m n:Nat},m∈List.range n↔m<n:= @List.mem_range
theorem jg: ∀{α:Type _} (a0 bs cs:List α),a0++bs++cs=a0++(bs++cs):= @List.append_assoc
theorem gR: ∀{α:Type _} {i:Nat} {l:List α},(List.drop i l).length=l.length - i:= @List.length_drop
theorem tX: ∀{α:Type _} {a b:α},a∈[b]↔a=b:= @List.mem_singleton
theorem kR: ∀{α:Type _} {R:α->α->Prop},List.Pairwise R []:= @List.Pairwise.nil
theorem eD: ∀{α:Type _} {l:List α},List.take l.length l=l:= @List.take_length
theorem gS: ∀{α:Type _} {p:α->Bool} (l₁ l₂:List α),List.filter p (l₁++l₂)=List.filter p l₁++List.filter p l₂:= @List.filter_append
theorem jh: ∀{α:Type _} (y:α) {a:α} {l:List α},a∈l->a∈y::l:= @List.mem_cons_of_mem
theorem dU: ∀(a b:Bool),((a||b)=true)= (a=true\/b=true):= @Bool.or_eq_true
theorem ji:false≠true:= @Bool.false_ne_true
theorem oL: ∀(b:Bool),(¬b=true)= (b=false):= @Bool.not_eq_true
theorem gC: ∀{a b:Bool},a=b↔(a=true↔b=true):= @Bool.eq_iff_iff
theorem fA: ∀{α:Type _} {l:List α} {i j:Nat} {a:α},(l.set i a)[j]? =if i=j then if i<l.length then some a else none else l[j]? := @List.getElem?_set
theorem gT: ∀{α:Type _} {a0:List α} {i:Nat} {a:α},(a0.set i a).length=a0.length:= @List.length_set
theorem oM: ∀{α:Type _} {i:Nat} {l:List α},l.length<=i->List.take i l=l:= @List.take_of_length_le
theorem aU: ∀{α β:Type} (a:α) (w:World) (f:α->World->Result β),(Result.ok a w).andThen f=f a w:= @Result.andThen_ok
theorem aO: ∀{α β:Type} (P:Program) (w:World) (x:Sem α) (f:α->Sem β),Sem.run P (x >>= f) w= (Sem.run P x w).andThen fun a w'=>Sem.run P (f a) w':= @Sem.run_bind
theorem aW: ∀{α:Type} (P:Program) (w:World) (a:α),Sem.run P (pure a) w=Result.ok a w:= @Sem.run_pure
theorem bM: ∀(n:Nat),n<=n:= @Nat.le_refl
theorem mP: ∀(n:Nat),0<=n:= @Nat.zero_le
theorem l7: ∀{n m k:Nat},n<=m->m<=k->n<=k:= @Nat.le_trans
theorem gj: ∀(n:Nat),0+n=n:= @Nat.zero_add
theorem kl: ∀{α:Type _} (a0:List α),a0++[]=a0:= @List.append_nil
theorem dV: ∀{α:Type _} {β:Type _} {f:α->β} {a:α} {l:List α},List.map f (a::l)=f a::List.map f l:= @List.map_cons
theorem mQ: ∀{α:Type _} {R:α->α->Prop} {l:List α},List.Pairwise R l↔∀(i j:Nat) (_hi:i<l.length) (_hj:j<l.length),i<j->R l[i] l[j]:= @List.pairwise_iff_getElem
theorem jC: ∀{α:Type _} (p:α->Bool) (l:List α),(List.filter p l).length<=l.length:= @List.length_filter_le
theorem lE: (!true)=false:= @Bool.not_true
theorem lF: (!false)=true:= @Bool.not_false
theorem jQ: ∀{α:Type _} {p:α->Bool} {l:List α},l.any p=true↔∃x,x∈l/\p x=true:= @List.any_eq_true
theorem jD: ∀{α:Type _} {p:α->Bool} {l:List α},l.all p=true↔∀(x:α),x∈l->p x=true:= @List.all_eq_true
theorem r6: ∀{α:Type _} {i:Nat} {l:List α} (h:i<l.length),List.drop i l=l[i]::List.drop (i+1) l:= @List.drop_eq_getElem_cons
theorem bP: ∀{p:Prop} [Decidable p],(decide p=true)=p:= @decide_eq_true_eq
theorem cE {p:Prop} [Decidable p]:p->decide p=true:=decide_eq_true
theorem bG {p:Prop} [Decidable p]: ¬p->decide p=false:=decide_eq_false
theorem gk {α:Type _} {a:α} {l:List α}:a∈l->∃i:Nat,l[i]? =some a:=List.getElem?_of_mem
theorem aC {c:Prop} {h:Decidable c} (hc:c) {α:Sort _} {t e:α}: (if c then t else e)=t:=if_pos hc
theorem aD {c:Prop} {h:Decidable c} (hc: ¬c) {α:Sort _} {t e:α}: (if c then t else e)=e:=if_neg hc
abbrev dJ:=Nat->Option Obj
def oE:dJ:=fun _=>none
def one (g:Nat) (o:Obj):dJ:=fun b=>if b=g then some o else none
def oF (M h:dJ):dJ:=fun b=>match M b with | some o=>some o | none=>h b
def hle (M M':dJ):Prop:=∀b o,M b=some o->M' b=some o
theorem E0 (M:dJ):hle M M:=fun _ _ h=>h
theorem D0 {A B C:dJ} (h:hle A B) (k:hle B C):hle A C:=fun b o e=>k b o (h b o e)
theorem r7 (M h:dJ):hle M (oF M h):=fun b o e=>by simp [oF,e]
theorem jF {g b:Nat} {o o':Obj} (h:one g o b=some o'):b=g/\o=o':=by
 unfold one at h;split at h <;> simp_all
theorem dC (g:Nat) (o:Obj):one g o g=some o:=by simp [one]
structure HP where
 ok:dJ->dJ->Prop
 mono: ∀{M M' h:dJ},hle M M'->ok M h->ok M' h
def aX:HP:=⟨fun _ _=>True,fun _ h=>h⟩
structure Good (E w:World) (M:dJ) (hs:Nat->dJ) (V:List HP):Prop where
 os:w.os=E.os
 tape:w.tape=E.tape
 out:w.output=E.output
 dr:E.drawn<=w.drawn
 im: ∀b o,M b=some o->w.heap[b]? =some o
 sat: ∀i (P:HP),V[i]? =some P->P.ok M (hs i)
 le: ∀i b o,i<V.length->hs i b=some o->w.heap[b]? =some o
 dm: ∀i b o,i<V.length->hs i b=some o->M b=none
 dj: ∀i j b o,i<V.length->j<V.length->i≠j->hs i b=some o->hs j b=none
def Holds (E w:World) (V:List HP):Prop:=∃M hs,Good E w M hs V
theorem cK {V:List HP} {i:Nat} {P:HP} (h:V[i]? =some P):i<V.length:=(bC.1 h).1
section
variable {E w w':World} {M:dJ} {hs:Nat->dJ} {V Γ':List HP} {P P':HP} {i:Nat}
def AZ (h:dJ) (hs:Nat->dJ):Nat->dJ
 | 0=>h
 | i+1=>hs i
def lL (hs:Nat->dJ) (i:Nat) (h:dJ):Nat->dJ:=fun j=>if j=i then h else hs j
theorem Good.cons (g:Good E w M hs V) (h:dJ) (hp:P.ok M h) (hle': ∀b o,h b=some o->w.heap[b]? =some o)
  (hdm: ∀b o,h b=some o->M b=none) (hdj: ∀j b o,j<V.length->h b=some o->hs j b=none):
  Good E w M (AZ h hs) (P::V) where
 os:=g.os
 tape:=g.tape
 out:=g.out
 dr:=g.dr
 im:=g.im
 sat:=fun i Q hq=>by
  cases i with
  | zero=>simp at hq;subst hq;exact hp
  | succ i=>exact g.sat i Q (by simpa using hq)
 le:=fun i b o hi hb=>by
  cases i with
  | zero=>exact hle' b o hb
  | succ i=>exact g.le i b o (by simpa using hi) hb
 dm:=fun i b o hi hb=>by
  cases i with
  | zero=>exact hdm b o hb
  | succ i=>exact g.dm i b o (by simpa using hi) hb
 dj:=fun i j b o hi hj hne hb=>by
  cases i with
  | zero=>
   cases j with
   | zero=>exact absurd rfl hne
   | succ j=>exact hdj j b o (by simpa using hj) hb
  | succ i=>
   cases j with
   | zero=>
    simp only [AZ] at hb ⊢
    cases e:h b with
    | none=>rfl
    | some o'=>have:=hdj i b o' (by simpa using hi) e;rw [this] at hb;cases hb
   | succ j=>exact g.dj i j b o (by simpa using hi) (by simpa using hj) (by omega) hb
theorem Good.fX (g:Good E w M hs V) (hp:P.ok M oE):Good E w M (AZ oE hs) (P::V):=
 g.cons oE hp (fun _ _ h=>by cases h) (fun _ _ h=>by cases h) (fun _ _ _ _ h=>by cases h)
theorem Good.world (g:Good E w M hs V) (h1:w'.os=w.os) (h2:w'.tape=w.tape) (h3:w'.output=w.output)
  (hk: ∀b,b<w.heap.size->w'.heap[b]? =w.heap[b]?) (h0:w.drawn<=w'.drawn:=by first | exact bM _ | exact Nat.le_succ _):Good E w' M hs V:=by
 have key: ∀b o,w.heap[b]? =some o->w'.heap[b]? =some o:=fun b o h=>by
  rw [hk b ((Array.getElem?_eq_some_iff.1 h).1)];exact h
 exact⟨h1.trans g.os,h2.trans g.tape,h3.trans g.out,l7 g.dr h0,fun b o h=>key b o (g.im b o h),g.sat,
  fun i b o hi h=>key b o (g.le i b o hi h),g.dm,g.dj⟩
theorem Good.update (g:Good E w M hs V) (hi:i<V.length) (h':dJ) (hp:P'.ok M h')
  (h1:w'.os=w.os) (h2:w'.tape=w.tape) (h3:w'.output=w.output)
  (hle': ∀b o,h' b=some o->w'.heap[b]? =some o)
  (hdom: ∀b o,h' b=some o->(∃o',hs i b=some o')\/w.heap.size<=b)
  (hk: ∀b,hs i b=none->b<w.heap.size->w'.heap[b]? =w.heap[b]?) (h0:w.drawn<=w'.drawn:=by first | exact bM _ | exact Nat.le_succ _):
  Good E w' M (lL hs i h') (V.set i P'):=by
 have lt: ∀b o,w.heap[b]? =some o->b<w.heap.size:=fun b o h=>(Array.getElem?_eq_some_iff.1 h).1
 refine⟨h1.trans g.os,h2.trans g.tape,h3.trans g.out,l7 g.dr h0,fun b o h=>?_,fun j Q hq=>?_,fun j b o hj hb=>?_,fun j b o hj hb=>?_,fun j k b o hj hk' hne hb=>?_⟩
 ·have hw:=g.im b o h
  rw [hk b ?_ (lt b o hw)];exact hw
  cases e:hs i b with
  | none=>rfl
  | some o'=>have:=g.dm i b o' hi e;rw [this] at h;cases h
 ·rw [fA] at hq
  unfold lL
  by_cases e:i=j
  ·subst e;simp [hi] at hq;subst hq;simpa using hp
  ·rw [aD e] at hq;rw [aD (fun h=>e h.symm)];exact g.sat j Q hq
 ·rw [gT] at hj
  unfold lL at hb
  split at hb
  ·exact hle' b o hb
  ·rename_i e
   have hw:=g.le j b o hj hb
   rw [hk b (g.dj j i b o hj hi e hb) (lt b o hw)];exact hw
 ·rw [gT] at hj
  unfold lL at hb
  split at hb
  ·rcases hdom b o hb with ⟨o',h'⟩ | h'
   ·exact g.dm i b o' hi h'
   ·cases e:M b with
    | none=>rfl
    | some o'=>exact absurd (lt b o' (g.im b o' e)) (by omega)
  ·exact g.dm j b o hj hb
 ·rw [gT] at hj hk'
  unfold lL at hb ⊢
  split at hb
  ·rename_i e
   rw [aD (fun h=>hne (e.trans h.symm))]
   rcases hdom b o hb with ⟨o',h'⟩ | h'
   ·exact g.dj i k b o' hi hk' (fun h=>hne (e.trans h)) h'
   ·cases e':hs k b with
    | none=>rfl
    | some o'=>exact absurd (lt b o' (g.le k b o' hk' e')) (by omega)
  ·rename_i e
   split
   ·cases e':h' b with
    | none=>rfl
    | some o'=>
     rcases hdom b o' e' with ⟨o'',h''⟩ | h''
     ·have:=g.dj i j b o'' hi hj (fun h=>e h.symm) h'';rw [this] at hb;cases hb
     ·exact absurd (lt b o (g.le j b o hj hb)) (by omega)
   ·exact g.dj j k b o hj hk' hne hb
theorem Good.freeze (g:Good E w M hs V) (hi:i<V.length) (hp:P'.ok (oF M (hs i)) oE):
  Good E w (oF M (hs i)) (lL hs i oE) (V.set i P'):=by
 refine⟨g.os,g.tape,g.out,g.dr,fun b o h=>?_,fun j Q hq=>?_,fun j b o hj hb=>?_,fun j b o hj hb=>?_,fun j k b o hj hk' hne hb=>?_⟩
 ·unfold oF at h
  cases e:M b with
  | none=>rw [e] at h;exact g.le i b o hi h
  | some o'=>rw [e] at h;simp at h;subst h;exact g.im b _ e
 ·rw [fA] at hq
  unfold lL
  by_cases e:i=j
  ·subst e;simp [hi] at hq;subst hq;simpa using hp
  ·rw [aD e] at hq;rw [aD (fun h=>e h.symm)];exact Q.mono (r7 _ _) (g.sat j Q hq)
 ·rw [gT] at hj
  unfold lL at hb
  split at hb
  ·cases hb
  ·exact g.le j b o hj hb
 ·rw [gT] at hj
  unfold lL at hb
  split at hb
  ·cases hb
  ·rename_i e
   simp only [oF,g.dm j b o hj hb]
   exact g.dj j i b o hj hi e hb
 ·rw [gT] at hj hk'
  unfold lL at hb ⊢
  split at hb
  ·cases hb
  ·split
   ·rfl
   ·exact g.dj j k b o hj hk' hne hb
theorem Good.pick (g:Good E w M hs V) (f:Nat->Nat) (hlt: ∀i,i<Γ'.length->f i<V.length) (hget: ∀i,i<Γ'.length->Γ'[i]? =V[f i]?)
  (hinj: ∀i j,i<Γ'.length->j<Γ'.length->i≠j->f i≠f j):Good E w M (fun i=>hs (f i)) Γ':=
 ⟨g.os,g.tape,g.out,g.dr,g.im,fun i Q hq=>g.sat (f i) Q (by rw [<-hget i (cK hq)];exact hq),
  fun i b o hi hb=>g.le (f i) b o (hlt i hi) hb,fun i b o hi hb=>g.dm (f i) b o (hlt i hi) hb,
  fun i j b o hi hj hne hb=>g.dj (f i) (f j) b o (hlt i hi) (hlt j hj) (hinj i j hi hj hne) hb⟩
theorem Holds.drop (k:Nat) (h:Holds E w V) (hd:V.drop k=Γ':=by exact rfl):Holds E w Γ':=by
 obtain⟨M,hs,g⟩:=h
 subst hd
 exact⟨M,_,g.pick (fun i=>k+i) (fun i hi=>by rw [gR] at hi;omega) (fun i _=>by rw [eH]) (fun i j _ _ h=>by omega)⟩
theorem Holds.pick (h:Holds E w V) (m:Nat) (idx:List Nat) {Γ0 new:List HP} (hd:V.drop m=Γ0) (hg:idx.map (fun i=>V[i]?)=new.map some)
  (hn:idx.Nodup) (hm: ∀i∈idx,i<m):Holds E w (new++Γ0):=by
 obtain⟨M,hs,g⟩:=h
 have hlen:idx.length=new.length:=by have:=congrArg List.length hg;simpa using this
 have hat: ∀i,i<idx.length->V[idx.getD i 0]? =new[i]? :=fun i hi=>by
  have:=congrArg (·[i]?) hg
  simp [fP,aJ hi,aJ (hlen▸hi)] at this
  simp [List.getD_eq_getElem?_getD,aJ hi,this,aJ (hlen▸hi)]
 have hm': ∀i,i<idx.length->idx.getD i 0<m:=fun i hi=>by
  rw [List.getD_eq_getElem?_getD,aJ hi];exact hm _ (cP hi)
 subst hd
 have hget: ∀i,i< (new++V.drop m).length->(new++V.drop m)[i]? =V[if i<idx.length then idx.getD i 0 else m+ (i - idx.length)]? :=by
  intro i hi
  by_cases e:i<idx.length
  ·rw [aC e,hat i e,fO (hlen▸e)]
  ·rw [aD e,fz (by omega),eH,hlen]
 refine⟨M,_,g.pick (fun i=>if i<idx.length then idx.getD i 0 else m+ (i - idx.length)) (fun i hi=>?_) hget (fun i j hi hj hne=>?_)⟩
 ·have:=hget i hi
  rw [aJ hi] at this
  exact cK this.symm
 ·show (if i<idx.length then idx.getD i 0 else m+ (i - idx.length))≠(if j<idx.length then idx.getD j 0 else m+ (j - idx.length))
  by_cases e:i<idx.length
  ·by_cases e':j<idx.length
   ·rw [aC e,aC e']
    intro h
    rw [List.getD_eq_getElem?_getD,aJ e,List.getD_eq_getElem?_getD,aJ e'] at h
    exact hne ((List.getElem_inj hn).1 (by simpa using h))
   ·rw [aC e,aD e'];have:=hm' i e;omega
  ·by_cases e':j<idx.length
   ·rw [aD e,aC e'];have:=hm' j e';omega
   ·rw [aD e,aD e'];omega
theorem Holds.back (h:Holds E w (P::V)) (hi:i<V.length):Holds E w (V.set i P):=by
 obtain⟨M,hs,g⟩:=h
 have hlen: (V.set i P).length=V.length:=gT
 refine⟨M,_,g.pick (fun j=>if j=i then 0 else j+1) (fun j hj=>?_) (fun j hj=>?_) (fun j k hj hk hne=>?_)⟩
 ·show (if j=i then 0 else j+1)<V.length+1
  split <;> omega
 ·rw [fA]
  show _= (P::V)[if j=i then 0 else j+1]?
  by_cases e:i=j
  ·subst e;simp [hi]
  ·rw [aD e,aD (fun h=>e h.symm)];rfl
 ·show (if j=i then 0 else j+1)≠(if k=i then 0 else k+1)
  split <;> split <;> omega
theorem Holds.pull (i:Nat) (h:Holds E w V) (hi:V[i]? =some P:=by exact rfl):Holds E w (P::V.set i aX):=by
 obtain⟨M,hs,g⟩:=h
 have hlt:=cK hi
 have g2:=g.update (P':=aX) hlt oE trivial rfl rfl rfl (fun b o hb=>by cases hb) (fun b o hb=>by cases hb) (fun _ _ _=>rfl)
 refine⟨M,_,g2.cons (hs i) (g.sat i P hi) (fun b o hb=>g.le i b o hlt hb) (fun b o hb=>g.dm i b o hlt hb) (fun j b o hj hb=>?_)⟩
 rw [gT] at hj
 unfold lL
 split
 ·rfl
 ·rename_i e;exact g.dj i j b o hlt hj (fun h=>e h.symm) hb
theorem Holds.world (h:Holds E w V) (h1:w'.os=w.os) (h2:w'.tape=w.tape) (h3:w'.output=w.output)
  (hk: ∀b,b<w.heap.size->w'.heap[b]? =w.heap[b]?) (h0:w.drawn<=w'.drawn:=by first | exact bM _ | exact Nat.le_succ _):Holds E w' V:=
 let ⟨M,hs,g⟩:=h
 ⟨M,hs,g.world h1 h2 h3 hk h0⟩
theorem Holds.drew (h:Holds E w V):Holds E w.drew V:=h.world rfl rfl rfl (fun _ _=>rfl)
theorem sY (w:World) (o:Obj) (b:Nat) (h:b<w.heap.size): (w.alloc o).heap[b]? =w.heap[b]? :=by
 show (w.heap.push o)[b]? =w.heap[b]?
 rw [Array.getElem?_push,aD (Nat.ne_of_lt h)]
theorem Holds.alloc (h:Holds E w V) (o:Obj) (hp: ∀M hs,Good E w M hs V->P.ok M (one w.heap.size o)):Holds E (w.alloc o) (P::V):=by
 obtain⟨M,hs,g⟩:=h
 have lt: ∀b o,w.heap[b]? =some o->b<w.heap.size:=fun b o h=>(Array.getElem?_eq_some_iff.1 h).1
 refine⟨M,_,(g.world (w':=w.alloc o) rfl rfl rfl (fun b hb=>sY w o b hb)).cons (one w.heap.size o) (hp M hs g) (fun b o' hb=>?_) (fun b o' hb=>?_) (fun j b o' hj hb=>?_)⟩
 ·obtain⟨rfl,rfl⟩:=jF hb;exact heap_alloc_new w o
 ·obtain⟨rfl,rfl⟩:=jF hb
  cases e:M w.heap.size with
  | none=>rfl
  | some o'=>exact absurd (lt _ o' (g.im _ o' e)) (by omega)
 ·obtain⟨rfl,rfl⟩:=jF hb
  cases e:hs j w.heap.size with
  | none=>rfl
  | some o'=>exact absurd (lt _ o' (g.le j _ o' hj e)) (by omega)
theorem Holds.yF (h:Holds E w V) (hp: ∀M hs,Good E w M hs V->P.ok M oE):Holds E w (P::V):=
 let ⟨M,hs,g⟩:=h
 ⟨M,_,g.fX (hp M hs g)⟩
end
end Go.Gk
namespace Go.Gk
open Go
structure dA where
 cR:List UInt8
 deriving DecidableEq,Inhabited
class GT (α:Type) where
 sz:Nat
 agg:Bool
 ok:dJ->List Value->α->Prop
 pos:0<sz
 ag1:agg=false->sz=1
 len: ∀{M:dJ} {cs:List Value} {x:α},ok M cs x->cs.length=sz
 one: ∀{M:dJ} {cs:List Value} {x:α},ok M cs x->∀u∈cs,u.oneCell'=true
 mono: ∀{M M':dJ} {cs:List Value} {x:α},hle M M'->ok M cs x->ok M' cs x
class Sc (α:Type) where
 toV:α->Value
 one: ∀x,(toV x).oneCell'=true
instance instGTSc {α:Type} [Sc α]:GT α where
 sz:=1
 agg:=false
 ok:=fun _ cs x=>cs= [Sc.toV x]
 pos:=by decide
 ag1:=fun _=>rfl
 len:=fun h=>by rw [h];rfl
 one:=fun h u hu=>by rw [h] at hu;simp at hu;subst hu;exact Sc.one _
 mono:=fun _ h=>h
@[reducible] def str (s:dA):Value:= .string ⟨s.cR.toArray⟩
instance:Sc Int:=⟨fun n=> .int .i64 n,fun _=>rfl⟩
instance:Sc Bool:=⟨fun b=> .bool b,fun _=>rfl⟩
instance:Sc dA:=⟨str,fun _=>rfl⟩
instance:Sc UInt8:=⟨fun b=> .int .u8 b.toNat,fun _=>rfl⟩
def tY (M:dJ) (a:Addr):Option Value:=
 match M a.block with
 | some (.cells c _ _)=>if a.spot.isSome then none else c[a.off]?
 | _=>none
def At (M:dJ) (a:Addr) (cs:List Value):Prop:=∀j u,cs[j]? =some u->tY M (a.add j)=some u
theorem oN {M:dJ} {w:World} (h: ∀b o,M b=some o->w.heap[b]? =some o) {a:Addr} {v:Value} (hc:tY M a=some v):w.cell? a=some v:=by
 unfold tY at hc
 unfold World.cell?
 split at hc
 ·rename_i c _ _ e;rw [h _ _ e];exact hc
 ·cases hc
theorem Cu {M M':dJ} (h:hle M M') {a:Addr} {v:Value} (hc:tY M a=some v):tY M' a=some v:=by
 unfold tY at hc ⊢
 split at hc
 ·rename_i c _ _ e;rw [h _ _ e];exact hc
 ·cases hc
theorem At.mono {M M':dJ} (h:hle M M') {a:Addr} {cs:List Value} (hc:At M a cs):At M' a cs:=fun j u hu=>Cu h (hc j u hu)
theorem add_add (a:Addr) (i j:Nat): (a.add i).add j=a.add (i+j):=by
 unfold Addr.add
 by_cases hi:i=0 <;> by_cases hj:j=0 <;> simp [hi,hj,Nat.add_assoc]
theorem At.sub {M:dJ} {a:Addr} {cs:List Value} (h:At M a cs) (k n:Nat):At M (a.add k) ((cs.drop k).take n):=by
 intro j u hu
 rw [add_add]
 refine h (k+j) u ?_
 rw [dM] at hu
 split at hu
 ·rw [eH] at hu;exact hu
 ·cases hu
section
variable {α β:Type} [GT α] [GT β] {M M':dJ} {v:Value} {cs:List Value}
variable {x:α} {l:List α}
def qX (α:Type) [GT α] (cs:List Value):Value:=if GT.agg α then .agg cs.toArray else cs.headD undef
def ti (M:dJ) (v:Value) (x:α):Prop:=∃cs,v=qX α cs/\GT.ok M cs x
theorem ti.mono (h:hle M M') (hr:ti M v x):ti M' v x:=let ⟨cs,e,ho⟩:=hr;⟨cs,e,GT.mono h ho⟩
theorem D1 (ho:GT.ok M cs x): (qX α cs).cells.toList=cs:=by
 unfold qX
 have hl:=GT.len ho
 cases e:GT.agg α with
 | true=>simp [Value.cells]
 | false=>
  rw [GT.ag1 e] at hl
  match cs,hl,GT.one ho with
  | [c],_,h1=>
   have:=h1 c (by simp)
   cases c <;> simp [Value.cells,Value.oneCell'] at this ⊢
theorem ti.cells (hr:ti M v x):GT.ok M v.cells.toList x:=by
 obtain⟨cs,rfl,ho⟩:=hr
 rw [D1 ho];exact ho
theorem zW {γ:Type} [Sc γ] {y:γ}:ti M v y↔v=Sc.toV y:=by
 constructor
 ·rintro⟨cs,rfl,ho⟩
  have:cs= [Sc.toV y]:=ho
  subst this;rfl
 ·rintro rfl;exact⟨[Sc.toV y],rfl,rfl⟩
def l8 (M:dJ) (v:Value) (l:List α):Prop:=
 ∃a n cap,v = .slice a n cap/\n=l.length/\n<=cap/\cap<=maxLen/\
  ∀i x,l[i]? =some x->∃ad cs,a=some ad/\GT.ok M cs x/\At M (ad.add (i*GT.sz α)) cs
theorem l8.mono (h:hle M M') (hs:l8 M v l):l8 M' v l:=by
 obtain⟨a,n,cap,hv,hn,hc,hm,hi⟩:=hs
 exact⟨a,n,cap,hv,hn,hc,hm,fun i x hx=>let ⟨ad,cs,e,ho,ha⟩:=hi i x hx;⟨ad,cs,e,GT.mono h ho,ha.mono h⟩⟩
instance instGTList:GT (List α) where
 sz:=1
 agg:=false
 ok:=fun M cs l=>∃v,cs= [v]/\l8 M v l
 pos:=by decide
 ag1:=fun _=>rfl
 len:=fun⟨v,h,_⟩=>by rw [h];rfl
 one:=fun⟨v,h,⟨a,n,cap,hv,_⟩⟩ u hu=>by rw [h] at hu;simp at hu;subst hu;rw [hv];rfl
 mono:=fun h ⟨v,e,hs⟩=>⟨v,e,hs.mono h⟩
theorem j7:ti M v l↔l8 M v l:=by
 constructor
 ·rintro⟨cs,rfl,v,rfl,hs⟩;exact hs
 ·intro h;exact⟨[v],rfl,v,rfl,h⟩
instance instGTProd:GT (α×β) where
 sz:=GT.sz α+GT.sz β
 agg:=true
 ok:=fun M cs x=>∃c d,cs=c++d/\GT.ok M c x.1/\GT.ok M d x.2
 pos:=by have:=GT.pos (α:=α);omega
 ag1:=fun h=>by cases h
 len:=fun⟨c,d,e,h1,h2⟩=>by rw [e,dR,GT.len h1,GT.len h2]
 one:=fun⟨c,d,e,h1,h2⟩ u hu=>by
  rw [e,cS] at hu
  rcases hu with hu | hu
  ·exact GT.one h1 u hu
  ·exact GT.one h2 u hu
 mono:=fun h ⟨c,d,e,h1,h2⟩=>⟨c,d,e,GT.mono h h1,GT.mono h h2⟩
@[reducible] def GT.via {γ:Type} (f:γ->α):GT γ where
 sz:=GT.sz α
 agg:=true
 ok:=fun M cs x=>GT.ok M cs (f x)
 pos:=GT.pos
 ag1:=fun h=>by cases h
 len:=fun h=>GT.len h
 one:=fun h=>GT.one h
 mono:=fun h k=>GT.mono h k
def Fd (k:Nat) (f:α->β):Prop:=∀(M:dJ) (cs:List Value) (x:α),GT.ok M cs x->GT.ok M ((cs.drop k).take (GT.sz β)) (f x)
theorem Fd.self:Fd 0 (fun x:α=>x):=fun M cs x h=>by
 rw [List.drop_zero,oM (by rw [GT.len h];exact bM _)];exact h
theorem Fd.fst {γ:Type} [GT γ] {k:Nat} {f:α->γ} (h:Fd k f) (hk:k+GT.sz γ<=GT.sz α:=by decide):Fd k (fun x:α×β=>f x.1):=by
 rintro M cs x ⟨c,d,rfl,h1,h2⟩
 have hl:=GT.len h1
 rw [List.drop_append_of_le_length (by omega),List.take_append_of_le_length (by rw [gR];omega)]
 exact h M c x.1 h1
theorem Fd.snd {γ:Type} [GT γ] {k k':Nat} {f:β->γ} (h:Fd k f) (hk:k'=GT.sz α+k:=by exact rfl):Fd k' (fun x:α×β=>f x.2):=by
 rintro M cs x ⟨c,d,rfl,h1,h2⟩
 subst hk
 rw [<-GT.len h1,List.drop_length_add_append]
 exact h M d x.2 h2
def Fs (k:Nat) (β:Type) [GT β] (f:α->β->α):Prop:=
 ∀(M:dJ) (cs ds:List Value) (x:α) (y:β),GT.ok M cs x->GT.ok M ds y->GT.ok M (cs.take k++ds++cs.drop (k+GT.sz β)) (f x y)
theorem Fs.self:Fs 0 α (fun _ y:α=>y):=fun M cs ds x y h1 h2=>by
 rw [List.take_zero,List.nil_append,List.drop_eq_nil_of_le (by rw [GT.len h1];omega),kl];exact h2
theorem Fs.fst {γ:Type} [GT γ] {k:Nat} {f:α->γ->α} (h:Fs k γ f) (hk:k+GT.sz γ<=GT.sz α:=by decide):Fs k γ (fun(x:α×β) y=>(f x.1 y,x.2)):=by
 rintro M cs ds x y ⟨c,d,rfl,h1,h2⟩ hy
 have hl:=GT.len h1
 refine⟨c.take k++ds++c.drop (k+GT.sz γ),d,?_,h M c ds x.1 y h1 hy,h2⟩
 rw [List.take_append_of_le_length (by omega),List.drop_append_of_le_length (by omega)]
 simp only [jg]
theorem Fs.snd {γ:Type} [GT γ] {k k':Nat} {f:β->γ->β} (h:Fs k γ f) (hk:k'=GT.sz α+k:=by exact rfl):Fs k' γ (fun(x:α×β) y=>(x.1,f x.2 y)):=by
 rintro M cs ds x y ⟨c,d,rfl,h1,h2⟩ hy
 subst hk
 refine⟨c,d.take k++ds++d.drop (k+GT.sz γ),?_,h1,h M d ds x.2 y h2 hy⟩
 rw [<-GT.len h1,List.take_length_add_append,Nat.add_assoc,List.drop_length_add_append]
 simp only [jg]
end
section
variable {α β:Type} [GT α] [GT β]
def rd (v:Value) (x:α):HP:=⟨fun M h=>ti M v x/\h=oE,fun k ⟨a,b⟩=>⟨a.mono k,b⟩⟩
def MH (M:dJ) (v:Value) (x:α):Prop:=∃ad cs,v = .pointer (some ad)/\GT.ok M cs x/\At M ad cs
def pt (v:Value) (x:α):HP:=⟨fun M h=>MH M v x/\h=oE,fun k ⟨⟨ad,cs,e,ho,ha⟩,b⟩=>⟨⟨ad,cs,e,GT.mono k ho,ha.mono k⟩,b⟩⟩
def bx (e:TypeId) (g:Nat) (x:α):HP:=⟨fun M h=>∃cs,GT.ok M cs x/\h=Gk.one g (.cells cs.toArray e (0,0)),fun k ⟨cs,ho,hh⟩=>⟨cs,GT.mono k ho,hh⟩⟩
def Cells (M:dJ) (xs:List Value) (l:List α):Prop:=
 xs.length=l.length*GT.sz α/\∀i x,l[i]? =some x->GT.ok M ((xs.drop (i*GT.sz α)).take (GT.sz α)) x
theorem Cells.mono {M M':dJ} (h:hle M M') {xs:List Value} {l:List α} (hc:Cells M xs l):Cells M' xs l:=⟨hc.1,fun i x hx=>GT.mono h (hc.2 i x hx)⟩
def tj (e:TypeId) (M h:dJ) (v:Value) (l:List α):Prop:=
 (v = .slice none 0 0/\l= []/\h=oE)\/
 ∃g o cap cur xs,v = .slice (some ⟨g,o,none⟩) l.length cap/\l.length<=cap/\cap<=maxLen/\h=Gk.one g (.cells cur e (0,0))/\
  o+cap*GT.sz α<=cur.size/\(cur.toList.drop o).take (l.length*GT.sz α)=xs/\Cells M xs l
def own (e:TypeId) (v:Value) (l:List α):HP:=⟨fun M h=>tj e M h v l,fun{M M' h} k hh=>by
 rcases hh with hh | ⟨g,o,cap,cur,xs,h1,h2,h3,h4,h5,h6,h7⟩
 ·exact .inl hh
 ·exact .inr ⟨g,o,cap,cur,xs,h1,h2,h3,h4,h5,h6,h7.mono k⟩⟩
end
def eL (U:Nat->Value) (d:Nat) (v:Value):Nat->Value:=fun t=>bif Nat.beq t d then v else U t
def ev (U:Nat->Value):Operand->Value
 | .tmp t=>U t
 | .const v=>v
 | .global g=> .pointer (some ⟨g,0,none⟩)
 | .func f=> .func (.func f) #[] #[]
structure Sl (n:Nat) (U:Nat->Value) (a:Act):Prop where
 defers:a.defers= []
 size:a.tmps.size=n
 get: ∀t,a.tmps.getD t undef=U t
theorem Sl.ev {n:Nat} {U:Nat->Value} {a:Act} (h:Sl n U a):a.eval=ev U:=by
 funext x
 cases x with
 | tmp t=>exact h.get t
 | const v=>rfl
 | global g=>rfl
 | func f=>rfl
theorem Sl.put {n:Nat} {U:Nat->Value} {a:Act} (h:Sl n U a) {d:Nat} (hd:Nat.blt d n=true) (v:Value):Sl n (eL U d v) (a.put (some d) v) where
 defers:=h.defers
 size:=by simp [Act.put,h.size]
 get:=fun t=>by
  have hd':d<a.tmps.size:=by rw [h.size];exact Nat.blt_eq▸hd
  unfold eL
  by_cases e:t=d
  ·subst e
   simp [Act.put,hd']
  ·have hb:Nat.beq t d=false:=by
    cases hx:Nat.beq t d with
    | false=>rfl
    | true=>exact absurd (eC hx) e
   rw [hb]
   simp only [aS,<-h.get t,Act.put,Array.getD_eq_getD_getElem?]
   rw [Array.getElem?_setIfInBounds_ne (fun h=>e h.symm)]
theorem Sl.xf {n:Nat} {U:Nat->Value} {a:Act} (h:Sl n U a) (v:Value):Sl n U (a.put none v):=h
abbrev gq:=Exit->(Nat->Value)->World->Prop
def Lf (n:Nat) (Q:gq):Exit->Act->World->Prop:=fun ex a w=>∃U,Sl n U a/\Q ex U w
def RL (P:Program) (n:Nat) (ops:Array Oper) (rest:List Oper) (U:Nat->Value) (w:World) (Q:gq):Prop:=
 ∀a,Sl n U a->wpList P ops (Lf n Q) rest a w
def RC (P:Program) (n:Nat) (c:Code) (U:Nat->Value) (w:World) (Q:gq):Prop:=∀a,Sl n U a->c.wp P (Lf n Q) a w
def mx (P:Program) (n:Nat) (y:Code) (Q:gq):gq
 | .normal,U,w=>RC P n y U w Q
 | e,U,w=>Q e U w
def vv (id:Nat) (Q:gq):gq
 | .exit i,U,w=>if i=id then Q .normal U w else Q (.exit i) U w
 | e,U,w=>Q e U w
section
variable {P:Program} {n:Nat} {U:Nat->Value} {w:World} {Q Q':gq} {x y c:Code} {id:Nat}
theorem RC.mono (h:RC P n c U w Q) (hq: ∀e U w,Q e U w->Q' e U w):RC P n c U w Q':=
 fun a ha=>wp_mono (h a ha) fun e _ w ⟨U,hs,q⟩=>⟨U,hs,hq e U w q⟩
theorem RC.seq (h:RC P n x U w (mx P n y Q)):RC P n (.seq x y) U w Q:=fun a ha=>
 wp_seq (wp_mono (h a ha) fun e a w ⟨U,hs,q⟩=>by
  cases e with
  | normal=>exact q a hs
  | _=>exact⟨U,hs,q⟩)
theorem RC.block (h:RC P n x U w (vv id Q)):RC P n (.block id x) U w Q:=fun a ha=>
 wp_block (wp_mono (h a ha) fun e a w ⟨U,hs,q⟩=>by
  cases e with
  | exit i=>
   simp only [vv] at q
   simp only [Exit.inBlock]
   split at q
   ·rename_i e;subst e;simp;exact⟨U,hs,q⟩
   ·rename_i e;simp [e];exact⟨U,hs,q⟩
  | _=>exact⟨U,hs,q⟩)
theorem RC.skip (h:Q .normal U w):RC P n .skip U w Q:=fun _ ha=>wp_skip ⟨U,ha,h⟩
theorem RC.ret (h:Q .ret U w):RC P n .ret U w Q:=fun _ ha=>wp_ret ⟨U,ha,h⟩
theorem RC.exit {i:Nat} (h:Q (.exit i) U w):RC P n (.exit i) U w Q:=fun _ ha=>wp_exit ⟨U,ha,h⟩
theorem RC.cond {q:Operand} {b:Bool} (hc:ev U q = .bool b) (ht:b=true->RC P n x U w Q) (hf:b=false->RC P n y U w Q):RC P n (.cond q x y) U w Q:=
 fun a ha=>wp_cond_split (t:=b) (by rw [ha.ev];exact hc) (fun h=>ht h a ha) (fun h=>hf h a ha)
theorem RC.region {l:List Oper} (h:RL P n l.toArray l U w Q):RC P n (.region id l.toArray false) U w Q:=fun a ha=>wp_region_lit (h a ha)
theorem RL.nil {ops:Array Oper} (h:Q .normal U w):RL P n ops [] U w Q:=fun _ ha=>⟨U,ha,h⟩
theorem aG (h:RC P n y U w Q):mx P n y Q .normal U w:=h
theorem bK (h:Q .normal U w):vv id Q .normal U w:=h
theorem E1 (h:Q .normal U w):vv id Q (.exit id) U w:=by simp only [vv,if_true];exact h
def l5 (P:Program) (n:Nat) (fn:Func) (R:Value->World->Prop):gq
 | .normal,U,w | .ret,U,w=>∃v,(∀a,Sl n U a->(results fn a.tmps).run P w = .ok v w)/\R v w
 | _,_,_=>False
def gI (R:Value->World->Prop):Ending->World->Prop:=fun e w=>∃v,e = .returned v/\R v w
def Jh (l:List Value) (t:Nat):Value:=l.getD t undef
theorem enter {f:FuncId} {fn:Func} {args:List Value} {R:Value->World->Prop} (hf:P.funcs[f]? =some fn) (hb:fn.body=some c) (hn:fn.ntmps=n) (h:RC P n c (Jh args) w (l5 P n fn R)) (hk:args.length<=n:=by exact(Nat.le_of_ble_eq_true rfl)):Calls P f args.toArray w (gI R):=by
 refine calls_of_wp hf hb (wp_mono (h _ ⟨rfl,?_,fun t=>?_⟩) fun e a w ⟨U,hs,q⟩=>?_)
 ·simp [hn];omega
 ·simp only [Jh,Array.getD_eq_getD_getElem?,List.getD_eq_getElem?_getD]
  by_cases ht:t<args.length
  ·rw [Array.getElem?_append_left (by simpa using ht)];simp
  ·rw [Array.getElem?_append_right (by simpa using ht)]
   simp only [List.getElem?_eq_none (Nat.le_of_not_lt ht),Array.getElem?_replicate]
   split <;> rfl
 ·cases e with
  | normal=>obtain⟨v,hv,hR⟩:=q;exact⟨hs.defers,v,hv a hs,v,rfl,hR⟩
  | ret=>obtain⟨v,hv,hR⟩:=q;exact⟨hs.defers,v,hv a hs,v,rfl,hR⟩
  | _=>exact q.elim
theorem cL {fn:Func} {R:Value->World->Prop} {t:Nat} {v:Value} (h:R v w) (hr:fn.results = #[.tmp t]:=by exact rfl) (hv:U t=v:=by exact rfl):l5 P n fn R .ret U w:=
 ⟨v,fun a ha=>by rw [results_tmp hr,ha.get,hv],h⟩
theorem i5 {fn:Func} {R:Value->World->Prop} {t u:Nat} {v v':Value} (h:R (.tuple #[v,v']) w) (hr:fn.results = #[.tmp t, .tmp u]:=by exact rfl) (hv:U t=v:=by exact rfl) (hv':U u=v':=by exact rfl):l5 P n fn R .ret U w:=
 ⟨_,fun a ha=>by rw [results_tmp2 hr,ha.get,ha.get,hv,hv'],h⟩
theorem G0 {fn:Func} {R:Value->World->Prop} {t u s:Nat} {v v' v'':Value} (hr:fn.results = #[.tmp t, .tmp u, .tmp s]) (hv:U t=v) (hv':U u=v') (hv'':U s=v'')
  (h:R (.tuple #[v,v',v'']) w):l5 P n fn R .ret U w:=
 ⟨_,fun a ha=>by simp [results,hr,ha.get,hv,hv',hv''],h⟩
theorem E2 {fn:Func} {R:Value->World->Prop} (h:R (.tuple #[]) w) (hr:fn.results = #[]:=by exact rfl):l5 P n fn R .ret U w:=
 ⟨_,fun a _=>by rw [results_none hr],h⟩
theorem y8 {fn:Func} {R:Value->World->Prop} (h:l5 P n fn R .ret U w):l5 P n fn R .normal U w:=h
def Wn (ops:Array Oper) (U:Nat->Value):Option (Nat×Bool)->Prop
 | none=>True
 | some (j,b)=>∃t,(ops[j]?).bind (·.dst)=some t/\U t = .bool b
theorem Wn.wanted {ops:Array Oper} {o:Oper} {a:Act} (h:Wn ops U o.guard) (ha:Sl n U a):Region.wanted o (yielded ops a.tmps)=true:=by
 unfold Region.wanted
 cases e:o.guard with
 | none=>rfl
 | some jb=>
  obtain⟨j,b⟩:=jb
  rw [e] at h
  obtain⟨t,ht,hb⟩:=h
  have hg:=ha.get t
  rw [hb,Array.getD_eq_getD_getElem?] at hg
  have:a.tmps[t]? =some (.bool b):=by
   cases hx:a.tmps[t]? with
   | none=>rw [hx] at hg;cases hg
   | some v=>rw [hx] at hg;simp at hg;rw [hg]
  simp [yielded,ht,this]
variable {ops:Array Oper} {rest:List Oper} {d:Nat} {ty:TypeId} {pos:String} {af:Array Edge} {g:Option (Nat×Bool)} {w':World} {v:Value} {op:Op}
theorem RL.val (hg:Wn ops U g) (hd:Nat.blt d n=true) (hrun: (execOp (ev U) ⟨some d,op,ty,pos,af,g⟩).run P w = .ok (.value v) w')
  (k:RL P n ops rest (eL U d v) w' Q):RL P n ops (⟨some d,op,ty,pos,af,g⟩::rest) U w Q:=by
 intro a ha
 unfold wpList
 rw [aC (Wn.wanted (o:=⟨some d,op,ty,pos,af,g⟩) hg ha)]
 refine .inl ?_
 unfold Oper.wp
 rw [ha.ev,hrun]
 exact k _ (ha.put hd v)
theorem RL.unit (hg:Wn ops U g) (hrun: (execOp (ev U) ⟨none,op,ty,pos,af,g⟩).run P w = .ok .skip w')
  (k:RL P n ops rest U w' Q):RL P n ops (⟨none,op,ty,pos,af,g⟩::rest) U w Q:=by
 intro a ha
 unfold wpList
 rw [aC (Wn.wanted (o:=⟨none,op,ty,pos,af,g⟩) hg ha)]
 refine .inl ?_
 unfold Oper.wp
 rw [ha.ev,hrun]
 exact k _ (ha.xf _)
theorem RL.skip {j t:Nat} {b:Bool} (ht: (ops[j]?).bind (·.dst)=some t) (hv:U t = .bool (!b)\/U t=undef) (hd:Nat.blt d n=true)
  (k:RL P n ops rest (eL U d undef) w Q):RL P n ops (⟨some d,op,ty,pos,af,some (j,b)⟩::rest) U w Q:=by
 intro a ha
 have hno:Region.wanted ⟨some d,op,ty,pos,af,some (j,b)⟩ (yielded ops a.tmps)=false:=by
  have hg:=ha.get t
  rw [Array.getD_eq_getD_getElem?] at hg
  simp only [Region.wanted,yielded,ht,Option.bind_some]
  cases hx:a.tmps[t]? with
  | none=>rfl
  | some u=>
   rw [hx] at hg
   simp at hg
   subst hg
   rcases hv with h | h <;> rw [h]
   ·cases b <;> rfl
   ·rfl
 unfold wpList
 rw [aD (by rw [hno];decide)]
 exact k _ (ha.put hd _)
theorem RL.enters {f:FuncId} {args:Array Value} (hg:Wn ops U g) (hd:Nat.blt d n=true)
  (hrun: (execOp (ev U) ⟨some d,op,ty,pos,af,g⟩).run P w = .ok (.enter f args) w)
  (k:Calls P f args w (gI fun v w'=>RL P n ops rest (eL U d v) w' Q)):RL P n ops (⟨some d,op,ty,pos,af,g⟩::rest) U w Q:=by
 intro a ha
 unfold wpList
 rw [aC (Wn.wanted (o:=⟨some d,op,ty,pos,af,g⟩) hg ha)]
 refine .inl ?_
 unfold Oper.wp
 rw [ha.ev,hrun]
 refine Calls.mono k fun e w'' he=>?_
 obtain⟨v,rfl,h⟩:=he
 exact h _ (ha.put hd v)
theorem zX {f:FuncId} {fn:Func} {args:Array Value} (hf:P.funcs[f]? =some fn) (hnm: (fn.name== "runtime.NumGoroutine")=false) (hb:fn.body.isNone=false):
  (callFunc f args).run P w = .ok (.enter f args) w:=by
 unfold callFunc program
 simp only [Bind.bind,Sem.bind,Sem.run,hf]
 rw [aD (by rw [hnm];decide),aD (by rw [hb];decide)]
 rfl
structure g8 (P:Program) (f:FuncId):Prop where
 run: ∀(args:Array Value) (w:World),(callFunc f args).run P w = .ok (.enter f args) w
theorem RL.call {f:FuncId} {args:Array Operand} {ts:Array TypeId} (hg:Wn ops U g) (hd:Nat.blt d n=true) (hf:g8 P f) (vs:List Value)
  (hvs:args.toList.map (ev U)=vs) (k:Calls P f vs.toArray w (gI fun v w'=>RL P n ops rest (eL U d v) w' Q)):
  RL P n ops (⟨some d, .call ⟨.value (.func f),args,ts⟩,ty,pos,af,g⟩::rest) U w Q:=by
 have e:args.map (ev U)=vs.toArray:=by rw [<-hvs];cases args;simp
 refine RL.enters (f:=f) (args:=vs.toArray) hg hd ?_ k
 simp only [execOp,resolve,aO]
 simp only [ev,Deferred.ofValue,e,aW,aU,invoke]
 simpa using hf.run vs.toArray w
theorem RL.oO {q:Operand} {f:FuncId} {args:Array Operand} {ts:Array TypeId} (cap:List Value) (hf:g8 P f) (vs:List Value) (k:Calls P f (vs++cap).toArray w (gI fun v w'=>RL P n ops rest (eL U d v) w' Q)) (hg:Wn ops U g:=by exact trivial) (hd:Nat.blt d n=true:=by exact rfl) (hq:ev U q = .func (.func f) #[] cap.toArray:=by exact rfl) (hvs:args.toList.map (ev U)=vs:=by exact rfl):
  RL P n ops (⟨some d, .call ⟨.value q,args,ts⟩,ty,pos,af,g⟩::rest) U w Q:=by
 have e:args.map (ev U)=vs.toArray:=by rw [<-hvs];cases args;simp
 refine RL.enters (f:=f) (args:=(vs++cap).toArray) hg hd ?_ k
 simp only [execOp,resolve,aO]
 simp only [hq,Deferred.ofValue,e,aW,aU,invoke]
 simpa using hf.run (vs++cap).toArray w
theorem aF {f:FuncId} {args:Array Value} {R R':Value->World->Prop} (h:Calls P f args w (gI R)) (k: ∀v w',R v w'->R' v w'):Calls P f args w (gI R'):=
 Calls.mono h fun _ w' ⟨v,e,hr⟩=>⟨v,e,k v w' hr⟩
end
end Go.Gk
namespace Go.Gk
open Go
structure ld (P:Program) (T:TypeId) (ag:Bool) (k:Nat):Prop where
 GR: ∀w,(isAgg T).run P w = .ok ag w
 sz: ∀w,(sizeOf T).run P w = .ok k w
structure l9 (P:Program) (T:TypeId) (i k:Nat):Prop where
 run: ∀a w,(Instr.fieldAt T (.pointer (some a)) i).run P w = .ok (.pointer (some (a.add k))) w
structure sI (P:Program) (T e:TypeId) (k:Nat):Prop where
 wW:P.underlying T=some (.slice e)
 sz: ∀w,(sizeOf e).run P w = .ok k w
def cv (c:Bool) (v:Value):Value:=bif c then v else undef
theorem cV {c:Bool} {v:Value} (h:c=true):cv c v=v:=by rw [h];rfl
theorem Ji {a b:Bool} (h: (a&&b)=true):a=true:=(bT _ _▸h:a=true/\b=true).1
theorem Jj {a b:Bool} (h: (a&&b)=true):b=true:=(bT _ _▸h:a=true/\b=true).2
theorem nS (c:Bool) {a b:Bool} (h:c=true): (if a=true then Value.bool true else cv (c&&(a==false)) (.bool b)) = .bool (a||b):=by
 subst h;cases a <;> rfl
theorem i6 (c:Bool) {a b:Bool} (h:c=true:=by exact rfl): (if a=true then cv (c&&(a==true)) (.bool b) else Value.bool false) = .bool (a&&b):=by
 subst h;cases a <;> rfl
@[reducible] def i7:BinOp->Int->Int->Bool
 | .eql,a,b=>a==b
 | .neq,a,b=>a != b
 | .lss,a,b=>decide (a<b)
 | .leq,a,b=>decide (a<=b)
 | .gtr,a,b=>decide (a>b)
 | .geq,a,b=>decide (a>=b)
 | _,_,_=>false
def wg:BinOp->Bool
 | .eql | .neq | .lss | .leq | .gtr | .geq=>true
 | _=>false
@[reducible] def jA:BinOp->Int->Int->Int
 | .add,a,b=>a+b
 | .sub,a,b=>a - b
 | .mul,a,b=>a*b
 | _,_,_=>0
def Im:BinOp->Bool
 | .add | .sub | .mul=>true
 | _=>false
def dA.Cv (a b:dA):Bool:=a.cR==b.cR
def dA.Io (a b:dA):Bool:=Op.bytesLess a.cR b.cR
@[reducible] def D2:BinOp->dA->dA->Bool
 | .eql,a,b=>a.Cv b
 | .neq,a,b=> !a.Cv b
 | .lss,a,b=>a.Io b
 | .leq,a,b=>a.Io b||a.Cv b
 | .gtr,a,b=> !(a.Io b||a.Cv b)
 | .geq,a,b=> !a.Io b
 | _,_,_=>false
section
variable {P:Program} {n:Nat} {U:Nat->Value} {w:World} {Q:gq} {E:World} {V:List HP}
variable {ops:Array Oper} {rest:List Oper} {d:Nat} {ty:TypeId} {pos:String} {af:Array Edge} {g:Option (Nat×Bool)} {v v' u:Value} {x y z:Operand} {T T':TypeId}
theorem RL.move (v:Value) (hg:Wn ops U g) (k:RL P n ops rest (eL U d v) w Q) (hd:Nat.blt d n=true:=by exact rfl) (hx:ev U x=v:=by exact rfl):
  RL P n ops (⟨some d, .move x,ty,pos,af,g⟩::rest) U w Q:=RL.val hg hd (by rw [<-hx];rfl) k
theorem RL.assign (hg:Wn ops U g) (hd:Nat.blt d n=true) (hx:ev U x=v) (k:RL P n ops rest (eL U d v) w Q):
  RL P n ops (⟨some d, .assign x,ty,pos,af,g⟩::rest) U w Q:=RL.val hg hd (by rw [<-hx];rfl) k
theorem RL.extract {i:Nat} {vs:Array Value} (v:Value) (k:RL P n ops rest (eL U d v) w Q) (hg:Wn ops U g:=by exact trivial) (hd:Nat.blt d n=true:=by exact rfl) (hx:ev U x = .tuple vs:=by exact rfl) (hi:vs[i]? =some v:=by exact rfl):
  RL P n ops (⟨some d, .extract x i,ty,pos,af,g⟩::rest) U w Q:=
 RL.val hg hd (by simp only [execOp,hx,Instr.extract,hi,aO,aW,aU]) k
theorem RL.pick (b:Bool) (v:Value) (hv: (if b=true then ev U y else ev U z)=v) (k:RL P n ops rest (eL U d v) w Q) (hg:Wn ops U g:=by exact trivial) (hd:Nat.blt d n=true:=by exact rfl) (hx:ev U x = .bool b:=by exact rfl):
  RL P n ops (⟨some d, .pick x y z,ty,pos,af,g⟩::rest) U w Q:=
 RL.val hg hd (by rw [<-hv];simp only [execOp,hx,asBool,aO,aW,aU]) k
theorem RL.not (b:Bool) (k:RL P n ops rest (eL U d (.bool (!b))) w Q) (hg:Wn ops U g:=by exact trivial) (hd:Nat.blt d n=true:=by exact rfl) (hx:ev U x = .bool b:=by exact rfl):
  RL P n ops (⟨some d, .unOp .not T x,ty,pos,af,g⟩::rest) U w Q:=
 RL.val hg hd (by simp only [execOp,hx,Op.unary,aO,aW,aU]) k
theorem RL.neg {a:Int} {K:IntKind} (hg:Wn ops U g) (hd:Nat.blt d n=true) (hx:ev U x = .int K a) (k:RL P n ops rest (eL U d (.int K (K.wrap (0 - a)))) w Q):
  RL P n ops (⟨some d, .unOp .neg T x,ty,pos,af,g⟩::rest) U w Q:=
 RL.val hg hd (by simp only [execOp,hx,Op.unary,Op.intArith,aO,aW,aU]) k
theorem A0 {bop:BinOp} {K:IntKind} {a b:Int} (hc:wg bop=true) (w:World): (binOp bop T (.int K a) (.int K b)).run P w = .ok (.bool (i7 bop a b)) w:=by
 cases bop <;> first | (cases hc;done) | (simp only [binOp,ne_eq,not_true,if_false,Op.intCmp,aW,i7])
theorem RL.i7 {bop:BinOp} {K:IntKind} (a b:Int) (hg:Wn ops U g) (k:RL P n ops rest (eL U d (.bool (i7 bop a b))) w Q) (hd:Nat.blt d n=true:=by exact rfl) (hx:ev U x = .int K a:=by exact rfl) (hy:ev U y = .int K b:=by exact rfl) (hc:wg bop=true:=by exact rfl):RL P n ops (⟨some d, .binOp bop T x y T',ty,pos,af,g⟩::rest) U w Q:=by
 refine RL.val hg hd ?_ k
 have e: (eqGuard bop T x y (.int K a) (.int K b)).run P w = .ok () w:=by unfold eqGuard;cases bop <;> rfl
 simp only [execOp,hx,hy,aO,e,aU,A0 hc,aW]
theorem RL.jA {bop:BinOp} {K:IntKind} (a b:Int) (k:RL P n ops rest (eL U d (.int K (K.wrap (jA bop a b)))) w Q) (hg:Wn ops U g:=by exact trivial) (hd:Nat.blt d n=true:=by exact rfl) (hx:ev U x = .int K a:=by exact rfl) (hy:ev U y = .int K b:=by exact rfl) (hc:Im bop=true:=by exact rfl):RL P n ops (⟨some d, .binOp bop T x y T',ty,pos,af,g⟩::rest) U w Q:=by
 refine RL.val hg hd ?_ k
 have e: (eqGuard bop T x y (.int K a) (.int K b)).run P w = .ok () w:=by unfold eqGuard;cases bop <;> rfl
 have e2: (binOp bop T (.int K a) (.int K b)).run P w = .ok (.int K (K.wrap (Gk.jA bop a b))) w:=by
  cases bop <;> first | (cases hc;done) | (simp only [binOp,ne_eq,not_true,if_false,Op.intArith,aW,Gk.jA])
 simp only [execOp,hx,hy,aO,e,aU,e2,aW]
theorem RL.bin {bop:BinOp} (hg:Wn ops U g) (hd:Nat.blt d n=true) (hx:ev U x=v) (hy:ev U y=v') (he: ∀w,(eqGuard bop T x y v v').run P w = .ok () w)
  (hr: ∀w,(binOp bop T v v').run P w = .ok u w) (k:RL P n ops rest (eL U d u) w Q):RL P n ops (⟨some d, .binOp bop T x y T',ty,pos,af,g⟩::rest) U w Q:=by
 refine RL.val hg hd ?_ k
 simp only [execOp,hx,hy,aO,he,aU,hr,aW]
theorem Cw (s:dA): (⟨s.cR.toArray⟩:ByteArray).toList=s.cR:=by rw [ByteArray.toList_eq]
theorem A1 {bop:BinOp} {a b:dA} (hc:wg bop=true) (w:World): (binOp bop T (str a) (str b)).run P w = .ok (.bool (D2 bop a b)) w:=by
 cases bop <;> first | (cases hc;done) | (simp only [binOp,str,Op.stringOp,Cw,aW,D2,dA.Cv,dA.Io])
theorem RL.D2 {bop:BinOp} {a b:dA} (hg:Wn ops U g) (hd:Nat.blt d n=true) (hx:ev U x=str a) (hy:ev U y=str b) (hc:wg bop=true)
  (k:RL P n ops rest (eL U d (.bool (D2 bop a b))) w Q):RL P n ops (⟨some d, .binOp bop T x y T',ty,pos,af,g⟩::rest) U w Q:=by
 refine RL.val hg hd ?_ k
 have e: (eqGuard bop T x y (str a) (str b)).run P w = .ok () w:=by unfold eqGuard;cases bop <;> rfl
 simp only [execOp,hx,hy,aO,e,aU,A1 hc,aW]
theorem RL.lens {t:TypeId} (s:dA) (ht:P.underlying t=some .string) (k:RL P n ops rest (eL U d (.int .i64 (s.cR.length:Nat))) w Q) (hg:Wn ops U g:=by exact trivial) (hd:Nat.blt d n=true:=by exact rfl) (hx:ev U x=str s:=by exact rfl):RL P n ops (⟨some d, .call ⟨.builtin .len,#[x],#[t]⟩,ty,pos,af,g⟩::rest) U w Q:=by
 refine RL.val hg hd ?_ k
 have e: (⟨s.cR.toArray⟩:ByteArray).size=s.cR.length:=rfl
 simp [execOp,resolve,hx,invoke,builtin,Builtin.len_,run_underlying ht,goInt,str,e]
theorem RL.Ip {t e:TypeId} {a:Option Addr} {m cap:Nat} (hg:Wn ops U g) (hd:Nat.blt d n=true) (hx:ev U x = .slice a m cap) (ht:P.underlying t=some (.slice e))
  (k:RL P n ops rest (eL U d (.int .i64 (m:Nat))) w Q):RL P n ops (⟨some d, .call ⟨.builtin .len,#[x],#[t]⟩,ty,pos,af,g⟩::rest) U w Q:=by
 refine RL.val hg hd ?_ k
 simp [execOp,resolve,hx,invoke,builtin,Builtin.len_,run_underlying ht,goInt]
theorem RL.idxs (s:dA) (i:Int) (c:UInt8) {K:IntKind} (hd:Nat.blt d n=true) (hx:ev U x=str s) (hy:ev U y = .int K i) (ht:P.underlying T=some .string) (hc: (if 0<=i then s.cR[i.toNat]? else none)=some c) (k:RL P n ops rest (eL U d (.int .u8 (c.toNat:Nat))) w Q) (hg:Wn ops U g:=by exact trivial):
  RL P n ops (⟨some d, .index T x y,ty,pos,af,g⟩::rest) U w Q:=by
 refine RL.val hg hd ?_ k
 have e: (if 0<=i then (⟨s.cR.toArray⟩:ByteArray)[i.toNat]? else none)=some c:=by
  rw [<-hc]
  split
  ·have: (⟨s.cR.toArray⟩:ByteArray)[i.toNat]? =s.cR.toArray[i.toNat]? :=rfl
   rw [this];simp
  ·rfl
 simp only [execOp,hx,hy,Instr.index,asIntOf,run_underlying ht,str,aO,aW,aU,e]
theorem RL.gs {j t:Nat} (c:Bool) {want:Bool} (b:Bool) {op:Op} (v:Value) (ht: (ops[j]?).bind (·.dst)=some t) (hv:U t=cv c (.bool b)) (hd:Nat.blt d n=true) (hrun: (c&&(b==want))=true->(execOp (ev U) ⟨some d,op,ty,pos,af,some (j,want)⟩).run P w = .ok (.value v) w) (k:RL P n ops rest (eL U d (cv (c&&(b==want)) v)) w Q):RL P n ops (⟨some d,op,ty,pos,af,some (j,want)⟩::rest) U w Q:=by
 cases hC: (c&&(b==want)) with
 | true=>
  rw [hC] at k
  have hb:b=want:=by have:=Jj hC;simpa using this
  exact RL.val (v:=v) ⟨t,ht,by rw [hv,cV (Ji hC),hb]⟩ hd (hrun hC) k
 | false=>
  rw [hC] at k
  refine RL.skip ht ?_ hd k
  rw [hv]
  cases c with
  | false=>exact .inr rfl
  | true=>left;cases b <;> cases want <;> first | rfl | (cases hC)
theorem dW {C:Bool} {o:Oper} (ho:o.op = .move x:=by exact rfl) (hx:C=true->ev U x=v:=by exact(fun _=>rfl)):C=true->(execOp (ev U) o).run P w = .ok (.value v) w:=
 fun h=>by rw [<-hx h];unfold execOp;rw [ho];rfl
theorem eE {C:Bool} {o:Oper} (bop:BinOp) (K:IntKind) (a b:Int) (ho:o.op = .binOp bop T x y T') (hx:C=true->ev U x = .int K a) (hy:C=true->ev U y = .int K b) (hc:wg bop=true):
  C=true->(execOp (ev U) o).run P w = .ok (.value (.bool (i7 bop a b))) w:=fun h=>by
 have e: (eqGuard bop T x y (.int K a) (.int K b)).run P w = .ok () w:=by unfold eqGuard;cases bop <;> rfl
 unfold execOp;rw [ho]
 simp only [hx h,hy h,aO,e,aU,A0 hc,aW]
theorem Iq {C:Bool} {o:Oper} {bop:BinOp} {K:IntKind} {a b:Int} (ho:o.op = .binOp bop T x y T') (hx:C=true->ev U x = .int K a) (hy:C=true->ev U y = .int K b) (hc:Im bop=true):
  C=true->(execOp (ev U) o).run P w = .ok (.value (.int K (K.wrap (jA bop a b)))) w:=fun h=>by
 have e: (eqGuard bop T x y (.int K a) (.int K b)).run P w = .ok () w:=by unfold eqGuard;cases bop <;> rfl
 have e2: (binOp bop T (.int K a) (.int K b)).run P w = .ok (.int K (K.wrap (Gk.jA bop a b))) w:=by
  cases bop <;> first | (cases hc;done) | (simp only [binOp,ne_eq,not_true,if_false,Op.intArith,aW,Gk.jA])
 unfold execOp;rw [ho]
 simp only [hx h,hy h,aO,e,aU,e2,aW]
theorem G1 {C:Bool} {o:Oper} {bop:BinOp} {a b:dA} (ho:o.op = .binOp bop T x y T') (hx:C=true->ev U x=str a) (hy:C=true->ev U y=str b) (hc:wg bop=true):
  C=true->(execOp (ev U) o).run P w = .ok (.value (.bool (D2 bop a b))) w:=fun h=>by
 have e: (eqGuard bop T x y (str a) (str b)).run P w = .ok () w:=by unfold eqGuard;cases bop <;> rfl
 unfold execOp;rw [ho]
 simp only [hx h,hy h,aO,e,aU,A1 hc,aW]
theorem Ir {C:Bool} {o:Oper} {b:Bool} (ho:o.op = .unOp .not T x) (hx:C=true->ev U x = .bool b):C=true->(execOp (ev U) o).run P w = .ok (.value (.bool (!b))) w:=fun h=>by
 unfold execOp;rw [ho]
 simp only [hx h,Op.unary,aO,aW,aU]
theorem oQ {C:Bool} {o:Oper} (b:Bool) (ho:o.op = .pick x y z) (hx:C=true->ev U x = .bool b) (hv:C=true->(if b=true then ev U y else ev U z)=v):
  C=true->(execOp (ev U) o).run P w = .ok (.value v) w:=fun h=>by
 rw [<-hv h]
 unfold execOp;rw [ho]
 simp only [hx h,asBool,aO,aW,aU]
theorem G2 {C:Bool} {o:Oper} {t:TypeId} {s:dA} (ho:o.op = .call ⟨.builtin .len,#[x],#[t]⟩) (hx:C=true->ev U x=str s) (ht:P.underlying t=some .string):
  C=true->(execOp (ev U) o).run P w = .ok (.value (.int .i64 (s.cR.length:Nat))) w:=fun h=>by
 unfold execOp;rw [ho]
 have e: (⟨s.cR.toArray⟩:ByteArray).size=s.cR.length:=rfl
 simp [resolve,hx h,invoke,builtin,Builtin.len_,run_underlying ht,goInt,str,e]
end
section
variable {α β:Type} [GT α] [GT β] {P:Program} {E w:World} {V:List HP} {i:Nat} {v:Value} {x:α}
theorem Holds.ti (h:Holds E w V) (hi:V[i]? =some (rd v x)): ∃M hs,Good E w M hs V/\Gk.ti M v x:=
 let ⟨M,hs,g⟩:=h
 ⟨M,hs,g,(g.sat i _ hi).1⟩
theorem Holds.slice {l:List α} (h:Holds E w V) (hi:V[i]? =some (rd v l)): ∃a cap,v = .slice a l.length cap:=by
 obtain⟨M,hs,g,hr⟩:=h.ti hi
 obtain⟨a,m,cap,hv,hm,_⟩:=j7.1 hr
 subst hm
 exact⟨a,cap,hv⟩
theorem Holds.dup (i:Nat) (h:Holds E w V) (hi:V[i]? =some (rd v x)):Holds E w (rd v x::V):=
 h.yF fun _ _ g=>⟨((g.sat i _ hi).1),rfl⟩
theorem Holds.sc (γ:Type) [Sc γ] (h:Holds E w V) (y:γ):Holds E w (rd (Sc.toV y) y::V):=h.yF fun _ _ _=>⟨zW.2 rfl,rfl⟩
theorem Holds.zY {γ:Type} [Sc γ] {y:γ} (h:Holds E w V) (hi:V[i]? =some (rd v y)):v=Sc.toV y:=by
 obtain⟨M,hs,g,hr⟩:=h.ti hi
 exact zW.1 hr
end
section
variable {α β:Type} [GT α] [GT β]
variable {P:Program} {n:Nat} {U:Nat->Value} {w:World} {Q:gq} {E:World} {V:List HP} {i:Nat}
variable {ops:Array Oper} {rest:List Oper} {d:Nat} {ty:TypeId} {pos:String} {af:Array Edge} {g:Option (Nat×Bool)} {v:Value} {q r:Operand} {T T' e:TypeId}
variable {x:α}
theorem kx {cs:List Value} {a:Addr} {M:dJ} (hT:ld P T (GT.agg α) (GT.sz α)) (ho:GT.ok M cs x) (hat: ∀j u,cs[j]? =some u->w.cell? (a.add j)=some u):
  (loadVar T a).run P w = .ok (qX α cs) w:=by
 have hl:=GT.len ho
 unfold loadVar qX
 simp only [aO,hT.GR,aU]
 cases e:GT.agg α with
 | true=>
  simp only [if_true,aO,hT.sz,aU,<-hl,run_loadCells_list w a cs hat,aW]
 | false=>
  rw [GT.ag1 e] at hl
  match cs,hl with
  | [c],_=>
   have:=hat 0 c rfl
   have ha:a.add 0=a:=rfl
   rw [ha] at this
   simp [load,Sem.run,this]
theorem RL.bV {p:Value} (i:Nat) (x:α) (hw:Holds E w V) (hT:ld P T (GT.agg α) (GT.sz α)) (k: ∀v,Holds E w (rd v x::V)->RL P n ops rest (eL U d v) w Q) (hg:Wn ops U g:=by exact trivial) (hd:Nat.blt d n=true:=by exact rfl) (hx:ev U q=p:=by exact rfl) (hi:V[i]? =some (pt p x):=by exact rfl):RL P n ops (⟨some d, .load T q,ty,pos,af,g⟩::rest) U w Q:=by
 obtain⟨M,hs,gd⟩:=hw
 obtain⟨⟨ad,cs,hv,ho,ha⟩,_⟩:=gd.sat i _ hi
 refine RL.val (v:=qX α cs) hg hd ?_ (k _ ⟨M,_,gd.fX ⟨⟨cs,rfl,ho⟩,rfl⟩⟩)
 simp only [execOp,hx,hv,Instr.loadAt,Instr.sureAddr,aO,aW,aU,kx hT ho (fun j u hu=>oN gd.im (ha j u hu))]
theorem RL.bI {γ:Type} [Sc γ] (y:γ) {p:Value} (i:Nat) (hw:Holds E w V) (hT:ld P T false 1) (k:RL P n ops rest (eL U d (Sc.toV y)) w Q) (hg:Wn ops U g:=by exact trivial) (hd:Nat.blt d n=true:=by exact rfl) (hx:ev U q=p:=by exact rfl) (hi:V[i]? =some (pt p y):=by exact rfl):RL P n ops (⟨some d, .load T q,ty,pos,af,g⟩::rest) U w Q:=by
 refine RL.bV (hg:=hg) (hd:=hd) (hx:=hx) (hi:=hi) _ y hw hT fun v h=>?_
 rw [h.zY (i:=0) rfl];exact k
theorem RL.iu {p:Value} {j m:Nat} {f:α->β} (i:Nat) (hw:Holds E w V) (hi:V[i]? =some (pt p x)) (hf:l9 P T j m) (hF:Fd m f) (k: ∀v,Holds E w (pt v (f x)::V)->RL P n ops rest (eL U d v) w Q) (hg:Wn ops U g:=by exact trivial) (hd:Nat.blt d n=true:=by exact rfl) (hx:ev U q=p:=by exact rfl):RL P n ops (⟨some d, .fieldAddr T q j,ty,pos,af,g⟩::rest) U w Q:=by
 obtain⟨M,hs,gd⟩:=hw
 obtain⟨⟨ad,cs,hv,ho,ha⟩,_⟩:=gd.sat i _ hi
 refine RL.val (v:= .pointer (some (ad.add m))) hg hd ?_ (k _ ⟨M,_,gd.fX ⟨⟨ad.add m,_,rfl,hF M cs x ho,ha.sub m (GT.sz β)⟩,rfl⟩⟩)
 simp only [execOp,hx,hv,aO,hf.run,aU,aW]
theorem RL.cC {l:List α} {sv:Value} {K:IntKind} {j:Int} (i:Nat) (hw:Holds E w V) (hT:sI P T e (GT.sz α)) (hj: (if 0<=j then l[j.toNat]? else none)=some x) (k: ∀v,Holds E w (pt v x::V)->RL P n ops rest (eL U d v) w Q) (hg:Wn ops U g:=by exact trivial) (hd:Nat.blt d n=true:=by exact rfl) (hx:ev U q=sv:=by exact rfl) (hy:ev U r = .int K j:=by exact rfl) (hi:V[i]? =some (rd sv l):=by exact rfl):RL P n ops (⟨some d, .indexAddr T q r,ty,pos,af,g⟩::rest) U w Q:=by
 obtain⟨M,hs,gd⟩:=hw
 obtain⟨a,m,cap,hv,hm,hc,hmx,hel⟩:=j7.1 (gd.sat i _ hi).1
 have h0:0<=j:=by
  rcases Int.lt_or_le j 0 with h | h
  ·rw [aD (by omega)] at hj;cases hj
  ·exact h
 rw [aC h0] at hj
 obtain⟨ad,cs,hae,ho,ha⟩:=hel _ _ hj
 have hlt:j<m:=by have:=(bC.1 hj).1;omega
 refine RL.val (v:= .pointer (some (ad.add (j.toNat*GT.sz α)))) hg hd ?_ (k _ ⟨M,_,gd.fX ⟨⟨_,cs,rfl,ho,ha⟩,rfl⟩⟩)
 simp only [execOp,hx,hv,hae,hy,Instr.indexAt,asIntOf,aO,aW,aU,run_underlying hT.wW,hT.sz,h0,hlt,and_self,if_true]
theorem RL.aP {b m:Nat} {f:α->β} (i:Nat) (hw:Holds E w V) (hi:V[i]? =some (bx e b x)) (hF:Fd m f) (hT:ld P T (GT.agg β) (GT.sz β)) (k: ∀v,Holds E w (rd v (f x)::V)->RL P n ops rest (eL U d v) w Q) (hg:Wn ops U g:=by exact trivial) (hd:Nat.blt d n=true:=by exact rfl) (hx:ev U q = .pointer (some ⟨b,m,none⟩):=by exact rfl):RL P n ops (⟨some d, .load T q,ty,pos,af,g⟩::rest) U w Q:=by
 obtain⟨M,hs,gd⟩:=hw
 obtain⟨cs,ho,hh⟩:=gd.sat i _ hi
 have hb:=gd.le i b _ (cK hi) (by rw [hh];exact dC b _)
 have ho':=hF M cs x ho
 refine RL.val (v:=qX β ((cs.drop m).take (GT.sz β))) hg hd ?_ (k _ ⟨M,_,gd.fX ⟨⟨_,rfl,ho'⟩,rfl⟩⟩)
 simp only [execOp,hx,Instr.loadAt,Instr.sureAddr,aO,aW,aU]
 rw [kx hT ho' (fun j u hu=>?_)]
 rfl
 rw [Addr.add_lit,cell_of_row w b _ _ _ _ hb]
 rw [dM] at hu
 split at hu
 ·rw [eH] at hu;simpa using hu
 ·cases hu
theorem RL.aM {γ:Type} [Sc γ] {b m:Nat} {f:α->γ} (i:Nat) (hw:Holds E w V) (hi:V[i]? =some (bx e b x)) (hF:Fd m f) (hT:ld P T false 1) (k:RL P n ops rest (eL U d (Sc.toV (f x))) w Q) (hg:Wn ops U g:=by exact trivial) (hd:Nat.blt d n=true:=by exact rfl) (hx:ev U q = .pointer (some ⟨b,m,none⟩):=by exact rfl):RL P n ops (⟨some d, .load T q,ty,pos,af,g⟩::rest) U w Q:=by
 refine RL.aP (hg:=hg) (hd:=hd) (hx:=hx) (f:=f) _ hw hi hF hT fun v h=>?_
 rw [h.zY (i:=0) rfl];exact k
theorem RL.aZ {b o j m:Nat} (hx:ev U q = .pointer (some ⟨b,o,none⟩)) (hf:l9 P T j m) (k:RL P n ops rest (eL U d (.pointer (some ⟨b,o+m,none⟩))) w Q) (hg:Wn ops U g:=by exact trivial) (hd:Nat.blt d n=true:=by exact rfl):RL P n ops (⟨some d, .fieldAddr T q j,ty,pos,af,g⟩::rest) U w Q:=by
 refine RL.val hg hd ?_ k
 simp only [execOp,hx,aO,hf.run,aU,aW,Addr.add_lit]
theorem RL.dB (i:Nat) (v:Value) (hw:Holds E w V) (hi:V[i]? =some (rd v x)) (k: ∀b w',Holds E w' (bx T b x::V)->RL P n ops rest (eL U d (.pointer (some ⟨b,0,none⟩))) w' Q) (hg:Wn ops U g:=by exact trivial) (hd:Nat.blt d n=true:=by exact rfl) (hx:ev U q=v:=by exact rfl):RL P n ops (⟨some d, .box T q,ty,pos,af,g⟩::rest) U w Q:=by
 obtain⟨M,hs,gd,hr⟩:=hw.ti hi
 refine RL.val (w':=w.alloc (.cells v.cells T)) hg hd ?_ (k w.heap.size _ (hw.alloc _ fun M' hs' g'=>⟨v.cells.toList,?_,by simp⟩))
 ·simp only [execOp,hx,Instr.box,newVar,newRow,newObj,aO,aW]
  rfl
 ·exact((g'.sat i _ hi).1).cells
def raw (e:TypeId) (b k:Nat):HP:=⟨fun _ h=>∃cs:List Value,cs.length=k/\h=Gk.one b (.cells cs.toArray e (0,0)),fun _ h=>h⟩
theorem RL.alloc {m:Nat} (hw:Holds E w V) (hz: ∃z,(∀w,(zeroValue T).run P w = .ok z w)/\z.cells.size=m) (k: ∀b w',Holds E w' (raw T b m::V)->RL P n ops rest (eL U d (.pointer (some ⟨b,0,none⟩))) w' Q) (hg:Wn ops U g:=by exact trivial) (hd:Nat.blt d n=true:=by exact rfl):RL P n ops (⟨some d, .alloc T,ty,pos,af,g⟩::rest) U w Q:=by
 obtain⟨z,hz,hs⟩:=hz
 refine RL.val (w':=w.alloc (.cells z.cells T)) hg hd ?_ (k w.heap.size _ (hw.alloc _ fun _ _ _=>⟨z.cells.toList,by simpa using hs,by simp⟩))
 simp only [execOp,Instr.alloc,newVar,newRow,newObj,aO,aW,hz,aU]
 rfl
theorem ma {m:Nat} {b o:Nat} {cur:Array Value} (hsz: ∀w,(sizeOf T).run P w = .ok m w) (hv:v.cells.size=m) (h1: ∀u∈v.cells.toList,u.oneCell'=true)
  (hb:w.heap[b]? =some (.cells cur e (0,0))) (ho:o+m<=cur.size):
  (storeVar T ⟨b,o,none⟩ v).run P w = .ok () (w.setRow b (cur.toList.take o++v.cells.toList++cur.toList.drop (o+m)).toArray):=by
 have:=run_storeCells_at P b o e v.cells.toList 0 cur w hb (by simpa [hv] using ho) h1
 simp only [Nat.add_zero,Array.length_toList,hv] at this
 simp only [storeVar,aO,hsz,aU,hv,ne_eq,not_true,if_false,this]
theorem ky {M:dJ} {hs:Nat->dJ} {P':HP} {b:Nat} {cur new:Array Value} {Pi:HP} (gd:Good E w M hs V) (hi:V[i]? =some Pi) (hh:hs i=Gk.one b (.cells cur e (0,0)))
  (hp:P'.ok M (Gk.one b (.cells new e (0,0)))):Holds E (w.setRow b new) (V.set i P'):=by
 have hb:=gd.le i b _ (cK hi) (by rw [hh];exact dC b _)
 refine⟨M,_,gd.update (cK hi) (Gk.one b (.cells new e (0,0))) hp rfl rfl rfl (fun b' o' hb'=>?_) (fun b' o' hb'=>?_) (fun b' hb' _=>?_)⟩
 ·obtain⟨rfl,rfl⟩:=jF hb';exact setRow_heap w _ _ new e (0,0) hb
 ·obtain⟨rfl,rfl⟩:=jF hb';exact .inl ⟨_,by rw [hh];exact dC _ _⟩
 ·rw [hh] at hb'
  exact setRow_other w b b' new (fun h=>by subst h;rw [dC] at hb';cases hb')
theorem RL.bA {m b:Nat} (i:Nat) (hw:Holds E w V) (j:Nat) (hj:V[j]? =some (rd v x)) (hT:ld P T (GT.agg α) (GT.sz α)) (k: ∀w',Holds E w' (V.set i (bx e b x))->RL P n ops rest U w' Q) (hg:Wn ops U g:=by exact trivial) (hx:ev U q = .pointer (some ⟨b,0,none⟩):=by exact rfl) (hy:ev U r=v:=by exact rfl) (hi:V[i]? =some (raw e b m):=by exact rfl) (hm:m=GT.sz α:=by exact rfl):RL P n ops (⟨none, .store T q r,ty,pos,af,g⟩::rest) U w Q:=by
 obtain⟨M,hs,gd⟩:=hw
 obtain⟨cs,hl,hh⟩:=gd.sat i _ hi
 have hr:=(gd.sat j _ hj).1
 have hb:=gd.le i b _ (cK hi) (by rw [hh];exact dC b _)
 have hc:v.cells.size=GT.sz α:=by rw [<-GT.len hr.cells];simp
 have hrun:=ma (P:=P) (v:=v) (o:=0) hT.sz hc (GT.one hr.cells) hb (by simp [hl,hm])
 refine RL.unit (w':=w.setRow b v.cells) hg ?_ (k _ (ky gd hi hh ⟨v.cells.toList,hr.cells,by simp⟩))
 have hd:List.drop (GT.sz α) cs= []:=List.drop_eq_nil_of_le (by omega)
 simp only [gj,List.take_zero,List.nil_append,hd,kl,Array.toArray_toList] at hrun
 simp only [execOp,hx,hy,Instr.storeAt,Instr.sureAddr,aO,aW,aU,hrun]
theorem RL.E3 {b:Nat} {x':α} (hg:Wn ops U g) (hw:Holds E w V) (hx:ev U q = .pointer (some ⟨b,0,none⟩)) (hy:ev U r=v) (hi:V[i]? =some (bx e b x')) {j:Nat} (hj:V[j]? =some (rd v x))
  (hT:ld P T (GT.agg α) (GT.sz α)) (k: ∀w',Holds E w' (V.set i (bx e b x))->RL P n ops rest U w' Q):RL P n ops (⟨none, .store T q r,ty,pos,af,g⟩::rest) U w Q:=by
 obtain⟨M,hs,gd⟩:=hw
 obtain⟨cs,ho',hh⟩:=gd.sat i _ hi
 have hl:=GT.len ho'
 have hr:=(gd.sat j _ hj).1
 have hb:=gd.le i b _ (cK hi) (by rw [hh];exact dC b _)
 have hc:v.cells.size=GT.sz α:=by rw [<-GT.len hr.cells];simp
 have hrun:=ma (P:=P) (v:=v) (o:=0) hT.sz hc (GT.one hr.cells) hb (by simp [hl])
 refine RL.unit (w':=w.setRow b v.cells) hg ?_ (k _ (ky gd hi hh ⟨v.cells.toList,hr.cells,by simp⟩))
 have hd:List.drop (GT.sz α) cs= []:=List.drop_eq_nil_of_le (by omega)
 simp only [gj,List.take_zero,List.nil_append,hd,kl,Array.toArray_toList] at hrun
 simp only [execOp,hx,hy,Instr.storeAt,Instr.sureAddr,aO,aW,aU,hrun]
theorem RL.tZ {b m:Nat} {y:β} {f:α->β->α} (i:Nat) (hw:Holds E w V) (hx:ev U q = .pointer (some ⟨b,m,none⟩)) (hy:ev U r=v) (hi:V[i]? =some (bx e b x)) (j:Nat) (hj:V[j]? =some (rd v y)) (hF:Fs m β f) (hT:ld P T (GT.agg β) (GT.sz β)) (k: ∀w',Holds E w' (V.set i (bx e b (f x y)))->RL P n ops rest U w' Q) (hg:Wn ops U g:=by exact trivial) (hm:m+GT.sz β<=GT.sz α:=by decide):
  RL P n ops (⟨none, .store T q r,ty,pos,af,g⟩::rest) U w Q:=by
 obtain⟨M,hs,gd⟩:=hw
 obtain⟨cs,ho',hh⟩:=gd.sat i _ hi
 have hl:=GT.len ho'
 have hr:=(gd.sat j _ hj).1
 have hb:=gd.le i b _ (cK hi) (by rw [hh];exact dC b _)
 have hc:v.cells.size=GT.sz β:=by rw [<-GT.len hr.cells];simp
 have hrun:=ma (P:=P) (v:=v) (o:=m) hT.sz hc (GT.one hr.cells) hb (by simp [hl,hm])
 refine RL.unit hg ?_ (k _ (ky (new:=(cs.take m++v.cells.toList++cs.drop (m+GT.sz β)).toArray) gd hi hh ⟨_,hF M cs v.cells.toList x y ho' hr.cells,rfl⟩))
 simp only [execOp,hx,hy,Instr.storeAt,Instr.sureAddr,aO,aW,aU,hrun]
end
end Go.Gk
namespace Go.Gk
open Go
inductive Fl (S R:Type) where
 | nx (s:S)
 | br (s:S)
 | rt (r:R)
inductive Fo (S R:Type) where
 | go (s:S)
 | rt (r:R)
section
variable {S R:Type}
def zZ (body:Nat->S->Option (Fl S R)):Nat->Nat->S->Option (Fo S R)
 | 0,_,s=>some (.go s)
 | m+1,k,s=>(body k s).bind fun
  | .nx s'=>zZ body m (k+1) s'
  | .br s'=>some (.go s')
  | .rt r=>some (.rt r)
def pX (m:Nat) (body:Nat->S->Option (Fl S R)) (s:S):Option (Fo S R):=if m<=4611686018427387904 then zZ body m 0 s else none
def Cx (body:Nat->S->Option S):Nat->Nat->S->Option S
 | 0,_,s=>some s
 | m+1,k,s=>(body k s).bind fun s'=>Cx body m (k+1) s'
def iL (m:Nat) (body:Nat->S->Option S) (s:S):Option S:=if m<=4611686018427387904 then Cx body m 0 s else none
def nD (body:S->Option (Fl S R)):Nat->S->Option (Fo S R)
 | 0,_=>none
 | N+1,s=>(body s).bind fun
  | .nx s'=>nD body N s'
  | .br s'=>some (.go s')
  | .rt r=>some (.rt r)
theorem bd {α β:Type} {o:Option α} {f:α->Option β} {r:β} (h:o.bind f=some r): ∃x,o=some x/\f x=some r:=by
 cases o with
 | none=>cases h
 | some x=>exact⟨x,rfl,h⟩
end
section
variable {S R:Type} {P:Program} {n:Nat} {U:Nat->Value} {w:World} {Q:gq} {c x y:Code} {b0:Nat}
def Lg (b0:Nat) (J:S->(Nat->Value)->World->Prop) (K:R->(Nat->Value)->World->Prop):Fo S R->gq
 | .go s=>fun ex U w=>ex = .exit b0/\J s U w
 | .rt r=>fun ex U w=>ex = .ret/\K r U w
def Lh (I:Nat->S->(Nat->Value)->World->Prop) (b0:Nat) (J:S->(Nat->Value)->World->Prop) (K:R->(Nat->Value)->World->Prop) (k:Nat):Fl S R->gq
 | .nx s=>fun ex U w=>ex = .normal/\I (k+1) s U w
 | .br s=>fun ex U w=>ex = .exit b0/\J s U w
 | .rt r=>fun ex U w=>ex = .ret/\K r U w
def Li (I:S->(Nat->Value)->World->Prop) (b0:Nat) (J:S->(Nat->Value)->World->Prop) (K:R->(Nat->Value)->World->Prop):Fl S R->gq
 | .nx s=>fun ex U w=>ex = .normal/\I s U w
 | .br s=>fun ex U w=>ex = .exit b0/\J s U w
 | .rt r=>fun ex U w=>ex = .ret/\K r U w
theorem E4 {a:Act} {Q:Exit->Act->World->Prop} (I:Nat->Act->World->Prop) {m:Nat} (h0:I m a w)
  (round: ∀m a w,I m a w->c.wp P (Exit.then (fun a' w'=>∃m',m'<m/\I m' a' w') Q) a w): (Code.loop c).wp P Q a w:=by
 intro b k cs
 have key: ∀m a w,I m a w->∃e a' w',Q e a' w'/\Arrives P (lone (b.at a (.code c:: .inLoop c::k)) cs w) b k cs e a' w':=by
  intro m
  induction m using Nat.strongRecOn with
  | _ m ih=>
   intro a w hI
   obtain⟨e,a₁,w₁,hq,harr⟩:=round m a w hI b (.inLoop c::k) cs
   cases e with
   | normal=>
    obtain⟨m',hlt,hI₁⟩:=hq
    obtain⟨e₂,a₂,w₂,hq₂,harr₂⟩:=ih m' hlt a₁ w₁ hI₁
    exact⟨e₂,a₂,w₂,hq₂, .of_steps (Steps.trans harr (.one step_inLoop)) harr₂⟩
   | exit id=>exact⟨_,a₁,w₁,hq, .pass (x:= .inLoop c) rfl (fun _ _=> .inl (by simp)) harr⟩
   | goto l=>exact⟨_,a₁,w₁,hq, .pass (x:= .inLoop c) rfl (fun _ _=> .inl (by simp)) harr⟩
   | ret=>exact⟨_,a₁,w₁,hq, .pass (x:= .inLoop c) rfl (fun _ _=> .inl (by simp)) harr⟩
   | panic ch=>exact⟨_,a₁,w₁,hq, .pass (x:= .inLoop c) rfl (fun _ _=> .inl (by simp)) harr⟩
   | outgrown=>exact⟨_,a₁,w₁,hq, .pass (x:= .inLoop c) rfl (fun _ _=> .inl (by simp)) harr⟩
 obtain⟨e,a',w',hq,harr⟩:=key _ a w h0
 exact⟨e,a',w',hq, .of_steps (.one step_loop) harr⟩
theorem RC.HR (I:Nat->(Nat->Value)->World->Prop) {m:Nat} (h0:I m U w)
  (step: ∀m U w,I m U w->RC P n c U w (fun ex σ' w'=>(ex = .normal/\∃m',m'<m/\I m' σ' w')\/(ex≠ .normal/\Q ex σ' w'))):RC P n (.loop c) U w Q:=by
 intro a ha
 refine E4 (fun m a w=>∃U,Sl n U a/\I m U w) ⟨U,ha,h0⟩ ?_
 rintro m a w ⟨U,hs,hI⟩
 refine wp_mono (step m U w hI a hs) fun e a' w' ⟨σ',hs',q⟩=>?_
 rcases q with ⟨rfl,m',hm,hI'⟩ | ⟨hne,hq⟩
 ·exact⟨m',hm,σ',hs',hI'⟩
 ·cases e with
  | normal=>exact absurd rfl hne
  | _=>exact⟨σ',hs',hq⟩
theorem RC.range (I:Nat->S->(Nat->Value)->World->Prop) (J:S->(Nat->Value)->World->Prop) (K:R->(Nat->Value)->World->Prop)
  {body:Nat->S->Option (Fl S R)} {m:Nat} {s0:S} {out:Fo S R} (hN:pX m body s0=some out) (h0:I 0 s0 U w)
  (stop:m<=4611686018427387904->∀s U w,I m s U w->RC P n c U w (Lg (R:=R) b0 J K (.go s)))
  (step:m<=4611686018427387904->∀k s fl U w,k<m->I k s U w->body k s=some fl->RC P n c U w (Lh I b0 J K k fl))
  (hrt: ∀r U w,out = .rt r->K r U w->Q .ret U w) (hgo: ∀s U w,out = .go s->J s U w->Q .normal U w):RC P n (.block b0 (.loop c)) U w Q:=by
 unfold pX at hN
 split at hN
 ·rename_i hm
  refine RC.block (RC.HR (fun j U w=>(∃k s,k+j=m+1/\k<=m/\I k s U w/\zZ body (m - k) k s=some out)) (m:=m+1) ⟨0,s0,by omega,by omega,h0,hN⟩ ?_)
  rintro j U w ⟨k,s,hk,hkm,hI,hr⟩
  by_cases e:k<m
  ·obtain⟨j',hj'⟩: ∃j',m - k=j'+1:=⟨m - k - 1,by omega⟩
   rw [hj'] at hr
   obtain⟨fl,hb,hr⟩:=bd hr
   refine RC.mono (step hm k s fl U w e hI hb) fun ex σ' w' q=>?_
   cases fl with
   | nx s'=>
    obtain⟨rfl,hI'⟩:=q
    exact .inl ⟨rfl,j - 1,by omega,k+1,s',by omega,by omega,hI',by rw [show m - (k+1)=j' by omega];exact hr⟩
   | br s'=>
    obtain⟨rfl,hJ⟩:=q
    injection hr with hr
    exact .inr ⟨by simp,by simp only [vv,if_true];exact hgo s' σ' w' hr.symm hJ⟩
   | rt r=>
    obtain⟨rfl,hK⟩:=q
    injection hr with hr
    exact .inr ⟨by simp,hrt r σ' w' hr.symm hK⟩
  ·obtain rfl:k=m:=by omega
   rw [Nat.sub_self] at hr
   injection hr with hr
   refine RC.mono (stop hm s U w hI) fun ex σ' w' q=>?_
   obtain⟨rfl,hJ⟩:=q
   exact .inr ⟨by simp,by simp only [vv,if_true];exact hgo s σ' w' hr.symm hJ⟩
 ·cases hN
theorem y9 {body:Nat->S->Option S}: ∀(m k:Nat) (s s':S),Cx body m k s=some s'->zZ (R:=Empty) (fun k s=>(body k s).map Fl.nx) m k s=some (.go s')
 | 0,_,s,s',h=>by injection h with h;subst h;rfl
 | m+1,k,s,s',h=>by
  obtain⟨s1,hb,hr⟩:=bd h
  unfold zZ
  simp only [hb,Option.map_some,Option.bind_some]
  exact y9 m (k+1) s1 s' hr
theorem RC.fold (I:Nat->S->(Nat->Value)->World->Prop) (J:S->(Nat->Value)->World->Prop)
  {body:Nat->S->Option S} {m:Nat} {s0 out:S} (hN:iL m body s0=some out) (h0:I 0 s0 U w)
  (stop:m<=4611686018427387904->∀s U w,I m s U w->RC P n c U w (fun ex U w=>ex = .exit b0/\J s U w))
  (step:m<=4611686018427387904->∀k s s' U w,k<m->I k s U w->body k s=some s'->RC P n c U w (fun ex U w=>ex = .normal/\I (k+1) s' U w))
  (hgo: ∀U w,J out U w->Q .normal U w):RC P n (.block b0 (.loop c)) U w Q:=by
 have hN':pX (R:=Empty) m (fun k s=>(body k s).map Fl.nx) s0=some (.go out):=by
  unfold iL at hN
  unfold pX
  split at hN
  ·rename_i h;rw [aC h];exact y9 _ _ _ _ hN
  ·cases hN
 refine RC.range I J (fun r _ _=>r.elim) hN' h0 (fun hm s U w hI=>stop hm s U w hI) (fun hm k s fl U w hk hI hb=>?_) (fun r _ _ _ _=>r.elim) (fun s U w e hJ=>?_)
 ·cases hx:body k s with
  | none=>rw [hx] at hb;cases hb
  | some s'=>
   rw [hx] at hb
   injection hb with hb
   subst hb
   exact step hm k s s' U w hk hI hx
 ·injection e with e
  subst e
  exact hgo U w hJ
theorem RC.iter (I:S->(Nat->Value)->World->Prop) (J:S->(Nat->Value)->World->Prop) (K:R->(Nat->Value)->World->Prop)
  {body:S->Option (Fl S R)} {N:Nat} {s0:S} {out:Fo S R} (hN:nD body N s0=some out) (h0:I s0 U w)
  (step: ∀s fl U w,I s U w->body s=some fl->RC P n c U w (Li I b0 J K fl))
  (hrt: ∀r U w,out = .rt r->K r U w->Q .ret U w) (hgo: ∀s U w,out = .go s->J s U w->Q .normal U w):RC P n (.block b0 (.loop c)) U w Q:=by
 refine RC.block (RC.HR (fun j U w=>∃s,I s U w/\nD body j s=some out) (m:=N) ⟨s0,h0,hN⟩ ?_)
 rintro j U w ⟨s,hI,hr⟩
 cases j with
 | zero=>cases hr
 | succ j=>
  obtain⟨fl,hb,hr⟩:=bd hr
  refine RC.mono (step s fl U w hI hb) fun ex σ' w' q=>?_
  cases fl with
  | nx s'=>obtain⟨rfl,hI'⟩:=q;exact .inl ⟨rfl,j,by omega,s',hI',hr⟩
  | br s'=>
   obtain⟨rfl,hJ⟩:=q
   injection hr with hr
   exact .inr ⟨by simp,by simp only [vv,if_true];exact hgo s' σ' w' hr.symm hJ⟩
  | rt r=>
   obtain⟨rfl,hK⟩:=q
   injection hr with hr
   exact .inr ⟨by simp,hrt r σ' w' hr.symm hK⟩
theorem RC.join (J:S->(Nat->Value)->World->Prop) (s:S) (hx:RC P n x U w (fun ex U w=>ex = .normal/\J s U w)) (hy: ∀U w,J s U w->RC P n y U w Q):RC P n (.seq x y) U w Q:=
 RC.seq (RC.mono hx fun ex U w ⟨e,hJ⟩=>by subst e;exact hy U w hJ)
theorem RC.my (J:S->(Nat->Value)->World->Prop) (K:R->(Nat->Value)->World->Prop) {out:Fo S R}
  (hx:RC P n x U w (match out with | .go s=>fun ex U w=>ex = .normal/\J s U w | .rt r=>fun ex U w=>ex = .ret/\K r U w))
  (hy: ∀s U w,out = .go s->J s U w->RC P n y U w Q) (hr: ∀r U w,out = .rt r->K r U w->Q .ret U w):RC P n (.seq x y) U w Q:=
 RC.seq (RC.mono hx fun ex U w q=>by
  cases out with
  | go s=>obtain⟨rfl,hJ⟩:=q;exact hy s U w rfl hJ
  | rt r=>obtain⟨rfl,hK⟩:=q;exact hr r U w rfl hK)
theorem fB {x:Int} (h1: -9223372036854775808<=x) (h2:x<9223372036854775808):IntKind.i64.wrap x=x:=by
 have e1: (2:Int) ^ (IntKind.i64.bits)=18446744073709551616:=by decide
 have e2: (2:Int) ^ (IntKind.i64.bits - 1)=9223372036854775808:=by decide
 have e3:IntKind.i64.signed=true:=by decide
 simp only [IntKind.wrap,e1,e2,e3,Bool.true_and,bP]
 split <;> omega
theorem D3 {k m:Nat} (h:k<m) (hm:m<=4611686018427387904):IntKind.i64.wrap ((k:Int)+1)= ((k+1:Nat):Int):=by
 rw [fB (by omega) (by omega)];rfl
end
end Go.Gk
namespace Go.Gk
open Go
section
variable {α β:Type} [GT α] [GT β] {M:dJ}
theorem Cells.nil:Cells M [] ([]:List α):=⟨by simp,fun i x h=>by simp at h⟩
theorem Cells.append {xs ys:List Value} {l l':List α} (h:Cells M xs l) (h':Cells M ys l'):Cells M (xs++ys) (l++l'):=by
 refine⟨by rw [dR,dR,h.1,h'.1,Nat.add_mul],fun i x hx=>?_⟩
 by_cases hi:i<l.length
 ·rw [fO hi] at hx
  have hb:i*GT.sz α+GT.sz α<=xs.length:=by
   rw [h.1]
   calc i*GT.sz α+GT.sz α= (i+1)*GT.sz α:=by rw [Nat.add_mul,Nat.one_mul]
    _<=l.length*GT.sz α:=Nat.mul_le_mul_right _ hi
  rw [List.drop_append_of_le_length (by omega),List.take_append_of_le_length (by rw [gR];omega)]
  exact h.2 i x hx
 ·rw [fz (by omega)] at hx
  have:=h'.2 _ x hx
  obtain⟨k,rfl⟩: ∃k,i=l.length+k:=⟨i - l.length,by omega⟩
  rw [Nat.add_sub_cancel_left] at this
  rw [Nat.add_mul,<-h.1,List.drop_length_add_append]
  exact this
theorem Cells.one {cs:List Value} {x:α} (h:GT.ok M cs x):Cells M cs [x]:=
 ⟨by rw [GT.len h];simp,fun i y hy=>by
  cases i with
  | zero=>simp at hy;subst hy;rw [Nat.zero_mul,List.drop_zero,oM (by rw [GT.len h];exact bM _)];exact h
  | succ i=>simp at hy⟩
theorem Cells.Lj {xs:List Value} {l:List α} (h:Cells M xs l): ∀u∈xs,u.oneCell'=true:=by
 intro u hu
 obtain⟨j,hj,rfl⟩:=List.getElem_of_mem hu
 have hp:=GT.pos (α:=α)
 have hq:j / GT.sz α<l.length:=by rw [Nat.div_lt_iff_lt_mul hp,<-h.1];exact hj
 refine GT.one (h.2 (j / GT.sz α) l[j / GT.sz α] (aJ hq)) _ ?_
 have hm:j % GT.sz α<GT.sz α:=Nat.mod_lt _ hp
 have hd:j / GT.sz α*GT.sz α+j % GT.sz α=j:=by rw [Nat.mul_comm];exact Nat.div_add_mod j _
 refine gH (i:=j % GT.sz α) ?_
 rw [dM,aC hm,eH,hd,aJ hj]
theorem A2 {ad:Addr} {m cap:Nat} {l:List α} (h:l8 M (.slice (some ad) m cap) l): ∃xs,Cells M xs l/\At M ad xs:=by
 obtain⟨a,n',cap',hv,hn,_,_,hel⟩:=h
 injection hv with h1 h2 h3
 subst h1
 have key: ∀k,k<=l.length->∃xs,Cells M xs (l.take k)/\At M ad xs:=by
  intro k
  induction k with
  | zero=>exact fun _=>⟨[],by simpa using Cells.nil,fun j u hu=>by simp at hu⟩
  | succ k ih=>
   intro hk
   obtain⟨xs,hc,ha⟩:=ih (by omega)
   have hx:l[k]? =some l[k]:=aJ (by omega)
   obtain⟨ad',cs,e,ho,hat⟩:=hel k _ hx
   injection e with e
   subst e
   refine⟨xs++cs,?_,fun j u hu=>?_⟩
   ·rw [eM (by omega)]
    exact hc.append (Cells.one ho)
   ·have hl:xs.length=k*GT.sz α:=by rw [hc.1,dE];congr 1;omega
    by_cases hj:j<xs.length
    ·rw [fO hj] at hu;exact ha j u hu
    ·rw [fz (by omega)] at hu
     have:=hat _ u hu
     rw [add_add,show k*GT.sz α+ (j - xs.length)=j by omega] at this
     exact this
 have:=key l.length (bM _)
 rwa [eD] at this
theorem At.nil (a:Addr):At M a []:=fun j u hu=>by simp at hu
theorem t7 {g o cap:Nat} {cur:Array Value} {e:TypeId} {fr:Nat×Nat} {xs:List Value} {l:List α} (hM:M g=some (.cells cur e fr)) (hc:Cells M xs l) (hx: (cur.toList.drop o).take (l.length*GT.sz α)=xs)
  (hl:l.length<=cap) (hm:cap<=maxLen):l8 M (.slice (some ⟨g,o,none⟩) l.length cap) l:=by
 refine⟨_,_,_,rfl,rfl,hl,hm,fun i x hix=>⟨_,_,rfl,hc.2 i x hix,fun j u hu=>?_⟩⟩
 rw [dM] at hu
 split at hu
 ·rename_i hj
  rw [eH,<-hx,dM] at hu
  split at hu
  ·rw [eH] at hu
   rw [Addr.add_lit,Addr.add_lit]
   simp only [tY,hM,Option.isSome_none]
   rw [<-Array.getElem?_toList,Nat.add_assoc]
   exact hu
  ·cases hu
 ·cases hu
end
section
variable {α β:Type} [GT α] [GT β] {P:Program} {E w:World} {V:List HP} {i:Nat} {v:Value} {l:List α} {e:TypeId}
theorem cH (e:TypeId) (M:dJ):tj (α:=α) e M oE (.slice none 0 0) []:= .inl ⟨rfl,rfl,rfl⟩
theorem Holds.cH (h:Holds E w V) (α:Type) [GT α] (e:TypeId):Holds E w (own (α:=α) e (.slice none 0 0) []::V):=h.yF fun M _ _=>Gk.cH e M
theorem Holds.freeze (i:Nat) (h:Holds E w V) (hi:V[i]? =some (own e v l):=by exact rfl):Holds E w (V.set i (rd v l)):=by
 obtain⟨M,hs,g⟩:=h
 have hlt:=cK hi
 have ho:=g.sat i _ hi
 refine⟨_,_,g.freeze (P':=rd v l) hlt ⟨j7.2 ?_,rfl⟩⟩
 rcases ho with ⟨rfl,rfl,_⟩ | ⟨b,o,cap,cur,xs,rfl,h2,h3,h4,h5,h6,h7⟩
 ·exact⟨none,0,0,rfl,rfl,bM _,by simp [maxLen],fun i x hx=>by simp at hx⟩
 ·refine t7 (M:=oF M (hs i)) (e:=e) (fr:=(0,0)) ?_ (h7.mono (r7 _ _)) h6 h2 h3
  have hb:hs i b=some (.cells cur e (0,0)):=by rw [h4];exact dC _ _
  simp [oF,g.dm i b _ hlt hb,hb]
theorem Holds.kc (h:Holds E w V) (hi:V[i]? =some (own e v l)): ∃a cap,v = .slice a l.length cap:=by
 obtain⟨M,hs,g⟩:=h
 rcases g.sat i _ hi with ⟨rfl,rfl,_⟩ | ⟨b,o,cap,cur,xs,rfl,_⟩
 ·exact⟨none,0,rfl⟩
 ·exact⟨_,cap,rfl⟩
theorem E5 {M h:dJ} (ho:tj e M h v l):v.oneCell'=true:=by
 rcases ho with ⟨rfl,_⟩ | ⟨b,o,cap,cur,xs,rfl,_⟩ <;> rfl
end
def app {α:Type} (bytes:Nat) (l ys:List α):Option (List α):=if (l.length+ys.length)*bytes<=140737488355328 then some (l++ys) else none
structure pY (P:Program) (t e:TypeId) (k bytes:Nat):Prop where
 wW:P.underlying t=some (.slice e)
 inf: ∃i z,P.info? e=some i/\i.zero=some z/\i.size=k/\i.bytes=bytes/\z.cells.size=k
 pos:0<bytes
section
variable {α:Type} [GT α] {P:Program} {E w:World} {V:List HP} {i j:Nat} {v vy:Value} {l ys l':List α} {e t ty:TypeId} {bytes:Nat}
theorem vx (i:TypeInfo) (ht:P.underlying t=some (.slice e)) (hi:P.info? e=some i)
  (g o sLen sCap:Nat) (cur:Array Value) (hg:w.heap[g]? =some (.cells cur e (0,0)))
  (a:Addr) (m c:Nat) (news:List Value) (hl:news.length=m*i.size) (hnews: ∀j u,news[j]? =some u->w.cell? (a.add j)=some u) (h1: ∀u∈news,u.oneCell'=true)
  (hroom:sLen+m<=sCap) (hfit:o+sLen*i.size+news.length<=cur.size):
  (Builtin.append_ #[t,t] ty #[.slice (some ⟨g,o,none⟩) sLen sCap, .slice (some a) m c]).run P w =
   .ok (.slice (some ⟨g,o,none⟩) (sLen+m) sCap) (w.setRow g (cur.toList.take (o+sLen*i.size)++news++cur.toList.drop (o+sLen*i.size+news.length)).toArray):=by
 have hf:=run_firstCells_some (P:=P) w i.size m a m c news hl hnews
 have hst:=run_storeCells_at P g (o+sLen*i.size) e news 0 cur w hg (by simpa using hfit) h1
 simp only [Nat.add_zero] at hst
 simp [Builtin.append_,run_underlying ht,sizeOf,typeInfo,hi,Builtin.lenOf,hroom,hf,Addr.add_lit,hst]
theorem qF (i:TypeInfo) (ht:P.underlying t=some (.slice e)) (hi:P.info? e=some i) (a:Option Addr) (sLen sCap c:Nat) (hc:sLen<=sCap):
  (Builtin.append_ #[t,t] ty #[.slice a sLen sCap, .slice none 0 c]).run P w = .ok (.slice a sLen sCap) w:=by
 cases a <;> simp [Builtin.append_,run_underlying ht,sizeOf,typeInfo,hi,Builtin.lenOf,Builtin.firstCells,hc,storeCells]
theorem t8 {V:List HP} {i:Nat} {Pr:HP} (h:V[i]? =some Pr):V.set i Pr=V:=by
 apply List.ext_getElem?
 intro k
 rw [fA]
 split
 ·rename_i e;subst e;rw [aC (cK h),h]
 ·rfl
theorem G3 (hw:Holds E w V) (hi:V[i]? =some (own e v l)) (hj:V[j]? =some (rd vy ys)) (hT:pY P t e (GT.sz α) bytes) (hb:app bytes l ys=some l'):
  ∃v' w',(Builtin.append_ #[t,t] ty #[v,vy]).run P w = .ok v' w'/\Holds E w' (V.set i (own e v' l')):=by
 obtain⟨inf,z,hinf,hz,hsz,hby,hzs⟩:=hT.inf
 unfold app at hb
 split at hb
 case isFalse=>cases hb
 rename_i hroom
 injection hb with hb
 subst hb
 obtain⟨M,hs,g⟩:=hw
 have hlt:=cK hi
 have ho:=g.sat i _ hi
 have hle63:l.length+ys.length<=140737488355328:=l7 (Nat.le_mul_of_pos_right _ hT.pos) hroom
 obtain⟨a,m,c,hvy,hm,hmc,hcm,hel⟩:=j7.1 (g.sat j _ hj).1
 subst hvy
 have hcase: (ys= []/\a=none)\/∃ad news,a=some ad/\Cells M news ys/\At M ad news:=by
  cases a with
  | none=>
   left
   refine⟨?_,rfl⟩
   cases ys with
   | nil=>rfl
   | cons y r=>obtain⟨ad,cs,h,_⟩:=hel 0 y rfl;cases h
  | some ad=>
   right
   obtain⟨xs,h1,h2⟩:=A2 (l:=ys) (ad:=ad) (m:=m) (cap:=c) ⟨_,_,_,rfl,hm,hmc,hcm,hel⟩
   exact⟨ad,xs,rfl,h1,h2⟩
 rcases hcase with ⟨rfl,rfl⟩ | ⟨ad,news,rfl,hcn,hat⟩
 ·
  simp only [List.length_nil] at hm
  subst hm
  rw [kl]
  have lL:V.set i (own e v l)=V:=t8 hi
  refine⟨v,w,?_,by rw [lL];exact⟨M,hs,g⟩⟩
  rcases ho with ⟨rfl,rfl,_⟩ | ⟨b,o,cap,cur,xs,rfl,h2,h3,h4,h5,h6,h7⟩
  ·exact qF inf hT.wW hinf none 0 0 c (bM _)
  ·exact qF inf hT.wW hinf _ _ cap c h2
 ·have hnews: ∀j u,news[j]? =some u->w.cell? (ad.add j)=some u:=fun j u hu=>oN g.im (hat j u hu)
  have hnl:news.length=m*inf.size:=by rw [hcn.1,hm,hsz]
  have h1:=hcn.Lj
  have grown: ∀(olds:List Value) (N:Nat),Cells M olds l->N=l.length+m->∀(old:Nat),
    Holds E (w.drew.alloc (.cells (olds.toArray++news.toArray++Builtin.zeroCells z.cells (grownCap w N old e - N)) e))
     (V.set i (own e (.slice (some ⟨w.heap.size,0,none⟩) N (grownCap w N old e)) (l++ys))):=by
   intro olds N hol hN old
   have hge:=grownCap_ge w N old e
   have hcm':grownCap w N old e<=maxLen:=grownCap_le_maxLen w N old e (by simp only [maxLen];omega)
   have hNl:N= (l++ys).length:=by rw [dR,hN,hm]
   have hca:=hol.append hcn
   refine⟨M,_,g.update (w':=w.drew.alloc _) hlt (Gk.one w.heap.size (.cells (olds.toArray++news.toArray++Builtin.zeroCells z.cells (grownCap w N old e - N)) e (0,0))) (.inr ⟨w.heap.size,0,grownCap w N old e,_,olds++news,by rw [<-hNl],by rw [<-hNl];exact hge,hcm',rfl,?_,?_,hca⟩) rfl rfl rfl (fun b o' hb=>?_) (fun b o' hb=>?_) (fun b _ hb=>?_)⟩
   ·simp only [Array.size_append,List.size_toArray,size_zeroCells,hzs,gj]
    refine Nat.le_of_eq (Eq.symm ?_)
    rw [<-dR,hca.1,<-hNl,<-Nat.add_mul]
    congr 1;omega
   ·simp only [Array.toList_append,List.drop_zero]
    rw [<-hca.1]
    exact List.take_left
   ·obtain⟨rfl,rfl⟩:=jF hb;exact heap_alloc_new w.drew _
   ·obtain⟨rfl,rfl⟩:=jF hb;exact .inr (bM _)
   ·exact sY w.drew _ b hb
  rcases ho with ⟨rfl,rfl,_⟩ | ⟨b,o,cap,cur,xs,rfl,h2,h3,h4,h5,h6,h7⟩
  ·by_cases hm0:m=0
   ·subst hm0
    have hy:ys= []:=List.eq_nil_of_length_eq_zero hm.symm
    subst hy
    have lL:V.set i (own e (.slice none 0 0) ([]:List α))=V:=t8 hi
    refine⟨.slice none 0 0,w,?_,by rw [kl,lL];exact⟨M,hs,g⟩⟩
    have hf:=run_firstCells_some (P:=P) w inf.size 0 ad 0 c [] (by simp) (fun j u hu=>by simp at hu)
    simp [Builtin.append_,run_underlying hT.wW,sizeOf,typeInfo,hinf,Builtin.lenOf,hf]
   ·have hr:=run_append_nil (P:=P) w t ty e inf z hT.wW hinf hz ad m c news hnl hnews (by omega) (by simp at hle63;omega) (by rw [hby,hm];simp at hroom;omega)
    have:=grown [] m Cells.nil (by simp) 0
    simp only [Array.empty_append] at this
    exact⟨_,_,hr,by simpa using this⟩
  ·have hb:=g.le i b _ hlt (by rw [h4];exact dC b _)
   have hxl:xs.length=l.length*GT.sz α:=h7.1
   by_cases hfit:l.length+m<=cap
   ·have hcapm: (l.length+m)*GT.sz α<=cap*GT.sz α:=Nat.mul_le_mul_right _ hfit
    rw [Nat.add_mul] at hcapm
    have hr:=vx (P:=P) (ty:=ty) inf hT.wW hinf b o l.length cap cur hb ad m c news hnl hnews h1 hfit (by rw [hnl,hsz];omega)
    refine⟨_,_,hr,?_⟩
    have:=ky (P':=own e (.slice (some ⟨b,o,none⟩) (l.length+m) cap) (l++ys)) (new:=(cur.toList.take (o+l.length*inf.size)++news++cur.toList.drop (o+l.length*inf.size+news.length)).toArray) g hi h4
     (.inr ⟨b,o,cap,_,xs++news,by rw [dR,hm],by rw [dR,<-hm];exact hfit,h3,rfl,?_,?_,h7.append hcn⟩)
    ·exact this
    ·simp only [List.size_toArray,dR,dE,gR,Array.length_toList,hnl,hsz]
     omega
    ·rw [dR,Nat.add_mul,<-hm]
     have e1: (cur.toList.take (o+l.length*inf.size)).length=o+l.length*GT.sz α:=by
      have e0:cur.toList.length=cur.size:=rfl
      rw [dE,e0,hsz];omega
     have e2: (cur.toList.take (o+l.length*inf.size)).drop o=xs:=by
      rw [hsz,List.drop_take,Nat.add_sub_cancel_left];exact h6
     simp only [jg]
     rw [List.drop_append_of_le_length (by omega),e2,<-jg]
     have:l.length*GT.sz α+m*GT.sz α= (xs++news).length:=by rw [dR,hxl,hnl,hsz]
     rw [this]
     exact List.take_left
   ·have holds: ∀j u,xs[j]? =some u->w.cell? ((⟨b,o,none⟩:Addr).add j)=some u:=fun j u hu=>by
     rw [Addr.add_lit,cell_of_row w b _ _ _ _ hb,<-Array.getElem?_toList]
     rw [<-h6,dM] at hu
     split at hu
     ·rw [eH] at hu;exact hu
     ·cases hu
    have hr:=run_append_grow (P:=P) w t ty e inf z hT.wW hinf hz ⟨b,o,none⟩ l.length cap xs (by rw [hxl,hsz]) holds ad m c news hnl hnews (by omega) (by omega)
     (growslice_fits (by omega) (by rw [hby];rw [hm];exact hroom))
    exact⟨_,_,hr,grown xs _ h7 rfl cap⟩
end
section
variable {α:Type} [GT α] {P:Program} {n:Nat} {U:Nat->Value} {w:World} {Q:gq} {E:World} {V:List HP} {i j:Nat}
variable {ops:Array Oper} {rest:List Oper} {d:Nat} {ty t e:TypeId} {pos:String} {af:Array Edge} {g:Option (Nat×Bool)} {v vy:Value} {q r:Operand}
variable {x:α} {l ys l':List α} {bytes:Nat}
theorem RL.app (i j:Nat) (hw:Holds E w V) (hT:pY P t e (GT.sz α) bytes) (hb:Gk.app bytes l ys=some l') (k: ∀v' w',Holds E w' (V.set i (own e v' l'))->RL P n ops rest (eL U d v') w' Q) (hg:Wn ops U g:=by exact trivial) (hd:Nat.blt d n=true:=by exact rfl) (hx:ev U q=v:=by exact rfl) (hy:ev U r=vy:=by exact rfl) (hi:V[i]? =some (own e v l):=by exact rfl) (hj:V[j]? =some (rd vy ys):=by exact rfl):
  RL P n ops (⟨some d, .call ⟨.builtin .append,#[q,r],#[t,t]⟩,ty,pos,af,g⟩::rest) U w Q:=by
 obtain⟨v',w',hr,hw'⟩:=G3 (P:=P) (ty:=ty) hw hi hj hT hb
 refine RL.val hg hd ?_ (k v' w' hw')
 simp only [execOp,resolve,invoke,builtin,aO,aW,aU,List.map_toArray,dV,List.map_nil,hx,hy,hr]
theorem RL.bD (i:Nat) (l:List α) (hw:Holds E w V) (ht:P.underlying t=some (.slice e)) (k:RL P n ops rest (eL U d (.int .i64 (l.length:Nat))) w Q) (hg:Wn ops U g:=by exact trivial) (hd:Nat.blt d n=true:=by exact rfl) (hx:ev U q=v:=by exact rfl) (hi:V[i]? =some (rd v l):=by exact rfl):RL P n ops (⟨some d, .call ⟨.builtin .len,#[q],#[t]⟩,ty,pos,af,g⟩::rest) U w Q:=by
 obtain⟨a,cap,rfl⟩:=hw.slice hi
 exact RL.Ip hg hd hx ht k
theorem RL.dY {e':TypeId} (i:Nat) (l:List α) (hw:Holds E w V) (ht:P.underlying t=some (.slice e)) (k:RL P n ops rest (eL U d (.int .i64 (l.length:Nat))) w Q) (hg:Wn ops U g:=by exact trivial) (hd:Nat.blt d n=true:=by exact rfl) (hx:ev U q=v:=by exact rfl) (hi:V[i]? =some (own e' v l):=by exact rfl):RL P n ops (⟨some d, .call ⟨.builtin .len,#[q],#[t]⟩,ty,pos,af,g⟩::rest) U w Q:=by
 obtain⟨a,cap,rfl⟩:=hw.kc hi
 exact RL.Ip hg hd hx ht k
end
def cO (M:dJ) (place:Nat->Option (Nat×Nat)) {α:Type} [GT α] (cells:Array Value) (parts:List (Nat×Value)) (y:α):Prop:=
 ∃cells',Instr.fill place cells parts=some cells'/\GT.ok M cells'.toList y
section
variable {α β:Type} [GT α] [GT β] {M:dJ} {place:Nat->Option (Nat×Nat)} {cells:Array Value} {parts:List (Nat×Value)} {x y:α} {v:Value} {z:β}
theorem cO.nil (h:GT.ok M cells.toList x):cO M place cells [] x:=⟨cells,rfl,h⟩
theorem Cy (vs:List Value): ∀(cells:Array Value) (o:Nat),o+vs.length<=cells.size->
  ((vs.toArray.zipIdx).foldl (fun cs (c,j)=>cs.setIfInBounds (o+j) c) cells).toList=cells.toList.take o++vs++cells.toList.drop (o+vs.length):=by
 intro cells o h
 have key: ∀(vs:List Value) (k:Nat) (cells:Array Value),o+k+vs.length<=cells.size->
   ((vs.zipIdx k).foldl (fun cs (p:Value×Nat)=>cs.setIfInBounds (o+p.2) p.1) cells).toList=cells.toList.take (o+k)++vs++cells.toList.drop (o+k+vs.length):=by
  intro vs
  induction vs with
  | nil=>intro k cells _;simp
  | cons u vs ih=>
   intro k cells h
   simp only [fI] at h
   rw [List.zipIdx_cons,List.foldl_cons,ih (k+1) _ (by simp;omega)]
   simp only [Array.toList_setIfInBounds,fI]
   have hk:o+k<cells.toList.length:=by simp;omega
   rw [show o+ (k+1)= (o+k)+1 by omega,eM (by simpa using hk),List.take_set_of_le (bM _),List.drop_set_of_lt (by omega)]
   simp only [List.getElem_set_self,jg,List.cons_append,List.nil_append]
   congr 4;omega
 have:=key vs 0 cells (by simpa using h)
 rw [<-Array.foldl_toList]
 simpa using this
theorem cO.cons {i m:Nat} {f:α->β->α} (hx:GT.ok M cells.toList x) (hF:Fs m β f) (hz:ti M v z) (h: ∀c,GT.ok M c.toList (f x z)->cO M place c parts y) (hp:place i=some (m,GT.sz β):=by exact rfl) (hm:m+GT.sz β<=GT.sz α:=by decide):cO M place cells ((i,v)::parts) y:=by
 have hc:v.cells.size=GT.sz β:=by rw [<-GT.len hz.cells];simp
 have hl:cells.size=GT.sz α:=by rw [<-GT.len hx];simp
 have hs:=Cy v.cells.toList cells m (by simp [hc,hl,hm])
 simp only [Array.toArray_toList,Array.length_toList,hc] at hs
 obtain⟨c',h1,h2⟩:=h (v.cells.zipIdx.foldl (fun cs (c,j)=>cs.setIfInBounds (m+j) c) cells) (by rw [hs];exact hF M _ _ x z hx hz.cells)
 refine⟨c',?_,h2⟩
 simp only [Instr.fill,hp]
 rw [aD (by simp [hc,hl];omega)]
 exact h1
end
structure tk (P:Program) (T:TypeId) (places:List (Nat×Nat)) (z:Array Value):Prop where
 run: ∀parts w,(Instr.build T parts).run P w=match Instr.fill (places.toArray[·]?) z parts.toList with | some cs=> .ok (.agg cs) w | none=> .halt (.stuck "build: no such field, or a part of the wrong size") w
section
variable {α:Type} [GT α] {P:Program} {n:Nat} {U:Nat->Value} {w:World} {Q:gq} {E:World} {V:List HP} {i j:Nat}
variable {ops:Array Oper} {rest:List Oper} {d:Nat} {T ty t e:TypeId} {pos:String} {af:Array Edge} {g:Option (Nat×Bool)} {v vy:Value} {q r:Operand}
variable {y:α} {l:List α} {bytes:Nat}
theorem RL.build {parts:Array (Nat×Operand)} {places:List (Nat×Nat)} {z:Array Value} (y:α) (hg:Wn ops U g) (hd:Nat.blt d n=true) (hw:Holds E w V) (vs:List (Nat×Value)) (hvs:parts.toList.map (fun p=>(p.1,ev U p.2))=vs) (hT:tk P T places z) (ha:GT.agg α=true) (hf: ∀M hs,Good E w M hs V->cO M (places.toArray[·]?) z vs y) (k: ∀v,Holds E w (rd v y::V)->RL P n ops rest (eL U d v) w Q):RL P n ops (⟨some d, .build T parts,ty,pos,af,g⟩::rest) U w Q:=by
 obtain⟨M,hs,gd⟩:=hw
 obtain⟨cs,h1,h2⟩:=hf M hs gd
 have e1:parts.map (fun(i,x)=>(i,ev U x))=vs.toArray:=by rw [<-hvs];cases parts;simp
 refine RL.val (v:= .agg cs) hg hd ?_ (k _ ⟨M,_,gd.fX ⟨⟨cs.toList,by simp [qX,ha],h2⟩,rfl⟩⟩)
 simp only [execOp,aO]
 rw [e1,hT.run]
 simp only [h1,aU,aW]
end
end Go.Gk
namespace Go.Gk
open Go
def eT:List (Nat×Value)->(Nat->Value)->Nat->Value
 | [],O=>O
 | (d,v)::l,O=>eL (eT l O) d v
def agree (U:Nat->Value):List (Nat×Value)->Prop
 | []=>True
 | (d,v)::l=>U d=v/\agree U l
theorem agree.eT {U:Nat->Value} {l:List (Nat×Value)} (h:agree U l): ∃O,U=Gk.eT l O:=by
 refine⟨U,?_⟩
 induction l with
 | nil=>rfl
 | cons p l ih=>
  obtain⟨d,v⟩:=p
  obtain⟨h1,h2⟩:=h
  have:=ih h2
  funext t
  show U t=eL (Gk.eT l U) d v t
  unfold eL
  cases e:Nat.beq t d with
  | true=>rw [eC e,h1];rfl
  | false=>rw [<-this];rfl
def idx {α:Type} (l:List α) (i:Int):Option α:=if 0<=i then l[i.toNat]? else none
def D4 (s:dA) (i:Int):Option UInt8:=if 0<=i then s.cR[i.toNat]? else none
def Fo.cs {S R β:Type} (o:Fo S R) (f:S->β) (g:R->β):β:=match o with | .go s=>f s | .rt r=>g r
section
variable {P:Program} {n:Nat} {U:Nat->Value} {w:World} {Q:gq} {x y c:Code} {S:Type}
theorem RC.jn (J:S->(Nat->Value)->World->Prop) (s:S) (hx:RC P n x U w (fun ex U w=>ex = .normal/\J s U w)) (hy: ∀U w,J s U w->Q .normal U w):RC P n x U w Q:=
 RC.mono hx fun ex U w ⟨e,hJ⟩=>by subst e;exact hy U w hJ
theorem G4 {i:Nat} (h:Q (.exit i) U w):mx P n y Q (.exit i) U w:=h
theorem bS (h:Q .ret U w):mx P n y Q .ret U w:=h
theorem Is {i id:Nat} (hne:i≠id) (h:Q (.exit i) U w):vv id Q (.exit i) U w:=by simp only [vv,aD hne];exact h
theorem jR {id:Nat} (h:Q .ret U w):vv id Q .ret U w:=h
end
section
variable {α β:Type} [GT α] [GT β] {P:Program} {E w:World} {V:List HP} {i:Nat} {v:Value} {x:α}
theorem Holds.qY (h:Holds E w V) (α:Type) [GT α]:Holds E w (rd (.slice none 0 0) ([]:List α)::V):=
 h.yF fun _ _ _=>⟨j7.2 ⟨none,0,0,rfl,rfl,bM _,by simp [maxLen],fun i x hx=>by simp at hx⟩,rfl⟩
theorem Holds.gJ {e:TypeId} {b:Nat} (h:Holds E w V) (hi:V[i]? =some (bx e b x)):Holds E w (V.set i (pt (.pointer (some ⟨b,0,none⟩)) x)):=by
 obtain⟨M,hs,g⟩:=h
 have hlt:=cK hi
 obtain⟨cs,ho,hh⟩:=g.sat i _ hi
 have hb:hs i b=some (.cells cs.toArray e (0,0)):=by rw [hh];exact dC _ _
 refine⟨_,_,g.freeze (P':=pt _ x) hlt ⟨⟨⟨b,0,none⟩,cs,rfl,GT.mono (r7 _ _) ho,fun j u hu=>?_⟩,rfl⟩⟩
 rw [Addr.add_lit]
 simp only [tY,oF,g.dm i b _ hlt hb,hb]
 simpa using hu
theorem Fd.comp {γ:Type} [GT γ] {k k':Nat} {f:α->β} (f':β->γ) (h:Fd k f) (h':Fd k' f') (hk:k'+GT.sz γ<=GT.sz β:=by decide):Fd (k+k') (fun x=>f' (f x)):=by
 intro M cs x ho
 have h1:=h' M _ _ (h M cs x ho)
 rw [List.drop_take,List.drop_drop,List.take_take] at h1
 rw [Nat.min_eq_left (by omega)] at h1
 exact h1
end
section
variable {α β:Type} [GT α] [GT β] {P:Program} {n:Nat} {U:Nat->Value} {w:World} {Q:gq} {E:World} {V:List HP} {i j:Nat}
variable {ops:Array Oper} {rest:List Oper} {d:Nat} {ty t e T:TypeId} {pos:String} {af:Array Edge} {g:Option (Nat×Bool)} {v vy:Value} {q r:Operand}
variable {x:α}
theorem E6 {fn:Func} {R:Value->World->Prop} {t' b:Nat} (i:Nat) (hr:fn.results = #[.cell t' T]) (hw:Holds E w V) (hp:U t' = .pointer (some ⟨b,0,none⟩)) (hi:V[i]? =some (bx e b x)) (hT:ld P T (GT.agg α) (GT.sz α)) (h: ∀v,Holds E w (rd v x::V)->R v w):l5 P n fn R .ret U w:=by
 obtain⟨M,hs,gd⟩:=hw
 obtain⟨cs,ho,hh⟩:=gd.sat i _ hi
 have hb:=gd.le i b _ (cK hi) (by rw [hh];exact dC b _)
 refine⟨qX α cs,fun a ha=>?_,h _ ⟨M,_,gd.fX ⟨⟨cs,rfl,ho⟩,rfl⟩⟩⟩
 have hl: (loadVar T ⟨b,0,none⟩).run P w = .ok (qX α cs) w:=kx hT ho fun j u hu=>by
  rw [Addr.add_lit,cell_of_row w b _ _ _ _ hb];simpa using hu
 simp [results,hr,ha.get,hp,asAddr,hl]
theorem za {fn:Func} {R:Value->World->Prop} {t' u b:Nat} {v':Value} (i:Nat) (hw:Holds E w V) (hT:ld P T (GT.agg α) (GT.sz α)) (h: ∀v,Holds E w (rd v x::V)->R (.tuple #[v,v']) w) (hr:fn.results = #[.cell t' T, .tmp u]:=by exact rfl) (hp:U t' = .pointer (some ⟨b,0,none⟩):=by exact rfl) (hi:V[i]? =some (bx e b x):=by exact rfl) (hv':U u=v':=by exact rfl):l5 P n fn R .ret U w:=by
 obtain⟨M,hs,gd⟩:=hw
 obtain⟨cs,ho,hh⟩:=gd.sat i _ hi
 have hb:=gd.le i b _ (cK hi) (by rw [hh];exact dC b _)
 refine⟨_,fun a ha=>?_,h _ ⟨M,_,gd.fX ⟨⟨cs,rfl,ho⟩,rfl⟩⟩⟩
 have hl: (loadVar T ⟨b,0,none⟩).run P w = .ok (qX α cs) w:=kx hT ho fun j u hu=>by
  rw [Addr.add_lit,cell_of_row w b _ _ _ _ hb];simpa using hu
 simp [results,hr,ha.get,hp,hv',asAddr,hl]
theorem A3 {b m:Nat} {o:Oper} {f:α->β} (ho:o.op = .load T q) (hw:Holds E w V) (hx:ev U q = .pointer (some ⟨b,m,none⟩)) (hi:V[i]? =some (bx e b x)) (hF:Fd m f) (hT:ld P T (GT.agg β) (GT.sz β)):
  ∃v,(execOp (ev U) o).run P w = .ok (.value v) w/\Holds E w (rd v (f x)::V):=by
 obtain⟨M,hs,gd⟩:=hw
 obtain⟨cs,ho2,hh⟩:=gd.sat i _ hi
 have hb:=gd.le i b _ (cK hi) (by rw [hh];exact dC b _)
 have ho':=hF M cs x ho2
 refine⟨qX β ((cs.drop m).take (GT.sz β)),?_,⟨M,_,gd.fX ⟨⟨_,rfl,ho'⟩,rfl⟩⟩⟩
 have hl: (loadVar T ⟨b,m,none⟩).run P w = .ok (qX β ((cs.drop m).take (GT.sz β))) w:=kx hT ho' fun j u hu=>by
  rw [Addr.add_lit,cell_of_row w b _ _ _ _ hb]
  rw [dM] at hu
  split at hu
  ·rw [eH] at hu;simpa using hu
  ·cases hu
 unfold execOp;rw [ho]
 simp only [hx,Instr.loadAt,Instr.sureAddr,aO,aW,aU,hl]
theorem bZ {γ:Type} [Sc γ] {b m:Nat} {o:Oper} {f:α->γ} {C:Bool} (i:Nat) (ho:o.op = .load T q) (hw:Holds E w V) (hx:C=true->ev U q = .pointer (some ⟨b,m,none⟩)) (hi:V[i]? =some (bx e b x)) (hF:Fd m f) (hT:ld P T false 1):
  C=true->(execOp (ev U) o).run P w = .ok (.value (Sc.toV (f x))) w:=fun h=>by
 obtain⟨v,h1,h2⟩:=A3 (f:=f) ho hw (hx h) hi hF hT
 rw [h1,h2.zY (i:=0) rfl]
theorem dN {b o' j m:Nat} {o:Oper} {C:Bool} (hf:l9 P T j m) (ho:o.op = .fieldAddr T q j:=by exact rfl) (hx:C=true->ev U q = .pointer (some ⟨b,o',none⟩):=by exact(fun _=>rfl)):
  C=true->(execOp (ev U) o).run P w = .ok (.value (.pointer (some ⟨b,o'+m,none⟩))) w:=fun h=>by
 unfold execOp;rw [ho]
 simp only [hx h,aO,hf.run,aU,aW,Addr.add_lit]
theorem RL.conv {K K':IntKind} (a:Int) {s s':TypeId} (hg:Wn ops U g) (hd:Nat.blt d n=true) (hx:ev U q = .int K a) (hs: ∃D,P.underlying s=some D) (ht:P.underlying s'=some (.int K')) (k:RL P n ops rest (eL U d (.int K' (K'.wrap a))) w Q):RL P n ops (⟨some d, .convert s s' q,ty,pos,af,g⟩::rest) U w Q:=by
 obtain⟨D,hD⟩:=hs
 refine RL.val hg hd ?_ k
 have: (convert s s' (.int K a)).run P w = .ok (.int K' (K'.wrap a)) w:=by
  unfold convert
  simp only [aO,run_underlying hD,run_underlying ht,aU]
  cases D <;> rfl
 simp only [execOp,hx,aO,this,aU,aW]
theorem xg {vs:List Value} {m:Nat} (hu:P.underlying t=some (.slice e)) (hz: ∃z,(∀w,(zeroValue e).run P w = .ok z w)/\z.cells.size=m) (hs: ∀w,(sizeOf e).run P w = .ok m w) (hm:0<m)
  (hlen:vs.length*m<=16777216) (hvs: ∀v∈vs,v.cells.size=m) (w:World):
  (Instr.buildSlice t vs.length (vs.zipIdx.map fun p=>(p.2,p.1)).toArray).run P w =
   .ok (.slice (some ⟨w.heap.size,0,none⟩) vs.length vs.length) (w.alloc (.cells (vs.flatMap fun v=>v.cells.toList).toArray e)):=by
 obtain⟨z,hz,hzs⟩:=hz
 have key: ∀(us:List Value) (k:Nat) (cells:Array Value),cells.size= (k+us.length)*m->(∀v∈us,v.cells.size=m)->
   ∃c',Instr.fill (fun i=>some (i*m,m)) cells ((us.zipIdx k).map fun p=>(p.2,p.1))=some c'/\c'.toList=cells.toList.take (k*m)++us.flatMap fun v=>v.cells.toList:=by
  intro us
  induction us with
  | nil=>intro k cells hc _;exact⟨cells,rfl,by simp at hc;rw [List.flatMap_nil,kl,oM (by simp [hc])]⟩
  | cons u us ih=>
   intro k cells hc hu'
   have hcu:=hu' u (by simp)
   simp only [fI] at hc
   have hkm:k*m+m<=cells.size:=by
    rw [hc,show (k+ (us.length+1))= (k+1)+us.length by omega,Nat.add_mul,Nat.add_mul,Nat.one_mul];omega
   have hsp:=Cy u.cells.toList cells (k*m) (by simp [hcu,hkm])
   simp only [Array.toArray_toList,Array.length_toList,hcu] at hsp
   have hsz: (u.cells.zipIdx.foldl (fun cs (c,j)=>cs.setIfInBounds (k*m+j) c) cells).size= (k+1+us.length)*m:=by
    have:=congrArg List.length hsp
    simp only [Array.length_toList,dR,dE,gR,hcu] at this
    rw [this,Nat.min_eq_left (by omega)]
    have: (k+1+us.length)*m=cells.size:=by rw [hc];congr 1;omega
    omega
   obtain⟨c',h1,h2⟩:=ih (k+1) _ hsz (fun v hv=>hu' v (by simp [hv]))
   refine⟨c',?_,?_⟩
   ·rw [List.zipIdx_cons,dV]
    simp only [Instr.fill]
    rw [aD (by simp [hcu];omega)]
    exact h1
   ·rw [h2,hsp,List.flatMap_cons]
    have e1: (cells.toList.take (k*m)++u.cells.toList).length= (k+1)*m:=by
     rw [dR,dE,Array.length_toList,Array.length_toList,hcu,Nat.min_eq_left (by omega),Nat.add_mul,Nat.one_mul]
    rw [<-e1,List.take_left,jg]
 have h0: (Array.map (fun i=>z.cells[i % z.cells.size]!) (Array.range (vs.length*m))).size= (0+vs.length)*m:=by simp
 obtain⟨c',h1,h2⟩:=key vs 0 _ h0 hvs
 simp only [Nat.zero_mul,List.take_zero,List.nil_append] at h2
 have hc':c'= (vs.flatMap fun v=>v.cells.toList).toArray:=by rw [<-h2]
 subst hc'
 unfold Instr.buildSlice
 simp only [aO,run_underlying hu,aU,hs]
 rw [aD (by omega)]
 by_cases hv:vs.length*m=0
 ·have:vs= []:=by
   rcases Nat.mul_eq_zero.1 hv with h | h
   ·exact List.eq_nil_of_length_eq_zero h
   ·omega
  subst this
  have e0:Array.range 0 = #[]:=rfl
  simp [Instr.fill,newRow,newObj,Sem.run,e0]
 ·rw [aD hv]
  simp only [aO,hz,aU,aW]
  rw [h1]
  simp [newRow,newObj,Sem.run]
def A4 {α:Type} [GT α] (M:dJ):List Value->List α->Prop
 | [],[]=>True
 | v::vs,x::l=>ti M v x/\A4 M vs l
 | _,_=>False
theorem A4.spec {M:dJ}: ∀{vs:List Value} {l:List α},A4 M vs l->vs.length=l.length/\(∀v∈vs,v.cells.size=GT.sz α)/\Cells M (vs.flatMap fun v=>v.cells.toList) l
 | [],[],_=>⟨rfl,fun _ h=>by simp at h,Cells.nil⟩
 | v::vs,x::l,h=>by
  obtain⟨h1,h2⟩:=h
  obtain⟨a,b,c⟩:=A4.spec h2
  refine⟨by simp [a],fun u hu=>?_,?_⟩
  ·rcases fQ.1 hu with rfl | hu
   ·rw [<-GT.len h1.cells];simp
   ·exact b u hu
  ·rw [List.flatMap_cons]
   exact(Cells.one h1.cells).append c
 | [],_::_,h=>h.elim
 | _::_,[],h=>h.elim
structure xh (P:Program) (e:TypeId) (m:Nat):Prop where
 z: ∃z,(∀w,(zeroValue e).run P w = .ok z w)/\z.cells.size=m
 sz: ∀w,(sizeOf e).run P w = .ok m w
theorem RL.dS {m:Nat} {parts:Array (Nat×Operand)} (l:List α) (hw:Holds E w V) (vs:List Value) (hT:sI P t e (GT.sz α)) (hz:xh P e (GT.sz α)) (hel: ∀M hs,Good E w M hs V->A4 M vs l) (k: ∀v w',Holds E w' (own e v l::V)->RL P n ops rest (eL U d v) w' Q) (hg:Wn ops U g:=by exact trivial) (hd:Nat.blt d n=true:=by exact rfl) (hparts:parts.toList.map (fun p=>(p.1,ev U p.2))=vs.zipIdx.map fun p=>(p.2,p.1):=by exact rfl) (hl:m=vs.length:=by exact rfl) (hm:Nat.ble (m*GT.sz α) 16777216=true:=by exact rfl):RL P n ops (⟨some d, .buildSlice t m parts,ty,pos,af,g⟩::rest) U w Q:=by
 subst hl
 have hm':=Nat.ble_eq▸hm
 obtain⟨M0,hs0,gd0⟩:=hw
 obtain⟨hlen,hsz,hcells⟩:=(hel M0 hs0 gd0).spec
 have hle:vs.length<=vs.length*GT.sz α:=Nat.le_mul_of_pos_right _ GT.pos
 have hrun:=xg (P:=P) hT.wW hz.z hT.sz GT.pos hm' hsz w
 refine RL.val (v:= .slice (some ⟨w.heap.size,0,none⟩) vs.length vs.length) (w':=w.alloc (.cells (vs.flatMap fun v=>v.cells.toList).toArray e)) hg hd ?_ (k _ _ (Holds.alloc ⟨M0,hs0,gd0⟩ _ fun M hs gd=>?_))
 ·have e1:parts.map (fun(i,x)=>(i,ev U x))= (vs.zipIdx.map fun p=>(p.2,p.1)).toArray:=by rw [<-hparts];cases parts;simp
  simp only [execOp,aO]
  rw [e1,hrun]
  rfl
 ·obtain⟨_,_,hc⟩:=(hel M hs gd).spec
  refine .inr ⟨w.heap.size,0,vs.length,_,_,by rw [hlen],by omega,by simp only [maxLen];omega,rfl,?_,?_,hc⟩
  ·simp only [gj,List.size_toArray,hc.1,hlen];exact bM _
  ·simp only [List.drop_zero]
   rw [<-hc.1]
   exact eD
end
section
variable {α β ρ:Type} [GT α] [GT β] {P:Program} {E:World} {V Γ':List HP} {fv:Value}
def GS (P:Program) (E:World) (V:List HP) (fv:Value) (φ:α->Option ρ) (toV:ρ->Value):Prop:=
 ∃f cap,fv = .func (.func f) #[] (List.toArray cap)/\g8 P f/\∀(w:World) (Γl:List HP) (v:Value) (x:α) (r:ρ) (i:Nat),
  Holds E w (Γl++V)->(Γl++V)[i]? =some (rd v x)->φ x=some r->Calls P f ([v]++cap).toArray w (gI fun u w'=>u=toV r/\Holds E w' (Γl++V))
def It (P:Program) (E:World) (V:List HP) (fv:Value) (φ:α->β->Option ρ) (toV:ρ->Value):Prop:=
 ∃f cap,fv = .func (.func f) #[] (List.toArray cap)/\g8 P f/\∀(w:World) (Γl:List HP) (v v':Value) (x:α) (y:β) (r:ρ) (i j:Nat),
  Holds E w (Γl++V)->(Γl++V)[i]? =some (rd v x)->(Γl++V)[j]? =some (rd v' y)->φ x y=some r->Calls P f ([v,v']++cap).toArray w (gI fun u w'=>u=toV r/\Holds E w' (Γl++V))
theorem GS.lift {φ:α->Option ρ} {toV:ρ->Value} (h:GS P E V fv φ toV) (m:Nat) (hd:Γ'.drop m=V):GS P E Γ' fv φ toV:=by
 obtain⟨f,cap,e,hf,hc⟩:=h
 subst hd
 refine⟨f,cap,e,hf,fun w Γl v x r i hw hi hr=>?_⟩
 have e2:Γl++Γ'= (Γl++Γ'.take m)++Γ'.drop m:=by rw [jg,List.take_append_drop]
 rw [e2] at hw hi ⊢
 exact hc w _ v x r i hw hi hr
theorem It.lift {φ:α->β->Option ρ} {toV:ρ->Value} (h:It P E V fv φ toV) (m:Nat) (hd:Γ'.drop m=V):It P E Γ' fv φ toV:=by
 obtain⟨f,cap,e,hf,hc⟩:=h
 subst hd
 refine⟨f,cap,e,hf,fun w Γl v v' x y r i j hw hi hj hr=>?_⟩
 have e2:Γl++Γ'= (Γl++Γ'.take m)++Γ'.drop m:=by rw [jg,List.take_append_drop]
 rw [e2] at hw hi hj ⊢
 exact hc w _ v v' x y r i j hw hi hj hr
theorem z5 {Γl V:List HP} {j:Nat} {Pr:HP} (h:V[j]? =some Pr): (Γl++V)[Γl.length+j]? =some Pr:=by
 rw [fz (by omega),Nat.add_sub_cancel_left];exact h
variable {n:Nat} {U:Nat->Value} {w:World} {Q:gq} {i j:Nat}
variable {ops:Array Oper} {rest:List Oper} {d:Nat} {ty:TypeId} {pos:String} {af:Array Edge} {g:Option (Nat×Bool)} {v v':Value} {q r r':Operand} {ts:Array TypeId}
theorem RL.z6 {φ:α->Option ρ} {toV:ρ->Value} {x:α} {y:ρ} (i:Nat) (hd:Nat.blt d n=true) (hw:Holds E w V) (hq:ev U q=fv) (hf:GS P E Γ' fv φ toV) (m:Nat) (hdr:V.drop m=Γ') (hx:ev U r=v) (hi:V[i]? =some (rd v x)) (hr:φ x=some y) (k: ∀w',Holds E w' V->RL P n ops rest (eL U d (toV y)) w' Q) (hg:Wn ops U g:=by exact trivial):
  RL P n ops (⟨some d, .call ⟨.value q,#[r],ts⟩,ty,pos,af,g⟩::rest) U w Q:=by
 obtain⟨f,cap,e,hF,hc⟩:=hf.lift m hdr
 refine RL.oO (hg:=hg) (hd:=hd) (hq:=(by rw [hq,e])) (hvs:=(by simp [hx])) _ hF [v] (aF (hc w [] v x y i (by simpa using hw) (by simpa using hi) hr) ?_)
 rintro u w' ⟨rfl,h⟩
 exact k w' (by simpa using h)
theorem RL.Cz {φ:α->β->Option ρ} {toV:ρ->Value} {x:α} {x':β} {y:ρ} (i j:Nat) (hg:Wn ops U g) (hd:Nat.blt d n=true) (hw:Holds E w V) (hq:ev U q=fv) (hf:It P E Γ' fv φ toV) (m:Nat) (hdr:V.drop m=Γ') (hx:ev U r=v) (hx':ev U r'=v') (hi:V[i]? =some (rd v x)) (hj:V[j]? =some (rd v' x')) (hr:φ x x'=some y) (k: ∀w',Holds E w' V->RL P n ops rest (eL U d (toV y)) w' Q):
  RL P n ops (⟨some d, .call ⟨.value q,#[r,r'],ts⟩,ty,pos,af,g⟩::rest) U w Q:=by
 obtain⟨f,cap,e,hF,hc⟩:=hf.lift m hdr
 refine RL.oO (hg:=hg) (hd:=hd) (hq:=(by rw [hq,e])) (hvs:=(by simp [hx,hx'])) _ hF [v,v'] (aF (hc w [] v v' x x' y i j (by simpa using hw) (by simpa using hi) (by simpa using hj) hr) ?_)
 rintro u w' ⟨rfl,h⟩
 exact k w' (by simpa using h)
end
end Go.Gk
namespace Go.Gk
open Go
section
variable {P:Program} {n:Nat} {U:Nat->Value} {w:World} {Q:gq} {E:World} {V:List HP} {x y:Code}
variable {ops:Array Oper} {rest:List Oper} {d:Nat} {ty T T':TypeId} {pos:String} {af:Array Edge} {g:Option (Nat×Bool)} {v:Value} {q r:Operand}
theorem RC.cM (hc:ev U q = .bool true) (h:RC P n x U w Q):RC P n (.cond q x y) U w Q:=RC.cond hc (fun _=>h) (fun e=>by cases e)
theorem RC.cN (hc:ev U q = .bool false) (h:RC P n y U w Q):RC P n (.cond q x y) U w Q:=RC.cond hc (fun e=>by cases e) (fun _=>h)
theorem lR {k m:Nat} (h:k<m):Value.bool (decide ((k:Int)< (m:Int))) = .bool true:=by rw [cE (by omega)]
theorem lS {m:Nat}:Value.bool (decide ((m:Int)< (m:Int))) = .bool false:=by rw [bG (by omega)]
theorem RL.inc {k m:Nat} (hk:k<m) (hm:m<=4611686018427387904) (h:RL P n ops rest (eL U d (.int .i64 ((k+1:Nat):Int))) w Q) (hg:Wn ops U g:=by exact trivial) (hd:Nat.blt d n=true:=by exact rfl) (hx:ev U q = .int .i64 (k:Int):=by exact rfl) (hy:ev U r = .int .i64 1:=by exact rfl):RL P n ops (⟨some d, .binOp .add T q r T',ty,pos,af,g⟩::rest) U w Q:=by
 refine RL.jA (hg:=hg) (hd:=hd) (hx:=hx) (hy:=hy) (bop:= .add) _ _ ?_
 rw [show Gk.jA .add (k:Int) 1= (k:Int)+1 from rfl,D3 hk hm]
 exact h
theorem pY.of {P:Program} {t e:TypeId} {k b:Nat} (z:Value) (h1:P.underlying t=some (.slice e):=by kernel_rfl) (h2: (P.info? e).map (fun i=>(i.zero,i.size,i.bytes))=some (some z,k,b):=by kernel_rfl) (h3:z.cells.size=k:=by exact rfl) (h4:0<b:=by decide):pY P t e k b:=by
 refine⟨h1,?_,h4⟩
 cases hi:P.info? e with
 | none=>rw [hi] at h2;cases h2
 | some i=>
  rw [hi] at h2
  simp only [Option.map_some,Option.some.injEq,Prod.mk.injEq] at h2
  exact⟨i,z,rfl,h2.1,h2.2.1,h2.2.2,h3⟩
theorem tk.of {P:Program} {T:TypeId} {fs:Array Field} {places:List (Nat×Nat)} (z:Value) (h1:P.underlying T=some (.struct fs)) (h2: ∀w,(zeroValue T).run P w = .ok z w:=by intro _;kernel_rfl) (h3: ∀w,(fs.mapM (m:=Sem) fun f:Field=>do pure (f.offset,<-sizeOf f.type)).run P w = .ok places.toArray w:=by intro _;kernel_rfl):tk P T places z.cells:=by
 refine⟨fun parts w=>?_⟩
 unfold Instr.build
 simp only [aO,h2,aU,run_underlying h1]
 rw [h3]
 simp only [aU]
 cases Instr.fill (fun x=>places.toArray[x]?) z.cells parts.toList <;> rfl
end
end Go.Gk
namespace Go.Gk
open Go
section
variable {α:Type} [GT α] {E w:World} {V L:List HP} {i:Nat} {v:Value} {x:α} {Pr R:HP}
theorem Holds.xk (h:Holds E w V) (hi:V[i]? =some (pt v x)):Holds E w (pt v x::V):=h.yF fun _ _ g=>⟨((g.sat i _ hi).1),rfl⟩
theorem Holds.aX (h:Holds E w V):Holds E w (Gk.aX::V):=h.yF fun _ _ _=>trivial
end
section
variable {P:Program} {n:Nat} {U:Nat->Value} {w:World} {Q:gq}
theorem xl {o:Oper} {a:Act} {K K':Act->World->Prop} {Q Q':Exit->Act->World->Prop} (hK: ∀a w,K a w->K' a w) (hp: ∀c a w,Q (.panic c) a w->Q' (.panic c) a w) (hl:LetsOut Q->LetsOut Q')
  (h:o.wp P a w K Q):o.wp P a w K' Q':=by
 unfold Oper.wp at *
 generalize (execOp a.eval o).run P w=r at *
 cases r with
 | ok nx w'=>
  cases nx <;> simp only [Oper.upon] at h ⊢ <;>
   first
    | exact hK _ _ h
    | exact Calls.mono h (fun e w'' he=>by cases e <;> first | exact hK _ _ he | exact hp _ _ _ he | exact hl he)
    | exact Rows.mono h (fun _ _ he=>hK _ _ he)
 | halt x w'=>cases x <;> simp only [Oper.upon] at h ⊢ <;> exact hp _ _ _ h
def ins (D:Nat->Bool) (i:Nat):Nat->Bool:=fun j=>bif Nat.beq j i then true else D j
def nu (D:Nat->Bool):List Edge->Prop
 | []=>True
 | e::l=>(Region.binds .any e=true->D e.on=true)/\nu D l
def mR (F:Nat->Oper->Prop):Nat->List Oper->Prop
 | _,[]=>True
 | k,o::l=>F k o/\mR F (k+1) l
def qZ:Nat->List Oper->Bool
 | _,[]=>true
 | k,o::l=>(o.after.toList.all fun e=> !Region.binds .any e||Nat.blt e.on k)&&qZ (k+1) l
theorem mR.at {F:Nat->Oper->Prop}: ∀{k:Nat} {l:List Oper},mR F k l->∀i o,l[i]? =some o->F (k+i) o
 | _,[],_,i,o,h=>by simp at h
 | k,p::l,hs,0,o,h=>by simp at h;subst h;exact hs.1
 | k,p::l,hs,i+1,o,h=>by have:=mR.at hs.2 i o (by simpa using h);rw [show k+ (i+1)=k+1+i by omega];exact this
theorem qZ.at: ∀{k:Nat} {l:List Oper},qZ k l=true->∀(i:Nat) (o:Oper),l[i]? =some o->∀e∈o.after,Region.binds .any e=true->e.on<k+i
 | _,[],_,i,o,h=>by simp at h
 | k,p::l,hs,0,o,h=>by
  simp at h;subst h
  intro e he hb
  have h1:=(bT _ _▸hs:_/\_).1
  have:=jD.1 h1 e (by simpa using he)
  rw [hb] at this
  simpa using Nat.blt_eq▸this
 | k,p::l,hs,i+1,o,h=>by
  intro e he hb
  have:=qZ.at (bT _ _▸hs:_/\_).2 i o (by simpa using h) e he hb
  omega
theorem A5 {D:Nat->Bool}: ∀(l:List Edge),(∀e∈l,Region.binds .any e=true->D e.on=true)->nu D l
 | [],_=>trivial
 | e::l,h=>⟨h e (by simp),A5 l fun e' he=>h e' (by simp [he])⟩
theorem RC.draw {id:Nat} {l:List Oper} (hm:P.follows .mixedOrders=true) (hdep:qZ 0 l=true) (J: (Nat->Bool)->(Nat->Value)->World->Prop)
  (h0:J (fun _=>false) U w.drew)
  (step:mR (fun i o=>∀D U w,D i=false->nu D o.after.toList->J D U w->RL P n l.toArray [o] U w (fun ex U w=>ex = .normal/\J (ins D i) U w)) 0 l)
  (hend: ∀D U w,(∀i,i<l.length->D i=true)->J D U w->Q .normal U w):RC P n (.region id l.toArray true) U w Q:=by
 intro a ha
 refine wp_region_any hm ?_
 have key: ∀(fuel:Nat) (listed:Array Bool) (a:Act) (w:World) (U:Nat->Value),listed.size=l.length->Sl n U a->J (fun i=>listed.getD i false) U w->
   (listed.toList.countP (· =false))=fuel->wpAny P .any l.toArray (Lf n Q) fuel listed a w:=by
  have ends: ∀(listed:Array Bool) (a:Act) (w:World) (U:Nat->Value),listed.size=l.length->Sl n U a->J (fun i=>listed.getD i false) U w->Region.ready .any l.toArray listed= []->Lf n Q .normal a w:=by
   intro listed a w U hsz hs hJ hr
   refine⟨U,hs,hend _ U w (fun i hi=>?_) hJ⟩
   induction i using Nat.strongRecOn with
   | ind i ih=>
    cases e:listed.getD i false with
    | true=>rfl
    | false=>
     have hmem:i∈Region.ready .any l.toArray listed:=by
      unfold Region.ready
      rw [iA]
      refine⟨by simpa using hi,?_⟩
      have hi':i<listed.size:=by omega
      have e1:listed.getD i true=false:=by
       simp only [Array.getD_eq_getD_getElem?,fN hi',Option.getD_some] at e ⊢;exact e
      rw [e1]
      simp only [lF,Bool.true_and,List.getElem?_toArray,aJ hi,Option.map_some,Option.getD_some]
      rw [Array.all_eq_true_iff_forall_mem]
      intro ed hed
      cases hb:Region.binds .any ed with
      | false=>rfl
      | true=>
       have hlt:=qZ.at hdep i l[i] (aJ hi) ed hed hb
       have:=ih ed.on (by omega) (by omega)
       rw [this];rfl
     rw [hr] at hmem
     cases hmem
  intro fuel
  induction fuel with
  | zero=>
   intro listed a w U hsz hs hJ hc
   have hall: ∀i,i<l.length->listed.getD i false=true:=by
    intro i hi
    have hi':i<listed.size:=by omega
    have:=List.countP_eq_zero.1 hc listed[i] (by simp)
    simp only [Array.getD_eq_getD_getElem?,fN hi',Option.getD_some]
    simpa using this
   refine⟨?_,U,hs,hend _ U w hall hJ⟩
   unfold Region.ready
   rw [List.filter_eq_nil_iff]
   intro i hi
   have hi2:i<l.length:=by simpa using hi
   have:=hall i hi2
   have hi':i<listed.size:=by omega
   have e1:listed.getD i true=true:=by
    simp only [Array.getD_eq_getD_getElem?,fN hi',Option.getD_some] at this ⊢;exact this
   rw [e1];simp
  | succ fuel ih=>
   intro listed a w U hsz hs hJ hc
   refine⟨fun hr=>ends listed a w U hsz hs hJ hr,fun i hi=>?_⟩
   unfold Region.ready at hi
   rw [iA] at hi
   obtain⟨hi1,hi2⟩:=hi
   have hil:i<l.length:=by simpa using hi1
   have hi':i<listed.size:=by omega
   simp only [bT,Bool.not_eq_true'] at hi2
   obtain⟨hnot,hd⟩:=hi2
   simp only [List.getElem?_toArray,aJ hil,Option.map_some,Option.getD_some] at hd
   rw [Array.all_eq_true_iff_forall_mem] at hd
   have hD: (fun i=>listed.getD i false) i=false:=by
    simp only [Array.getD_eq_getD_getElem?,fN hi',Option.getD_some] at hnot ⊢;exact hnot
   have hst:=step.at i l[i] (aJ hil)
   rw [gj] at hst
   have hrun:=hst _ U w hD (A5 _ fun e he hb=>by
    have:=hd e (by simpa using he)
    rw [hb] at this
    simpa using this) hJ a hs
   have hins:ins (fun i=>listed.getD i false) i=fun j=>(listed.setIfInBounds i true).getD j false:=by
    funext j
    unfold ins
    cases e:Nat.beq j i with
    | true=>
     have:=eC e
     subst this
     simp [Array.getD_eq_getD_getElem?,hi']
    | false=>
     have hne:i≠j:=fun h=>by subst h;simp at e
     simp [Array.getD_eq_getD_getElem?,Array.getElem?_setIfInBounds_ne hne]
   have hcount: (listed.setIfInBounds i true).toList.countP (· =false)=fuel:=by
    have h1:listed.toList=listed.toList.take i++listed[i]::listed.toList.drop (i+1):=by
     have:=List.take_append_drop i listed.toList
     rw [r6 (by simpa using hi')] at this
     simpa using this.symm
    have hx:listed[i]=false:=by
     simp only [Array.getD_eq_getD_getElem?,fN hi',Option.getD_some] at hnot;exact hnot
    rw [h1,List.countP_append,List.countP_cons,hx] at hc
    have h2: (listed.setIfInBounds i true).toList=listed.toList.take i++true::listed.toList.drop (i+1):=by
     rw [Array.toList_setIfInBounds,List.set_eq_take_append_cons_drop,aC (by simpa using hi')]
    rw [h2,List.countP_append,List.countP_cons]
    simp at hc ⊢
    omega
   have hK: ∀a' w',wpList P l.toArray (Lf n fun ex U w=>ex = .normal/\J (ins (fun i=>listed.getD i false) i) U w) [] a' w'->wpAny P .any l.toArray (Lf n Q) fuel (listed.setIfInBounds i true) a' w':=by
    rintro a' w' ⟨σ',hs',_,hJ'⟩
    rw [hins] at hJ'
    exact ih _ a' w' σ' (by simp [hsz]) hs' hJ' hcount
   unfold wpOp
   simp only [List.getElem?_toArray,aJ hil]
   unfold wpList at hrun
   split at hrun
   ·rename_i hw
    rw [aC hw]
    rcases hrun with hrun | ⟨_,a0,w0,σ0,_,hbad,_⟩
    ·exact .inl (xl hK (fun c a w h=>by obtain⟨_,_,hbad,_⟩:=h;cases hbad) (fun h=>by obtain⟨_,_,_,_,hbad,_⟩:=h;cases hbad) hrun)
    ·cases hbad
   ·rename_i hw
    rw [aD hw]
    exact hK _ _ hrun
 refine key _ _ a w.drew U (by simp) ha ?_ (by simp [List.countP_replicate])
 have: (fun i=>(Array.replicate l.toArray.size false).getD i false)=fun _=>false:=by
  funext i
  simp only [Array.getD_eq_getD_getElem?,Array.getElem?_replicate]
  split <;> rfl
 rw [this]
 exact h0
def dX (D:Nat->Bool) (U:Nat->Value):List (Nat×Nat×Value)->Prop
 | []=>True
 | (i,d,v)::l=>(D i=true->U d=v)/\dX D U l
theorem nu.mono {D D':Nat->Bool} (h: ∀i,D i=true->D' i=true): ∀{l:List Edge},nu D l->nu D' l
 | [],_=>trivial
 | _::_,hl=>⟨fun hb=>h _ (hl.1 hb),nu.mono h hl.2⟩
def qc (l:List Oper) (D:Nat->Bool):Prop:=∀i o,l[i]? =some o->D i=true->nu D o.after.toList
theorem A6 {D:Nat->Bool} {i k:Nat} (h:D k=true):ins D i k=true:=by
 unfold ins;cases Nat.beq k i
 ·exact h
 ·rfl
theorem RC.Ll {id:Nat} {l:List Oper} (hm:P.follows .mixedOrders=true) (hdep:qZ 0 l=true) (J: (Nat->Bool)->(Nat->Value)->World->Prop)
  (h0:J (fun _=>false) U w.drew)
  (step:mR (fun i o=>∀D U w,D i=false->nu D o.after.toList->qc l D->J D U w->RL P n l.toArray [o] U w (fun ex U w=>ex = .normal/\J (ins D i) U w)) 0 l)
  (hend: ∀D U w,(∀i,i<l.length->D i=true)->J D U w->Q .normal U w):RC P n (.region id l.toArray true) U w Q:=by
 refine RC.draw hm hdep (fun D U w=>qc l D/\J D U w) ⟨fun i o _ h=>(by cases h),h0⟩ ?_ (fun D U w hall h=>hend D U w hall h.2)
 have key: ∀(k:Nat) (m:List Oper),(∀i o,m[i]? =some o->l[k+i]? =some o)->mR (fun i o=>∀D U w,D i=false->nu D o.after.toList->qc l D->J D U w->RL P n l.toArray [o] U w (fun ex U w=>ex = .normal/\J (ins D i) U w)) k m->
   mR (fun i o=>∀D U w,D i=false->nu D o.after.toList->(qc l D/\J D U w)->RL P n l.toArray [o] U w (fun ex U w=>ex = .normal/\(qc l (ins D i)/\J (ins D i) U w))) k m:=by
  intro k m
  induction m generalizing k with
  | nil=>intro _ _;trivial
  | cons o m ih=>
   intro hat hs
   refine⟨fun D U w hD hd hJ a ha=>?_,ih (k+1) (fun i o h=>by have:=hat (i+1) o (by simpa using h);rw [show k+1+i=k+ (i+1) by omega];exact this) hs.2⟩
   have h1:=hs.1 D U w hD hd hJ.1 hJ.2 a ha
   have hcl:qc l (ins D k):=by
    intro i o' ho hi
    by_cases e:i=k
    ·subst e
     have:=hat 0 o rfl
     rw [Nat.add_zero,ho] at this
     injection this with this
     subst this
     exact nu.mono (fun _ h=>A6 h) hd
    ·have hDi:D i=true:=by
      unfold ins at hi
      have:Nat.beq i k=false:=by
       cases hx:Nat.beq i k with
       | false=>rfl
       | true=>exact absurd (eC hx) e
      rw [this] at hi;exact hi
     exact nu.mono (fun _ h=>A6 h) (hJ.1 i o' ho hDi)
   unfold wpList at h1 ⊢
   split at h1
   ·rename_i hw
    rw [aC hw]
    rcases h1 with h1 | ⟨h2,h3⟩
    ·refine .inl (xl (fun a w h=>?_) (fun c a w h=>?_) (fun h=>?_) h1)
     ·obtain⟨σ',hs',he,hJ'⟩:=h;exact⟨σ',hs',he,hcl,hJ'⟩
     ·obtain⟨_,_,hbad,_⟩:=h;cases hbad
     ·obtain⟨_,_,_,_,hbad,_⟩:=h;cases hbad
    ·obtain⟨_,_,_,_,hbad,_⟩:=h3;cases hbad
   ·rename_i hw
    rw [aD hw]
    obtain⟨σ',hs',he,hJ'⟩:=h1
    exact⟨σ',hs',he,hcl,hJ'⟩
 exact key 0 l (fun i o h=>by simpa using h) step
theorem dX.at {D:Nat->Bool}: ∀{dv:List (Nat×Nat×Value)} (_:dX D U dv) (k:Nat) {j d:Nat} {v:Value} (_:dv[k]? =some (j,d,v)),D j=true->U d=v
 | [],_,k,_,_,_,hk=>by simp at hk
 | (i,d',v')::l,h,0,j,d,v,hk=>by
  simp at hk;obtain⟨rfl,rfl,rfl⟩:=hk;exact h.1
 | (i,d',v')::l,h,k+1,j,d,v,hk=>dX.at h.2 k (by simpa using hk)
def zb (j d:Nat):Nat->List (Nat×Nat×Value)->Bool
 | _,[]=>true
 | 0,_::l=>dfreeA l
 | k+1,(i,t,_)::l=> !Nat.beq i j&& !Nat.beq t d&&zb j d k l
where dfreeA:List (Nat×Nat×Value)->Bool
 | []=>true
 | (i,t,_)::l=> !Nat.beq i j&& !Nat.beq t d&&dfreeA l
theorem dX.up {D:Nat->Bool} {j d:Nat} {v:Value}: ∀{dv:List (Nat×Nat×Value)} (_:dX D U dv) (_:zb.dfreeA j d dv=true),dX (ins D j) (eL U d v) dv
 | [],_,_=>trivial
 | (i,t,u)::l,h,hf=>by
  unfold zb.dfreeA at hf
  simp only [bT,Bool.not_eq_true'] at hf
  refine⟨fun hi=>?_,dX.up h.2 hf.2⟩
  unfold ins at hi
  rw [hf.1.1] at hi
  unfold eL
  rw [hf.1.2]
  exact h.1 hi
theorem dX.put {D:Nat->Bool} {j d:Nat} {v v':Value}: ∀{dv:List (Nat×Nat×Value)} (_:dX D U dv) (k:Nat) (_:dv[k]? =some (j,d,v)) (_:zb j d k dv=true),dX (ins D j) (eL U d v') (dv.set k (j,d,v'))
 | [],_,k,hk,_=>by simp at hk
 | (i,t,u)::l,h,0,hk,hf=>by
  refine⟨fun _=>?_,dX.up h.2 hf⟩
  unfold eL
  have:Nat.beq d d=true:=Nat.beq_refl d
  rw [this];rfl
 | (i,t,u)::l,h,k+1,hk,hf=>by
  unfold zb at hf
  simp only [bT,Bool.not_eq_true'] at hf
  refine⟨fun hi=>?_,dX.put h.2 k (by simpa using hk) hf.2⟩
  unfold ins at hi
  rw [hf.1.1] at hi
  unfold eL
  rw [hf.1.2]
  exact h.1 hi
theorem dX.re {D:Nat->Bool} {j d:Nat} {v v':Value}: ∀{dv:List (Nat×Nat×Value)} (_:dX D U dv) (k:Nat) (_:dv[k]? =some (j,d,v)) (_:D j=true->False),dX D U (dv.set k (j,d,v'))
 | [],_,k,hk,_=>by simp at hk
 | (i,t,u)::l,h,0,hk,hf=>by
  simp at hk;obtain⟨rfl,rfl,rfl⟩:=hk
  exact⟨fun hi=>(hf hi).elim,h.2⟩
 | (i,t,u)::l,h,k+1,hk,hf=>⟨h.1,dX.re h.2 k (by simpa using hk) hf⟩
theorem nf {b:Bool} (h:b=true->False):b=false:=by cases b with | true=>exact(h rfl).elim | false=>rfl
theorem dX.no {D:Nat->Bool} {j:Nat}: ∀{dv:List (Nat×Nat×Value)} (_:dX D U dv) (_: (dv.all fun x=> !Nat.beq x.1 j)=true),dX (ins D j) U dv
 | [],_,_=>trivial
 | (i,t,u)::l,h,hf=>by
  rw [List.all_cons,bT,Bool.not_eq_true'] at hf
  refine⟨fun hi=>?_,dX.no h.2 hf.2⟩
  unfold ins at hi
  rw [hf.1] at hi
  exact h.1 hi
theorem Holds.same {E w:World} {V Γ':List HP} (h:Holds E w V) (e:Γ'=V):Holds E w Γ':=by rw [e];exact h
theorem G5 {V:List HP} {i:Nat} {Pr R:HP} (h:V[i]? =some Pr) (e:R=Pr):V.set i R=V:=by subst e;exact t8 h
theorem Holds.bN {E w:World} {V:List HP} (i:Nat) {b:Bool} {R Pr:HP} (h:Holds E w V) (hb:b=false) (hi:V[i]? =some (bif b then R else Pr):=by exact rfl):Holds E w (V.set i Pr):=h.same (G5 hi (by rw [hb];rfl))
theorem Holds.cF {E w:World} {V:List HP} (i:Nat) {b:Bool} {R Pr:HP} (h:Holds E w V) (hb:b=true) (hi:V[i]? =some (bif b then R else Pr):=by exact rfl):Holds E w (V.set i R):=h.same (G5 hi (by rw [hb];rfl))
theorem Holds.cG {E w:World} {V:List HP} (i:Nat) (b:Bool) {Pr:HP} (h:Holds E w V) (R:HP) (hi:V[i]? =some Pr:=by exact rfl) (hb:b=true:=by exact rfl):Holds E w (V.set i (bif b then Pr else R)):=h.same (G5 hi (by rw [hb];rfl))
theorem Holds.eA {E w:World} {V:List HP} (i:Nat) (b:Bool) {Pr:HP} (h:Holds E w V) (hb:b=false) (R:HP) (hi:V[i]? =some Pr:=by exact rfl):Holds E w (V.set i (bif b then R else Pr)):=h.same (G5 hi (by rw [hb];rfl))
theorem ft {b:Bool} (h1:b=false) (h2:b=true):False:=by rw [h1] at h2;cases h2
theorem agree.at: ∀{l:List (Nat×Value)} (_:agree U l) (k:Nat) {d:Nat} {v:Value} (_:l[k]? =some (d,v)),U d=v
 | [],_,k,_,_,hk=>by simp at hk
 | (d',v')::l,h,0,d,v,hk=>by simp at hk;obtain⟨rfl,rfl⟩:=hk;exact h.1
 | (d',v')::l,h,k+1,d,v,hk=>agree.at h.2 k (by simpa using hk)
def Di (d:Nat):List (Nat×Value)->Bool
 | []=>true
 | (t,_)::l=> !Nat.beq t d&&Di d l
theorem agree.up {d:Nat} {v:Value}: ∀{l:List (Nat×Value)} (_:agree U l) (_:Di d l=true),agree (eL U d v) l
 | [],_,_=>trivial
 | (t,u)::l,h,hf=>by
  unfold Di at hf
  simp only [bT,Bool.not_eq_true'] at hf
  refine⟨?_,agree.up h.2 hf.2⟩
  unfold eL
  rw [hf.1]
  exact h.1
theorem agree.c {d:Nat} {v:Value} {l:List (Nat×Value)} (h:U d=v) (hl:agree U l):agree U ((d,v)::l):=⟨h,hl⟩
theorem agree.z:agree U []:=trivial
theorem dX.none: ∀{dv:List (Nat×Nat×Value)},dX (fun _=>false) U dv
 | []=>trivial
 | (_,_,_)::_=>⟨fun h=>(by cases h),dX.none⟩
variable {ops:Array Oper} {rest:List Oper} {d:Nat} {ty T T':TypeId} {pos:String} {af:Array Edge} {g:Option (Nat×Bool)} {v:Value} {q r:Operand}
theorem xm {f:FuncId} {fn:Func} (e:Array Value->Sem Value) {args:Array Value} (hf:P.funcs[f]? =some fn) (hr: (e args).run P w = .ok v w) (hname: (fn.name== "runtime.NumGoroutine")=false:=by kernel_rfl) (hb:fn.body.isNone=true:=by kernel_rfl) (hn:Extern.findNext fn=none:=by kernel_rfl) (he:Extern.find fn=some e:=by kernel_rfl): (callFunc f args).run P w = .ok (.value v) w:=by
 rw [run_callFunc_extern hf hname hb hn he,hr];rfl
theorem RL.xm {f:FuncId} {args:Array Operand} {ts:Array TypeId} (v:Value) (hd:Nat.blt d n=true) (vs:List Value) (hvs:args.toList.map (ev U)=vs) (hf: (callFunc f vs.toArray).run P w = .ok (.value v) w) (k:RL P n ops rest (eL U d v) w Q) (hg:Wn ops U g:=by exact trivial):
  RL P n ops (⟨some d, .call ⟨.value (.func f),args,ts⟩,ty,pos,af,g⟩::rest) U w Q:=by
 have e:args.map (ev U)=vs.toArray:=by rw [<-hvs];cases args;simp
 refine RL.val hg hd ?_ k
 simp only [execOp,resolve,aO]
 simp only [ev,Deferred.ofValue,e,aW,aU,invoke]
 simpa using hf
end
end Go.Gk
namespace Go.Gk
open Go
theorem str_inj {a b:dA}: (⟨a.cR.toArray⟩:ByteArray)= ⟨b.cR.toArray⟩↔a=b:=by
 constructor
 ·intro h
  have h1:a.cR.toArray=b.cR.toArray:=congrArg ByteArray.data h
  have h2:a.cR=b.cR:=by simpa using h1
  cases a;cases b;simp at h2;rw [h2]
 ·rintro rfl;rfl
theorem Dj (a b:dA): ((⟨a.cR.toArray⟩:ByteArray)==⟨b.cR.toArray⟩)= (decide (a=b)):=by
 have e: ((⟨a.cR.toArray⟩:ByteArray)==⟨b.cR.toArray⟩)= (a.cR.toArray==b.cR.toArray):=rfl
 rw [e,gC,beq_iff_eq,bP]
 exact⟨fun h=>str_inj.1 (congrArg ByteArray.mk h),fun h=>by rw [h]⟩
section
variable {P:Program} {w:World} {T:TypeId} {fs:Array Field} {xs ys:Array Value} {d:Nat}
inductive zc (P:Program) (w:World) (d:Nat) (xs ys:Array Value):List Field->List Bool->Prop
 | nil:zc P w d xs ys [] []
 | cons {f:Field} {l:List Field} {b:Bool} {bs:List Bool} {x y:Value} (hn:f.name≠ "_") (hx: (part f.type xs f.offset).run P w = .ok x w) (hy: (part f.type ys f.offset).run P w = .ok y w)
   (he: (Op.equalIn d f.type x y).run P w = .ok b w) (h:zc P w d xs ys l bs):zc P w d xs ys (f::l) (b::bs)
theorem kS (d:Nat) (hu:P.underlying T=some (.struct fs)) {bs:List Bool} (h:zc P w d xs ys fs.toList bs) (hs:P.stoodInHeld T=false:=by kernel_rfl):
  (Op.equalIn (d+1) T (.agg xs) (.agg ys)).run P w = .ok (bs.all id) w:=by
 obtain⟨l⟩:=fs
 rw [Op.equalIn]
 simp only [aO,run_underlying hu,aU,program,Sem.run,hs,List.forIn_toArray]
 rw [aD (by decide)]
 simp only at h
 simp only [aO,aW,aU]
 clear hu
 induction h with
 | nil=>simp
 | @cons f l b bs x y hn hx hy he h ih=>
  simp only [List.forIn_cons,hn,ne_eq,not_false_eq_true,if_true,aO,hx,hy,he,aU]
  cases b with
  | true=>simpa using ih
  | false=>simp
structure Iu (P:Program) (T:TypeId) (α:Type) [GT α] [DecidableEq α]:Prop where
 eq: ∀(M:dJ) (cs ds:List Value) (a b:α) (w:World),GT.ok M cs a->GT.ok M ds b->(Op.equal T (qX α cs) (qX α ds)).run P w = .ok (decide (a=b)) w
 Mu:P.eqGuardType P.depth T=false
end
section
variable {α:Type} [GT α] [DecidableEq α] {P:Program} {n:Nat} {U:Nat->Value} {w:World} {Q:gq} {E:World} {V:List HP} {i j:Nat}
variable {ops:Array Oper} {rest:List Oper} {d:Nat} {ty T T':TypeId} {pos:String} {af:Array Edge} {g:Option (Nat×Bool)} {v v':Value} {q r:Operand} {a b:α}
theorem run_seq (hw:Holds E w V) (hi:V[i]? =some (rd v a)) (hj:V[j]? =some (rd v' b)) (hT:Iu P T α) (hag:GT.agg α=true):
  ((eqGuard .eql T q r v v').run P w = .ok () w/\(binOp .eql T v v').run P w = .ok (.bool (decide (a=b))) w)/\
  ((eqGuard .neq T q r v v').run P w = .ok () w/\(binOp .neq T v v').run P w = .ok (.bool (!decide (a=b))) w):=by
 obtain⟨M,hs,gd⟩:=hw
 obtain⟨cs,hv,ho⟩:=(gd.sat i _ hi).1
 obtain⟨ds,hv',ho'⟩:=(gd.sat j _ hj).1
 have he:=hT.eq M cs ds a b w ho ho'
 rw [<-hv,<-hv'] at he
 have e1:v = .agg cs.toArray:=by rw [hv];simp [qX,hag]
 have e2:v' = .agg ds.toArray:=by rw [hv'];simp [qX,hag]
 subst e1;subst e2
 refine⟨⟨?_,?_⟩,?_,?_⟩
 ·simp [eqGuard,program,Sem.run,hT.Mu]
 ·simp only [binOp,aO,he,aU,aW]
 ·simp [eqGuard,program,Sem.run,hT.Mu]
 ·simp only [binOp,aO,he,aU,aW]
theorem RL.seq (i j:Nat) (a b:α) (hg:Wn ops U g) (hd:Nat.blt d n=true) (hw:Holds E w V) (hx:ev U q=v) (hy:ev U r=v') (hi:V[i]? =some (rd v a)) (hj:V[j]? =some (rd v' b)) (hT:Iu P T α) (hag:GT.agg α=true) (k:RL P n ops rest (eL U d (.bool (decide (a=b)))) w Q):RL P n ops (⟨some d, .binOp .eql T q r T',ty,pos,af,g⟩::rest) U w Q:=by
 obtain⟨⟨h1,h2⟩,_⟩:=run_seq (q:=q) (r:=r) hw hi hj hT hag
 refine RL.val hg hd ?_ k
 simp only [execOp,hx,hy,aO,h1,aU,h2,aW]
theorem RL.Mv (i j:Nat) (a b:α) (hg:Wn ops U g) (hd:Nat.blt d n=true) (hw:Holds E w V) (hx:ev U q=v) (hy:ev U r=v') (hi:V[i]? =some (rd v a)) (hj:V[j]? =some (rd v' b)) (hT:Iu P T α) (hag:GT.agg α=true) (k:RL P n ops rest (eL U d (.bool (!decide (a=b)))) w Q):RL P n ops (⟨some d, .binOp .neq T q r T',ty,pos,af,g⟩::rest) U w Q:=by
 obtain⟨_,h1,h2⟩:=run_seq (q:=q) (r:=r) hw hi hj hT hag
 refine RL.val hg hd ?_ k
 simp only [execOp,hx,hy,aO,h1,aU,h2,aW]
end
theorem dZ {P:Program} {T:TypeId} (hT:ld P T false 1) {xs:Array Value} {k:Nat} {x:Value} (w:World) (h:xs[k]? =some x:=by exact rfl): (part T xs k).run P w = .ok x w:=by
 simp [part,hT.GR,h]
theorem vz {P:Program} {T:TypeId} {m:Nat} (hT:ld P T true m) {xs ys:Array Value} {k:Nat} (h:xs.extract k (k+m)=ys) (w:World): (part T xs k).run P w = .ok (.agg ys) w:=by
 simp [part,hT.GR,hT.sz,h]
theorem jS {P:Program} {T:TypeId} {K:IntKind} {d:Nat} (hu:P.underlying T=some (.int K)) (a b:Int) (w:World): (Op.equalIn (d+1) T (.int K a) (.int K b)).run P w = .ok (a==b) w:=by
 rw [Op.equalIn]
 simp only [aO,run_underlying hu,aU]
 simp
theorem oR {P:Program} {T:TypeId} {d:Nat} (hu:P.underlying T=some .bool) (a b:Bool) (w:World): (Op.equalIn (d+1) T (.bool a) (.bool b)).run P w = .ok (a==b) w:=by
 rw [Op.equalIn]
 simp only [aO,run_underlying hu,aU]
 simp
theorem CA {P:Program} {T:TypeId} {d:Nat} (hu:P.underlying T=some .string) (a b:dA) (w:World): (Op.equalIn (d+1) T (str a) (str b)).run P w = .ok (decide (a=b)) w:=by
 rw [Op.equalIn]
 simp only [aO,run_underlying hu,aU,str]
 simp [Dj]
def tV {α:Type} (l:List α) (lo hi:Int):Option (List α):=if 0<=lo/\lo<=hi/\hi<=l.length then some ((l.drop lo.toNat).take (hi - lo).toNat) else none
section
variable {α:Type} [GT α] {P:Program} {n:Nat} {U:Nat->Value} {w:World} {Q:gq} {E:World} {V:List HP} {i:Nat}
variable {ops:Array Oper} {rest:List Oper} {d:Nat} {ty T e:TypeId} {pos:String} {af:Array Edge} {g:Option (Nat×Bool)} {v:Value} {q:Operand} {l l':List α} {lo hi:Int}
theorem A7 {M:dJ} {a:Option Addr} {m cap:Nat} (h:l8 M (.slice a m cap) l) (h0:0<=lo) (h1:lo<=hi) (h2:hi<=l.length):
  l8 M (.slice (if cap=lo.toNat then a else a.map (·.add (lo.toNat*GT.sz α))) (hi.toNat - lo.toNat) (cap - lo.toNat)) ((l.drop lo.toNat).take (hi - lo).toNat):=by
 obtain⟨a',m',cap',hv,hm,hc,hx,hel⟩:=h
 injection hv with e1 e2 e3
 subst e1;subst e2;subst e3
 refine⟨_,_,_,rfl,?_,by omega,by omega,fun k x hk=>?_⟩
 ·rw [dE,gR];omega
 ·rw [dM] at hk
  split at hk
  ·rename_i hlt
   rw [eH] at hk
   obtain⟨ad,cs,ha,ho,hat⟩:=hel _ x hk
   have hne:cap≠lo.toNat:=by omega
   refine⟨ad.add (lo.toNat*GT.sz α),cs,by rw [aD hne,ha];rfl,ho,?_⟩
   rw [add_add,<-Nat.add_mul];exact hat
  ·cases hk
theorem t9 {a:Option Addr} {m cap:Nat} {lov hiv:Option Value} (hT:sI P T e (GT.sz α)) (hl:lov=some (.int .i64 lo)\/(lov=none/\lo=0)) (hh:hiv=some (.int .i64 hi)\/(hiv=none/\hi=m))
  (h0:0<=lo) (h1:lo<=hi) (h2:hi<=m) (hc:m<=cap) (w:World):
  (Instr.sliceAt T (.slice a m cap) lov hiv none).run P w = .ok (.slice (if cap=lo.toNat then a else a.map (·.add (lo.toNat*GT.sz α))) (hi.toNat - lo.toNat) (cap - lo.toNat)) w:=by
 have eh: (Instr.sliceBounds true m cap lov hiv none).run P w = .ok (lo.toNat,hi.toNat,cap) w:=by
  unfold Instr.sliceBounds
  have e1: ∀(y:Nat) (c:BoundsCode),hi<=y->(Instr.sliceBound (.int .i64 hi) y c).run P w = .ok hi.toNat w:=fun y c hy=>by
   simp [Instr.sliceBound,asIntOf,show 0<=hi by omega,hy]
  have e2: ∀(y:Nat) (c:BoundsCode),lo<=y->(Instr.sliceBound (.int .i64 lo) y c).run P w = .ok lo.toNat w:=fun y c hy=>by
   simp [Instr.sliceBound,asIntOf,h0,hy]
  rcases hl with rfl | ⟨rfl,rfl⟩ <;> rcases hh with rfl | ⟨rfl,rfl⟩
  ·simp only [aO,aW,aU,e1 cap _ (by omega),e2 _ _ (show lo<=(hi.toNat:Nat) by omega)]
  ·simp only [aO,aW,aU,e2 m _ (by omega)]
   simp
  ·simp only [aO,aW,aU,e1 cap _ (by omega)]
   simp
  ·simp only [aO,aW,aU]
   simp
 unfold Instr.sliceAt
 simp only [aO,run_underlying hT.wW,aU]
 unfold Instr.slice
 simp only [aO,run_underlying hT.wW,aU,eh,hT.sz,aW]
theorem RL.cut {lop hip:Option Operand} (i:Nat) (hw:Holds E w V) (hT:sI P T e (GT.sz α)) (hh:hip.map (ev U)=some (.int .i64 hi)\/(hip.map (ev U)=none/\hi= (l.length:Nat))) (hb:tV l lo hi=some l') (k: ∀v',Holds E w (rd v' l'::V)->RL P n ops rest (eL U d v') w Q) (hg:Wn ops U g:=by exact trivial) (hd:Nat.blt d n=true:=by exact rfl) (hx:ev U q=v:=by exact rfl) (hi':V[i]? =some (rd v l):=by exact rfl) (hl:lop.map (ev U)=some (.int .i64 lo)\/(lop.map (ev U)=none/\lo=0):=by exact(.inl rfl)):
  RL P n ops (⟨some d, .slice T q lop hip none,ty,pos,af,g⟩::rest) U w Q:=by
 unfold tV at hb
 split at hb
 ·rename_i hc
  injection hb with hb
  subst hb
  obtain⟨M,hs,gd⟩:=hw
  have hs':=j7.1 (gd.sat i _ hi').1
  obtain⟨a,m,cap,hv,hm,hcap,_⟩:=hs'
  subst hv
  have hs2:=j7.1 (gd.sat i _ hi').1
  have hcut:=A7 hs2 hc.1 hc.2.1 hc.2.2
  refine RL.val hg hd ?_ (k _ ⟨M,_,gd.fX ⟨j7.2 hcut,rfl⟩⟩)
  have:=t9 (P:=P) (α:=α) (a:=a) (m:=m) (cap:=cap) hT hl (by rw [hm];exact hh) hc.1 hc.2.1 (by rw [hm];exact hc.2.2) hcap w
  simp only [execOp,hx,aO,Option.map_none,this,aU,aW]
 ·cases hb
end
end Go.Gk
namespace Go.Gk
open Go
def tl (s:dA) (lo hi:Int):Option dA:=if 0<=lo/\lo<=hi/\hi<=s.cR.length then some ⟨(s.cR.drop lo.toNat).take (hi - lo).toNat⟩ else none
section
variable {P:Program} {n:Nat} {U:Nat->Value} {w:World} {Q:gq} {E:World} {V:List HP} {i:Nat}
variable {ops:Array Oper} {rest:List Oper} {d:Nat} {ty T T':TypeId} {pos:String} {af:Array Edge} {g:Option (Nat×Bool)} {v:Value} {q r:Operand} {lo hi:Int}
theorem RL.Dk (a b:Bool) (hd:Nat.blt d n=true) (hx:ev U q = .bool a) (hy:ev U r = .bool b) (hu:P.underlying T=some .bool) (k:RL P n ops rest (eL U d (.bool (a != b))) w Q) (hg:Wn ops U g:=by exact trivial):RL P n ops (⟨some d, .binOp .neq T q r T',ty,pos,af,g⟩::rest) U w Q:=by
 refine RL.bin hg hd hx hy (fun _=>rfl) (fun w=>?_) k
 have:=oR (P:=P) (d:=9999) hu a b w
 simp only [binOp,aO,Op.equal,Op.maxDepth,this,aU,aW]
 rfl
theorem RL.tl {lop hip:Option Operand} (s:dA) {s':dA} (hd:Nat.blt d n=true) (hx:ev U q=str s) (hT:P.underlying T=some .string) (hl:lop.map (ev U)=some (.int .i64 lo)\/(lop.map (ev U)=none/\lo=0)) (hh:hip.map (ev U)=some (.int .i64 hi)\/(hip.map (ev U)=none/\hi= (s.cR.length:Nat))) (hb:tl s lo hi=some s') (k:RL P n ops rest (eL U d (str s')) w Q) (hg:Wn ops U g:=by exact trivial):
  RL P n ops (⟨some d, .slice T q lop hip none,ty,pos,af,g⟩::rest) U w Q:=by
 unfold Gk.tl at hb
 split at hb
 ·rename_i hc
  injection hb with hb
  subst hb
  refine RL.val hg hd ?_ k
  have esz: (⟨s.cR.toArray⟩:ByteArray).size=s.cR.length:=rfl
  have eb: (Instr.sliceBounds false s.cR.length s.cR.length (lop.map (ev U)) (hip.map (ev U)) none).run P w = .ok (lo.toNat,hi.toNat,s.cR.length) w:=by
   unfold Instr.sliceBounds
   have e1: ∀(y:Nat) (c:BoundsCode),hi<=y->(Instr.sliceBound (.int .i64 hi) y c).run P w = .ok hi.toNat w:=fun y c hy=>by
    simp [Instr.sliceBound,asIntOf,show 0<=hi by omega,hy]
   have e2: ∀(y:Nat) (c:BoundsCode),lo<=y->(Instr.sliceBound (.int .i64 lo) y c).run P w = .ok lo.toNat w:=fun y c hy=>by
    simp [Instr.sliceBound,asIntOf,hc.1,hy]
   rcases hl with hl | ⟨hl,rfl⟩ <;> rcases hh with hh | ⟨hh,rfl⟩ <;> rw [hl,hh]
   ·simp only [aO,aW,aU,e1 _ _ hc.2.2,e2 _ _ (show lo<=(hi.toNat:Nat) by omega)]
   ·simp only [aO,aW,aU,e2 _ _ hc.2.1]
    simp
   ·simp only [aO,aW,aU,e1 _ _ hc.2.2]
    simp
   ·simp only [aO,aW,aU]
    simp
  have ex: (⟨s.cR.toArray⟩:ByteArray).extract lo.toNat hi.toNat= ⟨((s.cR.drop lo.toNat).take (hi - lo).toNat).toArray⟩:=by
   apply ByteArray.ext
   simp only [ByteArray.data_extract]
   apply Array.ext'
   simp only [Array.toList_extract,List.extract_eq_take_drop]
   congr 1
   omega
  simp only [execOp,hx,aO,Option.map_none,Instr.sliceAt,run_underlying hT,aU,Instr.slice,str]
  simp only [Option.isSome_none,esz]
  rw [aD (by decide)]
  simp only [aO,eb,aU,aW,ex]
 ·cases hb
end
end Go.Gk
namespace Go.Gk
open Go
def A8 {α:Type} (a:Nat) (ds xs:List α):List α:=xs.take a++ds++xs.drop (a+ds.length)
theorem qd {α:Type} {a:Nat} {ds xs:List α} (h:a+ds.length<=xs.length): (A8 a ds xs).length=xs.length:=by
 unfold A8;rw [dR,dR,dE,gR];omega
theorem uc {α:Type} {a:Nat} {ds xs:List α} (h:a+ds.length<=xs.length) (t:Nat):
  (A8 a ds xs)[t]? =if t<a then xs[t]? else if t<a+ds.length then ds[t - a]? else xs[t]? :=by
 unfold A8
 have hl: (xs.take a).length=a:=by rw [dE];omega
 by_cases h1:t<a
 ·rw [aC h1,jg,fO (by omega),dM,aC h1]
 ·rw [aD h1,jg,fz (by omega),hl]
  by_cases h2:t<a+ds.length
  ·rw [aC h2,fO (by omega)]
  ·rw [aD h2,fz (by omega),eH]
   congr 1;omega
def GU (v:Value) (k sz off:Nat) (p:Value):Prop:=∃a n c,v = .slice (some a) n c/\p = .pointer (some (a.add (k*sz+off)))
theorem oS {i k sz:Nat} (h:i<k):i*sz+sz<=k*sz:=by
 calc i*sz+sz= (i+1)*sz:=by rw [Nat.add_mul,Nat.one_mul]
  _<=k*sz:=Nat.mul_le_mul_right _ h
section
variable {α β:Type} [GT α] [GT β] {P:Program} {n:Nat} {U:Nat->Value} {w:World} {Q:gq} {E:World} {V:List HP} {i j:Nat}
variable {ops:Array Oper} {rest:List Oper} {d:Nat} {ty T T' e:TypeId} {pos:String} {af:Array Edge} {g:Option (Nat×Bool)} {v u p:Value} {q r:Operand} {l l':List α} {x:α} {jj:Int} {k off:Nat}
theorem bB {α:Type} {l:List α} {jj:Int} {x:α} (h:idx l jj=some x):0<=jj/\l[jj.toNat]? =some x/\jj.toNat<l.length:=by
 unfold idx at h
 split at h
 ·rename_i h0;exact⟨h0,h,(bC.1 h).1⟩
 ·cases h
theorem RL.Iv {K:IntKind} (hg:Wn ops U g) (hd:Nat.blt d n=true) (hw:Holds E w V) (hx:ev U q=v) (hy:ev U r = .int K jj) (hi:V[i]? =some (own e v l))
  (hT:sI P T e (GT.sz α)) (hj:idx l jj=some x) (kk: ∀p,GU v jj.toNat (GT.sz α) 0 p->RL P n ops rest (eL U d p) w Q):
  RL P n ops (⟨some d, .indexAddr T q r,ty,pos,af,g⟩::rest) U w Q:=by
 obtain⟨h0,hx',hlt⟩:=bB hj
 obtain⟨M,hs,gd⟩:=hw
 rcases gd.sat i _ hi with ⟨rfl,rfl,_⟩ | ⟨b,o,cap,cur,xs,rfl,h2,_⟩
 ·simp at hlt
 ·refine RL.val (v:= .pointer (some ((⟨b,o,none⟩:Addr).add (jj.toNat*GT.sz α)))) hg hd ?_ (kk _ ⟨_,_,_,rfl,by rw [Nat.add_zero]⟩)
  have hlt':jj< (l.length:Nat):=by omega
  simp only [execOp,hx,hy,Instr.indexAt,asIntOf,aO,aW,aU,run_underlying hT.wW,hT.sz,h0,hlt',and_self,if_true]
def zd (v:Value) (k sz off:Nat):Value:=match v with | .slice (some a) _ _=> .pointer (some (a.add (k*sz+off))) | _=>undef
theorem jG {w E:World} {V:List HP} (i:Nat) {v:Value} {l:List α} {jj:Int} {x:α} (hw:Holds E w V) (hx:idx l jj=some x) (off:Nat) (hi:V[i]? =some (own e v l):=by exact rfl):GU v jj.toNat (GT.sz α) off (zd v jj.toNat (GT.sz α) off):=by
 obtain⟨h0,hx',hlt⟩:=bB hx
 obtain⟨M,hs,gd⟩:=hw
 rcases gd.sat i _ hi with ⟨rfl,rfl,_⟩ | ⟨b,o,cap,cur,xs,rfl,h2,_⟩
 ·simp at hlt
 ·exact⟨_,_,_,rfl,rfl⟩
theorem RL.bQ {K:IntKind} (i:Nat) (hw:Holds E w V) (hx:ev U q=v) (hi:V[i]? =some (own e v l)) (hT:sI P T e (GT.sz α)) (hj:idx l jj=some x) (kk:RL P n ops rest (eL U d (zd v jj.toNat (GT.sz α) 0)) w Q) (hg:Wn ops U g:=by exact trivial) (hd:Nat.blt d n=true:=by exact rfl) (hy:ev U r = .int K jj:=by exact rfl):
  RL P n ops (⟨some d, .indexAddr T q r,ty,pos,af,g⟩::rest) U w Q:=
 RL.Iv hg hd hw hx hy hi hT hj fun p hp=>by
  obtain⟨a,n',c,hv,rfl⟩:=hp
  have:zd v jj.toNat (GT.sz α) 0 = .pointer (some (a.add (jj.toNat*GT.sz α+0))):=by rw [hv];rfl
  rw [<-this];exact kk
theorem RL.Jk {m jx:Nat} (hg:Wn ops U g) (hd:Nat.blt d n=true) (hx:ev U q=p) (hp:GU v k (GT.sz α) off p) (hf:l9 P T jx m)
  (kk: ∀p',GU v k (GT.sz α) (off+m) p'->RL P n ops rest (eL U d p') w Q):RL P n ops (⟨some d, .fieldAddr T q jx,ty,pos,af,g⟩::rest) U w Q:=by
 obtain⟨a,n',c,hv,hp⟩:=hp
 refine RL.val (v:= .pointer (some ((a.add (k*GT.sz α+off)).add m))) hg hd ?_ (kk _ ⟨a,n',c,hv,by rw [add_add,Nat.add_assoc]⟩)
 simp only [execOp,hx,hp,aO,hf.run,aU,aW]
theorem RL.m8 {m jx:Nat} (hp:GU v k (GT.sz α) off (zd v k (GT.sz α) off)) (hf:l9 P T jx m) (kk:RL P n ops rest (eL U d (zd v k (GT.sz α) (off+m))) w Q) (hg:Wn ops U g:=by exact trivial) (hd:Nat.blt d n=true:=by exact rfl) (hx:ev U q=zd v k (GT.sz α) off:=by exact rfl):RL P n ops (⟨some d, .fieldAddr T q jx,ty,pos,af,g⟩::rest) U w Q:=
 RL.Jk (α:=α) hg hd hx hp hf fun p hp=>by
  obtain⟨a,n',c,hv,rfl⟩:=hp
  have:zd v k (GT.sz α) (off+m) = .pointer (some (a.add (k*GT.sz α+ (off+m)))):=by rw [hv];rfl
  rw [<-this];exact kk
theorem RL.iX {f:α->β} (i:Nat) (hw:Holds E w V) (hp:GU v k (GT.sz α) off p) (hl:l[k]? =some x) (hF:Fd off f) (hT:ld P T (GT.agg β) (GT.sz β)) (kk: ∀u,Holds E w (rd u (f x)::V)->RL P n ops rest (eL U d u) w Q) (hg:Wn ops U g:=by exact trivial) (hd:Nat.blt d n=true:=by exact rfl) (hx:ev U q=p:=by exact rfl) (hi:V[i]? =some (own e v l):=by exact rfl):RL P n ops (⟨some d, .load T q,ty,pos,af,g⟩::rest) U w Q:=by
 obtain⟨M,hs,gd⟩:=hw
 obtain⟨a,n',c,hv,hpp⟩:=hp
 have hkl:=(bC.1 hl).1
 rcases gd.sat i _ hi with ⟨hv',rfl,_⟩ | ⟨b,o,cap,cur,xs,hv',h2,h3,h4,h5,h6,h7⟩
 ·simp at hkl
 ·rw [hv] at hv'
  injection hv' with e1 e2 e3
  injection e1 with e1
  subst e1
  have hb:=gd.le i b _ (cK hi) (by rw [h4];exact dC b _)
  have ho:=hF M _ x (h7.2 k x hl)
  refine RL.val (v:=qX β ((((xs.drop (k*GT.sz α)).take (GT.sz α)).drop off).take (GT.sz β))) hg hd ?_ (kk _ ⟨M,_,gd.fX ⟨⟨_,rfl,ho⟩,rfl⟩⟩)
  simp only [execOp,hx,hpp,Instr.loadAt,Instr.sureAddr,aO,aW,aU]
  rw [kx hT ho (fun t y hy=>?_)]
  rfl
  rw [Addr.add_lit,Addr.add_lit,cell_of_row w b _ _ _ _ hb,<-Array.getElem?_toList]
  rw [dM] at hy
  split at hy
  ·rw [eH,dM] at hy
   split at hy
   ·rw [eH,<-h6,dM] at hy
    split at hy
    ·rw [eH] at hy
     rw [<-hy];congr 1;omega
    ·cases hy
   ·cases hy
  ·cases hy
theorem RL.dL {γ:Type} [Sc γ] {f:α->γ} (i:Nat) (hw:Holds E w V) (hp:GU v k (GT.sz α) off p) (hl:l[k]? =some x) (hF:Fd off f) (hT:ld P T false 1) (kk:RL P n ops rest (eL U d (Sc.toV (f x))) w Q) (hg:Wn ops U g:=by exact trivial) (hd:Nat.blt d n=true:=by exact rfl) (hx:ev U q=p:=by exact rfl) (hi:V[i]? =some (own e v l):=by exact rfl):RL P n ops (⟨some d, .load T q,ty,pos,af,g⟩::rest) U w Q:=by
 refine RL.iX (hg:=hg) (hd:=hd) (hx:=hx) (hi:=hi) (f:=f) _ hw hp hl hF hT fun u h=>?_
 rw [h.zY (i:=0) rfl];exact kk
theorem RL.gE {f:α->β->α} {y:β} (i j:Nat) (hw:Holds E w V) (hp:GU v k (GT.sz α) off p) (hl:l[k]? =some x) (hj:V[j]? =some (rd u y)) (hF:Fs off β f) (hT:ld P T (GT.agg β) (GT.sz β)) (kk: ∀w',Holds E w' (V.set i (own e v (l.set k (f x y))))->RL P n ops rest U w' Q) (hg:Wn ops U g:=by exact trivial) (hx:ev U q=p:=by exact rfl) (hy:ev U r=u:=by exact rfl) (hi:V[i]? =some (own e v l):=by exact rfl) (hm:off+GT.sz β<=GT.sz α:=by decide):
  RL P n ops (⟨none, .store T q r,ty,pos,af,g⟩::rest) U w Q:=by
 obtain⟨M,hs,gd⟩:=hw
 obtain⟨a,n',c,hv,hpp⟩:=hp
 have hkl:=(bC.1 hl).1
 have hr:=(gd.sat j _ hj).1
 rcases gd.sat i _ hi with ⟨hv',rfl,_⟩ | ⟨b,o,cap,cur,xs,hv',h2,h3,h4,h5,h6,h7⟩
 ·simp at hkl
 ·have hv0:=hv'
  rw [hv] at hv'
  injection hv' with e1 e2 e3
  injection e1 with e1
  subst e1
  have hb:=gd.le i b _ (cK hi) (by rw [h4];exact dC b _)
  have hc:u.cells.size=GT.sz β:=by rw [<-GT.len hr.cells];simp
  have hcl:u.cells.toList.length=GT.sz β:=GT.len hr.cells
  have hks:=oS (sz:=GT.sz α) hkl
  have hcap:l.length*GT.sz α<=cap*GT.sz α:=Nat.mul_le_mul_right _ h2
  have hcs:o+cap*GT.sz α<=cur.toList.length:=h5
  have hrun:=ma (P:=P) (v:=u) (o:=o+ (k*GT.sz α+off)) hT.sz hc (GT.one hr.cells) hb (by omega)
  have hnew: (cur.toList.take (o+ (k*GT.sz α+off))++u.cells.toList++cur.toList.drop (o+ (k*GT.sz α+off)+GT.sz β))=A8 (o+ (k*GT.sz α+off)) u.cells.toList cur.toList:=by
   unfold A8;rw [hcl]
  rw [hnew] at hrun
  have hfit:o+ (k*GT.sz α+off)+u.cells.toList.length<=cur.toList.length:=by rw [hcl];omega
  have hxl:xs.length=l.length*GT.sz α:=h7.1
  have hget: ∀t,xs[t]? =if t<l.length*GT.sz α then cur.toList[o+t]? else none:=fun t=>by
   rw [<-h6,dM,eH]
  refine RL.unit hg ?_ (kk _ (ky (P':=own e v (l.set k (f x y))) (new:=(A8 (o+ (k*GT.sz α+off)) u.cells.toList cur.toList).toArray) gd hi h4 (.inr ⟨b,o,cap,_,((A8 (o+ (k*GT.sz α+off)) u.cells.toList cur.toList).drop o).take (l.length*GT.sz α),by rw [gT];exact hv0,by rw [gT];exact h2,h3,rfl,?_,by rw [gT],?_⟩)))
  ·simp only [execOp,hx,hy,hpp,Instr.storeAt,Instr.sureAddr,aO,aW,aU,Addr.add_lit,hrun]
  ·rw [List.size_toArray,qd hfit];exact hcs
  ·refine⟨by rw [dE,gR,qd hfit,gT];omega,fun m z hz=>?_⟩
   rw [fA] at hz
   by_cases hmk:k=m
   ·subst hmk
    rw [aC rfl,aC hkl] at hz
    injection hz with hz
    subst hz
    have hok:=hF M _ _ x y (h7.2 k x hl) hr.cells
    have heq: (List.drop (k*GT.sz α) (((A8 (o+ (k*GT.sz α+off)) u.cells.toList cur.toList).drop o).take (l.length*GT.sz α))).take (GT.sz α) =
      (List.take (GT.sz α) (List.drop (k*GT.sz α) xs)).take off++u.cells.toList++(List.take (GT.sz α) (List.drop (k*GT.sz α) xs)).drop (off+GT.sz β):=by
     have e0: (List.take (GT.sz α) (List.drop (k*GT.sz α) xs)).take off++u.cells.toList++(List.take (GT.sz α) (List.drop (k*GT.sz α) xs)).drop (off+GT.sz β)=A8 off u.cells.toList (List.take (GT.sz α) (List.drop (k*GT.sz α) xs)):=by
      unfold A8;rw [hcl]
     rw [e0]
     apply List.ext_getElem?
     intro t
     rw [uc (by rw [hcl,dE,gR];omega),dM,eH,dM,eH,uc hfit,hcl]
     simp only [dM,eH,hget]
     by_cases ht:t<GT.sz α
     ·rw [aC ht,aC (by omega)]
      by_cases h1:t<off
      ·rw [aC (by omega),aC h1,aC ht,aC (by omega)]
      ·rw [aD (by omega),aD h1]
       by_cases h2':t<off+GT.sz β
       ·rw [aC (by omega),aC h2'];congr 1;omega
       ·rw [aD (by omega),aD h2',aC ht,aC (by omega)]
     ·rw [aD ht,aD (by omega),aD (by omega),aD ht]
    rw [heq];exact hok
   ·rw [aD hmk] at hz
    have hml:=(bC.1 hz).1
    have hms:=oS (sz:=GT.sz α) hml
    have hok:=h7.2 m z hz
    have heq: (List.drop (m*GT.sz α) (((A8 (o+ (k*GT.sz α+off)) u.cells.toList cur.toList).drop o).take (l.length*GT.sz α))).take (GT.sz α)= (List.drop (m*GT.sz α) xs).take (GT.sz α):=by
     apply List.ext_getElem?
     intro t
     simp only [dM,eH,uc hfit,hcl,hget]
     by_cases ht:t<GT.sz α
     ·rw [aC ht,aC ht,aC (show m*GT.sz α+t<l.length*GT.sz α by omega),aC (show m*GT.sz α+t<l.length*GT.sz α by omega)]
      rcases Nat.lt_or_gt_of_ne hmk with h1 | h1
      ·have:=oS (sz:=GT.sz α) h1
       rw [aD (by omega),aD (by omega)]
      ·have:=oS (sz:=GT.sz α) h1
       rw [aC (by omega)]
     ·rw [aD ht,aD ht]
    rw [heq];exact hok
theorem RL.z7 {lop hip:Option Operand} {lo hi:Int} (i:Nat) (hd:Nat.blt d n=true) (hw:Holds E w V) (hx:ev U q=v) (hi':V[i]? =some (own e v l)) (hT:sI P T e (GT.sz α)) (hl:lop.map (ev U)=some (.int .i64 lo)\/(lop.map (ev U)=none/\lo=0)) (hb:tV l lo hi=some l') (kk: ∀v',Holds E w (V.set i (own e v' l'))->RL P n ops rest (eL U d v') w Q) (hg:Wn ops U g:=by exact trivial) (hh:hip.map (ev U)=some (.int .i64 hi)\/(hip.map (ev U)=none/\hi= (l.length:Nat)):=by exact(.inl rfl)):
  RL P n ops (⟨some d, .slice T q lop hip none,ty,pos,af,g⟩::rest) U w Q:=by
 unfold tV at hb
 split at hb
 ·rename_i hc
  injection hb with hb
  subst hb
  obtain⟨M,hs,gd⟩:=hw
  have hlt:=cK hi'
  have hlen: ((l.drop lo.toNat).take (hi - lo).toNat).length=hi.toNat - lo.toNat:=by rw [dE,gR];omega
  rcases gd.sat i _ hi' with ⟨rfl,rfl,hh0⟩ | ⟨b,o,cap,cur,xs,rfl,h2,h3,h4,h5,h6,h7⟩
  ·have hr:=t9 (P:=P) (α:=α) (a:=none) (m:=0) (cap:=0) hT hl hh hc.1 hc.2.1 hc.2.2 (bM _) w
   have h00:hi.toNat - lo.toNat=0:=by have:=hc.2.2;simp at this;omega
   have hlo:lo.toNat=0:=by have h1:=hc.2.1;have h2:=hc.2.2;simp at h2;omega
   refine RL.val (v:= .slice none 0 0) hg hd ?_ (kk _ ⟨M,_,gd.update (P':=own e _ _) hlt oE (.inl ⟨rfl,by rw [List.drop_nil,List.take_nil],rfl⟩) rfl rfl rfl (fun _ _ h=>by cases h) (fun _ _ h=>by cases h) (fun _ _ _=>rfl)⟩)
   rw [h00,hlo] at hr
   simp only [execOp,hx,aO,Option.map_none,hr,aU,aW]
   simp
  ·have hr:=t9 (P:=P) (α:=α) (a:=some ⟨b,o,none⟩) (m:=l.length) (cap:=cap) hT hl hh hc.1 hc.2.1 hc.2.2 h2 w
   have hxl:xs.length=l.length*GT.sz α:=h7.1
   have hself:lL hs i (hs i)=hs:=by funext t;unfold lL;split <;> simp_all
   by_cases hce:cap=lo.toNat
   ·
    have h00:hi.toNat - lo.toNat=0:=by have h1:=hc.2.1;have h2:=hc.2.2;omega
    have hz: (l.drop lo.toNat).take (hi - lo).toNat= []:=List.eq_nil_of_length_eq_zero (by rw [hlen,h00])
    have hz':l.length=cap:=by have h1:=hc.2.1;have h2':=hc.2.2;omega
    rw [hz] at kk
    refine RL.val (v:= .slice (some ⟨b,o,none⟩) 0 0) hg hd ?_ (kk _ ⟨M,_,gd.update (P':=own e (.slice (some ⟨b,o,none⟩) 0 0) ([]:List α)) hlt (hs i) ?_ rfl rfl rfl (fun b' o' hb'=>gd.le i b' o' hlt hb') (fun b' o' hb'=> .inl ⟨o',hb'⟩) (fun _ _ _=>rfl)⟩)
    ·rw [h00,aC hce,<-hce,Nat.sub_self] at hr
     simp only [execOp,hx,aO,Option.map_none,hr,aU,aW]
    ·exact .inr ⟨b,o,0,cur,[],rfl,bM _,by simp [maxLen],h4,by omega,by simp,Cells.nil⟩
   ·refine RL.val (v:= .slice (some ⟨b,o+lo.toNat*GT.sz α,none⟩) ((l.drop lo.toNat).take (hi - lo).toNat).length (cap - lo.toNat)) hg hd ?_ (kk _ ⟨M,_,gd.update (P':=own e _ _) hlt (hs i) (.inr ⟨b,o+lo.toNat*GT.sz α,cap - lo.toNat,cur,(xs.drop (lo.toNat*GT.sz α)).take ((hi - lo).toNat*GT.sz α),rfl,?_,by omega,h4,?_,?_,?_⟩) rfl rfl rfl (fun b' o' hb'=>gd.le i b' o' hlt hb') (fun b' o' hb'=> .inl ⟨o',hb'⟩) (fun _ _ _=>rfl)⟩)
    ·simp only [execOp,hx,aO,Option.map_none,hr,aU,aW,aD hce,Option.map_some,Addr.add_lit,hlen]
    ·rw [hlen];have:=hc.2.2;omega
    ·rw [Nat.sub_mul]
     have:lo.toNat*GT.sz α<=cap*GT.sz α:=Nat.mul_le_mul_right _ (by have h1:=hc.2.1;have h2:=hc.2.2;omega)
     omega
    ·rw [hlen,<-h6]
     have e1: (hi - lo).toNat=hi.toNat - lo.toNat:=by omega
     rw [e1,List.drop_take,List.drop_drop,List.take_take]
     congr 1
     have:hi.toNat*GT.sz α<=l.length*GT.sz α:=Nat.mul_le_mul_right _ (by have:=hc.2.2;omega)
     rw [Nat.sub_mul];omega
    ·refine⟨?_,fun m z hz=>?_⟩
     ·rw [dE,gR,hxl,hlen]
      have e1: (hi - lo).toNat=hi.toNat - lo.toNat:=by omega
      have:hi.toNat*GT.sz α<=l.length*GT.sz α:=Nat.mul_le_mul_right _ (by have:=hc.2.2;omega)
      rw [e1,Nat.sub_mul];omega
     ·rw [dM] at hz
      split at hz
      ·rename_i hm
       rw [eH] at hz
       have:=h7.2 _ z hz
       have hms:=oS (sz:=GT.sz α) hm
       rw [List.drop_take,List.drop_drop,List.take_take,Nat.min_eq_left (by omega),<-Nat.add_mul]
       exact this
      ·cases hz
 ·cases hb
end
end Go.Gk
namespace Go.Gk
open Go
def mk {α:Type} (bytes:Nat) (z:α) (n:Int):Option (List α):=if 0<=n/\n*bytes<=140737488355328 then some (List.replicate n.toNat z) else none
def GV (P:Program) (e:TypeId) {α:Type} [GT α] (z0:α):Prop:=∀(M:dJ) (z:Value),(P.info? e).bind (·.zero)=some z->GT.ok M z.cells.toList z0
section
variable {α:Type} [GT α] {P:Program} {n:Nat} {U:Nat->Value} {w:World} {Q:gq} {E:World} {V:List HP} {i:Nat}
variable {ops:Array Oper} {rest:List Oper} {d:Nat} {ty t e:TypeId} {pos:String} {af:Array Edge} {g:Option (Nat×Bool)} {q r:Operand} {bytes:Nat} {l':List α} {z0:α} {k:Int}
theorem RL.mk (k:Int) (hw:Holds E w V) (hT:pY P t e (GT.sz α) bytes) (hz0:GV P e z0) (hb:Gk.mk bytes z0 k=some l') (kk: ∀v w',Holds E w' (own e v l'::V)->RL P n ops rest (eL U d v) w' Q) (hg:Wn ops U g:=by exact trivial) (hd:Nat.blt d n=true:=by exact rfl) (hx:ev U q = .int .i64 k:=by exact rfl) (hy:ev U r = .int .i64 k:=by exact rfl):RL P n ops (⟨some d, .makeSlice t q r,ty,pos,af,g⟩::rest) U w Q:=by
 obtain⟨inf,z,hi,hz,hsz,hby,hzs⟩:=hT.inf
 unfold Gk.mk at hb
 split at hb
 case isFalse=>cases hb
 rename_i hc
 injection hb with hb
 subst hb
 obtain⟨m,rfl⟩:=Int.eq_ofNat_of_zero_le hc.1
 rw [bY] at kk
 have h1:m*bytes<=140737488355328:=by have:=hc.2;omega
 have h2:m<=140737488355328:=l7 (Nat.le_mul_of_pos_right _ hT.pos) h1
 have hbn: ((inf.bytes:Int))* (m:Int)<=281474976710656:=by
  have h3: ((inf.bytes*m:Nat):Int)<=281474976710656:=by rw [hby,Nat.mul_comm];omega
  rwa [Int.natCast_mul] at h3
 have hr:=run_make (P:=P) w t e inf z hT.wW hi hz .i64 .i64 m m (by omega) (Int.le_refl _) hbn (by omega)
 simp only [bY] at hr
 refine RL.val (v:= .slice (some ⟨w.heap.size,0,none⟩) m m) (w':=w.alloc (.cells (madeCells z.cells (m*inf.size)) e)) hg hd ?_ (kk _ _ (hw.alloc _ fun M hs gd=> .inr ⟨w.heap.size,0,m,madeCells z.cells (m*inf.size),_,by rw [List.length_replicate],by rw [List.length_replicate];exact bM _,by simp only [maxLen];omega,rfl,?_,rfl,?_⟩))
 ·simp only [execOp,hx,hy,aO,hr,aU,aW]
 ·simp only [size_madeCells,hsz];omega
 ·have hok:=hz0 M z (by rw [hi];exact hz)
  have hml: (madeCells z.cells (m*inf.size)).toList.length=m*GT.sz α:=by rw [Array.length_toList,size_madeCells,hsz]
  refine⟨by rw [dE,gR,hml,List.length_replicate];omega,fun a x hx=>?_⟩
  rw [List.getElem?_replicate] at hx
  split at hx
  ·rename_i ha
   injection hx with hx
   subst hx
   have hms:=oS (sz:=GT.sz α) ha
   have: (List.drop (a*GT.sz α) ((List.drop 0 (madeCells z.cells (m*inf.size)).toList).take ((List.replicate m z0).length*GT.sz α))).take (GT.sz α)=z.cells.toList:=by
    apply List.ext_getElem?
    intro t
    have hzl:z.cells.toList.length=GT.sz α:=by rw [Array.length_toList];exact hzs
    simp only [dM,eH,List.length_replicate,gj]
    by_cases ht:t<GT.sz α
    ·have hlt:a*GT.sz α+t< (madeCells z.cells (m*inf.size)).size:=by rw [size_madeCells,hsz];omega
     rw [aC ht,aC (by omega),Array.getElem?_toList,fN hlt,aJ (show t<z.cells.toList.length by omega)]
     simp only [madeCells,Array.getElem_map,Array.getElem_range,hzs]
     have hmod: (a*GT.sz α+t) % GT.sz α=t:=by rw [Nat.mul_comm,Nat.mul_add_mod,Nat.mod_eq_of_lt ht]
     rw [hmod]
     rw [getElem!_pos z.cells t (by omega)]
     simp
    ·rw [aD ht,List.getElem?_eq_none (by omega)]
   rw [this];exact hok
  ·cases hx
end
class KV (κ:Type) [GT κ] where
 cs:κ->List Value
 spec: ∀{M:dJ} {c:List Value} {k:κ},GT.ok M c k->c=cs k
 ok: ∀(M:dJ) (k:κ),GT.ok M (cs k) k
instance instKVSc {α:Type} [Sc α]:KV α:=⟨fun x=>[Sc.toV x],fun h=>h,fun _ _=>rfl⟩
instance instKVProd {α β:Type} [GT α] [GT β] [KV α] [KV β]:KV (α×β):=
 ⟨fun x=>KV.cs x.1++KV.cs x.2,fun⟨_,_,e,h1,h2⟩=>by rw [e,KV.spec h1,KV.spec h2],fun M x=>⟨_,_,rfl,KV.ok M x.1,KV.ok M x.2⟩⟩
def KV.enc {κ:Type} [GT κ] [KV κ] (k:κ):Value:=qX κ (KV.cs k)
theorem KV.Jl {κ:Type} [GT κ] [KV κ] {M:dJ} {v:Value} {k:κ} (h:ti M v k):v=KV.enc k:=by
 obtain⟨cs,e,h⟩:=h
 rw [e,KV.spec h];rfl
theorem KV.rd {κ:Type} [GT κ] [KV κ] (M:dJ) (k:κ):ti M (KV.enc k) k:=⟨_,rfl,KV.ok M k⟩
structure wF (P:Program) (kt:TypeId) (κ:Type) [GT κ] [KV κ] [DecidableEq κ]:Prop where
 Je: ∀(b:Bool) (k:κ) (w:World),(Instr.checkKey b 10000 kt (KV.enc k)).run P w = .ok () w
 eq: ∀(a b:κ) (w:World),(Op.equal kt (KV.enc a) (KV.enc b)).run P w = .ok (decide (a=b)) w
 now: (∀(a b:κ),∃D,P.underlying kt=some D/\Instr.sameNow D (KV.enc a) (KV.enc b)=some (decide (a=b)))\/(∃D,P.underlying kt=some D/\∀(a b:κ),Instr.sameNow D (KV.enc a) (KV.enc b)=none)
 bits: ∀(a:κ),Instr.sameBits 10000 (KV.enc a) (KV.enc a)=true
section
variable {κ ν:Type} [GT κ] [KV κ] [GT ν]
def mq (M:dJ):List MapEntry->List (κ×ν)->Prop
 | [],[]=>True
 | e::es,p::m=>e.key=KV.enc p.1/\ti M e.val p.2/\mq M es m
 | _,_=>False
theorem mq.mono {M M':dJ} (h:hle M M'): ∀{es:List MapEntry} {m:List (κ×ν)},mq M es m->mq M' es m
 | [],[],_=>trivial
 | e::es,p::m,⟨h1,h2,h3⟩=>⟨h1,h2.mono h,mq.mono h h3⟩
 | [],_::_,h=>h.elim
 | _::_,[],h=>h.elim
def mp (v:Value) (m:List (κ×ν)):HP:=
 ⟨fun M h=>∃r es clock,v = .map (some r)/\mq M (Array.toList es) m/\h=Gk.one r (.map es clock),fun k ⟨r,es,c,hv,he,hh⟩=>⟨r,es,c,hv,mq.mono k he,hh⟩⟩
end
section
variable {κ ν:Type} [GT κ] [KV κ] [DecidableEq κ] [GT ν]
def kz (m:List (κ×ν)) (k:κ):Option Nat:=m.findIdx? (fun p=>decide (k=p.1))
def dH (m:List (κ×ν)) (k:κ) (z:ν):ν:=match m.find? (fun p=>decide (k=p.1)) with | some p=>p.2 | none=>z
def gK (m:List (κ×ν)) (k:κ):Bool:=m.any (fun p=>decide (k=p.1))
def nT (m:List (κ×ν)) (k:κ) (x:ν):List (κ×ν):=
 match m with
 | []=>[(k,x)]
 | p::m=>if k=p.1 then (k,x)::m else p::nT m k x
variable {P:Program} {n:Nat} {U:Nat->Value} {w:World} {Q:gq} {E:World} {V:List HP} {i j l:Nat}
variable {ops:Array Oper} {rest:List Oper} {d:Nat} {ty T kt et:TypeId} {pos:String} {af:Array Edge} {g:Option (Nat×Bool)} {v kv u:Value} {q qk qv:Operand} {r:Nat} {m:List (κ×ν)} {k:κ} {x z0:ν}
theorem run_findKey (hK:wF P kt κ) (M:dJ) {es:List MapEntry} (he:mq M es m) (w:World):
  ∃o,(Instr.findKey kt (KV.enc k) es).run P w = .ok o w/\
   match o with
   | some (a,y)=>∃x,kz m k=some a/\m.find? (fun p=>decide (k=p.1))=some (k,x)/\ti M y x/\∃en,es[a]? =some en/\en.key=KV.enc k
   | none=>kz m k=none/\m.find? (fun p=>decide (k=p.1))=none:=by
 have ask: ∀(es:List MapEntry) (m:List (κ×ν)) (a:Nat),mq M es m->∃o,(Instr.findAsking kt (KV.enc k) es a).run P w = .ok o w/\
   (match o with
   | some (b,y)=>∃c x,b=a+c/\kz m k=some c/\m.find? (fun p=>decide (k=p.1))=some (k,x)/\ti M y x/\∃en,es[c]? =some en/\en.key=KV.enc k
   | none=>kz m k=none/\m.find? (fun p=>decide (k=p.1))=none):=by
  intro es
  induction es with
  | nil=>intro m a he;cases m with
   | nil=>exact⟨none,rfl,rfl,rfl⟩
   | cons p m=>exact he.elim
  | cons en es ih=>
   intro m a he
   cases m with
   | nil=>exact he.elim
   | cons p m=>
    obtain⟨h1,h2,h3⟩:=he
    obtain⟨p1,p2⟩:=p
    simp only at h1 h2
    rw [Instr.findAsking]
    simp only [aO,h1,hK.eq,aU]
    by_cases e:k=p1
    ·subst e
     refine⟨some (a,en.val),by simp [aW],0,p2,rfl,?_,?_,h2,en,rfl,h1⟩
     ·simp [kz,List.findIdx?_cons]
     ·simp
    ·obtain⟨o,ho,hs⟩:=ih m (a+1) h3
     refine⟨o,by simp only [bG e];simpa using ho,?_⟩
     cases o with
     | none=>
      obtain⟨s1,s2⟩:=hs
      refine⟨?_,?_⟩
      ·simp only [kz,List.findIdx?_cons,bG e] at s1 ⊢;simpa using s1
      ·simpa [List.find?_cons,bG e] using s2
     | some by_=>
      obtain⟨b,y⟩:=by_
      obtain⟨c,x,hb,s1,s2,s3,en',s4,s5⟩:=hs
      refine⟨c+1,x,by omega,?_,?_,s3,en',by simpa using s4,s5⟩
      ·simp only [kz,List.findIdx?_cons,bG e] at s1 ⊢;simp [s1]
      ·simpa [List.find?_cons,bG e] using s2
 have asked: ∃o,(Instr.findAsking kt (KV.enc k) es).run P w = .ok o w/\
   (match o with
   | some (b,y)=>∃x,kz m k=some b/\m.find? (fun p=>decide (k=p.1))=some (k,x)/\ti M y x/\∃en,es[b]? =some en/\en.key=KV.enc k
   | none=>kz m k=none/\m.find? (fun p=>decide (k=p.1))=none):=by
  obtain⟨o,ho,hs⟩:=ask es m 0 he
  refine⟨o,ho,?_⟩
  cases o with
  | none=>exact hs
  | some by_=>
   obtain⟨b,y⟩:=by_
   obtain⟨c,x,hb,rest⟩:=hs
   rw [gj] at hb
   subst hb
   exact⟨x,rest⟩
 unfold Instr.findKey
 rcases hK.now with hnow | ⟨D,hD,hno⟩
 ·obtain⟨D,hD,_⟩:=hnow k k
  have hnow': ∀a b:κ,Instr.sameNow D (KV.enc a) (KV.enc b)=some (decide (a=b)):=fun a b=>by
   obtain⟨D',h1,h2⟩:=hnow a b
   rw [hD] at h1;injection h1 with h1;subst h1;exact h2
  have fn: ∀(es:List MapEntry) (m:List (κ×ν)) (a:Nat),mq M es m->∃o,Instr.findNow D (KV.enc k) es a=some o/\
    (match o with
    | some (b,y)=>∃c x,b=a+c/\kz m k=some c/\m.find? (fun p=>decide (k=p.1))=some (k,x)/\ti M y x/\∃en,es[c]? =some en/\en.key=KV.enc k
    | none=>kz m k=none/\m.find? (fun p=>decide (k=p.1))=none):=by
   intro es
   induction es with
   | nil=>intro m a he;cases m with
    | nil=>exact⟨none,rfl,rfl,rfl⟩
    | cons p m=>exact he.elim
   | cons en es ih=>
    intro m a he
    cases m with
    | nil=>exact he.elim
    | cons p m=>
     obtain⟨h1,h2,h3⟩:=he
     obtain⟨p1,p2⟩:=p
     simp only at h1 h2
     rw [Instr.findNow,h1,hnow']
     by_cases e:k=p1
     ·subst e
      refine⟨some (a,en.val),by simp,0,p2,rfl,?_,?_,h2,en,rfl,h1⟩
      ·simp [kz,List.findIdx?_cons]
      ·simp
     ·obtain⟨o,ho,hs⟩:=ih m (a+1) h3
      refine⟨o,by simp only [bG e];exact ho,?_⟩
      cases o with
      | none=>
       obtain⟨s1,s2⟩:=hs
       refine⟨?_,?_⟩
       ·simp only [kz,List.findIdx?_cons,bG e] at s1 ⊢;simpa using s1
       ·simpa [List.find?_cons,bG e] using s2
      | some by_=>
       obtain⟨b,y⟩:=by_
       obtain⟨c,x,hb,s1,s2,s3,en',s4,s5⟩:=hs
       refine⟨c+1,x,by omega,?_,?_,s3,en',by simpa using s4,s5⟩
       ·simp only [kz,List.findIdx?_cons,bG e] at s1 ⊢;simp [s1]
       ·simpa [List.find?_cons,bG e] using s2
  obtain⟨o,ho,hs⟩:=fn es m 0 he
  refine⟨o,by simp only [aO,run_underlying hD,aU,ho,aW],?_⟩
  cases o with
  | none=>exact hs
  | some by_=>
   obtain⟨b,y⟩:=by_
   obtain⟨c,x,hb,rest⟩:=hs
   rw [gj] at hb
   subst hb
   exact⟨x,rest⟩
 ·cases es with
  | nil=>
   cases m with
   | nil=>exact⟨none,by simp [run_underlying hD,Instr.findNow],rfl,rfl⟩
   | cons p m=>exact he.elim
  | cons en es=>
   obtain⟨o,ho,hs⟩:=asked
   refine⟨o,?_,hs⟩
   cases m with
   | nil=>exact he.elim
   | cons p m=>
    have:Instr.findNow D (KV.enc k) (en::es) 0=none:=by rw [Instr.findNow,he.1,hno]
    simp only [aO,run_underlying hD,aU,this,ho]
theorem Dl (m:List (κ×ν)) (k:κ) (z:ν):dH m k z=match m.find? (fun p=>decide (k=p.1)) with | some p=>p.2 | none=>z:=rfl
theorem Dm (m:List (κ×ν)) (k:κ):gK m k= (m.find? (fun p=>decide (k=p.1))).isSome:=by
 unfold gK
 induction m with
 | nil=>rfl
 | cons p m ih=>simp only [List.any_cons,List.find?_cons];cases decide (k=p.1) <;> simp [ih]
theorem xn (hT:P.underlying T=some (.map kt et)) (hK:wF P kt κ) (hz: ∃inf z,P.info? et=some inf/\inf.zero=some z/\∀M,ti M z z0)
  (hw:Holds E w V) (hi:V[i]? =some (mp v m)) (ok:Bool):
  ∃y,(Instr.lookup T v (KV.enc k) ok).run P w = .ok (if ok then .tuple #[y, .bool (gK m k)] else y) w/\Holds E w (rd y (dH m k z0)::V):=by
 obtain⟨M,hs,gd⟩:=hw
 obtain⟨r,es,clock,rfl,he,hh⟩:=gd.sat i _ hi
 have hb:=gd.le i r _ (cK hi) (by rw [hh];exact dC r _)
 obtain⟨o,ho,hs'⟩:=run_findKey hK M he w (k:=k)
 obtain⟨inf,z,hin,hzz,hzr⟩:=hz
 cases o with
 | none=>
  obtain⟨h1,h2⟩:=hs'
  refine⟨z,?_,Holds.yF ⟨M,hs,gd⟩ fun M' hs' gd'=>⟨?_,rfl⟩⟩
  ·simp [Instr.lookup,run_underlying hT,MapKept.run_getObj_map hb,hK.Je,ho,Result.andThen,zeroValue,typeInfo,hin,hzz,Dm,h2,program,Sem.run]
  ·rw [Dl,h2];exact hzr M'
 | some ay=>
  obtain⟨a,y⟩:=ay
  obtain⟨x,h1,h2,h3,_⟩:=hs'
  refine⟨y,?_,⟨M,AZ oE hs,gd.fX ⟨?_,rfl⟩⟩⟩
  ·simp [Instr.lookup,run_underlying hT,MapKept.run_getObj_map hb,hK.Je,ho,Result.andThen,Dm,h2]
  ·rw [Dl,h2];exact h3
omit [DecidableEq κ] in
theorem E7 (hw:Holds E w V) (hj:V[j]? =some (rd kv k)):kv=KV.enc k:=by
 obtain⟨M,hs,gd⟩:=hw
 exact KV.Jl (gd.sat j _ hj).1
structure A9 (P:Program) (T kt et:TypeId) (κ ν:Type) [GT κ] [KV κ] [DecidableEq κ] [GT ν] (z0:ν):Prop where
 wW:P.underlying T=some (.map kt et)
 key:wF P kt κ
 zero: ∃inf z,P.info? et=some inf/\inf.zero=some z/\∀M,ti M z z0
theorem RL.G6 (hg:Wn ops U g) (hd:Nat.blt d n=true) (hw:Holds E w V) (hx:ev U q=v) (hk:ev U qk=KV.enc k) (hi:V[i]? =some (mp v m)) (hT:A9 P T kt et κ ν z0)
  (kk: ∀y,Holds E w (rd y (dH m k z0)::V)->RL P n ops rest (eL U d (.tuple #[y, .bool (gK m k)])) w Q):RL P n ops (⟨some d, .lookup T q qk true,ty,pos,af,g⟩::rest) U w Q:=by
 obtain⟨y,hr,hh⟩:=xn hT.wW hT.key hT.zero hw hi true (k:=k)
 refine RL.val hg hd ?_ (kk y hh)
 simp only [execOp,hx,hk,aO,hr,aU,aW,if_true]
theorem RL.G7 (hg:Wn ops U g) (hd:Nat.blt d n=true) (hw:Holds E w V) (hx:ev U q=v) (hk:ev U qk=KV.enc k) (hi:V[i]? =some (mp v m)) (hT:A9 P T kt et κ ν z0)
  (kk: ∀y,Holds E w (rd y (dH m k z0)::V)->RL P n ops rest (eL U d y) w Q):RL P n ops (⟨some d, .lookup T q qk false,ty,pos,af,g⟩::rest) U w Q:=by
 obtain⟨y,hr,hh⟩:=xn hT.wW hT.key hT.zero hw hi false (k:=k)
 refine RL.val hg hd ?_ (kk y hh)
 simp only [execOp,hx,hk,aO,hr,aU,aW,Bool.false_eq_true,if_false]
theorem RL.xo [KV ν] (i:Nat) (k:κ) (hd:Nat.blt d n=true) (hw:Holds E w V) (hx:ev U q=v) (hk:ev U qk=KV.enc k) (hi:V[i]? =some (mp v m)) (hT:A9 P T kt et κ ν z0) (kk:RL P n ops rest (eL U d (.tuple #[KV.enc (dH m k z0), .bool (gK m k)])) w Q) (hg:Wn ops U g:=by exact trivial):RL P n ops (⟨some d, .lookup T q qk true,ty,pos,af,g⟩::rest) U w Q:=
 RL.G6 hg hd hw hx hk hi hT fun y hh=>by have:=E7 hh (j:=0) rfl;rw [this];exact kk
theorem RL.pr [KV ν] (i:Nat) (k:κ) (hg:Wn ops U g) (hw:Holds E w V) (hT:A9 P T kt et κ ν z0) (kk:RL P n ops rest (eL U d (KV.enc (dH m k z0))) w Q) (hd:Nat.blt d n=true:=by exact rfl) (hx:ev U q=v:=by exact rfl) (hk:ev U qk=KV.enc k:=by exact rfl) (hi:V[i]? =some (mp v m):=by exact rfl):RL P n ops (⟨some d, .lookup T q qk false,ty,pos,af,g⟩::rest) U w Q:=
 RL.G7 hg hd hw hx hk hi hT fun y hh=>by have:=E7 hh (j:=0) rfl;rw [this];exact kk
theorem RL.makeMap (hd:Nat.blt d n=true) (hw:Holds E w V) (kk: ∀v w',Holds E w' (mp v ([]:List (κ×ν))::V)->RL P n ops rest (eL U d v) w' Q) (hg:Wn ops U g:=by exact trivial):RL P n ops (⟨some d, .makeMap T none,ty,pos,af,g⟩::rest) U w Q:=by
 refine RL.val (v:= .map (some w.heap.size)) (w':=w.alloc (.map #[] 0)) hg hd ?_ (kk _ _ (hw.alloc _ fun M hs gd=>⟨w.heap.size,#[],0,rfl,trivial,rfl⟩))
 simp [execOp,Instr.makeMap]
theorem mq.len {M:dJ}: ∀{es:List MapEntry} {m:List (κ×ν)},mq M es m->es.length=m.length
 | [],[],_=>rfl
 | _::_,_::_,⟨_,_,h3⟩=>congrArg (· +1) (mq.len h3)
 | [],_::_,h=>h.elim
 | _::_,[],h=>h.elim
theorem wh {M:dJ} {hs:Nat->dJ} {P':HP} {b c c':Nat} {es es':Array MapEntry} {Pi:HP} (gd:Good E w M hs V) (hi:V[i]? =some Pi) (hh:hs i=Gk.one b (.map es c))
  (hp:P'.ok M (Gk.one b (.map es' c'))):Holds E {w with heap:=w.heap.setIfInBounds b (.map es' c')} (V.set i P'):=by
 have hb:=gd.le i b _ (cK hi) (by rw [hh];exact dC b _)
 refine⟨M,_,gd.update (cK hi) (Gk.one b (.map es' c')) hp rfl rfl rfl (fun b' o' hb'=>?_) (fun b' o' hb'=>?_) (fun b' hb' _=>?_)⟩
 ·obtain⟨rfl,rfl⟩:=jF hb';exact(MapKept.heap_set hb).1
 ·obtain⟨rfl,rfl⟩:=jF hb';exact .inl ⟨_,by rw [hh];exact dC _ _⟩
 ·rw [hh] at hb'
  exact(MapKept.heap_set hb).2 b' (fun h=>by subst h;rw [dC] at hb';cases hb')
theorem mq.push {M:dJ} {en:MapEntry}: ∀{es:List MapEntry} {m:List (κ×ν)},mq M es m->kz m k=none->en.key=KV.enc k->ti M en.val x->mq M (es++[en]) (nT m k x)
 | [],[],_,_,h1,h2=>⟨h1,h2,trivial⟩
 | e::es,p::m,⟨a1,a2,a3⟩,hf,h1,h2=>by
  have hne: ¬k=p.1:=fun e=>by simp [kz,List.findIdx?_cons,e] at hf
  have hf':kz m k=none:=by simp only [kz,List.findIdx?_cons,bG hne] at hf ⊢;simpa using hf
  show mq M (e::(es++[en])) _
  unfold nT
  rw [aD hne]
  exact⟨a1,a2,mq.push a3 hf' h1 h2⟩
 | [],_::_,h,_,_,_=>h.elim
 | _::_,[],h,_,_,_=>h.elim
theorem mq.modify {M:dJ} {f:MapEntry->MapEntry} (h1: ∀e,(f e).key=KV.enc k) (h2: ∀e,ti M (f e).val x): ∀{es:List MapEntry} {m:List (κ×ν)} {a:Nat},mq M es m->kz m k=some a->mq M (es.modify a f) (nT m k x)
 | [],[],_,_,hf=>by simp [kz] at hf
 | e::es,p::m,a,⟨a1,a2,a3⟩,hf=>by
  unfold nT
  by_cases hk:k=p.1
  ·have ha:a=0:=by simp [kz,List.findIdx?_cons,hk] at hf;omega
   subst ha
   rw [aC hk]
   exact⟨h1 e,h2 e,a3⟩
  ·rw [aD hk]
   simp only [kz,List.findIdx?_cons,bG hk,Bool.false_eq_true,if_false,Option.map_eq_some_iff] at hf
   obtain⟨a',hf',rfl⟩:=hf
   exact⟨a1,a2,mq.modify h1 h2 a3 hf'⟩
 | [],_::_,_,h,_=>h.elim
 | _::_,[],_,h,_=>h.elim
theorem RL.mapUpdate (i j:Nat) (k:κ) (hw:Holds E w V) (hx:ev U q=v) (hk:ev U qk=KV.enc k) (hv:ev U qv=u) (hi:V[i]? =some (mp v m)) (hj:V[j]? =some (rd u x)) (hT:A9 P T kt et κ ν z0) (kk: ∀w',Holds E w' (V.set i (mp v (nT m k x)))->RL P n ops rest U w' Q) (hg:Wn ops U g:=by exact trivial):RL P n ops (⟨none, .mapUpdate T q qk qv,ty,pos,af,g⟩::rest) U w Q:=by
 obtain⟨M,hs,gd⟩:=hw
 obtain⟨r,es,clock,rfl,he,hh⟩:=gd.sat i _ hi
 have hu:=(gd.sat j _ hj).1
 have hb:=gd.le i r _ (cK hi) (by rw [hh];exact dC r _)
 obtain⟨o,ho,hs'⟩:=run_findKey hT.key M he w (k:=k)
 cases o with
 | none=>
  refine RL.unit hg ?_ (kk _ (wh gd hi hh (es':=es.push {key:=KV.enc k,val:=u,born:=clock}) (c':=clock+1) ⟨r,_,_,rfl,?_,rfl⟩))
  ·simp [execOp,hx,hk,hv,Instr.mapUpdate,run_underlying hT.wW,MapKept.run_getObj_map hb,hT.key.Je,ho,MapKept.run_setObj_map _ hb]
  ·rw [Array.toList_push];exact mq.push he hs'.1 rfl hu
 | some ay=>
  obtain⟨a,y⟩:=ay
  obtain⟨x',h1,h2,h3,en,h4,h5⟩:=hs'
  have h4':es[a]? =some en:=by simpa using h4
  have hst: (Instr.keyThatStays (KV.enc k) (KV.enc k)).run P w = .ok (KV.enc k) w:=by simp [Instr.keyThatStays,hT.key.bits]
  refine RL.unit hg ?_ (kk _ (wh gd hi hh (es':=es.modify a fun e=>{e with key:=KV.enc k,val:=u}) (c':=clock) ⟨r,_,_,rfl,?_,rfl⟩))
  ·simp [execOp,hx,hk,hv,Instr.mapUpdate,run_underlying hT.wW,MapKept.run_getObj_map hb,hT.key.Je,ho,MapKept.run_setObj_map _ hb,h4',h5,hst]
  ·rw [Array.toList_modify];exact mq.modify (fun _=>rfl) (fun _=>hu) he h1
end
@[reducible] def instKVvia {α β:Type} [GT β] [KV β] (f:α->β): @KV α (GT.via f):= @KV.mk α (GT.via f) (fun x=>KV.cs (f x)) (fun h=>KV.spec h) (fun M x=>KV.ok M (f x))
theorem wF.str {P:Program} {kt:TypeId} (h:P.underlying kt=some .string):wF P kt dA where
 Je b k w:=MapKept.run_checkKey h (k:=Gk.str k) trivial b 9999
 eq a b w:=CA (d:=9999) h a b w
 now:= .inl fun a b=>⟨_,h,by show some ((⟨a.cR.toArray⟩:ByteArray)==⟨b.cR.toArray⟩)=_;rw [Dj]⟩
 bits a:=MapKept.sameBits_self (d:= .string) (k:=Gk.str a) trivial _
theorem wF.int {P:Program} {kt:TypeId} (h:P.underlying kt=some (.int .i64)):wF P kt Int where
 Je b k w:=MapKept.run_checkKey h (k:= .int .i64 k) rfl b 9999
 eq a b w:=(jS (d:=9999) h a b w).trans (by rw [gC.2 (by simp: (a==b)=true↔decide (a=b)=true)])
 now:= .inl fun a b=>⟨_,h,by show (if IntKind.i64=IntKind.i64 then some (a==b) else none)=_;rw [aC rfl];rw [gC.2 (by simp: (a==b)=true↔decide (a=b)=true)]⟩
 bits a:=MapKept.sameBits_self (d:= .int .i64) (k:= .int .i64 a) rfl _
inductive Jm (P:Program) (n:Nat) (xs:Array Value):List Field->Prop
 | nil:Jm P n xs []
 | cons {f:Field} {l:List Field} {x:Value} (hn:f.name≠ "_") (hx: ∀w,(part f.type xs f.offset).run P w = .ok x w) (hc: ∀b w,(Instr.checkKey b n f.type x).run P w = .ok () w) (h:Jm P n xs l):Jm P n xs (f::l)
theorem sJ {P:Program} {T:TypeId} {fs:Array Field} {xs:Array Value} {n:Nat} (hu:P.underlying T=some (.struct fs)) (h:Jm P n xs fs.toList) (b:Bool) (w:World):
  (Instr.checkKey b (n+1) T (.agg xs)).run P w = .ok () w:=by
 obtain⟨l⟩:=fs
 rw [Instr.checkKey]
 simp only [aO,run_underlying hu,aU,List.forIn_toArray]
 simp only at h
 clear hu
 induction h with
 | nil=>simp
 | @cons f l x hn hx hc h ih=>
  simp only [List.forIn_cons,hn,ne_eq,not_false_eq_true,if_true,aO,hx,hc,aU,aW]
  simpa using ih
theorem E8 {n:Nat} {cs:List Value} (h: ∀x∈cs,Instr.sameBits n x x=true):Instr.sameBits (n+1) (.agg cs.toArray) (.agg cs.toArray)=true:=by
 rw [Instr.sameBits]
 simp only [beq_self_eq_true,Bool.true_and,jD]
 intro p hp
 have: ∀(l:List Value) (p:Value×Value),p∈l.zip l->p.1=p.2/\p.1∈l:=by
  intro l
  induction l with
  | nil=>intro p hp;simp at hp
  | cons a l ih=>
   intro p hp
   simp only [List.zip_cons_cons,fQ] at hp
   rcases hp with rfl | hp
   ·exact⟨rfl,by simp⟩
   ·exact⟨(ih p hp).1,by simp [(ih p hp).2]⟩
 obtain⟨h1,h2⟩:=this _ p hp
 obtain⟨a,b⟩:=p
 simp only at h1 h2
 subst h1
 exact h a (by simpa using h2)
theorem wF.struct {κ:Type} [GT κ] [KV κ] [DecidableEq κ] {P:Program} {T:TypeId} {fs:Array Field} (hu:P.underlying T=some (.struct fs)) (hag:GT.agg κ=true) (hE:Iu P T κ)
  (hc: ∀k:κ,Jm P 9999 (KV.cs k).toArray fs.toList) (hb: ∀(k:κ),∀x∈KV.cs k,Instr.sameBits 9999 x x=true):wF P T κ:=by
 have he: ∀k:κ,KV.enc k = .agg (KV.cs k).toArray:=fun k=>by unfold KV.enc qX;rw [aC hag]
 refine⟨fun b k w=>?_,fun a b w=>?_, .inr ⟨_,hu,fun a b=>?_⟩,fun a=>?_⟩
 ·rw [he];exact sJ hu (hc k) b w
 ·exact hE.eq oE _ _ a b w (KV.ok oE a) (KV.ok oE b)
 ·rw [he,he];rfl
 ·rw [he];exact E8 (hb a)
theorem z8 {ν:Type} [GT ν] {P:Program} {et:TypeId} (Z:Value) {z0:ν} (hz: ∀M,ti M Z z0) (h: (P.info? et).bind (·.zero)=some Z:=by kernel_rfl): ∃inf z,P.info? et=some inf/\inf.zero=some z/\∀M,ti M z z0:=by
 cases e:P.info? et with
 | none=>rw [e] at h;cases h
 | some inf=>rw [e] at h;exact⟨inf,Z,rfl,h,hz⟩
theorem GV.of {α:Type} [GT α] {P:Program} {e:TypeId} (Z:Value) {z0:α} (hz: ∀M,GT.ok M Z.cells.toList z0) (h: (P.info? e).bind (·.zero)=some Z:=by kernel_rfl):GV P e z0:=fun M z hh=>by
 rw [h] at hh;injection hh with hh;subst hh;exact hz M
section
variable {P:Program} {n:Nat} {U:Nat->Value} {w:World} {Q:gq} {ops:Array Oper} {rest:List Oper} {d:Nat} {ty t u:TypeId} {pos:String} {af:Array Edge} {g:Option (Nat×Bool)} {q r:Operand} {K:IntKind} {a b:Int}
theorem RL.min (a b:Int) (kk:RL P n ops rest (eL U d (.int K (if b<a then b else a))) w Q) (hg:Wn ops U g:=by exact trivial) (hd:Nat.blt d n=true:=by exact rfl) (hx:ev U q = .int K a:=by exact rfl) (hy:ev U r = .int K b:=by exact rfl):
  RL P n ops (⟨some d, .call ⟨.builtin .min,#[q,r],#[t,u]⟩,ty,pos,af,g⟩::rest) U w Q:=by
 refine RL.val hg hd ?_ kk
 simp [execOp,resolve,hx,hy,invoke,builtin,Builtin.min_,Builtin.min2]
theorem RL.makeFunc {f:Fn} {args:Array Operand} (vs:List Value) (kk:RL P n ops rest (eL U d (.func f #[] vs.toArray)) w Q) (hg:Wn ops U g:=by exact trivial) (hd:Nat.blt d n=true:=by exact rfl) (hvs:args.toList.map (ev U)=vs:=by exact rfl):RL P n ops (⟨some d, .makeFunc f #[] args,ty,pos,af,g⟩::rest) U w Q:=by
 have e:args.map (ev U)=vs.toArray:=by rw [<-hvs];cases args;simp
 refine RL.val hg hd ?_ kk
 simp [execOp,Instr.makeFunc,e]
end
@[reducible] def vi (n:Int):Value:= .int .i64 n
@[reducible] def vb (b:Bool):Value:= .bool b
@[reducible] def vp (b o:Nat):Value:= .pointer (some ⟨b,o,none⟩)
section
variable {P:Program} {n:Nat} {U:Nat->Value} {w:World} {Q:gq} {y:Code} {ops:Array Oper} {rest:List Oper} {d:Nat} {ty T T':TypeId} {pos:String} {af:Array Edge} {q r:Operand} {K:IntKind} {id:Nat} {l:List Oper}
theorem mv (v:Value) (k:RL P n ops rest (eL U d v) w Q) (hd:Nat.blt d n=true:=by exact rfl) (hx:ev U q=v:=by exact rfl):RL P n ops (⟨some d, .move q,ty,pos,af,none⟩::rest) U w Q:=RL.move (hd:=hd) (hx:=hx) _ trivial k
theorem aK (v:Value) (k:RL P n ops rest (eL U d v) w Q) (hd:Nat.blt d n=true:=by exact rfl) (hx:ev U q=v:=by exact rfl):RL P n ops (⟨some d, .assign q,ty,pos,af,none⟩::rest) U w Q:=RL.assign trivial hd hx k
theorem ic {bop:BinOp} (a b:Int) (k:RL P n ops rest (eL U d (.bool (i7 bop a b))) w Q) (hd:Nat.blt d n=true:=by exact rfl) (hx:ev U q = .int K a:=by exact rfl) (hy:ev U r = .int K b:=by exact rfl) (hc:wg bop=true:=by exact rfl):
  RL P n ops (⟨some d, .binOp bop T q r T',ty,pos,af,none⟩::rest) U w Q:=RL.i7 (hd:=hd) (hx:=hx) (hy:=hy) (hc:=hc) _ _ trivial k
theorem sk {op:Op} {j t:Nat} {b:Bool} (ht: (ops[j]?).bind (·.dst)=some t) (hv:U t = .bool (!b)\/U t=undef) (hd:Nat.blt d n=true)
  (k:RL P n ops rest (eL U d undef) w Q):RL P n ops (⟨some d,op,ty,pos,af,some (j,b)⟩::rest) U w Q:=RL.skip ht hv hd k
theorem cb {a b:Bool} (h:a=b):Value.bool a = .bool b:=by rw [h]
theorem RC.sr (h:RL P n l.toArray l U w (mx P n y Q)):RC P n (.seq (.region id l.toArray false) y) U w Q:=RC.seq (RC.region h)
theorem RL.nt (h:RC P n y U w Q):RL P n ops [] U w (mx P n y Q):=RL.nil (aG h)
theorem RL.ns {z:Code} (h:RL P n l.toArray l U w (mx P n z Q)):RL P n ops [] U w (mx P n (.seq (.region id l.toArray false) z) Q):=RL.nt (RC.sr h)
theorem RL.nq {z:Code} (h:RC P n y U w (mx P n z Q)):RL P n ops [] U w (mx P n (.seq y z) Q):=RL.nt (RC.seq h)
theorem RC.rt (h:Q .ret U w):RC P n .ret U w (mx P n y Q):=RC.ret (bS h)
theorem RC.rb (h:Q .ret U w):RC P n .ret U w (vv id Q):=RC.ret (jR h)
theorem RC.sn (h:RC P n y U w Q):RC P n .skip U w (mx P n y Q):=RC.skip (aG h)
theorem RC.ss {z:Code} (h:RC P n y U w (mx P n z Q)):RC P n .skip U w (mx P n (.seq y z) Q):=RC.sn (RC.seq h)
theorem RC.sx {z:Code} (h:RL P n l.toArray l U w (mx P n z Q)):RC P n .skip U w (mx P n (.seq (.region id l.toArray false) z) Q):=RC.sn (RC.sr h)
theorem RC.ex {i:Nat} (h:Q (.exit i) U w):RC P n (.exit i) U w (mx P n y Q):=RC.exit (G4 h)
theorem RC.bs {b:Nat} (h:RL P n l.toArray l U w (mx P n y (vv b Q))):RC P n (.block b (.seq (.region id l.toArray false) y)) U w Q:=RC.block (RC.sr h)
theorem ac {d:Nat} {v:Value} {l:List (Nat×Value)} (h:U d=v) (hl:agree U l):agree U ((d,v)::l):=⟨h,hl⟩
theorem az:agree U []:=trivial
theorem oi {α:Type} {a b:α} (h:some a=some b):a=b:=by injection h
end
theorem Fo.gl {S R β:Type} (s:S) (f:S->β) (g:R->β): (Fo.go s:Fo S R).cs f g=f s:=rfl
end Go.Gk
namespace Go.Gk
open Go
def bc (e:TypeId) (g:Nat) (vs:List Value):HP:=⟨fun _ h=>(∀v∈vs,v.oneCell'=true)/\h=Gk.one g (.cells vs.toArray e (0,0)),fun _ h=>h⟩
def Mw {α:Type} [GT α] (vs:List Value) (x:α):HP:=⟨fun M h=>GT.ok M vs x/\h=oE,fun k ⟨a,b⟩=>⟨GT.mono k a,b⟩⟩
structure Jf (P:Program) (T:TypeId) (zs:List Value):Prop where
 z: ∃z,(∀w,(zeroValue T).run P w = .ok z w)/\z.cells=zs.toArray
theorem Lm: ∀{cs:List Value} (_:cs.length=4),∃v1 v2 v3 v4:Value,cs= [v1,v2,v3,v4]
 | [v1,v2,v3,v4],_=>⟨v1,v2,v3,v4,rfl⟩
section
variable {α β:Type} [GT α] [GT β] {E w:World} {V:List HP} {i j:Nat} {v:Value} {x:α} {e e':TypeId} {b:Nat} {vs:List Value}
theorem iB {l:List α} (i:Nat) (h:Holds E w V) (hi:V[i]? =some (own e v l):=by exact rfl):v.oneCell'=true:=by
 obtain⟨M,hs,g⟩:=h
 exact E5 (g.sat i _ hi)
theorem wX {l:List α} (i:Nat) (h:Holds E w V) (hi:V[i]? =some (rd v l)):v.oneCell'=true:=by
 obtain⟨a,cap,rfl⟩:=h.slice hi;rfl
theorem Iw {κ ν:Type} [GT κ] [KV κ] [GT ν] {m:List (κ×ν)} (h:Holds E w V) (hi:V[i]? =some (mp v m)):v.oneCell'=true:=by
 obtain⟨M,hs,g⟩:=h
 obtain⟨r,es,c,rfl,_⟩:=g.sat i _ hi
 rfl
theorem Holds.iL {cs:List Value} {k:Nat} {f:α->β} (h:Holds E w V) (hi:V[i]? =some (Mw cs x)) (hF:Fd k f) (hv:cs[k]? =some v) (hs:GT.sz β=1) (ha:GT.agg β=false):Holds E w (rd v (f x)::V):=by
 obtain⟨M,hs',g⟩:=h
 obtain⟨ho,_⟩:=g.sat i _ hi
 refine⟨M,_,g.fX ⟨?_,rfl⟩⟩
 have h1:=hF M cs x ho
 obtain⟨hlt,rfl⟩:=bC.1 hv
 have h2: (cs.drop k).take (GT.sz β)= [cs[k]]:=by
  rw [hs,r6 hlt];rfl
 rw [h2] at h1
 refine⟨_,?_,h1⟩
 unfold qX
 rw [ha];rfl
theorem Holds.E9 (h:Holds E w V) (hi:V[i]? =some (bc e b vs)) (ho: ∀M hs,Good E w M hs V->GT.ok M vs x):Holds E w (V.set i (bx e b x)):=by
 obtain⟨M,hs,g⟩:=h
 obtain⟨_,hh⟩:=g.sat i _ hi
 have hlt:=cK hi
 refine⟨M,hs,g.os,g.tape,g.out,g.dr,g.im,fun k Q hq=>?_,fun k b o hk=>g.le k b o (by simpa using hk),fun k b o hk=>g.dm k b o (by simpa using hk),fun k l b o hk hl=>g.dj k l b o (by simpa using hk) (by simpa using hl)⟩
 rw [fA] at hq
 split at hq
 ·rename_i e1;subst e1
  simp [hlt] at hq;subst hq
  exact⟨vs,ho M hs g,hh⟩
 ·exact g.sat k Q hq
theorem lh {M:dJ} (h:ti M v x) (ha:GT.agg α=false:=by exact rfl):GT.ok M [v] x:=by
 obtain⟨cs,rfl,ho⟩:=h
 have hl:=GT.len ho
 rw [GT.ag1 ha] at hl
 match cs,hl with
 | [c],_=>unfold qX;rw [ha];exact ho
end
section
variable {P:Program} {n:Nat} {U:Nat->Value} {w:World} {Q:gq} {E:World} {V:List HP} {i j:Nat}
variable {ops:Array Oper} {rest:List Oper} {d:Nat} {ty T T' e:TypeId} {pos:String} {af:Array Edge} {g:Option (Nat×Bool)} {v v':Value} {q r:Operand} {b m:Nat} {vs:List Value}
theorem RL.aY (i:Nat) (v:Value) (hw:Holds E w V) (hT:ld P T false 1) (k:RL P n ops rest (eL U d v) w Q) (hg:Wn ops U g:=by exact trivial) (hd:Nat.blt d n=true:=by exact rfl) (hx:ev U q = .pointer (some ⟨b,m,none⟩):=by exact rfl) (hi:V[i]? =some (bc e b vs):=by exact rfl) (hv:vs[m]? =some v:=by exact rfl):RL P n ops (⟨some d, .load T q,ty,pos,af,g⟩::rest) U w Q:=by
 obtain⟨M,hs,gd⟩:=hw
 obtain⟨_,hh⟩:=gd.sat i _ hi
 have hb:=gd.le i b _ (cK hi) (by rw [hh];exact dC b _)
 have hc:w.cell? ⟨b,m,none⟩=some v:=by rw [cell_of_row w b _ _ _ _ hb];simpa using hv
 refine RL.val (v:=v) hg hd ?_ k
 simp [execOp,hx,Instr.loadAt,Instr.sureAddr,loadVar,hT.GR,load,Sem.run,hc]
theorem RL.gV (i:Nat) (v:Value) (hw:Holds E w V) (hi:V[i]? =some (bc e b vs)) (hv:vs[m]? =some v') (h1:v.oneCell'=true) (hT:ld P T false 1) (k: ∀w',Holds E w' (V.set i (bc e b (vs.set m v)))->RL P n ops rest U w' Q) (hg:Wn ops U g:=by exact trivial) (hx:ev U q = .pointer (some ⟨b,m,none⟩):=by exact rfl) (hy:ev U r=v:=by exact rfl):RL P n ops (⟨none, .store T q r,ty,pos,af,g⟩::rest) U w Q:=by
 obtain⟨M,hs,gd⟩:=hw
 obtain⟨hone,hh⟩:=gd.sat i _ hi
 have hlt:=(bC.1 hv).1
 have hb:=gd.le i b _ (cK hi) (by rw [hh];exact dC b _)
 have hcv:v.cells = #[v]:=by cases v <;> first | rfl | (cases h1)
 have hrun:=ma (P:=P) (v:=v) (o:=m) hT.sz (by rw [hcv];rfl) (by rw [hcv];simpa using h1) hb (by simp;omega)
 have hl: (vs.toArray.toList.take m++v.cells.toList++vs.toArray.toList.drop (m+1)).toArray= (vs.set m v).toArray:=by
  rw [hcv,List.set_eq_take_append_cons_drop,aC hlt];simp
 rw [hl] at hrun
 refine RL.unit (w':=w.setRow b (vs.set m v).toArray) hg ?_ (k _ (ky gd hi hh ⟨fun u hu=>?_,rfl⟩))
 ·simp only [execOp,hx,hy,Instr.storeAt,Instr.sureAddr,aO,aW,aU,hrun]
 ·rcases List.mem_or_eq_of_mem_set hu with h | h
  ·exact hone u h
  ·rw [h];exact h1
theorem RL.pw {zs:List Value} (hw:Holds E w V) (hz:Jf P T zs) (k: ∀b w',Holds E w' (bc T b zs::V)->RL P n ops rest (eL U d (.pointer (some ⟨b,0,none⟩))) w' Q) (hg:Wn ops U g:=by exact trivial) (hd:Nat.blt d n=true:=by exact rfl) (h1:zs.all (·.oneCell')=true:=by exact rfl):RL P n ops (⟨some d, .alloc T,ty,pos,af,g⟩::rest) U w Q:=by
 obtain⟨z,hz,hs⟩:=hz.z
 refine RL.val (w':=w.alloc (.cells z.cells T)) hg hd ?_ (k w.heap.size _ (hw.alloc _ fun _ _ _=>⟨fun v hv=>jD.1 h1 v hv,by rw [hs]⟩))
 simp only [execOp,Instr.alloc,newVar,newRow,newObj,aO,aW,hz,aU]
 rfl
theorem RL.Fa (v:Value) (hg:Wn ops U g) (hd:Nat.blt d n=true) (hw:Holds E w V) (hx:ev U q=v) (h1:v.oneCell'=true) (k: ∀b w',Holds E w' (bc T b [v]::V)->RL P n ops rest (eL U d (.pointer (some ⟨b,0,none⟩))) w' Q):RL P n ops (⟨some d, .box T q,ty,pos,af,g⟩::rest) U w Q:=by
 have hc:v.cells = #[v]:=by cases v <;> first | rfl | (cases h1)
 refine RL.val (w':=w.alloc (.cells #[v] T)) hg hd ?_ (k w.heap.size _ (hw.alloc _ fun _ _ _=>⟨fun u hu=>by simp at hu;subst hu;exact h1,rfl⟩))
 simp only [execOp,hx,Instr.box,newVar,newRow,newObj,aO,aW,hc]
 rfl
theorem RL.nilCheck {a:Addr} (hx:ev U q = .pointer (some a)) (k:RL P n ops rest (eL U d (.pointer (some a))) w Q) (hg:Wn ops U g:=by exact trivial) (hd:Nat.blt d n=true:=by exact rfl):RL P n ops (⟨some d, .nilCheck q,ty,pos,af,g⟩::rest) U w Q:=by
 refine RL.val hg hd ?_ k
 simp only [execOp,hx];rfl
end
end Go.Gk
namespace Go.Gk
open Go
structure MI where
 n:Int
 deriving DecidableEq,Inhabited
instance:Sc MI:=⟨fun x=> .int .i32 x.n,fun _=>rfl⟩
def bs (s:dA):ByteArray:=⟨s.cR.toArray⟩
def it (g:Nat) (s:dA) (p:Nat):HP:=⟨fun _ h=>h=Gk.one g (.stringIter (bs s) p),fun _ h=>h⟩
section
variable {P:Program} {n:Nat} {U:Nat->Value} {w:World} {Q:gq} {E:World} {V:List HP} {i j:Nat}
variable {ops:Array Oper} {rest:List Oper} {d:Nat} {ty T:TypeId} {pos:String} {af:Array Edge} {g:Option (Nat×Bool)} {q:Operand} {b p:Nat} {s:dA}
end
def Ba (places:List (Nat×Nat)):List Value->List (Nat×Value)->Option (List Value)
 | z,[]=>some z
 | z,(i,v)::rest=>match places[i]? with
  | some (o,1)=>if Nat.blt o z.length=true then Ba places (z.set o v) rest else none
  | _=>none
def Ix:List (Nat×Value)->Prop
 | []=>True
 | (_,v)::l=>v.oneCell'=true/\Ix l
theorem Bb {places:List (Nat×Nat)}: ∀{vs:List (Nat×Value)} {z cs:List Value},Ix vs->Ba places z vs=some cs->Instr.fill (places.toArray[·]?) z.toArray vs=some cs.toArray
 | [],z,cs,_,h=>by
  unfold Ba at h;injection h with h;subst h;rfl
 | (i,v)::rest,z,cs,h1,h=>by
  unfold Ba at h
  unfold Instr.fill
  have hc:v.cells = #[v]:=by have:=h1.1;cases v <;> first | rfl | (cases this)
  split at h
  ·rename_i o he
   split at h
   ·rename_i hlt
    have hlt':o<z.length:=Nat.blt_eq▸hlt
    have hp: (places.toArray[i]?)=some (o,1):=by simpa using he
    simp only [hp,hc]
    rw [aD (by simp;omega)]
    have:=Bb h1.2 h
    simpa using this
   ·cases h
  ·cases h
section
variable {P:Program} {n:Nat} {U:Nat->Value} {w:World} {Q:gq} {E:World} {V:List HP} {i j:Nat}
variable {ops:Array Oper} {rest:List Oper} {d:Nat} {ty T e:TypeId} {pos:String} {af:Array Edge} {g:Option (Nat×Bool)} {q r:Operand} {b m:Nat} {vs cs zs:List Value}
theorem RL.Fb {parts:Array (Nat×Operand)} {places:List (Nat×Nat)} (hg:Wn ops U g) (hd:Nat.blt d n=true) (vs:List (Nat×Value))
  (hvs:parts.toList.map (fun p=>(p.1,ev U p.2))=vs) (hT:tk P T places zs.toArray) (h1:Ix vs) (hf:Ba places zs vs=some cs)
  (k:RL P n ops rest (eL U d (.agg cs.toArray)) w Q):RL P n ops (⟨some d, .build T parts,ty,pos,af,g⟩::rest) U w Q:=by
 have e1:parts.map (fun(i,x)=>(i,ev U x))=vs.toArray:=by rw [<-hvs];cases parts;simp
 refine RL.val (v:= .agg cs.toArray) hg hd ?_ k
 simp only [execOp,aO]
 rw [e1,hT.run]
 simp only [Bb h1 hf,aU,aW]
theorem Holds.z9 {α:Type} [GT α] {x:α} (h:Holds E w V) (ho: ∀M hs,Good E w M hs V->GT.ok M cs x) (ha:GT.agg α=true):Holds E w (rd (.agg cs.toArray) x::V):=
 h.yF fun M hs g=>⟨⟨cs,by unfold qX;rw [ha];rfl,ho M hs g⟩,rfl⟩
def Bc:List Value->Prop
 | []=>True
 | v::l=>v.oneCell'=true/\Bc l
theorem Bc.all: ∀{l:List Value},Bc l->∀v∈l,v.oneCell'=true
 | v::l,h,u,hu=>by
  rcases fQ.1 hu with h' | h'
  ·subst h';exact h.1
  ·exact Bc.all h.2 u h'
end
end Go.Gk
namespace Go.Gk
open Go
section
variable {α:Type} [GT α] {P:Program} {n:Nat} {U:Nat->Value} {w:World} {Q:gq} {E:World} {V:List HP} {i j:Nat}
variable {ops:Array Oper} {rest:List Oper} {d:Nat} {ty T t u e:TypeId} {pos:String} {af:Array Edge} {g:Option (Nat×Bool)} {v:Value} {q r:Operand} {l l':List α} {z0:α} {bytes:Nat} {k:Int}
def G8 (v:Value):Bool:=match v with | .slice none _ _=>true | _=>false
theorem CB {d:Nat} (hu:P.underlying T=some (.slice e)) (a:Option Addr) (m c:Nat) (w:World): (Op.equalIn (d+1) T (.slice a m c) (.slice none 0 0)).run P w = .ok (G8 (.slice a m c)) w:=by
 unfold Op.equalIn
 rw [aO,run_underlying hu,aU]
 cases a <;> rfl
theorem RL.Jn {T':TypeId} (hg:Wn ops U g) (hd:Nat.blt d n=true) (hw:Holds E w V) (hx:ev U q=v) (hy:ev U r = .slice none 0 0) (hi:V[i]? =some (rd v l)) (hT:P.underlying T=some (.slice e))
  (k:RL P n ops rest (eL U d (.bool (G8 v))) w Q):RL P n ops (⟨some d, .binOp .eql T q r T',ty,pos,af,g⟩::rest) U w Q:=by
 obtain⟨a,cap,rfl⟩:=hw.slice hi
 refine RL.bin hg hd hx hy (fun _=>by cases a <;> rfl) (fun w=>?_) k
 have h:=CB (P:=P) (d:=9999) hT a l.length cap w
 simp only [binOp,aO,Op.equal,Op.maxDepth,h,aU,aW]
theorem Holds.Ln (hw:Holds E w V) (hi:V[i]? =some (rd v l)) (hn:G8 v=true):l= []:=by
 obtain⟨M,hs,gd⟩:=hw
 obtain⟨a,m,cap,hv,hm,hc,hx,hel⟩:=j7.1 (gd.sat i _ hi).1
 subst hv
 cases a with
 | some a=>cases hn
 | none=>
  cases l with
  | nil=>rfl
  | cons y l=>
   obtain⟨ad,cs,ha,_⟩:=hel 0 y rfl
   cases ha
end
end Go.Gk
namespace Go.Gk
open Go
section
variable {P:Program} {n:Nat} {U:Nat->Value} {w:World} {Q:gq} {E:World} {V:List HP} {i j:Nat}
variable {ops:Array Oper} {rest:List Oper} {d:Nat} {ty T T' t u e:TypeId} {pos:String} {af:Array Edge} {g:Option (Nat×Bool)} {v:Value} {q r:Operand} {K:IntKind} {a b:Int}
theorem RL.quo (a b:Int) (hd:Nat.blt d n=true) (hx:ev U q = .int K a) (hy:ev U r = .int K b) (h0: (b==0)=false) (k:RL P n ops rest (eL U d (.int K (K.wrap (Int.tdiv a b)))) w Q) (hg:Wn ops U g:=by exact trivial):RL P n ops (⟨some d, .binOp .quo T q r T',ty,pos,af,g⟩::rest) U w Q:=by
 have hb:b≠0:=by simpa using h0
 refine RL.bin hg hd hx hy (fun _=>rfl) (fun w=>?_) k
 simp only [binOp,ne_eq,not_true,if_false,Op.intDiv,hb,aW]
theorem RL.max (a b:Int) (kk:RL P n ops rest (eL U d (.int K (if a<b then b else a))) w Q) (hg:Wn ops U g:=by exact trivial) (hd:Nat.blt d n=true:=by exact rfl) (hx:ev U q = .int K a:=by exact rfl) (hy:ev U r = .int K b:=by exact rfl):
  RL P n ops (⟨some d, .call ⟨.builtin .max,#[q,r],#[t,u]⟩,ty,pos,af,g⟩::rest) U w Q:=by
 refine RL.val hg hd ?_ kk
 simp [execOp,resolve,hx,hy,invoke,builtin,Builtin.max_,Builtin.max2]
def vw (v:Value) (lo sz:Nat):Value:=match v with | .slice a m cap=> .slice (if cap=lo then a else a.map (·.add (lo*sz))) (m - lo) (cap - lo) | _=>undef
def CC {α:Type} (l:List α) (lo j:Int):Option α:=if 0<=j then idx l (lo+j) else none
theorem jd {α:Type} {l:List α} {lo j:Int} {x:α} (h:CC l lo j=some x):0<=j/\idx l (lo+j)=some x:=by
 unfold CC at h;split at h
 ·rename_i hj;exact⟨hj,h⟩
 ·cases h
variable {α:Type} [GT α] {l:List α} {lo hi:Int} {x z0:α} {bytes:Nat}
theorem RL.view {lop:Option Operand} {l':List α} (i:Nat) (lo:Int) (hd:Nat.blt d n=true) (hw:Holds E w V) (hx:ev U q=v) (hi':V[i]? =some (own e v l)) (hT:sI P T e (GT.sz α)) (hb:tV l lo (l.length:Nat)=some l') (k:RL P n ops rest (eL U d (vw v lo.toNat (GT.sz α))) w Q) (hg:Wn ops U g:=by exact trivial) (hl:lop.map (ev U)=some (.int .i64 lo)\/(lop.map (ev U)=none/\lo=0):=by exact(.inl rfl)):RL P n ops (⟨some d, .slice T q lop none none,ty,pos,af,g⟩::rest) U w Q:=by
 unfold tV at hb
 split at hb
 case isFalse=>cases hb
 rename_i hc
 obtain⟨a,cap,rfl⟩:=hw.kc hi'
 obtain⟨M,hs,gd⟩:=hw
 have hcap:l.length<=cap:=by
  rcases gd.sat i _ hi' with ⟨h1,h2,_⟩ | ⟨b,o,c,cur,xs,hv,h2,_⟩
  ·injection h1 with _ _ h;subst h;subst h2;exact bM _
  ·injection hv with _ _ h;subst h;exact h2
 refine RL.val hg hd ?_ k
 have:=t9 (P:=P) (α:=α) (a:=a) (m:=l.length) (cap:=cap) (hiv:=none) hT hl (.inr ⟨rfl,rfl⟩) hc.1 hc.2.1 (by omega) hcap w
 simp only [execOp,hx,aO,Option.map_none,this,aU,aW]
 simp only [vw,bY]
theorem RL.Iy {lo:Nat} {T:TypeId} (hg:Wn ops U g) (hd:Nat.blt d n=true) (hw:Holds E w V) (hx:ev U q=vw v lo (GT.sz α)) (hi:V[i]? =some (own e v l)) (ht:P.underlying t=some (.slice T))
  (k:RL P n ops rest (eL U d (.int .i64 ((l.length - lo:Nat)))) w Q):RL P n ops (⟨some d, .call ⟨.builtin .len,#[q],#[t]⟩,ty,pos,af,g⟩::rest) U w Q:=by
 obtain⟨a,cap,rfl⟩:=hw.kc hi
 exact RL.Ip hg hd hx ht k
theorem RL.Fc {jj:Int} (i:Nat) (lo:Int) (hd:Nat.blt d n=true) (hw:Holds E w V) (hx:ev U q=vw v lo.toNat (GT.sz α)) (hy:ev U r = .int K jj) (hi:V[i]? =some (own e v l)) (hT:sI P T e (GT.sz α)) (h0:0<=lo) (hj0:0<=jj) (hj:idx l (lo+jj)=some x) (kk:RL P n ops rest (eL U d (zd v (lo+jj).toNat (GT.sz α) 0)) w Q) (hg:Wn ops U g:=by exact trivial):
  RL P n ops (⟨some d, .indexAddr T q r,ty,pos,af,g⟩::rest) U w Q:=by
 obtain⟨_,hx',hlt⟩:=bB hj
 obtain⟨M,hs,gd⟩:=hw
 rcases gd.sat i _ hi with ⟨rfl,rfl,_⟩ | ⟨b,o,cap,cur,xs,rfl,h2,_⟩
 ·simp at hlt
 ·have hne:cap≠lo.toNat:=by omega
  simp only [vw,aD hne,Option.map_some] at hx
  have e1:zd (.slice (some ⟨b,o,none⟩) l.length cap) (lo+jj).toNat (GT.sz α) 0 = .pointer (some (((⟨b,o,none⟩:Addr).add (lo.toNat*GT.sz α)).add (jj.toNat*GT.sz α))):=by
   have: (lo+jj).toNat=lo.toNat+jj.toNat:=by omega
   simp only [zd,add_add,<-Nat.add_mul,this,Nat.add_zero]
  rw [e1] at kk
  refine RL.val hg hd ?_ kk
  have hlt':jj< ((l.length - lo.toNat:Nat):Int):=by omega
  simp only [execOp,hx,hy,Instr.indexAt,asIntOf,aO,aW,aU,run_underlying hT.wW,hT.sz,hj0,hlt',and_self,if_true]
theorem RL.Jo {op:Op} {w':World} {u:Value} (hg:Wn ops U g) (hrun: (execOp (ev U) ⟨none,op,ty,pos,af,g⟩).run P w = .ok (.value u) w')
  (k:RL P n ops rest U w' Q):RL P n ops (⟨none,op,ty,pos,af,g⟩::rest) U w Q:=by
 intro a ha
 unfold wpList
 rw [aC (Wn.wanted (o:=⟨none,op,ty,pos,af,g⟩) hg ha)]
 refine .inl ?_
 unfold Oper.wp
 rw [ha.ev,hrun]
 exact k _ (ha.xf _)
theorem RL.Be {lo:Nat} (i:Nat) (hg:Wn ops U g) (hw:Holds E w V) (hx:ev U q=vw v lo (GT.sz α)) (hi:V[i]? =some (own e v l)) (hT:pY P t e (GT.sz α) bytes) (hz0:GV P e z0) (hle:lo<=l.length) (kk: ∀w',Holds E w' (V.set i (own e v (l.take lo++List.replicate (l.length - lo) z0)))->RL P n ops rest U w' Q):
  RL P n ops (⟨none, .call ⟨.builtin .clear,#[q],#[t]⟩,ty,pos,af,g⟩::rest) U w Q:=by
 by_cases hem:l.length=lo
 ·have e1:l.take lo++List.replicate (l.length - lo) z0=l:=by rw [<-hem,eD,Nat.sub_self];simp
  rw [e1,t8 hi] at kk
  obtain⟨a,cap,rfl⟩:=hw.kc hi
  refine RL.Jo (u:= .tuple #[]) hg ?_ (kk w hw)
  have hv:vw (.slice a l.length cap) lo (GT.sz α) = .slice (if cap=lo then a else a.map (·.add (lo*GT.sz α))) 0 (cap - lo):=by simp only [vw,hem,Nat.sub_self]
  rw [hv] at hx
  generalize (if cap=lo then a else a.map (·.add (lo*GT.sz α)))=a' at hx
  cases a' <;> simp [execOp,resolve,invoke,builtin,Builtin.clear_,hx,run_underlying hT.wW]
 obtain⟨inf,z,hinf,hz,hsz,hby,hzs⟩:=hT.inf
 obtain⟨M,hs,gd⟩:=hw
 rcases gd.sat i _ hi with ⟨_,rfl,_⟩ | ⟨b,o,cap,cur,xs,rfl,h2,h3,h4,h5,h6,h7⟩
 ·simp at hle hem;omega
 have hne:cap≠lo:=by omega
 obtain⟨m,hm⟩: ∃m,l.length=lo+ (m+1):=⟨l.length - lo - 1,by omega⟩
 have hv:vw (.slice (some ⟨b,o,none⟩) l.length cap) lo (GT.sz α) = .slice (some ⟨b,o+lo*GT.sz α,none⟩) (m+1) (cap - lo):=by
  simp only [vw,aD hne,Option.map_some,Addr.add_lit,hm,Nat.add_sub_cancel_left]
 rw [hv] at hx
 have hb:=gd.le i b _ (cK hi) (by rw [h4];exact dC b _)
 have hcap:l.length*GT.sz α<=cap*GT.sz α:=Nat.mul_le_mul_right _ h2
 have hcs:o+cap*GT.sz α<=cur.toList.length:=h5
 generalize hzl: (Builtin.zeroCells z.cells (m+1)).toList=zl
 have hzn:zl.length= (m+1)*GT.sz α:=by rw [<-hzl,Array.length_toList,size_zeroCells,hzs]
 have hlm:l.length*GT.sz α=lo*GT.sz α+ (m+1)*GT.sz α:=by rw [hm,Nat.add_mul]
 have hok: ∀M',GT.ok M' z.cells.toList z0:=fun M'=>hz0 M' z (by rw [hinf];exact hz)
 have hzg: ∀a t,a<m+1->t<GT.sz α->zl[a*GT.sz α+t]? =z.cells.toList[t]? :=fun a t ha ht=>by
  have hms:=oS (sz:=GT.sz α) ha
  have hlt:a*GT.sz α+t< (Builtin.zeroCells z.cells (m+1)).size:=by rw [size_zeroCells,hzs];omega
  have hzl2:z.cells.toList.length=GT.sz α:=by rw [Array.length_toList];exact hzs
  rw [<-hzl,Array.getElem?_toList,fN hlt,aJ (show t<z.cells.toList.length by omega)]
  simp only [Builtin.zeroCells,Array.getElem_map,Array.getElem_range,hzs]
  have hmod: (a*GT.sz α+t) % GT.sz α=t:=by rw [Nat.mul_comm,Nat.mul_add_mod,Nat.mod_eq_of_lt ht]
  rw [hmod,getElem!_pos z.cells t (by omega)]
  simp
 have hfit:o+lo*GT.sz α+zl.length<=cur.toList.length:=by omega
 have h1z: ∀u∈zl,u.oneCell'=true:=fun u hu=>by
  obtain⟨k,hk⟩:=gk hu
  have hkl:=(bC.1 hk).1
  have hp:0<GT.sz α:=GT.pos
  have hkd:k / GT.sz α<m+1:=Nat.div_lt_of_lt_mul (by rw [Nat.mul_comm];omega)
  have:=hzg (k / GT.sz α) (k % GT.sz α) hkd (Nat.mod_lt _ hp)
  rw [Nat.mul_comm,Nat.div_add_mod,hk] at this
  exact GT.one (hok M) u (gH this.symm)
 have hst:=run_storeCells_at P b (o+lo*GT.sz α) e zl 0 cur w hb (by simpa [hzn] using hfit) h1z
 simp only [Nat.add_zero] at hst
 have hnew:cur.toList.take (o+lo*GT.sz α)++zl++cur.toList.drop (o+lo*GT.sz α+zl.length)=A8 (o+lo*GT.sz α) zl cur.toList:=rfl
 rw [hnew] at hst
 have hget: ∀t,xs[t]? =if t<l.length*GT.sz α then cur.toList[o+t]? else none:=fun t=>by rw [<-h6,dM,eH]
 have hln: (l.take lo++List.replicate (l.length - lo) z0).length=l.length:=by rw [dR,dE,List.length_replicate];omega
 refine RL.Jo (u:= .tuple #[]) hg ?_ (kk _ (ky (P':=own e (.slice (some ⟨b,o,none⟩) l.length cap) (l.take lo++List.replicate (l.length - lo) z0)) (new:=(A8 (o+lo*GT.sz α) zl cur.toList).toArray) gd hi h4
  (.inr ⟨b,o,cap,_,((A8 (o+lo*GT.sz α) zl cur.toList).drop o).take (l.length*GT.sz α),by rw [hln],by rw [hln];exact h2,h3,rfl,?_,by rw [hln],?_⟩)))
 ·have hzv: ∀w,(zeroValue e).run P w = .ok z w:=fun w=>by simp [zeroValue,typeInfo,aO,hinf,hz]
  simp [execOp,resolve,invoke,builtin,Builtin.clear_,hx,run_underlying hT.wW,hzv,hzl,hst]
 ·rw [List.size_toArray,qd hfit];exact hcs
 ·refine⟨by rw [dE,gR,qd hfit,hln];omega,fun a y hy=>?_⟩
  have jk:a<l.length:=by rw [<-hln];exact(bC.1 hy).1
  have has:=oS (sz:=GT.sz α) jk
  by_cases hlt:a<lo
  ·rw [fO (by rw [dE];omega),dM,aC hlt] at hy
   have hok':=h7.2 a y hy
   have has2:=oS (sz:=GT.sz α) hlt
   have heq: (List.drop (a*GT.sz α) (((A8 (o+lo*GT.sz α) zl cur.toList).drop o).take (l.length*GT.sz α))).take (GT.sz α)= (List.drop (a*GT.sz α) xs).take (GT.sz α):=by
    apply List.ext_getElem?
    intro t
    simp only [dM,eH,uc hfit,hget]
    by_cases ht:t<GT.sz α
    ·rw [aC ht,aC ht,aC (by omega),aC (by omega),aC (by omega)]
    ·rw [aD ht,aD ht]
   rw [heq];exact hok'
  ·rw [fz (by rw [dE];omega),List.getElem?_replicate] at hy
   split at hy
   case isFalse=>cases hy
   injection hy with hy
   subst hy
   obtain⟨a',rfl⟩: ∃a',a=lo+a':=⟨a - lo,by omega⟩
   have ha':a'<m+1:=by omega
   have hms:=oS (sz:=GT.sz α) ha'
   have heq: (List.drop ((lo+a')*GT.sz α) (((A8 (o+lo*GT.sz α) zl cur.toList).drop o).take (l.length*GT.sz α))).take (GT.sz α)=z.cells.toList:=by
    apply List.ext_getElem?
    intro t
    have hzl2:z.cells.toList.length=GT.sz α:=by rw [Array.length_toList];exact hzs
    simp only [dM,eH,uc hfit]
    rw [Nat.add_mul] at has ⊢
    by_cases ht:t<GT.sz α
    ·rw [aC ht,aC (by omega),aD (by omega),aC (by omega),<-hzg a' t ha' ht]
     congr 1;omega
    ·rw [aD ht,List.getElem?_eq_none (by omega)]
   rw [heq];exact hok M
theorem Fe {α:Type} {l l':List α} {lo:Int} (h:tV l lo (l.length:Nat)=some l'):lo.toNat<=l.length:=by
 unfold tV at h;split at h
 ·omega
 ·cases h
theorem CD {α:Type} {l l':List α} {lo hi:Int} (h:tV l lo hi=some l'):0<=lo:=by
 unfold tV at h;split at h
 ·rename_i hc;exact hc.1
 ·cases h
end
def qN (D:Nat->Bool) (U:Nat->Value):List (Nat×Nat×Value)->Prop
 | []=>True
 | (j,d,v)::r=>(D j=false->U d=v)/\qN D U r
theorem qN.at {D:Nat->Bool} {U:Nat->Value}: ∀{dv:List (Nat×Nat×Value)} (_:qN D U dv) (k:Nat) {j d:Nat} {v:Value} (_:dv[k]? =some (j,d,v)),D j=false->U d=v
 | [],_,k,_,_,_,h=>by simp at h
 | (j,d,v)::r,h,0,j',d',v',e=>by simp at e;obtain⟨rfl,rfl,rfl⟩:=e;exact h.1
 | (j,d,v)::r,h,k+1,j',d',v',e=>qN.at h.2 k (by simpa using e)
theorem ze {D:Nat->Bool} {i k:Nat} (h:ins D i k=false):D k=false/\Nat.beq k i=false:=by
 unfold ins at h
 cases hb:Nat.beq k i with
 | true=>rw [hb] at h;cases h
 | false=>rw [hb] at h;exact⟨h,rfl⟩
theorem qN.no {D:Nat->Bool} {U:Nat->Value} {j:Nat}: ∀{dv:List (Nat×Nat×Value)} (_:qN D U dv),qN (ins D j) U dv
 | [],_=>trivial
 | (i,d,v)::r,h=>⟨fun hi=>h.1 (ze hi).1,qN.no h.2⟩
theorem qN.up {D:Nat->Bool} {U:Nat->Value} {j d:Nat} {v:Value}: ∀{dv:List (Nat×Nat×Value)} (_:qN D U dv) (_: (dv.all fun x=>Nat.beq x.1 j|| !Nat.beq x.2.1 d)=true),qN (ins D j) (eL U d v) dv
 | [],_,_=>trivial
 | (i,d',v')::r,h,ha=>by
  simp only [List.all_cons,bT,dU,Bool.not_eq_true'] at ha
  refine⟨fun hi=>?_,qN.up h.2 ha.2⟩
  obtain⟨h1,h2⟩:=ze hi
  rcases ha.1 with e | e
  ·rw [e] at h2;cases h2
  ·unfold eL;rw [e];exact h.1 h1
end Go.Gk
namespace Go.Gk
open Go
section
variable {E w:World} {M:dJ} {hs:Nat->dJ} {V:List HP} {P P1 P2:HP} {j:Nat} {h1 h2:dJ}
theorem Good.split (g:Good E w M hs V) (hj:j<V.length) (hl1: ∀b o,h1 b=some o->hs j b=some o) (hl2: ∀b o,h2 b=some o->hs j b=some o)
  (hd: ∀b o,h1 b=some o->h2 b=none) (hp1:P1.ok M h1) (hp2:P2.ok M h2):Good E w M (AZ h1 (lL hs j h2)) (P1::V.set j P2):=by
 have g2:Good E w M (lL hs j h2) (V.set j P2):=by
  have:=g.update (w':=w) (P':=P2) hj h2 hp2 rfl rfl rfl (fun b o hb=>g.le j b o hj (hl2 b o hb)) (fun b o hb=> .inl ⟨o,hl2 b o hb⟩) (fun b _ _=>rfl)
  exact this
 refine g2.cons h1 hp1 (fun b o hb=>g.le j b o hj (hl1 b o hb)) (fun b o hb=>g.dm j b o hj (hl1 b o hb)) (fun i b o hi hb=>?_)
 rw [gT] at hi
 unfold lL
 split
 ·exact hd b o hb
 ·rename_i hne
  exact g.dj j i b o hj hi (fun h=>hne h.symm) (hl1 b o hb)
theorem Good.join (g:Good E w M hs (P1::V)) (hj:j<V.length) (hp:P.ok M (oF (hs 0) (hs (j+1)))):
  Good E w M (lL (fun i=>hs (i+1)) j (oF (hs 0) (hs (j+1)))) (V.set j P):=by
 have hj1:j+1< (P1::V).length:=by simp;exact hj
 have ho: ∀b o,oF (hs 0) (hs (j+1)) b=some o->hs 0 b=some o\/hs (j+1) b=some o:=fun b o hb=>by
  unfold oF at hb
  cases e:hs 0 b with
  | some o'=>rw [e] at hb;exact .inl hb
  | none=>rw [e] at hb;exact .inr hb
 have h0:0< (P1::V).length:=by simp
 refine⟨g.os,g.tape,g.out,g.dr,g.im,fun i Q hq=>?_,fun i b o hi hb=>?_,fun i b o hi hb=>?_,fun i k b o hi hk hne hb=>?_⟩
 ·rw [fA] at hq
  unfold lL
  by_cases e:j=i
  ·subst e;simp [hj] at hq;subst hq;simpa using hp
  ·rw [aD e] at hq;rw [aD (fun h=>e h.symm)];exact g.sat (i+1) Q (by simpa using hq)
 ·rw [gT] at hi
  unfold lL at hb
  split at hb
  ·rcases ho b o hb with h | h
   ·exact g.le 0 b o h0 h
   ·exact g.le (j+1) b o hj1 h
  ·exact g.le (i+1) b o (by simp;exact hi) hb
 ·rw [gT] at hi
  unfold lL at hb
  split at hb
  ·rcases ho b o hb with h | h
   ·exact g.dm 0 b o h0 h
   ·exact g.dm (j+1) b o hj1 h
  ·exact g.dm (i+1) b o (by simp;exact hi) hb
 ·rw [gT] at hi hk
  have hi1:i+1< (P1::V).length:=by simp;exact hi
  have hk1:k+1< (P1::V).length:=by simp;exact hk
  unfold lL at hb ⊢
  split at hb
  ·rename_i e
   rw [aD (fun h=>hne (e.trans h.symm))]
   rcases ho b o hb with h | h
   ·exact g.dj 0 (k+1) b o h0 hk1 (by omega) h
   ·exact g.dj (j+1) (k+1) b o hj1 hk1 (by omega) h
  ·split
   ·rename_i e1 e2
    have a1:=g.dj (i+1) 0 b o hi1 h0 (by omega) hb
    have a2:=g.dj (i+1) (j+1) b o hi1 hj1 (by omega) hb
    unfold oF;rw [a1];exact a2
   ·exact g.dj (i+1) (k+1) b o hi1 hk1 (by omega) hb
end
structure RV where
 v:Value
 one:v.oneCell'=true
instance:Sc RV:=⟨RV.v,RV.one⟩
structure XT (ρ α:Type) where
 rest:ρ->α->Prop
 ok:dJ->dJ->ρ->α->Prop
 mono: ∀{M M' h:dJ} {u:ρ} {x:α},hle M M'->ok M h u x->ok M' h u x
 res: ∀{M h:dJ} {u:ρ} {x:α},ok M h u x->rest u x
def gL {ρ α:Type} (X:XT ρ α) (us:List ρ) (xs:List α) (k:Option Nat):HP:=
 ⟨fun M h=>us.length=xs.length/\(∀(i:Nat) u x,us[i]? =some u->xs[i]? =some x->X.rest u x)/\∃c:Nat->Nat,(∀b o,h b=some o->c b<us.length/\k≠some (c b))/\
  ∀i u x,k≠some i->us[i]? =some u->xs[i]? =some x->X.ok M (fun b=>if c b=i then h b else none) u x,
  fun hk ⟨h1,h0,c,h2,h3⟩=>⟨h1,h0,c,h2,fun i u x hi hu hx=>X.mono hk (h3 i u x hi hu hx)⟩⟩
def GW {ρ α:Type} (X:XT ρ α) (u:ρ) (x:α):HP:=⟨fun M h=>X.ok M h u x,fun hk h=>X.mono hk h⟩
section
variable {ρ α:Type} {X:XT ρ α} {us:List ρ} {xs:List α} {E w:World} {V:List HP} {j i:Nat} {u u':ρ} {x x':α}
theorem Holds.fR (j:Nat) (h:Holds E w V) {k:Option Nat} (hj:V[j]? =some (gL X us xs k):=by exact rfl):us.length=xs.length:=by
 obtain⟨M,hs,g⟩:=h
 exact(g.sat j _ hj).1
theorem Holds.focus (h:Holds E w V) (hj:V[j]? =some (gL X us xs none)) (hu:us[i]? =some u) (hx:xs[i]? =some x):Holds E w (GW X u x::V.set j (gL X us xs (some i))):=by
 obtain⟨M,hs,g⟩:=h
 obtain⟨hl,hr,c,hc,hok⟩:=g.sat j _ hj
 refine⟨M,_,g.split (cK hj) (h1:=fun b=>if c b=i then hs j b else none) (h2:=fun b=>if c b=i then none else hs j b) (fun b o hb=>?_) (fun b o hb=>?_) (fun b o hb=>?_) ?_ ?_⟩
 ·split at hb
  ·exact hb
  ·cases hb
 ·split at hb
  ·cases hb
  ·exact hb
 ·split at hb
  ·rename_i e;rw [aC e]
  ·cases hb
 ·exact hok i u x (by simp) hu hx
 ·refine⟨hl,hr,c,fun b o hb=>?_,fun a u2 x2 ha hu2 hx2=>?_⟩
  ·dsimp only at hb;split at hb
   ·cases hb
   ·rename_i hne
    exact⟨(hc b o hb).1,fun e=>hne (by injection e with e;exact e.symm)⟩
  ·have hai:a≠i:=fun e=>ha (by rw [e])
   have:=hok a u2 x2 (by simp) hu2 hx2
   have e: (fun b=>if c b=a then hs j b else none)= (fun b=>if c b=a then (if c b=i then none else hs j b) else none):=by
    funext b
    by_cases hb:c b=a
    ·rw [aC hb,aC hb,aD (fun e=>hai (hb.symm.trans e))]
    ·rw [aD hb,aD hb]
   rw [<-e];exact this
theorem Holds.G9 (h:Holds E w (GW X u' x'::V)) (hj:V[j]? =some (gL X us xs (some i))) (hi:i<us.length):Holds E w (V.set j (gL X (us.set i u') (xs.set i x') none)):=by
 obtain⟨M,hs,g⟩:=h
 have hlt:=cK hj
 obtain⟨hl,hr,c,hc,hok⟩:=g.sat (j+1) _ (by simpa using hj)
 have h0:X.ok M (hs 0) u' x':=g.sat 0 _ rfl
 have hdj: ∀b o,hs 0 b=some o->hs (j+1) b=none:=fun b o hb=>g.dj 0 (j+1) b o (by simp) (by simp;exact hlt) (by omega) hb
 have hrr: ∀(a:Nat) u2 x2,(us.set i u')[a]? =some u2->(xs.set i x')[a]? =some x2->X.rest u2 x2:=fun a u2 x2 hu2 hx2=>by
  rw [fA] at hu2 hx2
  by_cases ha:i=a
  ·subst ha
   rw [aC rfl,aC hi] at hu2
   rw [aC rfl,aC (by rw [<-hl];exact hi)] at hx2
   injection hu2 with hu2;injection hx2 with hx2
   subst hu2;subst hx2
   exact X.res h0
  ·rw [aD ha] at hu2 hx2;exact hr a u2 x2 hu2 hx2
 refine⟨M,_,g.join hlt ⟨by simp [hl],hrr,fun b=>if (hs 0 b).isSome=true then i else c b,fun b o hb=>?_,fun a u2 x2 _ hu2 hx2=>?_⟩⟩
 ·rw [gT]
  refine⟨?_,by simp⟩
  dsimp only
  split
  ·exact hi
  ·rename_i hn
   have:hs 0 b=none:=by simpa using hn
   unfold oF at hb
   rw [this] at hb
   exact(hc b o hb).1
 ·rw [fA] at hu2 hx2
  by_cases ha:i=a
  ·subst ha
   rw [aC rfl,aC hi] at hu2
   rw [aC rfl,aC (by rw [<-hl];exact hi)] at hx2
   injection hu2 with hu2;injection hx2 with hx2
   subst hu2;subst hx2
   have e: (fun b=>if (if (hs 0 b).isSome=true then i else c b)=i then oF (hs 0) (hs (j+1)) b else none)=hs 0:=by
    funext b
    cases hb:hs 0 b with
    | some o=>simp [oF,hb]
    | none=>
     simp only [Option.isSome_none,Bool.false_eq_true,if_false]
     split
     ·rename_i hci
      unfold oF;rw [hb]
      cases hq:hs (j+1) b with
      | none=>rfl
      | some o=>exact absurd (by rw [hci]) (hc b o hq).2
     ·rfl
   rw [e];exact h0
  ·rw [aD ha] at hu2 hx2
   have:=hok a u2 x2 (fun e=>ha (by injection e)) hu2 hx2
   have e: (fun b=>if c b=a then hs (j+1) b else none)= (fun b=>if (if (hs 0 b).isSome=true then i else c b)=a then oF (hs 0) (hs (j+1)) b else none):=by
    funext b
    cases hb:hs 0 b with
    | some o=>simp [oF,hb,ha,hdj b o hb]
    | none=>simp [oF,hb]
   rw [<-e];exact this
theorem Holds.Bf (h:Holds E w (GW X u' x'::V)) (hj:V[j]? =some (gL X us xs none)):Holds E w (V.set j (gL X (us++[u']) (xs++[x']) none)):=by
 obtain⟨M,hs,g⟩:=h
 have hlt:=cK hj
 obtain⟨hl,hr,c,hc,hok⟩:=g.sat (j+1) _ (by simpa using hj)
 have h0:X.ok M (hs 0) u' x':=g.sat 0 _ rfl
 have hdj: ∀b o,hs 0 b=some o->hs (j+1) b=none:=fun b o hb=>g.dj 0 (j+1) b o (by simp) (by simp;exact hlt) (by omega) hb
 have hrr: ∀(a:Nat) u2 x2,(us++[u'])[a]? =some u2->(xs++[x'])[a]? =some x2->X.rest u2 x2:=fun a u2 x2 hu2 hx2=>by
  by_cases ha:a<us.length
  ·rw [fO ha] at hu2
   rw [fO (by omega)] at hx2
   exact hr a u2 x2 hu2 hx2
  ·have hae:a=us.length:=by
    have:=(bC.1 hu2).1;simp at this;omega
   subst hae
   rw [fz (bM _),Nat.sub_self] at hu2
   rw [hl,fz (bM _),Nat.sub_self] at hx2
   simp at hu2 hx2
   subst hu2;subst hx2
   exact X.res h0
 refine⟨M,_,g.join hlt ⟨by simp [hl],hrr,fun b=>if (hs 0 b).isSome=true then us.length else c b,fun b o hb=>?_,fun a u2 x2 _ hu2 hx2=>?_⟩⟩
 ·refine⟨?_,by simp⟩
  rw [dR]
  dsimp only
  split
  ·simp
  ·rename_i hn
   have:hs 0 b=none:=by simpa using hn
   unfold oF at hb
   rw [this] at hb
   have:=(hc b o hb).1;simp;omega
 ·by_cases ha:a<us.length
  ·rw [fO ha] at hu2
   rw [fO (by omega)] at hx2
   have:=hok a u2 x2 (by simp) hu2 hx2
   have e: (fun b=>if c b=a then hs (j+1) b else none)= (fun b=>if (if (hs 0 b).isSome=true then us.length else c b)=a then oF (hs 0) (hs (j+1)) b else none):=by
    funext b
    cases hb:hs 0 b with
    | some o=>simp [oF,hb,hdj b o hb];omega
    | none=>simp [oF,hb]
   rw [<-e];exact this
  ·have hae:a=us.length:=by
    have:=(bC.1 hu2).1;simp at this;omega
   subst hae
   rw [fz (bM _),Nat.sub_self] at hu2
   rw [hl,fz (bM _),Nat.sub_self] at hx2
   simp at hu2 hx2
   subst hu2;subst hx2
   have e: (fun b=>if (if (hs 0 b).isSome=true then us.length else c b)=us.length then oF (hs 0) (hs (j+1)) b else none)=hs 0:=by
    funext b
    cases hb:hs 0 b with
    | some o=>simp [oF,hb]
    | none=>
     simp only [Option.isSome_none,Bool.false_eq_true,if_false]
     split
     ·rename_i hci
      unfold oF;rw [hb]
      cases hq:hs (j+1) b with
      | none=>rfl
      | some o=>have:=(hc b o hq).1;omega
     ·rfl
   rw [e];exact h0
theorem Holds.wY (X:XT ρ α) (h:Holds E w V):Holds E w (gL X [] [] none::V):=
 h.yF fun _ _ _=>⟨rfl,fun i u x hu=>(by simp at hu),fun _=>0,fun _ _ h=>(by cases h),fun i u x _ hu=>(by simp at hu)⟩
theorem Holds.Ff (h:Holds E w V) {k:Option Nat} (hj:V[j]? =some (gL X us xs k)) (hu:us[i]? =some u) (hx:xs[i]? =some x):X.rest u x:=by
 obtain⟨M,hs,g⟩:=h
 exact(g.sat j _ hj).2.1 i u x hu hx
end
section
variable {ρ α:Type} [GT ρ] {X:XT ρ α} {us:List ρ} {xs:List α} {E w:World} {V:List HP} {j i:Nat} {e:TypeId} {v:Value}
theorem Holds.Bg [GT α] (hsz:GT.sz ρ=GT.sz α) (hX: ∀M h u x cs,(∀b o,h b=some o->M b=none)->X.ok M h u x->GT.ok M cs u->GT.ok (oF M h) cs x)
  (h:Holds E w (gL X us xs none::V)) (hj:V[j]? =some (own e v us)):Holds E w (Gk.aX::V.set j (own e v xs)):=by
 obtain⟨M,hs,g⟩:=h
 have hlt:=cK hj
 obtain⟨hl,hr,c,hc,hok⟩:=g.sat 0 _ rfl
 have g2:=g.freeze (P':=Gk.aX) (i:=0) (by simp) trivial
 have ho:=g.sat (j+1) (own e v us) (by simpa using hj)
 have hnew: (own e v xs).ok (oF M (hs 0)) (hs (j+1)):=by
  rcases ho with ⟨h1,h2,h3⟩ | ⟨b,o,cap,cur,cs,h1,h2,h3,h4,h5,h6,h7⟩
  ·subst h2
   exact .inl ⟨h1,List.length_eq_zero_iff.1 (by rw [<-hl];rfl),h3⟩
  ·refine .inr ⟨b,o,cap,cur,cs,by rw [<-hl];exact h1,by rw [<-hl];exact h2,h3,h4,by rw [<-hsz];exact h5,by rw [<-hl,<-hsz];exact h6,⟨by rw [<-hl,<-hsz];exact h7.1,fun a x hx=>?_⟩⟩
   have ha:a<us.length:=by rw [hl];exact(bC.1 hx).1
   have hu:=aJ ha
   have h9:=hX M _ _ _ _ (fun b' o' hb'=>by
    split at hb'
    ·exact g.dm 0 b' o' (by simp) hb'
    ·cases hb') (hok a _ x (by simp) hu hx) (by exact h7.2 a _ hu)
   rw [<-hsz]
   refine GT.mono (fun q o' hq=>?_) h9
   unfold oF at hq ⊢
   cases hM:M q with
   | some o2=>rw [hM] at hq;exact hq
   | none=>
    rw [hM] at hq
    dsimp only at hq ⊢
    split at hq
    ·exact hq
    ·cases hq
 have g3:=g2.update (w':=w) (P':=own e v xs) (i:=j+1) (by simp;exact hlt) (hs (j+1)) hnew rfl rfl rfl
  (fun b o hb=>g.le (j+1) b o (by simp;exact hlt) hb) (fun b o hb=> .inl ⟨o,by unfold lL;rw [aD (by omega)];exact hb⟩) (fun b _ _=>rfl)
 exact⟨_,_,g3⟩
end
section
variable {β:Type} [GT β]
def XS (e:TypeId) (β:Type) [GT β]:XT RV (List β):=⟨fun _ _=>True,fun M h u l=>tj e M h u.v l,fun{M M' h u l} hk hh=>(own e u.v l).mono hk hh,fun _=>trivial⟩
theorem Iz (e:TypeId) (u:RV) (l:List β):GW (XS e β) u l=own e u.v l:=rfl
theorem tj.sl {e:TypeId} {M h:dJ} {v:Value} {l:List β} (hd: ∀b o,h b=some o->M b=none) (ho:tj e M h v l):l8 (oF M h) v l:=by
 rcases ho with ⟨rfl,rfl,_⟩ | ⟨b,o,cap,cur,xs,rfl,h2,h3,h4,h5,h6,h7⟩
 ·exact⟨none,0,0,rfl,rfl,bM _,by simp [maxLen],fun i x hx=>by simp at hx⟩
 ·refine t7 (M:=oF M h) (e:=e) (fr:=(0,0)) ?_ (h7.mono (r7 _ _)) h6 h2 h3
  have hb:h b=some (.cells cur e (0,0)):=by rw [h4];exact dC _ _
  simp [oF,hd b _ hb,hb]
theorem Fg (e:TypeId) (M h:dJ) (u:RV) (l:List β) (cs:List Value) (hd: ∀b o,h b=some o->M b=none) (hx: (XS e β).ok M h u l) (hc:GT.ok M cs u):GT.ok (oF M h) cs l:=
 ⟨u.v,hc,tj.sl hd hx⟩
end
end Go.Gk
namespace Go.Gk
open Go
def wi:RV:=⟨.slice none 0 0,rfl⟩
def rv (v:Value):RV:=if h:v.oneCell'=true then ⟨v,h⟩ else wi
theorem Ha {v:Value} (h:v.oneCell'=true): (rv v).v=v:=by unfold rv;rw [dif_pos h]
instance:Inhabited RV:=⟨wi⟩
theorem iC {ρ α:Type} {us:List ρ} {xs:List α} {jj:Int} {x:α} (z:ρ) (hl:us.length=xs.length) (hx:idx xs jj=some x):idx us jj=some (us.getD jj.toNat z):=by
 obtain⟨h0,hx',hlt⟩:=bB hx
 obtain⟨k,rfl⟩:=Int.eq_ofNat_of_zero_le h0
 rw [bY] at hlt ⊢
 have hk:k<us.length:=by omega
 unfold idx
 rw [aC (by omega),bY,aJ hk,List.getD_eq_getElem?_getD,aJ hk]
 rfl
structure XO {ρ α β:Type} [GT ρ] [GT β] (X:XT ρ α) (e':TypeId) (off:Nat) (f:ρ->RV) (fs:ρ->RV->ρ) (g:α->List β) (gs:α->List β->α):Prop where
 MJ:Fd off f
 K9:Fs off RV fs
 le:off+1<=GT.sz ρ
 get: ∀{M h u x},X.ok M h u x->tj e' M h (f u).v (g x)
 put: ∀{M h' u x r y},X.rest u x->tj e' M h' (RV.v r) y->X.ok M h' (fs u r) (gs x y)
theorem ud (e:TypeId) (β:Type) [GT β]:XO (XS e β) e 0 (fun x=>x) (fun _ y=>y) (fun x=>x) (fun _ y=>y):=
 ⟨Fd.self,Fs.self,bM _,fun h=>h,fun _ h=>h⟩
section
variable {ρ α β:Type} [GT ρ] [GT β] {X:XT ρ α} {us:List ρ} {xs:List α} {E w:World} {V:List HP} {i j k o b:Nat} {e e':TypeId} {v u:Value} {x:α} {y:List β} {jj:Int} {z:ρ}
variable {off:Nat} {f:ρ->RV} {fs:ρ->RV->ρ} {gg:α->List β} {gs:α->List β->α}
theorem La (z:ρ) (hl:us.length=xs.length) (hx:idx xs jj=some x):us[jj.toNat]? =some (us.getD jj.toNat z):=(bB (iC z hl hx)).2.1
theorem Holds.xp (o:XO X e' off f fs gg gs) (z:ρ) (h:Holds E w V) (hj:V[j]? =some (gL X us xs none)) (hx:idx xs jj=some x):
  Holds E w (own e' (f (us.getD jj.toNat z)).v (gg x)::V.set j (gL X us xs (some jj.toNat))):=by
 have hl:=h.fR (hj:=hj) _
 have h2:=h.focus hj (La z hl hx) (bB hx).2.1
 obtain⟨M,hs,g⟩:=h2
 have:=g.update (w':=w) (P':=own e' (f (us.getD jj.toNat z)).v (gg x)) (i:=0) (by simp) (hs 0) (o.get (g.sat 0 _ rfl)) rfl rfl rfl (fun b o hb=>g.le 0 b o (by simp) hb) (fun b o hb=> .inl ⟨o,hb⟩) (fun _ _ _=>rfl)
 exact⟨_,_,this⟩
theorem Holds.Bh (o:XO X e' off f fs gg gs) (z:ρ) (h:Holds E w (own e' v y::V)) (hj:V[j]? =some (gL X us xs (some jj.toNat))) (hx:idx xs jj=some x):
  Holds E w (V.set j (gL X (us.set jj.toNat (fs (us.getD jj.toNat z) (rv v))) (xs.set jj.toNat (gs x y)) none)):=by
 have hl:=h.fR (hj:=(by simpa using hj)) (j+1)
 have h1: (rv v).v=v:=by
  obtain⟨a,c,hv⟩:=h.kc (i:=0) rfl
  exact Ha (by rw [hv];rfl)
 have hr:=h.Ff (j:=j+1) (by simpa using hj) (La z hl hx) (bB hx).2.1
 have h2:Holds E w (GW X (fs (us.getD jj.toNat z) (rv v)) (gs x y)::V):=by
  obtain⟨M,hs,g⟩:=h
  have:=g.update (w':=w) (P':=GW X (fs (us.getD jj.toNat z) (rv v)) (gs x y)) (i:=0) (by simp) (hs 0) (o.put hr (by rw [h1];exact g.sat 0 _ rfl)) rfl rfl rfl (fun b o hb=>g.le 0 b o (by simp) hb) (fun b o hb=> .inl ⟨o,hb⟩) (fun _ _ _=>rfl)
  exact⟨_,_,this⟩
 exact h2.G9 hj (by rw [hl];exact(bB hx).2.2)
theorem Holds.Bi (h:Holds E w V) (hi:V[i]? =some (own e v y)):Holds E w (rd v (rv v)::V):=by
 have h1: (rv v).v=v:=by
  obtain⟨a,c,hv⟩:=h.kc hi
  exact Ha (by rw [hv];rfl)
 have:=h.sc RV (rv v)
 have e1:Sc.toV (rv v)=v:=h1
 rwa [e1] at this
theorem Holds.wZ [GT α] (hsz:GT.sz ρ=GT.sz α) (hX: ∀M h u x cs,(∀b o,h b=some o->M b=none)->X.ok M h u x->GT.ok M cs u->GT.ok (oF M h) cs x)
  (h:Holds E w V) (hb:V[b]? =some (gL X us xs none)) (hj:V[j]? =some (own e v us)) (hne:b≠j):Holds E w ((V.set b Gk.aX).set j (own e v xs)):=by
 have h1:=h.pull (hi:=hb) _
 have h2:=h1.Bg hsz hX (j:=j) (by rw [fA,aD hne];exact hj)
 exact h2.drop 1 rfl
end
section
variable {ρ α β:Type} [GT ρ] [GT β] {P:Program} {n:Nat} {U:Nat->Value} {w:World} {Q:gq} {E:World} {V:List HP} {i j k o b:Nat}
variable {ops:Array Oper} {rest:List Oper} {d:Nat} {ty t T e e':TypeId} {pos:String} {af:Array Edge} {g:Option (Nat×Bool)} {v vy u p:Value} {q r:Operand}
variable {X:XT ρ α} {us:List ρ} {xs xs':List α} {x:α} {y:List β} {jj:Int} {z:ρ} {bytes:Nat}
variable {off:Nat} {f:ρ->RV} {fs:ρ->RV->ρ} {gg:α->List β} {gs:α->List β->α}
theorem RL.px {k0:Option Nat} (i b:Nat) (xs:List α) (hw:Holds E w V) (ht:P.underlying t=some (.slice e)) (kk:RL P n ops rest (eL U d (.int .i64 (xs.length:Nat))) w Q) (hg:Wn ops U g:=by exact trivial) (hd:Nat.blt d n=true:=by exact rfl) (hx:ev U q=v:=by exact rfl) (hi:V[i]? =some (own e' v us):=by exact rfl) (hb:V[b]? =some (gL X us xs k0):=by exact rfl):RL P n ops (⟨some d, .call ⟨.builtin .len,#[q],#[t]⟩,ty,pos,af,g⟩::rest) U w Q:=by
 have hl:=hw.fR (hj:=hb) _
 rw [<-hl] at kk
 exact RL.dY (hg:=hg) (hd:=hd) (hx:=hx) (hi:=hi) _ _ hw ht kk
theorem RL.qe {k0:Option Nat} (i b o:Nat) (jj:Int) (O:XO X e' off f fs gg gs) (z:ρ) (hw:Holds E w V) (hx:ev U q=p) (hy:ev U r=u) (hp:GU v jj.toNat (GT.sz ρ) off p) (hi:V[i]? =some (own e v us)) (hb:V[b]? =some (gL X us xs k0)) (ho:V[o]? =some (own e' u y)) (hxs:idx xs jj=some x) (hT:ld P T false 1) (kk: ∀w',Holds E w' (((V.set i (own e v (us.set jj.toNat (fs (us.getD jj.toNat z) (rv u))))).set o aX).set b (gL X (us.set jj.toNat (fs (us.getD jj.toNat z) (rv u))) (xs.set jj.toNat (gs x y)) none))->RL P n ops rest U w' Q) (hg:Wn ops U g:=by exact trivial) (hk:k0=none\/k0=some jj.toNat:=by exact(.inr rfl)) (hib:i≠b:=by decide) (hob:o≠b:=by decide) (hio:i≠o:=by decide):
  RL P n ops (⟨none, .store T q r,ty,pos,af,g⟩::rest) U w Q:=by
 have hl:=hw.fR (hj:=hb) _
 have hrv:=hw.Bi ho
 have h3:V.length>0:=by have:=cK hi;omega
 refine RL.gE (hg:=hg) (hx:=hx) (hy:=hy) (hi:=(by simpa using hi)) (hm:=O.le) (f:=fs) (y:=rv u) (i+1) 0 hrv hp (La z hl hxs) rfl O.K9 hT fun w' hw'=>?_
 refine kk w' ?_
 have hw2:Holds E w' (V.set i (own e v (us.set jj.toNat (fs (us.getD jj.toNat z) (rv u))))):=hw'.drop 1 rfl
 have hb2: (V.set i (own e v (us.set jj.toNat (fs (us.getD jj.toNat z) (rv u)))))[b]? =some (gL X us xs k0):=by rw [fA,aD hib];exact hb
 have ho2: (V.set i (own e v (us.set jj.toNat (fs (us.getD jj.toNat z) (rv u)))))[o]? =some (own e' u y):=by rw [fA,aD hio];exact ho
 rcases hk with rfl | rfl
 ·have h4:=hw2.xp O z hb2 hxs
  have h5:Holds E w' ((V.set i (own e v (us.set jj.toNat (fs (us.getD jj.toNat z) (rv u))))).set b (gL X us xs (some jj.toNat))):=h4.drop 1 rfl
  have hb3: ((V.set i (own e v (us.set jj.toNat (fs (us.getD jj.toNat z) (rv u))))).set b (gL X us xs (some jj.toNat)))[b]? =some (gL X us xs (some jj.toNat)):=by
   rw [fA,aC rfl,aC (cK hb2)]
  have ho3: ((V.set i (own e v (us.set jj.toNat (fs (us.getD jj.toNat z) (rv u))))).set b (gL X us xs (some jj.toNat)))[o]? =some (own e' u y):=by
   rw [fA,aD (fun h=>hob h.symm)];exact ho2
  have h6:=h5.pull (hi:=ho3) _
  have h7:=h6.Bh O z (j:=b) (by rw [fA,aD hob];exact hb3) hxs
  rw [List.set_comm _ _ (fun h=>hob h.symm),List.set_set] at h7
  exact h7
 ·have h6:=hw2.pull (hi:=ho2) _
  exact h6.Bh O z (j:=b) (by rw [fA,aD hob];exact hb2) hxs
end
section
variable {α β:Type} [GT β] {P:Program} {n:Nat} {U:Nat->Value} {w:World} {Q:gq} {E:World} {V:List HP} {i j k o b:Nat}
variable {ops:Array Oper} {rest:List Oper} {d:Nat} {ty t T e e':TypeId} {pos:String} {af:Array Edge} {g:Option (Nat×Bool)} {v vy u p:Value} {q r:Operand}
variable {us:List RV} {xs xs':List (List β)} {y:List β} {jj:Int} {bytes:Nat}
theorem Dn {ρ α:Type} {us:List ρ} {xs xs':List α} {x:α} {bytes:Nat} (hl:us.length=xs.length) (h:app bytes xs [x]=some xs') (u:ρ):app bytes us [u]=some (us++[u])/\xs'=xs++[x]:=by
 unfold app at h ⊢
 split at h
 ·rename_i hc
  injection h with h
  exact⟨by rw [aC (by rw [hl];exact hc)],h.symm⟩
 ·cases h
theorem RL.xq (i j b o:Nat) (hd:Nat.blt d n=true) (hw:Holds E w V) (hx:ev U q=v) (hy:ev U r=vy) (hi:V[i]? =some (own e v us)) (hj:V[j]? =some (rd vy [rv u])) (hb:V[b]? =some (gL (XS e' β) us xs none)) (ho:V[o]? =some (own e' u y)) (hT:pY P t e 1 bytes) (ha:Gk.app bytes xs [y]=some xs') (kk: ∀v' w',Holds E w' (((V.set i (own e v' (us++[rv u]))).set o aX).set b (gL (XS e' β) (us++[rv u]) xs' none))->RL P n ops rest (eL U d v') w' Q) (hg:Wn ops U g:=by exact trivial) (hib:i≠b:=by decide) (hob:o≠b:=by decide) (hio:i≠o:=by decide):
  RL P n ops (⟨some d, .call ⟨.builtin .append,#[q,r],#[t,t]⟩,ty,pos,af,g⟩::rest) U w Q:=by
 obtain⟨h1,rfl⟩:=Dn (hw.fR (hj:=hb) _) ha (rv u)
 refine RL.app (hg:=hg) (hd:=hd) (hx:=hx) (hy:=hy) (hi:=hi) (hj:=hj) _ _ hw hT h1 fun v' w' hw'=>kk v' w' ?_
 have hb2: (V.set i (own e v' (us++[rv u])))[b]? =some (gL (XS e' β) us xs none):=by rw [fA,aD hib];exact hb
 have ho2: (V.set i (own e v' (us++[rv u])))[o]? =some (own e' u y):=by rw [fA,aD hio];exact ho
 have h6:=hw'.pull (hi:=ho2) _
 have h7: (rv u).v=u:=by
  obtain⟨a,c,hv⟩:=hw.kc ho
  exact Ha (by rw [hv];rfl)
 have h8:Holds E w' (GW (XS e' β) (rv u) y::(V.set i (own e v' (us++[rv u]))).set o aX):=by
  have:own e' u y=GW (XS e' β) (rv u) y:=by rw [Iz,h7]
  rw [<-this];exact h6
 exact h8.Bf (by rw [fA,aD hob];exact hb2)
end
section
variable {P:Program} {n:Nat} {U:Nat->Value} {w:World} {Q:gq} {E:World} {V:List HP} {i j k o b:Nat}
variable {ops:Array Oper} {rest:List Oper} {d:Nat} {ty t T e e':TypeId} {pos:String} {af:Array Edge} {g:Option (Nat×Bool)} {v vy u p:Value} {q r:Operand}
theorem RL.Dp {cs:List Value} (hg:Wn ops U g) (hd:Nat.blt d n=true) (hw:Holds E w V) (hx:ev U q = .agg cs.toArray) (h1: ∀v∈cs,v.oneCell'=true)
  (kk: ∀b w',Holds E w' (bc T b cs::V)->RL P n ops rest (eL U d (.pointer (some ⟨b,0,none⟩))) w' Q):RL P n ops (⟨some d, .box T q,ty,pos,af,g⟩::rest) U w Q:=by
 refine RL.val hg hd ?_ (kk w.heap.size (w.alloc (.cells cs.toArray T (0,0))) (hw.alloc _ fun M hs gd=>⟨h1,rfl⟩))
 simp only [execOp,hx,Instr.box,newVar,newRow,newObj,aO,aW,Value.cells]
 rfl
end
end Go.Gk
namespace Go.Gk
open Go
section
variable {κ ν ρ:Type} [GT κ] [KV κ] [DecidableEq κ]
end
section
variable {κ β:Type} [GT κ] [KV κ] [DecidableEq κ] [GT β] {E w:World} {V:List HP} {i j b o:Nat} {e e':TypeId} {v u:Value} {mr:List (κ×RV)} {m:List (κ×List β)} {k:κ} {y:List β}
def MK (e':TypeId) (mr:List (κ×RV)) (m:List (κ×List β)) (h:Option κ):HP:=
 ⟨fun M hp=>mr.map Prod.fst=m.map Prod.fst/\(gL (XS e' β) (mr.map Prod.snd) (m.map Prod.snd) (h.bind (kz m))).ok M hp,fun hk ⟨a,b⟩=>⟨a,(gL (XS e' β) _ _ _).mono hk b⟩⟩
theorem mq.raw {M h:dJ} (hd: ∀b o,h b=some o->M b=none): ∀{es:List MapEntry} {mr:List (κ×RV)} {m:List (κ×List β)},mq M es mr->mr.map Prod.fst=m.map Prod.fst->
  (∀(i:Nat) u x,(mr.map Prod.snd)[i]? =some u->(m.map Prod.snd)[i]? =some x->∃h',(∀b o,h' b=some o->h b=some o)/\tj e' M h' (RV.v u) x)->mq (oF M h) es m
 | [],[],[],_,_,_=>trivial
 | en::es,p::mr,q::m,⟨h1,h2,h3⟩,hk,hx=>by
  simp only [dV,List.cons.injEq] at hk
  obtain⟨h',hs,ho⟩:=hx 0 p.2 q.2 rfl rfl
  refine⟨by rw [h1,hk.1],?_,mq.raw hd h3 hk.2 (fun i u x hu hx'=>hx (i+1) u x (by simpa using hu) (by simpa using hx'))⟩
  have:en.val=p.2.v:=zW.1 h2
  rw [this]
  refine j7.2 (l8.mono (fun b o hb=>?_) (tj.sl (fun b o hb=>hd b o (hs b o hb)) ho))
  unfold oF at hb ⊢
  cases hM:M b with
  | some o'=>rw [hM] at hb;exact hb
  | none=>rw [hM] at hb;exact hs b o hb
 | [],p::mr,_,h,_,_=>h.elim
 | _::_,[],_,h,_,_=>h.elim
 | [],[],q::m,_,hk,_=>by simp at hk
 | _::_,p::mr,[],_,hk,_=>by simp at hk
end
section
variable {κ β:Type} [GT κ] [KV κ] [DecidableEq κ] [GT β] {P:Program} {n:Nat} {U:Nat->Value} {w:World} {Q:gq} {E:World} {V:List HP} {i j b o:Nat}
variable {ops:Array Oper} {rest:List Oper} {d:Nat} {ty T kt et e':TypeId} {pos:String} {af:Array Edge} {g:Option (Nat×Bool)} {v u:Value} {q qk qv:Operand} {mr:List (κ×RV)} {m:List (κ×List β)} {k:κ} {y:List β}
end
end Go.Gk
namespace Go.Gk
open Go
section
variable {P:Program} {n:Nat} {U:Nat->Value} {w:World} {Q:gq} {E:World} {V:List HP} {i j k o b m:Nat}
variable {ops:Array Oper} {rest:List Oper} {d:Nat} {ty t T e e':TypeId} {pos:String} {af:Array Edge} {g:Option (Nat×Bool)} {v vy u p:Value} {q r:Operand} {cs:List Value}
theorem xt (hw:Holds E w V) (hi:V[i]? =some (bc e b cs)) (hT:ld P T true m) (hl:cs.length=m): (loadVar T ⟨b,0,none⟩).run P w = .ok (.agg cs.toArray) w:=by
 obtain⟨M,hs,gd⟩:=hw
 obtain⟨_,hh⟩:=gd.sat i _ hi
 have hb:=gd.le i b _ (cK hi) (by rw [hh];exact dC b _)
 have hat: ∀j u,cs[j]? =some u->w.cell? ((⟨b,0,none⟩:Addr).add j)=some u:=fun j u hu=>by
  rw [Addr.add_lit,cell_of_row w b _ _ _ _ hb];simpa using hu
 unfold loadVar
 simp only [aO,hT.GR,aU,if_true,hT.sz,<-hl,run_loadCells_list w _ cs hat,aW]
theorem RL.Fh (hg:Wn ops U g) (hd:Nat.blt d n=true) (hw:Holds E w V) (hx:ev U q = .pointer (some ⟨b,0,none⟩)) (hi:V[i]? =some (bc e b cs)) (hT:ld P T true m) (hl:cs.length=m)
  (kk:RL P n ops rest (eL U d (.agg cs.toArray)) w Q):RL P n ops (⟨some d, .load T q,ty,pos,af,g⟩::rest) U w Q:=by
 refine RL.val hg hd ?_ kk
 simp only [execOp,hx,Instr.loadAt,Instr.sureAddr,aO,aW,aU,xt hw hi hT hl]
end
section
variable {ρ α β:Type} [GT ρ] [GT α] [GT β]
structure XP (X:XT ρ α) (e':TypeId) (off:Nat) (fs:ρ->RV->ρ) (gs:α->List β->α):Prop where
 K9:Fs off RV fs
 le:off+1<=GT.sz ρ
 put: ∀{M h' u x r y},X.rest u x->tj e' M h' (RV.v r) y->X.ok M h' (fs u r) (gs x y)
end
section
variable {ρ α β:Type} [GT ρ] [GT α] [GT β] {X:XT ρ α} {E w:World} {V:List HP} {i j:Nat} {e e':TypeId} {v:Value} {xs:List α} {f:ρ->RV} {gg:α->List β}
end
section
variable {ρ α β:Type} [GT ρ] [GT α] [GT β] {P:Program} {n:Nat} {U:Nat->Value} {w:World} {Q:gq} {E:World} {V:List HP} {i j k o b:Nat}
variable {ops:Array Oper} {rest:List Oper} {d:Nat} {ty t T e e':TypeId} {pos:String} {af:Array Edge} {g:Option (Nat×Bool)} {v vy u p:Value} {q r:Operand}
variable {X:XT ρ α} {us:List ρ} {xs xs':List α} {x:α} {y:List β} {jj:Int} {z:ρ} {bytes off:Nat} {f:ρ->RV} {fs:ρ->RV->ρ} {gg:α->List β} {gs:α->List β->α}
end
end Go.Gk
namespace Go.Gk
open Go
section
universe u v
def Aa {α:Type} {β:Sort v} (o:Option α) (a:β) (f:α->β):β:=match o with | none=>a | some x=>f x
variable {α β:Type} {o:Option α} {y:α} {A:β} {B:α->β} {r:β}
theorem Fi (h:o=none) (hb:Aa o A B=r):A=r:=by subst h;exact hb
theorem Fj (h:o=some y) (hb:Aa o A B=r):B y=r:=by subst h;exact hb
theorem Bj {A:Prop} {B:α->Prop} (h:o=none) (hb:Aa o A B):A:=by subst h;exact hb
theorem Bl {A:Prop} {B:α->Prop} (h:o=some y) (hb:Aa o A B):B y:=by subst h;exact hb
end
section
variable {ρ α β:Type} [GT ρ] [GT α] [GT β] {P:Program} {n:Nat} {U:Nat->Value} {w:World} {Q:gq} {E:World} {V:List HP} {i j k o b:Nat}
variable {ops:Array Oper} {rest:List Oper} {d:Nat} {ty t T e e':TypeId} {pos:String} {af:Array Edge} {g:Option (Nat×Bool)} {v vy u p:Value} {q r:Operand}
variable {X:XT ρ α} {us:List ρ} {xs xs':List α} {x xr:α} {ur:ρ} {y:List β} {jj:Int} {z:ρ} {bytes off:Nat}
theorem RL.D5 (hput: ∀M h,tj e' M h (RV.v (rv u)) y->X.ok M h ur xr) (hg:Wn ops U g) (hd:Nat.blt d n=true) (hw:Holds E w V) (hx:ev U q=v) (hy:ev U r=vy) (hi:V[i]? =some (own e v us)) (hj:V[j]? =some (rd vy [ur]))
  (hb:V[b]? =some (gL X us xs none)) (ho:V[o]? =some (own e' u y)) (hib:i≠b) (hob:o≠b) (hio:i≠o) (hT:pY P t e (GT.sz ρ) bytes) (ha:Gk.app bytes xs [xr]=some xs')
  (kk: ∀v' w',Holds E w' (((V.set i (own e v' (us++[ur]))).set o aX).set b (gL X (us++[ur]) xs' none))->RL P n ops rest (eL U d v') w' Q):
  RL P n ops (⟨some d, .call ⟨.builtin .append,#[q,r],#[t,t]⟩,ty,pos,af,g⟩::rest) U w Q:=by
 obtain⟨h1,rfl⟩:=Dn (hw.fR (hj:=hb) _) ha ur
 refine RL.app (hg:=hg) (hd:=hd) (hx:=hx) (hy:=hy) (hi:=hi) (hj:=hj) _ _ hw hT h1 fun v' w' hw'=>kk v' w' ?_
 have hb2: (V.set i (own e v' (us++[ur])))[b]? =some (gL X us xs none):=by rw [fA,aD hib];exact hb
 have ho2: (V.set i (own e v' (us++[ur])))[o]? =some (own e' u y):=by rw [fA,aD hio];exact ho
 have h6:=hw'.pull (hi:=ho2) _
 have h7: (rv u).v=u:=by
  obtain⟨a,c,hv⟩:=hw.kc ho
  exact Ha (by rw [hv];rfl)
 have h8:Holds E w' (GW X ur xr::(V.set i (own e v' (us++[ur]))).set o aX):=by
  obtain⟨M,hs,gd⟩:=h6
  have:=gd.update (w':=w') (P':=GW X ur xr) (i:=0) (by simp) (hs 0) (hput _ _ (by rw [h7];exact gd.sat 0 _ rfl)) rfl rfl rfl (fun b o hb=>gd.le 0 b o (by simp) hb) (fun b o hb=> .inl ⟨o,hb⟩) (fun _ _ _=>rfl)
  exact⟨_,_,this⟩
 exact h8.Bf (by rw [fA,aD hob];exact hb2)
end
section
variable {P:Program} {n:Nat} {U:Nat->Value} {w:World} {Q:gq} {K:IntKind} {a b c:Int} {t u s:TypeId}
variable {ops:Array Oper} {rest:List Oper} {d:Nat} {ty:TypeId} {pos:String} {af:Array Edge} {g:Option (Nat×Bool)} {q r p:Operand}
theorem RL.Lo (hg:Wn ops U g) (hd:Nat.blt d n=true) (hx:ev U q = .int K a) (hy:ev U r = .int K b) (hz:ev U p = .int K c) (kk:RL P n ops rest (eL U d (.int K (if (if a<b then b else a)<c then c else (if a<b then b else a)))) w Q):
  RL P n ops (⟨some d, .call ⟨.builtin .max,#[q,r,p],#[t,u,s]⟩,ty,pos,af,g⟩::rest) U w Q:=by
 refine RL.val hg hd ?_ kk
 simp [execOp,resolve,hx,hy,hz,invoke,builtin,Builtin.max_,Builtin.max2]
end
def Bm (places:List (Nat×Nat)):List Value->List (Nat×List Value)->Option (List Value)
 | z,[]=>some z
 | z,(i,cs)::rest=>match places[i]? with
  | some (o,m)=>if (Nat.beq cs.length m&&Nat.ble (o+m) z.length)=true then Bm places (z.take o++cs++z.drop (o+cs.length)) rest else none
  | none=>none
def fits:List (Nat×Value)->List (Nat×List Value)->Prop
 | [],[]=>True
 | (i,v)::a,(j,cs)::b=>i=j/\v.cells=cs.toArray/\fits a b
 | _,_=>False
theorem zf {places:List (Nat×Nat)}: ∀{vs:List (Nat×Value)} {pcs:List (Nat×List Value)} {z cs:List Value},fits vs pcs->Bm places z pcs=some cs->Instr.fill (places.toArray[·]?) z.toArray vs=some cs.toArray
 | [],[],z,cs,_,h=>by
  unfold Bm at h;injection h with h;subst h;rfl
 | (i,v)::rest,(j,c)::pcs,z,cs,h1,h=>by
  obtain⟨rfl,hc,h2⟩:=h1
  unfold Bm at h
  unfold Instr.fill
  split at h
  ·rename_i o m he
   split at h
   ·rename_i hlt
    rw [bT] at hlt
    have e1:c.length=m:=eC hlt.1
    have e2:o+m<=z.length:=Nat.le_of_ble_eq_true hlt.2
    have hp: (places.toArray[i]?)=some (o,m):=by simpa using he
    have hs:=Cy c z.toArray o (by simp;omega)
    have hs2: (c.toArray.zipIdx.foldl (fun cs (p:Value×Nat)=>cs.setIfInBounds (o+p.2) p.1) z.toArray)= (z.take o++c++z.drop (o+c.length)).toArray:=by
     apply Array.toList_inj.1;rw [hs]
    simp only [hp,hc]
    rw [aD (by simp;omega)]
    rw [hs2]
    exact zf h2 h
   ·cases h
  ·cases h
 | [],_::_,_,_,h,_=>h.elim
 | _::_,[],_,_,h,_=>h.elim
section
variable {P:Program} {n:Nat} {U:Nat->Value} {w:World} {Q:gq} {E:World} {V:List HP} {i j:Nat}
variable {ops:Array Oper} {rest:List Oper} {d:Nat} {ty T e:TypeId} {pos:String} {af:Array Edge} {g:Option (Nat×Bool)} {q r:Operand} {b m k:Nat} {vs vs' cs zs:List Value} {v:Value}
theorem RL.IA {parts:Array (Nat×Operand)} {places:List (Nat×Nat)} (hg:Wn ops U g) (hd:Nat.blt d n=true) (vs:List (Nat×Value)) (pcs:List (Nat×List Value))
  (hvs:parts.toList.map (fun p=>(p.1,ev U p.2))=vs) (hT:tk P T places zs.toArray) (h1:fits vs pcs) (hf:Bm places zs pcs=some cs)
  (k:RL P n ops rest (eL U d (.agg cs.toArray)) w Q):RL P n ops (⟨some d, .build T parts,ty,pos,af,g⟩::rest) U w Q:=by
 have e1:parts.map (fun(i,x)=>(i,ev U x))=vs.toArray:=by rw [<-hvs];cases parts;simp
 refine RL.val (v:= .agg cs.toArray) hg hd ?_ k
 simp only [execOp,aO]
 rw [e1,hT.run]
 simp only [zf h1 hf,aU,aW]
theorem Holds.Hb {α:Type} [GT α] {x:α} (h:Holds E w V) (hi:V[i]? =some (rd v x)) (ha:GT.agg α=true): ∃cs:List Value,cs.length=GT.sz α/\v = .agg cs.toArray/\Holds E w (Mw cs x::V):=by
 obtain⟨M,hs,g⟩:=h
 obtain⟨⟨cs,hv,ho⟩,_⟩:=g.sat i _ hi
 refine⟨cs,GT.len ho,by rw [hv];unfold qX;rw [ha];rfl,M,_,g.fX ⟨ho,rfl⟩⟩
theorem RL.Bn (i:Nat) (hg:Wn ops U g) (hd:Nat.blt d n=true) (hw:Holds E w V) (hx:ev U q = .pointer (some ⟨b,k,none⟩)) (hi:V[i]? =some (bc e b vs)) (hT:ld P T true m) (hc: (vs.drop k).take m=cs) (hl:cs.length=m) (kk:RL P n ops rest (eL U d (.agg cs.toArray)) w Q):RL P n ops (⟨some d, .load T q,ty,pos,af,g⟩::rest) U w Q:=by
 obtain⟨M,hs,gd⟩:=hw
 obtain⟨_,hh⟩:=gd.sat i _ hi
 have hb:=gd.le i b _ (cK hi) (by rw [hh];exact dC b _)
 have hat: ∀j u,cs[j]? =some u->w.cell? ((⟨b,k,none⟩:Addr).add j)=some u:=fun j u hu=>by
  rw [Addr.add_lit,cell_of_row w b _ _ _ _ hb]
  rw [<-hc,dM] at hu
  split at hu
  ·rw [eH] at hu;simpa using hu
  ·cases hu
 refine RL.val hg hd ?_ kk
 have hrun: (loadVar T ⟨b,k,none⟩).run P w = .ok (.agg cs.toArray) w:=by
  unfold loadVar
  simp only [aO,hT.GR,aU,if_true,hT.sz,<-hl,run_loadCells_list w _ cs hat,aW]
 simp only [execOp,hx,Instr.loadAt,Instr.sureAddr,aO,aW,aU,hrun]
end
end Go.Gk
namespace Go.Gk
open Go
class Flat (α:Type) [GT α]:Prop where
 fl: ∀{M M':dJ} {cs:List Value} {x:α},GT.ok M cs x->GT.ok M' cs x
instance {α:Type} [Sc α]:Flat α:=⟨fun h=>h⟩
instance {α β:Type} [GT α] [GT β] [Flat α] [Flat β]:Flat (α×β):=⟨fun⟨c,d,e,h1,h2⟩=>⟨c,d,e,Flat.fl h1,Flat.fl h2⟩⟩
section
variable {α:Type} [GT α] {P:Program} {E w:World} {V:List HP} {i j:Nat} {v vy:Value} {l ys l':List α} {e t ty:TypeId} {bytes:Nat}
end
section
variable {ρ α β:Type} [GT ρ] [GT α] [GT β] {P:Program} {n:Nat} {U:Nat->Value} {w:World} {Q:gq} {E:World} {V:List HP} {i j k o b:Nat}
variable {ops:Array Oper} {rest:List Oper} {d:Nat} {ty t T e e':TypeId} {pos:String} {af:Array Edge} {g:Option (Nat×Bool)} {v vy u p:Value} {q r:Operand}
variable {X:XT ρ α} {us:List ρ} {xs xs':List α} {x:α} {l l':List β} {jj:Int} {z:ρ} {bytes off:Nat} {f:ρ->RV} {fs:ρ->RV->ρ} {gg:α->List β} {gs:α->List β->α} {h0:Option Nat}
theorem RL.r8 (i b:Nat) (jj:Int) (O:XO X e' off f fs gg gs) (z:ρ) (hd:Nat.blt d n=true) (hw:Holds E w V) (hx:ev U q=p) (hp:GU v jj.toNat (GT.sz ρ) off p) (hi:V[i]? =some (own e v us)) (hb:V[b]? =some (gL X us xs h0)) (hxs:idx xs jj=some x) (hT:ld P T false 1) (kk:RL P n ops rest (eL U d (f (us.getD jj.toNat z)).v) w Q) (hg:Wn ops U g:=by exact trivial):RL P n ops (⟨some d, .load T q,ty,pos,af,g⟩::rest) U w Q:=
 RL.dL (hg:=hg) (hd:=hd) (hx:=hx) (hi:=hi) (f:=f) _ hw hp (La z (hw.fR (hj:=hb) _) hxs) O.MJ hT kk
end
end Go.Gk
namespace Go.Gk
open Go
def Lp (v:Value) (k:Nat):Value:=match v with | .slice a _ cap=> .slice a k cap | _=>undef
section
variable {α:Type} [GT α] {M:dJ} {xs:List Value} {l:List α} {k:Nat}
theorem Cells.take (h:Cells M xs l) (hk:k<=l.length):Cells M (xs.take (k*GT.sz α)) (l.take k):=by
 have hx:=h.1
 have hm:k*GT.sz α<=l.length*GT.sz α:=Nat.mul_le_mul_right _ hk
 refine⟨by rw [dE,dE,Nat.min_eq_left hk];omega,fun i x hi=>?_⟩
 rw [dM] at hi
 split at hi
 case isFalse=>cases hi
 rename_i hlt
 have hb:i*GT.sz α+GT.sz α<=k*GT.sz α:=by
  calc i*GT.sz α+GT.sz α= (i+1)*GT.sz α:=by rw [Nat.add_mul,Nat.one_mul]
   _<=k*GT.sz α:=Nat.mul_le_mul_right _ hlt
 have:=h.2 i x hi
 rw [List.drop_take,List.take_take,Nat.min_eq_left (by omega)]
 exact this
theorem Cells.drop (h:Cells M xs l) (hk:k<=l.length):Cells M (xs.drop (k*GT.sz α)) (l.drop k):=by
 have hx:=h.1
 refine⟨by rw [gR,gR,hx,Nat.sub_mul],fun i x hi=>?_⟩
 rw [eH] at hi
 have:=h.2 _ x hi
 rw [List.drop_drop,<-Nat.add_mul]
 exact this
end
section
variable {α:Type} [GT α] {P:Program} {T e:TypeId} {lo hi:Int}
theorem Fk {a:Option Addr} {m cap:Nat} (hT:sI P T e (GT.sz α)) (h0:0<=lo) (h1:lo<=hi) (h2:hi<=cap) (w:World):
  (Instr.sliceAt T (.slice a m cap) (some (.int .i64 lo)) (some (.int .i64 hi)) none).run P w = .ok (.slice (if cap=lo.toNat then a else a.map (·.add (lo.toNat*GT.sz α))) (hi.toNat - lo.toNat) (cap - lo.toNat)) w:=by
 have eh: (Instr.sliceBounds true m cap (some (.int .i64 lo)) (some (.int .i64 hi)) none).run P w = .ok (lo.toNat,hi.toNat,cap) w:=by
  unfold Instr.sliceBounds
  have e1: ∀(y:Nat) (c:BoundsCode),hi<=y->(Instr.sliceBound (.int .i64 hi) y c).run P w = .ok hi.toNat w:=fun y c hy=>by
   simp [Instr.sliceBound,asIntOf,show 0<=hi by omega,hy]
  have e2: ∀(y:Nat) (c:BoundsCode),lo<=y->(Instr.sliceBound (.int .i64 lo) y c).run P w = .ok lo.toNat w:=fun y c hy=>by
   simp [Instr.sliceBound,asIntOf,h0,hy]
  simp only [aO,aW,aU,e1 cap _ (by omega),e2 _ _ (show lo<=(hi.toNat:Nat) by omega)]
 unfold Instr.sliceAt
 simp only [aO,run_underlying hT.wW,aU]
 unfold Instr.slice
 simp only [aO,run_underlying hT.wW,aU,eh,hT.sz,aW]
end
section
variable {α:Type} [GT α] {P:Program} {n:Nat} {U:Nat->Value} {w:World} {Q:gq} {E:World} {V:List HP} {i j k:Nat}
variable {ops:Array Oper} {rest:List Oper} {d:Nat} {ty t T e:TypeId} {pos:String} {af:Array Edge} {g:Option (Nat×Bool)} {v u:Value} {q r:Operand} {l l':List α} {lo hi:Int} {bytes:Nat}
theorem Dq (hw:Holds E w V) (hi':V[i]? =some (own e v l)): ∃a cap,v = .slice a l.length cap/\l.length<=cap:=by
 obtain⟨M,hs,gd⟩:=hw
 rcases gd.sat i _ hi' with ⟨h1,h2,_⟩ | ⟨b,o,c,cur,xs,hv,h2,_⟩
 ·exact⟨none,0,by rw [h1,h2];rfl,by rw [h2];exact bM _⟩
 ·exact⟨_,c,hv,h2⟩
theorem RL.pre {hip:Option Operand} (hg:Wn ops U g) (hd:Nat.blt d n=true) (hw:Holds E w V) (hx:ev U q=v) (hi':V[i]? =some (own e v l)) (hT:sI P T e (GT.sz α))
  (hh:hip.map (ev U)=some (.int .i64 hi)) (h0:0<=hi) (h1:hi<=(l.length:Nat)) (kk:RL P n ops rest (eL U d (Lp v hi.toNat)) w Q):
  RL P n ops (⟨some d, .slice T q none hip none,ty,pos,af,g⟩::rest) U w Q:=by
 obtain⟨a,cap,rfl,hcap⟩:=Dq hw hi'
 refine RL.val hg hd ?_ kk
 have:=t9 (P:=P) (α:=α) (a:=a) (m:=l.length) (cap:=cap) (lo:=0) (hi:=hi) (lov:=none) (hiv:=hip.map (ev U)) hT (.inr ⟨rfl,rfl⟩) (.inl hh) (Int.le_refl _) h0 h1 hcap w
 simp only [execOp,hx,aO,Option.map_none,this,aU,aW]
 simp only [Lp,Int.toNat_zero,Nat.sub_zero,Nat.zero_mul]
 by_cases h0:cap=0
 ·rw [aC h0]
 ·rw [aD h0];cases a <;> rfl
theorem RL.behind {lop hip:Option Operand} (hg:Wn ops U g) (hd:Nat.blt d n=true) (hw:Holds E w V) (hx:ev U q=Lp v k) (hi':V[i]? =some (own e v l)) (hT:sI P T e (GT.sz α)) (hk:k<=l.length)
  (hl:lop.map (ev U)=some (.int .i64 (k:Nat))) (hh:hip.map (ev U)=some (.int .i64 (l.length:Nat))) (kk:RL P n ops rest (eL U d (vw v k (GT.sz α))) w Q):
  RL P n ops (⟨some d, .slice T q lop hip none,ty,pos,af,g⟩::rest) U w Q:=by
 obtain⟨a,cap,rfl,hcap⟩:=Dq hw hi'
 refine RL.val hg hd ?_ kk
 have hx':ev U q = .slice a k cap:=hx
 have:=Fk (P:=P) (α:=α) (a:=a) (m:=k) (cap:=cap) (lo:=(k:Nat)) (hi:=(l.length:Nat)) hT (by omega) (by omega) (by omega) w
 simp only [execOp,hx',aO,Option.map_none,hl,hh,this,aU,aW]
 simp only [vw,bY]
end
end Go.Gk
namespace Go.Gk
open Go Go.Sort
def q9 (l:List Int):Option (List Int):=if l.length<4611686018427387904 then some (l.mergeSort fun x y=>decide (x<=y)) else none
section
variable {α:Type} [GT α]
def GX {β:Type} (cf:β->β->Int) (x y:β):Bool:=decide (cf x y<0)
def Bo (φ:α->α->Option Int) (l:List α) (i j:Fin l.length):Int:=(φ l[i] l[j]).getD 0
def Dr (φ:α->α->Option Int) (l:List α):List α:=
 if h:0<l.length then
  haveI:Inhabited (Fin l.length):=⟨⟨0,h⟩⟩
  ((pdq (GX (Bo φ l)) (Array.ofFn fun i:Fin l.length=>i) 0 l.length (Lib.bitLen l.length) true true).toList.map fun i=>l[i])
 else l
open Classical in
noncomputable def ue (φ:α->α->Option Int) (l:List α):Option (List α):=
 if ((∀i j:Fin l.length,∃c,φ l[i] l[j]=some c)/\SWO (GX (Bo φ l)))/\l.length<4611686018427387904 then some (Dr φ l) else none
end
end Go.Gk
namespace Go.Gk
open Go
def ra:Op->Bool
 | .move _ | .assign _ | .pick .. | .load .. | .nilCheck _ | .binOp .. | .unOp .. | .fieldAddr .. | .indexAddr .. | .index .. | .field .. | .extract .. | .slice .. | .lookup .. | .build .. | .makeFunc .. =>true
 | .call ⟨.builtin .len,_,_⟩ | .call ⟨.builtin .cap,_,_⟩ | .call ⟨.builtin .min,_,_⟩ | .call ⟨.builtin .max,_,_⟩=>true
 | _=>false
theorem mg {α:Type} {s:Sem α} {P:Program} {w w':World} {f:α->Value} {nx:Next} (h: (do let a <-s;pure (.value (f a)):Sem Next).run P w = .ok nx w'): ∃v,nx = .value v:=by
 rw [aO] at h
 cases hr:s.run P w with
 | ok a w1=>rw [hr] at h;simp only [Result.andThen,aW] at h;injection h with h1 h2;exact⟨_,h1.symm⟩
 | halt x w1=>rw [hr] at h;cases h
theorem Bp {ρ:Operand->Value} {o:Oper} {P:Program} {w w':World} {nx:Next} (hk:ra o.op=true) (h: (execOp ρ o).run P w = .ok nx w'): ∃v,nx = .value v:=by
 obtain⟨dst,op,ty,pos,af,g⟩:=o
 cases op
 case move x=>exact⟨_,by simp only [execOp,aW] at h;injection h with h1 _;exact h1.symm⟩
 case assign x=>exact⟨_,by simp only [execOp,aW] at h;injection h with h1 _;exact h1.symm⟩
 case pick c a b=>exact mg (s:=asBool (ρ c)) (f:=fun t=>if t then ρ a else ρ b) h
 case load t a=>exact mg h
 case binOp a b c d e=>
  simp only [execOp] at h
  exact mg h
 case unOp a b c=>exact mg h
 case fieldAddr a b c=>exact mg h
 case indexAddr a b c=>exact mg h
 case index a b c=>exact mg h
 case field a b c=>exact mg h
 case extract a b=>exact mg h
 case slice a b c d e=>exact mg h
 case lookup a b c d=>exact mg h
 case build a b=>exact mg h
 case makeFunc a b c=>exact mg h
 case nilCheck x=>
  simp only [execOp] at h
  split at h
  ·cases h
  ·cases h
  ·cases h
  ·split at h
   ·cases h
   ·rw [aO] at h
    cases h1:program.run P w with
    | halt x w1=>rw [h1] at h;cases h
    | ok p w1=>
     rw [h1] at h
     simp only [Result.andThen,aO] at h
     split at h
     ·rename_i r w2 h2
      split at h
      ·rw [aO] at h;cases h
      ·simp only [aW] at h;injection h with h1 _;exact⟨_,h1.symm⟩
     ·cases h
   ·simp only [aW] at h;injection h with h1 _;exact⟨_,h1.symm⟩
  ·simp only [aW] at h;injection h with h1 _;exact⟨_,h1.symm⟩
 case call c=>
  obtain⟨cal,args,ts⟩:=c
  cases cal with
  | builtin b=>
   cases b <;> first
    | (cases hk;done)
    | (simp only [execOp,resolve,aO,aW,Result.andThen,invoke,builtin] at h;exact mg (by rw [aO];exact h))
  | value f=>cases hk
  | invoke r m=>cases hk
 all_goals cases hk
theorem Sl.uniq {n:Nat} {U σ':Nat->Value} {a:Act} (h:Sl n U a) (h':Sl n σ' a):U=σ':=funext fun t=>(h.get t).symm.trans (h'.get t)
section
variable {P:Program} {n:Nat} {ops:Array Oper} {w:World} {Q:gq} {U:Nat->Value} {o:Oper} {rest l:List Oper}
def RO (P:Program) (n:Nat) (ops:Array Oper) (w:World) (Q:gq):List Oper->(Nat->Value)->Prop
 | [],U=>Q .normal U w
 | o::rest,U=>RL P n ops [o] U w (fun ex σ' w'=>ex = .normal/\w'=w/\RO P n ops w Q rest σ')
theorem RO.go (h:RL P n ops [o] U w (fun ex σ' w'=>ex = .normal/\w'=w/\RO P n ops w Q rest σ')):RO P n ops w Q (o::rest) U:=h
theorem RO.nx (h:RL P n ops [o] U w (fun ex σ' w'=>ex = .normal/\w'=w/\RO P n ops w Q rest σ')):RL P n ops [] U w (fun ex σ' w'=>ex = .normal/\w'=w/\RO P n ops w Q (o::rest) σ'):=RL.nil ⟨rfl,rfl,h⟩
theorem RO.last (h:Q .normal U w):RL P n ops [] U w (fun ex σ' w'=>ex = .normal/\w'=w/\RO P n ops w Q [] σ'):=RL.nil ⟨rfl,rfl,h⟩
def AX (P:Program) (ops:Array Oper) (w:World) (a:Act) (o:Oper) (v:Value):Prop:=
 (Region.wanted o (yielded ops a.tmps)=true/\(execOp a.eval o).run P w = .ok (.value v) w)\/(Region.wanted o (yielded ops a.tmps)=false/\v=undef)
theorem RO.inv {a:Act} {d:Nat} (hs:Sl n U a) (hk:ra o.op=true) (hd:o.dst=some d) (hdn:Nat.blt d n=true) (h:RO P n ops w Q (o::rest) U):
  ∃v,AX P ops w a o v/\RO P n ops w Q rest (eL U d v):=by
 have h1:=h a hs
 unfold wpList at h1
 split at h1
 ·rename_i hw
  rcases h1 with h1 | ⟨_,h1⟩
  ·unfold Oper.wp at h1
   cases hr: (execOp a.eval o).run P w with
   | ok nx w'=>
    rw [hr] at h1
    obtain⟨v,rfl⟩:=Bp hk hr
    obtain⟨σ',hs',_,hw',hrest⟩:=h1
    have hw':w'=w:=hw'
    subst hw'
    rw [hd] at hs'
    have:=hs'.uniq (hs.put hdn v)
    subst this
    exact⟨v, .inl ⟨hw,hr⟩,hrest⟩
   | halt x w'=>
    rw [hr] at h1
    cases x with
    | panic v=>obtain⟨_,_,hbad,_⟩:=h1;cases hbad
    | _=>exact h1.elim
  ·obtain⟨_,_,_,_,hbad,_⟩:=h1;cases hbad
 ·rename_i hw
  obtain⟨σ',hs',_,_,hrest⟩:=h1
  rw [hd] at hs'
  have:=hs'.uniq (hs.put hdn undef)
  subst this
  exact⟨undef, .inr ⟨by simpa using hw,rfl⟩,hrest⟩
def wG (U:Nat->Value):List Oper->List Value->(Nat->Value)
 | o::l,v::vs=>wG (match o.dst with | some d=>eL U d v | none=>U) l vs
 | _,_=>U
theorem RO.all: ∀(l:List Oper) (U:Nat->Value) (a:Act),Sl n U a->(∀o∈l,ra o.op=true/\∃d,o.dst=some d/\Nat.blt d n=true)->RO P n ops w Q l U->
  ∃vs:List Value,vs.length=l.length/\Q .normal (wG U l vs) w/\∀(j:Nat) o v,l[j]? =some o->vs[j]? =some v->∃aj,Sl n (wG U (l.take j) (vs.take j)) aj/\AX P ops w aj o v:=by
 intro l
 induction l with
 | nil=>intro U a hs _ h;exact⟨[],rfl,h,fun j o v ho=>by simp at ho⟩
 | cons o l ih=>
  intro U a hs hk h
  obtain⟨hk1,d,hd,hdn⟩:=hk o (by simp)
  obtain⟨v,hst,hrest⟩:=RO.inv hs hk1 hd hdn h
  obtain⟨vs,hl,hq,hj⟩:=ih (eL U d v) _ (hs.put hdn v) (fun o' ho'=>hk o' (by simp [ho'])) hrest
  refine⟨v::vs,by simp [hl],?_,fun j o' v' ho hv=>?_⟩
  ·unfold wG;rw [hd];exact hq
  ·cases j with
   | zero=>
    simp at ho hv;subst ho;subst hv
    exact⟨a,hs,hst⟩
   | succ j=>
    obtain⟨aj,h1,h2⟩:=hj j o' v' (by simpa using ho) (by simpa using hv)
    refine⟨aj,?_,h2⟩
    rw [List.take_succ_cons,List.take_succ_cons]
    unfold wG;rw [hd];exact h1
theorem rf {t:Nat}: ∀(l:List Oper) (vs:List Value) (U:Nat->Value),(∀o∈l,o.dst≠some t)->wG U l vs t=U t
 | [],_,U,_=>rfl
 | _::_,[],U,_=>rfl
 | o::l,v::vs,U,h=>by
  unfold wG
  rw [rf l vs _ (fun o' ho=>h o' (by simp [ho]))]
  cases hd:o.dst with
  | none=>rfl
  | some d=>
   have hne:t≠d:=fun e=>h o (by simp) (by rw [hd,e])
   show eL U d v t=U t
   unfold eL
   cases hb:Nat.beq t d with
   | true=>exact absurd (eC hb) hne
   | false=>rfl
theorem Ab {t:Nat}: ∀(l:List Oper) (vs:List Value) (U:Nat->Value) (j:Nat) (o:Oper) (v:Value),l[j]? =some o->vs[j]? =some v->o.dst=some t->
  (∀(k:Nat) o',l[k]? =some o'->k≠j->o'.dst≠some t)->wG U l vs t=v
 | [],_,_,_,_,_,h,_,_,_=>by simp at h
 | _::_,[],_,_,_,_,_,h,_,_=>by simp at h
 | o::l,v::vs,U,0,o',v',ho,hv,hd,hu=>by
  simp at ho hv;subst ho;subst hv
  unfold wG
  rw [rf l vs _ (fun o' ho=>by
   obtain⟨k,hk⟩:=List.mem_iff_getElem?.1 ho
   exact hu (k+1) o' (by simpa using hk) (by omega)),hd]
  show eL U t v t=v
  unfold eL;rw [Nat.beq_refl];rfl
 | o::l,v::vs,U,j+1,o',v',ho,hv,hd,hu=>by
  unfold wG
  exact Ab l vs _ j o' v' (by simpa using ho) (by simpa using hv) hd (fun k o2 hk hne=>hu (k+1) o2 (by simpa using hk) (by omega))
def uh (o:Oper) (k:Nat):Bool:=o.after.toList.any fun e=>Region.binds .any e&&Nat.beq e.on k
def wH (ops:Array Oper) (o:Oper) (d:Nat):Bool:=(o.looksAt ops).any fun t=>Nat.beq t d
def xu (ops:Array Oper) (i:Nat) (o:Oper) (k:Nat) (o':Oper):Bool:=
 Nat.beq i k||match o'.dst with
  | some d=>(match o.dst with | some d2=> !Nat.beq d d2 | none=>true)&&(!wH ops o d||(bif Nat.blt k i then uh o k else uh o' i))
  | none=>false
def zg (ops:Array Oper) (i:Nat) (o:Oper):Nat->List Oper->Bool
 | _,[]=>true
 | k,o'::l=>xu ops i o k o'&&zg ops i o (k+1) l
def Bq (n:Nat) (ops:Array Oper) (l:List Oper):Nat->List Oper->Bool
 | _,[]=>true
 | i,o::l'=>ra o.op&&(match o.dst with | some d=>Nat.blt d n | none=>false)&&zg ops i o 0 l&&Bq n ops l (i+1) l'
theorem ui {i:Nat}: ∀{k:Nat} {l:List Oper},zg ops i o k l=true->∀(j:Nat) o',l[j]? =some o'->xu ops i o (k+j) o'=true
 | _,[],_,j,o',h=>by simp at h
 | k,p::l,hs,0,o',h=>by
  unfold zg at hs;rw [bT] at hs
  simp at h;subst h;exact hs.1
 | k,p::l,hs,j+1,o',h=>by
  unfold zg at hs;rw [bT] at hs
  have:=ui hs.2 j o' (by simpa using h)
  rw [show k+ (j+1)=k+1+j by omega];exact this
theorem Bs {l0:List Oper}: ∀{i:Nat} {l:List Oper},Bq n ops l0 i l=true->∀(j:Nat) o,l[j]? =some o->ra o.op=true/\(∃d,o.dst=some d/\Nat.blt d n=true)/\zg ops (i+j) o 0 l0=true
 | _,[],_,j,o',h=>by simp at h
 | i,p::l,hs,0,o',h=>by
  unfold Bq at hs;simp only [bT] at hs
  simp at h;subst h
  refine⟨hs.1.1.1,?_,hs.1.2⟩
  have:=hs.1.1.2
  cases hd:p.dst with
  | none=>rw [hd] at this;cases this
  | some d=>rw [hd] at this;exact⟨d,rfl,this⟩
 | i,p::l,hs,j+1,o',h=>by
  unfold Bq at hs;simp only [bT] at hs
  have:=Bs hs.2 j o' (by simpa using h)
  rw [show i+ (j+1)=i+1+j by omega];exact this
theorem lV {D:Nat->Bool} {k:Nat}: ∀{l:List Edge},nu D l->(l.any fun e=>Region.binds .any e&&Nat.beq e.on k)=true->D k=true
 | [],_,h=>by cases h
 | e::l,hd,h=>by
  rw [List.any_cons,dU,bT] at h
  rcases h with ⟨h1,h2⟩ | h
  ·have:=hd.1 h1
   rwa [eC h2] at this
  ·exact lV hd.2 h
theorem qg {a a':Act} {U σ':Nat->Value} (hs:Sl n U a) (hs':Sl n σ' a') (h: ∀t,wH ops o t=true->U t=σ' t) (hsz: ∀(g:Nat) o2 d,ops[g]? =some o2->o2.dst=some d->d<n):
  Region.wanted o (yielded ops a.tmps)=Region.wanted o (yielded ops a'.tmps):=by
 unfold Region.wanted
 split
 ·rfl
 ·rename_i g want hg
  have:yielded ops a.tmps g=yielded ops a'.tmps g:=by
   unfold yielded
   cases ho:ops[g]? with
   | none=>rfl
   | some o2=>
    cases hd:o2.dst with
    | none=>simp [hd]
    | some d=>
     have hlt:=hsz g o2 d ho hd
     have he:=h d (by
      unfold wH Oper.looksAt
      rw [List.any_append,hg]
      simp [ho,hd])
     have h1:=hs.get d
     have h2:=hs'.get d
     have l1:d<a.tmps.size:=by rw [hs.size];exact hlt
     have l2:d<a'.tmps.size:=by rw [hs'.size];exact hlt
     simp only [Array.getD_eq_getD_getElem?,fN l1,fN l2,Option.getD_some] at h1 h2
     simp only [Option.bind_some,hd,fN l1,fN l2,h1,h2,he]
  rw [this]
theorem qh {F:Nat->Oper->Prop}: ∀{k:Nat} {l:List Oper},(∀(i:Nat) o,l[i]? =some o->F (k+i) o)->mR F k l
 | _,[],_=>trivial
 | k,p::l,h=>⟨h 0 p rfl,qh (fun i o ho=>by have:=h (i+1) o (by simpa using ho);rw [show k+1+i=k+ (i+1) by omega];exact this)⟩
theorem uj (D:Nat->Bool) (i:Nat):ins D i i=true:=by unfold ins;rw [Nat.beq_refl];rfl
theorem na {D:Nat->Bool} {i j:Nat} (h:j≠i):ins D i j=D j:=by
 unfold ins
 cases hb:Nat.beq j i with
 | true=>exact absurd (eC hb) h
 | false=>rfl
theorem RC.xv {id:Nat} {l:List Oper} (hm:P.follows .mixedOrders=true) (h:RO P n l.toArray w.drew Q l U) (hdep:qZ 0 l=true:=by exact rfl) (hro:Bq n l.toArray l 0 l=true:=by kernel_rfl):RC P n (.region id l.toArray true) U w Q:=by
 intro a0 ha0
 have hA:=fun j o (ho:l[j]? =some o)=>Bs hro j o ho
 obtain⟨vs,hvl,hq,hst⟩:=RO.all l U a0 ha0 (fun o ho=>by
  obtain⟨j,hj⟩:=List.mem_iff_getElem?.1 ho
  exact⟨(hA j o hj).1,(hA j o hj).2.1⟩) h
 have hsz: ∀(g:Nat) o2 d,l.toArray[g]? =some o2->o2.dst=some d->d<n:=fun g o2 d ho hd=>by
  obtain⟨_,⟨d',hd',hlt⟩,_⟩:=hA g o2 (by simpa using ho)
  rw [hd] at hd';injection hd' with hd';subst hd'
  exact Nat.blt_eq▸hlt
 have hdist: ∀(i k:Nat) o o' t,l[i]? =some o->l[k]? =some o'->k≠i->o.dst=some t->o'.dst≠some t:=fun i k o o' t ho ho' hne hd hd'=>by
  have hp:=ui (hA i o ho).2.2 k o' ho'
  unfold xu at hp
  rw [hd',hd,dU] at hp
  rcases hp with hp | hp
  ·have:=eC hp;omega
  ·simp only [bT,Bool.not_eq_true'] at hp
   have:=hp.1
   rw [Nat.beq_refl] at this;cases this
 refine RC.Ll (U:=U) (w:=w) hm hdep (fun D σ' w'=>w'=w.drew/\(∀(i:Nat) o v t,l[i]? =some o->vs[i]? =some v->o.dst=some t->D i=true->σ' t=v)/\(∀t,(∀(i:Nat) o,l[i]? =some o->o.dst=some t->D i=false)->σ' t=U t)) ?_ ?_ ?_ a0 ha0
 ·exact⟨rfl,fun i o v t _ _ _ hD=>(by cases hD),fun t _=>rfl⟩
 ·refine qh fun i o ho=>?_
  rw [gj]
  rintro D σ' w' hD hdeps hcl ⟨rfl,hJ1,hJ2⟩
  obtain⟨hk,⟨d,hd,hdn⟩,hrow⟩:=hA i o ho
  rw [gj] at hrow
  have hiv:i<vs.length:=by rw [hvl];exact(bC.1 ho).1
  obtain⟨ai,hsi,hstp⟩:=hst i o vs[i] ho (aJ hiv)
  have hag: ∀t,wH l.toArray o t=true->wG U (l.take i) (vs.take i) t=σ' t:=by
   intro t ht
   by_cases hex: ∃(k:Nat) (o':Oper),l[k]? =some o'/\o'.dst=some t
   ·obtain⟨k,o',ho',hd'⟩:=hex
    have hkv:k<vs.length:=by rw [hvl];exact(bC.1 ho').1
    by_cases hki:k<i
    ·have hp:=ui hrow k o' ho'
     rw [gj] at hp
     unfold xu at hp
     rw [hd',dU] at hp
     rcases hp with hp | hp
     ·have:=eC hp;omega
     simp only [bT,dU,Bool.not_eq_true'] at hp
     have hp2:=hp.2
     rw [ht] at hp2
     rcases hp2 with hp2 | hp2
     ·cases hp2
     have hb:Nat.blt k i=true:=by rw [Nat.blt_eq];exact hki
     rw [hb] at hp2
     have hDk:=lV hdeps hp2
     rw [hJ1 k o' vs[k] t ho' (aJ hkv) hd' hDk]
     refine Ab (l.take i) (vs.take i) U k o' vs[k] (by rw [dM,aC hki];exact ho') (by rw [dM,aC hki];exact aJ hkv) hd' fun k2 o2 hk2 hne=>?_
     rw [dM] at hk2
     split at hk2
     ·exact hdist k k2 o' o2 t ho' hk2 hne hd'
     ·cases hk2
    ·have hDk:D k=false:=by
      by_cases he:k=i
      ·subst he;exact hD
      ·have hp:=ui hrow k o' ho'
       rw [gj] at hp
       unfold xu at hp
       rw [hd',dU] at hp
       rcases hp with hp | hp
       ·have:=eC hp;omega
       simp only [bT,dU,Bool.not_eq_true'] at hp
       have hp2:=hp.2
       rw [ht] at hp2
       rcases hp2 with hp2 | hp2
       ·cases hp2
       have hb:Nat.blt k i=false:=by
        cases hx:Nat.blt k i with
        | false=>rfl
        | true=>rw [Nat.blt_eq] at hx;omega
       rw [hb] at hp2
       refine nf fun hDk=>?_
       have:=lV (hcl k o' ho' hDk) hp2
       rw [hD] at this;cases this
     rw [hJ2 t fun k2 o2 ho2 hd2=>?_]
     ·refine rf _ _ _ fun o2 ho2 hd2=>?_
      obtain⟨k2,hk2⟩:=List.mem_iff_getElem?.1 ho2
      rw [dM] at hk2
      split at hk2
      ·rename_i hlt
       exact hdist k k2 o' o2 t ho' hk2 (by omega) hd' hd2
      ·cases hk2
     ·by_cases he:k2=k
      ·subst he;exact hDk
      ·exact absurd hd2 (hdist k k2 o' o2 t ho' ho2 he hd')
   ·rw [hJ2 t fun k o' ho' hd'=>absurd ⟨k,o',ho',hd'⟩ hex]
    refine rf _ _ _ fun o2 ho2 hd2=>?_
    obtain⟨k2,hk2⟩:=List.mem_iff_getElem?.1 ho2
    rw [dM] at hk2
    split at hk2
    ·exact hex ⟨k2,o2,hk2,hd2⟩
    ·cases hk2
  intro a' hs'
  have hrun:execOp a'.eval o=execOp ai.eval o:=execOp_congr o (fun cs b e=>by rw [e] at hk;cases hk) fun x hx=>by
   rw [hs'.ev,hsi.ev]
   cases x with
   | tmp t=>
    refine(hag t ?_).symm
    unfold wH Oper.looksAt
    rw [List.any_append,dU]
    left
    rw [jQ]
    exact⟨t,List.mem_filterMap.2 ⟨.tmp t,by simpa using hx,rfl⟩,Nat.beq_refl t⟩
   | _=>rfl
  have hwant:=qg (ops:=l.toArray) (o:=o) hsi hs' hag hsz
  have hfin: ∀v,vs[i]? =some v->(∀(k:Nat) o2 u t,l[k]? =some o2->vs[k]? =some u->o2.dst=some t->ins D i k=true->eL σ' d v t=u)/\(∀t,(∀(k:Nat) o2,l[k]? =some o2->o2.dst=some t->ins D i k=false)->eL σ' d v t=U t):=by
   intro v hv
   refine⟨fun k o2 u t ho2 hu hd2 hDk=>?_,fun t ht=>?_⟩
   ·by_cases he:k=i
    ·subst he
     rw [ho] at ho2;injection ho2 with ho2;subst ho2
     rw [hd] at hd2;injection hd2 with hd2;subst hd2
     rw [hv] at hu;injection hu with hu;subst hu
     unfold eL;rw [Nat.beq_refl];rfl
    ·rw [na he] at hDk
     have hne:t≠d:=fun e=>by subst e;exact hdist i k o o2 t ho ho2 he hd hd2
     unfold eL
     cases hb:Nat.beq t d with
     | true=>exact absurd (eC hb) hne
     | false=>exact hJ1 k o2 u t ho2 hu hd2 hDk
   ·have hne:t≠d:=fun e=>by
     subst e
     have:=ht i o ho hd
     rw [uj] at this;cases this
    unfold eL
    cases hb:Nat.beq t d with
    | true=>exact absurd (eC hb) hne
    | false=>
     refine hJ2 t fun k o2 ho2 hd2=>?_
     have:=ht k o2 ho2 hd2
     by_cases he:k=i
     ·subst he;exact hD
     ·rw [na he] at this;exact this
  unfold wpList
  rcases hstp with ⟨hw1,hr1⟩ | ⟨hw1,hv1⟩
  ·rw [hwant] at hw1
   rw [aC hw1]
   left
   unfold Oper.wp
   rw [hrun,hr1]
   refine⟨eL σ' d vs[i],?_,rfl,rfl,hfin _ (aJ hiv)⟩
   rw [hd];exact hs'.put hdn _
  ·rw [hwant] at hw1
   rw [aD (by rw [hw1];exact ji)]
   refine⟨eL σ' d undef,?_,rfl,rfl,hfin _ (by rw [<-hv1];exact aJ hiv)⟩
   rw [hd];exact hs'.put hdn _
 ·rintro D σ' w' hall ⟨rfl,hJ1,hJ2⟩
  have:σ'=wG U l vs:=by
   funext t
   by_cases hex: ∃(k:Nat) (o':Oper),l[k]? =some o'/\o'.dst=some t
   ·obtain⟨k,o',ho',hd'⟩:=hex
    have hkl:=(bC.1 ho').1
    have hkv:k<vs.length:=by rw [hvl];exact hkl
    rw [hJ1 k o' vs[k] t ho' (aJ hkv) hd' (hall k hkl)]
    exact(Ab l vs U k o' vs[k] ho' (aJ hkv) hd' fun k2 o2 hk2 hne=>hdist k k2 o' o2 t ho' hk2 hne hd').symm
   ·rw [hJ2 t fun k o' ho' hd'=>absurd ⟨k,o',ho',hd'⟩ hex]
    refine(rf _ _ _ fun o2 ho2 hd2=>?_).symm
    obtain⟨k2,hk2⟩:=List.mem_iff_getElem?.1 ho2
    exact hex ⟨k2,o2,hk2,hd2⟩
  rw [this];exact hq
end
end Go.Gk
namespace Go.Gk
open Go
def HS:List (Nat×Value)->Nat->Value
 | [],_=>undef
 | (d,v)::r,t=>bif Nat.beq d t then v else HS r t
def Bt:List (Nat×Nat×Value)->List (Nat×Value)->Nat->Value
 | [],ag,t=>HS ag t
 | (_,d,v)::r,ag,t=>bif Nat.beq d t then v else Bt r ag t
def Bu (dv:List (Nat×Nat×Value)) (ag:List (Nat×Value)):Operand->Value
 | .tmp t=>Bt dv ag t
 | .const v=>v
 | .global g=> .pointer (some ⟨g,0,none⟩)
 | .func f=> .func (.func f) #[] #[]
def mA (ops:Array Oper) (o:Oper):Operand->Bool
 | .tmp t=>wH ops o t
 | _=>true
def Pu (P:Program) (n:Nat) (ops:Array Oper) (o:Oper) (dv:List (Nat×Nat×Value)) (ag:List (Nat×Value)):Prop:=
 ∀(U:Nat->Value) (w:World),(∀q,mA ops o q=true->ev U q=Bu dv ag q)->RL P n ops [o] U w (fun ex σ' w'=>ex = .normal/\w'=w/\∃d,o.dst=some d/\σ'=eL U d (Bt dv ag d))
section
variable {P:Program} {n:Nat} {ops:Array Oper} {U:Nat->Value} {w:World} {d:Nat} {v u:Value} {rest:List Oper} {ty T T':TypeId} {pos:String} {af:Array Edge} {g:Option (Nat×Bool)} {x y z:Operand} {Q:gq}
theorem RL.pl (h:v=u):RL P n ops [] (eL U d v) w (fun ex σ' w'=>ex = .normal/\w'=w/\∃d',(some d:Option Nat)=some d'/\σ'=eL U d' (bif Nat.beq d d' then u else undef)):=
 RL.nil ⟨rfl,rfl,d,rfl,by rw [Nat.beq_refl,h];rfl⟩
theorem RL.pn {f:Nat->Value} (h:v=f d):RL P n ops [] (eL U d v) w (fun ex σ' w'=>ex = .normal/\w'=w/\∃d',(some d:Option Nat)=some d'/\σ'=eL U d' (f d')):=
 RL.nil ⟨rfl,rfl,d,rfl,by rw [h]⟩
theorem RL.Jp {b:Bool} (hg:Wn ops U g) (hd:Nat.blt d n=true) (hx:ev U x = .bool b) (hb:b=true) (hv:ev U y=v) (k:RL P n ops rest (eL U d v) w Q):
  RL P n ops (⟨some d, .pick x y z,ty,pos,af,g⟩::rest) U w Q:=RL.pick (hg:=hg) (hd:=hd) (hx:=hx) _ _ (by rw [aC hb];exact hv) k
theorem RL.Jq {b:Bool} (hg:Wn ops U g) (hd:Nat.blt d n=true) (hx:ev U x = .bool b) (hb:b=false) (hv:ev U z=v) (k:RL P n ops rest (eL U d v) w Q):
  RL P n ops (⟨some d, .pick x y z,ty,pos,af,g⟩::rest) U w Q:=RL.pick (hg:=hg) (hd:=hd) (hx:=hx) _ _ (by rw [aD (by rw [hb];exact ji)];exact hv) k
theorem Wn.k {j t:Nat} {b:Bool} (h1: (ops[j]?).bind (·.dst)=some t) (h:ev U (.tmp t) = .bool b):Wn ops U (some (j,b)):=⟨t,h1,h⟩
theorem Wn.h {j t:Nat} {a b:Bool} (h1: (ops[j]?).bind (·.dst)=some t) (h:ev U (.tmp t) = .bool a) (e:a=b):Wn ops U (some (j,b)):=⟨t,h1,by rw [<-e];exact h⟩
theorem RL.ML {op:Op} {j t:Nat} {a b:Bool} (ht: (ops[j]?).bind (·.dst)=some t) (hv:ev U (.tmp t) = .bool a) (e:a = !b) (hd:Nat.blt d n=true)
  (k:RL P n ops rest (eL U d undef) w Q):RL P n ops (⟨some d,op,ty,pos,af,some (j,b)⟩::rest) U w Q:=RL.skip ht (.inl (by rw [<-e];exact hv)) hd k
end
def sZ:List (Nat×Nat×Value)->Nat->Option Nat
 | [],_=>none
 | (k,d,_)::r,t=>bif Nat.beq d t then some k else sZ r t
def D6 (ag:List (Nat×Value)) (t:Nat):Bool:=ag.any fun p=>Nat.beq p.1 t
def IC (ops:Array Oper) (i:Nat) (o:Oper) (cs:List Nat) (dv:List (Nat×Nat×Value)) (ag:List (Nat×Value)) (od:List (Nat×Nat×Value)):Bool:=
 ((o.looksAt ops).all fun t=>match sZ dv t with | some k=>uh o k | none=>D6 ag t)&&
 (match o.dst with
  | some d=>Nat.beq (sZ dv d).isNone.toNat 0&&(dv.all fun e=>(!Nat.beq e.1 i||Nat.beq e.2.1 d)&&(!Nat.beq e.2.1 d||Nat.beq e.1 i))&&Nat.beq (dv.filter fun e=>Nat.beq e.2.1 d).length 1&& !D6 ag d&&
    (od.all fun e=>Nat.beq e.1 i|| !Nat.beq e.2.1 d)
  | none=>false)&&(cs.all fun c=> !Nat.beq c i)&& !Nat.beq i 999
def Bv (ops:Array Oper) (cs:List Nat) (dv:List (Nat×Nat×Value)) (ag:List (Nat×Value)) (od:List (Nat×Nat×Value)):Nat->List Oper->List Nat->Bool
 | _,[],_=>true
 | _,_::_,[]=>false
 | i,o::l,m::ms=>(!Nat.beq m 1||IC ops i o cs dv ag od)&&Bv ops cs dv ag od (i+1) l ms
theorem Bw {ops:Array Oper} {cs:List Nat} {dv:List (Nat×Nat×Value)} {ag:List (Nat×Value)} {od:List (Nat×Nat×Value)}: ∀{i:Nat} {l:List Oper} {ms:List Nat},Bv ops cs dv ag od i l ms=true->
  ∀(j:Nat) o,l[j]? =some o->ms[j]? =some 1->IC ops (i+j) o cs dv ag od=true
 | _,[],_,_,j,o,h,_=>by simp at h
 | _,_::_,[],h0,_,_,_,h=>by simp at h
 | i,p::l,m::ms,h0,0,o,h,hm=>by
  unfold Bv at h0;rw [bT] at h0
  simp at h hm;subst h;subst hm
  rcases dU _ _▸h0.1 with h | h
  ·cases h
  ·exact h
 | i,p::l,m::ms,h0,j+1,o,h,hm=>by
  unfold Bv at h0;rw [bT] at h0
  have:=Bw h0.2 j o (by simpa using h) (by simpa using hm)
  rw [show i+ (j+1)=i+1+j by omega];exact this
theorem vA {ag:List (Nat×Value)} {t k:Nat}: ∀{dv:List (Nat×Nat×Value)},sZ dv t=some k->∃v,(k,t,v)∈dv/\Bt dv ag t=v
 | [],h=>by cases h
 | (k',d,v)::r,h=>by
  unfold sZ at h
  unfold Bt
  cases hb:Nat.beq d t with
  | true=>
   rw [hb] at h;simp at h;subst h
   have:=eC hb;subst this
   exact⟨v,by simp,rfl⟩
  | false=>
   rw [hb] at h
   obtain⟨u,h1,h2⟩:=vA (ag:=ag) h
   exact⟨u,by simp [h1],h2⟩
theorem xw {ag:List (Nat×Value)} {t:Nat}: ∀{dv:List (Nat×Nat×Value)},sZ dv t=none->Bt dv ag t=HS ag t
 | [],_=>rfl
 | (k',d,v)::r,h=>by
  unfold sZ at h
  unfold Bt
  cases hb:Nat.beq d t with
  | true=>rw [hb] at h;cases h
  | false=>rw [hb] at h;exact xw h
theorem dX.mem {D:Nat->Bool} {U:Nat->Value} {k t:Nat} {v:Value}: ∀{dv:List (Nat×Nat×Value)},dX D U dv->(k,t,v)∈dv->D k=true->U t=v
 | [],_,h,_=>by cases h
 | (i,d,u)::r,hd,h,hD=>by
  rcases fQ.1 h with e | h
  ·injection e with e1 e2;injection e2 with e2 e3;subst e1;subst e2;subst e3;exact hd.1 hD
  ·exact hd.2.mem h hD
theorem dX.of {D:Nat->Bool} {U:Nat->Value}: ∀{dv:List (Nat×Nat×Value)},(∀k t v,(k,t,v)∈dv->D k=true->U t=v)->dX D U dv
 | [],_=>trivial
 | (i,d,u)::r,h=>⟨h i d u (by simp),dX.of fun k t v hm=>h k t v (by simp [hm])⟩
theorem agree.HS {U:Nat->Value} {t:Nat}: ∀{ag:List (Nat×Value)},agree U ag->D6 ag t=true->U t=HS ag t
 | [],_,h=>by cases h
 | (d,v)::r,ha,h=>by
  unfold Gk.HS
  cases hb:Nat.beq d t with
  | true=>have:=eC hb;subst this;exact ha.1
  | false=>
   unfold D6 at h;rw [List.any_cons,hb] at h
   exact agree.HS ha.2 h
theorem agree.Mx {U:Nat->Value} {d:Nat} {v:Value}: ∀{ag:List (Nat×Value)},agree U ag->D6 ag d=false->agree (eL U d v) ag
 | [],_,_=>trivial
 | (t,u)::r,ha,h=>by
  unfold D6 at h;rw [List.any_cons,Bool.or_eq_false_iff] at h
  refine⟨?_,agree.Mx ha.2 h.2⟩
  unfold eL;rw [h.1];exact ha.1
theorem RC.Ds {P:Program} {n:Nat} {U:Nat->Value} {w:World} (E:World) {Q:gq} (V:List HP) {X:Type} {id:Nat} {l:List Oper} (hm:P.follows .mixedOrders=true) (ms cs:List Nat) (dv:X->List (Nat×Nat×Value)) (ag:List (Nat×Value)) (od:List (Nat×Nat×Value)) (g: (Nat->Bool)->X->List HP) (hpu: ∀x,Bv l.toArray cs (dv x) ag od 0 l ms=true) (h0: ∃x,dX (fun _=>false) U (dv x)/\agree U ag/\qN (fun _=>false) U od/\Holds E w.drew (g (fun q=>(fun _=>false) (cs.getD q 999)) x++V)) (step:mR (fun i o=>bif Nat.beq (ms.getD i 0) 1 then (∀x,Pu P n l.toArray o (dv x) ag) else
   (∀D U w,D i=false->nu D o.after.toList->qc l D->(∃x,dX D U (dv x)/\agree U ag/\qN D U od/\Holds E w (g (fun q=>D (cs.getD q 999)) x++V))->
    RL P n l.toArray [o] U w (fun ex U w=>ex = .normal/\∃x,dX (ins D i) U (dv x)/\agree U ag/\qN (ins D i) U od/\Holds E w (g (fun q=>ins D i (cs.getD q 999)) x++V)))) 0 l) (hend: ∀D U w,(∀i,i<l.length->D i=true)->(∃x,dX D U (dv x)/\agree U ag/\qN D U od/\Holds E w (g (fun q=>D (cs.getD q 999)) x++V))->Q .normal U w) (hdep:qZ 0 l=true:=by exact rfl):RC P n (.region id l.toArray true) U w Q:=by
 refine RC.Ll hm hdep (fun D U w=>∃x,dX D U (dv x)/\agree U ag/\qN D U od/\Holds E w (g (fun q=>D (cs.getD q 999)) x++V)) h0 ?_ hend
 refine qh fun i o ho=>?_
 have hs:=step.at i o ho
 rw [gj] at hs ⊢
 cases hmi:Nat.beq (ms.getD i 0) 1 with
 | false=>rw [hmi] at hs;exact hs
 | true=>
  rw [hmi] at hs
  have hs: ∀x,Pu P n l.toArray o (dv x) ag:=hs
  have hms:ms[i]? =some 1:=by
   have:=eC hmi
   rw [List.getD_eq_getElem?_getD] at this
   cases e:ms[i]? with
   | none=>rw [e] at this;cases this
   | some m=>rw [e] at this;simp at this;rw [this]
  rintro D U w hD hdeps hcl ⟨x,hv,ha,hod,hw⟩
  have hok:=Bw (hpu x) i o ho hms
  rw [gj] at hok
  unfold IC at hok
  simp only [bT] at hok
  obtain⟨⟨⟨h1,h2⟩,h3⟩,h4⟩:=hok
  have hsee: ∀q,mA l.toArray o q=true->ev U q=Bu (dv x) ag q:=by
   intro q hq
   cases q with
   | tmp t=>
    have ht:t∈o.looksAt l.toArray:=by
     unfold mA wH at hq
     rw [jQ] at hq
     obtain⟨t',h,e⟩:=hq
     have:=eC e;subst this;exact h
    have h1t:=jD.1 h1 t ht
    show U t=Bt (dv x) ag t
    cases hf:sZ (dv x) t with
    | some k=>
     rw [hf] at h1t
     obtain⟨v,hm,hv2⟩:=vA (ag:=ag) hf
     rw [hv2]
     exact hv.mem hm (lV hdeps h1t)
    | none=>
     rw [hf] at h1t
     rw [xw hf]
     exact ha.HS h1t
   | const v=>rfl
   | global g=>rfl
   | func f=>rfl
  have hrun:=hs x U w hsee
  intro a haa
  have hr:=hrun a haa
  cases hdst:o.dst with
  | none=>rw [hdst] at h2;cases h2
  | some d=>
   rw [hdst] at h2
   simp only [bT] at h2
   obtain⟨⟨⟨⟨e1,e2⟩,e3⟩,e4⟩,e5⟩:=h2
   obtain⟨k0,hf⟩: ∃k,sZ (dv x) d=some k:=by
    cases hf:sZ (dv x) d with
    | some k=>exact⟨k,rfl⟩
    | none=>rw [hf] at e1;cases e1
   obtain⟨v,hmv,hv2⟩:=vA (ag:=ag) hf
   have fin: ∀σ',σ'=eL U d v->∃x,dX (ins D i) σ' (dv x)/\agree σ' ag/\qN (ins D i) σ' od/\Holds E w (g (fun q=>ins D i (cs.getD q 999)) x++V):=by
    rintro σ' rfl
    refine⟨x,dX.of fun k t u hm hDk=>?_,ha.Mx (by simpa using e4),hod.up (by
     rw [jD];intro e he
     have:=jD.1 e5 e he
     exact this),?_⟩
    ·have he:=jD.1 e2 (k,t,u) hm
     simp only [bT,dU,Bool.not_eq_true'] at he
     by_cases htd:t=d
     ·subst htd
      have hlen:=eC e3
      have hm1: (k,t,u)∈(dv x).filter fun e=>Nat.beq e.2.1 t:=by rw [iA];exact⟨hm,Nat.beq_refl t⟩
      have hm2: (k0,t,v)∈(dv x).filter fun e=>Nat.beq e.2.1 t:=by rw [iA];exact⟨hmv,Nat.beq_refl t⟩
      obtain⟨z,hz⟩:=List.length_eq_one_iff.1 hlen
      rw [hz] at hm1 hm2
      simp at hm1 hm2
      have:=hm1.trans hm2.symm
      injection this with _ this;injection this with _ this
      subst this
      unfold eL;rw [Nat.beq_refl];rfl
     ·have hki:k≠i:=fun e=>by
       subst e
       rcases he.1 with h | h
       ·rw [Nat.beq_refl] at h;cases h
       ·exact htd (eC h)
      rw [na hki] at hDk
      unfold eL
      cases hb:Nat.beq t d with
      | true=>exact absurd (eC hb) htd
      | false=>exact hv.mem hm hDk
    ·have: (fun q=>ins D i (cs.getD q 999))= (fun q=>D (cs.getD q 999)):=by
      funext q
      refine na fun e=>?_
      rw [List.getD_eq_getElem?_getD] at e
      cases hq:cs[q]? with
      | some c=>
       rw [hq] at e
       have hc:=jD.1 h3 c (gH hq)
       have e:c=i:=e
       subst e;rw [Nat.beq_refl] at hc;cases hc
      | none=>
       rw [hq] at e
       have e:999=i:=e
       subst e;cases h4
     rw [this];exact hw
   unfold wpList at hr ⊢
   split at hr
   ·rename_i hwn
    rw [aC hwn]
    rcases hr with hr | ⟨h2,h3⟩
    ·refine .inl (xl (fun a w' h=>?_) (fun c a w' h=>?_) (fun h=>?_) hr)
     ·obtain⟨σ',hs',_,hw',d',hd',he⟩:=h
      have hd':some d=some d':=by rw [<-hdst];exact hd'
      injection hd' with hd';subst hd'
      have hw':w'=w:=hw'
      subst hw'
      exact⟨σ',hs',rfl,fin σ' (by rw [he,hv2])⟩
     ·obtain⟨_,_,hbad,_⟩:=h;cases hbad
     ·obtain⟨_,_,_,_,hbad,_⟩:=h;cases hbad
    ·obtain⟨_,_,_,_,hbad,_⟩:=h3;cases hbad
   ·rename_i hwn
    rw [aD hwn]
    obtain⟨σ',hs',_,hw',d',hd',he⟩:=hr
    have hd':some d=some d':=by rw [<-hdst];exact hd'
    injection hd' with hd';subst hd'
    exact⟨σ',hs',rfl,fin σ' (by rw [he,hv2])⟩
section
variable {P:Program} {n:Nat} {ops:Array Oper} {d:Nat} {v u:Value} {ty T T' t0:TypeId} {pos:String} {af:Array Edge} {g:Option (Nat×Bool)} {q r y z:Operand} {dv:List (Nat×Nat×Value)} {ag:List (Nat×Value)} {a b:Bool} {o:Oper}
def PG (ops:Array Oper) (o:Oper) (dv:List (Nat×Nat×Value)) (ag:List (Nat×Value)) (g:Option (Nat×Bool)):Prop:=∀U:Nat->Value,(∀q,mA ops o q=true->ev U q=Bu dv ag q)->Wn ops U g
theorem gn:PG ops o dv ag none:=fun _ _=>trivial
theorem gy {j t:Nat} (e:a=b) (h: ((ops[j]?).bind (·.dst),mA ops o (.tmp t),Bu dv ag (.tmp t))= (some t,true, .bool a)):PG ops o dv ag (some (j,b)):=fun U hs=>by
 injection h with h1 h;injection h with h2 h3
 exact⟨t,h1,by have:=hs (.tmp t) h2;rw [h3,e] at this;exact this⟩
theorem D7 {op:Op} {j t:Nat} (e:a = !b) (h: ((ops[j]?).bind (·.dst),mA ops ⟨some d,op,ty,pos,af,some (j,b)⟩ (.tmp t),Bu dv ag (.tmp t),Nat.blt d n,undef)= (some t,true, .bool a,true,Bt dv ag d):=by exact rfl):
  Pu P n ops ⟨some d,op,ty,pos,af,some (j,b)⟩ dv ag:=fun U w hs=>by
 injection h with h1 h;injection h with h2 h;injection h with h3 h;injection h with h4 h5
 exact RL.ML h1 ((hs _ h2).trans h3) e h4 (RL.pn h5)
theorem iT (hg:PG ops ⟨some d, .move q,ty,pos,af,g⟩ dv ag g) (h: (Nat.blt d n,mA ops ⟨some d, .move q,ty,pos,af,g⟩ q,Bu dv ag q)= (true,true,Bt dv ag d):=by exact rfl):Pu P n ops ⟨some d, .move q,ty,pos,af,g⟩ dv ag:=fun U w hs=>by
 injection h with h1 h;injection h with h2 h3
 exact RL.move (hd:=h1) (hx:=hs _ h2) _ (hg U hs) (RL.pn h3)
theorem ID (hg:PG ops ⟨some d, .assign q,ty,pos,af,g⟩ dv ag g) (h: (Nat.blt d n,mA ops ⟨some d, .assign q,ty,pos,af,g⟩ q,Bu dv ag q)= (true,true,Bt dv ag d)):Pu P n ops ⟨some d, .assign q,ty,pos,af,g⟩ dv ag:=fun U w hs=>by
 injection h with h1 h;injection h with h2 h3
 exact RL.assign (hg U hs) h1 (hs _ h2) (RL.pn h3)
theorem wI {c:Addr} (hg:PG ops ⟨some d, .nilCheck q,ty,pos,af,g⟩ dv ag g) (h: (Nat.blt d n,mA ops ⟨some d, .nilCheck q,ty,pos,af,g⟩ q,Bu dv ag q,Bt dv ag d)= (true,true, .pointer (some c), .pointer (some c)):=by exact rfl):Pu P n ops ⟨some d, .nilCheck q,ty,pos,af,g⟩ dv ag:=fun U w hs=>by
 injection h with h1 h;injection h with h2 h;injection h with h3 h4
 exact RL.nilCheck (hg:=hg U hs) (hd:=h1) ((hs _ h2).trans h3) (RL.pn h4.symm)
theorem mu {c o' j m:Nat} (hg:PG ops ⟨some d, .fieldAddr T q j,ty,pos,af,g⟩ dv ag g) (hf:l9 P T j m) (h: (Nat.blt d n,mA ops ⟨some d, .fieldAddr T q j,ty,pos,af,g⟩ q,Bu dv ag q,Bt dv ag d)= (true,true, .pointer (some ⟨c,o',none⟩), .pointer (some ⟨c,o'+m,none⟩)):=by exact rfl):
  Pu P n ops ⟨some d, .fieldAddr T q j,ty,pos,af,g⟩ dv ag:=fun U w hs=>by
 injection h with h1 h;injection h with h2 h;injection h with h3 h4
 exact RL.aZ (hg:=hg U hs) (hd:=h1) ((hs _ h2).trans h3) hf (RL.pn h4.symm)
theorem IE {bop:BinOp} {K:IntKind} {m k:Int} (hg:PG ops ⟨some d, .binOp bop T q r T',ty,pos,af,g⟩ dv ag g)
  (h: (Nat.blt d n,mA ops ⟨some d, .binOp bop T q r T',ty,pos,af,g⟩ q,mA ops ⟨some d, .binOp bop T q r T',ty,pos,af,g⟩ r,Bu dv ag q,Bu dv ag r,wg bop,Bt dv ag d)= (true,true,true, .int K m, .int K k,true, .bool (i7 bop m k))):
  Pu P n ops ⟨some d, .binOp bop T q r T',ty,pos,af,g⟩ dv ag:=fun U w hs=>by
 injection h with h1 h;injection h with h2 h;injection h with h3 h;injection h with h4 h;injection h with h5 h;injection h with h6 h7
 exact RL.i7 (hd:=h1) (hx:=(hs _ h2).trans h4) (hy:=(hs _ h3).trans h5) (hc:=h6) _ _ (hg U hs) (RL.pn h7.symm)
theorem Hc {bop:BinOp} {K:IntKind} {m k:Int} (hg:PG ops ⟨some d, .binOp bop T q r T',ty,pos,af,g⟩ dv ag g)
  (h: (Nat.blt d n,mA ops ⟨some d, .binOp bop T q r T',ty,pos,af,g⟩ q,mA ops ⟨some d, .binOp bop T q r T',ty,pos,af,g⟩ r,Bu dv ag q,Bu dv ag r,Im bop,Bt dv ag d)= (true,true,true, .int K m, .int K k,true, .int K (K.wrap (jA bop m k)))):
  Pu P n ops ⟨some d, .binOp bop T q r T',ty,pos,af,g⟩ dv ag:=fun U w hs=>by
 injection h with h1 h;injection h with h2 h;injection h with h3 h;injection h with h4 h;injection h with h5 h;injection h with h6 h7
 exact RL.jA (hg:=hg U hs) (hd:=h1) (hx:=(hs _ h2).trans h4) (hy:=(hs _ h3).trans h5) (hc:=h6) _ _ (RL.pn h7.symm)
theorem Lq (hg:PG ops ⟨some d, .pick q y z,ty,pos,af,g⟩ dv ag g) (e:a=true) (h: (Nat.blt d n,mA ops ⟨some d, .pick q y z,ty,pos,af,g⟩ q,mA ops ⟨some d, .pick q y z,ty,pos,af,g⟩ y,Bu dv ag q,Bu dv ag y)= (true,true,true, .bool a,Bt dv ag d)):
  Pu P n ops ⟨some d, .pick q y z,ty,pos,af,g⟩ dv ag:=fun U w hs=>by
 injection h with h1 h;injection h with h2 h;injection h with h3 h;injection h with h4 h5
 exact RL.Jp (hg U hs) h1 ((hs _ h2).trans h4) e (hs _ h3) (RL.pn h5)
theorem Lr (hg:PG ops ⟨some d, .pick q y z,ty,pos,af,g⟩ dv ag g) (e:a=false) (h: (Nat.blt d n,mA ops ⟨some d, .pick q y z,ty,pos,af,g⟩ q,mA ops ⟨some d, .pick q y z,ty,pos,af,g⟩ z,Bu dv ag q,Bu dv ag z)= (true,true,true, .bool a,Bt dv ag d)):
  Pu P n ops ⟨some d, .pick q y z,ty,pos,af,g⟩ dv ag:=fun U w hs=>by
 injection h with h1 h;injection h with h2 h;injection h with h3 h;injection h with h4 h5
 exact RL.Jq (hg U hs) h1 ((hs _ h2).trans h4) e (hs _ h3) (RL.pn h5)
end
end Go.Gk
