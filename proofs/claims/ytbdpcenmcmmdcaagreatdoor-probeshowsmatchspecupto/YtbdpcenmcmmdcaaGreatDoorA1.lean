/-
  Helping texts on the memory of the model. No statement of the seed is proved here.
-/
import Derived.Tactics
import Derived.Orders
import Derived.Maps.AppendAt
import Derived.Laws.Tables
import Derived.Laws.CopyRow
import Derived.KernelRfl
import Derived.Laws.Cells
import Derived.Laws.Strings
import Derived.Lib.Strings
import Derived.Laws.AppendOwn
import Derived.Laws.Externs
import Derived.Lib.Bytealg
import Derived.Laws.OwnMore
import Derived.MapKept
import Derived.Laws.Append
import Derived.Sort.AssemblyPlain
import Derived.Sort.Defs
import Derived.Sort.Statements
import Derived.Lib.BitFns
set_option linter.unusedVariables false
set_option linter.unusedSimpArgs false
set_option linter.unusedSectionVars false
namespace Go.Gk
open Go IntKind
theorem aP:∀{α:Type _}{l:List α}{i:Nat}(h:i<l.length),l[i]? =some l[i]:= @List.getElem?_eq_getElem
theorem bN:∀{α:Type _}{i:Nat}{a:α}{l:List α},l[i]? =some a↔∃h,l[i]=a:= @List.getElem?_eq_some_iff
theorem eA:∀{α:Type _}{i:Nat}{l:List α}(h:i<l.length),List.take (i+1) l=List.take i l++[l[i]]:= @List.take_succ_eq_append_getElem
theorem cI:∀(n:Nat),((n:Nat):Int).toNat=n:= @Int.toNat_natCast
theorem cL:∀{α:Type _}{l:List α}{n:Nat}(h:n<l.length),l[n]∈l:= @List.getElem_mem
theorem dU:∀{α:Type _}{β:Type _}{a0:List α}(f:α->β),(List.map f a0).length=a0.length:= @List.length_map
theorem cO:∀(a b:Bool),((a&&b)=true)=(a=true/\b=true):= @Bool.and_eq_true
theorem eL:∀{α:Type _}{a0 bs:List α},(a0++bs).length=a0.length+bs.length:= @List.length_append
theorem dD:∀{α:Type _}{a:α}{s t:List α},a∈s++t↔a∈s\/a∈t:= @List.mem_append
theorem fQ:∀{α:Type _}{l:List α}{i:Nat}{a:α},l[i]? =some a->a∈l:= @List.mem_of_getElem?
theorem fO:∀{α:Type _}{β:Type _}{f:α->β}{l₁ l₂:List α},List.map f (l₁++l₂)=List.map f l₁++List.map f l₂:= @List.map_append
theorem gG:∀{n m:Nat},n.beq m=true->n=m:= @Nat.eq_of_beq_eq_true
theorem jo:∀{α:Type _}{l:List α}{i j:Nat},(List.take i l)[j]? =if j<i then l[j]? else none:= @List.getElem?_take
theorem lZ:∀{α:Type _}{xs:List α}{i j:Nat},(List.drop i xs)[j]? =xs[i+j]? := @List.getElem?_drop
theorem jZ:∀{α:Type _}{xs:Array α}{i:Nat}(h:i<xs.size),xs[i]? =some xs[i]:= @Array.getElem?_eq_getElem
theorem jB:∀{α:Type _}{l₁ l₂:List α}{i:Nat},i<l₁.length->(l₁++l₂)[i]? =l₁[i]? := @List.getElem?_append_left
theorem jC:∀{α:Type _}{l₁ l₂:List α}{i:Nat},l₁.length<=i->(l₁++l₂)[i]? =l₂[i - l₁.length]? := @List.getElem?_append_right
theorem aM:∀{α:Sort _}(a b:α),(bif true then a else b)=a:= @cond_true
theorem aQ:∀{α:Sort _}(a b:α),(bif false then a else b)=b:= @cond_false
theorem tS:∀{α:Type _}{b:α}{α_1:Type _}{x:Option α_1}{f:α_1->α},Option.map f x=some b↔∃a,x=some a/\f a=b:= @Option.map_eq_some_iff
theorem jD:∀{α:Type _}{β:Type _}{f:α->β}{l:List α}{i:Nat},(List.map f l)[i]? =Option.map f l[i]? := @List.getElem?_map
theorem dV:∀{α:Type _}{β:Type _}{b:β}{f:α->β}{l:List α},b∈List.map f l↔∃a,a∈l/\f a=b:= @List.mem_map
theorem my:∀{α:Type _}{p:α->Bool}{a0:List α}{x:α},x∈List.filter p a0↔x∈a0/\p x=true:= @List.mem_filter
theorem eF:∀{α:Type _}{b:α}{l:List α}{a:α},a∈b::l↔a=b\/a∈l:= @List.mem_cons
theorem fq:∀{α:Type _}{a:α}{a0:List α},(a::a0).length=a0.length+1:= @List.length_cons
theorem dI:∀{α:Type _}{i:Nat}{l:List α},(List.take i l).length=min i l.length:= @List.length_take
theorem re:∀{m n:Nat},m∈List.range n↔m<n:= @List.mem_range
theorem py:∀{α:Type _}(a0 bs cs:List α),a0++bs++cs=a0++(bs++cs):= @List.append_assoc
theorem l3:∀{α:Type _}{i:Nat}{l:List α},(List.drop i l).length=l.length - i:= @List.length_drop
theorem l4:∀{α:Type _}{a b:α},a∈[b]↔a=b:= @List.mem_singleton
theorem pz:∀{α:Type _}{R:α->α->Prop}{a:α}{l:List α},List.Pairwise R (a::l)↔(∀(a':α),a'∈l->R a a')/\List.Pairwise R l:= @List.pairwise_cons
theorem kH:∀{α:Type _}{R:α->α->Prop},List.Pairwise R []:= @List.Pairwise.nil
theorem fG:∀{α:Type _}{l:List α},List.take l.length l=l:= @List.take_length
theorem kg:∀{α:Type _}(y:α){a:α}{l:List α},a∈l->a∈y::l:= @List.mem_cons_of_mem
theorem gR:∀(a b:Bool),((a||b)=true)=(a=true\/b=true):= @Bool.or_eq_true
theorem su:false≠true:= @Bool.false_ne_true
theorem l5:∀(b:Bool),(¬b=true)=(b=false):= @Bool.not_eq_true
theorem gS:∀{a b:Bool},a=b↔(a=true↔b=true):= @Bool.eq_iff_iff
theorem ln:∀{α:Type _}{l:List α}{i j:Nat}{a:α},(l.set i a)[j]? =if i=j then if i<l.length then some a else none else l[j]? := @List.getElem?_set
theorem iO:∀{α:Type _}{a0:List α}{i:Nat}{a:α},(a0.set i a).length=a0.length:= @List.length_set
theorem mz:∀{α:Type _}{i:Nat}{l:List α},l.length<=i->List.take i l=l:= @List.take_of_length_le
theorem bP:∀{α β:Type}(a:α)(w:World)(f:α->World->Result β),(Result.ok a w).andThen f=f a w:= @Result.andThen_ok
theorem bG:∀{α β:Type}(P:Program)(w:World)(x:Sem α)(f:α->Sem β),Sem.run P (x >>= f) w=(Sem.run P x w).andThen λa w'=>Sem.run P (f a) w':= @Sem.run_bind
theorem bS:∀{α:Type}(P:Program)(w:World)(a:α),Sem.run P (pure a) w=Result.ok a w:= @Sem.run_pure
theorem cH:∀(n:Nat),n<=n:= @Nat.le_refl
theorem cT:∀(n:Nat),0<=n:= @Nat.zero_le
theorem jE:∀(n:Nat),0+n=n:= @Nat.zero_add
theorem qm:∀{α:Type _}(a0:List α),a0++[]=a0:= @List.append_nil
theorem eY:∀{α:Type _}{β:Type _}{f:α->β}{a:α}{l:List α},List.map f (a::l)=f a::List.map f l:= @List.map_cons
theorem ov:∀{α:Type _}{R:α->α->Prop}{l:List α},List.Pairwise R l↔∀(i j:Nat)(_hi:i<l.length)(_hj:j<l.length),i<j->R l[i] l[j]:= @List.pairwise_iff_getElem
theorem rf:∀{α:Type _}(p:α->Bool)(l:List α),(List.filter p l).length<=l.length:= @List.length_filter_le
theorem jF:(!true)=false:= @Bool.not_true
theorem jG:(!false)=true:= @Bool.not_false
theorem kI:∀{α:Type _}{p:α->Bool}{l:List α},l.any p=true↔∃x,x∈l/\p x=true:= @List.any_eq_true
theorem nA:∀{α:Type _}{p:α->Bool}{l:List α},l.all p=true↔∀(x:α),x∈l->p x=true:= @List.all_eq_true
theorem vG:∀{α:Type _}{i:Nat}{l:List α}(h:i<l.length),List.drop i l=l[i]::List.drop (i+1) l:= @List.drop_eq_getElem_cons
theorem cP:∀{p:Prop}[Decidable p],(decide p=true)=p:= @decide_eq_true_eq
theorem bO{p:Prop}[Decidable p]:p->decide p=true:=decide_eq_true
theorem bQ{p:Prop}[Decidable p]:¬p->decide p=false:=decide_eq_false
theorem dW{α:Type _}{a:α}{l:List α}:a∈l->∃i:Nat,l[i]? =some a:=List.getElem?_of_mem
theorem aG{c:Prop}{h:Decidable c}(hc:c){α:Sort _}{t e:α}:(if c then t else e)=t:=if_pos hc
theorem aI{c:Prop}{h:Decidable c}(hc:¬c){α:Sort _}{t e:α}:(if c then t else e)=e:=if_neg hc
abbrev eZ:=Nat->Option Obj
def tJ:eZ:=λ_=>none
def one(g:Nat)(o:Obj):eZ:=λb=>if b=g then some o else none
def tK(M h:eZ):eZ:=λb=>match M b with|some o=>some o|none=>h b
def hle(M M':eZ):Prop:=∀b o,M b=some o->M' b=some o
theorem KM(M:eZ):hle M M:=λ_ _ h=>h
theorem JU{A B C:eZ}(h:hle A B)(k:hle B C):hle A C:=λb o e=>k b o<|h b o e
theorem xW(M h:eZ):hle M (tK M h):=λb o e=>by simp[tK,e]
theorem l7{g b:Nat}{o o':Obj}(h:one g o b=some o'):b=g/\o=o':=by
 grind [one]
theorem eE(g:Nat)(o:Obj):one g o g=some o:=by simp[one]
structure HP where
 ok:eZ->eZ->Prop
 mono:∀{M M' h:eZ},hle M M'->ok M h->ok M' h
def bM:HP:=⟨λ_ _=>True,λ_ h=>h⟩
structure Good (E w:World) (M:eZ) (hs:Nat->eZ) (V:List HP):Prop where
 os:w.os=E.os
 tape:w.tape=E.tape
 out:w.output=E.output
 dr:E.drawn<=w.drawn
 im:∀b o,M b=some o->w.heap[b]? =some o
 sat:∀i(P:HP),V[i]? =some P->P.ok M (hs i)
 le:∀i b o,i<V.length->hs i b=some o->w.heap[b]? =some o
 dm:∀i b o,i<V.length->hs i b=some o->M b=none
 dj:∀i j b o,i<V.length->j<V.length->i≠j->hs i b=some o->hs j b=none
def Holds(E w:World)(V:List HP):Prop:=∃M hs,Good E w M hs V
theorem dS{V:List HP}{i:Nat}{P:HP}(h:V[i]? =some P):i<V.length:=(bN.1 h).1
section
variable {E w w':World}{M:eZ}{hs:Nat->eZ}{V Γ':List HP}{P P':HP}{i:Nat}
def Gi(h:eZ)(hs:Nat->eZ):Nat->eZ
 | 0=>h
 |i+1=>hs i
def ox(hs:Nat->eZ)(i:Nat)(h:eZ):Nat->eZ:=λj=>if j=i then h else hs j
theorem Good.cons(g:Good E w M hs V)(h:eZ)(hp:P.ok M h)(hle':∀b o,h b=some o->w.heap[b]? =some o)
  (hdm:∀b o,h b=some o->M b=none) (hdj:∀j b o,j<V.length->h b=some o->hs j b=none):
  Good E w M (Gi h hs) (P::V)where
 os:=g.os
 tape:=g.tape
 out:=g.out
 dr:=g.dr
 im:=g.im
 sat:=λi Q hq=>by
  cases i with
  |zero=>simp at hq;subst hq;exact hp
  |succ i=>exact g.sat i Q (by grind)
 le:=λi b o hi hb=>by
  cases i with
  |zero=>exact hle' b o hb
  |succ i=>exact g.le i b o (by grind) hb
 dm:=λi b o hi hb=>by
  cases i with
  |zero=>exact hdm b o hb
  |succ i=>exact g.dm i b o (by grind) hb
 dj:=λi j b o hi hj hne hb=>by
  cases i with
  |zero=>
   cases j with
   |zero=>exact absurd rfl hne
   |succ j=>exact hdj j b o (by grind) hb
  |succ i=>
   cases j with
   |zero=>
    simp only[Gi]at hb ⊢
    cases e:h b with
    |none=>rfl
    |some o'=>have:=hdj i b o' (by grind) e;rw[this]at hb;cases hb
   |succ j=>exact g.dj i j b o (by grind) (by grind) (by omega) hb
theorem Good.jq(g:Good E w M hs V)(hp:P.ok M tJ):Good E w M (Gi tJ hs) (P::V):=
 g.cons tJ hp (λ_ _ h=>by cases h) (λ_ _ h=>by cases h) (λ_ _ _ _ h=>by cases h)
theorem Good.world(g:Good E w M hs V)(h1:w'.os=w.os)(h2:w'.tape=w.tape)(h3:w'.output=w.output)
  (hk:∀b,b<w.heap.size->w'.heap[b]? =w.heap[b]?) (h0:w.drawn<=w'.drawn:=by first|exact cH _|exact Nat.le_succ _):Good E w' M hs V:=by
 have key:∀b o,w.heap[b]? =some o->w'.heap[b]? =some o:=λb o h=>by
  rw[hk b<|(Array.getElem?_eq_some_iff.1 h).1];exact h
 exact⟨h1.trans g.os,h2.trans g.tape,h3.trans g.out,Nat.le_trans g.dr h0,λb o h=>key b o (g.im b o h),g.sat,
  λi b o hi h=>key b o (g.le i b o hi h),g.dm,g.dj⟩
theorem Good.update(g:Good E w M hs V)(hi:i<V.length)(h':eZ)(hp:P'.ok M h')
  (h1:w'.os=w.os) (h2:w'.tape=w.tape) (h3:w'.output=w.output)
  (hle':∀b o,h' b=some o->w'.heap[b]? =some o)
  (hdom:∀b o,h' b=some o->(∃o',hs i b=some o')\/w.heap.size<=b)
  (hk:∀b,hs i b=none->b<w.heap.size->w'.heap[b]? =w.heap[b]?) (h0:w.drawn<=w'.drawn:=by first|exact cH _|exact Nat.le_succ _):
  Good E w' M (ox hs i h') (V.set i P'):=by
 have lt:∀b o,w.heap[b]? =some o->b<w.heap.size:=λb o h=>(Array.getElem?_eq_some_iff.1 h).1;refine⟨h1.trans g.os,h2.trans g.tape,h3.trans g.out,Nat.le_trans g.dr h0,λb o h=>?_,λj Q hq=>?_,λj b o hj hb=>?_,λj b o hj hb=>?_,λj k b o hj hk' hne hb=>?_⟩
 ·have hw:=g.im b o h;rw[hk b ?_<|lt b o hw];exact hw
  cases e:hs i b with
  |none=>rfl
  |some o'=>have:=g.dm i b o' hi e;grind
 ·rw[ln]at hq;unfold ox
  by_cases e:i=j
  ·grind
  ·rw[aI e]at hq;rw[aI<|λh=>e h.symm];exact g.sat j Q hq
 ·rw[iO]at hj;unfold ox at hb;split at hb
  ·grind
  ·rename_i e;have hw:=g.le j b o hj hb;rw[hk b (g.dj j i b o hj hi e hb)<|lt b o hw];exact hw
 ·rw[iO]at hj;unfold ox at hb;split at hb
  ·rcases hdom b o hb with⟨o',h'⟩|h'
   ·exact g.dm i b o' hi h'
   ·cases e:M b with
    |none=>rfl
    |some o'=>exact absurd (lt b o' (g.im b o' e)) (by omega)
  ·exact g.dm j b o hj hb
 ·rw[iO]at hj hk';unfold ox at hb ⊢;split at hb
  ·rename_i e;rw[aI<|λh=>hne<|e.trans h.symm]
   rcases hdom b o hb with⟨o',h'⟩|h'
   ·exact g.dj i k b o' hi hk' (λh=>hne<|e.trans h) h'
   ·cases e':hs k b with
    |none=>rfl
    |some o'=>exact absurd (lt b o' (g.le k b o' hk' e')) (by omega)
  ·rename_i e;split
   ·cases e':h' b with
    |none=>rfl
    |some o'=>
     rcases hdom b o' e' with⟨o'',h''⟩|h''
     ·have:=g.dj i j b o'' hi hj (λh=>e h.symm) h'';grind
     ·exact absurd (lt b o<|g.le j b o hj hb) (by omega)
   ·exact g.dj j k b o hj hk' hne hb
theorem Good.freeze(g:Good E w M hs V)(hi:i<V.length)(hp:P'.ok (tK M<|hs i) tJ):
  Good E w (tK M<|hs i) (ox hs i tJ) (V.set i P'):=by
 refine⟨g.os,g.tape,g.out,g.dr,λb o h=>?_,λj Q hq=>?_,λj b o hj hb=>?_,λj b o hj hb=>?_,λj k b o hj hk' hne hb=>?_⟩
 ·unfold tK at h
  cases e:M b with
  |none=>rw[e]at h;exact g.le i b o hi h
  |some o'=>rw[e]at h;simp at h;subst h;exact g.im b _ e
 ·rw[ln]at hq;unfold ox
  by_cases e:i=j
  ·grind
  ·rw[aI e]at hq;rw[aI<|λh=>e h.symm];exact Q.mono (xW _ _)<|g.sat j Q hq
 ·rw[iO]at hj;unfold ox at hb;split at hb
  ·cases hb
  ·exact g.le j b o hj hb
 ·rw[iO]at hj;unfold ox at hb;split at hb
  ·cases hb
  ·rename_i e;simp only[tK,g.dm j b o hj hb];exact g.dj j i b o hj hi e hb
 ·rw[iO]at hj hk';unfold ox at hb ⊢;split at hb
  ·cases hb
  ·split
   ·rfl
   ·exact g.dj j k b o hj hk' hne hb
theorem Good.pick(g:Good E w M hs V)(f:Nat->Nat)(hlt:∀i,i<Γ'.length->f i<V.length)(hget:∀i,i<Γ'.length->Γ'[i]? =V[f i]?)
  (hinj:∀i j,i<Γ'.length->j<Γ'.length->i≠j->f i≠f j):Good E w M (λi=>hs<|f i) Γ':=
 ⟨g.os,g.tape,g.out,g.dr,g.im,λi Q hq=>g.sat (f i) Q (by grind),
  λi b o hi hb=>g.le (f i) b o (hlt i hi) hb,λi b o hi hb=>g.dm (f i) b o (hlt i hi) hb,
  λi j b o hi hj hne hb=>g.dj (f i) (f j) b o (hlt i hi) (hlt j hj) (hinj i j hi hj hne) hb⟩
theorem Holds.drop(k:Nat)(h:Holds E w V)(hd:V.drop k=Γ':=by exact rfl):Holds E w Γ':=by
 obtain⟨M,hs,g⟩:=h;subst hd;exact⟨M,_,g.pick (λi=>k+i) (λi hi=>by grind) (λi _=>by rw[lZ]) (λi j _ _ h=>by omega)⟩
theorem Holds.pick(h:Holds E w V)(m:Nat)(idx:List Nat){Γ0 new:List HP}(hd:V.drop m=Γ0)(hg:idx.map (λi=>V[i]?)=new.map some)
  (hn:idx.Nodup) (hm:∀i∈idx,i<m):Holds E w (new++Γ0):=by
 obtain⟨M,hs,g⟩:=h;have hlen:idx.length=new.length:=by have:=congrArg List.length hg;grind
 have hat:∀i,i<idx.length->V[idx.getD i 0]? =new[i]? :=λi hi=>by
  have:=congrArg (·[i]?) hg
  grind
 have hm':∀i,i<idx.length->idx.getD i 0<m:=λi hi=>by
  simp_all
 subst hd;have hget:∀i,i<(new++V.drop m).length->(new++V.drop m)[i]? =V[if i<idx.length then idx.getD i 0 else m+(i - idx.length)]? :=by
  grind
 refine⟨M,_,g.pick (λi=>if i<idx.length then idx.getD i 0 else m+(i - idx.length)) (λi hi=>?_) hget<|λi j hi hj hne=>?_⟩
 ·grind
 ·show(if i<idx.length then idx.getD i 0 else m+(i - idx.length))≠(if j<idx.length then idx.getD j 0 else m+(j - idx.length))
  grind [aP,List.getElem_inj]
theorem Holds.back(h:Holds E w (P::V))(hi:i<V.length):Holds E w (V.set i P):=by
 obtain⟨M,hs,g⟩:=h;have hlen:(V.set i P).length=V.length:=iO;refine⟨M,_,g.pick (λj=>if j=i then 0 else j+1) (λj hj=>?_) (λj hj=>?_)<|λj k hj hk hne=>?_⟩
 all_goals grind
theorem Holds.pull(i:Nat)(h:Holds E w V)(hi:V[i]? =some P:=by exact rfl):Holds E w (P::V.set i bM):=by
 obtain⟨M,hs,g⟩:=h;have hlt:=dS hi;have g2:=g.update (P':=bM) hlt tJ trivial rfl rfl rfl (λb o hb=>by cases hb) (λb o hb=>by cases hb)<|λ_ _ _=>rfl
 refine⟨M,_,g2.cons (hs i) (g.sat i P hi) (λb o hb=>g.le i b o hlt hb) (λb o hb=>g.dm i b o hlt hb)<|λj b o hj hb=>?_⟩;rw[iO]at hj;unfold ox;split
 ·rfl
 ·rename_i e;exact g.dj i j b o hlt hj (λh=>e h.symm) hb
theorem Holds.world(h:Holds E w V)(h1:w'.os=w.os)(h2:w'.tape=w.tape)(h3:w'.output=w.output)
  (hk:∀b,b<w.heap.size->w'.heap[b]? =w.heap[b]?) (h0:w.drawn<=w'.drawn:=by first|exact cH _|exact Nat.le_succ _):Holds E w' V:=
 let⟨M,hs,g⟩:=h
 ⟨M,hs,g.world h1 h2 h3 hk h0⟩
theorem Holds.drew(h:Holds E w V):Holds E w.drew V:=h.world rfl rfl rfl<|λ_ _=>rfl
theorem yH(w:World)(o:Obj)(b:Nat)(h:b<w.heap.size):(w.alloc o).heap[b]? =w.heap[b]? :=by
 show(w.heap.push o)[b]? =w.heap[b]?
 grind
theorem Holds.alloc(h:Holds E w V)(o:Obj)(hp:∀M hs,Good E w M hs V->P.ok M (one w.heap.size o)):Holds E (w.alloc o) (P::V):=by
 obtain⟨M,hs,g⟩:=h;have lt:∀b o,w.heap[b]? =some o->b<w.heap.size:=λb o h=>(Array.getElem?_eq_some_iff.1 h).1;refine⟨M,_,(g.world (w':=w.alloc o) rfl rfl rfl<|λb hb=>yH w o b hb).cons (one w.heap.size o) (hp M hs g) (λb o' hb=>?_) (λb o' hb=>?_)<|λj b o' hj hb=>?_⟩
 ·grind [l7,heap_alloc_new]
 ·obtain⟨rfl,rfl⟩:=l7 hb
  cases e:M w.heap.size with
  |none=>rfl
  |some o'=>exact absurd (lt _ o' (g.im _ o' e)) (by omega)
 ·obtain⟨rfl,rfl⟩:=l7 hb
  cases e:hs j w.heap.size with
  |none=>rfl
  |some o'=>exact absurd (lt _ o' (g.le j _ o' hj e)) (by omega)
theorem Holds.D5(h:Holds E w V)(hp:∀M hs,Good E w M hs V->P.ok M tJ):Holds E w (P::V):=
 let⟨M,hs,g⟩:=h
 ⟨M,_,g.jq<|hp M hs g⟩
end
structure eJ where
 dL:List UInt8
 deriving DecidableEq,Inhabited
class GT (α:Type)where
 sz:Nat
 agg:Bool
 ok:eZ->List Value->α->Prop
 pos:0<sz
 ag1:agg=false->sz=1
 len:∀{M:eZ}{cs:List Value}{x:α},ok M cs x->cs.length=sz
 one:∀{M:eZ}{cs:List Value}{x:α},ok M cs x->∀u∈cs,u.oneCell'=true
 mono:∀{M M':eZ}{cs:List Value}{x:α},hle M M'->ok M cs x->ok M' cs x
class Sc (α:Type)where
 toV:α->Value
 one:∀x,(toV x).oneCell'=true
instance instGTSc {α:Type} [Sc α]:GT α where
 sz:=1
 agg:=false
 ok:=λ_ cs x=>cs= [Sc.toV x]
 pos:=by decide
 ag1:=λ_=>rfl
 len:=λh=>by rw[h];rfl
 one:=λh u hu=>by rw[h]at hu;simp at hu;subst hu;exact Sc.one _
 mono:=λ_ h=>h
@[reducible] def str(s:eJ):Value:= .string ⟨s.dL.toArray⟩
instance:Sc Int:=⟨λn=> .int .i64 n,λ_=>rfl⟩
instance:Sc Bool:=⟨λb=> .bool b,λ_=>rfl⟩
instance:Sc eJ:=⟨str,λ_=>rfl⟩
instance:Sc UInt8:=⟨λb=> .int .u8 b.toNat,λ_=>rfl⟩
def zF(M:eZ)(a:Addr):Option Value:=
 match M a.block with
 |some (.cells c _ _)=>if a.spot.isSome then none else c[a.off]?
 |_=>none
def At(M:eZ)(a:Addr)(cs:List Value):Prop:=∀j u,cs[j]? =some u->zF M (a.add j)=some u
theorem wY{M:eZ}{w:World}(h:∀b o,M b=some o->w.heap[b]? =some o){a:Addr}{v:Value}(hc:zF M a=some v):w.cell? a=some v:=by
 grind [zF,World.cell?]
theorem H3{M M':eZ}(h:hle M M'){a:Addr}{v:Value}(hc:zF M a=some v):zF M' a=some v:=by
 unfold zF at hc ⊢;split at hc
 ·rename_i c _ _ e;rw[h _ _ e];exact hc
 ·cases hc
theorem At.mono{M M':eZ}(h:hle M M'){a:Addr}{cs:List Value}(hc:At M a cs):At M' a cs:=λj u hu=>H3 h<|hc j u hu
theorem add_add(a:Addr)(i j:Nat):(a.add i).add j=a.add (i+j):=by
 grind [Addr.add,Nat.add_assoc]
theorem At.sub{M:eZ}{a:Addr}{cs:List Value}(h:At M a cs)(k n:Nat):At M (a.add k) ((cs.drop k).take n):=by
 intro j u hu;rw[add_add];refine h (k+j) u ?_
 grind
section
variable {α β:Type}[GT α][GT β]{M M':eZ}{v:Value}{cs:List Value}
variable {x:α}{l:List α}
def yV(α:Type)[GT α](cs:List Value):Value:=if GT.agg α then .agg cs.toArray else cs.headD undef
def yW(M:eZ)(v:Value)(x:α):Prop:=∃cs,v=yV α cs/\GT.ok M cs x
theorem yW.mono(h:hle M M')(hr:yW M v x):yW M' v x:=let⟨cs,e,ho⟩:=hr;⟨cs,e,GT.mono h ho⟩
theorem JV(ho:GT.ok M cs x):(yV α cs).cells.toList=cs:=by
 unfold yV;have hl:=GT.len ho
 cases e:GT.agg α with
 |true=>simp[Value.cells]
 |false=>
  rw[GT.ag1 e]at hl
  match cs,hl,GT.one ho with
  | [c],_,h1=>
   have:=h1 c (by simp)
   cases c <;> simp[Value.cells,Value.oneCell']at this ⊢
theorem yW.cells(hr:yW M v x):GT.ok M v.cells.toList x:=by
 obtain⟨cs,rfl,ho⟩:=hr
 grind [JV]
theorem H4{γ:Type}[Sc γ]{y:γ}:yW M v y↔v=Sc.toV y:=by
 constructor
 ·rintro⟨cs,rfl,ho⟩;have:cs= [Sc.toV y]:=ho;subst this;rfl
 ·rintro rfl;exact⟨[Sc.toV y],rfl,rfl⟩
def qo(M:eZ)(v:Value)(l:List α):Prop:=
 ∃a n cap,v = .slice a n cap/\n=l.length/\n<=cap/\cap<=maxLen/\
  ∀i x,l[i]? =some x->∃ad cs,a=some ad/\GT.ok M cs x/\At M (ad.add<|i*GT.sz α) cs
theorem qo.mono(h:hle M M')(hs:qo M v l):qo M' v l:=by
 obtain⟨a,n,cap,hv,hn,hc,hm,hi⟩:=hs;exact⟨a,n,cap,hv,hn,hc,hm,λi x hx=>let⟨ad,cs,e,ho,ha⟩:=hi i x hx;⟨ad,cs,e,GT.mono h ho,ha.mono h⟩⟩
instance instGTList:GT (List α)where
 sz:=1
 agg:=false
 ok:=λM cs l=>∃v,cs= [v]/\qo M v l
 pos:=by decide
 ag1:=λ_=>rfl
 len:=λ⟨v,h,_⟩=>by rw[h];rfl
 one:=λ⟨v,h,⟨a,n,cap,hv,_⟩⟩u hu=>by rw[h]at hu;simp at hu;subst hu;rw[hv];rfl
 mono:=λh⟨v,e,hs⟩=>⟨v,e,hs.mono h⟩
theorem nM:yW M v l↔qo M v l:=by
 constructor
 ·rintro⟨cs,rfl,v,rfl,hs⟩;exact hs
 ·intro h;exact⟨[v],rfl,v,rfl,h⟩
instance instGTProd:GT (α×β)where
 sz:=GT.sz α+GT.sz β
 agg:=true
 ok:=λM cs x=>∃c d,cs=c++d/\GT.ok M c x.1/\GT.ok M d x.2
 pos:=by have:=GT.pos (α:=α);omega
 ag1:=λh=>by cases h
 len:=λ⟨c,d,e,h1,h2⟩=>by rw[e,eL,GT.len h1,GT.len h2]
 one:=λ⟨c,d,e,h1,h2⟩u hu=>by
  rw[e,dD]at hu
  rcases hu with hu|hu
  ·exact GT.one h1 u hu
  ·exact GT.one h2 u hu
 mono:=λh⟨c,d,e,h1,h2⟩=>⟨c,d,e,GT.mono h h1,GT.mono h h2⟩
@[reducible] def GT.via{γ:Type}(f:γ->α):GT γ where
 sz:=GT.sz α
 agg:=true
 ok:=λM cs x=>GT.ok M cs<|f x
 pos:=GT.pos
 ag1:=λh=>by cases h
 len:=λh=>GT.len h
 one:=λh=>GT.one h
 mono:=λh k=>GT.mono h k
def Fd(k:Nat)(f:α->β):Prop:=∀(M:eZ)(cs:List Value)(x:α),GT.ok M cs x->GT.ok M ((cs.drop k).take<|GT.sz β) (f x)
theorem Fd.self:Fd 0 (λx:α=>x):=λM cs x h=>by
 rw[List.drop_zero,mz (by grind [GT.len])];exact h
theorem Fd.fst{γ:Type}[GT γ]{k:Nat}{f:α->γ}(h:Fd k f)(hk:k+GT.sz γ<=GT.sz α:=by decide):Fd k (λx:α×β=>f x.1):=by
 rintro M cs x⟨c,d,rfl,h1,h2⟩;have hl:=GT.len h1;rw[List.drop_append_of_le_length (by omega),List.take_append_of_le_length (by grind)];exact h M c x.1 h1
theorem Fd.snd{γ:Type}[GT γ]{k k':Nat}{f:β->γ}(h:Fd k f)(hk:k'=GT.sz α+k:=by exact rfl):Fd k' (λx:α×β=>f x.2):=by
 rintro M cs x⟨c,d,rfl,h1,h2⟩;subst hk;rw[<-GT.len h1,List.drop_length_add_append];exact h M d x.2 h2
def Fs(k:Nat)(β:Type)[GT β](f:α->β->α):Prop:=
 ∀(M:eZ)(cs ds:List Value)(x:α)(y:β),GT.ok M cs x->GT.ok M ds y->GT.ok M (cs.take k++ds++cs.drop (k+GT.sz β)) (f x y)
theorem Fs.self:Fs 0 α (λ_ y:α=>y):=λM cs ds x y h1 h2=>by
 rw[List.take_zero,List.nil_append,List.drop_eq_nil_of_le (by grind [GT.len]),qm];exact h2
theorem Fs.fst{γ:Type}[GT γ]{k:Nat}{f:α->γ->α}(h:Fs k γ f)(hk:k+GT.sz γ<=GT.sz α:=by decide):Fs k γ (λ(x:α×β)y=>(f x.1 y,x.2)):=by
 rintro M cs ds x y⟨c,d,rfl,h1,h2⟩hy;have hl:=GT.len h1;refine⟨c.take k++ds++c.drop (k+GT.sz γ),d,?_,h M c ds x.1 y h1 hy,h2⟩
 grind
theorem Fs.snd{γ:Type}[GT γ]{k k':Nat}{f:β->γ->β}(h:Fs k γ f)(hk:k'=GT.sz α+k:=by exact rfl):Fs k' γ (λ(x:α×β)y=>(x.1,f x.2 y)):=by
 rintro M cs ds x y⟨c,d,rfl,h1,h2⟩hy;subst hk;refine⟨c,d.take k++ds++d.drop (k+GT.sz γ),?_,h1,h M d ds x.2 y h2 hy⟩;rw[<-GT.len h1,List.take_length_add_append,Nat.add_assoc,List.drop_length_add_append];simp
end
section
variable {α β:Type}[GT α][GT β]
def rd(v:Value)(x:α):HP:=⟨λM h=>yW M v x/\h=tJ,λk⟨a,b⟩=>⟨a.mono k,b⟩⟩
def SB(M:eZ)(v:Value)(x:α):Prop:=∃ad cs,v = .pointer (some ad)/\GT.ok M cs x/\At M ad cs
def pt(v:Value)(x:α):HP:=⟨λM h=>SB M v x/\h=tJ,λk⟨⟨ad,cs,e,ho,ha⟩,b⟩=>⟨⟨ad,cs,e,GT.mono k ho,ha.mono k⟩,b⟩⟩
def bx(e:TypeId)(g:Nat)(x:α):HP:=⟨λM h=>∃cs,GT.ok M cs x/\h=Gk.one g (.cells cs.toArray e (0,0)),λk⟨cs,ho,hh⟩=>⟨cs,GT.mono k ho,hh⟩⟩
def Cells(M:eZ)(xs:List Value)(l:List α):Prop:=
 xs.length=l.length*GT.sz α/\∀i x,l[i]? =some x->GT.ok M ((xs.drop<|i*GT.sz α).take<|GT.sz α) x
theorem Cells.mono{M M':eZ}(h:hle M M'){xs:List Value}{l:List α}(hc:Cells M xs l):Cells M' xs l:=⟨hc.1,λi x hx=>GT.mono h<|hc.2 i x hx⟩
def yX(e:TypeId)(M h:eZ)(v:Value)(l:List α):Prop:=
 (v = .slice none 0 0/\l= []/\h=tJ)\/
 ∃g o cap cur xs,v = .slice (some ⟨g,o,none⟩) l.length cap/\l.length<=cap/\cap<=maxLen/\h=Gk.one g (.cells cur e (0,0))/\
  o+cap*GT.sz α<=cur.size/\(cur.toList.drop o).take (l.length*GT.sz α)=xs/\Cells M xs l
def own(e:TypeId)(v:Value)(l:List α):HP:=⟨λM h=>yX e M h v l,λ{M M' h}k hh=>by
 rcases hh with hh|⟨g,o,cap,cur,xs,h1,h2,h3,h4,h5,h6,h7⟩
 ·exact .inl hh
 ·exact .inr ⟨g,o,cap,cur,xs,h1,h2,h3,h4,h5,h6,h7.mono k⟩⟩
end
def fz(U:Nat->Value)(d:Nat)(v:Value):Nat->Value:=λt=>bif Nat.beq t d then v else U t
def ev(U:Nat->Value):Operand->Value
 | .tmp t=>U t
 | .const v=>v
 | .global g=> .pointer (some ⟨g,0,none⟩)
 | .func f=> .func (.func f) #[] #[]
structure Sl (n:Nat) (U:Nat->Value) (a:Act):Prop where
 defers:a.defers= []
 size:a.tmps.size=n
 get:∀t,a.tmps.getD t undef=U t
theorem Sl.ev{n:Nat}{U:Nat->Value}{a:Act}(h:Sl n U a):a.eval=ev U:=by
 funext x
 cases x with
 |tmp t=>exact h.get t
 |const v=>rfl
 |global g=>rfl
 |func f=>rfl
theorem Sl.put{n:Nat}{U:Nat->Value}{a:Act}(h:Sl n U a){d:Nat}(hd:Nat.blt d n=true)(v:Value):Sl n (fz U d v) (a.put (some d) v)where
 defers:=h.defers
 size:=by simp[Act.put,h.size]
 get:=λt=>by
  have hd':d<a.tmps.size:=by rw[h.size];exact Nat.blt_eq▸hd
  unfold fz
  by_cases e:t=d
  ·subst e;simp[Act.put,hd']
  ·have hb:Nat.beq t d=false:=by
    cases hx:Nat.beq t d with
    |false=>rfl
    |true=>exact absurd (gG hx) e
   rw[hb];simp only[aQ,<-h.get t,Act.put,Array.getD_eq_getD_getElem?];rw[Array.getElem?_setIfInBounds_ne<|λh=>e h.symm]
theorem Sl.CE{n:Nat}{U:Nat->Value}{a:Act}(h:Sl n U a)(v:Value):Sl n U (a.put none v):=h
abbrev jh:=Exit->(Nat->Value)->World->Prop
def Lf(n:Nat)(Q:jh):Exit->Act->World->Prop:=λex a w=>∃U,Sl n U a/\Q ex U w
def RL(P:Program)(n:Nat)(ops:Array Oper)(rest:List Oper)(U:Nat->Value)(w:World)(Q:jh):Prop:=
 ∀a,Sl n U a->wpList P ops (Lf n Q) rest a w
def RC(P:Program)(n:Nat)(c:Code)(U:Nat->Value)(w:World)(Q:jh):Prop:=∀a,Sl n U a->c.wp P (Lf n Q) a w
def qN(P:Program)(n:Nat)(y:Code)(Q:jh):jh
 | .normal,U,w=>RC P n y U w Q
 |e,U,w=>Q e U w
def A0(id:Nat)(Q:jh):jh
 | .exit i,U,w=>if i=id then Q .normal U w else Q (.exit i) U w
 |e,U,w=>Q e U w
section
variable {P:Program}{n:Nat}{U:Nat->Value}{w:World}{Q Q':jh}{x y c:Code}{id:Nat}
theorem RC.mono(h:RC P n c U w Q)(hq:∀e U w,Q e U w->Q' e U w):RC P n c U w Q':=
 λa ha=>wp_mono (h a ha) λe _ w⟨U,hs,q⟩=>⟨U,hs,hq e U w q⟩
theorem IN(h:RC P n x U w (qN P n y Q)):RC P n (.seq x y) U w Q:=λa ha=>
 wp_seq (wp_mono (h a ha) λe a w⟨U,hs,q⟩=>by
  cases e with
  |normal=>exact q a hs
  |_=>exact⟨U,hs,q⟩)
theorem TF(h:RC P n x U w (A0 id Q)):RC P n (.block id x) U w Q:=λa ha=>
 wp_block (wp_mono (h a ha) λe a w⟨U,hs,q⟩=>by
  cases e with
  |exit i=>
   simp only[A0]at q;simp only[Exit.inBlock];split at q
   ·rename_i e;subst e;simp;exact⟨U,hs,q⟩
   ·rename_i e;simp[e];exact⟨U,hs,q⟩
  |_=>exact⟨U,hs,q⟩)
theorem Tr(h:Q .normal U w):RC P n .skip U w Q:=λ_ ha=>wp_skip ⟨U,ha,h⟩
theorem S4(h:Q .ret U w):RC P n .ret U w Q:=λ_ ha=>wp_ret ⟨U,ha,h⟩
theorem Vr{i:Nat}(h:Q (.exit i) U w):RC P n (.exit i) U w Q:=λ_ ha=>wp_exit ⟨U,ha,h⟩
theorem UH{q:Operand}{b:Bool}(hc:ev U q = .bool b)(ht:b=true->RC P n x U w Q)(hf:b=false->RC P n y U w Q):RC P n (.cond q x y) U w Q:=
 λa ha=>wp_cond_split (t:=b) (by rw[ha.ev];exact hc) (λh=>ht h a ha)<|λh=>hf h a ha
theorem IS{l:List Oper}(h:RL P n l.toArray l U w Q):RC P n (.region id l.toArray false) U w Q:=λa ha=>wp_region_lit<|h a ha
theorem By{ops:Array Oper}(h:Q .normal U w):RL P n ops [] U w Q:=λ_ ha=>⟨U,ha,h⟩
theorem aC(h:RC P n y U w Q):qN P n y Q .normal U w:=h
theorem bH(h:Q .normal U w):A0 id Q .normal U w:=h
theorem H5(h:Q .normal U w):A0 id Q (.exit id) U w:=by grind [A0]
def lx(P:Program)(n:Nat)(fn:Func)(R:Value->World->Prop):jh
 | .normal,U,w| .ret,U,w=>∃v,(∀a,Sl n U a->(results fn a.tmps).run P w = .ok v w)/\R v w
 |_,_,_=>False
def fT(R:Value->World->Prop):Ending->World->Prop:=λe w=>∃v,e = .returned v/\R v w
def OX(l:List Value)(t:Nat):Value:=l.getD t undef
theorem enter{f:FuncId}{fn:Func}{args:List Value}{R:Value->World->Prop}(hf:P.funcs[f]? =some fn)(hb:fn.body=some c)(hn:fn.ntmps=n)(h:RC P n c (OX args) w (lx P n fn R))(hk:args.length<=n:=by exact Nat.le_of_ble_eq_true rfl):Calls P f args.toArray w (fT R):=by
 refine calls_of_wp hf hb<|wp_mono (h _ ⟨rfl,?_,λt=>?_⟩) λe a w⟨U,hs,q⟩=>?_
 ·grind
 ·simp only[OX,Array.getD_eq_getD_getElem?,List.getD_eq_getElem?_getD]
  grind
 ·cases e with
  |normal=>obtain⟨v,hv,hR⟩:=q;exact⟨hs.defers,v,hv a hs,v,rfl,hR⟩
  |ret=>obtain⟨v,hv,hR⟩:=q;exact⟨hs.defers,v,hv a hs,v,rfl,hR⟩
  |_=>exact q.elim
theorem bT{fn:Func}{R:Value->World->Prop}{t:Nat}{v:Value}(h:R v w)(hr:fn.results = #[.tmp t]:=by exact rfl)(hv:U t=v:=by exact rfl):lx P n fn R .ret U w:=
 ⟨v,λa ha=>by rw[results_tmp hr,ha.get,hv],h⟩
theorem lJ{fn:Func}{R:Value->World->Prop}{t u:Nat}{v v':Value}(h:R (.tuple #[v,v']) w)(hr:fn.results = #[.tmp t, .tmp u]:=by exact rfl)(hv:U t=v:=by exact rfl)(hv':U u=v':=by exact rfl):lx P n fn R .ret U w:=
 ⟨_,λa ha=>by rw[results_tmp2 hr,ha.get,ha.get,hv,hv'],h⟩
theorem JW{fn:Func}{R:Value->World->Prop}(h:R (.tuple #[]) w)(hr:fn.results = #[]:=by exact rfl):lx P n fn R .ret U w:=
 ⟨_,λa _=>by rw[results_none hr],h⟩
theorem CF{fn:Func}{R:Value->World->Prop}(h:lx P n fn R .ret U w):lx P n fn R .normal U w:=h
def Wn(ops:Array Oper)(U:Nat->Value):Option (Nat×Bool)->Prop
 |none=>True
 |some (j,b)=>∃t,(ops[j]?).bind (·.dst)=some t/\U t = .bool b
theorem Wn.wanted{ops:Array Oper}{o:Oper}{a:Act}(h:Wn ops U o.guard)(ha:Sl n U a):Region.wanted o (yielded ops a.tmps)=true:=by
 unfold Region.wanted
 cases e:o.guard with
 |none=>rfl
 |some jb=>
  obtain⟨j,b⟩:=jb;rw[e]at h;obtain⟨t,ht,hb⟩:=h;have hg:=ha.get t;rw[hb,Array.getD_eq_getD_getElem?]at hg;have:a.tmps[t]? =some (.bool b):=by
   cases hx:a.tmps[t]? with
   |none=>rw[hx]at hg;cases hg
   |some v=>grind
  grind [yielded]
variable {ops:Array Oper}{rest:List Oper}{d:Nat}{ty:TypeId}{pos:String}{af:Array Edge}{g:Option (Nat×Bool)}{w':World}{v:Value}{op:Op}
theorem TA(hg:Wn ops U g)(hd:Nat.blt d n=true)(hrun:(execOp (ev U) ⟨some d,op,ty,pos,af,g⟩).run P w = .ok (.value v) w')
  (k:RL P n ops rest (fz U d v) w' Q):RL P n ops (⟨some d,op,ty,pos,af,g⟩::rest) U w Q:=by
 intro a ha;unfold wpList;rw[aG<|Wn.wanted (o:=⟨some d,op,ty,pos,af,g⟩) hg ha];refine .inl ?_;unfold Oper.wp;rw[ha.ev,hrun];exact k _<|ha.put hd v
theorem Ur(hg:Wn ops U g)(hrun:(execOp (ev U) ⟨none,op,ty,pos,af,g⟩).run P w = .ok .skip w')
  (k:RL P n ops rest U w' Q):RL P n ops (⟨none,op,ty,pos,af,g⟩::rest) U w Q:=by
 intro a ha;unfold wpList;rw[aG<|Wn.wanted (o:=⟨none,op,ty,pos,af,g⟩) hg ha];refine .inl ?_;unfold Oper.wp;rw[ha.ev,hrun];exact k _<|ha.CE _
theorem UW{j t:Nat}{b:Bool}(ht:(ops[j]?).bind (·.dst)=some t)(hv:U t = .bool (!b)\/U t=undef)(hd:Nat.blt d n=true)
  (k:RL P n ops rest (fz U d undef) w Q):RL P n ops (⟨some d,op,ty,pos,af,some (j,b)⟩::rest) U w Q:=by
 intro a ha;have hno:Region.wanted ⟨some d,op,ty,pos,af,some (j,b)⟩ (yielded ops a.tmps)=false:=by
  have hg:=ha.get t;rw[Array.getD_eq_getD_getElem?]at hg;simp only[Region.wanted,yielded,ht,Option.bind_some]
  cases hx:a.tmps[t]? with
  |none=>rfl
  |some u=>
   rw[hx]at hg;simp at hg;subst hg
   rcases hv with h|h <;> rw[h]
   ·simp
   ·rfl
 unfold wpList;rw[aI (by rw[hno];decide)];exact k _<|ha.put hd _
theorem Ve{f:FuncId}{args:Array Value}(hg:Wn ops U g)(hd:Nat.blt d n=true)
  (hrun:(execOp (ev U) ⟨some d,op,ty,pos,af,g⟩).run P w = .ok (.enter f args) w)
  (k:Calls P f args w (fT λv w'=>RL P n ops rest (fz U d v) w' Q)):RL P n ops (⟨some d,op,ty,pos,af,g⟩::rest) U w Q:=by
 intro a ha;unfold wpList;rw[aG<|Wn.wanted (o:=⟨some d,op,ty,pos,af,g⟩) hg ha];refine .inl ?_;unfold Oper.wp;rw[ha.ev,hrun];refine Calls.mono k λe w'' he=>?_;obtain⟨v,rfl,h⟩:=he;exact h _<|ha.put hd v
theorem Fh{f:FuncId}{fn:Func}{args:Array Value}(hf:P.funcs[f]? =some fn)(hnm:(fn.name== "runtime.NumGoroutine")=false)(hb:fn.body.isNone=false):
  (callFunc f args).run P w = .ok (.enter f args) w:=by
 unfold callFunc program;simp only[Bind.bind,Sem.bind,Sem.run,hf];rw[aI (by rw[hnm];decide),aI (by rw[hb];decide)];rfl
structure gm (P:Program) (f:FuncId):Prop where
 run:∀(args:Array Value)(w:World),(callFunc f args).run P w = .ok (.enter f args) w
theorem Vs{f:FuncId}{args:Array Operand}{ts:Array TypeId}(hg:Wn ops U g)(hd:Nat.blt d n=true)(hf:gm P f)(vs:List Value)
  (hvs:args.toList.map (ev U)=vs) (k:Calls P f vs.toArray w (fT λv w'=>RL P n ops rest (fz U d v) w' Q)):
  RL P n ops (⟨some d, .call ⟨.value<|.func f,args,ts⟩,ty,pos,af,g⟩::rest) U w Q:=by
 have e:args.map (ev U)=vs.toArray:=by grind
 refine Ve (f:=f) (args:=vs.toArray) hg hd ?_ k;simp only[execOp,resolve,bG];simp only[ev,Deferred.ofValue,e,bS,bP,invoke];simpa using hf.run vs.toArray w
theorem Uk{q:Operand}{f:FuncId}{args:Array Operand}{ts:Array TypeId}(cap:List Value)(hf:gm P f)(vs:List Value)(k:Calls P f (vs++cap).toArray w (fT λv w'=>RL P n ops rest (fz U d v) w' Q))(hg:Wn ops U g:=by exact trivial)(hd:Nat.blt d n=true:=by exact rfl)(hq:ev U q = .func (.func f) #[] cap.toArray:=by exact rfl)(hvs:args.toList.map (ev U)=vs:=by exact rfl):
  RL P n ops (⟨some d, .call ⟨.value q,args,ts⟩,ty,pos,af,g⟩::rest) U w Q:=by
 have e:args.map (ev U)=vs.toArray:=by grind
 refine Ve (f:=f) (args:=(vs++cap).toArray) hg hd ?_ k;simp only[execOp,resolve,bG];simp only[hq,Deferred.ofValue,e,bS,bP,invoke];simpa using hf.run (vs++cap).toArray w
theorem hZ{f:FuncId}{args:Array Value}{R R':Value->World->Prop}(h:Calls P f args w (fT R))(k:∀v w',R v w'->R' v w'):Calls P f args w (fT R'):=
 Calls.mono h λ_ w'⟨v,e,hr⟩=>⟨v,e,k v w' hr⟩
end
structure nN (P:Program) (T:TypeId) (ag:Bool) (k:Nat):Prop where
 Mb:∀w,(isAgg T).run P w = .ok ag w
 sz:∀w,(sizeOf T).run P w = .ok k w
structure o5 (P:Program) (T:TypeId) (i k:Nat):Prop where
 run:∀a w,(Instr.fieldAt T (.pointer<|some a) i).run P w = .ok (.pointer<|some<|a.add k) w
structure yI (P:Program) (T e:TypeId) (k:Nat):Prop where
 Ct:P.underlying T=some (.slice e)
 sz:∀w,(sizeOf e).run P w = .ok k w
def cv(c:Bool)(v:Value):Value:=bif c then v else undef
theorem cA{c:Bool}{v:Value}(h:c=true):cv c v=v:=by rw[h];rfl
theorem nB(c:Bool){a b:Bool}(h:c=true):(if a=true then Value.bool true else cv (c&&(a==false)) (.bool b)) = .bool (a||b):=by
 subst h;cases a <;> rfl
theorem fA(c:Bool){a b:Bool}(h:c=true:=by exact rfl):(if a=true then cv (c&&(a==true)) (.bool b)else Value.bool false) = .bool (a&&b):=by
 subst h;cases a <;> rfl
@[reducible] def ku:BinOp->Int->Int->Bool
 | .eql,a,b=>a==b
 | .neq,a,b=>a != b
 | .lss,a,b=>decide (a<b)
 | .leq,a,b=>decide (a<=b)
 | .gtr,a,b=>decide (a>b)
 | .geq,a,b=>decide (a>=b)
 |_,_,_=>false
def BM:BinOp->Bool
 | .eql| .neq| .lss| .leq| .gtr| .geq=>true
 |_=>false
@[reducible] def fH:BinOp->Int->Int->Int
 | .add,a,b=>a+b
 | .sub,a,b=>a - b
 | .mul,a,b=>a*b
 |_,_,_=>0
def NX:BinOp->Bool
 | .add| .sub| .mul=>true
 |_=>false
def eJ.o6(a b:eJ):Bool:=a.dL==b.dL
def eJ.nI(a b:eJ):Bool:=Op.bytesLess a.dL b.dL
@[reducible] def D6:BinOp->eJ->eJ->Bool
 | .eql,a,b=>a.o6 b
 | .neq,a,b=> !a.o6 b
 | .lss,a,b=>a.nI b
 | .leq,a,b=>a.nI b||a.o6 b
 | .gtr,a,b=> !(a.nI b||a.o6 b)
 | .geq,a,b=> !a.nI b
 |_,_,_=>false
section
variable {P:Program}{n:Nat}{U:Nat->Value}{w:World}{Q:jh}{E:World}{V:List HP}
variable {ops:Array Oper}{rest:List Oper}{d:Nat}{ty:TypeId}{pos:String}{af:Array Edge}{g:Option (Nat×Bool)}{v v' u:Value}{x y z:Operand}{T T':TypeId}
theorem SS(v:Value)(hg:Wn ops U g)(k:RL P n ops rest (fz U d v) w Q)(hd:Nat.blt d n=true:=by exact rfl)(hx:ev U x=v:=by exact rfl):
  RL P n ops (⟨some d, .move x,ty,pos,af,g⟩::rest) U w Q:=TA hg hd (by rw[<-hx];rfl) k
theorem Vf(hg:Wn ops U g)(hd:Nat.blt d n=true)(hx:ev U x=v)(k:RL P n ops rest (fz U d v) w Q):
  RL P n ops (⟨some d, .assign x,ty,pos,af,g⟩::rest) U w Q:=TA hg hd (by rw[<-hx];rfl) k
theorem TN{i:Nat}{vs:Array Value}(v:Value)(k:RL P n ops rest (fz U d v) w Q)(hg:Wn ops U g:=by exact trivial)(hd:Nat.blt d n=true:=by exact rfl)(hx:ev U x = .tuple vs:=by exact rfl)(hi:vs[i]? =some v:=by exact rfl):
  RL P n ops (⟨some d, .extract x i,ty,pos,af,g⟩::rest) U w Q:=
 TA hg hd (by grind [execOp,Instr.extract,bG,bS,bP]) k
theorem Tw{b:Bool}(hg:Wn ops U g)(hd:Nat.blt d n=true)(hx:ev U x = .bool b)(hv:(if b=true then ev U y else ev U z)=v)(k:RL P n ops rest (fz U d v) w Q):
  RL P n ops (⟨some d, .pick x y z,ty,pos,af,g⟩::rest) U w Q:=
 TA hg hd (by grind [execOp,asBool,bG,bS,bP]) k
theorem Ty(b:Bool)(k:RL P n ops rest (fz U d<|.bool<|!b) w Q)(hg:Wn ops U g:=by exact trivial)(hd:Nat.blt d n=true:=by exact rfl)(hx:ev U x = .bool b:=by exact rfl):
  RL P n ops (⟨some d, .unOp .not T x,ty,pos,af,g⟩::rest) U w Q:=
 TA hg hd (by grind [execOp,Op.unary,bG,bS,bP]) k
theorem VM{a:Int}{K:IntKind}(hg:Wn ops U g)(hd:Nat.blt d n=true)(hx:ev U x = .int K a)(k:RL P n ops rest (fz U d<|.int K<|K.wrap<|0 - a) w Q):
  RL P n ops (⟨some d, .unOp .neg T x,ty,pos,af,g⟩::rest) U w Q:=
 TA hg hd (by grind [execOp,Op.unary,Op.intArith,bG,bS,bP]) k
theorem Gj{bop:BinOp}{K:IntKind}{a b:Int}(hc:BM bop=true)(w:World):(binOp bop T (.int K a)<|.int K b).run P w = .ok (.bool<|ku bop a b) w:=by
 cases bop <;> first|(cases hc;done)|(simp only[binOp,ne_eq,not_true,if_false,Op.intCmp,bS,ku])
theorem TO{bop:BinOp}{K:IntKind}(a b:Int)(hg:Wn ops U g)(k:RL P n ops rest (fz U d<|.bool<|ku bop a b) w Q)(hd:Nat.blt d n=true:=by exact rfl)(hx:ev U x = .int K a:=by exact rfl)(hy:ev U y = .int K b:=by exact rfl)(hc:BM bop=true:=by exact rfl):RL P n ops (⟨some d, .binOp bop T x y T',ty,pos,af,g⟩::rest) U w Q:=by
 refine TA hg hd ?_ k
 grind [eqGuard,execOp,bG,bP,Gj,bS]
theorem SX{bop:BinOp}{K:IntKind}(a b:Int)(k:RL P n ops rest (fz U d<|.int K<|K.wrap<|fH bop a b) w Q)(hg:Wn ops U g:=by exact trivial)(hd:Nat.blt d n=true:=by exact rfl)(hx:ev U x = .int K a:=by exact rfl)(hy:ev U y = .int K b:=by exact rfl)(hc:NX bop=true:=by exact rfl):RL P n ops (⟨some d, .binOp bop T x y T',ty,pos,af,g⟩::rest) U w Q:=by
 refine TA hg hd ?_ k;have e:(eqGuard bop T x y (.int K a)<|.int K b).run P w = .ok () w:=by simp[eqGuard]
 have e2:(binOp bop T (.int K a)<|.int K b).run P w = .ok (.int K<|K.wrap<|Gk.fH bop a b) w:=by
  cases bop <;> first|(cases hc;done)|(simp only[binOp,ne_eq,not_true,if_false,Op.intArith,bS,Gk.fH])
 grind [execOp,bG,bP,bS]
theorem Uy{bop:BinOp}(hg:Wn ops U g)(hd:Nat.blt d n=true)(hx:ev U x=v)(hy:ev U y=v')(he:∀w,(eqGuard bop T x y v v').run P w = .ok () w)
  (hr:∀w,(binOp bop T v v').run P w = .ok u w) (k:RL P n ops rest (fz U d u) w Q):RL P n ops (⟨some d, .binOp bop T x y T',ty,pos,af,g⟩::rest) U w Q:=by
 refine TA hg hd ?_ k
 simp_all[execOp,bG,bP,bS]
theorem H6(s:eJ):(⟨s.dL.toArray⟩:ByteArray).toList=s.dL:=by rw[ByteArray.toList_eq]
theorem Gl{bop:BinOp}{a b:eJ}(hc:BM bop=true)(w:World):(binOp bop T (str a)<|str b).run P w = .ok (.bool<|D6 bop a b) w:=by
 cases bop <;> first|(cases hc;done)|(simp only[binOp,str,Op.stringOp,H6,bS,D6,eJ.o6,eJ.nI])
theorem Uz{bop:BinOp}(a b:eJ)(hd:Nat.blt d n=true)(hx:ev U x=str a)(hy:ev U y=str b)(hc:BM bop=true)(k:RL P n ops rest (fz U d<|.bool<|D6 bop a b) w Q)(hg:Wn ops U g:=by exact trivial):RL P n ops (⟨some d, .binOp bop T x y T',ty,pos,af,g⟩::rest) U w Q:=by
 refine TA hg hd ?_ k
 grind [eqGuard,execOp,bG,bP,Gl,bS]
theorem Ug{t:TypeId}(s:eJ)(ht:P.underlying t=some .string)(k:RL P n ops rest (fz U d<|.int .i64 (s.dL.length:Nat)) w Q)(hg:Wn ops U g:=by exact trivial)(hd:Nat.blt d n=true:=by exact rfl)(hx:ev U x=str s:=by exact rfl):RL P n ops (⟨some d, .call ⟨.builtin .len,#[x],#[t]⟩,ty,pos,af,g⟩::rest) U w Q:=by
 refine TA hg hd ?_ k;have e:(⟨s.dL.toArray⟩:ByteArray).size=s.dL.length:=rfl;simp[execOp,resolve,hx,invoke,builtin,Builtin.len_,run_underlying ht,goInt,str,e]
theorem UX{t e:TypeId}{a:Option Addr}{m cap:Nat}(hg:Wn ops U g)(hd:Nat.blt d n=true)(hx:ev U x = .slice a m cap)(ht:P.underlying t=some (.slice e))
  (k:RL P n ops rest (fz U d<|.int .i64 (m:Nat)) w Q):RL P n ops (⟨some d, .call ⟨.builtin .len,#[x],#[t]⟩,ty,pos,af,g⟩::rest) U w Q:=by
 refine TA hg hd ?_ k;simp[execOp,resolve,hx,invoke,builtin,Builtin.len_,run_underlying ht,goInt]
theorem UI(s:eJ)(i:Int)(c:UInt8){K:IntKind}(hd:Nat.blt d n=true)(hx:ev U x=str s)(hy:ev U y = .int K i)(ht:P.underlying T=some .string)(hc:(if 0<=i then s.dL[i.toNat]? else none)=some c)(k:RL P n ops rest (fz U d<|.int .u8 (c.toNat:Nat)) w Q)(hg:Wn ops U g:=by exact trivial):
  RL P n ops (⟨some d, .index T x y,ty,pos,af,g⟩::rest) U w Q:=by
 refine TA hg hd ?_ k;have e:(if 0<=i then(⟨s.dL.toArray⟩:ByteArray)[i.toNat]? else none)=some c:=by
  rw[<-hc];split
  ·have:(⟨s.dL.toArray⟩:ByteArray)[i.toNat]? =s.dL.toArray[i.toNat]? :=rfl
   grind
  ·rfl
 simp_all[execOp,Instr.index,asIntOf,run_underlying,str,bG,bS,bP]
theorem BY{j t:Nat}(c:Bool){want:Bool}(b:Bool){op:Op}(v:Value)(ht:(ops[j]?).bind (·.dst)=some t)(hv:U t=cv c (.bool b))(hd:Nat.blt d n=true)(hrun:(c&&(b==want))=true->(execOp (ev U) ⟨some d,op,ty,pos,af,some (j,want)⟩).run P w = .ok (.value v) w)(k:RL P n ops rest (fz U d<|cv (c&&(b==want)) v) w Q):RL P n ops (⟨some d,op,ty,pos,af,some (j,want)⟩::rest) U w Q:=by
 cases hC:(c&&(b==want))with
 |true=>
  rw[hC]at k;have hb:b=want:=by grind
  exact TA (v:=v) ⟨t,ht,by grind [cA]⟩ hd (hrun hC) k
 |false=>
  rw[hC]at k;refine UW ht ?_ hd k;rw[hv]
  cases c with
  |false=>exact .inr rfl
  |true=>left;cases b <;> cases want <;> first|rfl|(cases hC)
theorem cD{C:Bool}{o:Oper}(ho:o.op = .move x:=by exact rfl)(hx:C=true->ev U x=v:=by exact(λ_=>rfl)):C=true->(execOp (ev U) o).run P w = .ok (.value v) w:=
 by simp_all[execOp]
theorem cZ{C:Bool}{o:Oper}(bop:BinOp)(K:IntKind)(a b:Int)(ho:o.op = .binOp bop T x y T')(hx:C=true->ev U x = .int K a)(hy:C=true->ev U y = .int K b)(hc:BM bop=true):
  C=true->(execOp (ev U) o).run P w = .ok (.value<|.bool<|ku bop a b) w:=by grind [eqGuard,execOp,bG,bP,Gj,bS]
theorem NZ{C:Bool}{o:Oper}{bop:BinOp}{K:IntKind}{a b:Int}(ho:o.op = .binOp bop T x y T')(hx:C=true->ev U x = .int K a)(hy:C=true->ev U y = .int K b)(hc:NX bop=true):
  C=true->(execOp (ev U) o).run P w = .ok (.value<|.int K<|K.wrap<|fH bop a b) w:=λh=>by
 have e:(eqGuard bop T x y (.int K a)<|.int K b).run P w = .ok () w:=by unfold eqGuard;cases bop <;> rfl
 have e2:(binOp bop T (.int K a)<|.int K b).run P w = .ok (.int K<|K.wrap<|Gk.fH bop a b) w:=by
  cases bop <;> first|(cases hc;done)|(simp only[binOp,ne_eq,not_true,if_false,Op.intArith,bS,Gk.fH])
 unfold execOp;rw[ho];simp only[hx h,hy h,bG,e,bP,e2,bS]
theorem zG{C:Bool}{o:Oper}(bop:BinOp)(a b:eJ)(ho:o.op = .binOp bop T x y T')(hx:C=true->ev U x=str a)(hy:C=true->ev U y=str b)(hc:BM bop=true):
  C=true->(execOp (ev U) o).run P w = .ok (.value<|.bool<|D6 bop a b) w:=by grind [eqGuard,execOp,bG,bP,Gl,bS]
theorem KN{C:Bool}{o:Oper}{b:Bool}(ho:o.op = .unOp .not T x)(hx:C=true->ev U x = .bool b):C=true->(execOp (ev U) o).run P w = .ok (.value<|.bool<|!b) w:=by grind [execOp,Op.unary,bG,bS,bP]
theorem kh{C:Bool}{o:Oper}(b:Bool)(ho:o.op = .pick x y z)(hx:C=true->ev U x = .bool b)(hv:C=true->(if b=true then ev U y else ev U z)=v):
  C=true->(execOp (ev U) o).run P w = .ok (.value v) w:=by grind [execOp,asBool,bG,bS,bP]
theorem Mi{C:Bool}{o:Oper}{t:TypeId}{s:eJ}(ho:o.op = .call ⟨.builtin .len,#[x],#[t]⟩)(hx:C=true->ev U x=str s)(ht:P.underlying t=some .string):
  C=true->(execOp (ev U) o).run P w = .ok (.value<|.int .i64 (s.dL.length:Nat)) w:=λh=>by
 unfold execOp;rw[ho];have e:(⟨s.dL.toArray⟩:ByteArray).size=s.dL.length:=rfl;simp[resolve,hx h,invoke,builtin,Builtin.len_,run_underlying ht,goInt,str,e]
end
section
variable {α β:Type}[GT α][GT β]{P:Program}{E w:World}{V:List HP}{i:Nat}{v:Value}{x:α}
theorem Holds.yW(h:Holds E w V)(hi:V[i]? =some (rd v x)):∃M hs,Good E w M hs V/\Gk.yW M v x:=
 let⟨M,hs,g⟩:=h
 ⟨M,hs,g,(g.sat i _ hi).1⟩
theorem Holds.slice{l:List α}(h:Holds E w V)(hi:V[i]? =some (rd v l)):∃a cap,v = .slice a l.length cap:=by
 obtain⟨M,hs,g,hr⟩:=h.yW hi;obtain⟨a,m,cap,hv,hm,_⟩:=nM.1 hr
 grind
theorem Holds.dup(i:Nat)(h:Holds E w V)(hi:V[i]? =some (rd v x)):Holds E w (rd v x::V):=
 h.D5 λ_ _ g=>⟨(g.sat i _ hi).1,rfl⟩
theorem Holds.sc(γ:Type)[Sc γ](h:Holds E w V)(y:γ):Holds E w (rd (Sc.toV y) y::V):=h.D5 λ_ _ _=>⟨H4.2 rfl,rfl⟩
theorem Holds.Gm{γ:Type}[Sc γ]{y:γ}(h:Holds E w V)(hi:V[i]? =some (rd v y)):v=Sc.toV y:=by
 obtain⟨M,hs,g,hr⟩:=h.yW hi;exact H4.1 hr
end
section
variable {α β:Type}[GT α][GT β]
variable {P:Program}{n:Nat}{U:Nat->Value}{w:World}{Q:jh}{E:World}{V:List HP}{i:Nat}
variable {ops:Array Oper}{rest:List Oper}{d:Nat}{ty:TypeId}{pos:String}{af:Array Edge}{g:Option (Nat×Bool)}{v:Value}{q r:Operand}{T T' e:TypeId}
variable {x:α}
theorem nO{cs:List Value}{a:Addr}{M:eZ}(hT:nN P T (GT.agg α) (GT.sz α))(ho:GT.ok M cs x)(hat:∀j u,cs[j]? =some u->w.cell? (a.add j)=some u):
  (loadVar T a).run P w = .ok (yV α cs) w:=by
 have hl:=GT.len ho;unfold loadVar yV;simp only[bG,hT.Mb,bP]
 cases e:GT.agg α with
 |true=>
  simp only[if_true,bG,hT.sz,bP,<-hl,run_loadCells_list w a cs hat,bS]
 |false=>
  rw[GT.ag1 e]at hl
  match cs,hl with
  | [c],_=>
   have:=hat 0 c rfl;have ha:a.add 0=a:=rfl
   simp_all
theorem Ta{p:Value}(i:Nat)(x:α)(hw:Holds E w V)(hT:nN P T (GT.agg α) (GT.sz α))(k:∀v,Holds E w (rd v x::V)->RL P n ops rest (fz U d v) w Q)(hg:Wn ops U g:=by exact trivial)(hd:Nat.blt d n=true:=by exact rfl)(hx:ev U q=p:=by exact rfl)(hi:V[i]? =some (pt p x):=by exact rfl):RL P n ops (⟨some d, .load T q,ty,pos,af,g⟩::rest) U w Q:=by
 obtain⟨M,hs,gd⟩:=hw;obtain⟨⟨ad,cs,hv,ho,ha⟩,_⟩:=gd.sat i _ hi;refine TA (v:=yV α cs) hg hd ?_<|k _ ⟨M,_,gd.jq ⟨⟨cs,rfl,ho⟩,rfl⟩⟩
 simp only[execOp,hx,hv,Instr.loadAt,Instr.sureAddr,bG,bS,bP,nO hT ho<|λj u hu=>wY gd.im<|ha j u hu]
theorem Te{γ:Type}[Sc γ](y:γ){p:Value}(i:Nat)(hw:Holds E w V)(hT:nN P T false 1)(k:RL P n ops rest (fz U d<|Sc.toV y) w Q)(hg:Wn ops U g:=by exact trivial)(hd:Nat.blt d n=true:=by exact rfl)(hx:ev U q=p:=by exact rfl)(hi:V[i]? =some (pt p y):=by exact rfl):RL P n ops (⟨some d, .load T q,ty,pos,af,g⟩::rest) U w Q:=by
 refine Ta (hg:=hg) (hd:=hd) (hx:=hx) (hi:=hi) _ y hw hT λv h=>?_;rw[h.Gm (i:=0) rfl];exact k
theorem Tn{p:Value}{j m:Nat}{f:α->β}(i:Nat)(hw:Holds E w V)(hi:V[i]? =some (pt p x))(hf:o5 P T j m)(hF:Fd m f)(k:∀v,Holds E w (pt v (f x)::V)->RL P n ops rest (fz U d v) w Q)(hg:Wn ops U g:=by exact trivial)(hd:Nat.blt d n=true:=by exact rfl)(hx:ev U q=p:=by exact rfl):RL P n ops (⟨some d, .fieldAddr T q j,ty,pos,af,g⟩::rest) U w Q:=by
 obtain⟨M,hs,gd⟩:=hw;obtain⟨⟨ad,cs,hv,ho,ha⟩,_⟩:=gd.sat i _ hi;refine TA (v:= .pointer<|some<|ad.add m) hg hd ?_<|k _ ⟨M,_,gd.jq ⟨⟨ad.add m,_,rfl,hF M cs x ho,ha.sub m<|GT.sz β⟩,rfl⟩⟩
 simp only[execOp,hx,hv,bG,hf.run,bP,bS]
theorem SV{l:List α}{sv:Value}{K:IntKind}{j:Int}(i:Nat)(hw:Holds E w V)(hT:yI P T e (GT.sz α))(hj:(if 0<=j then l[j.toNat]? else none)=some x)(k:∀v,Holds E w (pt v x::V)->RL P n ops rest (fz U d v) w Q)(hg:Wn ops U g:=by exact trivial)(hd:Nat.blt d n=true:=by exact rfl)(hx:ev U q=sv:=by exact rfl)(hy:ev U r = .int K j:=by exact rfl)(hi:V[i]? =some (rd sv l):=by exact rfl):RL P n ops (⟨some d, .indexAddr T q r,ty,pos,af,g⟩::rest) U w Q:=by
 obtain⟨M,hs,gd⟩:=hw;obtain⟨a,m,cap,hv,hm,hc,hmx,hel⟩:=nM.1 (gd.sat i _ hi).1;have h0:0<=j:=by
  grind
 rw[aG h0]at hj;obtain⟨ad,cs,hae,ho,ha⟩:=hel _ _ hj;have hlt:j<m:=by grind
 refine TA (v:= .pointer<|some<|ad.add<|j.toNat*GT.sz α) hg hd ?_<|k _ ⟨M,_,gd.jq ⟨⟨_,cs,rfl,ho,ha⟩,rfl⟩⟩
 simp only[execOp,hx,hv,hae,hy,Instr.indexAt,asIntOf,bG,bS,bP,run_underlying hT.Ct,hT.sz,h0,hlt,and_self,if_true]
theorem Ts{b m:Nat}{f:α->β}(i:Nat)(hw:Holds E w V)(hi:V[i]? =some (bx e b x))(hF:Fd m f)(hT:nN P T (GT.agg β) (GT.sz β))(k:∀v,Holds E w (rd v (f x)::V)->RL P n ops rest (fz U d v) w Q)(hg:Wn ops U g:=by exact trivial)(hd:Nat.blt d n=true:=by exact rfl)(hx:ev U q = .pointer (some ⟨b,m,none⟩):=by exact rfl):RL P n ops (⟨some d, .load T q,ty,pos,af,g⟩::rest) U w Q:=by
 obtain⟨M,hs,gd⟩:=hw;obtain⟨cs,ho,hh⟩:=gd.sat i _ hi;have hb:=gd.le i b _ (dS hi) (by rw[hh];exact eE b _);have ho':=hF M cs x ho;refine TA (v:=yV β<|(cs.drop m).take<|GT.sz β) hg hd ?_<|k _ ⟨M,_,gd.jq ⟨⟨_,rfl,ho'⟩,rfl⟩⟩
 simp only[execOp,hx,Instr.loadAt,Instr.sureAddr,bG,bS,bP];rw[nO hT ho'<|λj u hu=>?_];rfl;rw[Addr.add_lit,cell_of_row w b _ _ _ _ hb]
 grind
theorem SW{γ:Type}[Sc γ]{b m:Nat}{f:α->γ}(i:Nat)(hw:Holds E w V)(hi:V[i]? =some (bx e b x))(hF:Fd m f)(hT:nN P T false 1)(k:RL P n ops rest (fz U d<|Sc.toV<|f x) w Q)(hg:Wn ops U g:=by exact trivial)(hd:Nat.blt d n=true:=by exact rfl)(hx:ev U q = .pointer (some ⟨b,m,none⟩):=by exact rfl):RL P n ops (⟨some d, .load T q,ty,pos,af,g⟩::rest) U w Q:=by
 refine Ts (hg:=hg) (hd:=hd) (hx:=hx) (f:=f) _ hw hi hF hT λv h=>?_;rw[h.Gm (i:=0) rfl];exact k
theorem AT{b o j m:Nat}(hx:ev U q = .pointer (some ⟨b,o,none⟩))(hf:o5 P T j m)(k:RL P n ops rest (fz U d<|.pointer<|some ⟨b,o+m,none⟩) w Q)(hg:Wn ops U g:=by exact trivial)(hd:Nat.blt d n=true:=by exact rfl):RL P n ops (⟨some d, .fieldAddr T q j,ty,pos,af,g⟩::rest) U w Q:=by
 refine TA hg hd ?_ k;simp only[execOp,hx,bG,hf.run,bP,bS,Addr.add_lit]
theorem Tq(i:Nat)(v:Value)(hw:Holds E w V)(hi:V[i]? =some (rd v x))(k:∀b w',Holds E w' (bx T b x::V)->RL P n ops rest (fz U d<|.pointer<|some ⟨b,0,none⟩) w' Q)(hg:Wn ops U g:=by exact trivial)(hd:Nat.blt d n=true:=by exact rfl)(hx:ev U q=v:=by exact rfl):RL P n ops (⟨some d, .box T q,ty,pos,af,g⟩::rest) U w Q:=by
 obtain⟨M,hs,gd,hr⟩:=hw.yW hi;refine TA (w':=w.alloc<|.cells v.cells T) hg hd ?_<|k w.heap.size _<|hw.alloc _ λM' hs' g'=>⟨v.cells.toList,?_,by simp⟩
 ·simp only[execOp,hx,Instr.box,newVar,newRow,newObj,bG,bS];rfl
 ·exact((g'.sat i _ hi).1).cells
def raw(e:TypeId)(b k:Nat):HP:=⟨λ_ h=>∃cs:List Value,cs.length=k/\h=Gk.one b (.cells cs.toArray e (0,0)),λ_ h=>h⟩
theorem TG{m:Nat}(hw:Holds E w V)(hz:∃z,(∀w,(zeroValue T).run P w = .ok z w)/\z.cells.size=m)(k:∀b w',Holds E w' (raw T b m::V)->RL P n ops rest (fz U d<|.pointer<|some ⟨b,0,none⟩) w' Q)(hg:Wn ops U g:=by exact trivial)(hd:Nat.blt d n=true:=by exact rfl):RL P n ops (⟨some d, .alloc T,ty,pos,af,g⟩::rest) U w Q:=by
 obtain⟨z,hz,hs⟩:=hz;refine TA (w':=w.alloc<|.cells z.cells T) hg hd ?_<|k w.heap.size _<|hw.alloc _ λ_ _ _=>⟨z.cells.toList,by omega,by simp⟩
 simp only[execOp,Instr.alloc,newVar,newRow,newObj,bG,bS,hz,bP];rfl
theorem oy{m:Nat}{b o:Nat}{cur:Array Value}(hsz:∀w,(sizeOf T).run P w = .ok m w)(hv:v.cells.size=m)(h1:∀u∈v.cells.toList,u.oneCell'=true)
  (hb:w.heap[b]? =some (.cells cur e (0,0))) (ho:o+m<=cur.size):
  (storeVar T ⟨b,o,none⟩ v).run P w = .ok () (w.setRow b (cur.toList.take o++v.cells.toList++cur.toList.drop (o+m)).toArray):=by
 have:=run_storeCells_at P b o e v.cells.toList 0 cur w hb (by grind) h1
 grind [Array.length_toList,storeVar,bG,bP,not_true]
theorem mw{M:eZ}{hs:Nat->eZ}{P':HP}{b:Nat}{cur new:Array Value}{Pi:HP}(gd:Good E w M hs V)(hi:V[i]? =some Pi)(hh:hs i=Gk.one b (.cells cur e (0,0)))
  (hp:P'.ok M (Gk.one b<|.cells new e (0,0))):Holds E (w.setRow b new) (V.set i P'):=by
 have hb:=gd.le i b _ (dS hi) (by rw[hh];exact eE b _);refine⟨M,_,gd.update (dS hi) (Gk.one b<|.cells new e (0,0)) hp rfl rfl rfl (λb' o' hb'=>?_) (λb' o' hb'=>?_)<|λb' hb' _=>?_⟩
 ·grind [l7,setRow_heap]
 ·obtain⟨rfl,rfl⟩:=l7 hb';simp_all[eE]
 ·rw[hh]at hb'
  grind [setRow_other,eE]
theorem TB{m b:Nat}(i:Nat)(hw:Holds E w V)(j:Nat)(hj:V[j]? =some (rd v x))(hT:nN P T (GT.agg α) (GT.sz α))(k:∀w',Holds E w' (V.set i<|bx e b x)->RL P n ops rest U w' Q)(hg:Wn ops U g:=by exact trivial)(hx:ev U q = .pointer (some ⟨b,0,none⟩):=by exact rfl)(hy:ev U r=v:=by exact rfl)(hi:V[i]? =some (raw e b m):=by exact rfl)(hm:m=GT.sz α:=by exact rfl):RL P n ops (⟨none, .store T q r,ty,pos,af,g⟩::rest) U w Q:=by
 obtain⟨M,hs,gd⟩:=hw;obtain⟨cs,hl,hh⟩:=gd.sat i _ hi;have hr:=(gd.sat j _ hj).1;have hb:=gd.le i b _ (dS hi) (by rw[hh];exact eE b _);have hc:v.cells.size=GT.sz α:=by rw[<-GT.len hr.cells];simp
 have hrun:=oy (P:=P) (v:=v) (o:=0) hT.sz hc (GT.one hr.cells) hb (by simp[hl,hm]);refine Ur (w':=w.setRow b v.cells) hg ?_<|k _<|mw gd hi hh ⟨v.cells.toList,hr.cells,by simp⟩
 have hd:List.drop (GT.sz α) cs= []:=List.drop_eq_nil_of_le (by omega);simp only[jE,List.take_zero,List.nil_append,hd,qm,Array.toArray_toList]at hrun
 grind [execOp,Instr.storeAt,Instr.sureAddr,bG,bS,bP]
theorem Vt{b:Nat}{x':α}(hg:Wn ops U g)(hw:Holds E w V)(hx:ev U q = .pointer (some ⟨b,0,none⟩))(hy:ev U r=v)(hi:V[i]? =some (bx e b x')){j:Nat}(hj:V[j]? =some (rd v x))
  (hT:nN P T (GT.agg α) (GT.sz α)) (k:∀w',Holds E w' (V.set i<|bx e b x)->RL P n ops rest U w' Q):RL P n ops (⟨none, .store T q r,ty,pos,af,g⟩::rest) U w Q:=by
 obtain⟨M,hs,gd⟩:=hw;obtain⟨cs,ho',hh⟩:=gd.sat i _ hi;have hl:=GT.len ho';have hr:=(gd.sat j _ hj).1;have hb:=gd.le i b _ (dS hi) (by rw[hh];exact eE b _);have hc:v.cells.size=GT.sz α:=by rw[<-GT.len hr.cells];simp
 have hrun:=oy (P:=P) (v:=v) (o:=0) hT.sz hc (GT.one hr.cells) hb (by simp[hl]);refine Ur (w':=w.setRow b v.cells) hg ?_<|k _<|mw gd hi hh ⟨v.cells.toList,hr.cells,by simp⟩
 have hd:List.drop (GT.sz α) cs= []:=List.drop_eq_nil_of_le (by omega);simp only[jE,List.take_zero,List.nil_append,hd,qm,Array.toArray_toList]at hrun
 grind [execOp,Instr.storeAt,Instr.sureAddr,bG,bS,bP]
theorem UJ{b m:Nat}{y:β}{f:α->β->α}(i:Nat)(hw:Holds E w V)(hx:ev U q = .pointer (some ⟨b,m,none⟩))(hy:ev U r=v)(hi:V[i]? =some (bx e b x))(j:Nat)(hj:V[j]? =some (rd v y))(hF:Fs m β f)(hT:nN P T (GT.agg β) (GT.sz β))(k:∀w',Holds E w' (V.set i<|bx e b<|f x y)->RL P n ops rest U w' Q)(hg:Wn ops U g:=by exact trivial)(hm:m+GT.sz β<=GT.sz α:=by decide):
  RL P n ops (⟨none, .store T q r,ty,pos,af,g⟩::rest) U w Q:=by
 obtain⟨M,hs,gd⟩:=hw;obtain⟨cs,ho',hh⟩:=gd.sat i _ hi;have hl:=GT.len ho';have hr:=(gd.sat j _ hj).1;have hb:=gd.le i b _ (dS hi) (by rw[hh];exact eE b _);have hc:v.cells.size=GT.sz β:=by rw[<-GT.len hr.cells];simp
 have hrun:=oy (P:=P) (v:=v) (o:=m) hT.sz hc (GT.one hr.cells) hb (by simp[hl,hm]);refine Ur hg ?_<|k _<|mw (new:=(cs.take m++v.cells.toList++cs.drop (m+GT.sz β)).toArray) gd hi hh ⟨_,hF M cs v.cells.toList x y ho' hr.cells,rfl⟩
 grind [execOp,Instr.storeAt,Instr.sureAddr,bG,bS,bP]
end
inductive Fl (S R:Type)where
 |nx (s:S)
 |br (s:S)
 |rt (r:R)
inductive Fo (S R:Type)where
 |go (s:S)
 |rt (r:R)
section
variable {S R:Type}
def Fi(body:Nat->S->Option (Fl S R)):Nat->Nat->S->Option (Fo S R)
 | 0,_,s=>some (.go s)
 |m+1,k,s=>(body k s).bind λ
  | .nx s'=>Fi body m (k+1) s'
  | .br s'=>some (.go s')
  | .rt r=>some (.rt r)
def tL(m:Nat)(body:Nat->S->Option (Fl S R))(s:S):Option (Fo S R):=if m<=4611686018427387904 then Fi body m 0 s else none
def H7(body:Nat->S->Option S):Nat->Nat->S->Option S
 | 0,_,s=>some s
 |m+1,k,s=>(body k s).bind λs'=>H7 body m (k+1) s'
def mx(m:Nat)(body:Nat->S->Option S)(s:S):Option S:=if m<=4611686018427387904 then H7 body m 0 s else none
def jg(body:S->Option (Fl S R)):Nat->S->Option (Fo S R)
 | 0,_=>none
 |N+1,s=>(body s).bind λ
  | .nx s'=>jg body N s'
  | .br s'=>some (.go s')
  | .rt r=>some (.rt r)
theorem bd{α β:Type}{o:Option α}{f:α->Option β}{r:β}(h:o.bind f=some r):∃x,o=some x/\f x=some r:=by
 cases o with
 |none=>cases h
 |some x=>grind
end
section
variable {S R:Type}{P:Program}{n:Nat}{U:Nat->Value}{w:World}{Q:jh}{c x y:Code}{b0:Nat}
def QY(b0:Nat)(J:S->(Nat->Value)->World->Prop)(K:R->(Nat->Value)->World->Prop):Fo S R->jh
 | .go s=>λex U w=>ex = .exit b0/\J s U w
 | .rt r=>λex U w=>ex = .ret/\K r U w
def KP(I:Nat->S->(Nat->Value)->World->Prop)(b0:Nat)(J:S->(Nat->Value)->World->Prop)(K:R->(Nat->Value)->World->Prop)(k:Nat):Fl S R->jh
 | .nx s=>λex U w=>ex = .normal/\I (k+1) s U w
 | .br s=>λex U w=>ex = .exit b0/\J s U w
 | .rt r=>λex U w=>ex = .ret/\K r U w
def H8(I:S->(Nat->Value)->World->Prop)(b0:Nat)(J:S->(Nat->Value)->World->Prop)(K:R->(Nat->Value)->World->Prop):Fl S R->jh
 | .nx s=>λex U w=>ex = .normal/\I s U w
 | .br s=>λex U w=>ex = .exit b0/\J s U w
 | .rt r=>λex U w=>ex = .ret/\K r U w
theorem KQ{a:Act}{Q:Exit->Act->World->Prop}(I:Nat->Act->World->Prop){m:Nat}(h0:I m a w)
  (round:∀m a w,I m a w->c.wp P (Exit.then (λa' w'=>∃m',m'<m/\I m' a' w') Q) a w):(Code.loop c).wp P Q a w:=by
 intro b k cs;have key:∀m a w,I m a w->∃e a' w',Q e a' w'/\Arrives P (lone (b.at a<|.code c:: .inLoop c::k) cs w) b k cs e a' w':=by
  intro m
  induction m using Nat.strongRecOn with
  |_ m ih=>
   intro a w hI;obtain⟨e,a₁,w₁,hq,harr⟩:=round m a w hI b (.inLoop c::k) cs
   cases e with
   |normal=>
    obtain⟨m',hlt,hI₁⟩:=hq;obtain⟨e₂,a₂,w₂,hq₂,harr₂⟩:=ih m' hlt a₁ w₁ hI₁;exact⟨e₂,a₂,w₂,hq₂, .of_steps (Steps.trans harr<|.one step_inLoop) harr₂⟩
   |exit id=>exact⟨_,a₁,w₁,hq, .pass (x:= .inLoop c) rfl (λ_ _=> .inl (by simp)) harr⟩
   |goto l=>exact⟨_,a₁,w₁,hq, .pass (x:= .inLoop c) rfl (λ_ _=> .inl (by simp)) harr⟩
   |ret=>exact⟨_,a₁,w₁,hq, .pass (x:= .inLoop c) rfl (λ_ _=> .inl (by simp)) harr⟩
   |panic ch=>exact⟨_,a₁,w₁,hq, .pass (x:= .inLoop c) rfl (λ_ _=> .inl (by simp)) harr⟩
   |outgrown=>exact⟨_,a₁,w₁,hq, .pass (x:= .inLoop c) rfl (λ_ _=> .inl (by simp)) harr⟩
 obtain⟨e,a',w',hq,harr⟩:=key _ a w h0;exact⟨e,a',w',hq, .of_steps (.one step_loop) harr⟩
theorem Vg(I:Nat->(Nat->Value)->World->Prop){m:Nat}(h0:I m U w)
  (step:∀m U w,I m U w->RC P n c U w (λex σ' w'=>(ex = .normal/\∃m',m'<m/\I m' σ' w')\/(ex≠ .normal/\Q ex σ' w'))):RC P n (.loop c) U w Q:=by
 intro a ha;refine KQ (λm a w=>∃U,Sl n U a/\I m U w) ⟨U,ha,h0⟩ ?_;rintro m a w⟨U,hs,hI⟩;refine wp_mono (step m U w hI a hs) λe a' w'⟨σ',hs',q⟩=>?_
 rcases q with⟨rfl,m',hm,hI'⟩|⟨hne,hq⟩
 ·exact⟨m',hm,σ',hs',hI'⟩
 ·cases e with
  |normal=>grind
  |_=>exact⟨σ',hs',hq⟩
theorem Vh(I:Nat->S->(Nat->Value)->World->Prop)(J:S->(Nat->Value)->World->Prop)(K:R->(Nat->Value)->World->Prop)
  {body:Nat->S->Option (Fl S R)} {m:Nat} {s0:S} {out:Fo S R} (hN:tL m body s0=some out) (h0:I 0 s0 U w)
  (stop:m<=4611686018427387904->∀s U w,I m s U w->RC P n c U w (QY (R:=R) b0 J K<|.go s))
  (step:m<=4611686018427387904->∀k s fl U w,k<m->I k s U w->body k s=some fl->RC P n c U w (KP I b0 J K k fl))
  (hrt:∀r U w,out = .rt r->K r U w->Q .ret U w) (hgo:∀s U w,out = .go s->J s U w->Q .normal U w):RC P n (.block b0<|.loop c) U w Q:=by
 unfold tL at hN;split at hN
 ·rename_i hm;refine TF<|Vg (λj U w=>(∃k s,k+j=m+1/\k<=m/\I k s U w/\Fi body (m - k) k s=some out)) (m:=m+1) ⟨0,s0,by omega,by omega,h0,hN⟩ ?_
  rintro j U w⟨k,s,hk,hkm,hI,hr⟩
  by_cases e:k<m
  ·obtain⟨j',hj'⟩:∃j',m - k=j'+1:=⟨m - k - 1,by omega⟩;rw[hj']at hr;obtain⟨fl,hb,hr⟩:=bd hr;refine RC.mono (step hm k s fl U w e hI hb) λex σ' w' q=>?_
   cases fl with
   |nx s'=>
    obtain⟨rfl,hI'⟩:=q;exact .inl ⟨rfl,j - 1,by omega,k+1,s',by omega,by omega,hI',by grind⟩
   |br s'=>
    obtain⟨rfl,hJ⟩:=q
    grind [A0]
   |rt r=>
    obtain⟨rfl,hK⟩:=q;injection hr with hr
    exact .inr ⟨by simp,hrt r σ' w' hr.symm hK⟩
  ·obtain rfl:k=m:=by omega
   rw[Nat.sub_self]at hr;injection hr with hr
   refine RC.mono (stop hm s U w hI) λex σ' w' q=>?_;obtain⟨rfl,hJ⟩:=q
   grind [A0]
 ·cases hN
theorem Ev{body:Nat->S->Option S}:∀(m k:Nat)(s s':S),H7 body m k s=some s'->Fi (R:=Empty) (λk s=>(body k s).map Fl.nx) m k s=some (.go s')
 | 0,_,s,s',h=>by injection h with h;subst h;rfl
 |m+1,k,s,s',h=>by
  obtain⟨s1,hb,hr⟩:=bd h;unfold Fi;simp only[hb,Option.map_some,Option.bind_some];exact Ev m (k+1) s1 s' hr
theorem UK(I:Nat->S->(Nat->Value)->World->Prop)(J:S->(Nat->Value)->World->Prop)
  {body:Nat->S->Option S} {m:Nat} {s0 out:S} (hN:mx m body s0=some out) (h0:I 0 s0 U w)
  (stop:m<=4611686018427387904->∀s U w,I m s U w->RC P n c U w (λex U w=>ex = .exit b0/\J s U w))
  (step:m<=4611686018427387904->∀k s s' U w,k<m->I k s U w->body k s=some s'->RC P n c U w (λex U w=>ex = .normal/\I (k+1) s' U w))
  (hgo:∀U w,J out U w->Q .normal U w):RC P n (.block b0<|.loop c) U w Q:=by
 have hN':tL (R:=Empty) m (λk s=>(body k s).map Fl.nx) s0=some (.go out):=by
  grind [mx,tL,Ev]
 refine Vh I J (λr _ _=>r.elim) hN' h0 (λhm s U w hI=>stop hm s U w hI) (λhm k s fl U w hk hI hb=>?_) (λr _ _ _ _=>r.elim)<|λs U w e hJ=>?_
 ·cases hx:body k s with
  |none=>grind
  |some s'=>
   rw[hx]at hb;injection hb with hb
   subst hb;exact step hm k s s' U w hk hI hx
 grind
theorem Uo(I:S->(Nat->Value)->World->Prop)(J:S->(Nat->Value)->World->Prop)(K:R->(Nat->Value)->World->Prop)
  {body:S->Option (Fl S R)} {N:Nat} {s0:S} {out:Fo S R} (hN:jg body N s0=some out) (h0:I s0 U w)
  (step:∀s fl U w,I s U w->body s=some fl->RC P n c U w (H8 I b0 J K fl))
  (hrt:∀r U w,out = .rt r->K r U w->Q .ret U w) (hgo:∀s U w,out = .go s->J s U w->Q .normal U w):RC P n (.block b0<|.loop c) U w Q:=by
 refine TF<|Vg (λj U w=>∃s,I s U w/\jg body j s=some out) (m:=N) ⟨s0,h0,hN⟩ ?_
 rintro j U w⟨s,hI,hr⟩
 cases j with
 |zero=>cases hr
 |succ j=>
  obtain⟨fl,hb,hr⟩:=bd hr;refine RC.mono (step s fl U w hI hb) λex σ' w' q=>?_
  cases fl with
  |nx s'=>obtain⟨rfl,hI'⟩:=q;grind
  |br s'=>
   obtain⟨rfl,hJ⟩:=q
   grind [A0]
  |rt r=>
   obtain⟨rfl,hK⟩:=q;injection hr with hr
   exact .inr ⟨by simp,hrt r σ' w' hr.symm hK⟩
theorem VN(J:S->(Nat->Value)->World->Prop)(s:S)(hx:RC P n x U w (λex U w=>ex = .normal/\J s U w))(hy:∀U w,J s U w->RC P n y U w Q):RC P n (.seq x y) U w Q:=
 IN (RC.mono hx λex U w⟨e,hJ⟩=>by subst e;exact hy U w hJ)
theorem VO(J:S->(Nat->Value)->World->Prop)(K:R->(Nat->Value)->World->Prop){out:Fo S R}
  (hx:RC P n x U w (match out with| .go s=>λex U w=>ex = .normal/\J s U w| .rt r=>λex U w=>ex = .ret/\K r U w))
  (hy:∀s U w,out = .go s->J s U w->RC P n y U w Q) (hr:∀r U w,out = .rt r->K r U w->Q .ret U w):RC P n (.seq x y) U w Q:=
 IN (RC.mono hx λex U w q=>by
  cases out with
  |go s=>obtain⟨rfl,hJ⟩:=q;exact hy s U w rfl hJ
  |rt r=>obtain⟨rfl,hK⟩:=q;exact hr r U w rfl hK)
theorem fP{x:Int}(h1: -9223372036854775808<=x)(h2:x<9223372036854775808):IntKind.i64.wrap x=x:=by
 have e1:(2:Int) ^ (IntKind.i64.bits)=18446744073709551616:=by decide
 have e2:(2:Int) ^ (IntKind.i64.bits - 1)=9223372036854775808:=by decide
 have e3:IntKind.i64.signed=true:=by decide
 grind [wrap]
theorem JX{k m:Nat}(h:k<m)(hm:m<=4611686018427387904):IntKind.i64.wrap ((k:Int)+1)=((k+1:Nat):Int):=by
 grind [fP]
end
section
variable {α β:Type}[GT α][GT β]{M:eZ}
theorem Cells.nil:Cells M [] ([]:List α):=⟨by simp,λi x h=>by simp at h⟩
theorem Cells.append{xs ys:List Value}{l l':List α}(h:Cells M xs l)(h':Cells M ys l'):Cells M (xs++ys) (l++l'):=by
 refine⟨by rw[eL,eL,h.1,h'.1,Nat.add_mul],λi x hx=>?_⟩
 by_cases hi:i<l.length
 ·rw[jB hi]at hx;have hb:i*GT.sz α+GT.sz α<=xs.length:=by
   rw[h.1]
   calc i*GT.sz α+GT.sz α=(i+1)*GT.sz α:=by rw[Nat.add_mul,Nat.one_mul]
    _<=l.length*GT.sz α:=Nat.mul_le_mul_right _ hi
  rw[List.drop_append_of_le_length (by omega),List.take_append_of_le_length (by grind)];exact h.2 i x hx
 ·rw[jC (by omega)]at hx;have:=h'.2 _ x hx;obtain⟨k,rfl⟩:∃k,i=l.length+k:=⟨i - l.length,by omega⟩;rw[Nat.add_sub_cancel_left]at this;rw[Nat.add_mul,<-h.1,List.drop_length_add_append];exact this
theorem Cells.one{cs:List Value}{x:α}(h:GT.ok M cs x):Cells M cs [x]:=
 ⟨by grind [GT.len],λi y hy=>by
  cases i with
  |zero=>grind [mz,GT.len]
  |succ i=>simp at hy⟩
theorem Cells.QZ{xs:List Value}{l:List α}(h:Cells M xs l):∀u∈xs,u.oneCell'=true:=by
 intro u hu;obtain⟨j,hj,rfl⟩:=List.getElem_of_mem hu;have hp:=GT.pos (α:=α);have hq:j / GT.sz α<l.length:=by rw[Nat.div_lt_iff_lt_mul hp,<-h.1];exact hj
 refine GT.one (h.2 (j / GT.sz α) l[j / GT.sz α]<|aP hq) _ ?_;have hm:j % GT.sz α<GT.sz α:=Nat.mod_lt _ hp;have hd:j / GT.sz α*GT.sz α+j % GT.sz α=j:=by simp[Nat.mul_comm,Nat.div_add_mod]
 refine fQ (i:=j % GT.sz α) ?_
 grind
theorem Gn{ad:Addr}{m cap:Nat}{l:List α}(h:qo M (.slice (some ad) m cap) l):∃xs,Cells M xs l/\At M ad xs:=by
 obtain⟨a,n',cap',hv,hn,_,_,hel⟩:=h;injection hv with h1 h2 h3
 subst h1;have key:∀k,k<=l.length->∃xs,Cells M xs (l.take k)/\At M ad xs:=by
  intro k
  induction k with
  |zero=>exact λ_=>⟨[],by simp[Cells.nil],λj u hu=>by simp at hu⟩
  |succ k ih=>
   intro hk;obtain⟨xs,hc,ha⟩:=ih (by omega);have hx:l[k]? =some l[k]:=aP (by omega);obtain⟨ad',cs,e,ho,hat⟩:=hel k _ hx;injection e with e
   subst e;refine⟨xs++cs,?_,λj u hu=>?_⟩
   ·rw[eA (by omega)];exact hc.append<|Cells.one ho
   ·have hl:xs.length=k*GT.sz α:=by rw[hc.1,dI];congr 1;omega
    by_cases hj:j<xs.length
    ·rw[jB hj]at hu;exact ha j u hu
    ·rw[jC (by omega)]at hu;have:=hat _ u hu
     grind [add_add,GT.sz]
 have:=key l.length<|cH _
 grind
theorem At.nil(a:Addr):At M a []:=λj u hu=>by simp at hu
theorem zI{g o cap:Nat}{cur:Array Value}{e:TypeId}{fr:Nat×Nat}{xs:List Value}{l:List α}(hM:M g=some (.cells cur e fr))(hc:Cells M xs l)(hx:(cur.toList.drop o).take (l.length*GT.sz α)=xs)
  (hl:l.length<=cap) (hm:cap<=maxLen):qo M (.slice (some ⟨g,o,none⟩) l.length cap) l:=by
 refine⟨_,_,_,rfl,rfl,hl,hm,λi x hix=>⟨_,_,rfl,hc.2 i x hix,λj u hu=>?_⟩⟩
 grind [Addr.add_lit,zF,Option.isSome_none,Nat.add_assoc]
end
section
variable {α β:Type}[GT α][GT β]{P:Program}{E w:World}{V:List HP}{i:Nat}{v:Value}{l:List α}{e:TypeId}
theorem cQ(e:TypeId)(M:eZ):yX (α:=α) e M tJ (.slice none 0 0) []:= .inl ⟨rfl,rfl,rfl⟩
theorem Holds.cQ(h:Holds E w V)(α:Type)[GT α](e:TypeId):Holds E w (own (α:=α) e (.slice none 0 0) []::V):=h.D5 λM _ _=>Gk.cQ e M
theorem Holds.freeze(i:Nat)(h:Holds E w V)(hi:V[i]? =some (own e v l):=by exact rfl):Holds E w (V.set i<|rd v l):=by
 obtain⟨M,hs,g⟩:=h;have hlt:=dS hi;have ho:=g.sat i _ hi;refine⟨_,_,g.freeze (P':=rd v l) hlt ⟨nM.2 ?_,rfl⟩⟩
 rcases ho with⟨rfl,rfl,_⟩|⟨b,o,cap,cur,xs,rfl,h2,h3,h4,h5,h6,h7⟩
 ·exact⟨none,0,0,rfl,rfl,cH _,by simp[maxLen],λi x hx=>by simp at hx⟩
 ·refine zI (M:=tK M<|hs i) (e:=e) (fr:=(0,0)) ?_ (h7.mono<|xW _ _) h6 h2 h3;have hb:hs i b=some (.cells cur e (0,0)):=by simp_all[eE]
  simp[tK,g.dm i b _ hlt hb,hb]
theorem Holds.m0(h:Holds E w V)(hi:V[i]? =some (own e v l)):∃a cap,v = .slice a l.length cap:=by
 obtain⟨M,hs,g⟩:=h
 rcases g.sat i _ hi with⟨rfl,rfl,_⟩|⟨b,o,cap,cur,xs,rfl,_⟩
 ·simp
 simp
theorem KR{M h:eZ}(ho:yX e M h v l):v.oneCell'=true:=by
 rcases ho with⟨rfl,_⟩|⟨b,o,cap,cur,xs,rfl,_⟩ <;> rfl
end
def app{α:Type}(bytes:Nat)(l ys:List α):Option (List α):=if(l.length+ys.length)*bytes<=140737488355328 then some (l++ys)else none
structure wV (P:Program) (t e:TypeId) (k bytes:Nat):Prop where
 Ct:P.underlying t=some (.slice e)
 inf:∃i z,P.info? e=some i/\i.zero=some z/\i.size=k/\i.bytes=bytes/\z.cells.size=k
 pos:0<bytes
section
variable {α:Type}[GT α]{P:Program}{E w:World}{V:List HP}{i j:Nat}{v vy:Value}{l ys l':List α}{e t ty:TypeId}{bytes:Nat}
theorem A1(i:TypeInfo)(ht:P.underlying t=some (.slice e))(hi:P.info? e=some i)
  (g o sLen sCap:Nat) (cur:Array Value) (hg:w.heap[g]? =some (.cells cur e (0,0)))
  (a:Addr) (m c:Nat) (news:List Value) (hl:news.length=m*i.size) (hnews:∀j u,news[j]? =some u->w.cell? (a.add j)=some u) (h1:∀u∈news,u.oneCell'=true)
  (hroom:sLen+m<=sCap) (hfit:o+sLen*i.size+news.length<=cur.size):
  (Builtin.append_ #[t,t] ty #[.slice (some ⟨g,o,none⟩) sLen sCap, .slice (some a) m c]).run P w =
   .ok (.slice (some ⟨g,o,none⟩) (sLen+m) sCap) (w.setRow g (cur.toList.take (o+sLen*i.size)++news++cur.toList.drop (o+sLen*i.size+news.length)).toArray):=by
 have hf:=run_firstCells_some (P:=P) w i.size m a m c news hl hnews;have hst:=run_storeCells_at P g (o+sLen*i.size) e news 0 cur w hg (by omega) h1;simp only[Nat.add_zero]at hst;simp[Builtin.append_,run_underlying ht,sizeOf,typeInfo,hi,Builtin.lenOf,hroom,hf,Addr.add_lit,hst]
theorem wx(i:TypeInfo)(ht:P.underlying t=some (.slice e))(hi:P.info? e=some i)(a:Option Addr)(sLen sCap c:Nat)(hc:sLen<=sCap):
  (Builtin.append_ #[t,t] ty #[.slice a sLen sCap, .slice none 0 c]).run P w = .ok (.slice a sLen sCap) w:=by
 cases a <;> simp[Builtin.append_,run_underlying ht,sizeOf,typeInfo,hi,Builtin.lenOf,Builtin.firstCells,hc,storeCells]
theorem zJ{V:List HP}{i:Nat}{Pr:HP}(h:V[i]? =some Pr):V.set i Pr=V:=by
 apply List.ext_getElem?
 grind
theorem Mj(hw:Holds E w V)(hi:V[i]? =some (own e v l))(hj:V[j]? =some (rd vy ys))(hT:wV P t e (GT.sz α) bytes)(hb:app bytes l ys=some l'):
  ∃v' w',(Builtin.append_ #[t,t] ty #[v,vy]).run P w = .ok v' w'/\Holds E w' (V.set i<|own e v' l'):=by
 obtain⟨inf,z,hinf,hz,hsz,hby,hzs⟩:=hT.inf;unfold app at hb;split at hb
 case isFalse=>cases hb
 rename_i hroom;injection hb with hb
 subst hb;obtain⟨M,hs,g⟩:=hw;have hlt:=dS hi;have ho:=g.sat i _ hi;have hle63:l.length+ys.length<=140737488355328:=Nat.le_trans (Nat.le_mul_of_pos_right _ hT.pos) hroom;obtain⟨a,m,c,hvy,hm,hmc,hcm,hel⟩:=nM.1 (g.sat j _ hj).1;subst hvy;have hcase:(ys= []/\a=none)\/∃ad news,a=some ad/\Cells M news ys/\At M ad news:=by
  cases a with
  |none=>
   left;refine⟨?_,rfl⟩
   cases ys with
   |nil=>rfl
   |cons y r=>obtain⟨ad,cs,h,_⟩:=hel 0 y rfl;cases h
  |some ad=>
   right;obtain⟨xs,h1,h2⟩:=Gn (l:=ys) (ad:=ad) (m:=m) (cap:=c) ⟨_,_,_,rfl,hm,hmc,hcm,hel⟩
   grind
 rcases hcase with⟨rfl,rfl⟩|⟨ad,news,rfl,hcn,hat⟩
 ·
  simp only[List.length_nil]at hm;subst hm;rw[qm];have ox:V.set i (own e v l)=V:=zJ hi;refine⟨v,w,?_,by rw[ox];exact⟨M,hs,g⟩⟩
  rcases ho with⟨rfl,rfl,_⟩|⟨b,o,cap,cur,xs,rfl,h2,h3,h4,h5,h6,h7⟩
  ·exact wx inf hT.Ct hinf none 0 0 c<|cH _
  ·exact wx inf hT.Ct hinf _ _ cap c h2
 ·have hnews:∀j u,news[j]? =some u->w.cell? (ad.add j)=some u:=λj u hu=>wY g.im<|hat j u hu
  have hnl:news.length=m*inf.size:=by rw[hcn.1,hm,hsz]
  have h1:=hcn.QZ;have grown:∀(olds:List Value)(N:Nat),Cells M olds l->N=l.length+m->∀(old:Nat),
    Holds E (w.drew.alloc<|.cells (olds.toArray++news.toArray++Builtin.zeroCells z.cells (grownCap w N old e - N)) e)
     (V.set i<|own e (.slice (some ⟨w.heap.size,0,none⟩) N<|grownCap w N old e)<|l++ys):=by
   intro olds N hol hN old;have hge:=grownCap_ge w N old e;have hcm':grownCap w N old e<=maxLen:=grownCap_le_maxLen w N old e (by grind [maxLen]);have hNl:N=(l++ys).length:=by rw[eL,hN,hm]
   have hca:=hol.append hcn;refine⟨M,_,g.update (w':=w.drew.alloc _) hlt (Gk.one w.heap.size<|.cells (olds.toArray++news.toArray++Builtin.zeroCells z.cells (grownCap w N old e - N)) e (0,0)) (.inr ⟨w.heap.size,0,grownCap w N old e,_,olds++news,by rw[<-hNl],by omega,hcm',rfl,?_,?_,hca⟩) rfl rfl rfl (λb o' hb=>?_) (λb o' hb=>?_)<|λb _ hb=>?_⟩
   ·simp only[Array.size_append,List.size_toArray,size_zeroCells,hzs,jE];refine Nat.le_of_eq<|Eq.symm ?_
    rw[<-eL,hca.1,<-hNl,<-Nat.add_mul];congr 1;omega
   ·simp only[Array.toList_append,List.drop_zero];rw[<-hca.1];exact List.take_left
   ·obtain⟨rfl,rfl⟩:=l7 hb;exact heap_alloc_new w.drew _
   ·obtain⟨rfl,rfl⟩:=l7 hb;exact .inr<|cH _
   ·exact yH w.drew _ b hb
  rcases ho with⟨rfl,rfl,_⟩|⟨b,o,cap,cur,xs,rfl,h2,h3,h4,h5,h6,h7⟩
  ·by_cases hm0:m=0
   ·subst hm0;have hy:ys= []:=List.eq_nil_of_length_eq_zero hm.symm;subst hy;have ox:V.set i (own e (.slice none 0 0) ([]:List α))=V:=zJ hi;refine⟨.slice none 0 0,w,?_,by rw[qm,ox];exact⟨M,hs,g⟩⟩;have hf:=run_firstCells_some (P:=P) w inf.size 0 ad 0 c [] (by simp) (λj u hu=>by simp at hu);simp[Builtin.append_,run_underlying hT.Ct,sizeOf,typeInfo,hinf,Builtin.lenOf,hf]
   ·have hr:=run_append_nil (P:=P) w t ty e inf z hT.Ct hinf hz ad m c news hnl hnews (by omega) (by omega) (by grind);have:=grown [] m Cells.nil (by simp) 0
    grind
  ·have hb:=g.le i b _ hlt (by rw[h4];exact eE b _);have hxl:xs.length=l.length*GT.sz α:=h7.1
   by_cases hfit:l.length+m<=cap
   ·have hcapm:(l.length+m)*GT.sz α<=cap*GT.sz α:=Nat.mul_le_mul_right _ hfit;rw[Nat.add_mul]at hcapm;have hr:=A1 (P:=P) (ty:=ty) inf hT.Ct hinf b o l.length cap cur hb ad m c news hnl hnews h1 hfit (by grind);refine⟨_,_,hr,?_⟩;have:=mw (P':=own e (.slice (some ⟨b,o,none⟩) (l.length+m) cap)<|l++ys) (new:=(cur.toList.take (o+l.length*inf.size)++news++cur.toList.drop (o+l.length*inf.size+news.length)).toArray) g hi h4
     (.inr ⟨b,o,cap,_,xs++news,by rw[eL,hm],by rw[eL,<-hm];exact hfit,h3,rfl,?_,?_,h7.append hcn⟩)
    ·exact this
    ·simp only[List.size_toArray,eL,dI,l3,Array.length_toList,hnl,hsz];omega
    ·rw[eL,Nat.add_mul,<-hm];have e1:(cur.toList.take<|o+l.length*inf.size).length=o+l.length*GT.sz α:=by
      have e0:cur.toList.length=cur.size:=rfl;rw[dI,e0,hsz];omega
     have e2:(cur.toList.take<|o+l.length*inf.size).drop o=xs:=by
      rw[hsz,List.drop_take,Nat.add_sub_cancel_left];exact h6
     simp only[py];rw[List.drop_append_of_le_length (by omega),e2,<-py];have:l.length*GT.sz α+m*GT.sz α=(xs++news).length:=by rw[eL,hxl,hnl,hsz]
     rw[this];exact List.take_left
   ·have holds:∀j u,xs[j]? =some u->w.cell? ((⟨b,o,none⟩:Addr).add j)=some u:=λj u hu=>by
     rw[Addr.add_lit,cell_of_row w b _ _ _ _ hb,<-Array.getElem?_toList];rw[<-h6,jo]at hu;split at hu
     ·rw[lZ]at hu;exact hu
     ·cases hu
    have hr:=run_append_grow (P:=P) w t ty e inf z hT.Ct hinf hz ⟨b,o,none⟩ l.length cap xs (by rw[hxl,hsz]) holds ad m c news hnl hnews (by omega) (by omega)
     (growslice_fits (by omega) (by rw[hby];rw[hm];exact hroom))
    exact⟨_,_,hr,grown xs _ h7 rfl cap⟩
end
section
variable {α:Type}[GT α]{P:Program}{n:Nat}{U:Nat->Value}{w:World}{Q:jh}{E:World}{V:List HP}{i j:Nat}
variable {ops:Array Oper}{rest:List Oper}{d:Nat}{ty t e:TypeId}{pos:String}{af:Array Edge}{g:Option (Nat×Bool)}{v vy:Value}{q r:Operand}
variable {x:α}{l ys l':List α}{bytes:Nat}
theorem TH(i j:Nat)(hw:Holds E w V)(hT:wV P t e (GT.sz α) bytes)(hb:Gk.app bytes l ys=some l')(k:∀v' w',Holds E w' (V.set i<|own e v' l')->RL P n ops rest (fz U d v') w' Q)(hg:Wn ops U g:=by exact trivial)(hd:Nat.blt d n=true:=by exact rfl)(hx:ev U q=v:=by exact rfl)(hy:ev U r=vy:=by exact rfl)(hi:V[i]? =some (own e v l):=by exact rfl)(hj:V[j]? =some (rd vy ys):=by exact rfl):
  RL P n ops (⟨some d, .call ⟨.builtin .append,#[q,r],#[t,t]⟩,ty,pos,af,g⟩::rest) U w Q:=by
 obtain⟨v',w',hr,hw'⟩:=Mj (P:=P) (ty:=ty) hw hi hj hT hb;refine TA hg hd ?_<|k v' w' hw'
 grind [execOp,resolve,invoke,builtin,bG,bS,bP]
theorem SY(i:Nat)(l:List α)(hw:Holds E w V)(ht:P.underlying t=some (.slice e))(k:RL P n ops rest (fz U d<|.int .i64 (l.length:Nat)) w Q)(hg:Wn ops U g:=by exact trivial)(hd:Nat.blt d n=true:=by exact rfl)(hx:ev U q=v:=by exact rfl)(hi:V[i]? =some (rd v l):=by exact rfl):RL P n ops (⟨some d, .call ⟨.builtin .len,#[q],#[t]⟩,ty,pos,af,g⟩::rest) U w Q:=by
 obtain⟨a,cap,rfl⟩:=hw.slice hi
 grind [UX]
theorem TV{e':TypeId}(hg:Wn ops U g)(hd:Nat.blt d n=true)(hw:Holds E w V)(hx:ev U q=v)(hi:V[i]? =some (own e' v l))(ht:P.underlying t=some (.slice e))
  (k:RL P n ops rest (fz U d<|.int .i64 (l.length:Nat)) w Q):RL P n ops (⟨some d, .call ⟨.builtin .len,#[q],#[t]⟩,ty,pos,af,g⟩::rest) U w Q:=by
 obtain⟨a,cap,rfl⟩:=hw.m0 hi
 grind [UX]
end
def cV(M:eZ)(place:Nat->Option (Nat×Nat)){α:Type}[GT α](cells:Array Value)(parts:List (Nat×Value))(y:α):Prop:=
 ∃cells',Instr.fill place cells parts=some cells'/\GT.ok M cells'.toList y
section
variable {α β:Type}[GT α][GT β]{M:eZ}{place:Nat->Option (Nat×Nat)}{cells:Array Value}{parts:List (Nat×Value)}{x y:α}{v:Value}{z:β}
theorem cV.nil(h:GT.ok M cells.toList x):cV M place cells [] x:=⟨cells,rfl,h⟩
theorem H9(vs:List Value):∀(cells:Array Value)(o:Nat),o+vs.length<=cells.size->
  ((vs.toArray.zipIdx).foldl (λcs(c,j)=>cs.setIfInBounds (o+j) c) cells).toList=cells.toList.take o++vs++cells.toList.drop (o+vs.length):=by
 intro cells o h;have key:∀(vs:List Value)(k:Nat)(cells:Array Value),o+k+vs.length<=cells.size->
   ((vs.zipIdx k).foldl (λcs(p:Value×Nat)=>cs.setIfInBounds (o+p.2) p.1) cells).toList=cells.toList.take (o+k)++vs++cells.toList.drop (o+k+vs.length):=by
  intro vs
  induction vs with
  |nil=>intro k cells _;simp
  |cons u vs ih=>
   intro k cells h;simp only[fq]at h;rw[List.zipIdx_cons,List.foldl_cons,ih (k+1) _ (by simp;omega)];simp only[Array.toList_setIfInBounds,fq];have hk:o+k<cells.toList.length:=by simp;omega
   rw[show o+(k+1)=(o+k)+1 by omega,eA (by grind),List.take_set_of_le<|cH _,List.drop_set_of_lt (by omega)];simp only[List.getElem_set_self,py,List.cons_append,List.nil_append];congr 4;omega
 grind
theorem cV.cons{i m:Nat}{f:α->β->α}(hx:GT.ok M cells.toList x)(hF:Fs m β f)(hz:yW M v z)(h:∀c,GT.ok M c.toList (f x z)->cV M place c parts y)(hp:place i=some (m,GT.sz β):=by exact rfl)(hm:m+GT.sz β<=GT.sz α:=by decide):cV M place cells ((i,v)::parts) y:=by
 have hc:v.cells.size=GT.sz β:=by rw[<-GT.len hz.cells];simp
 have hl:cells.size=GT.sz α:=by rw[<-GT.len hx];simp
 have hs:=H9 v.cells.toList cells m (by grind);simp only[Array.toArray_toList,Array.length_toList,hc]at hs;obtain⟨c',h1,h2⟩:=h (v.cells.zipIdx.foldl (λcs(c,j)=>cs.setIfInBounds (m+j) c) cells) (by rw[hs];exact hF M _ _ x z hx hz.cells);refine⟨c',?_,h2⟩
 grind [Instr.fill]
end
structure yY (P:Program) (T:TypeId) (places:List (Nat×Nat)) (z:Array Value):Prop where
 run:∀parts w,(Instr.build T parts).run P w=match Instr.fill (places.toArray[·]?) z parts.toList with|some cs=> .ok (.agg cs) w|none=> .halt (.stuck "build: no such field, or a part of the wrong size") w
section
variable {α:Type}[GT α]{P:Program}{n:Nat}{U:Nat->Value}{w:World}{Q:jh}{E:World}{V:List HP}{i j:Nat}
variable {ops:Array Oper}{rest:List Oper}{d:Nat}{T ty t e:TypeId}{pos:String}{af:Array Edge}{g:Option (Nat×Bool)}{v vy:Value}{q r:Operand}
variable {y:α}{l:List α}{bytes:Nat}
theorem TX{parts:Array (Nat×Operand)}{places:List (Nat×Nat)}{z:Array Value}(y:α)(hg:Wn ops U g)(hd:Nat.blt d n=true)(hw:Holds E w V)(vs:List (Nat×Value))(hvs:parts.toList.map (λp=>(p.1,ev U p.2))=vs)(hT:yY P T places z)(ha:GT.agg α=true)(hf:∀M hs,Good E w M hs V->cV M (places.toArray[·]?) z vs y)(k:∀v,Holds E w (rd v y::V)->RL P n ops rest (fz U d v) w Q):RL P n ops (⟨some d, .build T parts,ty,pos,af,g⟩::rest) U w Q:=by
 obtain⟨M,hs,gd⟩:=hw;obtain⟨cs,h1,h2⟩:=hf M hs gd;have e1:parts.map (λ(i,x)=>(i,ev U x))=vs.toArray:=by grind
 refine TA (v:= .agg cs) hg hd ?_<|k _ ⟨M,_,gd.jq ⟨⟨cs.toList,by simp[yV,ha],h2⟩,rfl⟩⟩
 simp only[execOp,bG];rw[e1,hT.run]
 simp_all
end
def ui:List (Nat×Value)->(Nat->Value)->Nat->Value
 | [],O=>O
 |(d,v)::l,O=>fz (ui l O) d v
def agree(U:Nat->Value):List (Nat×Value)->Prop
 | []=>True
 |(d,v)::l=>U d=v/\agree U l
theorem agree.ui{U:Nat->Value}{l:List (Nat×Value)}(h:agree U l):∃O,U=Gk.ui l O:=by
 refine⟨U,?_⟩
 induction l with
 |nil=>rfl
 |cons p l ih=>
  obtain⟨d,v⟩:=p;obtain⟨h1,h2⟩:=h;have:=ih h2;funext t;show U t=fz (Gk.ui l U) d v t;unfold fz
  cases e:Nat.beq t d with
  |true=>grind [gG]
  |false=>rw[<-this];rfl
def idx{α:Type}(l:List α)(i:Int):Option α:=if 0<=i then l[i.toNat]? else none
def Ia(s:eJ)(i:Int):Option UInt8:=if 0<=i then s.dL[i.toNat]? else none
def Fo.cs{S R β:Type}(o:Fo S R)(f:S->β)(g:R->β):β:=match o with| .go s=>f s| .rt r=>g r
section
variable {P:Program}{n:Nat}{U:Nat->Value}{w:World}{Q:jh}{x y c:Code}{S:Type}
theorem S8(J:S->(Nat->Value)->World->Prop)(s:S)(hx:RC P n x U w (λex U w=>ex = .normal/\J s U w))(hy:∀U w,J s U w->Q .normal U w):RC P n x U w Q:=
 by grind [RC.mono]
theorem Mk{i:Nat}(h:Q (.exit i) U w):qN P n y Q (.exit i) U w:=h
theorem bE(h:Q .ret U w):qN P n y Q .ret U w:=h
theorem N0{i id:Nat}(hne:i≠id)(h:Q (.exit i) U w):A0 id Q (.exit i) U w:=by grind [A0]
theorem jM{id:Nat}(h:Q .ret U w):A0 id Q .ret U w:=h
end
section
variable {α β:Type}[GT α][GT β]{P:Program}{E w:World}{V:List HP}{i:Nat}{v:Value}{x:α}
theorem Holds.vH(h:Holds E w V)(α:Type)[GT α]:Holds E w (rd (.slice none 0 0) ([]:List α)::V):=
 h.D5 λ_ _ _=>⟨nM.2 ⟨none,0,0,rfl,rfl,cH _,by simp[maxLen],λi x hx=>by simp at hx⟩,rfl⟩
theorem Holds.iD{e:TypeId}{b:Nat}(h:Holds E w V)(hi:V[i]? =some (bx e b x)):Holds E w (V.set i<|pt (.pointer<|some ⟨b,0,none⟩) x):=by
 obtain⟨M,hs,g⟩:=h;have hlt:=dS hi;obtain⟨cs,ho,hh⟩:=g.sat i _ hi;have hb:hs i b=some (.cells cs.toArray e (0,0)):=by simp_all[eE]
 refine⟨_,_,g.freeze (P':=pt _ x) hlt ⟨⟨⟨b,0,none⟩,cs,rfl,GT.mono (xW _ _) ho,λj u hu=>?_⟩,rfl⟩⟩;rw[Addr.add_lit];simp only[zF,tK,g.dm i b _ hlt hb,hb]
 grind
theorem Fd.comp{γ:Type}[GT γ]{k k':Nat}{f:α->β}(f':β->γ)(h:Fd k f)(h':Fd k' f')(hk:k'+GT.sz γ<=GT.sz β:=by decide):Fd (k+k') (λx=>f'<|f x):=by
 intro M cs x ho;have h1:=h' M _ _<|h M cs x ho
 grind [List.drop_take,List.drop_drop,Nat.min_eq_left]
end
section
variable {α β:Type}[GT α][GT β]{P:Program}{n:Nat}{U:Nat->Value}{w:World}{Q:jh}{E:World}{V:List HP}{i j:Nat}
variable {ops:Array Oper}{rest:List Oper}{d:Nat}{ty t e T:TypeId}{pos:String}{af:Array Edge}{g:Option (Nat×Bool)}{v vy:Value}{q r:Operand}
variable {x:α}
theorem Ml{fn:Func}{R:Value->World->Prop}{t' b:Nat}(i:Nat)(hr:fn.results = #[.cell t' T])(hw:Holds E w V)(hp:U t' = .pointer (some ⟨b,0,none⟩))(hi:V[i]? =some (bx e b x))(hT:nN P T (GT.agg α) (GT.sz α))(h:∀v,Holds E w (rd v x::V)->R v w):lx P n fn R .ret U w:=by
 obtain⟨M,hs,gd⟩:=hw;obtain⟨cs,ho,hh⟩:=gd.sat i _ hi;have hb:=gd.le i b _ (dS hi) (by rw[hh];exact eE b _);refine⟨yV α cs,λa ha=>?_,h _ ⟨M,_,gd.jq ⟨⟨cs,rfl,ho⟩,rfl⟩⟩⟩;have hl:(loadVar T ⟨b,0,none⟩).run P w = .ok (yV α cs) w:=nO hT ho λj u hu=>by
  rw[Addr.add_lit,cell_of_row w b _ _ _ _ hb];grind
 simp[results,hr,ha.get,hp,asAddr,hl]
theorem zK{fn:Func}{R:Value->World->Prop}{t' u b:Nat}{v':Value}(i:Nat)(hw:Holds E w V)(hT:nN P T (GT.agg α) (GT.sz α))(h:∀v,Holds E w (rd v x::V)->R (.tuple #[v,v']) w)(hr:fn.results = #[.cell t' T, .tmp u]:=by exact rfl)(hp:U t' = .pointer (some ⟨b,0,none⟩):=by exact rfl)(hi:V[i]? =some (bx e b x):=by exact rfl)(hv':U u=v':=by exact rfl):lx P n fn R .ret U w:=by
 obtain⟨M,hs,gd⟩:=hw;obtain⟨cs,ho,hh⟩:=gd.sat i _ hi;have hb:=gd.le i b _ (dS hi) (by rw[hh];exact eE b _);refine⟨_,λa ha=>?_,h _ ⟨M,_,gd.jq ⟨⟨cs,rfl,ho⟩,rfl⟩⟩⟩;have hl:(loadVar T ⟨b,0,none⟩).run P w = .ok (yV α cs) w:=nO hT ho λj u hu=>by
  rw[Addr.add_lit,cell_of_row w b _ _ _ _ hb];grind
 simp[results,hr,ha.get,hp,hv',asAddr,hl]
theorem Gp{b m:Nat}{o:Oper}{f:α->β}(ho:o.op = .load T q)(hw:Holds E w V)(hx:ev U q = .pointer (some ⟨b,m,none⟩))(hi:V[i]? =some (bx e b x))(hF:Fd m f)(hT:nN P T (GT.agg β) (GT.sz β)):
  ∃v,(execOp (ev U) o).run P w = .ok (.value v) w/\Holds E w (rd v (f x)::V):=by
 obtain⟨M,hs,gd⟩:=hw;obtain⟨cs,ho2,hh⟩:=gd.sat i _ hi;have hb:=gd.le i b _ (dS hi) (by rw[hh];exact eE b _);have ho':=hF M cs x ho2;refine⟨yV β<|(cs.drop m).take<|GT.sz β,?_,⟨M,_,gd.jq ⟨⟨_,rfl,ho'⟩,rfl⟩⟩⟩;have hl:(loadVar T ⟨b,m,none⟩).run P w = .ok (yV β<|(cs.drop m).take<|GT.sz β) w:=nO hT ho' λj u hu=>by
  rw[Addr.add_lit,cell_of_row w b _ _ _ _ hb]
  grind
 grind [execOp,Instr.loadAt,Instr.sureAddr,bG,bS,bP]
theorem bU{γ:Type}[Sc γ]{b m:Nat}{o:Oper}{f:α->γ}{C:Bool}(i:Nat)(ho:o.op = .load T q)(hw:Holds E w V)(hx:C=true->ev U q = .pointer (some ⟨b,m,none⟩))(hi:V[i]? =some (bx e b x))(hF:Fd m f)(hT:nN P T false 1):
  C=true->(execOp (ev U) o).run P w = .ok (.value<|Sc.toV<|f x) w:=λh=>by
 obtain⟨v,h1,h2⟩:=Gp (f:=f) ho hw (hx h) hi hF hT;rw[h1,h2.Gm (i:=0) rfl]
theorem dB{b o' j m:Nat}{o:Oper}{C:Bool}(hf:o5 P T j m)(ho:o.op = .fieldAddr T q j:=by exact rfl)(hx:C=true->ev U q = .pointer (some ⟨b,o',none⟩):=by exact(λ_=>rfl)):
  C=true->(execOp (ev U) o).run P w = .ok (.value<|.pointer<|some ⟨b,o'+m,none⟩) w:=λh=>by
 unfold execOp;rw[ho];simp only[hx h,bG,hf.run,bP,bS,Addr.add_lit]
theorem Vi{K K':IntKind}(a:Int){s s':TypeId}(hg:Wn ops U g)(hd:Nat.blt d n=true)(hx:ev U q = .int K a)(hs:∃D,P.underlying s=some D)(ht:P.underlying s'=some (.int K'))(k:RL P n ops rest (fz U d<|.int K'<|K'.wrap a) w Q):RL P n ops (⟨some d, .convert s s' q,ty,pos,af,g⟩::rest) U w Q:=by
 obtain⟨D,hD⟩:=hs;refine TA hg hd ?_ k;have:(convert s s'<|.int K a).run P w = .ok (.int K'<|K'.wrap a) w:=by
  unfold convert;simp only[bG,run_underlying hD,run_underlying ht,bP];rfl
 grind [execOp,bG,bP,bS]
theorem CG{vs:List Value}{m:Nat}(hu:P.underlying t=some (.slice e))(hz:∃z,(∀w,(zeroValue e).run P w = .ok z w)/\z.cells.size=m)(hs:∀w,(sizeOf e).run P w = .ok m w)(hm:0<m)
  (hlen:vs.length*m<=16777216) (hvs:∀v∈vs,v.cells.size=m) (w:World):
  (Instr.buildSlice t vs.length (vs.zipIdx.map λp=>(p.2,p.1)).toArray).run P w =
   .ok (.slice (some ⟨w.heap.size,0,none⟩) vs.length vs.length) (w.alloc<|.cells (vs.flatMap λv=>v.cells.toList).toArray e):=by
 obtain⟨z,hz,hzs⟩:=hz;have key:∀(us:List Value)(k:Nat)(cells:Array Value),cells.size=(k+us.length)*m->(∀v∈us,v.cells.size=m)->
   ∃c',Instr.fill (λi=>some (i*m,m)) cells ((us.zipIdx k).map λp=>(p.2,p.1))=some c'/\c'.toList=cells.toList.take (k*m)++us.flatMap λv=>v.cells.toList:=by
  intro us
  induction us with
  |nil=>intro k cells hc _;exact⟨cells,rfl,by grind [mz]⟩
  |cons u us ih=>
   intro k cells hc hu';have hcu:=hu' u (by simp);simp only[fq]at hc;have hkm:k*m+m<=cells.size:=by
    rw[hc,show(k+(us.length+1))=(k+1)+us.length by omega,Nat.add_mul,Nat.add_mul,Nat.one_mul];omega
   have hsp:=H9 u.cells.toList cells (k*m) (by simp[hcu,hkm]);simp only[Array.toArray_toList,Array.length_toList,hcu]at hsp;have hsz:(u.cells.zipIdx.foldl (λcs(c,j)=>cs.setIfInBounds (k*m+j) c) cells).size=(k+1+us.length)*m:=by
    have:=congrArg List.length hsp;simp only[Array.length_toList,eL,dI,l3,hcu]at this;rw[this,Nat.min_eq_left (by omega)];have:(k+1+us.length)*m=cells.size:=by rw[hc];congr 1;omega
    omega
   obtain⟨c',h1,h2⟩:=ih (k+1) _ hsz<|λv hv=>hu' v (by simp[hv])
   refine⟨c',?_,?_⟩
   ·rw[List.zipIdx_cons,eY];simp only[Instr.fill];rw[aI (by grind)];exact h1
   ·rw[h2,hsp,List.flatMap_cons];have e1:(cells.toList.take (k*m)++u.cells.toList).length=(k+1)*m:=by
     rw[eL,dI,Array.length_toList,Array.length_toList,hcu,Nat.min_eq_left (by omega),Nat.add_mul,Nat.one_mul]
    rw[<-e1,List.take_left,py]
 have h0:(Array.map (λi=>z.cells[i % z.cells.size]!)<|Array.range<|vs.length*m).size=(0+vs.length)*m:=by simp
 obtain⟨c',h1,h2⟩:=key vs 0 _ h0 hvs;simp only[Nat.zero_mul,List.take_zero,List.nil_append]at h2;have hc':c'=(vs.flatMap λv=>v.cells.toList).toArray:=by rw[<-h2]
 subst hc';unfold Instr.buildSlice;simp only[bG,run_underlying hu,bP,hs];rw[aI (by omega)]
 by_cases hv:vs.length*m=0
 ·have:vs= []:=by
   grind [Nat.mul_eq_zero,List.eq_nil_of_length_eq_zero]
  subst this;have e0:Array.range 0 = #[]:=rfl;simp[Instr.fill,newRow,newObj,Sem.run,e0]
 simp_all[aI,bG,bP,bS,newRow,newObj,Sem.run]
def Gq{α:Type}[GT α](M:eZ):List Value->List α->Prop
 | [],[]=>True
 |v::vs,x::l=>yW M v x/\Gq M vs l
 |_,_=>False
theorem Gq.spec{M:eZ}:∀{vs:List Value}{l:List α},Gq M vs l->vs.length=l.length/\(∀v∈vs,v.cells.size=GT.sz α)/\Cells M (vs.flatMap λv=>v.cells.toList) l
 | [],[],_=>⟨rfl,λ_ h=>by simp at h,Cells.nil⟩
 |v::vs,x::l,h=>by
  obtain⟨h1,h2⟩:=h;obtain⟨a,b,c⟩:=Gq.spec h2;refine⟨by simp[a],λu hu=>?_,?_⟩
  ·rcases eF.1 hu with rfl|hu
   ·rw[<-GT.len h1.cells];simp
   ·exact b u hu
  ·rw[List.flatMap_cons];exact(Cells.one h1.cells).append c
 | [],_::_,h=>h.elim
 |_::_,[],h=>h.elim
structure Ew (P:Program) (e:TypeId) (m:Nat):Prop where
 z:∃z,(∀w,(zeroValue e).run P w = .ok z w)/\z.cells.size=m
 sz:∀w,(sizeOf e).run P w = .ok m w
theorem TC{m:Nat}{parts:Array (Nat×Operand)}(l:List α)(hw:Holds E w V)(vs:List Value)(hT:yI P t e (GT.sz α))(hz:Ew P e (GT.sz α))(hel:∀M hs,Good E w M hs V->Gq M vs l)(k:∀v w',Holds E w' (own e v l::V)->RL P n ops rest (fz U d v) w' Q)(hg:Wn ops U g:=by exact trivial)(hd:Nat.blt d n=true:=by exact rfl)(hparts:parts.toList.map (λp=>(p.1,ev U p.2))=vs.zipIdx.map λp=>(p.2,p.1):=by exact rfl)(hl:m=vs.length:=by exact rfl)(hm:Nat.ble (m*GT.sz α) 16777216=true:=by exact rfl):RL P n ops (⟨some d, .buildSlice t m parts,ty,pos,af,g⟩::rest) U w Q:=by
 subst hl;have hm':=Nat.ble_eq▸hm;obtain⟨M0,hs0,gd0⟩:=hw;obtain⟨hlen,hsz,hcells⟩:=(hel M0 hs0 gd0).spec;have hle:vs.length<=vs.length*GT.sz α:=Nat.le_mul_of_pos_right _ GT.pos;have hrun:=CG (P:=P) hT.Ct hz.z hT.sz GT.pos hm' hsz w;refine TA (v:= .slice (some ⟨w.heap.size,0,none⟩) vs.length vs.length) (w':=w.alloc<|.cells (vs.flatMap λv=>v.cells.toList).toArray e) hg hd ?_<|k _ _<|Holds.alloc ⟨M0,hs0,gd0⟩ _ λM hs gd=>?_
 ·have e1:parts.map (λ(i,x)=>(i,ev U x))=(vs.zipIdx.map λp=>(p.2,p.1)).toArray:=by grind
  simp_all[execOp,bG]
 ·obtain⟨_,_,hc⟩:=(hel M hs gd).spec;refine .inr ⟨w.heap.size,0,vs.length,_,_,by rw[hlen],by omega,by grind [maxLen],rfl,?_,?_,hc⟩
  ·simp only[jE,List.size_toArray,hc.1,hlen];exact cH _
  ·simp only[List.drop_zero];rw[<-hc.1];exact fG
end
section
variable {α β ρ:Type}[GT α][GT β]{P:Program}{E:World}{V Γ':List HP}{fv:Value}
def Mc(P:Program)(E:World)(V:List HP)(fv:Value)(φ:α->Option ρ)(toV:ρ->Value):Prop:=
 ∃f cap,fv = .func (.func f) #[] (List.toArray cap)/\gm P f/\∀(w:World)(Γl:List HP)(v:Value)(x:α)(r:ρ)(i:Nat),
  Holds E w (Γl++V)->(Γl++V)[i]? =some (rd v x)->φ x=some r->Calls P f ([v]++cap).toArray w (fT λu w'=>u=toV r/\Holds E w' (Γl++V))
def N1(P:Program)(E:World)(V:List HP)(fv:Value)(φ:α->β->Option ρ)(toV:ρ->Value):Prop:=
 ∃f cap,fv = .func (.func f) #[] (List.toArray cap)/\gm P f/\∀(w:World)(Γl:List HP)(v v':Value)(x:α)(y:β)(r:ρ)(i j:Nat),
  Holds E w (Γl++V)->(Γl++V)[i]? =some (rd v x)->(Γl++V)[j]? =some (rd v' y)->φ x y=some r->Calls P f ([v,v']++cap).toArray w (fT λu w'=>u=toV r/\Holds E w' (Γl++V))
theorem Mc.lift{φ:α->Option ρ}{toV:ρ->Value}(h:Mc P E V fv φ toV)(m:Nat)(hd:Γ'.drop m=V):Mc P E Γ' fv φ toV:=by
 obtain⟨f,cap,e,hf,hc⟩:=h;subst hd;refine⟨f,cap,e,hf,λw Γl v x r i hw hi hr=>?_⟩;have e2:Γl++Γ'=(Γl++Γ'.take m)++Γ'.drop m:=by rw[py,List.take_append_drop]
 grind
theorem N1.lift{φ:α->β->Option ρ}{toV:ρ->Value}(h:N1 P E V fv φ toV)(m:Nat)(hd:Γ'.drop m=V):N1 P E Γ' fv φ toV:=by
 obtain⟨f,cap,e,hf,hc⟩:=h;subst hd;refine⟨f,cap,e,hf,λw Γl v v' x y r i j hw hi hj hr=>?_⟩;have e2:Γl++Γ'=(Γl++Γ'.take m)++Γ'.drop m:=by rw[py,List.take_append_drop]
 grind
theorem Fj{Γl V:List HP}{j:Nat}{Pr:HP}(h:V[j]? =some Pr):(Γl++V)[Γl.length+j]? =some Pr:=by
 grind
variable {n:Nat}{U:Nat->Value}{w:World}{Q:jh}{i j:Nat}
variable {ops:Array Oper}{rest:List Oper}{d:Nat}{ty:TypeId}{pos:String}{af:Array Edge}{g:Option (Nat×Bool)}{v v':Value}{q r r':Operand}{ts:Array TypeId}
theorem UL{φ:α->Option ρ}{toV:ρ->Value}{x:α}{y:ρ}(i:Nat)(hd:Nat.blt d n=true)(hw:Holds E w V)(hq:ev U q=fv)(hf:Mc P E Γ' fv φ toV)(m:Nat)(hdr:V.drop m=Γ')(hx:ev U r=v)(hi:V[i]? =some (rd v x))(hr:φ x=some y)(k:∀w',Holds E w' V->RL P n ops rest (fz U d<|toV y) w' Q)(hg:Wn ops U g:=by exact trivial):
  RL P n ops (⟨some d, .call ⟨.value q,#[r],ts⟩,ty,pos,af,g⟩::rest) U w Q:=by
 obtain⟨f,cap,e,hF,hc⟩:=hf.lift m hdr;refine Uk (hg:=hg) (hd:=hd) (hq:=(by rw[hq,e])) (hvs:=(by simp[hx])) _ hF [v]<|hZ (hc w [] v x y i (by grind) (by grind) hr) ?_
 grind
theorem UY{φ:α->β->Option ρ}{toV:ρ->Value}{x:α}{x':β}{y:ρ}(i j:Nat)(hg:Wn ops U g)(hd:Nat.blt d n=true)(hw:Holds E w V)(hq:ev U q=fv)(hf:N1 P E Γ' fv φ toV)(m:Nat)(hdr:V.drop m=Γ')(hx:ev U r=v)(hx':ev U r'=v')(hi:V[i]? =some (rd v x))(hj:V[j]? =some (rd v' x'))(hr:φ x x'=some y)(k:∀w',Holds E w' V->RL P n ops rest (fz U d<|toV y) w' Q):
  RL P n ops (⟨some d, .call ⟨.value q,#[r,r'],ts⟩,ty,pos,af,g⟩::rest) U w Q:=by
 obtain⟨f,cap,e,hF,hc⟩:=hf.lift m hdr;refine Uk (hg:=hg) (hd:=hd) (hq:=(by rw[hq,e])) (hvs:=(by simp[hx,hx'])) _ hF [v,v']<|hZ (hc w [] v v' x x' y i j (by grind) (by grind) (by grind) hr) ?_
 grind
end
section
variable {P:Program}{n:Nat}{U:Nat->Value}{w:World}{Q:jh}{E:World}{V:List HP}{x y:Code}
variable {ops:Array Oper}{rest:List Oper}{d:Nat}{ty T T':TypeId}{pos:String}{af:Array Edge}{g:Option (Nat×Bool)}{v:Value}{q r:Operand}
theorem UA(hc:ev U q = .bool true)(h:RC P n x U w Q):RC P n (.cond q x y) U w Q:=by grind [UH]
theorem UC(hc:ev U q = .bool false)(h:RC P n y U w Q):RC P n (.cond q x y) U w Q:=by grind [UH]
theorem OY{k m:Nat}(h:k<m):Value.bool (decide<|(k:Int)<(m:Int)) = .bool true:=by grind
theorem OZ{m:Nat}:Value.bool (decide<|(m:Int)<(m:Int)) = .bool false:=by simp
theorem TI{k m:Nat}(hk:k<m)(hm:m<=4611686018427387904)(h:RL P n ops rest (fz U d<|.int .i64 ((k+1:Nat):Int)) w Q)(hg:Wn ops U g:=by exact trivial)(hd:Nat.blt d n=true:=by exact rfl)(hx:ev U q = .int .i64 (k:Int):=by exact rfl)(hy:ev U r = .int .i64 1:=by exact rfl):RL P n ops (⟨some d, .binOp .add T q r T',ty,pos,af,g⟩::rest) U w Q:=by
 refine SX (hg:=hg) (hd:=hd) (hx:=hx) (hy:=hy) (bop:= .add) _ _ ?_
 grind [JX]
theorem wV.of{P:Program}{t e:TypeId}{k b:Nat}(z:Value)(h1:P.underlying t=some (.slice e):=by kernel_rfl)(h2:(P.info? e).map (λi=>(i.zero,i.size,i.bytes))=some (some z,k,b):=by kernel_rfl)(h3:z.cells.size=k:=by exact rfl)(h4:0<b:=by decide):wV P t e k b:=by
 refine⟨h1,?_,h4⟩
 cases hi:P.info? e with
 |none=>grind
 |some i=>
  grind
theorem yY.of{P:Program}{T:TypeId}{fs:Array Field}{places:List (Nat×Nat)}(z:Value)(h1:P.underlying T=some (.struct fs))(h2:∀w,(zeroValue T).run P w = .ok z w:=by intro _;kernel_rfl)(h3:∀w,(fs.mapM (m:=Sem) λf:Field=>do pure (f.offset,<-sizeOf f.type)).run P w = .ok places.toArray w:=by intro _;kernel_rfl):yY P T places z.cells:=by
 refine⟨λparts w=>?_⟩;unfold Instr.build;simp only[bG,h2,bP,run_underlying h1];rw[h3];simp only[bP]
 cases Instr.fill (λx=>places.toArray[x]?) z.cells parts.toList <;> rfl
end
section
variable {α:Type}[GT α]{E w:World}{V L:List HP}{i:Nat}{v:Value}{x:α}{Pr R:HP}
theorem Holds.CJ(h:Holds E w V)(hi:V[i]? =some (pt v x)):Holds E w (pt v x::V):=h.D5 λ_ _ g=>⟨(g.sat i _ hi).1,rfl⟩
theorem Holds.bM(h:Holds E w V):Holds E w (Gk.bM::V):=h.D5 λ_ _ _=>trivial
end
section
variable {P:Program}{n:Nat}{U:Nat->Value}{w:World}{Q:jh}
theorem CK{o:Oper}{a:Act}{K K':Act->World->Prop}{Q Q':Exit->Act->World->Prop}(hK:∀a w,K a w->K' a w)(hp:∀c a w,Q (.panic c) a w->Q' (.panic c) a w)(hl:LetsOut Q->LetsOut Q')
  (h:o.wp P a w K Q):o.wp P a w K' Q':=by
 unfold Oper.wp at *;generalize (execOp a.eval o).run P w=r at *
 cases r with
 |ok nx w'=>
  cases nx <;> simp only[Oper.upon]at h ⊢ <;>
   first
    |exact hK _ _ h
    |exact Calls.mono h (λe w'' he=>by grind)
    |exact Rows.mono h (λ_ _ he=>hK _ _ he)
 |halt x w'=>cases x <;> simp only[Oper.upon]at h ⊢ <;> exact hp _ _ _ h
def ins(D:Nat->Bool)(i:Nat):Nat->Bool:=λj=>bif Nat.beq j i then true else D j
def pQ(D:Nat->Bool):List Edge->Prop
 | []=>True
 |e::l=>(Region.binds .any e=true->D e.on=true)/\pQ D l
def rh(F:Nat->Oper->Prop):Nat->List Oper->Prop
 |_,[]=>True
 |k,o::l=>F k o/\rh F (k+1) l
def wZ:Nat->List Oper->Bool
 |_,[]=>true
 |k,o::l=>(o.after.toList.all λe=> !Region.binds .any e||Nat.blt e.on k)&&wZ (k+1) l
theorem rh.at{F:Nat->Oper->Prop}:∀{k:Nat}{l:List Oper},rh F k l->∀i o,l[i]? =some o->F (k+i) o
 |_,[],_,i,o,h=>by simp at h
 |k,p::l,hs,0,o,h=>by simp at h;subst h;exact hs.1
 |k,p::l,hs,i+1,o,h=>by have:=rh.at hs.2 i o (by simpa using h);rw[show k+(i+1)=k+1+i by omega];exact this
theorem wZ.at:∀{k:Nat}{l:List Oper},wZ k l=true->∀(i:Nat)(o:Oper),l[i]? =some o->∀e∈o.after,Region.binds .any e=true->e.on<k+i
 |_,[],_,i,o,h=>by simp at h
 |k,p::l,hs,0,o,h=>by
  simp at h;subst h;intro e he hb;have h1:=(cO _ _▸hs:_/\_).1;have:=nA.1 h1 e (by grind);rw[hb]at this;simpa using Nat.blt_eq▸this
 |k,p::l,hs,i+1,o,h=>by
  intro e he hb;have:=wZ.at (cO _ _▸hs:_/\_).2 i o (by simpa using h) e he hb;omega
theorem Gr{D:Nat->Bool}:∀(l:List Edge),(∀e∈l,Region.binds .any e=true->D e.on=true)->pQ D l
 | [],_=>trivial
 |e::l,h=>⟨h e (by simp),Gr l λe' he=>h e' (by simp[he])⟩
theorem Vu{id:Nat}{l:List Oper}(hm:P.follows .mixedOrders=true)(hdep:wZ 0 l=true)(J:(Nat->Bool)->(Nat->Value)->World->Prop)
  (h0:J (λ_=>false) U w.drew)
  (step:rh (λi o=>∀D U w,D i=false->pQ D o.after.toList->J D U w->RL P n l.toArray [o] U w (λex U w=>ex = .normal/\J (ins D i) U w)) 0 l)
  (hend:∀D U w,(∀i,i<l.length->D i=true)->J D U w->Q .normal U w):RC P n (.region id l.toArray true) U w Q:=by
 intro a ha;refine wp_region_any hm ?_;have key:∀(fuel:Nat)(listed:Array Bool)(a:Act)(w:World)(U:Nat->Value),listed.size=l.length->Sl n U a->J (λi=>listed.getD i false) U w->
   (listed.toList.countP (· =false))=fuel->wpAny P .any l.toArray (Lf n Q) fuel listed a w:=by
  have ends:∀(listed:Array Bool)(a:Act)(w:World)(U:Nat->Value),listed.size=l.length->Sl n U a->J (λi=>listed.getD i false) U w->Region.ready .any l.toArray listed= []->Lf n Q .normal a w:=by
   intro listed a w U hsz hs hJ hr;refine⟨U,hs,hend _ U w (λi hi=>?_) hJ⟩
   induction i using Nat.strongRecOn with
   |ind i ih=>
    cases e:listed.getD i false with
    |true=>rfl
    |false=>
     have hmem:i∈Region.ready .any l.toArray listed:=by
      unfold Region.ready;rw[my];refine⟨by grind,?_⟩;have hi':i<listed.size:=by omega
      have e1:listed.getD i true=false:=by
       simp only[Array.getD_eq_getD_getElem?,jZ hi',Option.getD_some]at e ⊢;exact e
      rw[e1];simp only[jG,Bool.true_and,List.getElem?_toArray,aP hi,Option.map_some,Option.getD_some];rw[Array.all_eq_true_iff_forall_mem];intro ed hed
      cases hb:Region.binds .any ed with
      |false=>rfl
      |true=>
       have hlt:=wZ.at hdep i l[i] (aP hi) ed hed hb;have:=ih ed.on (by omega) (by omega);rw[this];rfl
     rw[hr]at hmem
     cases hmem
  intro fuel
  induction fuel with
  |zero=>
   intro listed a w U hsz hs hJ hc;have hall:∀i,i<l.length->listed.getD i false=true:=by
    intro i hi;have hi':i<listed.size:=by omega
    have:=List.countP_eq_zero.1 hc listed[i] (by simp);simp only[Array.getD_eq_getD_getElem?,jZ hi',Option.getD_some];simpa using this
   refine⟨?_,U,hs,hend _ U w hall hJ⟩;unfold Region.ready;rw[List.filter_eq_nil_iff];intro i hi;have hi2:i<l.length:=by simpa using hi
   have:=hall i hi2;have hi':i<listed.size:=by omega
   have e1:listed.getD i true=true:=by
    simp only[Array.getD_eq_getD_getElem?,jZ hi',Option.getD_some]at this ⊢;exact this
   rw[e1];simp
  |succ fuel ih=>
   intro listed a w U hsz hs hJ hc;refine⟨λhr=>ends listed a w U hsz hs hJ hr,λi hi=>?_⟩;unfold Region.ready at hi;rw[my]at hi;obtain⟨hi1,hi2⟩:=hi;have hil:i<l.length:=by simpa using hi1
   have hi':i<listed.size:=by omega
   simp only[cO,Bool.not_eq_true']at hi2;obtain⟨hnot,hd⟩:=hi2;simp only[List.getElem?_toArray,aP hil,Option.map_some,Option.getD_some]at hd;rw[Array.all_eq_true_iff_forall_mem]at hd;have hD:(λi=>listed.getD i false) i=false:=by
    simp only[Array.getD_eq_getD_getElem?,jZ hi',Option.getD_some]at hnot ⊢;exact hnot
   have hst:=step.at i l[i]<|aP hil
   rw[jE]at hst
   have hrun:=hst _ U w hD (Gr _ λe he hb=>by
    grind) hJ a hs
   have hins:ins (λi=>listed.getD i false) i=λj=>(listed.setIfInBounds i true).getD j false:=by
    funext j;unfold ins
    cases e:Nat.beq j i with
    |true=>
     have:=gG e;subst this;simp[Array.getD_eq_getD_getElem?,hi']
    |false=>
     have hne:i≠j:=λh=>by subst h;simp at e
     simp[Array.getD_eq_getD_getElem?,Array.getElem?_setIfInBounds_ne hne]
   have hcount:(listed.setIfInBounds i true).toList.countP (· =false)=fuel:=by
    have h1:listed.toList=listed.toList.take i++listed[i]::listed.toList.drop (i+1):=by
     have:=List.take_append_drop i listed.toList;rw[vG (by omega)]at this;simpa using this.symm
    have hx:listed[i]=false:=by
     simp only[Array.getD_eq_getD_getElem?,jZ hi',Option.getD_some]at hnot;exact hnot
    rw[h1,List.countP_append,List.countP_cons,hx]at hc;have h2:(listed.setIfInBounds i true).toList=listed.toList.take i++true::listed.toList.drop (i+1):=by
     rw[Array.toList_setIfInBounds,List.set_eq_take_append_cons_drop,aG (by omega)]
    rw[h2,List.countP_append,List.countP_cons];simp at hc ⊢;omega
   have hK:∀a' w',wpList P l.toArray (Lf n λex U w=>ex = .normal/\J (ins (λi=>listed.getD i false) i) U w) [] a' w'->wpAny P .any l.toArray (Lf n Q) fuel (listed.setIfInBounds i true) a' w':=by
    rintro a' w'⟨σ',hs',_,hJ'⟩;rw[hins]at hJ';exact ih _ a' w' σ' (by simp[hsz]) hs' hJ' hcount
   unfold wpOp;simp only[List.getElem?_toArray,aP hil];unfold wpList at hrun;split at hrun
   ·rename_i hw;rw[aG hw]
    rcases hrun with hrun|⟨_,a0,w0,σ0,_,hbad,_⟩
    ·exact .inl<|CK hK (λc a w h=>by obtain⟨_,_,hbad,_⟩:=h;cases hbad) (λh=>by obtain⟨_,_,_,_,hbad,_⟩:=h;cases hbad) hrun
    ·cases hbad
   ·rename_i hw;rw[aI hw];exact hK _ _ hrun
 refine key _ _ a w.drew U (by simp) ha ?_ (by simp[List.countP_replicate]);have:(λi=>(Array.replicate l.toArray.size false).getD i false)=λ_=>false:=by
  funext i;simp only[Array.getD_eq_getD_getElem?,Array.getElem?_replicate];split <;> rfl
 grind
def eH(D:Nat->Bool)(U:Nat->Value):List (Nat×Nat×Value)->Prop
 | []=>True
 |(i,d,v)::l=>(D i=true->U d=v)/\eH D U l
theorem pQ.mono{D D':Nat->Bool}(h:∀i,D i=true->D' i=true):∀{l:List Edge},pQ D l->pQ D' l
 | [],_=>trivial
 |_::_,hl=>⟨λhb=>h _ (hl.1 hb),pQ.mono h hl.2⟩
def vI(l:List Oper)(D:Nat->Bool):Prop:=∀i o,l[i]? =some o->D i=true->pQ D o.after.toList
theorem Gs{D:Nat->Bool}{i k:Nat}(h:D k=true):ins D i k=true:=by
 grind [ins,Nat.beq]
theorem UZ{id:Nat}{l:List Oper}(hm:P.follows .mixedOrders=true)(hdep:wZ 0 l=true)(J:(Nat->Bool)->(Nat->Value)->World->Prop)
  (h0:J (λ_=>false) U w.drew)
  (step:rh (λi o=>∀D U w,D i=false->pQ D o.after.toList->vI l D->J D U w->RL P n l.toArray [o] U w (λex U w=>ex = .normal/\J (ins D i) U w)) 0 l)
  (hend:∀D U w,(∀i,i<l.length->D i=true)->J D U w->Q .normal U w):RC P n (.region id l.toArray true) U w Q:=by
 refine Vu hm hdep (λD U w=>vI l D/\J D U w) ⟨λi o _ h=>(by cases h),h0⟩ ?_<|λD U w hall h=>hend D U w hall h.2
 have key:∀(k:Nat)(m:List Oper),(∀i o,m[i]? =some o->l[k+i]? =some o)->rh (λi o=>∀D U w,D i=false->pQ D o.after.toList->vI l D->J D U w->RL P n l.toArray [o] U w (λex U w=>ex = .normal/\J (ins D i) U w)) k m->
   rh (λi o=>∀D U w,D i=false->pQ D o.after.toList->(vI l D/\J D U w)->RL P n l.toArray [o] U w (λex U w=>ex = .normal/\(vI l (ins D i)/\J (ins D i) U w))) k m:=by
  intro k m
  induction m generalizing k with
  |nil=>intro _ _;trivial
  |cons o m ih=>
   intro hat hs;refine⟨λD U w hD hd hJ a ha=>?_,ih (k+1) (λi o h=>by have:=hat (i+1) o (by simpa using h);grind) hs.2⟩;have h1:=hs.1 D U w hD hd hJ.1 hJ.2 a ha;have hcl:vI l (ins D k):=by
    intro i o' ho hi
    by_cases e:i=k
    ·subst e;have:=hat 0 o rfl;rw[Nat.add_zero,ho]at this;injection this with this
     subst this;exact pQ.mono (λ_ h=>Gs h) hd
    ·have hDi:D i=true:=by
      unfold ins at hi;have:Nat.beq i k=false:=by
       cases hx:Nat.beq i k with
       |false=>rfl
       |true=>exact absurd (gG hx) e
      rw[this]at hi;exact hi
     exact pQ.mono (λ_ h=>Gs h)<|hJ.1 i o' ho hDi
   unfold wpList at h1 ⊢;split at h1
   ·rename_i hw;rw[aG hw]
    rcases h1 with h1|⟨h2,h3⟩
    ·refine .inl<|CK (λa w h=>?_) (λc a w h=>?_) (λh=>?_) h1
     ·obtain⟨σ',hs',he,hJ'⟩:=h;exact⟨σ',hs',he,hcl,hJ'⟩
     ·obtain⟨_,_,hbad,_⟩:=h;cases hbad
     ·obtain⟨_,_,_,_,hbad,_⟩:=h;cases hbad
    ·obtain⟨_,_,_,_,hbad,_⟩:=h3;cases hbad
   ·rename_i hw;rw[aI hw];obtain⟨σ',hs',he,hJ'⟩:=h1;exact⟨σ',hs',he,hcl,hJ'⟩
 grind
theorem eH.at{D:Nat->Bool}:∀{dv:List (Nat×Nat×Value)}(_:eH D U dv)(k:Nat){j d:Nat}{v:Value}(_:dv[k]? =some (j,d,v)),D j=true->U d=v
 | [],_,k,_,_,_,hk=>by simp at hk
 |(i,d',v')::l,h,0,j,d,v,hk=>by
  simp at hk;obtain⟨rfl,rfl,rfl⟩:=hk;exact h.1
 |(i,d',v')::l,h,k+1,j,d,v,hk=>eH.at h.2 k (by grind)
def CL(j d:Nat):Nat->List (Nat×Nat×Value)->Bool
 |_,[]=>true
 | 0,_::l=>dfreeA l
 |k+1,(i,t,_)::l=> !Nat.beq i j&& !Nat.beq t d&&CL j d k l
where dfreeA:List (Nat×Nat×Value)->Bool
 | []=>true
 |(i,t,_)::l=> !Nat.beq i j&& !Nat.beq t d&&dfreeA l
theorem eH.up{D:Nat->Bool}{j d:Nat}{v:Value}:∀{dv:List (Nat×Nat×Value)}(_:eH D U dv)(_:CL.dfreeA j d dv=true),eH (ins D j) (fz U d v) dv
 | [],_,_=>trivial
 |(i,t,u)::l,h,hf=>by
  unfold CL.dfreeA at hf;simp only[cO,Bool.not_eq_true']at hf;refine⟨λhi=>?_,eH.up h.2 hf.2⟩;unfold ins at hi;rw[hf.1.1]at hi;unfold fz;rw[hf.1.2];exact h.1 hi
theorem eH.put{D:Nat->Bool}{j d:Nat}{v v':Value}:∀{dv:List (Nat×Nat×Value)}(_:eH D U dv)(k:Nat)(_:dv[k]? =some (j,d,v))(_:CL j d k dv=true),eH (ins D j) (fz U d v') (dv.set k (j,d,v'))
 | [],_,k,hk,_=>by simp at hk
 |(i,t,u)::l,h,0,hk,hf=>by
  refine⟨λ_=>?_,eH.up h.2 hf⟩;unfold fz;have:Nat.beq d d=true:=Nat.beq_refl d;rw[this];rfl
 |(i,t,u)::l,h,k+1,hk,hf=>by
  unfold CL at hf;simp only[cO,Bool.not_eq_true']at hf;refine⟨λhi=>?_,eH.put h.2 k (by simpa using hk) hf.2⟩;unfold ins at hi;rw[hf.1.1]at hi;unfold fz;rw[hf.1.2];exact h.1 hi
theorem nf{b:Bool}(h:b=true->False):b=false:=by grind
theorem eH.no{D:Nat->Bool}{j:Nat}:∀{dv:List (Nat×Nat×Value)}(_:eH D U dv)(_:(dv.all λx=> !Nat.beq x.1 j)=true),eH (ins D j) U dv
 | [],_,_=>trivial
 |(i,t,u)::l,h,hf=>by
  rw[List.all_cons,cO,Bool.not_eq_true']at hf;refine⟨λhi=>?_,eH.no h.2 hf.2⟩;unfold ins at hi;rw[hf.1]at hi;exact h.1 hi
theorem Holds.same{E w:World}{V Γ':List HP}(h:Holds E w V)(e:Γ'=V):Holds E w Γ':=by grind
theorem Mm{V:List HP}{i:Nat}{Pr R:HP}(h:V[i]? =some Pr)(e:R=Pr):V.set i R=V:=by grind [zJ]
theorem Holds.cE{E w:World}{V:List HP}(i:Nat){b:Bool}{R Pr:HP}(h:Holds E w V)(hb:b=false)(hi:V[i]? =some (bif b then R else Pr):=by exact rfl):Holds E w (V.set i Pr):=by grind [Mm]
theorem Holds.eM{E w:World}{V:List HP}(i:Nat){b:Bool}{R Pr:HP}(h:Holds E w V)(hb:b=true)(hi:V[i]? =some (bif b then R else Pr):=by exact rfl):Holds E w (V.set i R):=by grind [Mm]
theorem Holds.dF{E w:World}{V:List HP}(i:Nat)(b:Bool){Pr:HP}(h:Holds E w V)(hb:b=true)(R:HP)(hi:V[i]? =some Pr:=by exact rfl):Holds E w (V.set i (bif b then Pr else R)):=by grind [Mm]
theorem Holds.fK{E w:World}{V:List HP}(i:Nat)(b:Bool){Pr:HP}(h:Holds E w V)(hb:b=false)(R:HP)(hi:V[i]? =some Pr:=by exact rfl):Holds E w (V.set i (bif b then R else Pr)):=by grind [Mm]
theorem ft{b:Bool}(h1:b=false)(h2:b=true):False:=by grind
theorem agree.at:∀{l:List (Nat×Value)}(_:agree U l)(k:Nat){d:Nat}{v:Value}(_:l[k]? =some (d,v)),U d=v
 | [],_,k,_,_,hk=>by simp at hk
 |(d',v')::l,h,0,d,v,hk=>by simp at hk;obtain⟨rfl,rfl⟩:=hk;exact h.1
 |(d',v')::l,h,k+1,d,v,hk=>agree.at h.2 k (by grind)
def tT(d:Nat):List (Nat×Value)->Bool
 | []=>true
 |(t,_)::l=> !Nat.beq t d&&tT d l
theorem agree.up{d:Nat}{v:Value}:∀{l:List (Nat×Value)}(_:agree U l)(_:tT d l=true),agree (fz U d v) l
 | [],_,_=>trivial
 |(t,u)::l,h,hf=>by
  unfold tT at hf;simp only[cO,Bool.not_eq_true']at hf;refine⟨?_,agree.up h.2 hf.2⟩;unfold fz;rw[hf.1];exact h.1
theorem agree.c{d:Nat}{v:Value}{l:List (Nat×Value)}(h:U d=v)(hl:agree U l):agree U ((d,v)::l):=⟨h,hl⟩
theorem agree.z:agree U []:=trivial
theorem eH.none:∀{dv:List (Nat×Nat×Value)},eH (λ_=>false) U dv
 | []=>trivial
 |(_,_,_)::_=>⟨λh=>(by cases h),eH.none⟩
variable {ops:Array Oper}{rest:List Oper}{d:Nat}{ty T T':TypeId}{pos:String}{af:Array Edge}{g:Option (Nat×Bool)}{v:Value}{q r:Operand}
theorem CM{f:FuncId}{fn:Func}(e:Array Value->Sem Value){args:Array Value}(hf:P.funcs[f]? =some fn)(hr:(e args).run P w = .ok v w)(hname:(fn.name== "runtime.NumGoroutine")=false:=by kernel_rfl)(hb:fn.body.isNone=true:=by kernel_rfl)(hn:Extern.findNext fn=none:=by kernel_rfl)(he:Extern.find fn=some e:=by kernel_rfl):(callFunc f args).run P w = .ok (.value v) w:=by
 simp_all[run_callFunc_extern]
theorem U0{f:FuncId}{args:Array Operand}{ts:Array TypeId}(v:Value)(hd:Nat.blt d n=true)(vs:List Value)(hvs:args.toList.map (ev U)=vs)(hf:(callFunc f vs.toArray).run P w = .ok (.value v) w)(k:RL P n ops rest (fz U d v) w Q)(hg:Wn ops U g:=by exact trivial):
  RL P n ops (⟨some d, .call ⟨.value<|.func f,args,ts⟩,ty,pos,af,g⟩::rest) U w Q:=by
 have e:args.map (ev U)=vs.toArray:=by grind
 refine TA hg hd ?_ k;simp only[execOp,resolve,bG];simp only[ev,Deferred.ofValue,e,bS,bP,invoke]
 grind
end
theorem str_inj{a b:eJ}:(⟨a.dL.toArray⟩:ByteArray)= ⟨b.dL.toArray⟩↔a=b:=by
 constructor
 ·intro h;have h1:a.dL.toArray=b.dL.toArray:=congrArg ByteArray.data h;have h2:a.dL=b.dL:=by grind
  cases a;simp_all
 grind
theorem I4(a b:eJ):((⟨a.dL.toArray⟩:ByteArray)==⟨b.dL.toArray⟩)= decide (a=b):=by
 have e:((⟨a.dL.toArray⟩:ByteArray)==⟨b.dL.toArray⟩)=(a.dL.toArray==b.dL.toArray):=rfl
 grind [str_inj]
section
variable {P:Program}{w:World}{T:TypeId}{fs:Array Field}{xs ys:Array Value}{d:Nat}
inductive BN (P:Program) (w:World) (d:Nat) (xs ys:Array Value):List Field->List Bool->Prop
 |nil:BN P w d xs ys [] []
 |cons {f:Field} {l:List Field} {b:Bool} {bs:List Bool} {x y:Value} (hn:f.name≠ "_") (hx:(part f.type xs f.offset).run P w = .ok x w) (hy:(part f.type ys f.offset).run P w = .ok y w)
   (he:(Op.equalIn d f.type x y).run P w = .ok b w) (h:BN P w d xs ys l bs):BN P w d xs ys (f::l) (b::bs)
theorem kQ(d:Nat)(hu:P.underlying T=some (.struct fs)){bs:List Bool}(h:BN P w d xs ys fs.toList bs)(hs:P.stoodInHeld T=false:=by kernel_rfl):
  (Op.equalIn (d+1) T (.agg xs)<|.agg ys).run P w = .ok (bs.all id) w:=by
 obtain⟨l⟩:=fs;rw[Op.equalIn];simp only[bG,run_underlying hu,bP,program,Sem.run,hs,List.forIn_toArray];rw[aI (by decide)];simp only at h;simp only[bG,bS,bP];clear hu
 induction h with
 |nil=>simp
 | @cons f l b bs x y hn hx hy he h ih=>
  simp only[List.forIn_cons,hn,ne_eq,not_false_eq_true,if_true,bG,hx,hy,he,bP]
  cases b with
  |true=>simp_all
  |false=>simp
structure Mn (P:Program) (T:TypeId) (α:Type) [GT α] [DecidableEq α]:Prop where
 eq:∀(M:eZ)(cs ds:List Value)(a b:α)(w:World),GT.ok M cs a->GT.ok M ds b->(Op.equal T (yV α cs)<|yV α ds).run P w = .ok (decide<|a=b) w
 Su:P.eqGuardType P.depth T=false
end
section
variable {α:Type}[GT α][DecidableEq α]{P:Program}{n:Nat}{U:Nat->Value}{w:World}{Q:jh}{E:World}{V:List HP}{i j:Nat}
variable {ops:Array Oper}{rest:List Oper}{d:Nat}{ty T T':TypeId}{pos:String}{af:Array Edge}{g:Option (Nat×Bool)}{v v':Value}{q r:Operand}{a b:α}
theorem run_seq(hw:Holds E w V)(hi:V[i]? =some (rd v a))(hj:V[j]? =some (rd v' b))(hT:Mn P T α)(hag:GT.agg α=true):
  ((eqGuard .eql T q r v v').run P w = .ok () w/\(binOp .eql T v v').run P w = .ok (.bool<|decide<|a=b) w)/\
  ((eqGuard .neq T q r v v').run P w = .ok () w/\(binOp .neq T v v').run P w = .ok (.bool<|!decide (a=b)) w):=by
 obtain⟨M,hs,gd⟩:=hw;obtain⟨cs,hv,ho⟩:=(gd.sat i _ hi).1;obtain⟨ds,hv',ho'⟩:=(gd.sat j _ hj).1;have he:=hT.eq M cs ds a b w ho ho';rw[<-hv,<-hv']at he;have e1:v = .agg cs.toArray:=by grind [yV]
 have e2:v' = .agg ds.toArray:=by grind [yV]
 subst e1;subst e2;refine⟨⟨?_,?_⟩,?_,?_⟩
 ·simp[eqGuard,program,Sem.run,hT.Su]
 ·grind [binOp,bG,bP,bS]
 ·simp[eqGuard,program,Sem.run,hT.Su]
 grind [binOp,bG,bP,bS]
theorem U1(i j:Nat)(a b:α)(hg:Wn ops U g)(hd:Nat.blt d n=true)(hw:Holds E w V)(hx:ev U q=v)(hy:ev U r=v')(hi:V[i]? =some (rd v a))(hj:V[j]? =some (rd v' b))(hT:Mn P T α)(hag:GT.agg α=true)(k:RL P n ops rest (fz U d<|.bool<|decide<|a=b) w Q):RL P n ops (⟨some d, .binOp .eql T q r T',ty,pos,af,g⟩::rest) U w Q:=by
 obtain⟨⟨h1,h2⟩,_⟩:=run_seq (q:=q) (r:=r) hw hi hj hT hag;refine TA hg hd ?_ k
 grind [execOp,bG,bP,bS]
theorem UD(i j:Nat)(a b:α)(hg:Wn ops U g)(hd:Nat.blt d n=true)(hw:Holds E w V)(hx:ev U q=v)(hy:ev U r=v')(hi:V[i]? =some (rd v a))(hj:V[j]? =some (rd v' b))(hT:Mn P T α)(hag:GT.agg α=true)(k:RL P n ops rest (fz U d<|.bool<|!decide (a=b)) w Q):RL P n ops (⟨some d, .binOp .neq T q r T',ty,pos,af,g⟩::rest) U w Q:=by
 obtain⟨_,h1,h2⟩:=run_seq (q:=q) (r:=r) hw hi hj hT hag;refine TA hg hd ?_ k
 grind [execOp,bG,bP,bS]
end
theorem dY{P:Program}{T:TypeId}(hT:nN P T false 1){xs:Array Value}{k:Nat}{x:Value}(w:World)(h:xs[k]? =some x:=by exact rfl):(part T xs k).run P w = .ok x w:=by
 simp[part,hT.Mb,h]
theorem Ex{P:Program}{T:TypeId}{m:Nat}(hT:nN P T true m){xs ys:Array Value}{k:Nat}(h:xs.extract k (k+m)=ys)(w:World):(part T xs k).run P w = .ok (.agg ys) w:=by
 simp[part,hT.Mb,hT.sz,h]
theorem kW{P:Program}{T:TypeId}{K:IntKind}{d:Nat}(hu:P.underlying T=some (.int K))(a b:Int)(w:World):(Op.equalIn (d+1) T (.int K a)<|.int K b).run P w = .ok (a==b) w:=by
 rw[Op.equalIn];simp only[bG,run_underlying hu,bP];simp
theorem rm{P:Program}{T:TypeId}{d:Nat}(hu:P.underlying T=some .bool)(a b:Bool)(w:World):(Op.equalIn (d+1) T (.bool a)<|.bool b).run P w = .ok (a==b) w:=by
 rw[Op.equalIn];simp only[bG,run_underlying hu,bP];simp
theorem yZ{P:Program}{T:TypeId}{d:Nat}(hu:P.underlying T=some .string)(a b:eJ)(w:World):(Op.equalIn (d+1) T (str a)<|str b).run P w = .ok (decide<|a=b) w:=by
 rw[Op.equalIn];simp only[bG,run_underlying hu,bP,str];simp[I4]
def uj{α:Type}(l:List α)(lo hi:Int):Option (List α):=if 0<=lo/\lo<=hi/\hi<=l.length then some ((l.drop lo.toNat).take (hi - lo).toNat)else none
section
variable {α:Type}[GT α]{P:Program}{n:Nat}{U:Nat->Value}{w:World}{Q:jh}{E:World}{V:List HP}{i:Nat}
variable {ops:Array Oper}{rest:List Oper}{d:Nat}{ty T e:TypeId}{pos:String}{af:Array Edge}{g:Option (Nat×Bool)}{v:Value}{q:Operand}{l l':List α}{lo hi:Int}
theorem Gt{M:eZ}{a:Option Addr}{m cap:Nat}(h:qo M (.slice a m cap) l)(h0:0<=lo)(h1:lo<=hi)(h2:hi<=l.length):
  qo M (.slice (if cap=lo.toNat then a else a.map (·.add (lo.toNat*GT.sz α))) (hi.toNat - lo.toNat)<|cap - lo.toNat) ((l.drop lo.toNat).take (hi - lo).toNat):=by
 obtain⟨a',m',cap',hv,hm,hc,hx,hel⟩:=h;injection hv with e1 e2 e3
 subst e1;subst e2;subst e3;refine⟨_,_,_,rfl,?_,by omega,by omega,λk x hk=>?_⟩
 ·grind
 ·rw[jo]at hk
  grind [GT.sz,add_add,Nat.add_mul]
theorem zL{a:Option Addr}{m cap:Nat}{lov hiv:Option Value}(hT:yI P T e (GT.sz α))(hl:lov=some (.int .i64 lo)\/(lov=none/\lo=0))(hh:hiv=some (.int .i64 hi)\/(hiv=none/\hi=m))
  (h0:0<=lo) (h1:lo<=hi) (h2:hi<=m) (hc:m<=cap) (w:World):
  (Instr.sliceAt T (.slice a m cap) lov hiv none).run P w = .ok (.slice (if cap=lo.toNat then a else a.map (·.add (lo.toNat*GT.sz α))) (hi.toNat - lo.toNat)<|cap - lo.toNat) w:=by
 have eh:(Instr.sliceBounds true m cap lov hiv none).run P w = .ok (lo.toNat,hi.toNat,cap) w:=by
  unfold Instr.sliceBounds;have e1:∀(y:Nat)(c:BoundsCode),hi<=y->(Instr.sliceBound (.int .i64 hi) y c).run P w = .ok hi.toNat w:=λy c hy=>by
   simp[Instr.sliceBound,asIntOf,show 0<=hi by omega,hy]
  have e2:∀(y:Nat)(c:BoundsCode),lo<=y->(Instr.sliceBound (.int .i64 lo) y c).run P w = .ok lo.toNat w:=λy c hy=>by
   simp_all[Instr.sliceBound,asIntOf]
  grind [bG,bS,bP]
 unfold Instr.sliceAt;simp only[bG,run_underlying hT.Ct,bP];unfold Instr.slice;simp only[bG,run_underlying hT.Ct,bP,eh,hT.sz,bS]
theorem Uh{lop hip:Option Operand}(i:Nat)(hw:Holds E w V)(hT:yI P T e (GT.sz α))(hh:hip.map (ev U)=some (.int .i64 hi)\/(hip.map (ev U)=none/\hi=(l.length:Nat)))(hb:uj l lo hi=some l')(k:∀v',Holds E w (rd v' l'::V)->RL P n ops rest (fz U d v') w Q)(hg:Wn ops U g:=by exact trivial)(hd:Nat.blt d n=true:=by exact rfl)(hx:ev U q=v:=by exact rfl)(hi':V[i]? =some (rd v l):=by exact rfl)(hl:lop.map (ev U)=some (.int .i64 lo)\/(lop.map (ev U)=none/\lo=0):=by exact(.inl rfl)):
  RL P n ops (⟨some d, .slice T q lop hip none,ty,pos,af,g⟩::rest) U w Q:=by
 unfold uj at hb;split at hb
 ·rename_i hc;injection hb with hb
  subst hb;obtain⟨M,hs,gd⟩:=hw;have hs':=nM.1 (gd.sat i _ hi').1;obtain⟨a,m,cap,hv,hm,hcap,_⟩:=hs';subst hv;have hs2:=nM.1 (gd.sat i _ hi').1;have hcut:=Gt hs2 hc.1 hc.2.1 hc.2.2;refine TA hg hd ?_<|k _ ⟨M,_,gd.jq ⟨nM.2 hcut,rfl⟩⟩
  grind [zL,execOp,bG,bP,bS]
 ·cases hb
end
def y4(s:eJ)(lo hi:Int):Option eJ:=if 0<=lo/\lo<=hi/\hi<=s.dL.length then some ⟨(s.dL.drop lo.toNat).take (hi - lo).toNat⟩else none
section
variable {P:Program}{n:Nat}{U:Nat->Value}{w:World}{Q:jh}{E:World}{V:List HP}{i:Nat}
variable {ops:Array Oper}{rest:List Oper}{d:Nat}{ty T T':TypeId}{pos:String}{af:Array Edge}{g:Option (Nat×Bool)}{v:Value}{q r:Operand}{lo hi:Int}
theorem Vv{a b:Bool}(hg:Wn ops U g)(hd:Nat.blt d n=true)(hx:ev U q = .bool a)(hy:ev U r = .bool b)(hu:P.underlying T=some .bool)
  (k:RL P n ops rest (fz U d<|.bool<|a==b) w Q):RL P n ops (⟨some d, .binOp .eql T q r T',ty,pos,af,g⟩::rest) U w Q:=by
 refine Uy hg hd hx hy (λ_=>rfl) (λw=>?_) k
 grind [rm,binOp,bG,Op.equal,Op.maxDepth,bP,bS]
theorem UM(a b:Bool)(hd:Nat.blt d n=true)(hx:ev U q = .bool a)(hy:ev U r = .bool b)(hu:P.underlying T=some .bool)(k:RL P n ops rest (fz U d<|.bool<|a != b) w Q)(hg:Wn ops U g:=by exact trivial):RL P n ops (⟨some d, .binOp .neq T q r T',ty,pos,af,g⟩::rest) U w Q:=by
 refine Uy hg hd hx hy (λ_=>rfl) (λw=>?_) k
 grind [rm,binOp,bG,Op.equal,Op.maxDepth,bP,bS]
theorem U2{lop hip:Option Operand}(s:eJ){s':eJ}(hd:Nat.blt d n=true)(hx:ev U q=str s)(hT:P.underlying T=some .string)(hl:lop.map (ev U)=some (.int .i64 lo)\/(lop.map (ev U)=none/\lo=0))(hh:hip.map (ev U)=some (.int .i64 hi)\/(hip.map (ev U)=none/\hi=(s.dL.length:Nat)))(hb:y4 s lo hi=some s')(k:RL P n ops rest (fz U d<|str s') w Q)(hg:Wn ops U g:=by exact trivial):
  RL P n ops (⟨some d, .slice T q lop hip none,ty,pos,af,g⟩::rest) U w Q:=by
 unfold Gk.y4 at hb;split at hb
 ·rename_i hc;injection hb with hb
  subst hb;refine TA hg hd ?_ k;have esz:(⟨s.dL.toArray⟩:ByteArray).size=s.dL.length:=rfl;have eb:(Instr.sliceBounds false s.dL.length s.dL.length (lop.map<|ev U) (hip.map<|ev U) none).run P w = .ok (lo.toNat,hi.toNat,s.dL.length) w:=by
   unfold Instr.sliceBounds;have e1:∀(y:Nat)(c:BoundsCode),hi<=y->(Instr.sliceBound (.int .i64 hi) y c).run P w = .ok hi.toNat w:=λy c hy=>by
    simp[Instr.sliceBound,asIntOf,show 0<=hi by omega,hy]
   have e2:∀(y:Nat)(c:BoundsCode),lo<=y->(Instr.sliceBound (.int .i64 lo) y c).run P w = .ok lo.toNat w:=λy c hy=>by
    simp_all[Instr.sliceBound,asIntOf]
   grind [bG,bS,bP]
  have ex:(⟨s.dL.toArray⟩:ByteArray).extract lo.toNat hi.toNat= ⟨((s.dL.drop lo.toNat).take (hi - lo).toNat).toArray⟩:=by
   apply ByteArray.ext;simp only[ByteArray.data_extract]
   grind
  simp only[execOp,hx,bG,Option.map_none,Instr.sliceAt,run_underlying hT,bP,Instr.slice,str]
  simp_all
 ·cases hb
end
def Gu{α:Type}(a:Nat)(ds xs:List α):List α:=xs.take a++ds++xs.drop (a+ds.length)
theorem y5{α:Type}{a:Nat}{ds xs:List α}(h:a+ds.length<=xs.length):(Gu a ds xs).length=xs.length:=by
 unfold Gu;grind
theorem zM{α:Type}{a:Nat}{ds xs:List α}(h:a+ds.length<=xs.length)(t:Nat):
  (Gu a ds xs)[t]? =if t<a then xs[t]? else if t<a+ds.length then ds[t - a]? else xs[t]? :=by
 unfold Gu
 grind
def KS(v:Value)(k sz off:Nat)(p:Value):Prop:=∃a n c,v = .slice (some a) n c/\p = .pointer (some<|a.add<|k*sz+off)
theorem tU{i k sz:Nat}(h:i<k):i*sz+sz<=k*sz:=by
 calc i*sz+sz=(i+1)*sz:=by rw[Nat.add_mul,Nat.one_mul]
  _<=k*sz:=Nat.mul_le_mul_right _ h
section
variable {α β:Type}[GT α][GT β]{P:Program}{n:Nat}{U:Nat->Value}{w:World}{Q:jh}{E:World}{V:List HP}{i j:Nat}
variable {ops:Array Oper}{rest:List Oper}{d:Nat}{ty T T' e:TypeId}{pos:String}{af:Array Edge}{g:Option (Nat×Bool)}{v u p:Value}{q r:Operand}{l l':List α}{x:α}{jj:Int}{k off:Nat}
theorem fI{α:Type}{l:List α}{jj:Int}{x:α}(h:idx l jj=some x):0<=jj/\l[jj.toNat]? =some x/\jj.toNat<l.length:=by
 grind [idx,bN]
theorem Vw{K:IntKind}(hg:Wn ops U g)(hd:Nat.blt d n=true)(hw:Holds E w V)(hx:ev U q=v)(hy:ev U r = .int K jj)(hi:V[i]? =some (own e v l))
  (hT:yI P T e (GT.sz α)) (hj:idx l jj=some x) (kk:∀p,KS v jj.toNat (GT.sz α) 0 p->RL P n ops rest (fz U d p) w Q):
  RL P n ops (⟨some d, .indexAddr T q r,ty,pos,af,g⟩::rest) U w Q:=by
 obtain⟨h0,hx',hlt⟩:=fI hj;obtain⟨M,hs,gd⟩:=hw
 rcases gd.sat i _ hi with⟨rfl,rfl,_⟩|⟨b,o,cap,cur,xs,rfl,h2,_⟩
 ·simp at hlt
 ·refine TA (v:= .pointer<|some<|(⟨b,o,none⟩:Addr).add<|jj.toNat*GT.sz α) hg hd ?_<|kk _ ⟨_,_,_,rfl,by rw[Nat.add_zero]⟩
  have hlt':jj<(l.length:Nat):=by omega
  simp only[execOp,hx,hy,Instr.indexAt,asIntOf,bG,bS,bP,run_underlying hT.Ct,hT.sz,h0,hlt',and_self,if_true]
def AY(v:Value)(k sz off:Nat):Value:=match v with| .slice (some a) _ _=> .pointer (some<|a.add<|k*sz+off)|_=>undef
theorem rn{w E:World}{V:List HP}(i:Nat){v:Value}{l:List α}{jj:Int}{x:α}(hw:Holds E w V)(hx:idx l jj=some x)(off:Nat)(hi:V[i]? =some (own e v l):=by exact rfl):KS v jj.toNat (GT.sz α) off (AY v jj.toNat (GT.sz α) off):=by
 obtain⟨h0,hx',hlt⟩:=fI hx;obtain⟨M,hs,gd⟩:=hw
 rcases gd.sat i _ hi with⟨rfl,rfl,_⟩|⟨b,o,cap,cur,xs,rfl,h2,_⟩
 ·simp at hlt
 ·exact⟨_,_,_,rfl,rfl⟩
theorem Tg{K:IntKind}(i:Nat)(hw:Holds E w V)(hx:ev U q=v)(hi:V[i]? =some (own e v l))(hT:yI P T e (GT.sz α))(hj:idx l jj=some x)(kk:RL P n ops rest (fz U d<|AY v jj.toNat (GT.sz α) 0) w Q)(hg:Wn ops U g:=by exact trivial)(hd:Nat.blt d n=true:=by exact rfl)(hy:ev U r = .int K jj:=by exact rfl):
  RL P n ops (⟨some d, .indexAddr T q r,ty,pos,af,g⟩::rest) U w Q:=
 Vw hg hd hw hx hy hi hT hj λp hp=>by
  obtain⟨a,n',c,hv,rfl⟩:=hp;have:AY v jj.toNat (GT.sz α) 0 = .pointer (some<|a.add<|jj.toNat*GT.sz α+0):=by rw[hv];rfl
  rw[<-this];exact kk
theorem Vx{m jx:Nat}(hg:Wn ops U g)(hd:Nat.blt d n=true)(hx:ev U q=p)(hp:KS v k (GT.sz α) off p)(hf:o5 P T jx m)
  (kk:∀p',KS v k (GT.sz α) (off+m) p'->RL P n ops rest (fz U d p') w Q):RL P n ops (⟨some d, .fieldAddr T q jx,ty,pos,af,g⟩::rest) U w Q:=by
 obtain⟨a,n',c,hv,hp⟩:=hp;refine TA (v:= .pointer<|some<|(a.add<|k*GT.sz α+off).add m) hg hd ?_<|kk _ ⟨a,n',c,hv,by rw[add_add,Nat.add_assoc]⟩
 simp only[execOp,hx,hp,bG,hf.run,bP,bS]
theorem T6{m jx:Nat}(hg:Wn ops U g)(hp:KS v k (GT.sz α) off (AY v k (GT.sz α) off))(hf:o5 P T jx m)(kk:RL P n ops rest (fz U d<|AY v k (GT.sz α)<|off+m) w Q)(hd:Nat.blt d n=true:=by exact rfl)(hx:ev U q=AY v k (GT.sz α) off:=by exact rfl):RL P n ops (⟨some d, .fieldAddr T q jx,ty,pos,af,g⟩::rest) U w Q:=
 Vx (α:=α) hg hd hx hp hf λp hp=>by
  obtain⟨a,n',c,hv,rfl⟩:=hp;have:AY v k (GT.sz α) (off+m) = .pointer (some<|a.add<|k*GT.sz α+(off+m)):=by rw[hv];rfl
  rw[<-this];exact kk
theorem UE{f:α->β}(hg:Wn ops U g)(hd:Nat.blt d n=true)(hw:Holds E w V)(hx:ev U q=p)(hp:KS v k (GT.sz α) off p)(hi:V[i]? =some (own e v l))(hl:l[k]? =some x)(hF:Fd off f)
  (hT:nN P T (GT.agg β) (GT.sz β)) (kk:∀u,Holds E w (rd u (f x)::V)->RL P n ops rest (fz U d u) w Q):RL P n ops (⟨some d, .load T q,ty,pos,af,g⟩::rest) U w Q:=by
 obtain⟨M,hs,gd⟩:=hw;obtain⟨a,n',c,hv,hpp⟩:=hp;have hkl:=(bN.1 hl).1
 rcases gd.sat i _ hi with⟨hv',rfl,_⟩|⟨b,o,cap,cur,xs,hv',h2,h3,h4,h5,h6,h7⟩
 ·simp at hkl
 ·rw[hv]at hv';injection hv' with e1 e2 e3
  injection e1 with e1
  subst e1;have hb:=gd.le i b _ (dS hi) (by rw[h4];exact eE b _);have ho:=hF M _ x<|h7.2 k x hl
  refine TA (v:=yV β<|(((xs.drop<|k*GT.sz α).take<|GT.sz α).drop off).take<|GT.sz β) hg hd ?_<|kk _ ⟨M,_,gd.jq ⟨⟨_,rfl,ho⟩,rfl⟩⟩
  simp only[execOp,hx,hpp,Instr.loadAt,Instr.sureAddr,bG,bS,bP];rw[nO hT ho<|λt y hy=>?_];rfl
  grind [Addr.add_lit,cell_of_row]
theorem Ud{γ:Type}[Sc γ]{f:α->γ}(i:Nat)(hg:Wn ops U g)(hw:Holds E w V)(hp:KS v k (GT.sz α) off p)(hl:l[k]? =some x)(hF:Fd off f)(hT:nN P T false 1)(kk:RL P n ops rest (fz U d<|Sc.toV<|f x) w Q)(hd:Nat.blt d n=true:=by exact rfl)(hx:ev U q=p:=by exact rfl)(hi:V[i]? =some (own e v l):=by exact rfl):RL P n ops (⟨some d, .load T q,ty,pos,af,g⟩::rest) U w Q:=by
 refine UE (f:=f) hg hd hw hx hp hi hl hF hT λu h=>?_;rw[h.Gm (i:=0) rfl];exact kk
theorem UN{f:α->β->α}{y:β}(hg:Wn ops U g)(hw:Holds E w V)(hx:ev U q=p)(hy:ev U r=u)(hp:KS v k (GT.sz α) off p)(hi:V[i]? =some (own e v l))(hl:l[k]? =some x)(hj:V[j]? =some (rd u y))
  (hF:Fs off β f) (hm:off+GT.sz β<=GT.sz α) (hT:nN P T (GT.agg β) (GT.sz β)) (kk:∀w',Holds E w' (V.set i<|own e v<|l.set k<|f x y)->RL P n ops rest U w' Q):
  RL P n ops (⟨none, .store T q r,ty,pos,af,g⟩::rest) U w Q:=by
 obtain⟨M,hs,gd⟩:=hw;obtain⟨a,n',c,hv,hpp⟩:=hp;have hkl:=(bN.1 hl).1;have hr:=(gd.sat j _ hj).1
 rcases gd.sat i _ hi with⟨hv',rfl,_⟩|⟨b,o,cap,cur,xs,hv',h2,h3,h4,h5,h6,h7⟩
 ·simp at hkl
 ·have hv0:=hv';rw[hv]at hv';injection hv' with e1 e2 e3
  injection e1 with e1
  subst e1;have hb:=gd.le i b _ (dS hi) (by rw[h4];exact eE b _);have hc:u.cells.size=GT.sz β:=by rw[<-GT.len hr.cells];simp
  have hcl:u.cells.toList.length=GT.sz β:=GT.len hr.cells;have hks:=tU (sz:=GT.sz α) hkl;have hcap:l.length*GT.sz α<=cap*GT.sz α:=Nat.mul_le_mul_right _ h2;have hcs:o+cap*GT.sz α<=cur.toList.length:=h5;have hrun:=oy (P:=P) (v:=u) (o:=o+(k*GT.sz α+off)) hT.sz hc (GT.one hr.cells) hb (by omega);have hnew:(cur.toList.take (o+(k*GT.sz α+off))++u.cells.toList++cur.toList.drop (o+(k*GT.sz α+off)+GT.sz β))=Gu (o+(k*GT.sz α+off)) u.cells.toList cur.toList:=by
   grind [Gu]
  rw[hnew]at hrun;have hfit:o+(k*GT.sz α+off)+u.cells.toList.length<=cur.toList.length:=by omega
  have hxl:xs.length=l.length*GT.sz α:=h7.1;have hget:∀t,xs[t]? =if t<l.length*GT.sz α then cur.toList[o+t]? else none:=λt=>by
   grind
  refine Ur hg ?_<|kk _<|mw (P':=own e v<|l.set k<|f x y) (new:=(Gu (o+(k*GT.sz α+off)) u.cells.toList cur.toList).toArray) gd hi h4<|.inr ⟨b,o,cap,_,((Gu (o+(k*GT.sz α+off)) u.cells.toList cur.toList).drop o).take<|l.length*GT.sz α,by grind,by grind,h3,rfl,?_,by rw[iO],?_⟩
  ·grind [execOp,Instr.storeAt,Instr.sureAddr,bG,bS,bP,Addr.add_lit]
  ·grind
  ·refine⟨by rw[dI,l3,y5 hfit,iO];omega,λm z hz=>?_⟩;rw[ln]at hz
   by_cases hmk:k=m
   ·subst hmk;rw[aG rfl,aG hkl]at hz;injection hz with hz
    subst hz;have hok:=hF M _ _ x y (h7.2 k x hl) hr.cells;have heq:(List.drop (k*GT.sz α)<|((Gu (o+(k*GT.sz α+off)) u.cells.toList cur.toList).drop o).take<|l.length*GT.sz α).take (GT.sz α) =
      (List.take (GT.sz α)<|List.drop (k*GT.sz α) xs).take off++u.cells.toList++(List.take (GT.sz α)<|List.drop (k*GT.sz α) xs).drop (off+GT.sz β):=by
     have e0:(List.take (GT.sz α)<|List.drop (k*GT.sz α) xs).take off++u.cells.toList++(List.take (GT.sz α)<|List.drop (k*GT.sz α) xs).drop (off+GT.sz β)=Gu off u.cells.toList (List.take (GT.sz α)<|List.drop (k*GT.sz α) xs):=by
      unfold Gu;rw[hcl]
     rw[e0];apply List.ext_getElem?;intro t;rw[zM (by rw[hcl,dI,l3];omega),jo,lZ,jo,lZ,zM hfit,hcl];simp only[jo,lZ,hget]
     by_cases ht:t<GT.sz α
     ·rw[aG ht,aG (by omega)]
      by_cases h1:t<off
      ·rw[aG (by omega),aG h1,aG ht,aG (by omega)]
      ·rw[aI (by omega),aI h1]
       by_cases h2':t<off+GT.sz β
       ·rw[aG (by omega),aG h2'];congr 1;omega
       ·rw[aI (by omega),aI h2',aG ht,aG (by omega)]
     ·rw[aI ht,aI (by omega),aI (by omega),aI ht]
    rw[heq];exact hok
   ·rw[aI hmk]at hz;have hml:=(bN.1 hz).1;have hms:=tU (sz:=GT.sz α) hml;have hok:=h7.2 m z hz;have heq:(List.drop (m*GT.sz α)<|((Gu (o+(k*GT.sz α+off)) u.cells.toList cur.toList).drop o).take<|l.length*GT.sz α).take (GT.sz α)=(List.drop (m*GT.sz α) xs).take (GT.sz α):=by
     apply List.ext_getElem?;intro t;simp only[jo,lZ,zM hfit,hcl,hget]
     by_cases ht:t<GT.sz α
     ·rw[aG ht,aG ht,aG (show m*GT.sz α+t<l.length*GT.sz α by omega),aG (show m*GT.sz α+t<l.length*GT.sz α by omega)]
      rcases Nat.lt_or_gt_of_ne hmk with h1|h1
      ·have:=tU (sz:=GT.sz α) h1;rw[aI (by omega),aI (by omega)]
      ·have:=tU (sz:=GT.sz α) h1;rw[aG (by omega)]
     ·rw[aI ht,aI ht]
    rw[heq];exact hok
theorem U3{lop hip:Option Operand}{lo hi:Int}(i:Nat)(hd:Nat.blt d n=true)(hw:Holds E w V)(hx:ev U q=v)(hi':V[i]? =some (own e v l))(hT:yI P T e (GT.sz α))(hl:lop.map (ev U)=some (.int .i64 lo)\/(lop.map (ev U)=none/\lo=0))(hb:uj l lo hi=some l')(kk:∀v',Holds E w (V.set i<|own e v' l')->RL P n ops rest (fz U d v') w Q)(hg:Wn ops U g:=by exact trivial)(hh:hip.map (ev U)=some (.int .i64 hi)\/(hip.map (ev U)=none/\hi=(l.length:Nat)):=by exact(.inl rfl)):
  RL P n ops (⟨some d, .slice T q lop hip none,ty,pos,af,g⟩::rest) U w Q:=by
 unfold uj at hb;split at hb
 ·rename_i hc;injection hb with hb
  subst hb;obtain⟨M,hs,gd⟩:=hw;have hlt:=dS hi';have hlen:((l.drop lo.toNat).take (hi - lo).toNat).length=hi.toNat - lo.toNat:=by grind
  rcases gd.sat i _ hi' with⟨rfl,rfl,hh0⟩|⟨b,o,cap,cur,xs,rfl,h2,h3,h4,h5,h6,h7⟩
  ·have hr:=zL (P:=P) (α:=α) (a:=none) (m:=0) (cap:=0) hT hl hh hc.1 hc.2.1 hc.2.2 (cH _) w;have h00:hi.toNat - lo.toNat=0:=by grind
   have hlo:lo.toNat=0:=by grind
   refine TA (v:= .slice none 0 0) hg hd ?_<|kk _ ⟨M,_,gd.update (P':=own e _ _) hlt tJ (.inl ⟨rfl,by rw[List.drop_nil,List.take_nil],rfl⟩) rfl rfl rfl (λ_ _ h=>by cases h) (λ_ _ h=>by cases h)<|λ_ _ _=>rfl⟩
   grind [execOp,bG,bP,bS]
  ·have hr:=zL (P:=P) (α:=α) (a:=some ⟨b,o,none⟩) (m:=l.length) (cap:=cap) hT hl hh hc.1 hc.2.1 hc.2.2 h2 w;have hxl:xs.length=l.length*GT.sz α:=h7.1;have hself:ox hs i (hs i)=hs:=by grind [ox]
   by_cases hce:cap=lo.toNat
   ·
    have h00:hi.toNat - lo.toNat=0:=by omega
    have hz:(l.drop lo.toNat).take (hi - lo).toNat= []:=List.eq_nil_of_length_eq_zero (by rw[hlen,h00]);have hz':l.length=cap:=by omega
    rw[hz]at kk;refine TA (v:= .slice (some ⟨b,o,none⟩) 0 0) hg hd ?_<|kk _ ⟨M,_,gd.update (P':=own e (.slice (some ⟨b,o,none⟩) 0 0) ([]:List α)) hlt (hs i) ?_ rfl rfl rfl (λb' o' hb'=>gd.le i b' o' hlt hb') (λb' o' hb'=> .inl ⟨o',hb'⟩)<|λ_ _ _=>rfl⟩
    ·grind [execOp,bG,bP,bS]
    ·exact .inr ⟨b,o,0,cur,[],rfl,cH _,by simp[maxLen],h4,by omega,by simp,Cells.nil⟩
   ·refine TA (v:= .slice (some ⟨b,o+lo.toNat*GT.sz α,none⟩) ((l.drop lo.toNat).take (hi - lo).toNat).length<|cap - lo.toNat) hg hd ?_<|kk _ ⟨M,_,gd.update (P':=own e _ _) hlt (hs i) (.inr ⟨b,o+lo.toNat*GT.sz α,cap - lo.toNat,cur,(xs.drop<|lo.toNat*GT.sz α).take<|(hi - lo).toNat*GT.sz α,rfl,?_,by omega,h4,?_,?_,?_⟩) rfl rfl rfl (λb' o' hb'=>gd.le i b' o' hlt hb') (λb' o' hb'=> .inl ⟨o',hb'⟩)<|λ_ _ _=>rfl⟩
    ·grind [execOp,bG,bP,bS,Addr.add_lit]
    ·omega
    ·rw[Nat.sub_mul];have:lo.toNat*GT.sz α<=cap*GT.sz α:=Nat.mul_le_mul_right _ (by omega);omega
    ·rw[hlen,<-h6];have e1:(hi - lo).toNat=hi.toNat - lo.toNat:=by omega
     rw[e1,List.drop_take,List.drop_drop,List.take_take];congr 1;have:hi.toNat*GT.sz α<=l.length*GT.sz α:=Nat.mul_le_mul_right _ (by have:=hc.2.2;omega);rw[Nat.sub_mul];omega
    ·refine⟨?_,λm z hz=>?_⟩
     ·rw[dI,l3,hxl,hlen];have e1:(hi - lo).toNat=hi.toNat - lo.toNat:=by omega
      have:hi.toNat*GT.sz α<=l.length*GT.sz α:=Nat.mul_le_mul_right _ (by have:=hc.2.2;omega);rw[e1,Nat.sub_mul];omega
     ·rw[jo]at hz;split at hz
      ·rename_i hm;rw[lZ]at hz;have:=h7.2 _ z hz;have hms:=tU (sz:=GT.sz α) hm;rw[List.drop_take,List.drop_drop,List.take_take,Nat.min_eq_left (by omega),<-Nat.add_mul];exact this
      ·cases hz
 ·cases hb
end
def mk{α:Type}(bytes:Nat)(z:α)(n:Int):Option (List α):=if 0<=n/\n*bytes<=140737488355328 then some (List.replicate n.toNat z)else none
def KL(P:Program)(e:TypeId){α:Type}[GT α](z0:α):Prop:=∀(M:eZ)(z:Value),(P.info? e).bind (·.zero)=some z->GT.ok M z.cells.toList z0
section
variable {α:Type}[GT α]{P:Program}{n:Nat}{U:Nat->Value}{w:World}{Q:jh}{E:World}{V:List HP}{i:Nat}
variable {ops:Array Oper}{rest:List Oper}{d:Nat}{ty t e:TypeId}{pos:String}{af:Array Edge}{g:Option (Nat×Bool)}{q r:Operand}{bytes:Nat}{l':List α}{z0:α}{k:Int}
theorem Um(k:Int)(hw:Holds E w V)(hT:wV P t e (GT.sz α) bytes)(hz0:KL P e z0)(hb:Gk.mk bytes z0 k=some l')(kk:∀v w',Holds E w' (own e v l'::V)->RL P n ops rest (fz U d v) w' Q)(hg:Wn ops U g:=by exact trivial)(hd:Nat.blt d n=true:=by exact rfl)(hx:ev U q = .int .i64 k:=by exact rfl)(hy:ev U r = .int .i64 k:=by exact rfl):RL P n ops (⟨some d, .makeSlice t q r,ty,pos,af,g⟩::rest) U w Q:=by
 obtain⟨inf,z,hi,hz,hsz,hby,hzs⟩:=hT.inf;unfold Gk.mk at hb;split at hb
 case isFalse=>cases hb
 rename_i hc;injection hb with hb
 subst hb;obtain⟨m,rfl⟩:=Int.eq_ofNat_of_zero_le hc.1;rw[cI]at kk;have h1:m*bytes<=140737488355328:=by omega
 have h2:m<=140737488355328:=Nat.le_trans (Nat.le_mul_of_pos_right _ hT.pos) h1;have hbn:(inf.bytes:Int)*(m:Int)<=281474976710656:=by
  grind
 have hr:=run_make (P:=P) w t e inf z hT.Ct hi hz .i64 .i64 m m (by omega) (Int.le_refl _) hbn (by omega);simp only[cI]at hr;refine TA (v:= .slice (some ⟨w.heap.size,0,none⟩) m m) (w':=w.alloc<|.cells (madeCells z.cells<|m*inf.size) e) hg hd ?_<|kk _ _<|hw.alloc _ λM hs gd=> .inr ⟨w.heap.size,0,m,madeCells z.cells<|m*inf.size,_,by rw[List.length_replicate],by simp,by grind [maxLen],rfl,?_,rfl,?_⟩
 ·grind [execOp,bG,bP,bS]
 ·grind [size_madeCells]
 ·have hok:=hz0 M z (by grind);have hml:(madeCells z.cells<|m*inf.size).toList.length=m*GT.sz α:=by grind [Array.length_toList,size_madeCells]
  refine⟨by grind,λa x hx=>?_⟩;rw[List.getElem?_replicate]at hx;split at hx
  ·rename_i ha;injection hx with hx
   subst hx;have hms:=tU (sz:=GT.sz α) ha;have:(List.drop (a*GT.sz α)<|(List.drop 0 (madeCells z.cells<|m*inf.size).toList).take<|(List.replicate m z0).length*GT.sz α).take (GT.sz α)=z.cells.toList:=by
    apply List.ext_getElem?;intro t;have hzl:z.cells.toList.length=GT.sz α:=by omega
    simp only[jo,lZ,List.length_replicate,jE]
    by_cases ht:t<GT.sz α
    ·have hlt:a*GT.sz α+t<(madeCells z.cells<|m*inf.size).size:=by grind
     rw[aG ht,aG (by omega),Array.getElem?_toList,jZ hlt,aP (show t<z.cells.toList.length by omega)]
     grind [madeCells,GT.sz,Nat.mul_comm,Nat.mul_add_mod,Nat.mod_eq_of_lt]
    grind
   grind
  ·cases hx
end
class KV (κ:Type) [GT κ]where
 cs:κ->List Value
 spec:∀{M:eZ}{c:List Value}{k:κ},GT.ok M c k->c=cs k
 ok:∀(M:eZ)(k:κ),GT.ok M (cs k) k
instance instKVSc {α:Type} [Sc α]:KV α:=⟨λx=>[Sc.toV x],λh=>h,λ_ _=>rfl⟩
instance instKVProd {α β:Type} [GT α] [GT β] [KV α] [KV β]:KV (α×β):=
 ⟨λx=>KV.cs x.1++KV.cs x.2,λ⟨_,_,e,h1,h2⟩=>by rw[e,KV.spec h1,KV.spec h2],λM x=>⟨_,_,rfl,KV.ok M x.1,KV.ok M x.2⟩⟩
def KV.enc{κ:Type}[GT κ][KV κ](k:κ):Value:=yV κ<|KV.cs k
theorem KV.O2{κ:Type}[GT κ][KV κ]{M:eZ}{v:Value}{k:κ}(h:yW M v k):v=KV.enc k:=by
 obtain⟨cs,e,h⟩:=h;rw[e,KV.spec h];rfl
theorem KV.rd{κ:Type}[GT κ][KV κ](M:eZ)(k:κ):yW M (KV.enc k) k:=⟨_,rfl,KV.ok M k⟩
structure CN (P:Program) (kt:TypeId) (κ:Type) [GT κ] [KV κ] [DecidableEq κ]:Prop where
 OS:∀(b:Bool)(k:κ)(w:World),(Instr.checkKey b 10000 kt<|KV.enc k).run P w = .ok () w
 eq:∀(a b:κ)(w:World),(Op.equal kt (KV.enc a)<|KV.enc b).run P w = .ok (decide<|a=b) w
 now:(∀(a b:κ),∃D,P.underlying kt=some D/\Instr.sameNow D (KV.enc a) (KV.enc b)=some (decide<|a=b))\/(∃D,P.underlying kt=some D/\∀(a b:κ),Instr.sameNow D (KV.enc a) (KV.enc b)=none)
 bits:∀(a:κ),Instr.sameBits 10000 (KV.enc a) (KV.enc a)=true
section
variable {κ ν:Type}[GT κ][KV κ][GT ν]
def qK(M:eZ):List MapEntry->List (κ×ν)->Prop
 | [],[]=>True
 |e::es,p::m=>e.key=KV.enc p.1/\yW M e.val p.2/\qK M es m
 |_,_=>False
theorem qK.mono{M M':eZ}(h:hle M M'):∀{es:List MapEntry}{m:List (κ×ν)},qK M es m->qK M' es m
 | [],[],_=>trivial
 |e::es,p::m,⟨h1,h2,h3⟩=>⟨h1,h2.mono h,qK.mono h h3⟩
 | [],_::_,h=>h.elim
 |_::_,[],h=>h.elim
def Nb(es:List MapEntry)(clock:Nat)(m:List (κ×ν)):Prop:=(∀x∈es,x.born<clock)/\(es.map (·.born)).Nodup/\(m.map Prod.fst).Nodup
def mp(v:Value)(m:List (κ×ν)):HP:=
 ⟨λM h=>∃r es clock,v = .map (some r)/\(qK M (Array.toList es) m/\Nb es.toList clock m)/\h=Gk.one r (.map es clock),λk⟨r,es,c,hv,⟨he,hst⟩,hh⟩=>⟨r,es,c,hv,⟨qK.mono k he,hst⟩,hh⟩⟩
end
section
variable {κ ν:Type}[GT κ][KV κ][DecidableEq κ][GT ν]
def nP(m:List (κ×ν))(k:κ):Option Nat:=m.findIdx?<|λp=>decide<|k=p.1
def fB(m:List (κ×ν))(k:κ)(z:ν):ν:=match m.find? (λp=>decide<|k=p.1)with|some p=>p.2|none=>z
def lV(m:List (κ×ν))(k:κ):Bool:=m.any<|λp=>decide<|k=p.1
def rp(m:List (κ×ν))(k:κ)(x:ν):List (κ×ν):=
 match m with
 | []=>[(k,x)]
 |p::m=>if k=p.1 then(k,x)::m else p::rp m k x
theorem Gv(k:κ)(x:ν):∀m:List (κ×ν),(rp m k x).map Prod.fst=if k∈m.map Prod.fst then m.map Prod.fst else m.map Prod.fst++[k]
 | []=>by simp[rp]
 |p::m=>by
  unfold rp
  by_cases h:k=p.1
  ·simp[h]
  ·rw[aI h,eY,Gv k x m];simp only[eY,eF,h,false_or];split <;> simp
theorem CO{m:List (κ×ν)}(h:(m.map Prod.fst).Nodup)(k:κ)(x:ν):((rp m k x).map Prod.fst).Nodup:=by
 rw[Gv]
 grind
theorem Nb.push{es:List MapEntry}{clock:Nat}{m:List (κ×ν)}(h:Nb es clock m)(k:κ)(x:ν){en:MapEntry}(he:en.born=clock):Nb (es++[en]) (clock+1) (rp m k x):=by
 refine⟨λy hy=>?_,?_,CO h.2.2 k x⟩
 ·rcases dD.1 hy with hy|hy
  ·have:=h.1 y hy;omega
  grind
 ·rw[fO,List.nodup_append];refine⟨h.2.1,by simp,λa ha b hb e=>?_⟩;simp at hb;obtain⟨y,hy,rfl⟩:=dV.1 ha;have:=h.1 y hy;omega
theorem Nb.modify{es:List MapEntry}{clock:Nat}{m:List (κ×ν)}(h:Nb es clock m)(k:κ)(x:ν){f:MapEntry->MapEntry}(hf:∀e,(f e).born=e.born)(a:Nat):Nb (es.modify a f) clock (rp m k x):=by
 have hm:(es.modify a f).map (·.born)=es.map (·.born):=by
  refine List.ext_getElem? λj=>?_
  grind
 refine⟨λy hy=>?_,by rw[hm];exact h.2.1,CO h.2.2 k x⟩;have hy':y.born∈(es.modify a f).map (·.born):=dV.2 ⟨y,hy,rfl⟩;rw[hm]at hy';obtain⟨z,hz,e⟩:=dV.1 hy';rw[<-e];exact h.1 z hz
variable {P:Program}{n:Nat}{U:Nat->Value}{w:World}{Q:jh}{E:World}{V:List HP}{i j l:Nat}
variable {ops:Array Oper}{rest:List Oper}{d:Nat}{ty T kt et:TypeId}{pos:String}{af:Array Edge}{g:Option (Nat×Bool)}{v kv u:Value}{q qk qv:Operand}{r:Nat}{m:List (κ×ν)}{k:κ}{x z0:ν}
theorem run_findKey(hK:CN P kt κ)(M:eZ){es:List MapEntry}(he:qK M es m)(w:World):
  ∃o,(Instr.findKey kt (KV.enc k) es).run P w = .ok o w/\
   match o with
   |some (a,y)=>∃x,nP m k=some a/\m.find? (λp=>decide (k=p.1))=some (k,x)/\yW M y x/\∃en,es[a]? =some en/\en.key=KV.enc k
   |none=>nP m k=none/\m.find? (λp=>decide (k=p.1))=none:=by
 have ask:∀(es:List MapEntry)(m:List (κ×ν))(a:Nat),qK M es m->∃o,(Instr.findAsking kt (KV.enc k) es a).run P w = .ok o w/\
   (match o with
   |some (b,y)=>∃c x,b=a+c/\nP m k=some c/\m.find? (λp=>decide (k=p.1))=some (k,x)/\yW M y x/\∃en,es[c]? =some en/\en.key=KV.enc k
   |none=>nP m k=none/\m.find? (λp=>decide (k=p.1))=none):=by
  intro es
  induction es with
  |nil=>intro m a he;cases m with
   |nil=>exact⟨none,rfl,rfl,rfl⟩
   |cons p m=>exact he.elim
  |cons en es ih=>
   intro m a he
   cases m with
   |nil=>exact he.elim
   |cons p m=>
    obtain⟨h1,h2,h3⟩:=he;obtain⟨p1,p2⟩:=p;simp only at h1 h2;rw[Instr.findAsking];simp only[bG,h1,hK.eq,bP]
    by_cases e:k=p1
    ·subst e;refine⟨some (a,en.val),by simp[bS],0,p2,rfl,?_,?_,h2,en,rfl,h1⟩
     ·simp[nP,List.findIdx?_cons]
     ·simp
    ·obtain⟨o,ho,hs⟩:=ih m (a+1) h3;refine⟨o,by grind,?_⟩
     cases o with
     |none=>
      obtain⟨s1,s2⟩:=hs;refine⟨?_,?_⟩
      ·simp only[nP,List.findIdx?_cons,bQ e]at s1 ⊢;simpa using s1
      ·simpa[List.find?_cons,bQ e]using s2
     |some by_=>
      obtain⟨b,y⟩:=by_;obtain⟨c,x,hb,s1,s2,s3,en',s4,s5⟩:=hs;refine⟨c+1,x,by omega,?_,?_,s3,en',by grind,s5⟩
      ·simp only[nP,List.findIdx?_cons,bQ e]at s1 ⊢;simp[s1]
      ·simpa[List.find?_cons,bQ e]using s2
 have asked:∃o,(Instr.findAsking kt (KV.enc k) es).run P w = .ok o w/\
   (match o with
   |some (b,y)=>∃x,nP m k=some b/\m.find? (λp=>decide (k=p.1))=some (k,x)/\yW M y x/\∃en,es[b]? =some en/\en.key=KV.enc k
   |none=>nP m k=none/\m.find? (λp=>decide (k=p.1))=none):=by
  obtain⟨o,ho,hs⟩:=ask es m 0 he;refine⟨o,ho,?_⟩
  cases o with
  |none=>exact hs
  |some by_=>
   obtain⟨b,y⟩:=by_;obtain⟨c,x,hb,rest⟩:=hs;rw[jE]at hb;subst hb;exact⟨x,rest⟩
 unfold Instr.findKey
 rcases hK.now with hnow|⟨D,hD,hno⟩
 ·obtain⟨D,hD,_⟩:=hnow k k;have hnow':∀a b:κ,Instr.sameNow D (KV.enc a) (KV.enc b)=some (decide<|a=b):=λa b=>by
   simp_all
  have fn:∀(es:List MapEntry)(m:List (κ×ν))(a:Nat),qK M es m->∃o,Instr.findNow D (KV.enc k) es a=some o/\
    (match o with
    |some (b,y)=>∃c x,b=a+c/\nP m k=some c/\m.find? (λp=>decide (k=p.1))=some (k,x)/\yW M y x/\∃en,es[c]? =some en/\en.key=KV.enc k
    |none=>nP m k=none/\m.find? (λp=>decide (k=p.1))=none):=by
   intro es
   induction es with
   |nil=>intro m a he;cases m with
    |nil=>exact⟨none,rfl,rfl,rfl⟩
    |cons p m=>exact he.elim
   |cons en es ih=>
    intro m a he
    cases m with
    |nil=>exact he.elim
    |cons p m=>
     obtain⟨h1,h2,h3⟩:=he;obtain⟨p1,p2⟩:=p;simp only at h1 h2;rw[Instr.findNow,h1,hnow']
     by_cases e:k=p1
     ·subst e;refine⟨some (a,en.val),by simp,0,p2,rfl,?_,?_,h2,en,rfl,h1⟩
      ·simp[nP,List.findIdx?_cons]
      ·simp
     ·obtain⟨o,ho,hs⟩:=ih m (a+1) h3;refine⟨o,by grind,?_⟩
      cases o with
      |none=>
       obtain⟨s1,s2⟩:=hs;refine⟨?_,?_⟩
       ·simp only[nP,List.findIdx?_cons,bQ e]at s1 ⊢;simpa using s1
       ·simpa[List.find?_cons,bQ e]using s2
      |some by_=>
       obtain⟨b,y⟩:=by_;obtain⟨c,x,hb,s1,s2,s3,en',s4,s5⟩:=hs;refine⟨c+1,x,by omega,?_,?_,s3,en',by grind,s5⟩
       ·simp only[nP,List.findIdx?_cons,bQ e]at s1 ⊢;simp[s1]
       ·simpa[List.find?_cons,bQ e]using s2
  obtain⟨o,ho,hs⟩:=fn es m 0 he
  simp_all[bG,run_underlying,bP,bS,jE]
 ·cases es with
  |nil=>
   cases m with
   |nil=>exact⟨none,by simp_all[run_underlying,Instr.findNow],rfl,rfl⟩
   |cons p m=>exact he.elim
  |cons en es=>
   obtain⟨o,ho,hs⟩:=asked;refine⟨o,?_,hs⟩
   cases m with
   |nil=>exact he.elim
   |cons p m=>
    have:Instr.findNow D (KV.enc k) (en::es) 0=none:=by rw[Instr.findNow,he.1,hno]
    simp only[bG,run_underlying hD,bP,this,ho]
theorem I5(m:List (κ×ν))(k:κ)(z:ν):fB m k z=match m.find? (λp=>decide<|k=p.1)with|some p=>p.2|none=>z:=rfl
theorem I6(m:List (κ×ν))(k:κ):lV m k=(m.find?<|λp=>decide<|k=p.1).isSome:=by
 unfold lV
 grind
theorem CP(hT:P.underlying T=some (.map kt et))(hK:CN P kt κ)(hz:∃inf z,P.info? et=some inf/\inf.zero=some z/\∀M,yW M z z0)
  (hw:Holds E w V) (hi:V[i]? =some (mp v m)) (ok:Bool):
  ∃y,(Instr.lookup T v (KV.enc k) ok).run P w = .ok (if ok then .tuple #[y, .bool<|lV m k]else y) w/\Holds E w (rd y (fB m k z0)::V):=by
 obtain⟨M,hs,gd⟩:=hw;obtain⟨r,es,clock,rfl,⟨he,hst⟩,hh⟩:=gd.sat i _ hi;have hb:=gd.le i r _ (dS hi) (by rw[hh];exact eE r _);obtain⟨o,ho,hs'⟩:=run_findKey hK M he w (k:=k);obtain⟨inf,z,hin,hzz,hzr⟩:=hz
 cases o with
 |none=>
  obtain⟨h1,h2⟩:=hs';refine⟨z,?_,Holds.D5 ⟨M,hs,gd⟩ λM' hs' gd'=>⟨?_,rfl⟩⟩
  ·simp[Instr.lookup,run_underlying hT,MapKept.run_getObj_map hb,hK.OS,ho,Result.andThen,zeroValue,typeInfo,hin,hzz,I6,h2,program,Sem.run]
  grind [I5]
 |some ay=>
  obtain⟨a,y⟩:=ay;obtain⟨x,h1,h2,h3,_⟩:=hs';refine⟨y,?_,⟨M,Gi tJ hs,gd.jq ⟨?_,rfl⟩⟩⟩
  ·simp[Instr.lookup,run_underlying hT,MapKept.run_getObj_map hb,hK.OS,ho,Result.andThen,I6,h2]
  grind [I5]
omit [DecidableEq κ]in
theorem KT(hw:Holds E w V)(hj:V[j]? =some (rd kv k)):kv=KV.enc k:=by
 obtain⟨M,hs,gd⟩:=hw;exact KV.O2 (gd.sat j _ hj).1
structure Ic (P:Program) (T kt et:TypeId) (κ ν:Type) [GT κ] [KV κ] [DecidableEq κ] [GT ν] (z0:ν):Prop where
 Ct:P.underlying T=some (.map kt et)
 key:CN P kt κ
 zero:∃inf z,P.info? et=some inf/\inf.zero=some z/\∀M,yW M z z0
theorem Vy(hg:Wn ops U g)(hd:Nat.blt d n=true)(hw:Holds E w V)(hx:ev U q=v)(hk:ev U qk=KV.enc k)(hi:V[i]? =some (mp v m))(hT:Ic P T kt et κ ν z0)
  (kk:∀y,Holds E w (rd y (fB m k z0)::V)->RL P n ops rest (fz U d<|.tuple #[y, .bool<|lV m k]) w Q):RL P n ops (⟨some d, .lookup T q qk true,ty,pos,af,g⟩::rest) U w Q:=by
 obtain⟨y,hr,hh⟩:=CP hT.Ct hT.key hT.zero hw hi true (k:=k);refine TA hg hd ?_<|kk y hh
 grind [execOp,bG,bP,bS]
theorem Vz(hg:Wn ops U g)(hd:Nat.blt d n=true)(hw:Holds E w V)(hx:ev U q=v)(hk:ev U qk=KV.enc k)(hi:V[i]? =some (mp v m))(hT:Ic P T kt et κ ν z0)
  (kk:∀y,Holds E w (rd y (fB m k z0)::V)->RL P n ops rest (fz U d y) w Q):RL P n ops (⟨some d, .lookup T q qk false,ty,pos,af,g⟩::rest) U w Q:=by
 obtain⟨y,hr,hh⟩:=CP hT.Ct hT.key hT.zero hw hi false (k:=k);refine TA hg hd ?_<|kk y hh
 grind [execOp,bG,bP,bS,Bool.false_eq_true]
theorem Vj [KV ν](i:Nat)(k:κ)(hg:Wn ops U g)(hd:Nat.blt d n=true)(hw:Holds E w V)(hx:ev U q=v)(hk:ev U qk=KV.enc k)(hi:V[i]? =some (mp v m))(hT:Ic P T kt et κ ν z0)(kk:RL P n ops rest (fz U d<|.tuple #[KV.enc<|fB m k z0, .bool<|lV m k]) w Q):RL P n ops (⟨some d, .lookup T q qk true,ty,pos,af,g⟩::rest) U w Q:=
 Vy hg hd hw hx hk hi hT λy hh=>by have:=KT hh (j:=0) rfl;rw[this];exact kk
theorem Uv [KV ν](i:Nat)(k:κ)(hg:Wn ops U g)(hw:Holds E w V)(hT:Ic P T kt et κ ν z0)(kk:RL P n ops rest (fz U d<|KV.enc<|fB m k z0) w Q)(hd:Nat.blt d n=true:=by exact rfl)(hx:ev U q=v:=by exact rfl)(hk:ev U qk=KV.enc k:=by exact rfl)(hi:V[i]? =some (mp v m):=by exact rfl):RL P n ops (⟨some d, .lookup T q qk false,ty,pos,af,g⟩::rest) U w Q:=
 Vz hg hd hw hx hk hi hT λy hh=>by have:=KT hh (j:=0) rfl;rw[this];exact kk
theorem UO(hd:Nat.blt d n=true)(hw:Holds E w V)(kk:∀v w',Holds E w' (mp v ([]:List (κ×ν))::V)->RL P n ops rest (fz U d v) w' Q)(hg:Wn ops U g:=by exact trivial):RL P n ops (⟨some d, .makeMap T none,ty,pos,af,g⟩::rest) U w Q:=by
 refine TA (v:= .map<|some w.heap.size) (w':=w.alloc<|.map #[] 0) hg hd ?_<|kk _ _<|hw.alloc _ λM hs gd=>⟨w.heap.size,#[],0,rfl,⟨trivial,by simp[Nb]⟩,rfl⟩
 rfl
theorem qK.len{M:eZ}:∀{es:List MapEntry}{m:List (κ×ν)},qK M es m->es.length=m.length
 | [],[],_=>rfl
 |_::_,_::_,⟨_,_,h3⟩=>congrArg (· +1) (qK.len h3)
 | [],_::_,h=>h.elim
 |_::_,[],h=>h.elim
theorem BO{M:eZ}{hs:Nat->eZ}{P':HP}{b c c':Nat}{es es':Array MapEntry}{Pi:HP}(gd:Good E w M hs V)(hi:V[i]? =some Pi)(hh:hs i=Gk.one b (.map es c))
  (hp:P'.ok M (Gk.one b<|.map es' c')):Holds E {w with heap:=w.heap.setIfInBounds b<|.map es' c'} (V.set i P'):=by
 have hb:=gd.le i b _ (dS hi) (by rw[hh];exact eE b _);refine⟨M,_,gd.update (dS hi) (Gk.one b<|.map es' c') hp rfl rfl rfl (λb' o' hb'=>?_) (λb' o' hb'=>?_)<|λb' hb' _=>?_⟩
 ·grind [l7,MapKept.heap_set]
 ·obtain⟨rfl,rfl⟩:=l7 hb';simp_all[eE]
 ·rw[hh]at hb'
  grind [MapKept.heap_set,eE]
theorem qK.push{M:eZ}{en:MapEntry}:∀{es:List MapEntry}{m:List (κ×ν)},qK M es m->nP m k=none->en.key=KV.enc k->yW M en.val x->qK M (es++[en]) (rp m k x)
 | [],[],_,_,h1,h2=>⟨h1,h2,trivial⟩
 |e::es,p::m,⟨a1,a2,a3⟩,hf,h1,h2=>by
  have hne:¬k=p.1:=λe=>by simp[nP,List.findIdx?_cons,e]at hf
  have hf':nP m k=none:=by simp only[nP,List.findIdx?_cons,bQ hne]at hf ⊢;simpa using hf
  show qK M (e::(es++[en])) _;unfold rp;rw[aI hne];exact⟨a1,a2,qK.push a3 hf' h1 h2⟩
 | [],_::_,h,_,_,_=>h.elim
 |_::_,[],h,_,_,_=>h.elim
theorem qK.modify{M:eZ}{f:MapEntry->MapEntry}(h1:∀e,(f e).key=KV.enc k)(h2:∀e,yW M (f e).val x):∀{es:List MapEntry}{m:List (κ×ν)}{a:Nat},qK M es m->nP m k=some a->qK M (es.modify a f) (rp m k x)
 | [],[],_,_,hf=>by simp[nP]at hf
 |e::es,p::m,a,⟨a1,a2,a3⟩,hf=>by
  unfold rp
  by_cases hk:k=p.1
  ·have ha:a=0:=by simp[nP,List.findIdx?_cons,hk]at hf;omega
   subst ha;rw[aG hk];exact⟨h1 e,h2 e,a3⟩
  ·rw[aI hk];simp only[nP,List.findIdx?_cons,bQ hk,Bool.false_eq_true,if_false,tS]at hf;obtain⟨a',hf',rfl⟩:=hf;exact⟨a1,a2,qK.modify h1 h2 a3 hf'⟩
 | [],_::_,_,h,_=>h.elim
 |_::_,[],_,h,_=>h.elim
theorem UP(i j:Nat)(k:κ)(hw:Holds E w V)(hx:ev U q=v)(hk:ev U qk=KV.enc k)(hv:ev U qv=u)(hi:V[i]? =some (mp v m))(hj:V[j]? =some (rd u x))(hT:Ic P T kt et κ ν z0)(kk:∀w',Holds E w' (V.set i<|mp v<|rp m k x)->RL P n ops rest U w' Q)(hg:Wn ops U g:=by exact trivial):RL P n ops (⟨none, .mapUpdate T q qk qv,ty,pos,af,g⟩::rest) U w Q:=by
 obtain⟨M,hs,gd⟩:=hw;obtain⟨r,es,clock,rfl,⟨he,hst⟩,hh⟩:=gd.sat i _ hi;have hu:=(gd.sat j _ hj).1;have hb:=gd.le i r _ (dS hi) (by rw[hh];exact eE r _);obtain⟨o,ho,hs'⟩:=run_findKey hT.key M he w (k:=k)
 cases o with
 |none=>
  refine Ur hg ?_<|kk _<|BO gd hi hh (es':=es.push {key:=KV.enc k,val:=u,born:=clock}) (c':=clock+1) ⟨r,_,_,rfl,⟨?_,by rw[Array.toList_push];exact hst.push k x rfl⟩,rfl⟩
  ·simp[execOp,hx,hk,hv,Instr.mapUpdate,run_underlying hT.Ct,MapKept.run_getObj_map hb,hT.key.OS,ho,MapKept.run_setObj_map _ hb]
  grind [Array.toList_push,qK.push]
 |some ay=>
  obtain⟨a,y⟩:=ay;obtain⟨x',h1,h2,h3,en,h4,h5⟩:=hs';have h4':es[a]? =some en:=by grind
  have hstay:(Instr.keyThatStays (KV.enc k)<|KV.enc k).run P w = .ok (KV.enc k) w:=by simp[Instr.keyThatStays,hT.key.bits]
  refine Ur hg ?_<|kk _<|BO gd hi hh (es':=es.modify a λe=>{e with key:=KV.enc k,val:=u}) (c':=clock) ⟨r,_,_,rfl,⟨?_,by rw[Array.toList_modify];exact hst.modify k x (f:=λe=>{e with key:=KV.enc k,val:=u}) (λ_=>rfl) a⟩,rfl⟩
  ·simp[execOp,hx,hk,hv,Instr.mapUpdate,run_underlying hT.Ct,MapKept.run_getObj_map hb,hT.key.OS,ho,MapKept.run_setObj_map _ hb,h4',h5,hstay]
  simp_all[Array.toList_modify,qK.modify]
end
@[reducible] def instKVvia{α β:Type}[GT β][KV β](f:α->β): @KV α (GT.via f):= @KV.mk α (GT.via f) (λx=>KV.cs<|f x) (λh=>KV.spec h)<|λM x=>KV.ok M<|f x
theorem CN.str{P:Program}{kt:TypeId}(h:P.underlying kt=some .string):CN P kt eJ where
 OS b k w:=MapKept.run_checkKey h (k:=Gk.str k) trivial b 9999
 eq a b w:=yZ (d:=9999) h a b w
 now:= .inl λa b=>⟨_,h,by show some ((⟨a.dL.toArray⟩:ByteArray)==⟨b.dL.toArray⟩)=_;rw[I4]⟩
 bits a:=MapKept.sameBits_self (d:= .string) (k:=Gk.str a) trivial _
theorem CN.int{P:Program}{kt:TypeId}(h:P.underlying kt=some (.int .i64)):CN P kt Int where
 OS b k w:=MapKept.run_checkKey h (k:= .int .i64 k) rfl b 9999
 eq a b w:=(kW (d:=9999) h a b w).trans (by rfl)
 now:= .inl λa b=>⟨_,h,by rfl⟩
 bits a:=MapKept.sameBits_self (d:= .int .i64) (k:= .int .i64 a) rfl _
inductive O3 (P:Program) (n:Nat) (xs:Array Value):List Field->Prop
 |nil:O3 P n xs []
 |cons {f:Field} {l:List Field} {x:Value} (hn:f.name≠ "_") (hx:∀w,(part f.type xs f.offset).run P w = .ok x w) (hc:∀b w,(Instr.checkKey b n f.type x).run P w = .ok () w) (h:O3 P n xs l):O3 P n xs (f::l)
theorem yo{P:Program}{T:TypeId}{fs:Array Field}{xs:Array Value}{n:Nat}(hu:P.underlying T=some (.struct fs))(h:O3 P n xs fs.toList)(b:Bool)(w:World):
  (Instr.checkKey b (n+1) T<|.agg xs).run P w = .ok () w:=by
 obtain⟨l⟩:=fs;rw[Instr.checkKey];simp only[bG,run_underlying hu,bP,List.forIn_toArray];simp only at h;clear hu
 induction h with
 |nil=>simp
 | @cons f l x hn hx hc h ih=>
  simp only[List.forIn_cons,hn,ne_eq,not_false_eq_true,if_true,bG,hx,hc,bP,bS]
  simp_all
theorem KU{n:Nat}{cs:List Value}(h:∀x∈cs,Instr.sameBits n x x=true):Instr.sameBits (n+1) (.agg cs.toArray) (.agg cs.toArray)=true:=by
 rw[Instr.sameBits];simp only[beq_self_eq_true,Bool.true_and,nA];intro p hp;have:∀(l:List Value)(p:Value×Value),p∈l.zip l->p.1=p.2/\p.1∈l:=by
  intro l
  induction l with
  |nil=>simp
  |cons a l ih=>
   grind [List.zip_cons_cons]
 grind
theorem CN.struct{κ:Type}[GT κ][KV κ][DecidableEq κ]{P:Program}{T:TypeId}{fs:Array Field}(hu:P.underlying T=some (.struct fs))(hag:GT.agg κ=true)(hE:Mn P T κ)
  (hc:∀k:κ,O3 P 9999 (KV.cs k).toArray fs.toList) (hb:∀(k:κ),∀x∈KV.cs k,Instr.sameBits 9999 x x=true):CN P T κ:=by
 have he:∀k:κ,KV.enc k = .agg (KV.cs k).toArray:=λk=>by grind [KV.enc,yV]
 refine⟨λb k w=>?_,λa b w=>?_, .inr ⟨_,hu,λa b=>?_⟩,λa=>?_⟩
 ·grind [yo]
 ·exact hE.eq tJ _ _ a b w (KV.ok tJ a)<|KV.ok tJ b
 ·rfl
 grind [KU]
theorem I7{ν:Type}[GT ν]{P:Program}{et:TypeId}(Z:Value){z0:ν}(hz:∀M,yW M Z z0)(h:(P.info? et).bind (·.zero)=some Z:=by kernel_rfl):∃inf z,P.info? et=some inf/\inf.zero=some z/\∀M,yW M z z0:=by
 cases e:P.info? et with
 |none=>grind
 |some inf=>grind
theorem KL.of{α:Type}[GT α]{P:Program}{e:TypeId}(Z:Value){z0:α}(hz:∀M,GT.ok M Z.cells.toList z0)(h:(P.info? e).bind (·.zero)=some Z:=by kernel_rfl):KL P e z0:=λM z hh=>by
 rw[h]at hh;injection hh with hh;subst hh;exact hz M
section
variable {P:Program}{n:Nat}{U:Nat->Value}{w:World}{Q:jh}{ops:Array Oper}{rest:List Oper}{d:Nat}{ty t u:TypeId}{pos:String}{af:Array Edge}{g:Option (Nat×Bool)}{q r:Operand}{K:IntKind}{a b:Int}
theorem Ub(a b:Int)(kk:RL P n ops rest (fz U d<|.int K (if b<a then b else a)) w Q)(hg:Wn ops U g:=by exact trivial)(hd:Nat.blt d n=true:=by exact rfl)(hx:ev U q = .int K a:=by exact rfl)(hy:ev U r = .int K b:=by exact rfl):
  RL P n ops (⟨some d, .call ⟨.builtin .min,#[q,r],#[t,u]⟩,ty,pos,af,g⟩::rest) U w Q:=by
 refine TA hg hd ?_ kk;simp[execOp,resolve,hx,hy,invoke,builtin,Builtin.min_,Builtin.min2]
theorem Us{f:Fn}{args:Array Operand}(vs:List Value)(kk:RL P n ops rest (fz U d<|.func f #[] vs.toArray) w Q)(hg:Wn ops U g:=by exact trivial)(hd:Nat.blt d n=true:=by exact rfl)(hvs:args.toList.map (ev U)=vs:=by exact rfl):RL P n ops (⟨some d, .makeFunc f #[] args,ty,pos,af,g⟩::rest) U w Q:=by
 have e:args.map (ev U)=vs.toArray:=by grind
 refine TA hg hd ?_ kk
 simp_all[execOp,Instr.makeFunc]
end
@[reducible] def vi(n:Int):Value:= .int .i64 n
@[reducible] def vb(b:Bool):Value:= .bool b
@[reducible] def vp(b o:Nat):Value:= .pointer<|some ⟨b,o,none⟩
section
variable {P:Program}{n:Nat}{U:Nat->Value}{w:World}{Q:jh}{y:Code}{ops:Array Oper}{rest:List Oper}{d:Nat}{ty T T':TypeId}{pos:String}{af:Array Edge}{q r:Operand}{K:IntKind}{id:Nat}{l:List Oper}
theorem mv(v:Value)(k:RL P n ops rest (fz U d v) w Q)(hd:Nat.blt d n=true:=by exact rfl)(hx:ev U q=v:=by exact rfl):RL P n ops (⟨some d, .move q,ty,pos,af,none⟩::rest) U w Q:=SS (hd:=hd) (hx:=hx) _ trivial k
theorem dG(v:Value)(k:RL P n ops rest (fz U d v) w Q)(hd:Nat.blt d n=true:=by exact rfl)(hx:ev U q=v:=by exact rfl):RL P n ops (⟨some d, .assign q,ty,pos,af,none⟩::rest) U w Q:=Vf trivial hd hx k
theorem ic{bop:BinOp}(a b:Int)(k:RL P n ops rest (fz U d<|.bool<|ku bop a b) w Q)(hd:Nat.blt d n=true:=by exact rfl)(hx:ev U q = .int K a:=by exact rfl)(hy:ev U r = .int K b:=by exact rfl)(hc:BM bop=true:=by exact rfl):
  RL P n ops (⟨some d, .binOp bop T q r T',ty,pos,af,none⟩::rest) U w Q:=TO (hd:=hd) (hx:=hx) (hy:=hy) (hc:=hc) _ _ trivial k
theorem sk{op:Op}{j t:Nat}{b:Bool}(ht:(ops[j]?).bind (·.dst)=some t)(hv:U t = .bool (!b)\/U t=undef)(hd:Nat.blt d n=true)
  (k:RL P n ops rest (fz U d undef) w Q):RL P n ops (⟨some d,op,ty,pos,af,some (j,b)⟩::rest) U w Q:=UW ht hv hd k
theorem cb{a b:Bool}(h:a=b):Value.bool a = .bool b:=by rw[h]
theorem w_(h:RL P n l.toArray l U w (qN P n y Q)):RC P n (.seq (.region id l.toArray false) y) U w Q:=IN<|IS h
theorem AI(h:RC P n y U w Q):RL P n ops [] U w (qN P n y Q):=By<|aC h
theorem OF{z:Code}(h:RL P n l.toArray l U w (qN P n z Q)):RL P n ops [] U w (qN P n (.seq (.region id l.toArray false) z) Q):=AI<|w_ h
theorem SU{z:Code}(h:RC P n y U w (qN P n z Q)):RL P n ops [] U w (qN P n (.seq y z) Q):=AI<|IN h
theorem Tj(h:Q .ret U w):RC P n .ret U w (qN P n y Q):=S4<|bE h
theorem TE(h:Q .ret U w):RC P n .ret U w (A0 id Q):=S4<|jM h
theorem T2(h:RC P n y U w Q):RC P n .skip U w (qN P n y Q):=Tr<|aC h
theorem Tb{z:Code}(h:RC P n y U w (qN P n z Q)):RC P n .skip U w (qN P n (.seq y z) Q):=T2<|IN h
theorem TP{z:Code}(h:RL P n l.toArray l U w (qN P n z Q)):RC P n .skip U w (qN P n (.seq (.region id l.toArray false) z) Q):=T2<|w_ h
theorem Tm{i:Nat}(h:Q (.exit i) U w):RC P n (.exit i) U w (qN P n y Q):=Vr<|Mk h
theorem Tp{b:Nat}(h:RL P n l.toArray l U w (qN P n y<|A0 b Q)):RC P n (.block b<|.seq (.region id l.toArray false) y) U w Q:=TF<|w_ h
theorem ac{d:Nat}{v:Value}{l:List (Nat×Value)}(h:U d=v)(hl:agree U l):agree U ((d,v)::l):=⟨h,hl⟩
theorem az:agree U []:=trivial
theorem oi{α:Type}{a b:α}(h:some a=some b):a=b:=by injection h
end
theorem Fo.Ey{S R β:Type}(s:S)(f:S->β)(g:R->β):(Fo.go s:Fo S R).cs f g=f s:=rfl
def bc(e:TypeId)(g:Nat)(vs:List Value):HP:=⟨λ_ h=>(∀v∈vs,v.oneCell'=true)/\h=Gk.one g (.cells vs.toArray e (0,0)),λ_ h=>h⟩
def Sv{α:Type}[GT α](vs:List Value)(x:α):HP:=⟨λM h=>GT.ok M vs x/\h=tJ,λk⟨a,b⟩=>⟨GT.mono k a,b⟩⟩
structure O4 (P:Program) (T:TypeId) (zs:List Value):Prop where
 z:∃z,(∀w,(zeroValue T).run P w = .ok z w)/\z.cells=zs.toArray
theorem O5:∀{cs:List Value}(_:cs.length=4),∃v1 v2 v3 v4:Value,cs= [v1,v2,v3,v4]
 | [v1,v2,v3,v4],_=>⟨v1,v2,v3,v4,rfl⟩
section
variable {α β:Type}[GT α][GT β]{E w:World}{V:List HP}{i j:Nat}{v:Value}{x:α}{e e':TypeId}{b:Nat}{vs:List Value}
theorem iP{l:List α}(i:Nat)(h:Holds E w V)(hi:V[i]? =some (own e v l):=by exact rfl):v.oneCell'=true:=by
 obtain⟨M,hs,g⟩:=h;exact KR<|g.sat i _ hi
theorem pA{l:List α}(i:Nat)(h:Holds E w V)(hi:V[i]? =some (rd v l):=by exact rfl):v.oneCell'=true:=by
 obtain⟨a,cap,rfl⟩:=h.slice hi;rfl
theorem N3{κ ν:Type}[GT κ][KV κ][GT ν]{m:List (κ×ν)}(h:Holds E w V)(hi:V[i]? =some (mp v m)):v.oneCell'=true:=by
 obtain⟨M,hs,g⟩:=h;obtain⟨r,es,c,rfl,_⟩:=g.sat i _ hi;rfl
theorem Holds.mx{cs:List Value}{k:Nat}{f:α->β}(h:Holds E w V)(hi:V[i]? =some (Sv cs x))(hF:Fd k f)(hv:cs[k]? =some v)(hs:GT.sz β=1)(ha:GT.agg β=false):Holds E w (rd v (f x)::V):=by
 obtain⟨M,hs',g⟩:=h;obtain⟨ho,_⟩:=g.sat i _ hi;refine⟨M,_,g.jq ⟨?_,rfl⟩⟩;have h1:=hF M cs x ho;obtain⟨hlt,rfl⟩:=bN.1 hv;have h2:(cs.drop k).take (GT.sz β)= [cs[k]]:=by
  grind [vG]
 rw[h2]at h1;refine⟨_,?_,h1⟩
 grind [yV]
theorem Holds.KW(h:Holds E w V)(hi:V[i]? =some (bc e b vs))(ho:∀M hs,Good E w M hs V->GT.ok M vs x):Holds E w (V.set i<|bx e b x):=by
 obtain⟨M,hs,g⟩:=h;obtain⟨_,hh⟩:=g.sat i _ hi;have hlt:=dS hi;refine⟨M,hs,g.os,g.tape,g.out,g.dr,g.im,λk Q hq=>?_,λk b o hk=>g.le k b o (by grind),λk b o hk=>g.dm k b o (by grind),λk l b o hk hl=>g.dj k l b o (by grind) (by grind)⟩;rw[ln]at hq;split at hq
 ·rename_i e1;subst e1;simp[hlt]at hq;subst hq;exact⟨vs,ho M hs g,hh⟩
 ·exact g.sat k Q hq
theorem ji{M:eZ}(h:yW M v x)(ha:GT.agg α=false:=by exact rfl):GT.ok M [v] x:=by
 obtain⟨cs,rfl,ho⟩:=h;have hl:=GT.len ho;rw[GT.ag1 ha]at hl
 match cs,hl with
 | [c],_=>grind [yV]
end
section
variable {P:Program}{n:Nat}{U:Nat->Value}{w:World}{Q:jh}{E:World}{V:List HP}{i j:Nat}
variable {ops:Array Oper}{rest:List Oper}{d:Nat}{ty T T' e:TypeId}{pos:String}{af:Array Edge}{g:Option (Nat×Bool)}{v v':Value}{q r:Operand}{b m:Nat}{vs:List Value}
theorem S9(i:Nat)(v:Value)(hw:Holds E w V)(hT:nN P T false 1)(k:RL P n ops rest (fz U d v) w Q)(hg:Wn ops U g:=by exact trivial)(hd:Nat.blt d n=true:=by exact rfl)(hx:ev U q = .pointer (some ⟨b,m,none⟩):=by exact rfl)(hi:V[i]? =some (bc e b vs):=by exact rfl)(hv:vs[m]? =some v:=by exact rfl):RL P n ops (⟨some d, .load T q,ty,pos,af,g⟩::rest) U w Q:=by
 obtain⟨M,hs,gd⟩:=hw;obtain⟨_,hh⟩:=gd.sat i _ hi;have hb:=gd.le i b _ (dS hi) (by rw[hh];exact eE b _);have hc:w.cell? ⟨b,m,none⟩=some v:=by rw[cell_of_row w b _ _ _ _ hb];grind
 refine TA (v:=v) hg hd ?_ k;simp[execOp,hx,Instr.loadAt,Instr.sureAddr,loadVar,hT.Mb,load,Sem.run,hc]
theorem T3(i:Nat)(v:Value)(hw:Holds E w V)(hi:V[i]? =some (bc e b vs))(hv:vs[m]? =some v')(h1:v.oneCell'=true)(hT:nN P T false 1)(k:∀w',Holds E w' (V.set i<|bc e b<|vs.set m v)->RL P n ops rest U w' Q)(hg:Wn ops U g:=by exact trivial)(hx:ev U q = .pointer (some ⟨b,m,none⟩):=by exact rfl)(hy:ev U r=v:=by exact rfl):RL P n ops (⟨none, .store T q r,ty,pos,af,g⟩::rest) U w Q:=by
 obtain⟨M,hs,gd⟩:=hw;obtain⟨hone,hh⟩:=gd.sat i _ hi;have hlt:=(bN.1 hv).1;have hb:=gd.le i b _ (dS hi) (by rw[hh];exact eE b _);have hcv:v.cells = #[v]:=by cases v <;> first|rfl|(cases h1)
 have hrun:=oy (P:=P) (v:=v) (o:=m) hT.sz (by rw[hcv];rfl) (by grind) hb (by simp;omega);have hl:(vs.toArray.toList.take m++v.cells.toList++vs.toArray.toList.drop (m+1)).toArray=(vs.set m v).toArray:=by
  grind [List.set_eq_take_append_cons_drop]
 rw[hl]at hrun;refine Ur (w':=w.setRow b (vs.set m v).toArray) hg ?_<|k _<|mw gd hi hh ⟨λu hu=>?_,rfl⟩
 ·simp_all[execOp,Instr.storeAt,Instr.sureAddr,bG,bS,bP]
 grind
theorem Ut{zs:List Value}(hw:Holds E w V)(hz:O4 P T zs)(k:∀b w',Holds E w' (bc T b zs::V)->RL P n ops rest (fz U d<|.pointer<|some ⟨b,0,none⟩) w' Q)(hg:Wn ops U g:=by exact trivial)(hd:Nat.blt d n=true:=by exact rfl)(h1:zs.all (·.oneCell')=true:=by exact rfl):RL P n ops (⟨some d, .alloc T,ty,pos,af,g⟩::rest) U w Q:=by
 obtain⟨z,hz,hs⟩:=hz.z;refine TA (w':=w.alloc<|.cells z.cells T) hg hd ?_<|k w.heap.size _<|hw.alloc _ λ_ _ _=>⟨λv hv=>nA.1 h1 v hv,by rw[hs]⟩
 simp only[execOp,Instr.alloc,newVar,newRow,newObj,bG,bS,hz,bP];rfl
theorem VA(hg:Wn ops U g)(hd:Nat.blt d n=true)(hw:Holds E w V)(hx:ev U q=v)(h1:v.oneCell'=true)
  (k:∀b w',Holds E w' (bc T b [v]::V)->RL P n ops rest (fz U d<|.pointer<|some ⟨b,0,none⟩) w' Q):RL P n ops (⟨some d, .box T q,ty,pos,af,g⟩::rest) U w Q:=by
 have hc:v.cells = #[v]:=by cases v <;> first|rfl|(cases h1)
 refine TA (w':=w.alloc<|.cells #[v] T) hg hd ?_<|k w.heap.size _<|hw.alloc _ λ_ _ _=>⟨λu hu=>by grind,rfl⟩
 simp only[execOp,hx,Instr.box,newVar,newRow,newObj,bG,bS,hc];rfl
theorem Th{a:Addr}(hg:Wn ops U g)(hd:Nat.blt d n=true)(hx:ev U q = .pointer (some a))(k:RL P n ops rest (fz U d<|.pointer<|some a) w Q):RL P n ops (⟨some d, .nilCheck q,ty,pos,af,g⟩::rest) U w Q:=by
 refine TA hg hd ?_ k
 simp_all[execOp]
end
structure SC where
 n:Int
 deriving DecidableEq,Inhabited
instance:Sc SC:=⟨λx=> .int .i32 x.n,λ_=>rfl⟩
def bs(s:eJ):ByteArray:=⟨s.dL.toArray⟩
def it(g:Nat)(s:eJ)(p:Nat):HP:=⟨λ_ h=>h=Gk.one g (.stringIter (bs s) p),λ_ h=>h⟩
section
variable {P:Program}{n:Nat}{U:Nat->Value}{w:World}{Q:jh}{E:World}{V:List HP}{i j:Nat}
variable {ops:Array Oper}{rest:List Oper}{d:Nat}{ty T:TypeId}{pos:String}{af:Array Edge}{g:Option (Nat×Bool)}{q:Operand}{b p:Nat}{s:eJ}
end
def Gx(places:List (Nat×Nat)):List Value->List (Nat×Value)->Option (List Value)
 |z,[]=>some z
 |z,(i,v)::rest=>match places[i]? with
  |some (o,1)=>if Nat.blt o z.length=true then Gx places (z.set o v) rest else none
  |_=>none
def N5:List (Nat×Value)->Prop
 | []=>True
 |(_,v)::l=>v.oneCell'=true/\N5 l
theorem Gy{places:List (Nat×Nat)}:∀{vs:List (Nat×Value)}{z cs:List Value},N5 vs->Gx places z vs=some cs->Instr.fill (places.toArray[·]?) z.toArray vs=some cs.toArray
 | [],z,cs,_,h=>by
  unfold Gx at h;injection h with h;subst h;rfl
 |(i,v)::rest,z,cs,h1,h=>by
  unfold Gx at h;unfold Instr.fill;have hc:v.cells = #[v]:=by have:=h1.1;cases v <;> first|rfl|(cases this)
  split at h
  ·rename_i o he;split at h
   ·rename_i hlt;have hlt':o<z.length:=Nat.blt_eq▸hlt;have hp:places.toArray[i]?=some (o,1):=by simpa using he
    simp only[hp,hc];rw[aI (by simp;omega)];have:=Gy h1.2 h;simpa using this
   ·cases h
  ·cases h
section
variable {P:Program}{n:Nat}{U:Nat->Value}{w:World}{Q:jh}{E:World}{V:List HP}{i j:Nat}
variable {ops:Array Oper}{rest:List Oper}{d:Nat}{ty T e:TypeId}{pos:String}{af:Array Edge}{g:Option (Nat×Bool)}{q r:Operand}{b m:Nat}{vs cs zs:List Value}
theorem UQ{parts:Array (Nat×Operand)}{places:List (Nat×Nat)}(zs cs:List Value)(hd:Nat.blt d n=true)(vs:List (Nat×Value))(hvs:parts.toList.map (λp=>(p.1,ev U p.2))=vs)(hT:yY P T places zs.toArray)(h1:N5 vs)(hf:Gx places zs vs=some cs)(k:RL P n ops rest (fz U d<|.agg cs.toArray) w Q)(hg:Wn ops U g:=by exact trivial):RL P n ops (⟨some d, .build T parts,ty,pos,af,g⟩::rest) U w Q:=by
 have e1:parts.map (λ(i,x)=>(i,ev U x))=vs.toArray:=by grind
 refine TA (v:= .agg cs.toArray) hg hd ?_ k;simp only[execOp,bG];rw[e1,hT.run]
 grind [Gy,bP,bS]
theorem Vk(i:Nat)(hg:Wn ops U g)(hw:Holds E w V)(hx:ev U q = .pointer (some ⟨b,0,none⟩))(hy:ev U r = .agg cs.toArray)(hi:V[i]? =some (bc e b vs))(h1:∀v∈cs,v.oneCell'=true)(hT:nN P T true m)(hl:vs.length=m)(hc:cs.length=m)(k:∀w',Holds E w' (V.set i<|bc e b cs)->RL P n ops rest U w' Q):RL P n ops (⟨none, .store T q r,ty,pos,af,g⟩::rest) U w Q:=by
 obtain⟨M,hs,gd⟩:=hw;obtain⟨_,hh⟩:=gd.sat i _ hi;have hb:=gd.le i b _ (dS hi) (by rw[hh];exact eE b _);have hrun:=oy (P:=P) (v:= .agg cs.toArray) (o:=0) hT.sz (by grind [Value.cells]) (by grind [Value.cells]) hb (by simp[hl]);have hd:List.drop m vs= []:=List.drop_eq_nil_of_le (by omega);simp only[jE,List.take_zero,List.nil_append,hd,qm,Array.toArray_toList,Value.cells]at hrun;refine Ur (w':=w.setRow b cs.toArray) hg ?_<|k _<|mw gd hi hh ⟨h1,rfl⟩
 simp_all[execOp,Instr.storeAt,Instr.sureAddr,bG,bS,bP]
theorem Holds.w4{α:Type}[GT α]{x:α}(h:Holds E w V)(ho:∀M hs,Good E w M hs V->GT.ok M cs x)(ha:GT.agg α=true):Holds E w (rd (.agg cs.toArray) x::V):=
 h.D5 λM hs g=>⟨⟨cs,by grind [yV],ho M hs g⟩,rfl⟩
def zP:List Value->Prop
 | []=>True
 |v::l=>v.oneCell'=true/\zP l
theorem zP.all:∀{l:List Value},zP l->∀v∈l,v.oneCell'=true
 |v::l,h,u,hu=>by
  rcases eF.1 hu with h'|h'
  ·subst h';exact h.1
  ·exact zP.all h.2 u h'
end
section
variable {α:Type}[GT α]{P:Program}{n:Nat}{U:Nat->Value}{w:World}{Q:jh}{E:World}{V:List HP}{i j:Nat}
variable {ops:Array Oper}{rest:List Oper}{d:Nat}{ty T t u e:TypeId}{pos:String}{af:Array Edge}{g:Option (Nat×Bool)}{v:Value}{q r:Operand}{l l':List α}{z0:α}{bytes:Nat}{k:Int}
def Mr(v:Value):Bool:=match v with| .slice none _ _=>true|_=>false
theorem Ie{d:Nat}(hu:P.underlying T=some (.slice e))(a:Option Addr)(m c:Nat)(w:World):(Op.equalIn (d+1) T (.slice a m c)<|.slice none 0 0).run P w = .ok (Mr<|.slice a m c) w:=by
 unfold Op.equalIn;rw[bG,run_underlying hu,bP]
 cases a <;> rfl
theorem VB{T':TypeId}(hg:Wn ops U g)(hd:Nat.blt d n=true)(hw:Holds E w V)(hx:ev U q=v)(hy:ev U r = .slice none 0 0)(hi:V[i]? =some (rd v l))(hT:P.underlying T=some (.slice e))
  (k:RL P n ops rest (fz U d<|.bool<|Mr v) w Q):RL P n ops (⟨some d, .binOp .eql T q r T',ty,pos,af,g⟩::rest) U w Q:=by
 obtain⟨a,cap,rfl⟩:=hw.slice hi;refine Uy hg hd hx hy (λ_=>by rfl) (λw=>?_) k
 grind [Ie,binOp,bG,Op.equal,Op.maxDepth,bP,bS]
theorem Holds.Q1(hw:Holds E w V)(hi:V[i]? =some (rd v l))(hn:Mr v=true):l= []:=by
 obtain⟨M,hs,gd⟩:=hw;obtain⟨a,m,cap,hv,hm,hc,hx,hel⟩:=nM.1 (gd.sat i _ hi).1;subst hv
 cases a with
 |some a=>cases hn
 |none=>
  cases l with
  |nil=>rfl
  |cons y l=>
   obtain⟨ad,cs,ha,_⟩:=hel 0 y rfl
   cases ha
end
section
variable {P:Program}{n:Nat}{U:Nat->Value}{w:World}{Q:jh}{E:World}{V:List HP}{i j:Nat}
variable {ops:Array Oper}{rest:List Oper}{d:Nat}{ty T T' t u e:TypeId}{pos:String}{af:Array Edge}{g:Option (Nat×Bool)}{v:Value}{q r:Operand}{K:IntKind}{a b:Int}
theorem Uu(a b:Int)(k:RL P n ops rest (fz U d<|.int K<|K.wrap<|Int.tdiv a b) w Q)(hg:Wn ops U g:=by exact trivial)(hd:Nat.blt d n=true:=by exact rfl)(hx:ev U q = .int K a:=by exact rfl)(hy:ev U r = .int K b:=by exact rfl)(h0:(b==0)=false:=by exact rfl):RL P n ops (⟨some d, .binOp .quo T q r T',ty,pos,af,g⟩::rest) U w Q:=by
 have hb:b≠0:=by grind
 refine Uy hg hd hx hy (λ_=>rfl) (λw=>?_) k
 grind [binOp,not_true,Op.intDiv,bS]
theorem Ui(a b:Int)(kk:RL P n ops rest (fz U d<|.int K (if a<b then b else a)) w Q)(hg:Wn ops U g:=by exact trivial)(hd:Nat.blt d n=true:=by exact rfl)(hx:ev U q = .int K a:=by exact rfl)(hy:ev U r = .int K b:=by exact rfl):
  RL P n ops (⟨some d, .call ⟨.builtin .max,#[q,r],#[t,u]⟩,ty,pos,af,g⟩::rest) U w Q:=by
 refine TA hg hd ?_ kk;simp[execOp,resolve,hx,hy,invoke,builtin,Builtin.max_,Builtin.max2]
def vw(v:Value)(lo sz:Nat):Value:=match v with| .slice a m cap=> .slice (if cap=lo then a else a.map (·.add (lo*sz))) (m - lo) (cap - lo)|_=>undef
def Ig{α:Type}(l:List α)(lo j:Int):Option α:=if 0<=j then idx l (lo+j)else none
theorem lD{α:Type}{l:List α}{lo j:Int}{x:α}(h:Ig l lo j=some x):0<=j/\idx l (lo+j)=some x:=by
 grind [Ig]
variable {α:Type}[GT α]{l:List α}{lo hi:Int}{x z0:α}{bytes:Nat}
theorem U4{lop:Option Operand}{l':List α}(i:Nat)(lo:Int)(hd:Nat.blt d n=true)(hw:Holds E w V)(hx:ev U q=v)(hi':V[i]? =some (own e v l))(hT:yI P T e (GT.sz α))(hb:uj l lo (l.length:Nat)=some l')(k:RL P n ops rest (fz U d<|vw v lo.toNat<|GT.sz α) w Q)(hg:Wn ops U g:=by exact trivial)(hl:lop.map (ev U)=some (.int .i64 lo)\/(lop.map (ev U)=none/\lo=0):=by exact(.inl rfl)):RL P n ops (⟨some d, .slice T q lop none none,ty,pos,af,g⟩::rest) U w Q:=by
 unfold uj at hb;split at hb
 case isFalse=>cases hb
 rename_i hc;obtain⟨a,cap,rfl⟩:=hw.m0 hi';obtain⟨M,hs,gd⟩:=hw;have hcap:l.length<=cap:=by
  rcases gd.sat i _ hi' with⟨h1,h2,_⟩|⟨b,o,c,cur,xs,hv,h2,_⟩
  ·grind
  grind
 refine TA hg hd ?_ k;have:=zL (P:=P) (α:=α) (a:=a) (m:=l.length) (cap:=cap) (hiv:=none) hT hl (.inr ⟨rfl,rfl⟩) hc.1 hc.2.1 (by omega) hcap w;simp only[execOp,hx,bG,Option.map_none,this,bP,bS];rfl
theorem VC{lo:Nat}{T:TypeId}(hg:Wn ops U g)(hd:Nat.blt d n=true)(hw:Holds E w V)(hx:ev U q=vw v lo (GT.sz α))(hi:V[i]? =some (own e v l))(ht:P.underlying t=some (.slice T))
  (k:RL P n ops rest (fz U d<|.int .i64<|(l.length - lo:Nat)) w Q):RL P n ops (⟨some d, .call ⟨.builtin .len,#[q],#[t]⟩,ty,pos,af,g⟩::rest) U w Q:=by
 obtain⟨a,cap,rfl⟩:=hw.m0 hi;exact UX hg hd hx ht k
theorem U5{jj:Int}(i:Nat)(lo:Int)(hd:Nat.blt d n=true)(hw:Holds E w V)(hx:ev U q=vw v lo.toNat (GT.sz α))(hy:ev U r = .int K jj)(hi:V[i]? =some (own e v l))(hT:yI P T e (GT.sz α))(h0:0<=lo)(hj0:0<=jj)(hj:idx l (lo+jj)=some x)(kk:RL P n ops rest (fz U d<|AY v (lo+jj).toNat (GT.sz α) 0) w Q)(hg:Wn ops U g:=by exact trivial):
  RL P n ops (⟨some d, .indexAddr T q r,ty,pos,af,g⟩::rest) U w Q:=by
 obtain⟨_,hx',hlt⟩:=fI hj;obtain⟨M,hs,gd⟩:=hw
 rcases gd.sat i _ hi with⟨rfl,rfl,_⟩|⟨b,o,cap,cur,xs,rfl,h2,_⟩
 ·simp at hlt
 ·have hne:cap≠lo.toNat:=by omega
  simp only[vw,aI hne,Option.map_some]at hx;have e1:AY (.slice (some ⟨b,o,none⟩) l.length cap) (lo+jj).toNat (GT.sz α) 0 = .pointer (some<|((⟨b,o,none⟩:Addr).add<|lo.toNat*GT.sz α).add<|jj.toNat*GT.sz α):=by
   have:(lo+jj).toNat=lo.toNat+jj.toNat:=by omega
   grind [AY,add_add,Nat.add_mul]
  rw[e1]at kk;refine TA hg hd ?_ kk;have hlt':jj<((l.length - lo.toNat:Nat):Int):=by omega
  simp only[execOp,hx,hy,Instr.indexAt,asIntOf,bG,bS,bP,run_underlying hT.Ct,hT.sz,hj0,hlt',and_self,if_true]
theorem Vl{op:Op}{w':World}{u:Value}(hg:Wn ops U g)(hrun:(execOp (ev U) ⟨none,op,ty,pos,af,g⟩).run P w = .ok (.value u) w')
  (k:RL P n ops rest U w' Q):RL P n ops (⟨none,op,ty,pos,af,g⟩::rest) U w Q:=by
 intro a ha;unfold wpList;rw[aG<|Wn.wanted (o:=⟨none,op,ty,pos,af,g⟩) hg ha];refine .inl ?_;unfold Oper.wp;rw[ha.ev,hrun];exact k _<|ha.CE _
theorem Vm{lo:Nat}(i:Nat)(hg:Wn ops U g)(hw:Holds E w V)(hx:ev U q=vw v lo (GT.sz α))(hi:V[i]? =some (own e v l))(hT:wV P t e (GT.sz α) bytes)(hz0:KL P e z0)(hle:lo<=l.length)(kk:∀w',Holds E w' (V.set i<|own e v<|l.take lo++List.replicate (l.length - lo) z0)->RL P n ops rest U w' Q):
  RL P n ops (⟨none, .call ⟨.builtin .clear,#[q],#[t]⟩,ty,pos,af,g⟩::rest) U w Q:=by
 by_cases hem:l.length=lo
 ·have e1:l.take lo++List.replicate (l.length - lo) z0=l:=by rw[<-hem,fG,Nat.sub_self];simp
  rw[e1,zJ hi]at kk;obtain⟨a,cap,rfl⟩:=hw.m0 hi;refine Vl (u:= .tuple #[]) hg ?_<|kk w hw
  have hv:vw (.slice a l.length cap) lo (GT.sz α) = .slice (if cap=lo then a else a.map (·.add (lo*GT.sz α))) 0 (cap - lo):=by simp only[vw,hem,Nat.sub_self]
  rw[hv]at hx;generalize (if cap=lo then a else a.map (·.add (lo*GT.sz α)))=a' at hx
  cases a' <;> simp[execOp,resolve,invoke,builtin,Builtin.clear_,hx,run_underlying hT.Ct]
 obtain⟨inf,z,hinf,hz,hsz,hby,hzs⟩:=hT.inf;obtain⟨M,hs,gd⟩:=hw
 rcases gd.sat i _ hi with⟨_,rfl,_⟩|⟨b,o,cap,cur,xs,rfl,h2,h3,h4,h5,h6,h7⟩
 ·grind
 have hne:cap≠lo:=by omega
 obtain⟨m,hm⟩:∃m,l.length=lo+(m+1):=⟨l.length - lo - 1,by omega⟩;have hv:vw (.slice (some ⟨b,o,none⟩) l.length cap) lo (GT.sz α) = .slice (some ⟨b,o+lo*GT.sz α,none⟩) (m+1) (cap - lo):=by
  simp only[vw,aI hne,Option.map_some,Addr.add_lit,hm,Nat.add_sub_cancel_left]
 rw[hv]at hx;have hb:=gd.le i b _ (dS hi) (by rw[h4];exact eE b _);have hcap:l.length*GT.sz α<=cap*GT.sz α:=Nat.mul_le_mul_right _ h2;have hcs:o+cap*GT.sz α<=cur.toList.length:=h5;generalize hzl:(Builtin.zeroCells z.cells<|m+1).toList=zl;have hzn:zl.length=(m+1)*GT.sz α:=by rw[<-hzl,Array.length_toList,size_zeroCells,hzs]
 have hlm:l.length*GT.sz α=lo*GT.sz α+(m+1)*GT.sz α:=by rw[hm,Nat.add_mul]
 have hok:∀M',GT.ok M' z.cells.toList z0:=λM'=>hz0 M' z (by rw[hinf];exact hz);have hzg:∀a t,a<m+1->t<GT.sz α->zl[a*GT.sz α+t]? =z.cells.toList[t]? :=λa t ha ht=>by
  have hms:=tU (sz:=GT.sz α) ha;have hlt:a*GT.sz α+t<(Builtin.zeroCells z.cells<|m+1).size:=by rw[size_zeroCells,hzs];omega
  have hzl2:z.cells.toList.length=GT.sz α:=by rw[Array.length_toList];exact hzs
  rw[<-hzl,Array.getElem?_toList,jZ hlt,aP (show t<z.cells.toList.length by omega)];simp only[Builtin.zeroCells,Array.getElem_map,Array.getElem_range,hzs];have hmod:(a*GT.sz α+t) % GT.sz α=t:=by rw[Nat.mul_comm,Nat.mul_add_mod,Nat.mod_eq_of_lt ht]
  rw[hmod,getElem!_pos z.cells t (by omega)];simp
 have hfit:o+lo*GT.sz α+zl.length<=cur.toList.length:=by omega
 have h1z:∀u∈zl,u.oneCell'=true:=λu hu=>by
  obtain⟨k,hk⟩:=dW hu;have hkl:=(bN.1 hk).1;have hp:0<GT.sz α:=GT.pos;have hkd:k / GT.sz α<m+1:=Nat.div_lt_of_lt_mul (by rw[Nat.mul_comm];omega);have:=hzg (k / GT.sz α) (k % GT.sz α) hkd<|Nat.mod_lt _ hp
  rw[Nat.mul_comm,Nat.div_add_mod,hk]at this;exact GT.one (hok M) u<|fQ this.symm
 have hst:=run_storeCells_at P b (o+lo*GT.sz α) e zl 0 cur w hb (by simpa[hzn]using hfit) h1z;simp only[Nat.add_zero]at hst;have hnew:cur.toList.take (o+lo*GT.sz α)++zl++cur.toList.drop (o+lo*GT.sz α+zl.length)=Gu (o+lo*GT.sz α) zl cur.toList:=rfl;rw[hnew]at hst;have hget:∀t,xs[t]? =if t<l.length*GT.sz α then cur.toList[o+t]? else none:=λt=>by rw[<-h6,jo,lZ]
 have hln:(l.take lo++List.replicate (l.length - lo) z0).length=l.length:=by rw[eL,dI,List.length_replicate];omega
 refine Vl (u:= .tuple #[]) hg ?_ (kk _ (mw (P':=own e (.slice (some ⟨b,o,none⟩) l.length cap) (l.take lo++List.replicate (l.length - lo) z0)) (new:=(Gu (o+lo*GT.sz α) zl cur.toList).toArray) gd hi h4
  (.inr ⟨b,o,cap,_,((Gu (o+lo*GT.sz α) zl cur.toList).drop o).take (l.length*GT.sz α),by rw[hln],by rw[hln];exact h2,h3,rfl,?_,by rw[hln],?_⟩)))
 ·have hzv:∀w,(zeroValue e).run P w = .ok z w:=λw=>by simp[zeroValue,typeInfo,bG,hinf,hz]
  simp[execOp,resolve,invoke,builtin,Builtin.clear_,hx,run_underlying hT.Ct,hzv,hzl,hst]
 ·rw[List.size_toArray,y5 hfit];exact hcs
 ·refine⟨by rw[dI,l3,y5 hfit,hln];omega,λa y hy=>?_⟩;have tV:a<l.length:=by rw[<-hln];exact(bN.1 hy).1
  have has:=tU (sz:=GT.sz α) tV
  by_cases hlt:a<lo
  ·rw[jB (by rw[dI];omega),jo,aG hlt]at hy;have hok':=h7.2 a y hy;have has2:=tU (sz:=GT.sz α) hlt;have heq:(List.drop (a*GT.sz α)<|((Gu (o+lo*GT.sz α) zl cur.toList).drop o).take<|l.length*GT.sz α).take (GT.sz α)=(List.drop (a*GT.sz α) xs).take (GT.sz α):=by
    apply List.ext_getElem?;intro t;simp only[jo,lZ,zM hfit,hget]
    by_cases ht:t<GT.sz α
    ·rw[aG ht,aG ht,aG (by omega),aG (by omega),aG (by omega)]
    ·rw[aI ht,aI ht]
   rw[heq];exact hok'
  ·rw[jC (by rw[dI];omega),List.getElem?_replicate]at hy;split at hy
   case isFalse=>cases hy
   injection hy with hy
   subst hy;obtain⟨a',rfl⟩:∃a',a=lo+a':=⟨a - lo,by omega⟩;have ha':a'<m+1:=by omega
   have hms:=tU (sz:=GT.sz α) ha';have heq:(List.drop ((lo+a')*GT.sz α)<|((Gu (o+lo*GT.sz α) zl cur.toList).drop o).take<|l.length*GT.sz α).take (GT.sz α)=z.cells.toList:=by
    apply List.ext_getElem?;intro t;have hzl2:z.cells.toList.length=GT.sz α:=by rw[Array.length_toList];exact hzs
    simp only[jo,lZ,zM hfit];rw[Nat.add_mul]at has ⊢
    by_cases ht:t<GT.sz α
    ·rw[aG ht,aG (by omega),aI (by omega),aG (by omega),<-hzg a' t ha' ht];congr 1;omega
    ·rw[aI ht,List.getElem?_eq_none (by omega)]
   rw[heq];exact hok M
theorem KY{α:Type}{l l':List α}{lo:Int}(h:uj l lo (l.length:Nat)=some l'):lo.toNat<=l.length:=by
 grind [uj]
theorem Ih{α:Type}{l l':List α}{lo hi:Int}(h:uj l lo hi=some l'):0<=lo:=by
 grind [uj]
end
def uK(D:Nat->Bool)(U:Nat->Value):List (Nat×Nat×Value)->Prop
 | []=>True
 |(j,d,v)::r=>(D j=false->U d=v)/\uK D U r
theorem uK.at{D:Nat->Bool}{U:Nat->Value}:∀{dv:List (Nat×Nat×Value)}(_:uK D U dv)(k:Nat){j d:Nat}{v:Value}(_:dv[k]? =some (j,d,v)),D j=false->U d=v
 | [],_,k,_,_,_,h=>by simp at h
 |(j,d,v)::r,h,0,j',d',v',e=>by simp at e;obtain⟨rfl,rfl,rfl⟩:=e;exact h.1
 |(j,d,v)::r,h,k+1,j',d',v',e=>uK.at h.2 k (by simpa using e)
theorem EA{D:Nat->Bool}{i k:Nat}(h:ins D i k=false):D k=false/\Nat.beq k i=false:=by
 grind [ins,Nat.beq]
theorem uK.no{D:Nat->Bool}{U:Nat->Value}{j:Nat}:∀{dv:List (Nat×Nat×Value)}(_:uK D U dv),uK (ins D j) U dv
 | [],_=>trivial
 |(i,d,v)::r,h=>⟨λhi=>h.1 (EA hi).1,uK.no h.2⟩
theorem uK.up{D:Nat->Bool}{U:Nat->Value}{j d:Nat}{v:Value}:∀{dv:List (Nat×Nat×Value)}(_:uK D U dv)(_:(dv.all λx=>Nat.beq x.1 j|| !Nat.beq x.2.1 d)=true),uK (ins D j) (fz U d v) dv
 | [],_,_=>trivial
 |(i,d',v')::r,h,ha=>by
  simp only[List.all_cons,cO,gR,Bool.not_eq_true']at ha;refine⟨λhi=>?_,uK.up h.2 ha.2⟩;obtain⟨h1,h2⟩:=EA hi
  rcases ha.1 with e|e
  ·rw[e]at h2;cases h2
  ·unfold fz;rw[e];exact h.1 h1
section
variable {E w:World}{M:eZ}{hs:Nat->eZ}{V:List HP}{P P1 P2:HP}{j:Nat}{h1 h2:eZ}
theorem Good.split(g:Good E w M hs V)(hj:j<V.length)(hl1:∀b o,h1 b=some o->hs j b=some o)(hl2:∀b o,h2 b=some o->hs j b=some o)
  (hd:∀b o,h1 b=some o->h2 b=none) (hp1:P1.ok M h1) (hp2:P2.ok M h2):Good E w M (Gi h1<|ox hs j h2) (P1::V.set j P2):=by
 have g2:Good E w M (ox hs j h2) (V.set j P2):=by
  have:=g.update (w':=w) (P':=P2) hj h2 hp2 rfl rfl rfl (λb o hb=>g.le j b o hj<|hl2 b o hb) (λb o hb=> .inl ⟨o,hl2 b o hb⟩)<|λb _ _=>rfl
  exact this
 refine g2.cons h1 hp1 (λb o hb=>g.le j b o hj<|hl1 b o hb) (λb o hb=>g.dm j b o hj<|hl1 b o hb)<|λi b o hi hb=>?_
 rw[iO]at hi;unfold ox;split
 ·grind
 ·rename_i hne;exact g.dj j i b o hj hi (λh=>hne h.symm)<|hl1 b o hb
theorem Good.join(g:Good E w M hs (P1::V))(hj:j<V.length)(hp:P.ok M (tK (hs 0)<|hs<|j+1)):
  Good E w M (ox (λi=>hs<|i+1) j<|tK (hs 0)<|hs<|j+1) (V.set j P):=by
 have hj1:j+1<(P1::V).length:=by grind
 have ho:∀b o,tK (hs 0) (hs<|j+1) b=some o->hs 0 b=some o\/hs (j+1) b=some o:=λb o hb=>by
  grind [tK]
 have h0:0<(P1::V).length:=by simp
 refine⟨g.os,g.tape,g.out,g.dr,g.im,λi Q hq=>?_,λi b o hi hb=>?_,λi b o hi hb=>?_,λi k b o hi hk hne hb=>?_⟩
 ·rw[ln]at hq;unfold ox
  by_cases e:j=i
  ·grind
  ·rw[aI e]at hq;rw[aI<|λh=>e h.symm];exact g.sat (i+1) Q (by grind)
 ·rw[iO]at hi;unfold ox at hb;split at hb
  ·rcases ho b o hb with h|h
   ·exact g.le 0 b o h0 h
   ·exact g.le (j+1) b o hj1 h
  ·exact g.le (i+1) b o (by grind) hb
 ·rw[iO]at hi;unfold ox at hb;split at hb
  ·rcases ho b o hb with h|h
   ·exact g.dm 0 b o h0 h
   ·exact g.dm (j+1) b o hj1 h
  ·exact g.dm (i+1) b o (by grind) hb
 ·rw[iO]at hi hk;have hi1:i+1<(P1::V).length:=by grind
  have hk1:k+1<(P1::V).length:=by grind
  unfold ox at hb ⊢;split at hb
  ·rename_i e;rw[aI<|λh=>hne<|e.trans h.symm]
   rcases ho b o hb with h|h
   ·exact g.dj 0 (k+1) b o h0 hk1 (by omega) h
   ·exact g.dj (j+1) (k+1) b o hj1 hk1 (by omega) h
  ·split
   ·rename_i e1 e2;have a1:=g.dj (i+1) 0 b o hi1 h0 (by omega) hb;have a2:=g.dj (i+1) (j+1) b o hi1 hj1 (by omega) hb
    grind [tK]
   ·exact g.dj (i+1) (k+1) b o hi1 hk1 (by omega) hb
end
structure RV where
 v:Value
 one:v.oneCell'=true
instance:Sc RV:=⟨RV.v,RV.one⟩
structure XT (ρ α:Type)where
 rest:ρ->α->Prop
 ok:eZ->eZ->ρ->α->Prop
 mono:∀{M M' h:eZ}{u:ρ}{x:α},hle M M'->ok M h u x->ok M' h u x
 res:∀{M h:eZ}{u:ρ}{x:α},ok M h u x->rest u x
def jl{ρ α:Type}(X:XT ρ α)(us:List ρ)(xs:List α)(k:Option Nat):HP:=
 ⟨λM h=>us.length=xs.length/\(∀(i:Nat)u x,us[i]? =some u->xs[i]? =some x->X.rest u x)/\∃c:Nat->Nat,(∀b o,h b=some o->c b<us.length/\k≠some (c b))/\
  ∀i u x,k≠some i->us[i]? =some u->xs[i]? =some x->X.ok M (λb=>if c b=i then h b else none) u x,
  λhk⟨h1,h0,c,h2,h3⟩=>⟨h1,h0,c,h2,λi u x hi hu hx=>X.mono hk (h3 i u x hi hu hx)⟩⟩
def Md{ρ α:Type}(X:XT ρ α)(u:ρ)(x:α):HP:=⟨λM h=>X.ok M h u x,λhk h=>X.mono hk h⟩
section
variable {ρ α:Type}{X:XT ρ α}{us:List ρ}{xs:List α}{E w:World}{V:List HP}{j i:Nat}{u u':ρ}{x x':α}
theorem Holds.eO(j:Nat)(h:Holds E w V){k:Option Nat}(hj:V[j]? =some (jl X us xs k):=by exact rfl):us.length=xs.length:=by
 obtain⟨M,hs,g⟩:=h;exact(g.sat j _ hj).1
theorem Holds.focus(h:Holds E w V)(hj:V[j]? =some (jl X us xs none))(hu:us[i]? =some u)(hx:xs[i]? =some x):Holds E w (Md X u x::V.set j (jl X us xs<|some i)):=by
 obtain⟨M,hs,g⟩:=h;obtain⟨hl,hr,c,hc,hok⟩:=g.sat j _ hj;refine⟨M,_,g.split (dS hj) (h1:=λb=>if c b=i then hs j b else none) (h2:=λb=>if c b=i then none else hs j b) (λb o hb=>?_) (λb o hb=>?_) (λb o hb=>?_) ?_ ?_⟩
 ·grind
 ·grind
 ·grind
 ·exact hok i u x (by simp) hu hx
 ·refine⟨hl,hr,c,λb o hb=>?_,λa u2 x2 ha hu2 hx2=>?_⟩
  ·grind
  grind
theorem Holds.Ms(h:Holds E w (Md X u' x'::V))(hj:V[j]? =some (jl X us xs<|some i))(hi:i<us.length):Holds E w (V.set j<|jl X (us.set i u') (xs.set i x') none):=by
 obtain⟨M,hs,g⟩:=h;have hlt:=dS hj;obtain⟨hl,hr,c,hc,hok⟩:=g.sat (j+1) _ (by simpa using hj);have h0:X.ok M (hs 0) u' x':=g.sat 0 _ rfl;have hdj:∀b o,hs 0 b=some o->hs (j+1) b=none:=λb o hb=>g.dj 0 (j+1) b o (by simp) (by grind) (by omega) hb;have hrr:∀(a:Nat)u2 x2,(us.set i u')[a]? =some u2->(xs.set i x')[a]? =some x2->X.rest u2 x2:=λa u2 x2 hu2 hx2=>by
  rw[ln]at hu2 hx2
  by_cases ha:i=a
  ·subst ha;rw[aG rfl,aG hi]at hu2;rw[aG rfl,aG (by omega)]at hx2;injection hu2 with hu2;injection hx2 with hx2
   subst hu2;subst hx2;exact X.res h0
  grind
 refine⟨M,_,g.join hlt ⟨by simp[hl],hrr,λb=>if(hs 0 b).isSome=true then i else c b,λb o hb=>?_,λa u2 x2 _ hu2 hx2=>?_⟩⟩
 ·grind [iO,tK]
 ·rw[ln]at hu2 hx2
  by_cases ha:i=a
  ·subst ha;rw[aG rfl,aG hi]at hu2;rw[aG rfl,aG (by rw[<-hl];exact hi)]at hx2;injection hu2 with hu2;injection hx2 with hx2
   subst hu2;subst hx2;have e:(λb=>if(if(hs 0 b).isSome=true then i else c b)=i then tK (hs 0) (hs<|j+1) b else none)=hs 0:=by
    funext b
    cases hb:hs 0 b with
    |some o=>simp[tK,hb]
    |none=>
     simp only[Option.isSome_none,Bool.false_eq_true,if_false];split
     ·rename_i hci;unfold tK;rw[hb]
      cases hq:hs (j+1) b with
      |none=>rfl
      |some o=>exact absurd (by rw[hci]) (hc b o hq).2
     ·rfl
   rw[e];exact h0
  ·rw[aI ha]at hu2 hx2;have:=hok a u2 x2 (λe=>ha (by injection e)) hu2 hx2;have e:(λb=>if c b=a then hs (j+1) b else none)=(λb=>if(if(hs 0 b).isSome=true then i else c b)=a then tK (hs 0) (hs<|j+1) b else none):=by
    funext b
    cases hb:hs 0 b with
    |some o=>simp[tK,hb,ha,hdj b o hb]
    |none=>simp[tK,hb]
   rw[<-e];exact this
theorem Holds.GA(h:Holds E w (Md X u' x'::V))(hj:V[j]? =some (jl X us xs none)):Holds E w (V.set j<|jl X (us++[u']) (xs++[x']) none):=by
 obtain⟨M,hs,g⟩:=h;have hlt:=dS hj;obtain⟨hl,hr,c,hc,hok⟩:=g.sat (j+1) _ (by simpa using hj);have h0:X.ok M (hs 0) u' x':=g.sat 0 _ rfl;have hdj:∀b o,hs 0 b=some o->hs (j+1) b=none:=λb o hb=>g.dj 0 (j+1) b o (by simp) (by grind) (by omega) hb;have hrr:∀(a:Nat)u2 x2,(us++[u'])[a]? =some u2->(xs++[x'])[a]? =some x2->X.rest u2 x2:=λa u2 x2 hu2 hx2=>by
  by_cases ha:a<us.length
  ·grind
  ·have hae:a=us.length:=by
    grind
   subst hae;rw[jC<|cH _,Nat.sub_self]at hu2;rw[hl,jC<|cH _,Nat.sub_self]at hx2;simp at hu2 hx2;subst hu2;subst hx2;exact X.res h0
 refine⟨M,_,g.join hlt ⟨by simp[hl],hrr,λb=>if(hs 0 b).isSome=true then us.length else c b,λb o hb=>?_,λa u2 x2 _ hu2 hx2=>?_⟩⟩
 ·refine⟨?_,by simp⟩;rw[eL];dsimp only;split
  ·simp
  ·rename_i hn;have:hs 0 b=none:=by simpa using hn
   unfold tK at hb;rw[this]at hb;have:=(hc b o hb).1;simp;omega
 ·by_cases ha:a<us.length
  ·rw[jB ha]at hu2;rw[jB (by omega)]at hx2;have:=hok a u2 x2 (by simp) hu2 hx2;have e:(λb=>if c b=a then hs (j+1) b else none)=(λb=>if(if(hs 0 b).isSome=true then us.length else c b)=a then tK (hs 0) (hs<|j+1) b else none):=by
    funext b
    cases hb:hs 0 b with
    |some o=>simp[tK,hb,hdj b o hb];omega
    |none=>simp[tK,hb]
   rw[<-e];exact this
  ·have hae:a=us.length:=by
    have:=(bN.1 hu2).1;simp at this;omega
   subst hae;rw[jC<|cH _,Nat.sub_self]at hu2;rw[hl,jC<|cH _,Nat.sub_self]at hx2;simp at hu2 hx2;subst hu2;subst hx2;have e:(λb=>if(if(hs 0 b).isSome=true then us.length else c b)=us.length then tK (hs 0) (hs<|j+1) b else none)=hs 0:=by
    funext b
    cases hb:hs 0 b with
    |some o=>simp[tK,hb]
    |none=>
     simp only[Option.isSome_none,Bool.false_eq_true,if_false];split
     ·rename_i hci;unfold tK;rw[hb]
      cases hq:hs (j+1) b with
      |none=>rfl
      |some o=>have:=(hc b o hq).1;omega
     ·rfl
   rw[e];exact h0
theorem Holds.Cv(X:XT ρ α)(h:Holds E w V):Holds E w (jl X [] [] none::V):=
 h.D5 λ_ _ _=>⟨rfl,λi u x hu=>(by simp at hu),λ_=>0,λ_ _ h=>(by cases h),λi u x _ hu=>(by simp at hu)⟩
theorem Holds.GB(h:Holds E w V){k:Option Nat}(hj:V[j]? =some (jl X us xs k))(hu:us[i]? =some u)(hx:xs[i]? =some x):X.rest u x:=by
 obtain⟨M,hs,g⟩:=h;exact(g.sat j _ hj).2.1 i u x hu hx
end
section
variable {ρ α:Type}[GT ρ]{X:XT ρ α}{us:List ρ}{xs:List α}{E w:World}{V:List HP}{j i:Nat}{e:TypeId}{v:Value}
theorem Holds.GC [GT α](hsz:GT.sz ρ=GT.sz α)(hX:∀M h u x cs,(∀b o,h b=some o->M b=none)->X.ok M h u x->GT.ok M cs u->GT.ok (tK M h) cs x)
  (h:Holds E w (jl X us xs none::V)) (hj:V[j]? =some (own e v us)):Holds E w (Gk.bM::V.set j (own e v xs)):=by
 obtain⟨M,hs,g⟩:=h;have hlt:=dS hj;obtain⟨hl,hr,c,hc,hok⟩:=g.sat 0 _ rfl;have g2:=g.freeze (P':=Gk.bM) (i:=0) (by simp) trivial;have ho:=g.sat (j+1) (own e v us) (by grind);have hnew:(own e v xs).ok (tK M<|hs 0) (hs<|j+1):=by
  rcases ho with⟨h1,h2,h3⟩|⟨b,o,cap,cur,cs,h1,h2,h3,h4,h5,h6,h7⟩
  ·subst h2;exact .inl ⟨h1,List.length_eq_zero_iff.1 (by grind),h3⟩
  ·refine .inr ⟨b,o,cap,cur,cs,by grind,by omega,h3,h4,by grind,by grind,⟨by rw[<-hl,<-hsz];exact h7.1,λa x hx=>?_⟩⟩;have ha:a<us.length:=by grind
   have hu:=aP ha
   have h9:=hX M _ _ _ _ (λb' o' hb'=>by
    split at hb'
    ·exact g.dm 0 b' o' (by simp) hb'
    ·cases hb') (hok a _ x (by simp) hu hx) (by exact h7.2 a _ hu)
   rw[<-hsz];refine GT.mono (λq o' hq=>?_) h9
   grind [tK]
 have g3:=g2.update (w':=w) (P':=own e v xs) (i:=j+1) (by grind) (hs<|j+1) hnew rfl rfl rfl
  (λb o hb=>g.le (j+1) b o (by grind) hb) (λb o hb=> .inl ⟨o,by simp_all[ox,aI]⟩) (λb _ _=>rfl)
 exact⟨_,_,g3⟩
end
section
variable {β:Type}[GT β]
def XS(e:TypeId)(β:Type)[GT β]:XT RV (List β):=⟨λ_ _=>True,λM h u l=>yX e M h u.v l,λ{M M' h u l}hk hh=>(own e u.v l).mono hk hh,λ_=>trivial⟩
theorem N7(e:TypeId)(u:RV)(l:List β):Md (XS e β) u l=own e u.v l:=rfl
theorem yX.sl{e:TypeId}{M h:eZ}{v:Value}{l:List β}(hd:∀b o,h b=some o->M b=none)(ho:yX e M h v l):qo (tK M h) v l:=by
 rcases ho with⟨rfl,rfl,_⟩|⟨b,o,cap,cur,xs,rfl,h2,h3,h4,h5,h6,h7⟩
 ·exact⟨none,0,0,rfl,rfl,cH _,by simp[maxLen],λi x hx=>by simp at hx⟩
 ·refine zI (M:=tK M h) (e:=e) (fr:=(0,0)) ?_ (h7.mono<|xW _ _) h6 h2 h3
  simp_all[eE,tK]
theorem Nc(e:TypeId)(M h:eZ)(u:RV)(l:List β)(cs:List Value)(hd:∀b o,h b=some o->M b=none)(hx:(XS e β).ok M h u l)(hc:GT.ok M cs u):GT.ok (tK M h) cs l:=
 ⟨u.v,hc,yX.sl hd hx⟩
end
def Gd:RV:=⟨.slice none 0 0,rfl⟩
def rv(v:Value):RV:=if h:v.oneCell'=true then⟨v,h⟩else Gd
theorem Mt{v:Value}(h:v.oneCell'=true):(rv v).v=v:=by unfold rv;rw[dif_pos h]
instance:Inhabited RV:=⟨Gd⟩
theorem gv{ρ α:Type}{us:List ρ}{xs:List α}{jj:Int}{x:α}(z:ρ)(hl:us.length=xs.length)(hx:idx xs jj=some x):idx us jj=some (us.getD jj.toNat z):=by
 grind [fI,Int.eq_ofNat_of_zero_le,cI,idx,aP]
structure XO {ρ α β:Type} [GT ρ] [GT β] (X:XT ρ α) (e':TypeId) (off:Nat) (f:ρ->RV) (fs:ρ->RV->ρ) (g:α->List β) (gs:α->List β->α):Prop where
 OT:Fd off f
 QQ:Fs off RV fs
 le:off+1<=GT.sz ρ
 get:∀{M h u x},X.ok M h u x->yX e' M h (f u).v (g x)
 put:∀{M h' u x r y},X.rest u x->yX e' M h' (RV.v r) y->X.ok M h' (fs u r) (gs x y)
theorem EB(e:TypeId)(β:Type)[GT β]:XO (XS e β) e 0 (λx=>x) (λ_ y=>y) (λx=>x) (λ_ y=>y):=
 ⟨Fd.self,Fs.self,cH _,λh=>h,λ_ h=>h⟩
section
variable {ρ α β:Type}[GT ρ][GT β]{X:XT ρ α}{us:List ρ}{xs:List α}{E w:World}{V:List HP}{i j k o b:Nat}{e e':TypeId}{v u:Value}{x:α}{y:List β}{jj:Int}{z:ρ}
variable {off:Nat}{f:ρ->RV}{fs:ρ->RV->ρ}{gg:α->List β}{gs:α->List β->α}
theorem OU(z:ρ)(hl:us.length=xs.length)(hx:idx xs jj=some x):us[jj.toNat]? =some (us.getD jj.toNat z):=by simp_all[fI,gv]
theorem Holds.CQ(o:XO X e' off f fs gg gs)(z:ρ)(h:Holds E w V)(hj:V[j]? =some (jl X us xs none))(hx:idx xs jj=some x):
  Holds E w (own e' (f<|us.getD jj.toNat z).v (gg x)::V.set j (jl X us xs<|some jj.toNat)):=by
 have hl:=h.eO (hj:=hj) _;have h2:=h.focus hj (OU z hl hx) (fI hx).2.1;obtain⟨M,hs,g⟩:=h2;have:=g.update (w':=w) (P':=own e' (f<|us.getD jj.toNat z).v<|gg x) (i:=0) (by simp) (hs 0) (o.get<|g.sat 0 _ rfl) rfl rfl rfl (λb o hb=>g.le 0 b o (by simp) hb) (λb o hb=> .inl ⟨o,hb⟩)<|λ_ _ _=>rfl
 exact⟨_,_,this⟩
theorem Holds.GD(o:XO X e' off f fs gg gs)(z:ρ)(h:Holds E w (own e' v y::V))(hj:V[j]? =some (jl X us xs<|some jj.toNat))(hx:idx xs jj=some x):
  Holds E w (V.set j<|jl X (us.set jj.toNat<|fs (us.getD jj.toNat z)<|rv v) (xs.set jj.toNat<|gs x y) none):=by
 have hl:=h.eO (hj:=(by simpa using hj))<|j+1
 have h1:(rv v).v=v:=by
  obtain⟨a,c,hv⟩:=h.m0 (i:=0) rfl;exact Mt (by rw[hv];rfl)
 have hr:=h.GB (j:=j+1) (by simpa using hj) (OU z hl hx) (fI hx).2.1;have h2:Holds E w (Md X (fs (us.getD jj.toNat z)<|rv v) (gs x y)::V):=by
  obtain⟨M,hs,g⟩:=h;have:=g.update (w':=w) (P':=Md X (fs (us.getD jj.toNat z)<|rv v)<|gs x y) (i:=0) (by simp) (hs 0) (o.put hr (by rw[h1];exact g.sat 0 _ rfl)) rfl rfl rfl (λb o hb=>g.le 0 b o (by simp) hb) (λb o hb=> .inl ⟨o,hb⟩)<|λ_ _ _=>rfl
  exact⟨_,_,this⟩
 exact h2.Ms hj (by simp_all[fI])
theorem Holds.EC(h:Holds E w V)(hi:V[i]? =some (own e v y)):Holds E w (rd v (rv v)::V):=by
 have h1:(rv v).v=v:=by
  obtain⟨a,c,hv⟩:=h.m0 hi;exact Mt (by rw[hv];rfl)
 have:=h.sc RV<|rv v
 simp_all[Sc.toV]
theorem Holds.Cw [GT α](hsz:GT.sz ρ=GT.sz α)(hX:∀M h u x cs,(∀b o,h b=some o->M b=none)->X.ok M h u x->GT.ok M cs u->GT.ok (tK M h) cs x)
  (h:Holds E w V) (hb:V[b]? =some (jl X us xs none)) (hj:V[j]? =some (own e v us)) (hne:b≠j):Holds E w ((V.set b Gk.bM).set j<|own e v xs):=by
 have h1:=h.pull (hi:=hb) _;have h2:=h1.GC hsz hX (j:=j) (by rw[ln,aI hne];exact hj);exact h2.drop 1 rfl
end
section
variable {ρ α β:Type}[GT ρ][GT β]{P:Program}{n:Nat}{U:Nat->Value}{w:World}{Q:jh}{E:World}{V:List HP}{i j k o b:Nat}
variable {ops:Array Oper}{rest:List Oper}{d:Nat}{ty t T e e':TypeId}{pos:String}{af:Array Edge}{g:Option (Nat×Bool)}{v vy u p:Value}{q r:Operand}
variable {X:XT ρ α}{us:List ρ}{xs xs':List α}{x:α}{y:List β}{jj:Int}{z:ρ}{bytes:Nat}
variable {off:Nat}{f:ρ->RV}{fs:ρ->RV->ρ}{gg:α->List β}{gs:α->List β->α}
theorem Uw{k0:Option Nat}(i b:Nat)(xs:List α)(hw:Holds E w V)(ht:P.underlying t=some (.slice e))(kk:RL P n ops rest (fz U d<|.int .i64 (xs.length:Nat)) w Q)(hg:Wn ops U g:=by exact trivial)(hd:Nat.blt d n=true:=by exact rfl)(hx:ev U q=v:=by exact rfl)(hi:V[i]? =some (own e' v us):=by exact rfl)(hb:V[b]? =some (jl X us xs k0):=by exact rfl):RL P n ops (⟨some d, .call ⟨.builtin .len,#[q],#[t]⟩,ty,pos,af,g⟩::rest) U w Q:=by
 have hl:=hw.eO (hj:=hb) _
 grind [TV]
theorem UR{k0:Option Nat}(i b o:Nat)(jj:Int)(O:XO X e' off f fs gg gs)(z:ρ)(hw:Holds E w V)(hx:ev U q=p)(hy:ev U r=u)(hp:KS v jj.toNat (GT.sz ρ) off p)(hi:V[i]? =some (own e v us))(hb:V[b]? =some (jl X us xs k0))(ho:V[o]? =some (own e' u y))(hxs:idx xs jj=some x)(hT:nN P T false 1)(kk:∀w',Holds E w' (((V.set i<|own e v<|us.set jj.toNat<|fs (us.getD jj.toNat z)<|rv u).set o bM).set b<|jl X (us.set jj.toNat<|fs (us.getD jj.toNat z)<|rv u) (xs.set jj.toNat<|gs x y) none)->RL P n ops rest U w' Q)(hg:Wn ops U g:=by exact trivial)(hk:k0=none\/k0=some jj.toNat:=by exact(.inr rfl))(hib:i≠b:=by decide)(hob:o≠b:=by decide)(hio:i≠o:=by decide):
  RL P n ops (⟨none, .store T q r,ty,pos,af,g⟩::rest) U w Q:=by
 have hl:=hw.eO (hj:=hb) _;have hrv:=hw.EC ho;have h3:V.length>0:=by grind
 refine UN (i:=i+1) (j:=0) (f:=fs) (y:=rv u) hg hrv hx hy hp (by simpa using hi) (OU z hl hxs) rfl O.QQ O.le hT λw' hw'=>?_;refine kk w' ?_;have hw2:Holds E w' (V.set i<|own e v<|us.set jj.toNat<|fs (us.getD jj.toNat z)<|rv u):=hw'.drop 1 rfl;have hb2:(V.set i<|own e v<|us.set jj.toNat<|fs (us.getD jj.toNat z)<|rv u)[b]? =some (jl X us xs k0):=by grind
 have ho2:(V.set i<|own e v<|us.set jj.toNat<|fs (us.getD jj.toNat z)<|rv u)[o]? =some (own e' u y):=by grind
 rcases hk with rfl|rfl
 ·have h4:=hw2.CQ O z hb2 hxs;have h5:Holds E w' ((V.set i<|own e v<|us.set jj.toNat<|fs (us.getD jj.toNat z)<|rv u).set b<|jl X us xs<|some jj.toNat):=h4.drop 1 rfl;have hb3:((V.set i<|own e v<|us.set jj.toNat<|fs (us.getD jj.toNat z)<|rv u).set b<|jl X us xs<|some jj.toNat)[b]? =some (jl X us xs<|some jj.toNat):=by
   grind
  have ho3:((V.set i<|own e v<|us.set jj.toNat<|fs (us.getD jj.toNat z)<|rv u).set b<|jl X us xs<|some jj.toNat)[o]? =some (own e' u y):=by
   grind
  have h6:=h5.pull (hi:=ho3) _;have h7:=h6.GD O z (j:=b) (by rw[ln,aI hob];exact hb3) hxs
  grind [List.set_comm,List.set_set]
 ·have h6:=hw2.pull (hi:=ho2) _;exact h6.GD O z (j:=b) (by grind) hxs
end
section
variable {α β:Type}[GT β]{P:Program}{n:Nat}{U:Nat->Value}{w:World}{Q:jh}{E:World}{V:List HP}{i j k o b:Nat}
variable {ops:Array Oper}{rest:List Oper}{d:Nat}{ty t T e e':TypeId}{pos:String}{af:Array Edge}{g:Option (Nat×Bool)}{v vy u p:Value}{q r:Operand}
variable {us:List RV}{xs xs':List (List β)}{y:List β}{jj:Int}{bytes:Nat}
theorem I8{ρ α:Type}{us:List ρ}{xs xs':List α}{x:α}{bytes:Nat}(hl:us.length=xs.length)(h:app bytes xs [x]=some xs')(u:ρ):app bytes us [u]=some (us++[u])/\xs'=xs++[x]:=by
 grind [app]
theorem Vn(i j b o:Nat)(hg:Wn ops U g)(hd:Nat.blt d n=true)(hw:Holds E w V)(hx:ev U q=v)(hy:ev U r=vy)(hi:V[i]? =some (own e v us))(hj:V[j]? =some (rd vy [rv u]))(hb:V[b]? =some (jl (XS e' β) us xs none))(ho:V[o]? =some (own e' u y))(hT:wV P t e 1 bytes)(ha:Gk.app bytes xs [y]=some xs')(kk:∀v' w',Holds E w' (((V.set i<|own e v'<|us++[rv u]).set o bM).set b<|jl (XS e' β) (us++[rv u]) xs' none)->RL P n ops rest (fz U d v') w' Q)(hib:i≠b:=by decide)(hob:o≠b:=by decide)(hio:i≠o:=by decide):
  RL P n ops (⟨some d, .call ⟨.builtin .append,#[q,r],#[t,t]⟩,ty,pos,af,g⟩::rest) U w Q:=by
 obtain⟨h1,rfl⟩:=I8 (hw.eO (hj:=hb) _) ha<|rv u
 refine TH (hg:=hg) (hd:=hd) (hx:=hx) (hy:=hy) (hi:=hi) (hj:=hj) _ _ hw hT h1 λv' w' hw'=>kk v' w' ?_;have hb2:(V.set i<|own e v'<|us++[rv u])[b]? =some (jl (XS e' β) us xs none):=by grind
 have ho2:(V.set i<|own e v'<|us++[rv u])[o]? =some (own e' u y):=by grind
 have h6:=hw'.pull (hi:=ho2) _;have h7:(rv u).v=u:=by
  obtain⟨a,c,hv⟩:=hw.m0 ho;exact Mt (by rw[hv];rfl)
 have h8:Holds E w' (Md (XS e' β) (rv u) y::(V.set i<|own e v'<|us++[rv u]).set o bM):=by
  grind [own,Md,XS,N7]
 exact h8.GA (by grind)
end
section
variable {P:Program}{n:Nat}{U:Nat->Value}{w:World}{Q:jh}{E:World}{V:List HP}{i j k o b:Nat}
variable {ops:Array Oper}{rest:List Oper}{d:Nat}{ty t T e e':TypeId}{pos:String}{af:Array Edge}{g:Option (Nat×Bool)}{v vy u p:Value}{q r:Operand}
theorem U6(cs:List Value)(hd:Nat.blt d n=true)(hw:Holds E w V)(hx:ev U q = .agg cs.toArray)(h1:∀v∈cs,v.oneCell'=true)(kk:∀b w',Holds E w' (bc T b cs::V)->RL P n ops rest (fz U d<|.pointer<|some ⟨b,0,none⟩) w' Q)(hg:Wn ops U g:=by exact trivial):RL P n ops (⟨some d, .box T q,ty,pos,af,g⟩::rest) U w Q:=by
 refine TA hg hd ?_<|kk w.heap.size (w.alloc<|.cells cs.toArray T (0,0))<|hw.alloc _ λM hs gd=>⟨h1,rfl⟩
 simp only[execOp,hx,Instr.box,newVar,newRow,newObj,bG,bS,Value.cells];rfl
end
section
variable {κ ν ρ:Type}[GT κ][KV κ][DecidableEq κ]
end
section
variable {κ β:Type}[GT κ][KV κ][DecidableEq κ][GT β]{E w:World}{V:List HP}{i j b o:Nat}{e e':TypeId}{v u:Value}{mr:List (κ×RV)}{m:List (κ×List β)}{k:κ}{y:List β}
def SD(e':TypeId)(mr:List (κ×RV))(m:List (κ×List β))(h:Option κ):HP:=
 ⟨λM hp=>mr.map Prod.fst=m.map Prod.fst/\(jl (XS e' β) (mr.map Prod.snd) (m.map Prod.snd)<|h.bind<|nP m).ok M hp,λhk⟨a,b⟩=>⟨a,(jl (XS e' β) _ _ _).mono hk b⟩⟩
theorem qK.raw{M h:eZ}(hd:∀b o,h b=some o->M b=none):∀{es:List MapEntry}{mr:List (κ×RV)}{m:List (κ×List β)},qK M es mr->mr.map Prod.fst=m.map Prod.fst->
  (∀(i:Nat)u x,(mr.map Prod.snd)[i]? =some u->(m.map Prod.snd)[i]? =some x->∃h',(∀b o,h' b=some o->h b=some o)/\yX e' M h' (RV.v u) x)->qK (tK M h) es m
 | [],[],[],_,_,_=>trivial
 |en::es,p::mr,q::m,⟨h1,h2,h3⟩,hk,hx=>by
  simp only[eY,List.cons.injEq]at hk;obtain⟨h',hs,ho⟩:=hx 0 p.2 q.2 rfl rfl;refine⟨by rw[h1,hk.1],?_,qK.raw hd h3 hk.2<|λi u x hu hx'=>hx (i+1) u x (by grind) (by grind)⟩;have:en.val=p.2.v:=H4.1 h2;rw[this];refine nM.2<|qo.mono (λb o hb=>?_)<|yX.sl (λb o hb=>hd b o<|hs b o hb) ho
  unfold tK at hb ⊢
  cases hM:M b with
  |some o'=>rw[hM]at hb;exact hb
  |none=>rw[hM]at hb;exact hs b o hb
 | [],p::mr,_,h,_,_=>h.elim
 |_::_,[],_,h,_,_=>h.elim
 | [],[],q::m,_,hk,_=>by simp at hk
 |_::_,p::mr,[],_,hk,_=>by simp at hk
end
section
variable {κ β:Type}[GT κ][KV κ][DecidableEq κ][GT β]{P:Program}{n:Nat}{U:Nat->Value}{w:World}{Q:jh}{E:World}{V:List HP}{i j b o:Nat}
variable {ops:Array Oper}{rest:List Oper}{d:Nat}{ty T kt et e':TypeId}{pos:String}{af:Array Edge}{g:Option (Nat×Bool)}{v u:Value}{q qk qv:Operand}{mr:List (κ×RV)}{m:List (κ×List β)}{k:κ}{y:List β}
end
section
variable {P:Program}{n:Nat}{U:Nat->Value}{w:World}{Q:jh}{E:World}{V:List HP}{i j k o b m:Nat}
variable {ops:Array Oper}{rest:List Oper}{d:Nat}{ty t T e e':TypeId}{pos:String}{af:Array Edge}{g:Option (Nat×Bool)}{v vy u p:Value}{q r:Operand}{cs:List Value}
theorem w5(hw:Holds E w V)(hi:V[i]? =some (bc e b cs))(hT:nN P T true m)(hl:cs.length=m):(loadVar T ⟨b,0,none⟩).run P w = .ok (.agg cs.toArray) w:=by
 obtain⟨M,hs,gd⟩:=hw;obtain⟨_,hh⟩:=gd.sat i _ hi;have hb:=gd.le i b _ (dS hi) (by rw[hh];exact eE b _);have hat:∀j u,cs[j]? =some u->w.cell? ((⟨b,0,none⟩:Addr).add j)=some u:=λj u hu=>by
  rw[Addr.add_lit,cell_of_row w b _ _ _ _ hb];grind
 unfold loadVar;simp only[bG,hT.Mb,bP,if_true,hT.sz,<-hl,run_loadCells_list w _ cs hat,bS]
theorem Vo(i:Nat)(hg:Wn ops U g)(hd:Nat.blt d n=true)(hw:Holds E w V)(hx:ev U q = .pointer (some ⟨b,0,none⟩))(hi:V[i]? =some (bc e b cs))(hT:nN P T true m)(hl:cs.length=m)(kk:RL P n ops rest (fz U d<|.agg cs.toArray) w Q):RL P n ops (⟨some d, .load T q,ty,pos,af,g⟩::rest) U w Q:=by
 refine TA hg hd ?_ kk;simp only[execOp,hx,Instr.loadAt,Instr.sureAddr,bG,bS,bP,w5 hw hi hT hl]
theorem O8{fn:Func}{R:Value->World->Prop}{t' b:Nat}(hr:fn.results = #[.cell t' T])(hw:Holds E w V)(hp:U t' = .pointer (some ⟨b,0,none⟩))(hi:V[i]? =some (bc e b cs))(hT:nN P T true m)(hl:cs.length=m)
  (h:R (.agg cs.toArray) w):lx P n fn R .ret U w:=by
 refine⟨.agg cs.toArray,λa ha=>?_,h⟩;have:=w5 (P:=P) hw hi hT hl;simp[results,hr,ha.get,hp,asAddr,this]
end
section
variable {ρ α β:Type}[GT ρ][GT α][GT β]
structure XP (X:XT ρ α) (e':TypeId) (off:Nat) (fs:ρ->RV->ρ) (gs:α->List β->α):Prop where
 QQ:Fs off RV fs
 le:off+1<=GT.sz ρ
 put:∀{M h' u x r y},X.rest u x->yX e' M h' (RV.v r) y->X.ok M h' (fs u r) (gs x y)
end
section
variable {ρ α β:Type}[GT ρ][GT α][GT β]{X:XT ρ α}{E w:World}{V:List HP}{i j:Nat}{e e':TypeId}{v:Value}{xs:List α}{f:ρ->RV}{gg:α->List β}
end
section
variable {ρ α β:Type}[GT ρ][GT α][GT β]{P:Program}{n:Nat}{U:Nat->Value}{w:World}{Q:jh}{E:World}{V:List HP}{i j k o b:Nat}
variable {ops:Array Oper}{rest:List Oper}{d:Nat}{ty t T e e':TypeId}{pos:String}{af:Array Edge}{g:Option (Nat×Bool)}{v vy u p:Value}{q r:Operand}
variable {X:XT ρ α}{us:List ρ}{xs xs':List α}{x:α}{y:List β}{jj:Int}{z:ρ}{bytes off:Nat}{f:ρ->RV}{fs:ρ->RV->ρ}{gg:α->List β}{gs:α->List β->α}
end
section
universe u v
def I9{α:Type}{β:Sort v}(o:Option α)(a:β)(f:α->β):β:=match o with|none=>a|some x=>f x
variable {α β:Type}{o:Option α}{y:α}{A:β}{B:α->β}{r:β}
theorem N8(h:o=none)(hb:I9 o A B=r):A=r:=by subst h;exact hb
theorem N9(h:o=some y)(hb:I9 o A B=r):B y=r:=by subst h;exact hb
theorem KZ{A:Prop}{B:α->Prop}(h:o=none)(hb:I9 o A B):A:=by subst h;exact hb
theorem K0{A:Prop}{B:α->Prop}(h:o=some y)(hb:I9 o A B):B y:=by subst h;exact hb
end
section
variable {ρ α β:Type}[GT ρ][GT α][GT β]{P:Program}{n:Nat}{U:Nat->Value}{w:World}{Q:jh}{E:World}{V:List HP}{i j k o b:Nat}
variable {ops:Array Oper}{rest:List Oper}{d:Nat}{ty t T e e':TypeId}{pos:String}{af:Array Edge}{g:Option (Nat×Bool)}{v vy u p:Value}{q r:Operand}
variable {X:XT ρ α}{us:List ρ}{xs xs':List α}{x xr:α}{ur:ρ}{y:List β}{jj:Int}{z:ρ}{bytes off:Nat}
theorem U7{γ:Type}[GT γ](ff:ρ->γ)(y2:γ){k0:Option Nat}(i b:Nat)(jj:Int)(OT:Fd off ff)(z:ρ)(hg:Wn ops U g)(hd:Nat.blt d n=true)(hw:Holds E w V)(hx:ev U q=p)(hp:KS v jj.toNat (GT.sz ρ) off p)(hi:V[i]? =some (own e v us))(hb:V[b]? =some (jl X us xs k0))(hxs:idx xs jj=some x)(he:∀u,X.rest u x->ff u=y2)(hT:nN P T (GT.agg γ) (GT.sz γ))(kk:∀v',Holds E w (rd v' y2::V)->RL P n ops rest (fz U d v') w Q):RL P n ops (⟨some d, .load T q,ty,pos,af,g⟩::rest) U w Q:=by
 have hl:=hw.eO (hj:=hb) _;have hr:=he _<|hw.GB hb (OU z hl hxs) (fI hxs).2.1
 grind [UE,OU]
theorem U8(i j b o:Nat)(X:XT ρ α)(ur:ρ)(xr:α)(u:Value)(y:List β)(hput:∀M h,yX e' M h (RV.v<|rv u) y->X.ok M h ur xr)(hd:Nat.blt d n=true)(hw:Holds E w V)(hx:ev U q=v)(hy:ev U r=vy)(hi:V[i]? =some (own e v us))(hj:V[j]? =some (rd vy [ur]))(hb:V[b]? =some (jl X us xs none))(ho:V[o]? =some (own e' u y))(hT:wV P t e (GT.sz ρ) bytes)(ha:Gk.app bytes xs [xr]=some xs')(kk:∀v' w',Holds E w' (((V.set i<|own e v'<|us++[ur]).set o bM).set b<|jl X (us++[ur]) xs' none)->RL P n ops rest (fz U d v') w' Q)(hg:Wn ops U g:=by exact trivial)(hib:i≠b:=by decide)(hob:o≠b:=by decide)(hio:i≠o:=by decide):
  RL P n ops (⟨some d, .call ⟨.builtin .append,#[q,r],#[t,t]⟩,ty,pos,af,g⟩::rest) U w Q:=by
 obtain⟨h1,rfl⟩:=I8 (hw.eO (hj:=hb) _) ha ur;refine TH (hg:=hg) (hd:=hd) (hx:=hx) (hy:=hy) (hi:=hi) (hj:=hj) _ _ hw hT h1 λv' w' hw'=>kk v' w' ?_;have hb2:(V.set i<|own e v'<|us++[ur])[b]? =some (jl X us xs none):=by grind
 have ho2:(V.set i<|own e v'<|us++[ur])[o]? =some (own e' u y):=by grind
 have h6:=hw'.pull (hi:=ho2) _;have h7:(rv u).v=u:=by
  obtain⟨a,c,hv⟩:=hw.m0 ho;exact Mt (by rw[hv];rfl)
 have h8:Holds E w' (Md X ur xr::(V.set i<|own e v'<|us++[ur]).set o bM):=by
  obtain⟨M,hs,gd⟩:=h6;have:=gd.update (w':=w') (P':=Md X ur xr) (i:=0) (by simp) (hs 0) (hput _ _ (by rw[h7];exact gd.sat 0 _ rfl)) rfl rfl rfl (λb o hb=>gd.le 0 b o (by simp) hb) (λb o hb=> .inl ⟨o,hb⟩)<|λ_ _ _=>rfl
  exact⟨_,_,this⟩
 exact h8.GA (by grind)
end
section
variable {P:Program}{n:Nat}{U:Nat->Value}{w:World}{Q:jh}{K:IntKind}{a b c:Int}{t u s:TypeId}
variable {ops:Array Oper}{rest:List Oper}{d:Nat}{ty:TypeId}{pos:String}{af:Array Edge}{g:Option (Nat×Bool)}{q r p:Operand}
theorem VD(hg:Wn ops U g)(hd:Nat.blt d n=true)(hx:ev U q = .int K a)(hy:ev U r = .int K b)(hz:ev U p = .int K c)(kk:RL P n ops rest (fz U d<|.int K (if(if a<b then b else a)<c then c else(if a<b then b else a))) w Q):
  RL P n ops (⟨some d, .call ⟨.builtin .max,#[q,r,p],#[t,u,s]⟩,ty,pos,af,g⟩::rest) U w Q:=by
 refine TA hg hd ?_ kk;simp[execOp,resolve,hx,hy,hz,invoke,builtin,Builtin.max_,Builtin.max2]
end
def GH(places:List (Nat×Nat)):List Value->List (Nat×List Value)->Option (List Value)
 |z,[]=>some z
 |z,(i,cs)::rest=>match places[i]? with
  |some (o,m)=>if(Nat.beq cs.length m&&Nat.ble (o+m) z.length)=true then GH places (z.take o++cs++z.drop (o+cs.length)) rest else none
  |none=>none
def fits:List (Nat×Value)->List (Nat×List Value)->Prop
 | [],[]=>True
 |(i,v)::a,(j,cs)::b=>i=j/\v.cells=cs.toArray/\fits a b
 |_,_=>False
theorem ED{places:List (Nat×Nat)}:∀{vs:List (Nat×Value)}{pcs:List (Nat×List Value)}{z cs:List Value},fits vs pcs->GH places z pcs=some cs->Instr.fill (places.toArray[·]?) z.toArray vs=some cs.toArray
 | [],[],z,cs,_,h=>by
  unfold GH at h;injection h with h;subst h;rfl
 |(i,v)::rest,(j,c)::pcs,z,cs,h1,h=>by
  obtain⟨rfl,hc,h2⟩:=h1;unfold GH at h;unfold Instr.fill;split at h
  ·rename_i o m he;split at h
   ·rename_i hlt;rw[cO]at hlt;have e1:c.length=m:=gG hlt.1;have e2:o+m<=z.length:=Nat.le_of_ble_eq_true hlt.2;have hp:places.toArray[i]?=some (o,m):=by simpa using he
    have hs:=H9 c z.toArray o (by simp;omega);have hs2:c.toArray.zipIdx.foldl (λcs(p:Value×Nat)=>cs.setIfInBounds (o+p.2) p.1) z.toArray=(z.take o++c++z.drop (o+c.length)).toArray:=by
     apply Array.toList_inj.1;rw[hs]
    simp only[hp,hc];rw[aI (by simp;omega)];rw[hs2];exact ED h2 h
   ·cases h
  ·cases h
 | [],_::_,_,_,h,_=>h.elim
 |_::_,[],_,_,h,_=>h.elim
section
variable {P:Program}{n:Nat}{U:Nat->Value}{w:World}{Q:jh}{E:World}{V:List HP}{i j:Nat}
variable {ops:Array Oper}{rest:List Oper}{d:Nat}{ty T e:TypeId}{pos:String}{af:Array Edge}{g:Option (Nat×Bool)}{q r:Operand}{b m k:Nat}{vs vs' cs zs:List Value}{v:Value}
theorem Vp{parts:Array (Nat×Operand)}{places:List (Nat×Nat)}(hg:Wn ops U g)(hd:Nat.blt d n=true)(vs:List (Nat×Value))(pcs:List (Nat×List Value))
  (hvs:parts.toList.map (λp=>(p.1,ev U p.2))=vs) (hT:yY P T places zs.toArray) (h1:fits vs pcs) (hf:GH places zs pcs=some cs)
  (k:RL P n ops rest (fz U d<|.agg cs.toArray) w Q):RL P n ops (⟨some d, .build T parts,ty,pos,af,g⟩::rest) U w Q:=by
 have e1:parts.map (λ(i,x)=>(i,ev U x))=vs.toArray:=by grind
 refine TA (v:= .agg cs.toArray) hg hd ?_ k;simp only[execOp,bG];rw[e1,hT.run]
 grind [ED,bP,bS]
theorem Holds.Ja{α:Type}[GT α]{x:α}(h:Holds E w V)(hi:V[i]? =some (rd v x))(ha:GT.agg α=true):∃cs:List Value,cs.length=GT.sz α/\v = .agg cs.toArray/\Holds E w (Sv cs x::V):=by
 obtain⟨M,hs,g⟩:=h;obtain⟨⟨cs,hv,ho⟩,_⟩:=g.sat i _ hi;refine⟨cs,GT.len ho,by grind [yV],M,_,g.jq ⟨ho,rfl⟩⟩
theorem US(i:Nat)(cs:List Value)(hd:Nat.blt d n=true)(hw:Holds E w V)(hx:ev U q = .pointer (some ⟨b,k,none⟩))(hi:V[i]? =some (bc e b vs))(hT:nN P T true m)(hc:(vs.drop k).take m=cs)(hl:cs.length=m)(kk:RL P n ops rest (fz U d<|.agg cs.toArray) w Q)(hg:Wn ops U g:=by exact trivial):RL P n ops (⟨some d, .load T q,ty,pos,af,g⟩::rest) U w Q:=by
 obtain⟨M,hs,gd⟩:=hw;obtain⟨_,hh⟩:=gd.sat i _ hi;have hb:=gd.le i b _ (dS hi) (by rw[hh];exact eE b _);have hat:∀j u,cs[j]? =some u->w.cell? ((⟨b,k,none⟩:Addr).add j)=some u:=λj u hu=>by
  rw[Addr.add_lit,cell_of_row w b _ _ _ _ hb]
  grind
 refine TA hg hd ?_ kk;have hrun:(loadVar T ⟨b,k,none⟩).run P w = .ok (.agg cs.toArray) w:=by
  unfold loadVar;simp only[bG,hT.Mb,bP,if_true,hT.sz,<-hl,run_loadCells_list w _ cs hat,bS]
 grind [execOp,Instr.loadAt,Instr.sureAddr,bG,bS,bP]
end
class Flat (α:Type) [GT α]:Prop where
 fl:∀{M M':eZ}{cs:List Value}{x:α},GT.ok M cs x->GT.ok M' cs x
instance {α:Type} [Sc α]:Flat α:=⟨λh=>h⟩
instance {α β:Type} [GT α] [GT β] [Flat α] [Flat β]:Flat (α×β):=⟨λ⟨c,d,e,h1,h2⟩=>⟨c,d,e,Flat.fl h1,Flat.fl h2⟩⟩
section
variable {α:Type}[GT α]{P:Program}{E w:World}{V:List HP}{i j:Nat}{v vy:Value}{l ys l':List α}{e t ty:TypeId}{bytes:Nat}
end
section
variable {ρ α β:Type}[GT ρ][GT α][GT β]{P:Program}{n:Nat}{U:Nat->Value}{w:World}{Q:jh}{E:World}{V:List HP}{i j k o b:Nat}
variable {ops:Array Oper}{rest:List Oper}{d:Nat}{ty t T e e':TypeId}{pos:String}{af:Array Edge}{g:Option (Nat×Bool)}{v vy u p:Value}{q r:Operand}
variable {X:XT ρ α}{us:List ρ}{xs xs':List α}{x:α}{l l':List β}{jj:Int}{z:ρ}{bytes off:Nat}{f:ρ->RV}{fs:ρ->RV->ρ}{gg:α->List β}{gs:α->List β->α}{h0:Option Nat}
theorem UT(i b:Nat)(jj:Int)(O:XO X e' off f fs gg gs)(z:ρ)(hd:Nat.blt d n=true)(hw:Holds E w V)(hx:ev U q=p)(hp:KS v jj.toNat (GT.sz ρ) off p)(hi:V[i]? =some (own e v us))(hb:V[b]? =some (jl X us xs h0))(hxs:idx xs jj=some x)(hT:nN P T false 1)(kk:RL P n ops rest (fz U d (f<|us.getD jj.toNat z).v) w Q)(hg:Wn ops U g:=by exact trivial):RL P n ops (⟨some d, .load T q,ty,pos,af,g⟩::rest) U w Q:=
 Ud (hd:=hd) (hx:=hx) (hi:=hi) (f:=f) _ hg hw hp (OU z (hw.eO (hj:=hb) _) hxs) O.OT hT kk
end
def Q3(v:Value)(k:Nat):Value:=match v with| .slice a _ cap=> .slice a k cap|_=>undef
section
variable {α:Type}[GT α]{M:eZ}{xs:List Value}{l:List α}{k:Nat}
theorem Cells.take(h:Cells M xs l)(hk:k<=l.length):Cells M (xs.take<|k*GT.sz α) (l.take k):=by
 have hx:=h.1;have hm:k*GT.sz α<=l.length*GT.sz α:=Nat.mul_le_mul_right _ hk;refine⟨by grind,λi x hi=>?_⟩;rw[jo]at hi;split at hi
 case isFalse=>cases hi
 rename_i hlt;have hb:i*GT.sz α+GT.sz α<=k*GT.sz α:=by
  calc i*GT.sz α+GT.sz α=(i+1)*GT.sz α:=by rw[Nat.add_mul,Nat.one_mul]
   _<=k*GT.sz α:=Nat.mul_le_mul_right _ hlt
 have:=h.2 i x hi
 grind [List.drop_take,Nat.min_eq_left]
theorem Cells.drop(h:Cells M xs l)(hk:k<=l.length):Cells M (xs.drop<|k*GT.sz α) (l.drop k):=by
 have hx:=h.1;refine⟨by grind [l3,Nat.sub_mul],λi x hi=>?_⟩;rw[lZ]at hi;have:=h.2 _ x hi
 grind [List.drop_drop,Nat.add_mul]
end
section
variable {α:Type}[GT α]{P:Program}{T e:TypeId}{lo hi:Int}
theorem K2{a:Option Addr}{m cap:Nat}(hT:yI P T e (GT.sz α))(h0:0<=lo)(h1:lo<=hi)(h2:hi<=cap)(w:World):
  (Instr.sliceAt T (.slice a m cap) (some<|.int .i64 lo) (some<|.int .i64 hi) none).run P w = .ok (.slice (if cap=lo.toNat then a else a.map (·.add (lo.toNat*GT.sz α))) (hi.toNat - lo.toNat)<|cap - lo.toNat) w:=by
 have eh:(Instr.sliceBounds true m cap (some<|.int .i64 lo) (some<|.int .i64 hi) none).run P w = .ok (lo.toNat,hi.toNat,cap) w:=by
  unfold Instr.sliceBounds;have e1:∀(y:Nat)(c:BoundsCode),hi<=y->(Instr.sliceBound (.int .i64 hi) y c).run P w = .ok hi.toNat w:=λy c hy=>by
   simp[Instr.sliceBound,asIntOf,show 0<=hi by omega,hy]
  grind [Instr.sliceBound,asIntOf,bG,bS,bP]
 unfold Instr.sliceAt;simp only[bG,run_underlying hT.Ct,bP];unfold Instr.slice;simp only[bG,run_underlying hT.Ct,bP,eh,hT.sz,bS]
end
section
variable {α:Type}[GT α]{P:Program}{n:Nat}{U:Nat->Value}{w:World}{Q:jh}{E:World}{V:List HP}{i j k:Nat}
variable {ops:Array Oper}{rest:List Oper}{d:Nat}{ty t T e:TypeId}{pos:String}{af:Array Edge}{g:Option (Nat×Bool)}{v u:Value}{q r:Operand}{l l':List α}{lo hi:Int}{bytes:Nat}
theorem Jb(hw:Holds E w V)(hi':V[i]? =some (own e v l)):∃a cap,v = .slice a l.length cap/\l.length<=cap:=by
 obtain⟨M,hs,gd⟩:=hw
 rcases gd.sat i _ hi' with⟨h1,h2,_⟩|⟨b,o,c,cur,xs,hv,h2,_⟩
 ·grind
 grind
theorem VP{hip:Option Operand}(hg:Wn ops U g)(hd:Nat.blt d n=true)(hw:Holds E w V)(hx:ev U q=v)(hi':V[i]? =some (own e v l))(hT:yI P T e (GT.sz α))
  (hh:hip.map (ev U)=some (.int .i64 hi)) (h0:0<=hi) (h1:hi<=(l.length:Nat)) (kk:RL P n ops rest (fz U d<|Q3 v hi.toNat) w Q):
  RL P n ops (⟨some d, .slice T q none hip none,ty,pos,af,g⟩::rest) U w Q:=by
 obtain⟨a,cap,rfl,hcap⟩:=Jb hw hi';refine TA hg hd ?_ kk;have:=zL (P:=P) (α:=α) (a:=a) (m:=l.length) (cap:=cap) (lo:=0) (hi:=hi) (lov:=none) (hiv:=hip.map<|ev U) hT (.inr ⟨rfl,rfl⟩) (.inl hh) (Int.le_refl _) h0 h1 hcap w;simp only[execOp,hx,bG,Option.map_none,this,bP,bS];simp only[Q3,Int.toNat_zero,Nat.sub_zero,Nat.zero_mul]
 by_cases h0:cap=0
 ·rw[aG h0]
 ·rw[aI h0];cases a <;> rfl
theorem VQ{lop hip:Option Operand}(hg:Wn ops U g)(hd:Nat.blt d n=true)(hw:Holds E w V)(hx:ev U q=Q3 v k)(hi':V[i]? =some (own e v l))(hT:yI P T e (GT.sz α))(hk:k<=l.length)
  (hl:lop.map (ev U)=some (.int .i64 (k:Nat))) (hh:hip.map (ev U)=some (.int .i64 (l.length:Nat))) (kk:RL P n ops rest (fz U d<|vw v k<|GT.sz α) w Q):
  RL P n ops (⟨some d, .slice T q lop hip none,ty,pos,af,g⟩::rest) U w Q:=by
 obtain⟨a,cap,rfl,hcap⟩:=Jb hw hi';refine TA hg hd ?_ kk;have hx':ev U q = .slice a k cap:=hx;have:=K2 (P:=P) (α:=α) (a:=a) (m:=k) (cap:=cap) (lo:=(k:Nat)) (hi:=(l.length:Nat)) hT (by omega) (by omega) (by omega) w;simp only[execOp,hx',bG,Option.map_none,hl,hh,this,bP,bS];rfl
end
end Go.Gk
namespace Go.Gk
open Go IntKind Go.Sort
def w6(l:List Int):Option (List Int):=if l.length<4611686018427387904 then some (l.mergeSort λx y=>decide<|x<=y)else none
section
variable {α:Type}[GT α]
def Me{β:Type}(cf:β->β->Int)(x y:β):Bool:=decide<|cf x y<0
def GI(φ:α->α->Option Int)(l:List α)(i j:Fin l.length):Int:=(φ l[i] l[j]).getD 0
def Jc(φ:α->α->Option Int)(l:List α):List α:=
 if h:0<l.length then
  haveI:Inhabited (Fin l.length):=⟨⟨0,h⟩⟩
  ((pdq (Me<|GI φ l) (Array.ofFn λi:Fin l.length=>i) 0 l.length (Lib.bitLen l.length) true true).toList.map λi=>l[i])
 else l
open Classical in
noncomputable def zR(φ:α->α->Option Int)(l:List α):Option (List α):=
 if((∀i j:Fin l.length,∃c,φ l[i] l[j]=some c)/\SWO (Me<|GI φ l))/\l.length<4611686018427387904 then some (Jc φ l)else none
end
end Go.Gk
namespace Go.Gk
open Go IntKind
def w7:Op->Bool
 | .move _| .assign _| .pick .. | .load .. | .nilCheck _| .binOp .. | .unOp .. | .fieldAddr .. | .indexAddr .. | .index .. | .field .. | .extract .. | .slice .. | .lookup .. | .build .. | .makeFunc .. =>true
 | .call ⟨.builtin .len,_,_⟩| .call ⟨.builtin .cap,_,_⟩| .call ⟨.builtin .min,_,_⟩| .call ⟨.builtin .max,_,_⟩=>true
 |_=>false
theorem qw{α:Type}{s:Sem α}{P:Program}{w w':World}{f:α->Value}{nx:Next}(h:(do let a <-s;pure (.value<|f a):Sem Next).run P w = .ok nx w'):∃v,nx = .value v:=by
 rw[bG]at h
 cases hr:s.run P w with
 |ok a w1=>grind [Result.andThen,bS]
 |halt x w1=>simp_all
theorem GJ{ρ:Operand->Value}{o:Oper}{P:Program}{w w':World}{nx:Next}(hk:w7 o.op=true)(h:(execOp ρ o).run P w = .ok nx w'):∃v,nx = .value v:=by
 obtain⟨dst,op,ty,pos,af,g⟩:=o
 cases op
 case move x=>grind [execOp,bS]
 case assign x=>grind [execOp,bS]
 case pick c a b=>exact qw (s:=asBool<|ρ c) (f:=λt=>if t then ρ a else ρ b) h
 case load t a=>exact qw h
 case binOp a b c d e=>
  simp only[execOp]at h;exact qw h
 case unOp a b c=>exact qw h
 case fieldAddr a b c=>exact qw h
 case indexAddr a b c=>exact qw h
 case index a b c=>exact qw h
 case field a b c=>exact qw h
 case extract a b=>exact qw h
 case slice a b c d e=>exact qw h
 case lookup a b c d=>exact qw h
 case build a b=>exact qw h
 case makeFunc a b c=>exact qw h
 case nilCheck x=>
  simp only[execOp]at h;split at h
  ·cases h
  ·cases h
  ·cases h
  ·split at h
   ·cases h
   ·rw[bG]at h
    cases h1:program.run P w with
    |halt x w1=>simp_all
    |ok p w1=>
     rw[h1]at h;simp only[Result.andThen,bG]at h;split at h
     ·rename_i r w2 h2;split at h
      ·simp_all
      grind [bS]
     ·cases h
   grind [bS]
  grind [bS]
 case call c=>
  obtain⟨cal,args,ts⟩:=c
  cases cal with
  |builtin b=>
   cases b <;> first
    |(cases hk;done)
    |(simp only[execOp,resolve,bG,bS,Result.andThen,invoke,builtin]at h;exact qw (by rw[bG];exact h))
  |value f=>cases hk
  |invoke r m=>cases hk
 all_goals cases hk
theorem Sl.uniq{n:Nat}{U σ':Nat->Value}{a:Act}(h:Sl n U a)(h':Sl n σ' a):U=σ':=funext λt=>(h.get t).symm.trans<|h'.get t
section
variable {P:Program}{n:Nat}{ops:Array Oper}{w:World}{Q:jh}{U:Nat->Value}{o:Oper}{rest l:List Oper}
def RO(P:Program)(n:Nat)(ops:Array Oper)(w:World)(Q:jh):List Oper->(Nat->Value)->Prop
 | [],U=>Q .normal U w
 |o::rest,U=>RL P n ops [o] U w (λex σ' w'=>ex = .normal/\w'=w/\RO P n ops w Q rest σ')
theorem TR(h:RL P n ops [o] U w (λex σ' w'=>ex = .normal/\w'=w/\RO P n ops w Q rest σ')):RO P n ops w Q (o::rest) U:=h
theorem AS(h:RL P n ops [o] U w (λex σ' w'=>ex = .normal/\w'=w/\RO P n ops w Q rest σ')):RL P n ops [] U w (λex σ' w'=>ex = .normal/\w'=w/\RO P n ops w Q (o::rest) σ'):=By ⟨rfl,rfl,h⟩
theorem TL(h:Q .normal U w):RL P n ops [] U w (λex σ' w'=>ex = .normal/\w'=w/\RO P n ops w Q [] σ'):=By ⟨rfl,rfl,h⟩
def Ge(P:Program)(ops:Array Oper)(w:World)(a:Act)(o:Oper)(v:Value):Prop:=
 (Region.wanted o (yielded ops a.tmps)=true/\(execOp a.eval o).run P w = .ok (.value v) w)\/(Region.wanted o (yielded ops a.tmps)=false/\v=undef)
theorem VE{a:Act}{d:Nat}(hs:Sl n U a)(hk:w7 o.op=true)(hd:o.dst=some d)(hdn:Nat.blt d n=true)(h:RO P n ops w Q (o::rest) U):
  ∃v,Ge P ops w a o v/\RO P n ops w Q rest (fz U d v):=by
 have h1:=h a hs;unfold wpList at h1;split at h1
 ·rename_i hw
  rcases h1 with h1|⟨_,h1⟩
  ·unfold Oper.wp at h1
   cases hr:(execOp a.eval o).run P w with
   |ok nx w'=>
    rw[hr]at h1;obtain⟨v,rfl⟩:=GJ hk hr;obtain⟨σ',hs',_,hw',hrest⟩:=h1;have hw':w'=w:=hw';subst hw';rw[hd]at hs';have:=hs'.uniq<|hs.put hdn v
    subst this;exact⟨v, .inl ⟨hw,hr⟩,hrest⟩
   |halt x w'=>
    rw[hr]at h1
    cases x with
    |panic v=>obtain⟨_,_,hbad,_⟩:=h1;cases hbad
    |_=>exact h1.elim
  ·obtain⟨_,_,_,_,hbad,_⟩:=h1;cases hbad
 ·rename_i hw;obtain⟨σ',hs',_,_,hrest⟩:=h1;rw[hd]at hs';have:=hs'.uniq<|hs.put hdn undef
  subst this;exact⟨undef, .inr ⟨by grind,rfl⟩,hrest⟩
def Ce(U:Nat->Value):List Oper->List Value->(Nat->Value)
 |o::l,v::vs=>Ce (match o.dst with|some d=>fz U d v|none=>U) l vs
 |_,_=>U
theorem VF:∀(l:List Oper)(U:Nat->Value)(a:Act),Sl n U a->(∀o∈l,w7 o.op=true/\∃d,o.dst=some d/\Nat.blt d n=true)->RO P n ops w Q l U->
  ∃vs:List Value,vs.length=l.length/\Q .normal (Ce U l vs) w/\∀(j:Nat)o v,l[j]? =some o->vs[j]? =some v->∃aj,Sl n (Ce U (l.take j)<|vs.take j) aj/\Ge P ops w aj o v:=by
 intro l
 induction l with
 |nil=>intro U a hs _ h;exact⟨[],rfl,h,λj o v ho=>by simp at ho⟩
 |cons o l ih=>
  intro U a hs hk h;obtain⟨hk1,d,hd,hdn⟩:=hk o (by simp);obtain⟨v,hst,hrest⟩:=VE hs hk1 hd hdn h;obtain⟨vs,hl,hq,hj⟩:=ih (fz U d v) _ (hs.put hdn v) (λo' ho'=>hk o' (by simp[ho'])) hrest;refine⟨v::vs,by simp[hl],?_,λj o' v' ho hv=>?_⟩
  ·grind [Ce]
  ·cases j with
   |zero=>
    simp at ho hv;subst ho;subst hv;exact⟨a,hs,hst⟩
   |succ j=>
    grind [Ce]
theorem w8{t:Nat}:∀(l:List Oper)(vs:List Value)(U:Nat->Value),(∀o∈l,o.dst≠some t)->Ce U l vs t=U t
 | [],_,U,_=>rfl
 |_::_,[],U,_=>rfl
 |o::l,v::vs,U,h=>by
  unfold Ce;rw[w8 l vs _<|λo' ho=>h o' (by simp[ho])]
  cases hd:o.dst with
  |none=>rfl
  |some d=>
   have hne:t≠d:=λe=>h o (by simp) (by rw[hd,e]);show fz U d v t=U t;unfold fz
   cases hb:Nat.beq t d with
   |true=>exact absurd (gG hb) hne
   |false=>rfl
theorem Ft{t:Nat}:∀(l:List Oper)(vs:List Value)(U:Nat->Value)(j:Nat)(o:Oper)(v:Value),l[j]? =some o->vs[j]? =some v->o.dst=some t->
  (∀(k:Nat)o',l[k]? =some o'->k≠j->o'.dst≠some t)->Ce U l vs t=v
 | [],_,_,_,_,_,h,_,_,_=>by simp at h
 |_::_,[],_,_,_,_,_,h,_,_=>by simp at h
 |o::l,v::vs,U,0,o',v',ho,hv,hd,hu=>by
  simp at ho hv;subst ho;subst hv;unfold Ce
  rw[w8 l vs _ (λo' ho=>by
   obtain⟨k,hk⟩:=List.mem_iff_getElem?.1 ho
   exact hu (k+1) o' (by grind) (by omega)),hd]
  show fz U t v t=v;unfold fz;rw[Nat.beq_refl];rfl
 |o::l,v::vs,U,j+1,o',v',ho,hv,hd,hu=>by
  unfold Ce;exact Ft l vs _ j o' v' (by grind) (by grind) hd<|λk o2 hk hne=>hu (k+1) o2 (by grind) (by omega)
def zS(o:Oper)(k:Nat):Bool:=o.after.toList.any λe=>Region.binds .any e&&Nat.beq e.on k
def Cf(ops:Array Oper)(o:Oper)(d:Nat):Bool:=(o.looksAt ops).any λt=>Nat.beq t d
def CS(ops:Array Oper)(i:Nat)(o:Oper)(k:Nat)(o':Oper):Bool:=
 Nat.beq i k||match o'.dst with
  |some d=>(match o.dst with|some d2=> !Nat.beq d d2|none=>true)&&(!Cf ops o d||(bif Nat.blt k i then zS o k else zS o' i))
  |none=>false
def EE(ops:Array Oper)(i:Nat)(o:Oper):Nat->List Oper->Bool
 |_,[]=>true
 |k,o'::l=>CS ops i o k o'&&EE ops i o (k+1) l
def GK(n:Nat)(ops:Array Oper)(l:List Oper):Nat->List Oper->Bool
 |_,[]=>true
 |i,o::l'=>w7 o.op&&(match o.dst with|some d=>Nat.blt d n|none=>false)&&EE ops i o 0 l&&GK n ops l (i+1) l'
theorem zT{i:Nat}:∀{k:Nat}{l:List Oper},EE ops i o k l=true->∀(j:Nat)o',l[j]? =some o'->CS ops i o (k+j) o'=true
 |_,[],_,j,o',h=>by simp at h
 |k,p::l,hs,0,o',h=>by
  unfold EE at hs;rw[cO]at hs;simp at h;subst h;exact hs.1
 |k,p::l,hs,j+1,o',h=>by
  unfold EE at hs;rw[cO]at hs;have:=zT hs.2 j o' (by simpa using h);rw[show k+(j+1)=k+1+j by omega];exact this
theorem GL{l0:List Oper}:∀{i:Nat}{l:List Oper},GK n ops l0 i l=true->∀(j:Nat)o,l[j]? =some o->w7 o.op=true/\(∃d,o.dst=some d/\Nat.blt d n=true)/\EE ops (i+j) o 0 l0=true
 |_,[],_,j,o',h=>by simp at h
 |i,p::l,hs,0,o',h=>by
  unfold GK at hs;simp only[cO]at hs;simp at h;subst h;refine⟨hs.1.1.1,?_,hs.1.2⟩;have:=hs.1.1.2
  cases hd:p.dst with
  |none=>rw[hd]at this;cases this
  |some d=>rw[hd]at this;exact⟨d,rfl,this⟩
 |i,p::l,hs,j+1,o',h=>by
  unfold GK at hs;simp only[cO]at hs;have:=GL hs.2 j o' (by simpa using h);rw[show i+(j+1)=i+1+j by omega];exact this
theorem pR{D:Nat->Bool}{k:Nat}:∀{l:List Edge},pQ D l->(l.any λe=>Region.binds .any e&&Nat.beq e.on k)=true->D k=true
 | [],_,h=>by cases h
 |e::l,hd,h=>by
  rw[List.any_cons,gR,cO]at h
  rcases h with⟨h1,h2⟩|h
  ·have:=hd.1 h1;rwa[gG h2]at this
  ·exact pR hd.2 h
theorem vL{a a':Act}{U σ':Nat->Value}(hs:Sl n U a)(hs':Sl n σ' a')(h:∀t,Cf ops o t=true->U t=σ' t)(hsz:∀(g:Nat)o2 d,ops[g]? =some o2->o2.dst=some d->d<n):
  Region.wanted o (yielded ops a.tmps)=Region.wanted o (yielded ops a'.tmps):=by
 unfold Region.wanted;split
 ·rfl
 ·rename_i g want hg;have:yielded ops a.tmps g=yielded ops a'.tmps g:=by
   unfold yielded
   cases ho:ops[g]? with
   |none=>rfl
   |some o2=>
    cases hd:o2.dst with
    |none=>simp[hd]
    |some d=>
     have hlt:=hsz g o2 d ho hd
     have he:=h d (by
      unfold Cf Oper.looksAt
      simp_all)
     have h1:=hs.get d;have h2:=hs'.get d;have l1:d<a.tmps.size:=by rw[hs.size];exact hlt
     have l2:d<a'.tmps.size:=by rw[hs'.size];exact hlt
     simp_all
  rw[this]
theorem vM{F:Nat->Oper->Prop}:∀{k:Nat}{l:List Oper},(∀(i:Nat)o,l[i]? =some o->F (k+i) o)->rh F k l
 |_,[],_=>trivial
 |k,p::l,h=>⟨h 0 p rfl,vM (λi o ho=>by have:=h (i+1) o (by grind);grind)⟩
theorem zU(D:Nat->Bool)(i:Nat):ins D i i=true:=by simp[ins,Nat.beq_refl]
theorem rO{D:Nat->Bool}{i j:Nat}(h:j≠i):ins D i j=D j:=by
 unfold ins
 simp_all
theorem TS{id:Nat}{l:List Oper}(hm:P.follows .mixedOrders=true)(h:RO P n l.toArray w.drew Q l U)(hdep:wZ 0 l=true:=by exact rfl)(hro:GK n l.toArray l 0 l=true:=by kernel_rfl):RC P n (.region id l.toArray true) U w Q:=by
 intro a0 ha0;have hA:=λj o(ho:l[j]? =some o)=>GL hro j o ho
 obtain⟨vs,hvl,hq,hst⟩:=VF l U a0 ha0 (λo ho=>by
  grind [List.mem_iff_getElem?]) h
 have hsz:∀(g:Nat)o2 d,l.toArray[g]? =some o2->o2.dst=some d->d<n:=λg o2 d ho hd=>by
  grind [Nat.blt_eq]
 have hdist:∀(i k:Nat)o o' t,l[i]? =some o->l[k]? =some o'->k≠i->o.dst=some t->o'.dst≠some t:=λi k o o' t ho ho' hne hd hd'=>by
  have hp:=zT (hA i o ho).2.2 k o' ho';unfold CS at hp
  simp_all
 refine UZ (U:=U) (w:=w) hm hdep (λD σ' w'=>w'=w.drew/\(∀(i:Nat)o v t,l[i]? =some o->vs[i]? =some v->o.dst=some t->D i=true->σ' t=v)/\(∀t,(∀(i:Nat)o,l[i]? =some o->o.dst=some t->D i=false)->σ' t=U t)) ?_ ?_ ?_ a0 ha0
 ·simp
 ·refine vM λi o ho=>?_;rw[jE];rintro D σ' w' hD hdeps hcl⟨rfl,hJ1,hJ2⟩;obtain⟨hk,⟨d,hd,hdn⟩,hrow⟩:=hA i o ho;rw[jE]at hrow;have hiv:i<vs.length:=by grind
  obtain⟨ai,hsi,hstp⟩:=hst i o vs[i] ho<|aP hiv
  have hag:∀t,Cf l.toArray o t=true->Ce U (l.take i) (vs.take i) t=σ' t:=by
   intro t ht
   by_cases hex:∃(k:Nat)(o':Oper),l[k]? =some o'/\o'.dst=some t
   ·obtain⟨k,o',ho',hd'⟩:=hex;have hkv:k<vs.length:=by rw[hvl];exact(bN.1 ho').1
    by_cases hki:k<i
    ·have hp:=zT hrow k o' ho';rw[jE]at hp;unfold CS at hp;rw[hd',gR]at hp
     rcases hp with hp|hp
     ·have:=gG hp;omega
     simp only[cO,gR,Bool.not_eq_true']at hp;have hp2:=hp.2;rw[ht]at hp2
     rcases hp2 with hp2|hp2
     ·cases hp2
     have hb:Nat.blt k i=true:=by rw[Nat.blt_eq];exact hki
     rw[hb]at hp2;have hDk:=pR hdeps hp2;rw[hJ1 k o' vs[k] t ho' (aP hkv) hd' hDk];refine Ft (l.take i) (vs.take i) U k o' vs[k] (by rw[jo,aG hki];exact ho') (by rw[jo,aG hki];exact aP hkv) hd' λk2 o2 hk2 hne=>?_;rw[jo]at hk2;split at hk2
     ·exact hdist k k2 o' o2 t ho' hk2 hne hd'
     ·cases hk2
    ·have hDk:D k=false:=by
      by_cases he:k=i
      ·subst he;exact hD
      ·have hp:=zT hrow k o' ho';rw[jE]at hp;unfold CS at hp;rw[hd',gR]at hp
       rcases hp with hp|hp
       ·have:=gG hp;omega
       simp only[cO,gR,Bool.not_eq_true']at hp;have hp2:=hp.2;rw[ht]at hp2
       rcases hp2 with hp2|hp2
       ·cases hp2
       have hb:Nat.blt k i=false:=by
        cases hx:Nat.blt k i with
        |false=>rfl
        |true=>rw[Nat.blt_eq]at hx;omega
       rw[hb]at hp2;refine nf λhDk=>?_;have:=pR (hcl k o' ho' hDk) hp2;rw[hD]at this;cases this
     rw[hJ2 t λk2 o2 ho2 hd2=>?_]
     ·refine w8 _ _ _ λo2 ho2 hd2=>?_;obtain⟨k2,hk2⟩:=List.mem_iff_getElem?.1 ho2;rw[jo]at hk2;split at hk2
      ·rename_i hlt;exact hdist k k2 o' o2 t ho' hk2 (by omega) hd' hd2
      ·cases hk2
     ·by_cases he:k2=k
      ·subst he;exact hDk
      ·exact absurd hd2<|hdist k k2 o' o2 t ho' ho2 he hd'
   ·rw[hJ2 t λk o' ho' hd'=>absurd ⟨k,o',ho',hd'⟩ hex];refine w8 _ _ _ λo2 ho2 hd2=>?_;obtain⟨k2,hk2⟩:=List.mem_iff_getElem?.1 ho2;rw[jo]at hk2;split at hk2
    ·exact hex ⟨k2,o2,hk2,hd2⟩
    ·cases hk2
  intro a' hs';have hrun:execOp a'.eval o=execOp ai.eval o:=execOp_congr o (λcs b e=>by rw[e]at hk;cases hk) λx hx=>by
   rw[hs'.ev,hsi.ev]
   cases x with
   |tmp t=>
    refine(hag t ?_).symm;unfold Cf Oper.looksAt;rw[List.any_append,gR];left;rw[kI];exact⟨t,List.mem_filterMap.2 ⟨.tmp t,by simpa using hx,rfl⟩,Nat.beq_refl t⟩
   |_=>rfl
  have hwant:=vL (ops:=l.toArray) (o:=o) hsi hs' hag hsz;have hfin:∀v,vs[i]? =some v->(∀(k:Nat)o2 u t,l[k]? =some o2->vs[k]? =some u->o2.dst=some t->ins D i k=true->fz σ' d v t=u)/\(∀t,(∀(k:Nat)o2,l[k]? =some o2->o2.dst=some t->ins D i k=false)->fz σ' d v t=U t):=by
   intro v hv;refine⟨λk o2 u t ho2 hu hd2 hDk=>?_,λt ht=>?_⟩
   ·by_cases he:k=i
    ·subst he;rw[ho]at ho2;injection ho2 with ho2;subst ho2
     rw[hd]at hd2;injection hd2 with hd2;subst hd2
     rw[hv]at hu;injection hu with hu;subst hu
     unfold fz;rw[Nat.beq_refl];rfl
    ·rw[rO he]at hDk;have hne:t≠d:=λe=>by subst e;exact hdist i k o o2 t ho ho2 he hd hd2
     unfold fz
     cases hb:Nat.beq t d with
     |true=>exact absurd (gG hb) hne
     |false=>exact hJ1 k o2 u t ho2 hu hd2 hDk
   ·have hne:t≠d:=λe=>by
     subst e;have:=ht i o ho hd;rw[zU]at this;cases this
    unfold fz
    cases hb:Nat.beq t d with
    |true=>exact absurd (gG hb) hne
    |false=>
     refine hJ2 t λk o2 ho2 hd2=>?_;have:=ht k o2 ho2 hd2
     by_cases he:k=i
     ·subst he;exact hD
     ·rw[rO he]at this;exact this
  unfold wpList
  rcases hstp with⟨hw1,hr1⟩|⟨hw1,hv1⟩
  ·rw[hwant]at hw1;rw[aG hw1];left;unfold Oper.wp;rw[hrun,hr1];refine⟨fz σ' d vs[i],?_,rfl,rfl,hfin _<|aP hiv⟩;rw[hd];exact hs'.put hdn _
  ·rw[hwant]at hw1;rw[aI (by rw[hw1];exact su)];refine⟨fz σ' d undef,?_,rfl,rfl,hfin _ (by rw[<-hv1];exact aP hiv)⟩;rw[hd];exact hs'.put hdn _
 ·rintro D σ' w' hall⟨rfl,hJ1,hJ2⟩;have:σ'=Ce U l vs:=by
   funext t
   by_cases hex:∃(k:Nat)(o':Oper),l[k]? =some o'/\o'.dst=some t
   ·obtain⟨k,o',ho',hd'⟩:=hex;have hkl:=(bN.1 ho').1;have hkv:k<vs.length:=by rw[hvl];exact hkl
    rw[hJ1 k o' vs[k] t ho' (aP hkv) hd'<|hall k hkl];exact(Ft l vs U k o' vs[k] ho' (aP hkv) hd' λk2 o2 hk2 hne=>hdist k k2 o' o2 t ho' hk2 hne hd').symm
   ·rw[hJ2 t λk o' ho' hd'=>absurd ⟨k,o',ho',hd'⟩ hex];refine(w8 _ _ _ λo2 ho2 hd2=>?_).symm;obtain⟨k2,hk2⟩:=List.mem_iff_getElem?.1 ho2;exact hex ⟨k2,o2,hk2,hd2⟩
  rw[this];exact hq
end
def Nd:List (Nat×Value)->Nat->Value
 | [],_=>undef
 |(d,v)::r,t=>bif Nat.beq d t then v else Nd r t
def GM:List (Nat×Nat×Value)->List (Nat×Value)->Nat->Value
 | [],ag,t=>Nd ag t
 |(_,d,v)::r,ag,t=>bif Nat.beq d t then v else GM r ag t
def GN(dv:List (Nat×Nat×Value))(ag:List (Nat×Value)):Operand->Value
 | .tmp t=>GM dv ag t
 | .const v=>v
 | .global g=> .pointer (some ⟨g,0,none⟩)
 | .func f=> .func (.func f) #[] #[]
def qO(ops:Array Oper)(o:Oper):Operand->Bool
 | .tmp t=>Cf ops o t
 |_=>true
def Pu(P:Program)(n:Nat)(ops:Array Oper)(o:Oper)(dv:List (Nat×Nat×Value))(ag:List (Nat×Value)):Prop:=
 ∀(U:Nat->Value)(w:World),(∀q,qO ops o q=true->ev U q=GN dv ag q)->RL P n ops [o] U w (λex σ' w'=>ex = .normal/\w'=w/\∃d,o.dst=some d/\σ'=fz U d (GM dv ag d))
section
variable {P:Program}{n:Nat}{ops:Array Oper}{U:Nat->Value}{w:World}{d:Nat}{v u:Value}{rest:List Oper}{ty T T':TypeId}{pos:String}{af:Array Edge}{g:Option (Nat×Bool)}{x y z:Operand}{Q:jh}
theorem VR(h:v=u):RL P n ops [] (fz U d v) w (λex σ' w'=>ex = .normal/\w'=w/\∃d',(some d:Option Nat)=some d'/\σ'=fz U d' (bif Nat.beq d d' then u else undef)):=
 by grind [By,Nat.beq_refl]
theorem Up{f:Nat->Value}(h:v=f d):RL P n ops [] (fz U d v) w (λex σ' w'=>ex = .normal/\w'=w/\∃d',(some d:Option Nat)=some d'/\σ'=fz U d' (f d')):=
 by grind [By]
theorem VG{b:Bool}(hg:Wn ops U g)(hd:Nat.blt d n=true)(hx:ev U x = .bool b)(hb:b=true)(hv:ev U y=v)(k:RL P n ops rest (fz U d v) w Q):
  RL P n ops (⟨some d, .pick x y z,ty,pos,af,g⟩::rest) U w Q:=by grind [Tw]
theorem VH{b:Bool}(hg:Wn ops U g)(hd:Nat.blt d n=true)(hx:ev U x = .bool b)(hb:b=false)(hv:ev U z=v)(k:RL P n ops rest (fz U d v) w Q):
  RL P n ops (⟨some d, .pick x y z,ty,pos,af,g⟩::rest) U w Q:=by grind [Tw]
theorem Wn.k{j t:Nat}{b:Bool}(h1:(ops[j]?).bind (·.dst)=some t)(h:ev U (.tmp t) = .bool b):Wn ops U (some (j,b)):=⟨t,h1,h⟩
theorem Wn.h{j t:Nat}{a b:Bool}(h1:(ops[j]?).bind (·.dst)=some t)(h:ev U (.tmp t) = .bool a)(e:a=b):Wn ops U (some (j,b)):=⟨t,h1,by rw[<-e];exact h⟩
theorem VI{op:Op}{j t:Nat}{a b:Bool}(ht:(ops[j]?).bind (·.dst)=some t)(hv:ev U (.tmp t) = .bool a)(e:a = !b)(hd:Nat.blt d n=true)
  (k:RL P n ops rest (fz U d undef) w Q):RL P n ops (⟨some d,op,ty,pos,af,some (j,b)⟩::rest) U w Q:=UW ht (.inl (by rw[<-e];exact hv)) hd k
end
def yJ:List (Nat×Nat×Value)->Nat->Option Nat
 | [],_=>none
 |(k,d,_)::r,t=>bif Nat.beq d t then some k else yJ r t
def JY(ag:List (Nat×Value))(t:Nat):Bool:=ag.any λp=>Nat.beq p.1 t
def Oa(ops:Array Oper)(i:Nat)(o:Oper)(cs:List Nat)(dv:List (Nat×Nat×Value))(ag:List (Nat×Value))(od:List (Nat×Nat×Value)):Bool:=
 ((o.looksAt ops).all λt=>match yJ dv t with|some k=>zS o k|none=>JY ag t)&&
 (match o.dst with
  |some d=>Nat.beq (yJ dv d).isNone.toNat 0&&(dv.all λe=>(!Nat.beq e.1 i||Nat.beq e.2.1 d)&&(!Nat.beq e.2.1 d||Nat.beq e.1 i))&&Nat.beq (dv.filter λe=>Nat.beq e.2.1 d).length 1&& !JY ag d&&
    (od.all λe=>Nat.beq e.1 i|| !Nat.beq e.2.1 d)
  |none=>false)&&(cs.all λc=> !Nat.beq c i)&& !Nat.beq i 999
def GO(ops:Array Oper)(cs:List Nat)(dv:List (Nat×Nat×Value))(ag:List (Nat×Value))(od:List (Nat×Nat×Value)):Nat->List Oper->List Nat->Bool
 |_,[],_=>true
 |_,_::_,[]=>false
 |i,o::l,m::ms=>(!Nat.beq m 1||Oa ops i o cs dv ag od)&&GO ops cs dv ag od (i+1) l ms
theorem GP{ops:Array Oper}{cs:List Nat}{dv:List (Nat×Nat×Value)}{ag:List (Nat×Value)}{od:List (Nat×Nat×Value)}:∀{i:Nat}{l:List Oper}{ms:List Nat},GO ops cs dv ag od i l ms=true->
  ∀(j:Nat)o,l[j]? =some o->ms[j]? =some 1->Oa ops (i+j) o cs dv ag od=true
 |_,[],_,_,j,o,h,_=>by simp at h
 |_,_::_,[],h0,_,_,_,h=>by simp at h
 |i,p::l,m::ms,h0,0,o,h,hm=>by
  unfold GO at h0;rw[cO]at h0;simp at h hm;subst h;subst hm
  rcases gR _ _▸h0.1 with h|h
  ·cases h
  ·exact h
 |i,p::l,m::ms,h0,j+1,o,h,hm=>by
  unfold GO at h0;rw[cO]at h0;have:=GP h0.2 j o (by simpa using h) (by grind);rw[show i+(j+1)=i+1+j by omega];exact this
theorem A3{ag:List (Nat×Value)}{t k:Nat}:∀{dv:List (Nat×Nat×Value)},yJ dv t=some k->∃v,(k,t,v)∈dv/\GM dv ag t=v
 | [],h=>by cases h
 |(k',d,v)::r,h=>by
  unfold yJ at h;unfold GM
  cases hb:Nat.beq d t with
  |true=>
   rw[hb]at h;simp at h;subst h;have:=gG hb;subst this;exact⟨v,by simp,rfl⟩
  |false=>
   rw[hb]at h;obtain⟨u,h1,h2⟩:=A3 (ag:=ag) h;exact⟨u,by simp[h1],h2⟩
theorem CT{ag:List (Nat×Value)}{t:Nat}:∀{dv:List (Nat×Nat×Value)},yJ dv t=none->GM dv ag t=Nd ag t
 | [],_=>rfl
 |(k',d,v)::r,h=>by
  unfold yJ at h;unfold GM
  cases hb:Nat.beq d t with
  |true=>rw[hb]at h;cases h
  |false=>rw[hb]at h;exact CT h
theorem eH.mem{D:Nat->Bool}{U:Nat->Value}{k t:Nat}{v:Value}:∀{dv:List (Nat×Nat×Value)},eH D U dv->(k,t,v)∈dv->D k=true->U t=v
 | [],_,h,_=>by cases h
 |(i,d,u)::r,hd,h,hD=>by
  rcases eF.1 h with e|h
  ·injection e with e1 e2;injection e2 with e2 e3;subst e1;subst e2;subst e3;exact hd.1 hD
  ·exact hd.2.mem h hD
theorem eH.of{D:Nat->Bool}{U:Nat->Value}:∀{dv:List (Nat×Nat×Value)},(∀k t v,(k,t,v)∈dv->D k=true->U t=v)->eH D U dv
 | [],_=>trivial
 |(i,d,u)::r,h=>⟨h i d u (by simp),eH.of λk t v hm=>h k t v (by simp[hm])⟩
theorem agree.Nd{U:Nat->Value}{t:Nat}:∀{ag:List (Nat×Value)},agree U ag->JY ag t=true->U t=Nd ag t
 | [],_,h=>by cases h
 |(d,v)::r,ha,h=>by
  unfold Gk.Nd
  cases hb:Nat.beq d t with
  |true=>have:=gG hb;subst this;exact ha.1
  |false=>
   unfold JY at h;rw[List.any_cons,hb]at h;exact agree.Nd ha.2 h
theorem agree.Sw{U:Nat->Value}{d:Nat}{v:Value}:∀{ag:List (Nat×Value)},agree U ag->JY ag d=false->agree (fz U d v) ag
 | [],_,_=>trivial
 |(t,u)::r,ha,h=>by
  unfold JY at h;rw[List.any_cons,Bool.or_eq_false_iff]at h;refine⟨?_,agree.Sw ha.2 h.2⟩;unfold fz;rw[h.1];exact ha.1
theorem Uc{P:Program}{n:Nat}{U:Nat->Value}{w:World}(E:World){Q:jh}(V:List HP){X:Type}{id:Nat}{l:List Oper}(hm:P.follows .mixedOrders=true)(ms cs:List Nat)(dv:X->List (Nat×Nat×Value))(ag:List (Nat×Value))(od:List (Nat×Nat×Value))(g:(Nat->Bool)->X->List HP)(hpu:∀x,GO l.toArray cs (dv x) ag od 0 l ms=true)(h0:∃x,eH (λ_=>false) U (dv x)/\agree U ag/\uK (λ_=>false) U od/\Holds E w.drew (g (λq=>(λ_=>false) (cs.getD q 999)) x++V))(step:rh (λi o=>bif Nat.beq (ms.getD i 0) 1 then(∀x,Pu P n l.toArray o (dv x) ag)else
   (∀D U w,D i=false->pQ D o.after.toList->vI l D->(∃x,eH D U (dv x)/\agree U ag/\uK D U od/\Holds E w (g (λq=>D (cs.getD q 999)) x++V))->
    RL P n l.toArray [o] U w (λex U w=>ex = .normal/\∃x,eH (ins D i) U (dv x)/\agree U ag/\uK (ins D i) U od/\Holds E w (g (λq=>ins D i (cs.getD q 999)) x++V)))) 0 l) (hend:∀D U w,(∀i,i<l.length->D i=true)->(∃x,eH D U (dv x)/\agree U ag/\uK D U od/\Holds E w (g (λq=>D (cs.getD q 999)) x++V))->Q .normal U w) (hdep:wZ 0 l=true:=by exact rfl):RC P n (.region id l.toArray true) U w Q:=by
 refine UZ hm hdep (λD U w=>∃x,eH D U (dv x)/\agree U ag/\uK D U od/\Holds E w (g (λq=>D<|cs.getD q 999) x++V)) h0 ?_ hend;refine vM λi o ho=>?_;have hs:=step.at i o ho;rw[jE]at hs ⊢
 cases hmi:Nat.beq (ms.getD i 0) 1 with
 |false=>grind
 |true=>
  rw[hmi]at hs;have hs:∀x,Pu P n l.toArray o (dv x) ag:=hs;have hms:ms[i]? =some 1:=by
   grind [gG]
  rintro D U w hD hdeps hcl⟨x,hv,ha,hod,hw⟩;have hok:=GP (hpu x) i o ho hms;rw[jE]at hok;unfold Oa at hok;simp only[cO]at hok;obtain⟨⟨⟨h1,h2⟩,h3⟩,h4⟩:=hok;have hsee:∀q,qO l.toArray o q=true->ev U q=GN (dv x) ag q:=by
   intro q hq
   cases q with
   |tmp t=>
    have ht:t∈o.looksAt l.toArray:=by
     grind [qO,Cf,kI,gG]
    have h1t:=nA.1 h1 t ht;show U t=GM (dv x) ag t
    cases hf:yJ (dv x) t with
    |some k=>
     rw[hf]at h1t;obtain⟨v,hm,hv2⟩:=A3 (ag:=ag) hf;rw[hv2];exact hv.mem hm<|pR hdeps h1t
    |none=>
     rw[hf]at h1t;rw[CT hf];exact ha.Nd h1t
   |const v=>rfl
   |global g=>rfl
   |func f=>rfl
  have hrun:=hs x U w hsee;intro a haa;have hr:=hrun a haa
  cases hdst:o.dst with
  |none=>rw[hdst]at h2;cases h2
  |some d=>
   rw[hdst]at h2;simp only[cO]at h2;obtain⟨⟨⟨⟨e1,e2⟩,e3⟩,e4⟩,e5⟩:=h2;obtain⟨k0,hf⟩:∃k,yJ (dv x) d=some k:=by
    cases hf:yJ (dv x) d with
    |some k=>exact⟨k,rfl⟩
    |none=>rw[hf]at e1;cases e1
   obtain⟨v,hmv,hv2⟩:=A3 (ag:=ag) hf;have fin:∀σ',σ'=fz U d v->∃x,eH (ins D i) σ' (dv x)/\agree σ' ag/\uK (ins D i) σ' od/\Holds E w (g (λq=>ins D i<|cs.getD q 999) x++V):=by
    rintro σ' rfl
    refine⟨x,eH.of λk t u hm hDk=>?_,ha.Sw (by simpa using e4),hod.up (by
     rw[nA];intro e he;have:=nA.1 e5 e he
     exact this),?_⟩
    ·have he:=nA.1 e2 (k,t,u) hm;simp only[cO,gR,Bool.not_eq_true']at he
     by_cases htd:t=d
     ·subst htd;have hlen:=gG e3;have hm1:(k,t,u)∈(dv x).filter λe=>Nat.beq e.2.1 t:=by rw[my];exact⟨hm,Nat.beq_refl t⟩
      have hm2:(k0,t,v)∈(dv x).filter λe=>Nat.beq e.2.1 t:=by rw[my];exact⟨hmv,Nat.beq_refl t⟩
      obtain⟨z,hz⟩:=List.length_eq_one_iff.1 hlen;rw[hz]at hm1 hm2;simp at hm1 hm2;have:=hm1.trans hm2.symm;injection this with _ this;injection this with _ this
      subst this;unfold fz;rw[Nat.beq_refl];rfl
     ·have hki:k≠i:=λe=>by
       subst e
       rcases he.1 with h|h
       ·rw[Nat.beq_refl]at h;cases h
       ·exact htd<|gG h
      rw[rO hki]at hDk;unfold fz
      cases hb:Nat.beq t d with
      |true=>exact absurd (gG hb) htd
      |false=>exact hv.mem hm hDk
    ·have:(λq=>ins D i<|cs.getD q 999)=(λq=>D<|cs.getD q 999):=by
      funext q;refine rO λe=>?_;rw[List.getD_eq_getElem?_getD]at e
      cases hq:cs[q]? with
      |some c=>
       rw[hq]at e;have hc:=nA.1 h3 c<|fQ hq
       have e:c=i:=e;subst e;rw[Nat.beq_refl]at hc;cases hc
      |none=>
       rw[hq]at e;have e:999=i:=e;subst e;cases h4
     rw[this];exact hw
   unfold wpList at hr ⊢;split at hr
   ·rename_i hwn;rw[aG hwn]
    rcases hr with hr|⟨h2,h3⟩
    ·refine .inl<|CK (λa w' h=>?_) (λc a w' h=>?_) (λh=>?_) hr
     ·obtain⟨σ',hs',_,hw',d',hd',he⟩:=h;have hd':some d=some d':=by rw[<-hdst];exact hd'
      injection hd' with hd';subst hd'
      have hw':w'=w:=hw';subst hw';exact⟨σ',hs',rfl,fin σ' (by rw[he,hv2])⟩
     ·obtain⟨_,_,hbad,_⟩:=h;cases hbad
     ·obtain⟨_,_,_,_,hbad,_⟩:=h;cases hbad
    ·obtain⟨_,_,_,_,hbad,_⟩:=h3;cases hbad
   ·rename_i hwn;rw[aI hwn];obtain⟨σ',hs',_,hw',d',hd',he⟩:=hr;have hd':some d=some d':=by rw[<-hdst];exact hd'
    injection hd' with hd';subst hd'
    exact⟨σ',hs',rfl,fin σ' (by rw[he,hv2])⟩
section
variable {P:Program}{n:Nat}{ops:Array Oper}{d:Nat}{v u:Value}{ty T T' t0:TypeId}{pos:String}{af:Array Edge}{g:Option (Nat×Bool)}{q r y z:Operand}{dv:List (Nat×Nat×Value)}{ag:List (Nat×Value)}{a b:Bool}{o:Oper}
def PG(ops:Array Oper)(o:Oper)(dv:List (Nat×Nat×Value))(ag:List (Nat×Value))(g:Option (Nat×Bool)):Prop:=∀U:Nat->Value,(∀q,qO ops o q=true->ev U q=GN dv ag q)->Wn ops U g
theorem gn:PG ops o dv ag none:=λ_ _=>trivial
theorem gy{j t:Nat}(e:a=b)(h:((ops[j]?).bind (·.dst),qO ops o<|.tmp t,GN dv ag<|.tmp t)=(some t,true, .bool a):=by exact rfl):PG ops o dv ag (some (j,b)):=λU hs=>by
 injection h with h1 h;injection h with h2 h3
 exact⟨t,h1,by have:=hs (.tmp t) h2;rw[h3,e]at this;exact this⟩
theorem uN{op:Op}{j t:Nat}(e:a = !b)(h:((ops[j]?).bind (·.dst),qO ops ⟨some d,op,ty,pos,af,some (j,b)⟩<|.tmp t,GN dv ag<|.tmp t,Nat.blt d n,undef)=(some t,true, .bool a,true,GM dv ag d):=by exact rfl):
  Pu P n ops ⟨some d,op,ty,pos,af,some (j,b)⟩ dv ag:=λU w hs=>by
 injection h with h1 h;injection h with h2 h;injection h with h3 h;injection h with h4 h5
 exact VI h1 ((hs _ h2).trans h3) e h4<|Up h5
theorem jS(hg:PG ops ⟨some d, .move q,ty,pos,af,g⟩ dv ag g)(h:(Nat.blt d n,qO ops ⟨some d, .move q,ty,pos,af,g⟩ q,GN dv ag q)=(true,true,GM dv ag d):=by exact rfl):Pu P n ops ⟨some d, .move q,ty,pos,af,g⟩ dv ag:=λU w hs=>by
 injection h with h1 h;injection h with h2 h3
 exact SS (hd:=h1) (hx:=hs _ h2) _ (hg U hs)<|Up h3
theorem Pb(hg:PG ops ⟨some d, .assign q,ty,pos,af,g⟩ dv ag g)(h:(Nat.blt d n,qO ops ⟨some d, .assign q,ty,pos,af,g⟩ q,GN dv ag q)=(true,true,GM dv ag d)):Pu P n ops ⟨some d, .assign q,ty,pos,af,g⟩ dv ag:=λU w hs=>by
 injection h with h1 h;injection h with h2 h3
 exact Vf (hg U hs) h1 (hs _ h2)<|Up h3
theorem xc{c:Addr}(hg:PG ops ⟨some d, .nilCheck q,ty,pos,af,g⟩ dv ag g)(h:(Nat.blt d n,qO ops ⟨some d, .nilCheck q,ty,pos,af,g⟩ q,GN dv ag q,GM dv ag d)=(true,true, .pointer<|some c, .pointer<|some c):=by exact rfl):Pu P n ops ⟨some d, .nilCheck q,ty,pos,af,g⟩ dv ag:=λU w hs=>by
 injection h with h1 h;injection h with h2 h;injection h with h3 h4
 exact Th (hg U hs) h1 ((hs _ h2).trans h3)<|Up h4.symm
theorem nk{c o' j m:Nat}(hg:PG ops ⟨some d, .fieldAddr T q j,ty,pos,af,g⟩ dv ag g)(hf:o5 P T j m)(h:(Nat.blt d n,qO ops ⟨some d, .fieldAddr T q j,ty,pos,af,g⟩ q,GN dv ag q,GM dv ag d)=(true,true, .pointer<|some ⟨c,o',none⟩, .pointer<|some ⟨c,o'+m,none⟩):=by exact rfl):
  Pu P n ops ⟨some d, .fieldAddr T q j,ty,pos,af,g⟩ dv ag:=λU w hs=>by
 injection h with h1 h;injection h with h2 h;injection h with h3 h4
 exact AT (hg:=hg U hs) (hd:=h1) ((hs _ h2).trans h3) hf<|Up h4.symm
theorem Ob{bop:BinOp}{K:IntKind}{m k:Int}(hg:PG ops ⟨some d, .binOp bop T q r T',ty,pos,af,g⟩ dv ag g)
  (h:(Nat.blt d n,qO ops ⟨some d, .binOp bop T q r T',ty,pos,af,g⟩ q,qO ops ⟨some d, .binOp bop T q r T',ty,pos,af,g⟩ r,GN dv ag q,GN dv ag r,BM bop,GM dv ag d)=(true,true,true, .int K m, .int K k,true, .bool<|ku bop m k)):
  Pu P n ops ⟨some d, .binOp bop T q r T',ty,pos,af,g⟩ dv ag:=λU w hs=>by
 injection h with h1 h;injection h with h2 h;injection h with h3 h;injection h with h4 h;injection h with h5 h;injection h with h6 h7
 exact TO (hd:=h1) (hx:=(hs _ h2).trans h4) (hy:=(hs _ h3).trans h5) (hc:=h6) _ _ (hg U hs)<|Up h7.symm
theorem Mu{bop:BinOp}{K:IntKind}{m k:Int}(hg:PG ops ⟨some d, .binOp bop T q r T',ty,pos,af,g⟩ dv ag g)
  (h:(Nat.blt d n,qO ops ⟨some d, .binOp bop T q r T',ty,pos,af,g⟩ q,qO ops ⟨some d, .binOp bop T q r T',ty,pos,af,g⟩ r,GN dv ag q,GN dv ag r,NX bop,GM dv ag d)=(true,true,true, .int K m, .int K k,true, .int K<|K.wrap<|fH bop m k)):
  Pu P n ops ⟨some d, .binOp bop T q r T',ty,pos,af,g⟩ dv ag:=λU w hs=>by
 injection h with h1 h;injection h with h2 h;injection h with h3 h;injection h with h4 h;injection h with h5 h;injection h with h6 h7
 exact SX (hg:=hg U hs) (hd:=h1) (hx:=(hs _ h2).trans h4) (hy:=(hs _ h3).trans h5) (hc:=h6) _ _<|Up h7.symm
theorem Pc(hg:PG ops ⟨some d, .pick q y z,ty,pos,af,g⟩ dv ag g)(e:a=true)(h:(Nat.blt d n,qO ops ⟨some d, .pick q y z,ty,pos,af,g⟩ q,qO ops ⟨some d, .pick q y z,ty,pos,af,g⟩ y,GN dv ag q,GN dv ag y)=(true,true,true, .bool a,GM dv ag d)):
  Pu P n ops ⟨some d, .pick q y z,ty,pos,af,g⟩ dv ag:=λU w hs=>by
 injection h with h1 h;injection h with h2 h;injection h with h3 h;injection h with h4 h5
 exact VG (hg U hs) h1 ((hs _ h2).trans h4) e (hs _ h3)<|Up h5
theorem Pd(hg:PG ops ⟨some d, .pick q y z,ty,pos,af,g⟩ dv ag g)(e:a=false)(h:(Nat.blt d n,qO ops ⟨some d, .pick q y z,ty,pos,af,g⟩ q,qO ops ⟨some d, .pick q y z,ty,pos,af,g⟩ z,GN dv ag q,GN dv ag z)=(true,true,true, .bool a,GM dv ag d)):
  Pu P n ops ⟨some d, .pick q y z,ty,pos,af,g⟩ dv ag:=λU w hs=>by
 injection h with h1 h;injection h with h2 h;injection h with h3 h;injection h with h4 h5
 exact VH (hg U hs) h1 ((hs _ h2).trans h4) e (hs _ h3)<|Up h5
end
end Go.Gk
