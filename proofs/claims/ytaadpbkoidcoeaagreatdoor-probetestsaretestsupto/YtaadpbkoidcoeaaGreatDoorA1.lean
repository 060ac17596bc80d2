/-
  Helping texts on the memory of the model. No statement of the seed is proved here.
-/
import Derived.Tactics
import Derived.Orders
import Derived.Maps.AppendAt
import Derived.Laws.Tables
import Derived.Laws.CopyRow
import Derived.KernelRfl
import Derived.Laws.Cells
import Derived.Laws.Strings
import Derived.Lib.Strings
import Derived.Laws.AppendOwn
import Derived.Laws.Externs
import Derived.Lib.Bytealg
import Derived.Laws.OwnMore
import Derived.MapKept
import Derived.Laws.Append
import Derived.Maps.RangeRun
import Derived.Sort.AssemblyPlain
import Derived.Sort.Defs
import Derived.Sort.Statements
import Derived.Lib.BitFns
set_option linter.unusedVariables false
set_option linter.unusedSimpArgs false
set_option linter.unusedSectionVars false
namespace Go.Gk
open Go IntKind
abbrev aL.{u}(α:Type u):=List α
abbrev aU.{u}(α:Type u):=Option α
abbrev aV:=Value
abbrev aW:=World
abbrev bB.{u}(α:Type u):=Array α
abbrev bK:=Operand
abbrev bL:=Oper
abbrev bP:=Program
abbrev bR:=TypeId
abbrev cE(x:Int):=IntKind.wrap .i64 x
theorem aM:∀{α:Type _}{l:aL α}{i:Nat}(h:i<l.length),l[i]? =some l[i]:= @List.getElem?_eq_getElem
theorem bN:∀{α:Type _}{i:Nat}{a:α}{l:aL α},l[i]? =some a↔∃h,l[i]=a:= @List.getElem?_eq_some_iff
theorem eO:∀{α:Type _}{i:Nat}{l:aL α}(h:i<l.length),List.take (i+1) l=List.take i l++[l[i]]:= @List.take_succ_eq_append_getElem
theorem cR:∀(n:Nat),((n:Nat):Int).toNat=n:= @Int.toNat_natCast
theorem cS:∀{α:Type _}{l:aL α}{n:Nat}(h:n<l.length),l[n]∈l:= @List.getElem_mem
theorem iM:∀{α:Type _}{β:Type _}{a0:aL α}(f:α->β),(List.map f a0).length=a0.length:= @List.length_map
theorem dB:∀(a b:Bool),((a&&b)=true)=(a=true/\b=true):= @Bool.and_eq_true
theorem bO:∀{α:Type _}{a0 bs:aL α},(a0++bs).length=a0.length+bs.length:= @List.length_append
theorem dJ:∀{α:Type _}{a:α}{s t:aL α},a∈s++t↔a∈s\/a∈t:= @List.mem_append
theorem gA:∀{α:Type _}{l:aL α}{i:Nat}{a:α},l[i]? =some a->a∈l:= @List.mem_of_getElem?
theorem gC:∀{α:Type _}{β:Type _}{f:α->β}{l₁ l₂:aL α},List.map f (l₁++l₂)=List.map f l₁++List.map f l₂:= @List.map_append
theorem fP:∀{n m:Nat},n.beq m=true->n=m:= @Nat.eq_of_beq_eq_true
theorem gZ:∀{α:Type _}{l:aL α}{i j:Nat},(List.take i l)[j]? =if j<i then l[j]? else none:= @List.getElem?_take
theorem j7:∀{α:Type _}{xs:aL α}{i j:Nat},(List.drop i xs)[j]? =xs[i+j]? := @List.getElem?_drop
theorem iI:∀{α:Type _}{xs:bB α}{i:Nat}(h:i<xs.size),xs[i]? =some xs[i]:= @Array.getElem?_eq_getElem
theorem gD:∀{α:Type _}{l₁ l₂:aL α}{i:Nat},i<l₁.length->(l₁++l₂)[i]? =l₁[i]? := @List.getElem?_append_left
theorem fZ:∀{α:Type _}{l₁ l₂:aL α}{i:Nat},l₁.length<=i->(l₁++l₂)[i]? =l₂[i - l₁.length]? := @List.getElem?_append_right
theorem aQ:∀{α:Sort _}(a b:α),(bif true then a else b)=a:= @cond_true
theorem aP:∀{α:Sort _}(a b:α),(bif false then a else b)=b:= @cond_false
theorem kl:∀{α:Type _}{β:Type _}{f:α->β}{l:aL α}{i:Nat},(List.map f l)[i]? =Option.map f l[i]? := @List.getElem?_map
theorem cX:∀{α:Type _}{β:Type _}{b:β}{f:α->β}{l:aL α},b∈List.map f l↔∃a,a∈l/\f a=b:= @List.mem_map
theorem jC:∀{α:Type _}{p:α->Bool}{a0:aL α}{x:α},x∈List.filter p a0↔x∈a0/\p x=true:= @List.mem_filter
theorem eV:∀{α:Type _}{b:α}{l:aL α}{a:α},a∈b::l↔a=b\/a∈l:= @List.mem_cons
theorem fQ:∀{α:Type _}{a:α}{a0:aL α},(a::a0).length=a0.length+1:= @List.length_cons
theorem dD:∀{α:Type _}{i:Nat}{l:aL α},(List.take i l).length=min i l.length:= @List.length_take
theorem ov:∀{m n:Nat},m∈List.range n↔m<n:= @List.mem_range
theorem dL:∀{α:Type _}(a0 bs cs:aL α),a0++bs++cs=a0++(bs++cs):= @List.append_assoc
theorem f9:∀{α:Type _}{i:Nat}{l:aL α},(List.drop i l).length=l.length - i:= @List.length_drop
theorem pJ:∀{α:Type _}{a b:α},a∈[b]↔a=b:= @List.mem_singleton
theorem jD:∀{α:Type _}{R:α->α->Prop}{a:α}{l:aL α},List.Pairwise R (a::l)↔(∀(a':α),a'∈l->R a a')/\List.Pairwise R l:= @List.pairwise_cons
theorem eH:∀{α:Type _}{R:α->α->Prop}{l₁ l₂:aL α},List.Pairwise R (l₁++l₂)↔List.Pairwise R l₁/\List.Pairwise R l₂/\∀(a:α),a∈l₁->∀(b:α),b∈l₂->R a b:= @List.pairwise_append
theorem mb:∀{α:Type _}{R:α->α->Prop},List.Pairwise R []:= @List.Pairwise.nil
theorem g8:∀{α:Type _}{l:aL α},List.take l.length l=l:= @List.take_length
theorem mP:∀{α:Type _}(y:α){a:α}{l:aL α},a∈l->a∈y::l:= @List.mem_cons_of_mem
theorem ij:∀(a b:Bool),((a||b)=true)=(a=true\/b=true):= @Bool.or_eq_true
theorem wF:false≠true:= @Bool.false_ne_true
theorem qP:∀(b:Bool),(¬b=true)=(b=false):= @Bool.not_eq_true
theorem jE:∀{a b:Bool},a=b↔(a=true↔b=true):= @Bool.eq_iff_iff
theorem lk:∀{α:Type _}{l:aL α}{i j:Nat}{a:α},(l.set i a)[j]? =if i=j then if i<l.length then some a else none else l[j]? := @List.getElem?_set
theorem j8:∀{α:Type _}{a0:aL α}{i:Nat}{a:α},(a0.set i a).length=a0.length:= @List.length_set
theorem pK:∀{α:Type _}{i:Nat}{l:aL α},l.length<=i->List.take i l=l:= @List.take_of_length_le
theorem bC:∀{α β:Type}(a:α)(w:aW)(f:α->aW->Result β),(Result.ok a w).andThen f=f a w:= @Result.andThen_ok
theorem aR:∀{α β:Type}(P:bP)(w:aW)(x:Sem α)(f:α->Sem β),Sem.run P (x >>= f) w=(Sem.run P x w).andThen λa w'=>Sem.run P (f a) w':= @Sem.run_bind
theorem bG:∀{α:Type}(P:bP)(w:aW)(a:α),Sem.run P (pure a) w=Result.ok a w:= @Sem.run_pure
theorem bW:∀(n:Nat),n<=n:= @Nat.le_refl
theorem ox:∀(n:Nat),0<=n:= @Nat.zero_le
theorem mc:∀{n m k:Nat},n<=m->m<=k->n<=k:= @Nat.le_trans
theorem gL:∀(n:Nat),0+n=n:= @Nat.zero_add
theorem iR:∀{α:Type _}(a0:aL α),a0++[]=a0:= @List.append_nil
theorem eZ:∀{α:Type _}{β:Type _}{f:α->β}{a:α}{l:aL α},List.map f (a::l)=f a::List.map f l:= @List.map_cons
theorem iS:∀{α:Type _}{R:α->α->Prop}{l:aL α},List.Pairwise R l↔∀(i j:Nat)(_hi:i<l.length)(_hj:j<l.length),i<j->R l[i] l[j]:= @List.pairwise_iff_getElem
theorem me:∀{α:Type _}(p:α->Bool)(l:aL α),(List.filter p l).length<=l.length:= @List.length_filter_le
theorem ll:(!true)=false:= @Bool.not_true
theorem ln:(!false)=true:= @Bool.not_false
theorem lq:∀{α:Type _}{p:α->Bool}{l:aL α},l.any p=true↔∃x,x∈l/\p x=true:= @List.any_eq_true
theorem mQ:∀{α:Type _}{p:α->Bool}{l:aL α},l.all p=true↔∀(x:α),x∈l->p x=true:= @List.all_eq_true
theorem oy:∀{α:Type _}{i:Nat}{l:aL α}(h:i<l.length),List.drop i l=l[i]::List.drop (i+1) l:= @List.drop_eq_getElem_cons
theorem dP:∀{p:Prop}[Decidable p],(decide p=true)=p:= @decide_eq_true_eq
theorem bU{p:Prop}[Decidable p]:p->decide p=true:=decide_eq_true
theorem bS{p:Prop}[Decidable p]:¬p->decide p=false:=decide_eq_false
theorem fA{α:Type _}{a:α}{l:aL α}:a∈l->∃i:Nat,l[i]? =some a:=List.getElem?_of_mem
theorem aH{c:Prop}{h:Decidable c}(hc:c){α:Sort _}{t e:α}:(if c then t else e)=t:=if_pos hc
theorem aF{c:Prop}{h:Decidable c}(hc:¬c){α:Sort _}{t e:α}:(if c then t else e)=e:=if_neg hc
abbrev dZ:=Nat->aU Obj
def rX:dZ:=λ_=>none
def one(g:Nat)(o:Obj):dZ:=λb=>if b=g then some o else none
def qo(M h:dZ):dZ:=λb=>match M b with|some o=>some o|none=>h b
def hle(M M':dZ):Prop:=∀b o,M b=some o->M' b=some o
theorem Lz(M:dZ):hle M M:=λ_ _ h=>h
theorem Kg{A B C:dZ}(h:hle A B)(k:hle B C):hle A C:=λb o e=>k b o<|h b o e
theorem wG(M h:dZ):hle M (qo M h):=λb o e=>by simp[qo,e]
theorem iK{g b:Nat}{o o':Obj}(h:one g o b=some o'):b=g/\o=o':=by
 grind [one]
theorem cT(g:Nat)(o:Obj):one g o g=some o:=by simp[one]
structure HP where
 ok:dZ->dZ->Prop
 mono:∀{M M' h:dZ},hle M M'->ok M h->ok M' h
def bD:HP:=⟨λ_ _=>True,λ_ h=>h⟩
structure Good (E w:aW) (M:dZ) (hs:Nat->dZ) (V:aL HP):Prop where
 os:w.os=E.os
 tape:w.tape=E.tape
 out:w.output=E.output
 dr:E.drawn<=w.drawn
 im:∀b o,M b=some o->w.heap[b]? =some o
 sat:∀i(P:HP),V[i]? =some P->P.ok M (hs i)
 le:∀i b o,i<V.length->hs i b=some o->w.heap[b]? =some o
 dm:∀i b o,i<V.length->hs i b=some o->M b=none
 dj:∀i j b o,i<V.length->j<V.length->i≠j->hs i b=some o->hs j b=none
def Holds(E w:aW)(V:aL HP):Prop:=∃M hs,Good E w M hs V
theorem dK{V:aL HP}{i:Nat}{P:HP}(h:V[i]? =some P):i<V.length:=(bN.1 h).1
section
variable {E w w':aW}{M:dZ}{hs:Nat->dZ}{V Γ':aL HP}{P P':HP}{i:Nat}
def F8(h:dZ)(hs:Nat->dZ):Nat->dZ
 | 0=>h
 |i+1=>hs i
def nR(hs:Nat->dZ)(i:Nat)(h:dZ):Nat->dZ:=λj=>if j=i then h else hs j
theorem Good.cons(g:Good E w M hs V)(h:dZ)(hp:P.ok M h)(hle':∀b o,h b=some o->w.heap[b]? =some o)
  (hdm:∀b o,h b=some o->M b=none) (hdj:∀j b o,j<V.length->h b=some o->hs j b=none):
  Good E w M (F8 h hs) (P::V)where
 os:=g.os
 tape:=g.tape
 out:=g.out
 dr:=g.dr
 im:=g.im
 sat:=λi Q hq=>by
  cases i with
  |zero=>simp at hq;subst hq;exact hp
  |succ i=>exact g.sat i Q (by grind)
 le:=λi b o hi hb=>by
  cases i with
  |zero=>exact hle' b o hb
  |succ i=>exact g.le i b o (by grind) hb
 dm:=λi b o hi hb=>by
  cases i with
  |zero=>exact hdm b o hb
  |succ i=>exact g.dm i b o (by grind) hb
 dj:=λi j b o hi hj hne hb=>by
  cases i with
  |zero=>
   cases j with
   |zero=>exact absurd rfl hne
   |succ j=>exact hdj j b o (by grind) hb
  |succ i=>
   cases j with
   |zero=>
    simp only[F8]at hb ⊢
    cases e:h b with
    |none=>rfl
    |some o'=>have:=hdj i b o' (by grind) e;rw[this]at hb;cases hb
   |succ j=>exact g.dj i j b o (by grind) (by grind) (by omega) hb
theorem Good.ga(g:Good E w M hs V)(hp:P.ok M rX):Good E w M (F8 rX hs) (P::V):=
 g.cons rX hp (λ_ _ h=>by cases h) (λ_ _ h=>by cases h) (λ_ _ _ _ h=>by cases h)
theorem Good.world(g:Good E w M hs V)(h1:w'.os=w.os)(h2:w'.tape=w.tape)(h3:w'.output=w.output)
  (hk:∀b,b<w.heap.size->w'.heap[b]? =w.heap[b]?) (h0:w.drawn<=w'.drawn:=by first|exact bW _|exact Nat.le_succ _):Good E w' M hs V:=by
 have key:∀b o,w.heap[b]? =some o->w'.heap[b]? =some o:=λb o h=>by
  rw[hk b<|(Array.getElem?_eq_some_iff.1 h).1];exact h
 exact⟨h1.trans g.os,h2.trans g.tape,h3.trans g.out,mc g.dr h0,λb o h=>key b o (g.im b o h),g.sat,
  λi b o hi h=>key b o (g.le i b o hi h),g.dm,g.dj⟩
theorem Good.update(g:Good E w M hs V)(hi:i<V.length)(h':dZ)(hp:P'.ok M h')
  (h1:w'.os=w.os) (h2:w'.tape=w.tape) (h3:w'.output=w.output)
  (hle':∀b o,h' b=some o->w'.heap[b]? =some o)
  (hdom:∀b o,h' b=some o->(∃o',hs i b=some o')\/w.heap.size<=b)
  (hk:∀b,hs i b=none->b<w.heap.size->w'.heap[b]? =w.heap[b]?) (h0:w.drawn<=w'.drawn:=by first|exact bW _|exact Nat.le_succ _):
  Good E w' M (nR hs i h') (V.set i P'):=by
 have lt:∀b o,w.heap[b]? =some o->b<w.heap.size:=λb o h=>(Array.getElem?_eq_some_iff.1 h).1;refine⟨h1.trans g.os,h2.trans g.tape,h3.trans g.out,mc g.dr h0,λb o h=>?_,λj Q hq=>?_,λj b o hj hb=>?_,λj b o hj hb=>?_,λj k b o hj hk' hne hb=>?_⟩
 ·have hw:=g.im b o h;rw[hk b ?_<|lt b o hw];exact hw
  cases e:hs i b with
  |none=>rfl
  |some o'=>have:=g.dm i b o' hi e;grind
 ·rw[lk]at hq;unfold nR
  by_cases e:i=j
  ·grind
  ·rw[aF e]at hq;rw[aF<|λh=>e h.symm];exact g.sat j Q hq
 ·rw[j8]at hj;unfold nR at hb;split at hb
  ·grind
  ·rename_i e;have hw:=g.le j b o hj hb;rw[hk b (g.dj j i b o hj hi e hb)<|lt b o hw];exact hw
 ·rw[j8]at hj;unfold nR at hb;split at hb
  ·rcases hdom b o hb with⟨o',h'⟩|h'
   ·exact g.dm i b o' hi h'
   ·cases e:M b with
    |none=>rfl
    |some o'=>exact absurd (lt b o' (g.im b o' e)) (by omega)
  ·exact g.dm j b o hj hb
 ·rw[j8]at hj hk';unfold nR at hb ⊢;split at hb
  ·rename_i e;rw[aF<|λh=>hne<|e.trans h.symm]
   rcases hdom b o hb with⟨o',h'⟩|h'
   ·exact g.dj i k b o' hi hk' (λh=>hne<|e.trans h) h'
   ·cases e':hs k b with
    |none=>rfl
    |some o'=>exact absurd (lt b o' (g.le k b o' hk' e')) (by omega)
  ·rename_i e;split
   ·cases e':h' b with
    |none=>rfl
    |some o'=>
     rcases hdom b o' e' with⟨o'',h''⟩|h''
     ·have:=g.dj i j b o'' hi hj (λh=>e h.symm) h'';grind
     ·exact absurd (lt b o<|g.le j b o hj hb) (by omega)
   ·exact g.dj j k b o hj hk' hne hb
theorem Good.freeze(g:Good E w M hs V)(hi:i<V.length)(hp:P'.ok (qo M<|hs i) rX):
  Good E w (qo M<|hs i) (nR hs i rX) (V.set i P'):=by
 refine⟨g.os,g.tape,g.out,g.dr,λb o h=>?_,λj Q hq=>?_,λj b o hj hb=>?_,λj b o hj hb=>?_,λj k b o hj hk' hne hb=>?_⟩
 ·unfold qo at h
  cases e:M b with
  |none=>rw[e]at h;exact g.le i b o hi h
  |some o'=>rw[e]at h;simp at h;subst h;exact g.im b _ e
 ·rw[lk]at hq;unfold nR
  by_cases e:i=j
  ·grind
  ·rw[aF e]at hq;rw[aF<|λh=>e h.symm];exact Q.mono (wG _ _)<|g.sat j Q hq
 ·rw[j8]at hj;unfold nR at hb;split at hb
  ·cases hb
  ·exact g.le j b o hj hb
 ·rw[j8]at hj;unfold nR at hb;split at hb
  ·cases hb
  ·rename_i e;simp only[qo,g.dm j b o hj hb];exact g.dj j i b o hj hi e hb
 ·rw[j8]at hj hk';unfold nR at hb ⊢;split at hb
  ·cases hb
  ·split
   ·rfl
   ·exact g.dj j k b o hj hk' hne hb
theorem Good.pick(g:Good E w M hs V)(f:Nat->Nat)(hlt:∀i,i<Γ'.length->f i<V.length)(hget:∀i,i<Γ'.length->Γ'[i]? =V[f i]?)
  (hinj:∀i j,i<Γ'.length->j<Γ'.length->i≠j->f i≠f j):Good E w M (λi=>hs<|f i) Γ':=
 ⟨g.os,g.tape,g.out,g.dr,g.im,λi Q hq=>g.sat (f i) Q (by grind),
  λi b o hi hb=>g.le (f i) b o (hlt i hi) hb,λi b o hi hb=>g.dm (f i) b o (hlt i hi) hb,
  λi j b o hi hj hne hb=>g.dj (f i) (f j) b o (hlt i hi) (hlt j hj) (hinj i j hi hj hne) hb⟩
theorem Holds.drop(k:Nat)(h:Holds E w V)(hd:V.drop k=Γ':=by exact rfl):Holds E w Γ':=by
 obtain⟨M,hs,g⟩:=h;subst hd;exact⟨M,_,g.pick (λi=>k+i) (λi hi=>by grind) (λi _=>by rw[j7]) (λi j _ _ h=>by omega)⟩
theorem Holds.pick(h:Holds E w V)(m:Nat)(idx:aL Nat){Γ0 new:aL HP}(hd:V.drop m=Γ0)(hg:idx.map (λi=>V[i]?)=new.map some)
  (hn:idx.Nodup) (hm:∀i∈idx,i<m):Holds E w (new++Γ0):=by
 obtain⟨M,hs,g⟩:=h;have hlen:idx.length=new.length:=by have:=congrArg List.length hg;grind
 have hat:∀i,i<idx.length->V[idx.getD i 0]? =new[i]? :=λi hi=>by
  have:=congrArg (·[i]?) hg
  grind
 have hm':∀i,i<idx.length->idx.getD i 0<m:=λi hi=>by
  simp_all
 subst hd;have hget:∀i,i<(new++V.drop m).length->(new++V.drop m)[i]? =V[if i<idx.length then idx.getD i 0 else m+(i - idx.length)]? :=by
  grind
 refine⟨M,_,g.pick (λi=>if i<idx.length then idx.getD i 0 else m+(i - idx.length)) (λi hi=>?_) hget<|λi j hi hj hne=>?_⟩
 ·grind
 ·show(if i<idx.length then idx.getD i 0 else m+(i - idx.length))≠(if j<idx.length then idx.getD j 0 else m+(j - idx.length))
  grind [aM,List.getElem_inj]
theorem Holds.pull(i:Nat)(h:Holds E w V)(hi:V[i]? =some P:=by exact rfl):Holds E w (P::V.set i bD):=by
 obtain⟨M,hs,g⟩:=h;have hlt:=dK hi;have g2:=g.update (P':=bD) hlt rX trivial rfl rfl rfl (λb o hb=>by cases hb) (λb o hb=>by cases hb)<|λ_ _ _=>rfl
 refine⟨M,_,g2.cons (hs i) (g.sat i P hi) (λb o hb=>g.le i b o hlt hb) (λb o hb=>g.dm i b o hlt hb)<|λj b o hj hb=>?_⟩;rw[j8]at hj;unfold nR;split
 ·rfl
 ·rename_i e;exact g.dj i j b o hlt hj (λh=>e h.symm) hb
theorem Holds.world(h:Holds E w V)(h1:w'.os=w.os)(h2:w'.tape=w.tape)(h3:w'.output=w.output)
  (hk:∀b,b<w.heap.size->w'.heap[b]? =w.heap[b]?) (h0:w.drawn<=w'.drawn:=by first|exact bW _|exact Nat.le_succ _):Holds E w' V:=
 let⟨M,hs,g⟩:=h
 ⟨M,hs,g.world h1 h2 h3 hk h0⟩
theorem Holds.drew(h:Holds E w V):Holds E w.drew V:=h.world rfl rfl rfl<|λ_ _=>rfl
theorem sE(w:aW)(o:Obj)(b:Nat)(h:b<w.heap.size):(w.alloc o).heap[b]? =w.heap[b]? :=by
 show(w.heap.push o)[b]? =w.heap[b]?
 grind
theorem Holds.alloc(h:Holds E w V)(o:Obj)(hp:∀M hs,Good E w M hs V->P.ok M (one w.heap.size o)):Holds E (w.alloc o) (P::V):=by
 obtain⟨M,hs,g⟩:=h;have lt:∀b o,w.heap[b]? =some o->b<w.heap.size:=λb o h=>(Array.getElem?_eq_some_iff.1 h).1;refine⟨M,_,(g.world (w':=w.alloc o) rfl rfl rfl<|λb hb=>sE w o b hb).cons (one w.heap.size o) (hp M hs g) (λb o' hb=>?_) (λb o' hb=>?_)<|λj b o' hj hb=>?_⟩
 ·grind [iK,heap_alloc_new]
 ·obtain⟨rfl,rfl⟩:=iK hb
  cases e:M w.heap.size with
  |none=>rfl
  |some o'=>exact absurd (lt _ o' (g.im _ o' e)) (by omega)
 ·obtain⟨rfl,rfl⟩:=iK hb
  cases e:hs j w.heap.size with
  |none=>rfl
  |some o'=>exact absurd (lt _ o' (g.le j _ o' hj e)) (by omega)
theorem Holds.BS(h:Holds E w V)(hp:∀M hs,Good E w M hs V->P.ok M rX):Holds E w (P::V):=
 let⟨M,hs,g⟩:=h
 ⟨M,_,g.ga<|hp M hs g⟩
end
structure cN where
 dA:aL UInt8
 deriving DecidableEq,Inhabited
class GT (α:Type)where
 sz:Nat
 agg:Bool
 ok:dZ->aL aV->α->Prop
 pos:0<sz
 ag1:agg=false->sz=1
 len:∀{M:dZ}{cs:aL aV}{x:α},ok M cs x->cs.length=sz
 one:∀{M:dZ}{cs:aL aV}{x:α},ok M cs x->∀u∈cs,u.oneCell'=true
 mono:∀{M M':dZ}{cs:aL aV}{x:α},hle M M'->ok M cs x->ok M' cs x
class Sc (α:Type)where
 toV:α->aV
 one:∀x,(toV x).oneCell'=true
instance instGTSc {α:Type} [Sc α]:GT α where
 sz:=1
 agg:=false
 ok:=λ_ cs x=>cs= [Sc.toV x]
 pos:=by decide
 ag1:=λ_=>rfl
 len:=λh=>by rw[h];rfl
 one:=λh u hu=>by rw[h]at hu;simp at hu;subst hu;exact Sc.one _
 mono:=λ_ h=>h
@[reducible] def str(s:cN):aV:= .string ⟨s.dA.toArray⟩
instance:Sc Int:=⟨λn=> .int .i64 n,λ_=>rfl⟩
instance:Sc Bool:=⟨λb=> .bool b,λ_=>rfl⟩
instance:Sc cN:=⟨str,λ_=>rfl⟩
instance:Sc UInt8:=⟨λb=> .int .u8 b.toNat,λ_=>rfl⟩
def yM(M:dZ)(a:Addr):aU aV:=
 match M a.block with
 |some (.cells c _ _)=>if a.spot.isSome then none else c[a.off]?
 |_=>none
def At(M:dZ)(a:Addr)(cs:aL aV):Prop:=∀j u,cs[j]? =some u->yM M (a.add j)=some u
theorem vc{M:dZ}{w:aW}(h:∀b o,M b=some o->w.heap[b]? =some o){a:Addr}{v:aV}(hc:yM M a=some v):w.cell? a=some v:=by
 grind [yM,World.cell?]
theorem HQ{M M':dZ}(h:hle M M'){a:Addr}{v:aV}(hc:yM M a=some v):yM M' a=some v:=by
 unfold yM at hc ⊢;split at hc
 ·rename_i c _ _ e;rw[h _ _ e];exact hc
 ·cases hc
theorem At.mono{M M':dZ}(h:hle M M'){a:Addr}{cs:aL aV}(hc:At M a cs):At M' a cs:=λj u hu=>HQ h<|hc j u hu
theorem add_add(a:Addr)(i j:Nat):(a.add i).add j=a.add (i+j):=by
 grind [Addr.add,Nat.add_assoc]
theorem At.sub{M:dZ}{a:Addr}{cs:aL aV}(h:At M a cs)(k n:Nat):At M (a.add k) ((cs.drop k).take n):=by
 intro j u hu;rw[add_add];refine h (k+j) u ?_
 grind
section
variable {α β:Type}[GT α][GT β]{M M':dZ}{v:aV}{cs:aL aV}
variable {x:α}{l:aL α}
def u4(α:Type)[GT α](cs:aL aV):aV:=if GT.agg α then .agg cs.toArray else cs.headD undef
def xH(M:dZ)(v:aV)(x:α):Prop:=∃cs,v=u4 α cs/\GT.ok M cs x
theorem xH.mono(h:hle M M')(hr:xH M v x):xH M' v x:=let⟨cs,e,ho⟩:=hr;⟨cs,e,GT.mono h ho⟩
theorem Kh(ho:GT.ok M cs x):(u4 α cs).cells.toList=cs:=by
 unfold u4;have hl:=GT.len ho
 cases e:GT.agg α with
 |true=>simp[Value.cells]
 |false=>
  rw[GT.ag1 e]at hl
  match cs,hl,GT.one ho with
  | [c],_,h1=>
   have:=h1 c (by simp)
   cases c <;> simp[Value.cells,Value.oneCell']at this ⊢
theorem xH.cells(hr:xH M v x):GT.ok M v.cells.toList x:=by
 obtain⟨cs,rfl,ho⟩:=hr
 grind [Kh]
theorem EN{γ:Type}[Sc γ]{y:γ}:xH M v y↔v=Sc.toV y:=by
 constructor
 ·rintro⟨cs,rfl,ho⟩;have:cs= [Sc.toV y]:=ho;subst this;rfl
 ·rintro rfl;exact⟨[Sc.toV y],rfl,rfl⟩
def oz(M:dZ)(v:aV)(l:aL α):Prop:=
 ∃a n cap,v = .slice a n cap/\n=l.length/\n<=cap/\cap<=maxLen/\
  ∀i x,l[i]? =some x->∃ad cs,a=some ad/\GT.ok M cs x/\At M (ad.add<|i*GT.sz α) cs
theorem oz.mono(h:hle M M')(hs:oz M v l):oz M' v l:=by
 obtain⟨a,n,cap,hv,hn,hc,hm,hi⟩:=hs;exact⟨a,n,cap,hv,hn,hc,hm,λi x hx=>let⟨ad,cs,e,ho,ha⟩:=hi i x hx;⟨ad,cs,e,GT.mono h ho,ha.mono h⟩⟩
instance instGTList:GT (aL α)where
 sz:=1
 agg:=false
 ok:=λM cs l=>∃v,cs= [v]/\oz M v l
 pos:=by decide
 ag1:=λ_=>rfl
 len:=λ⟨v,h,_⟩=>by rw[h];rfl
 one:=λ⟨v,h,⟨a,n,cap,hv,_⟩⟩u hu=>by rw[h]at hu;simp at hu;subst hu;rw[hv];rfl
 mono:=λh⟨v,e,hs⟩=>⟨v,e,hs.mono h⟩
theorem mu:xH M v l↔oz M v l:=by
 constructor
 ·rintro⟨cs,rfl,v,rfl,hs⟩;exact hs
 ·intro h;exact⟨[v],rfl,v,rfl,h⟩
instance instGTProd:GT (α×β)where
 sz:=GT.sz α+GT.sz β
 agg:=true
 ok:=λM cs x=>∃c d,cs=c++d/\GT.ok M c x.1/\GT.ok M d x.2
 pos:=by have:=GT.pos (α:=α);omega
 ag1:=λh=>by cases h
 len:=λ⟨c,d,e,h1,h2⟩=>by rw[e,bO,GT.len h1,GT.len h2]
 one:=λ⟨c,d,e,h1,h2⟩u hu=>by
  rw[e,dJ]at hu
  rcases hu with hu|hu
  ·exact GT.one h1 u hu
  ·exact GT.one h2 u hu
 mono:=λh⟨c,d,e,h1,h2⟩=>⟨c,d,e,GT.mono h h1,GT.mono h h2⟩
@[reducible] def GT.via{γ:Type}(f:γ->α):GT γ where
 sz:=GT.sz α
 agg:=true
 ok:=λM cs x=>GT.ok M cs<|f x
 pos:=GT.pos
 ag1:=λh=>by cases h
 len:=λh=>GT.len h
 one:=λh=>GT.one h
 mono:=λh k=>GT.mono h k
def Fd(k:Nat)(f:α->β):Prop:=∀(M:dZ)(cs:aL aV)(x:α),GT.ok M cs x->GT.ok M ((cs.drop k).take<|GT.sz β) (f x)
theorem Fd.self:Fd 0 (λx:α=>x):=λM cs x h=>by
 rw[List.drop_zero,pK (by grind [GT.len])];exact h
theorem Fd.fst{γ:Type}[GT γ]{k:Nat}{f:α->γ}(h:Fd k f)(hk:k+GT.sz γ<=GT.sz α:=by decide):Fd k (λx:α×β=>f x.1):=by
 rintro M cs x⟨c,d,rfl,h1,h2⟩;have hl:=GT.len h1;rw[List.drop_append_of_le_length (by omega),List.take_append_of_le_length (by grind)];exact h M c x.1 h1
theorem Fd.snd{γ:Type}[GT γ]{k k':Nat}{f:β->γ}(h:Fd k f)(hk:k'=GT.sz α+k:=by exact rfl):Fd k' (λx:α×β=>f x.2):=by
 rintro M cs x⟨c,d,rfl,h1,h2⟩;subst hk;rw[<-GT.len h1,List.drop_length_add_append];exact h M d x.2 h2
def Fs(k:Nat)(β:Type)[GT β](f:α->β->α):Prop:=
 ∀(M:dZ)(cs ds:aL aV)(x:α)(y:β),GT.ok M cs x->GT.ok M ds y->GT.ok M (cs.take k++ds++cs.drop (k+GT.sz β)) (f x y)
theorem Fs.self:Fs 0 α (λ_ y:α=>y):=λM cs ds x y h1 h2=>by
 rw[List.take_zero,List.nil_append,List.drop_eq_nil_of_le (by grind [GT.len]),iR];exact h2
theorem Fs.fst{γ:Type}[GT γ]{k:Nat}{f:α->γ->α}(h:Fs k γ f)(hk:k+GT.sz γ<=GT.sz α:=by decide):Fs k γ (λ(x:α×β)y=>(f x.1 y,x.2)):=by
 rintro M cs ds x y⟨c,d,rfl,h1,h2⟩hy;have hl:=GT.len h1;refine⟨c.take k++ds++c.drop (k+GT.sz γ),d,?_,h M c ds x.1 y h1 hy,h2⟩
 grind
theorem Fs.snd{γ:Type}[GT γ]{k k':Nat}{f:β->γ->β}(h:Fs k γ f)(hk:k'=GT.sz α+k:=by exact rfl):Fs k' γ (λ(x:α×β)y=>(x.1,f x.2 y)):=by
 rintro M cs ds x y⟨c,d,rfl,h1,h2⟩hy;subst hk;refine⟨c,d.take k++ds++d.drop (k+GT.sz γ),?_,h1,h M d ds x.2 y h2 hy⟩;rw[<-GT.len h1,List.take_length_add_append,Nat.add_assoc,List.drop_length_add_append];simp
end
section
variable {α β:Type}[GT α][GT β]
def rd(v:aV)(x:α):HP:=⟨λM h=>xH M v x/\h=rX,λk⟨a,b⟩=>⟨a.mono k,b⟩⟩
def Vi(M:dZ)(v:aV)(x:α):Prop:=∃ad cs,v = .pointer (some ad)/\GT.ok M cs x/\At M ad cs
def pt(v:aV)(x:α):HP:=⟨λM h=>Vi M v x/\h=rX,λk⟨⟨ad,cs,e,ho,ha⟩,b⟩=>⟨⟨ad,cs,e,GT.mono k ho,ha.mono k⟩,b⟩⟩
def bx(e:bR)(g:Nat)(x:α):HP:=⟨λM h=>∃cs,GT.ok M cs x/\h=Gk.one g (.cells cs.toArray e (0,0)),λk⟨cs,ho,hh⟩=>⟨cs,GT.mono k ho,hh⟩⟩
def Cells(M:dZ)(xs:aL aV)(l:aL α):Prop:=
 xs.length=l.length*GT.sz α/\∀i x,l[i]? =some x->GT.ok M ((xs.drop<|i*GT.sz α).take<|GT.sz α) x
theorem Cells.mono{M M':dZ}(h:hle M M'){xs:aL aV}{l:aL α}(hc:Cells M xs l):Cells M' xs l:=⟨hc.1,λi x hx=>GT.mono h<|hc.2 i x hx⟩
def xZ(e:bR)(M h:dZ)(v:aV)(l:aL α):Prop:=
 (v = .slice none 0 0/\l= []/\h=rX)\/
 ∃g o cap cur xs,v = .slice (some ⟨g,o,none⟩) l.length cap/\l.length<=cap/\cap<=maxLen/\h=Gk.one g (.cells cur e (0,0))/\
  o+cap*GT.sz α<=cur.size/\(cur.toList.drop o).take (l.length*GT.sz α)=xs/\Cells M xs l
def own(e:bR)(v:aV)(l:aL α):HP:=⟨λM h=>xZ e M h v l,λ{M M' h}k hh=>by
 rcases hh with hh|⟨g,o,cap,cur,xs,h1,h2,h3,h4,h5,h6,h7⟩
 ·exact .inl hh
 ·exact .inr ⟨g,o,cap,cur,xs,h1,h2,h3,h4,h5,h6,h7.mono k⟩⟩
end
def eG(U:Nat->aV)(d:Nat)(v:aV):Nat->aV:=λt=>bif Nat.beq t d then v else U t
def ev(U:Nat->aV):bK->aV
 | .tmp t=>U t
 | .const v=>v
 | .global g=> .pointer (some ⟨g,0,none⟩)
 | .func f=> .func (.func f) #[] #[]
structure Sl (n:Nat) (U:Nat->aV) (a:Act):Prop where
 defers:a.defers= []
 size:a.tmps.size=n
 get:∀t,a.tmps.getD t undef=U t
theorem Sl.ev{n:Nat}{U:Nat->aV}{a:Act}(h:Sl n U a):a.eval=ev U:=by
 funext x
 cases x with
 |tmp t=>exact h.get t
 |const v=>rfl
 |global g=>rfl
 |func f=>rfl
theorem Sl.put{n:Nat}{U:Nat->aV}{a:Act}(h:Sl n U a){d:Nat}(hd:Nat.blt d n=true)(v:aV):Sl n (eG U d v) (a.put (some d) v)where
 defers:=h.defers
 size:=by simp[Act.put,h.size]
 get:=λt=>by
  have hd':d<a.tmps.size:=by rw[h.size];exact Nat.blt_eq▸hd
  unfold eG
  by_cases e:t=d
  ·subst e;simp[Act.put,hd']
  ·have hb:Nat.beq t d=false:=by
    cases hx:Nat.beq t d with
    |false=>rfl
    |true=>exact absurd (fP hx) e
   rw[hb];simp only[aP,<-h.get t,Act.put,Array.getD_eq_getD_getElem?];rw[Array.getElem?_setIfInBounds_ne<|λh=>e h.symm]
theorem Sl.BT{n:Nat}{U:Nat->aV}{a:Act}(h:Sl n U a)(v:aV):Sl n U (a.put none v):=h
abbrev gv:=Exit->(Nat->aV)->aW->Prop
def Lf(n:Nat)(Q:gv):Exit->Act->aW->Prop:=λex a w=>∃U,Sl n U a/\Q ex U w
def RL(P:bP)(n:Nat)(ops:bB bL)(rest:aL bL)(U:Nat->aV)(w:aW)(Q:gv):Prop:=
 ∀a,Sl n U a->wpList P ops (Lf n Q) rest a w
def RC(P:bP)(n:Nat)(c:Code)(U:Nat->aV)(w:aW)(Q:gv):Prop:=∀a,Sl n U a->c.wp P (Lf n Q) a w
def nY(P:bP)(n:Nat)(y:Code)(Q:gv):gv
 | .normal,U,w=>RC P n y U w Q
 |e,U,w=>Q e U w
def z6(id:Nat)(Q:gv):gv
 | .exit i,U,w=>if i=id then Q .normal U w else Q (.exit i) U w
 |e,U,w=>Q e U w
section
variable {P:bP}{n:Nat}{U:Nat->aV}{w:aW}{Q Q':gv}{x y c:Code}{id:Nat}
theorem RC.mono(h:RC P n c U w Q)(hq:∀e U w,Q e U w->Q' e U w):RC P n c U w Q':=
 λa ha=>wp_mono (h a ha) λe _ w⟨U,hs,q⟩=>⟨U,hs,hq e U w q⟩
theorem IS(h:RC P n x U w (nY P n y Q)):RC P n (.seq x y) U w Q:=λa ha=>
 wp_seq (wp_mono (h a ha) λe a w⟨U,hs,q⟩=>by
  cases e with
  |normal=>exact q a hs
  |_=>exact⟨U,hs,q⟩)
theorem WM(h:RC P n x U w (z6 id Q)):RC P n (.block id x) U w Q:=λa ha=>
 wp_block (wp_mono (h a ha) λe a w⟨U,hs,q⟩=>by
  cases e with
  |exit i=>
   simp only[z6]at q;simp only[Exit.inBlock];split at q
   ·rename_i e;subst e;simp;exact⟨U,hs,q⟩
   ·rename_i e;simp[e];exact⟨U,hs,q⟩
  |_=>exact⟨U,hs,q⟩)
theorem Wc(h:Q .normal U w):RC P n .skip U w Q:=λ_ ha=>wp_skip ⟨U,ha,h⟩
theorem VN(h:Q .ret U w):RC P n .ret U w Q:=λ_ ha=>wp_ret ⟨U,ha,h⟩
theorem Yt{i:Nat}(h:Q (.exit i) U w):RC P n (.exit i) U w Q:=λ_ ha=>wp_exit ⟨U,ha,h⟩
theorem XB{q:bK}{b:Bool}(hc:ev U q = .bool b)(ht:b=true->RC P n x U w Q)(hf:b=false->RC P n y U w Q):RC P n (.cond q x y) U w Q:=
 λa ha=>wp_cond_split (t:=b) (by rw[ha.ev];exact hc) (λh=>ht h a ha)<|λh=>hf h a ha
theorem BY{l:aL bL}(h:RL P n l.toArray l U w Q):RC P n (.region id l.toArray false) U w Q:=λa ha=>wp_region_lit<|h a ha
theorem By{ops:bB bL}(h:Q .normal U w):RL P n ops [] U w Q:=λ_ ha=>⟨U,ha,h⟩
theorem aD(h:RC P n y U w Q):nY P n y Q .normal U w:=h
theorem bI(h:Q .normal U w):z6 id Q .normal U w:=h
theorem BU(h:Q .normal U w):z6 id Q (.exit id) U w:=by grind [z6]
def ml(P:bP)(n:Nat)(fn:Func)(R:aV->aW->Prop):gv
 | .normal,U,w| .ret,U,w=>∃v,(∀a,Sl n U a->(results fn a.tmps).run P w = .ok v w)/\R v w
 |_,_,_=>False
def fG(R:aV->aW->Prop):Ending->aW->Prop:=λe w=>∃v,e = .returned v/\R v w
def QL(l:aL aV)(t:Nat):aV:=l.getD t undef
theorem enter{f:FuncId}{fn:Func}{args:aL aV}{R:aV->aW->Prop}(hf:P.funcs[f]? =some fn)(hb:fn.body=some c)(hn:fn.ntmps=n)(h:RC P n c (QL args) w (ml P n fn R))(hk:args.length<=n:=by exact Nat.le_of_ble_eq_true rfl):Calls P f args.toArray w (fG R):=by
 refine calls_of_wp hf hb<|wp_mono (h _ ⟨rfl,?_,λt=>?_⟩) λe a w⟨U,hs,q⟩=>?_
 ·grind
 ·simp only[QL,Array.getD_eq_getD_getElem?,List.getD_eq_getElem?_getD]
  grind
 ·cases e with
  |normal=>obtain⟨v,hv,hR⟩:=q;exact⟨hs.defers,v,hv a hs,v,rfl,hR⟩
  |ret=>obtain⟨v,hv,hR⟩:=q;exact⟨hs.defers,v,hv a hs,v,rfl,hR⟩
  |_=>exact q.elim
theorem bT{fn:Func}{R:aV->aW->Prop}{t:Nat}{v:aV}(h:R v w)(hr:fn.results = #[.tmp t]:=by exact rfl)(hv:U t=v:=by exact rfl):ml P n fn R .ret U w:=
 ⟨v,λa ha=>by rw[results_tmp hr,ha.get,hv],h⟩
theorem ik{fn:Func}{R:aV->aW->Prop}{t u:Nat}{v v':aV}(h:R (.tuple #[v,v']) w)(hr:fn.results = #[.tmp t, .tmp u]:=by exact rfl)(hv:U t=v:=by exact rfl)(hv':U u=v':=by exact rfl):ml P n fn R .ret U w:=
 ⟨_,λa ha=>by rw[results_tmp2 hr,ha.get,ha.get,hv,hv'],h⟩
theorem A8{fn:Func}{R:aV->aW->Prop}(h:R (.tuple #[]) w)(hr:fn.results = #[]:=by exact rfl):ml P n fn R .ret U w:=
 ⟨_,λa _=>by rw[results_none hr],h⟩
theorem vd{fn:Func}{R:aV->aW->Prop}(h:ml P n fn R .ret U w):ml P n fn R .normal U w:=h
def Wn(ops:bB bL)(U:Nat->aV):aU (Nat×Bool)->Prop
 |none=>True
 |some (j,b)=>∃t,(ops[j]?).bind (·.dst)=some t/\U t = .bool b
theorem Wn.wanted{ops:bB bL}{o:bL}{a:Act}(h:Wn ops U o.guard)(ha:Sl n U a):Region.wanted o (yielded ops a.tmps)=true:=by
 unfold Region.wanted
 cases e:o.guard with
 |none=>rfl
 |some jb=>
  obtain⟨j,b⟩:=jb;rw[e]at h;obtain⟨t,ht,hb⟩:=h;have hg:=ha.get t;rw[hb,Array.getD_eq_getD_getElem?]at hg;have:a.tmps[t]? =some (.bool b):=by
   cases hx:a.tmps[t]? with
   |none=>rw[hx]at hg;cases hg
   |some v=>grind
  grind [yielded]
variable {ops:bB bL}{rest:aL bL}{d:Nat}{ty:bR}{pos:String}{af:bB Edge}{g:aU (Nat×Bool)}{w':aW}{v:aV}{op:Op}
theorem Wf(hg:Wn ops U g)(hd:Nat.blt d n=true)(hrun:(execOp (ev U) ⟨some d,op,ty,pos,af,g⟩).run P w = .ok (.value v) w')
  (k:RL P n ops rest (eG U d v) w' Q):RL P n ops (⟨some d,op,ty,pos,af,g⟩::rest) U w Q:=by
 intro a ha;unfold wpList;rw[aH<|Wn.wanted (o:=⟨some d,op,ty,pos,af,g⟩) hg ha];refine .inl ?_;unfold Oper.wp;rw[ha.ev,hrun];exact k _<|ha.put hd v
theorem Xj(hg:Wn ops U g)(hrun:(execOp (ev U) ⟨none,op,ty,pos,af,g⟩).run P w = .ok .skip w')
  (k:RL P n ops rest U w' Q):RL P n ops (⟨none,op,ty,pos,af,g⟩::rest) U w Q:=by
 intro a ha;unfold wpList;rw[aH<|Wn.wanted (o:=⟨none,op,ty,pos,af,g⟩) hg ha];refine .inl ?_;unfold Oper.wp;rw[ha.ev,hrun];exact k _<|ha.BT _
theorem XL{j t:Nat}{b:Bool}(ht:(ops[j]?).bind (·.dst)=some t)(hv:U t = .bool (!b)\/U t=undef)(hd:Nat.blt d n=true)
  (k:RL P n ops rest (eG U d undef) w Q):RL P n ops (⟨some d,op,ty,pos,af,some (j,b)⟩::rest) U w Q:=by
 intro a ha;have hno:Region.wanted ⟨some d,op,ty,pos,af,some (j,b)⟩ (yielded ops a.tmps)=false:=by
  have hg:=ha.get t;rw[Array.getD_eq_getD_getElem?]at hg;simp only[Region.wanted,yielded,ht,Option.bind_some]
  cases hx:a.tmps[t]? with
  |none=>rfl
  |some u=>
   rw[hx]at hg;simp at hg;subst hg
   rcases hv with h|h <;> rw[h]
   ·simp
   ·rfl
 unfold wpList;rw[aF (by rw[hno];decide)];exact k _<|ha.put hd _
theorem X8{f:FuncId}{args:bB aV}(hg:Wn ops U g)(hd:Nat.blt d n=true)
  (hrun:(execOp (ev U) ⟨some d,op,ty,pos,af,g⟩).run P w = .ok (.enter f args) w)
  (k:Calls P f args w (fG λv w'=>RL P n ops rest (eG U d v) w' Q)):RL P n ops (⟨some d,op,ty,pos,af,g⟩::rest) U w Q:=by
 intro a ha;unfold wpList;rw[aH<|Wn.wanted (o:=⟨some d,op,ty,pos,af,g⟩) hg ha];refine .inl ?_;unfold Oper.wp;rw[ha.ev,hrun];refine Calls.mono k λe w'' he=>?_;obtain⟨v,rfl,h⟩:=he;exact h _<|ha.put hd v
theorem EO{f:FuncId}{fn:Func}{args:bB aV}(hf:P.funcs[f]? =some fn)(hnm:(fn.name== "runtime.NumGoroutine")=false)(hb:fn.body.isNone=false):
  (callFunc f args).run P w = .ok (.enter f args) w:=by
 unfold callFunc program;simp only[Bind.bind,Sem.bind,Sem.run,hf];rw[aF (by rw[hnm];decide),aF (by rw[hb];decide)];rfl
structure fT (P:bP) (f:FuncId):Prop where
 run:∀(args:bB aV)(w:aW),(callFunc f args).run P w = .ok (.enter f args) w
theorem Yu{f:FuncId}{args:bB bK}{ts:bB bR}(hg:Wn ops U g)(hd:Nat.blt d n=true)(hf:fT P f)(vs:aL aV)
  (hvs:args.toList.map (ev U)=vs) (k:Calls P f vs.toArray w (fG λv w'=>RL P n ops rest (eG U d v) w' Q)):
  RL P n ops (⟨some d, .call ⟨.value<|.func f,args,ts⟩,ty,pos,af,g⟩::rest) U w Q:=by
 have e:args.map (ev U)=vs.toArray:=by grind
 refine X8 (f:=f) (args:=vs.toArray) hg hd ?_ k;simp only[execOp,resolve,aR];simp only[ev,Deferred.ofValue,e,bG,bC,invoke];simpa using hf.run vs.toArray w
theorem W4{q:bK}{f:FuncId}{args:bB bK}{ts:bB bR}(cap:aL aV)(hf:fT P f)(vs:aL aV)(k:Calls P f (vs++cap).toArray w (fG λv w'=>RL P n ops rest (eG U d v) w' Q))(hg:Wn ops U g:=by exact trivial)(hd:Nat.blt d n=true:=by exact rfl)(hq:ev U q = .func (.func f) #[] cap.toArray:=by exact rfl)(hvs:args.toList.map (ev U)=vs:=by exact rfl):
  RL P n ops (⟨some d, .call ⟨.value q,args,ts⟩,ty,pos,af,g⟩::rest) U w Q:=by
 have e:args.map (ev U)=vs.toArray:=by grind
 refine X8 (f:=f) (args:=(vs++cap).toArray) hg hd ?_ k;simp only[execOp,resolve,aR];simp only[hq,Deferred.ofValue,e,bG,bC,invoke];simpa using hf.run (vs++cap).toArray w
theorem eA{f:FuncId}{args:bB aV}{R R':aV->aW->Prop}(h:Calls P f args w (fG R))(k:∀v w',R v w'->R' v w'):Calls P f args w (fG R'):=
 Calls.mono h λ_ w'⟨v,e,hr⟩=>⟨v,e,k v w' hr⟩
end
structure kR (P:bP) (T:bR) (ag:Bool) (k:Nat):Prop where
 Ki:∀w,(isAgg T).run P w = .ok ag w
 sz:∀w,(sizeOf T).run P w = .ok k w
structure mm (P:bP) (T:bR) (i k:Nat):Prop where
 run:∀a w,(Instr.fieldAt T (.pointer<|some a) i).run P w = .ok (.pointer<|some<|a.add k) w
structure uI (P:bP) (T e:bR) (k:Nat):Prop where
 z5:P.underlying T=some (.slice e)
 sz:∀w,(sizeOf e).run P w = .ok k w
def cv(c:Bool)(v:aV):aV:=bif c then v else undef
theorem kO{c:Bool}{v:aV}(h:c=true):cv c v=v:=by rw[h];rfl
theorem LA{a b:Bool}(h:(a&&b)=true):a=true:=by grind
theorem sU(c:Bool){a b:Bool}(h:c=true:=by exact rfl):(if a=true then Value.bool true else cv (c&&(a==false)) (.bool b)) = .bool (a||b):=by
 subst h;cases a <;> rfl
theorem kc(c:Bool){a b:Bool}(h:c=true:=by exact rfl):(if a=true then cv (c&&(a==true)) (.bool b)else Value.bool false) = .bool (a&&b):=by
 subst h;cases a <;> rfl
@[reducible] def i7:BinOp->Int->Int->Bool
 | .eql,a,b=>a==b
 | .neq,a,b=>a != b
 | .lss,a,b=>decide (a<b)
 | .leq,a,b=>decide (a<=b)
 | .gtr,a,b=>decide (a>b)
 | .geq,a,b=>decide (a>=b)
 |_,_,_=>false
def xI:BinOp->Bool
 | .eql| .neq| .lss| .leq| .gtr| .geq=>true
 |_=>false
@[reducible] def fF:BinOp->Int->Int->Int
 | .add,a,b=>a+b
 | .sub,a,b=>a - b
 | .mul,a,b=>a*b
 |_,_,_=>0
def NM:BinOp->Bool
 | .add| .sub| .mul=>true
 |_=>false
def cN.u5(a b:cN):Bool:=a.dA==b.dA
def cN.BV(a b:cN):Bool:=Op.bytesLess a.dA b.dA
@[reducible] def BW:BinOp->cN->cN->Bool
 | .eql,a,b=>a.u5 b
 | .neq,a,b=> !a.u5 b
 | .lss,a,b=>a.BV b
 | .leq,a,b=>a.BV b||a.u5 b
 | .gtr,a,b=> !(a.BV b||a.u5 b)
 | .geq,a,b=> !a.BV b
 |_,_,_=>false
section
variable {P:bP}{n:Nat}{U:Nat->aV}{w:aW}{Q:gv}{E:aW}{V:aL HP}
variable {ops:bB bL}{rest:aL bL}{d:Nat}{ty:bR}{pos:String}{af:bB Edge}{g:aU (Nat×Bool)}{v v' u:aV}{x y z:bK}{T T':bR}
theorem VK(v:aV)(hg:Wn ops U g)(k:RL P n ops rest (eG U d v) w Q)(hd:Nat.blt d n=true:=by exact rfl)(hx:ev U x=v:=by exact rfl):
  RL P n ops (⟨some d, .move x,ty,pos,af,g⟩::rest) U w Q:=Wf hg hd (by rw[<-hx];rfl) k
theorem X9(hg:Wn ops U g)(hd:Nat.blt d n=true)(hx:ev U x=v)(k:RL P n ops rest (eG U d v) w Q):
  RL P n ops (⟨some d, .assign x,ty,pos,af,g⟩::rest) U w Q:=Wf hg hd (by rw[<-hx];rfl) k
theorem V6{i:Nat}{vs:bB aV}(v:aV)(k:RL P n ops rest (eG U d v) w Q)(hg:Wn ops U g:=by exact trivial)(hd:Nat.blt d n=true:=by exact rfl)(hx:ev U x = .tuple vs:=by exact rfl)(hi:vs[i]? =some v:=by exact rfl):
  RL P n ops (⟨some d, .extract x i,ty,pos,af,g⟩::rest) U w Q:=
 Wf hg hd (by grind [execOp,Instr.extract,aR,bG,bC]) k
theorem Wl{b:Bool}(hg:Wn ops U g)(hd:Nat.blt d n=true)(hx:ev U x = .bool b)(hv:(if b=true then ev U y else ev U z)=v)(k:RL P n ops rest (eG U d v) w Q):
  RL P n ops (⟨some d, .pick x y z,ty,pos,af,g⟩::rest) U w Q:=
 Wf hg hd (by grind [execOp,asBool,aR,bG,bC]) k
theorem Wr(b:Bool)(k:RL P n ops rest (eG U d<|.bool<|!b) w Q)(hg:Wn ops U g:=by first|exact trivial|exact⟨_,rfl,rfl⟩|exact⟨_,rfl,Gk.cb ‹_›⟩)(hd:Nat.blt d n=true:=by exact rfl)(hx:ev U x = .bool b:=by exact rfl):
  RL P n ops (⟨some d, .unOp .not T x,ty,pos,af,g⟩::rest) U w Q:=
 Wf hg hd (by grind [execOp,Op.unary,aR,bG,bC]) k
theorem F9{bop:BinOp}{K:IntKind}{a b:Int}(hc:xI bop=true)(w:aW):(binOp bop T (.int K a)<|.int K b).run P w = .ok (.bool<|i7 bop a b) w:=by
 cases bop <;> first|(cases hc;done)|(simp only[binOp,ne_eq,not_true,if_false,Op.intCmp,bG,i7])
theorem Ws{bop:BinOp}{K:IntKind}(a b:Int)(hg:Wn ops U g)(k:RL P n ops rest (eG U d<|.bool<|i7 bop a b) w Q)(hd:Nat.blt d n=true:=by exact rfl)(hx:ev U x = .int K a:=by exact rfl)(hy:ev U y = .int K b:=by exact rfl)(hc:xI bop=true:=by exact rfl):RL P n ops (⟨some d, .binOp bop T x y T',ty,pos,af,g⟩::rest) U w Q:=by
 refine Wf hg hd ?_ k
 grind [eqGuard,execOp,aR,bC,F9,bG]
theorem OF{bop:BinOp}{K:IntKind}(a b:Int)(k:RL P n ops rest (eG U d<|.int K<|K.wrap<|fF bop a b) w Q)(hg:Wn ops U g:=by first|exact trivial|exact⟨_,rfl,rfl⟩|exact⟨_,rfl,Gk.cb ‹_›⟩)(hd:Nat.blt d n=true:=by exact rfl)(hx:ev U x = .int K a:=by exact rfl)(hy:ev U y = .int K b:=by exact rfl)(hc:NM bop=true:=by exact rfl):RL P n ops (⟨some d, .binOp bop T x y T',ty,pos,af,g⟩::rest) U w Q:=by
 refine Wf hg hd ?_ k;have e:(eqGuard bop T x y (.int K a)<|.int K b).run P w = .ok () w:=by simp[eqGuard]
 have e2:(binOp bop T (.int K a)<|.int K b).run P w = .ok (.int K<|K.wrap<|Gk.fF bop a b) w:=by
  cases bop <;> first|(cases hc;done)|(simp only[binOp,ne_eq,not_true,if_false,Op.intArith,bG,Gk.fF])
 grind [execOp,aR,bC,bG]
theorem W7{bop:BinOp}(v v' u:aV)(hd:Nat.blt d n=true)(hx:ev U x=v)(hy:ev U y=v')(k:RL P n ops rest (eG U d u) w Q)(hg:Wn ops U g:=by exact trivial)(he:∀w,(eqGuard bop T x y v v').run P w = .ok () w:=by exact(λ_=>rfl))(hr:∀w,(binOp bop T v v').run P w = .ok u w:=by exact(λ_=>rfl)):RL P n ops (⟨some d, .binOp bop T x y T',ty,pos,af,g⟩::rest) U w Q:=by
 refine Wf hg hd ?_ k
 simp_all[execOp,aR,bC,bG]
theorem HR(s:cN):(⟨s.dA.toArray⟩:ByteArray).toList=s.dA:=by rw[ByteArray.toList_eq]
theorem Ga{bop:BinOp}{a b:cN}(hc:xI bop=true)(w:aW):(binOp bop T (str a)<|str b).run P w = .ok (.bool<|BW bop a b) w:=by
 cases bop <;> first|(cases hc;done)|(simp only[binOp,str,Op.stringOp,HR,bG,BW,cN.u5,cN.BV])
theorem Xw{bop:BinOp}(a b:cN)(hg:Wn ops U g)(hd:Nat.blt d n=true)(hx:ev U x=str a)(hy:ev U y=str b)(hc:xI bop=true)(k:RL P n ops rest (eG U d<|.bool<|BW bop a b) w Q):RL P n ops (⟨some d, .binOp bop T x y T',ty,pos,af,g⟩::rest) U w Q:=by
 refine Wf hg hd ?_ k
 grind [eqGuard,execOp,aR,bC,Ga,bG]
theorem Xa{t:bR}(s:cN)(ht:P.underlying t=some .string)(k:RL P n ops rest (eG U d<|.int .i64 (s.dA.length:Nat)) w Q)(hg:Wn ops U g:=by exact trivial)(hd:Nat.blt d n=true:=by exact rfl)(hx:ev U x=str s:=by exact rfl):RL P n ops (⟨some d, .call ⟨.builtin .len,#[x],#[t]⟩,ty,pos,af,g⟩::rest) U w Q:=by
 refine Wf hg hd ?_ k;have e:(⟨s.dA.toArray⟩:ByteArray).size=s.dA.length:=rfl;simp[execOp,resolve,hx,invoke,builtin,Builtin.len_,run_underlying ht,goInt,str,e]
theorem Xk{t e:bR}{a:aU Addr}{m cap:Nat}(hg:Wn ops U g)(hd:Nat.blt d n=true)(hx:ev U x = .slice a m cap)(ht:P.underlying t=some (.slice e))
  (k:RL P n ops rest (eG U d<|.int .i64 (m:Nat)) w Q):RL P n ops (⟨some d, .call ⟨.builtin .len,#[x],#[t]⟩,ty,pos,af,g⟩::rest) U w Q:=by
 refine Wf hg hd ?_ k;simp[execOp,resolve,hx,invoke,builtin,Builtin.len_,run_underlying ht,goInt]
theorem XM(s:cN)(i:Int)(c:UInt8){K:IntKind}(hd:Nat.blt d n=true)(hx:ev U x=str s)(hy:ev U y = .int K i)(ht:P.underlying T=some .string)(hc:(if 0<=i then s.dA[i.toNat]? else none)=some c)(k:RL P n ops rest (eG U d<|.int .u8 (c.toNat:Nat)) w Q)(hg:Wn ops U g:=by exact trivial):
  RL P n ops (⟨some d, .index T x y,ty,pos,af,g⟩::rest) U w Q:=by
 refine Wf hg hd ?_ k;have e:(if 0<=i then(⟨s.dA.toArray⟩:ByteArray)[i.toNat]? else none)=some c:=by
  rw[<-hc];split
  ·have:(⟨s.dA.toArray⟩:ByteArray)[i.toNat]? =s.dA.toArray[i.toNat]? :=rfl
   grind
  ·rfl
 simp_all[execOp,Instr.index,asIntOf,run_underlying,str,aR,bG,bC]
theorem Wk{j t:Nat}(c:Bool){want:Bool}(b:Bool){op:Op}(v:aV)(ht:(ops[j]?).bind (·.dst)=some t)(hv:U t=cv c (.bool b))(hd:Nat.blt d n=true)(hrun:(c&&(b==want))=true->(execOp (ev U) ⟨some d,op,ty,pos,af,some (j,want)⟩).run P w = .ok (.value v) w)(k:RL P n ops rest (eG U d<|cv (c&&(b==want)) v) w Q):RL P n ops (⟨some d,op,ty,pos,af,some (j,want)⟩::rest) U w Q:=by
 cases hC:(c&&(b==want))with
 |true=>
  rw[hC]at k;have hb:b=want:=by grind
  exact Wf (v:=v) ⟨t,ht,by grind [kO]⟩ hd (hrun hC) k
 |false=>
  rw[hC]at k;refine XL ht ?_ hd k;rw[hv]
  cases c with
  |false=>exact .inr rfl
  |true=>left;cases b <;> cases want <;> first|rfl|(cases hC)
theorem NN{C:Bool}{o:bL}(ho:o.op = .move x)(hx:C=true->ev U x=v):C=true->(execOp (ev U) o).run P w = .ok (.value v) w:=
 by simp_all[execOp]
theorem NO{C:Bool}{o:bL}{bop:BinOp}{K:IntKind}{a b:Int}(ho:o.op = .binOp bop T x y T')(hx:C=true->ev U x = .int K a)(hy:C=true->ev U y = .int K b)(hc:xI bop=true):
  C=true->(execOp (ev U) o).run P w = .ok (.value<|.bool<|i7 bop a b) w:=by grind [eqGuard,execOp,aR,bC,F9,bG]
theorem PC{C:Bool}{o:bL}{bop:BinOp}{K:IntKind}{a b:Int}(ho:o.op = .binOp bop T x y T')(hx:C=true->ev U x = .int K a)(hy:C=true->ev U y = .int K b)(hc:NM bop=true):
  C=true->(execOp (ev U) o).run P w = .ok (.value<|.int K<|K.wrap<|fF bop a b) w:=λh=>by
 have e:(eqGuard bop T x y (.int K a)<|.int K b).run P w = .ok () w:=by unfold eqGuard;cases bop <;> rfl
 have e2:(binOp bop T (.int K a)<|.int K b).run P w = .ok (.int K<|K.wrap<|Gk.fF bop a b) w:=by
  cases bop <;> first|(cases hc;done)|(simp only[binOp,ne_eq,not_true,if_false,Op.intArith,bG,Gk.fF])
 unfold execOp;rw[ho];simp only[hx h,hy h,aR,e,bC,e2,bG]
theorem NP{C:Bool}{o:bL}{bop:BinOp}{a b:cN}(ho:o.op = .binOp bop T x y T')(hx:C=true->ev U x=str a)(hy:C=true->ev U y=str b)(hc:xI bop=true):
  C=true->(execOp (ev U) o).run P w = .ok (.value<|.bool<|BW bop a b) w:=by grind [eqGuard,execOp,aR,bC,Ga,bG]
theorem PD{C:Bool}{o:bL}{b:Bool}(ho:o.op = .unOp .not T x)(hx:C=true->ev U x = .bool b):C=true->(execOp (ev U) o).run P w = .ok (.value<|.bool<|!b) w:=by grind [execOp,Op.unary,aR,bG,bC]
theorem Ja{C:Bool}{o:bL}{b:Bool}(ho:o.op = .pick x y z)(hx:C=true->ev U x = .bool b)(hv:C=true->(if b=true then ev U y else ev U z)=v):
  C=true->(execOp (ev U) o).run P w = .ok (.value v) w:=by grind [execOp,asBool,aR,bG,bC]
theorem NQ{C:Bool}{o:bL}{t:bR}{s:cN}(ho:o.op = .call ⟨.builtin .len,#[x],#[t]⟩)(hx:C=true->ev U x=str s)(ht:P.underlying t=some .string):
  C=true->(execOp (ev U) o).run P w = .ok (.value<|.int .i64 (s.dA.length:Nat)) w:=λh=>by
 unfold execOp;rw[ho];have e:(⟨s.dA.toArray⟩:ByteArray).size=s.dA.length:=rfl;simp[resolve,hx h,invoke,builtin,Builtin.len_,run_underlying ht,goInt,str,e]
end
section
variable {α β:Type}[GT α][GT β]{P:bP}{E w:aW}{V:aL HP}{i:Nat}{v:aV}{x:α}
theorem Holds.xH(h:Holds E w V)(hi:V[i]? =some (rd v x)):∃M hs,Good E w M hs V/\Gk.xH M v x:=
 let⟨M,hs,g⟩:=h
 ⟨M,hs,g,(g.sat i _ hi).1⟩
theorem Holds.slice{l:aL α}(h:Holds E w V)(hi:V[i]? =some (rd v l)):∃a cap,v = .slice a l.length cap:=by
 obtain⟨M,hs,g,hr⟩:=h.xH hi;obtain⟨a,m,cap,hv,hm,_⟩:=mu.1 hr
 grind
theorem Holds.dup(i:Nat)(h:Holds E w V)(hi:V[i]? =some (rd v x)):Holds E w (rd v x::V):=
 h.BS λ_ _ g=>⟨(g.sat i _ hi).1,rfl⟩
theorem Holds.sc(γ:Type)[Sc γ](h:Holds E w V)(y:γ):Holds E w (rd (Sc.toV y) y::V):=h.BS λ_ _ _=>⟨EN.2 rfl,rfl⟩
theorem Holds.ve{γ:Type}[Sc γ]{y:γ}(h:Holds E w V)(hi:V[i]? =some (rd v y)):v=Sc.toV y:=by
 obtain⟨M,hs,g,hr⟩:=h.xH hi;exact EN.1 hr
end
section
variable {α β:Type}[GT α][GT β]
variable {P:bP}{n:Nat}{U:Nat->aV}{w:aW}{Q:gv}{E:aW}{V:aL HP}{i:Nat}
variable {ops:bB bL}{rest:aL bL}{d:Nat}{ty:bR}{pos:String}{af:bB Edge}{g:aU (Nat×Bool)}{v:aV}{q r:bK}{T T' e:bR}
variable {x:α}
theorem mw{cs:aL aV}{a:Addr}{M:dZ}(hT:kR P T (GT.agg α) (GT.sz α))(ho:GT.ok M cs x)(hat:∀j u,cs[j]? =some u->w.cell? (a.add j)=some u):
  (loadVar T a).run P w = .ok (u4 α cs) w:=by
 have hl:=GT.len ho;unfold loadVar u4;simp only[aR,hT.Ki,bC]
 cases e:GT.agg α with
 |true=>
  simp only[if_true,aR,hT.sz,bC,<-hl,run_loadCells_list w a cs hat,bG]
 |false=>
  rw[GT.ag1 e]at hl
  match cs,hl with
  | [c],_=>
   have:=hat 0 c rfl;have ha:a.add 0=a:=rfl
   simp_all
theorem VS{p:aV}(i:Nat)(x:α)(hw:Holds E w V)(hT:kR P T (GT.agg α) (GT.sz α))(k:∀v,Holds E w (rd v x::V)->RL P n ops rest (eG U d v) w Q)(hg:Wn ops U g:=by first|exact trivial|exact⟨_,rfl,rfl⟩|exact⟨_,rfl,Gk.cb ‹_›⟩)(hd:Nat.blt d n=true:=by exact rfl)(hx:ev U q=p:=by exact rfl)(hi:V[i]? =some (pt p x):=by exact rfl):RL P n ops (⟨some d, .load T q,ty,pos,af,g⟩::rest) U w Q:=by
 obtain⟨M,hs,gd⟩:=hw;obtain⟨⟨ad,cs,hv,ho,ha⟩,_⟩:=gd.sat i _ hi;refine Wf (v:=u4 α cs) hg hd ?_<|k _ ⟨M,_,gd.ga ⟨⟨cs,rfl,ho⟩,rfl⟩⟩
 simp only[execOp,hx,hv,Instr.loadAt,Instr.sureAddr,aR,bG,bC,mw hT ho<|λj u hu=>vc gd.im<|ha j u hu]
theorem Wd{γ:Type}[Sc γ](y:γ){p:aV}(i:Nat)(hw:Holds E w V)(hT:kR P T false 1)(k:RL P n ops rest (eG U d<|Sc.toV y) w Q)(hg:Wn ops U g:=by first|exact trivial|exact⟨_,rfl,rfl⟩|exact⟨_,rfl,Gk.cb ‹_›⟩)(hd:Nat.blt d n=true:=by exact rfl)(hx:ev U q=p:=by exact rfl)(hi:V[i]? =some (pt p y):=by exact rfl):RL P n ops (⟨some d, .load T q,ty,pos,af,g⟩::rest) U w Q:=by
 refine VS (hg:=hg) (hd:=hd) (hx:=hx) (hi:=hi) _ y hw hT λv h=>?_;rw[h.ve (i:=0) rfl];exact k
theorem Wo{p:aV}{j m:Nat}{f:α->β}(i:Nat)(hw:Holds E w V)(hi:V[i]? =some (pt p x))(hf:mm P T j m)(hF:Fd m f)(k:∀v,Holds E w (pt v (f x)::V)->RL P n ops rest (eG U d v) w Q)(hg:Wn ops U g:=by first|exact trivial|exact⟨_,rfl,rfl⟩|exact⟨_,rfl,Gk.cb ‹_›⟩)(hd:Nat.blt d n=true:=by exact rfl)(hx:ev U q=p:=by exact rfl):RL P n ops (⟨some d, .fieldAddr T q j,ty,pos,af,g⟩::rest) U w Q:=by
 obtain⟨M,hs,gd⟩:=hw;obtain⟨⟨ad,cs,hv,ho,ha⟩,_⟩:=gd.sat i _ hi;refine Wf (v:= .pointer<|some<|ad.add m) hg hd ?_<|k _ ⟨M,_,gd.ga ⟨⟨ad.add m,_,rfl,hF M cs x ho,ha.sub m<|GT.sz β⟩,rfl⟩⟩
 simp only[execOp,hx,hv,aR,hf.run,bC,bG]
theorem VO{l:aL α}{sv:aV}{K:IntKind}{j:Int}(i:Nat)(hw:Holds E w V)(hT:uI P T e (GT.sz α))(hj:(if 0<=j then l[j.toNat]? else none)=some x)(k:∀v,Holds E w (pt v x::V)->RL P n ops rest (eG U d v) w Q)(hg:Wn ops U g:=by first|exact trivial|exact⟨_,rfl,rfl⟩|exact⟨_,rfl,Gk.cb ‹_›⟩)(hd:Nat.blt d n=true:=by exact rfl)(hx:ev U q=sv:=by exact rfl)(hy:ev U r = .int K j:=by exact rfl)(hi:V[i]? =some (rd sv l):=by exact rfl):RL P n ops (⟨some d, .indexAddr T q r,ty,pos,af,g⟩::rest) U w Q:=by
 obtain⟨M,hs,gd⟩:=hw;obtain⟨a,m,cap,hv,hm,hc,hmx,hel⟩:=mu.1 (gd.sat i _ hi).1;have h0:0<=j:=by
  grind
 rw[aH h0]at hj;obtain⟨ad,cs,hae,ho,ha⟩:=hel _ _ hj;have hlt:j<m:=by grind
 refine Wf (v:= .pointer<|some<|ad.add<|j.toNat*GT.sz α) hg hd ?_<|k _ ⟨M,_,gd.ga ⟨⟨_,cs,rfl,ho,ha⟩,rfl⟩⟩
 simp only[execOp,hx,hv,hae,hy,Instr.indexAt,asIntOf,aR,bG,bC,run_underlying hT.z5,hT.sz,h0,hlt,and_self,if_true]
theorem Wh{b m:Nat}{f:α->β}(i:Nat)(hw:Holds E w V)(hi:V[i]? =some (bx e b x))(hF:Fd m f)(hT:kR P T (GT.agg β) (GT.sz β))(k:∀v,Holds E w (rd v (f x)::V)->RL P n ops rest (eG U d v) w Q)(hg:Wn ops U g:=by first|exact trivial|exact⟨_,rfl,rfl⟩|exact⟨_,rfl,Gk.cb ‹_›⟩)(hd:Nat.blt d n=true:=by exact rfl)(hx:ev U q = .pointer (some ⟨b,m,none⟩):=by exact rfl):RL P n ops (⟨some d, .load T q,ty,pos,af,g⟩::rest) U w Q:=by
 obtain⟨M,hs,gd⟩:=hw;obtain⟨cs,ho,hh⟩:=gd.sat i _ hi;have hb:=gd.le i b _ (dK hi) (by rw[hh];exact cT b _);have ho':=hF M cs x ho;refine Wf (v:=u4 β<|(cs.drop m).take<|GT.sz β) hg hd ?_<|k _ ⟨M,_,gd.ga ⟨⟨_,rfl,ho'⟩,rfl⟩⟩
 simp only[execOp,hx,Instr.loadAt,Instr.sureAddr,aR,bG,bC];rw[mw hT ho'<|λj u hu=>?_];rfl;rw[Addr.add_lit,cell_of_row w b _ _ _ _ hb]
 grind
theorem VL{γ:Type}[Sc γ]{b m:Nat}{f:α->γ}(i:Nat)(hw:Holds E w V)(hi:V[i]? =some (bx e b x))(hF:Fd m f)(hT:kR P T false 1)(k:RL P n ops rest (eG U d<|Sc.toV<|f x) w Q)(hg:Wn ops U g:=by first|exact trivial|exact⟨_,rfl,rfl⟩|exact⟨_,rfl,Gk.cb ‹_›⟩)(hd:Nat.blt d n=true:=by exact rfl)(hx:ev U q = .pointer (some ⟨b,m,none⟩):=by exact rfl):RL P n ops (⟨some d, .load T q,ty,pos,af,g⟩::rest) U w Q:=by
 refine Wh (hg:=hg) (hd:=hd) (hx:=hx) (f:=f) _ hw hi hF hT λv h=>?_;rw[h.ve (i:=0) rfl];exact k
theorem AT{b o j m:Nat}(hx:ev U q = .pointer (some ⟨b,o,none⟩))(hf:mm P T j m)(k:RL P n ops rest (eG U d<|.pointer<|some ⟨b,o+m,none⟩) w Q)(hg:Wn ops U g:=by first|exact trivial|exact⟨_,rfl,rfl⟩|exact⟨_,rfl,Gk.cb ‹_›⟩)(hd:Nat.blt d n=true:=by exact rfl):RL P n ops (⟨some d, .fieldAddr T q j,ty,pos,af,g⟩::rest) U w Q:=by
 refine Wf hg hd ?_ k;simp only[execOp,hx,aR,hf.run,bC,bG,Addr.add_lit]
theorem V7(i:Nat)(v:aV)(hw:Holds E w V)(hi:V[i]? =some (rd v x))(k:∀b w',Holds E w' (bx T b x::V)->RL P n ops rest (eG U d<|.pointer<|some ⟨b,0,none⟩) w' Q)(hg:Wn ops U g:=by exact trivial)(hd:Nat.blt d n=true:=by exact rfl)(hx:ev U q=v:=by exact rfl):RL P n ops (⟨some d, .box T q,ty,pos,af,g⟩::rest) U w Q:=by
 obtain⟨M,hs,gd,hr⟩:=hw.xH hi;refine Wf (w':=w.alloc<|.cells v.cells T) hg hd ?_<|k w.heap.size _<|hw.alloc _ λM' hs' g'=>⟨v.cells.toList,?_,by simp⟩
 ·simp only[execOp,hx,Instr.box,newVar,newRow,newObj,aR,bG];rfl
 ·exact((g'.sat i _ hi).1).cells
def raw(e:bR)(b k:Nat):HP:=⟨λ_ h=>∃cs:aL aV,cs.length=k/\h=Gk.one b (.cells cs.toArray e (0,0)),λ_ h=>h⟩
theorem V9{m:Nat}(hw:Holds E w V)(hz:∃z,(∀w,(zeroValue T).run P w = .ok z w)/\z.cells.size=m)(k:∀b w',Holds E w' (raw T b m::V)->RL P n ops rest (eG U d<|.pointer<|some ⟨b,0,none⟩) w' Q)(hg:Wn ops U g:=by exact trivial)(hd:Nat.blt d n=true:=by exact rfl):RL P n ops (⟨some d, .alloc T,ty,pos,af,g⟩::rest) U w Q:=by
 obtain⟨z,hz,hs⟩:=hz;refine Wf (w':=w.alloc<|.cells z.cells T) hg hd ?_<|k w.heap.size _<|hw.alloc _ λ_ _ _=>⟨z.cells.toList,by omega,by simp⟩
 simp only[execOp,Instr.alloc,newVar,newRow,newObj,aR,bG,hz,bC];rfl
theorem oA{m:Nat}{b o:Nat}{cur:bB aV}(hsz:∀w,(sizeOf T).run P w = .ok m w)(hv:v.cells.size=m)(h1:∀u∈v.cells.toList,u.oneCell'=true)
  (hb:w.heap[b]? =some (.cells cur e (0,0))) (ho:o+m<=cur.size):
  (storeVar T ⟨b,o,none⟩ v).run P w = .ok () (w.setRow b (cur.toList.take o++v.cells.toList++cur.toList.drop (o+m)).toArray):=by
 have:=run_storeCells_at P b o e v.cells.toList 0 cur w hb (by grind) h1
 grind [Array.length_toList,storeVar,aR,bC,not_true]
theorem mx{M:dZ}{hs:Nat->dZ}{P':HP}{b:Nat}{cur new:bB aV}{Pi:HP}(gd:Good E w M hs V)(hi:V[i]? =some Pi)(hh:hs i=Gk.one b (.cells cur e (0,0)))
  (hp:P'.ok M (Gk.one b<|.cells new e (0,0))):Holds E (w.setRow b new) (V.set i P'):=by
 have hb:=gd.le i b _ (dK hi) (by rw[hh];exact cT b _);refine⟨M,_,gd.update (dK hi) (Gk.one b<|.cells new e (0,0)) hp rfl rfl rfl (λb' o' hb'=>?_) (λb' o' hb'=>?_)<|λb' hb' _=>?_⟩
 ·grind [iK,setRow_heap]
 ·obtain⟨rfl,rfl⟩:=iK hb';simp_all[cT]
 ·rw[hh]at hb'
  grind [setRow_other,cT]
theorem V5{m b:Nat}(i:Nat)(hw:Holds E w V)(j:Nat)(hj:V[j]? =some (rd v x))(hT:kR P T (GT.agg α) (GT.sz α))(k:∀w',Holds E w' (V.set i<|bx e b x)->RL P n ops rest U w' Q)(hg:Wn ops U g:=by exact trivial)(hx:ev U q = .pointer (some ⟨b,0,none⟩):=by exact rfl)(hy:ev U r=v:=by exact rfl)(hi:V[i]? =some (raw e b m):=by exact rfl)(hm:m=GT.sz α:=by exact rfl):RL P n ops (⟨none, .store T q r,ty,pos,af,g⟩::rest) U w Q:=by
 obtain⟨M,hs,gd⟩:=hw;obtain⟨cs,hl,hh⟩:=gd.sat i _ hi;have hr:=(gd.sat j _ hj).1;have hb:=gd.le i b _ (dK hi) (by rw[hh];exact cT b _);have hc:v.cells.size=GT.sz α:=by rw[<-GT.len hr.cells];simp
 have hrun:=oA (P:=P) (v:=v) (o:=0) hT.sz hc (GT.one hr.cells) hb (by simp[hl,hm]);refine Xj (w':=w.setRow b v.cells) hg ?_<|k _<|mx gd hi hh ⟨v.cells.toList,hr.cells,by simp⟩
 have hd:List.drop (GT.sz α) cs= []:=List.drop_eq_nil_of_le (by omega);simp only[gL,List.take_zero,List.nil_append,hd,iR,Array.toArray_toList]at hrun
 grind [execOp,Instr.storeAt,Instr.sureAddr,aR,bG,bC]
theorem Yv{b:Nat}{x':α}(hg:Wn ops U g)(hw:Holds E w V)(hx:ev U q = .pointer (some ⟨b,0,none⟩))(hy:ev U r=v)(hi:V[i]? =some (bx e b x')){j:Nat}(hj:V[j]? =some (rd v x))
  (hT:kR P T (GT.agg α) (GT.sz α)) (k:∀w',Holds E w' (V.set i<|bx e b x)->RL P n ops rest U w' Q):RL P n ops (⟨none, .store T q r,ty,pos,af,g⟩::rest) U w Q:=by
 obtain⟨M,hs,gd⟩:=hw;obtain⟨cs,ho',hh⟩:=gd.sat i _ hi;have hl:=GT.len ho';have hr:=(gd.sat j _ hj).1;have hb:=gd.le i b _ (dK hi) (by rw[hh];exact cT b _);have hc:v.cells.size=GT.sz α:=by rw[<-GT.len hr.cells];simp
 have hrun:=oA (P:=P) (v:=v) (o:=0) hT.sz hc (GT.one hr.cells) hb (by simp[hl]);refine Xj (w':=w.setRow b v.cells) hg ?_<|k _<|mx gd hi hh ⟨v.cells.toList,hr.cells,by simp⟩
 have hd:List.drop (GT.sz α) cs= []:=List.drop_eq_nil_of_le (by omega);simp only[gL,List.take_zero,List.nil_append,hd,iR,Array.toArray_toList]at hrun
 grind [execOp,Instr.storeAt,Instr.sureAddr,aR,bG,bC]
theorem Xg{b m:Nat}{y:β}{f:α->β->α}(i:Nat)(hw:Holds E w V)(hi:V[i]? =some (bx e b x))(j:Nat)(hj:V[j]? =some (rd v y))(hF:Fs m β f)(hT:kR P T (GT.agg β) (GT.sz β))(k:∀w',Holds E w' (V.set i<|bx e b<|f x y)->RL P n ops rest U w' Q)(hg:Wn ops U g:=by exact trivial)(hx:ev U q = .pointer (some ⟨b,m,none⟩):=by exact rfl)(hy:ev U r=v:=by exact rfl)(hm:m+GT.sz β<=GT.sz α:=by decide):
  RL P n ops (⟨none, .store T q r,ty,pos,af,g⟩::rest) U w Q:=by
 obtain⟨M,hs,gd⟩:=hw;obtain⟨cs,ho',hh⟩:=gd.sat i _ hi;have hl:=GT.len ho';have hr:=(gd.sat j _ hj).1;have hb:=gd.le i b _ (dK hi) (by rw[hh];exact cT b _);have hc:v.cells.size=GT.sz β:=by rw[<-GT.len hr.cells];simp
 have hrun:=oA (P:=P) (v:=v) (o:=m) hT.sz hc (GT.one hr.cells) hb (by simp[hl,hm]);refine Xj hg ?_<|k _<|mx (new:=(cs.take m++v.cells.toList++cs.drop (m+GT.sz β)).toArray) gd hi hh ⟨_,hF M cs v.cells.toList x y ho' hr.cells,rfl⟩
 grind [execOp,Instr.storeAt,Instr.sureAddr,aR,bG,bC]
end
inductive Fl (S R:Type)where
 |nx (s:S)
 |br (s:S)
 |rt (r:R)
inductive Fo (S R:Type)where
 |go (s:S)
 |rt (r:R)
section
variable {S R:Type}
def EP(body:Nat->S->aU (Fl S R)):Nat->Nat->S->aU (Fo S R)
 | 0,_,s=>some (.go s)
 |m+1,k,s=>(body k s).bind λ
  | .nx s'=>EP body m (k+1) s'
  | .br s'=>some (.go s')
  | .rt r=>some (.rt r)
def qp(m:Nat)(body:Nat->S->aU (Fl S R))(s:S):aU (Fo S R):=if m<=4611686018427387904 then EP body m 0 s else none
def HT(body:Nat->S->aU S):Nat->Nat->S->aU S
 | 0,_,s=>some s
 |m+1,k,s=>(body k s).bind λs'=>HT body m (k+1) s'
def jy(m:Nat)(body:Nat->S->aU S)(s:S):aU S:=if m<=4611686018427387904 then HT body m 0 s else none
def kb(body:S->aU (Fl S R)):Nat->S->aU (Fo S R)
 | 0,_=>none
 |N+1,s=>(body s).bind λ
  | .nx s'=>kb body N s'
  | .br s'=>some (.go s')
  | .rt r=>some (.rt r)
theorem bd{α β:Type}{o:aU α}{f:α->aU β}{r:β}(h:o.bind f=some r):∃x,o=some x/\f x=some r:=by
 cases o with
 |none=>cases h
 |some x=>grind
end
section
variable {S R:Type}{P:bP}{n:Nat}{U:Nat->aV}{w:aW}{Q:gv}{c x y:Code}{b0:Nat}
def PE(b0:Nat)(J:S->(Nat->aV)->aW->Prop)(K:R->(Nat->aV)->aW->Prop):Fo S R->gv
 | .go s=>λex U w=>ex = .exit b0/\J s U w
 | .rt r=>λex U w=>ex = .ret/\K r U w
def LC(I:Nat->S->(Nat->aV)->aW->Prop)(b0:Nat)(J:S->(Nat->aV)->aW->Prop)(K:R->(Nat->aV)->aW->Prop)(k:Nat):Fl S R->gv
 | .nx s=>λex U w=>ex = .normal/\I (k+1) s U w
 | .br s=>λex U w=>ex = .exit b0/\J s U w
 | .rt r=>λex U w=>ex = .ret/\K r U w
def ER(I:S->(Nat->aV)->aW->Prop)(b0:Nat)(J:S->(Nat->aV)->aW->Prop)(K:R->(Nat->aV)->aW->Prop):Fl S R->gv
 | .nx s=>λex U w=>ex = .normal/\I s U w
 | .br s=>λex U w=>ex = .exit b0/\J s U w
 | .rt r=>λex U w=>ex = .ret/\K r U w
theorem LD{a:Act}{Q:Exit->Act->aW->Prop}(I:Nat->Act->aW->Prop){m:Nat}(h0:I m a w)
  (round:∀m a w,I m a w->c.wp P (Exit.then (λa' w'=>∃m',m'<m/\I m' a' w') Q) a w):(Code.loop c).wp P Q a w:=by
 intro b k cs;have key:∀m a w,I m a w->∃e a' w',Q e a' w'/\Arrives P (lone (b.at a<|.code c:: .inLoop c::k) cs w) b k cs e a' w':=by
  intro m
  induction m using Nat.strongRecOn with
  |_ m ih=>
   intro a w hI;obtain⟨e,a₁,w₁,hq,harr⟩:=round m a w hI b (.inLoop c::k) cs
   cases e with
   |normal=>
    obtain⟨m',hlt,hI₁⟩:=hq;obtain⟨e₂,a₂,w₂,hq₂,harr₂⟩:=ih m' hlt a₁ w₁ hI₁;exact⟨e₂,a₂,w₂,hq₂, .of_steps (Steps.trans harr<|.one step_inLoop) harr₂⟩
   |exit id=>exact⟨_,a₁,w₁,hq, .pass (x:= .inLoop c) rfl (λ_ _=> .inl (by simp)) harr⟩
   |goto l=>exact⟨_,a₁,w₁,hq, .pass (x:= .inLoop c) rfl (λ_ _=> .inl (by simp)) harr⟩
   |ret=>exact⟨_,a₁,w₁,hq, .pass (x:= .inLoop c) rfl (λ_ _=> .inl (by simp)) harr⟩
   |panic ch=>exact⟨_,a₁,w₁,hq, .pass (x:= .inLoop c) rfl (λ_ _=> .inl (by simp)) harr⟩
   |outgrown=>exact⟨_,a₁,w₁,hq, .pass (x:= .inLoop c) rfl (λ_ _=> .inl (by simp)) harr⟩
 obtain⟨e,a',w',hq,harr⟩:=key _ a w h0;exact⟨e,a',w',hq, .of_steps (.one step_loop) harr⟩
theorem XN(I:Nat->(Nat->aV)->aW->Prop){m:Nat}(h0:I m U w)
  (step:∀m U w,I m U w->RC P n c U w (λex σ' w'=>(ex = .normal/\∃m',m'<m/\I m' σ' w')\/(ex≠ .normal/\Q ex σ' w'))):RC P n (.loop c) U w Q:=by
 intro a ha;refine LD (λm a w=>∃U,Sl n U a/\I m U w) ⟨U,ha,h0⟩ ?_;rintro m a w⟨U,hs,hI⟩;refine wp_mono (step m U w hI a hs) λe a' w'⟨σ',hs',q⟩=>?_
 rcases q with⟨rfl,m',hm,hI'⟩|⟨hne,hq⟩
 ·exact⟨m',hm,σ',hs',hI'⟩
 ·cases e with
  |normal=>grind
  |_=>exact⟨σ',hs',hq⟩
theorem Ya(I:Nat->S->(Nat->aV)->aW->Prop)(J:S->(Nat->aV)->aW->Prop)(K:R->(Nat->aV)->aW->Prop)
  {body:Nat->S->aU (Fl S R)} {m:Nat} {s0:S} {out:Fo S R} (hN:qp m body s0=some out) (h0:I 0 s0 U w)
  (stop:m<=4611686018427387904->∀s U w,I m s U w->RC P n c U w (PE (R:=R) b0 J K<|.go s))
  (step:m<=4611686018427387904->∀k s fl U w,k<m->I k s U w->body k s=some fl->RC P n c U w (LC I b0 J K k fl))
  (hrt:∀r U w,out = .rt r->K r U w->Q .ret U w) (hgo:∀s U w,out = .go s->J s U w->Q .normal U w):RC P n (.block b0<|.loop c) U w Q:=by
 unfold qp at hN;split at hN
 ·rename_i hm;refine WM<|XN (λj U w=>(∃k s,k+j=m+1/\k<=m/\I k s U w/\EP body (m - k) k s=some out)) (m:=m+1) ⟨0,s0,by omega,by omega,h0,hN⟩ ?_
  rintro j U w⟨k,s,hk,hkm,hI,hr⟩
  by_cases e:k<m
  ·obtain⟨j',hj'⟩:∃j',m - k=j'+1:=⟨m - k - 1,by omega⟩;rw[hj']at hr;obtain⟨fl,hb,hr⟩:=bd hr;refine RC.mono (step hm k s fl U w e hI hb) λex σ' w' q=>?_
   cases fl with
   |nx s'=>
    obtain⟨rfl,hI'⟩:=q;exact .inl ⟨rfl,j - 1,by omega,k+1,s',by omega,by omega,hI',by grind⟩
   |br s'=>
    obtain⟨rfl,hJ⟩:=q
    grind [z6]
   |rt r=>
    obtain⟨rfl,hK⟩:=q;injection hr with hr
    exact .inr ⟨by simp,hrt r σ' w' hr.symm hK⟩
  ·obtain rfl:k=m:=by omega
   rw[Nat.sub_self]at hr;injection hr with hr
   refine RC.mono (stop hm s U w hI) λex σ' w' q=>?_;obtain⟨rfl,hJ⟩:=q
   grind [z6]
 ·cases hN
theorem D0{body:Nat->S->aU S}:∀(m k:Nat)(s s':S),HT body m k s=some s'->EP (R:=Empty) (λk s=>(body k s).map Fl.nx) m k s=some (.go s')
 | 0,_,s,s',h=>by injection h with h;subst h;rfl
 |m+1,k,s,s',h=>by
  obtain⟨s1,hb,hr⟩:=bd h;unfold EP;simp only[hb,Option.map_some,Option.bind_some];exact D0 m (k+1) s1 s' hr
theorem XC(I:Nat->S->(Nat->aV)->aW->Prop)(J:S->(Nat->aV)->aW->Prop)
  {body:Nat->S->aU S} {m:Nat} {s0 out:S} (hN:jy m body s0=some out) (h0:I 0 s0 U w)
  (stop:m<=4611686018427387904->∀s U w,I m s U w->RC P n c U w (λex U w=>ex = .exit b0/\J s U w))
  (step:m<=4611686018427387904->∀k s s' U w,k<m->I k s U w->body k s=some s'->RC P n c U w (λex U w=>ex = .normal/\I (k+1) s' U w))
  (hgo:∀U w,J out U w->Q .normal U w):RC P n (.block b0<|.loop c) U w Q:=by
 have hN':qp (R:=Empty) m (λk s=>(body k s).map Fl.nx) s0=some (.go out):=by
  grind [jy,qp,D0]
 refine Ya I J (λr _ _=>r.elim) hN' h0 (λhm s U w hI=>stop hm s U w hI) (λhm k s fl U w hk hI hb=>?_) (λr _ _ _ _=>r.elim)<|λs U w e hJ=>?_
 ·cases hx:body k s with
  |none=>grind
  |some s'=>
   rw[hx]at hb;injection hb with hb
   subst hb;exact step hm k s s' U w hk hI hx
 grind
theorem Xp(I:S->(Nat->aV)->aW->Prop)(J:S->(Nat->aV)->aW->Prop)(K:R->(Nat->aV)->aW->Prop)
  {body:S->aU (Fl S R)} {N:Nat} {s0:S} {out:Fo S R} (hN:kb body N s0=some out) (h0:I s0 U w)
  (step:∀s fl U w,I s U w->body s=some fl->RC P n c U w (ER I b0 J K fl))
  (hrt:∀r U w,out = .rt r->K r U w->Q .ret U w) (hgo:∀s U w,out = .go s->J s U w->Q .normal U w):RC P n (.block b0<|.loop c) U w Q:=by
 refine WM<|XN (λj U w=>∃s,I s U w/\kb body j s=some out) (m:=N) ⟨s0,h0,hN⟩ ?_
 rintro j U w⟨s,hI,hr⟩
 cases j with
 |zero=>cases hr
 |succ j=>
  obtain⟨fl,hb,hr⟩:=bd hr;refine RC.mono (step s fl U w hI hb) λex σ' w' q=>?_
  cases fl with
  |nx s'=>obtain⟨rfl,hI'⟩:=q;grind
  |br s'=>
   obtain⟨rfl,hJ⟩:=q
   grind [z6]
  |rt r=>
   obtain⟨rfl,hK⟩:=q;injection hr with hr
   exact .inr ⟨by simp,hrt r σ' w' hr.symm hK⟩
theorem fB{x:Int}(h1: -9223372036854775808<=x)(h2:x<9223372036854775808):IntKind.i64.wrap x=x:=by
 have e1:(2:Int) ^ (IntKind.i64.bits)=18446744073709551616:=by decide
 have e2:(2:Int) ^ (IntKind.i64.bits - 1)=9223372036854775808:=by decide
 have e3:IntKind.i64.signed=true:=by decide
 grind [wrap]
theorem Kj{k m:Nat}(h:k<m)(hm:m<=4611686018427387904):IntKind.i64.wrap ((k:Int)+1)=((k+1:Nat):Int):=by
 grind [fB]
end
section
variable {α β:Type}[GT α][GT β]{M:dZ}
theorem Cells.nil:Cells M [] ([]:aL α):=⟨by simp,λi x h=>by simp at h⟩
theorem Cells.append{xs ys:aL aV}{l l':aL α}(h:Cells M xs l)(h':Cells M ys l'):Cells M (xs++ys) (l++l'):=by
 refine⟨by rw[bO,bO,h.1,h'.1,Nat.add_mul],λi x hx=>?_⟩
 by_cases hi:i<l.length
 ·rw[gD hi]at hx;have hb:i*GT.sz α+GT.sz α<=xs.length:=by
   rw[h.1]
   calc i*GT.sz α+GT.sz α=(i+1)*GT.sz α:=by rw[Nat.add_mul,Nat.one_mul]
    _<=l.length*GT.sz α:=Nat.mul_le_mul_right _ hi
  rw[List.drop_append_of_le_length (by omega),List.take_append_of_le_length (by grind)];exact h.2 i x hx
 ·rw[fZ (by omega)]at hx;have:=h'.2 _ x hx;obtain⟨k,rfl⟩:∃k,i=l.length+k:=⟨i - l.length,by omega⟩;rw[Nat.add_sub_cancel_left]at this;rw[Nat.add_mul,<-h.1,List.drop_length_add_append];exact this
theorem Cells.one{cs:aL aV}{x:α}(h:GT.ok M cs x):Cells M cs [x]:=
 ⟨by grind [GT.len],λi y hy=>by
  cases i with
  |zero=>grind [pK,GT.len]
  |succ i=>simp at hy⟩
theorem Cells.Tm{xs:aL aV}{l:aL α}(h:Cells M xs l):∀u∈xs,u.oneCell'=true:=by
 intro u hu;obtain⟨j,hj,rfl⟩:=List.getElem_of_mem hu;have hp:=GT.pos (α:=α);have hq:j / GT.sz α<l.length:=by rw[Nat.div_lt_iff_lt_mul hp,<-h.1];exact hj
 refine GT.one (h.2 (j / GT.sz α) l[j / GT.sz α]<|aM hq) _ ?_;have hm:j % GT.sz α<GT.sz α:=Nat.mod_lt _ hp;have hd:j / GT.sz α*GT.sz α+j % GT.sz α=j:=by simp[Nat.mul_comm,Nat.div_add_mod]
 refine gA (i:=j % GT.sz α) ?_
 grind
theorem Gb{ad:Addr}{m cap:Nat}{l:aL α}(h:oz M (.slice (some ad) m cap) l):∃xs,Cells M xs l/\At M ad xs:=by
 obtain⟨a,n',cap',hv,hn,_,_,hel⟩:=h;injection hv with h1 h2 h3
 subst h1;have key:∀k,k<=l.length->∃xs,Cells M xs (l.take k)/\At M ad xs:=by
  intro k
  induction k with
  |zero=>exact λ_=>⟨[],by simp[Cells.nil],λj u hu=>by simp at hu⟩
  |succ k ih=>
   intro hk;obtain⟨xs,hc,ha⟩:=ih (by omega);have hx:l[k]? =some l[k]:=aM (by omega);obtain⟨ad',cs,e,ho,hat⟩:=hel k _ hx;injection e with e
   subst e;refine⟨xs++cs,?_,λj u hu=>?_⟩
   ·rw[eO (by omega)];exact hc.append<|Cells.one ho
   ·have hl:xs.length=k*GT.sz α:=by rw[hc.1,dD];congr 1;omega
    by_cases hj:j<xs.length
    ·rw[gD hj]at hu;exact ha j u hu
    ·rw[fZ (by omega)]at hu;have:=hat _ u hu
     grind [add_add,GT.sz]
 have:=key l.length<|bW _
 grind
theorem At.nil(a:Addr):At M a []:=λj u hu=>by simp at hu
theorem yN{g o cap:Nat}{cur:bB aV}{e:bR}{fr:Nat×Nat}{xs:aL aV}{l:aL α}(hM:M g=some (.cells cur e fr))(hc:Cells M xs l)(hx:(cur.toList.drop o).take (l.length*GT.sz α)=xs)
  (hl:l.length<=cap) (hm:cap<=maxLen):oz M (.slice (some ⟨g,o,none⟩) l.length cap) l:=by
 refine⟨_,_,_,rfl,rfl,hl,hm,λi x hix=>⟨_,_,rfl,hc.2 i x hix,λj u hu=>?_⟩⟩
 grind [Addr.add_lit,yM,Option.isSome_none,Nat.add_assoc]
end
section
variable {α β:Type}[GT α][GT β]{P:bP}{E w:aW}{V:aL HP}{i:Nat}{v:aV}{l:aL α}{e:bR}
theorem dQ(e:bR)(M:dZ):xZ (α:=α) e M rX (.slice none 0 0) []:= .inl ⟨rfl,rfl,rfl⟩
theorem Holds.dQ(h:Holds E w V)(α:Type)[GT α](e:bR):Holds E w (own (α:=α) e (.slice none 0 0) []::V):=h.BS λM _ _=>Gk.dQ e M
theorem Holds.freeze(i:Nat)(h:Holds E w V)(hi:V[i]? =some (own e v l):=by exact rfl):Holds E w (V.set i<|rd v l):=by
 obtain⟨M,hs,g⟩:=h;have hlt:=dK hi;have ho:=g.sat i _ hi;refine⟨_,_,g.freeze (P':=rd v l) hlt ⟨mu.2 ?_,rfl⟩⟩
 rcases ho with⟨rfl,rfl,_⟩|⟨b,o,cap,cur,xs,rfl,h2,h3,h4,h5,h6,h7⟩
 ·exact⟨none,0,0,rfl,rfl,bW _,by simp[maxLen],λi x hx=>by simp at hx⟩
 ·refine yN (M:=qo M<|hs i) (e:=e) (fr:=(0,0)) ?_ (h7.mono<|wG _ _) h6 h2 h3;have hb:hs i b=some (.cells cur e (0,0)):=by simp_all[cT]
  simp[qo,g.dm i b _ hlt hb,hb]
theorem Holds.lS(h:Holds E w V)(hi:V[i]? =some (own e v l)):∃a cap,v = .slice a l.length cap:=by
 obtain⟨M,hs,g⟩:=h
 rcases g.sat i _ hi with⟨rfl,rfl,_⟩|⟨b,o,cap,cur,xs,rfl,_⟩
 ·simp
 simp
theorem LG{M h:dZ}(ho:xZ e M h v l):v.oneCell'=true:=by
 rcases ho with⟨rfl,_⟩|⟨b,o,cap,cur,xs,rfl,_⟩ <;> rfl
end
def app{α:Type}(bytes:Nat)(l ys:aL α):aU (aL α):=if(l.length+ys.length)*bytes<=140737488355328 then some (l++ys)else none
structure uJ (P:bP) (t e:bR) (k bytes:Nat):Prop where
 z5:P.underlying t=some (.slice e)
 inf:∃i z,P.info? e=some i/\i.zero=some z/\i.size=k/\i.bytes=bytes/\z.cells.size=k
 pos:0<bytes
section
variable {α:Type}[GT α]{P:bP}{E w:aW}{V:aL HP}{i j:Nat}{v vy:aV}{l ys l':aL α}{e t ty:bR}{bytes:Nat}
theorem z7(i:TypeInfo)(ht:P.underlying t=some (.slice e))(hi:P.info? e=some i)
  (g o sLen sCap:Nat) (cur:bB aV) (hg:w.heap[g]? =some (.cells cur e (0,0)))
  (a:Addr) (m c:Nat) (news:aL aV) (hl:news.length=m*i.size) (hnews:∀j u,news[j]? =some u->w.cell? (a.add j)=some u) (h1:∀u∈news,u.oneCell'=true)
  (hroom:sLen+m<=sCap) (hfit:o+sLen*i.size+news.length<=cur.size):
  (Builtin.append_ #[t,t] ty #[.slice (some ⟨g,o,none⟩) sLen sCap, .slice (some a) m c]).run P w =
   .ok (.slice (some ⟨g,o,none⟩) (sLen+m) sCap) (w.setRow g (cur.toList.take (o+sLen*i.size)++news++cur.toList.drop (o+sLen*i.size+news.length)).toArray):=by
 have hf:=run_firstCells_some (P:=P) w i.size m a m c news hl hnews;have hst:=run_storeCells_at P g (o+sLen*i.size) e news 0 cur w hg (by omega) h1;simp only[Nat.add_zero]at hst;simp[Builtin.append_,run_underlying ht,sizeOf,typeInfo,hi,Builtin.lenOf,hroom,hf,Addr.add_lit,hst]
theorem uw(i:TypeInfo)(ht:P.underlying t=some (.slice e))(hi:P.info? e=some i)(a:aU Addr)(sLen sCap c:Nat)(hc:sLen<=sCap):
  (Builtin.append_ #[t,t] ty #[.slice a sLen sCap, .slice none 0 c]).run P w = .ok (.slice a sLen sCap) w:=by
 cases a <;> simp[Builtin.append_,run_underlying ht,sizeOf,typeInfo,hi,Builtin.lenOf,Builtin.firstCells,hc,storeCells]
theorem yO{V:aL HP}{i:Nat}{Pr:HP}(h:V[i]? =some Pr):V.set i Pr=V:=by
 apply List.ext_getElem?
 grind
theorem NR(hw:Holds E w V)(hi:V[i]? =some (own e v l))(hj:V[j]? =some (rd vy ys))(hT:uJ P t e (GT.sz α) bytes)(hb:app bytes l ys=some l'):
  ∃v' w',(Builtin.append_ #[t,t] ty #[v,vy]).run P w = .ok v' w'/\Holds E w' (V.set i<|own e v' l'):=by
 obtain⟨inf,z,hinf,hz,hsz,hby,hzs⟩:=hT.inf;unfold app at hb;split at hb
 case isFalse=>cases hb
 rename_i hroom;injection hb with hb
 subst hb;obtain⟨M,hs,g⟩:=hw;have hlt:=dK hi;have ho:=g.sat i _ hi;have hle63:l.length+ys.length<=140737488355328:=mc (Nat.le_mul_of_pos_right _ hT.pos) hroom;obtain⟨a,m,c,hvy,hm,hmc,hcm,hel⟩:=mu.1 (g.sat j _ hj).1;subst hvy;have hcase:(ys= []/\a=none)\/∃ad news,a=some ad/\Cells M news ys/\At M ad news:=by
  cases a with
  |none=>
   left;refine⟨?_,rfl⟩
   cases ys with
   |nil=>rfl
   |cons y r=>obtain⟨ad,cs,h,_⟩:=hel 0 y rfl;cases h
  |some ad=>
   right;obtain⟨xs,h1,h2⟩:=Gb (l:=ys) (ad:=ad) (m:=m) (cap:=c) ⟨_,_,_,rfl,hm,hmc,hcm,hel⟩
   grind
 rcases hcase with⟨rfl,rfl⟩|⟨ad,news,rfl,hcn,hat⟩
 ·
  simp only[List.length_nil]at hm;subst hm;rw[iR];have nR:V.set i (own e v l)=V:=yO hi;refine⟨v,w,?_,by rw[nR];exact⟨M,hs,g⟩⟩
  rcases ho with⟨rfl,rfl,_⟩|⟨b,o,cap,cur,xs,rfl,h2,h3,h4,h5,h6,h7⟩
  ·exact uw inf hT.z5 hinf none 0 0 c<|bW _
  ·exact uw inf hT.z5 hinf _ _ cap c h2
 ·have hnews:∀j u,news[j]? =some u->w.cell? (ad.add j)=some u:=λj u hu=>vc g.im<|hat j u hu
  have hnl:news.length=m*inf.size:=by rw[hcn.1,hm,hsz]
  have h1:=hcn.Tm;have grown:∀(olds:aL aV)(N:Nat),Cells M olds l->N=l.length+m->∀(old:Nat),
    Holds E (w.drew.alloc<|.cells (olds.toArray++news.toArray++Builtin.zeroCells z.cells (grownCap w N old e - N)) e)
     (V.set i<|own e (.slice (some ⟨w.heap.size,0,none⟩) N<|grownCap w N old e)<|l++ys):=by
   intro olds N hol hN old;have hge:=grownCap_ge w N old e;have hcm':grownCap w N old e<=maxLen:=grownCap_le_maxLen w N old e (by grind [maxLen]);have hNl:N=(l++ys).length:=by rw[bO,hN,hm]
   have hca:=hol.append hcn;refine⟨M,_,g.update (w':=w.drew.alloc _) hlt (Gk.one w.heap.size<|.cells (olds.toArray++news.toArray++Builtin.zeroCells z.cells (grownCap w N old e - N)) e (0,0)) (.inr ⟨w.heap.size,0,grownCap w N old e,_,olds++news,by rw[<-hNl],by omega,hcm',rfl,?_,?_,hca⟩) rfl rfl rfl (λb o' hb=>?_) (λb o' hb=>?_)<|λb _ hb=>?_⟩
   ·simp only[Array.size_append,List.size_toArray,size_zeroCells,hzs,gL];refine Nat.le_of_eq<|Eq.symm ?_
    rw[<-bO,hca.1,<-hNl,<-Nat.add_mul];congr 1;omega
   ·simp only[Array.toList_append,List.drop_zero];rw[<-hca.1];exact List.take_left
   ·obtain⟨rfl,rfl⟩:=iK hb;exact heap_alloc_new w.drew _
   ·obtain⟨rfl,rfl⟩:=iK hb;exact .inr<|bW _
   ·exact sE w.drew _ b hb
  rcases ho with⟨rfl,rfl,_⟩|⟨b,o,cap,cur,xs,rfl,h2,h3,h4,h5,h6,h7⟩
  ·by_cases hm0:m=0
   ·subst hm0;have hy:ys= []:=List.eq_nil_of_length_eq_zero hm.symm;subst hy;have nR:V.set i (own e (.slice none 0 0) ([]:aL α))=V:=yO hi;refine⟨.slice none 0 0,w,?_,by rw[iR,nR];exact⟨M,hs,g⟩⟩;have hf:=run_firstCells_some (P:=P) w inf.size 0 ad 0 c [] (by simp) (λj u hu=>by simp at hu);simp[Builtin.append_,run_underlying hT.z5,sizeOf,typeInfo,hinf,Builtin.lenOf,hf]
   ·have hr:=run_append_nil (P:=P) w t ty e inf z hT.z5 hinf hz ad m c news hnl hnews (by omega) (by omega) (by grind);have:=grown [] m Cells.nil (by simp) 0
    grind
  ·have hb:=g.le i b _ hlt (by rw[h4];exact cT b _);have hxl:xs.length=l.length*GT.sz α:=h7.1
   by_cases hfit:l.length+m<=cap
   ·have hcapm:(l.length+m)*GT.sz α<=cap*GT.sz α:=Nat.mul_le_mul_right _ hfit;rw[Nat.add_mul]at hcapm;have hr:=z7 (P:=P) (ty:=ty) inf hT.z5 hinf b o l.length cap cur hb ad m c news hnl hnews h1 hfit (by grind);refine⟨_,_,hr,?_⟩;have:=mx (P':=own e (.slice (some ⟨b,o,none⟩) (l.length+m) cap)<|l++ys) (new:=(cur.toList.take (o+l.length*inf.size)++news++cur.toList.drop (o+l.length*inf.size+news.length)).toArray) g hi h4
     (.inr ⟨b,o,cap,_,xs++news,by rw[bO,hm],by rw[bO,<-hm];exact hfit,h3,rfl,?_,?_,h7.append hcn⟩)
    ·exact this
    ·simp only[List.size_toArray,bO,dD,f9,Array.length_toList,hnl,hsz];omega
    ·rw[bO,Nat.add_mul,<-hm];have e1:(cur.toList.take<|o+l.length*inf.size).length=o+l.length*GT.sz α:=by
      have e0:cur.toList.length=cur.size:=rfl;rw[dD,e0,hsz];omega
     have e2:(cur.toList.take<|o+l.length*inf.size).drop o=xs:=by
      rw[hsz,List.drop_take,Nat.add_sub_cancel_left];exact h6
     simp only[dL];rw[List.drop_append_of_le_length (by omega),e2,<-dL];have:l.length*GT.sz α+m*GT.sz α=(xs++news).length:=by rw[bO,hxl,hnl,hsz]
     rw[this];exact List.take_left
   ·have holds:∀j u,xs[j]? =some u->w.cell? ((⟨b,o,none⟩:Addr).add j)=some u:=λj u hu=>by
     rw[Addr.add_lit,cell_of_row w b _ _ _ _ hb,<-Array.getElem?_toList];rw[<-h6,gZ]at hu;split at hu
     ·rw[j7]at hu;exact hu
     ·cases hu
    have hr:=run_append_grow (P:=P) w t ty e inf z hT.z5 hinf hz ⟨b,o,none⟩ l.length cap xs (by rw[hxl,hsz]) holds ad m c news hnl hnews (by omega) (by omega)
     (growslice_fits (by omega) (by rw[hby];rw[hm];exact hroom))
    exact⟨_,_,hr,grown xs _ h7 rfl cap⟩
end
section
variable {α:Type}[GT α]{P:bP}{n:Nat}{U:Nat->aV}{w:aW}{Q:gv}{E:aW}{V:aL HP}{i j:Nat}
variable {ops:bB bL}{rest:aL bL}{d:Nat}{ty t e:bR}{pos:String}{af:bB Edge}{g:aU (Nat×Bool)}{v vy:aV}{q r:bK}
variable {x:α}{l ys l':aL α}{bytes:Nat}
theorem WI(i j:Nat)(hw:Holds E w V)(hT:uJ P t e (GT.sz α) bytes)(hb:Gk.app bytes l ys=some l')(k:∀v' w',Holds E w' (V.set i<|own e v' l')->RL P n ops rest (eG U d v') w' Q)(hg:Wn ops U g:=by exact trivial)(hd:Nat.blt d n=true:=by exact rfl)(hx:ev U q=v:=by exact rfl)(hy:ev U r=vy:=by exact rfl)(hi:V[i]? =some (own e v l):=by exact rfl)(hj:V[j]? =some (rd vy ys):=by exact rfl):
  RL P n ops (⟨some d, .call ⟨.builtin .append,#[q,r],#[t,t]⟩,ty,pos,af,g⟩::rest) U w Q:=by
 obtain⟨v',w',hr,hw'⟩:=NR (P:=P) (ty:=ty) hw hi hj hT hb;refine Wf hg hd ?_<|k v' w' hw'
 grind [execOp,resolve,invoke,builtin,aR,bG,bC]
theorem VP(i:Nat)(l:aL α)(hw:Holds E w V)(ht:P.underlying t=some (.slice e))(k:RL P n ops rest (eG U d<|.int .i64 (l.length:Nat)) w Q)(hg:Wn ops U g:=by first|exact trivial|exact⟨_,rfl,rfl⟩|exact⟨_,rfl,Gk.cb ‹_›⟩)(hd:Nat.blt d n=true:=by exact rfl)(hx:ev U q=v:=by exact rfl)(hi:V[i]? =some (rd v l):=by exact rfl):RL P n ops (⟨some d, .call ⟨.builtin .len,#[q],#[t]⟩,ty,pos,af,g⟩::rest) U w Q:=by
 obtain⟨a,cap,rfl⟩:=hw.slice hi
 grind [Xk]
theorem WB{e':bR}(hg:Wn ops U g)(hd:Nat.blt d n=true)(hw:Holds E w V)(hx:ev U q=v)(hi:V[i]? =some (own e' v l))(ht:P.underlying t=some (.slice e))
  (k:RL P n ops rest (eG U d<|.int .i64 (l.length:Nat)) w Q):RL P n ops (⟨some d, .call ⟨.builtin .len,#[q],#[t]⟩,ty,pos,af,g⟩::rest) U w Q:=by
 obtain⟨a,cap,rfl⟩:=hw.lS hi
 grind [Xk]
end
def cI(M:dZ)(place:Nat->aU (Nat×Nat)){α:Type}[GT α](cells:bB aV)(parts:aL (Nat×aV))(y:α):Prop:=
 ∃cells',Instr.fill place cells parts=some cells'/\GT.ok M cells'.toList y
section
variable {α β:Type}[GT α][GT β]{M:dZ}{place:Nat->aU (Nat×Nat)}{cells:bB aV}{parts:aL (Nat×aV)}{x y:α}{v:aV}{z:β}
theorem cI.nil(h:GT.ok M cells.toList x):cI M place cells [] x:=⟨cells,rfl,h⟩
theorem HU(vs:aL aV):∀(cells:bB aV)(o:Nat),o+vs.length<=cells.size->
  ((vs.toArray.zipIdx).foldl (λcs(c,j)=>cs.setIfInBounds (o+j) c) cells).toList=cells.toList.take o++vs++cells.toList.drop (o+vs.length):=by
 intro cells o h;have key:∀(vs:aL aV)(k:Nat)(cells:bB aV),o+k+vs.length<=cells.size->
   ((vs.zipIdx k).foldl (λcs(p:aV×Nat)=>cs.setIfInBounds (o+p.2) p.1) cells).toList=cells.toList.take (o+k)++vs++cells.toList.drop (o+k+vs.length):=by
  intro vs
  induction vs with
  |nil=>intro k cells _;simp
  |cons u vs ih=>
   intro k cells h;simp only[fQ]at h;rw[List.zipIdx_cons,List.foldl_cons,ih (k+1) _ (by simp;omega)];simp only[Array.toList_setIfInBounds,fQ];have hk:o+k<cells.toList.length:=by simp;omega
   rw[show o+(k+1)=(o+k)+1 by omega,eO (by grind),List.take_set_of_le<|bW _,List.drop_set_of_lt (by omega)];simp only[List.getElem_set_self,dL,List.cons_append,List.nil_append];congr 4;omega
 grind
theorem cI.cons{i m:Nat}{f:α->β->α}(hx:GT.ok M cells.toList x)(hF:Fs m β f)(hz:xH M v z)(h:∀c,GT.ok M c.toList (f x z)->cI M place c parts y)(hp:place i=some (m,GT.sz β):=by exact rfl)(hm:m+GT.sz β<=GT.sz α:=by decide):cI M place cells ((i,v)::parts) y:=by
 have hc:v.cells.size=GT.sz β:=by rw[<-GT.len hz.cells];simp
 have hl:cells.size=GT.sz α:=by rw[<-GT.len hx];simp
 have hs:=HU v.cells.toList cells m (by grind);simp only[Array.toArray_toList,Array.length_toList,hc]at hs;obtain⟨c',h1,h2⟩:=h (v.cells.zipIdx.foldl (λcs(c,j)=>cs.setIfInBounds (m+j) c) cells) (by rw[hs];exact hF M _ _ x z hx hz.cells);refine⟨c',?_,h2⟩
 grind [Instr.fill]
end
structure x0 (P:bP) (T:bR) (places:aL (Nat×Nat)) (z:bB aV):Prop where
 run:∀parts w,(Instr.build T parts).run P w=match Instr.fill (places.toArray[·]?) z parts.toList with|some cs=> .ok (.agg cs) w|none=> .halt (.stuck "build: no such field, or a part of the wrong size") w
section
variable {α:Type}[GT α]{P:bP}{n:Nat}{U:Nat->aV}{w:aW}{Q:gv}{E:aW}{V:aL HP}{i j:Nat}
variable {ops:bB bL}{rest:aL bL}{d:Nat}{T ty t e:bR}{pos:String}{af:bB Edge}{g:aU (Nat×Bool)}{v vy:aV}{q r:bK}
variable {y:α}{l:aL α}{bytes:Nat}
theorem WN{parts:bB (Nat×bK)}{places:aL (Nat×Nat)}{z:bB aV}(y:α)(hg:Wn ops U g)(hd:Nat.blt d n=true)(hw:Holds E w V)(vs:aL (Nat×aV))(hvs:parts.toList.map (λp=>(p.1,ev U p.2))=vs)(hT:x0 P T places z)(ha:GT.agg α=true)(hf:∀M hs,Good E w M hs V->cI M (places.toArray[·]?) z vs y)(k:∀v,Holds E w (rd v y::V)->RL P n ops rest (eG U d v) w Q):RL P n ops (⟨some d, .build T parts,ty,pos,af,g⟩::rest) U w Q:=by
 obtain⟨M,hs,gd⟩:=hw;obtain⟨cs,h1,h2⟩:=hf M hs gd;have e1:parts.map (λ(i,x)=>(i,ev U x))=vs.toArray:=by grind
 refine Wf (v:= .agg cs) hg hd ?_<|k _ ⟨M,_,gd.ga ⟨⟨cs.toList,by simp[u4,ha],h2⟩,rfl⟩⟩
 simp only[execOp,aR];rw[e1,hT.run]
 simp_all
end
def sV:aL (Nat×aV)->(Nat->aV)->Nat->aV
 | [],O=>O
 |(d,v)::l,O=>eG (sV l O) d v
def agree(U:Nat->aV):aL (Nat×aV)->Prop
 | []=>True
 |(d,v)::l=>U d=v/\agree U l
theorem agree.sV{U:Nat->aV}{l:aL (Nat×aV)}(h:agree U l):∃O,U=Gk.sV l O:=by
 refine⟨U,?_⟩
 induction l with
 |nil=>rfl
 |cons p l ih=>
  obtain⟨d,v⟩:=p;obtain⟨h1,h2⟩:=h;have:=ih h2;funext t;show U t=eG (Gk.sV l U) d v t;unfold eG
  cases e:Nat.beq t d with
  |true=>grind [fP]
  |false=>rw[<-this];rfl
def idx{α:Type}(l:aL α)(i:Int):aU α:=if 0<=i then l[i.toNat]? else none
def Kk(s:cN)(i:Int):aU UInt8:=if 0<=i then s.dA[i.toNat]? else none
def Fo.cs{S R β:Type}(o:Fo S R)(f:S->β)(g:R->β):β:=match o with| .go s=>f s| .rt r=>g r
section
variable {P:bP}{n:Nat}{U:Nat->aV}{w:aW}{Q:gv}{x y c:Code}{S:Type}
theorem VR(J:S->(Nat->aV)->aW->Prop)(s:S)(hx:RC P n x U w (λex U w=>ex = .normal/\J s U w))(hy:∀U w,J s U w->Q .normal U w):RC P n x U w Q:=
 by grind [RC.mono]
theorem NS{i:Nat}(h:Q (.exit i) U w):nY P n y Q (.exit i) U w:=h
theorem bJ(h:Q .ret U w):nY P n y Q .ret U w:=h
theorem PF{i id:Nat}(hne:i≠id)(h:Q (.exit i) U w):z6 id Q (.exit i) U w:=by grind [z6]
theorem fU{id:Nat}(h:Q .ret U w):z6 id Q .ret U w:=h
end
section
variable {α β:Type}[GT α][GT β]{P:bP}{E w:aW}{V:aL HP}{i:Nat}{v:aV}{x:α}
theorem Holds.sF(h:Holds E w V)(α:Type)[GT α]:Holds E w (rd (.slice none 0 0) ([]:aL α)::V):=
 h.BS λ_ _ _=>⟨mu.2 ⟨none,0,0,rfl,rfl,bW _,by simp[maxLen],λi x hx=>by simp at hx⟩,rfl⟩
theorem Holds.fM{e:bR}{b:Nat}(h:Holds E w V)(hi:V[i]? =some (bx e b x)):Holds E w (V.set i<|pt (.pointer<|some ⟨b,0,none⟩) x):=by
 obtain⟨M,hs,g⟩:=h;have hlt:=dK hi;obtain⟨cs,ho,hh⟩:=g.sat i _ hi;have hb:hs i b=some (.cells cs.toArray e (0,0)):=by simp_all[cT]
 refine⟨_,_,g.freeze (P':=pt _ x) hlt ⟨⟨⟨b,0,none⟩,cs,rfl,GT.mono (wG _ _) ho,λj u hu=>?_⟩,rfl⟩⟩;rw[Addr.add_lit];simp only[yM,qo,g.dm i b _ hlt hb,hb]
 grind
theorem Fd.comp{γ:Type}[GT γ]{k k':Nat}{f:α->β}(f':β->γ)(h:Fd k f)(h':Fd k' f')(hk:k'+GT.sz γ<=GT.sz β:=by decide):Fd (k+k') (λx=>f'<|f x):=by
 intro M cs x ho;have h1:=h' M _ _<|h M cs x ho
 grind [List.drop_take,List.drop_drop,Nat.min_eq_left]
end
section
variable {α β:Type}[GT α][GT β]{P:bP}{n:Nat}{U:Nat->aV}{w:aW}{Q:gv}{E:aW}{V:aL HP}{i j:Nat}
variable {ops:bB bL}{rest:aL bL}{d:Nat}{ty t e T:bR}{pos:String}{af:bB Edge}{g:aU (Nat×Bool)}{v vy:aV}{q r:bK}
variable {x:α}
theorem LH{fn:Func}{R:aV->aW->Prop}{t' b:Nat}(i:Nat)(hr:fn.results = #[.cell t' T])(hw:Holds E w V)(hp:U t' = .pointer (some ⟨b,0,none⟩))(hi:V[i]? =some (bx e b x))(hT:kR P T (GT.agg α) (GT.sz α))(h:∀v,Holds E w (rd v x::V)->R v w):ml P n fn R .ret U w:=by
 obtain⟨M,hs,gd⟩:=hw;obtain⟨cs,ho,hh⟩:=gd.sat i _ hi;have hb:=gd.le i b _ (dK hi) (by rw[hh];exact cT b _);refine⟨u4 α cs,λa ha=>?_,h _ ⟨M,_,gd.ga ⟨⟨cs,rfl,ho⟩,rfl⟩⟩⟩;have hl:(loadVar T ⟨b,0,none⟩).run P w = .ok (u4 α cs) w:=mw hT ho λj u hu=>by
  rw[Addr.add_lit,cell_of_row w b _ _ _ _ hb];grind
 simp[results,hr,ha.get,hp,asAddr,hl]
theorem D1{fn:Func}{R:aV->aW->Prop}{t' u b:Nat}{v':aV}(i:Nat)(hw:Holds E w V)(hT:kR P T (GT.agg α) (GT.sz α))(h:∀v,Holds E w (rd v x::V)->R (.tuple #[v,v']) w)(hr:fn.results = #[.cell t' T, .tmp u]:=by exact rfl)(hp:U t' = .pointer (some ⟨b,0,none⟩):=by exact rfl)(hi:V[i]? =some (bx e b x):=by exact rfl)(hv':U u=v':=by exact rfl):ml P n fn R .ret U w:=by
 obtain⟨M,hs,gd⟩:=hw;obtain⟨cs,ho,hh⟩:=gd.sat i _ hi;have hb:=gd.le i b _ (dK hi) (by rw[hh];exact cT b _);refine⟨_,λa ha=>?_,h _ ⟨M,_,gd.ga ⟨⟨cs,rfl,ho⟩,rfl⟩⟩⟩;have hl:(loadVar T ⟨b,0,none⟩).run P w = .ok (u4 α cs) w:=mw hT ho λj u hu=>by
  rw[Addr.add_lit,cell_of_row w b _ _ _ _ hb];grind
 simp[results,hr,ha.get,hp,hv',asAddr,hl]
theorem Gc{b m:Nat}{o:bL}{f:α->β}(ho:o.op = .load T q)(hw:Holds E w V)(hx:ev U q = .pointer (some ⟨b,m,none⟩))(hi:V[i]? =some (bx e b x))(hF:Fd m f)(hT:kR P T (GT.agg β) (GT.sz β)):
  ∃v,(execOp (ev U) o).run P w = .ok (.value v) w/\Holds E w (rd v (f x)::V):=by
 obtain⟨M,hs,gd⟩:=hw;obtain⟨cs,ho2,hh⟩:=gd.sat i _ hi;have hb:=gd.le i b _ (dK hi) (by rw[hh];exact cT b _);have ho':=hF M cs x ho2;refine⟨u4 β<|(cs.drop m).take<|GT.sz β,?_,⟨M,_,gd.ga ⟨⟨_,rfl,ho'⟩,rfl⟩⟩⟩;have hl:(loadVar T ⟨b,m,none⟩).run P w = .ok (u4 β<|(cs.drop m).take<|GT.sz β) w:=mw hT ho' λj u hu=>by
  rw[Addr.add_lit,cell_of_row w b _ _ _ _ hb]
  grind
 grind [execOp,Instr.loadAt,Instr.sureAddr,aR,bG,bC]
theorem cA{γ:Type}[Sc γ]{b m:Nat}{o:bL}{f:α->γ}{C:Bool}(i:Nat)(ho:o.op = .load T q)(hw:Holds E w V)(hx:C=true->ev U q = .pointer (some ⟨b,m,none⟩))(hi:V[i]? =some (bx e b x))(hF:Fd m f)(hT:kR P T false 1):
  C=true->(execOp (ev U) o).run P w = .ok (.value<|Sc.toV<|f x) w:=λh=>by
 obtain⟨v,h1,h2⟩:=Gc (f:=f) ho hw (hx h) hi hF hT;rw[h1,h2.ve (i:=0) rfl]
theorem eF{b o' j m:Nat}{o:bL}{C:Bool}(hf:mm P T j m)(ho:o.op = .fieldAddr T q j:=by exact rfl)(hx:C=true->ev U q = .pointer (some ⟨b,o',none⟩):=by exact(λ_=>rfl)):
  C=true->(execOp (ev U) o).run P w = .ok (.value<|.pointer<|some ⟨b,o'+m,none⟩) w:=λh=>by
 unfold execOp;rw[ho];simp only[hx h,aR,hf.run,bC,bG,Addr.add_lit]
theorem WX{K K':IntKind}(a:Int){s s':bR}(hs:∃D,P.underlying s=some D)(ht:P.underlying s'=some (.int K'))(k:RL P n ops rest (eG U d<|.int K'<|K'.wrap a) w Q)(hg:Wn ops U g:=by exact trivial)(hd:Nat.blt d n=true:=by exact rfl)(hx:ev U q = .int K a:=by exact rfl):RL P n ops (⟨some d, .convert s s' q,ty,pos,af,g⟩::rest) U w Q:=by
 obtain⟨D,hD⟩:=hs;refine Wf hg hd ?_ k;have:(convert s s'<|.int K a).run P w = .ok (.int K'<|K'.wrap a) w:=by
  unfold convert;simp only[aR,run_underlying hD,run_underlying ht,bC];rfl
 grind [execOp,aR,bC,bG]
theorem BX{vs:aL aV}{m:Nat}(hu:P.underlying t=some (.slice e))(hz:∃z,(∀w,(zeroValue e).run P w = .ok z w)/\z.cells.size=m)(hs:∀w,(sizeOf e).run P w = .ok m w)(hm:0<m)
  (hlen:vs.length*m<=16777216) (hvs:∀v∈vs,v.cells.size=m) (w:aW):
  (Instr.buildSlice t vs.length (vs.zipIdx.map λp=>(p.2,p.1)).toArray).run P w =
   .ok (.slice (some ⟨w.heap.size,0,none⟩) vs.length vs.length) (w.alloc<|.cells (vs.flatMap λv=>v.cells.toList).toArray e):=by
 obtain⟨z,hz,hzs⟩:=hz;have key:∀(us:aL aV)(k:Nat)(cells:bB aV),cells.size=(k+us.length)*m->(∀v∈us,v.cells.size=m)->
   ∃c',Instr.fill (λi=>some (i*m,m)) cells ((us.zipIdx k).map λp=>(p.2,p.1))=some c'/\c'.toList=cells.toList.take (k*m)++us.flatMap λv=>v.cells.toList:=by
  intro us
  induction us with
  |nil=>intro k cells hc _;exact⟨cells,rfl,by grind [pK]⟩
  |cons u us ih=>
   intro k cells hc hu';have hcu:=hu' u (by simp);simp only[fQ]at hc;have hkm:k*m+m<=cells.size:=by
    rw[hc,show(k+(us.length+1))=(k+1)+us.length by omega,Nat.add_mul,Nat.add_mul,Nat.one_mul];omega
   have hsp:=HU u.cells.toList cells (k*m) (by simp[hcu,hkm]);simp only[Array.toArray_toList,Array.length_toList,hcu]at hsp;have hsz:(u.cells.zipIdx.foldl (λcs(c,j)=>cs.setIfInBounds (k*m+j) c) cells).size=(k+1+us.length)*m:=by
    have:=congrArg List.length hsp;simp only[Array.length_toList,bO,dD,f9,hcu]at this;rw[this,Nat.min_eq_left (by omega)];have:(k+1+us.length)*m=cells.size:=by rw[hc];congr 1;omega
    omega
   obtain⟨c',h1,h2⟩:=ih (k+1) _ hsz<|λv hv=>hu' v (by simp[hv])
   refine⟨c',?_,?_⟩
   ·rw[List.zipIdx_cons,eZ];simp only[Instr.fill];rw[aF (by grind)];exact h1
   ·rw[h2,hsp,List.flatMap_cons];have e1:(cells.toList.take (k*m)++u.cells.toList).length=(k+1)*m:=by
     rw[bO,dD,Array.length_toList,Array.length_toList,hcu,Nat.min_eq_left (by omega),Nat.add_mul,Nat.one_mul]
    rw[<-e1,List.take_left,dL]
 have h0:(Array.map (λi=>z.cells[i % z.cells.size]!)<|Array.range<|vs.length*m).size=(0+vs.length)*m:=by simp
 obtain⟨c',h1,h2⟩:=key vs 0 _ h0 hvs;simp only[Nat.zero_mul,List.take_zero,List.nil_append]at h2;have hc':c'=(vs.flatMap λv=>v.cells.toList).toArray:=by rw[<-h2]
 subst hc';unfold Instr.buildSlice;simp only[aR,run_underlying hu,bC,hs];rw[aF (by omega)]
 by_cases hv:vs.length*m=0
 ·have:vs= []:=by
   grind [Nat.mul_eq_zero,List.eq_nil_of_length_eq_zero]
  subst this;have e0:Array.range 0 = #[]:=rfl;simp[Instr.fill,newRow,newObj,Sem.run,e0]
 simp_all[aF,aR,bC,bG,newRow,newObj,Sem.run]
def Gd{α:Type}[GT α](M:dZ):aL aV->aL α->Prop
 | [],[]=>True
 |v::vs,x::l=>xH M v x/\Gd M vs l
 |_,_=>False
theorem Gd.spec{M:dZ}:∀{vs:aL aV}{l:aL α},Gd M vs l->vs.length=l.length/\(∀v∈vs,v.cells.size=GT.sz α)/\Cells M (vs.flatMap λv=>v.cells.toList) l
 | [],[],_=>⟨rfl,λ_ h=>by simp at h,Cells.nil⟩
 |v::vs,x::l,h=>by
  obtain⟨h1,h2⟩:=h;obtain⟨a,b,c⟩:=Gd.spec h2;refine⟨by simp[a],λu hu=>?_,?_⟩
  ·rcases eV.1 hu with rfl|hu
   ·rw[<-GT.len h1.cells];simp
   ·exact b u hu
  ·rw[List.flatMap_cons];exact(Cells.one h1.cells).append c
 | [],_::_,h=>h.elim
 |_::_,[],h=>h.elim
structure z8 (P:bP) (e:bR) (m:Nat):Prop where
 z:∃z,(∀w,(zeroValue e).run P w = .ok z w)/\z.cells.size=m
 sz:∀w,(sizeOf e).run P w = .ok m w
theorem Wv{m:Nat}{parts:bB (Nat×bK)}(l:aL α)(hw:Holds E w V)(vs:aL aV)(hT:uI P t e (GT.sz α))(hz:z8 P e (GT.sz α))(hel:∀M hs,Good E w M hs V->Gd M vs l)(k:∀v w',Holds E w' (own e v l::V)->RL P n ops rest (eG U d v) w' Q)(hg:Wn ops U g:=by exact trivial)(hd:Nat.blt d n=true:=by exact rfl)(hparts:parts.toList.map (λp=>(p.1,ev U p.2))=vs.zipIdx.map λp=>(p.2,p.1):=by exact rfl)(hl:m=vs.length:=by exact rfl)(hm:Nat.ble (m*GT.sz α) 16777216=true:=by exact rfl):RL P n ops (⟨some d, .buildSlice t m parts,ty,pos,af,g⟩::rest) U w Q:=by
 subst hl;have hm':=Nat.ble_eq▸hm;obtain⟨M0,hs0,gd0⟩:=hw;obtain⟨hlen,hsz,hcells⟩:=(hel M0 hs0 gd0).spec;have hle:vs.length<=vs.length*GT.sz α:=Nat.le_mul_of_pos_right _ GT.pos;have hrun:=BX (P:=P) hT.z5 hz.z hT.sz GT.pos hm' hsz w;refine Wf (v:= .slice (some ⟨w.heap.size,0,none⟩) vs.length vs.length) (w':=w.alloc<|.cells (vs.flatMap λv=>v.cells.toList).toArray e) hg hd ?_<|k _ _<|Holds.alloc ⟨M0,hs0,gd0⟩ _ λM hs gd=>?_
 ·have e1:parts.map (λ(i,x)=>(i,ev U x))=(vs.zipIdx.map λp=>(p.2,p.1)).toArray:=by grind
  simp_all[execOp,aR]
 ·obtain⟨_,_,hc⟩:=(hel M hs gd).spec;refine .inr ⟨w.heap.size,0,vs.length,_,_,by rw[hlen],by omega,by grind [maxLen],rfl,?_,?_,hc⟩
  ·simp only[gL,List.size_toArray,hc.1,hlen];exact bW _
  ·simp only[List.drop_zero];rw[<-hc.1];exact g8
end
section
variable {α β ρ:Type}[GT α][GT β]{P:bP}{E:aW}{V Γ':aL HP}{fv:aV}
def Jb(P:bP)(E:aW)(V:aL HP)(fv:aV)(φ:α->aU ρ)(toV:ρ->aV):Prop:=
 ∃f cap,fv = .func (.func f) #[] (List.toArray cap)/\fT P f/\∀(w:aW)(Γl:aL HP)(v:aV)(x:α)(r:ρ)(i:Nat),
  Holds E w (Γl++V)->(Γl++V)[i]? =some (rd v x)->φ x=some r->Calls P f ([v]++cap).toArray w (fG λu w'=>u=toV r/\Holds E w' (Γl++V))
def ES(P:bP)(E:aW)(V:aL HP)(fv:aV)(φ:α->β->aU ρ)(toV:ρ->aV):Prop:=
 ∃f cap,fv = .func (.func f) #[] (List.toArray cap)/\fT P f/\∀(w:aW)(Γl:aL HP)(v v':aV)(x:α)(y:β)(r:ρ)(i j:Nat),
  Holds E w (Γl++V)->(Γl++V)[i]? =some (rd v x)->(Γl++V)[j]? =some (rd v' y)->φ x y=some r->Calls P f ([v,v']++cap).toArray w (fG λu w'=>u=toV r/\Holds E w' (Γl++V))
theorem Jb.lift{φ:α->aU ρ}{toV:ρ->aV}(h:Jb P E V fv φ toV)(m:Nat)(hd:Γ'.drop m=V):Jb P E Γ' fv φ toV:=by
 obtain⟨f,cap,e,hf,hc⟩:=h;subst hd;refine⟨f,cap,e,hf,λw Γl v x r i hw hi hr=>?_⟩;have e2:Γl++Γ'=(Γl++Γ'.take m)++Γ'.drop m:=by rw[dL,List.take_append_drop]
 grind
theorem ES.lift{φ:α->β->aU ρ}{toV:ρ->aV}(h:ES P E V fv φ toV)(m:Nat)(hd:Γ'.drop m=V):ES P E Γ' fv φ toV:=by
 obtain⟨f,cap,e,hf,hc⟩:=h;subst hd;refine⟨f,cap,e,hf,λw Γl v v' x y r i j hw hi hj hr=>?_⟩;have e2:Γl++Γ'=(Γl++Γ'.take m)++Γ'.drop m:=by rw[dL,List.take_append_drop]
 grind
theorem x4{Γl V:aL HP}{j:Nat}{Pr:HP}(h:V[j]? =some Pr:=by exact rfl):(Γl++V)[Γl.length+j]? =some Pr:=by
 grind
variable {n:Nat}{U:Nat->aV}{w:aW}{Q:gv}{i j:Nat}
variable {ops:bB bL}{rest:aL bL}{d:Nat}{ty:bR}{pos:String}{af:bB Edge}{g:aU (Nat×Bool)}{v v':aV}{q r r':bK}{ts:bB bR}
theorem Xl{φ:α->aU ρ}{toV:ρ->aV}{x:α}{y:ρ}(i:Nat)(hw:Holds E w V)(hf:Jb P E Γ' fv φ toV)(m:Nat)(hr:φ x=some y)(k:∀w',Holds E w' V->RL P n ops rest (eG U d<|toV y) w' Q)(hg:Wn ops U g:=by exact trivial)(hd:Nat.blt d n=true:=by exact rfl)(hq:ev U q=fv:=by exact rfl)(hdr:V.drop m=Γ':=by exact rfl)(hx:ev U r=v:=by exact rfl)(hi:V[i]? =some (rd v x):=by exact rfl):
  RL P n ops (⟨some d, .call ⟨.value q,#[r],ts⟩,ty,pos,af,g⟩::rest) U w Q:=by
 obtain⟨f,cap,e,hF,hc⟩:=hf.lift m hdr;refine W4 (hg:=hg) (hd:=hd) (hq:=(by rw[hq,e])) (hvs:=(by simp[hx])) _ hF [v]<|eA (hc w [] v x y i (by grind) (by grind) hr) ?_
 grind
theorem W5{φ:α->β->aU ρ}{toV:ρ->aV}{x:α}{x':β}{y:ρ}(i j:Nat)(hw:Holds E w V)(hf:ES P E Γ' fv φ toV)(m:Nat)(hr:φ x x'=some y)(k:∀w',Holds E w' V->RL P n ops rest (eG U d<|toV y) w' Q)(hg:Wn ops U g:=by exact trivial)(hd:Nat.blt d n=true:=by exact rfl)(hq:ev U q=fv:=by exact rfl)(hdr:V.drop m=Γ':=by exact rfl)(hx:ev U r=v:=by exact rfl)(hx':ev U r'=v':=by exact rfl)(hi:V[i]? =some (rd v x):=by exact rfl)(hj:V[j]? =some (rd v' x'):=by exact rfl):
  RL P n ops (⟨some d, .call ⟨.value q,#[r,r'],ts⟩,ty,pos,af,g⟩::rest) U w Q:=by
 obtain⟨f,cap,e,hF,hc⟩:=hf.lift m hdr;refine W4 (hg:=hg) (hd:=hd) (hq:=(by rw[hq,e])) (hvs:=(by simp[hx,hx'])) _ hF [v,v']<|eA (hc w [] v v' x x' y i j (by grind) (by grind) (by grind) hr) ?_
 grind
end
section
variable {P:bP}{n:Nat}{U:Nat->aV}{w:aW}{Q:gv}{E:aW}{V:aL HP}{x y:Code}
variable {ops:bB bL}{rest:aL bL}{d:Nat}{ty T T':bR}{pos:String}{af:bB Edge}{g:aU (Nat×Bool)}{v:aV}{q r:bK}
theorem Xm(hc:ev U q = .bool true)(h:RC P n x U w Q):RC P n (.cond q x y) U w Q:=by grind [XB]
theorem Xn(hc:ev U q = .bool false)(h:RC P n y U w Q):RC P n (.cond q x y) U w Q:=by grind [XB]
theorem QM{k m:Nat}(h:k<m):Value.bool (decide<|(k:Int)<(m:Int)) = .bool true:=by grind
theorem QN{m:Nat}:Value.bool (decide<|(m:Int)<(m:Int)) = .bool false:=by simp
theorem Wa{k m:Nat}(hk:k<m)(hm:m<=4611686018427387904)(h:RL P n ops rest (eG U d<|.int .i64 ((k+1:Nat):Int)) w Q)(hg:Wn ops U g:=by exact trivial)(hd:Nat.blt d n=true:=by exact rfl)(hx:ev U q = .int .i64 (k:Int):=by exact rfl)(hy:ev U r = .int .i64 1:=by exact rfl):RL P n ops (⟨some d, .binOp .add T q r T',ty,pos,af,g⟩::rest) U w Q:=by
 refine OF (hg:=hg) (hd:=hd) (hx:=hx) (hy:=hy) (bop:= .add) _ _ ?_
 grind [Kj]
theorem uJ.of{P:bP}{t e:bR}{k b:Nat}(z:aV)(h1:P.underlying t=some (.slice e):=by kernel_rfl)(h2:(P.info? e).map (λi=>(i.zero,i.size,i.bytes))=some (some z,k,b):=by kernel_rfl)(h3:z.cells.size=k:=by exact rfl)(h4:0<b:=by decide):uJ P t e k b:=by
 refine⟨h1,?_,h4⟩
 cases hi:P.info? e with
 |none=>grind
 |some i=>
  grind
theorem x0.of{P:bP}{T:bR}{fs:bB Field}{places:aL (Nat×Nat)}(z:aV)(h1:P.underlying T=some (.struct fs))(h2:∀w,(zeroValue T).run P w = .ok z w:=by intro _;kernel_rfl)(h3:∀w,(fs.mapM (m:=Sem) λf:Field=>do pure (f.offset,<-sizeOf f.type)).run P w = .ok places.toArray w:=by intro _;kernel_rfl):x0 P T places z.cells:=by
 refine⟨λparts w=>?_⟩;unfold Instr.build;simp only[aR,h2,bC,run_underlying h1];rw[h3];simp only[bC]
 cases Instr.fill (λx=>places.toArray[x]?) z.cells parts.toList <;> rfl
end
section
variable {α:Type}[GT α]{E w:aW}{V L:aL HP}{i:Nat}{v:aV}{x:α}{Pr R:HP}
theorem Holds.rm(h:Holds E w V)(hi:V[i]? =some (pt v x)):Holds E w (pt v x::V):=h.BS λ_ _ g=>⟨(g.sat i _ hi).1,rfl⟩
theorem Holds.bD(h:Holds E w V):Holds E w (Gk.bD::V):=h.BS λ_ _ _=>trivial
end
section
variable {P:bP}{n:Nat}{U:Nat->aV}{w:aW}{Q:gv}
theorem BZ{o:bL}{a:Act}{K K':Act->aW->Prop}{Q Q':Exit->Act->aW->Prop}(hK:∀a w,K a w->K' a w)(hp:∀c a w,Q (.panic c) a w->Q' (.panic c) a w)(hl:LetsOut Q->LetsOut Q')
  (h:o.wp P a w K Q):o.wp P a w K' Q':=by
 unfold Oper.wp at *;generalize (execOp a.eval o).run P w=r at *
 cases r with
 |ok nx w'=>
  cases nx <;> simp only[Oper.upon]at h ⊢ <;>
   first
    |exact hK _ _ h
    |exact Calls.mono h (λe w'' he=>by grind)
    |exact Rows.mono h (λ_ _ he=>hK _ _ he)
 |halt x w'=>cases x <;> simp only[Oper.upon]at h ⊢ <;> exact hp _ _ _ h
def ins(D:Nat->Bool)(i:Nat):Nat->Bool:=λj=>bif Nat.beq j i then true else D j
def nZ(D:Nat->Bool):aL Edge->Prop
 | []=>True
 |e::l=>(Region.binds .any e=true->D e.on=true)/\nZ D l
def pL(F:Nat->bL->Prop):Nat->aL bL->Prop
 |_,[]=>True
 |k,o::l=>F k o/\pL F (k+1) l
def vf:Nat->aL bL->Bool
 |_,[]=>true
 |k,o::l=>(o.after.toList.all λe=> !Region.binds .any e||Nat.blt e.on k)&&vf (k+1) l
theorem pL.at{F:Nat->bL->Prop}:∀{k:Nat}{l:aL bL},pL F k l->∀i o,l[i]? =some o->F (k+i) o
 |_,[],_,i,o,h=>by simp at h
 |k,p::l,hs,0,o,h=>by simp at h;subst h;exact hs.1
 |k,p::l,hs,i+1,o,h=>by have:=pL.at hs.2 i o (by simpa using h);rw[show k+(i+1)=k+1+i by omega];exact this
theorem vf.at:∀{k:Nat}{l:aL bL},vf k l=true->∀(i:Nat)(o:bL),l[i]? =some o->∀e∈o.after,Region.binds .any e=true->e.on<k+i
 |_,[],_,i,o,h=>by simp at h
 |k,p::l,hs,0,o,h=>by
  simp at h;subst h;intro e he hb;have h1:=(dB _ _▸hs:_/\_).1;have:=mQ.1 h1 e (by grind);rw[hb]at this;simpa using Nat.blt_eq▸this
 |k,p::l,hs,i+1,o,h=>by
  intro e he hb;have:=vf.at (dB _ _▸hs:_/\_).2 i o (by simpa using h) e he hb;omega
theorem Ge{D:Nat->Bool}:∀(l:aL Edge),(∀e∈l,Region.binds .any e=true->D e.on=true)->nZ D l
 | [],_=>trivial
 |e::l,h=>⟨h e (by simp),Ge l λe' he=>h e' (by simp[he])⟩
theorem Yw{id:Nat}{l:aL bL}(hm:P.follows .mixedOrders=true)(hdep:vf 0 l=true)(J:(Nat->Bool)->(Nat->aV)->aW->Prop)
  (h0:J (λ_=>false) U w.drew)
  (step:pL (λi o=>∀D U w,D i=false->nZ D o.after.toList->J D U w->RL P n l.toArray [o] U w (λex U w=>ex = .normal/\J (ins D i) U w)) 0 l)
  (hend:∀D U w,(∀i,i<l.length->D i=true)->J D U w->Q .normal U w):RC P n (.region id l.toArray true) U w Q:=by
 intro a ha;refine wp_region_any hm ?_;have key:∀(fuel:Nat)(listed:bB Bool)(a:Act)(w:aW)(U:Nat->aV),listed.size=l.length->Sl n U a->J (λi=>listed.getD i false) U w->
   (listed.toList.countP (· =false))=fuel->wpAny P .any l.toArray (Lf n Q) fuel listed a w:=by
  have ends:∀(listed:bB Bool)(a:Act)(w:aW)(U:Nat->aV),listed.size=l.length->Sl n U a->J (λi=>listed.getD i false) U w->Region.ready .any l.toArray listed= []->Lf n Q .normal a w:=by
   intro listed a w U hsz hs hJ hr;refine⟨U,hs,hend _ U w (λi hi=>?_) hJ⟩
   induction i using Nat.strongRecOn with
   |ind i ih=>
    cases e:listed.getD i false with
    |true=>rfl
    |false=>
     have hmem:i∈Region.ready .any l.toArray listed:=by
      unfold Region.ready;rw[jC];refine⟨by grind,?_⟩;have hi':i<listed.size:=by omega
      have e1:listed.getD i true=false:=by
       simp only[Array.getD_eq_getD_getElem?,iI hi',Option.getD_some]at e ⊢;exact e
      rw[e1];simp only[ln,Bool.true_and,List.getElem?_toArray,aM hi,Option.map_some,Option.getD_some];rw[Array.all_eq_true_iff_forall_mem];intro ed hed
      cases hb:Region.binds .any ed with
      |false=>rfl
      |true=>
       have hlt:=vf.at hdep i l[i] (aM hi) ed hed hb;have:=ih ed.on (by omega) (by omega);rw[this];rfl
     rw[hr]at hmem
     cases hmem
  intro fuel
  induction fuel with
  |zero=>
   intro listed a w U hsz hs hJ hc;have hall:∀i,i<l.length->listed.getD i false=true:=by
    intro i hi;have hi':i<listed.size:=by omega
    have:=List.countP_eq_zero.1 hc listed[i] (by simp);simp only[Array.getD_eq_getD_getElem?,iI hi',Option.getD_some];simpa using this
   refine⟨?_,U,hs,hend _ U w hall hJ⟩;unfold Region.ready;rw[List.filter_eq_nil_iff];intro i hi;have hi2:i<l.length:=by simpa using hi
   have:=hall i hi2;have hi':i<listed.size:=by omega
   have e1:listed.getD i true=true:=by
    simp only[Array.getD_eq_getD_getElem?,iI hi',Option.getD_some]at this ⊢;exact this
   rw[e1];simp
  |succ fuel ih=>
   intro listed a w U hsz hs hJ hc;refine⟨λhr=>ends listed a w U hsz hs hJ hr,λi hi=>?_⟩;unfold Region.ready at hi;rw[jC]at hi;obtain⟨hi1,hi2⟩:=hi;have hil:i<l.length:=by simpa using hi1
   have hi':i<listed.size:=by omega
   simp only[dB,Bool.not_eq_true']at hi2;obtain⟨hnot,hd⟩:=hi2;simp only[List.getElem?_toArray,aM hil,Option.map_some,Option.getD_some]at hd;rw[Array.all_eq_true_iff_forall_mem]at hd;have hD:(λi=>listed.getD i false) i=false:=by
    simp only[Array.getD_eq_getD_getElem?,iI hi',Option.getD_some]at hnot ⊢;exact hnot
   have hst:=step.at i l[i]<|aM hil
   rw[gL]at hst
   have hrun:=hst _ U w hD (Ge _ λe he hb=>by
    grind) hJ a hs
   have hins:ins (λi=>listed.getD i false) i=λj=>(listed.setIfInBounds i true).getD j false:=by
    funext j;unfold ins
    cases e:Nat.beq j i with
    |true=>
     have:=fP e;subst this;simp[Array.getD_eq_getD_getElem?,hi']
    |false=>
     have hne:i≠j:=λh=>by subst h;simp at e
     simp[Array.getD_eq_getD_getElem?,Array.getElem?_setIfInBounds_ne hne]
   have hcount:(listed.setIfInBounds i true).toList.countP (· =false)=fuel:=by
    have h1:listed.toList=listed.toList.take i++listed[i]::listed.toList.drop (i+1):=by
     have:=List.take_append_drop i listed.toList;rw[oy (by omega)]at this;simpa using this.symm
    have hx:listed[i]=false:=by
     simp only[Array.getD_eq_getD_getElem?,iI hi',Option.getD_some]at hnot;exact hnot
    rw[h1,List.countP_append,List.countP_cons,hx]at hc;have h2:(listed.setIfInBounds i true).toList=listed.toList.take i++true::listed.toList.drop (i+1):=by
     rw[Array.toList_setIfInBounds,List.set_eq_take_append_cons_drop,aH (by omega)]
    rw[h2,List.countP_append,List.countP_cons];simp at hc ⊢;omega
   have hK:∀a' w',wpList P l.toArray (Lf n λex U w=>ex = .normal/\J (ins (λi=>listed.getD i false) i) U w) [] a' w'->wpAny P .any l.toArray (Lf n Q) fuel (listed.setIfInBounds i true) a' w':=by
    rintro a' w'⟨σ',hs',_,hJ'⟩;rw[hins]at hJ';exact ih _ a' w' σ' (by simp[hsz]) hs' hJ' hcount
   unfold wpOp;simp only[List.getElem?_toArray,aM hil];unfold wpList at hrun;split at hrun
   ·rename_i hw;rw[aH hw]
    rcases hrun with hrun|⟨_,a0,w0,σ0,_,hbad,_⟩
    ·exact .inl<|BZ hK (λc a w h=>by obtain⟨_,_,hbad,_⟩:=h;cases hbad) (λh=>by obtain⟨_,_,_,_,hbad,_⟩:=h;cases hbad) hrun
    ·cases hbad
   ·rename_i hw;rw[aF hw];exact hK _ _ hrun
 refine key _ _ a w.drew U (by simp) ha ?_ (by simp[List.countP_replicate]);have:(λi=>(Array.replicate l.toArray.size false).getD i false)=λ_=>false:=by
  funext i;simp only[Array.getD_eq_getD_getElem?,Array.getElem?_replicate];split <;> rfl
 grind
def dY(D:Nat->Bool)(U:Nat->aV):aL (Nat×Nat×aV)->Prop
 | []=>True
 |(i,d,v)::l=>(D i=true->U d=v)/\dY D U l
theorem nZ.mono{D D':Nat->Bool}(h:∀i,D i=true->D' i=true):∀{l:aL Edge},nZ D l->nZ D' l
 | [],_=>trivial
 |_::_,hl=>⟨λhb=>h _ (hl.1 hb),nZ.mono h hl.2⟩
def tM(l:aL bL)(D:Nat->Bool):Prop:=∀i o,l[i]? =some o->D i=true->nZ D o.after.toList
theorem Gf{D:Nat->Bool}{i k:Nat}(h:D k=true):ins D i k=true:=by
 grind [ins,Nat.beq]
theorem XQ{id:Nat}{l:aL bL}(hm:P.follows .mixedOrders=true)(hdep:vf 0 l=true)(J:(Nat->Bool)->(Nat->aV)->aW->Prop)
  (h0:J (λ_=>false) U w.drew)
  (step:pL (λi o=>∀D U w,D i=false->nZ D o.after.toList->tM l D->J D U w->RL P n l.toArray [o] U w (λex U w=>ex = .normal/\J (ins D i) U w)) 0 l)
  (hend:∀D U w,(∀i,i<l.length->D i=true)->J D U w->Q .normal U w):RC P n (.region id l.toArray true) U w Q:=by
 refine Yw hm hdep (λD U w=>tM l D/\J D U w) ⟨λi o _ h=>(by cases h),h0⟩ ?_<|λD U w hall h=>hend D U w hall h.2
 have key:∀(k:Nat)(m:aL bL),(∀i o,m[i]? =some o->l[k+i]? =some o)->pL (λi o=>∀D U w,D i=false->nZ D o.after.toList->tM l D->J D U w->RL P n l.toArray [o] U w (λex U w=>ex = .normal/\J (ins D i) U w)) k m->
   pL (λi o=>∀D U w,D i=false->nZ D o.after.toList->(tM l D/\J D U w)->RL P n l.toArray [o] U w (λex U w=>ex = .normal/\(tM l (ins D i)/\J (ins D i) U w))) k m:=by
  intro k m
  induction m generalizing k with
  |nil=>intro _ _;trivial
  |cons o m ih=>
   intro hat hs;refine⟨λD U w hD hd hJ a ha=>?_,ih (k+1) (λi o h=>by have:=hat (i+1) o (by simpa using h);grind) hs.2⟩;have h1:=hs.1 D U w hD hd hJ.1 hJ.2 a ha;have hcl:tM l (ins D k):=by
    intro i o' ho hi
    by_cases e:i=k
    ·subst e;have:=hat 0 o rfl;rw[Nat.add_zero,ho]at this;injection this with this
     subst this;exact nZ.mono (λ_ h=>Gf h) hd
    ·have hDi:D i=true:=by
      unfold ins at hi;have:Nat.beq i k=false:=by
       cases hx:Nat.beq i k with
       |false=>rfl
       |true=>exact absurd (fP hx) e
      rw[this]at hi;exact hi
     exact nZ.mono (λ_ h=>Gf h)<|hJ.1 i o' ho hDi
   unfold wpList at h1 ⊢;split at h1
   ·rename_i hw;rw[aH hw]
    rcases h1 with h1|⟨h2,h3⟩
    ·refine .inl<|BZ (λa w h=>?_) (λc a w h=>?_) (λh=>?_) h1
     ·obtain⟨σ',hs',he,hJ'⟩:=h;exact⟨σ',hs',he,hcl,hJ'⟩
     ·obtain⟨_,_,hbad,_⟩:=h;cases hbad
     ·obtain⟨_,_,_,_,hbad,_⟩:=h;cases hbad
    ·obtain⟨_,_,_,_,hbad,_⟩:=h3;cases hbad
   ·rename_i hw;rw[aF hw];obtain⟨σ',hs',he,hJ'⟩:=h1;exact⟨σ',hs',he,hcl,hJ'⟩
 grind
theorem dY.at{D:Nat->Bool}:∀{dv:aL (Nat×Nat×aV)}(_:dY D U dv)(k:Nat){j d:Nat}{v:aV}(_:dv[k]? =some (j,d,v)),D j=true->U d=v
 | [],_,k,_,_,_,hk=>by simp at hk
 |(i,d',v')::l,h,0,j,d,v,hk=>by
  simp at hk;obtain⟨rfl,rfl,rfl⟩:=hk;exact h.1
 |(i,d',v')::l,h,k+1,j,d,v,hk=>dY.at h.2 k (by grind)
def B0(j d:Nat):Nat->aL (Nat×Nat×aV)->Bool
 |_,[]=>true
 | 0,_::l=>dfreeA l
 |k+1,(i,t,_)::l=> !Nat.beq i j&& !Nat.beq t d&&B0 j d k l
where dfreeA:aL (Nat×Nat×aV)->Bool
 | []=>true
 |(i,t,_)::l=> !Nat.beq i j&& !Nat.beq t d&&dfreeA l
theorem dY.up{D:Nat->Bool}{j d:Nat}{v:aV}:∀{dv:aL (Nat×Nat×aV)}(_:dY D U dv)(_:B0.dfreeA j d dv=true),dY (ins D j) (eG U d v) dv
 | [],_,_=>trivial
 |(i,t,u)::l,h,hf=>by
  unfold B0.dfreeA at hf;simp only[dB,Bool.not_eq_true']at hf;refine⟨λhi=>?_,dY.up h.2 hf.2⟩;unfold ins at hi;rw[hf.1.1]at hi;unfold eG;rw[hf.1.2];exact h.1 hi
theorem dY.put{D:Nat->Bool}{j d:Nat}{v v':aV}:∀{dv:aL (Nat×Nat×aV)}(_:dY D U dv)(k:Nat)(_:dv[k]? =some (j,d,v))(_:B0 j d k dv=true),dY (ins D j) (eG U d v') (dv.set k (j,d,v'))
 | [],_,k,hk,_=>by simp at hk
 |(i,t,u)::l,h,0,hk,hf=>by
  refine⟨λ_=>?_,dY.up h.2 hf⟩;unfold eG;have:Nat.beq d d=true:=Nat.beq_refl d;rw[this];rfl
 |(i,t,u)::l,h,k+1,hk,hf=>by
  unfold B0 at hf;simp only[dB,Bool.not_eq_true']at hf;refine⟨λhi=>?_,dY.put h.2 k (by simpa using hk) hf.2⟩;unfold ins at hi;rw[hf.1.1]at hi;unfold eG;rw[hf.1.2];exact h.1 hi
theorem nf{b:Bool}(h:b=true->False):b=false:=by grind
theorem dY.no{D:Nat->Bool}{j:Nat}:∀{dv:aL (Nat×Nat×aV)}(_:dY D U dv)(_:(dv.all λx=> !Nat.beq x.1 j)=true),dY (ins D j) U dv
 | [],_,_=>trivial
 |(i,t,u)::l,h,hf=>by
  rw[List.all_cons,dB,Bool.not_eq_true']at hf;refine⟨λhi=>?_,dY.no h.2 hf.2⟩;unfold ins at hi;rw[hf.1]at hi;exact h.1 hi
theorem Holds.same{E w:aW}{V Γ':aL HP}(h:Holds E w V)(e:Γ'=V):Holds E w Γ':=by grind
theorem NT{V:aL HP}{i:Nat}{Pr R:HP}(h:V[i]? =some Pr)(e:R=Pr):V.set i R=V:=by grind [yO]
theorem Holds.bY{E w:aW}{V:aL HP}(i:Nat){b:Bool}{R Pr:HP}(h:Holds E w V)(hb:b=false)(hi:V[i]? =some (bif b then R else Pr):=by exact rfl):Holds E w (V.set i Pr):=by grind [NT]
theorem Holds.eB{E w:aW}{V:aL HP}(i:Nat){b:Bool}{R Pr:HP}(h:Holds E w V)(hb:b=true)(hi:V[i]? =some (bif b then R else Pr):=by exact rfl):Holds E w (V.set i R):=by grind [NT]
theorem Holds.dF{E w:aW}{V:aL HP}(i:Nat)(b:Bool){Pr:HP}(h:Holds E w V)(hb:b=true)(R:HP)(hi:V[i]? =some Pr:=by exact rfl):Holds E w (V.set i (bif b then Pr else R)):=by grind [NT]
theorem Holds.fV{E w:aW}{V:aL HP}(i:Nat)(b:Bool){Pr:HP}(h:Holds E w V)(hb:b=false)(R:HP)(hi:V[i]? =some Pr:=by exact rfl):Holds E w (V.set i (bif b then R else Pr)):=by grind [NT]
theorem ft{b:Bool}(h1:b=false)(h2:b=true):False:=by grind
theorem agree.at:∀{l:aL (Nat×aV)}(_:agree U l)(k:Nat){d:Nat}{v:aV}(_:l[k]? =some (d,v)),U d=v
 | [],_,k,_,_,hk=>by simp at hk
 |(d',v')::l,h,0,d,v,hk=>by simp at hk;obtain⟨rfl,rfl⟩:=hk;exact h.1
 |(d',v')::l,h,k+1,d,v,hk=>agree.at h.2 k (by grind)
def r8(d:Nat):aL (Nat×aV)->Bool
 | []=>true
 |(t,_)::l=> !Nat.beq t d&&r8 d l
theorem agree.up{d:Nat}{v:aV}:∀{l:aL (Nat×aV)}(_:agree U l)(_:r8 d l=true),agree (eG U d v) l
 | [],_,_=>trivial
 |(t,u)::l,h,hf=>by
  unfold r8 at hf;simp only[dB,Bool.not_eq_true']at hf;refine⟨?_,agree.up h.2 hf.2⟩;unfold eG;rw[hf.1];exact h.1
theorem agree.c{d:Nat}{v:aV}{l:aL (Nat×aV)}(h:U d=v)(hl:agree U l):agree U ((d,v)::l):=⟨h,hl⟩
theorem agree.z:agree U []:=trivial
theorem dY.none:∀{dv:aL (Nat×Nat×aV)},dY (λ_=>false) U dv
 | []=>trivial
 |(_,_,_)::_=>⟨λh=>(by cases h),dY.none⟩
variable {ops:bB bL}{rest:aL bL}{d:Nat}{ty T T':bR}{pos:String}{af:bB Edge}{g:aU (Nat×Bool)}{v:aV}{q r:bK}
theorem B1{f:FuncId}{fn:Func}(e:bB aV->Sem aV){args:bB aV}(hf:P.funcs[f]? =some fn)(hr:(e args).run P w = .ok v w)(hname:(fn.name== "runtime.NumGoroutine")=false:=by kernel_rfl)(hb:fn.body.isNone=true:=by kernel_rfl)(hn:Extern.findNext fn=none:=by kernel_rfl)(he:Extern.find fn=some e:=by kernel_rfl):(callFunc f args).run P w = .ok (.value v) w:=by
 simp_all[run_callFunc_extern]
theorem XR{f:FuncId}{args:bB bK}{ts:bB bR}(v:aV)(hd:Nat.blt d n=true)(vs:aL aV)(hvs:args.toList.map (ev U)=vs)(hf:(callFunc f vs.toArray).run P w = .ok (.value v) w)(k:RL P n ops rest (eG U d v) w Q)(hg:Wn ops U g:=by exact trivial):
  RL P n ops (⟨some d, .call ⟨.value<|.func f,args,ts⟩,ty,pos,af,g⟩::rest) U w Q:=by
 have e:args.map (ev U)=vs.toArray:=by grind
 refine Wf hg hd ?_ k;simp only[execOp,resolve,aR];simp only[ev,Deferred.ofValue,e,bG,bC,invoke]
 grind
end
theorem str_inj{a b:cN}:(⟨a.dA.toArray⟩:ByteArray)= ⟨b.dA.toArray⟩↔a=b:=by
 constructor
 ·intro h;have h1:a.dA.toArray=b.dA.toArray:=congrArg ByteArray.data h;have h2:a.dA=b.dA:=by grind
  cases a;simp_all
 grind
theorem Jc(a b:cN):((⟨a.dA.toArray⟩:ByteArray)==⟨b.dA.toArray⟩)= decide (a=b):=by
 have e:((⟨a.dA.toArray⟩:ByteArray)==⟨b.dA.toArray⟩)=(a.dA.toArray==b.dA.toArray):=rfl
 grind [str_inj]
section
variable {P:bP}{w:aW}{T:bR}{fs:bB Field}{xs ys:bB aV}{d:Nat}
inductive xc (P:bP) (w:aW) (d:Nat) (xs ys:bB aV):aL Field->aL Bool->Prop
 |nil:xc P w d xs ys [] []
 |cons {f:Field} {l:aL Field} {b:Bool} {bs:aL Bool} {x y:aV} (hn:f.name≠ "_") (hx:(part f.type xs f.offset).run P w = .ok x w) (hy:(part f.type ys f.offset).run P w = .ok y w)
   (he:(Op.equalIn d f.type x y).run P w = .ok b w) (h:xc P w d xs ys l bs):xc P w d xs ys (f::l) (b::bs)
theorem gR(d:Nat)(hu:P.underlying T=some (.struct fs)){bs:aL Bool}(h:xc P w d xs ys fs.toList bs)(hs:P.stoodInHeld T=false:=by kernel_rfl):
  (Op.equalIn (d+1) T (.agg xs)<|.agg ys).run P w = .ok (bs.all id) w:=by
 obtain⟨l⟩:=fs;rw[Op.equalIn];simp only[aR,run_underlying hu,bC,program,Sem.run,hs,List.forIn_toArray];rw[aF (by decide)];simp only at h;simp only[aR,bG,bC];clear hu
 induction h with
 |nil=>simp
 | @cons f l b bs x y hn hx hy he h ih=>
  simp only[List.forIn_cons,hn,ne_eq,not_false_eq_true,if_true,aR,hx,hy,he,bC]
  cases b with
  |true=>simp_all
  |false=>simp
structure NU (P:bP) (T:bR) (α:Type) [GT α] [DecidableEq α]:Prop where
 eq:∀(M:dZ)(cs ds:aL aV)(a b:α)(w:aW),GT.ok M cs a->GT.ok M ds b->(Op.equal T (u4 α cs)<|u4 α ds).run P w = .ok (decide<|a=b) w
 U4:P.eqGuardType P.depth T=false
end
section
variable {α:Type}[GT α][DecidableEq α]{P:bP}{n:Nat}{U:Nat->aV}{w:aW}{Q:gv}{E:aW}{V:aL HP}{i j:Nat}
variable {ops:bB bL}{rest:aL bL}{d:Nat}{ty T T':bR}{pos:String}{af:bB Edge}{g:aU (Nat×Bool)}{v v':aV}{q r:bK}{a b:α}
theorem run_seq(hw:Holds E w V)(hi:V[i]? =some (rd v a))(hj:V[j]? =some (rd v' b))(hT:NU P T α)(hag:GT.agg α=true):
  ((eqGuard .eql T q r v v').run P w = .ok () w/\(binOp .eql T v v').run P w = .ok (.bool<|decide<|a=b) w)/\
  ((eqGuard .neq T q r v v').run P w = .ok () w/\(binOp .neq T v v').run P w = .ok (.bool<|!decide (a=b)) w):=by
 obtain⟨M,hs,gd⟩:=hw;obtain⟨cs,hv,ho⟩:=(gd.sat i _ hi).1;obtain⟨ds,hv',ho'⟩:=(gd.sat j _ hj).1;have he:=hT.eq M cs ds a b w ho ho';rw[<-hv,<-hv']at he;have e1:v = .agg cs.toArray:=by grind [u4]
 have e2:v' = .agg ds.toArray:=by grind [u4]
 subst e1;subst e2;refine⟨⟨?_,?_⟩,?_,?_⟩
 ·simp[eqGuard,program,Sem.run,hT.U4]
 ·grind [binOp,aR,bC,bG]
 ·simp[eqGuard,program,Sem.run,hT.U4]
 grind [binOp,aR,bC,bG]
theorem Yb(i j:Nat)(a b:α)(hg:Wn ops U g)(hd:Nat.blt d n=true)(hw:Holds E w V)(hx:ev U q=v)(hy:ev U r=v')(hi:V[i]? =some (rd v a))(hj:V[j]? =some (rd v' b))(hT:NU P T α)(hag:GT.agg α=true)(k:RL P n ops rest (eG U d<|.bool<|decide<|a=b) w Q):RL P n ops (⟨some d, .binOp .eql T q r T',ty,pos,af,g⟩::rest) U w Q:=by
 obtain⟨⟨h1,h2⟩,_⟩:=run_seq (q:=q) (r:=r) hw hi hj hT hag;refine Wf hg hd ?_ k
 grind [execOp,aR,bC,bG]
theorem Yc(i j:Nat)(a b:α)(hg:Wn ops U g)(hd:Nat.blt d n=true)(hw:Holds E w V)(hx:ev U q=v)(hy:ev U r=v')(hi:V[i]? =some (rd v a))(hj:V[j]? =some (rd v' b))(hT:NU P T α)(hag:GT.agg α=true)(k:RL P n ops rest (eG U d<|.bool<|!decide (a=b)) w Q):RL P n ops (⟨some d, .binOp .neq T q r T',ty,pos,af,g⟩::rest) U w Q:=by
 obtain⟨_,h1,h2⟩:=run_seq (q:=q) (r:=r) hw hi hj hT hag;refine Wf hg hd ?_ k
 grind [execOp,aR,bC,bG]
end
theorem cM{P:bP}{T:bR}(hT:kR P T false 1){xs:bB aV}{k:Nat}{x:aV}(h:xs[k]? =some x)(w:aW):(part T xs k).run P w = .ok x w:=by
 simp[part,hT.Ki,h]
theorem ph{P:bP}{T:bR}{m:Nat}(hT:kR P T true m){xs ys:bB aV}{k:Nat}(h:xs.extract k (k+m)=ys)(w:aW):(part T xs k).run P w = .ok (.agg ys) w:=by
 simp[part,hT.Ki,hT.sz,h]
theorem kE{P:bP}{T:bR}{K:IntKind}{d:Nat}(hu:P.underlying T=some (.int K))(a b:Int)(w:aW):(Op.equalIn (d+1) T (.int K a)<|.int K b).run P w = .ok (a==b) w:=by
 rw[Op.equalIn];simp only[aR,run_underlying hu,bC];simp
theorem n0{P:bP}{T:bR}{d:Nat}(hu:P.underlying T=some .bool)(a b:Bool)(w:aW):(Op.equalIn (d+1) T (.bool a)<|.bool b).run P w = .ok (a==b) w:=by
 rw[Op.equalIn];simp only[aR,run_underlying hu,bC];simp
theorem nS{P:bP}{T:bR}{d:Nat}(hu:P.underlying T=some .string)(a b:cN)(w:aW):(Op.equalIn (d+1) T (str a)<|str b).run P w = .ok (decide<|a=b) w:=by
 rw[Op.equalIn];simp only[aR,run_underlying hu,bC,str];simp[Jc]
def xd{α:Type}(l:aL α)(lo hi:Int):aU (aL α):=if 0<=lo/\lo<=hi/\hi<=l.length then some ((l.drop lo.toNat).take (hi - lo).toNat)else none
section
variable {α:Type}[GT α]{P:bP}{n:Nat}{U:Nat->aV}{w:aW}{Q:gv}{E:aW}{V:aL HP}{i:Nat}
variable {ops:bB bL}{rest:aL bL}{d:Nat}{ty T e:bR}{pos:String}{af:bB Edge}{g:aU (Nat×Bool)}{v:aV}{q:bK}{l l':aL α}{lo hi:Int}
theorem Gg{M:dZ}{a:aU Addr}{m cap:Nat}(h:oz M (.slice a m cap) l)(h0:0<=lo)(h1:lo<=hi)(h2:hi<=l.length):
  oz M (.slice (if cap=lo.toNat then a else a.map (·.add (lo.toNat*GT.sz α))) (hi.toNat - lo.toNat)<|cap - lo.toNat) ((l.drop lo.toNat).take (hi - lo).toNat):=by
 obtain⟨a',m',cap',hv,hm,hc,hx,hel⟩:=h;injection hv with e1 e2 e3
 subst e1;subst e2;subst e3;refine⟨_,_,_,rfl,?_,by omega,by omega,λk x hk=>?_⟩
 ·grind
 ·rw[gZ]at hk
  grind [GT.sz,add_add,Nat.add_mul]
theorem wH{a:aU Addr}{m cap:Nat}{lov hiv:aU aV}(hT:uI P T e (GT.sz α))(hl:lov=some (.int .i64 lo)\/(lov=none/\lo=0))(hh:hiv=some (.int .i64 hi)\/(hiv=none/\hi=m))
  (h0:0<=lo) (h1:lo<=hi) (h2:hi<=m) (hc:m<=cap) (w:aW):
  (Instr.sliceAt T (.slice a m cap) lov hiv none).run P w = .ok (.slice (if cap=lo.toNat then a else a.map (·.add (lo.toNat*GT.sz α))) (hi.toNat - lo.toNat)<|cap - lo.toNat) w:=by
 have eh:(Instr.sliceBounds true m cap lov hiv none).run P w = .ok (lo.toNat,hi.toNat,cap) w:=by
  unfold Instr.sliceBounds;have e1:∀(y:Nat)(c:BoundsCode),hi<=y->(Instr.sliceBound (.int .i64 hi) y c).run P w = .ok hi.toNat w:=λy c hy=>by
   simp[Instr.sliceBound,asIntOf,show 0<=hi by omega,hy]
  have e2:∀(y:Nat)(c:BoundsCode),lo<=y->(Instr.sliceBound (.int .i64 lo) y c).run P w = .ok lo.toNat w:=λy c hy=>by
   simp_all[Instr.sliceBound,asIntOf]
  grind [aR,bG,bC]
 unfold Instr.sliceAt;simp only[aR,run_underlying hT.z5,bC];unfold Instr.slice;simp only[aR,run_underlying hT.z5,bC,eh,hT.sz,bG]
theorem Xo{lop hip:aU bK}(i:Nat)(hw:Holds E w V)(hT:uI P T e (GT.sz α))(hh:hip.map (ev U)=some (.int .i64 hi)\/(hip.map (ev U)=none/\hi=(l.length:Nat)))(hb:xd l lo hi=some l')(k:∀v',Holds E w (rd v' l'::V)->RL P n ops rest (eG U d v') w Q)(hg:Wn ops U g:=by exact trivial)(hd:Nat.blt d n=true:=by exact rfl)(hx:ev U q=v:=by exact rfl)(hi':V[i]? =some (rd v l):=by exact rfl)(hl:lop.map (ev U)=some (.int .i64 lo)\/(lop.map (ev U)=none/\lo=0):=by exact(.inl rfl)):
  RL P n ops (⟨some d, .slice T q lop hip none,ty,pos,af,g⟩::rest) U w Q:=by
 unfold xd at hb;split at hb
 ·rename_i hc;injection hb with hb
  subst hb;obtain⟨M,hs,gd⟩:=hw;have hs':=mu.1 (gd.sat i _ hi').1;obtain⟨a,m,cap,hv,hm,hcap,_⟩:=hs';subst hv;have hs2:=mu.1 (gd.sat i _ hi').1;have hcut:=Gg hs2 hc.1 hc.2.1 hc.2.2;refine Wf hg hd ?_<|k _ ⟨M,_,gd.ga ⟨mu.2 hcut,rfl⟩⟩
  grind [wH,execOp,aR,bC,bG]
 ·cases hb
end
def x9(s:cN)(lo hi:Int):aU cN:=if 0<=lo/\lo<=hi/\hi<=s.dA.length then some ⟨(s.dA.drop lo.toNat).take (hi - lo).toNat⟩else none
section
variable {P:bP}{n:Nat}{U:Nat->aV}{w:aW}{Q:gv}{E:aW}{V:aL HP}{i:Nat}
variable {ops:bB bL}{rest:aL bL}{d:Nat}{ty T T':bR}{pos:String}{af:bB Edge}{g:aU (Nat×Bool)}{v:aV}{q r:bK}{lo hi:Int}
theorem Yx{a b:Bool}(hg:Wn ops U g)(hd:Nat.blt d n=true)(hx:ev U q = .bool a)(hy:ev U r = .bool b)(hu:P.underlying T=some .bool)
  (k:RL P n ops rest (eG U d<|.bool<|a==b) w Q):RL P n ops (⟨some d, .binOp .eql T q r T',ty,pos,af,g⟩::rest) U w Q:=by
 refine W7 (hg:=hg) (hr:=λw=>?_) _ _ _ hd hx hy k
 grind [n0,binOp,aR,Op.equal,Op.maxDepth,bC,bG]
theorem Yd(a b:Bool)(hg:Wn ops U g)(hd:Nat.blt d n=true)(hx:ev U q = .bool a)(hy:ev U r = .bool b)(hu:P.underlying T=some .bool)(k:RL P n ops rest (eG U d<|.bool<|a != b) w Q):RL P n ops (⟨some d, .binOp .neq T q r T',ty,pos,af,g⟩::rest) U w Q:=by
 refine W7 (hg:=hg) (hr:=λw=>?_) _ _ _ hd hx hy k
 grind [n0,binOp,aR,Op.equal,Op.maxDepth,bC,bG]
theorem XU{lop hip:aU bK}(s:cN){s':cN}(hd:Nat.blt d n=true)(hx:ev U q=str s)(hT:P.underlying T=some .string)(hl:lop.map (ev U)=some (.int .i64 lo)\/(lop.map (ev U)=none/\lo=0))(hh:hip.map (ev U)=some (.int .i64 hi)\/(hip.map (ev U)=none/\hi=(s.dA.length:Nat)))(hb:x9 s lo hi=some s')(k:RL P n ops rest (eG U d<|str s') w Q)(hg:Wn ops U g:=by exact trivial):
  RL P n ops (⟨some d, .slice T q lop hip none,ty,pos,af,g⟩::rest) U w Q:=by
 unfold Gk.x9 at hb;split at hb
 ·rename_i hc;injection hb with hb
  subst hb;refine Wf hg hd ?_ k;have esz:(⟨s.dA.toArray⟩:ByteArray).size=s.dA.length:=rfl;have eb:(Instr.sliceBounds false s.dA.length s.dA.length (lop.map<|ev U) (hip.map<|ev U) none).run P w = .ok (lo.toNat,hi.toNat,s.dA.length) w:=by
   unfold Instr.sliceBounds;have e1:∀(y:Nat)(c:BoundsCode),hi<=y->(Instr.sliceBound (.int .i64 hi) y c).run P w = .ok hi.toNat w:=λy c hy=>by
    simp[Instr.sliceBound,asIntOf,show 0<=hi by omega,hy]
   have e2:∀(y:Nat)(c:BoundsCode),lo<=y->(Instr.sliceBound (.int .i64 lo) y c).run P w = .ok lo.toNat w:=λy c hy=>by
    simp_all[Instr.sliceBound,asIntOf]
   grind [aR,bG,bC]
  have ex:(⟨s.dA.toArray⟩:ByteArray).extract lo.toNat hi.toNat= ⟨((s.dA.drop lo.toNat).take (hi - lo).toNat).toArray⟩:=by
   apply ByteArray.ext;simp only[ByteArray.data_extract]
   grind
  simp only[execOp,hx,aR,Option.map_none,Instr.sliceAt,run_underlying hT,bC,Instr.slice,str]
  simp_all
 ·cases hb
end
def Gh{α:Type}(a:Nat)(ds xs:aL α):aL α:=xs.take a++ds++xs.drop (a+ds.length)
theorem ya{α:Type}{a:Nat}{ds xs:aL α}(h:a+ds.length<=xs.length):(Gh a ds xs).length=xs.length:=by
 unfold Gh;grind
theorem yP{α:Type}{a:Nat}{ds xs:aL α}(h:a+ds.length<=xs.length)(t:Nat):
  (Gh a ds xs)[t]? =if t<a then xs[t]? else if t<a+ds.length then ds[t - a]? else xs[t]? :=by
 unfold Gh
 grind
def NH(v:aV)(k sz off:Nat)(p:aV):Prop:=∃a n c,v = .slice (some a) n c/\p = .pointer (some<|a.add<|k*sz+off)
theorem rn{i k sz:Nat}(h:i<k):i*sz+sz<=k*sz:=by
 calc i*sz+sz=(i+1)*sz:=by rw[Nat.add_mul,Nat.one_mul]
  _<=k*sz:=Nat.mul_le_mul_right _ h
section
variable {α β:Type}[GT α][GT β]{P:bP}{n:Nat}{U:Nat->aV}{w:aW}{Q:gv}{E:aW}{V:aL HP}{i j:Nat}
variable {ops:bB bL}{rest:aL bL}{d:Nat}{ty T T' e:bR}{pos:String}{af:bB Edge}{g:aU (Nat×Bool)}{v u p:aV}{q r:bK}{l l':aL α}{x:α}{jj:Int}{k off:Nat}
theorem eQ{α:Type}{l:aL α}{jj:Int}{x:α}(h:idx l jj=some x):0<=jj/\l[jj.toNat]? =some x/\jj.toNat<l.length:=by
 grind [idx,bN]
theorem Yy{K:IntKind}(hg:Wn ops U g)(hd:Nat.blt d n=true)(hw:Holds E w V)(hx:ev U q=v)(hy:ev U r = .int K jj)(hi:V[i]? =some (own e v l))
  (hT:uI P T e (GT.sz α)) (hj:idx l jj=some x) (kk:∀p,NH v jj.toNat (GT.sz α) 0 p->RL P n ops rest (eG U d p) w Q):
  RL P n ops (⟨some d, .indexAddr T q r,ty,pos,af,g⟩::rest) U w Q:=by
 obtain⟨h0,hx',hlt⟩:=eQ hj;obtain⟨M,hs,gd⟩:=hw
 rcases gd.sat i _ hi with⟨rfl,rfl,_⟩|⟨b,o,cap,cur,xs,rfl,h2,_⟩
 ·simp at hlt
 ·refine Wf (v:= .pointer<|some<|(⟨b,o,none⟩:Addr).add<|jj.toNat*GT.sz α) hg hd ?_<|kk _ ⟨_,_,_,rfl,by rw[Nat.add_zero]⟩
  have hlt':jj<(l.length:Nat):=by omega
  simp only[execOp,hx,hy,Instr.indexAt,asIntOf,aR,bG,bC,run_underlying hT.z5,hT.sz,h0,hlt',and_self,if_true]
def z9(v:aV)(k sz off:Nat):aV:=match v with| .slice (some a) _ _=> .pointer (some<|a.add<|k*sz+off)|_=>undef
theorem sS{w E:aW}{V:aL HP}(i:Nat){v:aV}{l:aL α}{jj:Int}{x:α}(hw:Holds E w V)(hx:idx l jj=some x)(off:Nat)(hi:V[i]? =some (own e v l):=by exact rfl):NH v jj.toNat (GT.sz α) off (z9 v jj.toNat (GT.sz α) off):=by
 obtain⟨h0,hx',hlt⟩:=eQ hx;obtain⟨M,hs,gd⟩:=hw
 rcases gd.sat i _ hi with⟨rfl,rfl,_⟩|⟨b,o,cap,cur,xs,rfl,h2,_⟩
 ·simp at hlt
 ·exact⟨_,_,_,rfl,rfl⟩
theorem VX{K:IntKind}(i:Nat)(hw:Holds E w V)(hx:ev U q=v)(hi:V[i]? =some (own e v l))(hT:uI P T e (GT.sz α))(hj:idx l jj=some x)(kk:RL P n ops rest (eG U d<|z9 v jj.toNat (GT.sz α) 0) w Q)(hg:Wn ops U g:=by first|exact trivial|exact⟨_,rfl,rfl⟩|exact⟨_,rfl,Gk.cb ‹_›⟩)(hd:Nat.blt d n=true:=by exact rfl)(hy:ev U r = .int K jj:=by exact rfl):
  RL P n ops (⟨some d, .indexAddr T q r,ty,pos,af,g⟩::rest) U w Q:=
 Yy hg hd hw hx hy hi hT hj λp hp=>by
  obtain⟨a,n',c,hv,rfl⟩:=hp;have:z9 v jj.toNat (GT.sz α) 0 = .pointer (some<|a.add<|jj.toNat*GT.sz α+0):=by rw[hv];rfl
  rw[<-this];exact kk
theorem Yz{m jx:Nat}(hg:Wn ops U g)(hd:Nat.blt d n=true)(hx:ev U q=p)(hp:NH v k (GT.sz α) off p)(hf:mm P T jx m)
  (kk:∀p',NH v k (GT.sz α) (off+m) p'->RL P n ops rest (eG U d p') w Q):RL P n ops (⟨some d, .fieldAddr T q jx,ty,pos,af,g⟩::rest) U w Q:=by
 obtain⟨a,n',c,hv,hp⟩:=hp;refine Wf (v:= .pointer<|some<|(a.add<|k*GT.sz α+off).add m) hg hd ?_<|kk _ ⟨a,n',c,hv,by rw[add_add,Nat.add_assoc]⟩
 simp only[execOp,hx,hp,aR,hf.run,bC,bG]
theorem WY{m jx:Nat}(hp:NH v k (GT.sz α) off (z9 v k (GT.sz α) off))(hf:mm P T jx m)(kk:RL P n ops rest (eG U d<|z9 v k (GT.sz α)<|off+m) w Q)(hg:Wn ops U g:=by first|exact trivial|exact⟨_,rfl,rfl⟩|exact⟨_,rfl,Gk.cb ‹_›⟩)(hd:Nat.blt d n=true:=by exact rfl)(hx:ev U q=z9 v k (GT.sz α) off:=by exact rfl):RL P n ops (⟨some d, .fieldAddr T q jx,ty,pos,af,g⟩::rest) U w Q:=
 Yz (α:=α) hg hd hx hp hf λp hp=>by
  obtain⟨a,n',c,hv,rfl⟩:=hp;have:z9 v k (GT.sz α) (off+m) = .pointer (some<|a.add<|k*GT.sz α+(off+m)):=by rw[hv];rfl
  rw[<-this];exact kk
theorem Xx{f:α->β}(i:Nat)(hg:Wn ops U g)(hd:Nat.blt d n=true)(hw:Holds E w V)(hx:ev U q=p)(hp:NH v k (GT.sz α) off p)(hi:V[i]? =some (own e v l))(hl:l[k]? =some x)(hF:Fd off f)(hT:kR P T (GT.agg β) (GT.sz β))(kk:∀u,Holds E w (rd u (f x)::V)->RL P n ops rest (eG U d u) w Q):RL P n ops (⟨some d, .load T q,ty,pos,af,g⟩::rest) U w Q:=by
 obtain⟨M,hs,gd⟩:=hw;obtain⟨a,n',c,hv,hpp⟩:=hp;have hkl:=(bN.1 hl).1
 rcases gd.sat i _ hi with⟨hv',rfl,_⟩|⟨b,o,cap,cur,xs,hv',h2,h3,h4,h5,h6,h7⟩
 ·simp at hkl
 ·rw[hv]at hv';injection hv' with e1 e2 e3
  injection e1 with e1
  subst e1;have hb:=gd.le i b _ (dK hi) (by rw[h4];exact cT b _);have ho:=hF M _ x<|h7.2 k x hl
  refine Wf (v:=u4 β<|(((xs.drop<|k*GT.sz α).take<|GT.sz α).drop off).take<|GT.sz β) hg hd ?_<|kk _ ⟨M,_,gd.ga ⟨⟨_,rfl,ho⟩,rfl⟩⟩
  simp only[execOp,hx,hpp,Instr.loadAt,Instr.sureAddr,aR,bG,bC];rw[mw hT ho<|λt y hy=>?_];rfl
  grind [Addr.add_lit,cell_of_row]
theorem WZ{γ:Type}[Sc γ]{f:α->γ}(i:Nat)(hg:Wn ops U g)(hw:Holds E w V)(hp:NH v k (GT.sz α) off p)(hl:l[k]? =some x)(hF:Fd off f)(hT:kR P T false 1)(kk:RL P n ops rest (eG U d<|Sc.toV<|f x) w Q)(hd:Nat.blt d n=true:=by exact rfl)(hx:ev U q=p:=by exact rfl)(hi:V[i]? =some (own e v l):=by exact rfl):RL P n ops (⟨some d, .load T q,ty,pos,af,g⟩::rest) U w Q:=by
 refine Xx (f:=f) _ hg hd hw hx hp hi hl hF hT λu h=>?_;rw[h.ve (i:=0) rfl];exact kk
theorem XV{f:α->β->α}{y:β}(hg:Wn ops U g)(hw:Holds E w V)(hx:ev U q=p)(hy:ev U r=u)(hp:NH v k (GT.sz α) off p)(hi:V[i]? =some (own e v l))(hl:l[k]? =some x)(hj:V[j]? =some (rd u y))
  (hF:Fs off β f) (hm:off+GT.sz β<=GT.sz α) (hT:kR P T (GT.agg β) (GT.sz β)) (kk:∀w',Holds E w' (V.set i<|own e v<|l.set k<|f x y)->RL P n ops rest U w' Q):
  RL P n ops (⟨none, .store T q r,ty,pos,af,g⟩::rest) U w Q:=by
 obtain⟨M,hs,gd⟩:=hw;obtain⟨a,n',c,hv,hpp⟩:=hp;have hkl:=(bN.1 hl).1;have hr:=(gd.sat j _ hj).1
 rcases gd.sat i _ hi with⟨hv',rfl,_⟩|⟨b,o,cap,cur,xs,hv',h2,h3,h4,h5,h6,h7⟩
 ·simp at hkl
 ·have hv0:=hv';rw[hv]at hv';injection hv' with e1 e2 e3
  injection e1 with e1
  subst e1;have hb:=gd.le i b _ (dK hi) (by rw[h4];exact cT b _);have hc:u.cells.size=GT.sz β:=by rw[<-GT.len hr.cells];simp
  have hcl:u.cells.toList.length=GT.sz β:=GT.len hr.cells;have hks:=rn (sz:=GT.sz α) hkl;have hcap:l.length*GT.sz α<=cap*GT.sz α:=Nat.mul_le_mul_right _ h2;have hcs:o+cap*GT.sz α<=cur.toList.length:=h5;have hrun:=oA (P:=P) (v:=u) (o:=o+(k*GT.sz α+off)) hT.sz hc (GT.one hr.cells) hb (by omega);have hnew:(cur.toList.take (o+(k*GT.sz α+off))++u.cells.toList++cur.toList.drop (o+(k*GT.sz α+off)+GT.sz β))=Gh (o+(k*GT.sz α+off)) u.cells.toList cur.toList:=by
   grind [Gh]
  rw[hnew]at hrun;have hfit:o+(k*GT.sz α+off)+u.cells.toList.length<=cur.toList.length:=by omega
  have hxl:xs.length=l.length*GT.sz α:=h7.1;have hget:∀t,xs[t]? =if t<l.length*GT.sz α then cur.toList[o+t]? else none:=λt=>by
   grind
  refine Xj hg ?_<|kk _<|mx (P':=own e v<|l.set k<|f x y) (new:=(Gh (o+(k*GT.sz α+off)) u.cells.toList cur.toList).toArray) gd hi h4<|.inr ⟨b,o,cap,_,((Gh (o+(k*GT.sz α+off)) u.cells.toList cur.toList).drop o).take<|l.length*GT.sz α,by grind,by grind,h3,rfl,?_,by rw[j8],?_⟩
  ·grind [execOp,Instr.storeAt,Instr.sureAddr,aR,bG,bC,Addr.add_lit]
  ·grind
  ·refine⟨by rw[dD,f9,ya hfit,j8];omega,λm z hz=>?_⟩;rw[lk]at hz
   by_cases hmk:k=m
   ·subst hmk;rw[aH rfl,aH hkl]at hz;injection hz with hz
    subst hz;have hok:=hF M _ _ x y (h7.2 k x hl) hr.cells;have heq:(List.drop (k*GT.sz α)<|((Gh (o+(k*GT.sz α+off)) u.cells.toList cur.toList).drop o).take<|l.length*GT.sz α).take (GT.sz α) =
      (List.take (GT.sz α)<|List.drop (k*GT.sz α) xs).take off++u.cells.toList++(List.take (GT.sz α)<|List.drop (k*GT.sz α) xs).drop (off+GT.sz β):=by
     have e0:(List.take (GT.sz α)<|List.drop (k*GT.sz α) xs).take off++u.cells.toList++(List.take (GT.sz α)<|List.drop (k*GT.sz α) xs).drop (off+GT.sz β)=Gh off u.cells.toList (List.take (GT.sz α)<|List.drop (k*GT.sz α) xs):=by
      unfold Gh;rw[hcl]
     rw[e0];apply List.ext_getElem?;intro t;rw[yP (by rw[hcl,dD,f9];omega),gZ,j7,gZ,j7,yP hfit,hcl];simp only[gZ,j7,hget]
     by_cases ht:t<GT.sz α
     ·rw[aH ht,aH (by omega)]
      by_cases h1:t<off
      ·rw[aH (by omega),aH h1,aH ht,aH (by omega)]
      ·rw[aF (by omega),aF h1]
       by_cases h2':t<off+GT.sz β
       ·rw[aH (by omega),aH h2'];congr 1;omega
       ·rw[aF (by omega),aF h2',aH ht,aH (by omega)]
     ·rw[aF ht,aF (by omega),aF (by omega),aF ht]
    rw[heq];exact hok
   ·rw[aF hmk]at hz;have hml:=(bN.1 hz).1;have hms:=rn (sz:=GT.sz α) hml;have hok:=h7.2 m z hz;have heq:(List.drop (m*GT.sz α)<|((Gh (o+(k*GT.sz α+off)) u.cells.toList cur.toList).drop o).take<|l.length*GT.sz α).take (GT.sz α)=(List.drop (m*GT.sz α) xs).take (GT.sz α):=by
     apply List.ext_getElem?;intro t;simp only[gZ,j7,yP hfit,hcl,hget]
     by_cases ht:t<GT.sz α
     ·rw[aH ht,aH ht,aH (show m*GT.sz α+t<l.length*GT.sz α by omega),aH (show m*GT.sz α+t<l.length*GT.sz α by omega)]
      rcases Nat.lt_or_gt_of_ne hmk with h1|h1
      ·have:=rn (sz:=GT.sz α) h1;rw[aF (by omega),aF (by omega)]
      ·have:=rn (sz:=GT.sz α) h1;rw[aH (by omega)]
     ·rw[aF ht,aF ht]
    rw[heq];exact hok
theorem Xy{lop hip:aU bK}{lo hi:Int}(i:Nat)(hd:Nat.blt d n=true)(hw:Holds E w V)(hx:ev U q=v)(hi':V[i]? =some (own e v l))(hT:uI P T e (GT.sz α))(hl:lop.map (ev U)=some (.int .i64 lo)\/(lop.map (ev U)=none/\lo=0))(hb:xd l lo hi=some l')(kk:∀v',Holds E w (V.set i<|own e v' l')->RL P n ops rest (eG U d v') w Q)(hg:Wn ops U g:=by exact trivial)(hh:hip.map (ev U)=some (.int .i64 hi)\/(hip.map (ev U)=none/\hi=(l.length:Nat)):=by exact(.inl rfl)):
  RL P n ops (⟨some d, .slice T q lop hip none,ty,pos,af,g⟩::rest) U w Q:=by
 unfold xd at hb;split at hb
 ·rename_i hc;injection hb with hb
  subst hb;obtain⟨M,hs,gd⟩:=hw;have hlt:=dK hi';have hlen:((l.drop lo.toNat).take (hi - lo).toNat).length=hi.toNat - lo.toNat:=by grind
  rcases gd.sat i _ hi' with⟨rfl,rfl,hh0⟩|⟨b,o,cap,cur,xs,rfl,h2,h3,h4,h5,h6,h7⟩
  ·have hr:=wH (P:=P) (α:=α) (a:=none) (m:=0) (cap:=0) hT hl hh hc.1 hc.2.1 hc.2.2 (bW _) w;have h00:hi.toNat - lo.toNat=0:=by grind
   have hlo:lo.toNat=0:=by grind
   refine Wf (v:= .slice none 0 0) hg hd ?_<|kk _ ⟨M,_,gd.update (P':=own e _ _) hlt rX (.inl ⟨rfl,by rw[List.drop_nil,List.take_nil],rfl⟩) rfl rfl rfl (λ_ _ h=>by cases h) (λ_ _ h=>by cases h)<|λ_ _ _=>rfl⟩
   grind [execOp,aR,bC,bG]
  ·have hr:=wH (P:=P) (α:=α) (a:=some ⟨b,o,none⟩) (m:=l.length) (cap:=cap) hT hl hh hc.1 hc.2.1 hc.2.2 h2 w;have hxl:xs.length=l.length*GT.sz α:=h7.1;have hself:nR hs i (hs i)=hs:=by grind [nR]
   by_cases hce:cap=lo.toNat
   ·
    have h00:hi.toNat - lo.toNat=0:=by omega
    have hz:(l.drop lo.toNat).take (hi - lo).toNat= []:=List.eq_nil_of_length_eq_zero (by rw[hlen,h00]);have hz':l.length=cap:=by omega
    rw[hz]at kk;refine Wf (v:= .slice (some ⟨b,o,none⟩) 0 0) hg hd ?_<|kk _ ⟨M,_,gd.update (P':=own e (.slice (some ⟨b,o,none⟩) 0 0) ([]:aL α)) hlt (hs i) ?_ rfl rfl rfl (λb' o' hb'=>gd.le i b' o' hlt hb') (λb' o' hb'=> .inl ⟨o',hb'⟩)<|λ_ _ _=>rfl⟩
    ·grind [execOp,aR,bC,bG]
    ·exact .inr ⟨b,o,0,cur,[],rfl,bW _,by simp[maxLen],h4,by omega,by simp,Cells.nil⟩
   ·refine Wf (v:= .slice (some ⟨b,o+lo.toNat*GT.sz α,none⟩) ((l.drop lo.toNat).take (hi - lo).toNat).length<|cap - lo.toNat) hg hd ?_<|kk _ ⟨M,_,gd.update (P':=own e _ _) hlt (hs i) (.inr ⟨b,o+lo.toNat*GT.sz α,cap - lo.toNat,cur,(xs.drop<|lo.toNat*GT.sz α).take<|(hi - lo).toNat*GT.sz α,rfl,?_,by omega,h4,?_,?_,?_⟩) rfl rfl rfl (λb' o' hb'=>gd.le i b' o' hlt hb') (λb' o' hb'=> .inl ⟨o',hb'⟩)<|λ_ _ _=>rfl⟩
    ·grind [execOp,aR,bC,bG,Addr.add_lit]
    ·omega
    ·rw[Nat.sub_mul];have:lo.toNat*GT.sz α<=cap*GT.sz α:=Nat.mul_le_mul_right _ (by omega);omega
    ·rw[hlen,<-h6];have e1:(hi - lo).toNat=hi.toNat - lo.toNat:=by omega
     rw[e1,List.drop_take,List.drop_drop,List.take_take];congr 1;have:hi.toNat*GT.sz α<=l.length*GT.sz α:=Nat.mul_le_mul_right _ (by have:=hc.2.2;omega);rw[Nat.sub_mul];omega
    ·refine⟨?_,λm z hz=>?_⟩
     ·rw[dD,f9,hxl,hlen];have e1:(hi - lo).toNat=hi.toNat - lo.toNat:=by omega
      have:hi.toNat*GT.sz α<=l.length*GT.sz α:=Nat.mul_le_mul_right _ (by have:=hc.2.2;omega);rw[e1,Nat.sub_mul];omega
     ·rw[gZ]at hz;split at hz
      ·rename_i hm;rw[j7]at hz;have:=h7.2 _ z hz;have hms:=rn (sz:=GT.sz α) hm;rw[List.drop_take,List.drop_drop,List.take_take,Nat.min_eq_left (by omega),<-Nat.add_mul];exact this
      ·cases hz
 ·cases hb
end
def mk{α:Type}(bytes:Nat)(z:α)(n:Int):aU (aL α):=if 0<=n/\n*bytes<=140737488355328 then some (List.replicate n.toNat z)else none
def HV(P:bP)(e:bR){α:Type}[GT α](z0:α):Prop:=∀(M:dZ)(z:aV),(P.info? e).bind (·.zero)=some z->GT.ok M z.cells.toList z0
section
variable {α:Type}[GT α]{P:bP}{n:Nat}{U:Nat->aV}{w:aW}{Q:gv}{E:aW}{V:aL HP}{i:Nat}
variable {ops:bB bL}{rest:aL bL}{d:Nat}{ty t e:bR}{pos:String}{af:bB Edge}{g:aU (Nat×Bool)}{q r:bK}{bytes:Nat}{l':aL α}{z0:α}{k:Int}
theorem Xq(k:Int)(hw:Holds E w V)(hT:uJ P t e (GT.sz α) bytes)(hz0:HV P e z0)(hb:Gk.mk bytes z0 k=some l')(kk:∀v w',Holds E w' (own e v l'::V)->RL P n ops rest (eG U d v) w' Q)(hg:Wn ops U g:=by exact trivial)(hd:Nat.blt d n=true:=by exact rfl)(hx:ev U q = .int .i64 k:=by exact rfl)(hy:ev U r = .int .i64 k:=by exact rfl):RL P n ops (⟨some d, .makeSlice t q r,ty,pos,af,g⟩::rest) U w Q:=by
 obtain⟨inf,z,hi,hz,hsz,hby,hzs⟩:=hT.inf;unfold Gk.mk at hb;split at hb
 case isFalse=>cases hb
 rename_i hc;injection hb with hb
 subst hb;obtain⟨m,rfl⟩:=Int.eq_ofNat_of_zero_le hc.1;rw[cR]at kk;have h1:m*bytes<=140737488355328:=by omega
 have h2:m<=140737488355328:=mc (Nat.le_mul_of_pos_right _ hT.pos) h1;have hbn:(inf.bytes:Int)*(m:Int)<=281474976710656:=by
  grind
 have hr:=run_make (P:=P) w t e inf z hT.z5 hi hz .i64 .i64 m m (by omega) (Int.le_refl _) hbn (by omega);simp only[cR]at hr;refine Wf (v:= .slice (some ⟨w.heap.size,0,none⟩) m m) (w':=w.alloc<|.cells (madeCells z.cells<|m*inf.size) e) hg hd ?_<|kk _ _<|hw.alloc _ λM hs gd=> .inr ⟨w.heap.size,0,m,madeCells z.cells<|m*inf.size,_,by rw[List.length_replicate],by simp,by grind [maxLen],rfl,?_,rfl,?_⟩
 ·grind [execOp,aR,bC,bG]
 ·grind [size_madeCells]
 ·have hok:=hz0 M z (by grind);have hml:(madeCells z.cells<|m*inf.size).toList.length=m*GT.sz α:=by grind [Array.length_toList,size_madeCells]
  refine⟨by grind,λa x hx=>?_⟩;rw[List.getElem?_replicate]at hx;split at hx
  ·rename_i ha;injection hx with hx
   subst hx;have hms:=rn (sz:=GT.sz α) ha;have:(List.drop (a*GT.sz α)<|(List.drop 0 (madeCells z.cells<|m*inf.size).toList).take<|(List.replicate m z0).length*GT.sz α).take (GT.sz α)=z.cells.toList:=by
    apply List.ext_getElem?;intro t;have hzl:z.cells.toList.length=GT.sz α:=by omega
    simp only[gZ,j7,List.length_replicate,gL]
    by_cases ht:t<GT.sz α
    ·have hlt:a*GT.sz α+t<(madeCells z.cells<|m*inf.size).size:=by grind
     rw[aH ht,aH (by omega),Array.getElem?_toList,iI hlt,aM (show t<z.cells.toList.length by omega)]
     grind [madeCells,GT.sz,Nat.mul_comm,Nat.mul_add_mod,Nat.mod_eq_of_lt]
    grind
   grind
  ·cases hx
end
class KV (κ:Type) [GT κ]where
 cs:κ->aL aV
 spec:∀{M:dZ}{c:aL aV}{k:κ},GT.ok M c k->c=cs k
 ok:∀(M:dZ)(k:κ),GT.ok M (cs k) k
instance instKVSc {α:Type} [Sc α]:KV α:=⟨λx=>[Sc.toV x],λh=>h,λ_ _=>rfl⟩
instance instKVProd {α β:Type} [GT α] [GT β] [KV α] [KV β]:KV (α×β):=
 ⟨λx=>KV.cs x.1++KV.cs x.2,λ⟨_,_,e,h1,h2⟩=>by rw[e,KV.spec h1,KV.spec h2],λM x=>⟨_,_,rfl,KV.ok M x.1,KV.ok M x.2⟩⟩
def KV.enc{κ:Type}[GT κ][KV κ](k:κ):aV:=u4 κ<|KV.cs k
theorem KV.QP{κ:Type}[GT κ][KV κ]{M:dZ}{v:aV}{k:κ}(h:xH M v k):v=KV.enc k:=by
 obtain⟨cs,e,h⟩:=h;rw[e,KV.spec h];rfl
theorem KV.rd{κ:Type}[GT κ][KV κ](M:dZ)(k:κ):xH M (KV.enc k) k:=⟨_,rfl,KV.ok M k⟩
structure vg (P:bP) (kt:bR) (κ:Type) [GT κ] [KV κ] [DecidableEq κ]:Prop where
 QI:∀(b:Bool)(k:κ)(w:aW),(Instr.checkKey b 10000 kt<|KV.enc k).run P w = .ok () w
 eq:∀(a b:κ)(w:aW),(Op.equal kt (KV.enc a)<|KV.enc b).run P w = .ok (decide<|a=b) w
 now:(∀(a b:κ),∃D,P.underlying kt=some D/\Instr.sameNow D (KV.enc a) (KV.enc b)=some (decide<|a=b))\/(∃D,P.underlying kt=some D/\∀(a b:κ),Instr.sameNow D (KV.enc a) (KV.enc b)=none)
 bits:∀(a:κ),Instr.sameBits 10000 (KV.enc a) (KV.enc a)=true
section
variable {κ ν:Type}[GT κ][KV κ][GT ν]
def nc(M:dZ):aL MapEntry->aL (κ×ν)->Prop
 | [],[]=>True
 |e::es,p::m=>e.key=KV.enc p.1/\xH M e.val p.2/\nc M es m
 |_,_=>False
theorem nc.mono{M M':dZ}(h:hle M M'):∀{es:aL MapEntry}{m:aL (κ×ν)},nc M es m->nc M' es m
 | [],[],_=>trivial
 |e::es,p::m,⟨h1,h2,h3⟩=>⟨h1,h2.mono h,nc.mono h h3⟩
 | [],_::_,h=>h.elim
 |_::_,[],h=>h.elim
def NW(es:aL MapEntry)(clock:Nat)(m:aL (κ×ν)):Prop:=(∀x∈es,x.born<clock)/\(es.map (·.born)).Nodup/\(m.map Prod.fst).Nodup
def mp(v:aV)(m:aL (κ×ν)):HP:=
 ⟨λM h=>∃r es clock,v = .map (some r)/\(nc M (Array.toList es) m/\NW es.toList clock m)/\h=Gk.one r (.map es clock),λk⟨r,es,c,hv,⟨he,hst⟩,hh⟩=>⟨r,es,c,hv,⟨nc.mono k he,hst⟩,hh⟩⟩
end
section
variable {κ ν:Type}[GT κ][KV κ][DecidableEq κ][GT ν]
def my(m:aL (κ×ν))(k:κ):aU Nat:=m.findIdx?<|λp=>decide<|k=p.1
def dE(m:aL (κ×ν))(k:κ)(z:ν):ν:=match m.find? (λp=>decide<|k=p.1)with|some p=>p.2|none=>z
def iD(m:aL (κ×ν))(k:κ):Bool:=m.any<|λp=>decide<|k=p.1
def lf(m:aL (κ×ν))(k:κ)(x:ν):aL (κ×ν):=
 match m with
 | []=>[(k,x)]
 |p::m=>if k=p.1 then(k,x)::m else p::lf m k x
theorem Gi(k:κ)(x:ν):∀m:aL (κ×ν),(lf m k x).map Prod.fst=if k∈m.map Prod.fst then m.map Prod.fst else m.map Prod.fst++[k]
 | []=>by simp[lf]
 |p::m=>by
  unfold lf
  by_cases h:k=p.1
  ·simp[h]
  ·rw[aF h,eZ,Gi k x m];simp only[eZ,eV,h,false_or];split <;> simp
theorem B3{m:aL (κ×ν)}(h:(m.map Prod.fst).Nodup)(k:κ)(x:ν):((lf m k x).map Prod.fst).Nodup:=by
 rw[Gi]
 grind
theorem NW.push{es:aL MapEntry}{clock:Nat}{m:aL (κ×ν)}(h:NW es clock m)(k:κ)(x:ν){en:MapEntry}(he:en.born=clock):NW (es++[en]) (clock+1) (lf m k x):=by
 refine⟨λy hy=>?_,?_,B3 h.2.2 k x⟩
 ·rcases dJ.1 hy with hy|hy
  ·have:=h.1 y hy;omega
  grind
 ·rw[gC,List.nodup_append];refine⟨h.2.1,by simp,λa ha b hb e=>?_⟩;simp at hb;obtain⟨y,hy,rfl⟩:=cX.1 ha;have:=h.1 y hy;omega
theorem NW.modify{es:aL MapEntry}{clock:Nat}{m:aL (κ×ν)}(h:NW es clock m)(k:κ)(x:ν){f:MapEntry->MapEntry}(hf:∀e,(f e).born=e.born)(a:Nat):NW (es.modify a f) clock (lf m k x):=by
 have hm:(es.modify a f).map (·.born)=es.map (·.born):=by
  refine List.ext_getElem? λj=>?_
  grind
 refine⟨λy hy=>?_,by rw[hm];exact h.2.1,B3 h.2.2 k x⟩;have hy':y.born∈(es.modify a f).map (·.born):=cX.2 ⟨y,hy,rfl⟩;rw[hm]at hy';obtain⟨z,hz,e⟩:=cX.1 hy';rw[<-e];exact h.1 z hz
variable {P:bP}{n:Nat}{U:Nat->aV}{w:aW}{Q:gv}{E:aW}{V:aL HP}{i j l:Nat}
variable {ops:bB bL}{rest:aL bL}{d:Nat}{ty T kt et:bR}{pos:String}{af:bB Edge}{g:aU (Nat×Bool)}{v kv u:aV}{q qk qv:bK}{r:Nat}{m:aL (κ×ν)}{k:κ}{x z0:ν}
theorem run_findKey(hK:vg P kt κ)(M:dZ){es:aL MapEntry}(he:nc M es m)(w:aW):
  ∃o,(Instr.findKey kt (KV.enc k) es).run P w = .ok o w/\
   match o with
   |some (a,y)=>∃x,my m k=some a/\m.find? (λp=>decide (k=p.1))=some (k,x)/\xH M y x/\∃en,es[a]? =some en/\en.key=KV.enc k
   |none=>my m k=none/\m.find? (λp=>decide (k=p.1))=none:=by
 have ask:∀(es:aL MapEntry)(m:aL (κ×ν))(a:Nat),nc M es m->∃o,(Instr.findAsking kt (KV.enc k) es a).run P w = .ok o w/\
   (match o with
   |some (b,y)=>∃c x,b=a+c/\my m k=some c/\m.find? (λp=>decide (k=p.1))=some (k,x)/\xH M y x/\∃en,es[c]? =some en/\en.key=KV.enc k
   |none=>my m k=none/\m.find? (λp=>decide (k=p.1))=none):=by
  intro es
  induction es with
  |nil=>intro m a he;cases m with
   |nil=>exact⟨none,rfl,rfl,rfl⟩
   |cons p m=>exact he.elim
  |cons en es ih=>
   intro m a he
   cases m with
   |nil=>exact he.elim
   |cons p m=>
    obtain⟨h1,h2,h3⟩:=he;obtain⟨p1,p2⟩:=p;simp only at h1 h2;rw[Instr.findAsking];simp only[aR,h1,hK.eq,bC]
    by_cases e:k=p1
    ·subst e;refine⟨some (a,en.val),by simp[bG],0,p2,rfl,?_,?_,h2,en,rfl,h1⟩
     ·simp[my,List.findIdx?_cons]
     ·simp
    ·obtain⟨o,ho,hs⟩:=ih m (a+1) h3;refine⟨o,by grind,?_⟩
     cases o with
     |none=>
      obtain⟨s1,s2⟩:=hs;refine⟨?_,?_⟩
      ·simp only[my,List.findIdx?_cons,bS e]at s1 ⊢;simpa using s1
      ·simpa[List.find?_cons,bS e]using s2
     |some by_=>
      obtain⟨b,y⟩:=by_;obtain⟨c,x,hb,s1,s2,s3,en',s4,s5⟩:=hs;refine⟨c+1,x,by omega,?_,?_,s3,en',by grind,s5⟩
      ·simp only[my,List.findIdx?_cons,bS e]at s1 ⊢;simp[s1]
      ·simpa[List.find?_cons,bS e]using s2
 have asked:∃o,(Instr.findAsking kt (KV.enc k) es).run P w = .ok o w/\
   (match o with
   |some (b,y)=>∃x,my m k=some b/\m.find? (λp=>decide (k=p.1))=some (k,x)/\xH M y x/\∃en,es[b]? =some en/\en.key=KV.enc k
   |none=>my m k=none/\m.find? (λp=>decide (k=p.1))=none):=by
  obtain⟨o,ho,hs⟩:=ask es m 0 he;refine⟨o,ho,?_⟩
  cases o with
  |none=>exact hs
  |some by_=>
   obtain⟨b,y⟩:=by_;obtain⟨c,x,hb,rest⟩:=hs;rw[gL]at hb;subst hb;exact⟨x,rest⟩
 unfold Instr.findKey
 rcases hK.now with hnow|⟨D,hD,hno⟩
 ·obtain⟨D,hD,_⟩:=hnow k k;have hnow':∀a b:κ,Instr.sameNow D (KV.enc a) (KV.enc b)=some (decide<|a=b):=λa b=>by
   simp_all
  have fn:∀(es:aL MapEntry)(m:aL (κ×ν))(a:Nat),nc M es m->∃o,Instr.findNow D (KV.enc k) es a=some o/\
    (match o with
    |some (b,y)=>∃c x,b=a+c/\my m k=some c/\m.find? (λp=>decide (k=p.1))=some (k,x)/\xH M y x/\∃en,es[c]? =some en/\en.key=KV.enc k
    |none=>my m k=none/\m.find? (λp=>decide (k=p.1))=none):=by
   intro es
   induction es with
   |nil=>intro m a he;cases m with
    |nil=>exact⟨none,rfl,rfl,rfl⟩
    |cons p m=>exact he.elim
   |cons en es ih=>
    intro m a he
    cases m with
    |nil=>exact he.elim
    |cons p m=>
     obtain⟨h1,h2,h3⟩:=he;obtain⟨p1,p2⟩:=p;simp only at h1 h2;rw[Instr.findNow,h1,hnow']
     by_cases e:k=p1
     ·subst e;refine⟨some (a,en.val),by simp,0,p2,rfl,?_,?_,h2,en,rfl,h1⟩
      ·simp[my,List.findIdx?_cons]
      ·simp
     ·obtain⟨o,ho,hs⟩:=ih m (a+1) h3;refine⟨o,by grind,?_⟩
      cases o with
      |none=>
       obtain⟨s1,s2⟩:=hs;refine⟨?_,?_⟩
       ·simp only[my,List.findIdx?_cons,bS e]at s1 ⊢;simpa using s1
       ·simpa[List.find?_cons,bS e]using s2
      |some by_=>
       obtain⟨b,y⟩:=by_;obtain⟨c,x,hb,s1,s2,s3,en',s4,s5⟩:=hs;refine⟨c+1,x,by omega,?_,?_,s3,en',by grind,s5⟩
       ·simp only[my,List.findIdx?_cons,bS e]at s1 ⊢;simp[s1]
       ·simpa[List.find?_cons,bS e]using s2
  obtain⟨o,ho,hs⟩:=fn es m 0 he
  simp_all[aR,run_underlying,bC,bG,gL]
 ·cases es with
  |nil=>
   cases m with
   |nil=>exact⟨none,by simp_all[run_underlying,Instr.findNow],rfl,rfl⟩
   |cons p m=>exact he.elim
  |cons en es=>
   obtain⟨o,ho,hs⟩:=asked;refine⟨o,?_,hs⟩
   cases m with
   |nil=>exact he.elim
   |cons p m=>
    have:Instr.findNow D (KV.enc k) (en::es) 0=none:=by rw[Instr.findNow,he.1,hno]
    simp only[aR,run_underlying hD,bC,this,ho]
theorem Je(m:aL (κ×ν))(k:κ)(z:ν):dE m k z=match m.find? (λp=>decide<|k=p.1)with|some p=>p.2|none=>z:=rfl
theorem Jf(m:aL (κ×ν))(k:κ):iD m k=(m.find?<|λp=>decide<|k=p.1).isSome:=by
 unfold iD
 grind
theorem B4(hT:P.underlying T=some (.map kt et))(hK:vg P kt κ)(hz:∃inf z,P.info? et=some inf/\inf.zero=some z/\∀M,xH M z z0)
  (hw:Holds E w V) (hi:V[i]? =some (mp v m)) (ok:Bool):
  ∃y,(Instr.lookup T v (KV.enc k) ok).run P w = .ok (if ok then .tuple #[y, .bool<|iD m k]else y) w/\Holds E w (rd y (dE m k z0)::V):=by
 obtain⟨M,hs,gd⟩:=hw;obtain⟨r,es,clock,rfl,⟨he,hst⟩,hh⟩:=gd.sat i _ hi;have hb:=gd.le i r _ (dK hi) (by rw[hh];exact cT r _);obtain⟨o,ho,hs'⟩:=run_findKey hK M he w (k:=k);obtain⟨inf,z,hin,hzz,hzr⟩:=hz
 cases o with
 |none=>
  obtain⟨h1,h2⟩:=hs';refine⟨z,?_,Holds.BS ⟨M,hs,gd⟩ λM' hs' gd'=>⟨?_,rfl⟩⟩
  ·simp[Instr.lookup,run_underlying hT,MapKept.run_getObj_map hb,hK.QI,ho,Result.andThen,zeroValue,typeInfo,hin,hzz,Jf,h2,program,Sem.run]
  grind [Je]
 |some ay=>
  obtain⟨a,y⟩:=ay;obtain⟨x,h1,h2,h3,_⟩:=hs';refine⟨y,?_,⟨M,F8 rX hs,gd.ga ⟨?_,rfl⟩⟩⟩
  ·simp[Instr.lookup,run_underlying hT,MapKept.run_getObj_map hb,hK.QI,ho,Result.andThen,Jf,h2]
  grind [Je]
omit [DecidableEq κ]in
theorem rp(j:Nat)(hw:Holds E w V)(hj:V[j]? =some (rd kv k):=by exact rfl):kv=KV.enc k:=by
 obtain⟨M,hs,gd⟩:=hw;exact KV.QP (gd.sat j _ hj).1
structure Du (P:bP) (T kt et:bR) (κ ν:Type) [GT κ] [KV κ] [DecidableEq κ] [GT ν] (z0:ν):Prop where
 z5:P.underlying T=some (.map kt et)
 key:vg P kt κ
 zero:∃inf z,P.info? et=some inf/\inf.zero=some z/\∀M,xH M z z0
theorem YA(hg:Wn ops U g)(hd:Nat.blt d n=true)(hw:Holds E w V)(hx:ev U q=v)(hk:ev U qk=KV.enc k)(hi:V[i]? =some (mp v m))(hT:Du P T kt et κ ν z0)
  (kk:∀y,Holds E w (rd y (dE m k z0)::V)->RL P n ops rest (eG U d<|.tuple #[y, .bool<|iD m k]) w Q):RL P n ops (⟨some d, .lookup T q qk true,ty,pos,af,g⟩::rest) U w Q:=by
 obtain⟨y,hr,hh⟩:=B4 hT.z5 hT.key hT.zero hw hi true (k:=k);refine Wf hg hd ?_<|kk y hh
 grind [execOp,aR,bC,bG]
theorem YB(hg:Wn ops U g)(hd:Nat.blt d n=true)(hw:Holds E w V)(hx:ev U q=v)(hk:ev U qk=KV.enc k)(hi:V[i]? =some (mp v m))(hT:Du P T kt et κ ν z0)
  (kk:∀y,Holds E w (rd y (dE m k z0)::V)->RL P n ops rest (eG U d y) w Q):RL P n ops (⟨some d, .lookup T q qk false,ty,pos,af,g⟩::rest) U w Q:=by
 obtain⟨y,hr,hh⟩:=B4 hT.z5 hT.key hT.zero hw hi false (k:=k);refine Wf hg hd ?_<|kk y hh
 grind [execOp,aR,bC,bG,Bool.false_eq_true]
theorem XD [KV ν](i:Nat)(k:κ)(hd:Nat.blt d n=true)(hw:Holds E w V)(hx:ev U q=v)(hk:ev U qk=KV.enc k)(hi:V[i]? =some (mp v m))(hT:Du P T kt et κ ν z0)(kk:RL P n ops rest (eG U d<|.tuple #[KV.enc<|dE m k z0, .bool<|iD m k]) w Q)(hg:Wn ops U g:=by exact trivial):RL P n ops (⟨some d, .lookup T q qk true,ty,pos,af,g⟩::rest) U w Q:=
 YA hg hd hw hx hk hi hT λy hh=>by have:=rp 0 hh;rw[this];exact kk
theorem Xe [KV ν](i:Nat)(k:κ)(hg:Wn ops U g)(hw:Holds E w V)(hk:ev U qk=KV.enc k)(hT:Du P T kt et κ ν z0)(kk:RL P n ops rest (eG U d<|KV.enc<|dE m k z0) w Q)(hd:Nat.blt d n=true:=by exact rfl)(hx:ev U q=v:=by exact rfl)(hi:V[i]? =some (mp v m):=by exact rfl):RL P n ops (⟨some d, .lookup T q qk false,ty,pos,af,g⟩::rest) U w Q:=
 YB hg hd hw hx hk hi hT λy hh=>by have:=rp 0 hh;rw[this];exact kk
theorem Xh(hw:Holds E w V)(kk:∀v w',Holds E w' (mp v ([]:aL (κ×ν))::V)->RL P n ops rest (eG U d v) w' Q)(hg:Wn ops U g:=by exact trivial)(hd:Nat.blt d n=true:=by exact rfl):RL P n ops (⟨some d, .makeMap T none,ty,pos,af,g⟩::rest) U w Q:=by
 refine Wf (v:= .map<|some w.heap.size) (w':=w.alloc<|.map #[] 0) hg hd ?_<|kk _ _<|hw.alloc _ λM hs gd=>⟨w.heap.size,#[],0,rfl,⟨trivial,by simp[NW]⟩,rfl⟩
 rfl
theorem nc.len{M:dZ}:∀{es:aL MapEntry}{m:aL (κ×ν)},nc M es m->es.length=m.length
 | [],[],_=>rfl
 |_::_,_::_,⟨_,_,h3⟩=>congrArg (· +1) (nc.len h3)
 | [],_::_,h=>h.elim
 |_::_,[],h=>h.elim
theorem AR{M:dZ}{hs:Nat->dZ}{P':HP}{b c c':Nat}{es es':bB MapEntry}{Pi:HP}(gd:Good E w M hs V)(hi:V[i]? =some Pi)(hh:hs i=Gk.one b (.map es c))
  (hp:P'.ok M (Gk.one b<|.map es' c')):Holds E {w with heap:=w.heap.setIfInBounds b<|.map es' c'} (V.set i P'):=by
 have hb:=gd.le i b _ (dK hi) (by rw[hh];exact cT b _);refine⟨M,_,gd.update (dK hi) (Gk.one b<|.map es' c') hp rfl rfl rfl (λb' o' hb'=>?_) (λb' o' hb'=>?_)<|λb' hb' _=>?_⟩
 ·grind [iK,MapKept.heap_set]
 ·obtain⟨rfl,rfl⟩:=iK hb';simp_all[cT]
 ·rw[hh]at hb'
  grind [MapKept.heap_set,cT]
theorem nc.push{M:dZ}{en:MapEntry}:∀{es:aL MapEntry}{m:aL (κ×ν)},nc M es m->my m k=none->en.key=KV.enc k->xH M en.val x->nc M (es++[en]) (lf m k x)
 | [],[],_,_,h1,h2=>⟨h1,h2,trivial⟩
 |e::es,p::m,⟨a1,a2,a3⟩,hf,h1,h2=>by
  have hne:¬k=p.1:=λe=>by simp[my,List.findIdx?_cons,e]at hf
  have hf':my m k=none:=by simp only[my,List.findIdx?_cons,bS hne]at hf ⊢;simpa using hf
  show nc M (e::(es++[en])) _;unfold lf;rw[aF hne];exact⟨a1,a2,nc.push a3 hf' h1 h2⟩
 | [],_::_,h,_,_,_=>h.elim
 |_::_,[],h,_,_,_=>h.elim
theorem nc.modify{M:dZ}{f:MapEntry->MapEntry}(h1:∀e,(f e).key=KV.enc k)(h2:∀e,xH M (f e).val x):∀{es:aL MapEntry}{m:aL (κ×ν)}{a:Nat},nc M es m->my m k=some a->nc M (es.modify a f) (lf m k x)
 | [],[],_,_,hf=>by simp[my]at hf
 |e::es,p::m,a,⟨a1,a2,a3⟩,hf=>by
  unfold lf
  by_cases hk:k=p.1
  ·have ha:a=0:=by simp[my,List.findIdx?_cons,hk]at hf;omega
   subst ha;rw[aH hk];exact⟨h1 e,h2 e,a3⟩
  ·rw[aF hk];simp only[my,List.findIdx?_cons,bS hk,Bool.false_eq_true,if_false,Option.map_eq_some_iff]at hf;obtain⟨a',hf',rfl⟩:=hf;exact⟨a1,a2,nc.modify h1 h2 a3 hf'⟩
 | [],_::_,_,h,_=>h.elim
 |_::_,[],_,h,_=>h.elim
theorem Xi(i j:Nat)(k:κ)(hw:Holds E w V)(hx:ev U q=v)(hk:ev U qk=KV.enc k)(hi:V[i]? =some (mp v m))(hj:V[j]? =some (rd u x))(hT:Du P T kt et κ ν z0)(kk:∀w',Holds E w' (V.set i<|mp v<|lf m k x)->RL P n ops rest U w' Q)(hg:Wn ops U g:=by exact trivial)(hv:ev U qv=u:=by exact rfl):RL P n ops (⟨none, .mapUpdate T q qk qv,ty,pos,af,g⟩::rest) U w Q:=by
 obtain⟨M,hs,gd⟩:=hw;obtain⟨r,es,clock,rfl,⟨he,hst⟩,hh⟩:=gd.sat i _ hi;have hu:=(gd.sat j _ hj).1;have hb:=gd.le i r _ (dK hi) (by rw[hh];exact cT r _);obtain⟨o,ho,hs'⟩:=run_findKey hT.key M he w (k:=k)
 cases o with
 |none=>
  refine Xj hg ?_<|kk _<|AR gd hi hh (es':=es.push {key:=KV.enc k,val:=u,born:=clock}) (c':=clock+1) ⟨r,_,_,rfl,⟨?_,by rw[Array.toList_push];exact hst.push k x rfl⟩,rfl⟩
  ·simp[execOp,hx,hk,hv,Instr.mapUpdate,run_underlying hT.z5,MapKept.run_getObj_map hb,hT.key.QI,ho,MapKept.run_setObj_map _ hb]
  grind [Array.toList_push,nc.push]
 |some ay=>
  obtain⟨a,y⟩:=ay;obtain⟨x',h1,h2,h3,en,h4,h5⟩:=hs';have h4':es[a]? =some en:=by grind
  have hstay:(Instr.keyThatStays (KV.enc k)<|KV.enc k).run P w = .ok (KV.enc k) w:=by simp[Instr.keyThatStays,hT.key.bits]
  refine Xj hg ?_<|kk _<|AR gd hi hh (es':=es.modify a λe=>{e with key:=KV.enc k,val:=u}) (c':=clock) ⟨r,_,_,rfl,⟨?_,by rw[Array.toList_modify];exact hst.modify k x (f:=λe=>{e with key:=KV.enc k,val:=u}) (λ_=>rfl) a⟩,rfl⟩
  ·simp[execOp,hx,hk,hv,Instr.mapUpdate,run_underlying hT.z5,MapKept.run_getObj_map hb,hT.key.QI,ho,MapKept.run_setObj_map _ hb,h4',h5,hstay]
  simp_all[Array.toList_modify,nc.modify]
end
@[reducible] def instKVvia{α β:Type}[GT β][KV β](f:α->β): @KV α (GT.via f):= @KV.mk α (GT.via f) (λx=>KV.cs<|f x) (λh=>KV.spec h)<|λM x=>KV.ok M<|f x
theorem vg.str{P:bP}{kt:bR}(h:P.underlying kt=some .string):vg P kt cN where
 QI b k w:=MapKept.run_checkKey h (k:=Gk.str k) trivial b 9999
 eq a b w:=nS (d:=9999) h a b w
 now:= .inl λa b=>⟨_,h,by show some ((⟨a.dA.toArray⟩:ByteArray)==⟨b.dA.toArray⟩)=_;rw[Jc]⟩
 bits a:=MapKept.sameBits_self (d:= .string) (k:=Gk.str a) trivial _
theorem vg.int{P:bP}{kt:bR}(h:P.underlying kt=some (.int .i64)):vg P kt Int where
 QI b k w:=MapKept.run_checkKey h (k:= .int .i64 k) rfl b 9999
 eq a b w:=(kE (d:=9999) h a b w).trans (by rfl)
 now:= .inl λa b=>⟨_,h,by rfl⟩
 bits a:=MapKept.sameBits_self (d:= .int .i64) (k:= .int .i64 a) rfl _
inductive OZ (P:bP) (n:Nat) (xs:bB aV):aL Field->Prop
 |nil:OZ P n xs []
 |cons {f:Field} {l:aL Field} {x:aV} (hn:f.name≠ "_") (hx:∀w,(part f.type xs f.offset).run P w = .ok x w) (hc:∀b w,(Instr.checkKey b n f.type x).run P w = .ok () w) (h:OZ P n xs l):OZ P n xs (f::l)
theorem xe{P:bP}{T:bR}{fs:bB Field}{xs:bB aV}{n:Nat}(hu:P.underlying T=some (.struct fs))(h:OZ P n xs fs.toList)(b:Bool)(w:aW):
  (Instr.checkKey b (n+1) T<|.agg xs).run P w = .ok () w:=by
 obtain⟨l⟩:=fs;rw[Instr.checkKey];simp only[aR,run_underlying hu,bC,List.forIn_toArray];simp only at h;clear hu
 induction h with
 |nil=>simp
 | @cons f l x hn hx hc h ih=>
  simp only[List.forIn_cons,hn,ne_eq,not_false_eq_true,if_true,aR,hx,hc,bC,bG]
  simp_all
theorem Gj{n:Nat}{cs:aL aV}(h:∀x∈cs,Instr.sameBits n x x=true):Instr.sameBits (n+1) (.agg cs.toArray) (.agg cs.toArray)=true:=by
 rw[Instr.sameBits];simp only[beq_self_eq_true,Bool.true_and,mQ];intro p hp;have:∀(l:aL aV)(p:aV×aV),p∈l.zip l->p.1=p.2/\p.1∈l:=by
  intro l
  induction l with
  |nil=>simp
  |cons a l ih=>
   grind [List.zip_cons_cons]
 grind
theorem vg.struct{κ:Type}[GT κ][KV κ][DecidableEq κ]{P:bP}{T:bR}{fs:bB Field}(hu:P.underlying T=some (.struct fs))(hag:GT.agg κ=true)(hE:NU P T κ)
  (hc:∀k:κ,OZ P 9999 (KV.cs k).toArray fs.toList) (hb:∀(k:κ),∀x∈KV.cs k,Instr.sameBits 9999 x x=true):vg P T κ:=by
 have he:∀k:κ,KV.enc k = .agg (KV.cs k).toArray:=λk=>by grind [KV.enc,u4]
 refine⟨λb k w=>?_,λa b w=>?_, .inr ⟨_,hu,λa b=>?_⟩,λa=>?_⟩
 ·grind [xe]
 ·exact hE.eq rX _ _ a b w (KV.ok rX a)<|KV.ok rX b
 ·rfl
 grind [Gj]
theorem yT{ν:Type}[GT ν]{P:bP}{et:bR}(Z:aV){z0:ν}(hz:∀M,xH M Z z0)(h:(P.info? et).bind (·.zero)=some Z:=by kernel_rfl):∃inf z,P.info? et=some inf/\inf.zero=some z/\∀M,xH M z z0:=by
 cases e:P.info? et with
 |none=>grind
 |some inf=>grind
theorem HV.of{α:Type}[GT α]{P:bP}{e:bR}(Z:aV){z0:α}(hz:∀M,GT.ok M Z.cells.toList z0)(h:(P.info? e).bind (·.zero)=some Z:=by kernel_rfl):HV P e z0:=λM z hh=>by
 rw[h]at hh;injection hh with hh;subst hh;exact hz M
section
variable {P:bP}{n:Nat}{U:Nat->aV}{w:aW}{Q:gv}{ops:bB bL}{rest:aL bL}{d:Nat}{ty t u:bR}{pos:String}{af:bB Edge}{g:aU (Nat×Bool)}{q r:bK}{K:IntKind}{a b:Int}
theorem Xb(a b:Int)(kk:RL P n ops rest (eG U d<|.int K (if b<a then b else a)) w Q)(hg:Wn ops U g:=by exact trivial)(hd:Nat.blt d n=true:=by exact rfl)(hx:ev U q = .int K a:=by exact rfl)(hy:ev U r = .int K b:=by exact rfl):
  RL P n ops (⟨some d, .call ⟨.builtin .min,#[q,r],#[t,u]⟩,ty,pos,af,g⟩::rest) U w Q:=by
 refine Wf hg hd ?_ kk;simp[execOp,resolve,hx,hy,invoke,builtin,Builtin.min_,Builtin.min2]
theorem Xc{f:Fn}{args:bB bK}(vs:aL aV)(kk:RL P n ops rest (eG U d<|.func f #[] vs.toArray) w Q)(hg:Wn ops U g:=by exact trivial)(hd:Nat.blt d n=true:=by exact rfl)(hvs:args.toList.map (ev U)=vs:=by exact rfl):RL P n ops (⟨some d, .makeFunc f #[] args,ty,pos,af,g⟩::rest) U w Q:=by
 have e:args.map (ev U)=vs.toArray:=by grind
 refine Wf hg hd ?_ kk
 simp_all[execOp,Instr.makeFunc]
end
@[reducible] def vi(n:Int):aV:= .int .i64 n
@[reducible] def vb(b:Bool):aV:= .bool b
@[reducible] def vp(b o:Nat):aV:= .pointer<|some ⟨b,o,none⟩
section
variable {P:bP}{n:Nat}{U:Nat->aV}{w:aW}{Q:gv}{y:Code}{ops:bB bL}{rest:aL bL}{d:Nat}{ty T T':bR}{pos:String}{af:bB Edge}{q r:bK}{K:IntKind}{id:Nat}{l:aL bL}
theorem mv(v:aV)(k:RL P n ops rest (eG U d v) w Q)(hd:Nat.blt d n=true:=by exact rfl)(hx:ev U q=v:=by exact rfl):RL P n ops (⟨some d, .move q,ty,pos,af,none⟩::rest) U w Q:=VK (hd:=hd) (hx:=hx) _ trivial k
theorem dN(v:aV)(k:RL P n ops rest (eG U d v) w Q)(hd:Nat.blt d n=true:=by exact rfl)(hx:ev U q=v:=by exact rfl):RL P n ops (⟨some d, .assign q,ty,pos,af,none⟩::rest) U w Q:=X9 trivial hd hx k
theorem ic{bop:BinOp}(a b:Int)(k:RL P n ops rest (eG U d<|.bool<|i7 bop a b) w Q)(hd:Nat.blt d n=true:=by exact rfl)(hx:ev U q = .int K a:=by exact rfl)(hy:ev U r = .int K b:=by exact rfl)(hc:xI bop=true:=by exact rfl):
  RL P n ops (⟨some d, .binOp bop T q r T',ty,pos,af,none⟩::rest) U w Q:=Ws (hd:=hd) (hx:=hx) (hy:=hy) (hc:=hc) _ _ trivial k
theorem sk{op:Op}{j t:Nat}{b:Bool}(ht:(ops[j]?).bind (·.dst)=some t)(hv:U t = .bool (!b)\/U t=undef)(hd:Nat.blt d n=true)
  (k:RL P n ops rest (eG U d undef) w Q):RL P n ops (⟨some d,op,ty,pos,af,some (j,b)⟩::rest) U w Q:=XL ht hv hd k
theorem cb{a b:Bool}(h:a=b):Value.bool a = .bool b:=by rw[h]
theorem w_(h:RL P n l.toArray l U w (nY P n y Q)):RC P n (.seq (.region id l.toArray false) y) U w Q:=IS<|BY h
theorem AS(h:RC P n y U w Q):RL P n ops [] U w (nY P n y Q):=By<|aD h
theorem IN{z:Code}(h:RL P n l.toArray l U w (nY P n z Q)):RL P n ops [] U w (nY P n (.seq (.region id l.toArray false) z) Q):=AS<|w_ h
theorem IT{z:Code}(h:RC P n y U w (nY P n z Q)):RL P n ops [] U w (nY P n (.seq y z) Q):=AS<|IS h
theorem V4(h:Q .ret U w):RC P n .ret U w (nY P n y Q):=VN<|bJ h
theorem Wm(h:Q .ret U w):RC P n .ret U w (z6 id Q):=VN<|fU h
theorem WL(h:RC P n y U w Q):RC P n .skip U w (nY P n y Q):=Wc<|aD h
theorem We{z:Code}(h:RC P n y U w (nY P n z Q)):RC P n .skip U w (nY P n (.seq y z) Q):=WL<|IS h
theorem Ww{z:Code}(h:RL P n l.toArray l U w (nY P n z Q)):RC P n .skip U w (nY P n (.seq (.region id l.toArray false) z) Q):=WL<|w_ h
theorem Wp{i:Nat}(h:Q (.exit i) U w):RC P n (.exit i) U w (nY P n y Q):=Yt<|NS h
theorem VW{b:Nat}(h:RL P n l.toArray l U w (nY P n y<|z6 b Q)):RC P n (.block b<|.seq (.region id l.toArray false) y) U w Q:=WM<|w_ h
theorem ac{d:Nat}{v:aV}{l:aL (Nat×aV)}(h:U d=v)(hl:agree U l):agree U ((d,v)::l):=⟨h,hl⟩
theorem az:agree U []:=trivial
theorem oi{α:Type}{a b:α}(h:some a=some b):a=b:=by injection h
end
theorem Fo.LI{S R β:Type}(s:S)(f:S->β)(g:R->β):(Fo.go s:Fo S R).cs f g=f s:=rfl
def bc(e:bR)(g:Nat)(vs:aL aV):HP:=⟨λ_ h=>(∀v∈vs,v.oneCell'=true)/\h=Gk.one g (.cells vs.toArray e (0,0)),λ_ h=>h⟩
def U6{α:Type}[GT α](vs:aL aV)(x:α):HP:=⟨λM h=>GT.ok M vs x/\h=rX,λk⟨a,b⟩=>⟨GT.mono k a,b⟩⟩
structure QQ (P:bP) (T:bR) (zs:aL aV):Prop where
 z:∃z,(∀w,(zeroValue T).run P w = .ok z w)/\z.cells=zs.toArray
theorem Tp:∀{cs:aL aV}(_:cs.length=4),∃v1 v2 v3 v4:aV,cs= [v1,v2,v3,v4]
 | [v1,v2,v3,v4],_=>⟨v1,v2,v3,v4,rfl⟩
section
variable {α β:Type}[GT α][GT β]{E w:aW}{V:aL HP}{i j:Nat}{v:aV}{x:α}{e e':bR}{b:Nat}{vs:aL aV}
theorem km{l:aL α}(i:Nat)(h:Holds E w V)(hi:V[i]? =some (own e v l):=by exact rfl):v.oneCell'=true:=by
 obtain⟨M,hs,g⟩:=h;exact LG<|g.sat i _ hi
theorem Bz{l:aL α}(i:Nat)(h:Holds E w V)(hi:V[i]? =some (rd v l)):v.oneCell'=true:=by
 obtain⟨a,cap,rfl⟩:=h.slice hi;rfl
theorem LJ{κ ν:Type}[GT κ][KV κ][GT ν]{m:aL (κ×ν)}(i:Nat)(h:Holds E w V)(hi:V[i]? =some (mp v m)):v.oneCell'=true:=by
 obtain⟨M,hs,g⟩:=h;obtain⟨r,es,c,rfl,_⟩:=g.sat i _ hi;rfl
theorem Holds.jy{cs:aL aV}{k:Nat}{f:α->β}(h:Holds E w V)(hi:V[i]? =some (U6 cs x))(hF:Fd k f)(hv:cs[k]? =some v)(hs:GT.sz β=1)(ha:GT.agg β=false):Holds E w (rd v (f x)::V):=by
 obtain⟨M,hs',g⟩:=h;obtain⟨ho,_⟩:=g.sat i _ hi;refine⟨M,_,g.ga ⟨?_,rfl⟩⟩;have h1:=hF M cs x ho;obtain⟨hlt,rfl⟩:=bN.1 hv;have h2:(cs.drop k).take (GT.sz β)= [cs[k]]:=by
  grind [oy]
 rw[h2]at h1;refine⟨_,?_,h1⟩
 grind [u4]
theorem Holds.LK(h:Holds E w V)(hi:V[i]? =some (bc e b vs))(ho:∀M hs,Good E w M hs V->GT.ok M vs x):Holds E w (V.set i<|bx e b x):=by
 obtain⟨M,hs,g⟩:=h;obtain⟨_,hh⟩:=g.sat i _ hi;have hlt:=dK hi;refine⟨M,hs,g.os,g.tape,g.out,g.dr,g.im,λk Q hq=>?_,λk b o hk=>g.le k b o (by grind),λk b o hk=>g.dm k b o (by grind),λk l b o hk hl=>g.dj k l b o (by grind) (by grind)⟩;rw[lk]at hq;split at hq
 ·rename_i e1;subst e1;simp[hlt]at hq;subst hq;exact⟨vs,ho M hs g,hh⟩
 ·exact g.sat k Q hq
theorem vh{M:dZ}(h:xH M v x)(ha:GT.agg α=false:=by exact rfl):GT.ok M [v] x:=by
 obtain⟨cs,rfl,ho⟩:=h;have hl:=GT.len ho;rw[GT.ag1 ha]at hl
 match cs,hl with
 | [c],_=>grind [u4]
end
section
variable {P:bP}{n:Nat}{U:Nat->aV}{w:aW}{Q:gv}{E:aW}{V:aL HP}{i j:Nat}
variable {ops:bB bL}{rest:aL bL}{d:Nat}{ty T T' e:bR}{pos:String}{af:bB Edge}{g:aU (Nat×Bool)}{v v':aV}{q r:bK}{b m:Nat}{vs:aL aV}
theorem VY(i:Nat)(v:aV)(hw:Holds E w V)(hT:kR P T false 1)(k:RL P n ops rest (eG U d v) w Q)(hg:Wn ops U g:=by first|exact trivial|exact⟨_,rfl,rfl⟩|exact⟨_,rfl,Gk.cb ‹_›⟩)(hd:Nat.blt d n=true:=by exact rfl)(hx:ev U q = .pointer (some ⟨b,m,none⟩):=by exact rfl)(hi:V[i]? =some (bc e b vs):=by exact rfl)(hv:vs[m]? =some v:=by exact rfl):RL P n ops (⟨some d, .load T q,ty,pos,af,g⟩::rest) U w Q:=by
 obtain⟨M,hs,gd⟩:=hw;obtain⟨_,hh⟩:=gd.sat i _ hi;have hb:=gd.le i b _ (dK hi) (by rw[hh];exact cT b _);have hc:w.cell? ⟨b,m,none⟩=some v:=by rw[cell_of_row w b _ _ _ _ hb];grind
 refine Wf (v:=v) hg hd ?_ k;simp[execOp,hx,Instr.loadAt,Instr.sureAddr,loadVar,hT.Ki,load,Sem.run,hc]
theorem W0(i:Nat)(v:aV)(hw:Holds E w V)(hi:V[i]? =some (bc e b vs))(hv:vs[m]? =some v')(h1:v.oneCell'=true)(hT:kR P T false 1)(k:∀w',Holds E w' (V.set i<|bc e b<|vs.set m v)->RL P n ops rest U w' Q)(hg:Wn ops U g:=by exact trivial)(hx:ev U q = .pointer (some ⟨b,m,none⟩):=by exact rfl)(hy:ev U r=v:=by exact rfl):RL P n ops (⟨none, .store T q r,ty,pos,af,g⟩::rest) U w Q:=by
 obtain⟨M,hs,gd⟩:=hw;obtain⟨hone,hh⟩:=gd.sat i _ hi;have hlt:=(bN.1 hv).1;have hb:=gd.le i b _ (dK hi) (by rw[hh];exact cT b _);have hcv:v.cells = #[v]:=by cases v <;> first|rfl|(cases h1)
 have hrun:=oA (P:=P) (v:=v) (o:=m) hT.sz (by rw[hcv];rfl) (by grind) hb (by simp;omega);have hl:(vs.toArray.toList.take m++v.cells.toList++vs.toArray.toList.drop (m+1)).toArray=(vs.set m v).toArray:=by
  grind [List.set_eq_take_append_cons_drop]
 rw[hl]at hrun;refine Xj (w':=w.setRow b (vs.set m v).toArray) hg ?_<|k _<|mx gd hi hh ⟨λu hu=>?_,rfl⟩
 ·simp_all[execOp,Instr.storeAt,Instr.sureAddr,aR,bG,bC]
 grind
theorem Xz{zs:aL aV}(hd:Nat.blt d n=true)(hw:Holds E w V)(hz:QQ P T zs)(h1:zs.all (·.oneCell')=true)(k:∀b w',Holds E w' (bc T b zs::V)->RL P n ops rest (eG U d<|.pointer<|some ⟨b,0,none⟩) w' Q)(hg:Wn ops U g:=by exact trivial):RL P n ops (⟨some d, .alloc T,ty,pos,af,g⟩::rest) U w Q:=by
 obtain⟨z,hz,hs⟩:=hz.z;refine Wf (w':=w.alloc<|.cells z.cells T) hg hd ?_<|k w.heap.size _<|hw.alloc _ λ_ _ _=>⟨λv hv=>mQ.1 h1 v hv,by rw[hs]⟩
 simp only[execOp,Instr.alloc,newVar,newRow,newObj,aR,bG,hz,bC];rfl
theorem Ye(v:aV)(hg:Wn ops U g)(hd:Nat.blt d n=true)(hw:Holds E w V)(hx:ev U q=v)(h1:v.oneCell'=true)(k:∀b w',Holds E w' (bc T b [v]::V)->RL P n ops rest (eG U d<|.pointer<|some ⟨b,0,none⟩) w' Q):RL P n ops (⟨some d, .box T q,ty,pos,af,g⟩::rest) U w Q:=by
 have hc:v.cells = #[v]:=by cases v <;> first|rfl|(cases h1)
 refine Wf (w':=w.alloc<|.cells #[v] T) hg hd ?_<|k w.heap.size _<|hw.alloc _ λ_ _ _=>⟨λu hu=>by grind,rfl⟩
 simp only[execOp,hx,Instr.box,newVar,newRow,newObj,aR,bG,hc];rfl
theorem Wg{a:Addr}(hg:Wn ops U g)(hd:Nat.blt d n=true)(hx:ev U q = .pointer (some a))(k:RL P n ops rest (eG U d<|.pointer<|some a) w Q):RL P n ops (⟨some d, .nilCheck q,ty,pos,af,g⟩::rest) U w Q:=by
 refine Wf hg hd ?_ k
 simp_all[execOp]
end
structure Vj where
 n:Int
 deriving DecidableEq,Inhabited
instance:Sc Vj:=⟨λx=> .int .i32 x.n,λ_=>rfl⟩
def bs(s:cN):ByteArray:=⟨s.dA.toArray⟩
def it(g:Nat)(s:cN)(p:Nat):HP:=⟨λ_ h=>h=Gk.one g (.stringIter (bs s) p),λ_ h=>h⟩
def Gl(places:aL (Nat×Nat)):aL aV->aL (Nat×aV)->aU (aL aV)
 |z,[]=>some z
 |z,(i,v)::rest=>match places[i]? with
  |some (o,1)=>if Nat.blt o z.length=true then Gl places (z.set o v) rest else none
  |_=>none
def PI:aL (Nat×aV)->Prop
 | []=>True
 |(_,v)::l=>v.oneCell'=true/\PI l
theorem Gm{places:aL (Nat×Nat)}:∀{vs:aL (Nat×aV)}{z cs:aL aV},PI vs->Gl places z vs=some cs->Instr.fill (places.toArray[·]?) z.toArray vs=some cs.toArray
 | [],z,cs,_,h=>by
  unfold Gl at h;injection h with h;subst h;rfl
 |(i,v)::rest,z,cs,h1,h=>by
  unfold Gl at h;unfold Instr.fill;have hc:v.cells = #[v]:=by have:=h1.1;cases v <;> first|rfl|(cases this)
  split at h
  ·rename_i o he;split at h
   ·rename_i hlt;have hlt':o<z.length:=Nat.blt_eq▸hlt;have hp:places.toArray[i]?=some (o,1):=by simpa using he
    simp only[hp,hc];rw[aF (by simp;omega)];have:=Gm h1.2 h;simpa using this
   ·cases h
  ·cases h
section
variable {P:bP}{n:Nat}{U:Nat->aV}{w:aW}{Q:gv}{E:aW}{V:aL HP}{i j:Nat}
variable {ops:bB bL}{rest:aL bL}{d:Nat}{ty T e:bR}{pos:String}{af:bB Edge}{g:aU (Nat×Bool)}{q r:bK}{b m:Nat}{vs cs zs:aL aV}
theorem Yf{parts:bB (Nat×bK)}{places:aL (Nat×Nat)}(hg:Wn ops U g)(hd:Nat.blt d n=true)(vs:aL (Nat×aV))
  (hvs:parts.toList.map (λp=>(p.1,ev U p.2))=vs) (hT:x0 P T places zs.toArray) (h1:PI vs) (hf:Gl places zs vs=some cs)
  (k:RL P n ops rest (eG U d<|.agg cs.toArray) w Q):RL P n ops (⟨some d, .build T parts,ty,pos,af,g⟩::rest) U w Q:=by
 have e1:parts.map (λ(i,x)=>(i,ev U x))=vs.toArray:=by grind
 refine Wf (v:= .agg cs.toArray) hg hd ?_ k;simp only[execOp,aR];rw[e1,hT.run]
 grind [Gm,bC,bG]
theorem Holds.LN{α:Type}[GT α]{x:α}(h:Holds E w V)(ho:∀M hs,Good E w M hs V->GT.ok M cs x)(ha:GT.agg α=true):Holds E w (rd (.agg cs.toArray) x::V):=
 h.BS λM hs g=>⟨⟨cs,by grind [u4],ho M hs g⟩,rfl⟩
def Gn:aL aV->Prop
 | []=>True
 |v::l=>v.oneCell'=true/\Gn l
theorem Gn.all:∀{l:aL aV},Gn l->∀v∈l,v.oneCell'=true
 |v::l,h,u,hu=>by
  rcases eV.1 hu with h'|h'
  ·subst h';exact h.1
  ·exact Gn.all h.2 u h'
end
theorem vk{P:bP}{t u ty e:bR}{w:aW}(i:TypeInfo)(z:aV)(ht:P.underlying t=some (.slice e))(hu:P.underlying u=some (.int .i64))(hi:P.info? e=some i)(hz:i.zero=some z)
  (n:Nat) (h0:0<n) (h63:(n:Int)<=140737488355328) (h48:n*i.bytes<=140737488355328) (hsz:0<i.size):
  (Builtin.append_ #[t,u] ty #[.slice none 0 0, .int .i64 (n:Int)]).run P w =
   .ok (.slice (some ⟨w.heap.size,0,none⟩) n<|grownCap w n 0 e) (w.drew.alloc<|.cells (Builtin.zeroCells z.cells n++Builtin.zeroCells z.cells (grownCap w n 0 e - n)) e):=by
 have hn:n≠0:=by omega
 have h63':¬(9223372036854775807<(n:Int)):=by omega
 have h48':¬(281474976710656<Builtin.nextslicecap n 0*i.bytes):=by grind [nextslicecap_zero]
 have hw:IntKind.i64.wrap (n:Int)=(n:Int):=fB (by omega) (by omega);have hneg:¬((n:Int)<0):=by omega
 have hbig:¬(281474976710656<(n:Int)*(i.bytes:Int)):=by
  omega
 have hs:¬(n=0\/i.size=0):=by omega
 simp[Builtin.append_,run_underlying ht,run_underlying hu,sizeOf,typeInfo,zeroValue,hi,hz,asInt,asIntOf,hw,hneg,hbig,hn,h63',h48',hs,Question.forced,run_firstCells_none,newRow,grownCap];have hp:=Nat.mul_pos h0 hsz;omega
def HW{α:Type}(bytes:Nat)(z:α)(n:Int):aU (aL α):=if 0<n/\n*bytes<=140737488355328 then some (List.replicate n.toNat z)else none
section
variable {α:Type}[GT α]{P:bP}{n:Nat}{U:Nat->aV}{w:aW}{Q:gv}{E:aW}{V:aL HP}{i j:Nat}
variable {ops:bB bL}{rest:aL bL}{d:Nat}{ty T t u e:bR}{pos:String}{af:bB Edge}{g:aU (Nat×Bool)}{v:aV}{q r:bK}{l l':aL α}{z0:α}{bytes:Nat}{k:Int}
theorem Yg(k:Int)(hg:Wn ops U g)(hd:Nat.blt d n=true)(hw:Holds E w V)(hx:ev U q = .slice none 0 0)(hy:ev U r = .int .i64 k)(hT:uJ P t e (GT.sz α) bytes)(hu:P.underlying u=some (.int .i64))(hz0:HV P e z0)(hb:Gk.HW bytes z0 k=some l')(kk:∀v w',Holds E w' (own e v l'::V)->RL P n ops rest (eG U d v) w' Q):RL P n ops (⟨some d, .call ⟨.builtin .append,#[q,r],#[t,u]⟩,ty,pos,af,g⟩::rest) U w Q:=by
 obtain⟨inf,z,hi,hz,hsz,hby,hzs⟩:=hT.inf;unfold Gk.HW at hb;split at hb
 case isFalse=>cases hb
 rename_i hc;injection hb with hb
 subst hb;obtain⟨m,rfl⟩:=Int.eq_ofNat_of_zero_le<|Int.le_of_lt hc.1
 rw[cR]at kk;have h0:0<m:=by omega
 have h1:m*bytes<=140737488355328:=by omega
 have h2:m<=140737488355328:=mc (Nat.le_mul_of_pos_right _ hT.pos) h1;have hszp:0<inf.size:=by grind [GT.pos]
 have hr:=vk (P:=P) (t:=t) (u:=u) (ty:=ty) (e:=e) (w:=w) inf z hT.z5 hu hi hz m h0 (by omega) (by grind) hszp;have hge:=grownCap_ge w m 0 e;have hcm:grownCap w m 0 e<=maxLen:=grownCap_le_maxLen w m 0 e (by grind [maxLen]);refine Wf (v:= .slice (some ⟨w.heap.size,0,none⟩) m<|grownCap w m 0 e) (w':=w.drew.alloc<|.cells (Builtin.zeroCells z.cells m++Builtin.zeroCells z.cells (grownCap w m 0 e - m)) e) hg hd ?_<|kk _ _<|hw.drew.alloc _ λM hs gd=> .inr ⟨w.heap.size,0,grownCap w m 0 e,Builtin.zeroCells z.cells m++Builtin.zeroCells z.cells (grownCap w m 0 e - m),_,by rw[List.length_replicate],by grind,hcm,rfl,?_,rfl,?_⟩
 ·grind [execOp,resolve,invoke,builtin,aR,bG,bC]
 ·simp only[Array.size_append,size_zeroCells,hzs,gL,<-Nat.add_mul]
  grind
 ·have hok:=hz0 M z (by grind);have hml:(Builtin.zeroCells z.cells m).toList.length=m*GT.sz α:=by grind [Array.length_toList,size_zeroCells]
  have hdt:((Builtin.zeroCells z.cells m++Builtin.zeroCells z.cells (grownCap w m 0 e - m)).toList.drop 0).take ((List.replicate m z0).length*GT.sz α)=(Builtin.zeroCells z.cells m).toList:=by
   grind
  rw[hdt];refine⟨by rw[hml,List.length_replicate],λa x hx=>?_⟩;rw[List.getElem?_replicate]at hx;split at hx
  ·rename_i ha;injection hx with hx
   subst hx;have hms:=rn (sz:=GT.sz α) ha;have:(List.drop (a*GT.sz α) (Builtin.zeroCells z.cells m).toList).take (GT.sz α)=z.cells.toList:=by
    apply List.ext_getElem?;intro t;have hzl:z.cells.toList.length=GT.sz α:=by omega
    simp only[gZ,j7]
    by_cases ht:t<GT.sz α
    ·have hlt:a*GT.sz α+t<(Builtin.zeroCells z.cells m).size:=by rw[size_zeroCells,hzs];omega
     rw[aH ht,Array.getElem?_toList,iI hlt,aM (show t<z.cells.toList.length by omega)];simp only[Builtin.zeroCells,Array.getElem_map,Array.getElem_range,hzs];have hmod:(a*GT.sz α+t) % GT.sz α=t:=by rw[Nat.mul_comm,Nat.mul_add_mod,Nat.mod_eq_of_lt ht]
     rw[hmod];rw[getElem!_pos z.cells t (by omega)];simp
    ·rw[aF ht,List.getElem?_eq_none (by omega)]
   rw[this];exact hok
  ·cases hx
theorem XE(hd:Nat.blt d n=true)(hx:ev U q = .slice none 0 0)(ht:P.underlying t=some (.slice e))(k:RL P n ops rest (eG U d<|.int .i64 (0:Nat)) w Q)(hg:Wn ops U g:=by exact trivial):RL P n ops (⟨some d, .call ⟨.builtin .cap,#[q],#[t]⟩,ty,pos,af,g⟩::rest) U w Q:=by
 refine Wf hg hd ?_ k;simp[execOp,resolve,hx,invoke,builtin,Builtin.cap_,run_underlying ht,goInt]
theorem Yh(α:Type)[GT α]{lop hip:aU bK}{lo hi:Int}(hg:Wn ops U g)(hd:Nat.blt d n=true)(hx:ev U q = .slice none 0 0)(hT:uI P T e (GT.sz α))(hl:lop.map (ev U)=some (.int .i64 lo)\/(lop.map (ev U)=none/\lo=0))(h0:lo=0)(h1:hi=0)(k:RL P n ops rest (eG U d<|.slice none 0 0) w Q)(hh:hip.map (ev U)=some (.int .i64 hi)\/(hip.map (ev U)=none/\hi=(0:Nat)):=by exact(.inl rfl)):
  RL P n ops (⟨some d, .slice T q lop hip none,ty,pos,af,g⟩::rest) U w Q:=by
 subst h0;subst h1;refine Wf hg hd ?_ k;have:=wH (P:=P) (α:=α) (m:=0) (cap:=0) (a:=none) hT hl hh (Int.le_refl _) (Int.le_refl _) (Int.le_refl _) (bW _) w
 grind [execOp,aR,bC,bG]
def NZ(v:aV):Bool:=match v with| .slice none _ _=>true|_=>false
theorem HX{d:Nat}(hu:P.underlying T=some (.slice e))(a:aU Addr)(m c:Nat)(w:aW):(Op.equalIn (d+1) T (.slice a m c)<|.slice none 0 0).run P w = .ok (NZ<|.slice a m c) w:=by
 unfold Op.equalIn;rw[aR,run_underlying hu,bC]
 cases a <;> rfl
theorem YC{T':bR}(hg:Wn ops U g)(hd:Nat.blt d n=true)(hw:Holds E w V)(hx:ev U q=v)(hy:ev U r = .slice none 0 0)(hi:V[i]? =some (rd v l))(hT:P.underlying T=some (.slice e))
  (k:RL P n ops rest (eG U d<|.bool<|NZ v) w Q):RL P n ops (⟨some d, .binOp .eql T q r T',ty,pos,af,g⟩::rest) U w Q:=by
 obtain⟨a,cap,rfl⟩:=hw.slice hi;refine W7 (hg:=hg) (he:=λ_=>by rfl) (hr:=λw=>?_) _ _ _ hd hx hy k
 grind [HX,binOp,aR,Op.equal,Op.maxDepth,bC,bG]
theorem Holds.Tq(hw:Holds E w V)(hi:V[i]? =some (rd v l))(hn:NZ v=true):l= []:=by
 obtain⟨M,hs,gd⟩:=hw;obtain⟨a,m,cap,hv,hm,hc,hx,hel⟩:=mu.1 (gd.sat i _ hi).1;subst hv
 cases a with
 |some a=>cases hn
 |none=>
  cases l with
  |nil=>rfl
  |cons y l=>
   obtain⟨ad,cs,ha,_⟩:=hel 0 y rfl
   cases ha
end
section
variable {P:bP}{n:Nat}{U:Nat->aV}{w:aW}{Q:gv}{E:aW}{V:aL HP}{i j:Nat}
variable {ops:bB bL}{rest:aL bL}{d:Nat}{ty T T' t u e:bR}{pos:String}{af:bB Edge}{g:aU (Nat×Bool)}{v:aV}{q r:bK}{K:IntKind}{a b:Int}
theorem XF(a b:Int)(hd:Nat.blt d n=true)(hx:ev U q = .int K a)(hy:ev U r = .int K b)(h0:(b==0)=false)(k:RL P n ops rest (eG U d<|.int K<|K.wrap<|Int.tdiv a b) w Q)(hg:Wn ops U g:=by exact trivial):RL P n ops (⟨some d, .binOp .quo T q r T',ty,pos,af,g⟩::rest) U w Q:=by
 have hb:b≠0:=by grind
 refine W7 (hg:=hg) (hr:=λw=>?_) _ _ _ hd hx hy k
 grind [binOp,not_true,Op.intDiv,bG]
theorem W8(a b:Int)(kk:RL P n ops rest (eG U d<|.int K (if a<b then b else a)) w Q)(hg:Wn ops U g:=by exact trivial)(hd:Nat.blt d n=true:=by exact rfl)(hx:ev U q = .int K a:=by exact rfl)(hy:ev U r = .int K b:=by exact rfl):
  RL P n ops (⟨some d, .call ⟨.builtin .max,#[q,r],#[t,u]⟩,ty,pos,af,g⟩::rest) U w Q:=by
 refine Wf hg hd ?_ kk;simp[execOp,resolve,hx,hy,invoke,builtin,Builtin.max_,Builtin.max2]
def vw(v:aV)(lo sz:Nat):aV:=match v with| .slice a m cap=> .slice (if cap=lo then a else a.map (·.add (lo*sz))) (m - lo) (cap - lo)|_=>undef
def HY{α:Type}(l:aL α)(lo j:Int):aU α:=if 0<=j then idx l (lo+j)else none
theorem ke{α:Type}{l:aL α}{lo j:Int}{x:α}(h:HY l lo j=some x):0<=j/\idx l (lo+j)=some x:=by
 grind [HY]
variable {α:Type}[GT α]{l:aL α}{lo hi:Int}{x z0:α}{bytes:Nat}
theorem XW{lop:aU bK}{l':aL α}(i:Nat)(lo:Int)(hd:Nat.blt d n=true)(hw:Holds E w V)(hx:ev U q=v)(hi':V[i]? =some (own e v l))(hT:uI P T e (GT.sz α))(hb:xd l lo (l.length:Nat)=some l')(k:RL P n ops rest (eG U d<|vw v lo.toNat<|GT.sz α) w Q)(hg:Wn ops U g:=by exact trivial)(hl:lop.map (ev U)=some (.int .i64 lo)\/(lop.map (ev U)=none/\lo=0):=by exact(.inl rfl)):RL P n ops (⟨some d, .slice T q lop none none,ty,pos,af,g⟩::rest) U w Q:=by
 unfold xd at hb;split at hb
 case isFalse=>cases hb
 rename_i hc;obtain⟨a,cap,rfl⟩:=hw.lS hi';obtain⟨M,hs,gd⟩:=hw;have hcap:l.length<=cap:=by
  rcases gd.sat i _ hi' with⟨h1,h2,_⟩|⟨b,o,c,cur,xs,hv,h2,_⟩
  ·grind
  grind
 refine Wf hg hd ?_ k;have:=wH (P:=P) (α:=α) (a:=a) (m:=l.length) (cap:=cap) (hiv:=none) hT hl (.inr ⟨rfl,rfl⟩) hc.1 hc.2.1 (by omega) hcap w;simp only[execOp,hx,aR,Option.map_none,this,bC,bG];rfl
theorem YD{lo:Nat}{T:bR}(hg:Wn ops U g)(hd:Nat.blt d n=true)(hw:Holds E w V)(hx:ev U q=vw v lo (GT.sz α))(hi:V[i]? =some (own e v l))(ht:P.underlying t=some (.slice T))
  (k:RL P n ops rest (eG U d<|.int .i64<|(l.length - lo:Nat)) w Q):RL P n ops (⟨some d, .call ⟨.builtin .len,#[q],#[t]⟩,ty,pos,af,g⟩::rest) U w Q:=by
 obtain⟨a,cap,rfl⟩:=hw.lS hi;exact Xk hg hd hx ht k
theorem XX{jj:Int}(i:Nat)(lo:Int)(hd:Nat.blt d n=true)(hw:Holds E w V)(hx:ev U q=vw v lo.toNat (GT.sz α))(hy:ev U r = .int K jj)(hi:V[i]? =some (own e v l))(hT:uI P T e (GT.sz α))(h0:0<=lo)(hj0:0<=jj)(hj:idx l (lo+jj)=some x)(kk:RL P n ops rest (eG U d<|z9 v (lo+jj).toNat (GT.sz α) 0) w Q)(hg:Wn ops U g:=by exact trivial):
  RL P n ops (⟨some d, .indexAddr T q r,ty,pos,af,g⟩::rest) U w Q:=by
 obtain⟨_,hx',hlt⟩:=eQ hj;obtain⟨M,hs,gd⟩:=hw
 rcases gd.sat i _ hi with⟨rfl,rfl,_⟩|⟨b,o,cap,cur,xs,rfl,h2,_⟩
 ·simp at hlt
 ·have hne:cap≠lo.toNat:=by omega
  simp only[vw,aF hne,Option.map_some]at hx;have e1:z9 (.slice (some ⟨b,o,none⟩) l.length cap) (lo+jj).toNat (GT.sz α) 0 = .pointer (some<|((⟨b,o,none⟩:Addr).add<|lo.toNat*GT.sz α).add<|jj.toNat*GT.sz α):=by
   have:(lo+jj).toNat=lo.toNat+jj.toNat:=by omega
   grind [z9,add_add,Nat.add_mul]
  rw[e1]at kk;refine Wf hg hd ?_ kk;have hlt':jj<((l.length - lo.toNat:Nat):Int):=by omega
  simp only[execOp,hx,hy,Instr.indexAt,asIntOf,aR,bG,bC,run_underlying hT.z5,hT.sz,hj0,hlt',and_self,if_true]
theorem Yi{op:Op}{w':aW}{u:aV}(hg:Wn ops U g)(hrun:(execOp (ev U) ⟨none,op,ty,pos,af,g⟩).run P w = .ok (.value u) w')
  (k:RL P n ops rest U w' Q):RL P n ops (⟨none,op,ty,pos,af,g⟩::rest) U w Q:=by
 intro a ha;unfold wpList;rw[aH<|Wn.wanted (o:=⟨none,op,ty,pos,af,g⟩) hg ha];refine .inl ?_;unfold Oper.wp;rw[ha.ev,hrun];exact k _<|ha.BT _
theorem Yj{lo:Nat}(i:Nat)(hg:Wn ops U g)(hw:Holds E w V)(hx:ev U q=vw v lo (GT.sz α))(hi:V[i]? =some (own e v l))(hT:uJ P t e (GT.sz α) bytes)(hz0:HV P e z0)(hle:lo<=l.length)(kk:∀w',Holds E w' (V.set i<|own e v<|l.take lo++List.replicate (l.length - lo) z0)->RL P n ops rest U w' Q):
  RL P n ops (⟨none, .call ⟨.builtin .clear,#[q],#[t]⟩,ty,pos,af,g⟩::rest) U w Q:=by
 by_cases hem:l.length=lo
 ·have e1:l.take lo++List.replicate (l.length - lo) z0=l:=by rw[<-hem,g8,Nat.sub_self];simp
  rw[e1,yO hi]at kk;obtain⟨a,cap,rfl⟩:=hw.lS hi;refine Yi (u:= .tuple #[]) hg ?_<|kk w hw
  have hv:vw (.slice a l.length cap) lo (GT.sz α) = .slice (if cap=lo then a else a.map (·.add (lo*GT.sz α))) 0 (cap - lo):=by simp only[vw,hem,Nat.sub_self]
  rw[hv]at hx;generalize (if cap=lo then a else a.map (·.add (lo*GT.sz α)))=a' at hx
  cases a' <;> simp[execOp,resolve,invoke,builtin,Builtin.clear_,hx,run_underlying hT.z5]
 obtain⟨inf,z,hinf,hz,hsz,hby,hzs⟩:=hT.inf;obtain⟨M,hs,gd⟩:=hw
 rcases gd.sat i _ hi with⟨_,rfl,_⟩|⟨b,o,cap,cur,xs,rfl,h2,h3,h4,h5,h6,h7⟩
 ·grind
 have hne:cap≠lo:=by omega
 obtain⟨m,hm⟩:∃m,l.length=lo+(m+1):=⟨l.length - lo - 1,by omega⟩;have hv:vw (.slice (some ⟨b,o,none⟩) l.length cap) lo (GT.sz α) = .slice (some ⟨b,o+lo*GT.sz α,none⟩) (m+1) (cap - lo):=by
  simp only[vw,aF hne,Option.map_some,Addr.add_lit,hm,Nat.add_sub_cancel_left]
 rw[hv]at hx;have hb:=gd.le i b _ (dK hi) (by rw[h4];exact cT b _);have hcap:l.length*GT.sz α<=cap*GT.sz α:=Nat.mul_le_mul_right _ h2;have hcs:o+cap*GT.sz α<=cur.toList.length:=h5;generalize hzl:(Builtin.zeroCells z.cells<|m+1).toList=zl;have hzn:zl.length=(m+1)*GT.sz α:=by rw[<-hzl,Array.length_toList,size_zeroCells,hzs]
 have hlm:l.length*GT.sz α=lo*GT.sz α+(m+1)*GT.sz α:=by rw[hm,Nat.add_mul]
 have hok:∀M',GT.ok M' z.cells.toList z0:=λM'=>hz0 M' z (by rw[hinf];exact hz);have hzg:∀a t,a<m+1->t<GT.sz α->zl[a*GT.sz α+t]? =z.cells.toList[t]? :=λa t ha ht=>by
  have hms:=rn (sz:=GT.sz α) ha;have hlt:a*GT.sz α+t<(Builtin.zeroCells z.cells<|m+1).size:=by rw[size_zeroCells,hzs];omega
  have hzl2:z.cells.toList.length=GT.sz α:=by rw[Array.length_toList];exact hzs
  rw[<-hzl,Array.getElem?_toList,iI hlt,aM (show t<z.cells.toList.length by omega)];simp only[Builtin.zeroCells,Array.getElem_map,Array.getElem_range,hzs];have hmod:(a*GT.sz α+t) % GT.sz α=t:=by rw[Nat.mul_comm,Nat.mul_add_mod,Nat.mod_eq_of_lt ht]
  rw[hmod,getElem!_pos z.cells t (by omega)];simp
 have hfit:o+lo*GT.sz α+zl.length<=cur.toList.length:=by omega
 have h1z:∀u∈zl,u.oneCell'=true:=λu hu=>by
  obtain⟨k,hk⟩:=fA hu;have hkl:=(bN.1 hk).1;have hp:0<GT.sz α:=GT.pos;have hkd:k / GT.sz α<m+1:=Nat.div_lt_of_lt_mul (by rw[Nat.mul_comm];omega);have:=hzg (k / GT.sz α) (k % GT.sz α) hkd<|Nat.mod_lt _ hp
  rw[Nat.mul_comm,Nat.div_add_mod,hk]at this;exact GT.one (hok M) u<|gA this.symm
 have hst:=run_storeCells_at P b (o+lo*GT.sz α) e zl 0 cur w hb (by simpa[hzn]using hfit) h1z;simp only[Nat.add_zero]at hst;have hnew:cur.toList.take (o+lo*GT.sz α)++zl++cur.toList.drop (o+lo*GT.sz α+zl.length)=Gh (o+lo*GT.sz α) zl cur.toList:=rfl;rw[hnew]at hst;have hget:∀t,xs[t]? =if t<l.length*GT.sz α then cur.toList[o+t]? else none:=λt=>by rw[<-h6,gZ,j7]
 have hln:(l.take lo++List.replicate (l.length - lo) z0).length=l.length:=by rw[bO,dD,List.length_replicate];omega
 refine Yi (u:= .tuple #[]) hg ?_ (kk _ (mx (P':=own e (.slice (some ⟨b,o,none⟩) l.length cap) (l.take lo++List.replicate (l.length - lo) z0)) (new:=(Gh (o+lo*GT.sz α) zl cur.toList).toArray) gd hi h4
  (.inr ⟨b,o,cap,_,((Gh (o+lo*GT.sz α) zl cur.toList).drop o).take (l.length*GT.sz α),by rw[hln],by rw[hln];exact h2,h3,rfl,?_,by rw[hln],?_⟩)))
 ·have hzv:∀w,(zeroValue e).run P w = .ok z w:=λw=>by simp[zeroValue,typeInfo,aR,hinf,hz]
  simp[execOp,resolve,invoke,builtin,Builtin.clear_,hx,run_underlying hT.z5,hzv,hzl,hst]
 ·rw[List.size_toArray,ya hfit];exact hcs
 ·refine⟨by rw[dD,f9,ya hfit,hln];omega,λa y hy=>?_⟩;have tK:a<l.length:=by rw[<-hln];exact(bN.1 hy).1
  have has:=rn (sz:=GT.sz α) tK
  by_cases hlt:a<lo
  ·rw[gD (by rw[dD];omega),gZ,aH hlt]at hy;have hok':=h7.2 a y hy;have has2:=rn (sz:=GT.sz α) hlt;have heq:(List.drop (a*GT.sz α)<|((Gh (o+lo*GT.sz α) zl cur.toList).drop o).take<|l.length*GT.sz α).take (GT.sz α)=(List.drop (a*GT.sz α) xs).take (GT.sz α):=by
    apply List.ext_getElem?;intro t;simp only[gZ,j7,yP hfit,hget]
    by_cases ht:t<GT.sz α
    ·rw[aH ht,aH ht,aH (by omega),aH (by omega),aH (by omega)]
    ·rw[aF ht,aF ht]
   rw[heq];exact hok'
  ·rw[fZ (by rw[dD];omega),List.getElem?_replicate]at hy;split at hy
   case isFalse=>cases hy
   injection hy with hy
   subst hy;obtain⟨a',rfl⟩:∃a',a=lo+a':=⟨a - lo,by omega⟩;have ha':a'<m+1:=by omega
   have hms:=rn (sz:=GT.sz α) ha';have heq:(List.drop ((lo+a')*GT.sz α)<|((Gh (o+lo*GT.sz α) zl cur.toList).drop o).take<|l.length*GT.sz α).take (GT.sz α)=z.cells.toList:=by
    apply List.ext_getElem?;intro t;have hzl2:z.cells.toList.length=GT.sz α:=by rw[Array.length_toList];exact hzs
    simp only[gZ,j7,yP hfit];rw[Nat.add_mul]at has ⊢
    by_cases ht:t<GT.sz α
    ·rw[aH ht,aH (by omega),aF (by omega),aH (by omega),<-hzg a' t ha' ht];congr 1;omega
    ·rw[aF ht,List.getElem?_eq_none (by omega)]
   rw[heq];exact hok M
theorem LP{α:Type}{l l':aL α}{lo:Int}(h:xd l lo (l.length:Nat)=some l'):lo.toNat<=l.length:=by
 grind [xd]
theorem HZ{α:Type}{l l':aL α}{lo hi:Int}(h:xd l lo hi=some l'):0<=lo:=by
 grind [xd]
end
def sW(D:Nat->Bool)(U:Nat->aV):aL (Nat×Nat×aV)->Prop
 | []=>True
 |(j,d,v)::r=>(D j=false->U d=v)/\sW D U r
theorem sW.at{D:Nat->Bool}{U:Nat->aV}:∀{dv:aL (Nat×Nat×aV)}(_:sW D U dv)(k:Nat){j d:Nat}{v:aV}(_:dv[k]? =some (j,d,v)),D j=false->U d=v
 | [],_,k,_,_,_,h=>by simp at h
 |(j,d,v)::r,h,0,j',d',v',e=>by simp at e;obtain⟨rfl,rfl,rfl⟩:=e;exact h.1
 |(j,d,v)::r,h,k+1,j',d',v',e=>sW.at h.2 k (by simpa using e)
theorem D2{D:Nat->Bool}{i k:Nat}(h:ins D i k=false):D k=false/\Nat.beq k i=false:=by
 grind [ins,Nat.beq]
theorem sW.no{D:Nat->Bool}{U:Nat->aV}{j:Nat}:∀{dv:aL (Nat×Nat×aV)}(_:sW D U dv),sW (ins D j) U dv
 | [],_=>trivial
 |(i,d,v)::r,h=>⟨λhi=>h.1 (D2 hi).1,sW.no h.2⟩
theorem sW.up{D:Nat->Bool}{U:Nat->aV}{j d:Nat}{v:aV}:∀{dv:aL (Nat×Nat×aV)}(_:sW D U dv)(_:(dv.all λx=>Nat.beq x.1 j|| !Nat.beq x.2.1 d)=true),sW (ins D j) (eG U d v) dv
 | [],_,_=>trivial
 |(i,d',v')::r,h,ha=>by
  simp only[List.all_cons,dB,ij,Bool.not_eq_true']at ha;refine⟨λhi=>?_,sW.up h.2 ha.2⟩;obtain⟨h1,h2⟩:=D2 hi
  rcases ha.1 with e|e
  ·rw[e]at h2;cases h2
  ·unfold eG;rw[e];exact h.1 h1
section
variable {E w:aW}{M:dZ}{hs:Nat->dZ}{V:aL HP}{P P1 P2:HP}{j:Nat}{h1 h2:dZ}
theorem Good.split(g:Good E w M hs V)(hj:j<V.length)(hl1:∀b o,h1 b=some o->hs j b=some o)(hl2:∀b o,h2 b=some o->hs j b=some o)
  (hd:∀b o,h1 b=some o->h2 b=none) (hp1:P1.ok M h1) (hp2:P2.ok M h2):Good E w M (F8 h1<|nR hs j h2) (P1::V.set j P2):=by
 have g2:Good E w M (nR hs j h2) (V.set j P2):=by
  have:=g.update (w':=w) (P':=P2) hj h2 hp2 rfl rfl rfl (λb o hb=>g.le j b o hj<|hl2 b o hb) (λb o hb=> .inl ⟨o,hl2 b o hb⟩)<|λb _ _=>rfl
  exact this
 refine g2.cons h1 hp1 (λb o hb=>g.le j b o hj<|hl1 b o hb) (λb o hb=>g.dm j b o hj<|hl1 b o hb)<|λi b o hi hb=>?_
 rw[j8]at hi;unfold nR;split
 ·grind
 ·rename_i hne;exact g.dj j i b o hj hi (λh=>hne h.symm)<|hl1 b o hb
theorem Good.join(g:Good E w M hs (P1::V))(hj:j<V.length)(hp:P.ok M (qo (hs 0)<|hs<|j+1)):
  Good E w M (nR (λi=>hs<|i+1) j<|qo (hs 0)<|hs<|j+1) (V.set j P):=by
 have hj1:j+1<(P1::V).length:=by grind
 have ho:∀b o,qo (hs 0) (hs<|j+1) b=some o->hs 0 b=some o\/hs (j+1) b=some o:=λb o hb=>by
  grind [qo]
 have h0:0<(P1::V).length:=by simp
 refine⟨g.os,g.tape,g.out,g.dr,g.im,λi Q hq=>?_,λi b o hi hb=>?_,λi b o hi hb=>?_,λi k b o hi hk hne hb=>?_⟩
 ·rw[lk]at hq;unfold nR
  by_cases e:j=i
  ·grind
  ·rw[aF e]at hq;rw[aF<|λh=>e h.symm];exact g.sat (i+1) Q (by grind)
 ·rw[j8]at hi;unfold nR at hb;split at hb
  ·rcases ho b o hb with h|h
   ·exact g.le 0 b o h0 h
   ·exact g.le (j+1) b o hj1 h
  ·exact g.le (i+1) b o (by grind) hb
 ·rw[j8]at hi;unfold nR at hb;split at hb
  ·rcases ho b o hb with h|h
   ·exact g.dm 0 b o h0 h
   ·exact g.dm (j+1) b o hj1 h
  ·exact g.dm (i+1) b o (by grind) hb
 ·rw[j8]at hi hk;have hi1:i+1<(P1::V).length:=by grind
  have hk1:k+1<(P1::V).length:=by grind
  unfold nR at hb ⊢;split at hb
  ·rename_i e;rw[aF<|λh=>hne<|e.trans h.symm]
   rcases ho b o hb with h|h
   ·exact g.dj 0 (k+1) b o h0 hk1 (by omega) h
   ·exact g.dj (j+1) (k+1) b o hj1 hk1 (by omega) h
  ·split
   ·rename_i e1 e2;have a1:=g.dj (i+1) 0 b o hi1 h0 (by omega) hb;have a2:=g.dj (i+1) (j+1) b o hi1 hj1 (by omega) hb
    grind [qo]
   ·exact g.dj (i+1) (k+1) b o hi1 hk1 (by omega) hb
end
structure RV where
 v:aV
 one:v.oneCell'=true
instance:Sc RV:=⟨RV.v,RV.one⟩
structure XT (ρ α:Type)where
 rest:ρ->α->Prop
 ok:dZ->dZ->ρ->α->Prop
 mono:∀{M M' h:dZ}{u:ρ}{x:α},hle M M'->ok M h u x->ok M' h u x
 res:∀{M h:dZ}{u:ρ}{x:α},ok M h u x->rest u x
def kf{ρ α:Type}(X:XT ρ α)(us:aL ρ)(xs:aL α)(k:aU Nat):HP:=
 ⟨λM h=>us.length=xs.length/\(∀(i:Nat)u x,us[i]? =some u->xs[i]? =some x->X.rest u x)/\∃c:Nat->Nat,(∀b o,h b=some o->c b<us.length/\k≠some (c b))/\
  ∀i u x,k≠some i->us[i]? =some u->xs[i]? =some x->X.ok M (λb=>if c b=i then h b else none) u x,
  λhk⟨h1,h0,c,h2,h3⟩=>⟨h1,h0,c,h2,λi u x hi hu hx=>X.mono hk (h3 i u x hi hu hx)⟩⟩
def NI{ρ α:Type}(X:XT ρ α)(u:ρ)(x:α):HP:=⟨λM h=>X.ok M h u x,λhk h=>X.mono hk h⟩
section
variable {ρ α:Type}{X:XT ρ α}{us:aL ρ}{xs:aL α}{E w:aW}{V:aL HP}{j i:Nat}{u u':ρ}{x x':α}
theorem Holds.iT(j:Nat)(h:Holds E w V){k:aU Nat}(hj:V[j]? =some (kf X us xs k)):us.length=xs.length:=by
 obtain⟨M,hs,g⟩:=h;exact(g.sat j _ hj).1
theorem Holds.focus(h:Holds E w V)(hj:V[j]? =some (kf X us xs none))(hu:us[i]? =some u)(hx:xs[i]? =some x):Holds E w (NI X u x::V.set j (kf X us xs<|some i)):=by
 obtain⟨M,hs,g⟩:=h;obtain⟨hl,hr,c,hc,hok⟩:=g.sat j _ hj;refine⟨M,_,g.split (dK hj) (h1:=λb=>if c b=i then hs j b else none) (h2:=λb=>if c b=i then none else hs j b) (λb o hb=>?_) (λb o hb=>?_) (λb o hb=>?_) ?_ ?_⟩
 ·grind
 ·grind
 ·grind
 ·exact hok i u x (by simp) hu hx
 ·refine⟨hl,hr,c,λb o hb=>?_,λa u2 x2 ha hu2 hx2=>?_⟩
  ·grind
  grind
theorem Holds.N0(h:Holds E w (NI X u' x'::V))(hj:V[j]? =some (kf X us xs<|some i))(hi:i<us.length):Holds E w (V.set j<|kf X (us.set i u') (xs.set i x') none):=by
 obtain⟨M,hs,g⟩:=h;have hlt:=dK hj;obtain⟨hl,hr,c,hc,hok⟩:=g.sat (j+1) _ (by simpa using hj);have h0:X.ok M (hs 0) u' x':=g.sat 0 _ rfl;have hdj:∀b o,hs 0 b=some o->hs (j+1) b=none:=λb o hb=>g.dj 0 (j+1) b o (by simp) (by grind) (by omega) hb;have hrr:∀(a:Nat)u2 x2,(us.set i u')[a]? =some u2->(xs.set i x')[a]? =some x2->X.rest u2 x2:=λa u2 x2 hu2 hx2=>by
  rw[lk]at hu2 hx2
  by_cases ha:i=a
  ·subst ha;rw[aH rfl,aH hi]at hu2;rw[aH rfl,aH (by omega)]at hx2;injection hu2 with hu2;injection hx2 with hx2
   subst hu2;subst hx2;exact X.res h0
  grind
 refine⟨M,_,g.join hlt ⟨by simp[hl],hrr,λb=>if(hs 0 b).isSome=true then i else c b,λb o hb=>?_,λa u2 x2 _ hu2 hx2=>?_⟩⟩
 ·grind [j8,qo]
 ·rw[lk]at hu2 hx2
  by_cases ha:i=a
  ·subst ha;rw[aH rfl,aH hi]at hu2;rw[aH rfl,aH (by rw[<-hl];exact hi)]at hx2;injection hu2 with hu2;injection hx2 with hx2
   subst hu2;subst hx2;have e:(λb=>if(if(hs 0 b).isSome=true then i else c b)=i then qo (hs 0) (hs<|j+1) b else none)=hs 0:=by
    funext b
    cases hb:hs 0 b with
    |some o=>simp[qo,hb]
    |none=>
     simp only[Option.isSome_none,Bool.false_eq_true,if_false];split
     ·rename_i hci;unfold qo;rw[hb]
      cases hq:hs (j+1) b with
      |none=>rfl
      |some o=>exact absurd (by rw[hci]) (hc b o hq).2
     ·rfl
   rw[e];exact h0
  ·rw[aF ha]at hu2 hx2;have:=hok a u2 x2 (λe=>ha (by injection e)) hu2 hx2;have e:(λb=>if c b=a then hs (j+1) b else none)=(λb=>if(if(hs 0 b).isSome=true then i else c b)=a then qo (hs 0) (hs<|j+1) b else none):=by
    funext b
    cases hb:hs 0 b with
    |some o=>simp[qo,hb,ha,hdj b o hb]
    |none=>simp[qo,hb]
   rw[<-e];exact this
theorem Holds.Gr(h:Holds E w (NI X u' x'::V))(hj:V[j]? =some (kf X us xs none)):Holds E w (V.set j<|kf X (us++[u']) (xs++[x']) none):=by
 obtain⟨M,hs,g⟩:=h;have hlt:=dK hj;obtain⟨hl,hr,c,hc,hok⟩:=g.sat (j+1) _ (by simpa using hj);have h0:X.ok M (hs 0) u' x':=g.sat 0 _ rfl;have hdj:∀b o,hs 0 b=some o->hs (j+1) b=none:=λb o hb=>g.dj 0 (j+1) b o (by simp) (by grind) (by omega) hb;have hrr:∀(a:Nat)u2 x2,(us++[u'])[a]? =some u2->(xs++[x'])[a]? =some x2->X.rest u2 x2:=λa u2 x2 hu2 hx2=>by
  by_cases ha:a<us.length
  ·grind
  ·have hae:a=us.length:=by
    grind
   subst hae;rw[fZ<|bW _,Nat.sub_self]at hu2;rw[hl,fZ<|bW _,Nat.sub_self]at hx2;simp at hu2 hx2;subst hu2;subst hx2;exact X.res h0
 refine⟨M,_,g.join hlt ⟨by simp[hl],hrr,λb=>if(hs 0 b).isSome=true then us.length else c b,λb o hb=>?_,λa u2 x2 _ hu2 hx2=>?_⟩⟩
 ·refine⟨?_,by simp⟩;rw[bO];dsimp only;split
  ·simp
  ·rename_i hn;have:hs 0 b=none:=by simpa using hn
   unfold qo at hb;rw[this]at hb;have:=(hc b o hb).1;simp;omega
 ·by_cases ha:a<us.length
  ·rw[gD ha]at hu2;rw[gD (by omega)]at hx2;have:=hok a u2 x2 (by simp) hu2 hx2;have e:(λb=>if c b=a then hs (j+1) b else none)=(λb=>if(if(hs 0 b).isSome=true then us.length else c b)=a then qo (hs 0) (hs<|j+1) b else none):=by
    funext b
    cases hb:hs 0 b with
    |some o=>simp[qo,hb,hdj b o hb];omega
    |none=>simp[qo,hb]
   rw[<-e];exact this
  ·have hae:a=us.length:=by
    have:=(bN.1 hu2).1;simp at this;omega
   subst hae;rw[fZ<|bW _,Nat.sub_self]at hu2;rw[hl,fZ<|bW _,Nat.sub_self]at hx2;simp at hu2 hx2;subst hu2;subst hx2;have e:(λb=>if(if(hs 0 b).isSome=true then us.length else c b)=us.length then qo (hs 0) (hs<|j+1) b else none)=hs 0:=by
    funext b
    cases hb:hs 0 b with
    |some o=>simp[qo,hb]
    |none=>
     simp only[Option.isSome_none,Bool.false_eq_true,if_false];split
     ·rename_i hci;unfold qo;rw[hb]
      cases hq:hs (j+1) b with
      |none=>rfl
      |some o=>have:=(hc b o hq).1;omega
     ·rfl
   rw[e];exact h0
theorem Holds.ET(X:XT ρ α)(h:Holds E w V):Holds E w (kf X [] [] none::V):=
 h.BS λ_ _ _=>⟨rfl,λi u x hu=>(by simp at hu),λ_=>0,λ_ _ h=>(by cases h),λi u x _ hu=>(by simp at hu)⟩
theorem Holds.LQ(h:Holds E w V){k:aU Nat}(hj:V[j]? =some (kf X us xs k))(hu:us[i]? =some u)(hx:xs[i]? =some x):X.rest u x:=by
 obtain⟨M,hs,g⟩:=h;exact(g.sat j _ hj).2.1 i u x hu hx
end
section
variable {ρ α:Type}[GT ρ]{X:XT ρ α}{us:aL ρ}{xs:aL α}{E w:aW}{V:aL HP}{j i:Nat}{e:bR}{v:aV}
theorem Holds.Gs [GT α](hsz:GT.sz ρ=GT.sz α)(hX:∀M h u x cs,(∀b o,h b=some o->M b=none)->X.ok M h u x->GT.ok M cs u->GT.ok (qo M h) cs x)
  (h:Holds E w (kf X us xs none::V)) (hj:V[j]? =some (own e v us)):Holds E w (Gk.bD::V.set j (own e v xs)):=by
 obtain⟨M,hs,g⟩:=h;have hlt:=dK hj;obtain⟨hl,hr,c,hc,hok⟩:=g.sat 0 _ rfl;have g2:=g.freeze (P':=Gk.bD) (i:=0) (by simp) trivial;have ho:=g.sat (j+1) (own e v us) (by grind);have hnew:(own e v xs).ok (qo M<|hs 0) (hs<|j+1):=by
  rcases ho with⟨h1,h2,h3⟩|⟨b,o,cap,cur,cs,h1,h2,h3,h4,h5,h6,h7⟩
  ·subst h2;exact .inl ⟨h1,List.length_eq_zero_iff.1 (by grind),h3⟩
  ·refine .inr ⟨b,o,cap,cur,cs,by grind,by omega,h3,h4,by grind,by grind,⟨by rw[<-hl,<-hsz];exact h7.1,λa x hx=>?_⟩⟩;have ha:a<us.length:=by grind
   have hu:=aM ha
   have h9:=hX M _ _ _ _ (λb' o' hb'=>by
    split at hb'
    ·exact g.dm 0 b' o' (by simp) hb'
    ·cases hb') (hok a _ x (by simp) hu hx) (by exact h7.2 a _ hu)
   rw[<-hsz];refine GT.mono (λq o' hq=>?_) h9
   grind [qo]
 have g3:=g2.update (w':=w) (P':=own e v xs) (i:=j+1) (by grind) (hs<|j+1) hnew rfl rfl rfl
  (λb o hb=>g.le (j+1) b o (by grind) hb) (λb o hb=> .inl ⟨o,by simp_all[nR,aF]⟩) (λb _ _=>rfl)
 exact⟨_,_,g3⟩
end
section
variable {β:Type}[GT β]
def XS(e:bR)(β:Type)[GT β]:XT RV (aL β):=⟨λ_ _=>True,λM h u l=>xZ e M h u.v l,λ{M M' h u l}hk hh=>(own e u.v l).mono hk hh,λ_=>trivial⟩
theorem PL(e:bR)(u:RV)(l:aL β):NI (XS e β) u l=own e u.v l:=rfl
theorem xZ.sl{e:bR}{M h:dZ}{v:aV}{l:aL β}(hd:∀b o,h b=some o->M b=none)(ho:xZ e M h v l):oz (qo M h) v l:=by
 rcases ho with⟨rfl,rfl,_⟩|⟨b,o,cap,cur,xs,rfl,h2,h3,h4,h5,h6,h7⟩
 ·exact⟨none,0,0,rfl,rfl,bW _,by simp[maxLen],λi x hx=>by simp at hx⟩
 ·refine yN (M:=qo M h) (e:=e) (fr:=(0,0)) ?_ (h7.mono<|wG _ _) h6 h2 h3
  simp_all[cT,qo]
theorem O0(e:bR)(M h:dZ)(u:RV)(l:aL β)(cs:aL aV)(hd:∀b o,h b=some o->M b=none)(hx:(XS e β).ok M h u l)(hc:GT.ok M cs u):GT.ok (qo M h) cs l:=
 ⟨u.v,hc,xZ.sl hd hx⟩
end
def F4:RV:=⟨.slice none 0 0,rfl⟩
def rv(v:aV):RV:=if h:v.oneCell'=true then⟨v,h⟩else F4
theorem N1{v:aV}(h:v.oneCell'=true):(rv v).v=v:=by unfold rv;rw[dif_pos h]
instance:Inhabited RV:=⟨F4⟩
theorem lr{ρ α:Type}{us:aL ρ}{xs:aL α}{jj:Int}{x:α}(z:ρ)(hl:us.length=xs.length)(hx:idx xs jj=some x):idx us jj=some (us.getD jj.toNat z):=by
 grind [eQ,Int.eq_ofNat_of_zero_le,cR,idx,aM]
structure XO {ρ α β:Type} [GT ρ] [GT β] (X:XT ρ α) (e':bR) (off:Nat) (f:ρ->RV) (fs:ρ->RV->ρ) (g:α->aL β) (gs:α->aL β->α):Prop where
 Vk:Fd off f
 Tg:Fs off RV fs
 le:off+1<=GT.sz ρ
 get:∀{M h u x},X.ok M h u x->xZ e' M h (f u).v (g x)
 put:∀{M h' u x r y},X.rest u x->xZ e' M h' (RV.v r) y->X.ok M h' (fs u r) (gs x y)
theorem D3(e:bR)(β:Type)[GT β]:XO (XS e β) e 0 (λx=>x) (λ_ y=>y) (λx=>x) (λ_ y=>y):=
 ⟨Fd.self,Fs.self,bW _,λh=>h,λ_ h=>h⟩
section
variable {ρ α β:Type}[GT ρ][GT β]{X:XT ρ α}{us:aL ρ}{xs:aL α}{E w:aW}{V:aL HP}{i j k o b:Nat}{e e':bR}{v u:aV}{x:α}{y:aL β}{jj:Int}{z:ρ}
variable {off:Nat}{f:ρ->RV}{fs:ρ->RV->ρ}{gg:α->aL β}{gs:α->aL β->α}
theorem Th(z:ρ)(hl:us.length=xs.length)(hx:idx xs jj=some x):us[jj.toNat]? =some (us.getD jj.toNat z):=by simp_all[eQ,lr]
theorem Holds.EU(o:XO X e' off f fs gg gs)(z:ρ)(h:Holds E w V)(hj:V[j]? =some (kf X us xs none))(hx:idx xs jj=some x):
  Holds E w (own e' (f<|us.getD jj.toNat z).v (gg x)::V.set j (kf X us xs<|some jj.toNat)):=by
 have hl:=h.iT _ hj;have h2:=h.focus hj (Th z hl hx) (eQ hx).2.1;obtain⟨M,hs,g⟩:=h2;have:=g.update (w':=w) (P':=own e' (f<|us.getD jj.toNat z).v<|gg x) (i:=0) (by simp) (hs 0) (o.get<|g.sat 0 _ rfl) rfl rfl rfl (λb o hb=>g.le 0 b o (by simp) hb) (λb o hb=> .inl ⟨o,hb⟩)<|λ_ _ _=>rfl
 exact⟨_,_,this⟩
theorem Holds.Gt(o:XO X e' off f fs gg gs)(z:ρ)(h:Holds E w (own e' v y::V))(hj:V[j]? =some (kf X us xs<|some jj.toNat))(hx:idx xs jj=some x):
  Holds E w (V.set j<|kf X (us.set jj.toNat<|fs (us.getD jj.toNat z)<|rv v) (xs.set jj.toNat<|gs x y) none):=by
 have hl:=h.iT (j+1) (by simpa using hj);have h1:(rv v).v=v:=by
  obtain⟨a,c,hv⟩:=h.lS (i:=0) rfl;exact N1 (by rw[hv];rfl)
 have hr:=h.LQ (j:=j+1) (by simpa using hj) (Th z hl hx) (eQ hx).2.1;have h2:Holds E w (NI X (fs (us.getD jj.toNat z)<|rv v) (gs x y)::V):=by
  obtain⟨M,hs,g⟩:=h;have:=g.update (w':=w) (P':=NI X (fs (us.getD jj.toNat z)<|rv v)<|gs x y) (i:=0) (by simp) (hs 0) (o.put hr (by rw[h1];exact g.sat 0 _ rfl)) rfl rfl rfl (λb o hb=>g.le 0 b o (by simp) hb) (λb o hb=> .inl ⟨o,hb⟩)<|λ_ _ _=>rfl
  exact⟨_,_,this⟩
 exact h2.N0 hj (by simp_all[eQ])
theorem Holds.Jh(h:Holds E w V)(hi:V[i]? =some (own e v y)):Holds E w (rd v (rv v)::V):=by
 have h1:(rv v).v=v:=by
  obtain⟨a,c,hv⟩:=h.lS hi;exact N1 (by rw[hv];rfl)
 have:=h.sc RV<|rv v
 simp_all[Sc.toV]
theorem Holds.EV [GT α](hsz:GT.sz ρ=GT.sz α)(hX:∀M h u x cs,(∀b o,h b=some o->M b=none)->X.ok M h u x->GT.ok M cs u->GT.ok (qo M h) cs x)
  (h:Holds E w V) (hb:V[b]? =some (kf X us xs none)) (hj:V[j]? =some (own e v us)) (hne:b≠j):Holds E w ((V.set b Gk.bD).set j<|own e v xs):=by
 have h1:=h.pull (hi:=hb) _;have h2:=h1.Gs hsz hX (j:=j) (by rw[lk,aF hne];exact hj);exact h2.drop 1 rfl
end
section
variable {ρ α β:Type}[GT ρ][GT β]{P:bP}{n:Nat}{U:Nat->aV}{w:aW}{Q:gv}{E:aW}{V:aL HP}{i j k o b:Nat}
variable {ops:bB bL}{rest:aL bL}{d:Nat}{ty t T e e':bR}{pos:String}{af:bB Edge}{g:aU (Nat×Bool)}{v vy u p:aV}{q r:bK}
variable {X:XT ρ α}{us:aL ρ}{xs xs':aL α}{x:α}{y:aL β}{jj:Int}{z:ρ}{bytes:Nat}
variable {off:Nat}{f:ρ->RV}{fs:ρ->RV->ρ}{gg:α->aL β}{gs:α->aL β->α}
theorem XA{k0:aU Nat}(i b:Nat)(xs:aL α)(hd:Nat.blt d n=true)(hw:Holds E w V)(hx:ev U q=v)(hi:V[i]? =some (own e' v us))(hb:V[b]? =some (kf X us xs k0))(ht:P.underlying t=some (.slice e))(kk:RL P n ops rest (eG U d<|.int .i64 (xs.length:Nat)) w Q)(hg:Wn ops U g:=by exact trivial):RL P n ops (⟨some d, .call ⟨.builtin .len,#[q],#[t]⟩,ty,pos,af,g⟩::rest) U w Q:=by
 have hl:=hw.iT _ hb
 grind [WB]
theorem XY{k0:aU Nat}(i b o:Nat)(jj:Int)(O:XO X e' off f fs gg gs)(z:ρ)(hw:Holds E w V)(hx:ev U q=p)(hy:ev U r=u)(hp:NH v jj.toNat (GT.sz ρ) off p)(hi:V[i]? =some (own e v us))(hb:V[b]? =some (kf X us xs k0))(ho:V[o]? =some (own e' u y))(hxs:idx xs jj=some x)(hT:kR P T false 1)(kk:∀w',Holds E w' (((V.set i<|own e v<|us.set jj.toNat<|fs (us.getD jj.toNat z)<|rv u).set o bD).set b<|kf X (us.set jj.toNat<|fs (us.getD jj.toNat z)<|rv u) (xs.set jj.toNat<|gs x y) none)->RL P n ops rest U w' Q)(hg:Wn ops U g:=by exact trivial)(hk:k0=none\/k0=some jj.toNat:=by exact(.inr rfl))(hib:i≠b:=by decide)(hob:o≠b:=by decide)(hio:i≠o:=by decide):
  RL P n ops (⟨none, .store T q r,ty,pos,af,g⟩::rest) U w Q:=by
 have hl:=hw.iT _ hb;have hrv:=hw.Jh ho;have h3:V.length>0:=by grind
 refine XV (i:=i+1) (j:=0) (f:=fs) (y:=rv u) hg hrv hx hy hp (by simpa using hi) (Th z hl hxs) rfl O.Tg O.le hT λw' hw'=>?_;refine kk w' ?_;have hw2:Holds E w' (V.set i<|own e v<|us.set jj.toNat<|fs (us.getD jj.toNat z)<|rv u):=hw'.drop 1 rfl;have hb2:(V.set i<|own e v<|us.set jj.toNat<|fs (us.getD jj.toNat z)<|rv u)[b]? =some (kf X us xs k0):=by grind
 have ho2:(V.set i<|own e v<|us.set jj.toNat<|fs (us.getD jj.toNat z)<|rv u)[o]? =some (own e' u y):=by grind
 rcases hk with rfl|rfl
 ·have h4:=hw2.EU O z hb2 hxs;have h5:Holds E w' ((V.set i<|own e v<|us.set jj.toNat<|fs (us.getD jj.toNat z)<|rv u).set b<|kf X us xs<|some jj.toNat):=h4.drop 1 rfl;have hb3:((V.set i<|own e v<|us.set jj.toNat<|fs (us.getD jj.toNat z)<|rv u).set b<|kf X us xs<|some jj.toNat)[b]? =some (kf X us xs<|some jj.toNat):=by
   grind
  have ho3:((V.set i<|own e v<|us.set jj.toNat<|fs (us.getD jj.toNat z)<|rv u).set b<|kf X us xs<|some jj.toNat)[o]? =some (own e' u y):=by
   grind
  have h6:=h5.pull (hi:=ho3) _;have h7:=h6.Gt O z (j:=b) (by rw[lk,aF hob];exact hb3) hxs
  grind [List.set_comm,List.set_set]
 ·have h6:=hw2.pull (hi:=ho2) _;exact h6.Gt O z (j:=b) (by grind) hxs
end
section
variable {α β:Type}[GT β]{P:bP}{n:Nat}{U:Nat->aV}{w:aW}{Q:gv}{E:aW}{V:aL HP}{i j k o b:Nat}
variable {ops:bB bL}{rest:aL bL}{d:Nat}{ty t T e e':bR}{pos:String}{af:bB Edge}{g:aU (Nat×Bool)}{v vy u p:aV}{q r:bK}
variable {us:aL RV}{xs xs':aL (aL β)}{y:aL β}{jj:Int}{bytes:Nat}
theorem Ji{ρ α:Type}{us:aL ρ}{xs xs':aL α}{x:α}{bytes:Nat}(hl:us.length=xs.length)(h:app bytes xs [x]=some xs')(u:ρ):app bytes us [u]=some (us++[u])/\xs'=xs++[x]:=by
 grind [app]
theorem Yk(i j b o:Nat)(hg:Wn ops U g)(hd:Nat.blt d n=true)(hw:Holds E w V)(hx:ev U q=v)(hy:ev U r=vy)(hi:V[i]? =some (own e v us))(hj:V[j]? =some (rd vy [rv u]))(hb:V[b]? =some (kf (XS e' β) us xs none))(ho:V[o]? =some (own e' u y))(hT:uJ P t e 1 bytes)(ha:Gk.app bytes xs [y]=some xs')(kk:∀v' w',Holds E w' (((V.set i<|own e v'<|us++[rv u]).set o bD).set b<|kf (XS e' β) (us++[rv u]) xs' none)->RL P n ops rest (eG U d v') w' Q)(hib:i≠b:=by decide)(hob:o≠b:=by decide)(hio:i≠o:=by decide):
  RL P n ops (⟨some d, .call ⟨.builtin .append,#[q,r],#[t,t]⟩,ty,pos,af,g⟩::rest) U w Q:=by
 obtain⟨h1,rfl⟩:=Ji (hw.iT _ hb) ha<|rv u
 refine WI (hg:=hg) (hd:=hd) (hx:=hx) (hy:=hy) (hi:=hi) (hj:=hj) _ _ hw hT h1 λv' w' hw'=>kk v' w' ?_;have hb2:(V.set i<|own e v'<|us++[rv u])[b]? =some (kf (XS e' β) us xs none):=by grind
 have ho2:(V.set i<|own e v'<|us++[rv u])[o]? =some (own e' u y):=by grind
 have h6:=hw'.pull (hi:=ho2) _;have h7:(rv u).v=u:=by
  obtain⟨a,c,hv⟩:=hw.lS ho;exact N1 (by rw[hv];rfl)
 have h8:Holds E w' (NI (XS e' β) (rv u) y::(V.set i<|own e v'<|us++[rv u]).set o bD):=by
  grind [own,NI,XS,PL]
 exact h8.Gr (by grind)
end
section
variable {P:bP}{n:Nat}{U:Nat->aV}{w:aW}{Q:gv}{E:aW}{V:aL HP}{i j k o b:Nat}
variable {ops:bB bL}{rest:aL bL}{d:Nat}{ty t T e e':bR}{pos:String}{af:bB Edge}{g:aU (Nat×Bool)}{v vy u p:aV}{q r:bK}
theorem Yl{cs:aL aV}(hg:Wn ops U g)(hd:Nat.blt d n=true)(hw:Holds E w V)(hx:ev U q = .agg cs.toArray)(h1:∀v∈cs,v.oneCell'=true)
  (kk:∀b w',Holds E w' (bc T b cs::V)->RL P n ops rest (eG U d<|.pointer<|some ⟨b,0,none⟩) w' Q):RL P n ops (⟨some d, .box T q,ty,pos,af,g⟩::rest) U w Q:=by
 refine Wf hg hd ?_<|kk w.heap.size (w.alloc<|.cells cs.toArray T (0,0))<|hw.alloc _ λM hs gd=>⟨h1,rfl⟩
 simp only[execOp,hx,Instr.box,newVar,newRow,newObj,aR,bG,Value.cells];rfl
end
section
variable {κ β:Type}[GT κ][KV κ][DecidableEq κ][GT β]{E w:aW}{V:aL HP}{i j b o:Nat}{e e':bR}{v u:aV}{mr:aL (κ×RV)}{m:aL (κ×aL β)}{k:κ}{y:aL β}
theorem nc.raw{M h:dZ}(hd:∀b o,h b=some o->M b=none):∀{es:aL MapEntry}{mr:aL (κ×RV)}{m:aL (κ×aL β)},nc M es mr->mr.map Prod.fst=m.map Prod.fst->
  (∀(i:Nat)u x,(mr.map Prod.snd)[i]? =some u->(m.map Prod.snd)[i]? =some x->∃h',(∀b o,h' b=some o->h b=some o)/\xZ e' M h' (RV.v u) x)->nc (qo M h) es m
 | [],[],[],_,_,_=>trivial
 |en::es,p::mr,q::m,⟨h1,h2,h3⟩,hk,hx=>by
  simp only[eZ,List.cons.injEq]at hk;obtain⟨h',hs,ho⟩:=hx 0 p.2 q.2 rfl rfl;refine⟨by rw[h1,hk.1],?_,nc.raw hd h3 hk.2<|λi u x hu hx'=>hx (i+1) u x (by grind) (by grind)⟩;have:en.val=p.2.v:=EN.1 h2;rw[this];refine mu.2<|oz.mono (λb o hb=>?_)<|xZ.sl (λb o hb=>hd b o<|hs b o hb) ho
  unfold qo at hb ⊢
  cases hM:M b with
  |some o'=>rw[hM]at hb;exact hb
  |none=>rw[hM]at hb;exact hs b o hb
 | [],p::mr,_,h,_,_=>h.elim
 |_::_,[],_,h,_,_=>h.elim
 | [],[],q::m,_,hk,_=>by simp at hk
 |_::_,p::mr,[],_,hk,_=>by simp at hk
end
section
variable {P:bP}{n:Nat}{U:Nat->aV}{w:aW}{Q:gv}{E:aW}{V:aL HP}{i j k o b m:Nat}
variable {ops:bB bL}{rest:aL bL}{d:Nat}{ty t T e e':bR}{pos:String}{af:bB Edge}{g:aU (Nat×Bool)}{v vy u p:aV}{q r:bK}{cs:aL aV}
theorem B5(hw:Holds E w V)(hi:V[i]? =some (bc e b cs))(hT:kR P T true m)(hl:cs.length=m):(loadVar T ⟨b,0,none⟩).run P w = .ok (.agg cs.toArray) w:=by
 obtain⟨M,hs,gd⟩:=hw;obtain⟨_,hh⟩:=gd.sat i _ hi;have hb:=gd.le i b _ (dK hi) (by rw[hh];exact cT b _);have hat:∀j u,cs[j]? =some u->w.cell? ((⟨b,0,none⟩:Addr).add j)=some u:=λj u hu=>by
  rw[Addr.add_lit,cell_of_row w b _ _ _ _ hb];grind
 unfold loadVar;simp only[aR,hT.Ki,bC,if_true,hT.sz,<-hl,run_loadCells_list w _ cs hat,bG]
theorem YE(hg:Wn ops U g)(hd:Nat.blt d n=true)(hw:Holds E w V)(hx:ev U q = .pointer (some ⟨b,0,none⟩))(hi:V[i]? =some (bc e b cs))(hT:kR P T true m)(hl:cs.length=m)
  (kk:RL P n ops rest (eG U d<|.agg cs.toArray) w Q):RL P n ops (⟨some d, .load T q,ty,pos,af,g⟩::rest) U w Q:=by
 refine Wf hg hd ?_ kk;simp only[execOp,hx,Instr.loadAt,Instr.sureAddr,aR,bG,bC,B5 hw hi hT hl]
end
section
variable {ρ α β:Type}[GT ρ][GT α][GT β]
structure XP (X:XT ρ α) (e':bR) (off:Nat) (fs:ρ->RV->ρ) (gs:α->aL β->α):Prop where
 Tg:Fs off RV fs
 le:off+1<=GT.sz ρ
 put:∀{M h' u x r y},X.rest u x->xZ e' M h' (RV.v r) y->X.ok M h' (fs u r) (gs x y)
end
structure Tr (P:bP) (T:bR) (i:Nat) (ft:bR) (m:Nat):Prop where
 run:∀cs w,(Instr.field T (.agg cs) i).run P w=(part ft cs m).run P w
section
variable {α β:Type}[GT α][GT β]{P:bP}{n:Nat}{U:Nat->aV}{w:aW}{Q:gv}{E:aW}{V:aL HP}{i:Nat}
variable {ops:bB bL}{rest:aL bL}{d:Nat}{ty:bR}{pos:String}{af:bB Edge}{g:aU (Nat×Bool)}{v:aV}{q:bK}{T ft:bR}{x:α}
theorem N2{cs:aL aV}{m:Nat}{y:β}{M:dZ}(ho:GT.ok M ((cs.drop m).take<|GT.sz β) y)(hT:kR P ft (GT.agg β) (GT.sz β)):(part ft cs.toArray m).run P w = .ok (u4 β<|(cs.drop m).take<|GT.sz β) w:=by
 unfold u4
 cases e:GT.agg β with
 |true=>
  rw[e]at hT;rw[aH rfl];refine ph hT ?_ w;simp[List.extract_toArray,List.extract_eq_take_drop]
 |false=>
  rw[e,GT.ag1 e]at hT;rw[aF wF,GT.ag1 e];have hl:=GT.len ho;rw[GT.ag1 e]at hl;refine cM hT ?_ w;rw[List.getElem?_toArray]
  cases hc:cs.drop m with
  |nil=>rw[hc]at hl;simp at hl
  |cons c l=>
   have:cs[m]? =(cs.drop m)[0]? :=by rw[j7];simp
   rw[this,hc];rfl
theorem YF{m j:Nat}{f:α->β}(hg:Wn ops U g)(hd:Nat.blt d n=true)(hw:Holds E w V)(hx:ev U q=v)(hi:V[i]? =some (rd v x))(ha:GT.agg α=true)(hf:Tr P T j ft m)(hF:Fd m f)(hT:kR P ft (GT.agg β) (GT.sz β))
  (k:∀v,Holds E w (rd v (f x)::V)->RL P n ops rest (eG U d v) w Q):RL P n ops (⟨some d, .field T q j,ty,pos,af,g⟩::rest) U w Q:=by
 obtain⟨M,hs,gd⟩:=hw;obtain⟨⟨cs,hv,ho⟩,_⟩:=gd.sat i _ hi;have hv':v = .agg cs.toArray:=by rw[hv];unfold u4;rw[aH ha]
 have ho':=hF M cs x ho;refine Wf (v:=u4 β<|(cs.drop m).take<|GT.sz β) hg hd ?_<|k _ ⟨M,_,gd.ga ⟨⟨_,rfl,ho'⟩,rfl⟩⟩
 simp only[execOp,hx,hv',aR,hf.run,N2 ho' hT,bC,bG]
theorem Ym{γ:Type}[Sc γ]{m j:Nat}{f:α->γ}(i:Nat)(hg:Wn ops U g)(hd:Nat.blt d n=true)(hw:Holds E w V)(hx:ev U q=v)(hi:V[i]? =some (rd v x))(ha:GT.agg α=true)(hf:Tr P T j ft m)(hF:Fd m f)(hT:kR P ft false 1)(k:RL P n ops rest (eG U d<|Sc.toV<|f x) w Q):RL P n ops (⟨some d, .field T q j,ty,pos,af,g⟩::rest) U w Q:=by
 refine YF (f:=f) hg hd hw hx hi ha hf hF hT λv h=>?_;rw[h.ve (i:=0) rfl];exact k
end
def Ts(n:Nat)(i:Int):aU (Fin n):=if h:0<=i/\i.toNat<n then some ⟨i.toNat,h.2⟩else none
theorem LU{n:Nat}{i:Int}{k:Fin n}(h:Ts n i=some k):0<=i/\i=((k.val:Nat):Int):=by
 unfold Ts at h;split at h
 ·rename_i h1;injection h with h
  subst h;exact⟨h1.1,by show i=((i.toNat:Nat):Int);omega⟩
 ·cases h
structure Ti (P:bP) (T:bR) (n:Nat) (e:bR) (sz:Nat):Prop where
 z5:P.underlying T=some (.array n e)
 sz:∀w,(sizeOf e).run P w = .ok sz w
structure QU (P:bP) (T:bR) (i:Int) (m:Nat):Prop where
 run:∀K a w,(Instr.indexAt T (.pointer<|some a)<|.int K i).run P w = .ok (.pointer<|some<|a.add m) w
structure VH (P:bP) (T:bR) (i:Int) (ft:bR) (m:Nat):Prop where
 run:∀K cs w,(Instr.index T (.agg cs)<|.int K i).run P w=(part ft cs m).run P w
section
variable {P:bP}{T e:bR}{n sz:Nat}{i:Int}
theorem Ti.at(h:Ti P T n e sz){k:Fin n}(hk:Ts n i=some k):QU P T i (k.val*sz):=by
 obtain⟨h0,h1⟩:=LU hk;refine⟨λK a w=>?_⟩;have hlt:i<((n:Nat):Int):=by have:=k.isLt;omega
 have ht:i.toNat=k.val:=by omega
 simp only[Instr.indexAt,asIntOf,Instr.sureAddr,aR,bG,bC,run_underlying h.z5,h.sz,h0,hlt,and_self,if_true,ht]
end
section
variable {α β:Type}[GT α][GT β]{P:bP}{n:Nat}{U:Nat->aV}{w:aW}{Q:gv}{E:aW}{V:aL HP}{i:Nat}
variable {ops:bB bL}{rest:aL bL}{d:Nat}{T ty e ft:bR}{pos:String}{af:bB Edge}{g:aU (Nat×Bool)}{v p:aV}{q r:bK}{x:α}{K:IntKind}{jj:Int}{k off m:Nat}
theorem YG{b o:Nat}(hg:Wn ops U g)(hd:Nat.blt d n=true)(hx:ev U q = .pointer (some ⟨b,o,none⟩))(hy:ev U r = .int K jj)(hf:QU P T jj m)
  (kk:RL P n ops rest (eG U d<|.pointer<|some ⟨b,o+m,none⟩) w Q):RL P n ops (⟨some d, .indexAddr T q r,ty,pos,af,g⟩::rest) U w Q:=by
 refine Wf hg hd ?_ kk;simp only[execOp,hx,hy,aR,hf.run,bC,bG,Addr.add_lit]
theorem XG{b:Nat}(hd:Nat.blt d n=true)(hx:ev U q = .pointer (some ⟨b,0,none⟩))(hy:ev U r = .int K jj)(hf:QU P T jj m)(kk:RL P n ops rest (eG U d<|.pointer<|some ⟨b,m,none⟩) w Q)(hg:Wn ops U g:=by exact trivial):RL P n ops (⟨some d, .indexAddr T q r,ty,pos,af,g⟩::rest) U w Q:=
 YG (o:=0) (m:=m) hg hd hx hy hf (by rw[gL];exact kk)
end
structure QV (P:bP) (T:bR) (sz:Nat) (z:bB aV):Prop where
 run:∀parts cs w,Instr.fill (λi=>some (i*sz,sz)) z parts.toList=some cs->(Instr.build T parts).run P w = .ok (.agg cs) w
theorem QV.of{P:bP}{T e:bR}{n sz:Nat}{z:aV}(h1:Ti P T n e sz)(h2:∀w,(zeroValue T).run P w = .ok z w:=by intro _;kernel_rfl):QV P T sz z.cells:=by
 refine⟨λparts cs w h=>?_⟩;unfold Instr.build;simp only[aR,h2,bC,run_underlying h1.z5,h1.sz,h,bG]
section
variable {α:Type}[GT α]{P:bP}{n:Nat}{U:Nat->aV}{w:aW}{Q:gv}{E:aW}{V:aL HP}
variable {ops:bB bL}{rest:aL bL}{d:Nat}{T ty:bR}{pos:String}{af:bB Edge}{g:aU (Nat×Bool)}
variable {y:α}
theorem XH{parts:bB (Nat×bK)}{sz:Nat}{z:bB aV}(y:α)(hg:Wn ops U g)(hd:Nat.blt d n=true)(hw:Holds E w V)(vs:aL (Nat×aV))(hvs:parts.toList.map (λp=>(p.1,ev U p.2))=vs)(hT:QV P T sz z)(ha:GT.agg α=true)(hf:∀M hs,Good E w M hs V->cI M (λi=>some (i*sz,sz)) z vs y)(k:∀v,Holds E w (rd v y::V)->RL P n ops rest (eG U d v) w Q):RL P n ops (⟨some d, .build T parts,ty,pos,af,g⟩::rest) U w Q:=by
 obtain⟨M,hs,gd⟩:=hw;obtain⟨cs,h1,h2⟩:=hf M hs gd;have e1:parts.map (λ(i,x)=>(i,ev U x))=vs.toArray:=by rw[<-hvs];cases parts;simp
 refine Wf (v:= .agg cs) hg hd ?_<|k _ ⟨M,_,gd.ga ⟨⟨cs.toList,by simp[u4,ha],h2⟩,rfl⟩⟩
 simp only[execOp,aR];rw[e1,hT.run _ _ _ h1];simp only[bC,bG]
end
section
universe u v
def B6{α:Type}{β:Sort v}(o:aU α)(a:β)(f:α->β):β:=match o with|none=>a|some x=>f x
variable {α β:Type}{o:aU α}{y:α}{A:β}{B:α->β}{r:β}
theorem Gv(h:o=none)(hb:B6 o A B=r):A=r:=by subst h;exact hb
theorem Gw(h:o=some y)(hb:B6 o A B=r):B y=r:=by subst h;exact hb
theorem AU{A:Prop}{B:α->Prop}(h:o=none)(hb:B6 o A B):A:=by subst h;exact hb
theorem AV{A:Prop}{B:α->Prop}(h:o=some y)(hb:B6 o A B):B y:=by subst h;exact hb
end
section
variable {ρ α β:Type}[GT ρ][GT α][GT β]{P:bP}{n:Nat}{U:Nat->aV}{w:aW}{Q:gv}{E:aW}{V:aL HP}{i j k o b:Nat}
variable {ops:bB bL}{rest:aL bL}{d:Nat}{ty t T e e':bR}{pos:String}{af:bB Edge}{g:aU (Nat×Bool)}{v vy u p:aV}{q r:bK}
variable {X:XT ρ α}{us:aL ρ}{xs xs':aL α}{x xr:α}{ur:ρ}{y:aL β}{jj:Int}{z:ρ}{bytes off:Nat}
theorem YH(hput:∀M h,xZ e' M h (RV.v<|rv u) y->X.ok M h ur xr)(hg:Wn ops U g)(hd:Nat.blt d n=true)(hw:Holds E w V)(hx:ev U q=v)(hy:ev U r=vy)(hi:V[i]? =some (own e v us))(hj:V[j]? =some (rd vy [ur]))
  (hb:V[b]? =some (kf X us xs none)) (ho:V[o]? =some (own e' u y)) (hib:i≠b) (hob:o≠b) (hio:i≠o) (hT:uJ P t e (GT.sz ρ) bytes) (ha:Gk.app bytes xs [xr]=some xs')
  (kk:∀v' w',Holds E w' (((V.set i<|own e v'<|us++[ur]).set o bD).set b<|kf X (us++[ur]) xs' none)->RL P n ops rest (eG U d v') w' Q):
  RL P n ops (⟨some d, .call ⟨.builtin .append,#[q,r],#[t,t]⟩,ty,pos,af,g⟩::rest) U w Q:=by
 obtain⟨h1,rfl⟩:=Ji (hw.iT _ hb) ha ur;refine WI (hg:=hg) (hd:=hd) (hx:=hx) (hy:=hy) (hi:=hi) (hj:=hj) _ _ hw hT h1 λv' w' hw'=>kk v' w' ?_;have hb2:(V.set i<|own e v'<|us++[ur])[b]? =some (kf X us xs none):=by grind
 have ho2:(V.set i<|own e v'<|us++[ur])[o]? =some (own e' u y):=by grind
 have h6:=hw'.pull (hi:=ho2) _;have h7:(rv u).v=u:=by
  obtain⟨a,c,hv⟩:=hw.lS ho;exact N1 (by rw[hv];rfl)
 have h8:Holds E w' (NI X ur xr::(V.set i<|own e v'<|us++[ur]).set o bD):=by
  obtain⟨M,hs,gd⟩:=h6;have:=gd.update (w':=w') (P':=NI X ur xr) (i:=0) (by simp) (hs 0) (hput _ _ (by rw[h7];exact gd.sat 0 _ rfl)) rfl rfl rfl (λb o hb=>gd.le 0 b o (by simp) hb) (λb o hb=> .inl ⟨o,hb⟩)<|λ_ _ _=>rfl
  exact⟨_,_,this⟩
 exact h8.Gr (by grind)
end
section
variable {P:bP}{n:Nat}{U:Nat->aV}{w:aW}{Q:gv}{K:IntKind}{a b c:Int}{t u s:bR}
variable {ops:bB bL}{rest:aL bL}{d:Nat}{ty:bR}{pos:String}{af:bB Edge}{g:aU (Nat×Bool)}{q r p:bK}
theorem YI(hg:Wn ops U g)(hd:Nat.blt d n=true)(hx:ev U q = .int K a)(hy:ev U r = .int K b)(hz:ev U p = .int K c)(kk:RL P n ops rest (eG U d<|.int K (if(if a<b then b else a)<c then c else(if a<b then b else a))) w Q):
  RL P n ops (⟨some d, .call ⟨.builtin .max,#[q,r,p],#[t,u,s]⟩,ty,pos,af,g⟩::rest) U w Q:=by
 refine Wf hg hd ?_ kk;simp[execOp,resolve,hx,hy,hz,invoke,builtin,Builtin.max_,Builtin.max2]
end
def Gx(places:aL (Nat×Nat)):aL aV->aL (Nat×aL aV)->aU (aL aV)
 |z,[]=>some z
 |z,(i,cs)::rest=>match places[i]? with
  |some (o,m)=>if(Nat.beq cs.length m&&Nat.ble (o+m) z.length)=true then Gx places (z.take o++cs++z.drop (o+cs.length)) rest else none
  |none=>none
def fits:aL (Nat×aV)->aL (Nat×aL aV)->Prop
 | [],[]=>True
 |(i,v)::a,(j,cs)::b=>i=j/\v.cells=cs.toArray/\fits a b
 |_,_=>False
theorem D5{places:aL (Nat×Nat)}:∀{vs:aL (Nat×aV)}{pcs:aL (Nat×aL aV)}{z cs:aL aV},fits vs pcs->Gx places z pcs=some cs->Instr.fill (places.toArray[·]?) z.toArray vs=some cs.toArray
 | [],[],z,cs,_,h=>by
  unfold Gx at h;injection h with h;subst h;rfl
 |(i,v)::rest,(j,c)::pcs,z,cs,h1,h=>by
  obtain⟨rfl,hc,h2⟩:=h1;unfold Gx at h;unfold Instr.fill;split at h
  ·rename_i o m he;split at h
   ·rename_i hlt;rw[dB]at hlt;have e1:c.length=m:=fP hlt.1;have e2:o+m<=z.length:=Nat.le_of_ble_eq_true hlt.2;have hp:places.toArray[i]?=some (o,m):=by simpa using he
    have hs:=HU c z.toArray o (by simp;omega);have hs2:c.toArray.zipIdx.foldl (λcs(p:aV×Nat)=>cs.setIfInBounds (o+p.2) p.1) z.toArray=(z.take o++c++z.drop (o+c.length)).toArray:=by
     apply Array.toList_inj.1;rw[hs]
    simp only[hp,hc];rw[aF (by simp;omega)];rw[hs2];exact D5 h2 h
   ·cases h
  ·cases h
 | [],_::_,_,_,h,_=>h.elim
 |_::_,[],_,_,h,_=>h.elim
section
variable {P:bP}{n:Nat}{U:Nat->aV}{w:aW}{Q:gv}{E:aW}{V:aL HP}{i j:Nat}
variable {ops:bB bL}{rest:aL bL}{d:Nat}{ty T e:bR}{pos:String}{af:bB Edge}{g:aU (Nat×Bool)}{q r:bK}{b m k:Nat}{vs vs' cs zs:aL aV}{v:aV}
theorem YJ{parts:bB (Nat×bK)}{places:aL (Nat×Nat)}(hg:Wn ops U g)(hd:Nat.blt d n=true)(vs:aL (Nat×aV))(pcs:aL (Nat×aL aV))
  (hvs:parts.toList.map (λp=>(p.1,ev U p.2))=vs) (hT:x0 P T places zs.toArray) (h1:fits vs pcs) (hf:Gx places zs pcs=some cs)
  (k:RL P n ops rest (eG U d<|.agg cs.toArray) w Q):RL P n ops (⟨some d, .build T parts,ty,pos,af,g⟩::rest) U w Q:=by
 have e1:parts.map (λ(i,x)=>(i,ev U x))=vs.toArray:=by grind
 refine Wf (v:= .agg cs.toArray) hg hd ?_ k;simp only[execOp,aR];rw[e1,hT.run]
 grind [D5,bC,bG]
theorem Holds.N3{α:Type}[GT α]{x:α}(h:Holds E w V)(hi:V[i]? =some (rd v x))(ha:GT.agg α=true):∃cs:aL aV,cs.length=GT.sz α/\v = .agg cs.toArray/\Holds E w (U6 cs x::V):=by
 obtain⟨M,hs,g⟩:=h;obtain⟨⟨cs,hv,ho⟩,_⟩:=g.sat i _ hi;refine⟨cs,GT.len ho,by grind [u4],M,_,g.ga ⟨ho,rfl⟩⟩
end
class Flat (α:Type) [GT α]:Prop where
 fl:∀{M M':dZ}{cs:aL aV}{x:α},GT.ok M cs x->GT.ok M' cs x
instance {α:Type} [Sc α]:Flat α:=⟨λh=>h⟩
instance {α β:Type} [GT α] [GT β] [Flat α] [Flat β]:Flat (α×β):=⟨λ⟨c,d,e,h1,h2⟩=>⟨c,d,e,Flat.fl h1,Flat.fl h2⟩⟩
section
variable {ρ α β:Type}[GT ρ][GT α][GT β]{P:bP}{n:Nat}{U:Nat->aV}{w:aW}{Q:gv}{E:aW}{V:aL HP}{i j k o b:Nat}
variable {ops:bB bL}{rest:aL bL}{d:Nat}{ty t T e e':bR}{pos:String}{af:bB Edge}{g:aU (Nat×Bool)}{v vy u p:aV}{q r:bK}
variable {X:XT ρ α}{us:aL ρ}{xs xs':aL α}{x:α}{l l':aL β}{jj:Int}{z:ρ}{bytes off:Nat}{f:ρ->RV}{fs:ρ->RV->ρ}{gg:α->aL β}{gs:α->aL β->α}{h0:aU Nat}
theorem XZ(i b:Nat)(jj:Int)(O:XO X e' off f fs gg gs)(z:ρ)(hd:Nat.blt d n=true)(hw:Holds E w V)(hx:ev U q=p)(hp:NH v jj.toNat (GT.sz ρ) off p)(hi:V[i]? =some (own e v us))(hb:V[b]? =some (kf X us xs h0))(hxs:idx xs jj=some x)(hT:kR P T false 1)(kk:RL P n ops rest (eG U d (f<|us.getD jj.toNat z).v) w Q)(hg:Wn ops U g:=by exact trivial):RL P n ops (⟨some d, .load T q,ty,pos,af,g⟩::rest) U w Q:=
 WZ (hd:=hd) (hx:=hx) (hi:=hi) (f:=f) _ hg hw hp (Th z (hw.iT _ hb) hxs) O.Vk hT kk
end
section
variable {α:Type}[GT α]{M:dZ}{xs:aL aV}{l:aL α}{k:Nat}
theorem Cells.take(h:Cells M xs l)(hk:k<=l.length):Cells M (xs.take<|k*GT.sz α) (l.take k):=by
 have hx:=h.1;have hm:k*GT.sz α<=l.length*GT.sz α:=Nat.mul_le_mul_right _ hk;refine⟨by grind,λi x hi=>?_⟩;rw[gZ]at hi;split at hi
 case isFalse=>cases hi
 rename_i hlt;have hb:i*GT.sz α+GT.sz α<=k*GT.sz α:=by
  calc i*GT.sz α+GT.sz α=(i+1)*GT.sz α:=by rw[Nat.add_mul,Nat.one_mul]
   _<=k*GT.sz α:=Nat.mul_le_mul_right _ hlt
 have:=h.2 i x hi
 grind [List.drop_take,Nat.min_eq_left]
theorem Cells.drop(h:Cells M xs l)(hk:k<=l.length):Cells M (xs.drop<|k*GT.sz α) (l.drop k):=by
 have hx:=h.1;refine⟨by grind [f9,Nat.sub_mul],λi x hi=>?_⟩;rw[j7]at hi;have:=h.2 _ x hi
 grind [List.drop_drop,Nat.add_mul]
end
section
variable {κ ν S R T:Type}
def vm(body:κ×ν->S->aU (Fl S R)):aL (κ×ν)->S->aU (Fo S R)
 | [],s=>some (.go s)
 |e::l,s=>(body e s).bind λ
  | .nx s'=>vm body l s'
  | .br s'=>some (.go s')
  | .rt r=>some (.rt r)
open Classical in
noncomputable def Dv(m:aL (κ×ν))(body:κ×ν->S->aU (Fl S R))(s:S)(kg:S->aU T)(kr:R->aU T):aU T:=
 if h:∃t,∀p:aL (κ×ν),p.Perm m->(vm body p s).bind (λo=>o.cs kg kr)=some t then some (Classical.choose h)else none
theorem LW{m:aL (κ×ν)}{body:κ×ν->S->aU (Fl S R)}{s:S}{kg:S->aU T}{kr:R->aU T}{t:T}(h:Dv m body s kg kr=some t):
  ∀p:aL (κ×ν),p.Perm m->(vm body p s).bind (λo=>o.cs kg kr)=some t:=by
 unfold Dv at h;split at h
 ·rename_i h1;injection h with h
  intro p hp;rw[<-h];exact Classical.choose_spec h1 p hp
 ·cases h
theorem N4{m:aL (κ×ν)}{body:κ×ν->S->aU (Fl S R)}{s:S}{kg:S->aU T}{kr:R->aU T}{t:T}(h:∀p:aL (κ×ν),p.Perm m->(vm body p s).bind (λo=>o.cs kg kr)=some t):
  Dv m body s kg kr=some t:=by
 have he:∃t,∀p:aL (κ×ν),p.Perm m->(vm body p s).bind (λo=>o.cs kg kr)=some t:=⟨t,h⟩;unfold Dv;rw[dif_pos he];have h1:=Classical.choose_spec he m<|List.Perm.refl m
 rw[h m<|List.Perm.refl m]at h1;exact h1.symm
def Pf(m pre:aL (κ×ν)):Prop:=∃rest,(pre++rest).Perm m
end
section
variable {κ ν:Type}[GT κ][KV κ][GT ν]
def HL(v:aV)(g:Nat)(m pre:aL (κ×ν)):HP:=
 ⟨λM h=>∃(r:Nat)(es:bB MapEntry)(clock since:Nat)(seen:bB Nat)(c0:Nat)(pz rz:aL (MapEntry×(κ×ν))),v = .map (some r)/\(nc M es.toList m/\NW es.toList clock m)/\r≠g/\
   h=qo (Gk.one r<|.map es clock) (Gk.one g<|.mapIter (some r) since seen c0)/\(∀x∈es.toList,x.born<since)/\since<=c0/\since<=clock/\
   (pz++rz).Perm (es.toList.zip m)/\seen.toList=pz.map (·.1.born)/\pre=pz.map (·.2)/\(pz= []\/c0=clock),
  λk⟨r,es,c,si,se,c0,pz,rz,hv,⟨he,hst⟩,hne,hh⟩=>⟨r,es,c,si,se,c0,pz,rz,hv,⟨nc.mono k he,hst⟩,hne,hh⟩⟩
theorem nc.at{M:dZ}:∀{es:aL MapEntry}{m:aL (κ×ν)}{e:MapEntry}{x:κ×ν},nc M es m->(e,x)∈es.zip m->e.key=KV.enc x.1/\xH M e.val x.2
 | [],[],_,_,_,h=>by simp at h
 |e::es,p::m,e',x,⟨h1,h2,h3⟩,h=>by
  rw[List.zip_cons_cons,eV]at h
  rcases h with h|h
  ·injection h with ha hb;subst ha;subst hb;exact⟨h1,h2⟩
  ·exact nc.at h3 h
 | [],_::_,_,_,h,_=>h.elim
 |_::_,[],_,_,h,_=>h.elim
theorem D6{M h:dZ}{b:Nat}{o:Obj}(e:M b=some o):qo M h b=some o:=by simp[qo,e]
theorem yU{M h:dZ}{b:Nat}(e:M b=none):qo M h b=h b:=by simp[qo,e]
theorem rq{g b:Nat}{o:Obj}(h:b≠g):Gk.one g o b=none:=by simp[Gk.one,h]
end
section
variable {κ ν S R T:Type}[GT κ][KV κ][DecidableEq κ][GT ν]
variable {P:bP}{n:Nat}{U:Nat->aV}{w:aW}{Q:gv}{E:aW}{V:aL HP}{i:Nat}
variable {ops:bB bL}{rest:aL bL}{d:Nat}{ty Ty kt et:bR}{pos:String}{af:bB Edge}{g:aU (Nat×Bool)}{v:aV}{q:bK}{m pre:aL (κ×ν)}{b:Nat}
theorem Yn(i:Nat)(hg:Wn ops U g)(hd:Nat.blt d n=true)(hw:Holds E w V)(hx:ev U q=v)(hi:V[i]? =some (mp v m))(hT:P.underlying Ty=some (.map kt et))(k:∀b w',Holds E w' (V.set i<|HL v b m [])->RL P n ops rest (eG U d<|.pointer<|some ⟨b,0,none⟩) w' Q):RL P n ops (⟨some d, .range Ty q,ty,pos,af,g⟩::rest) U w Q:=by
 obtain⟨M,hs,gd⟩:=hw;have hlt:=dK hi;obtain⟨r,es,clock,rfl,⟨he,hst⟩,hh⟩:=gd.sat i _ hi;have hb:=gd.le i r _ hlt (by rw[hh];exact cT r _);have hrs:r<w.heap.size:=(Array.getElem?_eq_some_iff.1 hb).1;refine Wf (v:= .pointer<|some ⟨w.heap.size,0,none⟩) (w':=w.alloc<|.mapIter (some r) clock #[] clock) hg hd (by simp only[execOp,hx,run_range_map w Ty kt et r es clock hT hb,aR,bG,bC])<|k w.heap.size _ ?_
 have g1:=(gd.world (w':=w.alloc<|.mapIter (some r) clock #[] clock) rfl rfl rfl<|λb hb=>sE w _ b hb).cons (P:=Gk.bD) (Gk.one w.heap.size<|.mapIter (some r) clock #[] clock) trivial
  (λb o hb=>by obtain⟨rfl,rfl⟩:=iK hb;exact heap_alloc_new w _)
  (λb o hb=>by
   obtain⟨rfl,rfl⟩:=iK hb
   cases e:M w.heap.size with
   |none=>rfl
   |some o'=>exact absurd (Array.getElem?_eq_some_iff.1 (gd.im _ o' e)).1 (Nat.lt_irrefl _))
  (λj b o hj hb=>by
   obtain⟨rfl,rfl⟩:=iK hb
   cases e:hs j w.heap.size with
   |none=>rfl
   |some o'=>exact absurd (Array.getElem?_eq_some_iff.1 (gd.le j _ o' hj e)).1 (Nat.lt_irrefl _))
 have g2:=g1.join (P:=HL (.map (some r)) w.heap.size m []) (j:=i) hlt (by
  refine⟨r,es,clock,clock,#[],clock,[],es.toList.zip m,rfl,⟨he,hst⟩,Nat.ne_of_lt hrs,?_,hst.1,bW _,bW _,List.Perm.refl _,rfl,rfl, .inl rfl⟩;show qo (Gk.one w.heap.size _) (hs i)=_;rw[hh];funext x
  by_cases e1:x=r
  ·subst e1;rw[yU<|rq<|Nat.ne_of_lt hrs,cT,D6<|cT _ _]
  ·rw[yU (M:=Gk.one r _)<|rq e1]
   by_cases e2:x=w.heap.size
   ·subst e2;rw[D6<|cT _ _,cT]
   ·rw[yU (rq e2),rq e1,rq e2])
 exact⟨_,_,g2⟩
theorem EX:∀{es:aL MapEntry}{m:aL (κ×ν)},es.length=m.length->(es.zip m).map (·.2)=m
 | [],[],_=>rfl
 |_::es,_::m,h=>by simp only[List.zip_cons_cons,eZ];rw[EX (by simpa using h)]
 | [],_::_,h=>by simp at h
 |_::_,[],h=>by simp at h
theorem zip_fst:∀{es:aL MapEntry}{m:aL (κ×ν)},es.length=m.length->(es.zip m).map (·.1)=es
 | [],[],_=>rfl
 |_::es,_::m,h=>by simp only[List.zip_cons_cons,eZ];rw[zip_fst (by simpa using h)]
 | [],_::_,h=>by simp at h
 |_::_,[],h=>by simp at h
theorem Holds.Jn(hw:Holds E w V)(hi:V[i]? =some (HL v b m pre))(ty:bR):
  (pre.Perm m/\(Instr.next (.pointer<|some ⟨b,0,none⟩) false ty).run P w = .ok (.tuple #[.bool false]) w)\/
  ∃(x:κ×ν)(u:aV)(w':aW),Pf m (pre++[x])/\(Instr.next (.pointer<|some ⟨b,0,none⟩) false ty).run P w = .ok (.tuple #[.bool true,KV.enc x.1,u]) w'/\
   Holds E w' (rd u x.2::V.set i (HL v b m<|pre++[x])):=by
 obtain⟨M,hs,gd⟩:=hw;have hlt:=dK hi;obtain⟨r,es,clock,since,seen,c0,pz,rz,rfl,⟨he,hst⟩,hne,hh,hold,hsc,hsk,hperm,hseen,hpre,hc0⟩:=gd.sat i _ hi;have hbr:w.heap[r]? =some (.map es clock):=gd.le i r _ hlt (by rw[hh];exact D6<|cT r _);have hbb:w.heap[b]? =some (.mapIter (some r) since seen c0):=gd.le i b _ hlt (by rw[hh,yU<|rq<|λe=>hne e.symm];exact cT b _);have hlen:es.toList.length=m.length:=he.len;have hnd:((pz++rz).map (·.1.born)).Nodup:=by
  have h1:((pz++rz).map (·.1.born)).Perm ((es.toList.zip m).map (·.1.born)):=hperm.map _;refine h1.symm.nodup ?_;have h2:(es.toList.zip m).map (·.1.born)=es.toList.map (·.born):=by rw[show(λ(x:MapEntry×(κ×ν))=>x.1.born)=MapEntry.born∘Prod.fst from rfl,<-List.map_map,zip_fst hlen]
  rw[h2];exact hst.2.1
 have hin:∀e:MapEntry,e∈es.toList->∃x,(e,x)∈pz++rz:=λe hm=>by
  have:e∈(es.toList.zip m).map (·.1):=by rw[zip_fst hlen];exact hm
  obtain⟨⟨e',x⟩,h1,rfl⟩:=cX.1 this;exact⟨x,hperm.mem_iff.2 h1⟩
 rcases run_next_at (P:=P) w ty b r since c0 seen es clock hbb hbr hold hsc with⟨h0,hrun⟩|⟨e,hem,w1,hw1,hrun⟩
 ·refine .inl ⟨?_,hrun⟩;have hrz:rz= []:=by
   cases rz with
   |nil=>rfl
   |cons z rz=>
    exfalso;have hz:z∈es.toList.zip m:=hperm.mem_iff.1 (by simp);have hze:z.1∈es.toList:=by have:=List.mem_map_of_mem (f:=Prod.fst) hz;rw[zip_fst hlen]at this;exact this
    have hl:leftOf es seen = #[]:=Array.eq_empty_of_size_eq_zero h0;have hns:seen.contains z.1.born=true:=by
     cases hc:seen.contains z.1.born with
     |true=>rfl
     |false=>
      have:z.1∈(leftOf es seen).toList:=by unfold leftOf;simp only[Array.toList_filter,jC,hc];exact⟨hze,rfl⟩
      rw[hl]at this;simp at this
    have hns2:z.1.born∈seen.toList:=by simpa using hns
    rw[hseen]at hns2;rw[gC,List.nodup_append]at hnd;exact hnd.2.2 _ hns2 _ (by simp) rfl
  subst hrz;rw[iR]at hperm;have:=hperm.map (·.2);rw[EX hlen,<-hpre]at this;exact this
 ·right;have he1:e∈es.toList/\seen.contains e.born=false:=by
   unfold leftOf at hem;simp only[Array.toList_filter,jC]at hem;exact⟨hem.1,by simpa using hem.2⟩
  obtain⟨x,hx⟩:=hin e he1.1;have hxr:(e,x)∈rz:=by
   rcases dJ.1 hx with h|h
   ·exfalso;have h1:e.born∈seen.toList:=by rw[hseen];exact cX.2 ⟨(e,x),h,rfl⟩
    have h2:seen.contains e.born=true:=by simpa using h1
    rw[he1.2]at h2;cases h2
   ·exact h
  obtain⟨l1,l2,hl⟩:=List.append_of_mem hxr;have hperm2:((pz++[(e,x)])++(l1++l2)).Perm (es.toList.zip m):=by
   refine List.Perm.trans ?_ hperm;rw[hl,dL];refine List.Perm.append_left _ ?_;exact(List.perm_middle (a:=(e,x)) (l₁:=l1) (l₂:=l2)).symm
  have hat:=he.at<|hperm.mem_iff.1 hx
  refine⟨x,e.val,_,⟨(l1++l2).map (·.2),?_⟩,by rw[<-hat.1];exact hrun,?_⟩
  ·have:=hperm2.map (·.2);rw[EX hlen,gC,gC,<-hpre]at this;exact this
  have gw:Good E w1 M hs V:=by
   rcases hw1 with rfl|rfl
   ·exact gd
   ·exact gd.world rfl rfl rfl<|λ_ _=>rfl
  have hh1:w1.heap=w.heap:=by rcases hw1 with rfl|rfl <;> rfl
  have hbs:b<w.heap.size:=(Array.getElem?_eq_some_iff.1 hbb).1;have g2:=gw.update (w':=ChangeMaps.setBlock w1 b<|.mapIter (some r) since (seen.push e.born) clock) (P':=HL (.map<|some r) b m<|pre++[x]) hlt
   (qo (Gk.one r<|.map es clock)<|Gk.one b<|.mapIter (some r) since (seen.push e.born) clock)
   ⟨r,es,clock,since,seen.push e.born,clock,pz++[(e,x)],l1++l2,rfl,⟨he,hst⟩,hne,rfl,hold,hsk,hsk,hperm2,by rw[Array.toList_push,hseen];simp,by rw[hpre];simp, .inr rfl⟩
   rfl rfl rfl
   (λc o hc=>by
    show(w1.heap.setIfInBounds b _)[c]? =some o;rw[hh1]
    by_cases e1:c=r
    ·subst e1;rw[D6<|cT _ _]at hc;injection hc with hc;subst hc
     rw[Array.getElem?_setIfInBounds_ne<|λh=>hne h.symm];exact hbr
    ·rw[yU<|rq e1]at hc;obtain⟨rfl,rfl⟩:=iK hc
     rw[Array.getElem?_setIfInBounds_self_of_lt hbs])
   (λc o hc=>by
    left
    by_cases e1:c=r
    ·subst e1;exact⟨_,by rw[hh];exact D6<|cT _ _⟩
    ·rw[yU<|rq e1]at hc;obtain⟨rfl,rfl⟩:=iK hc
     exact⟨_,by rw[hh,yU (rq e1)];exact cT _ _⟩)
   (λc hc hcs=>by
    show(w1.heap.setIfInBounds b _)[c]? =w1.heap[c]?;have hcb:b≠c:=λh=>by
     subst h;rw[hh,yU<|rq<|λe=>hne e.symm,cT]at hc
     cases hc
    rw[Array.getElem?_setIfInBounds_ne hcb])
  exact⟨M,_,g2.ga ⟨hat.2,rfl⟩⟩
theorem Yo{x:κ×ν}(hg:Wn ops U g)(hd:Nat.blt d n=true)(hw:Holds E w V)(hx:ev U q = .pointer (some ⟨b,0,none⟩))(hi:V[i]? =some (HL v b m<|pre++[x]))
  (k:∀u,Holds E w (rd u x.2::V)->RL P n ops rest (eG U d<|.tuple #[KV.enc x.1,u]) w Q):RL P n ops (⟨some d, .entry q,ty,pos,af,g⟩::rest) U w Q:=by
 obtain⟨M,hs,gd⟩:=hw;have hlt:=dK hi;obtain⟨r,es,clock,since,seen,c0,pz,rz,rfl,⟨he,hst⟩,hne,hh,hold,hsc,hsk,hperm,hseen,hpre,hc0⟩:=gd.sat i _ hi;have hbr:w.heap[r]? =some (.map es clock):=gd.le i r _ hlt (by rw[hh];exact D6<|cT r _);have hbb:w.heap[b]? =some (.mapIter (some r) since seen c0):=gd.le i b _ hlt (by rw[hh,yU<|rq<|λe=>hne e.symm];exact cT b _);have hlen:es.toList.length=m.length:=he.len;have hpz:pz≠[]:=λe=>by subst e;simp at hpre
 obtain⟨pz',z,rfl⟩:∃pz' z,pz=pz'++[z]:=⟨pz.dropLast,pz.getLast hpz,(List.dropLast_concat_getLast hpz).symm⟩;have hx2:z.2=x:=by
  rw[gC]at hpre;have:=congrArg List.getLast? hpre;simpa using this.symm
 subst hx2;have hz:z∈es.toList.zip m:=hperm.mem_iff.1 (by simp);have hze:z.1∈es.toList:=by have:=List.mem_map_of_mem (f:=Prod.fst) hz;rw[zip_fst hlen]at this;exact this
 have hc:c0=clock:=by rcases hc0 with h|h;exact absurd h hpz;exact h
 subst hc;have hseen2:seen=(pz'.map (·.1.born)).toArray.push z.1.born:=by
  apply Array.ext';rw[hseen];simp
 rw[hseen2]at hbb;have hrun:=run_entry_at (P:=P) w b r since _ es c0 z.1 hbb hbr hze hst.2.1;have hat:=he.at (e:=z.1) (x:=z.2) hz;refine Wf hg hd ?_<|k z.1.val ⟨M,_,gd.ga ⟨hat.2,rfl⟩⟩
 simp only[execOp,hx,hrun,aR,bG,bC,hat.1]
theorem Holds.kv(h:Holds E w V)(k:κ):Holds E w (rd (KV.enc k) k::V):=h.BS λ_ _ _=>⟨KV.rd _ k,rfl⟩
def U7(m:aL (κ×ν))(body:κ×ν->S->aU (Fl S R))(I:aL (κ×ν)->S->(Nat->aV)->aW->Prop)(b0:Nat)(J:S->(Nat->aV)->aW->Prop)(K:R->(Nat->aV)->aW->Prop)(pre:aL (κ×ν))(s:S):gv:=
 λex U w=>(pre.Perm m/\PE (R:=R) b0 J K (.go s) ex U w)\/∃x fl,Pf m (pre++[x])/\body x s=some fl/\ER (I<|pre++[x]) b0 J K fl ex U w
theorem Yp{b0:Nat}{c:Code}{body:κ×ν->S->aU (Fl S R)}{kg:S->aU T}{kr:R->aU T}{s0:S}{t:T}(I:aL (κ×ν)->S->(Nat->aV)->aW->Prop)(J:S->(Nat->aV)->aW->Prop)(K:R->(Nat->aV)->aW->Prop)
  (hN:Gk.Dv m body s0 kg kr=some t) (h0:I [] s0 U w)
  (step:∀pre s U w,I pre s U w->(∀x,Pf m (pre++[x])->∃fl,body x s=some fl)->RC P n c U w (U7 m body I b0 J K pre s))
  (hrt:∀r U w,kr r=some t->K r U w->Q .ret U w) (hgo:∀s U w,kg s=some t->J s U w->Q .normal U w):RC P n (.block b0<|.loop c) U w Q:=by
 have hall:=LW hN;refine WM<|XN (λj U w=>∃pre s,j+pre.length=m.length/\I pre s U w/\∀p,(pre++p).Perm m->(vm body p s).bind (λo=>o.cs kg kr)=some t) (m:=m.length) ⟨[],s0,rfl,h0,λp hp=>hall p (by simpa using hp)⟩ ?_
 rintro j U w⟨pre,s,hj,hI,hp⟩;have hone:∀x rest,(pre++[x]++rest).Perm m->∃fl,body x s=some fl/\(match fl with| .nx s'=>(vm body rest s').bind (λo=>o.cs kg kr)=some t| .br s'=>kg s'=some t| .rt r=>kr r=some t):=λx rest hr=>by
  have h1:=hp (x::rest) (by simpa using hr);obtain⟨o,h2,h3⟩:=bd h1;unfold vm at h2;obtain⟨fl,h4,h5⟩:=bd h2;refine⟨fl,h4,?_⟩
  cases fl with
  |nx s'=>simp only at h5 ⊢;rw[h5];exact h3
  |br s'=>simp only at h5 ⊢;injection h5 with h5;subst h5;exact h3
  |rt r=>simp only at h5 ⊢;injection h5 with h5;subst h5;exact h3
 refine RC.mono (step pre s U w hI λx⟨rest,hx⟩=>by obtain⟨fl,h1,_⟩:=hone x rest hx;exact⟨fl,h1⟩) λex σ' w' q=>?_
 rcases q with⟨hpm,rfl,hJ⟩|⟨x,fl,⟨rest,hx⟩,hb,q⟩
 ·refine .inr ⟨by simp,?_⟩;have h1:=hp [] (by simpa using hpm);have h2:kg s=some t:=h1;exact BU<|hgo s σ' w' h2 hJ
 ·obtain⟨fl',hb',hm⟩:=hone x rest hx;rw[hb]at hb';injection hb' with hb';subst hb'
  have hl:=hx.length_eq;simp only[bO,fQ,List.length_nil]at hl
  cases fl with
  |nx s'=>
   obtain⟨rfl,hI'⟩:=q;refine .inl ⟨rfl,j - 1,by omega,pre++[x],s',by simp;omega,hI',λp hpp=>?_⟩;obtain⟨fl2,hb2,hm2⟩:=hone x p hpp;rw[hb]at hb2;injection hb2 with hb2;subst hb2
   exact hm2
  |br s'=>
   obtain⟨rfl,hJ⟩:=q;exact .inr ⟨by simp,BU<|hgo s' σ' w' hm hJ⟩
  |rt r=>
   obtain⟨rfl,hK⟩:=q;exact .inr ⟨by simp,fU<|hrt r σ' w' hm hK⟩
theorem Yq{b0 id:Nat}{y:Code}{body:κ×ν->S->aU (Fl S R)}{s:S}{I:aL (κ×ν)->S->(Nat->aV)->aW->Prop}{J:S->(Nat->aV)->aW->Prop}{K:R->(Nat->aV)->aW->Prop}(i:Nat)(hd:Nat.blt d n=true)(hw:Holds E w V)(hx:ev U q = .pointer (some ⟨b,0,none⟩))(hi:V[i]? =some (HL v b m pre))(hb:∀x,Pf m (pre++[x])->∃fl,body x s=some fl)(h0:RL P n (⟨some d, .next q false,ty,pos,af,none⟩::rest).toArray rest (eG U d (.tuple #[.bool false])) w (nY P n y (PE b0 J K (.go s))))(h1:∀x u fl w',body x s=some fl->Holds E w' (rd u x.2::V.set i (HL v b m (pre++[x])))->
   RL P n (⟨some d, .next q false,ty,pos,af,none⟩::rest).toArray rest (eG U d (.tuple #[.bool true,KV.enc x.1,u])) w' (nY P n y (ER (I (pre++[x])) b0 J K fl))):
  RC P n (.seq (.region id (⟨some d, .next q false,ty,pos,af,none⟩::rest).toArray false) y) U w (U7 m body I b0 J K pre s):=by
 rcases hw.Jn (P:=P) hi ty with⟨hp,hrun⟩|⟨x,u,w',hx',hrun,hw'⟩
 ·refine RC.mono (w_<|Wf trivial hd ?_ h0) λex U w q=> .inl ⟨hp,q⟩;simp only[execOp,hx,hrun,aR,bG,bC]
 ·obtain⟨fl,hfl⟩:=hb x hx';refine RC.mono (w_<|Wf trivial hd ?_<|h1 x u fl w' hfl hw') λex U w q=> .inr ⟨x,fl,hx',hfl,q⟩;simp only[execOp,hx,hrun,aR,bG,bC]
end
end Go.Gk
namespace Go.Gk
open Go IntKind Go.Sort
def vn(l:aL Int):aU (aL Int):=if l.length<4611686018427387904 then some (l.mergeSort λx y=>decide<|x<=y)else none
section
variable {α:Type}[GT α]
def O1{β:Type}(cf:β->β->Int)(x y:β):Bool:=decide<|cf x y<0
def HM(φ:α->α->aU Int)(l:aL α)(i j:Fin l.length):Int:=(φ l[i] l[j]).getD 0
def Jp(φ:α->α->aU Int)(l:aL α):aL α:=
 if h:0<l.length then
  haveI:Inhabited (Fin l.length):=⟨⟨0,h⟩⟩
  ((pdq (O1<|HM φ l) (Array.ofFn λi:Fin l.length=>i) 0 l.length (Lib.bitLen l.length) true true).toList.map λi=>l[i])
 else l
open Classical in
noncomputable def r9(φ:α->α->aU Int)(l:aL α):aU (aL α):=
 if((∀i j:Fin l.length,∃c,φ l[i] l[j]=some c)/\SWO (O1<|HM φ l))/\l.length<4611686018427387904 then some (Jp φ l)else none
end
end Go.Gk
namespace Go.Gk
open Go IntKind
def vo:Op->Bool
 | .move _| .assign _| .pick .. | .load .. | .nilCheck _| .binOp .. | .unOp .. | .fieldAddr .. | .indexAddr .. | .index .. | .field .. | .extract .. | .slice .. | .lookup .. | .build .. | .makeFunc .. =>true
 | .call ⟨.builtin .len,_,_⟩| .call ⟨.builtin .cap,_,_⟩| .call ⟨.builtin .min,_,_⟩| .call ⟨.builtin .max,_,_⟩=>true
 |_=>false
theorem oK{α:Type}{s:Sem α}{P:bP}{w w':aW}{f:α->aV}{nx:Next}(h:(do let a <-s;pure (.value<|f a):Sem Next).run P w = .ok nx w'):∃v,nx = .value v:=by
 rw[aR]at h
 cases hr:s.run P w with
 |ok a w1=>grind [Result.andThen,bG]
 |halt x w1=>simp_all
theorem Gy{ρ:bK->aV}{o:bL}{P:bP}{w w':aW}{nx:Next}(hk:vo o.op=true)(h:(execOp ρ o).run P w = .ok nx w'):∃v,nx = .value v:=by
 obtain⟨dst,op,ty,pos,af,g⟩:=o
 cases op
 case move x=>grind [execOp,bG]
 case assign x=>grind [execOp,bG]
 case pick c a b=>exact oK (s:=asBool<|ρ c) (f:=λt=>if t then ρ a else ρ b) h
 case load t a=>exact oK h
 case binOp a b c d e=>
  simp only[execOp]at h;exact oK h
 case unOp a b c=>exact oK h
 case fieldAddr a b c=>exact oK h
 case indexAddr a b c=>exact oK h
 case index a b c=>exact oK h
 case field a b c=>exact oK h
 case extract a b=>exact oK h
 case slice a b c d e=>exact oK h
 case lookup a b c d=>exact oK h
 case build a b=>exact oK h
 case makeFunc a b c=>exact oK h
 case nilCheck x=>
  simp only[execOp]at h;split at h
  ·cases h
  ·cases h
  ·cases h
  ·split at h
   ·cases h
   ·rw[aR]at h
    cases h1:program.run P w with
    |halt x w1=>simp_all
    |ok p w1=>
     rw[h1]at h;simp only[Result.andThen,aR]at h;split at h
     ·rename_i r w2 h2;split at h
      ·simp_all
      grind [bG]
     ·cases h
   grind [bG]
  grind [bG]
 case call c=>
  obtain⟨cal,args,ts⟩:=c
  cases cal with
  |builtin b=>
   cases b <;> first
    |(cases hk;done)
    |(simp only[execOp,resolve,aR,bG,Result.andThen,invoke,builtin]at h;exact oK (by rw[aR];exact h))
  |value f=>cases hk
  |invoke r m=>cases hk
 all_goals cases hk
theorem Sl.uniq{n:Nat}{U σ':Nat->aV}{a:Act}(h:Sl n U a)(h':Sl n σ' a):U=σ':=funext λt=>(h.get t).symm.trans<|h'.get t
section
variable {P:bP}{n:Nat}{ops:bB bL}{w:aW}{Q:gv}{U:Nat->aV}{o:bL}{rest l:aL bL}
def RO(P:bP)(n:Nat)(ops:bB bL)(w:aW)(Q:gv):aL bL->(Nat->aV)->Prop
 | [],U=>Q .normal U w
 |o::rest,U=>RL P n ops [o] U w (λex σ' w'=>ex = .normal/\w'=w/\RO P n ops w Q rest σ')
theorem WC(h:RL P n ops [o] U w (λex σ' w'=>ex = .normal/\w'=w/\RO P n ops w Q rest σ')):RO P n ops w Q (o::rest) U:=h
theorem AI(h:RL P n ops [o] U w (λex σ' w'=>ex = .normal/\w'=w/\RO P n ops w Q rest σ')):RL P n ops [] U w (λex σ' w'=>ex = .normal/\w'=w/\RO P n ops w Q (o::rest) σ'):=By ⟨rfl,rfl,h⟩
theorem Wt(h:Q .normal U w):RL P n ops [] U w (λex σ' w'=>ex = .normal/\w'=w/\RO P n ops w Q [] σ'):=By ⟨rfl,rfl,h⟩
def F5(P:bP)(ops:bB bL)(w:aW)(a:Act)(o:bL)(v:aV):Prop:=
 (Region.wanted o (yielded ops a.tmps)=true/\(execOp a.eval o).run P w = .ok (.value v) w)\/(Region.wanted o (yielded ops a.tmps)=false/\v=undef)
theorem YK{a:Act}{d:Nat}(hs:Sl n U a)(hk:vo o.op=true)(hd:o.dst=some d)(hdn:Nat.blt d n=true)(h:RO P n ops w Q (o::rest) U):
  ∃v,F5 P ops w a o v/\RO P n ops w Q rest (eG U d v):=by
 have h1:=h a hs;unfold wpList at h1;split at h1
 ·rename_i hw
  rcases h1 with h1|⟨_,h1⟩
  ·unfold Oper.wp at h1
   cases hr:(execOp a.eval o).run P w with
   |ok nx w'=>
    rw[hr]at h1;obtain⟨v,rfl⟩:=Gy hk hr;obtain⟨σ',hs',_,hw',hrest⟩:=h1;have hw':w'=w:=hw';subst hw';rw[hd]at hs';have:=hs'.uniq<|hs.put hdn v
    subst this;exact⟨v, .inl ⟨hw,hr⟩,hrest⟩
   |halt x w'=>
    rw[hr]at h1
    cases x with
    |panic v=>obtain⟨_,_,hbad,_⟩:=h1;cases hbad
    |_=>exact h1.elim
  ·obtain⟨_,_,_,_,hbad,_⟩:=h1;cases hbad
 ·rename_i hw;obtain⟨σ',hs',_,_,hrest⟩:=h1;rw[hd]at hs';have:=hs'.uniq<|hs.put hdn undef
  subst this;exact⟨undef, .inr ⟨by grind,rfl⟩,hrest⟩
def A9(U:Nat->aV):aL bL->aL aV->(Nat->aV)
 |o::l,v::vs=>A9 (match o.dst with|some d=>eG U d v|none=>U) l vs
 |_,_=>U
theorem YL:∀(l:aL bL)(U:Nat->aV)(a:Act),Sl n U a->(∀o∈l,vo o.op=true/\∃d,o.dst=some d/\Nat.blt d n=true)->RO P n ops w Q l U->
  ∃vs:aL aV,vs.length=l.length/\Q .normal (A9 U l vs) w/\∀(j:Nat)o v,l[j]? =some o->vs[j]? =some v->∃aj,Sl n (A9 U (l.take j)<|vs.take j) aj/\F5 P ops w aj o v:=by
 intro l
 induction l with
 |nil=>intro U a hs _ h;exact⟨[],rfl,h,λj o v ho=>by simp at ho⟩
 |cons o l ih=>
  intro U a hs hk h;obtain⟨hk1,d,hd,hdn⟩:=hk o (by simp);obtain⟨v,hst,hrest⟩:=YK hs hk1 hd hdn h;obtain⟨vs,hl,hq,hj⟩:=ih (eG U d v) _ (hs.put hdn v) (λo' ho'=>hk o' (by simp[ho'])) hrest;refine⟨v::vs,by simp[hl],?_,λj o' v' ho hv=>?_⟩
  ·grind [A9]
  ·cases j with
   |zero=>
    simp at ho hv;subst ho;subst hv;exact⟨a,hs,hst⟩
   |succ j=>
    grind [A9]
theorem vq{t:Nat}:∀(l:aL bL)(vs:aL aV)(U:Nat->aV),(∀o∈l,o.dst≠some t)->A9 U l vs t=U t
 | [],_,U,_=>rfl
 |_::_,[],U,_=>rfl
 |o::l,v::vs,U,h=>by
  unfold A9;rw[vq l vs _<|λo' ho=>h o' (by simp[ho])]
  cases hd:o.dst with
  |none=>rfl
  |some d=>
   have hne:t≠d:=λe=>h o (by simp) (by rw[hd,e]);show eG U d v t=U t;unfold eG
   cases hb:Nat.beq t d with
   |true=>exact absurd (fP hb) hne
   |false=>rfl
theorem EY{t:Nat}:∀(l:aL bL)(vs:aL aV)(U:Nat->aV)(j:Nat)(o:bL)(v:aV),l[j]? =some o->vs[j]? =some v->o.dst=some t->
  (∀(k:Nat)o',l[k]? =some o'->k≠j->o'.dst≠some t)->A9 U l vs t=v
 | [],_,_,_,_,_,h,_,_,_=>by simp at h
 |_::_,[],_,_,_,_,_,h,_,_=>by simp at h
 |o::l,v::vs,U,0,o',v',ho,hv,hd,hu=>by
  simp at ho hv;subst ho;subst hv;unfold A9
  rw[vq l vs _ (λo' ho=>by
   obtain⟨k,hk⟩:=List.mem_iff_getElem?.1 ho
   exact hu (k+1) o' (by grind) (by omega)),hd]
  show eG U t v t=v;unfold eG;rw[Nat.beq_refl];rfl
 |o::l,v::vs,U,j+1,o',v',ho,hv,hd,hu=>by
  unfold A9;exact EY l vs _ j o' v' (by grind) (by grind) hd<|λk o2 hk hne=>hu (k+1) o2 (by grind) (by omega)
def yV(o:bL)(k:Nat):Bool:=o.after.toList.any λe=>Region.binds .any e&&Nat.beq e.on k
def Ba(ops:bB bL)(o:bL)(d:Nat):Bool:=(o.looksAt ops).any λt=>Nat.beq t d
def B9(ops:bB bL)(i:Nat)(o:bL)(k:Nat)(o':bL):Bool:=
 Nat.beq i k||match o'.dst with
  |some d=>(match o.dst with|some d2=> !Nat.beq d d2|none=>true)&&(!Ba ops o d||(bif Nat.blt k i then yV o k else yV o' i))
  |none=>false
def D7(ops:bB bL)(i:Nat)(o:bL):Nat->aL bL->Bool
 |_,[]=>true
 |k,o'::l=>B9 ops i o k o'&&D7 ops i o (k+1) l
def Gz(n:Nat)(ops:bB bL)(l:aL bL):Nat->aL bL->Bool
 |_,[]=>true
 |i,o::l'=>vo o.op&&(match o.dst with|some d=>Nat.blt d n|none=>false)&&D7 ops i o 0 l&&Gz n ops l (i+1) l'
theorem yW{i:Nat}:∀{k:Nat}{l:aL bL},D7 ops i o k l=true->∀(j:Nat)o',l[j]? =some o'->B9 ops i o (k+j) o'=true
 |_,[],_,j,o',h=>by simp at h
 |k,p::l,hs,0,o',h=>by
  unfold D7 at hs;rw[dB]at hs;simp at h;subst h;exact hs.1
 |k,p::l,hs,j+1,o',h=>by
  unfold D7 at hs;rw[dB]at hs;have:=yW hs.2 j o' (by simpa using h);rw[show k+(j+1)=k+1+j by omega];exact this
theorem GA{l0:aL bL}:∀{i:Nat}{l:aL bL},Gz n ops l0 i l=true->∀(j:Nat)o,l[j]? =some o->vo o.op=true/\(∃d,o.dst=some d/\Nat.blt d n=true)/\D7 ops (i+j) o 0 l0=true
 |_,[],_,j,o',h=>by simp at h
 |i,p::l,hs,0,o',h=>by
  unfold Gz at hs;simp only[dB]at hs;simp at h;subst h;refine⟨hs.1.1.1,?_,hs.1.2⟩;have:=hs.1.1.2
  cases hd:p.dst with
  |none=>rw[hd]at this;cases this
  |some d=>rw[hd]at this;exact⟨d,rfl,this⟩
 |i,p::l,hs,j+1,o',h=>by
  unfold Gz at hs;simp only[dB]at hs;have:=GA hs.2 j o' (by simpa using h);rw[show i+(j+1)=i+1+j by omega];exact this
theorem n7{D:Nat->Bool}{k:Nat}:∀{l:aL Edge},nZ D l->(l.any λe=>Region.binds .any e&&Nat.beq e.on k)=true->D k=true
 | [],_,h=>by cases h
 |e::l,hd,h=>by
  rw[List.any_cons,ij,dB]at h
  rcases h with⟨h1,h2⟩|h
  ·have:=hd.1 h1;rwa[fP h2]at this
  ·exact n7 hd.2 h
theorem tO{a a':Act}{U σ':Nat->aV}(hs:Sl n U a)(hs':Sl n σ' a')(h:∀t,Ba ops o t=true->U t=σ' t)(hsz:∀(g:Nat)o2 d,ops[g]? =some o2->o2.dst=some d->d<n):
  Region.wanted o (yielded ops a.tmps)=Region.wanted o (yielded ops a'.tmps):=by
 unfold Region.wanted;split
 ·rfl
 ·rename_i g want hg;have:yielded ops a.tmps g=yielded ops a'.tmps g:=by
   unfold yielded
   cases ho:ops[g]? with
   |none=>rfl
   |some o2=>
    cases hd:o2.dst with
    |none=>simp[hd]
    |some d=>
     have hlt:=hsz g o2 d ho hd
     have he:=h d (by
      unfold Ba Oper.looksAt
      simp_all)
     have h1:=hs.get d;have h2:=hs'.get d;have l1:d<a.tmps.size:=by rw[hs.size];exact hlt
     have l2:d<a'.tmps.size:=by rw[hs'.size];exact hlt
     simp_all
  rw[this]
theorem tP{F:Nat->bL->Prop}:∀{k:Nat}{l:aL bL},(∀(i:Nat)o,l[i]? =some o->F (k+i) o)->pL F k l
 |_,[],_=>trivial
 |k,p::l,h=>⟨h 0 p rfl,tP (λi o ho=>by have:=h (i+1) o (by grind);grind)⟩
theorem yX(D:Nat->Bool)(i:Nat):ins D i i=true:=by simp[ins,Nat.beq_refl]
theorem qq{D:Nat->Bool}{i j:Nat}(h:j≠i):ins D i j=D j:=by
 unfold ins
 simp_all
theorem WD{id:Nat}{l:aL bL}(hm:P.follows .mixedOrders=true)(h:RO P n l.toArray w.drew Q l U)(hdep:vf 0 l=true:=by exact rfl)(hro:Gz n l.toArray l 0 l=true:=by kernel_rfl):RC P n (.region id l.toArray true) U w Q:=by
 intro a0 ha0;have hA:=λj o(ho:l[j]? =some o)=>GA hro j o ho
 obtain⟨vs,hvl,hq,hst⟩:=YL l U a0 ha0 (λo ho=>by
  grind [List.mem_iff_getElem?]) h
 have hsz:∀(g:Nat)o2 d,l.toArray[g]? =some o2->o2.dst=some d->d<n:=λg o2 d ho hd=>by
  grind [Nat.blt_eq]
 have hdist:∀(i k:Nat)o o' t,l[i]? =some o->l[k]? =some o'->k≠i->o.dst=some t->o'.dst≠some t:=λi k o o' t ho ho' hne hd hd'=>by
  have hp:=yW (hA i o ho).2.2 k o' ho';unfold B9 at hp
  simp_all
 refine XQ (U:=U) (w:=w) hm hdep (λD σ' w'=>w'=w.drew/\(∀(i:Nat)o v t,l[i]? =some o->vs[i]? =some v->o.dst=some t->D i=true->σ' t=v)/\(∀t,(∀(i:Nat)o,l[i]? =some o->o.dst=some t->D i=false)->σ' t=U t)) ?_ ?_ ?_ a0 ha0
 ·simp
 ·refine tP λi o ho=>?_;rw[gL];rintro D σ' w' hD hdeps hcl⟨rfl,hJ1,hJ2⟩;obtain⟨hk,⟨d,hd,hdn⟩,hrow⟩:=hA i o ho;rw[gL]at hrow;have hiv:i<vs.length:=by grind
  obtain⟨ai,hsi,hstp⟩:=hst i o vs[i] ho<|aM hiv
  have hag:∀t,Ba l.toArray o t=true->A9 U (l.take i) (vs.take i) t=σ' t:=by
   intro t ht
   by_cases hex:∃(k:Nat)(o':bL),l[k]? =some o'/\o'.dst=some t
   ·obtain⟨k,o',ho',hd'⟩:=hex;have hkv:k<vs.length:=by rw[hvl];exact(bN.1 ho').1
    by_cases hki:k<i
    ·have hp:=yW hrow k o' ho';rw[gL]at hp;unfold B9 at hp;rw[hd',ij]at hp
     rcases hp with hp|hp
     ·have:=fP hp;omega
     simp only[dB,ij,Bool.not_eq_true']at hp;have hp2:=hp.2;rw[ht]at hp2
     rcases hp2 with hp2|hp2
     ·cases hp2
     have hb:Nat.blt k i=true:=by rw[Nat.blt_eq];exact hki
     rw[hb]at hp2;have hDk:=n7 hdeps hp2;rw[hJ1 k o' vs[k] t ho' (aM hkv) hd' hDk];refine EY (l.take i) (vs.take i) U k o' vs[k] (by rw[gZ,aH hki];exact ho') (by rw[gZ,aH hki];exact aM hkv) hd' λk2 o2 hk2 hne=>?_;rw[gZ]at hk2;split at hk2
     ·exact hdist k k2 o' o2 t ho' hk2 hne hd'
     ·cases hk2
    ·have hDk:D k=false:=by
      by_cases he:k=i
      ·subst he;exact hD
      ·have hp:=yW hrow k o' ho';rw[gL]at hp;unfold B9 at hp;rw[hd',ij]at hp
       rcases hp with hp|hp
       ·have:=fP hp;omega
       simp only[dB,ij,Bool.not_eq_true']at hp;have hp2:=hp.2;rw[ht]at hp2
       rcases hp2 with hp2|hp2
       ·cases hp2
       have hb:Nat.blt k i=false:=by
        cases hx:Nat.blt k i with
        |false=>rfl
        |true=>rw[Nat.blt_eq]at hx;omega
       rw[hb]at hp2;refine nf λhDk=>?_;have:=n7 (hcl k o' ho' hDk) hp2;rw[hD]at this;cases this
     rw[hJ2 t λk2 o2 ho2 hd2=>?_]
     ·refine vq _ _ _ λo2 ho2 hd2=>?_;obtain⟨k2,hk2⟩:=List.mem_iff_getElem?.1 ho2;rw[gZ]at hk2;split at hk2
      ·rename_i hlt;exact hdist k k2 o' o2 t ho' hk2 (by omega) hd' hd2
      ·cases hk2
     ·by_cases he:k2=k
      ·subst he;exact hDk
      ·exact absurd hd2<|hdist k k2 o' o2 t ho' ho2 he hd'
   ·rw[hJ2 t λk o' ho' hd'=>absurd ⟨k,o',ho',hd'⟩ hex];refine vq _ _ _ λo2 ho2 hd2=>?_;obtain⟨k2,hk2⟩:=List.mem_iff_getElem?.1 ho2;rw[gZ]at hk2;split at hk2
    ·exact hex ⟨k2,o2,hk2,hd2⟩
    ·cases hk2
  intro a' hs';have hrun:execOp a'.eval o=execOp ai.eval o:=execOp_congr o (λcs b e=>by rw[e]at hk;cases hk) λx hx=>by
   rw[hs'.ev,hsi.ev]
   cases x with
   |tmp t=>
    refine(hag t ?_).symm;unfold Ba Oper.looksAt;rw[List.any_append,ij];left;rw[lq];exact⟨t,List.mem_filterMap.2 ⟨.tmp t,by simpa using hx,rfl⟩,Nat.beq_refl t⟩
   |_=>rfl
  have hwant:=tO (ops:=l.toArray) (o:=o) hsi hs' hag hsz;have hfin:∀v,vs[i]? =some v->(∀(k:Nat)o2 u t,l[k]? =some o2->vs[k]? =some u->o2.dst=some t->ins D i k=true->eG σ' d v t=u)/\(∀t,(∀(k:Nat)o2,l[k]? =some o2->o2.dst=some t->ins D i k=false)->eG σ' d v t=U t):=by
   intro v hv;refine⟨λk o2 u t ho2 hu hd2 hDk=>?_,λt ht=>?_⟩
   ·by_cases he:k=i
    ·subst he;rw[ho]at ho2;injection ho2 with ho2;subst ho2
     rw[hd]at hd2;injection hd2 with hd2;subst hd2
     rw[hv]at hu;injection hu with hu;subst hu
     unfold eG;rw[Nat.beq_refl];rfl
    ·rw[qq he]at hDk;have hne:t≠d:=λe=>by subst e;exact hdist i k o o2 t ho ho2 he hd hd2
     unfold eG
     cases hb:Nat.beq t d with
     |true=>exact absurd (fP hb) hne
     |false=>exact hJ1 k o2 u t ho2 hu hd2 hDk
   ·have hne:t≠d:=λe=>by
     subst e;have:=ht i o ho hd;rw[yX]at this;cases this
    unfold eG
    cases hb:Nat.beq t d with
    |true=>exact absurd (fP hb) hne
    |false=>
     refine hJ2 t λk o2 ho2 hd2=>?_;have:=ht k o2 ho2 hd2
     by_cases he:k=i
     ·subst he;exact hD
     ·rw[qq he]at this;exact this
  unfold wpList
  rcases hstp with⟨hw1,hr1⟩|⟨hw1,hv1⟩
  ·rw[hwant]at hw1;rw[aH hw1];left;unfold Oper.wp;rw[hrun,hr1];refine⟨eG σ' d vs[i],?_,rfl,rfl,hfin _<|aM hiv⟩;rw[hd];exact hs'.put hdn _
  ·rw[hwant]at hw1;rw[aF (by rw[hw1];exact wF)];refine⟨eG σ' d undef,?_,rfl,rfl,hfin _ (by rw[<-hv1];exact aM hiv)⟩;rw[hd];exact hs'.put hdn _
 ·rintro D σ' w' hall⟨rfl,hJ1,hJ2⟩;have:σ'=A9 U l vs:=by
   funext t
   by_cases hex:∃(k:Nat)(o':bL),l[k]? =some o'/\o'.dst=some t
   ·obtain⟨k,o',ho',hd'⟩:=hex;have hkl:=(bN.1 ho').1;have hkv:k<vs.length:=by rw[hvl];exact hkl
    rw[hJ1 k o' vs[k] t ho' (aM hkv) hd'<|hall k hkl];exact(EY l vs U k o' vs[k] ho' (aM hkv) hd' λk2 o2 hk2 hne=>hdist k k2 o' o2 t ho' hk2 hne hd').symm
   ·rw[hJ2 t λk o' ho' hd'=>absurd ⟨k,o',ho',hd'⟩ hex];refine(vq _ _ _ λo2 ho2 hd2=>?_).symm;obtain⟨k2,hk2⟩:=List.mem_iff_getElem?.1 ho2;exact hex ⟨k2,o2,hk2,hd2⟩
  rw[this];exact hq
end
def O2:aL (Nat×aV)->Nat->aV
 | [],_=>undef
 |(d,v)::r,t=>bif Nat.beq d t then v else O2 r t
def EZ:aL (Nat×Nat×aV)->aL (Nat×aV)->Nat->aV
 | [],ag,t=>O2 ag t
 |(_,d,v)::r,ag,t=>bif Nat.beq d t then v else EZ r ag t
def F6(dv:aL (Nat×Nat×aV))(ag:aL (Nat×aV)):bK->aV
 | .tmp t=>EZ dv ag t
 | .const v=>v
 | .global g=> .pointer (some ⟨g,0,none⟩)
 | .func f=> .func (.func f) #[] #[]
def oL(ops:bB bL)(o:bL):bK->Bool
 | .tmp t=>Ba ops o t
 |_=>true
def Pu(P:bP)(n:Nat)(ops:bB bL)(o:bL)(dv:aL (Nat×Nat×aV))(ag:aL (Nat×aV)):Prop:=
 ∀(U:Nat->aV)(w:aW),(∀q,oL ops o q=true->ev U q=F6 dv ag q)->RL P n ops [o] U w (λex σ' w'=>ex = .normal/\w'=w/\∃d,o.dst=some d/\σ'=eG U d (EZ dv ag d))
section
variable {P:bP}{n:Nat}{ops:bB bL}{U:Nat->aV}{w:aW}{d:Nat}{v u:aV}{rest:aL bL}{ty T T':bR}{pos:String}{af:bB Edge}{g:aU (Nat×Bool)}{x y z:bK}{Q:gv}
theorem Xd{f:Nat->aV}(h:v=f d):RL P n ops [] (eG U d v) w (λex σ' w'=>ex = .normal/\w'=w/\∃d',(some d:aU Nat)=some d'/\σ'=eG U d' (f d')):=
 by grind [By]
theorem YM{b:Bool}(hg:Wn ops U g)(hd:Nat.blt d n=true)(hx:ev U x = .bool b)(hb:b=true)(hv:ev U y=v)(k:RL P n ops rest (eG U d v) w Q):
  RL P n ops (⟨some d, .pick x y z,ty,pos,af,g⟩::rest) U w Q:=by grind [Wl]
theorem YN{b:Bool}(hg:Wn ops U g)(hd:Nat.blt d n=true)(hx:ev U x = .bool b)(hb:b=false)(hv:ev U z=v)(k:RL P n ops rest (eG U d v) w Q):
  RL P n ops (⟨some d, .pick x y z,ty,pos,af,g⟩::rest) U w Q:=by grind [Wl]
theorem Wn.k{j t:Nat}{b:Bool}(h1:(ops[j]?).bind (·.dst)=some t)(h:ev U (.tmp t) = .bool b):Wn ops U (some (j,b)):=⟨t,h1,h⟩
theorem Wn.h{j t:Nat}{a b:Bool}(h1:(ops[j]?).bind (·.dst)=some t)(h:ev U (.tmp t) = .bool a)(e:a=b):Wn ops U (some (j,b)):=⟨t,h1,by rw[<-e];exact h⟩
theorem YO{op:Op}{j t:Nat}{a b:Bool}(ht:(ops[j]?).bind (·.dst)=some t)(hv:ev U (.tmp t) = .bool a)(e:a = !b)(hd:Nat.blt d n=true)
  (k:RL P n ops rest (eG U d undef) w Q):RL P n ops (⟨some d,op,ty,pos,af,some (j,b)⟩::rest) U w Q:=XL ht (.inl (by rw[<-e];exact hv)) hd k
end
def xJ:aL (Nat×Nat×aV)->Nat->aU Nat
 | [],_=>none
 |(k,d,_)::r,t=>bif Nat.beq d t then some k else xJ r t
def Kn(ag:aL (Nat×aV))(t:Nat):Bool:=ag.any λp=>Nat.beq p.1 t
def PN(ops:bB bL)(i:Nat)(o:bL)(cs:aL Nat)(dv:aL (Nat×Nat×aV))(ag:aL (Nat×aV))(od:aL (Nat×Nat×aV)):Bool:=
 ((o.looksAt ops).all λt=>match xJ dv t with|some k=>yV o k|none=>Kn ag t)&&
 (match o.dst with
  |some d=>Nat.beq (xJ dv d).isNone.toNat 0&&(dv.all λe=>(!Nat.beq e.1 i||Nat.beq e.2.1 d)&&(!Nat.beq e.2.1 d||Nat.beq e.1 i))&&Nat.beq (dv.filter λe=>Nat.beq e.2.1 d).length 1&& !Kn ag d&&
    (od.all λe=>Nat.beq e.1 i|| !Nat.beq e.2.1 d)
  |none=>false)&&(cs.all λc=> !Nat.beq c i)&& !Nat.beq i 999
def GB(ops:bB bL)(cs:aL Nat)(dv:aL (Nat×Nat×aV))(ag:aL (Nat×aV))(od:aL (Nat×Nat×aV)):Nat->aL bL->aL Nat->Bool
 |_,[],_=>true
 |_,_::_,[]=>false
 |i,o::l,m::ms=>(!Nat.beq m 1||PN ops i o cs dv ag od)&&GB ops cs dv ag od (i+1) l ms
theorem GC{ops:bB bL}{cs:aL Nat}{dv:aL (Nat×Nat×aV)}{ag:aL (Nat×aV)}{od:aL (Nat×Nat×aV)}:∀{i:Nat}{l:aL bL}{ms:aL Nat},GB ops cs dv ag od i l ms=true->
  ∀(j:Nat)o,l[j]? =some o->ms[j]? =some 1->PN ops (i+j) o cs dv ag od=true
 |_,[],_,_,j,o,h,_=>by simp at h
 |_,_::_,[],h0,_,_,_,h=>by simp at h
 |i,p::l,m::ms,h0,0,o,h,hm=>by
  unfold GB at h0;rw[dB]at h0;simp at h hm;subst h;subst hm
  rcases ij _ _▸h0.1 with h|h
  ·cases h
  ·exact h
 |i,p::l,m::ms,h0,j+1,o,h,hm=>by
  unfold GB at h0;rw[dB]at h0;have:=GC h0.2 j o (by simpa using h) (by grind);rw[show i+(j+1)=i+1+j by omega];exact this
theorem Ab{ag:aL (Nat×aV)}{t k:Nat}:∀{dv:aL (Nat×Nat×aV)},xJ dv t=some k->∃v,(k,t,v)∈dv/\EZ dv ag t=v
 | [],h=>by cases h
 |(k',d,v)::r,h=>by
  unfold xJ at h;unfold EZ
  cases hb:Nat.beq d t with
  |true=>
   rw[hb]at h;simp at h;subst h;have:=fP hb;subst this;exact⟨v,by simp,rfl⟩
  |false=>
   rw[hb]at h;obtain⟨u,h1,h2⟩:=Ab (ag:=ag) h;exact⟨u,by simp[h1],h2⟩
theorem Ca{ag:aL (Nat×aV)}{t:Nat}:∀{dv:aL (Nat×Nat×aV)},xJ dv t=none->EZ dv ag t=O2 ag t
 | [],_=>rfl
 |(k',d,v)::r,h=>by
  unfold xJ at h;unfold EZ
  cases hb:Nat.beq d t with
  |true=>rw[hb]at h;cases h
  |false=>rw[hb]at h;exact Ca h
theorem dY.mem{D:Nat->Bool}{U:Nat->aV}{k t:Nat}{v:aV}:∀{dv:aL (Nat×Nat×aV)},dY D U dv->(k,t,v)∈dv->D k=true->U t=v
 | [],_,h,_=>by cases h
 |(i,d,u)::r,hd,h,hD=>by
  rcases eV.1 h with e|h
  ·injection e with e1 e2;injection e2 with e2 e3;subst e1;subst e2;subst e3;exact hd.1 hD
  ·exact hd.2.mem h hD
theorem dY.of{D:Nat->Bool}{U:Nat->aV}:∀{dv:aL (Nat×Nat×aV)},(∀k t v,(k,t,v)∈dv->D k=true->U t=v)->dY D U dv
 | [],_=>trivial
 |(i,d,u)::r,h=>⟨h i d u (by simp),dY.of λk t v hm=>h k t v (by simp[hm])⟩
theorem agree.O2{U:Nat->aV}{t:Nat}:∀{ag:aL (Nat×aV)},agree U ag->Kn ag t=true->U t=O2 ag t
 | [],_,h=>by cases h
 |(d,v)::r,ha,h=>by
  unfold Gk.O2
  cases hb:Nat.beq d t with
  |true=>have:=fP hb;subst this;exact ha.1
  |false=>
   unfold Kn at h;rw[List.any_cons,hb]at h;exact agree.O2 ha.2 h
theorem agree.U8{U:Nat->aV}{d:Nat}{v:aV}:∀{ag:aL (Nat×aV)},agree U ag->Kn ag d=false->agree (eG U d v) ag
 | [],_,_=>trivial
 |(t,u)::r,ha,h=>by
  unfold Kn at h;rw[List.any_cons,Bool.or_eq_false_iff]at h;refine⟨?_,agree.U8 ha.2 h.2⟩;unfold eG;rw[h.1];exact ha.1
theorem W1{P:bP}{n:Nat}{U:Nat->aV}{w:aW}(E:aW){Q:gv}(V:aL HP){X:Type}{id:Nat}{l:aL bL}(hm:P.follows .mixedOrders=true)(ms cs:aL Nat)(dv:X->aL (Nat×Nat×aV))(ag:aL (Nat×aV))(od:aL (Nat×Nat×aV))(g:(Nat->Bool)->X->aL HP)(hpu:∀x,GB l.toArray cs (dv x) ag od 0 l ms=true)(h0:∃x,dY (λ_=>false) U (dv x)/\agree U ag/\sW (λ_=>false) U od/\Holds E w.drew (g (λq=>(λ_=>false) (cs.getD q 999)) x++V))(step:pL (λi o=>bif Nat.beq (ms.getD i 0) 1 then(∀x,Pu P n l.toArray o (dv x) ag)else
   (∀D U w,D i=false->nZ D o.after.toList->tM l D->(∃x,dY D U (dv x)/\agree U ag/\sW D U od/\Holds E w (g (λq=>D (cs.getD q 999)) x++V))->
    RL P n l.toArray [o] U w (λex U w=>ex = .normal/\∃x,dY (ins D i) U (dv x)/\agree U ag/\sW (ins D i) U od/\Holds E w (g (λq=>ins D i (cs.getD q 999)) x++V)))) 0 l) (hend:∀D U w,(∀i,i<l.length->D i=true)->(∃x,dY D U (dv x)/\agree U ag/\sW D U od/\Holds E w (g (λq=>D (cs.getD q 999)) x++V))->Q .normal U w) (hdep:vf 0 l=true:=by exact rfl):RC P n (.region id l.toArray true) U w Q:=by
 refine XQ hm hdep (λD U w=>∃x,dY D U (dv x)/\agree U ag/\sW D U od/\Holds E w (g (λq=>D<|cs.getD q 999) x++V)) h0 ?_ hend;refine tP λi o ho=>?_;have hs:=step.at i o ho;rw[gL]at hs ⊢
 cases hmi:Nat.beq (ms.getD i 0) 1 with
 |false=>grind
 |true=>
  rw[hmi]at hs;have hs:∀x,Pu P n l.toArray o (dv x) ag:=hs;have hms:ms[i]? =some 1:=by
   grind [fP]
  rintro D U w hD hdeps hcl⟨x,hv,ha,hod,hw⟩;have hok:=GC (hpu x) i o ho hms;rw[gL]at hok;unfold PN at hok;simp only[dB]at hok;obtain⟨⟨⟨h1,h2⟩,h3⟩,h4⟩:=hok;have hsee:∀q,oL l.toArray o q=true->ev U q=F6 (dv x) ag q:=by
   intro q hq
   cases q with
   |tmp t=>
    have ht:t∈o.looksAt l.toArray:=by
     grind [oL,Ba,lq,fP]
    have h1t:=mQ.1 h1 t ht;show U t=EZ (dv x) ag t
    cases hf:xJ (dv x) t with
    |some k=>
     rw[hf]at h1t;obtain⟨v,hm,hv2⟩:=Ab (ag:=ag) hf;rw[hv2];exact hv.mem hm<|n7 hdeps h1t
    |none=>
     rw[hf]at h1t;rw[Ca hf];exact ha.O2 h1t
   |const v=>rfl
   |global g=>rfl
   |func f=>rfl
  have hrun:=hs x U w hsee;intro a haa;have hr:=hrun a haa
  cases hdst:o.dst with
  |none=>rw[hdst]at h2;cases h2
  |some d=>
   rw[hdst]at h2;simp only[dB]at h2;obtain⟨⟨⟨⟨e1,e2⟩,e3⟩,e4⟩,e5⟩:=h2;obtain⟨k0,hf⟩:∃k,xJ (dv x) d=some k:=by
    cases hf:xJ (dv x) d with
    |some k=>exact⟨k,rfl⟩
    |none=>rw[hf]at e1;cases e1
   obtain⟨v,hmv,hv2⟩:=Ab (ag:=ag) hf;have fin:∀σ',σ'=eG U d v->∃x,dY (ins D i) σ' (dv x)/\agree σ' ag/\sW (ins D i) σ' od/\Holds E w (g (λq=>ins D i<|cs.getD q 999) x++V):=by
    rintro σ' rfl
    refine⟨x,dY.of λk t u hm hDk=>?_,ha.U8 (by simpa using e4),hod.up (by
     rw[mQ];intro e he;have:=mQ.1 e5 e he
     exact this),?_⟩
    ·have he:=mQ.1 e2 (k,t,u) hm;simp only[dB,ij,Bool.not_eq_true']at he
     by_cases htd:t=d
     ·subst htd;have hlen:=fP e3;have hm1:(k,t,u)∈(dv x).filter λe=>Nat.beq e.2.1 t:=by rw[jC];exact⟨hm,Nat.beq_refl t⟩
      have hm2:(k0,t,v)∈(dv x).filter λe=>Nat.beq e.2.1 t:=by rw[jC];exact⟨hmv,Nat.beq_refl t⟩
      obtain⟨z,hz⟩:=List.length_eq_one_iff.1 hlen;rw[hz]at hm1 hm2;simp at hm1 hm2;have:=hm1.trans hm2.symm;injection this with _ this;injection this with _ this
      subst this;unfold eG;rw[Nat.beq_refl];rfl
     ·have hki:k≠i:=λe=>by
       subst e
       rcases he.1 with h|h
       ·rw[Nat.beq_refl]at h;cases h
       ·exact htd<|fP h
      rw[qq hki]at hDk;unfold eG
      cases hb:Nat.beq t d with
      |true=>exact absurd (fP hb) htd
      |false=>exact hv.mem hm hDk
    ·have:(λq=>ins D i<|cs.getD q 999)=(λq=>D<|cs.getD q 999):=by
      funext q;refine qq λe=>?_;rw[List.getD_eq_getElem?_getD]at e
      cases hq:cs[q]? with
      |some c=>
       rw[hq]at e;have hc:=mQ.1 h3 c<|gA hq
       have e:c=i:=e;subst e;rw[Nat.beq_refl]at hc;cases hc
      |none=>
       rw[hq]at e;have e:999=i:=e;subst e;cases h4
     rw[this];exact hw
   unfold wpList at hr ⊢;split at hr
   ·rename_i hwn;rw[aH hwn]
    rcases hr with hr|⟨h2,h3⟩
    ·refine .inl<|BZ (λa w' h=>?_) (λc a w' h=>?_) (λh=>?_) hr
     ·obtain⟨σ',hs',_,hw',d',hd',he⟩:=h;have hd':some d=some d':=by rw[<-hdst];exact hd'
      injection hd' with hd';subst hd'
      have hw':w'=w:=hw';subst hw';exact⟨σ',hs',rfl,fin σ' (by rw[he,hv2])⟩
     ·obtain⟨_,_,hbad,_⟩:=h;cases hbad
     ·obtain⟨_,_,_,_,hbad,_⟩:=h;cases hbad
    ·obtain⟨_,_,_,_,hbad,_⟩:=h3;cases hbad
   ·rename_i hwn;rw[aF hwn];obtain⟨σ',hs',_,hw',d',hd',he⟩:=hr;have hd':some d=some d':=by rw[<-hdst];exact hd'
    injection hd' with hd';subst hd'
    exact⟨σ',hs',rfl,fin σ' (by rw[he,hv2])⟩
section
variable {P:bP}{n:Nat}{ops:bB bL}{d:Nat}{v u:aV}{ty T T' t0:bR}{pos:String}{af:bB Edge}{g:aU (Nat×Bool)}{q r y z:bK}{dv:aL (Nat×Nat×aV)}{ag:aL (Nat×aV)}{a b:Bool}{o:bL}
def PG(ops:bB bL)(o:bL)(dv:aL (Nat×Nat×aV))(ag:aL (Nat×aV))(g:aU (Nat×Bool)):Prop:=∀U:Nat->aV,(∀q,oL ops o q=true->ev U q=F6 dv ag q)->Wn ops U g
theorem gn:PG ops o dv ag none:=λ_ _=>trivial
theorem gy{j t:Nat}(e:a=b)(h:((ops[j]?).bind (·.dst),oL ops o<|.tmp t,F6 dv ag<|.tmp t)=(some t,true, .bool a)):PG ops o dv ag (some (j,b)):=λU hs=>by
 injection h with h1 h;injection h with h2 h3
 exact⟨t,h1,by have:=hs (.tmp t) h2;rw[h3,e]at this;exact this⟩
theorem Ko{op:Op}{j t:Nat}(e:a = !b)(h:((ops[j]?).bind (·.dst),oL ops ⟨some d,op,ty,pos,af,some (j,b)⟩<|.tmp t,F6 dv ag<|.tmp t,Nat.blt d n,undef)=(some t,true, .bool a,true,EZ dv ag d):=by exact rfl):
  Pu P n ops ⟨some d,op,ty,pos,af,some (j,b)⟩ dv ag:=λU w hs=>by
 injection h with h1 h;injection h with h2 h;injection h with h3 h;injection h with h4 h5
 exact YO h1 ((hs _ h2).trans h3) e h4<|Xd h5
theorem ka(hg:PG ops ⟨some d, .move q,ty,pos,af,g⟩ dv ag g)(h:(Nat.blt d n,oL ops ⟨some d, .move q,ty,pos,af,g⟩ q,F6 dv ag q)=(true,true,EZ dv ag d):=by exact rfl):Pu P n ops ⟨some d, .move q,ty,pos,af,g⟩ dv ag:=λU w hs=>by
 injection h with h1 h;injection h with h2 h3
 exact VK (hd:=h1) (hx:=hs _ h2) _ (hg U hs)<|Xd h3
theorem Tw(hg:PG ops ⟨some d, .assign q,ty,pos,af,g⟩ dv ag g)(h:(Nat.blt d n,oL ops ⟨some d, .assign q,ty,pos,af,g⟩ q,F6 dv ag q)=(true,true,EZ dv ag d)):Pu P n ops ⟨some d, .assign q,ty,pos,af,g⟩ dv ag:=λU w hs=>by
 injection h with h1 h;injection h with h2 h3
 exact X9 (hg U hs) h1 (hs _ h2)<|Xd h3
theorem Dx{c:Addr}(hg:PG ops ⟨some d, .nilCheck q,ty,pos,af,g⟩ dv ag g)(h:(Nat.blt d n,oL ops ⟨some d, .nilCheck q,ty,pos,af,g⟩ q,F6 dv ag q,EZ dv ag d)=(true,true, .pointer<|some c, .pointer<|some c):=by exact rfl):Pu P n ops ⟨some d, .nilCheck q,ty,pos,af,g⟩ dv ag:=λU w hs=>by
 injection h with h1 h;injection h with h2 h;injection h with h3 h4
 exact Wg (hg U hs) h1 ((hs _ h2).trans h3)<|Xd h4.symm
theorem qs{c o' j m:Nat}(hg:PG ops ⟨some d, .fieldAddr T q j,ty,pos,af,g⟩ dv ag g)(hf:mm P T j m)(h:(Nat.blt d n,oL ops ⟨some d, .fieldAddr T q j,ty,pos,af,g⟩ q,F6 dv ag q,EZ dv ag d)=(true,true, .pointer<|some ⟨c,o',none⟩, .pointer<|some ⟨c,o'+m,none⟩):=by exact rfl):
  Pu P n ops ⟨some d, .fieldAddr T q j,ty,pos,af,g⟩ dv ag:=λU w hs=>by
 injection h with h1 h;injection h with h2 h;injection h with h3 h4
 exact AT (hg:=hg U hs) (hd:=h1) ((hs _ h2).trans h3) hf<|Xd h4.symm
theorem PO{bop:BinOp}{K:IntKind}{m k:Int}(hg:PG ops ⟨some d, .binOp bop T q r T',ty,pos,af,g⟩ dv ag g)
  (h:(Nat.blt d n,oL ops ⟨some d, .binOp bop T q r T',ty,pos,af,g⟩ q,oL ops ⟨some d, .binOp bop T q r T',ty,pos,af,g⟩ r,F6 dv ag q,F6 dv ag r,xI bop,EZ dv ag d)=(true,true,true, .int K m, .int K k,true, .bool<|i7 bop m k)):
  Pu P n ops ⟨some d, .binOp bop T q r T',ty,pos,af,g⟩ dv ag:=λU w hs=>by
 injection h with h1 h;injection h with h2 h;injection h with h3 h;injection h with h4 h;injection h with h5 h;injection h with h6 h7
 exact Ws (hd:=h1) (hx:=(hs _ h2).trans h4) (hy:=(hs _ h3).trans h5) (hc:=h6) _ _ (hg U hs)<|Xd h7.symm
theorem N5{bop:BinOp}{K:IntKind}{m k:Int}(hg:PG ops ⟨some d, .binOp bop T q r T',ty,pos,af,g⟩ dv ag g)
  (h:(Nat.blt d n,oL ops ⟨some d, .binOp bop T q r T',ty,pos,af,g⟩ q,oL ops ⟨some d, .binOp bop T q r T',ty,pos,af,g⟩ r,F6 dv ag q,F6 dv ag r,NM bop,EZ dv ag d)=(true,true,true, .int K m, .int K k,true, .int K<|K.wrap<|fF bop m k)):
  Pu P n ops ⟨some d, .binOp bop T q r T',ty,pos,af,g⟩ dv ag:=λU w hs=>by
 injection h with h1 h;injection h with h2 h;injection h with h3 h;injection h with h4 h;injection h with h5 h;injection h with h6 h7
 exact OF (hg:=hg U hs) (hd:=h1) (hx:=(hs _ h2).trans h4) (hy:=(hs _ h3).trans h5) (hc:=h6) _ _<|Xd h7.symm
theorem QY{i:Nat}{vs:bB aV}(hg:PG ops ⟨some d, .extract q i,ty,pos,af,g⟩ dv ag g)(h:(Nat.blt d n,oL ops ⟨some d, .extract q i,ty,pos,af,g⟩ q,F6 dv ag q,vs[i]?)=(true,true, .tuple vs,some<|EZ dv ag d)):
  Pu P n ops ⟨some d, .extract q i,ty,pos,af,g⟩ dv ag:=λU w hs=>by
 injection h with h1 h;injection h with h2 h;injection h with h3 h4
 exact V6 (hg:=hg U hs) (hd:=h1) (hx:=(hs _ h2).trans h3) (hi:=h4) _<|Xd (f:=λd=>EZ dv ag d) rfl
theorem Tx(hg:PG ops ⟨some d, .pick q y z,ty,pos,af,g⟩ dv ag g)(e:a=true)(h:(Nat.blt d n,oL ops ⟨some d, .pick q y z,ty,pos,af,g⟩ q,oL ops ⟨some d, .pick q y z,ty,pos,af,g⟩ y,F6 dv ag q,F6 dv ag y)=(true,true,true, .bool a,EZ dv ag d)):
  Pu P n ops ⟨some d, .pick q y z,ty,pos,af,g⟩ dv ag:=λU w hs=>by
 injection h with h1 h;injection h with h2 h;injection h with h3 h;injection h with h4 h5
 exact YM (hg U hs) h1 ((hs _ h2).trans h4) e (hs _ h3)<|Xd h5
theorem Tz(hg:PG ops ⟨some d, .pick q y z,ty,pos,af,g⟩ dv ag g)(e:a=false)(h:(Nat.blt d n,oL ops ⟨some d, .pick q y z,ty,pos,af,g⟩ q,oL ops ⟨some d, .pick q y z,ty,pos,af,g⟩ z,F6 dv ag q,F6 dv ag z)=(true,true,true, .bool a,EZ dv ag d)):
  Pu P n ops ⟨some d, .pick q y z,ty,pos,af,g⟩ dv ag:=λU w hs=>by
 injection h with h1 h;injection h with h2 h;injection h with h3 h;injection h with h4 h5
 exact YN (hg U hs) h1 ((hs _ h2).trans h4) e (hs _ h3)<|Xd h5
end
end Go.Gk
