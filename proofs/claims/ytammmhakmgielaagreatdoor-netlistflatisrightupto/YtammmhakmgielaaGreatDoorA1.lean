/-
  Helping texts on the memory of the model. No statement of the seed is proved here.
-/
import Derived.Tactics
import Derived.Orders
import Derived.Maps.AppendAt
import Derived.Laws.Tables
import Derived.Laws.CopyRow
import Derived.KernelRfl
import Derived.Laws.Cells
import Derived.Laws.Strings
import Derived.Lib.Strings
import Derived.Laws.AppendOwn
import Derived.Laws.Externs
import Derived.Lib.Bytealg
import Derived.Laws.OwnMore
import Derived.MapKept
import Derived.Laws.Append
import Derived.Maps.RangeRun
import Derived.Sort.AssemblyPlain
import Derived.Sort.Defs
import Derived.Sort.Statements
import Derived.Lib.BitFns
set_option linter.unusedVariables false
set_option linter.unusedSimpArgs false
set_option linter.unusedSectionVars false
namespace Go.Gk
open Go IntKind
theorem aM:∀{α:Type _}{l:List α}{i:Nat}(h:i<l.length),l[i]? =some l[i]:= @List.getElem?_eq_getElem
theorem bG:∀{α:Type _}{i:Nat}{a:α}{l:List α},l[i]? =some a↔∃h,l[i]=a:= @List.getElem?_eq_some_iff
theorem gX:∀{α:Type _}{i:Nat}{l:List α}(h:i<l.length),List.take (i+1) l=List.take i l++[l[i]]:= @List.take_succ_eq_append_getElem
theorem kj:∀(n:Nat),((n:Nat):Int).toNat=n:= @Int.toNat_natCast
theorem cO:∀{α:Type _}{l:List α}{n:Nat}(h:n<l.length),l[n]∈l:= @List.getElem_mem
theorem gp:∀{α:Type _}{β:Type _}{a0:List α}(f:α->β),(List.map f a0).length=a0.length:= @List.length_map
theorem bS:∀(a b:Bool),((a&&b)=true)=(a=true/\b=true):= @Bool.and_eq_true
theorem cT:∀{α:Type _}{a0 bs:List α},(a0++bs).length=a0.length+bs.length:= @List.length_append
theorem k8:∀{α:Type _}{a:α}{s t:List α},a∈s++t↔a∈s\/a∈t:= @List.mem_append
theorem dW:∀{α:Type _}{l:List α}{i:Nat}{a:α},l[i]? =some a->a∈l:= @List.mem_of_getElem?
theorem eX:∀{α:Type _}{β:Type _}{f:α->β}{l₁ l₂:List α},List.map f (l₁++l₂)=List.map f l₁++List.map f l₂:= @List.map_append
theorem cS:∀{n m:Nat},n.beq m=true->n=m:= @Nat.eq_of_beq_eq_true
theorem fR:∀{α:Type _}{l:List α}{i j:Nat},(List.take i l)[j]? =if j<i then l[j]? else none:= @List.getElem?_take
theorem iO:∀{α:Type _}{xs:List α}{i j:Nat},(List.drop i xs)[j]? =xs[i+j]? := @List.getElem?_drop
theorem fS:∀{α:Type _}{xs:Array α}{i:Nat}(h:i<xs.size),xs[i]? =some xs[i]:= @Array.getElem?_eq_getElem
theorem iP:∀{α:Type _}{l₁ l₂:List α}{i:Nat},i<l₁.length->(l₁++l₂)[i]? =l₁[i]? := @List.getElem?_append_left
theorem iG:∀{α:Type _}{l₁ l₂:List α}{i:Nat},l₁.length<=i->(l₁++l₂)[i]? =l₂[i - l₁.length]? := @List.getElem?_append_right
theorem bO:∀{α:Sort _}(a b:α),(bif true then a else b)=a:= @cond_true
theorem aZ:∀{α:Sort _}(a b:α),(bif false then a else b)=b:= @cond_false
theorem jY:∀{α:Type _}{β:Type _}{f:α->β}{l:List α}{i:Nat},(List.map f l)[i]? =Option.map f l[i]? := @List.getElem?_map
theorem dK:∀{α:Type _}{β:Type _}{b:β}{f:α->β}{l:List α},b∈List.map f l↔∃a,a∈l/\f a=b:= @List.mem_map
theorem jt:∀{α:Type _}{p:α->Bool}{a0:List α}{x:α},x∈List.filter p a0↔x∈a0/\p x=true:= @List.mem_filter
theorem gC:∀{α:Type _}{b:α}{l:List α}{a:α},a∈b::l↔a=b\/a∈l:= @List.mem_cons
theorem gj:∀{α:Type _}{a:α}{a0:List α},(a::a0).length=a0.length+1:= @List.length_cons
theorem eJ:∀{α:Type _}{i:Nat}{l:List α},(List.take i l).length=min i l.length:= @List.length_take
theorem cP:∀{α:Type _}(a0 bs cs:List α),a0++bs++cs=a0++(bs++cs):= @List.append_assoc
theorem jZ:∀{α:Type _}{i:Nat}{l:List α},(List.drop i l).length=l.length - i:= @List.length_drop
theorem lY:∀{α:Type _}{R:α->α->Prop},List.Pairwise R []:= @List.Pairwise.nil
theorem j4:∀{α:Type _}{l:List α},List.take l.length l=l:= @List.take_length
theorem dQ:∀(a b:Bool),((a||b)=true)=(a=true\/b=true):= @Bool.or_eq_true
theorem tc:false≠true:= @Bool.false_ne_true
theorem ju:∀(b:Bool),(¬b=true)=(b=false):= @Bool.not_eq_true
theorem fT:∀{α:Type _}{l:List α}{i j:Nat}{a:α},(l.set i a)[j]? =if i=j then if i<l.length then some a else none else l[j]? := @List.getElem?_set
theorem fV:∀{α:Type _}{a0:List α}{i:Nat}{a:α},(a0.set i a).length=a0.length:= @List.length_set
theorem nK:∀{α:Type _}{i:Nat}{l:List α},l.length<=i->List.take i l=l:= @List.take_of_length_le
theorem aN:∀{α β:Type}(a:α)(w:World)(f:α->World->Result β),(Result.ok a w).andThen f=f a w:= @Result.andThen_ok
theorem aK:∀{α β:Type}(P:Program)(w:World)(x:Sem α)(f:α->Sem β),Sem.run P (x >>= f) w=(Sem.run P x w).andThen λa w'=>Sem.run P (f a) w':= @Sem.run_bind
theorem aP:∀{α:Type}(P:Program)(w:World)(a:α),Sem.run P (pure a) w=Result.ok a w:= @Sem.run_pure
theorem bP:∀(n:Nat),n<=n:= @Nat.le_refl
theorem kR:∀(n:Nat),0<=n:= @Nat.zero_le
theorem iH:∀{n m k:Nat},n<=m->m<=k->n<=k:= @Nat.le_trans
theorem fM:∀(n:Nat),0+n=n:= @Nat.zero_add
theorem iQ:∀{α:Type _}(a0:List α),a0++[]=a0:= @List.append_nil
theorem eE:∀{α:Type _}{β:Type _}{f:α->β}{a:α}{l:List α},List.map f (a::l)=f a::List.map f l:= @List.map_cons
theorem gk:∀{α:Type _}{R:α->α->Prop}{l:List α},List.Pairwise R l↔∀(i j:Nat)(_hi:i<l.length)(_hj:j<l.length),i<j->R l[i] l[j]:= @List.pairwise_iff_getElem
theorem nL:(!true)=false:= @Bool.not_true
theorem oM:(!false)=true:= @Bool.not_false
theorem jv:∀{α:Type _}{p:α->Bool}{l:List α},l.any p=true↔∃x,x∈l/\p x=true:= @List.any_eq_true
theorem gD:∀{α:Type _}{p:α->Bool}{l:List α},l.all p=true↔∀(x:α),x∈l->p x=true:= @List.all_eq_true
theorem fW:∀{p:Prop}[Decidable p],(decide p=true)=p:= @decide_eq_true_eq
theorem cC{p:Prop}[Decidable p]:p->decide p=true:=decide_eq_true
theorem bJ{p:Prop}[Decidable p]:¬p->decide p=false:=decide_eq_false
theorem fN{α:Type _}{a:α}{l:List α}:a∈l->∃i:Nat,l[i]? =some a:=List.getElem?_of_mem
theorem aG{c:Prop}{h:Decidable c}(hc:c){α:Sort _}{t e:α}:(if c then t else e)=t:=if_pos hc
theorem aH{c:Prop}{h:Decidable c}(hc:¬c){α:Sort _}{t e:α}:(if c then t else e)=e:=if_neg hc
abbrev bX:=Nat->Option Obj
def kL:bX:=λ_=>none
def one(g:Nat)(o:Obj):bX:=λb=>if b=g then some o else none
def jG(M h:bX):bX:=λb=>match M b with|some o=>some o|none=>h b
def hle(M M':bX):Prop:=∀b o,M b=some o->M' b=some o
theorem xO(M:bX):hle M M:=λ_ _ h=>h
theorem wQ{A B C:bX}(h:hle A B)(k:hle B C):hle A C:=λb o e=>k b o<|h b o e
theorem qC(M h:bX):hle M (jG M h):=λb o e=>by simp[jG,e]
theorem eU{g b:Nat}{o o':Obj}(h:one g o b=some o'):b=g/\o=o':=by
 grind [one]
theorem bL(g:Nat)(o:Obj):one g o g=some o:=by simp[one]
structure HP where
 ok:bX->bX->Prop
 mono:∀{M M' h:bX},hle M M'->ok M h->ok M' h
def iv:HP:=⟨λ_ _=>True,λ_ h=>h⟩
structure Good (E w:World) (M:bX) (hs:Nat->bX) (V:List HP):Prop where
 os:w.os=E.os
 tape:w.tape=E.tape
 out:w.output=E.output
 dr:E.drawn<=w.drawn
 im:∀b o,M b=some o->w.heap[b]? =some o
 sat:∀i(P:HP),V[i]? =some P->P.ok M (hs i)
 le:∀i b o,i<V.length->hs i b=some o->w.heap[b]? =some o
 dm:∀i b o,i<V.length->hs i b=some o->M b=none
 dj:∀i j b o,i<V.length->j<V.length->i≠j->hs i b=some o->hs j b=none
def Holds(E w:World)(V:List HP):Prop:=∃M hs,Good E w M hs V
theorem bE{V:List HP}{i:Nat}{P:HP}(h:V[i]? =some P):i<V.length:=(bG.1 h).1
section
variable {E w w':World}{M:bX}{hs:Nat->bX}{V Γ':List HP}{P P':HP}{i:Nat}
def uc(h:bX)(hs:Nat->bX):Nat->bX
 | 0=>h
 |i+1=>hs i
def iz(hs:Nat->bX)(i:Nat)(h:bX):Nat->bX:=λj=>if j=i then h else hs j
theorem Good.cons(g:Good E w M hs V)(h:bX)(hp:P.ok M h)(hle':∀b o,h b=some o->w.heap[b]? =some o)
  (hdm:∀b o,h b=some o->M b=none) (hdj:∀j b o,j<V.length->h b=some o->hs j b=none):
  Good E w M (uc h hs) (P::V)where
 os:=g.os
 tape:=g.tape
 out:=g.out
 dr:=g.dr
 im:=g.im
 sat:=λi Q hq=>by
  cases i with
  |zero=>simp at hq;subst hq;exact hp
  |succ i=>exact g.sat i Q (by grind)
 le:=λi b o hi hb=>by
  cases i with
  |zero=>exact hle' b o hb
  |succ i=>exact g.le i b o (by grind) hb
 dm:=λi b o hi hb=>by
  cases i with
  |zero=>exact hdm b o hb
  |succ i=>exact g.dm i b o (by grind) hb
 dj:=λi j b o hi hj hne hb=>by
  cases i with
  |zero=>
   cases j with
   |zero=>exact absurd rfl hne
   |succ j=>exact hdj j b o (by grind) hb
  |succ i=>
   cases j with
   |zero=>
    simp only[uc]at hb ⊢
    cases e:h b with
    |none=>rfl
    |some o'=>have:=hdj i b o' (by grind) e;rw[this]at hb;cases hb
   |succ j=>exact g.dj i j b o (by grind) (by grind) (by omega) hb
theorem Good.dH(g:Good E w M hs V)(hp:P.ok M kL):Good E w M (uc kL hs) (P::V):=
 g.cons kL hp (λ_ _ h=>by cases h) (λ_ _ h=>by cases h) (λ_ _ _ _ h=>by cases h)
theorem Good.world(g:Good E w M hs V)(h1:w'.os=w.os)(h2:w'.tape=w.tape)(h3:w'.output=w.output)
  (hk:∀b,b<w.heap.size->w'.heap[b]? =w.heap[b]?) (h0:w.drawn<=w'.drawn:=by first|exact bP _|exact Nat.le_succ _):Good E w' M hs V:=by
 have key:∀b o,w.heap[b]? =some o->w'.heap[b]? =some o:=λb o h=>by
  rw[hk b<|(Array.getElem?_eq_some_iff.1 h).1];exact h
 exact⟨h1.trans g.os,h2.trans g.tape,h3.trans g.out,iH g.dr h0,λb o h=>key b o (g.im b o h),g.sat,
  λi b o hi h=>key b o (g.le i b o hi h),g.dm,g.dj⟩
theorem Good.update(g:Good E w M hs V)(hi:i<V.length)(h':bX)(hp:P'.ok M h')
  (h1:w'.os=w.os) (h2:w'.tape=w.tape) (h3:w'.output=w.output)
  (hle':∀b o,h' b=some o->w'.heap[b]? =some o)
  (hdom:∀b o,h' b=some o->(∃o',hs i b=some o')\/w.heap.size<=b)
  (hk:∀b,hs i b=none->b<w.heap.size->w'.heap[b]? =w.heap[b]?) (h0:w.drawn<=w'.drawn:=by first|exact bP _|exact Nat.le_succ _):
  Good E w' M (iz hs i h') (V.set i P'):=by
 have lt:∀b o,w.heap[b]? =some o->b<w.heap.size:=λb o h=>(Array.getElem?_eq_some_iff.1 h).1;refine⟨h1.trans g.os,h2.trans g.tape,h3.trans g.out,iH g.dr h0,λb o h=>?_,λj Q hq=>?_,λj b o hj hb=>?_,λj b o hj hb=>?_,λj k b o hj hk' hne hb=>?_⟩
 ·have hw:=g.im b o h;rw[hk b ?_<|lt b o hw];exact hw
  cases e:hs i b with
  |none=>rfl
  |some o'=>have:=g.dm i b o' hi e;grind
 ·rw[fT]at hq;unfold iz
  by_cases e:i=j
  ·grind
  ·rw[aH e]at hq;rw[aH<|λh=>e h.symm];exact g.sat j Q hq
 ·rw[fV]at hj;unfold iz at hb;split at hb
  ·grind
  ·rename_i e;have hw:=g.le j b o hj hb;rw[hk b (g.dj j i b o hj hi e hb)<|lt b o hw];exact hw
 ·rw[fV]at hj;unfold iz at hb;split at hb
  ·rcases hdom b o hb with⟨o',h'⟩|h'
   ·exact g.dm i b o' hi h'
   ·cases e:M b with
    |none=>rfl
    |some o'=>exact absurd (lt b o' (g.im b o' e)) (by omega)
  ·exact g.dm j b o hj hb
 ·rw[fV]at hj hk';unfold iz at hb ⊢;split at hb
  ·rename_i e;rw[aH<|λh=>hne<|e.trans h.symm]
   rcases hdom b o hb with⟨o',h'⟩|h'
   ·exact g.dj i k b o' hi hk' (λh=>hne<|e.trans h) h'
   ·cases e':hs k b with
    |none=>rfl
    |some o'=>exact absurd (lt b o' (g.le k b o' hk' e')) (by omega)
  ·rename_i e;split
   ·cases e':h' b with
    |none=>rfl
    |some o'=>
     rcases hdom b o' e' with⟨o'',h''⟩|h''
     ·have:=g.dj i j b o'' hi hj (λh=>e h.symm) h'';grind
     ·exact absurd (lt b o<|g.le j b o hj hb) (by omega)
   ·exact g.dj j k b o hj hk' hne hb
theorem Good.freeze(g:Good E w M hs V)(hi:i<V.length)(hp:P'.ok (jG M<|hs i) kL):
  Good E w (jG M<|hs i) (iz hs i kL) (V.set i P'):=by
 refine⟨g.os,g.tape,g.out,g.dr,λb o h=>?_,λj Q hq=>?_,λj b o hj hb=>?_,λj b o hj hb=>?_,λj k b o hj hk' hne hb=>?_⟩
 ·unfold jG at h
  cases e:M b with
  |none=>rw[e]at h;exact g.le i b o hi h
  |some o'=>rw[e]at h;simp at h;subst h;exact g.im b _ e
 ·rw[fT]at hq;unfold iz
  by_cases e:i=j
  ·grind
  ·rw[aH e]at hq;rw[aH<|λh=>e h.symm];exact Q.mono (qC _ _)<|g.sat j Q hq
 ·rw[fV]at hj;unfold iz at hb;split at hb
  ·cases hb
  ·exact g.le j b o hj hb
 ·rw[fV]at hj;unfold iz at hb;split at hb
  ·cases hb
  ·rename_i e;simp only[jG,g.dm j b o hj hb];exact g.dj j i b o hj hi e hb
 ·rw[fV]at hj hk';unfold iz at hb ⊢;split at hb
  ·cases hb
  ·split
   ·rfl
   ·exact g.dj j k b o hj hk' hne hb
theorem Good.pick(g:Good E w M hs V)(f:Nat->Nat)(hlt:∀i,i<Γ'.length->f i<V.length)(hget:∀i,i<Γ'.length->Γ'[i]? =V[f i]?)
  (hinj:∀i j,i<Γ'.length->j<Γ'.length->i≠j->f i≠f j):Good E w M (λi=>hs<|f i) Γ':=
 ⟨g.os,g.tape,g.out,g.dr,g.im,λi Q hq=>g.sat (f i) Q (by grind),
  λi b o hi hb=>g.le (f i) b o (hlt i hi) hb,λi b o hi hb=>g.dm (f i) b o (hlt i hi) hb,
  λi j b o hi hj hne hb=>g.dj (f i) (f j) b o (hlt i hi) (hlt j hj) (hinj i j hi hj hne) hb⟩
theorem Holds.drop(k:Nat)(h:Holds E w V)(hd:V.drop k=Γ':=by exact rfl):Holds E w Γ':=by
 obtain⟨M,hs,g⟩:=h;subst hd;exact⟨M,_,g.pick (λi=>k+i) (λi hi=>by grind) (λi _=>by rw[iO]) (λi j _ _ h=>by omega)⟩
theorem Holds.pick(h:Holds E w V)(m:Nat)(idx:List Nat){Γ0 new:List HP}(hd:V.drop m=Γ0)(hg:idx.map (λi=>V[i]?)=new.map some)
  (hn:idx.Nodup) (hm:∀i∈idx,i<m):Holds E w (new++Γ0):=by
 obtain⟨M,hs,g⟩:=h;have hlen:idx.length=new.length:=by have:=congrArg List.length hg;grind
 have hat:∀i,i<idx.length->V[idx.getD i 0]? =new[i]? :=λi hi=>by
  have:=congrArg (·[i]?) hg
  grind
 have hm':∀i,i<idx.length->idx.getD i 0<m:=λi hi=>by
  simp_all
 subst hd;have hget:∀i,i<(new++V.drop m).length->(new++V.drop m)[i]? =V[if i<idx.length then idx.getD i 0 else m+(i - idx.length)]? :=by
  grind
 refine⟨M,_,g.pick (λi=>if i<idx.length then idx.getD i 0 else m+(i - idx.length)) (λi hi=>?_) hget<|λi j hi hj hne=>?_⟩
 ·grind
 ·show(if i<idx.length then idx.getD i 0 else m+(i - idx.length))≠(if j<idx.length then idx.getD j 0 else m+(j - idx.length))
  grind [aM,List.getElem_inj]
theorem Holds.back(h:Holds E w (P::V))(hi:i<V.length):Holds E w (V.set i P):=by
 obtain⟨M,hs,g⟩:=h;have hlen:(V.set i P).length=V.length:=fV;refine⟨M,_,g.pick (λj=>if j=i then 0 else j+1) (λj hj=>?_) (λj hj=>?_)<|λj k hj hk hne=>?_⟩
 all_goals grind
theorem Holds.pull(i:Nat)(h:Holds E w V)(hi:V[i]? =some P:=by exact rfl):Holds E w (P::V.set i iv):=by
 obtain⟨M,hs,g⟩:=h;have hlt:=bE hi;have g2:=g.update (P':=iv) hlt kL trivial rfl rfl rfl (λb o hb=>by cases hb) (λb o hb=>by cases hb)<|λ_ _ _=>rfl
 refine⟨M,_,g2.cons (hs i) (g.sat i P hi) (λb o hb=>g.le i b o hlt hb) (λb o hb=>g.dm i b o hlt hb)<|λj b o hj hb=>?_⟩;rw[fV]at hj;unfold iz;split
 ·rfl
 ·rename_i e;exact g.dj i j b o hlt hj (λh=>e h.symm) hb
theorem Holds.world(h:Holds E w V)(h1:w'.os=w.os)(h2:w'.tape=w.tape)(h3:w'.output=w.output)
  (hk:∀b,b<w.heap.size->w'.heap[b]? =w.heap[b]?) (h0:w.drawn<=w'.drawn:=by first|exact bP _|exact Nat.le_succ _):Holds E w' V:=
 let⟨M,hs,g⟩:=h
 ⟨M,hs,g.world h1 h2 h3 hk h0⟩
theorem Holds.drew(h:Holds E w V):Holds E w.drew V:=h.world rfl rfl rfl<|λ_ _=>rfl
theorem k9(w:World)(o:Obj)(b:Nat)(h:b<w.heap.size):(w.alloc o).heap[b]? =w.heap[b]? :=by
 show(w.heap.push o)[b]? =w.heap[b]?
 grind
theorem Holds.alloc(h:Holds E w V)(o:Obj)(hp:∀M hs,Good E w M hs V->P.ok M (one w.heap.size o)):Holds E (w.alloc o) (P::V):=by
 obtain⟨M,hs,g⟩:=h;have lt:∀b o,w.heap[b]? =some o->b<w.heap.size:=λb o h=>(Array.getElem?_eq_some_iff.1 h).1;refine⟨M,_,(g.world (w':=w.alloc o) rfl rfl rfl<|λb hb=>k9 w o b hb).cons (one w.heap.size o) (hp M hs g) (λb o' hb=>?_) (λb o' hb=>?_)<|λj b o' hj hb=>?_⟩
 ·grind [eU,heap_alloc_new]
 ·obtain⟨rfl,rfl⟩:=eU hb
  cases e:M w.heap.size with
  |none=>rfl
  |some o'=>exact absurd (lt _ o' (g.im _ o' e)) (by omega)
 ·obtain⟨rfl,rfl⟩:=eU hb
  cases e:hs j w.heap.size with
  |none=>rfl
  |some o'=>exact absurd (lt _ o' (g.le j _ o' hj e)) (by omega)
theorem Holds.qK(h:Holds E w V)(hp:∀M hs,Good E w M hs V->P.ok M kL):Holds E w (P::V):=
 let⟨M,hs,g⟩:=h
 ⟨M,_,g.dH<|hp M hs g⟩
end
structure aL where
 aU:List UInt8
 deriving DecidableEq,Inhabited
class GT (α:Type)where
 sz:Nat
 agg:Bool
 ok:bX->List Value->α->Prop
 pos:0<sz
 ag1:agg=false->sz=1
 len:∀{M:bX}{cs:List Value}{x:α},ok M cs x->cs.length=sz
 one:∀{M:bX}{cs:List Value}{x:α},ok M cs x->∀u∈cs,u.oneCell'=true
 mono:∀{M M':bX}{cs:List Value}{x:α},hle M M'->ok M cs x->ok M' cs x
class Sc (α:Type)where
 toV:α->Value
 one:∀x,(toV x).oneCell'=true
instance instGTSc {α:Type} [Sc α]:GT α where
 sz:=1
 agg:=false
 ok:=λ_ cs x=>cs= [Sc.toV x]
 pos:=by decide
 ag1:=λ_=>rfl
 len:=λh=>by rw[h];rfl
 one:=λh u hu=>by rw[h]at hu;simp at hu;subst hu;exact Sc.one _
 mono:=λ_ h=>h
@[reducible] def str(s:aL):Value:= .string ⟨s.aU.toArray⟩
instance:Sc Int:=⟨λn=> .int .i64 n,λ_=>rfl⟩
instance:Sc Bool:=⟨λb=> .bool b,λ_=>rfl⟩
instance:Sc aL:=⟨str,λ_=>rfl⟩
instance:Sc UInt8:=⟨λb=> .int .u8 b.toNat,λ_=>rfl⟩
def oN(M:bX)(a:Addr):Option Value:=
 match M a.block with
 |some (.cells c _ _)=>if a.spot.isSome then none else c[a.off]?
 |_=>none
def At(M:bX)(a:Addr)(cs:List Value):Prop:=∀j u,cs[j]? =some u->oN M (a.add j)=some u
theorem mI{M:bX}{w:World}(h:∀b o,M b=some o->w.heap[b]? =some o){a:Addr}{v:Value}(hc:oN M a=some v):w.cell? a=some v:=by
 grind [oN,World.cell?]
theorem vu{M M':bX}(h:hle M M'){a:Addr}{v:Value}(hc:oN M a=some v):oN M' a=some v:=by
 unfold oN at hc ⊢;split at hc
 ·rename_i c _ _ e;rw[h _ _ e];exact hc
 ·cases hc
theorem At.mono{M M':bX}(h:hle M M'){a:Addr}{cs:List Value}(hc:At M a cs):At M' a cs:=λj u hu=>vu h<|hc j u hu
theorem add_add(a:Addr)(i j:Nat):(a.add i).add j=a.add (i+j):=by
 grind [Addr.add,Nat.add_assoc]
theorem At.sub{M:bX}{a:Addr}{cs:List Value}(h:At M a cs)(k n:Nat):At M (a.add k) ((cs.drop k).take n):=by
 intro j u hu;rw[add_add];refine h (k+j) u ?_
 grind
section
variable {α β:Type}[GT α][GT β]{M M':bX}{v:Value}{cs:List Value}
variable {x:α}{l:List α}
def mJ(α:Type)[GT α](cs:List Value):Value:=if GT.agg α then .agg cs.toArray else cs.headD undef
def oe(M:bX)(v:Value)(x:α):Prop:=∃cs,v=mJ α cs/\GT.ok M cs x
theorem oe.mono(h:hle M M')(hr:oe M v x):oe M' v x:=let⟨cs,e,ho⟩:=hr;⟨cs,e,GT.mono h ho⟩
theorem wR(ho:GT.ok M cs x):(mJ α cs).cells.toList=cs:=by
 unfold mJ;have hl:=GT.len ho
 cases e:GT.agg α with
 |true=>simp[Value.cells]
 |false=>
  rw[GT.ag1 e]at hl
  match cs,hl,GT.one ho with
  | [c],_,h1=>
   have:=h1 c (by simp)
   cases c <;> simp[Value.cells,Value.oneCell']at this ⊢
theorem oe.cells(hr:oe M v x):GT.ok M v.cells.toList x:=by
 obtain⟨cs,rfl,ho⟩:=hr
 grind [wR]
theorem qL{γ:Type}[Sc γ]{y:γ}:oe M v y↔v=Sc.toV y:=by
 constructor
 ·rintro⟨cs,rfl,ho⟩;have:cs= [Sc.toV y]:=ho;subst this;rfl
 ·rintro rfl;exact⟨[Sc.toV y],rfl,rfl⟩
def iR(M:bX)(v:Value)(l:List α):Prop:=
 ∃a n cap,v = .slice a n cap/\n=l.length/\n<=cap/\cap<=maxLen/\
  ∀i x,l[i]? =some x->∃ad cs,a=some ad/\GT.ok M cs x/\At M (ad.add<|i*GT.sz α) cs
theorem iR.mono(h:hle M M')(hs:iR M v l):iR M' v l:=by
 obtain⟨a,n,cap,hv,hn,hc,hm,hi⟩:=hs;exact⟨a,n,cap,hv,hn,hc,hm,λi x hx=>let⟨ad,cs,e,ho,ha⟩:=hi i x hx;⟨ad,cs,e,GT.mono h ho,ha.mono h⟩⟩
instance instGTList:GT (List α)where
 sz:=1
 agg:=false
 ok:=λM cs l=>∃v,cs= [v]/\iR M v l
 pos:=by decide
 ag1:=λ_=>rfl
 len:=λ⟨v,h,_⟩=>by rw[h];rfl
 one:=λ⟨v,h,⟨a,n,cap,hv,_⟩⟩u hu=>by rw[h]at hu;simp at hu;subst hu;rw[hv];rfl
 mono:=λh⟨v,e,hs⟩=>⟨v,e,hs.mono h⟩
theorem iS:oe M v l↔iR M v l:=by
 constructor
 ·rintro⟨cs,rfl,v,rfl,hs⟩;exact hs
 ·intro h;exact⟨[v],rfl,v,rfl,h⟩
instance instGTProd:GT (α×β)where
 sz:=GT.sz α+GT.sz β
 agg:=true
 ok:=λM cs x=>∃c d,cs=c++d/\GT.ok M c x.1/\GT.ok M d x.2
 pos:=by have:=GT.pos (α:=α);omega
 ag1:=λh=>by cases h
 len:=λ⟨c,d,e,h1,h2⟩=>by rw[e,cT,GT.len h1,GT.len h2]
 one:=λ⟨c,d,e,h1,h2⟩u hu=>by
  rw[e,k8]at hu
  rcases hu with hu|hu
  ·exact GT.one h1 u hu
  ·exact GT.one h2 u hu
 mono:=λh⟨c,d,e,h1,h2⟩=>⟨c,d,e,GT.mono h h1,GT.mono h h2⟩
@[reducible] def GT.via{γ:Type}(f:γ->α):GT γ where
 sz:=GT.sz α
 agg:=true
 ok:=λM cs x=>GT.ok M cs<|f x
 pos:=GT.pos
 ag1:=λh=>by cases h
 len:=λh=>GT.len h
 one:=λh=>GT.one h
 mono:=λh k=>GT.mono h k
def Fd(k:Nat)(f:α->β):Prop:=∀(M:bX)(cs:List Value)(x:α),GT.ok M cs x->GT.ok M ((cs.drop k).take<|GT.sz β) (f x)
theorem Fd.self:Fd 0 (λx:α=>x):=λM cs x h=>by
 rw[List.drop_zero,nK (by grind [GT.len])];exact h
theorem Fd.fst{γ:Type}[GT γ]{k:Nat}{f:α->γ}(h:Fd k f)(hk:k+GT.sz γ<=GT.sz α:=by decide):Fd k (λx:α×β=>f x.1):=by
 rintro M cs x⟨c,d,rfl,h1,h2⟩;have hl:=GT.len h1;rw[List.drop_append_of_le_length (by omega),List.take_append_of_le_length (by grind)];exact h M c x.1 h1
theorem Fd.snd{γ:Type}[GT γ]{k k':Nat}{f:β->γ}(h:Fd k f)(hk:k'=GT.sz α+k:=by exact rfl):Fd k' (λx:α×β=>f x.2):=by
 rintro M cs x⟨c,d,rfl,h1,h2⟩;subst hk;rw[<-GT.len h1,List.drop_length_add_append];exact h M d x.2 h2
def Fs(k:Nat)(β:Type)[GT β](f:α->β->α):Prop:=
 ∀(M:bX)(cs ds:List Value)(x:α)(y:β),GT.ok M cs x->GT.ok M ds y->GT.ok M (cs.take k++ds++cs.drop (k+GT.sz β)) (f x y)
theorem Fs.self:Fs 0 α (λ_ y:α=>y):=λM cs ds x y h1 h2=>by
 rw[List.take_zero,List.nil_append,List.drop_eq_nil_of_le (by grind [GT.len]),iQ];exact h2
theorem Fs.fst{γ:Type}[GT γ]{k:Nat}{f:α->γ->α}(h:Fs k γ f)(hk:k+GT.sz γ<=GT.sz α:=by decide):Fs k γ (λ(x:α×β)y=>(f x.1 y,x.2)):=by
 rintro M cs ds x y⟨c,d,rfl,h1,h2⟩hy;have hl:=GT.len h1;refine⟨c.take k++ds++c.drop (k+GT.sz γ),d,?_,h M c ds x.1 y h1 hy,h2⟩
 grind
theorem Fs.snd{γ:Type}[GT γ]{k k':Nat}{f:β->γ->β}(h:Fs k γ f)(hk:k'=GT.sz α+k:=by exact rfl):Fs k' γ (λ(x:α×β)y=>(x.1,f x.2 y)):=by
 rintro M cs ds x y⟨c,d,rfl,h1,h2⟩hy;subst hk;refine⟨c,d.take k++ds++d.drop (k+GT.sz γ),?_,h1,h M d ds x.2 y h2 hy⟩;rw[<-GT.len h1,List.take_length_add_append,Nat.add_assoc,List.drop_length_add_append];simp
end
section
variable {α β:Type}[GT α][GT β]
def rd(v:Value)(x:α):HP:=⟨λM h=>oe M v x/\h=kL,λk⟨a,b⟩=>⟨a.mono k,b⟩⟩
def DZ(M:bX)(v:Value)(x:α):Prop:=∃ad cs,v = .pointer (some ad)/\GT.ok M cs x/\At M ad cs
def pt(v:Value)(x:α):HP:=⟨λM h=>DZ M v x/\h=kL,λk⟨⟨ad,cs,e,ho,ha⟩,b⟩=>⟨⟨ad,cs,e,GT.mono k ho,ha.mono k⟩,b⟩⟩
def bx(e:TypeId)(g:Nat)(x:α):HP:=⟨λM h=>∃cs,GT.ok M cs x/\h=Gk.one g (.cells cs.toArray e (0,0)),λk⟨cs,ho,hh⟩=>⟨cs,GT.mono k ho,hh⟩⟩
def Cells(M:bX)(xs:List Value)(l:List α):Prop:=
 xs.length=l.length*GT.sz α/\∀i x,l[i]? =some x->GT.ok M ((xs.drop<|i*GT.sz α).take<|GT.sz α) x
theorem Cells.mono{M M':bX}(h:hle M M'){xs:List Value}{l:List α}(hc:Cells M xs l):Cells M' xs l:=⟨hc.1,λi x hx=>GT.mono h<|hc.2 i x hx⟩
def qm(e:TypeId)(M h:bX)(v:Value)(l:List α):Prop:=
 (v = .slice none 0 0/\l= []/\h=kL)\/
 ∃g o cap cur xs,v = .slice (some ⟨g,o,none⟩) l.length cap/\l.length<=cap/\cap<=maxLen/\h=Gk.one g (.cells cur e (0,0))/\
  o+cap*GT.sz α<=cur.size/\(cur.toList.drop o).take (l.length*GT.sz α)=xs/\Cells M xs l
def own(e:TypeId)(v:Value)(l:List α):HP:=⟨λM h=>qm e M h v l,λ{M M' h}k hh=>by
 rcases hh with hh|⟨g,o,cap,cur,xs,h1,h2,h3,h4,h5,h6,h7⟩
 ·exact .inl hh
 ·exact .inr ⟨g,o,cap,cur,xs,h1,h2,h3,h4,h5,h6,h7.mono k⟩⟩
end
def cD(U:Nat->Value)(d:Nat)(v:Value):Nat->Value:=λt=>bif Nat.beq t d then v else U t
def ev(U:Nat->Value):Operand->Value
 | .tmp t=>U t
 | .const v=>v
 | .global g=> .pointer (some ⟨g,0,none⟩)
 | .func f=> .func (.func f) #[] #[]
structure Sl (n:Nat) (U:Nat->Value) (a:Act):Prop where
 defers:a.defers= []
 size:a.tmps.size=n
 get:∀t,a.tmps.getD t undef=U t
theorem Sl.ev{n:Nat}{U:Nat->Value}{a:Act}(h:Sl n U a):a.eval=ev U:=by
 funext x
 cases x with
 |tmp t=>exact h.get t
 |const v=>rfl
 |global g=>rfl
 |func f=>rfl
theorem Sl.put{n:Nat}{U:Nat->Value}{a:Act}(h:Sl n U a){d:Nat}(hd:Nat.blt d n=true)(v:Value):Sl n (cD U d v) (a.put (some d) v)where
 defers:=h.defers
 size:=by simp[Act.put,h.size]
 get:=λt=>by
  have hd':d<a.tmps.size:=by rw[h.size];exact Nat.blt_eq▸hd
  unfold cD
  by_cases e:t=d
  ·subst e;simp[Act.put,hd']
  ·have hb:Nat.beq t d=false:=by
    cases hx:Nat.beq t d with
    |false=>rfl
    |true=>exact absurd (cS hx) e
   rw[hb];simp only[aZ,<-h.get t,Act.put,Array.getD_eq_getD_getElem?];rw[Array.getElem?_setIfInBounds_ne<|λh=>e h.symm]
theorem Sl.ud{n:Nat}{U:Nat->Value}{a:Act}(h:Sl n U a)(v:Value):Sl n U (a.put none v):=h
abbrev dL:=Exit->(Nat->Value)->World->Prop
def Lf(n:Nat)(Q:dL):Exit->Act->World->Prop:=λex a w=>∃U,Sl n U a/\Q ex U w
def RL(P:Program)(n:Nat)(ops:Array Oper)(rest:List Oper)(U:Nat->Value)(w:World)(Q:dL):Prop:=
 ∀a,Sl n U a->wpList P ops (Lf n Q) rest a w
def RC(P:Program)(n:Nat)(c:Code)(U:Nat->Value)(w:World)(Q:dL):Prop:=∀a,Sl n U a->c.wp P (Lf n Q) a w
def ir(P:Program)(n:Nat)(y:Code)(Q:dL):dL
 | .normal,U,w=>RC P n y U w Q
 |e,U,w=>Q e U w
def pq(id:Nat)(Q:dL):dL
 | .exit i,U,w=>if i=id then Q .normal U w else Q (.exit i) U w
 |e,U,w=>Q e U w
section
variable {P:Program}{n:Nat}{U:Nat->Value}{w:World}{Q Q':dL}{x y c:Code}{id:Nat}
theorem RC.mono(h:RC P n c U w Q)(hq:∀e U w,Q e U w->Q' e U w):RC P n c U w Q':=
 λa ha=>wp_mono (h a ha) λe _ w⟨U,hs,q⟩=>⟨U,hs,hq e U w q⟩
theorem A_(h:RC P n x U w (ir P n y Q)):RC P n (.seq x y) U w Q:=λa ha=>
 wp_seq (wp_mono (h a ha) λe a w⟨U,hs,q⟩=>by
  cases e with
  |normal=>exact q a hs
  |_=>exact⟨U,hs,q⟩)
theorem Fi(h:RC P n x U w (pq id Q)):RC P n (.block id x) U w Q:=λa ha=>
 wp_block (wp_mono (h a ha) λe a w⟨U,hs,q⟩=>by
  cases e with
  |exit i=>
   simp only[pq]at q;simp only[Exit.inBlock];split at q
   ·rename_i e;subst e;simp;exact⟨U,hs,q⟩
   ·rename_i e;simp[e];exact⟨U,hs,q⟩
  |_=>exact⟨U,hs,q⟩)
theorem Et(h:Q .normal U w):RC P n .skip U w Q:=λ_ ha=>wp_skip ⟨U,ha,h⟩
theorem AS(h:Q .ret U w):RC P n .ret U w Q:=λ_ ha=>wp_ret ⟨U,ha,h⟩
theorem F_{i:Nat}(h:Q (.exit i) U w):RC P n (.exit i) U w Q:=λ_ ha=>wp_exit ⟨U,ha,h⟩
theorem FC{q:Operand}{b:Bool}(hc:ev U q = .bool b)(ht:b=true->RC P n x U w Q)(hf:b=false->RC P n y U w Q):RC P n (.cond q x y) U w Q:=
 λa ha=>wp_cond_split (t:=b) (by rw[ha.ev];exact hc) (λh=>ht h a ha)<|λh=>hf h a ha
theorem AI{l:List Oper}(h:RL P n l.toArray l U w Q):RC P n (.region id l.toArray false) U w Q:=λa ha=>wp_region_lit<|h a ha
theorem w_{ops:Array Oper}(h:Q .normal U w):RL P n ops [] U w Q:=λ_ ha=>⟨U,ha,h⟩
theorem aI(h:RC P n y U w Q):ir P n y Q .normal U w:=h
theorem bU(h:Q .normal U w):pq id Q .normal U w:=h
theorem vv(h:Q .normal U w):pq id Q (.exit id) U w:=by grind [pq]
def jA(P:Program)(n:Nat)(fn:Func)(R:Value->World->Prop):dL
 | .normal,U,w| .ret,U,w=>∃v,(∀a,Sl n U a->(results fn a.tmps).run P w = .ok v w)/\R v w
 |_,_,_=>False
def fP(R:Value->World->Prop):Ending->World->Prop:=λe w=>∃v,e = .returned v/\R v w
def A5(l:List Value)(t:Nat):Value:=l.getD t undef
theorem enter{f:FuncId}{fn:Func}{args:List Value}{R:Value->World->Prop}(hf:P.funcs[f]? =some fn)(hb:fn.body=some c)(hn:fn.ntmps=n)(h:RC P n c (A5 args) w (jA P n fn R))(hk:args.length<=n:=by exact Nat.le_of_ble_eq_true rfl):Calls P f args.toArray w (fP R):=by
 refine calls_of_wp hf hb<|wp_mono (h _ ⟨rfl,?_,λt=>?_⟩) λe a w⟨U,hs,q⟩=>?_
 ·grind
 ·simp only[A5,Array.getD_eq_getD_getElem?,List.getD_eq_getElem?_getD]
  grind
 ·cases e with
  |normal=>obtain⟨v,hv,hR⟩:=q;exact⟨hs.defers,v,hv a hs,v,rfl,hR⟩
  |ret=>obtain⟨v,hv,hR⟩:=q;exact⟨hs.defers,v,hv a hs,v,rfl,hR⟩
  |_=>exact q.elim
theorem bF{fn:Func}{R:Value->World->Prop}{t:Nat}{v:Value}(h:R v w)(hr:fn.results = #[.tmp t]:=by exact rfl)(hv:U t=v:=by exact rfl):jA P n fn R .ret U w:=
 ⟨v,λa ha=>by rw[results_tmp hr,ha.get,hv],h⟩
theorem xP{fn:Func}{R:Value->World->Prop}{t u:Nat}{v v':Value}(hr:fn.results = #[.tmp t, .tmp u])(hv:U t=v)(hv':U u=v')(h:R (.tuple #[v,v']) w):jA P n fn R .ret U w:=
 ⟨_,λa ha=>by rw[results_tmp2 hr,ha.get,ha.get,hv,hv'],h⟩
theorem A6{fn:Func}{R:Value->World->Prop}(h:jA P n fn R .ret U w):jA P n fn R .normal U w:=h
def Wn(ops:Array Oper)(U:Nat->Value):Option (Nat×Bool)->Prop
 |none=>True
 |some (j,b)=>∃t,(ops[j]?).bind (·.dst)=some t/\U t = .bool b
theorem Wn.wanted{ops:Array Oper}{o:Oper}{a:Act}(h:Wn ops U o.guard)(ha:Sl n U a):Region.wanted o (yielded ops a.tmps)=true:=by
 unfold Region.wanted
 cases e:o.guard with
 |none=>rfl
 |some jb=>
  obtain⟨j,b⟩:=jb;rw[e]at h;obtain⟨t,ht,hb⟩:=h;have hg:=ha.get t;rw[hb,Array.getD_eq_getD_getElem?]at hg;have:a.tmps[t]? =some (.bool b):=by
   cases hx:a.tmps[t]? with
   |none=>rw[hx]at hg;cases hg
   |some v=>grind
  grind [yielded]
variable {ops:Array Oper}{rest:List Oper}{d:Nat}{ty:TypeId}{pos:String}{af:Array Edge}{g:Option (Nat×Bool)}{w':World}{v:Value}{op:Op}
theorem B_(hg:Wn ops U g)(hd:Nat.blt d n=true)(hrun:(execOp (ev U) ⟨some d,op,ty,pos,af,g⟩).run P w = .ok (.value v) w')
  (k:RL P n ops rest (cD U d v) w' Q):RL P n ops (⟨some d,op,ty,pos,af,g⟩::rest) U w Q:=by
 intro a ha;unfold wpList;rw[aG<|Wn.wanted (o:=⟨some d,op,ty,pos,af,g⟩) hg ha];refine .inl ?_;unfold Oper.wp;rw[ha.ev,hrun];exact k _<|ha.put hd v
theorem E6(hg:Wn ops U g)(hrun:(execOp (ev U) ⟨none,op,ty,pos,af,g⟩).run P w = .ok .skip w')
  (k:RL P n ops rest U w' Q):RL P n ops (⟨none,op,ty,pos,af,g⟩::rest) U w Q:=by
 intro a ha;unfold wpList;rw[aG<|Wn.wanted (o:=⟨none,op,ty,pos,af,g⟩) hg ha];refine .inl ?_;unfold Oper.wp;rw[ha.ev,hrun];exact k _<|ha.ud _
theorem FD{j t:Nat}{b:Bool}(ht:(ops[j]?).bind (·.dst)=some t)(hv:U t = .bool (!b)\/U t=undef)(hd:Nat.blt d n=true)
  (k:RL P n ops rest (cD U d undef) w Q):RL P n ops (⟨some d,op,ty,pos,af,some (j,b)⟩::rest) U w Q:=by
 intro a ha;have hno:Region.wanted ⟨some d,op,ty,pos,af,some (j,b)⟩ (yielded ops a.tmps)=false:=by
  have hg:=ha.get t;rw[Array.getD_eq_getD_getElem?]at hg;simp only[Region.wanted,yielded,ht,Option.bind_some]
  cases hx:a.tmps[t]? with
  |none=>rfl
  |some u=>
   rw[hx]at hg;simp at hg;subst hg
   rcases hv with h|h <;> rw[h]
   ·simp
   ·rfl
 unfold wpList;rw[aH (by rw[hno];decide)];exact k _<|ha.put hd _
theorem FQ{f:FuncId}{args:Array Value}(hg:Wn ops U g)(hd:Nat.blt d n=true)
  (hrun:(execOp (ev U) ⟨some d,op,ty,pos,af,g⟩).run P w = .ok (.enter f args) w)
  (k:Calls P f args w (fP λv w'=>RL P n ops rest (cD U d v) w' Q)):RL P n ops (⟨some d,op,ty,pos,af,g⟩::rest) U w Q:=by
 intro a ha;unfold wpList;rw[aG<|Wn.wanted (o:=⟨some d,op,ty,pos,af,g⟩) hg ha];refine .inl ?_;unfold Oper.wp;rw[ha.ev,hrun];refine Calls.mono k λe w'' he=>?_;obtain⟨v,rfl,h⟩:=he;exact h _<|ha.put hd v
theorem td{f:FuncId}{fn:Func}{args:Array Value}(hf:P.funcs[f]? =some fn)(hnm:(fn.name== "runtime.NumGoroutine")=false)(hb:fn.body.isNone=false):
  (callFunc f args).run P w = .ok (.enter f args) w:=by
 unfold callFunc program;simp only[Bind.bind,Sem.bind,Sem.run,hf];rw[aH (by rw[hnm];decide),aH (by rw[hb];decide)];rfl
structure gI (P:Program) (f:FuncId):Prop where
 run:∀(args:Array Value)(w:World),(callFunc f args).run P w = .ok (.enter f args) w
theorem Ga{f:FuncId}{args:Array Operand}{ts:Array TypeId}(hg:Wn ops U g)(hd:Nat.blt d n=true)(hf:gI P f)(vs:List Value)
  (hvs:args.toList.map (ev U)=vs) (k:Calls P f vs.toArray w (fP λv w'=>RL P n ops rest (cD U d v) w' Q)):
  RL P n ops (⟨some d, .call ⟨.value<|.func f,args,ts⟩,ty,pos,af,g⟩::rest) U w Q:=by
 have e:args.map (ev U)=vs.toArray:=by grind
 refine FQ (f:=f) (args:=vs.toArray) hg hd ?_ k;simp only[execOp,resolve,aK];simp only[ev,Deferred.ofValue,e,aP,aN,invoke];simpa using hf.run vs.toArray w
theorem FR{q:Operand}{f:FuncId}{args:Array Operand}{ts:Array TypeId}{cap:List Value}(hg:Wn ops U g)(hd:Nat.blt d n=true)(hf:gI P f)
  (hq:ev U q = .func (.func f) #[] cap.toArray) (vs:List Value)
  (hvs:args.toList.map (ev U)=vs) (k:Calls P f (vs++cap).toArray w (fP λv w'=>RL P n ops rest (cD U d v) w' Q)):
  RL P n ops (⟨some d, .call ⟨.value q,args,ts⟩,ty,pos,af,g⟩::rest) U w Q:=by
 have e:args.map (ev U)=vs.toArray:=by grind
 refine FQ (f:=f) (args:=(vs++cap).toArray) hg hd ?_ k;simp only[execOp,resolve,aK];simp only[hq,Deferred.ofValue,e,aP,aN,invoke];simpa using hf.run (vs++cap).toArray w
theorem dU{f:FuncId}{args:Array Value}{R R':Value->World->Prop}(h:Calls P f args w (fP R))(k:∀v w',R v w'->R' v w'):Calls P f args w (fP R'):=
 Calls.mono h λ_ w'⟨v,e,hr⟩=>⟨v,e,k v w' hr⟩
end
structure je (P:Program) (T:TypeId) (ag:Bool) (k:Nat):Prop where
 zb:∀w,(isAgg T).run P w = .ok ag w
 sz:∀w,(sizeOf T).run P w = .ok k w
structure nM (P:Program) (T:TypeId) (i k:Nat):Prop where
 run:∀a w,(Instr.fieldAt T (.pointer<|some a) i).run P w = .ok (.pointer<|some<|a.add k) w
structure te (P:Program) (T e:TypeId) (k:Nat):Prop where
 rY:P.underlying T=some (.slice e)
 sz:∀w,(sizeOf e).run P w = .ok k w
def cv(c:Bool)(v:Value):Value:=bif c then v else undef
theorem vw{c:Bool}{v:Value}(h:c=true):cv c v=v:=by rw[h];rfl
theorem xQ{a b:Bool}(h:(a&&b)=true):a=true:=by grind
theorem ue(c:Bool){a b:Bool}(h:c=true):(if a=true then Value.bool true else cv (c&&(a==false)) (.bool b)) = .bool (a||b):=by
 subst h;cases a <;> rfl
theorem vx(c:Bool){a b:Bool}(h:c=true):(if a=true then cv (c&&(a==true)) (.bool b)else Value.bool false) = .bool (a&&b):=by
 subst h;cases a <;> rfl
@[reducible] def j5:BinOp->Int->Int->Bool
 | .eql,a,b=>a==b
 | .neq,a,b=>a != b
 | .lss,a,b=>decide (a<b)
 | .leq,a,b=>decide (a<=b)
 | .gtr,a,b=>decide (a>b)
 | .geq,a,b=>decide (a>=b)
 |_,_,_=>false
def og:BinOp->Bool
 | .eql| .neq| .lss| .leq| .gtr| .geq=>true
 |_=>false
@[reducible] def mK:BinOp->Int->Int->Int
 | .add,a,b=>a+b
 | .sub,a,b=>a - b
 | .mul,a,b=>a*b
 |_,_,_=>0
def A7:BinOp->Bool
 | .add| .sub| .mul=>true
 |_=>false
def aL.iw(a b:aL):Bool:=a.aU==b.aU
def aL.mx(a b:aL):Bool:=Op.bytesLess a.aU b.aU
@[reducible] def lZ:BinOp->aL->aL->Bool
 | .eql,a,b=>a.iw b
 | .neq,a,b=> !a.iw b
 | .lss,a,b=>a.mx b
 | .leq,a,b=>a.mx b||a.iw b
 | .gtr,a,b=> !(a.mx b||a.iw b)
 | .geq,a,b=> !a.mx b
 |_,_,_=>false
section
variable {P:Program}{n:Nat}{U:Nat->Value}{w:World}{Q:dL}{E:World}{V:List HP}
variable {ops:Array Oper}{rest:List Oper}{d:Nat}{ty:TypeId}{pos:String}{af:Array Edge}{g:Option (Nat×Bool)}{v v' u:Value}{x y z:Operand}{T T':TypeId}
theorem D_(v:Value)(hg:Wn ops U g)(k:RL P n ops rest (cD U d v) w Q)(hd:Nat.blt d n=true:=by exact rfl)(hx:ev U x=v:=by exact rfl):
  RL P n ops (⟨some d, .move x,ty,pos,af,g⟩::rest) U w Q:=B_ hg hd (by rw[<-hx];rfl) k
theorem FT(hg:Wn ops U g)(hd:Nat.blt d n=true)(hx:ev U x=v)(k:RL P n ops rest (cD U d v) w Q):
  RL P n ops (⟨some d, .assign x,ty,pos,af,g⟩::rest) U w Q:=B_ hg hd (by rw[<-hx];rfl) k
theorem Ex{i:Nat}{vs:Array Value}(v:Value)(k:RL P n ops rest (cD U d v) w Q)(hg:Wn ops U g:=by exact trivial)(hd:Nat.blt d n=true:=by exact rfl)(hx:ev U x = .tuple vs:=by exact rfl)(hi:vs[i]? =some v:=by exact rfl):
  RL P n ops (⟨some d, .extract x i,ty,pos,af,g⟩::rest) U w Q:=
 B_ hg hd (by grind [execOp,Instr.extract,aK,aP,aN]) k
theorem EL{b:Bool}(hg:Wn ops U g)(hd:Nat.blt d n=true)(hx:ev U x = .bool b)(hv:(if b=true then ev U y else ev U z)=v)(k:RL P n ops rest (cD U d v) w Q):
  RL P n ops (⟨some d, .pick x y z,ty,pos,af,g⟩::rest) U w Q:=
 B_ hg hd (by grind [execOp,asBool,aK,aP,aN]) k
theorem ED(b:Bool)(k:RL P n ops rest (cD U d<|.bool<|!b) w Q)(hg:Wn ops U g:=by exact trivial)(hd:Nat.blt d n=true:=by exact rfl)(hx:ev U x = .bool b:=by exact rfl):
  RL P n ops (⟨some d, .unOp .not T x,ty,pos,af,g⟩::rest) U w Q:=
 B_ hg hd (by grind [execOp,Op.unary,aK,aP,aN]) k
theorem GM{a:Int}{K:IntKind}(hg:Wn ops U g)(hd:Nat.blt d n=true)(hx:ev U x = .int K a)(k:RL P n ops rest (cD U d<|.int K<|K.wrap<|0 - a) w Q):
  RL P n ops (⟨some d, .unOp .neg T x,ty,pos,af,g⟩::rest) U w Q:=
 B_ hg hd (by grind [execOp,Op.unary,Op.intArith,aK,aP,aN]) k
theorem uf{bop:BinOp}{K:IntKind}{a b:Int}(hc:og bop=true)(w:World):(binOp bop T (.int K a)<|.int K b).run P w = .ok (.bool<|j5 bop a b) w:=by
 cases bop <;> first|(cases hc;done)|(simp only[binOp,ne_eq,not_true,if_false,Op.intCmp,aP,j5])
theorem EJ{bop:BinOp}{K:IntKind}(a b:Int)(hg:Wn ops U g)(k:RL P n ops rest (cD U d<|.bool<|j5 bop a b) w Q)(hd:Nat.blt d n=true:=by exact rfl)(hx:ev U x = .int K a:=by exact rfl)(hy:ev U y = .int K b:=by exact rfl)(hc:og bop=true:=by exact rfl):RL P n ops (⟨some d, .binOp bop T x y T',ty,pos,af,g⟩::rest) U w Q:=by
 refine B_ hg hd ?_ k
 grind [eqGuard,execOp,aK,aN,uf,aP]
theorem Er{bop:BinOp}{K:IntKind}(a b:Int)(k:RL P n ops rest (cD U d<|.int K<|K.wrap<|mK bop a b) w Q)(hg:Wn ops U g:=by exact trivial)(hd:Nat.blt d n=true:=by exact rfl)(hx:ev U x = .int K a:=by exact rfl)(hy:ev U y = .int K b:=by exact rfl)(hc:A7 bop=true:=by exact rfl):RL P n ops (⟨some d, .binOp bop T x y T',ty,pos,af,g⟩::rest) U w Q:=by
 refine B_ hg hd ?_ k;have e:(eqGuard bop T x y (.int K a)<|.int K b).run P w = .ok () w:=by simp[eqGuard]
 have e2:(binOp bop T (.int K a)<|.int K b).run P w = .ok (.int K<|K.wrap<|Gk.mK bop a b) w:=by
  cases bop <;> first|(cases hc;done)|(simp only[binOp,ne_eq,not_true,if_false,Op.intArith,aP,Gk.mK])
 grind [execOp,aK,aN,aP]
theorem Fw{bop:BinOp}(hg:Wn ops U g)(hd:Nat.blt d n=true)(hx:ev U x=v)(hy:ev U y=v')(k:RL P n ops rest (cD U d u) w Q)(he:∀w,(eqGuard bop T x y v v').run P w = .ok () w:=by exact(λ_=>rfl))(hr:∀w,(binOp bop T v v').run P w = .ok u w:=by exact(λ_=>rfl)):RL P n ops (⟨some d, .binOp bop T x y T',ty,pos,af,g⟩::rest) U w Q:=by
 refine B_ hg hd ?_ k
 simp_all[execOp,aK,aN,aP]
theorem vz(s:aL):(⟨s.aU.toArray⟩:ByteArray).toList=s.aU:=by rw[ByteArray.toList_eq]
theorem ug{bop:BinOp}{a b:aL}(hc:og bop=true)(w:World):(binOp bop T (str a)<|str b).run P w = .ok (.bool<|lZ bop a b) w:=by
 cases bop <;> first|(cases hc;done)|(simp only[binOp,str,Op.stringOp,vz,aP,lZ,aL.iw,aL.mx])
theorem EO{bop:BinOp}(a b:aL)(hg:Wn ops U g)(k:RL P n ops rest (cD U d<|.bool<|lZ bop a b) w Q)(hd:Nat.blt d n=true:=by exact rfl)(hx:ev U x=str a:=by exact rfl)(hy:ev U y=str b:=by exact rfl)(hc:og bop=true:=by exact rfl):RL P n ops (⟨some d, .binOp bop T x y T',ty,pos,af,g⟩::rest) U w Q:=by
 refine B_ hg hd ?_ k
 grind [eqGuard,execOp,aK,aN,ug,aP]
theorem ER{t:TypeId}(s:aL)(ht:P.underlying t=some .string)(k:RL P n ops rest (cD U d<|.int .i64 (s.aU.length:Nat)) w Q)(hg:Wn ops U g:=by exact trivial)(hd:Nat.blt d n=true:=by exact rfl)(hx:ev U x=str s:=by exact rfl):RL P n ops (⟨some d, .call ⟨.builtin .len,#[x],#[t]⟩,ty,pos,af,g⟩::rest) U w Q:=by
 refine B_ hg hd ?_ k;have e:(⟨s.aU.toArray⟩:ByteArray).size=s.aU.length:=rfl;simp[execOp,resolve,hx,invoke,builtin,Builtin.len_,run_underlying ht,goInt,str,e]
theorem FU{t e:TypeId}{a:Option Addr}{m cap:Nat}(hg:Wn ops U g)(hd:Nat.blt d n=true)(hx:ev U x = .slice a m cap)(ht:P.underlying t=some (.slice e))
  (k:RL P n ops rest (cD U d<|.int .i64 (m:Nat)) w Q):RL P n ops (⟨some d, .call ⟨.builtin .len,#[x],#[t]⟩,ty,pos,af,g⟩::rest) U w Q:=by
 refine B_ hg hd ?_ k;simp[execOp,resolve,hx,invoke,builtin,Builtin.len_,run_underlying ht,goInt]
theorem FE(s:aL)(i:Int)(c:UInt8){K:IntKind}(hd:Nat.blt d n=true)(hx:ev U x=str s)(hy:ev U y = .int K i)(ht:P.underlying T=some .string)(hc:(if 0<=i then s.aU[i.toNat]? else none)=some c)(k:RL P n ops rest (cD U d<|.int .u8 (c.toNat:Nat)) w Q)(hg:Wn ops U g:=by exact trivial):
  RL P n ops (⟨some d, .index T x y,ty,pos,af,g⟩::rest) U w Q:=by
 refine B_ hg hd ?_ k;have e:(if 0<=i then(⟨s.aU.toArray⟩:ByteArray)[i.toNat]? else none)=some c:=by
  rw[<-hc];split
  ·have:(⟨s.aU.toArray⟩:ByteArray)[i.toNat]? =s.aU.toArray[i.toNat]? :=rfl
   grind
  ·rfl
 simp_all[execOp,Instr.index,asIntOf,run_underlying,str,aK,aP,aN]
theorem E7{j t:Nat}(c:Bool){want:Bool}(b:Bool){op:Op}(v:Value)(ht:(ops[j]?).bind (·.dst)=some t)(hv:U t=cv c (.bool b))(hd:Nat.blt d n=true)(hrun:(c&&(b==want))=true->(execOp (ev U) ⟨some d,op,ty,pos,af,some (j,want)⟩).run P w = .ok (.value v) w)(k:RL P n ops rest (cD U d<|cv (c&&(b==want)) v) w Q):RL P n ops (⟨some d,op,ty,pos,af,some (j,want)⟩::rest) U w Q:=by
 cases hC:(c&&(b==want))with
 |true=>
  rw[hC]at k;have hb:b=want:=by grind
  exact B_ (v:=v) ⟨t,ht,by grind [vw]⟩ hd (hrun hC) k
 |false=>
  rw[hC]at k;refine FD ht ?_ hd k;rw[hv]
  cases c with
  |false=>exact .inr rfl
  |true=>left;cases b <;> cases want <;> first|rfl|(cases hC)
theorem zc{C:Bool}{o:Oper}(ho:o.op = .move x)(hx:C=true->ev U x=v):C=true->(execOp (ev U) o).run P w = .ok (.value v) w:=
 by simp_all[execOp]
theorem zd{C:Bool}{o:Oper}{bop:BinOp}{K:IntKind}{a b:Int}(ho:o.op = .binOp bop T x y T')(hx:C=true->ev U x = .int K a)(hy:C=true->ev U y = .int K b)(hc:og bop=true):
  C=true->(execOp (ev U) o).run P w = .ok (.value<|.bool<|j5 bop a b) w:=by grind [eqGuard,execOp,aK,aN,uf,aP]
theorem ze{C:Bool}{o:Oper}{bop:BinOp}{a b:aL}(ho:o.op = .binOp bop T x y T')(hx:C=true->ev U x=str a)(hy:C=true->ev U y=str b)(hc:og bop=true):
  C=true->(execOp (ev U) o).run P w = .ok (.value<|.bool<|lZ bop a b) w:=by grind [eqGuard,execOp,aK,aN,ug,aP]
theorem zf{C:Bool}{o:Oper}{b:Bool}(ho:o.op = .pick x y z)(hx:C=true->ev U x = .bool b)(hv:C=true->(if b=true then ev U y else ev U z)=v):
  C=true->(execOp (ev U) o).run P w = .ok (.value v) w:=by grind [execOp,asBool,aK,aP,aN]
theorem zg{C:Bool}{o:Oper}{t:TypeId}{s:aL}(ho:o.op = .call ⟨.builtin .len,#[x],#[t]⟩)(hx:C=true->ev U x=str s)(ht:P.underlying t=some .string):
  C=true->(execOp (ev U) o).run P w = .ok (.value<|.int .i64 (s.aU.length:Nat)) w:=λh=>by
 unfold execOp;rw[ho];have e:(⟨s.aU.toArray⟩:ByteArray).size=s.aU.length:=rfl;simp[resolve,hx h,invoke,builtin,Builtin.len_,run_underlying ht,goInt,str,e]
end
section
variable {α β:Type}[GT α][GT β]{P:Program}{E w:World}{V:List HP}{i:Nat}{v:Value}{x:α}
theorem Holds.oe(h:Holds E w V)(hi:V[i]? =some (rd v x)):∃M hs,Good E w M hs V/\Gk.oe M v x:=
 let⟨M,hs,g⟩:=h
 ⟨M,hs,g,(g.sat i _ hi).1⟩
theorem Holds.slice{l:List α}(h:Holds E w V)(hi:V[i]? =some (rd v l)):∃a cap,v = .slice a l.length cap:=by
 obtain⟨M,hs,g,hr⟩:=h.oe hi;obtain⟨a,m,cap,hv,hm,_⟩:=iS.1 hr
 grind
theorem Holds.dup(i:Nat)(h:Holds E w V)(hi:V[i]? =some (rd v x)):Holds E w (rd v x::V):=
 h.qK λ_ _ g=>⟨(g.sat i _ hi).1,rfl⟩
theorem Holds.sc(γ:Type)[Sc γ](h:Holds E w V)(y:γ):Holds E w (rd (Sc.toV y) y::V):=h.qK λ_ _ _=>⟨qL.2 rfl,rfl⟩
theorem Holds.oO{γ:Type}[Sc γ]{y:γ}(h:Holds E w V)(hi:V[i]? =some (rd v y)):v=Sc.toV y:=by
 obtain⟨M,hs,g,hr⟩:=h.oe hi;exact qL.1 hr
end
section
variable {α β:Type}[GT α][GT β]
variable {P:Program}{n:Nat}{U:Nat->Value}{w:World}{Q:dL}{E:World}{V:List HP}{i:Nat}
variable {ops:Array Oper}{rest:List Oper}{d:Nat}{ty:TypeId}{pos:String}{af:Array Edge}{g:Option (Nat×Bool)}{v:Value}{q r:Operand}{T T' e:TypeId}
variable {x:α}
theorem gY{cs:List Value}{a:Addr}{M:bX}(hT:je P T (GT.agg α) (GT.sz α))(ho:GT.ok M cs x)(hat:∀j u,cs[j]? =some u->w.cell? (a.add j)=some u):
  (loadVar T a).run P w = .ok (mJ α cs) w:=by
 have hl:=GT.len ho;unfold loadVar mJ;simp only[aK,hT.zb,aN]
 cases e:GT.agg α with
 |true=>
  simp only[if_true,aK,hT.sz,aN,<-hl,run_loadCells_list w a cs hat,aP]
 |false=>
  rw[GT.ag1 e]at hl
  match cs,hl with
  | [c],_=>
   have:=hat 0 c rfl;have ha:a.add 0=a:=rfl
   simp_all
theorem By{p:Value}(i:Nat)(x:α)(hw:Holds E w V)(hT:je P T (GT.agg α) (GT.sz α))(k:∀v,Holds E w (rd v x::V)->RL P n ops rest (cD U d v) w Q)(hg:Wn ops U g:=by exact trivial)(hd:Nat.blt d n=true:=by exact rfl)(hx:ev U q=p:=by exact rfl)(hi:V[i]? =some (pt p x):=by exact rfl):RL P n ops (⟨some d, .load T q,ty,pos,af,g⟩::rest) U w Q:=by
 obtain⟨M,hs,gd⟩:=hw;obtain⟨⟨ad,cs,hv,ho,ha⟩,_⟩:=gd.sat i _ hi;refine B_ (v:=mJ α cs) hg hd ?_<|k _ ⟨M,_,gd.dH ⟨⟨cs,rfl,ho⟩,rfl⟩⟩
 simp only[execOp,hx,hv,Instr.loadAt,Instr.sureAddr,aK,aP,aN,gY hT ho<|λj u hu=>mI gd.im<|ha j u hu]
theorem Ey{γ:Type}[Sc γ](y:γ){p:Value}(i:Nat)(hg:Wn ops U g)(hw:Holds E w V)(hT:je P T false 1)(k:RL P n ops rest (cD U d<|Sc.toV y) w Q)(hd:Nat.blt d n=true:=by exact rfl)(hx:ev U q=p:=by exact rfl)(hi:V[i]? =some (pt p y):=by exact rfl):RL P n ops (⟨some d, .load T q,ty,pos,af,g⟩::rest) U w Q:=by
 refine By (hg:=hg) (hd:=hd) (hx:=hx) (hi:=hi) _ y hw hT λv h=>?_;rw[h.oO (i:=0) rfl];exact k
theorem Eo{p:Value}{j m:Nat}{f:α->β}(i:Nat)(hw:Holds E w V)(hi:V[i]? =some (pt p x))(hf:nM P T j m)(hF:Fd m f)(k:∀v,Holds E w (pt v (f x)::V)->RL P n ops rest (cD U d v) w Q)(hg:Wn ops U g:=by exact trivial)(hd:Nat.blt d n=true:=by exact rfl)(hx:ev U q=p:=by exact rfl):RL P n ops (⟨some d, .fieldAddr T q j,ty,pos,af,g⟩::rest) U w Q:=by
 obtain⟨M,hs,gd⟩:=hw;obtain⟨⟨ad,cs,hv,ho,ha⟩,_⟩:=gd.sat i _ hi;refine B_ (v:= .pointer<|some<|ad.add m) hg hd ?_<|k _ ⟨M,_,gd.dH ⟨⟨ad.add m,_,rfl,hF M cs x ho,ha.sub m<|GT.sz β⟩,rfl⟩⟩
 simp only[execOp,hx,hv,aK,hf.run,aN,aP]
theorem BY{l:List α}{sv:Value}{K:IntKind}{j:Int}(i:Nat)(hw:Holds E w V)(hT:te P T e (GT.sz α))(hj:(if 0<=j then l[j.toNat]? else none)=some x)(k:∀v,Holds E w (pt v x::V)->RL P n ops rest (cD U d v) w Q)(hg:Wn ops U g:=by exact trivial)(hd:Nat.blt d n=true:=by exact rfl)(hx:ev U q=sv:=by exact rfl)(hy:ev U r = .int K j:=by exact rfl)(hi:V[i]? =some (rd sv l):=by exact rfl):RL P n ops (⟨some d, .indexAddr T q r,ty,pos,af,g⟩::rest) U w Q:=by
 obtain⟨M,hs,gd⟩:=hw;obtain⟨a,m,cap,hv,hm,hc,hmx,hel⟩:=iS.1 (gd.sat i _ hi).1;have h0:0<=j:=by
  grind
 rw[aG h0]at hj;obtain⟨ad,cs,hae,ho,ha⟩:=hel _ _ hj;have hlt:j<m:=by grind
 refine B_ (v:= .pointer<|some<|ad.add<|j.toNat*GT.sz α) hg hd ?_<|k _ ⟨M,_,gd.dH ⟨⟨_,cs,rfl,ho,ha⟩,rfl⟩⟩
 simp only[execOp,hx,hv,hae,hy,Instr.indexAt,asIntOf,aK,aP,aN,run_underlying hT.rY,hT.sz,h0,hlt,and_self,if_true]
theorem Es{b m:Nat}{f:α->β}(i:Nat)(hw:Holds E w V)(hi:V[i]? =some (bx e b x))(hF:Fd m f)(hT:je P T (GT.agg β) (GT.sz β))(k:∀v,Holds E w (rd v (f x)::V)->RL P n ops rest (cD U d v) w Q)(hg:Wn ops U g:=by exact trivial)(hd:Nat.blt d n=true:=by exact rfl)(hx:ev U q = .pointer (some ⟨b,m,none⟩):=by exact rfl):RL P n ops (⟨some d, .load T q,ty,pos,af,g⟩::rest) U w Q:=by
 obtain⟨M,hs,gd⟩:=hw;obtain⟨cs,ho,hh⟩:=gd.sat i _ hi;have hb:=gd.le i b _ (bE hi) (by rw[hh];exact bL b _);have ho':=hF M cs x ho;refine B_ (v:=mJ β<|(cs.drop m).take<|GT.sz β) hg hd ?_<|k _ ⟨M,_,gd.dH ⟨⟨_,rfl,ho'⟩,rfl⟩⟩
 simp only[execOp,hx,Instr.loadAt,Instr.sureAddr,aK,aP,aN];rw[gY hT ho'<|λj u hu=>?_];rfl;rw[Addr.add_lit,cell_of_row w b _ _ _ _ hb]
 grind
theorem AT{γ:Type}[Sc γ]{b m:Nat}{f:α->γ}(i:Nat)(hw:Holds E w V)(hi:V[i]? =some (bx e b x))(hF:Fd m f)(hT:je P T false 1)(k:RL P n ops rest (cD U d<|Sc.toV<|f x) w Q)(hg:Wn ops U g:=by exact trivial)(hd:Nat.blt d n=true:=by exact rfl)(hx:ev U q = .pointer (some ⟨b,m,none⟩):=by exact rfl):RL P n ops (⟨some d, .load T q,ty,pos,af,g⟩::rest) U w Q:=by
 refine Es (hg:=hg) (hd:=hd) (hx:=hx) (f:=f) _ hw hi hF hT λv h=>?_;rw[h.oO (i:=0) rfl];exact k
theorem u_{b o j m:Nat}(hx:ev U q = .pointer (some ⟨b,o,none⟩))(hf:nM P T j m)(k:RL P n ops rest (cD U d<|.pointer<|some ⟨b,o+m,none⟩) w Q)(hg:Wn ops U g:=by exact trivial)(hd:Nat.blt d n=true:=by exact rfl):RL P n ops (⟨some d, .fieldAddr T q j,ty,pos,af,g⟩::rest) U w Q:=by
 refine B_ hg hd ?_ k;simp only[execOp,hx,aK,hf.run,aN,aP,Addr.add_lit]
theorem Ep(i:Nat)(v:Value)(hw:Holds E w V)(hi:V[i]? =some (rd v x))(k:∀b w',Holds E w' (bx T b x::V)->RL P n ops rest (cD U d<|.pointer<|some ⟨b,0,none⟩) w' Q)(hg:Wn ops U g:=by exact trivial)(hd:Nat.blt d n=true:=by exact rfl)(hx:ev U q=v:=by exact rfl):RL P n ops (⟨some d, .box T q,ty,pos,af,g⟩::rest) U w Q:=by
 obtain⟨M,hs,gd,hr⟩:=hw.oe hi;refine B_ (w':=w.alloc<|.cells v.cells T) hg hd ?_<|k w.heap.size _<|hw.alloc _ λM' hs' g'=>⟨v.cells.toList,?_,by simp⟩
 ·simp only[execOp,hx,Instr.box,newVar,newRow,newObj,aK,aP];rfl
 ·exact((g'.sat i _ hi).1).cells
def raw(e:TypeId)(b k:Nat):HP:=⟨λ_ h=>∃cs:List Value,cs.length=k/\h=Gk.one b (.cells cs.toArray e (0,0)),λ_ h=>h⟩
theorem Em{m:Nat}(hw:Holds E w V)(hz:∃z,(∀w,(zeroValue T).run P w = .ok z w)/\z.cells.size=m)(k:∀b w',Holds E w' (raw T b m::V)->RL P n ops rest (cD U d<|.pointer<|some ⟨b,0,none⟩) w' Q)(hg:Wn ops U g:=by exact trivial)(hd:Nat.blt d n=true:=by exact rfl):RL P n ops (⟨some d, .alloc T,ty,pos,af,g⟩::rest) U w Q:=by
 obtain⟨z,hz,hs⟩:=hz;refine B_ (w':=w.alloc<|.cells z.cells T) hg hd ?_<|k w.heap.size _<|hw.alloc _ λ_ _ _=>⟨z.cells.toList,by omega,by simp⟩
 simp only[execOp,Instr.alloc,newVar,newRow,newObj,aK,aP,hz,aN];rfl
theorem iT{m:Nat}{b o:Nat}{cur:Array Value}(hsz:∀w,(sizeOf T).run P w = .ok m w)(hv:v.cells.size=m)(h1:∀u∈v.cells.toList,u.oneCell'=true)
  (hb:w.heap[b]? =some (.cells cur e (0,0))) (ho:o+m<=cur.size):
  (storeVar T ⟨b,o,none⟩ v).run P w = .ok () (w.setRow b (cur.toList.take o++v.cells.toList++cur.toList.drop (o+m)).toArray):=by
 have:=run_storeCells_at P b o e v.cells.toList 0 cur w hb (by grind) h1
 grind [Array.length_toList,storeVar,aK,aN,not_true]
theorem iJ{M:bX}{hs:Nat->bX}{P':HP}{b:Nat}{cur new:Array Value}{Pi:HP}(gd:Good E w M hs V)(hi:V[i]? =some Pi)(hh:hs i=Gk.one b (.cells cur e (0,0)))
  (hp:P'.ok M (Gk.one b<|.cells new e (0,0))):Holds E (w.setRow b new) (V.set i P'):=by
 have hb:=gd.le i b _ (bE hi) (by rw[hh];exact bL b _);refine⟨M,_,gd.update (bE hi) (Gk.one b<|.cells new e (0,0)) hp rfl rfl rfl (λb' o' hb'=>?_) (λb' o' hb'=>?_)<|λb' hb' _=>?_⟩
 ·grind [eU,setRow_heap]
 ·obtain⟨rfl,rfl⟩:=eU hb';simp_all[bL]
 ·rw[hh]at hb'
  grind [setRow_other,bL]
theorem Ei{m b:Nat}(i:Nat)(hw:Holds E w V)(j:Nat)(hj:V[j]? =some (rd v x))(hT:je P T (GT.agg α) (GT.sz α))(k:∀w',Holds E w' (V.set i<|bx e b x)->RL P n ops rest U w' Q)(hg:Wn ops U g:=by exact trivial)(hx:ev U q = .pointer (some ⟨b,0,none⟩):=by exact rfl)(hy:ev U r=v:=by exact rfl)(hi:V[i]? =some (raw e b m):=by exact rfl)(hm:m=GT.sz α:=by exact rfl):RL P n ops (⟨none, .store T q r,ty,pos,af,g⟩::rest) U w Q:=by
 obtain⟨M,hs,gd⟩:=hw;obtain⟨cs,hl,hh⟩:=gd.sat i _ hi;have hr:=(gd.sat j _ hj).1;have hb:=gd.le i b _ (bE hi) (by rw[hh];exact bL b _);have hc:v.cells.size=GT.sz α:=by rw[<-GT.len hr.cells];simp
 have hrun:=iT (P:=P) (v:=v) (o:=0) hT.sz hc (GT.one hr.cells) hb (by simp[hl,hm]);refine E6 (w':=w.setRow b v.cells) hg ?_<|k _<|iJ gd hi hh ⟨v.cells.toList,hr.cells,by simp⟩
 have hd:List.drop (GT.sz α) cs= []:=List.drop_eq_nil_of_le (by omega);simp only[fM,List.take_zero,List.nil_append,hd,iQ,Array.toArray_toList]at hrun
 grind [execOp,Instr.storeAt,Instr.sureAddr,aK,aP,aN]
theorem FV{b m:Nat}{y:β}{f:α->β->α}(i:Nat)(hg:Wn ops U g)(hw:Holds E w V)(hx:ev U q = .pointer (some ⟨b,m,none⟩))(hy:ev U r=v)(hi:V[i]? =some (bx e b x))(j:Nat)(hj:V[j]? =some (rd v y))(hF:Fs m β f)(hT:je P T (GT.agg β) (GT.sz β))(k:∀w',Holds E w' (V.set i<|bx e b<|f x y)->RL P n ops rest U w' Q)(hm:m+GT.sz β<=GT.sz α:=by decide):
  RL P n ops (⟨none, .store T q r,ty,pos,af,g⟩::rest) U w Q:=by
 obtain⟨M,hs,gd⟩:=hw;obtain⟨cs,ho',hh⟩:=gd.sat i _ hi;have hl:=GT.len ho';have hr:=(gd.sat j _ hj).1;have hb:=gd.le i b _ (bE hi) (by rw[hh];exact bL b _);have hc:v.cells.size=GT.sz β:=by rw[<-GT.len hr.cells];simp
 have hrun:=iT (P:=P) (v:=v) (o:=m) hT.sz hc (GT.one hr.cells) hb (by simp[hl,hm]);refine E6 hg ?_<|k _<|iJ (new:=(cs.take m++v.cells.toList++cs.drop (m+GT.sz β)).toArray) gd hi hh ⟨_,hF M cs v.cells.toList x y ho' hr.cells,rfl⟩
 grind [execOp,Instr.storeAt,Instr.sureAddr,aK,aP,aN]
end
inductive Fl (S R:Type)where
 |nx (s:S)
 |br (s:S)
 |rt (r:R)
inductive Fo (S R:Type)where
 |go (s:S)
 |rt (r:R)
section
variable {S R:Type}
def tf(body:Nat->S->Option (Fl S R)):Nat->Nat->S->Option (Fo S R)
 | 0,_,s=>some (.go s)
 |m+1,k,s=>(body k s).bind λ
  | .nx s'=>tf body m (k+1) s'
  | .br s'=>some (.go s')
  | .rt r=>some (.rt r)
def ly(m:Nat)(body:Nat->S->Option (Fl S R))(s:S):Option (Fo S R):=if m<=4611686018427387904 then tf body m 0 s else none
def vA(body:Nat->S->Option S):Nat->Nat->S->Option S
 | 0,_,s=>some s
 |m+1,k,s=>(body k s).bind λs'=>vA body m (k+1) s'
def lz(m:Nat)(body:Nat->S->Option S)(s:S):Option S:=if m<=4611686018427387904 then vA body m 0 s else none
def sb(body:S->Option (Fl S R)):Nat->S->Option (Fo S R)
 | 0,_=>none
 |N+1,s=>(body s).bind λ
  | .nx s'=>sb body N s'
  | .br s'=>some (.go s')
  | .rt r=>some (.rt r)
theorem bd{α β:Type}{o:Option α}{f:α->Option β}{r:β}(h:o.bind f=some r):∃x,o=some x/\f x=some r:=by
 cases o with
 |none=>cases h
 |some x=>grind
end
section
variable {S R:Type}{P:Program}{n:Nat}{U:Nat->Value}{w:World}{Q:dL}{c x y:Code}{b0:Nat}
def zh(b0:Nat)(J:S->(Nat->Value)->World->Prop)(K:R->(Nat->Value)->World->Prop):Fo S R->dL
 | .go s=>λex U w=>ex = .exit b0/\J s U w
 | .rt r=>λex U w=>ex = .ret/\K r U w
def xR(I:Nat->S->(Nat->Value)->World->Prop)(b0:Nat)(J:S->(Nat->Value)->World->Prop)(K:R->(Nat->Value)->World->Prop)(k:Nat):Fl S R->dL
 | .nx s=>λex U w=>ex = .normal/\I (k+1) s U w
 | .br s=>λex U w=>ex = .exit b0/\J s U w
 | .rt r=>λex U w=>ex = .ret/\K r U w
def rZ(I:S->(Nat->Value)->World->Prop)(b0:Nat)(J:S->(Nat->Value)->World->Prop)(K:R->(Nat->Value)->World->Prop):Fl S R->dL
 | .nx s=>λex U w=>ex = .normal/\I s U w
 | .br s=>λex U w=>ex = .exit b0/\J s U w
 | .rt r=>λex U w=>ex = .ret/\K r U w
theorem xS{a:Act}{Q:Exit->Act->World->Prop}(I:Nat->Act->World->Prop){m:Nat}(h0:I m a w)
  (round:∀m a w,I m a w->c.wp P (Exit.then (λa' w'=>∃m',m'<m/\I m' a' w') Q) a w):(Code.loop c).wp P Q a w:=by
 intro b k cs;have key:∀m a w,I m a w->∃e a' w',Q e a' w'/\Arrives P (lone (b.at a<|.code c:: .inLoop c::k) cs w) b k cs e a' w':=by
  intro m
  induction m using Nat.strongRecOn with
  |_ m ih=>
   intro a w hI;obtain⟨e,a₁,w₁,hq,harr⟩:=round m a w hI b (.inLoop c::k) cs
   cases e with
   |normal=>
    obtain⟨m',hlt,hI₁⟩:=hq;obtain⟨e₂,a₂,w₂,hq₂,harr₂⟩:=ih m' hlt a₁ w₁ hI₁;exact⟨e₂,a₂,w₂,hq₂, .of_steps (Steps.trans harr<|.one step_inLoop) harr₂⟩
   |exit id=>exact⟨_,a₁,w₁,hq, .pass (x:= .inLoop c) rfl (λ_ _=> .inl (by simp)) harr⟩
   |goto l=>exact⟨_,a₁,w₁,hq, .pass (x:= .inLoop c) rfl (λ_ _=> .inl (by simp)) harr⟩
   |ret=>exact⟨_,a₁,w₁,hq, .pass (x:= .inLoop c) rfl (λ_ _=> .inl (by simp)) harr⟩
   |panic ch=>exact⟨_,a₁,w₁,hq, .pass (x:= .inLoop c) rfl (λ_ _=> .inl (by simp)) harr⟩
   |outgrown=>exact⟨_,a₁,w₁,hq, .pass (x:= .inLoop c) rfl (λ_ _=> .inl (by simp)) harr⟩
 obtain⟨e,a',w',hq,harr⟩:=key _ a w h0;exact⟨e,a',w',hq, .of_steps (.one step_loop) harr⟩
theorem FF(I:Nat->(Nat->Value)->World->Prop){m:Nat}(h0:I m U w)
  (step:∀m U w,I m U w->RC P n c U w (λex σ' w'=>(ex = .normal/\∃m',m'<m/\I m' σ' w')\/(ex≠ .normal/\Q ex σ' w'))):RC P n (.loop c) U w Q:=by
 intro a ha;refine xS (λm a w=>∃U,Sl n U a/\I m U w) ⟨U,ha,h0⟩ ?_;rintro m a w⟨U,hs,hI⟩;refine wp_mono (step m U w hI a hs) λe a' w'⟨σ',hs',q⟩=>?_
 rcases q with⟨rfl,m',hm,hI'⟩|⟨hne,hq⟩
 ·exact⟨m',hm,σ',hs',hI'⟩
 ·cases e with
  |normal=>grind
  |_=>exact⟨σ',hs',hq⟩
theorem FW(I:Nat->S->(Nat->Value)->World->Prop)(J:S->(Nat->Value)->World->Prop)(K:R->(Nat->Value)->World->Prop)
  {body:Nat->S->Option (Fl S R)} {m:Nat} {s0:S} {out:Fo S R} (hN:ly m body s0=some out) (h0:I 0 s0 U w)
  (stop:m<=4611686018427387904->∀s U w,I m s U w->RC P n c U w (zh (R:=R) b0 J K<|.go s))
  (step:m<=4611686018427387904->∀k s fl U w,k<m->I k s U w->body k s=some fl->RC P n c U w (xR I b0 J K k fl))
  (hrt:∀r U w,out = .rt r->K r U w->Q .ret U w) (hgo:∀s U w,out = .go s->J s U w->Q .normal U w):RC P n (.block b0<|.loop c) U w Q:=by
 unfold ly at hN;split at hN
 ·rename_i hm;refine Fi<|FF (λj U w=>(∃k s,k+j=m+1/\k<=m/\I k s U w/\tf body (m - k) k s=some out)) (m:=m+1) ⟨0,s0,by omega,by omega,h0,hN⟩ ?_
  rintro j U w⟨k,s,hk,hkm,hI,hr⟩
  by_cases e:k<m
  ·obtain⟨j',hj'⟩:∃j',m - k=j'+1:=⟨m - k - 1,by omega⟩;rw[hj']at hr;obtain⟨fl,hb,hr⟩:=bd hr;refine RC.mono (step hm k s fl U w e hI hb) λex σ' w' q=>?_
   cases fl with
   |nx s'=>
    obtain⟨rfl,hI'⟩:=q;exact .inl ⟨rfl,j - 1,by omega,k+1,s',by omega,by omega,hI',by grind⟩
   |br s'=>
    obtain⟨rfl,hJ⟩:=q
    grind [pq]
   |rt r=>
    obtain⟨rfl,hK⟩:=q;injection hr with hr
    exact .inr ⟨by simp,hrt r σ' w' hr.symm hK⟩
  ·obtain rfl:k=m:=by omega
   rw[Nat.sub_self]at hr;injection hr with hr
   refine RC.mono (stop hm s U w hI) λex σ' w' q=>?_;obtain⟨rfl,hJ⟩:=q
   grind [pq]
 ·cases hN
theorem sd{body:Nat->S->Option S}:∀(m k:Nat)(s s':S),vA body m k s=some s'->tf (R:=Empty) (λk s=>(body k s).map Fl.nx) m k s=some (.go s')
 | 0,_,s,s',h=>by injection h with h;subst h;rfl
 |m+1,k,s,s',h=>by
  obtain⟨s1,hb,hr⟩:=bd h;unfold tf;simp only[hb,Option.map_some,Option.bind_some];exact sd m (k+1) s1 s' hr
theorem FG(I:Nat->S->(Nat->Value)->World->Prop)(J:S->(Nat->Value)->World->Prop)
  {body:Nat->S->Option S} {m:Nat} {s0 out:S} (hN:lz m body s0=some out) (h0:I 0 s0 U w)
  (stop:m<=4611686018427387904->∀s U w,I m s U w->RC P n c U w (λex U w=>ex = .exit b0/\J s U w))
  (step:m<=4611686018427387904->∀k s s' U w,k<m->I k s U w->body k s=some s'->RC P n c U w (λex U w=>ex = .normal/\I (k+1) s' U w))
  (hgo:∀U w,J out U w->Q .normal U w):RC P n (.block b0<|.loop c) U w Q:=by
 have hN':ly (R:=Empty) m (λk s=>(body k s).map Fl.nx) s0=some (.go out):=by
  grind [lz,ly,sd]
 refine FW I J (λr _ _=>r.elim) hN' h0 (λhm s U w hI=>stop hm s U w hI) (λhm k s fl U w hk hI hb=>?_) (λr _ _ _ _=>r.elim)<|λs U w e hJ=>?_
 ·cases hx:body k s with
  |none=>grind
  |some s'=>
   rw[hx]at hb;injection hb with hb
   subst hb;exact step hm k s s' U w hk hI hx
 grind
theorem FH(I:S->(Nat->Value)->World->Prop)(J:S->(Nat->Value)->World->Prop)(K:R->(Nat->Value)->World->Prop)
  {body:S->Option (Fl S R)} {N:Nat} {s0:S} {out:Fo S R} (hN:sb body N s0=some out) (h0:I s0 U w)
  (step:∀s fl U w,I s U w->body s=some fl->RC P n c U w (rZ I b0 J K fl))
  (hrt:∀r U w,out = .rt r->K r U w->Q .ret U w) (hgo:∀s U w,out = .go s->J s U w->Q .normal U w):RC P n (.block b0<|.loop c) U w Q:=by
 refine Fi<|FF (λj U w=>∃s,I s U w/\sb body j s=some out) (m:=N) ⟨s0,h0,hN⟩ ?_
 rintro j U w⟨s,hI,hr⟩
 cases j with
 |zero=>cases hr
 |succ j=>
  obtain⟨fl,hb,hr⟩:=bd hr;refine RC.mono (step s fl U w hI hb) λex σ' w' q=>?_
  cases fl with
  |nx s'=>obtain⟨rfl,hI'⟩:=q;grind
  |br s'=>
   obtain⟨rfl,hJ⟩:=q
   grind [pq]
  |rt r=>
   obtain⟨rfl,hK⟩:=q;injection hr with hr
   exact .inr ⟨by simp,hrt r σ' w' hr.symm hK⟩
theorem GN(J:S->(Nat->Value)->World->Prop)(s:S)(hx:RC P n x U w (λex U w=>ex = .normal/\J s U w))(hy:∀U w,J s U w->RC P n y U w Q):RC P n (.seq x y) U w Q:=
 A_ (RC.mono hx λex U w⟨e,hJ⟩=>by subst e;exact hy U w hJ)
theorem GO(J:S->(Nat->Value)->World->Prop)(K:R->(Nat->Value)->World->Prop){out:Fo S R}
  (hx:RC P n x U w (match out with| .go s=>λex U w=>ex = .normal/\J s U w| .rt r=>λex U w=>ex = .ret/\K r U w))
  (hy:∀s U w,out = .go s->J s U w->RC P n y U w Q) (hr:∀r U w,out = .rt r->K r U w->Q .ret U w):RC P n (.seq x y) U w Q:=
 A_ (RC.mono hx λex U w q=>by
  cases out with
  |go s=>obtain⟨rfl,hJ⟩:=q;exact hy s U w rfl hJ
  |rt r=>obtain⟨rfl,hK⟩:=q;exact hr r U w rfl hK)
theorem gl{x:Int}(h1: -9223372036854775808<=x)(h2:x<9223372036854775808):IntKind.i64.wrap x=x:=by
 have e1:(2:Int) ^ (IntKind.i64.bits)=18446744073709551616:=by decide
 have e2:(2:Int) ^ (IntKind.i64.bits - 1)=9223372036854775808:=by decide
 have e3:IntKind.i64.signed=true:=by decide
 grind [wrap]
theorem wS{k m:Nat}(h:k<m)(hm:m<=4611686018427387904):IntKind.i64.wrap ((k:Int)+1)=((k+1:Nat):Int):=by
 grind [gl]
end
section
variable {α β:Type}[GT α][GT β]{M:bX}
theorem Cells.nil:Cells M [] ([]:List α):=⟨by simp,λi x h=>by simp at h⟩
theorem Cells.append{xs ys:List Value}{l l':List α}(h:Cells M xs l)(h':Cells M ys l'):Cells M (xs++ys) (l++l'):=by
 refine⟨by rw[cT,cT,h.1,h'.1,Nat.add_mul],λi x hx=>?_⟩
 by_cases hi:i<l.length
 ·rw[iP hi]at hx;have hb:i*GT.sz α+GT.sz α<=xs.length:=by
   rw[h.1]
   calc i*GT.sz α+GT.sz α=(i+1)*GT.sz α:=by rw[Nat.add_mul,Nat.one_mul]
    _<=l.length*GT.sz α:=Nat.mul_le_mul_right _ hi
  rw[List.drop_append_of_le_length (by omega),List.take_append_of_le_length (by grind)];exact h.2 i x hx
 ·rw[iG (by omega)]at hx;have:=h'.2 _ x hx;obtain⟨k,rfl⟩:∃k,i=l.length+k:=⟨i - l.length,by omega⟩;rw[Nat.add_sub_cancel_left]at this;rw[Nat.add_mul,<-h.1,List.drop_length_add_append];exact this
theorem Cells.one{cs:List Value}{x:α}(h:GT.ok M cs x):Cells M cs [x]:=
 ⟨by grind [GT.len],λi y hy=>by
  cases i with
  |zero=>grind [nK,GT.len]
  |succ i=>simp at hy⟩
theorem Cells.Cd{xs:List Value}{l:List α}(h:Cells M xs l):∀u∈xs,u.oneCell'=true:=by
 intro u hu;obtain⟨j,hj,rfl⟩:=List.getElem_of_mem hu;have hp:=GT.pos (α:=α);have hq:j / GT.sz α<l.length:=by rw[Nat.div_lt_iff_lt_mul hp,<-h.1];exact hj
 refine GT.one (h.2 (j / GT.sz α) l[j / GT.sz α]<|aM hq) _ ?_;have hm:j % GT.sz α<GT.sz α:=Nat.mod_lt _ hp;have hd:j / GT.sz α*GT.sz α+j % GT.sz α=j:=by simp[Nat.mul_comm,Nat.div_add_mod]
 refine dW (i:=j % GT.sz α) ?_
 grind
theorem ui{ad:Addr}{m cap:Nat}{l:List α}(h:iR M (.slice (some ad) m cap) l):∃xs,Cells M xs l/\At M ad xs:=by
 obtain⟨a,n',cap',hv,hn,_,_,hel⟩:=h;injection hv with h1 h2 h3
 subst h1;have key:∀k,k<=l.length->∃xs,Cells M xs (l.take k)/\At M ad xs:=by
  intro k
  induction k with
  |zero=>exact λ_=>⟨[],by simp[Cells.nil],λj u hu=>by simp at hu⟩
  |succ k ih=>
   intro hk;obtain⟨xs,hc,ha⟩:=ih (by omega);have hx:l[k]? =some l[k]:=aM (by omega);obtain⟨ad',cs,e,ho,hat⟩:=hel k _ hx;injection e with e
   subst e;refine⟨xs++cs,?_,λj u hu=>?_⟩
   ·rw[gX (by omega)];exact hc.append<|Cells.one ho
   ·have hl:xs.length=k*GT.sz α:=by rw[hc.1,eJ];congr 1;omega
    by_cases hj:j<xs.length
    ·rw[iP hj]at hu;exact ha j u hu
    ·rw[iG (by omega)]at hu;have:=hat _ u hu
     grind [add_add,GT.sz]
 have:=key l.length<|bP _
 grind
theorem At.nil(a:Addr):At M a []:=λj u hu=>by simp at hu
theorem oP{g o cap:Nat}{cur:Array Value}{e:TypeId}{fr:Nat×Nat}{xs:List Value}{l:List α}(hM:M g=some (.cells cur e fr))(hc:Cells M xs l)(hx:(cur.toList.drop o).take (l.length*GT.sz α)=xs)
  (hl:l.length<=cap) (hm:cap<=maxLen):iR M (.slice (some ⟨g,o,none⟩) l.length cap) l:=by
 refine⟨_,_,_,rfl,rfl,hl,hm,λi x hix=>⟨_,_,rfl,hc.2 i x hix,λj u hu=>?_⟩⟩
 grind [Addr.add_lit,oN,Option.isSome_none,Nat.add_assoc]
end
section
variable {α β:Type}[GT α][GT β]{P:Program}{E w:World}{V:List HP}{i:Nat}{v:Value}{l:List α}{e:TypeId}
theorem ia(e:TypeId)(M:bX):qm (α:=α) e M kL (.slice none 0 0) []:= .inl ⟨rfl,rfl,rfl⟩
theorem Holds.ia(h:Holds E w V)(α:Type)[GT α](e:TypeId):Holds E w (own (α:=α) e (.slice none 0 0) []::V):=h.qK λM _ _=>Gk.ia e M
theorem Holds.freeze(i:Nat)(h:Holds E w V)(hi:V[i]? =some (own e v l):=by exact rfl):Holds E w (V.set i<|rd v l):=by
 obtain⟨M,hs,g⟩:=h;have hlt:=bE hi;have ho:=g.sat i _ hi;refine⟨_,_,g.freeze (P':=rd v l) hlt ⟨iS.2 ?_,rfl⟩⟩
 rcases ho with⟨rfl,rfl,_⟩|⟨b,o,cap,cur,xs,rfl,h2,h3,h4,h5,h6,h7⟩
 ·exact⟨none,0,0,rfl,rfl,bP _,by simp[maxLen],λi x hx=>by simp at hx⟩
 ·refine oP (M:=jG M<|hs i) (e:=e) (fr:=(0,0)) ?_ (h7.mono<|qC _ _) h6 h2 h3;have hb:hs i b=some (.cells cur e (0,0)):=by simp_all[bL]
  simp[jG,g.dm i b _ hlt hb,hb]
theorem Holds.nN(h:Holds E w V)(hi:V[i]? =some (own e v l)):∃a cap,v = .slice a l.length cap:=by
 obtain⟨M,hs,g⟩:=h
 rcases g.sat i _ hi with⟨rfl,rfl,_⟩|⟨b,o,cap,cur,xs,rfl,_⟩
 ·simp
 simp
theorem xU{M h:bX}(ho:qm e M h v l):v.oneCell'=true:=by
 rcases ho with⟨rfl,_⟩|⟨b,o,cap,cur,xs,rfl,_⟩ <;> rfl
end
def app{α:Type}(bytes:Nat)(l ys:List α):Option (List α):=if(l.length+ys.length)*bytes<=140737488355328 then some (l++ys)else none
structure tg (P:Program) (t e:TypeId) (k bytes:Nat):Prop where
 rY:P.underlying t=some (.slice e)
 inf:∃i z,P.info? e=some i/\i.zero=some z/\i.size=k/\i.bytes=bytes/\z.cells.size=k
 pos:0<bytes
section
variable {α:Type}[GT α]{P:Program}{E w:World}{V:List HP}{i j:Nat}{v vy:Value}{l ys l':List α}{e t ty:TypeId}{bytes:Nat}
theorem pw(i:TypeInfo)(ht:P.underlying t=some (.slice e))(hi:P.info? e=some i)
  (g o sLen sCap:Nat) (cur:Array Value) (hg:w.heap[g]? =some (.cells cur e (0,0)))
  (a:Addr) (m c:Nat) (news:List Value) (hl:news.length=m*i.size) (hnews:∀j u,news[j]? =some u->w.cell? (a.add j)=some u) (h1:∀u∈news,u.oneCell'=true)
  (hroom:sLen+m<=sCap) (hfit:o+sLen*i.size+news.length<=cur.size):
  (Builtin.append_ #[t,t] ty #[.slice (some ⟨g,o,none⟩) sLen sCap, .slice (some a) m c]).run P w =
   .ok (.slice (some ⟨g,o,none⟩) (sLen+m) sCap) (w.setRow g (cur.toList.take (o+sLen*i.size)++news++cur.toList.drop (o+sLen*i.size+news.length)).toArray):=by
 have hf:=run_firstCells_some (P:=P) w i.size m a m c news hl hnews;have hst:=run_storeCells_at P g (o+sLen*i.size) e news 0 cur w hg (by omega) h1;simp only[Nat.add_zero]at hst;simp[Builtin.append_,run_underlying ht,sizeOf,typeInfo,hi,Builtin.lenOf,hroom,hf,Addr.add_lit,hst]
theorem mz(i:TypeInfo)(ht:P.underlying t=some (.slice e))(hi:P.info? e=some i)(a:Option Addr)(sLen sCap c:Nat)(hc:sLen<=sCap):
  (Builtin.append_ #[t,t] ty #[.slice a sLen sCap, .slice none 0 c]).run P w = .ok (.slice a sLen sCap) w:=by
 cases a <;> simp[Builtin.append_,run_underlying ht,sizeOf,typeInfo,hi,Builtin.lenOf,Builtin.firstCells,hc,storeCells]
theorem oQ{V:List HP}{i:Nat}{Pr:HP}(h:V[i]? =some Pr):V.set i Pr=V:=by
 apply List.ext_getElem?
 grind
theorem zi(hw:Holds E w V)(hi:V[i]? =some (own e v l))(hj:V[j]? =some (rd vy ys))(hT:tg P t e (GT.sz α) bytes)(hb:app bytes l ys=some l'):
  ∃v' w',(Builtin.append_ #[t,t] ty #[v,vy]).run P w = .ok v' w'/\Holds E w' (V.set i<|own e v' l'):=by
 obtain⟨inf,z,hinf,hz,hsz,hby,hzs⟩:=hT.inf;unfold app at hb;split at hb
 case isFalse=>cases hb
 rename_i hroom;injection hb with hb
 subst hb;obtain⟨M,hs,g⟩:=hw;have hlt:=bE hi;have ho:=g.sat i _ hi;have hle63:l.length+ys.length<=140737488355328:=iH (Nat.le_mul_of_pos_right _ hT.pos) hroom;obtain⟨a,m,c,hvy,hm,hmc,hcm,hel⟩:=iS.1 (g.sat j _ hj).1;subst hvy;have hcase:(ys= []/\a=none)\/∃ad news,a=some ad/\Cells M news ys/\At M ad news:=by
  cases a with
  |none=>
   left;refine⟨?_,rfl⟩
   cases ys with
   |nil=>rfl
   |cons y r=>obtain⟨ad,cs,h,_⟩:=hel 0 y rfl;cases h
  |some ad=>
   right;obtain⟨xs,h1,h2⟩:=ui (l:=ys) (ad:=ad) (m:=m) (cap:=c) ⟨_,_,_,rfl,hm,hmc,hcm,hel⟩
   grind
 rcases hcase with⟨rfl,rfl⟩|⟨ad,news,rfl,hcn,hat⟩
 ·
  simp only[List.length_nil]at hm;subst hm;rw[iQ];have iz:V.set i (own e v l)=V:=oQ hi;refine⟨v,w,?_,by rw[iz];exact⟨M,hs,g⟩⟩
  rcases ho with⟨rfl,rfl,_⟩|⟨b,o,cap,cur,xs,rfl,h2,h3,h4,h5,h6,h7⟩
  ·exact mz inf hT.rY hinf none 0 0 c<|bP _
  ·exact mz inf hT.rY hinf _ _ cap c h2
 ·have hnews:∀j u,news[j]? =some u->w.cell? (ad.add j)=some u:=λj u hu=>mI g.im<|hat j u hu
  have hnl:news.length=m*inf.size:=by rw[hcn.1,hm,hsz]
  have h1:=hcn.Cd;have grown:∀(olds:List Value)(N:Nat),Cells M olds l->N=l.length+m->∀(old:Nat),
    Holds E (w.drew.alloc<|.cells (olds.toArray++news.toArray++Builtin.zeroCells z.cells (grownCap w N old e - N)) e)
     (V.set i<|own e (.slice (some ⟨w.heap.size,0,none⟩) N<|grownCap w N old e)<|l++ys):=by
   intro olds N hol hN old;have hge:=grownCap_ge w N old e;have hcm':grownCap w N old e<=maxLen:=grownCap_le_maxLen w N old e (by grind [maxLen]);have hNl:N=(l++ys).length:=by rw[cT,hN,hm]
   have hca:=hol.append hcn;refine⟨M,_,g.update (w':=w.drew.alloc _) hlt (Gk.one w.heap.size<|.cells (olds.toArray++news.toArray++Builtin.zeroCells z.cells (grownCap w N old e - N)) e (0,0)) (.inr ⟨w.heap.size,0,grownCap w N old e,_,olds++news,by rw[<-hNl],by omega,hcm',rfl,?_,?_,hca⟩) rfl rfl rfl (λb o' hb=>?_) (λb o' hb=>?_)<|λb _ hb=>?_⟩
   ·simp only[Array.size_append,List.size_toArray,size_zeroCells,hzs,fM];refine Nat.le_of_eq<|Eq.symm ?_
    rw[<-cT,hca.1,<-hNl,<-Nat.add_mul];congr 1;omega
   ·simp only[Array.toList_append,List.drop_zero];rw[<-hca.1];exact List.take_left
   ·obtain⟨rfl,rfl⟩:=eU hb;exact heap_alloc_new w.drew _
   ·obtain⟨rfl,rfl⟩:=eU hb;exact .inr<|bP _
   ·exact k9 w.drew _ b hb
  rcases ho with⟨rfl,rfl,_⟩|⟨b,o,cap,cur,xs,rfl,h2,h3,h4,h5,h6,h7⟩
  ·by_cases hm0:m=0
   ·subst hm0;have hy:ys= []:=List.eq_nil_of_length_eq_zero hm.symm;subst hy;have iz:V.set i (own e (.slice none 0 0) ([]:List α))=V:=oQ hi;refine⟨.slice none 0 0,w,?_,by rw[iQ,iz];exact⟨M,hs,g⟩⟩;have hf:=run_firstCells_some (P:=P) w inf.size 0 ad 0 c [] (by simp) (λj u hu=>by simp at hu);simp[Builtin.append_,run_underlying hT.rY,sizeOf,typeInfo,hinf,Builtin.lenOf,hf]
   ·have hr:=run_append_nil (P:=P) w t ty e inf z hT.rY hinf hz ad m c news hnl hnews (by omega) (by omega) (by grind);have:=grown [] m Cells.nil (by simp) 0
    grind
  ·have hb:=g.le i b _ hlt (by rw[h4];exact bL b _);have hxl:xs.length=l.length*GT.sz α:=h7.1
   by_cases hfit:l.length+m<=cap
   ·have hcapm:(l.length+m)*GT.sz α<=cap*GT.sz α:=Nat.mul_le_mul_right _ hfit;rw[Nat.add_mul]at hcapm;have hr:=pw (P:=P) (ty:=ty) inf hT.rY hinf b o l.length cap cur hb ad m c news hnl hnews h1 hfit (by grind);refine⟨_,_,hr,?_⟩;have:=iJ (P':=own e (.slice (some ⟨b,o,none⟩) (l.length+m) cap)<|l++ys) (new:=(cur.toList.take (o+l.length*inf.size)++news++cur.toList.drop (o+l.length*inf.size+news.length)).toArray) g hi h4
     (.inr ⟨b,o,cap,_,xs++news,by rw[cT,hm],by rw[cT,<-hm];exact hfit,h3,rfl,?_,?_,h7.append hcn⟩)
    ·exact this
    ·simp only[List.size_toArray,cT,eJ,jZ,Array.length_toList,hnl,hsz];omega
    ·rw[cT,Nat.add_mul,<-hm];have e1:(cur.toList.take<|o+l.length*inf.size).length=o+l.length*GT.sz α:=by
      have e0:cur.toList.length=cur.size:=rfl;rw[eJ,e0,hsz];omega
     have e2:(cur.toList.take<|o+l.length*inf.size).drop o=xs:=by
      rw[hsz,List.drop_take,Nat.add_sub_cancel_left];exact h6
     simp only[cP];rw[List.drop_append_of_le_length (by omega),e2,<-cP];have:l.length*GT.sz α+m*GT.sz α=(xs++news).length:=by rw[cT,hxl,hnl,hsz]
     rw[this];exact List.take_left
   ·have holds:∀j u,xs[j]? =some u->w.cell? ((⟨b,o,none⟩:Addr).add j)=some u:=λj u hu=>by
     rw[Addr.add_lit,cell_of_row w b _ _ _ _ hb,<-Array.getElem?_toList];rw[<-h6,fR]at hu;split at hu
     ·rw[iO]at hu;exact hu
     ·cases hu
    have hr:=run_append_grow (P:=P) w t ty e inf z hT.rY hinf hz ⟨b,o,none⟩ l.length cap xs (by rw[hxl,hsz]) holds ad m c news hnl hnews (by omega) (by omega)
     (growslice_fits (by omega) (by rw[hby];rw[hm];exact hroom))
    exact⟨_,_,hr,grown xs _ h7 rfl cap⟩
end
section
variable {α:Type}[GT α]{P:Program}{n:Nat}{U:Nat->Value}{w:World}{Q:dL}{E:World}{V:List HP}{i j:Nat}
variable {ops:Array Oper}{rest:List Oper}{d:Nat}{ty t e:TypeId}{pos:String}{af:Array Edge}{g:Option (Nat×Bool)}{v vy:Value}{q r:Operand}
variable {x:α}{l ys l':List α}{bytes:Nat}
theorem EZ(i j:Nat)(hw:Holds E w V)(hT:tg P t e (GT.sz α) bytes)(hb:Gk.app bytes l ys=some l')(k:∀v' w',Holds E w' (V.set i<|own e v' l')->RL P n ops rest (cD U d v') w' Q)(hg:Wn ops U g:=by exact trivial)(hd:Nat.blt d n=true:=by exact rfl)(hx:ev U q=v:=by exact rfl)(hy:ev U r=vy:=by exact rfl)(hi:V[i]? =some (own e v l):=by exact rfl)(hj:V[j]? =some (rd vy ys):=by exact rfl):
  RL P n ops (⟨some d, .call ⟨.builtin .append,#[q,r],#[t,t]⟩,ty,pos,af,g⟩::rest) U w Q:=by
 obtain⟨v',w',hr,hw'⟩:=zi (P:=P) (ty:=ty) hw hi hj hT hb;refine B_ hg hd ?_<|k v' w' hw'
 grind [execOp,resolve,invoke,builtin,aK,aP,aN]
theorem C_(i:Nat)(l:List α)(hw:Holds E w V)(ht:P.underlying t=some (.slice e))(k:RL P n ops rest (cD U d<|.int .i64 (l.length:Nat)) w Q)(hg:Wn ops U g:=by exact trivial)(hd:Nat.blt d n=true:=by exact rfl)(hx:ev U q=v:=by exact rfl)(hi:V[i]? =some (rd v l):=by exact rfl):RL P n ops (⟨some d, .call ⟨.builtin .len,#[q],#[t]⟩,ty,pos,af,g⟩::rest) U w Q:=by
 obtain⟨a,cap,rfl⟩:=hw.slice hi
 grind [FU]
theorem Fx{e':TypeId}(i:Nat)(l:List α)(hg:Wn ops U g)(hd:Nat.blt d n=true)(hw:Holds E w V)(hx:ev U q=v)(hi:V[i]? =some (own e' v l))(ht:P.underlying t=some (.slice e))(k:RL P n ops rest (cD U d<|.int .i64 (l.length:Nat)) w Q):RL P n ops (⟨some d, .call ⟨.builtin .len,#[q],#[t]⟩,ty,pos,af,g⟩::rest) U w Q:=by
 obtain⟨a,cap,rfl⟩:=hw.nN hi
 grind [FU]
end
def dN(M:bX)(place:Nat->Option (Nat×Nat)){α:Type}[GT α](cells:Array Value)(parts:List (Nat×Value))(y:α):Prop:=
 ∃cells',Instr.fill place cells parts=some cells'/\GT.ok M cells'.toList y
section
variable {α β:Type}[GT α][GT β]{M:bX}{place:Nat->Option (Nat×Nat)}{cells:Array Value}{parts:List (Nat×Value)}{x y:α}{v:Value}{z:β}
theorem dN.nil(h:GT.ok M cells.toList x):dN M place cells [] x:=⟨cells,rfl,h⟩
theorem xV(vs:List Value):∀(cells:Array Value)(o:Nat),o+vs.length<=cells.size->
  ((vs.toArray.zipIdx).foldl (λcs(c,j)=>cs.setIfInBounds (o+j) c) cells).toList=cells.toList.take o++vs++cells.toList.drop (o+vs.length):=by
 intro cells o h;have key:∀(vs:List Value)(k:Nat)(cells:Array Value),o+k+vs.length<=cells.size->
   ((vs.zipIdx k).foldl (λcs(p:Value×Nat)=>cs.setIfInBounds (o+p.2) p.1) cells).toList=cells.toList.take (o+k)++vs++cells.toList.drop (o+k+vs.length):=by
  intro vs
  induction vs with
  |nil=>intro k cells _;simp
  |cons u vs ih=>
   intro k cells h;simp only[gj]at h;rw[List.zipIdx_cons,List.foldl_cons,ih (k+1) _ (by simp;omega)];simp only[Array.toList_setIfInBounds,gj];have hk:o+k<cells.toList.length:=by simp;omega
   rw[show o+(k+1)=(o+k)+1 by omega,gX (by grind),List.take_set_of_le<|bP _,List.drop_set_of_lt (by omega)];simp only[List.getElem_set_self,cP,List.cons_append,List.nil_append];congr 4;omega
 grind
theorem dN.cons{i m:Nat}{f:α->β->α}(hx:GT.ok M cells.toList x)(hF:Fs m β f)(hz:oe M v z)(h:∀c,GT.ok M c.toList (f x z)->dN M place c parts y)(hp:place i=some (m,GT.sz β):=by exact rfl)(hm:m+GT.sz β<=GT.sz α:=by decide):dN M place cells ((i,v)::parts) y:=by
 have hc:v.cells.size=GT.sz β:=by rw[<-GT.len hz.cells];simp
 have hl:cells.size=GT.sz α:=by rw[<-GT.len hx];simp
 have hs:=xV v.cells.toList cells m (by grind);simp only[Array.toArray_toList,Array.length_toList,hc]at hs;obtain⟨c',h1,h2⟩:=h (v.cells.zipIdx.foldl (λcs(c,j)=>cs.setIfInBounds (m+j) c) cells) (by rw[hs];exact hF M _ _ x z hx hz.cells);refine⟨c',?_,h2⟩
 grind [Instr.fill]
end
structure sf (P:Program) (T:TypeId) (places:List (Nat×Nat)) (z:Array Value):Prop where
 run:∀parts w,(Instr.build T parts).run P w=match Instr.fill (places.toArray[·]?) z parts.toList with|some cs=> .ok (.agg cs) w|none=> .halt (.stuck "build: no such field, or a part of the wrong size") w
section
variable {α:Type}[GT α]{P:Program}{n:Nat}{U:Nat->Value}{w:World}{Q:dL}{E:World}{V:List HP}{i j:Nat}
variable {ops:Array Oper}{rest:List Oper}{d:Nat}{T ty t e:TypeId}{pos:String}{af:Array Edge}{g:Option (Nat×Bool)}{v vy:Value}{q r:Operand}
variable {y:α}{l:List α}{bytes:Nat}
theorem EX{parts:Array (Nat×Operand)}{places:List (Nat×Nat)}{z:Array Value}(y:α)(hg:Wn ops U g)(hd:Nat.blt d n=true)(hw:Holds E w V)(vs:List (Nat×Value))(hvs:parts.toList.map (λp=>(p.1,ev U p.2))=vs)(hT:sf P T places z)(ha:GT.agg α=true)(hf:∀M hs,Good E w M hs V->dN M (places.toArray[·]?) z vs y)(k:∀v,Holds E w (rd v y::V)->RL P n ops rest (cD U d v) w Q):RL P n ops (⟨some d, .build T parts,ty,pos,af,g⟩::rest) U w Q:=by
 obtain⟨M,hs,gd⟩:=hw;obtain⟨cs,h1,h2⟩:=hf M hs gd;have e1:parts.map (λ(i,x)=>(i,ev U x))=vs.toArray:=by grind
 refine B_ (v:= .agg cs) hg hd ?_<|k _ ⟨M,_,gd.dH ⟨⟨cs.toList,by simp[mJ,ha],h2⟩,rfl⟩⟩
 simp only[execOp,aK];rw[e1,hT.run]
 simp_all
end
def sg:List (Nat×Value)->(Nat->Value)->Nat->Value
 | [],O=>O
 |(d,v)::l,O=>cD (sg l O) d v
def agree(U:Nat->Value):List (Nat×Value)->Prop
 | []=>True
 |(d,v)::l=>U d=v/\agree U l
theorem agree.sg{U:Nat->Value}{l:List (Nat×Value)}(h:agree U l):∃O,U=Gk.sg l O:=by
 refine⟨U,?_⟩
 induction l with
 |nil=>rfl
 |cons p l ih=>
  obtain⟨d,v⟩:=p;obtain⟨h1,h2⟩:=h;have:=ih h2;funext t;show U t=cD (Gk.sg l U) d v t;unfold cD
  cases e:Nat.beq t d with
  |true=>grind [cS]
  |false=>rw[<-this];rfl
def idx{α:Type}(l:List α)(i:Int):Option α:=if 0<=i then l[i.toNat]? else none
def wT(s:aL)(i:Int):Option UInt8:=if 0<=i then s.aU[i.toNat]? else none
def Fo.cs{S R β:Type}(o:Fo S R)(f:S->β)(g:R->β):β:=match o with| .go s=>f s| .rt r=>g r
section
variable {P:Program}{n:Nat}{U:Nat->Value}{w:World}{Q:dL}{x y c:Code}{S:Type}
theorem En(J:S->(Nat->Value)->World->Prop)(s:S)(hx:RC P n x U w (λex U w=>ex = .normal/\J s U w))(hy:∀U w,J s U w->Q .normal U w):RC P n x U w Q:=
 by grind [RC.mono]
theorem zj{i:Nat}(h:Q (.exit i) U w):ir P n y Q (.exit i) U w:=h
theorem aR(h:Q .ret U w):ir P n y Q .ret U w:=h
theorem An{i id:Nat}(hne:i≠id)(h:Q (.exit i) U w):pq id Q (.exit i) U w:=by grind [pq]
theorem cR{id:Nat}(h:Q .ret U w):pq id Q .ret U w:=h
end
section
variable {α β:Type}[GT α][GT β]{P:Program}{E w:World}{V:List HP}{i:Nat}{v:Value}{x:α}
theorem Holds.mL(h:Holds E w V)(α:Type)[GT α]:Holds E w (rd (.slice none 0 0) ([]:List α)::V):=
 h.qK λ_ _ _=>⟨iS.2 ⟨none,0,0,rfl,rfl,bP _,by simp[maxLen],λi x hx=>by simp at hx⟩,rfl⟩
theorem Holds.ib{e:TypeId}{b:Nat}(h:Holds E w V)(hi:V[i]? =some (bx e b x)):Holds E w (V.set i<|pt (.pointer<|some ⟨b,0,none⟩) x):=by
 obtain⟨M,hs,g⟩:=h;have hlt:=bE hi;obtain⟨cs,ho,hh⟩:=g.sat i _ hi;have hb:hs i b=some (.cells cs.toArray e (0,0)):=by simp_all[bL]
 refine⟨_,_,g.freeze (P':=pt _ x) hlt ⟨⟨⟨b,0,none⟩,cs,rfl,GT.mono (qC _ _) ho,λj u hu=>?_⟩,rfl⟩⟩;rw[Addr.add_lit];simp only[oN,jG,g.dm i b _ hlt hb,hb]
 grind
end
section
variable {α β:Type}[GT α][GT β]{P:Program}{n:Nat}{U:Nat->Value}{w:World}{Q:dL}{E:World}{V:List HP}{i j:Nat}
variable {ops:Array Oper}{rest:List Oper}{d:Nat}{ty t e T:TypeId}{pos:String}{af:Array Edge}{g:Option (Nat×Bool)}{v vy:Value}{q r:Operand}
variable {x:α}
theorem A9{fn:Func}{R:Value->World->Prop}{t' b:Nat}(i:Nat)(hr:fn.results = #[.cell t' T])(hw:Holds E w V)(hp:U t' = .pointer (some ⟨b,0,none⟩))(hi:V[i]? =some (bx e b x))(hT:je P T (GT.agg α) (GT.sz α))(h:∀v,Holds E w (rd v x::V)->R v w):jA P n fn R .ret U w:=by
 obtain⟨M,hs,gd⟩:=hw;obtain⟨cs,ho,hh⟩:=gd.sat i _ hi;have hb:=gd.le i b _ (bE hi) (by rw[hh];exact bL b _);refine⟨mJ α cs,λa ha=>?_,h _ ⟨M,_,gd.dH ⟨⟨cs,rfl,ho⟩,rfl⟩⟩⟩;have hl:(loadVar T ⟨b,0,none⟩).run P w = .ok (mJ α cs) w:=gY hT ho λj u hu=>by
  rw[Addr.add_lit,cell_of_row w b _ _ _ _ hb];grind
 simp[results,hr,ha.get,hp,asAddr,hl]
theorem sj{fn:Func}{R:Value->World->Prop}{t' u b:Nat}{v':Value}(i:Nat)(hw:Holds E w V)(hT:je P T (GT.agg α) (GT.sz α))(h:∀v,Holds E w (rd v x::V)->R (.tuple #[v,v']) w)(hr:fn.results = #[.cell t' T, .tmp u]:=by exact rfl)(hp:U t' = .pointer (some ⟨b,0,none⟩):=by exact rfl)(hi:V[i]? =some (bx e b x):=by exact rfl)(hv':U u=v':=by exact rfl):jA P n fn R .ret U w:=by
 obtain⟨M,hs,gd⟩:=hw;obtain⟨cs,ho,hh⟩:=gd.sat i _ hi;have hb:=gd.le i b _ (bE hi) (by rw[hh];exact bL b _);refine⟨_,λa ha=>?_,h _ ⟨M,_,gd.dH ⟨⟨cs,rfl,ho⟩,rfl⟩⟩⟩;have hl:(loadVar T ⟨b,0,none⟩).run P w = .ok (mJ α cs) w:=gY hT ho λj u hu=>by
  rw[Addr.add_lit,cell_of_row w b _ _ _ _ hb];grind
 simp[results,hr,ha.get,hp,hv',asAddr,hl]
theorem uj{b m:Nat}{o:Oper}{f:α->β}(ho:o.op = .load T q)(hw:Holds E w V)(hx:ev U q = .pointer (some ⟨b,m,none⟩))(hi:V[i]? =some (bx e b x))(hF:Fd m f)(hT:je P T (GT.agg β) (GT.sz β)):
  ∃v,(execOp (ev U) o).run P w = .ok (.value v) w/\Holds E w (rd v (f x)::V):=by
 obtain⟨M,hs,gd⟩:=hw;obtain⟨cs,ho2,hh⟩:=gd.sat i _ hi;have hb:=gd.le i b _ (bE hi) (by rw[hh];exact bL b _);have ho':=hF M cs x ho2;refine⟨mJ β<|(cs.drop m).take<|GT.sz β,?_,⟨M,_,gd.dH ⟨⟨_,rfl,ho'⟩,rfl⟩⟩⟩;have hl:(loadVar T ⟨b,m,none⟩).run P w = .ok (mJ β<|(cs.drop m).take<|GT.sz β) w:=gY hT ho' λj u hu=>by
  rw[Addr.add_lit,cell_of_row w b _ _ _ _ hb]
  grind
 grind [execOp,Instr.loadAt,Instr.sureAddr,aK,aP,aN]
theorem p8{γ:Type}[Sc γ]{b m:Nat}{o:Oper}{f:α->γ}{C:Bool}(i:Nat)(ho:o.op = .load T q)(hw:Holds E w V)(hx:C=true->ev U q = .pointer (some ⟨b,m,none⟩))(hi:V[i]? =some (bx e b x))(hF:Fd m f)(hT:je P T false 1):
  C=true->(execOp (ev U) o).run P w = .ok (.value<|Sc.toV<|f x) w:=λh=>by
 obtain⟨v,h1,h2⟩:=uj (f:=f) ho hw (hx h) hi hF hT;rw[h1,h2.oO (i:=0) rfl]
theorem wt{b o' j m:Nat}{o:Oper}{C:Bool}(ho:o.op = .fieldAddr T q j)(hf:nM P T j m)(hx:C=true->ev U q = .pointer (some ⟨b,o',none⟩):=by exact(λ_=>rfl)):
  C=true->(execOp (ev U) o).run P w = .ok (.value<|.pointer<|some ⟨b,o'+m,none⟩) w:=λh=>by
 unfold execOp;rw[ho];simp only[hx h,aK,hf.run,aN,aP,Addr.add_lit]
theorem Fb{K K':IntKind}(a:Int){s s':TypeId}(hs:∃D,P.underlying s=some D)(ht:P.underlying s'=some (.int K'))(k:RL P n ops rest (cD U d<|.int K'<|K'.wrap a) w Q)(hg:Wn ops U g:=by exact trivial)(hd:Nat.blt d n=true:=by exact rfl)(hx:ev U q = .int K a:=by exact rfl):RL P n ops (⟨some d, .convert s s' q,ty,pos,af,g⟩::rest) U w Q:=by
 obtain⟨D,hD⟩:=hs;refine B_ hg hd ?_ k;have:(convert s s'<|.int K a).run P w = .ok (.int K'<|K'.wrap a) w:=by
  unfold convert;simp only[aK,run_underlying hD,run_underlying ht,aN];rfl
 grind [execOp,aK,aN,aP]
theorem qM{vs:List Value}{m:Nat}(hu:P.underlying t=some (.slice e))(hz:∃z,(∀w,(zeroValue e).run P w = .ok z w)/\z.cells.size=m)(hs:∀w,(sizeOf e).run P w = .ok m w)(hm:0<m)
  (hlen:vs.length*m<=16777216) (hvs:∀v∈vs,v.cells.size=m) (w:World):
  (Instr.buildSlice t vs.length (vs.zipIdx.map λp=>(p.2,p.1)).toArray).run P w =
   .ok (.slice (some ⟨w.heap.size,0,none⟩) vs.length vs.length) (w.alloc<|.cells (vs.flatMap λv=>v.cells.toList).toArray e):=by
 obtain⟨z,hz,hzs⟩:=hz;have key:∀(us:List Value)(k:Nat)(cells:Array Value),cells.size=(k+us.length)*m->(∀v∈us,v.cells.size=m)->
   ∃c',Instr.fill (λi=>some (i*m,m)) cells ((us.zipIdx k).map λp=>(p.2,p.1))=some c'/\c'.toList=cells.toList.take (k*m)++us.flatMap λv=>v.cells.toList:=by
  intro us
  induction us with
  |nil=>intro k cells hc _;exact⟨cells,rfl,by grind [nK]⟩
  |cons u us ih=>
   intro k cells hc hu';have hcu:=hu' u (by simp);simp only[gj]at hc;have hkm:k*m+m<=cells.size:=by
    rw[hc,show(k+(us.length+1))=(k+1)+us.length by omega,Nat.add_mul,Nat.add_mul,Nat.one_mul];omega
   have hsp:=xV u.cells.toList cells (k*m) (by simp[hcu,hkm]);simp only[Array.toArray_toList,Array.length_toList,hcu]at hsp;have hsz:(u.cells.zipIdx.foldl (λcs(c,j)=>cs.setIfInBounds (k*m+j) c) cells).size=(k+1+us.length)*m:=by
    have:=congrArg List.length hsp;simp only[Array.length_toList,cT,eJ,jZ,hcu]at this;rw[this,Nat.min_eq_left (by omega)];have:(k+1+us.length)*m=cells.size:=by rw[hc];congr 1;omega
    omega
   obtain⟨c',h1,h2⟩:=ih (k+1) _ hsz<|λv hv=>hu' v (by simp[hv])
   refine⟨c',?_,?_⟩
   ·rw[List.zipIdx_cons,eE];simp only[Instr.fill];rw[aH (by grind)];exact h1
   ·rw[h2,hsp,List.flatMap_cons];have e1:(cells.toList.take (k*m)++u.cells.toList).length=(k+1)*m:=by
     rw[cT,eJ,Array.length_toList,Array.length_toList,hcu,Nat.min_eq_left (by omega),Nat.add_mul,Nat.one_mul]
    rw[<-e1,List.take_left,cP]
 have h0:(Array.map (λi=>z.cells[i % z.cells.size]!)<|Array.range<|vs.length*m).size=(0+vs.length)*m:=by simp
 obtain⟨c',h1,h2⟩:=key vs 0 _ h0 hvs;simp only[Nat.zero_mul,List.take_zero,List.nil_append]at h2;have hc':c'=(vs.flatMap λv=>v.cells.toList).toArray:=by rw[<-h2]
 subst hc';unfold Instr.buildSlice;simp only[aK,run_underlying hu,aN,hs];rw[aH (by omega)]
 by_cases hv:vs.length*m=0
 ·have:vs= []:=by
   grind [Nat.mul_eq_zero,List.eq_nil_of_length_eq_zero]
  subst this;have e0:Array.range 0 = #[]:=rfl;simp[Instr.fill,newRow,newObj,Sem.run,e0]
 simp_all[aH,aK,aN,aP,newRow,newObj,Sem.run]
def uk{α:Type}[GT α](M:bX):List Value->List α->Prop
 | [],[]=>True
 |v::vs,x::l=>oe M v x/\uk M vs l
 |_,_=>False
theorem uk.spec{M:bX}:∀{vs:List Value}{l:List α},uk M vs l->vs.length=l.length/\(∀v∈vs,v.cells.size=GT.sz α)/\Cells M (vs.flatMap λv=>v.cells.toList) l
 | [],[],_=>⟨rfl,λ_ h=>by simp at h,Cells.nil⟩
 |v::vs,x::l,h=>by
  obtain⟨h1,h2⟩:=h;obtain⟨a,b,c⟩:=uk.spec h2;refine⟨by simp[a],λu hu=>?_,?_⟩
  ·rcases gC.1 hu with rfl|hu
   ·rw[<-GT.len h1.cells];simp
   ·exact b u hu
  ·rw[List.flatMap_cons];exact(Cells.one h1.cells).append c
 | [],_::_,h=>h.elim
 |_::_,[],h=>h.elim
structure wu (P:Program) (e:TypeId) (m:Nat):Prop where
 z:∃z,(∀w,(zeroValue e).run P w = .ok z w)/\z.cells.size=m
 sz:∀w,(sizeOf e).run P w = .ok m w
theorem ES{m:Nat}{parts:Array (Nat×Operand)}(l:List α)(hw:Holds E w V)(vs:List Value)(hT:te P t e (GT.sz α))(hz:wu P e (GT.sz α))(hel:∀M hs,Good E w M hs V->uk M vs l)(k:∀v w',Holds E w' (own e v l::V)->RL P n ops rest (cD U d v) w' Q)(hg:Wn ops U g:=by exact trivial)(hd:Nat.blt d n=true:=by exact rfl)(hparts:parts.toList.map (λp=>(p.1,ev U p.2))=vs.zipIdx.map λp=>(p.2,p.1):=by exact rfl)(hl:m=vs.length:=by exact rfl)(hm:Nat.ble (m*GT.sz α) 16777216=true:=by exact rfl):RL P n ops (⟨some d, .buildSlice t m parts,ty,pos,af,g⟩::rest) U w Q:=by
 subst hl;have hm':=Nat.ble_eq▸hm;obtain⟨M0,hs0,gd0⟩:=hw;obtain⟨hlen,hsz,hcells⟩:=(hel M0 hs0 gd0).spec;have hle:vs.length<=vs.length*GT.sz α:=Nat.le_mul_of_pos_right _ GT.pos;have hrun:=qM (P:=P) hT.rY hz.z hT.sz GT.pos hm' hsz w;refine B_ (v:= .slice (some ⟨w.heap.size,0,none⟩) vs.length vs.length) (w':=w.alloc<|.cells (vs.flatMap λv=>v.cells.toList).toArray e) hg hd ?_<|k _ _<|Holds.alloc ⟨M0,hs0,gd0⟩ _ λM hs gd=>?_
 ·have e1:parts.map (λ(i,x)=>(i,ev U x))=(vs.zipIdx.map λp=>(p.2,p.1)).toArray:=by grind
  simp_all[execOp,aK]
 ·obtain⟨_,_,hc⟩:=(hel M hs gd).spec;refine .inr ⟨w.heap.size,0,vs.length,_,_,by rw[hlen],by omega,by grind [maxLen],rfl,?_,?_,hc⟩
  ·simp only[fM,List.size_toArray,hc.1,hlen];exact bP _
  ·simp only[List.drop_zero];rw[<-hc.1];exact j4
end
section
variable {α β ρ:Type}[GT α][GT β]{P:Program}{E:World}{V Γ':List HP}{fv:Value}
def vB(P:Program)(E:World)(V:List HP)(fv:Value)(φ:α->Option ρ)(toV:ρ->Value):Prop:=
 ∃f cap,fv = .func (.func f) #[] (List.toArray cap)/\gI P f/\∀(w:World)(Γl:List HP)(v:Value)(x:α)(r:ρ)(i:Nat),
  Holds E w (Γl++V)->(Γl++V)[i]? =some (rd v x)->φ x=some r->Calls P f ([v]++cap).toArray w (fP λu w'=>u=toV r/\Holds E w' (Γl++V))
def Ao(P:Program)(E:World)(V:List HP)(fv:Value)(φ:α->β->Option ρ)(toV:ρ->Value):Prop:=
 ∃f cap,fv = .func (.func f) #[] (List.toArray cap)/\gI P f/\∀(w:World)(Γl:List HP)(v v':Value)(x:α)(y:β)(r:ρ)(i j:Nat),
  Holds E w (Γl++V)->(Γl++V)[i]? =some (rd v x)->(Γl++V)[j]? =some (rd v' y)->φ x y=some r->Calls P f ([v,v']++cap).toArray w (fP λu w'=>u=toV r/\Holds E w' (Γl++V))
theorem vB.lift{φ:α->Option ρ}{toV:ρ->Value}(h:vB P E V fv φ toV)(m:Nat)(hd:Γ'.drop m=V):vB P E Γ' fv φ toV:=by
 obtain⟨f,cap,e,hf,hc⟩:=h;subst hd;refine⟨f,cap,e,hf,λw Γl v x r i hw hi hr=>?_⟩;have e2:Γl++Γ'=(Γl++Γ'.take m)++Γ'.drop m:=by rw[cP,List.take_append_drop]
 grind
theorem Ao.lift{φ:α->β->Option ρ}{toV:ρ->Value}(h:Ao P E V fv φ toV)(m:Nat)(hd:Γ'.drop m=V):Ao P E Γ' fv φ toV:=by
 obtain⟨f,cap,e,hf,hc⟩:=h;subst hd;refine⟨f,cap,e,hf,λw Γl v v' x y r i j hw hi hj hr=>?_⟩;have e2:Γl++Γ'=(Γl++Γ'.take m)++Γ'.drop m:=by rw[cP,List.take_append_drop]
 grind
theorem mM{Γl V:List HP}{j:Nat}{Pr:HP}(h:V[j]? =some Pr:=by exact rfl):(Γl++V)[Γl.length+j]? =some Pr:=by
 grind
variable {n:Nat}{U:Nat->Value}{w:World}{Q:dL}{i j:Nat}
variable {ops:Array Oper}{rest:List Oper}{d:Nat}{ty:TypeId}{pos:String}{af:Array Edge}{g:Option (Nat×Bool)}{v v':Value}{q r r':Operand}{ts:Array TypeId}
theorem E2{φ:α->Option ρ}{toV:ρ->Value}{x:α}{y:ρ}(i:Nat)(hw:Holds E w V)(hf:vB P E Γ' fv φ toV)(m:Nat)(hr:φ x=some y)(k:∀w',Holds E w' V->RL P n ops rest (cD U d<|toV y) w' Q)(hg:Wn ops U g:=by exact trivial)(hd:Nat.blt d n=true:=by exact rfl)(hq:ev U q=fv:=by exact rfl)(hdr:V.drop m=Γ':=by exact rfl)(hx:ev U r=v:=by exact rfl)(hi:V[i]? =some (rd v x):=by exact rfl):
  RL P n ops (⟨some d, .call ⟨.value q,#[r],ts⟩,ty,pos,af,g⟩::rest) U w Q:=by
 obtain⟨f,cap,e,hF,hc⟩:=hf.lift m hdr;refine FR hg hd hF (by rw[hq,e]) [v] (by simp[hx])<|dU (hc w [] v x y i (by grind) (by grind) hr) ?_
 grind
theorem Fc{φ:α->β->Option ρ}{toV:ρ->Value}{x:α}{x':β}{y:ρ}(i j:Nat)(hg:Wn ops U g)(hw:Holds E w V)(hf:Ao P E Γ' fv φ toV)(m:Nat)(hr:φ x x'=some y)(k:∀w',Holds E w' V->RL P n ops rest (cD U d<|toV y) w' Q)(hd:Nat.blt d n=true:=by exact rfl)(hq:ev U q=fv:=by exact rfl)(hdr:V.drop m=Γ':=by exact rfl)(hx:ev U r=v:=by exact rfl)(hx':ev U r'=v':=by exact rfl)(hi:V[i]? =some (rd v x):=by exact rfl)(hj:V[j]? =some (rd v' x'):=by exact rfl):
  RL P n ops (⟨some d, .call ⟨.value q,#[r,r'],ts⟩,ty,pos,af,g⟩::rest) U w Q:=by
 obtain⟨f,cap,e,hF,hc⟩:=hf.lift m hdr;refine FR hg hd hF (by rw[hq,e]) [v,v'] (by simp[hx,hx'])<|dU (hc w [] v v' x x' y i j (by grind) (by grind) (by grind) hr) ?_
 grind
end
section
variable {P:Program}{n:Nat}{U:Nat->Value}{w:World}{Q:dL}{E:World}{V:List HP}{x y:Code}
variable {ops:Array Oper}{rest:List Oper}{d:Nat}{ty T T':TypeId}{pos:String}{af:Array Edge}{g:Option (Nat×Bool)}{v:Value}{q r:Operand}
theorem Fj(hc:ev U q = .bool true)(h:RC P n x U w Q):RC P n (.cond q x y) U w Q:=by grind [FC]
theorem Fk(hc:ev U q = .bool false)(h:RC P n y U w Q):RC P n (.cond q x y) U w Q:=by grind [FC]
theorem B6{k m:Nat}(h:k<m):Value.bool (decide<|(k:Int)<(m:Int)) = .bool true:=by grind
theorem B7{m:Nat}:Value.bool (decide<|(m:Int)<(m:Int)) = .bool false:=by simp
theorem Ej{k m:Nat}(hk:k<m)(hm:m<=4611686018427387904)(h:RL P n ops rest (cD U d<|.int .i64 ((k+1:Nat):Int)) w Q)(hg:Wn ops U g:=by exact trivial)(hd:Nat.blt d n=true:=by exact rfl)(hx:ev U q = .int .i64 (k:Int):=by exact rfl)(hy:ev U r = .int .i64 1:=by exact rfl):RL P n ops (⟨some d, .binOp .add T q r T',ty,pos,af,g⟩::rest) U w Q:=by
 refine Er (hg:=hg) (hd:=hd) (hx:=hx) (hy:=hy) (bop:= .add) _ _ ?_
 grind [wS]
theorem tg.of{P:Program}{t e:TypeId}{k b:Nat}(z:Value)(h1:P.underlying t=some (.slice e):=by kernel_rfl)(h2:(P.info? e).map (λi=>(i.zero,i.size,i.bytes))=some (some z,k,b):=by kernel_rfl)(h3:z.cells.size=k:=by exact rfl)(h4:0<b:=by decide):tg P t e k b:=by
 refine⟨h1,?_,h4⟩
 cases hi:P.info? e with
 |none=>grind
 |some i=>
  grind
theorem sf.of{P:Program}{T:TypeId}{fs:Array Field}{places:List (Nat×Nat)}(z:Value)(h1:P.underlying T=some (.struct fs))(h2:∀w,(zeroValue T).run P w = .ok z w:=by intro _;kernel_rfl)(h3:∀w,(fs.mapM (m:=Sem) λf:Field=>do pure (f.offset,<-sizeOf f.type)).run P w = .ok places.toArray w:=by intro _;kernel_rfl):sf P T places z.cells:=by
 refine⟨λparts w=>?_⟩;unfold Instr.build;simp only[aK,h2,aN,run_underlying h1];rw[h3];simp only[aN]
 cases Instr.fill (λx=>places.toArray[x]?) z.cells parts.toList <;> rfl
end
section
variable {α:Type}[GT α]{E w:World}{V L:List HP}{i:Nat}{v:Value}{x:α}{Pr R:HP}
theorem Holds.mO(h:Holds E w V)(hi:V[i]? =some (pt v x)):Holds E w (pt v x::V):=h.qK λ_ _ g=>⟨(g.sat i _ hi).1,rfl⟩
theorem Holds.iv(h:Holds E w V):Holds E w (Gk.iv::V):=h.qK λ_ _ _=>trivial
end
section
variable {P:Program}{n:Nat}{U:Nat->Value}{w:World}{Q:dL}
theorem qP{o:Oper}{a:Act}{K K':Act->World->Prop}{Q Q':Exit->Act->World->Prop}(hK:∀a w,K a w->K' a w)(hp:∀c a w,Q (.panic c) a w->Q' (.panic c) a w)(hl:LetsOut Q->LetsOut Q')
  (h:o.wp P a w K Q):o.wp P a w K' Q':=by
 unfold Oper.wp at *;generalize (execOp a.eval o).run P w=r at *
 cases r with
 |ok nx w'=>
  cases nx <;> simp only[Oper.upon]at h ⊢ <;>
   first
    |exact hK _ _ h
    |exact Calls.mono h (λe w'' he=>by grind)
    |exact Rows.mono h (λ_ _ he=>hK _ _ he)
 |halt x w'=>cases x <;> simp only[Oper.upon]at h ⊢ <;> exact hp _ _ _ h
def ins(D:Nat->Bool)(i:Nat):Nat->Bool:=λj=>bif Nat.beq j i then true else D j
def iK(D:Nat->Bool):List Edge->Prop
 | []=>True
 |e::l=>(Region.binds .any e=true->D e.on=true)/\iK D l
def jw(F:Nat->Oper->Prop):Nat->List Oper->Prop
 |_,[]=>True
 |k,o::l=>F k o/\jw F (k+1) l
def mP:Nat->List Oper->Bool
 |_,[]=>true
 |k,o::l=>(o.after.toList.all λe=> !Region.binds .any e||Nat.blt e.on k)&&mP (k+1) l
theorem jw.at{F:Nat->Oper->Prop}:∀{k:Nat}{l:List Oper},jw F k l->∀i o,l[i]? =some o->F (k+i) o
 |_,[],_,i,o,h=>by simp at h
 |k,p::l,hs,0,o,h=>by simp at h;subst h;exact hs.1
 |k,p::l,hs,i+1,o,h=>by have:=jw.at hs.2 i o (by simpa using h);rw[show k+(i+1)=k+1+i by omega];exact this
theorem mP.at:∀{k:Nat}{l:List Oper},mP k l=true->∀(i:Nat)(o:Oper),l[i]? =some o->∀e∈o.after,Region.binds .any e=true->e.on<k+i
 |_,[],_,i,o,h=>by simp at h
 |k,p::l,hs,0,o,h=>by
  simp at h;subst h;intro e he hb;have h1:=(bS _ _▸hs:_/\_).1;have:=gD.1 h1 e (by grind);rw[hb]at this;simpa using Nat.blt_eq▸this
 |k,p::l,hs,i+1,o,h=>by
  intro e he hb;have:=mP.at (bS _ _▸hs:_/\_).2 i o (by simpa using h) e he hb;omega
theorem um{D:Nat->Bool}:∀(l:List Edge),(∀e∈l,Region.binds .any e=true->D e.on=true)->iK D l
 | [],_=>trivial
 |e::l,h=>⟨h e (by simp),um l λe' he=>h e' (by simp[he])⟩
theorem Gb{id:Nat}{l:List Oper}(hm:P.follows .mixedOrders=true)(hdep:mP 0 l=true)(J:(Nat->Bool)->(Nat->Value)->World->Prop)
  (h0:J (λ_=>false) U w.drew)
  (step:jw (λi o=>∀D U w,D i=false->iK D o.after.toList->J D U w->RL P n l.toArray [o] U w (λex U w=>ex = .normal/\J (ins D i) U w)) 0 l)
  (hend:∀D U w,(∀i,i<l.length->D i=true)->J D U w->Q .normal U w):RC P n (.region id l.toArray true) U w Q:=by
 intro a ha;refine wp_region_any hm ?_;have key:∀(fuel:Nat)(listed:Array Bool)(a:Act)(w:World)(U:Nat->Value),listed.size=l.length->Sl n U a->J (λi=>listed.getD i false) U w->
   (listed.toList.countP (· =false))=fuel->wpAny P .any l.toArray (Lf n Q) fuel listed a w:=by
  have ends:∀(listed:Array Bool)(a:Act)(w:World)(U:Nat->Value),listed.size=l.length->Sl n U a->J (λi=>listed.getD i false) U w->Region.ready .any l.toArray listed= []->Lf n Q .normal a w:=by
   intro listed a w U hsz hs hJ hr;refine⟨U,hs,hend _ U w (λi hi=>?_) hJ⟩
   induction i using Nat.strongRecOn with
   |ind i ih=>
    cases e:listed.getD i false with
    |true=>rfl
    |false=>
     have hmem:i∈Region.ready .any l.toArray listed:=by
      unfold Region.ready;rw[jt];refine⟨by grind,?_⟩;have hi':i<listed.size:=by omega
      have e1:listed.getD i true=false:=by
       simp only[Array.getD_eq_getD_getElem?,fS hi',Option.getD_some]at e ⊢;exact e
      rw[e1];simp only[oM,Bool.true_and,List.getElem?_toArray,aM hi,Option.map_some,Option.getD_some];rw[Array.all_eq_true_iff_forall_mem];intro ed hed
      cases hb:Region.binds .any ed with
      |false=>rfl
      |true=>
       have hlt:=mP.at hdep i l[i] (aM hi) ed hed hb;have:=ih ed.on (by omega) (by omega);rw[this];rfl
     rw[hr]at hmem
     cases hmem
  intro fuel
  induction fuel with
  |zero=>
   intro listed a w U hsz hs hJ hc;have hall:∀i,i<l.length->listed.getD i false=true:=by
    intro i hi;have hi':i<listed.size:=by omega
    have:=List.countP_eq_zero.1 hc listed[i] (by simp);simp only[Array.getD_eq_getD_getElem?,fS hi',Option.getD_some];simpa using this
   refine⟨?_,U,hs,hend _ U w hall hJ⟩;unfold Region.ready;rw[List.filter_eq_nil_iff];intro i hi;have hi2:i<l.length:=by simpa using hi
   have:=hall i hi2;have hi':i<listed.size:=by omega
   have e1:listed.getD i true=true:=by
    simp only[Array.getD_eq_getD_getElem?,fS hi',Option.getD_some]at this ⊢;exact this
   rw[e1];simp
  |succ fuel ih=>
   intro listed a w U hsz hs hJ hc;refine⟨λhr=>ends listed a w U hsz hs hJ hr,λi hi=>?_⟩;unfold Region.ready at hi;rw[jt]at hi;obtain⟨hi1,hi2⟩:=hi;have hil:i<l.length:=by simpa using hi1
   have hi':i<listed.size:=by omega
   simp only[bS,Bool.not_eq_true']at hi2;obtain⟨hnot,hd⟩:=hi2;simp only[List.getElem?_toArray,aM hil,Option.map_some,Option.getD_some]at hd;rw[Array.all_eq_true_iff_forall_mem]at hd;have hD:(λi=>listed.getD i false) i=false:=by
    simp only[Array.getD_eq_getD_getElem?,fS hi',Option.getD_some]at hnot ⊢;exact hnot
   have hst:=step.at i l[i]<|aM hil
   rw[fM]at hst
   have hrun:=hst _ U w hD (um _ λe he hb=>by
    grind) hJ a hs
   have hins:ins (λi=>listed.getD i false) i=λj=>(listed.setIfInBounds i true).getD j false:=by
    funext j;unfold ins
    cases e:Nat.beq j i with
    |true=>
     have:=cS e;subst this;simp[Array.getD_eq_getD_getElem?,hi']
    |false=>
     have hne:i≠j:=λh=>by subst h;simp at e
     simp[Array.getD_eq_getD_getElem?,Array.getElem?_setIfInBounds_ne hne]
   have hcount:(listed.setIfInBounds i true).toList.countP (· =false)=fuel:=by
    have h1:listed.toList=listed.toList.take i++listed[i]::listed.toList.drop (i+1):=by
     have:=List.take_append_drop i listed.toList;rw[List.drop_eq_getElem_cons (by omega)]at this;simpa using this.symm
    have hx:listed[i]=false:=by
     simp only[Array.getD_eq_getD_getElem?,fS hi',Option.getD_some]at hnot;exact hnot
    rw[h1,List.countP_append,List.countP_cons,hx]at hc;have h2:(listed.setIfInBounds i true).toList=listed.toList.take i++true::listed.toList.drop (i+1):=by
     rw[Array.toList_setIfInBounds,List.set_eq_take_append_cons_drop,aG (by omega)]
    rw[h2,List.countP_append,List.countP_cons];simp at hc ⊢;omega
   have hK:∀a' w',wpList P l.toArray (Lf n λex U w=>ex = .normal/\J (ins (λi=>listed.getD i false) i) U w) [] a' w'->wpAny P .any l.toArray (Lf n Q) fuel (listed.setIfInBounds i true) a' w':=by
    rintro a' w'⟨σ',hs',_,hJ'⟩;rw[hins]at hJ';exact ih _ a' w' σ' (by simp[hsz]) hs' hJ' hcount
   unfold wpOp;simp only[List.getElem?_toArray,aM hil];unfold wpList at hrun;split at hrun
   ·rename_i hw;rw[aG hw]
    rcases hrun with hrun|⟨_,a0,w0,σ0,_,hbad,_⟩
    ·exact .inl<|qP hK (λc a w h=>by obtain⟨_,_,hbad,_⟩:=h;cases hbad) (λh=>by obtain⟨_,_,_,_,hbad,_⟩:=h;cases hbad) hrun
    ·cases hbad
   ·rename_i hw;rw[aH hw];exact hK _ _ hrun
 refine key _ _ a w.drew U (by simp) ha ?_ (by simp[List.countP_replicate]);have:(λi=>(Array.replicate l.toArray.size false).getD i false)=λ_=>false:=by
  funext i;simp only[Array.getD_eq_getD_getElem?,Array.getElem?_replicate];split <;> rfl
 grind
def cM(D:Nat->Bool)(U:Nat->Value):List (Nat×Nat×Value)->Prop
 | []=>True
 |(i,d,v)::l=>(D i=true->U d=v)/\cM D U l
theorem iK.mono{D D':Nat->Bool}(h:∀i,D i=true->D' i=true):∀{l:List Edge},iK D l->iK D' l
 | [],_=>trivial
 |_::_,hl=>⟨λhb=>h _ (hl.1 hb),iK.mono h hl.2⟩
def l3(l:List Oper)(D:Nat->Bool):Prop:=∀i o,l[i]? =some o->D i=true->iK D o.after.toList
theorem uo{D:Nat->Bool}{i k:Nat}(h:D k=true):ins D i k=true:=by
 grind [ins,Nat.beq]
theorem FI{id:Nat}{l:List Oper}(hm:P.follows .mixedOrders=true)(hdep:mP 0 l=true)(J:(Nat->Bool)->(Nat->Value)->World->Prop)
  (h0:J (λ_=>false) U w.drew)
  (step:jw (λi o=>∀D U w,D i=false->iK D o.after.toList->l3 l D->J D U w->RL P n l.toArray [o] U w (λex U w=>ex = .normal/\J (ins D i) U w)) 0 l)
  (hend:∀D U w,(∀i,i<l.length->D i=true)->J D U w->Q .normal U w):RC P n (.region id l.toArray true) U w Q:=by
 refine Gb hm hdep (λD U w=>l3 l D/\J D U w) ⟨λi o _ h=>(by cases h),h0⟩ ?_<|λD U w hall h=>hend D U w hall h.2
 have key:∀(k:Nat)(m:List Oper),(∀i o,m[i]? =some o->l[k+i]? =some o)->jw (λi o=>∀D U w,D i=false->iK D o.after.toList->l3 l D->J D U w->RL P n l.toArray [o] U w (λex U w=>ex = .normal/\J (ins D i) U w)) k m->
   jw (λi o=>∀D U w,D i=false->iK D o.after.toList->(l3 l D/\J D U w)->RL P n l.toArray [o] U w (λex U w=>ex = .normal/\(l3 l (ins D i)/\J (ins D i) U w))) k m:=by
  intro k m
  induction m generalizing k with
  |nil=>intro _ _;trivial
  |cons o m ih=>
   intro hat hs;refine⟨λD U w hD hd hJ a ha=>?_,ih (k+1) (λi o h=>by have:=hat (i+1) o (by simpa using h);grind) hs.2⟩;have h1:=hs.1 D U w hD hd hJ.1 hJ.2 a ha;have hcl:l3 l (ins D k):=by
    intro i o' ho hi
    by_cases e:i=k
    ·subst e;have:=hat 0 o rfl;rw[Nat.add_zero,ho]at this;injection this with this
     subst this;exact iK.mono (λ_ h=>uo h) hd
    ·have hDi:D i=true:=by
      unfold ins at hi;have:Nat.beq i k=false:=by
       cases hx:Nat.beq i k with
       |false=>rfl
       |true=>exact absurd (cS hx) e
      rw[this]at hi;exact hi
     exact iK.mono (λ_ h=>uo h)<|hJ.1 i o' ho hDi
   unfold wpList at h1 ⊢;split at h1
   ·rename_i hw;rw[aG hw]
    rcases h1 with h1|⟨h2,h3⟩
    ·refine .inl<|qP (λa w h=>?_) (λc a w h=>?_) (λh=>?_) h1
     ·obtain⟨σ',hs',he,hJ'⟩:=h;exact⟨σ',hs',he,hcl,hJ'⟩
     ·obtain⟨_,_,hbad,_⟩:=h;cases hbad
     ·obtain⟨_,_,_,_,hbad,_⟩:=h;cases hbad
    ·obtain⟨_,_,_,_,hbad,_⟩:=h3;cases hbad
   ·rename_i hw;rw[aH hw];obtain⟨σ',hs',he,hJ'⟩:=h1;exact⟨σ',hs',he,hcl,hJ'⟩
 grind
theorem cM.at{D:Nat->Bool}:∀{dv:List (Nat×Nat×Value)}(_:cM D U dv)(k:Nat){j d:Nat}{v:Value}(_:dv[k]? =some (j,d,v)),D j=true->U d=v
 | [],_,k,_,_,_,hk=>by simp at hk
 |(i,d',v')::l,h,0,j,d,v,hk=>by
  simp at hk;obtain⟨rfl,rfl,rfl⟩:=hk;exact h.1
 |(i,d',v')::l,h,k+1,j,d,v,hk=>cM.at h.2 k (by grind)
def sm(j d:Nat):Nat->List (Nat×Nat×Value)->Bool
 |_,[]=>true
 | 0,_::l=>dfreeA l
 |k+1,(i,t,_)::l=> !Nat.beq i j&& !Nat.beq t d&&sm j d k l
where dfreeA:List (Nat×Nat×Value)->Bool
 | []=>true
 |(i,t,_)::l=> !Nat.beq i j&& !Nat.beq t d&&dfreeA l
theorem cM.up{D:Nat->Bool}{j d:Nat}{v:Value}:∀{dv:List (Nat×Nat×Value)}(_:cM D U dv)(_:sm.dfreeA j d dv=true),cM (ins D j) (cD U d v) dv
 | [],_,_=>trivial
 |(i,t,u)::l,h,hf=>by
  unfold sm.dfreeA at hf;simp only[bS,Bool.not_eq_true']at hf;refine⟨λhi=>?_,cM.up h.2 hf.2⟩;unfold ins at hi;rw[hf.1.1]at hi;unfold cD;rw[hf.1.2];exact h.1 hi
theorem cM.put{D:Nat->Bool}{j d:Nat}{v v':Value}:∀{dv:List (Nat×Nat×Value)}(_:cM D U dv)(k:Nat)(_:dv[k]? =some (j,d,v))(_:sm j d k dv=true),cM (ins D j) (cD U d v') (dv.set k (j,d,v'))
 | [],_,k,hk,_=>by simp at hk
 |(i,t,u)::l,h,0,hk,hf=>by
  refine⟨λ_=>?_,cM.up h.2 hf⟩;unfold cD;have:Nat.beq d d=true:=Nat.beq_refl d;rw[this];rfl
 |(i,t,u)::l,h,k+1,hk,hf=>by
  unfold sm at hf;simp only[bS,Bool.not_eq_true']at hf;refine⟨λhi=>?_,cM.put h.2 k (by simpa using hk) hf.2⟩;unfold ins at hi;rw[hf.1.1]at hi;unfold cD;rw[hf.1.2];exact h.1 hi
theorem nf{b:Bool}(h:b=true->False):b=false:=by grind
theorem cM.no{D:Nat->Bool}{j:Nat}:∀{dv:List (Nat×Nat×Value)}(_:cM D U dv)(_:(dv.all λx=> !Nat.beq x.1 j)=true),cM (ins D j) U dv
 | [],_,_=>trivial
 |(i,t,u)::l,h,hf=>by
  rw[List.all_cons,bS,Bool.not_eq_true']at hf;refine⟨λhi=>?_,cM.no h.2 hf.2⟩;unfold ins at hi;rw[hf.1]at hi;exact h.1 hi
theorem Holds.same{E w:World}{V Γ':List HP}(h:Holds E w V)(e:Γ'=V):Holds E w Γ':=by grind
theorem zk{V:List HP}{i:Nat}{Pr R:HP}(h:V[i]? =some Pr)(e:R=Pr):V.set i R=V:=by grind [oQ]
theorem Holds.jI{E w:World}{V:List HP}(i:Nat){b:Bool}{R Pr:HP}(h:Holds E w V)(hb:b=false)(hi:V[i]? =some (bif b then R else Pr):=by exact rfl):Holds E w (V.set i Pr):=by grind [zk]
theorem Holds.oR{E w:World}{V:List HP}(i:Nat){b:Bool}{R Pr:HP}(h:Holds E w V)(hb:b=true)(hi:V[i]? =some (bif b then R else Pr):=by exact rfl):Holds E w (V.set i R):=by grind [zk]
theorem Holds.mQ{E w:World}{V:List HP}(i:Nat)(b:Bool){Pr:HP}(h:Holds E w V)(hb:b=true)(R:HP)(hi:V[i]? =some Pr:=by exact rfl):Holds E w (V.set i (bif b then Pr else R)):=by grind [zk]
theorem Holds.qQ{E w:World}{V:List HP}(i:Nat)(b:Bool){Pr:HP}(h:Holds E w V)(hb:b=false)(R:HP)(hi:V[i]? =some Pr:=by exact rfl):Holds E w (V.set i (bif b then R else Pr)):=by grind [zk]
theorem ft{b:Bool}(h1:b=false)(h2:b=true):False:=by grind
theorem agree.at:∀{l:List (Nat×Value)}(_:agree U l)(k:Nat){d:Nat}{v:Value}(_:l[k]? =some (d,v)),U d=v
 | [],_,k,_,_,hk=>by simp at hk
 |(d',v')::l,h,0,d,v,hk=>by simp at hk;obtain⟨rfl,rfl⟩:=hk;exact h.1
 |(d',v')::l,h,k+1,d,v,hk=>agree.at h.2 k (by grind)
def kS(d:Nat):List (Nat×Value)->Bool
 | []=>true
 |(t,_)::l=> !Nat.beq t d&&kS d l
theorem agree.up{d:Nat}{v:Value}:∀{l:List (Nat×Value)}(_:agree U l)(_:kS d l=true),agree (cD U d v) l
 | [],_,_=>trivial
 |(t,u)::l,h,hf=>by
  unfold kS at hf;simp only[bS,Bool.not_eq_true']at hf;refine⟨?_,agree.up h.2 hf.2⟩;unfold cD;rw[hf.1];exact h.1
theorem agree.c{d:Nat}{v:Value}{l:List (Nat×Value)}(h:U d=v)(hl:agree U l):agree U ((d,v)::l):=⟨h,hl⟩
theorem agree.z:agree U []:=trivial
theorem cM.none:∀{dv:List (Nat×Nat×Value)},cM (λ_=>false) U dv
 | []=>trivial
 |(_,_,_)::_=>⟨λh=>(by cases h),cM.none⟩
variable {ops:Array Oper}{rest:List Oper}{d:Nat}{ty T T':TypeId}{pos:String}{af:Array Edge}{g:Option (Nat×Bool)}{v:Value}{q r:Operand}
theorem qR{f:FuncId}{fn:Func}(e:Array Value->Sem Value){args:Array Value}(hf:P.funcs[f]? =some fn)(hr:(e args).run P w = .ok v w)(hname:(fn.name== "runtime.NumGoroutine")=false:=by kernel_rfl)(hb:fn.body.isNone=true:=by kernel_rfl)(hn:Extern.findNext fn=none:=by kernel_rfl)(he:Extern.find fn=some e:=by kernel_rfl):(callFunc f args).run P w = .ok (.value v) w:=by
 simp_all[run_callFunc_extern]
theorem FJ{f:FuncId}{args:Array Operand}{ts:Array TypeId}(v:Value)(hd:Nat.blt d n=true)(vs:List Value)(hvs:args.toList.map (ev U)=vs)(hf:(callFunc f vs.toArray).run P w = .ok (.value v) w)(k:RL P n ops rest (cD U d v) w Q)(hg:Wn ops U g:=by exact trivial):
  RL P n ops (⟨some d, .call ⟨.value<|.func f,args,ts⟩,ty,pos,af,g⟩::rest) U w Q:=by
 have e:args.map (ev U)=vs.toArray:=by grind
 refine B_ hg hd ?_ k;simp only[execOp,resolve,aK];simp only[ev,Deferred.ofValue,e,aP,aN,invoke]
 grind
end
theorem str_inj{a b:aL}:(⟨a.aU.toArray⟩:ByteArray)= ⟨b.aU.toArray⟩↔a=b:=by
 constructor
 ·intro h;have h1:a.aU.toArray=b.aU.toArray:=congrArg ByteArray.data h;have h2:a.aU=b.aU:=by grind
  cases a;simp_all
 grind
theorem wv(a b:aL):((⟨a.aU.toArray⟩:ByteArray)==⟨b.aU.toArray⟩)= decide (a=b):=by
 have e:((⟨a.aU.toArray⟩:ByteArray)==⟨b.aU.toArray⟩)=(a.aU.toArray==b.aU.toArray):=rfl
 grind [str_inj]
section
variable {P:Program}{w:World}{T:TypeId}{fs:Array Field}{xs ys:Array Value}{d:Nat}
inductive Ap (P:Program) (w:World) (d:Nat) (xs ys:Array Value):List Field->List Bool->Prop
 |nil:Ap P w d xs ys [] []
 |cons {f:Field} {l:List Field} {b:Bool} {bs:List Bool} {x y:Value} (hn:f.name≠ "_") (hx:(part f.type xs f.offset).run P w = .ok x w) (hy:(part f.type ys f.offset).run P w = .ok y w)
   (he:(Op.equalIn d f.type x y).run P w = .ok b w) (h:Ap P w d xs ys l bs):Ap P w d xs ys (f::l) (b::bs)
theorem py(hu:P.underlying T=some (.struct fs))(hs:P.stoodInHeld T=false){bs:List Bool}(h:Ap P w d xs ys fs.toList bs):
  (Op.equalIn (d+1) T (.agg xs)<|.agg ys).run P w = .ok (bs.all id) w:=by
 obtain⟨l⟩:=fs;rw[Op.equalIn];simp only[aK,run_underlying hu,aN,program,Sem.run,hs,List.forIn_toArray];rw[aH (by decide)];simp only at h;simp only[aK,aP,aN];clear hu
 induction h with
 |nil=>simp
 | @cons f l b bs x y hn hx hy he h ih=>
  simp only[List.forIn_cons,hn,ne_eq,not_false_eq_true,if_true,aK,hx,hy,he,aN]
  cases b with
  |true=>simp_all
  |false=>simp
structure B8 (P:Program) (T:TypeId) (α:Type) [GT α] [DecidableEq α]:Prop where
 eq:∀(M:bX)(cs ds:List Value)(a b:α)(w:World),GT.ok M cs a->GT.ok M ds b->(Op.equal T (mJ α cs)<|mJ α ds).run P w = .ok (decide<|a=b) w
 DM:P.eqGuardType P.depth T=false
end
section
variable {α:Type}[GT α][DecidableEq α]{P:Program}{n:Nat}{U:Nat->Value}{w:World}{Q:dL}{E:World}{V:List HP}{i j:Nat}
variable {ops:Array Oper}{rest:List Oper}{d:Nat}{ty T T':TypeId}{pos:String}{af:Array Edge}{g:Option (Nat×Bool)}{v v':Value}{q r:Operand}{a b:α}
theorem run_seq(hw:Holds E w V)(hi:V[i]? =some (rd v a))(hj:V[j]? =some (rd v' b))(hT:B8 P T α)(hag:GT.agg α=true):
  ((eqGuard .eql T q r v v').run P w = .ok () w/\(binOp .eql T v v').run P w = .ok (.bool<|decide<|a=b) w)/\
  ((eqGuard .neq T q r v v').run P w = .ok () w/\(binOp .neq T v v').run P w = .ok (.bool<|!decide (a=b)) w):=by
 obtain⟨M,hs,gd⟩:=hw;obtain⟨cs,hv,ho⟩:=(gd.sat i _ hi).1;obtain⟨ds,hv',ho'⟩:=(gd.sat j _ hj).1;have he:=hT.eq M cs ds a b w ho ho';rw[<-hv,<-hv']at he;have e1:v = .agg cs.toArray:=by grind [mJ]
 have e2:v' = .agg ds.toArray:=by grind [mJ]
 subst e1;subst e2;refine⟨⟨?_,?_⟩,?_,?_⟩
 ·simp[eqGuard,program,Sem.run,hT.DM]
 ·grind [binOp,aK,aN,aP]
 ·simp[eqGuard,program,Sem.run,hT.DM]
 grind [binOp,aK,aN,aP]
theorem Gc(hg:Wn ops U g)(hd:Nat.blt d n=true)(hw:Holds E w V)(hx:ev U q=v)(hy:ev U r=v')(hi:V[i]? =some (rd v a))(hj:V[j]? =some (rd v' b))(hT:B8 P T α)(hag:GT.agg α=true)
  (k:RL P n ops rest (cD U d<|.bool<|decide<|a=b) w Q):RL P n ops (⟨some d, .binOp .eql T q r T',ty,pos,af,g⟩::rest) U w Q:=by
 obtain⟨⟨h1,h2⟩,_⟩:=run_seq (q:=q) (r:=r) hw hi hj hT hag;refine B_ hg hd ?_ k
 grind [execOp,aK,aN,aP]
end
theorem jl{P:Program}{T:TypeId}(hT:je P T false 1){xs:Array Value}{k:Nat}{x:Value}(h:xs[k]? =some x)(w:World):(part T xs k).run P w = .ok x w:=by
 simp[part,hT.zb,h]
theorem wU{P:Program}{T:TypeId}{m:Nat}(hT:je P T true m){xs ys:Array Value}{k:Nat}(h:xs.extract k (k+m)=ys)(w:World):(part T xs k).run P w = .ok (.agg ys) w:=by
 simp[part,hT.zb,hT.sz,h]
theorem vC{P:Program}{T:TypeId}{K:IntKind}{d:Nat}(hu:P.underlying T=some (.int K))(a b:Int)(w:World):(Op.equalIn (d+1) T (.int K a)<|.int K b).run P w = .ok (a==b) w:=by
 rw[Op.equalIn];simp only[aK,run_underlying hu,aN];simp
theorem ox{P:Program}{T:TypeId}{d:Nat}(hu:P.underlying T=some .string)(a b:aL)(w:World):(Op.equalIn (d+1) T (str a)<|str b).run P w = .ok (decide<|a=b) w:=by
 rw[Op.equalIn];simp only[aK,run_underlying hu,aN,str];simp[wv]
def z5{α:Type}(l:List α)(lo hi:Int):Option (List α):=if 0<=lo/\lo<=hi/\hi<=l.length then some ((l.drop lo.toNat).take (hi - lo).toNat)else none
section
variable {α:Type}[GT α]{P:Program}{n:Nat}{U:Nat->Value}{w:World}{Q:dL}{E:World}{V:List HP}{i:Nat}
variable {ops:Array Oper}{rest:List Oper}{d:Nat}{ty T e:TypeId}{pos:String}{af:Array Edge}{g:Option (Nat×Bool)}{v:Value}{q:Operand}{l l':List α}{lo hi:Int}
theorem uq{M:bX}{a:Option Addr}{m cap:Nat}(h:iR M (.slice a m cap) l)(h0:0<=lo)(h1:lo<=hi)(h2:hi<=l.length):
  iR M (.slice (if cap=lo.toNat then a else a.map (·.add (lo.toNat*GT.sz α))) (hi.toNat - lo.toNat)<|cap - lo.toNat) ((l.drop lo.toNat).take (hi - lo).toNat):=by
 obtain⟨a',m',cap',hv,hm,hc,hx,hel⟩:=h;injection hv with e1 e2 e3
 subst e1;subst e2;subst e3;refine⟨_,_,_,rfl,?_,by omega,by omega,λk x hk=>?_⟩
 ·grind
 ·rw[fR]at hk
  grind [GT.sz,add_add,Nat.add_mul]
theorem th{a:Option Addr}{m cap:Nat}{lov hiv:Option Value}(hT:te P T e (GT.sz α))(hl:lov=some (.int .i64 lo)\/(lov=none/\lo=0))(hh:hiv=some (.int .i64 hi)\/(hiv=none/\hi=m))
  (h0:0<=lo) (h1:lo<=hi) (h2:hi<=m) (hc:m<=cap) (w:World):
  (Instr.sliceAt T (.slice a m cap) lov hiv none).run P w = .ok (.slice (if cap=lo.toNat then a else a.map (·.add (lo.toNat*GT.sz α))) (hi.toNat - lo.toNat)<|cap - lo.toNat) w:=by
 have eh:(Instr.sliceBounds true m cap lov hiv none).run P w = .ok (lo.toNat,hi.toNat,cap) w:=by
  unfold Instr.sliceBounds;have e1:∀(y:Nat)(c:BoundsCode),hi<=y->(Instr.sliceBound (.int .i64 hi) y c).run P w = .ok hi.toNat w:=λy c hy=>by
   simp[Instr.sliceBound,asIntOf,show 0<=hi by omega,hy]
  have e2:∀(y:Nat)(c:BoundsCode),lo<=y->(Instr.sliceBound (.int .i64 lo) y c).run P w = .ok lo.toNat w:=λy c hy=>by
   simp_all[Instr.sliceBound,asIntOf]
  grind [aK,aP,aN]
 unfold Instr.sliceAt;simp only[aK,run_underlying hT.rY,aN];unfold Instr.slice;simp only[aK,run_underlying hT.rY,aN,eh,hT.sz,aP]
theorem Gd{lop hip:Option Operand}(hg:Wn ops U g)(hd:Nat.blt d n=true)(hw:Holds E w V)(hx:ev U q=v)(hi':V[i]? =some (rd v l))(hT:te P T e (GT.sz α))
  (hl:lop.map (ev U)=some (.int .i64 lo)\/(lop.map (ev U)=none/\lo=0)) (hh:hip.map (ev U)=some (.int .i64 hi)\/(hip.map (ev U)=none/\hi=(l.length:Nat)))
  (hb:z5 l lo hi=some l') (k:∀v',Holds E w (rd v' l'::V)->RL P n ops rest (cD U d v') w Q):
  RL P n ops (⟨some d, .slice T q lop hip none,ty,pos,af,g⟩::rest) U w Q:=by
 unfold z5 at hb;split at hb
 ·rename_i hc;injection hb with hb
  subst hb;obtain⟨M,hs,gd⟩:=hw;have hs':=iS.1 (gd.sat i _ hi').1;obtain⟨a,m,cap,hv,hm,hcap,_⟩:=hs';subst hv;have hs2:=iS.1 (gd.sat i _ hi').1;have hcut:=uq hs2 hc.1 hc.2.1 hc.2.2;refine B_ hg hd ?_<|k _ ⟨M,_,gd.dH ⟨iS.2 hcut,rfl⟩⟩
  grind [th,execOp,aK,aN,aP]
 ·cases hb
end
def mR(a b:aL):Option aL:=if a.aU.length+b.aU.length<=9223372036854775807 then some ⟨a.aU++b.aU⟩else none
def oy(s:aL)(lo hi:Int):Option aL:=if 0<=lo/\lo<=hi/\hi<=s.aU.length then some ⟨(s.aU.drop lo.toNat).take (hi - lo).toNat⟩else none
section
variable {P:Program}{n:Nat}{U:Nat->Value}{w:World}{Q:dL}{E:World}{V:List HP}{i:Nat}
variable {ops:Array Oper}{rest:List Oper}{d:Nat}{ty T T':TypeId}{pos:String}{af:Array Edge}{g:Option (Nat×Bool)}{v:Value}{q r:Operand}{lo hi:Int}
theorem Fm(a b:aL){s:aL}(hd:Nat.blt d n=true)(hx:ev U q=str a)(hy:ev U r=str b)(hs:mR a b=some s)(k:RL P n ops rest (cD U d<|str s) w Q)(hg:Wn ops U g:=by exact trivial):RL P n ops (⟨some d, .binOp .add T q r T',ty,pos,af,g⟩::rest) U w Q:=by
 unfold Gk.mR at hs;split at hs
 ·rename_i h;injection hs with hs
  subst hs;refine Fw (hr:=λw=>?_) hg hd hx hy k;have e1:((⟨a.aU.toArray⟩:ByteArray).size+(⟨b.aU.toArray⟩:ByteArray).size:Nat)=a.aU.length+b.aU.length:=rfl;have e2:IntKind.i64.max=9223372036854775807:=by decide
  have e3:(⟨a.aU.toArray⟩:ByteArray)++⟨b.aU.toArray⟩= ⟨(a.aU++b.aU).toArray⟩:=by
   rfl
  simp only[binOp,str,Op.stringOp];rw[e1,e2,aH (by omega),e3];rfl
 ·cases hs
theorem FK{lop hip:Option Operand}(s:aL){s':aL}(hd:Nat.blt d n=true)(hx:ev U q=str s)(hT:P.underlying T=some .string)(hl:lop.map (ev U)=some (.int .i64 lo)\/(lop.map (ev U)=none/\lo=0))(hh:hip.map (ev U)=some (.int .i64 hi)\/(hip.map (ev U)=none/\hi=(s.aU.length:Nat)))(hb:oy s lo hi=some s')(k:RL P n ops rest (cD U d<|str s') w Q)(hg:Wn ops U g:=by exact trivial):
  RL P n ops (⟨some d, .slice T q lop hip none,ty,pos,af,g⟩::rest) U w Q:=by
 unfold Gk.oy at hb;split at hb
 ·rename_i hc;injection hb with hb
  subst hb;refine B_ hg hd ?_ k;have esz:(⟨s.aU.toArray⟩:ByteArray).size=s.aU.length:=rfl;have eb:(Instr.sliceBounds false s.aU.length s.aU.length (lop.map<|ev U) (hip.map<|ev U) none).run P w = .ok (lo.toNat,hi.toNat,s.aU.length) w:=by
   unfold Instr.sliceBounds;have e1:∀(y:Nat)(c:BoundsCode),hi<=y->(Instr.sliceBound (.int .i64 hi) y c).run P w = .ok hi.toNat w:=λy c hy=>by
    simp[Instr.sliceBound,asIntOf,show 0<=hi by omega,hy]
   have e2:∀(y:Nat)(c:BoundsCode),lo<=y->(Instr.sliceBound (.int .i64 lo) y c).run P w = .ok lo.toNat w:=λy c hy=>by
    simp_all[Instr.sliceBound,asIntOf]
   grind [aK,aP,aN]
  have ex:(⟨s.aU.toArray⟩:ByteArray).extract lo.toNat hi.toNat= ⟨((s.aU.drop lo.toNat).take (hi - lo).toNat).toArray⟩:=by
   apply ByteArray.ext;simp only[ByteArray.data_extract]
   grind
  simp only[execOp,hx,aK,Option.map_none,Instr.sliceAt,run_underlying hT,aN,Instr.slice,str]
  simp_all
 ·cases hb
end
def xJ{α:Type}(a:Nat)(ds xs:List α):List α:=xs.take a++ds++xs.drop (a+ds.length)
theorem vD{α:Type}{a:Nat}{ds xs:List α}(h:a+ds.length<=xs.length):(xJ a ds xs).length=xs.length:=by
 unfold xJ;grind
theorem ti{α:Type}{a:Nat}{ds xs:List α}(h:a+ds.length<=xs.length)(t:Nat):
  (xJ a ds xs)[t]? =if t<a then xs[t]? else if t<a+ds.length then ds[t - a]? else xs[t]? :=by
 unfold xJ
 grind
def Ba(v:Value)(k sz off:Nat)(p:Value):Prop:=∃a n c,v = .slice (some a) n c/\p = .pointer (some<|a.add<|k*sz+off)
theorem oh{i k sz:Nat}(h:i<k):i*sz+sz<=k*sz:=by
 calc i*sz+sz=(i+1)*sz:=by rw[Nat.add_mul,Nat.one_mul]
  _<=k*sz:=Nat.mul_le_mul_right _ h
section
variable {α β:Type}[GT α][GT β]{P:Program}{n:Nat}{U:Nat->Value}{w:World}{Q:dL}{E:World}{V:List HP}{i j:Nat}
variable {ops:Array Oper}{rest:List Oper}{d:Nat}{ty T T' e:TypeId}{pos:String}{af:Array Edge}{g:Option (Nat×Bool)}{v u p:Value}{q r:Operand}{l l':List α}{x:α}{jj:Int}{k off:Nat}
theorem mS{α:Type}{l:List α}{jj:Int}{x:α}(h:idx l jj=some x):0<=jj/\l[jj.toNat]? =some x/\jj.toNat<l.length:=by
 grind [idx,bG]
theorem Ge{K:IntKind}(hg:Wn ops U g)(hd:Nat.blt d n=true)(hw:Holds E w V)(hx:ev U q=v)(hy:ev U r = .int K jj)(hi:V[i]? =some (own e v l))
  (hT:te P T e (GT.sz α)) (hj:idx l jj=some x) (kk:∀p,Ba v jj.toNat (GT.sz α) 0 p->RL P n ops rest (cD U d p) w Q):
  RL P n ops (⟨some d, .indexAddr T q r,ty,pos,af,g⟩::rest) U w Q:=by
 obtain⟨h0,hx',hlt⟩:=mS hj;obtain⟨M,hs,gd⟩:=hw
 rcases gd.sat i _ hi with⟨rfl,rfl,_⟩|⟨b,o,cap,cur,xs,rfl,h2,_⟩
 ·simp at hlt
 ·refine B_ (v:= .pointer<|some<|(⟨b,o,none⟩:Addr).add<|jj.toNat*GT.sz α) hg hd ?_<|kk _ ⟨_,_,_,rfl,by rw[Nat.add_zero]⟩
  have hlt':jj<(l.length:Nat):=by omega
  simp only[execOp,hx,hy,Instr.indexAt,asIntOf,aK,aP,aN,run_underlying hT.rY,hT.sz,h0,hlt',and_self,if_true]
def AY(v:Value)(k sz off:Nat):Value:=match v with| .slice (some a) _ _=> .pointer (some<|a.add<|k*sz+off)|_=>undef
theorem Cf{w E:World}{V:List HP}{i:Nat}{v:Value}{l:List α}{jj:Int}{x:α}(hw:Holds E w V)(hi:V[i]? =some (own e v l))(hx:idx l jj=some x)(off:Nat):Ba v jj.toNat (GT.sz α) off (AY v jj.toNat (GT.sz α) off):=by
 obtain⟨h0,hx',hlt⟩:=mS hx;obtain⟨M,hs,gd⟩:=hw
 rcases gd.sat i _ hi with⟨rfl,rfl,_⟩|⟨b,o,cap,cur,xs,rfl,h2,_⟩
 ·simp at hlt
 ·exact⟨_,_,_,rfl,rfl⟩
theorem EM{K:IntKind}(i:Nat)(hw:Holds E w V)(hx:ev U q=v)(hi:V[i]? =some (own e v l))(hT:te P T e (GT.sz α))(hj:idx l jj=some x)(kk:RL P n ops rest (cD U d<|AY v jj.toNat (GT.sz α) 0) w Q)(hg:Wn ops U g:=by exact trivial)(hd:Nat.blt d n=true:=by exact rfl)(hy:ev U r = .int K jj:=by exact rfl):
  RL P n ops (⟨some d, .indexAddr T q r,ty,pos,af,g⟩::rest) U w Q:=
 Ge hg hd hw hx hy hi hT hj λp hp=>by
  obtain⟨a,n',c,hv,rfl⟩:=hp;have:AY v jj.toNat (GT.sz α) 0 = .pointer (some<|a.add<|jj.toNat*GT.sz α+0):=by rw[hv];rfl
  rw[<-this];exact kk
theorem FX{f:α->β}(hg:Wn ops U g)(hd:Nat.blt d n=true)(hw:Holds E w V)(hx:ev U q=p)(hp:Ba v k (GT.sz α) off p)(hi:V[i]? =some (own e v l))(hl:l[k]? =some x)(hF:Fd off f)
  (hT:je P T (GT.agg β) (GT.sz β)) (kk:∀u,Holds E w (rd u (f x)::V)->RL P n ops rest (cD U d u) w Q):RL P n ops (⟨some d, .load T q,ty,pos,af,g⟩::rest) U w Q:=by
 obtain⟨M,hs,gd⟩:=hw;obtain⟨a,n',c,hv,hpp⟩:=hp;have hkl:=(bG.1 hl).1
 rcases gd.sat i _ hi with⟨hv',rfl,_⟩|⟨b,o,cap,cur,xs,hv',h2,h3,h4,h5,h6,h7⟩
 ·simp at hkl
 ·rw[hv]at hv';injection hv' with e1 e2 e3
  injection e1 with e1
  subst e1;have hb:=gd.le i b _ (bE hi) (by rw[h4];exact bL b _);have ho:=hF M _ x<|h7.2 k x hl
  refine B_ (v:=mJ β<|(((xs.drop<|k*GT.sz α).take<|GT.sz α).drop off).take<|GT.sz β) hg hd ?_<|kk _ ⟨M,_,gd.dH ⟨⟨_,rfl,ho⟩,rfl⟩⟩
  simp only[execOp,hx,hpp,Instr.loadAt,Instr.sureAddr,aK,aP,aN];rw[gY hT ho<|λt y hy=>?_];rfl
  grind [Addr.add_lit,cell_of_row]
theorem Gf{γ:Type}[Sc γ]{f:α->γ}(hg:Wn ops U g)(hd:Nat.blt d n=true)(hw:Holds E w V)(hx:ev U q=p)(hp:Ba v k (GT.sz α) off p)(hi:V[i]? =some (own e v l))(hl:l[k]? =some x)(hF:Fd off f)
  (hT:je P T false 1) (kk:RL P n ops rest (cD U d<|Sc.toV<|f x) w Q):RL P n ops (⟨some d, .load T q,ty,pos,af,g⟩::rest) U w Q:=by
 refine FX (f:=f) hg hd hw hx hp hi hl hF hT λu h=>?_;rw[h.oO (i:=0) rfl];exact kk
theorem Gg{f:α->β->α}{y:β}(hg:Wn ops U g)(hw:Holds E w V)(hx:ev U q=p)(hy:ev U r=u)(hp:Ba v k (GT.sz α) off p)(hi:V[i]? =some (own e v l))(hl:l[k]? =some x)(hj:V[j]? =some (rd u y))
  (hF:Fs off β f) (hm:off+GT.sz β<=GT.sz α) (hT:je P T (GT.agg β) (GT.sz β)) (kk:∀w',Holds E w' (V.set i<|own e v<|l.set k<|f x y)->RL P n ops rest U w' Q):
  RL P n ops (⟨none, .store T q r,ty,pos,af,g⟩::rest) U w Q:=by
 obtain⟨M,hs,gd⟩:=hw;obtain⟨a,n',c,hv,hpp⟩:=hp;have hkl:=(bG.1 hl).1;have hr:=(gd.sat j _ hj).1
 rcases gd.sat i _ hi with⟨hv',rfl,_⟩|⟨b,o,cap,cur,xs,hv',h2,h3,h4,h5,h6,h7⟩
 ·simp at hkl
 ·have hv0:=hv';rw[hv]at hv';injection hv' with e1 e2 e3
  injection e1 with e1
  subst e1;have hb:=gd.le i b _ (bE hi) (by rw[h4];exact bL b _);have hc:u.cells.size=GT.sz β:=by rw[<-GT.len hr.cells];simp
  have hcl:u.cells.toList.length=GT.sz β:=GT.len hr.cells;have hks:=oh (sz:=GT.sz α) hkl;have hcap:l.length*GT.sz α<=cap*GT.sz α:=Nat.mul_le_mul_right _ h2;have hcs:o+cap*GT.sz α<=cur.toList.length:=h5;have hrun:=iT (P:=P) (v:=u) (o:=o+(k*GT.sz α+off)) hT.sz hc (GT.one hr.cells) hb (by omega);have hnew:(cur.toList.take (o+(k*GT.sz α+off))++u.cells.toList++cur.toList.drop (o+(k*GT.sz α+off)+GT.sz β))=xJ (o+(k*GT.sz α+off)) u.cells.toList cur.toList:=by
   grind [xJ]
  rw[hnew]at hrun;have hfit:o+(k*GT.sz α+off)+u.cells.toList.length<=cur.toList.length:=by omega
  have hxl:xs.length=l.length*GT.sz α:=h7.1;have hget:∀t,xs[t]? =if t<l.length*GT.sz α then cur.toList[o+t]? else none:=λt=>by
   grind
  refine E6 hg ?_<|kk _<|iJ (P':=own e v<|l.set k<|f x y) (new:=(xJ (o+(k*GT.sz α+off)) u.cells.toList cur.toList).toArray) gd hi h4<|.inr ⟨b,o,cap,_,((xJ (o+(k*GT.sz α+off)) u.cells.toList cur.toList).drop o).take<|l.length*GT.sz α,by grind,by grind,h3,rfl,?_,by rw[fV],?_⟩
  ·grind [execOp,Instr.storeAt,Instr.sureAddr,aK,aP,aN,Addr.add_lit]
  ·grind
  ·refine⟨by rw[eJ,jZ,vD hfit,fV];omega,λm z hz=>?_⟩;rw[fT]at hz
   by_cases hmk:k=m
   ·subst hmk;rw[aG rfl,aG hkl]at hz;injection hz with hz
    subst hz;have hok:=hF M _ _ x y (h7.2 k x hl) hr.cells;have heq:(List.drop (k*GT.sz α)<|((xJ (o+(k*GT.sz α+off)) u.cells.toList cur.toList).drop o).take<|l.length*GT.sz α).take (GT.sz α) =
      (List.take (GT.sz α)<|List.drop (k*GT.sz α) xs).take off++u.cells.toList++(List.take (GT.sz α)<|List.drop (k*GT.sz α) xs).drop (off+GT.sz β):=by
     have e0:(List.take (GT.sz α)<|List.drop (k*GT.sz α) xs).take off++u.cells.toList++(List.take (GT.sz α)<|List.drop (k*GT.sz α) xs).drop (off+GT.sz β)=xJ off u.cells.toList (List.take (GT.sz α)<|List.drop (k*GT.sz α) xs):=by
      unfold xJ;rw[hcl]
     rw[e0];apply List.ext_getElem?;intro t;rw[ti (by rw[hcl,eJ,jZ];omega),fR,iO,fR,iO,ti hfit,hcl];simp only[fR,iO,hget]
     by_cases ht:t<GT.sz α
     ·rw[aG ht,aG (by omega)]
      by_cases h1:t<off
      ·rw[aG (by omega),aG h1,aG ht,aG (by omega)]
      ·rw[aH (by omega),aH h1]
       by_cases h2':t<off+GT.sz β
       ·rw[aG (by omega),aG h2'];congr 1;omega
       ·rw[aH (by omega),aH h2',aG ht,aG (by omega)]
     ·rw[aH ht,aH (by omega),aH (by omega),aH ht]
    rw[heq];exact hok
   ·rw[aH hmk]at hz;have hml:=(bG.1 hz).1;have hms:=oh (sz:=GT.sz α) hml;have hok:=h7.2 m z hz;have heq:(List.drop (m*GT.sz α)<|((xJ (o+(k*GT.sz α+off)) u.cells.toList cur.toList).drop o).take<|l.length*GT.sz α).take (GT.sz α)=(List.drop (m*GT.sz α) xs).take (GT.sz α):=by
     apply List.ext_getElem?;intro t;simp only[fR,iO,ti hfit,hcl,hget]
     by_cases ht:t<GT.sz α
     ·rw[aG ht,aG ht,aG (show m*GT.sz α+t<l.length*GT.sz α by omega),aG (show m*GT.sz α+t<l.length*GT.sz α by omega)]
      rcases Nat.lt_or_gt_of_ne hmk with h1|h1
      ·have:=oh (sz:=GT.sz α) h1;rw[aH (by omega),aH (by omega)]
      ·have:=oh (sz:=GT.sz α) h1;rw[aG (by omega)]
     ·rw[aH ht,aH ht]
    rw[heq];exact hok
theorem Gh{lop hip:Option Operand}{lo hi:Int}(hg:Wn ops U g)(hd:Nat.blt d n=true)(hw:Holds E w V)(hx:ev U q=v)(hi':V[i]? =some (own e v l))(hT:te P T e (GT.sz α))
  (hl:lop.map (ev U)=some (.int .i64 lo)\/(lop.map (ev U)=none/\lo=0)) (hh:hip.map (ev U)=some (.int .i64 hi)\/(hip.map (ev U)=none/\hi=(l.length:Nat)))
  (hb:z5 l lo hi=some l') (kk:∀v',Holds E w (V.set i<|own e v' l')->RL P n ops rest (cD U d v') w Q):
  RL P n ops (⟨some d, .slice T q lop hip none,ty,pos,af,g⟩::rest) U w Q:=by
 unfold z5 at hb;split at hb
 ·rename_i hc;injection hb with hb
  subst hb;obtain⟨M,hs,gd⟩:=hw;have hlt:=bE hi';have hlen:((l.drop lo.toNat).take (hi - lo).toNat).length=hi.toNat - lo.toNat:=by grind
  rcases gd.sat i _ hi' with⟨rfl,rfl,hh0⟩|⟨b,o,cap,cur,xs,rfl,h2,h3,h4,h5,h6,h7⟩
  ·have hr:=th (P:=P) (α:=α) (a:=none) (m:=0) (cap:=0) hT hl hh hc.1 hc.2.1 hc.2.2 (bP _) w;have h00:hi.toNat - lo.toNat=0:=by grind
   have hlo:lo.toNat=0:=by grind
   refine B_ (v:= .slice none 0 0) hg hd ?_<|kk _ ⟨M,_,gd.update (P':=own e _ _) hlt kL (.inl ⟨rfl,by rw[List.drop_nil,List.take_nil],rfl⟩) rfl rfl rfl (λ_ _ h=>by cases h) (λ_ _ h=>by cases h)<|λ_ _ _=>rfl⟩
   grind [execOp,aK,aN,aP]
  ·have hr:=th (P:=P) (α:=α) (a:=some ⟨b,o,none⟩) (m:=l.length) (cap:=cap) hT hl hh hc.1 hc.2.1 hc.2.2 h2 w;have hxl:xs.length=l.length*GT.sz α:=h7.1;have hself:iz hs i (hs i)=hs:=by grind [iz]
   by_cases hce:cap=lo.toNat
   ·
    have h00:hi.toNat - lo.toNat=0:=by omega
    have hz:(l.drop lo.toNat).take (hi - lo).toNat= []:=List.eq_nil_of_length_eq_zero (by rw[hlen,h00]);have hz':l.length=cap:=by omega
    rw[hz]at kk;refine B_ (v:= .slice (some ⟨b,o,none⟩) 0 0) hg hd ?_<|kk _ ⟨M,_,gd.update (P':=own e (.slice (some ⟨b,o,none⟩) 0 0) ([]:List α)) hlt (hs i) ?_ rfl rfl rfl (λb' o' hb'=>gd.le i b' o' hlt hb') (λb' o' hb'=> .inl ⟨o',hb'⟩)<|λ_ _ _=>rfl⟩
    ·grind [execOp,aK,aN,aP]
    ·exact .inr ⟨b,o,0,cur,[],rfl,bP _,by simp[maxLen],h4,by omega,by simp,Cells.nil⟩
   ·refine B_ (v:= .slice (some ⟨b,o+lo.toNat*GT.sz α,none⟩) ((l.drop lo.toNat).take (hi - lo).toNat).length<|cap - lo.toNat) hg hd ?_<|kk _ ⟨M,_,gd.update (P':=own e _ _) hlt (hs i) (.inr ⟨b,o+lo.toNat*GT.sz α,cap - lo.toNat,cur,(xs.drop<|lo.toNat*GT.sz α).take<|(hi - lo).toNat*GT.sz α,rfl,?_,by omega,h4,?_,?_,?_⟩) rfl rfl rfl (λb' o' hb'=>gd.le i b' o' hlt hb') (λb' o' hb'=> .inl ⟨o',hb'⟩)<|λ_ _ _=>rfl⟩
    ·grind [execOp,aK,aN,aP,Addr.add_lit]
    ·omega
    ·rw[Nat.sub_mul];have:lo.toNat*GT.sz α<=cap*GT.sz α:=Nat.mul_le_mul_right _ (by omega);omega
    ·rw[hlen,<-h6];have e1:(hi - lo).toNat=hi.toNat - lo.toNat:=by omega
     rw[e1,List.drop_take,List.drop_drop,List.take_take];congr 1;have:hi.toNat*GT.sz α<=l.length*GT.sz α:=Nat.mul_le_mul_right _ (by have:=hc.2.2;omega);rw[Nat.sub_mul];omega
    ·refine⟨?_,λm z hz=>?_⟩
     ·rw[eJ,jZ,hxl,hlen];have e1:(hi - lo).toNat=hi.toNat - lo.toNat:=by omega
      have:hi.toNat*GT.sz α<=l.length*GT.sz α:=Nat.mul_le_mul_right _ (by have:=hc.2.2;omega);rw[e1,Nat.sub_mul];omega
     ·rw[fR]at hz;split at hz
      ·rename_i hm;rw[iO]at hz;have:=h7.2 _ z hz;have hms:=oh (sz:=GT.sz α) hm;rw[List.drop_take,List.drop_drop,List.take_take,Nat.min_eq_left (by omega),<-Nat.add_mul];exact this
      ·cases hz
 ·cases hb
end
def mk{α:Type}(bytes:Nat)(z:α)(n:Int):Option (List α):=if 0<=n/\n*bytes<=140737488355328 then some (List.replicate n.toNat z)else none
def Ar(P:Program)(e:TypeId){α:Type}[GT α](z0:α):Prop:=∀(M:bX)(z:Value),(P.info? e).bind (·.zero)=some z->GT.ok M z.cells.toList z0
section
variable {α:Type}[GT α]{P:Program}{n:Nat}{U:Nat->Value}{w:World}{Q:dL}{E:World}{V:List HP}{i:Nat}
variable {ops:Array Oper}{rest:List Oper}{d:Nat}{ty t e:TypeId}{pos:String}{af:Array Edge}{g:Option (Nat×Bool)}{q r:Operand}{bytes:Nat}{l':List α}{z0:α}{k:Int}
theorem FY(k:Int)(hg:Wn ops U g)(hd:Nat.blt d n=true)(hw:Holds E w V)(hx:ev U q = .int .i64 k)(hy:ev U r = .int .i64 k)(hT:tg P t e (GT.sz α) bytes)(hz0:Ar P e z0)(hb:Gk.mk bytes z0 k=some l')(kk:∀v w',Holds E w' (own e v l'::V)->RL P n ops rest (cD U d v) w' Q):RL P n ops (⟨some d, .makeSlice t q r,ty,pos,af,g⟩::rest) U w Q:=by
 obtain⟨inf,z,hi,hz,hsz,hby,hzs⟩:=hT.inf;unfold Gk.mk at hb;split at hb
 case isFalse=>cases hb
 rename_i hc;injection hb with hb
 subst hb;obtain⟨m,rfl⟩:=Int.eq_ofNat_of_zero_le hc.1;rw[kj]at kk;have h1:m*bytes<=140737488355328:=by omega
 have h2:m<=140737488355328:=iH (Nat.le_mul_of_pos_right _ hT.pos) h1;have hbn:(inf.bytes:Int)*(m:Int)<=281474976710656:=by
  grind
 have hr:=run_make (P:=P) w t e inf z hT.rY hi hz .i64 .i64 m m (by omega) (Int.le_refl _) hbn (by omega);simp only[kj]at hr;refine B_ (v:= .slice (some ⟨w.heap.size,0,none⟩) m m) (w':=w.alloc<|.cells (madeCells z.cells<|m*inf.size) e) hg hd ?_<|kk _ _<|hw.alloc _ λM hs gd=> .inr ⟨w.heap.size,0,m,madeCells z.cells<|m*inf.size,_,by rw[List.length_replicate],by simp,by grind [maxLen],rfl,?_,rfl,?_⟩
 ·grind [execOp,aK,aN,aP]
 ·grind [size_madeCells]
 ·have hok:=hz0 M z (by grind);have hml:(madeCells z.cells<|m*inf.size).toList.length=m*GT.sz α:=by grind [Array.length_toList,size_madeCells]
  refine⟨by grind,λa x hx=>?_⟩;rw[List.getElem?_replicate]at hx;split at hx
  ·rename_i ha;injection hx with hx
   subst hx;have hms:=oh (sz:=GT.sz α) ha;have:(List.drop (a*GT.sz α)<|(List.drop 0 (madeCells z.cells<|m*inf.size).toList).take<|(List.replicate m z0).length*GT.sz α).take (GT.sz α)=z.cells.toList:=by
    apply List.ext_getElem?;intro t;have hzl:z.cells.toList.length=GT.sz α:=by omega
    simp only[fR,iO,List.length_replicate,fM]
    by_cases ht:t<GT.sz α
    ·have hlt:a*GT.sz α+t<(madeCells z.cells<|m*inf.size).size:=by grind
     rw[aG ht,aG (by omega),Array.getElem?_toList,fS hlt,aM (show t<z.cells.toList.length by omega)]
     grind [madeCells,GT.sz,Nat.mul_comm,Nat.mul_add_mod,Nat.mod_eq_of_lt]
    grind
   grind
  ·cases hx
end
class KV (κ:Type) [GT κ]where
 cs:κ->List Value
 spec:∀{M:bX}{c:List Value}{k:κ},GT.ok M c k->c=cs k
 ok:∀(M:bX)(k:κ),GT.ok M (cs k) k
instance instKVSc {α:Type} [Sc α]:KV α:=⟨λx=>[Sc.toV x],λh=>h,λ_ _=>rfl⟩
instance instKVProd {α β:Type} [GT α] [GT β] [KV α] [KV β]:KV (α×β):=
 ⟨λx=>KV.cs x.1++KV.cs x.2,λ⟨_,_,e,h1,h2⟩=>by rw[e,KV.spec h1,KV.spec h2],λM x=>⟨_,_,rfl,KV.ok M x.1,KV.ok M x.2⟩⟩
def KV.enc{κ:Type}[GT κ][KV κ](k:κ):Value:=mJ κ<|KV.cs k
theorem KV.Bb{κ:Type}[GT κ][KV κ]{M:bX}{v:Value}{k:κ}(h:oe M v k):v=KV.enc k:=by
 obtain⟨cs,e,h⟩:=h;rw[e,KV.spec h];rfl
theorem KV.rd{κ:Type}[GT κ][KV κ](M:bX)(k:κ):oe M (KV.enc k) k:=⟨_,rfl,KV.ok M k⟩
structure nY (P:Program) (kt:TypeId) (κ:Type) [GT κ] [KV κ] [DecidableEq κ]:Prop where
 AZ:∀(b:Bool)(k:κ)(w:World),(Instr.checkKey b 10000 kt<|KV.enc k).run P w = .ok () w
 eq:∀(a b:κ)(w:World),(Op.equal kt (KV.enc a)<|KV.enc b).run P w = .ok (decide<|a=b) w
 now:(∀(a b:κ),∃D,P.underlying kt=some D/\Instr.sameNow D (KV.enc a) (KV.enc b)=some (decide<|a=b))\/(∃D,P.underlying kt=some D/\∀(a b:κ),Instr.sameNow D (KV.enc a) (KV.enc b)=none)
 bits:∀(a:κ),Instr.sameBits 10000 (KV.enc a) (KV.enc a)=true
section
variable {κ ν:Type}[GT κ][KV κ][GT ν]
def ix(M:bX):List MapEntry->List (κ×ν)->Prop
 | [],[]=>True
 |e::es,p::m=>e.key=KV.enc p.1/\oe M e.val p.2/\ix M es m
 |_,_=>False
theorem ix.mono{M M':bX}(h:hle M M'):∀{es:List MapEntry}{m:List (κ×ν)},ix M es m->ix M' es m
 | [],[],_=>trivial
 |e::es,p::m,⟨h1,h2,h3⟩=>⟨h1,h2.mono h,ix.mono h h3⟩
 | [],_::_,h=>h.elim
 |_::_,[],h=>h.elim
def zm(es:List MapEntry)(clock:Nat)(m:List (κ×ν)):Prop:=(∀x∈es,x.born<clock)/\(es.map (·.born)).Nodup/\(m.map Prod.fst).Nodup
def mp(v:Value)(m:List (κ×ν)):HP:=
 ⟨λM h=>∃r es clock,v = .map (some r)/\(ix M (Array.toList es) m/\zm es.toList clock m)/\h=Gk.one r (.map es clock),λk⟨r,es,c,hv,⟨he,hst⟩,hh⟩=>⟨r,es,c,hv,⟨ix.mono k he,hst⟩,hh⟩⟩
end
section
variable {κ ν:Type}[GT κ][KV κ][DecidableEq κ][GT ν]
def cH(m:List (κ×ν))(k:κ):Option Nat:=m.findIdx?<|λp=>decide<|k=p.1
def bV(m:List (κ×ν))(k:κ)(z:ν):ν:=match m.find? (λp=>decide<|k=p.1)with|some p=>p.2|none=>z
def fB(m:List (κ×ν))(k:κ):Bool:=m.any<|λp=>decide<|k=p.1
def dG(m:List (κ×ν))(k:κ)(x:ν):List (κ×ν):=
 match m with
 | []=>[(k,x)]
 |p::m=>if k=p.1 then(k,x)::m else p::dG m k x
theorem ur(k:κ)(x:ν):∀m:List (κ×ν),(dG m k x).map Prod.fst=if k∈m.map Prod.fst then m.map Prod.fst else m.map Prod.fst++[k]
 | []=>by simp[dG]
 |p::m=>by
  unfold dG
  by_cases h:k=p.1
  ·simp[h]
  ·rw[aH h,eE,ur k x m];simp only[eE,gC,h,false_or];split <;> simp
theorem qS{m:List (κ×ν)}(h:(m.map Prod.fst).Nodup)(k:κ)(x:ν):((dG m k x).map Prod.fst).Nodup:=by
 rw[ur]
 grind
theorem zm.push{es:List MapEntry}{clock:Nat}{m:List (κ×ν)}(h:zm es clock m)(k:κ)(x:ν){en:MapEntry}(he:en.born=clock):zm (es++[en]) (clock+1) (dG m k x):=by
 refine⟨λy hy=>?_,?_,qS h.2.2 k x⟩
 ·rcases k8.1 hy with hy|hy
  ·have:=h.1 y hy;omega
  grind
 ·rw[eX,List.nodup_append];refine⟨h.2.1,by simp,λa ha b hb e=>?_⟩;simp at hb;obtain⟨y,hy,rfl⟩:=dK.1 ha;have:=h.1 y hy;omega
theorem zm.modify{es:List MapEntry}{clock:Nat}{m:List (κ×ν)}(h:zm es clock m)(k:κ)(x:ν){f:MapEntry->MapEntry}(hf:∀e,(f e).born=e.born)(a:Nat):zm (es.modify a f) clock (dG m k x):=by
 have hm:(es.modify a f).map (·.born)=es.map (·.born):=by
  refine List.ext_getElem? λj=>?_
  grind
 refine⟨λy hy=>?_,by rw[hm];exact h.2.1,qS h.2.2 k x⟩;have hy':y.born∈(es.modify a f).map (·.born):=dK.2 ⟨y,hy,rfl⟩;rw[hm]at hy';obtain⟨z,hz,e⟩:=dK.1 hy';rw[<-e];exact h.1 z hz
variable {P:Program}{n:Nat}{U:Nat->Value}{w:World}{Q:dL}{E:World}{V:List HP}{i j l:Nat}
variable {ops:Array Oper}{rest:List Oper}{d:Nat}{ty T kt et:TypeId}{pos:String}{af:Array Edge}{g:Option (Nat×Bool)}{v kv u:Value}{q qk qv:Operand}{r:Nat}{m:List (κ×ν)}{k:κ}{x z0:ν}
theorem run_findKey(hK:nY P kt κ)(M:bX){es:List MapEntry}(he:ix M es m)(w:World):
  ∃o,(Instr.findKey kt (KV.enc k) es).run P w = .ok o w/\
   match o with
   |some (a,y)=>∃x,cH m k=some a/\m.find? (λp=>decide (k=p.1))=some (k,x)/\oe M y x/\∃en,es[a]? =some en/\en.key=KV.enc k
   |none=>cH m k=none/\m.find? (λp=>decide (k=p.1))=none:=by
 have ask:∀(es:List MapEntry)(m:List (κ×ν))(a:Nat),ix M es m->∃o,(Instr.findAsking kt (KV.enc k) es a).run P w = .ok o w/\
   (match o with
   |some (b,y)=>∃c x,b=a+c/\cH m k=some c/\m.find? (λp=>decide (k=p.1))=some (k,x)/\oe M y x/\∃en,es[c]? =some en/\en.key=KV.enc k
   |none=>cH m k=none/\m.find? (λp=>decide (k=p.1))=none):=by
  intro es
  induction es with
  |nil=>intro m a he;cases m with
   |nil=>exact⟨none,rfl,rfl,rfl⟩
   |cons p m=>exact he.elim
  |cons en es ih=>
   intro m a he
   cases m with
   |nil=>exact he.elim
   |cons p m=>
    obtain⟨h1,h2,h3⟩:=he;obtain⟨p1,p2⟩:=p;simp only at h1 h2;rw[Instr.findAsking];simp only[aK,h1,hK.eq,aN]
    by_cases e:k=p1
    ·subst e;refine⟨some (a,en.val),by simp[aP],0,p2,rfl,?_,?_,h2,en,rfl,h1⟩
     ·simp[cH,List.findIdx?_cons]
     ·simp
    ·obtain⟨o,ho,hs⟩:=ih m (a+1) h3;refine⟨o,by grind,?_⟩
     cases o with
     |none=>
      obtain⟨s1,s2⟩:=hs;refine⟨?_,?_⟩
      ·simp only[cH,List.findIdx?_cons,bJ e]at s1 ⊢;simpa using s1
      ·simpa[List.find?_cons,bJ e]using s2
     |some by_=>
      obtain⟨b,y⟩:=by_;obtain⟨c,x,hb,s1,s2,s3,en',s4,s5⟩:=hs;refine⟨c+1,x,by omega,?_,?_,s3,en',by grind,s5⟩
      ·simp only[cH,List.findIdx?_cons,bJ e]at s1 ⊢;simp[s1]
      ·simpa[List.find?_cons,bJ e]using s2
 have asked:∃o,(Instr.findAsking kt (KV.enc k) es).run P w = .ok o w/\
   (match o with
   |some (b,y)=>∃x,cH m k=some b/\m.find? (λp=>decide (k=p.1))=some (k,x)/\oe M y x/\∃en,es[b]? =some en/\en.key=KV.enc k
   |none=>cH m k=none/\m.find? (λp=>decide (k=p.1))=none):=by
  obtain⟨o,ho,hs⟩:=ask es m 0 he;refine⟨o,ho,?_⟩
  cases o with
  |none=>exact hs
  |some by_=>
   obtain⟨b,y⟩:=by_;obtain⟨c,x,hb,rest⟩:=hs;rw[fM]at hb;subst hb;exact⟨x,rest⟩
 unfold Instr.findKey
 rcases hK.now with hnow|⟨D,hD,hno⟩
 ·obtain⟨D,hD,_⟩:=hnow k k;have hnow':∀a b:κ,Instr.sameNow D (KV.enc a) (KV.enc b)=some (decide<|a=b):=λa b=>by
   simp_all
  have fn:∀(es:List MapEntry)(m:List (κ×ν))(a:Nat),ix M es m->∃o,Instr.findNow D (KV.enc k) es a=some o/\
    (match o with
    |some (b,y)=>∃c x,b=a+c/\cH m k=some c/\m.find? (λp=>decide (k=p.1))=some (k,x)/\oe M y x/\∃en,es[c]? =some en/\en.key=KV.enc k
    |none=>cH m k=none/\m.find? (λp=>decide (k=p.1))=none):=by
   intro es
   induction es with
   |nil=>intro m a he;cases m with
    |nil=>exact⟨none,rfl,rfl,rfl⟩
    |cons p m=>exact he.elim
   |cons en es ih=>
    intro m a he
    cases m with
    |nil=>exact he.elim
    |cons p m=>
     obtain⟨h1,h2,h3⟩:=he;obtain⟨p1,p2⟩:=p;simp only at h1 h2;rw[Instr.findNow,h1,hnow']
     by_cases e:k=p1
     ·subst e;refine⟨some (a,en.val),by simp,0,p2,rfl,?_,?_,h2,en,rfl,h1⟩
      ·simp[cH,List.findIdx?_cons]
      ·simp
     ·obtain⟨o,ho,hs⟩:=ih m (a+1) h3;refine⟨o,by grind,?_⟩
      cases o with
      |none=>
       obtain⟨s1,s2⟩:=hs;refine⟨?_,?_⟩
       ·simp only[cH,List.findIdx?_cons,bJ e]at s1 ⊢;simpa using s1
       ·simpa[List.find?_cons,bJ e]using s2
      |some by_=>
       obtain⟨b,y⟩:=by_;obtain⟨c,x,hb,s1,s2,s3,en',s4,s5⟩:=hs;refine⟨c+1,x,by omega,?_,?_,s3,en',by grind,s5⟩
       ·simp only[cH,List.findIdx?_cons,bJ e]at s1 ⊢;simp[s1]
       ·simpa[List.find?_cons,bJ e]using s2
  obtain⟨o,ho,hs⟩:=fn es m 0 he
  simp_all[aK,run_underlying,aN,aP,fM]
 ·cases es with
  |nil=>
   cases m with
   |nil=>exact⟨none,by simp_all[run_underlying,Instr.findNow],rfl,rfl⟩
   |cons p m=>exact he.elim
  |cons en es=>
   obtain⟨o,ho,hs⟩:=asked;refine⟨o,?_,hs⟩
   cases m with
   |nil=>exact he.elim
   |cons p m=>
    have:Instr.findNow D (KV.enc k) (en::es) 0=none:=by rw[Instr.findNow,he.1,hno]
    simp only[aK,run_underlying hD,aN,this,ho]
theorem wy(m:List (κ×ν))(k:κ)(z:ν):bV m k z=match m.find? (λp=>decide<|k=p.1)with|some p=>p.2|none=>z:=rfl
theorem wz(m:List (κ×ν))(k:κ):fB m k=(m.find?<|λp=>decide<|k=p.1).isSome:=by
 unfold fB
 grind
theorem qT(hT:P.underlying T=some (.map kt et))(hK:nY P kt κ)(hz:∃inf z,P.info? et=some inf/\inf.zero=some z/\∀M,oe M z z0)
  (hw:Holds E w V) (hi:V[i]? =some (mp v m)) (ok:Bool):
  ∃y,(Instr.lookup T v (KV.enc k) ok).run P w = .ok (if ok then .tuple #[y, .bool<|fB m k]else y) w/\Holds E w (rd y (bV m k z0)::V):=by
 obtain⟨M,hs,gd⟩:=hw;obtain⟨r,es,clock,rfl,⟨he,hst⟩,hh⟩:=gd.sat i _ hi;have hb:=gd.le i r _ (bE hi) (by rw[hh];exact bL r _);obtain⟨o,ho,hs'⟩:=run_findKey hK M he w (k:=k);obtain⟨inf,z,hin,hzz,hzr⟩:=hz
 cases o with
 |none=>
  obtain⟨h1,h2⟩:=hs';refine⟨z,?_,Holds.qK ⟨M,hs,gd⟩ λM' hs' gd'=>⟨?_,rfl⟩⟩
  ·simp[Instr.lookup,run_underlying hT,MapKept.run_getObj_map hb,hK.AZ,ho,Result.andThen,zeroValue,typeInfo,hin,hzz,wz,h2,program,Sem.run]
  grind [wy]
 |some ay=>
  obtain⟨a,y⟩:=ay;obtain⟨x,h1,h2,h3,_⟩:=hs';refine⟨y,?_,⟨M,uc kL hs,gd.dH ⟨?_,rfl⟩⟩⟩
  ·simp[Instr.lookup,run_underlying hT,MapKept.run_getObj_map hb,hK.AZ,ho,Result.andThen,wz,h2]
  grind [wy]
omit [DecidableEq κ]in
theorem mT(j:Nat)(hw:Holds E w V)(hj:V[j]? =some (rd kv k)):kv=KV.enc k:=by
 obtain⟨M,hs,gd⟩:=hw;exact KV.Bb (gd.sat j _ hj).1
structure oS (P:Program) (T kt et:TypeId) (κ ν:Type) [GT κ] [KV κ] [DecidableEq κ] [GT ν] (z0:ν):Prop where
 rY:P.underlying T=some (.map kt et)
 key:nY P kt κ
 zero:∃inf z,P.info? et=some inf/\inf.zero=some z/\∀M,oe M z z0
theorem FL(hg:Wn ops U g)(hd:Nat.blt d n=true)(hw:Holds E w V)(hx:ev U q=v)(hk:ev U qk=KV.enc k)(hi:V[i]? =some (mp v m))(hT:oS P T kt et κ ν z0)
  (kk:∀y,Holds E w (rd y (bV m k z0)::V)->RL P n ops rest (cD U d<|.tuple #[y, .bool<|fB m k]) w Q):RL P n ops (⟨some d, .lookup T q qk true,ty,pos,af,g⟩::rest) U w Q:=by
 obtain⟨y,hr,hh⟩:=qT hT.rY hT.key hT.zero hw hi true (k:=k);refine B_ hg hd ?_<|kk y hh
 grind [execOp,aK,aN,aP]
theorem FM(hg:Wn ops U g)(hd:Nat.blt d n=true)(hw:Holds E w V)(hx:ev U q=v)(hk:ev U qk=KV.enc k)(hi:V[i]? =some (mp v m))(hT:oS P T kt et κ ν z0)
  (kk:∀y,Holds E w (rd y (bV m k z0)::V)->RL P n ops rest (cD U d y) w Q):RL P n ops (⟨some d, .lookup T q qk false,ty,pos,af,g⟩::rest) U w Q:=by
 obtain⟨y,hr,hh⟩:=qT hT.rY hT.key hT.zero hw hi false (k:=k);refine B_ hg hd ?_<|kk y hh
 grind [execOp,aK,aN,aP,Bool.false_eq_true]
theorem FZ [KV ν](i:Nat)(k:κ)(hg:Wn ops U g)(hd:Nat.blt d n=true)(hw:Holds E w V)(hx:ev U q=v)(hk:ev U qk=KV.enc k)(hi:V[i]? =some (mp v m))(hT:oS P T kt et κ ν z0)(kk:RL P n ops rest (cD U d<|.tuple #[KV.enc<|bV m k z0, .bool<|fB m k]) w Q):RL P n ops (⟨some d, .lookup T q qk true,ty,pos,af,g⟩::rest) U w Q:=
 FL hg hd hw hx hk hi hT λy hh=>by have:=mT 0 hh rfl;rw[this];exact kk
theorem Fy [KV ν](i:Nat)(k:κ)(hg:Wn ops U g)(hd:Nat.blt d n=true)(hw:Holds E w V)(hx:ev U q=v)(hk:ev U qk=KV.enc k)(hi:V[i]? =some (mp v m))(hT:oS P T kt et κ ν z0)(kk:RL P n ops rest (cD U d<|KV.enc<|bV m k z0) w Q):RL P n ops (⟨some d, .lookup T q qk false,ty,pos,af,g⟩::rest) U w Q:=
 FM hg hd hw hx hk hi hT λy hh=>by have:=mT 0 hh rfl;rw[this];exact kk
theorem E0(hw:Holds E w V)(kk:∀v w',Holds E w' (mp v ([]:List (κ×ν))::V)->RL P n ops rest (cD U d v) w' Q)(hg:Wn ops U g:=by exact trivial)(hd:Nat.blt d n=true:=by exact rfl):RL P n ops (⟨some d, .makeMap T none,ty,pos,af,g⟩::rest) U w Q:=by
 refine B_ (v:= .map<|some w.heap.size) (w':=w.alloc<|.map #[] 0) hg hd ?_<|kk _ _<|hw.alloc _ λM hs gd=>⟨w.heap.size,#[],0,rfl,⟨trivial,by simp[zm]⟩,rfl⟩
 rfl
theorem ix.len{M:bX}:∀{es:List MapEntry}{m:List (κ×ν)},ix M es m->es.length=m.length
 | [],[],_=>rfl
 |_::_,_::_,⟨_,_,h3⟩=>congrArg (· +1) (ix.len h3)
 | [],_::_,h=>h.elim
 |_::_,[],h=>h.elim
theorem p9{M:bX}{hs:Nat->bX}{P':HP}{b c c':Nat}{es es':Array MapEntry}{Pi:HP}(gd:Good E w M hs V)(hi:V[i]? =some Pi)(hh:hs i=Gk.one b (.map es c))
  (hp:P'.ok M (Gk.one b<|.map es' c')):Holds E {w with heap:=w.heap.setIfInBounds b<|.map es' c'} (V.set i P'):=by
 have hb:=gd.le i b _ (bE hi) (by rw[hh];exact bL b _);refine⟨M,_,gd.update (bE hi) (Gk.one b<|.map es' c') hp rfl rfl rfl (λb' o' hb'=>?_) (λb' o' hb'=>?_)<|λb' hb' _=>?_⟩
 ·grind [eU,MapKept.heap_set]
 ·obtain⟨rfl,rfl⟩:=eU hb';simp_all[bL]
 ·rw[hh]at hb'
  grind [MapKept.heap_set,bL]
theorem ix.push{M:bX}{en:MapEntry}:∀{es:List MapEntry}{m:List (κ×ν)},ix M es m->cH m k=none->en.key=KV.enc k->oe M en.val x->ix M (es++[en]) (dG m k x)
 | [],[],_,_,h1,h2=>⟨h1,h2,trivial⟩
 |e::es,p::m,⟨a1,a2,a3⟩,hf,h1,h2=>by
  have hne:¬k=p.1:=λe=>by simp[cH,List.findIdx?_cons,e]at hf
  have hf':cH m k=none:=by simp only[cH,List.findIdx?_cons,bJ hne]at hf ⊢;simpa using hf
  show ix M (e::(es++[en])) _;unfold dG;rw[aH hne];exact⟨a1,a2,ix.push a3 hf' h1 h2⟩
 | [],_::_,h,_,_,_=>h.elim
 |_::_,[],h,_,_,_=>h.elim
theorem ix.modify{M:bX}{f:MapEntry->MapEntry}(h1:∀e,(f e).key=KV.enc k)(h2:∀e,oe M (f e).val x):∀{es:List MapEntry}{m:List (κ×ν)}{a:Nat},ix M es m->cH m k=some a->ix M (es.modify a f) (dG m k x)
 | [],[],_,_,hf=>by simp[cH]at hf
 |e::es,p::m,a,⟨a1,a2,a3⟩,hf=>by
  unfold dG
  by_cases hk:k=p.1
  ·have ha:a=0:=by simp[cH,List.findIdx?_cons,hk]at hf;omega
   subst ha;rw[aG hk];exact⟨h1 e,h2 e,a3⟩
  ·rw[aH hk];simp only[cH,List.findIdx?_cons,bJ hk,Bool.false_eq_true,if_false,Option.map_eq_some_iff]at hf;obtain⟨a',hf',rfl⟩:=hf;exact⟨a1,a2,ix.modify h1 h2 a3 hf'⟩
 | [],_::_,_,h,_=>h.elim
 |_::_,[],_,h,_=>h.elim
theorem E3(i j:Nat)(k:κ)(hw:Holds E w V)(hx:ev U q=v)(hk:ev U qk=KV.enc k)(hv:ev U qv=u)(hi:V[i]? =some (mp v m))(hj:V[j]? =some (rd u x))(hT:oS P T kt et κ ν z0)(kk:∀w',Holds E w' (V.set i<|mp v<|dG m k x)->RL P n ops rest U w' Q)(hg:Wn ops U g:=by exact trivial):RL P n ops (⟨none, .mapUpdate T q qk qv,ty,pos,af,g⟩::rest) U w Q:=by
 obtain⟨M,hs,gd⟩:=hw;obtain⟨r,es,clock,rfl,⟨he,hst⟩,hh⟩:=gd.sat i _ hi;have hu:=(gd.sat j _ hj).1;have hb:=gd.le i r _ (bE hi) (by rw[hh];exact bL r _);obtain⟨o,ho,hs'⟩:=run_findKey hT.key M he w (k:=k)
 cases o with
 |none=>
  refine E6 hg ?_<|kk _<|p9 gd hi hh (es':=es.push {key:=KV.enc k,val:=u,born:=clock}) (c':=clock+1) ⟨r,_,_,rfl,⟨?_,by rw[Array.toList_push];exact hst.push k x rfl⟩,rfl⟩
  ·simp[execOp,hx,hk,hv,Instr.mapUpdate,run_underlying hT.rY,MapKept.run_getObj_map hb,hT.key.AZ,ho,MapKept.run_setObj_map _ hb]
  grind [Array.toList_push,ix.push]
 |some ay=>
  obtain⟨a,y⟩:=ay;obtain⟨x',h1,h2,h3,en,h4,h5⟩:=hs';have h4':es[a]? =some en:=by grind
  have hstay:(Instr.keyThatStays (KV.enc k)<|KV.enc k).run P w = .ok (KV.enc k) w:=by simp[Instr.keyThatStays,hT.key.bits]
  refine E6 hg ?_<|kk _<|p9 gd hi hh (es':=es.modify a λe=>{e with key:=KV.enc k,val:=u}) (c':=clock) ⟨r,_,_,rfl,⟨?_,by rw[Array.toList_modify];exact hst.modify k x (f:=λe=>{e with key:=KV.enc k,val:=u}) (λ_=>rfl) a⟩,rfl⟩
  ·simp[execOp,hx,hk,hv,Instr.mapUpdate,run_underlying hT.rY,MapKept.run_getObj_map hb,hT.key.AZ,ho,MapKept.run_setObj_map _ hb,h4',h5,hstay]
  simp_all[Array.toList_modify,ix.modify]
end
@[reducible] def instKVvia{α β:Type}[GT β][KV β](f:α->β): @KV α (GT.via f):= @KV.mk α (GT.via f) (λx=>KV.cs<|f x) (λh=>KV.spec h)<|λM x=>KV.ok M<|f x
theorem nY.str{P:Program}{kt:TypeId}(h:P.underlying kt=some .string):nY P kt aL where
 AZ b k w:=MapKept.run_checkKey h (k:=Gk.str k) trivial b 9999
 eq a b w:=ox (d:=9999) h a b w
 now:= .inl λa b=>⟨_,h,by show some ((⟨a.aU.toArray⟩:ByteArray)==⟨b.aU.toArray⟩)=_;rw[wv]⟩
 bits a:=MapKept.sameBits_self (d:= .string) (k:=Gk.str a) trivial _
theorem nY.int{P:Program}{kt:TypeId}(h:P.underlying kt=some (.int .i64)):nY P kt Int where
 AZ b k w:=MapKept.run_checkKey h (k:= .int .i64 k) rfl b 9999
 eq a b w:=(vC (d:=9999) h a b w).trans (by rfl)
 now:= .inl λa b=>⟨_,h,by rfl⟩
 bits a:=MapKept.sameBits_self (d:= .int .i64) (k:= .int .i64 a) rfl _
inductive z6 (P:Program) (n:Nat) (xs:Array Value):List Field->Prop
 |nil:z6 P n xs []
 |cons {f:Field} {l:List Field} {x:Value} (hn:f.name≠ "_") (hx:∀w,(part f.type xs f.offset).run P w = .ok x w) (hc:∀b w,(Instr.checkKey b n f.type x).run P w = .ok () w) (h:z6 P n xs l):z6 P n xs (f::l)
theorem nZ{P:Program}{T:TypeId}{fs:Array Field}{xs:Array Value}{n:Nat}(hu:P.underlying T=some (.struct fs))(h:z6 P n xs fs.toList)(b:Bool)(w:World):
  (Instr.checkKey b (n+1) T<|.agg xs).run P w = .ok () w:=by
 obtain⟨l⟩:=fs;rw[Instr.checkKey];simp only[aK,run_underlying hu,aN,List.forIn_toArray];simp only at h;clear hu
 induction h with
 |nil=>simp
 | @cons f l x hn hx hc h ih=>
  simp only[List.forIn_cons,hn,ne_eq,not_false_eq_true,if_true,aK,hx,hc,aN,aP]
  simp_all
theorem xY{n:Nat}{cs:List Value}(h:∀x∈cs,Instr.sameBits n x x=true):Instr.sameBits (n+1) (.agg cs.toArray) (.agg cs.toArray)=true:=by
 rw[Instr.sameBits];simp only[beq_self_eq_true,Bool.true_and,gD];intro p hp;have:∀(l:List Value)(p:Value×Value),p∈l.zip l->p.1=p.2/\p.1∈l:=by
  intro l
  induction l with
  |nil=>simp
  |cons a l ih=>
   grind [List.zip_cons_cons]
 grind
theorem nY.struct{κ:Type}[GT κ][KV κ][DecidableEq κ]{P:Program}{T:TypeId}{fs:Array Field}(hu:P.underlying T=some (.struct fs))(hag:GT.agg κ=true)(hE:B8 P T κ)
  (hc:∀k:κ,z6 P 9999 (KV.cs k).toArray fs.toList) (hb:∀(k:κ),∀x∈KV.cs k,Instr.sameBits 9999 x x=true):nY P T κ:=by
 have he:∀k:κ,KV.enc k = .agg (KV.cs k).toArray:=λk=>by grind [KV.enc,mJ]
 refine⟨λb k w=>?_,λa b w=>?_, .inr ⟨_,hu,λa b=>?_⟩,λa=>?_⟩
 ·grind [nZ]
 ·exact hE.eq kL _ _ a b w (KV.ok kL a)<|KV.ok kL b
 ·rfl
 grind [xY]
theorem l4{ν:Type}[GT ν]{P:Program}{et:TypeId}(Z:Value){z0:ν}(hz:∀M,oe M Z z0)(h:(P.info? et).bind (·.zero)=some Z:=by kernel_rfl):∃inf z,P.info? et=some inf/\inf.zero=some z/\∀M,oe M z z0:=by
 cases e:P.info? et with
 |none=>grind
 |some inf=>grind
theorem Ar.of{α:Type}[GT α]{P:Program}{e:TypeId}(Z:Value){z0:α}(hz:∀M,GT.ok M Z.cells.toList z0)(h:(P.info? e).bind (·.zero)=some Z:=by kernel_rfl):Ar P e z0:=λM z hh=>by
 rw[h]at hh;injection hh with hh;subst hh;exact hz M
section
variable {P:Program}{n:Nat}{U:Nat->Value}{w:World}{Q:dL}{ops:Array Oper}{rest:List Oper}{d:Nat}{ty t u:TypeId}{pos:String}{af:Array Edge}{g:Option (Nat×Bool)}{q r:Operand}{K:IntKind}{a b:Int}
theorem Fz(a b:Int)(hd:Nat.blt d n=true)(hx:ev U q = .int K a)(hy:ev U r = .int K b)(kk:RL P n ops rest (cD U d<|.int K (if b<a then b else a)) w Q)(hg:Wn ops U g:=by exact trivial):
  RL P n ops (⟨some d, .call ⟨.builtin .min,#[q,r],#[t,u]⟩,ty,pos,af,g⟩::rest) U w Q:=by
 refine B_ hg hd ?_ kk;simp[execOp,resolve,hx,hy,invoke,builtin,Builtin.min_,Builtin.min2]
theorem Fp{f:Fn}{args:Array Operand}(hd:Nat.blt d n=true)(vs:List Value)(hvs:args.toList.map (ev U)=vs)(kk:RL P n ops rest (cD U d<|.func f #[] vs.toArray) w Q)(hg:Wn ops U g:=by exact trivial):RL P n ops (⟨some d, .makeFunc f #[] args,ty,pos,af,g⟩::rest) U w Q:=by
 have e:args.map (ev U)=vs.toArray:=by grind
 refine B_ hg hd ?_ kk
 simp_all[execOp,Instr.makeFunc]
end
@[reducible] def vi(n:Int):Value:= .int .i64 n
@[reducible] def vb(b:Bool):Value:= .bool b
@[reducible] def vp(b o:Nat):Value:= .pointer<|some ⟨b,o,none⟩
section
variable {P:Program}{n:Nat}{U:Nat->Value}{w:World}{Q:dL}{y:Code}{ops:Array Oper}{rest:List Oper}{d:Nat}{ty T T':TypeId}{pos:String}{af:Array Edge}{q r:Operand}{K:IntKind}{id:Nat}{l:List Oper}
theorem mv(v:Value)(k:RL P n ops rest (cD U d v) w Q)(hd:Nat.blt d n=true:=by exact rfl)(hx:ev U q=v:=by exact rfl):RL P n ops (⟨some d, .move q,ty,pos,af,none⟩::rest) U w Q:=D_ (hd:=hd) (hx:=hx) _ trivial k
theorem ke(v:Value)(k:RL P n ops rest (cD U d v) w Q)(hd:Nat.blt d n=true:=by exact rfl)(hx:ev U q=v:=by exact rfl):RL P n ops (⟨some d, .assign q,ty,pos,af,none⟩::rest) U w Q:=FT trivial hd hx k
theorem ic{bop:BinOp}(a b:Int)(k:RL P n ops rest (cD U d<|.bool<|j5 bop a b) w Q)(hd:Nat.blt d n=true:=by exact rfl)(hx:ev U q = .int K a:=by exact rfl)(hy:ev U r = .int K b:=by exact rfl)(hc:og bop=true:=by exact rfl):
  RL P n ops (⟨some d, .binOp bop T q r T',ty,pos,af,none⟩::rest) U w Q:=EJ (hd:=hd) (hx:=hx) (hy:=hy) (hc:=hc) _ _ trivial k
theorem sk{op:Op}{j t:Nat}{b:Bool}(ht:(ops[j]?).bind (·.dst)=some t)(hv:U t = .bool (!b)\/U t=undef)(hd:Nat.blt d n=true)
  (k:RL P n ops rest (cD U d undef) w Q):RL P n ops (⟨some d,op,ty,pos,af,some (j,b)⟩::rest) U w Q:=FD ht hv hd k
theorem cb{a b:Bool}(h:a=b):Value.bool a = .bool b:=by rw[h]
theorem r_(h:RL P n l.toArray l U w (ir P n y Q)):RC P n (.seq (.region id l.toArray false) y) U w Q:=A_<|AI h
theorem s_(h:RC P n y U w Q):RL P n ops [] U w (ir P n y Q):=w_<|aI h
theorem v_{z:Code}(h:RL P n l.toArray l U w (ir P n z Q)):RL P n ops [] U w (ir P n (.seq (.region id l.toArray false) z) Q):=s_<|r_ h
theorem x_{z:Code}(h:RC P n y U w (ir P n z Q)):RL P n ops [] U w (ir P n (.seq y z) Q):=s_<|A_ h
theorem Eg(h:Q .ret U w):RC P n .ret U w (ir P n y Q):=AS<|aR h
theorem Ek(h:Q .ret U w):RC P n .ret U w (pq id Q):=AS<|cR h
theorem EY(h:RC P n y U w Q):RC P n .skip U w (ir P n y Q):=Et<|aI h
theorem El{z:Code}(h:RC P n y U w (ir P n z Q)):RC P n .skip U w (ir P n (.seq y z) Q):=EY<|A_ h
theorem EE{z:Code}(h:RL P n l.toArray l U w (ir P n z Q)):RC P n .skip U w (ir P n (.seq (.region id l.toArray false) z) Q):=EY<|r_ h
theorem ET{i:Nat}(h:Q (.exit i) U w):RC P n (.exit i) U w (ir P n y Q):=F_<|zj h
theorem Eh{b:Nat}(h:RL P n l.toArray l U w (ir P n y<|pq b Q)):RC P n (.block b<|.seq (.region id l.toArray false) y) U w Q:=Fi<|r_ h
theorem ac{d:Nat}{v:Value}{l:List (Nat×Value)}(h:U d=v)(hl:agree U l):agree U ((d,v)::l):=⟨h,hl⟩
theorem oi{α:Type}{a b:α}(h:some a=some b):a=b:=by injection h
end
def bc(e:TypeId)(g:Nat)(vs:List Value):HP:=⟨λ_ h=>(∀v∈vs,v.oneCell'=true)/\h=Gk.one g (.cells vs.toArray e (0,0)),λ_ h=>h⟩
def D0{α:Type}[GT α](vs:List Value)(x:α):HP:=⟨λM h=>GT.ok M vs x/\h=kL,λk⟨a,b⟩=>⟨GT.mono k a,b⟩⟩
structure DN (P:Program) (T:TypeId) (zs:List Value):Prop where
 z:∃z,(∀w,(zeroValue T).run P w = .ok z w)/\z.cells=zs.toArray
section
variable {α β:Type}[GT α][GT β]{E w:World}{V:List HP}{i j:Nat}{v:Value}{x:α}{e e':TypeId}{b:Nat}{vs:List Value}
theorem l5{l:List α}(i:Nat)(h:Holds E w V)(hi:V[i]? =some (own e v l):=by exact rfl):v.oneCell'=true:=by
 obtain⟨M,hs,g⟩:=h;exact xU<|g.sat i _ hi
theorem wA{l:List α}(i:Nat)(h:Holds E w V)(hi:V[i]? =some (rd v l)):v.oneCell'=true:=by
 obtain⟨a,cap,rfl⟩:=h.slice hi;rfl
theorem Holds.lz{cs:List Value}{k:Nat}{f:α->β}(h:Holds E w V)(hi:V[i]? =some (D0 cs x))(hF:Fd k f)(hv:cs[k]? =some v)(hs:GT.sz β=1)(ha:GT.agg β=false):Holds E w (rd v (f x)::V):=by
 obtain⟨M,hs',g⟩:=h;obtain⟨ho,_⟩:=g.sat i _ hi;refine⟨M,_,g.dH ⟨?_,rfl⟩⟩;have h1:=hF M cs x ho;obtain⟨hlt,rfl⟩:=bG.1 hv;have h2:(cs.drop k).take (GT.sz β)= [cs[k]]:=by
  grind [List.drop_eq_getElem_cons]
 rw[h2]at h1;refine⟨_,?_,h1⟩
 grind [mJ]
theorem Holds.xZ(h:Holds E w V)(hi:V[i]? =some (bc e b vs))(ho:∀M hs,Good E w M hs V->GT.ok M vs x):Holds E w (V.set i<|bx e b x):=by
 obtain⟨M,hs,g⟩:=h;obtain⟨_,hh⟩:=g.sat i _ hi;have hlt:=bE hi;refine⟨M,hs,g.os,g.tape,g.out,g.dr,g.im,λk Q hq=>?_,λk b o hk=>g.le k b o (by grind),λk b o hk=>g.dm k b o (by grind),λk l b o hk hl=>g.dj k l b o (by grind) (by grind)⟩;rw[fT]at hq;split at hq
 ·rename_i e1;subst e1;simp[hlt]at hq;subst hq;exact⟨vs,ho M hs g,hh⟩
 ·exact g.sat k Q hq
theorem la{M:bX}(h:oe M v x)(ha:GT.agg α=false:=by exact rfl):GT.ok M [v] x:=by
 obtain⟨cs,rfl,ho⟩:=h;have hl:=GT.len ho;rw[GT.ag1 ha]at hl
 match cs,hl with
 | [c],_=>grind [mJ]
end
section
variable {P:Program}{n:Nat}{U:Nat->Value}{w:World}{Q:dL}{E:World}{V:List HP}{i j:Nat}
variable {ops:Array Oper}{rest:List Oper}{d:Nat}{ty T T' e:TypeId}{pos:String}{af:Array Edge}{g:Option (Nat×Bool)}{v v':Value}{q r:Operand}{b m:Nat}{vs:List Value}
theorem Ez(i:Nat)(v:Value)(hw:Holds E w V)(hT:je P T false 1)(k:RL P n ops rest (cD U d v) w Q)(hg:Wn ops U g:=by exact trivial)(hd:Nat.blt d n=true:=by exact rfl)(hx:ev U q = .pointer (some ⟨b,m,none⟩):=by exact rfl)(hi:V[i]? =some (bc e b vs):=by exact rfl)(hv:vs[m]? =some v:=by exact rfl):RL P n ops (⟨some d, .load T q,ty,pos,af,g⟩::rest) U w Q:=by
 obtain⟨M,hs,gd⟩:=hw;obtain⟨_,hh⟩:=gd.sat i _ hi;have hb:=gd.le i b _ (bE hi) (by rw[hh];exact bL b _);have hc:w.cell? ⟨b,m,none⟩=some v:=by rw[cell_of_row w b _ _ _ _ hb];grind
 refine B_ (v:=v) hg hd ?_ k;simp[execOp,hx,Instr.loadAt,Instr.sureAddr,loadVar,hT.zb,load,Sem.run,hc]
theorem Fq(i:Nat)(v:Value)(hw:Holds E w V)(hx:ev U q = .pointer (some ⟨b,m,none⟩))(hy:ev U r=v)(hi:V[i]? =some (bc e b vs))(hv:vs[m]? =some v')(h1:v.oneCell'=true)(hT:je P T false 1)(k:∀w',Holds E w' (V.set i<|bc e b<|vs.set m v)->RL P n ops rest U w' Q)(hg:Wn ops U g:=by exact trivial):RL P n ops (⟨none, .store T q r,ty,pos,af,g⟩::rest) U w Q:=by
 obtain⟨M,hs,gd⟩:=hw;obtain⟨hone,hh⟩:=gd.sat i _ hi;have hlt:=(bG.1 hv).1;have hb:=gd.le i b _ (bE hi) (by rw[hh];exact bL b _);have hcv:v.cells = #[v]:=by cases v <;> first|rfl|(cases h1)
 have hrun:=iT (P:=P) (v:=v) (o:=m) hT.sz (by rw[hcv];rfl) (by grind) hb (by simp;omega);have hl:(vs.toArray.toList.take m++v.cells.toList++vs.toArray.toList.drop (m+1)).toArray=(vs.set m v).toArray:=by
  grind [List.set_eq_take_append_cons_drop]
 rw[hl]at hrun;refine E6 (w':=w.setRow b (vs.set m v).toArray) hg ?_<|k _<|iJ gd hi hh ⟨λu hu=>?_,rfl⟩
 ·simp_all[execOp,Instr.storeAt,Instr.sureAddr,aK,aP,aN]
 grind
theorem Gi{zs:List Value}(hg:Wn ops U g)(hd:Nat.blt d n=true)(hw:Holds E w V)(hz:DN P T zs)(h1:zs.all (·.oneCell')=true)
  (k:∀b w',Holds E w' (bc T b zs::V)->RL P n ops rest (cD U d<|.pointer<|some ⟨b,0,none⟩) w' Q):RL P n ops (⟨some d, .alloc T,ty,pos,af,g⟩::rest) U w Q:=by
 obtain⟨z,hz,hs⟩:=hz.z;refine B_ (w':=w.alloc<|.cells z.cells T) hg hd ?_<|k w.heap.size _<|hw.alloc _ λ_ _ _=>⟨λv hv=>gD.1 h1 v hv,by rw[hs]⟩
 simp only[execOp,Instr.alloc,newVar,newRow,newObj,aK,aP,hz,aN];rfl
theorem EG{a:Addr}(hg:Wn ops U g)(hd:Nat.blt d n=true)(hx:ev U q = .pointer (some a))(k:RL P n ops rest (cD U d<|.pointer<|some a) w Q):RL P n ops (⟨some d, .nilCheck q,ty,pos,af,g⟩::rest) U w Q:=by
 refine B_ hg hd ?_ k
 simp_all[execOp]
end
structure D1 where
 n:Int
 deriving DecidableEq,Inhabited
instance:Sc D1:=⟨λx=> .int .i32 x.n,λ_=>rfl⟩
def bs(s:aL):ByteArray:=⟨s.aU.toArray⟩
def it(g:Nat)(s:aL)(p:Nat):HP:=⟨λ_ h=>h=Gk.one g (.stringIter (bs s) p),λ_ h=>h⟩
section
variable {P:Program}{n:Nat}{U:Nat->Value}{w:World}{Q:dL}{E:World}{V:List HP}{i j:Nat}
variable {ops:Array Oper}{rest:List Oper}{d:Nat}{ty T:TypeId}{pos:String}{af:Array Edge}{g:Option (Nat×Bool)}{q:Operand}{b p:Nat}{s:aL}
end
def uv(places:List (Nat×Nat)):List Value->List (Nat×Value)->Option (List Value)
 |z,[]=>some z
 |z,(i,v)::rest=>match places[i]? with
  |some (o,1)=>if Nat.blt o z.length=true then uv places (z.set o v) rest else none
  |_=>none
def As:List (Nat×Value)->Prop
 | []=>True
 |(_,v)::l=>v.oneCell'=true/\As l
theorem uw{places:List (Nat×Nat)}:∀{vs:List (Nat×Value)}{z cs:List Value},As vs->uv places z vs=some cs->Instr.fill (places.toArray[·]?) z.toArray vs=some cs.toArray
 | [],z,cs,_,h=>by
  unfold uv at h;injection h with h;subst h;rfl
 |(i,v)::rest,z,cs,h1,h=>by
  unfold uv at h;unfold Instr.fill;have hc:v.cells = #[v]:=by have:=h1.1;cases v <;> first|rfl|(cases this)
  split at h
  ·rename_i o he;split at h
   ·rename_i hlt;have hlt':o<z.length:=Nat.blt_eq▸hlt;have hp:places.toArray[i]?=some (o,1):=by simpa using he
    simp only[hp,hc];rw[aH (by simp;omega)];have:=uw h1.2 h;simpa using this
   ·cases h
  ·cases h
section
variable {P:Program}{n:Nat}{U:Nat->Value}{w:World}{Q:dL}{E:World}{V:List HP}{i j:Nat}
variable {ops:Array Oper}{rest:List Oper}{d:Nat}{ty T e:TypeId}{pos:String}{af:Array Edge}{g:Option (Nat×Bool)}{q r:Operand}{b m:Nat}{vs cs zs:List Value}
theorem Fe{parts:Array (Nat×Operand)}{places:List (Nat×Nat)}(zs cs:List Value)(vs:List (Nat×Value))(hT:sf P T places zs.toArray)(h1:As vs)(k:RL P n ops rest (cD U d<|.agg cs.toArray) w Q)(hg:Wn ops U g:=by exact trivial)(hd:Nat.blt d n=true:=by exact rfl)(hvs:parts.toList.map (λp=>(p.1,ev U p.2))=vs:=by exact rfl)(hf:uv places zs vs=some cs:=by exact rfl):RL P n ops (⟨some d, .build T parts,ty,pos,af,g⟩::rest) U w Q:=by
 have e1:parts.map (λ(i,x)=>(i,ev U x))=vs.toArray:=by grind
 refine B_ (v:= .agg cs.toArray) hg hd ?_ k;simp only[execOp,aK];rw[e1,hT.run]
 grind [uw,aN,aP]
theorem Gj(hg:Wn ops U g)(hw:Holds E w V)(hx:ev U q = .pointer (some ⟨b,0,none⟩))(hy:ev U r = .agg cs.toArray)(hi:V[i]? =some (bc e b vs))(h1:∀v∈cs,v.oneCell'=true)
  (hT:je P T true m) (hl:vs.length=m) (hc:cs.length=m) (k:∀w',Holds E w' (V.set i<|bc e b cs)->RL P n ops rest U w' Q):RL P n ops (⟨none, .store T q r,ty,pos,af,g⟩::rest) U w Q:=by
 obtain⟨M,hs,gd⟩:=hw;obtain⟨_,hh⟩:=gd.sat i _ hi;have hb:=gd.le i b _ (bE hi) (by rw[hh];exact bL b _);have hrun:=iT (P:=P) (v:= .agg cs.toArray) (o:=0) hT.sz (by grind [Value.cells]) (by grind [Value.cells]) hb (by simp[hl]);have hd:List.drop m vs= []:=List.drop_eq_nil_of_le (by omega);simp only[fM,List.take_zero,List.nil_append,hd,iQ,Array.toArray_toList,Value.cells]at hrun;refine E6 (w':=w.setRow b cs.toArray) hg ?_<|k _<|iJ gd hi hh ⟨h1,rfl⟩
 simp_all[execOp,Instr.storeAt,Instr.sureAddr,aK,aP,aN]
theorem Holds.tl{α:Type}[GT α]{x:α}(h:Holds E w V)(ho:∀M hs,Good E w M hs V->GT.ok M cs x)(ha:GT.agg α=true):Holds E w (rd (.agg cs.toArray) x::V):=
 h.qK λM hs g=>⟨⟨cs,by grind [mJ],ho M hs g⟩,rfl⟩
def ux:List Value->Prop
 | []=>True
 |v::l=>v.oneCell'=true/\ux l
theorem ux.all:∀{l:List Value},ux l->∀v∈l,v.oneCell'=true
 |v::l,h,u,hu=>by
  rcases gC.1 hu with h'|h'
  ·subst h';exact h.1
  ·exact ux.all h.2 u h'
end
section
variable {α:Type}[GT α]{P:Program}{n:Nat}{U:Nat->Value}{w:World}{Q:dL}{E:World}{V:List HP}{i j:Nat}
variable {ops:Array Oper}{rest:List Oper}{d:Nat}{ty T t u e:TypeId}{pos:String}{af:Array Edge}{g:Option (Nat×Bool)}{v:Value}{q r:Operand}{l l':List α}{z0:α}{bytes:Nat}{k:Int}
end
section
variable {P:Program}{n:Nat}{U:Nat->Value}{w:World}{Q:dL}{E:World}{V:List HP}{i j:Nat}
variable {ops:Array Oper}{rest:List Oper}{d:Nat}{ty T T' t u e:TypeId}{pos:String}{af:Array Edge}{g:Option (Nat×Bool)}{v:Value}{q r:Operand}{K:IntKind}{a b:Int}
theorem Gl(hg:Wn ops U g)(hd:Nat.blt d n=true)(hx:ev U q = .int K a)(hy:ev U r = .int K b)(kk:RL P n ops rest (cD U d<|.int K (if a<b then b else a)) w Q):
  RL P n ops (⟨some d, .call ⟨.builtin .max,#[q,r],#[t,u]⟩,ty,pos,af,g⟩::rest) U w Q:=by
 refine B_ hg hd ?_ kk;simp[execOp,resolve,hx,hy,invoke,builtin,Builtin.max_,Builtin.max2]
variable {α:Type}[GT α]{l:List α}{lo hi:Int}{x z0:α}{bytes:Nat}
end
def lA(D:Nat->Bool)(U:Nat->Value):List (Nat×Nat×Value)->Prop
 | []=>True
 |(j,d,v)::r=>(D j=false->U d=v)/\lA D U r
theorem lA.at{D:Nat->Bool}{U:Nat->Value}:∀{dv:List (Nat×Nat×Value)}(_:lA D U dv)(k:Nat){j d:Nat}{v:Value}(_:dv[k]? =some (j,d,v)),D j=false->U d=v
 | [],_,k,_,_,_,h=>by simp at h
 |(j,d,v)::r,h,0,j',d',v',e=>by simp at e;obtain⟨rfl,rfl,rfl⟩:=e;exact h.1
 |(j,d,v)::r,h,k+1,j',d',v',e=>lA.at h.2 k (by simpa using e)
theorem so{D:Nat->Bool}{i k:Nat}(h:ins D i k=false):D k=false/\Nat.beq k i=false:=by
 grind [ins,Nat.beq]
theorem lA.no{D:Nat->Bool}{U:Nat->Value}{j:Nat}:∀{dv:List (Nat×Nat×Value)}(_:lA D U dv),lA (ins D j) U dv
 | [],_=>trivial
 |(i,d,v)::r,h=>⟨λhi=>h.1 (so hi).1,lA.no h.2⟩
theorem lA.up{D:Nat->Bool}{U:Nat->Value}{j d:Nat}{v:Value}:∀{dv:List (Nat×Nat×Value)}(_:lA D U dv)(_:(dv.all λx=>Nat.beq x.1 j|| !Nat.beq x.2.1 d)=true),lA (ins D j) (cD U d v) dv
 | [],_,_=>trivial
 |(i,d',v')::r,h,ha=>by
  simp only[List.all_cons,bS,dQ,Bool.not_eq_true']at ha;refine⟨λhi=>?_,lA.up h.2 ha.2⟩;obtain⟨h1,h2⟩:=so hi
  rcases ha.1 with e|e
  ·rw[e]at h2;cases h2
  ·unfold cD;rw[e];exact h.1 h1
section
variable {E w:World}{M:bX}{hs:Nat->bX}{V:List HP}{P P1 P2:HP}{j:Nat}{h1 h2:bX}
theorem Good.split(g:Good E w M hs V)(hj:j<V.length)(hl1:∀b o,h1 b=some o->hs j b=some o)(hl2:∀b o,h2 b=some o->hs j b=some o)
  (hd:∀b o,h1 b=some o->h2 b=none) (hp1:P1.ok M h1) (hp2:P2.ok M h2):Good E w M (uc h1<|iz hs j h2) (P1::V.set j P2):=by
 have g2:Good E w M (iz hs j h2) (V.set j P2):=by
  have:=g.update (w':=w) (P':=P2) hj h2 hp2 rfl rfl rfl (λb o hb=>g.le j b o hj<|hl2 b o hb) (λb o hb=> .inl ⟨o,hl2 b o hb⟩)<|λb _ _=>rfl
  exact this
 refine g2.cons h1 hp1 (λb o hb=>g.le j b o hj<|hl1 b o hb) (λb o hb=>g.dm j b o hj<|hl1 b o hb)<|λi b o hi hb=>?_
 rw[fV]at hi;unfold iz;split
 ·grind
 ·rename_i hne;exact g.dj j i b o hj hi (λh=>hne h.symm)<|hl1 b o hb
theorem Good.join(g:Good E w M hs (P1::V))(hj:j<V.length)(hp:P.ok M (jG (hs 0)<|hs<|j+1)):
  Good E w M (iz (λi=>hs<|i+1) j<|jG (hs 0)<|hs<|j+1) (V.set j P):=by
 have hj1:j+1<(P1::V).length:=by grind
 have ho:∀b o,jG (hs 0) (hs<|j+1) b=some o->hs 0 b=some o\/hs (j+1) b=some o:=λb o hb=>by
  grind [jG]
 have h0:0<(P1::V).length:=by simp
 refine⟨g.os,g.tape,g.out,g.dr,g.im,λi Q hq=>?_,λi b o hi hb=>?_,λi b o hi hb=>?_,λi k b o hi hk hne hb=>?_⟩
 ·rw[fT]at hq;unfold iz
  by_cases e:j=i
  ·grind
  ·rw[aH e]at hq;rw[aH<|λh=>e h.symm];exact g.sat (i+1) Q (by grind)
 ·rw[fV]at hi;unfold iz at hb;split at hb
  ·rcases ho b o hb with h|h
   ·exact g.le 0 b o h0 h
   ·exact g.le (j+1) b o hj1 h
  ·exact g.le (i+1) b o (by grind) hb
 ·rw[fV]at hi;unfold iz at hb;split at hb
  ·rcases ho b o hb with h|h
   ·exact g.dm 0 b o h0 h
   ·exact g.dm (j+1) b o hj1 h
  ·exact g.dm (i+1) b o (by grind) hb
 ·rw[fV]at hi hk;have hi1:i+1<(P1::V).length:=by grind
  have hk1:k+1<(P1::V).length:=by grind
  unfold iz at hb ⊢;split at hb
  ·rename_i e;rw[aH<|λh=>hne<|e.trans h.symm]
   rcases ho b o hb with h|h
   ·exact g.dj 0 (k+1) b o h0 hk1 (by omega) h
   ·exact g.dj (j+1) (k+1) b o hj1 hk1 (by omega) h
  ·split
   ·rename_i e1 e2;have a1:=g.dj (i+1) 0 b o hi1 h0 (by omega) hb;have a2:=g.dj (i+1) (j+1) b o hi1 hj1 (by omega) hb
    grind [jG]
   ·exact g.dj (i+1) (k+1) b o hi1 hk1 (by omega) hb
end
structure RV where
 v:Value
 one:v.oneCell'=true
instance:Sc RV:=⟨RV.v,RV.one⟩
structure XT (ρ α:Type)where
 rest:ρ->α->Prop
 ok:bX->bX->ρ->α->Prop
 mono:∀{M M' h:bX}{u:ρ}{x:α},hle M M'->ok M h u x->ok M' h u x
 res:∀{M h:bX}{u:ρ}{x:α},ok M h u x->rest u x
def vr{ρ α:Type}(X:XT ρ α)(us:List ρ)(xs:List α)(k:Option Nat):HP:=
 ⟨λM h=>us.length=xs.length/\(∀(i:Nat)u x,us[i]? =some u->xs[i]? =some x->X.rest u x)/\∃c:Nat->Nat,(∀b o,h b=some o->c b<us.length/\k≠some (c b))/\
  ∀i u x,k≠some i->us[i]? =some u->xs[i]? =some x->X.ok M (λb=>if c b=i then h b else none) u x,
  λhk⟨h1,h0,c,h2,h3⟩=>⟨h1,h0,c,h2,λi u x hi hu hx=>X.mono hk (h3 i u x hi hu hx)⟩⟩
def A0{ρ α:Type}(X:XT ρ α)(u:ρ)(x:α):HP:=⟨λM h=>X.ok M h u x,λhk h=>X.mono hk h⟩
section
variable {ρ α:Type}{X:XT ρ α}{us:List ρ}{xs:List α}{E w:World}{V:List HP}{j i:Nat}{u u':ρ}{x x':α}
theorem Holds.focus(h:Holds E w V)(hj:V[j]? =some (vr X us xs none))(hu:us[i]? =some u)(hx:xs[i]? =some x):Holds E w (A0 X u x::V.set j (vr X us xs<|some i)):=by
 obtain⟨M,hs,g⟩:=h;obtain⟨hl,hr,c,hc,hok⟩:=g.sat j _ hj;refine⟨M,_,g.split (bE hj) (h1:=λb=>if c b=i then hs j b else none) (h2:=λb=>if c b=i then none else hs j b) (λb o hb=>?_) (λb o hb=>?_) (λb o hb=>?_) ?_ ?_⟩
 ·grind
 ·grind
 ·grind
 ·exact hok i u x (by simp) hu hx
 ·refine⟨hl,hr,c,λb o hb=>?_,λa u2 x2 ha hu2 hx2=>?_⟩
  ·grind
  grind
theorem Holds.zn(h:Holds E w (A0 X u' x'::V))(hj:V[j]? =some (vr X us xs<|some i))(hi:i<us.length):Holds E w (V.set j<|vr X (us.set i u') (xs.set i x') none):=by
 obtain⟨M,hs,g⟩:=h;have hlt:=bE hj;obtain⟨hl,hr,c,hc,hok⟩:=g.sat (j+1) _ (by simpa using hj);have h0:X.ok M (hs 0) u' x':=g.sat 0 _ rfl;have hdj:∀b o,hs 0 b=some o->hs (j+1) b=none:=λb o hb=>g.dj 0 (j+1) b o (by simp) (by grind) (by omega) hb;have hrr:∀(a:Nat)u2 x2,(us.set i u')[a]? =some u2->(xs.set i x')[a]? =some x2->X.rest u2 x2:=λa u2 x2 hu2 hx2=>by
  rw[fT]at hu2 hx2
  by_cases ha:i=a
  ·subst ha;rw[aG rfl,aG hi]at hu2;rw[aG rfl,aG (by omega)]at hx2;injection hu2 with hu2;injection hx2 with hx2
   subst hu2;subst hx2;exact X.res h0
  grind
 refine⟨M,_,g.join hlt ⟨by simp[hl],hrr,λb=>if(hs 0 b).isSome=true then i else c b,λb o hb=>?_,λa u2 x2 _ hu2 hx2=>?_⟩⟩
 ·grind [fV,jG]
 ·rw[fT]at hu2 hx2
  by_cases ha:i=a
  ·subst ha;rw[aG rfl,aG hi]at hu2;rw[aG rfl,aG (by rw[<-hl];exact hi)]at hx2;injection hu2 with hu2;injection hx2 with hx2
   subst hu2;subst hx2;have e:(λb=>if(if(hs 0 b).isSome=true then i else c b)=i then jG (hs 0) (hs<|j+1) b else none)=hs 0:=by
    funext b
    cases hb:hs 0 b with
    |some o=>simp[jG,hb]
    |none=>
     simp only[Option.isSome_none,Bool.false_eq_true,if_false];split
     ·rename_i hci;unfold jG;rw[hb]
      cases hq:hs (j+1) b with
      |none=>rfl
      |some o=>exact absurd (by rw[hci]) (hc b o hq).2
     ·rfl
   rw[e];exact h0
  ·rw[aH ha]at hu2 hx2;have:=hok a u2 x2 (λe=>ha (by injection e)) hu2 hx2;have e:(λb=>if c b=a then hs (j+1) b else none)=(λb=>if(if(hs 0 b).isSome=true then i else c b)=a then jG (hs 0) (hs<|j+1) b else none):=by
    funext b
    cases hb:hs 0 b with
    |some o=>simp[jG,hb,ha,hdj b o hb]
    |none=>simp[jG,hb]
   rw[<-e];exact this
theorem Holds.x3(h:Holds E w (A0 X u' x'::V))(hj:V[j]? =some (vr X us xs none)):Holds E w (V.set j<|vr X (us++[u']) (xs++[x']) none):=by
 obtain⟨M,hs,g⟩:=h;have hlt:=bE hj;obtain⟨hl,hr,c,hc,hok⟩:=g.sat (j+1) _ (by simpa using hj);have h0:X.ok M (hs 0) u' x':=g.sat 0 _ rfl;have hdj:∀b o,hs 0 b=some o->hs (j+1) b=none:=λb o hb=>g.dj 0 (j+1) b o (by simp) (by grind) (by omega) hb;have hrr:∀(a:Nat)u2 x2,(us++[u'])[a]? =some u2->(xs++[x'])[a]? =some x2->X.rest u2 x2:=λa u2 x2 hu2 hx2=>by
  by_cases ha:a<us.length
  ·grind
  ·have hae:a=us.length:=by
    grind
   subst hae;rw[iG<|bP _,Nat.sub_self]at hu2;rw[hl,iG<|bP _,Nat.sub_self]at hx2;simp at hu2 hx2;subst hu2;subst hx2;exact X.res h0
 refine⟨M,_,g.join hlt ⟨by simp[hl],hrr,λb=>if(hs 0 b).isSome=true then us.length else c b,λb o hb=>?_,λa u2 x2 _ hu2 hx2=>?_⟩⟩
 ·refine⟨?_,by simp⟩;rw[cT];dsimp only;split
  ·simp
  ·rename_i hn;have:hs 0 b=none:=by simpa using hn
   unfold jG at hb;rw[this]at hb;have:=(hc b o hb).1;simp;omega
 ·by_cases ha:a<us.length
  ·rw[iP ha]at hu2;rw[iP (by omega)]at hx2;have:=hok a u2 x2 (by simp) hu2 hx2;have e:(λb=>if c b=a then hs (j+1) b else none)=(λb=>if(if(hs 0 b).isSome=true then us.length else c b)=a then jG (hs 0) (hs<|j+1) b else none):=by
    funext b
    cases hb:hs 0 b with
    |some o=>simp[jG,hb,hdj b o hb];omega
    |none=>simp[jG,hb]
   rw[<-e];exact this
  ·have hae:a=us.length:=by
    have:=(bG.1 hu2).1;simp at this;omega
   subst hae;rw[iG<|bP _,Nat.sub_self]at hu2;rw[hl,iG<|bP _,Nat.sub_self]at hx2;simp at hu2 hx2;subst hu2;subst hx2;have e:(λb=>if(if(hs 0 b).isSome=true then us.length else c b)=us.length then jG (hs 0) (hs<|j+1) b else none)=hs 0:=by
    funext b
    cases hb:hs 0 b with
    |some o=>simp[jG,hb]
    |none=>
     simp only[Option.isSome_none,Bool.false_eq_true,if_false];split
     ·rename_i hci;unfold jG;rw[hb]
      cases hq:hs (j+1) b with
      |none=>rfl
      |some o=>have:=(hc b o hq).1;omega
     ·rfl
   rw[e];exact h0
theorem Holds.zo(X:XT ρ α)(h:Holds E w V):Holds E w (vr X [] [] none::V):=
 h.qK λ_ _ _=>⟨rfl,λi u x hu=>(by simp at hu),λ_=>0,λ_ _ h=>(by cases h),λi u x _ hu=>(by simp at hu)⟩
end
section
variable {ρ α:Type}[GT ρ]{X:XT ρ α}{us:List ρ}{xs:List α}{E w:World}{V:List HP}{j i:Nat}{e:TypeId}{v:Value}
end
section
variable {β:Type}[GT β]
def XS(e:TypeId)(β:Type)[GT β]:XT RV (List β):=⟨λ_ _=>True,λM h u l=>qm e M h u.v l,λ{M M' h u l}hk hh=>(own e u.v l).mono hk hh,λ_=>trivial⟩
theorem Au(e:TypeId)(u:RV)(l:List β):A0 (XS e β) u l=own e u.v l:=rfl
theorem qm.sl{e:TypeId}{M h:bX}{v:Value}{l:List β}(hd:∀b o,h b=some o->M b=none)(ho:qm e M h v l):iR (jG M h) v l:=by
 rcases ho with⟨rfl,rfl,_⟩|⟨b,o,cap,cur,xs,rfl,h2,h3,h4,h5,h6,h7⟩
 ·exact⟨none,0,0,rfl,rfl,bP _,by simp[maxLen],λi x hx=>by simp at hx⟩
 ·refine oP (M:=jG M h) (e:=e) (fr:=(0,0)) ?_ (h7.mono<|qC _ _) h6 h2 h3
  simp_all[bL,jG]
end
def xK:RV:=⟨.slice none 0 0,rfl⟩
def rv(v:Value):RV:=if h:v.oneCell'=true then⟨v,h⟩else xK
theorem Bc{v:Value}(h:v.oneCell'=true):(rv v).v=v:=by unfold rv;rw[dif_pos h]
instance:Inhabited RV:=⟨xK⟩
structure XO {ρ α β:Type} [GT ρ] [GT β] (X:XT ρ α) (e':TypeId) (off:Nat) (f:ρ->RV) (fs:ρ->RV->ρ) (g:α->List β) (gs:α->List β->α):Prop where
 Ee:Fd off f
 D2:Fs off RV fs
 le:off+1<=GT.sz ρ
 get:∀{M h u x},X.ok M h u x->qm e' M h (f u).v (g x)
 put:∀{M h' u x r y},X.rest u x->qm e' M h' (RV.v r) y->X.ok M h' (fs u r) (gs x y)
section
variable {ρ α β:Type}[GT ρ][GT β]{X:XT ρ α}{us:List ρ}{xs:List α}{E w:World}{V:List HP}{i j k o b:Nat}{e e':TypeId}{v u:Value}{x:α}{y:List β}{jj:Int}{z:ρ}
variable {off:Nat}{f:ρ->RV}{fs:ρ->RV->ρ}{gg:α->List β}{gs:α->List β->α}
theorem Holds.Bd(h:Holds E w V)(hi:V[i]? =some (own e v y)):Holds E w (rd v (rv v)::V):=by
 have h1:(rv v).v=v:=by
  obtain⟨a,c,hv⟩:=h.nN hi;exact Bc (by rw[hv];rfl)
 have:=h.sc RV<|rv v
 simp_all[Sc.toV]
end
section
variable {ρ α β:Type}[GT ρ][GT β]{P:Program}{n:Nat}{U:Nat->Value}{w:World}{Q:dL}{E:World}{V:List HP}{i j k o b:Nat}
variable {ops:Array Oper}{rest:List Oper}{d:Nat}{ty t T e e':TypeId}{pos:String}{af:Array Edge}{g:Option (Nat×Bool)}{v vy u p:Value}{q r:Operand}
variable {X:XT ρ α}{us:List ρ}{xs xs':List α}{x:α}{y:List β}{jj:Int}{z:ρ}{bytes:Nat}
variable {off:Nat}{f:ρ->RV}{fs:ρ->RV->ρ}{gg:α->List β}{gs:α->List β->α}
end
section
variable {α β:Type}[GT β]{P:Program}{n:Nat}{U:Nat->Value}{w:World}{Q:dL}{E:World}{V:List HP}{i j k o b:Nat}
variable {ops:Array Oper}{rest:List Oper}{d:Nat}{ty t T e e':TypeId}{pos:String}{af:Array Edge}{g:Option (Nat×Bool)}{v vy u p:Value}{q r:Operand}
variable {us:List RV}{xs xs':List (List β)}{y:List β}{jj:Int}{bytes:Nat}
end
section
variable {P:Program}{n:Nat}{U:Nat->Value}{w:World}{Q:dL}{E:World}{V:List HP}{i j k o b:Nat}
variable {ops:Array Oper}{rest:List Oper}{d:Nat}{ty t T e e':TypeId}{pos:String}{af:Array Edge}{g:Option (Nat×Bool)}{v vy u p:Value}{q r:Operand}
theorem Gm{cs:List Value}(hg:Wn ops U g)(hd:Nat.blt d n=true)(hw:Holds E w V)(hx:ev U q = .agg cs.toArray)(h1:∀v∈cs,v.oneCell'=true)
  (kk:∀b w',Holds E w' (bc T b cs::V)->RL P n ops rest (cD U d<|.pointer<|some ⟨b,0,none⟩) w' Q):RL P n ops (⟨some d, .box T q,ty,pos,af,g⟩::rest) U w Q:=by
 refine B_ hg hd ?_<|kk w.heap.size (w.alloc<|.cells cs.toArray T (0,0))<|hw.alloc _ λM hs gd=>⟨h1,rfl⟩
 simp only[execOp,hx,Instr.box,newVar,newRow,newObj,aK,aP,Value.cells];rfl
end
section
variable {κ ν ρ:Type}[GT κ][KV κ][DecidableEq κ]
theorem l6:∀{m:List (κ×ν)}{mr:List (κ×ρ)}(_:mr.map Prod.fst=m.map Prod.fst)(k:κ),cH mr k=cH m k:=by
 intro m
 induction m with
 |nil=>intro mr h k;cases mr with
  |nil=>rfl
  |cons p mr=>simp at h
 |cons q m ih=>intro mr h k;cases mr with
  |nil=>simp at h
  |cons p mr=>
   simp only[eE,List.cons.injEq]at h;have:=ih h.2 k;unfold cH at this ⊢;simp only[List.findIdx?_cons,h.1,this]
theorem x4{m:List (κ×ν)}{k:κ}{a:Nat}(h:cH m k=some a):a<m.length:=by
 grind [cH,List.findIdx?_eq_some_iff_findIdx_eq]
theorem sq:∀{m:List (κ×ν)}{k:κ}{a:Nat}(z:ν)(_:cH m k=some a),(m.map Prod.snd)[a]? =some (bV m k z):=by
 intro m
 induction m with
 |nil=>simp[cH]
 |cons p m ih=>
  intro k a z h
  by_cases hk:k=p.1
  ·grind [cH,bV]
  ·have hd:decide (k=p.1)=false:=bJ hk;unfold cH at h;rw[List.findIdx?_cons]at h;simp only[hd,Bool.false_eq_true,if_false,Option.map_eq_some_iff]at h;obtain⟨a',h',rfl⟩:=h;have:=ih (k:=k) (a:=a') z h'
   grind [bV]
theorem su{m:List (κ×ν)}{k:κ}(z:ν)(h:cH m k=none):bV m k z=z:=by
 grind [bV,decide,cH,List.findIdx?_eq_none_iff,List.find?_eq_none]
theorem wW:∀{m:List (κ×ν)}{mr:List (κ×ρ)}(_:mr.map Prod.fst=m.map Prod.fst)(k:κ)(x:ν)(r:ρ),(dG mr k r).map Prod.fst=(dG m k x).map Prod.fst:=by
 intro m
 induction m with
 |nil=>intro mr h k x r;cases mr with
  |nil=>rfl
  |cons p mr=>simp at h
 |cons q m ih=>intro mr h k x r;cases mr with
  |nil=>simp at h
  |cons p mr=>
   simp only[eE,List.cons.injEq]at h;unfold dG
   by_cases hk:k=q.1
   ·rw[aG hk,aG (by grind)];simp[h.2]
   ·rw[aH hk,aH (by grind)];simp[h.1,ih h.2 k x r]
theorem sw:∀{m:List (κ×ν)}{k:κ}{a:Nat}(x:ν)(_:cH m k=some a),(dG m k x).map Prod.snd=(m.map Prod.snd).set a x:=by
 intro m
 induction m with
 |nil=>simp[cH]
 |cons p m ih=>
  intro k a x h;unfold dG
  by_cases hk:k=p.1
  ·grind [cH]
  ·rw[aH hk]
   grind [cH,bJ,Bool.false_eq_true,Option.map_eq_some_iff]
theorem sy:∀{m:List (κ×ν)}{k:κ}(x:ν)(_:cH m k=none),(dG m k x).map Prod.snd=m.map Prod.snd++[x]:=by
 intro m
 induction m with
 |nil=>intro k x h;rfl
 |cons p m ih=>
  grind [cH,bJ,Bool.false_eq_true,Option.map_eq_none_iff,dG]
end
section
variable {κ β:Type}[GT κ][KV κ][DecidableEq κ][GT β]{E w:World}{V:List HP}{i j b o:Nat}{e e':TypeId}{v u:Value}{mr:List (κ×RV)}{m:List (κ×List β)}{k:κ}{y:List β}
def kM(e':TypeId)(mr:List (κ×RV))(m:List (κ×List β))(h:Option κ):HP:=
 ⟨λM hp=>mr.map Prod.fst=m.map Prod.fst/\(vr (XS e' β) (mr.map Prod.snd) (m.map Prod.snd)<|h.bind<|cH m).ok M hp,λhk⟨a,b⟩=>⟨a,(vr (XS e' β) _ _ _).mono hk b⟩⟩
theorem Holds.qU{h:Option κ}(hw:Holds E w V)(hj:V[j]? =some (kM e' mr m h)):mr.map Prod.fst=m.map Prod.fst/\Holds E w (V.set j<|vr (XS e' β) (mr.map Prod.snd) (m.map Prod.snd)<|h.bind<|cH m):=by
 obtain⟨M,hs,g⟩:=hw;obtain⟨a,b⟩:=g.sat j _ hj;exact⟨a,M,_,g.update (w':=w) (bE hj) (hs j) b rfl rfl rfl (λb o hb=>g.le j b o (bE hj) hb) (λb o hb=> .inl ⟨o,hb⟩)<|λ_ _ _=>rfl⟩
theorem Holds.mV{h:Option κ}{h':Option Nat}(hw:Holds E w V)(ha:mr.map Prod.fst=m.map Prod.fst)(hh:h'=h.bind (cH m))(hj:V[j]? =some (vr (XS e' β) (mr.map Prod.snd) (m.map Prod.snd) h')):Holds E w (V.set j<|kM e' mr m h):=by
 subst hh;obtain⟨M,hs,g⟩:=hw;have b:=g.sat j _ hj;exact⟨M,_,g.update (w':=w) (P':=kM e' mr m h) (bE hj) (hs j) ⟨ha,b⟩ rfl rfl rfl (λb o hb=>g.le j b o (bE hj) hb) (λb o hb=> .inl ⟨o,hb⟩)<|λ_ _ _=>rfl⟩
theorem Holds.x5(hw:Holds E w V)(κ β:Type)[GT κ][KV κ][DecidableEq κ][GT β](e':TypeId):Holds E w (kM (κ:=κ) (β:=β) e' [] [] none::V):=by
 have:=(hw.zo<|XS e' β).mV (κ:=κ) (mr:=[]) (m:=[]) (h:=none) (j:=0) rfl rfl rfl;exact this
theorem Holds.x6(hw:Holds E w V)(hj:V[j]? =some (kM e' mr m none))(k:κ):Holds E w (own e' (bV mr k xK).v (bV m k [])::V.set j (kM e' mr m<|some k)):=by
 obtain⟨ha,h1⟩:=hw.qU hj;have hlt:=bE hj;have hj1:(V.set j<|vr (XS e' β) (mr.map Prod.snd) (m.map Prod.snd)<|(none:Option κ).bind<|cH m)[j]? =some (vr (XS e' β) (mr.map Prod.snd) (m.map Prod.snd) none):=by
  grind
 cases hf:cH m k with
 |none=>
  have hr:cH mr k=none:=by grind [l6]
  rw[su _ hf,su _ hr];have h2:=h1.ia β e';have h3:=h2.mV (mr:=mr) (m:=m) (h:=some k) (h':=none) (j:=j+1) ha (by simp[hf]) (by simpa using hj1);have h4:Holds E w (own e' (Value.slice none 0 0) ([]:List β)::V.set j (kM e' mr m<|some k)):=by simp_all
  exact h4
 |some a=>
  have hr:cH mr k=some a:=by grind [l6]
  have hm:=sq (m:=m) ([]:List β) hf;have hmr:=sq (m:=mr) xK hr;have h2:=h1.focus (i:=a) hj1 hmr hm;have h3:Holds E w (own e' (bV mr k xK).v (bV m k [])::(V.set j<|vr (XS e' β) (mr.map Prod.snd) (m.map Prod.snd)<|(none:Option κ).bind<|cH m).set j (vr (XS e' β) (mr.map Prod.snd) (m.map Prod.snd)<|some a)):=h2;rw[List.set_set]at h3;have h4:=h3.mV (e':=e') (mr:=mr) (m:=m) (h:=some k) (h':=some a) (j:=j+1) ha (by simp[hf]) (by simp[hlt])
  simp_all
theorem Holds.x8{h0:Option κ}(hw:Holds E w (own e' v y::V))(hj:V[j]? =some (kM e' mr m h0))(hh:h0=none\/h0=some k):Holds E w (V.set j<|kM e' (dG mr k<|rv v) (dG m k y) none):=by
 have hlt:=bE hj;have h1v:(rv v).v=v:=by
  obtain⟨a,c,hv⟩:=hw.nN (i:=0) rfl;exact Bc (by rw[hv];rfl)
 have hE:own e' v y=A0 (XS e' β) (rv v) y:=by rw[Au,h1v]
 have hw2:Holds E w (own e' v y::V.set j (kM e' mr m<|some k)):=by
  rcases hh with rfl|rfl
  ·have h1:=hw.x6 (j:=j+1) (by simpa using hj) k;have h2:=h1.drop 1 (Γ':=(own e' v y::V).set (j+1)<|kM e' mr m<|some k) rfl
   grind
  grind [oQ]
 have hj2:(V.set j<|kM e' mr m<|some k)[j]? =some (kM e' mr m<|some k):=by grind
 obtain⟨ha,h1⟩:=hw2.qU (j:=j+1) (by simpa using hj2);have h1':Holds E w (A0 (XS e' β) (rv v) y::V.set j (vr (XS e' β) (mr.map Prod.snd) (m.map Prod.snd)<|cH m k)):=by
  simp_all
 have hkeys:=wW ha k y<|rv v
 cases hf:cH m k with
 |none=>
  rw[hf]at h1';have hr:cH mr k=none:=by grind [l6]
  have h2:=h1'.x3 (j:=j) (by rw[fT,aG rfl,aG hlt]);rw[List.set_set,<-sy (m:=m) y hf,<-sy (m:=mr) (rv v) hr]at h2;have h3:=h2.mV (mr:=dG mr k<|rv v) (m:=dG m k y) (h:=none) (h':=none) (j:=j) hkeys rfl (by rw[fT,aG rfl,aG hlt])
  simp_all
 |some a=>
  rw[hf]at h1';have hr:cH mr k=some a:=by grind [l6]
  have h2:=h1'.zn (j:=j) (i:=a) (by rw[fT,aG rfl,aG hlt]) (by rw[gp];exact x4 hr);rw[List.set_set,<-sw (m:=m) y hf,<-sw (m:=mr) (rv v) hr]at h2;have h3:=h2.mV (mr:=dG mr k<|rv v) (m:=dG m k y) (h:=none) (h':=none) (j:=j) hkeys rfl (by rw[fT,aG rfl,aG hlt])
  simp_all
theorem ix.raw{M h:bX}(hd:∀b o,h b=some o->M b=none):∀{es:List MapEntry}{mr:List (κ×RV)}{m:List (κ×List β)},ix M es mr->mr.map Prod.fst=m.map Prod.fst->
  (∀(i:Nat)u x,(mr.map Prod.snd)[i]? =some u->(m.map Prod.snd)[i]? =some x->∃h',(∀b o,h' b=some o->h b=some o)/\qm e' M h' (RV.v u) x)->ix (jG M h) es m
 | [],[],[],_,_,_=>trivial
 |en::es,p::mr,q::m,⟨h1,h2,h3⟩,hk,hx=>by
  simp only[eE,List.cons.injEq]at hk;obtain⟨h',hs,ho⟩:=hx 0 p.2 q.2 rfl rfl;refine⟨by rw[h1,hk.1],?_,ix.raw hd h3 hk.2<|λi u x hu hx'=>hx (i+1) u x (by grind) (by grind)⟩;have:en.val=p.2.v:=qL.1 h2;rw[this];refine iS.2<|iR.mono (λb o hb=>?_)<|qm.sl (λb o hb=>hd b o<|hs b o hb) ho
  unfold jG at hb ⊢
  cases hM:M b with
  |some o'=>rw[hM]at hb;exact hb
  |none=>rw[hM]at hb;exact hs b o hb
 | [],p::mr,_,h,_,_=>h.elim
 |_::_,[],_,h,_,_=>h.elim
 | [],[],q::m,_,hk,_=>by simp at hk
 |_::_,p::mr,[],_,hk,_=>by simp at hk
end
section
variable {κ β:Type}[GT κ][KV κ][DecidableEq κ][GT β]{P:Program}{n:Nat}{U:Nat->Value}{w:World}{Q:dL}{E:World}{V:List HP}{i j b o:Nat}
variable {ops:Array Oper}{rest:List Oper}{d:Nat}{ty T kt et e':TypeId}{pos:String}{af:Array Edge}{g:Option (Nat×Bool)}{v u:Value}{q qk qv:Operand}{mr:List (κ×RV)}{m:List (κ×List β)}{k:κ}{y:List β}
theorem Gn(hg:Wn ops U g)(hd:Nat.blt d n=true)(hw:Holds E w V)(hx:ev U q=v)(hk:ev U qk=KV.enc k)(hi:V[i]? =some (mp v mr))(hb:V[b]? =some (kM e' mr m none))(hT:oS P T kt et κ RV xK)
  (kk:Holds E w (own e' (bV mr k xK).v (bV m k [])::V.set b (kM e' mr m<|some k))->RL P n ops rest (cD U d (bV mr k xK).v) w Q):RL P n ops (⟨some d, .lookup T q qk false,ty,pos,af,g⟩::rest) U w Q:=
 Fy _ _ hg hd hw hx hk hi hT (by
  have e:KV.enc (bV mr k xK)=(bV mr k xK).v:=rfl
  rw[e];exact kk (hw.x6 hb k))
theorem Gp{h0:Option κ}(hg:Wn ops U g)(hw:Holds E w V)(hx:ev U q=v)(hk:ev U qk=KV.enc k)(hv:ev U qv=u)(hi:V[i]? =some (mp v mr))(hb:V[b]? =some (kM e' mr m h0))(hh:h0=none\/h0=some k)
  (ho:V[o]? =some (own e' u y)) (hib:i≠b) (hob:o≠b) (hio:i≠o) (hT:oS P T kt et κ RV xK)
  (kk:∀w',Holds E w' (((V.set i<|mp v<|dG mr k<|rv u).set o iv).set b<|kM e' (dG mr k<|rv u) (dG m k y) none)->RL P n ops rest U w' Q):RL P n ops (⟨none, .mapUpdate T q qk qv,ty,pos,af,g⟩::rest) U w Q:=by
 have hrv:=hw.Bd ho;refine E3 (hg:=hg) (x:=rv u) (i+1) 0 _ hrv hx hk hv (by simpa using hi) rfl hT λw' hw'=>kk w' ?_;have hw2:Holds E w' (V.set i<|mp v<|dG mr k<|rv u):=hw'.drop 1 rfl;have hb2:(V.set i<|mp v<|dG mr k<|rv u)[b]? =some (kM e' mr m h0):=by grind
 have ho2:(V.set i<|mp v<|dG mr k<|rv u)[o]? =some (own e' u y):=by grind
 have h6:=hw2.pull (hi:=ho2) _;exact h6.x8 (j:=b) (by grind) hh
end
section
variable {P:Program}{n:Nat}{U:Nat->Value}{w:World}{Q:dL}{E:World}{V:List HP}{i j k o b m:Nat}
variable {ops:Array Oper}{rest:List Oper}{d:Nat}{ty t T e e':TypeId}{pos:String}{af:Array Edge}{g:Option (Nat×Bool)}{v vy u p:Value}{q r:Operand}{cs:List Value}
end
section
variable {ρ α β:Type}[GT ρ][GT α][GT β]
structure XP (X:XT ρ α) (e':TypeId) (off:Nat) (fs:ρ->RV->ρ) (gs:α->List β->α):Prop where
 D2:Fs off RV fs
 le:off+1<=GT.sz ρ
 put:∀{M h' u x r y},X.rest u x->qm e' M h' (RV.v r) y->X.ok M h' (fs u r) (gs x y)
end
section
variable {ρ α β:Type}[GT ρ][GT α][GT β]{X:XT ρ α}{E w:World}{V:List HP}{i j:Nat}{e e':TypeId}{v:Value}{xs:List α}{f:ρ->RV}{gg:α->List β}
end
section
variable {ρ α β:Type}[GT ρ][GT α][GT β]{P:Program}{n:Nat}{U:Nat->Value}{w:World}{Q:dL}{E:World}{V:List HP}{i j k o b:Nat}
variable {ops:Array Oper}{rest:List Oper}{d:Nat}{ty t T e e':TypeId}{pos:String}{af:Array Edge}{g:Option (Nat×Bool)}{v vy u p:Value}{q r:Operand}
variable {X:XT ρ α}{us:List ρ}{xs xs':List α}{x:α}{y:List β}{jj:Int}{z:ρ}{bytes off:Nat}{f:ρ->RV}{fs:ρ->RV->ρ}{gg:α->List β}{gs:α->List β->α}
end
structure Cg (P:Program) (T:TypeId) (i:Nat) (ft:TypeId) (m:Nat):Prop where
 run:∀cs w,(Instr.field T (.agg cs) i).run P w=(part ft cs m).run P w
section
variable {α β:Type}[GT α][GT β]{P:Program}{n:Nat}{U:Nat->Value}{w:World}{Q:dL}{E:World}{V:List HP}{i:Nat}
variable {ops:Array Oper}{rest:List Oper}{d:Nat}{ty:TypeId}{pos:String}{af:Array Edge}{g:Option (Nat×Bool)}{v:Value}{q:Operand}{T ft:TypeId}{x:α}
theorem zq{cs:List Value}{m:Nat}{y:β}{M:bX}(ho:GT.ok M ((cs.drop m).take<|GT.sz β) y)(hT:je P ft (GT.agg β) (GT.sz β)):(part ft cs.toArray m).run P w = .ok (mJ β<|(cs.drop m).take<|GT.sz β) w:=by
 unfold mJ
 cases e:GT.agg β with
 |true=>
  rw[e]at hT;rw[aG rfl];refine wU hT ?_ w;simp[List.extract_toArray,List.extract_eq_take_drop]
 |false=>
  rw[e,GT.ag1 e]at hT;rw[aH tc,GT.ag1 e];have hl:=GT.len ho;rw[GT.ag1 e]at hl;refine jl hT ?_ w;rw[List.getElem?_toArray]
  cases hc:cs.drop m with
  |nil=>rw[hc]at hl;simp at hl
  |cons c l=>
   have:cs[m]? =(cs.drop m)[0]? :=by rw[iO];simp
   rw[this,hc];rfl
theorem Gq{m j:Nat}{f:α->β}(hg:Wn ops U g)(hd:Nat.blt d n=true)(hw:Holds E w V)(hx:ev U q=v)(hi:V[i]? =some (rd v x))(ha:GT.agg α=true)(hf:Cg P T j ft m)(hF:Fd m f)(hT:je P ft (GT.agg β) (GT.sz β))
  (k:∀v,Holds E w (rd v (f x)::V)->RL P n ops rest (cD U d v) w Q):RL P n ops (⟨some d, .field T q j,ty,pos,af,g⟩::rest) U w Q:=by
 obtain⟨M,hs,gd⟩:=hw;obtain⟨⟨cs,hv,ho⟩,_⟩:=gd.sat i _ hi;have hv':v = .agg cs.toArray:=by rw[hv];unfold mJ;rw[aG ha]
 have ho':=hF M cs x ho;refine B_ (v:=mJ β<|(cs.drop m).take<|GT.sz β) hg hd ?_<|k _ ⟨M,_,gd.dH ⟨⟨_,rfl,ho'⟩,rfl⟩⟩
 simp only[execOp,hx,hv',aK,hf.run,zq ho' hT,aN,aP]
theorem F0{γ:Type}[Sc γ]{m j:Nat}{f:α->γ}(i:Nat)(hg:Wn ops U g)(hd:Nat.blt d n=true)(hw:Holds E w V)(hx:ev U q=v)(hi:V[i]? =some (rd v x))(ha:GT.agg α=true)(hf:Cg P T j ft m)(hF:Fd m f)(hT:je P ft false 1)(k:RL P n ops rest (cD U d<|Sc.toV<|f x) w Q):RL P n ops (⟨some d, .field T q j,ty,pos,af,g⟩::rest) U w Q:=by
 refine Gq (f:=f) hg hd hw hx hi ha hf hF hT λv h=>?_;rw[h.oO (i:=0) rfl];exact k
end
def Ch(n:Nat)(i:Int):Option (Fin n):=if h:0<=i/\i.toNat<n then some ⟨i.toNat,h.2⟩else none
theorem ya{n:Nat}{i:Int}{k:Fin n}(h:Ch n i=some k):0<=i/\i=((k.val:Nat):Int):=by
 unfold Ch at h;split at h
 ·rename_i h1;injection h with h
  subst h;exact⟨h1.1,by show i=((i.toNat:Nat):Int);omega⟩
 ·cases h
structure B9 (P:Program) (T:TypeId) (n:Nat) (e:TypeId) (sz:Nat):Prop where
 rY:P.underlying T=some (.array n e)
 sz:∀w,(sizeOf e).run P w = .ok sz w
structure Be (P:Program) (T:TypeId) (i:Int) (m:Nat):Prop where
 run:∀K a w,(Instr.indexAt T (.pointer<|some a)<|.int K i).run P w = .ok (.pointer<|some<|a.add m) w
structure Ef (P:Program) (T:TypeId) (i:Int) (ft:TypeId) (m:Nat):Prop where
 run:∀K cs w,(Instr.index T (.agg cs)<|.int K i).run P w=(part ft cs m).run P w
section
variable {P:Program}{T e:TypeId}{n sz:Nat}{i:Int}
theorem B9.at(h:B9 P T n e sz){k:Fin n}(hk:Ch n i=some k):Be P T i (k.val*sz):=by
 obtain⟨h0,h1⟩:=ya hk;refine⟨λK a w=>?_⟩;have hlt:i<((n:Nat):Int):=by have:=k.isLt;omega
 have ht:i.toNat=k.val:=by omega
 simp only[Instr.indexAt,asIntOf,Instr.sureAddr,aK,aP,aN,run_underlying h.rY,h.sz,h0,hlt,and_self,if_true,ht]
end
section
variable {α β:Type}[GT α][GT β]{P:Program}{n:Nat}{U:Nat->Value}{w:World}{Q:dL}{E:World}{V:List HP}{i:Nat}
variable {ops:Array Oper}{rest:List Oper}{d:Nat}{T ty e ft:TypeId}{pos:String}{af:Array Edge}{g:Option (Nat×Bool)}{v p:Value}{q r:Operand}{x:α}{K:IntKind}{jj:Int}{k off m:Nat}
theorem Gr{b o:Nat}(hg:Wn ops U g)(hd:Nat.blt d n=true)(hx:ev U q = .pointer (some ⟨b,o,none⟩))(hy:ev U r = .int K jj)(hf:Be P T jj m)
  (kk:RL P n ops rest (cD U d<|.pointer<|some ⟨b,o+m,none⟩) w Q):RL P n ops (⟨some d, .indexAddr T q r,ty,pos,af,g⟩::rest) U w Q:=by
 refine B_ hg hd ?_ kk;simp only[execOp,hx,hy,aK,hf.run,aN,aP,Addr.add_lit]
theorem E4{b:Nat}(hf:Be P T jj m)(kk:RL P n ops rest (cD U d<|.pointer<|some ⟨b,m,none⟩) w Q)(hg:Wn ops U g:=by exact trivial)(hd:Nat.blt d n=true:=by exact rfl)(hx:ev U q = .pointer (some ⟨b,0,none⟩):=by exact rfl)(hy:ev U r = .int K jj:=by exact rfl):RL P n ops (⟨some d, .indexAddr T q r,ty,pos,af,g⟩::rest) U w Q:=
 Gr (o:=0) (m:=m) hg hd hx hy hf (by rw[fM];exact kk)
end
structure Bf (P:Program) (T:TypeId) (sz:Nat) (z:Array Value):Prop where
 run:∀parts cs w,Instr.fill (λi=>some (i*sz,sz)) z parts.toList=some cs->(Instr.build T parts).run P w = .ok (.agg cs) w
theorem Bf.of{P:Program}{T e:TypeId}{n sz:Nat}{z:Value}(h1:B9 P T n e sz)(h2:∀w,(zeroValue T).run P w = .ok z w:=by intro _;kernel_rfl):Bf P T sz z.cells:=by
 refine⟨λparts cs w h=>?_⟩;unfold Instr.build;simp only[aK,h2,aN,run_underlying h1.rY,h1.sz,h,aP]
section
variable {α:Type}[GT α]{P:Program}{n:Nat}{U:Nat->Value}{w:World}{Q:dL}{E:World}{V:List HP}
variable {ops:Array Oper}{rest:List Oper}{d:Nat}{T ty:TypeId}{pos:String}{af:Array Edge}{g:Option (Nat×Bool)}
variable {y:α}
theorem Gs{parts:Array (Nat×Operand)}{sz:Nat}{z:Array Value}(hg:Wn ops U g)(hd:Nat.blt d n=true)(hw:Holds E w V)(vs:List (Nat×Value))
  (hvs:parts.toList.map (λp=>(p.1,ev U p.2))=vs) (hT:Bf P T sz z) (ha:GT.agg α=true) (hf:∀M hs,Good E w M hs V->dN M (λi=>some (i*sz,sz)) z vs y)
  (k:∀v,Holds E w (rd v y::V)->RL P n ops rest (cD U d v) w Q):RL P n ops (⟨some d, .build T parts,ty,pos,af,g⟩::rest) U w Q:=by
 obtain⟨M,hs,gd⟩:=hw;obtain⟨cs,h1,h2⟩:=hf M hs gd;have e1:parts.map (λ(i,x)=>(i,ev U x))=vs.toArray:=by rw[<-hvs];cases parts;simp
 refine B_ (v:= .agg cs) hg hd ?_<|k _ ⟨M,_,gd.dH ⟨⟨cs.toList,by simp[mJ,ha],h2⟩,rfl⟩⟩
 simp only[execOp,aK];rw[e1,hT.run _ _ _ h1];simp only[aN,aP]
end
section
variable {P:Program}{n:Nat}{U:Nat->Value}{w:World}{Q:dL}
variable {ops:Array Oper}{rest:List Oper}{d:Nat}{ty:TypeId}{pos:String}{af:Array Edge}{g:Option (Nat×Bool)}{K:IntKind}
end
section
variable {κ ν S R T:Type}
def mW(body:κ×ν->S->Option (Fl S R)):List (κ×ν)->S->Option (Fo S R)
 | [],s=>some (.go s)
 |e::l,s=>(body e s).bind λ
  | .nx s'=>mW body l s'
  | .br s'=>some (.go s')
  | .rt r=>some (.rt r)
open Classical in
noncomputable def uz(m:List (κ×ν))(body:κ×ν->S->Option (Fl S R))(s:S)(kg:S->Option T)(kr:R->Option T):Option T:=
 if h:∃t,∀p:List (κ×ν),p.Perm m->(mW body p s).bind (λo=>o.cs kg kr)=some t then some (Classical.choose h)else none
theorem yb{m:List (κ×ν)}{body:κ×ν->S->Option (Fl S R)}{s:S}{kg:S->Option T}{kr:R->Option T}{t:T}(h:uz m body s kg kr=some t):
  ∀p:List (κ×ν),p.Perm m->(mW body p s).bind (λo=>o.cs kg kr)=some t:=by
 unfold uz at h;split at h
 ·rename_i h1;injection h with h
  intro p hp;rw[<-h];exact Classical.choose_spec h1 p hp
 ·cases h
theorem zu{m:List (κ×ν)}{body:κ×ν->S->Option (Fl S R)}{s:S}{kg:S->Option T}{kr:R->Option T}{t:T}(h:∀p:List (κ×ν),p.Perm m->(mW body p s).bind (λo=>o.cs kg kr)=some t):
  uz m body s kg kr=some t:=by
 have he:∃t,∀p:List (κ×ν),p.Perm m->(mW body p s).bind (λo=>o.cs kg kr)=some t:=⟨t,h⟩;unfold uz;rw[dif_pos he];have h1:=Classical.choose_spec he m<|List.Perm.refl m
 rw[h m<|List.Perm.refl m]at h1;exact h1.symm
def Pf(m pre:List (κ×ν)):Prop:=∃rest,(pre++rest).Perm m
end
section
variable {κ ν:Type}[GT κ][KV κ][GT ν]
def sB(v:Value)(g:Nat)(m pre:List (κ×ν)):HP:=
 ⟨λM h=>∃(r:Nat)(es:Array MapEntry)(clock since:Nat)(seen:Array Nat)(c0:Nat)(pz rz:List (MapEntry×(κ×ν))),v = .map (some r)/\(ix M es.toList m/\zm es.toList clock m)/\r≠g/\
   h=jG (Gk.one r<|.map es clock) (Gk.one g<|.mapIter (some r) since seen c0)/\(∀x∈es.toList,x.born<since)/\since<=c0/\since<=clock/\
   (pz++rz).Perm (es.toList.zip m)/\seen.toList=pz.map (·.1.born)/\pre=pz.map (·.2)/\(pz= []\/c0=clock),
  λk⟨r,es,c,si,se,c0,pz,rz,hv,⟨he,hst⟩,hne,hh⟩=>⟨r,es,c,si,se,c0,pz,rz,hv,⟨ix.mono k he,hst⟩,hne,hh⟩⟩
theorem ix.at{M:bX}:∀{es:List MapEntry}{m:List (κ×ν)}{e:MapEntry}{x:κ×ν},ix M es m->(e,x)∈es.zip m->e.key=KV.enc x.1/\oe M e.val x.2
 | [],[],_,_,_,h=>by simp at h
 |e::es,p::m,e',x,⟨h1,h2,h3⟩,h=>by
  rw[List.zip_cons_cons,gC]at h
  rcases h with h|h
  ·injection h with ha hb;subst ha;subst hb;exact⟨h1,h2⟩
  ·exact ix.at h3 h
 | [],_::_,_,_,h,_=>h.elim
 |_::_,[],_,_,h,_=>h.elim
theorem qW{M h:bX}{b:Nat}{o:Obj}(e:M b=some o):jG M h b=some o:=by simp[jG,e]
theorem oj{M h:bX}{b:Nat}(e:M b=none):jG M h b=h b:=by simp[jG,e]
theorem kl{g b:Nat}{o:Obj}(h:b≠g):Gk.one g o b=none:=by simp[Gk.one,h]
end
section
variable {κ ν S R T:Type}[GT κ][KV κ][DecidableEq κ][GT ν]
variable {P:Program}{n:Nat}{U:Nat->Value}{w:World}{Q:dL}{E:World}{V:List HP}{i:Nat}
variable {ops:Array Oper}{rest:List Oper}{d:Nat}{ty Ty kt et:TypeId}{pos:String}{af:Array Edge}{g:Option (Nat×Bool)}{v:Value}{q:Operand}{m pre:List (κ×ν)}{b:Nat}
theorem Gt(hg:Wn ops U g)(hd:Nat.blt d n=true)(hw:Holds E w V)(hx:ev U q=v)(hi:V[i]? =some (mp v m))(hT:P.underlying Ty=some (.map kt et))
  (k:∀b w',Holds E w' (V.set i<|sB v b m [])->RL P n ops rest (cD U d<|.pointer<|some ⟨b,0,none⟩) w' Q):RL P n ops (⟨some d, .range Ty q,ty,pos,af,g⟩::rest) U w Q:=by
 obtain⟨M,hs,gd⟩:=hw;have hlt:=bE hi;obtain⟨r,es,clock,rfl,⟨he,hst⟩,hh⟩:=gd.sat i _ hi;have hb:=gd.le i r _ hlt (by rw[hh];exact bL r _);have hrs:r<w.heap.size:=(Array.getElem?_eq_some_iff.1 hb).1;refine B_ (v:= .pointer<|some ⟨w.heap.size,0,none⟩) (w':=w.alloc<|.mapIter (some r) clock #[] clock) hg hd (by simp only[execOp,hx,run_range_map w Ty kt et r es clock hT hb,aK,aP,aN])<|k w.heap.size _ ?_
 have g1:=(gd.world (w':=w.alloc<|.mapIter (some r) clock #[] clock) rfl rfl rfl<|λb hb=>k9 w _ b hb).cons (P:=Gk.iv) (Gk.one w.heap.size<|.mapIter (some r) clock #[] clock) trivial
  (λb o hb=>by obtain⟨rfl,rfl⟩:=eU hb;exact heap_alloc_new w _)
  (λb o hb=>by
   obtain⟨rfl,rfl⟩:=eU hb
   cases e:M w.heap.size with
   |none=>rfl
   |some o'=>exact absurd (Array.getElem?_eq_some_iff.1 (gd.im _ o' e)).1 (Nat.lt_irrefl _))
  (λj b o hj hb=>by
   obtain⟨rfl,rfl⟩:=eU hb
   cases e:hs j w.heap.size with
   |none=>rfl
   |some o'=>exact absurd (Array.getElem?_eq_some_iff.1 (gd.le j _ o' hj e)).1 (Nat.lt_irrefl _))
 have g2:=g1.join (P:=sB (.map (some r)) w.heap.size m []) (j:=i) hlt (by
  refine⟨r,es,clock,clock,#[],clock,[],es.toList.zip m,rfl,⟨he,hst⟩,Nat.ne_of_lt hrs,?_,hst.1,bP _,bP _,List.Perm.refl _,rfl,rfl, .inl rfl⟩;show jG (Gk.one w.heap.size _) (hs i)=_;rw[hh];funext x
  by_cases e1:x=r
  ·subst e1;rw[oj<|kl<|Nat.ne_of_lt hrs,bL,qW<|bL _ _]
  ·rw[oj (M:=Gk.one r _)<|kl e1]
   by_cases e2:x=w.heap.size
   ·subst e2;rw[qW<|bL _ _,bL]
   ·rw[oj (kl e2),kl e1,kl e2])
 exact⟨_,_,g2⟩
theorem qE:∀{es:List MapEntry}{m:List (κ×ν)},es.length=m.length->(es.zip m).map (·.2)=m
 | [],[],_=>rfl
 |_::es,_::m,h=>by simp only[List.zip_cons_cons,eE];rw[qE (by simpa using h)]
 | [],_::_,h=>by simp at h
 |_::_,[],h=>by simp at h
theorem zip_fst:∀{es:List MapEntry}{m:List (κ×ν)},es.length=m.length->(es.zip m).map (·.1)=es
 | [],[],_=>rfl
 |_::es,_::m,h=>by simp only[List.zip_cons_cons,eE];rw[zip_fst (by simpa using h)]
 | [],_::_,h=>by simp at h
 |_::_,[],h=>by simp at h
theorem Holds.yc(hw:Holds E w V)(hi:V[i]? =some (sB v b m pre))(ty:TypeId):
  (pre.Perm m/\(Instr.next (.pointer<|some ⟨b,0,none⟩) false ty).run P w = .ok (.tuple #[.bool false]) w)\/
  ∃(x:κ×ν)(u:Value)(w':World),Pf m (pre++[x])/\(Instr.next (.pointer<|some ⟨b,0,none⟩) false ty).run P w = .ok (.tuple #[.bool true,KV.enc x.1,u]) w'/\
   Holds E w' (rd u x.2::V.set i (sB v b m<|pre++[x])):=by
 obtain⟨M,hs,gd⟩:=hw;have hlt:=bE hi;obtain⟨r,es,clock,since,seen,c0,pz,rz,rfl,⟨he,hst⟩,hne,hh,hold,hsc,hsk,hperm,hseen,hpre,hc0⟩:=gd.sat i _ hi;have hbr:w.heap[r]? =some (.map es clock):=gd.le i r _ hlt (by rw[hh];exact qW<|bL r _);have hbb:w.heap[b]? =some (.mapIter (some r) since seen c0):=gd.le i b _ hlt (by rw[hh,oj<|kl<|λe=>hne e.symm];exact bL b _);have hlen:es.toList.length=m.length:=he.len;have hnd:((pz++rz).map (·.1.born)).Nodup:=by
  have h1:((pz++rz).map (·.1.born)).Perm ((es.toList.zip m).map (·.1.born)):=hperm.map _;refine h1.symm.nodup ?_;have h2:(es.toList.zip m).map (·.1.born)=es.toList.map (·.born):=by rw[show(λ(x:MapEntry×(κ×ν))=>x.1.born)=MapEntry.born∘Prod.fst from rfl,<-List.map_map,zip_fst hlen]
  rw[h2];exact hst.2.1
 have hin:∀e:MapEntry,e∈es.toList->∃x,(e,x)∈pz++rz:=λe hm=>by
  have:e∈(es.toList.zip m).map (·.1):=by rw[zip_fst hlen];exact hm
  obtain⟨⟨e',x⟩,h1,rfl⟩:=dK.1 this;exact⟨x,hperm.mem_iff.2 h1⟩
 rcases run_next_at (P:=P) w ty b r since c0 seen es clock hbb hbr hold hsc with⟨h0,hrun⟩|⟨e,hem,w1,hw1,hrun⟩
 ·refine .inl ⟨?_,hrun⟩;have hrz:rz= []:=by
   cases rz with
   |nil=>rfl
   |cons z rz=>
    exfalso;have hz:z∈es.toList.zip m:=hperm.mem_iff.1 (by simp);have hze:z.1∈es.toList:=by have:=List.mem_map_of_mem (f:=Prod.fst) hz;rw[zip_fst hlen]at this;exact this
    have hl:leftOf es seen = #[]:=Array.eq_empty_of_size_eq_zero h0;have hns:seen.contains z.1.born=true:=by
     cases hc:seen.contains z.1.born with
     |true=>rfl
     |false=>
      have:z.1∈(leftOf es seen).toList:=by unfold leftOf;simp only[Array.toList_filter,jt,hc];exact⟨hze,rfl⟩
      rw[hl]at this;simp at this
    have hns2:z.1.born∈seen.toList:=by simpa using hns
    rw[hseen]at hns2;rw[eX,List.nodup_append]at hnd;exact hnd.2.2 _ hns2 _ (by simp) rfl
  subst hrz;rw[iQ]at hperm;have:=hperm.map (·.2);rw[qE hlen,<-hpre]at this;exact this
 ·right;have he1:e∈es.toList/\seen.contains e.born=false:=by
   unfold leftOf at hem;simp only[Array.toList_filter,jt]at hem;exact⟨hem.1,by simpa using hem.2⟩
  obtain⟨x,hx⟩:=hin e he1.1;have hxr:(e,x)∈rz:=by
   rcases k8.1 hx with h|h
   ·exfalso;have h1:e.born∈seen.toList:=by rw[hseen];exact dK.2 ⟨(e,x),h,rfl⟩
    have h2:seen.contains e.born=true:=by simpa using h1
    rw[he1.2]at h2;cases h2
   ·exact h
  obtain⟨l1,l2,hl⟩:=List.append_of_mem hxr;have hperm2:((pz++[(e,x)])++(l1++l2)).Perm (es.toList.zip m):=by
   refine List.Perm.trans ?_ hperm;rw[hl,cP];refine List.Perm.append_left _ ?_;exact(List.perm_middle (a:=(e,x)) (l₁:=l1) (l₂:=l2)).symm
  have hat:=he.at<|hperm.mem_iff.1 hx
  refine⟨x,e.val,_,⟨(l1++l2).map (·.2),?_⟩,by rw[<-hat.1];exact hrun,?_⟩
  ·have:=hperm2.map (·.2);rw[qE hlen,eX,eX,<-hpre]at this;exact this
  have gw:Good E w1 M hs V:=by
   rcases hw1 with rfl|rfl
   ·exact gd
   ·exact gd.world rfl rfl rfl<|λ_ _=>rfl
  have hh1:w1.heap=w.heap:=by rcases hw1 with rfl|rfl <;> rfl
  have hbs:b<w.heap.size:=(Array.getElem?_eq_some_iff.1 hbb).1;have g2:=gw.update (w':=ChangeMaps.setBlock w1 b<|.mapIter (some r) since (seen.push e.born) clock) (P':=sB (.map<|some r) b m<|pre++[x]) hlt
   (jG (Gk.one r<|.map es clock)<|Gk.one b<|.mapIter (some r) since (seen.push e.born) clock)
   ⟨r,es,clock,since,seen.push e.born,clock,pz++[(e,x)],l1++l2,rfl,⟨he,hst⟩,hne,rfl,hold,hsk,hsk,hperm2,by rw[Array.toList_push,hseen];simp,by rw[hpre];simp, .inr rfl⟩
   rfl rfl rfl
   (λc o hc=>by
    show(w1.heap.setIfInBounds b _)[c]? =some o;rw[hh1]
    by_cases e1:c=r
    ·subst e1;rw[qW<|bL _ _]at hc;injection hc with hc;subst hc
     rw[Array.getElem?_setIfInBounds_ne<|λh=>hne h.symm];exact hbr
    ·rw[oj<|kl e1]at hc;obtain⟨rfl,rfl⟩:=eU hc
     rw[Array.getElem?_setIfInBounds_self_of_lt hbs])
   (λc o hc=>by
    left
    by_cases e1:c=r
    ·subst e1;exact⟨_,by rw[hh];exact qW<|bL _ _⟩
    ·rw[oj<|kl e1]at hc;obtain⟨rfl,rfl⟩:=eU hc
     exact⟨_,by rw[hh,oj (kl e1)];exact bL _ _⟩)
   (λc hc hcs=>by
    show(w1.heap.setIfInBounds b _)[c]? =w1.heap[c]?;have hcb:b≠c:=λh=>by
     subst h;rw[hh,oj<|kl<|λe=>hne e.symm,bL]at hc
     cases hc
    rw[Array.getElem?_setIfInBounds_ne hcb])
  exact⟨M,_,g2.dH ⟨hat.2,rfl⟩⟩
theorem Gu{x:κ×ν}(hg:Wn ops U g)(hd:Nat.blt d n=true)(hw:Holds E w V)(hx:ev U q = .pointer (some ⟨b,0,none⟩))(hi:V[i]? =some (sB v b m<|pre++[x]))
  (k:∀u,Holds E w (rd u x.2::V)->RL P n ops rest (cD U d<|.tuple #[KV.enc x.1,u]) w Q):RL P n ops (⟨some d, .entry q,ty,pos,af,g⟩::rest) U w Q:=by
 obtain⟨M,hs,gd⟩:=hw;have hlt:=bE hi;obtain⟨r,es,clock,since,seen,c0,pz,rz,rfl,⟨he,hst⟩,hne,hh,hold,hsc,hsk,hperm,hseen,hpre,hc0⟩:=gd.sat i _ hi;have hbr:w.heap[r]? =some (.map es clock):=gd.le i r _ hlt (by rw[hh];exact qW<|bL r _);have hbb:w.heap[b]? =some (.mapIter (some r) since seen c0):=gd.le i b _ hlt (by rw[hh,oj<|kl<|λe=>hne e.symm];exact bL b _);have hlen:es.toList.length=m.length:=he.len;have hpz:pz≠[]:=λe=>by subst e;simp at hpre
 obtain⟨pz',z,rfl⟩:∃pz' z,pz=pz'++[z]:=⟨pz.dropLast,pz.getLast hpz,(List.dropLast_concat_getLast hpz).symm⟩;have hx2:z.2=x:=by
  rw[eX]at hpre;have:=congrArg List.getLast? hpre;simpa using this.symm
 subst hx2;have hz:z∈es.toList.zip m:=hperm.mem_iff.1 (by simp);have hze:z.1∈es.toList:=by have:=List.mem_map_of_mem (f:=Prod.fst) hz;rw[zip_fst hlen]at this;exact this
 have hc:c0=clock:=by rcases hc0 with h|h;exact absurd h hpz;exact h
 subst hc;have hseen2:seen=(pz'.map (·.1.born)).toArray.push z.1.born:=by
  apply Array.ext';rw[hseen];simp
 rw[hseen2]at hbb;have hrun:=run_entry_at (P:=P) w b r since _ es c0 z.1 hbb hbr hze hst.2.1;have hat:=he.at (e:=z.1) (x:=z.2) hz;refine B_ hg hd ?_<|k z.1.val ⟨M,_,gd.dH ⟨hat.2,rfl⟩⟩
 simp only[execOp,hx,hrun,aK,aP,aN,hat.1]
theorem Holds.kv(h:Holds E w V)(k:κ):Holds E w (rd (KV.enc k) k::V):=h.qK λ_ _ _=>⟨KV.rd _ k,rfl⟩
def Cj(m:List (κ×ν))(body:κ×ν->S->Option (Fl S R))(I:List (κ×ν)->S->(Nat->Value)->World->Prop)(b0:Nat)(J:S->(Nat->Value)->World->Prop)(K:R->(Nat->Value)->World->Prop)(pre:List (κ×ν))(s:S):dL:=
 λex U w=>(pre.Perm m/\zh (R:=R) b0 J K (.go s) ex U w)\/∃x fl,Pf m (pre++[x])/\body x s=some fl/\rZ (I<|pre++[x]) b0 J K fl ex U w
theorem Gv{b0:Nat}{c:Code}{body:κ×ν->S->Option (Fl S R)}{kg:S->Option T}{kr:R->Option T}{s0:S}{t:T}(I:List (κ×ν)->S->(Nat->Value)->World->Prop)(J:S->(Nat->Value)->World->Prop)(K:R->(Nat->Value)->World->Prop)
  (hN:Gk.uz m body s0 kg kr=some t) (h0:I [] s0 U w)
  (step:∀pre s U w,I pre s U w->(∀x,Pf m (pre++[x])->∃fl,body x s=some fl)->RC P n c U w (Cj m body I b0 J K pre s))
  (hrt:∀r U w,kr r=some t->K r U w->Q .ret U w) (hgo:∀s U w,kg s=some t->J s U w->Q .normal U w):RC P n (.block b0<|.loop c) U w Q:=by
 have hall:=yb hN;refine Fi<|FF (λj U w=>∃pre s,j+pre.length=m.length/\I pre s U w/\∀p,(pre++p).Perm m->(mW body p s).bind (λo=>o.cs kg kr)=some t) (m:=m.length) ⟨[],s0,rfl,h0,λp hp=>hall p (by simpa using hp)⟩ ?_
 rintro j U w⟨pre,s,hj,hI,hp⟩;have hone:∀x rest,(pre++[x]++rest).Perm m->∃fl,body x s=some fl/\(match fl with| .nx s'=>(mW body rest s').bind (λo=>o.cs kg kr)=some t| .br s'=>kg s'=some t| .rt r=>kr r=some t):=λx rest hr=>by
  have h1:=hp (x::rest) (by simpa using hr);obtain⟨o,h2,h3⟩:=bd h1;unfold mW at h2;obtain⟨fl,h4,h5⟩:=bd h2;refine⟨fl,h4,?_⟩
  cases fl with
  |nx s'=>simp only at h5 ⊢;rw[h5];exact h3
  |br s'=>simp only at h5 ⊢;injection h5 with h5;subst h5;exact h3
  |rt r=>simp only at h5 ⊢;injection h5 with h5;subst h5;exact h3
 refine RC.mono (step pre s U w hI λx⟨rest,hx⟩=>by obtain⟨fl,h1,_⟩:=hone x rest hx;exact⟨fl,h1⟩) λex σ' w' q=>?_
 rcases q with⟨hpm,rfl,hJ⟩|⟨x,fl,⟨rest,hx⟩,hb,q⟩
 ·refine .inr ⟨by simp,?_⟩;have h1:=hp [] (by simpa using hpm);have h2:kg s=some t:=h1;exact vv<|hgo s σ' w' h2 hJ
 ·obtain⟨fl',hb',hm⟩:=hone x rest hx;rw[hb]at hb';injection hb' with hb';subst hb'
  have hl:=hx.length_eq;simp only[cT,gj,List.length_nil]at hl
  cases fl with
  |nx s'=>
   obtain⟨rfl,hI'⟩:=q;refine .inl ⟨rfl,j - 1,by omega,pre++[x],s',by simp;omega,hI',λp hpp=>?_⟩;obtain⟨fl2,hb2,hm2⟩:=hone x p hpp;rw[hb]at hb2;injection hb2 with hb2;subst hb2
   exact hm2
  |br s'=>
   obtain⟨rfl,hJ⟩:=q;exact .inr ⟨by simp,vv<|hgo s' σ' w' hm hJ⟩
  |rt r=>
   obtain⟨rfl,hK⟩:=q;exact .inr ⟨by simp,cR<|hrt r σ' w' hm hK⟩
theorem GP{b0 id:Nat}{y:Code}{body:κ×ν->S->Option (Fl S R)}{s:S}{I:List (κ×ν)->S->(Nat->Value)->World->Prop}{J:S->(Nat->Value)->World->Prop}{K:R->(Nat->Value)->World->Prop}
  (hd:Nat.blt d n=true) (hw:Holds E w V) (hx:ev U q = .pointer (some ⟨b,0,none⟩)) (hi:V[i]? =some (sB v b m pre)) (hb:∀x,Pf m (pre++[x])->∃fl,body x s=some fl)
  (h0:RL P n (⟨some d, .next q false,ty,pos,af,none⟩::rest).toArray rest (cD U d<|.tuple #[.bool false]) w (ir P n y<|zh b0 J K<|.go s))
  (h1:∀x u fl w',body x s=some fl->Holds E w' (rd u x.2::V.set i (sB v b m (pre++[x])))->
   RL P n (⟨some d, .next q false,ty,pos,af,none⟩::rest).toArray rest (cD U d (.tuple #[.bool true,KV.enc x.1,u])) w' (ir P n y (rZ (I (pre++[x])) b0 J K fl))):
  RC P n (.seq (.region id (⟨some d, .next q false,ty,pos,af,none⟩::rest).toArray false) y) U w (Cj m body I b0 J K pre s):=by
 rcases hw.yc (P:=P) hi ty with⟨hp,hrun⟩|⟨x,u,w',hx',hrun,hw'⟩
 ·refine RC.mono (r_<|B_ trivial hd ?_ h0) λex U w q=> .inl ⟨hp,q⟩;simp only[execOp,hx,hrun,aK,aP,aN]
 ·obtain⟨fl,hfl⟩:=hb x hx';refine RC.mono (r_<|B_ trivial hd ?_<|h1 x u fl w' hfl hw') λex U w q=> .inr ⟨x,fl,hx',hfl,q⟩;simp only[execOp,hx,hrun,aK,aP,aN]
end
end Go.Gk
namespace Go.Gk
open Go IntKind Go.Sort
section
variable {α:Type}[GT α]
def z7{β:Type}(cf:β->β->Int)(x y:β):Bool:=decide<|cf x y<0
def vt(φ:α->α->Option Int)(l:List α)(i j:Fin l.length):Int:=(φ l[i] l[j]).getD 0
def wB(φ:α->α->Option Int)(l:List α):List α:=
 if h:0<l.length then
  haveI:Inhabited (Fin l.length):=⟨⟨0,h⟩⟩
  ((pdq (z7<|vt φ l) (Array.ofFn λi:Fin l.length=>i) 0 l.length (Lib.bitLen l.length) true true).toList.map λi=>l[i])
 else l
open Classical in
noncomputable def lB(φ:α->α->Option Int)(l:List α):Option (List α):=
 if((∀i j:Fin l.length,∃c,φ l[i] l[j]=some c)/\SWO (z7<|vt φ l))/\l.length<4611686018427387904 then some (wB φ l)else none
end
end Go.Gk
namespace Go.Gk
open Go IntKind
def mX:Op->Bool
 | .move _| .assign _| .pick .. | .load .. | .nilCheck _| .binOp .. | .unOp .. | .fieldAddr .. | .indexAddr .. | .index .. | .field .. | .extract .. | .slice .. | .lookup .. | .build .. | .makeFunc .. =>true
 | .call ⟨.builtin .len,_,_⟩| .call ⟨.builtin .cap,_,_⟩| .call ⟨.builtin .min,_,_⟩| .call ⟨.builtin .max,_,_⟩=>true
 |_=>false
theorem iV{α:Type}{s:Sem α}{P:Program}{w w':World}{f:α->Value}{nx:Next}(h:(do let a <-s;pure (.value<|f a):Sem Next).run P w = .ok nx w'):∃v,nx = .value v:=by
 rw[aK]at h
 cases hr:s.run P w with
 |ok a w1=>grind [Result.andThen,aP]
 |halt x w1=>simp_all
theorem uA{ρ:Operand->Value}{o:Oper}{P:Program}{w w':World}{nx:Next}(hk:mX o.op=true)(h:(execOp ρ o).run P w = .ok nx w'):∃v,nx = .value v:=by
 obtain⟨dst,op,ty,pos,af,g⟩:=o
 cases op
 case move x=>grind [execOp,aP]
 case assign x=>grind [execOp,aP]
 case pick c a b=>exact iV (s:=asBool<|ρ c) (f:=λt=>if t then ρ a else ρ b) h
 case load t a=>exact iV h
 case binOp a b c d e=>
  simp only[execOp]at h;exact iV h
 case unOp a b c=>exact iV h
 case fieldAddr a b c=>exact iV h
 case indexAddr a b c=>exact iV h
 case index a b c=>exact iV h
 case field a b c=>exact iV h
 case extract a b=>exact iV h
 case slice a b c d e=>exact iV h
 case lookup a b c d=>exact iV h
 case build a b=>exact iV h
 case makeFunc a b c=>exact iV h
 case nilCheck x=>
  simp only[execOp]at h;split at h
  ·cases h
  ·cases h
  ·cases h
  ·split at h
   ·cases h
   ·rw[aK]at h
    cases h1:program.run P w with
    |halt x w1=>simp_all
    |ok p w1=>
     rw[h1]at h;simp only[Result.andThen,aK]at h;split at h
     ·rename_i r w2 h2;split at h
      ·simp_all
      grind [aP]
     ·cases h
   grind [aP]
  grind [aP]
 case call c=>
  obtain⟨cal,args,ts⟩:=c
  cases cal with
  |builtin b=>
   cases b <;> first
    |(cases hk;done)
    |(simp only[execOp,resolve,aK,aP,Result.andThen,invoke,builtin]at h;exact iV (by rw[aK];exact h))
  |value f=>cases hk
  |invoke r m=>cases hk
 all_goals cases hk
theorem Sl.uniq{n:Nat}{U σ':Nat->Value}{a:Act}(h:Sl n U a)(h':Sl n σ' a):U=σ':=funext λt=>(h.get t).symm.trans<|h'.get t
section
variable {P:Program}{n:Nat}{ops:Array Oper}{w:World}{Q:dL}{U:Nat->Value}{o:Oper}{rest l:List Oper}
def RO(P:Program)(n:Nat)(ops:Array Oper)(w:World)(Q:dL):List Oper->(Nat->Value)->Prop
 | [],U=>Q .normal U w
 |o::rest,U=>RL P n ops [o] U w (λex σ' w'=>ex = .normal/\w'=w/\RO P n ops w Q rest σ')
theorem E8(h:RL P n ops [o] U w (λex σ' w'=>ex = .normal/\w'=w/\RO P n ops w Q rest σ')):RO P n ops w Q (o::rest) U:=h
theorem t_(h:RL P n ops [o] U w (λex σ' w'=>ex = .normal/\w'=w/\RO P n ops w Q rest σ')):RL P n ops [] U w (λex σ' w'=>ex = .normal/\w'=w/\RO P n ops w Q (o::rest) σ'):=w_ ⟨rfl,rfl,h⟩
theorem EN(h:Q .normal U w):RL P n ops [] U w (λex σ' w'=>ex = .normal/\w'=w/\RO P n ops w Q [] σ'):=w_ ⟨rfl,rfl,h⟩
def t9(P:Program)(ops:Array Oper)(w:World)(a:Act)(o:Oper)(v:Value):Prop:=
 (Region.wanted o (yielded ops a.tmps)=true/\(execOp a.eval o).run P w = .ok (.value v) w)\/(Region.wanted o (yielded ops a.tmps)=false/\v=undef)
theorem Gw{a:Act}{d:Nat}(hs:Sl n U a)(hk:mX o.op=true)(hd:o.dst=some d)(hdn:Nat.blt d n=true)(h:RO P n ops w Q (o::rest) U):
  ∃v,t9 P ops w a o v/\RO P n ops w Q rest (cD U d v):=by
 have h1:=h a hs;unfold wpList at h1;split at h1
 ·rename_i hw
  rcases h1 with h1|⟨_,h1⟩
  ·unfold Oper.wp at h1
   cases hr:(execOp a.eval o).run P w with
   |ok nx w'=>
    rw[hr]at h1;obtain⟨v,rfl⟩:=uA hk hr;obtain⟨σ',hs',_,hw',hrest⟩:=h1;have hw':w'=w:=hw';subst hw';rw[hd]at hs';have:=hs'.uniq<|hs.put hdn v
    subst this;exact⟨v, .inl ⟨hw,hr⟩,hrest⟩
   |halt x w'=>
    rw[hr]at h1
    cases x with
    |panic v=>obtain⟨_,_,hbad,_⟩:=h1;cases hbad
    |_=>exact h1.elim
  ·obtain⟨_,_,_,_,hbad,_⟩:=h1;cases hbad
 ·rename_i hw;obtain⟨σ',hs',_,_,hrest⟩:=h1;rw[hd]at hs';have:=hs'.uniq<|hs.put hdn undef
  subst this;exact⟨undef, .inr ⟨by grind,rfl⟩,hrest⟩
def qn(U:Nat->Value):List Oper->List Value->(Nat->Value)
 |o::l,v::vs=>qn (match o.dst with|some d=>cD U d v|none=>U) l vs
 |_,_=>U
theorem Gx:∀(l:List Oper)(U:Nat->Value)(a:Act),Sl n U a->(∀o∈l,mX o.op=true/\∃d,o.dst=some d/\Nat.blt d n=true)->RO P n ops w Q l U->
  ∃vs:List Value,vs.length=l.length/\Q .normal (qn U l vs) w/\∀(j:Nat)o v,l[j]? =some o->vs[j]? =some v->∃aj,Sl n (qn U (l.take j)<|vs.take j) aj/\t9 P ops w aj o v:=by
 intro l
 induction l with
 |nil=>intro U a hs _ h;exact⟨[],rfl,h,λj o v ho=>by simp at ho⟩
 |cons o l ih=>
  intro U a hs hk h;obtain⟨hk1,d,hd,hdn⟩:=hk o (by simp);obtain⟨v,hst,hrest⟩:=Gw hs hk1 hd hdn h;obtain⟨vs,hl,hq,hj⟩:=ih (cD U d v) _ (hs.put hdn v) (λo' ho'=>hk o' (by simp[ho'])) hrest;refine⟨v::vs,by simp[hl],?_,λj o' v' ho hv=>?_⟩
  ·grind [qn]
  ·cases j with
   |zero=>
    simp at ho hv;subst ho;subst hv;exact⟨a,hs,hst⟩
   |succ j=>
    grind [qn]
theorem mY{t:Nat}:∀(l:List Oper)(vs:List Value)(U:Nat->Value),(∀o∈l,o.dst≠some t)->qn U l vs t=U t
 | [],_,U,_=>rfl
 |_::_,[],U,_=>rfl
 |o::l,v::vs,U,h=>by
  unfold qn;rw[mY l vs _<|λo' ho=>h o' (by simp[ho])]
  cases hd:o.dst with
  |none=>rfl
  |some d=>
   have hne:t≠d:=λe=>h o (by simp) (by rw[hd,e]);show cD U d v t=U t;unfold cD
   cases hb:Nat.beq t d with
   |true=>exact absurd (cS hb) hne
   |false=>rfl
theorem tm{t:Nat}:∀(l:List Oper)(vs:List Value)(U:Nat->Value)(j:Nat)(o:Oper)(v:Value),l[j]? =some o->vs[j]? =some v->o.dst=some t->
  (∀(k:Nat)o',l[k]? =some o'->k≠j->o'.dst≠some t)->qn U l vs t=v
 | [],_,_,_,_,_,h,_,_,_=>by simp at h
 |_::_,[],_,_,_,_,_,h,_,_=>by simp at h
 |o::l,v::vs,U,0,o',v',ho,hv,hd,hu=>by
  simp at ho hv;subst ho;subst hv;unfold qn
  rw[mY l vs _ (λo' ho=>by
   obtain⟨k,hk⟩:=List.mem_iff_getElem?.1 ho
   exact hu (k+1) o' (by grind) (by omega)),hd]
  show cD U t v t=v;unfold cD;rw[Nat.beq_refl];rfl
 |o::l,v::vs,U,j+1,o',v',ho,hv,hd,hu=>by
  unfold qn;exact tm l vs _ j o' v' (by grind) (by grind) hd<|λk o2 hk hne=>hu (k+1) o2 (by grind) (by omega)
def oU(o:Oper)(k:Nat):Bool:=o.after.toList.any λe=>Region.binds .any e&&Nat.beq e.on k
def qo(ops:Array Oper)(o:Oper)(d:Nat):Bool:=(o.looksAt ops).any λt=>Nat.beq t d
def qX(ops:Array Oper)(i:Nat)(o:Oper)(k:Nat)(o':Oper):Bool:=
 Nat.beq i k||match o'.dst with
  |some d=>(match o.dst with|some d2=> !Nat.beq d d2|none=>true)&&(!qo ops o d||(bif Nat.blt k i then oU o k else oU o' i))
  |none=>false
def sC(ops:Array Oper)(i:Nat)(o:Oper):Nat->List Oper->Bool
 |_,[]=>true
 |k,o'::l=>qX ops i o k o'&&sC ops i o (k+1) l
def uB(n:Nat)(ops:Array Oper)(l:List Oper):Nat->List Oper->Bool
 |_,[]=>true
 |i,o::l'=>mX o.op&&(match o.dst with|some d=>Nat.blt d n|none=>false)&&sC ops i o 0 l&&uB n ops l (i+1) l'
theorem oV{i:Nat}:∀{k:Nat}{l:List Oper},sC ops i o k l=true->∀(j:Nat)o',l[j]? =some o'->qX ops i o (k+j) o'=true
 |_,[],_,j,o',h=>by simp at h
 |k,p::l,hs,0,o',h=>by
  unfold sC at hs;rw[bS]at hs;simp at h;subst h;exact hs.1
 |k,p::l,hs,j+1,o',h=>by
  unfold sC at hs;rw[bS]at hs;have:=oV hs.2 j o' (by simpa using h);rw[show k+(j+1)=k+1+j by omega];exact this
theorem uC{l0:List Oper}:∀{i:Nat}{l:List Oper},uB n ops l0 i l=true->∀(j:Nat)o,l[j]? =some o->mX o.op=true/\(∃d,o.dst=some d/\Nat.blt d n=true)/\sC ops (i+j) o 0 l0=true
 |_,[],_,j,o',h=>by simp at h
 |i,p::l,hs,0,o',h=>by
  unfold uB at hs;simp only[bS]at hs;simp at h;subst h;refine⟨hs.1.1.1,?_,hs.1.2⟩;have:=hs.1.1.2
  cases hd:p.dst with
  |none=>rw[hd]at this;cases this
  |some d=>rw[hd]at this;exact⟨d,rfl,this⟩
 |i,p::l,hs,j+1,o',h=>by
  unfold uB at hs;simp only[bS]at hs;have:=uC hs.2 j o' (by simpa using h);rw[show i+(j+1)=i+1+j by omega];exact this
theorem iL{D:Nat->Bool}{k:Nat}:∀{l:List Edge},iK D l->(l.any λe=>Region.binds .any e&&Nat.beq e.on k)=true->D k=true
 | [],_,h=>by cases h
 |e::l,hd,h=>by
  rw[List.any_cons,dQ,bS]at h
  rcases h with⟨h1,h2⟩|h
  ·have:=hd.1 h1;rwa[cS h2]at this
  ·exact iL hd.2 h
theorem l8{a a':Act}{U σ':Nat->Value}(hs:Sl n U a)(hs':Sl n σ' a')(h:∀t,qo ops o t=true->U t=σ' t)(hsz:∀(g:Nat)o2 d,ops[g]? =some o2->o2.dst=some d->d<n):
  Region.wanted o (yielded ops a.tmps)=Region.wanted o (yielded ops a'.tmps):=by
 unfold Region.wanted;split
 ·rfl
 ·rename_i g want hg;have:yielded ops a.tmps g=yielded ops a'.tmps g:=by
   unfold yielded
   cases ho:ops[g]? with
   |none=>rfl
   |some o2=>
    cases hd:o2.dst with
    |none=>simp[hd]
    |some d=>
     have hlt:=hsz g o2 d ho hd
     have he:=h d (by
      unfold qo Oper.looksAt
      simp_all)
     have h1:=hs.get d;have h2:=hs'.get d;have l1:d<a.tmps.size:=by rw[hs.size];exact hlt
     have l2:d<a'.tmps.size:=by rw[hs'.size];exact hlt
     simp_all
  rw[this]
theorem l9{F:Nat->Oper->Prop}:∀{k:Nat}{l:List Oper},(∀(i:Nat)o,l[i]? =some o->F (k+i) o)->jw F k l
 |_,[],_=>trivial
 |k,p::l,h=>⟨h 0 p rfl,l9 (λi o ho=>by have:=h (i+1) o (by grind);grind)⟩
theorem oW(D:Nat->Bool)(i:Nat):ins D i i=true:=by simp[ins,Nat.beq_refl]
theorem jK{D:Nat->Bool}{i j:Nat}(h:j≠i):ins D i j=D j:=by
 unfold ins
 simp_all
theorem E9{id:Nat}{l:List Oper}(hm:P.follows .mixedOrders=true)(h:RO P n l.toArray w.drew Q l U)(hdep:mP 0 l=true:=by exact rfl)(hro:uB n l.toArray l 0 l=true:=by kernel_rfl):RC P n (.region id l.toArray true) U w Q:=by
 intro a0 ha0;have hA:=λj o(ho:l[j]? =some o)=>uC hro j o ho
 obtain⟨vs,hvl,hq,hst⟩:=Gx l U a0 ha0 (λo ho=>by
  grind [List.mem_iff_getElem?]) h
 have hsz:∀(g:Nat)o2 d,l.toArray[g]? =some o2->o2.dst=some d->d<n:=λg o2 d ho hd=>by
  grind [Nat.blt_eq]
 have hdist:∀(i k:Nat)o o' t,l[i]? =some o->l[k]? =some o'->k≠i->o.dst=some t->o'.dst≠some t:=λi k o o' t ho ho' hne hd hd'=>by
  have hp:=oV (hA i o ho).2.2 k o' ho';unfold qX at hp
  simp_all
 refine FI (U:=U) (w:=w) hm hdep (λD σ' w'=>w'=w.drew/\(∀(i:Nat)o v t,l[i]? =some o->vs[i]? =some v->o.dst=some t->D i=true->σ' t=v)/\(∀t,(∀(i:Nat)o,l[i]? =some o->o.dst=some t->D i=false)->σ' t=U t)) ?_ ?_ ?_ a0 ha0
 ·simp
 ·refine l9 λi o ho=>?_;rw[fM];rintro D σ' w' hD hdeps hcl⟨rfl,hJ1,hJ2⟩;obtain⟨hk,⟨d,hd,hdn⟩,hrow⟩:=hA i o ho;rw[fM]at hrow;have hiv:i<vs.length:=by grind
  obtain⟨ai,hsi,hstp⟩:=hst i o vs[i] ho<|aM hiv
  have hag:∀t,qo l.toArray o t=true->qn U (l.take i) (vs.take i) t=σ' t:=by
   intro t ht
   by_cases hex:∃(k:Nat)(o':Oper),l[k]? =some o'/\o'.dst=some t
   ·obtain⟨k,o',ho',hd'⟩:=hex;have hkv:k<vs.length:=by rw[hvl];exact(bG.1 ho').1
    by_cases hki:k<i
    ·have hp:=oV hrow k o' ho';rw[fM]at hp;unfold qX at hp;rw[hd',dQ]at hp
     rcases hp with hp|hp
     ·have:=cS hp;omega
     simp only[bS,dQ,Bool.not_eq_true']at hp;have hp2:=hp.2;rw[ht]at hp2
     rcases hp2 with hp2|hp2
     ·cases hp2
     have hb:Nat.blt k i=true:=by rw[Nat.blt_eq];exact hki
     rw[hb]at hp2;have hDk:=iL hdeps hp2;rw[hJ1 k o' vs[k] t ho' (aM hkv) hd' hDk];refine tm (l.take i) (vs.take i) U k o' vs[k] (by rw[fR,aG hki];exact ho') (by rw[fR,aG hki];exact aM hkv) hd' λk2 o2 hk2 hne=>?_;rw[fR]at hk2;split at hk2
     ·exact hdist k k2 o' o2 t ho' hk2 hne hd'
     ·cases hk2
    ·have hDk:D k=false:=by
      by_cases he:k=i
      ·subst he;exact hD
      ·have hp:=oV hrow k o' ho';rw[fM]at hp;unfold qX at hp;rw[hd',dQ]at hp
       rcases hp with hp|hp
       ·have:=cS hp;omega
       simp only[bS,dQ,Bool.not_eq_true']at hp;have hp2:=hp.2;rw[ht]at hp2
       rcases hp2 with hp2|hp2
       ·cases hp2
       have hb:Nat.blt k i=false:=by
        cases hx:Nat.blt k i with
        |false=>rfl
        |true=>rw[Nat.blt_eq]at hx;omega
       rw[hb]at hp2;refine nf λhDk=>?_;have:=iL (hcl k o' ho' hDk) hp2;rw[hD]at this;cases this
     rw[hJ2 t λk2 o2 ho2 hd2=>?_]
     ·refine mY _ _ _ λo2 ho2 hd2=>?_;obtain⟨k2,hk2⟩:=List.mem_iff_getElem?.1 ho2;rw[fR]at hk2;split at hk2
      ·rename_i hlt;exact hdist k k2 o' o2 t ho' hk2 (by omega) hd' hd2
      ·cases hk2
     ·by_cases he:k2=k
      ·subst he;exact hDk
      ·exact absurd hd2<|hdist k k2 o' o2 t ho' ho2 he hd'
   ·rw[hJ2 t λk o' ho' hd'=>absurd ⟨k,o',ho',hd'⟩ hex];refine mY _ _ _ λo2 ho2 hd2=>?_;obtain⟨k2,hk2⟩:=List.mem_iff_getElem?.1 ho2;rw[fR]at hk2;split at hk2
    ·exact hex ⟨k2,o2,hk2,hd2⟩
    ·cases hk2
  intro a' hs';have hrun:execOp a'.eval o=execOp ai.eval o:=execOp_congr o (λcs b e=>by rw[e]at hk;cases hk) λx hx=>by
   rw[hs'.ev,hsi.ev]
   cases x with
   |tmp t=>
    refine(hag t ?_).symm;unfold qo Oper.looksAt;rw[List.any_append,dQ];left;rw[jv];exact⟨t,List.mem_filterMap.2 ⟨.tmp t,by simpa using hx,rfl⟩,Nat.beq_refl t⟩
   |_=>rfl
  have hwant:=l8 (ops:=l.toArray) (o:=o) hsi hs' hag hsz;have hfin:∀v,vs[i]? =some v->(∀(k:Nat)o2 u t,l[k]? =some o2->vs[k]? =some u->o2.dst=some t->ins D i k=true->cD σ' d v t=u)/\(∀t,(∀(k:Nat)o2,l[k]? =some o2->o2.dst=some t->ins D i k=false)->cD σ' d v t=U t):=by
   intro v hv;refine⟨λk o2 u t ho2 hu hd2 hDk=>?_,λt ht=>?_⟩
   ·by_cases he:k=i
    ·subst he;rw[ho]at ho2;injection ho2 with ho2;subst ho2
     rw[hd]at hd2;injection hd2 with hd2;subst hd2
     rw[hv]at hu;injection hu with hu;subst hu
     unfold cD;rw[Nat.beq_refl];rfl
    ·rw[jK he]at hDk;have hne:t≠d:=λe=>by subst e;exact hdist i k o o2 t ho ho2 he hd hd2
     unfold cD
     cases hb:Nat.beq t d with
     |true=>exact absurd (cS hb) hne
     |false=>exact hJ1 k o2 u t ho2 hu hd2 hDk
   ·have hne:t≠d:=λe=>by
     subst e;have:=ht i o ho hd;rw[oW]at this;cases this
    unfold cD
    cases hb:Nat.beq t d with
    |true=>exact absurd (cS hb) hne
    |false=>
     refine hJ2 t λk o2 ho2 hd2=>?_;have:=ht k o2 ho2 hd2
     by_cases he:k=i
     ·subst he;exact hD
     ·rw[jK he]at this;exact this
  unfold wpList
  rcases hstp with⟨hw1,hr1⟩|⟨hw1,hv1⟩
  ·rw[hwant]at hw1;rw[aG hw1];left;unfold Oper.wp;rw[hrun,hr1];refine⟨cD σ' d vs[i],?_,rfl,rfl,hfin _<|aM hiv⟩;rw[hd];exact hs'.put hdn _
  ·rw[hwant]at hw1;rw[aH (by rw[hw1];exact tc)];refine⟨cD σ' d undef,?_,rfl,rfl,hfin _ (by rw[<-hv1];exact aM hiv)⟩;rw[hd];exact hs'.put hdn _
 ·rintro D σ' w' hall⟨rfl,hJ1,hJ2⟩;have:σ'=qn U l vs:=by
   funext t
   by_cases hex:∃(k:Nat)(o':Oper),l[k]? =some o'/\o'.dst=some t
   ·obtain⟨k,o',ho',hd'⟩:=hex;have hkl:=(bG.1 ho').1;have hkv:k<vs.length:=by rw[hvl];exact hkl
    rw[hJ1 k o' vs[k] t ho' (aM hkv) hd'<|hall k hkl];exact(tm l vs U k o' vs[k] ho' (aM hkv) hd' λk2 o2 hk2 hne=>hdist k k2 o' o2 t ho' hk2 hne hd').symm
   ·rw[hJ2 t λk o' ho' hd'=>absurd ⟨k,o',ho',hd'⟩ hex];refine(mY _ _ _ λo2 ho2 hd2=>?_).symm;obtain⟨k2,hk2⟩:=List.mem_iff_getElem?.1 ho2;exact hex ⟨k2,o2,hk2,hd2⟩
  rw[this];exact hq
end
def z9:List (Nat×Value)->Nat->Value
 | [],_=>undef
 |(d,v)::r,t=>bif Nat.beq d t then v else z9 r t
def uD:List (Nat×Nat×Value)->List (Nat×Value)->Nat->Value
 | [],ag,t=>z9 ag t
 |(_,d,v)::r,ag,t=>bif Nat.beq d t then v else uD r ag t
def uE(dv:List (Nat×Nat×Value))(ag:List (Nat×Value)):Operand->Value
 | .tmp t=>uD dv ag t
 | .const v=>v
 | .global g=> .pointer (some ⟨g,0,none⟩)
 | .func f=> .func (.func f) #[] #[]
def jf(ops:Array Oper)(o:Oper):Operand->Bool
 | .tmp t=>qo ops o t
 |_=>true
def Pu(P:Program)(n:Nat)(ops:Array Oper)(o:Oper)(dv:List (Nat×Nat×Value))(ag:List (Nat×Value)):Prop:=
 ∀(U:Nat->Value)(w:World),(∀q,jf ops o q=true->ev U q=uE dv ag q)->RL P n ops [o] U w (λex σ' w'=>ex = .normal/\w'=w/\∃d,o.dst=some d/\σ'=cD U d (uD dv ag d))
section
variable {P:Program}{n:Nat}{ops:Array Oper}{U:Nat->Value}{w:World}{d:Nat}{v u:Value}{rest:List Oper}{ty T T':TypeId}{pos:String}{af:Array Edge}{g:Option (Nat×Bool)}{x y z:Operand}{Q:dL}
theorem GQ(h:v=u):RL P n ops [] (cD U d v) w (λex σ' w'=>ex = .normal/\w'=w/\∃d',(some d:Option Nat)=some d'/\σ'=cD U d' (bif Nat.beq d d' then u else undef)):=
 by grind [w_,Nat.beq_refl]
theorem E1{f:Nat->Value}(h:v=f d):RL P n ops [] (cD U d v) w (λex σ' w'=>ex = .normal/\w'=w/\∃d',(some d:Option Nat)=some d'/\σ'=cD U d' (f d')):=
 by grind [w_]
theorem Gy{b:Bool}(hg:Wn ops U g)(hd:Nat.blt d n=true)(hx:ev U x = .bool b)(hb:b=true)(hv:ev U y=v)(k:RL P n ops rest (cD U d v) w Q):
  RL P n ops (⟨some d, .pick x y z,ty,pos,af,g⟩::rest) U w Q:=by grind [EL]
theorem Gz{b:Bool}(hg:Wn ops U g)(hd:Nat.blt d n=true)(hx:ev U x = .bool b)(hb:b=false)(hv:ev U z=v)(k:RL P n ops rest (cD U d v) w Q):
  RL P n ops (⟨some d, .pick x y z,ty,pos,af,g⟩::rest) U w Q:=by grind [EL]
theorem Wn.k{j t:Nat}{b:Bool}(h1:(ops[j]?).bind (·.dst)=some t)(h:ev U (.tmp t) = .bool b):Wn ops U (some (j,b)):=⟨t,h1,h⟩
theorem Wn.h{j t:Nat}{a b:Bool}(h1:(ops[j]?).bind (·.dst)=some t)(h:ev U (.tmp t) = .bool a)(e:a=b):Wn ops U (some (j,b)):=⟨t,h1,by rw[<-e];exact h⟩
theorem GA{op:Op}{j t:Nat}{a b:Bool}(ht:(ops[j]?).bind (·.dst)=some t)(hv:ev U (.tmp t) = .bool a)(e:a = !b)(hd:Nat.blt d n=true)
  (k:RL P n ops rest (cD U d undef) w Q):RL P n ops (⟨some d,op,ty,pos,af,some (j,b)⟩::rest) U w Q:=FD ht (.inl (by rw[<-e];exact hv)) hd k
end
def om:List (Nat×Nat×Value)->Nat->Option Nat
 | [],_=>none
 |(k,d,_)::r,t=>bif Nat.beq d t then some k else om r t
def wY(ag:List (Nat×Value))(t:Nat):Bool:=ag.any λp=>Nat.beq p.1 t
def Ax(ops:Array Oper)(i:Nat)(o:Oper)(cs:List Nat)(dv:List (Nat×Nat×Value))(ag:List (Nat×Value))(od:List (Nat×Nat×Value)):Bool:=
 ((o.looksAt ops).all λt=>match om dv t with|some k=>oU o k|none=>wY ag t)&&
 (match o.dst with
  |some d=>Nat.beq (om dv d).isNone.toNat 0&&(dv.all λe=>(!Nat.beq e.1 i||Nat.beq e.2.1 d)&&(!Nat.beq e.2.1 d||Nat.beq e.1 i))&&Nat.beq (dv.filter λe=>Nat.beq e.2.1 d).length 1&& !wY ag d&&
    (od.all λe=>Nat.beq e.1 i|| !Nat.beq e.2.1 d)
  |none=>false)&&(cs.all λc=> !Nat.beq c i)&& !Nat.beq i 999
def uF(ops:Array Oper)(cs:List Nat)(dv:List (Nat×Nat×Value))(ag:List (Nat×Value))(od:List (Nat×Nat×Value)):Nat->List Oper->List Nat->Bool
 |_,[],_=>true
 |_,_::_,[]=>false
 |i,o::l,m::ms=>(!Nat.beq m 1||Ax ops i o cs dv ag od)&&uF ops cs dv ag od (i+1) l ms
theorem uG{ops:Array Oper}{cs:List Nat}{dv:List (Nat×Nat×Value)}{ag:List (Nat×Value)}{od:List (Nat×Nat×Value)}:∀{i:Nat}{l:List Oper}{ms:List Nat},uF ops cs dv ag od i l ms=true->
  ∀(j:Nat)o,l[j]? =some o->ms[j]? =some 1->Ax ops (i+j) o cs dv ag od=true
 |_,[],_,_,j,o,h,_=>by simp at h
 |_,_::_,[],h0,_,_,_,h=>by simp at h
 |i,p::l,m::ms,h0,0,o,h,hm=>by
  unfold uF at h0;rw[bS]at h0;simp at h hm;subst h;subst hm
  rcases dQ _ _▸h0.1 with h|h
  ·cases h
  ·exact h
 |i,p::l,m::ms,h0,j+1,o,h,hm=>by
  unfold uF at h0;rw[bS]at h0;have:=uG h0.2 j o (by simpa using h) (by grind);rw[show i+(j+1)=i+1+j by omega];exact this
theorem pB{ag:List (Nat×Value)}{t k:Nat}:∀{dv:List (Nat×Nat×Value)},om dv t=some k->∃v,(k,t,v)∈dv/\uD dv ag t=v
 | [],h=>by cases h
 |(k',d,v)::r,h=>by
  unfold om at h;unfold uD
  cases hb:Nat.beq d t with
  |true=>
   rw[hb]at h;simp at h;subst h;have:=cS hb;subst this;exact⟨v,by simp,rfl⟩
  |false=>
   rw[hb]at h;obtain⟨u,h1,h2⟩:=pB (ag:=ag) h;exact⟨u,by simp[h1],h2⟩
theorem qY{ag:List (Nat×Value)}{t:Nat}:∀{dv:List (Nat×Nat×Value)},om dv t=none->uD dv ag t=z9 ag t
 | [],_=>rfl
 |(k',d,v)::r,h=>by
  unfold om at h;unfold uD
  cases hb:Nat.beq d t with
  |true=>rw[hb]at h;cases h
  |false=>rw[hb]at h;exact qY h
theorem cM.mem{D:Nat->Bool}{U:Nat->Value}{k t:Nat}{v:Value}:∀{dv:List (Nat×Nat×Value)},cM D U dv->(k,t,v)∈dv->D k=true->U t=v
 | [],_,h,_=>by cases h
 |(i,d,u)::r,hd,h,hD=>by
  rcases gC.1 h with e|h
  ·injection e with e1 e2;injection e2 with e2 e3;subst e1;subst e2;subst e3;exact hd.1 hD
  ·exact hd.2.mem h hD
theorem cM.of{D:Nat->Bool}{U:Nat->Value}:∀{dv:List (Nat×Nat×Value)},(∀k t v,(k,t,v)∈dv->D k=true->U t=v)->cM D U dv
 | [],_=>trivial
 |(i,d,u)::r,h=>⟨h i d u (by simp),cM.of λk t v hm=>h k t v (by simp[hm])⟩
theorem agree.z9{U:Nat->Value}{t:Nat}:∀{ag:List (Nat×Value)},agree U ag->wY ag t=true->U t=z9 ag t
 | [],_,h=>by cases h
 |(d,v)::r,ha,h=>by
  unfold Gk.z9
  cases hb:Nat.beq d t with
  |true=>have:=cS hb;subst this;exact ha.1
  |false=>
   unfold wY at h;rw[List.any_cons,hb]at h;exact agree.z9 ha.2 h
theorem agree.DO{U:Nat->Value}{d:Nat}{v:Value}:∀{ag:List (Nat×Value)},agree U ag->wY ag d=false->agree (cD U d v) ag
 | [],_,_=>trivial
 |(t,u)::r,ha,h=>by
  unfold wY at h;rw[List.any_cons,Bool.or_eq_false_iff]at h;refine⟨?_,agree.DO ha.2 h.2⟩;unfold cD;rw[h.1];exact ha.1
theorem FN{P:Program}{n:Nat}{U:Nat->Value}{w:World}(E:World){Q:dL}(V:List HP){X:Type}{id:Nat}{l:List Oper}(hm:P.follows .mixedOrders=true)(hdep:mP 0 l=true)(ms cs:List Nat)(dv:X->List (Nat×Nat×Value))(ag:List (Nat×Value))(od:List (Nat×Nat×Value))(g:(Nat->Bool)->X->List HP)(hpu:∀x,uF l.toArray cs (dv x) ag od 0 l ms=true)(h0:∃x,cM (λ_=>false) U (dv x)/\agree U ag/\lA (λ_=>false) U od/\Holds E w.drew (g (λq=>(λ_=>false) (cs.getD q 999)) x++V))(step:jw (λi o=>bif Nat.beq (ms.getD i 0) 1 then(∀x,Pu P n l.toArray o (dv x) ag)else
   (∀D U w,D i=false->iK D o.after.toList->l3 l D->(∃x,cM D U (dv x)/\agree U ag/\lA D U od/\Holds E w (g (λq=>D (cs.getD q 999)) x++V))->
    RL P n l.toArray [o] U w (λex U w=>ex = .normal/\∃x,cM (ins D i) U (dv x)/\agree U ag/\lA (ins D i) U od/\Holds E w (g (λq=>ins D i (cs.getD q 999)) x++V)))) 0 l) (hend:∀D U w,(∀i,i<l.length->D i=true)->(∃x,cM D U (dv x)/\agree U ag/\lA D U od/\Holds E w (g (λq=>D (cs.getD q 999)) x++V))->Q .normal U w):RC P n (.region id l.toArray true) U w Q:=by
 refine FI hm hdep (λD U w=>∃x,cM D U (dv x)/\agree U ag/\lA D U od/\Holds E w (g (λq=>D<|cs.getD q 999) x++V)) h0 ?_ hend;refine l9 λi o ho=>?_;have hs:=step.at i o ho;rw[fM]at hs ⊢
 cases hmi:Nat.beq (ms.getD i 0) 1 with
 |false=>grind
 |true=>
  rw[hmi]at hs;have hs:∀x,Pu P n l.toArray o (dv x) ag:=hs;have hms:ms[i]? =some 1:=by
   grind [cS]
  rintro D U w hD hdeps hcl⟨x,hv,ha,hod,hw⟩;have hok:=uG (hpu x) i o ho hms;rw[fM]at hok;unfold Ax at hok;simp only[bS]at hok;obtain⟨⟨⟨h1,h2⟩,h3⟩,h4⟩:=hok;have hsee:∀q,jf l.toArray o q=true->ev U q=uE (dv x) ag q:=by
   intro q hq
   cases q with
   |tmp t=>
    have ht:t∈o.looksAt l.toArray:=by
     grind [jf,qo,jv,cS]
    have h1t:=gD.1 h1 t ht;show U t=uD (dv x) ag t
    cases hf:om (dv x) t with
    |some k=>
     rw[hf]at h1t;obtain⟨v,hm,hv2⟩:=pB (ag:=ag) hf;rw[hv2];exact hv.mem hm<|iL hdeps h1t
    |none=>
     rw[hf]at h1t;rw[qY hf];exact ha.z9 h1t
   |const v=>rfl
   |global g=>rfl
   |func f=>rfl
  have hrun:=hs x U w hsee;intro a haa;have hr:=hrun a haa
  cases hdst:o.dst with
  |none=>rw[hdst]at h2;cases h2
  |some d=>
   rw[hdst]at h2;simp only[bS]at h2;obtain⟨⟨⟨⟨e1,e2⟩,e3⟩,e4⟩,e5⟩:=h2;obtain⟨k0,hf⟩:∃k,om (dv x) d=some k:=by
    cases hf:om (dv x) d with
    |some k=>exact⟨k,rfl⟩
    |none=>rw[hf]at e1;cases e1
   obtain⟨v,hmv,hv2⟩:=pB (ag:=ag) hf;have fin:∀σ',σ'=cD U d v->∃x,cM (ins D i) σ' (dv x)/\agree σ' ag/\lA (ins D i) σ' od/\Holds E w (g (λq=>ins D i<|cs.getD q 999) x++V):=by
    rintro σ' rfl
    refine⟨x,cM.of λk t u hm hDk=>?_,ha.DO (by simpa using e4),hod.up (by
     rw[gD];intro e he;have:=gD.1 e5 e he
     exact this),?_⟩
    ·have he:=gD.1 e2 (k,t,u) hm;simp only[bS,dQ,Bool.not_eq_true']at he
     by_cases htd:t=d
     ·subst htd;have hlen:=cS e3;have hm1:(k,t,u)∈(dv x).filter λe=>Nat.beq e.2.1 t:=by rw[jt];exact⟨hm,Nat.beq_refl t⟩
      have hm2:(k0,t,v)∈(dv x).filter λe=>Nat.beq e.2.1 t:=by rw[jt];exact⟨hmv,Nat.beq_refl t⟩
      obtain⟨z,hz⟩:=List.length_eq_one_iff.1 hlen;rw[hz]at hm1 hm2;simp at hm1 hm2;have:=hm1.trans hm2.symm;injection this with _ this;injection this with _ this
      subst this;unfold cD;rw[Nat.beq_refl];rfl
     ·have hki:k≠i:=λe=>by
       subst e
       rcases he.1 with h|h
       ·rw[Nat.beq_refl]at h;cases h
       ·exact htd<|cS h
      rw[jK hki]at hDk;unfold cD
      cases hb:Nat.beq t d with
      |true=>exact absurd (cS hb) htd
      |false=>exact hv.mem hm hDk
    ·have:(λq=>ins D i<|cs.getD q 999)=(λq=>D<|cs.getD q 999):=by
      funext q;refine jK λe=>?_;rw[List.getD_eq_getElem?_getD]at e
      cases hq:cs[q]? with
      |some c=>
       rw[hq]at e;have hc:=gD.1 h3 c<|dW hq
       have e:c=i:=e;subst e;rw[Nat.beq_refl]at hc;cases hc
      |none=>
       rw[hq]at e;have e:999=i:=e;subst e;cases h4
     rw[this];exact hw
   unfold wpList at hr ⊢;split at hr
   ·rename_i hwn;rw[aG hwn]
    rcases hr with hr|⟨h2,h3⟩
    ·refine .inl<|qP (λa w' h=>?_) (λc a w' h=>?_) (λh=>?_) hr
     ·obtain⟨σ',hs',_,hw',d',hd',he⟩:=h;have hd':some d=some d':=by rw[<-hdst];exact hd'
      injection hd' with hd';subst hd'
      have hw':w'=w:=hw';subst hw';exact⟨σ',hs',rfl,fin σ' (by rw[he,hv2])⟩
     ·obtain⟨_,_,hbad,_⟩:=h;cases hbad
     ·obtain⟨_,_,_,_,hbad,_⟩:=h;cases hbad
    ·obtain⟨_,_,_,_,hbad,_⟩:=h3;cases hbad
   ·rename_i hwn;rw[aH hwn];obtain⟨σ',hs',_,hw',d',hd',he⟩:=hr;have hd':some d=some d':=by rw[<-hdst];exact hd'
    injection hd' with hd';subst hd'
    exact⟨σ',hs',rfl,fin σ' (by rw[he,hv2])⟩
section
variable {P:Program}{n:Nat}{ops:Array Oper}{d:Nat}{v u:Value}{ty T T' t0:TypeId}{pos:String}{af:Array Edge}{g:Option (Nat×Bool)}{q r y z:Operand}{dv:List (Nat×Nat×Value)}{ag:List (Nat×Value)}{a b:Bool}{o:Oper}
def PG(ops:Array Oper)(o:Oper)(dv:List (Nat×Nat×Value))(ag:List (Nat×Value))(g:Option (Nat×Bool)):Prop:=∀U:Nat->Value,(∀q,jf ops o q=true->ev U q=uE dv ag q)->Wn ops U g
theorem gn:PG ops o dv ag none:=λ_ _=>trivial
theorem gy{j t:Nat}(e:a=b)(h:((ops[j]?).bind (·.dst),jf ops o<|.tmp t,uE dv ag<|.tmp t)=(some t,true, .bool a)):PG ops o dv ag (some (j,b)):=λU hs=>by
 injection h with h1 h;injection h with h2 h3
 exact⟨t,h1,by have:=hs (.tmp t) h2;rw[h3,e]at this;exact this⟩
theorem zx{op:Op}{j t:Nat}(e:a = !b)(h:((ops[j]?).bind (·.dst),jf ops ⟨some d,op,ty,pos,af,some (j,b)⟩<|.tmp t,uE dv ag<|.tmp t,Nat.blt d n,undef)=(some t,true, .bool a,true,uD dv ag d)):
  Pu P n ops ⟨some d,op,ty,pos,af,some (j,b)⟩ dv ag:=λU w hs=>by
 injection h with h1 h;injection h with h2 h;injection h with h3 h;injection h with h4 h5
 exact GA h1 ((hs _ h2).trans h3) e h4<|E1 h5
theorem qZ(hg:PG ops ⟨some d, .move q,ty,pos,af,g⟩ dv ag g)(h:(Nat.blt d n,jf ops ⟨some d, .move q,ty,pos,af,g⟩ q,uE dv ag q)=(true,true,uD dv ag d):=by exact rfl):Pu P n ops ⟨some d, .move q,ty,pos,af,g⟩ dv ag:=λU w hs=>by
 injection h with h1 h;injection h with h2 h3
 exact D_ (hd:=h1) (hx:=hs _ h2) _ (hg U hs)<|E1 h3
theorem Bi(hg:PG ops ⟨some d, .assign q,ty,pos,af,g⟩ dv ag g)(h:(Nat.blt d n,jf ops ⟨some d, .assign q,ty,pos,af,g⟩ q,uE dv ag q)=(true,true,uD dv ag d)):Pu P n ops ⟨some d, .assign q,ty,pos,af,g⟩ dv ag:=λU w hs=>by
 injection h with h1 h;injection h with h2 h3
 exact FT (hg U hs) h1 (hs _ h2)<|E1 h3
theorem zy{c:Addr}(hg:PG ops ⟨some d, .nilCheck q,ty,pos,af,g⟩ dv ag g)(h:(Nat.blt d n,jf ops ⟨some d, .nilCheck q,ty,pos,af,g⟩ q,uE dv ag q,uD dv ag d)=(true,true, .pointer<|some c, .pointer<|some c)):Pu P n ops ⟨some d, .nilCheck q,ty,pos,af,g⟩ dv ag:=λU w hs=>by
 injection h with h1 h;injection h with h2 h;injection h with h3 h4
 exact EG (hg U hs) h1 ((hs _ h2).trans h3)<|E1 h4.symm
theorem wZ{c o' j m:Nat}(hg:PG ops ⟨some d, .fieldAddr T q j,ty,pos,af,g⟩ dv ag g)(hf:nM P T j m)(h:(Nat.blt d n,jf ops ⟨some d, .fieldAddr T q j,ty,pos,af,g⟩ q,uE dv ag q,uD dv ag d)=(true,true, .pointer<|some ⟨c,o',none⟩, .pointer<|some ⟨c,o'+m,none⟩):=by exact rfl):
  Pu P n ops ⟨some d, .fieldAddr T q j,ty,pos,af,g⟩ dv ag:=λU w hs=>by
 injection h with h1 h;injection h with h2 h;injection h with h3 h4
 exact u_ (hg:=hg U hs) (hd:=h1) ((hs _ h2).trans h3) hf<|E1 h4.symm
theorem Cl{bop:BinOp}{K:IntKind}{m k:Int}(hg:PG ops ⟨some d, .binOp bop T q r T',ty,pos,af,g⟩ dv ag g)
  (h:(Nat.blt d n,jf ops ⟨some d, .binOp bop T q r T',ty,pos,af,g⟩ q,jf ops ⟨some d, .binOp bop T q r T',ty,pos,af,g⟩ r,uE dv ag q,uE dv ag r,og bop,uD dv ag d)=(true,true,true, .int K m, .int K k,true, .bool<|j5 bop m k)):
  Pu P n ops ⟨some d, .binOp bop T q r T',ty,pos,af,g⟩ dv ag:=λU w hs=>by
 injection h with h1 h;injection h with h2 h;injection h with h3 h;injection h with h4 h;injection h with h5 h;injection h with h6 h7
 exact EJ (hd:=h1) (hx:=(hs _ h2).trans h4) (hy:=(hs _ h3).trans h5) (hc:=h6) _ _ (hg U hs)<|E1 h7.symm
theorem Cm{bop:BinOp}{K:IntKind}{m k:Int}(hg:PG ops ⟨some d, .binOp bop T q r T',ty,pos,af,g⟩ dv ag g)
  (h:(Nat.blt d n,jf ops ⟨some d, .binOp bop T q r T',ty,pos,af,g⟩ q,jf ops ⟨some d, .binOp bop T q r T',ty,pos,af,g⟩ r,uE dv ag q,uE dv ag r,A7 bop,uD dv ag d)=(true,true,true, .int K m, .int K k,true, .int K<|K.wrap<|mK bop m k)):
  Pu P n ops ⟨some d, .binOp bop T q r T',ty,pos,af,g⟩ dv ag:=λU w hs=>by
 injection h with h1 h;injection h with h2 h;injection h with h3 h;injection h with h4 h;injection h with h5 h;injection h with h6 h7
 exact Er (hg:=hg U hs) (hd:=h1) (hx:=(hs _ h2).trans h4) (hy:=(hs _ h3).trans h5) (hc:=h6) _ _<|E1 h7.symm
theorem Cn(hg:PG ops ⟨some d, .pick q y z,ty,pos,af,g⟩ dv ag g)(e:a=true)(h:(Nat.blt d n,jf ops ⟨some d, .pick q y z,ty,pos,af,g⟩ q,jf ops ⟨some d, .pick q y z,ty,pos,af,g⟩ y,uE dv ag q,uE dv ag y)=(true,true,true, .bool a,uD dv ag d)):
  Pu P n ops ⟨some d, .pick q y z,ty,pos,af,g⟩ dv ag:=λU w hs=>by
 injection h with h1 h;injection h with h2 h;injection h with h3 h;injection h with h4 h5
 exact Gy (hg U hs) h1 ((hs _ h2).trans h4) e (hs _ h3)<|E1 h5
theorem Co(hg:PG ops ⟨some d, .pick q y z,ty,pos,af,g⟩ dv ag g)(e:a=false)(h:(Nat.blt d n,jf ops ⟨some d, .pick q y z,ty,pos,af,g⟩ q,jf ops ⟨some d, .pick q y z,ty,pos,af,g⟩ z,uE dv ag q,uE dv ag z)=(true,true,true, .bool a,uD dv ag d)):
  Pu P n ops ⟨some d, .pick q y z,ty,pos,af,g⟩ dv ag:=λU w hs=>by
 injection h with h1 h;injection h with h2 h;injection h with h3 h;injection h with h4 h5
 exact Gz (hg U hs) h1 ((hs _ h2).trans h4) e (hs _ h3)<|E1 h5
end
def j7(o:Oper)(U:Nat->Value)(v:Value):Nat->Value:=match o.dst with|some d=>cD U d v|none=>U
def q8(acc:List Nat):List Edge->Nat
 | []=>0
 |e::r=>bif Region.binds .any e then Nat.lor (Nat.lor (Nat.shiftLeft 1 e.on) (acc.getD e.on 0)) (q8 acc r)else q8 acc r
def vE:List Oper->List Nat->List Nat
 | [],acc=>acc
 |o::l,acc=>vE l (acc++[q8 acc o.after.toList])
def vF(l:List Oper)(i:Nat)(rest:List Nat):Bool:=(List.range l.length).all λk=>Nat.beq k i||(rest.any λq=>Nat.beq q k)||Nat.testBit ((vE l []).getD i 0) k
section
variable {P:Program}{n:Nat}{l:List Oper}{mk:List Nat}{Q:dL}{U:Nat->Value}{w:World}{i:Nat}{rest:List Nat}{o:Oper}
def DP(P:Program)(n:Nat)(l:List Oper)(mk:List Nat)(Q:dL):(World->Prop)->List Nat->(Nat->Value)->World->Prop
 |_,[],U,w=>Q .normal U w
 |S,i::rest,U,w=>∃o,l[i]? =some o/\
  ((mk.getD i 0=0/\RL P n l.toArray [o] U w (λex σ' w'=>ex = .normal/\w'=w/\DP P n l mk Q S rest σ' w))\/
   (mk.getD i 0=1/\∃v,∃S1:World->Prop,(∀w2,S1 w2->S w2)/\(S w->S1 w)/\(∀w',S1 w'->RL P n l.toArray [o] U w' (λex σ' w''=>ex = .normal/\w''=w'/\σ'=j7 o U v))/\DP P n l mk Q S1 rest (j7 o U v) w)\/
   (mk.getD i 0=2/\∃S1:World->Prop,((∀w2,S1 w2->S w2)\/vF l i rest=true)/\RL P n l.toArray [o] U w (λex σ' w'=>ex = .normal/\S1 w'/\DP P n l mk Q S1 rest σ' w'))\/
   (mk.getD i 0=3/\∃T q b m row e ag k,o.op = .load T q/\ev U q = .pointer (some ⟨b,m,none⟩)/\je P T ag k/\m+k<=row.size/\m<row.size/\w.heap[b]? =some (.cells row e (0,0))/\
    RL P n l.toArray [o] U w (λex σ' w'=>ex = .normal/\w'=w/\DP P n l mk Q (λw2=>S w2/\w2.heap[b]? =some (.cells row e (0,0))) rest σ' w)))
section
variable {S:World->Prop}
theorem Eu(ho:l[i]? =some o)(hm:mk.getD i 0=0)(h:RL P n l.toArray [o] U w (λex σ' w'=>ex = .normal/\w'=w/\DP P n l mk Q S rest σ' w)):DP P n l mk Q S (i::rest) U w:=⟨o,ho, .inl ⟨hm,h⟩⟩
theorem EC(v:Value)(ho:l[i]? =some o)(h1:∀w',RL P n l.toArray [o] U w'<|λex σ' w''=>ex = .normal/\w''=w'/\σ'=j7 o U v)(h:DP P n l mk Q S rest (j7 o U v) w)(hm:mk.getD i 0=1:=by exact rfl):DP P n l mk Q S (i::rest) U w:=⟨o,ho, .inr<|.inl ⟨hm,v,S,λ_ h=>h,λh=>h,λw' _=>h1 w',h⟩⟩
theorem E_(v:Value)(ho:l[i]? =some o)(h1:∀w',S w'->RL P n l.toArray [o] U w' (λex σ' w''=>ex = .normal/\w''=w'/\σ'=j7 o U v))(h:DP P n l mk Q S rest (j7 o U v) w)(hm:mk.getD i 0=1:=by exact rfl):DP P n l mk Q S (i::rest) U w:=⟨o,ho, .inr<|.inl ⟨hm,v,S,λ_ h=>h,λh=>h,h1,h⟩⟩
theorem GB(v:Value)(S1:World->Prop)(hS:∀w2,S1 w2->S w2)(hS':S w->S1 w)(ho:l[i]? =some o)(hm:mk.getD i 0=1)(h1:∀w',S1 w'->RL P n l.toArray [o] U w' (λex σ' w''=>ex = .normal/\w''=w'/\σ'=j7 o U v))(h:DP P n l mk Q S1 rest (j7 o U v) w):DP P n l mk Q S (i::rest) U w:=⟨o,ho, .inr<|.inl ⟨hm,v,S1,hS,hS',h1,h⟩⟩
theorem EU(ho:l[i]? =some o)(hm:mk.getD i 0=2)(h:RL P n l.toArray [o] U w (λex σ' w'=>ex = .normal/\S w'/\DP P n l mk Q S rest σ' w')):DP P n l mk Q S (i::rest) U w:=⟨o,ho, .inr<|.inr<|.inl ⟨hm,S, .inl λ_ h=>h,h⟩⟩
theorem GC(ho:l[i]? =some o)(hm:mk.getD i 0=2)(hk:vF l i rest=true)(h:RL P n l.toArray [o] U w (λex σ' w'=>ex = .normal/\True/\DP P n l mk Q (λ_=>True) rest σ' w')):DP P n l mk Q S (i::rest) U w:=⟨o,ho, .inr<|.inr<|.inl ⟨hm,λ_=>True, .inr hk,h⟩⟩
theorem GR{T e:TypeId}{q:Operand}{b m k:Nat}{row:Array Value}{ag:Bool}(ho:l[i]? =some o)(hm:mk.getD i 0=3)(hop:o.op = .load T q)(hp:ev U q = .pointer (some ⟨b,m,none⟩))(hT:je P T ag k)(hh:w.heap[b]? =some (.cells row e (0,0))/\m+k<=row.size/\m<row.size)
  (h:RL P n l.toArray [o] U w (λex σ' w'=>ex = .normal/\w'=w/\DP P n l mk Q (λw2=>S w2/\w2.heap[b]? =some (.cells row e (0,0))) rest σ' w)):DP P n l mk Q S (i::rest) U w:=
 ⟨o,ho, .inr<|.inr<|.inr ⟨hm,T,q,b,m,row,e,ag,k,hop,hp,hT,hh.2.1,hh.2.2,hh.1,h⟩⟩
theorem EV(h:Q .normal U w):DP P n l mk Q S [] U w:=by grind [DP]
theorem EF{ops:Array Oper}(h:DP P n l mk Q S rest U w):RL P n ops [] U w (λex σ' w'=>ex = .normal/\w'=w/\DP P n l mk Q S rest σ' w):=by grind [w_]
theorem EA{ops:Array Oper}(hS:S w)(h:DP P n l mk Q S rest U w):RL P n ops [] U w (λex σ' w'=>ex = .normal/\S w'/\DP P n l mk Q S rest σ' w'):=by grind [w_]
theorem Ev{ops:Array Oper}{σ0:Nat->Value}(h:U=σ0:=by exact rfl):RL P n ops [] U w (λex σ' w'=>ex = .normal/\w'=w/\σ'=σ0):=by grind [w_]
end
end
section
variable {P:Program}{n:Nat}{ops:Array Oper}{U:Nat->Value}{w:World}{o:Oper}
theorem tn{a:Act}{d:Nat}{C:(Nat->Value)->Prop}(hs:Sl n U a)(hk:mX o.op=true)(hd:o.dst=some d)(hdn:Nat.blt d n=true)
  (h:RL P n ops [o] U w (λex σ' w'=>ex = .normal/\w'=w/\C σ')):∃v,t9 P ops w a o v/\C (cD U d v):=by
 have h1:=h a hs;unfold wpList at h1;split at h1
 ·rename_i hw
  rcases h1 with h1|⟨_,h1⟩
  ·unfold Oper.wp at h1
   cases hr:(execOp a.eval o).run P w with
   |ok nx w'=>
    rw[hr]at h1;obtain⟨v,rfl⟩:=uA hk hr;obtain⟨σ',hs',_,hw',hrest⟩:=h1;have hw':w'=w:=hw';subst hw';rw[hd]at hs';have:=hs'.uniq<|hs.put hdn v
    subst this;exact⟨v, .inl ⟨hw,hr⟩,hrest⟩
   |halt x w'=>
    rw[hr]at h1
    cases x with
    |panic v=>obtain⟨_,_,hbad,_⟩:=h1;cases hbad
    |_=>exact h1.elim
  ·obtain⟨_,_,_,_,hbad,_⟩:=h1;cases hbad
 ·rename_i hw;obtain⟨σ',hs',_,_,hrest⟩:=h1;rw[hd]at hs';have:=hs'.uniq<|hs.put hdn undef
  subst this;exact⟨undef, .inr ⟨by grind,rfl⟩,hrest⟩
end
theorem uH{P:Program}{w:World}{b k:Nat}{row:Array Value}{e:TypeId}(h:w.heap[b]? =some (.cells row e (0,0)))(hk:k<row.size):(load ⟨b,k,none⟩).run P w = .ok row[k] w:=by
 have hc:w.cell? ⟨b,k,none⟩=some row[k]:=by rw[cell_of_row w b _ _ _ _ h];simp[hk]
 simp_all
theorem sD{P:Program}{b k:Nat}{row:Array Value}{e:TypeId}:∀(n i:Nat)(acc:Array Value),k+i+n<=row.size->∃cs,∀w:World,w.heap[b]? =some (.cells row e (0,0))->(loadCellsFrom ⟨b,k,none⟩ i n acc).run P w = .ok cs w
 | 0,i,acc,_=>⟨acc,λw _=>rfl⟩
 |n+1,i,acc,h=>by
  obtain⟨cs,hcs⟩:=sD (P:=P) (b:=b) (k:=k) (row:=row) (e:=e) n (i+1) (acc.push<|row[k+i]'(by omega)) (by omega);refine⟨cs,λw hw=>?_⟩;unfold loadCellsFrom;have hl:=uH (P:=P) (k:=k+i) hw (by omega);rw[aK,Addr.add_lit,hl];exact hcs w hw
theorem uI{P:Program}{b k m:Nat}{row:Array Value}{e T:TypeId}{ag:Bool}(hT:je P T ag m)(h1:k+m<=row.size)(h2:k<row.size):∃v,∀w:World,w.heap[b]? =some (.cells row e (0,0))->(loadVar T ⟨b,k,none⟩).run P w = .ok v w:=by
 cases ag with
 |false=>
  refine⟨row[k],λw hw=>?_⟩;unfold loadVar;rw[aK,hT.zb];exact uH hw h2
 |true=>
  obtain⟨cs,hcs⟩:=sD (P:=P) (b:=b) (k:=k) (row:=row) (e:=e) m 0 #[] (by omega);refine⟨.agg cs,λw hw=>?_⟩;unfold loadVar;rw[aK,hT.zb];simp only[Result.andThen,if_true];rw[aK,hT.sz]
  simp_all[Result.andThen,aK,loadCells]
theorem yd{P:Program}{ops:Array Oper}{w w2:World}{a:Act}{n:Nat}{U:Nat->Value}{o:Oper}{T e0:TypeId}{q:Operand}{b m k:Nat}{v:Value}{row:Array Value}{ag:Bool}(hs:Sl n U a)(ho:o.op = .load T q)(hp:ev U q = .pointer (some ⟨b,m,none⟩))
  (hT:je P T ag k) (h1:m+k<=row.size) (h2:m<row.size) (hw:w.heap[b]? =some (.cells row e0 (0,0))) (hw2:w2.heap[b]? =some (.cells row e0 (0,0))) (hst:t9 P ops w a o v):t9 P ops w2 a o v:=by
 rcases hst with⟨h3,h4⟩|h3
 ·refine .inl ⟨h3,?_⟩;obtain⟨dst,op,ty,pos,af,g⟩:=o;have ho:op = .load T q:=ho;subst ho;have e:∀w,(execOp a.eval ⟨dst, .load T q,ty,pos,af,g⟩).run P w=((loadVar T ⟨b,m,none⟩).run P w).andThen λv w=> .ok (.value v) w:=λw=>by
   simp only[execOp,hs.ev,hp,Instr.loadAt,Instr.sureAddr,aK,aP,aN]
  rw[e]at h4 ⊢;obtain⟨u,hu⟩:=uI (b:=b) (e:=e0) hT h1 h2
  simp_all
 ·exact .inr h3
def gW(l:List Oper)(U:Nat->Value):List Nat->List Value->(Nat->Value)
 |i::is,v::vs=>gW l (match l[i]? with|some o=>j7 o U v|none=>U) is vs
 |_,_=>U
section
variable {l:List Oper}
theorem qb(U:Nat->Value):∀(is js:List Nat)(vs us:List Value),vs.length=is.length->gW l U (is++js) (vs++us)=gW l (gW l U is vs) js us
 | [],js,[],us,_=>rfl
 |i::is,js,v::vs,us,h=>by
  rw[List.cons_append,List.cons_append];unfold gW;rw[qb _ is js vs us (by simpa using h)]
  cases js <;> cases us <;> rfl
 | [],_,_::_,_,h=>by cases h
 |_::_,_,[],_,h=>by cases h
theorem tp{o:Oper}{U:Nat->Value}{v:Value}{t:Nat}(h:o.dst≠some t):j7 o U v t=U t:=by
 unfold j7
 cases hd:o.dst with
 |none=>rfl
 |some d=>
  grind [cD,Nat.beq,cS]
theorem wC{o:Oper}{U:Nat->Value}{v:Value}{t:Nat}(h:o.dst=some t):j7 o U v t=v:=by
 simp_all[j7,cD,Nat.beq_refl]
theorem lC{t:Nat}:∀(is:List Nat)(vs:List Value)(U:Nat->Value),(∀i∈is,∀o,l[i]? =some o->o.dst≠some t)->gW l U is vs t=U t
 | [],_,U,_=>rfl
 |_::_,[],U,_=>rfl
 |i::is,v::vs,U,h=>by
  unfold gW;rw[lC is vs _<|λj hj=>h j (by simp[hj])]
  cases ho:l[i]? with
  |none=>rfl
  |some o=>exact tp (h i (by simp) o ho)
theorem tq{t:Nat}:∀(is:List Nat)(vs:List Value)(U:Nat->Value)(j i:Nat)(o:Oper)(v:Value),is[j]? =some i->vs[j]? =some v->l[i]? =some o->o.dst=some t->
  (∀(k:Nat)i' o',is[k]? =some i'->l[i']? =some o'->k≠j->o'.dst≠some t)->gW l U is vs t=v
 | [],_,_,_,_,_,_,h,_,_,_,_=>by simp at h
 |_::_,[],_,_,_,_,_,_,h,_,_,_=>by simp at h
 |i0::is,v0::vs,U,0,i,o,v,hi,hv,ho,hd,hu=>by
  simp at hi hv;subst hi;subst hv;unfold gW
  rw[lC is vs _ (λj hj o' ho'=>by
   obtain⟨k,hk⟩:=List.mem_iff_getElem?.1 hj
   exact hu (k+1) j o' (by grind) ho' (by omega)),ho]
  exact wC hd
 |i0::is,v0::vs,U,j+1,i,o,v,hi,hv,ho,hd,hu=>by
  unfold gW;exact tq is vs _ j i o v (by grind) (by grind) ho hd<|λk i2 o2 hk ho2 hne=>hu (k+1) i2 o2 (by grind) ho2 (by omega)
end
inductive ko (l:List Oper):Nat->Nat->Prop
 |edge {i k:Nat} {o:Oper}:l[i]? =some o->oU o k=true->ko l i k
 |trans {i j k:Nat}:ko l i j->ko l j k->ko l i k
theorem ko.first{l:List Oper}{i k:Nat}(h:ko l i k):∃o j,l[i]? =some o/\oU o j=true/\(j=k\/ko l j k):=by
 induction h with
 |edge ho he=>grind
 |trans h1 h2 ih1 ih2=>
  obtain⟨o,j,ho,he,hr⟩:=ih1
  rcases hr with rfl|hr
  ·grind
  ·exact⟨o,j,ho,he, .inr<|hr.trans h2⟩
theorem ko.done{l:List Oper}{D:Nat->Bool}(hcl:l3 l D){i k:Nat}(h:ko l i k):(∃o,l[i]? =some o/\iK D o.after.toList)->D k=true:=by
 induction h with
 |edge ho he=>
  rintro⟨o2,ho2,hd⟩;rw[ho]at ho2;injection ho2 with ho2;subst ho2
  exact iL hd he
 |trans h1 h2 ih1 ih2=>
  intro hd;have hj:=ih1 hd;obtain⟨o,_,ho,_,_⟩:=h2.first;exact ih2 ⟨o,ho,hcl _ o ho hj⟩
def Sound(l:List Oper)(acc:List Nat):Prop:=∀i k,Nat.testBit (acc.getD i 0) k=true->ko l i k
theorem q9{l:List Oper}{acc:List Nat}{i k:Nat}{o:Oper}(hs:Sound l acc)(ho:l[i]? =some o):∀(es:List Edge),(∀e∈es,e∈o.after.toList)->Nat.testBit (q8 acc es) k=true->ko l i k
 | [],_,h=>by unfold q8 at h;simp at h
 |e::r,hm,h=>by
  unfold q8 at h
  cases hb:Region.binds .any e with
  |false=>rw[hb]at h;exact q9 hs ho r (λe he=>hm e (by simp[he])) h
  |true=>
   rw[hb]at h;have h:Nat.testBit (((1 <<< e.on)|||acc.getD e.on 0)|||q8 acc r) k=true:=h;rw[Nat.testBit_or,Nat.testBit_or,dQ,dQ]at h;have hedge:∀k,e.on=k->oU o k=true:=λk hk=>by
    subst hk;unfold oU;rw[jv];exact⟨e,hm e (by simp),by simp_all⟩
   rcases h with(h|h)|h
   ·rw[Nat.one_shiftLeft,Nat.testBit_two_pow,fW]at h;exact .edge ho<|hedge k h
   ·exact .trans (.edge ho<|hedge e.on rfl)<|hs e.on k h
   ·exact q9 hs ho r (λe he=>hm e (by simp[he])) h
theorem wD:∀(l l0:List Oper)(acc:List Nat),(∀(j:Nat),l[j]? =l0[acc.length+j]?)->Sound l0 acc->Sound l0 (vE l acc)
 | [],_,_,_,h=>h
 |o::l,l0,acc,hl,h=>by
  unfold vE;refine wD l l0 _ (λj=>?_) λi k hb=>?_
  ·have:=hl<|j+1
   rw[cT,gj,List.length_nil];rw[show acc.length+(0+1)+j=acc.length+(j+1)by omega,<-this];simp
  ·rw[List.getD_eq_getElem?_getD,List.getElem?_append]at hb;split at hb
   ·rw[<-List.getD_eq_getElem?_getD]at hb;exact h i k hb
   ·rename_i hlt
    by_cases he:i=acc.length
    ·subst he;simp at hb;have ho:=hl 0;exact q9 h (o:=o) (by grind) _ (λe he=>he) hb
    ·have:(i - acc.length)≠0:=by omega
     rw[List.getElem?_eq_none (by simp;omega)]at hb;simp at hb
def tr(ops:Array Oper)(i:Nat)(o:Oper)(k:Nat)(o':Oper):Bool:=
 Nat.beq i k||match o'.dst with
  |some d=>(match o.dst with|some d2=> !Nat.beq d d2|none=>true)&&(!qo ops o d||(bif Nat.blt k i then oU o k else oU o' i))
  |none=>true
def ma(ops:Array Oper)(i:Nat)(o:Oper):Nat->List Oper->Bool
 |_,[]=>true
 |k,o'::l=>tr ops i o k o'&&ma ops i o (k+1) l
def Bj:Op->Bool| .select .. =>false|_=>true
def kindOk(n:Nat)(o:Oper)(m:Nat):Bool:=Bj o.op&&(bif Nat.beq m 2 then(match o.dst with|some d=>Nat.blt d n|none=>true)else mX o.op&&(match o.dst with|some d=>Nat.blt d n|none=>false))
def ra(n:Nat)(ops:Array Oper)(l:List Oper)(mk:List Nat):Nat->List Oper->Bool
 |_,[]=>true
 |i,o::l'=>kindOk n o (mk.getD i 0)&&ma ops i o 0 l&&ra n ops l mk (i+1) l'
def uJ(A mk:List Nat):List Nat->List Nat->Bool
 |_,[]=>true
 |pre,i::post=>(bif Nat.beq (mk.getD i 0) 2 then(post.all λq=>Nat.testBit (A.getD q 0) i)&&(pre.all λq=>Nat.beq (mk.getD q 0) 1||Nat.beq (mk.getD q 0) 3||Nat.testBit (A.getD i 0) q)else true)&&uJ A mk (pre++[i]) post
def tt:List Nat->Bool
 | []=>true
 |a::l=> !(l.any λb=>Nat.beq a b)&&tt l
def ye(l:List Oper):List Nat->Bool
 | []=>true
 |i::post=>(match l[i]? with|some o=>post.all λq=> !oU o q|none=>true)&&ye l post
theorem tu{l:List Oper}:∀{ord:List Nat},ye l ord=true->∀(p1:List Nat)(i:Nat)(p2:List Nat),ord=p1++i::p2->∀o,l[i]? =some o->∀q∈p2,oU o q=false
 | [],_,p1,i,p2,e,_,_,_,_=>by cases p1 <;> cases e
 |a::ord,h,[],i,p2,e,o,ho,q,hq=>by
  injection e with e1 e2;subst e1;subst e2
  unfold ye at h;rw[ho,bS]at h;have:=gD.1 h.1 q hq;rwa[Bool.not_eq_true']at this
 |a::ord,h,b::p1,i,p2,e,o,ho,q,hq=>by
  injection e with e1 e2
  unfold ye at h;rw[bS]at h;exact tu h.2 p1 i p2 e2 o ho q hq
def yf(n:Nat)(l:List Oper)(mk ord:List Nat):Bool:=
 tt ord&&(List.range l.length).all (λi=>ord.any λj=>Nat.beq i j)&&(ord.all λi=>Nat.blt i l.length)&&ra n l.toArray l mk 0 l&&uJ (vE l []) mk [] ord&&ye l ord
theorem sE:∀{l:List Nat},tt l=true->l.Nodup
 | [],_=>List.nodup_nil
 |a::l,h=>by
  unfold tt at h;rw[bS,Bool.not_eq_true']at h;refine List.nodup_cons.2 ⟨λhm=>?_,sE h.2⟩;have:(l.any λb=>Nat.beq a b)=true:=jv.2 ⟨a,hm,Nat.beq_refl a⟩;rw[this]at h;cases h.1
theorem oz{ops:Array Oper}{i:Nat}{o:Oper}:∀{k:Nat}{l:List Oper},ma ops i o k l=true->∀(j:Nat)o',l[j]? =some o'->tr ops i o (k+j) o'=true
 |_,[],_,j,o',h=>by simp at h
 |k,p::l,hs,0,o',h=>by
  unfold ma at hs;rw[bS]at hs;simp at h;subst h;exact hs.1
 |k,p::l,hs,j+1,o',h=>by
  unfold ma at hs;rw[bS]at hs;have:=oz hs.2 j o' (by simpa using h);rw[show k+(j+1)=k+1+j by omega];exact this
theorem sF{n:Nat}{ops:Array Oper}{l0:List Oper}{mk:List Nat}:∀{i:Nat}{l:List Oper},ra n ops l0 mk i l=true->∀(j:Nat)o,l[j]? =some o->kindOk n o (mk.getD (i+j) 0)=true/\ma ops (i+j) o 0 l0=true
 |_,[],_,j,o',h=>by simp at h
 |i,p::l,hs,0,o',h=>by
  unfold ra at hs;simp only[bS]at hs;simp at h;subst h;exact hs.1
 |i,p::l,hs,j+1,o',h=>by
  unfold ra at hs;simp only[bS]at hs;have:=sF hs.2 j o' (by simpa using h);rw[show i+(j+1)=i+1+j by omega];exact this
theorem uK{A mk:List Nat}:∀{post pre:List Nat},uJ A mk pre post=true->∀(p1:List Nat)(i:Nat)(p2:List Nat),post=p1++i::p2->mk.getD i 0=2->
  (∀q∈p2,Nat.testBit (A.getD q 0) i=true)/\(∀q∈pre++p1,(mk.getD q 0=1\/mk.getD q 0=3)\/Nat.testBit (A.getD i 0) q=true)
 | [],_,_,p1,i,p2,e,_=>by cases p1 <;> cases e
 |a::post,pre,h,[],i,p2,e,hm=>by
  injection e with e1 e2;subst e1;subst e2
  unfold uJ at h;rw[hm]at h;simp only[Nat.beq_refl,bO,bS]at h;refine⟨λq hq=>gD.1 h.1.1 q hq,λq hq=>?_⟩;have:=gD.1 h.1.2 q (by grind);rw[dQ,dQ]at this
  rcases this with(h|h)|h
  ·exact .inl<|.inl<|cS h
  ·exact .inl<|.inr<|cS h
  ·exact .inr h
 |a::post,pre,h,b::p1,i,p2,e,hm=>by
  injection e with e1 e2;subst e1
  unfold uJ at h;rw[bS]at h;have:=uK h.2 p1 i p2 e2 hm;refine⟨this.1,λq hq=>this.2 q (by grind)⟩
theorem r3{P:Program}{o:Oper}{a a':Act}{next next':Act->World->Prop}{Qf Qf':Exit->Act->World->Prop}{r:Result Next}(ha:a.defers= [])
  (hn:∀v w,next (a.put o.dst v) w->next' (a'.put o.dst v) w) (hdf:∀(b:Act)w,next b w->b.defers= []) (hp:∀c b w,¬Qf (.panic c) b w) (hl:¬LetsOut Qf) (h:o.upon P a next Qf r):o.upon P a' next' Qf' r:=by
 cases r with
 |ok nx w'=>
  cases nx with
  |value v=>exact hn v w' h
  |skip=>exact hn undef w' h
  |defer d=>
   have h:next ({a with defers:=d::a.defers}.put o.dst undef) w':=h;have:=hdf _ _ h
   cases hd:o.dst with
   |none=>rw[hd]at this;cases this
   |some t=>rw[hd]at this;cases this
  |enter f args=>
   refine Calls.mono h λe w'' he=>?_
   grind
  |row row args=>exact Rows.mono h λv w'' he=>hn v w'' he
  |_=>exact h.elim
 |halt x w'=>
  cases x with
  |panic v=>exact(hp _ _ _ h).elim
  |_=>exact h.elim
section
variable {P:Program}{n:Nat}{l:List Oper}{mk:List Nat}{Q:dL}
theorem F1:∀(ord:List Nat)(S:World->Prop)(U:Nat->Value)(w:World)(a:Act),Sl n U a->S w->(∀i∈ord,∀o,l[i]? =some o->kindOk n o (mk.getD i 0)=true)->DP P n l mk Q S ord U w->
  ∃pre vs post a' S',ord=pre++post/\vs.length=pre.length/\Sl n (gW l U pre vs) a'/\DP P n l mk Q S' post (gW l U pre vs) w/\(∀e rest,post=e::rest->mk.getD e 0=2)/\
   (∀(j i:Nat)v,pre[j]? =some i->vs[j]? =some v->mk.getD i 0≠2/\∃o aj,l[i]? =some o/\Sl n (gW l U (pre.take j) (vs.take j)) aj/\
    ((mk.getD i 0≠0/\∀w2,S' w2->t9 P l.toArray w2 aj o v)\/(mk.getD i 0=0/\t9 P l.toArray w aj o v)))/\S' w/\(∀w2,S' w2->S w2):=by
 intro ord
 induction ord with
 |nil=>intro S U w a hs hS _ h;exact⟨[],[],[],a,S,rfl,rfl,hs,h,λ_ _ e=>(by cases e),λj i v hi=>(by simp at hi),hS,λ_ h=>h⟩
 |cons i ord ih=>
  intro S U w a hs hS hk h;have h0:=h;unfold DP at h;obtain⟨o,ho,h⟩:=h;have hko:=hk i (by simp) o ho;have cont:∀(S1:World->Prop)v d,o.dst=some d->Nat.blt d n=true->mk.getD i 0≠2->S1 w->(∀w2,S1 w2->S w2)->((mk.getD i 0≠0/\∀w2,S1 w2->t9 P l.toArray w2 a o v)\/(mk.getD i 0=0/\t9 P l.toArray w a o v))->DP P n l mk Q S1 ord (cD U d v) w->
    ∃pre vs post a' S',i::ord=pre++post/\vs.length=pre.length/\Sl n (gW l U pre vs) a'/\DP P n l mk Q S' post (gW l U pre vs) w/\(∀e rest,post=e::rest->mk.getD e 0=2)/\
     (∀(j i:Nat)v,pre[j]? =some i->vs[j]? =some v->mk.getD i 0≠2/\∃o aj,l[i]? =some o/\Sl n (gW l U (pre.take j) (vs.take j)) aj/\
      ((mk.getD i 0≠0/\∀w2,S' w2->t9 P l.toArray w2 aj o v)\/(mk.getD i 0=0/\t9 P l.toArray w aj o v)))/\S' w/\(∀w2,S' w2->S w2):=by
   intro S1 v d hd hdn hn2 hS1 hSS hev hrest;have hstep:∀is us,gW l U (i::is) (v::us)=gW l (cD U d v) is us:=λis us=>by
    unfold gW;rw[ho];have:j7 o U v=cD U d v:=by unfold j7;rw[hd]
    simp only[this]
    cases is <;> cases us <;> rfl
   obtain⟨pre,vs,post,a',S',e1,e2,e3,e4,e5,e6,e7,e8⟩:=ih S1 (cD U d v) w _ (hs.put hdn v) hS1 (λj hj=>hk j (by simp[hj])) hrest;refine⟨i::pre,v::vs,post,a',S',by rw[e1];rfl,by simp[e2],by rw[hstep];exact e3,by rw[hstep];exact e4,e5,λj i' v' hi' hv'=>?_,e7,λw2 h=>hSS w2<|e8 w2 h⟩
   cases j with
   |zero=>
    simp at hi' hv';subst hi';subst hv';refine⟨hn2,o,a,ho,hs,?_⟩
    rcases hev with⟨h1,h2⟩|h1
    ·exact .inl ⟨h1,λw2 h=>h2 w2<|e8 w2 h⟩
    ·exact .inr h1
   |succ j=>
    obtain⟨hn,o',aj,h1,h2,h3⟩:=e6 j i' v' (by simpa using hi') (by simpa using hv');exact⟨hn,o',aj,h1,by rw[List.take_succ_cons,List.take_succ_cons,hstep];exact h2,h3⟩
  unfold kindOk at hko;rw[bS]at hko;have dst:mk.getD i 0≠2->mX o.op=true/\∃d,o.dst=some d/\Nat.blt d n=true:=λhn=>by
   have hk2:=hko.2;have hb:Nat.beq (mk.getD i 0) 2=false:=by
    cases hx:Nat.beq (mk.getD i 0) 2 with
    |false=>rfl
    |true=>exact absurd (cS hx) hn
   rw[hb,aZ,bS]at hk2;refine⟨hk2.1,?_⟩
   cases hd:o.dst with
   |none=>rw[hd]at hk2;cases hk2.2
   |some d=>rw[hd]at hk2;exact⟨d,rfl,hk2.2⟩
  rcases h with⟨hm,h⟩|⟨hm,v,S1,hSS,hS1,h1,h⟩|⟨hm,h⟩|⟨hm,T,q,b,m,row,e,ag,k,hop,hp,hT,h3,h4,hh,h⟩
  ·have hn2:mk.getD i 0≠2:=by rw[hm];decide
   obtain⟨hr,d,hd,hdn⟩:=dst hn2;obtain⟨v,hst,hrest⟩:=tn (C:=λσ'=>DP P n l mk Q S ord σ' w) hs hr hd hdn h;exact cont S v d hd hdn hn2 hS (λ_ h=>h) (.inr ⟨hm,hst⟩) hrest
  ·have hn2:mk.getD i 0≠2:=by rw[hm];decide
   obtain⟨hr,d,hd,hdn⟩:=dst hn2;have hu:j7 o U v=cD U d v:=by unfold j7;rw[hd]
   rw[hu]at h;refine cont S1 v d hd hdn hn2 (hS1 hS) hSS (.inl ⟨by rw[hm];decide,λw2 hS2=>?_⟩) h;obtain⟨v',hst,he⟩:=tn (C:=λσ'=>σ'=j7 o U v) hs hr hd hdn<|h1 w2 hS2
   rw[hu]at he;have:=congrFun he d;unfold cD at this;rw[Nat.beq_refl]at this;have:v'=v:=this;subst this;exact hst
  ·exact⟨[],[],i::ord,a,S,rfl,rfl,hs,h0,λe rest he=>by injection he with h1 _;subst h1;exact hm,λj i v hi=>(by simp at hi),hS,λ_ h=>h⟩
  ·have hn2:mk.getD i 0≠2:=by rw[hm];decide
   obtain⟨hr,d,hd,hdn⟩:=dst hn2;obtain⟨v,hst,hrest⟩:=tn (C:=λσ'=>DP P n l mk Q (λw2=>S w2/\w2.heap[b]? =some (.cells row e (0,0))) ord σ' w) hs hr hd hdn h;exact cont _ v d hd hdn hn2 ⟨hS,hh⟩ (λ_ h=>h.1) (.inl ⟨by rw[hm];decide,λw2 hS2=>yd hs hop hp hT h3 h4 hh hS2.2 hst⟩) hrest
theorem Ff(S0:World->Prop){U:Nat->Value}{w:World}{id:Nat}(hm:P.follows .mixedOrders=true)(hdep:mP 0 l=true)(mk ord:List Nat)(hS0:S0 w.drew)(h:DP P n l mk Q S0 ord U w.drew)(hc:yf n l mk ord=true:=by kernel_rfl):RC P n (.region id l.toArray true) U w Q:=by
 intro a0 ha0;unfold yf at hc;simp only[bS]at hc;obtain⟨⟨⟨⟨⟨c1,c2⟩,c3⟩,c4⟩,c5⟩,c6⟩:=hc;have hnd:=sE c1;have hall:∀i,i<l.length->i∈ord:=λi hi=>by
  simp_all
 have hlt:∀i∈ord,i<l.length:=λi hi=>Nat.blt_eq▸gD.1 c3 i hi;have hK:∀i o,l[i]? =some o->kindOk n o (mk.getD i 0)=true/\ma l.toArray i o 0 l=true:=λi o ho=>by
  have:=sF c4 i o ho;grind
 have hA:Sound l (vE l []):=wD l l [] (λj=>by simp) (λi k hb=>by simp at hb);have hdist:∀(i k:Nat)o o' t,l[i]? =some o->l[k]? =some o'->k≠i->o.dst=some t->o'.dst≠some t:=λi k o o' t ho ho' hne hd hd'=>by
  have hp:=oz (hK i o ho).2 k o' ho'
  grind [tr,cS,Bool.not_eq_true',Nat.beq_refl]
 have hsee:∀(i k:Nat)o o' t,l[i]? =some o->l[k]? =some o'->k≠i->o'.dst=some t->qo l.toArray o t=true->(k<i/\oU o k=true)\/(i<k/\oU o' i=true):=λi k o o' t ho ho' hne hd' hs=>by
  have hp:=oz (hK i o ho).2 k o' ho';rw[fM]at hp
  grind [tr,cS,Bool.not_eq_true',Nat.blt,Nat.blt_eq]
 have hsz:∀(g:Nat)o2 d,l.toArray[g]? =some o2->o2.dst=some d->d<n:=λg o2 d ho hd=>by
  grind [kindOk,Nat.beq,Nat.blt_eq]
 refine FI (U:=U) (w:=w) hm hdep (λD σ' w'=>∃pre vs post a S,ord=pre++post/\vs.length=pre.length/\Sl n (gW l U pre vs) a/\DP P n l mk Q S post (gW l U pre vs) w'/\(∀e rest,post=e::rest->mk.getD e 0=2)/\
   (∀i∈post,D i=false)/\
   (∀(j i:Nat)v,pre[j]? =some i->vs[j]? =some v->D i=false->mk.getD i 0≠2/\∃o aj,l[i]? =some o/\Sl n (gW l U (pre.take j)<|vs.take j) aj/\((mk.getD i 0≠0/\∀w2,S w2->t9 P l.toArray w2 aj o v)\/(mk.getD i 0=0/\t9 P l.toArray w' aj o v)))/\S w'/\
   (∀(j i:Nat)v o t,pre[j]? =some i->vs[j]? =some v->l[i]? =some o->o.dst=some t->D i=true->σ' t=v)/\
   (∀t,(∀(i:Nat)o,l[i]? =some o->o.dst=some t->D i=false)->σ' t=U t)) ?_ ?_ ?_ a0 ha0
 ·obtain⟨pre,vs,post,a',S,e1,e2,e3,e4,e5,e6,eS,_⟩:=F1 ord _ U w.drew a0 ha0 hS0 (λi _ o ho=>(hK i o ho).1) h;exact⟨pre,vs,post,a',S,e1,e2,e3,e4,e5,λ_ _=>rfl,λj i v hi hv _=>e6 j i v hi hv,eS,λj i v o t _ _ _ _ hD=>(by cases hD),λt _=>rfl⟩
 ·refine l9 λi o ho=>?_;rw[fM];rintro D σ' w' hD hdeps hcl⟨pre,vs,post,a,S,e1,e2,e3,e4,e5,e6,e7,eS,e8,e9⟩;have hil:i<l.length:=(bG.1 ho).1;have hio:=hall i hil;have hancD:∀k,Nat.testBit ((vE l []).getD i 0) k=true->D k=true:=λk hb=>(hA i k hb).done hcl ⟨o,ho,hdeps⟩;have hag:∀(p1:List Nat)(vs1:List Value)(p2:List Nat),p1++i::p2=ord->vs1.length=p1.length->(∀(j i':Nat)v o' t,p1[j]? =some i'->vs1[j]? =some v->l[i']? =some o'->o'.dst=some t->D i'=true->σ' t=v)->
    ∀t,qo l.toArray o t=true->gW l U p1 vs1 t=σ' t:=by
   intro p1 vs1 p2 he hl1 h8 t ht;have hni:i∉p1:=λhm=>by
    rw[<-he]at hnd;exact(List.nodup_append.1 hnd).2.2 i hm i (by simp) rfl
   have hnd1:p1.Nodup:=by rw[<-he]at hnd;exact(List.nodup_append.1 hnd).1
   by_cases hex:∃(k:Nat)(o':Oper),l[k]? =some o'/\o'.dst=some t
   ·obtain⟨k,o',ho',hd'⟩:=hex;have hkd:k≠i->D k=true->k∈p1\/k∈p2:=λhne _=>by
     have:=hall k (bG.1 ho').1;rw[<-he]at this;simp at this
     rcases this with h|h|h
     ·exact .inl h
     ·exact absurd h hne
     ·exact .inr h
    by_cases hki:k=i
    ·subst hki;rw[lC p1 vs1 U<|λi' hi' o2 ho2 hd2=>hdist k i' o' o2 t ho' ho2 (λe=>hni<|e▸hi') hd' hd2];refine(e9 t λk2 o2 ho2 hd2=>?_).symm
     by_cases he2:k2=k
     ·subst he2;exact hD
     ·exact absurd hd2<|hdist k k2 o' o2 t ho' ho2 he2 hd'
    ·rcases hsee i k o o' t ho ho' hki hd' ht with⟨_,hE⟩|⟨hlt2,hE⟩
     ·have hDk:=iL hdeps hE
      by_cases hp:k∈p1
      ·obtain⟨j,hj⟩:=List.mem_iff_getElem?.1 hp;have hjl:j<vs1.length:=by rw[hl1];exact(bG.1 hj).1
       rw[h8 j k vs1[j] o' t hj (aM hjl) ho' hd' hDk];refine tq p1 vs1 U j k o' vs1[j] hj (aM hjl) ho' hd' λk2 i2 o2 hk2 ho2 hne=>?_;refine hdist k i2 o' o2 t ho' ho2 (λe=>hne ?_) hd';subst e;exact(List.getElem?_inj (bG.1 hk2).1 hnd1).1 (by rw[hk2,hj])
      ·rcases hkd hki hDk with h|h
       ·exact absurd h hp
       ·rw[tu c6 p1 i p2 he.symm o ho k h]at hE;cases hE
     ·have hDk:D k=false:=nf λhDk=>by
       have:=iL (hcl k o' ho' hDk) hE;rw[hD]at this;cases this
      rw[lC p1 vs1 U<|λi' hi' o2 ho2 hd2=>?_]
      ·refine(e9 t λk2 o2 ho2 hd2=>?_).symm
       by_cases he2:k2=k
       ·subst he2;exact hDk
       ·exact absurd hd2<|hdist k k2 o' o2 t ho' ho2 he2 hd'
      ·by_cases he2:i'=k
       ·subst he2;obtain⟨q1,q2,hq⟩:=List.append_of_mem hi';have:=tu c6 q1 i' (q2++i::p2) (by rw[<-he,hq];simp) o' ho' i (by simp);rw[this]at hE;cases hE
       ·exact hdist k i' o' o2 t ho' ho2 he2 hd' hd2
   ·rw[e9 t λk o' ho' hd'=>absurd ⟨k,o',ho',hd'⟩ hex];exact lC p1 vs1 U<|λi' hi' o2 ho2 hd2=>hex ⟨i',o2,ho2,hd2⟩
  have hrunC:∀(σ1:Nat->Value)(a1 a2:Act),Sl n σ1 a1->Sl n σ' a2->(∀t,qo l.toArray o t=true->σ1 t=σ' t)->execOp a2.eval o=execOp a1.eval o:=λσ1 a1 a2 hs1 hs2 hag=>by
   refine execOp_congr o (λcs b e=>?_) λx hx=>?_
   ·have:=(hK i o ho).1;unfold kindOk at this;rw[e]at this;cases this
   ·rw[hs2.ev,hs1.ev]
    cases x with
    |tmp t=>
     refine(hag t ?_).symm;unfold qo Oper.looksAt;rw[List.any_append,dQ];left;rw[jv];exact⟨t,List.mem_filterMap.2 ⟨.tmp t,by simpa using hx,rfl⟩,Nat.beq_refl t⟩
    |_=>rfl
  by_cases hip:i∈pre
  ·
   obtain⟨p1,p2,hpre⟩:=List.append_of_mem hip;have hjv:p1.length<vs.length:=by rw[e2,hpre];simp
   have hpj:pre[p1.length]? =some i:=by rw[hpre];simp
   obtain⟨v1,hv1⟩:∃v,vs[p1.length]? =some v:=⟨_,aM hjv⟩;obtain⟨hn2,o2,aj,ho2,hsj,hev⟩:=e7 p1.length i v1 hpj hv1 hD;rw[ho]at ho2;injection ho2 with ho2;subst ho2
   have htk:pre.take p1.length=p1:=by rw[hpre];simp
   rw[htk]at hsj;have hst:t9 P l.toArray w' aj o v1:=by
    rcases hev with⟨_,h⟩|⟨_,h⟩
    ·exact h w' eS
    ·exact h
   have hag1:=hag p1 (vs.take p1.length) (p2++post) (by rw[e1,hpre];simp) (by rw[eJ];omega) (λj i' v o' t hj hv ho' hd' hDi=>by
    have hjl:=(bG.1 hj).1;rw[fR,aG hjl]at hv
    exact e8 j i' v o' t (by rw[hpre,iP hjl];exact hj) hv ho' hd' hDi)
   have hmk:∃d,o.dst=some d/\Nat.blt d n=true:=by
    have:=(hK i o ho).1;unfold kindOk at this;rw[bS]at this;have h2:=this.2;have hne:Nat.beq (mk.getD i 0) 2=false:=by
     cases hx:Nat.beq (mk.getD i 0) 2 with
     |false=>rfl
     |true=>exact absurd (cS hx) hn2
    rw[hne,aZ,bS]at h2
    cases hd:o.dst with
    |none=>rw[hd]at h2;cases h2.2
    |some d=>rw[hd]at h2;exact⟨d,rfl,h2.2⟩
   obtain⟨d,hd,hdn⟩:=hmk;have hJ:∃pre vs post a S,ord=pre++post/\vs.length=pre.length/\Sl n (gW l U pre vs) a/\DP P n l mk Q S post (gW l U pre vs) w'/\(∀e rest,post=e::rest->mk.getD e 0=2)/\
     (∀i'∈post,ins D i i'=false)/\
     (∀(j i':Nat)v,pre[j]? =some i'->vs[j]? =some v->ins D i i'=false->mk.getD i' 0≠2/\∃o aj,l[i']? =some o/\Sl n (gW l U (pre.take j)<|vs.take j) aj/\((mk.getD i' 0≠0/\∀w2,S w2->t9 P l.toArray w2 aj o v)\/(mk.getD i' 0=0/\t9 P l.toArray w' aj o v)))/\S w'/\
     (∀(j i':Nat)v o' t,pre[j]? =some i'->vs[j]? =some v->l[i']? =some o'->o'.dst=some t->ins D i i'=true->cD σ' d v1 t=v)/\
     (∀t,(∀(i':Nat)o',l[i']? =some o'->o'.dst=some t->ins D i i'=false)->cD σ' d v1 t=U t):=by
    refine⟨pre,vs,post,a,S,e1,e2,e3,e4,e5,λi' hi'=>?_,λj i' v hj hv hDi=>?_,eS,λj i' v o' t hj hv ho' hd' hDi=>?_,λt ht=>?_⟩
    ·rw[jK (λe=>by
      subst e;rw[e1]at hnd
      exact(List.nodup_append.1 hnd).2.2 i' hip i' hi' rfl)]
     exact e6 i' hi'
    ·refine e7 j i' v hj hv ?_
     by_cases he:i'=i
     ·subst he;exact hD
     ·rwa[jK he]at hDi
    ·by_cases he:i'=i
     ·subst he;rw[ho]at ho';injection ho' with ho';subst ho'
      rw[hd]at hd';injection hd' with hd';subst hd'
      have hndp:pre.Nodup:=by rw[e1]at hnd;exact(List.nodup_append.1 hnd).1
      have:j=p1.length:=(List.getElem?_inj (bG.1 hj).1 hndp).1 (by rw[hj,hpj]);subst this;rw[hv1]at hv;injection hv with hv
      unfold cD;rw[Nat.beq_refl];exact hv
     ·rw[jK he]at hDi;have hne:t≠d:=λe=>by subst e;exact hdist i i' o o' t ho ho' he hd hd'
      unfold cD
      cases hb:Nat.beq t d with
      |true=>exact absurd (cS hb) hne
      |false=>exact e8 j i' v o' t hj hv ho' hd' hDi
    ·have hne:t≠d:=λe=>by
      subst e;have:=ht i o ho hd;rw[oW]at this;cases this
     unfold cD
     cases hb:Nat.beq t d with
     |true=>exact absurd (cS hb) hne
     |false=>
      refine e9 t λk2 o2 ho2 hd2=>?_;have:=ht k2 o2 ho2 hd2
      by_cases he:k2=i
      ·subst he;exact hD
      ·rwa[jK he]at this
   intro a2 hs2;have hrun:=hrunC _ aj a2 hsj hs2 hag1;have hwant:=l8 (ops:=l.toArray) (o:=o) hsj hs2 hag1 hsz;unfold wpList
   rcases hst with⟨hw1,hr1⟩|⟨hw1,hvu⟩
   ·rw[hwant]at hw1;rw[aG hw1];left;unfold Oper.wp;rw[hrun,hr1];refine⟨cD σ' d v1,?_,rfl,hJ⟩;rw[hd];exact hs2.put hdn _
   ·rw[hwant]at hw1;rw[aH (by rw[hw1];exact tc)];rw[hvu]at hJ;refine⟨cD σ' d undef,?_,rfl,hJ⟩;rw[hd];exact hs2.put hdn _
  ·
   have hipo:i∈post:=by
    rw[e1]at hio
    rcases k8.1 hio with h|h
    ·exact absurd h hip
    ·exact h
   cases post with
   |nil=>cases hipo
   |cons e rest=>
    have hme:=e5 e rest rfl;have hoa:=uK c5 pre e rest e1 hme;have hie:i=e:=by
     rcases gC.1 hipo with h|h
     ·exact h
     ·have:=hancD e<|hoa.1 i h
      rw[e6 e (by simp)]at this;cases this
    subst hie;unfold DP at e4;obtain⟨o2,ho2,hdp⟩:=e4;rw[ho]at ho2;injection ho2 with ho2;subst ho2
    obtain⟨S1,jG,hdp⟩:∃S1:World->Prop,((∀w2,S1 w2->S w2)\/vF l i rest=true)/\RL P n l.toArray [o] (gW l U pre vs) w' (λex σ' w'=>ex = .normal/\S1 w'/\DP P n l mk Q S1 rest σ' w'):=by
     rcases hdp with⟨h,_⟩|⟨h,_⟩|⟨_,h⟩|⟨h,_⟩
     ·rw[hme]at h;cases h
     ·rw[hme]at h;cases h
     ·exact h
     ·rw[hme]at h;cases h
    have hag1:=hag pre vs rest e1.symm e2 e8;have hdn:∀d,o.dst=some d->Nat.blt d n=true:=λd hd=>by
     have:=(hK i o ho).1;unfold kindOk at this;rw[hme,bS]at this;have h2:=this.2;rw[hd]at h2;exact h2
    have hput:∀(σ1:Nat->Value)(a1:Act)v,Sl n σ1 a1->Sl n (j7 o σ1 v) (a1.put o.dst v):=λσ1 a1 v hs1=>by
     unfold j7
     cases hd:o.dst with
     |none=>exact hs1.ud v
     |some d=>exact hs1.put (hdn d hd) v
    have hni:i∉pre:=hip;have hnr:i∉rest:=λhm=>by
     rw[e1]at hnd;exact(List.nodup_cons.1 (List.nodup_append.1 hnd).2.1).1 hm
    have key:∀(a2:Act)v w1,Sl n σ' a2->Lf n (λex σ' w'=>ex = .normal/\S1 w'/\DP P n l mk Q S1 rest σ' w') .normal (a.put o.dst v) w1->
      Lf n (λex σ' w1=>ex = .normal/\∃pre vs post a S,ord=pre++post/\vs.length=pre.length/\Sl n (gW l U pre vs) a/\DP P n l mk Q S post (gW l U pre vs) w1/\(∀e rest,post=e::rest->mk.getD e 0=2)/\
       (∀i'∈post,ins D i i'=false)/\
       (∀(j i':Nat)v,pre[j]? =some i'->vs[j]? =some v->ins D i i'=false->mk.getD i' 0≠2/\∃o aj,l[i']? =some o/\Sl n (gW l U (pre.take j)<|vs.take j) aj/\((mk.getD i' 0≠0/\∀w2,S w2->t9 P l.toArray w2 aj o v)\/(mk.getD i' 0=0/\t9 P l.toArray w1 aj o v)))/\S w1/\
       (∀(j i':Nat)v o' t,pre[j]? =some i'->vs[j]? =some v->l[i']? =some o'->o'.dst=some t->ins D i i'=true->σ' t=v)/\
       (∀t,(∀(i':Nat)o',l[i']? =some o'->o'.dst=some t->ins D i i'=false)->σ' t=U t)) .normal (a2.put o.dst v) w1:=by
     rintro a2 v w1 hs2⟨σ1,hs1,_,hS1,hdp1⟩;have hσ1:σ1=j7 o (gW l U pre vs) v:=hs1.uniq<|hput _ a v e3
     subst hσ1;obtain⟨pre2,vs2,post2,a3,S2,f1,f2,f3,f4,f5,f6,f7,f8⟩:=F1 rest S1 _ w1 _ hs1 hS1 (λi' _ o' ho'=>(hK i' o' ho').1) hdp1;have hX:∀is us,gW l U (pre++i::is) (vs++v::us)=gW l (j7 o (gW l U pre vs) v) is us:=λis us=>by
      rw[qb U pre (i::is) vs (v::us) e2]
      conv=>lhs;unfold gW
      rw[ho]
     refine⟨j7 o σ' v,hput _ a2 v hs2,rfl,pre++i::pre2,vs++v::vs2,post2,a3,S2,by rw[e1,f1];simp,by simp[e2,f2],by rw[hX];exact f3,by rw[hX];exact f4,f5,λi' hi'=>?_,λj i' u hj hu hDi=>?_,f7,λj i' u o' t hj hu ho' hd' hDi=>?_,λt ht=>?_⟩
     ·have hir:i'∈rest:=by rw[f1];simp[hi']
      rw[jK (λe:i'=i=>hnr (by rw[<-e];exact hir))];exact e6 i' (by simp[hir])
     ·have hne:i'≠i:=λe=>by subst e;rw[oW]at hDi;cases hDi
      have hDi2:D i'=false:=by rwa[jK hne]at hDi
      by_cases hjl:j<pre.length
      ·rw[iP hjl]at hj;rw[iP (by omega)]at hu;obtain⟨hn3,o3,aj,ho3,hsj,hev⟩:=e7 j i' u hj hu hDi2;have t1:(pre++i::pre2).take j=pre.take j:=List.take_append_of_le_length (by omega);have t2:(vs++v::vs2).take j=vs.take j:=List.take_append_of_le_length (by omega);refine⟨hn3,o3,aj,ho3,by rw[t1,t2];exact hsj,?_⟩
       rcases hev with⟨h,hh⟩|⟨h,_⟩
       ·rcases jG with jG|jG
        ·exact .inl ⟨h,λw2 h2=>hh w2<|jG w2<|f8 w2 h2⟩
        ·have hmem:i'∈pre:=dW hj;have hil':i'<l.length:=(bG.1 ho3).1;have hk:=gD.1 jG i' (by simpa using hil');rw[dQ,dQ]at hk
         rcases hk with(hk|hk)|hk
         ·exact absurd (cS hk) hne
         ·obtain⟨q,hq,hqe⟩:=jv.1 hk;have:=cS hqe;subst this;rw[e1]at hnd;exact absurd rfl<|(List.nodup_append.1 hnd).2.2 q hmem q (by simp[hq])
         ·have:=hancD i' hk;rw[hDi2]at this;cases this
       ·rcases hoa.2 i' (by simp[dW hj])with(h2|h2)|h2
        ·rw[h]at h2;cases h2
        ·rw[h]at h2;cases h2
        ·rw[hancD i' h2]at hDi2;cases hDi2
      ·rw[iG (by omega)]at hj;rw[iG (by omega),e2]at hu
       cases hq:j - pre.length with
       |zero=>
        rw[hq]at hj;simp at hj;exact absurd hj.symm hne
       |succ q=>
        rw[hq]at hj hu;obtain⟨hn3,o3,aj,ho3,hsj,hev⟩:=f6 q i' u (by simpa using hj) (by simpa using hu);have hjq:j=pre.length+(q+1):=by omega
        have t1:(pre++i::pre2).take j=pre++i::pre2.take q:=by rw[hjq,List.take_length_add_append,List.take_succ_cons]
        have t2:(vs++v::vs2).take j=vs++v::vs2.take q:=by rw[hjq,<-e2,List.take_length_add_append,List.take_succ_cons]
        exact⟨hn3,o3,aj,ho3,by rw[t1,t2,hX];exact hsj,hev⟩
     ·have hnd2:(pre++i::pre2).Nodup:=by
       rw[e1,f1]at hnd;have:pre++i::(pre2++post2)=(pre++i::pre2)++post2:=by simp
       rw[this]at hnd;exact(List.nodup_append.1 hnd).1
      by_cases hne:i'=i
      ·subst hne;rw[ho]at ho';injection ho' with ho';subst ho'
       have hjp:(pre++i'::pre2)[pre.length]? =some i':=by simp
       have:j=pre.length:=(List.getElem?_inj (bG.1 hj).1 hnd2).1 (by rw[hj,hjp]);subst this;rw[<-e2]at hu;simp at hu;subst hu;exact wC hd'
      ·rw[jK hne]at hDi;rw[tp<|λhd=>hdist i i' o o' t ho ho' hne hd hd']
       by_cases hjl:j<pre.length
       ·rw[iP hjl]at hj;rw[iP (by omega)]at hu;exact e8 j i' u o' t hj hu ho' hd' hDi
       ·rw[iG (by omega)]at hj
        cases hq:j - pre.length with
        |zero=>rw[hq]at hj;simp at hj;exact absurd hj.symm hne
        |succ q=>
         rw[hq]at hj;have hm2:i'∈pre2:=dW (i:=q) (by simpa using hj);have:=e6 i' (by rw[f1];simp[hm2]);rw[this]at hDi;cases hDi
     ·rw[tp (λhd=>by have:=ht i o ho hd;rw[oW]at this;cases this)];refine e9 t λk2 o2 ho2 hd2=>?_;have:=ht k2 o2 ho2 hd2
      by_cases he:k2=i
      ·subst he;exact hD
      ·rwa[jK he]at this
    intro a2 hs2;have hrun:=hrunC _ a a2 e3 hs2 hag1;have hwant:=l8 (ops:=l.toArray) (o:=o) e3 hs2 hag1 hsz;have h1:=hdp a e3;unfold wpList at h1 ⊢;split at h1
    ·rename_i hw1;rw[hwant]at hw1;rw[aG hw1]
     rcases h1 with h1|⟨_,h1⟩
     ·left;unfold Oper.wp at h1 ⊢;rw[hrun];refine r3 e3.defers (λv w1 hk=>key a2 v w1 hs2 hk) (λb w1 hk=>?_) (λc b w1 hk=>?_) (λhk=>?_) h1
      ·obtain⟨_,hsb,_⟩:=hk;exact hsb.defers
      ·obtain⟨_,_,hbad,_⟩:=hk;cases hbad
      ·obtain⟨_,_,_,_,hbad,_⟩:=hk;cases hbad
     ·obtain⟨_,_,_,_,hbad,_⟩:=h1;cases hbad
    ·rename_i hw1;rw[hwant]at hw1;rw[aH hw1];exact key a2 undef w' hs2 h1
 ·rintro D σ' w' hDall⟨pre,vs,post,a,S,e1,e2,e3,e4,e5,e6,e7,eS,e8,e9⟩;have hpost:post= []:=by
   cases post with
   |nil=>rfl
   |cons e rest=>
    have h1:=e6 e (by simp);rw[hDall e<|hlt e (by rw[e1];simp)]at h1;cases h1
  subst hpost;rw[iQ]at e1;subst e1;have:σ'=gW l U ord vs:=by
   funext t
   by_cases hex:∃(k:Nat)(o':Oper),l[k]? =some o'/\o'.dst=some t
   ·obtain⟨k,o',ho',hd'⟩:=hex;have hkl:=(bG.1 ho').1;obtain⟨j,hj⟩:=List.mem_iff_getElem?.1<|hall k hkl
    have hjl:j<vs.length:=by rw[e2];exact(bG.1 hj).1
    rw[e8 j k vs[j] o' t hj (aM hjl) ho' hd'<|hDall k hkl];refine(tq ord vs U j k o' vs[j] hj (aM hjl) ho' hd' λk2 i2 o2 hk2 ho2 hne=>?_).symm;refine hdist k i2 o' o2 t ho' ho2 (λe=>hne ?_) hd';subst e;exact(List.getElem?_inj (bG.1 hk2).1 hnd).1 (by rw[hk2,hj])
   ·rw[e9 t λk o' ho' hd'=>absurd ⟨k,o',ho',hd'⟩ hex];exact(lC ord vs U<|λi' hi' o2 ho2 hd2=>hex ⟨i',o2,ho2,hd2⟩).symm
  rw[this];unfold DP at e4;exact e4
theorem Ft{U:Nat->Value}{w:World}{id:Nat}(hm:P.follows .mixedOrders=true)(hdep:mP 0 l=true)(mk ord:List Nat)(h:DP P n l mk Q (λ_=>True) ord U w.drew)(hc:yf n l mk ord=true:=by kernel_rfl):RC P n (.region id l.toArray true) U w Q:=Ff (hc:=hc) _ hm hdep mk ord trivial h
end
end Go.Gk
