/-
  Helping texts on the memory of the model. No statement of the seed is proved here.
-/
import Derived.Tactics
import Derived.Orders
import Derived.Maps.AppendAt
import Derived.Laws.Tables
import Derived.Laws.CopyRow
import Derived.KernelRfl
import Derived.Laws.Cells
import Derived.Laws.Strings
import Derived.Lib.Strings
import Derived.Laws.AppendOwn
import Derived.Laws.Externs
import Derived.Lib.Bytealg
import Derived.Laws.OwnMore
import Derived.MapKept
import Derived.Laws.Append
import Derived.Maps.RangeRun
import Derived.Sort.AssemblyPlain
import Derived.Sort.Defs
import Derived.Sort.Statements
import Derived.Lib.BitFns
set_option linter.unusedVariables false
set_option linter.unusedSimpArgs false
set_option linter.unusedSectionVars false
namespace Go.Gk
open Go IntKind
abbrev Z.{u}(α:Type u):=List α
abbrev aW.{u}(α:Type u):=Option α
abbrev bL:=Value
abbrev bM:=World
abbrev bQ.{u}(α:Type u):=Array α
abbrev bT:=Operand
abbrev cA:=Oper
abbrev cR:=Program
abbrev da:=TypeId
abbrev dG(x:Int):=IntKind.wrap .i64 x
theorem aN:∀{α:Type _}{l:Z α}{i:Nat}(h:i<l.length),l[i]? =some l[i]:= @List.getElem?_eq_getElem
theorem bF:∀{α:Type _}{i:Nat}{a:α}{l:Z α},l[i]? =some a↔∃h,l[i]=a:= @List.getElem?_eq_some_iff
theorem ek:∀{α:Type _}{i:Nat}{l:Z α}(h:i<l.length),List.take (i+1) l=List.take i l++[l[i]]:= @List.take_succ_eq_append_getElem
theorem el:∀(n:Nat),((n:Nat):Int).toNat=n:= @Int.toNat_natCast
theorem db:∀{α:Type _}{l:Z α}{n:Nat}(h:n<l.length),l[n]∈l:= @List.getElem_mem
theorem cW:∀{α:Type _}{β:Type _}{a0:Z α}(f:α->β),(List.map f a0).length=a0.length:= @List.length_map
theorem bY:∀(a b:Bool),((a&&b)=true)=(a=true/\b=true):= @Bool.and_eq_true
theorem dh:∀{α:Type _}{a0 bs:Z α},(a0++bs).length=a0.length+bs.length:= @List.length_append
theorem jD:∀{α:Type _}{a:α}{s t:Z α},a∈s++t↔a∈s\/a∈t:= @List.mem_append
theorem dJ:∀{α:Type _}{l:Z α}{i:Nat}{a:α},l[i]? =some a->a∈l:= @List.mem_of_getElem?
theorem fN:∀{α:Type _}{β:Type _}{f:α->β}{l₁ l₂:Z α},List.map f (l₁++l₂)=List.map f l₁++List.map f l₂:= @List.map_append
theorem c9:∀{n m:Nat},n.beq m=true->n=m:= @Nat.eq_of_beq_eq_true
theorem dV:∀{α:Type _}{l:Z α}{i j:Nat},(List.take i l)[j]? =if j<i then l[j]? else none:= @List.getElem?_take
theorem fW:∀{α:Type _}{xs:Z α}{i j:Nat},(List.drop i xs)[j]? =xs[i+j]? := @List.getElem?_drop
theorem di:∀{α:Type _}{xs:bQ α}{i:Nat}(h:i<xs.size),xs[i]? =some xs[i]:= @Array.getElem?_eq_getElem
theorem gR:∀{α:Type _}{l₁ l₂:Z α}{i:Nat},i<l₁.length->(l₁++l₂)[i]? =l₁[i]? := @List.getElem?_append_left
theorem gS:∀{α:Type _}{l₁ l₂:Z α}{i:Nat},l₁.length<=i->(l₁++l₂)[i]? =l₂[i - l₁.length]? := @List.getElem?_append_right
theorem bV:∀{α:Sort _}(a b:α),(bif true then a else b)=a:= @cond_true
theorem bJ:∀{α:Sort _}(a b:α),(bif false then a else b)=b:= @cond_false
theorem fX:∀{α:Type _}{β:Type _}{f:α->β}{l:Z α}{i:Nat},(List.map f l)[i]? =Option.map f l[i]? := @List.getElem?_map
theorem cE:∀{α:Type _}{β:Type _}{b:β}{f:α->β}{l:Z α},b∈List.map f l↔∃a,a∈l/\f a=b:= @List.mem_map
theorem ji:∀{α:Type _}{p:α->Bool}{a0:Z α}{x:α},x∈List.filter p a0↔x∈a0/\p x=true:= @List.mem_filter
theorem fB:∀{α:Type _}{b:α}{l:Z α}{a:α},a∈b::l↔a=b\/a∈l:= @List.mem_cons
theorem gT:∀{α:Type _}{a:α}{a0:Z α},(a::a0).length=a0.length+1:= @List.length_cons
theorem bX:∀{α:Type _}{i:Nat}{l:Z α},(List.take i l).length=min i l.length:= @List.length_take
theorem mh:∀{α:Type _}{n:Nat}{a:α},(List.replicate n a).length=n:= @List.length_replicate
theorem cO:∀{m n:Nat},m∈List.range n↔m<n:= @List.mem_range
theorem jO:∀{α:Type _}(a0 bs cs:Z α),a0++bs++cs=a0++(bs++cs):= @List.append_assoc
theorem fO:∀{α:Type _}{i:Nat}{l:Z α},(List.drop i l).length=l.length - i:= @List.length_drop
theorem ee:∀{α:Type _}{l:Z α},List.take l.length l=l:= @List.take_length
theorem dK:∀(a b:Bool),((a||b)=true)=(a=true\/b=true):= @Bool.or_eq_true
theorem ig:∀(b:Bool),(¬b=true)=(b=false):= @Bool.not_eq_true
theorem kq:∀{a b:Bool},a=b↔(a=true↔b=true):= @Bool.eq_iff_iff
theorem ff:∀{α:Type _}{l:Z α}{i j:Nat}{a:α},(l.set i a)[j]? =if i=j then if i<l.length then some a else none else l[j]? := @List.getElem?_set
theorem fg:∀{α:Type _}{a0:Z α}{i:Nat}{a:α},(a0.set i a).length=a0.length:= @List.length_set
theorem ij:∀{α:Type _}{i:Nat}{l:Z α},l.length<=i->List.take i l=l:= @List.take_of_length_le
theorem aR:∀{α β:Type}(a:α)(w:bM)(f:α->bM->Result β),(Result.ok a w).andThen f=f a w:= @Result.andThen_ok
theorem aO:∀{α β:Type}(P:cR)(w:bM)(x:Sem α)(f:α->Sem β),Sem.run P (x >>= f) w=(Sem.run P x w).andThen λa w'=>Sem.run P (f a) w':= @Sem.run_bind
theorem aS:∀{α:Type}(P:cR)(w:bM)(a:α),Sem.run P (pure a) w=Result.ok a w:= @Sem.run_pure
theorem aX:∀(n:Nat),n<=n:= @Nat.le_refl
theorem lf:∀(n:Nat),0<=n:= @Nat.zero_le
theorem jk:∀{n m k:Nat},n<=m->m<=k->n<=k:= @Nat.le_trans
theorem ez:∀(n:Nat),0+n=n:= @Nat.zero_add
theorem fY:∀{α:Type _}(a0:Z α),a0++[]=a0:= @List.append_nil
theorem ef:∀{α:Type _}{β:Type _}{f:α->β}{a:α}{l:Z α},List.map f (a::l)=f a::List.map f l:= @List.map_cons
theorem mi:∀{α:Type _}(p:α->Bool)(l:Z α),(List.filter p l).length<=l.length:= @List.length_filter_le
theorem ri:(!false)=true:= @Bool.not_false
theorem gU:∀{α:Type _}{p:α->Bool}{l:Z α},l.any p=true↔∃x,x∈l/\p x=true:= @List.any_eq_true
theorem ik:∀{α:Type _}{p:α->Bool}{l:Z α},l.all p=true↔∀(x:α),x∈l->p x=true:= @List.all_eq_true
theorem ku:∀{α:Type _}{i:Nat}{l:Z α}(h:i<l.length),List.drop i l=l[i]::List.drop (i+1) l:= @List.drop_eq_getElem_cons
theorem fC:∀{p:Prop}[Decidable p],(decide p=true)=p:= @decide_eq_true_eq
theorem dw{p:Prop}[Decidable p]:p->decide p=true:=decide_eq_true
theorem bP{p:Prop}[Decidable p]:¬p->decide p=false:=decide_eq_false
theorem fZ{α:Type _}{a:α}{l:Z α}:a∈l->∃i:Nat,l[i]? =some a:=List.getElem?_of_mem
theorem aK{c:Prop}{h:Decidable c}(hc:c){α:Sort _}{t e:α}:(if c then t else e)=t:=if_pos hc
theorem aL{c:Prop}{h:Decidable c}(hc:¬c){α:Sort _}{t e:α}:(if c then t else e)=e:=if_neg hc
abbrev bZ:=Nat->aW Obj
def j9:bZ:=λ_=>none
def one(g:Nat)(o:Obj):bZ:=λb=>if b=g then some o else none
def kK(M h:bZ):bZ:=λb=>match M b with|some o=>some o|none=>h b
def hle(M M':bZ):Prop:=∀b o,M b=some o->M' b=some o
theorem zC(M:bZ):hle M M:=λ_ _ h=>h
theorem yq{A B C:bZ}(h:hle A B)(k:hle B C):hle A C:=λb o e=>k b o<|h b o e
theorem rj(M h:bZ):hle M (kK M h):=λb o e=>by simp[kK,e]
theorem dX{g b:Nat}{o o':Obj}(h:one g o b=some o'):b=g/\o=o':=by
 grind [one]
theorem bG(g:Nat)(o:Obj):one g o g=some o:=by simp[one]
structure HP where
 ok:bZ->bZ->Prop
 mono:∀{M M' h:bZ},hle M M'->ok M h->ok M' h
def bB:HP:=⟨λ_ _=>True,λ_ h=>h⟩
structure Good (E w:bM) (M:bZ) (hs:Nat->bZ) (V:Z HP):Prop where
 os:w.os=E.os
 tape:w.tape=E.tape
 out:w.output=E.output
 dr:E.drawn<=w.drawn
 im:∀b o,M b=some o->w.heap[b]? =some o
 sat:∀i(P:HP),V[i]? =some P->P.ok M (hs i)
 le:∀i b o,i<V.length->hs i b=some o->w.heap[b]? =some o
 dm:∀i b o,i<V.length->hs i b=some o->M b=none
 dj:∀i j b o,i<V.length->j<V.length->i≠j->hs i b=some o->hs j b=none
def Holds(E w:bM)(V:Z HP):Prop:=∃M hs,Good E w M hs V
theorem bD{V:Z HP}{i:Nat}{P:HP}(h:V[i]? =some P):i<V.length:=(bF.1 h).1
section
variable {E w w':bM}{M:bZ}{hs:Nat->bZ}{V Γ':Z HP}{P P':HP}{i:Nat}
def ve(h:bZ)(hs:Nat->bZ):Nat->bZ
 | 0=>h
 |i+1=>hs i
def jE(hs:Nat->bZ)(i:Nat)(h:bZ):Nat->bZ:=λj=>if j=i then h else hs j
theorem Good.cons(g:Good E w M hs V)(h:bZ)(hp:P.ok M h)(hle':∀b o,h b=some o->w.heap[b]? =some o)
  (hdm:∀b o,h b=some o->M b=none) (hdj:∀j b o,j<V.length->h b=some o->hs j b=none):
  Good E w M (ve h hs) (P::V)where
 os:=g.os
 tape:=g.tape
 out:=g.out
 dr:=g.dr
 im:=g.im
 sat:=λi Q hq=>by
  cases i with
  |zero=>simp at hq;subst hq;exact hp
  |succ i=>exact g.sat i Q (by grind)
 le:=λi b o hi hb=>by
  cases i with
  |zero=>exact hle' b o hb
  |succ i=>exact g.le i b o (by grind) hb
 dm:=λi b o hi hb=>by
  cases i with
  |zero=>exact hdm b o hb
  |succ i=>exact g.dm i b o (by grind) hb
 dj:=λi j b o hi hj hne hb=>by
  cases i with
  |zero=>
   cases j with
   |zero=>exact absurd rfl hne
   |succ j=>exact hdj j b o (by grind) hb
  |succ i=>
   cases j with
   |zero=>
    simp only[ve]at hb ⊢
    cases e:h b with
    |none=>rfl
    |some o'=>have:=hdj i b o' (by grind) e;rw[this]at hb;cases hb
   |succ j=>exact g.dj i j b o (by grind) (by grind) (by omega) hb
theorem Good.dD(g:Good E w M hs V)(hp:P.ok M j9):Good E w M (ve j9 hs) (P::V):=
 g.cons j9 hp (λ_ _ h=>by cases h) (λ_ _ h=>by cases h) (λ_ _ _ _ h=>by cases h)
theorem Good.world(g:Good E w M hs V)(h1:w'.os=w.os)(h2:w'.tape=w.tape)(h3:w'.output=w.output)
  (hk:∀b,b<w.heap.size->w'.heap[b]? =w.heap[b]?) (h0:w.drawn<=w'.drawn:=by first|exact aX _|exact Nat.le_succ _):Good E w' M hs V:=by
 have key:∀b o,w.heap[b]? =some o->w'.heap[b]? =some o:=λb o h=>by
  rw[hk b<|(Array.getElem?_eq_some_iff.1 h).1];exact h
 exact⟨h1.trans g.os,h2.trans g.tape,h3.trans g.out,jk g.dr h0,λb o h=>key b o (g.im b o h),g.sat,
  λi b o hi h=>key b o (g.le i b o hi h),g.dm,g.dj⟩
theorem Good.update(g:Good E w M hs V)(hi:i<V.length)(h':bZ)(hp:P'.ok M h')
  (h1:w'.os=w.os) (h2:w'.tape=w.tape) (h3:w'.output=w.output)
  (hle':∀b o,h' b=some o->w'.heap[b]? =some o)
  (hdom:∀b o,h' b=some o->(∃o',hs i b=some o')\/w.heap.size<=b)
  (hk:∀b,hs i b=none->b<w.heap.size->w'.heap[b]? =w.heap[b]?) (h0:w.drawn<=w'.drawn:=by first|exact aX _|exact Nat.le_succ _):
  Good E w' M (jE hs i h') (V.set i P'):=by
 have lt:∀b o,w.heap[b]? =some o->b<w.heap.size:=λb o h=>(Array.getElem?_eq_some_iff.1 h).1;refine⟨h1.trans g.os,h2.trans g.tape,h3.trans g.out,jk g.dr h0,λb o h=>?_,λj Q hq=>?_,λj b o hj hb=>?_,λj b o hj hb=>?_,λj k b o hj hk' hne hb=>?_⟩
 ·have hw:=g.im b o h;rw[hk b ?_<|lt b o hw];exact hw
  cases e:hs i b with
  |none=>rfl
  |some o'=>have:=g.dm i b o' hi e;grind
 ·rw[ff]at hq;unfold jE
  by_cases e:i=j
  ·grind
  ·rw[aL e]at hq;rw[aL<|λh=>e h.symm];exact g.sat j Q hq
 ·rw[fg]at hj;unfold jE at hb;split at hb
  ·grind
  ·rename_i e;have hw:=g.le j b o hj hb;rw[hk b (g.dj j i b o hj hi e hb)<|lt b o hw];exact hw
 ·rw[fg]at hj;unfold jE at hb;split at hb
  ·rcases hdom b o hb with⟨o',h'⟩|h'
   ·exact g.dm i b o' hi h'
   ·cases e:M b with
    |none=>rfl
    |some o'=>exact absurd (lt b o' (g.im b o' e)) (by omega)
  ·exact g.dm j b o hj hb
 ·rw[fg]at hj hk';unfold jE at hb ⊢;split at hb
  ·rename_i e;rw[aL<|λh=>hne<|e.trans h.symm]
   rcases hdom b o hb with⟨o',h'⟩|h'
   ·exact g.dj i k b o' hi hk' (λh=>hne<|e.trans h) h'
   ·cases e':hs k b with
    |none=>rfl
    |some o'=>exact absurd (lt b o' (g.le k b o' hk' e')) (by omega)
  ·rename_i e;split
   ·cases e':h' b with
    |none=>rfl
    |some o'=>
     rcases hdom b o' e' with⟨o'',h''⟩|h''
     ·have:=g.dj i j b o'' hi hj (λh=>e h.symm) h'';grind
     ·exact absurd (lt b o<|g.le j b o hj hb) (by omega)
   ·exact g.dj j k b o hj hk' hne hb
theorem Good.freeze(g:Good E w M hs V)(hi:i<V.length)(hp:P'.ok (kK M<|hs i) j9):
  Good E w (kK M<|hs i) (jE hs i j9) (V.set i P'):=by
 refine⟨g.os,g.tape,g.out,g.dr,λb o h=>?_,λj Q hq=>?_,λj b o hj hb=>?_,λj b o hj hb=>?_,λj k b o hj hk' hne hb=>?_⟩
 ·unfold kK at h
  cases e:M b with
  |none=>rw[e]at h;exact g.le i b o hi h
  |some o'=>rw[e]at h;simp at h;subst h;exact g.im b _ e
 ·rw[ff]at hq;unfold jE
  by_cases e:i=j
  ·grind
  ·rw[aL e]at hq;rw[aL<|λh=>e h.symm];exact Q.mono (rj _ _)<|g.sat j Q hq
 ·rw[fg]at hj;unfold jE at hb;split at hb
  ·cases hb
  ·exact g.le j b o hj hb
 ·rw[fg]at hj;unfold jE at hb;split at hb
  ·cases hb
  ·rename_i e;simp only[kK,g.dm j b o hj hb];exact g.dj j i b o hj hi e hb
 ·rw[fg]at hj hk';unfold jE at hb ⊢;split at hb
  ·cases hb
  ·split
   ·rfl
   ·exact g.dj j k b o hj hk' hne hb
theorem Good.pick(g:Good E w M hs V)(f:Nat->Nat)(hlt:∀i,i<Γ'.length->f i<V.length)(hget:∀i,i<Γ'.length->Γ'[i]? =V[f i]?)
  (hinj:∀i j,i<Γ'.length->j<Γ'.length->i≠j->f i≠f j):Good E w M (λi=>hs<|f i) Γ':=
 ⟨g.os,g.tape,g.out,g.dr,g.im,λi Q hq=>g.sat (f i) Q (by grind),
  λi b o hi hb=>g.le (f i) b o (hlt i hi) hb,λi b o hi hb=>g.dm (f i) b o (hlt i hi) hb,
  λi j b o hi hj hne hb=>g.dj (f i) (f j) b o (hlt i hi) (hlt j hj) (hinj i j hi hj hne) hb⟩
theorem Holds.drop(k:Nat)(h:Holds E w V)(hd:V.drop k=Γ':=by exact rfl):Holds E w Γ':=by
 obtain⟨M,hs,g⟩:=h;subst hd;exact⟨M,_,g.pick (λi=>k+i) (λi hi=>by grind) (λi _=>by rw[fW]) (λi j _ _ h=>by omega)⟩
theorem Holds.pick(h:Holds E w V)(m:Nat)(idx:Z Nat){Γ0 new:Z HP}(hd:V.drop m=Γ0)(hg:idx.map (λi=>V[i]?)=new.map some)
  (hn:idx.Nodup) (hm:∀i∈idx,i<m):Holds E w (new++Γ0):=by
 obtain⟨M,hs,g⟩:=h;have hlen:idx.length=new.length:=by have:=congrArg List.length hg;grind
 have hat:∀i,i<idx.length->V[idx.getD i 0]? =new[i]? :=λi hi=>by
  have:=congrArg (·[i]?) hg
  grind
 have hm':∀i,i<idx.length->idx.getD i 0<m:=λi hi=>by
  simp_all
 subst hd;have hget:∀i,i<(new++V.drop m).length->(new++V.drop m)[i]? =V[if i<idx.length then idx.getD i 0 else m+(i - idx.length)]? :=by
  grind
 refine⟨M,_,g.pick (λi=>if i<idx.length then idx.getD i 0 else m+(i - idx.length)) (λi hi=>?_) hget<|λi j hi hj hne=>?_⟩
 ·grind
 ·show(if i<idx.length then idx.getD i 0 else m+(i - idx.length))≠(if j<idx.length then idx.getD j 0 else m+(j - idx.length))
  grind [aN,List.getElem_inj]
theorem Holds.pull(i:Nat)(h:Holds E w V)(hi:V[i]? =some P:=by exact rfl):Holds E w (P::V.set i bB):=by
 obtain⟨M,hs,g⟩:=h;have hlt:=bD hi;have g2:=g.update (P':=bB) hlt j9 trivial rfl rfl rfl (λb o hb=>by cases hb) (λb o hb=>by cases hb)<|λ_ _ _=>rfl
 refine⟨M,_,g2.cons (hs i) (g.sat i P hi) (λb o hb=>g.le i b o hlt hb) (λb o hb=>g.dm i b o hlt hb)<|λj b o hj hb=>?_⟩;rw[fg]at hj;unfold jE;split
 ·rfl
 ·rename_i e;exact g.dj i j b o hlt hj (λh=>e h.symm) hb
theorem Holds.world(h:Holds E w V)(h1:w'.os=w.os)(h2:w'.tape=w.tape)(h3:w'.output=w.output)
  (hk:∀b,b<w.heap.size->w'.heap[b]? =w.heap[b]?) (h0:w.drawn<=w'.drawn:=by first|exact aX _|exact Nat.le_succ _):Holds E w' V:=
 let⟨M,hs,g⟩:=h
 ⟨M,hs,g.world h1 h2 h3 hk h0⟩
theorem Holds.drew(h:Holds E w V):Holds E w.drew V:=h.world rfl rfl rfl<|λ_ _=>rfl
theorem lr(w:bM)(o:Obj)(b:Nat)(h:b<w.heap.size):(w.alloc o).heap[b]? =w.heap[b]? :=by
 show(w.heap.push o)[b]? =w.heap[b]?
 grind
theorem Holds.alloc(h:Holds E w V)(o:Obj)(hp:∀M hs,Good E w M hs V->P.ok M (one w.heap.size o)):Holds E (w.alloc o) (P::V):=by
 obtain⟨M,hs,g⟩:=h;have lt:∀b o,w.heap[b]? =some o->b<w.heap.size:=λb o h=>(Array.getElem?_eq_some_iff.1 h).1;refine⟨M,_,(g.world (w':=w.alloc o) rfl rfl rfl<|λb hb=>lr w o b hb).cons (one w.heap.size o) (hp M hs g) (λb o' hb=>?_) (λb o' hb=>?_)<|λj b o' hj hb=>?_⟩
 ·grind [dX,heap_alloc_new]
 ·obtain⟨rfl,rfl⟩:=dX hb
  cases e:M w.heap.size with
  |none=>rfl
  |some o'=>exact absurd (lt _ o' (g.im _ o' e)) (by omega)
 ·obtain⟨rfl,rfl⟩:=dX hb
  cases e:hs j w.heap.size with
  |none=>rfl
  |some o'=>exact absurd (lt _ o' (g.le j _ o' hj e)) (by omega)
theorem Holds.rE(h:Holds E w V)(hp:∀M hs,Good E w M hs V->P.ok M j9):Holds E w (P::V):=
 let⟨M,hs,g⟩:=h
 ⟨M,_,g.dD<|hp M hs g⟩
end
structure aP where
 bK:Z UInt8
 deriving DecidableEq,Inhabited
class GT (α:Type)where
 sz:Nat
 agg:Bool
 ok:bZ->Z bL->α->Prop
 pos:0<sz
 ag1:agg=false->sz=1
 len:∀{M:bZ}{cs:Z bL}{x:α},ok M cs x->cs.length=sz
 one:∀{M:bZ}{cs:Z bL}{x:α},ok M cs x->∀u∈cs,u.oneCell'=true
 mono:∀{M M':bZ}{cs:Z bL}{x:α},hle M M'->ok M cs x->ok M' cs x
class Sc (α:Type)where
 toV:α->bL
 one:∀x,(toV x).oneCell'=true
instance instGTSc {α:Type} [Sc α]:GT α where
 sz:=1
 agg:=false
 ok:=λ_ cs x=>cs= [Sc.toV x]
 pos:=by decide
 ag1:=λ_=>rfl
 len:=λh=>by rw[h];rfl
 one:=λh u hu=>by rw[h]at hu;simp at hu;subst hu;exact Sc.one _
 mono:=λ_ h=>h
@[reducible] def str(s:aP):bL:= .string ⟨s.bK.toArray⟩
instance:Sc Int:=⟨λn=> .int .i64 n,λ_=>rfl⟩
instance:Sc Bool:=⟨λb=> .bool b,λ_=>rfl⟩
instance:Sc aP:=⟨str,λ_=>rfl⟩
instance:Sc UInt8:=⟨λb=> .int .u8 b.toNat,λ_=>rfl⟩
def pg(M:bZ)(a:Addr):aW bL:=
 match M a.block with
 |some (.cells c _ _)=>if a.spot.isSome then none else c[a.off]?
 |_=>none
def At(M:bZ)(a:Addr)(cs:Z bL):Prop:=∀j u,cs[j]? =some u->pg M (a.add j)=some u
theorem m7{M:bZ}{w:bM}(h:∀b o,M b=some o->w.heap[b]? =some o){a:Addr}{v:bL}(hc:pg M a=some v):w.cell? a=some v:=by
 grind [pg,World.cell?]
theorem wQ{M M':bZ}(h:hle M M'){a:Addr}{v:bL}(hc:pg M a=some v):pg M' a=some v:=by
 unfold pg at hc ⊢;split at hc
 ·rename_i c _ _ e;rw[h _ _ e];exact hc
 ·cases hc
theorem At.mono{M M':bZ}(h:hle M M'){a:Addr}{cs:Z bL}(hc:At M a cs):At M' a cs:=λj u hu=>wQ h<|hc j u hu
theorem add_add(a:Addr)(i j:Nat):(a.add i).add j=a.add (i+j):=by
 grind [Addr.add,Nat.add_assoc]
theorem At.sub{M:bZ}{a:Addr}{cs:Z bL}(h:At M a cs)(k n:Nat):At M (a.add k) ((cs.drop k).take n):=by
 intro j u hu;rw[add_add];refine h (k+j) u ?_
 grind
section
variable {α β:Type}[GT α][GT β]{M M':bZ}{v:bL}{cs:Z bL}
variable {x:α}{l:Z α}
def oI(α:Type)[GT α](cs:Z bL):bL:=if GT.agg α then .agg cs.toArray else cs.headD undef
def ou(M:bZ)(v:bL)(x:α):Prop:=∃cs,v=oI α cs/\GT.ok M cs x
theorem ou.mono(h:hle M M')(hr:ou M v x):ou M' v x:=let⟨cs,e,ho⟩:=hr;⟨cs,e,GT.mono h ho⟩
theorem yr(ho:GT.ok M cs x):(oI α cs).cells.toList=cs:=by
 unfold oI;have hl:=GT.len ho
 cases e:GT.agg α with
 |true=>simp[Value.cells]
 |false=>
  rw[GT.ag1 e]at hl
  match cs,hl,GT.one ho with
  | [c],_,h1=>
   have:=h1 c (by simp)
   cases c <;> simp[Value.cells,Value.oneCell']at this ⊢
theorem ou.cells(hr:ou M v x):GT.ok M v.cells.toList x:=by
 obtain⟨cs,rfl,ho⟩:=hr
 grind [yr]
theorem rF{γ:Type}[Sc γ]{y:γ}:ou M v y↔v=Sc.toV y:=by
 constructor
 ·rintro⟨cs,rfl,ho⟩;have:cs= [Sc.toV y]:=ho;subst this;rfl
 ·rintro rfl;exact⟨[Sc.toV y],rfl,rfl⟩
def iV(M:bZ)(v:bL)(l:Z α):Prop:=
 ∃a n cap,v = .slice a n cap/\n=l.length/\n<=cap/\cap<=maxLen/\
  ∀i x,l[i]? =some x->∃ad cs,a=some ad/\GT.ok M cs x/\At M (ad.add<|i*GT.sz α) cs
theorem iV.mono(h:hle M M')(hs:iV M v l):iV M' v l:=by
 obtain⟨a,n,cap,hv,hn,hc,hm,hi⟩:=hs;exact⟨a,n,cap,hv,hn,hc,hm,λi x hx=>let⟨ad,cs,e,ho,ha⟩:=hi i x hx;⟨ad,cs,e,GT.mono h ho,ha.mono h⟩⟩
instance instGTList:GT (Z α)where
 sz:=1
 agg:=false
 ok:=λM cs l=>∃v,cs= [v]/\iV M v l
 pos:=by decide
 ag1:=λ_=>rfl
 len:=λ⟨v,h,_⟩=>by rw[h];rfl
 one:=λ⟨v,h,⟨a,n,cap,hv,_⟩⟩u hu=>by rw[h]at hu;simp at hu;subst hu;rw[hv];rfl
 mono:=λh⟨v,e,hs⟩=>⟨v,e,hs.mono h⟩
theorem hU:ou M v l↔iV M v l:=by
 constructor
 ·rintro⟨cs,rfl,v,rfl,hs⟩;exact hs
 ·intro h;exact⟨[v],rfl,v,rfl,h⟩
instance instGTProd:GT (α×β)where
 sz:=GT.sz α+GT.sz β
 agg:=true
 ok:=λM cs x=>∃c d,cs=c++d/\GT.ok M c x.1/\GT.ok M d x.2
 pos:=by have:=GT.pos (α:=α);omega
 ag1:=λh=>by cases h
 len:=λ⟨c,d,e,h1,h2⟩=>by rw[e,dh,GT.len h1,GT.len h2]
 one:=λ⟨c,d,e,h1,h2⟩u hu=>by
  rw[e,jD]at hu
  rcases hu with hu|hu
  ·exact GT.one h1 u hu
  ·exact GT.one h2 u hu
 mono:=λh⟨c,d,e,h1,h2⟩=>⟨c,d,e,GT.mono h h1,GT.mono h h2⟩
@[reducible] def GT.via{γ:Type}(f:γ->α):GT γ where
 sz:=GT.sz α
 agg:=true
 ok:=λM cs x=>GT.ok M cs<|f x
 pos:=GT.pos
 ag1:=λh=>by cases h
 len:=λh=>GT.len h
 one:=λh=>GT.one h
 mono:=λh k=>GT.mono h k
def Fd(k:Nat)(f:α->β):Prop:=∀(M:bZ)(cs:Z bL)(x:α),GT.ok M cs x->GT.ok M ((cs.drop k).take<|GT.sz β) (f x)
theorem Fd.self:Fd 0 (λx:α=>x):=λM cs x h=>by
 rw[List.drop_zero,ij (by grind [GT.len])];exact h
theorem Fd.fst{γ:Type}[GT γ]{k:Nat}{f:α->γ}(h:Fd k f)(hk:k+GT.sz γ<=GT.sz α:=by decide):Fd k (λx:α×β=>f x.1):=by
 rintro M cs x⟨c,d,rfl,h1,h2⟩;have hl:=GT.len h1;rw[List.drop_append_of_le_length (by omega),List.take_append_of_le_length (by grind)];exact h M c x.1 h1
theorem Fd.snd{γ:Type}[GT γ]{k k':Nat}{f:β->γ}(h:Fd k f)(hk:k'=GT.sz α+k:=by exact rfl):Fd k' (λx:α×β=>f x.2):=by
 rintro M cs x⟨c,d,rfl,h1,h2⟩;subst hk;rw[<-GT.len h1,List.drop_length_add_append];exact h M d x.2 h2
def Fs(k:Nat)(β:Type)[GT β](f:α->β->α):Prop:=
 ∀(M:bZ)(cs ds:Z bL)(x:α)(y:β),GT.ok M cs x->GT.ok M ds y->GT.ok M (cs.take k++ds++cs.drop (k+GT.sz β)) (f x y)
theorem Fs.self:Fs 0 α (λ_ y:α=>y):=λM cs ds x y h1 h2=>by
 rw[List.take_zero,List.nil_append,List.drop_eq_nil_of_le (by grind [GT.len]),fY];exact h2
theorem Fs.fst{γ:Type}[GT γ]{k:Nat}{f:α->γ->α}(h:Fs k γ f)(hk:k+GT.sz γ<=GT.sz α:=by decide):Fs k γ (λ(x:α×β)y=>(f x.1 y,x.2)):=by
 rintro M cs ds x y⟨c,d,rfl,h1,h2⟩hy;have hl:=GT.len h1;refine⟨c.take k++ds++c.drop (k+GT.sz γ),d,?_,h M c ds x.1 y h1 hy,h2⟩
 grind
theorem Fs.snd{γ:Type}[GT γ]{k k':Nat}{f:β->γ->β}(h:Fs k γ f)(hk:k'=GT.sz α+k:=by exact rfl):Fs k' γ (λ(x:α×β)y=>(x.1,f x.2 y)):=by
 rintro M cs ds x y⟨c,d,rfl,h1,h2⟩hy;subst hk;refine⟨c,d.take k++ds++d.drop (k+GT.sz γ),?_,h1,h M d ds x.2 y h2 hy⟩;rw[<-GT.len h1,List.take_length_add_append,Nat.add_assoc,List.drop_length_add_append];simp
end
section
variable {α β:Type}[GT α][GT β]
def rd(v:bL)(x:α):HP:=⟨λM h=>ou M v x/\h=j9,λk⟨a,b⟩=>⟨a.mono k,b⟩⟩
def F3(M:bZ)(v:bL)(x:α):Prop:=∃ad cs,v = .pointer (some ad)/\GT.ok M cs x/\At M ad cs
def pt(v:bL)(x:α):HP:=⟨λM h=>F3 M v x/\h=j9,λk⟨⟨ad,cs,e,ho,ha⟩,b⟩=>⟨⟨ad,cs,e,GT.mono k ho,ha.mono k⟩,b⟩⟩
def bx(e:da)(g:Nat)(x:α):HP:=⟨λM h=>∃cs,GT.ok M cs x/\h=Gk.one g (.cells cs.toArray e (0,0)),λk⟨cs,ho,hh⟩=>⟨cs,GT.mono k ho,hh⟩⟩
def Cells(M:bZ)(xs:Z bL)(l:Z α):Prop:=
 xs.length=l.length*GT.sz α/\∀i x,l[i]? =some x->GT.ok M ((xs.drop<|i*GT.sz α).take<|GT.sz α) x
theorem Cells.mono{M M':bZ}(h:hle M M'){xs:Z bL}{l:Z α}(hc:Cells M xs l):Cells M' xs l:=⟨hc.1,λi x hx=>GT.mono h<|hc.2 i x hx⟩
def rG(e:da)(M h:bZ)(v:bL)(l:Z α):Prop:=
 (v = .slice none 0 0/\l= []/\h=j9)\/
 ∃g o cap cur xs,v = .slice (some ⟨g,o,none⟩) l.length cap/\l.length<=cap/\cap<=maxLen/\h=Gk.one g (.cells cur e (0,0))/\
  o+cap*GT.sz α<=cur.size/\(cur.toList.drop o).take (l.length*GT.sz α)=xs/\Cells M xs l
def own(e:da)(v:bL)(l:Z α):HP:=⟨λM h=>rG e M h v l,λ{M M' h}k hh=>by
 rcases hh with hh|⟨g,o,cap,cur,xs,h1,h2,h3,h4,h5,h6,h7⟩
 ·exact .inl hh
 ·exact .inr ⟨g,o,cap,cur,xs,h1,h2,h3,h4,h5,h6,h7.mono k⟩⟩
end
def cI(U:Nat->bL)(d:Nat)(v:bL):Nat->bL:=λt=>bif Nat.beq t d then v else U t
def ev(U:Nat->bL):bT->bL
 | .tmp t=>U t
 | .const v=>v
 | .global g=> .pointer (some ⟨g,0,none⟩)
 | .func f=> .func (.func f) #[] #[]
structure Sl (n:Nat) (U:Nat->bL) (a:Act):Prop where
 defers:a.defers= []
 size:a.tmps.size=n
 get:∀t,a.tmps.getD t undef=U t
theorem Sl.ev{n:Nat}{U:Nat->bL}{a:Act}(h:Sl n U a):a.eval=ev U:=by
 funext x
 cases x with
 |tmp t=>exact h.get t
 |const v=>rfl
 |global g=>rfl
 |func f=>rfl
theorem Sl.put{n:Nat}{U:Nat->bL}{a:Act}(h:Sl n U a){d:Nat}(hd:Nat.blt d n=true)(v:bL):Sl n (cI U d v) (a.put (some d) v)where
 defers:=h.defers
 size:=by simp[Act.put,h.size]
 get:=λt=>by
  have hd':d<a.tmps.size:=by rw[h.size];exact Nat.blt_eq▸hd
  unfold cI
  by_cases e:t=d
  ·subst e;simp[Act.put,hd']
  ·have hb:Nat.beq t d=false:=by
    cases hx:Nat.beq t d with
    |false=>rfl
    |true=>exact absurd (c9 hx) e
   rw[hb];simp only[bJ,<-h.get t,Act.put,Array.getD_eq_getD_getElem?];rw[Array.getElem?_setIfInBounds_ne<|λh=>e h.symm]
theorem Sl.rH{n:Nat}{U:Nat->bL}{a:Act}(h:Sl n U a)(v:bL):Sl n U (a.put none v):=h
abbrev dg:=Exit->(Nat->bL)->bM->Prop
def Lf(n:Nat)(Q:dg):Exit->Act->bM->Prop:=λex a w=>∃U,Sl n U a/\Q ex U w
def RL(P:cR)(n:Nat)(ops:bQ cA)(rest:Z cA)(U:Nat->bL)(w:bM)(Q:dg):Prop:=
 ∀a,Sl n U a->wpList P ops (Lf n Q) rest a w
def RC(P:cR)(n:Nat)(c:Code)(U:Nat->bL)(w:bM)(Q:dg):Prop:=∀a,Sl n U a->c.wp P (Lf n Q) a w
def i7(P:cR)(n:Nat)(y:Code)(Q:dg):dg
 | .normal,U,w=>RC P n y U w Q
 |e,U,w=>Q e U w
def qb(id:Nat)(Q:dg):dg
 | .exit i,U,w=>if i=id then Q .normal U w else Q (.exit i) U w
 |e,U,w=>Q e U w
section
variable {P:cR}{n:Nat}{U:Nat->bL}{w:bM}{Q Q':dg}{x y c:Code}{id:Nat}
theorem RC.mono(h:RC P n c U w Q)(hq:∀e U w,Q e U w->Q' e U w):RC P n c U w Q':=
 λa ha=>wp_mono (h a ha) λe _ w⟨U,hs,q⟩=>⟨U,hs,hq e U w q⟩
theorem w_(h:RC P n x U w (i7 P n y Q)):RC P n (.seq x y) U w Q:=λa ha=>
 wp_seq (wp_mono (h a ha) λe a w⟨U,hs,q⟩=>by
  cases e with
  |normal=>exact q a hs
  |_=>exact⟨U,hs,q⟩)
theorem G8(h:RC P n x U w (qb id Q)):RC P n (.block id x) U w Q:=λa ha=>
 wp_block (wp_mono (h a ha) λe a w⟨U,hs,q⟩=>by
  cases e with
  |exit i=>
   simp only[qb]at q;simp only[Exit.inBlock];split at q
   ·rename_i e;subst e;simp;exact⟨U,hs,q⟩
   ·rename_i e;simp[e];exact⟨U,hs,q⟩
  |_=>exact⟨U,hs,q⟩)
theorem Gz(h:Q .normal U w):RC P n .skip U w Q:=λ_ ha=>wp_skip ⟨U,ha,h⟩
theorem x_(h:Q .ret U w):RC P n .ret U w Q:=λ_ ha=>wp_ret ⟨U,ha,h⟩
theorem IE{i:Nat}(h:Q (.exit i) U w):RC P n (.exit i) U w Q:=λ_ ha=>wp_exit ⟨U,ha,h⟩
theorem Hz{q:bT}{b:Bool}(hc:ev U q = .bool b)(ht:b=true->RC P n x U w Q)(hf:b=false->RC P n y U w Q):RC P n (.cond q x y) U w Q:=
 λa ha=>wp_cond_split (t:=b) (by rw[ha.ev];exact hc) (λh=>ht h a ha)<|λh=>hf h a ha
theorem t_{l:Z cA}(h:RL P n l.toArray l U w Q):RC P n (.region id l.toArray false) U w Q:=λa ha=>wp_region_lit<|h a ha
theorem s_{ops:bQ cA}(h:Q .normal U w):RL P n ops [] U w Q:=λ_ ha=>⟨U,ha,h⟩
theorem aI(h:RC P n y U w Q):i7 P n y Q .normal U w:=h
theorem bO(h:Q .normal U w):qb id Q .normal U w:=h
theorem zD(h:Q .normal U w):qb id Q (.exit id) U w:=by grind [qb]
def kc(P:cR)(n:Nat)(fn:Func)(R:bL->bM->Prop):dg
 | .normal,U,w| .ret,U,w=>∃v,(∀a,Sl n U a->(results fn a.tmps).run P w = .ok v w)/\R v w
 |_,_,_=>False
def eU(R:bL->bM->Prop):Ending->bM->Prop:=λe w=>∃v,e = .returned v/\R v w
def C4(l:Z bL)(t:Nat):bL:=l.getD t undef
theorem enter{f:FuncId}{fn:Func}{args:Z bL}{R:bL->bM->Prop}(hf:P.funcs[f]? =some fn)(hb:fn.body=some c)(hn:fn.ntmps=n)(h:RC P n c (C4 args) w (kc P n fn R))(hk:args.length<=n:=by exact Nat.le_of_ble_eq_true rfl):Calls P f args.toArray w (eU R):=by
 refine calls_of_wp hf hb<|wp_mono (h _ ⟨rfl,?_,λt=>?_⟩) λe a w⟨U,hs,q⟩=>?_
 ·grind
 ·simp only[C4,Array.getD_eq_getD_getElem?,List.getD_eq_getElem?_getD]
  grind
 ·cases e with
  |normal=>obtain⟨v,hv,hR⟩:=q;exact⟨hs.defers,v,hv a hs,v,rfl,hR⟩
  |ret=>obtain⟨v,hv,hR⟩:=q;exact⟨hs.defers,v,hv a hs,v,rfl,hR⟩
  |_=>exact q.elim
theorem bH{fn:Func}{R:bL->bM->Prop}{t:Nat}{v:bL}(h:R v w)(hr:fn.results = #[.tmp t]:=by exact rfl)(hv:U t=v:=by exact rfl):kc P n fn R .ret U w:=
 ⟨v,λa ha=>by rw[results_tmp hr,ha.get,hv],h⟩
theorem ph{fn:Func}{R:bL->bM->Prop}{t u:Nat}{v v':bL}(h:R (.tuple #[v,v']) w)(hr:fn.results = #[.tmp t, .tmp u]:=by exact rfl)(hv:U t=v:=by exact rfl)(hv':U u=v':=by exact rfl):kc P n fn R .ret U w:=
 ⟨_,λa ha=>by rw[results_tmp2 hr,ha.get,ha.get,hv,hv'],h⟩
theorem Be{fn:Func}{R:bL->bM->Prop}{t u s:Nat}{v v' v'':bL}(hr:fn.results = #[.tmp t, .tmp u, .tmp s])(hv:U t=v)(hv':U u=v')(hv'':U s=v'')
  (h:R (.tuple #[v,v',v'']) w):kc P n fn R .ret U w:=
 ⟨_,λa ha=>by simp[results,hr,ha.get,hv,hv',hv''],h⟩
theorem Ea{fn:Func}{R:bL->bM->Prop}(hr:fn.results = #[])(h:R (.tuple #[]) w):kc P n fn R .ret U w:=
 ⟨_,λa _=>by rw[results_none hr],h⟩
theorem zF{fn:Func}{R:bL->bM->Prop}(h:kc P n fn R .ret U w):kc P n fn R .normal U w:=h
def Wn(ops:bQ cA)(U:Nat->bL):aW (Nat×Bool)->Prop
 |none=>True
 |some (j,b)=>∃t,(ops[j]?).bind (·.dst)=some t/\U t = .bool b
theorem Wn.wanted{ops:bQ cA}{o:cA}{a:Act}(h:Wn ops U o.guard)(ha:Sl n U a):Region.wanted o (yielded ops a.tmps)=true:=by
 unfold Region.wanted
 cases e:o.guard with
 |none=>rfl
 |some jb=>
  obtain⟨j,b⟩:=jb;rw[e]at h;obtain⟨t,ht,hb⟩:=h;have hg:=ha.get t;rw[hb,Array.getD_eq_getD_getElem?]at hg;have:a.tmps[t]? =some (.bool b):=by
   cases hx:a.tmps[t]? with
   |none=>rw[hx]at hg;cases hg
   |some v=>grind
  grind [yielded]
variable {ops:bQ cA}{rest:Z cA}{d:Nat}{ty:da}{pos:String}{af:bQ Edge}{g:aW (Nat×Bool)}{w':bM}{v:bL}{op:Op}
theorem BY(hg:Wn ops U g)(hd:Nat.blt d n=true)(hrun:(execOp (ev U) ⟨some d,op,ty,pos,af,g⟩).run P w = .ok (.value v) w')
  (k:RL P n ops rest (cI U d v) w' Q):RL P n ops (⟨some d,op,ty,pos,af,g⟩::rest) U w Q:=by
 intro a ha;unfold wpList;rw[aK<|Wn.wanted (o:=⟨some d,op,ty,pos,af,g⟩) hg ha];refine .inl ?_;unfold Oper.wp;rw[ha.ev,hrun];exact k _<|ha.put hd v
theorem Hk(hg:Wn ops U g)(hrun:(execOp (ev U) ⟨none,op,ty,pos,af,g⟩).run P w = .ok .skip w')
  (k:RL P n ops rest U w' Q):RL P n ops (⟨none,op,ty,pos,af,g⟩::rest) U w Q:=by
 intro a ha;unfold wpList;rw[aK<|Wn.wanted (o:=⟨none,op,ty,pos,af,g⟩) hg ha];refine .inl ?_;unfold Oper.wp;rw[ha.ev,hrun];exact k _<|ha.rH _
theorem H7{j t:Nat}{b:Bool}(ht:(ops[j]?).bind (·.dst)=some t)(hv:U t = .bool (!b)\/U t=undef)(hd:Nat.blt d n=true)
  (k:RL P n ops rest (cI U d undef) w Q):RL P n ops (⟨some d,op,ty,pos,af,some (j,b)⟩::rest) U w Q:=by
 intro a ha;have hno:Region.wanted ⟨some d,op,ty,pos,af,some (j,b)⟩ (yielded ops a.tmps)=false:=by
  have hg:=ha.get t;rw[Array.getD_eq_getD_getElem?]at hg;simp only[Region.wanted,yielded,ht,Option.bind_some]
  cases hx:a.tmps[t]? with
  |none=>rfl
  |some u=>
   rw[hx]at hg;simp at hg;subst hg
   rcases hv with h|h <;> rw[h]
   ·simp
   ·rfl
 unfold wpList;rw[aL (by rw[hno];decide)];exact k _<|ha.put hd _
theorem H8{f:FuncId}{args:bQ bL}(hg:Wn ops U g)(hd:Nat.blt d n=true)
  (hrun:(execOp (ev U) ⟨some d,op,ty,pos,af,g⟩).run P w = .ok (.enter f args) w)
  (k:Calls P f args w (eU λv w'=>RL P n ops rest (cI U d v) w' Q)):RL P n ops (⟨some d,op,ty,pos,af,g⟩::rest) U w Q:=by
 intro a ha;unfold wpList;rw[aK<|Wn.wanted (o:=⟨some d,op,ty,pos,af,g⟩) hg ha];refine .inl ?_;unfold Oper.wp;rw[ha.ev,hrun];refine Calls.mono k λe w'' he=>?_;obtain⟨v,rfl,h⟩:=he;exact h _<|ha.put hd v
theorem t6{f:FuncId}{fn:Func}{args:bQ bL}(hf:P.funcs[f]? =some fn)(hnm:(fn.name== "runtime.NumGoroutine")=false)(hb:fn.body.isNone=false):
  (callFunc f args).run P w = .ok (.enter f args) w:=by
 unfold callFunc program;simp only[Bind.bind,Sem.bind,Sem.run,hf];rw[aL (by rw[hnm];decide),aL (by rw[hb];decide)];rfl
structure fo (P:cR) (f:FuncId):Prop where
 run:∀(args:bQ bL)(w:bM),(callFunc f args).run P w = .ok (.enter f args) w
theorem IF{f:FuncId}{args:bQ bT}{ts:bQ da}(hg:Wn ops U g)(hd:Nat.blt d n=true)(hf:fo P f)(vs:Z bL)
  (hvs:args.toList.map (ev U)=vs) (k:Calls P f vs.toArray w (eU λv w'=>RL P n ops rest (cI U d v) w' Q)):
  RL P n ops (⟨some d, .call ⟨.value<|.func f,args,ts⟩,ty,pos,af,g⟩::rest) U w Q:=by
 have e:args.map (ev U)=vs.toArray:=by grind
 refine H8 (f:=f) (args:=vs.toArray) hg hd ?_ k;simp only[execOp,resolve,aO];simp only[ev,Deferred.ofValue,e,aS,aR,invoke];simpa using hf.run vs.toArray w
theorem G3{q:bT}{f:FuncId}{args:bQ bT}{ts:bQ da}(cap:Z bL)(hd:Nat.blt d n=true)(hf:fo P f)(hq:ev U q = .func (.func f) #[] cap.toArray)(vs:Z bL)(hvs:args.toList.map (ev U)=vs)(k:Calls P f (vs++cap).toArray w (eU λv w'=>RL P n ops rest (cI U d v) w' Q))(hg:Wn ops U g:=by exact trivial):
  RL P n ops (⟨some d, .call ⟨.value q,args,ts⟩,ty,pos,af,g⟩::rest) U w Q:=by
 have e:args.map (ev U)=vs.toArray:=by grind
 refine H8 (f:=f) (args:=(vs++cap).toArray) hg hd ?_ k;simp only[execOp,resolve,aO];simp only[hq,Deferred.ofValue,e,aS,aR,invoke];simpa using hf.run (vs++cap).toArray w
theorem bS{f:FuncId}{args:bQ bL}{R R':bL->bM->Prop}(h:Calls P f args w (eU R))(k:∀v w',R v w'->R' v w'):Calls P f args w (eU R'):=
 Calls.mono h λ_ w'⟨v,e,hr⟩=>⟨v,e,k v w' hr⟩
end
structure jP (P:cR) (T:da) (ag:Bool) (k:Nat):Prop where
 C2:∀w,(isAgg T).run P w = .ok ag w
 sz:∀w,(sizeOf T).run P w = .ok k w
structure pj (P:cR) (T:da) (i k:Nat):Prop where
 run:∀a w,(Instr.fieldAt T (.pointer<|some a) i).run P w = .ok (.pointer<|some<|a.add k) w
structure qc (P:cR) (T e:da) (k:Nat):Prop where
 pf:P.underlying T=some (.slice e)
 sz:∀w,(sizeOf e).run P w = .ok k w
def cv(c:Bool)(v:bL):bL:=bif c then v else undef
theorem wR{c:Bool}{v:bL}(h:c=true):cv c v=v:=by rw[h];rfl
theorem zG{a b:Bool}(h:(a&&b)=true):a=true:=by grind
theorem rI(c:Bool){a b:Bool}(h:c=true):(if a=true then Value.bool true else cv (c&&(a==false)) (.bool b)) = .bool (a||b):=by
 subst h;cases a <;> rfl
theorem t7(c:Bool){a b:Bool}(h:c=true):(if a=true then cv (c&&(a==true)) (.bool b)else Value.bool false) = .bool (a&&b):=by
 subst h;cases a <;> rfl
@[reducible] def kx:BinOp->Int->Int->Bool
 | .eql,a,b=>a==b
 | .neq,a,b=>a != b
 | .lss,a,b=>decide (a<b)
 | .leq,a,b=>decide (a<=b)
 | .gtr,a,b=>decide (a>b)
 | .geq,a,b=>decide (a>=b)
 |_,_,_=>false
def po:BinOp->Bool
 | .eql| .neq| .lss| .leq| .gtr| .geq=>true
 |_=>false
@[reducible] def jF:BinOp->Int->Int->Int
 | .add,a,b=>a+b
 | .sub,a,b=>a - b
 | .mul,a,b=>a*b
 |_,_,_=>0
def C5:BinOp->Bool
 | .add| .sub| .mul=>true
 |_=>false
def aP.jg(a b:aP):Bool:=a.bK==b.bK
def aP.p9(a b:aP):Bool:=Op.bytesLess a.bK b.bK
@[reducible] def pq:BinOp->aP->aP->Bool
 | .eql,a,b=>a.jg b
 | .neq,a,b=> !a.jg b
 | .lss,a,b=>a.p9 b
 | .leq,a,b=>a.p9 b||a.jg b
 | .gtr,a,b=> !(a.p9 b||a.jg b)
 | .geq,a,b=> !a.p9 b
 |_,_,_=>false
section
variable {P:cR}{n:Nat}{U:Nat->bL}{w:bM}{Q:dg}{E:bM}{V:Z HP}
variable {ops:bQ cA}{rest:Z cA}{d:Nat}{ty:da}{pos:String}{af:bQ Edge}{g:aW (Nat×Bool)}{v v' u:bL}{x y z:bT}{T T':da}
theorem AI(v:bL)(hg:Wn ops U g)(k:RL P n ops rest (cI U d v) w Q)(hd:Nat.blt d n=true:=by exact rfl)(hx:ev U x=v:=by exact rfl):
  RL P n ops (⟨some d, .move x,ty,pos,af,g⟩::rest) U w Q:=BY hg hd (by rw[<-hx];rfl) k
theorem H9(hg:Wn ops U g)(hd:Nat.blt d n=true)(hx:ev U x=v)(k:RL P n ops rest (cI U d v) w Q):
  RL P n ops (⟨some d, .assign x,ty,pos,af,g⟩::rest) U w Q:=BY hg hd (by rw[<-hx];rfl) k
theorem D_{i:Nat}{vs:bQ bL}(v:bL)(k:RL P n ops rest (cI U d v) w Q)(hg:Wn ops U g:=by exact trivial)(hd:Nat.blt d n=true:=by exact rfl)(hx:ev U x = .tuple vs:=by exact rfl)(hi:vs[i]? =some v:=by exact rfl):
  RL P n ops (⟨some d, .extract x i,ty,pos,af,g⟩::rest) U w Q:=
 BY hg hd (by grind [execOp,Instr.extract,aO,aS,aR]) k
theorem GW{b:Bool}(hg:Wn ops U g)(hd:Nat.blt d n=true)(hx:ev U x = .bool b)(hv:(if b=true then ev U y else ev U z)=v)(k:RL P n ops rest (cI U d v) w Q):
  RL P n ops (⟨some d, .pick x y z,ty,pos,af,g⟩::rest) U w Q:=
 BY hg hd (by grind [execOp,asBool,aO,aS,aR]) k
theorem GR(b:Bool)(k:RL P n ops rest (cI U d<|.bool<|!b) w Q)(hg:Wn ops U g:=by exact trivial)(hd:Nat.blt d n=true:=by exact rfl)(hx:ev U x = .bool b:=by exact rfl):
  RL P n ops (⟨some d, .unOp .not T x,ty,pos,af,g⟩::rest) U w Q:=
 BY hg hd (by grind [execOp,Op.unary,aO,aS,aR]) k
theorem vf{bop:BinOp}{K:IntKind}{a b:Int}(hc:po bop=true)(w:bM):(binOp bop T (.int K a)<|.int K b).run P w = .ok (.bool<|kx bop a b) w:=by
 cases bop <;> first|(cases hc;done)|(simp only[binOp,ne_eq,not_true,if_false,Op.intCmp,aS,kx])
theorem GO{bop:BinOp}{K:IntKind}(a b:Int)(hg:Wn ops U g)(k:RL P n ops rest (cI U d<|.bool<|kx bop a b) w Q)(hd:Nat.blt d n=true:=by exact rfl)(hx:ev U x = .int K a:=by exact rfl)(hy:ev U y = .int K b:=by exact rfl)(hc:po bop=true:=by exact rfl):RL P n ops (⟨some d, .binOp bop T x y T',ty,pos,af,g⟩::rest) U w Q:=by
 refine BY hg hd ?_ k
 grind [eqGuard,execOp,aO,aR,vf,aS]
theorem E_{bop:BinOp}{K:IntKind}(a b:Int)(k:RL P n ops rest (cI U d<|.int K<|K.wrap<|jF bop a b) w Q)(hg:Wn ops U g:=by first|exact trivial|exact⟨_,rfl,rfl⟩|exact⟨_,rfl,Gk.cb ‹_›⟩)(hd:Nat.blt d n=true:=by exact rfl)(hx:ev U x = .int K a:=by exact rfl)(hy:ev U y = .int K b:=by exact rfl)(hc:C5 bop=true:=by exact rfl):RL P n ops (⟨some d, .binOp bop T x y T',ty,pos,af,g⟩::rest) U w Q:=by
 refine BY hg hd ?_ k;have e:(eqGuard bop T x y (.int K a)<|.int K b).run P w = .ok () w:=by simp[eqGuard]
 have e2:(binOp bop T (.int K a)<|.int K b).run P w = .ok (.int K<|K.wrap<|Gk.jF bop a b) w:=by
  cases bop <;> first|(cases hc;done)|(simp only[binOp,ne_eq,not_true,if_false,Op.intArith,aS,Gk.jF])
 grind [execOp,aO,aR,aS]
theorem Hc{bop:BinOp}(v v' u:bL)(hd:Nat.blt d n=true)(hx:ev U x=v)(hy:ev U y=v')(k:RL P n ops rest (cI U d u) w Q)(hg:Wn ops U g:=by exact trivial)(he:∀w,(eqGuard bop T x y v v').run P w = .ok () w:=by exact(λ_=>rfl))(hr:∀w,(binOp bop T v v').run P w = .ok u w:=by exact(λ_=>rfl)):RL P n ops (⟨some d, .binOp bop T x y T',ty,pos,af,g⟩::rest) U w Q:=by
 refine BY hg hd ?_ k
 simp_all[execOp,aO,aR,aS]
theorem wS(s:aP):(⟨s.bK.toArray⟩:ByteArray).toList=s.bK:=by rw[ByteArray.toList_eq]
theorem vg{bop:BinOp}{a b:aP}(hc:po bop=true)(w:bM):(binOp bop T (str a)<|str b).run P w = .ok (.bool<|pq bop a b) w:=by
 cases bop <;> first|(cases hc;done)|(simp only[binOp,str,Op.stringOp,wS,aS,pq,aP.jg,aP.p9])
theorem Hd{bop:BinOp}(a b:aP)(hg:Wn ops U g)(k:RL P n ops rest (cI U d<|.bool<|pq bop a b) w Q)(hd:Nat.blt d n=true:=by exact rfl)(hx:ev U x=str a:=by exact rfl)(hy:ev U y=str b:=by exact rfl)(hc:po bop=true:=by exact rfl):RL P n ops (⟨some d, .binOp bop T x y T',ty,pos,af,g⟩::rest) U w Q:=by
 refine BY hg hd ?_ k
 grind [eqGuard,execOp,aO,aR,vg,aS]
theorem G4{t:da}(s:aP)(ht:P.underlying t=some .string)(k:RL P n ops rest (cI U d<|.int .i64 (s.bK.length:Nat)) w Q)(hg:Wn ops U g:=by exact trivial)(hd:Nat.blt d n=true:=by exact rfl)(hx:ev U x=str s:=by exact rfl):RL P n ops (⟨some d, .call ⟨.builtin .len,#[x],#[t]⟩,ty,pos,af,g⟩::rest) U w Q:=by
 refine BY hg hd ?_ k;have e:(⟨s.bK.toArray⟩:ByteArray).size=s.bK.length:=rfl;simp[execOp,resolve,hx,invoke,builtin,Builtin.len_,run_underlying ht,goInt,str,e]
theorem HA{t e:da}{a:aW Addr}{m cap:Nat}(hg:Wn ops U g)(hd:Nat.blt d n=true)(hx:ev U x = .slice a m cap)(ht:P.underlying t=some (.slice e))
  (k:RL P n ops rest (cI U d<|.int .i64 (m:Nat)) w Q):RL P n ops (⟨some d, .call ⟨.builtin .len,#[x],#[t]⟩,ty,pos,af,g⟩::rest) U w Q:=by
 refine BY hg hd ?_ k;simp[execOp,resolve,hx,invoke,builtin,Builtin.len_,run_underlying ht,goInt]
theorem HU(s:aP)(i:Int)(c:UInt8){K:IntKind}(hd:Nat.blt d n=true)(hx:ev U x=str s)(hy:ev U y = .int K i)(ht:P.underlying T=some .string)(hc:(if 0<=i then s.bK[i.toNat]? else none)=some c)(k:RL P n ops rest (cI U d<|.int .u8 (c.toNat:Nat)) w Q)(hg:Wn ops U g:=by exact trivial):
  RL P n ops (⟨some d, .index T x y,ty,pos,af,g⟩::rest) U w Q:=by
 refine BY hg hd ?_ k;have e:(if 0<=i then(⟨s.bK.toArray⟩:ByteArray)[i.toNat]? else none)=some c:=by
  rw[<-hc];split
  ·have:(⟨s.bK.toArray⟩:ByteArray)[i.toNat]? =s.bK.toArray[i.toNat]? :=rfl
   grind
  ·rfl
 simp_all[execOp,Instr.index,asIntOf,run_underlying,str,aO,aS,aR]
theorem Hl{j t:Nat}(c:Bool){want:Bool}(b:Bool){op:Op}(v:bL)(ht:(ops[j]?).bind (·.dst)=some t)(hv:U t=cv c (.bool b))(hd:Nat.blt d n=true)(hrun:(c&&(b==want))=true->(execOp (ev U) ⟨some d,op,ty,pos,af,some (j,want)⟩).run P w = .ok (.value v) w)(k:RL P n ops rest (cI U d<|cv (c&&(b==want)) v) w Q):RL P n ops (⟨some d,op,ty,pos,af,some (j,want)⟩::rest) U w Q:=by
 cases hC:(c&&(b==want))with
 |true=>
  rw[hC]at k;have hb:b=want:=by grind
  exact BY (v:=v) ⟨t,ht,by grind [wR]⟩ hd (hrun hC) k
 |false=>
  rw[hC]at k;refine H7 ht ?_ hd k;rw[hv]
  cases c with
  |false=>exact .inr rfl
  |true=>left;cases b <;> cases want <;> first|rfl|(cases hC)
theorem Bf{C:Bool}{o:cA}(ho:o.op = .move x)(hx:C=true->ev U x=v):C=true->(execOp (ev U) o).run P w = .ok (.value v) w:=
 by simp_all[execOp]
theorem Bg{C:Bool}{o:cA}{bop:BinOp}{K:IntKind}{a b:Int}(ho:o.op = .binOp bop T x y T')(hx:C=true->ev U x = .int K a)(hy:C=true->ev U y = .int K b)(hc:po bop=true):
  C=true->(execOp (ev U) o).run P w = .ok (.value<|.bool<|kx bop a b) w:=by grind [eqGuard,execOp,aO,aR,vf,aS]
theorem Bh{C:Bool}{o:cA}{bop:BinOp}{a b:aP}(ho:o.op = .binOp bop T x y T')(hx:C=true->ev U x=str a)(hy:C=true->ev U y=str b)(hc:po bop=true):
  C=true->(execOp (ev U) o).run P w = .ok (.value<|.bool<|pq bop a b) w:=by grind [eqGuard,execOp,aO,aR,vg,aS]
theorem Co{C:Bool}{o:cA}{b:Bool}(ho:o.op = .unOp .not T x)(hx:C=true->ev U x = .bool b):C=true->(execOp (ev U) o).run P w = .ok (.value<|.bool<|!b) w:=by grind [execOp,Op.unary,aO,aS,aR]
theorem Bi{C:Bool}{o:cA}{b:Bool}(ho:o.op = .pick x y z)(hx:C=true->ev U x = .bool b)(hv:C=true->(if b=true then ev U y else ev U z)=v):
  C=true->(execOp (ev U) o).run P w = .ok (.value v) w:=by grind [execOp,asBool,aO,aS,aR]
theorem Bj{C:Bool}{o:cA}{t:da}{s:aP}(ho:o.op = .call ⟨.builtin .len,#[x],#[t]⟩)(hx:C=true->ev U x=str s)(ht:P.underlying t=some .string):
  C=true->(execOp (ev U) o).run P w = .ok (.value<|.int .i64 (s.bK.length:Nat)) w:=λh=>by
 unfold execOp;rw[ho];have e:(⟨s.bK.toArray⟩:ByteArray).size=s.bK.length:=rfl;simp[resolve,hx h,invoke,builtin,Builtin.len_,run_underlying ht,goInt,str,e]
end
section
variable {α β:Type}[GT α][GT β]{P:cR}{E w:bM}{V:Z HP}{i:Nat}{v:bL}{x:α}
theorem Holds.ou(h:Holds E w V)(hi:V[i]? =some (rd v x)):∃M hs,Good E w M hs V/\Gk.ou M v x:=
 let⟨M,hs,g⟩:=h
 ⟨M,hs,g,(g.sat i _ hi).1⟩
theorem Holds.slice{l:Z α}(h:Holds E w V)(hi:V[i]? =some (rd v l)):∃a cap,v = .slice a l.length cap:=by
 obtain⟨M,hs,g,hr⟩:=h.ou hi;obtain⟨a,m,cap,hv,hm,_⟩:=hU.1 hr
 grind
theorem Holds.dup(i:Nat)(h:Holds E w V)(hi:V[i]? =some (rd v x)):Holds E w (rd v x::V):=
 h.rE λ_ _ g=>⟨(g.sat i _ hi).1,rfl⟩
theorem Holds.sc(γ:Type)[Sc γ](h:Holds E w V)(y:γ):Holds E w (rd (Sc.toV y) y::V):=h.rE λ_ _ _=>⟨rF.2 rfl,rfl⟩
theorem Holds.jA{γ:Type}[Sc γ]{y:γ}(h:Holds E w V)(hi:V[i]? =some (rd v y)):v=Sc.toV y:=by
 obtain⟨M,hs,g,hr⟩:=h.ou hi;exact rF.1 hr
end
section
variable {α β:Type}[GT α][GT β]
variable {P:cR}{n:Nat}{U:Nat->bL}{w:bM}{Q:dg}{E:bM}{V:Z HP}{i:Nat}
variable {ops:bQ cA}{rest:Z cA}{d:Nat}{ty:da}{pos:String}{af:bQ Edge}{g:aW (Nat×Bool)}{v:bL}{q r:bT}{T T' e:da}
variable {x:α}
theorem i9{cs:Z bL}{a:Addr}{M:bZ}(hT:jP P T (GT.agg α) (GT.sz α))(ho:GT.ok M cs x)(hat:∀j u,cs[j]? =some u->w.cell? (a.add j)=some u):
  (loadVar T a).run P w = .ok (oI α cs) w:=by
 have hl:=GT.len ho;unfold loadVar oI;simp only[aO,hT.C2,aR]
 cases e:GT.agg α with
 |true=>
  simp only[if_true,aO,hT.sz,aR,<-hl,run_loadCells_list w a cs hat,aS]
 |false=>
  rw[GT.ag1 e]at hl
  match cs,hl with
  | [c],_=>
   have:=hat 0 c rfl;have ha:a.add 0=a:=rfl
   simp_all
theorem AS{p:bL}(i:Nat)(x:α)(hw:Holds E w V)(hT:jP P T (GT.agg α) (GT.sz α))(k:∀v,Holds E w (rd v x::V)->RL P n ops rest (cI U d v) w Q)(hg:Wn ops U g:=by first|exact trivial|exact⟨_,rfl,rfl⟩|exact⟨_,rfl,Gk.cb ‹_›⟩)(hd:Nat.blt d n=true:=by exact rfl)(hx:ev U q=p:=by exact rfl)(hi:V[i]? =some (pt p x):=by exact rfl):RL P n ops (⟨some d, .load T q,ty,pos,af,g⟩::rest) U w Q:=by
 obtain⟨M,hs,gd⟩:=hw;obtain⟨⟨ad,cs,hv,ho,ha⟩,_⟩:=gd.sat i _ hi;refine BY (v:=oI α cs) hg hd ?_<|k _ ⟨M,_,gd.dD ⟨⟨cs,rfl,ho⟩,rfl⟩⟩
 simp only[execOp,hx,hv,Instr.loadAt,Instr.sureAddr,aO,aS,aR,i9 hT ho<|λj u hu=>m7 gd.im<|ha j u hu]
theorem Gr{γ:Type}[Sc γ](y:γ){p:bL}(i:Nat)(hw:Holds E w V)(hT:jP P T false 1)(k:RL P n ops rest (cI U d<|Sc.toV y) w Q)(hg:Wn ops U g:=by first|exact trivial|exact⟨_,rfl,rfl⟩|exact⟨_,rfl,Gk.cb ‹_›⟩)(hd:Nat.blt d n=true:=by exact rfl)(hx:ev U q=p:=by exact rfl)(hi:V[i]? =some (pt p y):=by exact rfl):RL P n ops (⟨some d, .load T q,ty,pos,af,g⟩::rest) U w Q:=by
 refine AS (hg:=hg) (hd:=hd) (hx:=hx) (hi:=hi) _ y hw hT λv h=>?_;rw[h.jA (i:=0) rfl];exact k
theorem Gu{p:bL}{j m:Nat}{f:α->β}(i:Nat)(hw:Holds E w V)(hi:V[i]? =some (pt p x))(hf:pj P T j m)(hF:Fd m f)(k:∀v,Holds E w (pt v (f x)::V)->RL P n ops rest (cI U d v) w Q)(hg:Wn ops U g:=by first|exact trivial|exact⟨_,rfl,rfl⟩|exact⟨_,rfl,Gk.cb ‹_›⟩)(hd:Nat.blt d n=true:=by exact rfl)(hx:ev U q=p:=by exact rfl):RL P n ops (⟨some d, .fieldAddr T q j,ty,pos,af,g⟩::rest) U w Q:=by
 obtain⟨M,hs,gd⟩:=hw;obtain⟨⟨ad,cs,hv,ho,ha⟩,_⟩:=gd.sat i _ hi;refine BY (v:= .pointer<|some<|ad.add m) hg hd ?_<|k _ ⟨M,_,gd.dD ⟨⟨ad.add m,_,rfl,hF M cs x ho,ha.sub m<|GT.sz β⟩,rfl⟩⟩
 simp only[execOp,hx,hv,aO,hf.run,aR,aS]
theorem AT{l:Z α}{sv:bL}{K:IntKind}{j:Int}(i:Nat)(hw:Holds E w V)(hT:qc P T e (GT.sz α))(hj:(if 0<=j then l[j.toNat]? else none)=some x)(k:∀v,Holds E w (pt v x::V)->RL P n ops rest (cI U d v) w Q)(hg:Wn ops U g:=by first|exact trivial|exact⟨_,rfl,rfl⟩|exact⟨_,rfl,Gk.cb ‹_›⟩)(hd:Nat.blt d n=true:=by exact rfl)(hx:ev U q=sv:=by exact rfl)(hy:ev U r = .int K j:=by exact rfl)(hi:V[i]? =some (rd sv l):=by exact rfl):RL P n ops (⟨some d, .indexAddr T q r,ty,pos,af,g⟩::rest) U w Q:=by
 obtain⟨M,hs,gd⟩:=hw;obtain⟨a,m,cap,hv,hm,hc,hmx,hel⟩:=hU.1 (gd.sat i _ hi).1;have h0:0<=j:=by
  grind
 rw[aK h0]at hj;obtain⟨ad,cs,hae,ho,ha⟩:=hel _ _ hj;have hlt:j<m:=by grind
 refine BY (v:= .pointer<|some<|ad.add<|j.toNat*GT.sz α) hg hd ?_<|k _ ⟨M,_,gd.dD ⟨⟨_,cs,rfl,ho,ha⟩,rfl⟩⟩
 simp only[execOp,hx,hv,hae,hy,Instr.indexAt,asIntOf,aO,aS,aR,run_underlying hT.pf,hT.sz,h0,hlt,and_self,if_true]
theorem GA{b m:Nat}{f:α->β}(i:Nat)(hw:Holds E w V)(hi:V[i]? =some (bx e b x))(hF:Fd m f)(hT:jP P T (GT.agg β) (GT.sz β))(k:∀v,Holds E w (rd v (f x)::V)->RL P n ops rest (cI U d v) w Q)(hg:Wn ops U g:=by exact trivial)(hd:Nat.blt d n=true:=by exact rfl)(hx:ev U q = .pointer (some ⟨b,m,none⟩):=by exact rfl):RL P n ops (⟨some d, .load T q,ty,pos,af,g⟩::rest) U w Q:=by
 obtain⟨M,hs,gd⟩:=hw;obtain⟨cs,ho,hh⟩:=gd.sat i _ hi;have hb:=gd.le i b _ (bD hi) (by rw[hh];exact bG b _);have ho':=hF M cs x ho;refine BY (v:=oI β<|(cs.drop m).take<|GT.sz β) hg hd ?_<|k _ ⟨M,_,gd.dD ⟨⟨_,rfl,ho'⟩,rfl⟩⟩
 simp only[execOp,hx,Instr.loadAt,Instr.sureAddr,aO,aS,aR];rw[i9 hT ho'<|λj u hu=>?_];rfl;rw[Addr.add_lit,cell_of_row w b _ _ _ _ hb]
 grind
theorem A_{γ:Type}[Sc γ]{b m:Nat}{f:α->γ}(i:Nat)(hw:Holds E w V)(hi:V[i]? =some (bx e b x))(hF:Fd m f)(hT:jP P T false 1)(k:RL P n ops rest (cI U d<|Sc.toV<|f x) w Q)(hg:Wn ops U g:=by first|exact trivial|exact⟨_,rfl,rfl⟩|exact⟨_,rfl,Gk.cb ‹_›⟩)(hd:Nat.blt d n=true:=by exact rfl)(hx:ev U q = .pointer (some ⟨b,m,none⟩):=by exact rfl):RL P n ops (⟨some d, .load T q,ty,pos,af,g⟩::rest) U w Q:=by
 refine GA (hg:=hg) (hd:=hd) (hx:=hx) (f:=f) _ hw hi hF hT λv h=>?_;rw[h.jA (i:=0) rfl];exact k
theorem v_{b o j m:Nat}(hx:ev U q = .pointer (some ⟨b,o,none⟩))(hf:pj P T j m)(k:RL P n ops rest (cI U d<|.pointer<|some ⟨b,o+m,none⟩) w Q)(hg:Wn ops U g:=by first|exact trivial|exact⟨_,rfl,rfl⟩|exact⟨_,rfl,Gk.cb ‹_›⟩)(hd:Nat.blt d n=true:=by exact rfl):RL P n ops (⟨some d, .fieldAddr T q j,ty,pos,af,g⟩::rest) U w Q:=by
 refine BY hg hd ?_ k;simp only[execOp,hx,aO,hf.run,aR,aS,Addr.add_lit]
theorem Gl(i:Nat)(v:bL)(hw:Holds E w V)(hi:V[i]? =some (rd v x))(k:∀b w',Holds E w' (bx T b x::V)->RL P n ops rest (cI U d<|.pointer<|some ⟨b,0,none⟩) w' Q)(hg:Wn ops U g:=by exact trivial)(hd:Nat.blt d n=true:=by exact rfl)(hx:ev U q=v:=by exact rfl):RL P n ops (⟨some d, .box T q,ty,pos,af,g⟩::rest) U w Q:=by
 obtain⟨M,hs,gd,hr⟩:=hw.ou hi;refine BY (w':=w.alloc<|.cells v.cells T) hg hd ?_<|k w.heap.size _<|hw.alloc _ λM' hs' g'=>⟨v.cells.toList,?_,by simp⟩
 ·simp only[execOp,hx,Instr.box,newVar,newRow,newObj,aO,aS];rfl
 ·exact((g'.sat i _ hi).1).cells
def raw(e:da)(b k:Nat):HP:=⟨λ_ h=>∃cs:Z bL,cs.length=k/\h=Gk.one b (.cells cs.toArray e (0,0)),λ_ h=>h⟩
theorem Gs{m:Nat}(hw:Holds E w V)(hz:∃z,(∀w,(zeroValue T).run P w = .ok z w)/\z.cells.size=m)(k:∀b w',Holds E w' (raw T b m::V)->RL P n ops rest (cI U d<|.pointer<|some ⟨b,0,none⟩) w' Q)(hg:Wn ops U g:=by exact trivial)(hd:Nat.blt d n=true:=by exact rfl):RL P n ops (⟨some d, .alloc T,ty,pos,af,g⟩::rest) U w Q:=by
 obtain⟨z,hz,hs⟩:=hz;refine BY (w':=w.alloc<|.cells z.cells T) hg hd ?_<|k w.heap.size _<|hw.alloc _ λ_ _ _=>⟨z.cells.toList,by omega,by simp⟩
 simp only[execOp,Instr.alloc,newVar,newRow,newObj,aO,aS,hz,aR];rfl
theorem ky{m:Nat}{b o:Nat}{cur:bQ bL}(hsz:∀w,(sizeOf T).run P w = .ok m w)(hv:v.cells.size=m)(h1:∀u∈v.cells.toList,u.oneCell'=true)
  (hb:w.heap[b]? =some (.cells cur e (0,0))) (ho:o+m<=cur.size):
  (storeVar T ⟨b,o,none⟩ v).run P w = .ok () (w.setRow b (cur.toList.take o++v.cells.toList++cur.toList.drop (o+m)).toArray):=by
 have:=run_storeCells_at P b o e v.cells.toList 0 cur w hb (by grind) h1
 grind [Array.length_toList,storeVar,aO,aR,not_true]
theorem ja{M:bZ}{hs:Nat->bZ}{P':HP}{b:Nat}{cur new:bQ bL}{Pi:HP}(gd:Good E w M hs V)(hi:V[i]? =some Pi)(hh:hs i=Gk.one b (.cells cur e (0,0)))
  (hp:P'.ok M (Gk.one b<|.cells new e (0,0))):Holds E (w.setRow b new) (V.set i P'):=by
 have hb:=gd.le i b _ (bD hi) (by rw[hh];exact bG b _);refine⟨M,_,gd.update (bD hi) (Gk.one b<|.cells new e (0,0)) hp rfl rfl rfl (λb' o' hb'=>?_) (λb' o' hb'=>?_)<|λb' hb' _=>?_⟩
 ·grind [dX,setRow_heap]
 ·obtain⟨rfl,rfl⟩:=dX hb';simp_all[bG]
 ·rw[hh]at hb'
  grind [setRow_other,bG]
theorem Gt{m b:Nat}(i:Nat)(hw:Holds E w V)(j:Nat)(hj:V[j]? =some (rd v x))(hT:jP P T (GT.agg α) (GT.sz α))(k:∀w',Holds E w' (V.set i<|bx e b x)->RL P n ops rest U w' Q)(hg:Wn ops U g:=by exact trivial)(hx:ev U q = .pointer (some ⟨b,0,none⟩):=by exact rfl)(hy:ev U r=v:=by exact rfl)(hi:V[i]? =some (raw e b m):=by exact rfl)(hm:m=GT.sz α:=by exact rfl):RL P n ops (⟨none, .store T q r,ty,pos,af,g⟩::rest) U w Q:=by
 obtain⟨M,hs,gd⟩:=hw;obtain⟨cs,hl,hh⟩:=gd.sat i _ hi;have hr:=(gd.sat j _ hj).1;have hb:=gd.le i b _ (bD hi) (by rw[hh];exact bG b _);have hc:v.cells.size=GT.sz α:=by rw[<-GT.len hr.cells];simp
 have hrun:=ky (P:=P) (v:=v) (o:=0) hT.sz hc (GT.one hr.cells) hb (by simp[hl,hm]);refine Hk (w':=w.setRow b v.cells) hg ?_<|k _<|ja gd hi hh ⟨v.cells.toList,hr.cells,by simp⟩
 have hd:List.drop (GT.sz α) cs= []:=List.drop_eq_nil_of_le (by omega);simp only[ez,List.take_zero,List.nil_append,hd,fY,Array.toArray_toList]at hrun
 grind [execOp,Instr.storeAt,Instr.sureAddr,aO,aS,aR]
end
inductive Fl (S R:Type)where
 |nx (s:S)
 |br (s:S)
 |rt (r:R)
inductive Fo (S R:Type)where
 |go (s:S)
 |rt (r:R)
section
variable {S R:Type}
def t8(body:Nat->S->aW (Fl S R)):Nat->Nat->S->aW (Fo S R)
 | 0,_,s=>some (.go s)
 |m+1,k,s=>(body k s).bind λ
  | .nx s'=>t8 body m (k+1) s'
  | .br s'=>some (.go s')
  | .rt r=>some (.rt r)
def ow(m:Nat)(body:Nat->S->aW (Fl S R))(s:S):aW (Fo S R):=if m<=4611686018427387904 then t8 body m 0 s else none
def wT(body:Nat->S->aW S):Nat->Nat->S->aW S
 | 0,_,s=>some s
 |m+1,k,s=>(body k s).bind λs'=>wT body m (k+1) s'
def j8(m:Nat)(body:Nat->S->aW S)(s:S):aW S:=if m<=4611686018427387904 then wT body m 0 s else none
def m8(body:S->aW (Fl S R)):Nat->S->aW (Fo S R)
 | 0,_=>none
 |N+1,s=>(body s).bind λ
  | .nx s'=>m8 body N s'
  | .br s'=>some (.go s')
  | .rt r=>some (.rt r)
theorem bd{α β:Type}{o:aW α}{f:α->aW β}{r:β}(h:o.bind f=some r):∃x,o=some x/\f x=some r:=by
 cases o with
 |none=>cases h
 |some x=>grind
end
section
variable {S R:Type}{P:cR}{n:Nat}{U:Nat->bL}{w:bM}{Q:dg}{c x y:Code}{b0:Nat}
def Cp(b0:Nat)(J:S->(Nat->bL)->bM->Prop)(K:R->(Nat->bL)->bM->Prop):Fo S R->dg
 | .go s=>λex U w=>ex = .exit b0/\J s U w
 | .rt r=>λex U w=>ex = .ret/\K r U w
def zI(I:Nat->S->(Nat->bL)->bM->Prop)(b0:Nat)(J:S->(Nat->bL)->bM->Prop)(K:R->(Nat->bL)->bM->Prop)(k:Nat):Fl S R->dg
 | .nx s=>λex U w=>ex = .normal/\I (k+1) s U w
 | .br s=>λex U w=>ex = .exit b0/\J s U w
 | .rt r=>λex U w=>ex = .ret/\K r U w
def t9(I:S->(Nat->bL)->bM->Prop)(b0:Nat)(J:S->(Nat->bL)->bM->Prop)(K:R->(Nat->bL)->bM->Prop):Fl S R->dg
 | .nx s=>λex U w=>ex = .normal/\I s U w
 | .br s=>λex U w=>ex = .exit b0/\J s U w
 | .rt r=>λex U w=>ex = .ret/\K r U w
theorem zJ{a:Act}{Q:Exit->Act->bM->Prop}(I:Nat->Act->bM->Prop){m:Nat}(h0:I m a w)
  (round:∀m a w,I m a w->c.wp P (Exit.then (λa' w'=>∃m',m'<m/\I m' a' w') Q) a w):(Code.loop c).wp P Q a w:=by
 intro b k cs;have key:∀m a w,I m a w->∃e a' w',Q e a' w'/\Arrives P (lone (b.at a<|.code c:: .inLoop c::k) cs w) b k cs e a' w':=by
  intro m
  induction m using Nat.strongRecOn with
  |_ m ih=>
   intro a w hI;obtain⟨e,a₁,w₁,hq,harr⟩:=round m a w hI b (.inLoop c::k) cs
   cases e with
   |normal=>
    obtain⟨m',hlt,hI₁⟩:=hq;obtain⟨e₂,a₂,w₂,hq₂,harr₂⟩:=ih m' hlt a₁ w₁ hI₁;exact⟨e₂,a₂,w₂,hq₂, .of_steps (Steps.trans harr<|.one step_inLoop) harr₂⟩
   |exit id=>exact⟨_,a₁,w₁,hq, .pass (x:= .inLoop c) rfl (λ_ _=> .inl (by simp)) harr⟩
   |goto l=>exact⟨_,a₁,w₁,hq, .pass (x:= .inLoop c) rfl (λ_ _=> .inl (by simp)) harr⟩
   |ret=>exact⟨_,a₁,w₁,hq, .pass (x:= .inLoop c) rfl (λ_ _=> .inl (by simp)) harr⟩
   |panic ch=>exact⟨_,a₁,w₁,hq, .pass (x:= .inLoop c) rfl (λ_ _=> .inl (by simp)) harr⟩
   |outgrown=>exact⟨_,a₁,w₁,hq, .pass (x:= .inLoop c) rfl (λ_ _=> .inl (by simp)) harr⟩
 obtain⟨e,a',w',hq,harr⟩:=key _ a w h0;exact⟨e,a',w',hq, .of_steps (.one step_loop) harr⟩
theorem HV(I:Nat->(Nat->bL)->bM->Prop){m:Nat}(h0:I m U w)
  (step:∀m U w,I m U w->RC P n c U w (λex σ' w'=>(ex = .normal/\∃m',m'<m/\I m' σ' w')\/(ex≠ .normal/\Q ex σ' w'))):RC P n (.loop c) U w Q:=by
 intro a ha;refine zJ (λm a w=>∃U,Sl n U a/\I m U w) ⟨U,ha,h0⟩ ?_;rintro m a w⟨U,hs,hI⟩;refine wp_mono (step m U w hI a hs) λe a' w'⟨σ',hs',q⟩=>?_
 rcases q with⟨rfl,m',hm,hI'⟩|⟨hne,hq⟩
 ·exact⟨m',hm,σ',hs',hI'⟩
 ·cases e with
  |normal=>grind
  |_=>exact⟨σ',hs',hq⟩
theorem H_(I:Nat->S->(Nat->bL)->bM->Prop)(J:S->(Nat->bL)->bM->Prop)(K:R->(Nat->bL)->bM->Prop)
  {body:Nat->S->aW (Fl S R)} {m:Nat} {s0:S} {out:Fo S R} (hN:ow m body s0=some out) (h0:I 0 s0 U w)
  (stop:m<=4611686018427387904->∀s U w,I m s U w->RC P n c U w (Cp (R:=R) b0 J K<|.go s))
  (step:m<=4611686018427387904->∀k s fl U w,k<m->I k s U w->body k s=some fl->RC P n c U w (zI I b0 J K k fl))
  (hrt:∀r U w,out = .rt r->K r U w->Q .ret U w) (hgo:∀s U w,out = .go s->J s U w->Q .normal U w):RC P n (.block b0<|.loop c) U w Q:=by
 unfold ow at hN;split at hN
 ·rename_i hm;refine G8<|HV (λj U w=>(∃k s,k+j=m+1/\k<=m/\I k s U w/\t8 body (m - k) k s=some out)) (m:=m+1) ⟨0,s0,by omega,by omega,h0,hN⟩ ?_
  rintro j U w⟨k,s,hk,hkm,hI,hr⟩
  by_cases e:k<m
  ·obtain⟨j',hj'⟩:∃j',m - k=j'+1:=⟨m - k - 1,by omega⟩;rw[hj']at hr;obtain⟨fl,hb,hr⟩:=bd hr;refine RC.mono (step hm k s fl U w e hI hb) λex σ' w' q=>?_
   cases fl with
   |nx s'=>
    obtain⟨rfl,hI'⟩:=q;exact .inl ⟨rfl,j - 1,by omega,k+1,s',by omega,by omega,hI',by grind⟩
   |br s'=>
    obtain⟨rfl,hJ⟩:=q
    grind [qb]
   |rt r=>
    obtain⟨rfl,hK⟩:=q;injection hr with hr
    exact .inr ⟨by simp,hrt r σ' w' hr.symm hK⟩
  ·obtain rfl:k=m:=by omega
   rw[Nat.sub_self]at hr;injection hr with hr
   refine RC.mono (stop hm s U w hI) λex σ' w' q=>?_;obtain⟨rfl,hJ⟩:=q
   grind [qb]
 ·cases hN
theorem tg{body:Nat->S->aW S}:∀(m k:Nat)(s s':S),wT body m k s=some s'->t8 (R:=Empty) (λk s=>(body k s).map Fl.nx) m k s=some (.go s')
 | 0,_,s,s',h=>by injection h with h;subst h;rfl
 |m+1,k,s,s',h=>by
  obtain⟨s1,hb,hr⟩:=bd h;unfold t8;simp only[hb,Option.map_some,Option.bind_some];exact tg m (k+1) s1 s' hr
theorem IG(I:Nat->S->(Nat->bL)->bM->Prop)(J:S->(Nat->bL)->bM->Prop)
  {body:Nat->S->aW S} {m:Nat} {s0 out:S} (hN:j8 m body s0=some out) (h0:I 0 s0 U w)
  (stop:m<=4611686018427387904->∀s U w,I m s U w->RC P n c U w (λex U w=>ex = .exit b0/\J s U w))
  (step:m<=4611686018427387904->∀k s s' U w,k<m->I k s U w->body k s=some s'->RC P n c U w (λex U w=>ex = .normal/\I (k+1) s' U w))
  (hgo:∀U w,J out U w->Q .normal U w):RC P n (.block b0<|.loop c) U w Q:=by
 have hN':ow (R:=Empty) m (λk s=>(body k s).map Fl.nx) s0=some (.go out):=by
  grind [j8,ow,tg]
 refine H_ I J (λr _ _=>r.elim) hN' h0 (λhm s U w hI=>stop hm s U w hI) (λhm k s fl U w hk hI hb=>?_) (λr _ _ _ _=>r.elim)<|λs U w e hJ=>?_
 ·cases hx:body k s with
  |none=>grind
  |some s'=>
   rw[hx]at hb;injection hb with hb
   subst hb;exact step hm k s s' U w hk hI hx
 grind
theorem HW(I:S->(Nat->bL)->bM->Prop)(J:S->(Nat->bL)->bM->Prop)(K:R->(Nat->bL)->bM->Prop)
  {body:S->aW (Fl S R)} {N:Nat} {s0:S} {out:Fo S R} (hN:m8 body N s0=some out) (h0:I s0 U w)
  (step:∀s fl U w,I s U w->body s=some fl->RC P n c U w (t9 I b0 J K fl))
  (hrt:∀r U w,out = .rt r->K r U w->Q .ret U w) (hgo:∀s U w,out = .go s->J s U w->Q .normal U w):RC P n (.block b0<|.loop c) U w Q:=by
 refine G8<|HV (λj U w=>∃s,I s U w/\m8 body j s=some out) (m:=N) ⟨s0,h0,hN⟩ ?_
 rintro j U w⟨s,hI,hr⟩
 cases j with
 |zero=>cases hr
 |succ j=>
  obtain⟨fl,hb,hr⟩:=bd hr;refine RC.mono (step s fl U w hI hb) λex σ' w' q=>?_
  cases fl with
  |nx s'=>obtain⟨rfl,hI'⟩:=q;grind
  |br s'=>
   obtain⟨rfl,hJ⟩:=q
   grind [qb]
  |rt r=>
   obtain⟨rfl,hK⟩:=q;injection hr with hr
   exact .inr ⟨by simp,hrt r σ' w' hr.symm hK⟩
theorem dF{x:Int}(h1: -9223372036854775808<=x)(h2:x<9223372036854775808):IntKind.i64.wrap x=x:=by
 have e1:(2:Int) ^ (IntKind.i64.bits)=18446744073709551616:=by decide
 have e2:(2:Int) ^ (IntKind.i64.bits - 1)=9223372036854775808:=by decide
 have e3:IntKind.i64.signed=true:=by decide
 grind [wrap]
theorem yt{k m:Nat}(h:k<m)(hm:m<=4611686018427387904):IntKind.i64.wrap ((k:Int)+1)=((k+1:Nat):Int):=by
 grind [dF]
end
section
variable {α β:Type}[GT α][GT β]{M:bZ}
theorem Cells.nil:Cells M [] ([]:Z α):=⟨by simp,λi x h=>by simp at h⟩
theorem Cells.append{xs ys:Z bL}{l l':Z α}(h:Cells M xs l)(h':Cells M ys l'):Cells M (xs++ys) (l++l'):=by
 refine⟨by rw[dh,dh,h.1,h'.1,Nat.add_mul],λi x hx=>?_⟩
 by_cases hi:i<l.length
 ·rw[gR hi]at hx;have hb:i*GT.sz α+GT.sz α<=xs.length:=by
   rw[h.1]
   calc i*GT.sz α+GT.sz α=(i+1)*GT.sz α:=by rw[Nat.add_mul,Nat.one_mul]
    _<=l.length*GT.sz α:=Nat.mul_le_mul_right _ hi
  rw[List.drop_append_of_le_length (by omega),List.take_append_of_le_length (by grind)];exact h.2 i x hx
 ·rw[gS (by omega)]at hx;have:=h'.2 _ x hx;obtain⟨k,rfl⟩:∃k,i=l.length+k:=⟨i - l.length,by omega⟩;rw[Nat.add_sub_cancel_left]at this;rw[Nat.add_mul,<-h.1,List.drop_length_add_append];exact this
theorem Cells.one{cs:Z bL}{x:α}(h:GT.ok M cs x):Cells M cs [x]:=
 ⟨by grind [GT.len],λi y hy=>by
  cases i with
  |zero=>grind [ij,GT.len]
  |succ i=>simp at hy⟩
theorem Cells.Eb{xs:Z bL}{l:Z α}(h:Cells M xs l):∀u∈xs,u.oneCell'=true:=by
 intro u hu;obtain⟨j,hj,rfl⟩:=List.getElem_of_mem hu;have hp:=GT.pos (α:=α);have hq:j / GT.sz α<l.length:=by rw[Nat.div_lt_iff_lt_mul hp,<-h.1];exact hj
 refine GT.one (h.2 (j / GT.sz α) l[j / GT.sz α]<|aN hq) _ ?_;have hm:j % GT.sz α<GT.sz α:=Nat.mod_lt _ hp;have hd:j / GT.sz α*GT.sz α+j % GT.sz α=j:=by simp[Nat.mul_comm,Nat.div_add_mod]
 refine dJ (i:=j % GT.sz α) ?_
 grind
theorem vh{ad:Addr}{m cap:Nat}{l:Z α}(h:iV M (.slice (some ad) m cap) l):∃xs,Cells M xs l/\At M ad xs:=by
 obtain⟨a,n',cap',hv,hn,_,_,hel⟩:=h;injection hv with h1 h2 h3
 subst h1;have key:∀k,k<=l.length->∃xs,Cells M xs (l.take k)/\At M ad xs:=by
  intro k
  induction k with
  |zero=>exact λ_=>⟨[],by simp[Cells.nil],λj u hu=>by simp at hu⟩
  |succ k ih=>
   intro hk;obtain⟨xs,hc,ha⟩:=ih (by omega);have hx:l[k]? =some l[k]:=aN (by omega);obtain⟨ad',cs,e,ho,hat⟩:=hel k _ hx;injection e with e
   subst e;refine⟨xs++cs,?_,λj u hu=>?_⟩
   ·rw[ek (by omega)];exact hc.append<|Cells.one ho
   ·have hl:xs.length=k*GT.sz α:=by rw[hc.1,bX];congr 1;omega
    by_cases hj:j<xs.length
    ·rw[gR hj]at hu;exact ha j u hu
    ·rw[gS (by omega)]at hu;have:=hat _ u hu
     grind [add_add,GT.sz]
 have:=key l.length<|aX _
 grind
theorem At.nil(a:Addr):At M a []:=λj u hu=>by simp at hu
theorem pr{g o cap:Nat}{cur:bQ bL}{e:da}{fr:Nat×Nat}{xs:Z bL}{l:Z α}(hM:M g=some (.cells cur e fr))(hc:Cells M xs l)(hx:(cur.toList.drop o).take (l.length*GT.sz α)=xs)
  (hl:l.length<=cap) (hm:cap<=maxLen):iV M (.slice (some ⟨g,o,none⟩) l.length cap) l:=by
 refine⟨_,_,_,rfl,rfl,hl,hm,λi x hix=>⟨_,_,rfl,hc.2 i x hix,λj u hu=>?_⟩⟩
 grind [Addr.add_lit,pg,Option.isSome_none,Nat.add_assoc]
end
section
variable {α β:Type}[GT α][GT β]{P:cR}{E w:bM}{V:Z HP}{i:Nat}{v:bL}{l:Z α}{e:da}
theorem ei(e:da)(M:bZ):rG (α:=α) e M j9 (.slice none 0 0) []:= .inl ⟨rfl,rfl,rfl⟩
theorem Holds.ei(h:Holds E w V)(α:Type)[GT α](e:da):Holds E w (own (α:=α) e (.slice none 0 0) []::V):=h.rE λM _ _=>Gk.ei e M
theorem Holds.freeze(i:Nat)(h:Holds E w V)(hi:V[i]? =some (own e v l):=by exact rfl):Holds E w (V.set i<|rd v l):=by
 obtain⟨M,hs,g⟩:=h;have hlt:=bD hi;have ho:=g.sat i _ hi;refine⟨_,_,g.freeze (P':=rd v l) hlt ⟨hU.2 ?_,rfl⟩⟩
 rcases ho with⟨rfl,rfl,_⟩|⟨b,o,cap,cur,xs,rfl,h2,h3,h4,h5,h6,h7⟩
 ·exact⟨none,0,0,rfl,rfl,aX _,by simp[maxLen],λi x hx=>by simp at hx⟩
 ·refine pr (M:=kK M<|hs i) (e:=e) (fr:=(0,0)) ?_ (h7.mono<|rj _ _) h6 h2 h3;have hb:hs i b=some (.cells cur e (0,0)):=by simp_all[bG]
  simp[kK,g.dm i b _ hlt hb,hb]
theorem Holds.il(h:Holds E w V)(hi:V[i]? =some (own e v l)):∃a cap,v = .slice a l.length cap:=by
 obtain⟨M,hs,g⟩:=h
 rcases g.sat i _ hi with⟨rfl,rfl,_⟩|⟨b,o,cap,cur,xs,rfl,_⟩
 ·simp
 simp
theorem zL{M h:bZ}(ho:rG e M h v l):v.oneCell'=true:=by
 rcases ho with⟨rfl,_⟩|⟨b,o,cap,cur,xs,rfl,_⟩ <;> rfl
end
def app{α:Type}(bytes:Nat)(l ys:Z α):aW (Z α):=if(l.length+ys.length)*bytes<=140737488355328 then some (l++ys)else none
structure qa (P:cR) (t e:da) (k bytes:Nat):Prop where
 pf:P.underlying t=some (.slice e)
 inf:∃i z,P.info? e=some i/\i.zero=some z/\i.size=k/\i.bytes=bytes/\z.cells.size=k
 pos:0<bytes
section
variable {α:Type}[GT α]{P:cR}{E w:bM}{V:Z HP}{i j:Nat}{v vy:bL}{l ys l':Z α}{e t ty:da}{bytes:Nat}
theorem qd(i:TypeInfo)(ht:P.underlying t=some (.slice e))(hi:P.info? e=some i)
  (g o sLen sCap:Nat) (cur:bQ bL) (hg:w.heap[g]? =some (.cells cur e (0,0)))
  (a:Addr) (m c:Nat) (news:Z bL) (hl:news.length=m*i.size) (hnews:∀j u,news[j]? =some u->w.cell? (a.add j)=some u) (h1:∀u∈news,u.oneCell'=true)
  (hroom:sLen+m<=sCap) (hfit:o+sLen*i.size+news.length<=cur.size):
  (Builtin.append_ #[t,t] ty #[.slice (some ⟨g,o,none⟩) sLen sCap, .slice (some a) m c]).run P w =
   .ok (.slice (some ⟨g,o,none⟩) (sLen+m) sCap) (w.setRow g (cur.toList.take (o+sLen*i.size)++news++cur.toList.drop (o+sLen*i.size+news.length)).toArray):=by
 have hf:=run_firstCells_some (P:=P) w i.size m a m c news hl hnews;have hst:=run_storeCells_at P g (o+sLen*i.size) e news 0 cur w hg (by omega) h1;simp only[Nat.add_zero]at hst;simp[Builtin.append_,run_underlying ht,sizeOf,typeInfo,hi,Builtin.lenOf,hroom,hf,Addr.add_lit,hst]
theorem mR(i:TypeInfo)(ht:P.underlying t=some (.slice e))(hi:P.info? e=some i)(a:aW Addr)(sLen sCap c:Nat)(hc:sLen<=sCap):
  (Builtin.append_ #[t,t] ty #[.slice a sLen sCap, .slice none 0 c]).run P w = .ok (.slice a sLen sCap) w:=by
 cases a <;> simp[Builtin.append_,run_underlying ht,sizeOf,typeInfo,hi,Builtin.lenOf,Builtin.firstCells,hc,storeCells]
theorem m9{V:Z HP}{i:Nat}{Pr:HP}(h:V[i]? =some Pr):V.set i Pr=V:=by
 apply List.ext_getElem?
 grind
theorem Bl(hw:Holds E w V)(hi:V[i]? =some (own e v l))(hj:V[j]? =some (rd vy ys))(hT:qa P t e (GT.sz α) bytes)(hb:app bytes l ys=some l'):
  ∃v' w',(Builtin.append_ #[t,t] ty #[v,vy]).run P w = .ok v' w'/\Holds E w' (V.set i<|own e v' l'):=by
 obtain⟨inf,z,hinf,hz,hsz,hby,hzs⟩:=hT.inf;unfold app at hb;split at hb
 case isFalse=>cases hb
 rename_i hroom;injection hb with hb
 subst hb;obtain⟨M,hs,g⟩:=hw;have hlt:=bD hi;have ho:=g.sat i _ hi;have hle63:l.length+ys.length<=140737488355328:=jk (Nat.le_mul_of_pos_right _ hT.pos) hroom;obtain⟨a,m,c,hvy,hm,hmc,hcm,hel⟩:=hU.1 (g.sat j _ hj).1;subst hvy;have hcase:(ys= []/\a=none)\/∃ad news,a=some ad/\Cells M news ys/\At M ad news:=by
  cases a with
  |none=>
   left;refine⟨?_,rfl⟩
   cases ys with
   |nil=>rfl
   |cons y r=>obtain⟨ad,cs,h,_⟩:=hel 0 y rfl;cases h
  |some ad=>
   right;obtain⟨xs,h1,h2⟩:=vh (l:=ys) (ad:=ad) (m:=m) (cap:=c) ⟨_,_,_,rfl,hm,hmc,hcm,hel⟩
   grind
 rcases hcase with⟨rfl,rfl⟩|⟨ad,news,rfl,hcn,hat⟩
 ·
  simp only[List.length_nil]at hm;subst hm;rw[fY];have jE:V.set i (own e v l)=V:=m9 hi;refine⟨v,w,?_,by rw[jE];exact⟨M,hs,g⟩⟩
  rcases ho with⟨rfl,rfl,_⟩|⟨b,o,cap,cur,xs,rfl,h2,h3,h4,h5,h6,h7⟩
  ·exact mR inf hT.pf hinf none 0 0 c<|aX _
  ·exact mR inf hT.pf hinf _ _ cap c h2
 ·have hnews:∀j u,news[j]? =some u->w.cell? (ad.add j)=some u:=λj u hu=>m7 g.im<|hat j u hu
  have hnl:news.length=m*inf.size:=by rw[hcn.1,hm,hsz]
  have h1:=hcn.Eb;have grown:∀(olds:Z bL)(N:Nat),Cells M olds l->N=l.length+m->∀(old:Nat),
    Holds E (w.drew.alloc<|.cells (olds.toArray++news.toArray++Builtin.zeroCells z.cells (grownCap w N old e - N)) e)
     (V.set i<|own e (.slice (some ⟨w.heap.size,0,none⟩) N<|grownCap w N old e)<|l++ys):=by
   intro olds N hol hN old;have hge:=grownCap_ge w N old e;have hcm':grownCap w N old e<=maxLen:=grownCap_le_maxLen w N old e (by grind [maxLen]);have hNl:N=(l++ys).length:=by rw[dh,hN,hm]
   have hca:=hol.append hcn;refine⟨M,_,g.update (w':=w.drew.alloc _) hlt (Gk.one w.heap.size<|.cells (olds.toArray++news.toArray++Builtin.zeroCells z.cells (grownCap w N old e - N)) e (0,0)) (.inr ⟨w.heap.size,0,grownCap w N old e,_,olds++news,by rw[<-hNl],by omega,hcm',rfl,?_,?_,hca⟩) rfl rfl rfl (λb o' hb=>?_) (λb o' hb=>?_)<|λb _ hb=>?_⟩
   ·simp only[Array.size_append,List.size_toArray,size_zeroCells,hzs,ez];refine Nat.le_of_eq<|Eq.symm ?_
    rw[<-dh,hca.1,<-hNl,<-Nat.add_mul];congr 1;omega
   ·simp only[Array.toList_append,List.drop_zero];rw[<-hca.1];exact List.take_left
   ·obtain⟨rfl,rfl⟩:=dX hb;exact heap_alloc_new w.drew _
   ·obtain⟨rfl,rfl⟩:=dX hb;exact .inr<|aX _
   ·exact lr w.drew _ b hb
  rcases ho with⟨rfl,rfl,_⟩|⟨b,o,cap,cur,xs,rfl,h2,h3,h4,h5,h6,h7⟩
  ·by_cases hm0:m=0
   ·subst hm0;have hy:ys= []:=List.eq_nil_of_length_eq_zero hm.symm;subst hy;have jE:V.set i (own e (.slice none 0 0) ([]:Z α))=V:=m9 hi;refine⟨.slice none 0 0,w,?_,by rw[fY,jE];exact⟨M,hs,g⟩⟩;have hf:=run_firstCells_some (P:=P) w inf.size 0 ad 0 c [] (by simp) (λj u hu=>by simp at hu);simp[Builtin.append_,run_underlying hT.pf,sizeOf,typeInfo,hinf,Builtin.lenOf,hf]
   ·have hr:=run_append_nil (P:=P) w t ty e inf z hT.pf hinf hz ad m c news hnl hnews (by omega) (by omega) (by grind);have:=grown [] m Cells.nil (by simp) 0
    grind
  ·have hb:=g.le i b _ hlt (by rw[h4];exact bG b _);have hxl:xs.length=l.length*GT.sz α:=h7.1
   by_cases hfit:l.length+m<=cap
   ·have hcapm:(l.length+m)*GT.sz α<=cap*GT.sz α:=Nat.mul_le_mul_right _ hfit;rw[Nat.add_mul]at hcapm;have hr:=qd (P:=P) (ty:=ty) inf hT.pf hinf b o l.length cap cur hb ad m c news hnl hnews h1 hfit (by grind);refine⟨_,_,hr,?_⟩;have:=ja (P':=own e (.slice (some ⟨b,o,none⟩) (l.length+m) cap)<|l++ys) (new:=(cur.toList.take (o+l.length*inf.size)++news++cur.toList.drop (o+l.length*inf.size+news.length)).toArray) g hi h4
     (.inr ⟨b,o,cap,_,xs++news,by rw[dh,hm],by rw[dh,<-hm];exact hfit,h3,rfl,?_,?_,h7.append hcn⟩)
    ·exact this
    ·simp only[List.size_toArray,dh,bX,fO,Array.length_toList,hnl,hsz];omega
    ·rw[dh,Nat.add_mul,<-hm];have e1:(cur.toList.take<|o+l.length*inf.size).length=o+l.length*GT.sz α:=by
      have e0:cur.toList.length=cur.size:=rfl;rw[bX,e0,hsz];omega
     have e2:(cur.toList.take<|o+l.length*inf.size).drop o=xs:=by
      rw[hsz,List.drop_take,Nat.add_sub_cancel_left];exact h6
     simp only[jO];rw[List.drop_append_of_le_length (by omega),e2,<-jO];have:l.length*GT.sz α+m*GT.sz α=(xs++news).length:=by rw[dh,hxl,hnl,hsz]
     rw[this];exact List.take_left
   ·have holds:∀j u,xs[j]? =some u->w.cell? ((⟨b,o,none⟩:Addr).add j)=some u:=λj u hu=>by
     rw[Addr.add_lit,cell_of_row w b _ _ _ _ hb,<-Array.getElem?_toList];rw[<-h6,dV]at hu;split at hu
     ·rw[fW]at hu;exact hu
     ·cases hu
    have hr:=run_append_grow (P:=P) w t ty e inf z hT.pf hinf hz ⟨b,o,none⟩ l.length cap xs (by rw[hxl,hsz]) holds ad m c news hnl hnews (by omega) (by omega)
     (growslice_fits (by omega) (by rw[hby];rw[hm];exact hroom))
    exact⟨_,_,hr,grown xs _ h7 rfl cap⟩
end
section
variable {α:Type}[GT α]{P:cR}{n:Nat}{U:Nat->bL}{w:bM}{Q:dg}{E:bM}{V:Z HP}{i j:Nat}
variable {ops:bQ cA}{rest:Z cA}{d:Nat}{ty t e:da}{pos:String}{af:bQ Edge}{g:aW (Nat×Bool)}{v vy:bL}{q r:bT}
variable {x:α}{l ys l':Z α}{bytes:Nat}
theorem GN(i j:Nat)(hw:Holds E w V)(hT:qa P t e (GT.sz α) bytes)(hb:Gk.app bytes l ys=some l')(k:∀v' w',Holds E w' (V.set i<|own e v' l')->RL P n ops rest (cI U d v') w' Q)(hg:Wn ops U g:=by exact trivial)(hd:Nat.blt d n=true:=by exact rfl)(hx:ev U q=v:=by exact rfl)(hy:ev U r=vy:=by exact rfl)(hi:V[i]? =some (own e v l):=by exact rfl)(hj:V[j]? =some (rd vy ys):=by exact rfl):
  RL P n ops (⟨some d, .call ⟨.builtin .append,#[q,r],#[t,t]⟩,ty,pos,af,g⟩::rest) U w Q:=by
 obtain⟨v',w',hr,hw'⟩:=Bl (P:=P) (ty:=ty) hw hi hj hT hb;refine BY hg hd ?_<|k v' w' hw'
 grind [execOp,resolve,invoke,builtin,aO,aS,aR]
theorem B_(i:Nat)(l:Z α)(hw:Holds E w V)(ht:P.underlying t=some (.slice e))(k:RL P n ops rest (cI U d<|.int .i64 (l.length:Nat)) w Q)(hg:Wn ops U g:=by exact trivial)(hd:Nat.blt d n=true:=by exact rfl)(hx:ev U q=v:=by exact rfl)(hi:V[i]? =some (rd v l):=by exact rfl):RL P n ops (⟨some d, .call ⟨.builtin .len,#[q],#[t]⟩,ty,pos,af,g⟩::rest) U w Q:=by
 obtain⟨a,cap,rfl⟩:=hw.slice hi
 grind [HA]
theorem G5{e':da}(i:Nat)(l:Z α)(hw:Holds E w V)(ht:P.underlying t=some (.slice e))(k:RL P n ops rest (cI U d<|.int .i64 (l.length:Nat)) w Q)(hg:Wn ops U g:=by exact trivial)(hd:Nat.blt d n=true:=by exact rfl)(hx:ev U q=v:=by exact rfl)(hi:V[i]? =some (own e' v l):=by exact rfl):RL P n ops (⟨some d, .call ⟨.builtin .len,#[q],#[t]⟩,ty,pos,af,g⟩::rest) U w Q:=by
 obtain⟨a,cap,rfl⟩:=hw.il hi
 grind [HA]
end
def cH(M:bZ)(place:Nat->aW (Nat×Nat)){α:Type}[GT α](cells:bQ bL)(parts:Z (Nat×bL))(y:α):Prop:=
 ∃cells',Instr.fill place cells parts=some cells'/\GT.ok M cells'.toList y
section
variable {α β:Type}[GT α][GT β]{M:bZ}{place:Nat->aW (Nat×Nat)}{cells:bQ bL}{parts:Z (Nat×bL)}{x y:α}{v:bL}{z:β}
theorem cH.nil(h:GT.ok M cells.toList x):cH M place cells [] x:=⟨cells,rfl,h⟩
theorem zM(vs:Z bL):∀(cells:bQ bL)(o:Nat),o+vs.length<=cells.size->
  ((vs.toArray.zipIdx).foldl (λcs(c,j)=>cs.setIfInBounds (o+j) c) cells).toList=cells.toList.take o++vs++cells.toList.drop (o+vs.length):=by
 intro cells o h;have key:∀(vs:Z bL)(k:Nat)(cells:bQ bL),o+k+vs.length<=cells.size->
   ((vs.zipIdx k).foldl (λcs(p:bL×Nat)=>cs.setIfInBounds (o+p.2) p.1) cells).toList=cells.toList.take (o+k)++vs++cells.toList.drop (o+k+vs.length):=by
  intro vs
  induction vs with
  |nil=>intro k cells _;simp
  |cons u vs ih=>
   intro k cells h;simp only[gT]at h;rw[List.zipIdx_cons,List.foldl_cons,ih (k+1) _ (by simp;omega)];simp only[Array.toList_setIfInBounds,gT];have hk:o+k<cells.toList.length:=by simp;omega
   rw[show o+(k+1)=(o+k)+1 by omega,ek (by grind),List.take_set_of_le<|aX _,List.drop_set_of_lt (by omega)];simp only[List.getElem_set_self,jO,List.cons_append,List.nil_append];congr 4;omega
 grind
theorem cH.cons{i m:Nat}{f:α->β->α}(hx:GT.ok M cells.toList x)(hF:Fs m β f)(hz:ou M v z)(h:∀c,GT.ok M c.toList (f x z)->cH M place c parts y)(hp:place i=some (m,GT.sz β):=by exact rfl)(hm:m+GT.sz β<=GT.sz α:=by decide):cH M place cells ((i,v)::parts) y:=by
 have hc:v.cells.size=GT.sz β:=by rw[<-GT.len hz.cells];simp
 have hl:cells.size=GT.sz α:=by rw[<-GT.len hx];simp
 have hs:=zM v.cells.toList cells m (by grind);simp only[Array.toArray_toList,Array.length_toList,hc]at hs;obtain⟨c',h1,h2⟩:=h (v.cells.zipIdx.foldl (λcs(c,j)=>cs.setIfInBounds (m+j) c) cells) (by rw[hs];exact hF M _ _ x z hx hz.cells);refine⟨c',?_,h2⟩
 grind [Instr.fill]
end
structure sT (P:cR) (T:da) (places:Z (Nat×Nat)) (z:bQ bL):Prop where
 run:∀parts w,(Instr.build T parts).run P w=match Instr.fill (places.toArray[·]?) z parts.toList with|some cs=> .ok (.agg cs) w|none=> .halt (.stuck "build: no such field, or a part of the wrong size") w
section
variable {α:Type}[GT α]{P:cR}{n:Nat}{U:Nat->bL}{w:bM}{Q:dg}{E:bM}{V:Z HP}{i j:Nat}
variable {ops:bQ cA}{rest:Z cA}{d:Nat}{T ty t e:da}{pos:String}{af:bQ Edge}{g:aW (Nat×Bool)}{v vy:bL}{q r:bT}
variable {y:α}{l:Z α}{bytes:Nat}
theorem GS{parts:bQ (Nat×bT)}{places:Z (Nat×Nat)}{z:bQ bL}(y:α)(hg:Wn ops U g)(hd:Nat.blt d n=true)(hw:Holds E w V)(vs:Z (Nat×bL))(hvs:parts.toList.map (λp=>(p.1,ev U p.2))=vs)(hT:sT P T places z)(ha:GT.agg α=true)(hf:∀M hs,Good E w M hs V->cH M (places.toArray[·]?) z vs y)(k:∀v,Holds E w (rd v y::V)->RL P n ops rest (cI U d v) w Q):RL P n ops (⟨some d, .build T parts,ty,pos,af,g⟩::rest) U w Q:=by
 obtain⟨M,hs,gd⟩:=hw;obtain⟨cs,h1,h2⟩:=hf M hs gd;have e1:parts.map (λ(i,x)=>(i,ev U x))=vs.toArray:=by grind
 refine BY (v:= .agg cs) hg hd ?_<|k _ ⟨M,_,gd.dD ⟨⟨cs.toList,by simp[oI,ha],h2⟩,rfl⟩⟩
 simp only[execOp,aO];rw[e1,hT.run]
 simp_all
end
def oa:Z (Nat×bL)->(Nat->bL)->Nat->bL
 | [],O=>O
 |(d,v)::l,O=>cI (oa l O) d v
def agree(U:Nat->bL):Z (Nat×bL)->Prop
 | []=>True
 |(d,v)::l=>U d=v/\agree U l
theorem agree.oa{U:Nat->bL}{l:Z (Nat×bL)}(h:agree U l):∃O,U=Gk.oa l O:=by
 refine⟨U,?_⟩
 induction l with
 |nil=>rfl
 |cons p l ih=>
  obtain⟨d,v⟩:=p;obtain⟨h1,h2⟩:=h;have:=ih h2;funext t;show U t=cI (Gk.oa l U) d v t;unfold cI
  cases e:Nat.beq t d with
  |true=>grind [c9]
  |false=>rw[<-this];rfl
def idx{α:Type}(l:Z α)(i:Int):aW α:=if 0<=i then l[i.toNat]? else none
def yu(s:aP)(i:Int):aW UInt8:=if 0<=i then s.bK[i.toNat]? else none
def Fo.cs{S R β:Type}(o:Fo S R)(f:S->β)(g:R->β):β:=match o with| .go s=>f s| .rt r=>g r
section
variable {P:cR}{n:Nat}{U:Nat->bL}{w:bM}{Q:dg}{x y c:Code}{S:Type}
theorem Gn(J:S->(Nat->bL)->bM->Prop)(s:S)(hx:RC P n x U w (λex U w=>ex = .normal/\J s U w))(hy:∀U w,J s U w->Q .normal U w):RC P n x U w Q:=
 by grind [RC.mono]
theorem Bm{i:Nat}(h:Q (.exit i) U w):i7 P n y Q (.exit i) U w:=h
theorem bC(h:Q .ret U w):i7 P n y Q .ret U w:=h
theorem Cq{i id:Nat}(hne:i≠id)(h:Q (.exit i) U w):qb id Q (.exit i) U w:=by grind [qb]
theorem d6{id:Nat}(h:Q .ret U w):qb id Q .ret U w:=h
end
section
variable {α β:Type}[GT α][GT β]{P:cR}{E w:bM}{V:Z HP}{i:Nat}{v:bL}{x:α}
theorem Holds.wU(h:Holds E w V)(α:Type)[GT α]:Holds E w (rd (.slice none 0 0) ([]:Z α)::V):=
 h.rE λ_ _ _=>⟨hU.2 ⟨none,0,0,rfl,rfl,aX _,by simp[maxLen],λi x hx=>by simp at hx⟩,rfl⟩
theorem Holds.d7{e:da}{b:Nat}(h:Holds E w V)(hi:V[i]? =some (bx e b x)):Holds E w (V.set i<|pt (.pointer<|some ⟨b,0,none⟩) x):=by
 obtain⟨M,hs,g⟩:=h;have hlt:=bD hi;obtain⟨cs,ho,hh⟩:=g.sat i _ hi;have hb:hs i b=some (.cells cs.toArray e (0,0)):=by simp_all[bG]
 refine⟨_,_,g.freeze (P':=pt _ x) hlt ⟨⟨⟨b,0,none⟩,cs,rfl,GT.mono (rj _ _) ho,λj u hu=>?_⟩,rfl⟩⟩;rw[Addr.add_lit];simp only[pg,kK,g.dm i b _ hlt hb,hb]
 grind
theorem Fd.comp{γ:Type}[GT γ]{k k':Nat}{f:α->β}{f':β->γ}(h:Fd k f)(h':Fd k' f')(hk:k'+GT.sz γ<=GT.sz β):Fd (k+k') (λx=>f'<|f x):=by
 intro M cs x ho;have h1:=h' M _ _<|h M cs x ho
 grind [List.drop_take,List.drop_drop,Nat.min_eq_left]
end
section
variable {α β:Type}[GT α][GT β]{P:cR}{n:Nat}{U:Nat->bL}{w:bM}{Q:dg}{E:bM}{V:Z HP}{i j:Nat}
variable {ops:bQ cA}{rest:Z cA}{d:Nat}{ty t e T:da}{pos:String}{af:bQ Edge}{g:aW (Nat×Bool)}{v vy:bL}{q r:bT}
variable {x:α}
theorem Ec{fn:Func}{R:bL->bM->Prop}{t' b:Nat}(hr:fn.results = #[.cell t' T])(hw:Holds E w V)(hp:U t' = .pointer (some ⟨b,0,none⟩))(hi:V[i]? =some (bx e b x))(hT:jP P T (GT.agg α) (GT.sz α))
  (h:∀v,Holds E w (rd v x::V)->R v w):kc P n fn R .ret U w:=by
 obtain⟨M,hs,gd⟩:=hw;obtain⟨cs,ho,hh⟩:=gd.sat i _ hi;have hb:=gd.le i b _ (bD hi) (by rw[hh];exact bG b _);refine⟨oI α cs,λa ha=>?_,h _ ⟨M,_,gd.dD ⟨⟨cs,rfl,ho⟩,rfl⟩⟩⟩;have hl:(loadVar T ⟨b,0,none⟩).run P w = .ok (oI α cs) w:=i9 hT ho λj u hu=>by
  rw[Addr.add_lit,cell_of_row w b _ _ _ _ hb];grind
 simp[results,hr,ha.get,hp,asAddr,hl]
theorem vj{b m:Nat}{o:cA}{f:α->β}(ho:o.op = .load T q)(hw:Holds E w V)(hx:ev U q = .pointer (some ⟨b,m,none⟩))(hi:V[i]? =some (bx e b x))(hF:Fd m f)(hT:jP P T (GT.agg β) (GT.sz β)):
  ∃v,(execOp (ev U) o).run P w = .ok (.value v) w/\Holds E w (rd v (f x)::V):=by
 obtain⟨M,hs,gd⟩:=hw;obtain⟨cs,ho2,hh⟩:=gd.sat i _ hi;have hb:=gd.le i b _ (bD hi) (by rw[hh];exact bG b _);have ho':=hF M cs x ho2;refine⟨oI β<|(cs.drop m).take<|GT.sz β,?_,⟨M,_,gd.dD ⟨⟨_,rfl,ho'⟩,rfl⟩⟩⟩;have hl:(loadVar T ⟨b,m,none⟩).run P w = .ok (oI β<|(cs.drop m).take<|GT.sz β) w:=i9 hT ho' λj u hu=>by
  rw[Addr.add_lit,cell_of_row w b _ _ _ _ hb]
  grind
 grind [execOp,Instr.loadAt,Instr.sureAddr,aO,aS,aR]
theorem qO{γ:Type}[Sc γ]{b m:Nat}{o:cA}{f:α->γ}{C:Bool}(i:Nat)(ho:o.op = .load T q)(hw:Holds E w V)(hx:C=true->ev U q = .pointer (some ⟨b,m,none⟩))(hi:V[i]? =some (bx e b x))(hF:Fd m f)(hT:jP P T false 1):
  C=true->(execOp (ev U) o).run P w = .ok (.value<|Sc.toV<|f x) w:=λh=>by
 obtain⟨v,h1,h2⟩:=vj (f:=f) ho hw (hx h) hi hF hT;rw[h1,h2.jA (i:=0) rfl]
theorem xE{b o' j m:Nat}{o:cA}{C:Bool}(ho:o.op = .fieldAddr T q j)(hf:pj P T j m)(hx:C=true->ev U q = .pointer (some ⟨b,o',none⟩):=by exact(λ_=>rfl)):
  C=true->(execOp (ev U) o).run P w = .ok (.value<|.pointer<|some ⟨b,o'+m,none⟩) w:=λh=>by
 unfold execOp;rw[ho];simp only[hx h,aO,hf.run,aR,aS,Addr.add_lit]
theorem GZ{K K':IntKind}(a:Int){s s':da}(hs:∃D,P.underlying s=some D)(ht:P.underlying s'=some (.int K'))(k:RL P n ops rest (cI U d<|.int K'<|K'.wrap a) w Q)(hg:Wn ops U g:=by exact trivial)(hd:Nat.blt d n=true:=by exact rfl)(hx:ev U q = .int K a:=by exact rfl):RL P n ops (⟨some d, .convert s s' q,ty,pos,af,g⟩::rest) U w Q:=by
 obtain⟨D,hD⟩:=hs;refine BY hg hd ?_ k;have:(convert s s'<|.int K a).run P w = .ok (.int K'<|K'.wrap a) w:=by
  unfold convert;simp only[aO,run_underlying hD,run_underlying ht,aR];rfl
 grind [execOp,aO,aR,aS]
theorem rJ{vs:Z bL}{m:Nat}(hu:P.underlying t=some (.slice e))(hz:∃z,(∀w,(zeroValue e).run P w = .ok z w)/\z.cells.size=m)(hs:∀w,(sizeOf e).run P w = .ok m w)(hm:0<m)
  (hlen:vs.length*m<=16777216) (hvs:∀v∈vs,v.cells.size=m) (w:bM):
  (Instr.buildSlice t vs.length (vs.zipIdx.map λp=>(p.2,p.1)).toArray).run P w =
   .ok (.slice (some ⟨w.heap.size,0,none⟩) vs.length vs.length) (w.alloc<|.cells (vs.flatMap λv=>v.cells.toList).toArray e):=by
 obtain⟨z,hz,hzs⟩:=hz;have key:∀(us:Z bL)(k:Nat)(cells:bQ bL),cells.size=(k+us.length)*m->(∀v∈us,v.cells.size=m)->
   ∃c',Instr.fill (λi=>some (i*m,m)) cells ((us.zipIdx k).map λp=>(p.2,p.1))=some c'/\c'.toList=cells.toList.take (k*m)++us.flatMap λv=>v.cells.toList:=by
  intro us
  induction us with
  |nil=>intro k cells hc _;exact⟨cells,rfl,by grind [ij]⟩
  |cons u us ih=>
   intro k cells hc hu';have hcu:=hu' u (by simp);simp only[gT]at hc;have hkm:k*m+m<=cells.size:=by
    rw[hc,show(k+(us.length+1))=(k+1)+us.length by omega,Nat.add_mul,Nat.add_mul,Nat.one_mul];omega
   have hsp:=zM u.cells.toList cells (k*m) (by simp[hcu,hkm]);simp only[Array.toArray_toList,Array.length_toList,hcu]at hsp;have hsz:(u.cells.zipIdx.foldl (λcs(c,j)=>cs.setIfInBounds (k*m+j) c) cells).size=(k+1+us.length)*m:=by
    have:=congrArg List.length hsp;simp only[Array.length_toList,dh,bX,fO,hcu]at this;rw[this,Nat.min_eq_left (by omega)];have:(k+1+us.length)*m=cells.size:=by rw[hc];congr 1;omega
    omega
   obtain⟨c',h1,h2⟩:=ih (k+1) _ hsz<|λv hv=>hu' v (by simp[hv])
   refine⟨c',?_,?_⟩
   ·rw[List.zipIdx_cons,ef];simp only[Instr.fill];rw[aL (by grind)];exact h1
   ·rw[h2,hsp,List.flatMap_cons];have e1:(cells.toList.take (k*m)++u.cells.toList).length=(k+1)*m:=by
     rw[dh,bX,Array.length_toList,Array.length_toList,hcu,Nat.min_eq_left (by omega),Nat.add_mul,Nat.one_mul]
    rw[<-e1,List.take_left,jO]
 have h0:(Array.map (λi=>z.cells[i % z.cells.size]!)<|Array.range<|vs.length*m).size=(0+vs.length)*m:=by simp
 obtain⟨c',h1,h2⟩:=key vs 0 _ h0 hvs;simp only[Nat.zero_mul,List.take_zero,List.nil_append]at h2;have hc':c'=(vs.flatMap λv=>v.cells.toList).toArray:=by rw[<-h2]
 subst hc';unfold Instr.buildSlice;simp only[aO,run_underlying hu,aR,hs];rw[aL (by omega)]
 by_cases hv:vs.length*m=0
 ·have:vs= []:=by
   grind [Nat.mul_eq_zero,List.eq_nil_of_length_eq_zero]
  subst this;have e0:Array.range 0 = #[]:=rfl;simp[Instr.fill,newRow,newObj,Sem.run,e0]
 simp_all[aL,aO,aR,aS,newRow,newObj,Sem.run]
def vk{α:Type}[GT α](M:bZ):Z bL->Z α->Prop
 | [],[]=>True
 |v::vs,x::l=>ou M v x/\vk M vs l
 |_,_=>False
theorem vk.spec{M:bZ}:∀{vs:Z bL}{l:Z α},vk M vs l->vs.length=l.length/\(∀v∈vs,v.cells.size=GT.sz α)/\Cells M (vs.flatMap λv=>v.cells.toList) l
 | [],[],_=>⟨rfl,λ_ h=>by simp at h,Cells.nil⟩
 |v::vs,x::l,h=>by
  obtain⟨h1,h2⟩:=h;obtain⟨a,b,c⟩:=vk.spec h2;refine⟨by simp[a],λu hu=>?_,?_⟩
  ·rcases fB.1 hu with rfl|hu
   ·rw[<-GT.len h1.cells];simp
   ·exact b u hu
  ·rw[List.flatMap_cons];exact(Cells.one h1.cells).append c
 | [],_::_,h=>h.elim
 |_::_,[],h=>h.elim
structure wV (P:cR) (e:da) (m:Nat):Prop where
 z:∃z,(∀w,(zeroValue e).run P w = .ok z w)/\z.cells.size=m
 sz:∀w,(sizeOf e).run P w = .ok m w
theorem GI{m:Nat}{parts:bQ (Nat×bT)}(l:Z α)(hw:Holds E w V)(vs:Z bL)(hT:qc P t e (GT.sz α))(hz:wV P e (GT.sz α))(hel:∀M hs,Good E w M hs V->vk M vs l)(k:∀v w',Holds E w' (own e v l::V)->RL P n ops rest (cI U d v) w' Q)(hg:Wn ops U g:=by exact trivial)(hd:Nat.blt d n=true:=by exact rfl)(hparts:parts.toList.map (λp=>(p.1,ev U p.2))=vs.zipIdx.map λp=>(p.2,p.1):=by exact rfl)(hl:m=vs.length:=by exact rfl)(hm:Nat.ble (m*GT.sz α) 16777216=true:=by exact rfl):RL P n ops (⟨some d, .buildSlice t m parts,ty,pos,af,g⟩::rest) U w Q:=by
 subst hl;have hm':=Nat.ble_eq▸hm;obtain⟨M0,hs0,gd0⟩:=hw;obtain⟨hlen,hsz,hcells⟩:=(hel M0 hs0 gd0).spec;have hle:vs.length<=vs.length*GT.sz α:=Nat.le_mul_of_pos_right _ GT.pos;have hrun:=rJ (P:=P) hT.pf hz.z hT.sz GT.pos hm' hsz w;refine BY (v:= .slice (some ⟨w.heap.size,0,none⟩) vs.length vs.length) (w':=w.alloc<|.cells (vs.flatMap λv=>v.cells.toList).toArray e) hg hd ?_<|k _ _<|Holds.alloc ⟨M0,hs0,gd0⟩ _ λM hs gd=>?_
 ·have e1:parts.map (λ(i,x)=>(i,ev U x))=(vs.zipIdx.map λp=>(p.2,p.1)).toArray:=by grind
  simp_all[execOp,aO]
 ·obtain⟨_,_,hc⟩:=(hel M hs gd).spec;refine .inr ⟨w.heap.size,0,vs.length,_,_,by rw[hlen],by omega,by grind [maxLen],rfl,?_,?_,hc⟩
  ·simp only[ez,List.size_toArray,hc.1,hlen];exact aX _
  ·simp only[List.drop_zero];rw[<-hc.1];exact ee
end
section
variable {α β ρ:Type}[GT α][GT β]{P:cR}{E:bM}{V Γ':Z HP}{fv:bL}
def zz(P:cR)(E:bM)(V:Z HP)(fv:bL)(φ:α->aW ρ)(toV:ρ->bL):Prop:=
 ∃f cap,fv = .func (.func f) #[] (List.toArray cap)/\fo P f/\∀(w:bM)(Γl:Z HP)(v:bL)(x:α)(r:ρ)(i:Nat),
  Holds E w (Γl++V)->(Γl++V)[i]? =some (rd v x)->φ x=some r->Calls P f ([v]++cap).toArray w (eU λu w'=>u=toV r/\Holds E w' (Γl++V))
def yv(P:cR)(E:bM)(V:Z HP)(fv:bL)(φ:α->β->aW ρ)(toV:ρ->bL):Prop:=
 ∃f cap,fv = .func (.func f) #[] (List.toArray cap)/\fo P f/\∀(w:bM)(Γl:Z HP)(v v':bL)(x:α)(y:β)(r:ρ)(i j:Nat),
  Holds E w (Γl++V)->(Γl++V)[i]? =some (rd v x)->(Γl++V)[j]? =some (rd v' y)->φ x y=some r->Calls P f ([v,v']++cap).toArray w (eU λu w'=>u=toV r/\Holds E w' (Γl++V))
theorem zz.lift{φ:α->aW ρ}{toV:ρ->bL}(h:zz P E V fv φ toV)(m:Nat)(hd:Γ'.drop m=V):zz P E Γ' fv φ toV:=by
 obtain⟨f,cap,e,hf,hc⟩:=h;subst hd;refine⟨f,cap,e,hf,λw Γl v x r i hw hi hr=>?_⟩;have e2:Γl++Γ'=(Γl++Γ'.take m)++Γ'.drop m:=by rw[jO,List.take_append_drop]
 grind
theorem yv.lift{φ:α->β->aW ρ}{toV:ρ->bL}(h:yv P E V fv φ toV)(m:Nat)(hd:Γ'.drop m=V):yv P E Γ' fv φ toV:=by
 obtain⟨f,cap,e,hf,hc⟩:=h;subst hd;refine⟨f,cap,e,hf,λw Γl v v' x y r i j hw hi hj hr=>?_⟩;have e2:Γl++Γ'=(Γl++Γ'.take m)++Γ'.drop m:=by rw[jO,List.take_append_drop]
 grind
theorem kd{Γl V:Z HP}{j:Nat}{Pr:HP}(h:V[j]? =some Pr:=by exact rfl):(Γl++V)[Γl.length+j]? =some Pr:=by
 grind
variable {n:Nat}{U:Nat->bL}{w:bM}{Q:dg}{i j:Nat}
variable {ops:bQ cA}{rest:Z cA}{d:Nat}{ty:da}{pos:String}{af:bQ Edge}{g:aW (Nat×Bool)}{v v':bL}{q r r':bT}{ts:bQ da}
theorem Hs{φ:α->aW ρ}{toV:ρ->bL}{x:α}{y:ρ}(i:Nat)(hw:Holds E w V)(hf:zz P E Γ' fv φ toV)(m:Nat)(hr:φ x=some y)(k:∀w',Holds E w' V->RL P n ops rest (cI U d<|toV y) w' Q)(hg:Wn ops U g:=by exact trivial)(hd:Nat.blt d n=true:=by exact rfl)(hq:ev U q=fv:=by exact rfl)(hdr:V.drop m=Γ':=by exact rfl)(hx:ev U r=v:=by exact rfl)(hi:V[i]? =some (rd v x):=by exact rfl):
  RL P n ops (⟨some d, .call ⟨.value q,#[r],ts⟩,ty,pos,af,g⟩::rest) U w Q:=by
 obtain⟨f,cap,e,hF,hc⟩:=hf.lift m hdr;refine G3 (hg:=hg) _ hd hF (by rw[hq,e]) [v] (by simp[hx])<|bS (hc w [] v x y i (by grind) (by grind) hr) ?_
 grind
theorem GP{φ:α->β->aW ρ}{toV:ρ->bL}{x:α}{x':β}{y:ρ}(i j:Nat)(hw:Holds E w V)(hf:yv P E Γ' fv φ toV)(m:Nat)(hr:φ x x'=some y)(k:∀w',Holds E w' V->RL P n ops rest (cI U d<|toV y) w' Q)(hg:Wn ops U g:=by first|exact trivial|exact⟨_,rfl,rfl⟩|exact⟨_,rfl,Gk.cb ‹_›⟩)(hd:Nat.blt d n=true:=by exact rfl)(hq:ev U q=fv:=by exact rfl)(hdr:V.drop m=Γ':=by exact rfl)(hx:ev U r=v:=by exact rfl)(hx':ev U r'=v':=by exact rfl)(hi:V[i]? =some (rd v x):=by exact rfl)(hj:V[j]? =some (rd v' x'):=by exact rfl):
  RL P n ops (⟨some d, .call ⟨.value q,#[r,r'],ts⟩,ty,pos,af,g⟩::rest) U w Q:=by
 obtain⟨f,cap,e,hF,hc⟩:=hf.lift m hdr;refine G3 (hg:=hg) _ hd hF (by rw[hq,e]) [v,v'] (by simp[hx,hx'])<|bS (hc w [] v v' x x' y i j (by grind) (by grind) (by grind) hr) ?_
 grind
end
section
variable {P:cR}{n:Nat}{U:Nat->bL}{w:bM}{Q:dg}{E:bM}{V:Z HP}{x y:Code}
variable {ops:bQ cA}{rest:Z cA}{d:Nat}{ty T T':da}{pos:String}{af:bQ Edge}{g:aW (Nat×Bool)}{v:bL}{q r:bT}
theorem HG(hc:ev U q = .bool true)(h:RC P n x U w Q):RC P n (.cond q x y) U w Q:=by grind [Hz]
theorem HH(hc:ev U q = .bool false)(h:RC P n y U w Q):RC P n (.cond q x y) U w Q:=by grind [Hz]
theorem FL{k m:Nat}(h:k<m):Value.bool (decide<|(k:Int)<(m:Int)) = .bool true:=by grind
theorem FM{m:Nat}:Value.bool (decide<|(m:Int)<(m:Int)) = .bool false:=by simp
theorem Gq{k m:Nat}(hk:k<m)(hm:m<=4611686018427387904)(h:RL P n ops rest (cI U d<|.int .i64 ((k+1:Nat):Int)) w Q)(hg:Wn ops U g:=by exact trivial)(hd:Nat.blt d n=true:=by exact rfl)(hx:ev U q = .int .i64 (k:Int):=by exact rfl)(hy:ev U r = .int .i64 1:=by exact rfl):RL P n ops (⟨some d, .binOp .add T q r T',ty,pos,af,g⟩::rest) U w Q:=by
 refine E_ (hg:=hg) (hd:=hd) (hx:=hx) (hy:=hy) (bop:= .add) _ _ ?_
 grind [yt]
theorem qa.of{P:cR}{t e:da}{k b:Nat}(z:bL)(h1:P.underlying t=some (.slice e):=by kernel_rfl)(h2:(P.info? e).map (λi=>(i.zero,i.size,i.bytes))=some (some z,k,b):=by kernel_rfl)(h3:z.cells.size=k:=by exact rfl)(h4:0<b:=by decide):qa P t e k b:=by
 refine⟨h1,?_,h4⟩
 cases hi:P.info? e with
 |none=>grind
 |some i=>
  grind
theorem sT.of{P:cR}{T:da}{fs:bQ Field}{places:Z (Nat×Nat)}(z:bL)(h1:P.underlying T=some (.struct fs))(h2:∀w,(zeroValue T).run P w = .ok z w:=by intro _;kernel_rfl)(h3:∀w,(fs.mapM (m:=Sem) λf:Field=>do pure (f.offset,<-sizeOf f.type)).run P w = .ok places.toArray w:=by intro _;kernel_rfl):sT P T places z.cells:=by
 refine⟨λparts w=>?_⟩;unfold Instr.build;simp only[aO,h2,aR,run_underlying h1];rw[h3];simp only[aR]
 cases Instr.fill (λx=>places.toArray[x]?) z.cells parts.toList <;> rfl
end
section
variable {α:Type}[GT α]{E w:bM}{V L:Z HP}{i:Nat}{v:bL}{x:α}{Pr R:HP}
theorem Holds.ke(h:Holds E w V)(hi:V[i]? =some (pt v x)):Holds E w (pt v x::V):=h.rE λ_ _ g=>⟨(g.sat i _ hi).1,rfl⟩
theorem Holds.bB(h:Holds E w V):Holds E w (Gk.bB::V):=h.rE λ_ _ _=>trivial
end
section
variable {P:cR}{n:Nat}{U:Nat->bL}{w:bM}{Q:dg}
theorem rK{o:cA}{a:Act}{K K':Act->bM->Prop}{Q Q':Exit->Act->bM->Prop}(hK:∀a w,K a w->K' a w)(hp:∀c a w,Q (.panic c) a w->Q' (.panic c) a w)(hl:LetsOut Q->LetsOut Q')
  (h:o.wp P a w K Q):o.wp P a w K' Q':=by
 unfold Oper.wp at *;generalize (execOp a.eval o).run P w=r at *
 cases r with
 |ok nx w'=>
  cases nx <;> simp only[Oper.upon]at h ⊢ <;>
   first
    |exact hK _ _ h
    |exact Calls.mono h (λe w'' he=>by grind)
    |exact Rows.mono h (λ_ _ he=>hK _ _ he)
 |halt x w'=>cases x <;> simp only[Oper.upon]at h ⊢ <;> exact hp _ _ _ h
def ins(D:Nat->Bool)(i:Nat):Nat->Bool:=λj=>bif Nat.beq j i then true else D j
def jl(D:Nat->Bool):Z Edge->Prop
 | []=>True
 |e::l=>(Region.binds .any e=true->D e.on=true)/\jl D l
def jR(F:Nat->cA->Prop):Nat->Z cA->Prop
 |_,[]=>True
 |k,o::l=>F k o/\jR F (k+1) l
def nc:Nat->Z cA->Bool
 |_,[]=>true
 |k,o::l=>(o.after.toList.all λe=> !Region.binds .any e||Nat.blt e.on k)&&nc (k+1) l
theorem jR.at{F:Nat->cA->Prop}:∀{k:Nat}{l:Z cA},jR F k l->∀i o,l[i]? =some o->F (k+i) o
 |_,[],_,i,o,h=>by simp at h
 |k,p::l,hs,0,o,h=>by simp at h;subst h;exact hs.1
 |k,p::l,hs,i+1,o,h=>by have:=jR.at hs.2 i o (by simpa using h);rw[show k+(i+1)=k+1+i by omega];exact this
theorem nc.at:∀{k:Nat}{l:Z cA},nc k l=true->∀(i:Nat)(o:cA),l[i]? =some o->∀e∈o.after,Region.binds .any e=true->e.on<k+i
 |_,[],_,i,o,h=>by simp at h
 |k,p::l,hs,0,o,h=>by
  simp at h;subst h;intro e he hb;have h1:=(bY _ _▸hs:_/\_).1;have:=ik.1 h1 e (by grind);rw[hb]at this;simpa using Nat.blt_eq▸this
 |k,p::l,hs,i+1,o,h=>by
  intro e he hb;have:=nc.at (bY _ _▸hs:_/\_).2 i o (by simpa using h) e he hb;omega
theorem vl{D:Nat->Bool}:∀(l:Z Edge),(∀e∈l,Region.binds .any e=true->D e.on=true)->jl D l
 | [],_=>trivial
 |e::l,h=>⟨h e (by simp),vl l λe' he=>h e' (by simp[he])⟩
theorem IH{id:Nat}{l:Z cA}(hm:P.follows .mixedOrders=true)(hdep:nc 0 l=true)(J:(Nat->Bool)->(Nat->bL)->bM->Prop)
  (h0:J (λ_=>false) U w.drew)
  (step:jR (λi o=>∀D U w,D i=false->jl D o.after.toList->J D U w->RL P n l.toArray [o] U w (λex U w=>ex = .normal/\J (ins D i) U w)) 0 l)
  (hend:∀D U w,(∀i,i<l.length->D i=true)->J D U w->Q .normal U w):RC P n (.region id l.toArray true) U w Q:=by
 intro a ha;refine wp_region_any hm ?_;have key:∀(fuel:Nat)(listed:bQ Bool)(a:Act)(w:bM)(U:Nat->bL),listed.size=l.length->Sl n U a->J (λi=>listed.getD i false) U w->
   (listed.toList.countP (· =false))=fuel->wpAny P .any l.toArray (Lf n Q) fuel listed a w:=by
  have ends:∀(listed:bQ Bool)(a:Act)(w:bM)(U:Nat->bL),listed.size=l.length->Sl n U a->J (λi=>listed.getD i false) U w->Region.ready .any l.toArray listed= []->Lf n Q .normal a w:=by
   intro listed a w U hsz hs hJ hr;refine⟨U,hs,hend _ U w (λi hi=>?_) hJ⟩
   induction i using Nat.strongRecOn with
   |ind i ih=>
    cases e:listed.getD i false with
    |true=>rfl
    |false=>
     have hmem:i∈Region.ready .any l.toArray listed:=by
      unfold Region.ready;rw[ji];refine⟨by grind,?_⟩;have hi':i<listed.size:=by omega
      have e1:listed.getD i true=false:=by
       simp only[Array.getD_eq_getD_getElem?,di hi',Option.getD_some]at e ⊢;exact e
      rw[e1];simp only[ri,Bool.true_and,List.getElem?_toArray,aN hi,Option.map_some,Option.getD_some];rw[Array.all_eq_true_iff_forall_mem];intro ed hed
      cases hb:Region.binds .any ed with
      |false=>rfl
      |true=>
       have hlt:=nc.at hdep i l[i] (aN hi) ed hed hb;have:=ih ed.on (by omega) (by omega);rw[this];rfl
     rw[hr]at hmem
     cases hmem
  intro fuel
  induction fuel with
  |zero=>
   intro listed a w U hsz hs hJ hc;have hall:∀i,i<l.length->listed.getD i false=true:=by
    intro i hi;have hi':i<listed.size:=by omega
    have:=List.countP_eq_zero.1 hc listed[i] (by simp);simp only[Array.getD_eq_getD_getElem?,di hi',Option.getD_some];simpa using this
   refine⟨?_,U,hs,hend _ U w hall hJ⟩;unfold Region.ready;rw[List.filter_eq_nil_iff];intro i hi;have hi2:i<l.length:=by simpa using hi
   have:=hall i hi2;have hi':i<listed.size:=by omega
   have e1:listed.getD i true=true:=by
    simp only[Array.getD_eq_getD_getElem?,di hi',Option.getD_some]at this ⊢;exact this
   rw[e1];simp
  |succ fuel ih=>
   intro listed a w U hsz hs hJ hc;refine⟨λhr=>ends listed a w U hsz hs hJ hr,λi hi=>?_⟩;unfold Region.ready at hi;rw[ji]at hi;obtain⟨hi1,hi2⟩:=hi;have hil:i<l.length:=by simpa using hi1
   have hi':i<listed.size:=by omega
   simp only[bY,Bool.not_eq_true']at hi2;obtain⟨hnot,hd⟩:=hi2;simp only[List.getElem?_toArray,aN hil,Option.map_some,Option.getD_some]at hd;rw[Array.all_eq_true_iff_forall_mem]at hd;have hD:(λi=>listed.getD i false) i=false:=by
    simp only[Array.getD_eq_getD_getElem?,di hi',Option.getD_some]at hnot ⊢;exact hnot
   have hst:=step.at i l[i]<|aN hil
   rw[ez]at hst
   have hrun:=hst _ U w hD (vl _ λe he hb=>by
    grind) hJ a hs
   have hins:ins (λi=>listed.getD i false) i=λj=>(listed.setIfInBounds i true).getD j false:=by
    funext j;unfold ins
    cases e:Nat.beq j i with
    |true=>
     have:=c9 e;subst this;simp[Array.getD_eq_getD_getElem?,hi']
    |false=>
     have hne:i≠j:=λh=>by subst h;simp at e
     simp[Array.getD_eq_getD_getElem?,Array.getElem?_setIfInBounds_ne hne]
   have hcount:(listed.setIfInBounds i true).toList.countP (· =false)=fuel:=by
    have h1:listed.toList=listed.toList.take i++listed[i]::listed.toList.drop (i+1):=by
     have:=List.take_append_drop i listed.toList;rw[ku (by omega)]at this;simpa using this.symm
    have hx:listed[i]=false:=by
     simp only[Array.getD_eq_getD_getElem?,di hi',Option.getD_some]at hnot;exact hnot
    rw[h1,List.countP_append,List.countP_cons,hx]at hc;have h2:(listed.setIfInBounds i true).toList=listed.toList.take i++true::listed.toList.drop (i+1):=by
     rw[Array.toList_setIfInBounds,List.set_eq_take_append_cons_drop,aK (by omega)]
    rw[h2,List.countP_append,List.countP_cons];simp at hc ⊢;omega
   have hK:∀a' w',wpList P l.toArray (Lf n λex U w=>ex = .normal/\J (ins (λi=>listed.getD i false) i) U w) [] a' w'->wpAny P .any l.toArray (Lf n Q) fuel (listed.setIfInBounds i true) a' w':=by
    rintro a' w'⟨σ',hs',_,hJ'⟩;rw[hins]at hJ';exact ih _ a' w' σ' (by simp[hsz]) hs' hJ' hcount
   unfold wpOp;simp only[List.getElem?_toArray,aN hil];unfold wpList at hrun;split at hrun
   ·rename_i hw;rw[aK hw]
    rcases hrun with hrun|⟨_,a0,w0,σ0,_,hbad,_⟩
    ·exact .inl<|rK hK (λc a w h=>by obtain⟨_,_,hbad,_⟩:=h;cases hbad) (λh=>by obtain⟨_,_,_,_,hbad,_⟩:=h;cases hbad) hrun
    ·cases hbad
   ·rename_i hw;rw[aL hw];exact hK _ _ hrun
 refine key _ _ a w.drew U (by simp) ha ?_ (by simp[List.countP_replicate]);have:(λi=>(Array.replicate l.toArray.size false).getD i false)=λ_=>false:=by
  funext i;simp only[Array.getD_eq_getD_getElem?,Array.getElem?_replicate];split <;> rfl
 grind
def cN(D:Nat->Bool)(U:Nat->bL):Z (Nat×Nat×bL)->Prop
 | []=>True
 |(i,d,v)::l=>(D i=true->U d=v)/\cN D U l
theorem jl.mono{D D':Nat->Bool}(h:∀i,D i=true->D' i=true):∀{l:Z Edge},jl D l->jl D' l
 | [],_=>trivial
 |_::_,hl=>⟨λhb=>h _ (hl.1 hb),jl.mono h hl.2⟩
def mj(l:Z cA)(D:Nat->Bool):Prop:=∀i o,l[i]? =some o->D i=true->jl D o.after.toList
theorem vm{D:Nat->Bool}{i k:Nat}(h:D k=true):ins D i k=true:=by
 grind [ins,Nat.beq]
theorem HX{id:Nat}{l:Z cA}(hm:P.follows .mixedOrders=true)(hdep:nc 0 l=true)(J:(Nat->Bool)->(Nat->bL)->bM->Prop)
  (h0:J (λ_=>false) U w.drew)
  (step:jR (λi o=>∀D U w,D i=false->jl D o.after.toList->mj l D->J D U w->RL P n l.toArray [o] U w (λex U w=>ex = .normal/\J (ins D i) U w)) 0 l)
  (hend:∀D U w,(∀i,i<l.length->D i=true)->J D U w->Q .normal U w):RC P n (.region id l.toArray true) U w Q:=by
 refine IH hm hdep (λD U w=>mj l D/\J D U w) ⟨λi o _ h=>(by cases h),h0⟩ ?_<|λD U w hall h=>hend D U w hall h.2
 have key:∀(k:Nat)(m:Z cA),(∀i o,m[i]? =some o->l[k+i]? =some o)->jR (λi o=>∀D U w,D i=false->jl D o.after.toList->mj l D->J D U w->RL P n l.toArray [o] U w (λex U w=>ex = .normal/\J (ins D i) U w)) k m->
   jR (λi o=>∀D U w,D i=false->jl D o.after.toList->(mj l D/\J D U w)->RL P n l.toArray [o] U w (λex U w=>ex = .normal/\(mj l (ins D i)/\J (ins D i) U w))) k m:=by
  intro k m
  induction m generalizing k with
  |nil=>intro _ _;trivial
  |cons o m ih=>
   intro hat hs;refine⟨λD U w hD hd hJ a ha=>?_,ih (k+1) (λi o h=>by have:=hat (i+1) o (by simpa using h);grind) hs.2⟩;have h1:=hs.1 D U w hD hd hJ.1 hJ.2 a ha;have hcl:mj l (ins D k):=by
    intro i o' ho hi
    by_cases e:i=k
    ·subst e;have:=hat 0 o rfl;rw[Nat.add_zero,ho]at this;injection this with this
     subst this;exact jl.mono (λ_ h=>vm h) hd
    ·have hDi:D i=true:=by
      unfold ins at hi;have:Nat.beq i k=false:=by
       cases hx:Nat.beq i k with
       |false=>rfl
       |true=>exact absurd (c9 hx) e
      rw[this]at hi;exact hi
     exact jl.mono (λ_ h=>vm h)<|hJ.1 i o' ho hDi
   unfold wpList at h1 ⊢;split at h1
   ·rename_i hw;rw[aK hw]
    rcases h1 with h1|⟨h2,h3⟩
    ·refine .inl<|rK (λa w h=>?_) (λc a w h=>?_) (λh=>?_) h1
     ·obtain⟨σ',hs',he,hJ'⟩:=h;exact⟨σ',hs',he,hcl,hJ'⟩
     ·obtain⟨_,_,hbad,_⟩:=h;cases hbad
     ·obtain⟨_,_,_,_,hbad,_⟩:=h;cases hbad
    ·obtain⟨_,_,_,_,hbad,_⟩:=h3;cases hbad
   ·rename_i hw;rw[aL hw];obtain⟨σ',hs',he,hJ'⟩:=h1;exact⟨σ',hs',he,hcl,hJ'⟩
 grind
theorem cN.at{D:Nat->Bool}:∀{dv:Z (Nat×Nat×bL)}(_:cN D U dv)(k:Nat){j d:Nat}{v:bL}(_:dv[k]? =some (j,d,v)),D j=true->U d=v
 | [],_,k,_,_,_,hk=>by simp at hk
 |(i,d',v')::l,h,0,j,d,v,hk=>by
  simp at hk;obtain⟨rfl,rfl,rfl⟩:=hk;exact h.1
 |(i,d',v')::l,h,k+1,j,d,v,hk=>cN.at h.2 k (by grind)
def tj(j d:Nat):Nat->Z (Nat×Nat×bL)->Bool
 |_,[]=>true
 | 0,_::l=>dfreeA l
 |k+1,(i,t,_)::l=> !Nat.beq i j&& !Nat.beq t d&&tj j d k l
where dfreeA:Z (Nat×Nat×bL)->Bool
 | []=>true
 |(i,t,_)::l=> !Nat.beq i j&& !Nat.beq t d&&dfreeA l
theorem cN.up{D:Nat->Bool}{j d:Nat}{v:bL}:∀{dv:Z (Nat×Nat×bL)}(_:cN D U dv)(_:tj.dfreeA j d dv=true),cN (ins D j) (cI U d v) dv
 | [],_,_=>trivial
 |(i,t,u)::l,h,hf=>by
  unfold tj.dfreeA at hf;simp only[bY,Bool.not_eq_true']at hf;refine⟨λhi=>?_,cN.up h.2 hf.2⟩;unfold ins at hi;rw[hf.1.1]at hi;unfold cI;rw[hf.1.2];exact h.1 hi
theorem cN.put{D:Nat->Bool}{j d:Nat}{v v':bL}:∀{dv:Z (Nat×Nat×bL)}(_:cN D U dv)(k:Nat)(_:dv[k]? =some (j,d,v))(_:tj j d k dv=true),cN (ins D j) (cI U d v') (dv.set k (j,d,v'))
 | [],_,k,hk,_=>by simp at hk
 |(i,t,u)::l,h,0,hk,hf=>by
  refine⟨λ_=>?_,cN.up h.2 hf⟩;unfold cI;have:Nat.beq d d=true:=Nat.beq_refl d;rw[this];rfl
 |(i,t,u)::l,h,k+1,hk,hf=>by
  unfold tj at hf;simp only[bY,Bool.not_eq_true']at hf;refine⟨λhi=>?_,cN.put h.2 k (by simpa using hk) hf.2⟩;unfold ins at hi;rw[hf.1.1]at hi;unfold cI;rw[hf.1.2];exact h.1 hi
theorem cN.re{D:Nat->Bool}{j d:Nat}{v v':bL}:∀{dv:Z (Nat×Nat×bL)}(_:cN D U dv)(k:Nat)(_:dv[k]? =some (j,d,v))(_:D j=true->False),cN D U (dv.set k (j,d,v'))
 | [],_,k,hk,_=>by simp at hk
 |(i,t,u)::l,h,0,hk,hf=>by
  simp at hk;obtain⟨rfl,rfl,rfl⟩:=hk;exact⟨λhi=>(hf hi).elim,h.2⟩
 |(i,t,u)::l,h,k+1,hk,hf=>⟨h.1,cN.re h.2 k (by simpa using hk) hf⟩
theorem nf{b:Bool}(h:b=true->False):b=false:=by grind
theorem cN.no{D:Nat->Bool}{j:Nat}:∀{dv:Z (Nat×Nat×bL)}(_:cN D U dv)(_:(dv.all λx=> !Nat.beq x.1 j)=true),cN (ins D j) U dv
 | [],_,_=>trivial
 |(i,t,u)::l,h,hf=>by
  rw[List.all_cons,bY,Bool.not_eq_true']at hf;refine⟨λhi=>?_,cN.no h.2 hf.2⟩;unfold ins at hi;rw[hf.1]at hi;exact h.1 hi
theorem Holds.same{E w:bM}{V Γ':Z HP}(h:Holds E w V)(e:Γ'=V):Holds E w Γ':=by grind
theorem Bn{V:Z HP}{i:Nat}{Pr R:HP}(h:V[i]? =some Pr)(e:R=Pr):V.set i R=V:=by grind [m9]
theorem Holds.cS{E w:bM}{V:Z HP}(i:Nat){b:Bool}{R Pr:HP}(h:Holds E w V)(hb:b=false)(hi:V[i]? =some (bif b then R else Pr):=by exact rfl):Holds E w (V.set i Pr):=by grind [Bn]
theorem Holds.eM{E w:bM}{V:Z HP}(i:Nat){b:Bool}{R Pr:HP}(h:Holds E w V)(hb:b=true)(hi:V[i]? =some (bif b then R else Pr):=by exact rfl):Holds E w (V.set i R):=by grind [Bn]
theorem Holds.dx{E w:bM}{V:Z HP}(i:Nat)(b:Bool){Pr:HP}(h:Holds E w V)(hb:b=true)(R:HP)(hi:V[i]? =some Pr:=by exact rfl):Holds E w (V.set i (bif b then Pr else R)):=by grind [Bn]
theorem Holds.iY{E w:bM}{V:Z HP}(i:Nat)(b:Bool){Pr:HP}(h:Holds E w V)(hb:b=false)(R:HP)(hi:V[i]? =some Pr:=by exact rfl):Holds E w (V.set i (bif b then R else Pr)):=by grind [Bn]
theorem ft{b:Bool}(h1:b=false)(h2:b=true):False:=by grind
theorem agree.at:∀{l:Z (Nat×bL)}(_:agree U l)(k:Nat){d:Nat}{v:bL}(_:l[k]? =some (d,v)),U d=v
 | [],_,k,_,_,hk=>by simp at hk
 |(d',v')::l,h,0,d,v,hk=>by simp at hk;obtain⟨rfl,rfl⟩:=hk;exact h.1
 |(d',v')::l,h,k+1,d,v,hk=>agree.at h.2 k (by grind)
def lg(d:Nat):Z (Nat×bL)->Bool
 | []=>true
 |(t,_)::l=> !Nat.beq t d&&lg d l
theorem agree.up{d:Nat}{v:bL}:∀{l:Z (Nat×bL)}(_:agree U l)(_:lg d l=true),agree (cI U d v) l
 | [],_,_=>trivial
 |(t,u)::l,h,hf=>by
  unfold lg at hf;simp only[bY,Bool.not_eq_true']at hf;refine⟨?_,agree.up h.2 hf.2⟩;unfold cI;rw[hf.1];exact h.1
theorem agree.c{d:Nat}{v:bL}{l:Z (Nat×bL)}(h:U d=v)(hl:agree U l):agree U ((d,v)::l):=⟨h,hl⟩
theorem agree.z:agree U []:=trivial
theorem cN.none:∀{dv:Z (Nat×Nat×bL)},cN (λ_=>false) U dv
 | []=>trivial
 |(_,_,_)::_=>⟨λh=>(by cases h),cN.none⟩
variable {ops:bQ cA}{rest:Z cA}{d:Nat}{ty T T':da}{pos:String}{af:bQ Edge}{g:aW (Nat×Bool)}{v:bL}{q r:bT}
theorem rL{f:FuncId}{fn:Func}(e:bQ bL->Sem bL){args:bQ bL}(hf:P.funcs[f]? =some fn)(hr:(e args).run P w = .ok v w)(hname:(fn.name== "runtime.NumGoroutine")=false:=by kernel_rfl)(hb:fn.body.isNone=true:=by kernel_rfl)(hn:Extern.findNext fn=none:=by kernel_rfl)(he:Extern.find fn=some e:=by kernel_rfl):(callFunc f args).run P w = .ok (.value v) w:=by
 simp_all[run_callFunc_extern]
theorem HY{f:FuncId}{args:bQ bT}{ts:bQ da}(v:bL)(hd:Nat.blt d n=true)(vs:Z bL)(hvs:args.toList.map (ev U)=vs)(hf:(callFunc f vs.toArray).run P w = .ok (.value v) w)(k:RL P n ops rest (cI U d v) w Q)(hg:Wn ops U g:=by exact trivial):
  RL P n ops (⟨some d, .call ⟨.value<|.func f,args,ts⟩,ty,pos,af,g⟩::rest) U w Q:=by
 have e:args.map (ev U)=vs.toArray:=by grind
 refine BY hg hd ?_ k;simp only[execOp,resolve,aO];simp only[ev,Deferred.ofValue,e,aS,aR,invoke]
 grind
end
theorem str_inj{a b:aP}:(⟨a.bK.toArray⟩:ByteArray)= ⟨b.bK.toArray⟩↔a=b:=by
 constructor
 ·intro h;have h1:a.bK.toArray=b.bK.toArray:=congrArg ByteArray.data h;have h2:a.bK=b.bK:=by grind
  cases a;simp_all
 grind
theorem xF(a b:aP):((⟨a.bK.toArray⟩:ByteArray)==⟨b.bK.toArray⟩)= decide (a=b):=by
 have e:((⟨a.bK.toArray⟩:ByteArray)==⟨b.bK.toArray⟩)=(a.bK.toArray==b.bK.toArray):=rfl
 grind [str_inj]
section
variable {P:cR}{w:bM}{T:da}{fs:bQ Field}{xs ys:bQ bL}{d:Nat}
inductive zN (P:cR) (w:bM) (d:Nat) (xs ys:bQ bL):Z Field->Z Bool->Prop
 |nil:zN P w d xs ys [] []
 |cons {f:Field} {l:Z Field} {b:Bool} {bs:Z Bool} {x y:bL} (hn:f.name≠ "_") (hx:(part f.type xs f.offset).run P w = .ok x w) (hy:(part f.type ys f.offset).run P w = .ok y w)
   (he:(Op.equalIn d f.type x y).run P w = .ok b w) (h:zN P w d xs ys l bs):zN P w d xs ys (f::l) (b::bs)
theorem lM(d:Nat)(hu:P.underlying T=some (.struct fs)){bs:Z Bool}(h:zN P w d xs ys fs.toList bs)(hs:P.stoodInHeld T=false:=by kernel_rfl):
  (Op.equalIn (d+1) T (.agg xs)<|.agg ys).run P w = .ok (bs.all id) w:=by
 obtain⟨l⟩:=fs;rw[Op.equalIn];simp only[aO,run_underlying hu,aR,program,Sem.run,hs,List.forIn_toArray];rw[aL (by decide)];simp only at h;simp only[aO,aS,aR];clear hu
 induction h with
 |nil=>simp
 | @cons f l b bs x y hn hx hy he h ih=>
  simp only[List.forIn_cons,hn,ne_eq,not_false_eq_true,if_true,aO,hx,hy,he,aR]
  cases b with
  |true=>simp_all
  |false=>simp
structure C6 (P:cR) (T:da) (α:Type) [GT α] [DecidableEq α]:Prop where
 eq:∀(M:bZ)(cs ds:Z bL)(a b:α)(w:bM),GT.ok M cs a->GT.ok M ds b->(Op.equal T (oI α cs)<|oI α ds).run P w = .ok (decide<|a=b) w
 FN:P.eqGuardType P.depth T=false
end
section
variable {α:Type}[GT α][DecidableEq α]{P:cR}{n:Nat}{U:Nat->bL}{w:bM}{Q:dg}{E:bM}{V:Z HP}{i j:Nat}
variable {ops:bQ cA}{rest:Z cA}{d:Nat}{ty T T':da}{pos:String}{af:bQ Edge}{g:aW (Nat×Bool)}{v v':bL}{q r:bT}{a b:α}
theorem run_seq(hw:Holds E w V)(hi:V[i]? =some (rd v a))(hj:V[j]? =some (rd v' b))(hT:C6 P T α)(hag:GT.agg α=true):
  ((eqGuard .eql T q r v v').run P w = .ok () w/\(binOp .eql T v v').run P w = .ok (.bool<|decide<|a=b) w)/\
  ((eqGuard .neq T q r v v').run P w = .ok () w/\(binOp .neq T v v').run P w = .ok (.bool<|!decide (a=b)) w):=by
 obtain⟨M,hs,gd⟩:=hw;obtain⟨cs,hv,ho⟩:=(gd.sat i _ hi).1;obtain⟨ds,hv',ho'⟩:=(gd.sat j _ hj).1;have he:=hT.eq M cs ds a b w ho ho';rw[<-hv,<-hv']at he;have e1:v = .agg cs.toArray:=by grind [oI]
 have e2:v' = .agg ds.toArray:=by grind [oI]
 subst e1;subst e2;refine⟨⟨?_,?_⟩,?_,?_⟩
 ·simp[eqGuard,program,Sem.run,hT.FN]
 ·grind [binOp,aO,aR,aS]
 ·simp[eqGuard,program,Sem.run,hT.FN]
 grind [binOp,aO,aR,aS]
theorem II(hg:Wn ops U g)(hd:Nat.blt d n=true)(hw:Holds E w V)(hx:ev U q=v)(hy:ev U r=v')(hi:V[i]? =some (rd v a))(hj:V[j]? =some (rd v' b))(hT:C6 P T α)(hag:GT.agg α=true)
  (k:RL P n ops rest (cI U d<|.bool<|decide<|a=b) w Q):RL P n ops (⟨some d, .binOp .eql T q r T',ty,pos,af,g⟩::rest) U w Q:=by
 obtain⟨⟨h1,h2⟩,_⟩:=run_seq (q:=q) (r:=r) hw hi hj hT hag;refine BY hg hd ?_ k
 grind [execOp,aO,aR,aS]
end
theorem d8{P:cR}{T:da}(hT:jP P T false 1){xs:bQ bL}{k:Nat}{x:bL}(h:xs[k]? =some x)(w:bM):(part T xs k).run P w = .ok x w:=by
 simp[part,hT.C2,h]
theorem ml{P:cR}{T:da}{K:IntKind}{d:Nat}(hu:P.underlying T=some (.int K))(a b:Int)(w:bM):(Op.equalIn (d+1) T (.int K a)<|.int K b).run P w = .ok (a==b) w:=by
 rw[Op.equalIn];simp only[aO,run_underlying hu,aR];simp
theorem oJ{P:cR}{T:da}{d:Nat}(hu:P.underlying T=some .string)(a b:aP)(w:bM):(Op.equalIn (d+1) T (str a)<|str b).run P w = .ok (decide<|a=b) w:=by
 rw[Op.equalIn];simp only[aO,run_underlying hu,aR,str];simp[xF]
def qP{α:Type}(l:Z α)(lo hi:Int):aW (Z α):=if 0<=lo/\lo<=hi/\hi<=l.length then some ((l.drop lo.toNat).take (hi - lo).toNat)else none
section
variable {α:Type}[GT α]{P:cR}{n:Nat}{U:Nat->bL}{w:bM}{Q:dg}{E:bM}{V:Z HP}{i:Nat}
variable {ops:bQ cA}{rest:Z cA}{d:Nat}{ty T e:da}{pos:String}{af:bQ Edge}{g:aW (Nat×Bool)}{v:bL}{q:bT}{l l':Z α}{lo hi:Int}
theorem vn{M:bZ}{a:aW Addr}{m cap:Nat}(h:iV M (.slice a m cap) l)(h0:0<=lo)(h1:lo<=hi)(h2:hi<=l.length):
  iV M (.slice (if cap=lo.toNat then a else a.map (·.add (lo.toNat*GT.sz α))) (hi.toNat - lo.toNat)<|cap - lo.toNat) ((l.drop lo.toNat).take (hi - lo).toNat):=by
 obtain⟨a',m',cap',hv,hm,hc,hx,hel⟩:=h;injection hv with e1 e2 e3
 subst e1;subst e2;subst e3;refine⟨_,_,_,rfl,?_,by omega,by omega,λk x hk=>?_⟩
 ·grind
 ·rw[dV]at hk
  grind [GT.sz,add_add,Nat.add_mul]
theorem nW{a:aW Addr}{m cap:Nat}{lov hiv:aW bL}(hT:qc P T e (GT.sz α))(hl:lov=some (.int .i64 lo)\/(lov=none/\lo=0))(hh:hiv=some (.int .i64 hi)\/(hiv=none/\hi=m))
  (h0:0<=lo) (h1:lo<=hi) (h2:hi<=m) (hc:m<=cap) (w:bM):
  (Instr.sliceAt T (.slice a m cap) lov hiv none).run P w = .ok (.slice (if cap=lo.toNat then a else a.map (·.add (lo.toNat*GT.sz α))) (hi.toNat - lo.toNat)<|cap - lo.toNat) w:=by
 have eh:(Instr.sliceBounds true m cap lov hiv none).run P w = .ok (lo.toNat,hi.toNat,cap) w:=by
  unfold Instr.sliceBounds;have e1:∀(y:Nat)(c:BoundsCode),hi<=y->(Instr.sliceBound (.int .i64 hi) y c).run P w = .ok hi.toNat w:=λy c hy=>by
   simp[Instr.sliceBound,asIntOf,show 0<=hi by omega,hy]
  have e2:∀(y:Nat)(c:BoundsCode),lo<=y->(Instr.sliceBound (.int .i64 lo) y c).run P w = .ok lo.toNat w:=λy c hy=>by
   simp_all[Instr.sliceBound,asIntOf]
  grind [aO,aS,aR]
 unfold Instr.sliceAt;simp only[aO,run_underlying hT.pf,aR];unfold Instr.slice;simp only[aO,run_underlying hT.pf,aR,eh,hT.sz,aS]
theorem IJ{lop hip:aW bT}(hg:Wn ops U g)(hd:Nat.blt d n=true)(hw:Holds E w V)(hx:ev U q=v)(hi':V[i]? =some (rd v l))(hT:qc P T e (GT.sz α))
  (hl:lop.map (ev U)=some (.int .i64 lo)\/(lop.map (ev U)=none/\lo=0)) (hh:hip.map (ev U)=some (.int .i64 hi)\/(hip.map (ev U)=none/\hi=(l.length:Nat)))
  (hb:qP l lo hi=some l') (k:∀v',Holds E w (rd v' l'::V)->RL P n ops rest (cI U d v') w Q):
  RL P n ops (⟨some d, .slice T q lop hip none,ty,pos,af,g⟩::rest) U w Q:=by
 unfold qP at hb;split at hb
 ·rename_i hc;injection hb with hb
  subst hb;obtain⟨M,hs,gd⟩:=hw;have hs':=hU.1 (gd.sat i _ hi').1;obtain⟨a,m,cap,hv,hm,hcap,_⟩:=hs';subst hv;have hs2:=hU.1 (gd.sat i _ hi').1;have hcut:=vn hs2 hc.1 hc.2.1 hc.2.2;refine BY hg hd ?_<|k _ ⟨M,_,gd.dD ⟨hU.2 hcut,rfl⟩⟩
  grind [nW,execOp,aO,aR,aS]
 ·cases hb
end
def pw(a b:aP):aW aP:=if a.bK.length+b.bK.length<=9223372036854775807 then some ⟨a.bK++b.bK⟩else none
def oK(s:aP)(lo hi:Int):aW aP:=if 0<=lo/\lo<=hi/\hi<=s.bK.length then some ⟨(s.bK.drop lo.toNat).take (hi - lo).toNat⟩else none
section
variable {P:cR}{n:Nat}{U:Nat->bL}{w:bM}{Q:dg}{E:bM}{V:Z HP}{i:Nat}
variable {ops:bQ cA}{rest:Z cA}{d:Nat}{ty T T':da}{pos:String}{af:bQ Edge}{g:aW (Nat×Bool)}{v:bL}{q r:bT}{lo hi:Int}
theorem HI(a b:aP){s:aP}(hd:Nat.blt d n=true)(hx:ev U q=str a)(hy:ev U r=str b)(hs:pw a b=some s)(k:RL P n ops rest (cI U d<|str s) w Q)(hg:Wn ops U g:=by exact trivial):RL P n ops (⟨some d, .binOp .add T q r T',ty,pos,af,g⟩::rest) U w Q:=by
 unfold Gk.pw at hs;split at hs
 ·rename_i h;injection hs with hs
  subst hs;refine Hc (hg:=hg) (hr:=λw=>?_) _ _ _ hd hx hy k;have e1:((⟨a.bK.toArray⟩:ByteArray).size+(⟨b.bK.toArray⟩:ByteArray).size:Nat)=a.bK.length+b.bK.length:=rfl;have e2:IntKind.i64.max=9223372036854775807:=by decide
  have e3:(⟨a.bK.toArray⟩:ByteArray)++⟨b.bK.toArray⟩= ⟨(a.bK++b.bK).toArray⟩:=by
   rfl
  simp only[binOp,str,Op.stringOp];rw[e1,e2,aL (by omega),e3];rfl
 ·cases hs
theorem HZ{lop hip:aW bT}(s:aP){s':aP}(hd:Nat.blt d n=true)(hx:ev U q=str s)(hT:P.underlying T=some .string)(hl:lop.map (ev U)=some (.int .i64 lo)\/(lop.map (ev U)=none/\lo=0))(hh:hip.map (ev U)=some (.int .i64 hi)\/(hip.map (ev U)=none/\hi=(s.bK.length:Nat)))(hb:oK s lo hi=some s')(k:RL P n ops rest (cI U d<|str s') w Q)(hg:Wn ops U g:=by exact trivial):
  RL P n ops (⟨some d, .slice T q lop hip none,ty,pos,af,g⟩::rest) U w Q:=by
 unfold Gk.oK at hb;split at hb
 ·rename_i hc;injection hb with hb
  subst hb;refine BY hg hd ?_ k;have esz:(⟨s.bK.toArray⟩:ByteArray).size=s.bK.length:=rfl;have eb:(Instr.sliceBounds false s.bK.length s.bK.length (lop.map<|ev U) (hip.map<|ev U) none).run P w = .ok (lo.toNat,hi.toNat,s.bK.length) w:=by
   unfold Instr.sliceBounds;have e1:∀(y:Nat)(c:BoundsCode),hi<=y->(Instr.sliceBound (.int .i64 hi) y c).run P w = .ok hi.toNat w:=λy c hy=>by
    simp[Instr.sliceBound,asIntOf,show 0<=hi by omega,hy]
   have e2:∀(y:Nat)(c:BoundsCode),lo<=y->(Instr.sliceBound (.int .i64 lo) y c).run P w = .ok lo.toNat w:=λy c hy=>by
    simp_all[Instr.sliceBound,asIntOf]
   grind [aO,aS,aR]
  have ex:(⟨s.bK.toArray⟩:ByteArray).extract lo.toNat hi.toNat= ⟨((s.bK.drop lo.toNat).take (hi - lo).toNat).toArray⟩:=by
   apply ByteArray.ext;simp only[ByteArray.data_extract]
   grind
  simp only[execOp,hx,aO,Option.map_none,Instr.sliceAt,run_underlying hT,aR,Instr.slice,str]
  simp_all
 ·cases hb
end
def vo{α:Type}(a:Nat)(ds xs:Z α):Z α:=xs.take a++ds++xs.drop (a+ds.length)
theorem oL{α:Type}{a:Nat}{ds xs:Z α}(h:a+ds.length<=xs.length):(vo a ds xs).length=xs.length:=by
 unfold vo;grind
theorem px{α:Type}{a:Nat}{ds xs:Z α}(h:a+ds.length<=xs.length)(t:Nat):
  (vo a ds xs)[t]? =if t<a then xs[t]? else if t<a+ds.length then ds[t - a]? else xs[t]? :=by
 unfold vo
 grind
def B4(v:bL)(k sz off:Nat)(p:bL):Prop:=∃a n c,v = .slice (some a) n c/\p = .pointer (some<|a.add<|k*sz+off)
theorem kL{i k sz:Nat}(h:i<k):i*sz+sz<=k*sz:=by
 calc i*sz+sz=(i+1)*sz:=by rw[Nat.add_mul,Nat.one_mul]
  _<=k*sz:=Nat.mul_le_mul_right _ h
section
variable {α β:Type}[GT α][GT β]{P:cR}{n:Nat}{U:Nat->bL}{w:bM}{Q:dg}{E:bM}{V:Z HP}{i j:Nat}
variable {ops:bQ cA}{rest:Z cA}{d:Nat}{ty T T' e:da}{pos:String}{af:bQ Edge}{g:aW (Nat×Bool)}{v u p:bL}{q r:bT}{l l':Z α}{x:α}{jj:Int}{k off:Nat}
theorem dY{α:Type}{l:Z α}{jj:Int}{x:α}(h:idx l jj=some x):0<=jj/\l[jj.toNat]? =some x/\jj.toNat<l.length:=by
 grind [idx,bF]
theorem IK{K:IntKind}(hg:Wn ops U g)(hd:Nat.blt d n=true)(hw:Holds E w V)(hx:ev U q=v)(hy:ev U r = .int K jj)(hi:V[i]? =some (own e v l))
  (hT:qc P T e (GT.sz α)) (hj:idx l jj=some x) (kk:∀p,B4 v jj.toNat (GT.sz α) 0 p->RL P n ops rest (cI U d p) w Q):
  RL P n ops (⟨some d, .indexAddr T q r,ty,pos,af,g⟩::rest) U w Q:=by
 obtain⟨h0,hx',hlt⟩:=dY hj;obtain⟨M,hs,gd⟩:=hw
 rcases gd.sat i _ hi with⟨rfl,rfl,_⟩|⟨b,o,cap,cur,xs,rfl,h2,_⟩
 ·simp at hlt
 ·refine BY (v:= .pointer<|some<|(⟨b,o,none⟩:Addr).add<|jj.toNat*GT.sz α) hg hd ?_<|kk _ ⟨_,_,_,rfl,by rw[Nat.add_zero]⟩
  have hlt':jj<(l.length:Nat):=by omega
  simp only[execOp,hx,hy,Instr.indexAt,asIntOf,aO,aS,aR,run_underlying hT.pf,hT.sz,h0,hlt',and_self,if_true]
def xG(v:bL)(k sz off:Nat):bL:=match v with| .slice (some a) _ _=> .pointer (some<|a.add<|k*sz+off)|_=>undef
theorem wW{w E:bM}{V:Z HP}(i:Nat){v:bL}{l:Z α}{jj:Int}{x:α}(hw:Holds E w V)(hx:idx l jj=some x)(off:Nat)(hi:V[i]? =some (own e v l):=by exact rfl):B4 v jj.toNat (GT.sz α) off (xG v jj.toNat (GT.sz α) off):=by
 obtain⟨h0,hx',hlt⟩:=dY hx;obtain⟨M,hs,gd⟩:=hw
 rcases gd.sat i _ hi with⟨rfl,rfl,_⟩|⟨b,o,cap,cur,xs,rfl,h2,_⟩
 ·simp at hlt
 ·exact⟨_,_,_,rfl,rfl⟩
theorem GD{K:IntKind}(i:Nat)(hw:Holds E w V)(hx:ev U q=v)(hi:V[i]? =some (own e v l))(hT:qc P T e (GT.sz α))(hj:idx l jj=some x)(kk:RL P n ops rest (cI U d<|xG v jj.toNat (GT.sz α) 0) w Q)(hg:Wn ops U g:=by exact trivial)(hd:Nat.blt d n=true:=by exact rfl)(hy:ev U r = .int K jj:=by exact rfl):
  RL P n ops (⟨some d, .indexAddr T q r,ty,pos,af,g⟩::rest) U w Q:=
 IK hg hd hw hx hy hi hT hj λp hp=>by
  obtain⟨a,n',c,hv,rfl⟩:=hp;have:xG v jj.toNat (GT.sz α) 0 = .pointer (some<|a.add<|jj.toNat*GT.sz α+0):=by rw[hv];rfl
  rw[<-this];exact kk
theorem HB{f:α->β}(hg:Wn ops U g)(hd:Nat.blt d n=true)(hw:Holds E w V)(hx:ev U q=p)(hp:B4 v k (GT.sz α) off p)(hi:V[i]? =some (own e v l))(hl:l[k]? =some x)(hF:Fd off f)
  (hT:jP P T (GT.agg β) (GT.sz β)) (kk:∀u,Holds E w (rd u (f x)::V)->RL P n ops rest (cI U d u) w Q):RL P n ops (⟨some d, .load T q,ty,pos,af,g⟩::rest) U w Q:=by
 obtain⟨M,hs,gd⟩:=hw;obtain⟨a,n',c,hv,hpp⟩:=hp;have hkl:=(bF.1 hl).1
 rcases gd.sat i _ hi with⟨hv',rfl,_⟩|⟨b,o,cap,cur,xs,hv',h2,h3,h4,h5,h6,h7⟩
 ·simp at hkl
 ·rw[hv]at hv';injection hv' with e1 e2 e3
  injection e1 with e1
  subst e1;have hb:=gd.le i b _ (bD hi) (by rw[h4];exact bG b _);have ho:=hF M _ x<|h7.2 k x hl
  refine BY (v:=oI β<|(((xs.drop<|k*GT.sz α).take<|GT.sz α).drop off).take<|GT.sz β) hg hd ?_<|kk _ ⟨M,_,gd.dD ⟨⟨_,rfl,ho⟩,rfl⟩⟩
  simp only[execOp,hx,hpp,Instr.loadAt,Instr.sureAddr,aO,aS,aR];rw[i9 hT ho<|λt y hy=>?_];rfl
  grind [Addr.add_lit,cell_of_row]
theorem Ht{γ:Type}[Sc γ]{f:α->γ}(hg:Wn ops U g)(hd:Nat.blt d n=true)(hw:Holds E w V)(hx:ev U q=p)(hp:B4 v k (GT.sz α) off p)(hi:V[i]? =some (own e v l))(hl:l[k]? =some x)(hF:Fd off f)
  (hT:jP P T false 1) (kk:RL P n ops rest (cI U d<|Sc.toV<|f x) w Q):RL P n ops (⟨some d, .load T q,ty,pos,af,g⟩::rest) U w Q:=by
 refine HB (f:=f) hg hd hw hx hp hi hl hF hT λu h=>?_;rw[h.jA (i:=0) rfl];exact kk
theorem Ia{f:α->β->α}{y:β}(hg:Wn ops U g)(hw:Holds E w V)(hx:ev U q=p)(hy:ev U r=u)(hp:B4 v k (GT.sz α) off p)(hi:V[i]? =some (own e v l))(hl:l[k]? =some x)(hj:V[j]? =some (rd u y))
  (hF:Fs off β f) (hm:off+GT.sz β<=GT.sz α) (hT:jP P T (GT.agg β) (GT.sz β)) (kk:∀w',Holds E w' (V.set i<|own e v<|l.set k<|f x y)->RL P n ops rest U w' Q):
  RL P n ops (⟨none, .store T q r,ty,pos,af,g⟩::rest) U w Q:=by
 obtain⟨M,hs,gd⟩:=hw;obtain⟨a,n',c,hv,hpp⟩:=hp;have hkl:=(bF.1 hl).1;have hr:=(gd.sat j _ hj).1
 rcases gd.sat i _ hi with⟨hv',rfl,_⟩|⟨b,o,cap,cur,xs,hv',h2,h3,h4,h5,h6,h7⟩
 ·simp at hkl
 ·have hv0:=hv';rw[hv]at hv';injection hv' with e1 e2 e3
  injection e1 with e1
  subst e1;have hb:=gd.le i b _ (bD hi) (by rw[h4];exact bG b _);have hc:u.cells.size=GT.sz β:=by rw[<-GT.len hr.cells];simp
  have hcl:u.cells.toList.length=GT.sz β:=GT.len hr.cells;have hks:=kL (sz:=GT.sz α) hkl;have hcap:l.length*GT.sz α<=cap*GT.sz α:=Nat.mul_le_mul_right _ h2;have hcs:o+cap*GT.sz α<=cur.toList.length:=h5;have hrun:=ky (P:=P) (v:=u) (o:=o+(k*GT.sz α+off)) hT.sz hc (GT.one hr.cells) hb (by omega);have hnew:(cur.toList.take (o+(k*GT.sz α+off))++u.cells.toList++cur.toList.drop (o+(k*GT.sz α+off)+GT.sz β))=vo (o+(k*GT.sz α+off)) u.cells.toList cur.toList:=by
   grind [vo]
  rw[hnew]at hrun;have hfit:o+(k*GT.sz α+off)+u.cells.toList.length<=cur.toList.length:=by omega
  have hxl:xs.length=l.length*GT.sz α:=h7.1;have hget:∀t,xs[t]? =if t<l.length*GT.sz α then cur.toList[o+t]? else none:=λt=>by
   grind
  refine Hk hg ?_<|kk _<|ja (P':=own e v<|l.set k<|f x y) (new:=(vo (o+(k*GT.sz α+off)) u.cells.toList cur.toList).toArray) gd hi h4<|.inr ⟨b,o,cap,_,((vo (o+(k*GT.sz α+off)) u.cells.toList cur.toList).drop o).take<|l.length*GT.sz α,by grind,by grind,h3,rfl,?_,by rw[fg],?_⟩
  ·grind [execOp,Instr.storeAt,Instr.sureAddr,aO,aS,aR,Addr.add_lit]
  ·grind
  ·refine⟨by rw[bX,fO,oL hfit,fg];omega,λm z hz=>?_⟩;rw[ff]at hz
   by_cases hmk:k=m
   ·subst hmk;rw[aK rfl,aK hkl]at hz;injection hz with hz
    subst hz;have hok:=hF M _ _ x y (h7.2 k x hl) hr.cells;have heq:(List.drop (k*GT.sz α)<|((vo (o+(k*GT.sz α+off)) u.cells.toList cur.toList).drop o).take<|l.length*GT.sz α).take (GT.sz α) =
      (List.take (GT.sz α)<|List.drop (k*GT.sz α) xs).take off++u.cells.toList++(List.take (GT.sz α)<|List.drop (k*GT.sz α) xs).drop (off+GT.sz β):=by
     have e0:(List.take (GT.sz α)<|List.drop (k*GT.sz α) xs).take off++u.cells.toList++(List.take (GT.sz α)<|List.drop (k*GT.sz α) xs).drop (off+GT.sz β)=vo off u.cells.toList (List.take (GT.sz α)<|List.drop (k*GT.sz α) xs):=by
      unfold vo;rw[hcl]
     rw[e0];apply List.ext_getElem?;intro t;rw[px (by rw[hcl,bX,fO];omega),dV,fW,dV,fW,px hfit,hcl];simp only[dV,fW,hget]
     by_cases ht:t<GT.sz α
     ·rw[aK ht,aK (by omega)]
      by_cases h1:t<off
      ·rw[aK (by omega),aK h1,aK ht,aK (by omega)]
      ·rw[aL (by omega),aL h1]
       by_cases h2':t<off+GT.sz β
       ·rw[aK (by omega),aK h2'];congr 1;omega
       ·rw[aL (by omega),aL h2',aK ht,aK (by omega)]
     ·rw[aL ht,aL (by omega),aL (by omega),aL ht]
    rw[heq];exact hok
   ·rw[aL hmk]at hz;have hml:=(bF.1 hz).1;have hms:=kL (sz:=GT.sz α) hml;have hok:=h7.2 m z hz;have heq:(List.drop (m*GT.sz α)<|((vo (o+(k*GT.sz α+off)) u.cells.toList cur.toList).drop o).take<|l.length*GT.sz α).take (GT.sz α)=(List.drop (m*GT.sz α) xs).take (GT.sz α):=by
     apply List.ext_getElem?;intro t;simp only[dV,fW,px hfit,hcl,hget]
     by_cases ht:t<GT.sz α
     ·rw[aK ht,aK ht,aK (show m*GT.sz α+t<l.length*GT.sz α by omega),aK (show m*GT.sz α+t<l.length*GT.sz α by omega)]
      rcases Nat.lt_or_gt_of_ne hmk with h1|h1
      ·have:=kL (sz:=GT.sz α) h1;rw[aL (by omega),aL (by omega)]
      ·have:=kL (sz:=GT.sz α) h1;rw[aK (by omega)]
     ·rw[aL ht,aL ht]
    rw[heq];exact hok
theorem HJ{lop hip:aW bT}{lo hi:Int}(i:Nat)(hd:Nat.blt d n=true)(hw:Holds E w V)(hx:ev U q=v)(hi':V[i]? =some (own e v l))(hT:qc P T e (GT.sz α))(hl:lop.map (ev U)=some (.int .i64 lo)\/(lop.map (ev U)=none/\lo=0))(hb:qP l lo hi=some l')(kk:∀v',Holds E w (V.set i<|own e v' l')->RL P n ops rest (cI U d v') w Q)(hg:Wn ops U g:=by exact trivial)(hh:hip.map (ev U)=some (.int .i64 hi)\/(hip.map (ev U)=none/\hi=(l.length:Nat)):=by exact(.inl rfl)):
  RL P n ops (⟨some d, .slice T q lop hip none,ty,pos,af,g⟩::rest) U w Q:=by
 unfold qP at hb;split at hb
 ·rename_i hc;injection hb with hb
  subst hb;obtain⟨M,hs,gd⟩:=hw;have hlt:=bD hi';have hlen:((l.drop lo.toNat).take (hi - lo).toNat).length=hi.toNat - lo.toNat:=by grind
  rcases gd.sat i _ hi' with⟨rfl,rfl,hh0⟩|⟨b,o,cap,cur,xs,rfl,h2,h3,h4,h5,h6,h7⟩
  ·have hr:=nW (P:=P) (α:=α) (a:=none) (m:=0) (cap:=0) hT hl hh hc.1 hc.2.1 hc.2.2 (aX _) w;have h00:hi.toNat - lo.toNat=0:=by grind
   have hlo:lo.toNat=0:=by grind
   refine BY (v:= .slice none 0 0) hg hd ?_<|kk _ ⟨M,_,gd.update (P':=own e _ _) hlt j9 (.inl ⟨rfl,by rw[List.drop_nil,List.take_nil],rfl⟩) rfl rfl rfl (λ_ _ h=>by cases h) (λ_ _ h=>by cases h)<|λ_ _ _=>rfl⟩
   grind [execOp,aO,aR,aS]
  ·have hr:=nW (P:=P) (α:=α) (a:=some ⟨b,o,none⟩) (m:=l.length) (cap:=cap) hT hl hh hc.1 hc.2.1 hc.2.2 h2 w;have hxl:xs.length=l.length*GT.sz α:=h7.1;have hself:jE hs i (hs i)=hs:=by grind [jE]
   by_cases hce:cap=lo.toNat
   ·
    have h00:hi.toNat - lo.toNat=0:=by omega
    have hz:(l.drop lo.toNat).take (hi - lo).toNat= []:=List.eq_nil_of_length_eq_zero (by rw[hlen,h00]);have hz':l.length=cap:=by omega
    rw[hz]at kk;refine BY (v:= .slice (some ⟨b,o,none⟩) 0 0) hg hd ?_<|kk _ ⟨M,_,gd.update (P':=own e (.slice (some ⟨b,o,none⟩) 0 0) ([]:Z α)) hlt (hs i) ?_ rfl rfl rfl (λb' o' hb'=>gd.le i b' o' hlt hb') (λb' o' hb'=> .inl ⟨o',hb'⟩)<|λ_ _ _=>rfl⟩
    ·grind [execOp,aO,aR,aS]
    ·exact .inr ⟨b,o,0,cur,[],rfl,aX _,by simp[maxLen],h4,by omega,by simp,Cells.nil⟩
   ·refine BY (v:= .slice (some ⟨b,o+lo.toNat*GT.sz α,none⟩) ((l.drop lo.toNat).take (hi - lo).toNat).length<|cap - lo.toNat) hg hd ?_<|kk _ ⟨M,_,gd.update (P':=own e _ _) hlt (hs i) (.inr ⟨b,o+lo.toNat*GT.sz α,cap - lo.toNat,cur,(xs.drop<|lo.toNat*GT.sz α).take<|(hi - lo).toNat*GT.sz α,rfl,?_,by omega,h4,?_,?_,?_⟩) rfl rfl rfl (λb' o' hb'=>gd.le i b' o' hlt hb') (λb' o' hb'=> .inl ⟨o',hb'⟩)<|λ_ _ _=>rfl⟩
    ·grind [execOp,aO,aR,aS,Addr.add_lit]
    ·omega
    ·rw[Nat.sub_mul];have:lo.toNat*GT.sz α<=cap*GT.sz α:=Nat.mul_le_mul_right _ (by omega);omega
    ·rw[hlen,<-h6];have e1:(hi - lo).toNat=hi.toNat - lo.toNat:=by omega
     rw[e1,List.drop_take,List.drop_drop,List.take_take];congr 1;have:hi.toNat*GT.sz α<=l.length*GT.sz α:=Nat.mul_le_mul_right _ (by have:=hc.2.2;omega);rw[Nat.sub_mul];omega
    ·refine⟨?_,λm z hz=>?_⟩
     ·rw[bX,fO,hxl,hlen];have e1:(hi - lo).toNat=hi.toNat - lo.toNat:=by omega
      have:hi.toNat*GT.sz α<=l.length*GT.sz α:=Nat.mul_le_mul_right _ (by have:=hc.2.2;omega);rw[e1,Nat.sub_mul];omega
     ·rw[dV]at hz;split at hz
      ·rename_i hm;rw[fW]at hz;have:=h7.2 _ z hz;have hms:=kL (sz:=GT.sz α) hm;rw[List.drop_take,List.drop_drop,List.take_take,Nat.min_eq_left (by omega),<-Nat.add_mul];exact this
      ·cases hz
 ·cases hb
end
def mk{α:Type}(bytes:Nat)(z:α)(n:Int):aW (Z α):=if 0<=n/\n*bytes<=140737488355328 then some (List.replicate n.toNat z)else none
def wO(P:cR)(e:da){α:Type}[GT α](z0:α):Prop:=∀(M:bZ)(z:bL),(P.info? e).bind (·.zero)=some z->GT.ok M z.cells.toList z0
section
variable {α:Type}[GT α]{P:cR}{n:Nat}{U:Nat->bL}{w:bM}{Q:dg}{E:bM}{V:Z HP}{i:Nat}
variable {ops:bQ cA}{rest:Z cA}{d:Nat}{ty t e:da}{pos:String}{af:bQ Edge}{g:aW (Nat×Bool)}{q r:bT}{bytes:Nat}{l':Z α}{z0:α}{k:Int}
theorem HC(k:Int)(hd:Nat.blt d n=true)(hw:Holds E w V)(hx:ev U q = .int .i64 k)(hy:ev U r = .int .i64 k)(hT:qa P t e (GT.sz α) bytes)(hz0:wO P e z0)(hb:Gk.mk bytes z0 k=some l')(kk:∀v w',Holds E w' (own e v l'::V)->RL P n ops rest (cI U d v) w' Q)(hg:Wn ops U g:=by exact trivial):RL P n ops (⟨some d, .makeSlice t q r,ty,pos,af,g⟩::rest) U w Q:=by
 obtain⟨inf,z,hi,hz,hsz,hby,hzs⟩:=hT.inf;unfold Gk.mk at hb;split at hb
 case isFalse=>cases hb
 rename_i hc;injection hb with hb
 subst hb;obtain⟨m,rfl⟩:=Int.eq_ofNat_of_zero_le hc.1;rw[el]at kk;have h1:m*bytes<=140737488355328:=by omega
 have h2:m<=140737488355328:=jk (Nat.le_mul_of_pos_right _ hT.pos) h1;have hbn:(inf.bytes:Int)*(m:Int)<=281474976710656:=by
  grind
 have hr:=run_make (P:=P) w t e inf z hT.pf hi hz .i64 .i64 m m (by omega) (Int.le_refl _) hbn (by omega);simp only[el]at hr;refine BY (v:= .slice (some ⟨w.heap.size,0,none⟩) m m) (w':=w.alloc<|.cells (madeCells z.cells<|m*inf.size) e) hg hd ?_<|kk _ _<|hw.alloc _ λM hs gd=> .inr ⟨w.heap.size,0,m,madeCells z.cells<|m*inf.size,_,by rw[mh],by simp,by grind [maxLen],rfl,?_,rfl,?_⟩
 ·grind [execOp,aO,aR,aS]
 ·grind [size_madeCells]
 ·have hok:=hz0 M z (by grind);have hml:(madeCells z.cells<|m*inf.size).toList.length=m*GT.sz α:=by grind [Array.length_toList,size_madeCells]
  refine⟨by grind,λa x hx=>?_⟩;rw[List.getElem?_replicate]at hx;split at hx
  ·rename_i ha;injection hx with hx
   subst hx;have hms:=kL (sz:=GT.sz α) ha;have:(List.drop (a*GT.sz α)<|(List.drop 0 (madeCells z.cells<|m*inf.size).toList).take<|(List.replicate m z0).length*GT.sz α).take (GT.sz α)=z.cells.toList:=by
    apply List.ext_getElem?;intro t;have hzl:z.cells.toList.length=GT.sz α:=by omega
    simp only[dV,fW,mh,ez]
    by_cases ht:t<GT.sz α
    ·have hlt:a*GT.sz α+t<(madeCells z.cells<|m*inf.size).size:=by grind
     rw[aK ht,aK (by omega),Array.getElem?_toList,di hlt,aN (show t<z.cells.toList.length by omega)]
     grind [madeCells,GT.sz,Nat.mul_comm,Nat.mul_add_mod,Nat.mod_eq_of_lt]
    grind
   grind
  ·cases hx
end
class KV (κ:Type) [GT κ]where
 cs:κ->Z bL
 spec:∀{M:bZ}{c:Z bL}{k:κ},GT.ok M c k->c=cs k
 ok:∀(M:bZ)(k:κ),GT.ok M (cs k) k
instance instKVSc {α:Type} [Sc α]:KV α:=⟨λx=>[Sc.toV x],λh=>h,λ_ _=>rfl⟩
instance instKVProd {α β:Type} [GT α] [GT β] [KV α] [KV β]:KV (α×β):=
 ⟨λx=>KV.cs x.1++KV.cs x.2,λ⟨_,_,e,h1,h2⟩=>by rw[e,KV.spec h1,KV.spec h2],λM x=>⟨_,_,rfl,KV.ok M x.1,KV.ok M x.2⟩⟩
def KV.enc{κ:Type}[GT κ][KV κ](k:κ):bL:=oI κ<|KV.cs k
theorem KV.C7{κ:Type}[GT κ][KV κ]{M:bZ}{v:bL}{k:κ}(h:ou M v k):v=KV.enc k:=by
 obtain⟨cs,e,h⟩:=h;rw[e,KV.spec h];rfl
theorem KV.rd{κ:Type}[GT κ][KV κ](M:bZ)(k:κ):ou M (KV.enc k) k:=⟨_,rfl,KV.ok M k⟩
structure m0 (P:cR) (kt:da) (κ:Type) [GT κ] [KV κ] [DecidableEq κ]:Prop where
 B5:∀(b:Bool)(k:κ)(w:bM),(Instr.checkKey b 10000 kt<|KV.enc k).run P w = .ok () w
 eq:∀(a b:κ)(w:bM),(Op.equal kt (KV.enc a)<|KV.enc b).run P w = .ok (decide<|a=b) w
 now:(∀(a b:κ),∃D,P.underlying kt=some D/\Instr.sameNow D (KV.enc a) (KV.enc b)=some (decide<|a=b))\/(∃D,P.underlying kt=some D/\∀(a b:κ),Instr.sameNow D (KV.enc a) (KV.enc b)=none)
 bits:∀(a:κ),Instr.sameBits 10000 (KV.enc a) (KV.enc a)=true
section
variable {κ ν:Type}[GT κ][KV κ][GT ν]
def gv(M:bZ):Z MapEntry->Z (κ×ν)->Prop
 | [],[]=>True
 |e::es,p::m=>e.key=KV.enc p.1/\ou M e.val p.2/\gv M es m
 |_,_=>False
theorem gv.mono{M M':bZ}(h:hle M M'):∀{es:Z MapEntry}{m:Z (κ×ν)},gv M es m->gv M' es m
 | [],[],_=>trivial
 |e::es,p::m,⟨h1,h2,h3⟩=>⟨h1,h2.mono h,gv.mono h h3⟩
 | [],_::_,h=>h.elim
 |_::_,[],h=>h.elim
def zO(es:Z MapEntry)(clock:Nat)(m:Z (κ×ν)):Prop:=(∀x∈es,x.born<clock)/\(es.map (·.born)).Nodup/\(m.map Prod.fst).Nodup
def mp(v:bL)(m:Z (κ×ν)):HP:=
 ⟨λM h=>∃r es clock,v = .map (some r)/\(gv M (Array.toList es) m/\zO es.toList clock m)/\h=Gk.one r (.map es clock),λk⟨r,es,c,hv,⟨he,hst⟩,hh⟩=>⟨r,es,c,hv,⟨gv.mono k he,hst⟩,hh⟩⟩
end
section
variable {κ ν:Type}[GT κ][KV κ][DecidableEq κ][GT ν]
def cL(m:Z (κ×ν))(k:κ):aW Nat:=m.findIdx?<|λp=>decide<|k=p.1
def aZ(m:Z (κ×ν))(k:κ)(z:ν):ν:=match m.find? (λp=>decide<|k=p.1)with|some p=>p.2|none=>z
def fM(m:Z (κ×ν))(k:κ):Bool:=m.any<|λp=>decide<|k=p.1
def cP(m:Z (κ×ν))(k:κ)(x:ν):Z (κ×ν):=
 match m with
 | []=>[(k,x)]
 |p::m=>if k=p.1 then(k,x)::m else p::cP m k x
theorem vr(k:κ)(x:ν):∀m:Z (κ×ν),(cP m k x).map Prod.fst=if k∈m.map Prod.fst then m.map Prod.fst else m.map Prod.fst++[k]
 | []=>by simp[cP]
 |p::m=>by
  unfold cP
  by_cases h:k=p.1
  ·simp[h]
  ·rw[aL h,ef,vr k x m];simp only[ef,fB,h,false_or];split <;> simp
theorem rM{m:Z (κ×ν)}(h:(m.map Prod.fst).Nodup)(k:κ)(x:ν):((cP m k x).map Prod.fst).Nodup:=by
 rw[vr]
 grind
theorem zO.push{es:Z MapEntry}{clock:Nat}{m:Z (κ×ν)}(h:zO es clock m)(k:κ)(x:ν){en:MapEntry}(he:en.born=clock):zO (es++[en]) (clock+1) (cP m k x):=by
 refine⟨λy hy=>?_,?_,rM h.2.2 k x⟩
 ·rcases jD.1 hy with hy|hy
  ·have:=h.1 y hy;omega
  grind
 ·rw[fN,List.nodup_append];refine⟨h.2.1,by simp,λa ha b hb e=>?_⟩;simp at hb;obtain⟨y,hy,rfl⟩:=cE.1 ha;have:=h.1 y hy;omega
theorem zO.modify{es:Z MapEntry}{clock:Nat}{m:Z (κ×ν)}(h:zO es clock m)(k:κ)(x:ν){f:MapEntry->MapEntry}(hf:∀e,(f e).born=e.born)(a:Nat):zO (es.modify a f) clock (cP m k x):=by
 have hm:(es.modify a f).map (·.born)=es.map (·.born):=by
  refine List.ext_getElem? λj=>?_
  grind
 refine⟨λy hy=>?_,by rw[hm];exact h.2.1,rM h.2.2 k x⟩;have hy':y.born∈(es.modify a f).map (·.born):=cE.2 ⟨y,hy,rfl⟩;rw[hm]at hy';obtain⟨z,hz,e⟩:=cE.1 hy';rw[<-e];exact h.1 z hz
variable {P:cR}{n:Nat}{U:Nat->bL}{w:bM}{Q:dg}{E:bM}{V:Z HP}{i j l:Nat}
variable {ops:bQ cA}{rest:Z cA}{d:Nat}{ty T kt et:da}{pos:String}{af:bQ Edge}{g:aW (Nat×Bool)}{v kv u:bL}{q qk qv:bT}{r:Nat}{m:Z (κ×ν)}{k:κ}{x z0:ν}
theorem run_findKey(hK:m0 P kt κ)(M:bZ){es:Z MapEntry}(he:gv M es m)(w:bM):
  ∃o,(Instr.findKey kt (KV.enc k) es).run P w = .ok o w/\
   match o with
   |some (a,y)=>∃x,cL m k=some a/\m.find? (λp=>decide (k=p.1))=some (k,x)/\ou M y x/\∃en,es[a]? =some en/\en.key=KV.enc k
   |none=>cL m k=none/\m.find? (λp=>decide (k=p.1))=none:=by
 have ask:∀(es:Z MapEntry)(m:Z (κ×ν))(a:Nat),gv M es m->∃o,(Instr.findAsking kt (KV.enc k) es a).run P w = .ok o w/\
   (match o with
   |some (b,y)=>∃c x,b=a+c/\cL m k=some c/\m.find? (λp=>decide (k=p.1))=some (k,x)/\ou M y x/\∃en,es[c]? =some en/\en.key=KV.enc k
   |none=>cL m k=none/\m.find? (λp=>decide (k=p.1))=none):=by
  intro es
  induction es with
  |nil=>intro m a he;cases m with
   |nil=>exact⟨none,rfl,rfl,rfl⟩
   |cons p m=>exact he.elim
  |cons en es ih=>
   intro m a he
   cases m with
   |nil=>exact he.elim
   |cons p m=>
    obtain⟨h1,h2,h3⟩:=he;obtain⟨p1,p2⟩:=p;simp only at h1 h2;rw[Instr.findAsking];simp only[aO,h1,hK.eq,aR]
    by_cases e:k=p1
    ·subst e;refine⟨some (a,en.val),by simp[aS],0,p2,rfl,?_,?_,h2,en,rfl,h1⟩
     ·simp[cL,List.findIdx?_cons]
     ·simp
    ·obtain⟨o,ho,hs⟩:=ih m (a+1) h3;refine⟨o,by grind,?_⟩
     cases o with
     |none=>
      obtain⟨s1,s2⟩:=hs;refine⟨?_,?_⟩
      ·simp only[cL,List.findIdx?_cons,bP e]at s1 ⊢;simpa using s1
      ·simpa[List.find?_cons,bP e]using s2
     |some by_=>
      obtain⟨b,y⟩:=by_;obtain⟨c,x,hb,s1,s2,s3,en',s4,s5⟩:=hs;refine⟨c+1,x,by omega,?_,?_,s3,en',by grind,s5⟩
      ·simp only[cL,List.findIdx?_cons,bP e]at s1 ⊢;simp[s1]
      ·simpa[List.find?_cons,bP e]using s2
 have asked:∃o,(Instr.findAsking kt (KV.enc k) es).run P w = .ok o w/\
   (match o with
   |some (b,y)=>∃x,cL m k=some b/\m.find? (λp=>decide (k=p.1))=some (k,x)/\ou M y x/\∃en,es[b]? =some en/\en.key=KV.enc k
   |none=>cL m k=none/\m.find? (λp=>decide (k=p.1))=none):=by
  obtain⟨o,ho,hs⟩:=ask es m 0 he;refine⟨o,ho,?_⟩
  cases o with
  |none=>exact hs
  |some by_=>
   obtain⟨b,y⟩:=by_;obtain⟨c,x,hb,rest⟩:=hs;rw[ez]at hb;subst hb;exact⟨x,rest⟩
 unfold Instr.findKey
 rcases hK.now with hnow|⟨D,hD,hno⟩
 ·obtain⟨D,hD,_⟩:=hnow k k;have hnow':∀a b:κ,Instr.sameNow D (KV.enc a) (KV.enc b)=some (decide<|a=b):=λa b=>by
   simp_all
  have fn:∀(es:Z MapEntry)(m:Z (κ×ν))(a:Nat),gv M es m->∃o,Instr.findNow D (KV.enc k) es a=some o/\
    (match o with
    |some (b,y)=>∃c x,b=a+c/\cL m k=some c/\m.find? (λp=>decide (k=p.1))=some (k,x)/\ou M y x/\∃en,es[c]? =some en/\en.key=KV.enc k
    |none=>cL m k=none/\m.find? (λp=>decide (k=p.1))=none):=by
   intro es
   induction es with
   |nil=>intro m a he;cases m with
    |nil=>exact⟨none,rfl,rfl,rfl⟩
    |cons p m=>exact he.elim
   |cons en es ih=>
    intro m a he
    cases m with
    |nil=>exact he.elim
    |cons p m=>
     obtain⟨h1,h2,h3⟩:=he;obtain⟨p1,p2⟩:=p;simp only at h1 h2;rw[Instr.findNow,h1,hnow']
     by_cases e:k=p1
     ·subst e;refine⟨some (a,en.val),by simp,0,p2,rfl,?_,?_,h2,en,rfl,h1⟩
      ·simp[cL,List.findIdx?_cons]
      ·simp
     ·obtain⟨o,ho,hs⟩:=ih m (a+1) h3;refine⟨o,by grind,?_⟩
      cases o with
      |none=>
       obtain⟨s1,s2⟩:=hs;refine⟨?_,?_⟩
       ·simp only[cL,List.findIdx?_cons,bP e]at s1 ⊢;simpa using s1
       ·simpa[List.find?_cons,bP e]using s2
      |some by_=>
       obtain⟨b,y⟩:=by_;obtain⟨c,x,hb,s1,s2,s3,en',s4,s5⟩:=hs;refine⟨c+1,x,by omega,?_,?_,s3,en',by grind,s5⟩
       ·simp only[cL,List.findIdx?_cons,bP e]at s1 ⊢;simp[s1]
       ·simpa[List.find?_cons,bP e]using s2
  obtain⟨o,ho,hs⟩:=fn es m 0 he
  simp_all[aO,run_underlying,aR,aS,ez]
 ·cases es with
  |nil=>
   cases m with
   |nil=>exact⟨none,by simp_all[run_underlying,Instr.findNow],rfl,rfl⟩
   |cons p m=>exact he.elim
  |cons en es=>
   obtain⟨o,ho,hs⟩:=asked;refine⟨o,?_,hs⟩
   cases m with
   |nil=>exact he.elim
   |cons p m=>
    have:Instr.findNow D (KV.enc k) (en::es) 0=none:=by rw[Instr.findNow,he.1,hno]
    simp only[aO,run_underlying hD,aR,this,ho]
theorem xH(m:Z (κ×ν))(k:κ)(z:ν):aZ m k z=match m.find? (λp=>decide<|k=p.1)with|some p=>p.2|none=>z:=rfl
theorem xI(m:Z (κ×ν))(k:κ):fM m k=(m.find?<|λp=>decide<|k=p.1).isSome:=by
 unfold fM
 grind
theorem rN(hT:P.underlying T=some (.map kt et))(hK:m0 P kt κ)(hz:∃inf z,P.info? et=some inf/\inf.zero=some z/\∀M,ou M z z0)
  (hw:Holds E w V) (hi:V[i]? =some (mp v m)) (ok:Bool):
  ∃y,(Instr.lookup T v (KV.enc k) ok).run P w = .ok (if ok then .tuple #[y, .bool<|fM m k]else y) w/\Holds E w (rd y (aZ m k z0)::V):=by
 obtain⟨M,hs,gd⟩:=hw;obtain⟨r,es,clock,rfl,⟨he,hst⟩,hh⟩:=gd.sat i _ hi;have hb:=gd.le i r _ (bD hi) (by rw[hh];exact bG r _);obtain⟨o,ho,hs'⟩:=run_findKey hK M he w (k:=k);obtain⟨inf,z,hin,hzz,hzr⟩:=hz
 cases o with
 |none=>
  obtain⟨h1,h2⟩:=hs';refine⟨z,?_,Holds.rE ⟨M,hs,gd⟩ λM' hs' gd'=>⟨?_,rfl⟩⟩
  ·simp[Instr.lookup,run_underlying hT,MapKept.run_getObj_map hb,hK.B5,ho,Result.andThen,zeroValue,typeInfo,hin,hzz,xI,h2,program,Sem.run]
  grind [xH]
 |some ay=>
  obtain⟨a,y⟩:=ay;obtain⟨x,h1,h2,h3,_⟩:=hs';refine⟨y,?_,⟨M,ve j9 hs,gd.dD ⟨?_,rfl⟩⟩⟩
  ·simp[Instr.lookup,run_underlying hT,MapKept.run_getObj_map hb,hK.B5,ho,Result.andThen,xI,h2]
  grind [xH]
omit [DecidableEq κ]in
theorem lu(j:Nat)(hw:Holds E w V)(hj:V[j]? =some (rd kv k)):kv=KV.enc k:=by
 obtain⟨M,hs,gd⟩:=hw;exact KV.C7 (gd.sat j _ hj).1
structure nd (P:cR) (T kt et:da) (κ ν:Type) [GT κ] [KV κ] [DecidableEq κ] [GT ν] (z0:ν):Prop where
 pf:P.underlying T=some (.map kt et)
 key:m0 P kt κ
 zero:∃inf z,P.info? et=some inf/\inf.zero=some z/\∀M,ou M z z0
theorem IL(hg:Wn ops U g)(hd:Nat.blt d n=true)(hw:Holds E w V)(hx:ev U q=v)(hk:ev U qk=KV.enc k)(hi:V[i]? =some (mp v m))(hT:nd P T kt et κ ν z0)
  (kk:∀y,Holds E w (rd y (aZ m k z0)::V)->RL P n ops rest (cI U d<|.tuple #[y, .bool<|fM m k]) w Q):RL P n ops (⟨some d, .lookup T q qk true,ty,pos,af,g⟩::rest) U w Q:=by
 obtain⟨y,hr,hh⟩:=rN hT.pf hT.key hT.zero hw hi true (k:=k);refine BY hg hd ?_<|kk y hh
 grind [execOp,aO,aR,aS]
theorem Ib(hg:Wn ops U g)(hd:Nat.blt d n=true)(hw:Holds E w V)(hx:ev U q=v)(hk:ev U qk=KV.enc k)(hi:V[i]? =some (mp v m))(hT:nd P T kt et κ ν z0)
  (kk:∀y,Holds E w (rd y (aZ m k z0)::V)->RL P n ops rest (cI U d y) w Q):RL P n ops (⟨some d, .lookup T q qk false,ty,pos,af,g⟩::rest) U w Q:=by
 obtain⟨y,hr,hh⟩:=rN hT.pf hT.key hT.zero hw hi false (k:=k);refine BY hg hd ?_<|kk y hh
 grind [execOp,aO,aR,aS,Bool.false_eq_true]
theorem HK [KV ν](i:Nat)(k:κ)(hd:Nat.blt d n=true)(hw:Holds E w V)(hx:ev U q=v)(hk:ev U qk=KV.enc k)(hi:V[i]? =some (mp v m))(hT:nd P T kt et κ ν z0)(kk:RL P n ops rest (cI U d<|.tuple #[KV.enc<|aZ m k z0, .bool<|fM m k]) w Q)(hg:Wn ops U g:=by exact trivial):RL P n ops (⟨some d, .lookup T q qk true,ty,pos,af,g⟩::rest) U w Q:=
 IL hg hd hw hx hk hi hT λy hh=>by have:=lu 0 hh rfl;rw[this];exact kk
theorem Hm [KV ν](i:Nat)(k:κ)(hd:Nat.blt d n=true)(hw:Holds E w V)(hx:ev U q=v)(hk:ev U qk=KV.enc k)(hi:V[i]? =some (mp v m))(hT:nd P T kt et κ ν z0)(kk:RL P n ops rest (cI U d<|KV.enc<|aZ m k z0) w Q)(hg:Wn ops U g:=by exact trivial):RL P n ops (⟨some d, .lookup T q qk false,ty,pos,af,g⟩::rest) U w Q:=
 Ib hg hd hw hx hk hi hT λy hh=>by have:=lu 0 hh rfl;rw[this];exact kk
theorem G9(hw:Holds E w V)(kk:∀v w',Holds E w' (mp v ([]:Z (κ×ν))::V)->RL P n ops rest (cI U d v) w' Q)(hg:Wn ops U g:=by exact trivial)(hd:Nat.blt d n=true:=by exact rfl):RL P n ops (⟨some d, .makeMap T none,ty,pos,af,g⟩::rest) U w Q:=by
 refine BY (v:= .map<|some w.heap.size) (w':=w.alloc<|.map #[] 0) hg hd ?_<|kk _ _<|hw.alloc _ λM hs gd=>⟨w.heap.size,#[],0,rfl,⟨trivial,by simp[zO]⟩,rfl⟩
 rfl
theorem gv.len{M:bZ}:∀{es:Z MapEntry}{m:Z (κ×ν)},gv M es m->es.length=m.length
 | [],[],_=>rfl
 |_::_,_::_,⟨_,_,h3⟩=>congrArg (· +1) (gv.len h3)
 | [],_::_,h=>h.elim
 |_::_,[],h=>h.elim
theorem Ic(i:Nat)(hg:Wn ops U g)(hd:Nat.blt d n=true)(hw:Holds E w V)(hx:ev U q=v)(hi:V[i]? =some (mp v m))(hT:P.underlying T=some (.map kt et))(kk:RL P n ops rest (cI U d<|.int .i64 (m.length:Nat)) w Q):RL P n ops (⟨some d, .call ⟨.builtin .len,#[q],#[T]⟩,ty,pos,af,g⟩::rest) U w Q:=by
 obtain⟨M,hs,gd⟩:=hw;obtain⟨r,es,clock,rfl,⟨he,hst⟩,hh⟩:=gd.sat i _ hi;have hb:=gd.le i r _ (bD hi) (by rw[hh];exact bG r _);refine BY hg hd ?_ kk;have hl:es.size=m.length:=by rw[<-he.len];simp
 simp[execOp,resolve,hx,invoke,builtin,Builtin.len_,run_underlying hT,MapKept.run_getObj_map hb,hl,goInt]
theorem jW{M:bZ}{hs:Nat->bZ}{P':HP}{b c c':Nat}{es es':bQ MapEntry}{Pi:HP}(gd:Good E w M hs V)(hi:V[i]? =some Pi)(hh:hs i=Gk.one b (.map es c))
  (hp:P'.ok M (Gk.one b<|.map es' c')):Holds E {w with heap:=w.heap.setIfInBounds b<|.map es' c'} (V.set i P'):=by
 have hb:=gd.le i b _ (bD hi) (by rw[hh];exact bG b _);refine⟨M,_,gd.update (bD hi) (Gk.one b<|.map es' c') hp rfl rfl rfl (λb' o' hb'=>?_) (λb' o' hb'=>?_)<|λb' hb' _=>?_⟩
 ·grind [dX,MapKept.heap_set]
 ·obtain⟨rfl,rfl⟩:=dX hb';simp_all[bG]
 ·rw[hh]at hb'
  grind [MapKept.heap_set,bG]
theorem gv.push{M:bZ}{en:MapEntry}:∀{es:Z MapEntry}{m:Z (κ×ν)},gv M es m->cL m k=none->en.key=KV.enc k->ou M en.val x->gv M (es++[en]) (cP m k x)
 | [],[],_,_,h1,h2=>⟨h1,h2,trivial⟩
 |e::es,p::m,⟨a1,a2,a3⟩,hf,h1,h2=>by
  have hne:¬k=p.1:=λe=>by simp[cL,List.findIdx?_cons,e]at hf
  have hf':cL m k=none:=by simp only[cL,List.findIdx?_cons,bP hne]at hf ⊢;simpa using hf
  show gv M (e::(es++[en])) _;unfold cP;rw[aL hne];exact⟨a1,a2,gv.push a3 hf' h1 h2⟩
 | [],_::_,h,_,_,_=>h.elim
 |_::_,[],h,_,_,_=>h.elim
theorem gv.modify{M:bZ}{f:MapEntry->MapEntry}(h1:∀e,(f e).key=KV.enc k)(h2:∀e,ou M (f e).val x):∀{es:Z MapEntry}{m:Z (κ×ν)}{a:Nat},gv M es m->cL m k=some a->gv M (es.modify a f) (cP m k x)
 | [],[],_,_,hf=>by simp[cL]at hf
 |e::es,p::m,a,⟨a1,a2,a3⟩,hf=>by
  unfold cP
  by_cases hk:k=p.1
  ·have ha:a=0:=by simp[cL,List.findIdx?_cons,hk]at hf;omega
   subst ha;rw[aK hk];exact⟨h1 e,h2 e,a3⟩
  ·rw[aL hk];simp only[cL,List.findIdx?_cons,bP hk,Bool.false_eq_true,if_false,Option.map_eq_some_iff]at hf;obtain⟨a',hf',rfl⟩:=hf;exact⟨a1,a2,gv.modify h1 h2 a3 hf'⟩
 | [],_::_,_,h,_=>h.elim
 |_::_,[],_,h,_=>h.elim
theorem He(i j:Nat)(k:κ)(hw:Holds E w V)(hx:ev U q=v)(hk:ev U qk=KV.enc k)(hi:V[i]? =some (mp v m))(hj:V[j]? =some (rd u x))(hT:nd P T kt et κ ν z0)(kk:∀w',Holds E w' (V.set i<|mp v<|cP m k x)->RL P n ops rest U w' Q)(hg:Wn ops U g:=by exact trivial)(hv:ev U qv=u:=by exact rfl):RL P n ops (⟨none, .mapUpdate T q qk qv,ty,pos,af,g⟩::rest) U w Q:=by
 obtain⟨M,hs,gd⟩:=hw;obtain⟨r,es,clock,rfl,⟨he,hst⟩,hh⟩:=gd.sat i _ hi;have hu:=(gd.sat j _ hj).1;have hb:=gd.le i r _ (bD hi) (by rw[hh];exact bG r _);obtain⟨o,ho,hs'⟩:=run_findKey hT.key M he w (k:=k)
 cases o with
 |none=>
  refine Hk hg ?_<|kk _<|jW gd hi hh (es':=es.push {key:=KV.enc k,val:=u,born:=clock}) (c':=clock+1) ⟨r,_,_,rfl,⟨?_,by rw[Array.toList_push];exact hst.push k x rfl⟩,rfl⟩
  ·simp[execOp,hx,hk,hv,Instr.mapUpdate,run_underlying hT.pf,MapKept.run_getObj_map hb,hT.key.B5,ho,MapKept.run_setObj_map _ hb]
  grind [Array.toList_push,gv.push]
 |some ay=>
  obtain⟨a,y⟩:=ay;obtain⟨x',h1,h2,h3,en,h4,h5⟩:=hs';have h4':es[a]? =some en:=by grind
  have hstay:(Instr.keyThatStays (KV.enc k)<|KV.enc k).run P w = .ok (KV.enc k) w:=by simp[Instr.keyThatStays,hT.key.bits]
  refine Hk hg ?_<|kk _<|jW gd hi hh (es':=es.modify a λe=>{e with key:=KV.enc k,val:=u}) (c':=clock) ⟨r,_,_,rfl,⟨?_,by rw[Array.toList_modify];exact hst.modify k x (f:=λe=>{e with key:=KV.enc k,val:=u}) (λ_=>rfl) a⟩,rfl⟩
  ·simp[execOp,hx,hk,hv,Instr.mapUpdate,run_underlying hT.pf,MapKept.run_getObj_map hb,hT.key.B5,ho,MapKept.run_setObj_map _ hb,h4',h5,hstay]
  simp_all[Array.toList_modify,gv.modify]
end
@[reducible] def instKVvia{α β:Type}[GT β][KV β](f:α->β): @KV α (GT.via f):= @KV.mk α (GT.via f) (λx=>KV.cs<|f x) (λh=>KV.spec h)<|λM x=>KV.ok M<|f x
theorem m0.str{P:cR}{kt:da}(h:P.underlying kt=some .string):m0 P kt aP where
 B5 b k w:=MapKept.run_checkKey h (k:=Gk.str k) trivial b 9999
 eq a b w:=oJ (d:=9999) h a b w
 now:= .inl λa b=>⟨_,h,by show some ((⟨a.bK.toArray⟩:ByteArray)==⟨b.bK.toArray⟩)=_;rw[xF]⟩
 bits a:=MapKept.sameBits_self (d:= .string) (k:=Gk.str a) trivial _
theorem m0.int{P:cR}{kt:da}(h:P.underlying kt=some (.int .i64)):m0 P kt Int where
 B5 b k w:=MapKept.run_checkKey h (k:= .int .i64 k) rfl b 9999
 eq a b w:=(ml (d:=9999) h a b w).trans (by rfl)
 now:= .inl λa b=>⟨_,h,by rfl⟩
 bits a:=MapKept.sameBits_self (d:= .int .i64) (k:= .int .i64 a) rfl _
inductive zA (P:cR) (n:Nat) (xs:bQ bL):Z Field->Prop
 |nil:zA P n xs []
 |cons {f:Field} {l:Z Field} {x:bL} (hn:f.name≠ "_") (hx:∀w,(part f.type xs f.offset).run P w = .ok x w) (hc:∀b w,(Instr.checkKey b n f.type x).run P w = .ok () w) (h:zA P n xs l):zA P n xs (f::l)
theorem ob{P:cR}{T:da}{fs:bQ Field}{xs:bQ bL}{n:Nat}(hu:P.underlying T=some (.struct fs))(h:zA P n xs fs.toList)(b:Bool)(w:bM):
  (Instr.checkKey b (n+1) T<|.agg xs).run P w = .ok () w:=by
 obtain⟨l⟩:=fs;rw[Instr.checkKey];simp only[aO,run_underlying hu,aR,List.forIn_toArray];simp only at h;clear hu
 induction h with
 |nil=>simp
 | @cons f l x hn hx hc h ih=>
  simp only[List.forIn_cons,hn,ne_eq,not_false_eq_true,if_true,aO,hx,hc,aR,aS]
  simp_all
theorem zP{n:Nat}{cs:Z bL}(h:∀x∈cs,Instr.sameBits n x x=true):Instr.sameBits (n+1) (.agg cs.toArray) (.agg cs.toArray)=true:=by
 rw[Instr.sameBits];simp only[beq_self_eq_true,Bool.true_and,ik];intro p hp;have:∀(l:Z bL)(p:bL×bL),p∈l.zip l->p.1=p.2/\p.1∈l:=by
  intro l
  induction l with
  |nil=>simp
  |cons a l ih=>
   grind [List.zip_cons_cons]
 grind
theorem m0.struct{κ:Type}[GT κ][KV κ][DecidableEq κ]{P:cR}{T:da}{fs:bQ Field}(hu:P.underlying T=some (.struct fs))(hag:GT.agg κ=true)(hE:C6 P T κ)
  (hc:∀k:κ,zA P 9999 (KV.cs k).toArray fs.toList) (hb:∀(k:κ),∀x∈KV.cs k,Instr.sameBits 9999 x x=true):m0 P T κ:=by
 have he:∀k:κ,KV.enc k = .agg (KV.cs k).toArray:=λk=>by grind [KV.enc,oI]
 refine⟨λb k w=>?_,λa b w=>?_, .inr ⟨_,hu,λa b=>?_⟩,λa=>?_⟩
 ·grind [ob]
 ·exact hE.eq j9 _ _ a b w (KV.ok j9 a)<|KV.ok j9 b
 ·rfl
 grind [zP]
theorem lh{ν:Type}[GT ν]{P:cR}{et:da}(aT:bL){z0:ν}(hz:∀M,ou M aT z0)(h:(P.info? et).bind (·.zero)=some aT:=by kernel_rfl):∃inf z,P.info? et=some inf/\inf.zero=some z/\∀M,ou M z z0:=by
 cases e:P.info? et with
 |none=>grind
 |some inf=>grind
theorem wO.of{α:Type}[GT α]{P:cR}{e:da}(aT:bL){z0:α}(hz:∀M,GT.ok M aT.cells.toList z0)(h:(P.info? e).bind (·.zero)=some aT:=by kernel_rfl):wO P e z0:=λM z hh=>by
 rw[h]at hh;injection hh with hh;subst hh;exact hz M
section
variable {P:cR}{n:Nat}{U:Nat->bL}{w:bM}{Q:dg}{ops:bQ cA}{rest:Z cA}{d:Nat}{ty t u:da}{pos:String}{af:bQ Edge}{g:aW (Nat×Bool)}{q r:bT}{K:IntKind}{a b:Int}
theorem Ie(a b:Int)(hg:Wn ops U g)(hd:Nat.blt d n=true)(hx:ev U q = .int K a)(hy:ev U r = .int K b)(kk:RL P n ops rest (cI U d<|.int K (if b<a then b else a)) w Q):
  RL P n ops (⟨some d, .call ⟨.builtin .min,#[q,r],#[t,u]⟩,ty,pos,af,g⟩::rest) U w Q:=by
 refine BY hg hd ?_ kk;simp[execOp,resolve,hx,hy,invoke,builtin,Builtin.min_,Builtin.min2]
theorem G_{f:Fn}{args:bQ bT}(vs:Z bL)(kk:RL P n ops rest (cI U d<|.func f #[] vs.toArray) w Q)(hg:Wn ops U g:=by exact trivial)(hd:Nat.blt d n=true:=by exact rfl)(hvs:args.toList.map (ev U)=vs:=by exact rfl):RL P n ops (⟨some d, .makeFunc f #[] args,ty,pos,af,g⟩::rest) U w Q:=by
 have e:args.map (ev U)=vs.toArray:=by grind
 refine BY hg hd ?_ kk
 simp_all[execOp,Instr.makeFunc]
end
@[reducible] def vi(n:Int):bL:= .int .i64 n
@[reducible] def vb(b:Bool):bL:= .bool b
@[reducible] def vp(b o:Nat):bL:= .pointer<|some ⟨b,o,none⟩
section
variable {P:cR}{n:Nat}{U:Nat->bL}{w:bM}{Q:dg}{y:Code}{ops:bQ cA}{rest:Z cA}{d:Nat}{ty T T':da}{pos:String}{af:bQ Edge}{q r:bT}{K:IntKind}{id:Nat}{l:Z cA}
theorem mv(v:bL)(k:RL P n ops rest (cI U d v) w Q)(hd:Nat.blt d n=true:=by exact rfl)(hx:ev U q=v:=by exact rfl):RL P n ops (⟨some d, .move q,ty,pos,af,none⟩::rest) U w Q:=AI (hd:=hd) (hx:=hx) _ trivial k
theorem dB(v:bL)(k:RL P n ops rest (cI U d v) w Q)(hd:Nat.blt d n=true:=by exact rfl)(hx:ev U q=v:=by exact rfl):RL P n ops (⟨some d, .assign q,ty,pos,af,none⟩::rest) U w Q:=H9 trivial hd hx k
theorem ic{bop:BinOp}(a b:Int)(k:RL P n ops rest (cI U d<|.bool<|kx bop a b) w Q)(hd:Nat.blt d n=true:=by exact rfl)(hx:ev U q = .int K a:=by exact rfl)(hy:ev U r = .int K b:=by exact rfl)(hc:po bop=true:=by exact rfl):
  RL P n ops (⟨some d, .binOp bop T q r T',ty,pos,af,none⟩::rest) U w Q:=GO (hd:=hd) (hx:=hx) (hy:=hy) (hc:=hc) _ _ trivial k
theorem sk{op:Op}{j t:Nat}{b:Bool}(ht:(ops[j]?).bind (·.dst)=some t)(hv:U t = .bool (!b)\/U t=undef)(hd:Nat.blt d n=true)
  (k:RL P n ops rest (cI U d undef) w Q):RL P n ops (⟨some d,op,ty,pos,af,some (j,b)⟩::rest) U w Q:=H7 ht hv hd k
theorem cb{a b:Bool}(h:a=b):Value.bool a = .bool b:=by rw[h]
theorem d3(h:RL P n l.toArray l U w (i7 P n y Q)):RC P n (.seq (.region id l.toArray false) y) U w Q:=w_<|t_ h
theorem o_(h:RC P n y U w Q):RL P n ops [] U w (i7 P n y Q):=s_<|aI h
theorem r_{z:Code}(h:RL P n l.toArray l U w (i7 P n z Q)):RL P n ops [] U w (i7 P n (.seq (.region id l.toArray false) z) Q):=o_<|d3 h
theorem u_{z:Code}(h:RC P n y U w (i7 P n z Q)):RL P n ops [] U w (i7 P n (.seq y z) Q):=o_<|w_ h
theorem F_(h:Q .ret U w):RC P n .ret U w (i7 P n y Q):=x_<|bC h
theorem Gy(h:Q .ret U w):RC P n .ret U w (qb id Q):=x_<|d6 h
theorem GU(h:RC P n y U w Q):RC P n .skip U w (i7 P n y Q):=Gz<|aI h
theorem Gx{z:Code}(h:RC P n y U w (i7 P n z Q)):RC P n .skip U w (i7 P n (.seq y z) Q):=GU<|w_ h
theorem GC{z:Code}(h:RL P n l.toArray l U w (i7 P n z Q)):RC P n .skip U w (i7 P n (.seq (.region id l.toArray false) z) Q):=GU<|d3 h
theorem GQ{i:Nat}(h:Q (.exit i) U w):RC P n (.exit i) U w (i7 P n y Q):=IE<|Bm h
theorem C_{b:Nat}(h:RL P n l.toArray l U w (i7 P n y<|qb b Q)):RC P n (.block b<|.seq (.region id l.toArray false) y) U w Q:=G8<|d3 h
theorem ac{d:Nat}{v:bL}{l:Z (Nat×bL)}(h:U d=v)(hl:agree U l):agree U ((d,v)::l):=⟨h,hl⟩
theorem az:agree U []:=trivial
theorem oi{α:Type}{a b:α}(h:some a=some b):a=b:=by injection h
end
def bc(e:da)(g:Nat)(vs:Z bL):HP:=⟨λ_ h=>(∀v∈vs,v.oneCell'=true)/\h=Gk.one g (.cells vs.toArray e (0,0)),λ_ h=>h⟩
def F4{α:Type}[GT α](vs:Z bL)(x:α):HP:=⟨λM h=>GT.ok M vs x/\h=j9,λk⟨a,b⟩=>⟨GT.mono k a,b⟩⟩
structure D1 (P:cR) (T:da) (zs:Z bL):Prop where
 z:∃z,(∀w,(zeroValue T).run P w = .ok z w)/\z.cells=zs.toArray
section
variable {α β:Type}[GT α][GT β]{E w:bM}{V:Z HP}{i j:Nat}{v:bL}{x:α}{e e':da}{b:Nat}{vs:Z bL}
theorem pD{l:Z α}(i:Nat)(h:Holds E w V)(hi:V[i]? =some (own e v l)):v.oneCell'=true:=by
 obtain⟨M,hs,g⟩:=h;exact zL<|g.sat i _ hi
theorem ue{κ ν:Type}[GT κ][KV κ][GT ν]{m:Z (κ×ν)}(i:Nat)(h:Holds E w V)(hi:V[i]? =some (mp v m)):v.oneCell'=true:=by
 obtain⟨M,hs,g⟩:=h;obtain⟨r,es,c,rfl,_⟩:=g.sat i _ hi;rfl
theorem Holds.j8{cs:Z bL}{k:Nat}{f:α->β}(h:Holds E w V)(hi:V[i]? =some (F4 cs x))(hF:Fd k f)(hv:cs[k]? =some v)(hs:GT.sz β=1)(ha:GT.agg β=false):Holds E w (rd v (f x)::V):=by
 obtain⟨M,hs',g⟩:=h;obtain⟨ho,_⟩:=g.sat i _ hi;refine⟨M,_,g.dD ⟨?_,rfl⟩⟩;have h1:=hF M cs x ho;obtain⟨hlt,rfl⟩:=bF.1 hv;have h2:(cs.drop k).take (GT.sz β)= [cs[k]]:=by
  grind [ku]
 rw[h2]at h1;refine⟨_,?_,h1⟩
 grind [oI]
theorem Holds.vt(h:Holds E w V)(hi:V[i]? =some (bc e b vs))(ho:∀M hs,Good E w M hs V->GT.ok M vs x):Holds E w (V.set i<|bx e b x):=by
 obtain⟨M,hs,g⟩:=h;obtain⟨_,hh⟩:=g.sat i _ hi;have hlt:=bD hi;refine⟨M,hs,g.os,g.tape,g.out,g.dr,g.im,λk Q hq=>?_,λk b o hk=>g.le k b o (by grind),λk b o hk=>g.dm k b o (by grind),λk l b o hk hl=>g.dj k l b o (by grind) (by grind)⟩;rw[ff]at hq;split at hq
 ·rename_i e1;subst e1;simp[hlt]at hq;subst hq;exact⟨vs,ho M hs g,hh⟩
 ·exact g.sat k Q hq
theorem uf(ha:GT.agg α=false){M:bZ}(h:ou M v x):GT.ok M [v] x:=by
 obtain⟨cs,rfl,ho⟩:=h;have hl:=GT.len ho;rw[GT.ag1 ha]at hl
 match cs,hl with
 | [c],_=>grind [oI]
end
section
variable {P:cR}{n:Nat}{U:Nat->bL}{w:bM}{Q:dg}{E:bM}{V:Z HP}{i j:Nat}
variable {ops:bQ cA}{rest:Z cA}{d:Nat}{ty T T' e:da}{pos:String}{af:bQ Edge}{g:aW (Nat×Bool)}{v v':bL}{q r:bT}{b m:Nat}{vs:Z bL}
theorem GL(i:Nat)(v:bL)(hw:Holds E w V)(hT:jP P T false 1)(k:RL P n ops rest (cI U d v) w Q)(hg:Wn ops U g:=by exact trivial)(hd:Nat.blt d n=true:=by exact rfl)(hx:ev U q = .pointer (some ⟨b,m,none⟩):=by exact rfl)(hi:V[i]? =some (bc e b vs):=by exact rfl)(hv:vs[m]? =some v:=by exact rfl):RL P n ops (⟨some d, .load T q,ty,pos,af,g⟩::rest) U w Q:=by
 obtain⟨M,hs,gd⟩:=hw;obtain⟨_,hh⟩:=gd.sat i _ hi;have hb:=gd.le i b _ (bD hi) (by rw[hh];exact bG b _);have hc:w.cell? ⟨b,m,none⟩=some v:=by rw[cell_of_row w b _ _ _ _ hb];grind
 refine BY (v:=v) hg hd ?_ k;simp[execOp,hx,Instr.loadAt,Instr.sureAddr,loadVar,hT.C2,load,Sem.run,hc]
theorem Hn(i:Nat)(v:bL)(hw:Holds E w V)(hi:V[i]? =some (bc e b vs))(hv:vs[m]? =some v')(h1:v.oneCell'=true)(hT:jP P T false 1)(k:∀w',Holds E w' (V.set i<|bc e b<|vs.set m v)->RL P n ops rest U w' Q)(hg:Wn ops U g:=by exact trivial)(hx:ev U q = .pointer (some ⟨b,m,none⟩):=by exact rfl)(hy:ev U r=v:=by exact rfl):RL P n ops (⟨none, .store T q r,ty,pos,af,g⟩::rest) U w Q:=by
 obtain⟨M,hs,gd⟩:=hw;obtain⟨hone,hh⟩:=gd.sat i _ hi;have hlt:=(bF.1 hv).1;have hb:=gd.le i b _ (bD hi) (by rw[hh];exact bG b _);have hcv:v.cells = #[v]:=by cases v <;> first|rfl|(cases h1)
 have hrun:=ky (P:=P) (v:=v) (o:=m) hT.sz (by rw[hcv];rfl) (by grind) hb (by simp;omega);have hl:(vs.toArray.toList.take m++v.cells.toList++vs.toArray.toList.drop (m+1)).toArray=(vs.set m v).toArray:=by
  grind [List.set_eq_take_append_cons_drop]
 rw[hl]at hrun;refine Hk (w':=w.setRow b (vs.set m v).toArray) hg ?_<|k _<|ja gd hi hh ⟨λu hu=>?_,rfl⟩
 ·simp_all[execOp,Instr.storeAt,Instr.sureAddr,aO,aS,aR]
 grind
theorem H0{zs:Z bL}(hd:Nat.blt d n=true)(hw:Holds E w V)(hz:D1 P T zs)(h1:zs.all (·.oneCell')=true)(k:∀b w',Holds E w' (bc T b zs::V)->RL P n ops rest (cI U d<|.pointer<|some ⟨b,0,none⟩) w' Q)(hg:Wn ops U g:=by exact trivial):RL P n ops (⟨some d, .alloc T,ty,pos,af,g⟩::rest) U w Q:=by
 obtain⟨z,hz,hs⟩:=hz.z;refine BY (w':=w.alloc<|.cells z.cells T) hg hd ?_<|k w.heap.size _<|hw.alloc _ λ_ _ _=>⟨λv hv=>ik.1 h1 v hv,by rw[hs]⟩
 simp only[execOp,Instr.alloc,newVar,newRow,newObj,aO,aS,hz,aR];rfl
theorem G1{a:Addr}(hx:ev U q = .pointer (some a))(k:RL P n ops rest (cI U d<|.pointer<|some a) w Q)(hg:Wn ops U g:=by exact trivial)(hd:Nat.blt d n=true:=by exact rfl):RL P n ops (⟨some d, .nilCheck q,ty,pos,af,g⟩::rest) U w Q:=by
 refine BY hg hd ?_ k
 simp_all[execOp]
end
structure F5 where
 n:Int
 deriving DecidableEq,Inhabited
instance:Sc F5:=⟨λx=> .int .i32 x.n,λ_=>rfl⟩
def bs(s:aP):ByteArray:=⟨s.bK.toArray⟩
def it(g:Nat)(s:aP)(p:Nat):HP:=⟨λ_ h=>h=Gk.one g (.stringIter (bs s) p),λ_ h=>h⟩
def vu(places:Z (Nat×Nat)):Z bL->Z (Nat×bL)->aW (Z bL)
 |z,[]=>some z
 |z,(i,v)::rest=>match places[i]? with
  |some (o,1)=>if Nat.blt o z.length=true then vu places (z.set o v) rest else none
  |_=>none
def zQ:Z (Nat×bL)->Prop
 | []=>True
 |(_,v)::l=>v.oneCell'=true/\zQ l
theorem vv{places:Z (Nat×Nat)}:∀{vs:Z (Nat×bL)}{z cs:Z bL},zQ vs->vu places z vs=some cs->Instr.fill (places.toArray[·]?) z.toArray vs=some cs.toArray
 | [],z,cs,_,h=>by
  unfold vu at h;injection h with h;subst h;rfl
 |(i,v)::rest,z,cs,h1,h=>by
  unfold vu at h;unfold Instr.fill;have hc:v.cells = #[v]:=by have:=h1.1;cases v <;> first|rfl|(cases this)
  split at h
  ·rename_i o he;split at h
   ·rename_i hlt;have hlt':o<z.length:=Nat.blt_eq▸hlt;have hp:places.toArray[i]?=some (o,1):=by simpa using he
    simp only[hp,hc];rw[aL (by simp;omega)];have:=vv h1.2 h;simpa using this
   ·cases h
  ·cases h
section
variable {P:cR}{n:Nat}{U:Nat->bL}{w:bM}{Q:dg}{E:bM}{V:Z HP}{i j:Nat}
variable {ops:bQ cA}{rest:Z cA}{d:Nat}{ty T e:da}{pos:String}{af:bQ Edge}{g:aW (Nat×Bool)}{q r:bT}{b m:Nat}{vs cs zs:Z bL}
theorem Ig{parts:bQ (Nat×bT)}{places:Z (Nat×Nat)}(hg:Wn ops U g)(hd:Nat.blt d n=true)(vs:Z (Nat×bL))
  (hvs:parts.toList.map (λp=>(p.1,ev U p.2))=vs) (hT:sT P T places zs.toArray) (h1:zQ vs) (hf:vu places zs vs=some cs)
  (k:RL P n ops rest (cI U d<|.agg cs.toArray) w Q):RL P n ops (⟨some d, .build T parts,ty,pos,af,g⟩::rest) U w Q:=by
 have e1:parts.map (λ(i,x)=>(i,ev U x))=vs.toArray:=by grind
 refine BY (v:= .agg cs.toArray) hg hd ?_ k;simp only[execOp,aO];rw[e1,hT.run]
 grind [vv,aR,aS]
theorem Ih(i:Nat)(hg:Wn ops U g)(hw:Holds E w V)(hx:ev U q = .pointer (some ⟨b,0,none⟩))(hy:ev U r = .agg cs.toArray)(hi:V[i]? =some (bc e b vs))(h1:∀v∈cs,v.oneCell'=true)(hT:jP P T true m)(hl:vs.length=m)(hc:cs.length=m)(k:∀w',Holds E w' (V.set i<|bc e b cs)->RL P n ops rest U w' Q):RL P n ops (⟨none, .store T q r,ty,pos,af,g⟩::rest) U w Q:=by
 obtain⟨M,hs,gd⟩:=hw;obtain⟨_,hh⟩:=gd.sat i _ hi;have hb:=gd.le i b _ (bD hi) (by rw[hh];exact bG b _);have hrun:=ky (P:=P) (v:= .agg cs.toArray) (o:=0) hT.sz (by grind [Value.cells]) (by grind [Value.cells]) hb (by simp[hl]);have hd:List.drop m vs= []:=List.drop_eq_nil_of_le (by omega);simp only[ez,List.take_zero,List.nil_append,hd,fY,Array.toArray_toList,Value.cells]at hrun;refine Hk (w':=w.setRow b cs.toArray) hg ?_<|k _<|ja gd hi hh ⟨h1,rfl⟩
 simp_all[execOp,Instr.storeAt,Instr.sureAddr,aO,aS,aR]
def sW:Z bL->Prop
 | []=>True
 |v::l=>v.oneCell'=true/\sW l
theorem sW.all:∀{l:Z bL},sW l->∀v∈l,v.oneCell'=true
 |v::l,h,u,hu=>by
  rcases fB.1 hu with h'|h'
  ·subst h';exact h.1
  ·exact sW.all h.2 u h'
end
theorem ng{P:cR}{t u ty e:da}{w:bM}(i:TypeInfo)(z:bL)(ht:P.underlying t=some (.slice e))(hu:P.underlying u=some (.int .i64))(hi:P.info? e=some i)(hz:i.zero=some z)
  (n:Nat) (h0:0<n) (h63:(n:Int)<=140737488355328) (h48:n*i.bytes<=140737488355328) (hsz:0<i.size):
  (Builtin.append_ #[t,u] ty #[.slice none 0 0, .int .i64 (n:Int)]).run P w =
   .ok (.slice (some ⟨w.heap.size,0,none⟩) n<|grownCap w n 0 e) (w.drew.alloc<|.cells (Builtin.zeroCells z.cells n++Builtin.zeroCells z.cells (grownCap w n 0 e - n)) e):=by
 have hn:n≠0:=by omega
 have h63':¬(9223372036854775807<(n:Int)):=by omega
 have h48':¬(281474976710656<Builtin.nextslicecap n 0*i.bytes):=by grind [nextslicecap_zero]
 have hw:IntKind.i64.wrap (n:Int)=(n:Int):=dF (by omega) (by omega);have hneg:¬((n:Int)<0):=by omega
 have hbig:¬(281474976710656<(n:Int)*(i.bytes:Int)):=by
  omega
 have hs:¬(n=0\/i.size=0):=by omega
 simp[Builtin.append_,run_underlying ht,run_underlying hu,sizeOf,typeInfo,zeroValue,hi,hz,asInt,asIntOf,hw,hneg,hbig,hn,h63',h48',hs,Question.forced,run_firstCells_none,newRow,grownCap];have hp:=Nat.mul_pos h0 hsz;omega
def zS{α:Type}(bytes:Nat)(z:α)(n:Int):aW (Z α):=if 0<n/\n*bytes<=140737488355328 then some (List.replicate n.toNat z)else none
section
variable {α:Type}[GT α]{P:cR}{n:Nat}{U:Nat->bL}{w:bM}{Q:dg}{E:bM}{V:Z HP}{i j:Nat}
variable {ops:bQ cA}{rest:Z cA}{d:Nat}{ty T t u e:da}{pos:String}{af:bQ Edge}{g:aW (Nat×Bool)}{v:bL}{q r:bT}{l l':Z α}{z0:α}{bytes:Nat}{k:Int}
theorem IM(hg:Wn ops U g)(hd:Nat.blt d n=true)(hw:Holds E w V)(hx:ev U q = .slice none 0 0)(hy:ev U r = .int .i64 k)(hT:qa P t e (GT.sz α) bytes)(hu:P.underlying u=some (.int .i64))
  (hz0:wO P e z0)
  (hb:Gk.zS bytes z0 k=some l') (kk:∀v w',Holds E w' (own e v l'::V)->RL P n ops rest (cI U d v) w' Q):RL P n ops (⟨some d, .call ⟨.builtin .append,#[q,r],#[t,u]⟩,ty,pos,af,g⟩::rest) U w Q:=by
 obtain⟨inf,z,hi,hz,hsz,hby,hzs⟩:=hT.inf;unfold Gk.zS at hb;split at hb
 case isFalse=>cases hb
 rename_i hc;injection hb with hb
 subst hb;obtain⟨m,rfl⟩:=Int.eq_ofNat_of_zero_le<|Int.le_of_lt hc.1
 rw[el]at kk;have h0:0<m:=by omega
 have h1:m*bytes<=140737488355328:=by omega
 have h2:m<=140737488355328:=jk (Nat.le_mul_of_pos_right _ hT.pos) h1;have hszp:0<inf.size:=by grind [GT.pos]
 have hr:=ng (P:=P) (t:=t) (u:=u) (ty:=ty) (e:=e) (w:=w) inf z hT.pf hu hi hz m h0 (by omega) (by grind) hszp;have hge:=grownCap_ge w m 0 e;have hcm:grownCap w m 0 e<=maxLen:=grownCap_le_maxLen w m 0 e (by grind [maxLen]);refine BY (v:= .slice (some ⟨w.heap.size,0,none⟩) m<|grownCap w m 0 e) (w':=w.drew.alloc<|.cells (Builtin.zeroCells z.cells m++Builtin.zeroCells z.cells (grownCap w m 0 e - m)) e) hg hd ?_<|kk _ _<|hw.drew.alloc _ λM hs gd=> .inr ⟨w.heap.size,0,grownCap w m 0 e,Builtin.zeroCells z.cells m++Builtin.zeroCells z.cells (grownCap w m 0 e - m),_,by rw[mh],by grind,hcm,rfl,?_,rfl,?_⟩
 ·grind [execOp,resolve,invoke,builtin,aO,aS,aR]
 ·simp only[Array.size_append,size_zeroCells,hzs,ez,<-Nat.add_mul]
  grind
 ·have hok:=hz0 M z (by grind);have hml:(Builtin.zeroCells z.cells m).toList.length=m*GT.sz α:=by grind [Array.length_toList,size_zeroCells]
  have hdt:((Builtin.zeroCells z.cells m++Builtin.zeroCells z.cells (grownCap w m 0 e - m)).toList.drop 0).take ((List.replicate m z0).length*GT.sz α)=(Builtin.zeroCells z.cells m).toList:=by
   grind
  rw[hdt];refine⟨by rw[hml,mh],λa x hx=>?_⟩;rw[List.getElem?_replicate]at hx;split at hx
  ·rename_i ha;injection hx with hx
   subst hx;have hms:=kL (sz:=GT.sz α) ha;have:(List.drop (a*GT.sz α) (Builtin.zeroCells z.cells m).toList).take (GT.sz α)=z.cells.toList:=by
    apply List.ext_getElem?;intro t;have hzl:z.cells.toList.length=GT.sz α:=by omega
    simp only[dV,fW]
    by_cases ht:t<GT.sz α
    ·have hlt:a*GT.sz α+t<(Builtin.zeroCells z.cells m).size:=by rw[size_zeroCells,hzs];omega
     rw[aK ht,Array.getElem?_toList,di hlt,aN (show t<z.cells.toList.length by omega)];simp only[Builtin.zeroCells,Array.getElem_map,Array.getElem_range,hzs];have hmod:(a*GT.sz α+t) % GT.sz α=t:=by rw[Nat.mul_comm,Nat.mul_add_mod,Nat.mod_eq_of_lt ht]
     rw[hmod];rw[getElem!_pos z.cells t (by omega)];simp
    ·rw[aL ht,List.getElem?_eq_none (by omega)]
   rw[this];exact hok
  ·cases hx
theorem Ii(hg:Wn ops U g)(hd:Nat.blt d n=true)(hx:ev U q = .slice none 0 0)(ht:P.underlying t=some (.slice e))
  (k:RL P n ops rest (cI U d<|.int .i64 (0:Nat)) w Q):RL P n ops (⟨some d, .call ⟨.builtin .cap,#[q],#[t]⟩,ty,pos,af,g⟩::rest) U w Q:=by
 refine BY hg hd ?_ k;simp[execOp,resolve,hx,invoke,builtin,Builtin.cap_,run_underlying ht,goInt]
theorem IN(α:Type)[GT α]{lop hip:aW bT}{lo hi:Int}(hg:Wn ops U g)(hd:Nat.blt d n=true)(hx:ev U q = .slice none 0 0)(hT:qc P T e (GT.sz α))
  (hl:lop.map (ev U)=some (.int .i64 lo)\/(lop.map (ev U)=none/\lo=0)) (hh:hip.map (ev U)=some (.int .i64 hi)\/(hip.map (ev U)=none/\hi=(0:Nat)))
  (h0:lo=0) (h1:hi=0) (k:RL P n ops rest (cI U d<|.slice none 0 0) w Q):
  RL P n ops (⟨some d, .slice T q lop hip none,ty,pos,af,g⟩::rest) U w Q:=by
 subst h0;subst h1;refine BY hg hd ?_ k;have:=nW (P:=P) (α:=α) (m:=0) (cap:=0) (a:=none) hT hl hh (Int.le_refl _) (Int.le_refl _) (Int.le_refl _) (aX _) w
 grind [execOp,aO,aR,aS]
def zU(v:bL):Bool:=match v with| .slice none _ _=>true|_=>false
theorem wX{d:Nat}(hu:P.underlying T=some (.slice e))(a:aW Addr)(m c:Nat)(w:bM):(Op.equalIn (d+1) T (.slice a m c)<|.slice none 0 0).run P w = .ok (zU<|.slice a m c) w:=by
 unfold Op.equalIn;rw[aO,run_underlying hu,aR]
 cases a <;> rfl
theorem Ij{T':da}(i:Nat)(hg:Wn ops U g)(hd:Nat.blt d n=true)(hw:Holds E w V)(hx:ev U q=v)(hy:ev U r = .slice none 0 0)(hi:V[i]? =some (rd v l))(hT:P.underlying T=some (.slice e))(k:RL P n ops rest (cI U d<|.bool<|zU v) w Q):RL P n ops (⟨some d, .binOp .eql T q r T',ty,pos,af,g⟩::rest) U w Q:=by
 obtain⟨a,cap,rfl⟩:=hw.slice hi;refine Hc (hg:=hg) (he:=λ_=>by rfl) (hr:=λw=>?_) _ _ _ hd hx hy k
 grind [wX,binOp,aO,Op.equal,Op.maxDepth,aR,aS]
theorem Holds.C8(hw:Holds E w V)(hi:V[i]? =some (rd v l))(hn:zU v=true):l= []:=by
 obtain⟨M,hs,gd⟩:=hw;obtain⟨a,m,cap,hv,hm,hc,hx,hel⟩:=hU.1 (gd.sat i _ hi).1;subst hv
 cases a with
 |some a=>cases hn
 |none=>
  cases l with
  |nil=>rfl
  |cons y l=>
   obtain⟨ad,cs,ha,_⟩:=hel 0 y rfl
   cases ha
end
section
variable {P:cR}{n:Nat}{U:Nat->bL}{w:bM}{Q:dg}{E:bM}{V:Z HP}{i j:Nat}
variable {ops:bQ cA}{rest:Z cA}{d:Nat}{ty T T' t u e:da}{pos:String}{af:bQ Edge}{g:aW (Nat×Bool)}{v:bL}{q r:bT}{K:IntKind}{a b:Int}
def vw(v:bL)(lo sz:Nat):bL:=match v with| .slice a m cap=> .slice (if cap=lo then a else a.map (·.add (lo*sz))) (m - lo) (cap - lo)|_=>undef
def qf{α:Type}(l:Z α)(lo j:Int):aW α:=if 0<=j then idx l (lo+j)else none
theorem cJ{α:Type}{l:Z α}{lo j:Int}{x:α}(h:qf l lo j=some x):0<=j/\idx l (lo+j)=some x:=by
 grind [qf]
variable {α:Type}[GT α]{l:Z α}{lo hi:Int}{x z0:α}{bytes:Nat}
theorem HL{lop:aW bT}{l':Z α}(i:Nat)(lo:Int)(hd:Nat.blt d n=true)(hw:Holds E w V)(hx:ev U q=v)(hi':V[i]? =some (own e v l))(hT:qc P T e (GT.sz α))(hb:qP l lo (l.length:Nat)=some l')(k:RL P n ops rest (cI U d<|vw v lo.toNat<|GT.sz α) w Q)(hg:Wn ops U g:=by exact trivial)(hl:lop.map (ev U)=some (.int .i64 lo)\/(lop.map (ev U)=none/\lo=0):=by exact(.inl rfl)):RL P n ops (⟨some d, .slice T q lop none none,ty,pos,af,g⟩::rest) U w Q:=by
 unfold qP at hb;split at hb
 case isFalse=>cases hb
 rename_i hc;obtain⟨a,cap,rfl⟩:=hw.il hi';obtain⟨M,hs,gd⟩:=hw;have hcap:l.length<=cap:=by
  rcases gd.sat i _ hi' with⟨h1,h2,_⟩|⟨b,o,c,cur,xs,hv,h2,_⟩
  ·grind
  grind
 refine BY hg hd ?_ k;have:=nW (P:=P) (α:=α) (a:=a) (m:=l.length) (cap:=cap) (hiv:=none) hT hl (.inr ⟨rfl,rfl⟩) hc.1 hc.2.1 (by omega) hcap w;simp only[execOp,hx,aO,Option.map_none,this,aR,aS];rfl
theorem Ik{lo:Nat}{T:da}(i:Nat)(l:Z α)(hg:Wn ops U g)(hd:Nat.blt d n=true)(hw:Holds E w V)(hx:ev U q=vw v lo (GT.sz α))(hi:V[i]? =some (own e v l))(ht:P.underlying t=some (.slice T))(k:RL P n ops rest (cI U d<|.int .i64<|(l.length - lo:Nat)) w Q):RL P n ops (⟨some d, .call ⟨.builtin .len,#[q],#[t]⟩,ty,pos,af,g⟩::rest) U w Q:=by
 obtain⟨a,cap,rfl⟩:=hw.il hi;exact HA hg hd hx ht k
theorem Hu{jj:Int}(i:Nat)(lo:Int)(hw:Holds E w V)(hx:ev U q=vw v lo.toNat (GT.sz α))(hi:V[i]? =some (own e v l))(hT:qc P T e (GT.sz α))(h0:0<=lo)(hj0:0<=jj)(hj:idx l (lo+jj)=some x)(kk:RL P n ops rest (cI U d<|xG v (lo+jj).toNat (GT.sz α) 0) w Q)(hg:Wn ops U g:=by exact trivial)(hd:Nat.blt d n=true:=by exact rfl)(hy:ev U r = .int K jj:=by exact rfl):
  RL P n ops (⟨some d, .indexAddr T q r,ty,pos,af,g⟩::rest) U w Q:=by
 obtain⟨_,hx',hlt⟩:=dY hj;obtain⟨M,hs,gd⟩:=hw
 rcases gd.sat i _ hi with⟨rfl,rfl,_⟩|⟨b,o,cap,cur,xs,rfl,h2,_⟩
 ·simp at hlt
 ·have hne:cap≠lo.toNat:=by omega
  simp only[vw,aL hne,Option.map_some]at hx;have e1:xG (.slice (some ⟨b,o,none⟩) l.length cap) (lo+jj).toNat (GT.sz α) 0 = .pointer (some<|((⟨b,o,none⟩:Addr).add<|lo.toNat*GT.sz α).add<|jj.toNat*GT.sz α):=by
   have:(lo+jj).toNat=lo.toNat+jj.toNat:=by omega
   grind [xG,add_add,Nat.add_mul]
  rw[e1]at kk;refine BY hg hd ?_ kk;have hlt':jj<((l.length - lo.toNat:Nat):Int):=by omega
  simp only[execOp,hx,hy,Instr.indexAt,asIntOf,aO,aS,aR,run_underlying hT.pf,hT.sz,hj0,hlt',and_self,if_true]
theorem Il{op:Op}{w':bM}{u:bL}(hg:Wn ops U g)(hrun:(execOp (ev U) ⟨none,op,ty,pos,af,g⟩).run P w = .ok (.value u) w')
  (k:RL P n ops rest U w' Q):RL P n ops (⟨none,op,ty,pos,af,g⟩::rest) U w Q:=by
 intro a ha;unfold wpList;rw[aK<|Wn.wanted (o:=⟨none,op,ty,pos,af,g⟩) hg ha];refine .inl ?_;unfold Oper.wp;rw[ha.ev,hrun];exact k _<|ha.rH _
theorem Im{lo:Nat}(i:Nat)(hg:Wn ops U g)(hw:Holds E w V)(hx:ev U q=vw v lo (GT.sz α))(hi:V[i]? =some (own e v l))(hT:qa P t e (GT.sz α) bytes)(hz0:wO P e z0)(hle:lo<=l.length)(kk:∀w',Holds E w' (V.set i<|own e v<|l.take lo++List.replicate (l.length - lo) z0)->RL P n ops rest U w' Q):
  RL P n ops (⟨none, .call ⟨.builtin .clear,#[q],#[t]⟩,ty,pos,af,g⟩::rest) U w Q:=by
 by_cases hem:l.length=lo
 ·have e1:l.take lo++List.replicate (l.length - lo) z0=l:=by rw[<-hem,ee,Nat.sub_self];simp
  rw[e1,m9 hi]at kk;obtain⟨a,cap,rfl⟩:=hw.il hi;refine Il (u:= .tuple #[]) hg ?_<|kk w hw
  have hv:vw (.slice a l.length cap) lo (GT.sz α) = .slice (if cap=lo then a else a.map (·.add (lo*GT.sz α))) 0 (cap - lo):=by simp only[vw,hem,Nat.sub_self]
  rw[hv]at hx;generalize (if cap=lo then a else a.map (·.add (lo*GT.sz α)))=a' at hx
  cases a' <;> simp[execOp,resolve,invoke,builtin,Builtin.clear_,hx,run_underlying hT.pf]
 obtain⟨inf,z,hinf,hz,hsz,hby,hzs⟩:=hT.inf;obtain⟨M,hs,gd⟩:=hw
 rcases gd.sat i _ hi with⟨_,rfl,_⟩|⟨b,o,cap,cur,xs,rfl,h2,h3,h4,h5,h6,h7⟩
 ·grind
 have hne:cap≠lo:=by omega
 obtain⟨m,hm⟩:∃m,l.length=lo+(m+1):=⟨l.length - lo - 1,by omega⟩;have hv:vw (.slice (some ⟨b,o,none⟩) l.length cap) lo (GT.sz α) = .slice (some ⟨b,o+lo*GT.sz α,none⟩) (m+1) (cap - lo):=by
  simp only[vw,aL hne,Option.map_some,Addr.add_lit,hm,Nat.add_sub_cancel_left]
 rw[hv]at hx;have hb:=gd.le i b _ (bD hi) (by rw[h4];exact bG b _);have hcap:l.length*GT.sz α<=cap*GT.sz α:=Nat.mul_le_mul_right _ h2;have hcs:o+cap*GT.sz α<=cur.toList.length:=h5;generalize hzl:(Builtin.zeroCells z.cells<|m+1).toList=zl;have hzn:zl.length=(m+1)*GT.sz α:=by rw[<-hzl,Array.length_toList,size_zeroCells,hzs]
 have hlm:l.length*GT.sz α=lo*GT.sz α+(m+1)*GT.sz α:=by rw[hm,Nat.add_mul]
 have hok:∀M',GT.ok M' z.cells.toList z0:=λM'=>hz0 M' z (by rw[hinf];exact hz);have hzg:∀a t,a<m+1->t<GT.sz α->zl[a*GT.sz α+t]? =z.cells.toList[t]? :=λa t ha ht=>by
  have hms:=kL (sz:=GT.sz α) ha;have hlt:a*GT.sz α+t<(Builtin.zeroCells z.cells<|m+1).size:=by rw[size_zeroCells,hzs];omega
  have hzl2:z.cells.toList.length=GT.sz α:=by rw[Array.length_toList];exact hzs
  rw[<-hzl,Array.getElem?_toList,di hlt,aN (show t<z.cells.toList.length by omega)];simp only[Builtin.zeroCells,Array.getElem_map,Array.getElem_range,hzs];have hmod:(a*GT.sz α+t) % GT.sz α=t:=by rw[Nat.mul_comm,Nat.mul_add_mod,Nat.mod_eq_of_lt ht]
  rw[hmod,getElem!_pos z.cells t (by omega)];simp
 have hfit:o+lo*GT.sz α+zl.length<=cur.toList.length:=by omega
 have h1z:∀u∈zl,u.oneCell'=true:=λu hu=>by
  obtain⟨k,hk⟩:=fZ hu;have hkl:=(bF.1 hk).1;have hp:0<GT.sz α:=GT.pos;have hkd:k / GT.sz α<m+1:=Nat.div_lt_of_lt_mul (by rw[Nat.mul_comm];omega);have:=hzg (k / GT.sz α) (k % GT.sz α) hkd<|Nat.mod_lt _ hp
  rw[Nat.mul_comm,Nat.div_add_mod,hk]at this;exact GT.one (hok M) u<|dJ this.symm
 have hst:=run_storeCells_at P b (o+lo*GT.sz α) e zl 0 cur w hb (by simpa[hzn]using hfit) h1z;simp only[Nat.add_zero]at hst;have hnew:cur.toList.take (o+lo*GT.sz α)++zl++cur.toList.drop (o+lo*GT.sz α+zl.length)=vo (o+lo*GT.sz α) zl cur.toList:=rfl;rw[hnew]at hst;have hget:∀t,xs[t]? =if t<l.length*GT.sz α then cur.toList[o+t]? else none:=λt=>by rw[<-h6,dV,fW]
 have hln:(l.take lo++List.replicate (l.length - lo) z0).length=l.length:=by rw[dh,bX,mh];omega
 refine Il (u:= .tuple #[]) hg ?_ (kk _ (ja (P':=own e (.slice (some ⟨b,o,none⟩) l.length cap) (l.take lo++List.replicate (l.length - lo) z0)) (new:=(vo (o+lo*GT.sz α) zl cur.toList).toArray) gd hi h4
  (.inr ⟨b,o,cap,_,((vo (o+lo*GT.sz α) zl cur.toList).drop o).take (l.length*GT.sz α),by rw[hln],by rw[hln];exact h2,h3,rfl,?_,by rw[hln],?_⟩)))
 ·have hzv:∀w,(zeroValue e).run P w = .ok z w:=λw=>by simp[zeroValue,typeInfo,aO,hinf,hz]
  simp[execOp,resolve,invoke,builtin,Builtin.clear_,hx,run_underlying hT.pf,hzv,hzl,hst]
 ·rw[List.size_toArray,oL hfit];exact hcs
 ·refine⟨by rw[bX,fO,oL hfit,hln];omega,λa y hy=>?_⟩;have sU:a<l.length:=by rw[<-hln];exact(bF.1 hy).1
  have has:=kL (sz:=GT.sz α) sU
  by_cases hlt:a<lo
  ·rw[gR (by rw[bX];omega),dV,aK hlt]at hy;have hok':=h7.2 a y hy;have has2:=kL (sz:=GT.sz α) hlt;have heq:(List.drop (a*GT.sz α)<|((vo (o+lo*GT.sz α) zl cur.toList).drop o).take<|l.length*GT.sz α).take (GT.sz α)=(List.drop (a*GT.sz α) xs).take (GT.sz α):=by
    apply List.ext_getElem?;intro t;simp only[dV,fW,px hfit,hget]
    by_cases ht:t<GT.sz α
    ·rw[aK ht,aK ht,aK (by omega),aK (by omega),aK (by omega)]
    ·rw[aL ht,aL ht]
   rw[heq];exact hok'
  ·rw[gS (by rw[bX];omega),List.getElem?_replicate]at hy;split at hy
   case isFalse=>cases hy
   injection hy with hy
   subst hy;obtain⟨a',rfl⟩:∃a',a=lo+a':=⟨a - lo,by omega⟩;have ha':a'<m+1:=by omega
   have hms:=kL (sz:=GT.sz α) ha';have heq:(List.drop ((lo+a')*GT.sz α)<|((vo (o+lo*GT.sz α) zl cur.toList).drop o).take<|l.length*GT.sz α).take (GT.sz α)=z.cells.toList:=by
    apply List.ext_getElem?;intro t;have hzl2:z.cells.toList.length=GT.sz α:=by rw[Array.length_toList];exact hzs
    simp only[dV,fW,px hfit];rw[Nat.add_mul]at has ⊢
    by_cases ht:t<GT.sz α
    ·rw[aK ht,aK (by omega),aL (by omega),aK (by omega),<-hzg a' t ha' ht];congr 1;omega
    ·rw[aL ht,List.getElem?_eq_none (by omega)]
   rw[heq];exact hok M
theorem zW{α:Type}{l l':Z α}{lo:Int}(h:qP l lo (l.length:Nat)=some l'):lo.toNat<=l.length:=by
 grind [qP]
theorem qg{α:Type}{l l':Z α}{lo hi:Int}(h:qP l lo hi=some l'):0<=lo:=by
 grind [qP]
end
def lO(D:Nat->Bool)(U:Nat->bL):Z (Nat×Nat×bL)->Prop
 | []=>True
 |(j,d,v)::r=>(D j=false->U d=v)/\lO D U r
theorem lO.at{D:Nat->Bool}{U:Nat->bL}:∀{dv:Z (Nat×Nat×bL)}(_:lO D U dv)(k:Nat){j d:Nat}{v:bL}(_:dv[k]? =some (j,d,v)),D j=false->U d=v
 | [],_,k,_,_,_,h=>by simp at h
 |(j,d,v)::r,h,0,j',d',v',e=>by simp at e;obtain⟨rfl,rfl,rfl⟩:=e;exact h.1
 |(j,d,v)::r,h,k+1,j',d',v',e=>lO.at h.2 k (by simpa using e)
theorem tm{D:Nat->Bool}{i k:Nat}(h:ins D i k=false):D k=false/\Nat.beq k i=false:=by
 grind [ins,Nat.beq]
theorem lO.no{D:Nat->Bool}{U:Nat->bL}{j:Nat}:∀{dv:Z (Nat×Nat×bL)}(_:lO D U dv),lO (ins D j) U dv
 | [],_=>trivial
 |(i,d,v)::r,h=>⟨λhi=>h.1 (tm hi).1,lO.no h.2⟩
theorem lO.up{D:Nat->Bool}{U:Nat->bL}{j d:Nat}{v:bL}:∀{dv:Z (Nat×Nat×bL)}(_:lO D U dv)(_:(dv.all λx=>Nat.beq x.1 j|| !Nat.beq x.2.1 d)=true),lO (ins D j) (cI U d v) dv
 | [],_,_=>trivial
 |(i,d',v')::r,h,ha=>by
  simp only[List.all_cons,bY,dK,Bool.not_eq_true']at ha;refine⟨λhi=>?_,lO.up h.2 ha.2⟩;obtain⟨h1,h2⟩:=tm hi
  rcases ha.1 with e|e
  ·rw[e]at h2;cases h2
  ·unfold cI;rw[e];exact h.1 h1
section
variable {E w:bM}{M:bZ}{hs:Nat->bZ}{V:Z HP}{P P1 P2:HP}{j:Nat}{h1 h2:bZ}
theorem Good.split(g:Good E w M hs V)(hj:j<V.length)(hl1:∀b o,h1 b=some o->hs j b=some o)(hl2:∀b o,h2 b=some o->hs j b=some o)
  (hd:∀b o,h1 b=some o->h2 b=none) (hp1:P1.ok M h1) (hp2:P2.ok M h2):Good E w M (ve h1<|jE hs j h2) (P1::V.set j P2):=by
 have g2:Good E w M (jE hs j h2) (V.set j P2):=by
  have:=g.update (w':=w) (P':=P2) hj h2 hp2 rfl rfl rfl (λb o hb=>g.le j b o hj<|hl2 b o hb) (λb o hb=> .inl ⟨o,hl2 b o hb⟩)<|λb _ _=>rfl
  exact this
 refine g2.cons h1 hp1 (λb o hb=>g.le j b o hj<|hl1 b o hb) (λb o hb=>g.dm j b o hj<|hl1 b o hb)<|λi b o hi hb=>?_
 rw[fg]at hi;unfold jE;split
 ·grind
 ·rename_i hne;exact g.dj j i b o hj hi (λh=>hne h.symm)<|hl1 b o hb
theorem Good.join(g:Good E w M hs (P1::V))(hj:j<V.length)(hp:P.ok M (kK (hs 0)<|hs<|j+1)):
  Good E w M (jE (λi=>hs<|i+1) j<|kK (hs 0)<|hs<|j+1) (V.set j P):=by
 have hj1:j+1<(P1::V).length:=by grind
 have ho:∀b o,kK (hs 0) (hs<|j+1) b=some o->hs 0 b=some o\/hs (j+1) b=some o:=λb o hb=>by
  grind [kK]
 have h0:0<(P1::V).length:=by simp
 refine⟨g.os,g.tape,g.out,g.dr,g.im,λi Q hq=>?_,λi b o hi hb=>?_,λi b o hi hb=>?_,λi k b o hi hk hne hb=>?_⟩
 ·rw[ff]at hq;unfold jE
  by_cases e:j=i
  ·grind
  ·rw[aL e]at hq;rw[aL<|λh=>e h.symm];exact g.sat (i+1) Q (by grind)
 ·rw[fg]at hi;unfold jE at hb;split at hb
  ·rcases ho b o hb with h|h
   ·exact g.le 0 b o h0 h
   ·exact g.le (j+1) b o hj1 h
  ·exact g.le (i+1) b o (by grind) hb
 ·rw[fg]at hi;unfold jE at hb;split at hb
  ·rcases ho b o hb with h|h
   ·exact g.dm 0 b o h0 h
   ·exact g.dm (j+1) b o hj1 h
  ·exact g.dm (i+1) b o (by grind) hb
 ·rw[fg]at hi hk;have hi1:i+1<(P1::V).length:=by grind
  have hk1:k+1<(P1::V).length:=by grind
  unfold jE at hb ⊢;split at hb
  ·rename_i e;rw[aL<|λh=>hne<|e.trans h.symm]
   rcases ho b o hb with h|h
   ·exact g.dj 0 (k+1) b o h0 hk1 (by omega) h
   ·exact g.dj (j+1) (k+1) b o hj1 hk1 (by omega) h
  ·split
   ·rename_i e1 e2;have a1:=g.dj (i+1) 0 b o hi1 h0 (by omega) hb;have a2:=g.dj (i+1) (j+1) b o hi1 hj1 (by omega) hb
    grind [kK]
   ·exact g.dj (i+1) (k+1) b o hi1 hk1 (by omega) hb
end
structure RV where
 v:bL
 one:v.oneCell'=true
instance:Sc RV:=⟨RV.v,RV.one⟩
structure XT (ρ α:Type)where
 rest:ρ->α->Prop
 ok:bZ->bZ->ρ->α->Prop
 mono:∀{M M' h:bZ}{u:ρ}{x:α},hle M M'->ok M h u x->ok M' h u x
 res:∀{M h:bZ}{u:ρ}{x:α},ok M h u x->rest u x
def g8{ρ α:Type}(X:XT ρ α)(us:Z ρ)(xs:Z α)(k:aW Nat):HP:=
 ⟨λM h=>us.length=xs.length/\(∀(i:Nat)u x,us[i]? =some u->xs[i]? =some x->X.rest u x)/\∃c:Nat->Nat,(∀b o,h b=some o->c b<us.length/\k≠some (c b))/\
  ∀i u x,k≠some i->us[i]? =some u->xs[i]? =some x->X.ok M (λb=>if c b=i then h b else none) u x,
  λhk⟨h1,h0,c,h2,h3⟩=>⟨h1,h0,c,h2,λi u x hi hu hx=>X.mono hk (h3 i u x hi hu hx)⟩⟩
def B7{ρ α:Type}(X:XT ρ α)(u:ρ)(x:α):HP:=⟨λM h=>X.ok M h u x,λhk h=>X.mono hk h⟩
section
variable {ρ α:Type}{X:XT ρ α}{us:Z ρ}{xs:Z α}{E w:bM}{V:Z HP}{j i:Nat}{u u':ρ}{x x':α}
theorem Holds.fh(j:Nat)(h:Holds E w V){k:aW Nat}(hj:V[j]? =some (g8 X us xs k)):us.length=xs.length:=by
 obtain⟨M,hs,g⟩:=h;exact(g.sat j _ hj).1
theorem Holds.focus(h:Holds E w V)(hj:V[j]? =some (g8 X us xs none))(hu:us[i]? =some u)(hx:xs[i]? =some x):Holds E w (B7 X u x::V.set j (g8 X us xs<|some i)):=by
 obtain⟨M,hs,g⟩:=h;obtain⟨hl,hr,c,hc,hok⟩:=g.sat j _ hj;refine⟨M,_,g.split (bD hj) (h1:=λb=>if c b=i then hs j b else none) (h2:=λb=>if c b=i then none else hs j b) (λb o hb=>?_) (λb o hb=>?_) (λb o hb=>?_) ?_ ?_⟩
 ·grind
 ·grind
 ·grind
 ·exact hok i u x (by simp) hu hx
 ·refine⟨hl,hr,c,λb o hb=>?_,λa u2 x2 ha hu2 hx2=>?_⟩
  ·grind
  grind
theorem Holds.xM(h:Holds E w (B7 X u' x'::V))(hj:V[j]? =some (g8 X us xs<|some i))(hi:i<us.length):Holds E w (V.set j<|g8 X (us.set i u') (xs.set i x') none):=by
 obtain⟨M,hs,g⟩:=h;have hlt:=bD hj;obtain⟨hl,hr,c,hc,hok⟩:=g.sat (j+1) _ (by simpa using hj);have h0:X.ok M (hs 0) u' x':=g.sat 0 _ rfl;have hdj:∀b o,hs 0 b=some o->hs (j+1) b=none:=λb o hb=>g.dj 0 (j+1) b o (by simp) (by grind) (by omega) hb;have hrr:∀(a:Nat)u2 x2,(us.set i u')[a]? =some u2->(xs.set i x')[a]? =some x2->X.rest u2 x2:=λa u2 x2 hu2 hx2=>by
  rw[ff]at hu2 hx2
  by_cases ha:i=a
  ·subst ha;rw[aK rfl,aK hi]at hu2;rw[aK rfl,aK (by omega)]at hx2;injection hu2 with hu2;injection hx2 with hx2
   subst hu2;subst hx2;exact X.res h0
  grind
 refine⟨M,_,g.join hlt ⟨by simp[hl],hrr,λb=>if(hs 0 b).isSome=true then i else c b,λb o hb=>?_,λa u2 x2 _ hu2 hx2=>?_⟩⟩
 ·grind [fg,kK]
 ·rw[ff]at hu2 hx2
  by_cases ha:i=a
  ·subst ha;rw[aK rfl,aK hi]at hu2;rw[aK rfl,aK (by rw[<-hl];exact hi)]at hx2;injection hu2 with hu2;injection hx2 with hx2
   subst hu2;subst hx2;have e:(λb=>if(if(hs 0 b).isSome=true then i else c b)=i then kK (hs 0) (hs<|j+1) b else none)=hs 0:=by
    funext b
    cases hb:hs 0 b with
    |some o=>simp[kK,hb]
    |none=>
     simp only[Option.isSome_none,Bool.false_eq_true,if_false];split
     ·rename_i hci;unfold kK;rw[hb]
      cases hq:hs (j+1) b with
      |none=>rfl
      |some o=>exact absurd (by rw[hci]) (hc b o hq).2
     ·rfl
   rw[e];exact h0
  ·rw[aL ha]at hu2 hx2;have:=hok a u2 x2 (λe=>ha (by injection e)) hu2 hx2;have e:(λb=>if c b=a then hs (j+1) b else none)=(λb=>if(if(hs 0 b).isSome=true then i else c b)=a then kK (hs 0) (hs<|j+1) b else none):=by
    funext b
    cases hb:hs 0 b with
    |some o=>simp[kK,hb,ha,hdj b o hb]
    |none=>simp[kK,hb]
   rw[<-e];exact this
theorem Holds.zX(h:Holds E w (B7 X u' x'::V))(hj:V[j]? =some (g8 X us xs none)):Holds E w (V.set j<|g8 X (us++[u']) (xs++[x']) none):=by
 obtain⟨M,hs,g⟩:=h;have hlt:=bD hj;obtain⟨hl,hr,c,hc,hok⟩:=g.sat (j+1) _ (by simpa using hj);have h0:X.ok M (hs 0) u' x':=g.sat 0 _ rfl;have hdj:∀b o,hs 0 b=some o->hs (j+1) b=none:=λb o hb=>g.dj 0 (j+1) b o (by simp) (by grind) (by omega) hb;have hrr:∀(a:Nat)u2 x2,(us++[u'])[a]? =some u2->(xs++[x'])[a]? =some x2->X.rest u2 x2:=λa u2 x2 hu2 hx2=>by
  by_cases ha:a<us.length
  ·grind
  ·have hae:a=us.length:=by
    grind
   subst hae;rw[gS<|aX _,Nat.sub_self]at hu2;rw[hl,gS<|aX _,Nat.sub_self]at hx2;simp at hu2 hx2;subst hu2;subst hx2;exact X.res h0
 refine⟨M,_,g.join hlt ⟨by simp[hl],hrr,λb=>if(hs 0 b).isSome=true then us.length else c b,λb o hb=>?_,λa u2 x2 _ hu2 hx2=>?_⟩⟩
 ·refine⟨?_,by simp⟩;rw[dh];dsimp only;split
  ·simp
  ·rename_i hn;have:hs 0 b=none:=by simpa using hn
   unfold kK at hb;rw[this]at hb;have:=(hc b o hb).1;simp;omega
 ·by_cases ha:a<us.length
  ·rw[gR ha]at hu2;rw[gR (by omega)]at hx2;have:=hok a u2 x2 (by simp) hu2 hx2;have e:(λb=>if c b=a then hs (j+1) b else none)=(λb=>if(if(hs 0 b).isSome=true then us.length else c b)=a then kK (hs 0) (hs<|j+1) b else none):=by
    funext b
    cases hb:hs 0 b with
    |some o=>simp[kK,hb,hdj b o hb];omega
    |none=>simp[kK,hb]
   rw[<-e];exact this
  ·have hae:a=us.length:=by
    have:=(bF.1 hu2).1;simp at this;omega
   subst hae;rw[gS<|aX _,Nat.sub_self]at hu2;rw[hl,gS<|aX _,Nat.sub_self]at hx2;simp at hu2 hx2;subst hu2;subst hx2;have e:(λb=>if(if(hs 0 b).isSome=true then us.length else c b)=us.length then kK (hs 0) (hs<|j+1) b else none)=hs 0:=by
    funext b
    cases hb:hs 0 b with
    |some o=>simp[kK,hb]
    |none=>
     simp only[Option.isSome_none,Bool.false_eq_true,if_false];split
     ·rename_i hci;unfold kK;rw[hb]
      cases hq:hs (j+1) b with
      |none=>rfl
      |some o=>have:=(hc b o hq).1;omega
     ·rfl
   rw[e];exact h0
theorem Holds.Bq(X:XT ρ α)(h:Holds E w V):Holds E w (g8 X [] [] none::V):=
 h.rE λ_ _ _=>⟨rfl,λi u x hu=>(by simp at hu),λ_=>0,λ_ _ h=>(by cases h),λi u x _ hu=>(by simp at hu)⟩
theorem Holds.zY(h:Holds E w V){k:aW Nat}(hj:V[j]? =some (g8 X us xs k))(hu:us[i]? =some u)(hx:xs[i]? =some x):X.rest u x:=by
 obtain⟨M,hs,g⟩:=h;exact(g.sat j _ hj).2.1 i u x hu hx
end
section
variable {β:Type}[GT β]
def XS(e:da)(β:Type)[GT β]:XT RV (Z β):=⟨λ_ _=>True,λM h u l=>rG e M h u.v l,λ{M M' h u l}hk hh=>(own e u.v l).mono hk hh,λ_=>trivial⟩
theorem Cs(e:da)(u:RV)(l:Z β):B7 (XS e β) u l=own e u.v l:=rfl
theorem rG.sl{e:da}{M h:bZ}{v:bL}{l:Z β}(hd:∀b o,h b=some o->M b=none)(ho:rG e M h v l):iV (kK M h) v l:=by
 rcases ho with⟨rfl,rfl,_⟩|⟨b,o,cap,cur,xs,rfl,h2,h3,h4,h5,h6,h7⟩
 ·exact⟨none,0,0,rfl,rfl,aX _,by simp[maxLen],λi x hx=>by simp at hx⟩
 ·refine pr (M:=kK M h) (e:=e) (fr:=(0,0)) ?_ (h7.mono<|rj _ _) h6 h2 h3
  simp_all[bG,kK]
end
def lL:RV:=⟨.slice none 0 0,rfl⟩
def rv(v:bL):RV:=if h:v.oneCell'=true then⟨v,h⟩else lL
theorem Ct{v:bL}(h:v.oneCell'=true):(rv v).v=v:=by unfold rv;rw[dif_pos h]
instance:Inhabited RV:=⟨lL⟩
theorem iq{ρ α:Type}{us:Z ρ}{xs:Z α}{jj:Int}{x:α}(z:ρ)(hl:us.length=xs.length)(hx:idx xs jj=some x):idx us jj=some (us.getD jj.toNat z):=by
 grind [dY,Int.eq_ofNat_of_zero_le,el,idx,aN]
structure XO {ρ α β:Type} [GT ρ] [GT β] (X:XT ρ α) (e':da) (off:Nat) (f:ρ->RV) (fs:ρ->RV->ρ) (g:α->Z β) (gs:α->Z β->α):Prop where
 FO:Fd off f
 FP:Fs off RV fs
 le:off+1<=GT.sz ρ
 get:∀{M h u x},X.ok M h u x->rG e' M h (f u).v (g x)
 put:∀{M h' u x r y},X.rest u x->rG e' M h' (RV.v r) y->X.ok M h' (fs u r) (gs x y)
theorem ox(e:da)(β:Type)[GT β]:XO (XS e β) e 0 (λx=>x) (λ_ y=>y) (λx=>x) (λ_ y=>y):=
 ⟨Fd.self,Fs.self,aX _,λh=>h,λ_ h=>h⟩
section
variable {ρ α β:Type}[GT ρ][GT β]{X:XT ρ α}{us:Z ρ}{xs:Z α}{E w:bM}{V:Z HP}{i j k o b:Nat}{e e':da}{v u:bL}{x:α}{y:Z β}{jj:Int}{z:ρ}
variable {off:Nat}{f:ρ->RV}{fs:ρ->RV->ρ}{gg:α->Z β}{gs:α->Z β->α}
theorem Da(z:ρ)(hl:us.length=xs.length)(hx:idx xs jj=some x):us[jj.toNat]? =some (us.getD jj.toNat z):=by simp_all[dY,iq]
theorem Holds.ug(o:XO X e' off f fs gg gs)(z:ρ)(h:Holds E w V)(hj:V[j]? =some (g8 X us xs none))(hx:idx xs jj=some x):
  Holds E w (own e' (f<|us.getD jj.toNat z).v (gg x)::V.set j (g8 X us xs<|some jj.toNat)):=by
 have hl:=h.fh _ hj;have h2:=h.focus hj (Da z hl hx) (dY hx).2.1;obtain⟨M,hs,g⟩:=h2;have:=g.update (w':=w) (P':=own e' (f<|us.getD jj.toNat z).v<|gg x) (i:=0) (by simp) (hs 0) (o.get<|g.sat 0 _ rfl) rfl rfl rfl (λb o hb=>g.le 0 b o (by simp) hb) (λb o hb=> .inl ⟨o,hb⟩)<|λ_ _ _=>rfl
 exact⟨_,_,this⟩
theorem Holds.rP(o:XO X e' off f fs gg gs)(z:ρ)(h:Holds E w (own e' v y::V))(hj:V[j]? =some (g8 X us xs<|some jj.toNat))(hx:idx xs jj=some x):
  Holds E w (V.set j<|g8 X (us.set jj.toNat<|fs (us.getD jj.toNat z)<|rv v) (xs.set jj.toNat<|gs x y) none):=by
 have hl:=h.fh (j+1) (by simpa using hj);have h1:(rv v).v=v:=by
  obtain⟨a,c,hv⟩:=h.il (i:=0) rfl;exact Ct (by rw[hv];rfl)
 have hr:=h.zY (j:=j+1) (by simpa using hj) (Da z hl hx) (dY hx).2.1;have h2:Holds E w (B7 X (fs (us.getD jj.toNat z)<|rv v) (gs x y)::V):=by
  obtain⟨M,hs,g⟩:=h;have:=g.update (w':=w) (P':=B7 X (fs (us.getD jj.toNat z)<|rv v)<|gs x y) (i:=0) (by simp) (hs 0) (o.put hr (by rw[h1];exact g.sat 0 _ rfl)) rfl rfl rfl (λb o hb=>g.le 0 b o (by simp) hb) (λb o hb=> .inl ⟨o,hb⟩)<|λ_ _ _=>rfl
  exact⟨_,_,this⟩
 exact h2.xM hj (by simp_all[dY])
theorem Holds.vz(o:XO X e' off f fs gg gs)(z:ρ)(hs:∀u,fs u (f u)=u)(h:Holds E w (own e' (f<|us.getD jj.toNat z).v y::V))(hj:V[j]? =some (g8 X us xs<|some jj.toNat))(hx:idx xs jj=some x):
  Holds E w (V.set j<|g8 X us (xs.set jj.toNat<|gs x y) none):=by
 have hl:=h.fh (j+1) (by simpa using hj);have h2:=h.rP o z hj hx;have h3:rv (f<|us.getD jj.toNat z).v=f (us.getD jj.toNat z):=by unfold rv;rw[dif_pos (f<|us.getD jj.toNat z).one]
 have h4:us.set jj.toNat (us.getD jj.toNat z)=us:=by
  have hk:=(dY hx).2.2
  simp_all
 grind
theorem Holds.B8(h:Holds E w V)(hi:V[i]? =some (own e v y)):Holds E w (rd v (rv v)::V):=by
 have h1:(rv v).v=v:=by
  obtain⟨a,c,hv⟩:=h.il hi;exact Ct (by rw[hv];rfl)
 have:=h.sc RV<|rv v
 simp_all[Sc.toV]
end
section
variable {ρ α β:Type}[GT ρ][GT β]{P:cR}{n:Nat}{U:Nat->bL}{w:bM}{Q:dg}{E:bM}{V:Z HP}{i j k o b:Nat}
variable {ops:bQ cA}{rest:Z cA}{d:Nat}{ty t T e e':da}{pos:String}{af:bQ Edge}{g:aW (Nat×Bool)}{v vy u p:bL}{q r:bT}
variable {X:XT ρ α}{us:Z ρ}{xs xs':Z α}{x:α}{y:Z β}{jj:Int}{z:ρ}{bytes:Nat}
variable {off:Nat}{f:ρ->RV}{fs:ρ->RV->ρ}{gg:α->Z β}{gs:α->Z β->α}
theorem Io(i b:Nat)(O:XO X e' off f fs gg gs)(z:ρ)(hg:Wn ops U g)(hd:Nat.blt d n=true)(hw:Holds E w V)(hx:ev U q=p)(hp:B4 v jj.toNat (GT.sz ρ) off p)(hi:V[i]? =some (own e v us))(hb:V[b]? =some (g8 X us xs none))(hxs:idx xs jj=some x)(hT:jP P T false 1)(kk:Holds E w (own e' (f<|us.getD jj.toNat z).v (gg x)::V.set b (g8 X us xs<|some jj.toNat))->RL P n ops rest (cI U d (f<|us.getD jj.toNat z).v) w Q):
  RL P n ops (⟨some d, .load T q,ty,pos,af,g⟩::rest) U w Q:=
 Ht (f:=f) hg hd hw hx hp hi (Da z (hw.fh _ hb) hxs) O.FO hT (kk<|hw.ug O z hb hxs)
theorem Ip{k0:aW Nat}(i b o:Nat)(O:XO X e' off f fs gg gs)(z:ρ)(hg:Wn ops U g)(hw:Holds E w V)(hx:ev U q=p)(hy:ev U r=u)(hp:B4 v jj.toNat (GT.sz ρ) off p)(hi:V[i]? =some (own e v us))(hb:V[b]? =some (g8 X us xs k0))(ho:V[o]? =some (own e' u y))(hxs:idx xs jj=some x)(hT:jP P T false 1)(kk:∀w',Holds E w' (((V.set i<|own e v<|us.set jj.toNat<|fs (us.getD jj.toNat z)<|rv u).set o bB).set b<|g8 X (us.set jj.toNat<|fs (us.getD jj.toNat z)<|rv u) (xs.set jj.toNat<|gs x y) none)->RL P n ops rest U w' Q)(hk:k0=none\/k0=some jj.toNat:=by exact(.inr rfl))(hib:i≠b:=by decide)(hob:o≠b:=by decide)(hio:i≠o:=by decide):
  RL P n ops (⟨none, .store T q r,ty,pos,af,g⟩::rest) U w Q:=by
 have hl:=hw.fh _ hb;have hrv:=hw.B8 ho;have h3:V.length>0:=by grind
 refine Ia (i:=i+1) (j:=0) (f:=fs) (y:=rv u) hg hrv hx hy hp (by simpa using hi) (Da z hl hxs) rfl O.FP O.le hT λw' hw'=>?_;refine kk w' ?_;have hw2:Holds E w' (V.set i<|own e v<|us.set jj.toNat<|fs (us.getD jj.toNat z)<|rv u):=hw'.drop 1 rfl;have hb2:(V.set i<|own e v<|us.set jj.toNat<|fs (us.getD jj.toNat z)<|rv u)[b]? =some (g8 X us xs k0):=by grind
 have ho2:(V.set i<|own e v<|us.set jj.toNat<|fs (us.getD jj.toNat z)<|rv u)[o]? =some (own e' u y):=by grind
 rcases hk with rfl|rfl
 ·have h4:=hw2.ug O z hb2 hxs;have h5:Holds E w' ((V.set i<|own e v<|us.set jj.toNat<|fs (us.getD jj.toNat z)<|rv u).set b<|g8 X us xs<|some jj.toNat):=h4.drop 1 rfl;have hb3:((V.set i<|own e v<|us.set jj.toNat<|fs (us.getD jj.toNat z)<|rv u).set b<|g8 X us xs<|some jj.toNat)[b]? =some (g8 X us xs<|some jj.toNat):=by
   grind
  have ho3:((V.set i<|own e v<|us.set jj.toNat<|fs (us.getD jj.toNat z)<|rv u).set b<|g8 X us xs<|some jj.toNat)[o]? =some (own e' u y):=by
   grind
  have h6:=h5.pull (hi:=ho3) _;have h7:=h6.rP O z (j:=b) (by rw[ff,aL hob];exact hb3) hxs
  grind [List.set_comm,List.set_set]
 ·have h6:=hw2.pull (hi:=ho2) _;exact h6.rP O z (j:=b) (by grind) hxs
end
section
variable {α β:Type}[GT β]{P:cR}{n:Nat}{U:Nat->bL}{w:bM}{Q:dg}{E:bM}{V:Z HP}{i j k o b:Nat}
variable {ops:bQ cA}{rest:Z cA}{d:Nat}{ty t T e e':da}{pos:String}{af:bQ Edge}{g:aW (Nat×Bool)}{v vy u p:bL}{q r:bT}
variable {us:Z RV}{xs xs':Z (Z β)}{y:Z β}{jj:Int}{bytes:Nat}
theorem Holds.zZ(m:Nat)(h:Holds E w V)(β:Type)[GT β](e':da):Holds E w (g8 (XS e' β) (List.replicate m lL) (List.replicate m ([]:Z β)) none::V):=
 h.rE λM _ _=>⟨by simp,λ_ _ _ _ _=>trivial,λ_=>0,λ_ _ h=>(by cases h),λi u x _ hu hx=>by
  have hu':=List.eq_of_mem_replicate<|dJ hu
  have hx':=List.eq_of_mem_replicate<|dJ hx
  subst hu';subst hx'
  exact .inl ⟨rfl,rfl,by grind [j9]⟩⟩
theorem Iq(k:Int)(hg:Wn ops U g)(hd:Nat.blt d n=true)(hw:Holds E w V)(hx:ev U q = .int .i64 k)(hy:ev U r = .int .i64 k)(hT:qa P t e 1 bytes)(hz:wO P e lL)(ha:Gk.mk bytes ([]:Z β) k=some xs)(kk:∀v' w'(us:Z RV),Holds E w' (own e v' us::g8 (XS e' β) us xs none::V)->RL P n ops rest (cI U d v') w' Q):
  RL P n ops (⟨some d, .makeSlice t q r,ty,pos,af,g⟩::rest) U w Q:=by
 unfold Gk.mk at ha;split at ha
 ·rename_i hc;injection ha with ha
  subst ha;exact HC (hg:=hg) (l':=List.replicate k.toNat lL) _ hd (hw.zZ k.toNat β e') hx hy hT hz (by grind [Gk.mk]) λv' w' h=>kk v' w' _ h
 ·cases ha
end
section
variable {P:cR}{n:Nat}{U:Nat->bL}{w:bM}{Q:dg}{E:bM}{V:Z HP}{i j k o b:Nat}
variable {ops:bQ cA}{rest:Z cA}{d:Nat}{ty t T e e':da}{pos:String}{af:bQ Edge}{g:aW (Nat×Bool)}{v vy u p:bL}{q r:bT}
theorem IP{cs:Z bL}(hg:Wn ops U g)(hd:Nat.blt d n=true)(hw:Holds E w V)(hx:ev U q = .agg cs.toArray)(h1:∀v∈cs,v.oneCell'=true)
  (kk:∀b w',Holds E w' (bc T b cs::V)->RL P n ops rest (cI U d<|.pointer<|some ⟨b,0,none⟩) w' Q):RL P n ops (⟨some d, .box T q,ty,pos,af,g⟩::rest) U w Q:=by
 refine BY hg hd ?_<|kk w.heap.size (w.alloc<|.cells cs.toArray T (0,0))<|hw.alloc _ λM hs gd=>⟨h1,rfl⟩
 simp only[execOp,hx,Instr.box,newVar,newRow,newObj,aO,aS,Value.cells];rfl
end
section
variable {κ ν ρ:Type}[GT κ][KV κ][DecidableEq κ]
theorem mm:∀{m:Z (κ×ν)}{mr:Z (κ×ρ)}(_:mr.map Prod.fst=m.map Prod.fst)(k:κ),cL mr k=cL m k:=by
 intro m
 induction m with
 |nil=>intro mr h k;cases mr with
  |nil=>rfl
  |cons p mr=>simp at h
 |cons q m ih=>intro mr h k;cases mr with
  |nil=>simp at h
  |cons p mr=>
   simp only[ef,List.cons.injEq]at h;have:=ih h.2 k;unfold cL at this ⊢;simp only[List.findIdx?_cons,h.1,this]
theorem z1{m:Z (κ×ν)}{k:κ}{a:Nat}(h:cL m k=some a):a<m.length:=by
 grind [cL,List.findIdx?_eq_some_iff_findIdx_eq]
theorem tp:∀{m:Z (κ×ν)}{k:κ}{a:Nat}(z:ν)(_:cL m k=some a),(m.map Prod.snd)[a]? =some (aZ m k z):=by
 intro m
 induction m with
 |nil=>simp[cL]
 |cons p m ih=>
  intro k a z h
  by_cases hk:k=p.1
  ·grind [cL,aZ]
  ·have hd:decide (k=p.1)=false:=bP hk;unfold cL at h;rw[List.findIdx?_cons]at h;simp only[hd,Bool.false_eq_true,if_false,Option.map_eq_some_iff]at h;obtain⟨a',h',rfl⟩:=h;have:=ih (k:=k) (a:=a') z h'
   grind [aZ]
theorem tq{m:Z (κ×ν)}{k:κ}(z:ν)(h:cL m k=none):aZ m k z=z:=by
 grind [aZ,decide,cL,List.findIdx?_eq_none_iff,List.find?_eq_none]
theorem yw:∀{m:Z (κ×ν)}{mr:Z (κ×ρ)}(_:mr.map Prod.fst=m.map Prod.fst)(k:κ)(x:ν)(r:ρ),(cP mr k r).map Prod.fst=(cP m k x).map Prod.fst:=by
 intro m
 induction m with
 |nil=>intro mr h k x r;cases mr with
  |nil=>rfl
  |cons p mr=>simp at h
 |cons q m ih=>intro mr h k x r;cases mr with
  |nil=>simp at h
  |cons p mr=>
   simp only[ef,List.cons.injEq]at h;unfold cP
   by_cases hk:k=q.1
   ·rw[aK hk,aK (by grind)];simp[h.2]
   ·rw[aL hk,aL (by grind)];simp[h.1,ih h.2 k x r]
theorem tr:∀{m:Z (κ×ν)}{k:κ}{a:Nat}(x:ν)(_:cL m k=some a),(cP m k x).map Prod.snd=(m.map Prod.snd).set a x:=by
 intro m
 induction m with
 |nil=>simp[cL]
 |cons p m ih=>
  intro k a x h;unfold cP
  by_cases hk:k=p.1
  ·grind [cL]
  ·rw[aL hk]
   grind [cL,bP,Bool.false_eq_true,Option.map_eq_some_iff]
theorem tt:∀{m:Z (κ×ν)}{k:κ}(x:ν)(_:cL m k=none),(cP m k x).map Prod.snd=m.map Prod.snd++[x]:=by
 intro m
 induction m with
 |nil=>intro k x h;rfl
 |cons p m ih=>
  grind [cL,bP,Bool.false_eq_true,Option.map_eq_none_iff,cP]
end
section
variable {κ β:Type}[GT κ][KV κ][DecidableEq κ][GT β]{E w:bM}{V:Z HP}{i j b o:Nat}{e e':da}{v u:bL}{mr:Z (κ×RV)}{m:Z (κ×Z β)}{k:κ}{y:Z β}
def lP(e':da)(mr:Z (κ×RV))(m:Z (κ×Z β))(h:aW κ):HP:=
 ⟨λM hp=>mr.map Prod.fst=m.map Prod.fst/\(g8 (XS e' β) (mr.map Prod.snd) (m.map Prod.snd)<|h.bind<|cL m).ok M hp,λhk⟨a,b⟩=>⟨a,(g8 (XS e' β) _ _ _).mono hk b⟩⟩
theorem Holds.vA{h:aW κ}(hw:Holds E w V)(hj:V[j]? =some (lP e' mr m h)):mr.map Prod.fst=m.map Prod.fst/\Holds E w (V.set j<|g8 (XS e' β) (mr.map Prod.snd) (m.map Prod.snd)<|h.bind<|cL m):=by
 obtain⟨M,hs,g⟩:=hw;obtain⟨a,b⟩:=g.sat j _ hj;exact⟨a,M,_,g.update (w':=w) (bD hj) (hs j) b rfl rfl rfl (λb o hb=>g.le j b o (bD hj) hb) (λb o hb=> .inl ⟨o,hb⟩)<|λ_ _ _=>rfl⟩
theorem Holds.ni{h:aW κ}{h':aW Nat}(hw:Holds E w V)(ha:mr.map Prod.fst=m.map Prod.fst)(hh:h'=h.bind (cL m))(hj:V[j]? =some (g8 (XS e' β) (mr.map Prod.snd) (m.map Prod.snd) h')):Holds E w (V.set j<|lP e' mr m h):=by
 subst hh;obtain⟨M,hs,g⟩:=hw;have b:=g.sat j _ hj;exact⟨M,_,g.update (w':=w) (P':=lP e' mr m h) (bD hj) (hs j) ⟨ha,b⟩ rfl rfl rfl (λb o hb=>g.le j b o (bD hj) hb) (λb o hb=> .inl ⟨o,hb⟩)<|λ_ _ _=>rfl⟩
theorem Holds.z2(hw:Holds E w V)(κ β:Type)[GT κ][KV κ][DecidableEq κ][GT β](e':da):Holds E w (lP (κ:=κ) (β:=β) e' [] [] none::V):=by
 have:=(hw.Bq<|XS e' β).ni (κ:=κ) (mr:=[]) (m:=[]) (h:=none) (j:=0) rfl rfl rfl;exact this
theorem Holds.z3(hw:Holds E w V)(hj:V[j]? =some (lP e' mr m none))(k:κ):Holds E w (own e' (aZ mr k lL).v (aZ m k [])::V.set j (lP e' mr m<|some k)):=by
 obtain⟨ha,h1⟩:=hw.vA hj;have hlt:=bD hj;have hj1:(V.set j<|g8 (XS e' β) (mr.map Prod.snd) (m.map Prod.snd)<|(none:aW κ).bind<|cL m)[j]? =some (g8 (XS e' β) (mr.map Prod.snd) (m.map Prod.snd) none):=by
  grind
 cases hf:cL m k with
 |none=>
  have hr:cL mr k=none:=by grind [mm]
  rw[tq _ hf,tq _ hr];have h2:=h1.ei β e';have h3:=h2.ni (mr:=mr) (m:=m) (h:=some k) (h':=none) (j:=j+1) ha (by simp[hf]) (by simpa using hj1);have h4:Holds E w (own e' (Value.slice none 0 0) ([]:Z β)::V.set j (lP e' mr m<|some k)):=by simp_all
  exact h4
 |some a=>
  have hr:cL mr k=some a:=by grind [mm]
  have hm:=tp (m:=m) ([]:Z β) hf;have hmr:=tp (m:=mr) lL hr;have h2:=h1.focus (i:=a) hj1 hmr hm;have h3:Holds E w (own e' (aZ mr k lL).v (aZ m k [])::(V.set j<|g8 (XS e' β) (mr.map Prod.snd) (m.map Prod.snd)<|(none:aW κ).bind<|cL m).set j (g8 (XS e' β) (mr.map Prod.snd) (m.map Prod.snd)<|some a)):=h2;rw[List.set_set]at h3;have h4:=h3.ni (e':=e') (mr:=mr) (m:=m) (h:=some k) (h':=some a) (j:=j+1) ha (by simp[hf]) (by simp[hlt])
  simp_all
theorem Holds.z4{h0:aW κ}(hw:Holds E w (own e' v y::V))(hj:V[j]? =some (lP e' mr m h0))(hh:h0=none\/h0=some k):Holds E w (V.set j<|lP e' (cP mr k<|rv v) (cP m k y) none):=by
 have hlt:=bD hj;have h1v:(rv v).v=v:=by
  obtain⟨a,c,hv⟩:=hw.il (i:=0) rfl;exact Ct (by rw[hv];rfl)
 have hE:own e' v y=B7 (XS e' β) (rv v) y:=by rw[Cs,h1v]
 have hw2:Holds E w (own e' v y::V.set j (lP e' mr m<|some k)):=by
  rcases hh with rfl|rfl
  ·have h1:=hw.z3 (j:=j+1) (by simpa using hj) k;have h2:=h1.drop 1 (Γ':=(own e' v y::V).set (j+1)<|lP e' mr m<|some k) rfl
   grind
  grind [m9]
 have hj2:(V.set j<|lP e' mr m<|some k)[j]? =some (lP e' mr m<|some k):=by grind
 obtain⟨ha,h1⟩:=hw2.vA (j:=j+1) (by simpa using hj2);have h1':Holds E w (B7 (XS e' β) (rv v) y::V.set j (g8 (XS e' β) (mr.map Prod.snd) (m.map Prod.snd)<|cL m k)):=by
  simp_all
 have hkeys:=yw ha k y<|rv v
 cases hf:cL m k with
 |none=>
  rw[hf]at h1';have hr:cL mr k=none:=by grind [mm]
  have h2:=h1'.zX (j:=j) (by rw[ff,aK rfl,aK hlt]);rw[List.set_set,<-tt (m:=m) y hf,<-tt (m:=mr) (rv v) hr]at h2;have h3:=h2.ni (mr:=cP mr k<|rv v) (m:=cP m k y) (h:=none) (h':=none) (j:=j) hkeys rfl (by rw[ff,aK rfl,aK hlt])
  simp_all
 |some a=>
  rw[hf]at h1';have hr:cL mr k=some a:=by grind [mm]
  have h2:=h1'.xM (j:=j) (i:=a) (by rw[ff,aK rfl,aK hlt]) (by rw[cW];exact z1 hr);rw[List.set_set,<-tr (m:=m) y hf,<-tr (m:=mr) (rv v) hr]at h2;have h3:=h2.ni (mr:=cP mr k<|rv v) (m:=cP m k y) (h:=none) (h':=none) (j:=j) hkeys rfl (by rw[ff,aK rfl,aK hlt])
  simp_all
theorem gv.raw{M h:bZ}(hd:∀b o,h b=some o->M b=none):∀{es:Z MapEntry}{mr:Z (κ×RV)}{m:Z (κ×Z β)},gv M es mr->mr.map Prod.fst=m.map Prod.fst->
  (∀(i:Nat)u x,(mr.map Prod.snd)[i]? =some u->(m.map Prod.snd)[i]? =some x->∃h',(∀b o,h' b=some o->h b=some o)/\rG e' M h' (RV.v u) x)->gv (kK M h) es m
 | [],[],[],_,_,_=>trivial
 |en::es,p::mr,q::m,⟨h1,h2,h3⟩,hk,hx=>by
  simp only[ef,List.cons.injEq]at hk;obtain⟨h',hs,ho⟩:=hx 0 p.2 q.2 rfl rfl;refine⟨by rw[h1,hk.1],?_,gv.raw hd h3 hk.2<|λi u x hu hx'=>hx (i+1) u x (by grind) (by grind)⟩;have:en.val=p.2.v:=rF.1 h2;rw[this];refine hU.2<|iV.mono (λb o hb=>?_)<|rG.sl (λb o hb=>hd b o<|hs b o hb) ho
  unfold kK at hb ⊢
  cases hM:M b with
  |some o'=>rw[hM]at hb;exact hb
  |none=>rw[hM]at hb;exact hs b o hb
 | [],p::mr,_,h,_,_=>h.elim
 |_::_,[],_,h,_,_=>h.elim
 | [],[],q::m,_,hk,_=>by simp at hk
 |_::_,p::mr,[],_,hk,_=>by simp at hk
theorem Holds.z5(hw:Holds E w V)(hb:V[b]? =some (lP e' mr m none))(hj:V[j]? =some (mp v mr))(hne:b≠j):Holds E w ((V.set b Gk.bB).set j<|mp v m):=by
 obtain⟨M,hs,g⟩:=hw;have hbl:=bD hb;have hjl:=bD hj;obtain⟨ha,hl,hr,c,hc,hok⟩:=g.sat b _ hb;obtain⟨r,es,clock,h1,h2,h3⟩:=g.sat j _ hj;have g2:=g.freeze (P':=Gk.bB) (i:=b) hbl trivial
 have hE:gv (kK M (hs b)) es.toList m:=gv.raw (e':=e') (λq o hq=>g.dm b q o hbl hq) h2.1 ha (λi u x hu hx=>⟨λq=>if c q=i then hs b q else none,(λq o hq=>by
  grind),hok i u x (by simp) hu hx⟩)
 have hsj:jE hs b j9 j=hs j:=by grind [jE]
 have hjl2:j<(V.set b Gk.bB).length:=by grind
 have g3:=g2.update (w':=w) (P':=mp v m) (i:=j) hjl2 (hs j) ⟨r,es,clock,h1,⟨hE,h2.2.1,h2.2.2.1,ha▸h2.2.2.2⟩,h3⟩ rfl rfl rfl
  (λq o hq=>g.le j q o hjl hq) (λq o hq=> .inl ⟨o,by simp_all⟩) (λq _ _=>rfl)
 exact⟨_,_,g3⟩
end
section
variable {κ β:Type}[GT κ][KV κ][DecidableEq κ][GT β]{P:cR}{n:Nat}{U:Nat->bL}{w:bM}{Q:dg}{E:bM}{V:Z HP}{i j b o:Nat}
variable {ops:bQ cA}{rest:Z cA}{d:Nat}{ty T kt et e':da}{pos:String}{af:bQ Edge}{g:aW (Nat×Bool)}{v u:bL}{q qk qv:bT}{mr:Z (κ×RV)}{m:Z (κ×Z β)}{k:κ}{y:Z β}
theorem IQ(hg:Wn ops U g)(hd:Nat.blt d n=true)(hw:Holds E w V)(hx:ev U q=v)(hk:ev U qk=KV.enc k)(hi:V[i]? =some (mp v mr))(hb:V[b]? =some (lP e' mr m none))(hT:nd P T kt et κ RV lL)
  (kk:Holds E w (own e' (aZ mr k lL).v (aZ m k [])::V.set b (lP e' mr m<|some k))->RL P n ops rest (cI U d (aZ mr k lL).v) w Q):RL P n ops (⟨some d, .lookup T q qk false,ty,pos,af,g⟩::rest) U w Q:=
 Hm (hg:=hg) _ _ hd hw hx hk hi hT (by
  have e:KV.enc (aZ mr k lL)=(aZ mr k lL).v:=rfl
  rw[e];exact kk (hw.z3 hb k))
theorem IS{h0:aW κ}(hg:Wn ops U g)(hw:Holds E w V)(hx:ev U q=v)(hk:ev U qk=KV.enc k)(hv:ev U qv=u)(hi:V[i]? =some (mp v mr))(hb:V[b]? =some (lP e' mr m h0))(hh:h0=none\/h0=some k)
  (ho:V[o]? =some (own e' u y)) (hib:i≠b) (hob:o≠b) (hio:i≠o) (hT:nd P T kt et κ RV lL)
  (kk:∀w',Holds E w' (((V.set i<|mp v<|cP mr k<|rv u).set o bB).set b<|lP e' (cP mr k<|rv u) (cP m k y) none)->RL P n ops rest U w' Q):RL P n ops (⟨none, .mapUpdate T q qk qv,ty,pos,af,g⟩::rest) U w Q:=by
 have hrv:=hw.B8 ho;refine He (hg:=hg) (hv:=hv) (x:=rv u) (i+1) 0 _ hrv hx hk (by simpa using hi) rfl hT λw' hw'=>kk w' ?_;have hw2:Holds E w' (V.set i<|mp v<|cP mr k<|rv u):=hw'.drop 1 rfl;have hb2:(V.set i<|mp v<|cP mr k<|rv u)[b]? =some (lP e' mr m h0):=by grind
 have ho2:(V.set i<|mp v<|cP mr k<|rv u)[o]? =some (own e' u y):=by grind
 have h6:=hw2.pull (hi:=ho2) _;exact h6.z4 (j:=b) (by grind) hh
end
section
variable {ρ α β:Type}[GT ρ][GT α][GT β]
structure XP (X:XT ρ α) (e':da) (off:Nat) (fs:ρ->RV->ρ) (gs:α->Z β->α):Prop where
 FP:Fs off RV fs
 le:off+1<=GT.sz ρ
 put:∀{M h' u x r y},X.rest u x->rG e' M h' (RV.v r) y->X.ok M h' (fs u r) (gs x y)
end
structure Gg (P:cR) (T:da) (i:Nat) (ft:da) (m:Nat):Prop where
 run:∀cs w,(Instr.field T (.agg cs) i).run P w=(part ft cs m).run P w
def Ee(n:Nat)(i:Int):aW (Fin n):=if h:0<=i/\i.toNat<n then some ⟨i.toNat,h.2⟩else none
theorem z6{n:Nat}{i:Int}{k:Fin n}(h:Ee n i=some k):0<=i/\i=((k.val:Nat):Int):=by
 unfold Ee at h;split at h
 ·rename_i h1;injection h with h
  subst h;exact⟨h1.1,by show i=((i.toNat:Nat):Int);omega⟩
 ·cases h
structure Cu (P:cR) (T:da) (n:Nat) (e:da) (sz:Nat):Prop where
 pf:P.underlying T=some (.array n e)
 sz:∀w,(sizeOf e).run P w = .ok sz w
structure Cv (P:cR) (T:da) (i:Int) (m:Nat):Prop where
 run:∀K a w,(Instr.indexAt T (.pointer<|some a)<|.int K i).run P w = .ok (.pointer<|some<|a.add m) w
structure Gh (P:cR) (T:da) (i:Int) (ft:da) (m:Nat):Prop where
 run:∀K cs w,(Instr.index T (.agg cs)<|.int K i).run P w=(part ft cs m).run P w
section
variable {P:cR}{T e:da}{n sz:Nat}{i:Int}
theorem Cu.at(h:Cu P T n e sz){k:Fin n}(hk:Ee n i=some k):Cv P T i (k.val*sz):=by
 obtain⟨h0,h1⟩:=z6 hk;refine⟨λK a w=>?_⟩;have hlt:i<((n:Nat):Int):=by have:=k.isLt;omega
 have ht:i.toNat=k.val:=by omega
 simp only[Instr.indexAt,asIntOf,Instr.sureAddr,aO,aS,aR,run_underlying h.pf,h.sz,h0,hlt,and_self,if_true,ht]
end
section
variable {α β:Type}[GT α][GT β]{P:cR}{n:Nat}{U:Nat->bL}{w:bM}{Q:dg}{E:bM}{V:Z HP}{i:Nat}
variable {ops:bQ cA}{rest:Z cA}{d:Nat}{T ty e ft:da}{pos:String}{af:bQ Edge}{g:aW (Nat×Bool)}{v p:bL}{q r:bT}{x:α}{K:IntKind}{jj:Int}{k off m:Nat}
theorem IT{b o:Nat}(hg:Wn ops U g)(hd:Nat.blt d n=true)(hx:ev U q = .pointer (some ⟨b,o,none⟩))(hy:ev U r = .int K jj)(hf:Cv P T jj m)
  (kk:RL P n ops rest (cI U d<|.pointer<|some ⟨b,o+m,none⟩) w Q):RL P n ops (⟨some d, .indexAddr T q r,ty,pos,af,g⟩::rest) U w Q:=by
 refine BY hg hd ?_ kk;simp only[execOp,hx,hy,aO,hf.run,aR,aS,Addr.add_lit]
theorem G6{b:Nat}(hf:Cv P T jj m)(kk:RL P n ops rest (cI U d<|.pointer<|some ⟨b,m,none⟩) w Q)(hg:Wn ops U g:=by exact trivial)(hd:Nat.blt d n=true:=by exact rfl)(hx:ev U q = .pointer (some ⟨b,0,none⟩):=by exact rfl)(hy:ev U r = .int K jj:=by exact rfl):RL P n ops (⟨some d, .indexAddr T q r,ty,pos,af,g⟩::rest) U w Q:=
 IT (o:=0) (m:=m) hg hd hx hy hf (by rw[ez];exact kk)
end
structure B9 (P:cR) (T:da) (sz:Nat) (z:bQ bL):Prop where
 run:∀parts cs w,Instr.fill (λi=>some (i*sz,sz)) z parts.toList=some cs->(Instr.build T parts).run P w = .ok (.agg cs) w
theorem B9.of{P:cR}{T e:da}{n sz:Nat}{z:bL}(h1:Cu P T n e sz)(h2:∀w,(zeroValue T).run P w = .ok z w:=by intro _;kernel_rfl):B9 P T sz z.cells:=by
 refine⟨λparts cs w h=>?_⟩;unfold Instr.build;simp only[aO,h2,aR,run_underlying h1.pf,h1.sz,h,aS]
section
variable {α:Type}[GT α]{P:cR}{n:Nat}{U:Nat->bL}{w:bM}{Q:dg}{E:bM}{V:Z HP}
variable {ops:bQ cA}{rest:Z cA}{d:Nat}{T ty:da}{pos:String}{af:bQ Edge}{g:aW (Nat×Bool)}
variable {y:α}
theorem H2{parts:bQ (Nat×bT)}{sz:Nat}{z:bQ bL}(y:α)(hg:Wn ops U g)(hd:Nat.blt d n=true)(hw:Holds E w V)(vs:Z (Nat×bL))(hvs:parts.toList.map (λp=>(p.1,ev U p.2))=vs)(hT:B9 P T sz z)(ha:GT.agg α=true)(hf:∀M hs,Good E w M hs V->cH M (λi=>some (i*sz,sz)) z vs y)(k:∀v,Holds E w (rd v y::V)->RL P n ops rest (cI U d v) w Q):RL P n ops (⟨some d, .build T parts,ty,pos,af,g⟩::rest) U w Q:=by
 obtain⟨M,hs,gd⟩:=hw;obtain⟨cs,h1,h2⟩:=hf M hs gd;have e1:parts.map (λ(i,x)=>(i,ev U x))=vs.toArray:=by rw[<-hvs];cases parts;simp
 refine BY (v:= .agg cs) hg hd ?_<|k _ ⟨M,_,gd.dD ⟨⟨cs.toList,by simp[oI,ha],h2⟩,rfl⟩⟩
 simp only[execOp,aO];rw[e1,hT.run _ _ _ h1];simp only[aR,aS]
end
class Flat (α:Type) [GT α]:Prop where
 fl:∀{M M':bZ}{cs:Z bL}{x:α},GT.ok M cs x->GT.ok M' cs x
instance {α:Type} [Sc α]:Flat α:=⟨λh=>h⟩
instance {α β:Type} [GT α] [GT β] [Flat α] [Flat β]:Flat (α×β):=⟨λ⟨c,d,e,h1,h2⟩=>⟨c,d,e,Flat.fl h1,Flat.fl h2⟩⟩
theorem Cells.flat{α:Type}[GT α][Flat α]{M:bZ}{xs:Z bL}{l:Z α}(h:Cells M xs l)(M':bZ):Cells M' xs l:=⟨h.1,λi x hx=>Flat.fl<|h.2 i x hx⟩
section
variable {ρ α β:Type}[GT ρ][GT α][GT β]{P:cR}{n:Nat}{U:Nat->bL}{w:bM}{Q:dg}{E:bM}{V:Z HP}{i j k o b:Nat}
variable {ops:bQ cA}{rest:Z cA}{d:Nat}{ty t T e e':da}{pos:String}{af:bQ Edge}{g:aW (Nat×Bool)}{v vy u p:bL}{q r:bT}
variable {X:XT ρ α}{us:Z ρ}{xs xs':Z α}{x:α}{l l':Z β}{jj:Int}{z:ρ}{bytes off:Nat}{f:ρ->RV}{fs:ρ->RV->ρ}{gg:α->Z β}{gs:α->Z β->α}{h0:aW Nat}
theorem Ir(i b:Nat)(O:XO X e' off f fs gg gs)(z:ρ)(hg:Wn ops U g)(hd:Nat.blt d n=true)(hw:Holds E w V)(hx:ev U q=p)(hp:B4 v jj.toNat (GT.sz ρ) off p)(hi:V[i]? =some (own e v us))(hb:V[b]? =some (g8 X us xs h0))(hxs:idx xs jj=some x)(hT:jP P T false 1)(kk:RL P n ops rest (cI U d (f<|us.getD jj.toNat z).v) w Q):RL P n ops (⟨some d, .load T q,ty,pos,af,g⟩::rest) U w Q:=
 Ht (f:=f) hg hd hw hx hp hi (Da z (hw.fh _ hb) hxs) O.FO hT kk
end
section
variable {α:Type}[GT α]{M:bZ}{xs:Z bL}{l:Z α}{k:Nat}
theorem Cells.take(h:Cells M xs l)(hk:k<=l.length):Cells M (xs.take<|k*GT.sz α) (l.take k):=by
 have hx:=h.1;have hm:k*GT.sz α<=l.length*GT.sz α:=Nat.mul_le_mul_right _ hk;refine⟨by grind,λi x hi=>?_⟩;rw[dV]at hi;split at hi
 case isFalse=>cases hi
 rename_i hlt;have hb:i*GT.sz α+GT.sz α<=k*GT.sz α:=by
  calc i*GT.sz α+GT.sz α=(i+1)*GT.sz α:=by rw[Nat.add_mul,Nat.one_mul]
   _<=k*GT.sz α:=Nat.mul_le_mul_right _ hlt
 have:=h.2 i x hi
 grind [List.drop_take,Nat.min_eq_left]
theorem Cells.drop(h:Cells M xs l)(hk:k<=l.length):Cells M (xs.drop<|k*GT.sz α) (l.drop k):=by
 have hx:=h.1;refine⟨by grind [fO,Nat.sub_mul],λi x hi=>?_⟩;rw[fW]at hi;have:=h.2 _ x hi
 grind [List.drop_drop,Nat.add_mul]
end
structure oM (f:Nat)where
 deriving Inhabited
instance instScFVal (f:Nat):Sc (oM f):=⟨λ_=> .func (.func f) #[] #[],λ_=>rfl⟩
section
variable {κ ν S R T:Type}
def mS(body:κ×ν->S->aW (Fl S R)):Z (κ×ν)->S->aW (Fo S R)
 | [],s=>some (.go s)
 |e::l,s=>(body e s).bind λ
  | .nx s'=>mS body l s'
  | .br s'=>some (.go s')
  | .rt r=>some (.rt r)
open Classical in
noncomputable def qZ(m:Z (κ×ν))(body:κ×ν->S->aW (Fl S R))(s:S)(kg:S->aW T)(kr:R->aW T):aW T:=
 if h:∃t,∀p:Z (κ×ν),p.Perm m->(mS body p s).bind (λo=>o.cs kg kr)=some t then some (Classical.choose h)else none
theorem z8{m:Z (κ×ν)}{body:κ×ν->S->aW (Fl S R)}{s:S}{kg:S->aW T}{kr:R->aW T}{t:T}(h:qZ m body s kg kr=some t):
  ∀p:Z (κ×ν),p.Perm m->(mS body p s).bind (λo=>o.cs kg kr)=some t:=by
 unfold qZ at h;split at h
 ·rename_i h1;injection h with h
  intro p hp;rw[<-h];exact Classical.choose_spec h1 p hp
 ·cases h
theorem xP{m:Z (κ×ν)}{body:κ×ν->S->aW (Fl S R)}{s:S}{kg:S->aW T}{kr:R->aW T}{t:T}(h:∀p:Z (κ×ν),p.Perm m->(mS body p s).bind (λo=>o.cs kg kr)=some t):
  qZ m body s kg kr=some t:=by
 have he:∃t,∀p:Z (κ×ν),p.Perm m->(mS body p s).bind (λo=>o.cs kg kr)=some t:=⟨t,h⟩;unfold qZ;rw[dif_pos he];have h1:=Classical.choose_spec he m<|List.Perm.refl m
 rw[h m<|List.Perm.refl m]at h1;exact h1.symm
def Pf(m pre:Z (κ×ν)):Prop:=∃rest,(pre++rest).Perm m
end
section
variable {κ ν:Type}[GT κ][KV κ][GT ν]
def A9(v:bL)(g:Nat)(m pre:Z (κ×ν)):HP:=
 ⟨λM h=>∃(r:Nat)(es:bQ MapEntry)(clock since:Nat)(seen:bQ Nat)(c0:Nat)(pz rz:Z (MapEntry×(κ×ν))),v = .map (some r)/\(gv M es.toList m/\zO es.toList clock m)/\r≠g/\
   h=kK (Gk.one r<|.map es clock) (Gk.one g<|.mapIter (some r) since seen c0)/\(∀x∈es.toList,x.born<since)/\since<=c0/\since<=clock/\
   (pz++rz).Perm (es.toList.zip m)/\seen.toList=pz.map (·.1.born)/\pre=pz.map (·.2)/\(pz= []\/c0=clock),
  λk⟨r,es,c,si,se,c0,pz,rz,hv,⟨he,hst⟩,hne,hh⟩=>⟨r,es,c,si,se,c0,pz,rz,hv,⟨gv.mono k he,hst⟩,hne,hh⟩⟩
theorem gv.at{M:bZ}:∀{es:Z MapEntry}{m:Z (κ×ν)}{e:MapEntry}{x:κ×ν},gv M es m->(e,x)∈es.zip m->e.key=KV.enc x.1/\ou M e.val x.2
 | [],[],_,_,_,h=>by simp at h
 |e::es,p::m,e',x,⟨h1,h2,h3⟩,h=>by
  rw[List.zip_cons_cons,fB]at h
  rcases h with h|h
  ·injection h with ha hb;subst ha;subst hb;exact⟨h1,h2⟩
  ·exact gv.at h3 h
 | [],_::_,_,_,h,_=>h.elim
 |_::_,[],_,_,h,_=>h.elim
theorem tv{M h:bZ}{b:Nat}{o:Obj}(e:M b=some o):kK M h b=some o:=by simp[kK,e]
theorem pE{M h:bZ}{b:Nat}(e:M b=none):kK M h b=h b:=by simp[kK,e]
theorem kO{g b:Nat}{o:Obj}(h:b≠g):Gk.one g o b=none:=by simp[Gk.one,h]
end
section
variable {κ ν S R T:Type}[GT κ][KV κ][DecidableEq κ][GT ν]
variable {P:cR}{n:Nat}{U:Nat->bL}{w:bM}{Q:dg}{E:bM}{V:Z HP}{i:Nat}
variable {ops:bQ cA}{rest:Z cA}{d:Nat}{ty Ty kt et:da}{pos:String}{af:bQ Edge}{g:aW (Nat×Bool)}{v:bL}{q:bT}{m pre:Z (κ×ν)}{b:Nat}
theorem Is(i:Nat)(hg:Wn ops U g)(hd:Nat.blt d n=true)(hw:Holds E w V)(hx:ev U q=v)(hi:V[i]? =some (mp v m))(hT:P.underlying Ty=some (.map kt et))(k:∀b w',Holds E w' (V.set i<|A9 v b m [])->RL P n ops rest (cI U d<|.pointer<|some ⟨b,0,none⟩) w' Q):RL P n ops (⟨some d, .range Ty q,ty,pos,af,g⟩::rest) U w Q:=by
 obtain⟨M,hs,gd⟩:=hw;have hlt:=bD hi;obtain⟨r,es,clock,rfl,⟨he,hst⟩,hh⟩:=gd.sat i _ hi;have hb:=gd.le i r _ hlt (by rw[hh];exact bG r _);have hrs:r<w.heap.size:=(Array.getElem?_eq_some_iff.1 hb).1;refine BY (v:= .pointer<|some ⟨w.heap.size,0,none⟩) (w':=w.alloc<|.mapIter (some r) clock #[] clock) hg hd (by simp only[execOp,hx,run_range_map w Ty kt et r es clock hT hb,aO,aS,aR])<|k w.heap.size _ ?_
 have g1:=(gd.world (w':=w.alloc<|.mapIter (some r) clock #[] clock) rfl rfl rfl<|λb hb=>lr w _ b hb).cons (P:=Gk.bB) (Gk.one w.heap.size<|.mapIter (some r) clock #[] clock) trivial
  (λb o hb=>by obtain⟨rfl,rfl⟩:=dX hb;exact heap_alloc_new w _)
  (λb o hb=>by
   obtain⟨rfl,rfl⟩:=dX hb
   cases e:M w.heap.size with
   |none=>rfl
   |some o'=>exact absurd (Array.getElem?_eq_some_iff.1 (gd.im _ o' e)).1 (Nat.lt_irrefl _))
  (λj b o hj hb=>by
   obtain⟨rfl,rfl⟩:=dX hb
   cases e:hs j w.heap.size with
   |none=>rfl
   |some o'=>exact absurd (Array.getElem?_eq_some_iff.1 (gd.le j _ o' hj e)).1 (Nat.lt_irrefl _))
 have g2:=g1.join (P:=A9 (.map (some r)) w.heap.size m []) (j:=i) hlt (by
  refine⟨r,es,clock,clock,#[],clock,[],es.toList.zip m,rfl,⟨he,hst⟩,Nat.ne_of_lt hrs,?_,hst.1,aX _,aX _,List.Perm.refl _,rfl,rfl, .inl rfl⟩;show kK (Gk.one w.heap.size _) (hs i)=_;rw[hh];funext x
  by_cases e1:x=r
  ·subst e1;rw[pE<|kO<|Nat.ne_of_lt hrs,bG,tv<|bG _ _]
  ·rw[pE (M:=Gk.one r _)<|kO e1]
   by_cases e2:x=w.heap.size
   ·subst e2;rw[tv<|bG _ _,bG]
   ·rw[pE (kO e2),kO e1,kO e2])
 exact⟨_,_,g2⟩
theorem uh:∀{es:Z MapEntry}{m:Z (κ×ν)},es.length=m.length->(es.zip m).map (·.2)=m
 | [],[],_=>rfl
 |_::es,_::m,h=>by simp only[List.zip_cons_cons,ef];rw[uh (by simpa using h)]
 | [],_::_,h=>by simp at h
 |_::_,[],h=>by simp at h
theorem zip_fst:∀{es:Z MapEntry}{m:Z (κ×ν)},es.length=m.length->(es.zip m).map (·.1)=es
 | [],[],_=>rfl
 |_::es,_::m,h=>by simp only[List.zip_cons_cons,ef];rw[zip_fst (by simpa using h)]
 | [],_::_,h=>by simp at h
 |_::_,[],h=>by simp at h
theorem Holds.xR(hw:Holds E w V)(hi:V[i]? =some (A9 v b m pre))(ty:da):
  (pre.Perm m/\(Instr.next (.pointer<|some ⟨b,0,none⟩) false ty).run P w = .ok (.tuple #[.bool false]) w)\/
  ∃(x:κ×ν)(u:bL)(w':bM),Pf m (pre++[x])/\(Instr.next (.pointer<|some ⟨b,0,none⟩) false ty).run P w = .ok (.tuple #[.bool true,KV.enc x.1,u]) w'/\
   Holds E w' (rd u x.2::V.set i (A9 v b m<|pre++[x])):=by
 obtain⟨M,hs,gd⟩:=hw;have hlt:=bD hi;obtain⟨r,es,clock,since,seen,c0,pz,rz,rfl,⟨he,hst⟩,hne,hh,hold,hsc,hsk,hperm,hseen,hpre,hc0⟩:=gd.sat i _ hi;have hbr:w.heap[r]? =some (.map es clock):=gd.le i r _ hlt (by rw[hh];exact tv<|bG r _);have hbb:w.heap[b]? =some (.mapIter (some r) since seen c0):=gd.le i b _ hlt (by rw[hh,pE<|kO<|λe=>hne e.symm];exact bG b _);have hlen:es.toList.length=m.length:=he.len;have hnd:((pz++rz).map (·.1.born)).Nodup:=by
  have h1:((pz++rz).map (·.1.born)).Perm ((es.toList.zip m).map (·.1.born)):=hperm.map _;refine h1.symm.nodup ?_;have h2:(es.toList.zip m).map (·.1.born)=es.toList.map (·.born):=by rw[show(λ(x:MapEntry×(κ×ν))=>x.1.born)=MapEntry.born∘Prod.fst from rfl,<-List.map_map,zip_fst hlen]
  rw[h2];exact hst.2.1
 have hin:∀e:MapEntry,e∈es.toList->∃x,(e,x)∈pz++rz:=λe hm=>by
  have:e∈(es.toList.zip m).map (·.1):=by rw[zip_fst hlen];exact hm
  obtain⟨⟨e',x⟩,h1,rfl⟩:=cE.1 this;exact⟨x,hperm.mem_iff.2 h1⟩
 rcases run_next_at (P:=P) w ty b r since c0 seen es clock hbb hbr hold hsc with⟨h0,hrun⟩|⟨e,hem,w1,hw1,hrun⟩
 ·refine .inl ⟨?_,hrun⟩;have hrz:rz= []:=by
   cases rz with
   |nil=>rfl
   |cons z rz=>
    exfalso;have hz:z∈es.toList.zip m:=hperm.mem_iff.1 (by simp);have hze:z.1∈es.toList:=by have:=List.mem_map_of_mem (f:=Prod.fst) hz;rw[zip_fst hlen]at this;exact this
    have hl:leftOf es seen = #[]:=Array.eq_empty_of_size_eq_zero h0;have hns:seen.contains z.1.born=true:=by
     cases hc:seen.contains z.1.born with
     |true=>rfl
     |false=>
      have:z.1∈(leftOf es seen).toList:=by unfold leftOf;simp only[Array.toList_filter,ji,hc];exact⟨hze,rfl⟩
      rw[hl]at this;simp at this
    have hns2:z.1.born∈seen.toList:=by simpa using hns
    rw[hseen]at hns2;rw[fN,List.nodup_append]at hnd;exact hnd.2.2 _ hns2 _ (by simp) rfl
  subst hrz;rw[fY]at hperm;have:=hperm.map (·.2);rw[uh hlen,<-hpre]at this;exact this
 ·right;have he1:e∈es.toList/\seen.contains e.born=false:=by
   unfold leftOf at hem;simp only[Array.toList_filter,ji]at hem;exact⟨hem.1,by simpa using hem.2⟩
  obtain⟨x,hx⟩:=hin e he1.1;have hxr:(e,x)∈rz:=by
   rcases jD.1 hx with h|h
   ·exfalso;have h1:e.born∈seen.toList:=by rw[hseen];exact cE.2 ⟨(e,x),h,rfl⟩
    have h2:seen.contains e.born=true:=by simpa using h1
    rw[he1.2]at h2;cases h2
   ·exact h
  obtain⟨l1,l2,hl⟩:=List.append_of_mem hxr;have hperm2:((pz++[(e,x)])++(l1++l2)).Perm (es.toList.zip m):=by
   refine List.Perm.trans ?_ hperm;rw[hl,jO];refine List.Perm.append_left _ ?_;exact(List.perm_middle (a:=(e,x)) (l₁:=l1) (l₂:=l2)).symm
  have hat:=he.at<|hperm.mem_iff.1 hx
  refine⟨x,e.val,_,⟨(l1++l2).map (·.2),?_⟩,by rw[<-hat.1];exact hrun,?_⟩
  ·have:=hperm2.map (·.2);rw[uh hlen,fN,fN,<-hpre]at this;exact this
  have gw:Good E w1 M hs V:=by
   rcases hw1 with rfl|rfl
   ·exact gd
   ·exact gd.world rfl rfl rfl<|λ_ _=>rfl
  have hh1:w1.heap=w.heap:=by rcases hw1 with rfl|rfl <;> rfl
  have hbs:b<w.heap.size:=(Array.getElem?_eq_some_iff.1 hbb).1;have g2:=gw.update (w':=ChangeMaps.setBlock w1 b<|.mapIter (some r) since (seen.push e.born) clock) (P':=A9 (.map<|some r) b m<|pre++[x]) hlt
   (kK (Gk.one r<|.map es clock)<|Gk.one b<|.mapIter (some r) since (seen.push e.born) clock)
   ⟨r,es,clock,since,seen.push e.born,clock,pz++[(e,x)],l1++l2,rfl,⟨he,hst⟩,hne,rfl,hold,hsk,hsk,hperm2,by rw[Array.toList_push,hseen];simp,by rw[hpre];simp, .inr rfl⟩
   rfl rfl rfl
   (λc o hc=>by
    show(w1.heap.setIfInBounds b _)[c]? =some o;rw[hh1]
    by_cases e1:c=r
    ·subst e1;rw[tv<|bG _ _]at hc;injection hc with hc;subst hc
     rw[Array.getElem?_setIfInBounds_ne<|λh=>hne h.symm];exact hbr
    ·rw[pE<|kO e1]at hc;obtain⟨rfl,rfl⟩:=dX hc
     rw[Array.getElem?_setIfInBounds_self_of_lt hbs])
   (λc o hc=>by
    left
    by_cases e1:c=r
    ·subst e1;exact⟨_,by rw[hh];exact tv<|bG _ _⟩
    ·rw[pE<|kO e1]at hc;obtain⟨rfl,rfl⟩:=dX hc
     exact⟨_,by rw[hh,pE (kO e1)];exact bG _ _⟩)
   (λc hc hcs=>by
    show(w1.heap.setIfInBounds b _)[c]? =w1.heap[c]?;have hcb:b≠c:=λh=>by
     subst h;rw[hh,pE<|kO<|λe=>hne e.symm,bG]at hc
     cases hc
    rw[Array.getElem?_setIfInBounds_ne hcb])
  exact⟨M,_,g2.dD ⟨hat.2,rfl⟩⟩
theorem It{x:κ×ν}(hg:Wn ops U g)(hd:Nat.blt d n=true)(hw:Holds E w V)(hx:ev U q = .pointer (some ⟨b,0,none⟩))(hi:V[i]? =some (A9 v b m<|pre++[x]))
  (k:∀u,Holds E w (rd u x.2::V)->RL P n ops rest (cI U d<|.tuple #[KV.enc x.1,u]) w Q):RL P n ops (⟨some d, .entry q,ty,pos,af,g⟩::rest) U w Q:=by
 obtain⟨M,hs,gd⟩:=hw;have hlt:=bD hi;obtain⟨r,es,clock,since,seen,c0,pz,rz,rfl,⟨he,hst⟩,hne,hh,hold,hsc,hsk,hperm,hseen,hpre,hc0⟩:=gd.sat i _ hi;have hbr:w.heap[r]? =some (.map es clock):=gd.le i r _ hlt (by rw[hh];exact tv<|bG r _);have hbb:w.heap[b]? =some (.mapIter (some r) since seen c0):=gd.le i b _ hlt (by rw[hh,pE<|kO<|λe=>hne e.symm];exact bG b _);have hlen:es.toList.length=m.length:=he.len;have hpz:pz≠[]:=λe=>by subst e;simp at hpre
 obtain⟨pz',z,rfl⟩:∃pz' z,pz=pz'++[z]:=⟨pz.dropLast,pz.getLast hpz,(List.dropLast_concat_getLast hpz).symm⟩;have hx2:z.2=x:=by
  rw[fN]at hpre;have:=congrArg List.getLast? hpre;simpa using this.symm
 subst hx2;have hz:z∈es.toList.zip m:=hperm.mem_iff.1 (by simp);have hze:z.1∈es.toList:=by have:=List.mem_map_of_mem (f:=Prod.fst) hz;rw[zip_fst hlen]at this;exact this
 have hc:c0=clock:=by rcases hc0 with h|h;exact absurd h hpz;exact h
 subst hc;have hseen2:seen=(pz'.map (·.1.born)).toArray.push z.1.born:=by
  apply Array.ext';rw[hseen];simp
 rw[hseen2]at hbb;have hrun:=run_entry_at (P:=P) w b r since _ es c0 z.1 hbb hbr hze hst.2.1;have hat:=he.at (e:=z.1) (x:=z.2) hz;refine BY hg hd ?_<|k z.1.val ⟨M,_,gd.dD ⟨hat.2,rfl⟩⟩
 simp only[execOp,hx,hrun,aO,aS,aR,hat.1]
theorem Holds.kv(h:Holds E w V)(k:κ):Holds E w (rd (KV.enc k) k::V):=h.rE λ_ _ _=>⟨KV.rd _ k,rfl⟩
def FQ(m:Z (κ×ν))(body:κ×ν->S->aW (Fl S R))(I:Z (κ×ν)->S->(Nat->bL)->bM->Prop)(b0:Nat)(J:S->(Nat->bL)->bM->Prop)(K:R->(Nat->bL)->bM->Prop)(pre:Z (κ×ν))(s:S):dg:=
 λex U w=>(pre.Perm m/\Cp (R:=R) b0 J K (.go s) ex U w)\/∃x fl,Pf m (pre++[x])/\body x s=some fl/\t9 (I<|pre++[x]) b0 J K fl ex U w
theorem Iu{b0:Nat}{c:Code}{body:κ×ν->S->aW (Fl S R)}{kg:S->aW T}{kr:R->aW T}{s0:S}{t:T}(I:Z (κ×ν)->S->(Nat->bL)->bM->Prop)(J:S->(Nat->bL)->bM->Prop)(K:R->(Nat->bL)->bM->Prop)
  (hN:Gk.qZ m body s0 kg kr=some t) (h0:I [] s0 U w)
  (step:∀pre s U w,I pre s U w->(∀x,Pf m (pre++[x])->∃fl,body x s=some fl)->RC P n c U w (FQ m body I b0 J K pre s))
  (hrt:∀r U w,kr r=some t->K r U w->Q .ret U w) (hgo:∀s U w,kg s=some t->J s U w->Q .normal U w):RC P n (.block b0<|.loop c) U w Q:=by
 have hall:=z8 hN;refine G8<|HV (λj U w=>∃pre s,j+pre.length=m.length/\I pre s U w/\∀p,(pre++p).Perm m->(mS body p s).bind (λo=>o.cs kg kr)=some t) (m:=m.length) ⟨[],s0,rfl,h0,λp hp=>hall p (by simpa using hp)⟩ ?_
 rintro j U w⟨pre,s,hj,hI,hp⟩;have hone:∀x rest,(pre++[x]++rest).Perm m->∃fl,body x s=some fl/\(match fl with| .nx s'=>(mS body rest s').bind (λo=>o.cs kg kr)=some t| .br s'=>kg s'=some t| .rt r=>kr r=some t):=λx rest hr=>by
  have h1:=hp (x::rest) (by simpa using hr);obtain⟨o,h2,h3⟩:=bd h1;unfold mS at h2;obtain⟨fl,h4,h5⟩:=bd h2;refine⟨fl,h4,?_⟩
  cases fl with
  |nx s'=>simp only at h5 ⊢;rw[h5];exact h3
  |br s'=>simp only at h5 ⊢;injection h5 with h5;subst h5;exact h3
  |rt r=>simp only at h5 ⊢;injection h5 with h5;subst h5;exact h3
 refine RC.mono (step pre s U w hI λx⟨rest,hx⟩=>by obtain⟨fl,h1,_⟩:=hone x rest hx;exact⟨fl,h1⟩) λex σ' w' q=>?_
 rcases q with⟨hpm,rfl,hJ⟩|⟨x,fl,⟨rest,hx⟩,hb,q⟩
 ·refine .inr ⟨by simp,?_⟩;have h1:=hp [] (by simpa using hpm);have h2:kg s=some t:=h1;exact zD<|hgo s σ' w' h2 hJ
 ·obtain⟨fl',hb',hm⟩:=hone x rest hx;rw[hb]at hb';injection hb' with hb';subst hb'
  have hl:=hx.length_eq;simp only[dh,gT,List.length_nil]at hl
  cases fl with
  |nx s'=>
   obtain⟨rfl,hI'⟩:=q;refine .inl ⟨rfl,j - 1,by omega,pre++[x],s',by simp;omega,hI',λp hpp=>?_⟩;obtain⟨fl2,hb2,hm2⟩:=hone x p hpp;rw[hb]at hb2;injection hb2 with hb2;subst hb2
   exact hm2
  |br s'=>
   obtain⟨rfl,hJ⟩:=q;exact .inr ⟨by simp,zD<|hgo s' σ' w' hm hJ⟩
  |rt r=>
   obtain⟨rfl,hK⟩:=q;exact .inr ⟨by simp,d6<|hrt r σ' w' hm hK⟩
theorem Iv{b0 id:Nat}{y:Code}{body:κ×ν->S->aW (Fl S R)}{s:S}{I:Z (κ×ν)->S->(Nat->bL)->bM->Prop}{J:S->(Nat->bL)->bM->Prop}{K:R->(Nat->bL)->bM->Prop}(i:Nat)(hd:Nat.blt d n=true)(hw:Holds E w V)(hx:ev U q = .pointer (some ⟨b,0,none⟩))(hi:V[i]? =some (A9 v b m pre))(hb:∀x,Pf m (pre++[x])->∃fl,body x s=some fl)(h0:RL P n (⟨some d, .next q false,ty,pos,af,none⟩::rest).toArray rest (cI U d (.tuple #[.bool false])) w (i7 P n y (Cp b0 J K (.go s))))(h1:∀x u fl w',body x s=some fl->Holds E w' (rd u x.2::V.set i (A9 v b m (pre++[x])))->
   RL P n (⟨some d, .next q false,ty,pos,af,none⟩::rest).toArray rest (cI U d (.tuple #[.bool true,KV.enc x.1,u])) w' (i7 P n y (t9 (I (pre++[x])) b0 J K fl))):
  RC P n (.seq (.region id (⟨some d, .next q false,ty,pos,af,none⟩::rest).toArray false) y) U w (FQ m body I b0 J K pre s):=by
 rcases hw.xR (P:=P) hi ty with⟨hp,hrun⟩|⟨x,u,w',hx',hrun,hw'⟩
 ·refine RC.mono (d3<|BY trivial hd ?_ h0) λex U w q=> .inl ⟨hp,q⟩;simp only[execOp,hx,hrun,aO,aS,aR]
 ·obtain⟨fl,hfl⟩:=hb x hx';refine RC.mono (d3<|BY trivial hd ?_<|h1 x u fl w' hfl hw') λex U w q=> .inr ⟨x,fl,hx',hfl,q⟩;simp only[execOp,hx,hrun,aO,aS,aR]
end
end Go.Gk
namespace Go.Gk
open Go IntKind Go.Sort
section
variable {α:Type}[GT α]
def Ca{β:Type}(cf:β->β->Int)(x y:β):Bool:=decide<|cf x y<0
def rS(φ:α->α->aW Int)(l:Z α)(i j:Fin l.length):Int:=(φ l[i] l[j]).getD 0
def vC(φ:α->α->aW Int)(l:Z α):Z α:=
 if h:0<l.length then
  haveI:Inhabited (Fin l.length):=⟨⟨0,h⟩⟩
  ((pdq (Ca<|rS φ l) (Array.ofFn λi:Fin l.length=>i) 0 l.length (Lib.bitLen l.length) true true).toList.map λi=>l[i])
 else l
open Classical in
noncomputable def mT(φ:α->α->aW Int)(l:Z α):aW (Z α):=
 if((∀i j:Fin l.length,∃c,φ l[i] l[j]=some c)/\SWO (Ca<|rS φ l))/\l.length<4611686018427387904 then some (vC φ l)else none
end
end Go.Gk
namespace Go.Gk
open Go IntKind
def nj:Op->Bool
 | .move _| .assign _| .pick .. | .load .. | .nilCheck _| .binOp .. | .unOp .. | .fieldAddr .. | .indexAddr .. | .index .. | .field .. | .extract .. | .slice .. | .lookup .. | .build .. | .makeFunc .. =>true
 | .call ⟨.builtin .len,_,_⟩| .call ⟨.builtin .cap,_,_⟩| .call ⟨.builtin .min,_,_⟩| .call ⟨.builtin .max,_,_⟩=>true
 |_=>false
theorem jo{α:Type}{s:Sem α}{P:cR}{w w':bM}{f:α->bL}{nx:Next}(h:(do let a <-s;pure (.value<|f a):Sem Next).run P w = .ok nx w'):∃v,nx = .value v:=by
 rw[aO]at h
 cases hr:s.run P w with
 |ok a w1=>grind [Result.andThen,aS]
 |halt x w1=>simp_all
theorem vD{ρ:bT->bL}{o:cA}{P:cR}{w w':bM}{nx:Next}(hk:nj o.op=true)(h:(execOp ρ o).run P w = .ok nx w'):∃v,nx = .value v:=by
 obtain⟨dst,op,ty,pos,af,g⟩:=o
 cases op
 case move x=>grind [execOp,aS]
 case assign x=>grind [execOp,aS]
 case pick c a b=>exact jo (s:=asBool<|ρ c) (f:=λt=>if t then ρ a else ρ b) h
 case load t a=>exact jo h
 case binOp a b c d e=>
  simp only[execOp]at h;exact jo h
 case unOp a b c=>exact jo h
 case fieldAddr a b c=>exact jo h
 case indexAddr a b c=>exact jo h
 case index a b c=>exact jo h
 case field a b c=>exact jo h
 case extract a b=>exact jo h
 case slice a b c d e=>exact jo h
 case lookup a b c d=>exact jo h
 case build a b=>exact jo h
 case makeFunc a b c=>exact jo h
 case nilCheck x=>
  simp only[execOp]at h;split at h
  ·cases h
  ·cases h
  ·cases h
  ·split at h
   ·cases h
   ·rw[aO]at h
    cases h1:program.run P w with
    |halt x w1=>simp_all
    |ok p w1=>
     rw[h1]at h;simp only[Result.andThen,aO]at h;split at h
     ·rename_i r w2 h2;split at h
      ·simp_all
      grind [aS]
     ·cases h
   grind [aS]
  grind [aS]
 case call c=>
  obtain⟨cal,args,ts⟩:=c
  cases cal with
  |builtin b=>
   cases b <;> first
    |(cases hk;done)
    |(simp only[execOp,resolve,aO,aS,Result.andThen,invoke,builtin]at h;exact jo (by rw[aO];exact h))
  |value f=>cases hk
  |invoke r m=>cases hk
 all_goals cases hk
theorem Sl.uniq{n:Nat}{U σ':Nat->bL}{a:Act}(h:Sl n U a)(h':Sl n σ' a):U=σ':=funext λt=>(h.get t).symm.trans<|h'.get t
section
variable {P:cR}{n:Nat}{ops:bQ cA}{w:bM}{Q:dg}{U:Nat->bL}{o:cA}{rest l:Z cA}
def RO(P:cR)(n:Nat)(ops:bQ cA)(w:bM)(Q:dg):Z cA->(Nat->bL)->Prop
 | [],U=>Q .normal U w
 |o::rest,U=>RL P n ops [o] U w (λex σ' w'=>ex = .normal/\w'=w/\RO P n ops w Q rest σ')
theorem Hf(h:RL P n ops [o] U w (λex σ' w'=>ex = .normal/\w'=w/\RO P n ops w Q rest σ')):RO P n ops w Q (o::rest) U:=h
theorem p_(h:RL P n ops [o] U w (λex σ' w'=>ex = .normal/\w'=w/\RO P n ops w Q rest σ')):RL P n ops [] U w (λex σ' w'=>ex = .normal/\w'=w/\RO P n ops w Q (o::rest) σ'):=s_ ⟨rfl,rfl,h⟩
theorem GX(h:Q .normal U w):RL P n ops [] U w (λex σ' w'=>ex = .normal/\w'=w/\RO P n ops w Q [] σ'):=s_ ⟨rfl,rfl,h⟩
def vd(P:cR)(ops:bQ cA)(w:bM)(a:Act)(o:cA)(v:bL):Prop:=
 (Region.wanted o (yielded ops a.tmps)=true/\(execOp a.eval o).run P w = .ok (.value v) w)\/(Region.wanted o (yielded ops a.tmps)=false/\v=undef)
theorem IU{a:Act}{d:Nat}(hs:Sl n U a)(hk:nj o.op=true)(hd:o.dst=some d)(hdn:Nat.blt d n=true)(h:RO P n ops w Q (o::rest) U):
  ∃v,vd P ops w a o v/\RO P n ops w Q rest (cI U d v):=by
 have h1:=h a hs;unfold wpList at h1;split at h1
 ·rename_i hw
  rcases h1 with h1|⟨_,h1⟩
  ·unfold Oper.wp at h1
   cases hr:(execOp a.eval o).run P w with
   |ok nx w'=>
    rw[hr]at h1;obtain⟨v,rfl⟩:=vD hk hr;obtain⟨σ',hs',_,hw',hrest⟩:=h1;have hw':w'=w:=hw';subst hw';rw[hd]at hs';have:=hs'.uniq<|hs.put hdn v
    subst this;exact⟨v, .inl ⟨hw,hr⟩,hrest⟩
   |halt x w'=>
    rw[hr]at h1
    cases x with
    |panic v=>obtain⟨_,_,hbad,_⟩:=h1;cases hbad
    |_=>exact h1.elim
  ·obtain⟨_,_,_,_,hbad,_⟩:=h1;cases hbad
 ·rename_i hw;obtain⟨σ',hs',_,_,hrest⟩:=h1;rw[hd]at hs';have:=hs'.uniq<|hs.put hdn undef
  subst this;exact⟨undef, .inr ⟨by grind,rfl⟩,hrest⟩
def q3(U:Nat->bL):Z cA->Z bL->(Nat->bL)
 |o::l,v::vs=>q3 (match o.dst with|some d=>cI U d v|none=>U) l vs
 |_,_=>U
theorem IV:∀(l:Z cA)(U:Nat->bL)(a:Act),Sl n U a->(∀o∈l,nj o.op=true/\∃d,o.dst=some d/\Nat.blt d n=true)->RO P n ops w Q l U->
  ∃vs:Z bL,vs.length=l.length/\Q .normal (q3 U l vs) w/\∀(j:Nat)o v,l[j]? =some o->vs[j]? =some v->∃aj,Sl n (q3 U (l.take j)<|vs.take j) aj/\vd P ops w aj o v:=by
 intro l
 induction l with
 |nil=>intro U a hs _ h;exact⟨[],rfl,h,λj o v ho=>by simp at ho⟩
 |cons o l ih=>
  intro U a hs hk h;obtain⟨hk1,d,hd,hdn⟩:=hk o (by simp);obtain⟨v,hst,hrest⟩:=IU hs hk1 hd hdn h;obtain⟨vs,hl,hq,hj⟩:=ih (cI U d v) _ (hs.put hdn v) (λo' ho'=>hk o' (by simp[ho'])) hrest;refine⟨v::vs,by simp[hl],?_,λj o' v' ho hv=>?_⟩
  ·grind [q3]
  ·cases j with
   |zero=>
    simp at ho hv;subst ho;subst hv;exact⟨a,hs,hst⟩
   |succ j=>
    grind [q3]
theorem nk{t:Nat}:∀(l:Z cA)(vs:Z bL)(U:Nat->bL),(∀o∈l,o.dst≠some t)->q3 U l vs t=U t
 | [],_,U,_=>rfl
 |_::_,[],U,_=>rfl
 |o::l,v::vs,U,h=>by
  unfold q3;rw[nk l vs _<|λo' ho=>h o' (by simp[ho])]
  cases hd:o.dst with
  |none=>rfl
  |some d=>
   have hne:t≠d:=λe=>h o (by simp) (by rw[hd,e]);show cI U d v t=U t;unfold cI
   cases hb:Nat.beq t d with
   |true=>exact absurd (c9 hb) hne
   |false=>rfl
theorem ui{t:Nat}:∀(l:Z cA)(vs:Z bL)(U:Nat->bL)(j:Nat)(o:cA)(v:bL),l[j]? =some o->vs[j]? =some v->o.dst=some t->
  (∀(k:Nat)o',l[k]? =some o'->k≠j->o'.dst≠some t)->q3 U l vs t=v
 | [],_,_,_,_,_,h,_,_,_=>by simp at h
 |_::_,[],_,_,_,_,_,h,_,_=>by simp at h
 |o::l,v::vs,U,0,o',v',ho,hv,hd,hu=>by
  simp at ho hv;subst ho;subst hv;unfold q3
  rw[nk l vs _ (λo' ho=>by
   obtain⟨k,hk⟩:=List.mem_iff_getElem?.1 ho
   exact hu (k+1) o' (by grind) (by omega)),hd]
  show cI U t v t=v;unfold cI;rw[Nat.beq_refl];rfl
 |o::l,v::vs,U,j+1,o',v',ho,hv,hd,hu=>by
  unfold q3;exact ui l vs _ j o' v' (by grind) (by grind) hd<|λk o2 hk hne=>hu (k+1) o2 (by grind) (by omega)
def pF(o:cA)(k:Nat):Bool:=o.after.toList.any λe=>Region.binds .any e&&Nat.beq e.on k
def q4(ops:bQ cA)(o:cA)(d:Nat):Bool:=(o.looksAt ops).any λt=>Nat.beq t d
def rT(ops:bQ cA)(i:Nat)(o:cA)(k:Nat)(o':cA):Bool:=
 Nat.beq i k||match o'.dst with
  |some d=>(match o.dst with|some d2=> !Nat.beq d d2|none=>true)&&(!q4 ops o d||(bif Nat.blt k i then pF o k else pF o' i))
  |none=>false
def tw(ops:bQ cA)(i:Nat)(o:cA):Nat->Z cA->Bool
 |_,[]=>true
 |k,o'::l=>rT ops i o k o'&&tw ops i o (k+1) l
def vE(n:Nat)(ops:bQ cA)(l:Z cA):Nat->Z cA->Bool
 |_,[]=>true
 |i,o::l'=>nj o.op&&(match o.dst with|some d=>Nat.blt d n|none=>false)&&tw ops i o 0 l&&vE n ops l (i+1) l'
theorem pG{i:Nat}:∀{k:Nat}{l:Z cA},tw ops i o k l=true->∀(j:Nat)o',l[j]? =some o'->rT ops i o (k+j) o'=true
 |_,[],_,j,o',h=>by simp at h
 |k,p::l,hs,0,o',h=>by
  unfold tw at hs;rw[bY]at hs;simp at h;subst h;exact hs.1
 |k,p::l,hs,j+1,o',h=>by
  unfold tw at hs;rw[bY]at hs;have:=pG hs.2 j o' (by simpa using h);rw[show k+(j+1)=k+1+j by omega];exact this
theorem vF{l0:Z cA}:∀{i:Nat}{l:Z cA},vE n ops l0 i l=true->∀(j:Nat)o,l[j]? =some o->nj o.op=true/\(∃d,o.dst=some d/\Nat.blt d n=true)/\tw ops (i+j) o 0 l0=true
 |_,[],_,j,o',h=>by simp at h
 |i,p::l,hs,0,o',h=>by
  unfold vE at hs;simp only[bY]at hs;simp at h;subst h;refine⟨hs.1.1.1,?_,hs.1.2⟩;have:=hs.1.1.2
  cases hd:p.dst with
  |none=>rw[hd]at this;cases this
  |some d=>rw[hd]at this;exact⟨d,rfl,this⟩
 |i,p::l,hs,j+1,o',h=>by
  unfold vE at hs;simp only[bY]at hs;have:=vF hs.2 j o' (by simpa using h);rw[show i+(j+1)=i+1+j by omega];exact this
theorem jc{D:Nat->Bool}{k:Nat}:∀{l:Z Edge},jl D l->(l.any λe=>Region.binds .any e&&Nat.beq e.on k)=true->D k=true
 | [],_,h=>by cases h
 |e::l,hd,h=>by
  rw[List.any_cons,dK,bY]at h
  rcases h with⟨h1,h2⟩|h
  ·have:=hd.1 h1;rwa[c9 h2]at this
  ·exact jc hd.2 h
theorem mn{a a':Act}{U σ':Nat->bL}(hs:Sl n U a)(hs':Sl n σ' a')(h:∀t,q4 ops o t=true->U t=σ' t)(hsz:∀(g:Nat)o2 d,ops[g]? =some o2->o2.dst=some d->d<n):
  Region.wanted o (yielded ops a.tmps)=Region.wanted o (yielded ops a'.tmps):=by
 unfold Region.wanted;split
 ·rfl
 ·rename_i g want hg;have:yielded ops a.tmps g=yielded ops a'.tmps g:=by
   unfold yielded
   cases ho:ops[g]? with
   |none=>rfl
   |some o2=>
    cases hd:o2.dst with
    |none=>simp[hd]
    |some d=>
     have hlt:=hsz g o2 d ho hd
     have he:=h d (by
      unfold q4 Oper.looksAt
      simp_all)
     have h1:=hs.get d;have h2:=hs'.get d;have l1:d<a.tmps.size:=by rw[hs.size];exact hlt
     have l2:d<a'.tmps.size:=by rw[hs'.size];exact hlt
     simp_all
  rw[this]
theorem mo{F:Nat->cA->Prop}:∀{k:Nat}{l:Z cA},(∀(i:Nat)o,l[i]? =some o->F (k+i) o)->jR F k l
 |_,[],_=>trivial
 |k,p::l,h=>⟨h 0 p rfl,mo (λi o ho=>by have:=h (i+1) o (by grind);grind)⟩
theorem pH(D:Nat->Bool)(i:Nat):ins D i i=true:=by simp[ins,Nat.beq_refl]
theorem kh{D:Nat->Bool}{i j:Nat}(h:j≠i):ins D i j=D j:=by
 unfold ins
 simp_all
theorem Hg{id:Nat}{l:Z cA}(hm:P.follows .mixedOrders=true)(h:RO P n l.toArray w.drew Q l U)(hdep:nc 0 l=true:=by exact rfl)(hro:vE n l.toArray l 0 l=true:=by kernel_rfl):RC P n (.region id l.toArray true) U w Q:=by
 intro a0 ha0;have hA:=λj o(ho:l[j]? =some o)=>vF hro j o ho
 obtain⟨vs,hvl,hq,hst⟩:=IV l U a0 ha0 (λo ho=>by
  grind [List.mem_iff_getElem?]) h
 have hsz:∀(g:Nat)o2 d,l.toArray[g]? =some o2->o2.dst=some d->d<n:=λg o2 d ho hd=>by
  grind [Nat.blt_eq]
 have hdist:∀(i k:Nat)o o' t,l[i]? =some o->l[k]? =some o'->k≠i->o.dst=some t->o'.dst≠some t:=λi k o o' t ho ho' hne hd hd'=>by
  have hp:=pG (hA i o ho).2.2 k o' ho';unfold rT at hp
  simp_all
 refine HX (U:=U) (w:=w) hm hdep (λD σ' w'=>w'=w.drew/\(∀(i:Nat)o v t,l[i]? =some o->vs[i]? =some v->o.dst=some t->D i=true->σ' t=v)/\(∀t,(∀(i:Nat)o,l[i]? =some o->o.dst=some t->D i=false)->σ' t=U t)) ?_ ?_ ?_ a0 ha0
 ·simp
 ·refine mo λi o ho=>?_;rw[ez];rintro D σ' w' hD hdeps hcl⟨rfl,hJ1,hJ2⟩;obtain⟨hk,⟨d,hd,hdn⟩,hrow⟩:=hA i o ho;rw[ez]at hrow;have hiv:i<vs.length:=by grind
  obtain⟨ai,hsi,hstp⟩:=hst i o vs[i] ho<|aN hiv
  have hag:∀t,q4 l.toArray o t=true->q3 U (l.take i) (vs.take i) t=σ' t:=by
   intro t ht
   by_cases hex:∃(k:Nat)(o':cA),l[k]? =some o'/\o'.dst=some t
   ·obtain⟨k,o',ho',hd'⟩:=hex;have hkv:k<vs.length:=by rw[hvl];exact(bF.1 ho').1
    by_cases hki:k<i
    ·have hp:=pG hrow k o' ho';rw[ez]at hp;unfold rT at hp;rw[hd',dK]at hp
     rcases hp with hp|hp
     ·have:=c9 hp;omega
     simp only[bY,dK,Bool.not_eq_true']at hp;have hp2:=hp.2;rw[ht]at hp2
     rcases hp2 with hp2|hp2
     ·cases hp2
     have hb:Nat.blt k i=true:=by rw[Nat.blt_eq];exact hki
     rw[hb]at hp2;have hDk:=jc hdeps hp2;rw[hJ1 k o' vs[k] t ho' (aN hkv) hd' hDk];refine ui (l.take i) (vs.take i) U k o' vs[k] (by rw[dV,aK hki];exact ho') (by rw[dV,aK hki];exact aN hkv) hd' λk2 o2 hk2 hne=>?_;rw[dV]at hk2;split at hk2
     ·exact hdist k k2 o' o2 t ho' hk2 hne hd'
     ·cases hk2
    ·have hDk:D k=false:=by
      by_cases he:k=i
      ·subst he;exact hD
      ·have hp:=pG hrow k o' ho';rw[ez]at hp;unfold rT at hp;rw[hd',dK]at hp
       rcases hp with hp|hp
       ·have:=c9 hp;omega
       simp only[bY,dK,Bool.not_eq_true']at hp;have hp2:=hp.2;rw[ht]at hp2
       rcases hp2 with hp2|hp2
       ·cases hp2
       have hb:Nat.blt k i=false:=by
        cases hx:Nat.blt k i with
        |false=>rfl
        |true=>rw[Nat.blt_eq]at hx;omega
       rw[hb]at hp2;refine nf λhDk=>?_;have:=jc (hcl k o' ho' hDk) hp2;rw[hD]at this;cases this
     rw[hJ2 t λk2 o2 ho2 hd2=>?_]
     ·refine nk _ _ _ λo2 ho2 hd2=>?_;obtain⟨k2,hk2⟩:=List.mem_iff_getElem?.1 ho2;rw[dV]at hk2;split at hk2
      ·rename_i hlt;exact hdist k k2 o' o2 t ho' hk2 (by omega) hd' hd2
      ·cases hk2
     ·by_cases he:k2=k
      ·subst he;exact hDk
      ·exact absurd hd2<|hdist k k2 o' o2 t ho' ho2 he hd'
   ·rw[hJ2 t λk o' ho' hd'=>absurd ⟨k,o',ho',hd'⟩ hex];refine nk _ _ _ λo2 ho2 hd2=>?_;obtain⟨k2,hk2⟩:=List.mem_iff_getElem?.1 ho2;rw[dV]at hk2;split at hk2
    ·exact hex ⟨k2,o2,hk2,hd2⟩
    ·cases hk2
  intro a' hs';have hrun:execOp a'.eval o=execOp ai.eval o:=execOp_congr o (λcs b e=>by rw[e]at hk;cases hk) λx hx=>by
   rw[hs'.ev,hsi.ev]
   cases x with
   |tmp t=>
    refine(hag t ?_).symm;unfold q4 Oper.looksAt;rw[List.any_append,dK];left;rw[gU];exact⟨t,List.mem_filterMap.2 ⟨.tmp t,by simpa using hx,rfl⟩,Nat.beq_refl t⟩
   |_=>rfl
  have hwant:=mn (ops:=l.toArray) (o:=o) hsi hs' hag hsz;have hfin:∀v,vs[i]? =some v->(∀(k:Nat)o2 u t,l[k]? =some o2->vs[k]? =some u->o2.dst=some t->ins D i k=true->cI σ' d v t=u)/\(∀t,(∀(k:Nat)o2,l[k]? =some o2->o2.dst=some t->ins D i k=false)->cI σ' d v t=U t):=by
   intro v hv;refine⟨λk o2 u t ho2 hu hd2 hDk=>?_,λt ht=>?_⟩
   ·by_cases he:k=i
    ·subst he;rw[ho]at ho2;injection ho2 with ho2;subst ho2
     rw[hd]at hd2;injection hd2 with hd2;subst hd2
     rw[hv]at hu;injection hu with hu;subst hu
     unfold cI;rw[Nat.beq_refl];rfl
    ·rw[kh he]at hDk;have hne:t≠d:=λe=>by subst e;exact hdist i k o o2 t ho ho2 he hd hd2
     unfold cI
     cases hb:Nat.beq t d with
     |true=>exact absurd (c9 hb) hne
     |false=>exact hJ1 k o2 u t ho2 hu hd2 hDk
   ·have hne:t≠d:=λe=>by
     subst e;have:=ht i o ho hd;rw[pH]at this;cases this
    unfold cI
    cases hb:Nat.beq t d with
    |true=>exact absurd (c9 hb) hne
    |false=>
     refine hJ2 t λk o2 ho2 hd2=>?_;have:=ht k o2 ho2 hd2
     by_cases he:k=i
     ·subst he;exact hD
     ·rw[kh he]at this;exact this
  unfold wpList
  rcases hstp with⟨hw1,hr1⟩|⟨hw1,hv1⟩
  ·rw[hwant]at hw1;rw[aK hw1];left;unfold Oper.wp;rw[hrun,hr1];refine⟨cI σ' d vs[i],?_,rfl,rfl,hfin _<|aN hiv⟩;rw[hd];exact hs'.put hdn _
  ·rw[hwant]at hw1;rw[aL (by rw[hw1];exact Bool.false_ne_true)];refine⟨cI σ' d undef,?_,rfl,rfl,hfin _ (by rw[<-hv1];exact aN hiv)⟩;rw[hd];exact hs'.put hdn _
 ·rintro D σ' w' hall⟨rfl,hJ1,hJ2⟩;have:σ'=q3 U l vs:=by
   funext t
   by_cases hex:∃(k:Nat)(o':cA),l[k]? =some o'/\o'.dst=some t
   ·obtain⟨k,o',ho',hd'⟩:=hex;have hkl:=(bF.1 ho').1;have hkv:k<vs.length:=by rw[hvl];exact hkl
    rw[hJ1 k o' vs[k] t ho' (aN hkv) hd'<|hall k hkl];exact(ui l vs U k o' vs[k] ho' (aN hkv) hd' λk2 o2 hk2 hne=>hdist k k2 o' o2 t ho' hk2 hne hd').symm
   ·rw[hJ2 t λk o' ho' hd'=>absurd ⟨k,o',ho',hd'⟩ hex];refine(nk _ _ _ λo2 ho2 hd2=>?_).symm;obtain⟨k2,hk2⟩:=List.mem_iff_getElem?.1 ho2;exact hex ⟨k2,o2,hk2,hd2⟩
  rw[this];exact hq
end
def Cc:Z (Nat×bL)->Nat->bL
 | [],_=>undef
 |(d,v)::r,t=>bif Nat.beq d t then v else Cc r t
def yx:Z (Nat×Nat×bL)->Z (Nat×bL)->Nat->bL
 | [],ag,t=>Cc ag t
 |(_,d,v)::r,ag,t=>bif Nat.beq d t then v else yx r ag t
def Bt(dv:Z (Nat×Nat×bL))(ag:Z (Nat×bL)):bT->bL
 | .tmp t=>yx dv ag t
 | .const v=>v
 | .global g=> .pointer (some ⟨g,0,none⟩)
 | .func f=> .func (.func f) #[] #[]
def oz(ops:bQ cA)(o:cA):bT->Bool
 | .tmp t=>q4 ops o t
 |_=>true
def Pu(P:cR)(n:Nat)(ops:bQ cA)(o:cA)(dv:Z (Nat×Nat×bL))(ag:Z (Nat×bL)):Prop:=
 ∀(U:Nat->bL)(w:bM),(∀q,oz ops o q=true->ev U q=Bt dv ag q)->RL P n ops [o] U w (λex σ' w'=>ex = .normal/\w'=w/\∃d,o.dst=some d/\σ'=cI U d (yx dv ag d))
section
variable {P:cR}{n:Nat}{ops:bQ cA}{U:Nat->bL}{w:bM}{d:Nat}{v u:bL}{rest:Z cA}{ty T T':da}{pos:String}{af:bQ Edge}{g:aW (Nat×Bool)}{x y z:bT}{Q:dg}
theorem HD{f:Nat->bL}(h:v=f d):RL P n ops [] (cI U d v) w (λex σ' w'=>ex = .normal/\w'=w/\∃d',(some d:aW Nat)=some d'/\σ'=cI U d' (f d')):=
 by grind [s_]
theorem Wn.k{j t:Nat}{b:Bool}(h1:(ops[j]?).bind (·.dst)=some t)(h:ev U (.tmp t) = .bool b):Wn ops U (some (j,b)):=⟨t,h1,h⟩
theorem Wn.h{j t:Nat}{a b:Bool}(h1:(ops[j]?).bind (·.dst)=some t)(h:ev U (.tmp t) = .bool a)(e:a=b):Wn ops U (some (j,b)):=⟨t,h1,by rw[<-e];exact h⟩
end
def oA:Z (Nat×Nat×bL)->Nat->aW Nat
 | [],_=>none
 |(k,d,_)::r,t=>bif Nat.beq d t then some k else oA r t
def yy(ag:Z (Nat×bL))(t:Nat):Bool:=ag.any λp=>Nat.beq p.1 t
def Cw(ops:bQ cA)(i:Nat)(o:cA)(cs:Z Nat)(dv:Z (Nat×Nat×bL))(ag:Z (Nat×bL))(od:Z (Nat×Nat×bL)):Bool:=
 ((o.looksAt ops).all λt=>match oA dv t with|some k=>pF o k|none=>yy ag t)&&
 (match o.dst with
  |some d=>Nat.beq (oA dv d).isNone.toNat 0&&(dv.all λe=>(!Nat.beq e.1 i||Nat.beq e.2.1 d)&&(!Nat.beq e.2.1 d||Nat.beq e.1 i))&&Nat.beq (dv.filter λe=>Nat.beq e.2.1 d).length 1&& !yy ag d&&
    (od.all λe=>Nat.beq e.1 i|| !Nat.beq e.2.1 d)
  |none=>false)&&(cs.all λc=> !Nat.beq c i)&& !Nat.beq i 999
def vG(ops:bQ cA)(cs:Z Nat)(dv:Z (Nat×Nat×bL))(ag:Z (Nat×bL))(od:Z (Nat×Nat×bL)):Nat->Z cA->Z Nat->Bool
 |_,[],_=>true
 |_,_::_,[]=>false
 |i,o::l,m::ms=>(!Nat.beq m 1||Cw ops i o cs dv ag od)&&vG ops cs dv ag od (i+1) l ms
theorem vH{ops:bQ cA}{cs:Z Nat}{dv:Z (Nat×Nat×bL)}{ag:Z (Nat×bL)}{od:Z (Nat×Nat×bL)}:∀{i:Nat}{l:Z cA}{ms:Z Nat},vG ops cs dv ag od i l ms=true->
  ∀(j:Nat)o,l[j]? =some o->ms[j]? =some 1->Cw ops (i+j) o cs dv ag od=true
 |_,[],_,_,j,o,h,_=>by simp at h
 |_,_::_,[],h0,_,_,_,h=>by simp at h
 |i,p::l,m::ms,h0,0,o,h,hm=>by
  unfold vG at h0;rw[bY]at h0;simp at h hm;subst h;subst hm
  rcases dK _ _▸h0.1 with h|h
  ·cases h
  ·exact h
 |i,p::l,m::ms,h0,j+1,o,h,hm=>by
  unfold vG at h0;rw[bY]at h0;have:=vH h0.2 j o (by simpa using h) (by grind);rw[show i+(j+1)=i+1+j by omega];exact this
theorem qh{ag:Z (Nat×bL)}{t k:Nat}:∀{dv:Z (Nat×Nat×bL)},oA dv t=some k->∃v,(k,t,v)∈dv/\yx dv ag t=v
 | [],h=>by cases h
 |(k',d,v)::r,h=>by
  unfold oA at h;unfold yx
  cases hb:Nat.beq d t with
  |true=>
   rw[hb]at h;simp at h;subst h;have:=c9 hb;subst this;exact⟨v,by simp,rfl⟩
  |false=>
   rw[hb]at h;obtain⟨u,h1,h2⟩:=qh (ag:=ag) h;exact⟨u,by simp[h1],h2⟩
theorem rU{ag:Z (Nat×bL)}{t:Nat}:∀{dv:Z (Nat×Nat×bL)},oA dv t=none->yx dv ag t=Cc ag t
 | [],_=>rfl
 |(k',d,v)::r,h=>by
  unfold oA at h;unfold yx
  cases hb:Nat.beq d t with
  |true=>rw[hb]at h;cases h
  |false=>rw[hb]at h;exact rU h
theorem cN.mem{D:Nat->Bool}{U:Nat->bL}{k t:Nat}{v:bL}:∀{dv:Z (Nat×Nat×bL)},cN D U dv->(k,t,v)∈dv->D k=true->U t=v
 | [],_,h,_=>by cases h
 |(i,d,u)::r,hd,h,hD=>by
  rcases fB.1 h with e|h
  ·injection e with e1 e2;injection e2 with e2 e3;subst e1;subst e2;subst e3;exact hd.1 hD
  ·exact hd.2.mem h hD
theorem cN.of{D:Nat->Bool}{U:Nat->bL}:∀{dv:Z (Nat×Nat×bL)},(∀k t v,(k,t,v)∈dv->D k=true->U t=v)->cN D U dv
 | [],_=>trivial
 |(i,d,u)::r,h=>⟨h i d u (by simp),cN.of λk t v hm=>h k t v (by simp[hm])⟩
theorem agree.Cc{U:Nat->bL}{t:Nat}:∀{ag:Z (Nat×bL)},agree U ag->yy ag t=true->U t=Cc ag t
 | [],_,h=>by cases h
 |(d,v)::r,ha,h=>by
  unfold Gk.Cc
  cases hb:Nat.beq d t with
  |true=>have:=c9 hb;subst this;exact ha.1
  |false=>
   unfold yy at h;rw[List.any_cons,hb]at h;exact agree.Cc ha.2 h
theorem agree.FR{U:Nat->bL}{d:Nat}{v:bL}:∀{ag:Z (Nat×bL)},agree U ag->yy ag d=false->agree (cI U d v) ag
 | [],_,_=>trivial
 |(t,u)::r,ha,h=>by
  unfold yy at h;rw[List.any_cons,Bool.or_eq_false_iff]at h;refine⟨?_,agree.FR ha.2 h.2⟩;unfold cI;rw[h.1];exact ha.1
theorem Ho{P:cR}{n:Nat}{U:Nat->bL}{w:bM}(E:bM){Q:dg}(V:Z HP){X:Type}{id:Nat}{l:Z cA}(hm:P.follows .mixedOrders=true)(ms cs:Z Nat)(dv:X->Z (Nat×Nat×bL))(ag:Z (Nat×bL))(od:Z (Nat×Nat×bL))(g:(Nat->Bool)->X->Z HP)(hpu:∀x,vG l.toArray cs (dv x) ag od 0 l ms=true)(h0:∃x,cN (λ_=>false) U (dv x)/\agree U ag/\lO (λ_=>false) U od/\Holds E w.drew (g (λq=>(λ_=>false) (cs.getD q 999)) x++V))(step:jR (λi o=>bif Nat.beq (ms.getD i 0) 1 then(∀x,Pu P n l.toArray o (dv x) ag)else
   (∀D U w,D i=false->jl D o.after.toList->mj l D->(∃x,cN D U (dv x)/\agree U ag/\lO D U od/\Holds E w (g (λq=>D (cs.getD q 999)) x++V))->
    RL P n l.toArray [o] U w (λex U w=>ex = .normal/\∃x,cN (ins D i) U (dv x)/\agree U ag/\lO (ins D i) U od/\Holds E w (g (λq=>ins D i (cs.getD q 999)) x++V)))) 0 l) (hend:∀D U w,(∀i,i<l.length->D i=true)->(∃x,cN D U (dv x)/\agree U ag/\lO D U od/\Holds E w (g (λq=>D (cs.getD q 999)) x++V))->Q .normal U w) (hdep:nc 0 l=true:=by exact rfl):RC P n (.region id l.toArray true) U w Q:=by
 refine HX hm hdep (λD U w=>∃x,cN D U (dv x)/\agree U ag/\lO D U od/\Holds E w (g (λq=>D<|cs.getD q 999) x++V)) h0 ?_ hend;refine mo λi o ho=>?_;have hs:=step.at i o ho;rw[ez]at hs ⊢
 cases hmi:Nat.beq (ms.getD i 0) 1 with
 |false=>grind
 |true=>
  rw[hmi]at hs;have hs:∀x,Pu P n l.toArray o (dv x) ag:=hs;have hms:ms[i]? =some 1:=by
   grind [c9]
  rintro D U w hD hdeps hcl⟨x,hv,ha,hod,hw⟩;have hok:=vH (hpu x) i o ho hms;rw[ez]at hok;unfold Cw at hok;simp only[bY]at hok;obtain⟨⟨⟨h1,h2⟩,h3⟩,h4⟩:=hok;have hsee:∀q,oz l.toArray o q=true->ev U q=Bt (dv x) ag q:=by
   intro q hq
   cases q with
   |tmp t=>
    have ht:t∈o.looksAt l.toArray:=by
     grind [oz,q4,gU,c9]
    have h1t:=ik.1 h1 t ht;show U t=yx (dv x) ag t
    cases hf:oA (dv x) t with
    |some k=>
     rw[hf]at h1t;obtain⟨v,hm,hv2⟩:=qh (ag:=ag) hf;rw[hv2];exact hv.mem hm<|jc hdeps h1t
    |none=>
     rw[hf]at h1t;rw[rU hf];exact ha.Cc h1t
   |const v=>rfl
   |global g=>rfl
   |func f=>rfl
  have hrun:=hs x U w hsee;intro a haa;have hr:=hrun a haa
  cases hdst:o.dst with
  |none=>rw[hdst]at h2;cases h2
  |some d=>
   rw[hdst]at h2;simp only[bY]at h2;obtain⟨⟨⟨⟨e1,e2⟩,e3⟩,e4⟩,e5⟩:=h2;obtain⟨k0,hf⟩:∃k,oA (dv x) d=some k:=by
    cases hf:oA (dv x) d with
    |some k=>exact⟨k,rfl⟩
    |none=>rw[hf]at e1;cases e1
   obtain⟨v,hmv,hv2⟩:=qh (ag:=ag) hf;have fin:∀σ',σ'=cI U d v->∃x,cN (ins D i) σ' (dv x)/\agree σ' ag/\lO (ins D i) σ' od/\Holds E w (g (λq=>ins D i<|cs.getD q 999) x++V):=by
    rintro σ' rfl
    refine⟨x,cN.of λk t u hm hDk=>?_,ha.FR (by simpa using e4),hod.up (by
     rw[ik];intro e he;have:=ik.1 e5 e he
     exact this),?_⟩
    ·have he:=ik.1 e2 (k,t,u) hm;simp only[bY,dK,Bool.not_eq_true']at he
     by_cases htd:t=d
     ·subst htd;have hlen:=c9 e3;have hm1:(k,t,u)∈(dv x).filter λe=>Nat.beq e.2.1 t:=by rw[ji];exact⟨hm,Nat.beq_refl t⟩
      have hm2:(k0,t,v)∈(dv x).filter λe=>Nat.beq e.2.1 t:=by rw[ji];exact⟨hmv,Nat.beq_refl t⟩
      obtain⟨z,hz⟩:=List.length_eq_one_iff.1 hlen;rw[hz]at hm1 hm2;simp at hm1 hm2;have:=hm1.trans hm2.symm;injection this with _ this;injection this with _ this
      subst this;unfold cI;rw[Nat.beq_refl];rfl
     ·have hki:k≠i:=λe=>by
       subst e
       rcases he.1 with h|h
       ·rw[Nat.beq_refl]at h;cases h
       ·exact htd<|c9 h
      rw[kh hki]at hDk;unfold cI
      cases hb:Nat.beq t d with
      |true=>exact absurd (c9 hb) htd
      |false=>exact hv.mem hm hDk
    ·have:(λq=>ins D i<|cs.getD q 999)=(λq=>D<|cs.getD q 999):=by
      funext q;refine kh λe=>?_;rw[List.getD_eq_getElem?_getD]at e
      cases hq:cs[q]? with
      |some c=>
       rw[hq]at e;have hc:=ik.1 h3 c<|dJ hq
       have e:c=i:=e;subst e;rw[Nat.beq_refl]at hc;cases hc
      |none=>
       rw[hq]at e;have e:999=i:=e;subst e;cases h4
     rw[this];exact hw
   unfold wpList at hr ⊢;split at hr
   ·rename_i hwn;rw[aK hwn]
    rcases hr with hr|⟨h2,h3⟩
    ·refine .inl<|rK (λa w' h=>?_) (λc a w' h=>?_) (λh=>?_) hr
     ·obtain⟨σ',hs',_,hw',d',hd',he⟩:=h;have hd':some d=some d':=by rw[<-hdst];exact hd'
      injection hd' with hd';subst hd'
      have hw':w'=w:=hw';subst hw';exact⟨σ',hs',rfl,fin σ' (by rw[he,hv2])⟩
     ·obtain⟨_,_,hbad,_⟩:=h;cases hbad
     ·obtain⟨_,_,_,_,hbad,_⟩:=h;cases hbad
    ·obtain⟨_,_,_,_,hbad,_⟩:=h3;cases hbad
   ·rename_i hwn;rw[aL hwn];obtain⟨σ',hs',_,hw',d',hd',he⟩:=hr;have hd':some d=some d':=by rw[<-hdst];exact hd'
    injection hd' with hd';subst hd'
    exact⟨σ',hs',rfl,fin σ' (by rw[he,hv2])⟩
section
variable {P:cR}{n:Nat}{ops:bQ cA}{d:Nat}{v u:bL}{ty T T' t0:da}{pos:String}{af:bQ Edge}{g:aW (Nat×Bool)}{q r y z:bT}{dv:Z (Nat×Nat×bL)}{ag:Z (Nat×bL)}{a b:Bool}{o:cA}
def PG(ops:bQ cA)(o:cA)(dv:Z (Nat×Nat×bL))(ag:Z (Nat×bL))(g:aW (Nat×Bool)):Prop:=∀U:Nat->bL,(∀q,oz ops o q=true->ev U q=Bt dv ag q)->Wn ops U g
theorem gn:PG ops o dv ag none:=λ_ _=>trivial
theorem pI(hg:PG ops ⟨some d, .move q,ty,pos,af,g⟩ dv ag g)(h:(Nat.blt d n,oz ops ⟨some d, .move q,ty,pos,af,g⟩ q,Bt dv ag q)=(true,true,yx dv ag d):=by exact rfl):Pu P n ops ⟨some d, .move q,ty,pos,af,g⟩ dv ag:=λU w hs=>by
 injection h with h1 h;injection h with h2 h3
 exact AI (hd:=h1) (hx:=hs _ h2) _ (hg U hs)<|HD h3
theorem Bu(hg:PG ops ⟨some d, .assign q,ty,pos,af,g⟩ dv ag g)(h:(Nat.blt d n,oz ops ⟨some d, .assign q,ty,pos,af,g⟩ q,Bt dv ag q)=(true,true,yx dv ag d)):Pu P n ops ⟨some d, .assign q,ty,pos,af,g⟩ dv ag:=λU w hs=>by
 injection h with h1 h;injection h with h2 h3
 exact H9 (hg U hs) h1 (hs _ h2)<|HD h3
theorem yz{c:Addr}(hg:PG ops ⟨some d, .nilCheck q,ty,pos,af,g⟩ dv ag g)(h:(Nat.blt d n,oz ops ⟨some d, .nilCheck q,ty,pos,af,g⟩ q,Bt dv ag q,yx dv ag d)=(true,true, .pointer<|some c, .pointer<|some c):=by exact rfl):Pu P n ops ⟨some d, .nilCheck q,ty,pos,af,g⟩ dv ag:=λU w hs=>by
 injection h with h1 h;injection h with h2 h;injection h with h3 h4
 exact G1 (hg:=hg U hs) (hd:=h1) ((hs _ h2).trans h3)<|HD h4.symm
theorem mq{c o' j m:Nat}(hg:PG ops ⟨some d, .fieldAddr T q j,ty,pos,af,g⟩ dv ag g)(hf:pj P T j m)(h:(Nat.blt d n,oz ops ⟨some d, .fieldAddr T q j,ty,pos,af,g⟩ q,Bt dv ag q,yx dv ag d)=(true,true, .pointer<|some ⟨c,o',none⟩, .pointer<|some ⟨c,o'+m,none⟩):=by exact rfl):
  Pu P n ops ⟨some d, .fieldAddr T q j,ty,pos,af,g⟩ dv ag:=λU w hs=>by
 injection h with h1 h;injection h with h2 h;injection h with h3 h4
 exact v_ (hg:=hg U hs) (hd:=h1) ((hs _ h2).trans h3) hf<|HD h4.symm
theorem Db{bop:BinOp}{K:IntKind}{m k:Int}(hg:PG ops ⟨some d, .binOp bop T q r T',ty,pos,af,g⟩ dv ag g)
  (h:(Nat.blt d n,oz ops ⟨some d, .binOp bop T q r T',ty,pos,af,g⟩ q,oz ops ⟨some d, .binOp bop T q r T',ty,pos,af,g⟩ r,Bt dv ag q,Bt dv ag r,C5 bop,yx dv ag d)=(true,true,true, .int K m, .int K k,true, .int K<|K.wrap<|jF bop m k)):
  Pu P n ops ⟨some d, .binOp bop T q r T',ty,pos,af,g⟩ dv ag:=λU w hs=>by
 injection h with h1 h;injection h with h2 h;injection h with h3 h;injection h with h4 h;injection h with h5 h;injection h with h6 h7
 exact E_ (hg:=hg U hs) (hd:=h1) (hx:=(hs _ h2).trans h4) (hy:=(hs _ h3).trans h5) (hc:=h6) _ _<|HD h7.symm
end
end Go.Gk
