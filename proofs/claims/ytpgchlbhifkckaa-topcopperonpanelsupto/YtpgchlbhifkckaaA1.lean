/-
  Helping texts on the memory of the model. No statement of the seed is proved here.
-/
import Derived.Tactics
import Derived.Orders
import Derived.Maps.AppendAt
import Derived.Laws.Tables
import Derived.Laws.CopyRow
import Derived.KernelRfl
import Derived.Laws.Cells
import Derived.Laws.Strings
import Derived.Lib.Strings
import Derived.Laws.AppendOwn
import Derived.Laws.Externs
import Derived.Lib.Bytealg
import Derived.Laws.OwnMore
import Derived.MapKept
import Derived.Laws.Append
import Derived.Sort.AssemblyPlain
import Derived.Sort.Defs
import Derived.Sort.Statements
import Derived.Lib.BitFns
set_option linter.unusedVariables false
set_option linter.unusedSimpArgs false
set_option linter.unusedSectionVars false
namespace Go.Gk
open Go IntKind
theorem aO:∀{α:Type _}{l:List α}{i:Nat}(h:i<l.length),l[i]? =some l[i]:= @List.getElem?_eq_getElem
theorem aV:∀{α:Type _}{i:Nat}{a:α}{l:List α},l[i]? =some a↔∃h,l[i]=a:= @List.getElem?_eq_some_iff
theorem fU:∀{α:Type _}{i:Nat}{l:List α}(h:i<l.length),List.take (i+1) l=List.take i l++[l[i]]:= @List.take_succ_eq_append_getElem
theorem dK:∀(n:Nat),((n:Nat):Int).toNat=n:= @Int.toNat_natCast
theorem dO:∀{α:Type _}{l:List α}{n:Nat}(h:n<l.length),l[n]∈l:= @List.getElem_mem
theorem fH:∀{α:Type _}{β:Type _}{a0:List α}(f:α->β),(List.map f a0).length=a0.length:= @List.length_map
theorem bI:∀(a b:Bool),((a&&b)=true)=(a=true/\b=true):= @Bool.and_eq_true
theorem dL:∀{α:Type _}{a0 bs:List α},(a0++bs).length=a0.length+bs.length:= @List.length_append
theorem dA:∀{α:Type _}{a:α}{s t:List α},a∈s++t↔a∈s\/a∈t:= @List.mem_append
theorem dX:∀{α:Type _}{l:List α}{i:Nat}{a:α},l[i]? =some a->a∈l:= @List.mem_of_getElem?
theorem fO:∀{α:Type _}{β:Type _}{f:α->β}{l₁ l₂:List α},List.map f (l₁++l₂)=List.map f l₁++List.map f l₂:= @List.map_append
theorem cL:∀{n m:Nat},n.beq m=true->n=m:= @Nat.eq_of_beq_eq_true
theorem dB:∀{α:Type _}{l:List α}{i j:Nat},(List.take i l)[j]? =if j<i then l[j]? else none:= @List.getElem?_take
theorem eW:∀{α:Type _}{xs:List α}{i j:Nat},(List.drop i xs)[j]? =xs[i+j]? := @List.getElem?_drop
theorem dQ:∀{α:Type _}{xs:Array α}{i:Nat}(h:i<xs.size),xs[i]? =some xs[i]:= @Array.getElem?_eq_getElem
theorem fP:∀{α:Type _}{l₁ l₂:List α}{i:Nat},i<l₁.length->(l₁++l₂)[i]? =l₁[i]? := @List.getElem?_append_left
theorem eX:∀{α:Type _}{l₁ l₂:List α}{i:Nat},l₁.length<=i->(l₁++l₂)[i]? =l₂[i - l₁.length]? := @List.getElem?_append_right
theorem aW:∀{α:Sort _}(a b:α),(bif true then a else b)=a:= @cond_true
theorem bN:∀{α:Sort _}(a b:α),(bif false then a else b)=b:= @cond_false
theorem aZ:∀{α:Type _}{β:Type _}{b:β}{f:α->β}{l:List α},b∈List.map f l↔∃a,a∈l/\f a=b:= @List.mem_map
theorem iY:∀{α:Type _}{p:α->Bool}{a0:List α}{x:α},x∈List.filter p a0↔x∈a0/\p x=true:= @List.mem_filter
theorem eE:∀{α:Type _}{b:α}{l:List α}{a:α},a∈b::l↔a=b\/a∈l:= @List.mem_cons
theorem g9:∀{α:Type _}{a:α}{a0:List α},(a::a0).length=a0.length+1:= @List.length_cons
theorem cV:∀{α:Type _}{i:Nat}{l:List α},(List.take i l).length=min i l.length:= @List.length_take
theorem kb:∀{α:Type _}(a0 bs cs:List α),a0++bs++cs=a0++(bs++cs):= @List.append_assoc
theorem gH:∀{α:Type _}{i:Nat}{l:List α},(List.drop i l).length=l.length - i:= @List.length_drop
theorem iZ:∀{α:Type _}{a b:α},a∈[b]↔a=b:= @List.mem_singleton
theorem gI:∀{α:Type _}{R:α->α->Prop},List.Pairwise R []:= @List.Pairwise.nil
theorem fu:∀{α:Type _}{l:List α},List.take l.length l=l:= @List.take_length
theorem kc:∀{α:Type _}(y:α){a:α}{l:List α},a∈l->a∈y::l:= @List.mem_cons_of_mem
theorem ec:∀(a b:Bool),((a||b)=true)=(a=true\/b=true):= @Bool.or_eq_true
theorem jw:∀{a b:Bool},a=b↔(a=true↔b=true):= @Bool.eq_iff_iff
theorem gJ:∀{α:Type _}{l:List α}{i j:Nat}{a:α},(l.set i a)[j]? =if i=j then if i<l.length then some a else none else l[j]? := @List.getElem?_set
theorem fw:∀{α:Type _}{a0:List α}{i:Nat}{a:α},(a0.set i a).length=a0.length:= @List.length_set
theorem lX:∀{α:Type _}{i:Nat}{l:List α},l.length<=i->List.take i l=l:= @List.take_of_length_le
theorem aK:∀{α β:Type}(a:α)(w:World)(f:α->World->Result β),(Result.ok a w).andThen f=f a w:= @Result.andThen_ok
theorem aJ:∀{α β:Type}(P:Program)(w:World)(x:Sem α)(f:α->Sem β),Sem.run P (x >>= f) w=(Sem.run P x w).andThen λa w'=>Sem.run P (f a) w':= @Sem.run_bind
theorem aL:∀{α:Type}(P:Program)(w:World)(a:α),Sem.run P (pure a) w=Result.ok a w:= @Sem.run_pure
theorem bB:∀(n:Nat),n<=n:= @Nat.le_refl
theorem kd:∀(n:Nat),0<=n:= @Nat.zero_le
theorem gK:∀{n m k:Nat},n<=m->m<=k->n<=k:= @Nat.le_trans
theorem eN:∀(n:Nat),0+n=n:= @Nat.zero_add
theorem gm:∀{α:Type _}(a0:List α),a0++[]=a0:= @List.append_nil
theorem ee:∀{α:Type _}{β:Type _}{f:α->β}{a:α}{l:List α},List.map f (a::l)=f a::List.map f l:= @List.map_cons
theorem ke:∀{α:Type _}{R:α->α->Prop}{l:List α},List.Pairwise R l↔∀(i j:Nat)(_hi:i<l.length)(_hj:j<l.length),i<j->R l[i] l[j]:= @List.pairwise_iff_getElem
theorem jy:∀{α:Type _}(p:α->Bool)(l:List α),(List.filter p l).length<=l.length:= @List.length_filter_le
theorem i5:∀{α:Type _}{p:α->Bool}{l:List α},l.any p=true↔∃x,x∈l/\p x=true:= @List.any_eq_true
theorem gp:∀{α:Type _}{p:α->Bool}{l:List α},l.all p=true↔∀(x:α),x∈l->p x=true:= @List.all_eq_true
theorem eY:∀{p:Prop}[Decidable p],(decide p=true)=p:= @decide_eq_true_eq
theorem cS{p:Prop}[Decidable p]:p->decide p=true:=decide_eq_true
theorem cP{p:Prop}[Decidable p]:¬p->decide p=false:=decide_eq_false
theorem eZ{α:Type _}{a:α}{l:List α}:a∈l->∃i:Nat,l[i]? =some a:=List.getElem?_of_mem
theorem aG{c:Prop}{h:Decidable c}(hc:c){α:Sort _}{t e:α}:(if c then t else e)=t:=if_pos hc
theorem aI{c:Prop}{h:Decidable c}(hc:¬c){α:Sort _}{t e:α}:(if c then t else e)=e:=if_neg hc
abbrev bV:=Nat->Option Obj
def j7:bV:=λ_=>none
def one(g:Nat)(o:Obj):bV:=λb=>if b=g then some o else none
def kf(M h:bV):bV:=λb=>match M b with|some o=>some o|none=>h b
def hle(M M':bV):Prop:=∀b o,M b=some o->M' b=some o
theorem vP(M:bV):hle M M:=λ_ _ h=>h
theorem uU{A B C:bV}(h:hle A B)(k:hle B C):hle A C:=λb o e=>k b o<|h b o e
theorem oX(M h:bV):hle M (kf M h):=λb o e=>by simp[kf,e]
theorem fa{g b:Nat}{o o':Obj}(h:one g o b=some o'):b=g/\o=o':=by
 grind [one]
theorem bM(g:Nat)(o:Obj):one g o g=some o:=by simp[one]
structure HP where
 ok:bV->bV->Prop
 mono:∀{M M' h:bV},hle M M'->ok M h->ok M' h
def bP:HP:=⟨λ_ _=>True,λ_ h=>h⟩
structure Good (E w:World) (M:bV) (hs:Nat->bV) (V:List HP):Prop where
 os:w.os=E.os
 tape:w.tape=E.tape
 out:w.output=E.output
 dr:E.drawn<=w.drawn
 im:∀b o,M b=some o->w.heap[b]? =some o
 sat:∀i(P:HP),V[i]? =some P->P.ok M (hs i)
 le:∀i b o,i<V.length->hs i b=some o->w.heap[b]? =some o
 dm:∀i b o,i<V.length->hs i b=some o->M b=none
 dj:∀i j b o,i<V.length->j<V.length->i≠j->hs i b=some o->hs j b=none
def Holds(E w:World)(V:List HP):Prop:=∃M hs,Good E w M hs V
theorem bK{V:List HP}{i:Nat}{P:HP}(h:V[i]? =some P):i<V.length:=(aV.1 h).1
section
variable {E w w':World}{M:bV}{hs:Nat->bV}{V Γ':List HP}{P P':HP}{i:Nat}
def r7(h:bV)(hs:Nat->bV):Nat->bV
 | 0=>h
 |i+1=>hs i
def iM(hs:Nat->bV)(i:Nat)(h:bV):Nat->bV:=λj=>if j=i then h else hs j
theorem Good.cons(g:Good E w M hs V)(h:bV)(hp:P.ok M h)(hle':∀b o,h b=some o->w.heap[b]? =some o)
  (hdm:∀b o,h b=some o->M b=none) (hdj:∀j b o,j<V.length->h b=some o->hs j b=none):
  Good E w M (r7 h hs) (P::V)where
 os:=g.os
 tape:=g.tape
 out:=g.out
 dr:=g.dr
 im:=g.im
 sat:=λi Q hq=>by
  cases i with
  |zero=>simp at hq;subst hq;exact hp
  |succ i=>exact g.sat i Q (by grind)
 le:=λi b o hi hb=>by
  cases i with
  |zero=>exact hle' b o hb
  |succ i=>exact g.le i b o (by grind) hb
 dm:=λi b o hi hb=>by
  cases i with
  |zero=>exact hdm b o hb
  |succ i=>exact g.dm i b o (by grind) hb
 dj:=λi j b o hi hj hne hb=>by
  cases i with
  |zero=>
   cases j with
   |zero=>exact absurd rfl hne
   |succ j=>exact hdj j b o (by grind) hb
  |succ i=>
   cases j with
   |zero=>
    simp only[r7]at hb ⊢
    cases e:h b with
    |none=>rfl
    |some o'=>have:=hdj i b o' (by grind) e;rw[this]at hb;cases hb
   |succ j=>exact g.dj i j b o (by grind) (by grind) (by omega) hb
theorem Good.dS(g:Good E w M hs V)(hp:P.ok M j7):Good E w M (r7 j7 hs) (P::V):=
 g.cons j7 hp (λ_ _ h=>by cases h) (λ_ _ h=>by cases h) (λ_ _ _ _ h=>by cases h)
theorem Good.world(g:Good E w M hs V)(h1:w'.os=w.os)(h2:w'.tape=w.tape)(h3:w'.output=w.output)
  (hk:∀b,b<w.heap.size->w'.heap[b]? =w.heap[b]?) (h0:w.drawn<=w'.drawn:=by first|exact bB _|exact Nat.le_succ _):Good E w' M hs V:=by
 have key:∀b o,w.heap[b]? =some o->w'.heap[b]? =some o:=λb o h=>by
  rw[hk b<|(Array.getElem?_eq_some_iff.1 h).1];exact h
 exact⟨h1.trans g.os,h2.trans g.tape,h3.trans g.out,gK g.dr h0,λb o h=>key b o (g.im b o h),g.sat,
  λi b o hi h=>key b o (g.le i b o hi h),g.dm,g.dj⟩
theorem Good.update(g:Good E w M hs V)(hi:i<V.length)(h':bV)(hp:P'.ok M h')
  (h1:w'.os=w.os) (h2:w'.tape=w.tape) (h3:w'.output=w.output)
  (hle':∀b o,h' b=some o->w'.heap[b]? =some o)
  (hdom:∀b o,h' b=some o->(∃o',hs i b=some o')\/w.heap.size<=b)
  (hk:∀b,hs i b=none->b<w.heap.size->w'.heap[b]? =w.heap[b]?) (h0:w.drawn<=w'.drawn:=by first|exact bB _|exact Nat.le_succ _):
  Good E w' M (iM hs i h') (V.set i P'):=by
 have lt:∀b o,w.heap[b]? =some o->b<w.heap.size:=λb o h=>(Array.getElem?_eq_some_iff.1 h).1;refine⟨h1.trans g.os,h2.trans g.tape,h3.trans g.out,gK g.dr h0,λb o h=>?_,λj Q hq=>?_,λj b o hj hb=>?_,λj b o hj hb=>?_,λj k b o hj hk' hne hb=>?_⟩
 ·have hw:=g.im b o h;rw[hk b ?_<|lt b o hw];exact hw
  cases e:hs i b with
  |none=>rfl
  |some o'=>have:=g.dm i b o' hi e;grind
 ·rw[gJ]at hq;unfold iM
  by_cases e:i=j
  ·grind
  ·rw[aI e]at hq;rw[aI<|λh=>e h.symm];exact g.sat j Q hq
 ·rw[fw]at hj;unfold iM at hb;split at hb
  ·grind
  ·rename_i e;have hw:=g.le j b o hj hb;rw[hk b (g.dj j i b o hj hi e hb)<|lt b o hw];exact hw
 ·rw[fw]at hj;unfold iM at hb;split at hb
  ·rcases hdom b o hb with⟨o',h'⟩|h'
   ·exact g.dm i b o' hi h'
   ·cases e:M b with
    |none=>rfl
    |some o'=>exact absurd (lt b o' (g.im b o' e)) (by omega)
  ·exact g.dm j b o hj hb
 ·rw[fw]at hj hk';unfold iM at hb ⊢;split at hb
  ·rename_i e;rw[aI<|λh=>hne<|e.trans h.symm]
   rcases hdom b o hb with⟨o',h'⟩|h'
   ·exact g.dj i k b o' hi hk' (λh=>hne<|e.trans h) h'
   ·cases e':hs k b with
    |none=>rfl
    |some o'=>exact absurd (lt b o' (g.le k b o' hk' e')) (by omega)
  ·rename_i e;split
   ·cases e':h' b with
    |none=>rfl
    |some o'=>
     rcases hdom b o' e' with⟨o'',h''⟩|h''
     ·have:=g.dj i j b o'' hi hj (λh=>e h.symm) h'';grind
     ·exact absurd (lt b o<|g.le j b o hj hb) (by omega)
   ·exact g.dj j k b o hj hk' hne hb
theorem Good.freeze(g:Good E w M hs V)(hi:i<V.length)(hp:P'.ok (kf M<|hs i) j7):
  Good E w (kf M<|hs i) (iM hs i j7) (V.set i P'):=by
 refine⟨g.os,g.tape,g.out,g.dr,λb o h=>?_,λj Q hq=>?_,λj b o hj hb=>?_,λj b o hj hb=>?_,λj k b o hj hk' hne hb=>?_⟩
 ·unfold kf at h
  cases e:M b with
  |none=>rw[e]at h;exact g.le i b o hi h
  |some o'=>rw[e]at h;simp at h;subst h;exact g.im b _ e
 ·rw[gJ]at hq;unfold iM
  by_cases e:i=j
  ·grind
  ·rw[aI e]at hq;rw[aI<|λh=>e h.symm];exact Q.mono (oX _ _)<|g.sat j Q hq
 ·rw[fw]at hj;unfold iM at hb;split at hb
  ·cases hb
  ·exact g.le j b o hj hb
 ·rw[fw]at hj;unfold iM at hb;split at hb
  ·cases hb
  ·rename_i e;simp only[kf,g.dm j b o hj hb];exact g.dj j i b o hj hi e hb
 ·rw[fw]at hj hk';unfold iM at hb ⊢;split at hb
  ·cases hb
  ·split
   ·rfl
   ·exact g.dj j k b o hj hk' hne hb
theorem Good.pick(g:Good E w M hs V)(f:Nat->Nat)(hlt:∀i,i<Γ'.length->f i<V.length)(hget:∀i,i<Γ'.length->Γ'[i]? =V[f i]?)
  (hinj:∀i j,i<Γ'.length->j<Γ'.length->i≠j->f i≠f j):Good E w M (λi=>hs<|f i) Γ':=
 ⟨g.os,g.tape,g.out,g.dr,g.im,λi Q hq=>g.sat (f i) Q (by grind),
  λi b o hi hb=>g.le (f i) b o (hlt i hi) hb,λi b o hi hb=>g.dm (f i) b o (hlt i hi) hb,
  λi j b o hi hj hne hb=>g.dj (f i) (f j) b o (hlt i hi) (hlt j hj) (hinj i j hi hj hne) hb⟩
theorem Holds.drop(k:Nat)(h:Holds E w V)(hd:V.drop k=Γ':=by exact rfl):Holds E w Γ':=by
 obtain⟨M,hs,g⟩:=h;subst hd;exact⟨M,_,g.pick (λi=>k+i) (λi hi=>by grind) (λi _=>by rw[eW]) (λi j _ _ h=>by omega)⟩
theorem Holds.pick(h:Holds E w V)(m:Nat)(idx:List Nat){Γ0 new:List HP}(hd:V.drop m=Γ0)(hg:idx.map (λi=>V[i]?)=new.map some)
  (hn:idx.Nodup) (hm:∀i∈idx,i<m):Holds E w (new++Γ0):=by
 obtain⟨M,hs,g⟩:=h;have hlen:idx.length=new.length:=by have:=congrArg List.length hg;grind
 have hat:∀i,i<idx.length->V[idx.getD i 0]? =new[i]? :=λi hi=>by
  have:=congrArg (·[i]?) hg
  grind
 have hm':∀i,i<idx.length->idx.getD i 0<m:=λi hi=>by
  simp_all
 subst hd;have hget:∀i,i<(new++V.drop m).length->(new++V.drop m)[i]? =V[if i<idx.length then idx.getD i 0 else m+(i - idx.length)]? :=by
  grind
 refine⟨M,_,g.pick (λi=>if i<idx.length then idx.getD i 0 else m+(i - idx.length)) (λi hi=>?_) hget<|λi j hi hj hne=>?_⟩
 ·grind
 ·show(if i<idx.length then idx.getD i 0 else m+(i - idx.length))≠(if j<idx.length then idx.getD j 0 else m+(j - idx.length))
  grind [aO,List.getElem_inj]
theorem Holds.back(h:Holds E w (P::V))(hi:i<V.length):Holds E w (V.set i P):=by
 obtain⟨M,hs,g⟩:=h;have hlen:(V.set i P).length=V.length:=fw;refine⟨M,_,g.pick (λj=>if j=i then 0 else j+1) (λj hj=>?_) (λj hj=>?_)<|λj k hj hk hne=>?_⟩
 all_goals grind
theorem Holds.pull(i:Nat)(h:Holds E w V)(hi:V[i]? =some P:=by exact rfl):Holds E w (P::V.set i bP):=by
 obtain⟨M,hs,g⟩:=h;have hlt:=bK hi;have g2:=g.update (P':=bP) hlt j7 trivial rfl rfl rfl (λb o hb=>by cases hb) (λb o hb=>by cases hb)<|λ_ _ _=>rfl
 refine⟨M,_,g2.cons (hs i) (g.sat i P hi) (λb o hb=>g.le i b o hlt hb) (λb o hb=>g.dm i b o hlt hb)<|λj b o hj hb=>?_⟩;rw[fw]at hj;unfold iM;split
 ·rfl
 ·rename_i e;exact g.dj i j b o hlt hj (λh=>e h.symm) hb
theorem Holds.world(h:Holds E w V)(h1:w'.os=w.os)(h2:w'.tape=w.tape)(h3:w'.output=w.output)
  (hk:∀b,b<w.heap.size->w'.heap[b]? =w.heap[b]?) (h0:w.drawn<=w'.drawn:=by first|exact bB _|exact Nat.le_succ _):Holds E w' V:=
 let⟨M,hs,g⟩:=h
 ⟨M,hs,g.world h1 h2 h3 hk h0⟩
theorem Holds.drew(h:Holds E w V):Holds E w.drew V:=h.world rfl rfl rfl<|λ_ _=>rfl
theorem mm(w:World)(o:Obj)(b:Nat)(h:b<w.heap.size):(w.alloc o).heap[b]? =w.heap[b]? :=by
 show(w.heap.push o)[b]? =w.heap[b]?
 grind
theorem Holds.alloc(h:Holds E w V)(o:Obj)(hp:∀M hs,Good E w M hs V->P.ok M (one w.heap.size o)):Holds E (w.alloc o) (P::V):=by
 obtain⟨M,hs,g⟩:=h;have lt:∀b o,w.heap[b]? =some o->b<w.heap.size:=λb o h=>(Array.getElem?_eq_some_iff.1 h).1;refine⟨M,_,(g.world (w':=w.alloc o) rfl rfl rfl<|λb hb=>mm w o b hb).cons (one w.heap.size o) (hp M hs g) (λb o' hb=>?_) (λb o' hb=>?_)<|λj b o' hj hb=>?_⟩
 ·grind [fa,heap_alloc_new]
 ·obtain⟨rfl,rfl⟩:=fa hb
  cases e:M w.heap.size with
  |none=>rfl
  |some o'=>exact absurd (lt _ o' (g.im _ o' e)) (by omega)
 ·obtain⟨rfl,rfl⟩:=fa hb
  cases e:hs j w.heap.size with
  |none=>rfl
  |some o'=>exact absurd (lt _ o' (g.le j _ o' hj e)) (by omega)
theorem Holds.q8(h:Holds E w V)(hp:∀M hs,Good E w M hs V->P.ok M j7):Holds E w (P::V):=
 let⟨M,hs,g⟩:=h
 ⟨M,_,g.dS<|hp M hs g⟩
end
structure fy where
 hL:List UInt8
 deriving DecidableEq,Inhabited
class GT (α:Type)where
 sz:Nat
 agg:Bool
 ok:bV->List Value->α->Prop
 pos:0<sz
 ag1:agg=false->sz=1
 len:∀{M:bV}{cs:List Value}{x:α},ok M cs x->cs.length=sz
 one:∀{M:bV}{cs:List Value}{x:α},ok M cs x->∀u∈cs,u.oneCell'=true
 mono:∀{M M':bV}{cs:List Value}{x:α},hle M M'->ok M cs x->ok M' cs x
class Sc (α:Type)where
 toV:α->Value
 one:∀x,(toV x).oneCell'=true
instance instGTSc {α:Type} [Sc α]:GT α where
 sz:=1
 agg:=false
 ok:=λ_ cs x=>cs= [Sc.toV x]
 pos:=by decide
 ag1:=λ_=>rfl
 len:=λh=>by rw[h];rfl
 one:=λh u hu=>by rw[h]at hu;simp at hu;subst hu;exact Sc.one _
 mono:=λ_ h=>h
@[reducible] def str(s:fy):Value:= .string ⟨s.hL.toArray⟩
instance:Sc Int:=⟨λn=> .int .i64 n,λ_=>rfl⟩
instance:Sc Bool:=⟨λb=> .bool b,λ_=>rfl⟩
instance:Sc fy:=⟨str,λ_=>rfl⟩
instance:Sc UInt8:=⟨λb=> .int .u8 b.toNat,λ_=>rfl⟩
def mW(M:bV)(a:Addr):Option Value:=
 match M a.block with
 |some (.cells c _ _)=>if a.spot.isSome then none else c[a.off]?
 |_=>none
def At(M:bV)(a:Addr)(cs:List Value):Prop:=∀j u,cs[j]? =some u->mW M (a.add j)=some u
theorem lu{M:bV}{w:World}(h:∀b o,M b=some o->w.heap[b]? =some o){a:Addr}{v:Value}(hc:mW M a=some v):w.cell? a=some v:=by
 grind [mW,World.cell?]
theorem tG{M M':bV}(h:hle M M'){a:Addr}{v:Value}(hc:mW M a=some v):mW M' a=some v:=by
 unfold mW at hc ⊢;split at hc
 ·rename_i c _ _ e;rw[h _ _ e];exact hc
 ·cases hc
theorem At.mono{M M':bV}(h:hle M M'){a:Addr}{cs:List Value}(hc:At M a cs):At M' a cs:=λj u hu=>tG h<|hc j u hu
theorem add_add(a:Addr)(i j:Nat):(a.add i).add j=a.add (i+j):=by
 grind [Addr.add,Nat.add_assoc]
theorem At.sub{M:bV}{a:Addr}{cs:List Value}(h:At M a cs)(k n:Nat):At M (a.add k) ((cs.drop k).take n):=by
 intro j u hu;rw[add_add];refine h (k+j) u ?_
 grind
section
variable {α β:Type}[GT α][GT β]{M M':bV}{v:Value}{cs:List Value}
variable {x:α}{l:List α}
def nN(α:Type)[GT α](cs:List Value):Value:=if GT.agg α then .agg cs.toArray else cs.headD undef
def my(M:bV)(v:Value)(x:α):Prop:=∃cs,v=nN α cs/\GT.ok M cs x
theorem my.mono(h:hle M M')(hr:my M v x):my M' v x:=let⟨cs,e,ho⟩:=hr;⟨cs,e,GT.mono h ho⟩
theorem uV(ho:GT.ok M cs x):(nN α cs).cells.toList=cs:=by
 unfold nN;have hl:=GT.len ho
 cases e:GT.agg α with
 |true=>simp[Value.cells]
 |false=>
  rw[GT.ag1 e]at hl
  match cs,hl,GT.one ho with
  | [c],_,h1=>
   have:=h1 c (by simp)
   cases c <;> simp[Value.cells,Value.oneCell']at this ⊢
theorem my.cells(hr:my M v x):GT.ok M v.cells.toList x:=by
 obtain⟨cs,rfl,ho⟩:=hr
 grind [uV]
theorem q9{γ:Type}[Sc γ]{y:γ}:my M v y↔v=Sc.toV y:=by
 constructor
 ·rintro⟨cs,rfl,ho⟩;have:cs= [Sc.toV y]:=ho;subst this;rfl
 ·rintro rfl;exact⟨[Sc.toV y],rfl,rfl⟩
def hU(M:bV)(v:Value)(l:List α):Prop:=
 ∃a n cap,v = .slice a n cap/\n=l.length/\n<=cap/\cap<=maxLen/\
  ∀i x,l[i]? =some x->∃ad cs,a=some ad/\GT.ok M cs x/\At M (ad.add<|i*GT.sz α) cs
theorem hU.mono(h:hle M M')(hs:hU M v l):hU M' v l:=by
 obtain⟨a,n,cap,hv,hn,hc,hm,hi⟩:=hs;exact⟨a,n,cap,hv,hn,hc,hm,λi x hx=>let⟨ad,cs,e,ho,ha⟩:=hi i x hx;⟨ad,cs,e,GT.mono h ho,ha.mono h⟩⟩
instance instGTList:GT (List α)where
 sz:=1
 agg:=false
 ok:=λM cs l=>∃v,cs= [v]/\hU M v l
 pos:=by decide
 ag1:=λ_=>rfl
 len:=λ⟨v,h,_⟩=>by rw[h];rfl
 one:=λ⟨v,h,⟨a,n,cap,hv,_⟩⟩u hu=>by rw[h]at hu;simp at hu;subst hu;rw[hv];rfl
 mono:=λh⟨v,e,hs⟩=>⟨v,e,hs.mono h⟩
theorem fV:my M v l↔hU M v l:=by
 constructor
 ·rintro⟨cs,rfl,v,rfl,hs⟩;exact hs
 ·intro h;exact⟨[v],rfl,v,rfl,h⟩
instance instGTProd:GT (α×β)where
 sz:=GT.sz α+GT.sz β
 agg:=true
 ok:=λM cs x=>∃c d,cs=c++d/\GT.ok M c x.1/\GT.ok M d x.2
 pos:=by have:=GT.pos (α:=α);omega
 ag1:=λh=>by cases h
 len:=λ⟨c,d,e,h1,h2⟩=>by rw[e,dL,GT.len h1,GT.len h2]
 one:=λ⟨c,d,e,h1,h2⟩u hu=>by
  rw[e,dA]at hu
  rcases hu with hu|hu
  ·exact GT.one h1 u hu
  ·exact GT.one h2 u hu
 mono:=λh⟨c,d,e,h1,h2⟩=>⟨c,d,e,GT.mono h h1,GT.mono h h2⟩
@[reducible] def GT.via{γ:Type}(f:γ->α):GT γ where
 sz:=GT.sz α
 agg:=true
 ok:=λM cs x=>GT.ok M cs<|f x
 pos:=GT.pos
 ag1:=λh=>by cases h
 len:=λh=>GT.len h
 one:=λh=>GT.one h
 mono:=λh k=>GT.mono h k
def Fd(k:Nat)(f:α->β):Prop:=∀(M:bV)(cs:List Value)(x:α),GT.ok M cs x->GT.ok M ((cs.drop k).take<|GT.sz β) (f x)
theorem Fd.self:Fd 0 (λx:α=>x):=λM cs x h=>by
 rw[List.drop_zero,lX (by grind [GT.len])];exact h
theorem Fd.fst{γ:Type}[GT γ]{k:Nat}{f:α->γ}(h:Fd k f)(hk:k+GT.sz γ<=GT.sz α:=by decide):Fd k (λx:α×β=>f x.1):=by
 rintro M cs x⟨c,d,rfl,h1,h2⟩;have hl:=GT.len h1;rw[List.drop_append_of_le_length (by omega),List.take_append_of_le_length (by grind)];exact h M c x.1 h1
theorem Fd.snd{γ:Type}[GT γ]{k k':Nat}{f:β->γ}(h:Fd k f)(hk:k'=GT.sz α+k:=by exact rfl):Fd k' (λx:α×β=>f x.2):=by
 rintro M cs x⟨c,d,rfl,h1,h2⟩;subst hk;rw[<-GT.len h1,List.drop_length_add_append];exact h M d x.2 h2
def Fs(k:Nat)(β:Type)[GT β](f:α->β->α):Prop:=
 ∀(M:bV)(cs ds:List Value)(x:α)(y:β),GT.ok M cs x->GT.ok M ds y->GT.ok M (cs.take k++ds++cs.drop (k+GT.sz β)) (f x y)
theorem Fs.self:Fs 0 α (λ_ y:α=>y):=λM cs ds x y h1 h2=>by
 rw[List.take_zero,List.nil_append,List.drop_eq_nil_of_le (by grind [GT.len]),gm];exact h2
theorem Fs.fst{γ:Type}[GT γ]{k:Nat}{f:α->γ->α}(h:Fs k γ f)(hk:k+GT.sz γ<=GT.sz α:=by decide):Fs k γ (λ(x:α×β)y=>(f x.1 y,x.2)):=by
 rintro M cs ds x y⟨c,d,rfl,h1,h2⟩hy;have hl:=GT.len h1;refine⟨c.take k++ds++c.drop (k+GT.sz γ),d,?_,h M c ds x.1 y h1 hy,h2⟩
 grind
theorem Fs.snd{γ:Type}[GT γ]{k k':Nat}{f:β->γ->β}(h:Fs k γ f)(hk:k'=GT.sz α+k:=by exact rfl):Fs k' γ (λ(x:α×β)y=>(x.1,f x.2 y)):=by
 rintro M cs ds x y⟨c,d,rfl,h1,h2⟩hy;subst hk;refine⟨c,d.take k++ds++d.drop (k+GT.sz γ),?_,h1,h M d ds x.2 y h2 hy⟩;rw[<-GT.len h1,List.take_length_add_append,Nat.add_assoc,List.drop_length_add_append];simp
end
section
variable {α β:Type}[GT α][GT β]
def rd(v:Value)(x:α):HP:=⟨λM h=>my M v x/\h=j7,λk⟨a,b⟩=>⟨a.mono k,b⟩⟩
def BB(M:bV)(v:Value)(x:α):Prop:=∃ad cs,v = .pointer (some ad)/\GT.ok M cs x/\At M ad cs
def pt(v:Value)(x:α):HP:=⟨λM h=>BB M v x/\h=j7,λk⟨⟨ad,cs,e,ho,ha⟩,b⟩=>⟨⟨ad,cs,e,GT.mono k ho,ha.mono k⟩,b⟩⟩
def bx(e:TypeId)(g:Nat)(x:α):HP:=⟨λM h=>∃cs,GT.ok M cs x/\h=Gk.one g (.cells cs.toArray e (0,0)),λk⟨cs,ho,hh⟩=>⟨cs,GT.mono k ho,hh⟩⟩
def Cells(M:bV)(xs:List Value)(l:List α):Prop:=
 xs.length=l.length*GT.sz α/\∀i x,l[i]? =some x->GT.ok M ((xs.drop<|i*GT.sz α).take<|GT.sz α) x
theorem Cells.mono{M M':bV}(h:hle M M'){xs:List Value}{l:List α}(hc:Cells M xs l):Cells M' xs l:=⟨hc.1,λi x hx=>GT.mono h<|hc.2 i x hx⟩
def oE(e:TypeId)(M h:bV)(v:Value)(l:List α):Prop:=
 (v = .slice none 0 0/\l= []/\h=j7)\/
 ∃g o cap cur xs,v = .slice (some ⟨g,o,none⟩) l.length cap/\l.length<=cap/\cap<=maxLen/\h=Gk.one g (.cells cur e (0,0))/\
  o+cap*GT.sz α<=cur.size/\(cur.toList.drop o).take (l.length*GT.sz α)=xs/\Cells M xs l
def own(e:TypeId)(v:Value)(l:List α):HP:=⟨λM h=>oE e M h v l,λ{M M' h}k hh=>by
 rcases hh with hh|⟨g,o,cap,cur,xs,h1,h2,h3,h4,h5,h6,h7⟩
 ·exact .inl hh
 ·exact .inr ⟨g,o,cap,cur,xs,h1,h2,h3,h4,h5,h6,h7.mono k⟩⟩
end
def bZ(U:Nat->Value)(d:Nat)(v:Value):Nat->Value:=λt=>bif Nat.beq t d then v else U t
def ev(U:Nat->Value):Operand->Value
 | .tmp t=>U t
 | .const v=>v
 | .global g=> .pointer (some ⟨g,0,none⟩)
 | .func f=> .func (.func f) #[] #[]
structure Sl (n:Nat) (U:Nat->Value) (a:Act):Prop where
 defers:a.defers= []
 size:a.tmps.size=n
 get:∀t,a.tmps.getD t undef=U t
theorem Sl.ev{n:Nat}{U:Nat->Value}{a:Act}(h:Sl n U a):a.eval=ev U:=by
 funext x
 cases x with
 |tmp t=>exact h.get t
 |const v=>rfl
 |global g=>rfl
 |func f=>rfl
theorem Sl.put{n:Nat}{U:Nat->Value}{a:Act}(h:Sl n U a){d:Nat}(hd:Nat.blt d n=true)(v:Value):Sl n (bZ U d v) (a.put (some d) v)where
 defers:=h.defers
 size:=by simp[Act.put,h.size]
 get:=λt=>by
  have hd':d<a.tmps.size:=by rw[h.size];exact Nat.blt_eq▸hd
  unfold bZ
  by_cases e:t=d
  ·subst e;simp[Act.put,hd']
  ·have hb:Nat.beq t d=false:=by
    cases hx:Nat.beq t d with
    |false=>rfl
    |true=>exact absurd (cL hx) e
   rw[hb];simp only[bN,<-h.get t,Act.put,Array.getD_eq_getD_getElem?];rw[Array.getElem?_setIfInBounds_ne<|λh=>e h.symm]
theorem Sl.o9{n:Nat}{U:Nat->Value}{a:Act}(h:Sl n U a)(v:Value):Sl n U (a.put none v):=h
abbrev dC:=Exit->(Nat->Value)->World->Prop
def Lf(n:Nat)(Q:dC):Exit->Act->World->Prop:=λex a w=>∃U,Sl n U a/\Q ex U w
def RL(P:Program)(n:Nat)(ops:Array Oper)(rest:List Oper)(U:Nat->Value)(w:World)(Q:dC):Prop:=
 ∀a,Sl n U a->wpList P ops (Lf n Q) rest a w
def RC(P:Program)(n:Nat)(c:Code)(U:Nat->Value)(w:World)(Q:dC):Prop:=∀a,Sl n U a->c.wp P (Lf n Q) a w
def iP(P:Program)(n:Nat)(y:Code)(Q:dC):dC
 | .normal,U,w=>RC P n y U w Q
 |e,U,w=>Q e U w
def ra(id:Nat)(Q:dC):dC
 | .exit i,U,w=>if i=id then Q .normal U w else Q (.exit i) U w
 |e,U,w=>Q e U w
section
variable {P:Program}{n:Nat}{U:Nat->Value}{w:World}{Q Q':dC}{x y c:Code}{id:Nat}
theorem RC.mono(h:RC P n c U w Q)(hq:∀e U w,Q e U w->Q' e U w):RC P n c U w Q':=
 λa ha=>wp_mono (h a ha) λe _ w⟨U,hs,q⟩=>⟨U,hs,hq e U w q⟩
theorem m_(h:RC P n x U w (iP P n y Q)):RC P n (.seq x y) U w Q:=λa ha=>
 wp_seq (wp_mono (h a ha) λe a w⟨U,hs,q⟩=>by
  cases e with
  |normal=>exact q a hs
  |_=>exact⟨U,hs,q⟩)
theorem Cs(h:RC P n x U w (ra id Q)):RC P n (.block id x) U w Q:=λa ha=>
 wp_block (wp_mono (h a ha) λe a w⟨U,hs,q⟩=>by
  cases e with
  |exit i=>
   simp only[ra]at q;simp only[Exit.inBlock];split at q
   ·rename_i e;subst e;simp;exact⟨U,hs,q⟩
   ·rename_i e;simp[e];exact⟨U,hs,q⟩
  |_=>exact⟨U,hs,q⟩)
theorem B6(h:Q .normal U w):RC P n .skip U w Q:=λ_ ha=>wp_skip ⟨U,ha,h⟩
theorem t_(h:Q .ret U w):RC P n .ret U w Q:=λ_ ha=>wp_ret ⟨U,ha,h⟩
theorem DJ{i:Nat}(h:Q (.exit i) U w):RC P n (.exit i) U w Q:=λ_ ha=>wp_exit ⟨U,ha,h⟩
theorem C2{q:Operand}{b:Bool}(hc:ev U q = .bool b)(ht:b=true->RC P n x U w Q)(hf:b=false->RC P n y U w Q):RC P n (.cond q x y) U w Q:=
 λa ha=>wp_cond_split (t:=b) (by rw[ha.ev];exact hc) (λh=>ht h a ha)<|λh=>hf h a ha
theorem l_{l:List Oper}(h:RL P n l.toArray l U w Q):RC P n (.region id l.toArray false) U w Q:=λa ha=>wp_region_lit<|h a ha
theorem i_{ops:Array Oper}(h:Q .normal U w):RL P n ops [] U w Q:=λ_ ha=>⟨U,ha,h⟩
theorem aF(h:RC P n y U w Q):iP P n y Q .normal U w:=h
theorem bT(h:Q .normal U w):ra id Q .normal U w:=h
def lx(P:Program)(n:Nat)(fn:Func)(R:Value->World->Prop):dC
 | .normal,U,w| .ret,U,w=>∃v,(∀a,Sl n U a->(results fn a.tmps).run P w = .ok v w)/\R v w
 |_,_,_=>False
def fR(R:Value->World->Prop):Ending->World->Prop:=λe w=>∃v,e = .returned v/\R v w
def zh(l:List Value)(t:Nat):Value:=l.getD t undef
theorem enter{f:FuncId}{fn:Func}{args:List Value}{R:Value->World->Prop}(hf:P.funcs[f]? =some fn)(hb:fn.body=some c)(hn:fn.ntmps=n)(h:RC P n c (zh args) w (lx P n fn R))(hk:args.length<=n:=by exact Nat.le_of_ble_eq_true rfl):Calls P f args.toArray w (fR R):=by
 refine calls_of_wp hf hb<|wp_mono (h _ ⟨rfl,?_,λt=>?_⟩) λe a w⟨U,hs,q⟩=>?_
 ·grind
 ·simp only[zh,Array.getD_eq_getD_getElem?,List.getD_eq_getElem?_getD]
  grind
 ·cases e with
  |normal=>obtain⟨v,hv,hR⟩:=q;exact⟨hs.defers,v,hv a hs,v,rfl,hR⟩
  |ret=>obtain⟨v,hv,hR⟩:=q;exact⟨hs.defers,v,hv a hs,v,rfl,hR⟩
  |_=>exact q.elim
theorem cH{fn:Func}{R:Value->World->Prop}{t:Nat}{v:Value}(h:R v w)(hr:fn.results = #[.tmp t]:=by exact rfl)(hv:U t=v:=by exact rfl):lx P n fn R .ret U w:=
 ⟨v,λa ha=>by rw[results_tmp hr,ha.get,hv],h⟩
theorem gY{fn:Func}{R:Value->World->Prop}{t u:Nat}{v v':Value}(h:R (.tuple #[v,v']) w)(hr:fn.results = #[.tmp t, .tmp u]:=by exact rfl)(hv:U t=v:=by exact rfl)(hv':U u=v':=by exact rfl):lx P n fn R .ret U w:=
 ⟨_,λa ha=>by rw[results_tmp2 hr,ha.get,ha.get,hv,hv'],h⟩
def Wn(ops:Array Oper)(U:Nat->Value):Option (Nat×Bool)->Prop
 |none=>True
 |some (j,b)=>∃t,(ops[j]?).bind (·.dst)=some t/\U t = .bool b
theorem Wn.wanted{ops:Array Oper}{o:Oper}{a:Act}(h:Wn ops U o.guard)(ha:Sl n U a):Region.wanted o (yielded ops a.tmps)=true:=by
 unfold Region.wanted
 cases e:o.guard with
 |none=>rfl
 |some jb=>
  obtain⟨j,b⟩:=jb;rw[e]at h;obtain⟨t,ht,hb⟩:=h;have hg:=ha.get t;rw[hb,Array.getD_eq_getD_getElem?]at hg;have:a.tmps[t]? =some (.bool b):=by
   cases hx:a.tmps[t]? with
   |none=>rw[hx]at hg;cases hg
   |some v=>grind
  grind [yielded]
variable {ops:Array Oper}{rest:List Oper}{d:Nat}{ty:TypeId}{pos:String}{af:Array Edge}{g:Option (Nat×Bool)}{w':World}{v:Value}{op:Op}
theorem x_(hg:Wn ops U g)(hd:Nat.blt d n=true)(hrun:(execOp (ev U) ⟨some d,op,ty,pos,af,g⟩).run P w = .ok (.value v) w')
  (k:RL P n ops rest (bZ U d v) w' Q):RL P n ops (⟨some d,op,ty,pos,af,g⟩::rest) U w Q:=by
 intro a ha;unfold wpList;rw[aG<|Wn.wanted (o:=⟨some d,op,ty,pos,af,g⟩) hg ha];refine .inl ?_;unfold Oper.wp;rw[ha.ev,hrun];exact k _<|ha.put hd v
theorem CN(hg:Wn ops U g)(hrun:(execOp (ev U) ⟨none,op,ty,pos,af,g⟩).run P w = .ok .skip w')
  (k:RL P n ops rest U w' Q):RL P n ops (⟨none,op,ty,pos,af,g⟩::rest) U w Q:=by
 intro a ha;unfold wpList;rw[aG<|Wn.wanted (o:=⟨none,op,ty,pos,af,g⟩) hg ha];refine .inl ?_;unfold Oper.wp;rw[ha.ev,hrun];exact k _<|ha.o9 _
theorem Dp{j t:Nat}{b:Bool}(ht:(ops[j]?).bind (·.dst)=some t)(hv:U t = .bool (!b)\/U t=undef)(hd:Nat.blt d n=true)
  (k:RL P n ops rest (bZ U d undef) w Q):RL P n ops (⟨some d,op,ty,pos,af,some (j,b)⟩::rest) U w Q:=by
 intro a ha;have hno:Region.wanted ⟨some d,op,ty,pos,af,some (j,b)⟩ (yielded ops a.tmps)=false:=by
  have hg:=ha.get t;rw[Array.getD_eq_getD_getElem?]at hg;simp only[Region.wanted,yielded,ht,Option.bind_some]
  cases hx:a.tmps[t]? with
  |none=>rfl
  |some u=>
   rw[hx]at hg;simp at hg;subst hg
   rcases hv with h|h <;> rw[h]
   ·simp
   ·rfl
 unfold wpList;rw[aI (by rw[hno];decide)];exact k _<|ha.put hd _
theorem Dq{f:FuncId}{args:Array Value}(hg:Wn ops U g)(hd:Nat.blt d n=true)
  (hrun:(execOp (ev U) ⟨some d,op,ty,pos,af,g⟩).run P w = .ok (.enter f args) w)
  (k:Calls P f args w (fR λv w'=>RL P n ops rest (bZ U d v) w' Q)):RL P n ops (⟨some d,op,ty,pos,af,g⟩::rest) U w Q:=by
 intro a ha;unfold wpList;rw[aG<|Wn.wanted (o:=⟨some d,op,ty,pos,af,g⟩) hg ha];refine .inl ?_;unfold Oper.wp;rw[ha.ev,hrun];refine Calls.mono k λe w'' he=>?_;obtain⟨v,rfl,h⟩:=he;exact h _<|ha.put hd v
theorem re{f:FuncId}{fn:Func}{args:Array Value}(hf:P.funcs[f]? =some fn)(hnm:(fn.name== "runtime.NumGoroutine")=false)(hb:fn.body.isNone=false):
  (callFunc f args).run P w = .ok (.enter f args) w:=by
 unfold callFunc program;simp only[Bind.bind,Sem.bind,Sem.run,hf];rw[aI (by rw[hnm];decide),aI (by rw[hb];decide)];rfl
structure gC (P:Program) (f:FuncId):Prop where
 run:∀(args:Array Value)(w:World),(callFunc f args).run P w = .ok (.enter f args) w
theorem Dr{f:FuncId}{args:Array Operand}{ts:Array TypeId}(hg:Wn ops U g)(hd:Nat.blt d n=true)(hf:gC P f)(vs:List Value)
  (hvs:args.toList.map (ev U)=vs) (k:Calls P f vs.toArray w (fR λv w'=>RL P n ops rest (bZ U d v) w' Q)):
  RL P n ops (⟨some d, .call ⟨.value<|.func f,args,ts⟩,ty,pos,af,g⟩::rest) U w Q:=by
 have e:args.map (ev U)=vs.toArray:=by grind
 refine Dq (f:=f) (args:=vs.toArray) hg hd ?_ k;simp only[execOp,resolve,aJ];simp only[ev,Deferred.ofValue,e,aL,aK,invoke];simpa using hf.run vs.toArray w
theorem CU{q:Operand}{f:FuncId}{args:Array Operand}{ts:Array TypeId}{cap:List Value}(hg:Wn ops U g)(hd:Nat.blt d n=true)(hf:gC P f)
  (hq:ev U q = .func (.func f) #[] cap.toArray) (vs:List Value)
  (hvs:args.toList.map (ev U)=vs) (k:Calls P f (vs++cap).toArray w (fR λv w'=>RL P n ops rest (bZ U d v) w' Q)):
  RL P n ops (⟨some d, .call ⟨.value q,args,ts⟩,ty,pos,af,g⟩::rest) U w Q:=by
 have e:args.map (ev U)=vs.toArray:=by grind
 refine Dq (f:=f) (args:=(vs++cap).toArray) hg hd ?_ k;simp only[execOp,resolve,aJ];simp only[hq,Deferred.ofValue,e,aL,aK,invoke];simpa using hf.run (vs++cap).toArray w
theorem eG{f:FuncId}{args:Array Value}{R R':Value->World->Prop}(h:Calls P f args w (fR R))(k:∀v w',R v w'->R' v w'):Calls P f args w (fR R'):=
 Calls.mono h λ_ w'⟨v,e,hr⟩=>⟨v,e,k v w' hr⟩
end
structure j6 (P:Program) (T:TypeId) (ag:Bool) (k:Nat):Prop where
 yt:∀w,(isAgg T).run P w = .ok ag w
 sz:∀w,(sizeOf T).run P w = .ok k w
structure md (P:Program) (T:TypeId) (i k:Nat):Prop where
 run:∀a w,(Instr.fieldAt T (.pointer<|some a) i).run P w = .ok (.pointer<|some<|a.add k) w
structure qn (P:Program) (T e:TypeId) (k:Nat):Prop where
 pc:P.underlying T=some (.slice e)
 sz:∀w,(sizeOf e).run P w = .ok k w
def cv(c:Bool)(v:Value):Value:=bif c then v else undef
theorem fz{c:Bool}{v:Value}(h:c=true):cv c v=v:=by rw[h];rfl
theorem vQ{a b:Bool}(h:(a&&b)=true):a=true:=by grind
theorem ly(c:Bool){a b:Bool}(h:c=true:=by exact rfl):(if a=true then Value.bool true else cv (c&&(a==false)) (.bool b)) = .bool (a||b):=by
 subst h;cases a <;> rfl
theorem fI(c:Bool){a b:Bool}(h:c=true:=by exact rfl):(if a=true then cv (c&&(a==true)) (.bool b)else Value.bool false) = .bool (a&&b):=by
 subst h;cases a <;> rfl
@[reducible] def jK:BinOp->Int->Int->Bool
 | .eql,a,b=>a==b
 | .neq,a,b=>a != b
 | .lss,a,b=>decide (a<b)
 | .leq,a,b=>decide (a<=b)
 | .gtr,a,b=>decide (a>b)
 | .geq,a,b=>decide (a>=b)
 |_,_,_=>false
def pd:BinOp->Bool
 | .eql| .neq| .lss| .leq| .gtr| .geq=>true
 |_=>false
@[reducible] def iQ:BinOp->Int->Int->Int
 | .add,a,b=>a+b
 | .sub,a,b=>a - b
 | .mul,a,b=>a*b
 |_,_,_=>0
def xn:BinOp->Bool
 | .add| .sub| .mul=>true
 |_=>false
def fy.mV(a b:fy):Bool:=a.hL==b.hL
def fy.vM(a b:fy):Bool:=Op.bytesLess a.hL b.hL
@[reducible] def r9:BinOp->fy->fy->Bool
 | .eql,a,b=>a.mV b
 | .neq,a,b=> !a.mV b
 | .lss,a,b=>a.vM b
 | .leq,a,b=>a.vM b||a.mV b
 | .gtr,a,b=> !(a.vM b||a.mV b)
 | .geq,a,b=> !a.vM b
 |_,_,_=>false
section
variable {P:Program}{n:Nat}{U:Nat->Value}{w:World}{Q:dC}{E:World}{V:List HP}
variable {ops:Array Oper}{rest:List Oper}{d:Nat}{ty:TypeId}{pos:String}{af:Array Edge}{g:Option (Nat×Bool)}{v v' u:Value}{x y z:Operand}{T T':TypeId}
theorem By(v:Value)(hg:Wn ops U g)(k:RL P n ops rest (bZ U d v) w Q)(hd:Nat.blt d n=true:=by exact rfl)(hx:ev U x=v:=by exact rfl):
  RL P n ops (⟨some d, .move x,ty,pos,af,g⟩::rest) U w Q:=x_ hg hd (by rw[<-hx];rfl) k
theorem DK(hg:Wn ops U g)(hd:Nat.blt d n=true)(hx:ev U x=v)(k:RL P n ops rest (bZ U d v) w Q):
  RL P n ops (⟨some d, .assign x,ty,pos,af,g⟩::rest) U w Q:=x_ hg hd (by rw[<-hx];rfl) k
theorem B8{i:Nat}{vs:Array Value}(v:Value)(k:RL P n ops rest (bZ U d v) w Q)(hg:Wn ops U g:=by exact trivial)(hd:Nat.blt d n=true:=by exact rfl)(hx:ev U x = .tuple vs:=by exact rfl)(hi:vs[i]? =some v:=by exact rfl):
  RL P n ops (⟨some d, .extract x i,ty,pos,af,g⟩::rest) U w Q:=
 x_ hg hd (by grind [execOp,Instr.extract,aJ,aL,aK]) k
theorem BV{b:Bool}(hg:Wn ops U g)(hd:Nat.blt d n=true)(hx:ev U x = .bool b)(hv:(if b=true then ev U y else ev U z)=v)(k:RL P n ops rest (bZ U d v) w Q):
  RL P n ops (⟨some d, .pick x y z,ty,pos,af,g⟩::rest) U w Q:=
 x_ hg hd (by grind [execOp,asBool,aJ,aL,aK]) k
theorem Cd(b:Bool)(k:RL P n ops rest (bZ U d<|.bool<|!b) w Q)(hg:Wn ops U g:=by exact trivial)(hd:Nat.blt d n=true:=by exact rfl)(hx:ev U x = .bool b:=by exact rfl):
  RL P n ops (⟨some d, .unOp .not T x,ty,pos,af,g⟩::rest) U w Q:=
 x_ hg hd (by grind [execOp,Op.unary,aJ,aL,aK]) k
theorem Ds(a:Int){K:IntKind}(hg:Wn ops U g)(hd:Nat.blt d n=true)(hx:ev U x = .int K a)(k:RL P n ops rest (bZ U d<|.int K<|K.wrap<|0 - a) w Q):
  RL P n ops (⟨some d, .unOp .neg T x,ty,pos,af,g⟩::rest) U w Q:=
 x_ hg hd (by grind [execOp,Op.unary,Op.intArith,aJ,aL,aK]) k
theorem sd{bop:BinOp}{K:IntKind}{a b:Int}(hc:pd bop=true)(w:World):(binOp bop T (.int K a)<|.int K b).run P w = .ok (.bool<|jK bop a b) w:=by
 cases bop <;> first|(cases hc;done)|(simp only[binOp,ne_eq,not_true,if_false,Op.intCmp,aL,jK])
theorem Co{bop:BinOp}{K:IntKind}(a b:Int)(hg:Wn ops U g)(k:RL P n ops rest (bZ U d<|.bool<|jK bop a b) w Q)(hd:Nat.blt d n=true:=by exact rfl)(hx:ev U x = .int K a:=by exact rfl)(hy:ev U y = .int K b:=by exact rfl)(hc:pd bop=true:=by exact rfl):RL P n ops (⟨some d, .binOp bop T x y T',ty,pos,af,g⟩::rest) U w Q:=by
 refine x_ hg hd ?_ k
 grind [eqGuard,execOp,aJ,aK,sd,aL]
theorem y_{bop:BinOp}{K:IntKind}(a b:Int)(k:RL P n ops rest (bZ U d<|.int K<|K.wrap<|iQ bop a b) w Q)(hg:Wn ops U g:=by exact trivial)(hd:Nat.blt d n=true:=by exact rfl)(hx:ev U x = .int K a:=by exact rfl)(hy:ev U y = .int K b:=by exact rfl)(hc:xn bop=true:=by exact rfl):RL P n ops (⟨some d, .binOp bop T x y T',ty,pos,af,g⟩::rest) U w Q:=by
 refine x_ hg hd ?_ k;have e:(eqGuard bop T x y (.int K a)<|.int K b).run P w = .ok () w:=by simp[eqGuard]
 have e2:(binOp bop T (.int K a)<|.int K b).run P w = .ok (.int K<|K.wrap<|Gk.iQ bop a b) w:=by
  cases bop <;> first|(cases hc;done)|(simp only[binOp,ne_eq,not_true,if_false,Op.intArith,aL,Gk.iQ])
 grind [execOp,aJ,aK,aL]
theorem C3{bop:BinOp}(hg:Wn ops U g)(hd:Nat.blt d n=true)(hx:ev U x=v)(hy:ev U y=v')(he:∀w,(eqGuard bop T x y v v').run P w = .ok () w)
  (hr:∀w,(binOp bop T v v').run P w = .ok u w) (k:RL P n ops rest (bZ U d u) w Q):RL P n ops (⟨some d, .binOp bop T x y T',ty,pos,af,g⟩::rest) U w Q:=by
 refine x_ hg hd ?_ k
 simp_all[execOp,aJ,aK,aL]
theorem tH(s:fy):(⟨s.hL.toArray⟩:ByteArray).toList=s.hL:=by rw[ByteArray.toList_eq]
theorem vR{bop:BinOp}{a b:fy}(hc:pd bop=true)(w:World):(binOp bop T (str a)<|str b).run P w = .ok (.bool<|r9 bop a b) w:=by
 cases bop <;> first|(cases hc;done)|(simp only[binOp,str,Op.stringOp,tH,aL,r9,fy.mV,fy.vM])
theorem C4{bop:BinOp}(a b:fy)(hg:Wn ops U g)(hd:Nat.blt d n=true)(hx:ev U x=str a)(hy:ev U y=str b)(hc:pd bop=true)(k:RL P n ops rest (bZ U d<|.bool<|r9 bop a b) w Q):RL P n ops (⟨some d, .binOp bop T x y T',ty,pos,af,g⟩::rest) U w Q:=by
 refine x_ hg hd ?_ k
 grind [eqGuard,execOp,aJ,aK,vR,aL]
theorem Dt{t:TypeId}(s:fy)(hg:Wn ops U g)(hd:Nat.blt d n=true)(hx:ev U x=str s)(ht:P.underlying t=some .string)(k:RL P n ops rest (bZ U d<|.int .i64 (s.hL.length:Nat)) w Q):RL P n ops (⟨some d, .call ⟨.builtin .len,#[x],#[t]⟩,ty,pos,af,g⟩::rest) U w Q:=by
 refine x_ hg hd ?_ k;have e:(⟨s.hL.toArray⟩:ByteArray).size=s.hL.length:=rfl;simp[execOp,resolve,hx,invoke,builtin,Builtin.len_,run_underlying ht,goInt,str,e]
theorem C_{t e:TypeId}{a:Option Addr}{m cap:Nat}(hg:Wn ops U g)(hd:Nat.blt d n=true)(hx:ev U x = .slice a m cap)(ht:P.underlying t=some (.slice e))
  (k:RL P n ops rest (bZ U d<|.int .i64 (m:Nat)) w Q):RL P n ops (⟨some d, .call ⟨.builtin .len,#[x],#[t]⟩,ty,pos,af,g⟩::rest) U w Q:=by
 refine x_ hg hd ?_ k;simp[execOp,resolve,hx,invoke,builtin,Builtin.len_,run_underlying ht,goInt]
theorem DL{s:fy}{i:Int}{c:UInt8}{K:IntKind}(hg:Wn ops U g)(hd:Nat.blt d n=true)(hx:ev U x=str s)(hy:ev U y = .int K i)(ht:P.underlying T=some .string)
  (hc:(if 0<=i then s.hL[i.toNat]? else none)=some c) (k:RL P n ops rest (bZ U d<|.int .u8 (c.toNat:Nat)) w Q):
  RL P n ops (⟨some d, .index T x y,ty,pos,af,g⟩::rest) U w Q:=by
 refine x_ hg hd ?_ k;have e:(if 0<=i then(⟨s.hL.toArray⟩:ByteArray)[i.toNat]? else none)=some c:=by
  rw[<-hc];split
  ·have:(⟨s.hL.toArray⟩:ByteArray)[i.toNat]? =s.hL.toArray[i.toNat]? :=rfl
   grind
  ·rfl
 simp_all[execOp,Instr.index,asIntOf,run_underlying,str,aJ,aL,aK]
theorem s_{j t:Nat}(c:Bool){want:Bool}(b:Bool){op:Op}(v:Value)(ht:(ops[j]?).bind (·.dst)=some t)(hv:U t=cv c (.bool b))(hd:Nat.blt d n=true)(hrun:(c&&(b==want))=true->(execOp (ev U) ⟨some d,op,ty,pos,af,some (j,want)⟩).run P w = .ok (.value v) w)(k:RL P n ops rest (bZ U d<|cv (c&&(b==want)) v) w Q):RL P n ops (⟨some d,op,ty,pos,af,some (j,want)⟩::rest) U w Q:=by
 cases hC:(c&&(b==want))with
 |true=>
  rw[hC]at k;have hb:b=want:=by grind
  exact x_ (v:=v) ⟨t,ht,by grind [fz]⟩ hd (hrun hC) k
 |false=>
  rw[hC]at k;refine Dp ht ?_ hd k;rw[hv]
  cases c with
  |false=>exact .inr rfl
  |true=>left;cases b <;> cases want <;> first|rfl|(cases hC)
theorem xo{C:Bool}{o:Oper}(ho:o.op = .move x)(hx:C=true->ev U x=v):C=true->(execOp (ev U) o).run P w = .ok (.value v) w:=
 by simp_all[execOp]
theorem xp{C:Bool}{o:Oper}{bop:BinOp}{K:IntKind}{a b:Int}(ho:o.op = .binOp bop T x y T')(hx:C=true->ev U x = .int K a)(hy:C=true->ev U y = .int K b)(hc:pd bop=true):
  C=true->(execOp (ev U) o).run P w = .ok (.value<|.bool<|jK bop a b) w:=by grind [eqGuard,execOp,aJ,aK,sd,aL]
theorem yv{C:Bool}{o:Oper}{bop:BinOp}{K:IntKind}{a b:Int}(ho:o.op = .binOp bop T x y T')(hx:C=true->ev U x = .int K a)(hy:C=true->ev U y = .int K b)(hc:xn bop=true):
  C=true->(execOp (ev U) o).run P w = .ok (.value<|.int K<|K.wrap<|iQ bop a b) w:=λh=>by
 have e:(eqGuard bop T x y (.int K a)<|.int K b).run P w = .ok () w:=by unfold eqGuard;cases bop <;> rfl
 have e2:(binOp bop T (.int K a)<|.int K b).run P w = .ok (.int K<|K.wrap<|Gk.iQ bop a b) w:=by
  cases bop <;> first|(cases hc;done)|(simp only[binOp,ne_eq,not_true,if_false,Op.intArith,aL,Gk.iQ])
 unfold execOp;rw[ho];simp only[hx h,hy h,aJ,e,aK,e2,aL]
theorem yw{C:Bool}{o:Oper}{b:Bool}(ho:o.op = .unOp .not T x)(hx:C=true->ev U x = .bool b):C=true->(execOp (ev U) o).run P w = .ok (.value<|.bool<|!b) w:=by grind [execOp,Op.unary,aJ,aL,aK]
theorem uw{C:Bool}{o:Oper}{b:Bool}(ho:o.op = .pick x y z)(hx:C=true->ev U x = .bool b)(hv:C=true->(if b=true then ev U y else ev U z)=v):
  C=true->(execOp (ev U) o).run P w = .ok (.value v) w:=by grind [execOp,asBool,aJ,aL,aK]
theorem xq{C:Bool}{o:Oper}{t:TypeId}{s:fy}(ho:o.op = .call ⟨.builtin .len,#[x],#[t]⟩)(hx:C=true->ev U x=str s)(ht:P.underlying t=some .string):
  C=true->(execOp (ev U) o).run P w = .ok (.value<|.int .i64 (s.hL.length:Nat)) w:=λh=>by
 unfold execOp;rw[ho];have e:(⟨s.hL.toArray⟩:ByteArray).size=s.hL.length:=rfl;simp[resolve,hx h,invoke,builtin,Builtin.len_,run_underlying ht,goInt,str,e]
end
section
variable {α β:Type}[GT α][GT β]{P:Program}{E w:World}{V:List HP}{i:Nat}{v:Value}{x:α}
theorem Holds.my(h:Holds E w V)(hi:V[i]? =some (rd v x)):∃M hs,Good E w M hs V/\Gk.my M v x:=
 let⟨M,hs,g⟩:=h
 ⟨M,hs,g,(g.sat i _ hi).1⟩
theorem Holds.slice{l:List α}(h:Holds E w V)(hi:V[i]? =some (rd v l)):∃a cap,v = .slice a l.length cap:=by
 obtain⟨M,hs,g,hr⟩:=h.my hi;obtain⟨a,m,cap,hv,hm,_⟩:=fV.1 hr
 grind
theorem Holds.dup(i:Nat)(h:Holds E w V)(hi:V[i]? =some (rd v x)):Holds E w (rd v x::V):=
 h.q8 λ_ _ g=>⟨(g.sat i _ hi).1,rfl⟩
theorem Holds.sc(γ:Type)[Sc γ](h:Holds E w V)(y:γ):Holds E w (rd (Sc.toV y) y::V):=h.q8 λ_ _ _=>⟨q9.2 rfl,rfl⟩
theorem Holds.tI{γ:Type}[Sc γ]{y:γ}(h:Holds E w V)(hi:V[i]? =some (rd v y)):v=Sc.toV y:=by
 obtain⟨M,hs,g,hr⟩:=h.my hi;exact q9.1 hr
end
section
variable {α β:Type}[GT α][GT β]
variable {P:Program}{n:Nat}{U:Nat->Value}{w:World}{Q:dC}{E:World}{V:List HP}{i:Nat}
variable {ops:Array Oper}{rest:List Oper}{d:Nat}{ty:TypeId}{pos:String}{af:Array Edge}{g:Option (Nat×Bool)}{v:Value}{q r:Operand}{T T' e:TypeId}
variable {x:α}
theorem gS{cs:List Value}{a:Addr}{M:bV}(hT:j6 P T (GT.agg α) (GT.sz α))(ho:GT.ok M cs x)(hat:∀j u,cs[j]? =some u->w.cell? (a.add j)=some u):
  (loadVar T a).run P w = .ok (nN α cs) w:=by
 have hl:=GT.len ho;unfold loadVar nN;simp only[aJ,hT.yt,aK]
 cases e:GT.agg α with
 |true=>
  simp only[if_true,aJ,hT.sz,aK,<-hl,run_loadCells_list w a cs hat,aL]
 |false=>
  rw[GT.ag1 e]at hl
  match cs,hl with
  | [c],_=>
   have:=hat 0 c rfl;have ha:a.add 0=a:=rfl
   simp_all
theorem BY{p:Value}(i:Nat)(x:α)(hw:Holds E w V)(hT:j6 P T (GT.agg α) (GT.sz α))(k:∀v,Holds E w (rd v x::V)->RL P n ops rest (bZ U d v) w Q)(hg:Wn ops U g:=by exact trivial)(hd:Nat.blt d n=true:=by exact rfl)(hx:ev U q=p:=by exact rfl)(hi:V[i]? =some (pt p x):=by exact rfl):RL P n ops (⟨some d, .load T q,ty,pos,af,g⟩::rest) U w Q:=by
 obtain⟨M,hs,gd⟩:=hw;obtain⟨⟨ad,cs,hv,ho,ha⟩,_⟩:=gd.sat i _ hi;refine x_ (v:=nN α cs) hg hd ?_<|k _ ⟨M,_,gd.dS ⟨⟨cs,rfl,ho⟩,rfl⟩⟩
 simp only[execOp,hx,hv,Instr.loadAt,Instr.sureAddr,aJ,aL,aK,gS hT ho<|λj u hu=>lu gd.im<|ha j u hu]
theorem BW{γ:Type}[Sc γ](y:γ){p:Value}(i:Nat)(hw:Holds E w V)(hT:j6 P T false 1)(k:RL P n ops rest (bZ U d<|Sc.toV y) w Q)(hg:Wn ops U g:=by exact trivial)(hd:Nat.blt d n=true:=by exact rfl)(hx:ev U q=p:=by exact rfl)(hi:V[i]? =some (pt p y):=by exact rfl):RL P n ops (⟨some d, .load T q,ty,pos,af,g⟩::rest) U w Q:=by
 refine BY (hg:=hg) (hd:=hd) (hx:=hx) (hi:=hi) _ y hw hT λv h=>?_;rw[h.tI (i:=0) rfl];exact k
theorem B7{p:Value}{j m:Nat}{f:α->β}(i:Nat)(hw:Holds E w V)(hi:V[i]? =some (pt p x))(hf:md P T j m)(hF:Fd m f)(k:∀v,Holds E w (pt v (f x)::V)->RL P n ops rest (bZ U d v) w Q)(hg:Wn ops U g:=by exact trivial)(hd:Nat.blt d n=true:=by exact rfl)(hx:ev U q=p:=by exact rfl):RL P n ops (⟨some d, .fieldAddr T q j,ty,pos,af,g⟩::rest) U w Q:=by
 obtain⟨M,hs,gd⟩:=hw;obtain⟨⟨ad,cs,hv,ho,ha⟩,_⟩:=gd.sat i _ hi;refine x_ (v:= .pointer<|some<|ad.add m) hg hd ?_<|k _ ⟨M,_,gd.dS ⟨⟨ad.add m,_,rfl,hF M cs x ho,ha.sub m<|GT.sz β⟩,rfl⟩⟩
 simp only[execOp,hx,hv,aJ,hf.run,aK,aL]
theorem AI{l:List α}{sv:Value}{K:IntKind}{j:Int}(i:Nat)(hw:Holds E w V)(hT:qn P T e (GT.sz α))(hj:(if 0<=j then l[j.toNat]? else none)=some x)(k:∀v,Holds E w (pt v x::V)->RL P n ops rest (bZ U d v) w Q)(hg:Wn ops U g:=by exact trivial)(hd:Nat.blt d n=true:=by exact rfl)(hx:ev U q=sv:=by exact rfl)(hy:ev U r = .int K j:=by exact rfl)(hi:V[i]? =some (rd sv l):=by exact rfl):RL P n ops (⟨some d, .indexAddr T q r,ty,pos,af,g⟩::rest) U w Q:=by
 obtain⟨M,hs,gd⟩:=hw;obtain⟨a,m,cap,hv,hm,hc,hmx,hel⟩:=fV.1 (gd.sat i _ hi).1;have h0:0<=j:=by
  grind
 rw[aG h0]at hj;obtain⟨ad,cs,hae,ho,ha⟩:=hel _ _ hj;have hlt:j<m:=by grind
 refine x_ (v:= .pointer<|some<|ad.add<|j.toNat*GT.sz α) hg hd ?_<|k _ ⟨M,_,gd.dS ⟨⟨_,cs,rfl,ho,ha⟩,rfl⟩⟩
 simp only[execOp,hx,hv,hae,hy,Instr.indexAt,asIntOf,aJ,aL,aK,run_underlying hT.pc,hT.sz,h0,hlt,and_self,if_true]
theorem Cg{b m:Nat}{f:α->β}(i:Nat)(hw:Holds E w V)(hi:V[i]? =some (bx e b x))(hF:Fd m f)(hT:j6 P T (GT.agg β) (GT.sz β))(k:∀v,Holds E w (rd v (f x)::V)->RL P n ops rest (bZ U d v) w Q)(hg:Wn ops U g:=by exact trivial)(hd:Nat.blt d n=true:=by exact rfl)(hx:ev U q = .pointer (some ⟨b,m,none⟩):=by exact rfl):RL P n ops (⟨some d, .load T q,ty,pos,af,g⟩::rest) U w Q:=by
 obtain⟨M,hs,gd⟩:=hw;obtain⟨cs,ho,hh⟩:=gd.sat i _ hi;have hb:=gd.le i b _ (bK hi) (by rw[hh];exact bM b _);have ho':=hF M cs x ho;refine x_ (v:=nN β<|(cs.drop m).take<|GT.sz β) hg hd ?_<|k _ ⟨M,_,gd.dS ⟨⟨_,rfl,ho'⟩,rfl⟩⟩
 simp only[execOp,hx,Instr.loadAt,Instr.sureAddr,aJ,aL,aK];rw[gS hT ho'<|λj u hu=>?_];rfl;rw[Addr.add_lit,cell_of_row w b _ _ _ _ hb]
 grind
theorem j_{γ:Type}[Sc γ]{b m:Nat}{f:α->γ}(i:Nat)(hw:Holds E w V)(hi:V[i]? =some (bx e b x))(hF:Fd m f)(hT:j6 P T false 1)(k:RL P n ops rest (bZ U d<|Sc.toV<|f x) w Q)(hg:Wn ops U g:=by exact trivial)(hd:Nat.blt d n=true:=by exact rfl)(hx:ev U q = .pointer (some ⟨b,m,none⟩):=by exact rfl):RL P n ops (⟨some d, .load T q,ty,pos,af,g⟩::rest) U w Q:=by
 refine Cg (hg:=hg) (hd:=hd) (hx:=hx) (f:=f) _ hw hi hF hT λv h=>?_;rw[h.tI (i:=0) rfl];exact k
theorem h_{b o j m:Nat}(hx:ev U q = .pointer (some ⟨b,o,none⟩))(hf:md P T j m)(k:RL P n ops rest (bZ U d<|.pointer<|some ⟨b,o+m,none⟩) w Q)(hg:Wn ops U g:=by exact trivial)(hd:Nat.blt d n=true:=by exact rfl):RL P n ops (⟨some d, .fieldAddr T q j,ty,pos,af,g⟩::rest) U w Q:=by
 refine x_ hg hd ?_ k;simp only[execOp,hx,aJ,hf.run,aK,aL,Addr.add_lit]
theorem BX(i:Nat)(v:Value)(hw:Holds E w V)(hi:V[i]? =some (rd v x))(k:∀b w',Holds E w' (bx T b x::V)->RL P n ops rest (bZ U d<|.pointer<|some ⟨b,0,none⟩) w' Q)(hg:Wn ops U g:=by exact trivial)(hd:Nat.blt d n=true:=by exact rfl)(hx:ev U q=v:=by exact rfl):RL P n ops (⟨some d, .box T q,ty,pos,af,g⟩::rest) U w Q:=by
 obtain⟨M,hs,gd,hr⟩:=hw.my hi;refine x_ (w':=w.alloc<|.cells v.cells T) hg hd ?_<|k w.heap.size _<|hw.alloc _ λM' hs' g'=>⟨v.cells.toList,?_,by simp⟩
 ·simp only[execOp,hx,Instr.box,newVar,newRow,newObj,aJ,aL];rfl
 ·exact((g'.sat i _ hi).1).cells
def raw(e:TypeId)(b k:Nat):HP:=⟨λ_ h=>∃cs:List Value,cs.length=k/\h=Gk.one b (.cells cs.toArray e (0,0)),λ_ h=>h⟩
theorem B4{m:Nat}(hw:Holds E w V)(hz:∃z,(∀w,(zeroValue T).run P w = .ok z w)/\z.cells.size=m)(k:∀b w',Holds E w' (raw T b m::V)->RL P n ops rest (bZ U d<|.pointer<|some ⟨b,0,none⟩) w' Q)(hg:Wn ops U g:=by exact trivial)(hd:Nat.blt d n=true:=by exact rfl):RL P n ops (⟨some d, .alloc T,ty,pos,af,g⟩::rest) U w Q:=by
 obtain⟨z,hz,hs⟩:=hz;refine x_ (w':=w.alloc<|.cells z.cells T) hg hd ?_<|k w.heap.size _<|hw.alloc _ λ_ _ _=>⟨z.cells.toList,by omega,by simp⟩
 simp only[execOp,Instr.alloc,newVar,newRow,newObj,aJ,aL,hz,aK];rfl
theorem hZ{m:Nat}{b o:Nat}{cur:Array Value}(hsz:∀w,(sizeOf T).run P w = .ok m w)(hv:v.cells.size=m)(h1:∀u∈v.cells.toList,u.oneCell'=true)
  (hb:w.heap[b]? =some (.cells cur e (0,0))) (ho:o+m<=cur.size):
  (storeVar T ⟨b,o,none⟩ v).run P w = .ok () (w.setRow b (cur.toList.take o++v.cells.toList++cur.toList.drop (o+m)).toArray):=by
 have:=run_storeCells_at P b o e v.cells.toList 0 cur w hb (by grind) h1
 grind [Array.length_toList,storeVar,aJ,aK,not_true]
theorem fW{M:bV}{hs:Nat->bV}{P':HP}{b:Nat}{cur new:Array Value}{Pi:HP}(gd:Good E w M hs V)(hi:V[i]? =some Pi)(hh:hs i=Gk.one b (.cells cur e (0,0)))
  (hp:P'.ok M (Gk.one b<|.cells new e (0,0))):Holds E (w.setRow b new) (V.set i P'):=by
 have hb:=gd.le i b _ (bK hi) (by rw[hh];exact bM b _);refine⟨M,_,gd.update (bK hi) (Gk.one b<|.cells new e (0,0)) hp rfl rfl rfl (λb' o' hb'=>?_) (λb' o' hb'=>?_)<|λb' hb' _=>?_⟩
 ·grind [fa,setRow_heap]
 ·obtain⟨rfl,rfl⟩:=fa hb';simp_all[bM]
 ·rw[hh]at hb'
  grind [setRow_other,bM]
theorem B5{m b:Nat}(i:Nat)(hw:Holds E w V)(j:Nat)(hj:V[j]? =some (rd v x))(hT:j6 P T (GT.agg α) (GT.sz α))(k:∀w',Holds E w' (V.set i<|bx e b x)->RL P n ops rest U w' Q)(hg:Wn ops U g:=by exact trivial)(hx:ev U q = .pointer (some ⟨b,0,none⟩):=by exact rfl)(hy:ev U r=v:=by exact rfl)(hi:V[i]? =some (raw e b m):=by exact rfl)(hm:m=GT.sz α:=by exact rfl):RL P n ops (⟨none, .store T q r,ty,pos,af,g⟩::rest) U w Q:=by
 obtain⟨M,hs,gd⟩:=hw;obtain⟨cs,hl,hh⟩:=gd.sat i _ hi;have hr:=(gd.sat j _ hj).1;have hb:=gd.le i b _ (bK hi) (by rw[hh];exact bM b _);have hc:v.cells.size=GT.sz α:=by rw[<-GT.len hr.cells];simp
 have hrun:=hZ (P:=P) (v:=v) (o:=0) hT.sz hc (GT.one hr.cells) hb (by simp[hl,hm]);refine CN (w':=w.setRow b v.cells) hg ?_<|k _<|fW gd hi hh ⟨v.cells.toList,hr.cells,by simp⟩
 have hd:List.drop (GT.sz α) cs= []:=List.drop_eq_nil_of_le (by omega);simp only[eN,List.take_zero,List.nil_append,hd,gm,Array.toArray_toList]at hrun
 grind [execOp,Instr.storeAt,Instr.sureAddr,aJ,aL,aK]
theorem DM{b:Nat}{x':α}(hg:Wn ops U g)(hw:Holds E w V)(hx:ev U q = .pointer (some ⟨b,0,none⟩))(hy:ev U r=v)(hi:V[i]? =some (bx e b x')){j:Nat}(hj:V[j]? =some (rd v x))
  (hT:j6 P T (GT.agg α) (GT.sz α)) (k:∀w',Holds E w' (V.set i<|bx e b x)->RL P n ops rest U w' Q):RL P n ops (⟨none, .store T q r,ty,pos,af,g⟩::rest) U w Q:=by
 obtain⟨M,hs,gd⟩:=hw;obtain⟨cs,ho',hh⟩:=gd.sat i _ hi;have hl:=GT.len ho';have hr:=(gd.sat j _ hj).1;have hb:=gd.le i b _ (bK hi) (by rw[hh];exact bM b _);have hc:v.cells.size=GT.sz α:=by rw[<-GT.len hr.cells];simp
 have hrun:=hZ (P:=P) (v:=v) (o:=0) hT.sz hc (GT.one hr.cells) hb (by simp[hl]);refine CN (w':=w.setRow b v.cells) hg ?_<|k _<|fW gd hi hh ⟨v.cells.toList,hr.cells,by simp⟩
 have hd:List.drop (GT.sz α) cs= []:=List.drop_eq_nil_of_le (by omega);simp only[eN,List.take_zero,List.nil_append,hd,gm,Array.toArray_toList]at hrun
 grind [execOp,Instr.storeAt,Instr.sureAddr,aJ,aL,aK]
theorem CO{b m:Nat}{y:β}{f:α->β->α}(i:Nat)(hw:Holds E w V)(hi:V[i]? =some (bx e b x))(j:Nat)(hj:V[j]? =some (rd v y))(hF:Fs m β f)(hT:j6 P T (GT.agg β) (GT.sz β))(k:∀w',Holds E w' (V.set i<|bx e b<|f x y)->RL P n ops rest U w' Q)(hg:Wn ops U g:=by exact trivial)(hx:ev U q = .pointer (some ⟨b,m,none⟩):=by exact rfl)(hy:ev U r=v:=by exact rfl)(hm:m+GT.sz β<=GT.sz α:=by decide):
  RL P n ops (⟨none, .store T q r,ty,pos,af,g⟩::rest) U w Q:=by
 obtain⟨M,hs,gd⟩:=hw;obtain⟨cs,ho',hh⟩:=gd.sat i _ hi;have hl:=GT.len ho';have hr:=(gd.sat j _ hj).1;have hb:=gd.le i b _ (bK hi) (by rw[hh];exact bM b _);have hc:v.cells.size=GT.sz β:=by rw[<-GT.len hr.cells];simp
 have hrun:=hZ (P:=P) (v:=v) (o:=m) hT.sz hc (GT.one hr.cells) hb (by simp[hl,hm]);refine CN hg ?_<|k _<|fW (new:=(cs.take m++v.cells.toList++cs.drop (m+GT.sz β)).toArray) gd hi hh ⟨_,hF M cs v.cells.toList x y ho' hr.cells,rfl⟩
 grind [execOp,Instr.storeAt,Instr.sureAddr,aJ,aL,aK]
end
inductive Fl (S R:Type)where
 |nx (s:S)
 |br (s:S)
 |rt (r:R)
inductive Fo (S R:Type)where
 |go (s:S)
 |rt (r:R)
section
variable {S R:Type}
def rf(body:Nat->S->Option (Fl S R)):Nat->Nat->S->Option (Fo S R)
 | 0,_,s=>some (.go s)
 |m+1,k,s=>(body k s).bind λ
  | .nx s'=>rf body m (k+1) s'
  | .br s'=>some (.go s')
  | .rt r=>some (.rt r)
def lz(m:Nat)(body:Nat->S->Option (Fl S R))(s:S):Option (Fo S R):=if m<=4611686018427387904 then rf body m 0 s else none
def tJ(body:Nat->S->Option S):Nat->Nat->S->Option S
 | 0,_,s=>some s
 |m+1,k,s=>(body k s).bind λs'=>tJ body m (k+1) s'
def ks(m:Nat)(body:Nat->S->Option S)(s:S):Option S:=if m<=4611686018427387904 then tJ body m 0 s else none
def kl(body:S->Option (Fl S R)):Nat->S->Option (Fo S R)
 | 0,_=>none
 |N+1,s=>(body s).bind λ
  | .nx s'=>kl body N s'
  | .br s'=>some (.go s')
  | .rt r=>some (.rt r)
theorem bd{α β:Type}{o:Option α}{f:α->Option β}{r:β}(h:o.bind f=some r):∃x,o=some x/\f x=some r:=by
 cases o with
 |none=>cases h
 |some x=>grind
end
section
variable {S R:Type}{P:Program}{n:Nat}{U:Nat->Value}{w:World}{Q:dC}{c x y:Code}{b0:Nat}
def Ae(b0:Nat)(J:S->(Nat->Value)->World->Prop)(K:R->(Nat->Value)->World->Prop):Fo S R->dC
 | .go s=>λex U w=>ex = .exit b0/\J s U w
 | .rt r=>λex U w=>ex = .ret/\K r U w
def vT(I:Nat->S->(Nat->Value)->World->Prop)(b0:Nat)(J:S->(Nat->Value)->World->Prop)(K:R->(Nat->Value)->World->Prop)(k:Nat):Fl S R->dC
 | .nx s=>λex U w=>ex = .normal/\I (k+1) s U w
 | .br s=>λex U w=>ex = .exit b0/\J s U w
 | .rt r=>λex U w=>ex = .ret/\K r U w
def tK(I:S->(Nat->Value)->World->Prop)(b0:Nat)(J:S->(Nat->Value)->World->Prop)(K:R->(Nat->Value)->World->Prop):Fl S R->dC
 | .nx s=>λex U w=>ex = .normal/\I s U w
 | .br s=>λex U w=>ex = .exit b0/\J s U w
 | .rt r=>λex U w=>ex = .ret/\K r U w
theorem vU{a:Act}{Q:Exit->Act->World->Prop}(I:Nat->Act->World->Prop){m:Nat}(h0:I m a w)
  (round:∀m a w,I m a w->c.wp P (Exit.then (λa' w'=>∃m',m'<m/\I m' a' w') Q) a w):(Code.loop c).wp P Q a w:=by
 intro b k cs;have key:∀m a w,I m a w->∃e a' w',Q e a' w'/\Arrives P (lone (b.at a<|.code c:: .inLoop c::k) cs w) b k cs e a' w':=by
  intro m
  induction m using Nat.strongRecOn with
  |_ m ih=>
   intro a w hI;obtain⟨e,a₁,w₁,hq,harr⟩:=round m a w hI b (.inLoop c::k) cs
   cases e with
   |normal=>
    obtain⟨m',hlt,hI₁⟩:=hq;obtain⟨e₂,a₂,w₂,hq₂,harr₂⟩:=ih m' hlt a₁ w₁ hI₁;exact⟨e₂,a₂,w₂,hq₂, .of_steps (Steps.trans harr<|.one step_inLoop) harr₂⟩
   |exit id=>exact⟨_,a₁,w₁,hq, .pass (x:= .inLoop c) rfl (λ_ _=> .inl (by simp)) harr⟩
   |goto l=>exact⟨_,a₁,w₁,hq, .pass (x:= .inLoop c) rfl (λ_ _=> .inl (by simp)) harr⟩
   |ret=>exact⟨_,a₁,w₁,hq, .pass (x:= .inLoop c) rfl (λ_ _=> .inl (by simp)) harr⟩
   |panic ch=>exact⟨_,a₁,w₁,hq, .pass (x:= .inLoop c) rfl (λ_ _=> .inl (by simp)) harr⟩
   |outgrown=>exact⟨_,a₁,w₁,hq, .pass (x:= .inLoop c) rfl (λ_ _=> .inl (by simp)) harr⟩
 obtain⟨e,a',w',hq,harr⟩:=key _ a w h0;exact⟨e,a',w',hq, .of_steps (.one step_loop) harr⟩
theorem Du(I:Nat->(Nat->Value)->World->Prop){m:Nat}(h0:I m U w)
  (step:∀m U w,I m U w->RC P n c U w (λex σ' w'=>(ex = .normal/\∃m',m'<m/\I m' σ' w')\/(ex≠ .normal/\Q ex σ' w'))):RC P n (.loop c) U w Q:=by
 intro a ha;refine vU (λm a w=>∃U,Sl n U a/\I m U w) ⟨U,ha,h0⟩ ?_;rintro m a w⟨U,hs,hI⟩;refine wp_mono (step m U w hI a hs) λe a' w'⟨σ',hs',q⟩=>?_
 rcases q with⟨rfl,m',hm,hI'⟩|⟨hne,hq⟩
 ·exact⟨m',hm,σ',hs',hI'⟩
 ·cases e with
  |normal=>grind
  |_=>exact⟨σ',hs',hq⟩
theorem Dv(I:Nat->S->(Nat->Value)->World->Prop)(J:S->(Nat->Value)->World->Prop)(K:R->(Nat->Value)->World->Prop)
  {body:Nat->S->Option (Fl S R)} {m:Nat} {s0:S} {out:Fo S R} (hN:lz m body s0=some out) (h0:I 0 s0 U w)
  (stop:m<=4611686018427387904->∀s U w,I m s U w->RC P n c U w (Ae (R:=R) b0 J K<|.go s))
  (step:m<=4611686018427387904->∀k s fl U w,k<m->I k s U w->body k s=some fl->RC P n c U w (vT I b0 J K k fl))
  (hrt:∀r U w,out = .rt r->K r U w->Q .ret U w) (hgo:∀s U w,out = .go s->J s U w->Q .normal U w):RC P n (.block b0<|.loop c) U w Q:=by
 unfold lz at hN;split at hN
 ·rename_i hm;refine Cs<|Du (λj U w=>(∃k s,k+j=m+1/\k<=m/\I k s U w/\rf body (m - k) k s=some out)) (m:=m+1) ⟨0,s0,by omega,by omega,h0,hN⟩ ?_
  rintro j U w⟨k,s,hk,hkm,hI,hr⟩
  by_cases e:k<m
  ·obtain⟨j',hj'⟩:∃j',m - k=j'+1:=⟨m - k - 1,by omega⟩;rw[hj']at hr;obtain⟨fl,hb,hr⟩:=bd hr;refine RC.mono (step hm k s fl U w e hI hb) λex σ' w' q=>?_
   cases fl with
   |nx s'=>
    obtain⟨rfl,hI'⟩:=q;exact .inl ⟨rfl,j - 1,by omega,k+1,s',by omega,by omega,hI',by grind⟩
   |br s'=>
    obtain⟨rfl,hJ⟩:=q
    grind [ra]
   |rt r=>
    obtain⟨rfl,hK⟩:=q;injection hr with hr
    exact .inr ⟨by simp,hrt r σ' w' hr.symm hK⟩
  ·obtain rfl:k=m:=by omega
   rw[Nat.sub_self]at hr;injection hr with hr
   refine RC.mono (stop hm s U w hI) λex σ' w' q=>?_;obtain⟨rfl,hJ⟩:=q
   grind [ra]
 ·cases hN
theorem qC{body:Nat->S->Option S}:∀(m k:Nat)(s s':S),tJ body m k s=some s'->rf (R:=Empty) (λk s=>(body k s).map Fl.nx) m k s=some (.go s')
 | 0,_,s,s',h=>by injection h with h;subst h;rfl
 |m+1,k,s,s',h=>by
  obtain⟨s1,hb,hr⟩:=bd h;unfold rf;simp only[hb,Option.map_some,Option.bind_some];exact qC m (k+1) s1 s' hr
theorem Dw(I:Nat->S->(Nat->Value)->World->Prop)(J:S->(Nat->Value)->World->Prop)
  {body:Nat->S->Option S} {m:Nat} {s0 out:S} (hN:ks m body s0=some out) (h0:I 0 s0 U w)
  (stop:m<=4611686018427387904->∀s U w,I m s U w->RC P n c U w (λex U w=>ex = .exit b0/\J s U w))
  (step:m<=4611686018427387904->∀k s s' U w,k<m->I k s U w->body k s=some s'->RC P n c U w (λex U w=>ex = .normal/\I (k+1) s' U w))
  (hgo:∀U w,J out U w->Q .normal U w):RC P n (.block b0<|.loop c) U w Q:=by
 have hN':lz (R:=Empty) m (λk s=>(body k s).map Fl.nx) s0=some (.go out):=by
  grind [ks,lz,qC]
 refine Dv I J (λr _ _=>r.elim) hN' h0 (λhm s U w hI=>stop hm s U w hI) (λhm k s fl U w hk hI hb=>?_) (λr _ _ _ _=>r.elim)<|λs U w e hJ=>?_
 ·cases hx:body k s with
  |none=>grind
  |some s'=>
   rw[hx]at hb;injection hb with hb
   subst hb;exact step hm k s s' U w hk hI hx
 grind
theorem CR(I:S->(Nat->Value)->World->Prop)(J:S->(Nat->Value)->World->Prop)(K:R->(Nat->Value)->World->Prop)
  {body:S->Option (Fl S R)} {N:Nat} {s0:S} {out:Fo S R} (hN:kl body N s0=some out) (h0:I s0 U w)
  (step:∀s fl U w,I s U w->body s=some fl->RC P n c U w (tK I b0 J K fl))
  (hrt:∀r U w,out = .rt r->K r U w->Q .ret U w) (hgo:∀s U w,out = .go s->J s U w->Q .normal U w):RC P n (.block b0<|.loop c) U w Q:=by
 refine Cs<|Du (λj U w=>∃s,I s U w/\kl body j s=some out) (m:=N) ⟨s0,h0,hN⟩ ?_
 rintro j U w⟨s,hI,hr⟩
 cases j with
 |zero=>cases hr
 |succ j=>
  obtain⟨fl,hb,hr⟩:=bd hr;refine RC.mono (step s fl U w hI hb) λex σ' w' q=>?_
  cases fl with
  |nx s'=>obtain⟨rfl,hI'⟩:=q;grind
  |br s'=>
   obtain⟨rfl,hJ⟩:=q
   grind [ra]
  |rt r=>
   obtain⟨rfl,hK⟩:=q;injection hr with hr
   exact .inr ⟨by simp,hrt r σ' w' hr.symm hK⟩
theorem Eb(J:S->(Nat->Value)->World->Prop)(s:S)(hx:RC P n x U w (λex U w=>ex = .normal/\J s U w))(hy:∀U w,J s U w->RC P n y U w Q):RC P n (.seq x y) U w Q:=
 m_ (RC.mono hx λex U w⟨e,hJ⟩=>by subst e;exact hy U w hJ)
theorem Ec(J:S->(Nat->Value)->World->Prop)(K:R->(Nat->Value)->World->Prop){out:Fo S R}
  (hx:RC P n x U w (match out with| .go s=>λex U w=>ex = .normal/\J s U w| .rt r=>λex U w=>ex = .ret/\K r U w))
  (hy:∀s U w,out = .go s->J s U w->RC P n y U w Q) (hr:∀r U w,out = .rt r->K r U w->Q .ret U w):RC P n (.seq x y) U w Q:=
 m_ (RC.mono hx λex U w q=>by
  cases out with
  |go s=>obtain⟨rfl,hJ⟩:=q;exact hy s U w rfl hJ
  |rt r=>obtain⟨rfl,hK⟩:=q;exact hr r U w rfl hK)
theorem cA{x:Int}(h1: -9223372036854775808<=x)(h2:x<9223372036854775808):IntKind.i64.wrap x=x:=by
 have e1:(2:Int) ^ (IntKind.i64.bits)=18446744073709551616:=by decide
 have e2:(2:Int) ^ (IntKind.i64.bits - 1)=9223372036854775808:=by decide
 have e3:IntKind.i64.signed=true:=by decide
 grind [wrap]
theorem uW{k m:Nat}(h:k<m)(hm:m<=4611686018427387904):IntKind.i64.wrap ((k:Int)+1)=((k+1:Nat):Int):=by
 grind [cA]
end
section
variable {α β:Type}[GT α][GT β]{M:bV}
theorem Cells.nil:Cells M [] ([]:List α):=⟨by simp,λi x h=>by simp at h⟩
theorem Cells.append{xs ys:List Value}{l l':List α}(h:Cells M xs l)(h':Cells M ys l'):Cells M (xs++ys) (l++l'):=by
 refine⟨by rw[dL,dL,h.1,h'.1,Nat.add_mul],λi x hx=>?_⟩
 by_cases hi:i<l.length
 ·rw[fP hi]at hx;have hb:i*GT.sz α+GT.sz α<=xs.length:=by
   rw[h.1]
   calc i*GT.sz α+GT.sz α=(i+1)*GT.sz α:=by rw[Nat.add_mul,Nat.one_mul]
    _<=l.length*GT.sz α:=Nat.mul_le_mul_right _ hi
  rw[List.drop_append_of_le_length (by omega),List.take_append_of_le_length (by grind)];exact h.2 i x hx
 ·rw[eX (by omega)]at hx;have:=h'.2 _ x hx;obtain⟨k,rfl⟩:∃k,i=l.length+k:=⟨i - l.length,by omega⟩;rw[Nat.add_sub_cancel_left]at this;rw[Nat.add_mul,<-h.1,List.drop_length_add_append];exact this
theorem Cells.one{cs:List Value}{x:α}(h:GT.ok M cs x):Cells M cs [x]:=
 ⟨by grind [GT.len],λi y hy=>by
  cases i with
  |zero=>grind [lX,GT.len]
  |succ i=>simp at hy⟩
theorem Cells.Af{xs:List Value}{l:List α}(h:Cells M xs l):∀u∈xs,u.oneCell'=true:=by
 intro u hu;obtain⟨j,hj,rfl⟩:=List.getElem_of_mem hu;have hp:=GT.pos (α:=α);have hq:j / GT.sz α<l.length:=by rw[Nat.div_lt_iff_lt_mul hp,<-h.1];exact hj
 refine GT.one (h.2 (j / GT.sz α) l[j / GT.sz α]<|aO hq) _ ?_;have hm:j % GT.sz α<GT.sz α:=Nat.mod_lt _ hp;have hd:j / GT.sz α*GT.sz α+j % GT.sz α=j:=by simp[Nat.mul_comm,Nat.div_add_mod]
 refine dX (i:=j % GT.sz α) ?_
 grind
theorem sf{ad:Addr}{m cap:Nat}{l:List α}(h:hU M (.slice (some ad) m cap) l):∃xs,Cells M xs l/\At M ad xs:=by
 obtain⟨a,n',cap',hv,hn,_,_,hel⟩:=h;injection hv with h1 h2 h3
 subst h1;have key:∀k,k<=l.length->∃xs,Cells M xs (l.take k)/\At M ad xs:=by
  intro k
  induction k with
  |zero=>exact λ_=>⟨[],by simp[Cells.nil],λj u hu=>by simp at hu⟩
  |succ k ih=>
   intro hk;obtain⟨xs,hc,ha⟩:=ih (by omega);have hx:l[k]? =some l[k]:=aO (by omega);obtain⟨ad',cs,e,ho,hat⟩:=hel k _ hx;injection e with e
   subst e;refine⟨xs++cs,?_,λj u hu=>?_⟩
   ·rw[fU (by omega)];exact hc.append<|Cells.one ho
   ·have hl:xs.length=k*GT.sz α:=by rw[hc.1,cV];congr 1;omega
    by_cases hj:j<xs.length
    ·rw[fP hj]at hu;exact ha j u hu
    ·rw[eX (by omega)]at hu;have:=hat _ u hu
     grind [add_add,GT.sz]
 have:=key l.length<|bB _
 grind
theorem At.nil(a:Addr):At M a []:=λj u hu=>by simp at hu
theorem mX{g o cap:Nat}{cur:Array Value}{e:TypeId}{fr:Nat×Nat}{xs:List Value}{l:List α}(hM:M g=some (.cells cur e fr))(hc:Cells M xs l)(hx:(cur.toList.drop o).take (l.length*GT.sz α)=xs)
  (hl:l.length<=cap) (hm:cap<=maxLen):hU M (.slice (some ⟨g,o,none⟩) l.length cap) l:=by
 refine⟨_,_,_,rfl,rfl,hl,hm,λi x hix=>⟨_,_,rfl,hc.2 i x hix,λj u hu=>?_⟩⟩
 grind [Addr.add_lit,mW,Option.isSome_none,Nat.add_assoc]
end
section
variable {α β:Type}[GT α][GT β]{P:Program}{E w:World}{V:List HP}{i:Nat}{v:Value}{l:List α}{e:TypeId}
theorem cI(e:TypeId)(M:bV):oE (α:=α) e M j7 (.slice none 0 0) []:= .inl ⟨rfl,rfl,rfl⟩
theorem Holds.cI(h:Holds E w V)(α:Type)[GT α](e:TypeId):Holds E w (own (α:=α) e (.slice none 0 0) []::V):=h.q8 λM _ _=>Gk.cI e M
theorem Holds.freeze(i:Nat)(h:Holds E w V)(hi:V[i]? =some (own e v l):=by exact rfl):Holds E w (V.set i<|rd v l):=by
 obtain⟨M,hs,g⟩:=h;have hlt:=bK hi;have ho:=g.sat i _ hi;refine⟨_,_,g.freeze (P':=rd v l) hlt ⟨fV.2 ?_,rfl⟩⟩
 rcases ho with⟨rfl,rfl,_⟩|⟨b,o,cap,cur,xs,rfl,h2,h3,h4,h5,h6,h7⟩
 ·exact⟨none,0,0,rfl,rfl,bB _,by simp[maxLen],λi x hx=>by simp at hx⟩
 ·refine mX (M:=kf M<|hs i) (e:=e) (fr:=(0,0)) ?_ (h7.mono<|oX _ _) h6 h2 h3;have hb:hs i b=some (.cells cur e (0,0)):=by simp_all[bM]
  simp[kf,g.dm i b _ hlt hb,hb]
theorem Holds.gq(h:Holds E w V)(hi:V[i]? =some (own e v l)):∃a cap,v = .slice a l.length cap:=by
 obtain⟨M,hs,g⟩:=h
 rcases g.sat i _ hi with⟨rfl,rfl,_⟩|⟨b,o,cap,cur,xs,rfl,_⟩
 ·simp
 simp
theorem vV{M h:bV}(ho:oE e M h v l):v.oneCell'=true:=by
 rcases ho with⟨rfl,_⟩|⟨b,o,cap,cur,xs,rfl,_⟩ <;> rfl
end
def app{α:Type}(bytes:Nat)(l ys:List α):Option (List α):=if(l.length+ys.length)*bytes<=140737488355328 then some (l++ys)else none
structure sg (P:Program) (t e:TypeId) (k bytes:Nat):Prop where
 pc:P.underlying t=some (.slice e)
 inf:∃i z,P.info? e=some i/\i.zero=some z/\i.size=k/\i.bytes=bytes/\z.cells.size=k
 pos:0<bytes
section
variable {α:Type}[GT α]{P:Program}{E w:World}{V:List HP}{i j:Nat}{v vy:Value}{l ys l':List α}{e t ty:TypeId}{bytes:Nat}
theorem nP(i:TypeInfo)(ht:P.underlying t=some (.slice e))(hi:P.info? e=some i)
  (g o sLen sCap:Nat) (cur:Array Value) (hg:w.heap[g]? =some (.cells cur e (0,0)))
  (a:Addr) (m c:Nat) (news:List Value) (hl:news.length=m*i.size) (hnews:∀j u,news[j]? =some u->w.cell? (a.add j)=some u) (h1:∀u∈news,u.oneCell'=true)
  (hroom:sLen+m<=sCap) (hfit:o+sLen*i.size+news.length<=cur.size):
  (Builtin.append_ #[t,t] ty #[.slice (some ⟨g,o,none⟩) sLen sCap, .slice (some a) m c]).run P w =
   .ok (.slice (some ⟨g,o,none⟩) (sLen+m) sCap) (w.setRow g (cur.toList.take (o+sLen*i.size)++news++cur.toList.drop (o+sLen*i.size+news.length)).toArray):=by
 have hf:=run_firstCells_some (P:=P) w i.size m a m c news hl hnews;have hst:=run_storeCells_at P g (o+sLen*i.size) e news 0 cur w hg (by omega) h1;simp only[Nat.add_zero]at hst;simp[Builtin.append_,run_underlying ht,sizeOf,typeInfo,hi,Builtin.lenOf,hroom,hf,Addr.add_lit,hst]
theorem ld(i:TypeInfo)(ht:P.underlying t=some (.slice e))(hi:P.info? e=some i)(a:Option Addr)(sLen sCap c:Nat)(hc:sLen<=sCap):
  (Builtin.append_ #[t,t] ty #[.slice a sLen sCap, .slice none 0 c]).run P w = .ok (.slice a sLen sCap) w:=by
 cases a <;> simp[Builtin.append_,run_underlying ht,sizeOf,typeInfo,hi,Builtin.lenOf,Builtin.firstCells,hc,storeCells]
theorem mY{V:List HP}{i:Nat}{Pr:HP}(h:V[i]? =some Pr):V.set i Pr=V:=by
 apply List.ext_getElem?
 grind
theorem xr(hw:Holds E w V)(hi:V[i]? =some (own e v l))(hj:V[j]? =some (rd vy ys))(hT:sg P t e (GT.sz α) bytes)(hb:app bytes l ys=some l'):
  ∃v' w',(Builtin.append_ #[t,t] ty #[v,vy]).run P w = .ok v' w'/\Holds E w' (V.set i<|own e v' l'):=by
 obtain⟨inf,z,hinf,hz,hsz,hby,hzs⟩:=hT.inf;unfold app at hb;split at hb
 case isFalse=>cases hb
 rename_i hroom;injection hb with hb
 subst hb;obtain⟨M,hs,g⟩:=hw;have hlt:=bK hi;have ho:=g.sat i _ hi;have hle63:l.length+ys.length<=140737488355328:=gK (Nat.le_mul_of_pos_right _ hT.pos) hroom;obtain⟨a,m,c,hvy,hm,hmc,hcm,hel⟩:=fV.1 (g.sat j _ hj).1;subst hvy;have hcase:(ys= []/\a=none)\/∃ad news,a=some ad/\Cells M news ys/\At M ad news:=by
  cases a with
  |none=>
   left;refine⟨?_,rfl⟩
   cases ys with
   |nil=>rfl
   |cons y r=>obtain⟨ad,cs,h,_⟩:=hel 0 y rfl;cases h
  |some ad=>
   right;obtain⟨xs,h1,h2⟩:=sf (l:=ys) (ad:=ad) (m:=m) (cap:=c) ⟨_,_,_,rfl,hm,hmc,hcm,hel⟩
   grind
 rcases hcase with⟨rfl,rfl⟩|⟨ad,news,rfl,hcn,hat⟩
 ·
  simp only[List.length_nil]at hm;subst hm;rw[gm];have iM:V.set i (own e v l)=V:=mY hi;refine⟨v,w,?_,by rw[iM];exact⟨M,hs,g⟩⟩
  rcases ho with⟨rfl,rfl,_⟩|⟨b,o,cap,cur,xs,rfl,h2,h3,h4,h5,h6,h7⟩
  ·exact ld inf hT.pc hinf none 0 0 c<|bB _
  ·exact ld inf hT.pc hinf _ _ cap c h2
 ·have hnews:∀j u,news[j]? =some u->w.cell? (ad.add j)=some u:=λj u hu=>lu g.im<|hat j u hu
  have hnl:news.length=m*inf.size:=by rw[hcn.1,hm,hsz]
  have h1:=hcn.Af;have grown:∀(olds:List Value)(N:Nat),Cells M olds l->N=l.length+m->∀(old:Nat),
    Holds E (w.drew.alloc<|.cells (olds.toArray++news.toArray++Builtin.zeroCells z.cells (grownCap w N old e - N)) e)
     (V.set i<|own e (.slice (some ⟨w.heap.size,0,none⟩) N<|grownCap w N old e)<|l++ys):=by
   intro olds N hol hN old;have hge:=grownCap_ge w N old e;have hcm':grownCap w N old e<=maxLen:=grownCap_le_maxLen w N old e (by grind [maxLen]);have hNl:N=(l++ys).length:=by rw[dL,hN,hm]
   have hca:=hol.append hcn;refine⟨M,_,g.update (w':=w.drew.alloc _) hlt (Gk.one w.heap.size<|.cells (olds.toArray++news.toArray++Builtin.zeroCells z.cells (grownCap w N old e - N)) e (0,0)) (.inr ⟨w.heap.size,0,grownCap w N old e,_,olds++news,by rw[<-hNl],by omega,hcm',rfl,?_,?_,hca⟩) rfl rfl rfl (λb o' hb=>?_) (λb o' hb=>?_)<|λb _ hb=>?_⟩
   ·simp only[Array.size_append,List.size_toArray,size_zeroCells,hzs,eN];refine Nat.le_of_eq<|Eq.symm ?_
    rw[<-dL,hca.1,<-hNl,<-Nat.add_mul];congr 1;omega
   ·simp only[Array.toList_append,List.drop_zero];rw[<-hca.1];exact List.take_left
   ·obtain⟨rfl,rfl⟩:=fa hb;exact heap_alloc_new w.drew _
   ·obtain⟨rfl,rfl⟩:=fa hb;exact .inr<|bB _
   ·exact mm w.drew _ b hb
  rcases ho with⟨rfl,rfl,_⟩|⟨b,o,cap,cur,xs,rfl,h2,h3,h4,h5,h6,h7⟩
  ·by_cases hm0:m=0
   ·subst hm0;have hy:ys= []:=List.eq_nil_of_length_eq_zero hm.symm;subst hy;have iM:V.set i (own e (.slice none 0 0) ([]:List α))=V:=mY hi;refine⟨.slice none 0 0,w,?_,by rw[gm,iM];exact⟨M,hs,g⟩⟩;have hf:=run_firstCells_some (P:=P) w inf.size 0 ad 0 c [] (by simp) (λj u hu=>by simp at hu);simp[Builtin.append_,run_underlying hT.pc,sizeOf,typeInfo,hinf,Builtin.lenOf,hf]
   ·have hr:=run_append_nil (P:=P) w t ty e inf z hT.pc hinf hz ad m c news hnl hnews (by omega) (by omega) (by grind);have:=grown [] m Cells.nil (by simp) 0
    grind
  ·have hb:=g.le i b _ hlt (by rw[h4];exact bM b _);have hxl:xs.length=l.length*GT.sz α:=h7.1
   by_cases hfit:l.length+m<=cap
   ·have hcapm:(l.length+m)*GT.sz α<=cap*GT.sz α:=Nat.mul_le_mul_right _ hfit;rw[Nat.add_mul]at hcapm;have hr:=nP (P:=P) (ty:=ty) inf hT.pc hinf b o l.length cap cur hb ad m c news hnl hnews h1 hfit (by grind);refine⟨_,_,hr,?_⟩;have:=fW (P':=own e (.slice (some ⟨b,o,none⟩) (l.length+m) cap)<|l++ys) (new:=(cur.toList.take (o+l.length*inf.size)++news++cur.toList.drop (o+l.length*inf.size+news.length)).toArray) g hi h4
     (.inr ⟨b,o,cap,_,xs++news,by rw[dL,hm],by rw[dL,<-hm];exact hfit,h3,rfl,?_,?_,h7.append hcn⟩)
    ·exact this
    ·simp only[List.size_toArray,dL,cV,gH,Array.length_toList,hnl,hsz];omega
    ·rw[dL,Nat.add_mul,<-hm];have e1:(cur.toList.take<|o+l.length*inf.size).length=o+l.length*GT.sz α:=by
      have e0:cur.toList.length=cur.size:=rfl;rw[cV,e0,hsz];omega
     have e2:(cur.toList.take<|o+l.length*inf.size).drop o=xs:=by
      rw[hsz,List.drop_take,Nat.add_sub_cancel_left];exact h6
     simp only[kb];rw[List.drop_append_of_le_length (by omega),e2,<-kb];have:l.length*GT.sz α+m*GT.sz α=(xs++news).length:=by rw[dL,hxl,hnl,hsz]
     rw[this];exact List.take_left
   ·have holds:∀j u,xs[j]? =some u->w.cell? ((⟨b,o,none⟩:Addr).add j)=some u:=λj u hu=>by
     rw[Addr.add_lit,cell_of_row w b _ _ _ _ hb,<-Array.getElem?_toList];rw[<-h6,dB]at hu;split at hu
     ·rw[eW]at hu;exact hu
     ·cases hu
    have hr:=run_append_grow (P:=P) w t ty e inf z hT.pc hinf hz ⟨b,o,none⟩ l.length cap xs (by rw[hxl,hsz]) holds ad m c news hnl hnews (by omega) (by omega)
     (growslice_fits (by omega) (by rw[hby];rw[hm];exact hroom))
    exact⟨_,_,hr,grown xs _ h7 rfl cap⟩
end
section
variable {α:Type}[GT α]{P:Program}{n:Nat}{U:Nat->Value}{w:World}{Q:dC}{E:World}{V:List HP}{i j:Nat}
variable {ops:Array Oper}{rest:List Oper}{d:Nat}{ty t e:TypeId}{pos:String}{af:Array Edge}{g:Option (Nat×Bool)}{v vy:Value}{q r:Operand}
variable {x:α}{l ys l':List α}{bytes:Nat}
theorem Cu(i j:Nat)(hw:Holds E w V)(hT:sg P t e (GT.sz α) bytes)(hb:Gk.app bytes l ys=some l')(k:∀v' w',Holds E w' (V.set i<|own e v' l')->RL P n ops rest (bZ U d v') w' Q)(hg:Wn ops U g:=by exact trivial)(hd:Nat.blt d n=true:=by exact rfl)(hx:ev U q=v:=by exact rfl)(hy:ev U r=vy:=by exact rfl)(hi:V[i]? =some (own e v l):=by exact rfl)(hj:V[j]? =some (rd vy ys):=by exact rfl):
  RL P n ops (⟨some d, .call ⟨.builtin .append,#[q,r],#[t,t]⟩,ty,pos,af,g⟩::rest) U w Q:=by
 obtain⟨v',w',hr,hw'⟩:=xr (P:=P) (ty:=ty) hw hi hj hT hb;refine x_ hg hd ?_<|k v' w' hw'
 grind [execOp,resolve,invoke,builtin,aJ,aL,aK]
theorem AT(i:Nat)(l:List α)(hw:Holds E w V)(ht:P.underlying t=some (.slice e))(k:RL P n ops rest (bZ U d<|.int .i64 (l.length:Nat)) w Q)(hg:Wn ops U g:=by exact trivial)(hd:Nat.blt d n=true:=by exact rfl)(hx:ev U q=v:=by exact rfl)(hi:V[i]? =some (rd v l):=by exact rfl):RL P n ops (⟨some d, .call ⟨.builtin .len,#[q],#[t]⟩,ty,pos,af,g⟩::rest) U w Q:=by
 obtain⟨a,cap,rfl⟩:=hw.slice hi
 grind [C_]
theorem Ch{e':TypeId}(hg:Wn ops U g)(hd:Nat.blt d n=true)(hw:Holds E w V)(hx:ev U q=v)(hi:V[i]? =some (own e' v l))(ht:P.underlying t=some (.slice e))
  (k:RL P n ops rest (bZ U d<|.int .i64 (l.length:Nat)) w Q):RL P n ops (⟨some d, .call ⟨.builtin .len,#[q],#[t]⟩,ty,pos,af,g⟩::rest) U w Q:=by
 obtain⟨a,cap,rfl⟩:=hw.gq hi
 grind [C_]
end
def cM(M:bV)(place:Nat->Option (Nat×Nat)){α:Type}[GT α](cells:Array Value)(parts:List (Nat×Value))(y:α):Prop:=
 ∃cells',Instr.fill place cells parts=some cells'/\GT.ok M cells'.toList y
section
variable {α β:Type}[GT α][GT β]{M:bV}{place:Nat->Option (Nat×Nat)}{cells:Array Value}{parts:List (Nat×Value)}{x y:α}{v:Value}{z:β}
theorem cM.nil(h:GT.ok M cells.toList x):cM M place cells [] x:=⟨cells,rfl,h⟩
theorem vW(vs:List Value):∀(cells:Array Value)(o:Nat),o+vs.length<=cells.size->
  ((vs.toArray.zipIdx).foldl (λcs(c,j)=>cs.setIfInBounds (o+j) c) cells).toList=cells.toList.take o++vs++cells.toList.drop (o+vs.length):=by
 intro cells o h;have key:∀(vs:List Value)(k:Nat)(cells:Array Value),o+k+vs.length<=cells.size->
   ((vs.zipIdx k).foldl (λcs(p:Value×Nat)=>cs.setIfInBounds (o+p.2) p.1) cells).toList=cells.toList.take (o+k)++vs++cells.toList.drop (o+k+vs.length):=by
  intro vs
  induction vs with
  |nil=>intro k cells _;simp
  |cons u vs ih=>
   intro k cells h;simp only[g9]at h;rw[List.zipIdx_cons,List.foldl_cons,ih (k+1) _ (by simp;omega)];simp only[Array.toList_setIfInBounds,g9];have hk:o+k<cells.toList.length:=by simp;omega
   rw[show o+(k+1)=(o+k)+1 by omega,fU (by grind),List.take_set_of_le<|bB _,List.drop_set_of_lt (by omega)];simp only[List.getElem_set_self,kb,List.cons_append,List.nil_append];congr 4;omega
 grind
theorem cM.cons{i m:Nat}{f:α->β->α}(hx:GT.ok M cells.toList x)(hF:Fs m β f)(hz:my M v z)(h:∀c,GT.ok M c.toList (f x z)->cM M place c parts y)(hp:place i=some (m,GT.sz β):=by exact rfl)(hm:m+GT.sz β<=GT.sz α:=by decide):cM M place cells ((i,v)::parts) y:=by
 have hc:v.cells.size=GT.sz β:=by rw[<-GT.len hz.cells];simp
 have hl:cells.size=GT.sz α:=by rw[<-GT.len hx];simp
 have hs:=vW v.cells.toList cells m (by grind);simp only[Array.toArray_toList,Array.length_toList,hc]at hs;obtain⟨c',h1,h2⟩:=h (v.cells.zipIdx.foldl (λcs(c,j)=>cs.setIfInBounds (m+j) c) cells) (by rw[hs];exact hF M _ _ x z hx hz.cells);refine⟨c',?_,h2⟩
 grind [Instr.fill]
end
structure vX (P:Program) (T:TypeId) (places:List (Nat×Nat)) (z:Array Value):Prop where
 run:∀parts w,(Instr.build T parts).run P w=match Instr.fill (places.toArray[·]?) z parts.toList with|some cs=> .ok (.agg cs) w|none=> .halt (.stuck "build: no such field, or a part of the wrong size") w
section
variable {α:Type}[GT α]{P:Program}{n:Nat}{U:Nat->Value}{w:World}{Q:dC}{E:World}{V:List HP}{i j:Nat}
variable {ops:Array Oper}{rest:List Oper}{d:Nat}{T ty t e:TypeId}{pos:String}{af:Array Edge}{g:Option (Nat×Bool)}{v vy:Value}{q r:Operand}
variable {y:α}{l:List α}{bytes:Nat}
theorem Cz{parts:Array (Nat×Operand)}{places:List (Nat×Nat)}{z:Array Value}(y:α)(hg:Wn ops U g)(hd:Nat.blt d n=true)(hw:Holds E w V)(vs:List (Nat×Value))(hvs:parts.toList.map (λp=>(p.1,ev U p.2))=vs)(hT:vX P T places z)(ha:GT.agg α=true)(hf:∀M hs,Good E w M hs V->cM M (places.toArray[·]?) z vs y)(k:∀v,Holds E w (rd v y::V)->RL P n ops rest (bZ U d v) w Q):RL P n ops (⟨some d, .build T parts,ty,pos,af,g⟩::rest) U w Q:=by
 obtain⟨M,hs,gd⟩:=hw;obtain⟨cs,h1,h2⟩:=hf M hs gd;have e1:parts.map (λ(i,x)=>(i,ev U x))=vs.toArray:=by grind
 refine x_ (v:= .agg cs) hg hd ?_<|k _ ⟨M,_,gd.dS ⟨⟨cs.toList,by simp[nN,ha],h2⟩,rfl⟩⟩
 simp only[execOp,aJ];rw[e1,hT.run]
 simp_all
end
def oY:List (Nat×Value)->(Nat->Value)->Nat->Value
 | [],O=>O
 |(d,v)::l,O=>bZ (oY l O) d v
def agree(U:Nat->Value):List (Nat×Value)->Prop
 | []=>True
 |(d,v)::l=>U d=v/\agree U l
theorem agree.oY{U:Nat->Value}{l:List (Nat×Value)}(h:agree U l):∃O,U=Gk.oY l O:=by
 refine⟨U,?_⟩
 induction l with
 |nil=>rfl
 |cons p l ih=>
  obtain⟨d,v⟩:=p;obtain⟨h1,h2⟩:=h;have:=ih h2;funext t;show U t=bZ (Gk.oY l U) d v t;unfold bZ
  cases e:Nat.beq t d with
  |true=>grind [cL]
  |false=>rw[<-this];rfl
def idx{α:Type}(l:List α)(i:Int):Option α:=if 0<=i then l[i.toNat]? else none
def yx(s:fy)(i:Int):Option UInt8:=if 0<=i then s.hL[i.toNat]? else none
def Fo.cs{S R β:Type}(o:Fo S R)(f:S->β)(g:R->β):β:=match o with| .go s=>f s| .rt r=>g r
section
variable {P:Program}{n:Nat}{U:Nat->Value}{w:World}{Q:dC}{x y c:Code}{S:Type}
theorem BU(J:S->(Nat->Value)->World->Prop)(s:S)(hx:RC P n x U w (λex U w=>ex = .normal/\J s U w))(hy:∀U w,J s U w->Q .normal U w):RC P n x U w Q:=
 by grind [RC.mono]
theorem xt{i:Nat}(h:Q (.exit i) U w):iP P n y Q (.exit i) U w:=h
theorem bL(h:Q .ret U w):iP P n y Q .ret U w:=h
theorem jr{id:Nat}(h:Q .ret U w):ra id Q .ret U w:=h
end
section
variable {α β:Type}[GT α][GT β]{P:Program}{E w:World}{V:List HP}{i:Nat}{v:Value}{x:α}
theorem Holds.kO(h:Holds E w V)(α:Type)[GT α]:Holds E w (rd (.slice none 0 0) ([]:List α)::V):=
 h.q8 λ_ _ _=>⟨fV.2 ⟨none,0,0,rfl,rfl,bB _,by simp[maxLen],λi x hx=>by simp at hx⟩,rfl⟩
theorem Holds.gT{e:TypeId}{b:Nat}(h:Holds E w V)(hi:V[i]? =some (bx e b x)):Holds E w (V.set i<|pt (.pointer<|some ⟨b,0,none⟩) x):=by
 obtain⟨M,hs,g⟩:=h;have hlt:=bK hi;obtain⟨cs,ho,hh⟩:=g.sat i _ hi;have hb:hs i b=some (.cells cs.toArray e (0,0)):=by simp_all[bM]
 refine⟨_,_,g.freeze (P':=pt _ x) hlt ⟨⟨⟨b,0,none⟩,cs,rfl,GT.mono (oX _ _) ho,λj u hu=>?_⟩,rfl⟩⟩;rw[Addr.add_lit];simp only[mW,kf,g.dm i b _ hlt hb,hb]
 grind
theorem Fd.comp{γ:Type}[GT γ]{k k':Nat}{f:α->β}(f':β->γ)(h:Fd k f)(h':Fd k' f')(hk:k'+GT.sz γ<=GT.sz β:=by decide):Fd (k+k') (λx=>f'<|f x):=by
 intro M cs x ho;have h1:=h' M _ _<|h M cs x ho
 grind [List.drop_take,List.drop_drop,Nat.min_eq_left]
end
section
variable {α β:Type}[GT α][GT β]{P:Program}{n:Nat}{U:Nat->Value}{w:World}{Q:dC}{E:World}{V:List HP}{i j:Nat}
variable {ops:Array Oper}{rest:List Oper}{d:Nat}{ty t e T:TypeId}{pos:String}{af:Array Edge}{g:Option (Nat×Bool)}{v vy:Value}{q r:Operand}
variable {x:α}
theorem xu{fn:Func}{R:Value->World->Prop}{t' b:Nat}(i:Nat)(hr:fn.results = #[.cell t' T])(hw:Holds E w V)(hp:U t' = .pointer (some ⟨b,0,none⟩))(hi:V[i]? =some (bx e b x))(hT:j6 P T (GT.agg α) (GT.sz α))(h:∀v,Holds E w (rd v x::V)->R v w):lx P n fn R .ret U w:=by
 obtain⟨M,hs,gd⟩:=hw;obtain⟨cs,ho,hh⟩:=gd.sat i _ hi;have hb:=gd.le i b _ (bK hi) (by rw[hh];exact bM b _);refine⟨nN α cs,λa ha=>?_,h _ ⟨M,_,gd.dS ⟨⟨cs,rfl,ho⟩,rfl⟩⟩⟩;have hl:(loadVar T ⟨b,0,none⟩).run P w = .ok (nN α cs) w:=gS hT ho λj u hu=>by
  rw[Addr.add_lit,cell_of_row w b _ _ _ _ hb];grind
 simp[results,hr,ha.get,hp,asAddr,hl]
theorem si{b m:Nat}{o:Oper}{f:α->β}(ho:o.op = .load T q)(hw:Holds E w V)(hx:ev U q = .pointer (some ⟨b,m,none⟩))(hi:V[i]? =some (bx e b x))(hF:Fd m f)(hT:j6 P T (GT.agg β) (GT.sz β)):
  ∃v,(execOp (ev U) o).run P w = .ok (.value v) w/\Holds E w (rd v (f x)::V):=by
 obtain⟨M,hs,gd⟩:=hw;obtain⟨cs,ho2,hh⟩:=gd.sat i _ hi;have hb:=gd.le i b _ (bK hi) (by rw[hh];exact bM b _);have ho':=hF M cs x ho2;refine⟨nN β<|(cs.drop m).take<|GT.sz β,?_,⟨M,_,gd.dS ⟨⟨_,rfl,ho'⟩,rfl⟩⟩⟩;have hl:(loadVar T ⟨b,m,none⟩).run P w = .ok (nN β<|(cs.drop m).take<|GT.sz β) w:=gS hT ho' λj u hu=>by
  rw[Addr.add_lit,cell_of_row w b _ _ _ _ hb]
  grind
 grind [execOp,Instr.loadAt,Instr.sureAddr,aJ,aL,aK]
theorem aR{γ:Type}[Sc γ]{b m:Nat}{o:Oper}{f:α->γ}{C:Bool}(i:Nat)(ho:o.op = .load T q)(hw:Holds E w V)(hx:C=true->ev U q = .pointer (some ⟨b,m,none⟩))(hi:V[i]? =some (bx e b x))(hF:Fd m f)(hT:j6 P T false 1):
  C=true->(execOp (ev U) o).run P w = .ok (.value<|Sc.toV<|f x) w:=λh=>by
 obtain⟨v,h1,h2⟩:=si (f:=f) ho hw (hx h) hi hF hT;rw[h1,h2.tI (i:=0) rfl]
theorem bW{b o' j m:Nat}{o:Oper}{C:Bool}(hf:md P T j m)(ho:o.op = .fieldAddr T q j:=by exact rfl)(hx:C=true->ev U q = .pointer (some ⟨b,o',none⟩):=by exact(λ_=>rfl)):
  C=true->(execOp (ev U) o).run P w = .ok (.value<|.pointer<|some ⟨b,o'+m,none⟩) w:=λh=>by
 unfold execOp;rw[ho];simp only[hx h,aJ,hf.run,aK,aL,Addr.add_lit]
theorem Ed{K K':IntKind}{a:Int}{s s':TypeId}(hg:Wn ops U g)(hd:Nat.blt d n=true)(hx:ev U q = .int K a)(hs:∃D,P.underlying s=some D)(ht:P.underlying s'=some (.int K'))
  (k:RL P n ops rest (bZ U d<|.int K'<|K'.wrap a) w Q):RL P n ops (⟨some d, .convert s s' q,ty,pos,af,g⟩::rest) U w Q:=by
 obtain⟨D,hD⟩:=hs;refine x_ hg hd ?_ k;have:(convert s s'<|.int K a).run P w = .ok (.int K'<|K'.wrap a) w:=by
  unfold convert;simp only[aJ,run_underlying hD,run_underlying ht,aK];rfl
 grind [execOp,aJ,aK,aL]
theorem pe{vs:List Value}{m:Nat}(hu:P.underlying t=some (.slice e))(hz:∃z,(∀w,(zeroValue e).run P w = .ok z w)/\z.cells.size=m)(hs:∀w,(sizeOf e).run P w = .ok m w)(hm:0<m)
  (hlen:vs.length*m<=16777216) (hvs:∀v∈vs,v.cells.size=m) (w:World):
  (Instr.buildSlice t vs.length (vs.zipIdx.map λp=>(p.2,p.1)).toArray).run P w =
   .ok (.slice (some ⟨w.heap.size,0,none⟩) vs.length vs.length) (w.alloc<|.cells (vs.flatMap λv=>v.cells.toList).toArray e):=by
 obtain⟨z,hz,hzs⟩:=hz;have key:∀(us:List Value)(k:Nat)(cells:Array Value),cells.size=(k+us.length)*m->(∀v∈us,v.cells.size=m)->
   ∃c',Instr.fill (λi=>some (i*m,m)) cells ((us.zipIdx k).map λp=>(p.2,p.1))=some c'/\c'.toList=cells.toList.take (k*m)++us.flatMap λv=>v.cells.toList:=by
  intro us
  induction us with
  |nil=>intro k cells hc _;exact⟨cells,rfl,by grind [lX]⟩
  |cons u us ih=>
   intro k cells hc hu';have hcu:=hu' u (by simp);simp only[g9]at hc;have hkm:k*m+m<=cells.size:=by
    rw[hc,show(k+(us.length+1))=(k+1)+us.length by omega,Nat.add_mul,Nat.add_mul,Nat.one_mul];omega
   have hsp:=vW u.cells.toList cells (k*m) (by simp[hcu,hkm]);simp only[Array.toArray_toList,Array.length_toList,hcu]at hsp;have hsz:(u.cells.zipIdx.foldl (λcs(c,j)=>cs.setIfInBounds (k*m+j) c) cells).size=(k+1+us.length)*m:=by
    have:=congrArg List.length hsp;simp only[Array.length_toList,dL,cV,gH,hcu]at this;rw[this,Nat.min_eq_left (by omega)];have:(k+1+us.length)*m=cells.size:=by rw[hc];congr 1;omega
    omega
   obtain⟨c',h1,h2⟩:=ih (k+1) _ hsz<|λv hv=>hu' v (by simp[hv])
   refine⟨c',?_,?_⟩
   ·rw[List.zipIdx_cons,ee];simp only[Instr.fill];rw[aI (by grind)];exact h1
   ·rw[h2,hsp,List.flatMap_cons];have e1:(cells.toList.take (k*m)++u.cells.toList).length=(k+1)*m:=by
     rw[dL,cV,Array.length_toList,Array.length_toList,hcu,Nat.min_eq_left (by omega),Nat.add_mul,Nat.one_mul]
    rw[<-e1,List.take_left,kb]
 have h0:(Array.map (λi=>z.cells[i % z.cells.size]!)<|Array.range<|vs.length*m).size=(0+vs.length)*m:=by simp
 obtain⟨c',h1,h2⟩:=key vs 0 _ h0 hvs;simp only[Nat.zero_mul,List.take_zero,List.nil_append]at h2;have hc':c'=(vs.flatMap λv=>v.cells.toList).toArray:=by rw[<-h2]
 subst hc';unfold Instr.buildSlice;simp only[aJ,run_underlying hu,aK,hs];rw[aI (by omega)]
 by_cases hv:vs.length*m=0
 ·have:vs= []:=by
   grind [Nat.mul_eq_zero,List.eq_nil_of_length_eq_zero]
  subst this;have e0:Array.range 0 = #[]:=rfl;simp[Instr.fill,newRow,newObj,Sem.run,e0]
 simp_all[aI,aJ,aK,aL,newRow,newObj,Sem.run]
def sj{α:Type}[GT α](M:bV):List Value->List α->Prop
 | [],[]=>True
 |v::vs,x::l=>my M v x/\sj M vs l
 |_,_=>False
theorem sj.spec{M:bV}:∀{vs:List Value}{l:List α},sj M vs l->vs.length=l.length/\(∀v∈vs,v.cells.size=GT.sz α)/\Cells M (vs.flatMap λv=>v.cells.toList) l
 | [],[],_=>⟨rfl,λ_ h=>by simp at h,Cells.nil⟩
 |v::vs,x::l,h=>by
  obtain⟨h1,h2⟩:=h;obtain⟨a,b,c⟩:=sj.spec h2;refine⟨by simp[a],λu hu=>?_,?_⟩
  ·rcases eE.1 hu with rfl|hu
   ·rw[<-GT.len h1.cells];simp
   ·exact b u hu
  ·rw[List.flatMap_cons];exact(Cells.one h1.cells).append c
 | [],_::_,h=>h.elim
 |_::_,[],h=>h.elim
structure vY (P:Program) (e:TypeId) (m:Nat):Prop where
 z:∃z,(∀w,(zeroValue e).run P w = .ok z w)/\z.cells.size=m
 sz:∀w,(sizeOf e).run P w = .ok m w
theorem Cp{m:Nat}{parts:Array (Nat×Operand)}(l:List α)(hw:Holds E w V)(vs:List Value)(hT:qn P t e (GT.sz α))(hz:vY P e (GT.sz α))(hel:∀M hs,Good E w M hs V->sj M vs l)(k:∀v w',Holds E w' (own e v l::V)->RL P n ops rest (bZ U d v) w' Q)(hg:Wn ops U g:=by exact trivial)(hd:Nat.blt d n=true:=by exact rfl)(hparts:parts.toList.map (λp=>(p.1,ev U p.2))=vs.zipIdx.map λp=>(p.2,p.1):=by exact rfl)(hl:m=vs.length:=by exact rfl)(hm:Nat.ble (m*GT.sz α) 16777216=true:=by exact rfl):RL P n ops (⟨some d, .buildSlice t m parts,ty,pos,af,g⟩::rest) U w Q:=by
 subst hl;have hm':=Nat.ble_eq▸hm;obtain⟨M0,hs0,gd0⟩:=hw;obtain⟨hlen,hsz,hcells⟩:=(hel M0 hs0 gd0).spec;have hle:vs.length<=vs.length*GT.sz α:=Nat.le_mul_of_pos_right _ GT.pos;have hrun:=pe (P:=P) hT.pc hz.z hT.sz GT.pos hm' hsz w;refine x_ (v:= .slice (some ⟨w.heap.size,0,none⟩) vs.length vs.length) (w':=w.alloc<|.cells (vs.flatMap λv=>v.cells.toList).toArray e) hg hd ?_<|k _ _<|Holds.alloc ⟨M0,hs0,gd0⟩ _ λM hs gd=>?_
 ·have e1:parts.map (λ(i,x)=>(i,ev U x))=(vs.zipIdx.map λp=>(p.2,p.1)).toArray:=by grind
  simp_all[execOp,aJ]
 ·obtain⟨_,_,hc⟩:=(hel M hs gd).spec;refine .inr ⟨w.heap.size,0,vs.length,_,_,by rw[hlen],by omega,by grind [maxLen],rfl,?_,?_,hc⟩
  ·simp only[eN,List.size_toArray,hc.1,hlen];exact bB _
  ·simp only[List.drop_zero];rw[<-hc.1];exact fu
end
section
variable {α β ρ:Type}[GT α][GT β]{P:Program}{E:World}{V Γ':List HP}{fv:Value}
def xg(P:Program)(E:World)(V:List HP)(fv:Value)(φ:α->Option ρ)(toV:ρ->Value):Prop:=
 ∃f cap,fv = .func (.func f) #[] (List.toArray cap)/\gC P f/\∀(w:World)(Γl:List HP)(v:Value)(x:α)(r:ρ)(i:Nat),
  Holds E w (Γl++V)->(Γl++V)[i]? =some (rd v x)->φ x=some r->Calls P f ([v]++cap).toArray w (fR λu w'=>u=toV r/\Holds E w' (Γl++V))
def y9(P:Program)(E:World)(V:List HP)(fv:Value)(φ:α->β->Option ρ)(toV:ρ->Value):Prop:=
 ∃f cap,fv = .func (.func f) #[] (List.toArray cap)/\gC P f/\∀(w:World)(Γl:List HP)(v v':Value)(x:α)(y:β)(r:ρ)(i j:Nat),
  Holds E w (Γl++V)->(Γl++V)[i]? =some (rd v x)->(Γl++V)[j]? =some (rd v' y)->φ x y=some r->Calls P f ([v,v']++cap).toArray w (fR λu w'=>u=toV r/\Holds E w' (Γl++V))
theorem xg.lift{φ:α->Option ρ}{toV:ρ->Value}(h:xg P E V fv φ toV)(m:Nat)(hd:Γ'.drop m=V):xg P E Γ' fv φ toV:=by
 obtain⟨f,cap,e,hf,hc⟩:=h;subst hd;refine⟨f,cap,e,hf,λw Γl v x r i hw hi hr=>?_⟩;have e2:Γl++Γ'=(Γl++Γ'.take m)++Γ'.drop m:=by rw[kb,List.take_append_drop]
 grind
theorem y9.lift{φ:α->β->Option ρ}{toV:ρ->Value}(h:y9 P E V fv φ toV)(m:Nat)(hd:Γ'.drop m=V):y9 P E Γ' fv φ toV:=by
 obtain⟨f,cap,e,hf,hc⟩:=h;subst hd;refine⟨f,cap,e,hf,λw Γl v v' x y r i j hw hi hj hr=>?_⟩;have e2:Γl++Γ'=(Γl++Γ'.take m)++Γ'.drop m:=by rw[kb,List.take_append_drop]
 grind
theorem nQ{Γl V:List HP}{j:Nat}{Pr:HP}(h:V[j]? =some Pr:=by exact rfl):(Γl++V)[Γl.length+j]? =some Pr:=by
 grind
variable {n:Nat}{U:Nat->Value}{w:World}{Q:dC}{i j:Nat}
variable {ops:Array Oper}{rest:List Oper}{d:Nat}{ty:TypeId}{pos:String}{af:Array Edge}{g:Option (Nat×Bool)}{v v':Value}{q r r':Operand}{ts:Array TypeId}
theorem C5{φ:α->Option ρ}{toV:ρ->Value}{x:α}{y:ρ}(i:Nat)(hd:Nat.blt d n=true)(hw:Holds E w V)(hq:ev U q=fv)(hf:xg P E Γ' fv φ toV)(m:Nat)(hdr:V.drop m=Γ')(hx:ev U r=v)(hi:V[i]? =some (rd v x))(hr:φ x=some y)(k:∀w',Holds E w' V->RL P n ops rest (bZ U d<|toV y) w' Q)(hg:Wn ops U g:=by exact trivial):
  RL P n ops (⟨some d, .call ⟨.value q,#[r],ts⟩,ty,pos,af,g⟩::rest) U w Q:=by
 obtain⟨f,cap,e,hF,hc⟩:=hf.lift m hdr;refine CU hg hd hF (by rw[hq,e]) [v] (by simp[hx])<|eG (hc w [] v x y i (by grind) (by grind) hr) ?_
 grind
theorem DN{φ:α->β->Option ρ}{toV:ρ->Value}{x:α}{x':β}{y:ρ}(hg:Wn ops U g)(hd:Nat.blt d n=true)(hw:Holds E w V)(hq:ev U q=fv)(hf:y9 P E Γ' fv φ toV)(m:Nat)(hdr:V.drop m=Γ')
  (hx:ev U r=v) (hx':ev U r'=v') (hi:V[i]? =some (rd v x)) (hj:V[j]? =some (rd v' x')) (hr:φ x x'=some y) (k:∀w',Holds E w' V->RL P n ops rest (bZ U d<|toV y) w' Q):
  RL P n ops (⟨some d, .call ⟨.value q,#[r,r'],ts⟩,ty,pos,af,g⟩::rest) U w Q:=by
 obtain⟨f,cap,e,hF,hc⟩:=hf.lift m hdr;refine CU hg hd hF (by rw[hq,e]) [v,v'] (by simp[hx,hx'])<|eG (hc w [] v v' x x' y i j (by grind) (by grind) (by grind) hr) ?_
 grind
end
section
variable {P:Program}{n:Nat}{U:Nat->Value}{w:World}{Q:dC}{E:World}{V:List HP}{x y:Code}
variable {ops:Array Oper}{rest:List Oper}{d:Nat}{ty T T':TypeId}{pos:String}{af:Array Edge}{g:Option (Nat×Bool)}{v:Value}{q r:Operand}
theorem Da(hc:ev U q = .bool true)(h:RC P n x U w Q):RC P n (.cond q x y) U w Q:=by grind [C2]
theorem Db(hc:ev U q = .bool false)(h:RC P n y U w Q):RC P n (.cond q x y) U w Q:=by grind [C2]
theorem Ag{k m:Nat}(h:k<m):Value.bool (decide<|(k:Int)<(m:Int)) = .bool true:=by grind
theorem Ah{m:Nat}:Value.bool (decide<|(m:Int)<(m:Int)) = .bool false:=by simp
theorem Ca{k m:Nat}(hk:k<m)(hm:m<=4611686018427387904)(h:RL P n ops rest (bZ U d<|.int .i64 ((k+1:Nat):Int)) w Q)(hg:Wn ops U g:=by exact trivial)(hd:Nat.blt d n=true:=by exact rfl)(hx:ev U q = .int .i64 (k:Int):=by exact rfl)(hy:ev U r = .int .i64 1:=by exact rfl):RL P n ops (⟨some d, .binOp .add T q r T',ty,pos,af,g⟩::rest) U w Q:=by
 refine y_ (hg:=hg) (hd:=hd) (hx:=hx) (hy:=hy) (bop:= .add) _ _ ?_
 grind [uW]
theorem sg.of{P:Program}{t e:TypeId}{k b:Nat}(z:Value)(h3:z.cells.size=k)(h1:P.underlying t=some (.slice e):=by kernel_rfl)(h2:(P.info? e).map (λi=>(i.zero,i.size,i.bytes))=some (some z,k,b):=by kernel_rfl)(h4:0<b:=by decide):sg P t e k b:=by
 refine⟨h1,?_,h4⟩
 cases hi:P.info? e with
 |none=>grind
 |some i=>
  grind
theorem vX.of{P:Program}{T:TypeId}{fs:Array Field}{places:List (Nat×Nat)}(z:Value)(h1:P.underlying T=some (.struct fs))(h2:∀w,(zeroValue T).run P w = .ok z w:=by intro _;kernel_rfl)(h3:∀w,(fs.mapM (m:=Sem) λf:Field=>do pure (f.offset,<-sizeOf f.type)).run P w = .ok places.toArray w:=by intro _;kernel_rfl):vX P T places z.cells:=by
 refine⟨λparts w=>?_⟩;unfold Instr.build;simp only[aJ,h2,aK,run_underlying h1];rw[h3];simp only[aK]
 cases Instr.fill (λx=>places.toArray[x]?) z.cells parts.toList <;> rfl
end
section
variable {α:Type}[GT α]{E w:World}{V L:List HP}{i:Nat}{v:Value}{x:α}{Pr R:HP}
theorem Holds.nR(h:Holds E w V)(hi:V[i]? =some (pt v x)):Holds E w (pt v x::V):=h.q8 λ_ _ g=>⟨(g.sat i _ hi).1,rfl⟩
theorem Holds.bP(h:Holds E w V):Holds E w (Gk.bP::V):=h.q8 λ_ _ _=>trivial
end
section
variable {P:Program}{n:Nat}{U:Nat->Value}{w:World}{Q:dC}
theorem pf{o:Oper}{a:Act}{K K':Act->World->Prop}{Q Q':Exit->Act->World->Prop}(hK:∀a w,K a w->K' a w)(hp:∀c a w,Q (.panic c) a w->Q' (.panic c) a w)(hl:LetsOut Q->LetsOut Q')
  (h:o.wp P a w K Q):o.wp P a w K' Q':=by
 unfold Oper.wp at *;generalize (execOp a.eval o).run P w=r at *
 cases r with
 |ok nx w'=>
  cases nx <;> simp only[Oper.upon]at h ⊢ <;>
   first
    |exact hK _ _ h
    |exact Calls.mono h (λe w'' he=>by grind)
    |exact Rows.mono h (λ_ _ he=>hK _ _ he)
 |halt x w'=>cases x <;> simp only[Oper.upon]at h ⊢ <;> exact hp _ _ _ h
def ins(D:Nat->Bool)(i:Nat):Nat->Bool:=λj=>bif Nat.beq j i then true else D j
def gU(D:Nat->Bool):List Edge->Prop
 | []=>True
 |e::l=>(Region.binds .any e=true->D e.on=true)/\gU D l
def i6(F:Nat->Oper->Prop):Nat->List Oper->Prop
 |_,[]=>True
 |k,o::l=>F k o/\i6 F (k+1) l
def lB:Nat->List Oper->Bool
 |_,[]=>true
 |k,o::l=>(o.after.toList.all λe=> !Region.binds .any e||Nat.blt e.on k)&&lB (k+1) l
theorem i6.at{F:Nat->Oper->Prop}:∀{k:Nat}{l:List Oper},i6 F k l->∀i o,l[i]? =some o->F (k+i) o
 |_,[],_,i,o,h=>by simp at h
 |k,p::l,hs,0,o,h=>by simp at h;subst h;exact hs.1
 |k,p::l,hs,i+1,o,h=>by have:=i6.at hs.2 i o (by simpa using h);rw[show k+(i+1)=k+1+i by omega];exact this
theorem lB.at:∀{k:Nat}{l:List Oper},lB k l=true->∀(i:Nat)(o:Oper),l[i]? =some o->∀e∈o.after,Region.binds .any e=true->e.on<k+i
 |_,[],_,i,o,h=>by simp at h
 |k,p::l,hs,0,o,h=>by
  simp at h;subst h;intro e he hb;have h1:=(bI _ _▸hs:_/\_).1;have:=gp.1 h1 e (by grind);rw[hb]at this;simpa using Nat.blt_eq▸this
 |k,p::l,hs,i+1,o,h=>by
  intro e he hb;have:=lB.at (bI _ _▸hs:_/\_).2 i o (by simpa using h) e he hb;omega
theorem sm{D:Nat->Bool}:∀(l:List Edge),(∀e∈l,Region.binds .any e=true->D e.on=true)->gU D l
 | [],_=>trivial
 |e::l,h=>⟨h e (by simp),sm l λe' he=>h e' (by simp[he])⟩
theorem DO{id:Nat}{l:List Oper}(hm:P.follows .mixedOrders=true)(hdep:lB 0 l=true)(J:(Nat->Bool)->(Nat->Value)->World->Prop)
  (h0:J (λ_=>false) U w.drew)
  (step:i6 (λi o=>∀D U w,D i=false->gU D o.after.toList->J D U w->RL P n l.toArray [o] U w (λex U w=>ex = .normal/\J (ins D i) U w)) 0 l)
  (hend:∀D U w,(∀i,i<l.length->D i=true)->J D U w->Q .normal U w):RC P n (.region id l.toArray true) U w Q:=by
 intro a ha;refine wp_region_any hm ?_;have key:∀(fuel:Nat)(listed:Array Bool)(a:Act)(w:World)(U:Nat->Value),listed.size=l.length->Sl n U a->J (λi=>listed.getD i false) U w->
   (listed.toList.countP (· =false))=fuel->wpAny P .any l.toArray (Lf n Q) fuel listed a w:=by
  have ends:∀(listed:Array Bool)(a:Act)(w:World)(U:Nat->Value),listed.size=l.length->Sl n U a->J (λi=>listed.getD i false) U w->Region.ready .any l.toArray listed= []->Lf n Q .normal a w:=by
   intro listed a w U hsz hs hJ hr;refine⟨U,hs,hend _ U w (λi hi=>?_) hJ⟩
   induction i using Nat.strongRecOn with
   |ind i ih=>
    cases e:listed.getD i false with
    |true=>rfl
    |false=>
     have hmem:i∈Region.ready .any l.toArray listed:=by
      unfold Region.ready;rw[iY];refine⟨by grind,?_⟩;have hi':i<listed.size:=by omega
      have e1:listed.getD i true=false:=by
       simp only[Array.getD_eq_getD_getElem?,dQ hi',Option.getD_some]at e ⊢;exact e
      rw[e1];simp only[Bool.not_false,Bool.true_and,List.getElem?_toArray,aO hi,Option.map_some,Option.getD_some];rw[Array.all_eq_true_iff_forall_mem];intro ed hed
      cases hb:Region.binds .any ed with
      |false=>rfl
      |true=>
       have hlt:=lB.at hdep i l[i] (aO hi) ed hed hb;have:=ih ed.on (by omega) (by omega);rw[this];rfl
     rw[hr]at hmem
     cases hmem
  intro fuel
  induction fuel with
  |zero=>
   intro listed a w U hsz hs hJ hc;have hall:∀i,i<l.length->listed.getD i false=true:=by
    intro i hi;have hi':i<listed.size:=by omega
    have:=List.countP_eq_zero.1 hc listed[i] (by simp);simp only[Array.getD_eq_getD_getElem?,dQ hi',Option.getD_some];simpa using this
   refine⟨?_,U,hs,hend _ U w hall hJ⟩;unfold Region.ready;rw[List.filter_eq_nil_iff];intro i hi;have hi2:i<l.length:=by simpa using hi
   have:=hall i hi2;have hi':i<listed.size:=by omega
   have e1:listed.getD i true=true:=by
    simp only[Array.getD_eq_getD_getElem?,dQ hi',Option.getD_some]at this ⊢;exact this
   rw[e1];simp
  |succ fuel ih=>
   intro listed a w U hsz hs hJ hc;refine⟨λhr=>ends listed a w U hsz hs hJ hr,λi hi=>?_⟩;unfold Region.ready at hi;rw[iY]at hi;obtain⟨hi1,hi2⟩:=hi;have hil:i<l.length:=by simpa using hi1
   have hi':i<listed.size:=by omega
   simp only[bI,Bool.not_eq_true']at hi2;obtain⟨hnot,hd⟩:=hi2;simp only[List.getElem?_toArray,aO hil,Option.map_some,Option.getD_some]at hd;rw[Array.all_eq_true_iff_forall_mem]at hd;have hD:(λi=>listed.getD i false) i=false:=by
    simp only[Array.getD_eq_getD_getElem?,dQ hi',Option.getD_some]at hnot ⊢;exact hnot
   have hst:=step.at i l[i]<|aO hil
   rw[eN]at hst
   have hrun:=hst _ U w hD (sm _ λe he hb=>by
    grind) hJ a hs
   have hins:ins (λi=>listed.getD i false) i=λj=>(listed.setIfInBounds i true).getD j false:=by
    funext j;unfold ins
    cases e:Nat.beq j i with
    |true=>
     have:=cL e;subst this;simp[Array.getD_eq_getD_getElem?,hi']
    |false=>
     have hne:i≠j:=λh=>by subst h;simp at e
     simp[Array.getD_eq_getD_getElem?,Array.getElem?_setIfInBounds_ne hne]
   have hcount:(listed.setIfInBounds i true).toList.countP (· =false)=fuel:=by
    have h1:listed.toList=listed.toList.take i++listed[i]::listed.toList.drop (i+1):=by
     have:=List.take_append_drop i listed.toList;rw[List.drop_eq_getElem_cons (by omega)]at this;simpa using this.symm
    have hx:listed[i]=false:=by
     simp only[Array.getD_eq_getD_getElem?,dQ hi',Option.getD_some]at hnot;exact hnot
    rw[h1,List.countP_append,List.countP_cons,hx]at hc;have h2:(listed.setIfInBounds i true).toList=listed.toList.take i++true::listed.toList.drop (i+1):=by
     rw[Array.toList_setIfInBounds,List.set_eq_take_append_cons_drop,aG (by omega)]
    rw[h2,List.countP_append,List.countP_cons];simp at hc ⊢;omega
   have hK:∀a' w',wpList P l.toArray (Lf n λex U w=>ex = .normal/\J (ins (λi=>listed.getD i false) i) U w) [] a' w'->wpAny P .any l.toArray (Lf n Q) fuel (listed.setIfInBounds i true) a' w':=by
    rintro a' w'⟨σ',hs',_,hJ'⟩;rw[hins]at hJ';exact ih _ a' w' σ' (by simp[hsz]) hs' hJ' hcount
   unfold wpOp;simp only[List.getElem?_toArray,aO hil];unfold wpList at hrun;split at hrun
   ·rename_i hw;rw[aG hw]
    rcases hrun with hrun|⟨_,a0,w0,σ0,_,hbad,_⟩
    ·exact .inl<|pf hK (λc a w h=>by obtain⟨_,_,hbad,_⟩:=h;cases hbad) (λh=>by obtain⟨_,_,_,_,hbad,_⟩:=h;cases hbad) hrun
    ·cases hbad
   ·rename_i hw;rw[aI hw];exact hK _ _ hrun
 refine key _ _ a w.drew U (by simp) ha ?_ (by simp[List.countP_replicate]);have:(λi=>(Array.replicate l.toArray.size false).getD i false)=λ_=>false:=by
  funext i;simp only[Array.getD_eq_getD_getElem?,Array.getElem?_replicate];split <;> rfl
 grind
def cF(D:Nat->Bool)(U:Nat->Value):List (Nat×Nat×Value)->Prop
 | []=>True
 |(i,d,v)::l=>(D i=true->U d=v)/\cF D U l
theorem gU.mono{D D':Nat->Bool}(h:∀i,D i=true->D' i=true):∀{l:List Edge},gU D l->gU D' l
 | [],_=>trivial
 |_::_,hl=>⟨λhb=>h _ (hl.1 hb),gU.mono h hl.2⟩
def kP(l:List Oper)(D:Nat->Bool):Prop:=∀i o,l[i]? =some o->D i=true->gU D o.after.toList
theorem su{D:Nat->Bool}{i k:Nat}(h:D k=true):ins D i k=true:=by
 grind [ins,Nat.beq]
theorem Dc{id:Nat}{l:List Oper}(hm:P.follows .mixedOrders=true)(hdep:lB 0 l=true)(J:(Nat->Bool)->(Nat->Value)->World->Prop)
  (h0:J (λ_=>false) U w.drew)
  (step:i6 (λi o=>∀D U w,D i=false->gU D o.after.toList->kP l D->J D U w->RL P n l.toArray [o] U w (λex U w=>ex = .normal/\J (ins D i) U w)) 0 l)
  (hend:∀D U w,(∀i,i<l.length->D i=true)->J D U w->Q .normal U w):RC P n (.region id l.toArray true) U w Q:=by
 refine DO hm hdep (λD U w=>kP l D/\J D U w) ⟨λi o _ h=>(by cases h),h0⟩ ?_<|λD U w hall h=>hend D U w hall h.2
 have key:∀(k:Nat)(m:List Oper),(∀i o,m[i]? =some o->l[k+i]? =some o)->i6 (λi o=>∀D U w,D i=false->gU D o.after.toList->kP l D->J D U w->RL P n l.toArray [o] U w (λex U w=>ex = .normal/\J (ins D i) U w)) k m->
   i6 (λi o=>∀D U w,D i=false->gU D o.after.toList->(kP l D/\J D U w)->RL P n l.toArray [o] U w (λex U w=>ex = .normal/\(kP l (ins D i)/\J (ins D i) U w))) k m:=by
  intro k m
  induction m generalizing k with
  |nil=>intro _ _;trivial
  |cons o m ih=>
   intro hat hs;refine⟨λD U w hD hd hJ a ha=>?_,ih (k+1) (λi o h=>by have:=hat (i+1) o (by simpa using h);grind) hs.2⟩;have h1:=hs.1 D U w hD hd hJ.1 hJ.2 a ha;have hcl:kP l (ins D k):=by
    intro i o' ho hi
    by_cases e:i=k
    ·subst e;have:=hat 0 o rfl;rw[Nat.add_zero,ho]at this;injection this with this
     subst this;exact gU.mono (λ_ h=>su h) hd
    ·have hDi:D i=true:=by
      unfold ins at hi;have:Nat.beq i k=false:=by
       cases hx:Nat.beq i k with
       |false=>rfl
       |true=>exact absurd (cL hx) e
      rw[this]at hi;exact hi
     exact gU.mono (λ_ h=>su h)<|hJ.1 i o' ho hDi
   unfold wpList at h1 ⊢;split at h1
   ·rename_i hw;rw[aG hw]
    rcases h1 with h1|⟨h2,h3⟩
    ·refine .inl<|pf (λa w h=>?_) (λc a w h=>?_) (λh=>?_) h1
     ·obtain⟨σ',hs',he,hJ'⟩:=h;exact⟨σ',hs',he,hcl,hJ'⟩
     ·obtain⟨_,_,hbad,_⟩:=h;cases hbad
     ·obtain⟨_,_,_,_,hbad,_⟩:=h;cases hbad
    ·obtain⟨_,_,_,_,hbad,_⟩:=h3;cases hbad
   ·rename_i hw;rw[aI hw];obtain⟨σ',hs',he,hJ'⟩:=h1;exact⟨σ',hs',he,hcl,hJ'⟩
 grind
theorem cF.at{D:Nat->Bool}:∀{dv:List (Nat×Nat×Value)}(_:cF D U dv)(k:Nat){j d:Nat}{v:Value}(_:dv[k]? =some (j,d,v)),D j=true->U d=v
 | [],_,k,_,_,_,hk=>by simp at hk
 |(i,d',v')::l,h,0,j,d,v,hk=>by
  simp at hk;obtain⟨rfl,rfl,rfl⟩:=hk;exact h.1
 |(i,d',v')::l,h,k+1,j,d,v,hk=>cF.at h.2 k (by grind)
def qD(j d:Nat):Nat->List (Nat×Nat×Value)->Bool
 |_,[]=>true
 | 0,_::l=>dfreeA l
 |k+1,(i,t,_)::l=> !Nat.beq i j&& !Nat.beq t d&&qD j d k l
where dfreeA:List (Nat×Nat×Value)->Bool
 | []=>true
 |(i,t,_)::l=> !Nat.beq i j&& !Nat.beq t d&&dfreeA l
theorem cF.up{D:Nat->Bool}{j d:Nat}{v:Value}:∀{dv:List (Nat×Nat×Value)}(_:cF D U dv)(_:qD.dfreeA j d dv=true),cF (ins D j) (bZ U d v) dv
 | [],_,_=>trivial
 |(i,t,u)::l,h,hf=>by
  unfold qD.dfreeA at hf;simp only[bI,Bool.not_eq_true']at hf;refine⟨λhi=>?_,cF.up h.2 hf.2⟩;unfold ins at hi;rw[hf.1.1]at hi;unfold bZ;rw[hf.1.2];exact h.1 hi
theorem cF.put{D:Nat->Bool}{j d:Nat}{v v':Value}:∀{dv:List (Nat×Nat×Value)}(_:cF D U dv)(k:Nat)(_:dv[k]? =some (j,d,v))(_:qD j d k dv=true),cF (ins D j) (bZ U d v') (dv.set k (j,d,v'))
 | [],_,k,hk,_=>by simp at hk
 |(i,t,u)::l,h,0,hk,hf=>by
  refine⟨λ_=>?_,cF.up h.2 hf⟩;unfold bZ;have:Nat.beq d d=true:=Nat.beq_refl d;rw[this];rfl
 |(i,t,u)::l,h,k+1,hk,hf=>by
  unfold qD at hf;simp only[bI,Bool.not_eq_true']at hf;refine⟨λhi=>?_,cF.put h.2 k (by simpa using hk) hf.2⟩;unfold ins at hi;rw[hf.1.1]at hi;unfold bZ;rw[hf.1.2];exact h.1 hi
theorem nf{b:Bool}(h:b=true->False):b=false:=by grind
theorem cF.no{D:Nat->Bool}{j:Nat}:∀{dv:List (Nat×Nat×Value)}(_:cF D U dv)(_:(dv.all λx=> !Nat.beq x.1 j)=true),cF (ins D j) U dv
 | [],_,_=>trivial
 |(i,t,u)::l,h,hf=>by
  rw[List.all_cons,bI,Bool.not_eq_true']at hf;refine⟨λhi=>?_,cF.no h.2 hf.2⟩;unfold ins at hi;rw[hf.1]at hi;exact h.1 hi
theorem Holds.same{E w:World}{V Γ':List HP}(h:Holds E w V)(e:Γ'=V):Holds E w Γ':=by grind
theorem xv{V:List HP}{i:Nat}{Pr R:HP}(h:V[i]? =some Pr)(e:R=Pr):V.set i R=V:=by grind [mY]
theorem Holds.ei{E w:World}{V:List HP}(i:Nat){b:Bool}{R Pr:HP}(h:Holds E w V)(hb:b=false)(hi:V[i]? =some (bif b then R else Pr):=by exact rfl):Holds E w (V.set i Pr):=by grind [xv]
theorem Holds.jz{E w:World}{V:List HP}(i:Nat){b:Bool}{R Pr:HP}(h:Holds E w V)(hb:b=true)(hi:V[i]? =some (bif b then R else Pr):=by exact rfl):Holds E w (V.set i R):=by grind [xv]
theorem Holds.fS{E w:World}{V:List HP}(i:Nat)(b:Bool){Pr:HP}(h:Holds E w V)(hb:b=true)(R:HP)(hi:V[i]? =some Pr:=by exact rfl):Holds E w (V.set i (bif b then Pr else R)):=by grind [xv]
theorem Holds.lC{E w:World}{V:List HP}(i:Nat)(b:Bool){Pr:HP}(h:Holds E w V)(hb:b=false)(R:HP)(hi:V[i]? =some Pr:=by exact rfl):Holds E w (V.set i (bif b then R else Pr)):=by grind [xv]
theorem ft{b:Bool}(h1:b=false)(h2:b=true):False:=by grind
theorem agree.at:∀{l:List (Nat×Value)}(_:agree U l)(k:Nat){d:Nat}{v:Value}(_:l[k]? =some (d,v)),U d=v
 | [],_,k,_,_,hk=>by simp at hk
 |(d',v')::l,h,0,d,v,hk=>by simp at hk;obtain⟨rfl,rfl⟩:=hk;exact h.1
 |(d',v')::l,h,k+1,d,v,hk=>agree.at h.2 k (by grind)
def kg(d:Nat):List (Nat×Value)->Bool
 | []=>true
 |(t,_)::l=> !Nat.beq t d&&kg d l
theorem agree.up{d:Nat}{v:Value}:∀{l:List (Nat×Value)}(_:agree U l)(_:kg d l=true),agree (bZ U d v) l
 | [],_,_=>trivial
 |(t,u)::l,h,hf=>by
  unfold kg at hf;simp only[bI,Bool.not_eq_true']at hf;refine⟨?_,agree.up h.2 hf.2⟩;unfold bZ;rw[hf.1];exact h.1
theorem agree.c{d:Nat}{v:Value}{l:List (Nat×Value)}(h:U d=v)(hl:agree U l):agree U ((d,v)::l):=⟨h,hl⟩
theorem agree.z:agree U []:=trivial
theorem cF.none:∀{dv:List (Nat×Nat×Value)},cF (λ_=>false) U dv
 | []=>trivial
 |(_,_,_)::_=>⟨λh=>(by cases h),cF.none⟩
variable {ops:Array Oper}{rest:List Oper}{d:Nat}{ty T T':TypeId}{pos:String}{af:Array Edge}{g:Option (Nat×Bool)}{v:Value}{q r:Operand}
end
theorem str_inj{a b:fy}:(⟨a.hL.toArray⟩:ByteArray)= ⟨b.hL.toArray⟩↔a=b:=by
 constructor
 ·intro h;have h1:a.hL.toArray=b.hL.toArray:=congrArg ByteArray.data h;have h2:a.hL=b.hL:=by grind
  cases a;simp_all
 grind
theorem ux(a b:fy):((⟨a.hL.toArray⟩:ByteArray)==⟨b.hL.toArray⟩)= decide (a=b):=by
 have e:((⟨a.hL.toArray⟩:ByteArray)==⟨b.hL.toArray⟩)=(a.hL.toArray==b.hL.toArray):=rfl
 grind [str_inj]
section
variable {P:Program}{w:World}{T:TypeId}{fs:Array Field}{xs ys:Array Value}{d:Nat}
inductive vN (P:Program) (w:World) (d:Nat) (xs ys:Array Value):List Field->List Bool->Prop
 |nil:vN P w d xs ys [] []
 |cons {f:Field} {l:List Field} {b:Bool} {bs:List Bool} {x y:Value} (hn:f.name≠ "_") (hx:(part f.type xs f.offset).run P w = .ok x w) (hy:(part f.type ys f.offset).run P w = .ok y w)
   (he:(Op.equalIn d f.type x y).run P w = .ok b w) (h:vN P w d xs ys l bs):vN P w d xs ys (f::l) (b::bs)
theorem ku(d:Nat)(hu:P.underlying T=some (.struct fs)){bs:List Bool}(h:vN P w d xs ys fs.toList bs)(hs:P.stoodInHeld T=false:=by kernel_rfl):
  (Op.equalIn (d+1) T (.agg xs)<|.agg ys).run P w = .ok (bs.all id) w:=by
 obtain⟨l⟩:=fs;rw[Op.equalIn];simp only[aJ,run_underlying hu,aK,program,Sem.run,hs,List.forIn_toArray];rw[aI (by decide)];simp only at h;simp only[aJ,aL,aK];clear hu
 induction h with
 |nil=>simp
 | @cons f l b bs x y hn hx hy he h ih=>
  simp only[List.forIn_cons,hn,ne_eq,not_false_eq_true,if_true,aJ,hx,hy,he,aK]
  cases b with
  |true=>simp_all
  |false=>simp
structure zb (P:Program) (T:TypeId) (α:Type) [GT α] [DecidableEq α]:Prop where
 eq:∀(M:bV)(cs ds:List Value)(a b:α)(w:World),GT.ok M cs a->GT.ok M ds b->(Op.equal T (nN α cs)<|nN α ds).run P w = .ok (decide<|a=b) w
 Bt:P.eqGuardType P.depth T=false
end
section
variable {α:Type}[GT α][DecidableEq α]{P:Program}{n:Nat}{U:Nat->Value}{w:World}{Q:dC}{E:World}{V:List HP}{i j:Nat}
variable {ops:Array Oper}{rest:List Oper}{d:Nat}{ty T T':TypeId}{pos:String}{af:Array Edge}{g:Option (Nat×Bool)}{v v':Value}{q r:Operand}{a b:α}
theorem run_seq(hw:Holds E w V)(hi:V[i]? =some (rd v a))(hj:V[j]? =some (rd v' b))(hT:zb P T α)(hag:GT.agg α=true):
  ((eqGuard .eql T q r v v').run P w = .ok () w/\(binOp .eql T v v').run P w = .ok (.bool<|decide<|a=b) w)/\
  ((eqGuard .neq T q r v v').run P w = .ok () w/\(binOp .neq T v v').run P w = .ok (.bool<|!decide (a=b)) w):=by
 obtain⟨M,hs,gd⟩:=hw;obtain⟨cs,hv,ho⟩:=(gd.sat i _ hi).1;obtain⟨ds,hv',ho'⟩:=(gd.sat j _ hj).1;have he:=hT.eq M cs ds a b w ho ho';rw[<-hv,<-hv']at he;have e1:v = .agg cs.toArray:=by grind [nN]
 have e2:v' = .agg ds.toArray:=by grind [nN]
 subst e1;subst e2;refine⟨⟨?_,?_⟩,?_,?_⟩
 ·simp[eqGuard,program,Sem.run,hT.Bt]
 ·grind [binOp,aJ,aK,aL]
 ·simp[eqGuard,program,Sem.run,hT.Bt]
 grind [binOp,aJ,aK,aL]
theorem DQ(hg:Wn ops U g)(hd:Nat.blt d n=true)(hw:Holds E w V)(hx:ev U q=v)(hy:ev U r=v')(hi:V[i]? =some (rd v a))(hj:V[j]? =some (rd v' b))(hT:zb P T α)(hag:GT.agg α=true)
  (k:RL P n ops rest (bZ U d<|.bool<|decide<|a=b) w Q):RL P n ops (⟨some d, .binOp .eql T q r T',ty,pos,af,g⟩::rest) U w Q:=by
 obtain⟨⟨h1,h2⟩,_⟩:=run_seq (q:=q) (r:=r) hw hi hj hT hag;refine x_ hg hd ?_ k
 grind [execOp,aJ,aK,aL]
theorem DR(hg:Wn ops U g)(hd:Nat.blt d n=true)(hw:Holds E w V)(hx:ev U q=v)(hy:ev U r=v')(hi:V[i]? =some (rd v a))(hj:V[j]? =some (rd v' b))(hT:zb P T α)(hag:GT.agg α=true)
  (k:RL P n ops rest (bZ U d<|.bool<|!decide (a=b)) w Q):RL P n ops (⟨some d, .binOp .neq T q r T',ty,pos,af,g⟩::rest) U w Q:=by
 obtain⟨_,h1,h2⟩:=run_seq (q:=q) (r:=r) hw hi hj hT hag;refine x_ hg hd ?_ k
 grind [execOp,aJ,aK,aL]
end
theorem eH{P:Program}{T:TypeId}(hT:j6 P T false 1){xs:Array Value}{k:Nat}{x:Value}(w:World)(h:xs[k]? =some x:=by exact rfl):(part T xs k).run P w = .ok x w:=by
 simp[part,hT.yt,h]
theorem gM{P:Program}{T:TypeId}{K:IntKind}{d:Nat}(hu:P.underlying T=some (.int K))(a b:Int)(w:World):(Op.equalIn (d+1) T (.int K a)<|.int K b).run P w = .ok (a==b) w:=by
 rw[Op.equalIn];simp only[aJ,run_underlying hu,aK];simp
theorem sw{P:Program}{T:TypeId}{d:Nat}(hu:P.underlying T=some .bool)(a b:Bool)(w:World):(Op.equalIn (d+1) T (.bool a)<|.bool b).run P w = .ok (a==b) w:=by
 rw[Op.equalIn];simp only[aJ,run_underlying hu,aK];simp
theorem tN{P:Program}{T:TypeId}{d:Nat}(hu:P.underlying T=some .string)(a b:fy)(w:World):(Op.equalIn (d+1) T (str a)<|str b).run P w = .ok (decide<|a=b) w:=by
 rw[Op.equalIn];simp only[aJ,run_underlying hu,aK,str];simp[ux]
def mZ{α:Type}(l:List α)(lo hi:Int):Option (List α):=if 0<=lo/\lo<=hi/\hi<=l.length then some ((l.drop lo.toNat).take (hi - lo).toNat)else none
section
variable {α:Type}[GT α]{P:Program}{n:Nat}{U:Nat->Value}{w:World}{Q:dC}{E:World}{V:List HP}{i:Nat}
variable {ops:Array Oper}{rest:List Oper}{d:Nat}{ty T e:TypeId}{pos:String}{af:Array Edge}{g:Option (Nat×Bool)}{v:Value}{q:Operand}{l l':List α}{lo hi:Int}
theorem sA{M:bV}{a:Option Addr}{m cap:Nat}(h:hU M (.slice a m cap) l)(h0:0<=lo)(h1:lo<=hi)(h2:hi<=l.length):
  hU M (.slice (if cap=lo.toNat then a else a.map (·.add (lo.toNat*GT.sz α))) (hi.toNat - lo.toNat)<|cap - lo.toNat) ((l.drop lo.toNat).take (hi - lo).toNat):=by
 obtain⟨a',m',cap',hv,hm,hc,hx,hel⟩:=h;injection hv with e1 e2 e3
 subst e1;subst e2;subst e3;refine⟨_,_,_,rfl,?_,by omega,by omega,λk x hk=>?_⟩
 ·grind
 ·rw[dB]at hk
  grind [GT.sz,add_add,Nat.add_mul]
theorem m0{a:Option Addr}{m cap:Nat}{lov hiv:Option Value}(hT:qn P T e (GT.sz α))(hl:lov=some (.int .i64 lo)\/(lov=none/\lo=0))(hh:hiv=some (.int .i64 hi)\/(hiv=none/\hi=m))
  (h0:0<=lo) (h1:lo<=hi) (h2:hi<=m) (hc:m<=cap) (w:World):
  (Instr.sliceAt T (.slice a m cap) lov hiv none).run P w = .ok (.slice (if cap=lo.toNat then a else a.map (·.add (lo.toNat*GT.sz α))) (hi.toNat - lo.toNat)<|cap - lo.toNat) w:=by
 have eh:(Instr.sliceBounds true m cap lov hiv none).run P w = .ok (lo.toNat,hi.toNat,cap) w:=by
  unfold Instr.sliceBounds;have e1:∀(y:Nat)(c:BoundsCode),hi<=y->(Instr.sliceBound (.int .i64 hi) y c).run P w = .ok hi.toNat w:=λy c hy=>by
   simp[Instr.sliceBound,asIntOf,show 0<=hi by omega,hy]
  have e2:∀(y:Nat)(c:BoundsCode),lo<=y->(Instr.sliceBound (.int .i64 lo) y c).run P w = .ok lo.toNat w:=λy c hy=>by
   simp_all[Instr.sliceBound,asIntOf]
  grind [aJ,aL,aK]
 unfold Instr.sliceAt;simp only[aJ,run_underlying hT.pc,aK];unfold Instr.slice;simp only[aJ,run_underlying hT.pc,aK,eh,hT.sz,aL]
theorem CV{lop hip:Option Operand}(i:Nat)(hd:Nat.blt d n=true)(hw:Holds E w V)(hx:ev U q=v)(hi':V[i]? =some (rd v l))(hT:qn P T e (GT.sz α))(hh:hip.map (ev U)=some (.int .i64 hi)\/(hip.map (ev U)=none/\hi=(l.length:Nat)))(hb:mZ l lo hi=some l')(k:∀v',Holds E w (rd v' l'::V)->RL P n ops rest (bZ U d v') w Q)(hg:Wn ops U g:=by exact trivial)(hl:lop.map (ev U)=some (.int .i64 lo)\/(lop.map (ev U)=none/\lo=0):=by exact(.inl rfl)):
  RL P n ops (⟨some d, .slice T q lop hip none,ty,pos,af,g⟩::rest) U w Q:=by
 unfold mZ at hb;split at hb
 ·rename_i hc;injection hb with hb
  subst hb;obtain⟨M,hs,gd⟩:=hw;have hs':=fV.1 (gd.sat i _ hi').1;obtain⟨a,m,cap,hv,hm,hcap,_⟩:=hs';subst hv;have hs2:=fV.1 (gd.sat i _ hi').1;have hcut:=sA hs2 hc.1 hc.2.1 hc.2.2;refine x_ hg hd ?_<|k _ ⟨M,_,gd.dS ⟨fV.2 hcut,rfl⟩⟩
  grind [m0,execOp,aJ,aK,aL]
 ·cases hb
end
section
variable {P:Program}{n:Nat}{U:Nat->Value}{w:World}{Q:dC}{E:World}{V:List HP}{i:Nat}
variable {ops:Array Oper}{rest:List Oper}{d:Nat}{ty T T':TypeId}{pos:String}{af:Array Edge}{g:Option (Nat×Bool)}{v:Value}{q r:Operand}{lo hi:Int}
theorem DS{a b:Bool}(hg:Wn ops U g)(hd:Nat.blt d n=true)(hx:ev U q = .bool a)(hy:ev U r = .bool b)(hu:P.underlying T=some .bool)
  (k:RL P n ops rest (bZ U d<|.bool<|a != b) w Q):RL P n ops (⟨some d, .binOp .neq T q r T',ty,pos,af,g⟩::rest) U w Q:=by
 refine C3 hg hd hx hy (λ_=>rfl) (λw=>?_) k
 grind [sw,binOp,aJ,Op.equal,Op.maxDepth,aK,aL]
end
def sB{α:Type}(a:Nat)(ds xs:List α):List α:=xs.take a++ds++xs.drop (a+ds.length)
theorem mz{α:Type}{a:Nat}{ds xs:List α}(h:a+ds.length<=xs.length):(sB a ds xs).length=xs.length:=by
 unfold sB;grind
theorem m3{α:Type}{a:Nat}{ds xs:List α}(h:a+ds.length<=xs.length)(t:Nat):
  (sB a ds xs)[t]? =if t<a then xs[t]? else if t<a+ds.length then ds[t - a]? else xs[t]? :=by
 unfold sB
 grind
def xh(v:Value)(k sz off:Nat)(p:Value):Prop:=∃a n c,v = .slice (some a) n c/\p = .pointer (some<|a.add<|k*sz+off)
theorem kh{i k sz:Nat}(h:i<k):i*sz+sz<=k*sz:=by
 calc i*sz+sz=(i+1)*sz:=by rw[Nat.add_mul,Nat.one_mul]
  _<=k*sz:=Nat.mul_le_mul_right _ h
section
variable {α β:Type}[GT α][GT β]{P:Program}{n:Nat}{U:Nat->Value}{w:World}{Q:dC}{E:World}{V:List HP}{i j:Nat}
variable {ops:Array Oper}{rest:List Oper}{d:Nat}{ty T T' e:TypeId}{pos:String}{af:Array Edge}{g:Option (Nat×Bool)}{v u p:Value}{q r:Operand}{l l':List α}{x:α}{jj:Int}{k off:Nat}
theorem cJ{α:Type}{l:List α}{jj:Int}{x:α}(h:idx l jj=some x):0<=jj/\l[jj.toNat]? =some x/\jj.toNat<l.length:=by
 grind [idx,aV]
theorem DT{K:IntKind}(hg:Wn ops U g)(hd:Nat.blt d n=true)(hw:Holds E w V)(hx:ev U q=v)(hy:ev U r = .int K jj)(hi:V[i]? =some (own e v l))
  (hT:qn P T e (GT.sz α)) (hj:idx l jj=some x) (kk:∀p,xh v jj.toNat (GT.sz α) 0 p->RL P n ops rest (bZ U d p) w Q):
  RL P n ops (⟨some d, .indexAddr T q r,ty,pos,af,g⟩::rest) U w Q:=by
 obtain⟨h0,hx',hlt⟩:=cJ hj;obtain⟨M,hs,gd⟩:=hw
 rcases gd.sat i _ hi with⟨rfl,rfl,_⟩|⟨b,o,cap,cur,xs,rfl,h2,_⟩
 ·simp at hlt
 ·refine x_ (v:= .pointer<|some<|(⟨b,o,none⟩:Addr).add<|jj.toNat*GT.sz α) hg hd ?_<|kk _ ⟨_,_,_,rfl,by rw[Nat.add_zero]⟩
  have hlt':jj<(l.length:Nat):=by omega
  simp only[execOp,hx,hy,Instr.indexAt,asIntOf,aJ,aL,aK,run_underlying hT.pc,hT.sz,h0,hlt',and_self,if_true]
def tO(v:Value)(k sz off:Nat):Value:=match v with| .slice (some a) _ _=> .pointer (some<|a.add<|k*sz+off)|_=>undef
theorem nO{w E:World}{V:List HP}(i:Nat){v:Value}{l:List α}{jj:Int}{x:α}(hw:Holds E w V)(hx:idx l jj=some x)(off:Nat)(hi:V[i]? =some (own e v l):=by exact rfl):xh v jj.toNat (GT.sz α) off (tO v jj.toNat (GT.sz α) off):=by
 obtain⟨h0,hx',hlt⟩:=cJ hx;obtain⟨M,hs,gd⟩:=hw
 rcases gd.sat i _ hi with⟨rfl,rfl,_⟩|⟨b,o,cap,cur,xs,rfl,h2,_⟩
 ·simp at hlt
 ·exact⟨_,_,_,rfl,rfl⟩
theorem BZ{K:IntKind}(i:Nat)(hw:Holds E w V)(hx:ev U q=v)(hi:V[i]? =some (own e v l))(hT:qn P T e (GT.sz α))(hj:idx l jj=some x)(kk:RL P n ops rest (bZ U d<|tO v jj.toNat (GT.sz α) 0) w Q)(hg:Wn ops U g:=by exact trivial)(hd:Nat.blt d n=true:=by exact rfl)(hy:ev U r = .int K jj:=by exact rfl):
  RL P n ops (⟨some d, .indexAddr T q r,ty,pos,af,g⟩::rest) U w Q:=
 DT hg hd hw hx hy hi hT hj λp hp=>by
  obtain⟨a,n',c,hv,rfl⟩:=hp;have:tO v jj.toNat (GT.sz α) 0 = .pointer (some<|a.add<|jj.toNat*GT.sz α+0):=by rw[hv];rfl
  rw[<-this];exact kk
theorem DU{m jx:Nat}(hg:Wn ops U g)(hd:Nat.blt d n=true)(hx:ev U q=p)(hp:xh v k (GT.sz α) off p)(hf:md P T jx m)
  (kk:∀p',xh v k (GT.sz α) (off+m) p'->RL P n ops rest (bZ U d p') w Q):RL P n ops (⟨some d, .fieldAddr T q jx,ty,pos,af,g⟩::rest) U w Q:=by
 obtain⟨a,n',c,hv,hp⟩:=hp;refine x_ (v:= .pointer<|some<|(a.add<|k*GT.sz α+off).add m) hg hd ?_<|kk _ ⟨a,n',c,hv,by rw[add_add,Nat.add_assoc]⟩
 simp only[execOp,hx,hp,aJ,hf.run,aK,aL]
theorem CD{m jx:Nat}(hg:Wn ops U g)(hp:xh v k (GT.sz α) off (tO v k (GT.sz α) off))(hf:md P T jx m)(kk:RL P n ops rest (bZ U d<|tO v k (GT.sz α)<|off+m) w Q)(hd:Nat.blt d n=true:=by exact rfl)(hx:ev U q=tO v k (GT.sz α) off:=by exact rfl):RL P n ops (⟨some d, .fieldAddr T q jx,ty,pos,af,g⟩::rest) U w Q:=
 DU (α:=α) hg hd hx hp hf λp hp=>by
  obtain⟨a,n',c,hv,rfl⟩:=hp;have:tO v k (GT.sz α) (off+m) = .pointer (some<|a.add<|k*GT.sz α+(off+m)):=by rw[hv];rfl
  rw[<-this];exact kk
theorem Dd{f:α->β}(hg:Wn ops U g)(hd:Nat.blt d n=true)(hw:Holds E w V)(hx:ev U q=p)(hp:xh v k (GT.sz α) off p)(hi:V[i]? =some (own e v l))(hl:l[k]? =some x)(hF:Fd off f)
  (hT:j6 P T (GT.agg β) (GT.sz β)) (kk:∀u,Holds E w (rd u (f x)::V)->RL P n ops rest (bZ U d u) w Q):RL P n ops (⟨some d, .load T q,ty,pos,af,g⟩::rest) U w Q:=by
 obtain⟨M,hs,gd⟩:=hw;obtain⟨a,n',c,hv,hpp⟩:=hp;have hkl:=(aV.1 hl).1
 rcases gd.sat i _ hi with⟨hv',rfl,_⟩|⟨b,o,cap,cur,xs,hv',h2,h3,h4,h5,h6,h7⟩
 ·simp at hkl
 ·rw[hv]at hv';injection hv' with e1 e2 e3
  injection e1 with e1
  subst e1;have hb:=gd.le i b _ (bK hi) (by rw[h4];exact bM b _);have ho:=hF M _ x<|h7.2 k x hl
  refine x_ (v:=nN β<|(((xs.drop<|k*GT.sz α).take<|GT.sz α).drop off).take<|GT.sz β) hg hd ?_<|kk _ ⟨M,_,gd.dS ⟨⟨_,rfl,ho⟩,rfl⟩⟩
  simp only[execOp,hx,hpp,Instr.loadAt,Instr.sureAddr,aJ,aL,aK];rw[gS hT ho<|λt y hy=>?_];rfl
  grind [Addr.add_lit,cell_of_row]
theorem Cv{γ:Type}[Sc γ]{f:α->γ}(hg:Wn ops U g)(hd:Nat.blt d n=true)(hw:Holds E w V)(hx:ev U q=p)(hp:xh v k (GT.sz α) off p)(hi:V[i]? =some (own e v l))(hl:l[k]? =some x)(hF:Fd off f)
  (hT:j6 P T false 1) (kk:RL P n ops rest (bZ U d<|Sc.toV<|f x) w Q):RL P n ops (⟨some d, .load T q,ty,pos,af,g⟩::rest) U w Q:=by
 refine Dd (f:=f) hg hd hw hx hp hi hl hF hT λu h=>?_;rw[h.tI (i:=0) rfl];exact kk
theorem De{f:α->β->α}{y:β}(hg:Wn ops U g)(hw:Holds E w V)(hx:ev U q=p)(hy:ev U r=u)(hp:xh v k (GT.sz α) off p)(hi:V[i]? =some (own e v l))(hl:l[k]? =some x)(hj:V[j]? =some (rd u y))
  (hF:Fs off β f) (hm:off+GT.sz β<=GT.sz α) (hT:j6 P T (GT.agg β) (GT.sz β)) (kk:∀w',Holds E w' (V.set i<|own e v<|l.set k<|f x y)->RL P n ops rest U w' Q):
  RL P n ops (⟨none, .store T q r,ty,pos,af,g⟩::rest) U w Q:=by
 obtain⟨M,hs,gd⟩:=hw;obtain⟨a,n',c,hv,hpp⟩:=hp;have hkl:=(aV.1 hl).1;have hr:=(gd.sat j _ hj).1
 rcases gd.sat i _ hi with⟨hv',rfl,_⟩|⟨b,o,cap,cur,xs,hv',h2,h3,h4,h5,h6,h7⟩
 ·simp at hkl
 ·have hv0:=hv';rw[hv]at hv';injection hv' with e1 e2 e3
  injection e1 with e1
  subst e1;have hb:=gd.le i b _ (bK hi) (by rw[h4];exact bM b _);have hc:u.cells.size=GT.sz β:=by rw[<-GT.len hr.cells];simp
  have hcl:u.cells.toList.length=GT.sz β:=GT.len hr.cells;have hks:=kh (sz:=GT.sz α) hkl;have hcap:l.length*GT.sz α<=cap*GT.sz α:=Nat.mul_le_mul_right _ h2;have hcs:o+cap*GT.sz α<=cur.toList.length:=h5;have hrun:=hZ (P:=P) (v:=u) (o:=o+(k*GT.sz α+off)) hT.sz hc (GT.one hr.cells) hb (by omega);have hnew:(cur.toList.take (o+(k*GT.sz α+off))++u.cells.toList++cur.toList.drop (o+(k*GT.sz α+off)+GT.sz β))=sB (o+(k*GT.sz α+off)) u.cells.toList cur.toList:=by
   grind [sB]
  rw[hnew]at hrun;have hfit:o+(k*GT.sz α+off)+u.cells.toList.length<=cur.toList.length:=by omega
  have hxl:xs.length=l.length*GT.sz α:=h7.1;have hget:∀t,xs[t]? =if t<l.length*GT.sz α then cur.toList[o+t]? else none:=λt=>by
   grind
  refine CN hg ?_<|kk _<|fW (P':=own e v<|l.set k<|f x y) (new:=(sB (o+(k*GT.sz α+off)) u.cells.toList cur.toList).toArray) gd hi h4<|.inr ⟨b,o,cap,_,((sB (o+(k*GT.sz α+off)) u.cells.toList cur.toList).drop o).take<|l.length*GT.sz α,by grind,by grind,h3,rfl,?_,by rw[fw],?_⟩
  ·grind [execOp,Instr.storeAt,Instr.sureAddr,aJ,aL,aK,Addr.add_lit]
  ·grind
  ·refine⟨by rw[cV,gH,mz hfit,fw];omega,λm z hz=>?_⟩;rw[gJ]at hz
   by_cases hmk:k=m
   ·subst hmk;rw[aG rfl,aG hkl]at hz;injection hz with hz
    subst hz;have hok:=hF M _ _ x y (h7.2 k x hl) hr.cells;have heq:(List.drop (k*GT.sz α)<|((sB (o+(k*GT.sz α+off)) u.cells.toList cur.toList).drop o).take<|l.length*GT.sz α).take (GT.sz α) =
      (List.take (GT.sz α)<|List.drop (k*GT.sz α) xs).take off++u.cells.toList++(List.take (GT.sz α)<|List.drop (k*GT.sz α) xs).drop (off+GT.sz β):=by
     have e0:(List.take (GT.sz α)<|List.drop (k*GT.sz α) xs).take off++u.cells.toList++(List.take (GT.sz α)<|List.drop (k*GT.sz α) xs).drop (off+GT.sz β)=sB off u.cells.toList (List.take (GT.sz α)<|List.drop (k*GT.sz α) xs):=by
      unfold sB;rw[hcl]
     rw[e0];apply List.ext_getElem?;intro t;rw[m3 (by rw[hcl,cV,gH];omega),dB,eW,dB,eW,m3 hfit,hcl];simp only[dB,eW,hget]
     by_cases ht:t<GT.sz α
     ·rw[aG ht,aG (by omega)]
      by_cases h1:t<off
      ·rw[aG (by omega),aG h1,aG ht,aG (by omega)]
      ·rw[aI (by omega),aI h1]
       by_cases h2':t<off+GT.sz β
       ·rw[aG (by omega),aG h2'];congr 1;omega
       ·rw[aI (by omega),aI h2',aG ht,aG (by omega)]
     ·rw[aI ht,aI (by omega),aI (by omega),aI ht]
    rw[heq];exact hok
   ·rw[aI hmk]at hz;have hml:=(aV.1 hz).1;have hms:=kh (sz:=GT.sz α) hml;have hok:=h7.2 m z hz;have heq:(List.drop (m*GT.sz α)<|((sB (o+(k*GT.sz α+off)) u.cells.toList cur.toList).drop o).take<|l.length*GT.sz α).take (GT.sz α)=(List.drop (m*GT.sz α) xs).take (GT.sz α):=by
     apply List.ext_getElem?;intro t;simp only[dB,eW,m3 hfit,hcl,hget]
     by_cases ht:t<GT.sz α
     ·rw[aG ht,aG ht,aG (show m*GT.sz α+t<l.length*GT.sz α by omega),aG (show m*GT.sz α+t<l.length*GT.sz α by omega)]
      rcases Nat.lt_or_gt_of_ne hmk with h1|h1
      ·have:=kh (sz:=GT.sz α) h1;rw[aI (by omega),aI (by omega)]
      ·have:=kh (sz:=GT.sz α) h1;rw[aG (by omega)]
     ·rw[aI ht,aI ht]
    rw[heq];exact hok
theorem Dx{lop hip:Option Operand}{lo hi:Int}(i:Nat)(hg:Wn ops U g)(hd:Nat.blt d n=true)(hw:Holds E w V)(hx:ev U q=v)(hi':V[i]? =some (own e v l))(hT:qn P T e (GT.sz α))(hl:lop.map (ev U)=some (.int .i64 lo)\/(lop.map (ev U)=none/\lo=0))(hb:mZ l lo hi=some l')(kk:∀v',Holds E w (V.set i<|own e v' l')->RL P n ops rest (bZ U d v') w Q)(hh:hip.map (ev U)=some (.int .i64 hi)\/(hip.map (ev U)=none/\hi=(l.length:Nat)):=by exact(.inl rfl)):
  RL P n ops (⟨some d, .slice T q lop hip none,ty,pos,af,g⟩::rest) U w Q:=by
 unfold mZ at hb;split at hb
 ·rename_i hc;injection hb with hb
  subst hb;obtain⟨M,hs,gd⟩:=hw;have hlt:=bK hi';have hlen:((l.drop lo.toNat).take (hi - lo).toNat).length=hi.toNat - lo.toNat:=by grind
  rcases gd.sat i _ hi' with⟨rfl,rfl,hh0⟩|⟨b,o,cap,cur,xs,rfl,h2,h3,h4,h5,h6,h7⟩
  ·have hr:=m0 (P:=P) (α:=α) (a:=none) (m:=0) (cap:=0) hT hl hh hc.1 hc.2.1 hc.2.2 (bB _) w;have h00:hi.toNat - lo.toNat=0:=by grind
   have hlo:lo.toNat=0:=by grind
   refine x_ (v:= .slice none 0 0) hg hd ?_<|kk _ ⟨M,_,gd.update (P':=own e _ _) hlt j7 (.inl ⟨rfl,by rw[List.drop_nil,List.take_nil],rfl⟩) rfl rfl rfl (λ_ _ h=>by cases h) (λ_ _ h=>by cases h)<|λ_ _ _=>rfl⟩
   grind [execOp,aJ,aK,aL]
  ·have hr:=m0 (P:=P) (α:=α) (a:=some ⟨b,o,none⟩) (m:=l.length) (cap:=cap) hT hl hh hc.1 hc.2.1 hc.2.2 h2 w;have hxl:xs.length=l.length*GT.sz α:=h7.1;have hself:iM hs i (hs i)=hs:=by grind [iM]
   by_cases hce:cap=lo.toNat
   ·
    have h00:hi.toNat - lo.toNat=0:=by omega
    have hz:(l.drop lo.toNat).take (hi - lo).toNat= []:=List.eq_nil_of_length_eq_zero (by rw[hlen,h00]);have hz':l.length=cap:=by omega
    rw[hz]at kk;refine x_ (v:= .slice (some ⟨b,o,none⟩) 0 0) hg hd ?_<|kk _ ⟨M,_,gd.update (P':=own e (.slice (some ⟨b,o,none⟩) 0 0) ([]:List α)) hlt (hs i) ?_ rfl rfl rfl (λb' o' hb'=>gd.le i b' o' hlt hb') (λb' o' hb'=> .inl ⟨o',hb'⟩)<|λ_ _ _=>rfl⟩
    ·grind [execOp,aJ,aK,aL]
    ·exact .inr ⟨b,o,0,cur,[],rfl,bB _,by simp[maxLen],h4,by omega,by simp,Cells.nil⟩
   ·refine x_ (v:= .slice (some ⟨b,o+lo.toNat*GT.sz α,none⟩) ((l.drop lo.toNat).take (hi - lo).toNat).length<|cap - lo.toNat) hg hd ?_<|kk _ ⟨M,_,gd.update (P':=own e _ _) hlt (hs i) (.inr ⟨b,o+lo.toNat*GT.sz α,cap - lo.toNat,cur,(xs.drop<|lo.toNat*GT.sz α).take<|(hi - lo).toNat*GT.sz α,rfl,?_,by omega,h4,?_,?_,?_⟩) rfl rfl rfl (λb' o' hb'=>gd.le i b' o' hlt hb') (λb' o' hb'=> .inl ⟨o',hb'⟩)<|λ_ _ _=>rfl⟩
    ·grind [execOp,aJ,aK,aL,Addr.add_lit]
    ·omega
    ·rw[Nat.sub_mul];have:lo.toNat*GT.sz α<=cap*GT.sz α:=Nat.mul_le_mul_right _ (by omega);omega
    ·rw[hlen,<-h6];have e1:(hi - lo).toNat=hi.toNat - lo.toNat:=by omega
     rw[e1,List.drop_take,List.drop_drop,List.take_take];congr 1;have:hi.toNat*GT.sz α<=l.length*GT.sz α:=Nat.mul_le_mul_right _ (by have:=hc.2.2;omega);rw[Nat.sub_mul];omega
    ·refine⟨?_,λm z hz=>?_⟩
     ·rw[cV,gH,hxl,hlen];have e1:(hi - lo).toNat=hi.toNat - lo.toNat:=by omega
      have:hi.toNat*GT.sz α<=l.length*GT.sz α:=Nat.mul_le_mul_right _ (by have:=hc.2.2;omega);rw[e1,Nat.sub_mul];omega
     ·rw[dB]at hz;split at hz
      ·rename_i hm;rw[eW]at hz;have:=h7.2 _ z hz;have hms:=kh (sz:=GT.sz α) hm;rw[List.drop_take,List.drop_drop,List.take_take,Nat.min_eq_left (by omega),<-Nat.add_mul];exact this
      ·cases hz
 ·cases hb
end
def mk{α:Type}(bytes:Nat)(z:α)(n:Int):Option (List α):=if 0<=n/\n*bytes<=140737488355328 then some (List.replicate n.toNat z)else none
def ye(P:Program)(e:TypeId){α:Type}[GT α](z0:α):Prop:=∀(M:bV)(z:Value),(P.info? e).bind (·.zero)=some z->GT.ok M z.cells.toList z0
section
variable {α:Type}[GT α]{P:Program}{n:Nat}{U:Nat->Value}{w:World}{Q:dC}{E:World}{V:List HP}{i:Nat}
variable {ops:Array Oper}{rest:List Oper}{d:Nat}{ty t e:TypeId}{pos:String}{af:Array Edge}{g:Option (Nat×Bool)}{q r:Operand}{bytes:Nat}{l':List α}{z0:α}{k:Int}
theorem DV(hg:Wn ops U g)(hd:Nat.blt d n=true)(hw:Holds E w V)(hx:ev U q = .int .i64 k)(hy:ev U r = .int .i64 k)(hT:sg P t e (GT.sz α) bytes)
  (hz0:ye P e z0)
  (hb:Gk.mk bytes z0 k=some l') (kk:∀v w',Holds E w' (own e v l'::V)->RL P n ops rest (bZ U d v) w' Q):RL P n ops (⟨some d, .makeSlice t q r,ty,pos,af,g⟩::rest) U w Q:=by
 obtain⟨inf,z,hi,hz,hsz,hby,hzs⟩:=hT.inf;unfold Gk.mk at hb;split at hb
 case isFalse=>cases hb
 rename_i hc;injection hb with hb
 subst hb;obtain⟨m,rfl⟩:=Int.eq_ofNat_of_zero_le hc.1;rw[dK]at kk;have h1:m*bytes<=140737488355328:=by omega
 have h2:m<=140737488355328:=gK (Nat.le_mul_of_pos_right _ hT.pos) h1;have hbn:(inf.bytes:Int)*(m:Int)<=281474976710656:=by
  grind
 have hr:=run_make (P:=P) w t e inf z hT.pc hi hz .i64 .i64 m m (by omega) (Int.le_refl _) hbn (by omega);simp only[dK]at hr;refine x_ (v:= .slice (some ⟨w.heap.size,0,none⟩) m m) (w':=w.alloc<|.cells (madeCells z.cells<|m*inf.size) e) hg hd ?_<|kk _ _<|hw.alloc _ λM hs gd=> .inr ⟨w.heap.size,0,m,madeCells z.cells<|m*inf.size,_,by rw[List.length_replicate],by simp,by grind [maxLen],rfl,?_,rfl,?_⟩
 ·grind [execOp,aJ,aK,aL]
 ·grind [size_madeCells]
 ·have hok:=hz0 M z (by grind);have hml:(madeCells z.cells<|m*inf.size).toList.length=m*GT.sz α:=by grind [Array.length_toList,size_madeCells]
  refine⟨by grind,λa x hx=>?_⟩;rw[List.getElem?_replicate]at hx;split at hx
  ·rename_i ha;injection hx with hx
   subst hx;have hms:=kh (sz:=GT.sz α) ha;have:(List.drop (a*GT.sz α)<|(List.drop 0 (madeCells z.cells<|m*inf.size).toList).take<|(List.replicate m z0).length*GT.sz α).take (GT.sz α)=z.cells.toList:=by
    apply List.ext_getElem?;intro t;have hzl:z.cells.toList.length=GT.sz α:=by omega
    simp only[dB,eW,List.length_replicate,eN]
    by_cases ht:t<GT.sz α
    ·have hlt:a*GT.sz α+t<(madeCells z.cells<|m*inf.size).size:=by grind
     rw[aG ht,aG (by omega),Array.getElem?_toList,dQ hlt,aO (show t<z.cells.toList.length by omega)]
     grind [madeCells,GT.sz,Nat.mul_comm,Nat.mul_add_mod,Nat.mod_eq_of_lt]
    grind
   grind
  ·cases hx
end
class KV (κ:Type) [GT κ]where
 cs:κ->List Value
 spec:∀{M:bV}{c:List Value}{k:κ},GT.ok M c k->c=cs k
 ok:∀(M:bV)(k:κ),GT.ok M (cs k) k
instance instKVSc {α:Type} [Sc α]:KV α:=⟨λx=>[Sc.toV x],λh=>h,λ_ _=>rfl⟩
instance instKVProd {α β:Type} [GT α] [GT β] [KV α] [KV β]:KV (α×β):=
 ⟨λx=>KV.cs x.1++KV.cs x.2,λ⟨_,_,e,h1,h2⟩=>by rw[e,KV.spec h1,KV.spec h2],λM x=>⟨_,_,rfl,KV.ok M x.1,KV.ok M x.2⟩⟩
def KV.enc{κ:Type}[GT κ][KV κ](k:κ):Value:=nN κ<|KV.cs k
theorem KV.zj{κ:Type}[GT κ][KV κ]{M:bV}{v:Value}{k:κ}(h:my M v k):v=KV.enc k:=by
 obtain⟨cs,e,h⟩:=h;rw[e,KV.spec h];rfl
theorem KV.rd{κ:Type}[GT κ][KV κ](M:bV)(k:κ):my M (KV.enc k) k:=⟨_,rfl,KV.ok M k⟩
structure qp (P:Program) (kt:TypeId) (κ:Type) [GT κ] [KV κ] [DecidableEq κ]:Prop where
 zd:∀(b:Bool)(k:κ)(w:World),(Instr.checkKey b 10000 kt<|KV.enc k).run P w = .ok () w
 eq:∀(a b:κ)(w:World),(Op.equal kt (KV.enc a)<|KV.enc b).run P w = .ok (decide<|a=b) w
 now:(∀(a b:κ),∃D,P.underlying kt=some D/\Instr.sameNow D (KV.enc a) (KV.enc b)=some (decide<|a=b))\/(∃D,P.underlying kt=some D/\∀(a b:κ),Instr.sameNow D (KV.enc a) (KV.enc b)=none)
 bits:∀(a:κ),Instr.sameBits 10000 (KV.enc a) (KV.enc a)=true
section
variable {κ ν:Type}[GT κ][KV κ][GT ν]
def iN(M:bV):List MapEntry->List (κ×ν)->Prop
 | [],[]=>True
 |e::es,p::m=>e.key=KV.enc p.1/\my M e.val p.2/\iN M es m
 |_,_=>False
theorem iN.mono{M M':bV}(h:hle M M'):∀{es:List MapEntry}{m:List (κ×ν)},iN M es m->iN M' es m
 | [],[],_=>trivial
 |e::es,p::m,⟨h1,h2,h3⟩=>⟨h1,h2.mono h,iN.mono h h3⟩
 | [],_::_,h=>h.elim
 |_::_,[],h=>h.elim
def yf(es:List MapEntry)(clock:Nat)(m:List (κ×ν)):Prop:=(∀x∈es,x.born<clock)/\(es.map (·.born)).Nodup/\(m.map Prod.fst).Nodup
def mp(v:Value)(m:List (κ×ν)):HP:=
 ⟨λM h=>∃r es clock,v = .map (some r)/\(iN M (Array.toList es) m/\yf es.toList clock m)/\h=Gk.one r (.map es clock),λk⟨r,es,c,hv,⟨he,hst⟩,hh⟩=>⟨r,es,c,hv,⟨iN.mono k he,hst⟩,hh⟩⟩
end
section
variable {κ ν:Type}[GT κ][KV κ][DecidableEq κ][GT ν]
def fX(m:List (κ×ν))(k:κ):Option Nat:=m.findIdx?<|λp=>decide<|k=p.1
def nS(m:List (κ×ν))(k:κ)(z:ν):ν:=match m.find? (λp=>decide<|k=p.1)with|some p=>p.2|none=>z
def mA(m:List (κ×ν))(k:κ):Bool:=m.any<|λp=>decide<|k=p.1
def kQ(m:List (κ×ν))(k:κ)(x:ν):List (κ×ν):=
 match m with
 | []=>[(k,x)]
 |p::m=>if k=p.1 then(k,x)::m else p::kQ m k x
theorem sC(k:κ)(x:ν):∀m:List (κ×ν),(kQ m k x).map Prod.fst=if k∈m.map Prod.fst then m.map Prod.fst else m.map Prod.fst++[k]
 | []=>by simp[kQ]
 |p::m=>by
  unfold kQ
  by_cases h:k=p.1
  ·simp[h]
  ·rw[aI h,ee,sC k x m];simp only[ee,eE,h,false_or];split <;> simp
theorem ph{m:List (κ×ν)}(h:(m.map Prod.fst).Nodup)(k:κ)(x:ν):((kQ m k x).map Prod.fst).Nodup:=by
 rw[sC]
 grind
theorem yf.push{es:List MapEntry}{clock:Nat}{m:List (κ×ν)}(h:yf es clock m)(k:κ)(x:ν){en:MapEntry}(he:en.born=clock):yf (es++[en]) (clock+1) (kQ m k x):=by
 refine⟨λy hy=>?_,?_,ph h.2.2 k x⟩
 ·rcases dA.1 hy with hy|hy
  ·have:=h.1 y hy;omega
  grind
 ·rw[fO,List.nodup_append];refine⟨h.2.1,by simp,λa ha b hb e=>?_⟩;simp at hb;obtain⟨y,hy,rfl⟩:=aZ.1 ha;have:=h.1 y hy;omega
theorem yf.modify{es:List MapEntry}{clock:Nat}{m:List (κ×ν)}(h:yf es clock m)(k:κ)(x:ν){f:MapEntry->MapEntry}(hf:∀e,(f e).born=e.born)(a:Nat):yf (es.modify a f) clock (kQ m k x):=by
 have hm:(es.modify a f).map (·.born)=es.map (·.born):=by
  refine List.ext_getElem? λj=>?_
  grind
 refine⟨λy hy=>?_,by rw[hm];exact h.2.1,ph h.2.2 k x⟩;have hy':y.born∈(es.modify a f).map (·.born):=aZ.2 ⟨y,hy,rfl⟩;rw[hm]at hy';obtain⟨z,hz,e⟩:=aZ.1 hy';rw[<-e];exact h.1 z hz
variable {P:Program}{n:Nat}{U:Nat->Value}{w:World}{Q:dC}{E:World}{V:List HP}{i j l:Nat}
variable {ops:Array Oper}{rest:List Oper}{d:Nat}{ty T kt et:TypeId}{pos:String}{af:Array Edge}{g:Option (Nat×Bool)}{v kv u:Value}{q qk qv:Operand}{r:Nat}{m:List (κ×ν)}{k:κ}{x z0:ν}
theorem run_findKey(hK:qp P kt κ)(M:bV){es:List MapEntry}(he:iN M es m)(w:World):
  ∃o,(Instr.findKey kt (KV.enc k) es).run P w = .ok o w/\
   match o with
   |some (a,y)=>∃x,fX m k=some a/\m.find? (λp=>decide (k=p.1))=some (k,x)/\my M y x/\∃en,es[a]? =some en/\en.key=KV.enc k
   |none=>fX m k=none/\m.find? (λp=>decide (k=p.1))=none:=by
 have ask:∀(es:List MapEntry)(m:List (κ×ν))(a:Nat),iN M es m->∃o,(Instr.findAsking kt (KV.enc k) es a).run P w = .ok o w/\
   (match o with
   |some (b,y)=>∃c x,b=a+c/\fX m k=some c/\m.find? (λp=>decide (k=p.1))=some (k,x)/\my M y x/\∃en,es[c]? =some en/\en.key=KV.enc k
   |none=>fX m k=none/\m.find? (λp=>decide (k=p.1))=none):=by
  intro es
  induction es with
  |nil=>intro m a he;cases m with
   |nil=>exact⟨none,rfl,rfl,rfl⟩
   |cons p m=>exact he.elim
  |cons en es ih=>
   intro m a he
   cases m with
   |nil=>exact he.elim
   |cons p m=>
    obtain⟨h1,h2,h3⟩:=he;obtain⟨p1,p2⟩:=p;simp only at h1 h2;rw[Instr.findAsking];simp only[aJ,h1,hK.eq,aK]
    by_cases e:k=p1
    ·subst e;refine⟨some (a,en.val),by simp[aL],0,p2,rfl,?_,?_,h2,en,rfl,h1⟩
     ·simp[fX,List.findIdx?_cons]
     ·simp
    ·obtain⟨o,ho,hs⟩:=ih m (a+1) h3;refine⟨o,by grind,?_⟩
     cases o with
     |none=>
      obtain⟨s1,s2⟩:=hs;refine⟨?_,?_⟩
      ·simp only[fX,List.findIdx?_cons,cP e]at s1 ⊢;simpa using s1
      ·simpa[List.find?_cons,cP e]using s2
     |some by_=>
      obtain⟨b,y⟩:=by_;obtain⟨c,x,hb,s1,s2,s3,en',s4,s5⟩:=hs;refine⟨c+1,x,by omega,?_,?_,s3,en',by grind,s5⟩
      ·simp only[fX,List.findIdx?_cons,cP e]at s1 ⊢;simp[s1]
      ·simpa[List.find?_cons,cP e]using s2
 have asked:∃o,(Instr.findAsking kt (KV.enc k) es).run P w = .ok o w/\
   (match o with
   |some (b,y)=>∃x,fX m k=some b/\m.find? (λp=>decide (k=p.1))=some (k,x)/\my M y x/\∃en,es[b]? =some en/\en.key=KV.enc k
   |none=>fX m k=none/\m.find? (λp=>decide (k=p.1))=none):=by
  obtain⟨o,ho,hs⟩:=ask es m 0 he;refine⟨o,ho,?_⟩
  cases o with
  |none=>exact hs
  |some by_=>
   obtain⟨b,y⟩:=by_;obtain⟨c,x,hb,rest⟩:=hs;rw[eN]at hb;subst hb;exact⟨x,rest⟩
 unfold Instr.findKey
 rcases hK.now with hnow|⟨D,hD,hno⟩
 ·obtain⟨D,hD,_⟩:=hnow k k;have hnow':∀a b:κ,Instr.sameNow D (KV.enc a) (KV.enc b)=some (decide<|a=b):=λa b=>by
   simp_all
  have fn:∀(es:List MapEntry)(m:List (κ×ν))(a:Nat),iN M es m->∃o,Instr.findNow D (KV.enc k) es a=some o/\
    (match o with
    |some (b,y)=>∃c x,b=a+c/\fX m k=some c/\m.find? (λp=>decide (k=p.1))=some (k,x)/\my M y x/\∃en,es[c]? =some en/\en.key=KV.enc k
    |none=>fX m k=none/\m.find? (λp=>decide (k=p.1))=none):=by
   intro es
   induction es with
   |nil=>intro m a he;cases m with
    |nil=>exact⟨none,rfl,rfl,rfl⟩
    |cons p m=>exact he.elim
   |cons en es ih=>
    intro m a he
    cases m with
    |nil=>exact he.elim
    |cons p m=>
     obtain⟨h1,h2,h3⟩:=he;obtain⟨p1,p2⟩:=p;simp only at h1 h2;rw[Instr.findNow,h1,hnow']
     by_cases e:k=p1
     ·subst e;refine⟨some (a,en.val),by simp,0,p2,rfl,?_,?_,h2,en,rfl,h1⟩
      ·simp[fX,List.findIdx?_cons]
      ·simp
     ·obtain⟨o,ho,hs⟩:=ih m (a+1) h3;refine⟨o,by grind,?_⟩
      cases o with
      |none=>
       obtain⟨s1,s2⟩:=hs;refine⟨?_,?_⟩
       ·simp only[fX,List.findIdx?_cons,cP e]at s1 ⊢;simpa using s1
       ·simpa[List.find?_cons,cP e]using s2
      |some by_=>
       obtain⟨b,y⟩:=by_;obtain⟨c,x,hb,s1,s2,s3,en',s4,s5⟩:=hs;refine⟨c+1,x,by omega,?_,?_,s3,en',by grind,s5⟩
       ·simp only[fX,List.findIdx?_cons,cP e]at s1 ⊢;simp[s1]
       ·simpa[List.find?_cons,cP e]using s2
  obtain⟨o,ho,hs⟩:=fn es m 0 he
  simp_all[aJ,run_underlying,aK,aL,eN]
 ·cases es with
  |nil=>
   cases m with
   |nil=>exact⟨none,by simp_all[run_underlying,Instr.findNow],rfl,rfl⟩
   |cons p m=>exact he.elim
  |cons en es=>
   obtain⟨o,ho,hs⟩:=asked;refine⟨o,?_,hs⟩
   cases m with
   |nil=>exact he.elim
   |cons p m=>
    have:Instr.findNow D (KV.enc k) (en::es) 0=none:=by rw[Instr.findNow,he.1,hno]
    simp only[aJ,run_underlying hD,aK,this,ho]
theorem uz(m:List (κ×ν))(k:κ)(z:ν):nS m k z=match m.find? (λp=>decide<|k=p.1)with|some p=>p.2|none=>z:=rfl
theorem uA(m:List (κ×ν))(k:κ):mA m k=(m.find?<|λp=>decide<|k=p.1).isSome:=by
 unfold mA
 grind
theorem tP(hT:P.underlying T=some (.map kt et))(hK:qp P kt κ)(hz:∃inf z,P.info? et=some inf/\inf.zero=some z/\∀M,my M z z0)
  (hw:Holds E w V) (hi:V[i]? =some (mp v m)) (ok:Bool):
  ∃y,(Instr.lookup T v (KV.enc k) ok).run P w = .ok (if ok then .tuple #[y, .bool<|mA m k]else y) w/\Holds E w (rd y (nS m k z0)::V):=by
 obtain⟨M,hs,gd⟩:=hw;obtain⟨r,es,clock,rfl,⟨he,hst⟩,hh⟩:=gd.sat i _ hi;have hb:=gd.le i r _ (bK hi) (by rw[hh];exact bM r _);obtain⟨o,ho,hs'⟩:=run_findKey hK M he w (k:=k);obtain⟨inf,z,hin,hzz,hzr⟩:=hz
 cases o with
 |none=>
  obtain⟨h1,h2⟩:=hs';refine⟨z,?_,Holds.q8 ⟨M,hs,gd⟩ λM' hs' gd'=>⟨?_,rfl⟩⟩
  ·simp[Instr.lookup,run_underlying hT,MapKept.run_getObj_map hb,hK.zd,ho,Result.andThen,zeroValue,typeInfo,hin,hzz,uA,h2,program,Sem.run]
  grind [uz]
 |some ay=>
  obtain⟨a,y⟩:=ay;obtain⟨x,h1,h2,h3,_⟩:=hs';refine⟨y,?_,⟨M,r7 j7 hs,gd.dS ⟨?_,rfl⟩⟩⟩
  ·simp[Instr.lookup,run_underlying hT,MapKept.run_getObj_map hb,hK.zd,ho,Result.andThen,uA,h2]
  grind [uz]
omit [DecidableEq κ]in
theorem yA(hw:Holds E w V)(hj:V[j]? =some (rd kv k)):kv=KV.enc k:=by
 obtain⟨M,hs,gd⟩:=hw;exact KV.zj (gd.sat j _ hj).1
structure xx (P:Program) (T kt et:TypeId) (κ ν:Type) [GT κ] [KV κ] [DecidableEq κ] [GT ν] (z0:ν):Prop where
 pc:P.underlying T=some (.map kt et)
 key:qp P kt κ
 zero:∃inf z,P.info? et=some inf/\inf.zero=some z/\∀M,my M z z0
theorem DW(hg:Wn ops U g)(hd:Nat.blt d n=true)(hw:Holds E w V)(hx:ev U q=v)(hk:ev U qk=KV.enc k)(hi:V[i]? =some (mp v m))(hT:xx P T kt et κ ν z0)
  (kk:∀y,Holds E w (rd y (nS m k z0)::V)->RL P n ops rest (bZ U d<|.tuple #[y, .bool<|mA m k]) w Q):RL P n ops (⟨some d, .lookup T q qk true,ty,pos,af,g⟩::rest) U w Q:=by
 obtain⟨y,hr,hh⟩:=tP hT.pc hT.key hT.zero hw hi true (k:=k);refine x_ hg hd ?_<|kk y hh
 grind [execOp,aJ,aK,aL]
theorem DX [KV ν](hg:Wn ops U g)(hd:Nat.blt d n=true)(hw:Holds E w V)(hx:ev U q=v)(hk:ev U qk=KV.enc k)(hi:V[i]? =some (mp v m))(hT:xx P T kt et κ ν z0)
  (kk:RL P n ops rest (bZ U d<|.tuple #[KV.enc<|nS m k z0, .bool<|mA m k]) w Q):RL P n ops (⟨some d, .lookup T q qk true,ty,pos,af,g⟩::rest) U w Q:=
 DW hg hd hw hx hk hi hT λy hh=>by have:=yA hh (j:=0) rfl;rw[this];exact kk
theorem DY(hg:Wn ops U g)(hd:Nat.blt d n=true)(hw:Holds E w V)
  (kk:∀v w',Holds E w' (mp v ([]:List (κ×ν))::V)->RL P n ops rest (bZ U d v) w' Q):RL P n ops (⟨some d, .makeMap T none,ty,pos,af,g⟩::rest) U w Q:=by
 refine x_ (v:= .map<|some w.heap.size) (w':=w.alloc<|.map #[] 0) hg hd ?_<|kk _ _<|hw.alloc _ λM hs gd=>⟨w.heap.size,#[],0,rfl,⟨trivial,by simp[yf]⟩,rfl⟩
 rfl
theorem iN.len{M:bV}:∀{es:List MapEntry}{m:List (κ×ν)},iN M es m->es.length=m.length
 | [],[],_=>rfl
 |_::_,_::_,⟨_,_,h3⟩=>congrArg (· +1) (iN.len h3)
 | [],_::_,h=>h.elim
 |_::_,[],h=>h.elim
theorem ou{M:bV}{hs:Nat->bV}{P':HP}{b c c':Nat}{es es':Array MapEntry}{Pi:HP}(gd:Good E w M hs V)(hi:V[i]? =some Pi)(hh:hs i=Gk.one b (.map es c))
  (hp:P'.ok M (Gk.one b<|.map es' c')):Holds E {w with heap:=w.heap.setIfInBounds b<|.map es' c'} (V.set i P'):=by
 have hb:=gd.le i b _ (bK hi) (by rw[hh];exact bM b _);refine⟨M,_,gd.update (bK hi) (Gk.one b<|.map es' c') hp rfl rfl rfl (λb' o' hb'=>?_) (λb' o' hb'=>?_)<|λb' hb' _=>?_⟩
 ·grind [fa,MapKept.heap_set]
 ·obtain⟨rfl,rfl⟩:=fa hb';simp_all[bM]
 ·rw[hh]at hb'
  grind [MapKept.heap_set,bM]
theorem iN.push{M:bV}{en:MapEntry}:∀{es:List MapEntry}{m:List (κ×ν)},iN M es m->fX m k=none->en.key=KV.enc k->my M en.val x->iN M (es++[en]) (kQ m k x)
 | [],[],_,_,h1,h2=>⟨h1,h2,trivial⟩
 |e::es,p::m,⟨a1,a2,a3⟩,hf,h1,h2=>by
  have hne:¬k=p.1:=λe=>by simp[fX,List.findIdx?_cons,e]at hf
  have hf':fX m k=none:=by simp only[fX,List.findIdx?_cons,cP hne]at hf ⊢;simpa using hf
  show iN M (e::(es++[en])) _;unfold kQ;rw[aI hne];exact⟨a1,a2,iN.push a3 hf' h1 h2⟩
 | [],_::_,h,_,_,_=>h.elim
 |_::_,[],h,_,_,_=>h.elim
theorem iN.modify{M:bV}{f:MapEntry->MapEntry}(h1:∀e,(f e).key=KV.enc k)(h2:∀e,my M (f e).val x):∀{es:List MapEntry}{m:List (κ×ν)}{a:Nat},iN M es m->fX m k=some a->iN M (es.modify a f) (kQ m k x)
 | [],[],_,_,hf=>by simp[fX]at hf
 |e::es,p::m,a,⟨a1,a2,a3⟩,hf=>by
  unfold kQ
  by_cases hk:k=p.1
  ·have ha:a=0:=by simp[fX,List.findIdx?_cons,hk]at hf;omega
   subst ha;rw[aG hk];exact⟨h1 e,h2 e,a3⟩
  ·rw[aI hk];simp only[fX,List.findIdx?_cons,cP hk,Bool.false_eq_true,if_false,Option.map_eq_some_iff]at hf;obtain⟨a',hf',rfl⟩:=hf;exact⟨a1,a2,iN.modify h1 h2 a3 hf'⟩
 | [],_::_,_,h,_=>h.elim
 |_::_,[],_,h,_=>h.elim
theorem DZ(hg:Wn ops U g)(hw:Holds E w V)(hx:ev U q=v)(hk:ev U qk=KV.enc k)(hv:ev U qv=u)(hi:V[i]? =some (mp v m))(hj:V[j]? =some (rd u x))(hT:xx P T kt et κ ν z0)
  (kk:∀w',Holds E w' (V.set i<|mp v<|kQ m k x)->RL P n ops rest U w' Q):RL P n ops (⟨none, .mapUpdate T q qk qv,ty,pos,af,g⟩::rest) U w Q:=by
 obtain⟨M,hs,gd⟩:=hw;obtain⟨r,es,clock,rfl,⟨he,hst⟩,hh⟩:=gd.sat i _ hi;have hu:=(gd.sat j _ hj).1;have hb:=gd.le i r _ (bK hi) (by rw[hh];exact bM r _);obtain⟨o,ho,hs'⟩:=run_findKey hT.key M he w (k:=k)
 cases o with
 |none=>
  refine CN hg ?_<|kk _<|ou gd hi hh (es':=es.push {key:=KV.enc k,val:=u,born:=clock}) (c':=clock+1) ⟨r,_,_,rfl,⟨?_,by rw[Array.toList_push];exact hst.push k x rfl⟩,rfl⟩
  ·simp[execOp,hx,hk,hv,Instr.mapUpdate,run_underlying hT.pc,MapKept.run_getObj_map hb,hT.key.zd,ho,MapKept.run_setObj_map _ hb]
  grind [Array.toList_push,iN.push]
 |some ay=>
  obtain⟨a,y⟩:=ay;obtain⟨x',h1,h2,h3,en,h4,h5⟩:=hs';have h4':es[a]? =some en:=by grind
  have hstay:(Instr.keyThatStays (KV.enc k)<|KV.enc k).run P w = .ok (KV.enc k) w:=by simp[Instr.keyThatStays,hT.key.bits]
  refine CN hg ?_<|kk _<|ou gd hi hh (es':=es.modify a λe=>{e with key:=KV.enc k,val:=u}) (c':=clock) ⟨r,_,_,rfl,⟨?_,by rw[Array.toList_modify];exact hst.modify k x (f:=λe=>{e with key:=KV.enc k,val:=u}) (λ_=>rfl) a⟩,rfl⟩
  ·simp[execOp,hx,hk,hv,Instr.mapUpdate,run_underlying hT.pc,MapKept.run_getObj_map hb,hT.key.zd,ho,MapKept.run_setObj_map _ hb,h4',h5,hstay]
  simp_all[Array.toList_modify,iN.modify]
end
@[reducible] def instKVvia{α β:Type}[GT β][KV β](f:α->β): @KV α (GT.via f):= @KV.mk α (GT.via f) (λx=>KV.cs<|f x) (λh=>KV.spec h)<|λM x=>KV.ok M<|f x
theorem qp.str{P:Program}{kt:TypeId}(h:P.underlying kt=some .string):qp P kt fy where
 zd b k w:=MapKept.run_checkKey h (k:=Gk.str k) trivial b 9999
 eq a b w:=tN (d:=9999) h a b w
 now:= .inl λa b=>⟨_,h,by show some ((⟨a.hL.toArray⟩:ByteArray)==⟨b.hL.toArray⟩)=_;rw[ux]⟩
 bits a:=MapKept.sameBits_self (d:= .string) (k:=Gk.str a) trivial _
theorem qp.int{P:Program}{kt:TypeId}(h:P.underlying kt=some (.int .i64)):qp P kt Int where
 zd b k w:=MapKept.run_checkKey h (k:= .int .i64 k) rfl b 9999
 eq a b w:=(gM (d:=9999) h a b w).trans (by rfl)
 now:= .inl λa b=>⟨_,h,by rfl⟩
 bits a:=MapKept.sameBits_self (d:= .int .i64) (k:= .int .i64 a) rfl _
inductive zk (P:Program) (n:Nat) (xs:Array Value):List Field->Prop
 |nil:zk P n xs []
 |cons {f:Field} {l:List Field} {x:Value} (hn:f.name≠ "_") (hx:∀w,(part f.type xs f.offset).run P w = .ok x w) (hc:∀b w,(Instr.checkKey b n f.type x).run P w = .ok () w) (h:zk P n xs l):zk P n xs (f::l)
theorem me{P:Program}{T:TypeId}{fs:Array Field}{xs:Array Value}{n:Nat}(hu:P.underlying T=some (.struct fs))(h:zk P n xs fs.toList)(b:Bool)(w:World):
  (Instr.checkKey b (n+1) T<|.agg xs).run P w = .ok () w:=by
 obtain⟨l⟩:=fs;rw[Instr.checkKey];simp only[aJ,run_underlying hu,aK,List.forIn_toArray];simp only at h;clear hu
 induction h with
 |nil=>simp
 | @cons f l x hn hx hc h ih=>
  simp only[List.forIn_cons,hn,ne_eq,not_false_eq_true,if_true,aJ,hx,hc,aK,aL]
  simp_all
theorem v3{n:Nat}{cs:List Value}(h:∀x∈cs,Instr.sameBits n x x=true):Instr.sameBits (n+1) (.agg cs.toArray) (.agg cs.toArray)=true:=by
 rw[Instr.sameBits];simp only[beq_self_eq_true,Bool.true_and,gp];intro p hp;have:∀(l:List Value)(p:Value×Value),p∈l.zip l->p.1=p.2/\p.1∈l:=by
  intro l
  induction l with
  |nil=>simp
  |cons a l ih=>
   grind [List.zip_cons_cons]
 grind
theorem qp.struct{κ:Type}[GT κ][KV κ][DecidableEq κ]{P:Program}{T:TypeId}{fs:Array Field}(hu:P.underlying T=some (.struct fs))(hag:GT.agg κ=true)(hE:zb P T κ)
  (hc:∀k:κ,zk P 9999 (KV.cs k).toArray fs.toList) (hb:∀(k:κ),∀x∈KV.cs k,Instr.sameBits 9999 x x=true):qp P T κ:=by
 have he:∀k:κ,KV.enc k = .agg (KV.cs k).toArray:=λk=>by grind [KV.enc,nN]
 refine⟨λb k w=>?_,λa b w=>?_, .inr ⟨_,hu,λa b=>?_⟩,λa=>?_⟩
 ·grind [me]
 ·exact hE.eq j7 _ _ a b w (KV.ok j7 a)<|KV.ok j7 b
 ·rfl
 grind [v3]
theorem xz{ν:Type}[GT ν]{P:Program}{et:TypeId}{Z:Value}{z0:ν}(h:(P.info? et).bind (·.zero)=some Z)(hz:∀M,my M Z z0):∃inf z,P.info? et=some inf/\inf.zero=some z/\∀M,my M z z0:=by
 cases e:P.info? et with
 |none=>grind
 |some inf=>grind
theorem ye.of{α:Type}[GT α]{P:Program}{e:TypeId}(Z:Value){z0:α}(hz:∀M,GT.ok M Z.cells.toList z0)(h:(P.info? e).bind (·.zero)=some Z:=by kernel_rfl):ye P e z0:=λM z hh=>by
 rw[h]at hh;injection hh with hh;subst hh;exact hz M
section
variable {P:Program}{n:Nat}{U:Nat->Value}{w:World}{Q:dC}{ops:Array Oper}{rest:List Oper}{d:Nat}{ty t u:TypeId}{pos:String}{af:Array Edge}{g:Option (Nat×Bool)}{q r:Operand}{K:IntKind}{a b:Int}
theorem CP(a b:Int)(kk:RL P n ops rest (bZ U d<|.int K (if b<a then b else a)) w Q)(hg:Wn ops U g:=by exact trivial)(hd:Nat.blt d n=true:=by exact rfl)(hx:ev U q = .int K a:=by exact rfl)(hy:ev U r = .int K b:=by exact rfl):
  RL P n ops (⟨some d, .call ⟨.builtin .min,#[q,r],#[t,u]⟩,ty,pos,af,g⟩::rest) U w Q:=by
 refine x_ hg hd ?_ kk;simp[execOp,resolve,hx,hy,invoke,builtin,Builtin.min_,Builtin.min2]
theorem CW{f:Fn}{args:Array Operand}(hd:Nat.blt d n=true)(vs:List Value)(hvs:args.toList.map (ev U)=vs)(kk:RL P n ops rest (bZ U d<|.func f #[] vs.toArray) w Q)(hg:Wn ops U g:=by exact trivial):RL P n ops (⟨some d, .makeFunc f #[] args,ty,pos,af,g⟩::rest) U w Q:=by
 have e:args.map (ev U)=vs.toArray:=by grind
 refine x_ hg hd ?_ kk
 simp_all[execOp,Instr.makeFunc]
end
@[reducible] def vi(n:Int):Value:= .int .i64 n
@[reducible] def vb(b:Bool):Value:= .bool b
@[reducible] def vp(b o:Nat):Value:= .pointer<|some ⟨b,o,none⟩
section
variable {P:Program}{n:Nat}{U:Nat->Value}{w:World}{Q:dC}{y:Code}{ops:Array Oper}{rest:List Oper}{d:Nat}{ty T T':TypeId}{pos:String}{af:Array Edge}{q r:Operand}{K:IntKind}{id:Nat}{l:List Oper}
theorem mv(v:Value)(k:RL P n ops rest (bZ U d v) w Q)(hd:Nat.blt d n=true:=by exact rfl)(hx:ev U q=v:=by exact rfl):RL P n ops (⟨some d, .move q,ty,pos,af,none⟩::rest) U w Q:=By (hd:=hd) (hx:=hx) _ trivial k
theorem dT(v:Value)(k:RL P n ops rest (bZ U d v) w Q)(hd:Nat.blt d n=true:=by exact rfl)(hx:ev U q=v:=by exact rfl):RL P n ops (⟨some d, .assign q,ty,pos,af,none⟩::rest) U w Q:=DK trivial hd hx k
theorem ic{bop:BinOp}(a b:Int)(k:RL P n ops rest (bZ U d<|.bool<|jK bop a b) w Q)(hd:Nat.blt d n=true:=by exact rfl)(hx:ev U q = .int K a:=by exact rfl)(hy:ev U r = .int K b:=by exact rfl)(hc:pd bop=true:=by exact rfl):
  RL P n ops (⟨some d, .binOp bop T q r T',ty,pos,af,none⟩::rest) U w Q:=Co (hd:=hd) (hx:=hx) (hy:=hy) (hc:=hc) _ _ trivial k
theorem sk{op:Op}{j t:Nat}{b:Bool}(ht:(ops[j]?).bind (·.dst)=some t)(hv:U t = .bool (!b)\/U t=undef)(hd:Nat.blt d n=true)
  (k:RL P n ops rest (bZ U d undef) w Q):RL P n ops (⟨some d,op,ty,pos,af,some (j,b)⟩::rest) U w Q:=Dp ht hv hd k
theorem cb{a b:Bool}(h:a=b):Value.bool a = .bool b:=by rw[h]
theorem f_(h:RL P n l.toArray l U w (iP P n y Q)):RC P n (.seq (.region id l.toArray false) y) U w Q:=m_<|l_ h
theorem g_(h:RC P n y U w Q):RL P n ops [] U w (iP P n y Q):=i_<|aF h
theorem o_{z:Code}(h:RL P n l.toArray l U w (iP P n z Q)):RL P n ops [] U w (iP P n (.seq (.region id l.toArray false) z) Q):=g_<|f_ h
theorem p_{z:Code}(h:RC P n y U w (iP P n z Q)):RL P n ops [] U w (iP P n (.seq y z) Q):=g_<|m_ h
theorem B1(h:Q .ret U w):RC P n .ret U w (iP P n y Q):=t_<|bL h
theorem Cl(h:Q .ret U w):RC P n .ret U w (ra id Q):=t_<|jr h
theorem Cx(h:RC P n y U w Q):RC P n .skip U w (iP P n y Q):=B6<|aF h
theorem Cc{z:Code}(h:RC P n y U w (iP P n z Q)):RC P n .skip U w (iP P n (.seq y z) Q):=Cx<|m_ h
theorem Cq{z:Code}(h:RL P n l.toArray l U w (iP P n z Q)):RC P n .skip U w (iP P n (.seq (.region id l.toArray false) z) Q):=Cx<|f_ h
theorem Cm{i:Nat}(h:Q (.exit i) U w):RC P n (.exit i) U w (iP P n y Q):=DJ<|xt h
theorem B2{b:Nat}(h:RL P n l.toArray l U w (iP P n y<|ra b Q)):RC P n (.block b<|.seq (.region id l.toArray false) y) U w Q:=Cs<|f_ h
theorem ac{d:Nat}{v:Value}{l:List (Nat×Value)}(h:U d=v)(hl:agree U l):agree U ((d,v)::l):=⟨h,hl⟩
theorem oi{α:Type}{a b:α}(h:some a=some b):a=b:=by injection h
end
theorem Fo.v5{S R β:Type}(s:S)(f:S->β)(g:R->β):(Fo.go s:Fo S R).cs f g=f s:=rfl
def bc(e:TypeId)(g:Nat)(vs:List Value):HP:=⟨λ_ h=>(∀v∈vs,v.oneCell'=true)/\h=Gk.one g (.cells vs.toArray e (0,0)),λ_ h=>h⟩
def BD{α:Type}[GT α](vs:List Value)(x:α):HP:=⟨λM h=>GT.ok M vs x/\h=j7,λk⟨a,b⟩=>⟨GT.mono k a,b⟩⟩
structure Bu (P:Program) (T:TypeId) (zs:List Value):Prop where
 z:∃z,(∀w,(zeroValue T).run P w = .ok z w)/\z.cells=zs.toArray
section
variable {α β:Type}[GT α][GT β]{E w:World}{V:List HP}{i j:Nat}{v:Value}{x:α}{e e':TypeId}{b:Nat}{vs:List Value}
theorem rj{l:List α}(i:Nat)(h:Holds E w V)(hi:V[i]? =some (own e v l)):v.oneCell'=true:=by
 obtain⟨M,hs,g⟩:=h;exact vV<|g.sat i _ hi
theorem Holds.ks{cs:List Value}{k:Nat}{f:α->β}(h:Holds E w V)(hi:V[i]? =some (BD cs x))(hF:Fd k f)(hv:cs[k]? =some v)(hs:GT.sz β=1)(ha:GT.agg β=false):Holds E w (rd v (f x)::V):=by
 obtain⟨M,hs',g⟩:=h;obtain⟨ho,_⟩:=g.sat i _ hi;refine⟨M,_,g.dS ⟨?_,rfl⟩⟩;have h1:=hF M cs x ho;obtain⟨hlt,rfl⟩:=aV.1 hv;have h2:(cs.drop k).take (GT.sz β)= [cs[k]]:=by
  grind [List.drop_eq_getElem_cons]
 rw[h2]at h1;refine⟨_,?_,h1⟩
 grind [nN]
theorem Holds.v7(h:Holds E w V)(hi:V[i]? =some (bc e b vs))(ho:∀M hs,Good E w M hs V->GT.ok M vs x):Holds E w (V.set i<|bx e b x):=by
 obtain⟨M,hs,g⟩:=h;obtain⟨_,hh⟩:=g.sat i _ hi;have hlt:=bK hi;refine⟨M,hs,g.os,g.tape,g.out,g.dr,g.im,λk Q hq=>?_,λk b o hk=>g.le k b o (by grind),λk b o hk=>g.dm k b o (by grind),λk l b o hk hl=>g.dj k l b o (by grind) (by grind)⟩;rw[gJ]at hq;split at hq
 ·rename_i e1;subst e1;simp[hlt]at hq;subst hq;exact⟨vs,ho M hs g,hh⟩
 ·exact g.sat k Q hq
theorem yB(ha:GT.agg α=false){M:bV}(h:my M v x):GT.ok M [v] x:=by
 obtain⟨cs,rfl,ho⟩:=h;have hl:=GT.len ho;rw[GT.ag1 ha]at hl
 match cs,hl with
 | [c],_=>grind [nN]
end
section
variable {P:Program}{n:Nat}{U:Nat->Value}{w:World}{Q:dC}{E:World}{V:List HP}{i j:Nat}
variable {ops:Array Oper}{rest:List Oper}{d:Nat}{ty T T' e:TypeId}{pos:String}{af:Array Edge}{g:Option (Nat×Bool)}{v v':Value}{q r:Operand}{b m:Nat}{vs:List Value}
theorem CA(i:Nat)(v:Value)(hw:Holds E w V)(hT:j6 P T false 1)(k:RL P n ops rest (bZ U d v) w Q)(hg:Wn ops U g:=by exact trivial)(hd:Nat.blt d n=true:=by exact rfl)(hx:ev U q = .pointer (some ⟨b,m,none⟩):=by exact rfl)(hi:V[i]? =some (bc e b vs):=by exact rfl)(hv:vs[m]? =some v:=by exact rfl):RL P n ops (⟨some d, .load T q,ty,pos,af,g⟩::rest) U w Q:=by
 obtain⟨M,hs,gd⟩:=hw;obtain⟨_,hh⟩:=gd.sat i _ hi;have hb:=gd.le i b _ (bK hi) (by rw[hh];exact bM b _);have hc:w.cell? ⟨b,m,none⟩=some v:=by rw[cell_of_row w b _ _ _ _ hb];grind
 refine x_ (v:=v) hg hd ?_ k;simp[execOp,hx,Instr.loadAt,Instr.sureAddr,loadVar,hT.yt,load,Sem.run,hc]
theorem Df(i:Nat)(v:Value)(hw:Holds E w V)(hx:ev U q = .pointer (some ⟨b,m,none⟩))(hy:ev U r=v)(hi:V[i]? =some (bc e b vs))(hv:vs[m]? =some v')(h1:v.oneCell'=true)(hT:j6 P T false 1)(k:∀w',Holds E w' (V.set i<|bc e b<|vs.set m v)->RL P n ops rest U w' Q)(hg:Wn ops U g:=by exact trivial):RL P n ops (⟨none, .store T q r,ty,pos,af,g⟩::rest) U w Q:=by
 obtain⟨M,hs,gd⟩:=hw;obtain⟨hone,hh⟩:=gd.sat i _ hi;have hlt:=(aV.1 hv).1;have hb:=gd.le i b _ (bK hi) (by rw[hh];exact bM b _);have hcv:v.cells = #[v]:=by cases v <;> first|rfl|(cases h1)
 have hrun:=hZ (P:=P) (v:=v) (o:=m) hT.sz (by rw[hcv];rfl) (by grind) hb (by simp;omega);have hl:(vs.toArray.toList.take m++v.cells.toList++vs.toArray.toList.drop (m+1)).toArray=(vs.set m v).toArray:=by
  grind [List.set_eq_take_append_cons_drop]
 rw[hl]at hrun;refine CN (w':=w.setRow b (vs.set m v).toArray) hg ?_<|k _<|fW gd hi hh ⟨λu hu=>?_,rfl⟩
 ·simp_all[execOp,Instr.storeAt,Instr.sureAddr,aJ,aL,aK]
 grind
theorem Dy{zs:List Value}(hg:Wn ops U g)(hd:Nat.blt d n=true)(hw:Holds E w V)(hz:Bu P T zs)(h1:zs.all (·.oneCell')=true)
  (k:∀b w',Holds E w' (bc T b zs::V)->RL P n ops rest (bZ U d<|.pointer<|some ⟨b,0,none⟩) w' Q):RL P n ops (⟨some d, .alloc T,ty,pos,af,g⟩::rest) U w Q:=by
 obtain⟨z,hz,hs⟩:=hz.z;refine x_ (w':=w.alloc<|.cells z.cells T) hg hd ?_<|k w.heap.size _<|hw.alloc _ λ_ _ _=>⟨λv hv=>gp.1 h1 v hv,by rw[hs]⟩
 simp only[execOp,Instr.alloc,newVar,newRow,newObj,aJ,aL,hz,aK];rfl
theorem Ee{a:Addr}(hg:Wn ops U g)(hd:Nat.blt d n=true)(hx:ev U q = .pointer (some a))(k:RL P n ops rest (bZ U d<|.pointer<|some a) w Q):RL P n ops (⟨some d, .nilCheck q,ty,pos,af,g⟩::rest) U w Q:=by
 refine x_ hg hd ?_ k
 simp_all[execOp]
end
structure BE where
 n:Int
 deriving DecidableEq,Inhabited
instance:Sc BE:=⟨λx=> .int .i32 x.n,λ_=>rfl⟩
def bs(s:fy):ByteArray:=⟨s.hL.toArray⟩
def it(g:Nat)(s:fy)(p:Nat):HP:=⟨λ_ h=>h=Gk.one g (.stringIter (bs s) p),λ_ h=>h⟩
section
variable {P:Program}{n:Nat}{U:Nat->Value}{w:World}{Q:dC}{E:World}{V:List HP}{i j:Nat}
variable {ops:Array Oper}{rest:List Oper}{d:Nat}{ty T:TypeId}{pos:String}{af:Array Edge}{g:Option (Nat×Bool)}{q:Operand}{b p:Nat}{s:fy}
end
section
variable {P:Program}{n:Nat}{U:Nat->Value}{w:World}{Q:dC}{E:World}{V:List HP}{i j:Nat}
variable {ops:Array Oper}{rest:List Oper}{d:Nat}{ty T e:TypeId}{pos:String}{af:Array Edge}{g:Option (Nat×Bool)}{q r:Operand}{b m:Nat}{vs cs zs:List Value}
def xA:List Value->Prop
 | []=>True
 |v::l=>v.oneCell'=true/\xA l
theorem xA.all:∀{l:List Value},xA l->∀v∈l,v.oneCell'=true
 |v::l,h,u,hu=>by
  rcases eE.1 hu with h'|h'
  ·subst h';exact h.1
  ·exact xA.all h.2 u h'
end
section
variable {α:Type}[GT α]{P:Program}{n:Nat}{U:Nat->Value}{w:World}{Q:dC}{E:World}{V:List HP}{i j:Nat}
variable {ops:Array Oper}{rest:List Oper}{d:Nat}{ty T t u e:TypeId}{pos:String}{af:Array Edge}{g:Option (Nat×Bool)}{v:Value}{q r:Operand}{l l':List α}{z0:α}{bytes:Nat}{k:Int}
def xB(v:Value):Bool:=match v with| .slice none _ _=>true|_=>false
theorem tQ{d:Nat}(hu:P.underlying T=some (.slice e))(a:Option Addr)(m c:Nat)(w:World):(Op.equalIn (d+1) T (.slice a m c)<|.slice none 0 0).run P w = .ok (xB<|.slice a m c) w:=by
 unfold Op.equalIn;rw[aJ,run_underlying hu,aK]
 cases a <;> rfl
theorem D0{T':TypeId}(hg:Wn ops U g)(hd:Nat.blt d n=true)(hw:Holds E w V)(hx:ev U q=v)(hy:ev U r = .slice none 0 0)(hi:V[i]? =some (rd v l))(hT:P.underlying T=some (.slice e))
  (k:RL P n ops rest (bZ U d<|.bool<|xB v) w Q):RL P n ops (⟨some d, .binOp .eql T q r T',ty,pos,af,g⟩::rest) U w Q:=by
 obtain⟨a,cap,rfl⟩:=hw.slice hi;refine C3 hg hd hx hy (λ_=>by rfl) (λw=>?_) k
 grind [tQ,binOp,aJ,Op.equal,Op.maxDepth,aK,aL]
theorem Holds.Aj(hw:Holds E w V)(hi:V[i]? =some (rd v l))(hn:xB v=true):l= []:=by
 obtain⟨M,hs,gd⟩:=hw;obtain⟨a,m,cap,hv,hm,hc,hx,hel⟩:=fV.1 (gd.sat i _ hi).1;subst hv
 cases a with
 |some a=>cases hn
 |none=>
  cases l with
  |nil=>rfl
  |cons y l=>
   obtain⟨ad,cs,ha,_⟩:=hel 0 y rfl
   cases ha
end
section
variable {P:Program}{n:Nat}{U:Nat->Value}{w:World}{Q:dC}{E:World}{V:List HP}{i j:Nat}
variable {ops:Array Oper}{rest:List Oper}{d:Nat}{ty T T' t u e:TypeId}{pos:String}{af:Array Edge}{g:Option (Nat×Bool)}{v:Value}{q r:Operand}{K:IntKind}{a b:Int}
theorem Dz(a b:Int)(hg:Wn ops U g)(hd:Nat.blt d n=true)(hx:ev U q = .int K a)(hy:ev U r = .int K b)(h0:(b==0)=false)(k:RL P n ops rest (bZ U d<|.int K<|K.wrap<|Int.tdiv a b) w Q):RL P n ops (⟨some d, .binOp .quo T q r T',ty,pos,af,g⟩::rest) U w Q:=by
 have hb:b≠0:=by grind
 refine C3 hg hd hx hy (λ_=>rfl) (λw=>?_) k
 grind [binOp,not_true,Op.intDiv,aL]
theorem D1(hg:Wn ops U g)(hd:Nat.blt d n=true)(hx:ev U q = .int K a)(hy:ev U r = .int K b)(h0:(b==0)=false)
  (k:RL P n ops rest (bZ U d<|.int K<|Int.tmod a b) w Q):RL P n ops (⟨some d, .binOp .rem T q r T',ty,pos,af,g⟩::rest) U w Q:=by
 have hb:b≠0:=by grind
 refine C3 hg hd hx hy (λ_=>rfl) (λw=>?_) k
 grind [binOp,not_true,Op.intDiv,aL]
theorem CX(a b:Int)(hd:Nat.blt d n=true)(hx:ev U q = .int K a)(hy:ev U r = .int K b)(kk:RL P n ops rest (bZ U d<|.int K (if a<b then b else a)) w Q)(hg:Wn ops U g:=by exact trivial):
  RL P n ops (⟨some d, .call ⟨.builtin .max,#[q,r],#[t,u]⟩,ty,pos,af,g⟩::rest) U w Q:=by
 refine x_ hg hd ?_ kk;simp[execOp,resolve,hx,hy,invoke,builtin,Builtin.max_,Builtin.max2]
def vw(v:Value)(lo sz:Nat):Value:=match v with| .slice a m cap=> .slice (if cap=lo then a else a.map (·.add (lo*sz))) (m - lo) (cap - lo)|_=>undef
def tR{α:Type}(l:List α)(lo j:Int):Option α:=if 0<=j then idx l (lo+j)else none
theorem eI{α:Type}{l:List α}{lo j:Int}{x:α}(h:tR l lo j=some x):0<=j/\idx l (lo+j)=some x:=by
 grind [tR]
variable {α:Type}[GT α]{l:List α}{lo hi:Int}{x z0:α}{bytes:Nat}
theorem Dg{lop:Option Operand}{l':List α}(i:Nat)(lo:Int)(hd:Nat.blt d n=true)(hw:Holds E w V)(hx:ev U q=v)(hi':V[i]? =some (own e v l))(hT:qn P T e (GT.sz α))(hb:mZ l lo (l.length:Nat)=some l')(k:RL P n ops rest (bZ U d<|vw v lo.toNat<|GT.sz α) w Q)(hg:Wn ops U g:=by exact trivial)(hl:lop.map (ev U)=some (.int .i64 lo)\/(lop.map (ev U)=none/\lo=0):=by exact(.inl rfl)):RL P n ops (⟨some d, .slice T q lop none none,ty,pos,af,g⟩::rest) U w Q:=by
 unfold mZ at hb;split at hb
 case isFalse=>cases hb
 rename_i hc;obtain⟨a,cap,rfl⟩:=hw.gq hi';obtain⟨M,hs,gd⟩:=hw;have hcap:l.length<=cap:=by
  rcases gd.sat i _ hi' with⟨h1,h2,_⟩|⟨b,o,c,cur,xs,hv,h2,_⟩
  ·grind
  grind
 refine x_ hg hd ?_ k;have:=m0 (P:=P) (α:=α) (a:=a) (m:=l.length) (cap:=cap) (hiv:=none) hT hl (.inr ⟨rfl,rfl⟩) hc.1 hc.2.1 (by omega) hcap w;simp only[execOp,hx,aJ,Option.map_none,this,aK,aL];rfl
theorem D2{lo:Nat}{T:TypeId}(hg:Wn ops U g)(hd:Nat.blt d n=true)(hw:Holds E w V)(hx:ev U q=vw v lo (GT.sz α))(hi:V[i]? =some (own e v l))(ht:P.underlying t=some (.slice T))
  (k:RL P n ops rest (bZ U d<|.int .i64<|(l.length - lo:Nat)) w Q):RL P n ops (⟨some d, .call ⟨.builtin .len,#[q],#[t]⟩,ty,pos,af,g⟩::rest) U w Q:=by
 obtain⟨a,cap,rfl⟩:=hw.gq hi;exact C_ hg hd hx ht k
theorem Dh{jj:Int}(i:Nat)(lo:Int)(hd:Nat.blt d n=true)(hw:Holds E w V)(hx:ev U q=vw v lo.toNat (GT.sz α))(hy:ev U r = .int K jj)(hi:V[i]? =some (own e v l))(hT:qn P T e (GT.sz α))(h0:0<=lo)(hj0:0<=jj)(hj:idx l (lo+jj)=some x)(kk:RL P n ops rest (bZ U d<|tO v (lo+jj).toNat (GT.sz α) 0) w Q)(hg:Wn ops U g:=by exact trivial):
  RL P n ops (⟨some d, .indexAddr T q r,ty,pos,af,g⟩::rest) U w Q:=by
 obtain⟨_,hx',hlt⟩:=cJ hj;obtain⟨M,hs,gd⟩:=hw
 rcases gd.sat i _ hi with⟨rfl,rfl,_⟩|⟨b,o,cap,cur,xs,rfl,h2,_⟩
 ·simp at hlt
 ·have hne:cap≠lo.toNat:=by omega
  simp only[vw,aI hne,Option.map_some]at hx;have e1:tO (.slice (some ⟨b,o,none⟩) l.length cap) (lo+jj).toNat (GT.sz α) 0 = .pointer (some<|((⟨b,o,none⟩:Addr).add<|lo.toNat*GT.sz α).add<|jj.toNat*GT.sz α):=by
   have:(lo+jj).toNat=lo.toNat+jj.toNat:=by omega
   grind [tO,add_add,Nat.add_mul]
  rw[e1]at kk;refine x_ hg hd ?_ kk;have hlt':jj<((l.length - lo.toNat:Nat):Int):=by omega
  simp only[execOp,hx,hy,Instr.indexAt,asIntOf,aJ,aL,aK,run_underlying hT.pc,hT.sz,hj0,hlt',and_self,if_true]
theorem DA{op:Op}{w':World}{u:Value}(hg:Wn ops U g)(hrun:(execOp (ev U) ⟨none,op,ty,pos,af,g⟩).run P w = .ok (.value u) w')
  (k:RL P n ops rest U w' Q):RL P n ops (⟨none,op,ty,pos,af,g⟩::rest) U w Q:=by
 intro a ha;unfold wpList;rw[aG<|Wn.wanted (o:=⟨none,op,ty,pos,af,g⟩) hg ha];refine .inl ?_;unfold Oper.wp;rw[ha.ev,hrun];exact k _<|ha.o9 _
theorem DB{lo:Nat}(i:Nat)(hg:Wn ops U g)(hw:Holds E w V)(hx:ev U q=vw v lo (GT.sz α))(hi:V[i]? =some (own e v l))(hT:sg P t e (GT.sz α) bytes)(hz0:ye P e z0)(hle:lo<=l.length)(kk:∀w',Holds E w' (V.set i<|own e v<|l.take lo++List.replicate (l.length - lo) z0)->RL P n ops rest U w' Q):
  RL P n ops (⟨none, .call ⟨.builtin .clear,#[q],#[t]⟩,ty,pos,af,g⟩::rest) U w Q:=by
 by_cases hem:l.length=lo
 ·have e1:l.take lo++List.replicate (l.length - lo) z0=l:=by rw[<-hem,fu,Nat.sub_self];simp
  rw[e1,mY hi]at kk;obtain⟨a,cap,rfl⟩:=hw.gq hi;refine DA (u:= .tuple #[]) hg ?_<|kk w hw
  have hv:vw (.slice a l.length cap) lo (GT.sz α) = .slice (if cap=lo then a else a.map (·.add (lo*GT.sz α))) 0 (cap - lo):=by simp only[vw,hem,Nat.sub_self]
  rw[hv]at hx;generalize (if cap=lo then a else a.map (·.add (lo*GT.sz α)))=a' at hx
  cases a' <;> simp[execOp,resolve,invoke,builtin,Builtin.clear_,hx,run_underlying hT.pc]
 obtain⟨inf,z,hinf,hz,hsz,hby,hzs⟩:=hT.inf;obtain⟨M,hs,gd⟩:=hw
 rcases gd.sat i _ hi with⟨_,rfl,_⟩|⟨b,o,cap,cur,xs,rfl,h2,h3,h4,h5,h6,h7⟩
 ·grind
 have hne:cap≠lo:=by omega
 obtain⟨m,hm⟩:∃m,l.length=lo+(m+1):=⟨l.length - lo - 1,by omega⟩;have hv:vw (.slice (some ⟨b,o,none⟩) l.length cap) lo (GT.sz α) = .slice (some ⟨b,o+lo*GT.sz α,none⟩) (m+1) (cap - lo):=by
  simp only[vw,aI hne,Option.map_some,Addr.add_lit,hm,Nat.add_sub_cancel_left]
 rw[hv]at hx;have hb:=gd.le i b _ (bK hi) (by rw[h4];exact bM b _);have hcap:l.length*GT.sz α<=cap*GT.sz α:=Nat.mul_le_mul_right _ h2;have hcs:o+cap*GT.sz α<=cur.toList.length:=h5;generalize hzl:(Builtin.zeroCells z.cells<|m+1).toList=zl;have hzn:zl.length=(m+1)*GT.sz α:=by rw[<-hzl,Array.length_toList,size_zeroCells,hzs]
 have hlm:l.length*GT.sz α=lo*GT.sz α+(m+1)*GT.sz α:=by rw[hm,Nat.add_mul]
 have hok:∀M',GT.ok M' z.cells.toList z0:=λM'=>hz0 M' z (by rw[hinf];exact hz);have hzg:∀a t,a<m+1->t<GT.sz α->zl[a*GT.sz α+t]? =z.cells.toList[t]? :=λa t ha ht=>by
  have hms:=kh (sz:=GT.sz α) ha;have hlt:a*GT.sz α+t<(Builtin.zeroCells z.cells<|m+1).size:=by rw[size_zeroCells,hzs];omega
  have hzl2:z.cells.toList.length=GT.sz α:=by rw[Array.length_toList];exact hzs
  rw[<-hzl,Array.getElem?_toList,dQ hlt,aO (show t<z.cells.toList.length by omega)];simp only[Builtin.zeroCells,Array.getElem_map,Array.getElem_range,hzs];have hmod:(a*GT.sz α+t) % GT.sz α=t:=by rw[Nat.mul_comm,Nat.mul_add_mod,Nat.mod_eq_of_lt ht]
  rw[hmod,getElem!_pos z.cells t (by omega)];simp
 have hfit:o+lo*GT.sz α+zl.length<=cur.toList.length:=by omega
 have h1z:∀u∈zl,u.oneCell'=true:=λu hu=>by
  obtain⟨k,hk⟩:=eZ hu;have hkl:=(aV.1 hk).1;have hp:0<GT.sz α:=GT.pos;have hkd:k / GT.sz α<m+1:=Nat.div_lt_of_lt_mul (by rw[Nat.mul_comm];omega);have:=hzg (k / GT.sz α) (k % GT.sz α) hkd<|Nat.mod_lt _ hp
  rw[Nat.mul_comm,Nat.div_add_mod,hk]at this;exact GT.one (hok M) u<|dX this.symm
 have hst:=run_storeCells_at P b (o+lo*GT.sz α) e zl 0 cur w hb (by simpa[hzn]using hfit) h1z;simp only[Nat.add_zero]at hst;have hnew:cur.toList.take (o+lo*GT.sz α)++zl++cur.toList.drop (o+lo*GT.sz α+zl.length)=sB (o+lo*GT.sz α) zl cur.toList:=rfl;rw[hnew]at hst;have hget:∀t,xs[t]? =if t<l.length*GT.sz α then cur.toList[o+t]? else none:=λt=>by rw[<-h6,dB,eW]
 have hln:(l.take lo++List.replicate (l.length - lo) z0).length=l.length:=by rw[dL,cV,List.length_replicate];omega
 refine DA (u:= .tuple #[]) hg ?_ (kk _ (fW (P':=own e (.slice (some ⟨b,o,none⟩) l.length cap) (l.take lo++List.replicate (l.length - lo) z0)) (new:=(sB (o+lo*GT.sz α) zl cur.toList).toArray) gd hi h4
  (.inr ⟨b,o,cap,_,((sB (o+lo*GT.sz α) zl cur.toList).drop o).take (l.length*GT.sz α),by rw[hln],by rw[hln];exact h2,h3,rfl,?_,by rw[hln],?_⟩)))
 ·have hzv:∀w,(zeroValue e).run P w = .ok z w:=λw=>by simp[zeroValue,typeInfo,aJ,hinf,hz]
  simp[execOp,resolve,invoke,builtin,Builtin.clear_,hx,run_underlying hT.pc,hzv,hzl,hst]
 ·rw[List.size_toArray,mz hfit];exact hcs
 ·refine⟨by rw[cV,gH,mz hfit,hln];omega,λa y hy=>?_⟩;have xC:a<l.length:=by rw[<-hln];exact(aV.1 hy).1
  have has:=kh (sz:=GT.sz α) xC
  by_cases hlt:a<lo
  ·rw[fP (by rw[cV];omega),dB,aG hlt]at hy;have hok':=h7.2 a y hy;have has2:=kh (sz:=GT.sz α) hlt;have heq:(List.drop (a*GT.sz α)<|((sB (o+lo*GT.sz α) zl cur.toList).drop o).take<|l.length*GT.sz α).take (GT.sz α)=(List.drop (a*GT.sz α) xs).take (GT.sz α):=by
    apply List.ext_getElem?;intro t;simp only[dB,eW,m3 hfit,hget]
    by_cases ht:t<GT.sz α
    ·rw[aG ht,aG ht,aG (by omega),aG (by omega),aG (by omega)]
    ·rw[aI ht,aI ht]
   rw[heq];exact hok'
  ·rw[eX (by rw[cV];omega),List.getElem?_replicate]at hy;split at hy
   case isFalse=>cases hy
   injection hy with hy
   subst hy;obtain⟨a',rfl⟩:∃a',a=lo+a':=⟨a - lo,by omega⟩;have ha':a'<m+1:=by omega
   have hms:=kh (sz:=GT.sz α) ha';have heq:(List.drop ((lo+a')*GT.sz α)<|((sB (o+lo*GT.sz α) zl cur.toList).drop o).take<|l.length*GT.sz α).take (GT.sz α)=z.cells.toList:=by
    apply List.ext_getElem?;intro t;have hzl2:z.cells.toList.length=GT.sz α:=by rw[Array.length_toList];exact hzs
    simp only[dB,eW,m3 hfit];rw[Nat.add_mul]at has ⊢
    by_cases ht:t<GT.sz α
    ·rw[aG ht,aG (by omega),aI (by omega),aG (by omega),<-hzg a' t ha' ht];congr 1;omega
    ·rw[aI ht,List.getElem?_eq_none (by omega)]
   rw[heq];exact hok M
theorem v9{α:Type}{l l':List α}{lo:Int}(h:mZ l lo (l.length:Nat)=some l'):lo.toNat<=l.length:=by
 grind [mZ]
theorem tS{α:Type}{l l':List α}{lo hi:Int}(h:mZ l lo hi=some l'):0<=lo:=by
 grind [mZ]
end
def kx(D:Nat->Bool)(U:Nat->Value):List (Nat×Nat×Value)->Prop
 | []=>True
 |(j,d,v)::r=>(D j=false->U d=v)/\kx D U r
theorem kx.at{D:Nat->Bool}{U:Nat->Value}:∀{dv:List (Nat×Nat×Value)}(_:kx D U dv)(k:Nat){j d:Nat}{v:Value}(_:dv[k]? =some (j,d,v)),D j=false->U d=v
 | [],_,k,_,_,_,h=>by simp at h
 |(j,d,v)::r,h,0,j',d',v',e=>by simp at e;obtain⟨rfl,rfl,rfl⟩:=e;exact h.1
 |(j,d,v)::r,h,k+1,j',d',v',e=>kx.at h.2 k (by simpa using e)
theorem qE{D:Nat->Bool}{i k:Nat}(h:ins D i k=false):D k=false/\Nat.beq k i=false:=by
 grind [ins,Nat.beq]
theorem kx.no{D:Nat->Bool}{U:Nat->Value}{j:Nat}:∀{dv:List (Nat×Nat×Value)}(_:kx D U dv),kx (ins D j) U dv
 | [],_=>trivial
 |(i,d,v)::r,h=>⟨λhi=>h.1 (qE hi).1,kx.no h.2⟩
theorem kx.up{D:Nat->Bool}{U:Nat->Value}{j d:Nat}{v:Value}:∀{dv:List (Nat×Nat×Value)}(_:kx D U dv)(_:(dv.all λx=>Nat.beq x.1 j|| !Nat.beq x.2.1 d)=true),kx (ins D j) (bZ U d v) dv
 | [],_,_=>trivial
 |(i,d',v')::r,h,ha=>by
  simp only[List.all_cons,bI,ec,Bool.not_eq_true']at ha;refine⟨λhi=>?_,kx.up h.2 ha.2⟩;obtain⟨h1,h2⟩:=qE hi
  rcases ha.1 with e|e
  ·rw[e]at h2;cases h2
  ·unfold bZ;rw[e];exact h.1 h1
section
variable {E w:World}{M:bV}{hs:Nat->bV}{V:List HP}{P P1 P2:HP}{j:Nat}{h1 h2:bV}
theorem Good.split(g:Good E w M hs V)(hj:j<V.length)(hl1:∀b o,h1 b=some o->hs j b=some o)(hl2:∀b o,h2 b=some o->hs j b=some o)
  (hd:∀b o,h1 b=some o->h2 b=none) (hp1:P1.ok M h1) (hp2:P2.ok M h2):Good E w M (r7 h1<|iM hs j h2) (P1::V.set j P2):=by
 have g2:Good E w M (iM hs j h2) (V.set j P2):=by
  have:=g.update (w':=w) (P':=P2) hj h2 hp2 rfl rfl rfl (λb o hb=>g.le j b o hj<|hl2 b o hb) (λb o hb=> .inl ⟨o,hl2 b o hb⟩)<|λb _ _=>rfl
  exact this
 refine g2.cons h1 hp1 (λb o hb=>g.le j b o hj<|hl1 b o hb) (λb o hb=>g.dm j b o hj<|hl1 b o hb)<|λi b o hi hb=>?_
 rw[fw]at hi;unfold iM;split
 ·grind
 ·rename_i hne;exact g.dj j i b o hj hi (λh=>hne h.symm)<|hl1 b o hb
theorem Good.join(g:Good E w M hs (P1::V))(hj:j<V.length)(hp:P.ok M (kf (hs 0)<|hs<|j+1)):
  Good E w M (iM (λi=>hs<|i+1) j<|kf (hs 0)<|hs<|j+1) (V.set j P):=by
 have hj1:j+1<(P1::V).length:=by grind
 have ho:∀b o,kf (hs 0) (hs<|j+1) b=some o->hs 0 b=some o\/hs (j+1) b=some o:=λb o hb=>by
  grind [kf]
 have h0:0<(P1::V).length:=by simp
 refine⟨g.os,g.tape,g.out,g.dr,g.im,λi Q hq=>?_,λi b o hi hb=>?_,λi b o hi hb=>?_,λi k b o hi hk hne hb=>?_⟩
 ·rw[gJ]at hq;unfold iM
  by_cases e:j=i
  ·grind
  ·rw[aI e]at hq;rw[aI<|λh=>e h.symm];exact g.sat (i+1) Q (by grind)
 ·rw[fw]at hi;unfold iM at hb;split at hb
  ·rcases ho b o hb with h|h
   ·exact g.le 0 b o h0 h
   ·exact g.le (j+1) b o hj1 h
  ·exact g.le (i+1) b o (by grind) hb
 ·rw[fw]at hi;unfold iM at hb;split at hb
  ·rcases ho b o hb with h|h
   ·exact g.dm 0 b o h0 h
   ·exact g.dm (j+1) b o hj1 h
  ·exact g.dm (i+1) b o (by grind) hb
 ·rw[fw]at hi hk;have hi1:i+1<(P1::V).length:=by grind
  have hk1:k+1<(P1::V).length:=by grind
  unfold iM at hb ⊢;split at hb
  ·rename_i e;rw[aI<|λh=>hne<|e.trans h.symm]
   rcases ho b o hb with h|h
   ·exact g.dj 0 (k+1) b o h0 hk1 (by omega) h
   ·exact g.dj (j+1) (k+1) b o hj1 hk1 (by omega) h
  ·split
   ·rename_i e1 e2;have a1:=g.dj (i+1) 0 b o hi1 h0 (by omega) hb;have a2:=g.dj (i+1) (j+1) b o hi1 hj1 (by omega) hb
    grind [kf]
   ·exact g.dj (i+1) (k+1) b o hi1 hk1 (by omega) hb
end
structure RV where
 v:Value
 one:v.oneCell'=true
instance:Sc RV:=⟨RV.v,RV.one⟩
structure XT (ρ α:Type)where
 rest:ρ->α->Prop
 ok:bV->bV->ρ->α->Prop
 mono:∀{M M' h:bV}{u:ρ}{x:α},hle M M'->ok M h u x->ok M' h u x
 res:∀{M h:bV}{u:ρ}{x:α},ok M h u x->rest u x
def j8{ρ α:Type}(X:XT ρ α)(us:List ρ)(xs:List α)(k:Option Nat):HP:=
 ⟨λM h=>us.length=xs.length/\(∀(i:Nat)u x,us[i]? =some u->xs[i]? =some x->X.rest u x)/\∃c:Nat->Nat,(∀b o,h b=some o->c b<us.length/\k≠some (c b))/\
  ∀i u x,k≠some i->us[i]? =some u->xs[i]? =some x->X.ok M (λb=>if c b=i then h b else none) u x,
  λhk⟨h1,h0,c,h2,h3⟩=>⟨h1,h0,c,h2,λi u x hi hu hx=>X.mono hk (h3 i u x hi hu hx)⟩⟩
def yg{ρ α:Type}(X:XT ρ α)(u:ρ)(x:α):HP:=⟨λM h=>X.ok M h u x,λhk h=>X.mono hk h⟩
section
variable {ρ α:Type}{X:XT ρ α}{us:List ρ}{xs:List α}{E w:World}{V:List HP}{j i:Nat}{u u':ρ}{x x':α}
theorem Holds.i7(h:Holds E w V){k:Option Nat}(hj:V[j]? =some (j8 X us xs k)):us.length=xs.length:=by
 obtain⟨M,hs,g⟩:=h;exact(g.sat j _ hj).1
theorem Holds.focus(h:Holds E w V)(hj:V[j]? =some (j8 X us xs none))(hu:us[i]? =some u)(hx:xs[i]? =some x):Holds E w (yg X u x::V.set j (j8 X us xs<|some i)):=by
 obtain⟨M,hs,g⟩:=h;obtain⟨hl,hr,c,hc,hok⟩:=g.sat j _ hj;refine⟨M,_,g.split (bK hj) (h1:=λb=>if c b=i then hs j b else none) (h2:=λb=>if c b=i then none else hs j b) (λb o hb=>?_) (λb o hb=>?_) (λb o hb=>?_) ?_ ?_⟩
 ·grind
 ·grind
 ·grind
 ·exact hok i u x (by simp) hu hx
 ·refine⟨hl,hr,c,λb o hb=>?_,λa u2 x2 ha hu2 hx2=>?_⟩
  ·grind
  grind
theorem Holds.xD(h:Holds E w (yg X u' x'::V))(hj:V[j]? =some (j8 X us xs<|some i))(hi:i<us.length):Holds E w (V.set j<|j8 X (us.set i u') (xs.set i x') none):=by
 obtain⟨M,hs,g⟩:=h;have hlt:=bK hj;obtain⟨hl,hr,c,hc,hok⟩:=g.sat (j+1) _ (by simpa using hj);have h0:X.ok M (hs 0) u' x':=g.sat 0 _ rfl;have hdj:∀b o,hs 0 b=some o->hs (j+1) b=none:=λb o hb=>g.dj 0 (j+1) b o (by simp) (by grind) (by omega) hb;have hrr:∀(a:Nat)u2 x2,(us.set i u')[a]? =some u2->(xs.set i x')[a]? =some x2->X.rest u2 x2:=λa u2 x2 hu2 hx2=>by
  rw[gJ]at hu2 hx2
  by_cases ha:i=a
  ·subst ha;rw[aG rfl,aG hi]at hu2;rw[aG rfl,aG (by omega)]at hx2;injection hu2 with hu2;injection hx2 with hx2
   subst hu2;subst hx2;exact X.res h0
  grind
 refine⟨M,_,g.join hlt ⟨by simp[hl],hrr,λb=>if(hs 0 b).isSome=true then i else c b,λb o hb=>?_,λa u2 x2 _ hu2 hx2=>?_⟩⟩
 ·grind [fw,kf]
 ·rw[gJ]at hu2 hx2
  by_cases ha:i=a
  ·subst ha;rw[aG rfl,aG hi]at hu2;rw[aG rfl,aG (by rw[<-hl];exact hi)]at hx2;injection hu2 with hu2;injection hx2 with hx2
   subst hu2;subst hx2;have e:(λb=>if(if(hs 0 b).isSome=true then i else c b)=i then kf (hs 0) (hs<|j+1) b else none)=hs 0:=by
    funext b
    cases hb:hs 0 b with
    |some o=>simp[kf,hb]
    |none=>
     simp only[Option.isSome_none,Bool.false_eq_true,if_false];split
     ·rename_i hci;unfold kf;rw[hb]
      cases hq:hs (j+1) b with
      |none=>rfl
      |some o=>exact absurd (by rw[hci]) (hc b o hq).2
     ·rfl
   rw[e];exact h0
  ·rw[aI ha]at hu2 hx2;have:=hok a u2 x2 (λe=>ha (by injection e)) hu2 hx2;have e:(λb=>if c b=a then hs (j+1) b else none)=(λb=>if(if(hs 0 b).isSome=true then i else c b)=a then kf (hs 0) (hs<|j+1) b else none):=by
    funext b
    cases hb:hs 0 b with
    |some o=>simp[kf,hb,ha,hdj b o hb]
    |none=>simp[kf,hb]
   rw[<-e];exact this
theorem Holds.wc(h:Holds E w (yg X u' x'::V))(hj:V[j]? =some (j8 X us xs none)):Holds E w (V.set j<|j8 X (us++[u']) (xs++[x']) none):=by
 obtain⟨M,hs,g⟩:=h;have hlt:=bK hj;obtain⟨hl,hr,c,hc,hok⟩:=g.sat (j+1) _ (by simpa using hj);have h0:X.ok M (hs 0) u' x':=g.sat 0 _ rfl;have hdj:∀b o,hs 0 b=some o->hs (j+1) b=none:=λb o hb=>g.dj 0 (j+1) b o (by simp) (by grind) (by omega) hb;have hrr:∀(a:Nat)u2 x2,(us++[u'])[a]? =some u2->(xs++[x'])[a]? =some x2->X.rest u2 x2:=λa u2 x2 hu2 hx2=>by
  by_cases ha:a<us.length
  ·grind
  ·have hae:a=us.length:=by
    grind
   subst hae;rw[eX<|bB _,Nat.sub_self]at hu2;rw[hl,eX<|bB _,Nat.sub_self]at hx2;simp at hu2 hx2;subst hu2;subst hx2;exact X.res h0
 refine⟨M,_,g.join hlt ⟨by simp[hl],hrr,λb=>if(hs 0 b).isSome=true then us.length else c b,λb o hb=>?_,λa u2 x2 _ hu2 hx2=>?_⟩⟩
 ·refine⟨?_,by simp⟩;rw[dL];dsimp only;split
  ·simp
  ·rename_i hn;have:hs 0 b=none:=by simpa using hn
   unfold kf at hb;rw[this]at hb;have:=(hc b o hb).1;simp;omega
 ·by_cases ha:a<us.length
  ·rw[fP ha]at hu2;rw[fP (by omega)]at hx2;have:=hok a u2 x2 (by simp) hu2 hx2;have e:(λb=>if c b=a then hs (j+1) b else none)=(λb=>if(if(hs 0 b).isSome=true then us.length else c b)=a then kf (hs 0) (hs<|j+1) b else none):=by
    funext b
    cases hb:hs 0 b with
    |some o=>simp[kf,hb,hdj b o hb];omega
    |none=>simp[kf,hb]
   rw[<-e];exact this
  ·have hae:a=us.length:=by
    have:=(aV.1 hu2).1;simp at this;omega
   subst hae;rw[eX<|bB _,Nat.sub_self]at hu2;rw[hl,eX<|bB _,Nat.sub_self]at hx2;simp at hu2 hx2;subst hu2;subst hx2;have e:(λb=>if(if(hs 0 b).isSome=true then us.length else c b)=us.length then kf (hs 0) (hs<|j+1) b else none)=hs 0:=by
    funext b
    cases hb:hs 0 b with
    |some o=>simp[kf,hb]
    |none=>
     simp only[Option.isSome_none,Bool.false_eq_true,if_false];split
     ·rename_i hci;unfold kf;rw[hb]
      cases hq:hs (j+1) b with
      |none=>rfl
      |some o=>have:=(hc b o hq).1;omega
     ·rfl
   rw[e];exact h0
theorem Holds.xE(X:XT ρ α)(h:Holds E w V):Holds E w (j8 X [] [] none::V):=
 h.q8 λ_ _ _=>⟨rfl,λi u x hu=>(by simp at hu),λ_=>0,λ_ _ h=>(by cases h),λi u x _ hu=>(by simp at hu)⟩
theorem Holds.we(h:Holds E w V){k:Option Nat}(hj:V[j]? =some (j8 X us xs k))(hu:us[i]? =some u)(hx:xs[i]? =some x):X.rest u x:=by
 obtain⟨M,hs,g⟩:=h;exact(g.sat j _ hj).2.1 i u x hu hx
end
section
variable {ρ α:Type}[GT ρ]{X:XT ρ α}{us:List ρ}{xs:List α}{E w:World}{V:List HP}{j i:Nat}{e:TypeId}{v:Value}
theorem Holds.sF [GT α](hsz:GT.sz ρ=GT.sz α)(hX:∀M h u x cs,(∀b o,h b=some o->M b=none)->X.ok M h u x->GT.ok M cs u->GT.ok (kf M h) cs x)
  (h:Holds E w (j8 X us xs none::V)) (hj:V[j]? =some (own e v us)):Holds E w (Gk.bP::V.set j (own e v xs)):=by
 obtain⟨M,hs,g⟩:=h;have hlt:=bK hj;obtain⟨hl,hr,c,hc,hok⟩:=g.sat 0 _ rfl;have g2:=g.freeze (P':=Gk.bP) (i:=0) (by simp) trivial;have ho:=g.sat (j+1) (own e v us) (by grind);have hnew:(own e v xs).ok (kf M<|hs 0) (hs<|j+1):=by
  rcases ho with⟨h1,h2,h3⟩|⟨b,o,cap,cur,cs,h1,h2,h3,h4,h5,h6,h7⟩
  ·subst h2;exact .inl ⟨h1,List.length_eq_zero_iff.1 (by grind),h3⟩
  ·refine .inr ⟨b,o,cap,cur,cs,by grind,by omega,h3,h4,by grind,by grind,⟨by rw[<-hl,<-hsz];exact h7.1,λa x hx=>?_⟩⟩;have ha:a<us.length:=by grind
   have hu:=aO ha
   have h9:=hX M _ _ _ _ (λb' o' hb'=>by
    split at hb'
    ·exact g.dm 0 b' o' (by simp) hb'
    ·cases hb') (hok a _ x (by simp) hu hx) (by exact h7.2 a _ hu)
   rw[<-hsz];refine GT.mono (λq o' hq=>?_) h9
   grind [kf]
 have g3:=g2.update (w':=w) (P':=own e v xs) (i:=j+1) (by grind) (hs<|j+1) hnew rfl rfl rfl
  (λb o hb=>g.le (j+1) b o (by grind) hb) (λb o hb=> .inl ⟨o,by simp_all[iM,aI]⟩) (λb _ _=>rfl)
 exact⟨_,_,g3⟩
end
section
variable {β:Type}[GT β]
def XS(e:TypeId)(β:Type)[GT β]:XT RV (List β):=⟨λ_ _=>True,λM h u l=>oE e M h u.v l,λ{M M' h u l}hk hh=>(own e u.v l).mono hk hh,λ_=>trivial⟩
theorem yD(e:TypeId)(u:RV)(l:List β):yg (XS e β) u l=own e u.v l:=rfl
theorem oE.sl{e:TypeId}{M h:bV}{v:Value}{l:List β}(hd:∀b o,h b=some o->M b=none)(ho:oE e M h v l):hU (kf M h) v l:=by
 rcases ho with⟨rfl,rfl,_⟩|⟨b,o,cap,cur,xs,rfl,h2,h3,h4,h5,h6,h7⟩
 ·exact⟨none,0,0,rfl,rfl,bB _,by simp[maxLen],λi x hx=>by simp at hx⟩
 ·refine mX (M:=kf M h) (e:=e) (fr:=(0,0)) ?_ (h7.mono<|oX _ _) h6 h2 h3
  simp_all[bM,kf]
theorem zo(e:TypeId)(M h:bV)(u:RV)(l:List β)(cs:List Value)(hd:∀b o,h b=some o->M b=none)(hx:(XS e β).ok M h u l)(hc:GT.ok M cs u):GT.ok (kf M h) cs l:=
 ⟨u.v,hc,oE.sl hd hx⟩
end
def xk:RV:=⟨.slice none 0 0,rfl⟩
def rv(v:Value):RV:=if h:v.oneCell'=true then⟨v,h⟩else xk
theorem yE{v:Value}(h:v.oneCell'=true):(rv v).v=v:=by unfold rv;rw[dif_pos h]
instance:Inhabited RV:=⟨xk⟩
theorem m4{ρ α:Type}{us:List ρ}{xs:List α}{jj:Int}{x:α}(z:ρ)(hl:us.length=xs.length)(hx:idx xs jj=some x):idx us jj=some (us.getD jj.toNat z):=by
 grind [cJ,Int.eq_ofNat_of_zero_le,dK,idx,aO]
structure XO {ρ α β:Type} [GT ρ] [GT β] (X:XT ρ α) (e':TypeId) (off:Nat) (f:ρ->RV) (fs:ρ->RV->ρ) (g:α->List β) (gs:α->List β->α):Prop where
 BF:Fd off f
 Bv:Fs off RV fs
 le:off+1<=GT.sz ρ
 get:∀{M h u x},X.ok M h u x->oE e' M h (f u).v (g x)
 put:∀{M h' u x r y},X.rest u x->oE e' M h' (RV.v r) y->X.ok M h' (fs u r) (gs x y)
theorem wg(e:TypeId)(β:Type)[GT β]:XO (XS e β) e 0 (λx=>x) (λ_ y=>y) (λx=>x) (λ_ y=>y):=
 ⟨Fd.self,Fs.self,bB _,λh=>h,λ_ h=>h⟩
section
variable {ρ α β:Type}[GT ρ][GT β]{X:XT ρ α}{us:List ρ}{xs:List α}{E w:World}{V:List HP}{i j k o b:Nat}{e e':TypeId}{v u:Value}{x:α}{y:List β}{jj:Int}{z:ρ}
variable {off:Nat}{f:ρ->RV}{fs:ρ->RV->ρ}{gg:α->List β}{gs:α->List β->α}
theorem z7(z:ρ)(hl:us.length=xs.length)(hx:idx xs jj=some x):us[jj.toNat]? =some (us.getD jj.toNat z):=by simp_all[cJ,m4]
theorem Holds.wh(o:XO X e' off f fs gg gs)(z:ρ)(h:Holds E w V)(hj:V[j]? =some (j8 X us xs none))(hx:idx xs jj=some x):
  Holds E w (own e' (f<|us.getD jj.toNat z).v (gg x)::V.set j (j8 X us xs<|some jj.toNat)):=by
 have hl:=h.i7 hj;have h2:=h.focus hj (z7 z hl hx) (cJ hx).2.1;obtain⟨M,hs,g⟩:=h2;have:=g.update (w':=w) (P':=own e' (f<|us.getD jj.toNat z).v<|gg x) (i:=0) (by simp) (hs 0) (o.get<|g.sat 0 _ rfl) rfl rfl rfl (λb o hb=>g.le 0 b o (by simp) hb) (λb o hb=> .inl ⟨o,hb⟩)<|λ_ _ _=>rfl
 exact⟨_,_,this⟩
theorem Holds.sG(o:XO X e' off f fs gg gs)(z:ρ)(h:Holds E w (own e' v y::V))(hj:V[j]? =some (j8 X us xs<|some jj.toNat))(hx:idx xs jj=some x):
  Holds E w (V.set j<|j8 X (us.set jj.toNat<|fs (us.getD jj.toNat z)<|rv v) (xs.set jj.toNat<|gs x y) none):=by
 have hl:=h.i7 (j:=j+1) (by simpa using hj);have h1:(rv v).v=v:=by
  obtain⟨a,c,hv⟩:=h.gq (i:=0) rfl;exact yE (by rw[hv];rfl)
 have hr:=h.we (j:=j+1) (by simpa using hj) (z7 z hl hx) (cJ hx).2.1;have h2:Holds E w (yg X (fs (us.getD jj.toNat z)<|rv v) (gs x y)::V):=by
  obtain⟨M,hs,g⟩:=h;have:=g.update (w':=w) (P':=yg X (fs (us.getD jj.toNat z)<|rv v)<|gs x y) (i:=0) (by simp) (hs 0) (o.put hr (by rw[h1];exact g.sat 0 _ rfl)) rfl rfl rfl (λb o hb=>g.le 0 b o (by simp) hb) (λb o hb=> .inl ⟨o,hb⟩)<|λ_ _ _=>rfl
  exact⟨_,_,this⟩
 exact h2.xD hj (by simp_all[cJ])
theorem Holds.yh(h:Holds E w V)(hi:V[i]? =some (own e v y)):Holds E w (rd v (rv v)::V):=by
 have h1:(rv v).v=v:=by
  obtain⟨a,c,hv⟩:=h.gq hi;exact yE (by rw[hv];rfl)
 have:=h.sc RV<|rv v
 simp_all[Sc.toV]
theorem Holds.xF [GT α](hsz:GT.sz ρ=GT.sz α)(hX:∀M h u x cs,(∀b o,h b=some o->M b=none)->X.ok M h u x->GT.ok M cs u->GT.ok (kf M h) cs x)
  (h:Holds E w V) (hb:V[b]? =some (j8 X us xs none)) (hj:V[j]? =some (own e v us)) (hne:b≠j):Holds E w ((V.set b Gk.bP).set j<|own e v xs):=by
 have h1:=h.pull (hi:=hb) _;have h2:=h1.sF hsz hX (j:=j) (by rw[gJ,aI hne];exact hj);exact h2.drop 1 rfl
end
section
variable {ρ α β:Type}[GT ρ][GT β]{P:Program}{n:Nat}{U:Nat->Value}{w:World}{Q:dC}{E:World}{V:List HP}{i j k o b:Nat}
variable {ops:Array Oper}{rest:List Oper}{d:Nat}{ty t T e e':TypeId}{pos:String}{af:Array Edge}{g:Option (Nat×Bool)}{v vy u p:Value}{q r:Operand}
variable {X:XT ρ α}{us:List ρ}{xs xs':List α}{x:α}{y:List β}{jj:Int}{z:ρ}{bytes:Nat}
variable {off:Nat}{f:ρ->RV}{fs:ρ->RV->ρ}{gg:α->List β}{gs:α->List β->α}
theorem DC{k0:Option Nat}(i b:Nat)(hg:Wn ops U g)(hd:Nat.blt d n=true)(hw:Holds E w V)(hx:ev U q=v)(hi:V[i]? =some (own e' v us))(hb:V[b]? =some (j8 X us xs k0))(ht:P.underlying t=some (.slice e))(kk:RL P n ops rest (bZ U d<|.int .i64 (xs.length:Nat)) w Q):RL P n ops (⟨some d, .call ⟨.builtin .len,#[q],#[t]⟩,ty,pos,af,g⟩::rest) U w Q:=by
 have hl:=hw.i7 hb
 grind [Ch]
theorem D3{k0:Option Nat}(O:XO X e' off f fs gg gs)(z:ρ)(hg:Wn ops U g)(hw:Holds E w V)(hx:ev U q=p)(hy:ev U r=u)(hp:xh v jj.toNat (GT.sz ρ) off p)(hi:V[i]? =some (own e v us))
  (hb:V[b]? =some (j8 X us xs k0)) (hk:k0=none\/k0=some jj.toNat) (ho:V[o]? =some (own e' u y)) (hxs:idx xs jj=some x) (hib:i≠b) (hob:o≠b) (hio:i≠o) (hT:j6 P T false 1)
  (kk:∀w',Holds E w' (((V.set i<|own e v<|us.set jj.toNat<|fs (us.getD jj.toNat z)<|rv u).set o bP).set b<|j8 X (us.set jj.toNat<|fs (us.getD jj.toNat z)<|rv u) (xs.set jj.toNat<|gs x y) none)->RL P n ops rest U w' Q):
  RL P n ops (⟨none, .store T q r,ty,pos,af,g⟩::rest) U w Q:=by
 have hl:=hw.i7 hb;have hrv:=hw.yh ho;have h3:V.length>0:=by grind
 refine De (i:=i+1) (j:=0) (f:=fs) (y:=rv u) hg hrv hx hy hp (by simpa using hi) (z7 z hl hxs) rfl O.Bv O.le hT λw' hw'=>?_;refine kk w' ?_;have hw2:Holds E w' (V.set i<|own e v<|us.set jj.toNat<|fs (us.getD jj.toNat z)<|rv u):=hw'.drop 1 rfl;have hb2:(V.set i<|own e v<|us.set jj.toNat<|fs (us.getD jj.toNat z)<|rv u)[b]? =some (j8 X us xs k0):=by grind
 have ho2:(V.set i<|own e v<|us.set jj.toNat<|fs (us.getD jj.toNat z)<|rv u)[o]? =some (own e' u y):=by grind
 rcases hk with rfl|rfl
 ·have h4:=hw2.wh O z hb2 hxs;have h5:Holds E w' ((V.set i<|own e v<|us.set jj.toNat<|fs (us.getD jj.toNat z)<|rv u).set b<|j8 X us xs<|some jj.toNat):=h4.drop 1 rfl;have hb3:((V.set i<|own e v<|us.set jj.toNat<|fs (us.getD jj.toNat z)<|rv u).set b<|j8 X us xs<|some jj.toNat)[b]? =some (j8 X us xs<|some jj.toNat):=by
   grind
  have ho3:((V.set i<|own e v<|us.set jj.toNat<|fs (us.getD jj.toNat z)<|rv u).set b<|j8 X us xs<|some jj.toNat)[o]? =some (own e' u y):=by
   grind
  have h6:=h5.pull (hi:=ho3) _;have h7:=h6.sG O z (j:=b) (by rw[gJ,aI hob];exact hb3) hxs
  grind [List.set_comm,List.set_set]
 ·have h6:=hw2.pull (hi:=ho2) _;exact h6.sG O z (j:=b) (by grind) hxs
end
section
variable {α β:Type}[GT β]{P:Program}{n:Nat}{U:Nat->Value}{w:World}{Q:dC}{E:World}{V:List HP}{i j k o b:Nat}
variable {ops:Array Oper}{rest:List Oper}{d:Nat}{ty t T e e':TypeId}{pos:String}{af:Array Edge}{g:Option (Nat×Bool)}{v vy u p:Value}{q r:Operand}
variable {us:List RV}{xs xs':List (List β)}{y:List β}{jj:Int}{bytes:Nat}
theorem xG{ρ α:Type}{us:List ρ}{xs xs':List α}{x:α}{bytes:Nat}(hl:us.length=xs.length)(h:app bytes xs [x]=some xs')(u:ρ):app bytes us [u]=some (us++[u])/\xs'=xs++[x]:=by
 grind [app]
theorem D4(hg:Wn ops U g)(hd:Nat.blt d n=true)(hw:Holds E w V)(hx:ev U q=v)(hy:ev U r=vy)(hi:V[i]? =some (own e v us))(hj:V[j]? =some (rd vy [rv u]))
  (hb:V[b]? =some (j8 (XS e' β) us xs none)) (ho:V[o]? =some (own e' u y)) (hib:i≠b) (hob:o≠b) (hio:i≠o) (hT:sg P t e 1 bytes) (ha:Gk.app bytes xs [y]=some xs')
  (kk:∀v' w',Holds E w' (((V.set i<|own e v'<|us++[rv u]).set o bP).set b<|j8 (XS e' β) (us++[rv u]) xs' none)->RL P n ops rest (bZ U d v') w' Q):
  RL P n ops (⟨some d, .call ⟨.builtin .append,#[q,r],#[t,t]⟩,ty,pos,af,g⟩::rest) U w Q:=by
 obtain⟨h1,rfl⟩:=xG (hw.i7 hb) ha<|rv u
 refine Cu (hg:=hg) (hd:=hd) (hx:=hx) (hy:=hy) (hi:=hi) (hj:=hj) _ _ hw hT h1 λv' w' hw'=>kk v' w' ?_;have hb2:(V.set i<|own e v'<|us++[rv u])[b]? =some (j8 (XS e' β) us xs none):=by grind
 have ho2:(V.set i<|own e v'<|us++[rv u])[o]? =some (own e' u y):=by grind
 have h6:=hw'.pull (hi:=ho2) _;have h7:(rv u).v=u:=by
  obtain⟨a,c,hv⟩:=hw.gq ho;exact yE (by rw[hv];rfl)
 have h8:Holds E w' (yg (XS e' β) (rv u) y::(V.set i<|own e v'<|us++[rv u]).set o bP):=by
  grind [own,yg,XS,yD]
 exact h8.wc (by grind)
end
section
variable {P:Program}{n:Nat}{U:Nat->Value}{w:World}{Q:dC}{E:World}{V:List HP}{i j k o b:Nat}
variable {ops:Array Oper}{rest:List Oper}{d:Nat}{ty t T e e':TypeId}{pos:String}{af:Array Edge}{g:Option (Nat×Bool)}{v vy u p:Value}{q r:Operand}
end
section
variable {κ ν ρ:Type}[GT κ][KV κ][DecidableEq κ]
end
section
variable {κ β:Type}[GT κ][KV κ][DecidableEq κ][GT β]{E w:World}{V:List HP}{i j b o:Nat}{e e':TypeId}{v u:Value}{mr:List (κ×RV)}{m:List (κ×List β)}{k:κ}{y:List β}
def BG(e':TypeId)(mr:List (κ×RV))(m:List (κ×List β))(h:Option κ):HP:=
 ⟨λM hp=>mr.map Prod.fst=m.map Prod.fst/\(j8 (XS e' β) (mr.map Prod.snd) (m.map Prod.snd)<|h.bind<|fX m).ok M hp,λhk⟨a,b⟩=>⟨a,(j8 (XS e' β) _ _ _).mono hk b⟩⟩
theorem iN.raw{M h:bV}(hd:∀b o,h b=some o->M b=none):∀{es:List MapEntry}{mr:List (κ×RV)}{m:List (κ×List β)},iN M es mr->mr.map Prod.fst=m.map Prod.fst->
  (∀(i:Nat)u x,(mr.map Prod.snd)[i]? =some u->(m.map Prod.snd)[i]? =some x->∃h',(∀b o,h' b=some o->h b=some o)/\oE e' M h' (RV.v u) x)->iN (kf M h) es m
 | [],[],[],_,_,_=>trivial
 |en::es,p::mr,q::m,⟨h1,h2,h3⟩,hk,hx=>by
  simp only[ee,List.cons.injEq]at hk;obtain⟨h',hs,ho⟩:=hx 0 p.2 q.2 rfl rfl;refine⟨by rw[h1,hk.1],?_,iN.raw hd h3 hk.2<|λi u x hu hx'=>hx (i+1) u x (by grind) (by grind)⟩;have:en.val=p.2.v:=q9.1 h2;rw[this];refine fV.2<|hU.mono (λb o hb=>?_)<|oE.sl (λb o hb=>hd b o<|hs b o hb) ho
  unfold kf at hb ⊢
  cases hM:M b with
  |some o'=>rw[hM]at hb;exact hb
  |none=>rw[hM]at hb;exact hs b o hb
 | [],p::mr,_,h,_,_=>h.elim
 |_::_,[],_,h,_,_=>h.elim
 | [],[],q::m,_,hk,_=>by simp at hk
 |_::_,p::mr,[],_,hk,_=>by simp at hk
end
section
variable {κ β:Type}[GT κ][KV κ][DecidableEq κ][GT β]{P:Program}{n:Nat}{U:Nat->Value}{w:World}{Q:dC}{E:World}{V:List HP}{i j b o:Nat}
variable {ops:Array Oper}{rest:List Oper}{d:Nat}{ty T kt et e':TypeId}{pos:String}{af:Array Edge}{g:Option (Nat×Bool)}{v u:Value}{q qk qv:Operand}{mr:List (κ×RV)}{m:List (κ×List β)}{k:κ}{y:List β}
end
section
variable {P:Program}{n:Nat}{U:Nat->Value}{w:World}{Q:dC}{E:World}{V:List HP}{i j k o b m:Nat}
variable {ops:Array Oper}{rest:List Oper}{d:Nat}{ty t T e e':TypeId}{pos:String}{af:Array Edge}{g:Option (Nat×Bool)}{v vy u p:Value}{q r:Operand}{cs:List Value}
end
section
variable {ρ α β:Type}[GT ρ][GT α][GT β]
structure XP (X:XT ρ α) (e':TypeId) (off:Nat) (fs:ρ->RV->ρ) (gs:α->List β->α):Prop where
 Bv:Fs off RV fs
 le:off+1<=GT.sz ρ
 put:∀{M h' u x r y},X.rest u x->oE e' M h' (RV.v r) y->X.ok M h' (fs u r) (gs x y)
end
section
variable {ρ α β:Type}[GT ρ][GT α][GT β]{X:XT ρ α}{E w:World}{V:List HP}{i j:Nat}{e e':TypeId}{v:Value}{xs:List α}{f:ρ->RV}{gg:α->List β}
end
section
variable {ρ α β:Type}[GT ρ][GT α][GT β]{P:Program}{n:Nat}{U:Nat->Value}{w:World}{Q:dC}{E:World}{V:List HP}{i j k o b:Nat}
variable {ops:Array Oper}{rest:List Oper}{d:Nat}{ty t T e e':TypeId}{pos:String}{af:Array Edge}{g:Option (Nat×Bool)}{v vy u p:Value}{q r:Operand}
variable {X:XT ρ α}{us:List ρ}{xs xs':List α}{x:α}{y:List β}{jj:Int}{z:ρ}{bytes off:Nat}{f:ρ->RV}{fs:ρ->RV->ρ}{gg:α->List β}{gs:α->List β->α}
end
class Flat (α:Type) [GT α]:Prop where
 fl:∀{M M':bV}{cs:List Value}{x:α},GT.ok M cs x->GT.ok M' cs x
instance {α:Type} [Sc α]:Flat α:=⟨λh=>h⟩
instance {α β:Type} [GT α] [GT β] [Flat α] [Flat β]:Flat (α×β):=⟨λ⟨c,d,e,h1,h2⟩=>⟨c,d,e,Flat.fl h1,Flat.fl h2⟩⟩
section
variable {α:Type}[GT α]{P:Program}{E w:World}{V:List HP}{i j:Nat}{v vy:Value}{l ys l':List α}{e t ty:TypeId}{bytes:Nat}
end
section
variable {ρ α β:Type}[GT ρ][GT α][GT β]{P:Program}{n:Nat}{U:Nat->Value}{w:World}{Q:dC}{E:World}{V:List HP}{i j k o b:Nat}
variable {ops:Array Oper}{rest:List Oper}{d:Nat}{ty t T e e':TypeId}{pos:String}{af:Array Edge}{g:Option (Nat×Bool)}{v vy u p:Value}{q r:Operand}
variable {X:XT ρ α}{us:List ρ}{xs xs':List α}{x:α}{l l':List β}{jj:Int}{z:ρ}{bytes off:Nat}{f:ρ->RV}{fs:ρ->RV->ρ}{gg:α->List β}{gs:α->List β->α}{h0:Option Nat}
theorem D5(O:XO X e' off f fs gg gs)(z:ρ)(hg:Wn ops U g)(hd:Nat.blt d n=true)(hw:Holds E w V)(hx:ev U q=p)(hp:xh v jj.toNat (GT.sz ρ) off p)(hi:V[i]? =some (own e v us))
  (hb:V[b]? =some (j8 X us xs h0)) (hxs:idx xs jj=some x) (hT:j6 P T false 1)
  (kk:RL P n ops rest (bZ U d (f<|us.getD jj.toNat z).v) w Q):RL P n ops (⟨some d, .load T q,ty,pos,af,g⟩::rest) U w Q:=
 Cv (f:=f) hg hd hw hx hp hi (z7 z (hw.i7 hb) hxs) O.BF hT kk
end
def Ak(v:Value)(k:Nat):Value:=match v with| .slice a _ cap=> .slice a k cap|_=>undef
section
variable {α:Type}[GT α]{M:bV}{xs:List Value}{l:List α}{k:Nat}
theorem Cells.take(h:Cells M xs l)(hk:k<=l.length):Cells M (xs.take<|k*GT.sz α) (l.take k):=by
 have hx:=h.1;have hm:k*GT.sz α<=l.length*GT.sz α:=Nat.mul_le_mul_right _ hk;refine⟨by grind,λi x hi=>?_⟩;rw[dB]at hi;split at hi
 case isFalse=>cases hi
 rename_i hlt;have hb:i*GT.sz α+GT.sz α<=k*GT.sz α:=by
  calc i*GT.sz α+GT.sz α=(i+1)*GT.sz α:=by rw[Nat.add_mul,Nat.one_mul]
   _<=k*GT.sz α:=Nat.mul_le_mul_right _ hlt
 have:=h.2 i x hi
 grind [List.drop_take,Nat.min_eq_left]
theorem Cells.drop(h:Cells M xs l)(hk:k<=l.length):Cells M (xs.drop<|k*GT.sz α) (l.drop k):=by
 have hx:=h.1;refine⟨by grind [gH,Nat.sub_mul],λi x hi=>?_⟩;rw[eW]at hi;have:=h.2 _ x hi
 grind [List.drop_drop,Nat.add_mul]
end
section
variable {α:Type}[GT α]{P:Program}{T e:TypeId}{lo hi:Int}
theorem wj{a:Option Addr}{m cap:Nat}(hT:qn P T e (GT.sz α))(h0:0<=lo)(h1:lo<=hi)(h2:hi<=cap)(w:World):
  (Instr.sliceAt T (.slice a m cap) (some<|.int .i64 lo) (some<|.int .i64 hi) none).run P w = .ok (.slice (if cap=lo.toNat then a else a.map (·.add (lo.toNat*GT.sz α))) (hi.toNat - lo.toNat)<|cap - lo.toNat) w:=by
 have eh:(Instr.sliceBounds true m cap (some<|.int .i64 lo) (some<|.int .i64 hi) none).run P w = .ok (lo.toNat,hi.toNat,cap) w:=by
  unfold Instr.sliceBounds;have e1:∀(y:Nat)(c:BoundsCode),hi<=y->(Instr.sliceBound (.int .i64 hi) y c).run P w = .ok hi.toNat w:=λy c hy=>by
   simp[Instr.sliceBound,asIntOf,show 0<=hi by omega,hy]
  grind [Instr.sliceBound,asIntOf,aJ,aL,aK]
 unfold Instr.sliceAt;simp only[aJ,run_underlying hT.pc,aK];unfold Instr.slice;simp only[aJ,run_underlying hT.pc,aK,eh,hT.sz,aL]
end
section
variable {α:Type}[GT α]{P:Program}{n:Nat}{U:Nat->Value}{w:World}{Q:dC}{E:World}{V:List HP}{i j k:Nat}
variable {ops:Array Oper}{rest:List Oper}{d:Nat}{ty t T e:TypeId}{pos:String}{af:Array Edge}{g:Option (Nat×Bool)}{v u:Value}{q r:Operand}{l l':List α}{lo hi:Int}{bytes:Nat}
theorem uB(hw:Holds E w V)(hi':V[i]? =some (own e v l)):∃a cap,v = .slice a l.length cap/\l.length<=cap:=by
 obtain⟨M,hs,gd⟩:=hw
 rcases gd.sat i _ hi' with⟨h1,h2,_⟩|⟨b,o,c,cur,xs,hv,h2,_⟩
 ·grind
 grind
theorem Ef{hip:Option Operand}(hg:Wn ops U g)(hd:Nat.blt d n=true)(hw:Holds E w V)(hx:ev U q=v)(hi':V[i]? =some (own e v l))(hT:qn P T e (GT.sz α))
  (hh:hip.map (ev U)=some (.int .i64 hi)) (h0:0<=hi) (h1:hi<=(l.length:Nat)) (kk:RL P n ops rest (bZ U d<|Ak v hi.toNat) w Q):
  RL P n ops (⟨some d, .slice T q none hip none,ty,pos,af,g⟩::rest) U w Q:=by
 obtain⟨a,cap,rfl,hcap⟩:=uB hw hi';refine x_ hg hd ?_ kk;have:=m0 (P:=P) (α:=α) (a:=a) (m:=l.length) (cap:=cap) (lo:=0) (hi:=hi) (lov:=none) (hiv:=hip.map<|ev U) hT (.inr ⟨rfl,rfl⟩) (.inl hh) (Int.le_refl _) h0 h1 hcap w;simp only[execOp,hx,aJ,Option.map_none,this,aK,aL];simp only[Ak,Int.toNat_zero,Nat.sub_zero,Nat.zero_mul]
 by_cases h0:cap=0
 ·rw[aG h0]
 ·rw[aI h0];cases a <;> rfl
theorem Eg{lop hip:Option Operand}(hg:Wn ops U g)(hd:Nat.blt d n=true)(hw:Holds E w V)(hx:ev U q=Ak v k)(hi':V[i]? =some (own e v l))(hT:qn P T e (GT.sz α))(hk:k<=l.length)
  (hl:lop.map (ev U)=some (.int .i64 (k:Nat))) (hh:hip.map (ev U)=some (.int .i64 (l.length:Nat))) (kk:RL P n ops rest (bZ U d<|vw v k<|GT.sz α) w Q):
  RL P n ops (⟨some d, .slice T q lop hip none,ty,pos,af,g⟩::rest) U w Q:=by
 obtain⟨a,cap,rfl,hcap⟩:=uB hw hi';refine x_ hg hd ?_ kk;have hx':ev U q = .slice a k cap:=hx;have:=wj (P:=P) (α:=α) (a:=a) (m:=k) (cap:=cap) (lo:=(k:Nat)) (hi:=(l.length:Nat)) hT (by omega) (by omega) (by omega) w;simp only[execOp,hx',aJ,Option.map_none,hl,hh,this,aK,aL];rfl
end
end Go.Gk
namespace Go.Gk
open Go IntKind Go.Sort
def po(l:List Int):Option (List Int):=if l.length<4611686018427387904 then some (l.mergeSort λx y=>decide<|x<=y)else none
section
variable {α:Type}[GT α]
def yi{β:Type}(cf:β->β->Int)(x y:β):Bool:=decide<|cf x y<0
def tC(φ:α->α->Option Int)(l:List α)(i j:Fin l.length):Int:=(φ l[i] l[j]).getD 0
def uC(φ:α->α->Option Int)(l:List α):List α:=
 if h:0<l.length then
  haveI:Inhabited (Fin l.length):=⟨⟨0,h⟩⟩
  ((pdq (yi<|tC φ l) (Array.ofFn λi:Fin l.length=>i) 0 l.length (Lib.bitLen l.length) true true).toList.map λi=>l[i])
 else l
open Classical in
noncomputable def qF(φ:α->α->Option Int)(l:List α):Option (List α):=
 if((∀i j:Fin l.length,∃c,φ l[i] l[j]=some c)/\SWO (yi<|tC φ l))/\l.length<4611686018427387904 then some (uC φ l)else none
end
end Go.Gk
namespace Go.Gk
open Go IntKind
def lE:Op->Bool
 | .move _| .assign _| .pick .. | .load .. | .nilCheck _| .binOp .. | .unOp .. | .fieldAddr .. | .indexAddr .. | .index .. | .field .. | .extract .. | .slice .. | .lookup .. | .build .. | .makeFunc .. =>true
 | .call ⟨.builtin .len,_,_⟩| .call ⟨.builtin .cap,_,_⟩| .call ⟨.builtin .min,_,_⟩| .call ⟨.builtin .max,_,_⟩=>true
 |_=>false
theorem iA{α:Type}{s:Sem α}{P:Program}{w w':World}{f:α->Value}{nx:Next}(h:(do let a <-s;pure (.value<|f a):Sem Next).run P w = .ok nx w'):∃v,nx = .value v:=by
 rw[aJ]at h
 cases hr:s.run P w with
 |ok a w1=>grind [Result.andThen,aL]
 |halt x w1=>simp_all
theorem sI{ρ:Operand->Value}{o:Oper}{P:Program}{w w':World}{nx:Next}(hk:lE o.op=true)(h:(execOp ρ o).run P w = .ok nx w'):∃v,nx = .value v:=by
 obtain⟨dst,op,ty,pos,af,g⟩:=o
 cases op
 case move x=>grind [execOp,aL]
 case assign x=>grind [execOp,aL]
 case pick c a b=>exact iA (s:=asBool<|ρ c) (f:=λt=>if t then ρ a else ρ b) h
 case load t a=>exact iA h
 case binOp a b c d e=>
  simp only[execOp]at h;exact iA h
 case unOp a b c=>exact iA h
 case fieldAddr a b c=>exact iA h
 case indexAddr a b c=>exact iA h
 case index a b c=>exact iA h
 case field a b c=>exact iA h
 case extract a b=>exact iA h
 case slice a b c d e=>exact iA h
 case lookup a b c d=>exact iA h
 case build a b=>exact iA h
 case makeFunc a b c=>exact iA h
 case nilCheck x=>
  simp only[execOp]at h;split at h
  ·cases h
  ·cases h
  ·cases h
  ·split at h
   ·cases h
   ·rw[aJ]at h
    cases h1:program.run P w with
    |halt x w1=>simp_all
    |ok p w1=>
     rw[h1]at h;simp only[Result.andThen,aJ]at h;split at h
     ·rename_i r w2 h2;split at h
      ·simp_all
      grind [aL]
     ·cases h
   grind [aL]
  grind [aL]
 case call c=>
  obtain⟨cal,args,ts⟩:=c
  cases cal with
  |builtin b=>
   cases b <;> first
    |(cases hk;done)
    |(simp only[execOp,resolve,aJ,aL,Result.andThen,invoke,builtin]at h;exact iA (by rw[aJ];exact h))
  |value f=>cases hk
  |invoke r m=>cases hk
 all_goals cases hk
theorem Sl.uniq{n:Nat}{U σ':Nat->Value}{a:Act}(h:Sl n U a)(h':Sl n σ' a):U=σ':=funext λt=>(h.get t).symm.trans<|h'.get t
section
variable {P:Program}{n:Nat}{ops:Array Oper}{w:World}{Q:dC}{U:Nat->Value}{o:Oper}{rest l:List Oper}
def RO(P:Program)(n:Nat)(ops:Array Oper)(w:World)(Q:dC):List Oper->(Nat->Value)->Prop
 | [],U=>Q .normal U w
 |o::rest,U=>RL P n ops [o] U w (λex σ' w'=>ex = .normal/\w'=w/\RO P n ops w Q rest σ')
theorem Ci(h:RL P n ops [o] U w (λex σ' w'=>ex = .normal/\w'=w/\RO P n ops w Q rest σ')):RO P n ops w Q (o::rest) U:=h
theorem e_(h:RL P n ops [o] U w (λex σ' w'=>ex = .normal/\w'=w/\RO P n ops w Q rest σ')):RL P n ops [] U w (λex σ' w'=>ex = .normal/\w'=w/\RO P n ops w Q (o::rest) σ'):=i_ ⟨rfl,rfl,h⟩
theorem B9(h:Q .normal U w):RL P n ops [] U w (λex σ' w'=>ex = .normal/\w'=w/\RO P n ops w Q [] σ'):=i_ ⟨rfl,rfl,h⟩
def r5(P:Program)(ops:Array Oper)(w:World)(a:Act)(o:Oper)(v:Value):Prop:=
 (Region.wanted o (yielded ops a.tmps)=true/\(execOp a.eval o).run P w = .ok (.value v) w)\/(Region.wanted o (yielded ops a.tmps)=false/\v=undef)
theorem D6{a:Act}{d:Nat}(hs:Sl n U a)(hk:lE o.op=true)(hd:o.dst=some d)(hdn:Nat.blt d n=true)(h:RO P n ops w Q (o::rest) U):
  ∃v,r5 P ops w a o v/\RO P n ops w Q rest (bZ U d v):=by
 have h1:=h a hs;unfold wpList at h1;split at h1
 ·rename_i hw
  rcases h1 with h1|⟨_,h1⟩
  ·unfold Oper.wp at h1
   cases hr:(execOp a.eval o).run P w with
   |ok nx w'=>
    rw[hr]at h1;obtain⟨v,rfl⟩:=sI hk hr;obtain⟨σ',hs',_,hw',hrest⟩:=h1;have hw':w'=w:=hw';subst hw';rw[hd]at hs';have:=hs'.uniq<|hs.put hdn v
    subst this;exact⟨v, .inl ⟨hw,hr⟩,hrest⟩
   |halt x w'=>
    rw[hr]at h1
    cases x with
    |panic v=>obtain⟨_,_,hbad,_⟩:=h1;cases hbad
    |_=>exact h1.elim
  ·obtain⟨_,_,_,_,hbad,_⟩:=h1;cases hbad
 ·rename_i hw;obtain⟨σ',hs',_,_,hrest⟩:=h1;rw[hd]at hs';have:=hs'.uniq<|hs.put hdn undef
  subst this;exact⟨undef, .inr ⟨by grind,rfl⟩,hrest⟩
def oF(U:Nat->Value):List Oper->List Value->(Nat->Value)
 |o::l,v::vs=>oF (match o.dst with|some d=>bZ U d v|none=>U) l vs
 |_,_=>U
theorem D7:∀(l:List Oper)(U:Nat->Value)(a:Act),Sl n U a->(∀o∈l,lE o.op=true/\∃d,o.dst=some d/\Nat.blt d n=true)->RO P n ops w Q l U->
  ∃vs:List Value,vs.length=l.length/\Q .normal (oF U l vs) w/\∀(j:Nat)o v,l[j]? =some o->vs[j]? =some v->∃aj,Sl n (oF U (l.take j)<|vs.take j) aj/\r5 P ops w aj o v:=by
 intro l
 induction l with
 |nil=>intro U a hs _ h;exact⟨[],rfl,h,λj o v ho=>by simp at ho⟩
 |cons o l ih=>
  intro U a hs hk h;obtain⟨hk1,d,hd,hdn⟩:=hk o (by simp);obtain⟨v,hst,hrest⟩:=D6 hs hk1 hd hdn h;obtain⟨vs,hl,hq,hj⟩:=ih (bZ U d v) _ (hs.put hdn v) (λo' ho'=>hk o' (by simp[ho'])) hrest;refine⟨v::vs,by simp[hl],?_,λj o' v' ho hv=>?_⟩
  ·grind [oF]
  ·cases j with
   |zero=>
    simp at ho hv;subst ho;subst hv;exact⟨a,hs,hst⟩
   |succ j=>
    grind [oF]
theorem lF{t:Nat}:∀(l:List Oper)(vs:List Value)(U:Nat->Value),(∀o∈l,o.dst≠some t)->oF U l vs t=U t
 | [],_,U,_=>rfl
 |_::_,[],U,_=>rfl
 |o::l,v::vs,U,h=>by
  unfold oF;rw[lF l vs _<|λo' ho=>h o' (by simp[ho])]
  cases hd:o.dst with
  |none=>rfl
  |some d=>
   have hne:t≠d:=λe=>h o (by simp) (by rw[hd,e]);show bZ U d v t=U t;unfold bZ
   cases hb:Nat.beq t d with
   |true=>exact absurd (cL hb) hne
   |false=>rfl
theorem rk{t:Nat}:∀(l:List Oper)(vs:List Value)(U:Nat->Value)(j:Nat)(o:Oper)(v:Value),l[j]? =some o->vs[j]? =some v->o.dst=some t->
  (∀(k:Nat)o',l[k]? =some o'->k≠j->o'.dst≠some t)->oF U l vs t=v
 | [],_,_,_,_,_,h,_,_,_=>by simp at h
 |_::_,[],_,_,_,_,_,h,_,_=>by simp at h
 |o::l,v::vs,U,0,o',v',ho,hv,hd,hu=>by
  simp at ho hv;subst ho;subst hv;unfold oF
  rw[lF l vs _ (λo' ho=>by
   obtain⟨k,hk⟩:=List.mem_iff_getElem?.1 ho
   exact hu (k+1) o' (by grind) (by omega)),hd]
  show bZ U t v t=v;unfold bZ;rw[Nat.beq_refl];rfl
 |o::l,v::vs,U,j+1,o',v',ho,hv,hd,hu=>by
  unfold oF;exact rk l vs _ j o' v' (by grind) (by grind) hd<|λk o2 hk hne=>hu (k+1) o2 (by grind) (by omega)
def m5(o:Oper)(k:Nat):Bool:=o.after.toList.any λe=>Region.binds .any e&&Nat.beq e.on k
def oG(ops:Array Oper)(o:Oper)(d:Nat):Bool:=(o.looksAt ops).any λt=>Nat.beq t d
def pq(ops:Array Oper)(i:Nat)(o:Oper)(k:Nat)(o':Oper):Bool:=
 Nat.beq i k||match o'.dst with
  |some d=>(match o.dst with|some d2=> !Nat.beq d d2|none=>true)&&(!oG ops o d||(bif Nat.blt k i then m5 o k else m5 o' i))
  |none=>false
def qG(ops:Array Oper)(i:Nat)(o:Oper):Nat->List Oper->Bool
 |_,[]=>true
 |k,o'::l=>pq ops i o k o'&&qG ops i o (k+1) l
def sJ(n:Nat)(ops:Array Oper)(l:List Oper):Nat->List Oper->Bool
 |_,[]=>true
 |i,o::l'=>lE o.op&&(match o.dst with|some d=>Nat.blt d n|none=>false)&&qG ops i o 0 l&&sJ n ops l (i+1) l'
theorem m6{i:Nat}:∀{k:Nat}{l:List Oper},qG ops i o k l=true->∀(j:Nat)o',l[j]? =some o'->pq ops i o (k+j) o'=true
 |_,[],_,j,o',h=>by simp at h
 |k,p::l,hs,0,o',h=>by
  unfold qG at hs;rw[bI]at hs;simp at h;subst h;exact hs.1
 |k,p::l,hs,j+1,o',h=>by
  unfold qG at hs;rw[bI]at hs;have:=m6 hs.2 j o' (by simpa using h);rw[show k+(j+1)=k+1+j by omega];exact this
theorem sK{l0:List Oper}:∀{i:Nat}{l:List Oper},sJ n ops l0 i l=true->∀(j:Nat)o,l[j]? =some o->lE o.op=true/\(∃d,o.dst=some d/\Nat.blt d n=true)/\qG ops (i+j) o 0 l0=true
 |_,[],_,j,o',h=>by simp at h
 |i,p::l,hs,0,o',h=>by
  unfold sJ at hs;simp only[bI]at hs;simp at h;subst h;refine⟨hs.1.1.1,?_,hs.1.2⟩;have:=hs.1.1.2
  cases hd:p.dst with
  |none=>rw[hd]at this;cases this
  |some d=>rw[hd]at this;exact⟨d,rfl,this⟩
 |i,p::l,hs,j+1,o',h=>by
  unfold sJ at hs;simp only[bI]at hs;have:=sK hs.2 j o' (by simpa using h);rw[show i+(j+1)=i+1+j by omega];exact this
theorem gV{D:Nat->Bool}{k:Nat}:∀{l:List Edge},gU D l->(l.any λe=>Region.binds .any e&&Nat.beq e.on k)=true->D k=true
 | [],_,h=>by cases h
 |e::l,hd,h=>by
  rw[List.any_cons,ec,bI]at h
  rcases h with⟨h1,h2⟩|h
  ·have:=hd.1 h1;rwa[cL h2]at this
  ·exact gV hd.2 h
theorem kU{a a':Act}{U σ':Nat->Value}(hs:Sl n U a)(hs':Sl n σ' a')(h:∀t,oG ops o t=true->U t=σ' t)(hsz:∀(g:Nat)o2 d,ops[g]? =some o2->o2.dst=some d->d<n):
  Region.wanted o (yielded ops a.tmps)=Region.wanted o (yielded ops a'.tmps):=by
 unfold Region.wanted;split
 ·rfl
 ·rename_i g want hg;have:yielded ops a.tmps g=yielded ops a'.tmps g:=by
   unfold yielded
   cases ho:ops[g]? with
   |none=>rfl
   |some o2=>
    cases hd:o2.dst with
    |none=>simp[hd]
    |some d=>
     have hlt:=hsz g o2 d ho hd
     have he:=h d (by
      unfold oG Oper.looksAt
      simp_all)
     have h1:=hs.get d;have h2:=hs'.get d;have l1:d<a.tmps.size:=by rw[hs.size];exact hlt
     have l2:d<a'.tmps.size:=by rw[hs'.size];exact hlt
     simp_all
  rw[this]
theorem kV{F:Nat->Oper->Prop}:∀{k:Nat}{l:List Oper},(∀(i:Nat)o,l[i]? =some o->F (k+i) o)->i6 F k l
 |_,[],_=>trivial
 |k,p::l,h=>⟨h 0 p rfl,kV (λi o ho=>by have:=h (i+1) o (by grind);grind)⟩
theorem m7(D:Nat->Bool)(i:Nat):ins D i i=true:=by simp[ins,Nat.beq_refl]
theorem jt{D:Nat->Bool}{i j:Nat}(h:j≠i):ins D i j=D j:=by
 unfold ins
 simp_all
theorem Cj{id:Nat}{l:List Oper}(hm:P.follows .mixedOrders=true)(h:RO P n l.toArray w.drew Q l U)(hdep:lB 0 l=true:=by exact rfl)(hro:sJ n l.toArray l 0 l=true:=by kernel_rfl):RC P n (.region id l.toArray true) U w Q:=by
 intro a0 ha0;have hA:=λj o(ho:l[j]? =some o)=>sK hro j o ho
 obtain⟨vs,hvl,hq,hst⟩:=D7 l U a0 ha0 (λo ho=>by
  grind [List.mem_iff_getElem?]) h
 have hsz:∀(g:Nat)o2 d,l.toArray[g]? =some o2->o2.dst=some d->d<n:=λg o2 d ho hd=>by
  grind [Nat.blt_eq]
 have hdist:∀(i k:Nat)o o' t,l[i]? =some o->l[k]? =some o'->k≠i->o.dst=some t->o'.dst≠some t:=λi k o o' t ho ho' hne hd hd'=>by
  have hp:=m6 (hA i o ho).2.2 k o' ho';unfold pq at hp
  simp_all
 refine Dc (U:=U) (w:=w) hm hdep (λD σ' w'=>w'=w.drew/\(∀(i:Nat)o v t,l[i]? =some o->vs[i]? =some v->o.dst=some t->D i=true->σ' t=v)/\(∀t,(∀(i:Nat)o,l[i]? =some o->o.dst=some t->D i=false)->σ' t=U t)) ?_ ?_ ?_ a0 ha0
 ·simp
 ·refine kV λi o ho=>?_;rw[eN];rintro D σ' w' hD hdeps hcl⟨rfl,hJ1,hJ2⟩;obtain⟨hk,⟨d,hd,hdn⟩,hrow⟩:=hA i o ho;rw[eN]at hrow;have hiv:i<vs.length:=by grind
  obtain⟨ai,hsi,hstp⟩:=hst i o vs[i] ho<|aO hiv
  have hag:∀t,oG l.toArray o t=true->oF U (l.take i) (vs.take i) t=σ' t:=by
   intro t ht
   by_cases hex:∃(k:Nat)(o':Oper),l[k]? =some o'/\o'.dst=some t
   ·obtain⟨k,o',ho',hd'⟩:=hex;have hkv:k<vs.length:=by rw[hvl];exact(aV.1 ho').1
    by_cases hki:k<i
    ·have hp:=m6 hrow k o' ho';rw[eN]at hp;unfold pq at hp;rw[hd',ec]at hp
     rcases hp with hp|hp
     ·have:=cL hp;omega
     simp only[bI,ec,Bool.not_eq_true']at hp;have hp2:=hp.2;rw[ht]at hp2
     rcases hp2 with hp2|hp2
     ·cases hp2
     have hb:Nat.blt k i=true:=by rw[Nat.blt_eq];exact hki
     rw[hb]at hp2;have hDk:=gV hdeps hp2;rw[hJ1 k o' vs[k] t ho' (aO hkv) hd' hDk];refine rk (l.take i) (vs.take i) U k o' vs[k] (by rw[dB,aG hki];exact ho') (by rw[dB,aG hki];exact aO hkv) hd' λk2 o2 hk2 hne=>?_;rw[dB]at hk2;split at hk2
     ·exact hdist k k2 o' o2 t ho' hk2 hne hd'
     ·cases hk2
    ·have hDk:D k=false:=by
      by_cases he:k=i
      ·subst he;exact hD
      ·have hp:=m6 hrow k o' ho';rw[eN]at hp;unfold pq at hp;rw[hd',ec]at hp
       rcases hp with hp|hp
       ·have:=cL hp;omega
       simp only[bI,ec,Bool.not_eq_true']at hp;have hp2:=hp.2;rw[ht]at hp2
       rcases hp2 with hp2|hp2
       ·cases hp2
       have hb:Nat.blt k i=false:=by
        cases hx:Nat.blt k i with
        |false=>rfl
        |true=>rw[Nat.blt_eq]at hx;omega
       rw[hb]at hp2;refine nf λhDk=>?_;have:=gV (hcl k o' ho' hDk) hp2;rw[hD]at this;cases this
     rw[hJ2 t λk2 o2 ho2 hd2=>?_]
     ·refine lF _ _ _ λo2 ho2 hd2=>?_;obtain⟨k2,hk2⟩:=List.mem_iff_getElem?.1 ho2;rw[dB]at hk2;split at hk2
      ·rename_i hlt;exact hdist k k2 o' o2 t ho' hk2 (by omega) hd' hd2
      ·cases hk2
     ·by_cases he:k2=k
      ·subst he;exact hDk
      ·exact absurd hd2<|hdist k k2 o' o2 t ho' ho2 he hd'
   ·rw[hJ2 t λk o' ho' hd'=>absurd ⟨k,o',ho',hd'⟩ hex];refine lF _ _ _ λo2 ho2 hd2=>?_;obtain⟨k2,hk2⟩:=List.mem_iff_getElem?.1 ho2;rw[dB]at hk2;split at hk2
    ·exact hex ⟨k2,o2,hk2,hd2⟩
    ·cases hk2
  intro a' hs';have hrun:execOp a'.eval o=execOp ai.eval o:=execOp_congr o (λcs b e=>by rw[e]at hk;cases hk) λx hx=>by
   rw[hs'.ev,hsi.ev]
   cases x with
   |tmp t=>
    refine(hag t ?_).symm;unfold oG Oper.looksAt;rw[List.any_append,ec];left;rw[i5];exact⟨t,List.mem_filterMap.2 ⟨.tmp t,by simpa using hx,rfl⟩,Nat.beq_refl t⟩
   |_=>rfl
  have hwant:=kU (ops:=l.toArray) (o:=o) hsi hs' hag hsz;have hfin:∀v,vs[i]? =some v->(∀(k:Nat)o2 u t,l[k]? =some o2->vs[k]? =some u->o2.dst=some t->ins D i k=true->bZ σ' d v t=u)/\(∀t,(∀(k:Nat)o2,l[k]? =some o2->o2.dst=some t->ins D i k=false)->bZ σ' d v t=U t):=by
   intro v hv;refine⟨λk o2 u t ho2 hu hd2 hDk=>?_,λt ht=>?_⟩
   ·by_cases he:k=i
    ·subst he;rw[ho]at ho2;injection ho2 with ho2;subst ho2
     rw[hd]at hd2;injection hd2 with hd2;subst hd2
     rw[hv]at hu;injection hu with hu;subst hu
     unfold bZ;rw[Nat.beq_refl];rfl
    ·rw[jt he]at hDk;have hne:t≠d:=λe=>by subst e;exact hdist i k o o2 t ho ho2 he hd hd2
     unfold bZ
     cases hb:Nat.beq t d with
     |true=>exact absurd (cL hb) hne
     |false=>exact hJ1 k o2 u t ho2 hu hd2 hDk
   ·have hne:t≠d:=λe=>by
     subst e;have:=ht i o ho hd;rw[m7]at this;cases this
    unfold bZ
    cases hb:Nat.beq t d with
    |true=>exact absurd (cL hb) hne
    |false=>
     refine hJ2 t λk o2 ho2 hd2=>?_;have:=ht k o2 ho2 hd2
     by_cases he:k=i
     ·subst he;exact hD
     ·rw[jt he]at this;exact this
  unfold wpList
  rcases hstp with⟨hw1,hr1⟩|⟨hw1,hv1⟩
  ·rw[hwant]at hw1;rw[aG hw1];left;unfold Oper.wp;rw[hrun,hr1];refine⟨bZ σ' d vs[i],?_,rfl,rfl,hfin _<|aO hiv⟩;rw[hd];exact hs'.put hdn _
  ·rw[hwant]at hw1;rw[aI (by rw[hw1];exact Bool.false_ne_true)];refine⟨bZ σ' d undef,?_,rfl,rfl,hfin _ (by rw[<-hv1];exact aO hiv)⟩;rw[hd];exact hs'.put hdn _
 ·rintro D σ' w' hall⟨rfl,hJ1,hJ2⟩;have:σ'=oF U l vs:=by
   funext t
   by_cases hex:∃(k:Nat)(o':Oper),l[k]? =some o'/\o'.dst=some t
   ·obtain⟨k,o',ho',hd'⟩:=hex;have hkl:=(aV.1 ho').1;have hkv:k<vs.length:=by rw[hvl];exact hkl
    rw[hJ1 k o' vs[k] t ho' (aO hkv) hd'<|hall k hkl];exact(rk l vs U k o' vs[k] ho' (aO hkv) hd' λk2 o2 hk2 hne=>hdist k k2 o' o2 t ho' hk2 hne hd').symm
   ·rw[hJ2 t λk o' ho' hd'=>absurd ⟨k,o',ho',hd'⟩ hex];refine(lF _ _ _ λo2 ho2 hd2=>?_).symm;obtain⟨k2,hk2⟩:=List.mem_iff_getElem?.1 ho2;exact hex ⟨k2,o2,hk2,hd2⟩
  rw[this];exact hq
end
def yj:List (Nat×Value)->Nat->Value
 | [],_=>undef
 |(d,v)::r,t=>bif Nat.beq d t then v else yj r t
def wk:List (Nat×Nat×Value)->List (Nat×Value)->Nat->Value
 | [],ag,t=>yj ag t
 |(_,d,v)::r,ag,t=>bif Nat.beq d t then v else wk r ag t
def yF(dv:List (Nat×Nat×Value))(ag:List (Nat×Value)):Operand->Value
 | .tmp t=>wk dv ag t
 | .const v=>v
 | .global g=> .pointer (some ⟨g,0,none⟩)
 | .func f=> .func (.func f) #[] #[]
def ov(ops:Array Oper)(o:Oper):Operand->Bool
 | .tmp t=>oG ops o t
 |_=>true
def Pu(P:Program)(n:Nat)(ops:Array Oper)(o:Oper)(dv:List (Nat×Nat×Value))(ag:List (Nat×Value)):Prop:=
 ∀(U:Nat->Value)(w:World),(∀q,ov ops o q=true->ev U q=yF dv ag q)->RL P n ops [o] U w (λex σ' w'=>ex = .normal/\w'=w/\∃d,o.dst=some d/\σ'=bZ U d (wk dv ag d))
section
variable {P:Program}{n:Nat}{ops:Array Oper}{U:Nat->Value}{w:World}{d:Nat}{v u:Value}{rest:List Oper}{ty T T':TypeId}{pos:String}{af:Array Edge}{g:Option (Nat×Bool)}{x y z:Operand}{Q:dC}
theorem Eh(h:v=u):RL P n ops [] (bZ U d v) w (λex σ' w'=>ex = .normal/\w'=w/\∃d',(some d:Option Nat)=some d'/\σ'=bZ U d' (bif Nat.beq d d' then u else undef)):=
 by grind [i_,Nat.beq_refl]
theorem Di{f:Nat->Value}(h:v=f d):RL P n ops [] (bZ U d v) w (λex σ' w'=>ex = .normal/\w'=w/\∃d',(some d:Option Nat)=some d'/\σ'=bZ U d' (f d')):=
 by grind [i_]
theorem Wn.k{j t:Nat}{b:Bool}(h1:(ops[j]?).bind (·.dst)=some t)(h:ev U (.tmp t) = .bool b):Wn ops U (some (j,b)):=⟨t,h1,h⟩
theorem Wn.h{j t:Nat}{a b:Bool}(h1:(ops[j]?).bind (·.dst)=some t)(h:ev U (.tmp t) = .bool a)(e:a=b):Wn ops U (some (j,b)):=⟨t,h1,by rw[<-e];exact h⟩
end
def mn:List (Nat×Nat×Value)->Nat->Option Nat
 | [],_=>none
 |(k,d,_)::r,t=>bif Nat.beq d t then some k else mn r t
def uY(ag:List (Nat×Value))(t:Nat):Bool:=ag.any λp=>Nat.beq p.1 t
def yG(ops:Array Oper)(i:Nat)(o:Oper)(cs:List Nat)(dv:List (Nat×Nat×Value))(ag:List (Nat×Value))(od:List (Nat×Nat×Value)):Bool:=
 ((o.looksAt ops).all λt=>match mn dv t with|some k=>m5 o k|none=>uY ag t)&&
 (match o.dst with
  |some d=>Nat.beq (mn dv d).isNone.toNat 0&&(dv.all λe=>(!Nat.beq e.1 i||Nat.beq e.2.1 d)&&(!Nat.beq e.2.1 d||Nat.beq e.1 i))&&Nat.beq (dv.filter λe=>Nat.beq e.2.1 d).length 1&& !uY ag d&&
    (od.all λe=>Nat.beq e.1 i|| !Nat.beq e.2.1 d)
  |none=>false)&&(cs.all λc=> !Nat.beq c i)&& !Nat.beq i 999
def sL(ops:Array Oper)(cs:List Nat)(dv:List (Nat×Nat×Value))(ag:List (Nat×Value))(od:List (Nat×Nat×Value)):Nat->List Oper->List Nat->Bool
 |_,[],_=>true
 |_,_::_,[]=>false
 |i,o::l,m::ms=>(!Nat.beq m 1||yG ops i o cs dv ag od)&&sL ops cs dv ag od (i+1) l ms
theorem sM{ops:Array Oper}{cs:List Nat}{dv:List (Nat×Nat×Value)}{ag:List (Nat×Value)}{od:List (Nat×Nat×Value)}:∀{i:Nat}{l:List Oper}{ms:List Nat},sL ops cs dv ag od i l ms=true->
  ∀(j:Nat)o,l[j]? =some o->ms[j]? =some 1->yG ops (i+j) o cs dv ag od=true
 |_,[],_,_,j,o,h,_=>by simp at h
 |_,_::_,[],h0,_,_,_,h=>by simp at h
 |i,p::l,m::ms,h0,0,o,h,hm=>by
  unfold sL at h0;rw[bI]at h0;simp at h hm;subst h;subst hm
  rcases ec _ _▸h0.1 with h|h
  ·cases h
  ·exact h
 |i,p::l,m::ms,h0,j+1,o,h,hm=>by
  unfold sL at h0;rw[bI]at h0;have:=sM h0.2 j o (by simpa using h) (by grind);rw[show i+(j+1)=i+1+j by omega];exact this
theorem nT{ag:List (Nat×Value)}{t k:Nat}:∀{dv:List (Nat×Nat×Value)},mn dv t=some k->∃v,(k,t,v)∈dv/\wk dv ag t=v
 | [],h=>by cases h
 |(k',d,v)::r,h=>by
  unfold mn at h;unfold wk
  cases hb:Nat.beq d t with
  |true=>
   rw[hb]at h;simp at h;subst h;have:=cL hb;subst this;exact⟨v,by simp,rfl⟩
  |false=>
   rw[hb]at h;obtain⟨u,h1,h2⟩:=nT (ag:=ag) h;exact⟨u,by simp[h1],h2⟩
theorem pr{ag:List (Nat×Value)}{t:Nat}:∀{dv:List (Nat×Nat×Value)},mn dv t=none->wk dv ag t=yj ag t
 | [],_=>rfl
 |(k',d,v)::r,h=>by
  unfold mn at h;unfold wk
  cases hb:Nat.beq d t with
  |true=>rw[hb]at h;cases h
  |false=>rw[hb]at h;exact pr h
theorem cF.mem{D:Nat->Bool}{U:Nat->Value}{k t:Nat}{v:Value}:∀{dv:List (Nat×Nat×Value)},cF D U dv->(k,t,v)∈dv->D k=true->U t=v
 | [],_,h,_=>by cases h
 |(i,d,u)::r,hd,h,hD=>by
  rcases eE.1 h with e|h
  ·injection e with e1 e2;injection e2 with e2 e3;subst e1;subst e2;subst e3;exact hd.1 hD
  ·exact hd.2.mem h hD
theorem cF.of{D:Nat->Bool}{U:Nat->Value}:∀{dv:List (Nat×Nat×Value)},(∀k t v,(k,t,v)∈dv->D k=true->U t=v)->cF D U dv
 | [],_=>trivial
 |(i,d,u)::r,h=>⟨h i d u (by simp),cF.of λk t v hm=>h k t v (by simp[hm])⟩
theorem agree.yj{U:Nat->Value}{t:Nat}:∀{ag:List (Nat×Value)},agree U ag->uY ag t=true->U t=yj ag t
 | [],_,h=>by cases h
 |(d,v)::r,ha,h=>by
  unfold Gk.yj
  cases hb:Nat.beq d t with
  |true=>have:=cL hb;subst this;exact ha.1
  |false=>
   unfold uY at h;rw[List.any_cons,hb]at h;exact agree.yj ha.2 h
theorem agree.Bw{U:Nat->Value}{d:Nat}{v:Value}:∀{ag:List (Nat×Value)},agree U ag->uY ag d=false->agree (bZ U d v) ag
 | [],_,_=>trivial
 |(t,u)::r,ha,h=>by
  unfold uY at h;rw[List.any_cons,Bool.or_eq_false_iff]at h;refine⟨?_,agree.Bw ha.2 h.2⟩;unfold bZ;rw[h.1];exact ha.1
theorem C6{P:Program}{n:Nat}{U:Nat->Value}{w:World}(E:World){Q:dC}(V:List HP){X:Type}{id:Nat}{l:List Oper}(hm:P.follows .mixedOrders=true)(hdep:lB 0 l=true)(ms cs:List Nat)(dv:X->List (Nat×Nat×Value))(ag:List (Nat×Value))(od:List (Nat×Nat×Value))(g:(Nat->Bool)->X->List HP)(hpu:∀x,sL l.toArray cs (dv x) ag od 0 l ms=true)(h0:∃x,cF (λ_=>false) U (dv x)/\agree U ag/\kx (λ_=>false) U od/\Holds E w.drew (g (λq=>(λ_=>false) (cs.getD q 999)) x++V))(step:i6 (λi o=>bif Nat.beq (ms.getD i 0) 1 then(∀x,Pu P n l.toArray o (dv x) ag)else
   (∀D U w,D i=false->gU D o.after.toList->kP l D->(∃x,cF D U (dv x)/\agree U ag/\kx D U od/\Holds E w (g (λq=>D (cs.getD q 999)) x++V))->
    RL P n l.toArray [o] U w (λex U w=>ex = .normal/\∃x,cF (ins D i) U (dv x)/\agree U ag/\kx (ins D i) U od/\Holds E w (g (λq=>ins D i (cs.getD q 999)) x++V)))) 0 l) (hend:∀D U w,(∀i,i<l.length->D i=true)->(∃x,cF D U (dv x)/\agree U ag/\kx D U od/\Holds E w (g (λq=>D (cs.getD q 999)) x++V))->Q .normal U w):RC P n (.region id l.toArray true) U w Q:=by
 refine Dc hm hdep (λD U w=>∃x,cF D U (dv x)/\agree U ag/\kx D U od/\Holds E w (g (λq=>D<|cs.getD q 999) x++V)) h0 ?_ hend;refine kV λi o ho=>?_;have hs:=step.at i o ho;rw[eN]at hs ⊢
 cases hmi:Nat.beq (ms.getD i 0) 1 with
 |false=>grind
 |true=>
  rw[hmi]at hs;have hs:∀x,Pu P n l.toArray o (dv x) ag:=hs;have hms:ms[i]? =some 1:=by
   grind [cL]
  rintro D U w hD hdeps hcl⟨x,hv,ha,hod,hw⟩;have hok:=sM (hpu x) i o ho hms;rw[eN]at hok;unfold yG at hok;simp only[bI]at hok;obtain⟨⟨⟨h1,h2⟩,h3⟩,h4⟩:=hok;have hsee:∀q,ov l.toArray o q=true->ev U q=yF (dv x) ag q:=by
   intro q hq
   cases q with
   |tmp t=>
    have ht:t∈o.looksAt l.toArray:=by
     grind [ov,oG,i5,cL]
    have h1t:=gp.1 h1 t ht;show U t=wk (dv x) ag t
    cases hf:mn (dv x) t with
    |some k=>
     rw[hf]at h1t;obtain⟨v,hm,hv2⟩:=nT (ag:=ag) hf;rw[hv2];exact hv.mem hm<|gV hdeps h1t
    |none=>
     rw[hf]at h1t;rw[pr hf];exact ha.yj h1t
   |const v=>rfl
   |global g=>rfl
   |func f=>rfl
  have hrun:=hs x U w hsee;intro a haa;have hr:=hrun a haa
  cases hdst:o.dst with
  |none=>rw[hdst]at h2;cases h2
  |some d=>
   rw[hdst]at h2;simp only[bI]at h2;obtain⟨⟨⟨⟨e1,e2⟩,e3⟩,e4⟩,e5⟩:=h2;obtain⟨k0,hf⟩:∃k,mn (dv x) d=some k:=by
    cases hf:mn (dv x) d with
    |some k=>exact⟨k,rfl⟩
    |none=>rw[hf]at e1;cases e1
   obtain⟨v,hmv,hv2⟩:=nT (ag:=ag) hf;have fin:∀σ',σ'=bZ U d v->∃x,cF (ins D i) σ' (dv x)/\agree σ' ag/\kx (ins D i) σ' od/\Holds E w (g (λq=>ins D i<|cs.getD q 999) x++V):=by
    rintro σ' rfl
    refine⟨x,cF.of λk t u hm hDk=>?_,ha.Bw (by simpa using e4),hod.up (by
     rw[gp];intro e he;have:=gp.1 e5 e he
     exact this),?_⟩
    ·have he:=gp.1 e2 (k,t,u) hm;simp only[bI,ec,Bool.not_eq_true']at he
     by_cases htd:t=d
     ·subst htd;have hlen:=cL e3;have hm1:(k,t,u)∈(dv x).filter λe=>Nat.beq e.2.1 t:=by rw[iY];exact⟨hm,Nat.beq_refl t⟩
      have hm2:(k0,t,v)∈(dv x).filter λe=>Nat.beq e.2.1 t:=by rw[iY];exact⟨hmv,Nat.beq_refl t⟩
      obtain⟨z,hz⟩:=List.length_eq_one_iff.1 hlen;rw[hz]at hm1 hm2;simp at hm1 hm2;have:=hm1.trans hm2.symm;injection this with _ this;injection this with _ this
      subst this;unfold bZ;rw[Nat.beq_refl];rfl
     ·have hki:k≠i:=λe=>by
       subst e
       rcases he.1 with h|h
       ·rw[Nat.beq_refl]at h;cases h
       ·exact htd<|cL h
      rw[jt hki]at hDk;unfold bZ
      cases hb:Nat.beq t d with
      |true=>exact absurd (cL hb) htd
      |false=>exact hv.mem hm hDk
    ·have:(λq=>ins D i<|cs.getD q 999)=(λq=>D<|cs.getD q 999):=by
      funext q;refine jt λe=>?_;rw[List.getD_eq_getElem?_getD]at e
      cases hq:cs[q]? with
      |some c=>
       rw[hq]at e;have hc:=gp.1 h3 c<|dX hq
       have e:c=i:=e;subst e;rw[Nat.beq_refl]at hc;cases hc
      |none=>
       rw[hq]at e;have e:999=i:=e;subst e;cases h4
     rw[this];exact hw
   unfold wpList at hr ⊢;split at hr
   ·rename_i hwn;rw[aG hwn]
    rcases hr with hr|⟨h2,h3⟩
    ·refine .inl<|pf (λa w' h=>?_) (λc a w' h=>?_) (λh=>?_) hr
     ·obtain⟨σ',hs',_,hw',d',hd',he⟩:=h;have hd':some d=some d':=by rw[<-hdst];exact hd'
      injection hd' with hd';subst hd'
      have hw':w'=w:=hw';subst hw';exact⟨σ',hs',rfl,fin σ' (by rw[he,hv2])⟩
     ·obtain⟨_,_,hbad,_⟩:=h;cases hbad
     ·obtain⟨_,_,_,_,hbad,_⟩:=h;cases hbad
    ·obtain⟨_,_,_,_,hbad,_⟩:=h3;cases hbad
   ·rename_i hwn;rw[aI hwn];obtain⟨σ',hs',_,hw',d',hd',he⟩:=hr;have hd':some d=some d':=by rw[<-hdst];exact hd'
    injection hd' with hd';subst hd'
    exact⟨σ',hs',rfl,fin σ' (by rw[he,hv2])⟩
section
variable {P:Program}{n:Nat}{ops:Array Oper}{d:Nat}{v u:Value}{ty T T' t0:TypeId}{pos:String}{af:Array Edge}{g:Option (Nat×Bool)}{q r y z:Operand}{dv:List (Nat×Nat×Value)}{ag:List (Nat×Value)}{a b:Bool}{o:Oper}
def PG(ops:Array Oper)(o:Oper)(dv:List (Nat×Nat×Value))(ag:List (Nat×Value))(g:Option (Nat×Bool)):Prop:=∀U:Nat->Value,(∀q,ov ops o q=true->ev U q=yF dv ag q)->Wn ops U g
theorem gn:PG ops o dv ag none:=λ_ _=>trivial
theorem sN(hg:PG ops ⟨some d, .move q,ty,pos,af,g⟩ dv ag g)(h:(Nat.blt d n,ov ops ⟨some d, .move q,ty,pos,af,g⟩ q,yF dv ag q)=(true,true,wk dv ag d):=by exact rfl):Pu P n ops ⟨some d, .move q,ty,pos,af,g⟩ dv ag:=λU w hs=>by
 injection h with h1 h;injection h with h2 h3
 exact By (hd:=h1) (hx:=hs _ h2) _ (hg U hs)<|Di h3
theorem uZ{c o' j m:Nat}(hg:PG ops ⟨some d, .fieldAddr T q j,ty,pos,af,g⟩ dv ag g)(hf:md P T j m)(h:(Nat.blt d n,ov ops ⟨some d, .fieldAddr T q j,ty,pos,af,g⟩ q,yF dv ag q,wk dv ag d)=(true,true, .pointer<|some ⟨c,o',none⟩, .pointer<|some ⟨c,o'+m,none⟩):=by exact rfl):
  Pu P n ops ⟨some d, .fieldAddr T q j,ty,pos,af,g⟩ dv ag:=λU w hs=>by
 injection h with h1 h;injection h with h2 h;injection h with h3 h4
 exact h_ (hg:=hg U hs) (hd:=h1) ((hs _ h2).trans h3) hf<|Di h4.symm
theorem Al{bop:BinOp}{K:IntKind}{m k:Int}(hg:PG ops ⟨some d, .binOp bop T q r T',ty,pos,af,g⟩ dv ag g)
  (h:(Nat.blt d n,ov ops ⟨some d, .binOp bop T q r T',ty,pos,af,g⟩ q,ov ops ⟨some d, .binOp bop T q r T',ty,pos,af,g⟩ r,yF dv ag q,yF dv ag r,xn bop,wk dv ag d)=(true,true,true, .int K m, .int K k,true, .int K<|K.wrap<|iQ bop m k)):
  Pu P n ops ⟨some d, .binOp bop T q r T',ty,pos,af,g⟩ dv ag:=λU w hs=>by
 injection h with h1 h;injection h with h2 h;injection h with h3 h;injection h with h4 h;injection h with h5 h;injection h with h6 h7
 exact y_ (hg:=hg U hs) (hd:=h1) (hx:=(hs _ h2).trans h4) (hy:=(hs _ h3).trans h5) (hc:=h6) _ _<|Di h7.symm
end
def jB(o:Oper)(U:Nat->Value)(v:Value):Nat->Value:=match o.dst with|some d=>bZ U d v|none=>U
def pw(acc:List Nat):List Edge->Nat
 | []=>0
 |e::r=>bif Region.binds .any e then Nat.lor (Nat.lor (Nat.shiftLeft 1 e.on) (acc.getD e.on 0)) (pw acc r)else pw acc r
def tU:List Oper->List Nat->List Nat
 | [],acc=>acc
 |o::l,acc=>tU l (acc++[pw acc o.after.toList])
def wm(l:List Oper)(i:Nat)(rest:List Nat):Bool:=(List.range l.length).all λk=>Nat.beq k i||(rest.any λq=>Nat.beq q k)||Nat.testBit ((tU l []).getD i 0) k
section
variable {P:Program}{n:Nat}{l:List Oper}{mk:List Nat}{Q:dC}{U:Nat->Value}{w:World}{i:Nat}{rest:List Nat}{o:Oper}
def DP(P:Program)(n:Nat)(l:List Oper)(mk:List Nat)(Q:dC):(World->Prop)->List Nat->(Nat->Value)->World->Prop
 |_,[],U,w=>Q .normal U w
 |S,i::rest,U,w=>∃o,l[i]? =some o/\
  ((mk.getD i 0=0/\RL P n l.toArray [o] U w (λex σ' w'=>ex = .normal/\w'=w/\DP P n l mk Q S rest σ' w))\/
   (mk.getD i 0=1/\∃v,∃S1:World->Prop,(∀w2,S1 w2->S w2)/\(S w->S1 w)/\(∀w',S1 w'->RL P n l.toArray [o] U w' (λex σ' w''=>ex = .normal/\w''=w'/\σ'=jB o U v))/\DP P n l mk Q S1 rest (jB o U v) w)\/
   (mk.getD i 0=2/\∃S1:World->Prop,((∀w2,S1 w2->S w2)\/wm l i rest=true)/\RL P n l.toArray [o] U w (λex σ' w'=>ex = .normal/\S1 w'/\DP P n l mk Q S1 rest σ' w'))\/
   (mk.getD i 0=3/\∃T q b m row e ag k,o.op = .load T q/\ev U q = .pointer (some ⟨b,m,none⟩)/\j6 P T ag k/\m+k<=row.size/\m<row.size/\w.heap[b]? =some (.cells row e (0,0))/\
    RL P n l.toArray [o] U w (λex σ' w'=>ex = .normal/\w'=w/\DP P n l mk Q (λw2=>S w2/\w2.heap[b]? =some (.cells row e (0,0))) rest σ' w)))
section
variable {S:World->Prop}
theorem Ce(ho:l[i]? =some o)(hm:mk.getD i 0=0)(h:RL P n l.toArray [o] U w (λex σ' w'=>ex = .normal/\w'=w/\DP P n l mk Q S rest σ' w)):DP P n l mk Q S (i::rest) U w:=⟨o,ho, .inl ⟨hm,h⟩⟩
theorem CI(v:Value)(ho:l[i]? =some o)(hm:mk.getD i 0=1)(h1:∀w',RL P n l.toArray [o] U w'<|λex σ' w''=>ex = .normal/\w''=w'/\σ'=jB o U v)(h:DP P n l mk Q S rest (jB o U v) w):DP P n l mk Q S (i::rest) U w:=⟨o,ho, .inr<|.inl ⟨hm,v,S,λ_ h=>h,λh=>h,λw' _=>h1 w',h⟩⟩
theorem D8(v:Value)(ho:l[i]? =some o)(hm:mk.getD i 0=1)(h1:∀w',S w'->RL P n l.toArray [o] U w' (λex σ' w''=>ex = .normal/\w''=w'/\σ'=jB o U v))(h:DP P n l mk Q S rest (jB o U v) w):DP P n l mk Q S (i::rest) U w:=⟨o,ho, .inr<|.inl ⟨hm,v,S,λ_ h=>h,λh=>h,h1,h⟩⟩
theorem D9(v:Value)(S1:World->Prop)(hS:∀w2,S1 w2->S w2)(hS':S w->S1 w)(ho:l[i]? =some o)(hm:mk.getD i 0=1)(h1:∀w',S1 w'->RL P n l.toArray [o] U w' (λex σ' w''=>ex = .normal/\w''=w'/\σ'=jB o U v))(h:DP P n l mk Q S1 rest (jB o U v) w):DP P n l mk Q S (i::rest) U w:=⟨o,ho, .inr<|.inl ⟨hm,v,S1,hS,hS',h1,h⟩⟩
theorem Dj(ho:l[i]? =some o)(hm:mk.getD i 0=2)(h:RL P n l.toArray [o] U w (λex σ' w'=>ex = .normal/\S w'/\DP P n l mk Q S rest σ' w')):DP P n l mk Q S (i::rest) U w:=⟨o,ho, .inr<|.inr<|.inl ⟨hm,S, .inl λ_ h=>h,h⟩⟩
theorem Ei{T e:TypeId}{q:Operand}{b m k:Nat}{row:Array Value}{ag:Bool}(ho:l[i]? =some o)(hm:mk.getD i 0=3)(hop:o.op = .load T q)(hp:ev U q = .pointer (some ⟨b,m,none⟩))(hT:j6 P T ag k)(hh:w.heap[b]? =some (.cells row e (0,0))/\m+k<=row.size/\m<row.size)
  (h:RL P n l.toArray [o] U w (λex σ' w'=>ex = .normal/\w'=w/\DP P n l mk Q (λw2=>S w2/\w2.heap[b]? =some (.cells row e (0,0))) rest σ' w)):DP P n l mk Q S (i::rest) U w:=
 ⟨o,ho, .inr<|.inr<|.inr ⟨hm,T,q,b,m,row,e,ag,k,hop,hp,hT,hh.2.1,hh.2.2,hh.1,h⟩⟩
theorem CB(h:Q .normal U w):DP P n l mk Q S [] U w:=by grind [DP]
theorem Ct{ops:Array Oper}(h:DP P n l mk Q S rest U w):RL P n ops [] U w (λex σ' w'=>ex = .normal/\w'=w/\DP P n l mk Q S rest σ' w):=by grind [i_]
theorem CE{ops:Array Oper}(hS:S w)(h:DP P n l mk Q S rest U w):RL P n ops [] U w (λex σ' w'=>ex = .normal/\S w'/\DP P n l mk Q S rest σ' w'):=by grind [i_]
theorem CQ{ops:Array Oper}{σ0:Nat->Value}(h:U=σ0:=by exact rfl):RL P n ops [] U w (λex σ' w'=>ex = .normal/\w'=w/\σ'=σ0):=by grind [i_]
end
end
section
variable {P:Program}{n:Nat}{ops:Array Oper}{U:Nat->Value}{w:World}{o:Oper}
theorem rm{a:Act}{d:Nat}{C:(Nat->Value)->Prop}(hs:Sl n U a)(hk:lE o.op=true)(hd:o.dst=some d)(hdn:Nat.blt d n=true)
  (h:RL P n ops [o] U w (λex σ' w'=>ex = .normal/\w'=w/\C σ')):∃v,r5 P ops w a o v/\C (bZ U d v):=by
 have h1:=h a hs;unfold wpList at h1;split at h1
 ·rename_i hw
  rcases h1 with h1|⟨_,h1⟩
  ·unfold Oper.wp at h1
   cases hr:(execOp a.eval o).run P w with
   |ok nx w'=>
    rw[hr]at h1;obtain⟨v,rfl⟩:=sI hk hr;obtain⟨σ',hs',_,hw',hrest⟩:=h1;have hw':w'=w:=hw';subst hw';rw[hd]at hs';have:=hs'.uniq<|hs.put hdn v
    subst this;exact⟨v, .inl ⟨hw,hr⟩,hrest⟩
   |halt x w'=>
    rw[hr]at h1
    cases x with
    |panic v=>obtain⟨_,_,hbad,_⟩:=h1;cases hbad
    |_=>exact h1.elim
  ·obtain⟨_,_,_,_,hbad,_⟩:=h1;cases hbad
 ·rename_i hw;obtain⟨σ',hs',_,_,hrest⟩:=h1;rw[hd]at hs';have:=hs'.uniq<|hs.put hdn undef
  subst this;exact⟨undef, .inr ⟨by grind,rfl⟩,hrest⟩
end
theorem sO{P:Program}{w:World}{b k:Nat}{row:Array Value}{e:TypeId}(h:w.heap[b]? =some (.cells row e (0,0)))(hk:k<row.size):(load ⟨b,k,none⟩).run P w = .ok row[k] w:=by
 have hc:w.cell? ⟨b,k,none⟩=some row[k]:=by rw[cell_of_row w b _ _ _ _ h];simp[hk]
 simp_all
theorem qH{P:Program}{b k:Nat}{row:Array Value}{e:TypeId}:∀(n i:Nat)(acc:Array Value),k+i+n<=row.size->∃cs,∀w:World,w.heap[b]? =some (.cells row e (0,0))->(loadCellsFrom ⟨b,k,none⟩ i n acc).run P w = .ok cs w
 | 0,i,acc,_=>⟨acc,λw _=>rfl⟩
 |n+1,i,acc,h=>by
  obtain⟨cs,hcs⟩:=qH (P:=P) (b:=b) (k:=k) (row:=row) (e:=e) n (i+1) (acc.push<|row[k+i]'(by omega)) (by omega);refine⟨cs,λw hw=>?_⟩;unfold loadCellsFrom;have hl:=sO (P:=P) (k:=k+i) hw (by omega);rw[aJ,Addr.add_lit,hl];exact hcs w hw
theorem sP{P:Program}{b k m:Nat}{row:Array Value}{e T:TypeId}{ag:Bool}(hT:j6 P T ag m)(h1:k+m<=row.size)(h2:k<row.size):∃v,∀w:World,w.heap[b]? =some (.cells row e (0,0))->(loadVar T ⟨b,k,none⟩).run P w = .ok v w:=by
 cases ag with
 |false=>
  refine⟨row[k],λw hw=>?_⟩;unfold loadVar;rw[aJ,hT.yt];exact sO hw h2
 |true=>
  obtain⟨cs,hcs⟩:=qH (P:=P) (b:=b) (k:=k) (row:=row) (e:=e) m 0 #[] (by omega);refine⟨.agg cs,λw hw=>?_⟩;unfold loadVar;rw[aJ,hT.yt];simp only[Result.andThen,if_true];rw[aJ,hT.sz]
  simp_all[Result.andThen,aJ,loadCells]
theorem wo{P:Program}{ops:Array Oper}{w w2:World}{a:Act}{n:Nat}{U:Nat->Value}{o:Oper}{T e0:TypeId}{q:Operand}{b m k:Nat}{v:Value}{row:Array Value}{ag:Bool}(hs:Sl n U a)(ho:o.op = .load T q)(hp:ev U q = .pointer (some ⟨b,m,none⟩))
  (hT:j6 P T ag k) (h1:m+k<=row.size) (h2:m<row.size) (hw:w.heap[b]? =some (.cells row e0 (0,0))) (hw2:w2.heap[b]? =some (.cells row e0 (0,0))) (hst:r5 P ops w a o v):r5 P ops w2 a o v:=by
 rcases hst with⟨h3,h4⟩|h3
 ·refine .inl ⟨h3,?_⟩;obtain⟨dst,op,ty,pos,af,g⟩:=o;have ho:op = .load T q:=ho;subst ho;have e:∀w,(execOp a.eval ⟨dst, .load T q,ty,pos,af,g⟩).run P w=((loadVar T ⟨b,m,none⟩).run P w).andThen λv w=> .ok (.value v) w:=λw=>by
   simp only[execOp,hs.ev,hp,Instr.loadAt,Instr.sureAddr,aJ,aL,aK]
  rw[e]at h4 ⊢;obtain⟨u,hu⟩:=sP (b:=b) (e:=e0) hT h1 h2
  simp_all
 ·exact .inr h3
def fT(l:List Oper)(U:Nat->Value):List Nat->List Value->(Nat->Value)
 |i::is,v::vs=>fT l (match l[i]? with|some o=>jB o U v|none=>U) is vs
 |_,_=>U
section
variable {l:List Oper}
theorem ow(U:Nat->Value):∀(is js:List Nat)(vs us:List Value),vs.length=is.length->fT l U (is++js) (vs++us)=fT l (fT l U is vs) js us
 | [],js,[],us,_=>rfl
 |i::is,js,v::vs,us,h=>by
  rw[List.cons_append,List.cons_append];unfold fT;rw[ow _ is js vs us (by simpa using h)]
  cases js <;> cases us <;> rfl
 | [],_,_::_,_,h=>by cases h
 |_::_,_,[],_,h=>by cases h
theorem rn{o:Oper}{U:Nat->Value}{v:Value}{t:Nat}(h:o.dst≠some t):jB o U v t=U t:=by
 unfold jB
 cases hd:o.dst with
 |none=>rfl
 |some d=>
  grind [bZ,Nat.beq,cL]
theorem uD{o:Oper}{U:Nat->Value}{v:Value}{t:Nat}(h:o.dst=some t):jB o U v t=v:=by
 simp_all[jB,bZ,Nat.beq_refl]
theorem ky{t:Nat}:∀(is:List Nat)(vs:List Value)(U:Nat->Value),(∀i∈is,∀o,l[i]? =some o->o.dst≠some t)->fT l U is vs t=U t
 | [],_,U,_=>rfl
 |_::_,[],U,_=>rfl
 |i::is,v::vs,U,h=>by
  unfold fT;rw[ky is vs _<|λj hj=>h j (by simp[hj])]
  cases ho:l[i]? with
  |none=>rfl
  |some o=>exact rn (h i (by simp) o ho)
theorem rp{t:Nat}:∀(is:List Nat)(vs:List Value)(U:Nat->Value)(j i:Nat)(o:Oper)(v:Value),is[j]? =some i->vs[j]? =some v->l[i]? =some o->o.dst=some t->
  (∀(k:Nat)i' o',is[k]? =some i'->l[i']? =some o'->k≠j->o'.dst≠some t)->fT l U is vs t=v
 | [],_,_,_,_,_,_,h,_,_,_,_=>by simp at h
 |_::_,[],_,_,_,_,_,_,h,_,_,_=>by simp at h
 |i0::is,v0::vs,U,0,i,o,v,hi,hv,ho,hd,hu=>by
  simp at hi hv;subst hi;subst hv;unfold fT
  rw[ky is vs _ (λj hj o' ho'=>by
   obtain⟨k,hk⟩:=List.mem_iff_getElem?.1 hj
   exact hu (k+1) j o' (by grind) ho' (by omega)),ho]
  exact uD hd
 |i0::is,v0::vs,U,j+1,i,o,v,hi,hv,ho,hd,hu=>by
  unfold fT;exact rp is vs _ j i o v (by grind) (by grind) ho hd<|λk i2 o2 hk ho2 hne=>hu (k+1) i2 o2 (by grind) ho2 (by omega)
end
inductive jO (l:List Oper):Nat->Nat->Prop
 |edge {i k:Nat} {o:Oper}:l[i]? =some o->m5 o k=true->jO l i k
 |trans {i j k:Nat}:jO l i j->jO l j k->jO l i k
theorem jO.first{l:List Oper}{i k:Nat}(h:jO l i k):∃o j,l[i]? =some o/\m5 o j=true/\(j=k\/jO l j k):=by
 induction h with
 |edge ho he=>grind
 |trans h1 h2 ih1 ih2=>
  obtain⟨o,j,ho,he,hr⟩:=ih1
  rcases hr with rfl|hr
  ·grind
  ·exact⟨o,j,ho,he, .inr<|hr.trans h2⟩
theorem jO.done{l:List Oper}{D:Nat->Bool}(hcl:kP l D){i k:Nat}(h:jO l i k):(∃o,l[i]? =some o/\gU D o.after.toList)->D k=true:=by
 induction h with
 |edge ho he=>
  rintro⟨o2,ho2,hd⟩;rw[ho]at ho2;injection ho2 with ho2;subst ho2
  exact gV hd he
 |trans h1 h2 ih1 ih2=>
  intro hd;have hj:=ih1 hd;obtain⟨o,_,ho,_,_⟩:=h2.first;exact ih2 ⟨o,ho,hcl _ o ho hj⟩
def Sound(l:List Oper)(acc:List Nat):Prop:=∀i k,Nat.testBit (acc.getD i 0) k=true->jO l i k
theorem px{l:List Oper}{acc:List Nat}{i k:Nat}{o:Oper}(hs:Sound l acc)(ho:l[i]? =some o):∀(es:List Edge),(∀e∈es,e∈o.after.toList)->Nat.testBit (pw acc es) k=true->jO l i k
 | [],_,h=>by unfold pw at h;simp at h
 |e::r,hm,h=>by
  unfold pw at h
  cases hb:Region.binds .any e with
  |false=>rw[hb]at h;exact px hs ho r (λe he=>hm e (by simp[he])) h
  |true=>
   rw[hb]at h;have h:Nat.testBit (((1 <<< e.on)|||acc.getD e.on 0)|||pw acc r) k=true:=h;rw[Nat.testBit_or,Nat.testBit_or,ec,ec]at h;have hedge:∀k,e.on=k->m5 o k=true:=λk hk=>by
    subst hk;unfold m5;rw[i5];exact⟨e,hm e (by simp),by simp_all⟩
   rcases h with(h|h)|h
   ·rw[Nat.one_shiftLeft,Nat.testBit_two_pow,eY]at h;exact .edge ho<|hedge k h
   ·exact .trans (.edge ho<|hedge e.on rfl)<|hs e.on k h
   ·exact px hs ho r (λe he=>hm e (by simp[he])) h
theorem uE:∀(l l0:List Oper)(acc:List Nat),(∀(j:Nat),l[j]? =l0[acc.length+j]?)->Sound l0 acc->Sound l0 (tU l acc)
 | [],_,_,_,h=>h
 |o::l,l0,acc,hl,h=>by
  unfold tU;refine uE l l0 _ (λj=>?_) λi k hb=>?_
  ·have:=hl<|j+1
   rw[dL,g9,List.length_nil];rw[show acc.length+(0+1)+j=acc.length+(j+1)by omega,<-this];simp
  ·rw[List.getD_eq_getElem?_getD,List.getElem?_append]at hb;split at hb
   ·rw[<-List.getD_eq_getElem?_getD]at hb;exact h i k hb
   ·rename_i hlt
    by_cases he:i=acc.length
    ·subst he;simp at hb;have ho:=hl 0;exact px h (o:=o) (by grind) _ (λe he=>he) hb
    ·have:(i - acc.length)≠0:=by omega
     rw[List.getElem?_eq_none (by simp;omega)]at hb;simp at hb
def rq(ops:Array Oper)(i:Nat)(o:Oper)(k:Nat)(o':Oper):Bool:=
 Nat.beq i k||match o'.dst with
  |some d=>(match o.dst with|some d2=> !Nat.beq d d2|none=>true)&&(!oG ops o d||(bif Nat.blt k i then m5 o k else m5 o' i))
  |none=>true
def kW(ops:Array Oper)(i:Nat)(o:Oper):Nat->List Oper->Bool
 |_,[]=>true
 |k,o'::l=>rq ops i o k o'&&kW ops i o (k+1) l
def zp:Op->Bool| .select .. =>false|_=>true
def kindOk(n:Nat)(o:Oper)(m:Nat):Bool:=zp o.op&&(bif Nat.beq m 2 then(match o.dst with|some d=>Nat.blt d n|none=>true)else lE o.op&&(match o.dst with|some d=>Nat.blt d n|none=>false))
def py(n:Nat)(ops:Array Oper)(l:List Oper)(mk:List Nat):Nat->List Oper->Bool
 |_,[]=>true
 |i,o::l'=>kindOk n o (mk.getD i 0)&&kW ops i o 0 l&&py n ops l mk (i+1) l'
def sQ(A mk:List Nat):List Nat->List Nat->Bool
 |_,[]=>true
 |pre,i::post=>(bif Nat.beq (mk.getD i 0) 2 then(post.all λq=>Nat.testBit (A.getD q 0) i)&&(pre.all λq=>Nat.beq (mk.getD q 0) 1||Nat.beq (mk.getD q 0) 3||Nat.testBit (A.getD i 0) q)else true)&&sQ A mk (pre++[i]) post
def ru:List Nat->Bool
 | []=>true
 |a::l=> !(l.any λb=>Nat.beq a b)&&ru l
def wq(l:List Oper):List Nat->Bool
 | []=>true
 |i::post=>(match l[i]? with|some o=>post.all λq=> !m5 o q|none=>true)&&wq l post
theorem ry{l:List Oper}:∀{ord:List Nat},wq l ord=true->∀(p1:List Nat)(i:Nat)(p2:List Nat),ord=p1++i::p2->∀o,l[i]? =some o->∀q∈p2,m5 o q=false
 | [],_,p1,i,p2,e,_,_,_,_=>by cases p1 <;> cases e
 |a::ord,h,[],i,p2,e,o,ho,q,hq=>by
  injection e with e1 e2;subst e1;subst e2
  unfold wq at h;rw[ho,bI]at h;have:=gp.1 h.1 q hq;rwa[Bool.not_eq_true']at this
 |a::ord,h,b::p1,i,p2,e,o,ho,q,hq=>by
  injection e with e1 e2
  unfold wq at h;rw[bI]at h;exact ry h.2 p1 i p2 e2 o ho q hq
def wt(n:Nat)(l:List Oper)(mk ord:List Nat):Bool:=
 ru ord&&(List.range l.length).all (λi=>ord.any λj=>Nat.beq i j)&&(ord.all λi=>Nat.blt i l.length)&&py n l.toArray l mk 0 l&&sQ (tU l []) mk [] ord&&wq l ord
theorem qI:∀{l:List Nat},ru l=true->l.Nodup
 | [],_=>List.nodup_nil
 |a::l,h=>by
  unfold ru at h;rw[bI,Bool.not_eq_true']at h;refine List.nodup_cons.2 ⟨λhm=>?_,qI h.2⟩;have:(l.any λb=>Nat.beq a b)=true:=i5.2 ⟨a,hm,Nat.beq_refl a⟩;rw[this]at h;cases h.1
theorem mB{ops:Array Oper}{i:Nat}{o:Oper}:∀{k:Nat}{l:List Oper},kW ops i o k l=true->∀(j:Nat)o',l[j]? =some o'->rq ops i o (k+j) o'=true
 |_,[],_,j,o',h=>by simp at h
 |k,p::l,hs,0,o',h=>by
  unfold kW at hs;rw[bI]at hs;simp at h;subst h;exact hs.1
 |k,p::l,hs,j+1,o',h=>by
  unfold kW at hs;rw[bI]at hs;have:=mB hs.2 j o' (by simpa using h);rw[show k+(j+1)=k+1+j by omega];exact this
theorem qJ{n:Nat}{ops:Array Oper}{l0:List Oper}{mk:List Nat}:∀{i:Nat}{l:List Oper},py n ops l0 mk i l=true->∀(j:Nat)o,l[j]? =some o->kindOk n o (mk.getD (i+j) 0)=true/\kW ops (i+j) o 0 l0=true
 |_,[],_,j,o',h=>by simp at h
 |i,p::l,hs,0,o',h=>by
  unfold py at hs;simp only[bI]at hs;simp at h;subst h;exact hs.1
 |i,p::l,hs,j+1,o',h=>by
  unfold py at hs;simp only[bI]at hs;have:=qJ hs.2 j o' (by simpa using h);rw[show i+(j+1)=i+1+j by omega];exact this
theorem sR{A mk:List Nat}:∀{post pre:List Nat},sQ A mk pre post=true->∀(p1:List Nat)(i:Nat)(p2:List Nat),post=p1++i::p2->mk.getD i 0=2->
  (∀q∈p2,Nat.testBit (A.getD q 0) i=true)/\(∀q∈pre++p1,(mk.getD q 0=1\/mk.getD q 0=3)\/Nat.testBit (A.getD i 0) q=true)
 | [],_,_,p1,i,p2,e,_=>by cases p1 <;> cases e
 |a::post,pre,h,[],i,p2,e,hm=>by
  injection e with e1 e2;subst e1;subst e2
  unfold sQ at h;rw[hm]at h;simp only[Nat.beq_refl,aW,bI]at h;refine⟨λq hq=>gp.1 h.1.1 q hq,λq hq=>?_⟩;have:=gp.1 h.1.2 q (by grind);rw[ec,ec]at this
  rcases this with(h|h)|h
  ·exact .inl<|.inl<|cL h
  ·exact .inl<|.inr<|cL h
  ·exact .inr h
 |a::post,pre,h,b::p1,i,p2,e,hm=>by
  injection e with e1 e2;subst e1
  unfold sQ at h;rw[bI]at h;have:=sR h.2 p1 i p2 e2 hm;refine⟨this.1,λq hq=>this.2 q (by grind)⟩
theorem qq{P:Program}{o:Oper}{a a':Act}{next next':Act->World->Prop}{Qf Qf':Exit->Act->World->Prop}{r:Result Next}(ha:a.defers= [])
  (hn:∀v w,next (a.put o.dst v) w->next' (a'.put o.dst v) w) (hdf:∀(b:Act)w,next b w->b.defers= []) (hp:∀c b w,¬Qf (.panic c) b w) (hl:¬LetsOut Qf) (h:o.upon P a next Qf r):o.upon P a' next' Qf' r:=by
 cases r with
 |ok nx w'=>
  cases nx with
  |value v=>exact hn v w' h
  |skip=>exact hn undef w' h
  |defer d=>
   have h:next ({a with defers:=d::a.defers}.put o.dst undef) w':=h;have:=hdf _ _ h
   cases hd:o.dst with
   |none=>rw[hd]at this;cases this
   |some t=>rw[hd]at this;cases this
  |enter f args=>
   refine Calls.mono h λe w'' he=>?_
   grind
  |row row args=>exact Rows.mono h λv w'' he=>hn v w'' he
  |_=>exact h.elim
 |halt x w'=>
  cases x with
  |panic v=>exact(hp _ _ _ h).elim
  |_=>exact h.elim
section
variable {P:Program}{n:Nat}{l:List Oper}{mk:List Nat}{Q:dC}
theorem DD:∀(ord:List Nat)(S:World->Prop)(U:Nat->Value)(w:World)(a:Act),Sl n U a->S w->(∀i∈ord,∀o,l[i]? =some o->kindOk n o (mk.getD i 0)=true)->DP P n l mk Q S ord U w->
  ∃pre vs post a' S',ord=pre++post/\vs.length=pre.length/\Sl n (fT l U pre vs) a'/\DP P n l mk Q S' post (fT l U pre vs) w/\(∀e rest,post=e::rest->mk.getD e 0=2)/\
   (∀(j i:Nat)v,pre[j]? =some i->vs[j]? =some v->mk.getD i 0≠2/\∃o aj,l[i]? =some o/\Sl n (fT l U (pre.take j) (vs.take j)) aj/\
    ((mk.getD i 0≠0/\∀w2,S' w2->r5 P l.toArray w2 aj o v)\/(mk.getD i 0=0/\r5 P l.toArray w aj o v)))/\S' w/\(∀w2,S' w2->S w2):=by
 intro ord
 induction ord with
 |nil=>intro S U w a hs hS _ h;exact⟨[],[],[],a,S,rfl,rfl,hs,h,λ_ _ e=>(by cases e),λj i v hi=>(by simp at hi),hS,λ_ h=>h⟩
 |cons i ord ih=>
  intro S U w a hs hS hk h;have h0:=h;unfold DP at h;obtain⟨o,ho,h⟩:=h;have hko:=hk i (by simp) o ho;have cont:∀(S1:World->Prop)v d,o.dst=some d->Nat.blt d n=true->mk.getD i 0≠2->S1 w->(∀w2,S1 w2->S w2)->((mk.getD i 0≠0/\∀w2,S1 w2->r5 P l.toArray w2 a o v)\/(mk.getD i 0=0/\r5 P l.toArray w a o v))->DP P n l mk Q S1 ord (bZ U d v) w->
    ∃pre vs post a' S',i::ord=pre++post/\vs.length=pre.length/\Sl n (fT l U pre vs) a'/\DP P n l mk Q S' post (fT l U pre vs) w/\(∀e rest,post=e::rest->mk.getD e 0=2)/\
     (∀(j i:Nat)v,pre[j]? =some i->vs[j]? =some v->mk.getD i 0≠2/\∃o aj,l[i]? =some o/\Sl n (fT l U (pre.take j) (vs.take j)) aj/\
      ((mk.getD i 0≠0/\∀w2,S' w2->r5 P l.toArray w2 aj o v)\/(mk.getD i 0=0/\r5 P l.toArray w aj o v)))/\S' w/\(∀w2,S' w2->S w2):=by
   intro S1 v d hd hdn hn2 hS1 hSS hev hrest;have hstep:∀is us,fT l U (i::is) (v::us)=fT l (bZ U d v) is us:=λis us=>by
    unfold fT;rw[ho];have:jB o U v=bZ U d v:=by unfold jB;rw[hd]
    simp only[this]
    cases is <;> cases us <;> rfl
   obtain⟨pre,vs,post,a',S',e1,e2,e3,e4,e5,e6,e7,e8⟩:=ih S1 (bZ U d v) w _ (hs.put hdn v) hS1 (λj hj=>hk j (by simp[hj])) hrest;refine⟨i::pre,v::vs,post,a',S',by rw[e1];rfl,by simp[e2],by rw[hstep];exact e3,by rw[hstep];exact e4,e5,λj i' v' hi' hv'=>?_,e7,λw2 h=>hSS w2<|e8 w2 h⟩
   cases j with
   |zero=>
    simp at hi' hv';subst hi';subst hv';refine⟨hn2,o,a,ho,hs,?_⟩
    rcases hev with⟨h1,h2⟩|h1
    ·exact .inl ⟨h1,λw2 h=>h2 w2<|e8 w2 h⟩
    ·exact .inr h1
   |succ j=>
    obtain⟨hn,o',aj,h1,h2,h3⟩:=e6 j i' v' (by simpa using hi') (by simpa using hv');exact⟨hn,o',aj,h1,by rw[List.take_succ_cons,List.take_succ_cons,hstep];exact h2,h3⟩
  unfold kindOk at hko;rw[bI]at hko;have dst:mk.getD i 0≠2->lE o.op=true/\∃d,o.dst=some d/\Nat.blt d n=true:=λhn=>by
   have hk2:=hko.2;have hb:Nat.beq (mk.getD i 0) 2=false:=by
    cases hx:Nat.beq (mk.getD i 0) 2 with
    |false=>rfl
    |true=>exact absurd (cL hx) hn
   rw[hb,bN,bI]at hk2;refine⟨hk2.1,?_⟩
   cases hd:o.dst with
   |none=>rw[hd]at hk2;cases hk2.2
   |some d=>rw[hd]at hk2;exact⟨d,rfl,hk2.2⟩
  rcases h with⟨hm,h⟩|⟨hm,v,S1,hSS,hS1,h1,h⟩|⟨hm,h⟩|⟨hm,T,q,b,m,row,e,ag,k,hop,hp,hT,h3,h4,hh,h⟩
  ·have hn2:mk.getD i 0≠2:=by rw[hm];decide
   obtain⟨hr,d,hd,hdn⟩:=dst hn2;obtain⟨v,hst,hrest⟩:=rm (C:=λσ'=>DP P n l mk Q S ord σ' w) hs hr hd hdn h;exact cont S v d hd hdn hn2 hS (λ_ h=>h) (.inr ⟨hm,hst⟩) hrest
  ·have hn2:mk.getD i 0≠2:=by rw[hm];decide
   obtain⟨hr,d,hd,hdn⟩:=dst hn2;have hu:jB o U v=bZ U d v:=by unfold jB;rw[hd]
   rw[hu]at h;refine cont S1 v d hd hdn hn2 (hS1 hS) hSS (.inl ⟨by rw[hm];decide,λw2 hS2=>?_⟩) h;obtain⟨v',hst,he⟩:=rm (C:=λσ'=>σ'=jB o U v) hs hr hd hdn<|h1 w2 hS2
   rw[hu]at he;have:=congrFun he d;unfold bZ at this;rw[Nat.beq_refl]at this;have:v'=v:=this;subst this;exact hst
  ·exact⟨[],[],i::ord,a,S,rfl,rfl,hs,h0,λe rest he=>by injection he with h1 _;subst h1;exact hm,λj i v hi=>(by simp at hi),hS,λ_ h=>h⟩
  ·have hn2:mk.getD i 0≠2:=by rw[hm];decide
   obtain⟨hr,d,hd,hdn⟩:=dst hn2;obtain⟨v,hst,hrest⟩:=rm (C:=λσ'=>DP P n l mk Q (λw2=>S w2/\w2.heap[b]? =some (.cells row e (0,0))) ord σ' w) hs hr hd hdn h;exact cont _ v d hd hdn hn2 ⟨hS,hh⟩ (λ_ h=>h.1) (.inl ⟨by rw[hm];decide,λw2 hS2=>wo hs hop hp hT h3 h4 hh hS2.2 hst⟩) hrest
theorem DE{S0:World->Prop}{U:Nat->Value}{w:World}{id:Nat}(hm:P.follows .mixedOrders=true)(hdep:lB 0 l=true)(mk ord:List Nat)(hc:wt n l mk ord=true)(hS0:S0 w.drew)(h:DP P n l mk Q S0 ord U w.drew):RC P n (.region id l.toArray true) U w Q:=by
 intro a0 ha0;unfold wt at hc;simp only[bI]at hc;obtain⟨⟨⟨⟨⟨c1,c2⟩,c3⟩,c4⟩,c5⟩,c6⟩:=hc;have hnd:=qI c1;have hall:∀i,i<l.length->i∈ord:=λi hi=>by
  simp_all
 have hlt:∀i∈ord,i<l.length:=λi hi=>Nat.blt_eq▸gp.1 c3 i hi;have hK:∀i o,l[i]? =some o->kindOk n o (mk.getD i 0)=true/\kW l.toArray i o 0 l=true:=λi o ho=>by
  have:=qJ c4 i o ho;grind
 have hA:Sound l (tU l []):=uE l l [] (λj=>by simp) (λi k hb=>by simp at hb);have hdist:∀(i k:Nat)o o' t,l[i]? =some o->l[k]? =some o'->k≠i->o.dst=some t->o'.dst≠some t:=λi k o o' t ho ho' hne hd hd'=>by
  have hp:=mB (hK i o ho).2 k o' ho'
  grind [rq,cL,Bool.not_eq_true',Nat.beq_refl]
 have hsee:∀(i k:Nat)o o' t,l[i]? =some o->l[k]? =some o'->k≠i->o'.dst=some t->oG l.toArray o t=true->(k<i/\m5 o k=true)\/(i<k/\m5 o' i=true):=λi k o o' t ho ho' hne hd' hs=>by
  have hp:=mB (hK i o ho).2 k o' ho';rw[eN]at hp
  grind [rq,cL,Bool.not_eq_true',Nat.blt,Nat.blt_eq]
 have hsz:∀(g:Nat)o2 d,l.toArray[g]? =some o2->o2.dst=some d->d<n:=λg o2 d ho hd=>by
  grind [kindOk,Nat.beq,Nat.blt_eq]
 refine Dc (U:=U) (w:=w) hm hdep (λD σ' w'=>∃pre vs post a S,ord=pre++post/\vs.length=pre.length/\Sl n (fT l U pre vs) a/\DP P n l mk Q S post (fT l U pre vs) w'/\(∀e rest,post=e::rest->mk.getD e 0=2)/\
   (∀i∈post,D i=false)/\
   (∀(j i:Nat)v,pre[j]? =some i->vs[j]? =some v->D i=false->mk.getD i 0≠2/\∃o aj,l[i]? =some o/\Sl n (fT l U (pre.take j)<|vs.take j) aj/\((mk.getD i 0≠0/\∀w2,S w2->r5 P l.toArray w2 aj o v)\/(mk.getD i 0=0/\r5 P l.toArray w' aj o v)))/\S w'/\
   (∀(j i:Nat)v o t,pre[j]? =some i->vs[j]? =some v->l[i]? =some o->o.dst=some t->D i=true->σ' t=v)/\
   (∀t,(∀(i:Nat)o,l[i]? =some o->o.dst=some t->D i=false)->σ' t=U t)) ?_ ?_ ?_ a0 ha0
 ·obtain⟨pre,vs,post,a',S,e1,e2,e3,e4,e5,e6,eS,_⟩:=DD ord _ U w.drew a0 ha0 hS0 (λi _ o ho=>(hK i o ho).1) h;exact⟨pre,vs,post,a',S,e1,e2,e3,e4,e5,λ_ _=>rfl,λj i v hi hv _=>e6 j i v hi hv,eS,λj i v o t _ _ _ _ hD=>(by cases hD),λt _=>rfl⟩
 ·refine kV λi o ho=>?_;rw[eN];rintro D σ' w' hD hdeps hcl⟨pre,vs,post,a,S,e1,e2,e3,e4,e5,e6,e7,eS,e8,e9⟩;have hil:i<l.length:=(aV.1 ho).1;have hio:=hall i hil;have hancD:∀k,Nat.testBit ((tU l []).getD i 0) k=true->D k=true:=λk hb=>(hA i k hb).done hcl ⟨o,ho,hdeps⟩;have hag:∀(p1:List Nat)(vs1:List Value)(p2:List Nat),p1++i::p2=ord->vs1.length=p1.length->(∀(j i':Nat)v o' t,p1[j]? =some i'->vs1[j]? =some v->l[i']? =some o'->o'.dst=some t->D i'=true->σ' t=v)->
    ∀t,oG l.toArray o t=true->fT l U p1 vs1 t=σ' t:=by
   intro p1 vs1 p2 he hl1 h8 t ht;have hni:i∉p1:=λhm=>by
    rw[<-he]at hnd;exact(List.nodup_append.1 hnd).2.2 i hm i (by simp) rfl
   have hnd1:p1.Nodup:=by rw[<-he]at hnd;exact(List.nodup_append.1 hnd).1
   by_cases hex:∃(k:Nat)(o':Oper),l[k]? =some o'/\o'.dst=some t
   ·obtain⟨k,o',ho',hd'⟩:=hex;have hkd:k≠i->D k=true->k∈p1\/k∈p2:=λhne _=>by
     have:=hall k (aV.1 ho').1;rw[<-he]at this;simp at this
     rcases this with h|h|h
     ·exact .inl h
     ·exact absurd h hne
     ·exact .inr h
    by_cases hki:k=i
    ·subst hki;rw[ky p1 vs1 U<|λi' hi' o2 ho2 hd2=>hdist k i' o' o2 t ho' ho2 (λe=>hni<|e▸hi') hd' hd2];refine(e9 t λk2 o2 ho2 hd2=>?_).symm
     by_cases he2:k2=k
     ·subst he2;exact hD
     ·exact absurd hd2<|hdist k k2 o' o2 t ho' ho2 he2 hd'
    ·rcases hsee i k o o' t ho ho' hki hd' ht with⟨_,hE⟩|⟨hlt2,hE⟩
     ·have hDk:=gV hdeps hE
      by_cases hp:k∈p1
      ·obtain⟨j,hj⟩:=List.mem_iff_getElem?.1 hp;have hjl:j<vs1.length:=by rw[hl1];exact(aV.1 hj).1
       rw[h8 j k vs1[j] o' t hj (aO hjl) ho' hd' hDk];refine rp p1 vs1 U j k o' vs1[j] hj (aO hjl) ho' hd' λk2 i2 o2 hk2 ho2 hne=>?_;refine hdist k i2 o' o2 t ho' ho2 (λe=>hne ?_) hd';subst e;exact(List.getElem?_inj (aV.1 hk2).1 hnd1).1 (by rw[hk2,hj])
      ·rcases hkd hki hDk with h|h
       ·exact absurd h hp
       ·rw[ry c6 p1 i p2 he.symm o ho k h]at hE;cases hE
     ·have hDk:D k=false:=nf λhDk=>by
       have:=gV (hcl k o' ho' hDk) hE;rw[hD]at this;cases this
      rw[ky p1 vs1 U<|λi' hi' o2 ho2 hd2=>?_]
      ·refine(e9 t λk2 o2 ho2 hd2=>?_).symm
       by_cases he2:k2=k
       ·subst he2;exact hDk
       ·exact absurd hd2<|hdist k k2 o' o2 t ho' ho2 he2 hd'
      ·by_cases he2:i'=k
       ·subst he2;obtain⟨q1,q2,hq⟩:=List.append_of_mem hi';have:=ry c6 q1 i' (q2++i::p2) (by rw[<-he,hq];simp) o' ho' i (by simp);rw[this]at hE;cases hE
       ·exact hdist k i' o' o2 t ho' ho2 he2 hd' hd2
   ·rw[e9 t λk o' ho' hd'=>absurd ⟨k,o',ho',hd'⟩ hex];exact ky p1 vs1 U<|λi' hi' o2 ho2 hd2=>hex ⟨i',o2,ho2,hd2⟩
  have hrunC:∀(σ1:Nat->Value)(a1 a2:Act),Sl n σ1 a1->Sl n σ' a2->(∀t,oG l.toArray o t=true->σ1 t=σ' t)->execOp a2.eval o=execOp a1.eval o:=λσ1 a1 a2 hs1 hs2 hag=>by
   refine execOp_congr o (λcs b e=>?_) λx hx=>?_
   ·have:=(hK i o ho).1;unfold kindOk at this;rw[e]at this;cases this
   ·rw[hs2.ev,hs1.ev]
    cases x with
    |tmp t=>
     refine(hag t ?_).symm;unfold oG Oper.looksAt;rw[List.any_append,ec];left;rw[i5];exact⟨t,List.mem_filterMap.2 ⟨.tmp t,by simpa using hx,rfl⟩,Nat.beq_refl t⟩
    |_=>rfl
  by_cases hip:i∈pre
  ·
   obtain⟨p1,p2,hpre⟩:=List.append_of_mem hip;have hjv:p1.length<vs.length:=by rw[e2,hpre];simp
   have hpj:pre[p1.length]? =some i:=by rw[hpre];simp
   obtain⟨v1,hv1⟩:∃v,vs[p1.length]? =some v:=⟨_,aO hjv⟩;obtain⟨hn2,o2,aj,ho2,hsj,hev⟩:=e7 p1.length i v1 hpj hv1 hD;rw[ho]at ho2;injection ho2 with ho2;subst ho2
   have htk:pre.take p1.length=p1:=by rw[hpre];simp
   rw[htk]at hsj;have hst:r5 P l.toArray w' aj o v1:=by
    rcases hev with⟨_,h⟩|⟨_,h⟩
    ·exact h w' eS
    ·exact h
   have hag1:=hag p1 (vs.take p1.length) (p2++post) (by rw[e1,hpre];simp) (by rw[cV];omega) (λj i' v o' t hj hv ho' hd' hDi=>by
    have hjl:=(aV.1 hj).1;rw[dB,aG hjl]at hv
    exact e8 j i' v o' t (by rw[hpre,fP hjl];exact hj) hv ho' hd' hDi)
   have hmk:∃d,o.dst=some d/\Nat.blt d n=true:=by
    have:=(hK i o ho).1;unfold kindOk at this;rw[bI]at this;have h2:=this.2;have hne:Nat.beq (mk.getD i 0) 2=false:=by
     cases hx:Nat.beq (mk.getD i 0) 2 with
     |false=>rfl
     |true=>exact absurd (cL hx) hn2
    rw[hne,bN,bI]at h2
    cases hd:o.dst with
    |none=>rw[hd]at h2;cases h2.2
    |some d=>rw[hd]at h2;exact⟨d,rfl,h2.2⟩
   obtain⟨d,hd,hdn⟩:=hmk;have hJ:∃pre vs post a S,ord=pre++post/\vs.length=pre.length/\Sl n (fT l U pre vs) a/\DP P n l mk Q S post (fT l U pre vs) w'/\(∀e rest,post=e::rest->mk.getD e 0=2)/\
     (∀i'∈post,ins D i i'=false)/\
     (∀(j i':Nat)v,pre[j]? =some i'->vs[j]? =some v->ins D i i'=false->mk.getD i' 0≠2/\∃o aj,l[i']? =some o/\Sl n (fT l U (pre.take j)<|vs.take j) aj/\((mk.getD i' 0≠0/\∀w2,S w2->r5 P l.toArray w2 aj o v)\/(mk.getD i' 0=0/\r5 P l.toArray w' aj o v)))/\S w'/\
     (∀(j i':Nat)v o' t,pre[j]? =some i'->vs[j]? =some v->l[i']? =some o'->o'.dst=some t->ins D i i'=true->bZ σ' d v1 t=v)/\
     (∀t,(∀(i':Nat)o',l[i']? =some o'->o'.dst=some t->ins D i i'=false)->bZ σ' d v1 t=U t):=by
    refine⟨pre,vs,post,a,S,e1,e2,e3,e4,e5,λi' hi'=>?_,λj i' v hj hv hDi=>?_,eS,λj i' v o' t hj hv ho' hd' hDi=>?_,λt ht=>?_⟩
    ·rw[jt (λe=>by
      subst e;rw[e1]at hnd
      exact(List.nodup_append.1 hnd).2.2 i' hip i' hi' rfl)]
     exact e6 i' hi'
    ·refine e7 j i' v hj hv ?_
     by_cases he:i'=i
     ·subst he;exact hD
     ·rwa[jt he]at hDi
    ·by_cases he:i'=i
     ·subst he;rw[ho]at ho';injection ho' with ho';subst ho'
      rw[hd]at hd';injection hd' with hd';subst hd'
      have hndp:pre.Nodup:=by rw[e1]at hnd;exact(List.nodup_append.1 hnd).1
      have:j=p1.length:=(List.getElem?_inj (aV.1 hj).1 hndp).1 (by rw[hj,hpj]);subst this;rw[hv1]at hv;injection hv with hv
      unfold bZ;rw[Nat.beq_refl];exact hv
     ·rw[jt he]at hDi;have hne:t≠d:=λe=>by subst e;exact hdist i i' o o' t ho ho' he hd hd'
      unfold bZ
      cases hb:Nat.beq t d with
      |true=>exact absurd (cL hb) hne
      |false=>exact e8 j i' v o' t hj hv ho' hd' hDi
    ·have hne:t≠d:=λe=>by
      subst e;have:=ht i o ho hd;rw[m7]at this;cases this
     unfold bZ
     cases hb:Nat.beq t d with
     |true=>exact absurd (cL hb) hne
     |false=>
      refine e9 t λk2 o2 ho2 hd2=>?_;have:=ht k2 o2 ho2 hd2
      by_cases he:k2=i
      ·subst he;exact hD
      ·rwa[jt he]at this
   intro a2 hs2;have hrun:=hrunC _ aj a2 hsj hs2 hag1;have hwant:=kU (ops:=l.toArray) (o:=o) hsj hs2 hag1 hsz;unfold wpList
   rcases hst with⟨hw1,hr1⟩|⟨hw1,hvu⟩
   ·rw[hwant]at hw1;rw[aG hw1];left;unfold Oper.wp;rw[hrun,hr1];refine⟨bZ σ' d v1,?_,rfl,hJ⟩;rw[hd];exact hs2.put hdn _
   ·rw[hwant]at hw1;rw[aI (by rw[hw1];exact Bool.false_ne_true)];rw[hvu]at hJ;refine⟨bZ σ' d undef,?_,rfl,hJ⟩;rw[hd];exact hs2.put hdn _
  ·
   have hipo:i∈post:=by
    rw[e1]at hio
    rcases dA.1 hio with h|h
    ·exact absurd h hip
    ·exact h
   cases post with
   |nil=>cases hipo
   |cons e rest=>
    have hme:=e5 e rest rfl;have hoa:=sR c5 pre e rest e1 hme;have hie:i=e:=by
     rcases eE.1 hipo with h|h
     ·exact h
     ·have:=hancD e<|hoa.1 i h
      rw[e6 e (by simp)]at this;cases this
    subst hie;unfold DP at e4;obtain⟨o2,ho2,hdp⟩:=e4;rw[ho]at ho2;injection ho2 with ho2;subst ho2
    obtain⟨S1,kf,hdp⟩:∃S1:World->Prop,((∀w2,S1 w2->S w2)\/wm l i rest=true)/\RL P n l.toArray [o] (fT l U pre vs) w' (λex σ' w'=>ex = .normal/\S1 w'/\DP P n l mk Q S1 rest σ' w'):=by
     rcases hdp with⟨h,_⟩|⟨h,_⟩|⟨_,h⟩|⟨h,_⟩
     ·rw[hme]at h;cases h
     ·rw[hme]at h;cases h
     ·exact h
     ·rw[hme]at h;cases h
    have hag1:=hag pre vs rest e1.symm e2 e8;have hdn:∀d,o.dst=some d->Nat.blt d n=true:=λd hd=>by
     have:=(hK i o ho).1;unfold kindOk at this;rw[hme,bI]at this;have h2:=this.2;rw[hd]at h2;exact h2
    have hput:∀(σ1:Nat->Value)(a1:Act)v,Sl n σ1 a1->Sl n (jB o σ1 v) (a1.put o.dst v):=λσ1 a1 v hs1=>by
     unfold jB
     cases hd:o.dst with
     |none=>exact hs1.o9 v
     |some d=>exact hs1.put (hdn d hd) v
    have hni:i∉pre:=hip;have hnr:i∉rest:=λhm=>by
     rw[e1]at hnd;exact(List.nodup_cons.1 (List.nodup_append.1 hnd).2.1).1 hm
    have key:∀(a2:Act)v w1,Sl n σ' a2->Lf n (λex σ' w'=>ex = .normal/\S1 w'/\DP P n l mk Q S1 rest σ' w') .normal (a.put o.dst v) w1->
      Lf n (λex σ' w1=>ex = .normal/\∃pre vs post a S,ord=pre++post/\vs.length=pre.length/\Sl n (fT l U pre vs) a/\DP P n l mk Q S post (fT l U pre vs) w1/\(∀e rest,post=e::rest->mk.getD e 0=2)/\
       (∀i'∈post,ins D i i'=false)/\
       (∀(j i':Nat)v,pre[j]? =some i'->vs[j]? =some v->ins D i i'=false->mk.getD i' 0≠2/\∃o aj,l[i']? =some o/\Sl n (fT l U (pre.take j)<|vs.take j) aj/\((mk.getD i' 0≠0/\∀w2,S w2->r5 P l.toArray w2 aj o v)\/(mk.getD i' 0=0/\r5 P l.toArray w1 aj o v)))/\S w1/\
       (∀(j i':Nat)v o' t,pre[j]? =some i'->vs[j]? =some v->l[i']? =some o'->o'.dst=some t->ins D i i'=true->σ' t=v)/\
       (∀t,(∀(i':Nat)o',l[i']? =some o'->o'.dst=some t->ins D i i'=false)->σ' t=U t)) .normal (a2.put o.dst v) w1:=by
     rintro a2 v w1 hs2⟨σ1,hs1,_,hS1,hdp1⟩;have hσ1:σ1=jB o (fT l U pre vs) v:=hs1.uniq<|hput _ a v e3
     subst hσ1;obtain⟨pre2,vs2,post2,a3,S2,f1,f2,f3,f4,f5,f6,f7,f8⟩:=DD rest S1 _ w1 _ hs1 hS1 (λi' _ o' ho'=>(hK i' o' ho').1) hdp1;have hX:∀is us,fT l U (pre++i::is) (vs++v::us)=fT l (jB o (fT l U pre vs) v) is us:=λis us=>by
      rw[ow U pre (i::is) vs (v::us) e2]
      conv=>lhs;unfold fT
      rw[ho]
     refine⟨jB o σ' v,hput _ a2 v hs2,rfl,pre++i::pre2,vs++v::vs2,post2,a3,S2,by rw[e1,f1];simp,by simp[e2,f2],by rw[hX];exact f3,by rw[hX];exact f4,f5,λi' hi'=>?_,λj i' u hj hu hDi=>?_,f7,λj i' u o' t hj hu ho' hd' hDi=>?_,λt ht=>?_⟩
     ·have hir:i'∈rest:=by rw[f1];simp[hi']
      rw[jt (λe:i'=i=>hnr (by rw[<-e];exact hir))];exact e6 i' (by simp[hir])
     ·have hne:i'≠i:=λe=>by subst e;rw[m7]at hDi;cases hDi
      have hDi2:D i'=false:=by rwa[jt hne]at hDi
      by_cases hjl:j<pre.length
      ·rw[fP hjl]at hj;rw[fP (by omega)]at hu;obtain⟨hn3,o3,aj,ho3,hsj,hev⟩:=e7 j i' u hj hu hDi2;have t1:(pre++i::pre2).take j=pre.take j:=List.take_append_of_le_length (by omega);have t2:(vs++v::vs2).take j=vs.take j:=List.take_append_of_le_length (by omega);refine⟨hn3,o3,aj,ho3,by rw[t1,t2];exact hsj,?_⟩
       rcases hev with⟨h,hh⟩|⟨h,_⟩
       ·rcases kf with kf|kf
        ·exact .inl ⟨h,λw2 h2=>hh w2<|kf w2<|f8 w2 h2⟩
        ·have hmem:i'∈pre:=dX hj;have hil':i'<l.length:=(aV.1 ho3).1;have hk:=gp.1 kf i' (by simpa using hil');rw[ec,ec]at hk
         rcases hk with(hk|hk)|hk
         ·exact absurd (cL hk) hne
         ·obtain⟨q,hq,hqe⟩:=i5.1 hk;have:=cL hqe;subst this;rw[e1]at hnd;exact absurd rfl<|(List.nodup_append.1 hnd).2.2 q hmem q (by simp[hq])
         ·have:=hancD i' hk;rw[hDi2]at this;cases this
       ·rcases hoa.2 i' (by simp[dX hj])with(h2|h2)|h2
        ·rw[h]at h2;cases h2
        ·rw[h]at h2;cases h2
        ·rw[hancD i' h2]at hDi2;cases hDi2
      ·rw[eX (by omega)]at hj;rw[eX (by omega),e2]at hu
       cases hq:j - pre.length with
       |zero=>
        rw[hq]at hj;simp at hj;exact absurd hj.symm hne
       |succ q=>
        rw[hq]at hj hu;obtain⟨hn3,o3,aj,ho3,hsj,hev⟩:=f6 q i' u (by simpa using hj) (by simpa using hu);have hjq:j=pre.length+(q+1):=by omega
        have t1:(pre++i::pre2).take j=pre++i::pre2.take q:=by rw[hjq,List.take_length_add_append,List.take_succ_cons]
        have t2:(vs++v::vs2).take j=vs++v::vs2.take q:=by rw[hjq,<-e2,List.take_length_add_append,List.take_succ_cons]
        exact⟨hn3,o3,aj,ho3,by rw[t1,t2,hX];exact hsj,hev⟩
     ·have hnd2:(pre++i::pre2).Nodup:=by
       rw[e1,f1]at hnd;have:pre++i::(pre2++post2)=(pre++i::pre2)++post2:=by simp
       rw[this]at hnd;exact(List.nodup_append.1 hnd).1
      by_cases hne:i'=i
      ·subst hne;rw[ho]at ho';injection ho' with ho';subst ho'
       have hjp:(pre++i'::pre2)[pre.length]? =some i':=by simp
       have:j=pre.length:=(List.getElem?_inj (aV.1 hj).1 hnd2).1 (by rw[hj,hjp]);subst this;rw[<-e2]at hu;simp at hu;subst hu;exact uD hd'
      ·rw[jt hne]at hDi;rw[rn<|λhd=>hdist i i' o o' t ho ho' hne hd hd']
       by_cases hjl:j<pre.length
       ·rw[fP hjl]at hj;rw[fP (by omega)]at hu;exact e8 j i' u o' t hj hu ho' hd' hDi
       ·rw[eX (by omega)]at hj
        cases hq:j - pre.length with
        |zero=>rw[hq]at hj;simp at hj;exact absurd hj.symm hne
        |succ q=>
         rw[hq]at hj;have hm2:i'∈pre2:=dX (i:=q) (by simpa using hj);have:=e6 i' (by rw[f1];simp[hm2]);rw[this]at hDi;cases hDi
     ·rw[rn (λhd=>by have:=ht i o ho hd;rw[m7]at this;cases this)];refine e9 t λk2 o2 ho2 hd2=>?_;have:=ht k2 o2 ho2 hd2
      by_cases he:k2=i
      ·subst he;exact hD
      ·rwa[jt he]at this
    intro a2 hs2;have hrun:=hrunC _ a a2 e3 hs2 hag1;have hwant:=kU (ops:=l.toArray) (o:=o) e3 hs2 hag1 hsz;have h1:=hdp a e3;unfold wpList at h1 ⊢;split at h1
    ·rename_i hw1;rw[hwant]at hw1;rw[aG hw1]
     rcases h1 with h1|⟨_,h1⟩
     ·left;unfold Oper.wp at h1 ⊢;rw[hrun];refine qq e3.defers (λv w1 hk=>key a2 v w1 hs2 hk) (λb w1 hk=>?_) (λc b w1 hk=>?_) (λhk=>?_) h1
      ·obtain⟨_,hsb,_⟩:=hk;exact hsb.defers
      ·obtain⟨_,_,hbad,_⟩:=hk;cases hbad
      ·obtain⟨_,_,_,_,hbad,_⟩:=hk;cases hbad
     ·obtain⟨_,_,_,_,hbad,_⟩:=h1;cases hbad
    ·rename_i hw1;rw[hwant]at hw1;rw[aI hw1];exact key a2 undef w' hs2 h1
 ·rintro D σ' w' hDall⟨pre,vs,post,a,S,e1,e2,e3,e4,e5,e6,e7,eS,e8,e9⟩;have hpost:post= []:=by
   cases post with
   |nil=>rfl
   |cons e rest=>
    have h1:=e6 e (by simp);rw[hDall e<|hlt e (by rw[e1];simp)]at h1;cases h1
  subst hpost;rw[gm]at e1;subst e1;have:σ'=fT l U ord vs:=by
   funext t
   by_cases hex:∃(k:Nat)(o':Oper),l[k]? =some o'/\o'.dst=some t
   ·obtain⟨k,o',ho',hd'⟩:=hex;have hkl:=(aV.1 ho').1;obtain⟨j,hj⟩:=List.mem_iff_getElem?.1<|hall k hkl
    have hjl:j<vs.length:=by rw[e2];exact(aV.1 hj).1
    rw[e8 j k vs[j] o' t hj (aO hjl) ho' hd'<|hDall k hkl];refine(rp ord vs U j k o' vs[j] hj (aO hjl) ho' hd' λk2 i2 o2 hk2 ho2 hne=>?_).symm;refine hdist k i2 o' o2 t ho' ho2 (λe=>hne ?_) hd';subst e;exact(List.getElem?_inj (aV.1 hk2).1 hnd).1 (by rw[hk2,hj])
   ·rw[e9 t λk o' ho' hd'=>absurd ⟨k,o',ho',hd'⟩ hex];exact(ky ord vs U<|λi' hi' o2 ho2 hd2=>hex ⟨i',o2,ho2,hd2⟩).symm
  rw[this];unfold DP at e4;exact e4
theorem CJ{U:Nat->Value}{w:World}{id:Nat}(hm:P.follows .mixedOrders=true)(mk ord:List Nat)(h:DP P n l mk Q (λ_=>True) ord U w.drew)(hdep:lB 0 l=true:=by exact rfl)(hc:wt n l mk ord=true:=by kernel_rfl):RC P n (.region id l.toArray true) U w Q:=DE hm hdep mk ord hc trivial h
end
def u3(m:Nat):List Nat->Bool
 | []=>true
 |i::l=>Nat.blt i m&& !(l.any λj=>Nat.beq i j)&&u3 m l
theorem m8{m:Nat}:∀{l:List Nat},u3 m l=true->l.Nodup/\∀i∈l,i<m
 | [],_=>⟨List.nodup_nil,λi h=>by cases h⟩
 |a::l,h=>by
  unfold u3 at h;simp only[bI,Bool.not_eq_true']at h;obtain⟨h1,h2⟩:=m8 h.2;refine⟨List.nodup_cons.2 ⟨λhm=>?_,h1⟩,λi hi=>?_⟩
  ·have:(l.any λb=>Nat.beq a b)=true:=i5.2 ⟨a,hm,Nat.beq_refl a⟩;rw[this]at h;cases h.1.2
  ·rcases eE.1 hi with e|hi
   ·rw[e];exact Nat.blt_eq▸h.1.1
   ·exact h2 i hi
section
variable {E w:World}{V Γ0 new:List HP}
theorem Holds.pk(h:Holds E w V)(m:Nat)(idx:List Nat)(e:(V.drop m,idx.map<|λi=>V[i]?,u3 m idx)=(Γ0,new.map some,true):=by exact rfl):Holds E w (new++Γ0):=by
 injection e with e1 e;injection e with e2 e3
 exact h.pick m idx e1 e2 (m8 e3).1 (m8 e3).2
def zu(m:Nat)(idx:List Nat)(V:List HP):List HP:=idx.map (λi=>V.getD i bP)++V.drop m
theorem Holds.pl(h:Holds E w V)(m:Nat)(idx:List Nat)(e:(u3 m idx&&(idx.all λi=>Nat.blt i V.length))=true:=by exact rfl):Holds E w (zu m idx V):=by
 rw[bI]at e;refine h.pick m idx rfl ?_ (m8 e.1).1 (m8 e.1).2
 simp_all
end
section
variable {P:Program}{n:Nat}{l:List Oper}{mk:List Nat}{Q:dC}{U:Nat->Value}{w:World}{i:Nat}{rest:List Nat}{o:Oper}{ops:Array Oper}{S:World->Prop}
theorem dY(ho:l[i]? =some o)(h:RL P n l.toArray [o] U w (λex σ' w'=>ex = .normal/\w'=w/\DP P n l mk Q S rest σ' w))(hm:mk.getD i 0=0:=by exact rfl):RL P n ops [] U w (λex σ' w'=>ex = .normal/\w'=w/\DP P n l mk Q S (i::rest) σ' w):=Ct<|Ce ho hm h
theorem u4(ho:l[i]? =some o)(h:RL P n l.toArray [o] U w (λex σ' w'=>ex = .normal/\S w'/\DP P n l mk Q S rest σ' w'))(hm:mk.getD i 0=2:=by exact rfl):RL P n ops [] U w (λex σ' w'=>ex = .normal/\w'=w/\DP P n l mk Q S (i::rest) σ' w):=Ct<|Dj ho hm h
theorem ze(ho:l[i]? =some o)(h:RL P n l.toArray [o] U w (λex σ' w'=>ex = .normal/\w'=w/\DP P n l mk Q S rest σ' w))(hS:S w:=by exact trivial)(hm:mk.getD i 0=0:=by exact rfl):RL P n ops [] U w (λex σ' w'=>ex = .normal/\S w'/\DP P n l mk Q S (i::rest) σ' w'):=by simp_all[CE,Ce]
theorem Am(ho:l[i]? =some o)(hm:mk.getD i 0=2)(h:RL P n l.toArray [o] U w (λex σ' w'=>ex = .normal/\S w'/\DP P n l mk Q S rest σ' w'))(hS:S w:=by exact trivial):RL P n ops [] U w (λex σ' w'=>ex = .normal/\S w'/\DP P n l mk Q S (i::rest) σ' w'):=by simp_all[CE,Dj]
end
theorem BJ{P:Program}{n:Nat}{q:Operand}{x y:Code}{U:Nat->Value}{w:World}{Q:dC}{β:Type}{b:Bool}{A B:Option β}{r:β}(hb:(bif b then A else B)=some r)(hc:ev U q = .bool b)
  (ht:b=true->A=some r->RC P n x U w Q) (hf:b=false->B=some r->RC P n y U w Q):RC P n (.cond q x y) U w Q:=
 by grind [C2]
theorem iB{G:Prop}{β:Type}{b:Bool}{A B:Option β}{r:β}(hb:(bif b then A else B)=some r)(ht:b=true->A=some r->G)(hf:b=false->B=some r->G):G:=by
 grind
def yH(ad:Addr)(cs:List Value):HP:=⟨λM h=>At M ad cs/\h=j7,λk⟨a,b⟩=>⟨a.mono k,b⟩⟩
section
variable {α β:Type}[GT α][GT β]{E w:World}{V:List HP}{P:Program}{n:Nat}{l:List Oper}{mk:List Nat}{Q:dC}{U:Nat->Value}{i j0:Nat}{rest:List Nat}{S:World->Prop}
variable {d:Nat}{ty:TypeId}{pos:String}{af:Array Edge}{g:Option (Nat×Bool)}{q r:Operand}{T e:TypeId}{x:α}{p:Value}
theorem Holds.lG(h:Holds E w V)(i:Nat){A:HP}(hi:V[i]? =some A:=by exact rfl):Holds E w [A]:=by
 have hlt:=(aV.1 hi).1;have:=h.pick V.length [i] (Γ0:=[]) (new:=[A]) (by simp) (by simp[hi]) (by simp) (λk hk=>by grind)
 grind
theorem Dk{v:Value}(hg:Wn l.toArray U g)(hd:Nat.blt d n=true){op:Op}{w':World}(hrun:(execOp (ev U) ⟨some d,op,ty,pos,af,g⟩).run P w' = .ok (.value v) w'):
  RL P n l.toArray [⟨some d,op,ty,pos,af,g⟩] U w' (λex σ' w''=>ex = .normal/\w''=w'/\σ'=jB ⟨some d,op,ty,pos,af,g⟩ U v):=
 x_ hg hd hrun (i_ ⟨rfl,rfl,rfl⟩)
theorem DF{ls:List α}{sv:Value}{K:IntKind}{j:Int}(i:Nat)(ho:l[j0]? =some ⟨some d, .indexAddr T q r,ty,pos,af,g⟩)(hm:mk.getD j0 0=1)(hg:Wn l.toArray U g)(hd:Nat.blt d n=true)(hw:Holds E w V)(hx:ev U q=sv)(hy:ev U r = .int K j)(hi:V[i]? =some (rd sv ls))
  (hT:qn P T e (GT.sz α)) (hj:(if 0<=j then ls[j.toNat]? else none)=some x)
  (k:∀v,Holds E w (pt v x::V)->DP P n l mk Q S rest (bZ U d v) w):DP P n l mk Q S (j0::rest) U w:=by
 obtain⟨M,hs,gd⟩:=hw;obtain⟨a,m,cap,hv,hmm,hc,hmx,hel⟩:=fV.1 (gd.sat i _ hi).1;have h0:0<=j:=by
  grind
 rw[aG h0]at hj;obtain⟨ad,cs,hae,hok,ha⟩:=hel _ _ hj;have hlt:j<m:=by grind
 refine CI (.pointer<|some<|ad.add<|j.toNat*GT.sz α) ho hm (λw'=>Dk hg hd ?_)<|k _ ⟨M,_,gd.dS ⟨⟨_,cs,rfl,hok,ha⟩,rfl⟩⟩
 simp only[execOp,hx,hv,hae,hy,Instr.indexAt,asIntOf,aJ,aL,aK,run_underlying hT.pc,hT.sz,h0,hlt,and_self,if_true]
theorem DG{j m:Nat}{f:α->β}(i:Nat)(ho:l[j0]? =some ⟨some d, .fieldAddr T q j,ty,pos,af,g⟩)(hm:mk.getD j0 0=1)(hg:Wn l.toArray U g)(hd:Nat.blt d n=true)(hw:Holds E w V)(hx:ev U q=p)(hi:V[i]? =some (pt p x))(hf:md P T j m)(hF:Fd m f)
  (k:∀v,Holds E w (pt v (f x)::V)->DP P n l mk Q S rest (bZ U d v) w):DP P n l mk Q S (j0::rest) U w:=by
 obtain⟨M,hs,gd⟩:=hw;obtain⟨⟨ad,cs,hv,hok,ha⟩,_⟩:=gd.sat i _ hi;refine CI (.pointer<|some<|ad.add m) ho hm (λw'=>Dk hg hd ?_)<|k _ ⟨M,_,gd.dS ⟨⟨ad.add m,_,rfl,hF M cs x hok,ha.sub m<|GT.sz β⟩,rfl⟩⟩
 simp only[execOp,hx,hv,aJ,hf.run,aK,aL]
theorem C7(x:α)(i:Nat)(ho:l[j0]? =some ⟨some d, .load T q,ty,pos,af,g⟩)(hm:mk.getD j0 0=1)(hg:Wn l.toArray U g)(hd:Nat.blt d n=true)(hw:Holds E w V)(hx:ev U q=p)(hi:V[i]? =some (pt p x))(hT:j6 P T (GT.agg α) (GT.sz α))(k:∀v ad cs,Holds E w (yH ad cs::rd v x::V)->DP P n l mk Q (λw2=>S w2/\Holds E w2 [yH ad cs]) rest (bZ U d v) w):DP P n l mk Q S (j0::rest) U w:=by
 have hw0:=hw;obtain⟨M,hs,gd⟩:=hw;obtain⟨⟨ad,cs,hv,hok,ha⟩,_⟩:=gd.sat i _ hi;have hw1:Holds E w (rd (nN α cs) x::V):=⟨M,_,gd.dS ⟨⟨cs,rfl,hok⟩,rfl⟩⟩;have hw2:Holds E w (yH ad cs::rd (nN α cs) x::V):=⟨M,_,(gd.dS (P:=rd (nN α cs) x) ⟨⟨cs,rfl,hok⟩,rfl⟩).dS ⟨ha,rfl⟩⟩;refine D9 (nN α cs) (λw2=>S w2/\Holds E w2 [yH ad cs]) (λ_ h=>h.1) (λh=>⟨h,hw2.lG 0⟩) ho hm (λw' hS=>Dk hg hd ?_)<|k _ _ _ hw2
 obtain⟨M',hs',gd'⟩:=hS.2;obtain⟨ha',_⟩:=gd'.sat 0 _ rfl;simp only[execOp,hx,hv,Instr.loadAt,Instr.sureAddr,aJ,aL,aK,gS hT hok<|λj u hu=>lu gd'.im<|ha' j u hu]
theorem CY{γ:Type}[Sc γ](y:γ)(i:Nat)(ho:l[j0]? =some ⟨some d, .load T q,ty,pos,af,g⟩)(hm:mk.getD j0 0=1)(hd:Nat.blt d n=true)(hw:Holds E w V)(hx:ev U q=p)(hi:V[i]? =some (pt p y))(hT:j6 P T false 1)(k:∀ad cs,Holds E w (yH ad cs::V)->DP P n l mk Q (λw2=>S w2/\Holds E w2 [yH ad cs]) rest (bZ U d<|Sc.toV y) w)(hg:Wn l.toArray U g:=by exact trivial):DP P n l mk Q S (j0::rest) U w:=by
 refine C7 y i ho hm hg hd hw hx hi hT λv ad cs h=>?_;have hv:v=Sc.toV y:=h.tI (i:=1) rfl;subst hv;refine k ad cs ?_;obtain⟨M,hs,gd⟩:=hw;obtain⟨M2,hs2,gd2⟩:=h;exact Holds.pick ⟨M2,hs2,gd2⟩ 2 [0] (Γ0:=V) (new:=[yH ad cs]) rfl rfl (by simp) (λk hk=>by grind)
end
def SH(E:World)(V:List HP)(l:List (Nat×Value))(G:List HP)(U:Nat->Value)(w:World):Prop:=∃O,U=oY l O/\Holds E w (G++V)
theorem sh{U:Nat->Value}{w E:World}{l:List (Nat×Value)}{G V:List HP}(h:agree U l)(hw:Holds E w (G++V)):SH E V l G U w:=by
 obtain⟨O,e⟩:=h.oY;exact⟨O,e,hw⟩
theorem zf{U:Nat->Value}:∀{l:List (Nat×Value)},l.map (λp=>U p.1)=l.map (λp=>p.2)->agree U l
 | [],_=>True.intro
 |(d,v)::l,h=>by
  rw[ee,ee]at h;injection h with h1 h2
  exact⟨h1,zf h2⟩
section
variable {P:Program}{n:Nat}{U:Nat->Value}{w:World}{Q:dC}{E:World}{V Γ1 new:List HP}{ops:Array Oper}{rest:List Oper}{d t j:Nat}{ty:TypeId}{pos:String}{af:Array Edge}{g:Option (Nat×Bool)}{x y z:Operand}{op:Op}
theorem cD{a b:Bool}(h:a = !b)(k:RL P n ops rest (bZ U d undef) w Q)(ht:(ops[j]?).bind (·.dst)=some t:=by exact rfl)(hv:U t = .bool a:=by exact rfl)(hd:Nat.blt d n=true:=by exact rfl):
  RL P n ops (⟨some d,op,ty,pos,af,some (j,b)⟩::rest) U w Q:=sk ht (.inl<|hv.trans<|cb h) hd k
theorem ll{b:Bool}(k:RL P n ops rest (bZ U d undef) w Q)(ht:(ops[j]?).bind (·.dst)=some t:=by exact rfl)(hv:U t = .bool (!b):=by exact rfl)(hd:Nat.blt d n=true:=by exact rfl):
  RL P n ops (⟨some d,op,ty,pos,af,some (j,b)⟩::rest) U w Q:=sk ht (.inl hv) hd k
theorem yI{b:Bool}(k:RL P n ops rest (bZ U d undef) w Q)(ht:(ops[j]?).bind (·.dst)=some t:=by exact rfl)(hv:U t=undef:=by exact rfl)(hd:Nat.blt d n=true:=by exact rfl):
  RL P n ops (⟨some d,op,ty,pos,af,some (j,b)⟩::rest) U w Q:=sk ht (.inr hv) hd k
theorem iC{b c:Bool}(h:b=c)(v:Value)(k:RL P n ops rest (bZ U d v) w Q)(hg:Wn ops U g:=by exact trivial)(hd:Nat.blt d n=true:=by exact rfl)(hx:ev U x = .bool b:=by exact rfl)(hv:(if c=true then ev U y else ev U z)=v:=by exact rfl):
  RL P n ops (⟨some d, .pick x y z,ty,pos,af,g⟩::rest) U w Q:=by grind [BV]
theorem Holds.sp{l:List (Nat×Value)}(h:Holds E w Γ1)(m:Nat)(idx:List Nat)(e:(Γ1.drop m,idx.map<|λi=>Γ1[i]?,u3 m idx)=(V,new.map some,true):=by exact rfl)
  (ha:l.map (λp=>U p.1)=l.map (λp=>p.2):=by exact rfl):SH E V l new U w:=sh (zf ha)<|h.pk (e:=e) m idx
end
section
variable {S T γ:Type}[GT S][GT T][GT γ]{m:Nat}
theorem Fd.v{r:S->γ}(g:S->T){f:T->γ}(h:Fd m f)(ho:∀M cs x,GT.ok (α:=S) M cs x=GT.ok M cs (g x):=by exact λ_ _ _=>rfl)(e:∀x,f (g x)=r x:=by exact λ_=>rfl):Fd m r:=λM cs x hx=>by
 rw[<-e];exact h M cs (g x)<|ho M cs x▸hx
theorem Fs.v{r:S->γ->S}(g:S->T){f:T->γ->T}(h:Fs m γ f)(ho:∀M cs x,GT.ok (α:=S) M cs x=GT.ok M cs (g x):=by exact λ_ _ _=>rfl)(e:∀x y,f (g x) y=g (r x y):=by exact λ_ _=>rfl):Fs m γ r:=λM cs ds x y hx hy=>by
 rw[ho,<-e];exact h M cs ds (g x) y (ho M cs x▸hx) hy
end
section
variable {P:Program}{T e i k m f:Nat}{fn:Func}{ag:Bool}{zs:List Value}
theorem iL{f:FuncId}(h:P.funcs[f]? =some fn)(h1:(fn.name== "runtime.NumGoroutine")=false:=by kernel_rfl)(h2:fn.body.isNone=false:=by exact rfl):gC P f:=⟨λ_ _=>re h h1 h2⟩
theorem oH{T:TypeId}(h:∀a w,(Instr.fieldAt T (.pointer<|some a) i).run P w = .ok (.pointer<|some<|a.add k) w:=by intro _ _;kernel_rfl):md P T i k:=⟨h⟩
theorem tD{T:TypeId}(h:∀w,(isAgg T).run P w = .ok ag w:=by intro _;kernel_rfl)(h2:∀w,(sizeOf T).run P w = .ok k w:=by intro _;kernel_rfl):j6 P T ag k:=⟨h,h2⟩
theorem yl{T e:TypeId}(h:P.underlying T=some (.slice e):=by kernel_rfl)(h2:∀w,(sizeOf e).run P w = .ok k w:=by intro _;kernel_rfl):qn P T e k:=⟨h,h2⟩
theorem xJ{e:TypeId}(z:Value)(h:∀w,(zeroValue e).run P w = .ok z w:=by intro _;kernel_rfl)(h1:z.cells.size=m:=by exact rfl)(h2:∀w,(sizeOf e).run P w = .ok m w:=by intro _;kernel_rfl):vY P e m:=⟨⟨z,h,h1⟩,h2⟩
end
section
variable {l:List Oper}{D:Nat->Bool}{U:Nat->Value}{j d n:Nat}{v v':Value}{dv:List (Nat×Nat×Value)}{ag:List (Nat×Value)}
theorem nh(hcl:kP l D)(hD:D j=false)(K:Nat)(h:((l[K]?).any λo=>m5 o j)=true:=by exact rfl):D K=false:=nf λh1=>by
 cases ho:l[K]? with
 |none=>rw[ho]at h;cases h
 |some o=>
  rw[ho]at h;have:=gV (hcl K o ho h1) h;rw[hD]at this;cases this
theorem xC(h:∀i,i<n->D i=true)(i:Nat)(hi:Nat.blt i n=true:=by exact rfl):D i=true:=h i<|Nat.blt_eq.mp hi
theorem cF.n1(h:cF D U dv)(h1:(dv.all λx=> !Nat.beq x.1 j)=true:=by exact rfl):cF (ins D j) U dv:=h.no h1
theorem agree.u(h:agree U ag)(h1:kg d ag=true:=by exact rfl):agree (bZ U d v) ag:=h.up h1
end
end Go.Gk
