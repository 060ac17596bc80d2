/-
  Helping texts on the memory of the model. No statement of the seed is proved here.
-/
import Derived.Test.YtpgchlbhifkckaaA1
import Derived.Shelf.SlSortCmp.NoneTotal
import Derived.Shelf.SortM.Plain
import Derived.Shelf.SortM.SortNone
set_option linter.unusedVariables false
set_option linter.unusedSimpArgs false
set_option linter.unusedSectionVars false
namespace Go.Gk
open Go IntKind
def zx:List (Nat×Value)->Bool
 | []=>true
 |(d,_)::l=>kg d l&&zx l
theorem qK{d:Nat}:∀{l k:List (Nat×Value)},kg d (l++k)=true->kg d l=true/\kg d k=true
 | [],_,h=>⟨rfl,h⟩
 |(t,v)::l,k,h=>by
  have h:(!Nat.beq t d&&kg d (l++k))=true:=h;rw[bI]at h;have:=qK h.2;exact⟨by show(!Nat.beq t d&&kg d l)=true;rw[bI];exact⟨h.1,this.1⟩,this.2⟩
theorem qL{O:Nat->Value}:∀{l:List (Nat×Value)},zx l=true->agree (oY l O) l
 | [],_=>trivial
 |(d,v)::l,h=>by
  have h:(kg d l&&zx l)=true:=h;rw[bI]at h;refine⟨?_,(qL h.2).up h.1⟩;show(bif Nat.beq d d then v else _)=v;rw[Nat.beq_refl];rfl
theorem qM{U:Nat->Value}:∀{l k:List (Nat×Value)},agree U (l++k)->agree U l
 | [],_,_=>trivial
 |(d,v)::l,k,h=>⟨h.1,qM h.2⟩
section
variable {S R X Y β:Type}{res:β}{P:Program}{n:Nat}{U:Nat->Value}{w E:World}{Q:dC}{z:Code}{b0 id d A B:Nat}{T T' ty:TypeId}{pos:String}{af:Array Edge}{V:List HP}
theorem SH.out{W L:List (Nat×Value)}{C:List HP}{U:Nat->Value}{w:World}(h:SH E V (W++L) C U w)(hf:(kg d (W++L)&&zx (W++L))=true)(v:Value):SH E V W C (bZ U d v) w:=by
 obtain⟨O,rfl,hw⟩:=h;rw[bI]at hf;exact sh ((qM<|qL hf.2).up (qK hf.1).1) hw
theorem m9{U:Nat->Value}{v:Value}:ev (bZ U d v) (.tmp d)=v:=by
 show(bif Nat.beq d d then v else U d)=v;rw[Nat.beq_refl];rfl
abbrev cl(id d A B b0:Nat)(T T' ty:TypeId)(pos:String)(af:Array Edge)(z:Code):Code:= .block b0<|.loop<|.seq (.region id [(⟨some d, .binOp .lss T (.tmp A) (.tmp B) T',ty,pos,af,none⟩:Oper)].toArray false)<|.seq (.cond (.tmp d) .skip<|.exit b0) z
def lv(d A B k m:Nat)(l:List (Nat×Value)):Prop:=(kg d l&&zx l)=true/\(∀O,oY l O A = .int .i64 (k:Int))/\∀O,oY l O B = .int .i64 (m:Int)
theorem SH.hd{d A B k m:Nat}{l C}{U:Nat->Value}{w:World}(h:SH E V l C U w)(hl:lv d A B k m l):U A = .int .i64 (k:Int)/\U B = .int .i64 (m:Int):=by
 obtain⟨O,rfl,_⟩:=h;exact⟨hl.2.1 O,hl.2.2 O⟩
theorem Dl{I:Nat->S->(Nat->Value)->World->Prop}{J:S->(Nat->Value)->World->Prop}{K:R->(Nat->Value)->World->Prop}
  {body:Nat->S->Option (Fl S R)} {f:S->Option β} {g:R->Option β} {m:Nat} {s0:S} (hb:((lz m body s0).bind λo=>o.cs f g)=some res) (h0:I 0 s0 U w) (hd:Nat.blt d n=true)
  (hJ:∀s U v w,I m s U w->J s (bZ U d v) w) (hx:∀k s U w,I k s U w->U A = .int .i64 (k:Int)/\U B = .int .i64 (m:Int))
  (step:m<=4611686018427387904->∀k s fl U w,k<m->I k s U w->body k s=some fl->RC P n z (bZ U d<|.bool<|decide<|(k:Int)<(m:Int)) w (vT I b0 J K k fl))
  (hrt:∀r U w,g r=some res->K r U w->Q .ret U w) (hgo:∀s U w,f s=some res->J s U w->Q .normal U w):RC P n (cl id d A B b0 T T' ty pos af z) U w Q:=by
 obtain⟨out,hN,hb⟩:=bd hb;exact Dv I J K hN h0
  (λhm s U w h=>f_<|ic (hd:=hd) (hx:=(hx m s U w h).1) (hy:=(hx m s U w h).2) (K:= .i64) m m<|p_<|Db (m9.trans Ah)<|Cm ⟨rfl,hJ s U _ w h⟩)
  (λhm k s fl U w hk h hb=>f_<|ic (hd:=hd) (hx:=(hx k s U w h).1) (hy:=(hx k s U w h).2) (K:= .i64) k m<|p_<|Da (m9.trans<|Ag hk)<|Cx<|step hm k s fl U w hk h hb) (λr U w e=>by subst e;exact hrt r U w hb) (λs U w e=>by subst e;exact hgo s U w hb)
theorem Dm{I:Nat->S->(Nat->Value)->World->Prop}{J:S->(Nat->Value)->World->Prop}
  {body:Nat->S->Option S} {f:S->Option β} {m:Nat} {s0:S} (hb:(ks m body s0).bind f=some res) (h0:I 0 s0 U w) (hd:Nat.blt d n=true)
  (hJ:∀s U v w,I m s U w->J s (bZ U d v) w) (hx:∀k s U w,I k s U w->U A = .int .i64 (k:Int)/\U B = .int .i64 (m:Int))
  (step:m<=4611686018427387904->∀k s s' U w,k<m->I k s U w->body k s=some s'->RC P n z (bZ U d<|.bool<|decide<|(k:Int)<(m:Int)) w (λex U w=>ex = .normal/\I (k+1) s' U w))
  (hgo:∀s U w,f s=some res->J s U w->Q .normal U w):RC P n (cl id d A B b0 T T' ty pos af z) U w Q:=by
 obtain⟨out,hN,hb⟩:=bd hb;exact Dw I J hN h0
  (λhm s U w h=>f_<|ic (hd:=hd) (hx:=(hx m s U w h).1) (hy:=(hx m s U w h).2) (K:= .i64) m m<|p_<|Db (m9.trans Ah)<|Cm ⟨rfl,hJ s U _ w h⟩)
  (λhm k s fl U w hk h hb=>f_<|ic (hd:=hd) (hx:=(hx k s U w h).1) (hy:=(hx k s U w h).2) (K:= .i64) k m<|p_<|Da (m9.trans<|Ag hk)<|Cx<|step hm k s fl U w hk h hb) (λU w=>hgo out U w hb)
theorem CZ(E:World)(V:List HP)(C:S->List HP)(W:S->List (Nat×Value))(L:Nat->S->List (Nat×Value)){body:Nat->S->Option S}{f:S->Option β}{m:Nat}{s0:S}(hb:(ks m body s0).bind f=some res)(h0:SH E V (W s0++L 0 s0) (C s0) U w)
  (step:m<=4611686018427387904->∀k s s' U w,k<m->SH E V (W s++L k s) (C s) U w->body k s=some s'->RC P n z (bZ U d<|.bool<|decide<|(k:Int)<(m:Int)) w (λex U w=>ex = .normal/\SH E V (W s'++L (k+1) s') (C s') U w))
  (hgo:∀s U w,f s=some res->SH E V (W s) (C s) U w->Q .normal U w) (hd:Nat.blt d n=true:=by exact rfl) (hl:∀k s,lv d A B k m (W s++L k s):=by exact λ_ _=>⟨rfl,λ_=>rfl,λ_=>rfl⟩):RC P n (cl id d A B b0 T T' ty pos af z) U w Q:=
 Dm (I:=λk s U w=>SH E V (W s++L k s) (C s) U w) (J:=λs U w=>SH E V (W s) (C s) U w) hb h0 hd (λs U v w h=>h.out (hl m s).1 v) (λk s U w h=>h.hd<|hl k s) step hgo
theorem CG(E:World)(V:List HP)(C:S->List HP)(W:S->List (Nat×Value))(L:Nat->S->List (Nat×Value))(K:R->(Nat->Value)->World->Prop){body:Nat->S->Option (Fl S R)}{f:S->Option β}{g:R->Option β}{m:Nat}{s0:S}(hb:((lz m body s0).bind λo=>o.cs f g)=some res)(h0:SH E V (W s0++L 0 s0) (C s0) U w)
  (step:m<=4611686018427387904->∀k s fl U w,k<m->SH E V (W s++L k s) (C s) U w->body k s=some fl->RC P n z (bZ U d<|.bool<|decide<|(k:Int)<(m:Int)) w (vT (λk s U w=>SH E V (W s++L k s) (C s) U w) b0 (λs U w=>SH E V (W s) (C s) U w) K k fl))
  (hrt:∀r U w,g r=some res->K r U w->Q .ret U w) (hgo:∀s U w,f s=some res->SH E V (W s) (C s) U w->Q .normal U w) (hd:Nat.blt d n=true:=by exact rfl) (hl:∀k s,lv d A B k m (W s++L k s):=by exact λ_ _=>⟨rfl,λ_=>rfl,λ_=>rfl⟩):RC P n (cl id d A B b0 T T' ty pos af z) U w Q:=
 Dl (I:=λk s U w=>SH E V (W s++L k s) (C s) U w) (J:=λs U w=>SH E V (W s) (C s) U w) hb h0 hd (λs U v w h=>h.out (hl m s).1 v) (λk s U w h=>h.hd<|hl k s) step hrt hgo
theorem Dn{c:Code}(E:World)(V:List HP)(C:S->List HP)(W L:S->List (Nat×Value))(K:R->(Nat->Value)->World->Prop){body:S->Option (Fl S R)}{f:S->Option β}{g:R->Option β}{N:Nat}{s0:S}(hb:((kl body N s0).bind λo=>o.cs f g)=some res)(h0:SH E V (W s0++L s0) (C s0) U w)
  (step:∀s fl U w,SH E V (W s++L s) (C s) U w->body s=some fl->RC P n c U w (tK (λs U w=>SH E V (W s++L s) (C s) U w) b0 (λs U w=>SH E V (W s) (C s) U w) K fl))
  (hrt:∀r U w,g r=some res->K r U w->Q .ret U w) (hgo:∀s U w,f s=some res->SH E V (W s) (C s) U w->Q .normal U w):RC P n (.block b0<|.loop c) U w Q:=by
 obtain⟨out,hN,hb⟩:=bd hb;exact CR _ _ K hN h0 step (λr U w e=>by subst e;exact hrt r U w hb) (λs U w e=>by subst e;exact hgo s U w hb)
theorem C8{c:Code}(E:World)(V:List HP)(C:S->List HP)(W L:S->List (Nat×Value)){body:S->Option (Fl S Empty)}{f:S->Option β}{g:Empty->Option β}{N:Nat}{s0:S}(hb:((kl body N s0).bind λo=>o.cs f g)=some res)(h0:SH E V (W s0++L s0) (C s0) U w)
  (step:∀s fl U w,SH E V (W s++L s) (C s) U w->body s=some fl->RC P n c U w (tK (λs U w=>SH E V (W s++L s) (C s) U w) b0 (λs U w=>SH E V (W s) (C s) U w) (λr _ _=>r.elim) fl))
  (hgo:∀s U w,f s=some res->SH E V (W s) (C s) U w->Q .normal U w):RC P n (.block b0<|.loop c) U w Q:=
 Dn E V C W L (λr _ _=>r.elim) hb h0 step (λr _ _ _=>r.elim) hgo
theorem CK(E:World)(V:List HP)(C:S->X->List HP)(W:S->X->List (Nat×Value))(L:Nat->S->X->List (Nat×Value)){body:Nat->S->Option S}{f:S->Option β}{m:Nat}{s0:S}(hb:(ks m body s0).bind f=some res)(h0:(∃x,SH E V (W s0 x++L 0 s0 x) (C s0 x) U w))
  (step:m<=4611686018427387904->∀k s s' U w,k<m->(∃x,SH E V (W s x++L k s x) (C s x) U w)->body k s=some s'->RC P n z (bZ U d<|.bool<|decide<|(k:Int)<(m:Int)) w (λex U w=>ex = .normal/\(∃x,SH E V (W s' x++L (k+1) s' x) (C s' x) U w)))
  (hgo:∀s U w,f s=some res->(∃x,SH E V (W s x) (C s x) U w)->Q .normal U w) (hd:Nat.blt d n=true:=by exact rfl) (hl:∀k s x,lv d A B k m (W s x++L k s x):=by exact λ_ _ _=>⟨rfl,λ_=>rfl,λ_=>rfl⟩):RC P n (cl id d A B b0 T T' ty pos af z) U w Q:=
 Dm (I:=λk s U w=>(∃x,SH E V (W s x++L k s x) (C s x) U w)) (J:=λs U w=>(∃x,SH E V (W s x) (C s x) U w)) hb h0 hd (λs U v w⟨x,h⟩=>⟨x,h.out (hl m s x).1 v⟩) (λk s U w⟨x,h⟩=>h.hd<|hl k s x) step hgo
theorem DH(E:World)(V:List HP)(C:S->X->List HP)(W:S->X->List (Nat×Value))(L:Nat->S->X->List (Nat×Value))(K:R->(Nat->Value)->World->Prop){body:Nat->S->Option (Fl S R)}{f:S->Option β}{g:R->Option β}{m:Nat}{s0:S}(hb:((lz m body s0).bind λo=>o.cs f g)=some res)(h0:(∃x,SH E V (W s0 x++L 0 s0 x) (C s0 x) U w))
  (step:m<=4611686018427387904->∀k s fl U w,k<m->(∃x,SH E V (W s x++L k s x) (C s x) U w)->body k s=some fl->RC P n z (bZ U d<|.bool<|decide<|(k:Int)<(m:Int)) w (vT (λk s U w=>(∃x,SH E V (W s x++L k s x) (C s x) U w)) b0 (λs U w=>(∃x,SH E V (W s x) (C s x) U w)) K k fl))
  (hrt:∀r U w,g r=some res->K r U w->Q .ret U w) (hgo:∀s U w,f s=some res->(∃x,SH E V (W s x) (C s x) U w)->Q .normal U w) (hd:Nat.blt d n=true:=by exact rfl) (hl:∀k s x,lv d A B k m (W s x++L k s x):=by exact λ_ _ _=>⟨rfl,λ_=>rfl,λ_=>rfl⟩):RC P n (cl id d A B b0 T T' ty pos af z) U w Q:=
 Dl (I:=λk s U w=>(∃x,SH E V (W s x++L k s x) (C s x) U w)) (J:=λs U w=>(∃x,SH E V (W s x) (C s x) U w)) hb h0 hd (λs U v w⟨x,h⟩=>⟨x,h.out (hl m s x).1 v⟩) (λk s U w⟨x,h⟩=>h.hd<|hl k s x) step hrt hgo
theorem D_{c:Code}(E:World)(V:List HP)(C:S->X->List HP)(W L:S->X->List (Nat×Value))(K:R->(Nat->Value)->World->Prop){body:S->Option (Fl S R)}{f:S->Option β}{g:R->Option β}{N:Nat}{s0:S}(hb:((kl body N s0).bind λo=>o.cs f g)=some res)(h0:(∃x,SH E V (W s0 x++L s0 x) (C s0 x) U w))
  (step:∀s fl U w,(∃x,SH E V (W s x++L s x) (C s x) U w)->body s=some fl->RC P n c U w (tK (λs U w=>(∃x,SH E V (W s x++L s x) (C s x) U w)) b0 (λs U w=>(∃x,SH E V (W s x) (C s x) U w)) K fl))
  (hrt:∀r U w,g r=some res->K r U w->Q .ret U w) (hgo:∀s U w,f s=some res->(∃x,SH E V (W s x) (C s x) U w)->Q .normal U w):RC P n (.block b0<|.loop c) U w Q:=by
 obtain⟨out,hN,hb⟩:=bd hb;exact CR _ _ K hN h0 step (λr U w e=>by subst e;exact hrt r U w hb) (λs U w e=>by subst e;exact hgo s U w hb)
theorem C0{c:Code}(E:World)(V:List HP)(C:S->X->List HP)(W L:S->X->List (Nat×Value)){body:S->Option (Fl S Empty)}{f:S->Option β}{g:Empty->Option β}{N:Nat}{s0:S}(hb:((kl body N s0).bind λo=>o.cs f g)=some res)(h0:(∃x,SH E V (W s0 x++L s0 x) (C s0 x) U w))
  (step:∀s fl U w,(∃x,SH E V (W s x++L s x) (C s x) U w)->body s=some fl->RC P n c U w (tK (λs U w=>(∃x,SH E V (W s x++L s x) (C s x) U w)) b0 (λs U w=>(∃x,SH E V (W s x) (C s x) U w)) (λr _ _=>r.elim) fl))
  (hgo:∀s U w,f s=some res->(∃x,SH E V (W s x) (C s x) U w)->Q .normal U w):RC P n (.block b0<|.loop c) U w Q:=
 D_ E V C W L (λr _ _=>r.elim) hb h0 step (λr _ _ _=>r.elim) hgo
theorem Ej(E:World)(V:List HP)(C:S->X->Y->List HP)(W:S->X->Y->List (Nat×Value))(L:Nat->S->X->Y->List (Nat×Value)){body:Nat->S->Option S}{f:S->Option β}{m:Nat}{s0:S}(hb:(ks m body s0).bind f=some res)(h0:(∃x y,SH E V (W s0 x y++L 0 s0 x y) (C s0 x y) U w))
  (step:m<=4611686018427387904->∀k s s' U w,k<m->(∃x y,SH E V (W s x y++L k s x y) (C s x y) U w)->body k s=some s'->RC P n z (bZ U d<|.bool<|decide<|(k:Int)<(m:Int)) w (λex U w=>ex = .normal/\(∃x y,SH E V (W s' x y++L (k+1) s' x y) (C s' x y) U w)))
  (hgo:∀s U w,f s=some res->(∃x y,SH E V (W s x y) (C s x y) U w)->Q .normal U w) (hd:Nat.blt d n=true:=by exact rfl) (hl:∀k s x y,lv d A B k m (W s x y++L k s x y):=by exact λ_ _ _ _=>⟨rfl,λ_=>rfl,λ_=>rfl⟩):RC P n (cl id d A B b0 T T' ty pos af z) U w Q:=
 Dm (I:=λk s U w=>(∃x y,SH E V (W s x y++L k s x y) (C s x y) U w)) (J:=λs U w=>(∃x y,SH E V (W s x y) (C s x y) U w)) hb h0 hd (λs U v w⟨x,y,h⟩=>⟨x,y,h.out (hl m s x y).1 v⟩) (λk s U w⟨x,y,h⟩=>h.hd<|hl k s x y) step hgo
theorem Ek(E:World)(V:List HP)(C:S->X->Y->List HP)(W:S->X->Y->List (Nat×Value))(L:Nat->S->X->Y->List (Nat×Value))(K:R->(Nat->Value)->World->Prop){body:Nat->S->Option (Fl S R)}{f:S->Option β}{g:R->Option β}{m:Nat}{s0:S}(hb:((lz m body s0).bind λo=>o.cs f g)=some res)(h0:(∃x y,SH E V (W s0 x y++L 0 s0 x y) (C s0 x y) U w))
  (step:m<=4611686018427387904->∀k s fl U w,k<m->(∃x y,SH E V (W s x y++L k s x y) (C s x y) U w)->body k s=some fl->RC P n z (bZ U d<|.bool<|decide<|(k:Int)<(m:Int)) w (vT (λk s U w=>(∃x y,SH E V (W s x y++L k s x y) (C s x y) U w)) b0 (λs U w=>(∃x y,SH E V (W s x y) (C s x y) U w)) K k fl))
  (hrt:∀r U w,g r=some res->K r U w->Q .ret U w) (hgo:∀s U w,f s=some res->(∃x y,SH E V (W s x y) (C s x y) U w)->Q .normal U w) (hd:Nat.blt d n=true:=by exact rfl) (hl:∀k s x y,lv d A B k m (W s x y++L k s x y):=by exact λ_ _ _ _=>⟨rfl,λ_=>rfl,λ_=>rfl⟩):RC P n (cl id d A B b0 T T' ty pos af z) U w Q:=
 Dl (I:=λk s U w=>(∃x y,SH E V (W s x y++L k s x y) (C s x y) U w)) (J:=λs U w=>(∃x y,SH E V (W s x y) (C s x y) U w)) hb h0 hd (λs U v w⟨x,y,h⟩=>⟨x,y,h.out (hl m s x y).1 v⟩) (λk s U w⟨x,y,h⟩=>h.hd<|hl k s x y) step hrt hgo
theorem Ea{c:Code}(E:World)(V:List HP)(C:S->X->Y->List HP)(W L:S->X->Y->List (Nat×Value))(K:R->(Nat->Value)->World->Prop){body:S->Option (Fl S R)}{f:S->Option β}{g:R->Option β}{N:Nat}{s0:S}(hb:((kl body N s0).bind λo=>o.cs f g)=some res)(h0:(∃x y,SH E V (W s0 x y++L s0 x y) (C s0 x y) U w))
  (step:∀s fl U w,(∃x y,SH E V (W s x y++L s x y) (C s x y) U w)->body s=some fl->RC P n c U w (tK (λs U w=>(∃x y,SH E V (W s x y++L s x y) (C s x y) U w)) b0 (λs U w=>(∃x y,SH E V (W s x y) (C s x y) U w)) K fl))
  (hrt:∀r U w,g r=some res->K r U w->Q .ret U w) (hgo:∀s U w,f s=some res->(∃x y,SH E V (W s x y) (C s x y) U w)->Q .normal U w):RC P n (.block b0<|.loop c) U w Q:=by
 obtain⟨out,hN,hb⟩:=bd hb;exact CR _ _ K hN h0 step (λr U w e=>by subst e;exact hrt r U w hb) (λs U w e=>by subst e;exact hgo s U w hb)
theorem El{c:Code}(E:World)(V:List HP)(C:S->X->Y->List HP)(W L:S->X->Y->List (Nat×Value)){body:S->Option (Fl S Empty)}{f:S->Option β}{g:Empty->Option β}{N:Nat}{s0:S}(hb:((kl body N s0).bind λo=>o.cs f g)=some res)(h0:(∃x y,SH E V (W s0 x y++L s0 x y) (C s0 x y) U w))
  (step:∀s fl U w,(∃x y,SH E V (W s x y++L s x y) (C s x y) U w)->body s=some fl->RC P n c U w (tK (λs U w=>(∃x y,SH E V (W s x y++L s x y) (C s x y) U w)) b0 (λs U w=>(∃x y,SH E V (W s x y) (C s x y) U w)) (λr _ _=>r.elim) fl))
  (hgo:∀s U w,f s=some res->(∃x y,SH E V (W s x y) (C s x y) U w)->Q .normal U w):RC P n (.block b0<|.loop c) U w Q:=
 Ea E V C W L (λr _ _=>r.elim) hb h0 step (λr _ _ _=>r.elim) hgo
end
section
variable {P:Program}{n:Nat}{U:Nat->Value}{w E:World}{V:List HP}{D:Nat->Bool}{dv dv':List (Nat×Nat×Value)}{e e':Edge}{l:List Edge}{d d' j:Nat}{v v' u:Value}{ag:List (Nat×Value)}{ops:Array Oper}
theorem cF.o0(h:cF D U dv)(k:Nat)(hp:gU D (e::l))(h1:dv[k]? =some (e.on,d,v))(hb:Region.binds .any e=true):U d=v:=h.at k h1<|hp.1 hb
theorem cF.o1(h:cF D U dv)(k:Nat)(hp:gU D (e::l))(h1:dv[k]? =some (e.on,d,v):=by exact rfl)(hb:Region.binds .any e=true:=by exact rfl):∃O,U=oY [(d,v)] O:=
 agree.oY (l:=[(d,v)]) ⟨h.o0 k hp h1 hb,trivial⟩
theorem cF.oa(h:cF D U dv)(k:Nat)(hp:gU D (e::l))(ha:agree U ag)(h1:dv[k]? =some (e.on,d,v):=by exact rfl)(hb:Region.binds .any e=true:=by exact rfl):∃O,U=oY ((d,v)::ag) O:=
 agree.oY (l:=(d,v)::ag) ⟨h.o0 k hp h1 hb,ha⟩
theorem cF.o2(h:cF D U dv)(k m:Nat)(hp:gU D (e::e'::l))(h1:dv[k]? =some (e.on,d,v):=by exact rfl)(hb:Region.binds .any e=true:=by exact rfl)
  (h2:dv[m]? =some (e'.on,d',v'):=by exact rfl) (hb2:Region.binds .any e'=true:=by exact rfl):∃O,U=oY [(d,v),(d',v')] O:=
 agree.oY (l:=[(d,v),(d',v')]) ⟨h.o0 k hp h1 hb,h.o0 m hp.2 h2 hb2,trivial⟩
theorem Holds.nw{c:HP}(h:Holds E w (c::V))(k:Nat)(hk:Nat.blt k V.length=true:=by exact rfl):Holds E w (V.set k (bif true then c else Gk.bP)):=by
 have hk:k<V.length:=Nat.blt_eq.mp hk
 have h2:=h.pick (V.length+1) ((List.range V.length).map λi=>if i=k then 0 else i+1) (Γ0:=[]) (new:=V.set k c) (by simp) (by
  apply List.ext_getElem
  ·simp
  ·intro i h1 h2;simp only[fH,List.length_range]at h1;simp only[List.getElem_map,List.getElem_range,List.getElem_set]
   by_cases hi:i=k
   ·subst hi;simp
   ·simp[hi,Ne.symm hi]) (by
  rw[List.nodup_iff_pairwise_ne,List.pairwise_map];exact List.nodup_range.imp λ{a b}hab=>by
   by_cases ha:a=k <;> by_cases hb:b=k <;> simp[ha,hb] <;> omega) (by
  intro i hi;rw[aZ]at hi;obtain⟨a,ha,rfl⟩:=hi;rw[List.mem_range]at ha
  split <;> omega)
 rw[gm]at h2;exact h2
theorem B3{X:Type}{G:X->List HP}{f:X->List (Nat×Nat×Value)}(x:X)(k:Nat)(hv:cF D U dv)(ha:agree U ag)(hw:Holds E w (G x))(h1:dv[k]? =some (j,d,v):=by exact rfl)(h2:qD j d k dv=true:=by exact rfl)
  (h3:f x=dv.set k (j,d,u):=by exact rfl) (h4:kg d ag=true:=by exact rfl):RL P n ops [] (bZ U d u) w (λex U w=>ex = .normal/\∃x,cF (ins D j) U (f x)/\agree U ag/\kx (ins D j) U []/\Holds E w (G x)):=
 i_ ⟨rfl,x,h3▸hv.put k h1 h2,ha.up h4,trivial,hw⟩
theorem CS{X:Type}{G:X->List HP}{f:X->List (Nat×Nat×Value)}(x:X)(hv:cF D U dv)(ha:agree U ag)(hw:Holds E w (G x))(h1:(dv.all λx=> !Nat.beq x.1 j)=true:=by exact rfl)
  (h3:f x=dv:=by exact rfl):RL P n ops [] U w (λex U w=>ex = .normal/\∃x,cF (ins D j) U (f x)/\agree U ag/\kx (ins D j) U []/\Holds E w (G x)):=
 i_ ⟨rfl,x,h3▸hv.no h1,ha,trivial,hw⟩
end
section
variable {P:Program}{n:Nat}{U:Nat->Value}{w:World}{Q:dC}{d:Nat}{ops:Array Oper}{rest:List Oper}{ty:TypeId}{pos:String}{af:Array Edge}{q:Operand}
theorem bH(a:Int)(k:RL P n ops rest (bZ U d<|vi a) w Q)(hd:Nat.blt d n=true:=by exact rfl)(hx:ev U q=vi a:=by exact rfl):RL P n ops (⟨some d, .move q,ty,pos,af,none⟩::rest) U w Q:=mv (hd:=hd) (hx:=hx) (vi a) k
theorem fK(a:Bool)(k:RL P n ops rest (bZ U d<|vb a) w Q)(hd:Nat.blt d n=true:=by exact rfl)(hx:ev U q=vb a:=by exact rfl):RL P n ops (⟨some d, .move q,ty,pos,af,none⟩::rest) U w Q:=mv (hd:=hd) (hx:=hx) (vb a) k
theorem aP(a:Int)(k:RL P n ops rest (bZ U d<|vi a) w Q)(hd:Nat.blt d n=true:=by exact rfl)(hx:ev U q=vi a:=by exact rfl):RL P n ops (⟨some d, .assign q,ty,pos,af,none⟩::rest) U w Q:=dT (hd:=hd) (hx:=hx) (vi a) k
theorem bY(a:Bool)(k:RL P n ops rest (bZ U d<|vb a) w Q)(hd:Nat.blt d n=true:=by exact rfl)(hx:ev U q=vb a:=by exact rfl):RL P n ops (⟨some d, .assign q,ty,pos,af,none⟩::rest) U w Q:=dT (hd:=hd) (hx:=hx) (vb a) k
end
theorem fp{P:Program}{n:Nat}{q:Operand}{x y:Code}{U:Nat->Value}{w:World}{Q:dC}{β:Type}{b:Bool}{A B:Option β}{r:β}(hb:(bif b then A else B)=some r)(ht:A=some r->RC P n x U w Q)(hf:B=some r->RC P n y U w Q)(hc:ev U q = .bool b:=by exact rfl):RC P n (.cond q x y) U w Q:=BJ hb hc (λ_=>ht) λ_=>hf
section
variable {α:Type}[GT α]{P:Program}{n:Nat}{U:Nat->Value}{w:World}{Q:dC}{E:World}{V:List HP}{ops:Array Oper}{rest:List Oper}{d:Nat}{ty T e:TypeId}{pos:String}{af:Array Edge}{g:Option (Nat×Bool)}{v u:Value}{q r:Operand}{l:List α}{x y:α}{jj:Int}{vs:List Value}
theorem B0{f:FuncId}{args:Array Operand}{ts:Array TypeId}{R:Value->World->Prop}(hf:gC P f)(h:Calls P f vs.toArray w (fR R))(k:∀v w',R v w'->RL P n ops rest (bZ U d v) w' Q)
  (hg:Wn ops U g:=by exact trivial) (hd:Nat.blt d n=true:=by exact rfl) (hv:args.toList.map (ev U)=vs:=by exact rfl):RL P n ops (⟨some d, .call ⟨.value<|.func f,args,ts⟩,ty,pos,af,g⟩::rest) U w Q:=
 Dr hg hd hf vs hv (eG h k)
theorem v_{f:FuncId}{args:Array Operand}{ts:Array TypeId}{S:World->Prop}(hf:gC P f)(h:Calls P f vs.toArray w (fR λv w=>v=u/\S w))(k:∀w',S w'->RL P n ops rest (bZ U d u) w' Q)
  (hg:Wn ops U g:=by exact trivial) (hd:Nat.blt d n=true:=by exact rfl) (hv:args.toList.map (ev U)=vs:=by exact rfl):RL P n ops (⟨some d, .call ⟨.value<|.func f,args,ts⟩,ty,pos,af,g⟩::rest) U w Q:=
 B0 hf h (λv w⟨e,h⟩=>e▸k w h) hg hd hv
theorem B_{b:Nat}(i:Nat)(hw:Holds E w V)(hi:V[i]? =some (bx e b x))(hT:j6 P T (GT.agg α) (GT.sz α))(k:∀v,Holds E w (rd v x::V)->RL P n ops rest (bZ U d v) w Q)(hg:Wn ops U g:=by exact trivial)(hd:Nat.blt d n=true:=by exact rfl)
  (hx:ev U q = .pointer (some ⟨b,0,none⟩):=by exact rfl):RL P n ops (⟨some d, .load T q,ty,pos,af,g⟩::rest) U w Q:=Cg (hg:=hg) (hd:=hd) (hx:=hx) (f:=λx=>x) _ hw hi Fd.self hT k
theorem CH(i:Nat)(hw:Holds E w V)(h:idx l jj=some x)(hT:j6 P T (GT.agg α) (GT.sz α))(k:∀v,Holds E w (rd v x::V)->RL P n ops rest (bZ U d v) w Q)(hg:Wn ops U g:=by exact trivial)(hd:Nat.blt d n=true:=by exact rfl)
  (hi:V[i]? =some (own e v l):=by exact rfl) (hx:ev U q=tO v jj.toNat (GT.sz α) 0:=by exact rfl):RL P n ops (⟨some d, .load T q,ty,pos,af,g⟩::rest) U w Q:=
 Dd (f:=λx=>x) hg hd hw hx (nO (hi:=hi) _ hw h 0) hi (cJ h).2.1 Fd.self hT k
theorem CL{γ:Type}[Sc γ]{l:List γ}{x:γ}(i:Nat)(hw:Holds E w V)(h:idx l jj=some x)(hT:j6 P T false 1)(k:RL P n ops rest (bZ U d<|Sc.toV x) w Q)(hg:Wn ops U g:=by exact trivial)(hd:Nat.blt d n=true:=by exact rfl)
  (hi:V[i]? =some (own e v l):=by exact rfl) (hx:ev U q=tO v jj.toNat (GT.sz γ) 0:=by exact rfl):RL P n ops (⟨some d, .load T q,ty,pos,af,g⟩::rest) U w Q:=
 Cv (f:=λx=>x) hg hd hw hx (nO (hi:=hi) _ hw h 0) hi (cJ h).2.1 Fd.self hT k
theorem CT(i j:Nat)(hw:Holds E w V)(h:idx l jj=some x)(hT:j6 P T (GT.agg α) (GT.sz α))(k:∀w',Holds E w' (V.set i<|own e v<|l.set jj.toNat y)->RL P n ops rest U w' Q)(hg:Wn ops U g:=by exact trivial)
  (hi:V[i]? =some (own e v l):=by exact rfl) (hx:ev U q=tO v jj.toNat (GT.sz α) 0:=by exact rfl) (hy:ev U r=u:=by exact rfl) (hj:V[j]? =some (rd u y):=by exact rfl):RL P n ops (⟨none, .store T q r,ty,pos,af,g⟩::rest) U w Q:=
 De (f:=λ_ y=>y) hg hw hx hy (nO (hi:=hi) _ hw h 0) hi (cJ h).2.1 hj Fs.self (by omega) hT k
end
theorem zy(U:Nat->Value):∃O,U=oY [] O:=⟨U,rfl⟩
section
variable {P:Program}{n:Nat}{U:Nat->Value}{w:World}{Q:dC}{ops:Array Oper}{rest:List Oper}{d:Nat}{ty T T':TypeId}{pos:String}{af:Array Edge}{v:Value}{x y z q:Operand}
theorem gx{C:Bool}(hq:ev U q=cv C v)(h:C=true):ev U q=v:=hq.trans<|fz h
theorem ym{C B:Bool}(hq:ev U q=cv C v)(h:(C&&B)=true):ev U q=v:=hq.trans<|fz<|vQ h
theorem sT{C B B':Bool}(hq:ev U q=cv C v)(h:((C&&B)&&B')=true):ev U q=v:=hq.trans<|fz<|vQ<|vQ h
theorem u_{j t:Nat}{want b:Bool}{op:Op}(v:Value)(ht:(ops[j]?).bind (·.dst)=some t)(hv:U t = .bool b)
  (hrun:(true&&(b==want))=true->(execOp (ev U) ⟨some d,op,ty,pos,af,some (j,want)⟩).run P w = .ok (.value v) w)
  (k:RL P n ops rest (bZ U d<|cv (true&&(b==want)) v) w Q) (hd:Nat.blt d n=true:=by exact rfl):RL P n ops (⟨some d,op,ty,pos,af,some (j,want)⟩::rest) U w Q:=
 s_ true _ _ ht hv hd hrun k
theorem Cf{j t:Nat}{c want b:Bool}{op:Op}(v:Value)(ht:(ops[j]?).bind (·.dst)=some t)(hv:U t=cv c (.bool b))
  (hrun:(c&&(b==want))=true->(execOp (ev U) ⟨some d,op,ty,pos,af,some (j,want)⟩).run P w = .ok (.value v) w)
  (k:RL P n ops rest (bZ U d<|cv (c&&(b==want)) v) w Q) (hd:Nat.blt d n=true:=by exact rfl):RL P n ops (⟨some d,op,ty,pos,af,some (j,want)⟩::rest) U w Q:=
 s_ _ _ _ ht hv hd hrun k
theorem mo{C:Bool}{o:Oper}(ho:o.op = .move x:=by exact rfl)(hx:C=true->ev U x=v:=by first|exact gx rfl|exact ym rfl|exact sT rfl|exact λ_=>rfl):C=true->(execOp (ev U) o).run P w = .ok (.value v) w:=xo ho hx
theorem mq{C:Bool}{o:Oper}{K:IntKind}{a b:Int}(bop:BinOp)(ho:o.op = .binOp bop T x y T':=by exact rfl)(hx:C=true->ev U x = .int K a:=by first|exact gx rfl|exact ym rfl|exact sT rfl|exact λ_=>rfl)
  (hy:C=true->ev U y = .int K b:=by first|exact gx rfl|exact ym rfl|exact sT rfl|exact λ_=>rfl) (hc:pd bop=true:=by exact rfl):
  C=true->(execOp (ev U) o).run P w = .ok (.value<|.bool<|jK bop a b) w:=xp ho hx hy hc
theorem yJ{C:Bool}{o:Oper}{K:IntKind}{a b:Int}(bop:BinOp)(ho:o.op = .binOp bop T x y T':=by exact rfl)(hx:C=true->ev U x = .int K a:=by first|exact gx rfl|exact ym rfl|exact sT rfl|exact λ_=>rfl)
  (hy:C=true->ev U y = .int K b:=by first|exact gx rfl|exact ym rfl|exact sT rfl|exact λ_=>rfl) (hc:xn bop=true:=by exact rfl):
  C=true->(execOp (ev U) o).run P w = .ok (.value<|.int K<|K.wrap<|iQ bop a b) w:=yv ho hx hy hc
theorem BK{C:Bool}{o:Oper}{b:Bool}(ho:o.op = .unOp .not T x:=by exact rfl)(hx:C=true->ev U x = .bool b:=by first|exact gx rfl|exact ym rfl|exact sT rfl|exact λ_=>rfl):
  C=true->(execOp (ev U) o).run P w = .ok (.value<|.bool<|!b) w:=yw ho hx
theorem z9{C a b:Bool}{o:Oper}(ho:o.op = .pick x y z:=by exact rfl)(hx:C=true->ev U x = .bool a:=by first|exact gx rfl|exact ym rfl|exact sT rfl|exact λ_=>rfl)
  (hy:ev U y=cv (C&&(a==true)) (.bool b):=by exact rfl) (hz:ev U z = .bool false:=by exact rfl):C=true->(execOp (ev U) o).run P w = .ok (.value<|.bool<|a&&b) w:=
 uw ho hx λh=>by rw[hy,hz];exact fI (h:=h) _
theorem Bx{C a b:Bool}{o:Oper}(ho:o.op = .pick x y z:=by exact rfl)(hx:C=true->ev U x = .bool a:=by first|exact gx rfl|exact ym rfl|exact sT rfl|exact λ_=>rfl)
  (hy:ev U y = .bool true:=by exact rfl) (hz:ev U z=cv (C&&(a==false)) (.bool b):=by exact rfl):C=true->(execOp (ev U) o).run P w = .ok (.value<|.bool<|a||b) w:=
 uw ho hx λh=>by rw[hy,hz];exact ly (h:=h) _
end
end Go.Gk
namespace Go.Gk
open Go IntKind Go.Proofs Go.Sort
def t6(w:World):HP:=⟨λM _=>∀b,b<w.heap.size->M b=w.heap[b]?,λh hk b hb=>by
 have:=hk b hb;rw[dQ hb]at this ⊢
 exact h b _ this⟩
theorem Holds.all(w:World):Holds w w [t6 w]:=by
 refine⟨λb=>w.heap[b]?,λ_=>j7,⟨rfl,rfl,rfl,bB _,λ_ _ h=>h,λi P hP=>?_,λ_ _ _ _ h=>(by cases h),λ_ _ _ _ h=>(by cases h),λ_ _ _ _ _ _ _ h=>(by cases h)⟩⟩
 cases i with
 |zero=>simp at hP;subst hP;exact λ_ _=>rfl
 |succ i=>simp at hP
theorem Holds.grown{w w':World}{V:List HP}{i:Nat}(h:Holds w w' V)(hi:V[i]? =some (t6 w)):∃q os,w'=grow (w.drewN q) os:=by
 obtain⟨M,hs,g⟩:=h;have hk:=g.sat i _ hi;have key:∀b,b<w.heap.size->w'.heap[b]? =w.heap[b]? :=λb hb=>by
  have:=hk b hb;rw[dQ hb]at this;rw[g.im b _ this,dQ hb]
 have hsz:w.heap.size<=w'.heap.size:=by
  rcases Nat.lt_or_ge w'.heap.size w.heap.size with h|h
  ·have:=key w'.heap.size h;rw[Array.getElem?_eq_none<|bB _,dQ h]at this
   cases this
  ·exact h
 refine⟨w'.drawn - w.drawn,w'.heap.extract w.heap.size w'.heap.size,?_⟩;have e1:w'.heap=w.heap++w'.heap.extract w.heap.size w'.heap.size:=by
  apply Array.ext_getElem?;intro k;rw[Array.getElem?_append];split
  ·rename_i hk;exact key k hk
  ·rename_i hk;rw[Array.getElem?_extract]
   by_cases h2:k<w'.heap.size
   ·rw[aG (by omega)];congr 1;omega
   ·rw[aI (by omega),Array.getElem?_eq_none (by omega)]
 obtain⟨h1,h2,h3,h4,h5⟩:=w';obtain⟨k1,k2,k3,k4,k5⟩:=w;have a1:=g.os;have a2:=g.tape;have a3:=g.out;have a4:=g.dr;simp only at a1 a2 a3 a4 e1;subst a1;subst a2;subst a3;simp only[grow,World.drewN,World.mk.injEq,and_true,true_and];exact⟨e1,by omega⟩
section
variable {β:Type}[Inhabited β](enc:β->List Value)(k:Nat)(w:World)(g o m:Nat)(dk:Array β)(os:Array Obj)
theorem s9{b:Nat}(hb:b<w.heap.size)(hg:b≠g):(sortWorldK enc k w g o m dk os).heap[b]? =w.heap[b]? :=by
 simp only[sortWorldK,grow,putRowK,putRow,mapBlock,Go.Sort.ahead];rw[Array.getElem?_append_left (by simpa using hb),Array.getElem?_modify,aI<|λh=>hg h.symm]
theorem xX{cur:Array Value}{e:TypeId}{fr:Nat×Nat}(hg:w.heap[g]? =some (.cells cur e fr)):
  (sortWorldK enc k w g o m dk os).heap[g]? =some (.cells (putCells id o (flatK enc k dk) cur) e fr):=by
 have hb:g<w.heap.size:=(Array.getElem?_eq_some_iff.1 hg).1;simp only[sortWorldK,grow,putRowK,putRow,mapBlock,Go.Sort.ahead];rw[Array.getElem?_append_left (by simpa using hb),Array.getElem?_modify,aG rfl,hg];rfl
end
theorem t7{β:Type}[Inhabited β]{enc:β->List Value}{k:Nat}(hk:∀x,(enc x).length=k)(hk0:0<k)(d:Array β)(o:Nat)(cur:Array Value)(ho:o+d.size*k<=cur.size)(a:Nat)(ha:a<d.size):
  (((putCells id o (flatK enc k d) cur).toList.drop o).drop<|a*k).take k=enc d[a]! :=by
 apply List.ext_getElem?;intro t;rw[List.drop_drop,dB]
 by_cases ht:t<k
 ·have h1:a*k+t<d.size*k:=by
   have:=Nat.mul_le_mul_right k (show a+1<=d.size from ha);rw[Nat.add_mul,Nat.one_mul]at this;omega
  rw[aG ht,eW,Array.getElem?_toList];have hsz:o+a*k+t<(putCells id o (flatK enc k d) cur).size:=by simp only[putCells,Array.size_mapIdx];omega
  rw[dQ hsz];simp only[putCells,Array.getElem_mapIdx,size_flatK];rw[aG (by omega),aO (by rw[hk];exact ht)];have e1:o+a*k+t - o=a*k+t:=by omega
  rw[e1,get_flatK _ _ _ _ h1];have e2:(a*k+t) / k=a:=by rw[Nat.mul_comm,Nat.mul_add_div hk0,Nat.div_eq_of_lt ht,Nat.add_zero]
  have e3:(a*k+t) % k=t:=by rw[Nat.mul_comm,Nat.mul_add_mod,Nat.mod_eq_of_lt ht]
  rw[e2,e3,getElem!_pos _ t (by rw[hk];exact ht)];rfl
 ·rw[aI ht,List.getElem?_eq_none (by rw[hk];omega)]
theorem uH{P:Program}{ρ:Shelf.Ren}(L:SlLaysF0.n6 P ρ)(α:Type)[GT α](hag:GT.agg α=true)(aE:∀w,(isAgg<|ρ.t 24).run P w = .ok true w)(zE:∀w,(Go.sizeOf<|ρ.t 24).run P w = .ok (GT.sz α) w){E w:World}{V:List HP}{e:TypeId}{v:Value}{l l':List α}{gf:Nat}{φ:α->α->Option Int}(hfn:gC P gf)(hcl:∀{E' w':World}{Γ':List HP}{u u':Value}{x x':α}{r:Int}{i j:Nat},Holds E' w' Γ'->Γ'[i]? =some (rd u x)->Γ'[j]? =some (rd u' x')->φ x x'=some r->Calls P gf [u,u'].toArray w' (fR λz w''=>z = .int .i64 r/\Holds E' w'' Γ'))(hw:Holds E w (own e v l::V))(hb:qF φ l=some l'):
  Calls P (ρ.f 6) [v, .func (.func gf) #[] #[]].toArray w (fR λz w'=>z = .tuple #[]/\Holds E w' (own e v l'::V)):=by
 unfold qF at hb;split at hb
 case isFalse=>cases hb
 rename_i hc;obtain⟨⟨hφ,hO⟩,hbig⟩:=hc;have hO:SWO (ltOf<|tC φ l):=hO;injection hb with hb
 by_cases hn:0<l.length
 case neg=>
  have hl:l= []:=List.length_eq_zero_iff.1 (by omega);subst hl;have e1:l'= []:=by rw[<-hb];rfl
  subst e1;obtain⟨a,c,hv⟩:=hw.gq (i:=0) rfl;subst hv;refine Calls.mono (AnyF.slices_SortFunc_none L a c _ w) λex w' h=>?_;obtain⟨rfl,rfl⟩:=h;exact⟨_,rfl,rfl,hw⟩
 letI inh:Inhabited (Fin l.length):=⟨⟨0,hn⟩⟩
 obtain⟨M,hs,gd⟩:=hw
 rcases gd.sat 0 _ rfl with⟨_,h2,_⟩|⟨g,o,cap,cur,xs,rfl,hcap,hmax,hh,hsz,hx,hcs⟩
 ·rw[h2]at hn;exact absurd hn (by simp)
 have hg:w.heap[g]? =some (.cells cur e (0,0)):=gd.le 0 g _ (by simp) (by rw[hh];exact bM g _);have hgs:g<w.heap.size:=(Array.getElem?_eq_some_iff.1 hg).1;have hMg:M g=none:=gd.dm 0 g _ (by simp) (by rw[hh];exact bM g _);generalize hK:GT.sz α=k at *;have hk0:0<k:=by rw[<-hK];exact GT.pos
 subst hx;have hlen:l.length*k<=cap*k:=Nat.mul_le_mul_right k hcap
 let enc:Fin l.length->List Value:=λi=>(((cur.toList.drop o).take<|l.length*k).drop<|i.val*k).take k
 have henc:∀i:Fin l.length,enc i=(cur.toList.drop<|o+i.val*k).take k:=λi=>by
  have:=kh (sz:=k) i.isLt;show(((cur.toList.drop o).take<|l.length*k).drop<|i.val*k).take k=_;rw[List.drop_take,List.take_take,List.drop_drop,Nat.min_eq_left (by omega)]
 have hlk:∀i,(enc i).length=k:=λi=>by
  have:=kh (sz:=k) i.isLt;rw[henc,cV,gH,Array.length_toList];omega
 have hel:∀i:Fin l.length,GT.ok M (enc i) l[i]:=λi=>by
  have:=hcs.2 i.val l[i]<|aO i.isLt
  rw[hK]at this;exact this
 have hone:∀x,∀v∈enc x,v.oneCell'=true:=λx v hv=>GT.one (hel x) v hv
 let d:Array (Fin l.length):=Array.ofFn λi:Fin l.length=>i
 have hds:d.size=l.length:=by simp[d]
 have hdi:∀i(hi:i<l.length),d[i]! = ⟨i,hi⟩:=λi hi=>by rw[getElem!_pos d i (by rw[hds];exact hi)];simp[d]
 have hH:HoldsK enc k w g o d:=by
  intro j hj;rw[size_flatK,hds]at hj;have hj2:j / k<l.length:=Nat.div_lt_of_lt_mul (by rw[Nat.mul_comm];exact hj);have hjm:j % k<k:=Nat.mod_lt _ hk0;have hdm:j / k*k+j % k=j:=by rw[Nat.mul_comm];exact Nat.div_add_mod j k
  have hbd:=kh (sz:=k) hj2;have hin:o+j<cur.size:=by omega
  refine⟨?_,?_⟩
  ·rw[get_flatK _ _ _ _ (by rw[hds];exact hj),hdi _ hj2];have e1:(enc ⟨j / k,hj2⟩)[j % k]! =cur[o+j]:=by
    rw[getElem!_pos _ _ (by rw[hlk];exact hjm)];apply Option.some.inj;rw[<-aO,henc,dB,aG hjm,eW,Array.getElem?_toList,<-dQ];congr 1;show o+j / k*k+j % k=o+j;omega
   rw[e1];simp only[World.cell?,hg];simp[dQ hin]
  ·simp only[World.frozen?,hg];simp
 have hsort:=AnyQ.slices_SortFunc_eq L k aE zE enc hlk hone (tC φ l) hO gf #[] g o cap d w hfn.run ?_ hH hgs ?_
 case refine_2=>rw[hds];exact hbig
 case refine_1=>
  intro m os dk hdk x y;have hxy:φ l[x] l[y]=some (tC φ l x y):=by obtain⟨c,hc⟩:=hφ x y;unfold tC;rw[hc];rfl
  generalize hW:sortWorldK enc k w g o m dk os=W;have hMW:hle M (λb=>W.heap[b]?):=λb o' hb=>by
   have hbw:=gd.im b o' hb;have hne:b≠g:=λh=>by rw[h,hMg]at hb;cases hb
   show W.heap[b]? =some o';rw[<-hW,s9 _ _ _ _ _ _ _ _ (Array.getElem?_eq_some_iff.1 hbw).1 hne];exact hbw
  have h0:Holds W W [rd (.agg (enc x).toArray) l[x],rd (.agg (enc y).toArray) l[y],t6 W]:=by
   refine⟨λb=>W.heap[b]?,λ_=>j7,⟨rfl,rfl,rfl,bB _,λ_ _ h=>h,λi P hP=>?_,λ_ _ _ _ h=>(by cases h),λ_ _ _ _ h=>(by cases h),λ_ _ _ _ _ _ _ h=>(by cases h)⟩⟩
   match i,hP with
   | 0,hP=>simp at hP;subst hP;exact⟨⟨_,by simp[nN,hag],GT.mono hMW (hel x)⟩,rfl⟩
   | 1,hP=>simp at hP;subst hP;exact⟨⟨_,by simp[nN,hag],GT.mono hMW (hel y)⟩,rfl⟩
   | 2,hP=>simp at hP;subst hP;exact λ_ _=>rfl
   |i+3,hP=>simp at hP
  refine Calls.mono (hcl (i:=0) (j:=1) h0 rfl rfl hxy) λex w' h=>?_;obtain⟨z,rfl,rfl,h⟩:=h;exact⟨rfl,h.grown (i:=2) rfl⟩
 refine Calls.mono (by rw[hds]at hsort;exact hsort) λex w' h=>?_;obtain⟨rfl,n,os,rfl⟩:=h;refine⟨_,rfl,rfl,?_⟩;obtain⟨hp,_⟩:=pdq_sorts (ltOf<|tC φ l) hO d 0 l.length (Lib.bitLen l.length) true true (kd _) (by rw[hds];exact bB _)<|Or.inl rfl
 have hl':l'=(pdq (ltOf<|tC φ l) d 0 l.length (Lib.bitLen l.length) true true).toList.map λi=>l[i]:=by
  rw[<-hb];unfold uC;rw[dif_pos hn];rfl
 generalize hd':pdq (ltOf<|tC φ l) d 0 l.length (Lib.bitLen l.length) true true=d' at hp hl' ⊢;have hds':d'.size=l.length:=by rw[hp.1,hds]
 have hll:l'.length=l.length:=by rw[hl',fH,Array.length_toList,hds']
 have hpc:(putCells id o (flatK enc k d') cur).size=cur.size:=by simp[putCells]
 have h2:=gd.update (w':=sortWorldK enc k w g o n d' os) (P':=own e (.slice (some ⟨g,o,none⟩) l.length cap) l') (i:=0) (by simp) (Gk.one g<|.cells (putCells id o (flatK enc k d') cur) e (0,0)) ?_ rfl rfl rfl ?_ ?_ ?_<|Nat.le_add_right _ _
 ·exact⟨M,_,h2⟩
 ·refine .inr ⟨g,o,cap,_,_,by rw[hll],by rw[hll];exact hcap,hmax,rfl,by rw[hpc,hK];exact hsz,rfl,?_⟩;rw[hll,hK];refine⟨?_,λa x hx=>?_⟩
  ·have e1:(putCells id o (flatK enc k d') cur).toList.length=cur.size:=by rw[Array.length_toList,hpc]
   rw[cV,gH,e1,hll,hK];omega
  ·have ha:a<l.length:=by rw[<-hll];exact(aV.1 hx).1
   have hax:=kh (sz:=k) ha;rw[hK,List.drop_take,List.take_take,Nat.min_eq_left (by omega),t7 hlk hk0 d' o cur (by rw[hds'];omega) a (by rw[hds'];exact ha)];have hda:d'.toList[a]? =some d'[a]! :=by rw[Array.getElem?_toList,dQ (by rw[hds'];exact ha),getElem!_pos d' a (by rw[hds'];exact ha)]
   generalize d'[a]! =q at hda ⊢;have h3:=congrArg (λz=>z[a]?) hl';simp only[List.getElem?_map,hda,hx,Option.map_some]at h3;injection h3 with h3
   rw[h3];exact hel q
 ·intro b o' hb;obtain⟨rfl,rfl⟩:=fa hb;exact xX _ _ _ _ _ _ _ _ hg
 ·intro b o' hb;obtain⟨rfl,rfl⟩:=fa hb;exact .inl ⟨_,by rw[hh];exact bM b _⟩
 ·intro b hb1 hb2;refine s9 _ _ _ _ _ _ _ _ hb2 λh=>?_;subst h;rw[hh,bM]at hb1;cases hb1
section
variable (w:World)(g o m:Nat)(dk:Array Int)(os:Array Obj)
theorem wK{b:Nat}(hb:b<w.heap.size)(hg:b≠g):(grow (putRow (Value.int .i64) (Go.Sort.ahead w m) g o dk) os).heap[b]? =w.heap[b]? :=by
 simp only[grow,putRow,mapBlock,Go.Sort.ahead];rw[Array.getElem?_append_left (by simpa using hb),Array.getElem?_modify,aI<|λh=>hg h.symm]
theorem xY{cur:Array Value}{e:TypeId}{fr:Nat×Nat}(hg:w.heap[g]? =some (.cells cur e fr)):
  (grow (putRow (Value.int .i64) (Go.Sort.ahead w m) g o dk) os).heap[g]? =some (.cells (putCells (Value.int .i64) o dk cur) e fr):=by
 have hb:g<w.heap.size:=(Array.getElem?_eq_some_iff.1 hg).1;simp only[grow,putRow,mapBlock,Go.Sort.ahead];rw[Array.getElem?_append_left (by simpa using hb),Array.getElem?_modify,aG rfl,hg];rfl
end
theorem wL{P:Program}{ρ:Shelf.Ren}(L:SlLaysM.n5 P ρ){E w:World}{V:List HP}{e:TypeId}{v:Value}{l l':List Int}(hw:Holds E w (own e v l::V))(hb:po l=some l'):
  Calls P (ρ.f 5) [v].toArray w (fR λz w'=>z = .tuple #[]/\Holds E w' (own e v l'::V)):=by
 unfold po at hb;split at hb
 case isFalse=>cases hb
 rename_i hbig;injection hb with hb
 by_cases hn:l.length=0
 ·have hl:l= []:=List.length_eq_zero_iff.1 hn;subst hl;have e1:l'= []:=by rw[<-hb];exact List.length_eq_zero_iff.1 (by rw[List.length_mergeSort];rfl)
  subst e1;obtain⟨a,c,hv⟩:=hw.gq (i:=0) rfl;subst hv;refine Calls.mono (AnyM.slices_Sort_int_none L a c w) λex w' h=>?_;obtain⟨rfl,rfl⟩:=h;exact⟨_,rfl,rfl,hw⟩
 obtain⟨M,hs,gd⟩:=hw
 rcases gd.sat 0 _ rfl with⟨_,h2,_⟩|⟨g,o,cap,cur,xs,rfl,hcap,hmax,hh,hsz,hx,hcs⟩
 ·rw[h2]at hn;exact absurd rfl hn
 have hg:w.heap[g]? =some (.cells cur e (0,0)):=gd.le 0 g _ (by simp) (by rw[hh];exact bM g _);have hgs:g<w.heap.size:=(Array.getElem?_eq_some_iff.1 hg).1;have hsz1:GT.sz Int=1:=rfl;rw[hsz1,Nat.mul_one]at hsz hx;subst hx;have hel:∀i(hi:i<l.length),cur.toList[o+i]? =some (.int .i64 l[i]):=λi hi=>by
  have:=hcs.2 i l[i]<|aO hi
  rw[hsz1,Nat.mul_one,List.drop_take,List.take_take,List.drop_drop]at this;have h3:(cur.toList.drop<|o+i).take (min 1<|l.length - i)= [Sc.toV l[i]]:=this;have h4:=congrArg (λz=>z[0]?) h3;simp only[dB,eW,Nat.add_zero]at h4;rw[aG (by omega)]at h4;exact h4
 have hH:Go.Sort.Holds (Value.int .i64) w g o l.toArray:=by
  intro j hj;have hj':j<l.length:=by simpa using hj
  have hin:o+j<cur.size:=by omega
  have h1:=hel j hj';rw[Array.getElem?_toList,dQ hin]at h1;injection h1 with h1
  refine⟨?_,?_⟩
  ·rw[getElem!_pos l.toArray j hj];simp only[World.cell?,hg];simp[dQ hin,h1]
  ·simp only[World.frozen?,hg];simp
 refine Calls.mono (AnyM.slices_Sort_int L g o cap l w hH hgs hbig) λex w' h=>?_;obtain⟨rfl,n,os,rfl⟩:=h;refine⟨_,rfl,rfl,?_⟩;rw[hb];have hll:l'.length=l.length:=by rw[<-hb,List.length_mergeSort]
 have hpc:(putCells (Value.int .i64) o l'.toArray cur).size=cur.size:=by simp[putCells]
 have h2:=gd.update (w':=grow (putRow (Value.int .i64) (Go.Sort.ahead w n) g o l'.toArray) os) (P':=own e (.slice (some ⟨g,o,none⟩) l.length cap) l') (i:=0) (by simp) (Gk.one g<|.cells (putCells (Value.int .i64) o l'.toArray cur) e (0,0)) ?_ rfl rfl rfl ?_ ?_ ?_<|Nat.le_add_right _ _
 ·exact⟨M,_,h2⟩
 ·refine .inr ⟨g,o,cap,_,_,by rw[hll],by rw[hll];exact hcap,hmax,rfl,by rw[hpc,hsz1,Nat.mul_one];exact hsz,rfl,?_⟩;rw[hll,hsz1,Nat.mul_one];refine⟨?_,λa x hx=>?_⟩
  ·have e1:(putCells (Value.int .i64) o l'.toArray cur).toList.length=cur.size:=by rw[Array.length_toList,hpc]
   rw[cV,gH,e1,hll,hsz1];omega
  ·have ha:a<l'.length:=(aV.1 hx).1;rw[hsz1,Nat.mul_one,List.drop_take,List.take_take,List.drop_drop];show List.take _ _= [Sc.toV x];apply List.ext_getElem?;intro t;rw[dB,eW]
   by_cases ht:t=0
   ·subst ht;have hin:o+a+0<(putCells (Value.int .i64) o l'.toArray cur).size:=by rw[hpc];omega
    rw[aG (by omega),Array.getElem?_toList,dQ hin];simp only[putCells,Array.getElem_mapIdx,Nat.add_zero,List.size_toArray];rw[aG (by omega)];have e2:o+a - o=a:=by omega
    rw[aO ha]at hx;injection hx with hx
    rw[e2,getElem!_pos l'.toArray a (by simpa using ha)];simp[hx];rfl
   ·rw[aI (by omega),List.getElem?_eq_none (by simp;omega)]
 ·intro b o' hb;obtain⟨rfl,rfl⟩:=fa hb;exact xY _ _ _ _ _ _ hg
 ·intro b o' hb;obtain⟨rfl,rfl⟩:=fa hb;exact .inl ⟨_,by rw[hh];exact bM b _⟩
 ·intro b hb1 hb2;refine wK _ _ _ _ _ _ hb2 λh=>?_;subst h;rw[hh,bM]at hb1;cases hb1
end Go.Gk
namespace Go.Gk
open Go IntKind
theorem zr{α:Type _}{a:α}:a=a:=rfl
theorem zt:True:=True.intro
theorem cg{ops:Array Oper}{U:Nat->Value}{j d:Nat}{a b:Bool}(h:a=b)(h1:(ops[j]?).bind (·.dst)=some d:=by rfl)(h2:U d = .bool a:=by rfl):Wn ops U (some (j,b)):=⟨d,h1,h2.trans<|cb h⟩
abbrev n_:Value:=.slice none 0 0
theorem q_{α β:Type}{o:Option α}{f:α->Option β}{r:β}{G:Prop}(h:o.bind f=some r)(k: ∀x,o=some x->f x=some r->G):G:=by
 cases o with
 | none=>cases h
 | some x=>exact k x rfl h
theorem z_{c:Bool}(v:Value)(h:c=true):cv c v=v:=fz h
end Go.Gk
