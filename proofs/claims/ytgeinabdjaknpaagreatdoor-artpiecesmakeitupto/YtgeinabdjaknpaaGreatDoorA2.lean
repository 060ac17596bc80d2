/-
  Helping texts on the memory of the model. No statement of the seed is proved here.
-/
import Derived.Test.YtgeinabdjaknpaaGreatDoorA1
set_option linter.unusedVariables false
set_option linter.unusedSimpArgs false
set_option linter.unusedSectionVars false
namespace Go.Gk
open Go
def tva:List (Nat×Value)→Nat→Value
  | [],_=>undef
  | (d,v)::r,t=>bif Nat.beq d t then v else tva r t
def tvl:List (Nat×Nat×Value)→List (Nat×Value)→Nat→Value
  | [],ag,t=>tva ag t
  | (_,d,v)::r,ag,t=>bif Nat.beq d t then v else tvl r ag t
def vP (dv:List (Nat×Nat×Value)) (ag:List (Nat×Value)):Operand→Value
  | .tmp t=>tvl dv ag t
  | .const v=>v
  | .global g=> .pointer (some ⟨g,0,none⟩)
  | .func f=> .func (.func f) #[] #[]
def ju (ops:Array Oper) (o:Oper):Operand→Bool
  | .tmp t=>rA ops o t
  | _=>true
def Pu (P:Program) (n:Nat) (ops:Array Oper) (o:Oper) (dv:List (Nat×Nat×Value)) (ag:List (Nat×Value)):Prop:=
  ∀(σ:Nat→Value) (w:World),(∀q,ju ops o q=true→ev σ q=vP dv ag q)→RL P n ops [o] σ w (fun ex σ' w'=>ex = .normal∧w'=w∧∃d,o.dst=some d∧σ'=cP σ d (tvl dv ag d))
section
variable {P:Program} {n:Nat} {ops:Array Oper} {σ:Nat→Value} {w:World} {d:Nat} {v u:Value} {rest:List Oper} {ty T T':TypeId} {pos:String} {af:Array Edge} {g:Option (Nat×Bool)} {x y z:Operand} {Q:eC}
theorem RL.pl (h:v=u):RL P n ops [] (cP σ d v) w (fun ex σ' w'=>ex = .normal∧w'=w∧∃d',(some d:Option Nat)=some d'∧σ'=cP σ d' (bif Nat.beq d d' then u else undef)):=
  RL.nil ⟨rfl,rfl,d,rfl,by rw [Nat.beq_refl,h];rfl⟩
theorem RL.pn {f:Nat→Value} (h:v=f d):RL P n ops [] (cP σ d v) w (fun ex σ' w'=>ex = .normal∧w'=w∧∃d',(some d:Option Nat)=some d'∧σ'=cP σ d' (f d')):=
  RL.nil ⟨rfl,rfl,d,rfl,by rw [h]⟩
theorem RL.CM {b:Bool} (hg:Wn ops σ g) (hd:Nat.blt d n=true) (hx:ev σ x = .bool b) (hb:b=true) (hv:ev σ y=v) (k:RL P n ops rest (cP σ d v) w Q):
    RL P n ops (⟨some d, .pick x y z,ty,pos,af,g⟩::rest) σ w Q:=RL.pick hg hd hx (by rw [if_pos hb];exact hv) k
theorem RL.CN {b:Bool} (hg:Wn ops σ g) (hd:Nat.blt d n=true) (hx:ev σ x = .bool b) (hb:b=false) (hv:ev σ z=v) (k:RL P n ops rest (cP σ d v) w Q):
    RL P n ops (⟨some d, .pick x y z,ty,pos,af,g⟩::rest) σ w Q:=RL.pick hg hd hx (by rw [if_neg (by rw [hb];exact Bool.false_ne_true)];exact hv) k
theorem Wn.k {j t:Nat} {b:Bool} (h1: (ops[j]?).bind (·.dst)=some t) (h:ev σ (.tmp t) = .bool b):Wn ops σ (some (j,b)):=⟨t,h1,h⟩
theorem Wn.h {j t:Nat} {a b:Bool} (h1: (ops[j]?).bind (·.dst)=some t) (h:ev σ (.tmp t) = .bool a) (e:a=b):Wn ops σ (some (j,b)):=⟨t,h1,by rw [←e];exact h⟩
theorem RL.FC {op:Op} {j t:Nat} {a b:Bool} (ht: (ops[j]?).bind (·.dst)=some t) (hv:ev σ (.tmp t) = .bool a) (e:a = !b) (hd:Nat.blt d n=true)
    (k:RL P n ops rest (cP σ d undef) w Q):RL P n ops (⟨some d,op,ty,pos,af,some (j,b)⟩::rest) σ w Q:=RL.skip ht (.inl (by rw [←e];exact hv)) hd k
end
def dfind:List (Nat×Nat×Value)→Nat→Option Nat
  | [],_=>none
  | (k,d,_)::r,t=>bif Nat.beq d t then some k else dfind r t
def yr (ag:List (Nat×Value)) (t:Nat):Bool:=ag.any fun p=>Nat.beq p.1 t
def puOk (ops:Array Oper) (i:Nat) (o:Oper) (cs:List Nat) (dv:List (Nat×Nat×Value)) (ag:List (Nat×Value)) (od:List (Nat×Nat×Value)):Bool:=
  ((o.looksAt ops).all fun t=>match dfind dv t with | some k=>qn o k | none=>yr ag t)&&
  (match o.dst with
    | some d=>Nat.beq (dfind dv d).isNone.toNat 0&&(dv.all fun e=>(!Nat.beq e.1 i||Nat.beq e.2.1 d)&&(!Nat.beq e.2.1 d||Nat.beq e.1 i))&&Nat.beq (dv.filter fun e=>Nat.beq e.2.1 d).length 1&& !yr ag d&&
        (od.all fun e=>Nat.beq e.1 i|| !Nat.beq e.2.1 d)
    | none=>false)&&(cs.all fun c=> !Nat.beq c i)&& !Nat.beq i 999
def puAll (ops:Array Oper) (cs:List Nat) (dv:List (Nat×Nat×Value)) (ag:List (Nat×Value)) (od:List (Nat×Nat×Value)):Nat→List Oper→List Nat→Bool
  | _,[],_=>true
  | _,_::_,[]=>false
  | i,o::l,m::ms=>(!Nat.beq m 1||puOk ops i o cs dv ag od)&&puAll ops cs dv ag od (i+1) l ms
theorem vQ {ops:Array Oper} {cs:List Nat} {dv:List (Nat×Nat×Value)} {ag:List (Nat×Value)} {od:List (Nat×Nat×Value)}: ∀{i:Nat} {l:List Oper} {ms:List Nat},puAll ops cs dv ag od i l ms=true→
    ∀(j:Nat) o,l[j]? =some o→ms[j]? =some 1→puOk ops (i+j) o cs dv ag od=true
  | _,[],_,_,j,o,h,_=>by simp at h
  | _,_::_,[],h0,_,_,_,h=>by simp at h
  | i,p::l,m::ms,h0,0,o,h,hm=>by
    unfold puAll at h0;rw [Bool.and_eq_true] at h0
    simp at h hm;subst h;subst hm
    rcases Bool.or_eq_true _ _▸h0.1 with h | h
    · cases h
    · exact h
  | i,p::l,m::ms,h0,j+1,o,h,hm=>by
    unfold puAll at h0;rw [Bool.and_eq_true] at h0
    have:=vQ h0.2 j o (by simpa using h) (by simpa using hm)
    rw [show i+ (j+1)=i+1+j by omega];exact this
theorem qo {ag:List (Nat×Value)} {t k:Nat}: ∀{dv:List (Nat×Nat×Value)},dfind dv t=some k→∃v,(k,t,v)∈dv∧tvl dv ag t=v
  | [],h=>by cases h
  | (k',d,v)::r,h=>by
    unfold dfind at h
    unfold tvl
    cases hb:Nat.beq d t with
    | true=>
      rw [hb] at h;simp at h;subst h
      have:=Nat.eq_of_beq_eq_true hb;subst this
      exact⟨v,by simp,rfl⟩
    | false=>
      rw [hb] at h
      obtain⟨u,h1,h2⟩:=qo (ag:=ag) h
      exact⟨u,by simp [h1],h2⟩
theorem r9 {ag:List (Nat×Value)} {t:Nat}: ∀{dv:List (Nat×Nat×Value)},dfind dv t=none→tvl dv ag t=tva ag t
  | [],_=>rfl
  | (k',d,v)::r,h=>by
    unfold dfind at h
    unfold tvl
    cases hb:Nat.beq d t with
    | true=>rw [hb] at h;cases h
    | false=>rw [hb] at h;exact r9 h
theorem doneV.mem {D:Nat→Bool} {σ:Nat→Value} {k t:Nat} {v:Value}: ∀{dv:List (Nat×Nat×Value)},doneV D σ dv→(k,t,v)∈dv→D k=true→σ t=v
  | [],_,h,_=>by cases h
  | (i,d,u)::r,hd,h,hD=>by
    rcases List.mem_cons.1 h with e | h
    · injection e with e1 e2;injection e2 with e2 e3;subst e1;subst e2;subst e3;exact hd.1 hD
    · exact hd.2.mem h hD
theorem doneV.of {D:Nat→Bool} {σ:Nat→Value}: ∀{dv:List (Nat×Nat×Value)},(∀k t v,(k,t,v)∈dv→D k=true→σ t=v)→doneV D σ dv
  | [],_=>trivial
  | (i,d,u)::r,h=>⟨h i d u (by simp),doneV.of fun k t v hm=>h k t v (by simp [hm])⟩
theorem agree.tva {σ:Nat→Value} {t:Nat}: ∀{ag:List (Nat×Value)},agree σ ag→yr ag t=true→σ t=tva ag t
  | [],_,h=>by cases h
  | (d,v)::r,ha,h=>by
    unfold Gk.tva
    cases hb:Nat.beq d t with
    | true=>have:=Nat.eq_of_beq_eq_true hb;subst this;exact ha.1
    | false=>
      unfold yr at h;rw [List.any_cons,hb] at h
      exact agree.tva ha.2 h
theorem agree.Fp {σ:Nat→Value} {d:Nat} {v:Value}: ∀{ag:List (Nat×Value)},agree σ ag→yr ag d=false→agree (cP σ d v) ag
  | [],_,_=>trivial
  | (t,u)::r,ha,h=>by
    unfold yr at h;rw [List.any_cons,Bool.or_eq_false_iff] at h
    refine⟨?_,agree.Fp ha.2 h.2⟩
    unfold cP;rw [h.1];exact ha.1
theorem RC.tw {P:Program} {n:Nat} {σ:Nat→Value} {w E:World} {Q:eC} {Γ:List HP} {X:Type} {id:Nat} {l:List Oper} (hm:P.follows .mixedOrders=true) (hdep:og 0 l=true) (ms cs:List Nat) (dv:X→List (Nat×Nat×Value)) (ag:List (Nat×Value)) (od:List (Nat×Nat×Value))
    (g: (Nat→Bool)→X→List HP) (hpu: ∀x,puAll l.toArray cs (dv x) ag od 0 l ms=true)
    (h0: ∃x,doneV (fun _=>false) σ (dv x)∧agree σ ag∧mz (fun _=>false) σ od∧Holds E w.drew (g (fun q=>(fun _=>false) (cs.getD q 999)) x++Γ))
    (step:jD (fun i o=>bif Nat.beq (ms.getD i 0) 1 then (∀x,Pu P n l.toArray o (dv x) ag) else
      (∀D σ w,D i=false→j4 D o.after.toList→mL l D→(∃x,doneV D σ (dv x)∧agree σ ag∧mz D σ od∧Holds E w (g (fun q=>D (cs.getD q 999)) x++Γ))→
        RL P n l.toArray [o] σ w (fun ex σ w=>ex = .normal∧∃x,doneV (ins D i) σ (dv x)∧agree σ ag∧mz (ins D i) σ od∧Holds E w (g (fun q=>ins D i (cs.getD q 999)) x++Γ)))) 0 l)
    (hend: ∀D σ w,(∀i,i<l.length→D i=true)→(∃x,doneV D σ (dv x)∧agree σ ag∧mz D σ od∧Holds E w (g (fun q=>D (cs.getD q 999)) x++Γ))→Q .normal σ w):RC P n (.region id l.toArray true) σ w Q:=by
  refine RC.D1 hm hdep (fun D σ w=>∃x,doneV D σ (dv x)∧agree σ ag∧mz D σ od∧Holds E w (g (fun q=>D (cs.getD q 999)) x++Γ)) h0 ?_ hend
  refine l6 fun i o ho=>?_
  have hs:=step.at i o ho
  rw [Nat.zero_add] at hs ⊢
  cases hmi:Nat.beq (ms.getD i 0) 1 with
  | false=>rw [hmi] at hs;exact hs
  | true=>
    rw [hmi] at hs
    have hs: ∀x,Pu P n l.toArray o (dv x) ag:=hs
    have hms:ms[i]? =some 1:=by
      have:=Nat.eq_of_beq_eq_true hmi
      rw [List.getD_eq_getElem?_getD] at this
      cases e:ms[i]? with
      | none=>rw [e] at this;cases this
      | some m=>rw [e] at this;simp at this;rw [this]
    rintro D σ w hD hdeps hcl ⟨x,hv,ha,hod,hw⟩
    have hok:=vQ (hpu x) i o ho hms
    rw [Nat.zero_add] at hok
    unfold puOk at hok
    simp only [Bool.and_eq_true] at hok
    obtain⟨⟨⟨h1,h2⟩,h3⟩,h4⟩:=hok
    have hsee: ∀q,ju l.toArray o q=true→ev σ q=vP (dv x) ag q:=by
      intro q hq
      cases q with
      | tmp t=>
        have ht:t∈o.looksAt l.toArray:=by
          unfold ju rA at hq
          rw [List.any_eq_true] at hq
          obtain⟨t',h,e⟩:=hq
          have:=Nat.eq_of_beq_eq_true e;subst this;exact h
        have h1t:=List.all_eq_true.1 h1 t ht
        show σ t=tvl (dv x) ag t
        cases hf:dfind (dv x) t with
        | some k=>
          rw [hf] at h1t
          obtain⟨v,hm,hv2⟩:=qo (ag:=ag) hf
          rw [hv2]
          exact hv.mem hm (jy hdeps h1t)
        | none=>
          rw [hf] at h1t
          rw [r9 hf]
          exact ha.tva h1t
      | const v=>rfl
      | global g=>rfl
      | func f=>rfl
    have hrun:=hs x σ w hsee
    intro a haa
    have hr:=hrun a haa
    cases hdst:o.dst with
    | none=>rw [hdst] at h2;cases h2
    | some d=>
      rw [hdst] at h2
      simp only [Bool.and_eq_true] at h2
      obtain⟨⟨⟨⟨e1,e2⟩,e3⟩,e4⟩,e5⟩:=h2
      obtain⟨k0,hf⟩: ∃k,dfind (dv x) d=some k:=by
        cases hf:dfind (dv x) d with
        | some k=>exact⟨k,rfl⟩
        | none=>rw [hf] at e1;cases e1
      obtain⟨v,hmv,hv2⟩:=qo (ag:=ag) hf
      have fin: ∀σ',σ'=cP σ d v→∃x,doneV (ins D i) σ' (dv x)∧agree σ' ag∧mz (ins D i) σ' od∧Holds E w (g (fun q=>ins D i (cs.getD q 999)) x++Γ):=by
        rintro σ' rfl
        refine⟨x,doneV.of fun k t u hm hDk=>?_,ha.Fp (by simpa using e4),hod.up (by
          rw [List.all_eq_true];intro e he
          have:=List.all_eq_true.1 e5 e he
          exact this),?_⟩
        · have he:=List.all_eq_true.1 e2 (k,t,u) hm
          simp only [Bool.and_eq_true,Bool.or_eq_true,Bool.not_eq_true'] at he
          by_cases htd:t=d
          · subst htd
            have hlen:=Nat.eq_of_beq_eq_true e3
            have hm1: (k,t,u)∈(dv x).filter fun e=>Nat.beq e.2.1 t:=by rw [List.mem_filter];exact⟨hm,Nat.beq_refl t⟩
            have hm2: (k0,t,v)∈(dv x).filter fun e=>Nat.beq e.2.1 t:=by rw [List.mem_filter];exact⟨hmv,Nat.beq_refl t⟩
            obtain⟨z,hz⟩:=List.length_eq_one_iff.1 hlen
            rw [hz] at hm1 hm2
            simp at hm1 hm2
            have:=hm1.trans hm2.symm
            injection this with _ this;injection this with _ this
            subst this
            unfold cP;rw [Nat.beq_refl];rfl
          · have hki:k≠i:=fun e=>by
              subst e
              rcases he.1 with h | h
              · rw [Nat.beq_refl] at h;cases h
              · exact htd (Nat.eq_of_beq_eq_true h)
            rw [jS hki] at hDk
            unfold cP
            cases hb:Nat.beq t d with
            | true=>exact absurd (Nat.eq_of_beq_eq_true hb) htd
            | false=>exact hv.mem hm hDk
        · have: (fun q=>ins D i (cs.getD q 999))= (fun q=>D (cs.getD q 999)):=by
            funext q
            refine jS fun e=>?_
            rw [List.getD_eq_getElem?_getD] at e
            cases hq:cs[q]? with
            | some c=>
              rw [hq] at e
              have hc:=List.all_eq_true.1 h3 c (List.mem_of_getElem? hq)
              have e:c=i:=e
              subst e;rw [Nat.beq_refl] at hc;cases hc
            | none=>
              rw [hq] at e
              have e:999=i:=e
              subst e;cases h4
          rw [this];exact hw
      unfold wpList at hr ⊢
      split at hr
      · rename_i hwn
        rw [if_pos hwn]
        rcases hr with hr | ⟨h2,h3⟩
        · refine .inl (rY (fun a w' h=>?_) (fun c a w' h=>?_) (fun h=>?_) hr)
          · obtain⟨σ',hs',_,hw',d',hd',he⟩:=h
            have hd':some d=some d':=by rw [←hdst];exact hd'
            injection hd' with hd';subst hd'
            have hw':w'=w:=hw'
            subst hw'
            exact⟨σ',hs',rfl,fin σ' (by rw [he,hv2])⟩
          · obtain⟨_,_,hbad,_⟩:=h;cases hbad
          · obtain⟨_,_,_,_,hbad,_⟩:=h;cases hbad
        · obtain⟨_,_,_,_,hbad,_⟩:=h3;cases hbad
      · rename_i hwn
        rw [if_neg hwn]
        obtain⟨σ',hs',_,hw',d',hd',he⟩:=hr
        have hd':some d=some d':=by rw [←hdst];exact hd'
        injection hd' with hd';subst hd'
        exact⟨σ',hs',rfl,fin σ' (by rw [he,hv2])⟩
section
variable {P:Program} {n:Nat} {ops:Array Oper} {d:Nat} {v u:Value} {ty T T' t0:TypeId} {pos:String} {af:Array Edge} {g:Option (Nat×Bool)} {q r y z:Operand} {dv:List (Nat×Nat×Value)} {ag:List (Nat×Value)} {a b:Bool} {o:Oper}
def PG (ops:Array Oper) (o:Oper) (dv:List (Nat×Nat×Value)) (ag:List (Nat×Value)) (g:Option (Nat×Bool)):Prop:=∀σ:Nat→Value,(∀q,ju ops o q=true→ev σ q=vP dv ag q)→Wn ops σ g
theorem gn:PG ops o dv ag none:=fun _ _=>trivial
theorem gy {j t:Nat} (e:a=b) (h: ((ops[j]?).bind (·.dst),ju ops o (.tmp t),vP dv ag (.tmp t))= (some t,true, .bool a)):PG ops o dv ag (some (j,b)):=fun σ hs=>by
  injection h with h1 h;injection h with h2 h3
  exact⟨t,h1,by have:=hs (.tmp t) h2;rw [h3,e] at this;exact this⟩
theorem iw {op:Op} {j t:Nat} (e:a = !b) (h: ((ops[j]?).bind (·.dst),ju ops ⟨some d,op,ty,pos,af,some (j,b)⟩ (.tmp t),vP dv ag (.tmp t),Nat.blt d n,undef)= (some t,true, .bool a,true,tvl dv ag d)):
    Pu P n ops ⟨some d,op,ty,pos,af,some (j,b)⟩ dv ag:=fun σ w hs=>by
  injection h with h1 h;injection h with h2 h;injection h with h3 h;injection h with h4 h5
  exact RL.FC h1 ((hs _ h2).trans h3) e h4 (RL.pn h5)
theorem eA (hg:PG ops ⟨some d, .move q,ty,pos,af,g⟩ dv ag g) (h: (Nat.blt d n,ju ops ⟨some d, .move q,ty,pos,af,g⟩ q,vP dv ag q)= (true,true,tvl dv ag d)):Pu P n ops ⟨some d, .move q,ty,pos,af,g⟩ dv ag:=fun σ w hs=>by
  injection h with h1 h;injection h with h2 h3
  exact RL.move (hg σ hs) h1 (hs _ h2) (RL.pn h3)
theorem yt (hg:PG ops ⟨some d, .assign q,ty,pos,af,g⟩ dv ag g) (h: (Nat.blt d n,ju ops ⟨some d, .assign q,ty,pos,af,g⟩ q,vP dv ag q)= (true,true,tvl dv ag d)):Pu P n ops ⟨some d, .assign q,ty,pos,af,g⟩ dv ag:=fun σ w hs=>by
  injection h with h1 h;injection h with h2 h3
  exact RL.assign (hg σ hs) h1 (hs _ h2) (RL.pn h3)
theorem qp {c:Addr} (hg:PG ops ⟨some d, .nilCheck q,ty,pos,af,g⟩ dv ag g) (h: (Nat.blt d n,ju ops ⟨some d, .nilCheck q,ty,pos,af,g⟩ q,vP dv ag q,tvl dv ag d)= (true,true, .pointer (some c), .pointer (some c))):Pu P n ops ⟨some d, .nilCheck q,ty,pos,af,g⟩ dv ag:=fun σ w hs=>by
  injection h with h1 h;injection h with h2 h;injection h with h3 h4
  exact RL.nilCheck (hg σ hs) h1 ((hs _ h2).trans h3) (RL.pn h4.symm)
theorem fN {c o' j m:Nat} (hg:PG ops ⟨some d, .fieldAddr T q j,ty,pos,af,g⟩ dv ag g) (hf:j3 P T j m) (h: (Nat.blt d n,ju ops ⟨some d, .fieldAddr T q j,ty,pos,af,g⟩ q,vP dv ag q,tvl dv ag d)= (true,true, .pointer (some ⟨c,o',none⟩), .pointer (some ⟨c,o'+m,none⟩))):
    Pu P n ops ⟨some d, .fieldAddr T q j,ty,pos,af,g⟩ dv ag:=fun σ w hs=>by
  injection h with h1 h;injection h with h2 h;injection h with h3 h4
  exact RL.bF (hg σ hs) h1 ((hs _ h2).trans h3) hf (RL.pn h4.symm)
theorem yu {bop:BinOp} {K:IntKind} {m k:Int} (hg:PG ops ⟨some d, .binOp bop T q r T',ty,pos,af,g⟩ dv ag g)
    (h: (Nat.blt d n,ju ops ⟨some d, .binOp bop T q r T',ty,pos,af,g⟩ q,ju ops ⟨some d, .binOp bop T q r T',ty,pos,af,g⟩ r,vP dv ag q,vP dv ag r,rk bop,tvl dv ag d)= (true,true,true, .int K m, .int K k,true, .bool (iO bop m k))):
    Pu P n ops ⟨some d, .binOp bop T q r T',ty,pos,af,g⟩ dv ag:=fun σ w hs=>by
  injection h with h1 h;injection h with h2 h;injection h with h3 h;injection h with h4 h;injection h with h5 h;injection h with h6 h7
  exact RL.iO (hg σ hs) h1 ((hs _ h2).trans h4) ((hs _ h3).trans h5) h6 (RL.pn h7.symm)
theorem zH {bop:BinOp} {K:IntKind} {m k:Int} (hg:PG ops ⟨some d, .binOp bop T q r T',ty,pos,af,g⟩ dv ag g)
    (h: (Nat.blt d n,ju ops ⟨some d, .binOp bop T q r T',ty,pos,af,g⟩ q,ju ops ⟨some d, .binOp bop T q r T',ty,pos,af,g⟩ r,vP dv ag q,vP dv ag r,BR bop,tvl dv ag d)= (true,true,true, .int K m, .int K k,true, .int K (K.wrap (gQ bop m k)))):
    Pu P n ops ⟨some d, .binOp bop T q r T',ty,pos,af,g⟩ dv ag:=fun σ w hs=>by
  injection h with h1 h;injection h with h2 h;injection h with h3 h;injection h with h4 h;injection h with h5 h;injection h with h6 h7
  exact RL.gQ (hg σ hs) h1 ((hs _ h2).trans h4) ((hs _ h3).trans h5) h6 (RL.pn h7.symm)
theorem zI (hg:PG ops ⟨some d, .pick q y z,ty,pos,af,g⟩ dv ag g) (e:a=true) (h: (Nat.blt d n,ju ops ⟨some d, .pick q y z,ty,pos,af,g⟩ q,ju ops ⟨some d, .pick q y z,ty,pos,af,g⟩ y,vP dv ag q,vP dv ag y)= (true,true,true, .bool a,tvl dv ag d)):
    Pu P n ops ⟨some d, .pick q y z,ty,pos,af,g⟩ dv ag:=fun σ w hs=>by
  injection h with h1 h;injection h with h2 h;injection h with h3 h;injection h with h4 h5
  exact RL.CM (hg σ hs) h1 ((hs _ h2).trans h4) e (hs _ h3) (RL.pn h5)
theorem zJ (hg:PG ops ⟨some d, .pick q y z,ty,pos,af,g⟩ dv ag g) (e:a=false) (h: (Nat.blt d n,ju ops ⟨some d, .pick q y z,ty,pos,af,g⟩ q,ju ops ⟨some d, .pick q y z,ty,pos,af,g⟩ z,vP dv ag q,vP dv ag z)= (true,true,true, .bool a,tvl dv ag d)):
    Pu P n ops ⟨some d, .pick q y z,ty,pos,af,g⟩ dv ag:=fun σ w hs=>by
  injection h with h1 h;injection h with h2 h;injection h with h3 h;injection h with h4 h5
  exact RL.CN (hg σ hs) h1 ((hs _ h2).trans h4) e (hs _ h3) (RL.pn h5)
end
end Go.Gk
namespace Go.Gk
open Go
def updO (o:Oper) (σ:Nat→Value) (v:Value):Nat→Value:=match o.dst with | some d=>cP σ d v | none=>σ
section
variable {P:Program} {n:Nat} {l:List Oper} {mk:List Nat} {Q:eC} {σ:Nat→Value} {w:World} {i:Nat} {rest:List Nat} {o:Oper}
def DP (P:Program) (n:Nat) (l:List Oper) (mk:List Nat) (Q:eC): (World→Prop)→List Nat→(Nat→Value)→World→Prop
  | _,[],σ,w=>Q .normal σ w
  | S,i::rest,σ,w=>∃o,l[i]? =some o∧
    ((mk.getD i 0=0∧RL P n l.toArray [o] σ w (fun ex σ' w'=>ex = .normal∧w'=w∧DP P n l mk Q S rest σ' w))∨
     (mk.getD i 0=1∧∃v,(∀w',S w'→RL P n l.toArray [o] σ w' (fun ex σ' w''=>ex = .normal∧w''=w'∧σ'=updO o σ v))∧DP P n l mk Q S rest (updO o σ v) w)∨
     (mk.getD i 0=2∧RL P n l.toArray [o] σ w (fun ex σ' w'=>ex = .normal∧S w'∧DP P n l mk Q S rest σ' w'))∨
     (mk.getD i 0=3∧∃T q b m row e ag k,o.op = .load T q∧ev σ q = .pointer (some ⟨b,m,none⟩)∧jP P T ag k∧m+k≤row.size∧m<row.size∧w.heap[b]? =some (.cells row e (0,0))∧
       RL P n l.toArray [o] σ w (fun ex σ' w'=>ex = .normal∧w'=w∧DP P n l mk Q (fun w2=>S w2∧w2.heap[b]? =some (.cells row e (0,0))) rest σ' w)))
section
variable {S:World→Prop}
theorem DP.e0 (ho:l[i]? =some o) (hm:mk.getD i 0=0) (h:RL P n l.toArray [o] σ w (fun ex σ' w'=>ex = .normal∧w'=w∧DP P n l mk Q S rest σ' w)):DP P n l mk Q S (i::rest) σ w:=⟨o,ho, .inl ⟨hm,h⟩⟩
theorem DP.e1 (v:Value) (ho:l[i]? =some o) (hm:mk.getD i 0=1) (h1: ∀w',RL P n l.toArray [o] σ w' (fun ex σ' w''=>ex = .normal∧w''=w'∧σ'=updO o σ v)) (h:DP P n l mk Q S rest (updO o σ v) w):DP P n l mk Q S (i::rest) σ w:=⟨o,ho, .inr (.inl ⟨hm,v,fun w' _=>h1 w',h⟩)⟩
theorem DP.e2 (ho:l[i]? =some o) (hm:mk.getD i 0=2) (h:RL P n l.toArray [o] σ w (fun ex σ' w'=>ex = .normal∧S w'∧DP P n l mk Q S rest σ' w')):DP P n l mk Q S (i::rest) σ w:=⟨o,ho, .inr (.inr (.inl ⟨hm,h⟩))⟩
theorem DP.e3 {T e:TypeId} {q:Operand} {b m k:Nat} {row:Array Value} {ag:Bool} (ho:l[i]? =some o) (hm:mk.getD i 0=3) (hop:o.op = .load T q) (hp:ev σ q = .pointer (some ⟨b,m,none⟩)) (hT:jP P T ag k) (hh:w.heap[b]? =some (.cells row e (0,0))∧m+k≤row.size∧m<row.size)
    (h:RL P n l.toArray [o] σ w (fun ex σ' w'=>ex = .normal∧w'=w∧DP P n l mk Q (fun w2=>S w2∧w2.heap[b]? =some (.cells row e (0,0))) rest σ' w)):DP P n l mk Q S (i::rest) σ w:=
  ⟨o,ho, .inr (.inr (.inr ⟨hm,T,q,b,m,row,e,ag,k,hop,hp,hT,hh.2.1,hh.2.2,hh.1,h⟩))⟩
theorem DP.z (h:Q .normal σ w):DP P n l mk Q S [] σ w:=by unfold DP;exact h
theorem DP.d0 {ops:Array Oper} (h:DP P n l mk Q S rest σ w):RL P n ops [] σ w (fun ex σ' w'=>ex = .normal∧w'=w∧DP P n l mk Q S rest σ' w):=RL.nil ⟨rfl,rfl,h⟩
theorem DP.d2 {ops:Array Oper} (hS:S w) (h:DP P n l mk Q S rest σ w):RL P n ops [] σ w (fun ex σ' w'=>ex = .normal∧S w'∧DP P n l mk Q S rest σ' w'):=RL.nil ⟨rfl,hS,h⟩
theorem DP.d1 {ops:Array Oper} {σ0:Nat→Value} (h:σ=σ0):RL P n ops [] σ w (fun ex σ' w'=>ex = .normal∧w'=w∧σ'=σ0):=RL.nil ⟨rfl,rfl,h⟩
end
end
section
variable {P:Program} {n:Nat} {ops:Array Oper} {σ:Nat→Value} {w:World} {o:Oper}
theorem uz {a:Act} {d:Nat} {C: (Nat→Value)→Prop} (hs:Sl n σ a) (hk:mO o.op=true) (hd:o.dst=some d) (hdn:Nat.blt d n=true)
    (h:RL P n ops [o] σ w (fun ex σ' w'=>ex = .normal∧w'=w∧C σ')): ∃v,vm P ops w a o v∧C (cP σ d v):=by
  have h1:=h a hs
  unfold wpList at h1
  split at h1
  · rename_i hw
    rcases h1 with h1 | ⟨_,h1⟩
    · unfold Oper.wp at h1
      cases hr: (execOp a.eval o).run P w with
      | ok nx w'=>
        rw [hr] at h1
        obtain⟨v,rfl⟩:=vM hk hr
        obtain⟨σ',hs',_,hw',hrest⟩:=h1
        have hw':w'=w:=hw'
        subst hw'
        rw [hd] at hs'
        have:=hs'.uniq (hs.put hdn v)
        subst this
        exact⟨v, .inl ⟨hw,hr⟩,hrest⟩
      | halt x w'=>
        rw [hr] at h1
        cases x with
        | panic v=>obtain⟨_,_,hbad,_⟩:=h1;cases hbad
        | _=>exact h1.elim
    · obtain⟨_,_,_,_,hbad,_⟩:=h1;cases hbad
  · rename_i hw
    obtain⟨σ',hs',_,_,hrest⟩:=h1
    rw [hd] at hs'
    have:=hs'.uniq (hs.put hdn undef)
    subst this
    exact⟨undef, .inr ⟨by simpa using hw,rfl⟩,hrest⟩
end
theorem vR {P:Program} {w:World} {b k:Nat} {row:Array Value} {e:TypeId} (h:w.heap[b]? =some (.cells row e (0,0))) (hk:k<row.size): (load ⟨b,k,none⟩).run P w = .ok row[k] w:=by
  have hc:w.cell? ⟨b,k,none⟩=some row[k]:=by rw [cell_of_row w b _ _ _ _ h];simp [hk]
  unfold load
  simp only [Sem.run,hc]
theorem tT {P:Program} {b k:Nat} {row:Array Value} {e:TypeId}: ∀(n i:Nat) (acc:Array Value),k+i+n≤row.size→∃cs,∀w:World,w.heap[b]? =some (.cells row e (0,0))→(loadCellsFrom ⟨b,k,none⟩ i n acc).run P w = .ok cs w
  | 0,i,acc,_=>⟨acc,fun w _=>rfl⟩
  | n+1,i,acc,h=>by
    obtain⟨cs,hcs⟩:=tT (P:=P) (b:=b) (k:=k) (row:=row) (e:=e) n (i+1) (acc.push (row[k+i]'(by omega))) (by omega)
    refine⟨cs,fun w hw=>?_⟩
    unfold loadCellsFrom
    have hl:=vR (P:=P) (k:=k+i) hw (by omega)
    rw [Sem.run_bind,Addr.add_lit,hl]
    exact hcs w hw
theorem vS {P:Program} {b k m:Nat} {row:Array Value} {e:TypeId} {T:TypeId} {ag:Bool} (hT:jP P T ag m) (h1:k+m≤row.size) (h2:k<row.size): ∃v,∀w:World,w.heap[b]? =some (.cells row e (0,0))→(loadVar T ⟨b,k,none⟩).run P w = .ok v w:=by
  cases ag with
  | false=>
    refine⟨row[k],fun w hw=>?_⟩
    unfold loadVar
    rw [Sem.run_bind,hT.BD]
    exact vR hw h2
  | true=>
    obtain⟨cs,hcs⟩:=tT (P:=P) (b:=b) (k:=k) (row:=row) (e:=e) m 0 #[] (by omega)
    refine⟨.agg cs,fun w hw=>?_⟩
    unfold loadVar
    rw [Sem.run_bind,hT.BD]
    simp only [Result.andThen,if_true]
    rw [Sem.run_bind,hT.sz]
    simp only [Result.andThen]
    rw [Sem.run_bind]
    have:=hcs w hw
    unfold loadCells
    rw [this];rfl
theorem zK {P:Program} {ops:Array Oper} {w w2:World} {a:Act} {n:Nat} {σ:Nat→Value} {o:Oper} {T e0:TypeId} {q:Operand} {b m k:Nat} {v:Value} {row:Array Value} {ag:Bool} (hs:Sl n σ a) (ho:o.op = .load T q) (hp:ev σ q = .pointer (some ⟨b,m,none⟩))
    (hT:jP P T ag k) (h1:m+k≤row.size) (h2:m<row.size) (hw:w.heap[b]? =some (.cells row e0 (0,0))) (hw2:w2.heap[b]? =some (.cells row e0 (0,0))) (hst:vm P ops w a o v):vm P ops w2 a o v:=by
  rcases hst with ⟨h3,h4⟩ | h3
  · refine .inl ⟨h3,?_⟩
    obtain⟨dst,op,ty,pos,af,g⟩:=o
    have ho:op = .load T q:=ho
    subst ho
    have e: ∀w,(execOp a.eval ⟨dst, .load T q,ty,pos,af,g⟩).run P w= ((loadVar T ⟨b,m,none⟩).run P w).andThen fun v w=> .ok (.value v) w:=fun w=>by
      simp only [execOp,hs.ev,hp,Instr.loadAt,Instr.sureAddr,Sem.run_bind,Sem.run_pure,Result.andThen_ok]
    rw [e] at h4 ⊢
    obtain⟨u,hu⟩:=vS (b:=b) (e:=e0) hT h1 h2
    rw [hu w hw] at h4
    rw [hu w2 hw2]
    simp only [Result.andThen] at h4 ⊢
    injection h4 with h5 _
    rw [h5]
  · exact .inr h3
def updX (l:List Oper) (σ:Nat→Value):List Nat→List Value→(Nat→Value)
  | i::is,v::vs=>updX l (match l[i]? with | some o=>updO o σ v | none=>σ) is vs
  | _,_=>σ
section
variable {l:List Oper}
theorem rm (σ:Nat→Value): ∀(is js:List Nat) (vs us:List Value),vs.length=is.length→updX l σ (is++js) (vs++us)=updX l (updX l σ is vs) js us
  | [],js,[],us,_=>rfl
  | i::is,js,v::vs,us,h=>by
    rw [List.cons_append,List.cons_append]
    unfold updX
    rw [rm _ is js vs us (by simpa using h)]
    cases js <;> cases us <;> rfl
  | [],_,_::_,_,h=>by cases h
  | _::_,_,[],_,h=>by cases h
theorem uA {o:Oper} {σ:Nat→Value} {v:Value} {t:Nat} (h:o.dst≠some t):updO o σ v t=σ t:=by
  unfold updO
  cases hd:o.dst with
  | none=>rfl
  | some d=>
    have hne:t≠d:=fun e=>h (by rw [hd,e])
    show cP σ d v t=σ t
    unfold cP
    cases hb:Nat.beq t d with
    | true=>exact absurd (Nat.eq_of_beq_eq_true hb) hne
    | false=>rfl
theorem xR {o:Oper} {σ:Nat→Value} {v:Value} {t:Nat} (h:o.dst=some t):updO o σ v t=v:=by
  unfold updO
  rw [h]
  show cP σ t v t=v
  unfold cP;rw [Nat.beq_refl];rfl
theorem lA {t:Nat}: ∀(is:List Nat) (vs:List Value) (σ:Nat→Value),(∀i∈is,∀o,l[i]? =some o→o.dst≠some t)→updX l σ is vs t=σ t
  | [],_,σ,_=>rfl
  | _::_,[],σ,_=>rfl
  | i::is,v::vs,σ,h=>by
    unfold updX
    rw [lA is vs _ (fun j hj=>h j (by simp [hj]))]
    cases ho:l[i]? with
    | none=>rfl
    | some o=>exact uA (h i (by simp) o ho)
theorem uB {t:Nat}: ∀(is:List Nat) (vs:List Value) (σ:Nat→Value) (j i:Nat) (o:Oper) (v:Value),is[j]? =some i→vs[j]? =some v→l[i]? =some o→o.dst=some t→
    (∀(k:Nat) i' o',is[k]? =some i'→l[i']? =some o'→k≠j→o'.dst≠some t)→updX l σ is vs t=v
  | [],_,_,_,_,_,_,h,_,_,_,_=>by simp at h
  | _::_,[],_,_,_,_,_,_,h,_,_,_=>by simp at h
  | i0::is,v0::vs,σ,0,i,o,v,hi,hv,ho,hd,hu=>by
    simp at hi hv;subst hi;subst hv
    unfold updX
    rw [lA is vs _ (fun j hj o' ho'=>by
      obtain⟨k,hk⟩:=List.mem_iff_getElem?.1 hj
      exact hu (k+1) j o' (by simpa using hk) ho' (by omega)),ho]
    exact xR hd
  | i0::is,v0::vs,σ,j+1,i,o,v,hi,hv,ho,hd,hu=>by
    unfold updX
    exact uB is vs _ j i o v (by simpa using hi) (by simpa using hv) ho hd (fun k i2 o2 hk ho2 hne=>hu (k+1) i2 o2 (by simpa using hk) ho2 (by omega))
end
inductive kq (l:List Oper):Nat→Nat→Prop
  | edge {i k:Nat} {o:Oper}:l[i]? =some o→qn o k=true→kq l i k
  | trans {i j k:Nat}:kq l i j→kq l j k→kq l i k
theorem kq.first {l:List Oper} {i k:Nat} (h:kq l i k): ∃o j,l[i]? =some o∧qn o j=true∧(j=k∨kq l j k):=by
  induction h with
  | edge ho he=>exact⟨_,_,ho,he, .inl rfl⟩
  | trans h1 h2 ih1 ih2=>
    obtain⟨o,j,ho,he,hr⟩:=ih1
    rcases hr with rfl | hr
    · exact⟨o,_,ho,he, .inr h2⟩
    · exact⟨o,j,ho,he, .inr (hr.trans h2)⟩
theorem kq.done {l:List Oper} {D:Nat→Bool} (hcl:mL l D) {i k:Nat} (h:kq l i k): (∃o,l[i]? =some o∧j4 D o.after.toList)→D k=true:=by
  induction h with
  | edge ho he=>
    rintro⟨o2,ho2,hd⟩
    rw [ho] at ho2;injection ho2 with ho2;subst ho2
    exact jy hd he
  | trans h1 h2 ih1 ih2=>
    intro hd
    have hj:=ih1 hd
    obtain⟨o,_,ho,_,_⟩:=h2.first
    exact ih2 ⟨o,ho,hcl _ o ho hj⟩
def eMask (acc:List Nat):List Edge→Nat
  | []=>0
  | e::r=>bif Region.binds .any e then Nat.lor (Nat.lor (Nat.shiftLeft 1 e.on) (acc.getD e.on 0)) (eMask acc r) else eMask acc r
def ancs:List Oper→List Nat→List Nat
  | [],acc=>acc
  | o::l,acc=>ancs l (acc++[eMask acc o.after.toList])
def Sound (l:List Oper) (acc:List Nat):Prop:=∀i k,Nat.testBit (acc.getD i 0) k=true→kq l i k
theorem sd {l:List Oper} {acc:List Nat} {i k:Nat} {o:Oper} (hs:Sound l acc) (ho:l[i]? =some o): ∀(es:List Edge),(∀e∈es,e∈o.after.toList)→Nat.testBit (eMask acc es) k=true→kq l i k
  | [],_,h=>by unfold eMask at h;simp at h
  | e::r,hm,h=>by
    unfold eMask at h
    cases hb:Region.binds .any e with
    | false=>rw [hb] at h;exact sd hs ho r (fun e he=>hm e (by simp [he])) h
    | true=>
      rw [hb] at h
      have h:Nat.testBit (((1 <<< e.on)||| acc.getD e.on 0)||| eMask acc r) k=true:=h
      rw [Nat.testBit_or,Nat.testBit_or,Bool.or_eq_true,Bool.or_eq_true] at h
      have hedge: ∀k,e.on=k→qn o k=true:=fun k hk=>by
        subst hk
        unfold qn
        rw [List.any_eq_true]
        exact⟨e,hm e (by simp),by rw [hb,Nat.beq_refl];rfl⟩
      rcases h with (h | h) | h
      · rw [Nat.one_shiftLeft,Nat.testBit_two_pow,decide_eq_true_eq] at h
        exact .edge ho (hedge k h)
      · exact .trans (.edge ho (hedge e.on rfl)) (hs e.on k h)
      · exact sd hs ho r (fun e he=>hm e (by simp [he])) h
theorem xS: ∀(l l0:List Oper) (acc:List Nat),(∀(j:Nat),l[j]? =l0[acc.length+j]?)→Sound l0 acc→Sound l0 (ancs l acc)
  | [],_,_,_,h=>h
  | o::l,l0,acc,hl,h=>by
    unfold ancs
    refine xS l l0 _ (fun j=>?_) fun i k hb=>?_
    · have:=hl (j+1)
      rw [List.length_append,List.length_cons,List.length_nil]
      rw [show acc.length+ (0+1)+j=acc.length+ (j+1) by omega,←this];simp
    · rw [List.getD_eq_getElem?_getD,List.getElem?_append] at hb
      split at hb
      · rw [←List.getD_eq_getElem?_getD] at hb;exact h i k hb
      · rename_i hlt
        by_cases he:i=acc.length
        · subst he
          simp at hb
          have ho:=hl 0
          exact sd h (o:=o) (by rw [Nat.add_zero] at ho;rw [←ho];rfl) _ (fun e he=>he) hb
        · have: (i - acc.length)≠0:=by omega
          rw [List.getElem?_eq_none (by simp;omega)] at hb
          simp at hb
def uC (ops:Array Oper) (i:Nat) (o:Oper) (k:Nat) (o':Oper):Bool:=
  Nat.beq i k||match o'.dst with
    | some d=>(match o.dst with | some d2=> !Nat.beq d d2 | none=>true)&&(!rA ops o d||(bif Nat.blt k i then qn o k else qn o' i))
    | none=>true
def pairRow (ops:Array Oper) (i:Nat) (o:Oper):Nat→List Oper→Bool
  | _,[]=>true
  | k,o'::l=>uC ops i o k o'&&pairRow ops i o (k+1) l
def CO:Op→Bool | .select .. =>false | _=>true
def kindOk (n:Nat) (o:Oper) (m:Nat):Bool:=CO o.op&&(bif Nat.beq m 2 then (match o.dst with | some d=>Nat.blt d n | none=>true) else mO o.op&&(match o.dst with | some d=>Nat.blt d n | none=>false))
def sf (n:Nat) (ops:Array Oper) (l:List Oper) (mk:List Nat):Nat→List Oper→Bool
  | _,[]=>true
  | i,o::l'=>kindOk n o (mk.getD i 0)&&pairRow ops i o 0 l&&sf n ops l mk (i+1) l'
def ordOk (A mk:List Nat):List Nat→List Nat→Bool
  | _,[]=>true
  | pre,i::post=>(bif Nat.beq (mk.getD i 0) 2 then (post.all fun q=>Nat.testBit (A.getD q 0) i)&&(pre.all fun q=>Nat.beq (mk.getD q 0) 1||Nat.beq (mk.getD q 0) 3||Nat.testBit (A.getD i 0) q) else true)&&ordOk A mk (pre++[i]) post
def nodupB:List Nat→Bool
  | []=>true
  | a::l=> !(l.any fun b=>Nat.beq a b)&&nodupB l
def zL (l:List Oper):List Nat→Bool
  | []=>true
  | i::post=>(match l[i]? with | some o=>post.all fun q=> !qn o q | none=>true)&&zL l post
theorem uD {l:List Oper}: ∀{ord:List Nat},zL l ord=true→∀(p1:List Nat) (i:Nat) (p2:List Nat),ord=p1++i::p2→∀o,l[i]? =some o→∀q∈p2,qn o q=false
  | [],_,p1,i,p2,e,_,_,_,_=>by cases p1 <;> cases e
  | a::ord,h,[],i,p2,e,o,ho,q,hq=>by
    injection e with e1 e2;subst e1;subst e2
    unfold zL at h
    rw [ho,Bool.and_eq_true] at h
    have:=List.all_eq_true.1 h.1 q hq
    rwa [Bool.not_eq_true'] at this
  | a::ord,h,b::p1,i,p2,e,o,ho,q,hq=>by
    injection e with e1 e2
    unfold zL at h
    rw [Bool.and_eq_true] at h
    exact uD h.2 p1 i p2 e2 o ho q hq
def BG (n:Nat) (l:List Oper) (mk ord:List Nat):Bool:=
  nodupB ord&&(List.range l.length).all (fun i=>ord.any fun j=>Nat.beq i j)&&(ord.all fun i=>Nat.blt i l.length)&&sf n l.toArray l mk 0 l&&ordOk (ancs l []) mk [] ord&&zL l ord
theorem tU: ∀{l:List Nat},nodupB l=true→l.Nodup
  | [],_=>List.nodup_nil
  | a::l,h=>by
    unfold nodupB at h
    rw [Bool.and_eq_true,Bool.not_eq_true'] at h
    refine List.nodup_cons.2 ⟨fun hm=>?_,tU h.2⟩
    have: (l.any fun b=>Nat.beq a b)=true:=List.any_eq_true.2 ⟨a,hm,Nat.beq_refl a⟩
    rw [this] at h;cases h.1
theorem oC {ops:Array Oper} {i:Nat} {o:Oper}: ∀{k:Nat} {l:List Oper},pairRow ops i o k l=true→∀(j:Nat) o',l[j]? =some o'→uC ops i o (k+j) o'=true
  | _,[],_,j,o',h=>by simp at h
  | k,p::l,hs,0,o',h=>by
    unfold pairRow at hs;rw [Bool.and_eq_true] at hs
    simp at h;subst h;exact hs.1
  | k,p::l,hs,j+1,o',h=>by
    unfold pairRow at hs;rw [Bool.and_eq_true] at hs
    have:=oC hs.2 j o' (by simpa using h)
    rw [show k+ (j+1)=k+1+j by omega];exact this
theorem tV {n:Nat} {ops:Array Oper} {l0:List Oper} {mk:List Nat}: ∀{i:Nat} {l:List Oper},sf n ops l0 mk i l=true→∀(j:Nat) o,l[j]? =some o→kindOk n o (mk.getD (i+j) 0)=true∧pairRow ops (i+j) o 0 l0=true
  | _,[],_,j,o',h=>by simp at h
  | i,p::l,hs,0,o',h=>by
    unfold sf at hs;simp only [Bool.and_eq_true] at hs
    simp at h;subst h;exact hs.1
  | i,p::l,hs,j+1,o',h=>by
    unfold sf at hs;simp only [Bool.and_eq_true] at hs
    have:=tV hs.2 j o' (by simpa using h)
    rw [show i+ (j+1)=i+1+j by omega];exact this
theorem vT {A mk:List Nat}: ∀{post pre:List Nat},ordOk A mk pre post=true→∀(p1:List Nat) (i:Nat) (p2:List Nat),post=p1++i::p2→mk.getD i 0=2→
    (∀q∈p2,Nat.testBit (A.getD q 0) i=true)∧(∀q∈pre++p1,(mk.getD q 0=1∨mk.getD q 0=3)∨Nat.testBit (A.getD i 0) q=true)
  | [],_,_,p1,i,p2,e,_=>by cases p1 <;> cases e
  | a::post,pre,h,[],i,p2,e,hm=>by
    injection e with e1 e2;subst e1;subst e2
    unfold ordOk at h
    rw [hm] at h
    simp only [Nat.beq_refl,cond_true,Bool.and_eq_true] at h
    refine⟨fun q hq=>List.all_eq_true.1 h.1.1 q hq,fun q hq=>?_⟩
    have:=List.all_eq_true.1 h.1.2 q (by simpa using hq)
    rw [Bool.or_eq_true,Bool.or_eq_true] at this
    rcases this with (h | h) | h
    · exact .inl (.inl (Nat.eq_of_beq_eq_true h))
    · exact .inl (.inr (Nat.eq_of_beq_eq_true h))
    · exact .inr h
  | a::post,pre,h,b::p1,i,p2,e,hm=>by
    injection e with e1 e2;subst e1
    unfold ordOk at h
    rw [Bool.and_eq_true] at h
    have:=vT h.2 p1 i p2 e2 hm
    refine⟨this.1,fun q hq=>this.2 q (by simpa using hq)⟩
theorem tx {P:Program} {o:Oper} {a a':Act} {next next':Act→World→Prop} {Qf Qf':Exit→Act→World→Prop} {r:Result Next} (ha:a.defers= [])
    (hn: ∀v w,next (a.put o.dst v) w→next' (a'.put o.dst v) w) (hdf: ∀(b:Act) w,next b w→b.defers= []) (hp: ∀c b w,¬Qf (.panic c) b w) (hl: ¬LetsOut Qf) (h:o.upon P a next Qf r):o.upon P a' next' Qf' r:=by
  cases r with
  | ok nx w'=>
    cases nx with
    | value v=>exact hn v w' h
    | skip=>exact hn undef w' h
    | defer d=>
      have h:next ({a with defers:=d::a.defers}.put o.dst undef) w':=h
      have:=hdf _ _ h
      cases hd:o.dst with
      | none=>rw [hd] at this;cases this
      | some t=>rw [hd] at this;cases this
    | enter f args=>
      refine Calls.mono h fun e w'' he=>?_
      cases e with
      | returned v=>exact hn v w'' he
      | panicked c=>exact(hp _ _ _ he).elim
      | outgrown=>exact(hl he).elim
    | row row args=>exact Rows.mono h fun v w'' he=>hn v w'' he
    | _=>exact h.elim
  | halt x w'=>
    cases x with
    | panic v=>exact(hp _ _ _ h).elim
    | _=>exact h.elim
section
variable {P:Program} {n:Nat} {l:List Oper} {mk:List Nat} {Q:eC}
theorem DP.norm: ∀(ord:List Nat) (S:World→Prop) (σ:Nat→Value) (w:World) (a:Act),Sl n σ a→S w→(∀i∈ord,∀o,l[i]? =some o→kindOk n o (mk.getD i 0)=true)→DP P n l mk Q S ord σ w→
    ∃pre vs post a' S',ord=pre++post∧vs.length=pre.length∧Sl n (updX l σ pre vs) a'∧DP P n l mk Q S' post (updX l σ pre vs) w∧(∀e rest,post=e::rest→mk.getD e 0=2)∧
      (∀(j i:Nat) v,pre[j]? =some i→vs[j]? =some v→mk.getD i 0≠2∧∃o aj,l[i]? =some o∧Sl n (updX l σ (pre.take j) (vs.take j)) aj∧
        ((mk.getD i 0≠0∧∀w2,S' w2→vm P l.toArray w2 aj o v)∨(mk.getD i 0=0∧vm P l.toArray w aj o v)))∧S' w∧(∀w2,S' w2→S w2):=by
  intro ord
  induction ord with
  | nil=>intro S σ w a hs hS _ h;exact⟨[],[],[],a,S,rfl,rfl,hs,h,fun _ _ e=>(by cases e),fun j i v hi=>(by simp at hi),hS,fun _ h=>h⟩
  | cons i ord ih=>
    intro S σ w a hs hS hk h
    have h0:=h
    unfold DP at h
    obtain⟨o,ho,h⟩:=h
    have hko:=hk i (by simp) o ho
    have cont: ∀(S1:World→Prop) v d,o.dst=some d→Nat.blt d n=true→mk.getD i 0≠2→S1 w→(∀w2,S1 w2→S w2)→((mk.getD i 0≠0∧∀w2,S1 w2→vm P l.toArray w2 a o v)∨(mk.getD i 0=0∧vm P l.toArray w a o v))→DP P n l mk Q S1 ord (cP σ d v) w→
        ∃pre vs post a' S',i::ord=pre++post∧vs.length=pre.length∧Sl n (updX l σ pre vs) a'∧DP P n l mk Q S' post (updX l σ pre vs) w∧(∀e rest,post=e::rest→mk.getD e 0=2)∧
          (∀(j i:Nat) v,pre[j]? =some i→vs[j]? =some v→mk.getD i 0≠2∧∃o aj,l[i]? =some o∧Sl n (updX l σ (pre.take j) (vs.take j)) aj∧
            ((mk.getD i 0≠0∧∀w2,S' w2→vm P l.toArray w2 aj o v)∨(mk.getD i 0=0∧vm P l.toArray w aj o v)))∧S' w∧(∀w2,S' w2→S w2):=by
      intro S1 v d hd hdn hn2 hS1 hSS hev hrest
      have hstep: ∀is us,updX l σ (i::is) (v::us)=updX l (cP σ d v) is us:=fun is us=>by
        unfold updX
        rw [ho]
        have:updO o σ v=cP σ d v:=by unfold updO;rw [hd]
        simp only [this]
        cases is <;> cases us <;> rfl
      obtain⟨pre,vs,post,a',S',e1,e2,e3,e4,e5,e6,e7,e8⟩:=ih S1 (cP σ d v) w _ (hs.put hdn v) hS1 (fun j hj=>hk j (by simp [hj])) hrest
      refine⟨i::pre,v::vs,post,a',S',by rw [e1];rfl,by simp [e2],by rw [hstep];exact e3,by rw [hstep];exact e4,e5,fun j i' v' hi' hv'=>?_,e7,fun w2 h=>hSS w2 (e8 w2 h)⟩
      cases j with
      | zero=>
        simp at hi' hv';subst hi';subst hv'
        refine⟨hn2,o,a,ho,hs,?_⟩
        rcases hev with ⟨h1,h2⟩ | h1
        · exact .inl ⟨h1,fun w2 h=>h2 w2 (e8 w2 h)⟩
        · exact .inr h1
      | succ j=>
        obtain⟨hn,o',aj,h1,h2,h3⟩:=e6 j i' v' (by simpa using hi') (by simpa using hv')
        exact⟨hn,o',aj,h1,by rw [List.take_succ_cons,List.take_succ_cons,hstep];exact h2,h3⟩
    unfold kindOk at hko
    rw [Bool.and_eq_true] at hko
    have dst:mk.getD i 0≠2→mO o.op=true∧∃d,o.dst=some d∧Nat.blt d n=true:=fun hn=>by
      have hk2:=hko.2
      have hb:Nat.beq (mk.getD i 0) 2=false:=by
        cases hx:Nat.beq (mk.getD i 0) 2 with
        | false=>rfl
        | true=>exact absurd (Nat.eq_of_beq_eq_true hx) hn
      rw [hb,cond_false,Bool.and_eq_true] at hk2
      refine⟨hk2.1,?_⟩
      cases hd:o.dst with
      | none=>rw [hd] at hk2;cases hk2.2
      | some d=>rw [hd] at hk2;exact⟨d,rfl,hk2.2⟩
    rcases h with ⟨hm,h⟩ | ⟨hm,v,h1,h⟩ | ⟨hm,h⟩ | ⟨hm,T,q,b,m,row,e,ag,k,hop,hp,hT,h3,h4,hh,h⟩
    · have hn2:mk.getD i 0≠2:=by rw [hm];decide
      obtain⟨hr,d,hd,hdn⟩:=dst hn2
      obtain⟨v,hst,hrest⟩:=uz (C:=fun σ'=>DP P n l mk Q S ord σ' w) hs hr hd hdn h
      exact cont S v d hd hdn hn2 hS (fun _ h=>h) (.inr ⟨hm,hst⟩) hrest
    · have hn2:mk.getD i 0≠2:=by rw [hm];decide
      obtain⟨hr,d,hd,hdn⟩:=dst hn2
      have hu:updO o σ v=cP σ d v:=by unfold updO;rw [hd]
      rw [hu] at h
      refine cont S v d hd hdn hn2 hS (fun _ h=>h) (.inl ⟨by rw [hm];decide,fun w2 hS2=>?_⟩) h
      obtain⟨v',hst,he⟩:=uz (C:=fun σ'=>σ'=updO o σ v) hs hr hd hdn (h1 w2 hS2)
      rw [hu] at he
      have:=congrFun he d
      unfold cP at this
      rw [Nat.beq_refl] at this
      have:v'=v:=this
      subst this;exact hst
    · exact⟨[],[],i::ord,a,S,rfl,rfl,hs,h0,fun e rest he=>by injection he with h1 _;subst h1;exact hm,fun j i v hi=>(by simp at hi),hS,fun _ h=>h⟩
    · have hn2:mk.getD i 0≠2:=by rw [hm];decide
      obtain⟨hr,d,hd,hdn⟩:=dst hn2
      obtain⟨v,hst,hrest⟩:=uz (C:=fun σ'=>DP P n l mk Q (fun w2=>S w2∧w2.heap[b]? =some (.cells row e (0,0))) ord σ' w) hs hr hd hdn h
      exact cont _ v d hd hdn hn2 ⟨hS,hh⟩ (fun _ h=>h.1) (.inl ⟨by rw [hm];decide,fun w2 hS2=>zK hs hop hp hT h3 h4 hh hS2.2 hst⟩) hrest
theorem RC.BH {σ:Nat→Value} {w:World} {id:Nat} (hm:P.follows .mixedOrders=true) (hdep:og 0 l=true) (mk ord:List Nat) (hc:BG n l mk ord=true) (h:DP P n l mk Q (fun _=>True) ord σ w.drew):RC P n (.region id l.toArray true) σ w Q:=by
  intro a0 ha0
  unfold BG at hc
  simp only [Bool.and_eq_true] at hc
  obtain⟨⟨⟨⟨⟨c1,c2⟩,c3⟩,c4⟩,c5⟩,c6⟩:=hc
  have hnd:=tU c1
  have hall: ∀i,i<l.length→i∈ord:=fun i hi=>by
    have:=List.all_eq_true.1 c2 i (by simpa using hi)
    obtain⟨j,hj,e⟩:=List.any_eq_true.1 this
    rw [Nat.eq_of_beq_eq_true e];exact hj
  have hlt: ∀i∈ord,i<l.length:=fun i hi=>Nat.blt_eq▸List.all_eq_true.1 c3 i hi
  have hK: ∀i o,l[i]? =some o→kindOk n o (mk.getD i 0)=true∧pairRow l.toArray i o 0 l=true:=fun i o ho=>by
    have:=tV c4 i o ho;rwa [Nat.zero_add] at this
  have hA:Sound l (ancs l []):=xS l l [] (fun j=>by simp) (fun i k hb=>by simp at hb)
  have hdist: ∀(i k:Nat) o o' t,l[i]? =some o→l[k]? =some o'→k≠i→o.dst=some t→o'.dst≠some t:=fun i k o o' t ho ho' hne hd hd'=>by
    have hp:=oC (hK i o ho).2 k o' ho'
    rw [Nat.zero_add] at hp
    unfold uC at hp
    rw [hd',hd,Bool.or_eq_true] at hp
    rcases hp with hp | hp
    · have:=Nat.eq_of_beq_eq_true hp;omega
    · simp only [Bool.and_eq_true,Bool.not_eq_true'] at hp
      have:=hp.1
      rw [Nat.beq_refl] at this;cases this
  have hsee: ∀(i k:Nat) o o' t,l[i]? =some o→l[k]? =some o'→k≠i→o'.dst=some t→rA l.toArray o t=true→(k<i∧qn o k=true)∨(i<k∧qn o' i=true):=fun i k o o' t ho ho' hne hd' hs=>by
    have hp:=oC (hK i o ho).2 k o' ho'
    rw [Nat.zero_add] at hp
    unfold uC at hp
    rw [hd',Bool.or_eq_true] at hp
    rcases hp with hp | hp
    · have:=Nat.eq_of_beq_eq_true hp;omega
    simp only [Bool.and_eq_true,Bool.or_eq_true,Bool.not_eq_true'] at hp
    have hp2:=hp.2
    rw [hs] at hp2
    rcases hp2 with hp2 | hp2
    · cases hp2
    by_cases hki:k<i
    · have hb:Nat.blt k i=true:=by rw [Nat.blt_eq];exact hki
      rw [hb] at hp2
      exact .inl ⟨hki,hp2⟩
    · have hb:Nat.blt k i=false:=by
        cases hx:Nat.blt k i with
        | false=>rfl
        | true=>rw [Nat.blt_eq] at hx;omega
      rw [hb] at hp2
      exact .inr ⟨by omega,hp2⟩
  have hsz: ∀(g:Nat) o2 d,l.toArray[g]? =some o2→o2.dst=some d→d<n:=fun g o2 d ho hd=>by
    have:=(hK g o2 (by simpa using ho)).1
    unfold kindOk at this
    rw [Bool.and_eq_true] at this
    have h2:=this.2
    rw [hd] at h2
    cases hb:Nat.beq (mk.getD g 0) 2 with
    | true=>rw [hb] at h2;exact Nat.blt_eq▸h2
    | false=>rw [hb] at h2;rw [cond_false,Bool.and_eq_true] at h2;exact Nat.blt_eq▸h2.2
  refine RC.D1 (σ:=σ) (w:=w) hm hdep (fun D σ' w'=>∃pre vs post a S,ord=pre++post∧vs.length=pre.length∧Sl n (updX l σ pre vs) a∧DP P n l mk Q S post (updX l σ pre vs) w'∧(∀e rest,post=e::rest→mk.getD e 0=2)∧
      (∀i∈post,D i=false)∧
      (∀(j i:Nat) v,pre[j]? =some i→vs[j]? =some v→D i=false→mk.getD i 0≠2∧∃o aj,l[i]? =some o∧Sl n (updX l σ (pre.take j) (vs.take j)) aj∧((mk.getD i 0≠0∧∀w2,S w2→vm P l.toArray w2 aj o v)∨(mk.getD i 0=0∧vm P l.toArray w' aj o v)))∧S w'∧
      (∀(j i:Nat) v o t,pre[j]? =some i→vs[j]? =some v→l[i]? =some o→o.dst=some t→D i=true→σ' t=v)∧
      (∀t,(∀(i:Nat) o,l[i]? =some o→o.dst=some t→D i=false)→σ' t=σ t)) ?_ ?_ ?_ a0 ha0
  · obtain⟨pre,vs,post,a',S,e1,e2,e3,e4,e5,e6,eS,_⟩:=DP.norm ord _ σ w.drew a0 ha0 trivial (fun i _ o ho=>(hK i o ho).1) h
    exact⟨pre,vs,post,a',S,e1,e2,e3,e4,e5,fun _ _=>rfl,fun j i v hi hv _=>e6 j i v hi hv,eS,fun j i v o t _ _ _ _ hD=>(by cases hD),fun t _=>rfl⟩
  · refine l6 fun i o ho=>?_
    rw [Nat.zero_add]
    rintro D σ' w' hD hdeps hcl ⟨pre,vs,post,a,S,e1,e2,e3,e4,e5,e6,e7,eS,e8,e9⟩
    have hil:i<l.length:=(List.getElem?_eq_some_iff.1 ho).1
    have hio:=hall i hil
    have hancD: ∀k,Nat.testBit ((ancs l []).getD i 0) k=true→D k=true:=fun k hb=>(hA i k hb).done hcl ⟨o,ho,hdeps⟩
    have hag: ∀(p1:List Nat) (vs1:List Value) (p2:List Nat),p1++i::p2=ord→vs1.length=p1.length→(∀(j i':Nat) v o' t,p1[j]? =some i'→vs1[j]? =some v→l[i']? =some o'→o'.dst=some t→D i'=true→σ' t=v)→
        ∀t,rA l.toArray o t=true→updX l σ p1 vs1 t=σ' t:=by
      intro p1 vs1 p2 he hl1 h8 t ht
      have hni:i∉p1:=fun hm=>by
        rw [←he] at hnd
        exact(List.nodup_append.1 hnd).2.2 i hm i (by simp) rfl
      have hnd1:p1.Nodup:=by rw [←he] at hnd;exact(List.nodup_append.1 hnd).1
      by_cases hex: ∃(k:Nat) (o':Oper),l[k]? =some o'∧o'.dst=some t
      · obtain⟨k,o',ho',hd'⟩:=hex
        have hkd:k≠i→D k=true→k∈p1∨k∈p2:=fun hne _=>by
          have:=hall k (List.getElem?_eq_some_iff.1 ho').1
          rw [←he] at this
          simp at this
          rcases this with h | h | h
          · exact .inl h
          · exact absurd h hne
          · exact .inr h
        by_cases hki:k=i
        · subst hki
          rw [lA p1 vs1 σ (fun i' hi' o2 ho2 hd2=>hdist k i' o' o2 t ho' ho2 (fun e=>hni (e▸hi')) hd' hd2)]
          refine(e9 t fun k2 o2 ho2 hd2=>?_).symm
          by_cases he2:k2=k
          · subst he2;exact hD
          · exact absurd hd2 (hdist k k2 o' o2 t ho' ho2 he2 hd')
        · rcases hsee i k o o' t ho ho' hki hd' ht with ⟨_,hE⟩ | ⟨hlt2,hE⟩
          · have hDk:=jy hdeps hE
            by_cases hp:k∈p1
            · obtain⟨j,hj⟩:=List.mem_iff_getElem?.1 hp
              have hjl:j<vs1.length:=by rw [hl1];exact(List.getElem?_eq_some_iff.1 hj).1
              rw [h8 j k vs1[j] o' t hj (List.getElem?_eq_getElem hjl) ho' hd' hDk]
              refine uB p1 vs1 σ j k o' vs1[j] hj (List.getElem?_eq_getElem hjl) ho' hd' fun k2 i2 o2 hk2 ho2 hne=>?_
              refine hdist k i2 o' o2 t ho' ho2 (fun e=>hne ?_) hd'
              subst e
              exact(List.getElem?_inj (List.getElem?_eq_some_iff.1 hk2).1 hnd1).1 (by rw [hk2,hj])
            · rcases hkd hki hDk with h | h
              · exact absurd h hp
              · rw [uD c6 p1 i p2 he.symm o ho k h] at hE;cases hE
          · have hDk:D k=false:=nf fun hDk=>by
              have:=jy (hcl k o' ho' hDk) hE
              rw [hD] at this;cases this
            rw [lA p1 vs1 σ (fun i' hi' o2 ho2 hd2=>?_)]
            · refine(e9 t fun k2 o2 ho2 hd2=>?_).symm
              by_cases he2:k2=k
              · subst he2;exact hDk
              · exact absurd hd2 (hdist k k2 o' o2 t ho' ho2 he2 hd')
            · by_cases he2:i'=k
              · subst he2
                obtain⟨q1,q2,hq⟩:=List.append_of_mem hi'
                have:=uD c6 q1 i' (q2++i::p2) (by rw [←he,hq];simp) o' ho' i (by simp)
                rw [this] at hE;cases hE
              · exact hdist k i' o' o2 t ho' ho2 he2 hd' hd2
      · rw [e9 t fun k o' ho' hd'=>absurd ⟨k,o',ho',hd'⟩ hex]
        exact lA p1 vs1 σ (fun i' hi' o2 ho2 hd2=>hex ⟨i',o2,ho2,hd2⟩)
    have hrunC: ∀(σ1:Nat→Value) (a1 a2:Act),Sl n σ1 a1→Sl n σ' a2→(∀t,rA l.toArray o t=true→σ1 t=σ' t)→execOp a2.eval o=execOp a1.eval o:=fun σ1 a1 a2 hs1 hs2 hag=>by
      refine execOp_congr o (fun cs b e=>?_) fun x hx=>?_
      · have:=(hK i o ho).1
        unfold kindOk at this
        rw [e] at this;cases this
      · rw [hs2.ev,hs1.ev]
        cases x with
        | tmp t=>
          refine(hag t ?_).symm
          unfold rA Oper.looksAt
          rw [List.any_append,Bool.or_eq_true]
          left
          rw [List.any_eq_true]
          exact⟨t,List.mem_filterMap.2 ⟨.tmp t,by simpa using hx,rfl⟩,Nat.beq_refl t⟩
        | _=>rfl
    by_cases hip:i∈pre
    ·
      obtain⟨p1,p2,hpre⟩:=List.append_of_mem hip
      have hjv:p1.length<vs.length:=by rw [e2,hpre];simp
      have hpj:pre[p1.length]? =some i:=by rw [hpre];simp
      obtain⟨v1,hv1⟩: ∃v,vs[p1.length]? =some v:=⟨_,List.getElem?_eq_getElem hjv⟩
      obtain⟨hn2,o2,aj,ho2,hsj,hev⟩:=e7 p1.length i v1 hpj hv1 hD
      rw [ho] at ho2;injection ho2 with ho2;subst ho2
      have htk:pre.take p1.length=p1:=by rw [hpre];simp
      rw [htk] at hsj
      have hst:vm P l.toArray w' aj o v1:=by
        rcases hev with ⟨_,h⟩ | ⟨_,h⟩
        · exact h w' eS
        · exact h
      have hag1:=hag p1 (vs.take p1.length) (p2++post) (by rw [e1,hpre];simp) (by rw [List.length_take];omega) (fun j i' v o' t hj hv ho' hd' hDi=>by
        have hjl:=(List.getElem?_eq_some_iff.1 hj).1
        rw [List.getElem?_take,if_pos hjl] at hv
        exact e8 j i' v o' t (by rw [hpre,List.getElem?_append_left hjl];exact hj) hv ho' hd' hDi)
      have hmk: ∃d,o.dst=some d∧Nat.blt d n=true:=by
        have:=(hK i o ho).1
        unfold kindOk at this
        rw [Bool.and_eq_true] at this
        have h2:=this.2
        have hne:Nat.beq (mk.getD i 0) 2=false:=by
          cases hx:Nat.beq (mk.getD i 0) 2 with
          | false=>rfl
          | true=>exact absurd (Nat.eq_of_beq_eq_true hx) hn2
        rw [hne,cond_false,Bool.and_eq_true] at h2
        cases hd:o.dst with
        | none=>rw [hd] at h2;cases h2.2
        | some d=>rw [hd] at h2;exact⟨d,rfl,h2.2⟩
      obtain⟨d,hd,hdn⟩:=hmk
      have hJ: ∃pre vs post a S,ord=pre++post∧vs.length=pre.length∧Sl n (updX l σ pre vs) a∧DP P n l mk Q S post (updX l σ pre vs) w'∧(∀e rest,post=e::rest→mk.getD e 0=2)∧
          (∀i'∈post,ins D i i'=false)∧
          (∀(j i':Nat) v,pre[j]? =some i'→vs[j]? =some v→ins D i i'=false→mk.getD i' 0≠2∧∃o aj,l[i']? =some o∧Sl n (updX l σ (pre.take j) (vs.take j)) aj∧((mk.getD i' 0≠0∧∀w2,S w2→vm P l.toArray w2 aj o v)∨(mk.getD i' 0=0∧vm P l.toArray w' aj o v)))∧S w'∧
          (∀(j i':Nat) v o' t,pre[j]? =some i'→vs[j]? =some v→l[i']? =some o'→o'.dst=some t→ins D i i'=true→cP σ' d v1 t=v)∧
          (∀t,(∀(i':Nat) o',l[i']? =some o'→o'.dst=some t→ins D i i'=false)→cP σ' d v1 t=σ t):=by
        refine⟨pre,vs,post,a,S,e1,e2,e3,e4,e5,fun i' hi'=>?_,fun j i' v hj hv hDi=>?_,eS,fun j i' v o' t hj hv ho' hd' hDi=>?_,fun t ht=>?_⟩
        · rw [jS (fun e=>by
            subst e
            rw [e1] at hnd
            exact(List.nodup_append.1 hnd).2.2 i' hip i' hi' rfl)]
          exact e6 i' hi'
        · refine e7 j i' v hj hv ?_
          by_cases he:i'=i
          · subst he;exact hD
          · rwa [jS he] at hDi
        · by_cases he:i'=i
          · subst he
            rw [ho] at ho';injection ho' with ho';subst ho'
            rw [hd] at hd';injection hd' with hd';subst hd'
            have hndp:pre.Nodup:=by rw [e1] at hnd;exact(List.nodup_append.1 hnd).1
            have:j=p1.length:=(List.getElem?_inj (List.getElem?_eq_some_iff.1 hj).1 hndp).1 (by rw [hj,hpj])
            subst this
            rw [hv1] at hv
            injection hv with hv
            unfold cP;rw [Nat.beq_refl];exact hv
          · rw [jS he] at hDi
            have hne:t≠d:=fun e=>by subst e;exact hdist i i' o o' t ho ho' he hd hd'
            unfold cP
            cases hb:Nat.beq t d with
            | true=>exact absurd (Nat.eq_of_beq_eq_true hb) hne
            | false=>exact e8 j i' v o' t hj hv ho' hd' hDi
        · have hne:t≠d:=fun e=>by
            subst e
            have:=ht i o ho hd
            rw [o8] at this;cases this
          unfold cP
          cases hb:Nat.beq t d with
          | true=>exact absurd (Nat.eq_of_beq_eq_true hb) hne
          | false=>
            refine e9 t fun k2 o2 ho2 hd2=>?_
            have:=ht k2 o2 ho2 hd2
            by_cases he:k2=i
            · subst he;exact hD
            · rwa [jS he] at this
      intro a2 hs2
      have hrun:=hrunC _ aj a2 hsj hs2 hag1
      have hwant:=l5 (ops:=l.toArray) (o:=o) hsj hs2 hag1 hsz
      unfold wpList
      rcases hst with ⟨hw1,hr1⟩ | ⟨hw1,hvu⟩
      · rw [hwant] at hw1
        rw [if_pos hw1]
        left
        unfold Oper.wp
        rw [hrun,hr1]
        refine⟨cP σ' d v1,?_,rfl,hJ⟩
        rw [hd];exact hs2.put hdn _
      · rw [hwant] at hw1
        rw [if_neg (by rw [hw1];exact Bool.false_ne_true)]
        rw [hvu] at hJ
        refine⟨cP σ' d undef,?_,rfl,hJ⟩
        rw [hd];exact hs2.put hdn _
    ·
      have hipo:i∈post:=by
        rw [e1] at hio
        rcases List.mem_append.1 hio with h | h
        · exact absurd h hip
        · exact h
      cases post with
      | nil=>cases hipo
      | cons e rest=>
        have hme:=e5 e rest rfl
        have hoa:=vT c5 pre e rest e1 hme
        have hie:i=e:=by
          rcases List.mem_cons.1 hipo with h | h
          · exact h
          · have:=hancD e (hoa.1 i h)
            rw [e6 e (by simp)] at this;cases this
        subst hie
        unfold DP at e4
        obtain⟨o2,ho2,hdp⟩:=e4
        rw [ho] at ho2;injection ho2 with ho2;subst ho2
        have hdp:RL P n l.toArray [o] (updX l σ pre vs) w' (fun ex σ' w'=>ex = .normal∧S w'∧DP P n l mk Q S rest σ' w'):=by
          rcases hdp with ⟨h,_⟩ | ⟨h,_⟩ | ⟨_,h⟩ | ⟨h,_⟩
          · rw [hme] at h;cases h
          · rw [hme] at h;cases h
          · exact h
          · rw [hme] at h;cases h
        have hag1:=hag pre vs rest e1.symm e2 e8
        have hdn: ∀d,o.dst=some d→Nat.blt d n=true:=fun d hd=>by
          have:=(hK i o ho).1
          unfold kindOk at this
          rw [hme,Bool.and_eq_true] at this
          have h2:=this.2
          rw [hd] at h2;exact h2
        have hput: ∀(σ1:Nat→Value) (a1:Act) v,Sl n σ1 a1→Sl n (updO o σ1 v) (a1.put o.dst v):=fun σ1 a1 v hs1=>by
          unfold updO
          cases hd:o.dst with
          | none=>exact hs1.rU v
          | some d=>exact hs1.put (hdn d hd) v
        have hni:i∉pre:=hip
        have hnr:i∉rest:=fun hm=>by
          rw [e1] at hnd
          exact(List.nodup_cons.1 (List.nodup_append.1 hnd).2.1).1 hm
        have key: ∀(a2:Act) v w1,Sl n σ' a2→Lf n (fun ex σ' w'=>ex = .normal∧S w'∧DP P n l mk Q S rest σ' w') .normal (a.put o.dst v) w1→
            Lf n (fun ex σ' w1=>ex = .normal∧∃pre vs post a S,ord=pre++post∧vs.length=pre.length∧Sl n (updX l σ pre vs) a∧DP P n l mk Q S post (updX l σ pre vs) w1∧(∀e rest,post=e::rest→mk.getD e 0=2)∧
              (∀i'∈post,ins D i i'=false)∧
              (∀(j i':Nat) v,pre[j]? =some i'→vs[j]? =some v→ins D i i'=false→mk.getD i' 0≠2∧∃o aj,l[i']? =some o∧Sl n (updX l σ (pre.take j) (vs.take j)) aj∧((mk.getD i' 0≠0∧∀w2,S w2→vm P l.toArray w2 aj o v)∨(mk.getD i' 0=0∧vm P l.toArray w1 aj o v)))∧S w1∧
              (∀(j i':Nat) v o' t,pre[j]? =some i'→vs[j]? =some v→l[i']? =some o'→o'.dst=some t→ins D i i'=true→σ' t=v)∧
              (∀t,(∀(i':Nat) o',l[i']? =some o'→o'.dst=some t→ins D i i'=false)→σ' t=σ t)) .normal (a2.put o.dst v) w1:=by
          rintro a2 v w1 hs2 ⟨σ1,hs1,_,hS1,hdp1⟩
          have hσ1:σ1=updO o (updX l σ pre vs) v:=hs1.uniq (hput _ a v e3)
          subst hσ1
          obtain⟨pre2,vs2,post2,a3,S2,f1,f2,f3,f4,f5,f6,f7,f8⟩:=DP.norm rest S _ w1 _ hs1 hS1 (fun i' _ o' ho'=>(hK i' o' ho').1) hdp1
          have hX: ∀is us,updX l σ (pre++i::is) (vs++v::us)=updX l (updO o (updX l σ pre vs) v) is us:=fun is us=>by
            rw [rm σ pre (i::is) vs (v::us) e2]
            conv=>lhs;unfold updX
            rw [ho]
          refine⟨updO o σ' v,hput _ a2 v hs2,rfl,pre++i::pre2,vs++v::vs2,post2,a3,S2,by rw [e1,f1];simp,by simp [e2,f2],by rw [hX];exact f3,by rw [hX];exact f4,f5,fun i' hi'=>?_,fun j i' u hj hu hDi=>?_,f7,fun j i' u o' t hj hu ho' hd' hDi=>?_,fun t ht=>?_⟩
          · have hir:i'∈rest:=by rw [f1];simp [hi']
            rw [jS (fun e:i'=i=>hnr (by rw [←e];exact hir))]
            exact e6 i' (by simp [hir])
          · have hne:i'≠i:=fun e=>by subst e;rw [o8] at hDi;cases hDi
            have hDi2:D i'=false:=by rwa [jS hne] at hDi
            by_cases hjl:j<pre.length
            · rw [List.getElem?_append_left hjl] at hj
              rw [List.getElem?_append_left (by omega)] at hu
              obtain⟨hn3,o3,aj,ho3,hsj,hev⟩:=e7 j i' u hj hu hDi2
              have t1: (pre++i::pre2).take j=pre.take j:=List.take_append_of_le_length (by omega)
              have t2: (vs++v::vs2).take j=vs.take j:=List.take_append_of_le_length (by omega)
              refine⟨hn3,o3,aj,ho3,by rw [t1,t2];exact hsj,?_⟩
              rcases hev with ⟨h,hh⟩ | ⟨h,_⟩
              · exact .inl ⟨h,fun w2 h2=>hh w2 (f8 w2 h2)⟩
              · rcases hoa.2 i' (by simp [List.mem_of_getElem? hj]) with (h2 | h2) | h2
                · rw [h] at h2;cases h2
                · rw [h] at h2;cases h2
                · rw [hancD i' h2] at hDi2;cases hDi2
            · rw [List.getElem?_append_right (by omega)] at hj
              rw [List.getElem?_append_right (by omega),e2] at hu
              cases hq:j - pre.length with
              | zero=>
                rw [hq] at hj;simp at hj
                exact absurd hj.symm hne
              | succ q=>
                rw [hq] at hj hu
                obtain⟨hn3,o3,aj,ho3,hsj,hev⟩:=f6 q i' u (by simpa using hj) (by simpa using hu)
                have hjq:j=pre.length+ (q+1):=by omega
                have t1: (pre++i::pre2).take j=pre++i::pre2.take q:=by rw [hjq,List.take_length_add_append,List.take_succ_cons]
                have t2: (vs++v::vs2).take j=vs++v::vs2.take q:=by rw [hjq,←e2,List.take_length_add_append,List.take_succ_cons]
                exact⟨hn3,o3,aj,ho3,by rw [t1,t2,hX];exact hsj,hev⟩
          · have hnd2: (pre++i::pre2).Nodup:=by
              rw [e1,f1] at hnd
              have:pre++i::(pre2++post2)= (pre++i::pre2)++post2:=by simp
              rw [this] at hnd
              exact(List.nodup_append.1 hnd).1
            by_cases hne:i'=i
            · subst hne
              rw [ho] at ho';injection ho' with ho';subst ho'
              have hjp: (pre++i'::pre2)[pre.length]? =some i':=by simp
              have:j=pre.length:=(List.getElem?_inj (List.getElem?_eq_some_iff.1 hj).1 hnd2).1 (by rw [hj,hjp])
              subst this
              rw [←e2] at hu
              simp at hu;subst hu
              exact xR hd'
            · rw [jS hne] at hDi
              rw [uA (fun hd=>hdist i i' o o' t ho ho' hne hd hd')]
              by_cases hjl:j<pre.length
              · rw [List.getElem?_append_left hjl] at hj
                rw [List.getElem?_append_left (by omega)] at hu
                exact e8 j i' u o' t hj hu ho' hd' hDi
              · rw [List.getElem?_append_right (by omega)] at hj
                cases hq:j - pre.length with
                | zero=>rw [hq] at hj;simp at hj;exact absurd hj.symm hne
                | succ q=>
                  rw [hq] at hj
                  have hm2:i'∈pre2:=List.mem_of_getElem? (i:=q) (by simpa using hj)
                  have:=e6 i' (by rw [f1];simp [hm2])
                  rw [this] at hDi;cases hDi
          · rw [uA (fun hd=>by have:=ht i o ho hd;rw [o8] at this;cases this)]
            refine e9 t fun k2 o2 ho2 hd2=>?_
            have:=ht k2 o2 ho2 hd2
            by_cases he:k2=i
            · subst he;exact hD
            · rwa [jS he] at this
        intro a2 hs2
        have hrun:=hrunC _ a a2 e3 hs2 hag1
        have hwant:=l5 (ops:=l.toArray) (o:=o) e3 hs2 hag1 hsz
        have h1:=hdp a e3
        unfold wpList at h1 ⊢
        split at h1
        · rename_i hw1
          rw [hwant] at hw1
          rw [if_pos hw1]
          rcases h1 with h1 | ⟨_,h1⟩
          · left
            unfold Oper.wp at h1 ⊢
            rw [hrun]
            refine tx e3.defers (fun v w1 hk=>key a2 v w1 hs2 hk) (fun b w1 hk=>?_) (fun c b w1 hk=>?_) (fun hk=>?_) h1
            · obtain⟨_,hsb,_⟩:=hk;exact hsb.defers
            · obtain⟨_,_,hbad,_⟩:=hk;cases hbad
            · obtain⟨_,_,_,_,hbad,_⟩:=hk;cases hbad
          · obtain⟨_,_,_,_,hbad,_⟩:=h1;cases hbad
        · rename_i hw1
          rw [hwant] at hw1
          rw [if_neg hw1]
          exact key a2 undef w' hs2 h1
  · rintro D σ' w' hDall ⟨pre,vs,post,a,S,e1,e2,e3,e4,e5,e6,e7,eS,e8,e9⟩
    have hpost:post= []:=by
      cases post with
      | nil=>rfl
      | cons e rest=>
        have h1:=e6 e (by simp)
        rw [hDall e (hlt e (by rw [e1];simp))] at h1;cases h1
    subst hpost
    rw [List.append_nil] at e1
    subst e1
    have:σ'=updX l σ ord vs:=by
      funext t
      by_cases hex: ∃(k:Nat) (o':Oper),l[k]? =some o'∧o'.dst=some t
      · obtain⟨k,o',ho',hd'⟩:=hex
        have hkl:=(List.getElem?_eq_some_iff.1 ho').1
        obtain⟨j,hj⟩:=List.mem_iff_getElem?.1 (hall k hkl)
        have hjl:j<vs.length:=by rw [e2];exact(List.getElem?_eq_some_iff.1 hj).1
        rw [e8 j k vs[j] o' t hj (List.getElem?_eq_getElem hjl) ho' hd' (hDall k hkl)]
        refine(uB ord vs σ j k o' vs[j] hj (List.getElem?_eq_getElem hjl) ho' hd' fun k2 i2 o2 hk2 ho2 hne=>?_).symm
        refine hdist k i2 o' o2 t ho' ho2 (fun e=>hne ?_) hd'
        subst e
        exact(List.getElem?_inj (List.getElem?_eq_some_iff.1 hk2).1 hnd).1 (by rw [hk2,hj])
      · rw [e9 t fun k o' ho' hd'=>absurd ⟨k,o',ho',hd'⟩ hex]
        exact(lA ord vs σ (fun i' hi' o2 ho2 hd2=>hex ⟨i',o2,ho2,hd2⟩)).symm
    rw [this];unfold DP at e4;exact e4
end
end Go.Gk
namespace Go.Gk
open Go
def pkOk (m:Nat):List Nat→Bool
  | []=>true
  | i::l=>Nat.blt i m&& !(l.any fun j=>Nat.beq i j)&&pkOk m l
theorem o9 {m:Nat}: ∀{l:List Nat},pkOk m l=true→l.Nodup∧∀i∈l,i<m
  | [],_=>⟨List.nodup_nil,fun i h=>by cases h⟩
  | a::l,h=>by
    unfold pkOk at h
    simp only [Bool.and_eq_true,Bool.not_eq_true'] at h
    obtain⟨h1,h2⟩:=o9 h.2
    refine⟨List.nodup_cons.2 ⟨fun hm=>?_,h1⟩,fun i hi=>?_⟩
    · have: (l.any fun b=>Nat.beq a b)=true:=List.any_eq_true.2 ⟨a,hm,Nat.beq_refl a⟩
      rw [this] at h;cases h.1.2
    · rcases List.mem_cons.1 hi with e | hi
      · rw [e];exact Nat.blt_eq▸h.1.1
      · exact h2 i hi
section
variable {E w:World} {Γ Γ0 new:List HP}
theorem Holds.pk (h:Holds E w Γ) (m:Nat) (idx:List Nat) (e: (Γ.drop m,idx.map (fun i=>Γ[i]?),pkOk m idx)= (Γ0,new.map some,true)):Holds E w (new++Γ0):=by
  injection e with e1 e;injection e with e2 e3
  exact h.pick m idx e1 e2 (o9 e3).1 (o9 e3).2
def CP (m:Nat) (idx:List Nat) (Γ:List HP):List HP:=idx.map (fun i=>Γ.getD i aK)++Γ.drop m
theorem Holds.pl (h:Holds E w Γ) (m:Nat) (idx:List Nat) (e: (pkOk m idx&&(idx.all fun i=>Nat.blt i Γ.length))=true):Holds E w (CP m idx Γ):=by
  rw [Bool.and_eq_true] at e
  refine h.pick m idx rfl ?_ (o9 e.1).1 (o9 e.1).2
  rw [List.map_map]
  refine List.map_congr_left fun i hi=>?_
  have hlt:i<Γ.length:=Nat.blt_eq▸List.all_eq_true.1 e.2 i hi
  simp [List.getD_eq_getElem?_getD,List.getElem?_eq_getElem hlt]
end
section
variable {P:Program} {n:Nat} {l:List Oper} {mk:List Nat} {Q:eC} {σ:Nat→Value} {w:World} {i:Nat} {rest:List Nat} {o:Oper} {ops:Array Oper} {S:World→Prop}
theorem dO (ho:l[i]? =some o) (hm:mk.getD i 0=0) (h:RL P n l.toArray [o] σ w (fun ex σ' w'=>ex = .normal∧w'=w∧DP P n l mk Q S rest σ' w)):RL P n ops [] σ w (fun ex σ' w'=>ex = .normal∧w'=w∧DP P n l mk Q S (i::rest) σ' w):=DP.d0 (DP.e0 ho hm h)
theorem AV (ho:l[i]? =some o) (hm:mk.getD i 0=2) (h:RL P n l.toArray [o] σ w (fun ex σ' w'=>ex = .normal∧S w'∧DP P n l mk Q S rest σ' w')):RL P n ops [] σ w (fun ex σ' w'=>ex = .normal∧w'=w∧DP P n l mk Q S (i::rest) σ' w):=DP.d0 (DP.e2 ho hm h)
theorem DU (hS:S w) (ho:l[i]? =some o) (hm:mk.getD i 0=0) (h:RL P n l.toArray [o] σ w (fun ex σ' w'=>ex = .normal∧w'=w∧DP P n l mk Q S rest σ' w)):RL P n ops [] σ w (fun ex σ' w'=>ex = .normal∧S w'∧DP P n l mk Q S (i::rest) σ' w'):=DP.d2 hS (DP.e0 ho hm h)
theorem FD (hS:S w) (ho:l[i]? =some o) (hm:mk.getD i 0=2) (h:RL P n l.toArray [o] σ w (fun ex σ' w'=>ex = .normal∧S w'∧DP P n l mk Q S rest σ' w')):RL P n ops [] σ w (fun ex σ' w'=>ex = .normal∧S w'∧DP P n l mk Q S (i::rest) σ' w'):=DP.d2 hS (DP.e2 ho hm h)
end
theorem eI {P:Program} {n:Nat} {q:Operand} {x y:Code} {σ:Nat→Value} {w:World} {Q:eC} {β:Type} {b:Bool} {A B:Option β} {r:β} (hb: (bif b then A else B)=some r) (hc:ev σ q = .bool b)
    (ht:b=true→A=some r→RC P n x σ w Q) (hf:b=false→B=some r→RC P n y σ w Q):RC P n (.cond q x y) σ w Q:=
  RC.cond hc (fun h=>ht h (by rw [h] at hb;exact hb)) (fun h=>hf h (by rw [h] at hb;exact hb))
theorem fH {G:Prop} {β:Type} {b:Bool} {A B:Option β} {r:β} (hb: (bif b then A else B)=some r) (ht:b=true→A=some r→G) (hf:b=false→B=some r→G):G:=by
  cases h:b with
  | true=>rw [h] at hb;exact ht h hb
  | false=>rw [h] at hb;exact hf h hb
end Go.Gk
namespace Go.Gk
open Go
theorem zr {α:Type _} {a:α}:a=a:=rfl
theorem zt:True:=True.intro
theorem ag {σ:Nat→Value}: ∀{l:List (Nat×Value)},l.map (fun p=>σ p.1)=l.map (fun p=>p.2)→agree σ l
  | [],_=>True.intro
  | (d,v)::l,h=>by
    rw [List.map_cons,List.map_cons] at h
    injection h with h1 h2
    exact⟨h1,ag h2⟩
theorem cg {ops:Array Oper} {σ:Nat→Value} {j d:Nat} {a b:Bool} (h:a=b) (h1: (ops[j]?).bind (·.dst)=some d:=by rfl) (h2:σ d = .bool a:=by rfl):Wn ops σ (some (j,b)):=⟨d,h1,h2.trans (cb h)⟩
end Go.Gk
