/-
  Helping texts: plain functions and plain laws. No statement of the seed is proved here.
-/
import Derived.Test.YtlffnmkhgkppkaaGreatDoorA1
import Derived.ChangeShapes
import Derived.ChangeSame
import Derived.Carry
import Derived.RowKit
import Derived.Test.YtlffnmkhgkppkaaGreatDoorA2
set_option linter.unusedVariables false
set_option linter.unusedSimpArgs false
set_option linter.unusedSectionVars false
namespace Go.Gk
open Go IntKind
noncomputable section
structure aI where
 X0:Int
 Y0:Int
 X1:Int
 Y1:Int
 deriving DecidableEq,Inhabited
structure bL where
 X:Int
 Y:Int
 deriving DecidableEq,Inhabited
structure cP where
 At:bL
 dQ:Int
 cR:Int
 To:Int
 jX:Bool
 deriving DecidableEq,Inhabited
structure dV where
 Part:eJ
 eE:eJ
 fP:Int
 At:bL
 deriving DecidableEq,Inhabited
structure fE where
 aL:List (List aI)
 dC:List aI
 aV:List cP
 bN:List dV
 deriving DecidableEq,Inhabited
structure eE where
 Part:eJ
 eE:eJ
 deriving DecidableEq,Inhabited
structure Test where
 A:eE
 B:eE
 Joined:Bool
 deriving DecidableEq,Inhabited
structure aA where
 Y0:Int
 Y1:Int
 Xs:List Int
 deriving DecidableEq,Inhabited
structure aO where
 fP:Int
 Set:List aA
 ri:List aI
 deriving DecidableEq,Inhabited
structure dL where
 qS:List Int
 aV:List Int
 kV:List eE
 deriving DecidableEq,Inhabited
structure gM where
 cP:Bool
 Number:Int
 deriving DecidableEq,Inhabited
structure cB where
 e0:Int
 e1:Int
 deriving DecidableEq,Inhabited
def cB.gt(x:cB)(k:Fin 2):Int:=if k.val=0 then x.e0 else x.e1
def cB.st(x:cB)(k:Fin 2)(y:Int):cB:=if k.val=0 then{x with e0:=y}else{x with e1:=y}
structure bT where
 e0:bL
 e1:bL
 deriving DecidableEq,Inhabited
def bT.gt(x:bT)(k:Fin 2):bL:=if k.val=0 then x.e0 else x.e1
def bT.st(x:bT)(k:Fin 2)(y:bL):bT:=if k.val=0 then{x with e0:=y}else{x with e1:=y}
structure Touch where
 Test:Int
 FZ:Bool
 A0:Int
 deriving DecidableEq,Inhabited
structure aH where
 from_:Int
 to:Int
 deriving DecidableEq,Inhabited
structure aM where
 from_:Int
 to:Int
 ji:List aH
 deriving DecidableEq,Inhabited
structure aW where
 Bv:fE
 tU:List Test
 speed:Int
 A1:Int
 deriving DecidableEq,Inhabited
structure bW where
 e0:bT
 e1:bT
 deriving DecidableEq,Inhabited
def bW.gt(x:bW)(k:Fin 2):bT:=if k.val=0 then x.e0 else x.e1
def bW.st(x:bW)(k:Fin 2)(y:bT):bW:=if k.val=0 then{x with e0:=y}else{x with e1:=y}
structure m7 where
 Open:Bool
 gM:gM
 A:Int
 B:Int
 deriving DecidableEq,Inhabited
def uR(N:Nat)(p0 p1 p2:Int):Option Bool:=
 some (decide (p0>=p1)&&decide (p0<=p2))
def l5(N:Nat)(p0:Int):Option Bool:=
 (uR N p0 (-1000000) 1000000).bind λj=>some j
def nN(N:Nat)(p0:aI):Option Bool:=
 ((l5 N p0.X0).bind λj=>bif j then((l5 N p0.Y0).bind λo=>bif o then((l5 N p0.X1).bind λaa=>bif aa then((l5 N p0.Y1).bind λab=>some ab)else some false)else some false)else some false).bind λad=>some ad
def lK(N:Nat)(p0:List aI):Option Int:=
 bif decide ((p0.length:Int)>2000)then some 2 else((uO p0.length (λ(o:Nat)(aa:Unit)=>((idx p0 (o:Int)).bind λj=>(nN N j).bind λab=>bif(!ab)then some (.rt 1)else(bif decide (j.X1<=j.X0)||decide (j.Y1<=j.Y0)then some (.rt 13)else some (.nx ())):Option (Fl Unit Int))) ()).bind λad=>ad.cs (λ(aa:Unit)=>some 0)<|λr=>some r)
def jN(N:Nat)(p0:List aI):Option (List aI):=
 (app 32 ([]:List aI) p0).bind λj=>some j
def kD(N:Nat)(p0 p1:aI):Option Int:=
 some (wrap .i64<|p0.Y0 - p1.Y0)
def iz(N:Nat)(p0:List Int):Option (List Int):=
 bif decide ((p0.length:Int)<2)then some p0 else((kp (λ(o:Int)=>(bif decide (o<(p0.length:Int))then((idx p0 o).bind λab=>(idx p0<|wrap .i64<|o - 1).bind λad=>bif ab==ad then((vF p0 o (p0.length:Int)).bind λaj=>(kp (λ(j:List Int×Int×Int)=>(bif decide (j.2.2<(((j.1.length - Int.toNat o):Nat):Int))then((Hr j.1 o j.2.2).bind λae=>(Hr j.1 o<|wrap .i64<|j.2.2 - 1).bind λaf=>(bif ae != af then((Hr j.1 o j.2.2).bind λag=>(idx j.1 j.2.1).bind λak=>some (j.1.set (Int.toNat j.2.1) ag,wrap .i64<|j.2.1+1))else some (j.1,j.2.1)).bind λaa=>some<|.nx (aa.1,aa.2,wrap .i64<|j.2.2+1))else(some<|.br (j.1,j.2.1,j.2.2)):Option (Fl (List Int×Int×Int) Empty))) N (p0,o,1)).bind λah=>ah.cs (λ(j:List Int×Int×Int)=>(vF j.1 j.2.1 (j.1.length:Int)).bind λal=>(vF (j.1.take (Int.toNat j.2.1)++List.replicate (j.1.length - Int.toNat j.2.1) (0:Int)) 0 j.2.1).bind λLX=>some<|.rt LX)<|λr=>r.elim)else some (.nx<|wrap .i64<|o+1))else(some<|.br o):Option (Fl Int<|List Int))) N 1).bind λai=>ai.cs (λ(o:Int)=>some p0)<|λr=>some r)
def pA(N:Nat)(p0:aI)(p1:List Int)(p2:Int):Option Bool:=
 (idx p1 p2).bind λj=>some<|decide<|p0.Y1<=j
def mM(N:Nat)(p0:List aI)(p1:aI->Option Bool):Option Int:=
 (uO p0.length (λ(j:Nat)(o:Unit)=>((idx p0 (j:Int)).bind λaa=>(p1 aa).bind λab=>bif ab then some (.rt (j:Int))else(some<|.nx ()):Option (Fl Unit Int))) ()).bind λad=>ad.cs (λ(o:Unit)=>some<|-1)<|λr=>some r
def lz(N:Nat)(p0:List aI)(p1:aI->Option Bool):Option Int:=
 (uO p0.length (λ(j:Nat)(o:Unit)=>((idx p0 (j:Int)).bind λaa=>(p1 aa).bind λab=>bif ab then some (.rt (j:Int))else(some<|.nx ()):Option (Fl Unit Int))) ()).bind λad=>ad.cs (λ(o:Unit)=>some<|-1)<|λr=>some r
def i5(N:Nat)(p0:List aI)(p1:aI->Option Bool):Option (List aI):=
 (lz N p0 p1).bind λo=>bif o==(-1)then some p0 else((kp (λ(j:List aI×Int×Int)=>(bif decide (j.2.2<(j.1.length:Int))then((idx j.1 j.2.2).bind λaa=>(p1 aa).bind λad=>(bif(!ad)then((idx j.1 j.2.1).bind λag=>some (j.1.set (Int.toNat j.2.1) aa,wrap .i64<|j.2.1+1))else some (j.1,j.2.1)).bind λab=>some<|.nx (ab.1,ab.2,wrap .i64<|j.2.2+1))else(some<|.br (j.1,j.2.1,j.2.2)):Option (Fl (List aI×Int×Int) Empty))) N (p0,o,wrap .i64<|o+1)).bind λae=>ae.cs (λ(j:List aI×Int×Int)=>(vF j.1 j.2.1 (j.1.length:Int)).bind λah=>(vF (j.1.take (Int.toNat j.2.1)++List.replicate (j.1.length - Int.toNat j.2.1) (⟨0,0,0,0⟩:aI)) 0 j.2.1).bind λaf=>some af)<|λr=>r.elim)
def iA(N:Nat)(p0 p1:aI):Option Int:=
 some (wrap .i64<|p0.X0 - p1.X0)
def jY(N:Nat)(p0:List aI):Option (List Int×List aI):=
 (y9 (iA N) p0).bind λaa=>(mB aa.length (λ(ad:Nat)(j:List Int)=>((idx aa (ad:Int)).bind λo=>(bif decide (wrap .i64 ((j.length:Int) - 1)>=0)then((idx j<|wrap .i64<|(j.length:Int) - 1).bind λae=>some<|decide<|o.X0<=ae)else some false).bind λaf=>(bif af then((idx j<|wrap .i64<|(j.length:Int) - 1).bind λab=>(idx j<|wrap .i64<|(j.length:Int) - 1).bind λai=>some<|j.set (Int.toNat<|wrap .i64<|(j.length:Int) - 1) (if ab<o.X1 then o.X1 else ab))else((app 8 j ([o.X0,o.X1]:List Int)).bind λag=>some ag)).bind λah=>some ah:Option (List Int))) ([]:List Int)).bind λj=>some (j,aa)
def nO(N:Nat)(p0:List Int)(p1:List Int):Option Bool:=
 bif(p0.length:Int) != (p1.length:Int)then some false else((uO p0.length (λ(j:Nat)(o:Unit)=>((idx p0 (j:Int)).bind λaa=>(idx p1 (j:Int)).bind λab=>bif aa != ab then some (.rt false)else(some<|.nx ()):Option (Fl Unit Bool))) ()).bind λad=>ad.cs (λ(o:Unit)=>some true)<|λr=>some r)
def jG(N:Nat)(p0:List aA)(p1:aA):Option (List aA):=
 bif((p1.Xs.length:Int)==0)||decide (p1.Y1<=p1.Y0)then some p0 else((bif decide (wrap .i64 ((p0.length:Int) - 1)>=0)then((idx p0<|wrap .i64<|(p0.length:Int) - 1).bind λj=>bif j.Y1==p1.Y0 then((idx p0<|wrap .i64<|(p0.length:Int) - 1).bind λo=>(nO N o.Xs p1.Xs).bind λaa=>some aa)else some false)else some false).bind λab=>bif ab then((idx p0<|wrap .i64<|(p0.length:Int) - 1).bind λad=>some<|p0.set (Int.toNat<|wrap .i64<|(p0.length:Int) - 1)<|{ad with Y1:=p1.Y1})else((app 40 p0 ([p1]:List aA)).bind λae=>some ae))
def iF(N:Nat)(p0:List aI):Option (List aA):=
 (jN N p0).bind λag=>(y9 (kD N) ag).bind λaa=>(mB aa.length (λ(ah:Nat)(ad:List Int)=>((idx aa (ah:Int)).bind λae=>(app 8 ad ([ae.Y0,ae.Y1]:List Int)).bind λai=>some ai:Option (List Int))) ([]:List Int)).bind λad=>(wc ad).bind λaj=>(iz N aj).bind λab=>(kp (λ(j:List aA×List aI×Int×Int)=>(bif decide (wrap .i64 (j.2.2.2+1)<(ab.length:Int))then((i5 N j.2.1<|λy0=>pA N y0 ab j.2.2.2).bind λak=>(kp (λ(o:List aI×Int)=>((bif decide (o.2<(aa.length:Int))then((idx aa o.2).bind λal=>(idx ab j.2.2.2).bind λan=>some<|decide<|al.Y0<=an)else some false).bind λao=>bif ao then((idx aa o.2).bind λaq=>(app 32 o.1 ([aq]:List aI)).bind λar=>some<|.nx (ar,wrap .i64<|o.2+1))else(some<|.br (o.1,o.2)):Option (Fl (List aI×Int) Empty))) N (ak,j.2.2.1)).bind λau=>au.cs (λ(o:List aI×Int)=>(idx ab j.2.2.2).bind λav=>(idx ab<|wrap .i64<|j.2.2.2+1).bind λaw=>(jY N o.1).bind λaf=>(jG N j.1 (⟨av,aw,af.1⟩:aA)).bind λax=>some<|.nx (ax,af.2,o.2,wrap .i64<|j.2.2.2+1))<|λr=>r.elim)else(some<|.br (j.1,j.2.1,j.2.2.1,j.2.2.2)):Option (Fl (List aA×List aI×Int×Int) Empty))) N (([]:List aA),([]:List aI),0,0)).bind λay=>ay.cs (λ(j:List aA×List aI×Int×Int)=>some j.1)<|λr=>r.elim
def jZ(N:Nat)(p0:List aA):Option (List aI):=
 (mB p0.length (λ(ab:Nat)(aa:List aI)=>((idx p0 (ab:Int)).bind λo=>(kp (λ(j:List aI×Int)=>(bif decide (j.2<(o.Xs.length:Int))then((idx o.Xs j.2).bind λad=>(idx o.Xs<|wrap .i64<|j.2+1).bind λae=>(app 32 j.1 ([(⟨ad,o.Y0,ae,o.Y1⟩:aI)]:List aI)).bind λaf=>some<|.nx (af,wrap .i64<|j.2+2))else(some<|.br (j.1,j.2)):Option (Fl (List aI×Int) Empty))) N (aa,0)).bind λag=>ag.cs (λ(j:List aI×Int)=>some j.1) (λr=>r.elim):Option (List aI))) ([]:List aI)).bind λaa=>some aa
def lh(N:Nat)(p0:List aI)(p1:List aI):Option Bool:=
 bif(p0.length:Int) != (p1.length:Int)then some false else((uO p0.length (λ(j:Nat)(o:Unit)=>((idx p0 (j:Int)).bind λaa=>(idx p1 (j:Int)).bind λab=>bif(!(decide<|aa=ab))then some (.rt false)else(some<|.nx ()):Option (Fl Unit Bool))) ()).bind λad=>ad.cs (λ(o:Unit)=>some true)<|λr=>some r)
def jO(N:Nat)(p0:List aI):Option Int:=
 (lK N p0).bind λab=>bif ab != 0 then some ab else((kp (λ(j:Int)=>(bif decide (j<(p0.length:Int))then((idx p0<|wrap .i64<|j - 1).bind λo=>(idx p0 j).bind λaa=>bif decide (aa.Y0<o.Y0)||((aa.Y0==o.Y0)&&decide (aa.X0<=o.X0))then some (.rt 8)else some (.nx<|wrap .i64<|j+1))else(some<|.br j):Option (Fl Int Int))) N 1).bind λad=>ad.cs (λ(j:Int)=>(iF N p0).bind λae=>(jZ N ae).bind λaf=>(lh N af p0).bind λag=>bif(!ag)then some 3 else some 0)<|λr=>some r)
def iY(N:Nat)(p0 p1 p2:Int):Option Bool:=
 some (decide (p0>=p1)&&decide (p0<=p2))
def kj(N:Nat)(p0:bL):Option Bool:=
 ((l5 N p0.X).bind λj=>bif j then((l5 N p0.Y).bind λo=>some o)else some false).bind λaa=>some aa
def gK(N:Nat)(p0:cP):Option aI:=
 some (⟨wrap .i64<|p0.At.X -(wrap .i64<|Int.tdiv p0.dQ 2),wrap .i64<|p0.At.Y -(wrap .i64<|Int.tdiv p0.dQ 2),wrap .i64<|wrap .i64 (p0.At.X -(wrap .i64<|Int.tdiv p0.dQ 2))+p0.dQ,wrap .i64<|wrap .i64 (p0.At.Y -(wrap .i64<|Int.tdiv p0.dQ 2))+p0.dQ⟩:aI)
def nP(N:Nat)(p0:List aA):Option aI:=
 (idx p0 0).bind λad=>(idx ad.Xs 0).bind λae=>(idx p0 0).bind λaf=>(idx p0 0).bind λag=>(idx ag.Xs 1).bind λah=>(idx p0<|wrap .i64<|(p0.length:Int) - 1).bind λai=>(mB p0.length (λ(aj:Nat)(j:aI)=>((idx p0 (aj:Int)).bind λo=>(idx o.Xs 0).bind λaa=>(idx o.Xs<|wrap .i64<|(o.Xs.length:Int) - 1).bind λab=>some ({{j with X0:=(if aa<j.X0 then aa else j.X0)}with X1:=(if j.X1<ab then ab else j.X1)}):Option aI)) (⟨ae,af.Y0,ah,ai.Y1⟩:aI)).bind λj=>some j
def ni(N:Nat)(p0:List aA):Option Bool:=
 (bif(p0.length:Int)==0 then some true else((nP N p0).bind λj=>(nN N j).bind λo=>some o)).bind λaa=>some aa
def mD(N:Nat)(p0:cP):Option (aI×Int):=
 ((iY N p0.dQ 1 10000).bind λo=>bif(!o)then some true else((kj N p0.At).bind λaa=>some<|!aa)).bind λab=>bif ab then some ((⟨0,0,0,0⟩:aI),1)else((gK N p0).bind λj=>(iF N ([j]:List aI)).bind λad=>(ni N ad).bind λae=>bif(!ae)then some ((⟨0,0,0,0⟩:aI),1)else some (j,0))
def lj(N:Nat)(p0:fE):Option Int:=
 bif decide ((p0.aV.length:Int)>500)then some 2 else((uO p0.aV.length (λ(aa:Nat)(ab:Unit)=>((idx p0.aV (aa:Int)).bind λj=>(mD N j).bind λo=>bif o.2 != 0 then some (.rt o.2)else(((iY N j.cR 0<|wrap .i64<|(p0.aL.length:Int) - 1).bind λad=>bif(!ad)then some true else((iY N j.To j.cR<|wrap .i64<|(p0.aL.length:Int) - 1).bind λae=>some<|!ae)).bind λaf=>bif af then some (.rt 1)else some (.nx ())):Option (Fl Unit Int))) ()).bind λag=>ag.cs (λ(ab:Unit)=>some 0)<|λr=>some r)
def jq(N:Nat)(p0:eJ)(p1:Int):Option Int:=
 some (Lib.indexByte p0.dD (Int.toNat p1).toUInt8)
def lk(N:Nat)(p0 p1:eJ):Option Int:=
 bif((p1.dD.length:Int)==0)||p1.oj p0 then some 0 else(bif(p1.dD.length:Int)==1 then((Ho p1 0).bind λj=>(jq N p0 (j.toNat:Int)).bind λo=>some o)else(bif decide ((p1.dD.length:Int)>=(p0.dD.length:Int))then some (-1)else none))
def mE(N:Nat)(p0 p1:eJ):Option Int:=
 (lk N p0 p1).bind λj=>some j
def om(N:Nat)(p0 p1:eJ):Option Int:=
 bif(p1.dD.length:Int)==0 then none else(bif(p1.dD.length:Int)==1 then((Ho p1 0).bind λaa=>some ((Lib.countByte p0.dD (Int.toNat (aa.toNat:Int)).toUInt8:Nat):Int))else((kp (λ(j:eJ×Int)=>((mE N j.1 p1).bind λo=>bif o==(-1)then some (.rt j.2)else((yk j.1 (wrap .i64<|o+(p1.dD.length:Int)) (j.1.dD.length:Int)).bind λab=>some<|.nx (ab,wrap .i64<|j.2+1)):Option (Fl (eJ×Int) Int))) N (p0,0)).bind λad=>ad.cs (λ(j:eJ×Int)=>some 0)<|λr=>some r))
def nQ(N:Nat)(p0 p1:eJ)(p2 p3:Int):Option (List eJ):=
 bif p3==0 then some ([]:List eJ)else(bif p1.oj (⟨[]⟩)then none else((bif decide (p3<0)then((om N p0 p1).bind λab=>some<|wrap .i64<|ab+1)else some p3).bind λo=>(mk 16 (⟨[]⟩:eJ) (if wrap .i64 ((p0.dD.length:Int)+1)<o then wrap .i64 ((p0.dD.length:Int)+1)else o)).bind λad=>(kp (λ(j:eJ×List eJ×Int)=>(bif decide (j.2.2< wrap .i64 ((if wrap .i64 ((p0.dD.length:Int)+1)<o then wrap .i64 ((p0.dD.length:Int)+1)else o) - 1))then((mE N j.1 p1).bind λaa=>bif decide (aa<0)then some (.br (j.1,j.2.1,j.2.2))else((yk j.1 0<|wrap .i64<|aa+p2).bind λae=>(idx j.2.1 j.2.2).bind λai=>(yk j.1 (wrap .i64<|aa+(p1.dD.length:Int)) (j.1.dD.length:Int)).bind λaf=>some<|.nx (af,j.2.1.set (Int.toNat j.2.2) ae,wrap .i64<|j.2.2+1)))else(some<|.br (j.1,j.2.1,j.2.2)):Option (Fl (eJ×List eJ×Int) Empty))) N (p0,ad,0)).bind λag=>ag.cs (λ(j:eJ×List eJ×Int)=>(idx j.2.1 j.2.2).bind λaj=>(vF (j.2.1.set (Int.toNat j.2.2) j.1) 0<|wrap .i64<|j.2.2+1).bind λah=>some ah)<|λr=>r.elim))
def mF(N:Nat)(p0 p1:eJ):Option (List eJ):=
 (nQ N p0 p1 0<|-1).bind λj=>some j
def lL(N:Nat)(p0:List eJ)(p1:eJ->Option Bool):Option Int:=
 (uO p0.length (λ(j:Nat)(o:Unit)=>((idx p0 (j:Int)).bind λaa=>(p1 aa).bind λab=>bif ab then some (.rt (j:Int))else(some<|.nx ()):Option (Fl Unit Int))) ()).bind λad=>ad.cs (λ(o:Unit)=>some<|-1)<|λr=>some r
def i6(N:Nat)(p0:List eJ)(p1:eJ->Option Bool):Option Bool:=
 (lL N p0 p1).bind λj=>some<|decide<|j>=0
def ig(N:Nat)(p0:eJ)(p1:Int):Option Int:=
 (jq N p0 p1).bind λj=>some j
def jH(N:Nat)(p0:eJ):Option Bool:=
 (uO p0.dD.length (λ(o:Nat)(aa:Unit)=>((Ho p0 (o:Int)).bind λj=>(bif((decide ((j.toNat:Int)<65)||decide ((j.toNat:Int)>90))&&(decide ((j.toNat:Int)<97)||decide ((j.toNat:Int)>122)))&&(decide ((j.toNat:Int)<48)||decide ((j.toNat:Int)>57))then((ig N (⟨[95,43,45,35]⟩) (j.toNat:Int)).bind λab=>some<|decide<|ab<0)else some false).bind λad=>bif ad then some (.rt false)else(some<|.nx ()):Option (Fl Unit Bool))) ()).bind λae=>ae.cs (λ(aa:Unit)=>some<|decide ((p0.dD.length:Int)>=1)&&decide ((p0.dD.length:Int)<=40))<|λr=>some r
def i7(N:Nat)(p0:eJ):Option Bool:=
 (jH N p0).bind λj=>some<|!j
def nj(N:Nat)(p0:eJ):Option Bool:=
 (bif decide ((p0.dD.length:Int)<=200)then((mF N p0<|⟨[47]⟩).bind λj=>(i6 N j<|i7 N).bind λo=>some<|!o)else some false).bind λaa=>some aa
def l6(N:Nat)(p0:dV):Option eE:=
 some (⟨p0.Part,p0.eE⟩:eE)
def mN(N:Nat)(p0 p1:eJ):Option Int:=
 some (Lib.compareBytes p0.dD p1.dD)
def oL(N:Nat)(p0 p1:eJ):Option Int:=
 (mN N p0 p1).bind λj=>some j
def eV(N:Nat)(p0 p1:eE):Option Int:=
 (oL N p0.Part p1.Part).bind λj=>bif j != 0 then some j else((oL N p0.eE p1.eE).bind λo=>some o)
def ll(N:Nat)(p0:fE):Option Int:=
 bif decide ((p0.bN.length:Int)>1000)then some 2 else((uO p0.bN.length (λ(o:Nat)(aa:Unit)=>((idx p0.bN (o:Int)).bind λj=>((nj N j.Part).bind λab=>bif(!ab)then some true else((jH N j.eE).bind λad=>some<|!ad)).bind λae=>bif ae then some (.rt 5)else(((iY N j.fP 0<|wrap .i64<|(p0.aL.length:Int) - 1).bind λaf=>bif(!af)then some true else((kj N j.At).bind λag=>some<|!ag)).bind λah=>bif ah then some (.rt 1)else((bif decide ((o:Int)>0)then((idx p0.bN<|wrap .i64<|(o:Int) - 1).bind λai=>(l6 N j).bind λaj=>(l6 N ai).bind λak=>(eV N aj ak).bind λal=>some<|decide<|al<=0)else some false).bind λan=>bif an then some (.rt 8)else some (.nx ()))):Option (Fl Unit Int))) ()).bind λao=>ao.cs (λ(aa:Unit)=>some 0)<|λr=>some r)
def mG(N:Nat)(p0 p1:Int)(p2 p3:Int):Option Int:=
 some (if(if 0<(wrap .i64<|wrap .i64 (p2 - p1)+1)then wrap .i64 (wrap .i64 (p2 - p1)+1)else 0)<(wrap .i64<|wrap .i64 (p0 - p3)+1)then wrap .i64 (wrap .i64 (p0 - p3)+1)else(if 0<(wrap .i64<|wrap .i64 (p2 - p1)+1)then wrap .i64 (wrap .i64 (p2 - p1)+1)else 0))
def tV(N:Nat)(p0 p1:aI):Option Int:=
 (mG N p0.X0 p0.X1 p1.X0 p1.X1).bind λj=>(mG N p0.Y0 p0.Y1 p1.Y0 p1.Y1).bind λo=>some (if j<o then o else j)
def lM(N:Nat)(p0:cP)(p1:Int):Option Bool:=
 some (decide (p0.cR<=p1)&&decide (p1<=p0.To))
def nR(N:Nat)(p0:List aA)(p1 p2:Int):Option (List Int×Int):=
 bif(p0.length:Int)==0 then some (([]:List Int),p2)else((idx p0 0).bind λaa=>bif decide (p1<aa.Y0)then((idx p0 0).bind λj=>some (([]:List Int),(if j.Y0<p2 then j.Y0 else p2)))else((idx p0 0).bind λab=>(idx p0 0).bind λo=>some (ab.Xs,(if o.Y1<p2 then o.Y1 else p2))))
def sd(N:Nat)(p0:List Int)(p1:List Int)(p2:Bool->Bool->Option Bool):Option (List Int):=
 (kp (λ(j:List Int×List Int×List Int×Bool×Bool×Bool)=>((bif decide ((j.1.length:Int)>0)then some true else some (decide<|(j.2.1.length:Int)>0)).bind λaf=>bif af then((bif(j.2.1.length:Int)==0 then some true else(bif decide ((j.1.length:Int)>0)then((idx j.1 0).bind λag=>(idx j.2.1 0).bind λah=>some<|decide<|ag<=ah)else some false)).bind λai=>(bif ai then((idx j.1 0).bind λaj=>some aj)else((idx j.2.1 0).bind λak=>some ak)).bind λo=>(bif decide ((j.1.length:Int)>0)then((idx j.1 0).bind λal=>some<|al==o)else some false).bind λan=>(bif an then((vF j.1 1 (j.1.length:Int)).bind λao=>some (ao,(!j.2.2.2.1)))else some (j.1,j.2.2.2.1)).bind λaa=>(bif decide ((j.2.1.length:Int)>0)then((idx j.2.1 0).bind λaq=>some<|aq==o)else some false).bind λar=>(bif ar then((vF j.2.1 1 (j.2.1.length:Int)).bind λau=>some (au,(!j.2.2.2.2.1)))else some (j.2.1,j.2.2.2.2.1)).bind λab=>(p2 aa.2 ab.2).bind λad=>(bif ad != j.2.2.2.2.2 then((app 8 j.2.2.1 ([o]:List Int)).bind λav=>some (av,ad))else some (j.2.2.1,j.2.2.2.2.2)).bind λae=>some<|.nx (aa.1,ab.1,ae.1,aa.2,ab.2,ae.2))else(some<|.br (j.1,j.2.1,j.2.2.1,j.2.2.2.1,j.2.2.2.2.1,j.2.2.2.2.2)):Option (Fl (List Int×List Int×List Int×Bool×Bool×Bool) Empty))) N (p0,p1,([]:List Int),false,false,false)).bind λaw=>aw.cs (λ(j:List Int×List Int×List Int×Bool×Bool×Bool)=>some j.2.2.1)<|λr=>r.elim
def qF(N:Nat)(p0:List aA)(p1:List aA)(p2:Bool->Bool->Option Bool):Option (List aA):=
 bif wrap .i64 ((p0.length:Int)+(p1.length:Int))==0 then some ([]:List aA)else((mB (([p0,p1]:List (List aA)).length) (λ(ah:Nat)(o:Int×Int)=>((idx ([p0,p1]:List (List aA)) (ah:Int)).bind λad=>(bif decide ((ad.length:Int)>0)then((bif(ah:Int)==0 then some true else some ((p0.length:Int)==0)).bind λal=>(bif al then((idx ad 0).bind λan=>(idx ad<|wrap .i64<|(ad.length:Int) - 1).bind λao=>some (an.Y0,ao.Y1))else some (o.1,o.2)).bind λag=>(idx ad 0).bind λai=>(idx ad<|wrap .i64<|(ad.length:Int) - 1).bind λaj=>some ((if ai.Y0<ag.1 then ai.Y0 else ag.1),(if ag.2<aj.Y1 then aj.Y1 else ag.2)))else some (o.1,o.2)).bind λak=>some (ak.1,ak.2):Option (Int×Int))) (0,0)).bind λo=>(kp (λ(j:List aA×List aA×List aA×Int)=>(bif decide (j.2.2.2<o.2)then((kp (λ(aa:List aA)=>((bif decide ((aa.length:Int)>0)then((idx aa 0).bind λaq=>some<|decide<|aq.Y1<=j.2.2.2)else some false).bind λar=>bif ar then((vF aa 1 (aa.length:Int)).bind λau=>some<|.nx au)else(some<|.br aa):Option (Fl (List aA) Empty))) N j.1).bind λav=>av.cs (λ(aa:List aA)=>(kp (λ(ab:List aA)=>((bif decide ((ab.length:Int)>0)then((idx ab 0).bind λaw=>some<|decide<|aw.Y1<=j.2.2.2)else some false).bind λax=>bif ax then((vF ab 1 (ab.length:Int)).bind λay=>some<|.nx ay)else(some<|.br ab):Option (Fl (List aA) Empty))) N j.2.1).bind λaz=>az.cs (λ(ab:List aA)=>(nR N aa j.2.2.2 o.2).bind λae=>(nR N ab j.2.2.2 o.2).bind λaf=>(sd N ae.1 af.1 p2).bind λa0=>(jG N j.2.2.1 (⟨j.2.2.2,(if af.2<ae.2 then af.2 else ae.2),a0⟩:aA)).bind λa1=>some<|.nx (aa,ab,a1,(if af.2<ae.2 then af.2 else ae.2)))<|λr=>r.elim)<|λr=>r.elim)else(some<|.br (j.1,j.2.1,j.2.2.1,j.2.2.2)):Option (Fl (List aA×List aA×List aA×Int) Empty))) N (p0,p1,([]:List aA),o.1)).bind λa2=>a2.cs (λ(j:List aA×List aA×List aA×Int)=>some j.2.2.1)<|λr=>r.elim)
def pB(N:Nat)(p0 p1:Bool):Option Bool:=
 some (p0&&(!p1))
def lN(N:Nat)(p0:List aA)(p1:List aA):Option (List aA):=
 (qF N p0 p1<|pB N).bind λj=>some j
def nk(N:Nat)(p0:List aA):Option Int:=
 (mB p0.length (λ(o:Nat)(j:Int)=>((idx p0 (o:Int)).bind λaa=>some (wrap .i64<|j+ wrap .i64 (Int.tdiv (aa.Xs.length:Int) 2)):Option Int)) 0).bind λj=>some j
def fW(N:Nat)(p0:Int)(p1_0:List Int):Option (Int×List Int):=
 (kp (λ(j:Int×List Int)=>((idx j.2 j.1).bind λaa=>bif aa != j.1 then((idx j.2 j.1).bind λab=>(idx j.2 ab).bind λo=>(idx j.2 j.1).bind λaf=>(idx (j.2.set (Int.toNat j.1) o) j.1).bind λad=>some<|.nx (ad,j.2.set (Int.toNat j.1) o))else(some<|.br (j.1,j.2)):Option (Fl (Int×List Int) Empty))) N (p0,p1_0)).bind λae=>ae.cs (λ(j:Int×List Int)=>some (j.1,j.2))<|λr=>r.elim
def mn(N:Nat)(p0:List aA):Option (List<|List aA):=
 (jZ N p0).bind λab=>(mk 8 (0:Int) (ab.length:Int)).bind λan=>(mB an.length (λ(ai:Nat)(ag:List Int)=>((idx ag (ai:Int)).bind λbd=>some (ag.set (Int.toNat (ai:Int)) (ai:Int)):Option (List Int))) an).bind λag=>(mB p0.length (λ(aj:Nat)(aa:List Int×Int×Int)=>((idx p0 (aj:Int)).bind λak=>(bif decide ((aj:Int)>0)then((idx p0<|wrap .i64<|(aj:Int) - 1).bind λar=>some<|ar.Y1==ak.Y0)else some false).bind λau=>(bif au then((kp (λ(j:List Int×Int×Int)=>(bif decide (j.2.1<aa.2.1)&&decide (j.2.2< wrap .i64 (aa.2.1+ wrap .i64 (Int.tdiv (ak.Xs.length:Int) 2)))then(((idx ab j.2.1).bind λav=>(idx ab j.2.2).bind λaw=>bif decide (av.X0<aw.X1)then((idx ab j.2.2).bind λax=>(idx ab j.2.1).bind λay=>some<|decide<|ax.X0<ay.X1)else some false).bind λaz=>(bif az then((fW N j.2.1 j.1).bind λae=>(fW N j.2.2 ae.2).bind λad=>(idx ad.2 (if ae.1<ad.1 then ad.1 else ae.1)).bind λbf=>some<|ad.2.set (Int.toNat (if ae.1<ad.1 then ad.1 else ae.1)) (if ad.1<ae.1 then ad.1 else ae.1))else some j.1).bind λa0=>(idx ab j.2.1).bind λa1=>(idx ab j.2.2).bind λa2=>(bif decide (a1.X1<a2.X1)then some (wrap .i64<|j.2.1+1,j.2.2)else some (j.2.1,wrap .i64<|j.2.2+1)).bind λao=>some<|.nx (a0,ao.1,ao.2))else(some<|.br (j.1,j.2.1,j.2.2)):Option (Fl (List Int×Int×Int) Empty))) N (aa.1,aa.2.2,aa.2.1)).bind λa3=>a3.cs (λ(j:List Int×Int×Int)=>some j.1)<|λr=>r.elim)else some aa.1).bind λa4=>some (a4,wrap .i64<|aa.2.1+ wrap .i64 (Int.tdiv (ak.Xs.length:Int) 2),aa.2.1):Option (List Int×Int×Int))) (ag,0,0)).bind λaa=>(mB ab.length (λ(aq:Nat)(o:List Int×List (Int×Int)×List (List aI))=>((idx ab (aq:Int)).bind λa5=>(fW N (aq:Int) o.1).bind λah=>(bif(!(lY o.2.1 ah.1))then((app 24 o.2.2 [([]:List aI)]).bind λa6=>some (qE o.2.1 ah.1 (o.2.2.length:Int),a6,(o.2.2.length:Int)))else some (o.2.1,o.2.2,fS o.2.1 ah.1 (0:Int))).bind λaf=>(idx af.2.1 af.2.2).bind λa7=>(app 32 a7 ([a5]:List aI)).bind λa8=>(idx af.2.1 af.2.2).bind λbg=>some (ah.2,af.1,af.2.1.set (Int.toNat af.2.2) a8):Option (List Int×List (Int×Int)×List (List aI)))) (aa.1,([]:List (Int×Int)),([]:List (List aI)))).bind λo=>(mB o.2.2.length (λ(a9:Nat)(al:List (List aA))=>((idx o.2.2 (a9:Int)).bind λba=>(iF N ba).bind λbb=>(app 24 al ([bb]:List (List aA))).bind λbc=>some bc:Option (List<|List aA))) ([]:List (List aA))).bind λal=>some al
def kE(N:Nat)(p0_0:List (List aI))(p0_2:List cP)(p0_4:List (List aA))(p0_5:List aO):Option (Bool×List (List aA)×List aO):=
 (mB p0_0.length (λ(aa:Nat)(j:List (List aA)×List aO×Bool)=>((idx p0_0 (aa:Int)).bind λai=>(mB p0_2.length (λ(aj:Nat)(o:List aI)=>((idx p0_2 (aj:Int)).bind λaf=>(lM N af (aa:Int)).bind λak=>(bif ak then((gK N af).bind λal=>(app 32 o ([al]:List aI)).bind λan=>some an)else some o).bind λao=>some ao:Option (List aI))) ([]:List aI)).bind λo=>(iF N ai).bind λaq=>(iF N o).bind λar=>(lN N aq ar).bind λab=>(bif j.2.2 then((nk N ab).bind λau=>some (decide<|au<=2000,ab))else some (false,ab)).bind λad=>(app 24 j.1 ([ad.2]:List (List aA))).bind λav=>(mn N ad.2).bind λag=>(mB ag.length (λ(aw:Nat)(ae:List aO)=>((idx ag (aw:Int)).bind λah=>(jZ N ah).bind λax=>(app 56 ae ([(⟨(aa:Int),ah,ax⟩:aO)]:List aO)).bind λay=>some ay:Option (List aO))) j.2.1).bind λae=>some (av,ae,ad.1):Option (List (List aA)×List aO×Bool))) (p0_4,p0_5,true)).bind λj=>(bif j.2.2 then some (decide<|(j.2.1.length:Int)<=2000)else some false).bind λaz=>some (az,j.1,j.2.1)
def tE(N:Nat)(p0 p1:aI):Option Bool:=
 some (((decide (p0.X0<p1.X1)&&decide (p1.X0<p0.X1))&&((p0.Y1==p1.Y0)||(p1.Y1==p0.Y0)))||((decide (p0.Y0<p1.Y1)&&decide (p1.Y0<p0.Y1))&&((p0.X1==p1.X0)||(p1.X1==p0.X0))))
def kQ(N:Nat)(p0:aI)(p1:cP):Option Bool:=
 (gK N p1).bind λj=>(tE N p0 j).bind λo=>some o
def il(N:Nat)(p0:List aI)(p1:aI->Option Bool):Option Bool:=
 (mM N p0 p1).bind λj=>some<|decide<|j>=0
def kF(N:Nat)(p0_2:List cP)(p0_5:List aO)(p0_6:List (List Int)):Option (List<|List Int):=
 (mB p0_2.length (λ(ae:Nat)(o:List (List Int))=>((idx p0_2 (ae:Int)).bind λaa=>(mB p0_5.length (λ(ab:Nat)(j:List Int)=>((idx p0_5 (ab:Int)).bind λad=>(bif aa.jX then((lM N aa ad.fP).bind λaf=>bif af then((il N ad.ri<|λy0=>kQ N y0 aa).bind λag=>some ag)else some false)else some false).bind λah=>(bif ah then((app 8 j ([(ab:Int)]:List Int)).bind λai=>some ai)else some j).bind λaj=>some aj:Option (List Int))) ([]:List Int)).bind λj=>(app 24 o ([j]:List (List Int))).bind λak=>some ak:Option (List<|List Int))) p0_6).bind λo=>some o
def kq(N:Nat)(p0:Int):Option (List Int):=
 (mk 8 (0:Int) p0).bind λaa=>(mB aa.length (λ(o:Nat)(j:List Int)=>((idx j (o:Int)).bind λab=>some (j.set (Int.toNat (o:Int)) (o:Int)):Option (List Int))) aa).bind λj=>some j
def fz(N:Nat)(p0_0:List Int)(p1:Int):Option (Int×List Int):=
 (kp (λ(j:List Int×Int)=>((idx j.1 j.2).bind λaa=>bif aa != j.2 then((idx j.1 j.2).bind λab=>(idx j.1 ab).bind λo=>(idx j.1 j.2).bind λaf=>(idx (j.1.set (Int.toNat j.2) o) j.2).bind λad=>some<|.nx (j.1.set (Int.toNat j.2) o,ad))else(some<|.br (j.1,j.2)):Option (Fl (List Int×Int) Empty))) N (p0_0,p1)).bind λae=>ae.cs (λ(j:List Int×Int)=>some (j.2,j.1))<|λr=>r.elim
def eP(N:Nat)(p0_0:List Int)(p1 p2:Int):Option (List Int):=
 (fz N p0_0 p1).bind λo=>(fz N o.2 p2).bind λj=>(idx j.2 (if o.1<j.1 then j.1 else o.1)).bind λaa=>some<|j.2.set (Int.toNat (if o.1<j.1 then j.1 else o.1)) (if j.1<o.1 then j.1 else o.1)
def kG(N:Nat)(p0_0:List Int):Option (List (List Int)×List Int):=
 (mB p0_0.length (λ(ab:Nat)(j:List Int×List (List Int)×List (Int×Int))=>((fz N j.1 (ab:Int)).bind λaa=>(bif aa.1==(ab:Int)then((app 24 j.2.1 [([]:List Int)]).bind λad=>some (ad,qE j.2.2 (ab:Int) (j.2.1.length:Int)))else some (j.2.1,j.2.2)).bind λo=>(idx o.1<|fS o.2 aa.1 (0:Int)).bind λae=>(app 8 ae ([(ab:Int)]:List Int)).bind λaf=>(idx o.1<|fS o.2 aa.1 (0:Int)).bind λag=>some (aa.2,o.1.set (Int.toNat<|fS o.2 aa.1 (0:Int)) af,o.2):Option (List Int×List (List Int)×List (Int×Int)))) (p0_0,([]:List (List Int)),([]:List (Int×Int)))).bind λj=>some (j.2.1,j.1)
def l7(N:Nat)(p0:aI)(p1:bL):Option Bool:=
 (bif decide (p1.X>=p0.X0)then(bif decide (p1.X<p0.X1)then(bif decide (p1.Y>=p0.Y0)then some (decide<|p1.Y<p0.Y1)else some false)else some false)else some false).bind λj=>some j
def kZ(N:Nat)(p0:List aI)(p1:bL):Option Bool:=
 (il N p0<|λy0=>l7 N y0 p1).bind λj=>some j
def kH(N:Nat)(p0_2:List cP)(p0_5:List aO)(p1:dV):Option (gM×Bool):=
 (uO p0_2.length (λ(o:Nat)(ad:Unit)=>((idx p0_2 (o:Int)).bind λj=>(bif j.jX then((lM N j p1.fP).bind λae=>bif ae then((gK N j).bind λaf=>(kZ N ([af]:List aI) p1.At).bind λag=>some ag)else some false)else some false).bind λah=>bif ah then some (.rt ((⟨true,(o:Int)⟩:gM),true))else(some<|.nx ()):Option (Fl Unit<|gM×Bool))) ()).bind λai=>ai.cs (λ(ad:Unit)=>(uO p0_5.length (λ(aa:Nat)(aj:Unit)=>((idx p0_5 (aa:Int)).bind λab=>(bif ab.fP==p1.fP then((kZ N ab.ri p1.At).bind λak=>some ak)else some false).bind λal=>bif al then some (.rt ((⟨false,(aa:Int)⟩:gM),true))else(some<|.nx ()):Option (Fl Unit<|gM×Bool))) ()).bind λan=>an.cs (λ(aj:Unit)=>some ((⟨false,0⟩:gM),false))<|λr=>some r)<|λr=>some r
def iG(N:Nat)(p0_8:List Int)(p0_9:List Int)(p1:gM):Option Int:=
 bif p1.cP then((idx p0_9 p1.Number).bind λj=>some j)else((idx p0_8 p1.Number).bind λo=>some o)
def gG(N:Nat)(p0_2:List cP)(p0_3:List dV)(p0_5:List aO)(p0_6:List (List Int))(p0_8:List Int)(p0_9:List Int)(p0_10:List Int)(p0_11:List gM):Option (List dL×List Int×List Int×List Int×List gM):=
 (kq N<|wrap .i64<|(p0_5.length:Int)+(p0_2.length:Int)).bind λar=>(mB p0_6.length (λ(ai:Nat)(af:List Int)=>((idx p0_6 (ai:Int)).bind λaj=>(mB aj.length (λ(au:Nat)(ag:List Int)=>((idx aj (au:Int)).bind λav=>(eP N ag av<|wrap .i64<|(p0_5.length:Int)+(ai:Int)).bind λaw=>some aw:Option (List Int))) af).bind λag=>some ag:Option (List Int))) ar).bind λaf=>(mk 8 (0:Int) (p0_5.length:Int)).bind λax=>(mk 8 (0:Int) (p0_2.length:Int)).bind λay=>(kG N af).bind λak=>(mB ak.1.length (λ(az:Nat)(aa:List dL×List Int×List Int)=>((idx ak.1 (az:Int)).bind λal=>(mB al.length (λ(a0:Nat)(j:List Int×List Int×List Int×List Int)=>((idx al (a0:Int)).bind λab=>(bif decide (ab<(p0_5.length:Int))then((idx j.1 ab).bind λbd=>(app 8 j.2.2.1 ([ab]:List Int)).bind λa1=>some (j.1.set (Int.toNat ab) (aa.1.length:Int),j.2.1,a1,j.2.2.2))else((idx p0_2<|wrap .i64<|ab -(p0_5.length:Int)).bind λa2=>(bif a2.jX then((idx j.2.1<|wrap .i64<|ab -(p0_5.length:Int)).bind λbf=>(app 8 j.2.2.2 ([wrap .i64<|ab -(p0_5.length:Int)]:List Int)).bind λa3=>some (j.2.1.set (Int.toNat<|wrap .i64<|ab -(p0_5.length:Int)) (aa.1.length:Int),a3))else((idx j.2.1<|wrap .i64<|ab -(p0_5.length:Int)).bind λbg=>some (j.2.1.set (Int.toNat<|wrap .i64<|ab -(p0_5.length:Int))<|-1,j.2.2.2))).bind λan=>some (j.1,an.1,j.2.2.1,an.2))).bind λad=>some (ad.1,ad.2.1,ad.2.2.1,ad.2.2.2):Option (List Int×List Int×List Int×List Int))) (aa.2.1,aa.2.2,([]:List Int),([]:List Int))).bind λj=>(bif decide (wrap .i64 ((j.2.2.1.length:Int)+(j.2.2.2.length:Int))>0)then((app 72 aa.1 [(⟨j.2.2.1,j.2.2.2,([]:List eE)⟩:dL)]).bind λa4=>some a4)else some aa.1).bind λa5=>some (a5,j.1,j.2.1):Option (List dL×List Int×List Int))) (([]:List dL),ax,ay)).bind λaa=>(mB p0_3.length (λ(a6:Nat)(o:List dL×List Int×List Int×List Int×List gM)=>((idx p0_3 (a6:Int)).bind λao=>(kH N p0_2 p0_5 ao).bind λah=>(bif ah.2 then((iG N o.2.1 o.2.2.1 ah.1).bind λae=>(idx o.1 ae).bind λa7=>(l6 N ao).bind λa8=>(app 32 a7.kV ([a8]:List eE)).bind λa9=>(idx o.1 ae).bind λba=>some (o.1.set (Int.toNat ae) {ba with kV:=a9},ae))else some (o.1,(-1))).bind λaq=>(app 8 o.2.2.2.1 ([aq.2]:List Int)).bind λbb=>(app 16 o.2.2.2.2 ([ah.1]:List gM)).bind λbc=>some (aq.1,o.2.1,o.2.2.1,bb,bc):Option (List dL×List Int×List Int×List Int×List gM))) (aa.1,aa.2.1,aa.2.2,p0_10,p0_11)).bind λo=>some (o.1,o.2.1,o.2.2.1,o.2.2.2.1,o.2.2.2.2)
def iH(N:Nat)(p0:fE):Option (Option (List (List aI)×List aI×List cP×List dV×List (List aA)×List aO×List (List Int)×List dL×List Int×List Int×List Int×List gM)×Int):=
 bif(p0.aL.length:Int)==0 then some (none,9)else(bif decide ((p0.aL.length:Int)>16)then some (none,2)else((uO p0.aL.length (λ(an:Nat)(aa:Int)=>((idx p0.aL (an:Int)).bind λae=>(jO N ae).bind λaf=>bif af != 0 then some (.rt (none,af))else(some<|.nx<|wrap .i64<|aa+(ae.length:Int)):Option (Fl Int<|Option (List (List aI)×List aI×List cP×List dV×List (List aA)×List aO×List (List Int)×List dL×List Int×List Int×List Int×List gM)×Int))) (p0.dC.length:Int)).bind λao=>ao.cs (λ(aa:Int)=>(jO N p0.dC).bind λag=>bif ag != 0 then some (none,ag)else(bif decide (aa>2000)then some (none,2)else((lj N p0).bind λah=>bif ah != 0 then some (none,ah)else((ll N p0).bind λai=>bif ai != 0 then some (none,ai)else((uO p0.aV.length (λ(aj:Nat)(aq:Unit)=>((idx p0.aV (aj:Int)).bind λab=>(vF p0.aV 0 (aj:Int)).bind λak=>(uO ak.length (λ(ar:Nat)(au:Unit)=>((idx ak (ar:Int)).bind λad=>(bif decide (ab.cR<=ad.To)&&decide (ad.cR<=ab.To)then((gK N ab).bind λav=>(gK N ad).bind λaw=>(tV N av aw).bind λax=>some<|ax==0)else some false).bind λay=>bif ay then some (.rt (none,12))else(some<|.nx ()):Option (Fl Unit<|Option (List (List aI)×List aI×List cP×List dV×List (List aA)×List aO×List (List Int)×List dL×List Int×List Int×List Int×List gM)×Int))) ()).bind λaz=>az.cs (λ(au:Unit)=>some<|.nx ()) (λr=>some<|.rt r):Option (Fl Unit<|Option (List (List aI)×List aI×List cP×List dV×List (List aA)×List aO×List (List Int)×List dL×List Int×List Int×List Int×List gM)×Int))) ()).bind λa0=>a0.cs (λ(aq:Unit)=>(kE N p0.aL p0.aV ([]:List (List aA)) ([]:List aO)).bind λj=>bif(!j.1)then some (none,2)else((kF N p0.aV j.2.2 ([]:List (List Int))).bind λal=>(gG N p0.aV p0.bN j.2.2 al ([]:List Int) ([]:List Int) ([]:List Int) ([]:List gM)).bind λo=>some (some (p0.aL,p0.dC,p0.aV,p0.bN,j.2.1,j.2.2,al,o.1,o.2.1,o.2.2.1,o.2.2.2.1,o.2.2.2.2),0)))<|λr=>some r)))))<|λr=>some r))
def gv(N:Nat)(p0:List dV)(p1:eE)(p2:dV->eE->Option Int):Option (Int×Bool):=
 (kp (λ(j:Int×Int)=>(bif decide (j.1<j.2)then((idx p0<|wrap .i64<|Int.fdiv (wrap .u64<|wrap .i64<|j.1+j.2) 2).bind λaa=>(p2 aa p1).bind λab=>(bif decide (ab<0)then some (wrap .i64<|wrap .i64 (Int.fdiv (wrap .u64<|wrap .i64<|j.1+j.2) 2)+1,j.2)else some (j.1,wrap .i64<|Int.fdiv (wrap .u64<|wrap .i64<|j.1+j.2) 2)).bind λo=>some<|.nx (o.1,o.2))else(some<|.br (j.1,j.2)):Option (Fl (Int×Int) Empty))) N (0,(p0.length:Int))).bind λad=>ad.cs (λ(j:Int×Int)=>(bif decide (j.1<(p0.length:Int))then((idx p0 j.1).bind λae=>(p2 ae p1).bind λaf=>some<|af==0)else some false).bind λag=>some (j.1,ag))<|λr=>r.elim
def jv(N:Nat)(p0:dV)(p1:eE):Option Int:=
 (l6 N p0).bind λj=>(eV N j p1).bind λo=>some o
def fB(N:Nat)(p0:fE)(p1:eE):Option Int:=
 (gv N p0.bN p1<|jv N).bind λj=>bif(!j.2)then some (-1)else some j.1
def sf(N:Nat)(p0:List Int):Option Int:=
 (uO p0.length (λ(o:Nat)(aa:Unit)=>((idx p0 (o:Int)).bind λj=>bif j != 0 then some (.rt j)else(some<|.nx ()):Option (Fl Unit Int))) ()).bind λab=>ab.cs (λ(aa:Unit)=>some 0)<|λr=>some r
def iB(N:Nat)(p0 p1:Test):Option Int:=
 (eV N p0.A p1.A).bind λj=>(eV N p0.B p1.B).bind λo=>(sf N ([j,o]:List Int)).bind λaa=>some aa
def l8(N:Nat)(p0:fE)(p1:List Test):Option (Option (List (List aI)×List aI×List cP×List dV×List (List aA)×List aO×List (List Int)×List dL×List Int×List Int×List Int×List gM)×Int):=
 (iH N p0).bind λo=>Kq o.1 (bif o.2 != 0 then some (none,o.2)else(bif decide ((p1.length:Int)>2000)then some (none,2)else((uO p1.length (λ(ad:Nat)(af:Unit)=>((idx p1 (ad:Int)).bind λaa=>((fB N p0 aa.A).bind λag=>bif decide (ag<0)then some true else((fB N p0 aa.B).bind λah=>some<|decide<|ah<0)).bind λai=>bif ai then some (.rt (none,9))else((eV N aa.B aa.A).bind λaj=>bif decide (aj<=0)then some (.rt (none,8))else((bif decide ((ad:Int)>0)then((idx p1<|wrap .i64<|(ad:Int) - 1).bind λak=>(iB N aa ak).bind λal=>some<|decide<|al<=0)else some false).bind λan=>bif an then some (.rt (none,8))else some (.nx ()))):Option (Fl Unit<|Option (List (List aI)×List aI×List cP×List dV×List (List aA)×List aO×List (List Int)×List dL×List Int×List Int×List Int×List gM)×Int))) ()).bind λao=>ao.cs (λ(af:Unit)=>some (none,0))<|λr=>some r))) (λ(j:(List (List aI)×List aI×List cP×List dV×List (List aA)×List aO×List (List Int)×List dL×List Int×List Int×List Int×List gM))=>bif o.2 != 0 then some (none,o.2)else(bif decide ((p1.length:Int)>2000)then some (none,2)else((uO p1.length (λ(ae:Nat)(aq:Unit)=>((idx p1 (ae:Int)).bind λab=>((fB N p0 ab.A).bind λar=>bif decide (ar<0)then some true else((fB N p0 ab.B).bind λau=>some<|decide<|au<0)).bind λav=>bif av then some (.rt (none,9))else((eV N ab.B ab.A).bind λaw=>bif decide (aw<=0)then some (.rt (none,8))else((bif decide ((ae:Int)>0)then((idx p1<|wrap .i64<|(ae:Int) - 1).bind λax=>(iB N ab ax).bind λay=>some<|decide<|ay<=0)else some false).bind λaz=>bif az then some (.rt (none,8))else some (.nx ()))):Option (Fl Unit<|Option (List (List aI)×List aI×List cP×List dV×List (List aA)×List aO×List (List Int)×List dL×List Int×List Int×List Int×List gM)×Int))) ()).bind λa0=>a0.cs (λ(aq:Unit)=>some (some (j.1,j.2.1,j.2.2.1,j.2.2.2.1,j.2.2.2.2.1,j.2.2.2.2.2.1,j.2.2.2.2.2.2.1,j.2.2.2.2.2.2.2.1,j.2.2.2.2.2.2.2.2.1,j.2.2.2.2.2.2.2.2.2.1,j.2.2.2.2.2.2.2.2.2.2.1,j.2.2.2.2.2.2.2.2.2.2.2),0))<|λr=>some r)))
def gR(N:Nat)(p0:fE)(p1:List Test):Option Int:=
 (l8 N p0 p1).bind λj=>Kq j.1 (some j.2)<|λ(o:(List (List aI)×List aI×List cP×List dV×List (List aA)×List aO×List (List Int)×List dL×List Int×List Int×List Int×List gM))=>some j.2
def ln(N:Nat)(p0 p1 p2:Int):Option Bool:=
 some (decide (p0>=p1)&&decide (p0<=p2))
def kr(N:Nat)(p0:fE)(p1:List Test)(p2 p3:Int):Option Int:=
 (gR N p0 p1).bind λj=>bif j != 0 then some j else(((ln N p2 1 1000000).bind λo=>bif(!o)then some true else((ln N p3 0 1000).bind λaa=>some<|!aa)).bind λab=>bif ab then some 1 else some 0)
def i9(N:Nat)(p0:fE)(p1:Test)(p2:Bool):Option bT:=
 (fB N p0 p1.A).bind λab=>(idx p0.bN ab).bind λj=>(fB N p0 p1.B).bind λad=>(idx p0.bN ad).bind λo=>(bif p2 then some (o.At,j.At)else some (j.At,o.At)).bind λaa=>some (⟨aa.1,aa.2⟩:bT)
def o4(N:Nat)(p0 p1:Int):Option Int:=
 some (if wrap .i64 (p0 - p1)<(wrap .i64<|p1 - p0)then wrap .i64 (p1 - p0)else wrap .i64 (p0 - p1))
def kI(N:Nat)(p0 p1:bT)(p2:Int):Option Int:=
 (kp (λ(j:Int×Int)=>(bif decide (j.2<2)then((Kn 2 j.2).bind λo=>(o4 N ((p0.gt o).X)<|(p1.gt o).X).bind λaa=>(o4 N ((p0.gt o).Y)<|(p1.gt o).Y).bind λab=>some<|.nx ((if(if j.1<aa then aa else j.1)<ab then ab else(if j.1<aa then aa else j.1)),wrap .i64<|j.2+1))else(some<|.br (j.1,j.2)):Option (Fl (Int×Int) Empty))) N (0,0)).bind λad=>ad.cs (λ(j:Int×Int)=>(LR p2).bind λae=>some<|wrap .i64<|Int.tdiv (wrap .i64<|wrap .i64 (j.1+p2) - 1) p2)<|λr=>r.elim
def nn(N:Nat)(p0:fE)(p1:List Test)(p2 p3:Int):Option (List Touch×Int):=
 (kr N p0 p1 p2 p3).bind λai=>bif ai != 0 then some (([]:List Touch),ai)else((mk 16 (⟨0,0⟩:cB)<|wrap .i64<|(p1.length:Int)+1).bind λau=>(kp (λ(j:List cB×Int)=>(bif decide (j.2>0)then((mB (([false,true]:List Bool).length) (λ(aj:Nat)(aa:List cB)=>((idx ([false,true]:List Bool) (aj:Int)).bind λav=>(idx p1<|wrap .i64<|j.2 - 1).bind λaw=>(i9 N p0 aw av).bind λak=>(idx p1 j.2).bind λax=>(i9 N p0 ax false).bind λay=>(kI N ak ay p2).bind λal=>(idx aa<|wrap .i64<|j.2+1).bind λan=>(idx p1 j.2).bind λaz=>(i9 N p0 az true).bind λa0=>(kI N ak a0 p2).bind λao=>(idx aa<|wrap .i64<|j.2+1).bind λaq=>(idx aa j.2).bind λa1=>(Kn 2 (aj:Int)).bind λa2=>some (aa.set (Int.toNat j.2)<|a1.st a2 (if wrap .i64 (ao+aq.e1)<(wrap .i64<|al+an.e0)then wrap .i64 (ao+aq.e1)else wrap .i64 (al+an.e0))):Option (List cB))) j.1).bind λaa=>some<|.nx (aa,wrap .i64<|j.2 - 1))else(some<|.br (j.1,j.2)):Option (Fl (List cB×Int) Empty))) N (au,wrap .i64<|(p1.length:Int) - 1)).bind λa3=>a3.cs (λ(j:List cB×Int)=>(mB p1.length (λ(ab:Nat)(o:List Touch×bT×Int)=>((idx p1 (ab:Int)).bind λaf=>(i9 N p0 af false).bind λa4=>(kI N o.2.1 a4 p2).bind λad=>(i9 N p0 af true).bind λa5=>(kI N o.2.1 a5 p2).bind λae=>(idx j.1<|wrap .i64<|(ab:Int)+1).bind λag=>(idx j.1<|wrap .i64<|(ab:Int)+1).bind λah=>(bif decide (wrap .i64 (ae+ag.e1)< wrap .i64 (ad+ah.e0))then some ae else some ad).bind λar=>(i9 N p0 af<|decide<|wrap .i64 (ae+ag.e1)< wrap .i64 (ad+ah.e0)).bind λa6=>(app 24 o.1 ([(⟨(ab:Int),decide<|wrap .i64 (ae+ag.e1)< wrap .i64 (ad+ah.e0),wrap .i64<|o.2.2+ wrap .i64 (ar+p3)⟩:Touch)]:List Touch)).bind λa7=>some (a7,a6,wrap .i64<|o.2.2+ wrap .i64 (ar+p3)):Option (List Touch×bT×Int))) (([]:List Touch),(⟨(⟨0,0⟩:bL),(⟨0,0⟩:bL)⟩:bT),0)).bind λo=>some (o.1,0))<|λr=>r.elim)
def np(N:Nat)(p0 p1 p2:Int):Option Bool:=
 some (decide (p0>=p1)&&decide (p0<=p2))
def cU(N:Nat)(p0:Int):Option Bool:=
 (np N p0 (-1000000) 1000000).bind λj=>some j
def iq(N:Nat)(p0:List aI):Option Int:=
 bif decide ((p0.length:Int)>2000)then some 2 else((kp (λ(o:Int)=>(bif decide (o<(p0.length:Int))then((idx p0 o).bind λj=>((cU N j.X0).bind λaa=>bif(!aa)then some true else((cU N j.Y0).bind λab=>bif(!ab)then some true else((cU N j.X1).bind λad=>bif(!ad)then some true else((cU N j.Y1).bind λae=>some<|!ae)))).bind λaf=>bif af then some (.rt 1)else(bif decide (j.X1<=j.X0)||decide (j.Y1<=j.Y0)then some (.rt 13)else some (.nx<|wrap .i64<|o+1)))else(some<|.br o):Option (Fl Int Int))) N 0).bind λag=>ag.cs (λ(o:Int)=>some 0)<|λr=>some r)
def iI(N:Nat)(p0 p1:aI):Option Bool:=
 some (decide (p0.Y0<p1.Y0)||((p0.Y0==p1.Y0)&&decide (p0.X0<p1.X0)))
def fQ(N:Nat)(p0:List Int)(p1:Int):Option (List Int):=
 (kp (λ(j:Int×Int)=>(bif decide (j.1<j.2)then((idx p0<|wrap .i64<|Int.tdiv (wrap .i64<|j.1+j.2) 2).bind λaa=>(bif decide (aa<p1)then some (wrap .i64<|wrap .i64 (Int.tdiv (wrap .i64<|j.1+j.2) 2)+1,j.2)else some (j.1,wrap .i64<|Int.tdiv (wrap .i64<|j.1+j.2) 2)).bind λo=>some<|.nx (o.1,o.2))else(some<|.br (j.1,j.2)):Option (Fl (Int×Int) Empty))) N (0,(p0.length:Int))).bind λab=>ab.cs (λ(j:Int×Int)=>(bif decide (j.1<(p0.length:Int))then((idx p0 j.1).bind λad=>some<|ad==p1)else some false).bind λae=>bif ae then some p0 else((vF p0 0 j.1).bind λaf=>(app 8 ([]:List Int) af).bind λag=>(app 8 ag ([p1]:List Int)).bind λah=>(vF p0 j.1 (p0.length:Int)).bind λai=>(app 8 ah ai).bind λaj=>some aj))<|λr=>r.elim
def ij(N:Nat)(p0:List aI):Option (List Int):=
 (kp (λ(j:List Int×Int)=>(bif decide (j.2<(p0.length:Int))then((idx p0 j.2).bind λo=>(idx p0 j.2).bind λaa=>(fQ N j.1 o.Y0).bind λab=>(fQ N ab aa.Y1).bind λad=>some<|.nx (ad,wrap .i64<|j.2+1))else(some<|.br (j.1,j.2)):Option (Fl (List Int×Int) Empty))) N (([]:List Int),0)).bind λae=>ae.cs (λ(j:List Int×Int)=>some j.1)<|λr=>r.elim
def iJ(N:Nat)(p0:List aH)(p1:aH):Option (List aH):=
 (kp (λ(o:List aH×Int)=>((bif decide (o.2<(p0.length:Int))then((idx p0 o.2).bind λad=>some<|decide<|ad.to<p1.from_)else some false).bind λae=>bif ae then((idx p0 o.2).bind λaf=>(app 16 o.1 ([af]:List aH)).bind λag=>some<|.nx (ag,wrap .i64<|o.2+1))else(some<|.br (o.1,o.2)):Option (Fl (List aH×Int) Empty))) N (([]:List aH),0)).bind λah=>ah.cs (λ(o:List aH×Int)=>(kp (λ(j:aH×Int)=>((bif decide (j.2<(p0.length:Int))then((idx p0 j.2).bind λai=>some<|decide<|ai.from_<=j.1.to)else some false).bind λaj=>bif aj then((idx p0 j.2).bind λaa=>(idx p0 j.2).bind λab=>some<|.nx ({{j.1 with from_:=(if aa.from_<j.1.from_ then aa.from_ else j.1.from_)}with to:=(if j.1.to<ab.to then ab.to else j.1.to)},wrap .i64<|j.2+1))else(some<|.br (j.1,j.2)):Option (Fl (aH×Int) Empty))) N (p1,o.2)).bind λak=>ak.cs (λ(j:aH×Int)=>(app 16 o.1 ([j.1]:List aH)).bind λal=>(vF p0 j.2 (p0.length:Int)).bind λan=>(app 16 al an).bind λao=>some ao)<|λr=>r.elim)<|λr=>r.elim
def ja(N:Nat)(p0:List aI)(p1:Int):Option (List aH):=
 (kp (λ(j:List aH×Int)=>(bif decide (j.2<(p0.length:Int))then(((idx p0 j.2).bind λo=>bif decide (o.Y0<=p1)then((idx p0 j.2).bind λaa=>some<|decide<|p1<aa.Y1)else some false).bind λab=>(bif ab then((idx p0 j.2).bind λad=>(idx p0 j.2).bind λae=>(iJ N j.1 (⟨ad.X0,ae.X1⟩:aH)).bind λaf=>some af)else some j.1).bind λag=>some<|.nx (ag,wrap .i64<|j.2+1))else(some<|.br (j.1,j.2)):Option (Fl (List aH×Int) Empty))) N (([]:List aH),0)).bind λah=>ah.cs (λ(j:List aH×Int)=>some j.1)<|λr=>r.elim
def jP(N:Nat)(p0:List aH)(p1:List aH):Option Bool:=
 bif(p0.length:Int) != (p1.length:Int)then some false else((kp (λ(j:Int)=>(bif decide (j<(p0.length:Int))then((idx p0 j).bind λo=>(idx p1 j).bind λaa=>bif(!(decide<|o=aa))then some (.rt false)else some (.nx<|wrap .i64<|j+1))else(some<|.br j):Option (Fl Int Bool))) N 0).bind λab=>ab.cs (λ(j:Int)=>some true)<|λr=>some r)
def gm(N:Nat)(p0:List aM)(p1:aM):Option (List aM):=
 bif(p1.ji.length:Int)==0 then some p0 else((bif decide ((p0.length:Int)>0)then((idx p0<|wrap .i64<|(p0.length:Int) - 1).bind λj=>bif j.to==p1.from_ then((idx p0<|wrap .i64<|(p0.length:Int) - 1).bind λo=>(jP N o.ji p1.ji).bind λaa=>some aa)else some false)else some false).bind λab=>bif ab then((idx p0<|wrap .i64<|(p0.length:Int) - 1).bind λad=>some<|p0.set (Int.toNat<|wrap .i64<|(p0.length:Int) - 1)<|{ad with to:=p1.to})else((app 40 p0 ([p1]:List aM)).bind λae=>some ae))
def jw(N:Nat)(p0:List aM):Option (List aI):=
 (kp (λ(j:List aI×Int)=>(bif decide (j.2<(p0.length:Int))then((kp (λ(o:List aI×Int)=>((idx p0 j.2).bind λaa=>bif decide (o.2<(aa.ji.length:Int))then((idx p0 j.2).bind λab=>(idx ab.ji o.2).bind λad=>(idx p0 j.2).bind λae=>(idx p0 j.2).bind λaf=>(idx af.ji o.2).bind λag=>(idx p0 j.2).bind λah=>(app 32 o.1 ([(⟨ad.from_,ae.from_,ag.to,ah.to⟩:aI)]:List aI)).bind λai=>some<|.nx (ai,wrap .i64<|o.2+1))else(some<|.br (o.1,o.2)):Option (Fl (List aI×Int) Empty))) N (j.1,0)).bind λaj=>aj.cs (λ(o:List aI×Int)=>some<|.nx (o.1,wrap .i64<|j.2+1))<|λr=>r.elim)else(some<|.br (j.1,j.2)):Option (Fl (List aI×Int) Empty))) N (([]:List aI),0)).bind λak=>ak.cs (λ(j:List aI×Int)=>some j.1)<|λr=>r.elim
def fL(N:Nat)(p0:List aI):Option (List aI):=
 (ij N p0).bind λo=>(kp (λ(j:List aM×Int)=>(bif decide (j.2<(o.length:Int))then((idx o<|wrap .i64<|j.2 - 1).bind λaa=>(idx o j.2).bind λab=>(idx o<|wrap .i64<|j.2 - 1).bind λad=>(ja N p0 ad).bind λae=>(gm N j.1 (⟨aa,ab,ae⟩:aM)).bind λaf=>some<|.nx (af,wrap .i64<|j.2+1))else(some<|.br (j.1,j.2)):Option (Fl (List aM×Int) Empty))) N (([]:List aM),1)).bind λag=>ag.cs (λ(j:List aM×Int)=>(jw N j.1).bind λah=>some ah)<|λr=>r.elim
def jQ(N:Nat)(p0:List aI)(p1:List aI):Option Bool:=
 bif(p0.length:Int) != (p1.length:Int)then some false else((kp (λ(j:Int)=>(bif decide (j<(p0.length:Int))then((idx p0 j).bind λo=>(idx p1 j).bind λaa=>bif(!(decide<|o=aa))then some (.rt false)else some (.nx<|wrap .i64<|j+1))else(some<|.br j):Option (Fl Int Bool))) N 0).bind λab=>ab.cs (λ(j:Int)=>some true)<|λr=>some r)
def fV(N:Nat)(p0:List aI):Option Int:=
 (iq N p0).bind λo=>bif o != 0 then some o else((kp (λ(j:Int)=>(bif decide (j<(p0.length:Int))then((idx p0<|wrap .i64<|j - 1).bind λaa=>(idx p0 j).bind λab=>(iI N aa ab).bind λad=>bif(!ad)then some (.rt 8)else some (.nx<|wrap .i64<|j+1))else(some<|.br j):Option (Fl Int Int))) N 1).bind λae=>ae.cs (λ(j:Int)=>(fL N p0).bind λaf=>(jQ N p0 af).bind λag=>bif(!ag)then some 3 else some 0)<|λr=>some r)
def eK(N:Nat)(p0 p1 p2:Int):Option Bool:=
 some (decide (p0>=p1)&&decide (p0<=p2))
def gq(N:Nat)(p0:bL):Option Bool:=
 ((cU N p0.X).bind λj=>bif j then((cU N p0.Y).bind λo=>some o)else some false).bind λaa=>some aa
def dI(N:Nat)(p0:cP):Option aI:=
 some (⟨wrap .i64<|p0.At.X -(wrap .i64<|Int.tdiv p0.dQ 2),wrap .i64<|p0.At.Y -(wrap .i64<|Int.tdiv p0.dQ 2),wrap .i64<|wrap .i64 (p0.At.X -(wrap .i64<|Int.tdiv p0.dQ 2))+p0.dQ,wrap .i64<|wrap .i64 (p0.At.Y -(wrap .i64<|Int.tdiv p0.dQ 2))+p0.dQ⟩:aI)
def gZ(N:Nat)(p0:cP):Option Int:=
 ((eK N p0.dQ 1 10000).bind λo=>bif(!o)then some true else((gq N p0.At).bind λaa=>some<|!aa)).bind λab=>bif ab then some 1 else((dI N p0).bind λj=>((cU N j.X0).bind λad=>bif(!ad)then some true else((cU N j.Y0).bind λae=>bif(!ae)then some true else((cU N j.X1).bind λaf=>bif(!af)then some true else((cU N j.Y1).bind λag=>some<|!ag)))).bind λah=>bif ah then some 1 else some 0)
def gH(N:Nat)(p0:eJ):Option Bool:=
 (kp (λ(o:Int)=>(bif decide (o<(p0.dD.length:Int))then((Ho p0 o).bind λj=>(bif(!(((decide ((j.toNat:Int)>=97)&&decide ((j.toNat:Int)<=122))||(decide ((j.toNat:Int)>=65)&&decide ((j.toNat:Int)<=90)))||(decide ((j.toNat:Int)>=48)&&decide ((j.toNat:Int)<=57))))then((ig N (⟨[95,43,45,35]⟩) (j.toNat:Int)).bind λaa=>some<|decide<|aa<0)else some false).bind λab=>bif ab then some (.rt false)else some (.nx<|wrap .i64<|o+1))else(some<|.br o):Option (Fl Int Bool))) N 0).bind λad=>ad.cs (λ(o:Int)=>(eK N (p0.dD.length:Int) 1 40).bind λae=>some ae)<|λr=>some r
def jI(N:Nat)(p0:eJ):Option Bool:=
 (mF N p0<|⟨[47]⟩).bind λo=>(kp (λ(j:Int)=>(bif decide (j<(o.length:Int))then((idx o j).bind λaa=>(gH N aa).bind λab=>bif(!ab)then some (.rt false)else some (.nx<|wrap .i64<|j+1))else(some<|.br j):Option (Fl Int Bool))) N 0).bind λad=>ad.cs (λ(j:Int)=>some<|decide<|(p0.dD.length:Int)<=200)<|λr=>some r
def iK(N:Nat)(p0:fE)(p1:Int):Option Int:=
 (idx p0.bN p1).bind λj=>((jI N j.Part).bind λaa=>bif(!aa)then some true else((gH N j.eE).bind λab=>some<|!ab)).bind λad=>bif ad then some 5 else(((eK N j.fP 0<|wrap .i64<|(p0.aL.length:Int) - 1).bind λae=>bif(!ae)then some true else((gq N j.At).bind λaf=>some<|!af)).bind λag=>bif ag then some 1 else(bif decide (p1>0)then((idx p0.bN<|wrap .i64<|p1 - 1).bind λo=>bif j.Part.m6 o.Part||(j.Part.oj o.Part&&(j.eE.m6 o.eE||j.eE.oj o.eE))then some 8 else some 0)else some 0))
def ir(N:Nat)(p0:fE):Option Int:=
 bif(p0.aL.length:Int)==0 then some 9 else(bif decide ((p0.aL.length:Int)>16)then some 2 else((kp (λ(j:Int×Int)=>(bif decide (j.2<(p0.aL.length:Int))then((idx p0.aL j.2).bind λah=>(fV N ah).bind λad=>bif ad != 0 then some (.rt ad)else((idx p0.aL j.2).bind λai=>some<|.nx (wrap .i64<|j.1+(ai.length:Int),wrap .i64<|j.2+1)))else(some<|.br (j.1,j.2)):Option (Fl (Int×Int) Int))) N ((p0.dC.length:Int),0)).bind λaj=>aj.cs (λ(j:Int×Int)=>(fV N p0.dC).bind λae=>bif ae != 0 then some ae else((bif decide (j.1>2000)then some true else some (decide<|(p0.aV.length:Int)>500)).bind λak=>bif ak then some 2 else((kp (λ(o:Int)=>(bif decide (o<(p0.aV.length:Int))then((idx p0.aV o).bind λab=>(gZ N ab).bind λaf=>bif af != 0 then some (.rt af)else(((eK N ab.cR 0<|wrap .i64<|(p0.aL.length:Int) - 1).bind λal=>bif(!al)then some true else((eK N ab.To ab.cR<|wrap .i64<|(p0.aL.length:Int) - 1).bind λan=>some<|!an)).bind λao=>bif ao then some (.rt 1)else some (.nx<|wrap .i64<|o+1)))else(some<|.br o):Option (Fl Int Int))) N 0).bind λaq=>aq.cs (λ(o:Int)=>bif decide ((p0.bN.length:Int)>1000)then some 2 else((kp (λ(aa:Int)=>(bif decide (aa<(p0.bN.length:Int))then((iK N p0 aa).bind λag=>bif ag != 0 then some (.rt ag)else some (.nx<|wrap .i64<|aa+1))else(some<|.br aa):Option (Fl Int Int))) N 0).bind λar=>ar.cs (λ(aa:Int)=>some 0)<|λr=>some r))<|λr=>some r)))<|λr=>some r))
def iL(N:Nat)(p0 p1:cP):Option Bool:=
 some (decide (p0.cR<=p1.To)&&decide (p1.cR<=p0.To))
def gr(N:Nat)(p0 p1:aI):Option Bool:=
 (bif decide ((if p1.X1<p0.X1 then p1.X1 else p0.X1)>(if p0.X0<p1.X0 then p1.X0 else p0.X0))then some (decide<|(if p1.Y1<p0.Y1 then p1.Y1 else p0.Y1)>(if p0.Y0<p1.Y0 then p1.Y0 else p0.Y0))else some false).bind λj=>some j
def kR(N:Nat)(p0:cP)(p1:Int):Option Bool:=
 some (decide (p0.cR<=p1)&&decide (p1<=p0.To))
def iM(N:Nat)(p0:List aH)(p1:Int):Option Bool:=
 (kp (λ(j:Int)=>(bif decide (j<(p0.length:Int))then(((idx p0 j).bind λo=>bif decide (o.from_<=p1)then((idx p0 j).bind λaa=>some<|decide<|p1<aa.to)else some false).bind λab=>bif ab then some (.rt true)else some (.nx<|wrap .i64<|j+1))else(some<|.br j):Option (Fl Int Bool))) N 0).bind λad=>ad.cs (λ(j:Int)=>some false)<|λr=>some r
def j6(N:Nat)(p0:List aH)(p1:List aH)(p2:Int):Option (List aH):=
 (kp (λ(aa:List Int×Int)=>(bif decide (aa.2<(p0.length:Int))then((idx p0 aa.2).bind λae=>(idx p0 aa.2).bind λaf=>(fQ N aa.1 ae.from_).bind λag=>(fQ N ag af.to).bind λah=>some<|.nx (ah,wrap .i64<|aa.2+1))else(some<|.br (aa.1,aa.2)):Option (Fl (List Int×Int) Empty))) N (([]:List Int),0)).bind λai=>ai.cs (λ(aa:List Int×Int)=>(kp (λ(j:List Int×Int)=>(bif decide (j.2<(p1.length:Int))then((idx p1 j.2).bind λaj=>(idx p1 j.2).bind λak=>(fQ N j.1 aj.from_).bind λal=>(fQ N al ak.to).bind λan=>some<|.nx (an,wrap .i64<|j.2+1))else(some<|.br (j.1,j.2)):Option (Fl (List Int×Int) Empty))) N (aa.1,0)).bind λao=>ao.cs (λ(j:List Int×Int)=>(kp (λ(o:List aH×Int)=>(bif decide (o.2<(j.1.length:Int))then((idx j.1<|wrap .i64<|o.2 - 1).bind λaq=>(idx j.1<|wrap .i64<|o.2 - 1).bind λar=>(iM N p0 aq).bind λab=>(iM N p1 ar).bind λad=>(bif(((p2==1)&&(ab||ad))||(((p2==2)&&ab)&&ad))||(((p2==3)&&ab)&&(!ad))then((idx j.1<|wrap .i64<|o.2 - 1).bind λau=>(idx j.1 o.2).bind λav=>(iJ N o.1 (⟨au,av⟩:aH)).bind λaw=>some aw)else some o.1).bind λax=>some<|.nx (ax,wrap .i64<|o.2+1))else(some<|.br (o.1,o.2)):Option (Fl (List aH×Int) Empty))) N (([]:List aH),1)).bind λay=>ay.cs (λ(o:List aH×Int)=>some o.1)<|λr=>r.elim)<|λr=>r.elim)<|λr=>r.elim
def gS(N:Nat)(p0:List aI)(p1:List aI)(p2:Int):Option (List aI):=
 (app 32 ([]:List aI) p0).bind λaa=>(app 32 aa p1).bind λab=>(ij N ab).bind λo=>(kp (λ(j:List aM×Int)=>(bif decide (j.2<(o.length:Int))then((idx o<|wrap .i64<|j.2 - 1).bind λad=>(idx o j.2).bind λae=>(idx o<|wrap .i64<|j.2 - 1).bind λaf=>(idx o<|wrap .i64<|j.2 - 1).bind λag=>(ja N p0 af).bind λah=>(ja N p1 ag).bind λai=>(j6 N ah ai p2).bind λaj=>(gm N j.1 (⟨ad,ae,aj⟩:aM)).bind λak=>some<|.nx (ak,wrap .i64<|j.2+1))else(some<|.br (j.1,j.2)):Option (Fl (List aM×Int) Empty))) N (([]:List aM),1)).bind λal=>al.cs (λ(j:List aM×Int)=>(jw N j.1).bind λan=>some an)<|λr=>r.elim
def kS(N:Nat)(p0:List aI)(p1:List aI):Option (List aI):=
 (gS N p0 p1 3).bind λj=>some j
def iN(N:Nat)(p0:fE)(p1:Int):Option (List aI):=
 (kp (λ(j:List aI×Int)=>(bif decide (j.2<(p0.aV.length:Int))then((idx p0.aV j.2).bind λo=>(kR N o p1).bind λaa=>(bif aa then((idx p0.aV j.2).bind λab=>(dI N ab).bind λad=>(app 32 j.1 ([ad]:List aI)).bind λae=>some ae)else some j.1).bind λaf=>some<|.nx (af,wrap .i64<|j.2+1))else(some<|.br (j.1,j.2)):Option (Fl (List aI×Int) Empty))) N (([]:List aI),0)).bind λag=>ag.cs (λ(j:List aI×Int)=>(idx p0.aL p1).bind λah=>(fL N j.1).bind λai=>(kS N ah ai).bind λaj=>some aj)<|λr=>r.elim
def jg(N:Nat)(p0 p1:aI):Option Bool:=
 some ((decide (wrap .i64 ((if p1.X1<p0.X1 then p1.X1 else p0.X1) -(if p0.X0<p1.X0 then p1.X0 else p0.X0))>0)&&decide (wrap .i64 ((if p1.Y1<p0.Y1 then p1.Y1 else p0.Y1) -(if p0.Y0<p1.Y0 then p1.Y0 else p0.Y0))>=0))||(decide (wrap .i64 ((if p1.X1<p0.X1 then p1.X1 else p0.X1) -(if p0.X0<p1.X0 then p1.X0 else p0.X0))>=0)&&decide (wrap .i64 ((if p1.Y1<p0.Y1 then p1.Y1 else p0.Y1) -(if p0.Y0<p1.Y0 then p1.Y0 else p0.Y0))>0)))
def jJ(N:Nat)(p0:List (List aI))(p1:List aI):Option (List<|List aI):=
 (kp (λ(j:Int)=>((bif decide (j>0)then((idx p1 0).bind λo=>(idx p0<|wrap .i64<|j - 1).bind λaa=>(idx aa 0).bind λab=>(iI N o ab).bind λad=>some ad)else some false).bind λae=>bif ae then some (.nx<|wrap .i64<|j - 1)else(some<|.br j):Option (Fl Int Empty))) N (p0.length:Int)).bind λaf=>af.cs (λ(j:Int)=>(vF p0 0 j).bind λag=>(app 24 ([]:List (List aI)) ag).bind λah=>(app 24 ah ([p1]:List (List aI))).bind λai=>(vF p0 j (p0.length:Int)).bind λaj=>(app 24 ai aj).bind λak=>some ak)<|λr=>r.elim
def gU(N:Nat)(p0:List aI):Option (List<|List aI):=
 (mk 1 (false:Bool) (p0.length:Int)).bind λad=>(kp (λ(o:List Bool×List (List aI)×Int)=>(bif decide (o.2.2<(p0.length:Int))then((idx o.1 o.2.2).bind λae=>bif ae then some (.nx (o.1,o.2.1,wrap .i64<|o.2.2+1))else((idx o.1 o.2.2).bind λaw=>(idx p0 o.2.2).bind λaf=>(kp (λ(aa:List Bool×List aI×Int)=>(bif decide (aa.2.2<(aa.2.1.length:Int))then((kp (λ(j:List Bool×List aI×Int)=>(bif decide (j.2.2<(p0.length:Int))then(((idx j.1 j.2.2).bind λag=>bif(!ag)then((idx j.2.1 aa.2.2).bind λah=>(idx p0 j.2.2).bind λai=>(jg N ah ai).bind λaj=>some aj)else some false).bind λak=>(bif ak then((idx j.1 j.2.2).bind λax=>(idx p0 j.2.2).bind λal=>(app 32 j.2.1 ([al]:List aI)).bind λan=>some (j.1.set (Int.toNat j.2.2) true,an))else some (j.1,j.2.1)).bind λab=>some<|.nx (ab.1,ab.2,wrap .i64<|j.2.2+1))else(some<|.br (j.1,j.2.1,j.2.2)):Option (Fl (List Bool×List aI×Int) Empty))) N (aa.1,aa.2.1,0)).bind λao=>ao.cs (λ(j:List Bool×List aI×Int)=>some<|.nx (j.1,j.2.1,wrap .i64<|aa.2.2+1))<|λr=>r.elim)else(some<|.br (aa.1,aa.2.1,aa.2.2)):Option (Fl (List Bool×List aI×Int) Empty))) N (o.1.set (Int.toNat o.2.2) true,([af]:List aI),0)).bind λaq=>aq.cs (λ(aa:List Bool×List aI×Int)=>(fL N aa.2.1).bind λar=>(jJ N o.2.1 ar).bind λau=>some<|.nx (aa.1,au,wrap .i64<|o.2.2+1))<|λr=>r.elim))else(some<|.br (o.1,o.2.1,o.2.2)):Option (Fl (List Bool×List (List aI)×Int) Empty))) N (ad,([]:List (List aI)),0)).bind λav=>av.cs (λ(o:List Bool×List (List aI)×Int)=>some o.2.1)<|λr=>r.elim
def dW(N:Nat)(p0:fE):Option Int:=
 (ir N p0).bind λab=>bif ab != 0 then some ab else((kp (λ(o:Int)=>(bif decide (o<(p0.aV.length:Int))then((kp (λ(aa:Int)=>(bif decide (aa<o)then(((idx p0.aV o).bind λae=>(idx p0.aV aa).bind λaf=>(iL N ae af).bind λag=>bif ag then((idx p0.aV o).bind λah=>(idx p0.aV aa).bind λai=>(dI N ah).bind λaj=>(dI N ai).bind λak=>(gr N aj ak).bind λal=>some al)else some false).bind λan=>bif an then some (.rt 12)else some (.nx<|wrap .i64<|aa+1))else(some<|.br aa):Option (Fl Int Int))) N 0).bind λao=>ao.cs (λ(aa:Int)=>some<|.nx<|wrap .i64<|o+1)<|λr=>some<|.rt r)else(some<|.br o):Option (Fl Int Int))) N 0).bind λaq=>aq.cs (λ(o:Int)=>(kp (λ(j:Int×Int)=>(bif decide (j.2<(p0.aL.length:Int))then((iN N p0 j.2).bind λad=>bif decide ((ad.length:Int)>2000)then some (.rt 2)else((gU N ad).bind λar=>some<|.nx (wrap .i64<|j.1+(ar.length:Int),wrap .i64<|j.2+1)))else(some<|.br (j.1,j.2)):Option (Fl (Int×Int) Int))) N (0,0)).bind λau=>au.cs (λ(j:Int×Int)=>bif decide (j.1>2000)then some 2 else some 0)<|λr=>some r)<|λr=>some r)
def dU(N:Nat)(p0:fE)(p1:eE):Option Int:=
 (kp (λ(j:Int)=>(bif decide (j<(p0.bN.length:Int))then(((idx p0.bN j).bind λo=>bif o.Part.oj p1.Part then((idx p0.bN j).bind λaa=>some<|aa.eE.oj p1.eE)else some false).bind λab=>bif ab then some (.rt j)else some (.nx<|wrap .i64<|j+1))else(some<|.br j):Option (Fl Int Int))) N 0).bind λad=>ad.cs (λ(j:Int)=>some<|-1)<|λr=>some r
def g8(N:Nat)(p0 p1:eE):Option Bool:=
 some (p0.Part.m6 p1.Part||(p0.Part.oj p1.Part&&p0.eE.m6 p1.eE))
def iO(N:Nat)(p0 p1:Test):Option Bool:=
 ((g8 N p0.A p1.A).bind λj=>bif j then some true else(bif decide (p0.A=p1.A)then((g8 N p0.B p1.B).bind λo=>some o)else some false)).bind λaa=>some aa
def cV(N:Nat)(p0:fE)(p1:List Test):Option Int:=
 (dW N p0).bind λo=>bif o != 0 then some o else(bif decide ((p1.length:Int)>2000)then some 2 else((kp (λ(j:Int)=>(bif decide (j<(p1.length:Int))then(((idx p1 j).bind λaa=>(dU N p0 aa.A).bind λab=>bif decide (ab<0)then some true else((idx p1 j).bind λad=>(dU N p0 ad.B).bind λae=>some<|decide<|ae<0)).bind λaf=>bif af then some (.rt 9)else(((idx p1 j).bind λag=>(idx p1 j).bind λah=>(g8 N ag.A ah.B).bind λai=>bif(!ai)then some true else(bif decide (j>0)then((idx p1<|wrap .i64<|j - 1).bind λaj=>(idx p1 j).bind λak=>(iO N aj ak).bind λal=>some<|!al)else some false)).bind λan=>bif an then some (.rt 8)else some (.nx<|wrap .i64<|j+1)))else(some<|.br j):Option (Fl Int Int))) N 0).bind λao=>ao.cs (λ(j:Int)=>some 0)<|λr=>some r))
def ik(N:Nat)(p0 p1 p2:Int):Option Bool:=
 some (decide (p0>=p1)&&decide (p0<=p2))
def jh(N:Nat)(p0:fE)(p1:List Test)(p2 p3:Int):Option (aW×Int):=
 (cV N p0 p1).bind λj=>bif j != 0 then some ((⟨⟨[],[],[],[]⟩,[],0,0⟩:aW),j)else(((ik N p2 1 1000000).bind λo=>bif(!o)then some true else((ik N p3 0 1000).bind λaa=>some<|!aa)).bind λab=>bif ab then some ((⟨⟨[],[],[],[]⟩,[],0,0⟩:aW),1)else some ((⟨p0,p1,p2,p3⟩:aW),0))
def cS(N:Nat)(p0:aW)(p1:Int)(p2:Bool):Option (bL×bL):=
 (idx p0.tU p1).bind λaa=>(dU N p0.Bv aa.A).bind λab=>(idx p0.Bv.bN ab).bind λj=>(idx p0.tU p1).bind λad=>(dU N p0.Bv ad.B).bind λae=>(idx p0.Bv.bN ae).bind λo=>bif p2 then some (o.At,j.At)else some (j.At,o.At)
def cL(N:Nat)(p0:aW)(p1 p2:bL)(p3:Int)(p4:Bool):Option Int:=
 (cS N p0 p3 p4).bind λj=>(LR p0.speed).bind λo=>some<|wrap .i64<|wrap .i64 (Int.tdiv (wrap .i64<|wrap .i64 (Ak (wrap .i64<|j.1.X - p1.X) [wrap .i64<|p1.X - j.1.X,wrap .i64<|j.1.Y - p1.Y,wrap .i64<|p1.Y - j.1.Y,wrap .i64<|j.2.X - p2.X,wrap .i64<|p2.X - j.2.X,wrap .i64<|j.2.Y - p2.Y,wrap .i64<|p2.Y - j.2.Y]+p0.speed) - 1) p0.speed)+p0.A1
def gI(N:Nat)(p0:fE)(p1:List Test)(p2 p3:Int):Option (List Touch×Int):=
 (jh N p0 p1 p2 p3).bind λab=>bif ab.2 != 0 then some (([]:List Touch),ab.2)else((mk 16 (⟨0,0⟩:cB)<|wrap .i64<|(p1.length:Int)+1).bind λaq=>(kp (λ(o:List cB×Int)=>(bif decide (o.2>=0)then((kp (λ(aa:List cB×Int)=>(bif decide (aa.2<2)then((cS N ab.1 o.2<|aa.2==1).bind λad=>(cL N ab.1 ad.1 ad.2 (wrap .i64<|o.2+1) false).bind λai=>(idx aa.1<|wrap .i64<|o.2+1).bind λaj=>(cL N ab.1 ad.1 ad.2 (wrap .i64<|o.2+1) true).bind λak=>(idx aa.1<|wrap .i64<|o.2+1).bind λal=>(idx aa.1 o.2).bind λar=>(Kn 2 aa.2).bind λau=>some<|.nx (aa.1.set (Int.toNat o.2)<|ar.st au (if wrap .i64 (ak+al.e1)<(wrap .i64<|ai+aj.e0)then wrap .i64 (ak+al.e1)else wrap .i64 (ai+aj.e0)),wrap .i64<|aa.2+1))else(some<|.br (aa.1,aa.2)):Option (Fl (List cB×Int) Empty))) N (o.1,0)).bind λav=>av.cs (λ(aa:List cB×Int)=>some<|.nx (aa.1,wrap .i64<|o.2 - 1))<|λr=>r.elim)else(some<|.br (o.1,o.2)):Option (Fl (List cB×Int) Empty))) N (aq,wrap .i64<|(p1.length:Int) - 2)).bind λaw=>aw.cs (λ(o:List cB×Int)=>(kp (λ(j:List Touch×bL×bL×Int×Int)=>(bif decide (j.2.2.2.2<(p1.length:Int))then((cL N ab.1 j.2.1 j.2.2.1 j.2.2.2.2 false).bind λae=>(cL N ab.1 j.2.1 j.2.2.1 j.2.2.2.2 true).bind λaf=>(idx o.1 j.2.2.2.2).bind λag=>(idx o.1 j.2.2.2.2).bind λah=>(bif decide (wrap .i64 (af+ag.e1)< wrap .i64 (ae+ah.e0))then some af else some ae).bind λan=>(app 24 j.1 ([(⟨j.2.2.2.2,decide<|wrap .i64 (af+ag.e1)< wrap .i64 (ae+ah.e0),wrap .i64<|j.2.2.2.1+an⟩:Touch)]:List Touch)).bind λax=>(cS N ab.1 j.2.2.2.2<|decide<|wrap .i64 (af+ag.e1)< wrap .i64 (ae+ah.e0)).bind λao=>some<|.nx (ax,ao.1,ao.2,wrap .i64<|j.2.2.2.1+an,wrap .i64<|j.2.2.2.2+1))else(some<|.br (j.1,j.2.1,j.2.2.1,j.2.2.2.1,j.2.2.2.2)):Option (Fl (List Touch×bL×bL×Int×Int) Empty))) N (([]:List Touch),(⟨0,0⟩:bL),(⟨0,0⟩:bL),0,0)).bind λay=>ay.cs (λ(j:List Touch×bL×bL×Int×Int)=>some (j.1,0))<|λr=>r.elim)<|λr=>r.elim)
def lA(N:Nat)(p0:fE)(p1:List Test)(p2 p3:Int):Option (List Touch×Int):=
 (kr N p0 p1 p2 p3).bind λag=>bif ag != 0 then some (([]:List Touch),ag)else((mk 64 (⟨⟨⟨0,0⟩,⟨0,0⟩⟩,⟨⟨0,0⟩,⟨0,0⟩⟩⟩:bW) (p1.length:Int)).bind λaj=>(mB p1.length (λ(ad:Nat)(ab:List bW)=>((idx p1 (ad:Int)).bind λah=>(i9 N p0 ah false).bind λak=>(i9 N p0 ah true).bind λal=>(idx ab (ad:Int)).bind λay=>some (ab.set (Int.toNat (ad:Int)) (⟨ak,al⟩:bW)):Option (List bW))) aj).bind λab=>(mk 1 (false:Bool) (p1.length:Int)).bind λan=>(mB p1.length (λ(az:Nat)(aa:List Bool×List Touch×bT×Int)=>((mB p1.length (λ(ae:Nat)(o:Int×Int×Int)=>((kp (λ(j:Int×Int×Int×Int)=>(bif decide (j.2.2.2<2)then((idx aa.1 (ae:Int)).bind λao=>bif ao then some (.nx (j.1,j.2.1,j.2.2.1,wrap .i64<|j.2.2.2+1))else((idx ab (ae:Int)).bind λaq=>(Kn 2 j.2.2.2).bind λar=>(kI N aa.2.2.1 (aq.gt ar) p2).bind λai=>(bif decide (j.1<0)||decide (ai<j.2.2.1)then some ((ae:Int),j.2.2.2,ai)else some (j.1,j.2.1,j.2.2.1)).bind λaf=>some<|.nx (af.1,af.2.1,af.2.2,wrap .i64<|j.2.2.2+1)))else(some<|.br (j.1,j.2.1,j.2.2.1,j.2.2.2)):Option (Fl (Int×Int×Int×Int) Empty))) N (o.1,o.2.1,o.2.2,0)).bind λau=>au.cs (λ(j:Int×Int×Int×Int)=>some (j.1,j.2.1,j.2.2.1)) (λr=>r.elim):Option (Int×Int×Int))) ((-1),0,0)).bind λo=>(idx aa.1 o.1).bind λa0=>(idx ab o.1).bind λav=>(Kn 2 o.2.1).bind λaw=>(app 24 aa.2.1 ([(⟨o.1,o.2.1==1,wrap .i64<|aa.2.2.2+ wrap .i64 (o.2.2+p3)⟩:Touch)]:List Touch)).bind λax=>some (aa.1.set (Int.toNat o.1) true,ax,av.gt aw,wrap .i64<|aa.2.2.2+ wrap .i64 (o.2.2+p3)):Option (List Bool×List Touch×bT×Int))) (an,([]:List Touch),(⟨(⟨0,0⟩:bL),(⟨0,0⟩:bL)⟩:bT),0)).bind λaa=>some (aa.2.1,0))
def fX(N:Nat)(p0:fE)(p1:List Test)(p2 p3:Int):Option (List Touch×Int):=
 (jh N p0 p1 p2 p3).bind λaa=>bif aa.2 != 0 then some (([]:List Touch),aa.2)else((mk 1 (false:Bool) (p1.length:Int)).bind λag=>(mB p1.length (λ(al:Nat)(o:List Bool×List Touch×bL×bL×Int)=>((kp (λ(j:Int×Bool×Int×Int)=>(bif decide (j.2.2.2<(p1.length:Int))then((idx o.1 j.2.2.2).bind λah=>bif ah then some (.nx (j.1,j.2.1,j.2.2.1,wrap .i64<|j.2.2.2+1))else((cL N aa.1 o.2.2.1 o.2.2.2.1 j.2.2.2 false).bind λab=>(cL N aa.1 o.2.2.1 o.2.2.2.1 j.2.2.2 true).bind λad=>(bif decide (j.1<0)then some true else some (decide<|(if ad<ab then ad else ab)<j.2.2.1)).bind λai=>(bif ai then some (j.2.2.2,decide<|ad<ab,(if ad<ab then ad else ab))else some (j.1,j.2.1,j.2.2.1)).bind λae=>some<|.nx (ae.1,ae.2.1,ae.2.2,wrap .i64<|j.2.2.2+1)))else(some<|.br (j.1,j.2.1,j.2.2.1,j.2.2.2)):Option (Fl (Int×Bool×Int×Int) Empty))) N ((-1),false,0,0)).bind λaj=>aj.cs (λ(j:Int×Bool×Int×Int)=>(idx o.1 j.1).bind λan=>(app 24 o.2.1 ([(⟨j.1,j.2.1,wrap .i64<|o.2.2.2.2+j.2.2.1⟩:Touch)]:List Touch)).bind λak=>(cS N aa.1 j.1 j.2.1).bind λaf=>some (o.1.set (Int.toNat j.1) true,ak,af.1,af.2,wrap .i64<|o.2.2.2.2+j.2.2.1)) (λr=>r.elim):Option (List Bool×List Touch×bL×bL×Int))) (ag,([]:List Touch),(⟨0,0⟩:bL),(⟨0,0⟩:bL),0)).bind λo=>some (o.2.1,0))
def jy(N:Nat)(p0:List Touch)(p1:List Touch):Option Bool:=
 bif(p0.length:Int) != (p1.length:Int)then some false else((uO p0.length (λ(j:Nat)(o:Unit)=>((idx p0 (j:Int)).bind λaa=>(idx p1 (j:Int)).bind λab=>bif(!(decide<|aa=ab))then some (.rt false)else(some<|.nx ()):Option (Fl Unit Bool))) ()).bind λad=>ad.cs (λ(o:Unit)=>some true)<|λr=>some r)
def j7(N:Nat)(p0:Int)(p1h_5:List aO):Option Bool:=
 (ln N p0 0<|wrap .i64<|(p1h_5.length:Int) - 1).bind λj=>some j
def pC(N:Nat)(p0:List m7)(p1:m7):Option Int:=
 (uO p0.length (λ(j:Nat)(o:Unit)=>((idx p0 (j:Int)).bind λaa=>bif decide (p1=aa)then some (.rt (j:Int))else(some<|.nx ()):Option (Fl Unit Int))) ()).bind λab=>ab.cs (λ(o:Unit)=>some<|-1)<|λr=>some r
def nr(N:Nat)(p0:List m7)(p1:m7):Option Bool:=
 (pC N p0 p1).bind λj=>some<|decide<|j>=0
def nS(N:Nat)(p0_0:List (List aI))(p0_1:List aI)(p0_2:List cP)(p0_3:List dV)(p0_4:List (List aA))(p0_5:List aO)(p0_6:List (List Int))(p0_7:List dL)(p0_8:List Int)(p0_9:List Int)(p0_10:List Int)(p0_11:List gM)(p1:List m7):Option Int:=
 bif decide ((p1.length:Int)>20)then some 2 else((uO p1.length (λ(o:Nat)(aa:Unit)=>((idx p1 (o:Int)).bind λj=>(bif j.Open&&((j.A != 0)||(j.B != 0))then some true else(bif(!j.Open)then some (!(decide<|j.gM=(⟨false,0⟩:gM)))else some false)).bind λab=>bif ab then some (.rt 3)else(((j7 N j.A p0_5).bind λad=>bif ad then((j7 N j.B p0_5).bind λae=>some ae)else some false).bind λaf=>(bif j.Open then((j7 N j.gM.Number p0_5).bind λag=>some ag)else some af).bind λah=>(bif j.Open&&j.gM.cP then(((ln N j.gM.Number 0<|wrap .i64<|(p0_2.length:Int) - 1).bind λai=>bif ai then((idx p0_2 j.gM.Number).bind λaj=>some aj.jX)else some false).bind λak=>some ak)else some ah).bind λal=>bif(!al)then some (.rt 9)else(bif(!j.Open)&&decide (j.B<=j.A)then some (.rt 8)else((vF p1 0 (o:Int)).bind λan=>(nr N an j).bind λao=>bif ao then some (.rt 7)else some (.nx ())))):Option (Fl Unit Int))) ()).bind λaq=>aq.cs (λ(aa:Unit)=>some 0)<|λr=>some r)
def ku(N:Nat)(p0:gM)(p1:Int):Option Int:=
 bif p0.cP then some (wrap .i64<|p1+p0.Number)else some p0.Number
def lO(N:Nat)(p0 p1:Int)(p2_0:List (Int×Bool))(p3h_0:List Int):Option (List Int):=
 (bif(!(fS p2_0 p0 (false:Bool)))then some (!(fS p2_0 p1 (false:Bool)))else some false).bind λj=>(bif j then((eP N p3h_0 p0 p1).bind λo=>some o)else some p3h_0).bind λaa=>some aa
def mH(N:Nat)(p0_2:List cP)(p0_3:List dV)(p0_5:List aO)(p0_6:List (List Int))(p0_10:List Int)(p0_11:List gM)(p1:List m7):Option (List Int):=
 (mB p1.length (λ(aq:Nat)(aa:List (Int×Bool))=>((idx p1 (aq:Int)).bind λaj=>(bif aj.Open then((ku N aj.gM (p0_5.length:Int)).bind λar=>some<|qE aa ar true)else some aa).bind λau=>some au:Option (List<|Int×Bool))) ([]:List (Int×Bool))).bind λaa=>(kq N<|wrap .i64<|(p0_5.length:Int)+(p0_2.length:Int)).bind λav=>(mB p0_6.length (λ(ak:Nat)(ae:List Int)=>((idx p0_6 (ak:Int)).bind λal=>(mB al.length (λ(aw:Nat)(af:List Int)=>((idx al (aw:Int)).bind λax=>(lO N ax (wrap .i64<|(p0_5.length:Int)+(ak:Int)) aa af).bind λay=>some ay:Option (List Int))) ae).bind λaf=>some af:Option (List Int))) av).bind λae=>(mB p1.length (λ(az:Nat)(ab:List Int)=>((idx p1 (az:Int)).bind λag=>(bif(!ag.Open)then((lO N ag.A ag.B aa ab).bind λa0=>some a0)else some ab).bind λa1=>some a1:Option (List Int))) ae).bind λab=>(mk 8 (0:Int) (p0_3.length:Int)).bind λa2=>(mB p0_11.length (λ(o:Nat)(j:List Int×List (Int×Int)×List Int)=>((idx p0_11 (o:Int)).bind λa3=>(ku N a3 (p0_5.length:Int)).bind λad=>((idx p0_10 (o:Int)).bind λa4=>bif decide (a4<0)then some true else some (fS aa ad (false:Bool))).bind λa5=>bif a5 then((idx j.2.2 (o:Int)).bind λa6=>some (j.1,j.2.1,j.2.2.set (Int.toNat (o:Int))<|-1))else((fz N j.1 ad).bind λah=>(bif(!(lY j.2.1 ah.1))then((fz N ah.2 ad).bind λan=>some (an.2,qE j.2.1 an.1 (o:Int)))else some (ah.2,j.2.1)).bind λai=>(fz N ai.1 ad).bind λao=>(idx j.2.2 (o:Int)).bind λa7=>some (ao.2,ai.2,j.2.2.set (Int.toNat (o:Int))<|fS ai.2 ao.1 (0:Int))):Option (List Int×List (Int×Int)×List Int))) (ab,([]:List (Int×Int)),a2)).bind λj=>some j.2.2
def j3(N:Nat)(p0:fE)(p1:List m7)(p2 p3:eE):Option (Bool×Int):=
 (iH N p0).bind λo=>Kq o.1 (bif o.2 != 0 then some (false,o.2)else none) (λ(j:(List (List aI)×List aI×List cP×List dV×List (List aA)×List aO×List (List Int)×List dL×List Int×List Int×List Int×List gM))=>bif o.2 != 0 then some (false,o.2)else((nS N j.1 j.2.1 j.2.2.1 j.2.2.2.1 j.2.2.2.2.1 j.2.2.2.2.2.1 j.2.2.2.2.2.2.1 j.2.2.2.2.2.2.2.1 j.2.2.2.2.2.2.2.2.1 j.2.2.2.2.2.2.2.2.2.1 j.2.2.2.2.2.2.2.2.2.2.1 j.2.2.2.2.2.2.2.2.2.2.2 p1).bind λad=>bif ad != 0 then some (false,ad)else((fB N p0 p2).bind λaa=>(fB N p0 p3).bind λae=>bif decide (aa<0)||decide (ae<0)then some (false,9)else((mH N j.2.2.1 j.2.2.2.1 j.2.2.2.2.2.1 j.2.2.2.2.2.2.1 j.2.2.2.2.2.2.2.2.2.2.1 j.2.2.2.2.2.2.2.2.2.2.2 p1).bind λab=>((idx ab aa).bind λaf=>bif decide (af>=0)then((idx ab aa).bind λag=>(idx ab ae).bind λah=>some<|ag==ah)else some false).bind λai=>some (ai,0)))))
def jK(N:Nat):Option Bool:=
 (j3 N (⟨([([(⟨0,0,1,1⟩:aI)]:List aI)]:List (List aI)),([]:List aI),([]:List cP),([(⟨⟨[97]⟩,⟨[49]⟩,0,⟨0,0⟩⟩:dV)]:List dV)⟩:fE) ([]:List m7) (⟨⟨[97]⟩,⟨[49]⟩⟩:eE) (⟨⟨[97]⟩,⟨[49]⟩⟩:eE)).bind λj=>some<|(j.2==0)&&j.1
def dT(N:Nat)(p0:fE)(p1:List Test)(p2 p3:Int):Option Bool:=
 (nn N p0 p1 p2 p3).bind λj=>(gI N p0 p1 p2 p3).bind λo=>(lA N p0 p1 p2 p3).bind λaa=>(fX N p0 p1 p2 p3).bind λab=>((jy N j.1 o.1).bind λad=>bif ad&&(j.2==o.2)then((jy N aa.1 ab.1).bind λae=>bif ae&&(aa.2==ab.2)then((jK N).bind λaf=>some af)else some false)else some false).bind λag=>some ag
end
def qK{R:Type}(m:Nat)(e:Nat->Option R):Option R:=(List.range m).findSome? e
theorem ky{R:Type}{m:Nat}{e:Nat->Option R}:qK m e=none↔∀k,k<m->e k=none:=by
 simp[qK]
theorem kz{R:Type}{m:Nat}{e:Nat->Option R}{r:R}:qK m e=some r↔∃k,k<m/\e k=some r/\∀j,j<k->e j=none:=by
 constructor
 ·intro h;obtain⟨l1,a,l2,hl,ha,hn⟩:=List.findSome?_eq_some_iff.1 h;have hlen:l1.length<m:=by have:=congrArg List.length hl;simp at this;omega
  have hget:∀i,i<l1.length->l1[i]? =some i:=λi hi=>by
   have:=congrArg (·[i]?) hl;simp only[gN hi,List.getElem?_range (show i<m by omega)]at this;exact this.symm
  have hat:a=l1.length:=by
   have:=congrArg (·[l1.length]?) hl;simp[List.getElem?_range hlen]at this;exact this.symm
  refine⟨a,by omega,ha,λj hj=>hn j ?_⟩;exact fK<|hget j (by omega)
 ·rintro⟨k,hk,he,hn⟩;refine List.findSome?_eq_some_iff.2 ⟨List.range k,k,(List.range<|m - k - 1).map (· +(k+1)),?_,he,λx hx=>hn x<|oH.1 hx⟩;refine List.ext_getElem? λi=>?_
  by_cases h1:i<k
  ·rw[gN (by simpa using h1),List.getElem?_range (by omega),List.getElem?_range h1]
  ·rw[hU (by simpa using h1),List.length_range]
   by_cases h2:i=k
   ·subst h2;simp[List.getElem?_range hk]
   ·obtain⟨d,rfl⟩:∃d,i=k+1+d:=⟨i -(k+1),by omega⟩;rw[show k+1+d - k=d+1 by omega,List.getElem?_cons_succ,iZ]
    by_cases h3:k+1+d<m
    ·rw[List.getElem?_range h3,List.getElem?_range (by omega)];simp;omega
    ·rw[List.getElem?_eq_none (by simp;omega),List.getElem?_eq_none (by simp;omega)];rfl
theorem KN{R R':Type}{m:Nat}{e:Nat->Option R}(f:R->R'):(qK m e).map f=qK m (λk=>(e k).map f):=by
 cases hx:qK m e with
 |none=>exact(ky.2 λk hk=>by rw[ky.1 hx k hk];rfl).symm
 |some r=>
  obtain⟨k,hk,he,hn⟩:=kz.1 hx;exact(kz.2 ⟨k,hk,by rw[he];rfl,λj hj=>by rw[hn j hj];rfl⟩).symm
section
variable {S R:Type}
def Ju(o:Option R)(s:S):Fl S R:=match o with|some r=> .rt r|none=> .nx s
def EO(o:Option R)(s:S):Fo S R:=match o with|some r=> .rt r|none=> .go s
theorem Gs{body:Nat->S->Option (Fl S R)}(F:Nat->S)(e:Nat->Option R)(m:Nat):∀(n k:Nat),k+n=m->
  (∀j,k<=j->j<m->(∀i,k<=i->i<j->e i=none)->body j (F j)=some (Ju (e j)<|F<|j+1))->
  ∃o,En body n k (F k)=some o/\((∀j,k<=j->j<m->e j=none)/\o = .go (F m)\/∃j r,k<=j/\j<m/\e j=some r/\(∀i,k<=i->i<j->e i=none)/\o = .rt r)
 | 0,k,hk,_=>⟨_,rfl, .inl ⟨λj h1 h2=>by omega,by rw[show k=m by omega]⟩⟩
 |n+1,k,hk,h=>by
  have hb:=h k (bV _) (by omega) (λi h1 h2=>by omega);unfold En;rw[hb]
  cases hx:e k with
  |some r=>exact⟨_,rfl, .inr ⟨k,r,bV _,by omega,hx,λi h1 h2=>by omega,rfl⟩⟩
  |none=>
   obtain⟨o,ho,hc⟩:=Gs F e m n (k+1) (by omega) (λj h1 h2 h3=>h j (by omega) h2 λi h4 h5=>by
    by_cases h6:i=k
    ·subst h6;exact hx
    ·exact h3 i (by omega) h5)
   refine⟨o,ho,?_⟩
   rcases hc with⟨h1,h2⟩|⟨j,r,h1,h2,h3,h4,h5⟩
   ·refine .inl ⟨λj h3 h4=>?_,h2⟩
    by_cases h6:j=k
    ·subst h6;exact hx
    ·exact h1 j (by omega) h4
   ·refine .inr ⟨j,r,by omega,h2,h3,λi h6 h7=>?_,h5⟩
    by_cases h8:i=k
    ·subst h8;exact hx
    ·exact h4 i (by omega) h7
theorem Md{body:Nat->S->Option (Fl S R)}{m:Nat}{s:S}(F:Nat->S)(e:Nat->Option R)(hm:m<=4611686018427387904)(hs:F 0=s)
  (h:∀k,k<m->(∀i,i<k->e i=none)->body k (F k)=some (Ju (e k)<|F<|k+1)):uO m body s=some (EO (qK m e)<|F m):=by
 subst hs;unfold uO;rw[aC hm];obtain⟨o,ho,hc⟩:=Gs F e m m 0 (by omega)<|λj _ h2 h3=>h j h2 λi hi=>h3 i (eH _) hi
 rw[ho]
 rcases hc with⟨h1,h2⟩|⟨j,r,_,h2,h3,h4,h5⟩
 ·rw[ky.2 λk hk=>h1 k (eH _) hk,h2];rfl
 ·rw[kz.2 ⟨j,h2,h3,λi hi=>h4 i (eH _) hi⟩,h5];rfl
theorem sw{body:Nat->Unit->Option (Fl Unit R)}{m:Nat}(e:Nat->Option R)(hm:m<=4611686018427387904)
  (h:∀k,k<m->(∀i,i<k->e i=none)->body k ()=some (Ju (e k) ())):uO m body ()=some (EO (qK m e) ()):=
 Md (λ_=>()) e hm rfl h
theorem zq{body:S->Option (Fl S R)}(Inv:S->Prop)(μ:S->Nat)(Go:S->Prop)(Rt:R->Prop)
  (h:∀s,Inv s->∃fl,body s=some fl/\match fl with| .nx s'=>Inv s'/\μ s'<μ s| .br s'=>Go s'| .rt r=>Rt r):
  ∀(N:Nat)(s:S),Inv s->μ s<N->∃o,kp body N s=some o/\match o with| .go s'=>Go s'| .rt r=>Rt r
 | 0,s,_,hn=>by omega
 |N+1,s,hi,hn=>by
  obtain⟨fl,hb,hf⟩:=h s hi;unfold kp;rw[hb]
  cases fl with
  |nx s'=>exact zq Inv μ Go Rt h N s' hf.1 (by have:=hf.2;omega)
  |br s'=>exact⟨_,rfl,hf⟩
  |rt r=>exact⟨_,rfl,hf⟩
theorem Gt{body:Nat->S->Option (Fl S R)}(Inv:Nat->S->Prop)(Go:S->Prop)(Rt:R->Prop)(m:Nat)
  (h:∀k s,k<m->Inv k s->∃fl,body k s=some fl/\match fl with| .nx s'=>Inv (k+1) s'| .br s'=>Go s'| .rt r=>Rt r) (hg:∀s,Inv m s->Go s):
  ∀(n k:Nat)(s:S),k+n=m->Inv k s->∃o,En body n k s=some o/\match o with| .go s'=>Go s'| .rt r=>Rt r
 | 0,k,s,hk,hi=>⟨_,rfl,hg s (by rw[<-hk];exact hi)⟩
 |n+1,k,s,hk,hi=>by
  obtain⟨fl,hb,hf⟩:=h k s (by omega) hi;unfold En;rw[hb]
  cases fl with
  |nx s'=>exact Gt Inv Go Rt m h hg n (k+1) s' (by omega) hf
  |br s'=>exact⟨_,rfl,hf⟩
  |rt r=>exact⟨_,rfl,hf⟩
theorem Me{body:Nat->S->Option (Fl S R)}{m:Nat}{s:S}(Inv:Nat->S->Prop)(Go:S->Prop)(Rt:R->Prop)(hm:m<=4611686018427387904)(h0:Inv 0 s)
  (h:∀k s,k<m->Inv k s->∃fl,body k s=some fl/\match fl with| .nx s'=>Inv (k+1) s'| .br s'=>Go s'| .rt r=>Rt r) (hg:∀s,Inv m s->Go s):
  ∃o,uO m body s=some o/\match o with| .go s'=>Go s'| .rt r=>Rt r:=by
 unfold uO;rw[aC hm];exact Gt Inv Go Rt m h hg m 0 s (by omega) h0
theorem Gu{body:Nat->S->Option S}(Inv:Nat->S->Prop)(m:Nat)(h:∀k s,k<m->Inv k s->∃s',body k s=some s'/\Inv (k+1) s'):
  ∀(n k:Nat)(s:S),k+n=m->Inv k s->∃s',Kb body n k s=some s'/\Inv m s'
 | 0,k,s,hk,hi=>⟨_,rfl,by rw[<-hk];exact hi⟩
 |n+1,k,s,hk,hi=>by
  obtain⟨s',hb,hf⟩:=h k s (by omega) hi;unfold Kb;rw[hb];exact Gu Inv m h n (k+1) s' (by omega) hf
theorem BU{body:Nat->S->Option S}{m:Nat}{s:S}(Inv:Nat->S->Prop)(hm:m<=4611686018427387904)(h0:Inv 0 s)
  (h:∀k s,k<m->Inv k s->∃s',body k s=some s'/\Inv (k+1) s'):∃s',mB m body s=some s'/\Inv m s':=by
 unfold mB;rw[aC hm];exact Gu Inv m h m 0 s (by omega) h0
end
section
variable {α β:Type}
theorem aB(x:α)(f:α->Option β):(some x).bind f=f x:=rfl
theorem lI(l:List α)(k:Nat)(h:k<l.length):idx l ((k:Nat):Int)=some l[k]:=by
 unfold idx;rw[aC (by omega),cN,aS h]
theorem eD{l:List α}{k:Nat}{x:α}(h:l[k]? =some x):idx l ((k:Nat):Int)=some x:=by
 unfold idx;rw[aC (by omega),cN,h]
theorem Gv(s:eJ)(k:Nat)(h:k<s.dD.length):Ho s ((k:Nat):Int)=some s.dD[k]:=by
 unfold Ho;rw[aC (by omega),cN,aS h]
theorem gC{k:Nat}(h:0<k)(hk:k<=4611686018427387904):wrap .i64 (((k:Nat):Int) - 1)=((k - 1:Nat):Int):=by
 rw[eY (by omega) (by omega)];omega
theorem t9(l:List α)(k:Nat)(h:k<=l.length):vF l 0 ((k:Nat):Int)=some (l.take k):=by
 unfold vF;rw[aC ⟨by omega,by omega,by omega⟩];simp only[Int.toNat_zero,List.drop_zero,Int.sub_zero,cN]
theorem sA(l:List α)(k:Nat)(h:k<=l.length):vF l ((k:Nat):Int) ((l.length:Nat):Int)=some (l.drop k):=by
 unfold vF;rw[aC ⟨by omega,by omega,by omega⟩];simp only[cN,Option.some.injEq];rw[mR];rw[gO];omega
theorem lq{b:Nat}{l ys:List α}(h:(l.length+ys.length)*b<=140737488355328):app b l ys=some (l++ys):=by unfold app;rw[aC h]
theorem oQ{b:Nat}(z:α){n:Nat}(h:n*b<=140737488355328):mk b z ((n:Nat):Int)=some (List.replicate n z):=by
 unfold mk;have e:((n:Nat):Int)*((b:Nat):Int)=((n*b:Nat):Int):=(Int.natCast_mul n b).symm;rw[e];generalize n*b=q at h ⊢;rw[aC ⟨by omega,by omega⟩,cN]
end
theorem eJ.ext'{a b:eJ}(h:a.dD=b.dD):a=b:=by cases a;cases b;simp at h;rw[h]
theorem zu{a b:eJ}:a.oj b=true↔a=b:=by
 unfold eJ.oj;rw[beq_iff_eq];exact⟨eJ.ext',λh=>by rw[h]⟩
theorem Ix(a b:eJ):a.oj b=decide (a=b):=by rw[eN,zu];simp
theorem A6:∀(a:List UInt8),Op.bytesLess a a=false
 | []=>rfl
 |a::l=>by
  unfold Op.bytesLess;rw[A6 l];simp
theorem Cp:∀{a b c:List UInt8},Op.bytesLess a b=true->Op.bytesLess b c=true->Op.bytesLess a c=true
 | [],[],_,h,_=>by simp[Op.bytesLess]at h
 | [],_::_,[],_,h=>by simp[Op.bytesLess]at h
 | [],_::_,_::_,_,_=>rfl
 |_::_,[],_,h,_=>by simp[Op.bytesLess]at h
 |_::_,_::_,[],_,h=>by simp[Op.bytesLess]at h
 |a::l,b::m,c::n,h1,h2=>by
  unfold Op.bytesLess at h1 h2 ⊢;simp only[dP,cD,bK,beq_iff_eq]at h1 h2 ⊢
  rcases h1 with h1|⟨rfl,h1⟩
  ·rcases h2 with h2|⟨rfl,h2⟩
   ·exact .inl<|UInt8.lt_trans h1 h2
   ·exact .inl h1
  ·rcases h2 with h2|⟨rfl,h2⟩
   ·exact .inl h2
   ·exact .inr ⟨rfl,Cp h1 h2⟩
theorem Cq:∀(a b:List UInt8),Op.bytesLess a b=true\/a=b\/Op.bytesLess b a=true
 | [],[]=> .inr (.inl rfl)
 | [],_::_=> .inl rfl
 |_::_,[]=> .inr (.inr rfl)
 |a::l,b::m=>by
  unfold Op.bytesLess;simp only[dP,cD,bK,beq_iff_eq]
  by_cases h1:a<b
  ·exact .inl<|.inl h1
  ·by_cases h2:b<a
   ·exact .inr<|.inr<|.inl h2
   ·have e:a=b:=by
     simp only[UInt8.lt_iff_toNat_lt]at h1 h2;exact UInt8.toNat_inj.1 (by omega)
    subst e
    rcases Cq l m with h|h|h
    ·exact .inl<|.inr ⟨rfl,h⟩
    ·exact .inr<|.inl (by rw[h])
    ·exact .inr<|.inr<|.inr ⟨rfl,h⟩
theorem yw:∀(a b:List UInt8),Lib.compareBytes a b<0↔Op.bytesLess a b=true
 | [],[]=>by simp[Lib.compareBytes,Op.bytesLess]
 | [],_::_=>by simp[Lib.compareBytes,Op.bytesLess]
 |_::_,[]=>by simp[Lib.compareBytes,Op.bytesLess]
 |a::l,b::m=>by
  unfold Lib.compareBytes Op.bytesLess;simp only[dP,cD,bK,beq_iff_eq];split
  ·simp_all
  ·rename_i h1;split
   ·rename_i h2;have h3:a≠b:=λe=>by subst e;exact h1 h2
    simp[h1,h3]
   ·rename_i h2;have e:a=b:=by
     simp only[UInt8.lt_iff_toNat_lt]at h1 h2;exact UInt8.toNat_inj.1 (by omega)
    subst e;rw[yw l m];simp[h1]
theorem yx:∀(a b:List UInt8),Lib.compareBytes a b=0↔a=b
 | [],[]=>by simp[Lib.compareBytes]
 | [],_::_=>by simp[Lib.compareBytes]
 |_::_,[]=>by simp[Lib.compareBytes]
 |a::l,b::m=>by
  unfold Lib.compareBytes;split
  ·rename_i h1;have h3:a≠b:=λe=>by subst e;exact absurd h1 (by simp)
   simp[h3]
  ·rename_i h1;split
   ·rename_i h2;have h3:a≠b:=λe=>by subst e;exact h1 h2
    simp[h3]
   ·rename_i h2;have e:a=b:=by
     simp only[UInt8.lt_iff_toNat_lt]at h1 h2;exact UInt8.toNat_inj.1 (by omega)
    subst e;rw[yx l m];simp
def eJ.lt(a b:eJ):Prop:=a.m6 b=true
theorem eJ.lt_irrefl(a:eJ):¬eJ.lt a a:=by unfold eJ.lt eJ.m6;rw[A6];decide
theorem eJ.lt_trans{a b c:eJ}(h1:eJ.lt a b)(h2:eJ.lt b c):eJ.lt a c:=Cp h1 h2
theorem eJ.Gw(a b:eJ):eJ.lt a b\/a=b\/eJ.lt b a:=by
 rcases Cq a.dD b.dD with h|h|h
 ·exact .inl h
 ·exact .inr<|.inl<|eJ.ext' h
 ·exact .inr<|.inr h
theorem eJ.Nt{a b:eJ}(h:eJ.lt a b):a≠b:=λe=>by subst e;exact eJ.lt_irrefl a h
end Go.Gk
namespace Go.Gk
open Go IntKind
class Bk (α:Type)where
 bk:α->Nat
 pos:∀x,1<=bk x
def bk{α:Type}[Bk α](x:α):Nat:=Bk.bk x
theorem KO{α:Type}[Bk α](x:α):1<=bk x:=Bk.pos x
instance:Bk eJ:=⟨λs=>s.dD.length+1,λ_=>by omega⟩
instance:Bk Int:=⟨λ_=>1,λ_=>by omega⟩
instance:Bk Bool:=⟨λ_=>1,λ_=>by omega⟩
instance {α:Type} [Bk α]:Bk (List α):=⟨λl=>(l.map bk).sum+1,λ_=>by omega⟩
theorem KP{α:Type}[Bk α]:bk ([]:List α)=1:=rfl
theorem EP{α:Type}[Bk α](x:α)(l:List α):bk (x::l)=bk x+bk l:=by
 show(List.map bk<|x::l).sum+1=bk x+((List.map bk l).sum+1);simp;omega
theorem Hz{α:Type}[Bk α]:∀{l:List α}{x:α},x∈l->bk x+1<=bk l
 |y::l,x,h=>by
  rw[EP]
  rcases dO.1 h with h|h
  ·subst h;have:=KO l;omega
  ·have:=Hz h;omega
theorem yy{α:Type}[Bk α]:∀(l:List α),l.length+1<=bk l
 | []=>by rw[KP];simp
 |x::l=>by rw[EP,eM];have:=yy l;have:=KO x;omega
theorem KQ(s:eJ):bk s=s.dD.length+1:=rfl
section
variable {α R:Type}
theorem Jv{l:List α}{e:Nat->Option R}(f:α->Option R)(h:∀k x,l[k]? =some x->e k=f x):qK l.length e=l.findSome? f:=by
 cases hx:qK l.length e with
 |none=>
  refine(List.findSome?_eq_none_iff.2 λx hm=>?_).symm;obtain⟨k,hk⟩:=eX hm;rw[<-h k x hk];exact ky.1 hx k (bE.1 hk).1
 |some r=>
  obtain⟨k,hk,he,hn⟩:=kz.1 hx;refine(List.findSome?_eq_some_iff.2 ⟨l.take k,l[k],l.drop<|k+1,?_,?_,λy hy=>?_⟩).symm
  ·rw[<-tj hk,List.take_append_drop]
  ·rw[<-h k l[k] (aS hk)];exact he
  ·obtain⟨j,hj⟩:=eX hy;have hjk:j<k:=by have:=(bE.1 hj).1;rw[cW]at this;omega
   rw[List.getElem?_take_of_lt hjk]at hj;rw[<-h j y hj];exact hn j hjk
theorem ER(l:List α)(p:α->Bool)(r:R):l.findSome? (λx=>if p x=true then some r else none)=if l.any p=true then some r else none:=by
 induction l with
 |nil=>simp
 |cons x l ih=>
  rw[List.findSome?_cons,List.any_cons]
  cases h:p x <;> simp[ih]
theorem zv{l:List α}{body:Nat->Unit->Option (Fl Unit R)}(f:α->Option R)(hl:l.length<=4611686018427387904)
  (h:∀k x,l[k]? =some x->body k ()=some (Ju (f x) ())):uO l.length body ()=some (EO (l.findSome? f) ()):=by
 have h2:=sw (body:=body) (m:=l.length) (λk=>(l[k]?).bind f) hl (λk hk _=>by
  rw[h k l[k] (aS hk),aS hk];rfl)
 rw[h2,Jv f (λk x hx=>by rw[hx];rfl)]
theorem Mf{l:List α}{body:Nat->Unit->Option (Fl Unit R)}(p:α->Bool)(r:R)(hl:l.length<=4611686018427387904)
  (h:∀k x,l[k]? =some x->body k ()=some (if p x=true then .rt r else .nx ())):uO l.length body ()=some (if l.any p=true then .rt r else .go ()):=by
 rw[zv (λx=>if p x=true then some r else none) hl (λk x hx=>by rw[h k x hx];cases p x <;> rfl),ER]
 cases l.any p <;> rfl
end
theorem Mg{β:Type}(b:Bool)(x y:β):(bif b then some x else some y)=some (bif b then x else y):=by cases b <;> rfl
section
variable {α β:Type}
def Jw(l:List α)(p:α->Bool):Int:=match l.findIdx? p with|some k=>((k:Nat):Int)|none=> -1
theorem Gx{l:List α}{p:α->Bool}(h:l.any p=false):Jw l p = -1:=by
 unfold Jw;rw[List.findIdx?_eq_none_iff.2];intro x hx;rw[<-lF];intro hp;rw[<-lF]at h;exact h<|kg.2 ⟨x,hx,hp⟩
theorem Gy{l:List α}{p:α->Bool}{k:Nat}{x:α}(hk:l[k]? =some x)(hp:p x=true)(hn:∀j y,j<k->l[j]? =some y->p y=false):Jw l p=((k:Nat):Int):=by
 unfold Jw;have hlt:=(bE.1 hk).1;have:l.findIdx? p=some k:=by
  rw[List.findIdx?_eq_some_iff_getElem];refine⟨hlt,?_,λj hj=>?_⟩
  ·have:=aS hlt;rw[hk]at this;injection this with this;rw[<-this];exact hp
  ·have:=hn j l[j] hj<|aS (by omega);simpa using this
 rw[this]
theorem xu(l:List α)(p:α->Bool):(Jw l p = -1/\∀x∈l,p x=false)\/∃k x,Jw l p=((k:Nat):Int)/\l[k]? =some x/\p x=true/\∀j y,j<k->l[j]? =some y->p y=false:=by
 unfold Jw
 cases h:l.findIdx? p with
 |none=>exact .inl ⟨rfl,λx hx=>by have:=List.findIdx?_eq_none_iff.1 h x hx;simpa using this⟩
 |some k=>
  obtain⟨hk,hp,hn⟩:=List.findIdx?_eq_some_iff_getElem.1 h;refine .inr ⟨k,l[k],rfl,aS hk,hp,λj y hj hy=>?_⟩;have:=hn j hj;rw[aS (by omega)]at hy;injection hy with hy
  subst hy;simpa using this
theorem On(l:List α)(p:α->Bool):decide (Jw l p>=0)=l.any p:=by
 rcases xu l p with⟨h,hn⟩|⟨k,x,h,hx,hp,_⟩
 ·rw[h,List.any_eq_false.2 (λx hx=>by rw[hn x hx];decide)];decide
 ·rw[h,kg.2 ⟨x,fK hx,hp⟩];simp
def u7(p0:List α)(p1:α->Option Bool):Option Int:=
 (uO p0.length (λ(k1:Nat)(_:Unit)=>((idx p0 ((k1:Nat):Int)).bind λx7=>(p1 x7).bind λx10=>bif x10 then some (.rt ((k1:Nat):Int))else(some<|.nx ()):Option (Fl Unit Int))) ()).bind λo11=>o11.cs (λ(_:Unit)=>some<|-1)<|λr=>some r
theorem ya{l:List α}{φ:α->Option Bool}(p:α->Bool)(hl:l.length<=4611686018427387904)(h:∀x∈l,φ x=some (p x)):u7 l φ=some (Jw l p):=by
 unfold u7
 rw[sw (λk=>(l[k]?).bind λx=>if p x=true then some ((k:Nat):Int)else none) hl (λk hk _=>by
  rw[lI l k hk,aB,h _<|dH hk,aB,aS hk]
  cases hp:p l[k] <;> simp[Ju,hp]),aB]
 rcases xu l p with⟨h1,h2⟩|⟨k,x,h1,h2,h3,h4⟩
 ·rw[ky.2 (λk hk=>by rw[aS hk];simp[h2 _<|dH hk])];simp[EO,Fo.cs,h1]
 ·rw[(kz (r:=((k:Nat):Int))).2 ⟨k,(bE.1 h2).1,by rw[h2];simp[h3],λj hj=>by
   cases hy:l[j]? with
   |none=>rfl
   |some y=>simp[h4 j y hj hy]⟩]
  simp[EO,Fo.cs,h1]
def tG(p0:List α)(p1:α->Option Bool):Option Bool:=
 (u7 p0 p1).bind λx1=>some<|decide<|x1>=0
theorem uc{l:List α}{φ:α->Option Bool}(p:α->Bool)(hl:l.length<=4611686018427387904)(h:∀x∈l,φ x=some (p x)):tG l φ=some (l.any p):=by
 unfold tG;rw[ya p hl h,aB,On]
def ES [DecidableEq α](p0 p1:List α):Option Bool:=
 bif((p0.length:Nat):Int) != ((p1.length:Nat):Int)then some false else((uO p0.length (λ(k1:Nat)(_:Unit)=>((idx p0 ((k1:Nat):Int)).bind λx13=>(idx p1 ((k1:Nat):Int)).bind λx16=>bif(!(decide<|x13=x16))then some (.rt false)else(some<|.nx ()):Option (Fl Unit Bool))) ()).bind λo23=>o23.cs (λ(_:Unit)=>some true)<|λr=>some r)
theorem Aw [DecidableEq α]{l m:List α}(hl:l.length<=4611686018427387904):ES l m=some (decide<|l=m):=by
 unfold ES
 by_cases h:l.length=m.length
 ·have e:(((l.length:Nat):Int) != ((m.length:Nat):Int))=false:=by rw[h];simp
  rw[e,aT]
  rw[sw (λk=>if l[k]? =m[k]? then none else some false) hl (λk hk _=>by
   rw[lI l k hk,aB,lI m k (by omega),aB,aS hk,aS (by omega:k<m.length)]
   by_cases hx:l[k]=m[k] <;> simp[Ju,hx]),aB]
  by_cases hx:l=m
  ·subst hx;rw[ky.2<|λk _=>aC rfl];simp[EO,Fo.cs]
  ·have:∃r,qK l.length (λk=>if l[k]? =m[k]? then none else some false)=some r:=by
    cases hf:qK l.length (λk=>if l[k]? =m[k]? then none else some false)with
    |some r=>exact⟨r,rfl⟩
    |none=>
     exfalso;refine hx<|List.ext_getElem? λi=>?_
     by_cases hi:i<l.length
     ·have:=ky.1 hf i hi
      by_cases h6:l[i]? =m[i]?
      ·exact h6
      ·rw[aD h6]at this;cases this
     ·rw[List.getElem?_eq_none (by omega),List.getElem?_eq_none (by omega)]
   obtain⟨r,hr⟩:=this;have hr2:r=false:=by
    obtain⟨k,_,hk,_⟩:=kz.1 hr;split at hk
    ·cases hk
    ·injection hk with hk;exact hk.symm
   rw[hr,hr2];simp[EO,Fo.cs,hx]
 ·have e:(((l.length:Nat):Int) != ((m.length:Nat):Int))=true:=by simp;omega
  rw[e,aQ,bP<|λh'=>h (by rw[h'])]
def Sorted(key:α->eJ)(l:List α):Prop:=∀(i j:Nat)(x y:α),i<j->l[i]? =some x->l[j]? =some y->eJ.lt (key x) (key y)
theorem Sorted.inj{key:α->eJ}{l:List α}(h:Sorted key l){i j:Nat}{x y:α}(hx:l[i]? =some x)(hy:l[j]? =some y)(e:key x=key y):i=j:=by
 rcases Nat.lt_trichotomy i j with h1|h1|h1
 ·exact absurd e<|eJ.Nt<|h i j x y h1 hx hy
 ·exact h1
 ·exact absurd e.symm<|eJ.Nt<|h j i y x h1 hy hx
def KR(N:Nat)(p0:List α)(p1:β)(p2:α->β->Option Int):Option (Int×Bool):=
 (kp (λ(s2:Int×Int)=>(bif decide (s2.1<s2.2)then((idx p0<|wrap .i64<|Int.fdiv (wrap .u64<|wrap .i64<|s2.1+s2.2) 2).bind λx13=>(p2 x13 p1).bind λx16=>(bif decide (x16<0)then some (wrap .i64<|wrap .i64 (Int.fdiv (wrap .u64<|wrap .i64<|s2.1+s2.2) 2)+1,s2.2)else some (s2.1,wrap .i64<|Int.fdiv (wrap .u64<|wrap .i64<|s2.1+s2.2) 2)).bind λs17=>some<|.nx (s17.1,s17.2))else(some<|.br (s2.1,s2.2)):Option (Fl (Int×Int) Empty))) N (0,((p0.length:Nat):Int))).bind λo29=>o29.cs (λ(s2:Int×Int)=>(bif decide (s2.1<((p0.length:Nat):Int))then((idx p0 s2.1).bind λx25=>(p2 x25 p1).bind λx28=>some<|x28==0)else some false).bind λs23=>some (s2.1,s23))<|λr=>r.elim
theorem Jx{a b:Nat}(h:a<b)(hb:b<=4611686018427387904):wrap .i64 (Int.fdiv (wrap .u64<|wrap .i64<|((a:Nat):Int)+((b:Nat):Int)) 2)=(((a+b) / 2:Nat):Int):=by
 rw[eY (x:=((a:Nat):Int)+((b:Nat):Int)) (by omega) (by omega)];have e:wrap .u64 (((a:Nat):Int)+((b:Nat):Int))=((a+b:Nat):Int):=by
  show((a:Int)+b) % 18446744073709551616=_;omega
 rw[e,Int.fdiv_eq_ediv_of_nonneg _ (by omega),eY (by omega) (by omega)];omega
end
end Go.Gk
namespace Go.Gk
open Go IntKind Go.ChangeShapes Go.WideShapes Go.RowKit
structure UB (ub:(H:Type)->DataW H->Nat) (ua:(H:Type)->List (DataW H)->Nat):Prop where
 str:∀(H:Type)(b:List UInt8),ub H (.lit<|.string b)=b.length+1
 pos:∀(H:Type)(d:DataW H),1<=ub H d
 sl:∀(H:Type)(e s:List (DataW H)),ub H (.slice e s)=ua H e+ua H s+1
 ag:∀(H:Type)(l:List (DataW H)),ub H (.agg l)=ua H l+1
 nil:∀(H:Type),ua H []=0
 cons:∀(H:Type)(x:DataW H)(l:List (DataW H)),ua H (x::l)=ub H x+ua H l
def Hw(w:World):eI:=λb=>w.heap[b]?
structure km (ub:(H:Type)->DataW H->Nat) (P:Program) (T:TypeId) (α:Type) [GT α] [Bk α]:Prop where
 trod:∀{H:Type}{enc:TypeId×Value->H}{w:World}{base:Nat}{spare:Nat->Bool}{held:Bool}{fuel:Nat}{cs:List Value}{d:DataW H×List MemPlace},
  DataW.trod enc P w base spare held fuel T cs=some d->∃x:α,GT.ok (Hw w) cs x/\bk x<=ub H d.1
 QD:∀{w:World}{r:Reach}{base:Nat}{v:Value},Value.okWide P w r base T v->v=uN α v.cells.toList
section
variable {ub:(H:Type)->DataW H->Nat}{ua:(H:Type)->List (DataW H)->Nat}{P:Program}{T e:TypeId}
theorem Jy(u:UB ub ua)(ht:P.underlying T=some (.int .i64):=by kernel_rfl):km ub P T Int where
 trod:=λh=>by
  obtain⟨n,rfl,rfl,_⟩:=DataW.trod_int ht h;exact⟨n,rfl,u.pos _ _⟩
 QD:=λh=>by obtain⟨n,rfl⟩:=okWide_int ht h;rfl
theorem HA(u:UB ub ua)(ht:P.underlying T=some .bool:=by kernel_rfl):km ub P T Bool where
 trod:=λh=>by
  obtain⟨n,rfl,rfl⟩:=DataW.trod_bool ht h;exact⟨n,rfl,u.pos _ _⟩
 QD:=λh=>by obtain⟨n,rfl⟩:=okWide_bool ht h;rfl
theorem Jz(u:UB ub ua)(ht:P.underlying T=some .string:=by kernel_rfl):km ub P T eJ where
 trod:=λh=>by
  obtain⟨s,rfl,rfl,_⟩:=DataW.trod_string ht h;refine⟨⟨s.data.toList⟩,?_,?_⟩
  ·show [Value.string s]= [Gk.str ⟨s.data.toList⟩]
   cases s;rfl
  ·rw[u.str];exact bV _
 QD:=λh=>by obtain⟨n,rfl⟩:=okWide_string ht h;rfl
theorem A7{α:Type}{R:Nat->α->Prop}:∀(n:Nat),(∀i,i<n->∃x,R i x)->∃l:List α,l.length=n/\∀i x,l[i]? =some x->R i x
 | 0,_=>⟨[],rfl,λi x h=>by simp at h⟩
 |n+1,h=>by
  obtain⟨l,h1,h2⟩:=A7 n<|λi hi=>h i (by omega)
  obtain⟨x,hx⟩:=h n (by omega);refine⟨l++[x],by simp[h1],λi y hy=>?_⟩
  by_cases hi:i<n
  ·rw[gN (by omega)]at hy;exact h2 i y hy
  ·have:=(bE.1 hy).1;rw[dG]at this;have:i=n:=by simp at this;omega
   subst this;rw[hU (by omega),h1]at hy;simp at hy;subst hy;exact hx
theorem DX{H α:Type}[Bk α](u:UB ub ua):∀{l:List α}{es:List (DataW H×List MemPlace)},l.length=es.length->
  (∀(i:Nat)(x:α)(y:DataW H×List MemPlace),l[i]? =some x->es[i]? =some y->bk x<=ub H y.1)->bk l<=ua H (es.map (·.1))+1
 | [],[],_,_=>by rw[KP];omega
 |x::l,y::es,hl,h=>by
  have h1:=h 0 x y rfl rfl;have h2:=DX (H:=H) u (l:=l) (es:=es) (by simpa using hl)<|λi x y hx hy=>h (i+1) x y (by simpa using hx) (by simpa using hy)
  rw[EP,eB,u.cons];omega
theorem Gz{w:World}{base:Nat}{a:Addr}{n:Nat}{cs:List Value}(h:w.cells? base a n=some cs):At (Hw w) a cs:=by
 intro j v hv;obtain⟨_,hlen,hc⟩:=World.cells?_some h;have hj:=(bE.1 hv).1;have h2:=hc j (by omega);rw[hv]at h2;unfold yW Hw;unfold World.cell? at h2;exact h2
theorem sB{α:Type}[GT α][Bk α](u:UB ub ua)(he:km ub P e α)(ht:P.underlying T=some (.slice e):=by kernel_rfl)(hc:P.cellsOf e=GT.sz α:=by kernel_rfl):km ub P T (List α)where
 trod:=λ{H enc w base spare held fuel cs d}h=>by
  rcases DataW.trod_slice ht h with⟨rfl,rfl⟩|⟨a,len,cap,elems,rest,n,_,rfl,rfl,_,hlc,hcm,hlen,hel,_⟩
  ·exact⟨[],⟨_,rfl,none,0,0,rfl,rfl,bV _,by simp[maxLen],λi x hx=>by simp at hx⟩,u.pos _ _⟩
  ·have each:∀i,i<len->∃x:α,(∃c y,GT.ok (Hw w) c x/\At (Hw w) (a.add<|i*GT.sz α) c/\elems[i]? =some y/\bk x<=ub H y.1):=by
    intro i hi;have h1:=hel i hi;rw[aS (by omega:i<elems.length),Option.bind_eq_some_iff]at h1;obtain⟨c,h2,h3⟩:=h1;obtain⟨x,h4,h5⟩:=he.trod h3;refine⟨x,c,_,h4,?_,aS (by omega),h5⟩;rw[hc]at h2;exact Gz h2
   obtain⟨l,hl,hr⟩:=A7 len each;refine⟨l,⟨_,rfl,some a,len,cap,rfl,hl.symm,hlc,hcm,λi x hx=>?_⟩,?_⟩
   ·obtain⟨c,y,h1,h2,_⟩:=hr i x hx;exact⟨a,c,rfl,h1,h2⟩
   ·have:=DX (H:=H) u (l:=l) (es:=elems) (by omega) (λi x y hx hy=>by
     obtain⟨c,y',_,_,h3,h4⟩:=hr i x hx
     rw[hy]at h3;injection h3 with h3;subst h3;exact h4)
    rw[u.sl];omega
 QD:=λh=>by obtain⟨a,n,c,rfl⟩:=okWide_slice ht h;rfl
def Iy(ub:(H:Type)->DataW H->Nat)(ua:(H:Type)->List (DataW H)->Nat)(P:Program)(off:Nat)(fs:List Field)(β:Type)[GT β](m:β->Nat):Prop:=
 ∀{H:Type}{enc:TypeId×Value->H}{w:World}{base:Nat}{spare:Nat->Bool}{held:Bool}{n:Nat}{cs:List Value}{ys:List (DataW H×List MemPlace)},
  (∀(i:Nat)(f:Field),fs[i]? =some f->DataW.trod enc P w base spare held n f.type ((cs.drop f.offset).take<|P.cellsOf f.type)=ys[i]?)->ys.length=fs.length->
  cs.length=off+GT.sz β->∃x:β,GT.ok (Hw w) (cs.drop off) x/\m x<=ua H (ys.map (·.1))
theorem qh{β:Type}[GT β][Bk β]{off:Nat}{f:Field}(u:UB ub ua)(h:km ub P f.type β)(ho:f.offset=off:=by exact rfl)(hc:P.cellsOf f.type=GT.sz β:=by kernel_rfl):Iy ub ua P off [f] β bk:=by
 intro H enc w base spare held n cs ys hf hl hcs
 match ys,hl with
 | [y],_=>
  have h1:=hf 0 f rfl;rw[ho,hc,mR (by rw[gO];omega)]at h1;obtain⟨x,h2,h3⟩:=h.trod (d:=y) h1;exact⟨x,h2,by rw[eB,u.cons];omega⟩
theorem gJ{α β:Type}[GT α][GT β][Bk α]{off off':Nat}{f:Field}{fs:List Field}{m:β->Nat}(u:UB ub ua)(h:km ub P f.type α)(hr:Iy ub ua P off' fs β m)(ho:f.offset=off:=by exact rfl)(hc:P.cellsOf f.type=GT.sz α:=by kernel_rfl)(hoff:off'=off+GT.sz α:=by exact rfl):Iy ub ua P off (f::fs) (α×β) (λx=>bk x.1+m x.2):=by
 intro H enc w base spare held n cs ys hf hl hcs;have hsz:GT.sz (α×β)=GT.sz α+GT.sz β:=rfl
 match ys,hl with
 |y::ys,hl=>
  have h1:=hf 0 f rfl;rw[ho,hc]at h1;obtain⟨x,h2,h3⟩:=h.trod (d:=y) h1;obtain⟨x',h4,h5⟩:=hr (n:=n) (cs:=cs) (ys:=ys) (λi g hg=>hf (i+1) g hg) (by simpa using hl) (by omega);refine⟨(x,x'),⟨_,_,?_,h2,h4⟩,?_⟩
  ·rw[hoff,<-List.drop_drop,List.take_append_drop]
  ·rw[eB,u.cons];show bk x+m x'<=_;omega
theorem mb{γ β:Type}[GT β][Bk γ]{fs:Array Field}{m:β->Nat}(u:UB ub ua)(f:γ->β)(g:β->γ)(hfg:∀b,f (g b)=b)(ht:P.underlying T=some (.struct fs))(h:Iy ub ua P 0 fs.toList β m)(hm:∀b,bk (g b)<=m b+1)(hc:P.cellsOf T=GT.sz β:=by kernel_rfl): @km ub P T γ (GT.via f) _:=
 @km.mk ub P T γ (GT.via f) _
  (λ{H enc w base spare held fuel cs d}hd=>by
   obtain⟨xs,n,_,rfl,hl,hlen,hf⟩:=DataW.trod_struct ht hd;obtain⟨b,h1,h2⟩:=h (n:=n) (cs:=cs) (ys:=xs) (λi g hg=>hf i g (by rw[<-Array.getElem?_toList];exact hg)) (by rw[hlen];simp) (by omega);refine⟨g b,?_,?_⟩
   ·show GT.ok (Hw w) cs (f<|g b);rw[hfg];exact h1
   ·rw[u.ag];have:=hm b;omega)
  (λhv=>by
   obtain⟨cs,rfl,_⟩:=okWide_struct ht hv
   cases cs;rfl)
theorem km.arg{H:Type}{enc:TypeId×Value->H}{w:World}{base:Nat}{spare:Nat->Bool}{held:Bool}{r:Reach}{b0:Nat}{v:Value}{d:DataW H}{ps:List MemPlace}{α:Type}[GT α][Bk α](o:km ub P T α)
  (hv:Value.okWide P w r b0 T v) (hd:DataW.Trod enc P w base spare held T v d ps):∃x:α,yf (Hw w) v x/\bk x<=ub H d:=by
 obtain⟨fuel,hf⟩:=hd;obtain⟨x,h1,h2⟩:=o.trod hf;exact⟨x,⟨_,o.QD hv,h1⟩,h2⟩
theorem km.QE{H:Type}{enc:TypeId×Value->H}{w:World}{base:Nat}{spare:Nat->Bool}{held:Bool}{r:Reach}{b0:Nat}{v:Value}{d:DataW H}{ps:List MemPlace}{α:Type}[Sc α][Bk α](o:km ub P T α)
  (hv:Value.okWide P w r b0 T v) (hd:DataW.Trod enc P w base spare held T v d ps):∃x:α,v=Sc.toV x/\bk x<=ub H d:=by
 obtain⟨x,h1,h2⟩:=o.arg hv hd;exact⟨x,Ek.1 h1,h2⟩
end
theorem Calls.fin{P:Program}{f:FuncId}{args:Array Value}{w:World}{R Q:Value->World->Prop}(h:Calls P f args w (gu R))(k:∀v w',R v w'->Q v w'):
  Calls P f args w (λe W'=>∃v,e = .returned v/\Q v W'):=Calls.mono h λ_ w'⟨v,e,hr⟩=>⟨v,e,k v w' hr⟩
def hQ(W:World):HP:=⟨λM h=>hle (Hw W) M/\h=rC,λk⟨a,b⟩=>⟨Jd a k,b⟩⟩
theorem Holds.begin(W:World):Holds W W [hQ W]:=by
 refine⟨Hw W,λ_=>rC,⟨rfl,rfl,rfl,bV _,λb o h=>h,λi Pr hq=>?_,λ_ _ _ _ h=>(by cases h),λ_ _ _ _ h=>(by cases h),λ_ _ _ _ _ _ _ h=>(by cases h)⟩⟩
 match i,hq with
 | 0,hq=>simp at hq;subst hq;exact⟨J9 _,rfl⟩
theorem Holds.Nu{α:Type}[GT α]{W:World}{V:List HP}{v:Value}{x:α}(h:Holds W W (V++[hQ W]))(hv:Gk.yf (Hw W) v x):Holds W W (rd v x::(V++[hQ W])):=
 h.Dh λM hs g=>by
  have h1:=(g.sat V.length (hQ W) (by simp)).1;exact⟨hv.mono h1,rfl⟩
theorem Holds.kept{E W w:World}{V:List HP}(h:Holds E w (V++[hQ W]))(he:E=W):Below W.heap.size W w:=by
 subst he;obtain⟨M,hs,g⟩:=h;have h1:=(g.sat V.length (hQ E) (by simp)).1;have h2:∀k o,E.heap[k]? =some o->w.heap[k]? =some o:=λk o ho=>g.im k o<|h1 k o ho
 refine⟨g.os,g.tape,g.out,?_,λk hk=>?_⟩
 ·by_cases h0:E.heap.size=0
  ·omega
  ·have h3:=h2 (E.heap.size - 1) _<|iu (by omega)
   have:=(Array.getElem?_eq_some_iff.1 h3).1;omega
 ·rw[iu hk];exact h2 k _<|iu hk
section
variable {H:Type}{enc:TypeId×Value->H}{P:Program}
theorem JA{f:Func}{s:ChangeSpec}{apart fresh handsOn again:Bool}{W W':World}{args:Array Value}{v:Value}{ds gs:List (DataW H)}{before pa pv:List MemPlace}
  (hW:DataW.Whole enc P f.params.toList s.vars apart W args.toList ds gs before)
  (hres:∀(b:Nat)(sp:Nat->Bool)(hd:Bool),DataW.TrodAll enc P W' b sp hd f.resultTypes.toList (v.resultList f.resultTypes.size) (s.fn H<|ds++gs).results [])
  (hargs:∀sp:Nat->Bool,(∀p∈before,sp p.block=true)->DataW.TrodAll enc P W' 0 sp true f.params.toList args.toList (s.fn H<|ds++gs).args pa)
  (hvars:∀sp:Nat->Bool,(∀p∈before,sp p.block=true)->DataW.TrodVars enc P W' sp s.vars (s.fn H<|ds++gs).vars pv)
  (hps:before=pa++pv) (hb:Below W.heap.size W W')
  (hok:∀(j:Nat)(t:TypeId)(r:Value),f.resultTypes[j]? =some t->(v.resultList f.resultTypes.size)[j]? =some r->Value.okWide P W' .any 0 t r):
  s.post enc P f apart fresh handsOn again W args v W':=by
 have hlt:∀p∈before,p.block<W.heap.size:=λp hp=>hW.lt p hp;have hold:∀p∈before,(λb=>decide<|b<W.heap.size) p.block=true:=λp hp=>by simpa using hlt p hp
 refine⟨ds,gs,before,[],pa,pv,hW,hres _ _ _,hargs _ hold,hvars _ hold,World.keptBut_mono (λp hp=>⟨hp,?_⟩)<|hb.frame (· ∈before),λ_=>?_⟩
 ·rw[hps,dS]at hp;exact Or.inr hp
 ·obtain⟨_,_,_,_,_,hz,hn⟩:=hW;refine⟨hok,_,_,([]++pa)++pv,⟨[]++pa,pv,trodAll_append (hargs _<|λ_ _=>rfl)<|hres _ _ _,hvars _<|λ_ _=>rfl,rfl,?_,?_⟩,?_⟩
  ·intro b off hp;have hin:MemPlace.cell b off∈before:=by rw[hps];simpa using hp
   rw[hb.frozen<|hlt _ hin];exact hz b off hin
  ·intro ha;have:=hn ha;rw[hps]at this;simpa using this
  ·intro p hp _;rw[hps];simpa using hp
theorem yb{W W':World}(hl:laidOutB P=true)(hb:Below W.heap.size W W'){sp:Nat->Bool}:∀{ts:List TypeId}{vs:List Value}{ds:List (DataW H)}{ps:List MemPlace},
  (∀t∈ts,P.readableRec t=true/\t<P.types.size)->DataW.TrodAll enc P W 0 (λ_=>true) true ts vs ds ps->(∀p∈ps,p.block<W.heap.size)->(∀p∈ps,sp p.block=true)->DataW.TrodAll enc P W' 0 sp true ts vs ds ps
 | [],_,_,_,_,h,_,_=>by
  obtain⟨rfl,rfl,rfl⟩:=trodAll_nil h;rfl
 |t::ts,_,_,_,ht,h,hlt,hsp=>by
  obtain⟨v,vs,d,ds,p,q,rfl,rfl,rfl,h1,h2⟩:=trodAll_cons h;refine⟨p,q,?_,yb hl hb (λt h=>ht t (by simp[h])) h2 (λx hx=>hlt x (by simp[hx]))<|λx hx=>hsp x (by simp[hx]),rfl⟩;exact WideElems.Trod_stays hl (ht t (by simp)).1 (ht t (by simp)).2 h1 (λx hx=>hb.same<|hlt x (by simp[hx]))<|λx hx=>hsp x (by simp[hx])
end
end Go.Gk
namespace Go.Gk
open Go IntKind
instance:Bk aI:=⟨λx=>bk x.X0+bk x.Y0+bk x.X1+bk x.Y1+1,λ_=>by omega⟩
theorem Mh(x:aI):bk x=bk x.X0+bk x.Y0+bk x.X1+bk x.Y1+1:=rfl
instance:Bk bL:=⟨λx=>bk x.X+bk x.Y+1,λ_=>by omega⟩
theorem KS(x:bL):bk x=bk x.X+bk x.Y+1:=rfl
instance:Bk cP:=⟨λx=>bk x.At+bk x.dQ+bk x.cR+bk x.To+bk x.jX+1,λ_=>by omega⟩
theorem Mi(x:cP):bk x=bk x.At+bk x.dQ+bk x.cR+bk x.To+bk x.jX+1:=rfl
instance:Bk dV:=⟨λx=>bk x.Part+bk x.eE+bk x.fP+bk x.At+1,λ_=>by omega⟩
theorem Iz(x:dV):bk x=bk x.Part+bk x.eE+bk x.fP+bk x.At+1:=rfl
instance:Bk fE:=⟨λx=>bk x.aL+bk x.dC+bk x.aV+bk x.bN+1,λ_=>by omega⟩
theorem KT(x:fE):bk x=bk x.aL+bk x.dC+bk x.aV+bk x.bN+1:=rfl
instance:Bk eE:=⟨λx=>bk x.Part+bk x.eE+1,λ_=>by omega⟩
theorem Oo(x:eE):bk x=bk x.Part+bk x.eE+1:=rfl
instance:Bk Test:=⟨λx=>bk x.A+bk x.B+bk x.Joined+1,λ_=>by omega⟩
theorem Mj(x:Test):bk x=bk x.A+bk x.B+bk x.Joined+1:=rfl
instance:Bk aA:=⟨λx=>bk x.Y0+bk x.Y1+bk x.Xs+1,λ_=>by omega⟩
instance:Bk aO:=⟨λx=>bk x.fP+bk x.Set+bk x.ri+1,λ_=>by omega⟩
instance:Bk dL:=⟨λx=>bk x.qS+bk x.aV+bk x.kV+1,λ_=>by omega⟩
instance:Bk gM:=⟨λx=>bk x.cP+bk x.Number+1,λ_=>by omega⟩
instance:Bk cB:=⟨λx=>bk x.e0+bk x.e1+1,λ_=>by omega⟩
instance:Bk bT:=⟨λx=>bk x.e0+bk x.e1+1,λ_=>by omega⟩
instance:Bk Touch:=⟨λx=>bk x.Test+bk x.FZ+bk x.A0+1,λ_=>by omega⟩
instance:Bk aH:=⟨λx=>bk x.from_+bk x.to+1,λ_=>by omega⟩
instance:Bk aM:=⟨λx=>bk x.from_+bk x.to+bk x.ji+1,λ_=>by omega⟩
instance:Bk aW:=⟨λx=>bk x.Bv+bk x.tU+bk x.speed+bk x.A1+1,λ_=>by omega⟩
instance:Bk bW:=⟨λx=>bk x.e0+bk x.e1+1,λ_=>by omega⟩
instance:Bk m7:=⟨λx=>bk x.Open+bk x.gM+bk x.A+bk x.B+1,λ_=>by omega⟩
end Go.Gk
namespace Go.Gk
open Go IntKind Go.Sort
section
variable {α:Type}
theorem A8{β:Type}(a:Array β){n:Nat}(h:a.size=n):a.extract 0 n=a:=by subst h;exact Array.extract_size
theorem Oq{φ:α->α->Option Int}{l:List α}(cf:α->α->Int)(hφ:∀x∈l,∀y∈l,φ x y=some (cf x y))(h1:∀x∈l,¬cf x x<0)
  (h2:∀x∈l,∀y∈l,∀z∈l,cf x y<0->cf y z<0->cf x z<0) (h3:∀x∈l,∀y∈l,∀z∈l,¬cf x y<0->¬cf y z<0->¬cf x z<0):SWO (LC<|FY φ l):=by
 have hm:∀i:Fin l.length,l[i]∈l:=λi=>dH i.isLt;have e:∀i j:Fin l.length,FY φ l i j=cf l[i] l[j]:=λi j=>by unfold FY;rw[hφ _ (hm i) _<|hm j];rfl
 refine⟨λx=>?_,λx y z=>?_,λx y z=>?_⟩
 ·simp only[LC,e,decide_eq_false_iff_not];exact h1 _<|hm _
 ·simp only[LC,e,decide_eq_true_iff];exact h2 _ (hm _) _ (hm _) _<|hm _
 ·simp only[LC,e,decide_eq_false_iff_not];exact h3 _ (hm _) _ (hm _) _<|hm _
theorem Cu{φ:α->α->Option Int}{l:List α}(cf:α->α->Int)(hφ:∀x∈l,∀y∈l,φ x y=some (cf x y))(h1:∀x∈l,¬cf x x<0)
  (h2:∀x∈l,∀y∈l,∀z∈l,cf x y<0->cf y z<0->cf x z<0) (h3:∀x∈l,∀y∈l,∀z∈l,¬cf x y<0->¬cf y z<0->¬cf x z<0) (hl:l.length<4611686018427387904):
  ∃m,y9 φ l=some m/\m.Perm l/\m.Pairwise (λx y=>¬cf y x<0):=by
 have hO:=Oq cf hφ h1 h2 h3;have hm:∀i:Fin l.length,l[i]∈l:=λi=>dH i.isLt;have hc:(∀i j:Fin l.length,∃c,φ l[i] l[j]=some c):=λi j=>⟨_,hφ _ (hm i) _<|hm j⟩;refine⟨Ii φ l,by unfold y9;rw[aC ⟨⟨hc,hO⟩,hl⟩],?_⟩;unfold Ii
 by_cases hn:0<l.length
 ·rw[dif_pos hn]
  letI inh:Inhabited (Fin l.length):=⟨⟨0,hn⟩⟩
  have hds:(Array.ofFn λi:Fin l.length=>i).size=l.length:=by simp
  obtain⟨hp,hs⟩:=pdq_sorts (LC<|FY φ l) hO (Array.ofFn λi:Fin l.length=>i) 0 l.length (Lib.bitLen l.length) true true (eH _) (by rw[hds];exact bV _)<|Or.inl rfl
  show(List.map (λi=>l[i]) (pdq (LC<|FY φ l) (Array.ofFn λi:Fin l.length=>i) 0 l.length (Lib.bitLen l.length) true true).toList).Perm l/\_;generalize pdq (LC<|FY φ l) (Array.ofFn λi:Fin l.length=>i) 0 l.length (Lib.bitLen l.length) true true=d' at hp hs;obtain⟨hz,_,hpm⟩:=hp;have hz':d'.size=l.length:=hz.trans hds;rw[A8 d' hz',A8 _ hds]at hpm;have hof:(Array.ofFn λi:Fin l.length=>i).toList.map (λi=>l[i])=l:=by
   rw[Array.toList_ofFn,List.map_ofFn];exact List.ofFn_getElem
  refine⟨(hpm.map<|λi=>l[i]).trans<|List.Perm.of_eq hof,?_⟩;rw[List.pairwise_map,mT];intro i j hi hj hij;rw[Array.length_toList]at hi hj;have:=hs i j (eH _) hij (by rw[<-hz'];exact hj);rw[getElem!_pos d' i hi,getElem!_pos d' j hj]at this;have hij2:=hφ _ (hm<|d'[j]) _<|hm<|d'[i]
  have hij3:FY φ l d'[j] d'[i]=cf l[d'[j]] l[d'[i]]:=by unfold FY;rw[hij2];rfl
  unfold LC at this;rw[decide_eq_false_iff_not,hij3]at this;exact this
 ·rw[dif_neg hn];have:l= []:=List.length_eq_zero_iff.1 (by omega);subst this;exact⟨List.Perm.refl _,kO⟩
theorem DY{φ:α->α->Option Int}{x:α}(h:φ x x=some 0):y9 φ [x]=some [x]:=by
 obtain⟨m,h1,h2,_⟩:=Cu (φ:=φ) (l:=[x]) (λ_ _=>0) (λa ha b hb=>by simp at ha hb;rw[ha,hb];exact h) (λ_ _=>by decide) (λ_ _ _ _ _ _ h=>by simp at h) (λ_ _ _ _ _ _ _ _=>by decide) (by simp);rw[h1,List.perm_singleton.1 h2]
theorem Dx{l:List Int}(h:l.Pairwise (λx y=>x<=y))(hl:l.length<4611686018427387904):wc l=some l:=by
 unfold wc;rw[aC hl,List.mergeSort_of_pairwise (by simpa using h)]
end
end Go.Gk
namespace Go.Gk
open Go IntKind
def tg(l:List Int)(x:Int):Nat:=l.countP<|λa=>decide<|a<=x
def pO(l:List Int)(x:Int):Bool:=tg l x % 2==1
def kb(l:List Int):Prop:=l.Pairwise (· < ·)
theorem EW(x:Int):tg [] x=0:=rfl
theorem oD(a:Int)(l:List Int)(x:Int):tg (a::l) x=(if a<=x then 1 else 0)+tg l x:=by
 unfold tg;rw[List.countP_cons]
 by_cases h:a<=x <;> simp[h];omega
theorem Cv(l m:List Int)(x:Int):tg (l++m) x=tg l x+tg m x:=List.countP_append
theorem IB{l:List Int}{x:Int}(h:∀a∈l,a<=x):tg l x=l.length:=by
 unfold tg;rw[List.countP_eq_length];intro a ha;simpa using h a ha
theorem Cw{l:List Int}{x:Int}(h:∀a∈l,x<a):tg l x=0:=by
 unfold tg;rw[List.countP_eq_zero];intro a ha;have:=h a ha;simp;omega
theorem zH{l:List Int}{x:Int}:pO l x=true↔tg l x % 2=1:=by unfold pO;simp
theorem zI{l:List Int}{x:Int}(h:∀a∈l,x<a):pO l x=false:=by unfold pO;rw[Cw h];rfl
theorem kb.head{a:Int}{l:List Int}(h:kb (a::l)):∀b∈l,a<b:=(oI.1 h).1
theorem kb.tail{a:Int}{l:List Int}(h:kb (a::l)):kb l:=(oI.1 h).2
theorem zJ{a:Int}{l:List Int}(h:kb (a::l)):pO (a::l) a=true:=by
 rw[zH,oD,aC<|Int.le_refl _,Cw h.head]
theorem Cx:∀{l m:List Int},kb l->kb m->(∀x,pO l x=pO m x)->l=m
 | [],[],_,_,_=>rfl
 | [],b::m,_,hm,h=>by have:=h b;rw[zJ hm]at this;cases this
 |a::l,[],hl,_,h=>by have:=h a;rw[zJ hl]at this;cases this
 |a::l,b::m,hl,hm,h=>by
  have hab:a=b:=by
   rcases Int.lt_trichotomy a b with h1|h1|h1
   ·have h2:=h a
    rw[zJ hl,zI (l:=b::m) (λc hc=>by
     rcases dO.1 hc with rfl|hc
     ·exact h1
     ·have:=hm.head c hc;omega)]at h2
    cases h2
   ·exact h1
   ·have h2:=h b
    rw[zJ hm,zI (l:=a::l) (λc hc=>by
     rcases dO.1 hc with rfl|hc
     ·exact h1
     ·have:=hl.head c hc;omega)]at h2
    cases h2
  subst hab;rw[Cx hl.tail hm.tail<|λx=>?_]
  by_cases hx:a<=x
  ·have h2:=h x;unfold pO at h2 ⊢;rw[oD,oD,aC hx]at h2;rw[eN]at h2 ⊢;simp only[beq_iff_eq]at h2 ⊢;omega
  ·rw[zI (λc hc=>by have:=hl.head c hc;omega),zI (λc hc=>by have:=hm.head c hc;omega)]
theorem zK{l:List Int}{a b:Int}(hl:∀c∈l,c<a)(he:l.length % 2=0)(hab:a<b)(x:Int):pO (l++[a,b]) x=(pO l x||(decide (a<=x)&&decide (x<b))):=by
 rw[eN,dP,cD,bK,bK,zH,zH,Cv,oD,oD,EW]
 by_cases h1:a<=x
 ·have h2:tg l x=l.length:=IB λc hc=>by have:=hl c hc;omega
  rw[h2,aC h1]
  by_cases h3:b<=x
  ·rw[aC h3];omega
  ·rw[aD h3];omega
 ·rw[aD h1,aD (by omega)];omega
theorem KX{l:List Int}{s e a b:Int}(hl:∀c∈l,c<s)(he:l.length % 2=0)(hs:s<e)(h1:s<=a)(h2:a<=e)(hab:a<b)(x:Int):pO (l++[s,max e b]) x=(pO (l++[s,e]) x||(decide (a<=x)&&decide (x<b))):=by
 rw[zK hl he (by omega),zK hl he hs];rw[eN];simp only[dP,cD,bK];constructor
 ·rintro(h|h)
  ·exact .inl<|.inl h
  ·by_cases hx:x<e
   ·exact .inl<|.inr ⟨h.1,hx⟩
   ·exact .inr ⟨by omega,by omega⟩
 ·rintro((h|h)|h)
  ·exact .inl h
  ·exact .inr ⟨h.1,by omega⟩
  ·exact .inr ⟨by omega,by omega⟩
theorem kb.snoc{l:List Int}{a b:Int}(h:kb l)(hl:∀c∈l,c<a)(hab:a<b):kb (l++[a,b]):=by
 unfold kb;rw[nL];refine⟨h,by simp[hab],λc hc d hd=>?_⟩;have:=hl c hc;simp at hd
 rcases hd with rfl|rfl <;> omega
structure Bd where
 y0:Int
 y1:Int
 xs:List Int
def rowAt:List Bd->Int->List Int
 | [],_=>[]
 |b::s,y=>if b.y0<=y/\y<b.y1 then b.xs else rowAt s y
theorem nC(b:Bd)(s:List Bd)(y:Int):rowAt (b::s) y=if b.y0<=y/\y<b.y1 then b.xs else rowAt s y:=rfl
structure fC (s:List Bd):Prop where
 each:∀b∈s,b.y0<b.y1/\b.xs≠[]/\kb b.xs/\b.xs.length % 2=0
 ord:s.Pairwise (λb c=>b.y1<=c.y0/\(b.y1=c.y0->b.xs≠c.xs))
theorem fC.nil:fC []:=⟨λb h=>by simp at h,kO⟩
theorem fC.tail{b:Bd}{s:List Bd}(h:fC (b::s)):fC s:=⟨λc hc=>h.each c<|iv _ hc,(oI.1 h.ord).2⟩
theorem mf{s:List Bd}{y:Int}(h:∀b∈s,y<b.y0\/b.y1<=y):rowAt s y= []:=by
 induction s with
 |nil=>rfl
 |cons b s ih=>
  unfold rowAt;have:=h b (by simp);rw[aD (by omega)];exact ih λc hc=>h c<|iv _ hc
theorem rT(s t:List Bd)(y:Int):rowAt (s++t) y=if(∃b∈s,b.y0<=y/\y<b.y1)then rowAt s y else rowAt t y:=by
 induction s with
 |nil=>simp
 |cons b s ih=>
  rw[List.cons_append,nC,nC]
  by_cases h:b.y0<=y/\y<b.y1
  ·rw[aC h,aC ⟨b,by simp,h⟩,aC h]
  ·rw[aD h,ih]
   by_cases h2:∃c∈s,c.y0<=y/\y<c.y1
   ·obtain⟨c,hc,hc2⟩:=h2;rw[aC ⟨c,hc,hc2⟩,aC ⟨c,iv _ hc,hc2⟩,aD h]
   ·rw[aD h2,aD (show ¬∃c∈b::s,c.y0<=y/\y<c.y1 from ?_)];rintro⟨c,hc,hc2⟩
    rcases dO.1 hc with rfl|hc
    ·exact h hc2
    ·exact h2 ⟨c,hc,hc2⟩
theorem fC.nD{b:Bd}{s:List Bd}{y:Int}(h0:b.y0<=y)(h1:y<b.y1):rowAt (b::s) y=b.xs:=by unfold rowAt;rw[aC ⟨h0,h1⟩]
theorem fC.Cy{b:Bd}{s:List Bd}(h:fC (b::s)):∀c∈s,b.y1<=c.y0:=λc hc=>((oI.1 h.ord).1 c hc).1
theorem fC.xv{b:Bd}{s:List Bd}(h:fC (b::s)){y:Int}(hy:y<b.y0):rowAt (b::s) y= []:=mf λc hc=>by
 rcases dO.1 hc with rfl|hc
 ·exact .inl hy
 ·have:=h.Cy c hc;have:=(h.each b (by simp)).1;exact .inl (by omega)
theorem fC.IC{b:Bd}{s:List Bd}(h:fC (b::s)):rowAt (b::s) b.y1≠b.xs:=by
 rw[nC,aD (by omega)]
 cases s with
 |nil=>exact λe=>(h.each b (by simp)).2.1 e.symm
 |cons c s=>
  have h1:=(oI.1 h.ord).1 c (by simp)
  by_cases e:b.y1=c.y0
  ·rw[fC.nD (by omega) (by have:=(h.tail.each c (by simp)).1;omega)];exact λh=>h1.2 e h.symm
  ·rw[h.tail.xv (by have:=h1.1;omega)];exact λe=>(h.each b (by simp)).2.1 e.symm
theorem Cz:∀{s t:List Bd},fC s->fC t->(∀y,rowAt s y=rowAt t y)->s=t
 | [],[],_,_,_=>rfl
 | [],c::t,_,ht,h=>by
  have hc:=ht.each c (by simp);have:=h c.y0;rw[fC.nD (Int.le_refl _) hc.1]at this;exact absurd this.symm hc.2.1
 |b::s,[],hs,_,h=>by
  have hb:=hs.each b (by simp);have:=h b.y0;rw[fC.nD (Int.le_refl _) hb.1]at this;exact absurd this hb.2.1
 |b::s,c::t,hs,ht,h=>by
  have hb:=hs.each b (by simp);have hc:=ht.each c (by simp);have e0:b.y0=c.y0:=by
   rcases Int.lt_trichotomy b.y0 c.y0 with h1|h1|h1
   ·have h2:=h b.y0;rw[fC.nD (Int.le_refl _) hb.1,ht.xv h1]at h2;exact absurd h2 hb.2.1
   ·exact h1
   ·have h2:=h c.y0;rw[fC.nD (Int.le_refl _) hc.1,hs.xv h1]at h2;exact absurd h2.symm hc.2.1
  have ex:b.xs=c.xs:=by
   have h2:=h b.y0;rw[fC.nD (Int.le_refl _) hb.1,fC.nD (by omega) (by omega)]at h2;exact h2
  have e1:b.y1=c.y1:=by
   rcases Int.lt_trichotomy b.y1 c.y1 with h1|h1|h1
   ·have h2:=h b.y1;rw[fC.nD (b:=c) (by omega) h1]at h2;exact absurd (h2.trans ex.symm) hs.IC
   ·exact h1
   ·have h2:=h c.y1;rw[fC.nD (b:=b) (by omega) h1]at h2;exact absurd (h2.symm.trans ex) ht.IC
  have ebc:b=c:=by cases b;cases c;simp_all
  subst ebc;rw[Cz hs.tail ht.tail<|λy=>?_]
  by_cases hy:b.y1<=y
  ·have h2:=h y;unfold rowAt at h2;rw[aD (by omega),aD (by omega)]at h2;exact h2
  ·rw[mf (λd hd=>by have:=hs.Cy d hd;exact .inl (by omega)),mf (λd hd=>by have:=ht.Cy d hd;exact .inl (by omega))]
def vY(s:List Bd)(x y:Int):Bool:=pO (rowAt s y) x
theorem DZ{s:List Bd}(h:∀b∈s,kb b.xs)(y:Int):kb (rowAt s y):=by
 induction s with
 |nil=>exact kO
 |cons b s ih=>
  unfold rowAt;split
  ·exact h b (by simp)
  ·exact ih λc hc=>h c<|iv _ hc
theorem vf{s t:List Bd}(hs:fC s)(ht:fC t)(h:∀x y,vY s x y=vY t x y):s=t:=
 Cz hs ht λy=>Cx (DZ (λb hb=>(hs.each b hb).2.2.1) y) (DZ (λb hb=>(ht.each b hb).2.2.1) y) λx=>h x y
def jS(s:List Bd)(b:Bd):List Bd:=
 if b.xs= []\/b.y1<=b.y0 then s else
  match s.getLast? with
  |some c=>if c.y1=b.y0/\c.xs=b.xs then s.dropLast++[⟨c.y0,b.y1,c.xs⟩]else s++[b]
  |none=>[b]
theorem sN{α:Type}{s:List α}{c:α}(h:s.getLast? =some c):s=s.dropLast++[c]:=by
 have hne:s≠[]:=λe=>by rw[e]at h;cases h
 rw[List.getLast?_eq_some_getLast hne]at h;injection h with h
 rw[<-h];exact(List.dropLast_concat_getLast hne).symm
theorem xw{s:List Bd}{b:Bd}(hs:∀c∈s,c.y1<=b.y0)(hg:∀c∈s,c.y0<c.y1)(hb:b.y1<=b.y0->b.y1=b.y0)(y:Int):rowAt (jS s b) y=if b.y0<=y/\y<b.y1 then b.xs else rowAt s y:=by
 have key:∀(s:List Bd)(c:Bd),(∀d∈s,d.y1<=c.y0)->rowAt (s++[c]) y=if c.y0<=y/\y<c.y1 then c.xs else rowAt s y:=by
  intro s c h;rw[rT]
  by_cases h1:c.y0<=y/\y<c.y1
  ·rw[aC h1,aD (by rintro⟨d,hd,hd2⟩;have:=h d hd;omega),fC.nD h1.1 h1.2]
  ·rw[aD h1]
   by_cases h2:∃d∈s,d.y0<=y/\y<d.y1
   ·rw[aC h2]
   ·rw[aD h2,nC,aD h1];refine(show rowAt [] y=_ from(mf (s:=s) λd hd=>?_).symm)
    by_cases h3:d.y0<=y
    ·exact .inr (by have:¬(d.y0<=y/\y<d.y1):=λh4=>h2 ⟨d,hd,h4⟩;omega)
    ·exact .inl (by omega)
 unfold jS
 by_cases h0:b.xs= []\/b.y1<=b.y0
 ·rw[aC h0]
  by_cases h1:b.y0<=y/\y<b.y1
  ·rw[aC h1]
   rcases h0 with h0|h0
   ·rw[h0];exact mf λc hc=> .inr (by have:=hs c hc;omega)
   ·omega
  ·rw[aD h1]
 ·rw[aD h0]
  cases hl:s.getLast? with
  |none=>
   have:s= []:=by simpa using hl
   subst this;rfl
  |some c=>
   dsimp only;have hsp:=sN hl;have hcm:c∈s:=by rw[hsp];simp
   by_cases h1:c.y1=b.y0/\c.xs=b.xs
   ·rw[aC h1];have hd:∀d∈s.dropLast,d.y1<=c.y0\/True:=λ_ _=> .inr trivial;rw[rT];have hrow:rowAt s y=if(∃d∈s.dropLast,d.y0<=y/\y<d.y1)then rowAt s.dropLast y else(if c.y0<=y/\y<c.y1 then c.xs else []):=by
     conv=>lhs;rw[hsp]
     rw[rT];rfl
    rw[hrow];have hcg:=hg c hcm
    by_cases h2:∃d∈s.dropLast,d.y0<=y/\y<d.y1
    ·obtain⟨d,hd,hd2⟩:=h2;have:=hs d<|List.dropLast_subset _ hd
     have he:∃d∈s.dropLast,d.y0<=y/\y<d.y1:=⟨d,hd,hd2⟩;rw[aC he,aC he,aD (by omega)]
    ·rw[aD h2,aD h2];show(if c.y0<=y/\y<b.y1 then c.xs else [])=_
     by_cases h3:b.y0<=y/\y<b.y1
     ·rw[aC h3,aC ⟨by omega,h3.2⟩,h1.2]
     ·rw[aD h3]
      by_cases h4:c.y0<=y/\y<c.y1
      ·rw[aC h4,aC ⟨h4.1,by omega⟩]
      ·rw[aD h4,aD (by omega)]
   ·rw[aD h1];exact key s b hs
theorem xx{s:List Bd}{b:Bd}(h:fC s)(hs:∀c∈s,c.y1<=b.y0)(hb:kb b.xs)(he:b.xs.length % 2=0):fC (jS s b):=by
 unfold jS
 by_cases h0:b.xs= []\/b.y1<=b.y0
 ·rw[aC h0];exact h
 ·rw[aD h0];have hbg:b.y0<b.y1/\b.xs≠[]/\kb b.xs/\b.xs.length % 2=0:=⟨by omega,λe=>h0<|.inl e,hb,he⟩
  cases hl:s.getLast? with
  |none=>exact⟨λc hc=>by simp at hc;subst hc;exact hbg,List.pairwise_singleton _ _⟩
  |some c=>
   dsimp only;have hsp:=sN hl;have hcm:c∈s:=by rw[hsp];simp
   have hc:=h.each c hcm;have hord:=h.ord;rw[hsp,nL]at hord
   by_cases h1:c.y1=b.y0/\c.xs=b.xs
   ·rw[aC h1];refine⟨λd hd=>?_,?_⟩
    ·rcases dS.1 hd with hd|hd
     ·exact h.each d<|List.dropLast_subset _ hd
     ·simp at hd;subst hd;exact⟨by show c.y0<b.y1;omega,hc.2⟩
    ·rw[nL];refine⟨hord.1,List.pairwise_singleton _ _,λd hd e he=>?_⟩;simp at he;subst he;exact hord.2.2 d hd c (by simp)
   ·rw[aD h1];refine⟨λd hd=>?_,?_⟩
    ·rcases dS.1 hd with hd|hd
     ·exact h.each d hd
     ·simp at hd;subst hd;exact hbg
    ·rw[nL];refine⟨h.ord,List.pairwise_singleton _ _,λd hd e he=>?_⟩;simp at he;subst he;refine⟨hs d hd,λe1 e2=>?_⟩;rw[hsp]at hd
     rcases dS.1 hd with hd|hd
     ·have h2:=(hord.2.2 d hd c (by simp)).1;have:=hs c hcm;omega
     ·simp at hd;subst hd;exact h1 ⟨e1,e2⟩
theorem xy{s:List Bd}{b:Bd}(hs:∀c∈s,c.y1<=b.y0)(hb:b.y0<=b.y1):∀c∈jS s b,c.y1<=b.y1:=by
 intro c hc;unfold jS at hc;split at hc
 ·have:=hs c hc;omega
 ·split at hc
  ·split at hc
   ·rcases dS.1 hc with hc|hc
    ·have:=hs c<|List.dropLast_subset _ hc;omega
    ·simp at hc;subst hc;exact Int.le_refl _
   ·rcases dS.1 hc with hc|hc
    ·have:=hs c hc;omega
    ·simp at hc;subst hc;exact Int.le_refl _
  ·simp at hc;subst hc;exact Int.le_refl _
section
variable {N:Nat}
def cG(b:aA):Bd:=⟨b.Y0,b.Y1,b.Xs⟩
def small(a:Int):Prop:= -1099511627776<=a/\a<=1099511627776
structure D0 (r:aI):Prop where
 x:r.X0<r.X1
 y:r.Y0<r.Y1
 s1:small r.X0
 s2:small r.X1
 s3:small r.Y0
 s4:small r.Y1
def HD(l:List aI)(x:Int):Bool:=l.any<|λr=>decide (r.X0<=x)&&decide (x<r.X1)
def vW(l:List aI)(x y:Int):Bool:=l.any<|λr=>(decide (r.X0<=x)&&decide (x<r.X1))&&(decide (r.Y0<=y)&&decide (y<r.Y1))
theorem CA{l:List aI}{x:Int}:HD l x=true↔∃r∈l,r.X0<=x/\x<r.X1:=by unfold HD;simp[kg]
theorem jE{l:List aI}{x y:Int}:vW l x y=true↔∃r∈l,(r.X0<=x/\x<r.X1)/\r.Y0<=y/\y<r.Y1:=by unfold vW;simp[kg]
theorem wrap_small{a b:Int}(ha:small a)(hb:small b):wrap .i64 (a - b)=a - b:=by unfold small at *;exact eY (by omega) (by omega)
theorem CB{n:Nat}(h:0<n)(hn:n<=4611686018427387904):wrap .i64 (((n:Nat):Int) - 1)=((n - 1:Nat):Int):=gC h hn
structure Sj (out:List Int) (m:List aI) (k:Nat):Prop where
 row:(k=0/\out= [])\/∃A s e,out=A++[s,e]/\kb A/\(∀c∈A,c<s)/\A.length % 2=0/\s<e/\∃j r,j<k/\m[j]? =some r/\s=r.X0
 pO:∀x,pO out x=HD (m.take k) x
 len:out.length<=2*k
 mem:∀c∈out,∃r∈m,c=r.X0\/c=r.X1
theorem AE(l:List aI)(r:aI)(x:Int):HD (l++[r]) x=(HD l x||(decide (r.X0<=x)&&decide (x<r.X1))):=by unfold HD;rw[List.any_append];simp
theorem EX{l:List aI}(hl:l.length<=268435456)(hok:∀r∈l,D0 r):∃row l',jY N l=some (row,l')/\l'.Perm l/\kb row/\row.length % 2=0/\(∀x,pO row x=HD l x)/\row.length<=2*l.length/\∀c∈row,∃r∈l,c=r.X0\/c=r.X1:=by
 unfold jY
 obtain⟨m,h1,h2,h3⟩:=Cu (φ:=iA N) (l:=l) (λa b=>a.X0 - b.X0) (λa ha b hb=>by
  unfold iA;rw[wrap_small (hok a ha).s1 (hok b hb).s1]) (λa _=>by omega) (λa _ b _ c _ h1 h2=>by omega) (λa _ b _ c _ h1 h2=>by omega) (by omega)
 have hml:m.length=l.length:=h2.length_eq;have hmok:∀r∈m,D0 r:=λr hr=>hok r<|h2.subset hr
 rw[h1,aB];obtain⟨out,a1,a2⟩:=BU (m:=m.length) (s:=([]:List Int)) (body:=λ(k32:Nat)(s33:List Int)=>((idx m (k32:Int)).bind λx79=>(bif decide (wrap .i64 ((s33.length:Int) - 1)>=0)then((idx s33<|wrap .i64<|(s33.length:Int) - 1).bind λx86=>some<|decide<|x79.X0<=x86)else some false).bind λs84=>(bif s84 then((idx s33<|wrap .i64<|(s33.length:Int) - 1).bind λx94=>(idx s33<|wrap .i64<|(s33.length:Int) - 1).bind λx95=>some<|s33.set (Int.toNat<|wrap .i64<|(s33.length:Int) - 1) (if x94<x79.X1 then x79.X1 else x94))else((app 8 s33 ([x79.X0,x79.X1]:List Int)).bind λx97=>some x97)).bind λs92=>some s92:Option (List Int)))
  (λk out=>Sj out m k) (by omega) ⟨.inl ⟨rfl,rfl⟩,λx=>rfl,by simp,λc hc=>by cases hc⟩ (λk out hk⟨i1,i2,i3,i4⟩=>by
   have hx:m[k]? =some m[k]:=aS hk;have hr:=hmok _<|dH hk
   rw[eD hx,aB];have hts:m.take (k+1)=m.take k++[m[k]]:=fJ hk
   rcases i1 with⟨rfl,rfl⟩|⟨A,s,e,rfl,hA,hAs,hAe,hse,j,r,hj,hjr,hsr⟩
   ·rw[show decide (wrap .i64 (((([]:List Int).length:Nat):Int) - 1)>=0)=false by decide,aT,aB,aT,lq (by simp),aB,aB];refine⟨_,rfl, .inr ⟨[],_,_,rfl,kO,λc hc=>by simp at hc,rfl,hr.x,0,m[0],by omega,hx,rfl⟩,λx=>?_,by simp,λc hc=>⟨m[0],dH hk,by simpa using hc⟩⟩;rw[hts,AE,<-i2 x];exact zK (l:=[]) (λc hc=>by simp at hc) rfl hr.x x
   ·have hlen:(A++[s,e]).length=A.length+2:=by simp
    have hwp:wrap .i64 ((((A++[s,e]).length:Nat):Int) - 1)=((A.length+1:Nat):Int):=by rw[CB (by omega) (by omega),hlen];rfl
    have hlast:(A++[s,e])[A.length+1]? =some e:=by rw[hU (by omega)];simp
    have hs:s<=m[k].X0:=by
     have:=mT.1 h3 j k (by have:=(bE.1 hjr).1;omega) hk hj;rw[hsr,<-(bE.1 hjr).2];omega
    rw[hwp,bM (by omega),aQ,eD hlast,aB,aB]
    by_cases hc:m[k].X0<=e
    ·rw[bM hc,aQ,aB,aB,aB,cN];have nM:(A++[s,e]).set (A.length+1) (if e<m[k].X1 then m[k].X1 else e)=A++[s,max e m[k].X1]:=by
      rw[List.set_append_right _ _ (by omega)];have:A.length+1 - A.length=1:=by omega
      rw[this,Int.max_def];simp only[List.set_cons_succ,List.set_cons_zero];congr 2;split <;> split <;> simp <;> omega
     rw[nM]
     refine⟨_,rfl, .inr ⟨A,s,_,rfl,hA,hAs,hAe,by omega,j,r,by omega,hjr,hsr⟩,λx=>?_,by simp at i3 ⊢;omega,λc hc=>by
      rcases dS.1 hc with h|h
      ·exact i4 c<|List.mem_append_left _ h
      ·simp at h
       rcases h with h|h
       ·exact i4 c (by simp[h])
       ·rw[Int.max_def]at h;split at h
        ·exact⟨_,dH hk, .inr h⟩
        ·exact i4 c (by simp[h])⟩
     rw[hts,AE,<-i2 x];exact KX hAs hAe hse hs hc hr.x x
    ·rw[bP hc,aT,lq (by rw[hlen];simp;omega),aB,aB];have hall:∀c∈A++[s,e],c<m[k].X0:=λc hc'=>by
      rcases dS.1 hc' with h|h
      ·have:=hAs c h;omega
      ·simp at h;omega
     refine⟨_,rfl, .inr ⟨A++[s,e],_,_,rfl,hA.snoc hAs hse,hall,by rw[hlen];omega,hr.x,k,m[k],by omega,hx,rfl⟩,λx=>?_,by simp at i3 ⊢;omega,λc hc=>by
      rcases dS.1 hc with h|h
      ·exact i4 c h
      ·exact⟨m[k],dH hk,by simpa using h⟩⟩
     rw[hts,AE,<-i2 x]
     exact zK hall (by rw[hlen];omega) hr.x x)
 rw[a1,aB];refine⟨out,m,rfl,h2,?_,?_,λx=>?_,by rw[<-hml];exact a2.len,λc hc=>by obtain⟨r,hr,h⟩:=a2.mem c hc;exact⟨r,h2.subset hr,h⟩⟩
 ·rcases a2.row with⟨_,h⟩|⟨A,s,e,rfl,hA,hAs,hAe,hse,_⟩
  ·rw[h];exact kO
  ·exact hA.snoc hAs hse
 ·rcases a2.row with⟨_,h⟩|⟨A,s,e,rfl,hA,hAs,hAe,hse,_⟩
  ·rw[h];rfl
  ·simp;omega
 ·rw[a2.pO x,gj,eN,CA,CA];constructor
  ·rintro⟨r,hr,h⟩;exact⟨r,h2.subset hr,h⟩
  ·rintro⟨r,hr,h⟩;exact⟨r,h2.symm.subset hr,h⟩
theorem JB{l m:List Int}(hl:l.length<=4611686018427387904):nO N l m=some (decide<|l=m):=Aw hl
theorem ID{s:List aA}{b:aA}(hs:s.length<=1048576000)(hx:∀c∈s,c.Xs.length<=1048576000):∃s',jG N s b=some s'/\s'.map cG=jS (s.map cG) (cG b):=by
 unfold jG jS
 by_cases h0:b.Xs= []\/b.Y1<=b.Y0
 ·have e:((((b.Xs.length:Nat):Int)==0)||decide (b.Y1<=b.Y0))=true:=by
   rw[dP]
   rcases h0 with h|h
   ·left;rw[h];rfl
   ·right;exact bM h
  rw[e,aQ,aC (show(cG b).xs= []\/(cG b).y1<=(cG b).y0 from h0)];exact⟨s,rfl,rfl⟩
 ·have e:((((b.Xs.length:Nat):Int)==0)||decide (b.Y1<=b.Y0))=false:=by
   rw[Bool.or_eq_false_iff];constructor
   ·rw[beq_eq_false_iff_ne];intro h;exact h0<|.inl<|List.eq_nil_of_length_eq_zero (by omega)
   ·exact bP λh=>h0<|.inr h
  rw[e,aT,aD (show ¬((cG b).xs= []\/(cG b).y1<=(cG b).y0)from h0)]
  rcases List.eq_nil_or_concat s with rfl|⟨A,c,hA⟩
  ·rw[show decide (wrap .i64 (((([]:List aA).length:Nat):Int) - 1)>=0)=false by decide,aT,aB,aT,lq (by simp),aB];exact⟨_,rfl,rfl⟩
  ·rw[List.concat_eq_append]at hA;subst hA;have hlen:(A++[c]).length=A.length+1:=by simp
   have hwp:wrap .i64 ((((A++[c]).length:Nat):Int) - 1)=((A.length:Nat):Int):=by rw[CB (by omega) (by omega),hlen];rfl
   have hlast:(A++[c])[A.length]? =some c:=by simp
   rw[hwp,bM (by omega),aQ,eD hlast,aB,aB,JB (by have:=hx c (by simp);omega),aB,aB,cN,lq (by rw[hlen];simp;omega),aB];have hl2:((A++[c]).map cG).getLast? =some (cG c):=by simp
   have hd2:((A++[c]).map cG).dropLast=A.map cG:=by simp
   rw[hl2,hd2];dsimp only
   by_cases h1:c.Y1=b.Y0/\c.Xs=b.Xs
   ·rw[aC (show(cG c).y1=(cG b).y0/\(cG c).xs=(cG b).xs from h1),show(c.Y1==b.Y0)=true by rw[h1.1];simp,aQ,bM h1.2,aB,aQ];refine⟨_,rfl,?_⟩;rw[List.set_append_right _ _<|bV _,Nat.sub_self];simp[cG]
   ·rw[aD (show ¬((cG c).y1=(cG b).y0/\(cG c).xs=(cG b).xs)from h1)];have e2:(bif c.Y1==b.Y0 then some (decide<|c.Xs=b.Xs)else some false)=some false:=by
     by_cases h2:c.Y1=b.Y0
     ·rw[show(c.Y1==b.Y0)=true by rw[h2];simp,aQ,bP<|λh=>h1 ⟨h2,h⟩]
     ·rw[show(c.Y1==b.Y0)=false by simpa using h2,aT]
    rw[e2,aB,aT];exact⟨_,rfl,by simp⟩
end
def dM(l:List (Int×Int)):List Int:=l.flatMap λs=>[s.1,s.2]
def jA(l:List (Int×Int))(x:Int):Bool:=l.any λs=>decide (s.1<=x)&&decide (x<s.2)
theorem jB(s:Int×Int)(l:List (Int×Int)):dM (s::l)=s.1::s.2::dM l:=rfl
theorem vg(l m:List (Int×Int)):dM (l++m)=dM l++dM m:=List.flatMap_append
theorem kA(l:List (Int×Int)):(dM l).length=2*l.length:=by
 induction l with
 |nil=>rfl
 |cons s l ih=>rw[jB,eM,eM,eM,ih];omega
theorem D1(s:Int×Int)(l:List (Int×Int))(x:Int):jA (s::l) x=((decide (s.1<=x)&&decide (x<s.2))||jA l x):=rfl
theorem A9(l m:List (Int×Int))(x:Int):jA (l++m) x=(jA l x||jA m x):=List.any_append
theorem ux{l:List (Int×Int)}{x:Int}:jA l x=true↔∃s∈l,s.1<=x/\x<s.2:=by
 unfold jA;simp
theorem JC{a b:Int}{m:List Int}(h:kb (a::b::m))(x:Int):pO (a::b::m) x=((decide (a<=x)&&decide (x<b))||pO m x):=by
 have hab:a<b:=h.head b (by simp);have hm:=h.tail.head;rw[eN,dP,cD,bK,bK,zH,zH,oD,oD]
 by_cases h1:a<=x
 ·rw[aC h1]
  by_cases h2:b<=x
  ·rw[aC h2];omega
  ·rw[aD h2,Cw (λc hc=>by have:=hm c hc;omega)];omega
 ·rw[aD h1,aD (by omega)];omega
theorem uy:∀{l:List (Int×Int)},kb (dM l)->∀x,pO (dM l) x=jA l x
 | [],_,x=>rfl
 |s::l,h,x=>by
  rw[jB]at h ⊢;rw[JC h,D1,uy h.tail.tail]
theorem D2:∀{l m:List (Int×Int)},dM l=dM m->l=m
 | [],[],_=>rfl
 | [],s::m,h=>by cases h
 |s::l,[],h=>by cases h
 |(a,b)::l,(c,d)::m,h=>by
  rw[jB,jB]at h;injection h with h1 h2
  injection h2 with h2 h3
  simp only at h1 h2;rw[h1,h2,D2 h3]
theorem AF{l:List (Int×Int)}{c:Int}(h:c∈dM l):∃s∈l,c=s.1\/c=s.2:=by
 obtain⟨s,hs,hc⟩:=List.mem_flatMap.1 h;exact⟨s,hs,by simpa using hc⟩
theorem wN{l:List (Int×Int)}(h:kb (dM l)):∀s∈l,s.1<s.2:=by
 induction l with
 |nil=>intro s hs;cases hs
 |cons a l ih=>
  rw[jB]at h;intro s hs
  rcases dO.1 hs with rfl|hs
  ·exact h.head _ (by simp)
  ·exact ih h.tail.tail s hs
theorem uz{l m:List (Int×Int)}:kb (dM<|l++m)↔kb (dM l)/\kb (dM m)/\∀s∈l,∀t∈m,s.2<t.1:=by
 rw[vg];unfold kb;rw[nL];constructor
 ·rintro⟨h1,h2,h3⟩;exact⟨h1,h2,λs hs t ht=>h3 s.2 (List.mem_flatMap.2 ⟨s,hs,by simp⟩) t.1<|List.mem_flatMap.2 ⟨t,ht,by simp⟩⟩
 ·rintro⟨h1,h2,h3⟩;refine⟨h1,h2,λa ha b hb=>?_⟩;obtain⟨s,hs,ha⟩:=AF ha;obtain⟨t,ht,hb⟩:=AF hb;have h4:=h3 s hs t ht;have h5:=wN (l:=l) h1 s hs;have h6:=wN (l:=m) h2 t ht
  rcases ha with rfl|rfl <;> rcases hb with rfl|rfl <;> omega
def kX(s:Int×Int):List (Int×Int)->(Int×Int)×List (Int×Int)
 | []=>(s,[])
 |a::l=>if a.1<=s.2 then kX (min s.1 a.1,max s.2 a.2) l else(s,a::l)
def mg(l:List (Int×Int))(s:Int×Int):List (Int×Int):=
 l.takeWhile (λa=>decide<|a.2<s.1)++(kX s<|l.dropWhile λa=>decide<|a.2<s.1).1::(kX s<|l.dropWhile λa=>decide<|a.2<s.1).2
theorem Ba:∀(l:List (Int×Int))(s:Int×Int),s.1<s.2->kb (dM l)->(∀a∈l,s.1<=a.2)->
  (kX s l).1.1<(kX s l).1.2/\((kX s l).1.1=s.1\/∃a∈l,(kX s l).1.1=a.1)/\kb (dM (kX s l).2)/\(∀t∈(kX s l).2,(kX s l).1.2<t.1)/\
  ∀x,jA ((kX s l).1::(kX s l).2) x=((decide (s.1<=x)&&decide (x<s.2))||jA l x)
 | [],s,h,_,_=>⟨h, .inl rfl,kO,λt(ht:t∈([]:List (Int×Int)))=>(by cases ht),λx=>rfl⟩
 |a::l,s,h,hi,hs=>by
  have hsp:=wN hi;have ha:=hsp a (by simp);have hi':=hi;rw[jB]at hi';have hsa:=hs a (by simp);unfold kX
  by_cases hc:a.1<=s.2
  ·rw[aC hc];have hlt:(min s.1 a.1,max s.2 a.2).1<(min s.1 a.1,max s.2 a.2).2:=by dsimp only;omega
   obtain⟨h1,h2,h3,h4,h5⟩:=Ba l (min s.1 a.1,max s.2 a.2) hlt hi'.tail.tail (λb hb=>by
    have:=(uz (l:=[a]) (m:=l)).1 hi;have h6:=this.2.2 a (by simp) b hb;have h7:=hsp b<|iv _ hb
    dsimp only;omega)
   refine⟨h1,?_,h3,h4,λx=>?_⟩
   ·rcases h2 with h2|⟨b,hb,h2⟩
    ·rw[h2]
     rcases Int.le_total s.1 a.1 with h6|h6
     ·exact .inl (by simp only;omega)
     ·exact .inr ⟨a,by simp,by simp only;omega⟩
    ·exact .inr ⟨b,iv _ hb,h2⟩
   ·rw[h5,D1,<-Bool.or_assoc];congr 1;clear h1 h2 h3 h4 h5;rw[eN];simp only[dP,cD,bK];constructor
    ·intro h6
     by_cases h7:s.1<=x/\x<s.2
     ·exact .inl h7
     ·exact .inr (by omega)
    ·rintro(h6|h6) <;> omega
  ·rw[aD hc];refine⟨h, .inl rfl,hi,λt ht=>?_,λx=>rfl⟩;show s.2<t.1
   rcases dO.1 ht with rfl|ht
   ·omega
   ·have:=((uz (l:=[a]) (m:=l)).1 hi).2.2 a (by simp) t ht;omega
theorem EY{l:List (Int×Int)}{c:Int}(h:kb (dM l)):∀a∈l.dropWhile (λa=>decide<|a.2<c),c<=a.2:=by
 induction l with
 |nil=>intro a ha;cases ha
 |cons b l ih=>
  have h':=h;rw[jB]at h';rw[List.dropWhile_cons]
  by_cases hb:b.2<c
  ·rw[aC (by simpa using hb)];exact ih h'.tail.tail
  ·rw[aD (by simpa using hb)];intro a ha
   rcases dO.1 ha with rfl|ha
   ·omega
   ·have h1:=((uz (l:=[b]) (m:=l)).1 h).2.2 b (by simp) a ha;have h2:=wN h a<|iv _ ha
    omega
theorem EZ(l:List (Int×Int))(c:Int):∀a∈l.takeWhile (λa=>decide<|a.2<c),a.2<c:=by
 induction l with
 |nil=>intro a ha;cases ha
 |cons b l ih=>
  rw[List.takeWhile_cons]
  by_cases hb:b.2<c
  ·rw[aC (by simpa using hb)];intro a ha
   rcases dO.1 ha with rfl|ha
   ·exact hb
   ·exact ih a ha
  ·rw[aD (by simpa using hb)];intro a ha;cases ha
theorem zL{l:List (Int×Int)}{s:Int×Int}(h:kb (dM l))(hs:s.1<s.2):
  kb (dM<|mg l s)/\∀x,jA (mg l s) x=((decide (s.1<=x)&&decide (x<s.2))||jA l x):=by
 have hsplit:=h;rw[<-List.takeWhile_append_dropWhile (p:=λa:Int×Int=>decide<|a.2<s.1) (l:=l),uz]at hsplit;obtain⟨h1,h2,h3⟩:=hsplit;obtain⟨m1,m2,m3,m4,m5⟩:=Ba (l.dropWhile λa=>decide<|a.2<s.1) s hs h2<|EY h
 unfold mg;refine⟨uz.2 ⟨h1,?_,λa ha t ht=>?_⟩,λx=>?_⟩
 ·rw[jB];have h4:∀c∈dM (kX s<|l.dropWhile λa=>decide<|a.2<s.1).2,(kX s<|l.dropWhile λa=>decide<|a.2<s.1).1.2<c:=λc hc=>by
   obtain⟨t,ht,hc⟩:=AF hc;have:=m4 t ht;have:=wN m3 t ht
   rcases hc with rfl|rfl <;> omega
  exact oI.2 ⟨λc hc=>by
   rcases dO.1 hc with rfl|hc
   ·exact m1
   ·have:=h4 c hc;omega,oI.2 ⟨h4,m3⟩⟩
 ·have ha1:=EZ l s.1 a ha
  rcases dO.1 ht with rfl|ht
  ·rcases m2 with m2|⟨b,hb,m2⟩
   ·rw[m2];exact ha1
   ·rw[m2];exact h3 a ha b hb
  ·have h5:=m4 t ht
   rcases m2 with m2|⟨b,hb,m2⟩
   ·rw[m2]at m1;omega
   ·have:=h3 a ha b hb;rw[m2]at m1;omega
 ·rw[A9,m5]
  conv=>rhs;rw[<-List.takeWhile_append_dropWhile (p:=λa:Int×Int=>decide<|a.2<s.1) (l:=l),A9]
  rw[Bool.or_left_comm]
def kM:List Int->List (Int×Int)
 |a::b::l=>(a,b)::kM (b::l)
 |_=>[]
theorem r8:∀{xs:List Int},kb xs->∀s∈kM xs,s.1∈xs/\s.2∈xs/\s.1<s.2/\∀c∈xs,c<=s.1\/s.2<=c
 | [],_,s,hs=>by cases hs
 | [a],_,s,hs=>by cases hs
 |a::b::l,h,s,hs=>by
  have hab:=h.head b (by simp)
  rcases dO.1 hs with rfl|hs
  ·refine⟨by simp,by simp,hab,λc hc=>?_⟩
   rcases dO.1 hc with rfl|hc
   ·exact .inl<|Int.le_refl _
   ·rcases dO.1 hc with rfl|hc
    ·exact .inr<|Int.le_refl _
    ·exact .inr (by have:=h.tail.head c hc;show b<=c;omega)
  ·obtain⟨h1,h2,h3,h4⟩:=r8 h.tail s hs;refine⟨iv _ h1,iv _ h2,h3,λc hc=>?_⟩
   rcases dO.1 hc with rfl|hc
   ·exact .inl (by have:=h.head s.1 h1;omega)
   ·exact h4 c hc
theorem yH:∀{xs:List Int},kb xs->∀x,(∃s∈kM xs,s.1<=x/\x<s.2)\/(∀c∈xs,x<c)\/(∀c∈xs,c<=x)
 | [],_,x=> .inr (.inl λc hc=>by cases hc)
 | [a],_,x=>by
  by_cases h:x<a
  ·exact .inr (.inl λc hc=>by simp at hc;omega)
  ·exact .inr (.inr λc hc=>by simp at hc;omega)
 |a::b::l,h,x=>by
  have hab:=h.head b (by simp)
  rcases yH h.tail x with⟨s,hs,h1⟩|h1|h1
  ·exact .inl ⟨s,iv _ hs,h1⟩
  ·by_cases h2:x<a
   ·exact .inr (.inl λc hc=>by
     rcases dO.1 hc with rfl|hc
     ·exact h2
     ·exact h1 c hc)
   ·exact .inl ⟨(a,b),by simp[kM],by show a<=x;omega,h1 b (by simp)⟩
  ·exact .inr (.inr λc hc=>by
    rcases dO.1 hc with rfl|hc
    ·have:=h1 b (by simp);omega
    ·exact h1 c hc)
def Ends(a:List (Int×Int))(xs:List Int):Prop:=∀s∈a,s.1∈xs/\s.2∈xs
theorem BV{a:List (Int×Int)}{xs:List Int}(he:Ends a xs)(hx:kb xs){s:Int×Int}(hs:s∈kM xs){x:Int}(h1:s.1<=x)(h2:x<s.2):jA a x=jA a s.1:=by
 obtain⟨_,_,h3,h4⟩:=r8 hx s hs;rw[eN,ux,ux];constructor
 ·rintro⟨t,ht,h5,h6⟩;have:=h4 _ (he t ht).1;exact⟨t,ht,by omega,by omega⟩
 ·rintro⟨t,ht,h5,h6⟩;have:=h4 _ (he t ht).2;exact⟨t,ht,by omega,by omega⟩
theorem IE{a:List (Int×Int)}{xs:List Int}(he:Ends a xs){x:Int}(h:(∀c∈xs,x<c)\/(∀c∈xs,c<=x)):jA a x=false:=by
 rw[<-lF,ux];rintro⟨t,ht,h5,h6⟩;obtain⟨e1,e2⟩:=he t ht
 rcases h with h|h
 ·have:=h _ e1;omega
 ·have:=h _ e2;omega
def mP(hQ:Bool->Bool->Bool)(a b:List (Int×Int))(ss:List (Int×Int))(out:List (Int×Int)):List (Int×Int):=
 ss.foldl (λout s=>if hQ (jA a s.1) (jA b s.1)=true then mg out s else out) out
theorem wO(hQ:Bool->Bool->Bool)(a b:List (Int×Int)):∀(ss out:List (Int×Int)),kb (dM out)->(∀s∈ss,s.1<s.2)->
  kb (dM<|mP hQ a b ss out)/\∀x,jA (mP hQ a b ss out) x=(jA out x||ss.any λs=>hQ (jA a s.1) (jA b s.1)&&(decide (s.1<=x)&&decide (x<s.2)))
 | [],out,h,_=>⟨h,λx=>by simp[mP]⟩
 |s::ss,out,h,hs=>by
  have h0:=hs s (by simp);unfold mP;rw[List.foldl_cons]
  by_cases hk:hQ (jA a s.1) (jA b s.1)=true
  ·rw[aC hk];obtain⟨j1,j2⟩:=zL h h0;obtain⟨m1,m2⟩:=wO hQ a b ss (mg out s) j1<|λt ht=>hs t<|iv _ ht
   refine⟨m1,λx=>?_⟩;rw[show jA (List.foldl _ (mg out s) ss) x=_ from m2 x,j2,List.any_cons,hk,Bool.true_and]
   cases jA out x <;> simp
  ·rw[aD hk];obtain⟨m1,m2⟩:=wO hQ a b ss out h<|λt ht=>hs t<|iv _ ht
   refine⟨m1,λx=>?_⟩;rw[show jA (List.foldl _ out ss) x=_ from m2 x,List.any_cons,eq_false_of_ne_true hk,Bool.false_and,Bool.false_or]
theorem GB{hQ:Bool->Bool->Bool}(hk:hQ false false=false){a b:List (Int×Int)}{xs:List Int}(hx:kb xs)(ha:Ends a xs)(hb:Ends b xs):
  kb (dM<|mP hQ a b (kM xs) [])/\∀x,jA (mP hQ a b (kM xs) []) x=hQ (jA a x) (jA b x):=by
 obtain⟨m1,m2⟩:=wO hQ a b (kM xs) [] kO<|λs hs=>(r8 hx s hs).2.2.1
 refine⟨m1,λx=>?_⟩;rw[m2,show jA [] x=false from rfl,Bool.false_or]
 rcases yH hx x with⟨s,hs,h1,h2⟩|h
 ·rw[eN,kg];constructor
  ·rintro⟨t,ht,h3⟩;rw[cD,cD,bK,bK]at h3;rw[BV ha hx ht h3.2.1 h3.2.2,BV hb hx ht h3.2.1 h3.2.2];exact h3.1
  ·intro h3;rw[BV ha hx hs h1 h2,BV hb hx hs h1 h2]at h3;exact⟨s,hs,by rw[h3,bM h1,bM h2];rfl⟩
 ·rw[IE ha h,IE hb h,hk,<-lF,kg];rintro⟨t,ht,h3⟩;rw[cD,cD,bK,bK]at h3;obtain⟨e1,e2,_⟩:=r8 hx t ht
  rcases h with h|h
  ·have:=h _ e1;omega
  ·have:=h _ e2;omega
def mQ(f:Int->List Int)(ss:List (Int×Int))(out:List Bd):List Bd:=ss.foldl (λout s=>jS out ⟨s.1,s.2,f s.1⟩) out
theorem Bb(f:Int->List Int)(hf:∀y,kb (f y)/\(f y).length % 2=0):∀(ys:List Int)(out:List Bd),kb ys->fC out->(∀c∈out,∀y∈ys,c.y1<=y)->
  fC (mQ f (kM ys) out)/\∀y,rowAt (mQ f (kM ys) out) y=match(kM ys).find? (λs=>decide (s.1<=y)&&decide (y<s.2))with|some s=>f s.1|none=>rowAt out y
 | [],out,_,h,_=>⟨h,λy=>rfl⟩
 | [a],out,_,h,_=>⟨h,λy=>rfl⟩
 |a::b::l,out,hi,h,ho=>by
  have hab:=hi.head b (by simp);have ho1:∀c∈out,c.y1<=(⟨a,b,f a⟩:Bd).y0:=λc hc=>ho c hc a (by simp);have hc:=xx (b:=⟨a,b,f a⟩) h ho1 (hf a).1 (hf a).2;have htop:=xy (b:=⟨a,b,f a⟩) ho1 (by show a<=b;omega)
  obtain⟨m1,m2⟩:=Bb f hf (b::l) (jS out ⟨a,b,f a⟩) hi.tail hc (λc hc' y hy=>by
   have h1:=htop c hc';have h2:b<=y:=by
    rcases dO.1 hy with rfl|hy
    ·exact Int.le_refl _
    ·have:=hi.tail.head y hy;omega
   have h3:c.y1<=b:=h1
   omega)
  refine⟨m1,λy=>?_⟩;show rowAt (mQ f (kM<|b::l)<|jS out ⟨a,b,f a⟩) y=_;rw[m2 y,show kM (a::b::l)=(a,b)::kM (b::l)from rfl,List.find?_cons];have hrow:=xw (s:=out) (b:=⟨a,b,f a⟩) ho1 (λc hc=>(h.each c hc).1) (λh=>absurd h (by show ¬b<=a;omega)) y
  by_cases hy:a<=y/\y<b
  ·have e:(decide (a<=y)&&decide (y<b))=true:=by rw[bM hy.1,bM hy.2];rfl
   have hn:(kM<|b::l).find? (λs=>decide (s.1<=y)&&decide (y<s.2))=none:=by
    rw[List.find?_eq_none];intro s hs;have:=(r8 hi.tail s hs).1;have h5:b<=s.1:=by
     rcases dO.1 this with h6|h6
     ·omega
     ·have:=hi.tail.head _ h6;omega
    simp;omega
   rw[hn];show rowAt (jS out ⟨a,b,f a⟩) y=_;rw[hrow,aC hy,e]
  ·have e:(decide (a<=y)&&decide (y<b))=false:=by
    rw[Bool.and_eq_false_iff,decide_eq_false_iff_not,decide_eq_false_iff_not];omega
   rw[e]
   cases(kM<|b::l).find? (λs=>decide (s.1<=y)&&decide (y<s.2))with
   |some s=>rfl
   |none=>
    show rowAt (jS out ⟨a,b,f a⟩) y=rowAt out y;rw[hrow,aD hy]
theorem Bc{f:Int->List Int}(hf:∀y,kb (f y)/\(f y).length % 2=0){ys:List Int}(hy:kb ys)(h1:∀s∈kM ys,∀y,s.1<=y->y<s.2->f y=f s.1)(h2:∀y,((∀c∈ys,y<c)\/(∀c∈ys,c<=y))->f y= []):
  fC (mQ f (kM ys) [])/\∀y,rowAt (mQ f (kM ys) []) y=f y:=by
 obtain⟨m1,m2⟩:=Bb f hf ys [] hy fC.nil (λc hc=>by cases hc);refine⟨m1,λy=>?_⟩;rw[m2 y]
 cases OT:(kM ys).find? (λs=>decide (s.1<=y)&&decide (y<s.2))with
 |some s=>
  have h3:=List.find?_some OT;rw[cD,bK,bK]at h3;exact(h1 s (List.mem_of_find?_eq_some OT) y h3.1 h3.2).symm
 |none=>
  show rowAt [] y=f y
  rcases yH hy y with⟨s,hs,h3,h4⟩|h3
  ·have:=List.find?_eq_none.1 OT s hs;rw[bM h3,bM h4]at this;exact absurd rfl this
  ·rw[h2 y h3];rfl
def Ok{β:Type}(o:Option β)(P:β->Prop):Prop:=∃r,o=some r/\P r
section
variable {α β S R:Type}{P:α->Prop}{Q:β->Prop}
theorem S9{x:β}(h:Q x):Ok (some x) Q:=⟨x,rfl,h⟩
theorem VL{o:Option β}{x:β}(h:o=some x)(hq:Q x):Ok o Q:=⟨x,h,hq⟩
theorem Ok.mono{o:Option α}{P':α->Prop}(h:Ok o P)(k:∀x,P x->P' x):Ok o P':=by obtain⟨x,h1,h2⟩:=h;exact⟨x,h1,k x h2⟩
theorem Td{o:Option α}{f:α->Option β}(h:Ok o P)(k:∀x,P x->Ok (f x) Q):Ok (o.bind f) Q:=by
 obtain⟨x,h1,h2⟩:=h;rw[h1];exact k x h2
theorem SZ{o:Option α}{f:α->Option β}{x:α}(h:o=some x)(k:Ok (f x) Q):Ok (o.bind f) Q:=by rw[h];exact k
theorem Ty{b:Bool}{x y:Option β}(ht:b=true->Ok x Q)(hf:b=false->Ok y Q):Ok (bif b then x else y) Q:=by
 cases b with
 |true=>exact ht rfl
 |false=>exact hf rfl
theorem T3{o:Option β}{x:β}(h:Ok o (λr=>r=x)):o=some x:=by obtain⟨r,h1,h2⟩:=h;rw[h1,h2]
def QK(Go:S->Prop)(Rt:R->Prop):Fo S R->Prop| .go s=>Go s| .rt r=>Rt r
def LF(Nx Br:S->Prop)(Rt:R->Prop):Fl S R->Prop| .nx s=>Nx s| .br s=>Br s| .rt r=>Rt r
theorem Tv{Nx Br:S->Prop}{Rt:R->Prop}{s:S}(h:Nx s):Ok (some<|Fl.nx s) (LF Nx Br Rt):=⟨_,rfl,h⟩
theorem TE{Nx Br:S->Prop}{Rt:R->Prop}{s:S}(h:Br s):Ok (some<|Fl.br s) (LF Nx Br Rt):=⟨_,rfl,h⟩
theorem T8{Nx Br:S->Prop}{Rt:R->Prop}{r:R}(h:Rt r):Ok (some (Fl.rt r:Fl S R)) (LF Nx Br Rt):=⟨_,rfl,h⟩
theorem TG{Go:S->Prop}{Rt:R->Prop}{o:Fo S R}{f:S->Option β}{g:R->Option β}(h:QK Go Rt o)(hf:∀s,Go s->Ok (f s) Q)(hg:∀r,Rt r->Ok (g r) Q):Ok (o.cs f g) Q:=by
 cases o with
 |go s=>exact hf s h
 |rt r=>exact hg r h
theorem T6{body:Nat->S->Option S}{m:Nat}{s:S}(Inv:Nat->S->Prop)(hm:m<=4611686018427387904)(h0:Inv 0 s)(h:∀k s,k<m->Inv k s->Ok (body k s) (Inv<|k+1)):Ok (mB m body s) (Inv m):=
 BU Inv hm h0 h
theorem UZ{body:Nat->S->Option (Fl S R)}{m:Nat}{s:S}(Inv:Nat->S->Prop){Go:S->Prop}{Rt:R->Prop}(hm:m<=4611686018427387904)(h0:Inv 0 s)
  (h:∀k s,k<m->Inv k s->Ok (body k s) (LF (Inv<|k+1) Go Rt)) (hg:∀s,Inv m s->Go s):Ok (uO m body s) (QK Go Rt):=by
 obtain⟨o,h1,h2⟩:=Me (R:=R) Inv Go Rt hm h0 (λk s hk hi=>by
  obtain⟨fl,a1,a2⟩:=h k s hk hi
  exact⟨fl,a1,by cases fl <;> exact a2⟩) hg
 exact⟨o,h1,by cases o <;> exact h2⟩
theorem Ua{body:S->Option (Fl S R)}{N:Nat}{s:S}(Inv:S->Prop)(μ:S->Nat){Go:S->Prop}{Rt:R->Prop}
  (h:∀s,Inv s->Ok (body s) (LF (λs'=>Inv s'/\μ s'<μ s) Go Rt)) (hi:Inv s) (hn:μ s<N):Ok (kp body N s) (QK Go Rt):=by
 obtain⟨o,h1,h2⟩:=zq (R:=R) Inv μ Go Rt (λs hi=>by
  obtain⟨fl,a1,a2⟩:=h s hi
  exact⟨fl,a1,by cases fl <;> exact a2⟩) N s hi hn
 exact⟨o,h1,by cases o <;> exact h2⟩
theorem TW{b:Nat}{l ys:List α}{f:List α->Option β}(h:(l.length+ys.length)*b<=140737488355328)(k:Ok (f<|l++ys) Q):Ok ((Go.Gk.app b l ys).bind f) Q:=by rw[lq h];exact k
theorem TY{l:List α}{i:Nat}{f:α->Option β}(h:i<l.length)(k:Ok (f l[i]) Q):Ok ((Go.Gk.idx l ((i:Nat):Int)).bind f) Q:=by rw[lI l i h];exact k
theorem Ti{l:List α}{i:Nat}{x:α}{f:α->Option β}(h:l[i]? =some x)(k:Ok (f x) Q):Ok ((Go.Gk.idx l ((i:Nat):Int)).bind f) Q:=by rw[eD h];exact k
end
theorem GC{n:Nat}(h:n<=4611686018427387904):wrap .i64 ((n:Nat):Int)=((n:Nat):Int):=eY (by omega) (by omega)
theorem wrap_add{n m:Nat}(h:n+m<=4611686018427387904):wrap .i64 (((n:Nat):Int)+((m:Nat):Int))=((n+m:Nat):Int):=by rw[eY (by omega) (by omega)];simp
theorem bZ{n:Nat}(h:n+1<=4611686018427387904):wrap .i64 (((n:Nat):Int)+1)=((n+1:Nat):Int):=by rw[eY (by omega) (by omega)];simp
theorem D3{n:Nat}(h:n+2<=4611686018427387904):wrap .i64 (((n:Nat):Int)+2)=((n+2:Nat):Int):=by rw[eY (by omega) (by omega)];simp
theorem ga{α:Type}[DecidableEq α]:∀{l m:List α},l.Nodup->(∀x∈l,x∈m)->l.length<=m.length
 | [],m,_,_=>eH _
 |a::l,m,hn,hs=>by
  have ha:a∈m:=hs a (by simp);have hn':=List.nodup_cons.1 hn
  have:=ga (l:=l) (m:=m.erase a) hn'.2 (λx hx=>by
   rw[List.mem_erase_of_ne<|λe=>hn'.1 (by rw[<-e];exact hx)]
   exact hs x (iv _ hx))
  rw[List.length_erase_of_mem ha]at this;have:=List.length_pos_of_mem ha;simp;omega
section
variable {α:Type}{N:Nat}
def QL(z:α)(N:Nat)(p0:List α)(p1:α->Option Bool):Option (List α):=
 (u7 p0 p1).bind λx31=>bif x31==(-1)then some p0 else((kp (λ(s33:List α×Int×Int)=>(bif decide (s33.2.2<(s33.1.length:Int))then((idx s33.1 s33.2.2).bind λx54=>(p1 x54).bind λx58=>(bif(!x58)then((idx s33.1 s33.2.1).bind λx63=>some (s33.1.set (Int.toNat s33.2.1) x54,wrap .i64<|s33.2.1+1))else some (s33.1,s33.2.1)).bind λs61=>some<|.nx (s61.1,s61.2,wrap .i64<|s33.2.2+1))else(some<|.br (s33.1,s33.2.1,s33.2.2)):Option (Fl (List α×Int×Int) Empty))) N (p0,x31,wrap .i64<|x31+1)).bind λo67=>o67.cs (λ(s33:List α×Int×Int)=>(vF s33.1 s33.2.1 (s33.1.length:Int)).bind λx64=>(vF (s33.1.take (Int.toNat s33.2.1)++List.replicate (s33.1.length - Int.toNat s33.2.1) z) 0 s33.2.1).bind λx65=>some x65)<|λr=>r.elim)
theorem KY{z:α}{l:List α}{φ:α->Option Bool}(p:α->Bool)(hφ:∀x∈l,φ x=some (p x))(hl:l.length<=4611686018427387000)(hN:l.length<N):QL z N l φ=some (l.filter<|λx=> !p x):=by
 unfold QL;rw[ya p (by omega) hφ,aB]
 rcases xu l p with⟨h1,h2⟩|⟨k,x,h1,h2,h3,h4⟩
 ·rw[h1];have:l.filter (λx=> !p x)=l:=List.filter_eq_self.2 λa ha=>by rw[h2 a ha];rfl
  rw[this];rfl
 ·rw[h1,show(((k:Nat):Int)== -1)=false by simp,aT];have hk:=(bE.1 h2).1;have hpre:(l.take k).filter (λx=> !p x)=l.take k:=List.filter_eq_self.2 λa ha=>by
   obtain⟨j,hj⟩:=eX ha;have hjk:j<k:=by have:=(bE.1 hj).1;rw[cW]at this;omega
   rw[List.getElem?_take_of_lt hjk]at hj;rw[h4 j a hjk hj];rfl
  have hst:l.take (k+1)=l.take k++[x]:=by
   rw[fJ hk];congr 1;have:=(bE.1 h2).2;rw[this]
  have hk1:wrap .i64 (((k:Nat):Int)+1)=((k+1:Nat):Int):=by rw[eY (by omega) (by omega)];omega
  rw[hk1];obtain⟨o,a1,a2⟩:=zq (S:=List α×Int×Int) (R:=Empty) (body:=λ(s33:List α×Int×Int)=>(bif decide (s33.2.2<(s33.1.length:Int))then((idx s33.1 s33.2.2).bind λx54=>(φ x54).bind λx58=>(bif(!x58)then((idx s33.1 s33.2.1).bind λx63=>some (s33.1.set (Int.toNat s33.2.1) x54,wrap .i64<|s33.2.1+1))else some (s33.1,s33.2.1)).bind λs61=>some<|.nx (s61.1,s61.2,wrap .i64<|s33.2.2+1))else(some<|.br (s33.1,s33.2.1,s33.2.2)):Option (Fl (List α×Int×Int) Empty)))
   (λs=>∃i j:Nat,s.2.1=((i:Nat):Int)/\s.2.2=((j:Nat):Int)/\i<j/\j<=l.length/\s.1.length=l.length/\s.1.take i=(l.take j).filter (λx=> !p x)/\∀m,j<=m->s.1[m]? =l[m]?)
   (λs=>l.length - s.2.2.toNat) (λs=>∃i:Nat,s.2.1=((i:Nat):Int)/\i<=l.length/\s.1.length=l.length/\s.1.take i=l.filter (λx=> !p x)) (λ_=>True) (λs⟨i,j,e1,e2,hij,hj,hlen,ht,hd⟩=>by
    obtain⟨s,a,b⟩:=s;dsimp only at e1 e2 hlen ht hd ⊢;subst e1;subst e2
    by_cases hlt:j<l.length
    ·rw[bM (by rw[hlen];omega),aQ];have hx:s[j]? =some l[j]:=by rw[hd j<|bV _];exact aS hlt
     have w1:wrap .i64 (((j:Nat):Int)+1)=((j+1:Nat):Int):=by rw[eY (by omega) (by omega)];omega
     have w2:wrap .i64 (((i:Nat):Int)+1)=((i+1:Nat):Int):=by rw[eY (by omega) (by omega)];omega
     have hs2:l.take (j+1)=l.take j++[l[j]]:=fJ hlt;rw[eD hx,aB,hφ _<|dH hlt,aB,w1]
     cases hp:p l[j]with
     |true=>
      refine⟨.nx (s,((i:Nat):Int),((j+1:Nat):Int)),by rw[mU,aT,aB],⟨i,j+1,rfl,rfl,by omega,by omega,hlen,?_,λm hm=>hd m (by omega)⟩,?_⟩
      ·rw[hs2,k8,ht];simp[hp]
      ·simp only[cN];omega
     |false=>
      refine⟨.nx (s.set i l[j],((i+1:Nat):Int),((j+1:Nat):Int)),by rw[px,aQ,lI _ _ (by omega),aB,cN,w2,aB],⟨i+1,j+1,rfl,rfl,by omega,by omega,by simp[hlen],?_,λm hm=>?_⟩,?_⟩
      ·rw[hs2,k8,<-ht];have:(s.set i l[j]).take (i+1)=s.take i++[l[j]]:=by
        rw[fJ (by simp;omega),List.take_set_of_le<|bV _];simp
       rw[this];simp[hp]
      ·rw[fO,aD (by omega)];exact hd m (by omega)
      ·simp only[cN];omega
    ·rw[bP (by rw[hlen];omega),aT];have hje:j=l.length:=by omega
     subst hje;rw[gj]at ht
     exact⟨.br (s,((i:Nat):Int),((l.length:Nat):Int)),rfl,i,rfl,by omega,hlen,ht⟩)
   N (l,((k:Nat):Int),((k+1:Nat):Int)) ⟨k,k+1,rfl,rfl,by omega,by omega,rfl,by rw[hst,k8,hpre];simp[h3],λ_ _=>rfl⟩ (by simp only[cN];omega)
  rw[a1,aB]
  cases o with
  |rt r=>exact r.elim
  |go s=>
   obtain⟨i,e1,hi,hlen,ht⟩:=a2;obtain⟨s,a,b⟩:=s;dsimp only at e1 hlen ht;subst e1;simp only[Fo.cs];rw[sA _ _ (by omega),aB,cN,t9 _ _ (by simp;omega),aB,List.take_append_of_le_length (by simp;omega),List.take_take,Nat.min_self,ht]
end
section
variable {κ ν:Type}[DecidableEq κ]
theorem ql(m:List (κ×ν))(k k':κ)(x z:ν):fS (qE m k x) k' z=if k'=k then x else fS m k' z:=by
 induction m with
 |nil=>unfold qE fS;by_cases h:k'=k <;> simp[h]
 |cons p m ih=>
  unfold qE
  by_cases h:k=p.1
  ·rw[aC h]
   by_cases h':k'=k
   ·subst h';simp[fS]
   ·simp only[fS,List.find?_cons,aD h',bP h'];rw[bP<|λe=>h'<|e.trans h.symm]
  ·rw[aD h]
   by_cases h':k'=p.1
   ·have:k'≠k:=λe=>h<|e.symm.trans h'
    simp only[fS,List.find?_cons,bM h',aD this]
   ·unfold fS at ih ⊢;simp only[List.find?_cons,bP h'];exact ih
theorem uA(m:List (κ×ν))(k k':κ)(x:ν):lY (qE m k x) k'=(decide (k'=k)||lY m k'):=by
 induction m with
 |nil=>unfold qE lY;simp
 |cons p m ih=>
  unfold qE
  by_cases h:k=p.1
  ·rw[aC h]
   by_cases h':k'=k
   ·simp[lY,h']
   ·simp only[lY,List.any_cons,bP h',Bool.false_or];rw[bP<|λe=>h'<|e.trans h.symm,Bool.false_or]
  ·rw[aD h];unfold lY at ih ⊢;simp only[List.any_cons];rw[ih]
   cases decide (k'=p.1) <;> cases decide (k'=k) <;> simp
end
section
variable {N:Nat}
theorem CC(l:List Int)(a b:Nat)(h:a+b<l.length):Hr l ((a:Nat):Int) ((b:Nat):Int)=some l[a+b]:=by
 unfold Hr;rw[aC (by omega),show((a:Nat):Int)+((b:Nat):Int)=((a+b:Nat):Int)by omega,lI _ _ h]
theorem kb.KZ{l:List Int}{a:Int}(h:kb l)(hl:∀c∈l,c<a):kb (l++[a]):=by
 unfold kb;rw[nL];exact⟨h,List.pairwise_singleton _ _,λc hc d hd=>by simp at hd;subst hd;exact hl c hc⟩
theorem kb.last{l:List Int}{a:Int}(h:kb l)(hl:l.getLast? =some a):∀c∈l,c<=a:=by
 intro c hc;have hs:=sN hl;rw[hs]at h hc
 rcases dS.1 hc with h1|h1
 ·have:=(nL.1 h).2.2 c h1 a (by simp);omega
 ·simp at h1;omega
theorem E0{l:List Int}(hs:l.Pairwise (λx y=>x<=y))(hl:l.length<=4611686018427387000)(hN:l.length<N):
  Ok (iz N l) (λm=>kb m/\∀c,c∈m↔c∈l):=by
 unfold iz;refine Ty (λh2=>S9 ⟨?_,λc=>Iff.rfl⟩)<|λh2=>?_
 ·have h2:=of_decide_eq_true h2
  match l,h2 with
  | [],_=>exact kO
  | [a],_=>exact List.pairwise_singleton _ _
  |a::b::l,h2=>simp at h2;omega
 ·have h2:=of_decide_eq_false h2;have le:∀(i j:Nat)(x y:Int),i<j->l[i]? =some x->l[j]? =some y->x<=y:=λi j x y hij hx hy=>by
   have:=mT.1 hs i j (bE.1 hx).1 (bE.1 hy).1 hij;rw[(bE.1 hx).2,(bE.1 hy).2]at this;exact this
  refine Td (Ua (Go:=λ_=>kb l) (Rt:=λm=>kb m/\∀c,c∈m↔c∈l) (λs=>∃k:Nat,s=((k:Nat):Int)/\1<=k/\k<=l.length/\kb (l.take k)) (λs=>l.length - s.toNat) ?_ ⟨1,rfl,bV _,by omega,?_⟩ (by simp;omega)) ?_
  ·rintro s⟨k,rfl,hk1,hkl,hinc⟩;refine Ty (λh=>?_)<|λh=>TE ?_
   ·have hk:k<l.length:=by have:=of_decide_eq_true h;omega
    refine TY hk ?_;rw[gC hk1 (by omega)];refine TY (by omega) ?_;refine Ty (λhe=>?_)<|λhe=>?_
    ·have he:l[k]=l[k - 1]:=by simpa using he
     refine SZ (sA l k hkl) ?_
     refine Td (Ua (Go:=λs=>∃i:Nat,s.2.1=((i:Nat):Int)/\i<=l.length/\s.1.length=l.length/\kb (s.1.take i)/\∀c,c∈s.1.take i↔c∈l) (Rt:=λ_=>True)
      (λs=>∃i j:Nat,s.2.1=((i:Nat):Int)/\s.2.2=((j:Nat):Int)/\1<=j/\k+j<=l.length/\i<=k+j - 1/\s.1.length=l.length/\kb (s.1.take i)/\(s.1.take i).getLast? =l[k+j - 1]? /\
       (∀c,c∈s.1.take i↔c∈l.take (k+j))/\∀m,k+j - 1<=m->s.1[m]? =l[m]?) (λs=>l.length - s.2.2.toNat) ?_ ?_ (by simp;omega)) ?_
     ·rintro⟨u,a,b⟩⟨i,j,e1,e2,hj,hjl,hij,hlen,hi,hlast,hmem,hrest⟩;dsimp only at e1 e2 hlen hi hlast hmem hrest ⊢;subst e1;subst e2;rw[cN];refine Ty (λh=>?_)<|λh=>TE ?_
      ·have hlt:k+j<l.length:=by have:=of_decide_eq_true h;omega
       have hx:u[k+j]'(by omega)=l[k+j]:=by have:=hrest (k+j) (by omega);rw[aS (by omega),aS hlt]at this;injection this
       have hy:u[k+(j - 1)]'(by omega)=l[k+(j - 1)]:=by have:=hrest (k+(j - 1)) (by omega);rw[aS (by omega),aS (by omega)]at this;injection this
       refine SZ (CC u k j (by omega)) ?_;rw[gC hj (by omega)];refine SZ (CC u k (j - 1) (by omega)) ?_;rw[hx,hy];have hts:l.take (k+j+1)=l.take (k+j)++[l[k+j]]:=fJ hlt;have hlast':(u.take i).getLast? =some l[k+(j - 1)]:=by rw[hlast,show k+j - 1=k+(j - 1)by omega,aS (by omega)]
       have hxy:l[k+(j - 1)]<=l[k+j]:=le (k+(j - 1)) (k+j) _ _ (by omega) (aS _)<|aS _
       refine Td (P:=λs'=>s'.1.length=l.length/\∃i':Nat,s'.2=((i':Nat):Int)/\i'<=k+j/\kb (s'.1.take i')/\(s'.1.take i').getLast? =l[k+j]? /\(∀c,c∈s'.1.take i'↔c∈l.take (k+j+1))/\∀m,k+j<=m->s'.1[m]? =l[m]?) ?_ ?_
       ·refine Ty (λhne=>?_)<|λhne=>S9 ?_
        ·have hne:l[k+j]≠l[k+(j - 1)]:=by simpa using hne
         refine SZ (CC u k j (by omega)) ?_;rw[hx];refine TY (by omega)<|S9 ⟨by simp[hlen],i+1,?_,by omega,?_⟩
         ·rw[bZ (by omega)]
         ·dsimp only;rw[cN];have ht:(u.set i l[k+j]).take (i+1)=u.take i++[l[k+j]]:=by
           rw[fJ (by simp;omega),List.take_set_of_le<|bV _];simp
          rw[ht];refine⟨hi.KZ λc hc=>?_,by simp[aS hlt],λc=>?_,λm hm=>?_⟩
          ·have:=hi.last hlast' c hc;omega
          ·rw[hts,dS,dS,hmem]
          ·rw[fO,aD (by omega)];exact hrest m (by omega)
        ·have he:l[k+j]=l[k+(j - 1)]:=by simpa using hne
         refine⟨hlen,i,rfl,by omega,hi,?_,λc=>?_,λm hm=>hrest m (by omega)⟩
         ·dsimp only;rw[hlast',aS hlt,he]
         ·rw[hts,dS,<-hmem];constructor
          ·exact .inl
          ·rintro(h|h)
           ·exact h
           ·simp at h;subst h;rw[he];exact List.mem_of_getLast? hlast'
       ·rintro⟨v,a⟩⟨g1,i',g2,g3,g4,g5,g6,g7⟩;dsimp only at g1 g2 g4 g5 g6 g7 ⊢;refine Tv ⟨⟨i',j+1,g2,?_,by omega,by omega,by omega,g1,g4,?_,g6,λm hm=>g7 m (by omega)⟩,?_⟩
        ·rw[bZ (by omega)]
        ·rw[show k+(j+1) - 1=k+j by omega];exact g5
        ·rw[bZ (by omega)];simp only[cN];omega
      ·have hge:k+j=l.length:=by have:=of_decide_eq_false h;omega
       refine⟨i,rfl,by omega,hlen,hi,λc=>?_⟩;rw[hmem,hge,gj]
     ·refine⟨k,1,rfl,rfl,bV _,by omega,by omega,rfl,hinc,?_,λc=>?_,λm _=>rfl⟩
      ·dsimp only;rw[show k+1 - 1=k by omega,aS hk,he,List.getLast?_eq_getElem?,cW,Nat.min_eq_left hkl,List.getElem?_take_of_lt (by omega),aS (by omega)]
      ·dsimp only;rw[fJ hk,dS];constructor
       ·exact .inl
       ·rintro(h|h)
        ·exact h
        ·simp at h;subst h;rw[he];refine fK (i:=k - 1) ?_;rw[List.getElem?_take_of_lt (by omega),aS (by omega)]
     ·rintro o ho;refine TG ho ?_<|λr=>r.elim
      rintro⟨u,a,b⟩⟨i,e1,hi,hlen,hinc',hmem⟩;dsimp only at e1 hlen hinc' hmem ⊢;subst e1;refine SZ (sA u i (by omega)) ?_;rw[cN];refine SZ (t9 _ i (by simp;omega))<|T8 ?_
      rw[List.take_append_of_le_length (by simp;omega),List.take_take,Nat.min_self];exact⟨hinc',hmem⟩
    ·have he:l[k]≠l[k - 1]:=by simpa using he
     refine Tv ⟨⟨k+1,by rw[bZ (by omega)],by omega,by omega,?_⟩,by rw[bZ (by omega)];simp only[cN];omega⟩;rw[fJ hk];refine hinc.KZ λc hc=>?_;have hlast:(l.take k).getLast? =some l[k - 1]:=by
      rw[List.getLast?_eq_getElem?,cW,Nat.min_eq_left hkl,List.getElem?_take_of_lt (by omega),aS (by omega)]
     have h3:=hinc.last hlast c hc;have h4:=le (k - 1) k _ _ (by omega) (aS (by omega:k - 1<l.length))<|aS hk
     omega
   ·have hge:k=l.length:=by have:=of_decide_eq_false h;omega
    subst hge;rw[gj]at hinc;exact hinc
  ·match l,h2 with
   | [],h2=>simp at h2
   |a::l,_=>exact List.pairwise_singleton _ _
  ·rintro o ho;exact TG ho (λs h=>S9 ⟨h,λc=>Iff.rfl⟩)<|λr h=>S9 h
def uB(l:List aI):List Int:=l.flatMap λr=>[r.X0,r.X1]
def jF(l:List aI):List Int:=l.flatMap λr=>[r.Y0,r.Y1]
theorem uC{l:List aI}{c:Int}:c∈uB l↔∃r∈l,c=r.X0\/c=r.X1:=by unfold uB;simp[List.mem_flatMap]
theorem lU{l:List aI}{c:Int}:c∈jF l↔∃r∈l,c=r.Y0\/c=r.Y1:=by unfold jF;simp[List.mem_flatMap]
theorem mw(l:List aI):(uB l).length=2*l.length:=by
 induction l with
 |nil=>rfl
 |cons r l ih=>unfold uB at *;simp[List.flatMap_cons,ih];omega
theorem jM(l:List aI):(jF l).length=2*l.length:=by
 induction l with
 |nil=>rfl
 |cons r l ih=>unfold jF at *;simp[List.flatMap_cons,ih];omega
def yV(X Y:List Int)(s:List Bd):Prop:=∀b∈s,b.y0∈Y/\b.y1∈Y/\∀c∈b.xs,c∈X
theorem yV.push{X Y:List Int}{s:List Bd}{b:Bd}(h:yV X Y s)(h0:b.y0∈Y)(h1:b.y1∈Y)(h2:∀c∈b.xs,c∈X):yV X Y (jS s b):=by
 intro c hc;unfold jS at hc;split at hc
 ·exact h c hc
 ·split at hc
  ·rename_i d hd;have hdm:d∈s:=List.mem_of_getLast? hd;split at hc
   ·rcases dS.1 hc with hc|hc
    ·exact h c<|List.dropLast_subset _ hc
    ·simp at hc;subst hc;exact⟨(h d hdm).1,h1,(h d hdm).2.2⟩
   ·rcases dS.1 hc with hc|hc
    ·exact h c hc
    ·simp at hc;subst hc;exact⟨h0,h1,h2⟩
  ·simp at hc;subst hc;exact⟨h0,h1,h2⟩
theorem kb.nodup{l:List Int}(h:kb l):l.Nodup:=List.Pairwise.imp (λh=>by omega) h
theorem yV.row{X Y:List Int}{s:List Bd}(h:yV X Y s)(hc:fC s){b:Bd}(hb:b∈s):b.xs.length<=X.length:=ga (hc.each b hb).2.2.1.nodup (h b hb).2.2
theorem yV.len{X Y:List Int}{s:List Bd}(h:yV X Y s)(hc:fC s):s.length<=Y.length:=by
 have hn:(s.map Bd.y0).Nodup:=by
  unfold List.Nodup;rw[List.pairwise_map];refine List.Pairwise.imp_of_mem (λ{a b}ha hb hab=>?_) hc.ord;have:=(hc.each a ha).1;have:=hab.1;omega
 have:=ga hn (m:=Y) (λx hx=>by
  obtain⟨b,hb,rfl⟩:=dK.1 hx
  exact(h b hb).1)
 rwa[eL]at this
theorem yV.mono{X Y X' Y':List Int}{s:List Bd}(h:yV X Y s)(hx:∀c∈X,c∈X')(hy:∀c∈Y,c∈Y'):yV X' Y' s:=λb hb=>⟨hy _ (h b hb).1,hy _ (h b hb).2.1,λc hc=>hx c<|(h b hb).2.2 c hc⟩
theorem JD(s:List Bd)(b:Bd):(jS s b).length<=s.length+1:=by
 unfold jS;split
 ·omega
 ·split
  ·rename_i d hd;have hsp:=sN hd;have:s.length=s.dropLast.length+1:=by
    conv=>lhs;rw[hsp]
    simp
   split <;> simp <;> omega
  ·simp
theorem kb.lt{l:List Int}(h:kb l){i j:Nat}{x y:Int}(hij:i<j)(hx:l[i]? =some x)(hy:l[j]? =some y):x<y:=by
 have:=mT.1 h i j (bE.1 hx).1 (bE.1 hy).1 hij;rw[(bE.1 hx).2,(bE.1 hy).2]at this;exact this
theorem kb.next{l:List Int}(h:kb l){k:Nat}{x y c:Int}(hx:l[k]? =some x)(hy:l[k+1]? =some y)(hc:c∈l)(hxc:x<c):y<=c:=by
 obtain⟨j,hj⟩:=eX hc
 rcases Nat.lt_trichotomy j (k+1)with h1|h1|h1
 ·exfalso
  by_cases e:j=k
  ·subst e;rw[hx]at hj;injection hj with hj;omega
  ·have:=h.lt (show j<k by omega) hj hx;omega
 ·subst h1;rw[hy]at hj;injection hj with hj;omega
 ·have:=h.lt h1 hy hj;omega
theorem yI{l:List aI}{φ:aI->Option Bool}(p:aI->Bool)(hφ:∀x∈l,φ x=some (p x))(hl:l.length<=4611686018427387000)(hN:l.length<N):i5 N l φ=some (l.filter<|λx=> !p x):=
 KY (z:=(⟨0,0,0,0⟩:aI)) p hφ hl hN
theorem Dy{l:List aI}(hl:l.length<=268435456):jN N l=some l:=by
 unfold jN;rw[lq (by simp;omega),aB,List.nil_append]
structure QM (l m:List aI) (ys:List Int) (k:Nat) (out:List aA) (now:List aI) (nx:Nat):Prop where
 can:fC (out.map cG)
 top:∀c∈out,∀y,ys[k]? =some y->c.Y1<=y
 cover:∀x y,vY (out.map cG) x y=(vW l x y&&decide (∀a,ys[k]? =some a->y<a))
 lim:yV (uB l) (jF l) (out.map cG)
 SP:∀r∈now,r∈m.take nx
 SQ:∀r∈m.take nx,∀y,ys[k]? =some y->y<r.Y1->r∈now
 len:now.length<=nx
 Sk:nx<=m.length
 rest:∀(j:Nat)r y,nx<=j->m[j]? =some r->ys[k]? =some y->y<=r.Y0
 low:∀r∈now,∀y,ys[k]? =some y->r.Y0<=y
theorem Mm{l m:List aI}(h:∀r,r∈l↔r∈m)(x y:Int):vW l x y=vW m x y:=by
 rw[eN,jE,jE];constructor
 ·rintro⟨r,hr,h1⟩;exact⟨r,(h r).1 hr,h1⟩
 ·rintro⟨r,hr,h1⟩;exact⟨r,(h r).2 hr,h1⟩
structure sO (l:List aI) (s:List aA):Prop where
 can:fC (s.map cG)
 cover:∀x y,vY (s.map cG) x y=vW l x y
 lim:yV (uB l) (jF l) (s.map cG)
theorem qm{l:List aI}(hl:l.length<=134217728)(hok:∀r∈l,D0 r)(hN:4294967296<=N):Ok (iF N l) (sO l):=by
 unfold iF;refine SZ (Dy (by omega)) ?_
 obtain⟨m,h1,h2,h3⟩:=Cu (φ:=kD N) (l:=l) (λa b=>a.Y0 - b.Y0) (λa ha b hb=>by
  unfold kD;rw[wrap_small (hok a ha).s3 (hok b hb).s3]) (λa _=>by omega) (λa _ b _ c _ h1 h2=>by omega) (λa _ b _ c _ h1 h2=>by omega) (by omega)
 refine SZ h1 ?_;have hml:m.length=l.length:=h2.length_eq;have hmem:∀r,r∈m↔r∈l:=λr=>h2.mem_iff;refine Td (T6 (λk s=>s=jF (m.take k)) (by omega) rfl<|λk s hk e=>?_) ?_
 ·subst e;refine TY hk<|TW ?_<|S9 ?_
  ·rw[jM];simp;omega
  ·rw[fJ hk];unfold jF;rw[List.flatMap_append];rfl
 rintro s rfl;rw[gj];have hgs:wc (jF m)=some ((jF m).mergeSort<|λx y=>decide<|x<=y):=by unfold wc;rw[aC (by rw[jM];omega)]
 refine SZ hgs ?_;have hsp:((jF m).mergeSort<|λx y=>decide<|x<=y).Pairwise (λx y=>x<=y):=by
  have:=List.pairwise_mergeSort (le:=λ(x y:Int)=>decide<|x<=y) (λa b c h1 h2=>by simp at *;omega) (λa b=>by simp;omega)<|jF m
  exact List.Pairwise.imp (λh=>by simpa using h) this
 have hsm:∀c,c∈(jF m).mergeSort (λx y=>decide<|x<=y)↔c∈jF m:=λc=>List.mem_mergeSort;have hsl:((jF m).mergeSort<|λx y=>decide<|x<=y).length=2*m.length:=by rw[List.length_mergeSort,jM]
 generalize (jF m).mergeSort (λx y=>decide<|x<=y)=sy at hsp hsm hsl;refine Td (E0 (N:=N) hsp (by omega) (by omega)) ?_;rintro ys⟨hy,hym⟩;have hyl:ys.length<=2*m.length:=by
  have:=ga hy.nodup (m:=sy)<|λc hc=>(hym c).1 hc
  omega
 have y0m:∀r∈m,r.Y0∈ys:=λr hr=>(hym _).2<|(hsm _).2<|lU.2 ⟨r,hr, .inl rfl⟩
 have y1m:∀r∈m,r.Y1∈ys:=λr hr=>(hym _).2<|(hsm _).2<|lU.2 ⟨r,hr, .inr rfl⟩
 have yml:∀c∈ys,c∈jF l:=λc hc=>by
  obtain⟨r,hr,h⟩:=lU.1<|(hsm _).1<|(hym _).1 hc
  exact lU.2 ⟨r,(hmem r).1 hr,h⟩
 refine Td (Ua (Go:=λs=>sO l s.1) (Rt:=λ_=>True) (λs=>∃k nx:Nat,s.2.2.2=((k:Nat):Int)/\s.2.2.1=((nx:Nat):Int)/\(k<ys.length\/k=0)/\QM l m ys k s.1 s.2.1 nx) (λs=>ys.length - s.2.2.2.toNat) ?_ ?_ (by simp;omega)) ?_
 ·rintro⟨out,now,a,b⟩⟨k,nx,e1,e2,hk,I⟩;dsimp only at e1 e2 I ⊢;subst e1;subst e2;rw[bZ (by omega)];refine Ty (λh=>?_)<|λh=>TE ?_
  ·have hk1:k+1<ys.length:=by have:=of_decide_eq_true h;omega
   have hyk:ys[k]? =some ys[k]:=aS _;have hyk1:ys[k+1]? =some ys[k+1]:=aS hk1;have hlt:=hy.lt (Nat.lt_succ_self k) hyk hyk1;have hcov:=I.cover;simp only[hyk,Option.some.injEq,forall_eq']at hcov;refine SZ (yI (λr=>decide<|r.Y1<=ys[k]) (λr _=>by unfold pA;rw[lI ys k (by omega),aB]) (by have:=I.len;have:=I.Sk;omega) (by have:=I.len;have:=I.Sk;omega)) ?_;have hfl:=pw (λr:aI=> !decide (r.Y1<=ys[k])) now;have hIl:=I.len;have hIn:=I.Sk
   refine Td (Ua (Go:=λs=>∃nx':Nat,s.2=((nx':Nat):Int)/\nx'<=m.length/\s.1.length<=nx'/\(∀r∈s.1,r∈m.take nx')/\(∀r∈m.take nx',ys[k]<r.Y1->r∈s.1)/\(∀r∈s.1,r.Y0<=ys[k]/\ys[k]<r.Y1)/\(∀(j:Nat)r,nx'<=j->m[j]? =some r->ys[k]<r.Y0)) (Rt:=λ_=>True)
    (λs=>∃nx':Nat,s.2=((nx':Nat):Int)/\nx<=nx'/\nx'<=m.length/\s.1.length<=nx'/\(∀r∈s.1,r∈m.take nx')/\(∀r∈m.take nx',ys[k]<r.Y1->r∈s.1)/\(∀r∈s.1,r.Y0<=ys[k]/\ys[k]<r.Y1)) (λs=>m.length - s.2.toNat) ?_ ?_ (by simp;omega)) ?_
   ·rintro⟨nw,b⟩⟨nx',e1,g0,g1,g2,g3,g4,g5⟩;dsimp only at e1 g2 g3 g4 g5 ⊢;subst e1;refine Td (P:=λb=>b=true↔∃h:nx'<m.length,m[nx'].Y0<=ys[k]) ?_ ?_
    ·refine Ty (λh=>?_)<|λh=>S9 ?_
     ·have hlt:nx'<m.length:=by have:=of_decide_eq_true h;omega
      refine TY hlt<|TY (by omega)<|S9 ?_
      rw[bK];exact⟨λh=>⟨hlt,h⟩,λ⟨_,h⟩=>h⟩
     ·have:=of_decide_eq_false h;constructor
      ·intro h;cases h
      ·rintro⟨h,_⟩;omega
    ·intro bb hbb;refine Ty (λh=>?_)<|λh=>TE ?_
     ·obtain⟨hlt,h0⟩:=hbb.1 h;have hts:m.take (nx'+1)=m.take nx'++[m[nx']]:=fJ hlt;refine TY hlt<|TW (by simp;omega)<|Tv ⟨⟨nx'+1,by rw[bZ (by omega)],by omega,by omega,by simp;omega,λr hr=>?_,λr hr hr2=>?_,λr hr=>?_⟩,by rw[bZ (by omega)];simp only[cN];omega⟩
      ·rw[hts]
       rcases dS.1 hr with h|h
       ·exact List.mem_append_left _<|g3 r h
       ·exact List.mem_append_right _ h
      ·rw[hts]at hr
       rcases dS.1 hr with h|h
       ·exact List.mem_append_left _<|g4 r h hr2
       ·exact List.mem_append_right _ h
      ·rcases dS.1 hr with h|h
       ·exact g5 r h
       ·simp at h;subst h;refine⟨h0,?_⟩;have:=(hok m[nx']<|(hmem _).1<|dH hlt).y;have:=I.rest nx' _ ys[k] g0 (aS hlt) hyk;omega
     ·refine⟨nx',rfl,g1,g2,g3,g4,g5,λj r hj hr=>?_⟩;have hjl:=(bE.1 hr).1;have hlt:nx'<m.length:=by omega
      have h0:¬m[nx'].Y0<=ys[k]:=λh0=>by rw[hbb.2 ⟨hlt,h0⟩]at h;cases h
      by_cases e:nx'=j
      ·subst e;rw[aS hlt]at hr;injection hr with hr;subst hr;omega
      ·have:=mT.1 h3 nx' j hlt hjl (by omega);have hr':=(bE.1 hr).2;rw[hr']at this;omega
   ·refine⟨nx,rfl,bV _,hIn,by dsimp only;omega,λr hr=>I.SP r (lE.1 hr).1,λr hr h=>lE.2 ⟨I.SQ r hr ys[k] hyk h,by simpa using h⟩,λr hr=>?_⟩;have hr:=lE.1 hr;have hr2:ys[k]<r.Y1:=by simpa using hr.2
    exact⟨I.low r hr.1 ys[k] hyk,hr2⟩
   ·rintro o ho;refine TG ho ?_<|λr=>r.elim
    rintro⟨nw,b⟩⟨nx',e1,g1,g2,g3,g4,g5,g6⟩;dsimp only at e1 g2 g3 g4 g5 ⊢;subst e1;refine TY (by omega)<|TY hk1 ?_
    have hnm:∀r∈nw,r∈l:=λr hr=>(hmem r).1<|List.take_subset _ _<|g3 r hr
    obtain⟨row,nw',s1,s2,s3,s4,s5,s6,s7⟩:=EX (N:=N) (l:=nw) (by omega)<|λr hr=>hok r<|hnm r hr
    refine SZ s1 ?_;have hlimx:∀c∈row,c∈uB l:=λc hc=>by
     obtain⟨r,hr,h⟩:=s7 c hc;exact uC.2 ⟨r,hnm r hr,h⟩
    have hol:out.length<=2*l.length:=by have:=I.lim.len I.can;rw[jM,eL]at this;exact this
    have hox:∀c∈out,c.Xs.length<=2*l.length:=λc hc=>by
     have:=I.lim.row I.can (b:=cG c)<|dK.2 ⟨c,hc,rfl⟩
     rw[mw]at this;exact this
    obtain⟨out',p1,p2⟩:=ID (N:=N) (s:=out) (b:=⟨ys[k],ys[k+1],row⟩) (by omega) (λc hc=>by have:=hox c hc;omega);refine SZ p1 ?_;have htop:∀c∈out.map cG,c.y1<=(cG ⟨ys[k],ys[k+1],row⟩).y0:=λc hc=>by
     obtain⟨d,hd,rfl⟩:=dK.1 hc;exact I.top d hd ys[k] hyk
    have hcan:=xx I.can htop s3 s4;refine Tv ⟨⟨k+1,nx',rfl,rfl, .inl hk1,⟨by dsimp only;rw[p2];exact hcan,λc hc y hy1=>?_,λx y=>?_,?_,λr hr=>g3 r<|s2.subset hr,λr hr y hy1 h=>?_,by rw[s2.length_eq];exact g2,g1,λj r y hj hr hy1=>?_,λr hr y hy1=>?_⟩⟩,by simp only[cN];omega⟩
    ·rw[hyk1]at hy1;injection hy1 with hy1;subst hy1
     have hm':cG c∈jS (out.map cG) (cG ⟨ys[k],ys[k+1],row⟩):=by rw[<-p2];exact dK.2 ⟨c,hc,rfl⟩
     exact xy htop (by show ys[k]<=ys[k+1];omega) _ hm'
    ·simp only[hyk1,Option.some.injEq,forall_eq'];unfold vY;rw[p2,xw htop (λc hc=>(I.can.each c hc).1)<|λh=>absurd h (by show ¬ys[k+1]<=ys[k];omega)]
     by_cases hyy:ys[k]<=y/\y<ys[k+1]
     ·rw[aC (show(cG ⟨ys[k],ys[k+1],row⟩).y0<=y/\y<(cG ⟨ys[k],ys[k+1],row⟩).y1 from hyy),bM hyy.2,Bool.and_true];show pO row x=_;rw[s5,eN,CA,jE];constructor
      ·rintro⟨r,hr,h⟩;have hrm:=List.take_subset _ _<|g3 r hr
       have h5:=g5 r hr;have:=hy.next hyk hyk1 (y1m r hrm) h5.2;exact⟨r,hnm r hr,h,by omega,by omega⟩
      ·rintro⟨r,hr,h,h7,h8⟩;have hrm:=(hmem r).2 hr;have h9:r.Y0<=ys[k]:=by
        by_cases h10:r.Y0<=ys[k]
        ·exact h10
        ·have:=hy.next hyk hyk1 (y0m r hrm) (by omega);omega
       have h11:r∈m.take nx':=by
        obtain⟨j,hj⟩:=eX hrm
        by_cases h12:j<nx'
        ·exact fK (i:=j) (by rw[List.getElem?_take_of_lt h12];exact hj)
        ·have:=g6 j r (by omega) hj;omega
       exact⟨r,g4 r h11 (by omega),h⟩
     ·rw[aD (show ¬((cG ⟨ys[k],ys[k+1],row⟩).y0<=y/\y<(cG ⟨ys[k],ys[k+1],row⟩).y1)from hyy)];show vY (out.map cG) x y=_;rw[hcov]
      by_cases h1:y<ys[k]
      ·rw[bM h1,bM (show y<ys[k+1]by omega)]
      ·rw[bP h1,bP (show ¬y<ys[k+1]by omega)]
    ·show yV (uB l) (jF l) (out'.map cG);rw[p2];exact I.lim.push (yml _<|dH _) (yml _<|dH _) hlimx
    ·rw[hyk1]at hy1;injection hy1 with hy1;subst hy1
     exact s2.symm.subset<|g4 r hr (by omega)
    ·rw[hyk1]at hy1;injection hy1 with hy1;subst hy1
     exact hy.next hyk hyk1 (y0m r<|fK hr)<|g6 j r hj hr
    ·rw[hyk1]at hy1;injection hy1 with hy1;subst hy1
     have:=(g5 r<|s2.subset hr).1;omega
  ·have hge:¬k+1<ys.length:=by have:=of_decide_eq_false h;omega
   refine⟨I.can,λx y=>?_,I.lim⟩;rw[I.cover]
   by_cases hyn:ys= []
   ·have:vW l x y=false:=by
     rw[<-lF,jE];rintro⟨r,hr,_⟩;have:=y0m r<|(hmem r).2 hr
     rw[hyn]at this;cases this
    rw[this];rfl
   ·have hkl:k<ys.length:=by
     rcases hk with h|h
     ·exact h
     ·subst h;exact List.length_pos_iff.2 hyn
    rw[aS hkl];simp only[Option.some.injEq,forall_eq']
    cases hc:vW l x y with
    |false=>rfl
    |true=>
     obtain⟨r,hr,_,h7,h8⟩:=jE.1 hc;have:=y1m r<|(hmem r).2 hr
     obtain⟨j,hj⟩:=eX this;have hjl:=(bE.1 hj).1;have:r.Y1<=ys[k]:=by
      by_cases e:j=k
      ·subst e;rw[aS hkl]at hj;injection hj with hj;omega
      ·have:=hy.lt (show j<k by omega) hj<|aS hkl;omega
     rw[bM (show y<ys[k]by omega)];rfl
 ·refine⟨0,0,rfl,rfl, .inr rfl,?_⟩;show QM l m ys 0 [] [] 0;refine⟨fC.nil,λc hc=>(by cases hc),λx y=>?_,λb hb=>(by cases hb),λr hr=>(by cases hr),λr hr=>(by rw[List.take_zero]at hr;cases hr),bV _,eH _,λj r y _ hr hy0=>?_,λr hr=>(by cases hr)⟩
  ·show false=_;symm;rw[Bool.and_eq_false_iff]
   cases hc:vW l x y with
   |false=>exact .inl rfl
   |true=>
    right;obtain⟨r,hr,_,h7,h8⟩:=jE.1 hc;have hr0:=y0m r<|(hmem r).2 hr
    have hpos:0<ys.length:=List.length_pos_of_mem hr0;rw[decide_eq_false_iff_not];intro h;have h:=h ys[0]<|aS hpos
    obtain⟨j,hj⟩:=eX hr0
    by_cases e:j=0
    ·subst e;rw[aS hpos]at hj;injection hj with hj;omega
    ·have:=hy.lt (show 0<j by omega) (aS hpos) hj;omega
  ·obtain⟨j',hj'⟩:=eX<|y0m r<|fK hr
   by_cases e:j'=0
   ·subst e;rw[hy0]at hj';injection hj' with hj';omega
   ·have:=hy.lt (show 0<j' by omega) hy0 hj';omega
 ·rintro o ho;refine TG ho (λs h=>S9 h)<|λr=>r.elim
end
section
variable {N:Nat}
def CD:List Int->List (Int×Int)
 |a::b::l=>(a,b)::CD l
 |_=>[]
theorem BW:∀(xs:List Int),(CD xs).length=xs.length / 2
 | []=>rfl
 | [a]=>by simp[CD]
 |a::b::l=>by unfold CD;rw[eM,BW l];simp only[eM];omega
theorem zM:∀(xs:List Int)(j:Nat)(h:2*j+1<xs.length),(CD xs)[j]? =some (xs[2*j],xs[2*j+1])
 | [],j,h=>by simp at h
 | [a],j,h=>by simp at h
 |a::b::l,0,h=>rfl
 |a::b::l,j+1,h=>by
  have:=zM l j (by simp at h;omega);unfold CD;rw[List.getElem?_cons_succ,this];have e1:(a::b::l)[2*(j+1)]=l[2*j]'(by simp at h;omega):=by simp[show 2*(j+1)=2*j+1+1 by omega]
  have e2:(a::b::l)[2*(j+1)+1]=l[2*j+1]'(by simp at h;omega):=by simp[show 2*(j+1)+1=2*j+1+1+1 by omega]
  rw[e1,e2]
theorem zN:∀{xs:List Int},xs.length % 2=0->dM (CD xs)=xs
 | [],_=>rfl
 | [a],h=>by simp at h
 |a::b::l,h=>by unfold CD;rw[jB,zN (by simp at h;omega)]
theorem Mn{xs:List Int}(h:kb xs)(he:xs.length % 2=0)(x:Int):pO xs x=jA (CD xs) x:=by
 have:=uy (l:=CD xs) (by rw[zN he];exact h) x;rwa[zN he]at this
theorem E1{xs:List Int}:∀p∈CD xs,p.1∈xs/\p.2∈xs:=by
 intro p hp;obtain⟨j,hj⟩:=eX hp;have hjl:=(bE.1 hj).1;rw[BW]at hjl;rw[zM xs j (by omega)]at hj;injection hj with hj;subst hj
 exact⟨dH _,dH _⟩
theorem HE{xs:List Int}(h:kb xs):∀p∈CD xs,p.1<p.2:=by
 intro p hp;obtain⟨j,hj⟩:=eX hp;have hjl:=(bE.1 hj).1;rw[BW]at hjl;rw[zM xs j (by omega)]at hj;injection hj with hj;subst hj
 exact h.lt (show 2*j<2*j+1 by omega) (aS _)<|aS _
def nE(b:aA):List aI:=(CD b.Xs).map λp=>⟨p.1,b.Y0,p.2,b.Y1⟩
def aU(s:List aA):List aI:=s.flatMap nE
theorem nF(b:aA)(s:List aA):aU (b::s)=nE b++aU s:=rfl
theorem nX(b:aA):(nE b).length=b.Xs.length / 2:=by unfold nE;rw[eL,BW]
theorem oE(s t:List aA):aU (s++t)=aU s++aU t:=List.flatMap_append
theorem AG(s:List aA)(k:Nat):(aU<|s.take k).length<=(aU s).length:=by
 conv=>rhs;rw[<-List.take_append_drop k s,oE,dG]
 omega
theorem CE{s:List aA}{A B:Nat}(h1:s.length<=A)(h2:∀b∈s,b.Xs.length<=B):(aU s).length<=A*B:=by
 induction s generalizing A with
 |nil=>simp[aU]
 |cons b s ih=>
  rw[nF,dG,nX];simp at h1;obtain⟨A',rfl⟩:∃A',A=A'+1:=⟨A - 1,by omega⟩;have:=ih (A:=A') (by omega)<|λc hc=>h2 c<|iv _ hc
  have:=h2 b (by simp);rw[Nat.add_mul];omega
theorem CF{s:List aA}(he:∀b∈s,b.Xs.length % 2=0)(h1:s.length<=1099511627776)(h2:∀b∈s,b.Xs.length<=1099511627776/\b.Xs.length<N)(h3:(aU s).length<=1099511627776):jZ N s=some (aU s):=by
 refine T3 ?_;unfold jZ;refine Td (T6 (λk t=>t=aU (s.take k)) (by omega) rfl<|λk t hk e=>?_)<|λt e=>S9 (by rw[e,gj])
 subst e;refine TY hk ?_;have hm:=dH hk;generalize hb:s[k]=b at hm ⊢;have heb:=he b hm;have hbl:=h2 b hm;have hts:aU (s.take<|k+1)=aU (s.take k)++nE b:=by
  rw[fJ hk,oE,hb];simp[aU]
 have hle:=AG s<|k+1
 rw[hts,dG,nX]at hle;refine Td (Ua (Go:=λs'=>s'.1=aU (s.take<|k+1)) (Rt:=λ_=>True) (λs'=>∃j:Nat,s'.2=((2*j:Nat):Int)/\2*j<=b.Xs.length/\s'.1=aU (s.take k)++(nE b).take j) (λs'=>b.Xs.length - s'.2.toNat) ?_ ⟨0,rfl,by omega,by simp⟩ (by simp;omega)) ?_
 ·rintro⟨acc,i⟩⟨j,e1,hj,e2⟩;dsimp only at e1 e2 ⊢;subst e1;subst e2;refine Ty (λh=>?_)<|λh=>TE ?_
  ·have hlt:2*j+1<b.Xs.length:=by have:=of_decide_eq_true h;omega
   refine TY (by omega) ?_;rw[bZ (by omega)];refine TY hlt<|TW ?_<|Tv ⟨⟨j+1,?_,by omega,?_⟩,?_⟩
   ·simp;rw[nX];omega
   ·rw[D3 (by omega)];congr 1
   ·rw[kf];congr 1;have hg:(nE b)[j]? =some ⟨b.Xs[2*j],b.Y0,b.Xs[2*j+1],b.Y1⟩:=by
     unfold nE;rw[iZ,zM _ _ hlt];rfl
    have hjl:=(bE.1 hg).1;rw[fJ hjl,(bE.1 hg).2]
   ·rw[D3 (by omega)];simp only[cN];omega
  ·have hge:2*j=b.Xs.length:=by have:=of_decide_eq_false h;omega
   show aU (s.take k)++(nE b).take j=_;rw[hts,mR (l:=nE b) (by rw[nX];omega)]
 ·rintro o ho;exact TG ho (λs' h=>S9 h)<|λr=>r.elim
theorem Mo{s:List aA}(h1:s.length<=1099511627776)(h2:∀b∈s,b.Xs.length<=1099511627776)(h3:(aU s).length<=1099511627776):nk N s=some (((aU s).length:Nat):Int):=by
 refine T3 ?_;unfold nk;refine Td (T6 (λk t=>t=(((aU<|s.take k).length:Nat):Int)) (by omega) rfl<|λk t hk e=>?_)<|λt e=>S9 (by rw[e,gj])
 subst e;refine TY hk<|S9 ?_
 have hm:=dH hk;have hbl:=h2 _ hm;have hts:aU (s.take<|k+1)=aU (s.take k)++nE s[k]:=by
  rw[fJ hk,oE];simp[aU]
 have hle:=AG s<|k+1
 rw[hts,dG,nX]at hle;have e:Int.tdiv ((s[k].Xs.length:Nat):Int) 2=((s[k].Xs.length / 2:Nat):Int):=by
  rw[show(2:Int)=((2:Nat):Int)by rfl,<-Int.ofNat_tdiv]
 rw[e,GC (by omega),wrap_add (by omega),hts,dG,nX]
theorem HF(l m:List aI)(x y:Int):vW (l++m) x y=(vW l x y||vW m x y):=List.any_append
theorem K0{b:aA}(h:kb b.Xs)(he:b.Xs.length % 2=0)(x y:Int):vW (nE b) x y=(pO b.Xs x&&(decide (b.Y0<=y)&&decide (y<b.Y1))):=by
 rw[Mn h he,eN,jE,cD,ux,cD,bK,bK];unfold nE;constructor
 ·rintro⟨r,hr,h1,h2⟩;obtain⟨p,hp,rfl⟩:=dK.1 hr;exact⟨⟨p,hp,h1⟩,h2⟩
 ·rintro⟨⟨p,hp,h1⟩,h2⟩;exact⟨_,dK.2 ⟨p,hp,rfl⟩,h1,h2⟩
theorem qo:∀{s:List aA},fC (s.map cG)->∀x y,vW (aU s) x y=vY (s.map cG) x y
 | [],_,x,y=>rfl
 |b::s,h,x,y=>by
  rw[nF,HF,qo h.tail x y];have hb:=h.each (cG b) (by simp);rw[K0 hb.2.2.1 hb.2.2.2];unfold vY;rw[eB,nC]
  by_cases hy:b.Y0<=y/\y<b.Y1
  ·rw[aC (show(cG b).y0<=y/\y<(cG b).y1 from hy),mf<|λc hc=> .inl (by have:=h.Cy c hc;have e:(cG b).y1=b.Y1:=rfl;omega),bM hy.1,bM hy.2];show(pO b.Xs x&&true||false)=pO b.Xs x;simp
  ·rw[aD (show ¬((cG b).y0<=y/\y<(cG b).y1)from hy)];have:(decide (b.Y0<=y)&&decide (y<b.Y1))=false:=by rw[Bool.and_eq_false_iff,decide_eq_false_iff_not,decide_eq_false_iff_not];omega
   rw[this];simp
theorem r9{s:List aA}{r:aI}(h:r∈aU s):∃b∈s,∃p∈CD b.Xs,r= ⟨p.1,b.Y0,p.2,b.Y1⟩:=by
 unfold aU nE at h;obtain⟨b,hb,h⟩:=List.mem_flatMap.1 h;obtain⟨p,hp,rfl⟩:=dK.1 h;exact⟨b,hb,p,hp,rfl⟩
theorem CG{s:List aA}{X Y:List Int}(h:fC (s.map cG))(hl:yV X Y (s.map cG))(hx:∀c∈X,small c)(hy:∀c∈Y,small c):∀r∈aU s,D0 r/\(r.X0∈X/\r.X1∈X)/\r.Y0∈Y/\r.Y1∈Y:=by
 intro r hr;obtain⟨b,hb,p,hp,rfl⟩:=r9 hr;have hm:cG b∈s.map cG:=dK.2 ⟨b,hb,rfl⟩;have hc:=h.each _ hm;have hll:=hl _ hm;have h1:=E1 p hp;have h2:=hll.2.2 p.1 h1.1;have h3:=hll.2.2 p.2 h1.2;exact⟨⟨HE hc.2.2.1 p hp,hc.1,hx _ h2,hx _ h3,hy _ hll.1,hy _ hll.2.1⟩,⟨h2,h3⟩,hll.1,hll.2.1⟩
theorem yJ{l:List Int}{x:Int}(h:∀c∈l,c<=x):pO l x=(l.length % 2==1):=by unfold pO;rw[IB h]
theorem AH{l:List Int}{a x:Int}(h:x<a):pO (l++[a]) x=pO l x:=by unfold pO;rw[Cv,oD,aD (by omega),EW];rfl
def JE(l:List Int):Bool:=l.length % 2==1
theorem CH(l:List Int)(a:Int):JE (l++[a]) = !JE l:=by
 unfold JE;rw[dG,eN,Bool.not_eq_true',beq_iff_eq,beq_eq_false_iff_ne];simp;omega
structure GD (hQ:Bool->Bool->Bool) (a b a' b' out:List Int) (inA inB is:Bool) (pa pb:List Int):Prop where
 ea:a=pa++a'
 eb:b=pb++b'
 oa:inA=JE pa
 ob:inB=JE pb
 oo:is=JE out
 ok:is=hQ inA inB
 low:∀c,(c∈pa\/c∈pb\/c∈out)->∀d,(d∈a'\/d∈b')->c<d
 inc:kb out
 QN:∀x,(∀d,(d∈a'\/d∈b')->x<d)->pO out x=hQ (pO pa x) (pO pb x)
 mem:∀c∈out,c∈pa\/c∈pb
 len:out.length<=pa.length+pb.length
theorem GD.step{hQ:Bool->Bool->Bool}{a b a' b' out:List Int}{inA inB is:Bool}{pa pb:List Int}(I:GD hQ a b a' b' out inA inB is pa pb)(ha:kb a)(hb:kb b)(x:Int)(ta tb:List Int)(wa wb:Bool)
  (h1:a'=(if wa then x::ta else ta)) (h2:b'=(if wb then x::tb else tb)) (hw:wa=true\/wb=true) (hx:∀d,(d∈ta\/d∈tb)->x<d):
  GD hQ a b ta tb (if hQ (inA ^^ wa) (inB ^^ wb)=is then out else out++[x]) (inA ^^ wa) (inB ^^ wb) (hQ (inA ^^ wa)<|inB ^^ wb) (if wa then pa++[x]else pa) (if wb then pb++[x]else pb):=by
 have hxm:x∈a'\/x∈b':=by
  rcases hw with h|h
  ·left;rw[h1,aC h];simp
  ·right;rw[h2,aC h];simp
 have hsub:∀d,(d∈ta\/d∈tb)->d∈a'\/d∈b':=λd hd=>by
  rcases hd with h|h
  ·left;rw[h1];split
   ·exact iv _ h
   ·exact h
  ·right;rw[h2];split
   ·exact iv _ h
   ·exact h
 have hlow:∀c,(c∈pa\/c∈pb\/c∈out)->c<x:=λc hc=>I.low c hc x hxm;have hpa:∀c∈(if wa then pa++[x]else pa),c∈pa\/(wa=true/\c=x):=λc hc=>by
  split at hc
  ·rename_i h
   rcases dS.1 hc with h'|h'
   ·exact .inl h'
   ·simp at h';exact .inr ⟨h,h'⟩
  ·exact .inl hc
 have hpb:∀c∈(if wb then pb++[x]else pb),c∈pb\/(wb=true/\c=x):=λc hc=>by
  split at hc
  ·rename_i h
   rcases dS.1 hc with h'|h'
   ·exact .inl h'
   ·simp at h';exact .inr ⟨h,h'⟩
  ·exact .inl hc
 have hout:∀c∈(if hQ (inA ^^ wa) (inB ^^ wb)=is then out else out++[x]),c∈out\/c=x:=λc hc=>by
  split at hc
  ·exact .inl hc
  ·rcases dS.1 hc with h'|h'
   ·exact .inl h'
   ·simp at h';exact .inr h'
 have ooA:(inA ^^ wa)=JE (if wa then pa++[x]else pa):=by
  rw[I.oa];cases wa <;> simp[CH]
 have ooB:(inB ^^ wb)=JE (if wb then pb++[x]else pb):=by
  rw[I.ob];cases wb <;> simp[CH]
 have ooO:hQ (inA ^^ wa) (inB ^^ wb)=JE (if hQ (inA ^^ wa) (inB ^^ wb)=is then out else out++[x]):=by
  split
  ·rename_i h;rw[h];exact I.oo
  ·rename_i h;rw[CH,<-I.oo]
   cases hk:hQ (inA ^^ wa) (inB ^^ wb) <;> cases his:is <;> simp_all
 refine⟨?_,?_,ooA,ooB,ooO,rfl,?_,?_,?_,?_,?_⟩
 ·rw[I.ea,h1];split <;> simp
 ·rw[I.eb,h2];split <;> simp
 ·intro c hc d hd;have hd':=hx d hd;have hdd:=hsub d hd
  rcases hc with h|h|h
  ·rcases hpa c h with h'|⟨_,rfl⟩
   ·exact I.low c (.inl h') d hdd
   ·exact hd'
  ·rcases hpb c h with h'|⟨_,rfl⟩
   ·exact I.low c (.inr<|.inl h') d hdd
   ·exact hd'
  ·rcases hout c h with h'|rfl
   ·exact I.low c (.inr<|.inr h') d hdd
   ·exact hd'
 ·split
  ·exact I.inc
  ·exact I.inc.KZ λc hc=>hlow c<|.inr<|.inr hc
 ·intro y hy
  by_cases hxy:y<x
  ·have e1:pO (if wa then pa++[x]else pa) y=pO pa y:=by split;exact AH hxy;rfl
   have e2:pO (if wb then pb++[x]else pb) y=pO pb y:=by split;exact AH hxy;rfl
   have e3:pO (if hQ (inA ^^ wa) (inB ^^ wb)=is then out else out++[x]) y=pO out y:=by split;rfl;exact AH hxy
   rw[e1,e2,e3];refine I.QN y λd hd=>?_;have:x<=d:=by
    rcases hd with h|h
    ·rw[h1]at h;split at h
     ·rcases dO.1 h with rfl|h
      ·exact Int.le_refl _
      ·have:=hx d<|.inl h;omega
     ·have:=hx d<|.inl h;omega
    ·rw[h2]at h;split at h
     ·rcases dO.1 h with rfl|h
      ·exact Int.le_refl _
      ·have:=hx d<|.inr h;omega
     ·have:=hx d<|.inr h;omega
   omega
  ·rw[yJ (l:=if wa then pa++[x]else pa),yJ (l:=if wb then pb++[x]else pb),yJ]
   ·have e1:=ooA;have e2:=ooB;have e3:=ooO;unfold JE at e1 e2 e3;rw[<-e1,<-e2,<-e3]
   ·intro c hc
    rcases hout c hc with h|rfl
    ·have:=hlow c<|.inr<|.inr h;omega
    ·omega
   ·intro c hc
    rcases hpb c hc with h|⟨_,rfl⟩
    ·have:=hlow c<|.inr<|.inl h;omega
    ·omega
   ·intro c hc
    rcases hpa c hc with h|⟨_,rfl⟩
    ·have:=hlow c<|.inl h;omega
    ·omega
 ·intro c hc;have m1:∀c,c∈pa->c∈(if wa then pa++[x]else pa):=λc h=>by split;exact List.mem_append_left _ h;exact h
  have m2:∀c,c∈pb->c∈(if wb then pb++[x]else pb):=λc h=>by split;exact List.mem_append_left _ h;exact h
  rcases hout c hc with h|rfl
  ·rcases I.mem c h with h|h
   ·exact .inl<|m1 c h
   ·exact .inr<|m2 c h
  ·rcases hw with h|h
   ·left;rw[aC h];simp
   ·right;rw[aC h];simp
 ·have:=I.len;have h3:(if wa then pa++[x]else pa).length+(if wb then pb++[x]else pb).length>=pa.length+pb.length+1:=by
   rcases hw with h|h
   ·subst h;cases wb <;> simp <;> omega
   ·subst h;cases wa <;> simp <;> omega
  split
  ·omega
  ·simp at h3 ⊢;omega
end
section
variable {N:Nat}
theorem kc(x:Int)(l:List Int):idx (x::l) 0=some x:=rfl
theorem uD{α:Type}(x:α)(l:List α):vF (x::l) 1 (((x::l).length:Nat):Int)=some l:=sA (x::l) 1 (by simp)
theorem lr{α:Type}(x:α)(l:List α):decide ((((x::l).length:Nat):Int)>0)=true:=bM (by simp)
theorem xz{α:Type}(x:α)(l:List α):((((x::l).length:Nat):Int)==0)=false:=by rw[beq_eq_false_iff_ne];simp;omega
theorem HG{a b:List Int}(ha:kb a)(hb:kb b)(h:a≠[]\/b≠[]):∃x ta tb wa wb,a=(if wa then x::ta else ta)/\b=(if wb then x::tb else tb)/\(wa=true\/wb=true)/\(∀d,(d∈ta\/d∈tb)->x<d):=by
 match a,b,ha,hb,h with
 | [],[],_,_,h=>rcases h with h|h <;> exact absurd rfl h
 |x::ta,[],ha,_,_=>exact⟨x,ta,[],true,false,rfl,rfl, .inl rfl,λd hd=>by rcases hd with h|h;exact ha.head d h;cases h⟩
 | [],y::tb,_,hb,_=>exact⟨y,[],tb,false,true,rfl,rfl, .inr rfl,λd hd=>by rcases hd with h|h;cases h;exact hb.head d h⟩
 |x::ta,y::tb,ha,hb,_=>
  rcases Int.lt_trichotomy x y with h|h|h
  ·refine⟨x,ta,y::tb,true,false,rfl,rfl, .inl rfl,λd hd=>?_⟩
   rcases hd with h1|h1
   ·exact ha.head d h1
   ·rcases dO.1 h1 with rfl|h1
    ·exact h
    ·have:=hb.head d h1;omega
  ·subst h;exact⟨x,ta,tb,true,true,rfl,rfl, .inl rfl,λd hd=>by rcases hd with h|h;exact ha.head d h;exact hb.head d h⟩
  ·refine⟨y,x::ta,tb,false,true,rfl,rfl, .inr rfl,λd hd=>?_⟩
   rcases hd with h1|h1
   ·rcases dO.1 h1 with rfl|h1
    ·exact h
    ·have:=ha.head d h1;omega
   ·exact hb.head d h1
theorem JF{φ:Bool->Bool->Option Bool}{hQ:Bool->Bool->Bool}(hφ:∀p q,φ p q=some (hQ p q))(hk:hQ false false=false){a b:List Int}(ha:kb a)(hb:kb b)(hae:a.length % 2=0)(hbe:b.length % 2=0)
  (pU:a.length<=1099511627776) (hbl:b.length<=1099511627776) (hN:a.length+b.length<N):
  Ok (sd N a b φ) (λm=>kb m/\m.length % 2=0/\(∀x,pO m x=hQ (pO a x) (pO b x))/\∀c∈m,c∈a\/c∈b):=by
 unfold sd
 refine Td (Ua (Go:=λs=>kb s.2.2.1/\s.2.2.1.length % 2=0/\(∀x,pO s.2.2.1 x=hQ (pO a x) (pO b x))/\∀c∈s.2.2.1,c∈a\/c∈b) (Rt:=λ_=>True)
  (λs=>∃pa pb,GD hQ a b s.1 s.2.1 s.2.2.1 s.2.2.2.1 s.2.2.2.2.1 s.2.2.2.2.2 pa pb) (λs=>s.1.length+s.2.1.length) ?_ ?_ hN) ?_
 ·rintro⟨a',b',out,inA,inB,is⟩⟨pa,pb,I⟩;dsimp only at I ⊢;have ha':kb a':=by have:=ha;rw[I.ea]at this;exact(nL.1 this).2.1
  have hb':kb b':=by have:=hb;rw[I.eb]at this;exact(nL.1 this).2.1
  have hle:pa.length+a'.length=a.length:=by rw[I.ea];simp
  have hlb:pb.length+b'.length=b.length:=by rw[I.eb];simp
  have hlo:=I.len
  by_cases hne:a'≠[]\/b'≠[]
  ·obtain⟨x,ta,tb,wa,wb,h1,h2,hw,hx⟩:=HG ha' hb' hne;have J:=I.step ha hb x ta tb wa wb h1 h2 hw hx;have fin:∀(sa sb:List Int×Bool),sa=(ta,inA ^^ wa)->sb=(tb,inB ^^ wb)->
     Ok ((φ sa.2 sb.2).bind λx220=>(bif x220 != is then((app 8 out ([x]:List Int)).bind λx227=>some (x227,x220))else some (out,is)).bind λs224=>some<|Fl.nx (sa.1,sb.1,s224.1,sa.2,sb.2,s224.2))
      (LF (λs':List Int×List Int×List Int×Bool×Bool×Bool=>(∃pa pb,GD hQ a b s'.1 s'.2.1 s'.2.2.1 s'.2.2.2.1 s'.2.2.2.2.1 s'.2.2.2.2.2 pa pb)/\s'.1.length+s'.2.1.length<a'.length+b'.length) (λs=>kb s.2.2.1/\s.2.2.1.length % 2=0/\(∀x,pO s.2.2.1 x=hQ (pO a x) (pO b x))/\∀c∈s.2.2.1,c∈a\/c∈b) (λ_:Empty=>True)):=by
    rintro _ _ rfl rfl;refine SZ (hφ _ _) ?_;have hlt:ta.length+tb.length<a'.length+b'.length:=by
     rw[h1,h2]
     rcases hw with h|h
     ·subst h;cases wb <;> simp <;> omega
     ·subst h;cases wa <;> simp <;> omega
    by_cases he:hQ (inA ^^ wa) (inB ^^ wb)=is
    ·rw[aC he]at J;refine SZ (x:=(out,is)) (by rw[he,show(is != is)=false by simp,aT]) ?_;rw[he]at J;exact Tv ⟨⟨_,_,J⟩,hlt⟩
    ·rw[aD he]at J;refine SZ (x:=(out++[x],hQ (inA ^^ wa)<|inB ^^ wb)) (by rw[show(hQ (inA ^^ wa) (inB ^^ wb) != is)=true by simp[he],aQ,lq (by simp;omega),aB])<|Tv ⟨⟨_,_,J⟩,hlt⟩
   rcases hw with rfl|rfl
   ·rw[aC rfl]at h1;subst h1;refine SZ (x:=true) (by rw[lr,aQ]) ?_;rw[aQ];have hle2:(bif((b'.length:Nat):Int)==0 then some true else(bif decide ((((x::ta).length:Nat):Int)>0)then((idx (x::ta) 0).bind λx181=>(idx b' 0).bind λx183=>some<|decide<|x181<=x183)else some false))=some true:=by
     cases b' with
     |nil=>rfl
     |cons y b''=>
      rw[xz,aT,lr,aQ,kc,aB,kc,aB];have:x<=y:=by
       cases wb with
       |true=>simp at h2;omega
       |false=>have:=hx y (.inr (by simp at h2;rw[<-h2];simp));omega
      rw[bM this]
    refine SZ hle2 ?_;rw[aQ];refine SZ (x:=x) (by rw[kc,aB]) ?_;refine SZ (x:=true) (by rw[lr,aQ,kc,aB];simp) ?_;refine SZ (x:=(ta,!inA)) (by rw[aQ,uD,aB]) ?_
    cases wb with
    |true=>
     rw[aC rfl]at h2;subst h2;refine SZ (x:=true) (by rw[lr,aQ,kc,aB];simp) ?_;refine SZ (x:=(tb,!inB)) (by rw[aQ,uD,aB]) ?_;exact fin _ _ (by simp) (by simp)
    |false=>
     have h2:b'=tb:=h2;subst h2;refine SZ (x:=false) ?_ ?_
     ·cases b' with
      |nil=>rfl
      |cons y b''=>
       have:=hx y<|.inr (by simp)
       rw[lr,aQ,kc,aB,show(y==x)=false by rw[beq_eq_false_iff_ne];omega]
     ·refine SZ (x:=(b',inB)) (by rw[aT]) ?_;exact fin _ _ (by simp) (by simp)
   ·cases wa with
    |true=>
     rw[aC rfl]at h1 h2;subst h1;subst h2;refine SZ (x:=true) (by rw[lr,aQ]) ?_;rw[aQ];refine SZ (x:=true) (by rw[xz,aT,lr,aQ,kc,aB,kc,aB];simp) ?_;rw[aQ];refine SZ (x:=x) (by rw[kc,aB]) ?_;refine SZ (x:=true) (by rw[lr,aQ,kc,aB];simp) ?_;refine SZ (x:=(ta,!inA)) (by rw[aQ,uD,aB]) ?_;refine SZ (x:=true) (by rw[lr,aQ,kc,aB];simp) ?_;refine SZ (x:=(tb,!inB)) (by rw[aQ,uD,aB]) ?_;exact fin _ _ (by simp) (by simp)
    |false=>
     have h1:a'=ta:=h1;rw[aC rfl]at h2;subst h1;subst h2;refine SZ (x:=true) (by rw[lr,Mg];simp) ?_;rw[aQ];refine SZ (x:=false) ?_ ?_
     ·rw[xz,aT]
      cases a' with
      |nil=>rfl
      |cons y a''=>
       have:=hx y<|.inl (by simp)
       rw[lr,aQ,kc,aB,kc,aB,bP (by omega)]
     ·rw[aT];refine SZ (x:=x) (by rw[kc,aB]) ?_;refine SZ (x:=false) ?_ ?_
      ·cases a' with
       |nil=>rfl
       |cons y a''=>
        have:=hx y<|.inl (by simp)
        rw[lr,aQ,kc,aB,show(y==x)=false by rw[beq_eq_false_iff_ne];omega]
      ·refine SZ (x:=(a',inA)) (by rw[aT]) ?_;refine SZ (x:=true) (by rw[lr,aQ,kc,aB];simp) ?_;refine SZ (x:=(tb,!inB)) (by rw[aQ,uD,aB]) ?_;exact fin _ _ (by simp) (by simp)
  ·have ea:a'= []:=Classical.byContradiction λh=>hne<|.inl h
   have eb:b'= []:=Classical.byContradiction λh=>hne<|.inr h
   subst ea;subst eb;refine SZ (x:=false) rfl ?_;refine TE ⟨I.inc,?_,λx=>?_,λc hc=>?_⟩
   ·have h1:=I.ea;have h2:=I.eb;rw[mS]at h1 h2;have h3:JE out=false:=by
     rw[<-I.oo,I.ok,I.oa,I.ob,<-h1,<-h2];unfold JE;rw[hae,hbe];exact hk
    unfold JE at h3;rw[beq_eq_false_iff_ne]at h3;dsimp only;omega
   ·have:=I.QN x (λd hd=>by rcases hd with h|h <;> cases h);have h1:=I.ea;have h2:=I.eb;rw[mS]at h1 h2;rw[h1,h2];exact this
   ·have h1:=I.ea;have h2:=I.eb;rw[mS]at h1 h2;rw[h1,h2];exact I.mem c hc
 ·exact⟨[],[],rfl,rfl,rfl,rfl,rfl,hk.symm,λc hc=>(by rcases hc with h|h|h <;> cases h),kO,λx _=>hk.symm,λc hc=>(by cases hc),bV _⟩
 ·rintro o ho;exact TG ho (λs h=>S9 h)<|λr=>r.elim
theorem fC.app{s t:List Bd}(h:fC (s++t)):fC t:=⟨λb hb=>h.each b<|List.mem_append_right _ hb,(nL.1 h.ord).2.1⟩
theorem fC.low{b:Bd}{s:List Bd}(h:fC (b::s)):∀c∈b::s,b.y0<=c.y0:=λc hc=>by
 rcases dO.1 hc with rfl|hc
 ·exact Int.le_refl _
 ·have:=h.Cy c hc;have:=(h.each b (by simp)).1;omega
theorem fC.high{s:List Bd}{b:Bd}(h:fC (s++[b])):∀c∈s++[b],c.y1<=b.y1:=λc hc=>by
 rcases dS.1 hc with hc|hc
 ·have:=((nL.1 h.ord).2.2 c hc b (by simp)).1;have:=(h.each b (by simp)).1;omega
 ·simp at hc;subst hc;exact Int.le_refl _
def Hi(s:List aA)(y e:Int):List Int×Int:=match s with
 | []=>([],e)
 |b::_=>if y<b.Y0 then([],if b.Y0<e then b.Y0 else e)else(b.Xs,if b.Y1<e then b.Y1 else e)
theorem K1{α:Type}(x:α)(l:List α):idx (x::l) 0=some x:=rfl
theorem Nv(s:List aA)(y e:Int):nR N s y e=some (Hi s y e):=by
 unfold nR Hi
 cases s with
 |nil=>rfl
 |cons b s=>
  dsimp only;rw[xz,aT,K1,aB,aB,aB,aB]
  by_cases h:y<b.Y0
  ·rw[bM h,aQ,aC h]
  ·rw[bP h,aT,aD h]
theorem IF{s:List aA}{y e:Int}{X Y:List Int}(hc:fC (s.map cG))(hl:yV X Y (s.map cG))(hh:∀b t,s=b::t->y<b.Y1)(hy:y<e):
  y<(Hi s y e).2/\(Hi s y e).2<=e/\(∀y',y<=y'->y'<(Hi s y e).2->rowAt (s.map cG) y'=(Hi s y e).1)/\kb (Hi s y e).1/\(Hi s y e).1.length % 2=0/\((Hi s y e).2=e\/(Hi s y e).2∈Y)/\∀c∈(Hi s y e).1,c∈X:=by
 cases s with
 |nil=>exact⟨hy,Int.le_refl _,λy' _ _=>rfl,kO,rfl, .inl rfl,λc hc=>(by cases hc)⟩
 |cons b t=>
  have hb:=hc.each (cG b) (by simp);have hlb:=hl (cG b) (by simp);have h1:=hh b t rfl;unfold Hi;dsimp only
  by_cases h:y<b.Y0
  ·rw[aC h];dsimp only;refine⟨by split <;> omega,by split <;> omega,λy' h2 h3=>?_,kO,rfl,?_,λc hc=>(by cases hc)⟩
   ·exact hc.xv (by show y'<b.Y0;split at h3 <;> omega)
   ·split
    ·exact .inr hlb.1
    ·exact .inl rfl
  ·rw[aD h];dsimp only;refine⟨by split <;> omega,by split <;> omega,λy' h2 h3=>?_,hb.2.2.1,hb.2.2.2,?_,hlb.2.2⟩
   ·exact fC.nD (b:=cG b) (by show b.Y0<=y';omega) (by show y'<b.Y1;split at h3 <;> omega)
   ·split
    ·exact .inr hlb.2.1
    ·exact .inl rfl
theorem D4{y:Int}{a:List aA}(hN:a.length<N){body:List aA->Option (Fl (List aA) Empty)}
  (hb:body=λ(s373:List aA)=>((bif decide ((s373.length:Int)>0)then((idx s373 0).bind λx407=>some<|decide<|x407.Y1<=y)else some false).bind λs405=>bif s405 then((vF s373 1 (s373.length:Int)).bind λx410=>some<|.nx x410)else(some<|.br s373):Option (Fl (List aA) Empty))):
  Ok (kp body N a) (QK (λa'=>∃p,a=p++a'/\(∀c∈p,c.Y1<=y)/\∀b t,a'=b::t->y<b.Y1)<|λ_=>True):=by
 subst hb;refine Ua (λa'=>∃p,a=p++a'/\∀c∈p,c.Y1<=y) List.length ?_ ⟨[],rfl,λc hc=>(by cases hc)⟩ hN;rintro a'⟨p,e,hp⟩
 cases a' with
 |nil=>exact SZ (x:=false) rfl (TE ⟨p,e,hp,λb t h=>(by cases h)⟩)
 |cons b t=>
  refine SZ (x:=decide<|b.Y1<=y) (by rw[lr,aQ,K1,aB]) ?_;refine Ty (λh=>?_)<|λh=>TE ⟨p,e,hp,λb' t' h'=>?_⟩
  ·have h:=of_decide_eq_true h;refine SZ (uD b t)<|Tv ⟨⟨p++[b],by rw[e];simp,λc hc=>?_⟩,by simp⟩
   rcases dS.1 hc with hc|hc
   ·exact hp c hc
   ·simp at hc;subst hc;exact h
  ·have h:=of_decide_eq_false h;injection h' with h1 h2;subst h1;omega
theorem GF{p a':List Bd}{y y':Int}(hp:∀c∈p,c.y1<=y)(h:y<=y'):rowAt (p++a') y'=rowAt a' y':=by
 rw[rT,aD];rintro⟨b,hb,h1⟩;have:=hp b hb;omega
structure E2 (hQ:Bool->Bool->Bool) (X Y:List Int) (a b s:List aA):Prop where
 can:fC (s.map cG)
 cover:∀x y,vY (s.map cG) x y=hQ (vY (a.map cG) x y) (vY (b.map cG) x y)
 lim:yV X Y (s.map cG)
theorem CI{s:List aA}(hs:s≠[])(hl:s.length<=1099511627776)(hc:fC (s.map cG)):∃f l,idx s 0=some f/\idx s (wrap .i64<|((s.length:Nat):Int) - 1)=some l/\f∈s/\l∈s/\∀c∈s,f.Y0<=c.Y0/\c.Y1<=l.Y1:=by
 cases s with
 |nil=>exact absurd rfl hs
 |cons f t=>
  rw[gC (by simp) (by omega)];have hlt:(f::t).length - 1<(f::t).length:=by simp
  refine⟨f,(f::t)[(f::t).length - 1],rfl,lI _ _ hlt,by simp,dH _,λc hcm=>⟨?_,?_⟩⟩
  ·exact hc.low (cG c)<|dK.2 ⟨c,hcm,rfl⟩
  ·have e:(f::t)=(f::t).dropLast++[(f::t)[(f::t).length - 1]]:=by
    have:=List.dropLast_concat_getLast (show f::t≠[]by simp);rw[<-List.getLast_eq_getElem (h:=by simp)];exact this.symm
   generalize (f::t)[(f::t).length - 1]=l at e;have hc2:=hc;rw[e,fu]at hc2;have hm:cG c∈(List.map cG (f::t).dropLast++[cG l]):=by
    have:cG c∈(f::t).map cG:=dK.2 ⟨c,hcm,rfl⟩;rw[e,fu]at this;exact this
   exact fC.high hc2 (cG c) hm
theorem HH{φ:Bool->Bool->Option Bool}{hQ:Bool->Bool->Bool}(hφ:∀p q,φ p q=some (hQ p q))(hk:hQ false false=false){a b:List aA}{X Y:List Int}(ca:fC (a.map cG))(cb:fC (b.map cG))
  (la:yV X Y (a.map cG)) (lb:yV X Y (b.map cG)) (hX:X.length<=1048576000) (hY:Y.length<=1048576000) (hs:∀c∈Y,small c) (hN:4398046511104<=N):Ok (qF N a b φ) (E2 hQ X Y a b):=by
 have pU:a.length<=Y.length:=by have:=la.len ca;rwa[eL]at this
 have hbl:b.length<=Y.length:=by have:=lb.len cb;rwa[eL]at this
 unfold qF;rw[wrap_add (by omega)];refine Ty (λh=>S9 ?_)<|λh=>?_
 ·have h:a.length+b.length=0:=by have:=beq_iff_eq.1 h;omega
  have e1:a= []:=List.eq_nil_of_length_eq_zero (by omega);have e2:b= []:=List.eq_nil_of_length_eq_zero (by omega);subst e1;subst e2;exact⟨fC.nil,λx y=>hk.symm,λc hc=>(by cases hc)⟩
 have h0:a≠[]\/b≠[]:=by
  rw[beq_eq_false_iff_ne]at h
  by_cases e:a= []
  ·right;intro e2;subst e;subst e2;exact h rfl
  ·exact .inl e
 refine Td (T6 (λk s=>match k with| 0=>True| 1=>a= []\/((∀c∈a,s.1<=c.Y0/\c.Y1<=s.2)/\s.1∈Y/\s.2∈Y)|_=>(∀c∈a,s.1<=c.Y0/\c.Y1<=s.2)/\(∀c∈b,s.1<=c.Y0/\c.Y1<=s.2)/\s.1∈Y/\s.2∈Y) (by simp) trivial<|λk s hk hI=>?_) ?_
 ·obtain⟨y,e⟩:=s;have hk:k=0\/k=1:=by simp at hk;omega
  rcases hk with rfl|rfl
  ·refine Ti (x:=a) rfl ?_
   by_cases ea:a= []
   ·subst ea;exact SZ (x:=(y,e)) rfl<|S9<|.inl rfl
   ·obtain⟨f,l,f1,f2,f3,f4,f5⟩:=CI ea (by omega) ca;have hpos:decide (((a.length:Nat):Int)>0)=true:=bM (by have:=List.length_pos_iff.2 ea;omega);refine SZ (x:=(f.Y0,l.Y1)) ?_<|S9<|.inr ⟨f5,(la _<|dK.2 ⟨f,f3,rfl⟩).1,(la _<|dK.2 ⟨l,f4,rfl⟩).2.1⟩
    rw[hpos,aQ];show((some true).bind _)=_;rw[aB,aQ,f1,aB,f2,aB,aB,aB,aB];simp
  ·refine Ti (x:=b) rfl ?_;have hI:a= []\/((∀c∈a,y<=c.Y0/\c.Y1<=e)/\y∈Y/\e∈Y):=hI
   by_cases eb:b= []
   ·subst eb;refine SZ (x:=(y,e)) rfl<|S9 ?_
    rcases hI with h|⟨h1,h2,h3⟩
    ·rcases h0 with h'|h'
     ·exact absurd h h'
     ·exact absurd rfl h'
    ·exact⟨h1,λc hc=>(by cases hc),h2,h3⟩
   ·obtain⟨f,l,f1,f2,f3,f4,f5⟩:=CI eb (by omega) cb;have hpos:decide (((b.length:Nat):Int)>0)=true:=bM (by have:=List.length_pos_iff.2 eb;omega);have g1:f.Y0∈Y:=(lb _<|dK.2 ⟨f,f3,rfl⟩).1;have g2:l.Y1∈Y:=(lb _<|dK.2 ⟨l,f4,rfl⟩).2.1
    by_cases ea:a= []
    ·subst ea;refine SZ (x:=(f.Y0,l.Y1)) ?_<|S9 ⟨λc hc=>(by cases hc),f5,g1,g2⟩
     rw[hpos,aQ];show((some true).bind _)=_;rw[aB,aQ,f1,aB,f2,aB,aB,aB,aB];simp
    ·obtain⟨h1,h2,h3⟩:=hI.resolve_left ea;refine SZ (x:=(if f.Y0<y then f.Y0 else y,if e<l.Y1 then l.Y1 else e)) ?_<|S9 ⟨λc hc=>?_,λc hc=>?_,?_,?_⟩
     ·rw[hpos,aQ];have ez:(((a.length:Nat):Int)==0)=false:=by rw[beq_eq_false_iff_ne];have:=List.length_pos_iff.2 ea;omega
      rw[ez];show((some false).bind _)=_;rw[aB,aT,aB,f1,aB,f2,aB]
     ·have:=h1 c hc;dsimp only;split <;> split <;> omega
     ·have:=f5 c hc;dsimp only;split <;> split <;> omega
     ·dsimp only;split
      ·exact g1
      ·exact h2
     ·dsimp only;split
      ·exact g2
      ·exact h3
 ·rintro⟨y0,e0⟩hI;have hI:(∀c∈a,y0<=c.Y0/\c.Y1<=e0)/\(∀c∈b,y0<=c.Y0/\c.Y1<=e0)/\y0∈Y/\e0∈Y:=hI;obtain⟨ia,ib,iy,ie⟩:=hI;have sy:=hs _ iy;have se:=hs _ ie;unfold small at sy se;dsimp only
  refine Td (Ua (Go:=λs=>E2 hQ X Y a b s.2.2.1) (Rt:=λ_=>True)
   (λs=>∃pa pb,a=pa++s.1/\b=pb++s.2.1/\(∀c∈pa,c.Y1<=s.2.2.2)/\(∀c∈pb,c.Y1<=s.2.2.2)/\y0<=s.2.2.2/\s.2.2.2<=max y0 e0/\s.2.2.2∈Y/\fC (s.2.2.1.map cG)/\yV X Y (s.2.2.1.map cG)/\(∀c∈s.2.2.1,c.Y1<=s.2.2.2)/\
    ∀x y,vY (s.2.2.1.map cG) x y=(hQ (vY (a.map cG) x y) (vY (b.map cG) x y)&&decide (y<s.2.2.2)))
   (λs=>(e0 - s.2.2.2).toNat) ?_ ?_ (by dsimp only;omega)) ?_
  ·rintro⟨a',b',out,y⟩⟨pa,pb,ea,eb,hpa,hpb,hy0,hye,hyY,hcan,hlim,htop,hcov⟩;dsimp only at ea eb hpa hpb hy0 hye hyY hcan hlim htop hcov ⊢;refine Ty (λh=>?_)<|λh=>TE ?_
   ·have hlt:y<e0:=of_decide_eq_true h;have hsl:∀(p s t:List aA),t=p++s->s.length<=t.length:=λp s t e=>by rw[e];simp
    have hal':=hsl _ _ _ ea;have hbl':=hsl _ _ _ eb;refine Td (D4 (y:=y) (a:=a') (by omega) rfl)<|λo ho=>TG ho ?_<|λr=>r.elim
    rintro a2⟨qa,ea2,hqa,hha⟩;refine Td (D4 (y:=y) (a:=b') (by omega) rfl)<|λo ho=>TG ho ?_<|λr=>r.elim
    rintro b2⟨qb,eb2,hqb,hhb⟩;have ea3:a=(pa++qa)++a2:=by rw[ea,ea2];simp
    have eb3:b=(pb++qb)++b2:=by rw[eb,eb2];simp
    have hPa:∀c∈pa++qa,c.Y1<=y:=λc hc=>by rcases dS.1 hc with h|h;exact hpa c h;exact hqa c h
    have hPb:∀c∈pb++qb,c.Y1<=y:=λc hc=>by rcases dS.1 hc with h|h;exact hpb c h;exact hqb c h
    have ca2:fC (a2.map cG):=by have:=ca;rw[ea3,fu]at this;exact this.app
    have cb2:fC (b2.map cG):=by have:=cb;rw[eb3,fu]at this;exact this.app
    have la2:yV X Y (a2.map cG):=λc hc=>la c (by rw[ea3,fu];exact List.mem_append_right _ hc);have lb2:yV X Y (b2.map cG):=λc hc=>lb c (by rw[eb3,fu];exact List.mem_append_right _ hc);refine SZ (Nv a2 y e0)<|SZ (Nv b2 y e0) ?_
    obtain⟨a1,a3,a4,a5,a6,a7,a8⟩:=IF ca2 la2 hha hlt;obtain⟨b1,b3,b4,b5,b6,b7,b8⟩:=IF cb2 lb2 hhb hlt;have hal2:(Hi a2 y e0).1.length<=X.length:=ga a5.nodup a8;have hbl2:(Hi b2 y e0).1.length<=X.length:=ga b5.nodup b8;generalize Hi a2 y e0=pa2 at *;generalize Hi b2 y e0=pb2 at *;obtain⟨xa,n⟩:=pa2;obtain⟨xb,m⟩:=pb2;dsimp only at *;refine Td (JF hφ hk a5 b5 a6 b6 (by omega) (by omega) (by omega)) ?_;rintro row⟨r1,r2,r3,r4⟩;have hnx:∃nx,nx=(if m<n then m else n)/\y<nx/\nx<=e0/\nx<=n/\nx<=m/\nx∈Y:=by
     refine⟨_,rfl,by split <;> omega,by split <;> omega,by split <;> omega,by split <;> omega,?_⟩;split
     ·rcases b7 with h|h
      ·rw[h];exact ie
      ·exact h
     ·rcases a7 with h|h
      ·rw[h];exact ie
      ·exact h
    obtain⟨nx,hnx,n1,n2,n3,n4,n5⟩:=hnx;rw[<-hnx];have hol:out.length<=Y.length:=by have:=hlim.len hcan;rwa[eL]at this
    obtain⟨out',p1,p2⟩:=ID (N:=N) (s:=out) (b:=⟨y,nx,row⟩) (by omega) (λc hc=>by
     have:=hlim.row hcan (b:=cG c)<|dK.2 ⟨c,hc,rfl⟩
     have e:(cG c).xs=c.Xs:=rfl
     rw[e]at this;omega)
    refine SZ p1 ?_;have htop':∀c∈out.map cG,c.y1<=(cG ⟨y,nx,row⟩).y0:=λc hc=>by
     obtain⟨d,hd,rfl⟩:=dK.1 hc;exact htop d hd
    refine Tv ⟨⟨pa++qa,pb++qb,ea3,eb3,λc hc=>by have:=hPa c hc;dsimp only;omega,λc hc=>by have:=hPb c hc;dsimp only;omega,by dsimp only;omega,by dsimp only;omega,n5,by dsimp only;rw[p2];exact xx hcan htop' r1 r2,?_,λc hc=>?_,λx y'=>?_⟩,by dsimp only;omega⟩
    ·dsimp only;rw[p2];refine hlim.push hyY n5<|λc hc=>?_
     rcases r4 c hc with h|h
     ·exact a8 c h
     ·exact b8 c h
    ·have hm':cG c∈jS (out.map cG) (cG ⟨y,nx,row⟩):=by rw[<-p2];exact dK.2 ⟨c,hc,rfl⟩
     exact xy htop' (by show y<=nx;omega) _ hm'
    ·show pO (rowAt (out'.map cG) y') x=_;rw[p2,xw htop' (λc hc=>(hcan.each c hc).1)<|λh=>absurd h (by show ¬nx<=y;omega)]
     by_cases hyy:y<=y'/\y'<nx
     ·rw[aC (show(cG ⟨y,nx,row⟩).y0<=y'/\y'<(cG ⟨y,nx,row⟩).y1 from hyy),bM hyy.2,Bool.and_true];show pO row x=_;have mp:∀p q:List aA,(∀c∈p++q,c.Y1<=y)->∀c∈(p++q).map cG,c.y1<=y:=λp q h c hc=>by
       obtain⟨d,hd,rfl⟩:=dK.1 hc;exact h d hd
      have q1:vY (a.map cG) x y'=pO xa x:=by
       unfold vY;rw[ea3,fu,GF (mp _ _ hPa) hyy.1,a4 y' hyy.1 (by omega)]
      have q2:vY (b.map cG) x y'=pO xb x:=by
       unfold vY;rw[eb3,fu,GF (mp _ _ hPb) hyy.1,b4 y' hyy.1 (by omega)]
      rw[r3,q1,q2]
     ·rw[aD (show ¬((cG ⟨y,nx,row⟩).y0<=y'/\y'<(cG ⟨y,nx,row⟩).y1)from hyy)];show vY (out.map cG) x y'=_;rw[hcov]
      by_cases h1:y'<y
      ·rw[bM h1,bM (show y'<nx by omega)]
      ·rw[bP h1,bP (show ¬y'<nx by omega)]
   ·have hge:e0<=y:=by have:=of_decide_eq_false h;omega
    refine⟨hcan,λx y'=>?_,hlim⟩;dsimp only;rw[hcov]
    by_cases h1:y'<y
    ·rw[bM h1,Bool.and_true]
    ·have z:∀s:List aA,(∀c∈s,y0<=c.Y0/\c.Y1<=e0)->vY (s.map cG) x y'=false:=λs h=>by
      unfold vY;rw[mf λc hc=>?_]
      ·rfl
      ·obtain⟨d,hd,rfl⟩:=dK.1 hc;exact .inr (by have:=(h d hd).2;show d.Y1<=y';omega)
     rw[z a ia,z b ib,hk];rfl
  ·refine⟨[],[],rfl,rfl,λc hc=>(by cases hc),λc hc=>(by cases hc),Int.le_refl _,by dsimp only;omega,iy,fC.nil,λc hc=>(by cases hc),λc hc=>(by cases hc),λx y=>?_⟩;dsimp only;show false=_
   by_cases h1:y<y0
   ·have z:∀s:List aA,(∀c∈s,y0<=c.Y0/\c.Y1<=e0)->vY (s.map cG) x y=false:=λs h=>by
     unfold vY;rw[mf λc hc=>?_]
     ·rfl
     ·obtain⟨d,hd,rfl⟩:=dK.1 hc;exact .inl (by have:=(h d hd).1;show y<d.Y0;omega)
    rw[z a ia,z b ib,hk];rfl
   ·rw[bP h1,Bool.and_false]
  ·rintro o ho;exact TG ho (λs h=>S9 h)<|λr=>r.elim
theorem JG{a b:List aA}{X Y:List Int}(ca:fC (a.map cG))(cb:fC (b.map cG))(la:yV X Y (a.map cG))(lb:yV X Y (b.map cG))(hX:X.length<=1048576000)(hY:Y.length<=1048576000)(hs:∀c∈Y,small c)(hN:4398046511104<=N):
  Ok (lN N a b) (E2 (λp q=>p&& !q) X Y a b):=by
 unfold lN;exact Td (HH (hQ:=λp q=>p&& !q) (λp q=>rfl) rfl ca cb la lb hX hY hs hN)<|λs h=>S9 h
end
section
variable {N:Nat}
structure UF (n:Nat) (up:List Int) (r:Nat->Nat):Prop where
 len:up.length=n
 rt:∀i,i<n->∃u:Nat,up[i]? =some ((u:Nat):Int)/\u<=i/\r u=r i/\(u=i↔r i=i)
theorem UF.le{n:Nat}{up:List Int}{r:Nat->Nat}(h:UF n up r):∀i,i<n->r i<=i:=by
 intro i
 induction i using Nat.strongRecOn with
 |ind i ih=>
  intro hi;obtain⟨u,_,h2,h3,h4⟩:=h.rt i hi
  by_cases e:u=i
  ·rw[h4.1 e];exact bV _
  ·rw[<-h3];have:=ih u (by omega) (by omega);omega
theorem UF.rr{n:Nat}{up:List Int}{r:Nat->Nat}(h:UF n up r):∀i,i<n->r (r i)=r i:=by
 intro i
 induction i using Nat.strongRecOn with
 |ind i ih=>
  intro hi;obtain⟨u,_,h2,h3,h4⟩:=h.rt i hi
  by_cases e:u=i
  ·rw[h4.1 e,h4.1 e]
  ·rw[<-h3];exact ih u (by omega) (by omega)
theorem oT{l:List Int}{j:Nat}{v:Int}{i:Nat}(hj:j<l.length):(l.set j v)[i]? =if i=j then some v else l[i]? :=by
 rw[fO]
 by_cases e:j=i
 ·rw[aC e,aC e.symm,aC hj]
 ·rw[aD e,aD<|λh=>e h.symm]
theorem UF.init(n:Nat)(up:List Int)(h1:up.length=n)(h2:∀i,i<n->up[i]? =some ((i:Nat):Int)):UF n up (λi=>i):=
 ⟨h1,λi hi=>⟨i,h2 i hi,bV _,rfl,by simp⟩⟩
theorem Be{n:Nat}(hn:n<=1048576000):∃up,kq N ((n:Nat):Int)=some up/\UF n up (λi=>i):=by
 unfold kq;rw[oQ 0 (by omega),aB];have h0:(List.replicate n (0:Int)).length=n:=by simp
 obtain⟨s',h1,h2⟩:=BU (m:=(List.replicate n (0:Int)).length) (s:=List.replicate n (0:Int)) (body:=λ(k34:Nat)(s35:List Int)=>((idx s35 (k34:Int)).bind λx38=>some (s35.set (Int.toNat (k34:Int)) (k34:Int)):Option (List Int)))
  (λk s=>s.length=n/\∀i,i<k->s[i]? =some ((i:Nat):Int)) (by omega) ⟨h0,λi hi=>by omega⟩ (λk s hk⟨hs,hi⟩=>by
   refine⟨s.set k ((k:Nat):Int),?_,by simp[hs],λi hi'=>?_⟩
   ·rw[lI _ _ (by omega),aB,cN]
   ·rw[oT (by omega)];split
    ·rename_i e;rw[e]
    ·exact hi i (by omega))
 rw[h1,aB];exact⟨s',rfl,UF.init n s' h2.1<|λi hi=>h2.2 i (by omega)⟩
theorem wP{n:Nat}{up:List Int}{r:Nat->Nat}(h:UF n up r){i:Nat}(hi:i<n)(hn:n<N):∃up',fz N up ((i:Nat):Int)=some (((r i:Nat):Int),up')/\UF n up' r:=by
 unfold fz;obtain⟨o,h1,h2⟩:=zq (R:=Empty) (body:=λ(s32:List Int×Int)=>((idx s32.1 s32.2).bind λx43=>bif x43 != s32.2 then((idx s32.1 s32.2).bind λx44=>(idx s32.1 x44).bind λx45=>(idx s32.1 s32.2).bind λx46=>(idx (s32.1.set (Int.toNat s32.2) x45) s32.2).bind λx47=>some<|.nx (s32.1.set (Int.toNat s32.2) x45,x47))else(some<|.br (s32.1,s32.2)):Option (Fl (List Int×Int) Empty)))
  (λs=>UF n s.1 r/\∃j:Nat,s.2=((j:Nat):Int)/\j<n/\r j=r i) (λs=>s.2.toNat) (λs=>s.2=((r i:Nat):Int)/\UF n s.1 r) (λ_=>True) (λs⟨hu,j,hj,hjn,hr⟩=>by
   obtain⟨l,y⟩:=s;dsimp only at hu hj ⊢;subst hj;obtain⟨u,a1,a2,a3,a4⟩:=hu.rt j hjn;rw[eD a1,aB]
   by_cases e:u=j
   ·subst e;refine⟨.br (l,((u:Nat):Int)),by rw[show(((u:Nat):Int) != ((u:Nat):Int))=false by simp,aT],?_,hu⟩;show((u:Nat):Int)=_;rw[<-hr,a4.1 rfl]
   ·obtain⟨v,b1,b2,b3,b4⟩:=hu.rt u (by omega);have hl:=hu.len
    refine⟨.nx (l.set j ((v:Nat):Int),((v:Nat):Int)),by
     rw[show(((u:Nat):Int) != ((j:Nat):Int))=true by simp;omega,aQ,aB,eD b1,aB,aB,cN,
      eD (x:=((v:Nat):Int)) (by rw[oT (by omega),aC rfl]),aB],⟨⟨by simp[hl],λk hk=>?_⟩,v,rfl,by omega,?_⟩,?_⟩
    ·rw[oT (by omega)]
     by_cases e2:k=j
     ·subst e2;rw[aC rfl];refine⟨v,rfl,by omega,by rw[b3,a3],?_⟩;constructor
      ·intro h;omega
      ·intro h;exact absurd (a4.2 h) e
     ·rw[aD e2];exact hu.rt k hk
    ·rw[b3,a3,hr]
    ·simp only[cN];omega)
  N (up,((i:Nat):Int)) ⟨h,i,rfl,hi,rfl⟩ (by simp only[cN];omega)
 rw[h1,aB]
 cases o with
 |go s'=>exact⟨s'.1,by rw[<-h2.1];rfl,h2.2⟩
 |rt r=>exact r.elim
def pT(r:Nat->Nat)(a b:Nat):Nat->Nat:=λx=>if r x=max a b then min a b else r x
theorem K2(a b:Nat):(if((a:Nat):Int)<((b:Nat):Int)then((b:Nat):Int)else((a:Nat):Int))=((max a b:Nat):Int):=by
 rw[Nat.max_def];split <;> split <;> omega
theorem K3(a b:Nat):(if((b:Nat):Int)<((a:Nat):Int)then((b:Nat):Int)else((a:Nat):Int))=((min a b:Nat):Int):=by
 rw[Nat.min_def];split <;> split <;> omega
theorem Mp{n:Nat}{up:List Int}{r:Nat->Nat}(h:UF n up r){i k:Nat}(hi:i<n)(hk:k<n)(hn:n<N):
  ∃up',eP N up ((i:Nat):Int) ((k:Nat):Int)=some up'/\UF n up' (pT r (r i)<|r k):=by
 obtain⟨u1,a1,a2⟩:=wP h hi hn;obtain⟨u2,b1,b2⟩:=wP a2 hk hn;have hri:=h.le i hi;have hrk:=h.le k hk;have rri:=h.rr i hi;have rrk:=h.rr k hk;unfold eP;rw[a1,aB,b1,aB];dsimp only;rw[K2,K3];have hm:max (r i) (r k)<n:=by omega
 have hl:=b2.len;rw[lI _ _ (by omega),aB,cN];refine⟨_,rfl,by simp[hl],λx hx=>?_⟩;have rmax:r (max (r i)<|r k)=max (r i) (r k):=by rcases Nat.le_total (r i) (r k)with e|e <;> simp[Nat.max_def] <;> split <;> omega
 have rmin:r (min (r i)<|r k)=min (r i) (r k):=by rcases Nat.le_total (r i) (r k)with e|e <;> simp[Nat.min_def] <;> split <;> omega
 rw[oT (by omega)]
 by_cases e:x=max (r i) (r k)
 ·subst e;rw[aC rfl];refine⟨min (r i)<|r k,rfl,by omega,?_,?_⟩
  ·unfold pT;rw[rmin,rmax,aC rfl];split <;> rfl
  ·unfold pT;rw[rmax,aC rfl]
 ·rw[aD e];obtain⟨u,c1,c2,c3,c4⟩:=b2.rt x hx;refine⟨u,c1,c2,?_,?_⟩
  ·unfold pT;rw[c3]
  ·unfold pT;split
   ·rename_i e2;constructor
    ·intro hu;have:=c4.1 hu;omega
    ·intro hu;have h1:=b2.le x hx;have:min (r i) (r k)=max (r i) (r k)\/x<max (r i) (r k):=by omega
     have h3:x=max (r i) (r k):=by omega
     exact absurd h3 e
   ·exact c4
def q8(r:Nat->Nat)(E:List (Nat×Nat)):Prop:=∀p∈E,r p.1=r p.2
def BE(n:Nat)(r:Nat->Nat)(E:List (Nat×Nat)):Prop:=∀S:Nat->Prop,(∀p∈E,S p.1↔S p.2)->∀i j,i<n->j<n->r i=r j->S i->S j
theorem q8.join{r:Nat->Nat}{E:List (Nat×Nat)}(h:q8 r E)(i k:Nat)(_h2:r (r i)=r i):q8 (pT r (r i)<|r k) (E++[(i,k)]):=λp hp=>by
 rcases dS.1 hp with hp|hp
 ·unfold pT;rw[h p hp]
 ·simp at hp;subst hp;unfold pT;dsimp only;split <;> split <;> omega
theorem BE.join{n:Nat}{r:Nat->Nat}{E:List (Nat×Nat)}(h:BE n r E){i k:Nat}(hi:i<n)(hk:k<n):BE n (pT r (r i)<|r k) (E++[(i,k)]):=λS hS x y hx hy hr hSx=>by
 have hE:∀p∈E,S p.1↔S p.2:=λp hp=>hS p<|List.mem_append_left _ hp
 have hik:S i↔S k:=hS (i,k) (by simp);have key:=h S hE;unfold pT at hr
 by_cases h1:r x=r y
 ·exact key x y hx hy h1 hSx
 ·have:(r x=r i/\r y=r k)\/(r x=r k/\r y=r i):=by
   split at hr <;> split at hr <;> omega
  rcases this with⟨e1,e2⟩|⟨e1,e2⟩
  ·exact key k y hk hy e2.symm<|hik.1<|key x i hx hi e1 hSx
  ·exact key i y hi hy e2.symm<|hik.2<|key x k hx hk e1 hSx
theorem BE.id(n:Nat):BE n (λi=>i) []:=λS _ i j _ _ h hs=>by
 have h:i=j:=h;subst h;exact hs
theorem q8.id:q8 (λi=>i) []:=λp hp=>by simp at hp
def cE(n:Nat)(r:Nat->Nat):List Nat:=(List.range n).filter<|λk=>decide<|r k=k
def cls(n:Nat)(r:Nat->Nat)(k:Nat):List Nat:=(List.range n).filter<|λi=>decide<|r i=k
theorem je(n:Nat)(r:Nat->Nat):cE (n+1) r=if r n=n then cE n r++[n]else cE n r:=by
 unfold cE;rw[List.range_succ,k8]
 by_cases h:r n=n
 ·rw[aC h];simp[h]
 ·rw[aD h];simp[h]
theorem wQ(n:Nat)(r:Nat->Nat)(k:Nat):cls (n+1) r k=if r n=k then cls n r k++[n]else cls n r k:=by
 unfold cls;rw[List.range_succ,k8]
 by_cases h:r n=k
 ·rw[aC h];simp[h]
 ·rw[aD h];simp[h]
theorem qp(n:Nat)(r:Nat->Nat):(cE n r).length<=n:=by
 have:=pw (λk=>decide<|r k=k)<|List.range n
 rw[List.length_range]at this;exact this
theorem E3(n:Nat)(r:Nat->Nat)(k:Nat):(cls n r k).length<=n:=by
 have:=pw (λi=>decide<|r i=k)<|List.range n
 rw[List.length_range]at this;exact this
theorem jT{n k:Nat}{r:Nat->Nat}:k∈cE n r↔k<n/\r k=k:=by unfold cE;simp
theorem po(n:Nat)(r:Nat->Nat):(cE n r).Nodup:=List.Nodup.sublist List.filter_sublist List.nodup_range
def sP(n:Nat)(r:Nat->Nat):List (List Int):=(cE n r).map<|λk=>(cls n r k).map<|λi=>((i:Nat):Int)
theorem IG{n k:Nat}{r:Nat->Nat}(h:∀i,i<n->r i<=i)(hk:n<=k):cls n r k= []:=by
 unfold cls;rw[List.filter_eq_nil_iff];intro i hi;have h1:=oH.1 hi;have:=h i h1;simp;omega
theorem wR{α β:Type}(f g:α->β)(l:List α)(j:Nat)(a:α)(hn:l.Nodup)(hj:l[j]? =some a)(hf:∀b,b∈l->b≠a->f b=g b):(l.map f).set j (g a)=l.map g:=by
 apply List.ext_getElem?;intro i;have hjl:=(bE.1 hj).1;rw[fO,eL,iZ,iZ]
 by_cases e:j=i
 ·subst e;rw[aC rfl,aC hjl,hj];rfl
 ·rw[aD e]
  cases hb:l[i]? with
  |none=>rfl
  |some b=>
   have hne:b≠a:=λhe=>by
    subst he;have hil:=(bE.1 hb).1;exact e<|(List.getElem_inj hn).1 (by rw[(bE.1 hb).2,(bE.1 hj).2]) |>.symm
   show some (f b)=some (g b);rw[hf b (fK hb) hne]
def QO(n:Nat)(r:Nat->Nat)(m:List (Int×Int)):Prop:=∀(j k:Nat),(cE n r)[j]? =some k->fS m ((k:Nat):Int) 0=((j:Nat):Int)
theorem Mq{n:Nat}{up:List Int}{r:Nat->Nat}(h:UF n up r)(hn:n<N)(hn2:n<=1048576000):∃up',kG N up=some (sP n r,up')/\UF n up' r:=by
 unfold kG;have hlen:=h.len;have hle:=h.le;have hrr:=h.rr;obtain⟨s',h1,h2⟩:=BU (m:=up.length) (s:=(up,([]:List (List Int)),([]:List (Int×Int))))
  (body:=λ(k32:Nat)(s33:List Int×List (List Int)×List (Int×Int))=>((fz N s33.1 (k32:Int)).bind λx117=>(bif x117.1==(k32:Int)then((app 24 s33.2.1 [([]:List Int)]).bind λx126=>some (x126,qE s33.2.2 (k32:Int) (s33.2.1.length:Int)))else some (s33.2.1,s33.2.2)).bind λs122=>(idx s122.1<|fS s122.2 x117.1 (0:Int)).bind λx128=>(app 8 x128 ([(k32:Int)]:List Int)).bind λx134=>(idx s122.1<|fS s122.2 x117.1 (0:Int)).bind λx136=>some (x117.2,s122.1.set (Int.toNat<|fS s122.2 x117.1 (0:Int)) x134,s122.2):Option (List Int×List (List Int)×List (Int×Int))))
  (λk s=>UF n s.1 r/\s.2.1=sP k r/\QO k r s.2.2) (by omega) ⟨h,rfl,λj k hj=>by simp[cE]at hj⟩ (λk s hk⟨hu,hs,hm⟩=>by
   obtain⟨l,ss,m⟩:=s;dsimp only at hu hs hm ⊢;subst hs;rw[hlen]at hk;obtain⟨u',a1,a2⟩:=wP hu hk hn;rw[a1,aB];dsimp only;have hhl:=qp k r;have hsl:(sP k r).length=(cE k r).length:=by unfold sP;simp
   have hrk:=hle k hk
   by_cases e:r k=k
   ·
    rw[show(((r k:Nat):Int)==((k:Nat):Int))=true by rw[e];simp,aQ,lq (by rw[hsl];simp;omega),aB,aB];dsimp only;rw[e,ql,aC rfl,hsl];have hi:(sP k r++[([]:List Int)])[(cE k r).length]? =some []:=by rw[<-hsl,hU<|bV _,Nat.sub_self];rfl
    rw[eD hi,aB,lq (by simp),aB,aB,cN];refine⟨_,rfl,a2,?_,λj q hj=>?_⟩
    ·dsimp only;rw[<-hsl,List.set_append_right _ _<|bV _,Nat.sub_self];unfold sP;rw[je,aC e,fu];congr 1
     ·apply List.map_congr_left;intro a ha;have:=(jT.1 ha).1;rw[wQ,aD (by omega)]
     ·simp only[List.set_cons_zero,eB,List.map_nil,List.nil_append];rw[wQ,aC e,IG (λi hi=>hle i (by omega))<|bV _];rfl
    ·dsimp only;rw[je,aC e]at hj;rw[ql]
     by_cases e2:j<(cE k r).length
     ·rw[gN e2]at hj;have:=(jT.1<|fK hj).1;rw[aD (by omega)];exact hm j q hj
     ·rw[hU (by omega)]at hj;have hj0:j -(cE k r).length=0:=by
       have:=(bE.1 hj).1;simp at this;omega
      rw[hj0]at hj;simp at hj;subst hj;rw[aC rfl];congr 1;omega
   ·rw[show(((r k:Nat):Int)==((k:Nat):Int))=false by simp;omega,aT,aB];dsimp only;have hh:r k∈cE k r:=jT.2 ⟨by omega,hrr k hk⟩;obtain⟨j,hj⟩:=eX hh;rw[hm j (r k) hj];have hcl:=E3 k r<|r k
    have hi:(sP k r)[j]? =some ((cls k r<|r k).map<|λi=>((i:Nat):Int)):=by unfold sP;rw[iZ,hj];rfl
    rw[eD hi,aB,lq (by simp;omega),aB,aB,cN];refine⟨_,rfl,a2,?_,λj' q hj'=>?_⟩
    ·unfold sP;rw[je,aD e]
     have:=wR (λa=>(cls k r a).map (λi=>((i:Nat):Int))) (λa=>(cls (k+1) r a).map (λi=>((i:Nat):Int))) (cE k r) j (r k) (po k r) hj (λb hb hne=>by
      rw[wQ,aD (λh=>hne h.symm)])
     rw[wQ,aC rfl,fu]at this;exact this
    ·rw[je,aD e]at hj';exact hm j' q hj')
 rw[h1,aB];obtain⟨l,ss,m⟩:=s';dsimp only at h2;rw[hlen]at h2;refine⟨l,?_,h2.1⟩;rw[<-h2.2.1]
end
section
variable {N:Nat}
theorem E4{n:Nat}{up:List Int}{r:Nat->Nat}(h:UF n up r){i:Nat}(hi:i<n)(hn:n<N):∃up',fW N ((i:Nat):Int) up=some (((r i:Nat):Int),up')/\UF n up' r:=by
 unfold fW
 have:=Td (β:=Int×List Int) (Q:=λx=>x.1=((r i:Nat):Int)/\UF n x.2 r) (Ua (body:=λ(s32:Int×(List Int))=>((idx s32.2 s32.1).bind λx43=>bif(x43 != s32.1)then((idx s32.2 s32.1).bind λx44=>(idx s32.2 x44).bind λx45=>(idx s32.2 s32.1).bind λx46=>(idx (s32.2.set (Int.toNat s32.1) x45) s32.1).bind λx47=>some (.nx (x47,(s32.2.set (Int.toNat s32.1) x45))))else(some (.br (s32.1,s32.2))):Option (Fl (Int×(List Int)) Empty)))
  (N:=N) (s:=(((i:Nat):Int),up)) (Go:=λs=>s.1=((r i:Nat):Int)/\UF n s.2 r) (Rt:=λ_=>True) (λs=>UF n s.2 r/\∃j:Nat,s.1=((j:Nat):Int)/\j<n/\r j=r i) (λs=>s.1.toNat) (by
   rintro⟨y,l⟩⟨hu,j,hj,hjn,hr⟩;dsimp only at hu hj ⊢;subst hj;obtain⟨u,a1,a2,a3,a4⟩:=hu.rt j hjn;refine Ti a1 ?_
   by_cases e:u=j
   ·subst e;rw[show(((u:Nat):Int) != ((u:Nat):Int))=false by simp,aT];refine TE ⟨?_,hu⟩;show((u:Nat):Int)=_;rw[<-hr,a4.1 rfl]
   ·obtain⟨v,b1,b2,b3,b4⟩:=hu.rt u (by omega);have hl:=hu.len;rw[show(((u:Nat):Int) != ((j:Nat):Int))=true by simp;omega,aQ];refine Ti a1<|Ti b1<|Ti a1<|Ti (x:=((v:Nat):Int)) (by rw[cN,oT (by omega),aC rfl])<|Tv ⟨⟨⟨by simp[hl],λk hk=>?_⟩,v,rfl,by omega,?_⟩,?_⟩
    ·rw[cN,oT (by omega)]
     by_cases e2:k=j
     ·subst e2;rw[aC rfl];refine⟨v,rfl,by omega,by rw[b3,a3],?_⟩;constructor
      ·intro h;omega
      ·intro h;exact absurd (a4.2 h) e
     ·rw[aD e2];exact hu.rt k hk
    ·rw[b3,a3,hr]
    ·simp only[cN];omega)
  ⟨h,i,rfl,hi,rfl⟩ (by simp only[cN];omega))
  (λo ho=>TG (f:=λ(s32:Int×List Int)=>some (s32.1,s32.2)) (g:=λr:Empty=>r.elim) ho (λs h=>S9 h)<|λr=>r.elim)
 obtain⟨⟨x,up'⟩,h1,h2,h3⟩:=this;exact⟨up',by rw[<-h2];exact h1,h3⟩
theorem K4{n:Nat}{up:List Int}{r:Nat->Nat}(h:UF n up r){i k:Nat}(hi:i<n)(hk:k<n){f:List Int->Option (List Int)}(hn:n<N):
  ∃up',((fW N ((i:Nat):Int) up).bind λx840=>(fW N ((k:Nat):Int) x840.2).bind λx842=>(idx x842.2 (if x840.1<x842.1 then x842.1 else x840.1)).bind λx844=>some<|x842.2.set (Int.toNat (if x840.1<x842.1 then x842.1 else x840.1)) (if x842.1<x840.1 then x842.1 else x840.1))=some up'/\UF n up' (pT r (r i)<|r k):=by
 obtain⟨u1,a1,a2⟩:=E4 h hi hn;obtain⟨u2,b1,b2⟩:=E4 a2 hk hn;obtain⟨v1,c1,c2⟩:=wP h hi hn;have hri:=h.le i hi;have hrk:=h.le k hk;have rri:=h.rr i hi;have rrk:=h.rr k hk;rw[a1,aB,b1,aB];dsimp only;rw[K2,K3];have hm:max (r i) (r k)<n:=by omega
 have hl:=b2.len;rw[lI _ _ (by omega),aB,cN];refine⟨_,rfl,by simp[hl],λx hx=>?_⟩;have rmax:r (max (r i)<|r k)=max (r i) (r k):=by rcases Nat.le_total (r i) (r k)with e|e <;> simp[Nat.max_def] <;> split <;> omega
 have rmin:r (min (r i)<|r k)=min (r i) (r k):=by rcases Nat.le_total (r i) (r k)with e|e <;> simp[Nat.min_def] <;> split <;> omega
 rw[oT (by omega)]
 by_cases e:x=max (r i) (r k)
 ·subst e;rw[aC rfl];refine⟨min (r i)<|r k,rfl,by omega,?_,?_⟩
  ·unfold pT;rw[rmin,rmax,aC rfl];split <;> rfl
  ·unfold pT;rw[rmax,aC rfl]
 ·rw[aD e];obtain⟨u,c1,c2,c3,c4⟩:=b2.rt x hx;refine⟨u,c1,c2,?_,?_⟩
  ·unfold pT;rw[c3]
  ·unfold pT;split
   ·rename_i e2;constructor
    ·intro hu;have:=c4.1 hu;omega
    ·intro hu;have h1:=b2.le x hx;have h3:x=max (r i) (r k):=by omega
     exact absurd h3 e
   ·exact c4
def jr(s:List aA)(k:Nat):Nat:=(aU<|s.take k).length
theorem AJ{s:List aA}{k:Nat}(h:k<s.length):jr s (k+1)=jr s k+s[k].Xs.length / 2:=by
 unfold jr;rw[fJ h,oE,dG];show _+(aU [s[k]]).length=_;rw[show aU [s[k]]=nE s[k]by simp[aU],nX]
theorem AK{s:List aA}{k m:Nat}(h:k<=m):jr s k<=jr s m:=by
 unfold jr;have:=AG (s.take m) k;rwa[List.take_take,Nat.min_eq_left h]at this
theorem GG(s:List aA):jr s s.length=(aU s).length:=by unfold jr;rw[gj]
theorem Mr{s:List aA}{k t:Nat}(h:k<s.length)(ht:2*t+1<s[k].Xs.length):(aU s)[jr s k+t]? =some ⟨s[k].Xs[2*t],s[k].Y0,s[k].Xs[2*t+1],s[k].Y1⟩:=by
 have e:aU s=aU (s.take k)++(nE s[k]++aU (s.drop<|k+1)):=by
  conv=>lhs;rw[<-List.take_append_drop k s,tj h]
  rw[oE,nF]
 rw[e];unfold jr;rw[hU (by omega),Nat.add_sub_cancel_left,gN (by rw[nX];omega)];unfold nE;rw[iZ,zM _ _ ht];rfl
theorem II{s:List aA}{i:Nat}(h:i<(aU s).length):∃k,k<s.length/\jr s k<=i/\i<jr s (k+1):=by
 have key:∀m,m<=s.length->i<jr s m->∃k,k<m/\jr s k<=i/\i<jr s (k+1):=by
  intro m
  induction m with
  |zero=>intro _ h;unfold jr at h;simp[aU]at h
  |succ m ih=>
   intro hm hi
   by_cases h1:i<jr s m
   ·obtain⟨k,hk,h2⟩:=ih (by omega) h1;exact⟨k,by omega,h2⟩
   ·exact⟨m,by omega,by omega,hi⟩
 exact key s.length (bV _) (by rw[GG];exact h)
def E5(a c:aI):Prop:=a.Y1=c.Y0/\a.X0<c.X1/\c.X0<a.X1
def Ag(all:List aI)(i j:Nat):Prop:=∃a c,all[i]? =some a/\all[j]? =some c/\E5 a c
theorem xA{s:List aA}(he:∀b∈s,b.Xs.length % 2=0){k i:Nat}(hk:k<s.length)(h1:jr s k<=i)(h2:i<jr s (k+1)):∃t,i=jr s k+t/\∃h:2*t+1<s[k].Xs.length,(aU s)[i]? =some ⟨s[k].Xs[2*t],s[k].Y0,s[k].Xs[2*t+1],s[k].Y1⟩:=by
 rw[AJ hk]at h2;have:=he _<|dH hk
 refine⟨i - jr s k,by omega,by omega,?_⟩;have h3:=Mr (t:=i - jr s k) hk (by omega);rwa[show jr s k+(i - jr s k)=i by omega]at h3
theorem CJ{s:List aA}(hc:fC (s.map cG)){p q:Nat}(hp:p<s.length)(hq:q<s.length)(h:p<q):s[p].Y1<=s[q].Y0:=by
 have:=mT.1 hc.ord p q (by simp;omega) (by simp;omega) h;simp only[List.getElem_map]at this;exact this.1
theorem CK{s:List aA}(hc:fC (s.map cG)){p:Nat}(hp:p<s.length):s[p].Y0<s[p].Y1:=(hc.each (cG s[p])<|dK.2 ⟨_,dH hp,rfl⟩).1
theorem uE{s:List aA}(hc:fC (s.map cG)):∀b∈s,b.Xs.length % 2=0:=λb hb=>(hc.each (cG b)<|dK.2 ⟨b,hb,rfl⟩).2.2.2
theorem IJ{s:List aA}(hc:fC (s.map cG)):∀b∈s,kb b.Xs:=λb hb=>(hc.each (cG b)<|dK.2 ⟨b,hb,rfl⟩).2.2.1
theorem GH{s:List aA}(hc:fC (s.map cG)){i j q:Nat}(hq:q<s.length)(h1:jr s q<=j)(h2:j<jr s (q+1))(ht:Ag (aU s) i j):∃hq0:0<q,s[q - 1].Y1=s[q].Y0/\jr s (q - 1)<=i/\i<jr s q:=by
 obtain⟨a,c,ha,hb,e1,e2,e3⟩:=ht;obtain⟨t,e4,ht,hj⟩:=xA (uE hc) hq h1 h2;rw[hj]at hb;injection hb with hb;subst hb
 have hil:=(bE.1 ha).1;obtain⟨p,hp,p1,p2⟩:=II hil;obtain⟨u,e5,hu,hi⟩:=xA (uE hc) hp p1 p2;rw[hi]at ha;injection ha with ha;subst ha
 have e1:s[p].Y1=s[q].Y0:=e1;have hpp:=CK hc hp;have hqq:=CK hc hq;have hpq:p+1=q:=by
  rcases Nat.lt_trichotomy p q with h|h|h
  ·by_cases h':p+1=q
   ·exact h'
   ·have h3:=CJ hc hp (show p+1<s.length by omega) (by omega);have h4:=CJ hc (show p+1<s.length by omega) hq (by omega);have h5:=CK hc (show p+1<s.length by omega);omega
  ·subst h;omega
  ·have:=CJ hc hq hp h;omega
 subst hpq;exact⟨by omega,e1,p1,p2⟩
structure PJ (all:List aI) (n:Nat) (up:List Int) (r:Nat->Nat) (E:List (Nat×Nat)):Prop where
 uf:UF n up r
 co:q8 r E
 fi:BE n r E
 so:∀p∈E,Ag all p.1 p.2
theorem PJ.join{all:List aI}{n:Nat}{up up':List Int}{r:Nat->Nat}{E:List (Nat×Nat)}(h:PJ all n up r E){i j:Nat}(hi:i<n)(hj:j<n)(hu:UF n up' (pT r (r i)<|r j))(ht:Ag all i j):PJ all n up' (pT r (r i)<|r j) (E++[(i,j)]):=
 ⟨hu,h.co.join i j (h.uf.rr i hi),h.fi.join hi hj,λp hp=>by
  rcases dS.1 hp with hp|hp
  ·exact h.so p hp
  ·simp at hp;subst hp;exact ht⟩
structure Joined (all:List aI) (r:Nat->Nat):Prop where
 le:∀i,i<all.length->r i<=i
 rr:∀i,i<all.length->r (r i)=r i
 co:∀i j,Ag all i j->r i=r j
 fi:∀S:Nat->Prop,(∀i j,Ag all i j->(S i↔S j))->∀i j,i<all.length->j<all.length->r i=r j->S i->S j
def oe(all:List aI)(n:Nat)(r:Nat->Nat)(h:Nat):List aI:=(cls n r h).filterMap<|λi=>all[i]?
theorem CL(all:List aI)(n:Nat)(r:Nat->Nat)(h:Nat):(oe all n r h).length<=n:=by
 have h1:=List.length_filterMap_le (λi=>all[i]?)<|cls n r h
 have h2:=E3 n r h;unfold oe;omega
theorem xB{all:List aI}{n:Nat}{r:Nat->Nat}(h:Nat){x:aI}(hx:all[n]? =some x):oe all (n+1) r h=if r n=h then oe all n r h++[x]else oe all n r h:=by
 unfold oe;rw[wQ];split
 ·rw[List.filterMap_append];simp[hx]
 ·rfl
theorem mx{all:List aI}{n:Nat}{r:Nat->Nat}{h:Nat}{x:aI}:x∈oe all n r h↔∃i,i<n/\r i=h/\all[i]? =some x:=by
 unfold oe cls;rw[List.mem_filterMap];constructor
 ·rintro⟨i,hi,h⟩;have:=lE.1 hi;exact⟨i,oH.1 this.1,by simpa using this.2,h⟩
 ·rintro⟨i,h1,h2,h3⟩;exact⟨i,lE.2 ⟨oH.2 h1,by simpa using h2⟩,h3⟩
structure tv (s:List aA) (r:Nat->Nat) (ps:List (List aA)):Prop where
 join:Joined (aU s) r
 len:ps.length=(cE (aU s).length r).length
 each:∀(j h:Nat)(p:List aA),(cE (aU s).length r)[j]? =some h->ps[j]? =some p->sO (oe (aU s) (aU s).length r h) p
def Sm(n:Nat)(r:Nat->Nat)(m:List (Int×Int)):Prop:=(∀(j k:Nat),(cE n r)[j]? =some k->fS m ((k:Nat):Int) 0=((j:Nat):Int))/\∀k:Nat,lY m ((k:Nat):Int)=decide (k∈cE n r)
theorem HI{s:List aA}{X Y:List Int}(hc:fC (s.map cG))(hl:yV X Y (s.map cG))(hX:∀c∈X,small c)(hY:∀c∈Y,small c)(h1:s.length<=1073741824)(h2:∀b∈s,b.Xs.length<=1073741824)(h3:(aU s).length<=134217728)(hN:4398046511104<=N):
  Ok (mn N s) (λps=>∃r,tv s r ps):=by
 unfold mn;have hev:=uE hc;have hinc:=IJ hc;refine SZ (CF hev (by omega) (λb hb=>by have:=h2 b hb;omega) (by omega)) ?_;have hok:=CG hc hl hX hY;have hall:jr s s.length=(aU s).length:=GG s;generalize hn:(aU s).length=n at *;refine SZ (oQ 0 (by omega)) ?_;rw[show((List.replicate n (0:Int)).length)=n by simp];refine Td (T6 (λk up=>up.length=n/\∀i,i<k->up[i]? =some ((i:Nat):Int)) (by omega) ⟨by simp,λi hi=>by omega⟩<|λk up hk hI=>?_) ?_
 ·obtain⟨hs,hi⟩:=hI;refine TY (by omega)<|S9 ⟨by simp[hs],λi hi'=>?_⟩
  rw[cN,oT (by omega)];split
  ·rename_i e;rw[e]
  ·exact hi i (by omega)
 rintro up0⟨hu1,hu2⟩
 refine Td (T6 (λk st=>st.2.1=((jr s k:Nat):Int)/\(0<k->st.2.2=((jr s (k - 1):Nat):Int))/\∃r E,PJ (aU s) n st.1 r E/\∀q,q<k->∀i j,jr s q<=j->j<jr s (q+1)->Ag (aU s) i j->(i,j)∈E) (by omega)
  ⟨rfl,λh=>by omega,_,_,⟨UF.init n up0 hu1 hu2,q8.id,BE.id n,λp hp=>(by cases hp)⟩,λq hq=>by omega⟩ (λk st hk hI=>?_)) ?_
 ·obtain⟨up,a,b⟩:=st;obtain⟨e1,e2,r,E,hP,hE⟩:=hI;dsimp only at e1 e2 hP ⊢;subst e1;refine TY hk ?_;have hoff:=AJ hk;have hoffle:jr s (k+1)<=n:=by rw[<-hall];exact AK hk
  have hkm:=dH hk;have hlen:wrap .i64 (Int.tdiv ((s[k].Xs.length:Nat):Int) 2)=((s[k].Xs.length / 2:Nat):Int):=by
   have:=h2 _ hkm;rw[show(2:Int)=((2:Nat):Int)by rfl,<-Int.ofNat_tdiv,GC (by omega)]
  rw[hlen,wrap_add (by omega),<-hoff];refine Td (P:=λc=>c=true↔∃h0:0<k,s[k - 1].Y1=s[k].Y0) ?_<|λc hcc=>?_
  ·refine Ty (λh=>?_)<|λh=>S9 ?_
   ·have hpos:0<k:=by have:=of_decide_eq_true h;omega
    rw[gC hpos (by omega)];refine TY (by omega)<|S9 ?_
    rw[beq_iff_eq];exact⟨λh=>⟨hpos,h⟩,λ⟨_,h⟩=>h⟩
   ·have:=of_decide_eq_false h;constructor
    ·intro h;cases h
    ·rintro⟨h0,_⟩;omega
  refine Td (P:=λup'=>∃r E,PJ (aU s) n up' r E/\∀q,q<k+1->∀i j,jr s q<=j->j<jr s (q+1)->Ag (aU s) i j->(i,j)∈E) ?_<|λup' hI=>S9 ⟨rfl,λ_=>rfl,hI⟩
  refine Ty (λh=>?_)<|λh=>S9 ⟨r,E,hP,λq hq i j q1 q2 ht=>?_⟩
  ·obtain⟨hpos,hyy⟩:=hcc.1 h;rw[e2 hpos];have hoffp:=AJ (show k - 1<s.length by omega);rw[show k - 1+1=k by omega]at hoffp
   refine Td (Ua (Go:=λst=>∃r E,PJ (aU s) n st.1 r E/\∀q,q<k+1->∀i j,jr s q<=j->j<jr s (q+1)->Ag (aU s) i j->(i,j)∈E) (Rt:=λ_=>True)
    (λst=>∃i j:Nat,st.2.1=((i:Nat):Int)/\st.2.2=((j:Nat):Int)/\jr s (k - 1)<=i/\i<=jr s k/\jr s k<=j/\j<=jr s (k+1)/\∃r E,PJ (aU s) n st.1 r E/\(∀q,q<k->∀i j,jr s q<=j->j<jr s (q+1)->Ag (aU s) i j->(i,j)∈E)/\
     ∀i' j',jr s (k - 1)<=i'->i'<jr s k->jr s k<=j'->j'<jr s (k+1)->(i'<i\/j'<j)->Ag (aU s) i' j'->(i',j')∈E)
    (λst=>(n - st.2.1.toNat)+(n - st.2.2.toNat)) ?_ ?_ (by simp only[cN];omega)) (λo ho=>TG ho (λst h=>S9 h) (λr=>r.elim))
   ·rintro⟨up,a,b⟩⟨i,j,e3,e4,i1,i2,j1,j2,r,E,hP,hE,hE2⟩;dsimp only at e3 e4 hP ⊢;subst e3;subst e4;refine Ty (λh=>?_)<|λh=>TE ?_
    ·rw[cD,bK,bK]at h;have hi:i<jr s k:=by omega
     have hj:j<jr s (k+1):=by omega
     obtain⟨t,et,_,hri⟩:=xA hev (show k - 1<s.length by omega) i1 (by rw[show k - 1+1=k by omega];exact hi);obtain⟨u,eu,_,hrj⟩:=xA hev hk j1 hj;have xi:=hinc _<|dH (show k - 1<s.length by omega)
     have xj:=hinc _ hkm;have farI:∀i' a,i<i'->i'<jr s k->(aU s)[i']? =some a->s[k - 1].Xs[2*t+1]<a.X0:=λi' a h4 h5 h6=>by
      obtain⟨t',et',ht',hr'⟩:=xA hev (show k - 1<s.length by omega) (show jr s (k - 1)<=i' by omega) (by rw[show k - 1+1=k by omega];exact h5);rw[hr']at h6;injection h6 with h6;subst h6
      exact xi.lt (show 2*t+1<2*t' by omega) (aS _)<|aS _
     have farJ:∀j' a,j<j'->j'<jr s (k+1)->(aU s)[j']? =some a->s[k].Xs[2*u+1]<a.X0:=λj' a h4 h5 h6=>by
      obtain⟨u',eu',hu',hr'⟩:=xA hev hk (show jr s k<=j' by omega) h5;rw[hr']at h6;injection h6 with h6;subst h6
      exact xj.lt (show 2*u+1<2*u' by omega) (aS _)<|aS _
     refine Td (P:=λc=>c=true↔Ag (aU s) i j) ?_<|λc hct=>?_
     ·refine Ti hri<|Ti hrj<|Ty (λh=>Ti hrj<|Ti hri<|S9 ?_)<|λh=>S9 ?_
      ·rw[bK]at h ⊢;constructor
       ·intro h';exact⟨_,_,hri,hrj,hyy,h,h'⟩
       ·rintro⟨a,c,ha,hc',_,_,h'⟩;rw[hri]at ha;injection ha with ha;subst ha
        rw[hrj]at hc';injection hc' with hc';subst hc'
        exact h'
      ·constructor
       ·intro h;cases h
       ·rintro⟨a,c,ha,hc',_,h',_⟩;rw[hri]at ha;injection ha with ha;subst ha
        rw[hrj]at hc';injection hc' with hc';subst hc'
        rw[decide_eq_false_iff_not]at h;exact absurd h' h
     refine Td (P:=λup'=>∃r E',PJ (aU s) n up' r E'/\(∀p∈E,p∈E')/\(Ag (aU s) i j->(i,j)∈E')) ?_ ?_
     ·refine Ty (λh=>?_)<|λh=>S9 ⟨r,E,hP,λp hp=>hp,λht=>by rw[hct.2 ht]at h;cases h⟩
      obtain⟨up',u1,u2⟩:=K4 (N:=N) (f:=λx=>some x) hP.uf (i:=i) (k:=j) (by omega) (by omega) (by omega);refine⟨up',u1,_,_,hP.join (by omega) (by omega) u2<|hct.1 h,λp hp=>List.mem_append_left _ hp,λ_=>by simp⟩
     ·rintro up'⟨r',E',hP',hsub,hij⟩;refine Ti hri<|Ti hrj ?_
      dsimp only
      by_cases hx:s[k - 1].Xs[2*t+1]<s[k].Xs[2*u+1]
      ·rw[bM hx,aQ];refine SZ (x:=(((i+1:Nat):Int),((j:Nat):Int))) (by rw[bZ (by omega)])<|Tv ⟨⟨i+1,j,rfl,rfl,by omega,by omega,j1,j2,r',E',hP',λq hq i j q1 q2 ht=>hsub _<|hE q hq i j q1 q2 ht,λi' j' g1 g2 g3 g4 g5 ht=>?_⟩,by simp only[cN];omega⟩
       by_cases h5:i'<i\/j'<j
       ·exact hsub _<|hE2 i' j' g1 g2 g3 g4 h5 ht
       ·have:i'=i:=by omega
        subst this
        by_cases h6:j'=j
        ·subst h6;exact hij ht
        ·exfalso;obtain⟨a,c,ha,hc',_,_,h'⟩:=ht;rw[hri]at ha;injection ha with ha;subst ha
         have:=farJ j' c (by omega) g4 hc';dsimp only at h';omega
      ·rw[bP hx,aT];refine SZ (x:=(((i:Nat):Int),((j+1:Nat):Int))) (by rw[bZ (by omega)])<|Tv ⟨⟨i,j+1,rfl,rfl,i1,i2,by omega,by omega,r',E',hP',λq hq i j q1 q2 ht=>hsub _<|hE q hq i j q1 q2 ht,λi' j' g1 g2 g3 g4 g5 ht=>?_⟩,by simp only[cN];omega⟩
       by_cases h5:i'<i\/j'<j
       ·exact hsub _<|hE2 i' j' g1 g2 g3 g4 h5 ht
       ·have:j'=j:=by omega
        subst this
        by_cases h6:i'=i
        ·subst h6;exact hij ht
        ·exfalso;obtain⟨a,c,ha,hc',_,h',_⟩:=ht;rw[hrj]at hc';injection hc' with hc';subst hc'
         have:=farI i' a (by omega) g2 ha;dsimp only at h';omega
    ·refine⟨r,E,hP,λq hq i' j' q1 q2 ht=>?_⟩
     by_cases hqk:q<k
     ·exact hE q hqk i' j' q1 q2 ht
     ·have:q=k:=by omega
      subst this;obtain⟨_,_,g1,g2⟩:=GH hc hk q1 q2 ht;refine hE2 i' j' g1 g2 q1 q2 ?_ ht;rw[Bool.and_eq_false_iff,decide_eq_false_iff_not,decide_eq_false_iff_not]at h;omega
   ·exact⟨jr s<|k - 1,jr s k,rfl,rfl,bV _,AK (by omega),bV _,AK (by omega),r,E,hP,hE,λi' j' g1 g2 g3 g4 g5=>by omega⟩
  ·by_cases hqk:q<k
   ·exact hE q hqk i j q1 q2 ht
   ·have:q=k:=by omega
    subst this;obtain⟨g0,g1,_⟩:=GH hc hk q1 q2 ht;rw[hcc.2 ⟨g0,g1⟩]at h;cases h
 ·rintro⟨up,a,b⟩⟨_,_,r,E,hP,hE⟩;dsimp only at hP ⊢;have hEq:∀i j,Ag (aU s) i j->(i,j)∈E:=λi j ht=>by
   have hjl:j<(aU s).length:=by obtain⟨a,c,_,hb,_⟩:=ht;exact(bE.1 hb).1
   obtain⟨q,hq,q1,q2⟩:=II hjl;exact hE q hq i j q1 q2 ht
  have hJ:Joined (aU s) r:=⟨by rw[hn];exact hP.uf.le,by rw[hn];exact hP.uf.rr,λi j ht=>hP.co (i,j) (hEq i j ht),λS hS i j hi hj=>by
   rw[hn]at hi hj
   exact hP.fi S (λp hp=>hS p.1 p.2 (hP.so p hp)) i j hi hj⟩
  refine Td (T6 (λk st=>UF n st.1 r/\Sm k r st.2.1/\st.2.2=(cE k r).map (oe (aU s) k r)) (by omega) ⟨hP.uf,⟨λj k hj=>by simp[cE]at hj,λk=>rfl⟩,rfl⟩<|λk st hk hI=>?_) ?_
  ·obtain⟨l,m,ls⟩:=st;obtain⟨hu,⟨hm1,hm2⟩,hs⟩:=hI;dsimp only at hu hm1 hm2 hs ⊢;subst hs;have hkx:(aU s)[k]? =some ((aU s)[k]'(by omega)):=aS (by omega);refine Ti hkx ?_;obtain⟨u',a1,a2⟩:=E4 (N:=N) hu hk (by omega);refine SZ a1 ?_;dsimp only;have hhl:=qp k r;have hrk:=hP.uf.le k hk;have hrr:=hP.uf.rr k hk;have hcl:=CL (aU s) k r<|r k
   have hmap:((cE k r).map<|oe (aU s) k r).length=(cE k r).length:=by simp
   rw[hm2]
   by_cases e:r k=k
   ·have hnot:r k∉cE k r:=λh=>by have:=(jT.1 h).1;omega
    refine SZ (x:=(qE m ((r k:Nat):Int) (((cE k r).length:Nat):Int),(cE k r).map (oe (aU s) k r)++[([]:List aI)],(((cE k r).length:Nat):Int))) ?_ ?_
    ·rw[bP hnot,px,aQ,lq (by simp;omega),aB,hmap]
    ·dsimp only;have hi:((cE k r).map (oe (aU s) k r)++[([]:List aI)])[(cE k r).length]? =some []:=by rw[<-hmap,hU<|bV _,Nat.sub_self];rfl
     refine Ti hi<|TW (by simp)<|Ti hi<|S9 ⟨a2,⟨λj q hj=>?_,λq=>?_⟩,?_⟩
     ·dsimp only;rw[je,aC e]at hj;rw[ql]
      by_cases e2:j<(cE k r).length
      ·rw[gN e2]at hj;have:=(jT.1<|fK hj).1;rw[aD (by omega)];exact hm1 j q hj
      ·rw[hU (by omega)]at hj;have hj0:j -(cE k r).length=0:=by
        have:=(bE.1 hj).1;simp at this;omega
       rw[hj0]at hj;simp at hj;subst hj;rw[aC (by rw[e])];congr 1;omega
     ·dsimp only;rw[uA,hm2,je,aC e,eN];rw[dP,bK,bK,bK,dS,List.mem_singleton,e];constructor
      ·rintro(h|h)
       ·exact .inr (by omega)
       ·exact .inl h
      ·rintro(h|h)
       ·exact .inr h
       ·exact .inl (by omega)
     ·dsimp only;rw[cN,<-hmap,List.set_append_right _ _<|bV _,Nat.sub_self,je,aC e,fu];congr 1
      ·apply List.map_congr_left;intro a ha;have:=(jT.1 ha).1;rw[xB a hkx,aD (by omega)]
      ·simp only[List.set_cons_zero,eB,List.map_nil,List.nil_append];rw[xB k hkx,aC e];have:oe (aU s) k r k= []:=by unfold oe;rw[IG (λi hi=>hP.uf.le i (by omega))<|bV _];rfl
       rw[this];rfl
   ·have hh:r k∈cE k r:=jT.2 ⟨by omega,hrr⟩;obtain⟨j,hj⟩:=eX hh;refine SZ (x:=(m,(cE k r).map<|oe (aU s) k r,((j:Nat):Int))) ?_ ?_
    ·rw[bM hh,mU,aT,hm1 j (r k) hj]
    ·dsimp only;have hi:((cE k r).map<|oe (aU s) k r)[j]? =some (oe (aU s) k r<|r k):=by rw[iZ,hj];rfl
     refine Ti hi<|TW (by simp;omega)<|Ti hi<|S9 ⟨a2,⟨λj' q hj'=>?_,λq=>?_⟩,?_⟩
     ·rw[je,aD e]at hj';exact hm1 j' q hj'
     ·rw[je,aD e];exact hm2 q
     ·dsimp only;rw[cN,je,aD e]
      have:=wR (oe (aU s) k r) (oe (aU s) (k+1) r) (cE k r) j (r k) (po k r) hj (λb hb hne=>by
       rw[xB b hkx,aD (λh=>hne h.symm)])
      rw[xB (r k) hkx,aC rfl]at this;exact this
  ·rintro⟨l,m,ls⟩⟨_,_,hs⟩;dsimp only at hs ⊢;subst hs;have hhl:=qp n r;refine Td (T6 (λk ps=>ps.length=k/\∀(j h:Nat)(p:List aA),j<k->(cE n r)[j]? =some h->ps[j]? =some p->sO (oe (aU s) n r h) p) (by simp;omega) ⟨rfl,λj h p hj=>by omega⟩<|λk ps hk hI=>?_) ?_
   ·obtain⟨hp1,hp2⟩:=hI;have hk':k<(cE n r).length:=by simpa using hk
    refine Ti (x:=oe (aU s) n r (cE n r)[k]) (by rw[iZ,aS hk'];rfl) ?_;have hcl:=CL (aU s) n r (cE n r)[k];refine Td (qm (N:=N) (by omega) (λx hx=>?_) (by omega)) ?_
    ·obtain⟨i,_,_,h⟩:=mx.1 hx;exact(hok x<|fK h).1
    ·intro p hp;refine TW (by rw[hp1];simp;omega)<|S9 ⟨by simp[hp1],λj h q hj hh hq=>?_⟩
     by_cases hjk:j<k
     ·rw[gN (by omega)]at hq;exact hp2 j h q hjk hh hq
     ·have:j=k:=by omega
      subst this;rw[hU (by omega),hp1,Nat.sub_self]at hq;simp at hq;subst hq;rw[aS hk']at hh;injection hh with hh;subst hh
      exact hp
   ·rintro ps⟨hp1,hp2⟩;refine S9 ⟨r,hJ,?_,λj h p hh hp=>?_⟩
    ·rw[hp1,hn];simp
    ·rw[hn]at hh ⊢;exact hp2 j h p (by have:=(bE.1 hp).1;omega) hh hp
end
section
variable {N:Nat}
theorem eZ{n:Int}(h: -9223372036854775808<=n/\n<=9223372036854775807):wrap .i64 n=n:=by rw[IntKind.wrap_i64];omega
def fZ(n lo hi:Int):Bool:=decide (n>=lo)&&decide (n<=hi)
def lV(n:Int):Bool:=fZ n (-1000000) 1000000
def rq(p:bL):Bool:=lV p.X&&lV p.Y
def f0(r:aI):Bool:=lV r.X0&&(lV r.Y0&&(lV r.X1&&lV r.Y1))
theorem CM(n:Int):l5 N n=some (lV n):=rfl
theorem Bf(p:bL):kj N p=some (rq p):=by
 unfold kj rq;rw[CM,aB,CM]
 cases lV p.X <;> rfl
theorem Bg(p:bL):gq N p=some (rq p):=by
 have e:∀n,cU N n=some (lV n):=λ_=>rfl;unfold gq rq;rw[e,aB,e]
 cases lV p.X <;> rfl
theorem CN(r:aI):nN N r=some (f0 r):=by
 unfold nN f0;simp only[CM,aB]
 cases lV r.X0 <;> cases lV r.Y0 <;> cases lV r.X1 <;> rfl
theorem GI{a b:Int}(h:a≠b):iz (N+4) [a,b]=some [a,b]:=by
 have e:(b==a)=false:=by rw[beq_eq_false_iff_ne];exact λe=>h e.symm
 have w1:wrap .i64 ((1:Int) - 1)=0:=by decide
 have w2:wrap .i64 ((1:Int)+1)=2:=by decide
 unfold iz;have e1:idx [a,b] 1=some b:=rfl;have e2:idx [a,b] 0=some a:=rfl;have l2:(([a,b]:List Int).length:Int)=2:=rfl;rw[l2,show decide ((2:Int)<2)=false by decide,aT];rw[kp.eq_def];dsimp only;rw[show decide ((1:Int)<2)=true by decide,aQ,e1,aB,w1,e2,aB,e,aT,aB,w2];dsimp only;rw[kp.eq_def];dsimp only;rw[show decide ((2:Int)<2)=false by decide,aT,aB];rfl
theorem Nw(x:Int):wrap .i64 (x - x)=0:=by rw[Int.sub_self];decide
theorem JH{r:aI}(hx:r.X0<r.X1)(hy:r.Y0<r.Y1):iF (N+16) [r]=some [⟨r.Y0,r.Y1,[r.X0,r.X1]⟩]:=by
 have s1:y9 (kD<|N+16) [r]=some [r]:=DY (by unfold kD;rw[Nw]);have s2:y9 (iA<|N+16) [r]=some [r]:=DY (by unfold iA;rw[Nw]);have s3:wc [r.Y0,r.Y1]=some [r.Y0,r.Y1]:=Dx (by simp;omega) (by simp);have c1:jN (N+16) [r]=some [r]:=rfl;have f1:∀φ,i5 (N+16) [] φ=some []:=λφ=>rfl;have st:jY (N+16) [r]=some ([r.X0,r.X1],[r]):=by
  unfold jY;rw[s2,aB];rfl
 have pu:∀b:aA,b.Xs= [r.X0,r.X1]->b.Y0<b.Y1->jG (N+16) [] b=some [b]:=λb h1 h2=>by
  unfold jG;rw[h1,bP (show ¬b.Y1<=b.Y0 by omega)];rfl
 unfold iF;rw[c1,aB,s1,aB];have ys:mB ([r]:List aI).length (λ(k35:Nat)(s36:List Int)=>((idx [r] (k35:Int)).bind λx54=>(app 8 s36 ([x54.Y0,x54.Y1]:List Int)).bind λx58=>some x58:Option (List Int))) ([]:List Int)=some [r.Y0,r.Y1]:=rfl;rw[ys,aB,s3,aB,GI (N:=N+12) (by omega),aB];have l2:(([r.Y0,r.Y1]:List Int).length:Int)=2:=rfl;have l1:(([r]:List aI).length:Int)=1:=rfl;have w1:wrap .i64 ((0:Int)+1)=1:=by decide
 have w2:wrap .i64 ((1:Int)+1)=2:=by decide
 have i0:idx [r.Y0,r.Y1] 0=some r.Y0:=rfl;have i1:idx [r.Y0,r.Y1] 1=some r.Y1:=rfl;have j0:idx [r] 0=some r:=rfl;have a1:app 32 ([]:List aI) [r]=some [r]:=rfl;rw[l2,l1];rw[kp.eq_def];dsimp only;rw[w1,show decide ((1:Int)<2)=true by decide,aQ,f1,aB];rw[kp.eq_def];dsimp only;rw[show decide ((0:Int)<1)=true by decide,aQ,j0,aB,i0,aB,aB,show decide (r.Y0<=r.Y0)=true by simp,aQ,aB,a1,aB,w1,aB];dsimp only;rw[kp.eq_def];dsimp only;rw[show decide ((1:Int)<1)=false by decide,aT,aB,aT,aB,aB];unfold Fo.cs;dsimp only;rw[aB,i1,aB,st,aB,pu _ rfl hy,aB,aB];dsimp only;rw[kp.eq_def];dsimp only;rw[w2,show decide ((2:Int)<2)=false by decide,aT,aB];rfl
theorem K5{r:aI}(hx:r.X0<r.X1):ni N [⟨r.Y0,r.Y1,[r.X0,r.X1]⟩]=some (f0 r):=by
 have ar:nP N [⟨r.Y0,r.Y1,[r.X0,r.X1]⟩]=some r:=by
  have e1:(if r.X0<r.X0 then r.X0 else r.X0)=r.X0:=by split <;> rfl
  have e2:(if r.X1<r.X1 then r.X1 else r.X1)=r.X1:=by split <;> rfl
  show some ({X0:=(if r.X0<r.X0 then r.X0 else r.X0),Y0:=r.Y0,X1:=(if r.X1<r.X1 then r.X1 else r.X1),Y1:=r.Y1}:aI)=some r;rw[e1,e2]
 unfold ni;rw[ar,aB,CN];rfl
def wS(b:cP):aI:=⟨b.At.X - b.dQ / 2,b.At.Y - b.dQ / 2,b.At.X - b.dQ / 2+b.dQ,b.At.Y - b.dQ / 2+b.dQ⟩
def ru(b:cP):Bool:=fZ b.dQ 1 10000&&rq b.At
def mZ(b:cP):aI×Int:=if ru b&&f0 (wS b)then(wS b,0)else(⟨0,0,0,0⟩,1)
theorem tw{b:cP}(h:ru b=true):(1<=b.dQ/\b.dQ<=10000)/\(-1000000<=b.At.X/\b.At.X<=1000000)/\(-1000000<=b.At.Y/\b.At.Y<=1000000):=by
 simp only[ru,fZ,rq,lV,cD,decide_eq_true_iff]at h;omega
theorem nG{b:cP}(h:ru b=true):gK N b=some (wS b):=by
 obtain⟨h1,h2,h3⟩:=tw h;have t:Int.tdiv b.dQ 2=b.dQ / 2:=Int.tdiv_eq_ediv_of_nonneg (by omega);unfold gK wS;rw[t,eZ (n:=b.dQ / 2) (by omega),eZ (n:=b.At.X - b.dQ / 2) (by omega),eZ (n:=b.At.Y - b.dQ / 2) (by omega),eZ (by omega),eZ (by omega)]
theorem AL{b:cP}:mD (N+16) b=some (mZ b):=by
 have e0:iY (N+16) b.dQ 1 10000=some (fZ b.dQ 1 10000):=rfl;have e1:(bif(!(fZ b.dQ 1 10000))then some true else some (!(rq b.At)))=some (!ru b):=by unfold ru;cases fZ b.dQ 1 10000 <;> rfl
 unfold mD mZ;rw[e0,aB,Bf,aB,e1,aB]
 cases hf:ru b with
 |false=>rfl
 |true=>
  obtain⟨h1,h2,h3⟩:=tw hf;have hx:(wS b).X0<(wS b).X1:=by simp only[wS];omega
  have hy:(wS b).Y0<(wS b).Y1:=by simp only[wS];omega
  rw[mU,aT,nG hf,aB,JH hx hy,aB,K5 hx,aB]
  cases f0 (wS b) <;> rfl
end
section
variable {N:Nat}
def GJ(c:UInt8):Bool:=
 (((decide (((c.toNat:Nat):Int)<65)||decide (((c.toNat:Nat):Int)>90))&&(decide (((c.toNat:Nat):Int)<97)||decide (((c.toNat:Nat):Int)>122)))&&(decide (((c.toNat:Nat):Int)<48)||decide (((c.toNat:Nat):Int)>57)))&&decide (Lib.indexByte [95,43,45,35] c<0)
def isWord(s:eJ):Bool:= !s.dD.any GJ&&(decide (1<=s.dD.length)&&decide (s.dD.length<=40))
theorem vh(s:eJ)(c:UInt8):ig N s ((c.toNat:Nat):Int)=some (Lib.indexByte s.dD c):=by
 show some (Lib.indexByte s.dD (Int.toNat ((c.toNat:Nat):Int)).toUInt8)=_;rw[cN];simp
theorem HJ{R:Type}(b1:Bool)(c:UInt8)(r:R):
  ((bif b1 then((ig N (⟨[95,43,45,35]⟩) ((c.toNat:Nat):Int)).bind λx14=>some<|decide<|x14<0)else some false).bind λs12=>bif s12 then some (.rt r)else(some<|.nx ()):Option (Fl Unit R))=some (if(b1&&decide (Lib.indexByte [95,43,45,35] c<0))=true then .rt r else .nx ()):=by
 rw[vh,aB]
 cases b1
 ·rfl
 ·rw[aQ,aB,Bool.true_and]
  cases decide (Lib.indexByte [95,43,45,35] c<0) <;> rfl
theorem tx{s:eJ}(h:s.dD.length<=1048576):jH N s=some (isWord s):=by
 unfold jH
 rw[Mf GJ false (by omega) (λk x hx=>by
  have hk:=(bE.1 hx).1;have e:Ho s ((k:Nat):Int)=some x:=by rw[Gv s k hk,<-aS hk,hx]
  rw[e,aB]
  exact HJ (R:=Bool) _ x false),aB]
 unfold isWord
 cases s.dD.any GJ
 ·simp only[Fo.cs,px,Bool.true_and,Bool.false_eq_true,if_false,Option.some.injEq];rw[eN,cD,cD];simp only[bK];omega
 ·simp[Fo.cs]
def cutAt(c:UInt8):List UInt8->List (List UInt8)
 | []=>[[]]
 |b::l=>if b==c then []::cutAt c l else match cutAt c l with|h::t=>(b::h)::t| []=>[[b]]
theorem CO{c:UInt8}:∀{l:List UInt8},c∉l->cutAt c l= [l]
 | [],_=>rfl
 |b::l,h=>by
  unfold cutAt;have hb:(b==c)=false:=by rw[beq_eq_false_iff_ne];rintro rfl;exact h (by simp)
  rw[hb,CO<|λh'=>h (by simp[h'])];rfl
theorem GK{c:UInt8}:∀{a b:List UInt8},c∉a->cutAt c (a++c::b)=a::cutAt c b
 | [],b,_=>by rw[List.nil_append];show(if(c==c)=true then _ else _)=_;simp
 |x::a,b,h=>by
  have hb:(x==c)=false:=by rw[beq_eq_false_iff_ne];rintro rfl;exact h (by simp)
  have ih:=GK (c:=c) (a:=a) (b:=b)<|λh'=>h (by simp[h'])
  show(if(x==c)=true then []::cutAt c (a++c::b)else match cutAt c (a++c::b)with|h::t=>(x::h)::t| []=>[[x]])=_;rw[hb,ih];rfl
theorem wT:∀(l:List UInt8)(c:UInt8),(Lib.indexByte l c = -1/\c∉l)\/∃a b,l=a++c::b/\c∉a/\Lib.indexByte l c=((a.length:Nat):Int)
 | [],c=> .inl ⟨rfl,by simp⟩
 |x::l,c=>by
  unfold Lib.indexByte
  by_cases hx:x=c
  ·subst hx;exact .inr ⟨[],l,rfl,by simp,by simp⟩
  ·have hb:(x==c)=false:=by rw[beq_eq_false_iff_ne];exact hx
   rcases wT l c with⟨h1,h2⟩|⟨a,b,h1,h2,h3⟩
   ·left;rw[hb,h1];refine⟨by simp,?_⟩;simp[h2];exact λh=>hx h.symm
   ·right;refine⟨x::a,b,by rw[h1];rfl,by simp[h2];exact λh=>hx h.symm,?_⟩;rw[hb,h3];have:(((a.length:Nat):Int)== -1)=false:=by rw[beq_eq_false_iff_ne];omega
    rw[this];simp
theorem K6(s:eJ)(c:UInt8):mE N s ⟨[c]⟩=some (Lib.indexByte s.dD c):=by
 show(lk N s ⟨[c]⟩).bind _=_;unfold lk
 by_cases h:eJ.oj ⟨[c]⟩ s=true
 ·have:s= ⟨[c]⟩:=(zu.1 h).symm;subst this;rw[h];simp[Lib.indexByte]
 ·rw[lF]at h;rw[h];show((jq N s ((c.toNat:Nat):Int)).bind _).bind _=_;have:=vh (N:=N) s c;simp only[ig]at this;rw[this];rfl
theorem K7(s:eJ)(c:UInt8):om N s ⟨[c]⟩=some ((s.dD.count c:Nat):Int):=by
 unfold om;show(some _:Option Int)=_;simp[Lib.countByte]
theorem JI{s:eJ}{k:Nat}(h:k<=s.dD.length):yk s 0 ((k:Nat):Int)=some ⟨s.dD.take k⟩:=by
 unfold yk;rw[aC ⟨by omega,by omega,by omega⟩];simp only[Int.toNat_zero,List.drop_zero,Int.sub_zero,cN]
theorem JJ{s:eJ}{k:Nat}(h:k<=s.dD.length):yk s ((k:Nat):Int) ((s.dD.length:Nat):Int)=some ⟨s.dD.drop k⟩:=by
 unfold yk;rw[aC ⟨by omega,by omega,by omega⟩];simp only[cN];rw[mR];rw[gO];omega
def oY(s:eJ)(c:UInt8):List eJ:=(cutAt c s.dD).map eJ.mk
theorem GL{s:eJ}(c:UInt8)(h:s.dD.length<=1048576)(hN:4194304<=N):mF N s ⟨[c]⟩=some (oY s c):=by
 have hc:s.dD.count c<=s.dD.length:=List.count_le_length;unfold mF nQ;rw[show((-1:Int)==0)=false by decide,aT,show eJ.oj ⟨[c]⟩ ⟨[]⟩=false by simp[eJ.oj],aT,K7,aB];rw[eY (x:=((s.dD.count c:Nat):Int)+1) (by omega) (by omega),show decide ((-1:Int)<0)=true by decide,aQ,aB];rw[eY (x:=((s.dD.length:Nat):Int)+1) (by omega) (by omega)];have e1:(if((s.dD.length:Nat):Int)+1<((s.dD.count c:Nat):Int)+1 then((s.dD.length:Nat):Int)+1 else((s.dD.count c:Nat):Int)+1)=((s.dD.count c+1:Nat):Int):=by
  rw[aD (by omega)];omega
 rw[e1,oQ _ (by omega),aB];rw[eY (x:=((s.dD.count c+1:Nat):Int) - 1) (by omega) (by omega)];have key:=zq (S:=eJ×List eJ×Int) (R:=Empty) (body:=(λ(s7:eJ×List eJ×Int)=>(bif decide (s7.2.2<((s.dD.count c+1:Nat):Int) - 1)then((mE N s7.1 ⟨[c]⟩).bind λx23=>bif decide (x23<0)then some (.br (s7.1,s7.2.1,s7.2.2))else((yk s7.1 0<|wrap .i64<|x23+0).bind λx24=>(idx s7.2.1 s7.2.2).bind λx25=>(yk s7.1 (wrap .i64<|x23+(((⟨[c]⟩:eJ).dD.length:Nat):Int)) ((s7.1.dD.length:Nat):Int)).bind λx27=>some<|.nx (x27,s7.2.1.set (Int.toNat s7.2.2) x24,wrap .i64<|s7.2.2+1)))else(some<|.br (s7.1,s7.2.1,s7.2.2)):Option (Fl (eJ×List eJ×Int) Empty))))
  (λst=>∃ws:List (List UInt8),st.2.2=((ws.length:Nat):Int)/\cutAt c s.dD=ws++cutAt c st.1.dD/\ws.length+st.1.dD.count c=s.dD.count c/\st.1.dD.length<=s.dD.length/\st.2.1=ws.map eJ.mk++List.replicate (s.dD.count c+1 - ws.length) ⟨[]⟩)
  (λst=>s.dD.count c+1 - st.2.2.toNat)
  (λst=>∃ws:List (List UInt8),st.2.2=((ws.length:Nat):Int)/\cutAt c s.dD=ws++[st.1.dD]/\ws.length=s.dD.count c/\st.2.1=ws.map eJ.mk++[⟨[]⟩])
  (λ_=>True) (by
   rintro⟨r,arr,i⟩⟨ws,h1,h2,h3,h4,h5⟩;simp only at h1 h2 h3 h4 h5;subst h1 h5
   by_cases hlt:ws.length<s.dD.count c
   ·have hd:decide (((ws.length:Nat):Int)<((s.dD.count c+1:Nat):Int) - 1)=true:=by rw[bK];omega
    simp only[hd,aQ,K6,aB]
    rcases wT r.dD c with⟨_,hn⟩|⟨a,b,hr,ha,hi⟩
    ·rw[List.count_eq_zero_of_not_mem hn]at h3;omega
    ·have hrl:r.dD.length=a.length+(b.length+1):=by rw[hr];simp
     rw[hi,bP (by omega),aT];rw[show((a.length:Nat):Int)+0=((a.length:Nat):Int)by omega,eY (x:=((a.length:Nat):Int)) (by omega) (by omega),JI (by omega),aB];rw[lI _ _ (by simp;omega),aB];rw[show((a.length:Nat):Int)+(((⟨[c]⟩:eJ).dD.length:Nat):Int)=((a.length+1:Nat):Int)by simp,eY (x:=((a.length+1:Nat):Int)) (by omega) (by omega),JJ (by omega),aB];refine⟨_,rfl,⟨ws++[a],?_,?_,?_,?_,?_⟩,?_⟩
     ·simp only;rw[eY (by omega) (by omega)];simp
     ·simp only;rw[h2,hr,GK ha];simp
     ·simp only;rw[hr]at h3 ⊢;simp[List.count_eq_zero_of_not_mem ha]at h3 ⊢;omega
     ·simp;omega
     ·simp only[cN];rw[List.set_append_right _ _ (by simp)];simp only[eL,Nat.sub_self];obtain⟨d,hd'⟩:∃d,s.dD.count c+1 - ws.length=d+1:=⟨s.dD.count c - ws.length,by omega⟩;rw[hd',List.replicate_succ,List.set_cons_zero,show s.dD.count c+1 -(ws++[a]).length=d by simp;omega];simp[hr]
     ·simp only;rw[eY (by omega) (by omega)];omega
   ·have hd:decide (((ws.length:Nat):Int)<((s.dD.count c+1:Nat):Int) - 1)=false:=by rw[decide_eq_false_iff_not];omega
    simp only[hd,aT];refine⟨_,rfl,ws,rfl,?_,by omega,?_⟩
    ·have h0:r.dD.count c=0:=by omega
     rw[h2,CO<|List.count_eq_zero.1 h0]
    ·rw[show s.dD.count c+1 - ws.length=1 by omega];rfl)
  N (s,List.replicate (s.dD.count c+1) ⟨[]⟩,0) ⟨[],rfl,rfl,by simp,bV _,by simp⟩ (by simp only;omega)
 obtain⟨o,ho,hgo⟩:=key;rw[ho,aB]
 cases o with
 |rt r=>exact r.elim
 |go st=>
  obtain⟨r,arr,i⟩:=st;obtain⟨ws,h1,h2,h3,h4⟩:=hgo;simp only at h1 h2 h3 h4;subst h1 h4;simp only[Fo.cs];rw[lI _ _ (by simp),aB,eY (by omega) (by omega)];rw[show((ws.length:Nat):Int)+1=((ws.length+1:Nat):Int)by omega,t9 _ _ (by simp),aB,aB];unfold oY;rw[h2];rw[cN,List.set_append_right _ _ (by simp),mR (by simp)];simp
def og(s:eJ):Bool:=decide (s.dD.length<=200)&&(oY s 47).all isWord
theorem xC{c:UInt8}:∀{l x:List UInt8},x∈cutAt c l->x.length<=l.length
 | [],x,h=>by simp[cutAt]at h;subst h;simp
 |b::l,x,h=>by
  unfold cutAt at h;split at h
  ·rcases dO.1 h with h|h
   ·subst h;simp
   ·have:=xC h;simp;omega
  ·split at h
   ·rename_i t e
    rcases dO.1 h with h|h
    ·subst h;have:=xC (c:=c) (l:=l) (by rw[e];exact List.mem_cons_self);simp;omega
    ·have:=xC (c:=c) (l:=l) (by rw[e];exact iv _ h);simp;omega
   ·simp at h;subst h;simp
theorem D5(c:UInt8):∀(l:List UInt8),(cutAt c l).length<=l.length+1
 | []=>by simp[cutAt]
 |b::l=>by
  have:=D5 c l;unfold cutAt;split
  ·simp;omega
  ·split
   ·rename_i e;rw[e]at this;simp at this ⊢;omega
   ·simp
theorem D6{s x:eJ}{c:UInt8}(h:x∈oY s c):x.dD.length<=s.dD.length:=by
 obtain⟨y,hy,rfl⟩:=dK.1 h;exact xC hy
theorem D7(s:eJ)(c:UInt8):(oY s c).length<=s.dD.length+1:=by unfold oY;rw[eL];exact D5 c _
theorem zO{s:eJ}(h:s.dD.length<=1048576)(hN:4194304<=N):nj N s=some (og s):=by
 unfold nj og
 by_cases hl:s.dD.length<=200
 ·rw[bM (by omega),aQ,GL 47 h hN,aB]
  have e:=uc (l:=oY s 47) (φ:=i7 N) (λx=> !isWord x) (by have:=D7 s 47;omega) (λx hx=>by
   unfold i7
   rw[tx (by have:=D6 hx;omega)];rfl)
  have e2:i6 N (oY s 47) (i7 N)=tG (oY s 47) (i7 N):=rfl;rw[e2,e,aB,aB,bM hl,Bool.true_and];congr 1;rw[eN];simp
 ·rw[bP (by omega),aT,aB,bP hl,Bool.false_and]
end
end Go.Gk
namespace Go.Gk
open Go IntKind Classical
section
variable {N:Nat}
theorem K8{a b:aA}(h:cG a=cG b):a=b:=by cases a;cases b;unfold cG at h;simp at h;obtain⟨h1,h2,h3⟩:=h;subst h1;subst h2;subst h3;rfl
theorem zP:∀{s t:List aA},s.map cG=t.map cG->s=t
 | [],[],_=>rfl
 | [],_::_,h=>by cases h
 |_::_,[],h=>by cases h
 |a::s,b::t,h=>by
  rw[eB,eB]at h;injection h with h1 h2
  rw[K8 h1,zP h2]
theorem GM{s t:List aA}(hs:fC (s.map cG))(ht:fC (t.map cG))(h:∀x y,vY (s.map cG) x y=vY (t.map cG) x y):s=t:=zP<|vf hs ht h
theorem sO.unique{l:List aI}{s t:List aA}(hs:sO l s)(ht:sO l t):s=t:=GM hs.can ht.can λx y=>by rw[hs.cover,ht.cover]
theorem sO.GN{l:List aI}{s:List aA}(h:sO l s):s.length<=2*l.length/\(∀b∈s,b.Xs.length<=2*l.length)/\(aU s).length<=2*l.length*(2*l.length):=by
 have h1:s.length<=2*l.length:=by have:=h.lim.len h.can;rwa[eL,jM]at this
 have h2:∀b∈s,b.Xs.length<=2*l.length:=λb hb=>by
  have:=h.lim.row h.can (b:=cG b)<|dK.2 ⟨b,hb,rfl⟩
  rwa[mw]at this
 exact⟨h1,h2,CE h1 h2⟩
theorem xD{n:Int}(h:lV n=true): -1000000<=n/\n<=1000000:=by
 unfold lV fZ at h;rw[cD,bK,bK]at h;omega
theorem nH{r:aI}(h:f0 r=true):(-1000000<=r.X0/\r.X0<=1000000)/\(-1000000<=r.Y0/\r.Y0<=1000000)/\(-1000000<=r.X1/\r.X1<=1000000)/\(-1000000<=r.Y1/\r.Y1<=1000000):=by
 unfold f0 at h;simp only[cD]at h;exact⟨xD h.1,xD h.2.1,xD h.2.2.1,xD h.2.2.2⟩
theorem CP{r:aI}(h:(-1000000<=r.X0/\r.X0<=1000000)/\(-1000000<=r.Y0/\r.Y0<=1000000)/\(-1000000<=r.X1/\r.X1<=1000000)/\(-1000000<=r.Y1/\r.Y1<=1000000)):f0 r=true:=by
 unfold f0 lV fZ;simp only[cD,bK];omega
theorem HK{r:aI}(h:f0 r=true)(hx:r.X0<r.X1)(hy:r.Y0<r.Y1):D0 r:=by
 have:=nH h;refine⟨hx,hy,?_,?_,?_,?_⟩ <;> unfold small <;> omega
def lu(r:aI):Option Int:=if f0 r=true then(if r.X1<=r.X0\/r.Y1<=r.Y0 then some 13 else none)else some 1
def lW(l:List aI):Int:=if 2000<l.length then 2 else(l.findSome? lu).getD 0
theorem Dz{l:List aI}(hl:l.length<=4611686018427387904):lK N l=some (lW l):=by
 unfold lK lW
 by_cases h:2000<l.length
 ·rw[bM (by omega),aQ,aC h]
 ·rw[bP (by omega),aT,aD h,zv lu hl (λk x hx=>by
   rw[eD hx,aB,CN,aB];unfold lu
   cases hr:f0 x with
   |false=>rfl
   |true=>
    rw[mU,aT,aC rfl]
    by_cases h2:x.X1<=x.X0\/x.Y1<=x.Y0
    ·rw[aC h2,show(decide (x.X1<=x.X0)||decide (x.Y1<=x.Y0))=true by rw[dP,bK,bK];exact h2];rfl
    ·rw[aD h2,show(decide (x.X1<=x.X0)||decide (x.Y1<=x.Y0))=false by rw[<-lF,dP,bK,bK];exact h2];rfl),aB]
  cases l.findSome? lu <;> rfl
theorem zQ{r:aI}:lu r=none↔f0 r=true/\r.X0<r.X1/\r.Y0<r.Y1:=by
 unfold lu
 by_cases h:f0 r=true
 ·rw[aC h]
  by_cases h2:r.X1<=r.X0\/r.Y1<=r.Y0
  ·rw[aC h2];constructor
   ·intro h;cases h
   ·rintro⟨_,h3,h4⟩;omega
  ·rw[aD h2];exact⟨λ_=>⟨h,by omega,by omega⟩,λ_=>rfl⟩
 ·rw[aD h];constructor
  ·intro h;cases h
  ·rintro⟨h3,_⟩;exact absurd h3 h
theorem GO{r:aI}{e:Int}(h:lu r=some e):e≠0:=by
 unfold lu at h;split at h
 ·split at h
  ·injection h with h;omega
  ·cases h
 ·injection h with h;omega
theorem tO{l:List aI}:lW l=0↔l.length<=2000/\∀r∈l,f0 r=true/\r.X0<r.X1/\r.Y0<r.Y1:=by
 unfold lW
 by_cases h:2000<l.length
 ·rw[aC h];constructor
  ·intro h;omega
  ·intro h;omega
 ·rw[aD h]
  cases hf:l.findSome? lu with
  |none=>
   rw[List.findSome?_eq_none_iff]at hf;exact⟨λ_=>⟨by omega,λr hr=>zQ.1<|hf r hr⟩,λ_=>rfl⟩
  |some e=>
   obtain⟨r,hr,he⟩:=List.exists_of_findSome?_eq_some hf;constructor
   ·intro h0;exact absurd h0<|GO he
   ·rintro⟨_,h2⟩;rw[zQ.2<|h2 r hr]at he;cases he
def Ot(l:List aI):Prop:=∀(k:Nat)a b,l[k]? =some a->l[k+1]? =some b->¬(b.Y0<a.Y0\/(b.Y0=a.Y0/\b.X0<=a.X0))
def CQ(l:List aI):Prop:=∃s,sO l s/\aU s=l
noncomputable def jk(l:List aI):Int:=if lW l≠0 then lW l else if Ot l then(if CQ l then 0 else 3)else 8
theorem E6{l:List aI}(h:lW l=0):l.length<=2000/\∀r∈l,D0 r:=⟨(tO.1 h).1,λr hr=>by have:=(tO.1 h).2 r hr;exact HK this.1 this.2.1 this.2.2⟩
theorem HL{l m:List aI}(hl:l.length<=4611686018427387904):lh N l m=some (decide<|l=m):=by
 have:=Aw (l:=l) (m:=m) hl;unfold ES at this;unfold lh;rw[show(decide<|l=m) = @decide (l=m) (instDecidableEqList l m)from decide_eq_decide.2 Iff.rfl];exact this
theorem wU{l:List aI}(hl:l.length<=1073741824)(hN:4398046511104<=N):jO N l=some (jk l):=by
 refine T3 ?_;unfold jO;refine SZ (Dz (by omega)) ?_;unfold jk;refine Ty (λh=>S9 ?_)<|λh=>?_
 ·rw[aC (by simpa using h)]
 ·have h0:lW l=0:=by simpa using h
  rw[aD (by simpa using h0)];obtain⟨hlen,hok⟩:=E6 h0;refine Td (Ua (Go:=λ_=>Ot l) (Rt:=λr=>r=8/\¬Ot l) (λs=>∃k:Nat,s=((k:Nat):Int)/\1<=k/\∀(j:Nat)a b,j+1<k->l[j]? =some a->l[j+1]? =some b->¬(b.Y0<a.Y0\/(b.Y0=a.Y0/\b.X0<=a.X0))) (λs=>l.length - s.toNat) ?_ ⟨1,rfl,bV _,λj a b hj=>by omega⟩ (by simp;omega)) ?_
  ·rintro s⟨k,rfl,hk,hI⟩;refine Ty (λh=>?_)<|λh=>TE λj a b ha hb=>hI j a b ?_ ha hb
   ·have hk2:k<l.length:=by have:=of_decide_eq_true h;omega
    rw[gC hk (by omega)];refine TY (by omega)<|TY hk2<|Ty (λhb=>T8 ⟨rfl,λhu=>?_⟩)<|λhb=>Tv ⟨⟨k+1,by rw[bZ (by omega)],by omega,λj a b hj ha hb'=>?_⟩,by rw[bZ (by omega)];simp only[cN];omega⟩
    ·refine hu (k - 1) l[k - 1] l[k] (aS _) (by rw[show k - 1+1=k by omega];exact aS _) ?_;rw[dP,cD,bK,bK,beq_iff_eq]at hb;exact hb
    ·by_cases e:j+1<k
     ·exact hI j a b e ha hb'
     ·have:j+1=k:=by omega
      subst this;rw[aS (by omega)]at ha hb';injection ha with ha;injection hb' with hb'
      subst ha;subst hb';rw[<-lF,dP,cD,bK,bK,beq_iff_eq]at hb;exact hb
   ·have:=of_decide_eq_false h;have:=(bE.1 hb).1;omega
  ·rintro o ho;refine TG ho (λs hu=>?_)<|λr hr=>S9 (by rw[hr.1,aD hr.2])
   rw[aC hu];refine Td (qm (N:=N) (by omega) hok (by omega)) ?_;intro s hs;obtain⟨z1,z2,z3⟩:=hs.GN;have z4:2*l.length*(2*l.length)<=4000*4000:=Nat.mul_le_mul (by omega) (by omega);refine SZ (CF (uE hs.can) (by omega) (λb hb=>by have:=z2 b hb;omega) (by omega))<|SZ (HL (by omega)) ?_
   have hiff:CQ l↔aU s=l:=⟨λ⟨t,h1,h2⟩=>by rw[hs.unique h1];exact h2,λh=>⟨s,hs,h⟩⟩;refine Ty (λh=>S9 ?_)<|λh=>S9 ?_
   ·have h:¬aU s=l:=by simpa using h
    rw[aD<|λh'=>h<|hiff.1 h']
   ·have h:aU s=l:=by simpa using h
    rw[aC<|hiff.2 h]
theorem tz{l:List aI}:jk l=0↔lW l=0/\Ot l/\CQ l:=by
 unfold jk
 by_cases h:lW l=0
 ·rw[aD (by simpa using h)]
  by_cases h2:Ot l
  ·rw[aC h2]
   by_cases h3:CQ l
   ·rw[aC h3];exact⟨λ_=>⟨h,h2,h3⟩,λ_=>rfl⟩
   ·rw[aD h3];constructor
    ·intro h;omega
    ·rintro⟨_,_,h4⟩;exact absurd h4 h3
  ·rw[aD h2];constructor
   ·intro h;omega
   ·rintro⟨_,h4,_⟩;exact absurd h4 h2
 ·rw[aC h];constructor
  ·intro h2;exact absurd h2 h
  ·rintro⟨h2,_⟩;exact absurd h2 h
theorem yK(n lo hi:Int):iY N n lo hi=some (fZ n lo hi):=rfl
theorem JK{b:cP}(hN:16<=N):mD N b=some (mZ b):=by
 have:=AL (N:=N - 16) (b:=b);rwa[show N - 16+16=N by omega]at this
def mh(n:Nat)(b:cP):Option Int:=if(mZ b).2≠0 then some (mZ b).2 else if fZ b.cR 0 (((n:Nat):Int) - 1)=true/\fZ b.To b.cR (((n:Nat):Int) - 1)=true then none else some 1
def jf(a:fE):Int:=if 500<a.aV.length then 2 else(a.aV.findSome?<|mh a.aL.length).getD 0
theorem DA{a:fE}(h1:a.aL.length<=4611686018427387904)(h2:a.aV.length<=4611686018427387904)(hN:16<=N):lj N a=some (jf a):=by
 unfold lj jf
 by_cases h:500<a.aV.length
 ·rw[bM (by omega),aQ,aC h]
 ·have hw:wrap .i64 (((a.aL.length:Nat):Int) - 1)=((a.aL.length:Nat):Int) - 1:=eY (by omega) (by omega)
  rw[bP (by omega),aT,aD h,zv (mh a.aL.length) h2 (λk x hx=>by
   rw[eD hx,aB,JK hN,aB];unfold mh
   by_cases h0:(mZ x).2=0
   ·rw[aD (by simpa using h0),h0,show((0:Int) != 0)=false by rfl,aT,hw,yK,aB,yK,aB]
    cases h3:fZ x.cR 0 (((a.aL.length:Nat):Int) - 1) <;> cases h4:fZ x.To x.cR (((a.aL.length:Nat):Int) - 1) <;> rfl
   ·rw[aC h0,show((mZ x).2 != 0)=true by simpa using h0];rfl),aB]
  cases a.aV.findSome? (mh a.aL.length) <;> rfl
theorem GP{b:cP}(h:(mZ b).2=0):ru b=true/\f0 (wS b)=true:=by
 unfold mZ at h;split at h
 ·rename_i h';rwa[cD]at h'
 ·cases h
theorem mL{a:fE}(h:jf a=0):a.aV.length<=500/\∀b∈a.aV,ru b=true/\f0 (wS b)=true/\0<=b.cR/\b.cR<=b.To/\b.To<((a.aL.length:Nat):Int):=by
 unfold jf at h;split at h
 ·omega
 ·refine⟨by omega,λb hb=>?_⟩;have hn:mh a.aL.length b=none:=by
   cases hf:a.aV.findSome? (mh a.aL.length)with
   |none=>exact List.findSome?_eq_none_iff.1 hf b hb
   |some e=>
    rw[hf]at h;obtain⟨c,hc,he⟩:=List.exists_of_findSome?_eq_some hf;have h:e=0:=h;subst h;unfold mh at he;split at he
    ·rename_i h';injection he with he;exact absurd he h'
    ·split at he
     ·cases he
     ·injection he with he;omega
  unfold mh at hn;split at hn
  ·cases hn
  ·rename_i h0;split at hn
   ·rename_i h1;have h0:(mZ b).2=0:=by simpa using h0
    have:=GP h0;unfold fZ at h1;simp only[cD,bK]at h1;exact⟨this.1,this.2,by omega,by omega,by omega⟩
   ·cases hn
theorem QP{b:cP}(h1:ru b=true)(h2:f0 (wS b)=true):D0 (wS b):=by
 have hf:=tw h1;refine HK h2 ?_ ?_
 ·show b.At.X - b.dQ / 2<b.At.X - b.dQ / 2+b.dQ;omega
 ·show b.At.Y - b.dQ / 2<b.At.Y - b.dQ / 2+b.dQ;omega
def gx(p q:eE):Int:=if Lib.compareBytes p.Part.dD q.Part.dD≠0 then Lib.compareBytes p.Part.dD q.Part.dD else Lib.compareBytes p.eE.dD q.eE.dD
theorem my(p q:eE):eV N p q=some (gx p q):=by
 unfold eV gx;show(bif Lib.compareBytes p.Part.dD q.Part.dD != 0 then _ else _)=_
 by_cases h:Lib.compareBytes p.Part.dD q.Part.dD=0
 ·rw[h,aD (by simp)];rfl
 ·rw[aC h,show(Lib.compareBytes p.Part.dD q.Part.dD != 0)=true by simpa using h];rfl
def kd(l:dV):eE:=⟨l.Part,l.eE⟩
theorem AM(l:dV):l6 N l=some (kd l):=rfl
def jU(a:fE)(k:Nat):Option Int:=(a.bN[k]?).bind λx=>
 if(og x.Part&&isWord x.eE)=true then
  if(fZ x.fP 0 (((a.aL.length:Nat):Int) - 1)&&rq x.At)=true then
   if 0<k/\(∃y,a.bN[k - 1]? =some y/\gx (kd x) (kd y)<=0)then some 8 else none
  else some 1
 else some 5
noncomputable def lX(a:fE):Int:=if 1000<a.bN.length then 2 else(qK a.bN.length<|jU a).getD 0
end
section
variable {N:Nat}
def CR(a:fE):Prop:=∀x∈a.bN,x.Part.dD.length<=1048576/\x.eE.dD.length<=1048576
theorem DB{a:fE}(h1:a.aL.length<=1073741824)(h2:a.bN.length<=1073741824)(h3:CR a)(hN:4194304<=N):ll N a=some (lX a):=by
 unfold ll lX
 by_cases h:1000<a.bN.length
 ·rw[bM (by omega),aQ,aC h]
 ·have hw:wrap .i64 (((a.aL.length:Nat):Int) - 1)=((a.aL.length:Nat):Int) - 1:=eY (by omega) (by omega)
  rw[bP (by omega),aT,aD h,sw (jU a) (by omega) (λk hk _=>by
   have hx:a.bN[k]? =some a.bN[k]:=aS hk;have hs:=h3 _<|dH hk
   rw[eD hx,aB,zO hs.1 hN,aB]
   have hle:jU a k=(if(og a.bN[k].Part&&isWord a.bN[k].eE)=true then
     if(fZ a.bN[k].fP 0 (((a.aL.length:Nat):Int) - 1)&&rq a.bN[k].At)=true then
      if 0<k/\(∃y,a.bN[k - 1]? =some y/\gx (kd a.bN[k]) (kd y)<=0)then some 8 else none
     else some 1
    else some 5):=by unfold jU;rw[hx];rfl
   rw[hle];have e1:((bif(!og a.bN[k].Part)then some true else((jH N a.bN[k].eE).bind λx225=>some<|!x225)):Option Bool)=some (!(og a.bN[k].Part&&isWord a.bN[k].eE)):=by
    rw[tx hs.2,aB]
    cases og a.bN[k].Part <;> rfl
   have e2:((iY N a.bN[k].fP 0<|wrap .i64<|((a.aL.length:Nat):Int) - 1).bind λx318=>bif(!x318)then some true else((kj N a.bN[k].At).bind λx321=>some<|!x321))=some (!(fZ a.bN[k].fP 0 (((a.aL.length:Nat):Int) - 1)&&rq a.bN[k].At)):=by
    rw[hw,yK,aB,Bf,aB]
    cases fZ a.bN[k].fP 0 (((a.aL.length:Nat):Int) - 1) <;> rfl
   show((bif(!og a.bN[k].Part)then some true else((jH N a.bN[k].eE).bind λx225=>some<|!x225)):Option Bool).bind _=_;rw[e1,aB]
   cases h4:(og a.bN[k].Part&&isWord a.bN[k].eE)with
   |false=>rfl
   |true=>
    rw[mU,aT,aC rfl];show(((iY N a.bN[k].fP 0<|wrap .i64<|((a.aL.length:Nat):Int) - 1).bind λx318=>bif(!x318)then some true else((kj N a.bN[k].At).bind λx321=>some<|!x321))).bind _=_;rw[e2,aB]
    cases h5:(fZ a.bN[k].fP 0 (((a.aL.length:Nat):Int) - 1)&&rq a.bN[k].At)with
    |false=>rfl
    |true=>
     rw[mU,aT,aC rfl]
     by_cases h0:0<k
     ·rw[bM (by omega),aQ,gC h0 (by omega),lI _ _ (by omega:k - 1<a.bN.length)];simp only[AM,aB,my]
      by_cases h6:gx (kd a.bN[k]) (kd a.bN[k - 1])<=0
      ·rw[bM h6,aC ⟨h0,_,aS (by omega:k - 1<a.bN.length),h6⟩];rfl
      ·rw[bP h6,aD (by
        rintro⟨_,y,hy,h7⟩;rw[aS (by omega:k - 1<a.bN.length)]at hy;injection hy with hy
        rw[<-hy]at h7;exact h6 h7)];rfl
     ·rw[bP (by omega),aD (λh=>h0 h.1)];rfl),aB]
  cases qK a.bN.length (jU a) <;> rfl
def lv(b:cP)(k:Int):Bool:=decide (b.cR<=k)&&decide (k<=b.To)
theorem CS(b:cP)(k:Int):lM N b k=some (lv b k):=rfl
def lx(bs:List cP)(k:Int):List aI:=(bs.filter<|λb=>lv b k).map wS
structure nY (bs:List cP):Prop where
 len:bs.length<=500
 ok:∀b∈bs,ru b=true/\f0 (wS b)=true
structure vj (r hs:List aI) (s:List aA):Prop where
 can:fC (s.map cG)
 cover:∀x y,vY (s.map cG) x y=(vW r x y&& !vW hs x y)
 lim:yV (uB r++uB hs) (jF r++jF hs) (s.map cG)
theorem AN{bs:List cP}(h:nY bs)(k:Int):(lx bs k).length<=500:=by
 unfold lx;rw[eL];have:=pw (λb=>lv b k) bs;have:=h.len;omega
theorem wV{bs:List cP}(h:nY bs)(k:Int):∀r∈lx bs k,D0 r/\f0 r=true:=by
 intro r hr;unfold lx at hr;obtain⟨b,hb,rfl⟩:=dK.1 hr;have:=h.ok b (lE.1 hb).1;exact⟨QP this.1 this.2,this.2⟩
theorem vj.small{r hs:List aI}{s:List aA}(h:vj r hs s)(h1:∀x∈r,D0 x)(h2:∀x∈hs,D0 x):(∀c∈uB r++uB hs,small c)/\∀c∈jF r++jF hs,small c:=by
 constructor
 ·intro c hc
  rcases dS.1 hc with h|h
  ·obtain⟨x,hx,rfl|rfl⟩:=uC.1 h
   ·exact(h1 x hx).s1
   ·exact(h1 x hx).s2
  ·obtain⟨x,hx,rfl|rfl⟩:=uC.1 h
   ·exact(h2 x hx).s1
   ·exact(h2 x hx).s2
 ·intro c hc
  rcases dS.1 hc with h|h
  ·obtain⟨x,hx,rfl|rfl⟩:=lU.1 h
   ·exact(h1 x hx).s3
   ·exact(h1 x hx).s4
  ·obtain⟨x,hx,rfl|rfl⟩:=lU.1 h
   ·exact(h2 x hx).s3
   ·exact(h2 x hx).s4
theorem xE{s:List aA}{X Y:List Int}{A:Nat}(hc:fC (s.map cG))(h:yV X Y (s.map cG))(hX:X.length<=A)(hY:Y.length<=A):s.length<=A/\(∀b∈s,b.Xs.length<=A)/\(aU s).length<=A*A:=by
 have h1:s.length<=A:=by have:=h.len hc;rw[eL]at this;omega
 have h2:∀b∈s,b.Xs.length<=A:=λb hb=>by
  have:=h.row hc (b:=cG b)<|dK.2 ⟨b,hb,rfl⟩
  have e:(cG b).xs=b.Xs:=rfl;rw[e]at this;omega
 exact⟨h1,h2,CE h1 h2⟩
theorem DC{r hs:List aI}(h1:r.length<=2000)(h2:∀x∈r,D0 x)(h3:hs.length<=500)(h4:∀x∈hs,D0 x)(hN:4398046511104<=N){β:Type}{f:List aA->Option β}{Q:β->Prop}(k:∀s,vj r hs s->Ok (f s) Q):
  Ok ((iF N r).bind λx378=>(iF N hs).bind λx380=>(lN N x378 x380).bind f) Q:=by
 refine Td (qm (N:=N) (by omega) h2 (by omega))<|λs hs1=>?_
 refine Td (qm (N:=N) (by omega) h4 (by omega))<|λt ht=>?_
 have hz:∀c∈jF r++jF hs,small c:=by
  intro c hc
  rcases dS.1 hc with h|h
  ·obtain⟨x,hx,rfl|rfl⟩:=lU.1 h
   ·exact(h2 x hx).s3
   ·exact(h2 x hx).s4
  ·obtain⟨x,hx,rfl|rfl⟩:=lU.1 h
   ·exact(h4 x hx).s3
   ·exact(h4 x hx).s4
 refine Td (JG (X:=uB r++uB hs) (Y:=jF r++jF hs) hs1.can ht.can (hs1.lim.mono (λc h=>List.mem_append_left _ h) (λc h=>List.mem_append_left _ h)) (ht.lim.mono (λc h=>List.mem_append_right _ h) (λc h=>List.mem_append_right _ h))
  (by rw[dG,mw,mw];omega) (by rw[dG,jM,jM];omega) hz hN) (λu hu=>?_)
 exact k u ⟨hu.can,λx y=>by rw[hu.cover,hs1.cover,ht.cover],hu.lim⟩
def eQ:Nat->List (List<|List aA)->List aO
 |_,[]=>[]
 |k,ps::r=>ps.map (λp=>⟨((k:Nat):Int),p,aU p⟩)++eQ (k+1) r
theorem yL(ps:List (List aA)):∀(r:List (List<|List aA))(k:Nat),eQ k (r++[ps])=eQ k r++ps.map (λp=>⟨((k+r.length:Nat):Int),p,aU p⟩)
 | [],k=>by unfold eQ;simp[eQ]
 |q::r,k=>by
  show _++eQ (k+1) (r++[ps])=(_++eQ (k+1) r)++_;rw[yL ps r<|k+1,kf];congr 3;simp only[eM];rw[show k+(r.length+1)=k+1+r.length by omega]
theorem CT{s p:List aA}{ps:List (List aA)}{r:Nat->Nat}{X Y:List Int}(h:tv s r ps)(hc:fC (s.map cG))(hl:yV X Y (s.map cG))(hX:∀c∈X,small c)(hY:∀c∈Y,small c)(hp:p∈ps):
  ∃j k:Nat,ps[j]? =some p/\(cE (aU s).length r)[j]? =some k/\sO (oe (aU s) (aU s).length r k) p/\yV X Y (p.map cG):=by
 obtain⟨j,hj⟩:=eX hp;have hjl:=(bE.1 hj).1;rw[h.len]at hjl;have hh:(cE (aU s).length r)[j]? =some (cE (aU s).length r)[j]:=aS hjl;have hs:=h.each j _ p hh hj;refine⟨j,_,hj,hh,hs,hs.lim.mono (λc hcx=>?_)<|λc hcx=>?_⟩
 ·obtain⟨x,hx,hxc⟩:=uC.1 hcx;obtain⟨i,_,_,hi⟩:=mx.1 hx;have:=CG hc hl hX hY x<|fK hi
  rcases hxc with rfl|rfl
  ·exact this.2.1.1
  ·exact this.2.1.2
 ·obtain⟨x,hx,hxc⟩:=lU.1 hcx;obtain⟨i,_,_,hi⟩:=mx.1 hx;have:=CG hc hl hX hY x<|fK hi
  rcases hxc with rfl|rfl
  ·exact this.2.2.1
  ·exact this.2.2.2
structure wW (cs:List (List aI)) (bs:List cP) (k:Nat) (mz:List (List aA)) (gY:List (List (List aA))):Prop where
 len:mz.length=k
 DD:gY.length=k
 dr:∀(i:Nat)r s,i<k->cs[i]? =some r->mz[i]? =some s->vj r (lx bs ((i:Nat):Int)) s
 pt:∀(i:Nat)s ps,i<k->mz[i]? =some s->gY[i]? =some ps->∃u,tv s u ps
 CU:(eQ 0 gY).length<=k*25000000
theorem tv.CU{s:List aA}{u:Nat->Nat}{ps:List (List aA)}(h:tv s u ps):ps.length<=(aU s).length:=by
 rw[h.len];exact qp _ _
theorem HM{cs:List (List aI)}{bs:List cP}(hcs:cs.length<=16)(hc:∀r∈cs,r.length<=2000/\∀x∈r,D0 x)(hb:nY bs)(hN:4398046511104<=N):
  Ok (kE N cs bs [] []) (λx=>∃gY,wW cs bs cs.length x.2.1 gY/\x.2.2=eQ 0 gY/\(x.1=true↔(∀s∈x.2.1,(aU s).length<=2000)/\x.2.2.length<=2000)):=by
 unfold kE
 refine Td (P:=λ(st:List (List aA)×List aO×Bool)=>∃gY,wW cs bs cs.length st.1 gY/\st.2.1=eQ 0 gY/\(st.2.2=true↔∀s∈st.1,(aU s).length<=2000)) (T6 (λ(k:Nat)(st:List (List aA)×List aO×Bool)=>∃gY,wW cs bs k st.1 gY/\st.2.1=eQ 0 gY/\(st.2.2=true↔∀s∈st.1,(aU s).length<=2000)) (by omega)
  ⟨[],⟨rfl,rfl,λi r s hi=>by omega,λi s ps hi=>by omega,by simp[eQ]⟩,rfl,by simp⟩ (λk st hk hI=>?_)) ?_
 ·obtain⟨mz,pcs,okk⟩:=st;obtain⟨gY,D,e1,e2⟩:=hI;dsimp only at D e1 e2 ⊢;subst e1;have hkx:cs[k]? =some cs[k]:=aS hk;obtain⟨hr1,hr2⟩:=hc _<|dH hk
  refine Ti hkx ?_;refine Td (P:=λt=>t=lx bs ((k:Nat):Int)) (Ok.mono (T6 (λj t=>t=lx (bs.take j) ((k:Nat):Int)) (by have:=hb.len;omega) rfl<|λj t hj e=>?_) (λt e=>by rw[e,gj]))<|λt e=>?_
  ·subst e;refine TY hj<|SZ (CS _ _) ?_
   have hts:bs.take (j+1)=bs.take j++[bs[j]]:=fJ hj;have hgb:=hb.ok _<|dH hj
   have hl:(lx (bs.take j) ((k:Nat):Int)).length<=500:=by
    unfold lx;rw[eL];have:=pw (λb=>lv b ((k:Nat):Int))<|bs.take j
    rw[cW]at this;have:=hb.len;omega
   cases ht:lv bs[j] ((k:Nat):Int)with
   |false=>
    rw[aT];refine SZ rfl<|S9 ?_
    unfold lx;rw[hts,k8];simp[ht]
   |true=>
    rw[aQ];refine SZ (x:=lx (bs.take j) ((k:Nat):Int)++[wS bs[j]]) (by rw[nG hgb.1,aB,lq (by simp;omega),aB])<|S9 ?_
    unfold lx;rw[hts,k8,fu];simp[ht]
  ·subst e;have hho:=wV hb ((k:Nat):Int);have hhl:=AN hb ((k:Nat):Int);refine DC hr1 hr2 hhl (λx hx=>(hho x hx).1) hN<|λs hs=>?_
   obtain⟨sx,sy⟩:=hs.small hr2<|λx hx=>(hho x hx).1
   obtain⟨z1,z2,z3⟩:=xE (A:=5000) hs.can hs.lim (by rw[dG,mw,mw];omega) (by rw[dG,jM,jM];omega);have hmany:=Mo (N:=N) (s:=s) (by omega) (λb hb=>by have:=z2 b hb;omega) (by omega);refine SZ (x:=(okk&&decide ((aU s).length<=2000),s)) ?_ ?_
   ·cases okk with
    |false=>rfl
    |true=>
     rw[aQ,hmany,aB,Bool.true_and];rw[show decide ((((aU s).length:Nat):Int)<=2000)=decide ((aU s).length<=2000)from decide_eq_decide.2 (by omega)]
   dsimp only;refine TW (by rw[D.len];simp;omega) ?_;refine Td (HI (N:=N) hs.can hs.lim sx sy (by omega) (λb hb=>by have:=z2 b hb;omega) (by omega) hN) ?_;rintro ps⟨u,hu⟩;have hfew:=hu.CU;have hk16:k*25000000<=16*25000000:=Nat.mul_le_mul_right _ (by omega);have hDf:=D.CU;refine Td (P:=λt=>t=eQ 0 gY++ps.map (λp=>(⟨((k:Nat):Int),p,aU p⟩:aO))) (Ok.mono (T6 (λj t=>t=eQ 0 gY++(ps.take j).map (λp=>(⟨((k:Nat):Int),p,aU p⟩:aO))) (by omega) (by simp)<|λj t hj e=>?_) (λt e=>by rw[e,gj]))<|λt e=>S9 ?_
   ·subst e;have hjx:ps[j]? =some ps[j]:=aS hj;refine Ti hjx ?_;obtain⟨_,_,_,_,nM,hpl⟩:=CT hu hs.can hs.lim sx sy<|dH hj
    obtain⟨y1,y2,y3⟩:=xE (A:=5000) nM.can hpl (by rw[dG,mw,mw];omega) (by rw[dG,jM,jM];omega);refine SZ (CF (uE nM.can) (by omega) (λb hb=>by have:=y2 b hb;omega) (by omega))<|TW ?_<|S9 ?_
    ·simp only[dG,eL,cW,List.length_singleton];omega
    ·rw[fJ hj,fu,kf];rfl
   ·subst e;refine⟨gY++[ps],⟨by simp[D.len],by simp[D.DD],λi r s' hi hr hs'=>?_,λi s' ps' hi hs' hps'=>?_,?_⟩,?_,?_⟩
    ·dsimp only at hs'
     by_cases hik:i<k
     ·rw[gN (by rw[D.len];exact hik)]at hs';exact D.dr i r s' hik hr hs'
     ·have:i=k:=by omega
      subst this;rw[hU (by rw[D.len];omega),D.len,Nat.sub_self]at hs';simp at hs';subst hs';rw[hkx]at hr;injection hr with hr;subst hr
      exact hs
    ·dsimp only at hs'
     by_cases hik:i<k
     ·rw[gN (by rw[D.len];exact hik)]at hs';rw[gN (by rw[D.DD];exact hik)]at hps';exact D.pt i s' ps' hik hs' hps'
     ·have:i=k:=by omega
      subst this;rw[hU (by rw[D.len];omega),D.len,Nat.sub_self]at hs';rw[hU (by rw[D.DD];omega),D.DD,Nat.sub_self]at hps';simp at hs' hps';subst hs';subst hps';exact⟨u,hu⟩
    ·rw[yL,dG,eL];omega
    ·dsimp only;rw[yL,D.DD,iT]
    ·dsimp only;rw[cD,e2,bK];constructor
     ·rintro⟨h1,h2⟩s' hs'
      rcases dS.1 hs' with h|h
      ·exact h1 s' h
      ·simp at h;subst h;exact h2
     ·intro h;exact⟨λs' hs'=>h s'<|List.mem_append_left _ hs',h s (by simp)⟩
 ·rintro⟨mz,pcs,okk⟩⟨gY,D,e1,e2⟩;dsimp only at D e1 e2 ⊢;subst e1;refine Td (P:=λb=>b=true↔(∀s∈mz,(aU s).length<=2000)/\(eQ 0 gY).length<=2000) (Ty (λh=>S9 ?_)<|λh=>S9 ?_)<|λb hb=>S9 ⟨gY,D,rfl,hb⟩
  ·rw[bK];constructor
   ·intro h';exact⟨e2.1 h,by omega⟩
   ·rintro⟨_,h'⟩;omega
  ·constructor
   ·intro h';cases h'
   ·rintro⟨h',_⟩;rw[e2.2 h']at h;cases h
end
end Go.Gk
