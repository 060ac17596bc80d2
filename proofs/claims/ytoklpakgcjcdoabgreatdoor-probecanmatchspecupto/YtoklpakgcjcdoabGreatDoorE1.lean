/-
  Helping texts: plain functions and plain laws. No statement of the seed is proved here.
-/
import Derived.Test.YtoklpakgcjcdoabGreatDoorA1
import Derived.ChangeShapes
import Derived.ChangeSame
import Derived.Carry
import Derived.RowKit
import Derived.Test.YtoklpakgcjcdoabGreatDoorA2
set_option linter.unusedVariables false
set_option linter.unusedSimpArgs false
set_option linter.unusedSectionVars false
namespace Go.Gk
open Go IntKind
noncomputable section
structure aF where
 X0:Int
 Y0:Int
 X1:Int
 Y1:Int
 deriving DecidableEq,Inhabited
structure dW where
 X:Int
 Y:Int
 deriving DecidableEq,Inhabited
structure bV where
 At:dW
 eN:Int
 cM:Int
 To:Int
 fM:Bool
 deriving DecidableEq,Inhabited
structure dA where
 Part:eJ
 eK:eJ
 cN:Int
 At:dW
 deriving DecidableEq,Inhabited
structure gZ where
 aL:Z (Z aF)
 cS:Z aF
 aN:Z bV
 bO:Z dA
 deriving DecidableEq,Inhabited
structure eK where
 Part:eJ
 eK:eJ
 deriving DecidableEq,Inhabited
structure Test where
 A:eK
 B:eK
 Joined:Bool
 deriving DecidableEq,Inhabited
structure aA where
 Y0:Int
 Y1:Int
 Xs:Z Int
 deriving DecidableEq,Inhabited
structure aD where
 cN:Int
 Set:Z aA
 eD:Z aF
 deriving DecidableEq,Inhabited
structure bZ where
 fO:Z Int
 aN:Z Int
 fB:Z eK
 deriving DecidableEq,Inhabited
structure eB where
 bV:Bool
 Number:Int
 deriving DecidableEq,Inhabited
structure aU where
 Open:Bool
 eB:eB
 A:Int
 B:Int
 deriving DecidableEq,Inhabited
structure wh where
 A:Int
 B:Int
 i5:Int
 cM:dW
 To:dW
 deriving DecidableEq,Inhabited
structure aG where
 from_:Int
 to:Int
 deriving DecidableEq,Inhabited
structure aR where
 from_:Int
 to:Int
 kp:Z aG
 deriving DecidableEq,Inhabited
structure cP where
 Em:aU
 wH:Z Bool
 deriving DecidableEq,Inhabited
def xB(N:Nat)(p0 p1 p2:Int):aT Bool:=
 some (decide (p0>=p1)&&decide (p0<=p2))
def ng(N:Nat)(p0:Int):aT Bool:=
 (xB N p0 (-1000000) 1000000).bind λj=>some j
def pq(N:Nat)(p0:aF):aT Bool:=
 ((ng N p0.X0).bind λj=>bif j then((ng N p0.Y0).bind λo=>bif o then((ng N p0.X1).bind λaa=>bif aa then((ng N p0.Y1).bind λab=>some ab)else some false)else some false)else some false).bind λad=>some ad
def mM(N:Nat)(p0:Z aF):aT Int:=
 bif decide ((p0.length:Int)>2000)then some 2 else((vA p0.length (λ(o:Nat)(aa:Unit)=>((idx p0 (o:Int)).bind λj=>(pq N j).bind λab=>bif(!ab)then some (.rt 1)else(bif decide (j.X1<=j.X0)||decide (j.Y1<=j.Y0)then some (.rt 13)else some (.nx ())):aT (Fl Unit Int))) ()).bind λad=>ad.cs (λ(aa:Unit)=>some 0)<|λr=>some r)
def kO(N:Nat)(p0:Z aF):aT (Z aF):=
 (app 32 ([]:Z aF) p0).bind λj=>some j
def lN(N:Nat)(p0 p1:aF):aT Int:=
 some (wrap .i64<|p0.Y0 - p1.Y0)
def jg(N:Nat)(p0:Z Int):aT (Z Int):=
 bif decide ((p0.length:Int)<2)then some p0 else((iI (λ(o:Int)=>(bif decide (o<(p0.length:Int))then((idx p0 o).bind λab=>(idx p0<|wrap .i64<|o - 1).bind λad=>bif ab==ad then((vC p0 o (p0.length:Int)).bind λak=>(iI (λ(j:Z Int×Int×Int)=>(bif decide (j.2.2<(((j.1.length - Int.toNat o):Nat):Int))then((Li j.1 o j.2.2).bind λae=>(Li j.1 o<|wrap .i64<|j.2.2 - 1).bind λaf=>(bif ae != af then((Li j.1 o j.2.2).bind λag=>(idx j.1 j.2.1).bind λal=>some (j.1.set (Int.toNat j.2.1) ag,wrap .i64<|j.2.1+1))else some (j.1,j.2.1)).bind λaa=>some<|.nx (aa.1,aa.2,wrap .i64<|j.2.2+1))else(some<|.br (j.1,j.2.1,j.2.2)):aT (Fl (Z Int×Int×Int) Empty))) N (p0,o,1)).bind λah=>ah.cs (λ(j:Z Int×Int×Int)=>(vC j.1 j.2.1 (j.1.length:Int)).bind λan=>(vC (j.1.take (Int.toNat j.2.1)++List.replicate (j.1.length - Int.toNat j.2.1) (0:Int)) 0 j.2.1).bind λai=>some<|.rt ai)<|λr=>r.elim)else some (.nx<|wrap .i64<|o+1))else(some<|.br o):aT (Fl Int<|Z Int))) N 1).bind λaj=>aj.cs (λ(o:Int)=>some p0)<|λr=>some r)
def rE(N:Nat)(p0:aF)(p1:Z Int)(p2:Int):aT Bool:=
 (idx p1 p2).bind λj=>some<|decide<|p0.Y1<=j
def n9(N:Nat)(p0:Z aF)(p1:aF->aT Bool):aT Int:=
 (vA p0.length (λ(j:Nat)(o:Unit)=>((idx p0 (j:Int)).bind λaa=>(p1 aa).bind λab=>bif ab then some (.rt (j:Int))else(some<|.nx ()):aT (Fl Unit Int))) ()).bind λad=>ad.cs (λ(o:Unit)=>some<|-1)<|λr=>some r
def mD(N:Nat)(p0:Z aF)(p1:aF->aT Bool):aT Int:=
 (vA p0.length (λ(j:Nat)(o:Unit)=>((idx p0 (j:Int)).bind λaa=>(p1 aa).bind λab=>bif ab then some (.rt (j:Int))else(some<|.nx ()):aT (Fl Unit Int))) ()).bind λad=>ad.cs (λ(o:Unit)=>some<|-1)<|λr=>some r
def jT(N:Nat)(p0:Z aF)(p1:aF->aT Bool):aT (Z aF):=
 (mD N p0 p1).bind λo=>bif o==(-1)then some p0 else((iI (λ(j:Z aF×Int×Int)=>(bif decide (j.2.2<(j.1.length:Int))then((idx j.1 j.2.2).bind λaa=>(p1 aa).bind λad=>(bif(!ad)then((idx j.1 j.2.1).bind λag=>some (j.1.set (Int.toNat j.2.1) aa,wrap .i64<|j.2.1+1))else some (j.1,j.2.1)).bind λab=>some<|.nx (ab.1,ab.2,wrap .i64<|j.2.2+1))else(some<|.br (j.1,j.2.1,j.2.2)):aT (Fl (Z aF×Int×Int) Empty))) N (p0,o,wrap .i64<|o+1)).bind λae=>ae.cs (λ(j:Z aF×Int×Int)=>(vC j.1 j.2.1 (j.1.length:Int)).bind λah=>(vC (j.1.take (Int.toNat j.2.1)++List.replicate (j.1.length - Int.toNat j.2.1) (⟨0,0,0,0⟩:aF)) 0 j.2.1).bind λaf=>some af)<|λr=>r.elim)
def jh(N:Nat)(p0 p1:aF):aT Int:=
 some (wrap .i64<|p0.X0 - p1.X0)
def kZ(N:Nat)(p0:Z aF):aT (Z Int×Z aF):=
 (B2 (jh N) p0).bind λaa=>(k9 aa.length (λ(ad:Nat)(j:Z Int)=>((idx aa (ad:Int)).bind λo=>(bif decide (wrap .i64 ((j.length:Int) - 1)>=0)then((idx j<|wrap .i64<|(j.length:Int) - 1).bind λae=>some<|decide<|o.X0<=ae)else some false).bind λaf=>(bif af then((idx j<|wrap .i64<|(j.length:Int) - 1).bind λab=>(idx j<|wrap .i64<|(j.length:Int) - 1).bind λai=>some<|j.set (Int.toNat<|wrap .i64<|(j.length:Int) - 1) (if ab<o.X1 then o.X1 else ab))else((app 8 j ([o.X0,o.X1]:Z Int)).bind λag=>some ag)).bind λah=>some ah:aT (Z Int))) ([]:Z Int)).bind λj=>some (j,aa)
def pr(N:Nat)(p0:Z Int)(p1:Z Int):aT Bool:=
 bif(p0.length:Int) != (p1.length:Int)then some false else((vA p0.length (λ(j:Nat)(o:Unit)=>((idx p0 (j:Int)).bind λaa=>(idx p1 (j:Int)).bind λab=>bif aa != ab then some (.rt false)else(some<|.nx ()):aT (Fl Unit Bool))) ()).bind λad=>ad.cs (λ(o:Unit)=>some true)<|λr=>some r)
def kD(N:Nat)(p0:Z aA)(p1:aA):aT (Z aA):=
 bif((p1.Xs.length:Int)==0)||decide (p1.Y1<=p1.Y0)then some p0 else((bif decide (wrap .i64 ((p0.length:Int) - 1)>=0)then((idx p0<|wrap .i64<|(p0.length:Int) - 1).bind λj=>bif j.Y1==p1.Y0 then((idx p0<|wrap .i64<|(p0.length:Int) - 1).bind λo=>(pr N o.Xs p1.Xs).bind λaa=>some aa)else some false)else some false).bind λab=>bif ab then((idx p0<|wrap .i64<|(p0.length:Int) - 1).bind λad=>some<|p0.set (Int.toNat<|wrap .i64<|(p0.length:Int) - 1)<|{ad with Y1:=p1.Y1})else((app 40 p0 ([p1]:Z aA)).bind λae=>some ae))
def jm(N:Nat)(p0:Z aF):aT (Z aA):=
 (kO N p0).bind λag=>(B2 (lN N) ag).bind λaa=>(k9 aa.length (λ(ah:Nat)(ad:Z Int)=>((idx aa (ah:Int)).bind λae=>(app 8 ad ([ae.Y0,ae.Y1]:Z Int)).bind λai=>some ai:aT (Z Int))) ([]:Z Int)).bind λad=>(yU ad).bind λaj=>(jg N aj).bind λab=>(iI (λ(j:Z aA×Z aF×Int×Int)=>(bif decide (wrap .i64 (j.2.2.2+1)<(ab.length:Int))then((jT N j.2.1<|λy0=>rE N y0 ab j.2.2.2).bind λak=>(iI (λ(o:Z aF×Int)=>((bif decide (o.2<(aa.length:Int))then((idx aa o.2).bind λal=>(idx ab j.2.2.2).bind λan=>some<|decide<|al.Y0<=an)else some false).bind λao=>bif ao then((idx aa o.2).bind λaq=>(app 32 o.1 ([aq]:Z aF)).bind λar=>some<|.nx (ar,wrap .i64<|o.2+1))else(some<|.br (o.1,o.2)):aT (Fl (Z aF×Int) Empty))) N (ak,j.2.2.1)).bind λau=>au.cs (λ(o:Z aF×Int)=>(idx ab j.2.2.2).bind λav=>(idx ab<|wrap .i64<|j.2.2.2+1).bind λaw=>(kZ N o.1).bind λaf=>(kD N j.1 (⟨av,aw,af.1⟩:aA)).bind λax=>some<|.nx (ax,af.2,o.2,wrap .i64<|j.2.2.2+1))<|λr=>r.elim)else(some<|.br (j.1,j.2.1,j.2.2.1,j.2.2.2)):aT (Fl (Z aA×Z aF×Int×Int) Empty))) N (([]:Z aA),([]:Z aF),0,0)).bind λay=>ay.cs (λ(j:Z aA×Z aF×Int×Int)=>some j.1)<|λr=>r.elim
def k6(N:Nat)(p0:Z aA):aT (Z aF):=
 (k9 p0.length (λ(ab:Nat)(aa:Z aF)=>((idx p0 (ab:Int)).bind λo=>(iI (λ(j:Z aF×Int)=>(bif decide (j.2<(o.Xs.length:Int))then((idx o.Xs j.2).bind λad=>(idx o.Xs<|wrap .i64<|j.2+1).bind λae=>(app 32 j.1 ([(⟨ad,o.Y0,ae,o.Y1⟩:aF)]:Z aF)).bind λaf=>some<|.nx (af,wrap .i64<|j.2+2))else(some<|.br (j.1,j.2)):aT (Fl (Z aF×Int) Empty))) N (aa,0)).bind λag=>ag.cs (λ(j:Z aF×Int)=>some j.1) (λr=>r.elim):aT (Z aF))) ([]:Z aF)).bind λaa=>some aa
def mn(N:Nat)(p0:Z aF)(p1:Z aF):aT Bool:=
 bif(p0.length:Int) != (p1.length:Int)then some false else((vA p0.length (λ(j:Nat)(o:Unit)=>((idx p0 (j:Int)).bind λaa=>(idx p1 (j:Int)).bind λab=>bif(!(decide<|aa=ab))then some (.rt false)else(some<|.nx ()):aT (Fl Unit Bool))) ()).bind λad=>ad.cs (λ(o:Unit)=>some true)<|λr=>some r)
def kP(N:Nat)(p0:Z aF):aT Int:=
 (mM N p0).bind λab=>bif ab != 0 then some ab else((iI (λ(j:Int)=>(bif decide (j<(p0.length:Int))then((idx p0<|wrap .i64<|j - 1).bind λo=>(idx p0 j).bind λaa=>bif decide (aa.Y0<o.Y0)||((aa.Y0==o.Y0)&&decide (aa.X0<=o.X0))then some (.rt 8)else some (.nx<|wrap .i64<|j+1))else(some<|.br j):aT (Fl Int Int))) N 1).bind λad=>ad.cs (λ(j:Int)=>(jm N p0).bind λae=>(k6 N ae).bind λaf=>(mn N af p0).bind λag=>bif(!ag)then some 3 else some 0)<|λr=>some r)
def jM(N:Nat)(p0 p1 p2:Int):aT Bool:=
 some (decide (p0>=p1)&&decide (p0<=p2))
def lC(N:Nat)(p0:dW):aT Bool:=
 ((ng N p0.X).bind λj=>bif j then((ng N p0.Y).bind λo=>some o)else some false).bind λaa=>some aa
def iH(N:Nat)(p0:bV):aT aF:=
 some (⟨wrap .i64<|p0.At.X -(wrap .i64<|Int.tdiv p0.eN 2),wrap .i64<|p0.At.Y -(wrap .i64<|Int.tdiv p0.eN 2),wrap .i64<|wrap .i64 (p0.At.X -(wrap .i64<|Int.tdiv p0.eN 2))+p0.eN,wrap .i64<|wrap .i64 (p0.At.Y -(wrap .i64<|Int.tdiv p0.eN 2))+p0.eN⟩:aF)
def pw(N:Nat)(p0:Z aA):aT aF:=
 (idx p0 0).bind λad=>(idx ad.Xs 0).bind λae=>(idx p0 0).bind λaf=>(idx p0 0).bind λag=>(idx ag.Xs 1).bind λah=>(idx p0<|wrap .i64<|(p0.length:Int) - 1).bind λai=>(k9 p0.length (λ(aj:Nat)(j:aF)=>((idx p0 (aj:Int)).bind λo=>(idx o.Xs 0).bind λaa=>(idx o.Xs<|wrap .i64<|(o.Xs.length:Int) - 1).bind λab=>some ({{j with X0:=(if aa<j.X0 then aa else j.X0)}with X1:=(if j.X1<ab then ab else j.X1)}):aT aF)) (⟨ae,af.Y0,ah,ai.Y1⟩:aF)).bind λj=>some j
def oL(N:Nat)(p0:Z aA):aT Bool:=
 (bif(p0.length:Int)==0 then some true else((pw N p0).bind λj=>(pq N j).bind λo=>some o)).bind λaa=>some aa
def nV(N:Nat)(p0:bV):aT (aF×Int):=
 ((jM N p0.eN 1 10000).bind λo=>bif(!o)then some true else((lC N p0.At).bind λaa=>some<|!aa)).bind λab=>bif ab then some ((⟨0,0,0,0⟩:aF),1)else((iH N p0).bind λj=>(jm N ([j]:Z aF)).bind λad=>(oL N ad).bind λae=>bif(!ae)then some ((⟨0,0,0,0⟩:aF),1)else some (j,0))
def mo(N:Nat)(p0:gZ):aT Int:=
 bif decide ((p0.aN.length:Int)>500)then some 2 else((vA p0.aN.length (λ(aa:Nat)(ab:Unit)=>((idx p0.aN (aa:Int)).bind λj=>(nV N j).bind λo=>bif o.2 != 0 then some (.rt o.2)else(((jM N j.cM 0<|wrap .i64<|(p0.aL.length:Int) - 1).bind λad=>bif(!ad)then some true else((jM N j.To j.cM<|wrap .i64<|(p0.aL.length:Int) - 1).bind λae=>some<|!ae)).bind λaf=>bif af then some (.rt 1)else some (.nx ())):aT (Fl Unit Int))) ()).bind λag=>ag.cs (λ(ab:Unit)=>some 0)<|λr=>some r)
def kb(N:Nat)(p0:eJ)(p1:Int):aT Int:=
 some (Lib.indexByte p0.dV (Int.toNat p1).toUInt8)
def mq(N:Nat)(p0 p1:eJ):aT Int:=
 bif((p1.dV.length:Int)==0)||p1.wD p0 then some 0 else(bif(p1.dV.length:Int)==1 then((Le p1 0).bind λj=>(kb N p0 (j.toNat:Int)).bind λo=>some o)else(bif decide ((p1.dV.length:Int)>=(p0.dV.length:Int))then some (-1)else none))
def nW(N:Nat)(p0 p1:eJ):aT Int:=
 (mq N p0 p1).bind λj=>some j
def qe(N:Nat)(p0 p1:eJ):aT Int:=
 bif(p1.dV.length:Int)==0 then none else(bif(p1.dV.length:Int)==1 then((Le p1 0).bind λaa=>some ((Lib.countByte p0.dV (Int.toNat (aa.toNat:Int)).toUInt8:Nat):Int))else((iI (λ(j:eJ×Int)=>((nW N j.1 p1).bind λo=>bif o==(-1)then some (.rt j.2)else((Be j.1 (wrap .i64<|o+(p1.dV.length:Int)) (j.1.dV.length:Int)).bind λab=>some<|.nx (ab,wrap .i64<|j.2+1)):aT (Fl (eJ×Int) Int))) N (p0,0)).bind λad=>ad.cs (λ(j:eJ×Int)=>some 0)<|λr=>some r))
def px(N:Nat)(p0 p1:eJ)(p2 p3:Int):aT (Z eJ):=
 bif p3==0 then some ([]:Z eJ)else(bif p1.wD (⟨[]⟩)then none else((bif p3<0 then((qe N p0 p1).bind λab=>some<|wrap .i64<|ab+1)else some p3).bind λo=>(mk 16 (⟨[]⟩:eJ) (if wrap .i64 ((p0.dV.length:Int)+1)<o then wrap .i64 ((p0.dV.length:Int)+1)else o)).bind λad=>(iI (λ(j:eJ×Z eJ×Int)=>(bif decide (j.2.2< wrap .i64 ((if wrap .i64 ((p0.dV.length:Int)+1)<o then wrap .i64 ((p0.dV.length:Int)+1)else o) - 1))then((nW N j.1 p1).bind λaa=>bif aa<0 then some (.br (j.1,j.2.1,j.2.2))else((Be j.1 0<|wrap .i64<|aa+p2).bind λae=>(idx j.2.1 j.2.2).bind λai=>(Be j.1 (wrap .i64<|aa+(p1.dV.length:Int)) (j.1.dV.length:Int)).bind λaf=>some<|.nx (af,j.2.1.set (Int.toNat j.2.2) ae,wrap .i64<|j.2.2+1)))else(some<|.br (j.1,j.2.1,j.2.2)):aT (Fl (eJ×Z eJ×Int) Empty))) N (p0,ad,0)).bind λag=>ag.cs (λ(j:eJ×Z eJ×Int)=>(idx j.2.1 j.2.2).bind λaj=>(vC (j.2.1.set (Int.toNat j.2.2) j.1) 0<|wrap .i64<|j.2.2+1).bind λah=>some ah)<|λr=>r.elim))
def nX(N:Nat)(p0 p1:eJ):aT (Z eJ):=
 (px N p0 p1 0<|-1).bind λj=>some j
def mN(N:Nat)(p0:Z eJ)(p1:eJ->aT Bool):aT Int:=
 (vA p0.length (λ(j:Nat)(o:Unit)=>((idx p0 (j:Int)).bind λaa=>(p1 aa).bind λab=>bif ab then some (.rt (j:Int))else(some<|.nx ()):aT (Fl Unit Int))) ()).bind λad=>ad.cs (λ(o:Unit)=>some<|-1)<|λr=>some r
def jU(N:Nat)(p0:Z eJ)(p1:eJ->aT Bool):aT Bool:=
 (mN N p0 p1).bind λj=>some<|decide<|j>=0
def iV(N:Nat)(p0:eJ)(p1:Int):aT Int:=
 (kb N p0 p1).bind λj=>some j
def kE(N:Nat)(p0:eJ):aT Bool:=
 (vA p0.dV.length (λ(o:Nat)(aa:Unit)=>((Le p0 (o:Int)).bind λj=>(bif((decide ((j.toNat:Int)<65)||decide ((j.toNat:Int)>90))&&(decide ((j.toNat:Int)<97)||decide ((j.toNat:Int)>122)))&&(decide ((j.toNat:Int)<48)||decide ((j.toNat:Int)>57))then((iV N (⟨[95,43,45,35]⟩) (j.toNat:Int)).bind λab=>some<|decide<|ab<0)else some false).bind λad=>bif ad then some (.rt false)else(some<|.nx ()):aT (Fl Unit Bool))) ()).bind λae=>ae.cs (λ(aa:Unit)=>some<|decide ((p0.dV.length:Int)>=1)&&decide ((p0.dV.length:Int)<=40))<|λr=>some r
def jV(N:Nat)(p0:eJ):aT Bool:=
 (kE N p0).bind λj=>some<|!j
def oM(N:Nat)(p0:eJ):aT Bool:=
 (bif decide ((p0.dV.length:Int)<=200)then((nX N p0<|⟨[47]⟩).bind λj=>(jU N j<|jV N).bind λo=>some<|!o)else some false).bind λaa=>some aa
def ni(N:Nat)(p0:dA):aT eK:=
 some (⟨p0.Part,p0.eK⟩:eK)
def oc(N:Nat)(p0 p1:eJ):aT Int:=
 some (Lib.compareBytes p0.dV p1.dV)
def qF(N:Nat)(p0 p1:eJ):aT Int:=
 (oc N p0 p1).bind λj=>some j
def fC(N:Nat)(p0 p1:eK):aT Int:=
 (qF N p0.Part p1.Part).bind λj=>bif j != 0 then some j else((qF N p0.eK p1.eK).bind λo=>some o)
def mu(N:Nat)(p0:gZ):aT Int:=
 bif decide ((p0.bO.length:Int)>1000)then some 2 else((vA p0.bO.length (λ(o:Nat)(aa:Unit)=>((idx p0.bO (o:Int)).bind λj=>((oM N j.Part).bind λab=>bif(!ab)then some true else((kE N j.eK).bind λad=>some<|!ad)).bind λae=>bif ae then some (.rt 5)else(((jM N j.cN 0<|wrap .i64<|(p0.aL.length:Int) - 1).bind λaf=>bif(!af)then some true else((lC N j.At).bind λag=>some<|!ag)).bind λah=>bif ah then some (.rt 1)else((bif decide ((o:Int)>0)then((idx p0.bO<|wrap .i64<|(o:Int) - 1).bind λai=>(ni N j).bind λaj=>(ni N ai).bind λak=>(fC N aj ak).bind λal=>some<|decide<|al<=0)else some false).bind λan=>bif an then some (.rt 8)else some (.nx ()))):aT (Fl Unit Int))) ()).bind λao=>ao.cs (λ(aa:Unit)=>some 0)<|λr=>some r)
def lD(N:Nat)(p0 p1:Int)(p2 p3:Int):aT Int:=
 some (if(if 0<(wrap .i64<|wrap .i64 (p2 - p1)+1)then wrap .i64 (wrap .i64 (p2 - p1)+1)else 0)<(wrap .i64<|wrap .i64 (p0 - p3)+1)then wrap .i64 (wrap .i64 (p0 - p3)+1)else(if 0<(wrap .i64<|wrap .i64 (p2 - p1)+1)then wrap .i64 (wrap .i64 (p2 - p1)+1)else 0))
def mO(N:Nat)(p0 p1:aF):aT Int:=
 (lD N p0.X0 p0.X1 p1.X0 p1.X1).bind λj=>(lD N p0.Y0 p0.Y1 p1.Y0 p1.Y1).bind λo=>some (if j<o then o else j)
def mP(N:Nat)(p0:bV)(p1:Int):aT Bool:=
 some (decide (p0.cM<=p1)&&decide (p1<=p0.To))
def py(N:Nat)(p0:Z aA)(p1 p2:Int):aT (Z Int×Int):=
 bif(p0.length:Int)==0 then some (([]:Z Int),p2)else((idx p0 0).bind λaa=>bif p1<aa.Y0 then((idx p0 0).bind λj=>some (([]:Z Int),(if j.Y0<p2 then j.Y0 else p2)))else((idx p0 0).bind λab=>(idx p0 0).bind λo=>some (ab.Xs,(if o.Y1<p2 then o.Y1 else p2))))
def uN(N:Nat)(p0:Z Int)(p1:Z Int)(p2:Bool->Bool->aT Bool):aT (Z Int):=
 (iI (λ(j:Z Int×Z Int×Z Int×Bool×Bool×Bool)=>((bif decide ((j.1.length:Int)>0)then some true else some (decide<|(j.2.1.length:Int)>0)).bind λaf=>bif af then((bif(j.2.1.length:Int)==0 then some true else(bif decide ((j.1.length:Int)>0)then((idx j.1 0).bind λag=>(idx j.2.1 0).bind λah=>some<|decide<|ag<=ah)else some false)).bind λai=>(bif ai then((idx j.1 0).bind λaj=>some aj)else((idx j.2.1 0).bind λak=>some ak)).bind λo=>(bif decide ((j.1.length:Int)>0)then((idx j.1 0).bind λal=>some<|al==o)else some false).bind λan=>(bif an then((vC j.1 1 (j.1.length:Int)).bind λao=>some (ao,(!j.2.2.2.1)))else some (j.1,j.2.2.2.1)).bind λaa=>(bif decide ((j.2.1.length:Int)>0)then((idx j.2.1 0).bind λaq=>some<|aq==o)else some false).bind λar=>(bif ar then((vC j.2.1 1 (j.2.1.length:Int)).bind λau=>some (au,(!j.2.2.2.2.1)))else some (j.2.1,j.2.2.2.2.1)).bind λab=>(p2 aa.2 ab.2).bind λad=>(bif ad != j.2.2.2.2.2 then((app 8 j.2.2.1 ([o]:Z Int)).bind λav=>some (av,ad))else some (j.2.2.1,j.2.2.2.2.2)).bind λae=>some<|.nx (aa.1,ab.1,ae.1,aa.2,ab.2,ae.2))else(some<|.br (j.1,j.2.1,j.2.2.1,j.2.2.2.1,j.2.2.2.2.1,j.2.2.2.2.2)):aT (Fl (Z Int×Z Int×Z Int×Bool×Bool×Bool) Empty))) N (p0,p1,([]:Z Int),false,false,false)).bind λaw=>aw.cs (λ(j:Z Int×Z Int×Z Int×Bool×Bool×Bool)=>some j.2.2.1)<|λr=>r.elim
def te(N:Nat)(p0:Z aA)(p1:Z aA)(p2:Bool->Bool->aT Bool):aT (Z aA):=
 bif wrap .i64 ((p0.length:Int)+(p1.length:Int))==0 then some ([]:Z aA)else((k9 (([p0,p1]:Z (Z aA)).length) (λ(ah:Nat)(o:Int×Int)=>((idx ([p0,p1]:Z (Z aA)) (ah:Int)).bind λad=>(bif decide ((ad.length:Int)>0)then((bif(ah:Int)==0 then some true else some ((p0.length:Int)==0)).bind λal=>(bif al then((idx ad 0).bind λan=>(idx ad<|wrap .i64<|(ad.length:Int) - 1).bind λao=>some (an.Y0,ao.Y1))else some (o.1,o.2)).bind λag=>(idx ad 0).bind λai=>(idx ad<|wrap .i64<|(ad.length:Int) - 1).bind λaj=>some ((if ai.Y0<ag.1 then ai.Y0 else ag.1),(if ag.2<aj.Y1 then aj.Y1 else ag.2)))else some (o.1,o.2)).bind λak=>some (ak.1,ak.2):aT (Int×Int))) (0,0)).bind λo=>(iI (λ(j:Z aA×Z aA×Z aA×Int)=>(bif j.2.2.2<o.2 then((iI (λ(aa:Z aA)=>((bif decide ((aa.length:Int)>0)then((idx aa 0).bind λaq=>some<|decide<|aq.Y1<=j.2.2.2)else some false).bind λar=>bif ar then((vC aa 1 (aa.length:Int)).bind λau=>some<|.nx au)else(some<|.br aa):aT (Fl (Z aA) Empty))) N j.1).bind λav=>av.cs (λ(aa:Z aA)=>(iI (λ(ab:Z aA)=>((bif decide ((ab.length:Int)>0)then((idx ab 0).bind λaw=>some<|decide<|aw.Y1<=j.2.2.2)else some false).bind λax=>bif ax then((vC ab 1 (ab.length:Int)).bind λay=>some<|.nx ay)else(some<|.br ab):aT (Fl (Z aA) Empty))) N j.2.1).bind λaz=>az.cs (λ(ab:Z aA)=>(py N aa j.2.2.2 o.2).bind λae=>(py N ab j.2.2.2 o.2).bind λaf=>(uN N ae.1 af.1 p2).bind λa0=>(kD N j.2.2.1 (⟨j.2.2.2,(if af.2<ae.2 then af.2 else ae.2),a0⟩:aA)).bind λa1=>some<|.nx (aa,ab,a1,(if af.2<ae.2 then af.2 else ae.2)))<|λr=>r.elim)<|λr=>r.elim)else(some<|.br (j.1,j.2.1,j.2.2.1,j.2.2.2)):aT (Fl (Z aA×Z aA×Z aA×Int) Empty))) N (p0,p1,([]:Z aA),o.1)).bind λa2=>a2.cs (λ(j:Z aA×Z aA×Z aA×Int)=>some j.2.2.1)<|λr=>r.elim)
def rF(N:Nat)(p0 p1:Bool):aT Bool:=
 some (p0&&(!p1))
def mQ(N:Nat)(p0:Z aA)(p1:Z aA):aT (Z aA):=
 (te N p0 p1<|rF N).bind λj=>some j
def oN(N:Nat)(p0:Z aA):aT Int:=
 (k9 p0.length (λ(o:Nat)(j:Int)=>((idx p0 (o:Int)).bind λaa=>some (wrap .i64<|j+ wrap .i64 (Int.tdiv (aa.Xs.length:Int) 2)):aT Int)) 0).bind λj=>some j
def gG(N:Nat)(p0:Int)(p1_0:Z Int):aT (Int×Z Int):=
 (iI (λ(j:Int×Z Int)=>((idx j.2 j.1).bind λaa=>bif aa != j.1 then((idx j.2 j.1).bind λab=>(idx j.2 ab).bind λo=>(idx j.2 j.1).bind λaf=>(idx (j.2.set (Int.toNat j.1) o) j.1).bind λad=>some<|.nx (ad,j.2.set (Int.toNat j.1) o))else(some<|.br (j.1,j.2)):aT (Fl (Int×Z Int) Empty))) N (p0,p1_0)).bind λae=>ae.cs (λ(j:Int×Z Int)=>some (j.1,j.2))<|λr=>r.elim
def nK(N:Nat)(p0:Z aA):aT (Z<|Z aA):=
 (k6 N p0).bind λab=>(mk 8 (0:Int) (ab.length:Int)).bind λan=>(k9 an.length (λ(ai:Nat)(ag:Z Int)=>((idx ag (ai:Int)).bind λbd=>some (ag.set (Int.toNat (ai:Int)) (ai:Int)):aT (Z Int))) an).bind λag=>(k9 p0.length (λ(aj:Nat)(aa:Z Int×Int×Int)=>((idx p0 (aj:Int)).bind λak=>(bif decide ((aj:Int)>0)then((idx p0<|wrap .i64<|(aj:Int) - 1).bind λar=>some<|ar.Y1==ak.Y0)else some false).bind λau=>(bif au then((iI (λ(j:Z Int×Int×Int)=>(bif decide (j.2.1<aa.2.1)&&decide (j.2.2< wrap .i64 (aa.2.1+ wrap .i64 (Int.tdiv (ak.Xs.length:Int) 2)))then(((idx ab j.2.1).bind λav=>(idx ab j.2.2).bind λaw=>bif av.X0<aw.X1 then((idx ab j.2.2).bind λax=>(idx ab j.2.1).bind λay=>some<|decide<|ax.X0<ay.X1)else some false).bind λaz=>(bif az then((gG N j.2.1 j.1).bind λae=>(gG N j.2.2 ae.2).bind λad=>(idx ad.2 (if ae.1<ad.1 then ad.1 else ae.1)).bind λbf=>some<|ad.2.set (Int.toNat (if ae.1<ad.1 then ad.1 else ae.1)) (if ad.1<ae.1 then ad.1 else ae.1))else some j.1).bind λa0=>(idx ab j.2.1).bind λa1=>(idx ab j.2.2).bind λa2=>(bif a1.X1<a2.X1 then some (wrap .i64<|j.2.1+1,j.2.2)else some (j.2.1,wrap .i64<|j.2.2+1)).bind λao=>some<|.nx (a0,ao.1,ao.2))else(some<|.br (j.1,j.2.1,j.2.2)):aT (Fl (Z Int×Int×Int) Empty))) N (aa.1,aa.2.2,aa.2.1)).bind λa3=>a3.cs (λ(j:Z Int×Int×Int)=>some j.1)<|λr=>r.elim)else some aa.1).bind λa4=>some (a4,wrap .i64<|aa.2.1+ wrap .i64 (Int.tdiv (ak.Xs.length:Int) 2),aa.2.1):aT (Z Int×Int×Int))) (ag,0,0)).bind λaa=>(k9 ab.length (λ(aq:Nat)(o:Z Int×Z (Int×Int)×Z (Z aF))=>((idx ab (aq:Int)).bind λa5=>(gG N (aq:Int) o.1).bind λah=>(bif(!(kL o.2.1 ah.1))then((app 24 o.2.2 [([]:Z aF)]).bind λa6=>some (r8 o.2.1 ah.1 (o.2.2.length:Int),a6,(o.2.2.length:Int)))else some (o.2.1,o.2.2,fH o.2.1 ah.1 (0:Int))).bind λaf=>(idx af.2.1 af.2.2).bind λa7=>(app 32 a7 ([a5]:Z aF)).bind λa8=>(idx af.2.1 af.2.2).bind λbg=>some (ah.2,af.1,af.2.1.set (Int.toNat af.2.2) a8):aT (Z Int×Z (Int×Int)×Z (Z aF)))) (aa.1,([]:Z (Int×Int)),([]:Z (Z aF)))).bind λo=>(k9 o.2.2.length (λ(a9:Nat)(al:Z (Z aA))=>((idx o.2.2 (a9:Int)).bind λba=>(jm N ba).bind λbb=>(app 24 al ([bb]:Z (Z aA))).bind λbc=>some bc:aT (Z<|Z aA))) ([]:Z (Z aA))).bind λal=>some al
def lO(N:Nat)(p0_0:Z (Z aF))(p0_2:Z bV)(p0_4:Z (Z aA))(p0_5:Z aD):aT (Bool×Z (Z aA)×Z aD):=
 (k9 p0_0.length (λ(aa:Nat)(j:Z (Z aA)×Z aD×Bool)=>((idx p0_0 (aa:Int)).bind λai=>(k9 p0_2.length (λ(aj:Nat)(o:Z aF)=>((idx p0_2 (aj:Int)).bind λaf=>(mP N af (aa:Int)).bind λak=>(bif ak then((iH N af).bind λal=>(app 32 o ([al]:Z aF)).bind λan=>some an)else some o).bind λao=>some ao:aT (Z aF))) ([]:Z aF)).bind λo=>(jm N ai).bind λaq=>(jm N o).bind λar=>(mQ N aq ar).bind λab=>(bif j.2.2 then((oN N ab).bind λau=>some (decide<|au<=2000,ab))else some (false,ab)).bind λad=>(app 24 j.1 ([ad.2]:Z (Z aA))).bind λav=>(nK N ad.2).bind λag=>(k9 ag.length (λ(aw:Nat)(ae:Z aD)=>((idx ag (aw:Int)).bind λah=>(k6 N ah).bind λax=>(app 56 ae ([(⟨(aa:Int),ah,ax⟩:aD)]:Z aD)).bind λay=>some ay:aT (Z aD))) j.2.1).bind λae=>some (av,ae,ad.1):aT (Z (Z aA)×Z aD×Bool))) (p0_4,p0_5,true)).bind λj=>(bif j.2.2 then some (decide<|(j.2.1.length:Int)<=2000)else some false).bind λaz=>some (az,j.1,j.2.1)
def wi(N:Nat)(p0 p1:aF):aT Bool:=
 some (((decide (p0.X0<p1.X1)&&decide (p1.X0<p0.X1))&&((p0.Y1==p1.Y0)||(p1.Y1==p0.Y0)))||((decide (p0.Y0<p1.Y1)&&decide (p1.Y0<p0.Y1))&&((p0.X1==p1.X0)||(p1.X1==p0.X0))))
def l6(N:Nat)(p0:aF)(p1:bV):aT Bool:=
 (iH N p1).bind λj=>(wi N p0 j).bind λo=>some o
def i6(N:Nat)(p0:Z aF)(p1:aF->aT Bool):aT Bool:=
 (n9 N p0 p1).bind λj=>some<|decide<|j>=0
def lP(N:Nat)(p0_2:Z bV)(p0_5:Z aD)(p0_6:Z (Z Int)):aT (Z<|Z Int):=
 (k9 p0_2.length (λ(ae:Nat)(o:Z (Z Int))=>((idx p0_2 (ae:Int)).bind λaa=>(k9 p0_5.length (λ(ab:Nat)(j:Z Int)=>((idx p0_5 (ab:Int)).bind λad=>(bif aa.fM then((mP N aa ad.cN).bind λaf=>bif af then((i6 N ad.eD<|λy0=>l6 N y0 aa).bind λag=>some ag)else some false)else some false).bind λah=>(bif ah then((app 8 j ([(ab:Int)]:Z Int)).bind λai=>some ai)else some j).bind λaj=>some aj:aT (Z Int))) ([]:Z Int)).bind λj=>(app 24 o ([j]:Z (Z Int))).bind λak=>some ak:aT (Z<|Z Int))) p0_6).bind λo=>some o
def lG(N:Nat)(p0:Int):aT (Z Int):=
 (mk 8 (0:Int) p0).bind λaa=>(k9 aa.length (λ(o:Nat)(j:Z Int)=>((idx j (o:Int)).bind λab=>some (j.set (Int.toNat (o:Int)) (o:Int)):aT (Z Int))) aa).bind λj=>some j
def fP(N:Nat)(p0_0:Z Int)(p1:Int):aT (Int×Z Int):=
 (iI (λ(j:Z Int×Int)=>((idx j.1 j.2).bind λaa=>bif aa != j.2 then((idx j.1 j.2).bind λab=>(idx j.1 ab).bind λo=>(idx j.1 j.2).bind λaf=>(idx (j.1.set (Int.toNat j.2) o) j.2).bind λad=>some<|.nx (j.1.set (Int.toNat j.2) o,ad))else(some<|.br (j.1,j.2)):aT (Fl (Z Int×Int) Empty))) N (p0_0,p1)).bind λae=>ae.cs (λ(j:Z Int×Int)=>some (j.2,j.1))<|λr=>r.elim
def fW(N:Nat)(p0_0:Z Int)(p1 p2:Int):aT (Z Int):=
 (fP N p0_0 p1).bind λo=>(fP N o.2 p2).bind λj=>(idx j.2 (if o.1<j.1 then j.1 else o.1)).bind λaa=>some<|j.2.set (Int.toNat (if o.1<j.1 then j.1 else o.1)) (if j.1<o.1 then j.1 else o.1)
def lQ(N:Nat)(p0_0:Z Int):aT (Z (Z Int)×Z Int):=
 (k9 p0_0.length (λ(ab:Nat)(j:Z Int×Z (Z Int)×Z (Int×Int))=>((fP N j.1 (ab:Int)).bind λaa=>(bif aa.1==(ab:Int)then((app 24 j.2.1 [([]:Z Int)]).bind λad=>some (ad,r8 j.2.2 (ab:Int) (j.2.1.length:Int)))else some (j.2.1,j.2.2)).bind λo=>(idx o.1<|fH o.2 aa.1 (0:Int)).bind λae=>(app 8 ae ([(ab:Int)]:Z Int)).bind λaf=>(idx o.1<|fH o.2 aa.1 (0:Int)).bind λag=>some (aa.2,o.1.set (Int.toNat<|fH o.2 aa.1 (0:Int)) af,o.2):aT (Z Int×Z (Z Int)×Z (Int×Int)))) (p0_0,([]:Z (Z Int)),([]:Z (Int×Int)))).bind λj=>some (j.2.1,j.1)
def nj(N:Nat)(p0:aF)(p1:dW):aT Bool:=
 (bif p1.X>=p0.X0 then(bif p1.X<p0.X1 then(bif p1.Y>=p0.Y0 then some (decide<|p1.Y<p0.Y1)else some false)else some false)else some false).bind λj=>some j
def mg(N:Nat)(p0:Z aF)(p1:dW):aT Bool:=
 (i6 N p0<|λy0=>nj N y0 p1).bind λj=>some j
def lR(N:Nat)(p0_2:Z bV)(p0_5:Z aD)(p1:dA):aT (eB×Bool):=
 (vA p0_2.length (λ(o:Nat)(ad:Unit)=>((idx p0_2 (o:Int)).bind λj=>(bif j.fM then((mP N j p1.cN).bind λae=>bif ae then((iH N j).bind λaf=>(mg N ([af]:Z aF) p1.At).bind λag=>some ag)else some false)else some false).bind λah=>bif ah then some (.rt ((⟨true,(o:Int)⟩:eB),true))else(some<|.nx ()):aT (Fl Unit<|eB×Bool))) ()).bind λai=>ai.cs (λ(ad:Unit)=>(vA p0_5.length (λ(aa:Nat)(aj:Unit)=>((idx p0_5 (aa:Int)).bind λab=>(bif ab.cN==p1.cN then((mg N ab.eD p1.At).bind λak=>some ak)else some false).bind λal=>bif al then some (.rt ((⟨false,(aa:Int)⟩:eB),true))else(some<|.nx ()):aT (Fl Unit<|eB×Bool))) ()).bind λan=>an.cs (λ(aj:Unit)=>some ((⟨false,0⟩:eB),false))<|λr=>some r)<|λr=>some r
def jo(N:Nat)(p0_8:Z Int)(p0_9:Z Int)(p1:eB):aT Int:=
 bif p1.bV then((idx p0_9 p1.Number).bind λj=>some j)else((idx p0_8 p1.Number).bind λo=>some o)
def ir(N:Nat)(p0_2:Z bV)(p0_3:Z dA)(p0_5:Z aD)(p0_6:Z (Z Int))(p0_8:Z Int)(p0_9:Z Int)(p0_10:Z Int)(p0_11:Z eB):aT (Z bZ×Z Int×Z Int×Z Int×Z eB):=
 (lG N<|wrap .i64<|(p0_5.length:Int)+(p0_2.length:Int)).bind λar=>(k9 p0_6.length (λ(ai:Nat)(af:Z Int)=>((idx p0_6 (ai:Int)).bind λaj=>(k9 aj.length (λ(au:Nat)(ag:Z Int)=>((idx aj (au:Int)).bind λav=>(fW N ag av<|wrap .i64<|(p0_5.length:Int)+(ai:Int)).bind λaw=>some aw:aT (Z Int))) af).bind λag=>some ag:aT (Z Int))) ar).bind λaf=>(mk 8 (0:Int) (p0_5.length:Int)).bind λax=>(mk 8 (0:Int) (p0_2.length:Int)).bind λay=>(lQ N af).bind λak=>(k9 ak.1.length (λ(az:Nat)(aa:Z bZ×Z Int×Z Int)=>((idx ak.1 (az:Int)).bind λal=>(k9 al.length (λ(a0:Nat)(j:Z Int×Z Int×Z Int×Z Int)=>((idx al (a0:Int)).bind λab=>(bif decide (ab<(p0_5.length:Int))then((idx j.1 ab).bind λbd=>(app 8 j.2.2.1 ([ab]:Z Int)).bind λa1=>some (j.1.set (Int.toNat ab) (aa.1.length:Int),j.2.1,a1,j.2.2.2))else((idx p0_2<|wrap .i64<|ab -(p0_5.length:Int)).bind λa2=>(bif a2.fM then((idx j.2.1<|wrap .i64<|ab -(p0_5.length:Int)).bind λbf=>(app 8 j.2.2.2 ([wrap .i64<|ab -(p0_5.length:Int)]:Z Int)).bind λa3=>some (j.2.1.set (Int.toNat<|wrap .i64<|ab -(p0_5.length:Int)) (aa.1.length:Int),a3))else((idx j.2.1<|wrap .i64<|ab -(p0_5.length:Int)).bind λbg=>some (j.2.1.set (Int.toNat<|wrap .i64<|ab -(p0_5.length:Int))<|-1,j.2.2.2))).bind λan=>some (j.1,an.1,j.2.2.1,an.2))).bind λad=>some (ad.1,ad.2.1,ad.2.2.1,ad.2.2.2):aT (Z Int×Z Int×Z Int×Z Int))) (aa.2.1,aa.2.2,([]:Z Int),([]:Z Int))).bind λj=>(bif decide (wrap .i64 ((j.2.2.1.length:Int)+(j.2.2.2.length:Int))>0)then((app 72 aa.1 [(⟨j.2.2.1,j.2.2.2,([]:Z eK)⟩:bZ)]).bind λa4=>some a4)else some aa.1).bind λa5=>some (a5,j.1,j.2.1):aT (Z bZ×Z Int×Z Int))) (([]:Z bZ),ax,ay)).bind λaa=>(k9 p0_3.length (λ(a6:Nat)(o:Z bZ×Z Int×Z Int×Z Int×Z eB)=>((idx p0_3 (a6:Int)).bind λao=>(lR N p0_2 p0_5 ao).bind λah=>(bif ah.2 then((jo N o.2.1 o.2.2.1 ah.1).bind λae=>(idx o.1 ae).bind λa7=>(ni N ao).bind λa8=>(app 32 a7.fB ([a8]:Z eK)).bind λa9=>(idx o.1 ae).bind λba=>some (o.1.set (Int.toNat ae) {ba with fB:=a9},ae))else some (o.1,(-1))).bind λaq=>(app 8 o.2.2.2.1 ([aq.2]:Z Int)).bind λbb=>(app 16 o.2.2.2.2 ([ah.1]:Z eB)).bind λbc=>some (aq.1,o.2.1,o.2.2.1,bb,bc):aT (Z bZ×Z Int×Z Int×Z Int×Z eB))) (aa.1,aa.2.1,aa.2.2,p0_10,p0_11)).bind λo=>some (o.1,o.2.1,o.2.2.1,o.2.2.2.1,o.2.2.2.2)
def jq(N:Nat)(p0:gZ):aT (aT (Z (Z aF)×Z aF×Z bV×Z dA×Z (Z aA)×Z aD×Z (Z Int)×Z bZ×Z Int×Z Int×Z Int×Z eB)×Int):=
 bif(p0.aL.length:Int)==0 then some (none,9)else(bif decide ((p0.aL.length:Int)>16)then some (none,2)else((vA p0.aL.length (λ(an:Nat)(aa:Int)=>((idx p0.aL (an:Int)).bind λae=>(kP N ae).bind λaf=>bif af != 0 then some (.rt (none,af))else(some<|.nx<|wrap .i64<|aa+(ae.length:Int)):aT (Fl Int<|aT (Z (Z aF)×Z aF×Z bV×Z dA×Z (Z aA)×Z aD×Z (Z Int)×Z bZ×Z Int×Z Int×Z Int×Z eB)×Int))) (p0.cS.length:Int)).bind λao=>ao.cs (λ(aa:Int)=>(kP N p0.cS).bind λag=>bif ag != 0 then some (none,ag)else(bif aa>2000 then some (none,2)else((mo N p0).bind λah=>bif ah != 0 then some (none,ah)else((mu N p0).bind λai=>bif ai != 0 then some (none,ai)else((vA p0.aN.length (λ(aj:Nat)(aq:Unit)=>((idx p0.aN (aj:Int)).bind λab=>(vC p0.aN 0 (aj:Int)).bind λak=>(vA ak.length (λ(ar:Nat)(au:Unit)=>((idx ak (ar:Int)).bind λad=>(bif decide (ab.cM<=ad.To)&&decide (ad.cM<=ab.To)then((iH N ab).bind λav=>(iH N ad).bind λaw=>(mO N av aw).bind λax=>some<|ax==0)else some false).bind λay=>bif ay then some (.rt (none,12))else(some<|.nx ()):aT (Fl Unit<|aT (Z (Z aF)×Z aF×Z bV×Z dA×Z (Z aA)×Z aD×Z (Z Int)×Z bZ×Z Int×Z Int×Z Int×Z eB)×Int))) ()).bind λaz=>az.cs (λ(au:Unit)=>some<|.nx ()) (λr=>some<|.rt r):aT (Fl Unit<|aT (Z (Z aF)×Z aF×Z bV×Z dA×Z (Z aA)×Z aD×Z (Z Int)×Z bZ×Z Int×Z Int×Z Int×Z eB)×Int))) ()).bind λa0=>a0.cs (λ(aq:Unit)=>(lO N p0.aL p0.aN ([]:Z (Z aA)) ([]:Z aD)).bind λj=>bif(!j.1)then some (none,2)else((lP N p0.aN j.2.2 ([]:Z (Z Int))).bind λal=>(ir N p0.aN p0.bO j.2.2 al ([]:Z Int) ([]:Z Int) ([]:Z Int) ([]:Z eB)).bind λo=>some (some (p0.aL,p0.cS,p0.aN,p0.bO,j.2.1,j.2.2,al,o.1,o.2.1,o.2.2.1,o.2.2.2.1,o.2.2.2.2),0)))<|λr=>some r)))))<|λr=>some r))
def g8(N:Nat)(p0:Z dA)(p1:eK)(p2:dA->eK->aT Int):aT (Int×Bool):=
 (iI (λ(j:Int×Int)=>(bif j.1<j.2 then((idx p0<|wrap .i64<|Int.fdiv (wrap .u64<|wrap .i64<|j.1+j.2) 2).bind λaa=>(p2 aa p1).bind λab=>(bif ab<0 then some (wrap .i64<|wrap .i64 (Int.fdiv (wrap .u64<|wrap .i64<|j.1+j.2) 2)+1,j.2)else some (j.1,wrap .i64<|Int.fdiv (wrap .u64<|wrap .i64<|j.1+j.2) 2)).bind λo=>some<|.nx (o.1,o.2))else(some<|.br (j.1,j.2)):aT (Fl (Int×Int) Empty))) N (0,(p0.length:Int))).bind λad=>ad.cs (λ(j:Int×Int)=>(bif decide (j.1<(p0.length:Int))then((idx p0 j.1).bind λae=>(p2 ae p1).bind λaf=>some<|af==0)else some false).bind λag=>some (j.1,ag))<|λr=>r.elim
def kg(N:Nat)(p0:dA)(p1:eK):aT Int:=
 (ni N p0).bind λj=>(fC N j p1).bind λo=>some o
def fX(N:Nat)(p0:gZ)(p1:eK):aT Int:=
 (g8 N p0.bO p1<|kg N).bind λj=>bif(!j.2)then some (-1)else some j.1
def uO(N:Nat)(p0:Z Int):aT Int:=
 (vA p0.length (λ(o:Nat)(aa:Unit)=>((idx p0 (o:Int)).bind λj=>bif j != 0 then some (.rt j)else(some<|.nx ()):aT (Fl Unit Int))) ()).bind λab=>ab.cs (λ(aa:Unit)=>some 0)<|λr=>some r
def ji(N:Nat)(p0 p1:Test):aT Int:=
 (fC N p0.A p1.A).bind λj=>(fC N p0.B p1.B).bind λo=>(uO N ([j,o]:Z Int)).bind λaa=>some aa
def kh(N:Nat)(p0:gZ)(p1:Z Test):aT (aT (Z (Z aF)×Z aF×Z bV×Z dA×Z (Z aA)×Z aD×Z (Z Int)×Z bZ×Z Int×Z Int×Z Int×Z eB)×Int):=
 (jq N p0).bind λo=>E3 o.1 (bif o.2 != 0 then some (none,o.2)else(bif decide ((p1.length:Int)>2000)then some (none,2)else((vA p1.length (λ(ad:Nat)(af:Unit)=>((idx p1 (ad:Int)).bind λaa=>((fX N p0 aa.A).bind λag=>bif ag<0 then some true else((fX N p0 aa.B).bind λah=>some<|decide<|ah<0)).bind λai=>bif ai then some (.rt (none,9))else((fC N aa.B aa.A).bind λaj=>bif aj<=0 then some (.rt (none,8))else((bif decide ((ad:Int)>0)then((idx p1<|wrap .i64<|(ad:Int) - 1).bind λak=>(ji N aa ak).bind λal=>some<|decide<|al<=0)else some false).bind λan=>bif an then some (.rt (none,8))else some (.nx ()))):aT (Fl Unit<|aT (Z (Z aF)×Z aF×Z bV×Z dA×Z (Z aA)×Z aD×Z (Z Int)×Z bZ×Z Int×Z Int×Z Int×Z eB)×Int))) ()).bind λao=>ao.cs (λ(af:Unit)=>some (none,0))<|λr=>some r))) (λ(j:(Z (Z aF)×Z aF×Z bV×Z dA×Z (Z aA)×Z aD×Z (Z Int)×Z bZ×Z Int×Z Int×Z Int×Z eB))=>bif o.2 != 0 then some (none,o.2)else(bif decide ((p1.length:Int)>2000)then some (none,2)else((vA p1.length (λ(ae:Nat)(aq:Unit)=>((idx p1 (ae:Int)).bind λab=>((fX N p0 ab.A).bind λar=>bif ar<0 then some true else((fX N p0 ab.B).bind λau=>some<|decide<|au<0)).bind λav=>bif av then some (.rt (none,9))else((fC N ab.B ab.A).bind λaw=>bif aw<=0 then some (.rt (none,8))else((bif decide ((ae:Int)>0)then((idx p1<|wrap .i64<|(ae:Int) - 1).bind λax=>(ji N ab ax).bind λay=>some<|decide<|ay<=0)else some false).bind λaz=>bif az then some (.rt (none,8))else some (.nx ()))):aT (Fl Unit<|aT (Z (Z aF)×Z aF×Z bV×Z dA×Z (Z aA)×Z aD×Z (Z Int)×Z bZ×Z Int×Z Int×Z Int×Z eB)×Int))) ()).bind λa0=>a0.cs (λ(aq:Unit)=>some (some (j.1,j.2.1,j.2.2.1,j.2.2.2.1,j.2.2.2.2.1,j.2.2.2.2.2.1,j.2.2.2.2.2.2.1,j.2.2.2.2.2.2.2.1,j.2.2.2.2.2.2.2.2.1,j.2.2.2.2.2.2.2.2.2.1,j.2.2.2.2.2.2.2.2.2.2.1,j.2.2.2.2.2.2.2.2.2.2.2),0))<|λr=>some r)))
def pz(N:Nat)(p0 p1 p2:Int):aT Bool:=
 some (decide (p0>=p1)&&decide (p0<=p2))
def j8(N:Nat)(p0:eB)(p1:Int)(p3_0:Z aU)(p2h_7:Z bZ):aT (Z aU):=
 (bif p1>=0 then((idx p2h_7 p1).bind λj=>some<|decide<|(j.fB.length:Int)>1)else some false).bind λo=>(bif o then((app 40 p3_0 ([(⟨true,p0,0,0⟩:aU)]:Z aU)).bind λaa=>some aa)else some p3_0).bind λab=>some ab
def uP(N:Nat)(p0 p1:aF)(p2:Int):aT dW:=
 some (⟨(if p0.X0<(wrap .i64<|p1.X0 - p2)then wrap .i64 (p1.X0 - p2)else p0.X0),(if p0.Y0<(wrap .i64<|p1.Y0 - p2)then wrap .i64 (p1.Y0 - p2)else p0.Y0)⟩:dW)
def uQ(N:Nat)(p0 p1:dW):aT Bool:=
 some (decide (p0.Y<p1.Y)||((p0.Y==p1.Y)&&decide (p0.X<p1.X)))
def qT(N:Nat)(p0:Z aF)(p1:Z aF):aT wh:=
 (k9 p0.length (λ(an:Nat)(aa:Int)=>((idx p0 (an:Int)).bind λao=>(k9 p1.length (λ(aq:Nat)(ad:Int)=>((idx p1 (aq:Int)).bind λar=>(mO N ao ar).bind λae=>(bif decide (ad<0)||decide (ae<ad)then some ae else some ad).bind λau=>some au:aT Int)) aa).bind λad=>some ad:aT Int))<|-1).bind λaa=>(k9 p0.length (λ(av:Nat)(j:wh×Bool)=>((idx p0 (av:Int)).bind λaf=>(k9 p1.length (λ(aw:Nat)(o:wh×Bool)=>((idx p1 (aw:Int)).bind λag=>(uP N af ag aa).bind λah=>((mO N af ag).bind λax=>bif ax==aa then(bif(!o.2)then some true else((uQ N ah o.1.cM).bind λay=>some ay))else some false).bind λaz=>(bif az then some ({o.1 with cM:=ah},true)else some (o.1,o.2)).bind λai=>some (ai.1,ai.2):aT (wh×Bool))) (j.1,j.2)).bind λo=>some (o.1,o.2):aT (wh×Bool))) ((⟨0,0,wrap .i64<|aa - 1,⟨0,0⟩,⟨0,0⟩⟩:wh),false)).bind λj=>(k9 p1.length (λ(a0:Nat)(ab:wh×Bool)=>((idx p1 (a0:Int)).bind λaj=>(uP N aj (⟨j.1.cM.X,j.1.cM.Y,wrap .i64<|j.1.cM.X+1,wrap .i64<|j.1.cM.Y+1⟩:aF) aa).bind λak=>((mO N aj (⟨j.1.cM.X,j.1.cM.Y,wrap .i64<|j.1.cM.X+1,wrap .i64<|j.1.cM.Y+1⟩:aF)).bind λa1=>bif a1==aa then(bif(!ab.2)then some true else((uQ N ak ab.1.To).bind λa2=>some a2))else some false).bind λa3=>(bif a3 then some ({ab.1 with To:=ak},true)else some (ab.1,ab.2)).bind λal=>some (al.1,al.2):aT (wh×Bool))) (j.1,false)).bind λab=>some ab.1
def pA(N:Nat)(p0_0:Z (Z aF))(p0_1:Z aF)(p0_2:Z bV)(p0_3:Z dA)(p0_4:Z (Z aA))(p0_5:Z aD)(p0_6:Z (Z Int))(p0_7:Z bZ)(p0_8:Z Int)(p0_9:Z Int)(p0_10:Z Int)(p0_11:Z eB)(p1:Int):aT (Z aU×Int):=
 (pz N p1 0 100000).bind λah=>bif(!ah)then some (([]:Z aU),1)else((k9 p0_8.length (λ(ae:Nat)(ab:Z aU)=>((idx p0_8 (ae:Int)).bind λai=>(j8 N (⟨false,(ae:Int)⟩:eB) ai ab p0_7).bind λaj=>some aj:aT (Z aU))) ([]:Z aU)).bind λab=>(k9 p0_9.length (λ(af:Nat)(ad:Z aU)=>((idx p0_9 (af:Int)).bind λak=>(j8 N (⟨true,(af:Int)⟩:eB) ak ad p0_7).bind λal=>some al:aT (Z aU))) ab).bind λad=>(k9 p0_5.length (λ(o:Nat)(aa:Z aU)=>((idx p0_5 (o:Int)).bind λag=>(iI (λ(j:Z aU×Int)=>((bif decide (j.2<(p0_5.length:Int))then((idx p0_5 j.2).bind λan=>some<|an.cN==ag.cN)else some false).bind λao=>bif ao then(((idx p0_8 (o:Int)).bind λaq=>(idx p0_8 j.2).bind λar=>bif aq != ar then((idx p0_5 j.2).bind λau=>(qT N ag.eD au.eD).bind λav=>some<|decide<|av.i5<p1)else some false).bind λaw=>(bif aw then((app 40 j.1 ([(⟨false,⟨false,0⟩,(o:Int),j.2⟩:aU)]:Z aU)).bind λax=>some ax)else some j.1).bind λay=>some<|.nx (ay,wrap .i64<|j.2+1))else(some<|.br (j.1,j.2)):aT (Fl (Z aU×Int) Empty))) N (aa,wrap .i64<|(o:Int)+1)).bind λaz=>az.cs (λ(j:Z aU×Int)=>some j.1) (λr=>r.elim):aT (Z aU))) ad).bind λaa=>bif decide ((aa.length:Int)>20000)then some (([]:Z aU),2)else some (aa,0))
def jr(N:Nat)(p0:eB)(p1:Int):aT Int:=
 bif p0.bV then some (wrap .i64<|p1+p0.Number)else some p0.Number
def ki(N:Nat)(p0 p1:Int)(p2_0:Z (Int×Bool))(p3h_0:Z Int):aT (Z Int):=
 (bif(!(fH p2_0 p0 (false:Bool)))then some (!(fH p2_0 p1 (false:Bool)))else some false).bind λj=>(bif j then((fW N p3h_0 p0 p1).bind λo=>some o)else some p3h_0).bind λaa=>some aa
def fD(N:Nat)(p0_2:Z bV)(p0_3:Z dA)(p0_5:Z aD)(p0_6:Z (Z Int))(p0_10:Z Int)(p0_11:Z eB)(p1:Z aU):aT (Z Int):=
 (k9 p1.length (λ(aq:Nat)(aa:Z (Int×Bool))=>((idx p1 (aq:Int)).bind λaj=>(bif aj.Open then((jr N aj.eB (p0_5.length:Int)).bind λar=>some<|r8 aa ar true)else some aa).bind λau=>some au:aT (Z<|Int×Bool))) ([]:Z (Int×Bool))).bind λaa=>(lG N<|wrap .i64<|(p0_5.length:Int)+(p0_2.length:Int)).bind λav=>(k9 p0_6.length (λ(ak:Nat)(ae:Z Int)=>((idx p0_6 (ak:Int)).bind λal=>(k9 al.length (λ(aw:Nat)(af:Z Int)=>((idx al (aw:Int)).bind λax=>(ki N ax (wrap .i64<|(p0_5.length:Int)+(ak:Int)) aa af).bind λay=>some ay:aT (Z Int))) ae).bind λaf=>some af:aT (Z Int))) av).bind λae=>(k9 p1.length (λ(az:Nat)(ab:Z Int)=>((idx p1 (az:Int)).bind λag=>(bif(!ag.Open)then((ki N ag.A ag.B aa ab).bind λa0=>some a0)else some ab).bind λa1=>some a1:aT (Z Int))) ae).bind λab=>(mk 8 (0:Int) (p0_3.length:Int)).bind λa2=>(k9 p0_11.length (λ(o:Nat)(j:Z Int×Z (Int×Int)×Z Int)=>((idx p0_11 (o:Int)).bind λa3=>(jr N a3 (p0_5.length:Int)).bind λad=>((idx p0_10 (o:Int)).bind λa4=>bif a4<0 then some true else some (fH aa ad (false:Bool))).bind λa5=>bif a5 then((idx j.2.2 (o:Int)).bind λa6=>some (j.1,j.2.1,j.2.2.set (Int.toNat (o:Int))<|-1))else((fP N j.1 ad).bind λah=>(bif(!(kL j.2.1 ah.1))then((fP N ah.2 ad).bind λan=>some (an.2,r8 j.2.1 an.1 (o:Int)))else some (ah.2,j.2.1)).bind λai=>(fP N ai.1 ad).bind λao=>(idx j.2.2 (o:Int)).bind λa7=>some (ao.2,ai.2,j.2.2.set (Int.toNat (o:Int))<|fH ai.2 ao.1 (0:Int))):aT (Z Int×Z (Int×Int)×Z Int))) (ab,([]:Z (Int×Int)),a2)).bind λj=>some j.2.2
def m9(N:Nat)(p0_0:Z (Z aF))(p0_1:Z aF)(p0_2:Z bV)(p0_3:Z dA)(p0_5:Z aD)(p0_6:Z (Z Int))(p0_10:Z Int)(p0_11:Z eB)(p1:Z Test)(p2:Z aU):aT (Z Bool):=
 (fD N p0_2 p0_3 p0_5 p0_6 p0_10 p0_11 p2).bind λo=>(k9 p1.length (λ(ad:Nat)(j:Z Bool)=>((idx p1 (ad:Int)).bind λaa=>(fX N (⟨p0_0,p0_1,p0_2,p0_3⟩:gZ) aa.A).bind λab=>(fX N (⟨p0_0,p0_1,p0_2,p0_3⟩:gZ) aa.B).bind λae=>((idx o ab).bind λaf=>bif af>=0 then((idx o ab).bind λag=>(idx o ae).bind λxC=>(app 1 j ([ag==xC]:Z Bool)).bind λah=>some ah)else((app 1 j ([false]:Z Bool)).bind λai=>some ai)).bind λaj=>some aj:aT (Z Bool))) ([]:Z Bool)).bind λj=>some j
def kQ(N:Nat)(p0:Z Bool)(p1:Z Bool):aT Bool:=
 bif(p0.length:Int) != (p1.length:Int)then some false else((vA p0.length (λ(j:Nat)(o:Unit)=>((idx p0 (j:Int)).bind λaa=>(idx p1 (j:Int)).bind λab=>bif aa != ab then some (.rt false)else(some<|.nx ()):aT (Fl Unit Bool))) ()).bind λad=>ad.cs (λ(o:Unit)=>some true)<|λr=>some r)
def qU(N:Nat)(p0:gZ)(p1:Z Test)(p2:Z Bool)(p3:Int):aT (Z aU×Int):=
 (kh N p0 p1).bind λo=>E3 o.1 (bif o.2 != 0 then some (([]:Z aU),o.2)else none) (λ(j:(Z (Z aF)×Z aF×Z bV×Z dA×Z (Z aA)×Z aD×Z (Z Int)×Z bZ×Z Int×Z Int×Z Int×Z eB))=>bif o.2 != 0 then some (([]:Z aU),o.2)else((pA N j.1 j.2.1 j.2.2.1 j.2.2.2.1 j.2.2.2.2.1 j.2.2.2.2.2.1 j.2.2.2.2.2.2.1 j.2.2.2.2.2.2.2.1 j.2.2.2.2.2.2.2.2.1 j.2.2.2.2.2.2.2.2.2.1 j.2.2.2.2.2.2.2.2.2.2.1 j.2.2.2.2.2.2.2.2.2.2.2 p3).bind λaa=>bif aa.2 != 0 then some (([]:Z aU),aa.2)else(bif(p2.length:Int) != (p1.length:Int)then some (([]:Z aU),3)else((k9 aa.1.length (λ(ae:Nat)(ab:Z aU)=>((idx aa.1 (ae:Int)).bind λad=>(m9 N j.1 j.2.1 j.2.2.1 j.2.2.2.1 j.2.2.2.2.2.1 j.2.2.2.2.2.2.1 j.2.2.2.2.2.2.2.2.2.2.1 j.2.2.2.2.2.2.2.2.2.2.2 p1 ([ad]:Z aU)).bind λaf=>(kQ N af p2).bind λag=>(bif ag then((app 40 ab ([ad]:Z aU)).bind λah=>some ah)else some ab).bind λai=>some ai:aT (Z aU))) ([]:Z aU)).bind λab=>some (ab,0)))))
def oO(N:Nat)(p0 p1 p2:Int):aT Bool:=
 some (decide (p0>=p1)&&decide (p0<=p2))
def dF(N:Nat)(p0:Int):aT Bool:=
 (oO N p0 (-1000000) 1000000).bind λj=>some j
def i7(N:Nat)(p0:Z aF):aT Int:=
 bif decide ((p0.length:Int)>2000)then some 2 else((iI (λ(o:Int)=>(bif decide (o<(p0.length:Int))then((idx p0 o).bind λj=>((dF N j.X0).bind λaa=>bif(!aa)then some true else((dF N j.Y0).bind λab=>bif(!ab)then some true else((dF N j.X1).bind λad=>bif(!ad)then some true else((dF N j.Y1).bind λae=>some<|!ae)))).bind λaf=>bif af then some (.rt 1)else(bif decide (j.X1<=j.X0)||decide (j.Y1<=j.Y0)then some (.rt 13)else some (.nx<|wrap .i64<|o+1)))else(some<|.br o):aT (Fl Int Int))) N 0).bind λag=>ag.cs (λ(o:Int)=>some 0)<|λr=>some r)
def jt(N:Nat)(p0 p1:aF):aT Bool:=
 some (decide (p0.Y0<p1.Y0)||((p0.Y0==p1.Y0)&&decide (p0.X0<p1.X0)))
def gw(N:Nat)(p0:Z Int)(p1:Int):aT (Z Int):=
 (iI (λ(j:Int×Int)=>(bif j.1<j.2 then((idx p0<|wrap .i64<|Int.tdiv (wrap .i64<|j.1+j.2) 2).bind λaa=>(bif aa<p1 then some (wrap .i64<|wrap .i64 (Int.tdiv (wrap .i64<|j.1+j.2) 2)+1,j.2)else some (j.1,wrap .i64<|Int.tdiv (wrap .i64<|j.1+j.2) 2)).bind λo=>some<|.nx (o.1,o.2))else(some<|.br (j.1,j.2)):aT (Fl (Int×Int) Empty))) N (0,(p0.length:Int))).bind λab=>ab.cs (λ(j:Int×Int)=>(bif decide (j.1<(p0.length:Int))then((idx p0 j.1).bind λad=>some<|ad==p1)else some false).bind λae=>bif ae then some p0 else((vC p0 0 j.1).bind λaf=>(app 8 ([]:Z Int) af).bind λag=>(app 8 ag ([p1]:Z Int)).bind λah=>(vC p0 j.1 (p0.length:Int)).bind λai=>(app 8 ah ai).bind λaj=>some aj))<|λr=>r.elim
def iY(N:Nat)(p0:Z aF):aT (Z Int):=
 (iI (λ(j:Z Int×Int)=>(bif decide (j.2<(p0.length:Int))then((idx p0 j.2).bind λo=>(idx p0 j.2).bind λaa=>(gw N j.1 o.Y0).bind λab=>(gw N ab aa.Y1).bind λad=>some<|.nx (ad,wrap .i64<|j.2+1))else(some<|.br (j.1,j.2)):aT (Fl (Z Int×Int) Empty))) N (([]:Z Int),0)).bind λae=>ae.cs (λ(j:Z Int×Int)=>some j.1)<|λr=>r.elim
def ju(N:Nat)(p0:Z aG)(p1:aG):aT (Z aG):=
 (iI (λ(o:Z aG×Int)=>((bif decide (o.2<(p0.length:Int))then((idx p0 o.2).bind λad=>some<|decide<|ad.to<p1.from_)else some false).bind λae=>bif ae then((idx p0 o.2).bind λaf=>(app 16 o.1 ([af]:Z aG)).bind λag=>some<|.nx (ag,wrap .i64<|o.2+1))else(some<|.br (o.1,o.2)):aT (Fl (Z aG×Int) Empty))) N (([]:Z aG),0)).bind λah=>ah.cs (λ(o:Z aG×Int)=>(iI (λ(j:aG×Int)=>((bif decide (j.2<(p0.length:Int))then((idx p0 j.2).bind λai=>some<|decide<|ai.from_<=j.1.to)else some false).bind λaj=>bif aj then((idx p0 j.2).bind λaa=>(idx p0 j.2).bind λab=>some<|.nx ({{j.1 with from_:=(if aa.from_<j.1.from_ then aa.from_ else j.1.from_)}with to:=(if j.1.to<ab.to then ab.to else j.1.to)},wrap .i64<|j.2+1))else(some<|.br (j.1,j.2)):aT (Fl (aG×Int) Empty))) N (p1,o.2)).bind λak=>ak.cs (λ(j:aG×Int)=>(app 16 o.1 ([j.1]:Z aG)).bind λal=>(vC p0 j.2 (p0.length:Int)).bind λan=>(app 16 al an).bind λao=>some ao)<|λr=>r.elim)<|λr=>r.elim
def iW(N:Nat)(p0:Z aF)(p1:Int):aT (Z aG):=
 (iI (λ(j:Z aG×Int)=>(bif decide (j.2<(p0.length:Int))then(((idx p0 j.2).bind λo=>bif o.Y0<=p1 then((idx p0 j.2).bind λaa=>some<|decide<|p1<aa.Y1)else some false).bind λab=>(bif ab then((idx p0 j.2).bind λad=>(idx p0 j.2).bind λae=>(ju N j.1 (⟨ad.X0,ae.X1⟩:aG)).bind λaf=>some af)else some j.1).bind λag=>some<|.nx (ag,wrap .i64<|j.2+1))else(some<|.br (j.1,j.2)):aT (Fl (Z aG×Int) Empty))) N (([]:Z aG),0)).bind λah=>ah.cs (λ(j:Z aG×Int)=>some j.1)<|λr=>r.elim
def kR(N:Nat)(p0:Z aG)(p1:Z aG):aT Bool:=
 bif(p0.length:Int) != (p1.length:Int)then some false else((iI (λ(j:Int)=>(bif decide (j<(p0.length:Int))then((idx p0 j).bind λo=>(idx p1 j).bind λaa=>bif(!(decide<|o=aa))then some (.rt false)else some (.nx<|wrap .i64<|j+1))else(some<|.br j):aT (Fl Int Bool))) N 0).bind λab=>ab.cs (λ(j:Int)=>some true)<|λr=>some r)
def gT(N:Nat)(p0:Z aR)(p1:aR):aT (Z aR):=
 bif(p1.kp.length:Int)==0 then some p0 else((bif decide ((p0.length:Int)>0)then((idx p0<|wrap .i64<|(p0.length:Int) - 1).bind λj=>bif j.to==p1.from_ then((idx p0<|wrap .i64<|(p0.length:Int) - 1).bind λo=>(kR N o.kp p1.kp).bind λaa=>some aa)else some false)else some false).bind λab=>bif ab then((idx p0<|wrap .i64<|(p0.length:Int) - 1).bind λad=>some<|p0.set (Int.toNat<|wrap .i64<|(p0.length:Int) - 1)<|{ad with to:=p1.to})else((app 40 p0 ([p1]:Z aR)).bind λae=>some ae))
def kj(N:Nat)(p0:Z aR):aT (Z aF):=
 (iI (λ(j:Z aF×Int)=>(bif decide (j.2<(p0.length:Int))then((iI (λ(o:Z aF×Int)=>((idx p0 j.2).bind λaa=>bif decide (o.2<(aa.kp.length:Int))then((idx p0 j.2).bind λab=>(idx ab.kp o.2).bind λad=>(idx p0 j.2).bind λae=>(idx p0 j.2).bind λaf=>(idx af.kp o.2).bind λag=>(idx p0 j.2).bind λah=>(app 32 o.1 ([(⟨ad.from_,ae.from_,ag.to,ah.to⟩:aF)]:Z aF)).bind λai=>some<|.nx (ai,wrap .i64<|o.2+1))else(some<|.br (o.1,o.2)):aT (Fl (Z aF×Int) Empty))) N (j.1,0)).bind λaj=>aj.cs (λ(o:Z aF×Int)=>some<|.nx (o.1,wrap .i64<|j.2+1))<|λr=>r.elim)else(some<|.br (j.1,j.2)):aT (Fl (Z aF×Int) Empty))) N (([]:Z aF),0)).bind λak=>ak.cs (λ(j:Z aF×Int)=>some j.1)<|λr=>r.elim
def gv(N:Nat)(p0:Z aF):aT (Z aF):=
 (iY N p0).bind λo=>(iI (λ(j:Z aR×Int)=>(bif decide (j.2<(o.length:Int))then((idx o<|wrap .i64<|j.2 - 1).bind λaa=>(idx o j.2).bind λab=>(idx o<|wrap .i64<|j.2 - 1).bind λad=>(iW N p0 ad).bind λae=>(gT N j.1 (⟨aa,ab,ae⟩:aR)).bind λaf=>some<|.nx (af,wrap .i64<|j.2+1))else(some<|.br (j.1,j.2)):aT (Fl (Z aR×Int) Empty))) N (([]:Z aR),1)).bind λag=>ag.cs (λ(j:Z aR×Int)=>(kj N j.1).bind λah=>some ah)<|λr=>r.elim
def kS(N:Nat)(p0:Z aF)(p1:Z aF):aT Bool:=
 bif(p0.length:Int) != (p1.length:Int)then some false else((iI (λ(j:Int)=>(bif decide (j<(p0.length:Int))then((idx p0 j).bind λo=>(idx p1 j).bind λaa=>bif(!(decide<|o=aa))then some (.rt false)else some (.nx<|wrap .i64<|j+1))else(some<|.br j):aT (Fl Int Bool))) N 0).bind λab=>ab.cs (λ(j:Int)=>some true)<|λr=>some r)
def gA(N:Nat)(p0:Z aF):aT Int:=
 (i7 N p0).bind λo=>bif o != 0 then some o else((iI (λ(j:Int)=>(bif decide (j<(p0.length:Int))then((idx p0<|wrap .i64<|j - 1).bind λaa=>(idx p0 j).bind λab=>(jt N aa ab).bind λad=>bif(!ad)then some (.rt 8)else some (.nx<|wrap .i64<|j+1))else(some<|.br j):aT (Fl Int Int))) N 1).bind λae=>ae.cs (λ(j:Int)=>(gv N p0).bind λaf=>(kS N p0 af).bind λag=>bif(!ag)then some 3 else some 0)<|λr=>some r)
def eW(N:Nat)(p0 p1 p2:Int):aT Bool:=
 some (decide (p0>=p1)&&decide (p0<=p2))
def gU(N:Nat)(p0:dW):aT Bool:=
 ((dF N p0.X).bind λj=>bif j then((dF N p0.Y).bind λo=>some o)else some false).bind λaa=>some aa
def cV(N:Nat)(p0:bV):aT aF:=
 some (⟨wrap .i64<|p0.At.X -(wrap .i64<|Int.tdiv p0.eN 2),wrap .i64<|p0.At.Y -(wrap .i64<|Int.tdiv p0.eN 2),wrap .i64<|wrap .i64 (p0.At.X -(wrap .i64<|Int.tdiv p0.eN 2))+p0.eN,wrap .i64<|wrap .i64 (p0.At.Y -(wrap .i64<|Int.tdiv p0.eN 2))+p0.eN⟩:aF)
def iQ(N:Nat)(p0:bV):aT Int:=
 ((eW N p0.eN 1 10000).bind λo=>bif(!o)then some true else((gU N p0.At).bind λaa=>some<|!aa)).bind λab=>bif ab then some 1 else((cV N p0).bind λj=>((dF N j.X0).bind λad=>bif(!ad)then some true else((dF N j.Y0).bind λae=>bif(!ae)then some true else((dF N j.X1).bind λaf=>bif(!af)then some true else((dF N j.Y1).bind λag=>some<|!ag)))).bind λah=>bif ah then some 1 else some 0)
def iu(N:Nat)(p0:eJ):aT Bool:=
 (iI (λ(o:Int)=>(bif decide (o<(p0.dV.length:Int))then((Le p0 o).bind λj=>(bif(!(((decide ((j.toNat:Int)>=97)&&decide ((j.toNat:Int)<=122))||(decide ((j.toNat:Int)>=65)&&decide ((j.toNat:Int)<=90)))||(decide ((j.toNat:Int)>=48)&&decide ((j.toNat:Int)<=57))))then((iV N (⟨[95,43,45,35]⟩) (j.toNat:Int)).bind λaa=>some<|decide<|aa<0)else some false).bind λab=>bif ab then some (.rt false)else some (.nx<|wrap .i64<|o+1))else(some<|.br o):aT (Fl Int Bool))) N 0).bind λad=>ad.cs (λ(o:Int)=>(eW N (p0.dV.length:Int) 1 40).bind λae=>some ae)<|λr=>some r
def kF(N:Nat)(p0:eJ):aT Bool:=
 (nX N p0<|⟨[47]⟩).bind λo=>(iI (λ(j:Int)=>(bif decide (j<(o.length:Int))then((idx o j).bind λaa=>(iu N aa).bind λab=>bif(!ab)then some (.rt false)else some (.nx<|wrap .i64<|j+1))else(some<|.br j):aT (Fl Int Bool))) N 0).bind λad=>ad.cs (λ(j:Int)=>some<|decide<|(p0.dV.length:Int)<=200)<|λr=>some r
def jv(N:Nat)(p0:gZ)(p1:Int):aT Int:=
 (idx p0.bO p1).bind λj=>((kF N j.Part).bind λaa=>bif(!aa)then some true else((iu N j.eK).bind λab=>some<|!ab)).bind λad=>bif ad then some 5 else(((eW N j.cN 0<|wrap .i64<|(p0.aL.length:Int) - 1).bind λae=>bif(!ae)then some true else((gU N j.At).bind λaf=>some<|!af)).bind λag=>bif ag then some 1 else(bif p1>0 then((idx p0.bO<|wrap .i64<|p1 - 1).bind λo=>bif j.Part.wg o.Part||(j.Part.wD o.Part&&(j.eK.wg o.eK||j.eK.wD o.eK))then some 8 else some 0)else some 0))
def i9(N:Nat)(p0:gZ):aT Int:=
 bif(p0.aL.length:Int)==0 then some 9 else(bif decide ((p0.aL.length:Int)>16)then some 2 else((iI (λ(j:Int×Int)=>(bif decide (j.2<(p0.aL.length:Int))then((idx p0.aL j.2).bind λah=>(gA N ah).bind λad=>bif ad != 0 then some (.rt ad)else((idx p0.aL j.2).bind λai=>some<|.nx (wrap .i64<|j.1+(ai.length:Int),wrap .i64<|j.2+1)))else(some<|.br (j.1,j.2)):aT (Fl (Int×Int) Int))) N ((p0.cS.length:Int),0)).bind λaj=>aj.cs (λ(j:Int×Int)=>(gA N p0.cS).bind λae=>bif ae != 0 then some ae else((bif j.1>2000 then some true else some (decide<|(p0.aN.length:Int)>500)).bind λak=>bif ak then some 2 else((iI (λ(o:Int)=>(bif decide (o<(p0.aN.length:Int))then((idx p0.aN o).bind λab=>(iQ N ab).bind λaf=>bif af != 0 then some (.rt af)else(((eW N ab.cM 0<|wrap .i64<|(p0.aL.length:Int) - 1).bind λal=>bif(!al)then some true else((eW N ab.To ab.cM<|wrap .i64<|(p0.aL.length:Int) - 1).bind λxC=>some<|!xC)).bind λan=>bif an then some (.rt 1)else some (.nx<|wrap .i64<|o+1)))else(some<|.br o):aT (Fl Int Int))) N 0).bind λao=>ao.cs (λ(o:Int)=>bif decide ((p0.bO.length:Int)>1000)then some 2 else((iI (λ(aa:Int)=>(bif decide (aa<(p0.bO.length:Int))then((jv N p0 aa).bind λag=>bif ag != 0 then some (.rt ag)else some (.nx<|wrap .i64<|aa+1))else(some<|.br aa):aT (Fl Int Int))) N 0).bind λaq=>aq.cs (λ(aa:Int)=>some 0)<|λr=>some r))<|λr=>some r)))<|λr=>some r))
def jw(N:Nat)(p0 p1:bV):aT Bool:=
 some (decide (p0.cM<=p1.To)&&decide (p1.cM<=p0.To))
def gV(N:Nat)(p0 p1:aF):aT Bool:=
 (bif(if p1.X1<p0.X1 then p1.X1 else p0.X1)>(if p0.X0<p1.X0 then p1.X0 else p0.X0)then some (decide<|(if p1.Y1<p0.Y1 then p1.Y1 else p0.Y1)>(if p0.Y0<p1.Y0 then p1.Y0 else p0.Y0))else some false).bind λj=>some j
def gq(N:Nat)(p0:bV)(p1:Int):aT Bool:=
 some (decide (p0.cM<=p1)&&decide (p1<=p0.To))
def iv(N:Nat)(p0:Z aG)(p1:Int):aT Bool:=
 (iI (λ(j:Int)=>(bif decide (j<(p0.length:Int))then(((idx p0 j).bind λo=>bif o.from_<=p1 then((idx p0 j).bind λaa=>some<|decide<|p1<aa.to)else some false).bind λab=>bif ab then some (.rt true)else some (.nx<|wrap .i64<|j+1))else(some<|.br j):aT (Fl Int Bool))) N 0).bind λad=>ad.cs (λ(j:Int)=>some false)<|λr=>some r
def lj(N:Nat)(p0:Z aG)(p1:Z aG)(p2:Int):aT (Z aG):=
 (iI (λ(aa:Z Int×Int)=>(bif decide (aa.2<(p0.length:Int))then((idx p0 aa.2).bind λae=>(idx p0 aa.2).bind λaf=>(gw N aa.1 ae.from_).bind λag=>(gw N ag af.to).bind λah=>some<|.nx (ah,wrap .i64<|aa.2+1))else(some<|.br (aa.1,aa.2)):aT (Fl (Z Int×Int) Empty))) N (([]:Z Int),0)).bind λai=>ai.cs (λ(aa:Z Int×Int)=>(iI (λ(j:Z Int×Int)=>(bif decide (j.2<(p1.length:Int))then((idx p1 j.2).bind λaj=>(idx p1 j.2).bind λak=>(gw N j.1 aj.from_).bind λal=>(gw N al ak.to).bind λan=>some<|.nx (an,wrap .i64<|j.2+1))else(some<|.br (j.1,j.2)):aT (Fl (Z Int×Int) Empty))) N (aa.1,0)).bind λao=>ao.cs (λ(j:Z Int×Int)=>(iI (λ(o:Z aG×Int)=>(bif decide (o.2<(j.1.length:Int))then((idx j.1<|wrap .i64<|o.2 - 1).bind λaq=>(idx j.1<|wrap .i64<|o.2 - 1).bind λar=>(iv N p0 aq).bind λab=>(iv N p1 ar).bind λad=>(bif(((p2==1)&&(ab||ad))||(((p2==2)&&ab)&&ad))||(((p2==3)&&ab)&&(!ad))then((idx j.1<|wrap .i64<|o.2 - 1).bind λau=>(idx j.1 o.2).bind λav=>(ju N o.1 (⟨au,av⟩:aG)).bind λaw=>some aw)else some o.1).bind λax=>some<|.nx (ax,wrap .i64<|o.2+1))else(some<|.br (o.1,o.2)):aT (Fl (Z aG×Int) Empty))) N (([]:Z aG),1)).bind λay=>ay.cs (λ(o:Z aG×Int)=>some o.1)<|λr=>r.elim)<|λr=>r.elim)<|λr=>r.elim
def iL(N:Nat)(p0:Z aF)(p1:Z aF)(p2:Int):aT (Z aF):=
 (app 32 ([]:Z aF) p0).bind λaa=>(app 32 aa p1).bind λab=>(iY N ab).bind λo=>(iI (λ(j:Z aR×Int)=>(bif decide (j.2<(o.length:Int))then((idx o<|wrap .i64<|j.2 - 1).bind λad=>(idx o j.2).bind λae=>(idx o<|wrap .i64<|j.2 - 1).bind λaf=>(idx o<|wrap .i64<|j.2 - 1).bind λag=>(iW N p0 af).bind λah=>(iW N p1 ag).bind λai=>(lj N ah ai p2).bind λaj=>(gT N j.1 (⟨ad,ae,aj⟩:aR)).bind λak=>some<|.nx (ak,wrap .i64<|j.2+1))else(some<|.br (j.1,j.2)):aT (Fl (Z aR×Int) Empty))) N (([]:Z aR),1)).bind λal=>al.cs (λ(j:Z aR×Int)=>(kj N j.1).bind λan=>some an)<|λr=>r.elim
def l7(N:Nat)(p0:Z aF)(p1:Z aF):aT (Z aF):=
 (iL N p0 p1 3).bind λj=>some j
def ij(N:Nat)(p0:gZ)(p1:Int):aT (Z aF):=
 (iI (λ(j:Z aF×Int)=>(bif decide (j.2<(p0.aN.length:Int))then((idx p0.aN j.2).bind λo=>(gq N o p1).bind λaa=>(bif aa then((idx p0.aN j.2).bind λab=>(cV N ab).bind λad=>(app 32 j.1 ([ad]:Z aF)).bind λae=>some ae)else some j.1).bind λaf=>some<|.nx (af,wrap .i64<|j.2+1))else(some<|.br (j.1,j.2)):aT (Fl (Z aF×Int) Empty))) N (([]:Z aF),0)).bind λag=>ag.cs (λ(j:Z aF×Int)=>(idx p0.aL p1).bind λah=>(gv N j.1).bind λxC=>(l7 N ah xC).bind λai=>some ai)<|λr=>r.elim
def j5(N:Nat)(p0 p1:aF):aT Bool:=
 some ((decide (wrap .i64 ((if p1.X1<p0.X1 then p1.X1 else p0.X1) -(if p0.X0<p1.X0 then p1.X0 else p0.X0))>0)&&decide (wrap .i64 ((if p1.Y1<p0.Y1 then p1.Y1 else p0.Y1) -(if p0.Y0<p1.Y0 then p1.Y0 else p0.Y0))>=0))||(decide (wrap .i64 ((if p1.X1<p0.X1 then p1.X1 else p0.X1) -(if p0.X0<p1.X0 then p1.X0 else p0.X0))>=0)&&decide (wrap .i64 ((if p1.Y1<p0.Y1 then p1.Y1 else p0.Y1) -(if p0.Y0<p1.Y0 then p1.Y0 else p0.Y0))>0)))
def kG(N:Nat)(p0:Z (Z aF))(p1:Z aF):aT (Z<|Z aF):=
 (iI (λ(j:Int)=>((bif j>0 then((idx p1 0).bind λo=>(idx p0<|wrap .i64<|j - 1).bind λaa=>(idx aa 0).bind λab=>(jt N o ab).bind λad=>some ad)else some false).bind λae=>bif ae then some (.nx<|wrap .i64<|j - 1)else(some<|.br j):aT (Fl Int Empty))) N (p0.length:Int)).bind λaf=>af.cs (λ(j:Int)=>(vC p0 0 j).bind λag=>(app 24 ([]:Z (Z aF)) ag).bind λah=>(app 24 ah ([p1]:Z (Z aF))).bind λai=>(vC p0 j (p0.length:Int)).bind λaj=>(app 24 ai aj).bind λak=>some ak)<|λr=>r.elim
def gH(N:Nat)(p0:Z aF):aT (Z<|Z aF):=
 (mk 1 (false:Bool) (p0.length:Int)).bind λad=>(iI (λ(o:Z Bool×Z (Z aF)×Int)=>(bif decide (o.2.2<(p0.length:Int))then((idx o.1 o.2.2).bind λae=>bif ae then some (.nx (o.1,o.2.1,wrap .i64<|o.2.2+1))else((idx o.1 o.2.2).bind λaw=>(idx p0 o.2.2).bind λaf=>(iI (λ(aa:Z Bool×Z aF×Int)=>(bif decide (aa.2.2<(aa.2.1.length:Int))then((iI (λ(j:Z Bool×Z aF×Int)=>(bif decide (j.2.2<(p0.length:Int))then(((idx j.1 j.2.2).bind λag=>bif(!ag)then((idx j.2.1 aa.2.2).bind λah=>(idx p0 j.2.2).bind λai=>(j5 N ah ai).bind λaj=>some aj)else some false).bind λak=>(bif ak then((idx j.1 j.2.2).bind λax=>(idx p0 j.2.2).bind λal=>(app 32 j.2.1 ([al]:Z aF)).bind λan=>some (j.1.set (Int.toNat j.2.2) true,an))else some (j.1,j.2.1)).bind λab=>some<|.nx (ab.1,ab.2,wrap .i64<|j.2.2+1))else(some<|.br (j.1,j.2.1,j.2.2)):aT (Fl (Z Bool×Z aF×Int) Empty))) N (aa.1,aa.2.1,0)).bind λao=>ao.cs (λ(j:Z Bool×Z aF×Int)=>some<|.nx (j.1,j.2.1,wrap .i64<|aa.2.2+1))<|λr=>r.elim)else(some<|.br (aa.1,aa.2.1,aa.2.2)):aT (Fl (Z Bool×Z aF×Int) Empty))) N (o.1.set (Int.toNat o.2.2) true,([af]:Z aF),0)).bind λaq=>aq.cs (λ(aa:Z Bool×Z aF×Int)=>(gv N aa.2.1).bind λar=>(kG N o.2.1 ar).bind λau=>some<|.nx (aa.1,au,wrap .i64<|o.2.2+1))<|λr=>r.elim))else(some<|.br (o.1,o.2.1,o.2.2)):aT (Fl (Z Bool×Z (Z aF)×Int) Empty))) N (ad,([]:Z (Z aF)),0)).bind λav=>av.cs (λ(o:Z Bool×Z (Z aF)×Int)=>some o.2.1)<|λr=>r.elim
def eM(N:Nat)(p0:gZ):aT Int:=
 (i9 N p0).bind λab=>bif ab != 0 then some ab else((iI (λ(o:Int)=>(bif decide (o<(p0.aN.length:Int))then((iI (λ(aa:Int)=>(bif aa<o then(((idx p0.aN o).bind λae=>(idx p0.aN aa).bind λaf=>(jw N ae af).bind λag=>bif ag then((idx p0.aN o).bind λah=>(idx p0.aN aa).bind λai=>(cV N ah).bind λaj=>(cV N ai).bind λak=>(gV N aj ak).bind λal=>some al)else some false).bind λan=>bif an then some (.rt 12)else some (.nx<|wrap .i64<|aa+1))else(some<|.br aa):aT (Fl Int Int))) N 0).bind λao=>ao.cs (λ(aa:Int)=>some<|.nx<|wrap .i64<|o+1)<|λr=>some<|.rt r)else(some<|.br o):aT (Fl Int Int))) N 0).bind λaq=>aq.cs (λ(o:Int)=>(iI (λ(j:Int×Int)=>(bif decide (j.2<(p0.aL.length:Int))then((ij N p0 j.2).bind λad=>bif decide ((ad.length:Int)>2000)then some (.rt 2)else((gH N ad).bind λar=>some<|.nx (wrap .i64<|j.1+(ar.length:Int),wrap .i64<|j.2+1)))else(some<|.br (j.1,j.2)):aT (Fl (Int×Int) Int))) N (0,0)).bind λau=>au.cs (λ(j:Int×Int)=>bif j.1>2000 then some 2 else some 0)<|λr=>some r)<|λr=>some r)
def fE(N:Nat)(p0:gZ)(p1:eK):aT Int:=
 (iI (λ(j:Int)=>(bif decide (j<(p0.bO.length:Int))then(((idx p0.bO j).bind λo=>bif o.Part.wD p1.Part then((idx p0.bO j).bind λaa=>some<|aa.eK.wD p1.eK)else some false).bind λab=>bif ab then some (.rt j)else some (.nx<|wrap .i64<|j+1))else(some<|.br j):aT (Fl Int Int))) N 0).bind λad=>ad.cs (λ(j:Int)=>some<|-1)<|λr=>some r
def iT(N:Nat)(p0 p1:eK):aT Bool:=
 some (p0.Part.wg p1.Part||(p0.Part.wD p1.Part&&p0.eK.wg p1.eK))
def jy(N:Nat)(p0 p1:Test):aT Bool:=
 ((iT N p0.A p1.A).bind λj=>bif j then some true else(bif p0.A=p1.A then((iT N p0.B p1.B).bind λo=>some o)else some false)).bind λaa=>some aa
def dC(N:Nat)(p0:gZ)(p1:Z Test):aT Int:=
 (eM N p0).bind λo=>bif o != 0 then some o else(bif decide ((p1.length:Int)>2000)then some 2 else((iI (λ(j:Int)=>(bif decide (j<(p1.length:Int))then(((idx p1 j).bind λaa=>(fE N p0 aa.A).bind λab=>bif ab<0 then some true else((idx p1 j).bind λad=>(fE N p0 ad.B).bind λae=>some<|decide<|ae<0)).bind λaf=>bif af then some (.rt 9)else(((idx p1 j).bind λag=>(idx p1 j).bind λah=>(iT N ag.A ah.B).bind λai=>bif(!ai)then some true else(bif j>0 then((idx p1<|wrap .i64<|j - 1).bind λaj=>(idx p1 j).bind λak=>(jy N aj ak).bind λal=>some<|!al)else some false)).bind λan=>bif an then some (.rt 8)else some (.nx<|wrap .i64<|j+1)))else(some<|.br j):aT (Fl Int Int))) N 0).bind λao=>ao.cs (λ(j:Int)=>some 0)<|λr=>some r))
def l8(N:Nat)(p0 p1 p2:Int):aT Bool:=
 some (decide (p0>=p1)&&decide (p0<=p2))
def kl(N:Nat)(p0:Z aF)(p1:aF):aT Bool:=
 (iI (λ(j:Int)=>(bif decide (j<(p0.length:Int))then((idx p0 j).bind λo=>(idx p0 j).bind λaa=>(idx p0 j).bind λab=>(idx p0 j).bind λad=>bif(decide (wrap .i64 ((if p1.X1<o.X1 then p1.X1 else o.X1) -(if aa.X0<p1.X0 then p1.X0 else aa.X0))>0)&&(wrap .i64 ((if p1.Y1<ab.Y1 then p1.Y1 else ab.Y1) -(if ad.Y0<p1.Y0 then p1.Y0 else ad.Y0))==0))||((wrap .i64 ((if p1.X1<o.X1 then p1.X1 else o.X1) -(if aa.X0<p1.X0 then p1.X0 else aa.X0))==0)&&decide (wrap .i64 ((if p1.Y1<ab.Y1 then p1.Y1 else ab.Y1) -(if ad.Y0<p1.Y0 then p1.Y0 else ad.Y0))>0))then some (.rt true)else some (.nx<|wrap .i64<|j+1))else(some<|.br j):aT (Fl Int Bool))) N 0).bind λae=>ae.cs (λ(j:Int)=>some false)<|λr=>some r
def cT(N:Nat)(p0:Z Int)(p1:Int):aT Bool:=
 (iI (λ(j:Int)=>(bif decide (j<(p0.length:Int))then((idx p0 j).bind λo=>bif o==p1 then some (.rt true)else some (.nx<|wrap .i64<|j+1))else(some<|.br j):aT (Fl Int Bool))) N 0).bind λaa=>aa.cs (λ(j:Int)=>some false)<|λr=>some r
def jz(N:Nat)(p0:Z Int)(p1:Int):aT (Z Int):=
 (iI (λ(j:Int)=>((bif j>0 then((idx p0<|wrap .i64<|j - 1).bind λo=>some<|decide<|o>p1)else some false).bind λaa=>bif aa then some (.nx<|wrap .i64<|j - 1)else(some<|.br j):aT (Fl Int Empty))) N (p0.length:Int)).bind λab=>ab.cs (λ(j:Int)=>(bif j>0 then((idx p0<|wrap .i64<|j - 1).bind λad=>some<|ad==p1)else some false).bind λae=>bif ae then some p0 else((vC p0 0 j).bind λaf=>(app 8 ([]:Z Int) af).bind λag=>(app 8 ag ([p1]:Z Int)).bind λah=>(vC p0 j (p0.length:Int)).bind λai=>(app 8 ah ai).bind λaj=>some aj))<|λr=>r.elim
def iw(N:Nat)(p0_7:Z (Z Int))(p1:Int)(p2:Z Bool):aT ((Z Int×Z Int×Z eK)×Z Bool):=
 (idx p2 p1).bind λax=>(mk 1 (false:Bool) (p0_7.length:Int)).bind λae=>(iI (λ(o:Z Bool×Z Int×Z Int×Z Bool×Z Int×Int)=>(bif decide (o.2.2.2.2.2<(o.2.2.2.2.1.length:Int))then((iI (λ(j:Z Bool×Z Int×Z Int×Z Bool×Z Int×Int)=>(bif decide (j.2.2.2.2.2<(p0_7.length:Int))then(((idx j.2.2.2.1 j.2.2.2.2.2).bind λaf=>bif af then some true else((idx p0_7 j.2.2.2.2.2).bind λag=>(idx j.2.2.2.2.1 o.2.2.2.2.2).bind λah=>(cT N ag ah).bind λai=>some<|!ai)).bind λaj=>bif aj then some (.nx (j.1,j.2.1,j.2.2.1,j.2.2.2.1,j.2.2.2.2.1,wrap .i64<|j.2.2.2.2.2+1))else((idx j.2.2.2.1 j.2.2.2.2.2).bind λay=>(jz N j.2.2.1 j.2.2.2.2.2).bind λak=>(iI (λ(aa:Z Bool×Z Int×Z Int×Int)=>((idx p0_7 j.2.2.2.2.2).bind λal=>bif decide (aa.2.2.2<(al.length:Int))then((idx p0_7 j.2.2.2.2.2).bind λan=>(idx an aa.2.2.2).bind λab=>(idx aa.1 ab).bind λao=>(bif(!ao)then((idx aa.1 ab).bind λaz=>(jz N aa.2.1 ab).bind λaq=>(app 8 aa.2.2.1 ([ab]:Z Int)).bind λar=>some (aa.1.set (Int.toNat ab) true,aq,ar))else some (aa.1,aa.2.1,aa.2.2.1)).bind λad=>some<|.nx (ad.1,ad.2.1,ad.2.2,wrap .i64<|aa.2.2.2+1))else(some<|.br (aa.1,aa.2.1,aa.2.2.1,aa.2.2.2)):aT (Fl (Z Bool×Z Int×Z Int×Int) Empty))) N (j.1,j.2.1,j.2.2.2.2.1,0)).bind λau=>au.cs (λ(aa:Z Bool×Z Int×Z Int×Int)=>some<|.nx (aa.1,aa.2.1,ak,j.2.2.2.1.set (Int.toNat j.2.2.2.2.2) true,aa.2.2.1,wrap .i64<|j.2.2.2.2.2+1))<|λr=>r.elim))else(some<|.br (j.1,j.2.1,j.2.2.1,j.2.2.2.1,j.2.2.2.2.1,j.2.2.2.2.2)):aT (Fl (Z Bool×Z Int×Z Int×Z Bool×Z Int×Int) Empty))) N (o.1,o.2.1,o.2.2.1,o.2.2.2.1,o.2.2.2.2.1,0)).bind λav=>av.cs (λ(j:Z Bool×Z Int×Z Int×Z Bool×Z Int×Int)=>some<|.nx (j.1,j.2.1,j.2.2.1,j.2.2.2.1,j.2.2.2.2.1,wrap .i64<|o.2.2.2.2.2+1))<|λr=>r.elim)else(some<|.br (o.1,o.2.1,o.2.2.1,o.2.2.2.1,o.2.2.2.2.1,o.2.2.2.2.2)):aT (Fl (Z Bool×Z Int×Z Int×Z Bool×Z Int×Int) Empty))) N (p2.set (Int.toNat p1) true,([p1]:Z Int),([]:Z Int),ae,([p1]:Z Int),0)).bind λaw=>aw.cs (λ(o:Z Bool×Z Int×Z Int×Z Bool×Z Int×Int)=>some ((o.2.1,o.2.2.1,([]:Z eK)),o.1))<|λr=>r.elim
def fQ(N:Nat)(p0:Z aF)(p1:dW):aT Bool:=
 (iW N p0 p1.Y).bind λj=>(iv N j p1.X).bind λo=>some o
def gC(N:Nat)(p0_2:Z bV)(p0_4:Z Int)(p0_5:Z (Z aF))(p1:dA):aT (eB×Bool):=
 (iI (λ(o:Int)=>(bif decide (o<(p0_5.length:Int))then(((idx p0_4 o).bind λaa=>bif aa==p1.cN then((idx p0_5 o).bind λab=>(fQ N ab p1.At).bind λad=>some ad)else some false).bind λae=>bif ae then some (.rt ((⟨false,o⟩:eB),true))else some (.nx<|wrap .i64<|o+1))else(some<|.br o):aT (Fl Int<|eB×Bool))) N 0).bind λaf=>af.cs (λ(o:Int)=>(iI (λ(j:Int)=>(bif decide (j<(p0_2.length:Int))then(((idx p0_2 j).bind λag=>bif ag.fM then((idx p0_2 j).bind λah=>(gq N ah p1.cN).bind λai=>bif ai then((idx p0_2 j).bind λaj=>(cV N aj).bind λak=>(fQ N ([ak]:Z aF) p1.At).bind λal=>some al)else some false)else some false).bind λan=>bif an then some (.rt ((⟨true,j⟩:eB),true))else some (.nx<|wrap .i64<|j+1))else(some<|.br j):aT (Fl Int<|eB×Bool))) N 0).bind λao=>ao.cs (λ(j:Int)=>some ((⟨false,0⟩:eB),false))<|λr=>some r)<|λr=>some r
def dP(N:Nat)(p0_6:Z bZ)(p1:eB):aT Int:=
 (iI (λ(j:Int)=>(bif decide (j<(p0_6.length:Int))then((bif p1.bV then((idx p0_6 j).bind λo=>(cT N o.aN p1.Number).bind λaa=>bif aa then some true else(bif(!p1.bV)then((idx p0_6 j).bind λab=>(cT N ab.fO p1.Number).bind λad=>some ad)else some false))else(bif(!p1.bV)then((idx p0_6 j).bind λae=>(cT N ae.fO p1.Number).bind λaf=>some af)else some false)).bind λag=>bif ag then some (.rt j)else some (.nx<|wrap .i64<|j+1))else(some<|.br j):aT (Fl Int Int))) N 0).bind λah=>ah.cs (λ(j:Int)=>some<|-1)<|λr=>some r
def fI(N:Nat)(p0_2:Z bV)(p0_4:Z Int)(p0_5:Z (Z aF))(p0_6:Z bZ)(p1:dA):aT Int:=
 (gC N p0_2 p0_4 p0_5 p1).bind λj=>bif(!j.2)then some (-1)else((dP N p0_6 j.1).bind λo=>some o)
def gj(N:Nat)(p0_2:Z bV)(p0_3:Z dA)(p0_4:Z Int)(p0_5:Z (Z aF))(p0_7:Z (Z Int)):aT (Z bZ):=
 (mk 1 (false:Bool) (p0_5.length:Int)).bind λag=>(iI (λ(j:Z bZ×Z Bool×Int)=>(bif decide (j.2.2<(p0_5.length:Int))then((idx j.2.1 j.2.2).bind λah=>(bif(!ah)then((iw N p0_7 j.2.2 j.2.1).bind λab=>(app 72 j.1 [(⟨ab.1.1,ab.1.2.1,ab.1.2.2⟩:bZ)]).bind λai=>some (ai,ab.2))else some (j.1,j.2.1)).bind λaf=>some<|.nx (af.1,af.2,wrap .i64<|j.2.2+1))else(some<|.br (j.1,j.2.1,j.2.2)):aT (Fl (Z bZ×Z Bool×Int) Empty))) N (([]:Z bZ),ag,0)).bind λaj=>aj.cs (λ(j:Z bZ×Z Bool×Int)=>(iI (λ(aa:Z bZ×Int)=>(bif decide (aa.2<(p0_7.length:Int))then(((idx p0_2 aa.2).bind λak=>bif ak.fM then((idx p0_7 aa.2).bind λal=>some<|(al.length:Int)==0)else some false).bind λan=>(bif an then((app 72 aa.1 [(⟨([]:Z Int),([aa.2]:Z Int),([]:Z eK)⟩:bZ)]).bind λao=>some ao)else some aa.1).bind λaq=>some<|.nx (aq,wrap .i64<|aa.2+1))else(some<|.br (aa.1,aa.2)):aT (Fl (Z bZ×Int) Empty))) N (j.1,0)).bind λar=>ar.cs (λ(aa:Z bZ×Int)=>(iI (λ(o:Z bZ×Int)=>(bif decide (o.2<(p0_3.length:Int))then((idx p0_3 o.2).bind λae=>(fI N p0_2 p0_4 p0_5 o.1 ae).bind λad=>(bif ad>=0 then((idx o.1 ad).bind λau=>(app 32 au.fB ([(⟨ae.Part,ae.eK⟩:eK)]:Z eK)).bind λav=>(idx o.1 ad).bind λaw=>some<|o.1.set (Int.toNat ad) {aw with fB:=av})else some o.1).bind λax=>some<|.nx (ax,wrap .i64<|o.2+1))else(some<|.br (o.1,o.2)):aT (Fl (Z bZ×Int) Empty))) N (aa.1,0)).bind λay=>ay.cs (λ(o:Z bZ×Int)=>some o.1)<|λr=>r.elim)<|λr=>r.elim)<|λr=>r.elim
def kc(N:Nat)(p0:gZ):aT (Z (Z aF)×Z aF×Z bV×Z dA×Z Int×Z (Z aF)×Z bZ×Z (Z Int)):=
 (iI (λ(j:Z Int×Z (Z aF)×Int)=>(bif decide (j.2.2<(p0.aL.length:Int))then((ij N p0 j.2.2).bind λae=>(gH N ae).bind λad=>(iI (λ(o:Z Int×Z (Z aF)×Int)=>(bif decide (o.2.2<(ad.length:Int))then((app 8 o.1 ([j.2.2]:Z Int)).bind λaf=>(idx ad o.2.2).bind λag=>(app 24 o.2.1 ([ag]:Z (Z aF))).bind λah=>some<|.nx (af,ah,wrap .i64<|o.2.2+1))else(some<|.br (o.1,o.2.1,o.2.2)):aT (Fl (Z Int×Z (Z aF)×Int) Empty))) N (j.1,j.2.1,0)).bind λai=>ai.cs (λ(o:Z Int×Z (Z aF)×Int)=>some<|.nx (o.1,o.2.1,wrap .i64<|j.2.2+1))<|λr=>r.elim)else(some<|.br (j.1,j.2.1,j.2.2)):aT (Fl (Z Int×Z (Z aF)×Int) Empty))) N (([]:Z Int),([]:Z (Z aF)),0)).bind λaj=>aj.cs (λ(j:Z Int×Z (Z aF)×Int)=>(iI (λ(aa:Z (Z Int)×Int)=>(bif decide (aa.2<(p0.aN.length:Int))then((iI (λ(ab:Z Int×Int)=>((bif decide (ab.2<(j.2.1.length:Int))then((idx p0.aN aa.2).bind λak=>some ak.fM)else some false).bind λal=>bif al then(((idx p0.aN aa.2).bind λan=>(idx j.1 ab.2).bind λao=>(gq N an ao).bind λaq=>bif aq then((idx j.2.1 ab.2).bind λar=>(idx p0.aN aa.2).bind λau=>(cV N au).bind λav=>(kl N ar av).bind λaw=>some aw)else some false).bind λax=>(bif ax then((app 8 ab.1 ([ab.2]:Z Int)).bind λay=>some ay)else some ab.1).bind λaz=>some<|.nx (az,wrap .i64<|ab.2+1))else(some<|.br (ab.1,ab.2)):aT (Fl (Z Int×Int) Empty))) N (([]:Z Int),0)).bind λa0=>a0.cs (λ(ab:Z Int×Int)=>(app 24 aa.1 ([ab.1]:Z (Z Int))).bind λa1=>some<|.nx (a1,wrap .i64<|aa.2+1))<|λr=>r.elim)else(some<|.br (aa.1,aa.2)):aT (Fl (Z (Z Int)×Int) Empty))) N (([]:Z (Z Int)),0)).bind λa2=>a2.cs (λ(aa:Z (Z Int)×Int)=>(gj N p0.aN p0.bO j.1 j.2.1 aa.1).bind λa3=>some (p0.aL,p0.cS,p0.aN,p0.bO,j.1,j.2.1,a3,aa.1))<|λr=>r.elim)<|λr=>r.elim
def jW(N:Nat)(p0_5:Z (Z aF))(p0_6:Z bZ):aT (Z Int):=
 (mk 8 (0:Int) (p0_5.length:Int)).bind λab=>(iI (λ(j:Z Int×Int)=>(bif decide (j.2<(p0_6.length:Int))then((iI (λ(o:Z Int×Int)=>((idx p0_6 j.2).bind λad=>bif decide (o.2<(ad.fO.length:Int))then((idx p0_6 j.2).bind λae=>(idx ae.fO o.2).bind λaa=>(idx o.1 aa).bind λah=>some<|.nx (o.1.set (Int.toNat aa) j.2,wrap .i64<|o.2+1))else(some<|.br (o.1,o.2)):aT (Fl (Z Int×Int) Empty))) N (j.1,0)).bind λaf=>af.cs (λ(o:Z Int×Int)=>some<|.nx (o.1,wrap .i64<|j.2+1))<|λr=>r.elim)else(some<|.br (j.1,j.2)):aT (Fl (Z Int×Int) Empty))) N (ab,0)).bind λag=>ag.cs (λ(j:Z Int×Int)=>some j.1)<|λr=>r.elim
def eY(N:Nat)(p0_6:Z bZ)(p1:eB):aT Int:=
 (iI (λ(j:Int)=>(bif decide (j<(p0_6.length:Int))then((bif p1.bV then((idx p0_6 j).bind λo=>(cT N o.aN p1.Number).bind λaa=>bif aa then some true else(bif(!p1.bV)then((idx p0_6 j).bind λab=>(cT N ab.fO p1.Number).bind λad=>some ad)else some false))else(bif(!p1.bV)then((idx p0_6 j).bind λae=>(cT N ae.fO p1.Number).bind λaf=>some af)else some false)).bind λag=>bif ag then some (.rt j)else some (.nx<|wrap .i64<|j+1))else(some<|.br j):aT (Fl Int Int))) N 0).bind λah=>ah.cs (λ(j:Int)=>some<|-1)<|λr=>some r
def kT(N:Nat)(p0 p1:Int)(p2 p3:Int):aT Int:=
 some (if(if 0<(wrap .i64<|p2 -(wrap .i64<|p1 - 1))then wrap .i64 (p2 -(wrap .i64<|p1 - 1))else 0)<(wrap .i64<|p0 -(wrap .i64<|p3 - 1))then wrap .i64 (p0 -(wrap .i64<|p3 - 1))else(if 0<(wrap .i64<|p2 -(wrap .i64<|p1 - 1))then wrap .i64 (p2 -(wrap .i64<|p1 - 1))else 0))
def iM(N:Nat)(p0 p1:aF):aT Int:=
 (kT N p0.X0 p0.X1 p1.X0 p1.X1).bind λj=>(kT N p0.Y0 p0.Y1 p1.Y0 p1.Y1).bind λo=>some (if j<o then o else j)
def ja(N:Nat)(p0:Z aF)(p1:Z aF):aT Int:=
 (idx p0 0).bind λab=>(idx p1 0).bind λad=>(iM N ab ad).bind λae=>(iI (λ(o:Int×Int)=>(bif decide (o.2<(p0.length:Int))then((iI (λ(j:Int×Int)=>(bif decide (j.2<(p1.length:Int))then((idx p0 o.2).bind λaf=>(idx p1 j.2).bind λag=>(iM N af ag).bind λaa=>some<|.nx ((if aa<j.1 then aa else j.1),wrap .i64<|j.2+1))else(some<|.br (j.1,j.2)):aT (Fl (Int×Int) Empty))) N (o.1,0)).bind λah=>ah.cs (λ(j:Int×Int)=>some<|.nx (j.1,wrap .i64<|o.2+1))<|λr=>r.elim)else(some<|.br (o.1,o.2)):aT (Fl (Int×Int) Empty))) N (ae,0)).bind λai=>ai.cs (λ(o:Int×Int)=>some o.1)<|λr=>r.elim
def iZ(N:Nat)(p0:Z aF)(p1:Z aF)(p2:Int):aT (dW×Bool):=
 (iI (λ(o:dW×Bool×Int)=>(bif decide (o.2.2<(p0.length:Int))then((iI (λ(j:dW×Bool×Int)=>(bif decide (j.2.2<(p1.length:Int))then((idx p0 o.2.2).bind λad=>(idx p1 j.2.2).bind λae=>(idx p0 o.2.2).bind λaa=>(idx p1 j.2.2).bind λab=>((idx p0 o.2.2).bind λaf=>(idx p1 j.2.2).bind λag=>bif(if ad.X0<(wrap .i64<|ae.X0 - p2)then wrap .i64 (ae.X0 - p2)else ad.X0)>(wrap .i64<|(if wrap .i64 (ag.X1+p2)<af.X1 then wrap .i64 (ag.X1+p2)else af.X1) - 1)then some true else((idx p0 o.2.2).bind λah=>(idx p1 j.2.2).bind λai=>some<|decide<|(if aa.Y0<(wrap .i64<|ab.Y0 - p2)then wrap .i64 (ab.Y0 - p2)else aa.Y0)> wrap .i64 ((if wrap .i64 (ai.Y1+p2)<ah.Y1 then wrap .i64 (ai.Y1+p2)else ah.Y1) - 1))).bind λak=>bif ak then some (.nx (j.1,j.2.1,wrap .i64<|j.2.2+1))else((bif((!j.2.1)||decide ((if aa.Y0<(wrap .i64<|ab.Y0 - p2)then wrap .i64 (ab.Y0 - p2)else aa.Y0)<j.1.Y))||(((if aa.Y0<(wrap .i64<|ab.Y0 - p2)then wrap .i64 (ab.Y0 - p2)else aa.Y0)==j.1.Y)&&decide ((if ad.X0<(wrap .i64<|ae.X0 - p2)then wrap .i64 (ae.X0 - p2)else ad.X0)<j.1.X))then some ((⟨(if ad.X0<(wrap .i64<|ae.X0 - p2)then wrap .i64 (ae.X0 - p2)else ad.X0),(if aa.Y0<(wrap .i64<|ab.Y0 - p2)then wrap .i64 (ab.Y0 - p2)else aa.Y0)⟩:dW),true)else some (j.1,j.2.1)).bind λaj=>some<|.nx (aj.1,aj.2,wrap .i64<|j.2.2+1)))else(some<|.br (j.1,j.2.1,j.2.2)):aT (Fl (dW×Bool×Int) Empty))) N (o.1,o.2.1,0)).bind λal=>al.cs (λ(j:dW×Bool×Int)=>some<|.nx (j.1,j.2.1,wrap .i64<|o.2.2+1))<|λr=>r.elim)else(some<|.br (o.1,o.2.1,o.2.2)):aT (Fl (dW×Bool×Int) Empty))) N ((⟨0,0⟩:dW),false,0)).bind λan=>an.cs (λ(o:dW×Bool×Int)=>some (o.1,o.2.1))<|λr=>r.elim
def j6(N:Nat)(p0:Z aF)(p1:Z aF):aT wh:=
 (ja N p0 p1).bind λo=>(iZ N p0 p1 o).bind λj=>(iZ N p1 ([(⟨j.1.X,j.1.Y,wrap .i64<|j.1.X+1,wrap .i64<|j.1.Y+1⟩:aF)]:Z aF) o).bind λaa=>some (⟨0,0,wrap .i64<|o - 1,j.1,aa.1⟩:wh)
def kd(N:Nat)(p0_2:Z bV)(p0_4:Z Int)(p0_5:Z (Z aF))(p0_6:Z bZ)(p1:Int):aT (Z aU):=
 (jW N p0_5 p0_6).bind λad=>(iI (λ(ab:Z aU×Int)=>(bif decide (ab.2<(p0_5.length:Int))then((idx ad ab.2).bind λae=>(idx p0_6 ae).bind λaf=>(bif decide ((af.fB.length:Int)>=2)then((app 40 ab.1 ([(⟨true,(⟨false,ab.2⟩:eB),0,0⟩:aU)]:Z aU)).bind λag=>some ag)else some ab.1).bind λah=>some<|.nx (ah,wrap .i64<|ab.2+1))else(some<|.br (ab.1,ab.2)):aT (Fl (Z aU×Int) Empty))) N (([]:Z aU),0)).bind λai=>ai.cs (λ(ab:Z aU×Int)=>(iI (λ(aa:Z aU×Int)=>(bif decide (aa.2<(p0_2.length:Int))then(((idx p0_2 aa.2).bind λaj=>bif aj.fM then((eY N p0_6 (⟨true,aa.2⟩:eB)).bind λMX=>(idx p0_6 MX).bind λak=>some<|decide<|(ak.fB.length:Int)>=2)else some false).bind λal=>(bif al then((app 40 aa.1 ([(⟨true,(⟨true,aa.2⟩:eB),0,0⟩:aU)]:Z aU)).bind λan=>some an)else some aa.1).bind λao=>some<|.nx (ao,wrap .i64<|aa.2+1))else(some<|.br (aa.1,aa.2)):aT (Fl (Z aU×Int) Empty))) N (ab.1,0)).bind λaq=>aq.cs (λ(aa:Z aU×Int)=>(iI (λ(j:Z aU×Int)=>(bif decide (j.2<(p0_5.length:Int))then((iI (λ(o:Z aU×Int)=>(bif decide (o.2<(p0_5.length:Int))then(((idx p0_4 j.2).bind λar=>(idx p0_4 o.2).bind λau=>bif ar==au then((idx ad j.2).bind λav=>(idx ad o.2).bind λaw=>bif av != aw then((idx p0_5 j.2).bind λax=>(idx p0_5 o.2).bind λay=>(j6 N ax ay).bind λaz=>some<|decide<|az.i5<p1)else some false)else some false).bind λa0=>(bif a0 then((app 40 o.1 ([(⟨false,⟨false,0⟩,j.2,o.2⟩:aU)]:Z aU)).bind λa1=>some a1)else some o.1).bind λa2=>some<|.nx (a2,wrap .i64<|o.2+1))else(some<|.br (o.1,o.2)):aT (Fl (Z aU×Int) Empty))) N (j.1,wrap .i64<|j.2+1)).bind λa3=>a3.cs (λ(o:Z aU×Int)=>some<|.nx (o.1,wrap .i64<|j.2+1))<|λr=>r.elim)else(some<|.br (j.1,j.2)):aT (Fl (Z aU×Int) Empty))) N (aa.1,0)).bind λa4=>a4.cs (λ(j:Z aU×Int)=>some j.1)<|λr=>r.elim)<|λr=>r.elim)<|λr=>r.elim
def gQ(N:Nat)(p0:Int)(p1:gZ)(p2:Int):aT (aT (Z (Z aF)×Z aF×Z bV×Z dA×Z Int×Z (Z aF)×Z bZ×Z (Z Int))×Z aU×Int):=
 bif p0 != 0 then some (none,([]:Z aU),p0)else((l8 N p2 0 100000).bind λaa=>bif(!aa)then some (none,([]:Z aU),1)else((kc N p1).bind λj=>(kd N j.2.2.1 j.2.2.2.2.1 j.2.2.2.2.2.1 j.2.2.2.2.2.2.1 p2).bind λo=>bif decide ((o.length:Int)>20000)then some (none,([]:Z aU),2)else some (some (j.1,j.2.1,j.2.2.1,j.2.2.2.1,j.2.2.2.2.1,j.2.2.2.2.2.1,j.2.2.2.2.2.2.1,j.2.2.2.2.2.2.2),o,0)))
def gr(N:Nat)(p0_5:Z (Z aF))(p1:eB):aT Int:=
 bif p1.bV then some (wrap .i64<|(p0_5.length:Int)+p1.Number)else some p1.Number
def g9(N:Nat)(p0_7:Z (Z Int))(p1:Int):aT (Z Int):=
 (idx p0_7 p1).bind λj=>some j
def gR(N:Nat)(p0:Z Int)(p1 p2:Int):aT (Z Int):=
 (idx p0 p1).bind λo=>(idx p0 p2).bind λaa=>(iI (λ(j:Z Int×Int)=>(bif decide (j.2<(j.1.length:Int))then((idx j.1 j.2).bind λab=>(bif ab==aa then((idx j.1 j.2).bind λaf=>some<|j.1.set (Int.toNat j.2) o)else some j.1).bind λad=>some<|.nx (ad,wrap .i64<|j.2+1))else(some<|.br (j.1,j.2)):aT (Fl (Z Int×Int) Empty))) N (p0,0)).bind λae=>ae.cs (λ(j:Z Int×Int)=>some j.1)<|λr=>r.elim
def fR(N:Nat)(p0_2:Z bV)(p0_3:Z dA)(p0_4:Z Int)(p0_5:Z (Z aF))(p0_7:Z (Z Int))(p1:Z aU):aT (Z Int):=
 (mk 1 (false:Bool)<|wrap .i64<|(p0_5.length:Int)+(p0_2.length:Int)).bind λai=>(iI (λ(j:Z Bool×Int)=>(bif decide (j.2<(p1.length:Int))then((idx p1 j.2).bind λaj=>(bif aj.Open then((idx p1 j.2).bind λak=>(gr N p0_5 ak.eB).bind λah=>(idx j.1 ah).bind λbp=>some<|j.1.set (Int.toNat ah) true)else some j.1).bind λal=>some<|.nx (al,wrap .i64<|j.2+1))else(some<|.br (j.1,j.2)):aT (Fl (Z Bool×Int) Empty))) N (ai,0)).bind λan=>an.cs (λ(j:Z Bool×Int)=>(mk 8 (0:Int) (j.1.length:Int)).bind λao=>(iI (λ(aa:Z Int×Int)=>(bif decide (aa.2<(aa.1.length:Int))then((idx aa.1 aa.2).bind λbq=>some<|.nx (aa.1.set (Int.toNat aa.2) aa.2,wrap .i64<|aa.2+1))else(some<|.br (aa.1,aa.2)):aT (Fl (Z Int×Int) Empty))) N (ao,0)).bind λaq=>aq.cs (λ(aa:Z Int×Int)=>(iI (λ(ab:Z Int×Int)=>(bif decide (ab.2<(p0_2.length:Int))then((g9 N p0_7 ab.2).bind λaf=>(iI (λ(ad:Z Int×Int)=>(bif decide (ad.2<(af.length:Int))then(((idx j.1<|wrap .i64<|(p0_5.length:Int)+ab.2).bind λar=>bif(!ar)then((idx af ad.2).bind λau=>(idx j.1 au).bind λav=>some<|!av)else some false).bind λaw=>(bif aw then((idx af ad.2).bind λax=>(gR N ad.1 (wrap .i64<|(p0_5.length:Int)+ab.2) ax).bind λay=>some ay)else some ad.1).bind λaz=>some<|.nx (az,wrap .i64<|ad.2+1))else(some<|.br (ad.1,ad.2)):aT (Fl (Z Int×Int) Empty))) N (ab.1,0)).bind λa0=>a0.cs (λ(ad:Z Int×Int)=>some<|.nx (ad.1,wrap .i64<|ab.2+1))<|λr=>r.elim)else(some<|.br (ab.1,ab.2)):aT (Fl (Z Int×Int) Empty))) N (aa.1,0)).bind λa1=>a1.cs (λ(ab:Z Int×Int)=>(iI (λ(o:Z Int×Int)=>(bif decide (o.2<(p1.length:Int))then(((idx p1 o.2).bind λa2=>bif(!a2.Open)then((idx p1 o.2).bind λa3=>(idx j.1 a3.A).bind λa4=>bif(!a4)then((idx p1 o.2).bind λa5=>(idx j.1 a5.B).bind λa6=>some<|!a6)else some false)else some false).bind λa7=>(bif a7 then((idx p1 o.2).bind λa8=>(idx p1 o.2).bind λa9=>(gR N o.1 a8.A a9.B).bind λba=>some ba)else some o.1).bind λbb=>some<|.nx (bb,wrap .i64<|o.2+1))else(some<|.br (o.1,o.2)):aT (Fl (Z Int×Int) Empty))) N (ab.1,0)).bind λbc=>bc.cs (λ(o:Z Int×Int)=>(iI (λ(ae:Z Int×Int)=>(bif decide (ae.2<(p0_3.length:Int))then((idx p0_3 ae.2).bind λbd=>(gC N p0_2 p0_4 p0_5 bd).bind λag=>(bif(!ag.2)then some true else((gr N p0_5 ag.1).bind λbf=>(idx j.1 bf).bind λbg=>some bg)).bind λbh=>(bif bh then((app 8 ae.1 ([(-1)]:Z Int)).bind λbj=>some bj)else((gr N p0_5 ag.1).bind λbk=>(idx o.1 bk).bind λbl=>(app 8 ae.1 ([bl]:Z Int)).bind λbm=>some bm)).bind λbn=>some<|.nx (bn,wrap .i64<|ae.2+1))else(some<|.br (ae.1,ae.2)):aT (Fl (Z Int×Int) Empty))) N (([]:Z Int),0)).bind λbo=>bo.cs (λ(ae:Z Int×Int)=>some ae.1)<|λr=>r.elim)<|λr=>r.elim)<|λr=>r.elim)<|λr=>r.elim)<|λr=>r.elim
def fY(N:Nat)(p0:Z Int)(p1 p2:Int):aT Bool:=
 ((idx p0 p1).bind λj=>bif j>=0 then((idx p0 p1).bind λo=>(idx p0 p2).bind λaa=>some<|o==aa)else some false).bind λab=>some ab
def iz(N:Nat)(p0_0:Z (Z aF))(p0_1:Z aF)(p0_2:Z bV)(p0_3:Z dA)(p0_4:Z Int)(p0_5:Z (Z aF))(p0_7:Z (Z Int))(p1:Z Test)(p2:Z aU):aT (Z Bool):=
 (fR N p0_2 p0_3 p0_4 p0_5 p0_7 p2).bind λo=>(iI (λ(j:Z Int×Z Bool×Int)=>(bif decide (j.2.2<(p1.length:Int))then((idx p1 j.2.2).bind λaa=>(idx p1 j.2.2).bind λab=>(fE N (⟨p0_0,p0_1,p0_2,p0_3⟩:gZ) aa.A).bind λad=>(fE N (⟨p0_0,p0_1,p0_2,p0_3⟩:gZ) ab.B).bind λae=>(fY N j.1 ad ae).bind λaf=>(app 1 j.2.1 ([af]:Z Bool)).bind λag=>some<|.nx (j.1,ag,wrap .i64<|j.2.2+1))else(some<|.br (j.1,j.2.1,j.2.2)):aT (Fl (Z Int×Z Bool×Int) Empty))) N (o,([]:Z Bool),0)).bind λah=>ah.cs (λ(j:Z Int×Z Bool×Int)=>some j.2.1)<|λr=>r.elim
def fZ(N:Nat)(p0:Z Bool)(p1:Z Bool):aT Bool:=
 bif(p0.length:Int) != (p1.length:Int)then some false else((iI (λ(j:Int)=>(bif decide (j<(p0.length:Int))then((idx p0 j).bind λo=>(idx p1 j).bind λaa=>bif o != aa then some (.rt false)else some (.nx<|wrap .i64<|j+1))else(some<|.br j):aT (Fl Int Bool))) N 0).bind λab=>ab.cs (λ(j:Int)=>some true)<|λr=>some r)
def iA(N:Nat)(p0:gZ)(p1:Z Test)(p2:Z Bool)(p3:Int):aT (Z aU×Int):=
 (dC N p0 p1).bind λab=>(gQ N ab p0 p3).bind λo=>E3 o.1 (bif o.2.2 != 0 then some (([]:Z aU),o.2.2)else(bif(p2.length:Int) != (p1.length:Int)then some (([]:Z aU),3)else((iI (λ(ad:Unit)=>(bif decide (0<(o.2.1.length:Int))then none else(some<|.br ()):aT (Fl Unit Empty))) N ()).bind λae=>ae.cs (λ(ad:Unit)=>some (([]:Z aU),0))<|λr=>r.elim))) (λ(aa:(Z (Z aF)×Z aF×Z bV×Z dA×Z Int×Z (Z aF)×Z bZ×Z (Z Int)))=>bif o.2.2 != 0 then some (([]:Z aU),o.2.2)else(bif(p2.length:Int) != (p1.length:Int)then some (([]:Z aU),3)else((iI (λ(j:Z aU×Z aU×Int)=>(bif decide (j.2.2<(j.1.length:Int))then((vC j.1 j.2.2<|wrap .i64<|j.2.2+1).bind λaf=>(iz N aa.1 aa.2.1 aa.2.2.1 aa.2.2.2.1 aa.2.2.2.2.1 aa.2.2.2.2.2.1 aa.2.2.2.2.2.2.2 p1 af).bind λag=>(fZ N ag p2).bind λah=>(bif ah then((idx j.1 j.2.2).bind λai=>(app 40 j.2.1 ([ai]:Z aU)).bind λaj=>some aj)else some j.2.1).bind λak=>some<|.nx (j.1,ak,wrap .i64<|j.2.2+1))else(some<|.br (j.1,j.2.1,j.2.2)):aT (Fl (Z aU×Z aU×Int) Empty))) N (o.2.1,([]:Z aU),0)).bind λal=>al.cs (λ(j:Z aU×Z aU×Int)=>some (j.2.1,0))<|λr=>r.elim)))
def tf(N:Nat)(p0:Z Int)(p1:Z Int):aT Bool:=
 (vA p0.length (λ(j:Nat)(ab:Unit)=>((idx p0 (j:Int)).bind λo=>(idx p1 (j:Int)).bind λaa=>(bif o<0 then some (j:Int)else some o).bind λad=>(bif aa<0 then some (j:Int)else some aa).bind λae=>bif ad != ae then some (.rt false)else(some<|.nx ()):aT (Fl Unit Bool))) ()).bind λaf=>af.cs (λ(ab:Unit)=>some true)<|λr=>some r
def kx(N:Nat)(p0:gZ)(p1:Z Test)(p2:Int):aT (Z cP×Z Bool×Int):=
 (kh N p0 p1).bind λaa=>E3 aa.1 (bif aa.2 != 0 then some (([]:Z cP),([]:Z Bool),aa.2)else none) (λ(j:(Z (Z aF)×Z aF×Z bV×Z dA×Z (Z aA)×Z aD×Z (Z Int)×Z bZ×Z Int×Z Int×Z Int×Z eB))=>bif aa.2 != 0 then some (([]:Z cP),([]:Z Bool),aa.2)else((pA N j.1 j.2.1 j.2.2.1 j.2.2.2.1 j.2.2.2.2.1 j.2.2.2.2.2.1 j.2.2.2.2.2.2.1 j.2.2.2.2.2.2.2.1 j.2.2.2.2.2.2.2.2.1 j.2.2.2.2.2.2.2.2.2.1 j.2.2.2.2.2.2.2.2.2.2.1 j.2.2.2.2.2.2.2.2.2.2.2 p2).bind λab=>bif ab.2 != 0 then some (([]:Z cP),([]:Z Bool),ab.2)else((fD N j.2.2.1 j.2.2.2.1 j.2.2.2.2.2.1 j.2.2.2.2.2.2.1 j.2.2.2.2.2.2.2.2.2.2.1 j.2.2.2.2.2.2.2.2.2.2.2 ([]:Z aU)).bind λae=>(k9 ab.1.length (λ(af:Nat)(o:Z Int×Z cP)=>((idx ab.1 (af:Int)).bind λad=>(fD N j.2.2.1 j.2.2.2.1 j.2.2.2.2.2.1 j.2.2.2.2.2.2.1 j.2.2.2.2.2.2.2.2.2.2.1 j.2.2.2.2.2.2.2.2.2.2.2 ([ad]:Z aU)).bind λag=>(tf N ag o.1).bind λah=>(bif(!ah)then((m9 N j.1 j.2.1 j.2.2.1 j.2.2.2.1 j.2.2.2.2.2.1 j.2.2.2.2.2.2.1 j.2.2.2.2.2.2.2.2.2.2.1 j.2.2.2.2.2.2.2.2.2.2.2 p1 ([ad]:Z aU)).bind λai=>(app 64 o.2 ([(⟨ad,ai⟩:cP)]:Z cP)).bind λaj=>some aj)else some o.2).bind λak=>some (o.1,ak):aT (Z Int×Z cP))) (ae,([]:Z cP))).bind λo=>(m9 N j.1 j.2.1 j.2.2.1 j.2.2.2.1 j.2.2.2.2.2.1 j.2.2.2.2.2.2.1 j.2.2.2.2.2.2.2.2.2.2.1 j.2.2.2.2.2.2.2.2.2.2.2 p1 ([]:Z aU)).bind λal=>some (o.2,al,0))))
def kH(N:Nat)(p0:gZ)(p1:Z Test)(p2:Int):aT (Z (Z aU)×Int):=
 (kx N p0 p1 p2).bind λab=>bif ab.2.2 != 0 then some (([]:Z (Z aU)),ab.2.2)else((k9 ab.1.length (λ(ae:Nat)(j:Z Bool×Z (eJ×Int)×Z (Z aU))=>((idx ab.1 (ae:Int)).bind λad=>(kQ N ad.wH j.1).bind λaf=>bif af then some (j.1,j.2.1,j.2.2)else((k9 ad.wH.length (λ(ag:Nat)(aa:Z UInt8)=>((idx ad.wH (ag:Int)).bind λah=>(bif ah then((app 1 aa ([121]:Z UInt8)).bind λai=>some ai)else((app 1 aa ([110]:Z UInt8)).bind λaj=>some aj)).bind λak=>some ak:aT (Z UInt8))) ([]:Z UInt8)).bind λaa=>(bif(!(kL j.2.1 (⟨aa⟩:eJ)))then((app 24 j.2.2 [([]:Z aU)]).bind λal=>some (r8 j.2.1 (⟨aa⟩:eJ) (j.2.2.length:Int),al,(j.2.2.length:Int)))else some (j.2.1,j.2.2,fH j.2.1 (⟨aa⟩:eJ) (0:Int))).bind λo=>(idx o.2.1 o.2.2).bind λan=>(app 40 an ([ad.Em]:Z aU)).bind λao=>(idx o.2.1 o.2.2).bind λaq=>some (j.1,o.1,o.2.1.set (Int.toNat o.2.2) ao)):aT (Z Bool×Z (eJ×Int)×Z (Z aU)))) (ab.2.1,([]:Z (eJ×Int)),([]:Z (Z aU)))).bind λj=>some (j.2.2,0))
def jA(N:Nat)(p0_2:Z bV)(p0_3:Z dA)(p0_4:Z Int)(p0_5:Z (Z aF))(p0_7:Z (Z Int))(p1:aU):aT Bool:=
 (fR N p0_2 p0_3 p0_4 p0_5 p0_7 ([]:Z aU)).bind λaa=>(fR N p0_2 p0_3 p0_4 p0_5 p0_7 ([p1]:Z aU)).bind λab=>(iI (λ(j:Z Int×Z Int×Int)=>(bif decide (j.2.2<(j.1.length:Int))then((iI (λ(o:Int)=>(bif o<j.2.2 then((fY N j.1 j.2.2 o).bind λad=>(fY N j.2.1 j.2.2 o).bind λae=>bif ad != ae then some (.rt false)else some (.nx<|wrap .i64<|o+1))else(some<|.br o):aT (Fl Int Bool))) N 0).bind λaf=>af.cs (λ(o:Int)=>some<|.nx (j.1,j.2.1,wrap .i64<|j.2.2+1))<|λr=>some<|.rt r)else(some<|.br (j.1,j.2.1,j.2.2)):aT (Fl (Z Int×Z Int×Int) Bool))) N (aa,ab,0)).bind λag=>ag.cs (λ(j:Z Int×Z Int×Int)=>some true)<|λr=>some r
def jX(N:Nat)(p0_2:Z bV)(p0_3:Z dA)(p0_4:Z Int)(p0_5:Z (Z aF))(p0_7:Z (Z Int))(p1:Z aU):aT (Z aU):=
 (iI (λ(j:Z aU×Int)=>(bif decide (j.2<(p1.length:Int))then((idx p1 j.2).bind λo=>(jA N p0_2 p0_3 p0_4 p0_5 p0_7 o).bind λaa=>(bif(!aa)then((idx p1 j.2).bind λab=>(app 40 j.1 ([ab]:Z aU)).bind λad=>some ad)else some j.1).bind λae=>some<|.nx (ae,wrap .i64<|j.2+1))else(some<|.br (j.1,j.2)):aT (Fl (Z aU×Int) Empty))) N (([]:Z aU),0)).bind λaf=>af.cs (λ(j:Z aU×Int)=>some j.1)<|λr=>r.elim
def fu(N:Nat)(p0:gZ)(p1:Z Test)(p2:Int):aT (Z (Z aU)×Int):=
 (dC N p0 p1).bind λaf=>(gQ N af p0 p2).bind λab=>E3 ab.1 (bif ab.2.2 != 0 then some (([]:Z (Z aU)),ab.2.2)else none) (λ(o:(Z (Z aF)×Z aF×Z bV×Z dA×Z Int×Z (Z aF)×Z bZ×Z (Z Int)))=>bif ab.2.2 != 0 then some (([]:Z (Z aU)),ab.2.2)else((iz N o.1 o.2.1 o.2.2.1 o.2.2.2.1 o.2.2.2.2.1 o.2.2.2.2.2.1 o.2.2.2.2.2.2.2 p1 ([]:Z aU)).bind λag=>(jX N o.2.2.1 o.2.2.2.1 o.2.2.2.2.1 o.2.2.2.2.2.1 o.2.2.2.2.2.2.2 ab.2.1).bind λah=>(iI (λ(j:Z Bool×Z aU×Z (Z aU)×Z (Z Bool)×Int)=>(bif decide (j.2.2.2.2<(j.2.1.length:Int))then((vC j.2.1 j.2.2.2.2<|wrap .i64<|j.2.2.2.2+1).bind λai=>(iz N o.1 o.2.1 o.2.2.1 o.2.2.2.1 o.2.2.2.2.1 o.2.2.2.2.2.1 o.2.2.2.2.2.2.2 p1 ai).bind λae=>(fZ N ae j.1).bind λaj=>bif aj then some (.nx (j.1,j.2.1,j.2.2.1,j.2.2.2.1,wrap .i64<|j.2.2.2.2+1))else((iI (λ(aa:Int)=>((bif decide (aa<(j.2.2.2.1.length:Int))then((idx j.2.2.2.1 aa).bind λak=>(fZ N ak ae).bind λal=>some<|!al)else some false).bind λan=>bif an then some (.nx<|wrap .i64<|aa+1)else(some<|.br aa):aT (Fl Int Empty))) N 0).bind λao=>ao.cs (λ(aa:Int)=>(bif aa==(j.2.2.2.1.length:Int)then((app 24 j.2.2.2.1 ([ae]:Z (Z Bool))).bind λaq=>(app 24 j.2.2.1 [([]:Z aU)]).bind λar=>some (ar,aq))else some (j.2.2.1,j.2.2.2.1)).bind λad=>(idx ad.1 aa).bind λau=>(idx j.2.1 j.2.2.2.2).bind λav=>(app 40 au ([av]:Z aU)).bind λaw=>(idx ad.1 aa).bind λay=>some<|.nx (j.1,j.2.1,ad.1.set (Int.toNat aa) aw,ad.2,wrap .i64<|j.2.2.2.2+1))<|λr=>r.elim))else(some<|.br (j.1,j.2.1,j.2.2.1,j.2.2.2.1,j.2.2.2.2)):aT (Fl (Z Bool×Z aU×Z (Z aU)×Z (Z Bool)×Int) Empty))) N (ag,ah,([]:Z (Z aU)),([]:Z (Z Bool)),0)).bind λax=>ax.cs (λ(j:Z Bool×Z aU×Z (Z aU)×Z (Z Bool)×Int)=>some (j.2.2.1,0))<|λr=>r.elim))
def mw(N:Nat)(p0:Z aU)(p1:Z aU):aT Bool:=
 bif(p0.length:Int) != (p1.length:Int)then some false else((vA p0.length (λ(j:Nat)(o:Unit)=>((idx p0 (j:Int)).bind λaa=>(idx p1 (j:Int)).bind λab=>bif(!(decide<|aa=ab))then some (.rt false)else(some<|.nx ()):aT (Fl Unit Bool))) ()).bind λad=>ad.cs (λ(o:Unit)=>some true)<|λr=>some r)
def gk(N:Nat)(p0:Z (Z aU))(p1:Z (Z aU))(p2:Z aU->Z aU->aT Bool):aT Bool:=
 bif(p0.length:Int) != (p1.length:Int)then some false else((vA p0.length (λ(j:Nat)(o:Unit)=>((idx p0 (j:Int)).bind λaa=>(idx p1 (j:Int)).bind λab=>(p2 aa ab).bind λad=>bif(!ad)then some (.rt false)else(some<|.nx ()):aT (Fl Unit Bool))) ()).bind λae=>ae.cs (λ(o:Unit)=>some true)<|λr=>some r)
def gO(N:Nat)(p0:Z aU)(p1:Z aU):aT Bool:=
 (mw N p0 p1).bind λj=>some j
def lk(N:Nat)(p0:Int)(p1h_5:Z aD):aT Bool:=
 (pz N p0 0<|wrap .i64<|(p1h_5.length:Int) - 1).bind λj=>some j
def rG(N:Nat)(p0:Z aU)(p1:aU):aT Int:=
 (vA p0.length (λ(j:Nat)(o:Unit)=>((idx p0 (j:Int)).bind λaa=>bif p1=aa then some (.rt (j:Int))else(some<|.nx ()):aT (Fl Unit Int))) ()).bind λab=>ab.cs (λ(o:Unit)=>some<|-1)<|λr=>some r
def oQ(N:Nat)(p0:Z aU)(p1:aU):aT Bool:=
 (rG N p0 p1).bind λj=>some<|decide<|j>=0
def pB(N:Nat)(p0_0:Z (Z aF))(p0_1:Z aF)(p0_2:Z bV)(p0_3:Z dA)(p0_4:Z (Z aA))(p0_5:Z aD)(p0_6:Z (Z Int))(p0_7:Z bZ)(p0_8:Z Int)(p0_9:Z Int)(p0_10:Z Int)(p0_11:Z eB)(p1:Z aU):aT Int:=
 bif decide ((p1.length:Int)>20)then some 2 else((vA p1.length (λ(o:Nat)(aa:Unit)=>((idx p1 (o:Int)).bind λj=>(bif j.Open&&((j.A != 0)||(j.B != 0))then some true else(bif(!j.Open)then some (!(decide<|j.eB=(⟨false,0⟩:eB)))else some false)).bind λab=>bif ab then some (.rt 3)else(((lk N j.A p0_5).bind λad=>bif ad then((lk N j.B p0_5).bind λae=>some ae)else some false).bind λaf=>(bif j.Open then((lk N j.eB.Number p0_5).bind λag=>some ag)else some af).bind λah=>(bif j.Open&&j.eB.bV then(((pz N j.eB.Number 0<|wrap .i64<|(p0_2.length:Int) - 1).bind λai=>bif ai then((idx p0_2 j.eB.Number).bind λaj=>some aj.fM)else some false).bind λak=>some ak)else some ah).bind λal=>bif(!al)then some (.rt 9)else(bif(!j.Open)&&decide (j.B<=j.A)then some (.rt 8)else((vC p1 0 (o:Int)).bind λan=>(oQ N an j).bind λao=>bif ao then some (.rt 7)else some (.nx ())))):aT (Fl Unit Int))) ()).bind λaq=>aq.cs (λ(aa:Unit)=>some 0)<|λr=>some r)
def k7(N:Nat)(p0:gZ)(p1:Z aU)(p2 p3:eK):aT (Bool×Int):=
 (jq N p0).bind λo=>E3 o.1 (bif o.2 != 0 then some (false,o.2)else none) (λ(j:(Z (Z aF)×Z aF×Z bV×Z dA×Z (Z aA)×Z aD×Z (Z Int)×Z bZ×Z Int×Z Int×Z Int×Z eB))=>bif o.2 != 0 then some (false,o.2)else((pB N j.1 j.2.1 j.2.2.1 j.2.2.2.1 j.2.2.2.2.1 j.2.2.2.2.2.1 j.2.2.2.2.2.2.1 j.2.2.2.2.2.2.2.1 j.2.2.2.2.2.2.2.2.1 j.2.2.2.2.2.2.2.2.2.1 j.2.2.2.2.2.2.2.2.2.2.1 j.2.2.2.2.2.2.2.2.2.2.2 p1).bind λad=>bif ad != 0 then some (false,ad)else((fX N p0 p2).bind λaa=>(fX N p0 p3).bind λae=>bif decide (aa<0)||decide (ae<0)then some (false,9)else((fD N j.2.2.1 j.2.2.2.1 j.2.2.2.2.2.1 j.2.2.2.2.2.2.1 j.2.2.2.2.2.2.2.2.2.2.1 j.2.2.2.2.2.2.2.2.2.2.2 p1).bind λab=>((idx ab aa).bind λaf=>bif af>=0 then((idx ab aa).bind λag=>(idx ab ae).bind λah=>some<|ag==ah)else some false).bind λai=>some (ai,0)))))
def kI(N:Nat):aT Bool:=
 (k7 N (⟨([([(⟨0,0,1,1⟩:aF)]:Z aF)]:Z (Z aF)),([]:Z aF),([]:Z bV),([(⟨⟨[97]⟩,⟨[49]⟩,0,⟨0,0⟩⟩:dA)]:Z dA)⟩:gZ) ([]:Z aU) (⟨⟨[97]⟩,⟨[49]⟩⟩:eK) (⟨⟨[97]⟩,⟨[49]⟩⟩:eK)).bind λj=>some<|(j.2==0)&&j.1
def fS(N:Nat)(p0:gZ)(p1:Z Test)(p2:Z Bool)(p3:Int):aT Bool:=
 (qU N p0 p1 p2 p3).bind λj=>(iA N p0 p1 p2 p3).bind λo=>(kH N p0 p1 p3).bind λaa=>(fu N p0 p1 p3).bind λab=>((mw N j.1 o.1).bind λad=>bif ad&&(j.2==o.2)then((gk N aa.1 ab.1<|gO N).bind λae=>bif ae&&(aa.2==ab.2)then((kI N).bind λaf=>some af)else some false)else some false).bind λag=>some ag
end
def rQ{R:Type}(m:Nat)(e:Nat->aT R):aT R:=(List.range m).findSome? e
theorem j7{R:Type}{m:Nat}{e:Nat->aT R}:rQ m e=none↔∀k,k<m->e k=none:=by
 simp[rQ]
theorem km{R:Type}{m:Nat}{e:Nat->aT R}{r:R}:rQ m e=some r↔∃k,k<m/\e k=some r/\∀j,j<k->e j=none:=by
 constructor
 ·intro h;obtain⟨l1,a,l2,hl,ha,hn⟩:=List.findSome?_eq_some_iff.1 h;have hlen:l1.length<m:=by have:=congrArg List.length hl;grind
  have hget:∀i,i<l1.length->l1[i]? =some i:=λi hi=>by
   have:=congrArg (·[i]?) hl
   grind
  have hat:a=l1.length:=by
   have:=congrArg (·[l1.length]?) hl
   grind
  grind
 ·rintro⟨k,hk,he,hn⟩;refine List.findSome?_eq_some_iff.2 ⟨List.range k,k,(List.range<|m - k - 1).map (· +(k+1)),?_,he,λx hx=>hn x<|nb.1 hx⟩;refine List.ext_getElem? λi=>?_
  by_cases h1:i<k
  ·grind
  ·rw[jO (by grind),List.length_range]
   by_cases h2:i=k
   all_goals grind
theorem Oj{R R':Type}{m:Nat}{e:Nat->aT R}(f:R->R'):(rQ m e).map f=rQ m (λk=>(e k).map f):=by
 cases hx:rQ m e with
 |none=>grind [j7]
 |some r=>
  grind [km]
section
variable {S R:Type}
def Nb(o:aT R)(s:S):Fl S R:=match o with|some r=> .rt r|none=> .nx s
def Lv(o:aT R)(s:S):Fo S R:=match o with|some r=> .rt r|none=> .go s
theorem JZ{body:Nat->S->aT (Fl S R)}(F:Nat->S)(e:Nat->aT R)(m:Nat):∀(n k:Nat),k+n=m->
  (∀j,k<=j->j<m->(∀i,k<=i->i<j->e i=none)->body j (F j)=some (Nb (e j)<|F<|j+1))->
  ∃o,H6 body n k (F k)=some o/\((∀j,k<=j->j<m->e j=none)/\o = .go (F m)\/∃j r,k<=j/\j<m/\e j=some r/\(∀i,k<=i->i<j->e i=none)/\o = .rt r)
 | 0,k,hk,_=>⟨_,rfl, .inl ⟨λj h1 h2=>by omega,by grind⟩⟩
 |n+1,k,hk,h=>by
  have hb:=h k (cJ _) (by omega) (λi h1 h2=>by omega);unfold H6;rw[hb]
  cases hx:e k with
  |some r=>exact⟨_,rfl, .inr ⟨k,r,cJ _,by omega,hx,λi h1 h2=>by omega,rfl⟩⟩
  |none=>
   obtain⟨o,ho,hc⟩:=JZ F e m n (k+1) (by omega) (λj h1 h2 h3=>h j (by omega) h2 λi h4 h5=>by
    grind)
   refine⟨o,ho,?_⟩
   rcases hc with⟨h1,h2⟩|⟨j,r,h1,h2,h3,h4,h5⟩
   ·refine .inl ⟨λj h3 h4=>?_,h2⟩
    by_cases h6:j=k
    ·subst h6;exact hx
    ·exact h1 j (by omega) h4
   ·refine .inr ⟨j,r,by omega,h2,h3,λi h6 h7=>?_,h5⟩
    by_cases h8:i=k
    ·subst h8;exact hx
    ·exact h4 i (by omega) h7
theorem PU{body:Nat->S->aT (Fl S R)}{m:Nat}{s:S}(F:Nat->S)(e:Nat->aT R)(hm:m<=4611686018427387904)(hs:F 0=s)
  (h:∀k,k<m->(∀i,i<k->e i=none)->body k (F k)=some (Nb (e k)<|F<|k+1)):vA m body s=some (Lv (rQ m e)<|F m):=by
 subst hs;unfold vA;rw[aH hm];obtain⟨o,ho,hc⟩:=JZ F e m m 0 (by omega)<|λj _ h2 h3=>h j h2 λi hi=>h3 i (cO _) hi
 rw[ho]
 rcases hc with⟨h1,h2⟩|⟨j,r,_,h2,h3,h4,h5⟩
 ·rw[j7.2 λk hk=>h1 k (cO _) hk,h2];rfl
 ·rw[km.2 ⟨j,h2,h3,λi hi=>h4 i (cO _) hi⟩,h5];rfl
theorem qm{body:Nat->Unit->aT (Fl Unit R)}{m:Nat}(e:Nat->aT R)(hm:m<=4611686018427387904)
  (h:∀k,k<m->(∀i,i<k->e i=none)->body k ()=some (Nb (e k) ())):vA m body ()=some (Lv (rQ m e) ()):=
 PU (λ_=>()) e hm rfl h
theorem J0{body:Nat->S->aT S}(F:Nat->S):∀(n k:Nat),(∀j,k<=j->j<k+n->body j (F j)=some (F<|j+1))->Lb body n k (F k)=some (F<|k+n)
 | 0,_,_=>rfl
 |n+1,k,h=>by
  unfold Lb;rw[h k (cJ _) (by omega)];have:=J0 F n (k+1)<|λj h1 h2=>h j (by omega) (by omega)
  rw[show k+(n+1)=k+1+n by omega];exact this
theorem z5{body:Nat->S->aT S}{m:Nat}{s:S}(F:Nat->S)(hm:m<=4611686018427387904)(hs:F 0=s)
  (h:∀k,k<m->body k (F k)=some (F<|k+1)):k9 m body s=some (F m):=by
 subst hs
 simp_all[k9,aH,J0,jR]
theorem Ck{body:S->aT (Fl S R)}(Inv:S->Prop)(μ:S->Nat)(Go:S->Prop)(Rt:R->Prop)
  (h:∀s,Inv s->∃fl,body s=some fl/\match fl with| .nx s'=>Inv s'/\μ s'<μ s| .br s'=>Go s'| .rt r=>Rt r):
  ∀(N:Nat)(s:S),Inv s->μ s<N->∃o,iI body N s=some o/\match o with| .go s'=>Go s'| .rt r=>Rt r
 | 0,s,_,hn=>by omega
 |N+1,s,hi,hn=>by
  obtain⟨fl,hb,hf⟩:=h s hi;unfold iI;rw[hb]
  cases fl with
  |nx s'=>exact Ck Inv μ Go Rt h N s' hf.1 (by have:=hf.2;omega)
  |br s'=>exact⟨_,rfl,hf⟩
  |rt r=>exact⟨_,rfl,hf⟩
theorem J3{body:Nat->S->aT (Fl S R)}(Inv:Nat->S->Prop)(Go:S->Prop)(Rt:R->Prop)(m:Nat)
  (h:∀k s,k<m->Inv k s->∃fl,body k s=some fl/\match fl with| .nx s'=>Inv (k+1) s'| .br s'=>Go s'| .rt r=>Rt r) (hg:∀s,Inv m s->Go s):
  ∀(n k:Nat)(s:S),k+n=m->Inv k s->∃o,H6 body n k s=some o/\match o with| .go s'=>Go s'| .rt r=>Rt r
 | 0,k,s,hk,hi=>⟨_,rfl,hg s (by rw[<-hk];exact hi)⟩
 |n+1,k,s,hk,hi=>by
  obtain⟨fl,hb,hf⟩:=h k s (by omega) hi;unfold H6;rw[hb]
  cases fl with
  |nx s'=>exact J3 Inv Go Rt m h hg n (k+1) s' (by omega) hf
  |br s'=>exact⟨_,rfl,hf⟩
  |rt r=>exact⟨_,rfl,hf⟩
theorem PV{body:Nat->S->aT (Fl S R)}{m:Nat}{s:S}(Inv:Nat->S->Prop)(Go:S->Prop)(Rt:R->Prop)(hm:m<=4611686018427387904)(h0:Inv 0 s)
  (h:∀k s,k<m->Inv k s->∃fl,body k s=some fl/\match fl with| .nx s'=>Inv (k+1) s'| .br s'=>Go s'| .rt r=>Rt r) (hg:∀s,Inv m s->Go s):
  ∃o,vA m body s=some o/\match o with| .go s'=>Go s'| .rt r=>Rt r:=by
 unfold vA;rw[aH hm];exact J3 Inv Go Rt m h hg m 0 s (by omega) h0
theorem J4{body:Nat->S->aT S}(Inv:Nat->S->Prop)(m:Nat)(h:∀k s,k<m->Inv k s->∃s',body k s=some s'/\Inv (k+1) s'):
  ∀(n k:Nat)(s:S),k+n=m->Inv k s->∃s',Lb body n k s=some s'/\Inv m s'
 | 0,k,s,hk,hi=>⟨_,rfl,by grind⟩
 |n+1,k,s,hk,hi=>by
  obtain⟨s',hb,hf⟩:=h k s (by omega) hi;unfold Lb;rw[hb];exact J4 Inv m h n (k+1) s' (by omega) hf
theorem EO{body:Nat->S->aT S}{m:Nat}{s:S}(Inv:Nat->S->Prop)(hm:m<=4611686018427387904)(h0:Inv 0 s)
  (h:∀k s,k<m->Inv k s->∃s',body k s=some s'/\Inv (k+1) s'):∃s',k9 m body s=some s'/\Inv m s':=by
 simp_all[k9,aH,J4]
end
section
variable {α β:Type}
theorem aB(x:α)(f:α->aT β):(some x).bind f=f x:=rfl
theorem np(l:Z α)(k:Nat)(h:k<l.length):idx l (k:Int)=some l[k]:=by
 unfold idx;simp
theorem cB{l:Z α}{k:Nat}{x:α}(h:l[k]? =some x):idx l (k:Int)=some x:=by
 grind [idx,cK]
theorem J5(s:eJ)(k:Nat)(h:k<s.dV.length):Le s (k:Int)=some s.dV[k]:=by
 unfold Le;simp
theorem jB{k:Nat}(h:0<k)(hk:k<=4611686018427387904):wrap .i64 ((k:Int) - 1)=((k - 1:Nat):Int):=by
 grind [gF]
theorem uX(l:Z α)(k:Nat)(h:k<=l.length):vC l 0 (k:Int)=some (l.take k):=by
 unfold vC;grind
theorem tm(l:Z α)(k:Nat)(h:k<=l.length):vC l (k:Int) (l.length:Int)=some (l.drop k):=by
 grind [vC,cK,Option.some.injEq,nc,mH]
theorem iS{b:Nat}{l ys:Z α}(h:(l.length+ys.length)*b<=140737488355328):app b l ys=some (l++ys):=by grind [app]
theorem pI{b:Nat}(z:α){n:Nat}(h:n*b<=140737488355328):mk b z (n:Int)=some (List.replicate n z):=by
 unfold mk
 grind
end
theorem eJ.ext'{a b:eJ}(h:a.dV=b.dV):a=b:=by cases a;simp_all
theorem Cl{a b:eJ}:a.wD b=true↔a=b:=by
 grind [eJ.wD,eJ.ext']
theorem Mp(a b:eJ):a.wD b=decide (a=b):=by grind [Cl]
theorem DX:∀(a:Z UInt8),Op.bytesLess a a=false
 | []=>rfl
 |a::l=>by
  unfold Op.bytesLess;rw[DX l];simp
theorem Fq:∀{a b c:Z UInt8},Op.bytesLess a b=true->Op.bytesLess b c=true->Op.bytesLess a c=true
 | [],[],_,h,_=>by simp[Op.bytesLess]at h
 | [],_::_,[],_,h=>by simp[Op.bytesLess]at h
 | [],_::_,_::_,_,_=>rfl
 |_::_,[],_,h,_=>by simp[Op.bytesLess]at h
 |_::_,_::_,[],_,h=>by simp[Op.bytesLess]at h
 |a::l,b::m,c::n,h1,h2=>by
  unfold Op.bytesLess at h1 h2 ⊢;simp only[jd,dD,dR,beq_iff_eq]at h1 h2 ⊢
  rcases h1 with h1|⟨rfl,h1⟩
  ·rcases h2 with h2|⟨rfl,h2⟩
   ·exact .inl<|UInt8.lt_trans h1 h2
   ·exact .inl h1
  ·rcases h2 with h2|⟨rfl,h2⟩
   ·exact .inl h2
   ·exact .inr ⟨rfl,Fq h1 h2⟩
theorem Ft:∀(a b:Z UInt8),Op.bytesLess a b=true\/a=b\/Op.bytesLess b a=true
 | [],[]=> .inr (.inl rfl)
 | [],_::_=> .inl rfl
 |_::_,[]=> .inr (.inr rfl)
 |a::l,b::m=>by
  unfold Op.bytesLess;simp only[jd,dD,dR,beq_iff_eq]
  by_cases h1:a<b
  ·exact .inl<|.inl h1
  ·by_cases h2:b<a
   ·exact .inr<|.inr<|.inl h2
   ·have e:a=b:=by
     simp only[UInt8.lt_iff_toNat_lt]at h1 h2;exact UInt8.toNat_inj.1 (by omega)
    subst e
    rcases Ft l m with h|h|h
    ·exact .inl<|.inr ⟨rfl,h⟩
    ·exact .inr<|.inl (by rw[h])
    ·exact .inr<|.inr<|.inr ⟨rfl,h⟩
theorem Bs:∀(a b:Z UInt8),Lib.compareBytes a b<0↔Op.bytesLess a b=true
 | [],[]=>by simp[Lib.compareBytes,Op.bytesLess]
 | [],_::_=>by simp[Lib.compareBytes,Op.bytesLess]
 |_::_,[]=>by simp[Lib.compareBytes,Op.bytesLess]
 |a::l,b::m=>by
  unfold Lib.compareBytes Op.bytesLess;simp only[jd,dD,dR,beq_iff_eq];split
  ·simp_all
  ·rename_i h1;split
   ·rename_i h2;have h3:a≠b:=λe=>by subst e;exact h1 h2
    simp[h1,h3]
   ·rename_i h2;have e:a=b:=by
     simp only[UInt8.lt_iff_toNat_lt]at h1 h2;exact UInt8.toNat_inj.1 (by omega)
    subst e;rw[Bs l m];simp[h1]
theorem Fu:∀(a b:Z UInt8),Lib.compareBytes a b=0↔a=b
 | [],[]=>by simp[Lib.compareBytes]
 | [],_::_=>by simp[Lib.compareBytes]
 |_::_,[]=>by simp[Lib.compareBytes]
 |a::l,b::m=>by
  unfold Lib.compareBytes;split
  ·rename_i h1;have h3:a≠b:=λe=>by subst e;exact absurd h1 (by simp)
   simp[h3]
  ·rename_i h1;split
   ·rename_i h2;have h3:a≠b:=λe=>by subst e;exact h1 h2
    simp[h3]
   ·rename_i h2;have e:a=b:=by
     simp only[UInt8.lt_iff_toNat_lt]at h1 h2;exact UInt8.toNat_inj.1 (by omega)
    subst e;rw[Fu l m];simp
def eJ.lt(a b:eJ):Prop:=a.wg b=true
theorem eJ.lt_irrefl(a:eJ):¬eJ.lt a a:=by simp[eJ.lt,eJ.wg,DX,decide]
theorem eJ.lt_trans{a b c:eJ}(h1:eJ.lt a b)(h2:eJ.lt b c):eJ.lt a c:=Fq h1 h2
theorem eJ.J6(a b:eJ):eJ.lt a b\/a=b\/eJ.lt b a:=by
 rcases Ft a.dV b.dV with h|h|h
 ·exact .inl h
 ·grind [eJ.ext']
 ·exact .inr<|.inr h
theorem eJ.Q7{a b:eJ}(h:eJ.lt a b):a≠b:=by grind [eJ.lt_irrefl]
end Go.Gk
namespace Go.Gk
open Go IntKind
class Bk (α:Type)where
 bk:α->Nat
 pos:∀x,1<=bk x
def bk{α:Type}[Bk α](x:α):Nat:=Bk.bk x
theorem Ol{α:Type}[Bk α](x:α):1<=bk x:=Bk.pos x
instance:Bk eJ:=⟨λs=>s.dV.length+1,λ_=>by omega⟩
instance:Bk Int:=⟨λ_=>1,λ_=>by omega⟩
instance:Bk Bool:=⟨λ_=>1,λ_=>by omega⟩
instance {α:Type} [Bk α]:Bk (Z α):=⟨λl=>(l.map bk).sum+1,λ_=>by omega⟩
theorem Om{α:Type}[Bk α]:bk ([]:Z α)=1:=rfl
theorem Iu{α:Type}[Bk α](x:α)(l:Z α):bk (x::l)=bk x+bk l:=by
 rfl
theorem Lw{α:Type}[Bk α]:∀{l:Z α}{x:α},x∈l->bk x+1<=bk l
 |y::l,x,h=>by
  rw[Iu]
  rcases fJ.1 h with h|h
  ·subst h;have:=Ol l;omega
  ·have:=Lw h;omega
theorem Bt{α:Type}[Bk α]:∀(l:Z α),l.length+1<=bk l
 | []=>by rw[Om];simp
 |x::l=>by rw[Iu,dX];have:=Bt l;have:=Ol x;omega
theorem R4(s:eJ):bk s=s.dV.length+1:=rfl
section
variable {α R:Type}
theorem Nc{l:Z α}{e:Nat->aT R}(f:α->aT R)(h:∀k x,l[k]? =some x->e k=f x):rQ l.length e=l.findSome? f:=by
 cases hx:rQ l.length e with
 |none=>
  grind [List.findSome?_eq_none_iff,dZ,j7,bS]
 |some r=>
  obtain⟨k,hk,he,hn⟩:=km.1 hx;refine(List.findSome?_eq_some_iff.2 ⟨l.take k,l[k],l.drop<|k+1,?_,?_,λy hy=>?_⟩).symm
  ·simp
  ·grind
  grind [dZ,bS,dO,List.getElem?_take_of_lt]
theorem Iv(l:Z α)(p:α->Bool)(r:R):l.findSome? (λx=>if p x=true then some r else none)=if l.any p=true then some r else none:=by
 induction l with
 |nil=>simp
 |cons x l ih=>
  grind
theorem Cm{l:Z α}{body:Nat->Unit->aT (Fl Unit R)}(f:α->aT R)(hl:l.length<=4611686018427387904)
  (h:∀k x,l[k]? =some x->body k ()=some (Nb (f x) ())):vA l.length body ()=some (Lv (l.findSome? f) ()):=by
 have h2:=qm (body:=body) (m:=l.length) (λk=>(l[k]?).bind f) hl (λk hk _=>by
  grind)
 grind [Nc]
theorem PW{l:Z α}{body:Nat->Unit->aT (Fl Unit R)}(p:α->Bool)(r:R)(hl:l.length<=4611686018427387904)
  (h:∀k x,l[k]? =some x->body k ()=some (if p x=true then .rt r else .nx ())):vA l.length body ()=some (if l.any p=true then .rt r else .go ()):=by
 rw[Cm (λx=>if p x=true then some r else none) hl (λk x hx=>by rw[h k x hx];cases p x <;> rfl),Iv]
 cases l.any p <;> rfl
end
theorem PX{β:Type}(b:Bool)(x y:β):(bif b then some x else some y)=some (bif b then x else y):=by grind
section
variable {α β:Type}
def Nd(l:Z α)(p:α->Bool):Int:=match l.findIdx? p with|some k=>(k:Int)|none=> -1
theorem J7{l:Z α}{p:α->Bool}(h:l.any p=false):Nd l p = -1:=by
 unfold Nd
 grind
theorem J8{l:Z α}{p:α->Bool}{k:Nat}{x:α}(hk:l[k]? =some x)(hp:p x=true)(hn:∀j y,j<k->l[j]? =some y->p y=false):Nd l p=(k:Int):=by
 unfold Nd;have hlt:=(bS.1 hk).1;have:l.findIdx? p=some k:=by
  rw[List.findIdx?_eq_some_iff_getElem]
  grind
 rw[this]
theorem z6(l:Z α)(p:α->Bool):(Nd l p = -1/\∀x∈l,p x=false)\/∃k x,Nd l p=((k:Nat):Int)/\l[k]? =some x/\p x=true/\∀j y,j<k->l[j]? =some y->p y=false:=by
 unfold Nd
 cases h:l.findIdx? p with
 |none=>grind
 |some k=>
  grind [List.findIdx?_eq_some_iff_getElem,aM]
theorem R5(l:Z α)(p:α->Bool):decide (Nd l p>=0)=l.any p:=by
 grind [z6,List.any_eq_false,decide,l5,gl]
def xN(p0:Z α)(p1:α->aT Bool):aT Int:=
 (vA p0.length (λ(k1:Nat)(_:Unit)=>((idx p0 (k1:Int)).bind λx7=>(p1 x7).bind λx10=>bif x10 then some (.rt (k1:Int))else(some<|.nx ()):aT (Fl Unit Int))) ()).bind λo11=>o11.cs (λ(_:Unit)=>some<|-1)<|λr=>some r
theorem AW{l:Z α}{φ:α->aT Bool}(p:α->Bool)(hl:l.length<=4611686018427387904)(h:∀x∈l,φ x=some (p x)):xN l φ=some (Nd l p):=by
 unfold xN
 rw[qm (λk=>(l[k]?).bind λx=>if p x=true then some ((k:Nat):Int)else none) hl (λk hk _=>by
  grind [np,aB,cH,aM,Nb]),aB]
 grind [z6,j7,aM,cH,Lv,Fo.cs,km,bS]
def wk(p0:Z α)(p1:α->aT Bool):aT Bool:=
 (xN p0 p1).bind λx1=>some<|decide<|x1>=0
theorem wS{l:Z α}{φ:α->aT Bool}(p:α->Bool)(hl:l.length<=4611686018427387904)(h:∀x∈l,φ x=some (p x)):wk l φ=some (l.any p):=by
 simp_all[wk,AW,aB,R5]
def Lx [DecidableEq α](p0 p1:Z α):aT Bool:=
 bif(p0.length:Int) != (p1.length:Int)then some false else((vA p0.length (λ(k1:Nat)(_:Unit)=>((idx p0 (k1:Int)).bind λx13=>(idx p1 (k1:Int)).bind λx16=>bif(!(decide<|x13=x16))then some (.rt false)else(some<|.nx ()):aT (Fl Unit Bool))) ()).bind λo23=>o23.cs (λ(_:Unit)=>some true)<|λr=>some r)
theorem Df [DecidableEq α]{l m:Z α}(hl:l.length<=4611686018427387904):Lx l m=some (decide<|l=m):=by
 unfold Lx
 by_cases h:l.length=m.length
 ·have e:((l.length:Int) != (m.length:Int))=false:=by rw[h];simp
  rw[e,aQ]
  rw[qm (λk=>if l[k]? =m[k]? then none else some false) hl (λk hk _=>by
   grind [np,aB,aM,Nb]),aB]
  by_cases hx:l=m
  ·grind [j7,Lv,Fo.cs]
  ·have:∃r,rQ l.length (λk=>if l[k]? =m[k]? then none else some false)=some r:=by
    cases hf:rQ l.length (λk=>if l[k]? =m[k]? then none else some false)with
    |some r=>simp
    |none=>
     exfalso;refine hx<|List.ext_getElem? λi=>?_
     grind [j7,List.getElem?_eq_none]
   grind [km,Lv,Fo.cs]
 ·have e:((l.length:Int) != (m.length:Int))=true:=by simp;omega
  rw[e,aP,bY<|λh'=>h (by rw[h'])]
def On(key:α->eJ)(l:Z α):Prop:=∀(i j:Nat)(x y:α),i<j->l[i]? =some x->l[j]? =some y->eJ.lt (key x) (key y)
theorem On.inj{key:α->eJ}{l:Z α}(h:On key l){i j:Nat}{x y:α}(hx:l[i]? =some x)(hy:l[j]? =some y)(e:key x=key y):i=j:=by
 rcases Nat.lt_trichotomy i j with h1|h1|h1
 ·exact absurd e<|eJ.Q7<|h i j x y h1 hx hy
 ·exact h1
 ·exact absurd e.symm<|eJ.Q7<|h j i y x h1 hy hx
def Oo(N:Nat)(p0:Z α)(p1:β)(p2:α->β->aT Int):aT (Int×Bool):=
 (iI (λ(s2:Int×Int)=>(bif s2.1<s2.2 then((idx p0<|wrap .i64<|Int.fdiv (wrap .u64<|wrap .i64<|s2.1+s2.2) 2).bind λx13=>(p2 x13 p1).bind λx16=>(bif x16<0 then some (wrap .i64<|wrap .i64 (Int.fdiv (wrap .u64<|wrap .i64<|s2.1+s2.2) 2)+1,s2.2)else some (s2.1,wrap .i64<|Int.fdiv (wrap .u64<|wrap .i64<|s2.1+s2.2) 2)).bind λs17=>some<|.nx (s17.1,s17.2))else(some<|.br (s2.1,s2.2)):aT (Fl (Int×Int) Empty))) N (0,(p0.length:Int))).bind λo29=>o29.cs (λ(s2:Int×Int)=>(bif decide (s2.1<(p0.length:Int))then((idx p0 s2.1).bind λx25=>(p2 x25 p1).bind λx28=>some<|x28==0)else some false).bind λs23=>some (s2.1,s23))<|λr=>r.elim
theorem Nf{a b:Nat}(h:a<b)(hb:b<=4611686018427387904):wrap .i64 (Int.fdiv (wrap .u64<|wrap .i64<|(a:Int)+(b:Int)) 2)=(((a+b) / 2:Nat):Int):=by
 rw[gF (x:=(a:Int)+(b:Int)) (by omega) (by omega)];have e:wrap .u64 ((a:Int)+(b:Int))=((a+b:Nat):Int):=by
  show((a:Int)+b) % 18446744073709551616=_;omega
 grind [Int.fdiv_eq_ediv_of_nonneg,gF]
end
end Go.Gk
namespace Go.Gk
open Go IntKind Go.ChangeShapes Go.WideShapes Go.RowKit
structure UB (ub:(H:Type)->DataW H->Nat) (ua:(H:Type)->List (DataW H)->Nat):Prop where
 str:∀(H:Type)(b:List UInt8),ub H (.lit<|.string b)=b.length+1
 pos:∀(H:Type)(d:DataW H),1<=ub H d
 sl:∀(H:Type)(e s:List (DataW H)),ub H (.slice e s)=ua H e+ua H s+1
 ag:∀(H:Type)(l:List (DataW H)),ub H (.agg l)=ua H l+1
 nil:∀(H:Type),ua H []=0
 cons:∀(H:Type)(x:DataW H)(l:List (DataW H)),ua H (x::l)=ub H x+ua H l
def Hw(w:aY):fq:=λb=>w.heap[b]?
structure ll (ub:(H:Type)->DataW H->Nat) (P:Program) (T:TypeId) (α:Type) [GT α] [Bk α]:Prop where
 trod:∀{H:Type}{enc:TypeId×Value->H}{w:World}{base:Nat}{spare:Nat->Bool}{held:Bool}{fuel:Nat}{cs:List Value}{d:DataW H×List MemPlace},
  DataW.trod enc P w base spare held fuel T cs=some d->∃x:α,GT.ok (Hw w) cs x/\bk x<=ub H d.1
 Up:∀{w:World}{r:Reach}{base:Nat}{v:Value},Value.okWide P w r base T v->v=zQ α v.cells.toList
section
variable {ub:(H:Type)->DataW H->Nat}{ua:(H:Type)->List (DataW H)->Nat}{P:Program}{T e:TypeId}
theorem Ng(u:UB ub ua)(ht:P.underlying T=some (.int .i64)):ll ub P T Int where
 trod:=λh=>by
  obtain⟨n,rfl,rfl,_⟩:=DataW.trod_int ht h;exact⟨n,rfl,u.pos _ _⟩
 Up:=λh=>by obtain⟨n,rfl⟩:=okWide_int ht h;rfl
theorem Ly(u:UB ub ua)(ht:P.underlying T=some .bool):ll ub P T Bool where
 trod:=λh=>by
  obtain⟨n,rfl,rfl⟩:=DataW.trod_bool ht h;exact⟨n,rfl,u.pos _ _⟩
 Up:=λh=>by obtain⟨n,rfl⟩:=okWide_bool ht h;rfl
theorem Nh(u:UB ub ua)(ht:P.underlying T=some .string):ll ub P T eJ where
 trod:=λh=>by
  obtain⟨s,rfl,rfl,_⟩:=DataW.trod_string ht h;refine⟨⟨s.data.toList⟩,?_,?_⟩
  ·show [Value.string s]= [Gk.str ⟨s.data.toList⟩]
   cases s;rfl
  ·rw[u.str];exact cJ _
 Up:=λh=>by obtain⟨n,rfl⟩:=okWide_string ht h;rfl
theorem DY{α:Type}{R:Nat->α->Prop}:∀(n:Nat),(∀i,i<n->∃x,R i x)->∃l:Z α,l.length=n/\∀i x,l[i]? =some x->R i x
 | 0,_=>⟨[],rfl,λi x h=>by simp at h⟩
 |n+1,h=>by
  obtain⟨l,h1,h2⟩:=DY n<|λi hi=>h i (by omega)
  obtain⟨x,hx⟩:=h n (by omega);refine⟨l++[x],by simp[h1],λi y hy=>?_⟩
  by_cases hi:i<n
  ·rw[kM (by omega)]at hy;exact h2 i y hy
  ·have:=(bS.1 hy).1;rw[eP]at this;have:i=n:=by simp at this;omega
   subst this;rw[jO (by omega),h1]at hy;simp at hy;subst hy;exact hx
theorem Hz{H α:Type}[Bk α](u:UB ub ua):∀{l:List α}{es:List (DataW H×List MemPlace)},l.length=es.length->
  (∀(i:Nat)(x:α)(y:DataW H×List MemPlace),l[i]? =some x->es[i]? =some y->bk x<=ub H y.1)->bk l<=ua H (es.map (·.1))+1
 | [],[],_,_=>by rw[Om];omega
 |x::l,y::es,hl,h=>by
  have h1:=h 0 x y rfl rfl;have h2:=Hz (H:=H) u (l:=l) (es:=es) (by simpa using hl)<|λi x y hx hy=>h (i+1) x y (by simpa using hx) (by simpa using hy)
  rw[Iu,eV,u.cons];omega
theorem J9{w:aY}{base:Nat}{a:Addr}{n:Nat}{cs:Z aX}(h:w.cells? base a n=some cs):At (Hw w) a cs:=by
 intro j v hv;obtain⟨_,hlen,hc⟩:=World.cells?_some h;have hj:=(bS.1 hv).1;have h2:=hc j (by omega);rw[hv]at h2;unfold BR Hw;unfold World.cell? at h2;exact h2
theorem sG{α:Type}[GT α][Bk α](u:UB ub ua)(he:ll ub P e α)(ht:P.underlying T=some (.slice e):=by kernel_rfl)(hc:P.cellsOf e=GT.sz α:=by kernel_rfl):ll ub P T (List α)where
 trod:=λ{H enc w base spare held fuel cs d}h=>by
  rcases DataW.trod_slice ht h with⟨rfl,rfl⟩|⟨a,len,cap,elems,rest,n,_,rfl,rfl,_,hlc,hcm,hlen,hel,_⟩
  ·exact⟨[],⟨_,rfl,none,0,0,rfl,rfl,cJ _,by simp[maxLen],λi x hx=>by simp at hx⟩,u.pos _ _⟩
  ·have each:∀i,i<len->∃x:α,(∃c y,GT.ok (Hw w) c x/\At (Hw w) (a.add<|i*GT.sz α) c/\elems[i]? =some y/\bk x<=ub H y.1):=by
    intro i hi;have h1:=hel i hi;rw[aM (by omega:i<elems.length),Option.bind_eq_some_iff]at h1;obtain⟨c,h2,h3⟩:=h1;obtain⟨x,h4,h5⟩:=he.trod h3;refine⟨x,c,_,h4,?_,aM (by omega),h5⟩;rw[hc]at h2;exact J9 h2
   obtain⟨l,hl,hr⟩:=DY len each;refine⟨l,⟨_,rfl,some a,len,cap,rfl,hl.symm,hlc,hcm,λi x hx=>?_⟩,?_⟩
   ·obtain⟨c,y,h1,h2,_⟩:=hr i x hx;exact⟨a,c,rfl,h1,h2⟩
   ·have:=Hz (H:=H) u (l:=l) (es:=elems) (by omega) (λi x y hx hy=>by
     obtain⟨c,y',_,_,h3,h4⟩:=hr i x hx
     rw[hy]at h3;injection h3 with h3;subst h3;exact h4)
    rw[u.sl];omega
 Up:=λh=>by obtain⟨a,n,c,rfl⟩:=okWide_slice ht h;rfl
def Mq(ub:(H:Type)->DataW H->Nat)(ua:(H:Type)->List (DataW H)->Nat)(P:Program)(off:Nat)(fs:List Field)(β:Type)[GT β](m:β->Nat):Prop:=
 ∀{H:Type}{enc:TypeId×Value->H}{w:World}{base:Nat}{spare:Nat->Bool}{held:Bool}{n:Nat}{cs:List Value}{ys:List (DataW H×List MemPlace)},
  (∀(i:Nat)(f:Field),fs[i]? =some f->DataW.trod enc P w base spare held n f.type ((cs.drop f.offset).take<|P.cellsOf f.type)=ys[i]?)->ys.length=fs.length->
  cs.length=off+GT.sz β->∃x:β,GT.ok (Hw w) (cs.drop off) x/\m x<=ua H (ys.map (·.1))
theorem sH{β:Type}[GT β][Bk β]{off:Nat}{f:Field}(u:UB ub ua)(h:ll ub P f.type β)(ho:f.offset=off:=by exact rfl)(hc:P.cellsOf f.type=GT.sz β:=by kernel_rfl):Mq ub ua P off [f] β bk:=by
 intro H enc w base spare held n cs ys hf hl hcs
 match ys,hl with
 | [y],_=>
  have h1:=hf 0 f rfl;rw[ho,hc,nc (by rw[mH];omega)]at h1;obtain⟨x,h2,h3⟩:=h.trod (d:=y) h1;exact⟨x,h2,by rw[eV,u.cons];omega⟩
theorem iD{α β:Type}[GT α][GT β][Bk α]{off off':Nat}{f:Field}{fs:Z Field}{m:β->Nat}(u:UB ub ua)(h:ll ub P f.type α)(hr:Mq ub ua P off' fs β m)(ho:f.offset=off:=by exact rfl)(hc:P.cellsOf f.type=GT.sz α:=by kernel_rfl)(hoff:off'=off+GT.sz α:=by exact rfl):Mq ub ua P off (f::fs) (α×β) (λx=>bk x.1+m x.2):=by
 intro H enc w base spare held n cs ys hf hl hcs;have hsz:GT.sz (α×β)=GT.sz α+GT.sz β:=rfl
 match ys,hl with
 |y::ys,hl=>
  have h1:=hf 0 f rfl;rw[ho,hc]at h1;obtain⟨x,h2,h3⟩:=h.trod (d:=y) h1;obtain⟨x',h4,h5⟩:=hr (n:=n) (cs:=cs) (ys:=ys) (λi g hg=>hf (i+1) g hg) (by simpa using hl) (by omega);refine⟨(x,x'),⟨_,_,?_,h2,h4⟩,?_⟩
  ·rw[hoff,<-List.drop_drop,List.take_append_drop]
  ·rw[eV,u.cons];show bk x+m x'<=_;omega
theorem nu{γ β:Type}[GT β][Bk γ]{fs:Array Field}{m:β->Nat}(u:UB ub ua)(f:γ->β)(g:β->γ)(hfg:∀b,f (g b)=b)(ht:P.underlying T=some (.struct fs))(h:Mq ub ua P 0 fs.toList β m)(hm:∀b,bk (g b)<=m b+1)(hc:P.cellsOf T=GT.sz β:=by kernel_rfl): @ll ub P T γ (GT.via f) _:=
 @ll.mk ub P T γ (GT.via f) _
  (λ{H enc w base spare held fuel cs d}hd=>by
   obtain⟨xs,n,_,rfl,hl,hlen,hf⟩:=DataW.trod_struct ht hd;obtain⟨b,h1,h2⟩:=h (n:=n) (cs:=cs) (ys:=xs) (λi g hg=>hf i g (by rw[<-Array.getElem?_toList];exact hg)) (by rw[hlen];simp) (by omega);refine⟨g b,?_,?_⟩
   ·show GT.ok (Hw w) cs (f<|g b);rw[hfg];exact h1
   ·rw[u.ag];have:=hm b;omega)
  (λhv=>by
   obtain⟨cs,rfl,_⟩:=okWide_struct ht hv
   cases cs;rfl)
theorem ll.arg{H:Type}{enc:TypeId×Value->H}{w:World}{base:Nat}{spare:Nat->Bool}{held:Bool}{r:Reach}{b0:Nat}{v:Value}{d:DataW H}{ps:List MemPlace}{α:Type}[GT α][Bk α](o:ll ub P T α)
  (hv:Value.okWide P w r b0 T v) (hd:DataW.Trod enc P w base spare held T v d ps):∃x:α,A9 (Hw w) v x/\bk x<=ub H d:=by
 obtain⟨fuel,hf⟩:=hd;obtain⟨x,h1,h2⟩:=o.trod hf;exact⟨x,⟨_,o.Up hv,h1⟩,h2⟩
theorem ll.VT{H:Type}{enc:TypeId×Value->H}{w:World}{base:Nat}{spare:Nat->Bool}{held:Bool}{r:Reach}{b0:Nat}{v:Value}{d:DataW H}{ps:List MemPlace}{α:Type}[Sc α][Bk α](o:ll ub P T α)
  (hv:Value.okWide P w r b0 T v) (hd:DataW.Trod enc P w base spare held T v d ps):∃x:α,v=Sc.toV x/\bk x<=ub H d:=by
 obtain⟨x,h1,h2⟩:=o.arg hv hd;exact⟨x,K7.1 h1,h2⟩
end
theorem Calls.fin{P:bL}{f:FuncId}{args:bA aX}{w:aY}{R Q:aX->aY->Prop}(h:Calls P f args w (fL R))(k:∀v w',R v w'->Q v w'):
  Calls P f args w (λe W'=>∃v,e = .returned v/\Q v W'):=Calls.mono h λ_ w'⟨v,e,hr⟩=>⟨v,e,k v w' hr⟩
def iX(W:aY):HP:=⟨λM h=>hle (Hw W) M/\h=xy,λk⟨a,b⟩=>⟨MS a k,b⟩⟩
theorem Holds.begin(W:aY):Holds W W [iX W]:=by
 refine⟨Hw W,λ_=>xy,⟨rfl,rfl,rfl,cJ _,λb o h=>h,λi Pr hq=>?_,λ_ _ _ _ h=>(by cases h),λ_ _ _ _ h=>(by cases h),λ_ _ _ _ _ _ _ h=>(by cases h)⟩⟩
 match i,hq with
 | 0,hq=>simp at hq;subst hq;exact⟨NO _,rfl⟩
theorem Holds.Oq{α:Type}[GT α]{W:aY}{V:Z HP}{v:aX}{x:α}(h:Holds W W (V++[iX W]))(hv:Gk.A9 (Hw W) v x):Holds W W (rd v x::(V++[iX W])):=
 h.GN λM hs g=>by
  have h1:=(g.sat V.length (iX W) (by simp)).1;exact⟨hv.mono h1,rfl⟩
theorem Holds.kept{E W w:aY}{V:Z HP}(h:Holds E w (V++[iX W]))(he:E=W):Below W.heap.size W w:=by
 subst he;obtain⟨M,hs,g⟩:=h;have h1:=(g.sat V.length (iX E) (by simp)).1;have h2:∀k o,E.heap[k]? =some o->w.heap[k]? =some o:=λk o ho=>g.im k o<|h1 k o ho
 refine⟨g.os,g.tape,g.out,?_,λk hk=>?_⟩
 ·by_cases h0:E.heap.size=0
  ·omega
  ·have h3:=h2 (E.heap.size - 1) _<|kr (by omega)
   have:=(Array.getElem?_eq_some_iff.1 h3).1;omega
 ·rw[kr hk];exact h2 k _<|kr hk
section
variable {H:Type}{enc:bM×aX->H}{P:bL}
theorem Ni{f:Func}{s:ChangeSpec}{apart fresh handsOn again:Bool}{W W':World}{args:Array Value}{v:Value}{ds gs:List (DataW H)}{before pa pv:List MemPlace}
  (hW:DataW.Whole enc P f.params.toList s.vars apart W args.toList ds gs before)
  (hres:∀(b:Nat)(sp:Nat->Bool)(hd:Bool),DataW.TrodAll enc P W' b sp hd f.resultTypes.toList (v.resultList f.resultTypes.size) (s.fn H<|ds++gs).results [])
  (hargs:∀sp:Nat->Bool,(∀p∈before,sp p.block=true)->DataW.TrodAll enc P W' 0 sp true f.params.toList args.toList (s.fn H<|ds++gs).args pa)
  (hvars:∀sp:Nat->Bool,(∀p∈before,sp p.block=true)->DataW.TrodVars enc P W' sp s.vars (s.fn H<|ds++gs).vars pv)
  (hps:before=pa++pv) (hb:Below W.heap.size W W')
  (hok:∀(j:Nat)(t:TypeId)(r:Value),f.resultTypes[j]? =some t->(v.resultList f.resultTypes.size)[j]? =some r->Value.okWide P W' .any 0 t r):
  s.post enc P f apart fresh handsOn again W args v W':=by
 have hlt:∀p∈before,p.block<W.heap.size:=λp hp=>hW.lt p hp;have hold:∀p∈before,(λb=>decide<|b<W.heap.size) p.block=true:=λp hp=>by simpa using hlt p hp
 refine⟨ds,gs,before,[],pa,pv,hW,hres _ _ _,hargs _ hold,hvars _ hold,World.keptBut_mono (λp hp=>⟨hp,?_⟩)<|hb.frame (· ∈before),λ_=>?_⟩
 ·rw[hps,dI]at hp;exact Or.inr hp
 ·obtain⟨_,_,_,_,_,hz,hn⟩:=hW;refine⟨hok,_,_,([]++pa)++pv,⟨[]++pa,pv,trodAll_append (hargs _<|λ_ _=>rfl)<|hres _ _ _,hvars _<|λ_ _=>rfl,rfl,?_,?_⟩,?_⟩
  ·intro b off hp;have hin:MemPlace.cell b off∈before:=by rw[hps];simpa using hp
   rw[hb.frozen<|hlt _ hin];exact hz b off hin
  ·intro ha;have:=hn ha;rw[hps]at this;simpa using this
  ·intro p hp _;rw[hps];simpa using hp
theorem AX{W W':World}(hl:laidOutB P=true)(hb:Below W.heap.size W W'){sp:Nat->Bool}:∀{ts:List TypeId}{vs:List Value}{ds:List (DataW H)}{ps:List MemPlace},
  (∀t∈ts,P.readableRec t=true/\t<P.types.size)->DataW.TrodAll enc P W 0 (λ_=>true) true ts vs ds ps->(∀p∈ps,p.block<W.heap.size)->(∀p∈ps,sp p.block=true)->DataW.TrodAll enc P W' 0 sp true ts vs ds ps
 | [],_,_,_,_,h,_,_=>by
  obtain⟨rfl,rfl,rfl⟩:=trodAll_nil h;rfl
 |t::ts,_,_,_,ht,h,hlt,hsp=>by
  obtain⟨v,vs,d,ds,p,q,rfl,rfl,rfl,h1,h2⟩:=trodAll_cons h;refine⟨p,q,?_,AX hl hb (λt h=>ht t (by simp[h])) h2 (λx hx=>hlt x (by simp[hx]))<|λx hx=>hsp x (by simp[hx]),rfl⟩;exact WideElems.Trod_stays hl (ht t (by simp)).1 (ht t (by simp)).2 h1 (λx hx=>hb.same<|hlt x (by simp[hx]))<|λx hx=>hsp x (by simp[hx])
end
end Go.Gk
namespace Go.Gk
open Go IntKind
instance:Bk aF:=⟨λx=>bk x.X0+bk x.Y0+bk x.X1+bk x.Y1+1,λ_=>by omega⟩
theorem PY(x:aF):bk x=bk x.X0+bk x.Y0+bk x.X1+bk x.Y1+1:=rfl
instance:Bk dW:=⟨λx=>bk x.X+bk x.Y+1,λ_=>by omega⟩
theorem Ot(x:dW):bk x=bk x.X+bk x.Y+1:=rfl
instance:Bk bV:=⟨λx=>bk x.At+bk x.eN+bk x.cM+bk x.To+bk x.fM+1,λ_=>by omega⟩
theorem PZ(x:bV):bk x=bk x.At+bk x.eN+bk x.cM+bk x.To+bk x.fM+1:=rfl
instance:Bk dA:=⟨λx=>bk x.Part+bk x.eK+bk x.cN+bk x.At+1,λ_=>by omega⟩
theorem Mr(x:dA):bk x=bk x.Part+bk x.eK+bk x.cN+bk x.At+1:=rfl
instance:Bk gZ:=⟨λx=>bk x.aL+bk x.cS+bk x.aN+bk x.bO+1,λ_=>by omega⟩
theorem Ou(x:gZ):bk x=bk x.aL+bk x.cS+bk x.aN+bk x.bO+1:=rfl
instance:Bk eK:=⟨λx=>bk x.Part+bk x.eK+1,λ_=>by omega⟩
theorem R6(x:eK):bk x=bk x.Part+bk x.eK+1:=rfl
instance:Bk Test:=⟨λx=>bk x.A+bk x.B+bk x.Joined+1,λ_=>by omega⟩
theorem P0(x:Test):bk x=bk x.A+bk x.B+bk x.Joined+1:=rfl
instance:Bk aA:=⟨λx=>bk x.Y0+bk x.Y1+bk x.Xs+1,λ_=>by omega⟩
instance:Bk aD:=⟨λx=>bk x.cN+bk x.Set+bk x.eD+1,λ_=>by omega⟩
instance:Bk bZ:=⟨λx=>bk x.fO+bk x.aN+bk x.fB+1,λ_=>by omega⟩
instance:Bk eB:=⟨λx=>bk x.bV+bk x.Number+1,λ_=>by omega⟩
instance:Bk aU:=⟨λx=>bk x.Open+bk x.eB+bk x.A+bk x.B+1,λ_=>by omega⟩
instance:Bk wh:=⟨λx=>bk x.A+bk x.B+bk x.i5+bk x.cM+bk x.To+1,λ_=>by omega⟩
instance:Bk aG:=⟨λx=>bk x.from_+bk x.to+1,λ_=>by omega⟩
instance:Bk aR:=⟨λx=>bk x.from_+bk x.to+bk x.kp+1,λ_=>by omega⟩
instance:Bk cP:=⟨λx=>bk x.Em+bk x.wH+1,λ_=>by omega⟩
end Go.Gk
namespace Go.Gk
open Go IntKind Go.Sort
section
variable {α:Type}
theorem D0{β:Type}(a:bA β){n:Nat}(h:a.size=n):a.extract 0 n=a:=by grind
theorem R7{φ:α->α->aT Int}{l:Z α}(cf:α->α->Int)(hφ:∀x∈l,∀y∈l,φ x y=some (cf x y))(h1:∀x∈l,¬cf x x<0)
  (h2:∀x∈l,∀y∈l,∀z∈l,cf x y<0->cf y z<0->cf x z<0) (h3:∀x∈l,∀y∈l,∀z∈l,¬cf x y<0->¬cf y z<0->¬cf x z<0):SWO (Qv<|K2 φ l):=by
 have hm:∀i:Fin l.length,l[i]∈l:=λi=>cH i.isLt;have e:∀i j:Fin l.length,K2 φ l i j=cf l[i] l[j]:=λi j=>by grind [K2]
 refine⟨λx=>?_,λx y z=>?_,λx y z=>?_⟩
 all_goals grind [Qv,decide_eq_false_iff_not]
theorem FB{φ:α->α->aT Int}{l:Z α}(cf:α->α->Int)(hφ:∀x∈l,∀y∈l,φ x y=some (cf x y))(h1:∀x∈l,¬cf x x<0)
  (h2:∀x∈l,∀y∈l,∀z∈l,cf x y<0->cf y z<0->cf x z<0) (h3:∀x∈l,∀y∈l,∀z∈l,¬cf x y<0->¬cf y z<0->¬cf x z<0) (hl:l.length<4611686018427387904):
  ∃m,B2 φ l=some m/\m.Perm l/\m.Pairwise (λx y=>¬cf y x<0):=by
 have hO:=R7 cf hφ h1 h2 h3;have hm:∀i:Fin l.length,l[i]∈l:=λi=>cH i.isLt;have hc:(∀i j:Fin l.length,∃c,φ l[i] l[j]=some c):=λi j=>⟨_,hφ _ (hm i) _<|hm j⟩;refine⟨Md φ l,by simp_all[B2,aH],?_⟩;unfold Md
 by_cases hn:0<l.length
 ·rw[dif_pos hn]
  letI inh:Inhabited (Fin l.length):=⟨⟨0,hn⟩⟩
  have hds:(Array.ofFn λi:Fin l.length=>i).size=l.length:=by simp
  obtain⟨hp,hs⟩:=pdq_sorts (Qv<|K2 φ l) hO (Array.ofFn λi:Fin l.length=>i) 0 l.length (Lib.bitLen l.length) true true (cO _) (by omega)<|Or.inl rfl
  show(List.map (λi=>l[i]) (pdq (Qv<|K2 φ l) (Array.ofFn λi:Fin l.length=>i) 0 l.length (Lib.bitLen l.length) true true).toList).Perm l/\_;generalize pdq (Qv<|K2 φ l) (Array.ofFn λi:Fin l.length=>i) 0 l.length (Lib.bitLen l.length) true true=d' at hp hs;obtain⟨hz,_,hpm⟩:=hp;have hz':d'.size=l.length:=hz.trans hds;rw[D0 d' hz',D0 _ hds]at hpm;have hof:(Array.ofFn λi:Fin l.length=>i).toList.map (λi=>l[i])=l:=by
   rw[Array.toList_ofFn,List.map_ofFn];exact List.ofFn_getElem
  refine⟨(hpm.map<|λi=>l[i]).trans<|List.Perm.of_eq hof,?_⟩;rw[List.pairwise_map,ox];intro i j hi hj hij;rw[Array.length_toList]at hi hj;have:=hs i j (cO _) hij (by omega)
  grind [K2,Qv,decide_eq_false_iff_not]
 ·rw[dif_neg hn];have:l= []:=List.length_eq_zero_iff.1 (by omega);subst this;exact⟨List.Perm.refl _,kN⟩
theorem HA{φ:α->α->aT Int}{x:α}(h:φ x x=some 0):B2 φ [x]=some [x]:=by
 obtain⟨m,h1,h2,_⟩:=FB (φ:=φ) (l:=[x]) (λ_ _=>0) (λa ha b hb=>by simp at ha hb;rw[ha,hb];exact h) (λ_ _=>by decide) (λ_ _ _ _ _ _ h=>by simp at h) (λ_ _ _ _ _ _ _ _=>by decide) (by simp);rw[h1,List.perm_singleton.1 h2]
theorem G3{l:Z Int}(h:l.Pairwise (λx y=>x<=y))(hl:l.length<4611686018427387904):yU l=some l:=by
 grind [yU,List.mergeSort_of_pairwise]
end
end Go.Gk
namespace Go.Gk
open Go IntKind
def nz(l:Z Int)(x:Int):Nat:=l.countP<|λa=>decide<|a<=x
def r6(l:Z Int)(x:Int):Bool:=nz l x % 2==1
def kB(l:Z Int):Prop:=l.Pairwise (· < ·)
theorem Iz(x:Int):nz [] x=0:=rfl
theorem rV(a:Int)(l:Z Int)(x:Int):nz (a::l) x=(if a<=x then 1 else 0)+nz l x:=by
 grind [nz]
theorem FC(l m:Z Int)(x:Int):nz (l++m) x=nz l x+nz m x:=List.countP_append
theorem Mt{l:Z Int}{x:Int}(h:∀a∈l,a<=x):nz l x=l.length:=by
 grind [nz,List.countP_eq_length]
theorem FD{l:Z Int}{x:Int}(h:∀a∈l,x<a):nz l x=0:=by
 grind [nz,List.countP_eq_zero]
theorem EP{l:Z Int}{x:Int}:r6 l x=true↔nz l x % 2=1:=by simp[r6]
theorem Cz{l:Z Int}{x:Int}(h:∀a∈l,x<a):r6 l x=false:=by grind [r6,FD]
theorem kB.head{a:Int}{l:Z Int}(h:kB (a::l)):∀b∈l,a<b:=(qD.1 h).1
theorem kB.tail{a:Int}{l:Z Int}(h:kB (a::l)):kB l:=(qD.1 h).2
theorem CA{a:Int}{l:Z Int}(h:kB (a::l)):r6 (a::l) a=true:=by
 rw[EP,rV,aH<|Int.le_refl _,FD h.head]
theorem FE:∀{l m:Z Int},kB l->kB m->(∀x,r6 l x=r6 m x)->l=m
 | [],[],_,_,_=>rfl
 | [],b::m,_,hm,h=>by have:=h b;rw[CA hm]at this;cases this
 |a::l,[],hl,_,h=>by have:=h a;rw[CA hl]at this;cases this
 |a::l,b::m,hl,hm,h=>by
  have hab:a=b:=by
   rcases Int.lt_trichotomy a b with h1|h1|h1
   ·have h2:=h a
    rw[CA hl,Cz (l:=b::m) (λc hc=>by
     rcases fJ.1 hc with rfl|hc
     ·exact h1
     ·have:=hm.head c hc;omega)]at h2
    cases h2
   ·exact h1
   ·have h2:=h b
    rw[CA hm,Cz (l:=a::l) (λc hc=>by
     rcases fJ.1 hc with rfl|hc
     ·exact h1
     ·have:=hl.head c hc;omega)]at h2
    cases h2
  subst hab;rw[FE hl.tail hm.tail<|λx=>?_]
  by_cases hx:a<=x
  ·have h2:=h x;unfold r6 at h2 ⊢;rw[rV,rV,aH hx]at h2;rw[jQ]at h2 ⊢;simp only[beq_iff_eq]at h2 ⊢;omega
  ·rw[Cz (λc hc=>by have:=hl.head c hc;omega),Cz (λc hc=>by have:=hm.head c hc;omega)]
theorem FF{l:Z Int}{a b:Int}(hl:∀c∈l,c<a)(he:l.length % 2=0)(hab:a<b)(x:Int):r6 (l++[a,b]) x=(r6 l x||(decide (a<=x)&&decide (x<b))):=by
 rw[jQ,jd,dD,dR,dR,EP,EP,FC,rV,rV,Iz]
 grind [nz,Mt]
theorem Oy{l:Z Int}{s e a b:Int}(hl:∀c∈l,c<s)(he:l.length % 2=0)(hs:s<e)(h1:s<=a)(h2:a<=e)(hab:a<b)(x:Int):r6 (l++[s,max e b]) x=(r6 (l++[s,e]) x||(decide (a<=x)&&decide (x<b))):=by
 grind [FF]
theorem kB.snoc{l:Z Int}{a b:Int}(h:kB l)(hl:∀c∈l,c<a)(hab:a<b):kB (l++[a,b]):=by
 grind [kB]
structure Bd where
 y0:Int
 y1:Int
 xs:Z Int
def rowAt:Z Bd->Int->Z Int
 | [],_=>[]
 |b::s,y=>if b.y0<=y/\y<b.y1 then b.xs else rowAt s y
theorem o5(b:Bd)(s:Z Bd)(y:Int):rowAt (b::s) y=if b.y0<=y/\y<b.y1 then b.xs else rowAt s y:=rfl
structure ga (s:Z Bd):Prop where
 each:∀b∈s,b.y0<b.y1/\b.xs≠[]/\kB b.xs/\b.xs.length % 2=0
 ord:s.Pairwise (λb c=>b.y1<=c.y0/\(b.y1=c.y0->b.xs≠c.xs))
theorem ga.nil:ga []:=⟨λb h=>by simp at h,kN⟩
theorem ga.tail{b:Bd}{s:Z Bd}(h:ga (b::s)):ga s:=⟨λc hc=>h.each c<|jP _ hc,(qD.1 h.ord).2⟩
theorem nA{s:Z Bd}{y:Int}(h:∀b∈s,y<b.y0\/b.y1<=y):rowAt s y= []:=by
 induction s with
 |nil=>rfl
 |cons b s ih=>
  grind [rowAt,jP]
theorem uw(s t:Z Bd)(y:Int):rowAt (s++t) y=if(∃b∈s,b.y0<=y/\y<b.y1)then rowAt s y else rowAt t y:=by
 induction s with
 |nil=>simp
 |cons b s ih=>
  rw[List.cons_append,o5,o5]
  by_cases h:b.y0<=y/\y<b.y1
  ·simp_all
  ·rw[aI h,ih]
   by_cases h2:∃c∈s,c.y0<=y/\y<c.y1
   ·simp_all[aH,jP,aI]
   grind
theorem ga.o6{b:Bd}{s:Z Bd}{y:Int}(h0:b.y0<=y)(h1:y<b.y1):rowAt (b::s) y=b.xs:=by grind [rowAt]
theorem ga.FG{b:Bd}{s:Z Bd}(h:ga (b::s)):∀c∈s,b.y1<=c.y0:=λc hc=>((qD.1 h.ord).1 c hc).1
theorem ga.z7{b:Bd}{s:Z Bd}(h:ga (b::s)){y:Int}(hy:y<b.y0):rowAt (b::s) y= []:=nA λc hc=>by
 rcases fJ.1 hc with rfl|hc
 ·exact .inl hy
 ·have:=h.FG c hc;have:=(h.each b (by simp)).1;exact .inl (by omega)
theorem ga.Mu{b:Bd}{s:Z Bd}(h:ga (b::s)):rowAt (b::s) b.y1≠b.xs:=by
 rw[o5,aI (by omega)]
 cases s with
 |nil=>exact λe=>(h.each b (by simp)).2.1 e.symm
 |cons c s=>
  have h1:=(qD.1 h.ord).1 c (by simp)
  by_cases e:b.y1=c.y0
  ·rw[ga.o6 (by omega) (by have:=(h.tail.each c (by simp)).1;omega)]
   grind
  ·rw[h.tail.z7 (by omega)];exact λe=>(h.each b (by simp)).2.1 e.symm
theorem FH:∀{s t:Z Bd},ga s->ga t->(∀y,rowAt s y=rowAt t y)->s=t
 | [],[],_,_,_=>rfl
 | [],c::t,_,ht,h=>by
  have hc:=ht.each c (by simp);have:=h c.y0;rw[ga.o6 (Int.le_refl _) hc.1]at this;exact absurd this.symm hc.2.1
 |b::s,[],hs,_,h=>by
  have hb:=hs.each b (by simp);have:=h b.y0;rw[ga.o6 (Int.le_refl _) hb.1]at this;exact absurd this hb.2.1
 |b::s,c::t,hs,ht,h=>by
  have hb:=hs.each b (by simp);have hc:=ht.each c (by simp);have e0:b.y0=c.y0:=by
   rcases Int.lt_trichotomy b.y0 c.y0 with h1|h1|h1
   ·have h2:=h b.y0;rw[ga.o6 (Int.le_refl _) hb.1,ht.z7 h1]at h2;exact absurd h2 hb.2.1
   ·exact h1
   ·have h2:=h c.y0;rw[ga.o6 (Int.le_refl _) hc.1,hs.z7 h1]at h2;exact absurd h2.symm hc.2.1
  have ex:b.xs=c.xs:=by
   have h2:=h b.y0;rw[ga.o6 (Int.le_refl _) hb.1,ga.o6 (by omega) (by omega)]at h2;exact h2
  have e1:b.y1=c.y1:=by
   rcases Int.lt_trichotomy b.y1 c.y1 with h1|h1|h1
   ·have h2:=h b.y1;rw[ga.o6 (b:=c) (by omega) h1]at h2;exact absurd (h2.trans ex.symm) hs.Mu
   ·exact h1
   ·have h2:=h c.y1;rw[ga.o6 (b:=b) (by omega) h1]at h2;exact absurd (h2.symm.trans ex) ht.Mu
  have ebc:b=c:=by cases b;cases c;simp_all
  subst ebc;rw[FH hs.tail ht.tail<|λy=>?_]
  by_cases hy:b.y1<=y
  ·have h2:=h y;unfold rowAt at h2;rw[aI (by omega),aI (by omega)]at h2;exact h2
  ·rw[nA (λd hd=>by have:=hs.FG d hd;omega),nA (λd hd=>by have:=ht.FG d hd;omega)]
def yQ(s:Z Bd)(x y:Int):Bool:=r6 (rowAt s y) x
theorem HB{s:Z Bd}(h:∀b∈s,kB b.xs)(y:Int):kB (rowAt s y):=by
 induction s with
 |nil=>exact kN
 |cons b s ih=>
  grind [rowAt,jP]
theorem xV{s t:Z Bd}(hs:ga s)(ht:ga t)(h:∀x y,yQ s x y=yQ t x y):s=t:=
 FH hs ht λy=>FE (HB (λb hb=>(hs.each b hb).2.2.1) y) (HB (λb hb=>(ht.each b hb).2.2.1) y) λx=>h x y
def kV(s:Z Bd)(b:Bd):Z Bd:=
 if b.xs= []\/b.y1<=b.y0 then s else
  match s.getLast? with
  |some c=>if c.y1=b.y0/\c.xs=b.xs then s.dropLast++[⟨c.y0,b.y1,c.xs⟩]else s++[b]
  |none=>[b]
theorem vk{α:Type}{s:Z α}{c:α}(h:s.getLast? =some c):s=s.dropLast++[c]:=by
 have hne:s≠[]:=λe=>by grind
 grind [List.getLast?_eq_some_getLast,List.dropLast_concat_getLast]
theorem z8{s:Z Bd}{b:Bd}(hs:∀c∈s,c.y1<=b.y0)(hg:∀c∈s,c.y0<c.y1)(hb:b.y1<=b.y0->b.y1=b.y0)(y:Int):rowAt (kV s b) y=if b.y0<=y/\y<b.y1 then b.xs else rowAt s y:=by
 have key:∀(s:Z Bd)(c:Bd),(∀d∈s,d.y1<=c.y0)->rowAt (s++[c]) y=if c.y0<=y/\y<c.y1 then c.xs else rowAt s y:=by
  intro s c h;rw[uw]
  by_cases h1:c.y0<=y/\y<c.y1
  ·grind [ga.o6]
  ·rw[aI h1]
   by_cases h2:∃d∈s,d.y0<=y/\y<d.y1
   all_goals grind [o5,rowAt,nA]
 unfold kV
 by_cases h0:b.xs= []\/b.y1<=b.y0
 ·grind [nA]
 ·rw[aI h0]
  cases hl:s.getLast? with
  |none=>
   have:s= []:=by simp_all
   subst this;rfl
  |some c=>
   dsimp only;have hsp:=vk hl;have hcm:c∈s:=by rw[hsp];simp
   by_cases h1:c.y1=b.y0/\c.xs=b.xs
   ·rw[aH h1];have hd:∀d∈s.dropLast,d.y1<=c.y0\/True:=λ_ _=> .inr trivial;rw[uw];have hrow:rowAt s y=if(∃d∈s.dropLast,d.y0<=y/\y<d.y1)then rowAt s.dropLast y else(if c.y0<=y/\y<c.y1 then c.xs else []):=by
     conv=>lhs;rw[hsp]
     rw[uw];rfl
    rw[hrow];have hcg:=hg c hcm
    by_cases h2:∃d∈s.dropLast,d.y0<=y/\y<d.y1
    ·obtain⟨d,hd,hd2⟩:=h2;have:=hs d<|List.dropLast_subset _ hd
     have he:∃d∈s.dropLast,d.y0<=y/\y<d.y1:=⟨d,hd,hd2⟩;rw[aH he,aH he,aI (by omega)]
    ·rw[aI h2,aI h2];show(if c.y0<=y/\y<b.y1 then c.xs else [])=_
     by_cases h3:b.y0<=y/\y<b.y1
     ·rw[aH h3,aH ⟨by omega,h3.2⟩,h1.2]
     ·rw[aI h3]
      by_cases h4:c.y0<=y/\y<c.y1
      ·rw[aH h4,aH ⟨h4.1,by omega⟩]
      ·rw[aI h4,aI (by omega)]
   ·rw[aI h1];exact key s b hs
theorem z9{s:Z Bd}{b:Bd}(h:ga s)(hs:∀c∈s,c.y1<=b.y0)(hb:kB b.xs)(he:b.xs.length % 2=0):ga (kV s b):=by
 unfold kV
 by_cases h0:b.xs= []\/b.y1<=b.y0
 ·grind
 ·rw[aI h0];have hbg:b.y0<b.y1/\b.xs≠[]/\kB b.xs/\b.xs.length % 2=0:=⟨by omega,λe=>h0<|.inl e,hb,he⟩
  cases hl:s.getLast? with
  |none=>exact⟨λc hc=>by grind,List.pairwise_singleton _ _⟩
  |some c=>
   dsimp only;have hsp:=vk hl;have hcm:c∈s:=by rw[hsp];simp
   have hc:=h.each c hcm;have hord:=h.ord;rw[hsp,List.pairwise_append]at hord
   by_cases h1:c.y1=b.y0/\c.xs=b.xs
   ·rw[aH h1];refine⟨λd hd=>?_,?_⟩
    ·rcases dI.1 hd with hd|hd
     ·exact h.each d<|List.dropLast_subset _ hd
     grind
    grind
   ·rw[aI h1];refine⟨λd hd=>?_,?_⟩
    ·rcases dI.1 hd with hd|hd
     ·exact h.each d hd
     ·simp at hd;subst hd;exact hbg
    ·rw[List.pairwise_append];refine⟨h.ord,List.pairwise_singleton _ _,λd hd e he=>?_⟩;simp at he;subst he;refine⟨hs d hd,λe1 e2=>?_⟩;rw[hsp]at hd
     rcases dI.1 hd with hd|hd
     ·have h2:=(hord.2.2 d hd c (by simp)).1;have:=hs c hcm;omega
     ·simp at hd;subst hd;exact h1 ⟨e1,e2⟩
theorem Aa{s:Z Bd}{b:Bd}(hs:∀c∈s,c.y1<=b.y0)(hb:b.y0<=b.y1):∀c∈kV s b,c.y1<=b.y1:=by
 grind [kV,List.dropLast_subset]
section
variable {N:Nat}
def cQ(b:aA):Bd:=⟨b.Y0,b.Y1,b.Xs⟩
def small(a:Int):Prop:= -1099511627776<=a/\a<=1099511627776
structure GL (r:aF):Prop where
 x:r.X0<r.X1
 y:r.Y0<r.Y1
 s1:small r.X0
 s2:small r.X1
 s3:small r.Y0
 s4:small r.Y1
def LB(l:Z aF)(x:Int):Bool:=l.any<|λr=>decide (r.X0<=x)&&decide (x<r.X1)
def vX(l:Z aF)(x y:Int):Bool:=l.any<|λr=>(decide (r.X0<=x)&&decide (x<r.X1))&&(decide (r.Y0<=y)&&decide (y<r.Y1))
theorem FI{l:Z aF}{x:Int}:LB l x=true↔∃r∈l,r.X0<=x/\x<r.X1:=by simp[LB,l5]
theorem kW{l:Z aF}{x y:Int}:vX l x y=true↔∃r∈l,(r.X0<=x/\x<r.X1)/\r.Y0<=y/\y<r.Y1:=by simp[vX,l5]
theorem FJ{a b:Int}(ha:small a)(hb:small b):wrap .i64 (a - b)=a - b:=by grind [small,gF]
theorem FK{n:Nat}(h:0<n)(hn:n<=4611686018427387904):wrap .i64 ((n:Int) - 1)=((n - 1:Nat):Int):=jB h hn
structure V4 (out:Z Int) (m:Z aF) (k:Nat):Prop where
 row:(k=0/\out= [])\/∃A s e,out=A++[s,e]/\kB A/\(∀c∈A,c<s)/\A.length % 2=0/\s<e/\∃j r,j<k/\m[j]? =some r/\s=r.X0
 r6:∀x,r6 out x=LB (m.take k) x
 len:out.length<=2*k
 mem:∀c∈out,∃r∈m,c=r.X0\/c=r.X1
theorem Dl(l:Z aF)(r:aF)(x:Int):LB (l++[r]) x=(LB l x||(decide (r.X0<=x)&&decide (x<r.X1))):=by simp[LB,List.any_append]
theorem IA{l:Z aF}(hl:l.length<=268435456)(hok:∀r∈l,GL r):∃row l',kZ N l=some (row,l')/\l'.Perm l/\kB row/\row.length % 2=0/\(∀x,r6 row x=LB l x)/\row.length<=2*l.length/\∀c∈row,∃r∈l,c=r.X0\/c=r.X1:=by
 unfold kZ
 obtain⟨m,h1,h2,h3⟩:=FB (φ:=jh N) (l:=l) (λa b=>a.X0 - b.X0) (λa ha b hb=>by
  unfold jh;rw[FJ (hok a ha).s1 (hok b hb).s1]) (λa _=>by omega) (λa _ b _ c _ h1 h2=>by omega) (λa _ b _ c _ h1 h2=>by omega) (by omega)
 have hml:m.length=l.length:=h2.length_eq;have hmok:∀r∈m,GL r:=λr hr=>hok r<|h2.subset hr
 rw[h1,aB];obtain⟨out,a1,a2⟩:=EO (m:=m.length) (s:=([]:Z Int)) (body:=λ(k32:Nat)(s33:Z Int)=>((idx m (k32:Int)).bind λx79=>(bif decide (wrap .i64 ((s33.length:Int) - 1)>=0)then((idx s33<|wrap .i64<|(s33.length:Int) - 1).bind λx86=>some<|decide<|x79.X0<=x86)else some false).bind λs84=>(bif s84 then((idx s33<|wrap .i64<|(s33.length:Int) - 1).bind λx94=>(idx s33<|wrap .i64<|(s33.length:Int) - 1).bind λx95=>some<|s33.set (Int.toNat<|wrap .i64<|(s33.length:Int) - 1) (if x94<x79.X1 then x79.X1 else x94))else((app 8 s33 ([x79.X0,x79.X1]:Z Int)).bind λx97=>some x97)).bind λs92=>some s92:aT (Z Int)))
  (λk out=>V4 out m k) (by omega) ⟨.inl ⟨rfl,rfl⟩,λx=>rfl,by simp,λc hc=>by cases hc⟩ (λk out hk⟨i1,i2,i3,i4⟩=>by
   have hx:m[k]? =some m[k]:=aM hk;have hr:=hmok _<|cH hk
   rw[cB hx,aB];have hts:m.take (k+1)=m.take k++[m[k]]:=dH hk
   rcases i1 with⟨rfl,rfl⟩|⟨A,s,e,rfl,hA,hAs,hAe,hse,j,r,hj,hjr,hsr⟩
   ·rw[show decide (wrap .i64 (((([]:Z Int).length:Nat):Int) - 1)>=0)=false by decide,aQ,aB,aQ,iS (by simp),aB,aB];refine⟨_,rfl, .inr ⟨[],_,_,rfl,kN,λc hc=>by simp at hc,rfl,hr.x,0,m[0],by omega,hx,rfl⟩,λx=>?_,by simp,λc hc=>⟨m[0],cH hk,by grind⟩⟩;rw[hts,Dl,<-i2 x];exact FF (l:=[]) (λc hc=>by simp at hc) rfl hr.x x
   ·have hlen:(A++[s,e]).length=A.length+2:=by simp
    have hwp:wrap .i64 ((((A++[s,e]).length:Nat):Int) - 1)=((A.length+1:Nat):Int):=by grind [FK]
    have hlast:(A++[s,e])[A.length+1]? =some e:=by simp
    have hs:s<=m[k].X0:=by
     grind [ox,bS]
    rw[hwp,bQ (by omega),aP,cB hlast,aB,aB]
    by_cases hc:m[k].X0<=e
    ·rw[bQ hc,aP,aB,aB,aB,cK];have ph:(A++[s,e]).set (A.length+1) (if e<m[k].X1 then m[k].X1 else e)=A++[s,max e m[k].X1]:=by
      rw[List.set_append_right _ _ (by omega)];have:A.length+1 - A.length=1:=by omega
      rw[this,Int.max_def];simp only[List.set_cons_succ,List.set_cons_zero];congr 2;split <;> split <;> simp <;> omega
     rw[ph]
     refine⟨_,rfl, .inr ⟨A,s,_,rfl,hA,hAs,hAe,by omega,j,r,by omega,hjr,hsr⟩,λx=>?_,by simp at i3 ⊢;omega,λc hc=>by
      rcases dI.1 hc with h|h
      ·exact i4 c<|List.mem_append_left _ h
      ·simp at h
       rcases h with h|h
       ·exact i4 c (by simp[h])
       ·rw[Int.max_def]at h;split at h
        ·exact⟨_,cH hk, .inr h⟩
        ·exact i4 c (by simp[h])⟩
     rw[hts,Dl,<-i2 x];exact Oy hAs hAe hse hs hc hr.x x
    ·rw[bY hc,aQ,iS (by rw[hlen];simp;omega),aB,aB];have hall:∀c∈A++[s,e],c<m[k].X0:=λc hc'=>by
      rcases dI.1 hc' with h|h
      ·have:=hAs c h;omega
      ·simp at h;omega
     refine⟨_,rfl, .inr ⟨A++[s,e],_,_,rfl,hA.snoc hAs hse,hall,by rw[hlen];omega,hr.x,k,m[k],by omega,hx,rfl⟩,λx=>?_,by simp at i3 ⊢;omega,λc hc=>by
      rcases dI.1 hc with h|h
      ·exact i4 c h
      ·exact⟨m[k],cH hk,by simpa using h⟩⟩
     rw[hts,Dl,<-i2 x]
     exact FF hall (by rw[hlen];omega) hr.x x)
 rw[a1,aB];refine⟨out,m,rfl,h2,?_,?_,λx=>?_,by rw[<-hml];exact a2.len,λc hc=>by obtain⟨r,hr,h⟩:=a2.mem c hc;exact⟨r,h2.subset hr,h⟩⟩
 ·rcases a2.row with⟨_,h⟩|⟨A,s,e,rfl,hA,hAs,hAe,hse,_⟩
  ·rw[h];exact kN
  ·exact hA.snoc hAs hse
 ·rcases a2.row with⟨_,h⟩|⟨A,s,e,rfl,hA,hAs,hAe,hse,_⟩
  ·rw[h];rfl
  ·simp;omega
 ·rw[a2.r6 x,dY,jQ,FI,FI];constructor
  ·rintro⟨r,hr,h⟩;exact⟨r,h2.subset hr,h⟩
  ·rintro⟨r,hr,h⟩;exact⟨r,h2.symm.subset hr,h⟩
theorem Nj{l m:Z Int}(hl:l.length<=4611686018427387904):pr N l m=some (decide<|l=m):=Df hl
theorem Mv{s:Z aA}{b:aA}(hs:s.length<=1048576000)(hx:∀c∈s,c.Xs.length<=1048576000):∃s',kD N s b=some s'/\s'.map cQ=kV (s.map cQ) (cQ b):=by
 unfold kD kV
 by_cases h0:b.Xs= []\/b.Y1<=b.Y0
 ·have e:(((b.Xs.length:Int)==0)||decide (b.Y1<=b.Y0))=true:=by
   grind
  rw[e,aP,aH (show(cQ b).xs= []\/(cQ b).y1<=(cQ b).y0 from h0)];simp
 ·have e:(((b.Xs.length:Int)==0)||decide (b.Y1<=b.Y0))=false:=by
   simp_all
  rw[e,aQ,aI (show ¬((cQ b).xs= []\/(cQ b).y1<=(cQ b).y0)from h0)]
  rcases List.eq_nil_or_concat s with rfl|⟨A,c,hA⟩
  ·rw[show decide (wrap .i64 (((([]:Z aA).length:Nat):Int) - 1)>=0)=false by decide,aQ,aB,aQ,iS (by simp),aB];simp
  ·rw[List.concat_eq_append]at hA;subst hA;have hlen:(A++[c]).length=A.length+1:=by simp
   have hwp:wrap .i64 ((((A++[c]).length:Nat):Int) - 1)=(A.length:Int):=by grind [FK]
   have hlast:(A++[c])[A.length]? =some c:=by simp
   rw[hwp,bQ (by omega),aP,cB hlast,aB,aB,Nj (by grind),aB,aB,cK,iS (by grind),aB];have hl2:((A++[c]).map cQ).getLast? =some (cQ c):=by simp
   have hd2:((A++[c]).map cQ).dropLast=A.map cQ:=by simp
   rw[hl2,hd2];dsimp only
   by_cases h1:c.Y1=b.Y0/\c.Xs=b.Xs
   ·grind [cQ,bQ,aB,List.set_append_right]
   grind [cQ]
end
def dU(l:Z (Int×Int)):Z Int:=l.flatMap λs=>[s.1,s.2]
def kz(l:Z (Int×Int))(x:Int):Bool:=l.any λs=>decide (s.1<=x)&&decide (x<s.2)
theorem k8(s:Int×Int)(l:Z (Int×Int)):dU (s::l)=s.1::s.2::dU l:=rfl
theorem xW(l m:Z (Int×Int)):dU (l++m)=dU l++dU m:=List.flatMap_append
theorem lI(l:Z (Int×Int)):(dU l).length=2*l.length:=by
 induction l with
 |nil=>rfl
 |cons s l ih=>grind [k8,dX]
theorem HC(s:Int×Int)(l:Z (Int×Int))(x:Int):kz (s::l) x=((decide (s.1<=x)&&decide (x<s.2))||kz l x):=rfl
theorem Kb(l m:Z (Int×Int))(x:Int):kz (l++m) x=(kz l x||kz m x):=List.any_append
theorem xd{l:Z (Int×Int)}{x:Int}:kz l x=true↔∃s∈l,s.1<=x/\x<s.2:=by
 simp[kz]
theorem Nk{a b:Int}{m:Z Int}(h:kB (a::b::m))(x:Int):r6 (a::b::m) x=((decide (a<=x)&&decide (x<b))||r6 m x):=by
 have hab:a<b:=h.head b (by simp);have hm:=h.tail.head
 grind [EP,rV,FD]
theorem xe:∀{l:Z (Int×Int)},kB (dU l)->∀x,r6 (dU l) x=kz l x
 | [],_,x=>rfl
 |s::l,h,x=>by
  rw[k8]at h ⊢;rw[Nk h,HC,xe h.tail.tail]
theorem HD:∀{l m:Z (Int×Int)},dU l=dU m->l=m
 | [],[],_=>rfl
 | [],s::m,h=>by cases h
 |s::l,[],h=>by cases h
 |(a,b)::l,(c,d)::m,h=>by
  rw[k8,k8]at h;injection h with h1 h2
  injection h2 with h2 h3
  simp only at h1 h2;rw[h1,h2,HD h3]
theorem Dm{l:Z (Int×Int)}{c:Int}(h:c∈dU l):∃s∈l,c=s.1\/c=s.2:=by
 obtain⟨s,hs,hc⟩:=List.mem_flatMap.1 h
 grind
theorem zm{l:Z (Int×Int)}(h:kB (dU l)):∀s∈l,s.1<s.2:=by
 induction l with
 |nil=>simp
 |cons a l ih=>
  rw[k8]at h;intro s hs
  rcases fJ.1 hs with rfl|hs
  ·exact h.head _ (by simp)
  ·exact ih h.tail.tail s hs
theorem Ab{l m:Z (Int×Int)}:kB (dU<|l++m)↔kB (dU l)/\kB (dU m)/\∀s∈l,∀t∈m,s.2<t.1:=by
 rw[xW];unfold kB;rw[List.pairwise_append];constructor
 ·rintro⟨h1,h2,h3⟩;exact⟨h1,h2,λs hs t ht=>h3 s.2 (List.mem_flatMap.2 ⟨s,hs,by simp⟩) t.1<|List.mem_flatMap.2 ⟨t,ht,by simp⟩⟩
 ·rintro⟨h1,h2,h3⟩;refine⟨h1,h2,λa ha b hb=>?_⟩;obtain⟨s,hs,ha⟩:=Dm ha;obtain⟨t,ht,hb⟩:=Dm hb;have h4:=h3 s hs t ht;have h5:=zm (l:=l) h1 s hs;have h6:=zm (l:=m) h2 t ht;omega
def md(s:Int×Int):Z (Int×Int)->(Int×Int)×Z (Int×Int)
 | []=>(s,[])
 |a::l=>if a.1<=s.2 then md (min s.1 a.1,max s.2 a.2) l else(s,a::l)
def nB(l:Z (Int×Int))(s:Int×Int):Z (Int×Int):=
 l.takeWhile (λa=>decide<|a.2<s.1)++(md s<|l.dropWhile λa=>decide<|a.2<s.1).1::(md s<|l.dropWhile λa=>decide<|a.2<s.1).2
theorem D1:∀(l:Z (Int×Int))(s:Int×Int),s.1<s.2->kB (dU l)->(∀a∈l,s.1<=a.2)->
  (md s l).1.1<(md s l).1.2/\((md s l).1.1=s.1\/∃a∈l,(md s l).1.1=a.1)/\kB (dU (md s l).2)/\(∀t∈(md s l).2,(md s l).1.2<t.1)/\
  ∀x,kz ((md s l).1::(md s l).2) x=((decide (s.1<=x)&&decide (x<s.2))||kz l x)
 | [],s,h,_,_=>⟨h, .inl rfl,kN,λt(ht:t∈([]:Z (Int×Int)))=>(by cases ht),λx=>rfl⟩
 |a::l,s,h,hi,hs=>by
  have hsp:=zm hi;have ha:=hsp a (by simp);have hi':=hi;rw[k8]at hi';have hsa:=hs a (by simp);unfold md
  by_cases hc:a.1<=s.2
  ·rw[aH hc];have hlt:(min s.1 a.1,max s.2 a.2).1<(min s.1 a.1,max s.2 a.2).2:=by dsimp only;omega
   obtain⟨h1,h2,h3,h4,h5⟩:=D1 l (min s.1 a.1,max s.2 a.2) hlt hi'.tail.tail (λb hb=>by
    grind)
   refine⟨h1,?_,h3,h4,λx=>?_⟩
   ·rcases h2 with h2|⟨b,hb,h2⟩
    ·rw[h2]
     rcases Int.le_total s.1 a.1 with h6|h6
     ·exact .inl (by omega)
     ·exact .inr ⟨a,by simp,by omega⟩
    ·exact .inr ⟨b,jP _ hb,h2⟩
   ·rw[h5,HC,<-Bool.or_assoc];congr 1;clear h1 h2 h3 h4 h5;rw[jQ];simp only[jd,dD,dR];constructor
    ·intro h6
     by_cases h7:s.1<=x/\x<s.2
     ·exact .inl h7
     ·exact .inr (by omega)
    ·rintro(h6|h6) <;> omega
  ·rw[aI hc];refine⟨h, .inl rfl,hi,λt ht=>?_,λx=>rfl⟩;show s.2<t.1
   rcases fJ.1 ht with rfl|ht
   ·omega
   ·have:=((Ab (l:=[a]) (m:=l)).1 hi).2.2 a (by simp) t ht;omega
theorem IB{l:Z (Int×Int)}{c:Int}(h:kB (dU l)):∀a∈l.dropWhile (λa=>decide<|a.2<c),c<=a.2:=by
 induction l with
 |nil=>simp
 |cons b l ih=>
  have h':=h;rw[k8]at h';rw[List.dropWhile_cons]
  by_cases hb:b.2<c
  ·rw[aH (by grind)];exact ih h'.tail.tail
  ·rw[aI (by grind)];intro a ha
   rcases fJ.1 ha with rfl|ha
   ·omega
   ·have h1:=((Ab (l:=[b]) (m:=l)).1 h).2.2 b (by simp) a ha;have h2:=zm h a<|jP _ ha
    omega
theorem IC(l:Z (Int×Int))(c:Int):∀a∈l.takeWhile (λa=>decide<|a.2<c),a.2<c:=by
 induction l with
 |nil=>simp
 |cons b l ih=>
  rw[List.takeWhile_cons]
  grind
theorem CB{l:Z (Int×Int)}{s:Int×Int}(h:kB (dU l))(hs:s.1<s.2):
  kB (dU<|nB l s)/\∀x,kz (nB l s) x=((decide (s.1<=x)&&decide (x<s.2))||kz l x):=by
 have hsplit:=h;rw[<-List.takeWhile_append_dropWhile (p:=λa:Int×Int=>decide<|a.2<s.1) (l:=l),Ab]at hsplit;obtain⟨h1,h2,h3⟩:=hsplit;obtain⟨m1,m2,m3,m4,m5⟩:=D1 (l.dropWhile λa=>decide<|a.2<s.1) s hs h2<|IB h
 unfold nB;refine⟨Ab.2 ⟨h1,?_,λa ha t ht=>?_⟩,λx=>?_⟩
 ·rw[k8];have h4:∀c∈dU (md s<|l.dropWhile λa=>decide<|a.2<s.1).2,(md s<|l.dropWhile λa=>decide<|a.2<s.1).1.2<c:=λc hc=>by
   obtain⟨t,ht,hc⟩:=Dm hc;have:=m4 t ht;have:=zm m3 t ht;omega
  exact qD.2 ⟨λc hc=>by
   grind,qD.2 ⟨h4,m3⟩⟩
 ·grind [IC]
 grind [Kb,List.takeWhile_append_dropWhile,decide,Bool.or_left_comm]
def me:Z Int->Z (Int×Int)
 |a::b::l=>(a,b)::me (b::l)
 |_=>[]
theorem uK:∀{xs:Z Int},kB xs->∀s∈me xs,s.1∈xs/\s.2∈xs/\s.1<s.2/\∀c∈xs,c<=s.1\/s.2<=c
 | [],_,s,hs=>by cases hs
 | [a],_,s,hs=>by cases hs
 |a::b::l,h,s,hs=>by
  have hab:=h.head b (by simp)
  rcases fJ.1 hs with rfl|hs
  ·refine⟨by simp,by simp,hab,λc hc=>?_⟩
   rcases fJ.1 hc with rfl|hc
   ·exact .inl<|Int.le_refl _
   ·rcases fJ.1 hc with rfl|hc
    ·exact .inr<|Int.le_refl _
    ·exact .inr (by have:=h.tail.head c hc;omega)
  ·obtain⟨h1,h2,h3,h4⟩:=uK h.tail s hs;refine⟨jP _ h1,jP _ h2,h3,λc hc=>?_⟩
   rcases fJ.1 hc with rfl|hc
   ·exact .inl (by have:=h.head s.1 h1;omega)
   ·exact h4 c hc
theorem BD:∀{xs:Z Int},kB xs->∀x,(∃s∈me xs,s.1<=x/\x<s.2)\/(∀c∈xs,x<c)\/(∀c∈xs,c<=x)
 | [],_,x=> .inr (.inl λc hc=>by cases hc)
 | [a],_,x=>by
  by_cases h:x<a
  ·exact .inr (.inl λc hc=>by grind)
  ·exact .inr (.inr λc hc=>by grind)
 |a::b::l,h,x=>by
  have hab:=h.head b (by simp)
  rcases BD h.tail x with⟨s,hs,h1⟩|h1|h1
  ·exact .inl ⟨s,jP _ hs,h1⟩
  ·by_cases h2:x<a
   ·exact .inr (.inl λc hc=>by
     grind)
   ·exact .inl ⟨(a,b),by simp[me],by omega,h1 b (by simp)⟩
  ·exact .inr (.inr λc hc=>by
    rcases fJ.1 hc with rfl|hc
    ·have:=h1 b (by simp);omega
    grind)
def Ends(a:Z (Int×Int))(xs:Z Int):Prop:=∀s∈a,s.1∈xs/\s.2∈xs
theorem Mw{a:Z (Int×Int)}{xs:Z Int}(he:Ends a xs)(hx:kB xs){s:Int×Int}(hs:s∈me xs){x:Int}(h1:s.1<=x)(h2:x<s.2):kz a x=kz a s.1:=by
 obtain⟨_,_,h3,h4⟩:=uK hx s hs;rw[jQ,xd,xd];constructor
 ·rintro⟨t,ht,h5,h6⟩;have:=h4 _ (he t ht).1
  grind
 ·rintro⟨t,ht,h5,h6⟩;have:=h4 _ (he t ht).2
  grind
theorem Mx{a:Z (Int×Int)}{xs:Z Int}(he:Ends a xs){x:Int}(h:(∀c∈xs,x<c)\/(∀c∈xs,c<=x)):kz a x=false:=by
 rw[<-ot,xd];rintro⟨t,ht,h5,h6⟩;obtain⟨e1,e2⟩:=he t ht
 grind
def oh(iX:Bool->Bool->Bool)(a b:Z (Int×Int))(ss:Z (Int×Int))(out:Z (Int×Int)):Z (Int×Int):=
 ss.foldl (λout s=>if iX (kz a s.1) (kz b s.1)=true then nB out s else out) out
theorem zn(iX:Bool->Bool->Bool)(a b:Z (Int×Int)):∀(ss out:Z (Int×Int)),kB (dU out)->(∀s∈ss,s.1<s.2)->
  kB (dU<|oh iX a b ss out)/\∀x,kz (oh iX a b ss out) x=(kz out x||ss.any λs=>iX (kz a s.1) (kz b s.1)&&(decide (s.1<=x)&&decide (x<s.2)))
 | [],out,h,_=>⟨h,λx=>by simp[oh]⟩
 |s::ss,out,h,hs=>by
  have h0:=hs s (by simp);unfold oh;rw[List.foldl_cons]
  by_cases hk:iX (kz a s.1) (kz b s.1)=true
  ·rw[aH hk];obtain⟨j1,j2⟩:=CB h h0;obtain⟨m1,m2⟩:=zn iX a b ss (nB out s) j1<|λt ht=>hs t<|jP _ ht
   refine⟨m1,λx=>?_⟩;rw[show kz (List.foldl _ (nB out s) ss) x=_ from m2 x,j2,List.any_cons,hk,Bool.true_and]
   cases kz out x <;> simp
  ·rw[aI hk];obtain⟨m1,m2⟩:=zn iX a b ss out h<|λt ht=>hs t<|jP _ ht
   refine⟨m1,λx=>?_⟩;rw[show kz (List.foldl _ out ss) x=_ from m2 x,List.any_cons,eq_false_of_ne_true hk,Bool.false_and,Bool.false_or]
theorem Kc{iX:Bool->Bool->Bool}(hk:iX false false=false){a b:Z (Int×Int)}{xs:Z Int}(hx:kB xs)(ha:Ends a xs)(hb:Ends b xs):
  kB (dU<|oh iX a b (me xs) [])/\∀x,kz (oh iX a b (me xs) []) x=iX (kz a x) (kz b x):=by
 obtain⟨m1,m2⟩:=zn iX a b (me xs) [] kN<|λs hs=>(uK hx s hs).2.2.1
 refine⟨m1,λx=>?_⟩;rw[m2,show kz [] x=false from rfl,Bool.false_or]
 rcases BD hx x with⟨s,hs,h1,h2⟩|h
 ·rw[jQ,l5];constructor
  ·rintro⟨t,ht,h3⟩
   grind [Mw]
  grind [Mw,bQ]
 ·rw[Mx ha h,Mx hb h,hk,<-ot,l5];rintro⟨t,ht,h3⟩;rw[dD,dD,dR,dR]at h3;obtain⟨e1,e2,_⟩:=uK hx t ht
  grind
def oj(f:Int->Z Int)(ss:Z (Int×Int))(out:Z Bd):Z Bd:=ss.foldl (λout s=>kV out ⟨s.1,s.2,f s.1⟩) out
theorem D2(f:Int->Z Int)(hf:∀y,kB (f y)/\(f y).length % 2=0):∀(ys:Z Int)(out:Z Bd),kB ys->ga out->(∀c∈out,∀y∈ys,c.y1<=y)->
  ga (oj f (me ys) out)/\∀y,rowAt (oj f (me ys) out) y=match(me ys).find? (λs=>decide (s.1<=y)&&decide (y<s.2))with|some s=>f s.1|none=>rowAt out y
 | [],out,_,h,_=>⟨h,λy=>rfl⟩
 | [a],out,_,h,_=>⟨h,λy=>rfl⟩
 |a::b::l,out,hi,h,ho=>by
  have hab:=hi.head b (by simp);have ho1:∀c∈out,c.y1<=(⟨a,b,f a⟩:Bd).y0:=λc hc=>ho c hc a (by simp);have hc:=z9 (b:=⟨a,b,f a⟩) h ho1 (hf a).1 (hf a).2;have htop:=Aa (b:=⟨a,b,f a⟩) ho1 (by show a<=b;omega)
  obtain⟨m1,m2⟩:=D2 f hf (b::l) (kV out ⟨a,b,f a⟩) hi.tail hc (λc hc' y hy=>by
   have h1:=htop c hc';have h2:b<=y:=by
    rcases fJ.1 hy with rfl|hy
    ·exact Int.le_refl _
    ·have:=hi.tail.head y hy;omega
   have h3:c.y1<=b:=h1
   omega)
  refine⟨m1,λy=>?_⟩;show rowAt (oj f (me<|b::l)<|kV out ⟨a,b,f a⟩) y=_;rw[m2 y,show me (a::b::l)=(a,b)::me (b::l)from rfl,List.find?_cons];have hrow:=z8 (s:=out) (b:=⟨a,b,f a⟩) ho1 (λc hc=>(h.each c hc).1) (λh=>absurd h (by show ¬b<=a;omega)) y
  by_cases hy:a<=y/\y<b
  ·have e:(decide (a<=y)&&decide (y<b))=true:=by rw[bQ hy.1,bQ hy.2];rfl
   have hn:(me<|b::l).find? (λs=>decide (s.1<=y)&&decide (y<s.2))=none:=by
    rw[List.find?_eq_none];intro s hs;have:=(uK hi.tail s hs).1;have h5:b<=s.1:=by
     rcases fJ.1 this with h6|h6
     ·omega
     ·have:=hi.tail.head _ h6;omega
    simp;omega
   rw[hn];show rowAt (kV out ⟨a,b,f a⟩) y=_;rw[hrow,aH hy,e]
  ·have e:(decide (a<=y)&&decide (y<b))=false:=by
    rw[Bool.and_eq_false_iff,decide_eq_false_iff_not,decide_eq_false_iff_not];omega
   rw[e]
   cases(me<|b::l).find? (λs=>decide (s.1<=y)&&decide (y<s.2))with
   |some s=>rfl
   |none=>
    show rowAt (kV out ⟨a,b,f a⟩) y=rowAt out y;rw[hrow,aI hy]
theorem D3{f:Int->Z Int}(hf:∀y,kB (f y)/\(f y).length % 2=0){ys:Z Int}(hy:kB ys)(h1:∀s∈me ys,∀y,s.1<=y->y<s.2->f y=f s.1)(h2:∀y,((∀c∈ys,y<c)\/(∀c∈ys,c<=y))->f y= []):
  ga (oj f (me ys) [])/\∀y,rowAt (oj f (me ys) []) y=f y:=by
 obtain⟨m1,m2⟩:=D2 f hf ys [] hy ga.nil (λc hc=>by cases hc);refine⟨m1,λy=>?_⟩;rw[m2 y]
 cases UR:(me ys).find? (λs=>decide (s.1<=y)&&decide (y<s.2))with
 |some s=>
  grind
 |none=>
  show rowAt [] y=f y
  rcases BD hy y with⟨s,hs,h3,h4⟩|h3
  ·grind
  ·rw[h2 y h3];rfl
def Ok{β:Type}(o:aT β)(P:β->Prop):Prop:=∃r,o=some r/\P r
section
variable {α β S R:Type}{P:α->Prop}{Q:β->Prop}
theorem OF{x:β}(h:Q x):Ok (some x) Q:=⟨x,rfl,h⟩
theorem Ok.mono{o:aT α}{P':α->Prop}(h:Ok o P)(k:∀x,P x->P' x):Ok o P':=by obtain⟨x,h1,h2⟩:=h;exact⟨x,h1,k x h2⟩
theorem WJ{o:aT α}{f:α->aT β}(h:Ok o P)(k:∀x,P x->Ok (f x) Q):Ok (o.bind f) Q:=by
 obtain⟨x,h1,h2⟩:=h;grind
theorem IS{o:aT α}{f:α->aT β}{x:α}(h:o=some x)(k:Ok (f x) Q):Ok (o.bind f) Q:=by grind
theorem Xj{b:Bool}{x y:aT β}(ht:b=true->Ok x Q)(hf:b=false->Ok y Q):Ok (bif b then x else y) Q:=by
 grind
theorem XC{o:aT β}{x:β}(h:Ok o (λr=>r=x)):o=some x:=by obtain⟨r,h1,h2⟩:=h;rw[h1,h2]
def Uv(Go:S->Prop)(Rt:R->Prop):Fo S R->Prop| .go s=>Go s| .rt r=>Rt r
def Pn(Nx Br:S->Prop)(Rt:R->Prop):Fl S R->Prop| .nx s=>Nx s| .br s=>Br s| .rt r=>Rt r
theorem W4{Nx Br:S->Prop}{Rt:R->Prop}{s:S}(h:Nx s):Ok (some<|Fl.nx s) (Pn Nx Br Rt):=⟨_,rfl,h⟩
theorem W9{Nx Br:S->Prop}{Rt:R->Prop}{s:S}(h:Br s):Ok (some<|Fl.br s) (Pn Nx Br Rt):=⟨_,rfl,h⟩
theorem XJ{Nx Br:S->Prop}{Rt:R->Prop}{r:R}(h:Rt r):Ok (some (Fl.rt r:Fl S R)) (Pn Nx Br Rt):=⟨_,rfl,h⟩
theorem Xa{Go:S->Prop}{Rt:R->Prop}{o:Fo S R}{f:S->aT β}{g:R->aT β}(h:Uv Go Rt o)(hf:∀s,Go s->Ok (f s) Q)(hg:∀r,Rt r->Ok (g r) Q):Ok (o.cs f g) Q:=by
 cases o with
 |go s=>exact hf s h
 |rt r=>exact hg r h
theorem XI{body:Nat->S->aT S}{m:Nat}{s:S}(Inv:Nat->S->Prop)(hm:m<=4611686018427387904)(h0:Inv 0 s)(h:∀k s,k<m->Inv k s->Ok (body k s) (Inv<|k+1)):Ok (k9 m body s) (Inv m):=
 EO Inv hm h0 h
theorem Y4{body:Nat->S->aT (Fl S R)}{m:Nat}{s:S}(Inv:Nat->S->Prop){Go:S->Prop}{Rt:R->Prop}(hm:m<=4611686018427387904)(h0:Inv 0 s)
  (h:∀k s,k<m->Inv k s->Ok (body k s) (Pn (Inv<|k+1) Go Rt)) (hg:∀s,Inv m s->Go s):Ok (vA m body s) (Uv Go Rt):=by
 obtain⟨o,h1,h2⟩:=PV (R:=R) Inv Go Rt hm h0 (λk s hk hi=>by
  obtain⟨fl,a1,a2⟩:=h k s hk hi
  exact⟨fl,a1,by cases fl <;> exact a2⟩) hg
 exact⟨o,h1,by cases o <;> exact h2⟩
theorem XV{body:S->aT (Fl S R)}{N:Nat}{s:S}(Inv:S->Prop)(μ:S->Nat){Go:S->Prop}{Rt:R->Prop}
  (h:∀s,Inv s->Ok (body s) (Pn (λs'=>Inv s'/\μ s'<μ s) Go Rt)) (hi:Inv s) (hn:μ s<N):Ok (iI body N s) (Uv Go Rt):=by
 obtain⟨o,h1,h2⟩:=Ck (R:=R) Inv μ Go Rt (λs hi=>by
  obtain⟨fl,a1,a2⟩:=h s hi
  exact⟨fl,a1,by cases fl <;> exact a2⟩) N s hi hn
 exact⟨o,h1,by cases o <;> exact h2⟩
theorem Xw{b:Nat}{l ys:Z α}{f:Z α->aT β}(h:(l.length+ys.length)*b<=140737488355328)(k:Ok (f<|l++ys) Q):Ok ((Go.Gk.app b l ys).bind f) Q:=by grind [iS]
theorem XH{l:Z α}{i:Nat}{f:α->aT β}(h:i<l.length)(k:Ok (f l[i]) Q):Ok ((Go.Gk.idx l (i:Int)).bind f) Q:=by grind [np]
theorem WR{l:Z α}{i:Nat}{x:α}{f:α->aT β}(h:l[i]? =some x)(k:Ok (f x) Q):Ok ((Go.Gk.idx l (i:Int)).bind f) Q:=by grind [cB]
end
theorem Kd{n:Nat}(h:n<=4611686018427387904):wrap .i64 (n:Int)=(n:Int):=by grind [gF]
theorem wrap_add{n m:Nat}(h:n+m<=4611686018427387904):wrap .i64 ((n:Int)+(m:Int))=((n+m:Nat):Int):=by grind [gF]
theorem bF{n:Nat}(h:n+1<=4611686018427387904):wrap .i64 ((n:Int)+1)=((n+1:Nat):Int):=by grind [gF]
theorem HE{n:Nat}(h:n+2<=4611686018427387904):wrap .i64 ((n:Int)+2)=((n+2:Nat):Int):=by grind [gF]
theorem gM{α:Type}[DecidableEq α]:∀{l m:Z α},l.Nodup->(∀x∈l,x∈m)->l.length<=m.length
 | [],m,_,_=>cO _
 |a::l,m,hn,hs=>by
  have ha:a∈m:=hs a (by simp);have hn':=List.nodup_cons.1 hn
  have:=gM (l:=l) (m:=m.erase a) hn'.2 (λx hx=>by
   grind)
  rw[List.length_erase_of_mem ha]at this;have:=List.length_pos_of_mem ha;simp;omega
section
variable {α:Type}{N:Nat}
def Uw(z:α)(N:Nat)(p0:Z α)(p1:α->aT Bool):aT (Z α):=
 (xN p0 p1).bind λx31=>bif x31==(-1)then some p0 else((iI (λ(s33:Z α×Int×Int)=>(bif decide (s33.2.2<(s33.1.length:Int))then((idx s33.1 s33.2.2).bind λx54=>(p1 x54).bind λx58=>(bif(!x58)then((idx s33.1 s33.2.1).bind λx63=>some (s33.1.set (Int.toNat s33.2.1) x54,wrap .i64<|s33.2.1+1))else some (s33.1,s33.2.1)).bind λs61=>some<|.nx (s61.1,s61.2,wrap .i64<|s33.2.2+1))else(some<|.br (s33.1,s33.2.1,s33.2.2)):aT (Fl (Z α×Int×Int) Empty))) N (p0,x31,wrap .i64<|x31+1)).bind λo67=>o67.cs (λ(s33:Z α×Int×Int)=>(vC s33.1 s33.2.1 (s33.1.length:Int)).bind λx64=>(vC (s33.1.take (Int.toNat s33.2.1)++List.replicate (s33.1.length - Int.toNat s33.2.1) z) 0 s33.2.1).bind λx65=>some x65)<|λr=>r.elim)
theorem Oz{z:α}{l:Z α}{φ:α->aT Bool}(p:α->Bool)(hφ:∀x∈l,φ x=some (p x))(hl:l.length<=4611686018427387000)(hN:l.length<N):Uw z N l φ=some (l.filter<|λx=> !p x):=by
 unfold Uw;rw[AW p (by omega) hφ,aB]
 rcases z6 l p with⟨h1,h2⟩|⟨k,x,h1,h2,h3,h4⟩
 ·grind [List.filter_eq_self]
 ·rw[h1,show((k:Int)== -1)=false by simp,aQ];have hk:=(bS.1 h2).1;have hpre:(l.take k).filter (λx=> !p x)=l.take k:=List.filter_eq_self.2 λa ha=>by
   grind [dZ,bS,dO,List.getElem?_take_of_lt]
  have hst:l.take (k+1)=l.take k++[x]:=by
   rw[dH hk];grind
  have hk1:wrap .i64 ((k:Int)+1)=((k+1:Nat):Int):=by grind [gF]
  rw[hk1];obtain⟨o,a1,a2⟩:=Ck (S:=Z α×Int×Int) (R:=Empty) (body:=λ(s33:Z α×Int×Int)=>(bif decide (s33.2.2<(s33.1.length:Int))then((idx s33.1 s33.2.2).bind λx54=>(φ x54).bind λx58=>(bif(!x58)then((idx s33.1 s33.2.1).bind λx63=>some (s33.1.set (Int.toNat s33.2.1) x54,wrap .i64<|s33.2.1+1))else some (s33.1,s33.2.1)).bind λs61=>some<|.nx (s61.1,s61.2,wrap .i64<|s33.2.2+1))else(some<|.br (s33.1,s33.2.1,s33.2.2)):aT (Fl (Z α×Int×Int) Empty)))
   (λs=>∃i j:Nat,s.2.1=((i:Nat):Int)/\s.2.2=(j:Int)/\i<j/\j<=l.length/\s.1.length=l.length/\s.1.take i=(l.take j).filter (λx=> !p x)/\∀m,j<=m->s.1[m]? =l[m]?)
   (λs=>l.length - s.2.2.toNat) (λs=>∃i:Nat,s.2.1=((i:Nat):Int)/\i<=l.length/\s.1.length=l.length/\s.1.take i=l.filter (λx=> !p x)) (λ_=>True) (λs⟨i,j,e1,e2,hij,hj,hlen,ht,hd⟩=>by
    obtain⟨s,a,b⟩:=s;dsimp only at e1 e2 hlen ht hd ⊢;subst e1;subst e2
    by_cases hlt:j<l.length
    ·rw[bQ (by omega),aP];have hx:s[j]? =some l[j]:=by grind
     have w1:wrap .i64 ((j:Int)+1)=((j+1:Nat):Int):=by grind [gF]
     have w2:wrap .i64 (((i:Nat):Int)+1)=((i+1:Nat):Int):=by grind [gF]
     have hs2:l.take (j+1)=l.take j++[l[j]]:=dH hlt;rw[cB hx,aB,hφ _<|cH hlt,aB,w1]
     cases hp:p l[j]with
     |true=>
      refine⟨.nx (s,((i:Nat):Int),((j+1:Nat):Int)),by rfl,⟨i,j+1,rfl,rfl,by omega,by omega,hlen,?_,λm hm=>hd m (by omega)⟩,?_⟩
      ·grind
      grind
     |false=>
      refine⟨.nx (s.set i l[j],((i+1:Nat):Int),((j+1:Nat):Int)),by rw[jH,aP,np _ _ (by omega),aB,cK,w2,aB],⟨i+1,j+1,rfl,rfl,by omega,by omega,by simp[hlen],?_,λm hm=>?_⟩,?_⟩
      ·rw[hs2,sR,<-ht];have:(s.set i l[j]).take (i+1)=s.take i++[l[j]]:=by
        rw[dH (by simp;omega),List.take_set_of_le<|cJ _];simp
       rw[this];simp[hp]
      ·rw[lZ,aI (by omega)];exact hd m (by omega)
      ·simp only[cK];omega
    ·rw[bY (by rw[hlen];omega),aQ];have hje:j=l.length:=by omega
     subst hje;rw[dY]at ht
     exact⟨.br (s,((i:Nat):Int),((l.length:Nat):Int)),rfl,i,rfl,by omega,hlen,ht⟩)
   N (l,(k:Int),((k+1:Nat):Int)) ⟨k,k+1,rfl,rfl,by omega,by omega,rfl,by rw[hst,sR,hpre];simp[h3],λ_ _=>rfl⟩ (by simp only[cK];omega)
  rw[a1,aB]
  cases o with
  |rt r=>exact r.elim
  |go s=>
   obtain⟨i,e1,hi,hlen,ht⟩:=a2;obtain⟨s,a,b⟩:=s;dsimp only at e1 hlen ht;subst e1;simp only[Fo.cs];rw[tm _ _ (by omega),aB,cK,uX _ _ (by simp;omega),aB,List.take_append_of_le_length (by simp;omega),List.take_take,Nat.min_self,ht]
end
section
variable {κ ν:Type}[DecidableEq κ]
theorem lJ(m:Z (κ×ν))(k k':κ)(x z:ν):fH (r8 m k x) k' z=if k'=k then x else fH m k' z:=by
 induction m with
 |nil=>grind [r8,fH]
 |cons p m ih=>
  grind [r8,fH,bY,bQ]
theorem n7(m:Z (κ×ν))(k k':κ)(x:ν):kL (r8 m k x) k'=(decide (k'=k)||kL m k'):=by
 induction m with
 |nil=>rfl
 |cons p m ih=>
  unfold r8
  grind [kL,bY,decide]
end
section
variable {N:Nat}
theorem FL(l:Z Int)(a b:Nat)(h:a+b<l.length):Li l (a:Int) (b:Int)=some l[a+b]:=by
 unfold Li;rw[aH (by omega),show(a:Int)+(b:Int)=((a+b:Nat):Int)by omega,np _ _ h]
theorem kB.OA{l:Z Int}{a:Int}(h:kB l)(hl:∀c∈l,c<a):kB (l++[a]):=by
 grind [kB]
theorem kB.last{l:Z Int}{a:Int}(h:kB l)(hl:l.getLast? =some a):∀c∈l,c<=a:=by
 intro c hc;have hs:=vk hl;rw[hs]at h hc
 rcases dI.1 hc with h1|h1
 ·have:=(List.pairwise_append.1 h).2.2 c h1 a (by simp);omega
 grind
theorem ID{l:Z Int}(hs:l.Pairwise (λx y=>x<=y))(hl:l.length<=4611686018427387000)(hN:l.length<N):
  Ok (jg N l) (λm=>kB m/\∀c,c∈m↔c∈l):=by
 unfold jg;refine Xj (λh2=>OF ⟨?_,λc=>Iff.rfl⟩)<|λh2=>?_
 ·have h2:=of_decide_eq_true h2
  match l,h2 with
  | [],_=>exact kN
  | [a],_=>exact List.pairwise_singleton _ _
  |a::b::l,h2=>grind
 ·have h2:=of_decide_eq_false h2;have le:∀(i j:Nat)(x y:Int),i<j->l[i]? =some x->l[j]? =some y->x<=y:=λi j x y hij hx hy=>by
   grind [ox,bS]
  refine WJ (XV (Go:=λ_=>kB l) (Rt:=λm=>kB m/\∀c,c∈m↔c∈l) (λs=>∃k:Nat,s=(k:Int)/\1<=k/\k<=l.length/\kB (l.take k)) (λs=>l.length - s.toNat) ?_ ⟨1,rfl,cJ _,by omega,?_⟩ (by simp;omega)) ?_
  ·rintro s⟨k,rfl,hk1,hkl,hinc⟩;refine Xj (λh=>?_)<|λh=>W9 ?_
   ·have hk:k<l.length:=by grind
    refine XH hk ?_;rw[jB hk1 (by omega)];refine XH (by omega) ?_;refine Xj (λhe=>?_)<|λhe=>?_
    ·have he:l[k]=l[k - 1]:=by grind
     refine IS (tm l k hkl) ?_
     refine WJ (XV (Go:=λs=>∃i:Nat,s.2.1=((i:Nat):Int)/\i<=l.length/\s.1.length=l.length/\kB (s.1.take i)/\∀c,c∈s.1.take i↔c∈l) (Rt:=λ_=>True)
      (λs=>∃i j:Nat,s.2.1=((i:Nat):Int)/\s.2.2=((j:Nat):Int)/\1<=j/\k+j<=l.length/\i<=k+j - 1/\s.1.length=l.length/\kB (s.1.take i)/\(s.1.take i).getLast? =l[k+j - 1]? /\
       (∀c,c∈s.1.take i↔c∈l.take (k+j))/\∀m,k+j - 1<=m->s.1[m]? =l[m]?) (λs=>l.length - s.2.2.toNat) ?_ ?_ (by simp;omega)) ?_
     ·rintro⟨u,a,b⟩⟨i,j,e1,e2,hj,hjl,hij,hlen,hi,hlast,hmem,hrest⟩;dsimp only at e1 e2 hlen hi hlast hmem hrest ⊢;subst e1;subst e2;rw[cK];refine Xj (λh=>?_)<|λh=>W9 ?_
      ·have hlt:k+j<l.length:=by have:=of_decide_eq_true h;omega
       have hx:u[k+j]'(by omega)=l[k+j]:=by have:=hrest (k+j) (by omega);rw[aM (by omega),aM hlt]at this;injection this
       have hy:u[k+(j - 1)]'(by omega)=l[k+(j - 1)]:=by have:=hrest (k+(j - 1)) (by omega);rw[aM (by omega),aM (by omega)]at this;injection this
       refine IS (FL u k j (by omega)) ?_;rw[jB hj (by omega)];refine IS (FL u k (j - 1) (by omega)) ?_;rw[hx,hy];have hts:l.take (k+j+1)=l.take (k+j)++[l[k+j]]:=dH hlt;have hlast':(u.take i).getLast? =some l[k+(j - 1)]:=by rw[hlast,show k+j - 1=k+(j - 1)by omega,aM (by omega)]
       have hxy:l[k+(j - 1)]<=l[k+j]:=le (k+(j - 1)) (k+j) _ _ (by omega) (aM _)<|aM _
       refine WJ (P:=λs'=>s'.1.length=l.length/\∃i':Nat,s'.2=(i':Int)/\i'<=k+j/\kB (s'.1.take i')/\(s'.1.take i').getLast? =l[k+j]? /\(∀c,c∈s'.1.take i'↔c∈l.take (k+j+1))/\∀m,k+j<=m->s'.1[m]? =l[m]?) ?_ ?_
       ·refine Xj (λhne=>?_)<|λhne=>OF ?_
        ·have hne:l[k+j]≠l[k+(j - 1)]:=by simpa using hne
         refine IS (FL u k j (by omega)) ?_;rw[hx];refine XH (by omega)<|OF ⟨by simp[hlen],i+1,?_,by omega,?_⟩
         ·rw[bF (by omega)]
         ·dsimp only;rw[cK];have ht:(u.set i l[k+j]).take (i+1)=u.take i++[l[k+j]]:=by
           rw[dH (by simp;omega),List.take_set_of_le<|cJ _];simp
          rw[ht];refine⟨hi.OA λc hc=>?_,by simp[aM hlt],λc=>?_,λm hm=>?_⟩
          ·have:=hi.last hlast' c hc;omega
          ·rw[hts,dI,dI,hmem]
          ·rw[lZ,aI (by omega)];exact hrest m (by omega)
        ·have he:l[k+j]=l[k+(j - 1)]:=by simpa using hne
         refine⟨hlen,i,rfl,by omega,hi,?_,λc=>?_,λm hm=>hrest m (by omega)⟩
         ·dsimp only;rw[hlast',aM hlt,he]
         ·rw[hts,dI,<-hmem];constructor
          ·exact .inl
          ·rintro(h|h)
           ·exact h
           ·simp at h;subst h;rw[he];exact List.mem_of_getLast? hlast'
       ·rintro⟨v,a⟩⟨g1,i',g2,g3,g4,g5,g6,g7⟩;dsimp only at g1 g2 g4 g5 g6 g7 ⊢;refine W4 ⟨⟨i',j+1,g2,?_,by omega,by omega,by omega,g1,g4,?_,g6,λm hm=>g7 m (by omega)⟩,?_⟩
        ·rw[bF (by omega)]
        ·rw[show k+(j+1) - 1=k+j by omega];exact g5
        ·rw[bF (by omega)];simp only[cK];omega
      ·have hge:k+j=l.length:=by have:=of_decide_eq_false h;omega
       refine⟨i,rfl,by omega,hlen,hi,λc=>?_⟩;rw[hmem,hge,dY]
     ·refine⟨k,1,rfl,rfl,cJ _,by omega,by omega,rfl,hinc,?_,λc=>?_,λm _=>rfl⟩
      ·dsimp only;rw[show k+1 - 1=k by omega,aM hk,he,List.getLast?_eq_getElem?,dO,Nat.min_eq_left hkl,List.getElem?_take_of_lt (by omega),aM (by omega)]
      ·dsimp only;rw[dH hk,dI];constructor
       ·exact .inl
       ·rintro(h|h)
        ·exact h
        ·simp at h;subst h;rw[he];refine gl (i:=k - 1) ?_;rw[List.getElem?_take_of_lt (by omega),aM (by omega)]
     ·rintro o ho;refine Xa ho ?_<|λr=>r.elim
      rintro⟨u,a,b⟩⟨i,e1,hi,hlen,hinc',hmem⟩;dsimp only at e1 hlen hinc' hmem ⊢;subst e1;refine IS (tm u i (by omega)) ?_;rw[cK];refine IS (uX _ i (by simp;omega))<|XJ ?_
      rw[List.take_append_of_le_length (by simp;omega),List.take_take,Nat.min_self];exact⟨hinc',hmem⟩
    ·have he:l[k]≠l[k - 1]:=by simpa using he
     refine W4 ⟨⟨k+1,by rw[bF (by omega)],by omega,by omega,?_⟩,by rw[bF (by omega)];simp only[cK];omega⟩;rw[dH hk];refine hinc.OA λc hc=>?_;have hlast:(l.take k).getLast? =some l[k - 1]:=by
      rw[List.getLast?_eq_getElem?,dO,Nat.min_eq_left hkl,List.getElem?_take_of_lt (by omega),aM (by omega)]
     have h3:=hinc.last hlast c hc;have h4:=le (k - 1) k _ _ (by omega) (aM (by omega:k - 1<l.length))<|aM hk
     omega
   ·have hge:k=l.length:=by have:=of_decide_eq_false h;omega
    subst hge;rw[dY]at hinc;exact hinc
  ·match l,h2 with
   | [],h2=>simp at h2
   |a::l,_=>exact List.pairwise_singleton _ _
  ·rintro o ho;exact Xa ho (λs h=>OF ⟨h,λc=>Iff.rfl⟩)<|λr h=>OF h
def xf(l:Z aF):Z Int:=l.flatMap λr=>[r.X0,r.X1]
def kA(l:Z aF):Z Int:=l.flatMap λr=>[r.Y0,r.Y1]
theorem xg{l:Z aF}{c:Int}:c∈xf l↔∃r∈l,c=r.X0\/c=r.X1:=by simp[xf,List.mem_flatMap]
theorem o7{l:Z aF}{c:Int}:c∈kA l↔∃r∈l,c=r.Y0\/c=r.Y1:=by simp[kA,List.mem_flatMap]
theorem vl(l:Z aF):(xf l).length=2*l.length:=by
 induction l with
 |nil=>rfl
 |cons r l ih=>grind [xf]
theorem nQ(l:Z aF):(kA l).length=2*l.length:=by
 induction l with
 |nil=>rfl
 |cons r l ih=>grind [kA]
def BQ(X Y:Z Int)(s:Z Bd):Prop:=∀b∈s,b.y0∈Y/\b.y1∈Y/\∀c∈b.xs,c∈X
theorem BQ.push{X Y:Z Int}{s:Z Bd}{b:Bd}(h:BQ X Y s)(h0:b.y0∈Y)(h1:b.y1∈Y)(h2:∀c∈b.xs,c∈X):BQ X Y (kV s b):=by
 intro c hc;unfold kV at hc;split at hc
 ·exact h c hc
 ·split at hc
  ·rename_i d hd;have hdm:d∈s:=List.mem_of_getLast? hd;split at hc
   ·rcases dI.1 hc with hc|hc
    ·exact h c<|List.dropLast_subset _ hc
    ·simp at hc;subst hc;exact⟨(h d hdm).1,h1,(h d hdm).2.2⟩
   ·rcases dI.1 hc with hc|hc
    ·exact h c hc
    grind
  grind
theorem kB.nodup{l:Z Int}(h:kB l):l.Nodup:=List.Pairwise.imp (λh=>by omega) h
theorem BQ.row{X Y:Z Int}{s:Z Bd}(h:BQ X Y s)(hc:ga s){b:Bd}(hb:b∈s):b.xs.length<=X.length:=gM (hc.each b hb).2.2.1.nodup (h b hb).2.2
theorem BQ.len{X Y:Z Int}{s:Z Bd}(h:BQ X Y s)(hc:ga s):s.length<=Y.length:=by
 have hn:(s.map Bd.y0).Nodup:=by
  unfold List.Nodup;rw[List.pairwise_map];refine List.Pairwise.imp_of_mem (λ{a b}ha hb hab=>?_) hc.ord;have:=(hc.each a ha).1;omega
 have:=gM hn (m:=Y) (λx hx=>by
  obtain⟨b,hb,rfl⟩:=dN.1 hx
  exact(h b hb).1)
 grind
theorem BQ.mono{X Y X' Y':Z Int}{s:Z Bd}(h:BQ X Y s)(hx:∀c∈X,c∈X')(hy:∀c∈Y,c∈Y'):BQ X' Y' s:=λb hb=>⟨hy _ (h b hb).1,hy _ (h b hb).2.1,λc hc=>hx c<|(h b hb).2.2 c hc⟩
theorem Nl(s:Z Bd)(b:Bd):(kV s b).length<=s.length+1:=by
 grind [kV,vk]
theorem kB.lt{l:Z Int}(h:kB l){i j:Nat}{x y:Int}(hij:i<j)(hx:l[i]? =some x)(hy:l[j]? =some y):x<y:=by
 have:=ox.1 h i j (bS.1 hx).1 (bS.1 hy).1 hij
 grind
theorem kB.next{l:Z Int}(h:kB l){k:Nat}{x y c:Int}(hx:l[k]? =some x)(hy:l[k+1]? =some y)(hc:c∈l)(hxc:x<c):y<=c:=by
 obtain⟨j,hj⟩:=dZ hc
 rcases Nat.lt_trichotomy j (k+1)with h1|h1|h1
 ·exfalso
  by_cases e:j=k
  ·grind
  ·have:=h.lt (show j<k by omega) hj hx;omega
 ·grind
 ·have:=h.lt h1 hy hj;omega
theorem BE{l:Z aF}{φ:aF->aT Bool}(p:aF->Bool)(hφ:∀x∈l,φ x=some (p x))(hl:l.length<=4611686018427387000)(hN:l.length<N):jT N l φ=some (l.filter<|λx=> !p x):=
 Oz (z:=(⟨0,0,0,0⟩:aF)) p hφ hl hN
theorem G4{l:Z aF}(hl:l.length<=268435456):kO N l=some l:=by
 grind [kO,iS,aB]
structure Ux (l m:Z aF) (ys:Z Int) (k:Nat) (out:Z aA) (now:Z aF) (nx:Nat):Prop where
 can:ga (out.map cQ)
 top:∀c∈out,∀y,ys[k]? =some y->c.Y1<=y
 cover:∀x y,yQ (out.map cQ) x y=(vX l x y&&decide (∀a,ys[k]? =some a->y<a))
 FM:BQ (xf l) (kA l) (out.map cQ)
 Wy:∀r∈now,r∈m.take nx
 Wz:∀r∈m.take nx,∀y,ys[k]? =some y->y<r.Y1->r∈now
 len:now.length<=nx
 V5:nx<=m.length
 rest:∀(j:Nat)r y,nx<=j->m[j]? =some r->ys[k]? =some y->y<=r.Y0
 low:∀r∈now,∀y,ys[k]? =some y->r.Y0<=y
theorem P5{l m:Z aF}(h:∀r,r∈l↔r∈m)(x y:Int):vX l x y=vX m x y:=by
 grind [kW]
structure vm (l:Z aF) (s:Z aA):Prop where
 can:ga (s.map cQ)
 cover:∀x y,yQ (s.map cQ) x y=vX l x y
 FM:BQ (xf l) (kA l) (s.map cQ)
theorem sJ{l:Z aF}(hl:l.length<=134217728)(hok:∀r∈l,GL r)(hN:4294967296<=N):Ok (jm N l) (vm l):=by
 unfold jm;refine IS (G4 (by omega)) ?_
 obtain⟨m,h1,h2,h3⟩:=FB (φ:=lN N) (l:=l) (λa b=>a.Y0 - b.Y0) (λa ha b hb=>by
  unfold lN;rw[FJ (hok a ha).s3 (hok b hb).s3]) (λa _=>by omega) (λa _ b _ c _ h1 h2=>by omega) (λa _ b _ c _ h1 h2=>by omega) (by omega)
 refine IS h1 ?_;have hml:m.length=l.length:=h2.length_eq;have hmem:∀r,r∈m↔r∈l:=λr=>h2.mem_iff;refine WJ (XI (λk s=>s=kA (m.take k)) (by omega) rfl<|λk s hk e=>?_) ?_
 ·grind [XH,Xw,OF,nQ,dH,kA]
 rintro s rfl;rw[dY];have hgs:yU (kA m)=some ((kA m).mergeSort<|λx y=>decide<|x<=y):=by grind [yU,nQ]
 refine IS hgs ?_;have hsp:((kA m).mergeSort<|λx y=>decide<|x<=y).Pairwise (λx y=>x<=y):=by
  grind [List.pairwise_mergeSort,decide,kA,List.Pairwise.imp]
 have hsm:∀c,c∈(kA m).mergeSort (λx y=>decide<|x<=y)↔c∈kA m:=λc=>List.mem_mergeSort;have hsl:((kA m).mergeSort<|λx y=>decide<|x<=y).length=2*m.length:=by rw[List.length_mergeSort,nQ]
 generalize (kA m).mergeSort (λx y=>decide<|x<=y)=sy at hsp hsm hsl;refine WJ (ID (N:=N) hsp (by omega) (by omega)) ?_;rintro ys⟨hy,hym⟩;have hyl:ys.length<=2*m.length:=by
  have:=gM hy.nodup (m:=sy)<|λc hc=>(hym c).1 hc
  omega
 have y0m:∀r∈m,r.Y0∈ys:=λr hr=>(hym _).2<|(hsm _).2<|o7.2 ⟨r,hr, .inl rfl⟩
 have y1m:∀r∈m,r.Y1∈ys:=λr hr=>(hym _).2<|(hsm _).2<|o7.2 ⟨r,hr, .inr rfl⟩
 have yml:∀c∈ys,c∈kA l:=λc hc=>by
  grind [o7]
 refine WJ (XV (Go:=λs=>vm l s.1) (Rt:=λ_=>True) (λs=>∃k nx:Nat,s.2.2.2=((k:Nat):Int)/\s.2.2.1=(nx:Int)/\(k<ys.length\/k=0)/\Ux l m ys k s.1 s.2.1 nx) (λs=>ys.length - s.2.2.2.toNat) ?_ ?_ (by simp;omega)) ?_
 ·rintro⟨out,now,a,b⟩⟨k,nx,e1,e2,hk,I⟩;dsimp only at e1 e2 I ⊢;subst e1;subst e2;rw[bF (by omega)];refine Xj (λh=>?_)<|λh=>W9 ?_
  ·have hk1:k+1<ys.length:=by grind
   have hyk:ys[k]? =some ys[k]:=aM _;have hyk1:ys[k+1]? =some ys[k+1]:=aM hk1;have hlt:=hy.lt (Nat.lt_succ_self k) hyk hyk1;have hcov:=I.cover;simp only[hyk,Option.some.injEq,forall_eq']at hcov;refine IS (BE (λr=>decide<|r.Y1<=ys[k]) (λr _=>by grind [rE,np,aB]) (by have:=I.len;have:=I.V5;omega) (by have:=I.len;have:=I.V5;omega)) ?_;have hfl:=l4 (λr:aF=> !decide (r.Y1<=ys[k])) now;have hIl:=I.len;have hIn:=I.V5
   refine WJ (XV (Go:=λs=>∃nx':Nat,s.2=((nx':Nat):Int)/\nx'<=m.length/\s.1.length<=nx'/\(∀r∈s.1,r∈m.take nx')/\(∀r∈m.take nx',ys[k]<r.Y1->r∈s.1)/\(∀r∈s.1,r.Y0<=ys[k]/\ys[k]<r.Y1)/\(∀(j:Nat)r,nx'<=j->m[j]? =some r->ys[k]<r.Y0)) (Rt:=λ_=>True)
    (λs=>∃nx':Nat,s.2=((nx':Nat):Int)/\nx<=nx'/\nx'<=m.length/\s.1.length<=nx'/\(∀r∈s.1,r∈m.take nx')/\(∀r∈m.take nx',ys[k]<r.Y1->r∈s.1)/\(∀r∈s.1,r.Y0<=ys[k]/\ys[k]<r.Y1)) (λs=>m.length - s.2.toNat) ?_ ?_ (by simp;omega)) ?_
   ·rintro⟨nw,b⟩⟨nx',e1,g0,g1,g2,g3,g4,g5⟩;dsimp only at e1 g2 g3 g4 g5 ⊢;subst e1;refine WJ (P:=λb=>b=true↔∃h:nx'<m.length,m[nx'].Y0<=ys[k]) ?_ ?_
    ·refine Xj (λh=>?_)<|λh=>OF ?_
     ·have hlt:nx'<m.length:=by have:=of_decide_eq_true h;omega
      refine XH hlt<|XH (by omega)<|OF ?_
      rw[dR];exact⟨λh=>⟨hlt,h⟩,λ⟨_,h⟩=>h⟩
     ·have:=of_decide_eq_false h;constructor
      ·intro h;cases h
      ·rintro⟨h,_⟩;omega
    ·intro bb hbb;refine Xj (λh=>?_)<|λh=>W9 ?_
     ·obtain⟨hlt,h0⟩:=hbb.1 h;have hts:m.take (nx'+1)=m.take nx'++[m[nx']]:=dH hlt;refine XH hlt<|Xw (by simp;omega)<|W4 ⟨⟨nx'+1,by rw[bF (by omega)],by omega,by omega,by simp;omega,λr hr=>?_,λr hr hr2=>?_,λr hr=>?_⟩,by rw[bF (by omega)];simp only[cK];omega⟩
      ·rw[hts]
       rcases dI.1 hr with h|h
       ·exact List.mem_append_left _<|g3 r h
       ·exact List.mem_append_right _ h
      ·rw[hts]at hr
       rcases dI.1 hr with h|h
       ·exact List.mem_append_left _<|g4 r h hr2
       ·exact List.mem_append_right _ h
      ·rcases dI.1 hr with h|h
       ·exact g5 r h
       ·simp at h;subst h;refine⟨h0,?_⟩;have:=(hok m[nx']<|(hmem _).1<|cH hlt).y;have:=I.rest nx' _ ys[k] g0 (aM hlt) hyk;omega
     ·refine⟨nx',rfl,g1,g2,g3,g4,g5,λj r hj hr=>?_⟩;have hjl:=(bS.1 hr).1;have hlt:nx'<m.length:=by omega
      have h0:¬m[nx'].Y0<=ys[k]:=λh0=>by rw[hbb.2 ⟨hlt,h0⟩]at h;cases h
      by_cases e:nx'=j
      ·subst e;rw[aM hlt]at hr;injection hr with hr;subst hr;omega
      ·have:=ox.1 h3 nx' j hlt hjl (by omega);have hr':=(bS.1 hr).2;rw[hr']at this;omega
   ·refine⟨nx,rfl,cJ _,hIn,by dsimp only;omega,λr hr=>I.Wy r (lu.1 hr).1,λr hr h=>lu.2 ⟨I.Wz r hr ys[k] hyk h,by simpa using h⟩,λr hr=>?_⟩;have hr:=lu.1 hr;have hr2:ys[k]<r.Y1:=by simpa using hr.2
    exact⟨I.low r hr.1 ys[k] hyk,hr2⟩
   ·rintro o ho;refine Xa ho ?_<|λr=>r.elim
    rintro⟨nw,b⟩⟨nx',e1,g1,g2,g3,g4,g5,g6⟩;dsimp only at e1 g2 g3 g4 g5 ⊢;subst e1;refine XH (by omega)<|XH hk1 ?_
    have hnm:∀r∈nw,r∈l:=λr hr=>(hmem r).1<|List.take_subset _ _<|g3 r hr
    obtain⟨row,nw',s1,s2,s3,s4,s5,s6,s7⟩:=IA (N:=N) (l:=nw) (by omega)<|λr hr=>hok r<|hnm r hr
    refine IS s1 ?_;have hlimx:∀c∈row,c∈xf l:=λc hc=>by
     obtain⟨r,hr,h⟩:=s7 c hc;exact xg.2 ⟨r,hnm r hr,h⟩
    have hol:out.length<=2*l.length:=by have:=I.FM.len I.can;rw[nQ,dM]at this;exact this
    have hox:∀c∈out,c.Xs.length<=2*l.length:=λc hc=>by
     have:=I.FM.row I.can (b:=cQ c)<|dN.2 ⟨c,hc,rfl⟩
     rw[vl]at this;exact this
    obtain⟨out',p1,p2⟩:=Mv (N:=N) (s:=out) (b:=⟨ys[k],ys[k+1],row⟩) (by omega) (λc hc=>by have:=hox c hc;omega);refine IS p1 ?_;have htop:∀c∈out.map cQ,c.y1<=(cQ ⟨ys[k],ys[k+1],row⟩).y0:=λc hc=>by
     obtain⟨d,hd,rfl⟩:=dN.1 hc;exact I.top d hd ys[k] hyk
    have hcan:=z9 I.can htop s3 s4;refine W4 ⟨⟨k+1,nx',rfl,rfl, .inl hk1,⟨by dsimp only;rw[p2];exact hcan,λc hc y hy1=>?_,λx y=>?_,?_,λr hr=>g3 r<|s2.subset hr,λr hr y hy1 h=>?_,by rw[s2.length_eq];exact g2,g1,λj r y hj hr hy1=>?_,λr hr y hy1=>?_⟩⟩,by simp only[cK];omega⟩
    ·rw[hyk1]at hy1;injection hy1 with hy1;subst hy1
     have hm':cQ c∈kV (out.map cQ) (cQ ⟨ys[k],ys[k+1],row⟩):=by rw[<-p2];exact dN.2 ⟨c,hc,rfl⟩
     exact Aa htop (by show ys[k]<=ys[k+1];omega) _ hm'
    ·simp only[hyk1,Option.some.injEq,forall_eq'];unfold yQ;rw[p2,z8 htop (λc hc=>(I.can.each c hc).1)<|λh=>absurd h (by show ¬ys[k+1]<=ys[k];omega)]
     by_cases hyy:ys[k]<=y/\y<ys[k+1]
     ·rw[aH (show(cQ ⟨ys[k],ys[k+1],row⟩).y0<=y/\y<(cQ ⟨ys[k],ys[k+1],row⟩).y1 from hyy),bQ hyy.2,Bool.and_true];show r6 row x=_;rw[s5,jQ,FI,kW];constructor
      ·rintro⟨r,hr,h⟩;have hrm:=List.take_subset _ _<|g3 r hr
       have h5:=g5 r hr;have:=hy.next hyk hyk1 (y1m r hrm) h5.2;exact⟨r,hnm r hr,h,by omega,by omega⟩
      ·rintro⟨r,hr,h,h7,h8⟩;have hrm:=(hmem r).2 hr;have h9:r.Y0<=ys[k]:=by
        by_cases h10:r.Y0<=ys[k]
        ·exact h10
        ·have:=hy.next hyk hyk1 (y0m r hrm) (by omega);omega
       have h11:r∈m.take nx':=by
        obtain⟨j,hj⟩:=dZ hrm
        by_cases h12:j<nx'
        ·exact gl (i:=j) (by rw[List.getElem?_take_of_lt h12];exact hj)
        ·have:=g6 j r (by omega) hj;omega
       exact⟨r,g4 r h11 (by omega),h⟩
     ·rw[aI (show ¬((cQ ⟨ys[k],ys[k+1],row⟩).y0<=y/\y<(cQ ⟨ys[k],ys[k+1],row⟩).y1)from hyy)];show yQ (out.map cQ) x y=_;rw[hcov]
      by_cases h1:y<ys[k]
      ·rw[bQ h1,bQ (show y<ys[k+1]by omega)]
      ·rw[bY h1,bY (show ¬y<ys[k+1]by omega)]
    ·show BQ (xf l) (kA l) (out'.map cQ);rw[p2];exact I.FM.push (yml _<|cH _) (yml _<|cH _) hlimx
    ·rw[hyk1]at hy1;injection hy1 with hy1;subst hy1
     exact s2.symm.subset<|g4 r hr (by omega)
    ·rw[hyk1]at hy1;injection hy1 with hy1;subst hy1
     exact hy.next hyk hyk1 (y0m r<|gl hr)<|g6 j r hj hr
    ·rw[hyk1]at hy1;injection hy1 with hy1;subst hy1
     have:=(g5 r<|s2.subset hr).1;omega
  ·have hge:¬k+1<ys.length:=by have:=of_decide_eq_false h;omega
   refine⟨I.can,λx y=>?_,I.FM⟩;rw[I.cover]
   by_cases hyn:ys= []
   ·have:vX l x y=false:=by
     rw[<-ot,kW];rintro⟨r,hr,_⟩;have:=y0m r<|(hmem r).2 hr
     rw[hyn]at this;cases this
    rw[this];rfl
   ·have hkl:k<ys.length:=by
     rcases hk with h|h
     ·exact h
     ·subst h;exact List.length_pos_iff.2 hyn
    rw[aM hkl];simp only[Option.some.injEq,forall_eq']
    cases hc:vX l x y with
    |false=>rfl
    |true=>
     obtain⟨r,hr,_,h7,h8⟩:=kW.1 hc;have:=y1m r<|(hmem r).2 hr
     obtain⟨j,hj⟩:=dZ this;have hjl:=(bS.1 hj).1;have:r.Y1<=ys[k]:=by
      by_cases e:j=k
      ·subst e;rw[aM hkl]at hj;injection hj with hj;omega
      ·have:=hy.lt (show j<k by omega) hj<|aM hkl;omega
     rw[bQ (show y<ys[k]by omega)];rfl
 ·refine⟨0,0,rfl,rfl, .inr rfl,?_⟩;show Ux l m ys 0 [] [] 0;refine⟨ga.nil,λc hc=>(by cases hc),λx y=>?_,λb hb=>(by cases hb),λr hr=>(by cases hr),λr hr=>(by rw[List.take_zero]at hr;cases hr),cJ _,cO _,λj r y _ hr hy0=>?_,λr hr=>(by cases hr)⟩
  ·show false=_;symm;rw[Bool.and_eq_false_iff]
   cases hc:vX l x y with
   |false=>exact .inl rfl
   |true=>
    right;obtain⟨r,hr,_,h7,h8⟩:=kW.1 hc;have hr0:=y0m r<|(hmem r).2 hr
    have hpos:0<ys.length:=List.length_pos_of_mem hr0;rw[decide_eq_false_iff_not];intro h;have h:=h ys[0]<|aM hpos
    obtain⟨j,hj⟩:=dZ hr0
    by_cases e:j=0
    ·subst e;rw[aM hpos]at hj;injection hj with hj;omega
    ·have:=hy.lt (show 0<j by omega) (aM hpos) hj;omega
  ·obtain⟨j',hj'⟩:=dZ<|y0m r<|gl hr
   by_cases e:j'=0
   ·subst e;rw[hy0]at hj';injection hj' with hj';omega
   ·have:=hy.lt (show 0<j' by omega) hy0 hj';omega
 ·rintro o ho;refine Xa ho (λs h=>OF h)<|λr=>r.elim
end
section
variable {N:Nat}
def FN:Z Int->Z (Int×Int)
 |a::b::l=>(a,b)::FN l
 |_=>[]
theorem ER:∀(xs:Z Int),(FN xs).length=xs.length / 2
 | []=>rfl
 | [a]=>by simp[FN]
 |a::b::l=>by unfold FN;rw[dX,ER l];simp only[dX];omega
theorem CC:∀(xs:Z Int)(j:Nat)(h:2*j+1<xs.length),(FN xs)[j]? =some (xs[2*j],xs[2*j+1])
 | [],j,h=>by simp at h
 | [a],j,h=>by simp at h
 |a::b::l,0,h=>rfl
 |a::b::l,j+1,h=>by
  have:=CC l j (by grind);unfold FN;rw[List.getElem?_cons_succ,this];have e1:(a::b::l)[2*(j+1)]=l[2*j]'(by grind):=by simp[show 2*(j+1)=2*j+1+1 by omega]
  have e2:(a::b::l)[2*(j+1)+1]=l[2*j+1]'(by grind):=by simp[show 2*(j+1)+1=2*j+1+1+1 by omega]
  rw[e1,e2]
theorem FO:∀{xs:Z Int},xs.length % 2=0->dU (FN xs)=xs
 | [],_=>rfl
 | [a],h=>by simp at h
 |a::b::l,h=>by unfold FN;rw[k8,FO (by grind)]
theorem P6{xs:Z Int}(h:kB xs)(he:xs.length % 2=0)(x:Int):r6 xs x=kz (FN xs) x:=by
 grind [xe,FN,FO]
theorem IE{xs:Z Int}:∀p∈FN xs,p.1∈xs/\p.2∈xs:=by
 grind [dZ,bS,ER,CC,cH]
theorem IF{xs:Z Int}(h:kB xs):∀p∈FN xs,p.1<p.2:=by
 intro p hp;obtain⟨j,hj⟩:=dZ hp;have hjl:=(bS.1 hj).1;rw[ER]at hjl;rw[CC xs j (by omega)]at hj;injection hj with hj;subst hj
 exact h.lt (show 2*j<2*j+1 by omega) (aM _)<|aM _
def o8(b:aA):Z aF:=(FN b.Xs).map λp=>⟨p.1,b.Y0,p.2,b.Y1⟩
def bB(s:Z aA):Z aF:=s.flatMap o8
theorem o9(b:aA)(s:Z aA):bB (b::s)=o8 b++bB s:=rfl
theorem sK(b:aA):(o8 b).length=b.Xs.length / 2:=by simp[o8,dM,ER]
theorem qy(s t:Z aA):bB (s++t)=bB s++bB t:=List.flatMap_append
theorem Dn(s:Z aA)(k:Nat):(bB<|s.take k).length<=(bB s).length:=by
 grind [List.take_append_drop,qy,eP]
theorem FP{s:Z aA}{A B:Nat}(h1:s.length<=A)(h2:∀b∈s,b.Xs.length<=B):(bB s).length<=A*B:=by
 induction s generalizing A with
 |nil=>simp[bB]
 |cons b s ih=>
  rw[o9,eP,sK];simp at h1;obtain⟨A',rfl⟩:∃A',A=A'+1:=⟨A - 1,by omega⟩
  grind
theorem FQ{s:Z aA}(he:∀b∈s,b.Xs.length % 2=0)(h1:s.length<=1099511627776)(h2:∀b∈s,b.Xs.length<=1099511627776/\b.Xs.length<N)(h3:(bB s).length<=1099511627776):k6 N s=some (bB s):=by
 refine XC ?_;unfold k6;refine WJ (XI (λk t=>t=bB (s.take k)) (by omega) rfl<|λk t hk e=>?_)<|λt e=>OF (by rw[e,dY])
 subst e;refine XH hk ?_;have hm:=cH hk;generalize hb:s[k]=b at hm ⊢;have heb:=he b hm;have hbl:=h2 b hm;have hts:bB (s.take<|k+1)=bB (s.take k)++o8 b:=by
  grind [dH,qy,bB]
 have hle:=Dn s<|k+1
 rw[hts,eP,sK]at hle;refine WJ (XV (Go:=λs'=>s'.1=bB (s.take<|k+1)) (Rt:=λ_=>True) (λs'=>∃j:Nat,s'.2=((2*j:Nat):Int)/\2*j<=b.Xs.length/\s'.1=bB (s.take k)++(o8 b).take j) (λs'=>b.Xs.length - s'.2.toNat) ?_ ⟨0,rfl,by omega,by simp⟩ (by simp;omega)) ?_
 ·rintro⟨acc,i⟩⟨j,e1,hj,e2⟩;dsimp only at e1 e2 ⊢;subst e1;subst e2;refine Xj (λh=>?_)<|λh=>W9 ?_
  ·have hlt:2*j+1<b.Xs.length:=by grind
   refine XH (by omega) ?_;rw[bF (by omega)];refine XH hlt<|Xw ?_<|W4 ⟨⟨j+1,?_,by omega,?_⟩,?_⟩
   ·grind
   ·rw[HE (by omega)];congr 1
   ·rw[lx];congr 1;have hg:(o8 b)[j]? =some ⟨b.Xs[2*j],b.Y0,b.Xs[2*j+1],b.Y1⟩:=by
     grind [o8,CC]
    have hjl:=(bS.1 hg).1;rw[dH hjl,(bS.1 hg).2]
   ·rw[HE (by omega)];simp only[cK];omega
  ·have hge:2*j=b.Xs.length:=by have:=of_decide_eq_false h;omega
   show bB (s.take k)++(o8 b).take j=_;rw[hts,nc (l:=o8 b) (by rw[sK];omega)]
 ·rintro o ho;exact Xa ho (λs' h=>OF h)<|λr=>r.elim
theorem P7{s:Z aA}(h1:s.length<=1099511627776)(h2:∀b∈s,b.Xs.length<=1099511627776)(h3:(bB s).length<=1099511627776):oN N s=some (((bB s).length:Nat):Int):=by
 refine XC ?_;unfold oN;refine WJ (XI (λk t=>t=(((bB<|s.take k).length:Nat):Int)) (by omega) rfl<|λk t hk e=>?_)<|λt e=>OF (by rw[e,dY])
 subst e;refine XH hk<|OF ?_
 have hm:=cH hk;have hbl:=h2 _ hm;have hts:bB (s.take<|k+1)=bB (s.take k)++o8 s[k]:=by
  grind [dH,qy,bB]
 grind [hle,Dn,eP,sK,Int.tdiv,Int.ofNat_tdiv,Kd,wrap_add]
theorem LC(l m:Z aF)(x y:Int):vX (l++m) x y=(vX l x y||vX m x y):=List.any_append
theorem OB{b:aA}(h:kB b.Xs)(he:b.Xs.length % 2=0)(x y:Int):vX (o8 b) x y=(r6 b.Xs x&&(decide (b.Y0<=y)&&decide (y<b.Y1))):=by
 rw[P6 h he,jQ,kW,dD,xd,dD,dR,dR];unfold o8;constructor
 ·grind
 ·rintro⟨⟨p,hp,h1⟩,h2⟩;exact⟨_,dN.2 ⟨p,hp,rfl⟩,h1,h2⟩
theorem rn:∀{s:Z aA},ga (s.map cQ)->∀x y,vX (bB s) x y=yQ (s.map cQ) x y
 | [],_,x,y=>rfl
 |b::s,h,x,y=>by
  rw[o9,LC,rn h.tail x y];have hb:=h.each (cQ b) (by simp);rw[OB hb.2.2.1 hb.2.2.2];unfold yQ;rw[eV,o5]
  by_cases hy:b.Y0<=y/\y<b.Y1
  ·rw[aH (show(cQ b).y0<=y/\y<(cQ b).y1 from hy),nA<|λc hc=> .inl (by have:=h.FG c hc;grind [cQ]),bQ hy.1,bQ hy.2];show(r6 b.Xs x&&true||false)=r6 b.Xs x;simp
  ·rw[aI (show ¬((cQ b).y0<=y/\y<(cQ b).y1)from hy)];have:(decide (b.Y0<=y)&&decide (y<b.Y1))=false:=by rw[Bool.and_eq_false_iff,decide_eq_false_iff_not,decide_eq_false_iff_not];omega
   rw[this];simp
theorem sL{s:Z aA}{r:aF}(h:r∈bB s):∃b∈s,∃p∈FN b.Xs,r= ⟨p.1,b.Y0,p.2,b.Y1⟩:=by
 unfold bB o8 at h
 grind
theorem FR{s:Z aA}{X Y:Z Int}(h:ga (s.map cQ))(hl:BQ X Y (s.map cQ))(hx:∀c∈X,small c)(hy:∀c∈Y,small c):∀r∈bB s,GL r/\(r.X0∈X/\r.X1∈X)/\r.Y0∈Y/\r.Y1∈Y:=by
 intro r hr;obtain⟨b,hb,p,hp,rfl⟩:=sL hr;have hm:cQ b∈s.map cQ:=dN.2 ⟨b,hb,rfl⟩;have hc:=h.each _ hm;have hll:=hl _ hm;have h1:=IE p hp;have h2:=hll.2.2 p.1 h1.1;have h3:=hll.2.2 p.2 h1.2;exact⟨⟨IF hc.2.2.1 p hp,hc.1,hx _ h2,hx _ h3,hy _ hll.1,hy _ hll.2.1⟩,⟨h2,h3⟩,hll.1,hll.2.1⟩
theorem BF{l:Z Int}{x:Int}(h:∀c∈l,c<=x):r6 l x=(l.length % 2==1):=by grind [r6,Mt]
theorem Dp{l:Z Int}{a x:Int}(h:x<a):r6 (l++[a]) x=r6 l x:=by grind [r6,FC,rV,Iz]
def Nm(l:Z Int):Bool:=l.length % 2==1
theorem FT(l:Z Int)(a:Int):Nm (l++[a]) = !Nm l:=by
 unfold Nm
 grind
structure Ke (iX:Bool->Bool->Bool) (a b a' b' out:Z Int) (inA inB is:Bool) (pa pb:Z Int):Prop where
 ea:a=pa++a'
 eb:b=pb++b'
 oa:inA=Nm pa
 ob:inB=Nm pb
 oo:is=Nm out
 ok:is=iX inA inB
 low:∀c,(c∈pa\/c∈pb\/c∈out)->∀d,(d∈a'\/d∈b')->c<d
 inc:kB out
 Uy:∀x,(∀d,(d∈a'\/d∈b')->x<d)->r6 out x=iX (r6 pa x) (r6 pb x)
 mem:∀c∈out,c∈pa\/c∈pb
 len:out.length<=pa.length+pb.length
theorem Ke.step{iX:Bool->Bool->Bool}{a b a' b' out:Z Int}{inA inB is:Bool}{pa pb:Z Int}(I:Ke iX a b a' b' out inA inB is pa pb)(ha:kB a)(hb:kB b)(x:Int)(ta tb:Z Int)(wa wb:Bool)
  (h1:a'=(if wa then x::ta else ta)) (h2:b'=(if wb then x::tb else tb)) (hw:wa=true\/wb=true) (hx:∀d,(d∈ta\/d∈tb)->x<d):
  Ke iX a b ta tb (if iX (inA ^^ wa) (inB ^^ wb)=is then out else out++[x]) (inA ^^ wa) (inB ^^ wb) (iX (inA ^^ wa)<|inB ^^ wb) (if wa then pa++[x]else pa) (if wb then pb++[x]else pb):=by
 have hxm:x∈a'\/x∈b':=by
  grind
 have hsub:∀d,(d∈ta\/d∈tb)->d∈a'\/d∈b':=λd hd=>by
  grind
 have hlow:∀c,(c∈pa\/c∈pb\/c∈out)->c<x:=λc hc=>I.low c hc x hxm;have hpa:∀c∈(if wa then pa++[x]else pa),c∈pa\/(wa=true/\c=x):=λc hc=>by
  grind
 have hpb:∀c∈(if wb then pb++[x]else pb),c∈pb\/(wb=true/\c=x):=λc hc=>by
  grind
 have hout:∀c∈(if iX (inA ^^ wa) (inB ^^ wb)=is then out else out++[x]),c∈out\/c=x:=λc hc=>by
  grind
 have ooA:(inA ^^ wa)=Nm (if wa then pa++[x]else pa):=by
  rw[I.oa];grind [FT]
 have ooB:(inB ^^ wb)=Nm (if wb then pb++[x]else pb):=by
  rw[I.ob];grind [FT]
 have ooO:iX (inA ^^ wa) (inB ^^ wb)=Nm (if iX (inA ^^ wa) (inB ^^ wb)=is then out else out++[x]):=by
  split
  ·rename_i h;rw[h];exact I.oo
  ·rename_i h;rw[FT,<-I.oo]
   cases hk:iX (inA ^^ wa) (inB ^^ wb) <;> cases his:is <;> simp_all
 refine⟨?_,?_,ooA,ooB,ooO,rfl,?_,?_,?_,?_,?_⟩
 ·rw[I.ea,h1];grind
 ·rw[I.eb,h2];grind
 ·grind
 ·split
  ·exact I.inc
  ·exact I.inc.OA λc hc=>hlow c<|.inr<|.inr hc
 ·intro y hy
  by_cases hxy:y<x
  ·have e1:r6 (if wa then pa++[x]else pa) y=r6 pa y:=by grind [Dp]
   have e2:r6 (if wb then pb++[x]else pb) y=r6 pb y:=by grind [Dp]
   have e3:r6 (if iX (inA ^^ wa) (inB ^^ wb)=is then out else out++[x]) y=r6 out y:=by grind [Dp]
   rw[e1,e2,e3];refine I.Uy y λd hd=>?_
   grind
  ·rw[BF (l:=if wa then pa++[x]else pa),BF (l:=if wb then pb++[x]else pb),BF]
   ·have e1:=ooA;have e2:=ooB;have e3:=ooO;unfold Nm at e1 e2 e3;rw[<-e1,<-e2,<-e3]
   ·intro c hc
    rcases hout c hc with h|rfl
    ·have:=hlow c<|.inr<|.inr h;omega
    ·omega
   ·intro c hc
    rcases hpb c hc with h|⟨_,rfl⟩
    ·have:=hlow c<|.inr<|.inl h;omega
    ·omega
   ·intro c hc
    rcases hpa c hc with h|⟨_,rfl⟩
    ·have:=hlow c<|.inl h;omega
    ·omega
 ·intro c hc;have m1:∀c,c∈pa->c∈(if wa then pa++[x]else pa):=λc h=>by split;exact List.mem_append_left _ h;exact h
  have m2:∀c,c∈pb->c∈(if wb then pb++[x]else pb):=λc h=>by split;exact List.mem_append_left _ h;exact h
  rcases hout c hc with h|rfl
  ·rcases I.mem c h with h|h
   ·exact .inl<|m1 c h
   ·exact .inr<|m2 c h
  ·rcases hw with h|h
   ·left;rw[aH h];simp
   ·right;rw[aH h];simp
 ·have:=I.len;have h3:(if wa then pa++[x]else pa).length+(if wb then pb++[x]else pb).length>=pa.length+pb.length+1:=by
   rcases hw with h|h
   ·subst h;cases wb <;> simp <;> omega
   ·subst h;cases wa <;> simp <;> omega
  split
  ·omega
  ·simp at h3 ⊢;omega
end
section
variable {N:Nat}
theorem ln(x:Int)(l:Z Int):idx (x::l) 0=some x:=rfl
theorem xh{α:Type}(x:α)(l:Z α):vC (x::l) 1 (((x::l).length:Nat):Int)=some l:=tm (x::l) 1 (by simp)
theorem my{α:Type}(x:α)(l:Z α):decide ((((x::l).length:Nat):Int)>0)=true:=bQ (by simp)
theorem Ac{α:Type}(x:α)(l:Z α):((((x::l).length:Nat):Int)==0)=false:=by rfl
theorem LD{a b:Z Int}(ha:kB a)(hb:kB b)(h:a≠[]\/b≠[]):∃x ta tb wa wb,a=(if wa then x::ta else ta)/\b=(if wb then x::tb else tb)/\(wa=true\/wb=true)/\(∀d,(d∈ta\/d∈tb)->x<d):=by
 match a,b,ha,hb,h with
 | [],[],_,_,h=>grind
 |x::ta,[],ha,_,_=>exact⟨x,ta,[],true,false,rfl,rfl, .inl rfl,λd hd=>by rcases hd with h|h;exact ha.head d h;cases h⟩
 | [],y::tb,_,hb,_=>exact⟨y,[],tb,false,true,rfl,rfl, .inr rfl,λd hd=>by rcases hd with h|h;cases h;exact hb.head d h⟩
 |x::ta,y::tb,ha,hb,_=>
  rcases Int.lt_trichotomy x y with h|h|h
  ·refine⟨x,ta,y::tb,true,false,rfl,rfl, .inl rfl,λd hd=>?_⟩
   rcases hd with h1|h1
   ·exact ha.head d h1
   ·rcases fJ.1 h1 with rfl|h1
    ·exact h
    ·have:=hb.head d h1;omega
  ·subst h;exact⟨x,ta,tb,true,true,rfl,rfl, .inl rfl,λd hd=>by rcases hd with h|h;exact ha.head d h;exact hb.head d h⟩
  ·refine⟨y,x::ta,tb,false,true,rfl,rfl, .inr rfl,λd hd=>?_⟩
   rcases hd with h1|h1
   ·rcases fJ.1 h1 with rfl|h1
    ·exact h
    ·have:=ha.head d h1;omega
   ·exact hb.head d h1
theorem Nn{φ:Bool->Bool->aT Bool}{iX:Bool->Bool->Bool}(hφ:∀p q,φ p q=some (iX p q))(hk:iX false false=false){a b:Z Int}(ha:kB a)(hb:kB b)(hae:a.length % 2=0)(hbe:b.length % 2=0)
  (rD:a.length<=1099511627776) (hbl:b.length<=1099511627776) (hN:a.length+b.length<N):
  Ok (uN N a b φ) (λm=>kB m/\m.length % 2=0/\(∀x,r6 m x=iX (r6 a x) (r6 b x))/\∀c∈m,c∈a\/c∈b):=by
 unfold uN
 refine WJ (XV (Go:=λs=>kB s.2.2.1/\s.2.2.1.length % 2=0/\(∀x,r6 s.2.2.1 x=iX (r6 a x) (r6 b x))/\∀c∈s.2.2.1,c∈a\/c∈b) (Rt:=λ_=>True)
  (λs=>∃pa pb,Ke iX a b s.1 s.2.1 s.2.2.1 s.2.2.2.1 s.2.2.2.2.1 s.2.2.2.2.2 pa pb) (λs=>s.1.length+s.2.1.length) ?_ ?_ hN) ?_
 ·rintro⟨a',b',out,inA,inB,is⟩⟨pa,pb,I⟩;dsimp only at I ⊢;have ha':kB a':=by have:=ha;rw[I.ea]at this;exact(List.pairwise_append.1 this).2.1
  have hb':kB b':=by have:=hb;rw[I.eb]at this;exact(List.pairwise_append.1 this).2.1
  have hle:pa.length+a'.length=a.length:=by rw[I.ea];simp
  have hlb:pb.length+b'.length=b.length:=by rw[I.eb];simp
  have hlo:=I.len
  by_cases hne:a'≠[]\/b'≠[]
  ·obtain⟨x,ta,tb,wa,wb,h1,h2,hw,hx⟩:=LD ha' hb' hne;have J:=I.step ha hb x ta tb wa wb h1 h2 hw hx;have fin:∀(sa sb:Z Int×Bool),sa=(ta,inA ^^ wa)->sb=(tb,inB ^^ wb)->
     Ok ((φ sa.2 sb.2).bind λx220=>(bif x220 != is then((app 8 out ([x]:Z Int)).bind λx227=>some (x227,x220))else some (out,is)).bind λs224=>some<|Fl.nx (sa.1,sb.1,s224.1,sa.2,sb.2,s224.2))
      (Pn (λs':Z Int×Z Int×Z Int×Bool×Bool×Bool=>(∃pa pb,Ke iX a b s'.1 s'.2.1 s'.2.2.1 s'.2.2.2.1 s'.2.2.2.2.1 s'.2.2.2.2.2 pa pb)/\s'.1.length+s'.2.1.length<a'.length+b'.length) (λs=>kB s.2.2.1/\s.2.2.1.length % 2=0/\(∀x,r6 s.2.2.1 x=iX (r6 a x) (r6 b x))/\∀c∈s.2.2.1,c∈a\/c∈b) (λ_:Empty=>True)):=by
    rintro _ _ rfl rfl;refine IS (hφ _ _) ?_;have hlt:ta.length+tb.length<a'.length+b'.length:=by
     rw[h1,h2]
     rcases hw with h|h
     ·subst h;cases wb <;> simp <;> omega
     ·subst h;cases wa <;> simp <;> omega
    by_cases he:iX (inA ^^ wa) (inB ^^ wb)=is
    ·rw[aH he]at J;refine IS (x:=(out,is)) (by grind) ?_;rw[he]at J;exact W4 ⟨⟨_,_,J⟩,hlt⟩
    ·rw[aI he]at J;refine IS (x:=(out++[x],iX (inA ^^ wa)<|inB ^^ wb)) (by grind [iS,aB])<|W4 ⟨⟨_,_,J⟩,hlt⟩
   rcases hw with rfl|rfl
   ·rw[aH rfl]at h1;subst h1;refine IS (x:=true) (by rw[my,aP]) ?_;rw[aP];have hle2:(bif(b'.length:Int)==0 then some true else(bif decide ((((x::ta).length:Nat):Int)>0)then((idx (x::ta) 0).bind λx181=>(idx b' 0).bind λx183=>some<|decide<|x181<=x183)else some false))=some true:=by
     cases b' with
     |nil=>rfl
     |cons y b''=>
      rw[Ac,aQ,my,aP,ln,aB,ln,aB];have:x<=y:=by
       cases wb with
       |true=>grind
       |false=>have:=hx y (.inr (by grind));omega
      rw[bQ this]
    refine IS hle2 ?_;rw[aP];refine IS (x:=x) (by rw[ln,aB]) ?_;refine IS (x:=true) (by simp[my,aP,ln,aB]) ?_;refine IS (x:=(ta,!inA)) (by grind [xh,aB]) ?_
    cases wb with
    |true=>
     rw[aH rfl]at h2;subst h2;refine IS (x:=true) (by rw[my,aP,ln,aB];simp) ?_;refine IS (x:=(tb,!inB)) (by rw[aP,xh,aB]) ?_;exact fin _ _ (by simp) (by simp)
    |false=>
     have h2:b'=tb:=h2;subst h2;refine IS (x:=false) ?_ ?_
     ·cases b' with
      |nil=>rfl
      |cons y b''=>
       have:=hx y<|.inr (by simp)
       rw[my,aP,ln,aB,show(y==x)=false by rw[beq_eq_false_iff_ne];omega]
     ·refine IS (x:=(b',inB)) (by rw[aQ]) ?_;exact fin _ _ (by simp) (by simp)
   ·cases wa with
    |true=>
     rw[aH rfl]at h1 h2;subst h1;subst h2;refine IS (x:=true) (by rw[my,aP]) ?_;rw[aP];refine IS (x:=true) (by rw[Ac,aQ,my,aP,ln,aB,ln,aB];simp) ?_;rw[aP];refine IS (x:=x) (by rw[ln,aB]) ?_;refine IS (x:=true) (by rw[my,aP,ln,aB];simp) ?_;refine IS (x:=(ta,!inA)) (by rw[aP,xh,aB]) ?_;refine IS (x:=true) (by rw[my,aP,ln,aB];simp) ?_;refine IS (x:=(tb,!inB)) (by rw[aP,xh,aB]) ?_;exact fin _ _ (by simp) (by simp)
    |false=>
     have h1:a'=ta:=h1;rw[aH rfl]at h2;subst h1;subst h2;refine IS (x:=true) (by rw[my,PX];simp) ?_;rw[aP];refine IS (x:=false) ?_ ?_
     ·rw[Ac,aQ]
      cases a' with
      |nil=>rfl
      |cons y a''=>
       have:=hx y<|.inl (by simp)
       rw[my,aP,ln,aB,ln,aB,bY (by omega)]
     ·rw[aQ];refine IS (x:=x) (by rw[ln,aB]) ?_;refine IS (x:=false) ?_ ?_
      ·cases a' with
       |nil=>rfl
       |cons y a''=>
        have:=hx y<|.inl (by simp)
        rw[my,aP,ln,aB,show(y==x)=false by rw[beq_eq_false_iff_ne];omega]
      ·refine IS (x:=(a',inA)) (by rw[aQ]) ?_;refine IS (x:=true) (by rw[my,aP,ln,aB];simp) ?_;refine IS (x:=(tb,!inB)) (by rw[aP,xh,aB]) ?_;exact fin _ _ (by simp) (by simp)
  ·have ea:a'= []:=Classical.byContradiction λh=>hne<|.inl h
   have eb:b'= []:=Classical.byContradiction λh=>hne<|.inr h
   subst ea;subst eb;refine IS (x:=false) rfl ?_;refine W9 ⟨I.inc,?_,λx=>?_,λc hc=>?_⟩
   ·have h1:=I.ea;have h2:=I.eb;rw[ov]at h1 h2;have h3:Nm out=false:=by
     rw[<-I.oo,I.ok,I.oa,I.ob,<-h1,<-h2];unfold Nm;rw[hae,hbe];exact hk
    unfold Nm at h3;rw[beq_eq_false_iff_ne]at h3;dsimp only;omega
   ·have:=I.Uy x (λd hd=>by rcases hd with h|h <;> cases h);have h1:=I.ea;have h2:=I.eb;rw[ov]at h1 h2;rw[h1,h2];exact this
   ·have h1:=I.ea;have h2:=I.eb;rw[ov]at h1 h2;rw[h1,h2];exact I.mem c hc
 ·exact⟨[],[],rfl,rfl,rfl,rfl,rfl,hk.symm,λc hc=>(by rcases hc with h|h|h <;> cases h),kN,λx _=>hk.symm,λc hc=>(by cases hc),cJ _⟩
 ·rintro o ho;exact Xa ho (λs h=>OF h)<|λr=>r.elim
theorem ga.app{s t:Z Bd}(h:ga (s++t)):ga t:=⟨λb hb=>h.each b<|List.mem_append_right _ hb,(List.pairwise_append.1 h.ord).2.1⟩
theorem ga.low{b:Bd}{s:Z Bd}(h:ga (b::s)):∀c∈b::s,b.y0<=c.y0:=λc hc=>by
 rcases fJ.1 hc with rfl|hc
 ·exact Int.le_refl _
 ·have:=h.FG c hc;have:=(h.each b (by simp)).1;omega
theorem ga.high{s:Z Bd}{b:Bd}(h:ga (s++[b])):∀c∈s++[b],c.y1<=b.y1:=λc hc=>by
 rcases dI.1 hc with hc|hc
 ·have:=((List.pairwise_append.1 h.ord).2.2 c hc b (by simp)).1;have:=(h.each b (by simp)).1;omega
 ·simp at hc;subst hc;exact Int.le_refl _
def K5(s:Z aA)(y e:Int):Z Int×Int:=match s with
 | []=>([],e)
 |b::_=>if y<b.Y0 then([],if b.Y0<e then b.Y0 else e)else(b.Xs,if b.Y1<e then b.Y1 else e)
theorem OC{α:Type}(x:α)(l:Z α):idx (x::l) 0=some x:=rfl
theorem Q8(s:Z aA)(y e:Int):py N s y e=some (K5 s y e):=by
 unfold py K5
 cases s with
 |nil=>rfl
 |cons b s=>
  grind [Ac,OC,aB,bQ,bY]
theorem My{s:Z aA}{y e:Int}{X Y:Z Int}(hc:ga (s.map cQ))(hl:BQ X Y (s.map cQ))(hh:∀b t,s=b::t->y<b.Y1)(hy:y<e):
  y<(K5 s y e).2/\(K5 s y e).2<=e/\(∀y',y<=y'->y'<(K5 s y e).2->rowAt (s.map cQ) y'=(K5 s y e).1)/\kB (K5 s y e).1/\(K5 s y e).1.length % 2=0/\((K5 s y e).2=e\/(K5 s y e).2∈Y)/\∀c∈(K5 s y e).1,c∈X:=by
 cases s with
 |nil=>exact⟨hy,Int.le_refl _,λy' _ _=>rfl,kN,rfl, .inl rfl,λc hc=>(by cases hc)⟩
 |cons b t=>
  have hb:=hc.each (cQ b) (by simp);have hlb:=hl (cQ b) (by simp);have h1:=hh b t rfl;unfold K5;dsimp only
  by_cases h:y<b.Y0
  ·rw[aH h];dsimp only;refine⟨by omega,by omega,λy' h2 h3=>?_,kN,rfl,?_,λc hc=>(by cases hc)⟩
   ·exact hc.z7 (by show y'<b.Y0;omega)
   ·split
    ·exact .inr hlb.1
    omega
  grind [ga.o6,cQ]
theorem HF{y:Int}{a:Z aA}(hN:a.length<N){body:Z aA->aT (Fl (Z aA) Empty)}
  (hb:body=λ(s373:Z aA)=>((bif decide ((s373.length:Int)>0)then((idx s373 0).bind λx407=>some<|decide<|x407.Y1<=y)else some false).bind λs405=>bif s405 then((vC s373 1 (s373.length:Int)).bind λx410=>some<|.nx x410)else(some<|.br s373):aT (Fl (Z aA) Empty))):
  Ok (iI body N a) (Uv (λa'=>∃p,a=p++a'/\(∀c∈p,c.Y1<=y)/\∀b t,a'=b::t->y<b.Y1)<|λ_=>True):=by
 subst hb;refine XV (λa'=>∃p,a=p++a'/\∀c∈p,c.Y1<=y) List.length ?_ ⟨[],rfl,λc hc=>(by cases hc)⟩ hN;rintro a'⟨p,e,hp⟩
 cases a' with
 |nil=>simp_all[IS,W9]
 |cons b t=>
  refine IS (x:=decide<|b.Y1<=y) (by rw[my,aP,OC,aB]) ?_;refine Xj (λh=>?_)<|λh=>W9 ⟨p,e,hp,λb' t' h'=>?_⟩
  ·have h:=of_decide_eq_true h;refine IS (xh b t)<|W4 ⟨⟨p++[b],by rw[e];simp,λc hc=>?_⟩,by simp⟩
   grind
  grind
theorem Kf{p a':Z Bd}{y y':Int}(hp:∀c∈p,c.y1<=y)(h:y<=y'):rowAt (p++a') y'=rowAt a' y':=by
 grind [uw]
structure IG (iX:Bool->Bool->Bool) (X Y:Z Int) (a b s:Z aA):Prop where
 can:ga (s.map cQ)
 cover:∀x y,yQ (s.map cQ) x y=iX (yQ (a.map cQ) x y) (yQ (b.map cQ) x y)
 FM:BQ X Y (s.map cQ)
theorem FU{s:Z aA}(hs:s≠[])(hl:s.length<=1099511627776)(hc:ga (s.map cQ)):∃f l,idx s 0=some f/\idx s (wrap .i64<|((s.length:Nat):Int) - 1)=some l/\f∈s/\l∈s/\∀c∈s,f.Y0<=c.Y0/\c.Y1<=l.Y1:=by
 cases s with
 |nil=>grind
 |cons f t=>
  rw[jB (by simp) (by omega)];have hlt:(f::t).length - 1<(f::t).length:=by simp
  refine⟨f,(f::t)[(f::t).length - 1],rfl,np _ _ hlt,by simp,cH _,λc hcm=>⟨?_,?_⟩⟩
  ·exact hc.low (cQ c)<|dN.2 ⟨c,hcm,rfl⟩
  ·have e:(f::t)=(f::t).dropLast++[(f::t)[(f::t).length - 1]]:=by
    grind [List.dropLast_concat_getLast]
   generalize (f::t)[(f::t).length - 1]=l at e;have hc2:=hc;rw[e,eU]at hc2;have hm:cQ c∈(List.map cQ (f::t).dropLast++[cQ l]):=by
    grind
   exact ga.high hc2 (cQ c) hm
theorem LF{φ:Bool->Bool->aT Bool}{iX:Bool->Bool->Bool}(hφ:∀p q,φ p q=some (iX p q))(hk:iX false false=false){a b:Z aA}{X Y:Z Int}(ca:ga (a.map cQ))(cb:ga (b.map cQ))
  (la:BQ X Y (a.map cQ)) (lb:BQ X Y (b.map cQ)) (hX:X.length<=1048576000) (hY:Y.length<=1048576000) (hs:∀c∈Y,small c) (hN:nq N):Ok (te N a b φ) (IG iX X Y a b):=by
 have rD:a.length<=Y.length:=by have:=la.len ca;grind
 have hbl:b.length<=Y.length:=by have:=lb.len cb;grind
 unfold te;rw[wrap_add (by omega)];refine Xj (λh=>OF ?_)<|λh=>?_
 ·have h:a.length+b.length=0:=by grind
  have e1:a= []:=List.eq_nil_of_length_eq_zero (by omega);have e2:b= []:=List.eq_nil_of_length_eq_zero (by omega);subst e1;subst e2;exact⟨ga.nil,λx y=>hk.symm,λc hc=>(by cases hc)⟩
 have h0:a≠[]\/b≠[]:=by
  grind
 refine WJ (XI (λk s=>match k with| 0=>True| 1=>a= []\/((∀c∈a,s.1<=c.Y0/\c.Y1<=s.2)/\s.1∈Y/\s.2∈Y)|_=>(∀c∈a,s.1<=c.Y0/\c.Y1<=s.2)/\(∀c∈b,s.1<=c.Y0/\c.Y1<=s.2)/\s.1∈Y/\s.2∈Y) (by simp) trivial<|λk s hk hI=>?_) ?_
 ·obtain⟨y,e⟩:=s;have hk:k=0\/k=1:=by grind
  rcases hk with rfl|rfl
  ·refine WR (x:=a) rfl ?_
   by_cases ea:a= []
   ·grind [IS,OF]
   ·obtain⟨f,l,f1,f2,f3,f4,f5⟩:=FU ea (by omega) ca;have hpos:decide (((a.length:Nat):Int)>0)=true:=bQ (by grind);refine IS (x:=(f.Y0,l.Y1)) ?_<|OF<|.inr ⟨f5,(la _<|dN.2 ⟨f,f3,rfl⟩).1,(la _<|dN.2 ⟨l,f4,rfl⟩).2.1⟩
    grind
  ·refine WR (x:=b) rfl ?_;have hI:a= []\/((∀c∈a,y<=c.Y0/\c.Y1<=e)/\y∈Y/\e∈Y):=hI
   by_cases eb:b= []
   ·subst eb;refine IS (x:=(y,e)) rfl<|OF ?_
    rcases hI with h|⟨h1,h2,h3⟩
    ·rcases h0 with h'|h'
     ·exact absurd h h'
     ·exact absurd rfl h'
    ·exact⟨h1,λc hc=>(by cases hc),h2,h3⟩
   ·obtain⟨f,l,f1,f2,f3,f4,f5⟩:=FU eb (by omega) cb;have hpos:decide (((b.length:Nat):Int)>0)=true:=bQ (by have:=List.length_pos_iff.2 eb;omega);have g1:f.Y0∈Y:=(lb _<|dN.2 ⟨f,f3,rfl⟩).1;have g2:l.Y1∈Y:=(lb _<|dN.2 ⟨l,f4,rfl⟩).2.1
    by_cases ea:a= []
    ·subst ea;refine IS (x:=(f.Y0,l.Y1)) ?_<|OF ⟨λc hc=>(by cases hc),f5,g1,g2⟩
     rw[hpos,aP];show((some true).bind _)=_;rw[aB,aP,f1,aB,f2,aB,aB,aB,aB];simp
    ·obtain⟨h1,h2,h3⟩:=hI.resolve_left ea;refine IS (x:=(if f.Y0<y then f.Y0 else y,if e<l.Y1 then l.Y1 else e)) ?_<|OF ⟨λc hc=>?_,λc hc=>?_,?_,?_⟩
     ·rw[hpos,aP];have ez:(((a.length:Nat):Int)==0)=false:=by rw[beq_eq_false_iff_ne];have:=List.length_pos_iff.2 ea;omega
      rw[ez];show((some false).bind _)=_;rw[aB,aQ,aB,f1,aB,f2,aB]
     ·have:=h1 c hc;dsimp only;split <;> split <;> omega
     ·have:=f5 c hc;dsimp only;split <;> split <;> omega
     ·dsimp only;split
      ·exact g1
      ·exact h2
     ·dsimp only;split
      ·exact g2
      ·exact h3
 ·rintro⟨y0,e0⟩hI;have hI:(∀c∈a,y0<=c.Y0/\c.Y1<=e0)/\(∀c∈b,y0<=c.Y0/\c.Y1<=e0)/\y0∈Y/\e0∈Y:=hI;obtain⟨ia,ib,iy,ie⟩:=hI;have sy:=hs _ iy;have se:=hs _ ie;unfold small at sy se;dsimp only
  refine WJ (XV (Go:=λs=>IG iX X Y a b s.2.2.1) (Rt:=λ_=>True)
   (λs=>∃pa pb,a=pa++s.1/\b=pb++s.2.1/\(∀c∈pa,c.Y1<=s.2.2.2)/\(∀c∈pb,c.Y1<=s.2.2.2)/\y0<=s.2.2.2/\s.2.2.2<=max y0 e0/\s.2.2.2∈Y/\ga (s.2.2.1.map cQ)/\BQ X Y (s.2.2.1.map cQ)/\(∀c∈s.2.2.1,c.Y1<=s.2.2.2)/\
    ∀x y,yQ (s.2.2.1.map cQ) x y=(iX (yQ (a.map cQ) x y) (yQ (b.map cQ) x y)&&decide (y<s.2.2.2)))
   (λs=>(e0 - s.2.2.2).toNat) ?_ ?_ (by dsimp only;omega)) ?_
  ·rintro⟨a',b',out,y⟩⟨pa,pb,ea,eb,hpa,hpb,hy0,hye,hyY,hcan,hlim,htop,hcov⟩;dsimp only at ea eb hpa hpb hy0 hye hyY hcan hlim htop hcov ⊢;refine Xj (λh=>?_)<|λh=>W9 ?_
   ·have hlt:y<e0:=of_decide_eq_true h;have hsl:∀(p s t:Z aA),t=p++s->s.length<=t.length:=λp s t e=>by rw[e];simp
    have hal':=hsl _ _ _ ea;have hbl':=hsl _ _ _ eb;refine WJ (HF (y:=y) (a:=a') (by omega) rfl)<|λo ho=>Xa ho ?_<|λr=>r.elim
    rintro a2⟨qa,ea2,hqa,hha⟩;refine WJ (HF (y:=y) (a:=b') (by omega) rfl)<|λo ho=>Xa ho ?_<|λr=>r.elim
    rintro b2⟨qb,eb2,hqb,hhb⟩;have ea3:a=(pa++qa)++a2:=by rw[ea,ea2];simp
    have eb3:b=(pb++qb)++b2:=by rw[eb,eb2];simp
    have hPa:∀c∈pa++qa,c.Y1<=y:=λc hc=>by rcases dI.1 hc with h|h;exact hpa c h;exact hqa c h
    have hPb:∀c∈pb++qb,c.Y1<=y:=λc hc=>by rcases dI.1 hc with h|h;exact hpb c h;exact hqb c h
    have ca2:ga (a2.map cQ):=by have:=ca;rw[ea3,eU]at this;exact this.app
    have cb2:ga (b2.map cQ):=by have:=cb;rw[eb3,eU]at this;exact this.app
    have la2:BQ X Y (a2.map cQ):=λc hc=>la c (by rw[ea3,eU];exact List.mem_append_right _ hc);have lb2:BQ X Y (b2.map cQ):=λc hc=>lb c (by rw[eb3,eU];exact List.mem_append_right _ hc);refine IS (Q8 a2 y e0)<|IS (Q8 b2 y e0) ?_
    obtain⟨a1,a3,a4,a5,a6,a7,a8⟩:=My ca2 la2 hha hlt;obtain⟨b1,b3,b4,b5,b6,b7,b8⟩:=My cb2 lb2 hhb hlt;have hal2:(K5 a2 y e0).1.length<=X.length:=gM a5.nodup a8;have hbl2:(K5 b2 y e0).1.length<=X.length:=gM b5.nodup b8;generalize K5 a2 y e0=pa2 at *;generalize K5 b2 y e0=pb2 at *;obtain⟨xa,n⟩:=pa2;obtain⟨xb,m⟩:=pb2;dsimp only at *;refine WJ (Nn hφ hk a5 b5 a6 b6 (by omega) (by omega) (by omega)) ?_;rintro row⟨r1,r2,r3,r4⟩;have hnx:∃nx,nx=(if m<n then m else n)/\y<nx/\nx<=e0/\nx<=n/\nx<=m/\nx∈Y:=by
     refine⟨_,rfl,by split <;> omega,by split <;> omega,by split <;> omega,by split <;> omega,?_⟩;split
     ·rcases b7 with h|h
      ·rw[h];exact ie
      ·exact h
     ·rcases a7 with h|h
      ·rw[h];exact ie
      ·exact h
    obtain⟨nx,hnx,n1,n2,n3,n4,n5⟩:=hnx;rw[<-hnx];have hol:out.length<=Y.length:=by have:=hlim.len hcan;rwa[dM]at this
    obtain⟨out',p1,p2⟩:=Mv (N:=N) (s:=out) (b:=⟨y,nx,row⟩) (by omega) (λc hc=>by
     have:=hlim.row hcan (b:=cQ c)<|dN.2 ⟨c,hc,rfl⟩
     have e:(cQ c).xs=c.Xs:=rfl
     rw[e]at this;omega)
    refine IS p1 ?_;have htop':∀c∈out.map cQ,c.y1<=(cQ ⟨y,nx,row⟩).y0:=λc hc=>by
     obtain⟨d,hd,rfl⟩:=dN.1 hc;exact htop d hd
    refine W4 ⟨⟨pa++qa,pb++qb,ea3,eb3,λc hc=>by have:=hPa c hc;dsimp only;omega,λc hc=>by have:=hPb c hc;dsimp only;omega,by dsimp only;omega,by dsimp only;omega,n5,by dsimp only;rw[p2];exact z9 hcan htop' r1 r2,?_,λc hc=>?_,λx y'=>?_⟩,by dsimp only;omega⟩
    ·dsimp only;rw[p2];refine hlim.push hyY n5<|λc hc=>?_
     rcases r4 c hc with h|h
     ·exact a8 c h
     ·exact b8 c h
    ·have hm':cQ c∈kV (out.map cQ) (cQ ⟨y,nx,row⟩):=by rw[<-p2];exact dN.2 ⟨c,hc,rfl⟩
     exact Aa htop' (by show y<=nx;omega) _ hm'
    ·show r6 (rowAt (out'.map cQ) y') x=_;rw[p2,z8 htop' (λc hc=>(hcan.each c hc).1)<|λh=>absurd h (by show ¬nx<=y;omega)]
     by_cases hyy:y<=y'/\y'<nx
     ·rw[aH (show(cQ ⟨y,nx,row⟩).y0<=y'/\y'<(cQ ⟨y,nx,row⟩).y1 from hyy),bQ hyy.2,Bool.and_true];show r6 row x=_;have mp:∀p q:Z aA,(∀c∈p++q,c.Y1<=y)->∀c∈(p++q).map cQ,c.y1<=y:=λp q h c hc=>by
       obtain⟨d,hd,rfl⟩:=dN.1 hc;exact h d hd
      have q1:yQ (a.map cQ) x y'=r6 xa x:=by
       unfold yQ;rw[ea3,eU,Kf (mp _ _ hPa) hyy.1,a4 y' hyy.1 (by omega)]
      have q2:yQ (b.map cQ) x y'=r6 xb x:=by
       unfold yQ;rw[eb3,eU,Kf (mp _ _ hPb) hyy.1,b4 y' hyy.1 (by omega)]
      rw[r3,q1,q2]
     ·rw[aI (show ¬((cQ ⟨y,nx,row⟩).y0<=y'/\y'<(cQ ⟨y,nx,row⟩).y1)from hyy)];show yQ (out.map cQ) x y'=_;rw[hcov]
      by_cases h1:y'<y
      ·rw[bQ h1,bQ (show y'<nx by omega)]
      ·rw[bY h1,bY (show ¬y'<nx by omega)]
   ·have hge:e0<=y:=by have:=of_decide_eq_false h;omega
    refine⟨hcan,λx y'=>?_,hlim⟩;dsimp only;rw[hcov]
    by_cases h1:y'<y
    ·rw[bQ h1,Bool.and_true]
    ·have z:∀s:Z aA,(∀c∈s,y0<=c.Y0/\c.Y1<=e0)->yQ (s.map cQ) x y'=false:=λs h=>by
      unfold yQ;rw[nA λc hc=>?_]
      ·rfl
      ·obtain⟨d,hd,rfl⟩:=dN.1 hc;exact .inr (by have:=(h d hd).2;show d.Y1<=y';omega)
     rw[z a ia,z b ib,hk];rfl
  ·refine⟨[],[],rfl,rfl,λc hc=>(by cases hc),λc hc=>(by cases hc),Int.le_refl _,by dsimp only;omega,iy,ga.nil,λc hc=>(by cases hc),λc hc=>(by cases hc),λx y=>?_⟩;dsimp only;show false=_
   by_cases h1:y<y0
   ·have z:∀s:Z aA,(∀c∈s,y0<=c.Y0/\c.Y1<=e0)->yQ (s.map cQ) x y=false:=λs h=>by
     unfold yQ;rw[nA λc hc=>?_]
     ·rfl
     ·obtain⟨d,hd,rfl⟩:=dN.1 hc;exact .inl (by have:=(h d hd).1;show y<d.Y0;omega)
    rw[z a ia,z b ib,hk];rfl
   ·rw[bY h1,Bool.and_false]
  ·rintro o ho;exact Xa ho (λs h=>OF h)<|λr=>r.elim
theorem Np{a b:Z aA}{X Y:Z Int}(ca:ga (a.map cQ))(cb:ga (b.map cQ))(la:BQ X Y (a.map cQ))(lb:BQ X Y (b.map cQ))(hX:X.length<=1048576000)(hY:Y.length<=1048576000)(hs:∀c∈Y,small c)(hN:nq N):
  Ok (mQ N a b) (IG (λp q=>p&& !q) X Y a b):=by
 unfold mQ;exact WJ (LF (iX:=λp q=>p&& !q) (λp q=>rfl) rfl ca cb la lb hX hY hs hN)<|λs h=>OF h
end
section
variable {N:Nat}
structure UF (n:Nat) (up:Z Int) (r:Nat->Nat):Prop where
 len:up.length=n
 rt:∀i,i<n->∃u:Nat,up[i]? =some (u:Int)/\u<=i/\r u=r i/\(u=i↔r i=i)
theorem UF.le{n:Nat}{up:Z Int}{r:Nat->Nat}(h:UF n up r):∀i,i<n->r i<=i:=by
 intro i
 induction i using Nat.strongRecOn with
 |ind i ih=>
  intro hi;obtain⟨u,_,h2,h3,h4⟩:=h.rt i hi
  grind
theorem UF.rr{n:Nat}{up:Z Int}{r:Nat->Nat}(h:UF n up r):∀i,i<n->r (r i)=r i:=by
 intro i
 induction i using Nat.strongRecOn with
 |ind i ih=>
  intro hi;obtain⟨u,_,h2,h3,h4⟩:=h.rt i hi
  grind
theorem rX{l:Z Int}{j:Nat}{v:Int}{i:Nat}(hj:j<l.length):(l.set j v)[i]? =if i=j then some v else l[i]? :=by
 grind
theorem UF.init(n:Nat)(up:Z Int)(h1:up.length=n)(h2:∀i,i<n->up[i]? =some ((i:Nat):Int)):UF n up (λi=>i):=
 ⟨h1,λi hi=>⟨i,h2 i hi,cJ _,rfl,by simp⟩⟩
theorem zo{n:Nat}(hn:n<=1048576000):∃up,lG N (n:Int)=some up/\UF n up (λi=>i):=by
 unfold lG;rw[pI 0 (by omega),aB];have h0:(List.replicate n (0:Int)).length=n:=by simp
 obtain⟨s',h1,h2⟩:=EO (m:=(List.replicate n (0:Int)).length) (s:=List.replicate n (0:Int)) (body:=λ(k34:Nat)(s35:Z Int)=>((idx s35 (k34:Int)).bind λx38=>some (s35.set (Int.toNat (k34:Int)) (k34:Int)):aT (Z Int)))
  (λk s=>s.length=n/\∀i,i<k->s[i]? =some ((i:Nat):Int)) (by omega) ⟨h0,λi hi=>by omega⟩ (λk s hk⟨hs,hi⟩=>by
   grind [np,aB,cK,rX])
 grind [aB,UF.init]
theorem tR{n:Nat}{up:Z Int}{r:Nat->Nat}(h:UF n up r){i:Nat}(hi:i<n)(hn:n<N):∃up',fP N up (i:Int)=some (((r i:Nat):Int),up')/\UF n up' r:=by
 unfold fP;obtain⟨o,h1,h2⟩:=Ck (R:=Empty) (body:=λ(s32:Z Int×Int)=>((idx s32.1 s32.2).bind λx43=>bif x43 != s32.2 then((idx s32.1 s32.2).bind λx44=>(idx s32.1 x44).bind λx45=>(idx s32.1 s32.2).bind λx46=>(idx (s32.1.set (Int.toNat s32.2) x45) s32.2).bind λx47=>some<|.nx (s32.1.set (Int.toNat s32.2) x45,x47))else(some<|.br (s32.1,s32.2)):aT (Fl (Z Int×Int) Empty)))
  (λs=>UF n s.1 r/\∃j:Nat,s.2=(j:Int)/\j<n/\r j=r i) (λs=>s.2.toNat) (λs=>s.2=((r i:Nat):Int)/\UF n s.1 r) (λ_=>True) (λs⟨hu,j,hj,hjn,hr⟩=>by
   obtain⟨l,y⟩:=s;dsimp only at hu hj ⊢;subst hj;obtain⟨u,a1,a2,a3,a4⟩:=hu.rt j hjn;rw[cB a1,aB]
   by_cases e:u=j
   ·simp_all
   ·obtain⟨v,b1,b2,b3,b4⟩:=hu.rt u (by omega);have hl:=hu.len
    refine⟨.nx (l.set j (v:Int),(v:Int)),by
     grind [aB,cB,cK,rX],⟨⟨by simp[hl],λk hk=>?_⟩,v,rfl,by omega,?_⟩,?_⟩
    ·rw[rX (by omega)]
     by_cases e2:k=j
     ·grind
     ·rw[aI e2];exact hu.rt k hk
    ·omega
    omega)
  N (up,(i:Int)) ⟨h,i,rfl,hi,rfl⟩ (by omega)
 rw[h1,aB]
 cases o with
 |go s'=>exact⟨s'.1,by rw[<-h2.1];rfl,h2.2⟩
 |rt r=>exact r.elim
def tU(r:Nat->Nat)(a b:Nat):Nat->Nat:=λx=>if r x=max a b then min a b else r x
theorem OD(a b:Nat):(if(a:Int)<(b:Int)then(b:Int)else(a:Int))=((max a b:Nat):Int):=by
 omega
theorem OE(a b:Nat):(if(b:Int)<(a:Int)then(b:Int)else(a:Int))=((min a b:Nat):Int):=by
 omega
theorem Mz{n:Nat}{up:Z Int}{r:Nat->Nat}(h:UF n up r){i k:Nat}(hi:i<n)(hk:k<n)(hn:n<N):
  ∃up',fW N up (i:Int) (k:Int)=some up'/\UF n up' (tU r (r i)<|r k):=by
 obtain⟨u1,a1,a2⟩:=tR h hi hn;obtain⟨u2,b1,b2⟩:=tR a2 hk hn;have hri:=h.le i hi;have hrk:=h.le k hk;have rri:=h.rr i hi;have rrk:=h.rr k hk;unfold fW;rw[a1,aB,b1,aB];dsimp only;rw[OD,OE];have hm:max (r i) (r k)<n:=by omega
 have hl:=b2.len;rw[np _ _ (by omega),aB,cK];refine⟨_,rfl,by simp[hl],λx hx=>?_⟩;have rmax:r (max (r i)<|r k)=max (r i) (r k):=by grind
 have rmin:r (min (r i)<|r k)=min (r i) (r k):=by grind
 rw[rX (by omega)]
 by_cases e:x=max (r i) (r k)
 ·grind [Min.min,tU]
 ·rw[aI e];obtain⟨u,c1,c2,c3,c4⟩:=b2.rt x hx
  grind [tU,Min.min,Max.max]
def oq(r:Nat->Nat)(E:Z (Nat×Nat)):Prop:=∀p∈E,r p.1=r p.2
def yN(n:Nat)(r:Nat->Nat)(E:Z (Nat×Nat)):Prop:=∀S:Nat->Prop,(∀p∈E,S p.1↔S p.2)->∀i j,i<n->j<n->r i=r j->S i->S j
theorem oq.join{r:Nat->Nat}{E:Z (Nat×Nat)}(h:oq r E)(i k:Nat)(_h2:r (r i)=r i):oq (tU r (r i)<|r k) (E++[(i,k)]):=λp hp=>by
 rcases dI.1 hp with hp|hp
 ·unfold tU;rw[h p hp]
 ·simp at hp;subst hp;unfold tU;dsimp only;split <;> split <;> omega
theorem yN.join{n:Nat}{r:Nat->Nat}{E:Z (Nat×Nat)}(h:yN n r E){i k:Nat}(hi:i<n)(hk:k<n):yN n (tU r (r i)<|r k) (E++[(i,k)]):=λS hS x y hx hy hr hSx=>by
 have hE:∀p∈E,S p.1↔S p.2:=λp hp=>hS p<|List.mem_append_left _ hp
 have hik:S i↔S k:=hS (i,k) (by simp);have key:=h S hE;unfold tU at hr
 by_cases h1:r x=r y
 ·exact key x y hx hy h1 hSx
 ·have:(r x=r i/\r y=r k)\/(r x=r k/\r y=r i):=by
   split at hr <;> split at hr <;> omega
  rcases this with⟨e1,e2⟩|⟨e1,e2⟩
  ·exact key k y hk hy e2.symm<|hik.1<|key x i hx hi e1 hSx
  ·exact key i y hi hy e2.symm<|hik.2<|key x k hx hk e1 hSx
theorem yN.id(n:Nat):yN n (λi=>i) []:=λS _ i j _ _ h hs=>by
 have h:i=j:=h;subst h;exact hs
theorem oq.id:oq (λi=>i) []:=λp hp=>by simp at hp
def bW(n:Nat)(r:Nat->Nat):Z Nat:=(List.range n).filter<|λk=>decide<|r k=k
def cls(n:Nat)(r:Nat->Nat)(k:Nat):Z Nat:=(List.range n).filter<|λi=>decide<|r i=k
theorem iE(n:Nat)(r:Nat->Nat):bW (n+1) r=if r n=n then bW n r++[n]else bW n r:=by
 grind [bW,List.range_succ]
theorem zp(n:Nat)(r:Nat->Nat)(k:Nat):cls (n+1) r k=if r n=k then cls n r k++[n]else cls n r k:=by
 grind [cls,List.range_succ]
theorem mj(n:Nat)(r:Nat->Nat):(bW n r).length<=n:=by
 have:=l4 (λk=>decide<|r k=k)<|List.range n
 rw[List.length_range]at this;exact this
theorem CD(n:Nat)(r:Nat->Nat)(k:Nat):(cls n r k).length<=n:=by
 have:=l4 (λi=>decide<|r i=k)<|List.range n
 rw[List.length_range]at this;exact this
theorem iP{n k:Nat}{r:Nat->Nat}:k∈bW n r↔k<n/\r k=k:=by simp[bW]
theorem na(n:Nat)(r:Nat->Nat):(bW n r).Nodup:=List.Nodup.sublist List.filter_sublist List.nodup_range
def vn(n:Nat)(r:Nat->Nat):Z (Z Int):=(bW n r).map<|λk=>(cls n r k).map<|λi=>((i:Nat):Int)
theorem MA{n k:Nat}{r:Nat->Nat}(h:∀i,i<n->r i<=i)(hk:n<=k):cls n r k= []:=by
 grind [cls,List.filter_eq_nil_iff]
theorem zq{α β:Type}(f g:α->β)(l:Z α)(j:Nat)(a:α)(hn:l.Nodup)(hj:l[j]? =some a)(hf:∀b,b∈l->b≠a->f b=g b):(l.map f).set j (g a)=l.map g:=by
 apply List.ext_getElem?;intro i;have hjl:=(bS.1 hj).1;rw[lZ,dM,gE,gE]
 grind [bS,List.getElem_inj,gl]
def Uz(n:Nat)(r:Nat->Nat)(m:Z (Int×Int)):Prop:=∀(j k:Nat),(bW n r)[j]? =some k->fH m (k:Int) 0=(j:Int)
theorem P8{n:Nat}{up:Z Int}{r:Nat->Nat}(h:UF n up r)(hn:n<N)(hn2:n<=1048576000):∃up',lQ N up=some (vn n r,up')/\UF n up' r:=by
 unfold lQ;have hlen:=h.len;have hle:=h.le;have hrr:=h.rr;obtain⟨s',h1,h2⟩:=EO (m:=up.length) (s:=(up,([]:Z (Z Int)),([]:Z (Int×Int))))
  (body:=λ(k32:Nat)(s33:Z Int×Z (Z Int)×Z (Int×Int))=>((fP N s33.1 (k32:Int)).bind λx117=>(bif x117.1==(k32:Int)then((app 24 s33.2.1 [([]:Z Int)]).bind λx126=>some (x126,r8 s33.2.2 (k32:Int) (s33.2.1.length:Int)))else some (s33.2.1,s33.2.2)).bind λs122=>(idx s122.1<|fH s122.2 x117.1 (0:Int)).bind λx128=>(app 8 x128 ([(k32:Int)]:Z Int)).bind λx134=>(idx s122.1<|fH s122.2 x117.1 (0:Int)).bind λx136=>some (x117.2,s122.1.set (Int.toNat<|fH s122.2 x117.1 (0:Int)) x134,s122.2):aT (Z Int×Z (Z Int)×Z (Int×Int))))
  (λk s=>UF n s.1 r/\s.2.1=vn k r/\Uz k r s.2.2) (by omega) ⟨h,rfl,λj k hj=>by grind [bW]⟩ (λk s hk⟨hu,hs,hm⟩=>by
   obtain⟨l,ss,m⟩:=s;dsimp only at hu hs hm ⊢;subst hs;rw[hlen]at hk;obtain⟨u',a1,a2⟩:=tR hu hk hn;rw[a1,aB];dsimp only;have hhl:=mj k r;have hsl:(vn k r).length=(bW k r).length:=by simp[vn]
   have hrk:=hle k hk
   by_cases e:r k=k
   ·
    rw[show(((r k:Nat):Int)==((k:Nat):Int))=true by rw[e];simp,aP,iS (by grind),aB,aB];dsimp only;rw[e,lJ,aH rfl,hsl];have hi:(vn k r++[([]:Z Int)])[(bW k r).length]? =some []:=by grind
    rw[cB hi,aB,iS (by simp),aB,aB,cK];refine⟨_,rfl,a2,?_,λj q hj=>?_⟩
    ·dsimp only;rw[<-hsl,List.set_append_right _ _<|cJ _,Nat.sub_self];unfold vn;rw[iE,aH e,eU];congr 1
     ·grind [List.map_congr_left,iP,zp]
     grind [zp,MA,hle]
    ·dsimp only;rw[iE,aH e]at hj;rw[lJ]
     by_cases e2:j<(bW k r).length
     ·rw[kM e2]at hj;have:=(iP.1<|gl hj).1;rw[aI (by omega)];exact hm j q hj
     ·rw[jO (by omega)]at hj;have hj0:j -(bW k r).length=0:=by
       have:=(bS.1 hj).1;simp at this;omega
      rw[hj0]at hj;simp at hj;subst hj;rw[aH rfl];congr 1;omega
   ·rw[show(((r k:Nat):Int)==((k:Nat):Int))=false by simp;omega,aQ,aB];dsimp only;have hh:r k∈bW k r:=iP.2 ⟨by omega,hrr k hk⟩;obtain⟨j,hj⟩:=dZ hh;rw[hm j (r k) hj];have hcl:=CD k r<|r k
    have hi:(vn k r)[j]? =some ((cls k r<|r k).map<|λi=>((i:Nat):Int)):=by unfold vn;rw[gE,hj];rfl
    rw[cB hi,aB,iS (by simp;omega),aB,aB,cK];refine⟨_,rfl,a2,?_,λj' q hj'=>?_⟩
    ·unfold vn;rw[iE,aI e]
     have:=zq (λa=>(cls k r a).map (λi=>((i:Nat):Int))) (λa=>(cls (k+1) r a).map (λi=>((i:Nat):Int))) (bW k r) j (r k) (na k r) hj (λb hb hne=>by
      rw[zp,aI (λh=>hne h.symm)])
     rw[zp,aH rfl,eU]at this;exact this
    ·rw[iE,aI e]at hj';exact hm j' q hj')
 rw[h1,aB];obtain⟨l,ss,m⟩:=s';dsimp only at h2;rw[hlen]at h2;refine⟨l,?_,h2.1⟩;rw[<-h2.2.1]
end
section
variable {N:Nat}
theorem IH{n:Nat}{up:Z Int}{r:Nat->Nat}(h:UF n up r){i:Nat}(hi:i<n)(hn:n<N):∃up',gG N (i:Int) up=some (((r i:Nat):Int),up')/\UF n up' r:=by
 unfold gG
 have:=WJ (β:=Int×Z Int) (Q:=λx=>x.1=((r i:Nat):Int)/\UF n x.2 r) (XV (body:=λ(s32:Int×(Z Int))=>((idx s32.2 s32.1).bind λx43=>bif(x43 != s32.1)then((idx s32.2 s32.1).bind λx44=>(idx s32.2 x44).bind λx45=>(idx s32.2 s32.1).bind λx46=>(idx (s32.2.set (Int.toNat s32.1) x45) s32.1).bind λx47=>some (.nx (x47,(s32.2.set (Int.toNat s32.1) x45))))else(some (.br (s32.1,s32.2))):aT (Fl (Int×(Z Int)) Empty)))
  (N:=N) (s:=((i:Int),up)) (Go:=λs=>s.1=((r i:Nat):Int)/\UF n s.2 r) (Rt:=λ_=>True) (λs=>UF n s.2 r/\∃j:Nat,s.1=(j:Int)/\j<n/\r j=r i) (λs=>s.1.toNat) (by
   rintro⟨y,l⟩⟨hu,j,hj,hjn,hr⟩;dsimp only at hu hj ⊢;subst hj;obtain⟨u,a1,a2,a3,a4⟩:=hu.rt j hjn;refine WR a1 ?_
   by_cases e:u=j
   ·grind [W9]
   ·obtain⟨v,b1,b2,b3,b4⟩:=hu.rt u (by omega);have hl:=hu.len;rw[show((u:Int) != (j:Int))=true by simp;omega,aP];refine WR a1<|WR b1<|WR a1<|WR (x:=(v:Int)) (by grind)<|W4 ⟨⟨⟨by simp[hl],λk hk=>?_⟩,v,rfl,by omega,?_⟩,?_⟩
    ·rw[cK,rX (by omega)]
     by_cases e2:k=j
     ·grind
     ·rw[aI e2];exact hu.rt k hk
    ·omega
    omega)
  ⟨h,i,rfl,hi,rfl⟩ (by omega))
  (λo ho=>Xa (f:=λ(s32:Int×Z Int)=>some (s32.1,s32.2)) (g:=λr:Empty=>r.elim) ho (λs h=>OF h)<|λr=>r.elim)
 obtain⟨⟨x,up'⟩,h1,h2,h3⟩:=this
 grind
theorem OG{n:Nat}{up:Z Int}{r:Nat->Nat}(h:UF n up r){i k:Nat}(hi:i<n)(hk:k<n){f:Z Int->aT (Z Int)}(hn:n<N):
  ∃up',((gG N (i:Int) up).bind λx840=>(gG N (k:Int) x840.2).bind λx842=>(idx x842.2 (if x840.1<x842.1 then x842.1 else x840.1)).bind λx844=>some<|x842.2.set (Int.toNat (if x840.1<x842.1 then x842.1 else x840.1)) (if x842.1<x840.1 then x842.1 else x840.1))=some up'/\UF n up' (tU r (r i)<|r k):=by
 obtain⟨u1,a1,a2⟩:=IH h hi hn;obtain⟨u2,b1,b2⟩:=IH a2 hk hn;obtain⟨v1,c1,c2⟩:=tR h hi hn;have hri:=h.le i hi;have hrk:=h.le k hk;have rri:=h.rr i hi;have rrk:=h.rr k hk;rw[a1,aB,b1,aB];dsimp only;rw[OD,OE];have hm:max (r i) (r k)<n:=by omega
 have hl:=b2.len;rw[np _ _ (by omega),aB,cK];refine⟨_,rfl,by simp[hl],λx hx=>?_⟩;have rmax:r (max (r i)<|r k)=max (r i) (r k):=by grind
 have rmin:r (min (r i)<|r k)=min (r i) (r k):=by grind
 rw[rX (by omega)]
 by_cases e:x=max (r i) (r k)
 ·grind [Min.min,tU]
 ·rw[aI e];obtain⟨u,c1,c2,c3,c4⟩:=b2.rt x hx
  grind [tU,Max.max]
def kK(s:Z aA)(k:Nat):Nat:=(bB<|s.take k).length
theorem Dq{s:Z aA}{k:Nat}(h:k<s.length):kK s (k+1)=kK s k+s[k].Xs.length / 2:=by
 grind [kK,dH,qy,eP,bB,o8,sK]
theorem Dr{s:Z aA}{k m:Nat}(h:k<=m):kK s k<=kK s m:=by
 unfold kK;have:=Dn (s.take m) k
 grind
theorem Kg(s:Z aA):kK s s.length=(bB s).length:=by simp[kK,dY]
theorem P9{s:Z aA}{k t:Nat}(h:k<s.length)(ht:2*t+1<s[k].Xs.length):(bB s)[kK s k+t]? =some ⟨s[k].Xs[2*t],s[k].Y0,s[k].Xs[2*t+1],s[k].Y1⟩:=by
 have e:bB s=bB (s.take k)++(o8 s[k]++bB (s.drop<|k+1)):=by
  grind [List.take_append_drop,xx,qy,o9]
 grind [kK,jO,Nat.add_sub_cancel_left,kM,sK,o8,CC]
theorem MB{s:Z aA}{i:Nat}(h:i<(bB s).length):∃k,k<s.length/\kK s k<=i/\i<kK s (k+1):=by
 have key:∀m,m<=s.length->i<kK s m->∃k,k<m/\kK s k<=i/\i<kK s (k+1):=by
  intro m
  induction m with
  |zero=>simp[kK,bB]
  |succ m ih=>
   grind
 grind [Kg]
def II(a c:aF):Prop:=a.Y1=c.Y0/\a.X0<c.X1/\c.X0<a.X1
def CW(all:Z aF)(i j:Nat):Prop:=∃a c,all[i]? =some a/\all[j]? =some c/\II a c
theorem Ad{s:Z aA}(he:∀b∈s,b.Xs.length % 2=0){k i:Nat}(hk:k<s.length)(h1:kK s k<=i)(h2:i<kK s (k+1)):∃t,i=kK s k+t/\∃h:2*t+1<s[k].Xs.length,(bB s)[i]? =some ⟨s[k].Xs[2*t],s[k].Y0,s[k].Xs[2*t+1],s[k].Y1⟩:=by
 rw[Dq hk]at h2;have:=he _<|cH hk
 refine⟨i - kK s k,by omega,by omega,?_⟩;have h3:=P9 (t:=i - kK s k) hk (by omega)
 grind
theorem FV{s:Z aA}(hc:ga (s.map cQ)){p q:Nat}(hp:p<s.length)(hq:q<s.length)(h:p<q):s[p].Y1<=s[q].Y0:=by
 have:=ox.1 hc.ord p q (by simp;omega) (by simp;omega) h;simp only[List.getElem_map]at this;exact this.1
theorem FW{s:Z aA}(hc:ga (s.map cQ)){p:Nat}(hp:p<s.length):s[p].Y0<s[p].Y1:=(hc.each (cQ s[p])<|dN.2 ⟨_,cH hp,rfl⟩).1
theorem xk{s:Z aA}(hc:ga (s.map cQ)):∀b∈s,b.Xs.length % 2=0:=λb hb=>(hc.each (cQ b)<|dN.2 ⟨b,hb,rfl⟩).2.2.2
theorem MC{s:Z aA}(hc:ga (s.map cQ)):∀b∈s,kB b.Xs:=λb hb=>(hc.each (cQ b)<|dN.2 ⟨b,hb,rfl⟩).2.2.1
theorem Kh{s:Z aA}(hc:ga (s.map cQ)){i j q:Nat}(hq:q<s.length)(h1:kK s q<=j)(h2:j<kK s (q+1))(ht:CW (bB s) i j):∃hq0:0<q,s[q - 1].Y1=s[q].Y0/\kK s (q - 1)<=i/\i<kK s q:=by
 obtain⟨a,c,ha,hb,e1,e2,e3⟩:=ht;obtain⟨t,e4,ht,hj⟩:=Ad (xk hc) hq h1 h2;rw[hj]at hb;injection hb with hb;subst hb
 have hil:=(bS.1 ha).1;obtain⟨p,hp,p1,p2⟩:=MB hil;obtain⟨u,e5,hu,hi⟩:=Ad (xk hc) hp p1 p2;rw[hi]at ha;injection ha with ha;subst ha
 have e1:s[p].Y1=s[q].Y0:=e1;have hpp:=FW hc hp;have hqq:=FW hc hq;have hpq:p+1=q:=by
  rcases Nat.lt_trichotomy p q with h|h|h
  ·by_cases h':p+1=q
   ·exact h'
   ·have h3:=FV hc hp (show p+1<s.length by omega) (by omega);have h4:=FV hc (show p+1<s.length by omega) hq (by omega);have h5:=FW hc (show p+1<s.length by omega);omega
  ·grind
  ·have:=FV hc hq hp h;omega
 grind
structure PJ (all:Z aF) (n:Nat) (up:Z Int) (r:Nat->Nat) (E:Z (Nat×Nat)):Prop where
 uf:UF n up r
 co:oq r E
 fi:yN n r E
 so:∀p∈E,CW all p.1 p.2
theorem PJ.join{all:Z aF}{n:Nat}{up up':Z Int}{r:Nat->Nat}{E:Z (Nat×Nat)}(h:PJ all n up r E){i j:Nat}(hi:i<n)(hj:j<n)(hu:UF n up' (tU r (r i)<|r j))(ht:CW all i j):PJ all n up' (tU r (r i)<|r j) (E++[(i,j)]):=
 ⟨hu,h.co.join i j (h.uf.rr i hi),h.fi.join hi hj,λp hp=>by
  rcases dI.1 hp with hp|hp
  ·exact h.so p hp
  grind⟩
structure Joined (all:Z aF) (r:Nat->Nat):Prop where
 le:∀i,i<all.length->r i<=i
 rr:∀i,i<all.length->r (r i)=r i
 co:∀i j,CW all i j->r i=r j
 fi:∀S:Nat->Prop,(∀i j,CW all i j->(S i↔S j))->∀i j,i<all.length->j<all.length->r i=r j->S i->S j
def pd(all:Z aF)(n:Nat)(r:Nat->Nat)(h:Nat):Z aF:=(cls n r h).filterMap<|λi=>all[i]?
theorem FX(all:Z aF)(n:Nat)(r:Nat->Nat)(h:Nat):(pd all n r h).length<=n:=by
 grind [List.length_filterMap_le,cls,CD,pd]
theorem Ae{all:Z aF}{n:Nat}{r:Nat->Nat}(h:Nat){x:aF}(hx:all[n]? =some x):pd all (n+1) r h=if r n=h then pd all n r h++[x]else pd all n r h:=by
 grind [pd,zp]
theorem mZ{all:Z aF}{n:Nat}{r:Nat->Nat}{h:Nat}{x:aF}:x∈pd all n r h↔∃i,i<n/\r i=h/\all[i]? =some x:=by
 unfold pd cls
 grind
structure vY (s:Z aA) (r:Nat->Nat) (ps:Z (Z aA)):Prop where
 join:Joined (bB s) r
 len:ps.length=(bW (bB s).length r).length
 each:∀(j h:Nat)(p:Z aA),(bW (bB s).length r)[j]? =some h->ps[j]? =some p->vm (pd (bB s) (bB s).length r h) p
def V6(n:Nat)(r:Nat->Nat)(m:Z (Int×Int)):Prop:=(∀(j k:Nat),(bW n r)[j]? =some k->fH m (k:Int) 0=(j:Int))/\∀k:Nat,kL m (k:Int)=decide (k∈bW n r)
theorem LG{s:Z aA}{X Y:Z Int}(hc:ga (s.map cQ))(hl:BQ X Y (s.map cQ))(hX:∀c∈X,small c)(hY:∀c∈Y,small c)(h1:s.length<=1073741824)(h2:∀b∈s,b.Xs.length<=1073741824)(h3:(bB s).length<=134217728)(hN:nq N):
  Ok (nK N s) (λps=>∃r,vY s r ps):=by
 unfold nK;have hev:=xk hc;have hinc:=MC hc;refine IS (FQ hev (by omega) (λb hb=>by grind) (by omega)) ?_;have hok:=FR hc hl hX hY;have hall:kK s s.length=(bB s).length:=Kg s;generalize hn:(bB s).length=n at *;refine IS (pI 0 (by omega)) ?_;rw[show((List.replicate n (0:Int)).length)=n by simp];refine WJ (XI (λk up=>up.length=n/\∀i,i<k->up[i]? =some ((i:Nat):Int)) (by omega) ⟨by simp,λi hi=>by omega⟩<|λk up hk hI=>?_) ?_
 ·grind [XH,OF,cK,rX]
 rintro up0⟨hu1,hu2⟩
 refine WJ (XI (λk st=>st.2.1=((kK s k:Nat):Int)/\(0<k->st.2.2=((kK s (k - 1):Nat):Int))/\∃r E,PJ (bB s) n st.1 r E/\∀q,q<k->∀i j,kK s q<=j->j<kK s (q+1)->CW (bB s) i j->(i,j)∈E) (by omega)
  ⟨rfl,λh=>by omega,_,_,⟨UF.init n up0 hu1 hu2,oq.id,yN.id n,λp hp=>(by cases hp)⟩,λq hq=>by omega⟩ (λk st hk hI=>?_)) ?_
 ·obtain⟨up,a,b⟩:=st;obtain⟨e1,e2,r,E,hP,hE⟩:=hI;dsimp only at e1 e2 hP ⊢;subst e1;refine XH hk ?_;have hoff:=Dq hk;have hoffle:kK s (k+1)<=n:=by rw[<-hall];exact Dr hk
  have hkm:=cH hk;have hlen:wrap .i64 (Int.tdiv ((s[k].Xs.length:Nat):Int) 2)=((s[k].Xs.length / 2:Nat):Int):=by
   grind [Int.ofNat_tdiv,Kd]
  rw[hlen,wrap_add (by omega),<-hoff];refine WJ (P:=λc=>c=true↔∃h0:0<k,s[k - 1].Y1=s[k].Y0) ?_<|λc hcc=>?_
  ·grind [OF,jB,XH,of_decide_eq_false]
  refine WJ (P:=λup'=>∃r E,PJ (bB s) n up' r E/\∀q,q<k+1->∀i j,kK s q<=j->j<kK s (q+1)->CW (bB s) i j->(i,j)∈E) ?_<|λup' hI=>OF ⟨rfl,λ_=>rfl,hI⟩
  refine Xj (λh=>?_)<|λh=>OF ⟨r,E,hP,λq hq i j q1 q2 ht=>?_⟩
  ·obtain⟨hpos,hyy⟩:=hcc.1 h;rw[e2 hpos];have hoffp:=Dq (show k - 1<s.length by omega);rw[show k - 1+1=k by omega]at hoffp
   refine WJ (XV (Go:=λst=>∃r E,PJ (bB s) n st.1 r E/\∀q,q<k+1->∀i j,kK s q<=j->j<kK s (q+1)->CW (bB s) i j->(i,j)∈E) (Rt:=λ_=>True)
    (λst=>∃i j:Nat,st.2.1=((i:Nat):Int)/\st.2.2=((j:Nat):Int)/\kK s (k - 1)<=i/\i<=kK s k/\kK s k<=j/\j<=kK s (k+1)/\∃r E,PJ (bB s) n st.1 r E/\(∀q,q<k->∀i j,kK s q<=j->j<kK s (q+1)->CW (bB s) i j->(i,j)∈E)/\
     ∀i' j',kK s (k - 1)<=i'->i'<kK s k->kK s k<=j'->j'<kK s (k+1)->(i'<i\/j'<j)->CW (bB s) i' j'->(i',j')∈E)
    (λst=>(n - st.2.1.toNat)+(n - st.2.2.toNat)) ?_ ?_ (by simp only[cK];omega)) (λo ho=>Xa ho (λst h=>OF h) (λr=>r.elim))
   ·rintro⟨up,a,b⟩⟨i,j,e3,e4,i1,i2,j1,j2,r,E,hP,hE,hE2⟩;dsimp only at e3 e4 hP ⊢;subst e3;subst e4;refine Xj (λh=>?_)<|λh=>W9 ?_
    ·rw[dD,dR,dR]at h;have hi:i<kK s k:=by omega
     have hj:j<kK s (k+1):=by omega
     obtain⟨t,et,_,hri⟩:=Ad hev (show k - 1<s.length by omega) i1 (by rw[show k - 1+1=k by omega];exact hi);obtain⟨u,eu,_,hrj⟩:=Ad hev hk j1 hj;have xi:=hinc _<|cH (show k - 1<s.length by omega)
     have xj:=hinc _ hkm;have farI:∀i' a,i<i'->i'<kK s k->(bB s)[i']? =some a->s[k - 1].Xs[2*t+1]<a.X0:=λi' a h4 h5 h6=>by
      obtain⟨t',et',ht',hr'⟩:=Ad hev (show k - 1<s.length by omega) (show kK s (k - 1)<=i' by omega) (by rw[show k - 1+1=k by omega];exact h5);rw[hr']at h6;injection h6 with h6;subst h6
      exact xi.lt (show 2*t+1<2*t' by omega) (aM _)<|aM _
     have farJ:∀j' a,j<j'->j'<kK s (k+1)->(bB s)[j']? =some a->s[k].Xs[2*u+1]<a.X0:=λj' a h4 h5 h6=>by
      obtain⟨u',eu',hu',hr'⟩:=Ad hev hk (show kK s k<=j' by omega) h5;rw[hr']at h6;injection h6 with h6;subst h6
      exact xj.lt (show 2*u+1<2*u' by omega) (aM _)<|aM _
     refine WJ (P:=λc=>c=true↔CW (bB s) i j) ?_<|λc hct=>?_
     ·refine WR hri<|WR hrj<|Xj (λh=>WR hrj<|WR hri<|OF ?_)<|λh=>OF ?_
      ·rw[dR]at h ⊢;constructor
       ·intro h';exact⟨_,_,hri,hrj,hyy,h,h'⟩
       ·rintro⟨a,c,ha,hc',_,_,h'⟩;rw[hri]at ha;injection ha with ha;subst ha
        rw[hrj]at hc';injection hc' with hc';subst hc'
        exact h'
      ·constructor
       ·intro h;cases h
       ·rintro⟨a,c,ha,hc',_,h',_⟩;rw[hri]at ha;injection ha with ha;subst ha
        rw[hrj]at hc';injection hc' with hc';subst hc'
        rw[decide_eq_false_iff_not]at h;exact absurd h' h
     refine WJ (P:=λup'=>∃r E',PJ (bB s) n up' r E'/\(∀p∈E,p∈E')/\(CW (bB s) i j->(i,j)∈E')) ?_ ?_
     ·refine Xj (λh=>?_)<|λh=>OF ⟨r,E,hP,λp hp=>hp,λht=>by rw[hct.2 ht]at h;cases h⟩
      obtain⟨up',u1,u2⟩:=OG (N:=N) (f:=λx=>some x) hP.uf (i:=i) (k:=j) (by omega) (by omega) (by omega);refine⟨up',u1,_,_,hP.join (by omega) (by omega) u2<|hct.1 h,λp hp=>List.mem_append_left _ hp,λ_=>by simp⟩
     ·rintro up'⟨r',E',hP',hsub,hij⟩;refine WR hri<|WR hrj ?_
      dsimp only
      by_cases hx:s[k - 1].Xs[2*t+1]<s[k].Xs[2*u+1]
      ·rw[bQ hx,aP];refine IS (x:=(((i+1:Nat):Int),((j:Nat):Int))) (by rw[bF (by omega)])<|W4 ⟨⟨i+1,j,rfl,rfl,by omega,by omega,j1,j2,r',E',hP',λq hq i j q1 q2 ht=>hsub _<|hE q hq i j q1 q2 ht,λi' j' g1 g2 g3 g4 g5 ht=>?_⟩,by simp only[cK];omega⟩
       by_cases h5:i'<i\/j'<j
       ·exact hsub _<|hE2 i' j' g1 g2 g3 g4 h5 ht
       ·have:i'=i:=by omega
        subst this
        by_cases h6:j'=j
        ·subst h6;exact hij ht
        ·exfalso;obtain⟨a,c,ha,hc',_,_,h'⟩:=ht;rw[hri]at ha;injection ha with ha;subst ha
         have:=farJ j' c (by omega) g4 hc';dsimp only at h';omega
      ·rw[bY hx,aQ];refine IS (x:=(((i:Nat):Int),((j+1:Nat):Int))) (by rw[bF (by omega)])<|W4 ⟨⟨i,j+1,rfl,rfl,i1,i2,by omega,by omega,r',E',hP',λq hq i j q1 q2 ht=>hsub _<|hE q hq i j q1 q2 ht,λi' j' g1 g2 g3 g4 g5 ht=>?_⟩,by simp only[cK];omega⟩
       by_cases h5:i'<i\/j'<j
       ·exact hsub _<|hE2 i' j' g1 g2 g3 g4 h5 ht
       ·have:j'=j:=by omega
        subst this
        by_cases h6:i'=i
        ·subst h6;exact hij ht
        ·exfalso;obtain⟨a,c,ha,hc',_,h',_⟩:=ht;rw[hrj]at hc';injection hc' with hc';subst hc'
         have:=farI i' a (by omega) g2 ha;dsimp only at h';omega
    ·refine⟨r,E,hP,λq hq i' j' q1 q2 ht=>?_⟩
     by_cases hqk:q<k
     ·exact hE q hqk i' j' q1 q2 ht
     ·have:q=k:=by omega
      subst this;obtain⟨_,_,g1,g2⟩:=Kh hc hk q1 q2 ht;refine hE2 i' j' g1 g2 q1 q2 ?_ ht;rw[Bool.and_eq_false_iff,decide_eq_false_iff_not,decide_eq_false_iff_not]at h;omega
   ·exact⟨kK s<|k - 1,kK s k,rfl,rfl,cJ _,Dr (by omega),cJ _,Dr (by omega),r,E,hP,hE,λi' j' g1 g2 g3 g4 g5=>by omega⟩
  ·by_cases hqk:q<k
   ·exact hE q hqk i j q1 q2 ht
   ·have:q=k:=by omega
    subst this;obtain⟨g0,g1,_⟩:=Kh hc hk q1 q2 ht;rw[hcc.2 ⟨g0,g1⟩]at h;cases h
 ·rintro⟨up,a,b⟩⟨_,_,r,E,hP,hE⟩;dsimp only at hP ⊢;have hEq:∀i j,CW (bB s) i j->(i,j)∈E:=λi j ht=>by
   have hjl:j<(bB s).length:=by obtain⟨a,c,_,hb,_⟩:=ht;exact(bS.1 hb).1
   obtain⟨q,hq,q1,q2⟩:=MB hjl;exact hE q hq i j q1 q2 ht
  have hJ:Joined (bB s) r:=⟨by rw[hn];exact hP.uf.le,by rw[hn];exact hP.uf.rr,λi j ht=>hP.co (i,j) (hEq i j ht),λS hS i j hi hj=>by
   rw[hn]at hi hj
   exact hP.fi S (λp hp=>hS p.1 p.2 (hP.so p hp)) i j hi hj⟩
  refine WJ (XI (λk st=>UF n st.1 r/\V6 k r st.2.1/\st.2.2=(bW k r).map (pd (bB s) k r)) (by omega) ⟨hP.uf,⟨λj k hj=>by simp[bW]at hj,λk=>rfl⟩,rfl⟩<|λk st hk hI=>?_) ?_
  ·obtain⟨l,m,ls⟩:=st;obtain⟨hu,⟨hm1,hm2⟩,hs⟩:=hI;dsimp only at hu hm1 hm2 hs ⊢;subst hs;have hkx:(bB s)[k]? =some ((bB s)[k]'(by omega)):=aM (by omega);refine WR hkx ?_;obtain⟨u',a1,a2⟩:=IH (N:=N) hu hk (by omega);refine IS a1 ?_;dsimp only;have hhl:=mj k r;have hrk:=hP.uf.le k hk;have hrr:=hP.uf.rr k hk;have hcl:=FX (bB s) k r<|r k
   have hmap:((bW k r).map<|pd (bB s) k r).length=(bW k r).length:=by simp
   rw[hm2]
   by_cases e:r k=k
   ·have hnot:r k∉bW k r:=λh=>by have:=(iP.1 h).1;omega
    refine IS (x:=(r8 m ((r k:Nat):Int) (((bW k r).length:Nat):Int),(bW k r).map (pd (bB s) k r)++[([]:Z aF)],(((bW k r).length:Nat):Int))) ?_ ?_
    ·rw[bY hnot,jH,aP,iS (by simp;omega),aB,hmap]
    ·dsimp only;have hi:((bW k r).map (pd (bB s) k r)++[([]:Z aF)])[(bW k r).length]? =some []:=by rw[<-hmap,jO<|cJ _,Nat.sub_self];rfl
     refine WR hi<|Xw (by simp)<|WR hi<|OF ⟨a2,⟨λj q hj=>?_,λq=>?_⟩,?_⟩
     ·dsimp only;rw[iE,aH e]at hj;rw[lJ]
      by_cases e2:j<(bW k r).length
      ·rw[kM e2]at hj;have:=(iP.1<|gl hj).1;rw[aI (by omega)];exact hm1 j q hj
      ·rw[jO (by omega)]at hj;have hj0:j -(bW k r).length=0:=by
        have:=(bS.1 hj).1;simp at this;omega
       rw[hj0]at hj;simp at hj;subst hj;rw[aH (by rw[e])];congr 1;omega
     ·dsimp only;rw[n7,hm2,iE,aH e,jQ];rw[jd,dR,dR,dR,dI,lY,e];constructor
      ·rintro(h|h)
       ·exact .inr (by omega)
       ·exact .inl h
      ·rintro(h|h)
       ·exact .inr h
       ·exact .inl (by omega)
     ·dsimp only;rw[cK,<-hmap,List.set_append_right _ _<|cJ _,Nat.sub_self,iE,aH e,eU];congr 1
      ·apply List.map_congr_left;intro a ha;have:=(iP.1 ha).1;rw[Ae a hkx,aI (by omega)]
      ·simp only[List.set_cons_zero,eV,List.map_nil,List.nil_append];rw[Ae k hkx,aH e];have:pd (bB s) k r k= []:=by unfold pd;rw[MA (λi hi=>hP.uf.le i (by omega))<|cJ _];rfl
       rw[this];rfl
   ·have hh:r k∈bW k r:=iP.2 ⟨by omega,hrr⟩;obtain⟨j,hj⟩:=dZ hh;refine IS (x:=(m,(bW k r).map<|pd (bB s) k r,((j:Nat):Int))) ?_ ?_
    ·rw[bQ hh,ku,aQ,hm1 j (r k) hj]
    ·dsimp only;have hi:((bW k r).map<|pd (bB s) k r)[j]? =some (pd (bB s) k r<|r k):=by rw[gE,hj];rfl
     refine WR hi<|Xw (by simp;omega)<|WR hi<|OF ⟨a2,⟨λj' q hj'=>?_,λq=>?_⟩,?_⟩
     ·rw[iE,aI e]at hj';exact hm1 j' q hj'
     ·rw[iE,aI e];exact hm2 q
     ·dsimp only;rw[cK,iE,aI e]
      have:=zq (pd (bB s) k r) (pd (bB s) (k+1) r) (bW k r) j (r k) (na k r) hj (λb hb hne=>by
       rw[Ae b hkx,aI (λh=>hne h.symm)])
      rw[Ae (r k) hkx,aH rfl]at this;exact this
  ·rintro⟨l,m,ls⟩⟨_,_,hs⟩;dsimp only at hs ⊢;subst hs;have hhl:=mj n r;refine WJ (XI (λk ps=>ps.length=k/\∀(j h:Nat)(p:Z aA),j<k->(bW n r)[j]? =some h->ps[j]? =some p->vm (pd (bB s) n r h) p) (by simp;omega) ⟨rfl,λj h p hj=>by omega⟩<|λk ps hk hI=>?_) ?_
   ·obtain⟨hp1,hp2⟩:=hI;have hk':k<(bW n r).length:=by simpa using hk
    refine WR (x:=pd (bB s) n r (bW n r)[k]) (by rw[gE,aM hk'];rfl) ?_;have hcl:=FX (bB s) n r (bW n r)[k];refine WJ (sJ (N:=N) (by omega) (λx hx=>?_) (by omega)) ?_
    ·obtain⟨i,_,_,h⟩:=mZ.1 hx;exact(hok x<|gl h).1
    ·intro p hp;refine Xw (by rw[hp1];simp;omega)<|OF ⟨by simp[hp1],λj h q hj hh hq=>?_⟩
     by_cases hjk:j<k
     ·rw[kM (by omega)]at hq;exact hp2 j h q hjk hh hq
     ·have:j=k:=by omega
      subst this;rw[jO (by omega),hp1,Nat.sub_self]at hq;simp at hq;subst hq;rw[aM hk']at hh;injection hh with hh;subst hh
      exact hp
   ·rintro ps⟨hp1,hp2⟩;refine OF ⟨r,hJ,?_,λj h p hh hp=>?_⟩
    ·rw[hp1,hn];simp
    ·rw[hn]at hh ⊢;exact hp2 j h p (by have:=(bS.1 hp).1;omega) hh hp
end
section
variable {N:Nat}
theorem CE{n:Int}(h: -9223372036854775808<=n/\n<=9223372036854775807):wrap .i64 n=n:=by grind [IntKind.wrap_i64]
def il(n lo hi:Int):Bool:=decide (n>=lo)&&decide (n<=hi)
def su(n:Int):Bool:=il n (-1000000) 1000000
def vo(p:dW):Bool:=su p.X&&su p.Y
def dK(r:aF):Bool:=su r.X0&&(su r.Y0&&(su r.X1&&su r.Y1))
theorem Ki(n:Int):ng N n=some (su n):=rfl
theorem D4(p:dW):lC N p=some (vo p):=by
 unfold lC vo
 grind [Ki,aB]
theorem D5(p:dW):gU N p=some (vo p):=by
 have e:∀n,dF N n=some (su n):=λ_=>rfl;unfold gU vo
 grind
theorem FY(r:aF):pq N r=some (dK r):=by
 unfold pq dK
 grind [Ki,aB]
theorem Kj{a b:Int}(h:a≠b):jg (N+4) [a,b]=some [a,b]:=by
 have e:(b==a)=false:=by grind
 have w1:wrap .i64 ((1:Int) - 1)=0:=by decide
 have w2:wrap .i64 ((1:Int)+1)=2:=by decide
 unfold jg;have e1:idx [a,b] 1=some b:=rfl;have e2:idx [a,b] 0=some a:=rfl;have l2:(([a,b]:Z Int).length:Int)=2:=rfl;rw[l2,show decide ((2:Int)<2)=false by decide,aQ];rw[iI.eq_def];dsimp only;rw[show decide ((1:Int)<2)=true by decide,aP,e1,aB,w1,e2,aB,e,aQ,aB,w2];dsimp only;rw[iI.eq_def];dsimp only;rw[show decide ((2:Int)<2)=false by decide,aQ,aB];rfl
theorem Q9(x:Int):wrap .i64 (x - x)=0:=by rw[Int.sub_self];decide
theorem Nq{r:aF}(hx:r.X0<r.X1)(hy:r.Y0<r.Y1):jm (N+16) [r]=some [⟨r.Y0,r.Y1,[r.X0,r.X1]⟩]:=by
 have s1:B2 (lN<|N+16) [r]=some [r]:=HA (by unfold lN;rw[Q9]);have s2:B2 (jh<|N+16) [r]=some [r]:=HA (by unfold jh;rw[Q9]);have s3:yU [r.Y0,r.Y1]=some [r.Y0,r.Y1]:=G3 (by simp;omega) (by simp);have c1:kO (N+16) [r]=some [r]:=rfl;have f1:∀φ,jT (N+16) [] φ=some []:=λφ=>rfl;have st:kZ (N+16) [r]=some ([r.X0,r.X1],[r]):=by
  unfold kZ;rw[s2,aB];rfl
 have pu:∀b:aA,b.Xs= [r.X0,r.X1]->b.Y0<b.Y1->kD (N+16) [] b=some [b]:=λb h1 h2=>by
  unfold kD;rw[h1,bY (show ¬b.Y1<=b.Y0 by omega)];rfl
 unfold jm;rw[c1,aB,s1,aB];have ys:k9 ([r]:Z aF).length (λ(k35:Nat)(s36:Z Int)=>((idx [r] (k35:Int)).bind λx54=>(app 8 s36 ([x54.Y0,x54.Y1]:Z Int)).bind λx58=>some x58:aT (Z Int))) ([]:Z Int)=some [r.Y0,r.Y1]:=rfl;rw[ys,aB,s3,aB,Kj (N:=N+12) (by omega),aB];have l2:(([r.Y0,r.Y1]:Z Int).length:Int)=2:=rfl;have l1:(([r]:Z aF).length:Int)=1:=rfl;have w1:wrap .i64 ((0:Int)+1)=1:=by decide
 have w2:wrap .i64 ((1:Int)+1)=2:=by decide
 have i0:idx [r.Y0,r.Y1] 0=some r.Y0:=rfl;have i1:idx [r.Y0,r.Y1] 1=some r.Y1:=rfl;have j0:idx [r] 0=some r:=rfl;have a1:app 32 ([]:Z aF) [r]=some [r]:=rfl;rw[l2,l1];rw[iI.eq_def];dsimp only;rw[w1,show decide ((1:Int)<2)=true by decide,aP,f1,aB];rw[iI.eq_def];dsimp only;rw[show decide ((0:Int)<1)=true by decide,aP,j0,aB,i0,aB,aB,show decide (r.Y0<=r.Y0)=true by simp,aP,aB,a1,aB,w1,aB];dsimp only;rw[iI.eq_def];dsimp only;rw[show decide ((1:Int)<1)=false by decide,aQ,aB,aQ,aB,aB];unfold Fo.cs;dsimp only;rw[aB,i1,aB,st,aB,pu _ rfl hy,aB,aB];dsimp only;rw[iI.eq_def];dsimp only;rw[w2,show decide ((2:Int)<2)=false by decide,aQ,aB];rfl
theorem OH{r:aF}(hx:r.X0<r.X1):oL N [⟨r.Y0,r.Y1,[r.X0,r.X1]⟩]=some (dK r):=by
 have ar:pw N [⟨r.Y0,r.Y1,[r.X0,r.X1]⟩]=some r:=by
  have e1:(if r.X0<r.X0 then r.X0 else r.X0)=r.X0:=by split <;> rfl
  have e2:(if r.X1<r.X1 then r.X1 else r.X1)=r.X1:=by split <;> rfl
  show some ({X0:=(if r.X0<r.X0 then r.X0 else r.X0),Y0:=r.Y0,X1:=(if r.X1<r.X1 then r.X1 else r.X1),Y1:=r.Y1}:aF)=some r;rw[e1,e2]
 grind [oL,aB,FY]
def zu(b:bV):aF:=⟨b.At.X - b.eN / 2,b.At.Y - b.eN / 2,b.At.X - b.eN / 2+b.eN,b.At.Y - b.eN / 2+b.eN⟩
def tY(b:bV):Bool:=il b.eN 1 10000&&vo b.At
def oF(b:bV):aF×Int:=if tY b&&dK (zu b)then(zu b,0)else(⟨0,0,0,0⟩,1)
theorem vZ{b:bV}(h:tY b=true):(1<=b.eN/\b.eN<=10000)/\(-1000000<=b.At.X/\b.At.X<=1000000)/\(-1000000<=b.At.Y/\b.At.Y<=1000000):=by
 simp only[tY,il,vo,su,dD,decide_eq_true_iff]at h;omega
theorem pf{b:bV}(h:tY b=true):iH N b=some (zu b):=by
 obtain⟨h1,h2,h3⟩:=vZ h;have t:Int.tdiv b.eN 2=b.eN / 2:=Int.tdiv_eq_ediv_of_nonneg (by omega);unfold iH zu
 grind [CE]
theorem Ds{b:bV}:nV (N+16) b=some (oF b):=by
 have e0:jM (N+16) b.eN 1 10000=some (il b.eN 1 10000):=rfl;have e1:(bif(!(il b.eN 1 10000))then some true else some (!(vo b.At)))=some (!tY b):=by unfold tY;cases il b.eN 1 10000 <;> rfl
 unfold nV oF;rw[e0,aB,D4,aB,e1,aB]
 cases hf:tY b with
 |false=>rfl
 |true=>
  obtain⟨h1,h2,h3⟩:=vZ hf;have hx:(zu b).X0<(zu b).X1:=by simp only[zu];omega
  have hy:(zu b).Y0<(zu b).Y1:=by simp only[zu];omega
  rw[ku,aQ,pf hf,aB,Nq hx hy,aB,OH hx,aB]
  cases dK (zu b) <;> rfl
end
section
variable {N:Nat}
def Kk(c:UInt8):Bool:=
 (((decide ((c.toNat:Int)<65)||decide ((c.toNat:Int)>90))&&(decide ((c.toNat:Int)<97)||decide ((c.toNat:Int)>122)))&&(decide ((c.toNat:Int)<48)||decide ((c.toNat:Int)>57)))&&decide (Lib.indexByte [95,43,45,35] c<0)
def isWord(s:eJ):Bool:= !s.dV.any Kk&&(decide (1<=s.dV.length)&&decide (s.dV.length<=40))
theorem xX(s:eJ)(c:UInt8):iV N s (c.toNat:Int)=some (Lib.indexByte s.dV c):=by
 show some (Lib.indexByte s.dV (Int.toNat (c.toNat:Int)).toUInt8)=_;simp
theorem LH{R:Type}(b1:Bool)(c:UInt8)(r:R):
  ((bif b1 then((iV N (⟨[95,43,45,35]⟩) (c.toNat:Int)).bind λx14=>some<|decide<|x14<0)else some false).bind λs12=>bif s12 then some (.rt r)else(some<|.nx ()):aT (Fl Unit R))=some (if(b1&&decide (Lib.indexByte [95,43,45,35] c<0))=true then .rt r else .nx ()):=by
 rw[xX,aB]
 grind
theorem v7{s:eJ}(h:s.dV.length<=2097152):kE N s=some (isWord s):=by
 unfold kE
 rw[PW Kk false (by omega) (λk x hx=>by
  have hk:=(bS.1 hx).1;have e:Le s ((k:Nat):Int)=some x:=by grind [J5,aM]
  rw[e,aB]
  exact LH (R:=Bool) _ x false),aB]
 unfold isWord
 grind [Kk,Fo.cs,jH,Bool.false_eq_true,Option.some.injEq]
def cutAt(c:UInt8):Z UInt8->Z (Z UInt8)
 | []=>[[]]
 |b::l=>if b==c then []::cutAt c l else match cutAt c l with|h::t=>(b::h)::t| []=>[[b]]
theorem FZ{c:UInt8}:∀{l:Z UInt8},c∉l->cutAt c l= [l]
 | [],_=>rfl
 |b::l,h=>by
  unfold cutAt;have hb:(b==c)=false:=by rw[beq_eq_false_iff_ne];rintro rfl;exact h (by simp)
  rw[hb,FZ<|λh'=>h (by simp[h'])];rfl
theorem Kl{c:UInt8}:∀{a b:Z UInt8},c∉a->cutAt c (a++c::b)=a::cutAt c b
 | [],b,_=>by rw[List.nil_append];show(if(c==c)=true then _ else _)=_;simp
 |x::a,b,h=>by
  have hb:(x==c)=false:=by rw[beq_eq_false_iff_ne];rintro rfl;exact h (by simp)
  have ih:=Kl (c:=c) (a:=a) (b:=b)<|λh'=>h (by simp[h'])
  show(if(x==c)=true then []::cutAt c (a++c::b)else match cutAt c (a++c::b)with|h::t=>(x::h)::t| []=>[[x]])=_;rw[hb,ih];rfl
theorem zv:∀(l:Z UInt8)(c:UInt8),(Lib.indexByte l c = -1/\c∉l)\/∃a b,l=a++c::b/\c∉a/\Lib.indexByte l c=((a.length:Nat):Int)
 | [],c=> .inl ⟨rfl,by simp⟩
 |x::l,c=>by
  unfold Lib.indexByte
  by_cases hx:x=c
  ·subst hx;exact .inr ⟨[],l,rfl,by simp,by simp⟩
  ·have hb:(x==c)=false:=by rw[beq_eq_false_iff_ne];exact hx
   rcases zv l c with⟨h1,h2⟩|⟨a,b,h1,h2,h3⟩
   ·left;rw[hb,h1];refine⟨by simp,?_⟩;simp[h2];exact λh=>hx h.symm
   ·right;refine⟨x::a,b,by rw[h1];rfl,by grind,?_⟩;rw[hb,h3];have:(((a.length:Nat):Int)== -1)=false:=by rw[beq_eq_false_iff_ne];omega
    rw[this];simp
theorem OI(s:eJ)(c:UInt8):nW N s ⟨[c]⟩=some (Lib.indexByte s.dV c):=by
 show(mq N s ⟨[c]⟩).bind _=_;unfold mq
 by_cases h:eJ.wD ⟨[c]⟩ s=true
 ·grind [Cl,Lib.indexByte]
 ·rw[ot]at h;rw[h];show((kb N s (c.toNat:Int)).bind _).bind _=_;have:=xX (N:=N) s c
  grind [iV]
theorem OJ(s:eJ)(c:UInt8):qe N s ⟨[c]⟩=some ((s.dV.count c:Nat):Int):=by
 unfold qe;show(some _:aT Int)=_;simp[Lib.countByte]
theorem Nr{s:eJ}{k:Nat}(h:k<=s.dV.length):Be s 0 (k:Int)=some ⟨s.dV.take k⟩:=by
 unfold Be;grind
theorem Ns{s:eJ}{k:Nat}(h:k<=s.dV.length):Be s (k:Int) (s.dV.length:Int)=some ⟨s.dV.drop k⟩:=by
 grind [Be,cK,nc,mH]
def qP(s:eJ)(c:UInt8):Z eJ:=(cutAt c s.dV).map eJ.mk
theorem Km{s:eJ}(c:UInt8)(h:s.dV.length<=2097152)(hN:4194304<=N):nX N s ⟨[c]⟩=some (qP s c):=by
 have hc:s.dV.count c<=s.dV.length:=List.count_le_length;unfold nX px;rw[show((-1:Int)==0)=false by decide,aQ,show eJ.wD ⟨[c]⟩ ⟨[]⟩=false by simp[eJ.wD],aQ,OJ,aB];rw[gF (x:=((s.dV.count c:Nat):Int)+1) (by omega) (by omega),show decide ((-1:Int)<0)=true by decide,aP,aB];rw[gF (x:=(s.dV.length:Int)+1) (by omega) (by omega)];have e1:(if(s.dV.length:Int)+1<((s.dV.count c:Nat):Int)+1 then(s.dV.length:Int)+1 else((s.dV.count c:Nat):Int)+1)=((s.dV.count c+1:Nat):Int):=by
  omega
 rw[e1,pI _ (by omega),aB];rw[gF (x:=((s.dV.count c+1:Nat):Int) - 1) (by omega) (by omega)];have key:=Ck (S:=eJ×Z eJ×Int) (R:=Empty) (body:=(λ(s7:eJ×Z eJ×Int)=>(bif decide (s7.2.2<((s.dV.count c+1:Nat):Int) - 1)then((nW N s7.1 ⟨[c]⟩).bind λx23=>bif x23<0 then some (.br (s7.1,s7.2.1,s7.2.2))else((Be s7.1 0<|wrap .i64<|x23+0).bind λx24=>(idx s7.2.1 s7.2.2).bind λx25=>(Be s7.1 (wrap .i64<|x23+(((⟨[c]⟩:eJ).dV.length:Nat):Int)) ((s7.1.dV.length:Nat):Int)).bind λx27=>some<|.nx (x27,s7.2.1.set (Int.toNat s7.2.2) x24,wrap .i64<|s7.2.2+1)))else(some<|.br (s7.1,s7.2.1,s7.2.2)):aT (Fl (eJ×Z eJ×Int) Empty))))
  (λst=>∃ws:Z (Z UInt8),st.2.2=(ws.length:Int)/\cutAt c s.dV=ws++cutAt c st.1.dV/\ws.length+st.1.dV.count c=s.dV.count c/\st.1.dV.length<=s.dV.length/\st.2.1=ws.map eJ.mk++List.replicate (s.dV.count c+1 - ws.length) ⟨[]⟩)
  (λst=>s.dV.count c+1 - st.2.2.toNat)
  (λst=>∃ws:Z (Z UInt8),st.2.2=(ws.length:Int)/\cutAt c s.dV=ws++[st.1.dV]/\ws.length=s.dV.count c/\st.2.1=ws.map eJ.mk++[⟨[]⟩])
  (λ_=>True) (by
   rintro⟨r,arr,i⟩⟨ws,h1,h2,h3,h4,h5⟩;simp only at h1 h2 h3 h4 h5;subst h1 h5
   by_cases hlt:ws.length<s.dV.count c
   ·have hd:decide ((ws.length:Int)<((s.dV.count c+1:Nat):Int) - 1)=true:=by grind
    simp only[hd,aP,OI,aB]
    rcases zv r.dV c with⟨_,hn⟩|⟨a,b,hr,ha,hi⟩
    ·grind
    ·have hrl:r.dV.length=a.length+(b.length+1):=by rw[hr];simp
     rw[hi,bY (by omega),aQ];rw[show(a.length:Int)+0=(a.length:Int)by omega,gF (x:=(a.length:Int)) (by omega) (by omega),Nr (by omega),aB];rw[np _ _ (by simp;omega),aB];rw[show(a.length:Int)+(((⟨[c]⟩:eJ).dV.length:Nat):Int)=((a.length+1:Nat):Int)by simp,gF (x:=((a.length+1:Nat):Int)) (by omega) (by omega),Ns (by omega),aB];refine⟨_,rfl,⟨ws++[a],?_,?_,?_,?_,?_⟩,?_⟩
     ·grind [gF]
     ·simp_all[Kl]
     ·simp only;rw[hr]at h3 ⊢;simp[List.count_eq_zero_of_not_mem ha]at h3 ⊢;omega
     ·simp;omega
     ·simp only[cK];rw[List.set_append_right _ _ (by simp)];simp only[dM,Nat.sub_self];obtain⟨d,hd'⟩:∃d,s.dV.count c+1 - ws.length=d+1:=⟨s.dV.count c - ws.length,by omega⟩;rw[hd',List.replicate_succ,List.set_cons_zero,show s.dV.count c+1 -(ws++[a]).length=d by simp;omega];simp[hr]
     ·simp only;rw[gF (by omega) (by omega)];omega
   ·have hd:decide ((ws.length:Int)<((s.dV.count c+1:Nat):Int) - 1)=false:=by rw[decide_eq_false_iff_not];omega
    simp only[hd,aQ];refine⟨_,rfl,ws,rfl,?_,by omega,?_⟩
    ·have h0:r.dV.count c=0:=by omega
     rw[h2,FZ<|List.count_eq_zero.1 h0]
    ·rw[show s.dV.count c+1 - ws.length=1 by omega];rfl)
  N (s,List.replicate (s.dV.count c+1) ⟨[]⟩,0) ⟨[],rfl,rfl,by simp,cJ _,by simp⟩ (by simp only;omega)
 obtain⟨o,ho,hgo⟩:=key;rw[ho,aB]
 cases o with
 |rt r=>exact r.elim
 |go st=>
  obtain⟨r,arr,i⟩:=st;obtain⟨ws,h1,h2,h3,h4⟩:=hgo;simp only at h1 h2 h3 h4;subst h1 h4;simp only[Fo.cs];rw[np _ _ (by simp),aB,gF (by omega) (by omega)];rw[show(ws.length:Int)+1=((ws.length+1:Nat):Int)by omega,uX _ _ (by simp),aB,aB];unfold qP;rw[h2];rw[cK,List.set_append_right _ _ (by simp),nc (by simp)];simp
def pX(s:eJ):Bool:=decide (s.dV.length<=200)&&(qP s 47).all isWord
theorem Af{c:UInt8}:∀{l x:Z UInt8},x∈cutAt c l->x.length<=l.length
 | [],x,h=>by simp[cutAt]at h;subst h;simp
 |b::l,x,h=>by
  unfold cutAt at h;split at h
  ·rcases fJ.1 h with h|h
   ·subst h;simp
   ·have:=Af h;simp;omega
  ·split at h
   ·rename_i t e
    rcases fJ.1 h with h|h
    ·subst h;have:=Af (c:=c) (l:=l) (by rw[e];exact List.mem_cons_self);simp;omega
    ·have:=Af (c:=c) (l:=l) (by rw[e];exact jP _ h);simp;omega
   ·simp at h;subst h;simp
theorem HG(c:UInt8):∀(l:Z UInt8),(cutAt c l).length<=l.length+1
 | []=>by simp[cutAt]
 |b::l=>by
  have:=HG c l;unfold cutAt;split
  ·simp;omega
  ·split
   ·rename_i e;rw[e]at this;simp at this ⊢;omega
   ·simp
theorem HH{s x:eJ}{c:UInt8}(h:x∈qP s c):x.dV.length<=s.dV.length:=by
 obtain⟨y,hy,rfl⟩:=dN.1 h;exact Af hy
theorem HI(s:eJ)(c:UInt8):(qP s c).length<=s.dV.length+1:=by simp[qP,dM,HG]
theorem CF{s:eJ}(h:s.dV.length<=2097152)(hN:4194304<=N):oM N s=some (pX s):=by
 unfold oM pX
 by_cases hl:s.dV.length<=200
 ·rw[bQ (by omega),aP,Km 47 h hN,aB]
  have e:=wS (l:=qP s 47) (φ:=jV N) (λx=> !isWord x) (by have:=HI s 47;omega) (λx hx=>by
   unfold jV
   rw[v7 (by have:=HH hx;omega)];rfl)
  have e2:jU N (qP s 47) (jV N)=wk (qP s 47) (jV N):=rfl;rw[e2,e,aB,aB,bQ hl,Bool.true_and];congr 1;rw[jQ];simp
 ·rw[bY (by omega),aQ,aB,bY hl,Bool.false_and]
end
end Go.Gk
namespace Go.Gk
open Go IntKind Classical
section
variable {N:Nat}
theorem OK{a b:aA}(h:cQ a=cQ b):a=b:=by cases a;simp_all[cQ]
theorem CG:∀{s t:Z aA},s.map cQ=t.map cQ->s=t
 | [],[],_=>rfl
 | [],_::_,h=>by cases h
 |_::_,[],h=>by cases h
 |a::s,b::t,h=>by
  rw[eV,eV]at h;injection h with h1 h2
  rw[OK h1,CG h2]
theorem Kn{s t:Z aA}(hs:ga (s.map cQ))(ht:ga (t.map cQ))(h:∀x y,yQ (s.map cQ) x y=yQ (t.map cQ) x y):s=t:=CG<|xV hs ht h
theorem vm.unique{l:Z aF}{s t:Z aA}(hs:vm l s)(ht:vm l t):s=t:=Kn hs.can ht.can λx y=>by rw[hs.cover,ht.cover]
theorem vm.Ko{l:Z aF}{s:Z aA}(h:vm l s):s.length<=2*l.length/\(∀b∈s,b.Xs.length<=2*l.length)/\(bB s).length<=2*l.length*(2*l.length):=by
 have h1:s.length<=2*l.length:=by have:=h.FM.len h.can;grind [dM,nQ]
 have h2:∀b∈s,b.Xs.length<=2*l.length:=λb hb=>by
  have:=h.FM.row h.can (b:=cQ b)<|dN.2 ⟨b,hb,rfl⟩
  rwa[vl]at this
 simp_all[FP]
theorem Nt{n:Int}(h:su n=true): -1000000<=n/\n<=1000000:=by
 unfold su il at h
 grind
theorem jG{r:aF}(h:dK r=true):(-1000000<=r.X0/\r.X0<=1000000)/\(-1000000<=r.Y0/\r.Y0<=1000000)/\(-1000000<=r.X1/\r.X1<=1000000)/\(-1000000<=r.Y1/\r.Y1<=1000000):=by
 unfold dK at h
 simp_all[dD,Nt]
theorem F0{r:aF}(h:(-1000000<=r.X0/\r.X0<=1000000)/\(-1000000<=r.Y0/\r.Y0<=1000000)/\(-1000000<=r.X1/\r.X1<=1000000)/\(-1000000<=r.Y1/\r.Y1<=1000000)):dK r=true:=by
 unfold dK su il
 grind
theorem IJ{r:aF}(h:dK r=true)(hx:r.X0<r.X1)(hy:r.Y0<r.Y1):GL r:=by
 have:=jG h;refine⟨hx,hy,?_,?_,?_,?_⟩ <;> unfold small <;> omega
def nC(r:aF):aT Int:=if dK r=true then(if r.X1<=r.X0\/r.Y1<=r.Y0 then some 13 else none)else some 1
def nR(l:Z aF):Int:=if 2000<l.length then 2 else(l.findSome? nC).getD 0
theorem G5{l:Z aF}(hl:l.length<=4611686018427387904):mM N l=some (nR l):=by
 unfold mM nR
 by_cases h:2000<l.length
 ·grind
 ·rw[bY (by omega),aQ,aI h,Cm nC hl (λk x hx=>by
   rw[cB hx,aB,FY,aB];unfold nC
   cases hr:dK x with
   |false=>rfl
   |true=>
    rw[ku,aQ,aH rfl]
    by_cases h2:x.X1<=x.X0\/x.Y1<=x.Y0
    ·rw[aH h2,show(decide (x.X1<=x.X0)||decide (x.Y1<=x.Y0))=true by grind];rfl
    ·rw[aI h2,show(decide (x.X1<=x.X0)||decide (x.Y1<=x.Y0))=false by grind];rfl),aB]
  cases l.findSome? nC <;> rfl
theorem CH{r:aF}:nC r=none↔dK r=true/\r.X0<r.X1/\r.Y0<r.Y1:=by
 grind [nC]
theorem Kp{r:aF}{e:Int}(h:nC r=some e):e≠0:=by
 grind [nC]
theorem wA{l:Z aF}:nR l=0↔l.length<=2000/\∀r∈l,dK r=true/\r.X0<r.X1/\r.Y0<r.Y1:=by
 unfold nR
 by_cases h:2000<l.length
 ·omega
 ·rw[aI h]
  cases hf:l.findSome? nC with
  |none=>
   grind [List.findSome?_eq_none_iff,CH]
  |some e=>
   obtain⟨r,hr,he⟩:=List.exists_of_findSome?_eq_some hf
   grind [Kp,CH]
def St(l:Z aF):Prop:=∀(k:Nat)a b,l[k]? =some a->l[k+1]? =some b->¬(b.Y0<a.Y0\/(b.Y0=a.Y0/\b.X0<=a.X0))
def IK(l:Z aF):Prop:=∃s,vm l s/\bB s=l
noncomputable def ko(l:Z aF):Int:=if nR l≠0 then nR l else if St l then(if IK l then 0 else 3)else 8
theorem F1{l:Z aF}(h:nR l=0):l.length<=2000/\∀r∈l,GL r:=by grind [wA,IJ]
theorem LI{l m:Z aF}(hl:l.length<=4611686018427387904):mn N l m=some (decide<|l=m):=by
 have:=Df (l:=l) (m:=m) hl
 grind [Lx,mn,decide,instDecidableEqList]
theorem zw{l:Z aF}(hl:l.length<=1073741824)(hN:nq N):kP N l=some (ko l):=by
 refine XC ?_;unfold kP;refine IS (G5 (by omega)) ?_;unfold ko;refine Xj (λh=>OF ?_)<|λh=>?_
 ·grind
 ·have h0:nR l=0:=by simpa using h
  rw[aI (by omega)];obtain⟨hlen,hok⟩:=F1 h0;refine WJ (XV (Go:=λ_=>St l) (Rt:=λr=>r=8/\¬St l) (λs=>∃k:Nat,s=(k:Int)/\1<=k/\∀(j:Nat)a b,j+1<k->l[j]? =some a->l[j+1]? =some b->¬(b.Y0<a.Y0\/(b.Y0=a.Y0/\b.X0<=a.X0))) (λs=>l.length - s.toNat) ?_ ⟨1,rfl,cJ _,λj a b hj=>by omega⟩ (by simp;omega)) ?_
  ·rintro s⟨k,rfl,hk,hI⟩;refine Xj (λh=>?_)<|λh=>W9 λj a b ha hb=>hI j a b ?_ ha hb
   ·have hk2:k<l.length:=by grind
    rw[jB hk (by omega)];refine XH (by omega)<|XH hk2<|Xj (λhb=>XJ ⟨rfl,λhu=>?_⟩)<|λhb=>W4 ⟨⟨k+1,by grind [bF],by omega,λj a b hj ha hb'=>?_⟩,by grind [bF,cK]⟩
    ·refine hu (k - 1) l[k - 1] l[k] (aM _) (by grind) ?_
     grind
    grind
   grind
  ·rintro o ho;refine Xa ho (λs hu=>?_)<|λr hr=>OF (by grind)
   rw[aH hu];refine WJ (sJ (N:=N) (by omega) hok (by omega)) ?_;intro s hs;obtain⟨z1,z2,z3⟩:=hs.Ko;have z4:2*l.length*(2*l.length)<=4000*4000:=Nat.mul_le_mul (by omega) (by omega);refine IS (FQ (xk hs.can) (by omega) (λb hb=>by grind) (by omega))<|IS (LI (by omega)) ?_
   have hiff:IK l↔bB s=l:=⟨λ⟨t,h1,h2⟩=>by rw[hs.unique h1];exact h2,λh=>⟨s,hs,h⟩⟩
   grind [OF,bB]
theorem tC{l:Z aF}:ko l=0↔nR l=0/\St l/\IK l:=by
 unfold ko
 grind
theorem BG(n lo hi:Int):jM N n lo hi=some (il n lo hi):=rfl
theorem Nu{b:bV}(hN:16<=N):nV N b=some (oF b):=by
 have:=Ds (N:=N - 16) (b:=b)
 grind
def nD(n:Nat)(b:bV):aT Int:=if(oF b).2≠0 then some (oF b).2 else if il b.cM 0 ((n:Int) - 1)=true/\il b.To b.cM ((n:Int) - 1)=true then none else some 1
def j4(a:gZ):Int:=if 500<a.aN.length then 2 else(a.aN.findSome?<|nD a.aL.length).getD 0
theorem G6{a:gZ}(h1:a.aL.length<=4611686018427387904)(h2:a.aN.length<=4611686018427387904)(hN:16<=N):mo N a=some (j4 a):=by
 unfold mo j4
 by_cases h:500<a.aN.length
 ·grind
 ·have hw:wrap .i64 ((a.aL.length:Int) - 1)=(a.aL.length:Int) - 1:=gF (by omega) (by omega)
  rw[bY (by omega),aQ,aI h,Cm (nD a.aL.length) h2 (λk x hx=>by
   rw[cB hx,aB,Nu hN,aB];unfold nD
   by_cases h0:(oF x).2=0
   ·rw[aI (by omega),h0,show((0:Int) != 0)=false by rfl,aQ,hw,BG,aB,BG,aB]
    cases h3:il x.cM 0 ((a.aL.length:Int) - 1) <;> cases h4:il x.To x.cM ((a.aL.length:Int) - 1) <;> rfl
   ·rw[aH h0,show((oF x).2 != 0)=true by grind];rfl),aB]
  cases a.aN.findSome? (nD a.aL.length) <;> rfl
theorem Kq{b:bV}(h:(oF b).2=0):tY b=true/\dK (zu b)=true:=by
 unfold oF at h
 grind
theorem n8{a:gZ}(h:j4 a=0):a.aN.length<=500/\∀b∈a.aN,tY b=true/\dK (zu b)=true/\0<=b.cM/\b.cM<=b.To/\b.To<((a.aL.length:Nat):Int):=by
 unfold j4 at h;split at h
 ·omega
 ·refine⟨by omega,λb hb=>?_⟩;have hn:nD a.aL.length b=none:=by
   cases hf:a.aN.findSome? (nD a.aL.length)with
   |none=>grind
   |some e=>
    rw[hf]at h;obtain⟨c,hc,he⟩:=List.exists_of_findSome?_eq_some hf
    grind [nD]
  unfold nD at hn;split at hn
  ·cases hn
  ·rename_i h0;split at hn
   ·rename_i h1;have h0:(oF b).2=0:=by omega
    have:=Kq h0;unfold il at h1
    grind
   ·cases hn
theorem Ra{b:bV}(h1:tY b=true)(h2:dK (zu b)=true):GL (zu b):=by
 have hf:=vZ h1;refine IJ h2 ?_ ?_
 ·show b.At.X - b.eN / 2<b.At.X - b.eN / 2+b.eN;omega
 ·show b.At.Y - b.eN / 2<b.At.Y - b.eN / 2+b.eN;omega
def iq(p q:eK):Int:=if Lib.compareBytes p.Part.dV q.Part.dV≠0 then Lib.compareBytes p.Part.dV q.Part.dV else Lib.compareBytes p.eK.dV q.eK.dV
theorem qJ(p q:eK):fC N p q=some (iq p q):=by
 unfold fC iq;show(bif Lib.compareBytes p.Part.dV q.Part.dV != 0 then _ else _)=_
 by_cases h:Lib.compareBytes p.Part.dV q.Part.dV=0
 ·rw[h,aI (by simp)];rfl
 ·rw[aH h,show(Lib.compareBytes p.Part.dV q.Part.dV != 0)=true by simpa using h];rfl
def lq(l:dA):eK:=⟨l.Part,l.eK⟩
theorem Dt(l:dA):ni N l=some (lq l):=rfl
def l9(a:gZ)(k:Nat):aT Int:=(a.bO[k]?).bind λx=>
 if(pX x.Part&&isWord x.eK)=true then
  if(il x.cN 0 ((a.aL.length:Int) - 1)&&vo x.At)=true then
   if 0<k/\(∃y,a.bO[k - 1]? =some y/\iq (lq x) (lq y)<=0)then some 8 else none
  else some 1
 else some 5
noncomputable def nS(a:gZ):Int:=if 1000<a.bO.length then 2 else(rQ a.bO.length<|l9 a).getD 0
end
end Go.Gk
