/-
  Helping texts: plain functions and plain laws. No statement of the seed is proved here.
-/
import Derived.Test.YthcmplgiplcfiaaGreatDoorA1
import Derived.ChangeShapes
import Derived.ChangeSame
import Derived.Carry
import Derived.RowKit
import Derived.Test.YthcmplgiplcfiaaGreatDoorA2
set_option linter.unusedVariables false
set_option linter.unusedSimpArgs false
set_option linter.unusedSectionVars false
namespace Go.Gk
open Go IntKind
noncomputable section
structure aI where
 X0:Int
 Y0:Int
 X1:Int
 Y1:Int
 deriving DecidableEq,Inhabited
structure j6 where
 X:Int
 Y:Int
 deriving DecidableEq,Inhabited
structure bT where
 At:j6
 dW:Int
 cS:Int
 To:Int
 eP:Bool
 deriving DecidableEq,Inhabited
structure cX where
 Part:eQ
 dO:eQ
 dJ:Int
 At:j6
 deriving DecidableEq,Inhabited
structure jr where
 aJ:List (List aI)
 cN:List aI
 aQ:List bT
 bM:List cX
 deriving DecidableEq,Inhabited
structure dO where
 Part:eQ
 dO:eQ
 deriving DecidableEq,Inhabited
structure Test where
 A:dO
 B:dO
 Joined:Bool
 deriving DecidableEq,Inhabited
structure dP where
 bT:Bool
 Number:Int
 deriving DecidableEq,Inhabited
structure fo where
 Open:Bool
 dP:dP
 A:Int
 B:Int
 deriving DecidableEq,Inhabited
structure aA where
 Y0:Int
 Y1:Int
 Xs:List Int
 deriving DecidableEq,Inhabited
structure aH where
 dJ:Int
 Set:List aA
 iq:List aI
 deriving DecidableEq,Inhabited
structure cK where
 k8:List Int
 aQ:List Int
 gS:List dO
 deriving DecidableEq,Inhabited
structure aG where
 from_:Int
 to:Int
 deriving DecidableEq,Inhabited
structure aP where
 from_:Int
 to:Int
 jK:List aG
 deriving DecidableEq,Inhabited
def vS(N:Nat)(p0 p1 p2:Int):Option Bool:=
 some (decide (p0>=p1)&&decide (p0<=p2))
def mG(N:Nat)(p0:Int):Option Bool:=
 (vS N p0 (-1000000) 1000000).bind λj=>some j
def oE(N:Nat)(p0:aI):Option Bool:=
 ((mG N p0.X0).bind λj=>bif j then((mG N p0.Y0).bind λo=>bif o then((mG N p0.X1).bind λaa=>bif aa then((mG N p0.Y1).bind λab=>some ab)else some false)else some false)else some false).bind λad=>some ad
def mf(N:Nat)(p0:List aI):Option Int:=
 bif decide ((p0.length:Int)>2000)then some 2 else((uu p0.length (λ(o:Nat)(aa:Unit)=>((idx p0 (o:Int)).bind λj=>(oE N j).bind λab=>bif(!ab)then some (.rt 1)else(bif decide (j.X1<=j.X0)||decide (j.Y1<=j.Y0)then some (.rt 13)else some (.nx ())):Option (Fl Unit Int))) ()).bind λad=>ad.cs (λ(aa:Unit)=>some 0)<|λr=>some r)
def ku(N:Nat)(p0:List aI):Option (List aI):=
 (app 32 ([]:List aI) p0).bind λj=>some j
def k9(N:Nat)(p0 p1:aI):Option Int:=
 some (wrap .i64<|p0.Y0 - p1.Y0)
def iW(N:Nat)(p0:List Int):Option (List Int):=
 bif decide ((p0.length:Int)<2)then some p0 else((jt (λ(o:Int)=>(bif decide (o<(p0.length:Int))then((idx p0 o).bind λab=>(idx p0<|wrap .i64<|o - 1).bind λad=>bif ab==ad then((uv p0 o (p0.length:Int)).bind λak=>(jt (λ(j:List Int×Int×Int)=>(bif decide (j.2.2<(((j.1.length - Int.toNat o):Nat):Int))then((HQ j.1 o j.2.2).bind λae=>(HQ j.1 o<|wrap .i64<|j.2.2 - 1).bind λaf=>(bif ae != af then((HQ j.1 o j.2.2).bind λag=>(idx j.1 j.2.1).bind λal=>some (j.1.set (Int.toNat j.2.1) ag,wrap .i64<|j.2.1+1))else some (j.1,j.2.1)).bind λaa=>some<|.nx (aa.1,aa.2,wrap .i64<|j.2.2+1))else(some<|.br (j.1,j.2.1,j.2.2)):Option (Fl (List Int×Int×Int) Empty))) N (p0,o,1)).bind λah=>ah.cs (λ(j:List Int×Int×Int)=>(uv j.1 j.2.1 (j.1.length:Int)).bind λan=>(uv (j.1.take (Int.toNat j.2.1)++List.replicate (j.1.length - Int.toNat j.2.1) (0:Int)) 0 j.2.1).bind λai=>some<|.rt ai)<|λr=>r.elim)else some (.nx<|wrap .i64<|o+1))else(some<|.br o):Option (Fl Int<|List Int))) N 1).bind λaj=>aj.cs (λ(o:Int)=>some p0)<|λr=>some r)
def qp(N:Nat)(p0:aI)(p1:List Int)(p2:Int):Option Bool:=
 (idx p1 p2).bind λj=>some<|decide<|p0.Y1<=j
def ny(N:Nat)(p0:List aI)(p1:aI->Option Bool):Option Int:=
 (uu p0.length (λ(j:Nat)(o:Unit)=>((idx p0 (j:Int)).bind λaa=>(p1 aa).bind λab=>bif ab then some (.rt (j:Int))else(some<|.nx ()):Option (Fl Unit Int))) ()).bind λad=>ad.cs (λ(o:Unit)=>some<|-1)<|λr=>some r
def l4(N:Nat)(p0:List aI)(p1:aI->Option Bool):Option Int:=
 (uu p0.length (λ(j:Nat)(o:Unit)=>((idx p0 (j:Int)).bind λaa=>(p1 aa).bind λab=>bif ab then some (.rt (j:Int))else(some<|.nx ()):Option (Fl Unit Int))) ()).bind λad=>ad.cs (λ(o:Unit)=>some<|-1)<|λr=>some r
def jB(N:Nat)(p0:List aI)(p1:aI->Option Bool):Option (List aI):=
 (l4 N p0 p1).bind λo=>bif o==(-1)then some p0 else((jt (λ(j:List aI×Int×Int)=>(bif decide (j.2.2<(j.1.length:Int))then((idx j.1 j.2.2).bind λaa=>(p1 aa).bind λad=>(bif(!ad)then((idx j.1 j.2.1).bind λag=>some (j.1.set (Int.toNat j.2.1) aa,wrap .i64<|j.2.1+1))else some (j.1,j.2.1)).bind λab=>some<|.nx (ab.1,ab.2,wrap .i64<|j.2.2+1))else(some<|.br (j.1,j.2.1,j.2.2)):Option (Fl (List aI×Int×Int) Empty))) N (p0,o,wrap .i64<|o+1)).bind λae=>ae.cs (λ(j:List aI×Int×Int)=>(uv j.1 j.2.1 (j.1.length:Int)).bind λah=>(uv (j.1.take (Int.toNat j.2.1)++List.replicate (j.1.length - Int.toNat j.2.1) (⟨0,0,0,0⟩:aI)) 0 j.2.1).bind λaf=>some af)<|λr=>r.elim)
def iX(N:Nat)(p0 p1:aI):Option Int:=
 some (wrap .i64<|p0.X0 - p1.X0)
def kG(N:Nat)(p0:List aI):Option (List Int×List aI):=
 (zP (iX N) p0).bind λaa=>(mU aa.length (λ(ad:Nat)(j:List Int)=>((idx aa (ad:Int)).bind λo=>(bif decide (wrap .i64 ((j.length:Int) - 1)>=0)then((idx j<|wrap .i64<|(j.length:Int) - 1).bind λae=>some<|decide<|o.X0<=ae)else some false).bind λaf=>(bif af then((idx j<|wrap .i64<|(j.length:Int) - 1).bind λab=>(idx j<|wrap .i64<|(j.length:Int) - 1).bind λai=>some<|j.set (Int.toNat<|wrap .i64<|(j.length:Int) - 1) (if ab<o.X1 then o.X1 else ab))else((app 8 j ([o.X0,o.X1]:List Int)).bind λag=>some ag)).bind λah=>some ah:Option (List Int))) ([]:List Int)).bind λj=>some (j,aa)
def oF(N:Nat)(p0:List Int)(p1:List Int):Option Bool:=
 bif(p0.length:Int) != (p1.length:Int)then some false else((uu p0.length (λ(j:Nat)(o:Unit)=>((idx p0 (j:Int)).bind λaa=>(idx p1 (j:Int)).bind λab=>bif aa != ab then some (.rt false)else(some<|.nx ()):Option (Fl Unit Bool))) ()).bind λad=>ad.cs (λ(o:Unit)=>some true)<|λr=>some r)
def kg(N:Nat)(p0:List aA)(p1:aA):Option (List aA):=
 bif((p1.Xs.length:Int)==0)||decide (p1.Y1<=p1.Y0)then some p0 else((bif decide (wrap .i64 ((p0.length:Int) - 1)>=0)then((idx p0<|wrap .i64<|(p0.length:Int) - 1).bind λj=>bif j.Y1==p1.Y0 then((idx p0<|wrap .i64<|(p0.length:Int) - 1).bind λo=>(oF N o.Xs p1.Xs).bind λaa=>some aa)else some false)else some false).bind λab=>bif ab then((idx p0<|wrap .i64<|(p0.length:Int) - 1).bind λad=>some<|p0.set (Int.toNat<|wrap .i64<|(p0.length:Int) - 1)<|{ad with Y1:=p1.Y1})else((app 40 p0 ([p1]:List aA)).bind λae=>some ae))
def i5(N:Nat)(p0:List aI):Option (List aA):=
 (ku N p0).bind λag=>(zP (k9 N) ag).bind λaa=>(mU aa.length (λ(ah:Nat)(ad:List Int)=>((idx aa (ah:Int)).bind λae=>(app 8 ad ([ae.Y0,ae.Y1]:List Int)).bind λai=>some ai:Option (List Int))) ([]:List Int)).bind λad=>(xh ad).bind λaj=>(iW N aj).bind λab=>(jt (λ(j:List aA×List aI×Int×Int)=>(bif decide (wrap .i64 (j.2.2.2+1)<(ab.length:Int))then((jB N j.2.1<|λy0=>qp N y0 ab j.2.2.2).bind λak=>(jt (λ(o:List aI×Int)=>((bif decide (o.2<(aa.length:Int))then((idx aa o.2).bind λal=>(idx ab j.2.2.2).bind λan=>some<|decide<|al.Y0<=an)else some false).bind λao=>bif ao then((idx aa o.2).bind λaq=>(app 32 o.1 ([aq]:List aI)).bind λar=>some<|.nx (ar,wrap .i64<|o.2+1))else(some<|.br (o.1,o.2)):Option (Fl (List aI×Int) Empty))) N (ak,j.2.2.1)).bind λau=>au.cs (λ(o:List aI×Int)=>(idx ab j.2.2.2).bind λav=>(idx ab<|wrap .i64<|j.2.2.2+1).bind λaw=>(kG N o.1).bind λaf=>(kg N j.1 (⟨av,aw,af.1⟩:aA)).bind λax=>some<|.nx (ax,af.2,o.2,wrap .i64<|j.2.2.2+1))<|λr=>r.elim)else(some<|.br (j.1,j.2.1,j.2.2.1,j.2.2.2)):Option (Fl (List aA×List aI×Int×Int) Empty))) N (([]:List aA),([]:List aI),0,0)).bind λay=>ay.cs (λ(j:List aA×List aI×Int×Int)=>some j.1)<|λr=>r.elim
def kH(N:Nat)(p0:List aA):Option (List aI):=
 (mU p0.length (λ(ab:Nat)(aa:List aI)=>((idx p0 (ab:Int)).bind λo=>(jt (λ(j:List aI×Int)=>(bif decide (j.2<(o.Xs.length:Int))then((idx o.Xs j.2).bind λad=>(idx o.Xs<|wrap .i64<|j.2+1).bind λae=>(app 32 j.1 ([(⟨ad,o.Y0,ae,o.Y1⟩:aI)]:List aI)).bind λaf=>some<|.nx (af,wrap .i64<|j.2+2))else(some<|.br (j.1,j.2)):Option (Fl (List aI×Int) Empty))) N (aa,0)).bind λag=>ag.cs (λ(j:List aI×Int)=>some j.1) (λr=>r.elim):Option (List aI))) ([]:List aI)).bind λaa=>some aa
def lO(N:Nat)(p0:List aI)(p1:List aI):Option Bool:=
 bif(p0.length:Int) != (p1.length:Int)then some false else((uu p0.length (λ(j:Nat)(o:Unit)=>((idx p0 (j:Int)).bind λaa=>(idx p1 (j:Int)).bind λab=>bif(!(decide<|aa=ab))then some (.rt false)else(some<|.nx ()):Option (Fl Unit Bool))) ()).bind λad=>ad.cs (λ(o:Unit)=>some true)<|λr=>some r)
def kx(N:Nat)(p0:List aI):Option Int:=
 (mf N p0).bind λab=>bif ab != 0 then some ab else((jt (λ(j:Int)=>(bif decide (j<(p0.length:Int))then((idx p0<|wrap .i64<|j - 1).bind λo=>(idx p0 j).bind λaa=>bif decide (aa.Y0<o.Y0)||((aa.Y0==o.Y0)&&decide (aa.X0<=o.X0))then some (.rt 8)else some (.nx<|wrap .i64<|j+1))else(some<|.br j):Option (Fl Int Int))) N 1).bind λad=>ad.cs (λ(j:Int)=>(i5 N p0).bind λae=>(kH N ae).bind λaf=>(lO N af p0).bind λag=>bif(!ag)then some 3 else some 0)<|λr=>some r)
def jw(N:Nat)(p0 p1 p2:Int):Option Bool:=
 some (decide (p0>=p1)&&decide (p0<=p2))
def kQ(N:Nat)(p0:j6):Option Bool:=
 ((mG N p0.X).bind λj=>bif j then((mG N p0.Y).bind λo=>some o)else some false).bind λaa=>some aa
def ik(N:Nat)(p0:bT):Option aI:=
 some (⟨wrap .i64<|p0.At.X -(wrap .i64<|Int.tdiv p0.dW 2),wrap .i64<|p0.At.Y -(wrap .i64<|Int.tdiv p0.dW 2),wrap .i64<|wrap .i64 (p0.At.X -(wrap .i64<|Int.tdiv p0.dW 2))+p0.dW,wrap .i64<|wrap .i64 (p0.At.Y -(wrap .i64<|Int.tdiv p0.dW 2))+p0.dW⟩:aI)
def oG(N:Nat)(p0:List aA):Option aI:=
 (idx p0 0).bind λad=>(idx ad.Xs 0).bind λae=>(idx p0 0).bind λaf=>(idx p0 0).bind λag=>(idx ag.Xs 1).bind λah=>(idx p0<|wrap .i64<|(p0.length:Int) - 1).bind λai=>(mU p0.length (λ(aj:Nat)(j:aI)=>((idx p0 (aj:Int)).bind λo=>(idx o.Xs 0).bind λaa=>(idx o.Xs<|wrap .i64<|(o.Xs.length:Int) - 1).bind λab=>some ({{j with X0:=(if aa<j.X0 then aa else j.X0)}with X1:=(if j.X1<ab then ab else j.X1)}):Option aI)) (⟨ae,af.Y0,ah,ai.Y1⟩:aI)).bind λj=>some j
def nT(N:Nat)(p0:List aA):Option Bool:=
 (bif(p0.length:Int)==0 then some true else((oG N p0).bind λj=>(oE N j).bind λo=>some o)).bind λaa=>some aa
def nc(N:Nat)(p0:bT):Option (aI×Int):=
 ((jw N p0.dW 1 10000).bind λo=>bif(!o)then some true else((kQ N p0.At).bind λaa=>some<|!aa)).bind λab=>bif ab then some ((⟨0,0,0,0⟩:aI),1)else((ik N p0).bind λj=>(i5 N ([j]:List aI)).bind λad=>(nT N ad).bind λae=>bif(!ae)then some ((⟨0,0,0,0⟩:aI),1)else some (j,0))
def lP(N:Nat)(p0:jr):Option Int:=
 bif decide ((p0.aQ.length:Int)>500)then some 2 else((uu p0.aQ.length (λ(aa:Nat)(ab:Unit)=>((idx p0.aQ (aa:Int)).bind λj=>(nc N j).bind λo=>bif o.2 != 0 then some (.rt o.2)else(((jw N j.cS 0<|wrap .i64<|(p0.aJ.length:Int) - 1).bind λad=>bif(!ad)then some true else((jw N j.To j.cS<|wrap .i64<|(p0.aJ.length:Int) - 1).bind λae=>some<|!ae)).bind λaf=>bif af then some (.rt 1)else some (.nx ())):Option (Fl Unit Int))) ()).bind λag=>ag.cs (λ(ab:Unit)=>some 0)<|λr=>some r)
def jM(N:Nat)(p0:eQ)(p1:Int):Option Int:=
 some (Lib.indexByte p0.dN (Int.toNat p1).toUInt8)
def lQ(N:Nat)(p0 p1:eQ):Option Int:=
 bif((p1.dN.length:Int)==0)||p1.o8 p0 then some 0 else(bif(p1.dN.length:Int)==1 then((HL p1 0).bind λj=>(jM N p0 (j.toNat:Int)).bind λo=>some o)else(bif decide ((p1.dN.length:Int)>=(p0.dN.length:Int))then some (-1)else none))
def ng(N:Nat)(p0 p1:eQ):Option Int:=
 (lQ N p0 p1).bind λj=>some j
def o9(N:Nat)(p0 p1:eQ):Option Int:=
 bif(p1.dN.length:Int)==0 then none else(bif(p1.dN.length:Int)==1 then((HL p1 0).bind λaa=>some ((Lib.countByte p0.dN (Int.toNat (aa.toNat:Int)).toUInt8:Nat):Int))else((jt (λ(j:eQ×Int)=>((ng N j.1 p1).bind λo=>bif o==(-1)then some (.rt j.2)else((y4 j.1 (wrap .i64<|o+(p1.dN.length:Int)) (j.1.dN.length:Int)).bind λab=>some<|.nx (ab,wrap .i64<|j.2+1)):Option (Fl (eQ×Int) Int))) N (p0,0)).bind λad=>ad.cs (λ(j:eQ×Int)=>some 0)<|λr=>some r))
def oH(N:Nat)(p0 p1:eQ)(p2 p3:Int):Option (List eQ):=
 bif p3==0 then some ([]:List eQ)else(bif p1.o8 (⟨[]⟩)then none else((bif decide (p3<0)then((o9 N p0 p1).bind λab=>some<|wrap .i64<|ab+1)else some p3).bind λo=>(mk 16 (⟨[]⟩:eQ) (if wrap .i64 ((p0.dN.length:Int)+1)<o then wrap .i64 ((p0.dN.length:Int)+1)else o)).bind λad=>(jt (λ(j:eQ×List eQ×Int)=>(bif decide (j.2.2< wrap .i64 ((if wrap .i64 ((p0.dN.length:Int)+1)<o then wrap .i64 ((p0.dN.length:Int)+1)else o) - 1))then((ng N j.1 p1).bind λaa=>bif decide (aa<0)then some (.br (j.1,j.2.1,j.2.2))else((y4 j.1 0<|wrap .i64<|aa+p2).bind λae=>(idx j.2.1 j.2.2).bind λai=>(y4 j.1 (wrap .i64<|aa+(p1.dN.length:Int)) (j.1.dN.length:Int)).bind λaf=>some<|.nx (af,j.2.1.set (Int.toNat j.2.2) ae,wrap .i64<|j.2.2+1)))else(some<|.br (j.1,j.2.1,j.2.2)):Option (Fl (eQ×List eQ×Int) Empty))) N (p0,ad,0)).bind λag=>ag.cs (λ(j:eQ×List eQ×Int)=>(idx j.2.1 j.2.2).bind λaj=>(uv (j.2.1.set (Int.toNat j.2.2) j.1) 0<|wrap .i64<|j.2.2+1).bind λah=>some ah)<|λr=>r.elim))
def ni(N:Nat)(p0 p1:eQ):Option (List eQ):=
 (oH N p0 p1 0<|-1).bind λj=>some j
def mg(N:Nat)(p0:List eQ)(p1:eQ->Option Bool):Option Int:=
 (uu p0.length (λ(j:Nat)(o:Unit)=>((idx p0 (j:Int)).bind λaa=>(p1 aa).bind λab=>bif ab then some (.rt (j:Int))else(some<|.nx ()):Option (Fl Unit Int))) ()).bind λad=>ad.cs (λ(o:Unit)=>some<|-1)<|λr=>some r
def jC(N:Nat)(p0:List eQ)(p1:eQ->Option Bool):Option Bool:=
 (mg N p0 p1).bind λj=>some<|decide<|j>=0
def iH(N:Nat)(p0:eQ)(p1:Int):Option Int:=
 (jM N p0 p1).bind λj=>some j
def kh(N:Nat)(p0:eQ):Option Bool:=
 (uu p0.dN.length (λ(o:Nat)(aa:Unit)=>((HL p0 (o:Int)).bind λj=>(bif((decide ((j.toNat:Int)<65)||decide ((j.toNat:Int)>90))&&(decide ((j.toNat:Int)<97)||decide ((j.toNat:Int)>122)))&&(decide ((j.toNat:Int)<48)||decide ((j.toNat:Int)>57))then((iH N (⟨[95,43,45,35]⟩) (j.toNat:Int)).bind λab=>some<|decide<|ab<0)else some false).bind λad=>bif ad then some (.rt false)else(some<|.nx ()):Option (Fl Unit Bool))) ()).bind λae=>ae.cs (λ(aa:Unit)=>some<|decide ((p0.dN.length:Int)>=1)&&decide ((p0.dN.length:Int)<=40))<|λr=>some r
def jD(N:Nat)(p0:eQ):Option Bool:=
 (kh N p0).bind λj=>some<|!j
def nU(N:Nat)(p0:eQ):Option Bool:=
 (bif decide ((p0.dN.length:Int)<=200)then((ni N p0<|⟨[47]⟩).bind λj=>(jC N j<|jD N).bind λo=>some<|!o)else some false).bind λaa=>some aa
def mH(N:Nat)(p0:cX):Option dO:=
 some (⟨p0.Part,p0.dO⟩:dO)
def nz(N:Nat)(p0 p1:eQ):Option Int:=
 some (Lib.compareBytes p0.dN p1.dN)
def pC(N:Nat)(p0 p1:eQ):Option Int:=
 (nz N p0 p1).bind λj=>some j
def fp(N:Nat)(p0 p1:dO):Option Int:=
 (pC N p0.Part p1.Part).bind λj=>bif j != 0 then some j else((pC N p0.dO p1.dO).bind λo=>some o)
def lR(N:Nat)(p0:jr):Option Int:=
 bif decide ((p0.bM.length:Int)>1000)then some 2 else((uu p0.bM.length (λ(o:Nat)(aa:Unit)=>((idx p0.bM (o:Int)).bind λj=>((nU N j.Part).bind λab=>bif(!ab)then some true else((kh N j.dO).bind λad=>some<|!ad)).bind λae=>bif ae then some (.rt 5)else(((jw N j.dJ 0<|wrap .i64<|(p0.aJ.length:Int) - 1).bind λaf=>bif(!af)then some true else((kQ N j.At).bind λag=>some<|!ag)).bind λah=>bif ah then some (.rt 1)else((bif decide ((o:Int)>0)then((idx p0.bM<|wrap .i64<|(o:Int) - 1).bind λai=>(mH N j).bind λaj=>(mH N ai).bind λak=>(fp N aj ak).bind λal=>some<|decide<|al<=0)else some false).bind λan=>bif an then some (.rt 8)else some (.nx ()))):Option (Fl Unit Int))) ()).bind λao=>ao.cs (λ(aa:Unit)=>some 0)<|λr=>some r)
def nj(N:Nat)(p0 p1:Int)(p2 p3:Int):Option Int:=
 some (if(if 0<(wrap .i64<|wrap .i64 (p2 - p1)+1)then wrap .i64 (wrap .i64 (p2 - p1)+1)else 0)<(wrap .i64<|wrap .i64 (p0 - p3)+1)then wrap .i64 (wrap .i64 (p0 - p3)+1)else(if 0<(wrap .i64<|wrap .i64 (p2 - p1)+1)then wrap .i64 (wrap .i64 (p2 - p1)+1)else 0))
def uV(N:Nat)(p0 p1:aI):Option Int:=
 (nj N p0.X0 p0.X1 p1.X0 p1.X1).bind λj=>(nj N p0.Y0 p0.Y1 p1.Y0 p1.Y1).bind λo=>some (if j<o then o else j)
def mh(N:Nat)(p0:bT)(p1:Int):Option Bool:=
 some (decide (p0.cS<=p1)&&decide (p1<=p0.To))
def oI(N:Nat)(p0:List aA)(p1 p2:Int):Option (List Int×Int):=
 bif(p0.length:Int)==0 then some (([]:List Int),p2)else((idx p0 0).bind λaa=>bif decide (p1<aa.Y0)then((idx p0 0).bind λj=>some (([]:List Int),(if j.Y0<p2 then j.Y0 else p2)))else((idx p0 0).bind λab=>(idx p0 0).bind λo=>some (ab.Xs,(if o.Y1<p2 then o.Y1 else p2))))
def te(N:Nat)(p0:List Int)(p1:List Int)(p2:Bool->Bool->Option Bool):Option (List Int):=
 (jt (λ(j:List Int×List Int×List Int×Bool×Bool×Bool)=>((bif decide ((j.1.length:Int)>0)then some true else some (decide<|(j.2.1.length:Int)>0)).bind λaf=>bif af then((bif(j.2.1.length:Int)==0 then some true else(bif decide ((j.1.length:Int)>0)then((idx j.1 0).bind λag=>(idx j.2.1 0).bind λah=>some<|decide<|ag<=ah)else some false)).bind λai=>(bif ai then((idx j.1 0).bind λaj=>some aj)else((idx j.2.1 0).bind λak=>some ak)).bind λo=>(bif decide ((j.1.length:Int)>0)then((idx j.1 0).bind λal=>some<|al==o)else some false).bind λan=>(bif an then((uv j.1 1 (j.1.length:Int)).bind λao=>some (ao,(!j.2.2.2.1)))else some (j.1,j.2.2.2.1)).bind λaa=>(bif decide ((j.2.1.length:Int)>0)then((idx j.2.1 0).bind λaq=>some<|aq==o)else some false).bind λar=>(bif ar then((uv j.2.1 1 (j.2.1.length:Int)).bind λau=>some (au,(!j.2.2.2.2.1)))else some (j.2.1,j.2.2.2.2.1)).bind λab=>(p2 aa.2 ab.2).bind λad=>(bif ad != j.2.2.2.2.2 then((app 8 j.2.2.1 ([o]:List Int)).bind λav=>some (av,ad))else some (j.2.2.1,j.2.2.2.2.2)).bind λae=>some<|.nx (aa.1,ab.1,ae.1,aa.2,ab.2,ae.2))else(some<|.br (j.1,j.2.1,j.2.2.1,j.2.2.2.1,j.2.2.2.2.1,j.2.2.2.2.2)):Option (Fl (List Int×List Int×List Int×Bool×Bool×Bool) Empty))) N (p0,p1,([]:List Int),false,false,false)).bind λaw=>aw.cs (λ(j:List Int×List Int×List Int×Bool×Bool×Bool)=>some j.2.2.1)<|λr=>r.elim
def rl(N:Nat)(p0:List aA)(p1:List aA)(p2:Bool->Bool->Option Bool):Option (List aA):=
 bif wrap .i64 ((p0.length:Int)+(p1.length:Int))==0 then some ([]:List aA)else((mU (([p0,p1]:List (List aA)).length) (λ(ah:Nat)(o:Int×Int)=>((idx ([p0,p1]:List (List aA)) (ah:Int)).bind λad=>(bif decide ((ad.length:Int)>0)then((bif(ah:Int)==0 then some true else some ((p0.length:Int)==0)).bind λal=>(bif al then((idx ad 0).bind λan=>(idx ad<|wrap .i64<|(ad.length:Int) - 1).bind λao=>some (an.Y0,ao.Y1))else some (o.1,o.2)).bind λag=>(idx ad 0).bind λai=>(idx ad<|wrap .i64<|(ad.length:Int) - 1).bind λaj=>some ((if ai.Y0<ag.1 then ai.Y0 else ag.1),(if ag.2<aj.Y1 then aj.Y1 else ag.2)))else some (o.1,o.2)).bind λak=>some (ak.1,ak.2):Option (Int×Int))) (0,0)).bind λo=>(jt (λ(j:List aA×List aA×List aA×Int)=>(bif decide (j.2.2.2<o.2)then((jt (λ(aa:List aA)=>((bif decide ((aa.length:Int)>0)then((idx aa 0).bind λaq=>some<|decide<|aq.Y1<=j.2.2.2)else some false).bind λar=>bif ar then((uv aa 1 (aa.length:Int)).bind λau=>some<|.nx au)else(some<|.br aa):Option (Fl (List aA) Empty))) N j.1).bind λav=>av.cs (λ(aa:List aA)=>(jt (λ(ab:List aA)=>((bif decide ((ab.length:Int)>0)then((idx ab 0).bind λaw=>some<|decide<|aw.Y1<=j.2.2.2)else some false).bind λax=>bif ax then((uv ab 1 (ab.length:Int)).bind λay=>some<|.nx ay)else(some<|.br ab):Option (Fl (List aA) Empty))) N j.2.1).bind λaz=>az.cs (λ(ab:List aA)=>(oI N aa j.2.2.2 o.2).bind λae=>(oI N ab j.2.2.2 o.2).bind λaf=>(te N ae.1 af.1 p2).bind λa0=>(kg N j.2.2.1 (⟨j.2.2.2,(if af.2<ae.2 then af.2 else ae.2),a0⟩:aA)).bind λa1=>some<|.nx (aa,ab,a1,(if af.2<ae.2 then af.2 else ae.2)))<|λr=>r.elim)<|λr=>r.elim)else(some<|.br (j.1,j.2.1,j.2.2.1,j.2.2.2)):Option (Fl (List aA×List aA×List aA×Int) Empty))) N (p0,p1,([]:List aA),o.1)).bind λa2=>a2.cs (λ(j:List aA×List aA×List aA×Int)=>some j.2.2.1)<|λr=>r.elim)
def qs(N:Nat)(p0 p1:Bool):Option Bool:=
 some (p0&&(!p1))
def mi(N:Nat)(p0:List aA)(p1:List aA):Option (List aA):=
 (rl N p0 p1<|qs N).bind λj=>some j
def nV(N:Nat)(p0:List aA):Option Int:=
 (mU p0.length (λ(o:Nat)(j:Int)=>((idx p0 (o:Int)).bind λaa=>some (wrap .i64<|j+ wrap .i64 (Int.tdiv (aa.Xs.length:Int) 2)):Option Int)) 0).bind λj=>some j
def gr(N:Nat)(p0:Int)(p1_0:List Int):Option (Int×List Int):=
 (jt (λ(j:Int×List Int)=>((idx j.2 j.1).bind λaa=>bif aa != j.1 then((idx j.2 j.1).bind λab=>(idx j.2 ab).bind λo=>(idx j.2 j.1).bind λaf=>(idx (j.2.set (Int.toNat j.1) o) j.1).bind λad=>some<|.nx (ad,j.2.set (Int.toNat j.1) o))else(some<|.br (j.1,j.2)):Option (Fl (Int×List Int) Empty))) N (p0,p1_0)).bind λae=>ae.cs (λ(j:Int×List Int)=>some (j.1,j.2))<|λr=>r.elim
def mV(N:Nat)(p0:List aA):Option (List<|List aA):=
 (kH N p0).bind λab=>(mk 8 (0:Int) (ab.length:Int)).bind λan=>(mU an.length (λ(ai:Nat)(ag:List Int)=>((idx ag (ai:Int)).bind λbd=>some (ag.set (Int.toNat (ai:Int)) (ai:Int)):Option (List Int))) an).bind λag=>(mU p0.length (λ(aj:Nat)(aa:List Int×Int×Int)=>((idx p0 (aj:Int)).bind λak=>(bif decide ((aj:Int)>0)then((idx p0<|wrap .i64<|(aj:Int) - 1).bind λar=>some<|ar.Y1==ak.Y0)else some false).bind λau=>(bif au then((jt (λ(j:List Int×Int×Int)=>(bif decide (j.2.1<aa.2.1)&&decide (j.2.2< wrap .i64 (aa.2.1+ wrap .i64 (Int.tdiv (ak.Xs.length:Int) 2)))then(((idx ab j.2.1).bind λav=>(idx ab j.2.2).bind λaw=>bif decide (av.X0<aw.X1)then((idx ab j.2.2).bind λax=>(idx ab j.2.1).bind λay=>some<|decide<|ax.X0<ay.X1)else some false).bind λaz=>(bif az then((gr N j.2.1 j.1).bind λae=>(gr N j.2.2 ae.2).bind λad=>(idx ad.2 (if ae.1<ad.1 then ad.1 else ae.1)).bind λbf=>some<|ad.2.set (Int.toNat (if ae.1<ad.1 then ad.1 else ae.1)) (if ad.1<ae.1 then ad.1 else ae.1))else some j.1).bind λa0=>(idx ab j.2.1).bind λa1=>(idx ab j.2.2).bind λa2=>(bif decide (a1.X1<a2.X1)then some (wrap .i64<|j.2.1+1,j.2.2)else some (j.2.1,wrap .i64<|j.2.2+1)).bind λao=>some<|.nx (a0,ao.1,ao.2))else(some<|.br (j.1,j.2.1,j.2.2)):Option (Fl (List Int×Int×Int) Empty))) N (aa.1,aa.2.2,aa.2.1)).bind λa3=>a3.cs (λ(j:List Int×Int×Int)=>some j.1)<|λr=>r.elim)else some aa.1).bind λa4=>some (a4,wrap .i64<|aa.2.1+ wrap .i64 (Int.tdiv (ak.Xs.length:Int) 2),aa.2.1):Option (List Int×Int×Int))) (ag,0,0)).bind λaa=>(mU ab.length (λ(aq:Nat)(o:List Int×List (Int×Int)×List (List aI))=>((idx ab (aq:Int)).bind λa5=>(gr N (aq:Int) o.1).bind λah=>(bif(!(lA o.2.1 ah.1))then((app 24 o.2.2 [([]:List aI)]).bind λa6=>some (qP o.2.1 ah.1 (o.2.2.length:Int),a6,(o.2.2.length:Int)))else some (o.2.1,o.2.2,fD o.2.1 ah.1 (0:Int))).bind λaf=>(idx af.2.1 af.2.2).bind λa7=>(app 32 a7 ([a5]:List aI)).bind λa8=>(idx af.2.1 af.2.2).bind λbg=>some (ah.2,af.1,af.2.1.set (Int.toNat af.2.2) a8):Option (List Int×List (Int×Int)×List (List aI)))) (aa.1,([]:List (Int×Int)),([]:List (List aI)))).bind λo=>(mU o.2.2.length (λ(a9:Nat)(al:List (List aA))=>((idx o.2.2 (a9:Int)).bind λba=>(i5 N ba).bind λbb=>(app 24 al ([bb]:List (List aA))).bind λbc=>some bc:Option (List<|List aA))) ([]:List (List aA))).bind λal=>some al
def ld(N:Nat)(p0_0:List (List aI))(p0_2:List bT)(p0_4:List (List aA))(p0_5:List aH):Option (Bool×List (List aA)×List aH):=
 (mU p0_0.length (λ(aa:Nat)(j:List (List aA)×List aH×Bool)=>((idx p0_0 (aa:Int)).bind λai=>(mU p0_2.length (λ(aj:Nat)(o:List aI)=>((idx p0_2 (aj:Int)).bind λaf=>(mh N af (aa:Int)).bind λak=>(bif ak then((ik N af).bind λal=>(app 32 o ([al]:List aI)).bind λan=>some an)else some o).bind λao=>some ao:Option (List aI))) ([]:List aI)).bind λo=>(i5 N ai).bind λaq=>(i5 N o).bind λar=>(mi N aq ar).bind λab=>(bif j.2.2 then((nV N ab).bind λau=>some (decide<|au<=2000,ab))else some (false,ab)).bind λad=>(app 24 j.1 ([ad.2]:List (List aA))).bind λav=>(mV N ad.2).bind λag=>(mU ag.length (λ(aw:Nat)(ae:List aH)=>((idx ag (aw:Int)).bind λah=>(kH N ah).bind λax=>(app 56 ae ([(⟨(aa:Int),ah,ax⟩:aH)]:List aH)).bind λay=>some ay:Option (List aH))) j.2.1).bind λae=>some (av,ae,ad.1):Option (List (List aA)×List aH×Bool))) (p0_4,p0_5,true)).bind λj=>(bif j.2.2 then some (decide<|(j.2.1.length:Int)<=2000)else some false).bind λaz=>some (az,j.1,j.2.1)
def uw(N:Nat)(p0 p1:aI):Option Bool:=
 some (((decide (p0.X0<p1.X1)&&decide (p1.X0<p0.X1))&&((p0.Y1==p1.Y0)||(p1.Y1==p0.Y0)))||((decide (p0.Y0<p1.Y1)&&decide (p1.Y0<p0.Y1))&&((p0.X1==p1.X0)||(p1.X1==p0.X0))))
def lx(N:Nat)(p0:aI)(p1:bT):Option Bool:=
 (ik N p1).bind λj=>(uw N p0 j).bind λo=>some o
def iL(N:Nat)(p0:List aI)(p1:aI->Option Bool):Option Bool:=
 (ny N p0 p1).bind λj=>some<|decide<|j>=0
def lf(N:Nat)(p0_2:List bT)(p0_5:List aH)(p0_6:List (List Int)):Option (List<|List Int):=
 (mU p0_2.length (λ(ae:Nat)(o:List (List Int))=>((idx p0_2 (ae:Int)).bind λaa=>(mU p0_5.length (λ(ab:Nat)(j:List Int)=>((idx p0_5 (ab:Int)).bind λad=>(bif aa.eP then((mh N aa ad.dJ).bind λaf=>bif af then((iL N ad.iq<|λy0=>lx N y0 aa).bind λag=>some ag)else some false)else some false).bind λah=>(bif ah then((app 8 j ([(ab:Int)]:List Int)).bind λai=>some ai)else some j).bind λaj=>some aj:Option (List Int))) ([]:List Int)).bind λj=>(app 24 o ([j]:List (List Int))).bind λak=>some ak:Option (List<|List Int))) p0_6).bind λo=>some o
def kU(N:Nat)(p0:Int):Option (List Int):=
 (mk 8 (0:Int) p0).bind λaa=>(mU aa.length (λ(o:Nat)(j:List Int)=>((idx j (o:Int)).bind λab=>some (j.set (Int.toNat (o:Int)) (o:Int)):Option (List Int))) aa).bind λj=>some j
def fE(N:Nat)(p0_0:List Int)(p1:Int):Option (Int×List Int):=
 (jt (λ(j:List Int×Int)=>((idx j.1 j.2).bind λaa=>bif aa != j.2 then((idx j.1 j.2).bind λab=>(idx j.1 ab).bind λo=>(idx j.1 j.2).bind λaf=>(idx (j.1.set (Int.toNat j.2) o) j.2).bind λad=>some<|.nx (j.1.set (Int.toNat j.2) o,ad))else(some<|.br (j.1,j.2)):Option (Fl (List Int×Int) Empty))) N (p0_0,p1)).bind λae=>ae.cs (λ(j:List Int×Int)=>some (j.2,j.1))<|λr=>r.elim
def eV(N:Nat)(p0_0:List Int)(p1 p2:Int):Option (List Int):=
 (fE N p0_0 p1).bind λo=>(fE N o.2 p2).bind λj=>(idx j.2 (if o.1<j.1 then j.1 else o.1)).bind λaa=>some<|j.2.set (Int.toNat (if o.1<j.1 then j.1 else o.1)) (if j.1<o.1 then j.1 else o.1)
def lh(N:Nat)(p0_0:List Int):Option (List (List Int)×List Int):=
 (mU p0_0.length (λ(ab:Nat)(j:List Int×List (List Int)×List (Int×Int))=>((fE N j.1 (ab:Int)).bind λaa=>(bif aa.1==(ab:Int)then((app 24 j.2.1 [([]:List Int)]).bind λad=>some (ad,qP j.2.2 (ab:Int) (j.2.1.length:Int)))else some (j.2.1,j.2.2)).bind λo=>(idx o.1<|fD o.2 aa.1 (0:Int)).bind λae=>(app 8 ae ([(ab:Int)]:List Int)).bind λaf=>(idx o.1<|fD o.2 aa.1 (0:Int)).bind λag=>some (aa.2,o.1.set (Int.toNat<|fD o.2 aa.1 (0:Int)) af,o.2):Option (List Int×List (List Int)×List (Int×Int)))) (p0_0,([]:List (List Int)),([]:List (Int×Int)))).bind λj=>some (j.2.1,j.1)
def mI(N:Nat)(p0:aI)(p1:j6):Option Bool:=
 (bif decide (p1.X>=p0.X0)then(bif decide (p1.X<p0.X1)then(bif decide (p1.Y>=p0.Y0)then some (decide<|p1.Y<p0.Y1)else some false)else some false)else some false).bind λj=>some j
def lG(N:Nat)(p0:List aI)(p1:j6):Option Bool:=
 (iL N p0<|λy0=>mI N y0 p1).bind λj=>some j
def lj(N:Nat)(p0_2:List bT)(p0_5:List aH)(p1:cX):Option (dP×Bool):=
 (uu p0_2.length (λ(o:Nat)(ad:Unit)=>((idx p0_2 (o:Int)).bind λj=>(bif j.eP then((mh N j p1.dJ).bind λae=>bif ae then((ik N j).bind λaf=>(lG N ([af]:List aI) p1.At).bind λag=>some ag)else some false)else some false).bind λah=>bif ah then some (.rt ((⟨true,(o:Int)⟩:dP),true))else(some<|.nx ()):Option (Fl Unit<|dP×Bool))) ()).bind λai=>ai.cs (λ(ad:Unit)=>(uu p0_5.length (λ(aa:Nat)(aj:Unit)=>((idx p0_5 (aa:Int)).bind λab=>(bif ab.dJ==p1.dJ then((lG N ab.iq p1.At).bind λak=>some ak)else some false).bind λal=>bif al then some (.rt ((⟨false,(aa:Int)⟩:dP),true))else(some<|.nx ()):Option (Fl Unit<|dP×Bool))) ()).bind λan=>an.cs (λ(aj:Unit)=>some ((⟨false,0⟩:dP),false))<|λr=>some r)<|λr=>some r
def i6(N:Nat)(p0_8:List Int)(p0_9:List Int)(p1:dP):Option Int:=
 bif p1.bT then((idx p0_9 p1.Number).bind λj=>some j)else((idx p0_8 p1.Number).bind λo=>some o)
def gZ(N:Nat)(p0_2:List bT)(p0_3:List cX)(p0_5:List aH)(p0_6:List (List Int))(p0_8:List Int)(p0_9:List Int)(p0_10:List Int)(p0_11:List dP):Option (List cK×List Int×List Int×List Int×List dP):=
 (kU N<|wrap .i64<|(p0_5.length:Int)+(p0_2.length:Int)).bind λar=>(mU p0_6.length (λ(ai:Nat)(af:List Int)=>((idx p0_6 (ai:Int)).bind λaj=>(mU aj.length (λ(au:Nat)(ag:List Int)=>((idx aj (au:Int)).bind λav=>(eV N ag av<|wrap .i64<|(p0_5.length:Int)+(ai:Int)).bind λaw=>some aw:Option (List Int))) af).bind λag=>some ag:Option (List Int))) ar).bind λaf=>(mk 8 (0:Int) (p0_5.length:Int)).bind λax=>(mk 8 (0:Int) (p0_2.length:Int)).bind λay=>(lh N af).bind λak=>(mU ak.1.length (λ(az:Nat)(aa:List cK×List Int×List Int)=>((idx ak.1 (az:Int)).bind λal=>(mU al.length (λ(a0:Nat)(j:List Int×List Int×List Int×List Int)=>((idx al (a0:Int)).bind λab=>(bif decide (ab<(p0_5.length:Int))then((idx j.1 ab).bind λbd=>(app 8 j.2.2.1 ([ab]:List Int)).bind λa1=>some (j.1.set (Int.toNat ab) (aa.1.length:Int),j.2.1,a1,j.2.2.2))else((idx p0_2<|wrap .i64<|ab -(p0_5.length:Int)).bind λa2=>(bif a2.eP then((idx j.2.1<|wrap .i64<|ab -(p0_5.length:Int)).bind λbf=>(app 8 j.2.2.2 ([wrap .i64<|ab -(p0_5.length:Int)]:List Int)).bind λa3=>some (j.2.1.set (Int.toNat<|wrap .i64<|ab -(p0_5.length:Int)) (aa.1.length:Int),a3))else((idx j.2.1<|wrap .i64<|ab -(p0_5.length:Int)).bind λbg=>some (j.2.1.set (Int.toNat<|wrap .i64<|ab -(p0_5.length:Int))<|-1,j.2.2.2))).bind λan=>some (j.1,an.1,j.2.2.1,an.2))).bind λad=>some (ad.1,ad.2.1,ad.2.2.1,ad.2.2.2):Option (List Int×List Int×List Int×List Int))) (aa.2.1,aa.2.2,([]:List Int),([]:List Int))).bind λj=>(bif decide (wrap .i64 ((j.2.2.1.length:Int)+(j.2.2.2.length:Int))>0)then((app 72 aa.1 [(⟨j.2.2.1,j.2.2.2,([]:List dO)⟩:cK)]).bind λa4=>some a4)else some aa.1).bind λa5=>some (a5,j.1,j.2.1):Option (List cK×List Int×List Int))) (([]:List cK),ax,ay)).bind λaa=>(mU p0_3.length (λ(a6:Nat)(o:List cK×List Int×List Int×List Int×List dP)=>((idx p0_3 (a6:Int)).bind λao=>(lj N p0_2 p0_5 ao).bind λah=>(bif ah.2 then((i6 N o.2.1 o.2.2.1 ah.1).bind λae=>(idx o.1 ae).bind λa7=>(mH N ao).bind λa8=>(app 32 a7.gS ([a8]:List dO)).bind λa9=>(idx o.1 ae).bind λba=>some (o.1.set (Int.toNat ae) {ba with gS:=a9},ae))else some (o.1,(-1))).bind λaq=>(app 8 o.2.2.2.1 ([aq.2]:List Int)).bind λbb=>(app 16 o.2.2.2.2 ([ah.1]:List dP)).bind λbc=>some (aq.1,o.2.1,o.2.2.1,bb,bc):Option (List cK×List Int×List Int×List Int×List dP))) (aa.1,aa.2.1,aa.2.2,p0_10,p0_11)).bind λo=>some (o.1,o.2.1,o.2.2.1,o.2.2.2.1,o.2.2.2.2)
def fF(N:Nat)(p0:jr):Option (Option (List (List aI)×List aI×List bT×List cX×List (List aA)×List aH×List (List Int)×List cK×List Int×List Int×List Int×List dP)×Int):=
 bif(p0.aJ.length:Int)==0 then some (none,9)else(bif decide ((p0.aJ.length:Int)>16)then some (none,2)else((uu p0.aJ.length (λ(an:Nat)(aa:Int)=>((idx p0.aJ (an:Int)).bind λae=>(kx N ae).bind λaf=>bif af != 0 then some (.rt (none,af))else(some<|.nx<|wrap .i64<|aa+(ae.length:Int)):Option (Fl Int<|Option (List (List aI)×List aI×List bT×List cX×List (List aA)×List aH×List (List Int)×List cK×List Int×List Int×List Int×List dP)×Int))) (p0.cN.length:Int)).bind λao=>ao.cs (λ(aa:Int)=>(kx N p0.cN).bind λag=>bif ag != 0 then some (none,ag)else(bif decide (aa>2000)then some (none,2)else((lP N p0).bind λah=>bif ah != 0 then some (none,ah)else((lR N p0).bind λai=>bif ai != 0 then some (none,ai)else((uu p0.aQ.length (λ(aj:Nat)(aq:Unit)=>((idx p0.aQ (aj:Int)).bind λab=>(uv p0.aQ 0 (aj:Int)).bind λak=>(uu ak.length (λ(ar:Nat)(au:Unit)=>((idx ak (ar:Int)).bind λad=>(bif decide (ab.cS<=ad.To)&&decide (ad.cS<=ab.To)then((ik N ab).bind λav=>(ik N ad).bind λaw=>(uV N av aw).bind λax=>some<|ax==0)else some false).bind λay=>bif ay then some (.rt (none,12))else(some<|.nx ()):Option (Fl Unit<|Option (List (List aI)×List aI×List bT×List cX×List (List aA)×List aH×List (List Int)×List cK×List Int×List Int×List Int×List dP)×Int))) ()).bind λaz=>az.cs (λ(au:Unit)=>some<|.nx ()) (λr=>some<|.rt r):Option (Fl Unit<|Option (List (List aI)×List aI×List bT×List cX×List (List aA)×List aH×List (List Int)×List cK×List Int×List Int×List Int×List dP)×Int))) ()).bind λa0=>a0.cs (λ(aq:Unit)=>(ld N p0.aJ p0.aQ ([]:List (List aA)) ([]:List aH)).bind λj=>bif(!j.1)then some (none,2)else((lf N p0.aQ j.2.2 ([]:List (List Int))).bind λal=>(gZ N p0.aQ p0.bM j.2.2 al ([]:List Int) ([]:List Int) ([]:List Int) ([]:List dP)).bind λo=>some (some (p0.aJ,p0.cN,p0.aQ,p0.bM,j.2.1,j.2.2,al,o.1,o.2.1,o.2.2.1,o.2.2.2.1,o.2.2.2.2),0)))<|λr=>some r)))))<|λr=>some r))
def qt(N:Nat)(p0 p1 p2:Int):Option Bool:=
 some (decide (p0>=p1)&&decide (p0<=p2))
def iE(N:Nat)(p0:Int)(p1h_5:List aH):Option Bool:=
 (qt N p0 0<|wrap .i64<|(p1h_5.length:Int) - 1).bind λj=>some j
def qu(N:Nat)(p0:List fo)(p1:fo):Option Int:=
 (uu p0.length (λ(j:Nat)(o:Unit)=>((idx p0 (j:Int)).bind λaa=>bif decide (p1=aa)then some (.rt (j:Int))else(some<|.nx ()):Option (Fl Unit Int))) ()).bind λab=>ab.cs (λ(o:Unit)=>some<|-1)<|λr=>some r
def ki(N:Nat)(p0:List fo)(p1:fo):Option Bool:=
 (qu N p0 p1).bind λj=>some<|decide<|j>=0
def jR(N:Nat)(p0_0:List (List aI))(p0_1:List aI)(p0_2:List bT)(p0_3:List cX)(p0_4:List (List aA))(p0_5:List aH)(p0_6:List (List Int))(p0_7:List cK)(p0_8:List Int)(p0_9:List Int)(p0_10:List Int)(p0_11:List dP)(p1:List fo):Option Int:=
 bif decide ((p1.length:Int)>20)then some 2 else((uu p1.length (λ(o:Nat)(aa:Unit)=>((idx p1 (o:Int)).bind λj=>(bif j.Open&&((j.A != 0)||(j.B != 0))then some true else(bif(!j.Open)then some (!(decide<|j.dP=(⟨false,0⟩:dP)))else some false)).bind λab=>bif ab then some (.rt 3)else(((iE N j.A p0_5).bind λad=>bif ad then((iE N j.B p0_5).bind λae=>some ae)else some false).bind λaf=>(bif j.Open then((iE N j.dP.Number p0_5).bind λag=>some ag)else some af).bind λah=>(bif j.Open&&j.dP.bT then(((qt N j.dP.Number 0<|wrap .i64<|(p0_2.length:Int) - 1).bind λai=>bif ai then((idx p0_2 j.dP.Number).bind λCa=>some Ca.eP)else some false).bind λaj=>some aj)else some ah).bind λak=>bif(!ak)then some (.rt 9)else(bif(!j.Open)&&decide (j.B<=j.A)then some (.rt 8)else((uv p1 0 (o:Int)).bind λal=>(ki N al j).bind λan=>bif an then some (.rt 7)else some (.nx ())))):Option (Fl Unit Int))) ()).bind λao=>ao.cs (λ(aa:Unit)=>some 0)<|λr=>some r)
def gN(N:Nat)(p0:List cX)(p1:dO)(p2:cX->dO->Option Int):Option (Int×Bool):=
 (jt (λ(j:Int×Int)=>(bif decide (j.1<j.2)then((idx p0<|wrap .i64<|Int.fdiv (wrap .u64<|wrap .i64<|j.1+j.2) 2).bind λaa=>(p2 aa p1).bind λab=>(bif decide (ab<0)then some (wrap .i64<|wrap .i64 (Int.fdiv (wrap .u64<|wrap .i64<|j.1+j.2) 2)+1,j.2)else some (j.1,wrap .i64<|Int.fdiv (wrap .u64<|wrap .i64<|j.1+j.2) 2)).bind λo=>some<|.nx (o.1,o.2))else(some<|.br (j.1,j.2)):Option (Fl (Int×Int) Empty))) N (0,(p0.length:Int))).bind λad=>ad.cs (λ(j:Int×Int)=>(bif decide (j.1<(p0.length:Int))then((idx p0 j.1).bind λae=>(p2 ae p1).bind λaf=>some<|af==0)else some false).bind λag=>some (j.1,ag))<|λr=>r.elim
def jS(N:Nat)(p0:cX)(p1:dO):Option Int:=
 (mH N p0).bind λj=>(fp N j p1).bind λo=>some o
def il(N:Nat)(p0:jr)(p1:dO):Option Int:=
 (gN N p0.bM p1<|jS N).bind λj=>bif(!j.2)then some (-1)else some j.1
def i7(N:Nat)(p0:dP)(p1:Int):Option Int:=
 bif p0.bT then some (wrap .i64<|p1+p0.Number)else some p0.Number
def jT(N:Nat)(p0 p1:Int)(p2_0:List (Int×Bool))(p3h_0:List Int):Option (List Int):=
 (bif(!(fD p2_0 p0 (false:Bool)))then some (!(fD p2_0 p1 (false:Bool)))else some false).bind λj=>(bif j then((eV N p3h_0 p0 p1).bind λo=>some o)else some p3h_0).bind λaa=>some aa
def gF(N:Nat)(p0_2:List bT)(p0_3:List cX)(p0_5:List aH)(p0_6:List (List Int))(p0_10:List Int)(p0_11:List dP)(p1:List fo):Option (List Int):=
 (mU p1.length (λ(aq:Nat)(aa:List (Int×Bool))=>((idx p1 (aq:Int)).bind λaj=>(bif aj.Open then((i7 N aj.dP (p0_5.length:Int)).bind λar=>some<|qP aa ar true)else some aa).bind λau=>some au:Option (List<|Int×Bool))) ([]:List (Int×Bool))).bind λaa=>(kU N<|wrap .i64<|(p0_5.length:Int)+(p0_2.length:Int)).bind λav=>(mU p0_6.length (λ(ak:Nat)(ae:List Int)=>((idx p0_6 (ak:Int)).bind λal=>(mU al.length (λ(aw:Nat)(af:List Int)=>((idx al (aw:Int)).bind λax=>(jT N ax (wrap .i64<|(p0_5.length:Int)+(ak:Int)) aa af).bind λCa=>some Ca:Option (List Int))) ae).bind λaf=>some af:Option (List Int))) av).bind λae=>(mU p1.length (λ(ay:Nat)(ab:List Int)=>((idx p1 (ay:Int)).bind λag=>(bif(!ag.Open)then((jT N ag.A ag.B aa ab).bind λFb=>some Fb)else some ab).bind λaz=>some az:Option (List Int))) ae).bind λab=>(mk 8 (0:Int) (p0_3.length:Int)).bind λa0=>(mU p0_11.length (λ(o:Nat)(j:List Int×List (Int×Int)×List Int)=>((idx p0_11 (o:Int)).bind λa1=>(i7 N a1 (p0_5.length:Int)).bind λad=>((idx p0_10 (o:Int)).bind λa2=>bif decide (a2<0)then some true else some (fD aa ad (false:Bool))).bind λa3=>bif a3 then((idx j.2.2 (o:Int)).bind λa4=>some (j.1,j.2.1,j.2.2.set (Int.toNat (o:Int))<|-1))else((fE N j.1 ad).bind λah=>(bif(!(lA j.2.1 ah.1))then((fE N ah.2 ad).bind λan=>some (an.2,qP j.2.1 an.1 (o:Int)))else some (ah.2,j.2.1)).bind λai=>(fE N ai.1 ad).bind λao=>(idx j.2.2 (o:Int)).bind λa5=>some (ao.2,ai.2,j.2.2.set (Int.toNat (o:Int))<|fD ai.2 ao.1 (0:Int))):Option (List Int×List (Int×Int)×List Int))) (ab,([]:List (Int×Int)),a0)).bind λj=>some j.2.2
def eJ(N:Nat)(p0:jr)(p1:List fo)(p2 p3:dO):Option (Bool×Int):=
 (fF N p0).bind λo=>Gq o.1 (bif o.2 != 0 then some (false,o.2)else none) (λ(j:(List (List aI)×List aI×List bT×List cX×List (List aA)×List aH×List (List Int)×List cK×List Int×List Int×List Int×List dP))=>bif o.2 != 0 then some (false,o.2)else((jR N j.1 j.2.1 j.2.2.1 j.2.2.2.1 j.2.2.2.2.1 j.2.2.2.2.2.1 j.2.2.2.2.2.2.1 j.2.2.2.2.2.2.2.1 j.2.2.2.2.2.2.2.2.1 j.2.2.2.2.2.2.2.2.2.1 j.2.2.2.2.2.2.2.2.2.2.1 j.2.2.2.2.2.2.2.2.2.2.2 p1).bind λad=>bif ad != 0 then some (false,ad)else((il N p0 p2).bind λaa=>(il N p0 p3).bind λae=>bif decide (aa<0)||decide (ae<0)then some (false,9)else((gF N j.2.2.1 j.2.2.2.1 j.2.2.2.2.2.1 j.2.2.2.2.2.2.1 j.2.2.2.2.2.2.2.2.2.2.1 j.2.2.2.2.2.2.2.2.2.2.2 p1).bind λab=>((idx ab aa).bind λaf=>bif decide (af>=0)then((idx ab aa).bind λag=>(idx ab ae).bind λah=>some<|ag==ah)else some false).bind λai=>some (ai,0)))))
def nW(N:Nat)(p0 p1 p2:Int):Option Bool:=
 some (decide (p0>=p1)&&decide (p0<=p2))
def cT(N:Nat)(p0:Int):Option Bool:=
 (nW N p0 (-1000000) 1000000).bind λj=>some j
def iM(N:Nat)(p0:List aI):Option Int:=
 bif decide ((p0.length:Int)>2000)then some 2 else((jt (λ(o:Int)=>(bif decide (o<(p0.length:Int))then((idx p0 o).bind λj=>((cT N j.X0).bind λaa=>bif(!aa)then some true else((cT N j.Y0).bind λab=>bif(!ab)then some true else((cT N j.X1).bind λad=>bif(!ad)then some true else((cT N j.Y1).bind λae=>some<|!ae)))).bind λaf=>bif af then some (.rt 1)else(bif decide (j.X1<=j.X0)||decide (j.Y1<=j.Y0)then some (.rt 13)else some (.nx<|wrap .i64<|o+1)))else(some<|.br o):Option (Fl Int Int))) N 0).bind λag=>ag.cs (λ(o:Int)=>some 0)<|λr=>some r)
def i9(N:Nat)(p0 p1:aI):Option Bool:=
 some (decide (p0.Y0<p1.Y0)||((p0.Y0==p1.Y0)&&decide (p0.X0<p1.X0)))
def f9(N:Nat)(p0:List Int)(p1:Int):Option (List Int):=
 (jt (λ(j:Int×Int)=>(bif decide (j.1<j.2)then((idx p0<|wrap .i64<|Int.tdiv (wrap .i64<|j.1+j.2) 2).bind λaa=>(bif decide (aa<p1)then some (wrap .i64<|wrap .i64 (Int.tdiv (wrap .i64<|j.1+j.2) 2)+1,j.2)else some (j.1,wrap .i64<|Int.tdiv (wrap .i64<|j.1+j.2) 2)).bind λo=>some<|.nx (o.1,o.2))else(some<|.br (j.1,j.2)):Option (Fl (Int×Int) Empty))) N (0,(p0.length:Int))).bind λab=>ab.cs (λ(j:Int×Int)=>(bif decide (j.1<(p0.length:Int))then((idx p0 j.1).bind λad=>some<|ad==p1)else some false).bind λae=>bif ae then some p0 else((uv p0 0 j.1).bind λaf=>(app 8 ([]:List Int) af).bind λag=>(app 8 ag ([p1]:List Int)).bind λah=>(uv p0 j.1 (p0.length:Int)).bind λai=>(app 8 ah ai).bind λaj=>some aj))<|λr=>r.elim
def iJ(N:Nat)(p0:List aI):Option (List Int):=
 (jt (λ(j:List Int×Int)=>(bif decide (j.2<(p0.length:Int))then((idx p0 j.2).bind λo=>(idx p0 j.2).bind λaa=>(f9 N j.1 o.Y0).bind λab=>(f9 N ab aa.Y1).bind λad=>some<|.nx (ad,wrap .i64<|j.2+1))else(some<|.br (j.1,j.2)):Option (Fl (List Int×Int) Empty))) N (([]:List Int),0)).bind λae=>ae.cs (λ(j:List Int×Int)=>some j.1)<|λr=>r.elim
def ja(N:Nat)(p0:List aG)(p1:aG):Option (List aG):=
 (jt (λ(o:List aG×Int)=>((bif decide (o.2<(p0.length:Int))then((idx p0 o.2).bind λad=>some<|decide<|ad.to<p1.from_)else some false).bind λae=>bif ae then((idx p0 o.2).bind λaf=>(app 16 o.1 ([af]:List aG)).bind λag=>some<|.nx (ag,wrap .i64<|o.2+1))else(some<|.br (o.1,o.2)):Option (Fl (List aG×Int) Empty))) N (([]:List aG),0)).bind λah=>ah.cs (λ(o:List aG×Int)=>(jt (λ(j:aG×Int)=>((bif decide (j.2<(p0.length:Int))then((idx p0 j.2).bind λai=>some<|decide<|ai.from_<=j.1.to)else some false).bind λaj=>bif aj then((idx p0 j.2).bind λaa=>(idx p0 j.2).bind λab=>some<|.nx ({{j.1 with from_:=(if aa.from_<j.1.from_ then aa.from_ else j.1.from_)}with to:=(if j.1.to<ab.to then ab.to else j.1.to)},wrap .i64<|j.2+1))else(some<|.br (j.1,j.2)):Option (Fl (aG×Int) Empty))) N (p1,o.2)).bind λak=>ak.cs (λ(j:aG×Int)=>(app 16 o.1 ([j.1]:List aG)).bind λal=>(uv p0 j.2 (p0.length:Int)).bind λan=>(app 16 al an).bind λao=>some ao)<|λr=>r.elim)<|λr=>r.elim
def iI(N:Nat)(p0:List aI)(p1:Int):Option (List aG):=
 (jt (λ(j:List aG×Int)=>(bif decide (j.2<(p0.length:Int))then(((idx p0 j.2).bind λo=>bif decide (o.Y0<=p1)then((idx p0 j.2).bind λaa=>some<|decide<|p1<aa.Y1)else some false).bind λab=>(bif ab then((idx p0 j.2).bind λad=>(idx p0 j.2).bind λae=>(ja N j.1 (⟨ad.X0,ae.X1⟩:aG)).bind λaf=>some af)else some j.1).bind λag=>some<|.nx (ag,wrap .i64<|j.2+1))else(some<|.br (j.1,j.2)):Option (Fl (List aG×Int) Empty))) N (([]:List aG),0)).bind λah=>ah.cs (λ(j:List aG×Int)=>some j.1)<|λr=>r.elim
def ky(N:Nat)(p0:List aG)(p1:List aG):Option Bool:=
 bif(p0.length:Int) != (p1.length:Int)then some false else((jt (λ(j:Int)=>(bif decide (j<(p0.length:Int))then((idx p0 j).bind λo=>(idx p1 j).bind λaa=>bif(!(decide<|o=aa))then some (.rt false)else some (.nx<|wrap .i64<|j+1))else(some<|.br j):Option (Fl Int Bool))) N 0).bind λab=>ab.cs (λ(j:Int)=>some true)<|λr=>some r)
def gI(N:Nat)(p0:List aP)(p1:aP):Option (List aP):=
 bif(p1.jK.length:Int)==0 then some p0 else((bif decide ((p0.length:Int)>0)then((idx p0<|wrap .i64<|(p0.length:Int) - 1).bind λj=>bif j.to==p1.from_ then((idx p0<|wrap .i64<|(p0.length:Int) - 1).bind λo=>(ky N o.jK p1.jK).bind λaa=>some aa)else some false)else some false).bind λab=>bif ab then((idx p0<|wrap .i64<|(p0.length:Int) - 1).bind λad=>some<|p0.set (Int.toNat<|wrap .i64<|(p0.length:Int) - 1)<|{ad with to:=p1.to})else((app 40 p0 ([p1]:List aP)).bind λae=>some ae))
def jU(N:Nat)(p0:List aP):Option (List aI):=
 (jt (λ(j:List aI×Int)=>(bif decide (j.2<(p0.length:Int))then((jt (λ(o:List aI×Int)=>((idx p0 j.2).bind λaa=>bif decide (o.2<(aa.jK.length:Int))then((idx p0 j.2).bind λab=>(idx ab.jK o.2).bind λad=>(idx p0 j.2).bind λae=>(idx p0 j.2).bind λaf=>(idx af.jK o.2).bind λag=>(idx p0 j.2).bind λah=>(app 32 o.1 ([(⟨ad.from_,ae.from_,ag.to,ah.to⟩:aI)]:List aI)).bind λai=>some<|.nx (ai,wrap .i64<|o.2+1))else(some<|.br (o.1,o.2)):Option (Fl (List aI×Int) Empty))) N (j.1,0)).bind λaj=>aj.cs (λ(o:List aI×Int)=>some<|.nx (o.1,wrap .i64<|j.2+1))<|λr=>r.elim)else(some<|.br (j.1,j.2)):Option (Fl (List aI×Int) Empty))) N (([]:List aI),0)).bind λak=>ak.cs (λ(j:List aI×Int)=>some j.1)<|λr=>r.elim
def fW(N:Nat)(p0:List aI):Option (List aI):=
 (iJ N p0).bind λo=>(jt (λ(j:List aP×Int)=>(bif decide (j.2<(o.length:Int))then((idx o<|wrap .i64<|j.2 - 1).bind λaa=>(idx o j.2).bind λab=>(idx o<|wrap .i64<|j.2 - 1).bind λad=>(iI N p0 ad).bind λae=>(gI N j.1 (⟨aa,ab,ae⟩:aP)).bind λaf=>some<|.nx (af,wrap .i64<|j.2+1))else(some<|.br (j.1,j.2)):Option (Fl (List aP×Int) Empty))) N (([]:List aP),1)).bind λag=>ag.cs (λ(j:List aP×Int)=>(jU N j.1).bind λah=>some ah)<|λr=>r.elim
def kz(N:Nat)(p0:List aI)(p1:List aI):Option Bool:=
 bif(p0.length:Int) != (p1.length:Int)then some false else((jt (λ(j:Int)=>(bif decide (j<(p0.length:Int))then((idx p0 j).bind λo=>(idx p1 j).bind λaa=>bif(!(decide<|o=aa))then some (.rt false)else some (.nx<|wrap .i64<|j+1))else(some<|.br j):Option (Fl Int Bool))) N 0).bind λab=>ab.cs (λ(j:Int)=>some true)<|λr=>some r)
def gk(N:Nat)(p0:List aI):Option Int:=
 (iM N p0).bind λo=>bif o != 0 then some o else((jt (λ(j:Int)=>(bif decide (j<(p0.length:Int))then((idx p0<|wrap .i64<|j - 1).bind λaa=>(idx p0 j).bind λab=>(i9 N aa ab).bind λad=>bif(!ad)then some (.rt 8)else some (.nx<|wrap .i64<|j+1))else(some<|.br j):Option (Fl Int Int))) N 1).bind λae=>ae.cs (λ(j:Int)=>(fW N p0).bind λaf=>(kz N p0 af).bind λag=>bif(!ag)then some 3 else some 0)<|λr=>some r)
def eO(N:Nat)(p0 p1 p2:Int):Option Bool:=
 some (decide (p0>=p1)&&decide (p0<=p2))
def gJ(N:Nat)(p0:j6):Option Bool:=
 ((cT N p0.X).bind λj=>bif j then((cT N p0.Y).bind λo=>some o)else some false).bind λaa=>some aa
def cO(N:Nat)(p0:bT):Option aI:=
 some (⟨wrap .i64<|p0.At.X -(wrap .i64<|Int.tdiv p0.dW 2),wrap .i64<|p0.At.Y -(wrap .i64<|Int.tdiv p0.dW 2),wrap .i64<|wrap .i64 (p0.At.X -(wrap .i64<|Int.tdiv p0.dW 2))+p0.dW,wrap .i64<|wrap .i64 (p0.At.Y -(wrap .i64<|Int.tdiv p0.dW 2))+p0.dW⟩:aI)
def iB(N:Nat)(p0:bT):Option Int:=
 ((eO N p0.dW 1 10000).bind λo=>bif(!o)then some true else((gJ N p0.At).bind λaa=>some<|!aa)).bind λab=>bif ab then some 1 else((cO N p0).bind λj=>((cT N j.X0).bind λad=>bif(!ad)then some true else((cT N j.Y0).bind λae=>bif(!ae)then some true else((cT N j.X1).bind λaf=>bif(!af)then some true else((cT N j.Y1).bind λag=>some<|!ag)))).bind λah=>bif ah then some 1 else some 0)
def g8(N:Nat)(p0:eQ):Option Bool:=
 (jt (λ(o:Int)=>(bif decide (o<(p0.dN.length:Int))then((HL p0 o).bind λj=>(bif(!(((decide ((j.toNat:Int)>=97)&&decide ((j.toNat:Int)<=122))||(decide ((j.toNat:Int)>=65)&&decide ((j.toNat:Int)<=90)))||(decide ((j.toNat:Int)>=48)&&decide ((j.toNat:Int)<=57))))then((iH N (⟨[95,43,45,35]⟩) (j.toNat:Int)).bind λaa=>some<|decide<|aa<0)else some false).bind λab=>bif ab then some (.rt false)else some (.nx<|wrap .i64<|o+1))else(some<|.br o):Option (Fl Int Bool))) N 0).bind λad=>ad.cs (λ(o:Int)=>(eO N (p0.dN.length:Int) 1 40).bind λae=>some ae)<|λr=>some r
def kj(N:Nat)(p0:eQ):Option Bool:=
 (ni N p0<|⟨[47]⟩).bind λo=>(jt (λ(j:Int)=>(bif decide (j<(o.length:Int))then((idx o j).bind λaa=>(g8 N aa).bind λab=>bif(!ab)then some (.rt false)else some (.nx<|wrap .i64<|j+1))else(some<|.br j):Option (Fl Int Bool))) N 0).bind λad=>ad.cs (λ(j:Int)=>some<|decide<|(p0.dN.length:Int)<=200)<|λr=>some r
def jc(N:Nat)(p0:jr)(p1:Int):Option Int:=
 (idx p0.bM p1).bind λj=>((kj N j.Part).bind λaa=>bif(!aa)then some true else((g8 N j.dO).bind λab=>some<|!ab)).bind λad=>bif ad then some 5 else(((eO N j.dJ 0<|wrap .i64<|(p0.aJ.length:Int) - 1).bind λae=>bif(!ae)then some true else((gJ N j.At).bind λaf=>some<|!af)).bind λag=>bif ag then some 1 else(bif decide (p1>0)then((idx p0.bM<|wrap .i64<|p1 - 1).bind λo=>bif j.Part.nM o.Part||(j.Part.o8 o.Part&&(j.dO.nM o.dO||j.dO.o8 o.dO))then some 8 else some 0)else some 0))
def iN(N:Nat)(p0:jr):Option Int:=
 bif(p0.aJ.length:Int)==0 then some 9 else(bif decide ((p0.aJ.length:Int)>16)then some 2 else((jt (λ(j:Int×Int)=>(bif decide (j.2<(p0.aJ.length:Int))then((idx p0.aJ j.2).bind λah=>(gk N ah).bind λad=>bif ad != 0 then some (.rt ad)else((idx p0.aJ j.2).bind λai=>some<|.nx (wrap .i64<|j.1+(ai.length:Int),wrap .i64<|j.2+1)))else(some<|.br (j.1,j.2)):Option (Fl (Int×Int) Int))) N ((p0.cN.length:Int),0)).bind λaj=>aj.cs (λ(j:Int×Int)=>(gk N p0.cN).bind λae=>bif ae != 0 then some ae else((bif decide (j.1>2000)then some true else some (decide<|(p0.aQ.length:Int)>500)).bind λak=>bif ak then some 2 else((jt (λ(o:Int)=>(bif decide (o<(p0.aQ.length:Int))then((idx p0.aQ o).bind λab=>(iB N ab).bind λaf=>bif af != 0 then some (.rt af)else(((eO N ab.cS 0<|wrap .i64<|(p0.aJ.length:Int) - 1).bind λal=>bif(!al)then some true else((eO N ab.To ab.cS<|wrap .i64<|(p0.aJ.length:Int) - 1).bind λan=>some<|!an)).bind λao=>bif ao then some (.rt 1)else some (.nx<|wrap .i64<|o+1)))else(some<|.br o):Option (Fl Int Int))) N 0).bind λaq=>aq.cs (λ(o:Int)=>bif decide ((p0.bM.length:Int)>1000)then some 2 else((jt (λ(aa:Int)=>(bif decide (aa<(p0.bM.length:Int))then((jc N p0 aa).bind λag=>bif ag != 0 then some (.rt ag)else some (.nx<|wrap .i64<|aa+1))else(some<|.br aa):Option (Fl Int Int))) N 0).bind λar=>ar.cs (λ(aa:Int)=>some 0)<|λr=>some r))<|λr=>some r)))<|λr=>some r))
def jd(N:Nat)(p0 p1:bT):Option Bool:=
 some (decide (p0.cS<=p1.To)&&decide (p1.cS<=p0.To))
def gK(N:Nat)(p0 p1:aI):Option Bool:=
 (bif decide ((if p1.X1<p0.X1 then p1.X1 else p0.X1)>(if p0.X0<p1.X0 then p1.X0 else p0.X0))then some (decide<|(if p1.Y1<p0.Y1 then p1.Y1 else p0.Y1)>(if p0.Y0<p1.Y0 then p1.Y0 else p0.Y0))else some false).bind λj=>some j
def fT(N:Nat)(p0:bT)(p1:Int):Option Bool:=
 some (decide (p0.cS<=p1)&&decide (p1<=p0.To))
def g9(N:Nat)(p0:List aG)(p1:Int):Option Bool:=
 (jt (λ(j:Int)=>(bif decide (j<(p0.length:Int))then(((idx p0 j).bind λo=>bif decide (o.from_<=p1)then((idx p0 j).bind λaa=>some<|decide<|p1<aa.to)else some false).bind λab=>bif ab then some (.rt true)else some (.nx<|wrap .i64<|j+1))else(some<|.br j):Option (Fl Int Bool))) N 0).bind λad=>ad.cs (λ(j:Int)=>some false)<|λr=>some r
def kI(N:Nat)(p0:List aG)(p1:List aG)(p2:Int):Option (List aG):=
 (jt (λ(aa:List Int×Int)=>(bif decide (aa.2<(p0.length:Int))then((idx p0 aa.2).bind λae=>(idx p0 aa.2).bind λaf=>(f9 N aa.1 ae.from_).bind λag=>(f9 N ag af.to).bind λah=>some<|.nx (ah,wrap .i64<|aa.2+1))else(some<|.br (aa.1,aa.2)):Option (Fl (List Int×Int) Empty))) N (([]:List Int),0)).bind λai=>ai.cs (λ(aa:List Int×Int)=>(jt (λ(j:List Int×Int)=>(bif decide (j.2<(p1.length:Int))then((idx p1 j.2).bind λaj=>(idx p1 j.2).bind λak=>(f9 N j.1 aj.from_).bind λal=>(f9 N al ak.to).bind λan=>some<|.nx (an,wrap .i64<|j.2+1))else(some<|.br (j.1,j.2)):Option (Fl (List Int×Int) Empty))) N (aa.1,0)).bind λao=>ao.cs (λ(j:List Int×Int)=>(jt (λ(o:List aG×Int)=>(bif decide (o.2<(j.1.length:Int))then((idx j.1<|wrap .i64<|o.2 - 1).bind λaq=>(idx j.1<|wrap .i64<|o.2 - 1).bind λar=>(g9 N p0 aq).bind λab=>(g9 N p1 ar).bind λad=>(bif(((p2==1)&&(ab||ad))||(((p2==2)&&ab)&&ad))||(((p2==3)&&ab)&&(!ad))then((idx j.1<|wrap .i64<|o.2 - 1).bind λau=>(idx j.1 o.2).bind λav=>(ja N o.1 (⟨au,av⟩:aG)).bind λaw=>some aw)else some o.1).bind λax=>some<|.nx (ax,wrap .i64<|o.2+1))else(some<|.br (o.1,o.2)):Option (Fl (List aG×Int) Empty))) N (([]:List aG),1)).bind λay=>ay.cs (λ(o:List aG×Int)=>some o.1)<|λr=>r.elim)<|λr=>r.elim)<|λr=>r.elim
def iv(N:Nat)(p0:List aI)(p1:List aI)(p2:Int):Option (List aI):=
 (app 32 ([]:List aI) p0).bind λaa=>(app 32 aa p1).bind λab=>(iJ N ab).bind λo=>(jt (λ(j:List aP×Int)=>(bif decide (j.2<(o.length:Int))then((idx o<|wrap .i64<|j.2 - 1).bind λad=>(idx o j.2).bind λae=>(idx o<|wrap .i64<|j.2 - 1).bind λaf=>(idx o<|wrap .i64<|j.2 - 1).bind λag=>(iI N p0 af).bind λah=>(iI N p1 ag).bind λai=>(kI N ah ai p2).bind λaj=>(gI N j.1 (⟨ad,ae,aj⟩:aP)).bind λak=>some<|.nx (ak,wrap .i64<|j.2+1))else(some<|.br (j.1,j.2)):Option (Fl (List aP×Int) Empty))) N (([]:List aP),1)).bind λal=>al.cs (λ(j:List aP×Int)=>(jU N j.1).bind λan=>some an)<|λr=>r.elim
def ly(N:Nat)(p0:List aI)(p1:List aI):Option (List aI):=
 (iv N p0 p1 3).bind λj=>some j
def gT(N:Nat)(p0:jr)(p1:Int):Option (List aI):=
 (jt (λ(j:List aI×Int)=>(bif decide (j.2<(p0.aQ.length:Int))then((idx p0.aQ j.2).bind λo=>(fT N o p1).bind λaa=>(bif aa then((idx p0.aQ j.2).bind λab=>(cO N ab).bind λad=>(app 32 j.1 ([ad]:List aI)).bind λae=>some ae)else some j.1).bind λaf=>some<|.nx (af,wrap .i64<|j.2+1))else(some<|.br (j.1,j.2)):Option (Fl (List aI×Int) Empty))) N (([]:List aI),0)).bind λag=>ag.cs (λ(j:List aI×Int)=>(idx p0.aJ p1).bind λah=>(fW N j.1).bind λai=>(ly N ah ai).bind λaj=>some aj)<|λr=>r.elim
def jJ(N:Nat)(p0 p1:aI):Option Bool:=
 some ((decide (wrap .i64 ((if p1.X1<p0.X1 then p1.X1 else p0.X1) -(if p0.X0<p1.X0 then p1.X0 else p0.X0))>0)&&decide (wrap .i64 ((if p1.Y1<p0.Y1 then p1.Y1 else p0.Y1) -(if p0.Y0<p1.Y0 then p1.Y0 else p0.Y0))>=0))||(decide (wrap .i64 ((if p1.X1<p0.X1 then p1.X1 else p0.X1) -(if p0.X0<p1.X0 then p1.X0 else p0.X0))>=0)&&decide (wrap .i64 ((if p1.Y1<p0.Y1 then p1.Y1 else p0.Y1) -(if p0.Y0<p1.Y0 then p1.Y0 else p0.Y0))>0)))
def kl(N:Nat)(p0:List (List aI))(p1:List aI):Option (List<|List aI):=
 (jt (λ(j:Int)=>((bif decide (j>0)then((idx p1 0).bind λo=>(idx p0<|wrap .i64<|j - 1).bind λaa=>(idx aa 0).bind λab=>(i9 N o ab).bind λad=>some ad)else some false).bind λae=>bif ae then some (.nx<|wrap .i64<|j - 1)else(some<|.br j):Option (Fl Int Empty))) N (p0.length:Int)).bind λaf=>af.cs (λ(j:Int)=>(uv p0 0 j).bind λag=>(app 24 ([]:List (List aI)) ag).bind λah=>(app 24 ah ([p1]:List (List aI))).bind λai=>(uv p0 j (p0.length:Int)).bind λaj=>(app 24 ai aj).bind λak=>some ak)<|λr=>r.elim
def gu(N:Nat)(p0:List aI):Option (List<|List aI):=
 (mk 1 (false:Bool) (p0.length:Int)).bind λad=>(jt (λ(o:List Bool×List (List aI)×Int)=>(bif decide (o.2.2<(p0.length:Int))then((idx o.1 o.2.2).bind λae=>bif ae then some (.nx (o.1,o.2.1,wrap .i64<|o.2.2+1))else((idx o.1 o.2.2).bind λaw=>(idx p0 o.2.2).bind λaf=>(jt (λ(aa:List Bool×List aI×Int)=>(bif decide (aa.2.2<(aa.2.1.length:Int))then((jt (λ(j:List Bool×List aI×Int)=>(bif decide (j.2.2<(p0.length:Int))then(((idx j.1 j.2.2).bind λag=>bif(!ag)then((idx j.2.1 aa.2.2).bind λah=>(idx p0 j.2.2).bind λai=>(jJ N ah ai).bind λaj=>some aj)else some false).bind λak=>(bif ak then((idx j.1 j.2.2).bind λax=>(idx p0 j.2.2).bind λal=>(app 32 j.2.1 ([al]:List aI)).bind λan=>some (j.1.set (Int.toNat j.2.2) true,an))else some (j.1,j.2.1)).bind λab=>some<|.nx (ab.1,ab.2,wrap .i64<|j.2.2+1))else(some<|.br (j.1,j.2.1,j.2.2)):Option (Fl (List Bool×List aI×Int) Empty))) N (aa.1,aa.2.1,0)).bind λao=>ao.cs (λ(j:List Bool×List aI×Int)=>some<|.nx (j.1,j.2.1,wrap .i64<|aa.2.2+1))<|λr=>r.elim)else(some<|.br (aa.1,aa.2.1,aa.2.2)):Option (Fl (List Bool×List aI×Int) Empty))) N (o.1.set (Int.toNat o.2.2) true,([af]:List aI),0)).bind λaq=>aq.cs (λ(aa:List Bool×List aI×Int)=>(fW N aa.2.1).bind λar=>(kl N o.2.1 ar).bind λau=>some<|.nx (aa.1,au,wrap .i64<|o.2.2+1))<|λr=>r.elim))else(some<|.br (o.1,o.2.1,o.2.2)):Option (Fl (List Bool×List (List aI)×Int) Empty))) N (ad,([]:List (List aI)),0)).bind λav=>av.cs (λ(o:List Bool×List (List aI)×Int)=>some o.2.1)<|λr=>r.elim
def cU(N:Nat)(p0:jr):Option Int:=
 (iN N p0).bind λab=>bif ab != 0 then some ab else((jt (λ(o:Int)=>(bif decide (o<(p0.aQ.length:Int))then((jt (λ(aa:Int)=>(bif decide (aa<o)then(((idx p0.aQ o).bind λae=>(idx p0.aQ aa).bind λaf=>(jd N ae af).bind λag=>bif ag then((idx p0.aQ o).bind λah=>(idx p0.aQ aa).bind λai=>(cO N ah).bind λaj=>(cO N ai).bind λak=>(gK N aj ak).bind λal=>some al)else some false).bind λan=>bif an then some (.rt 12)else some (.nx<|wrap .i64<|aa+1))else(some<|.br aa):Option (Fl Int Int))) N 0).bind λao=>ao.cs (λ(aa:Int)=>some<|.nx<|wrap .i64<|o+1)<|λr=>some<|.rt r)else(some<|.br o):Option (Fl Int Int))) N 0).bind λaq=>aq.cs (λ(o:Int)=>(jt (λ(j:Int×Int)=>(bif decide (j.2<(p0.aJ.length:Int))then((gT N p0 j.2).bind λad=>bif decide ((ad.length:Int)>2000)then some (.rt 2)else((gu N ad).bind λar=>some<|.nx (wrap .i64<|j.1+(ar.length:Int),wrap .i64<|j.2+1)))else(some<|.br (j.1,j.2)):Option (Fl (Int×Int) Int))) N (0,0)).bind λau=>au.cs (λ(j:Int×Int)=>bif decide (j.1>2000)then some 2 else some 0)<|λr=>some r)<|λr=>some r)
def jV(N:Nat)(p0:List aI)(p1:aI):Option Bool:=
 (jt (λ(j:Int)=>(bif decide (j<(p0.length:Int))then((idx p0 j).bind λo=>(idx p0 j).bind λaa=>(idx p0 j).bind λab=>(idx p0 j).bind λad=>bif(decide (wrap .i64 ((if p1.X1<o.X1 then p1.X1 else o.X1) -(if aa.X0<p1.X0 then p1.X0 else aa.X0))>0)&&(wrap .i64 ((if p1.Y1<ab.Y1 then p1.Y1 else ab.Y1) -(if ad.Y0<p1.Y0 then p1.Y0 else ad.Y0))==0))||((wrap .i64 ((if p1.X1<o.X1 then p1.X1 else o.X1) -(if aa.X0<p1.X0 then p1.X0 else aa.X0))==0)&&decide (wrap .i64 ((if p1.Y1<ab.Y1 then p1.Y1 else ab.Y1) -(if ad.Y0<p1.Y0 then p1.Y0 else ad.Y0))>0))then some (.rt true)else some (.nx<|wrap .i64<|j+1))else(some<|.br j):Option (Fl Int Bool))) N 0).bind λae=>ae.cs (λ(j:Int)=>some false)<|λr=>some r
def cY(N:Nat)(p0:List Int)(p1:Int):Option Bool:=
 (jt (λ(j:Int)=>(bif decide (j<(p0.length:Int))then((idx p0 j).bind λo=>bif o==p1 then some (.rt true)else some (.nx<|wrap .i64<|j+1))else(some<|.br j):Option (Fl Int Bool))) N 0).bind λaa=>aa.cs (λ(j:Int)=>some false)<|λr=>some r
def je(N:Nat)(p0:List Int)(p1:Int):Option (List Int):=
 (jt (λ(j:Int)=>((bif decide (j>0)then((idx p0<|wrap .i64<|j - 1).bind λo=>some<|decide<|o>p1)else some false).bind λaa=>bif aa then some (.nx<|wrap .i64<|j - 1)else(some<|.br j):Option (Fl Int Empty))) N (p0.length:Int)).bind λab=>ab.cs (λ(j:Int)=>(bif decide (j>0)then((idx p0<|wrap .i64<|j - 1).bind λad=>some<|ad==p1)else some false).bind λae=>bif ae then some p0 else((uv p0 0 j).bind λaf=>(app 8 ([]:List Int) af).bind λag=>(app 8 ag ([p1]:List Int)).bind λah=>(uv p0 j (p0.length:Int)).bind λai=>(app 8 ah ai).bind λaj=>some aj))<|λr=>r.elim
def hU(N:Nat)(p0_7:List (List Int))(p1:Int)(p2:List Bool):Option ((List Int×List Int×List dO)×List Bool):=
 (idx p2 p1).bind λax=>(mk 1 (false:Bool) (p0_7.length:Int)).bind λae=>(jt (λ(o:List Bool×List Int×List Int×List Bool×List Int×Int)=>(bif decide (o.2.2.2.2.2<(o.2.2.2.2.1.length:Int))then((jt (λ(j:List Bool×List Int×List Int×List Bool×List Int×Int)=>(bif decide (j.2.2.2.2.2<(p0_7.length:Int))then(((idx j.2.2.2.1 j.2.2.2.2.2).bind λaf=>bif af then some true else((idx p0_7 j.2.2.2.2.2).bind λag=>(idx j.2.2.2.2.1 o.2.2.2.2.2).bind λah=>(cY N ag ah).bind λai=>some<|!ai)).bind λaj=>bif aj then some (.nx (j.1,j.2.1,j.2.2.1,j.2.2.2.1,j.2.2.2.2.1,wrap .i64<|j.2.2.2.2.2+1))else((idx j.2.2.2.1 j.2.2.2.2.2).bind λay=>(je N j.2.2.1 j.2.2.2.2.2).bind λak=>(jt (λ(aa:List Bool×List Int×List Int×Int)=>((idx p0_7 j.2.2.2.2.2).bind λal=>bif decide (aa.2.2.2<(al.length:Int))then((idx p0_7 j.2.2.2.2.2).bind λan=>(idx an aa.2.2.2).bind λab=>(idx aa.1 ab).bind λao=>(bif(!ao)then((idx aa.1 ab).bind λaz=>(je N aa.2.1 ab).bind λaq=>(app 8 aa.2.2.1 ([ab]:List Int)).bind λar=>some (aa.1.set (Int.toNat ab) true,aq,ar))else some (aa.1,aa.2.1,aa.2.2.1)).bind λad=>some<|.nx (ad.1,ad.2.1,ad.2.2,wrap .i64<|aa.2.2.2+1))else(some<|.br (aa.1,aa.2.1,aa.2.2.1,aa.2.2.2)):Option (Fl (List Bool×List Int×List Int×Int) Empty))) N (j.1,j.2.1,j.2.2.2.2.1,0)).bind λau=>au.cs (λ(aa:List Bool×List Int×List Int×Int)=>some<|.nx (aa.1,aa.2.1,ak,j.2.2.2.1.set (Int.toNat j.2.2.2.2.2) true,aa.2.2.1,wrap .i64<|j.2.2.2.2.2+1))<|λr=>r.elim))else(some<|.br (j.1,j.2.1,j.2.2.1,j.2.2.2.1,j.2.2.2.2.1,j.2.2.2.2.2)):Option (Fl (List Bool×List Int×List Int×List Bool×List Int×Int) Empty))) N (o.1,o.2.1,o.2.2.1,o.2.2.2.1,o.2.2.2.2.1,0)).bind λav=>av.cs (λ(j:List Bool×List Int×List Int×List Bool×List Int×Int)=>some<|.nx (j.1,j.2.1,j.2.2.1,j.2.2.2.1,j.2.2.2.2.1,wrap .i64<|o.2.2.2.2.2+1))<|λr=>r.elim)else(some<|.br (o.1,o.2.1,o.2.2.1,o.2.2.2.1,o.2.2.2.2.1,o.2.2.2.2.2)):Option (Fl (List Bool×List Int×List Int×List Bool×List Int×Int) Empty))) N (p2.set (Int.toNat p1) true,([p1]:List Int),([]:List Int),ae,([p1]:List Int),0)).bind λaw=>aw.cs (λ(o:List Bool×List Int×List Int×List Bool×List Int×Int)=>some ((o.2.1,o.2.2.1,([]:List dO)),o.1))<|λr=>r.elim
def fG(N:Nat)(p0:List aI)(p1:j6):Option Bool:=
 (iI N p0 p1.Y).bind λj=>(g9 N j p1.X).bind λo=>some o
def gl(N:Nat)(p0_2:List bT)(p0_4:List Int)(p0_5:List (List aI))(p1:cX):Option (dP×Bool):=
 (jt (λ(o:Int)=>(bif decide (o<(p0_5.length:Int))then(((idx p0_4 o).bind λaa=>bif aa==p1.dJ then((idx p0_5 o).bind λab=>(fG N ab p1.At).bind λad=>some ad)else some false).bind λae=>bif ae then some (.rt ((⟨false,o⟩:dP),true))else some (.nx<|wrap .i64<|o+1))else(some<|.br o):Option (Fl Int<|dP×Bool))) N 0).bind λaf=>af.cs (λ(o:Int)=>(jt (λ(j:Int)=>(bif decide (j<(p0_2.length:Int))then(((idx p0_2 j).bind λag=>bif ag.eP then((idx p0_2 j).bind λah=>(fT N ah p1.dJ).bind λai=>bif ai then((idx p0_2 j).bind λaj=>(cO N aj).bind λak=>(fG N ([ak]:List aI) p1.At).bind λal=>some al)else some false)else some false).bind λan=>bif an then some (.rt ((⟨true,j⟩:dP),true))else some (.nx<|wrap .i64<|j+1))else(some<|.br j):Option (Fl Int<|dP×Bool))) N 0).bind λao=>ao.cs (λ(j:Int)=>some ((⟨false,0⟩:dP),false))<|λr=>some r)<|λr=>some r
def eN(N:Nat)(p0_6:List cK)(p1:dP):Option Int:=
 (jt (λ(j:Int)=>(bif decide (j<(p0_6.length:Int))then((bif p1.bT then((idx p0_6 j).bind λo=>(cY N o.aQ p1.Number).bind λaa=>bif aa then some true else(bif(!p1.bT)then((idx p0_6 j).bind λab=>(cY N ab.k8 p1.Number).bind λad=>some ad)else some false))else(bif(!p1.bT)then((idx p0_6 j).bind λae=>(cY N ae.k8 p1.Number).bind λaf=>some af)else some false)).bind λag=>bif ag then some (.rt j)else some (.nx<|wrap .i64<|j+1))else(some<|.br j):Option (Fl Int Int))) N 0).bind λah=>ah.cs (λ(j:Int)=>some<|-1)<|λr=>some r
def fu(N:Nat)(p0_2:List bT)(p0_4:List Int)(p0_5:List (List aI))(p0_6:List cK)(p1:cX):Option Int:=
 (gl N p0_2 p0_4 p0_5 p1).bind λj=>bif(!j.2)then some (-1)else((eN N p0_6 j.1).bind λo=>some o)
def fP(N:Nat)(p0_2:List bT)(p0_3:List cX)(p0_4:List Int)(p0_5:List (List aI))(p0_7:List (List Int)):Option (List cK):=
 (mk 1 (false:Bool) (p0_5.length:Int)).bind λag=>(jt (λ(j:List cK×List Bool×Int)=>(bif decide (j.2.2<(p0_5.length:Int))then((idx j.2.1 j.2.2).bind λah=>(bif(!ah)then((hU N p0_7 j.2.2 j.2.1).bind λab=>(app 72 j.1 [(⟨ab.1.1,ab.1.2.1,ab.1.2.2⟩:cK)]).bind λai=>some (ai,ab.2))else some (j.1,j.2.1)).bind λaf=>some<|.nx (af.1,af.2,wrap .i64<|j.2.2+1))else(some<|.br (j.1,j.2.1,j.2.2)):Option (Fl (List cK×List Bool×Int) Empty))) N (([]:List cK),ag,0)).bind λaj=>aj.cs (λ(j:List cK×List Bool×Int)=>(jt (λ(aa:List cK×Int)=>(bif decide (aa.2<(p0_7.length:Int))then(((idx p0_2 aa.2).bind λak=>bif ak.eP then((idx p0_7 aa.2).bind λal=>some<|(al.length:Int)==0)else some false).bind λan=>(bif an then((app 72 aa.1 [(⟨([]:List Int),([aa.2]:List Int),([]:List dO)⟩:cK)]).bind λao=>some ao)else some aa.1).bind λaq=>some<|.nx (aq,wrap .i64<|aa.2+1))else(some<|.br (aa.1,aa.2)):Option (Fl (List cK×Int) Empty))) N (j.1,0)).bind λar=>ar.cs (λ(aa:List cK×Int)=>(jt (λ(o:List cK×Int)=>(bif decide (o.2<(p0_3.length:Int))then((idx p0_3 o.2).bind λae=>(fu N p0_2 p0_4 p0_5 o.1 ae).bind λad=>(bif decide (ad>=0)then((idx o.1 ad).bind λau=>(app 32 au.gS ([(⟨ae.Part,ae.dO⟩:dO)]:List dO)).bind λav=>(idx o.1 ad).bind λaw=>some<|o.1.set (Int.toNat ad) {aw with gS:=av})else some o.1).bind λax=>some<|.nx (ax,wrap .i64<|o.2+1))else(some<|.br (o.1,o.2)):Option (Fl (List cK×Int) Empty))) N (aa.1,0)).bind λay=>ay.cs (λ(o:List cK×Int)=>some o.1)<|λr=>r.elim)<|λr=>r.elim)<|λr=>r.elim
def iK(N:Nat)(p0:jr):Option (List (List aI)×List aI×List bT×List cX×List Int×List (List aI)×List cK×List (List Int)):=
 (jt (λ(j:List Int×List (List aI)×Int)=>(bif decide (j.2.2<(p0.aJ.length:Int))then((gT N p0 j.2.2).bind λae=>(gu N ae).bind λad=>(jt (λ(o:List Int×List (List aI)×Int)=>(bif decide (o.2.2<(ad.length:Int))then((app 8 o.1 ([j.2.2]:List Int)).bind λaf=>(idx ad o.2.2).bind λag=>(app 24 o.2.1 ([ag]:List (List aI))).bind λah=>some<|.nx (af,ah,wrap .i64<|o.2.2+1))else(some<|.br (o.1,o.2.1,o.2.2)):Option (Fl (List Int×List (List aI)×Int) Empty))) N (j.1,j.2.1,0)).bind λai=>ai.cs (λ(o:List Int×List (List aI)×Int)=>some<|.nx (o.1,o.2.1,wrap .i64<|j.2.2+1))<|λr=>r.elim)else(some<|.br (j.1,j.2.1,j.2.2)):Option (Fl (List Int×List (List aI)×Int) Empty))) N (([]:List Int),([]:List (List aI)),0)).bind λaj=>aj.cs (λ(j:List Int×List (List aI)×Int)=>(jt (λ(aa:List (List Int)×Int)=>(bif decide (aa.2<(p0.aQ.length:Int))then((jt (λ(ab:List Int×Int)=>((bif decide (ab.2<(j.2.1.length:Int))then((idx p0.aQ aa.2).bind λak=>some ak.eP)else some false).bind λal=>bif al then(((idx p0.aQ aa.2).bind λan=>(idx j.1 ab.2).bind λao=>(fT N an ao).bind λaq=>bif aq then((idx j.2.1 ab.2).bind λar=>(idx p0.aQ aa.2).bind λau=>(cO N au).bind λav=>(jV N ar av).bind λaw=>some aw)else some false).bind λax=>(bif ax then((app 8 ab.1 ([ab.2]:List Int)).bind λay=>some ay)else some ab.1).bind λaz=>some<|.nx (az,wrap .i64<|ab.2+1))else(some<|.br (ab.1,ab.2)):Option (Fl (List Int×Int) Empty))) N (([]:List Int),0)).bind λa0=>a0.cs (λ(ab:List Int×Int)=>(app 24 aa.1 ([ab.1]:List (List Int))).bind λa1=>some<|.nx (a1,wrap .i64<|aa.2+1))<|λr=>r.elim)else(some<|.br (aa.1,aa.2)):Option (Fl (List (List Int)×Int) Empty))) N (([]:List (List Int)),0)).bind λa2=>a2.cs (λ(aa:List (List Int)×Int)=>(fP N p0.aQ p0.bM j.1 j.2.1 aa.1).bind λa3=>some (p0.aJ,p0.cN,p0.aQ,p0.bM,j.1,j.2.1,a3,aa.1))<|λr=>r.elim)<|λr=>r.elim
def gL(N:Nat)(p0 p1 p2:Int):Option Bool:=
 some (decide (p0>=p1)&&decide (p0<=p2))
def iO(N:Nat)(p0_2:List bT)(p0_5:List (List aI))(p1:fo):Option Int:=
 (bif p1.Open&&((p1.A != 0)||(p1.B != 0))then some true else(bif(!p1.Open)then some (!(decide<|p1.dP=(⟨false,0⟩:dP)))else some false)).bind λj=>bif j then some 3 else(bif(!p1.Open)then(((gL N p1.A 0<|wrap .i64<|(p0_5.length:Int) - 1).bind λo=>bif(!o)then some true else((gL N p1.B 0<|wrap .i64<|(p0_5.length:Int) - 1).bind λaa=>some<|!aa)).bind λab=>bif ab then some 9 else(bif decide (p1.B<=p1.A)then some 8 else some 0))else((bif(!p1.dP.bT)then((gL N p1.dP.Number 0<|wrap .i64<|(p0_5.length:Int) - 1).bind λad=>some<|!ad)else some false).bind λae=>bif ae then some 9 else((bif p1.dP.bT then((gL N p1.dP.Number 0<|wrap .i64<|(p0_2.length:Int) - 1).bind λaf=>bif(!af)then some true else((idx p0_2 p1.dP.Number).bind λag=>some<|!ag.eP))else some false).bind λah=>bif ah then some 9 else some 0)))
def iC(N:Nat)(p0_2:List bT)(p0_5:List (List aI))(p1:List fo):Option Int:=
 bif decide ((p1.length:Int)>20)then some 2 else((jt (λ(j:Int)=>(bif decide (j<(p1.length:Int))then((idx p1 j).bind λab=>(iO N p0_2 p0_5 ab).bind λaa=>bif aa != 0 then some (.rt aa)else((jt (λ(o:Int)=>(bif decide (o<j)then((idx p1 o).bind λad=>(idx p1 j).bind λae=>bif decide (ad=ae)then some (.rt 7)else some (.nx<|wrap .i64<|o+1))else(some<|.br o):Option (Fl Int Int))) N 0).bind λaf=>af.cs (λ(o:Int)=>some<|.nx<|wrap .i64<|j+1)<|λr=>some<|.rt r))else(some<|.br j):Option (Fl Int Int))) N 0).bind λag=>ag.cs (λ(j:Int)=>some 0)<|λr=>some r)
def dF(N:Nat)(p0:jr)(p1:List fo):Option Int:=
 (cU N p0).bind λj=>bif j != 0 then some j else((iK N p0).bind λo=>(iC N o.2.2.1 o.2.2.2.2.2.1 p1).bind λaa=>some aa)
def fV(N:Nat)(p0:jr)(p1:dO):Option Int:=
 (jt (λ(j:Int)=>(bif decide (j<(p0.bM.length:Int))then(((idx p0.bM j).bind λo=>bif o.Part.o8 p1.Part then((idx p0.bM j).bind λaa=>some<|aa.dO.o8 p1.dO)else some false).bind λab=>bif ab then some (.rt j)else some (.nx<|wrap .i64<|j+1))else(some<|.br j):Option (Fl Int Int))) N 0).bind λad=>ad.cs (λ(j:Int)=>some<|-1)<|λr=>some r
def fU(N:Nat)(p0_5:List (List aI))(p1:dP):Option Int:=
 bif p1.bT then some (wrap .i64<|(p0_5.length:Int)+p1.Number)else some p1.Number
def gO(N:Nat)(p0_7:List (List Int))(p1:Int):Option (List Int):=
 (idx p0_7 p1).bind λj=>some j
def gG(N:Nat)(p0:List Int)(p1 p2:Int):Option (List Int):=
 (idx p0 p1).bind λo=>(idx p0 p2).bind λaa=>(jt (λ(j:List Int×Int)=>(bif decide (j.2<(j.1.length:Int))then((idx j.1 j.2).bind λab=>(bif ab==aa then((idx j.1 j.2).bind λaf=>some<|j.1.set (Int.toNat j.2) o)else some j.1).bind λad=>some<|.nx (ad,wrap .i64<|j.2+1))else(some<|.br (j.1,j.2)):Option (Fl (List Int×Int) Empty))) N (p0,0)).bind λae=>ae.cs (λ(j:List Int×Int)=>some j.1)<|λr=>r.elim
def hZ(N:Nat)(p0_2:List bT)(p0_3:List cX)(p0_4:List Int)(p0_5:List (List aI))(p0_7:List (List Int))(p1:List fo):Option (List Int):=
 (mk 1 (false:Bool)<|wrap .i64<|(p0_5.length:Int)+(p0_2.length:Int)).bind λai=>(jt (λ(j:List Bool×Int)=>(bif decide (j.2<(p1.length:Int))then((idx p1 j.2).bind λaj=>(bif aj.Open then((idx p1 j.2).bind λak=>(fU N p0_5 ak.dP).bind λah=>(idx j.1 ah).bind λbp=>some<|j.1.set (Int.toNat ah) true)else some j.1).bind λal=>some<|.nx (al,wrap .i64<|j.2+1))else(some<|.br (j.1,j.2)):Option (Fl (List Bool×Int) Empty))) N (ai,0)).bind λan=>an.cs (λ(j:List Bool×Int)=>(mk 8 (0:Int) (j.1.length:Int)).bind λao=>(jt (λ(aa:List Int×Int)=>(bif decide (aa.2<(aa.1.length:Int))then((idx aa.1 aa.2).bind λbq=>some<|.nx (aa.1.set (Int.toNat aa.2) aa.2,wrap .i64<|aa.2+1))else(some<|.br (aa.1,aa.2)):Option (Fl (List Int×Int) Empty))) N (ao,0)).bind λaq=>aq.cs (λ(aa:List Int×Int)=>(jt (λ(ab:List Int×Int)=>(bif decide (ab.2<(p0_2.length:Int))then((gO N p0_7 ab.2).bind λaf=>(jt (λ(ad:List Int×Int)=>(bif decide (ad.2<(af.length:Int))then(((idx j.1<|wrap .i64<|(p0_5.length:Int)+ab.2).bind λar=>bif(!ar)then((idx af ad.2).bind λau=>(idx j.1 au).bind λav=>some<|!av)else some false).bind λaw=>(bif aw then((idx af ad.2).bind λax=>(gG N ad.1 (wrap .i64<|(p0_5.length:Int)+ab.2) ax).bind λay=>some ay)else some ad.1).bind λaz=>some<|.nx (az,wrap .i64<|ad.2+1))else(some<|.br (ad.1,ad.2)):Option (Fl (List Int×Int) Empty))) N (ab.1,0)).bind λa0=>a0.cs (λ(ad:List Int×Int)=>some<|.nx (ad.1,wrap .i64<|ab.2+1))<|λr=>r.elim)else(some<|.br (ab.1,ab.2)):Option (Fl (List Int×Int) Empty))) N (aa.1,0)).bind λa1=>a1.cs (λ(ab:List Int×Int)=>(jt (λ(o:List Int×Int)=>(bif decide (o.2<(p1.length:Int))then(((idx p1 o.2).bind λa2=>bif(!a2.Open)then((idx p1 o.2).bind λa3=>(idx j.1 a3.A).bind λa4=>bif(!a4)then((idx p1 o.2).bind λa5=>(idx j.1 a5.B).bind λa6=>some<|!a6)else some false)else some false).bind λa7=>(bif a7 then((idx p1 o.2).bind λa8=>(idx p1 o.2).bind λa9=>(gG N o.1 a8.A a9.B).bind λba=>some ba)else some o.1).bind λbb=>some<|.nx (bb,wrap .i64<|o.2+1))else(some<|.br (o.1,o.2)):Option (Fl (List Int×Int) Empty))) N (ab.1,0)).bind λbc=>bc.cs (λ(o:List Int×Int)=>(jt (λ(ae:List Int×Int)=>(bif decide (ae.2<(p0_3.length:Int))then((idx p0_3 ae.2).bind λbd=>(gl N p0_2 p0_4 p0_5 bd).bind λag=>(bif(!ag.2)then some true else((fU N p0_5 ag.1).bind λbf=>(idx j.1 bf).bind λbg=>some bg)).bind λbh=>(bif bh then((app 8 ae.1 ([(-1)]:List Int)).bind λbj=>some bj)else((fU N p0_5 ag.1).bind λbk=>(idx o.1 bk).bind λbl=>(app 8 ae.1 ([bl]:List Int)).bind λbm=>some bm)).bind λbn=>some<|.nx (bn,wrap .i64<|ae.2+1))else(some<|.br (ae.1,ae.2)):Option (Fl (List Int×Int) Empty))) N (([]:List Int),0)).bind λbo=>bo.cs (λ(ae:List Int×Int)=>some ae.1)<|λr=>r.elim)<|λr=>r.elim)<|λr=>r.elim)<|λr=>r.elim)<|λr=>r.elim
def iP(N:Nat)(p0:List Int)(p1 p2:Int):Option Bool:=
 ((idx p0 p1).bind λj=>bif decide (j>=0)then((idx p0 p1).bind λo=>(idx p0 p2).bind λaa=>some<|o==aa)else some false).bind λab=>some ab
def eB(N:Nat)(p0:jr)(p1:List fo)(p2 p3:dO):Option (Bool×Int):=
 (dF N p0 p1).bind λo=>bif o != 0 then some (false,o)else((fV N p0 p2).bind λaa=>(fV N p0 p3).bind λab=>bif decide (aa<0)||decide (ab<0)then some (false,9)else((iK N p0).bind λj=>(hZ N j.2.2.1 j.2.2.2.1 j.2.2.2.2.1 j.2.2.2.2.2.1 j.2.2.2.2.2.2.2 p1).bind λad=>(iP N ad aa ab).bind λae=>some (ae,0)))
def tf(N:Nat)(p0:List Int):Option Int:=
 (uu p0.length (λ(o:Nat)(aa:Unit)=>((idx p0 (o:Int)).bind λj=>bif j != 0 then some (.rt j)else(some<|.nx ()):Option (Fl Unit Int))) ()).bind λab=>ab.cs (λ(aa:Unit)=>some 0)<|λr=>some r
def iY(N:Nat)(p0 p1:Test):Option Int:=
 (fp N p0.A p1.A).bind λj=>(fp N p0.B p1.B).bind λo=>(tf N ([j,o]:List Int)).bind λaa=>some aa
def mJ(N:Nat)(p0:jr)(p1:List Test):Option (Option (List (List aI)×List aI×List bT×List cX×List (List aA)×List aH×List (List Int)×List cK×List Int×List Int×List Int×List dP)×Int):=
 (fF N p0).bind λo=>Gq o.1 (bif o.2 != 0 then some (none,o.2)else(bif decide ((p1.length:Int)>2000)then some (none,2)else((uu p1.length (λ(ad:Nat)(af:Unit)=>((idx p1 (ad:Int)).bind λaa=>((il N p0 aa.A).bind λag=>bif decide (ag<0)then some true else((il N p0 aa.B).bind λah=>some<|decide<|ah<0)).bind λai=>bif ai then some (.rt (none,9))else((fp N aa.B aa.A).bind λFb=>bif decide (Fb<=0)then some (.rt (none,8))else((bif decide ((ad:Int)>0)then((idx p1<|wrap .i64<|(ad:Int) - 1).bind λaj=>(iY N aa aj).bind λak=>some<|decide<|ak<=0)else some false).bind λal=>bif al then some (.rt (none,8))else some (.nx ()))):Option (Fl Unit<|Option (List (List aI)×List aI×List bT×List cX×List (List aA)×List aH×List (List Int)×List cK×List Int×List Int×List Int×List dP)×Int))) ()).bind λan=>an.cs (λ(af:Unit)=>some (none,0))<|λr=>some r))) (λ(j:(List (List aI)×List aI×List bT×List cX×List (List aA)×List aH×List (List Int)×List cK×List Int×List Int×List Int×List dP))=>bif o.2 != 0 then some (none,o.2)else(bif decide ((p1.length:Int)>2000)then some (none,2)else((uu p1.length (λ(ae:Nat)(ao:Unit)=>((idx p1 (ae:Int)).bind λab=>((il N p0 ab.A).bind λaq=>bif decide (aq<0)then some true else((il N p0 ab.B).bind λar=>some<|decide<|ar<0)).bind λau=>bif au then some (.rt (none,9))else((fp N ab.B ab.A).bind λav=>bif decide (av<=0)then some (.rt (none,8))else((bif decide ((ae:Int)>0)then((idx p1<|wrap .i64<|(ae:Int) - 1).bind λaw=>(iY N ab aw).bind λax=>some<|decide<|ax<=0)else some false).bind λay=>bif ay then some (.rt (none,8))else some (.nx ()))):Option (Fl Unit<|Option (List (List aI)×List aI×List bT×List cX×List (List aA)×List aH×List (List Int)×List cK×List Int×List Int×List Int×List dP)×Int))) ()).bind λaz=>az.cs (λ(ao:Unit)=>some (some (j.1,j.2.1,j.2.2.1,j.2.2.2.1,j.2.2.2.2.1,j.2.2.2.2.2.1,j.2.2.2.2.2.2.1,j.2.2.2.2.2.2.2.1,j.2.2.2.2.2.2.2.2.1,j.2.2.2.2.2.2.2.2.2.1,j.2.2.2.2.2.2.2.2.2.2.1,j.2.2.2.2.2.2.2.2.2.2.2),0))<|λr=>some r)))
def kV(N:Nat)(p0:jr)(p1:List Test):Option Int:=
 (mJ N p0 p1).bind λj=>Gq j.1 (some j.2)<|λ(o:(List (List aI)×List aI×List bT×List cX×List (List aA)×List aH×List (List Int)×List cK×List Int×List Int×List Int×List dP))=>some j.2
def iF(N:Nat)(p0 p1:dO):Option Bool:=
 some (p0.Part.nM p1.Part||(p0.Part.o8 p1.Part&&p0.dO.nM p1.dO))
def jf(N:Nat)(p0 p1:Test):Option Bool:=
 ((iF N p0.A p1.A).bind λj=>bif j then some true else(bif decide (p0.A=p1.A)then((iF N p0.B p1.B).bind λo=>some o)else some false)).bind λaa=>some aa
def fB(N:Nat)(p0:jr)(p1:List Test):Option Int:=
 (cU N p0).bind λo=>bif o != 0 then some o else(bif decide ((p1.length:Int)>2000)then some 2 else((jt (λ(j:Int)=>(bif decide (j<(p1.length:Int))then(((idx p1 j).bind λaa=>(fV N p0 aa.A).bind λab=>bif decide (ab<0)then some true else((idx p1 j).bind λad=>(fV N p0 ad.B).bind λae=>some<|decide<|ae<0)).bind λaf=>bif af then some (.rt 9)else(((idx p1 j).bind λag=>(idx p1 j).bind λah=>(iF N ag.A ah.B).bind λai=>bif(!ai)then some true else(bif decide (j>0)then((idx p1<|wrap .i64<|j - 1).bind λaj=>(idx p1 j).bind λak=>(jf N aj ak).bind λal=>some<|!al)else some false)).bind λan=>bif an then some (.rt 8)else some (.nx<|wrap .i64<|j+1)))else(some<|.br j):Option (Fl Int Int))) N 0).bind λao=>ao.cs (λ(j:Int)=>some 0)<|λr=>some r))
def jW(N:Nat)(p0:jr)(p1:List fo):Option Int:=
 (fF N p0).bind λo=>Gq o.1 (bif o.2 != 0 then some o.2 else none) (λ(j:(List (List aI)×List aI×List bT×List cX×List (List aA)×List aH×List (List Int)×List cK×List Int×List Int×List Int×List dP))=>bif o.2 != 0 then some o.2 else((jR N j.1 j.2.1 j.2.2.1 j.2.2.2.1 j.2.2.2.2.1 j.2.2.2.2.2.1 j.2.2.2.2.2.2.1 j.2.2.2.2.2.2.2.1 j.2.2.2.2.2.2.2.2.1 j.2.2.2.2.2.2.2.2.2.1 j.2.2.2.2.2.2.2.2.2.2.1 j.2.2.2.2.2.2.2.2.2.2.2 p1).bind λaa=>some aa))
def km(N:Nat):Option Bool:=
 (eJ N (⟨([([(⟨0,0,1,1⟩:aI)]:List aI)]:List (List aI)),([]:List aI),([]:List bT),([(⟨⟨[97]⟩,⟨[49]⟩,0,⟨0,0⟩⟩:cX)]:List cX)⟩:jr) ([]:List fo) (⟨⟨[97]⟩,⟨[49]⟩⟩:dO) (⟨⟨[97]⟩,⟨[49]⟩⟩:dO)).bind λj=>some<|(j.2==0)&&j.1
def gv(N:Nat)(p0:jr)(p1:List Test)(p2:List fo)(p3 p4:dO):Option Bool:=
 (eJ N p0 p2 p3 p4).bind λj=>(eB N p0 p2 p3 p4).bind λo=>((kV N p0 p1).bind λaa=>(fB N p0 p1).bind λab=>bif aa==ab then((jW N p0 p2).bind λad=>(dF N p0 p2).bind λae=>bif ad==ae then(bif(j.1==o.1)&&(j.2==o.2)then((km N).bind λaf=>some af)else some false)else some false)else some false).bind λag=>some ag
end
def qg{R:Type}(m:Nat)(e:Nat->Option R):Option R:=(List.range m).findSome? e
theorem kA{R:Type}{m:Nat}{e:Nat->Option R}:qg m e=none↔∀k,k<m->e k=none:=by
 simp[qg]
theorem jY{R:Type}{m:Nat}{e:Nat->Option R}{r:R}:qg m e=some r↔∃k,k<m/\e k=some r/\∀j,j<k->e j=none:=by
 constructor
 ·intro h;obtain⟨l1,a,l2,hl,ha,hn⟩:=List.findSome?_eq_some_iff.1 h;have hlen:l1.length<m:=by have:=congrArg List.length hl;simp at this;omega
  have hget:∀i,i<l1.length->l1[i]? =some i:=λi hi=>by
   have:=congrArg (·[i]?) hl;simp only[gX hi,List.getElem?_range (show i<m by omega)]at this;exact this.symm
  have hat:a=l1.length:=by
   have:=congrArg (·[l1.length]?) hl;simp[List.getElem?_range hlen]at this;exact this.symm
  refine⟨a,by omega,ha,λj hj=>hn j ?_⟩;exact fQ<|hget j (by omega)
 ·rintro⟨k,hk,he,hn⟩;refine List.findSome?_eq_some_iff.2 ⟨List.range k,k,(List.range<|m - k - 1).map (· +(k+1)),?_,he,λx hx=>hn x<|oy.1 hx⟩;refine List.ext_getElem? λi=>?_
  by_cases h1:i<k
  ·rw[gX (by simpa using h1),List.getElem?_range (by omega),List.getElem?_range h1]
  ·rw[ir (by simpa using h1),List.length_range]
   by_cases h2:i=k
   ·subst h2;simp[List.getElem?_range hk]
   ·obtain⟨d,rfl⟩:∃d,i=k+1+d:=⟨i -(k+1),by omega⟩;rw[show k+1+d - k=d+1 by omega,List.getElem?_cons_succ,fL]
    by_cases h3:k+1+d<m
    ·rw[List.getElem?_range h3,List.getElem?_range (by omega)];simp;omega
    ·rw[List.getElem?_eq_none (by simp;omega),List.getElem?_eq_none (by simp;omega)];rfl
theorem KQ{R R':Type}{m:Nat}{e:Nat->Option R}(f:R->R'):(qg m e).map f=qg m (λk=>(e k).map f):=by
 cases hx:qg m e with
 |none=>exact(kA.2 λk hk=>by rw[kA.1 hx k hk];rfl).symm
 |some r=>
  obtain⟨k,hk,he,hn⟩:=jY.1 hx;exact(jY.2 ⟨k,hk,by rw[he];rfl,λj hj=>by rw[hn j hj];rfl⟩).symm
section
variable {S R:Type}
def JL(o:Option R)(s:S):Fl S R:=match o with|some r=> .rt r|none=> .nx s
def Ft(o:Option R)(s:S):Fo S R:=match o with|some r=> .rt r|none=> .go s
theorem GO{body:Nat->S->Option (Fl S R)}(F:Nat->S)(e:Nat->Option R)(m:Nat):∀(n k:Nat),k+n=m->
  (∀j,k<=j->j<m->(∀i,k<=i->i<j->e i=none)->body j (F j)=some (JL (e j)<|F<|j+1))->
  ∃o,E3 body n k (F k)=some o/\((∀j,k<=j->j<m->e j=none)/\o = .go (F m)\/∃j r,k<=j/\j<m/\e j=some r/\(∀i,k<=i->i<j->e i=none)/\o = .rt r)
 | 0,k,hk,_=>⟨_,rfl, .inl ⟨λj h1 h2=>by omega,by rw[show k=m by omega]⟩⟩
 |n+1,k,hk,h=>by
  have hb:=h k (bZ _) (by omega) (λi h1 h2=>by omega);unfold E3;rw[hb]
  cases hx:e k with
  |some r=>exact⟨_,rfl, .inr ⟨k,r,bZ _,by omega,hx,λi h1 h2=>by omega,rfl⟩⟩
  |none=>
   obtain⟨o,ho,hc⟩:=GO F e m n (k+1) (by omega) (λj h1 h2 h3=>h j (by omega) h2 λi h4 h5=>by
    by_cases h6:i=k
    ·subst h6;exact hx
    ·exact h3 i (by omega) h5)
   refine⟨o,ho,?_⟩
   rcases hc with⟨h1,h2⟩|⟨j,r,h1,h2,h3,h4,h5⟩
   ·refine .inl ⟨λj h3 h4=>?_,h2⟩
    by_cases h6:j=k
    ·subst h6;exact hx
    ·exact h1 j (by omega) h4
   ·refine .inr ⟨j,r,by omega,h2,h3,λi h6 h7=>?_,h5⟩
    by_cases h8:i=k
    ·subst h8;exact hx
    ·exact h4 i (by omega) h7
theorem Me{body:Nat->S->Option (Fl S R)}{m:Nat}{s:S}(F:Nat->S)(e:Nat->Option R)(hm:m<=4611686018427387904)(hs:F 0=s)
  (h:∀k,k<m->(∀i,i<k->e i=none)->body k (F k)=some (JL (e k)<|F<|k+1)):uu m body s=some (Ft (qg m e)<|F m):=by
 subst hs;unfold uu;rw[aC hm];obtain⟨o,ho,hc⟩:=GO F e m m 0 (by omega)<|λj _ h2 h3=>h j h2 λi hi=>h3 i (cZ _) hi
 rw[ho]
 rcases hc with⟨h1,h2⟩|⟨j,r,_,h2,h3,h4,h5⟩
 ·rw[kA.2 λk hk=>h1 k (cZ _) hk,h2];rfl
 ·rw[jY.2 ⟨j,h2,h3,λi hi=>h4 i (cZ _) hi⟩,h5];rfl
theorem ru{body:Nat->Unit->Option (Fl Unit R)}{m:Nat}(e:Nat->Option R)(hm:m<=4611686018427387904)
  (h:∀k,k<m->(∀i,i<k->e i=none)->body k ()=some (JL (e k) ())):uu m body ()=some (Ft (qg m e) ()):=
 Me (λ_=>()) e hm rfl h
theorem Ac{body:S->Option (Fl S R)}(Inv:S->Prop)(μ:S->Nat)(Go:S->Prop)(Rt:R->Prop)
  (h:∀s,Inv s->∃fl,body s=some fl/\match fl with| .nx s'=>Inv s'/\μ s'<μ s| .br s'=>Go s'| .rt r=>Rt r):
  ∀(N:Nat)(s:S),Inv s->μ s<N->∃o,jt body N s=some o/\match o with| .go s'=>Go s'| .rt r=>Rt r
 | 0,s,_,hn=>by omega
 |N+1,s,hi,hn=>by
  obtain⟨fl,hb,hf⟩:=h s hi;unfold jt;rw[hb]
  cases fl with
  |nx s'=>exact Ac Inv μ Go Rt h N s' hf.1 (by have:=hf.2;omega)
  |br s'=>exact⟨_,rfl,hf⟩
  |rt r=>exact⟨_,rfl,hf⟩
theorem GP{body:Nat->S->Option (Fl S R)}(Inv:Nat->S->Prop)(Go:S->Prop)(Rt:R->Prop)(m:Nat)
  (h:∀k s,k<m->Inv k s->∃fl,body k s=some fl/\match fl with| .nx s'=>Inv (k+1) s'| .br s'=>Go s'| .rt r=>Rt r) (hg:∀s,Inv m s->Go s):
  ∀(n k:Nat)(s:S),k+n=m->Inv k s->∃o,E3 body n k s=some o/\match o with| .go s'=>Go s'| .rt r=>Rt r
 | 0,k,s,hk,hi=>⟨_,rfl,hg s (by rw[<-hk];exact hi)⟩
 |n+1,k,s,hk,hi=>by
  obtain⟨fl,hb,hf⟩:=h k s (by omega) hi;unfold E3;rw[hb]
  cases fl with
  |nx s'=>exact GP Inv Go Rt m h hg n (k+1) s' (by omega) hf
  |br s'=>exact⟨_,rfl,hf⟩
  |rt r=>exact⟨_,rfl,hf⟩
theorem Mf{body:Nat->S->Option (Fl S R)}{m:Nat}{s:S}(Inv:Nat->S->Prop)(Go:S->Prop)(Rt:R->Prop)(hm:m<=4611686018427387904)(h0:Inv 0 s)
  (h:∀k s,k<m->Inv k s->∃fl,body k s=some fl/\match fl with| .nx s'=>Inv (k+1) s'| .br s'=>Go s'| .rt r=>Rt r) (hg:∀s,Inv m s->Go s):
  ∃o,uu m body s=some o/\match o with| .go s'=>Go s'| .rt r=>Rt r:=by
 unfold uu;rw[aC hm];exact GP Inv Go Rt m h hg m 0 s (by omega) h0
theorem GQ{body:Nat->S->Option S}(Inv:Nat->S->Prop)(m:Nat)(h:∀k s,k<m->Inv k s->∃s',body k s=some s'/\Inv (k+1) s'):
  ∀(n k:Nat)(s:S),k+n=m->Inv k s->∃s',Kn body n k s=some s'/\Inv m s'
 | 0,k,s,hk,hi=>⟨_,rfl,by rw[<-hk];exact hi⟩
 |n+1,k,s,hk,hi=>by
  obtain⟨s',hb,hf⟩:=h k s (by omega) hi;unfold Kn;rw[hb];exact GQ Inv m h n (k+1) s' (by omega) hf
theorem Ct{body:Nat->S->Option S}{m:Nat}{s:S}(Inv:Nat->S->Prop)(hm:m<=4611686018427387904)(h0:Inv 0 s)
  (h:∀k s,k<m->Inv k s->∃s',body k s=some s'/\Inv (k+1) s'):∃s',mU m body s=some s'/\Inv m s':=by
 unfold mU;rw[aC hm];exact GQ Inv m h m 0 s (by omega) h0
end
section
variable {α β:Type}
theorem aB(x:α)(f:α->Option β):(some x).bind f=f x:=rfl
theorem mb(l:List α)(k:Nat)(h:k<l.length):idx l ((k:Nat):Int)=some l[k]:=by
 unfold idx;rw[aC (by omega),cA,aO h]
theorem cI{l:List α}{k:Nat}{x:α}(h:l[k]? =some x):idx l ((k:Nat):Int)=some x:=by
 unfold idx;rw[aC (by omega),cA,h]
theorem GR(s:eQ)(k:Nat)(h:k<s.dN.length):HL s ((k:Nat):Int)=some s.dN[k]:=by
 unfold HL;rw[aC (by omega),cA,aO h]
theorem jg{k:Nat}(h:0<k)(hk:k<=4611686018427387904):wrap .i64 (((k:Nat):Int) - 1)=((k - 1:Nat):Int):=by
 rw[fw (by omega) (by omega)];omega
theorem tk(l:List α)(k:Nat)(h:k<=l.length):uv l 0 ((k:Nat):Int)=some (l.take k):=by
 unfold uv;rw[aC ⟨by omega,by omega,by omega⟩];simp only[Int.toNat_zero,List.drop_zero,Int.sub_zero,cA]
theorem ry(l:List α)(k:Nat)(h:k<=l.length):uv l ((k:Nat):Int) ((l.length:Nat):Int)=some (l.drop k):=by
 unfold uv;rw[aC ⟨by omega,by omega,by omega⟩];simp only[cA,Option.some.injEq];rw[mF];rw[jl];omega
theorem lS{b:Nat}{l ys:List α}(h:(l.length+ys.length)*b<=140737488355328):app b l ys=some (l++ys):=by unfold app;rw[aC h]
theorem pE{b:Nat}(z:α){n:Nat}(h:n*b<=140737488355328):mk b z ((n:Nat):Int)=some (List.replicate n z):=by
 unfold mk;have e:((n:Nat):Int)*((b:Nat):Int)=((n*b:Nat):Int):=(Int.natCast_mul n b).symm;rw[e];generalize n*b=q at h ⊢;rw[aC ⟨by omega,by omega⟩,cA]
end
theorem eQ.ext'{a b:eQ}(h:a.dN=b.dN):a=b:=by cases a;cases b;simp at h;rw[h]
theorem Ad{a b:eQ}:a.o8 b=true↔a=b:=by
 unfold eQ.o8;rw[beq_iff_eq];exact⟨eQ.ext',λh=>by rw[h]⟩
theorem IZ(a b:eQ):a.o8 b=decide (a=b):=by rw[dY,Ad];simp
theorem BO:∀(a:List UInt8),Op.bytesLess a a=false
 | []=>rfl
 |a::l=>by
  unfold Op.bytesLess;rw[BO l];simp
theorem CX:∀{a b c:List UInt8},Op.bytesLess a b=true->Op.bytesLess b c=true->Op.bytesLess a c=true
 | [],[],_,h,_=>by simp[Op.bytesLess]at h
 | [],_::_,[],_,h=>by simp[Op.bytesLess]at h
 | [],_::_,_::_,_,_=>rfl
 |_::_,[],_,h,_=>by simp[Op.bytesLess]at h
 |_::_,_::_,[],_,h=>by simp[Op.bytesLess]at h
 |a::l,b::m,c::n,h1,h2=>by
  unfold Op.bytesLess at h1 h2 ⊢;simp only[dU,bX,bJ,beq_iff_eq]at h1 h2 ⊢
  rcases h1 with h1|⟨rfl,h1⟩
  ·rcases h2 with h2|⟨rfl,h2⟩
   ·exact .inl<|UInt8.lt_trans h1 h2
   ·exact .inl h1
  ·rcases h2 with h2|⟨rfl,h2⟩
   ·exact .inl h2
   ·exact .inr ⟨rfl,CX h1 h2⟩
theorem CY:∀(a b:List UInt8),Op.bytesLess a b=true\/a=b\/Op.bytesLess b a=true
 | [],[]=> .inr (.inl rfl)
 | [],_::_=> .inl rfl
 |_::_,[]=> .inr (.inr rfl)
 |a::l,b::m=>by
  unfold Op.bytesLess;simp only[dU,bX,bJ,beq_iff_eq]
  by_cases h1:a<b
  ·exact .inl<|.inl h1
  ·by_cases h2:b<a
   ·exact .inr<|.inr<|.inl h2
   ·have e:a=b:=by
     simp only[UInt8.lt_iff_toNat_lt]at h1 h2;exact UInt8.toNat_inj.1 (by omega)
    subst e
    rcases CY l m with h|h|h
    ·exact .inl<|.inr ⟨rfl,h⟩
    ·exact .inr<|.inl (by rw[h])
    ·exact .inr<|.inr<|.inr ⟨rfl,h⟩
theorem ze:∀(a b:List UInt8),Lib.compareBytes a b<0↔Op.bytesLess a b=true
 | [],[]=>by simp[Lib.compareBytes,Op.bytesLess]
 | [],_::_=>by simp[Lib.compareBytes,Op.bytesLess]
 |_::_,[]=>by simp[Lib.compareBytes,Op.bytesLess]
 |a::l,b::m=>by
  unfold Lib.compareBytes Op.bytesLess;simp only[dU,bX,bJ,beq_iff_eq];split
  ·simp_all
  ·rename_i h1;split
   ·rename_i h2;have h3:a≠b:=λe=>by subst e;exact h1 h2
    simp[h1,h3]
   ·rename_i h2;have e:a=b:=by
     simp only[UInt8.lt_iff_toNat_lt]at h1 h2;exact UInt8.toNat_inj.1 (by omega)
    subst e;rw[ze l m];simp[h1]
theorem zf:∀(a b:List UInt8),Lib.compareBytes a b=0↔a=b
 | [],[]=>by simp[Lib.compareBytes]
 | [],_::_=>by simp[Lib.compareBytes]
 |_::_,[]=>by simp[Lib.compareBytes]
 |a::l,b::m=>by
  unfold Lib.compareBytes;split
  ·rename_i h1;have h3:a≠b:=λe=>by subst e;exact absurd h1 (by simp)
   simp[h3]
  ·rename_i h1;split
   ·rename_i h2;have h3:a≠b:=λe=>by subst e;exact h1 h2
    simp[h3]
   ·rename_i h2;have e:a=b:=by
     simp only[UInt8.lt_iff_toNat_lt]at h1 h2;exact UInt8.toNat_inj.1 (by omega)
    subst e;rw[zf l m];simp
def eQ.lt(a b:eQ):Prop:=a.nM b=true
theorem eQ.lt_irrefl(a:eQ):¬eQ.lt a a:=by unfold eQ.lt eQ.nM;rw[BO];decide
theorem eQ.lt_trans{a b c:eQ}(h1:eQ.lt a b)(h2:eQ.lt b c):eQ.lt a c:=CX h1 h2
theorem eQ.GS(a b:eQ):eQ.lt a b\/a=b\/eQ.lt b a:=by
 rcases CY a.dN b.dN with h|h|h
 ·exact .inl h
 ·exact .inr<|.inl<|eQ.ext' h
 ·exact .inr<|.inr h
theorem eQ.Ni{a b:eQ}(h:eQ.lt a b):a≠b:=λe=>by subst e;exact eQ.lt_irrefl a h
end Go.Gk
namespace Go.Gk
open Go IntKind
class Bk (α:Type)where
 bk:α->Nat
 pos:∀x,1<=bk x
def bk{α:Type}[Bk α](x:α):Nat:=Bk.bk x
theorem KR{α:Type}[Bk α](x:α):1<=bk x:=Bk.pos x
instance:Bk eQ:=⟨λs=>s.dN.length+1,λ_=>by omega⟩
instance:Bk Int:=⟨λ_=>1,λ_=>by omega⟩
instance:Bk Bool:=⟨λ_=>1,λ_=>by omega⟩
instance {α:Type} [Bk α]:Bk (List α):=⟨λl=>(l.map bk).sum+1,λ_=>by omega⟩
theorem KS{α:Type}[Bk α]:bk ([]:List α)=1:=rfl
theorem Fu{α:Type}[Bk α](x:α)(l:List α):bk (x::l)=bk x+bk l:=by
 show(List.map bk<|x::l).sum+1=bk x+((List.map bk l).sum+1);simp;omega
theorem H0{α:Type}[Bk α]:∀{l:List α}{x:α},x∈l->bk x+1<=bk l
 |y::l,x,h=>by
  rw[Fu]
  rcases dI.1 h with h|h
  ·subst h;have:=KR l;omega
  ·have:=H0 h;omega
theorem xq{α:Type}[Bk α]:∀(l:List α),l.length+1<=bk l
 | []=>by rw[KS];simp
 |x::l=>by rw[Fu,dX];have:=xq l;have:=KR x;omega
theorem KT(s:eQ):bk s=s.dN.length+1:=rfl
section
variable {α R:Type}
theorem JM{l:List α}{e:Nat->Option R}(f:α->Option R)(h:∀k x,l[k]? =some x->e k=f x):qg l.length e=l.findSome? f:=by
 cases hx:qg l.length e with
 |none=>
  refine(List.findSome?_eq_none_iff.2 λx hm=>?_).symm;obtain⟨k,hk⟩:=dZ hm;rw[<-h k x hk];exact kA.1 hx k (bD.1 hk).1
 |some r=>
  obtain⟨k,hk,he,hn⟩:=jY.1 hx;refine(List.findSome?_eq_some_iff.2 ⟨l.take k,l[k],l.drop<|k+1,?_,?_,λy hy=>?_⟩).symm
  ·rw[<-vN hk,List.take_append_drop]
  ·rw[<-h k l[k] (aO hk)];exact he
  ·obtain⟨j,hj⟩:=dZ hy;have hjk:j<k:=by have:=(bD.1 hj).1;rw[cQ]at this;omega
   rw[List.getElem?_take_of_lt hjk]at hj;rw[<-h j y hj];exact hn j hjk
theorem Fv(l:List α)(p:α->Bool)(r:R):l.findSome? (λx=>if p x=true then some r else none)=if l.any p=true then some r else none:=by
 induction l with
 |nil=>simp
 |cons x l ih=>
  rw[List.findSome?_cons,List.any_cons]
  cases h:p x <;> simp[ih]
theorem Ae{l:List α}{body:Nat->Unit->Option (Fl Unit R)}(f:α->Option R)(hl:l.length<=4611686018427387904)
  (h:∀k x,l[k]? =some x->body k ()=some (JL (f x) ())):uu l.length body ()=some (Ft (l.findSome? f) ()):=by
 have h2:=ru (body:=body) (m:=l.length) (λk=>(l[k]?).bind f) hl (λk hk _=>by
  rw[h k l[k] (aO hk),aO hk];rfl)
 rw[h2,JM f (λk x hx=>by rw[hx];rfl)]
theorem Mg{l:List α}{body:Nat->Unit->Option (Fl Unit R)}(p:α->Bool)(r:R)(hl:l.length<=4611686018427387904)
  (h:∀k x,l[k]? =some x->body k ()=some (if p x=true then .rt r else .nx ())):uu l.length body ()=some (if l.any p=true then .rt r else .go ()):=by
 rw[Ae (λx=>if p x=true then some r else none) hl (λk x hx=>by rw[h k x hx];cases p x <;> rfl),Fv]
 cases l.any p <;> rfl
end
theorem Mh{β:Type}(b:Bool)(x y:β):(bif b then some x else some y)=some (bif b then x else y):=by cases b <;> rfl
section
variable {α β:Type}
def I0(l:List α)(p:α->Bool):Int:=match l.findIdx? p with|some k=>((k:Nat):Int)|none=> -1
theorem GU{l:List α}{p:α->Bool}(h:l.any p=false):I0 l p = -1:=by
 unfold I0;rw[List.findIdx?_eq_none_iff.2];intro x hx;rw[<-jy];intro hp;rw[<-jy]at h;exact h<|kq.2 ⟨x,hx,hp⟩
theorem GV{l:List α}{p:α->Bool}{k:Nat}{x:α}(hk:l[k]? =some x)(hp:p x=true)(hn:∀j y,j<k->l[j]? =some y->p y=false):I0 l p=((k:Nat):Int):=by
 unfold I0;have hlt:=(bD.1 hk).1;have:l.findIdx? p=some k:=by
  rw[List.findIdx?_eq_some_iff_getElem];refine⟨hlt,?_,λj hj=>?_⟩
  ·have:=aO hlt;rw[hk]at this;injection this with this;rw[<-this];exact hp
  ·have:=hn j l[j] hj<|aO (by omega);simpa using this
 rw[this]
theorem yc(l:List α)(p:α->Bool):(I0 l p = -1/\∀x∈l,p x=false)\/∃k x,I0 l p=((k:Nat):Int)/\l[k]? =some x/\p x=true/\∀j y,j<k->l[j]? =some y->p y=false:=by
 unfold I0
 cases h:l.findIdx? p with
 |none=>exact .inl ⟨rfl,λx hx=>by have:=List.findIdx?_eq_none_iff.1 h x hx;simpa using this⟩
 |some k=>
  obtain⟨hk,hp,hn⟩:=List.findIdx?_eq_some_iff_getElem.1 h;refine .inr ⟨k,l[k],rfl,aO hk,hp,λj y hj hy=>?_⟩;have:=hn j hj;rw[aO (by omega)]at hy;injection hy with hy
  subst hy;simpa using this
theorem KU(l:List α)(p:α->Bool):decide (I0 l p>=0)=l.any p:=by
 rcases yc l p with⟨h,hn⟩|⟨k,x,h,hx,hp,_⟩
 ·rw[h,List.any_eq_false.2 (λx hx=>by rw[hn x hx];decide)];decide
 ·rw[h,kq.2 ⟨x,fQ hx,hp⟩];simp
def wc(p0:List α)(p1:α->Option Bool):Option Int:=
 (uu p0.length (λ(k1:Nat)(_:Unit)=>((idx p0 ((k1:Nat):Int)).bind λx7=>(p1 x7).bind λx10=>bif x10 then some (.rt ((k1:Nat):Int))else(some<|.nx ()):Option (Fl Unit Int))) ()).bind λo11=>o11.cs (λ(_:Unit)=>some<|-1)<|λr=>some r
theorem uD{l:List α}{φ:α->Option Bool}(p:α->Bool)(hl:l.length<=4611686018427387904)(h:∀x∈l,φ x=some (p x)):wc l φ=some (I0 l p):=by
 unfold wc
 rw[ru (λk=>(l[k]?).bind λx=>if p x=true then some ((k:Nat):Int)else none) hl (λk hk _=>by
  rw[mb l k hk,aB,h _<|cL hk,aB,aO hk]
  cases hp:p l[k] <;> simp[JL,hp]),aB]
 rcases yc l p with⟨h1,h2⟩|⟨k,x,h1,h2,h3,h4⟩
 ·rw[kA.2 (λk hk=>by rw[aO hk];simp[h2 _<|cL hk])];simp[Ft,Fo.cs,h1]
 ·rw[(jY (r:=((k:Nat):Int))).2 ⟨k,(bD.1 h2).1,by rw[h2];simp[h3],λj hj=>by
   cases hy:l[j]? with
   |none=>rfl
   |some y=>simp[h4 j y hj hy]⟩]
  simp[Ft,Fo.cs,h1]
def uE(p0:List α)(p1:α->Option Bool):Option Bool:=
 (wc p0 p1).bind λx1=>some<|decide<|x1>=0
theorem u9{l:List α}{φ:α->Option Bool}(p:α->Bool)(hl:l.length<=4611686018427387904)(h:∀x∈l,φ x=some (p x)):uE l φ=some (l.any p):=by
 unfold uE;rw[uD p hl h,aB,KU]
def KW [DecidableEq α](p0:List α)(p1:α):Option Int:=
 (uu p0.length (λ(k2:Nat)(_:Unit)=>((idx p0 ((k2:Nat):Int)).bind λx12=>bif decide (p1=x12)then some (.rt ((k2:Nat):Int))else(some<|.nx ()):Option (Fl Unit Int))) ()).bind λo18=>o18.cs (λ(_:Unit)=>some<|-1)<|λr=>some r
theorem JN [DecidableEq α]{l:List α}{a:α}(hl:l.length<=4611686018427387904):KW l a=some (I0 l<|λx=>decide<|a=x):=by
 have:=uD (l:=l) (φ:=λx=>some<|decide<|a=x) (λx=>decide<|a=x) hl<|λ_ _=>rfl
 rw[<-this];rfl
def A9 [DecidableEq α](p0:List α)(p1:α):Option Bool:=(KW p0 p1).bind λx3=>some<|decide<|x3>=0
theorem Fw [DecidableEq α]{l:List α}{a:α}(hl:l.length<=4611686018427387904):A9 l a=some (decide<|a∈l):=by
 unfold A9;rw[JN hl,aB,KU,Option.some.injEq,dY];simp
def H2 [DecidableEq α](p0 p1:List α):Option Bool:=
 bif((p0.length:Nat):Int) != ((p1.length:Nat):Int)then some false else((uu p0.length (λ(k1:Nat)(_:Unit)=>((idx p0 ((k1:Nat):Int)).bind λx13=>(idx p1 ((k1:Nat):Int)).bind λx16=>bif(!(decide<|x13=x16))then some (.rt false)else(some<|.nx ()):Option (Fl Unit Bool))) ()).bind λo23=>o23.cs (λ(_:Unit)=>some true)<|λr=>some r)
theorem EH [DecidableEq α]{l m:List α}(hl:l.length<=4611686018427387904):H2 l m=some (decide<|l=m):=by
 unfold H2
 by_cases h:l.length=m.length
 ·have e:(((l.length:Nat):Int) != ((m.length:Nat):Int))=false:=by rw[h];simp
  rw[e,aM]
  rw[ru (λk=>if l[k]? =m[k]? then none else some false) hl (λk hk _=>by
   rw[mb l k hk,aB,mb m k (by omega),aB,aO hk,aO (by omega:k<m.length)]
   by_cases hx:l[k]=m[k] <;> simp[JL,hx]),aB]
  by_cases hx:l=m
  ·subst hx;rw[kA.2<|λk _=>aC rfl];simp[Ft,Fo.cs]
  ·have:∃r,qg l.length (λk=>if l[k]? =m[k]? then none else some false)=some r:=by
    cases hf:qg l.length (λk=>if l[k]? =m[k]? then none else some false)with
    |some r=>exact⟨r,rfl⟩
    |none=>
     exfalso;refine hx<|List.ext_getElem? λi=>?_
     by_cases hi:i<l.length
     ·have:=kA.1 hf i hi
      by_cases h6:l[i]? =m[i]?
      ·exact h6
      ·rw[aD h6]at this;cases this
     ·rw[List.getElem?_eq_none (by omega),List.getElem?_eq_none (by omega)]
   obtain⟨r,hr⟩:=this;have hr2:r=false:=by
    obtain⟨k,_,hk,_⟩:=jY.1 hr;split at hk
    ·cases hk
    ·injection hk with hk;exact hk.symm
   rw[hr,hr2];simp[Ft,Fo.cs,hx]
 ·have e:(((l.length:Nat):Int) != ((m.length:Nat):Int))=true:=by simp;omega
  rw[e,aK,bG<|λh'=>h (by rw[h'])]
def Sorted(key:α->eQ)(l:List α):Prop:=∀(i j:Nat)(x y:α),i<j->l[i]? =some x->l[j]? =some y->eQ.lt (key x) (key y)
theorem Sorted.inj{key:α->eQ}{l:List α}(h:Sorted key l){i j:Nat}{x y:α}(hx:l[i]? =some x)(hy:l[j]? =some y)(e:key x=key y):i=j:=by
 rcases Nat.lt_trichotomy i j with h1|h1|h1
 ·exact absurd e<|eQ.Ni<|h i j x y h1 hx hy
 ·exact h1
 ·exact absurd e.symm<|eQ.Ni<|h j i y x h1 hy hx
def KX(N:Nat)(p0:List α)(p1:β)(p2:α->β->Option Int):Option (Int×Bool):=
 (jt (λ(s2:Int×Int)=>(bif decide (s2.1<s2.2)then((idx p0<|wrap .i64<|Int.fdiv (wrap .u64<|wrap .i64<|s2.1+s2.2) 2).bind λx13=>(p2 x13 p1).bind λx16=>(bif decide (x16<0)then some (wrap .i64<|wrap .i64 (Int.fdiv (wrap .u64<|wrap .i64<|s2.1+s2.2) 2)+1,s2.2)else some (s2.1,wrap .i64<|Int.fdiv (wrap .u64<|wrap .i64<|s2.1+s2.2) 2)).bind λs17=>some<|.nx (s17.1,s17.2))else(some<|.br (s2.1,s2.2)):Option (Fl (Int×Int) Empty))) N (0,((p0.length:Nat):Int))).bind λo29=>o29.cs (λ(s2:Int×Int)=>(bif decide (s2.1<((p0.length:Nat):Int))then((idx p0 s2.1).bind λx25=>(p2 x25 p1).bind λx28=>some<|x28==0)else some false).bind λs23=>some (s2.1,s23))<|λr=>r.elim
theorem JO{a b:Nat}(h:a<b)(hb:b<=4611686018427387904):wrap .i64 (Int.fdiv (wrap .u64<|wrap .i64<|((a:Nat):Int)+((b:Nat):Int)) 2)=(((a+b) / 2:Nat):Int):=by
 rw[fw (x:=((a:Nat):Int)+((b:Nat):Int)) (by omega) (by omega)];have e:wrap .u64 (((a:Nat):Int)+((b:Nat):Int))=((a+b:Nat):Int):=by
  show((a:Int)+b) % 18446744073709551616=_;omega
 rw[e,Int.fdiv_eq_ediv_of_nonneg _ (by omega),fw (by omega) (by omega)];omega
end
end Go.Gk
namespace Go.Gk
open Go IntKind Go.ChangeShapes Go.WideShapes Go.RowKit
structure UB (ub:(H:Type)->DataW H->Nat) (ua:(H:Type)->List (DataW H)->Nat):Prop where
 str:∀(H:Type)(b:List UInt8),ub H (.lit<|.string b)=b.length+1
 pos:∀(H:Type)(d:DataW H),1<=ub H d
 sl:∀(H:Type)(e s:List (DataW H)),ub H (.slice e s)=ua H e+ua H s+1
 ag:∀(H:Type)(l:List (DataW H)),ub H (.agg l)=ua H l+1
 nil:∀(H:Type),ua H []=0
 cons:∀(H:Type)(x:DataW H)(l:List (DataW H)),ua H (x::l)=ub H x+ua H l
def Hw(w:World):fz:=λb=>w.heap[b]?
structure kB (ub:(H:Type)->DataW H->Nat) (P:Program) (T:TypeId) (α:Type) [GT α] [Bk α]:Prop where
 trod:∀{H:Type}{enc:TypeId×Value->H}{w:World}{base:Nat}{spare:Nat->Bool}{held:Bool}{fuel:Nat}{cs:List Value}{d:DataW H×List MemPlace},
  DataW.trod enc P w base spare held fuel T cs=some d->∃x:α,GT.ok (Hw w) cs x/\bk x<=ub H d.1
 PW:∀{w:World}{r:Reach}{base:Nat}{v:Value},Value.okWide P w r base T v->v=yV α v.cells.toList
section
variable {ub:(H:Type)->DataW H->Nat}{ua:(H:Type)->List (DataW H)->Nat}{P:Program}{T e:TypeId}
theorem JP(u:UB ub ua)(ht:P.underlying T=some (.int .i64)):kB ub P T Int where
 trod:=λh=>by
  obtain⟨n,rfl,rfl,_⟩:=DataW.trod_int ht h;exact⟨n,rfl,u.pos _ _⟩
 PW:=λh=>by obtain⟨n,rfl⟩:=okWide_int ht h;rfl
theorem H3(u:UB ub ua)(ht:P.underlying T=some .bool):kB ub P T Bool where
 trod:=λh=>by
  obtain⟨n,rfl,rfl⟩:=DataW.trod_bool ht h;exact⟨n,rfl,u.pos _ _⟩
 PW:=λh=>by obtain⟨n,rfl⟩:=okWide_bool ht h;rfl
theorem JQ(u:UB ub ua)(ht:P.underlying T=some .string):kB ub P T eQ where
 trod:=λh=>by
  obtain⟨s,rfl,rfl,_⟩:=DataW.trod_string ht h;refine⟨⟨s.data.toList⟩,?_,?_⟩
  ·show [Value.string s]= [Gk.str ⟨s.data.toList⟩]
   cases s;rfl
  ·rw[u.str];exact bZ _
 PW:=λh=>by obtain⟨n,rfl⟩:=okWide_string ht h;rfl
theorem BP{α:Type}{R:Nat->α->Prop}:∀(n:Nat),(∀i,i<n->∃x,R i x)->∃l:List α,l.length=n/\∀i x,l[i]? =some x->R i x
 | 0,_=>⟨[],rfl,λi x h=>by simp at h⟩
 |n+1,h=>by
  obtain⟨l,h1,h2⟩:=BP n<|λi hi=>h i (by omega)
  obtain⟨x,hx⟩:=h n (by omega);refine⟨l++[x],by simp[h1],λi y hy=>?_⟩
  by_cases hi:i<n
  ·rw[gX (by omega)]at hy;exact h2 i y hy
  ·have:=(bD.1 hy).1;rw[dK]at this;have:i=n:=by simp at this;omega
   subst this;rw[ir (by omega),h1]at hy;simp at hy;subst hy;exact hx
theorem EI{H α:Type}[Bk α](u:UB ub ua):∀{l:List α}{es:List (DataW H×List MemPlace)},l.length=es.length->
  (∀(i:Nat)(x:α)(y:DataW H×List MemPlace),l[i]? =some x->es[i]? =some y->bk x<=ub H y.1)->bk l<=ua H (es.map (·.1))+1
 | [],[],_,_=>by rw[KS];omega
 |x::l,y::es,hl,h=>by
  have h1:=h 0 x y rfl rfl;have h2:=EI (H:=H) u (l:=l) (es:=es) (by simpa using hl)<|λi x y hx hy=>h (i+1) x y (by simpa using hx) (by simpa using hy)
  rw[Fu,eL,u.cons];omega
theorem GW{w:World}{base:Nat}{a:Addr}{n:Nat}{cs:List Value}(h:w.cells? base a n=some cs):At (Hw w) a cs:=by
 intro j v hv;obtain⟨_,hlen,hc⟩:=World.cells?_some h;have hj:=(bD.1 hv).1;have h2:=hc j (by omega);rw[hv]at h2;unfold zD Hw;unfold World.cell? at h2;exact h2
theorem qV{α:Type}[GT α][Bk α](u:UB ub ua)(he:kB ub P e α)(ht:P.underlying T=some (.slice e):=by kernel_rfl)(hc:P.cellsOf e=GT.sz α:=by kernel_rfl):kB ub P T (List α)where
 trod:=λ{H enc w base spare held fuel cs d}h=>by
  rcases DataW.trod_slice ht h with⟨rfl,rfl⟩|⟨a,len,cap,elems,rest,n,_,rfl,rfl,_,hlc,hcm,hlen,hel,_⟩
  ·exact⟨[],⟨_,rfl,none,0,0,rfl,rfl,bZ _,by simp[maxLen],λi x hx=>by simp at hx⟩,u.pos _ _⟩
  ·have each:∀i,i<len->∃x:α,(∃c y,GT.ok (Hw w) c x/\At (Hw w) (a.add<|i*GT.sz α) c/\elems[i]? =some y/\bk x<=ub H y.1):=by
    intro i hi;have h1:=hel i hi;rw[aO (by omega:i<elems.length),Option.bind_eq_some_iff]at h1;obtain⟨c,h2,h3⟩:=h1;obtain⟨x,h4,h5⟩:=he.trod h3;refine⟨x,c,_,h4,?_,aO (by omega),h5⟩;rw[hc]at h2;exact GW h2
   obtain⟨l,hl,hr⟩:=BP len each;refine⟨l,⟨_,rfl,some a,len,cap,rfl,hl.symm,hlc,hcm,λi x hx=>?_⟩,?_⟩
   ·obtain⟨c,y,h1,h2,_⟩:=hr i x hx;exact⟨a,c,rfl,h1,h2⟩
   ·have:=EI (H:=H) u (l:=l) (es:=elems) (by omega) (λi x y hx hy=>by
     obtain⟨c,y',_,_,h3,h4⟩:=hr i x hx
     rw[hy]at h3;injection h3 with h3;subst h3;exact h4)
    rw[u.sl];omega
 PW:=λh=>by obtain⟨a,n,c,rfl⟩:=okWide_slice ht h;rfl
def I1(ub:(H:Type)->DataW H->Nat)(ua:(H:Type)->List (DataW H)->Nat)(P:Program)(off:Nat)(fs:List Field)(β:Type)[GT β](m:β->Nat):Prop:=
 ∀{H:Type}{enc:TypeId×Value->H}{w:World}{base:Nat}{spare:Nat->Bool}{held:Bool}{n:Nat}{cs:List Value}{ys:List (DataW H×List MemPlace)},
  (∀(i:Nat)(f:Field),fs[i]? =some f->DataW.trod enc P w base spare held n f.type ((cs.drop f.offset).take<|P.cellsOf f.type)=ys[i]?)->ys.length=fs.length->
  cs.length=off+GT.sz β->∃x:β,GT.ok (Hw w) (cs.drop off) x/\m x<=ua H (ys.map (·.1))
theorem oN{β:Type}[GT β][Bk β]{off:Nat}{f:Field}(u:UB ub ua)(h:kB ub P f.type β)(ho:f.offset=off:=by exact rfl)(hc:P.cellsOf f.type=GT.sz β:=by kernel_rfl):I1 ub ua P off [f] β bk:=by
 intro H enc w base spare held n cs ys hf hl hcs
 match ys,hl with
 | [y],_=>
  have h1:=hf 0 f rfl;rw[ho,hc,mF (by rw[jl];omega)]at h1;obtain⟨x,h2,h3⟩:=h.trod (d:=y) h1;exact⟨x,h2,by rw[eL,u.cons];omega⟩
theorem fI{α β:Type}[GT α][GT β][Bk α]{off off':Nat}{f:Field}{fs:List Field}{m:β->Nat}(u:UB ub ua)(h:kB ub P f.type α)(hr:I1 ub ua P off' fs β m)(ho:f.offset=off:=by exact rfl)(hc:P.cellsOf f.type=GT.sz α:=by kernel_rfl)(hoff:off'=off+GT.sz α:=by exact rfl):I1 ub ua P off (f::fs) (α×β) (λx=>bk x.1+m x.2):=by
 intro H enc w base spare held n cs ys hf hl hcs;have hsz:GT.sz (α×β)=GT.sz α+GT.sz β:=rfl
 match ys,hl with
 |y::ys,hl=>
  have h1:=hf 0 f rfl;rw[ho,hc]at h1;obtain⟨x,h2,h3⟩:=h.trod (d:=y) h1;obtain⟨x',h4,h5⟩:=hr (n:=n) (cs:=cs) (ys:=ys) (λi g hg=>hf (i+1) g hg) (by simpa using hl) (by omega);refine⟨(x,x'),⟨_,_,?_,h2,h4⟩,?_⟩
  ·rw[hoff,<-List.drop_drop,List.take_append_drop]
  ·rw[eL,u.cons];show bk x+m x'<=_;omega
theorem kO{γ β:Type}[GT β][Bk γ]{fs:Array Field}{m:β->Nat}(u:UB ub ua)(f:γ->β)(g:β->γ)(hfg:∀b,f (g b)=b)(ht:P.underlying T=some (.struct fs))(h:I1 ub ua P 0 fs.toList β m)(hm:∀b,bk (g b)<=m b+1)(hc:P.cellsOf T=GT.sz β:=by kernel_rfl): @kB ub P T γ (GT.via f) _:=
 @kB.mk ub P T γ (GT.via f) _
  (λ{H enc w base spare held fuel cs d}hd=>by
   obtain⟨xs,n,_,rfl,hl,hlen,hf⟩:=DataW.trod_struct ht hd;obtain⟨b,h1,h2⟩:=h (n:=n) (cs:=cs) (ys:=xs) (λi g hg=>hf i g (by rw[<-Array.getElem?_toList];exact hg)) (by rw[hlen];simp) (by omega);refine⟨g b,?_,?_⟩
   ·show GT.ok (Hw w) cs (f<|g b);rw[hfg];exact h1
   ·rw[u.ag];have:=hm b;omega)
  (λhv=>by
   obtain⟨cs,rfl,_⟩:=okWide_struct ht hv
   cases cs;rfl)
theorem kB.arg{H:Type}{enc:TypeId×Value->H}{w:World}{base:Nat}{spare:Nat->Bool}{held:Bool}{r:Reach}{b0:Nat}{v:Value}{d:DataW H}{ps:List MemPlace}{α:Type}[GT α][Bk α](o:kB ub P T α)
  (hv:Value.okWide P w r b0 T v) (hd:DataW.Trod enc P w base spare held T v d ps):∃x:α,yW (Hw w) v x/\bk x<=ub H d:=by
 obtain⟨fuel,hf⟩:=hd;obtain⟨x,h1,h2⟩:=o.trod hf;exact⟨x,⟨_,o.PW hv,h1⟩,h2⟩
end
theorem Calls.fin{P:Program}{f:FuncId}{args:Array Value}{w:World}{R Q:Value->World->Prop}(h:Calls P f args w (gj R))(k:∀v w',R v w'->Q v w'):
  Calls P f args w (λe W'=>∃v,e = .returned v/\Q v W'):=Calls.mono h λ_ w'⟨v,e,hr⟩=>⟨v,e,k v w' hr⟩
def iG(W:World):HP:=⟨λM h=>hle (Hw W) M/\h=tN,λk⟨a,b⟩=>⟨Ju a k,b⟩⟩
theorem Holds.begin(W:World):Holds W W [iG W]:=by
 refine⟨Hw W,λ_=>tN,⟨rfl,rfl,rfl,bZ _,λb o h=>h,λi Pr hq=>?_,λ_ _ _ _ h=>(by cases h),λ_ _ _ _ h=>(by cases h),λ_ _ _ _ _ _ _ h=>(by cases h)⟩⟩
 match i,hq with
 | 0,hq=>simp at hq;subst hq;exact⟨Kk _,rfl⟩
theorem Holds.GX{α:Type}[GT α]{W:World}{V:List HP}{v:Value}{x:α}(h:Holds W W (V++[iG W]))(hv:Gk.yW (Hw W) v x):Holds W W (rd v x::(V++[iG W])):=
 h.DY λM hs g=>by
  have h1:=(g.sat V.length (iG W) (by simp)).1;exact⟨hv.mono h1,rfl⟩
theorem Holds.kept{E W w:World}{V:List HP}(h:Holds E w (V++[iG W]))(he:E=W):Below W.heap.size W w:=by
 subst he;obtain⟨M,hs,g⟩:=h;have h1:=(g.sat V.length (iG E) (by simp)).1;have h2:∀k o,E.heap[k]? =some o->w.heap[k]? =some o:=λk o ho=>g.im k o<|h1 k o ho
 refine⟨g.os,g.tape,g.out,?_,λk hk=>?_⟩
 ·by_cases h0:E.heap.size=0
  ·omega
  ·have h3:=h2 (E.heap.size - 1) _<|iS (by omega)
   have:=(Array.getElem?_eq_some_iff.1 h3).1;omega
 ·rw[iS hk];exact h2 k _<|iS hk
section
variable {H:Type}{enc:TypeId×Value->H}{P:Program}
theorem JR{f:Func}{s:ChangeSpec}{apart fresh handsOn again:Bool}{W W':World}{args:Array Value}{v:Value}{ds gs:List (DataW H)}{before pa pv:List MemPlace}
  (hW:DataW.Whole enc P f.params.toList s.vars apart W args.toList ds gs before)
  (hres:∀(b:Nat)(sp:Nat->Bool)(hd:Bool),DataW.TrodAll enc P W' b sp hd f.resultTypes.toList (v.resultList f.resultTypes.size) (s.fn H<|ds++gs).results [])
  (hargs:∀sp:Nat->Bool,(∀p∈before,sp p.block=true)->DataW.TrodAll enc P W' 0 sp true f.params.toList args.toList (s.fn H<|ds++gs).args pa)
  (hvars:∀sp:Nat->Bool,(∀p∈before,sp p.block=true)->DataW.TrodVars enc P W' sp s.vars (s.fn H<|ds++gs).vars pv)
  (hps:before=pa++pv) (hb:Below W.heap.size W W')
  (hok:∀(j:Nat)(t:TypeId)(r:Value),f.resultTypes[j]? =some t->(v.resultList f.resultTypes.size)[j]? =some r->Value.okWide P W' .any 0 t r):
  s.post enc P f apart fresh handsOn again W args v W':=by
 have hlt:∀p∈before,p.block<W.heap.size:=λp hp=>hW.lt p hp;have hold:∀p∈before,(λb=>decide<|b<W.heap.size) p.block=true:=λp hp=>by simpa using hlt p hp
 refine⟨ds,gs,before,[],pa,pv,hW,hres _ _ _,hargs _ hold,hvars _ hold,World.keptBut_mono (λp hp=>⟨hp,?_⟩)<|hb.frame (· ∈before),λ_=>?_⟩
 ·rw[hps,cR]at hp;exact Or.inr hp
 ·obtain⟨_,_,_,_,_,hz,hn⟩:=hW;refine⟨hok,_,_,([]++pa)++pv,⟨[]++pa,pv,trodAll_append (hargs _<|λ_ _=>rfl)<|hres _ _ _,hvars _<|λ_ _=>rfl,rfl,?_,?_⟩,?_⟩
  ·intro b off hp;have hin:MemPlace.cell b off∈before:=by rw[hps];simpa using hp
   rw[hb.frozen<|hlt _ hin];exact hz b off hin
  ·intro ha;have:=hn ha;rw[hps]at this;simpa using this
  ·intro p hp _;rw[hps];simpa using hp
theorem yP{W W':World}(hl:laidOutB P=true)(hb:Below W.heap.size W W'){sp:Nat->Bool}:∀{ts:List TypeId}{vs:List Value}{ds:List (DataW H)}{ps:List MemPlace},
  (∀t∈ts,P.readableRec t=true/\t<P.types.size)->DataW.TrodAll enc P W 0 (λ_=>true) true ts vs ds ps->(∀p∈ps,p.block<W.heap.size)->(∀p∈ps,sp p.block=true)->DataW.TrodAll enc P W' 0 sp true ts vs ds ps
 | [],_,_,_,_,h,_,_=>by
  obtain⟨rfl,rfl,rfl⟩:=trodAll_nil h;rfl
 |t::ts,_,_,_,ht,h,hlt,hsp=>by
  obtain⟨v,vs,d,ds,p,q,rfl,rfl,rfl,h1,h2⟩:=trodAll_cons h;refine⟨p,q,?_,yP hl hb (λt h=>ht t (by simp[h])) h2 (λx hx=>hlt x (by simp[hx]))<|λx hx=>hsp x (by simp[hx]),rfl⟩;exact WideElems.Trod_stays hl (ht t (by simp)).1 (ht t (by simp)).2 h1 (λx hx=>hb.same<|hlt x (by simp[hx]))<|λx hx=>hsp x (by simp[hx])
end
end Go.Gk
namespace Go.Gk
open Go IntKind
instance:Bk aI:=⟨λx=>bk x.X0+bk x.Y0+bk x.X1+bk x.Y1+1,λ_=>by omega⟩
theorem Mi(x:aI):bk x=bk x.X0+bk x.Y0+bk x.X1+bk x.Y1+1:=rfl
instance:Bk j6:=⟨λx=>bk x.X+bk x.Y+1,λ_=>by omega⟩
theorem KY(x:j6):bk x=bk x.X+bk x.Y+1:=rfl
instance:Bk bT:=⟨λx=>bk x.At+bk x.dW+bk x.cS+bk x.To+bk x.eP+1,λ_=>by omega⟩
theorem Mj(x:bT):bk x=bk x.At+bk x.dW+bk x.cS+bk x.To+bk x.eP+1:=rfl
instance:Bk cX:=⟨λx=>bk x.Part+bk x.dO+bk x.dJ+bk x.At+1,λ_=>by omega⟩
theorem I2(x:cX):bk x=bk x.Part+bk x.dO+bk x.dJ+bk x.At+1:=rfl
instance:Bk jr:=⟨λx=>bk x.aJ+bk x.cN+bk x.aQ+bk x.bM+1,λ_=>by omega⟩
theorem KZ(x:jr):bk x=bk x.aJ+bk x.cN+bk x.aQ+bk x.bM+1:=rfl
instance:Bk dO:=⟨λx=>bk x.Part+bk x.dO+1,λ_=>by omega⟩
theorem N2(x:dO):bk x=bk x.Part+bk x.dO+1:=rfl
instance:Bk Test:=⟨λx=>bk x.A+bk x.B+bk x.Joined+1,λ_=>by omega⟩
theorem Mk(x:Test):bk x=bk x.A+bk x.B+bk x.Joined+1:=rfl
instance:Bk dP:=⟨λx=>bk x.bT+bk x.Number+1,λ_=>by omega⟩
theorem N3(x:dP):bk x=bk x.bT+bk x.Number+1:=rfl
instance:Bk fo:=⟨λx=>bk x.Open+bk x.dP+bk x.A+bk x.B+1,λ_=>by omega⟩
theorem Ml(x:fo):bk x=bk x.Open+bk x.dP+bk x.A+bk x.B+1:=rfl
instance:Bk aA:=⟨λx=>bk x.Y0+bk x.Y1+bk x.Xs+1,λ_=>by omega⟩
instance:Bk aH:=⟨λx=>bk x.dJ+bk x.Set+bk x.iq+1,λ_=>by omega⟩
instance:Bk cK:=⟨λx=>bk x.k8+bk x.aQ+bk x.gS+1,λ_=>by omega⟩
instance:Bk aG:=⟨λx=>bk x.from_+bk x.to+1,λ_=>by omega⟩
instance:Bk aP:=⟨λx=>bk x.from_+bk x.to+bk x.jK+1,λ_=>by omega⟩
end Go.Gk
namespace Go.Gk
open Go IntKind Go.Sort
section
variable {α:Type}
theorem BQ{β:Type}(a:Array β){n:Nat}(h:a.size=n):a.extract 0 n=a:=by subst h;exact Array.extract_size
theorem N4{φ:α->α->Option Int}{l:List α}(cf:α->α->Int)(hφ:∀x∈l,∀y∈l,φ x y=some (cf x y))(h1:∀x∈l,¬cf x x<0)
  (h2:∀x∈l,∀y∈l,∀z∈l,cf x y<0->cf y z<0->cf x z<0) (h3:∀x∈l,∀y∈l,∀z∈l,¬cf x y<0->¬cf y z<0->¬cf x z<0):SWO (LH<|Gs φ l):=by
 have hm:∀i:Fin l.length,l[i]∈l:=λi=>cL i.isLt;have e:∀i j:Fin l.length,Gs φ l i j=cf l[i] l[j]:=λi j=>by unfold Gs;rw[hφ _ (hm i) _<|hm j];rfl
 refine⟨λx=>?_,λx y z=>?_,λx y z=>?_⟩
 ·simp only[LH,e,decide_eq_false_iff_not];exact h1 _<|hm _
 ·simp only[LH,e,decide_eq_true_iff];exact h2 _ (hm _) _ (hm _) _<|hm _
 ·simp only[LH,e,decide_eq_false_iff_not];exact h3 _ (hm _) _ (hm _) _<|hm _
theorem C2{φ:α->α->Option Int}{l:List α}(cf:α->α->Int)(hφ:∀x∈l,∀y∈l,φ x y=some (cf x y))(h1:∀x∈l,¬cf x x<0)
  (h2:∀x∈l,∀y∈l,∀z∈l,cf x y<0->cf y z<0->cf x z<0) (h3:∀x∈l,∀y∈l,∀z∈l,¬cf x y<0->¬cf y z<0->¬cf x z<0) (hl:l.length<4611686018427387904):
  ∃m,zP φ l=some m/\m.Perm l/\m.Pairwise (λx y=>¬cf y x<0):=by
 have hO:=N4 cf hφ h1 h2 h3;have hm:∀i:Fin l.length,l[i]∈l:=λi=>cL i.isLt;have hc:(∀i j:Fin l.length,∃c,φ l[i] l[j]=some c):=λi j=>⟨_,hφ _ (hm i) _<|hm j⟩;refine⟨IF φ l,by unfold zP;rw[aC ⟨⟨hc,hO⟩,hl⟩],?_⟩;unfold IF
 by_cases hn:0<l.length
 ·rw[dif_pos hn]
  letI inh:Inhabited (Fin l.length):=⟨⟨0,hn⟩⟩
  have hds:(Array.ofFn λi:Fin l.length=>i).size=l.length:=by simp
  obtain⟨hp,hs⟩:=pdq_sorts (LH<|Gs φ l) hO (Array.ofFn λi:Fin l.length=>i) 0 l.length (Lib.bitLen l.length) true true (cZ _) (by rw[hds];exact bZ _)<|Or.inl rfl
  show(List.map (λi=>l[i]) (pdq (LH<|Gs φ l) (Array.ofFn λi:Fin l.length=>i) 0 l.length (Lib.bitLen l.length) true true).toList).Perm l/\_;generalize pdq (LH<|Gs φ l) (Array.ofFn λi:Fin l.length=>i) 0 l.length (Lib.bitLen l.length) true true=d' at hp hs;obtain⟨hz,_,hpm⟩:=hp;have hz':d'.size=l.length:=hz.trans hds;rw[BQ d' hz',BQ _ hds]at hpm;have hof:(Array.ofFn λi:Fin l.length=>i).toList.map (λi=>l[i])=l:=by
   rw[Array.toList_ofFn,List.map_ofFn];exact List.ofFn_getElem
  refine⟨(hpm.map<|λi=>l[i]).trans<|List.Perm.of_eq hof,?_⟩;rw[List.pairwise_map,nF];intro i j hi hj hij;rw[Array.length_toList]at hi hj;have:=hs i j (cZ _) hij (by rw[<-hz'];exact hj);rw[getElem!_pos d' i hi,getElem!_pos d' j hj]at this;have hij2:=hφ _ (hm<|d'[j]) _<|hm<|d'[i]
  have hij3:Gs φ l d'[j] d'[i]=cf l[d'[j]] l[d'[i]]:=by unfold Gs;rw[hij2];rfl
  unfold LH at this;rw[decide_eq_false_iff_not,hij3]at this;exact this
 ·rw[dif_neg hn];have:l= []:=List.length_eq_zero_iff.1 (by omega);subst this;exact⟨List.Perm.refl _,kN⟩
theorem EJ{φ:α->α->Option Int}{x:α}(h:φ x x=some 0):zP φ [x]=some [x]:=by
 obtain⟨m,h1,h2,_⟩:=C2 (φ:=φ) (l:=[x]) (λ_ _=>0) (λa ha b hb=>by simp at ha hb;rw[ha,hb];exact h) (λ_ _=>by decide) (λ_ _ _ _ _ _ h=>by simp at h) (λ_ _ _ _ _ _ _ _=>by decide) (by simp);rw[h1,List.perm_singleton.1 h2]
theorem Eb{l:List Int}(h:l.Pairwise (λx y=>x<=y))(hl:l.length<4611686018427387904):xh l=some l:=by
 unfold xh;rw[aC hl,List.mergeSort_of_pairwise (by simpa using h)]
end
end Go.Gk
namespace Go.Gk
open Go IntKind
def qd(l:List Int)(x:Int):Nat:=l.countP<|λa=>decide<|a<=x
def qG(l:List Int)(x:Int):Bool:=qd l x % 2==1
def kf(l:List Int):Prop:=l.Pairwise (· < ·)
theorem Fz(x:Int):qd [] x=0:=rfl
theorem pr(a:Int)(l:List Int)(x:Int):qd (a::l) x=(if a<=x then 1 else 0)+qd l x:=by
 unfold qd;rw[List.countP_cons]
 by_cases h:a<=x <;> simp[h];omega
theorem C3(l m:List Int)(x:Int):qd (l++m) x=qd l x+qd m x:=List.countP_append
theorem I4{l:List Int}{x:Int}(h:∀a∈l,a<=x):qd l x=l.length:=by
 unfold qd;rw[List.countP_eq_length];intro a ha;simpa using h a ha
theorem C4{l:List Int}{x:Int}(h:∀a∈l,x<a):qd l x=0:=by
 unfold qd;rw[List.countP_eq_zero];intro a ha;have:=h a ha;simp;omega
theorem Ap{l:List Int}{x:Int}:qG l x=true↔qd l x % 2=1:=by unfold qG;simp
theorem Aq{l:List Int}{x:Int}(h:∀a∈l,x<a):qG l x=false:=by unfold qG;rw[C4 h];rfl
theorem kf.head{a:Int}{l:List Int}(h:kf (a::l)):∀b∈l,a<b:=(py.1 h).1
theorem kf.tail{a:Int}{l:List Int}(h:kf (a::l)):kf l:=(py.1 h).2
theorem Ar{a:Int}{l:List Int}(h:kf (a::l)):qG (a::l) a=true:=by
 rw[Ap,pr,aC<|Int.le_refl _,C4 h.head]
theorem C5:∀{l m:List Int},kf l->kf m->(∀x,qG l x=qG m x)->l=m
 | [],[],_,_,_=>rfl
 | [],b::m,_,hm,h=>by have:=h b;rw[Ar hm]at this;cases this
 |a::l,[],hl,_,h=>by have:=h a;rw[Ar hl]at this;cases this
 |a::l,b::m,hl,hm,h=>by
  have hab:a=b:=by
   rcases Int.lt_trichotomy a b with h1|h1|h1
   ·have h2:=h a
    rw[Ar hl,Aq (l:=b::m) (λc hc=>by
     rcases dI.1 hc with rfl|hc
     ·exact h1
     ·have:=hm.head c hc;omega)]at h2
    cases h2
   ·exact h1
   ·have h2:=h b
    rw[Ar hm,Aq (l:=a::l) (λc hc=>by
     rcases dI.1 hc with rfl|hc
     ·exact h1
     ·have:=hl.head c hc;omega)]at h2
    cases h2
  subst hab;rw[C5 hl.tail hm.tail<|λx=>?_]
  by_cases hx:a<=x
  ·have h2:=h x;unfold qG at h2 ⊢;rw[pr,pr,aC hx]at h2;rw[dY]at h2 ⊢;simp only[beq_iff_eq]at h2 ⊢;omega
  ·rw[Aq (λc hc=>by have:=hl.head c hc;omega),Aq (λc hc=>by have:=hm.head c hc;omega)]
theorem As{l:List Int}{a b:Int}(hl:∀c∈l,c<a)(he:l.length % 2=0)(hab:a<b)(x:Int):qG (l++[a,b]) x=(qG l x||(decide (a<=x)&&decide (x<b))):=by
 rw[dY,dU,bX,bJ,bJ,Ap,Ap,C3,pr,pr,Fz]
 by_cases h1:a<=x
 ·have h2:qd l x=l.length:=I4 λc hc=>by have:=hl c hc;omega
  rw[h2,aC h1]
  by_cases h3:b<=x
  ·rw[aC h3];omega
  ·rw[aD h3];omega
 ·rw[aD h1,aD (by omega)];omega
theorem K2{l:List Int}{s e a b:Int}(hl:∀c∈l,c<s)(he:l.length % 2=0)(hs:s<e)(h1:s<=a)(h2:a<=e)(hab:a<b)(x:Int):qG (l++[s,max e b]) x=(qG (l++[s,e]) x||(decide (a<=x)&&decide (x<b))):=by
 rw[As hl he (by omega),As hl he hs];rw[dY];simp only[dU,bX,bJ];constructor
 ·rintro(h|h)
  ·exact .inl<|.inl h
  ·by_cases hx:x<e
   ·exact .inl<|.inr ⟨h.1,hx⟩
   ·exact .inr ⟨by omega,by omega⟩
 ·rintro((h|h)|h)
  ·exact .inl h
  ·exact .inr ⟨h.1,by omega⟩
  ·exact .inr ⟨by omega,by omega⟩
theorem kf.snoc{l:List Int}{a b:Int}(h:kf l)(hl:∀c∈l,c<a)(hab:a<b):kf (l++[a,b]):=by
 unfold kf;rw[oz];refine⟨h,by simp[hab],λc hc d hd=>?_⟩;have:=hl c hc;simp at hd
 rcases hd with rfl|rfl <;> omega
structure Bd where
 y0:Int
 y1:Int
 xs:List Int
def rowAt:List Bd->Int->List Int
 | [],_=>[]
 |b::s,y=>if b.y0<=y/\y<b.y1 then b.xs else rowAt s y
theorem oe(b:Bd)(s:List Bd)(y:Int):rowAt (b::s) y=if b.y0<=y/\y<b.y1 then b.xs else rowAt s y:=rfl
structure fJ (s:List Bd):Prop where
 each:∀b∈s,b.y0<b.y1/\b.xs≠[]/\kf b.xs/\b.xs.length % 2=0
 ord:s.Pairwise (λb c=>b.y1<=c.y0/\(b.y1=c.y0->b.xs≠c.xs))
theorem fJ.nil:fJ []:=⟨λb h=>by simp at h,kN⟩
theorem fJ.tail{b:Bd}{s:List Bd}(h:fJ (b::s)):fJ s:=⟨λc hc=>h.each c<|iT _ hc,(py.1 h.ord).2⟩
theorem mN{s:List Bd}{y:Int}(h:∀b∈s,y<b.y0\/b.y1<=y):rowAt s y= []:=by
 induction s with
 |nil=>rfl
 |cons b s ih=>
  unfold rowAt;have:=h b (by simp);rw[aD (by omega)];exact ih λc hc=>h c<|iT _ hc
theorem sM(s t:List Bd)(y:Int):rowAt (s++t) y=if(∃b∈s,b.y0<=y/\y<b.y1)then rowAt s y else rowAt t y:=by
 induction s with
 |nil=>simp
 |cons b s ih=>
  rw[List.cons_append,oe,oe]
  by_cases h:b.y0<=y/\y<b.y1
  ·rw[aC h,aC ⟨b,by simp,h⟩,aC h]
  ·rw[aD h,ih]
   by_cases h2:∃c∈s,c.y0<=y/\y<c.y1
   ·obtain⟨c,hc,hc2⟩:=h2;rw[aC ⟨c,hc,hc2⟩,aC ⟨c,iT _ hc,hc2⟩,aD h]
   ·rw[aD h2,aD (show ¬∃c∈b::s,c.y0<=y/\y<c.y1 from ?_)];rintro⟨c,hc,hc2⟩
    rcases dI.1 hc with rfl|hc
    ·exact h hc2
    ·exact h2 ⟨c,hc,hc2⟩
theorem fJ.og{b:Bd}{s:List Bd}{y:Int}(h0:b.y0<=y)(h1:y<b.y1):rowAt (b::s) y=b.xs:=by unfold rowAt;rw[aC ⟨h0,h1⟩]
theorem fJ.C6{b:Bd}{s:List Bd}(h:fJ (b::s)):∀c∈s,b.y1<=c.y0:=λc hc=>((py.1 h.ord).1 c hc).1
theorem fJ.yd{b:Bd}{s:List Bd}(h:fJ (b::s)){y:Int}(hy:y<b.y0):rowAt (b::s) y= []:=mN λc hc=>by
 rcases dI.1 hc with rfl|hc
 ·exact .inl hy
 ·have:=h.C6 c hc;have:=(h.each b (by simp)).1;exact .inl (by omega)
theorem fJ.I5{b:Bd}{s:List Bd}(h:fJ (b::s)):rowAt (b::s) b.y1≠b.xs:=by
 rw[oe,aD (by omega)]
 cases s with
 |nil=>exact λe=>(h.each b (by simp)).2.1 e.symm
 |cons c s=>
  have h1:=(py.1 h.ord).1 c (by simp)
  by_cases e:b.y1=c.y0
  ·rw[fJ.og (by omega) (by have:=(h.tail.each c (by simp)).1;omega)];exact λh=>h1.2 e h.symm
  ·rw[h.tail.yd (by have:=h1.1;omega)];exact λe=>(h.each b (by simp)).2.1 e.symm
theorem C7:∀{s t:List Bd},fJ s->fJ t->(∀y,rowAt s y=rowAt t y)->s=t
 | [],[],_,_,_=>rfl
 | [],c::t,_,ht,h=>by
  have hc:=ht.each c (by simp);have:=h c.y0;rw[fJ.og (Int.le_refl _) hc.1]at this;exact absurd this.symm hc.2.1
 |b::s,[],hs,_,h=>by
  have hb:=hs.each b (by simp);have:=h b.y0;rw[fJ.og (Int.le_refl _) hb.1]at this;exact absurd this hb.2.1
 |b::s,c::t,hs,ht,h=>by
  have hb:=hs.each b (by simp);have hc:=ht.each c (by simp);have e0:b.y0=c.y0:=by
   rcases Int.lt_trichotomy b.y0 c.y0 with h1|h1|h1
   ·have h2:=h b.y0;rw[fJ.og (Int.le_refl _) hb.1,ht.yd h1]at h2;exact absurd h2 hb.2.1
   ·exact h1
   ·have h2:=h c.y0;rw[fJ.og (Int.le_refl _) hc.1,hs.yd h1]at h2;exact absurd h2.symm hc.2.1
  have ex:b.xs=c.xs:=by
   have h2:=h b.y0;rw[fJ.og (Int.le_refl _) hb.1,fJ.og (by omega) (by omega)]at h2;exact h2
  have e1:b.y1=c.y1:=by
   rcases Int.lt_trichotomy b.y1 c.y1 with h1|h1|h1
   ·have h2:=h b.y1;rw[fJ.og (b:=c) (by omega) h1]at h2;exact absurd (h2.trans ex.symm) hs.I5
   ·exact h1
   ·have h2:=h c.y1;rw[fJ.og (b:=b) (by omega) h1]at h2;exact absurd (h2.symm.trans ex) ht.I5
  have ebc:b=c:=by cases b;cases c;simp_all
  subst ebc;rw[C7 hs.tail ht.tail<|λy=>?_]
  by_cases hy:b.y1<=y
  ·have h2:=h y;unfold rowAt at h2;rw[aD (by omega),aD (by omega)]at h2;exact h2
  ·rw[mN (λd hd=>by have:=hs.C6 d hd;exact .inl (by omega)),mN (λd hd=>by have:=ht.C6 d hd;exact .inl (by omega))]
def w9(s:List Bd)(x y:Int):Bool:=qG (rowAt s y) x
theorem EK{s:List Bd}(h:∀b∈s,kf b.xs)(y:Int):kf (rowAt s y):=by
 induction s with
 |nil=>exact kN
 |cons b s ih=>
  unfold rowAt;split
  ·exact h b (by simp)
  ·exact ih λc hc=>h c<|iT _ hc
theorem wm{s t:List Bd}(hs:fJ s)(ht:fJ t)(h:∀x y,w9 s x y=w9 t x y):s=t:=
 C7 hs ht λy=>C5 (EK (λb hb=>(hs.each b hb).2.2.1) y) (EK (λb hb=>(ht.each b hb).2.2.1) y) λx=>h x y
def kC(s:List Bd)(b:Bd):List Bd:=
 if b.xs= []\/b.y1<=b.y0 then s else
  match s.getLast? with
  |some c=>if c.y1=b.y0/\c.xs=b.xs then s.dropLast++[⟨c.y0,b.y1,c.xs⟩]else s++[b]
  |none=>[b]
theorem tC{α:Type}{s:List α}{c:α}(h:s.getLast? =some c):s=s.dropLast++[c]:=by
 have hne:s≠[]:=λe=>by rw[e]at h;cases h
 rw[List.getLast?_eq_some_getLast hne]at h;injection h with h
 rw[<-h];exact(List.dropLast_concat_getLast hne).symm
theorem ye{s:List Bd}{b:Bd}(hs:∀c∈s,c.y1<=b.y0)(hg:∀c∈s,c.y0<c.y1)(hb:b.y1<=b.y0->b.y1=b.y0)(y:Int):rowAt (kC s b) y=if b.y0<=y/\y<b.y1 then b.xs else rowAt s y:=by
 have key:∀(s:List Bd)(c:Bd),(∀d∈s,d.y1<=c.y0)->rowAt (s++[c]) y=if c.y0<=y/\y<c.y1 then c.xs else rowAt s y:=by
  intro s c h;rw[sM]
  by_cases h1:c.y0<=y/\y<c.y1
  ·rw[aC h1,aD (by rintro⟨d,hd,hd2⟩;have:=h d hd;omega),fJ.og h1.1 h1.2]
  ·rw[aD h1]
   by_cases h2:∃d∈s,d.y0<=y/\y<d.y1
   ·rw[aC h2]
   ·rw[aD h2,oe,aD h1];refine(show rowAt [] y=_ from(mN (s:=s) λd hd=>?_).symm)
    by_cases h3:d.y0<=y
    ·exact .inr (by have:¬(d.y0<=y/\y<d.y1):=λh4=>h2 ⟨d,hd,h4⟩;omega)
    ·exact .inl (by omega)
 unfold kC
 by_cases h0:b.xs= []\/b.y1<=b.y0
 ·rw[aC h0]
  by_cases h1:b.y0<=y/\y<b.y1
  ·rw[aC h1]
   rcases h0 with h0|h0
   ·rw[h0];exact mN λc hc=> .inr (by have:=hs c hc;omega)
   ·omega
  ·rw[aD h1]
 ·rw[aD h0]
  cases hl:s.getLast? with
  |none=>
   have:s= []:=by simpa using hl
   subst this;rfl
  |some c=>
   dsimp only;have hsp:=tC hl;have hcm:c∈s:=by rw[hsp];simp
   by_cases h1:c.y1=b.y0/\c.xs=b.xs
   ·rw[aC h1];have hd:∀d∈s.dropLast,d.y1<=c.y0\/True:=λ_ _=> .inr trivial;rw[sM];have hrow:rowAt s y=if(∃d∈s.dropLast,d.y0<=y/\y<d.y1)then rowAt s.dropLast y else(if c.y0<=y/\y<c.y1 then c.xs else []):=by
     conv=>lhs;rw[hsp]
     rw[sM];rfl
    rw[hrow];have hcg:=hg c hcm
    by_cases h2:∃d∈s.dropLast,d.y0<=y/\y<d.y1
    ·obtain⟨d,hd,hd2⟩:=h2;have:=hs d<|List.dropLast_subset _ hd
     have he:∃d∈s.dropLast,d.y0<=y/\y<d.y1:=⟨d,hd,hd2⟩;rw[aC he,aC he,aD (by omega)]
    ·rw[aD h2,aD h2];show(if c.y0<=y/\y<b.y1 then c.xs else [])=_
     by_cases h3:b.y0<=y/\y<b.y1
     ·rw[aC h3,aC ⟨by omega,h3.2⟩,h1.2]
     ·rw[aD h3]
      by_cases h4:c.y0<=y/\y<c.y1
      ·rw[aC h4,aC ⟨h4.1,by omega⟩]
      ·rw[aD h4,aD (by omega)]
   ·rw[aD h1];exact key s b hs
theorem yf{s:List Bd}{b:Bd}(h:fJ s)(hs:∀c∈s,c.y1<=b.y0)(hb:kf b.xs)(he:b.xs.length % 2=0):fJ (kC s b):=by
 unfold kC
 by_cases h0:b.xs= []\/b.y1<=b.y0
 ·rw[aC h0];exact h
 ·rw[aD h0];have hbg:b.y0<b.y1/\b.xs≠[]/\kf b.xs/\b.xs.length % 2=0:=⟨by omega,λe=>h0<|.inl e,hb,he⟩
  cases hl:s.getLast? with
  |none=>exact⟨λc hc=>by simp at hc;subst hc;exact hbg,List.pairwise_singleton _ _⟩
  |some c=>
   dsimp only;have hsp:=tC hl;have hcm:c∈s:=by rw[hsp];simp
   have hc:=h.each c hcm;have hord:=h.ord;rw[hsp,oz]at hord
   by_cases h1:c.y1=b.y0/\c.xs=b.xs
   ·rw[aC h1];refine⟨λd hd=>?_,?_⟩
    ·rcases cR.1 hd with hd|hd
     ·exact h.each d<|List.dropLast_subset _ hd
     ·simp at hd;subst hd;exact⟨by show c.y0<b.y1;omega,hc.2⟩
    ·rw[oz];refine⟨hord.1,List.pairwise_singleton _ _,λd hd e he=>?_⟩;simp at he;subst he;exact hord.2.2 d hd c (by simp)
   ·rw[aD h1];refine⟨λd hd=>?_,?_⟩
    ·rcases cR.1 hd with hd|hd
     ·exact h.each d hd
     ·simp at hd;subst hd;exact hbg
    ·rw[oz];refine⟨h.ord,List.pairwise_singleton _ _,λd hd e he=>?_⟩;simp at he;subst he;refine⟨hs d hd,λe1 e2=>?_⟩;rw[hsp]at hd
     rcases cR.1 hd with hd|hd
     ·have h2:=(hord.2.2 d hd c (by simp)).1;have:=hs c hcm;omega
     ·simp at hd;subst hd;exact h1 ⟨e1,e2⟩
theorem yg{s:List Bd}{b:Bd}(hs:∀c∈s,c.y1<=b.y0)(hb:b.y0<=b.y1):∀c∈kC s b,c.y1<=b.y1:=by
 intro c hc;unfold kC at hc;split at hc
 ·have:=hs c hc;omega
 ·split at hc
  ·split at hc
   ·rcases cR.1 hc with hc|hc
    ·have:=hs c<|List.dropLast_subset _ hc;omega
    ·simp at hc;subst hc;exact Int.le_refl _
   ·rcases cR.1 hc with hc|hc
    ·have:=hs c hc;omega
    ·simp at hc;subst hc;exact Int.le_refl _
  ·simp at hc;subst hc;exact Int.le_refl _
section
variable {N:Nat}
def cJ(b:aA):Bd:=⟨b.Y0,b.Y1,b.Xs⟩
def small(a:Int):Prop:= -1099511627776<=a/\a<=1099511627776
structure DV (r:aI):Prop where
 x:r.X0<r.X1
 y:r.Y0<r.Y1
 s1:small r.X0
 s2:small r.X1
 s3:small r.Y0
 s4:small r.Y1
def H6(l:List aI)(x:Int):Bool:=l.any<|λr=>decide (r.X0<=x)&&decide (x<r.X1)
def uL(l:List aI)(x y:Int):Bool:=l.any<|λr=>(decide (r.X0<=x)&&decide (x<r.X1))&&(decide (r.Y0<=y)&&decide (y<r.Y1))
theorem C8{l:List aI}{x:Int}:H6 l x=true↔∃r∈l,r.X0<=x/\x<r.X1:=by unfold H6;simp[kq]
theorem jG{l:List aI}{x y:Int}:uL l x y=true↔∃r∈l,(r.X0<=x/\x<r.X1)/\r.Y0<=y/\y<r.Y1:=by unfold uL;simp[kq]
theorem wrap_small{a b:Int}(ha:small a)(hb:small b):wrap .i64 (a - b)=a - b:=by unfold small at *;exact fw (by omega) (by omega)
theorem C9{n:Nat}(h:0<n)(hn:n<=4611686018427387904):wrap .i64 (((n:Nat):Int) - 1)=((n - 1:Nat):Int):=jg h hn
structure RJ (out:List Int) (m:List aI) (k:Nat):Prop where
 row:(k=0/\out= [])\/∃A s e,out=A++[s,e]/\kf A/\(∀c∈A,c<s)/\A.length % 2=0/\s<e/\∃j r,j<k/\m[j]? =some r/\s=r.X0
 qG:∀x,qG out x=H6 (m.take k) x
 len:out.length<=2*k
 mem:∀c∈out,∃r∈m,c=r.X0\/c=r.X1
theorem Bg(l:List aI)(r:aI)(x:Int):H6 (l++[r]) x=(H6 l x||(decide (r.X0<=x)&&decide (x<r.X1))):=by unfold H6;rw[List.any_append];simp
theorem FA{l:List aI}(hl:l.length<=268435456)(hok:∀r∈l,DV r):∃row l',kG N l=some (row,l')/\l'.Perm l/\kf row/\row.length % 2=0/\(∀x,qG row x=H6 l x)/\row.length<=2*l.length/\∀c∈row,∃r∈l,c=r.X0\/c=r.X1:=by
 unfold kG
 obtain⟨m,h1,h2,h3⟩:=C2 (φ:=iX N) (l:=l) (λa b=>a.X0 - b.X0) (λa ha b hb=>by
  unfold iX;rw[wrap_small (hok a ha).s1 (hok b hb).s1]) (λa _=>by omega) (λa _ b _ c _ h1 h2=>by omega) (λa _ b _ c _ h1 h2=>by omega) (by omega)
 have hml:m.length=l.length:=h2.length_eq;have hmok:∀r∈m,DV r:=λr hr=>hok r<|h2.subset hr
 rw[h1,aB];obtain⟨out,a1,a2⟩:=Ct (m:=m.length) (s:=([]:List Int)) (body:=λ(k32:Nat)(s33:List Int)=>((idx m (k32:Int)).bind λx79=>(bif decide (wrap .i64 ((s33.length:Int) - 1)>=0)then((idx s33<|wrap .i64<|(s33.length:Int) - 1).bind λx86=>some<|decide<|x79.X0<=x86)else some false).bind λs84=>(bif s84 then((idx s33<|wrap .i64<|(s33.length:Int) - 1).bind λx94=>(idx s33<|wrap .i64<|(s33.length:Int) - 1).bind λx95=>some<|s33.set (Int.toNat<|wrap .i64<|(s33.length:Int) - 1) (if x94<x79.X1 then x79.X1 else x94))else((app 8 s33 ([x79.X0,x79.X1]:List Int)).bind λx97=>some x97)).bind λs92=>some s92:Option (List Int)))
  (λk out=>RJ out m k) (by omega) ⟨.inl ⟨rfl,rfl⟩,λx=>rfl,by simp,λc hc=>by cases hc⟩ (λk out hk⟨i1,i2,i3,i4⟩=>by
   have hx:m[k]? =some m[k]:=aO hk;have hr:=hmok _<|cL hk
   rw[cI hx,aB];have hts:m.take (k+1)=m.take k++[m[k]]:=eI hk
   rcases i1 with⟨rfl,rfl⟩|⟨A,s,e,rfl,hA,hAs,hAe,hse,j,r,hj,hjr,hsr⟩
   ·rw[show decide (wrap .i64 (((([]:List Int).length:Nat):Int) - 1)>=0)=false by decide,aM,aB,aM,lS (by simp),aB,aB];refine⟨_,rfl, .inr ⟨[],_,_,rfl,kN,λc hc=>by simp at hc,rfl,hr.x,0,m[0],by omega,hx,rfl⟩,λx=>?_,by simp,λc hc=>⟨m[0],cL hk,by simpa using hc⟩⟩;rw[hts,Bg,<-i2 x];exact As (l:=[]) (λc hc=>by simp at hc) rfl hr.x x
   ·have hlen:(A++[s,e]).length=A.length+2:=by simp
    have hwp:wrap .i64 ((((A++[s,e]).length:Nat):Int) - 1)=((A.length+1:Nat):Int):=by rw[C9 (by omega) (by omega),hlen];rfl
    have hlast:(A++[s,e])[A.length+1]? =some e:=by rw[ir (by omega)];simp
    have hs:s<=m[k].X0:=by
     have:=nF.1 h3 j k (by have:=(bD.1 hjr).1;omega) hk hj;rw[hsr,<-(bD.1 hjr).2];omega
    rw[hwp,bL (by omega),aK,cI hlast,aB,aB]
    by_cases hc:m[k].X0<=e
    ·rw[bL hc,aK,aB,aB,aB,cA];have oA:(A++[s,e]).set (A.length+1) (if e<m[k].X1 then m[k].X1 else e)=A++[s,max e m[k].X1]:=by
      rw[List.set_append_right _ _ (by omega)];have:A.length+1 - A.length=1:=by omega
      rw[this,Int.max_def];simp only[List.set_cons_succ,List.set_cons_zero];congr 2;split <;> split <;> simp <;> omega
     rw[oA]
     refine⟨_,rfl, .inr ⟨A,s,_,rfl,hA,hAs,hAe,by omega,j,r,by omega,hjr,hsr⟩,λx=>?_,by simp at i3 ⊢;omega,λc hc=>by
      rcases cR.1 hc with h|h
      ·exact i4 c<|List.mem_append_left _ h
      ·simp at h
       rcases h with h|h
       ·exact i4 c (by simp[h])
       ·rw[Int.max_def]at h;split at h
        ·exact⟨_,cL hk, .inr h⟩
        ·exact i4 c (by simp[h])⟩
     rw[hts,Bg,<-i2 x];exact K2 hAs hAe hse hs hc hr.x x
    ·rw[bG hc,aM,lS (by rw[hlen];simp;omega),aB,aB];have hall:∀c∈A++[s,e],c<m[k].X0:=λc hc'=>by
      rcases cR.1 hc' with h|h
      ·have:=hAs c h;omega
      ·simp at h;omega
     refine⟨_,rfl, .inr ⟨A++[s,e],_,_,rfl,hA.snoc hAs hse,hall,by rw[hlen];omega,hr.x,k,m[k],by omega,hx,rfl⟩,λx=>?_,by simp at i3 ⊢;omega,λc hc=>by
      rcases cR.1 hc with h|h
      ·exact i4 c h
      ·exact⟨m[k],cL hk,by simpa using h⟩⟩
     rw[hts,Bg,<-i2 x]
     exact As hall (by rw[hlen];omega) hr.x x)
 rw[a1,aB];refine⟨out,m,rfl,h2,?_,?_,λx=>?_,by rw[<-hml];exact a2.len,λc hc=>by obtain⟨r,hr,h⟩:=a2.mem c hc;exact⟨r,h2.subset hr,h⟩⟩
 ·rcases a2.row with⟨_,h⟩|⟨A,s,e,rfl,hA,hAs,hAe,hse,_⟩
  ·rw[h];exact kN
  ·exact hA.snoc hAs hse
 ·rcases a2.row with⟨_,h⟩|⟨A,s,e,rfl,hA,hAs,hAe,hse,_⟩
  ·rw[h];rfl
  ·simp;omega
 ·rw[a2.qG x,eK,dY,C8,C8];constructor
  ·rintro⟨r,hr,h⟩;exact⟨r,h2.subset hr,h⟩
  ·rintro⟨r,hr,h⟩;exact⟨r,h2.symm.subset hr,h⟩
theorem JT{l m:List Int}(hl:l.length<=4611686018427387904):oF N l m=some (decide<|l=m):=EH hl
theorem I6{s:List aA}{b:aA}(hs:s.length<=1048576000)(hx:∀c∈s,c.Xs.length<=1048576000):∃s',kg N s b=some s'/\s'.map cJ=kC (s.map cJ) (cJ b):=by
 unfold kg kC
 by_cases h0:b.Xs= []\/b.Y1<=b.Y0
 ·have e:((((b.Xs.length:Nat):Int)==0)||decide (b.Y1<=b.Y0))=true:=by
   rw[dU]
   rcases h0 with h|h
   ·left;rw[h];rfl
   ·right;exact bL h
  rw[e,aK,aC (show(cJ b).xs= []\/(cJ b).y1<=(cJ b).y0 from h0)];exact⟨s,rfl,rfl⟩
 ·have e:((((b.Xs.length:Nat):Int)==0)||decide (b.Y1<=b.Y0))=false:=by
   rw[Bool.or_eq_false_iff];constructor
   ·rw[beq_eq_false_iff_ne];intro h;exact h0<|.inl<|List.eq_nil_of_length_eq_zero (by omega)
   ·exact bG λh=>h0<|.inr h
  rw[e,aM,aD (show ¬((cJ b).xs= []\/(cJ b).y1<=(cJ b).y0)from h0)]
  rcases List.eq_nil_or_concat s with rfl|⟨A,c,hA⟩
  ·rw[show decide (wrap .i64 (((([]:List aA).length:Nat):Int) - 1)>=0)=false by decide,aM,aB,aM,lS (by simp),aB];exact⟨_,rfl,rfl⟩
  ·rw[List.concat_eq_append]at hA;subst hA;have hlen:(A++[c]).length=A.length+1:=by simp
   have hwp:wrap .i64 ((((A++[c]).length:Nat):Int) - 1)=((A.length:Nat):Int):=by rw[C9 (by omega) (by omega),hlen];rfl
   have hlast:(A++[c])[A.length]? =some c:=by simp
   rw[hwp,bL (by omega),aK,cI hlast,aB,aB,JT (by have:=hx c (by simp);omega),aB,aB,cA,lS (by rw[hlen];simp;omega),aB];have hl2:((A++[c]).map cJ).getLast? =some (cJ c):=by simp
   have hd2:((A++[c]).map cJ).dropLast=A.map cJ:=by simp
   rw[hl2,hd2];dsimp only
   by_cases h1:c.Y1=b.Y0/\c.Xs=b.Xs
   ·rw[aC (show(cJ c).y1=(cJ b).y0/\(cJ c).xs=(cJ b).xs from h1),show(c.Y1==b.Y0)=true by rw[h1.1];simp,aK,bL h1.2,aB,aK];refine⟨_,rfl,?_⟩;rw[List.set_append_right _ _<|bZ _,Nat.sub_self];simp[cJ]
   ·rw[aD (show ¬((cJ c).y1=(cJ b).y0/\(cJ c).xs=(cJ b).xs)from h1)];have e2:(bif c.Y1==b.Y0 then some (decide<|c.Xs=b.Xs)else some false)=some false:=by
     by_cases h2:c.Y1=b.Y0
     ·rw[show(c.Y1==b.Y0)=true by rw[h2];simp,aK,bG<|λh=>h1 ⟨h2,h⟩]
     ·rw[show(c.Y1==b.Y0)=false by simpa using h2,aM]
    rw[e2,aB,aM];exact⟨_,rfl,by simp⟩
end
def dR(l:List (Int×Int)):List Int:=l.flatMap λs=>[s.1,s.2]
def j3(l:List (Int×Int))(x:Int):Bool:=l.any λs=>decide (s.1<=x)&&decide (x<s.2)
theorem j4(s:Int×Int)(l:List (Int×Int)):dR (s::l)=s.1::s.2::dR l:=rfl
theorem wo(l m:List (Int×Int)):dR (l++m)=dR l++dR m:=List.flatMap_append
theorem kZ(l:List (Int×Int)):(dR l).length=2*l.length:=by
 induction l with
 |nil=>rfl
 |cons s l ih=>rw[j4,dX,dX,dX,ih];omega
theorem EL(s:Int×Int)(l:List (Int×Int))(x:Int):j3 (s::l) x=((decide (s.1<=x)&&decide (x<s.2))||j3 l x):=rfl
theorem BR(l m:List (Int×Int))(x:Int):j3 (l++m) x=(j3 l x||j3 m x):=List.any_append
theorem vr{l:List (Int×Int)}{x:Int}:j3 l x=true↔∃s∈l,s.1<=x/\x<s.2:=by
 unfold j3;simp
theorem JU{a b:Int}{m:List Int}(h:kf (a::b::m))(x:Int):qG (a::b::m) x=((decide (a<=x)&&decide (x<b))||qG m x):=by
 have hab:a<b:=h.head b (by simp);have hm:=h.tail.head;rw[dY,dU,bX,bJ,bJ,Ap,Ap,pr,pr]
 by_cases h1:a<=x
 ·rw[aC h1]
  by_cases h2:b<=x
  ·rw[aC h2];omega
  ·rw[aD h2,C4 (λc hc=>by have:=hm c hc;omega)];omega
 ·rw[aD h1,aD (by omega)];omega
theorem vt:∀{l:List (Int×Int)},kf (dR l)->∀x,qG (dR l) x=j3 l x
 | [],_,x=>rfl
 |s::l,h,x=>by
  rw[j4]at h ⊢;rw[JU h,EL,vt h.tail.tail]
theorem EM:∀{l m:List (Int×Int)},dR l=dR m->l=m
 | [],[],_=>rfl
 | [],s::m,h=>by cases h
 |s::l,[],h=>by cases h
 |(a,b)::l,(c,d)::m,h=>by
  rw[j4,j4]at h;injection h with h1 h2
  injection h2 with h2 h3
  simp only at h1 h2;rw[h1,h2,EM h3]
theorem Bh{l:List (Int×Int)}{c:Int}(h:c∈dR l):∃s∈l,c=s.1\/c=s.2:=by
 obtain⟨s,hs,hc⟩:=List.mem_flatMap.1 h;exact⟨s,hs,by simpa using hc⟩
theorem xI{l:List (Int×Int)}(h:kf (dR l)):∀s∈l,s.1<s.2:=by
 induction l with
 |nil=>intro s hs;cases hs
 |cons a l ih=>
  rw[j4]at h;intro s hs
  rcases dI.1 hs with rfl|hs
  ·exact h.head _ (by simp)
  ·exact ih h.tail.tail s hs
theorem vu{l m:List (Int×Int)}:kf (dR<|l++m)↔kf (dR l)/\kf (dR m)/\∀s∈l,∀t∈m,s.2<t.1:=by
 rw[wo];unfold kf;rw[oz];constructor
 ·rintro⟨h1,h2,h3⟩;exact⟨h1,h2,λs hs t ht=>h3 s.2 (List.mem_flatMap.2 ⟨s,hs,by simp⟩) t.1<|List.mem_flatMap.2 ⟨t,ht,by simp⟩⟩
 ·rintro⟨h1,h2,h3⟩;refine⟨h1,h2,λa ha b hb=>?_⟩;obtain⟨s,hs,ha⟩:=Bh ha;obtain⟨t,ht,hb⟩:=Bh hb;have h4:=h3 s hs t ht;have h5:=xI (l:=l) h1 s hs;have h6:=xI (l:=m) h2 t ht
  rcases ha with rfl|rfl <;> rcases hb with rfl|rfl <;> omega
def lE(s:Int×Int):List (Int×Int)->(Int×Int)×List (Int×Int)
 | []=>(s,[])
 |a::l=>if a.1<=s.2 then lE (min s.1 a.1,max s.2 a.2) l else(s,a::l)
def mO(l:List (Int×Int))(s:Int×Int):List (Int×Int):=
 l.takeWhile (λa=>decide<|a.2<s.1)++(lE s<|l.dropWhile λa=>decide<|a.2<s.1).1::(lE s<|l.dropWhile λa=>decide<|a.2<s.1).2
theorem BS:∀(l:List (Int×Int))(s:Int×Int),s.1<s.2->kf (dR l)->(∀a∈l,s.1<=a.2)->
  (lE s l).1.1<(lE s l).1.2/\((lE s l).1.1=s.1\/∃a∈l,(lE s l).1.1=a.1)/\kf (dR (lE s l).2)/\(∀t∈(lE s l).2,(lE s l).1.2<t.1)/\
  ∀x,j3 ((lE s l).1::(lE s l).2) x=((decide (s.1<=x)&&decide (x<s.2))||j3 l x)
 | [],s,h,_,_=>⟨h, .inl rfl,kN,λt(ht:t∈([]:List (Int×Int)))=>(by cases ht),λx=>rfl⟩
 |a::l,s,h,hi,hs=>by
  have hsp:=xI hi;have ha:=hsp a (by simp);have hi':=hi;rw[j4]at hi';have hsa:=hs a (by simp);unfold lE
  by_cases hc:a.1<=s.2
  ·rw[aC hc];have hlt:(min s.1 a.1,max s.2 a.2).1<(min s.1 a.1,max s.2 a.2).2:=by dsimp only;omega
   obtain⟨h1,h2,h3,h4,h5⟩:=BS l (min s.1 a.1,max s.2 a.2) hlt hi'.tail.tail (λb hb=>by
    have:=(vu (l:=[a]) (m:=l)).1 hi;have h6:=this.2.2 a (by simp) b hb;have h7:=hsp b<|iT _ hb
    dsimp only;omega)
   refine⟨h1,?_,h3,h4,λx=>?_⟩
   ·rcases h2 with h2|⟨b,hb,h2⟩
    ·rw[h2]
     rcases Int.le_total s.1 a.1 with h6|h6
     ·exact .inl (by simp only;omega)
     ·exact .inr ⟨a,by simp,by simp only;omega⟩
    ·exact .inr ⟨b,iT _ hb,h2⟩
   ·rw[h5,EL,<-Bool.or_assoc];congr 1;clear h1 h2 h3 h4 h5;rw[dY];simp only[dU,bX,bJ];constructor
    ·intro h6
     by_cases h7:s.1<=x/\x<s.2
     ·exact .inl h7
     ·exact .inr (by omega)
    ·rintro(h6|h6) <;> omega
  ·rw[aD hc];refine⟨h, .inl rfl,hi,λt ht=>?_,λx=>rfl⟩;show s.2<t.1
   rcases dI.1 ht with rfl|ht
   ·omega
   ·have:=((vu (l:=[a]) (m:=l)).1 hi).2.2 a (by simp) t ht;omega
theorem FB{l:List (Int×Int)}{c:Int}(h:kf (dR l)):∀a∈l.dropWhile (λa=>decide<|a.2<c),c<=a.2:=by
 induction l with
 |nil=>intro a ha;cases ha
 |cons b l ih=>
  have h':=h;rw[j4]at h';rw[List.dropWhile_cons]
  by_cases hb:b.2<c
  ·rw[aC (by simpa using hb)];exact ih h'.tail.tail
  ·rw[aD (by simpa using hb)];intro a ha
   rcases dI.1 ha with rfl|ha
   ·omega
   ·have h1:=((vu (l:=[b]) (m:=l)).1 h).2.2 b (by simp) a ha;have h2:=xI h a<|iT _ ha
    omega
theorem FC(l:List (Int×Int))(c:Int):∀a∈l.takeWhile (λa=>decide<|a.2<c),a.2<c:=by
 induction l with
 |nil=>intro a ha;cases ha
 |cons b l ih=>
  rw[List.takeWhile_cons]
  by_cases hb:b.2<c
  ·rw[aC (by simpa using hb)];intro a ha
   rcases dI.1 ha with rfl|ha
   ·exact hb
   ·exact ih a ha
  ·rw[aD (by simpa using hb)];intro a ha;cases ha
theorem Au{l:List (Int×Int)}{s:Int×Int}(h:kf (dR l))(hs:s.1<s.2):
  kf (dR<|mO l s)/\∀x,j3 (mO l s) x=((decide (s.1<=x)&&decide (x<s.2))||j3 l x):=by
 have hsplit:=h;rw[<-List.takeWhile_append_dropWhile (p:=λa:Int×Int=>decide<|a.2<s.1) (l:=l),vu]at hsplit;obtain⟨h1,h2,h3⟩:=hsplit;obtain⟨m1,m2,m3,m4,m5⟩:=BS (l.dropWhile λa=>decide<|a.2<s.1) s hs h2<|FB h
 unfold mO;refine⟨vu.2 ⟨h1,?_,λa ha t ht=>?_⟩,λx=>?_⟩
 ·rw[j4];have h4:∀c∈dR (lE s<|l.dropWhile λa=>decide<|a.2<s.1).2,(lE s<|l.dropWhile λa=>decide<|a.2<s.1).1.2<c:=λc hc=>by
   obtain⟨t,ht,hc⟩:=Bh hc;have:=m4 t ht;have:=xI m3 t ht
   rcases hc with rfl|rfl <;> omega
  exact py.2 ⟨λc hc=>by
   rcases dI.1 hc with rfl|hc
   ·exact m1
   ·have:=h4 c hc;omega,py.2 ⟨h4,m3⟩⟩
 ·have ha1:=FC l s.1 a ha
  rcases dI.1 ht with rfl|ht
  ·rcases m2 with m2|⟨b,hb,m2⟩
   ·rw[m2];exact ha1
   ·rw[m2];exact h3 a ha b hb
  ·have h5:=m4 t ht
   rcases m2 with m2|⟨b,hb,m2⟩
   ·rw[m2]at m1;omega
   ·have:=h3 a ha b hb;rw[m2]at m1;omega
 ·rw[BR,m5]
  conv=>rhs;rw[<-List.takeWhile_append_dropWhile (p:=λa:Int×Int=>decide<|a.2<s.1) (l:=l),BR]
  rw[Bool.or_left_comm]
def lr:List Int->List (Int×Int)
 |a::b::l=>(a,b)::lr (b::l)
 |_=>[]
theorem sZ:∀{xs:List Int},kf xs->∀s∈lr xs,s.1∈xs/\s.2∈xs/\s.1<s.2/\∀c∈xs,c<=s.1\/s.2<=c
 | [],_,s,hs=>by cases hs
 | [a],_,s,hs=>by cases hs
 |a::b::l,h,s,hs=>by
  have hab:=h.head b (by simp)
  rcases dI.1 hs with rfl|hs
  ·refine⟨by simp,by simp,hab,λc hc=>?_⟩
   rcases dI.1 hc with rfl|hc
   ·exact .inl<|Int.le_refl _
   ·rcases dI.1 hc with rfl|hc
    ·exact .inr<|Int.le_refl _
    ·exact .inr (by have:=h.tail.head c hc;show b<=c;omega)
  ·obtain⟨h1,h2,h3,h4⟩:=sZ h.tail s hs;refine⟨iT _ h1,iT _ h2,h3,λc hc=>?_⟩
   rcases dI.1 hc with rfl|hc
   ·exact .inl (by have:=h.head s.1 h1;omega)
   ·exact h4 c hc
theorem zo:∀{xs:List Int},kf xs->∀x,(∃s∈lr xs,s.1<=x/\x<s.2)\/(∀c∈xs,x<c)\/(∀c∈xs,c<=x)
 | [],_,x=> .inr (.inl λc hc=>by cases hc)
 | [a],_,x=>by
  by_cases h:x<a
  ·exact .inr (.inl λc hc=>by simp at hc;omega)
  ·exact .inr (.inr λc hc=>by simp at hc;omega)
 |a::b::l,h,x=>by
  have hab:=h.head b (by simp)
  rcases zo h.tail x with⟨s,hs,h1⟩|h1|h1
  ·exact .inl ⟨s,iT _ hs,h1⟩
  ·by_cases h2:x<a
   ·exact .inr (.inl λc hc=>by
     rcases dI.1 hc with rfl|hc
     ·exact h2
     ·exact h1 c hc)
   ·exact .inl ⟨(a,b),by simp[lr],by show a<=x;omega,h1 b (by simp)⟩
  ·exact .inr (.inr λc hc=>by
    rcases dI.1 hc with rfl|hc
    ·have:=h1 b (by simp);omega
    ·exact h1 c hc)
def Ends(a:List (Int×Int))(xs:List Int):Prop:=∀s∈a,s.1∈xs/\s.2∈xs
theorem Cu{a:List (Int×Int)}{xs:List Int}(he:Ends a xs)(hx:kf xs){s:Int×Int}(hs:s∈lr xs){x:Int}(h1:s.1<=x)(h2:x<s.2):j3 a x=j3 a s.1:=by
 obtain⟨_,_,h3,h4⟩:=sZ hx s hs;rw[dY,vr,vr];constructor
 ·rintro⟨t,ht,h5,h6⟩;have:=h4 _ (he t ht).1;exact⟨t,ht,by omega,by omega⟩
 ·rintro⟨t,ht,h5,h6⟩;have:=h4 _ (he t ht).2;exact⟨t,ht,by omega,by omega⟩
theorem I7{a:List (Int×Int)}{xs:List Int}(he:Ends a xs){x:Int}(h:(∀c∈xs,x<c)\/(∀c∈xs,c<=x)):j3 a x=false:=by
 rw[<-jy,vr];rintro⟨t,ht,h5,h6⟩;obtain⟨e1,e2⟩:=he t ht
 rcases h with h|h
 ·have:=h _ e1;omega
 ·have:=h _ e2;omega
def nC(iG:Bool->Bool->Bool)(a b:List (Int×Int))(ss:List (Int×Int))(out:List (Int×Int)):List (Int×Int):=
 ss.foldl (λout s=>if iG (j3 a s.1) (j3 b s.1)=true then mO out s else out) out
theorem xJ(iG:Bool->Bool->Bool)(a b:List (Int×Int)):∀(ss out:List (Int×Int)),kf (dR out)->(∀s∈ss,s.1<s.2)->
  kf (dR<|nC iG a b ss out)/\∀x,j3 (nC iG a b ss out) x=(j3 out x||ss.any λs=>iG (j3 a s.1) (j3 b s.1)&&(decide (s.1<=x)&&decide (x<s.2)))
 | [],out,h,_=>⟨h,λx=>by simp[nC]⟩
 |s::ss,out,h,hs=>by
  have h0:=hs s (by simp);unfold nC;rw[List.foldl_cons]
  by_cases hk:iG (j3 a s.1) (j3 b s.1)=true
  ·rw[aC hk];obtain⟨j1,j2⟩:=Au h h0;obtain⟨m1,m2⟩:=xJ iG a b ss (mO out s) j1<|λt ht=>hs t<|iT _ ht
   refine⟨m1,λx=>?_⟩;rw[show j3 (List.foldl _ (mO out s) ss) x=_ from m2 x,j2,List.any_cons,hk,Bool.true_and]
   cases j3 out x <;> simp
  ·rw[aD hk];obtain⟨m1,m2⟩:=xJ iG a b ss out h<|λt ht=>hs t<|iT _ ht
   refine⟨m1,λx=>?_⟩;rw[show j3 (List.foldl _ out ss) x=_ from m2 x,List.any_cons,eq_false_of_ne_true hk,Bool.false_and,Bool.false_or]
theorem GZ{iG:Bool->Bool->Bool}(hk:iG false false=false){a b:List (Int×Int)}{xs:List Int}(hx:kf xs)(ha:Ends a xs)(hb:Ends b xs):
  kf (dR<|nC iG a b (lr xs) [])/\∀x,j3 (nC iG a b (lr xs) []) x=iG (j3 a x) (j3 b x):=by
 obtain⟨m1,m2⟩:=xJ iG a b (lr xs) [] kN<|λs hs=>(sZ hx s hs).2.2.1
 refine⟨m1,λx=>?_⟩;rw[m2,show j3 [] x=false from rfl,Bool.false_or]
 rcases zo hx x with⟨s,hs,h1,h2⟩|h
 ·rw[dY,kq];constructor
  ·rintro⟨t,ht,h3⟩;rw[bX,bX,bJ,bJ]at h3;rw[Cu ha hx ht h3.2.1 h3.2.2,Cu hb hx ht h3.2.1 h3.2.2];exact h3.1
  ·intro h3;rw[Cu ha hx hs h1 h2,Cu hb hx hs h1 h2]at h3;exact⟨s,hs,by rw[h3,bL h1,bL h2];rfl⟩
 ·rw[I7 ha h,I7 hb h,hk,<-jy,kq];rintro⟨t,ht,h3⟩;rw[bX,bX,bJ,bJ]at h3;obtain⟨e1,e2,_⟩:=sZ hx t ht
  rcases h with h|h
  ·have:=h _ e1;omega
  ·have:=h _ e2;omega
def nD(f:Int->List Int)(ss:List (Int×Int))(out:List Bd):List Bd:=ss.foldl (λout s=>kC out ⟨s.1,s.2,f s.1⟩) out
theorem BT(f:Int->List Int)(hf:∀y,kf (f y)/\(f y).length % 2=0):∀(ys:List Int)(out:List Bd),kf ys->fJ out->(∀c∈out,∀y∈ys,c.y1<=y)->
  fJ (nD f (lr ys) out)/\∀y,rowAt (nD f (lr ys) out) y=match(lr ys).find? (λs=>decide (s.1<=y)&&decide (y<s.2))with|some s=>f s.1|none=>rowAt out y
 | [],out,_,h,_=>⟨h,λy=>rfl⟩
 | [a],out,_,h,_=>⟨h,λy=>rfl⟩
 |a::b::l,out,hi,h,ho=>by
  have hab:=hi.head b (by simp);have ho1:∀c∈out,c.y1<=(⟨a,b,f a⟩:Bd).y0:=λc hc=>ho c hc a (by simp);have hc:=yf (b:=⟨a,b,f a⟩) h ho1 (hf a).1 (hf a).2;have htop:=yg (b:=⟨a,b,f a⟩) ho1 (by show a<=b;omega)
  obtain⟨m1,m2⟩:=BT f hf (b::l) (kC out ⟨a,b,f a⟩) hi.tail hc (λc hc' y hy=>by
   have h1:=htop c hc';have h2:b<=y:=by
    rcases dI.1 hy with rfl|hy
    ·exact Int.le_refl _
    ·have:=hi.tail.head y hy;omega
   have h3:c.y1<=b:=h1
   omega)
  refine⟨m1,λy=>?_⟩;show rowAt (nD f (lr<|b::l)<|kC out ⟨a,b,f a⟩) y=_;rw[m2 y,show lr (a::b::l)=(a,b)::lr (b::l)from rfl,List.find?_cons];have hrow:=ye (s:=out) (b:=⟨a,b,f a⟩) ho1 (λc hc=>(h.each c hc).1) (λh=>absurd h (by show ¬b<=a;omega)) y
  by_cases hy:a<=y/\y<b
  ·have e:(decide (a<=y)&&decide (y<b))=true:=by rw[bL hy.1,bL hy.2];rfl
   have hn:(lr<|b::l).find? (λs=>decide (s.1<=y)&&decide (y<s.2))=none:=by
    rw[List.find?_eq_none];intro s hs;have:=(sZ hi.tail s hs).1;have h5:b<=s.1:=by
     rcases dI.1 this with h6|h6
     ·omega
     ·have:=hi.tail.head _ h6;omega
    simp;omega
   rw[hn];show rowAt (kC out ⟨a,b,f a⟩) y=_;rw[hrow,aC hy,e]
  ·have e:(decide (a<=y)&&decide (y<b))=false:=by
    rw[Bool.and_eq_false_iff,decide_eq_false_iff_not,decide_eq_false_iff_not];omega
   rw[e]
   cases(lr<|b::l).find? (λs=>decide (s.1<=y)&&decide (y<s.2))with
   |some s=>rfl
   |none=>
    show rowAt (kC out ⟨a,b,f a⟩) y=rowAt out y;rw[hrow,aD hy]
theorem BU{f:Int->List Int}(hf:∀y,kf (f y)/\(f y).length % 2=0){ys:List Int}(hy:kf ys)(h1:∀s∈lr ys,∀y,s.1<=y->y<s.2->f y=f s.1)(h2:∀y,((∀c∈ys,y<c)\/(∀c∈ys,c<=y))->f y= []):
  fJ (nD f (lr ys) [])/\∀y,rowAt (nD f (lr ys) []) y=f y:=by
 obtain⟨m1,m2⟩:=BT f hf ys [] hy fJ.nil (λc hc=>by cases hc);refine⟨m1,λy=>?_⟩;rw[m2 y]
 cases NF:(lr ys).find? (λs=>decide (s.1<=y)&&decide (y<s.2))with
 |some s=>
  have h3:=List.find?_some NF;rw[bX,bJ,bJ]at h3;exact(h1 s (List.mem_of_find?_eq_some NF) y h3.1 h3.2).symm
 |none=>
  show rowAt [] y=f y
  rcases zo hy y with⟨s,hs,h3,h4⟩|h3
  ·have:=List.find?_eq_none.1 NF s hs;rw[bL h3,bL h4]at this;exact absurd rfl this
  ·rw[h2 y h3];rfl
def Ok{β:Type}(o:Option β)(P:β->Prop):Prop:=∃r,o=some r/\P r
section
variable {α β S R:Type}{P:α->Prop}{Q:β->Prop}
theorem Sh{x:β}(h:Q x):Ok (some x) Q:=⟨x,rfl,h⟩
theorem Vm{o:Option β}{x:β}(h:o=some x)(hq:Q x):Ok o Q:=⟨x,h,hq⟩
theorem Ok.mono{o:Option α}{P':α->Prop}(h:Ok o P)(k:∀x,P x->P' x):Ok o P':=by obtain⟨x,h1,h2⟩:=h;exact⟨x,h1,k x h2⟩
theorem Sr{o:Option α}{f:α->Option β}(h:Ok o P)(k:∀x,P x->Ok (f x) Q):Ok (o.bind f) Q:=by
 obtain⟨x,h1,h2⟩:=h;rw[h1];exact k x h2
theorem IT{o:Option α}{f:α->Option β}{x:α}(h:o=some x)(k:Ok (f x) Q):Ok (o.bind f) Q:=by rw[h];exact k
theorem SP{b:Bool}{x y:Option β}(ht:b=true->Ok x Q)(hf:b=false->Ok y Q):Ok (bif b then x else y) Q:=by
 cases b with
 |true=>exact ht rfl
 |false=>exact hf rfl
theorem Tm{o:Option β}{x:β}(h:Ok o (λr=>r=x)):o=some x:=by obtain⟨r,h1,h2⟩:=h;rw[h1,h2]
def P0(Go:S->Prop)(Rt:R->Prop):Fo S R->Prop| .go s=>Go s| .rt r=>Rt r
def LJ(Nx Br:S->Prop)(Rt:R->Prop):Fl S R->Prop| .nx s=>Nx s| .br s=>Br s| .rt r=>Rt r
theorem SJ{Nx Br:S->Prop}{Rt:R->Prop}{s:S}(h:Nx s):Ok (some<|Fl.nx s) (LJ Nx Br Rt):=⟨_,rfl,h⟩
theorem SU{Nx Br:S->Prop}{Rt:R->Prop}{s:S}(h:Br s):Ok (some<|Fl.br s) (LJ Nx Br Rt):=⟨_,rfl,h⟩
theorem Tn{Nx Br:S->Prop}{Rt:R->Prop}{r:R}(h:Rt r):Ok (some (Fl.rt r:Fl S R)) (LJ Nx Br Rt):=⟨_,rfl,h⟩
theorem SV{Go:S->Prop}{Rt:R->Prop}{o:Fo S R}{f:S->Option β}{g:R->Option β}(h:P0 Go Rt o)(hf:∀s,Go s->Ok (f s) Q)(hg:∀r,Rt r->Ok (g r) Q):Ok (o.cs f g) Q:=by
 cases o with
 |go s=>exact hf s h
 |rt r=>exact hg r h
theorem Ts{body:Nat->S->Option S}{m:Nat}{s:S}(Inv:Nat->S->Prop)(hm:m<=4611686018427387904)(h0:Inv 0 s)(h:∀k s,k<m->Inv k s->Ok (body k s) (Inv<|k+1)):Ok (mU m body s) (Inv m):=
 Ct Inv hm h0 h
theorem UA{body:Nat->S->Option (Fl S R)}{m:Nat}{s:S}(Inv:Nat->S->Prop){Go:S->Prop}{Rt:R->Prop}(hm:m<=4611686018427387904)(h0:Inv 0 s)
  (h:∀k s,k<m->Inv k s->Ok (body k s) (LJ (Inv<|k+1) Go Rt)) (hg:∀s,Inv m s->Go s):Ok (uu m body s) (P0 Go Rt):=by
 obtain⟨o,h1,h2⟩:=Mf (R:=R) Inv Go Rt hm h0 (λk s hk hi=>by
  obtain⟨fl,a1,a2⟩:=h k s hk hi
  exact⟨fl,a1,by cases fl <;> exact a2⟩) hg
 exact⟨o,h1,by cases o <;> exact h2⟩
theorem Tw{body:S->Option (Fl S R)}{N:Nat}{s:S}(Inv:S->Prop)(μ:S->Nat){Go:S->Prop}{Rt:R->Prop}
  (h:∀s,Inv s->Ok (body s) (LJ (λs'=>Inv s'/\μ s'<μ s) Go Rt)) (hi:Inv s) (hn:μ s<N):Ok (jt body N s) (P0 Go Rt):=by
 obtain⟨o,h1,h2⟩:=Ac (R:=R) Inv μ Go Rt (λs hi=>by
  obtain⟨fl,a1,a2⟩:=h s hi
  exact⟨fl,a1,by cases fl <;> exact a2⟩) N s hi hn
 exact⟨o,h1,by cases o <;> exact h2⟩
theorem Td{b:Nat}{l ys:List α}{f:List α->Option β}(h:(l.length+ys.length)*b<=140737488355328)(k:Ok (f<|l++ys) Q):Ok ((Go.Gk.app b l ys).bind f) Q:=by rw[lS h];exact k
theorem Ti{l:List α}{i:Nat}{f:α->Option β}(h:i<l.length)(k:Ok (f l[i]) Q):Ok ((Go.Gk.idx l ((i:Nat):Int)).bind f) Q:=by rw[mb l i h];exact k
theorem Sy{l:List α}{i:Nat}{x:α}{f:α->Option β}(h:l[i]? =some x)(k:Ok (f x) Q):Ok ((Go.Gk.idx l ((i:Nat):Int)).bind f) Q:=by rw[cI h];exact k
end
theorem G0{n:Nat}(h:n<=4611686018427387904):wrap .i64 ((n:Nat):Int)=((n:Nat):Int):=fw (by omega) (by omega)
theorem wrap_add{n m:Nat}(h:n+m<=4611686018427387904):wrap .i64 (((n:Nat):Int)+((m:Nat):Int))=((n+m:Nat):Int):=by rw[fw (by omega) (by omega)];simp
theorem bK{n:Nat}(h:n+1<=4611686018427387904):wrap .i64 (((n:Nat):Int)+1)=((n+1:Nat):Int):=by rw[fw (by omega) (by omega)];simp
theorem EN{n:Nat}(h:n+2<=4611686018427387904):wrap .i64 (((n:Nat):Int)+2)=((n+2:Nat):Int):=by rw[fw (by omega) (by omega)];simp
theorem gA{α:Type}[DecidableEq α]:∀{l m:List α},l.Nodup->(∀x∈l,x∈m)->l.length<=m.length
 | [],m,_,_=>cZ _
 |a::l,m,hn,hs=>by
  have ha:a∈m:=hs a (by simp);have hn':=List.nodup_cons.1 hn
  have:=gA (l:=l) (m:=m.erase a) hn'.2 (λx hx=>by
   rw[List.mem_erase_of_ne<|λe=>hn'.1 (by rw[<-e];exact hx)]
   exact hs x (iT _ hx))
  rw[List.length_erase_of_mem ha]at this;have:=List.length_pos_of_mem ha;simp;omega
section
variable {α:Type}{N:Nat}
def P3(z:α)(N:Nat)(p0:List α)(p1:α->Option Bool):Option (List α):=
 (wc p0 p1).bind λx31=>bif x31==(-1)then some p0 else((jt (λ(s33:List α×Int×Int)=>(bif decide (s33.2.2<(s33.1.length:Int))then((idx s33.1 s33.2.2).bind λx54=>(p1 x54).bind λx58=>(bif(!x58)then((idx s33.1 s33.2.1).bind λx63=>some (s33.1.set (Int.toNat s33.2.1) x54,wrap .i64<|s33.2.1+1))else some (s33.1,s33.2.1)).bind λs61=>some<|.nx (s61.1,s61.2,wrap .i64<|s33.2.2+1))else(some<|.br (s33.1,s33.2.1,s33.2.2)):Option (Fl (List α×Int×Int) Empty))) N (p0,x31,wrap .i64<|x31+1)).bind λo67=>o67.cs (λ(s33:List α×Int×Int)=>(uv s33.1 s33.2.1 (s33.1.length:Int)).bind λx64=>(uv (s33.1.take (Int.toNat s33.2.1)++List.replicate (s33.1.length - Int.toNat s33.2.1) z) 0 s33.2.1).bind λx65=>some x65)<|λr=>r.elim)
theorem K3{z:α}{l:List α}{φ:α->Option Bool}(p:α->Bool)(hφ:∀x∈l,φ x=some (p x))(hl:l.length<=4611686018427387000)(hN:l.length<N):P3 z N l φ=some (l.filter<|λx=> !p x):=by
 unfold P3;rw[uD p (by omega) hφ,aB]
 rcases yc l p with⟨h1,h2⟩|⟨k,x,h1,h2,h3,h4⟩
 ·rw[h1];have:l.filter (λx=> !p x)=l:=List.filter_eq_self.2 λa ha=>by rw[h2 a ha];rfl
  rw[this];rfl
 ·rw[h1,show(((k:Nat):Int)== -1)=false by simp,aM];have hk:=(bD.1 h2).1;have hpre:(l.take k).filter (λx=> !p x)=l.take k:=List.filter_eq_self.2 λa ha=>by
   obtain⟨j,hj⟩:=dZ ha;have hjk:j<k:=by have:=(bD.1 hj).1;rw[cQ]at this;omega
   rw[List.getElem?_take_of_lt hjk]at hj;rw[h4 j a hjk hj];rfl
  have hst:l.take (k+1)=l.take k++[x]:=by
   rw[eI hk];congr 1;have:=(bD.1 h2).2;rw[this]
  have hk1:wrap .i64 (((k:Nat):Int)+1)=((k+1:Nat):Int):=by rw[fw (by omega) (by omega)];omega
  rw[hk1];obtain⟨o,a1,a2⟩:=Ac (S:=List α×Int×Int) (R:=Empty) (body:=λ(s33:List α×Int×Int)=>(bif decide (s33.2.2<(s33.1.length:Int))then((idx s33.1 s33.2.2).bind λx54=>(φ x54).bind λx58=>(bif(!x58)then((idx s33.1 s33.2.1).bind λx63=>some (s33.1.set (Int.toNat s33.2.1) x54,wrap .i64<|s33.2.1+1))else some (s33.1,s33.2.1)).bind λs61=>some<|.nx (s61.1,s61.2,wrap .i64<|s33.2.2+1))else(some<|.br (s33.1,s33.2.1,s33.2.2)):Option (Fl (List α×Int×Int) Empty)))
   (λs=>∃i j:Nat,s.2.1=((i:Nat):Int)/\s.2.2=((j:Nat):Int)/\i<j/\j<=l.length/\s.1.length=l.length/\s.1.take i=(l.take j).filter (λx=> !p x)/\∀m,j<=m->s.1[m]? =l[m]?)
   (λs=>l.length - s.2.2.toNat) (λs=>∃i:Nat,s.2.1=((i:Nat):Int)/\i<=l.length/\s.1.length=l.length/\s.1.take i=l.filter (λx=> !p x)) (λ_=>True) (λs⟨i,j,e1,e2,hij,hj,hlen,ht,hd⟩=>by
    obtain⟨s,a,b⟩:=s;dsimp only at e1 e2 hlen ht hd ⊢;subst e1;subst e2
    by_cases hlt:j<l.length
    ·rw[bL (by rw[hlen];omega),aK];have hx:s[j]? =some l[j]:=by rw[hd j<|bZ _];exact aO hlt
     have w1:wrap .i64 (((j:Nat):Int)+1)=((j+1:Nat):Int):=by rw[fw (by omega) (by omega)];omega
     have w2:wrap .i64 (((i:Nat):Int)+1)=((i+1:Nat):Int):=by rw[fw (by omega) (by omega)];omega
     have hs2:l.take (j+1)=l.take j++[l[j]]:=eI hlt;rw[cI hx,aB,hφ _<|cL hlt,aB,w1]
     cases hp:p l[j]with
     |true=>
      refine⟨.nx (s,((i:Nat):Int),((j+1:Nat):Int)),by rw[jz,aM,aB],⟨i,j+1,rfl,rfl,by omega,by omega,hlen,?_,λm hm=>hd m (by omega)⟩,?_⟩
      ·rw[hs2,lM,ht];simp[hp]
      ·simp only[cA];omega
     |false=>
      refine⟨.nx (s.set i l[j],((i+1:Nat):Int),((j+1:Nat):Int)),by rw[jo,aK,mb _ _ (by omega),aB,cA,w2,aB],⟨i+1,j+1,rfl,rfl,by omega,by omega,by simp[hlen],?_,λm hm=>?_⟩,?_⟩
      ·rw[hs2,lM,<-ht];have:(s.set i l[j]).take (i+1)=s.take i++[l[j]]:=by
        rw[eI (by simp;omega),List.take_set_of_le<|bZ _];simp
       rw[this];simp[hp]
      ·rw[fY,aD (by omega)];exact hd m (by omega)
      ·simp only[cA];omega
    ·rw[bG (by rw[hlen];omega),aM];have hje:j=l.length:=by omega
     subst hje;rw[eK]at ht
     exact⟨.br (s,((i:Nat):Int),((l.length:Nat):Int)),rfl,i,rfl,by omega,hlen,ht⟩)
   N (l,((k:Nat):Int),((k+1:Nat):Int)) ⟨k,k+1,rfl,rfl,by omega,by omega,rfl,by rw[hst,lM,hpre];simp[h3],λ_ _=>rfl⟩ (by simp only[cA];omega)
  rw[a1,aB]
  cases o with
  |rt r=>exact r.elim
  |go s=>
   obtain⟨i,e1,hi,hlen,ht⟩:=a2;obtain⟨s,a,b⟩:=s;dsimp only at e1 hlen ht;subst e1;simp only[Fo.cs];rw[ry _ _ (by omega),aB,cA,tk _ _ (by simp;omega),aB,List.take_append_of_le_length (by simp;omega),List.take_take,Nat.min_self,ht]
end
section
variable {κ ν:Type}[DecidableEq κ]
theorem lK(m:List (κ×ν))(k k':κ)(x z:ν):fD (qP m k x) k' z=if k'=k then x else fD m k' z:=by
 induction m with
 |nil=>unfold qP fD;by_cases h:k'=k <;> simp[h]
 |cons p m ih=>
  unfold qP
  by_cases h:k=p.1
  ·rw[aC h]
   by_cases h':k'=k
   ·subst h';simp[fD]
   ·simp only[fD,List.find?_cons,aD h',bG h'];rw[bG<|λe=>h'<|e.trans h.symm]
  ·rw[aD h]
   by_cases h':k'=p.1
   ·have:k'≠k:=λe=>h<|e.symm.trans h'
    simp only[fD,List.find?_cons,bL h',aD this]
   ·unfold fD at ih ⊢;simp only[List.find?_cons,bG h'];exact ih
theorem oR(m:List (κ×ν))(k k':κ)(x:ν):lA (qP m k x) k'=(decide (k'=k)||lA m k'):=by
 induction m with
 |nil=>unfold qP lA;simp
 |cons p m ih=>
  unfold qP
  by_cases h:k=p.1
  ·rw[aC h]
   by_cases h':k'=k
   ·simp[lA,h']
   ·simp only[lA,List.any_cons,bG h',Bool.false_or];rw[bG<|λe=>h'<|e.trans h.symm,Bool.false_or]
  ·rw[aD h];unfold lA at ih ⊢;simp only[List.any_cons];rw[ih]
   cases decide (k'=p.1) <;> cases decide (k'=k) <;> simp
end
section
variable {N:Nat}
theorem Da(l:List Int)(a b:Nat)(h:a+b<l.length):HQ l ((a:Nat):Int) ((b:Nat):Int)=some l[a+b]:=by
 unfold HQ;rw[aC (by omega),show((a:Nat):Int)+((b:Nat):Int)=((a+b:Nat):Int)by omega,mb _ _ h]
theorem kf.K4{l:List Int}{a:Int}(h:kf l)(hl:∀c∈l,c<a):kf (l++[a]):=by
 unfold kf;rw[oz];exact⟨h,List.pairwise_singleton _ _,λc hc d hd=>by simp at hd;subst hd;exact hl c hc⟩
theorem kf.last{l:List Int}{a:Int}(h:kf l)(hl:l.getLast? =some a):∀c∈l,c<=a:=by
 intro c hc;have hs:=tC hl;rw[hs]at h hc
 rcases cR.1 hc with h1|h1
 ·have:=(oz.1 h).2.2 c h1 a (by simp);omega
 ·simp at h1;omega
theorem FD{l:List Int}(hs:l.Pairwise (λx y=>x<=y))(hl:l.length<=4611686018427387000)(hN:l.length<N):
  Ok (iW N l) (λm=>kf m/\∀c,c∈m↔c∈l):=by
 unfold iW;refine SP (λh2=>Sh ⟨?_,λc=>Iff.rfl⟩)<|λh2=>?_
 ·have h2:=of_decide_eq_true h2
  match l,h2 with
  | [],_=>exact kN
  | [a],_=>exact List.pairwise_singleton _ _
  |a::b::l,h2=>simp at h2;omega
 ·have h2:=of_decide_eq_false h2;have le:∀(i j:Nat)(x y:Int),i<j->l[i]? =some x->l[j]? =some y->x<=y:=λi j x y hij hx hy=>by
   have:=nF.1 hs i j (bD.1 hx).1 (bD.1 hy).1 hij;rw[(bD.1 hx).2,(bD.1 hy).2]at this;exact this
  refine Sr (Tw (Go:=λ_=>kf l) (Rt:=λm=>kf m/\∀c,c∈m↔c∈l) (λs=>∃k:Nat,s=((k:Nat):Int)/\1<=k/\k<=l.length/\kf (l.take k)) (λs=>l.length - s.toNat) ?_ ⟨1,rfl,bZ _,by omega,?_⟩ (by simp;omega)) ?_
  ·rintro s⟨k,rfl,hk1,hkl,hinc⟩;refine SP (λh=>?_)<|λh=>SU ?_
   ·have hk:k<l.length:=by have:=of_decide_eq_true h;omega
    refine Ti hk ?_;rw[jg hk1 (by omega)];refine Ti (by omega) ?_;refine SP (λhe=>?_)<|λhe=>?_
    ·have he:l[k]=l[k - 1]:=by simpa using he
     refine IT (ry l k hkl) ?_
     refine Sr (Tw (Go:=λs=>∃i:Nat,s.2.1=((i:Nat):Int)/\i<=l.length/\s.1.length=l.length/\kf (s.1.take i)/\∀c,c∈s.1.take i↔c∈l) (Rt:=λ_=>True)
      (λs=>∃i j:Nat,s.2.1=((i:Nat):Int)/\s.2.2=((j:Nat):Int)/\1<=j/\k+j<=l.length/\i<=k+j - 1/\s.1.length=l.length/\kf (s.1.take i)/\(s.1.take i).getLast? =l[k+j - 1]? /\
       (∀c,c∈s.1.take i↔c∈l.take (k+j))/\∀m,k+j - 1<=m->s.1[m]? =l[m]?) (λs=>l.length - s.2.2.toNat) ?_ ?_ (by simp;omega)) ?_
     ·rintro⟨u,a,b⟩⟨i,j,e1,e2,hj,hjl,hij,hlen,hi,hlast,hmem,hrest⟩;dsimp only at e1 e2 hlen hi hlast hmem hrest ⊢;subst e1;subst e2;rw[cA];refine SP (λh=>?_)<|λh=>SU ?_
      ·have hlt:k+j<l.length:=by have:=of_decide_eq_true h;omega
       have hx:u[k+j]'(by omega)=l[k+j]:=by have:=hrest (k+j) (by omega);rw[aO (by omega),aO hlt]at this;injection this
       have hy:u[k+(j - 1)]'(by omega)=l[k+(j - 1)]:=by have:=hrest (k+(j - 1)) (by omega);rw[aO (by omega),aO (by omega)]at this;injection this
       refine IT (Da u k j (by omega)) ?_;rw[jg hj (by omega)];refine IT (Da u k (j - 1) (by omega)) ?_;rw[hx,hy];have hts:l.take (k+j+1)=l.take (k+j)++[l[k+j]]:=eI hlt;have hlast':(u.take i).getLast? =some l[k+(j - 1)]:=by rw[hlast,show k+j - 1=k+(j - 1)by omega,aO (by omega)]
       have hxy:l[k+(j - 1)]<=l[k+j]:=le (k+(j - 1)) (k+j) _ _ (by omega) (aO _)<|aO _
       refine Sr (P:=λs'=>s'.1.length=l.length/\∃i':Nat,s'.2=((i':Nat):Int)/\i'<=k+j/\kf (s'.1.take i')/\(s'.1.take i').getLast? =l[k+j]? /\(∀c,c∈s'.1.take i'↔c∈l.take (k+j+1))/\∀m,k+j<=m->s'.1[m]? =l[m]?) ?_ ?_
       ·refine SP (λhne=>?_)<|λhne=>Sh ?_
        ·have hne:l[k+j]≠l[k+(j - 1)]:=by simpa using hne
         refine IT (Da u k j (by omega)) ?_;rw[hx];refine Ti (by omega)<|Sh ⟨by simp[hlen],i+1,?_,by omega,?_⟩
         ·rw[bK (by omega)]
         ·dsimp only;rw[cA];have ht:(u.set i l[k+j]).take (i+1)=u.take i++[l[k+j]]:=by
           rw[eI (by simp;omega),List.take_set_of_le<|bZ _];simp
          rw[ht];refine⟨hi.K4 λc hc=>?_,by simp[aO hlt],λc=>?_,λm hm=>?_⟩
          ·have:=hi.last hlast' c hc;omega
          ·rw[hts,cR,cR,hmem]
          ·rw[fY,aD (by omega)];exact hrest m (by omega)
        ·have he:l[k+j]=l[k+(j - 1)]:=by simpa using hne
         refine⟨hlen,i,rfl,by omega,hi,?_,λc=>?_,λm hm=>hrest m (by omega)⟩
         ·dsimp only;rw[hlast',aO hlt,he]
         ·rw[hts,cR,<-hmem];constructor
          ·exact .inl
          ·rintro(h|h)
           ·exact h
           ·simp at h;subst h;rw[he];exact List.mem_of_getLast? hlast'
       ·rintro⟨v,a⟩⟨g1,i',g2,g3,g4,g5,g6,g7⟩;dsimp only at g1 g2 g4 g5 g6 g7 ⊢;refine SJ ⟨⟨i',j+1,g2,?_,by omega,by omega,by omega,g1,g4,?_,g6,λm hm=>g7 m (by omega)⟩,?_⟩
        ·rw[bK (by omega)]
        ·rw[show k+(j+1) - 1=k+j by omega];exact g5
        ·rw[bK (by omega)];simp only[cA];omega
      ·have hge:k+j=l.length:=by have:=of_decide_eq_false h;omega
       refine⟨i,rfl,by omega,hlen,hi,λc=>?_⟩;rw[hmem,hge,eK]
     ·refine⟨k,1,rfl,rfl,bZ _,by omega,by omega,rfl,hinc,?_,λc=>?_,λm _=>rfl⟩
      ·dsimp only;rw[show k+1 - 1=k by omega,aO hk,he,List.getLast?_eq_getElem?,cQ,Nat.min_eq_left hkl,List.getElem?_take_of_lt (by omega),aO (by omega)]
      ·dsimp only;rw[eI hk,cR];constructor
       ·exact .inl
       ·rintro(h|h)
        ·exact h
        ·simp at h;subst h;rw[he];refine fQ (i:=k - 1) ?_;rw[List.getElem?_take_of_lt (by omega),aO (by omega)]
     ·rintro o ho;refine SV ho ?_<|λr=>r.elim
      rintro⟨u,a,b⟩⟨i,e1,hi,hlen,hinc',hmem⟩;dsimp only at e1 hlen hinc' hmem ⊢;subst e1;refine IT (ry u i (by omega)) ?_;rw[cA];refine IT (tk _ i (by simp;omega))<|Tn ?_
      rw[List.take_append_of_le_length (by simp;omega),List.take_take,Nat.min_self];exact⟨hinc',hmem⟩
    ·have he:l[k]≠l[k - 1]:=by simpa using he
     refine SJ ⟨⟨k+1,by rw[bK (by omega)],by omega,by omega,?_⟩,by rw[bK (by omega)];simp only[cA];omega⟩;rw[eI hk];refine hinc.K4 λc hc=>?_;have hlast:(l.take k).getLast? =some l[k - 1]:=by
      rw[List.getLast?_eq_getElem?,cQ,Nat.min_eq_left hkl,List.getElem?_take_of_lt (by omega),aO (by omega)]
     have h3:=hinc.last hlast c hc;have h4:=le (k - 1) k _ _ (by omega) (aO (by omega:k - 1<l.length))<|aO hk
     omega
   ·have hge:k=l.length:=by have:=of_decide_eq_false h;omega
    subst hge;rw[eK]at hinc;exact hinc
  ·match l,h2 with
   | [],h2=>simp at h2
   |a::l,_=>exact List.pairwise_singleton _ _
  ·rintro o ho;exact SV ho (λs h=>Sh ⟨h,λc=>Iff.rfl⟩)<|λr h=>Sh h
def vv(l:List aI):List Int:=l.flatMap λr=>[r.X0,r.X1]
def kb(l:List aI):List Int:=l.flatMap λr=>[r.Y0,r.Y1]
theorem vx{l:List aI}{c:Int}:c∈vv l↔∃r∈l,c=r.X0\/c=r.X1:=by unfold vv;simp[List.mem_flatMap]
theorem mw{l:List aI}{c:Int}:c∈kb l↔∃r∈l,c=r.Y0\/c=r.Y1:=by unfold kb;simp[List.mem_flatMap]
theorem m7(l:List aI):(vv l).length=2*l.length:=by
 induction l with
 |nil=>rfl
 |cons r l ih=>unfold vv at *;simp[List.flatMap_cons,ih];omega
theorem ko(l:List aI):(kb l).length=2*l.length:=by
 induction l with
 |nil=>rfl
 |cons r l ih=>unfold kb at *;simp[List.flatMap_cons,ih];omega
def zC(X Y:List Int)(s:List Bd):Prop:=∀b∈s,b.y0∈Y/\b.y1∈Y/\∀c∈b.xs,c∈X
theorem zC.push{X Y:List Int}{s:List Bd}{b:Bd}(h:zC X Y s)(h0:b.y0∈Y)(h1:b.y1∈Y)(h2:∀c∈b.xs,c∈X):zC X Y (kC s b):=by
 intro c hc;unfold kC at hc;split at hc
 ·exact h c hc
 ·split at hc
  ·rename_i d hd;have hdm:d∈s:=List.mem_of_getLast? hd;split at hc
   ·rcases cR.1 hc with hc|hc
    ·exact h c<|List.dropLast_subset _ hc
    ·simp at hc;subst hc;exact⟨(h d hdm).1,h1,(h d hdm).2.2⟩
   ·rcases cR.1 hc with hc|hc
    ·exact h c hc
    ·simp at hc;subst hc;exact⟨h0,h1,h2⟩
  ·simp at hc;subst hc;exact⟨h0,h1,h2⟩
theorem kf.nodup{l:List Int}(h:kf l):l.Nodup:=List.Pairwise.imp (λh=>by omega) h
theorem zC.row{X Y:List Int}{s:List Bd}(h:zC X Y s)(hc:fJ s){b:Bd}(hb:b∈s):b.xs.length<=X.length:=gA (hc.each b hb).2.2.1.nodup (h b hb).2.2
theorem zC.len{X Y:List Int}{s:List Bd}(h:zC X Y s)(hc:fJ s):s.length<=Y.length:=by
 have hn:(s.map Bd.y0).Nodup:=by
  unfold List.Nodup;rw[List.pairwise_map];refine List.Pairwise.imp_of_mem (λ{a b}ha hb hab=>?_) hc.ord;have:=(hc.each a ha).1;have:=hab.1;omega
 have:=gA hn (m:=Y) (λx hx=>by
  obtain⟨b,hb,rfl⟩:=dH.1 hx
  exact(h b hb).1)
 rwa[dA]at this
theorem zC.mono{X Y X' Y':List Int}{s:List Bd}(h:zC X Y s)(hx:∀c∈X,c∈X')(hy:∀c∈Y,c∈Y'):zC X' Y' s:=λb hb=>⟨hy _ (h b hb).1,hy _ (h b hb).2.1,λc hc=>hx c<|(h b hb).2.2 c hc⟩
theorem JV(s:List Bd)(b:Bd):(kC s b).length<=s.length+1:=by
 unfold kC;split
 ·omega
 ·split
  ·rename_i d hd;have hsp:=tC hd;have:s.length=s.dropLast.length+1:=by
    conv=>lhs;rw[hsp]
    simp
   split <;> simp <;> omega
  ·simp
theorem kf.lt{l:List Int}(h:kf l){i j:Nat}{x y:Int}(hij:i<j)(hx:l[i]? =some x)(hy:l[j]? =some y):x<y:=by
 have:=nF.1 h i j (bD.1 hx).1 (bD.1 hy).1 hij;rw[(bD.1 hx).2,(bD.1 hy).2]at this;exact this
theorem kf.next{l:List Int}(h:kf l){k:Nat}{x y c:Int}(hx:l[k]? =some x)(hy:l[k+1]? =some y)(hc:c∈l)(hxc:x<c):y<=c:=by
 obtain⟨j,hj⟩:=dZ hc
 rcases Nat.lt_trichotomy j (k+1)with h1|h1|h1
 ·exfalso
  by_cases e:j=k
  ·subst e;rw[hx]at hj;injection hj with hj;omega
  ·have:=h.lt (show j<k by omega) hj hx;omega
 ·subst h1;rw[hy]at hj;injection hj with hj;omega
 ·have:=h.lt h1 hy hj;omega
theorem zp{l:List aI}{φ:aI->Option Bool}(p:aI->Bool)(hφ:∀x∈l,φ x=some (p x))(hl:l.length<=4611686018427387000)(hN:l.length<N):jB N l φ=some (l.filter<|λx=> !p x):=
 K3 (z:=(⟨0,0,0,0⟩:aI)) p hφ hl hN
theorem Ec{l:List aI}(hl:l.length<=268435456):ku N l=some l:=by
 unfold ku;rw[lS (by simp;omega),aB,List.nil_append]
structure P4 (l m:List aI) (ys:List Int) (k:Nat) (out:List aA) (now:List aI) (nx:Nat):Prop where
 can:fJ (out.map cJ)
 top:∀c∈out,∀y,ys[k]? =some y->c.Y1<=y
 cover:∀x y,w9 (out.map cJ) x y=(uL l x y&&decide (∀a,ys[k]? =some a->y<a))
 lim:zC (vv l) (kb l) (out.map cJ)
 Sd:∀r∈now,r∈m.take nx
 Se:∀r∈m.take nx,∀y,ys[k]? =some y->y<r.Y1->r∈now
 len:now.length<=nx
 RK:nx<=m.length
 rest:∀(j:Nat)r y,nx<=j->m[j]? =some r->ys[k]? =some y->y<=r.Y0
 low:∀r∈now,∀y,ys[k]? =some y->r.Y0<=y
theorem Mp{l m:List aI}(h:∀r,r∈l↔r∈m)(x y:Int):uL l x y=uL m x y:=by
 rw[dY,jG,jG];constructor
 ·rintro⟨r,hr,h1⟩;exact⟨r,(h r).1 hr,h1⟩
 ·rintro⟨r,hr,h1⟩;exact⟨r,(h r).2 hr,h1⟩
structure tD (l:List aI) (s:List aA):Prop where
 can:fJ (s.map cJ)
 cover:∀x y,w9 (s.map cJ) x y=uL l x y
 lim:zC (vv l) (kb l) (s.map cJ)
theorem qX{l:List aI}(hl:l.length<=134217728)(hok:∀r∈l,DV r)(hN:4294967296<=N):Ok (i5 N l) (tD l):=by
 unfold i5;refine IT (Ec (by omega)) ?_
 obtain⟨m,h1,h2,h3⟩:=C2 (φ:=k9 N) (l:=l) (λa b=>a.Y0 - b.Y0) (λa ha b hb=>by
  unfold k9;rw[wrap_small (hok a ha).s3 (hok b hb).s3]) (λa _=>by omega) (λa _ b _ c _ h1 h2=>by omega) (λa _ b _ c _ h1 h2=>by omega) (by omega)
 refine IT h1 ?_;have hml:m.length=l.length:=h2.length_eq;have hmem:∀r,r∈m↔r∈l:=λr=>h2.mem_iff;refine Sr (Ts (λk s=>s=kb (m.take k)) (by omega) rfl<|λk s hk e=>?_) ?_
 ·subst e;refine Ti hk<|Td ?_<|Sh ?_
  ·rw[ko];simp;omega
  ·rw[eI hk];unfold kb;rw[List.flatMap_append];rfl
 rintro s rfl;rw[eK];have hgs:xh (kb m)=some ((kb m).mergeSort<|λx y=>decide<|x<=y):=by unfold xh;rw[aC (by rw[ko];omega)]
 refine IT hgs ?_;have hsp:((kb m).mergeSort<|λx y=>decide<|x<=y).Pairwise (λx y=>x<=y):=by
  have:=List.pairwise_mergeSort (le:=λ(x y:Int)=>decide<|x<=y) (λa b c h1 h2=>by simp at *;omega) (λa b=>by simp;omega)<|kb m
  exact List.Pairwise.imp (λh=>by simpa using h) this
 have hsm:∀c,c∈(kb m).mergeSort (λx y=>decide<|x<=y)↔c∈kb m:=λc=>List.mem_mergeSort;have hsl:((kb m).mergeSort<|λx y=>decide<|x<=y).length=2*m.length:=by rw[List.length_mergeSort,ko]
 generalize (kb m).mergeSort (λx y=>decide<|x<=y)=sy at hsp hsm hsl;refine Sr (FD (N:=N) hsp (by omega) (by omega)) ?_;rintro ys⟨hy,hym⟩;have hyl:ys.length<=2*m.length:=by
  have:=gA hy.nodup (m:=sy)<|λc hc=>(hym c).1 hc
  omega
 have y0m:∀r∈m,r.Y0∈ys:=λr hr=>(hym _).2<|(hsm _).2<|mw.2 ⟨r,hr, .inl rfl⟩
 have y1m:∀r∈m,r.Y1∈ys:=λr hr=>(hym _).2<|(hsm _).2<|mw.2 ⟨r,hr, .inr rfl⟩
 have yml:∀c∈ys,c∈kb l:=λc hc=>by
  obtain⟨r,hr,h⟩:=mw.1<|(hsm _).1<|(hym _).1 hc
  exact mw.2 ⟨r,(hmem r).1 hr,h⟩
 refine Sr (Tw (Go:=λs=>tD l s.1) (Rt:=λ_=>True) (λs=>∃k nx:Nat,s.2.2.2=((k:Nat):Int)/\s.2.2.1=((nx:Nat):Int)/\(k<ys.length\/k=0)/\P4 l m ys k s.1 s.2.1 nx) (λs=>ys.length - s.2.2.2.toNat) ?_ ?_ (by simp;omega)) ?_
 ·rintro⟨out,now,a,b⟩⟨k,nx,e1,e2,hk,I⟩;dsimp only at e1 e2 I ⊢;subst e1;subst e2;rw[bK (by omega)];refine SP (λh=>?_)<|λh=>SU ?_
  ·have hk1:k+1<ys.length:=by have:=of_decide_eq_true h;omega
   have hyk:ys[k]? =some ys[k]:=aO _;have hyk1:ys[k+1]? =some ys[k+1]:=aO hk1;have hlt:=hy.lt (Nat.lt_succ_self k) hyk hyk1;have hcov:=I.cover;simp only[hyk,Option.some.injEq,forall_eq']at hcov;refine IT (zp (λr=>decide<|r.Y1<=ys[k]) (λr _=>by unfold qp;rw[mb ys k (by omega),aB]) (by have:=I.len;have:=I.RK;omega) (by have:=I.len;have:=I.RK;omega)) ?_;have hfl:=pA (λr:aI=> !decide (r.Y1<=ys[k])) now;have hIl:=I.len;have hIn:=I.RK
   refine Sr (Tw (Go:=λs=>∃nx':Nat,s.2=((nx':Nat):Int)/\nx'<=m.length/\s.1.length<=nx'/\(∀r∈s.1,r∈m.take nx')/\(∀r∈m.take nx',ys[k]<r.Y1->r∈s.1)/\(∀r∈s.1,r.Y0<=ys[k]/\ys[k]<r.Y1)/\(∀(j:Nat)r,nx'<=j->m[j]? =some r->ys[k]<r.Y0)) (Rt:=λ_=>True)
    (λs=>∃nx':Nat,s.2=((nx':Nat):Int)/\nx<=nx'/\nx'<=m.length/\s.1.length<=nx'/\(∀r∈s.1,r∈m.take nx')/\(∀r∈m.take nx',ys[k]<r.Y1->r∈s.1)/\(∀r∈s.1,r.Y0<=ys[k]/\ys[k]<r.Y1)) (λs=>m.length - s.2.toNat) ?_ ?_ (by simp;omega)) ?_
   ·rintro⟨nw,b⟩⟨nx',e1,g0,g1,g2,g3,g4,g5⟩;dsimp only at e1 g2 g3 g4 g5 ⊢;subst e1;refine Sr (P:=λb=>b=true↔∃h:nx'<m.length,m[nx'].Y0<=ys[k]) ?_ ?_
    ·refine SP (λh=>?_)<|λh=>Sh ?_
     ·have hlt:nx'<m.length:=by have:=of_decide_eq_true h;omega
      refine Ti hlt<|Ti (by omega)<|Sh ?_
      rw[bJ];exact⟨λh=>⟨hlt,h⟩,λ⟨_,h⟩=>h⟩
     ·have:=of_decide_eq_false h;constructor
      ·intro h;cases h
      ·rintro⟨h,_⟩;omega
    ·intro bb hbb;refine SP (λh=>?_)<|λh=>SU ?_
     ·obtain⟨hlt,h0⟩:=hbb.1 h;have hts:m.take (nx'+1)=m.take nx'++[m[nx']]:=eI hlt;refine Ti hlt<|Td (by simp;omega)<|SJ ⟨⟨nx'+1,by rw[bK (by omega)],by omega,by omega,by simp;omega,λr hr=>?_,λr hr hr2=>?_,λr hr=>?_⟩,by rw[bK (by omega)];simp only[cA];omega⟩
      ·rw[hts]
       rcases cR.1 hr with h|h
       ·exact List.mem_append_left _<|g3 r h
       ·exact List.mem_append_right _ h
      ·rw[hts]at hr
       rcases cR.1 hr with h|h
       ·exact List.mem_append_left _<|g4 r h hr2
       ·exact List.mem_append_right _ h
      ·rcases cR.1 hr with h|h
       ·exact g5 r h
       ·simp at h;subst h;refine⟨h0,?_⟩;have:=(hok m[nx']<|(hmem _).1<|cL hlt).y;have:=I.rest nx' _ ys[k] g0 (aO hlt) hyk;omega
     ·refine⟨nx',rfl,g1,g2,g3,g4,g5,λj r hj hr=>?_⟩;have hjl:=(bD.1 hr).1;have hlt:nx'<m.length:=by omega
      have h0:¬m[nx'].Y0<=ys[k]:=λh0=>by rw[hbb.2 ⟨hlt,h0⟩]at h;cases h
      by_cases e:nx'=j
      ·subst e;rw[aO hlt]at hr;injection hr with hr;subst hr;omega
      ·have:=nF.1 h3 nx' j hlt hjl (by omega);have hr':=(bD.1 hr).2;rw[hr']at this;omega
   ·refine⟨nx,rfl,bZ _,hIn,by dsimp only;omega,λr hr=>I.Sd r (j7.1 hr).1,λr hr h=>j7.2 ⟨I.Se r hr ys[k] hyk h,by simpa using h⟩,λr hr=>?_⟩;have hr:=j7.1 hr;have hr2:ys[k]<r.Y1:=by simpa using hr.2
    exact⟨I.low r hr.1 ys[k] hyk,hr2⟩
   ·rintro o ho;refine SV ho ?_<|λr=>r.elim
    rintro⟨nw,b⟩⟨nx',e1,g1,g2,g3,g4,g5,g6⟩;dsimp only at e1 g2 g3 g4 g5 ⊢;subst e1;refine Ti (by omega)<|Ti hk1 ?_
    have hnm:∀r∈nw,r∈l:=λr hr=>(hmem r).1<|List.take_subset _ _<|g3 r hr
    obtain⟨row,nw',s1,s2,s3,s4,s5,s6,s7⟩:=FA (N:=N) (l:=nw) (by omega)<|λr hr=>hok r<|hnm r hr
    refine IT s1 ?_;have hlimx:∀c∈row,c∈vv l:=λc hc=>by
     obtain⟨r,hr,h⟩:=s7 c hc;exact vx.2 ⟨r,hnm r hr,h⟩
    have hol:out.length<=2*l.length:=by have:=I.lim.len I.can;rw[ko,dA]at this;exact this
    have hox:∀c∈out,c.Xs.length<=2*l.length:=λc hc=>by
     have:=I.lim.row I.can (b:=cJ c)<|dH.2 ⟨c,hc,rfl⟩
     rw[m7]at this;exact this
    obtain⟨out',p1,p2⟩:=I6 (N:=N) (s:=out) (b:=⟨ys[k],ys[k+1],row⟩) (by omega) (λc hc=>by have:=hox c hc;omega);refine IT p1 ?_;have htop:∀c∈out.map cJ,c.y1<=(cJ ⟨ys[k],ys[k+1],row⟩).y0:=λc hc=>by
     obtain⟨d,hd,rfl⟩:=dH.1 hc;exact I.top d hd ys[k] hyk
    have hcan:=yf I.can htop s3 s4;refine SJ ⟨⟨k+1,nx',rfl,rfl, .inl hk1,⟨by dsimp only;rw[p2];exact hcan,λc hc y hy1=>?_,λx y=>?_,?_,λr hr=>g3 r<|s2.subset hr,λr hr y hy1 h=>?_,by rw[s2.length_eq];exact g2,g1,λj r y hj hr hy1=>?_,λr hr y hy1=>?_⟩⟩,by simp only[cA];omega⟩
    ·rw[hyk1]at hy1;injection hy1 with hy1;subst hy1
     have hm':cJ c∈kC (out.map cJ) (cJ ⟨ys[k],ys[k+1],row⟩):=by rw[<-p2];exact dH.2 ⟨c,hc,rfl⟩
     exact yg htop (by show ys[k]<=ys[k+1];omega) _ hm'
    ·simp only[hyk1,Option.some.injEq,forall_eq'];unfold w9;rw[p2,ye htop (λc hc=>(I.can.each c hc).1)<|λh=>absurd h (by show ¬ys[k+1]<=ys[k];omega)]
     by_cases hyy:ys[k]<=y/\y<ys[k+1]
     ·rw[aC (show(cJ ⟨ys[k],ys[k+1],row⟩).y0<=y/\y<(cJ ⟨ys[k],ys[k+1],row⟩).y1 from hyy),bL hyy.2,Bool.and_true];show qG row x=_;rw[s5,dY,C8,jG];constructor
      ·rintro⟨r,hr,h⟩;have hrm:=List.take_subset _ _<|g3 r hr
       have h5:=g5 r hr;have:=hy.next hyk hyk1 (y1m r hrm) h5.2;exact⟨r,hnm r hr,h,by omega,by omega⟩
      ·rintro⟨r,hr,h,h7,h8⟩;have hrm:=(hmem r).2 hr;have h9:r.Y0<=ys[k]:=by
        by_cases h10:r.Y0<=ys[k]
        ·exact h10
        ·have:=hy.next hyk hyk1 (y0m r hrm) (by omega);omega
       have h11:r∈m.take nx':=by
        obtain⟨j,hj⟩:=dZ hrm
        by_cases h12:j<nx'
        ·exact fQ (i:=j) (by rw[List.getElem?_take_of_lt h12];exact hj)
        ·have:=g6 j r (by omega) hj;omega
       exact⟨r,g4 r h11 (by omega),h⟩
     ·rw[aD (show ¬((cJ ⟨ys[k],ys[k+1],row⟩).y0<=y/\y<(cJ ⟨ys[k],ys[k+1],row⟩).y1)from hyy)];show w9 (out.map cJ) x y=_;rw[hcov]
      by_cases h1:y<ys[k]
      ·rw[bL h1,bL (show y<ys[k+1]by omega)]
      ·rw[bG h1,bG (show ¬y<ys[k+1]by omega)]
    ·show zC (vv l) (kb l) (out'.map cJ);rw[p2];exact I.lim.push (yml _<|cL _) (yml _<|cL _) hlimx
    ·rw[hyk1]at hy1;injection hy1 with hy1;subst hy1
     exact s2.symm.subset<|g4 r hr (by omega)
    ·rw[hyk1]at hy1;injection hy1 with hy1;subst hy1
     exact hy.next hyk hyk1 (y0m r<|fQ hr)<|g6 j r hj hr
    ·rw[hyk1]at hy1;injection hy1 with hy1;subst hy1
     have:=(g5 r<|s2.subset hr).1;omega
  ·have hge:¬k+1<ys.length:=by have:=of_decide_eq_false h;omega
   refine⟨I.can,λx y=>?_,I.lim⟩;rw[I.cover]
   by_cases hyn:ys= []
   ·have:uL l x y=false:=by
     rw[<-jy,jG];rintro⟨r,hr,_⟩;have:=y0m r<|(hmem r).2 hr
     rw[hyn]at this;cases this
    rw[this];rfl
   ·have hkl:k<ys.length:=by
     rcases hk with h|h
     ·exact h
     ·subst h;exact List.length_pos_iff.2 hyn
    rw[aO hkl];simp only[Option.some.injEq,forall_eq']
    cases hc:uL l x y with
    |false=>rfl
    |true=>
     obtain⟨r,hr,_,h7,h8⟩:=jG.1 hc;have:=y1m r<|(hmem r).2 hr
     obtain⟨j,hj⟩:=dZ this;have hjl:=(bD.1 hj).1;have:r.Y1<=ys[k]:=by
      by_cases e:j=k
      ·subst e;rw[aO hkl]at hj;injection hj with hj;omega
      ·have:=hy.lt (show j<k by omega) hj<|aO hkl;omega
     rw[bL (show y<ys[k]by omega)];rfl
 ·refine⟨0,0,rfl,rfl, .inr rfl,?_⟩;show P4 l m ys 0 [] [] 0;refine⟨fJ.nil,λc hc=>(by cases hc),λx y=>?_,λb hb=>(by cases hb),λr hr=>(by cases hr),λr hr=>(by rw[List.take_zero]at hr;cases hr),bZ _,cZ _,λj r y _ hr hy0=>?_,λr hr=>(by cases hr)⟩
  ·show false=_;symm;rw[Bool.and_eq_false_iff]
   cases hc:uL l x y with
   |false=>exact .inl rfl
   |true=>
    right;obtain⟨r,hr,_,h7,h8⟩:=jG.1 hc;have hr0:=y0m r<|(hmem r).2 hr
    have hpos:0<ys.length:=List.length_pos_of_mem hr0;rw[decide_eq_false_iff_not];intro h;have h:=h ys[0]<|aO hpos
    obtain⟨j,hj⟩:=dZ hr0
    by_cases e:j=0
    ·subst e;rw[aO hpos]at hj;injection hj with hj;omega
    ·have:=hy.lt (show 0<j by omega) (aO hpos) hj;omega
  ·obtain⟨j',hj'⟩:=dZ<|y0m r<|fQ hr
   by_cases e:j'=0
   ·subst e;rw[hy0]at hj';injection hj' with hj';omega
   ·have:=hy.lt (show 0<j' by omega) hy0 hj';omega
 ·rintro o ho;refine SV ho (λs h=>Sh h)<|λr=>r.elim
end
section
variable {N:Nat}
def Db:List Int->List (Int×Int)
 |a::b::l=>(a,b)::Db l
 |_=>[]
theorem Cv:∀(xs:List Int),(Db xs).length=xs.length / 2
 | []=>rfl
 | [a]=>by simp[Db]
 |a::b::l=>by unfold Db;rw[dX,Cv l];simp only[dX];omega
theorem Av:∀(xs:List Int)(j:Nat)(h:2*j+1<xs.length),(Db xs)[j]? =some (xs[2*j],xs[2*j+1])
 | [],j,h=>by simp at h
 | [a],j,h=>by simp at h
 |a::b::l,0,h=>rfl
 |a::b::l,j+1,h=>by
  have:=Av l j (by simp at h;omega);unfold Db;rw[List.getElem?_cons_succ,this];have e1:(a::b::l)[2*(j+1)]=l[2*j]'(by simp at h;omega):=by simp[show 2*(j+1)=2*j+1+1 by omega]
  have e2:(a::b::l)[2*(j+1)+1]=l[2*j+1]'(by simp at h;omega):=by simp[show 2*(j+1)+1=2*j+1+1+1 by omega]
  rw[e1,e2]
theorem Aw:∀{xs:List Int},xs.length % 2=0->dR (Db xs)=xs
 | [],_=>rfl
 | [a],h=>by simp at h
 |a::b::l,h=>by unfold Db;rw[j4,Aw (by simp at h;omega)]
theorem Mq{xs:List Int}(h:kf xs)(he:xs.length % 2=0)(x:Int):qG xs x=j3 (Db xs) x:=by
 have:=vt (l:=Db xs) (by rw[Aw he];exact h) x;rwa[Aw he]at this
theorem FE{xs:List Int}:∀p∈Db xs,p.1∈xs/\p.2∈xs:=by
 intro p hp;obtain⟨j,hj⟩:=dZ hp;have hjl:=(bD.1 hj).1;rw[Cv]at hjl;rw[Av xs j (by omega)]at hj;injection hj with hj;subst hj
 exact⟨cL _,cL _⟩
theorem H7{xs:List Int}(h:kf xs):∀p∈Db xs,p.1<p.2:=by
 intro p hp;obtain⟨j,hj⟩:=dZ hp;have hjl:=(bD.1 hj).1;rw[Cv]at hjl;rw[Av xs j (by omega)]at hj;injection hj with hj;subst hj
 exact h.lt (show 2*j<2*j+1 by omega) (aO _)<|aO _
def oh(b:aA):List aI:=(Db b.Xs).map λp=>⟨p.1,b.Y0,p.2,b.Y1⟩
def aU(s:List aA):List aI:=s.flatMap oh
theorem oj(b:aA)(s:List aA):aU (b::s)=oh b++aU s:=rfl
theorem oS(b:aA):(oh b).length=b.Xs.length / 2:=by unfold oh;rw[dA,Cv]
theorem pw(s t:List aA):aU (s++t)=aU s++aU t:=List.flatMap_append
theorem Bi(s:List aA)(k:Nat):(aU<|s.take k).length<=(aU s).length:=by
 conv=>rhs;rw[<-List.take_append_drop k s,pw,dK]
 omega
theorem Dc{s:List aA}{A B:Nat}(h1:s.length<=A)(h2:∀b∈s,b.Xs.length<=B):(aU s).length<=A*B:=by
 induction s generalizing A with
 |nil=>simp[aU]
 |cons b s ih=>
  rw[oj,dK,oS];simp at h1;obtain⟨A',rfl⟩:∃A',A=A'+1:=⟨A - 1,by omega⟩;have:=ih (A:=A') (by omega)<|λc hc=>h2 c<|iT _ hc
  have:=h2 b (by simp);rw[Nat.add_mul];omega
theorem Dd{s:List aA}(he:∀b∈s,b.Xs.length % 2=0)(h1:s.length<=1099511627776)(h2:∀b∈s,b.Xs.length<=1099511627776/\b.Xs.length<N)(h3:(aU s).length<=1099511627776):kH N s=some (aU s):=by
 refine Tm ?_;unfold kH;refine Sr (Ts (λk t=>t=aU (s.take k)) (by omega) rfl<|λk t hk e=>?_)<|λt e=>Sh (by rw[e,eK])
 subst e;refine Ti hk ?_;have hm:=cL hk;generalize hb:s[k]=b at hm ⊢;have heb:=he b hm;have hbl:=h2 b hm;have hts:aU (s.take<|k+1)=aU (s.take k)++oh b:=by
  rw[eI hk,pw,hb];simp[aU]
 have hle:=Bi s<|k+1
 rw[hts,dK,oS]at hle;refine Sr (Tw (Go:=λs'=>s'.1=aU (s.take<|k+1)) (Rt:=λ_=>True) (λs'=>∃j:Nat,s'.2=((2*j:Nat):Int)/\2*j<=b.Xs.length/\s'.1=aU (s.take k)++(oh b).take j) (λs'=>b.Xs.length - s'.2.toNat) ?_ ⟨0,rfl,by omega,by simp⟩ (by simp;omega)) ?_
 ·rintro⟨acc,i⟩⟨j,e1,hj,e2⟩;dsimp only at e1 e2 ⊢;subst e1;subst e2;refine SP (λh=>?_)<|λh=>SU ?_
  ·have hlt:2*j+1<b.Xs.length:=by have:=of_decide_eq_true h;omega
   refine Ti (by omega) ?_;rw[bK (by omega)];refine Ti hlt<|Td ?_<|SJ ⟨⟨j+1,?_,by omega,?_⟩,?_⟩
   ·simp;rw[oS];omega
   ·rw[EN (by omega)];congr 1
   ·rw[lL];congr 1;have hg:(oh b)[j]? =some ⟨b.Xs[2*j],b.Y0,b.Xs[2*j+1],b.Y1⟩:=by
     unfold oh;rw[fL,Av _ _ hlt];rfl
    have hjl:=(bD.1 hg).1;rw[eI hjl,(bD.1 hg).2]
   ·rw[EN (by omega)];simp only[cA];omega
  ·have hge:2*j=b.Xs.length:=by have:=of_decide_eq_false h;omega
   show aU (s.take k)++(oh b).take j=_;rw[hts,mF (l:=oh b) (by rw[oS];omega)]
 ·rintro o ho;exact SV ho (λs' h=>Sh h)<|λr=>r.elim
theorem Mr{s:List aA}(h1:s.length<=1099511627776)(h2:∀b∈s,b.Xs.length<=1099511627776)(h3:(aU s).length<=1099511627776):nV N s=some (((aU s).length:Nat):Int):=by
 refine Tm ?_;unfold nV;refine Sr (Ts (λk t=>t=(((aU<|s.take k).length:Nat):Int)) (by omega) rfl<|λk t hk e=>?_)<|λt e=>Sh (by rw[e,eK])
 subst e;refine Ti hk<|Sh ?_
 have hm:=cL hk;have hbl:=h2 _ hm;have hts:aU (s.take<|k+1)=aU (s.take k)++oh s[k]:=by
  rw[eI hk,pw];simp[aU]
 have hle:=Bi s<|k+1
 rw[hts,dK,oS]at hle;have e:Int.tdiv ((s[k].Xs.length:Nat):Int) 2=((s[k].Xs.length / 2:Nat):Int):=by
  rw[show(2:Int)=((2:Nat):Int)by rfl,<-Int.ofNat_tdiv]
 rw[e,G0 (by omega),wrap_add (by omega),hts,dK,oS]
theorem H8(l m:List aI)(x y:Int):uL (l++m) x y=(uL l x y||uL m x y):=List.any_append
theorem K5{b:aA}(h:kf b.Xs)(he:b.Xs.length % 2=0)(x y:Int):uL (oh b) x y=(qG b.Xs x&&(decide (b.Y0<=y)&&decide (y<b.Y1))):=by
 rw[Mq h he,dY,jG,bX,vr,bX,bJ,bJ];unfold oh;constructor
 ·rintro⟨r,hr,h1,h2⟩;obtain⟨p,hp,rfl⟩:=dH.1 hr;exact⟨⟨p,hp,h1⟩,h2⟩
 ·rintro⟨⟨p,hp,h1⟩,h2⟩;exact⟨_,dH.2 ⟨p,hp,rfl⟩,h1,h2⟩
theorem qY:∀{s:List aA},fJ (s.map cJ)->∀x y,uL (aU s) x y=w9 (s.map cJ) x y
 | [],_,x,y=>rfl
 |b::s,h,x,y=>by
  rw[oj,H8,qY h.tail x y];have hb:=h.each (cJ b) (by simp);rw[K5 hb.2.2.1 hb.2.2.2];unfold w9;rw[eL,oe]
  by_cases hy:b.Y0<=y/\y<b.Y1
  ·rw[aC (show(cJ b).y0<=y/\y<(cJ b).y1 from hy),mN<|λc hc=> .inl (by have:=h.C6 c hc;have e:(cJ b).y1=b.Y1:=rfl;omega),bL hy.1,bL hy.2];show(qG b.Xs x&&true||false)=qG b.Xs x;simp
  ·rw[aD (show ¬((cJ b).y0<=y/\y<(cJ b).y1)from hy)];have:(decide (b.Y0<=y)&&decide (y<b.Y1))=false:=by rw[Bool.and_eq_false_iff,decide_eq_false_iff_not,decide_eq_false_iff_not];omega
   rw[this];simp
theorem s8{s:List aA}{r:aI}(h:r∈aU s):∃b∈s,∃p∈Db b.Xs,r= ⟨p.1,b.Y0,p.2,b.Y1⟩:=by
 unfold aU oh at h;obtain⟨b,hb,h⟩:=List.mem_flatMap.1 h;obtain⟨p,hp,rfl⟩:=dH.1 h;exact⟨b,hb,p,hp,rfl⟩
theorem De{s:List aA}{X Y:List Int}(h:fJ (s.map cJ))(hl:zC X Y (s.map cJ))(hx:∀c∈X,small c)(hy:∀c∈Y,small c):∀r∈aU s,DV r/\(r.X0∈X/\r.X1∈X)/\r.Y0∈Y/\r.Y1∈Y:=by
 intro r hr;obtain⟨b,hb,p,hp,rfl⟩:=s8 hr;have hm:cJ b∈s.map cJ:=dH.2 ⟨b,hb,rfl⟩;have hc:=h.each _ hm;have hll:=hl _ hm;have h1:=FE p hp;have h2:=hll.2.2 p.1 h1.1;have h3:=hll.2.2 p.2 h1.2;exact⟨⟨H7 hc.2.2.1 p hp,hc.1,hx _ h2,hx _ h3,hy _ hll.1,hy _ hll.2.1⟩,⟨h2,h3⟩,hll.1,hll.2.1⟩
theorem zq{l:List Int}{x:Int}(h:∀c∈l,c<=x):qG l x=(l.length % 2==1):=by unfold qG;rw[I4 h]
theorem Bj{l:List Int}{a x:Int}(h:x<a):qG (l++[a]) x=qG l x:=by unfold qG;rw[C3,pr,aD (by omega),Fz];rfl
def JW(l:List Int):Bool:=l.length % 2==1
theorem Df(l:List Int)(a:Int):JW (l++[a]) = !JW l:=by
 unfold JW;rw[dK,dY,Bool.not_eq_true',beq_iff_eq,beq_eq_false_iff_ne];simp;omega
structure G1 (iG:Bool->Bool->Bool) (a b a' b' out:List Int) (inA inB is:Bool) (pa pb:List Int):Prop where
 ea:a=pa++a'
 eb:b=pb++b'
 oa:inA=JW pa
 ob:inB=JW pb
 oo:is=JW out
 ok:is=iG inA inB
 low:∀c,(c∈pa\/c∈pb\/c∈out)->∀d,(d∈a'\/d∈b')->c<d
 inc:kf out
 P5:∀x,(∀d,(d∈a'\/d∈b')->x<d)->qG out x=iG (qG pa x) (qG pb x)
 mem:∀c∈out,c∈pa\/c∈pb
 len:out.length<=pa.length+pb.length
theorem G1.step{iG:Bool->Bool->Bool}{a b a' b' out:List Int}{inA inB is:Bool}{pa pb:List Int}(I:G1 iG a b a' b' out inA inB is pa pb)(ha:kf a)(hb:kf b)(x:Int)(ta tb:List Int)(wa wb:Bool)
  (h1:a'=(if wa then x::ta else ta)) (h2:b'=(if wb then x::tb else tb)) (hw:wa=true\/wb=true) (hx:∀d,(d∈ta\/d∈tb)->x<d):
  G1 iG a b ta tb (if iG (inA ^^ wa) (inB ^^ wb)=is then out else out++[x]) (inA ^^ wa) (inB ^^ wb) (iG (inA ^^ wa)<|inB ^^ wb) (if wa then pa++[x]else pa) (if wb then pb++[x]else pb):=by
 have hxm:x∈a'\/x∈b':=by
  rcases hw with h|h
  ·left;rw[h1,aC h];simp
  ·right;rw[h2,aC h];simp
 have hsub:∀d,(d∈ta\/d∈tb)->d∈a'\/d∈b':=λd hd=>by
  rcases hd with h|h
  ·left;rw[h1];split
   ·exact iT _ h
   ·exact h
  ·right;rw[h2];split
   ·exact iT _ h
   ·exact h
 have hlow:∀c,(c∈pa\/c∈pb\/c∈out)->c<x:=λc hc=>I.low c hc x hxm;have hpa:∀c∈(if wa then pa++[x]else pa),c∈pa\/(wa=true/\c=x):=λc hc=>by
  split at hc
  ·rename_i h
   rcases cR.1 hc with h'|h'
   ·exact .inl h'
   ·simp at h';exact .inr ⟨h,h'⟩
  ·exact .inl hc
 have hpb:∀c∈(if wb then pb++[x]else pb),c∈pb\/(wb=true/\c=x):=λc hc=>by
  split at hc
  ·rename_i h
   rcases cR.1 hc with h'|h'
   ·exact .inl h'
   ·simp at h';exact .inr ⟨h,h'⟩
  ·exact .inl hc
 have hout:∀c∈(if iG (inA ^^ wa) (inB ^^ wb)=is then out else out++[x]),c∈out\/c=x:=λc hc=>by
  split at hc
  ·exact .inl hc
  ·rcases cR.1 hc with h'|h'
   ·exact .inl h'
   ·simp at h';exact .inr h'
 have ooA:(inA ^^ wa)=JW (if wa then pa++[x]else pa):=by
  rw[I.oa];cases wa <;> simp[Df]
 have ooB:(inB ^^ wb)=JW (if wb then pb++[x]else pb):=by
  rw[I.ob];cases wb <;> simp[Df]
 have ooO:iG (inA ^^ wa) (inB ^^ wb)=JW (if iG (inA ^^ wa) (inB ^^ wb)=is then out else out++[x]):=by
  split
  ·rename_i h;rw[h];exact I.oo
  ·rename_i h;rw[Df,<-I.oo]
   cases hk:iG (inA ^^ wa) (inB ^^ wb) <;> cases his:is <;> simp_all
 refine⟨?_,?_,ooA,ooB,ooO,rfl,?_,?_,?_,?_,?_⟩
 ·rw[I.ea,h1];split <;> simp
 ·rw[I.eb,h2];split <;> simp
 ·intro c hc d hd;have hd':=hx d hd;have hdd:=hsub d hd
  rcases hc with h|h|h
  ·rcases hpa c h with h'|⟨_,rfl⟩
   ·exact I.low c (.inl h') d hdd
   ·exact hd'
  ·rcases hpb c h with h'|⟨_,rfl⟩
   ·exact I.low c (.inr<|.inl h') d hdd
   ·exact hd'
  ·rcases hout c h with h'|rfl
   ·exact I.low c (.inr<|.inr h') d hdd
   ·exact hd'
 ·split
  ·exact I.inc
  ·exact I.inc.K4 λc hc=>hlow c<|.inr<|.inr hc
 ·intro y hy
  by_cases hxy:y<x
  ·have e1:qG (if wa then pa++[x]else pa) y=qG pa y:=by split;exact Bj hxy;rfl
   have e2:qG (if wb then pb++[x]else pb) y=qG pb y:=by split;exact Bj hxy;rfl
   have e3:qG (if iG (inA ^^ wa) (inB ^^ wb)=is then out else out++[x]) y=qG out y:=by split;rfl;exact Bj hxy
   rw[e1,e2,e3];refine I.P5 y λd hd=>?_;have:x<=d:=by
    rcases hd with h|h
    ·rw[h1]at h;split at h
     ·rcases dI.1 h with rfl|h
      ·exact Int.le_refl _
      ·have:=hx d<|.inl h;omega
     ·have:=hx d<|.inl h;omega
    ·rw[h2]at h;split at h
     ·rcases dI.1 h with rfl|h
      ·exact Int.le_refl _
      ·have:=hx d<|.inr h;omega
     ·have:=hx d<|.inr h;omega
   omega
  ·rw[zq (l:=if wa then pa++[x]else pa),zq (l:=if wb then pb++[x]else pb),zq]
   ·have e1:=ooA;have e2:=ooB;have e3:=ooO;unfold JW at e1 e2 e3;rw[<-e1,<-e2,<-e3]
   ·intro c hc
    rcases hout c hc with h|rfl
    ·have:=hlow c<|.inr<|.inr h;omega
    ·omega
   ·intro c hc
    rcases hpb c hc with h|⟨_,rfl⟩
    ·have:=hlow c<|.inr<|.inl h;omega
    ·omega
   ·intro c hc
    rcases hpa c hc with h|⟨_,rfl⟩
    ·have:=hlow c<|.inl h;omega
    ·omega
 ·intro c hc;have m1:∀c,c∈pa->c∈(if wa then pa++[x]else pa):=λc h=>by split;exact List.mem_append_left _ h;exact h
  have m2:∀c,c∈pb->c∈(if wb then pb++[x]else pb):=λc h=>by split;exact List.mem_append_left _ h;exact h
  rcases hout c hc with h|rfl
  ·rcases I.mem c h with h|h
   ·exact .inl<|m1 c h
   ·exact .inr<|m2 c h
  ·rcases hw with h|h
   ·left;rw[aC h];simp
   ·right;rw[aC h];simp
 ·have:=I.len;have h3:(if wa then pa++[x]else pa).length+(if wb then pb++[x]else pb).length>=pa.length+pb.length+1:=by
   rcases hw with h|h
   ·subst h;cases wb <;> simp <;> omega
   ·subst h;cases wa <;> simp <;> omega
  split
  ·omega
  ·simp at h3 ⊢;omega
end
section
variable {N:Nat}
theorem kJ(x:Int)(l:List Int):idx (x::l) 0=some x:=rfl
theorem vz{α:Type}(x:α)(l:List α):uv (x::l) 1 (((x::l).length:Nat):Int)=some l:=ry (x::l) 1 (by simp)
theorem lU{α:Type}(x:α)(l:List α):decide ((((x::l).length:Nat):Int)>0)=true:=bL (by simp)
theorem yh{α:Type}(x:α)(l:List α):((((x::l).length:Nat):Int)==0)=false:=by rw[beq_eq_false_iff_ne];simp;omega
theorem H9{a b:List Int}(ha:kf a)(hb:kf b)(h:a≠[]\/b≠[]):∃x ta tb wa wb,a=(if wa then x::ta else ta)/\b=(if wb then x::tb else tb)/\(wa=true\/wb=true)/\(∀d,(d∈ta\/d∈tb)->x<d):=by
 match a,b,ha,hb,h with
 | [],[],_,_,h=>rcases h with h|h <;> exact absurd rfl h
 |x::ta,[],ha,_,_=>exact⟨x,ta,[],true,false,rfl,rfl, .inl rfl,λd hd=>by rcases hd with h|h;exact ha.head d h;cases h⟩
 | [],y::tb,_,hb,_=>exact⟨y,[],tb,false,true,rfl,rfl, .inr rfl,λd hd=>by rcases hd with h|h;cases h;exact hb.head d h⟩
 |x::ta,y::tb,ha,hb,_=>
  rcases Int.lt_trichotomy x y with h|h|h
  ·refine⟨x,ta,y::tb,true,false,rfl,rfl, .inl rfl,λd hd=>?_⟩
   rcases hd with h1|h1
   ·exact ha.head d h1
   ·rcases dI.1 h1 with rfl|h1
    ·exact h
    ·have:=hb.head d h1;omega
  ·subst h;exact⟨x,ta,tb,true,true,rfl,rfl, .inl rfl,λd hd=>by rcases hd with h|h;exact ha.head d h;exact hb.head d h⟩
  ·refine⟨y,x::ta,tb,false,true,rfl,rfl, .inr rfl,λd hd=>?_⟩
   rcases hd with h1|h1
   ·rcases dI.1 h1 with rfl|h1
    ·exact h
    ·have:=ha.head d h1;omega
   ·exact hb.head d h1
theorem JX{φ:Bool->Bool->Option Bool}{iG:Bool->Bool->Bool}(hφ:∀p q,φ p q=some (iG p q))(hk:iG false false=false){a b:List Int}(ha:kf a)(hb:kf b)(hae:a.length % 2=0)(hbe:b.length % 2=0)
  (uS:a.length<=1099511627776) (hbl:b.length<=1099511627776) (hN:a.length+b.length<N):
  Ok (te N a b φ) (λm=>kf m/\m.length % 2=0/\(∀x,qG m x=iG (qG a x) (qG b x))/\∀c∈m,c∈a\/c∈b):=by
 unfold te
 refine Sr (Tw (Go:=λs=>kf s.2.2.1/\s.2.2.1.length % 2=0/\(∀x,qG s.2.2.1 x=iG (qG a x) (qG b x))/\∀c∈s.2.2.1,c∈a\/c∈b) (Rt:=λ_=>True)
  (λs=>∃pa pb,G1 iG a b s.1 s.2.1 s.2.2.1 s.2.2.2.1 s.2.2.2.2.1 s.2.2.2.2.2 pa pb) (λs=>s.1.length+s.2.1.length) ?_ ?_ hN) ?_
 ·rintro⟨a',b',out,inA,inB,is⟩⟨pa,pb,I⟩;dsimp only at I ⊢;have ha':kf a':=by have:=ha;rw[I.ea]at this;exact(oz.1 this).2.1
  have hb':kf b':=by have:=hb;rw[I.eb]at this;exact(oz.1 this).2.1
  have hle:pa.length+a'.length=a.length:=by rw[I.ea];simp
  have hlb:pb.length+b'.length=b.length:=by rw[I.eb];simp
  have hlo:=I.len
  by_cases hne:a'≠[]\/b'≠[]
  ·obtain⟨x,ta,tb,wa,wb,h1,h2,hw,hx⟩:=H9 ha' hb' hne;have J:=I.step ha hb x ta tb wa wb h1 h2 hw hx;have fin:∀(sa sb:List Int×Bool),sa=(ta,inA ^^ wa)->sb=(tb,inB ^^ wb)->
     Ok ((φ sa.2 sb.2).bind λx220=>(bif x220 != is then((app 8 out ([x]:List Int)).bind λx227=>some (x227,x220))else some (out,is)).bind λs224=>some<|Fl.nx (sa.1,sb.1,s224.1,sa.2,sb.2,s224.2))
      (LJ (λs':List Int×List Int×List Int×Bool×Bool×Bool=>(∃pa pb,G1 iG a b s'.1 s'.2.1 s'.2.2.1 s'.2.2.2.1 s'.2.2.2.2.1 s'.2.2.2.2.2 pa pb)/\s'.1.length+s'.2.1.length<a'.length+b'.length) (λs=>kf s.2.2.1/\s.2.2.1.length % 2=0/\(∀x,qG s.2.2.1 x=iG (qG a x) (qG b x))/\∀c∈s.2.2.1,c∈a\/c∈b) (λ_:Empty=>True)):=by
    rintro _ _ rfl rfl;refine IT (hφ _ _) ?_;have hlt:ta.length+tb.length<a'.length+b'.length:=by
     rw[h1,h2]
     rcases hw with h|h
     ·subst h;cases wb <;> simp <;> omega
     ·subst h;cases wa <;> simp <;> omega
    by_cases he:iG (inA ^^ wa) (inB ^^ wb)=is
    ·rw[aC he]at J;refine IT (x:=(out,is)) (by rw[he,show(is != is)=false by simp,aM]) ?_;rw[he]at J;exact SJ ⟨⟨_,_,J⟩,hlt⟩
    ·rw[aD he]at J;refine IT (x:=(out++[x],iG (inA ^^ wa)<|inB ^^ wb)) (by rw[show(iG (inA ^^ wa) (inB ^^ wb) != is)=true by simp[he],aK,lS (by simp;omega),aB])<|SJ ⟨⟨_,_,J⟩,hlt⟩
   rcases hw with rfl|rfl
   ·rw[aC rfl]at h1;subst h1;refine IT (x:=true) (by rw[lU,aK]) ?_;rw[aK];have hle2:(bif((b'.length:Nat):Int)==0 then some true else(bif decide ((((x::ta).length:Nat):Int)>0)then((idx (x::ta) 0).bind λx181=>(idx b' 0).bind λx183=>some<|decide<|x181<=x183)else some false))=some true:=by
     cases b' with
     |nil=>rfl
     |cons y b''=>
      rw[yh,aM,lU,aK,kJ,aB,kJ,aB];have:x<=y:=by
       cases wb with
       |true=>simp at h2;omega
       |false=>have:=hx y (.inr (by simp at h2;rw[<-h2];simp));omega
      rw[bL this]
    refine IT hle2 ?_;rw[aK];refine IT (x:=x) (by rw[kJ,aB]) ?_;refine IT (x:=true) (by rw[lU,aK,kJ,aB];simp) ?_;refine IT (x:=(ta,!inA)) (by rw[aK,vz,aB]) ?_
    cases wb with
    |true=>
     rw[aC rfl]at h2;subst h2;refine IT (x:=true) (by rw[lU,aK,kJ,aB];simp) ?_;refine IT (x:=(tb,!inB)) (by rw[aK,vz,aB]) ?_;exact fin _ _ (by simp) (by simp)
    |false=>
     have h2:b'=tb:=h2;subst h2;refine IT (x:=false) ?_ ?_
     ·cases b' with
      |nil=>rfl
      |cons y b''=>
       have:=hx y<|.inr (by simp)
       rw[lU,aK,kJ,aB,show(y==x)=false by rw[beq_eq_false_iff_ne];omega]
     ·refine IT (x:=(b',inB)) (by rw[aM]) ?_;exact fin _ _ (by simp) (by simp)
   ·cases wa with
    |true=>
     rw[aC rfl]at h1 h2;subst h1;subst h2;refine IT (x:=true) (by rw[lU,aK]) ?_;rw[aK];refine IT (x:=true) (by rw[yh,aM,lU,aK,kJ,aB,kJ,aB];simp) ?_;rw[aK];refine IT (x:=x) (by rw[kJ,aB]) ?_;refine IT (x:=true) (by rw[lU,aK,kJ,aB];simp) ?_;refine IT (x:=(ta,!inA)) (by rw[aK,vz,aB]) ?_;refine IT (x:=true) (by rw[lU,aK,kJ,aB];simp) ?_;refine IT (x:=(tb,!inB)) (by rw[aK,vz,aB]) ?_;exact fin _ _ (by simp) (by simp)
    |false=>
     have h1:a'=ta:=h1;rw[aC rfl]at h2;subst h1;subst h2;refine IT (x:=true) (by rw[lU,Mh];simp) ?_;rw[aK];refine IT (x:=false) ?_ ?_
     ·rw[yh,aM]
      cases a' with
      |nil=>rfl
      |cons y a''=>
       have:=hx y<|.inl (by simp)
       rw[lU,aK,kJ,aB,kJ,aB,bG (by omega)]
     ·rw[aM];refine IT (x:=x) (by rw[kJ,aB]) ?_;refine IT (x:=false) ?_ ?_
      ·cases a' with
       |nil=>rfl
       |cons y a''=>
        have:=hx y<|.inl (by simp)
        rw[lU,aK,kJ,aB,show(y==x)=false by rw[beq_eq_false_iff_ne];omega]
      ·refine IT (x:=(a',inA)) (by rw[aM]) ?_;refine IT (x:=true) (by rw[lU,aK,kJ,aB];simp) ?_;refine IT (x:=(tb,!inB)) (by rw[aK,vz,aB]) ?_;exact fin _ _ (by simp) (by simp)
  ·have ea:a'= []:=Classical.byContradiction λh=>hne<|.inl h
   have eb:b'= []:=Classical.byContradiction λh=>hne<|.inr h
   subst ea;subst eb;refine IT (x:=false) rfl ?_;refine SU ⟨I.inc,?_,λx=>?_,λc hc=>?_⟩
   ·have h1:=I.ea;have h2:=I.eb;rw[pz]at h1 h2;have h3:JW out=false:=by
     rw[<-I.oo,I.ok,I.oa,I.ob,<-h1,<-h2];unfold JW;rw[hae,hbe];exact hk
    unfold JW at h3;rw[beq_eq_false_iff_ne]at h3;dsimp only;omega
   ·have:=I.P5 x (λd hd=>by rcases hd with h|h <;> cases h);have h1:=I.ea;have h2:=I.eb;rw[pz]at h1 h2;rw[h1,h2];exact this
   ·have h1:=I.ea;have h2:=I.eb;rw[pz]at h1 h2;rw[h1,h2];exact I.mem c hc
 ·exact⟨[],[],rfl,rfl,rfl,rfl,rfl,hk.symm,λc hc=>(by rcases hc with h|h|h <;> cases h),kN,λx _=>hk.symm,λc hc=>(by cases hc),bZ _⟩
 ·rintro o ho;exact SV ho (λs h=>Sh h)<|λr=>r.elim
theorem fJ.app{s t:List Bd}(h:fJ (s++t)):fJ t:=⟨λb hb=>h.each b<|List.mem_append_right _ hb,(oz.1 h.ord).2.1⟩
theorem fJ.low{b:Bd}{s:List Bd}(h:fJ (b::s)):∀c∈b::s,b.y0<=c.y0:=λc hc=>by
 rcases dI.1 hc with rfl|hc
 ·exact Int.le_refl _
 ·have:=h.C6 c hc;have:=(h.each b (by simp)).1;omega
theorem fJ.high{s:List Bd}{b:Bd}(h:fJ (s++[b])):∀c∈s++[b],c.y1<=b.y1:=λc hc=>by
 rcases cR.1 hc with hc|hc
 ·have:=((oz.1 h.ord).2.2 c hc b (by simp)).1;have:=(h.each b (by simp)).1;omega
 ·simp at hc;subst hc;exact Int.le_refl _
def HE(s:List aA)(y e:Int):List Int×Int:=match s with
 | []=>([],e)
 |b::_=>if y<b.Y0 then([],if b.Y0<e then b.Y0 else e)else(b.Xs,if b.Y1<e then b.Y1 else e)
theorem K6{α:Type}(x:α)(l:List α):idx (x::l) 0=some x:=rfl
theorem Nj(s:List aA)(y e:Int):oI N s y e=some (HE s y e):=by
 unfold oI HE
 cases s with
 |nil=>rfl
 |cons b s=>
  dsimp only;rw[yh,aM,K6,aB,aB,aB,aB]
  by_cases h:y<b.Y0
  ·rw[bL h,aK,aC h]
  ·rw[bG h,aM,aD h]
theorem I8{s:List aA}{y e:Int}{X Y:List Int}(hc:fJ (s.map cJ))(hl:zC X Y (s.map cJ))(hh:∀b t,s=b::t->y<b.Y1)(hy:y<e):
  y<(HE s y e).2/\(HE s y e).2<=e/\(∀y',y<=y'->y'<(HE s y e).2->rowAt (s.map cJ) y'=(HE s y e).1)/\kf (HE s y e).1/\(HE s y e).1.length % 2=0/\((HE s y e).2=e\/(HE s y e).2∈Y)/\∀c∈(HE s y e).1,c∈X:=by
 cases s with
 |nil=>exact⟨hy,Int.le_refl _,λy' _ _=>rfl,kN,rfl, .inl rfl,λc hc=>(by cases hc)⟩
 |cons b t=>
  have hb:=hc.each (cJ b) (by simp);have hlb:=hl (cJ b) (by simp);have h1:=hh b t rfl;unfold HE;dsimp only
  by_cases h:y<b.Y0
  ·rw[aC h];dsimp only;refine⟨by split <;> omega,by split <;> omega,λy' h2 h3=>?_,kN,rfl,?_,λc hc=>(by cases hc)⟩
   ·exact hc.yd (by show y'<b.Y0;split at h3 <;> omega)
   ·split
    ·exact .inr hlb.1
    ·exact .inl rfl
  ·rw[aD h];dsimp only;refine⟨by split <;> omega,by split <;> omega,λy' h2 h3=>?_,hb.2.2.1,hb.2.2.2,?_,hlb.2.2⟩
   ·exact fJ.og (b:=cJ b) (by show b.Y0<=y';omega) (by show y'<b.Y1;split at h3 <;> omega)
   ·split
    ·exact .inr hlb.2.1
    ·exact .inl rfl
theorem EO{y:Int}{a:List aA}(hN:a.length<N){body:List aA->Option (Fl (List aA) Empty)}
  (hb:body=λ(s373:List aA)=>((bif decide ((s373.length:Int)>0)then((idx s373 0).bind λx407=>some<|decide<|x407.Y1<=y)else some false).bind λs405=>bif s405 then((uv s373 1 (s373.length:Int)).bind λx410=>some<|.nx x410)else(some<|.br s373):Option (Fl (List aA) Empty))):
  Ok (jt body N a) (P0 (λa'=>∃p,a=p++a'/\(∀c∈p,c.Y1<=y)/\∀b t,a'=b::t->y<b.Y1)<|λ_=>True):=by
 subst hb;refine Tw (λa'=>∃p,a=p++a'/\∀c∈p,c.Y1<=y) List.length ?_ ⟨[],rfl,λc hc=>(by cases hc)⟩ hN;rintro a'⟨p,e,hp⟩
 cases a' with
 |nil=>exact IT (x:=false) rfl (SU ⟨p,e,hp,λb t h=>(by cases h)⟩)
 |cons b t=>
  refine IT (x:=decide<|b.Y1<=y) (by rw[lU,aK,K6,aB]) ?_;refine SP (λh=>?_)<|λh=>SU ⟨p,e,hp,λb' t' h'=>?_⟩
  ·have h:=of_decide_eq_true h;refine IT (vz b t)<|SJ ⟨⟨p++[b],by rw[e];simp,λc hc=>?_⟩,by simp⟩
   rcases cR.1 hc with hc|hc
   ·exact hp c hc
   ·simp at hc;subst hc;exact h
  ·have h:=of_decide_eq_false h;injection h' with h1 h2;subst h1;omega
theorem G2{p a':List Bd}{y y':Int}(hp:∀c∈p,c.y1<=y)(h:y<=y'):rowAt (p++a') y'=rowAt a' y':=by
 rw[sM,aD];rintro⟨b,hb,h1⟩;have:=hp b hb;omega
structure FF (iG:Bool->Bool->Bool) (X Y:List Int) (a b s:List aA):Prop where
 can:fJ (s.map cJ)
 cover:∀x y,w9 (s.map cJ) x y=iG (w9 (a.map cJ) x y) (w9 (b.map cJ) x y)
 lim:zC X Y (s.map cJ)
theorem Dg{s:List aA}(hs:s≠[])(hl:s.length<=1099511627776)(hc:fJ (s.map cJ)):∃f l,idx s 0=some f/\idx s (wrap .i64<|((s.length:Nat):Int) - 1)=some l/\f∈s/\l∈s/\∀c∈s,f.Y0<=c.Y0/\c.Y1<=l.Y1:=by
 cases s with
 |nil=>exact absurd rfl hs
 |cons f t=>
  rw[jg (by simp) (by omega)];have hlt:(f::t).length - 1<(f::t).length:=by simp
  refine⟨f,(f::t)[(f::t).length - 1],rfl,mb _ _ hlt,by simp,cL _,λc hcm=>⟨?_,?_⟩⟩
  ·exact hc.low (cJ c)<|dH.2 ⟨c,hcm,rfl⟩
  ·have e:(f::t)=(f::t).dropLast++[(f::t)[(f::t).length - 1]]:=by
    have:=List.dropLast_concat_getLast (show f::t≠[]by simp);rw[<-List.getLast_eq_getElem (h:=by simp)];exact this.symm
   generalize (f::t)[(f::t).length - 1]=l at e;have hc2:=hc;rw[e,eG]at hc2;have hm:cJ c∈(List.map cJ (f::t).dropLast++[cJ l]):=by
    have:cJ c∈(f::t).map cJ:=dH.2 ⟨c,hcm,rfl⟩;rw[e,eG]at this;exact this
   exact fJ.high hc2 (cJ c) hm
theorem Ia{φ:Bool->Bool->Option Bool}{iG:Bool->Bool->Bool}(hφ:∀p q,φ p q=some (iG p q))(hk:iG false false=false){a b:List aA}{X Y:List Int}(ca:fJ (a.map cJ))(cb:fJ (b.map cJ))
  (la:zC X Y (a.map cJ)) (lb:zC X Y (b.map cJ)) (hX:X.length<=1048576000) (hY:Y.length<=1048576000) (hs:∀c∈Y,small c) (hN:4398046511104<=N):Ok (rl N a b φ) (FF iG X Y a b):=by
 have uS:a.length<=Y.length:=by have:=la.len ca;rwa[dA]at this
 have hbl:b.length<=Y.length:=by have:=lb.len cb;rwa[dA]at this
 unfold rl;rw[wrap_add (by omega)];refine SP (λh=>Sh ?_)<|λh=>?_
 ·have h:a.length+b.length=0:=by have:=beq_iff_eq.1 h;omega
  have e1:a= []:=List.eq_nil_of_length_eq_zero (by omega);have e2:b= []:=List.eq_nil_of_length_eq_zero (by omega);subst e1;subst e2;exact⟨fJ.nil,λx y=>hk.symm,λc hc=>(by cases hc)⟩
 have h0:a≠[]\/b≠[]:=by
  rw[beq_eq_false_iff_ne]at h
  by_cases e:a= []
  ·right;intro e2;subst e;subst e2;exact h rfl
  ·exact .inl e
 refine Sr (Ts (λk s=>match k with| 0=>True| 1=>a= []\/((∀c∈a,s.1<=c.Y0/\c.Y1<=s.2)/\s.1∈Y/\s.2∈Y)|_=>(∀c∈a,s.1<=c.Y0/\c.Y1<=s.2)/\(∀c∈b,s.1<=c.Y0/\c.Y1<=s.2)/\s.1∈Y/\s.2∈Y) (by simp) trivial<|λk s hk hI=>?_) ?_
 ·obtain⟨y,e⟩:=s;have hk:k=0\/k=1:=by simp at hk;omega
  rcases hk with rfl|rfl
  ·refine Sy (x:=a) rfl ?_
   by_cases ea:a= []
   ·subst ea;exact IT (x:=(y,e)) rfl<|Sh<|.inl rfl
   ·obtain⟨f,l,f1,f2,f3,f4,f5⟩:=Dg ea (by omega) ca;have hpos:decide (((a.length:Nat):Int)>0)=true:=bL (by have:=List.length_pos_iff.2 ea;omega);refine IT (x:=(f.Y0,l.Y1)) ?_<|Sh<|.inr ⟨f5,(la _<|dH.2 ⟨f,f3,rfl⟩).1,(la _<|dH.2 ⟨l,f4,rfl⟩).2.1⟩
    rw[hpos,aK];show((some true).bind _)=_;rw[aB,aK,f1,aB,f2,aB,aB,aB,aB];simp
  ·refine Sy (x:=b) rfl ?_;have hI:a= []\/((∀c∈a,y<=c.Y0/\c.Y1<=e)/\y∈Y/\e∈Y):=hI
   by_cases eb:b= []
   ·subst eb;refine IT (x:=(y,e)) rfl<|Sh ?_
    rcases hI with h|⟨h1,h2,h3⟩
    ·rcases h0 with h'|h'
     ·exact absurd h h'
     ·exact absurd rfl h'
    ·exact⟨h1,λc hc=>(by cases hc),h2,h3⟩
   ·obtain⟨f,l,f1,f2,f3,f4,f5⟩:=Dg eb (by omega) cb;have hpos:decide (((b.length:Nat):Int)>0)=true:=bL (by have:=List.length_pos_iff.2 eb;omega);have g1:f.Y0∈Y:=(lb _<|dH.2 ⟨f,f3,rfl⟩).1;have g2:l.Y1∈Y:=(lb _<|dH.2 ⟨l,f4,rfl⟩).2.1
    by_cases ea:a= []
    ·subst ea;refine IT (x:=(f.Y0,l.Y1)) ?_<|Sh ⟨λc hc=>(by cases hc),f5,g1,g2⟩
     rw[hpos,aK];show((some true).bind _)=_;rw[aB,aK,f1,aB,f2,aB,aB,aB,aB];simp
    ·obtain⟨h1,h2,h3⟩:=hI.resolve_left ea;refine IT (x:=(if f.Y0<y then f.Y0 else y,if e<l.Y1 then l.Y1 else e)) ?_<|Sh ⟨λc hc=>?_,λc hc=>?_,?_,?_⟩
     ·rw[hpos,aK];have ez:(((a.length:Nat):Int)==0)=false:=by rw[beq_eq_false_iff_ne];have:=List.length_pos_iff.2 ea;omega
      rw[ez];show((some false).bind _)=_;rw[aB,aM,aB,f1,aB,f2,aB]
     ·have:=h1 c hc;dsimp only;split <;> split <;> omega
     ·have:=f5 c hc;dsimp only;split <;> split <;> omega
     ·dsimp only;split
      ·exact g1
      ·exact h2
     ·dsimp only;split
      ·exact g2
      ·exact h3
 ·rintro⟨y0,e0⟩hI;have hI:(∀c∈a,y0<=c.Y0/\c.Y1<=e0)/\(∀c∈b,y0<=c.Y0/\c.Y1<=e0)/\y0∈Y/\e0∈Y:=hI;obtain⟨ia,ib,iy,ie⟩:=hI;have sy:=hs _ iy;have se:=hs _ ie;unfold small at sy se;dsimp only
  refine Sr (Tw (Go:=λs=>FF iG X Y a b s.2.2.1) (Rt:=λ_=>True)
   (λs=>∃pa pb,a=pa++s.1/\b=pb++s.2.1/\(∀c∈pa,c.Y1<=s.2.2.2)/\(∀c∈pb,c.Y1<=s.2.2.2)/\y0<=s.2.2.2/\s.2.2.2<=max y0 e0/\s.2.2.2∈Y/\fJ (s.2.2.1.map cJ)/\zC X Y (s.2.2.1.map cJ)/\(∀c∈s.2.2.1,c.Y1<=s.2.2.2)/\
    ∀x y,w9 (s.2.2.1.map cJ) x y=(iG (w9 (a.map cJ) x y) (w9 (b.map cJ) x y)&&decide (y<s.2.2.2)))
   (λs=>(e0 - s.2.2.2).toNat) ?_ ?_ (by dsimp only;omega)) ?_
  ·rintro⟨a',b',out,y⟩⟨pa,pb,ea,eb,hpa,hpb,hy0,hye,hyY,hcan,hlim,htop,hcov⟩;dsimp only at ea eb hpa hpb hy0 hye hyY hcan hlim htop hcov ⊢;refine SP (λh=>?_)<|λh=>SU ?_
   ·have hlt:y<e0:=of_decide_eq_true h;have hsl:∀(p s t:List aA),t=p++s->s.length<=t.length:=λp s t e=>by rw[e];simp
    have hal':=hsl _ _ _ ea;have hbl':=hsl _ _ _ eb;refine Sr (EO (y:=y) (a:=a') (by omega) rfl)<|λo ho=>SV ho ?_<|λr=>r.elim
    rintro a2⟨qa,ea2,hqa,hha⟩;refine Sr (EO (y:=y) (a:=b') (by omega) rfl)<|λo ho=>SV ho ?_<|λr=>r.elim
    rintro b2⟨qb,eb2,hqb,hhb⟩;have ea3:a=(pa++qa)++a2:=by rw[ea,ea2];simp
    have eb3:b=(pb++qb)++b2:=by rw[eb,eb2];simp
    have hPa:∀c∈pa++qa,c.Y1<=y:=λc hc=>by rcases cR.1 hc with h|h;exact hpa c h;exact hqa c h
    have hPb:∀c∈pb++qb,c.Y1<=y:=λc hc=>by rcases cR.1 hc with h|h;exact hpb c h;exact hqb c h
    have ca2:fJ (a2.map cJ):=by have:=ca;rw[ea3,eG]at this;exact this.app
    have cb2:fJ (b2.map cJ):=by have:=cb;rw[eb3,eG]at this;exact this.app
    have la2:zC X Y (a2.map cJ):=λc hc=>la c (by rw[ea3,eG];exact List.mem_append_right _ hc);have lb2:zC X Y (b2.map cJ):=λc hc=>lb c (by rw[eb3,eG];exact List.mem_append_right _ hc);refine IT (Nj a2 y e0)<|IT (Nj b2 y e0) ?_
    obtain⟨a1,a3,a4,a5,a6,a7,a8⟩:=I8 ca2 la2 hha hlt;obtain⟨b1,b3,b4,b5,b6,b7,b8⟩:=I8 cb2 lb2 hhb hlt;have hal2:(HE a2 y e0).1.length<=X.length:=gA a5.nodup a8;have hbl2:(HE b2 y e0).1.length<=X.length:=gA b5.nodup b8;generalize HE a2 y e0=pa2 at *;generalize HE b2 y e0=pb2 at *;obtain⟨xa,n⟩:=pa2;obtain⟨xb,m⟩:=pb2;dsimp only at *;refine Sr (JX hφ hk a5 b5 a6 b6 (by omega) (by omega) (by omega)) ?_;rintro row⟨r1,r2,r3,r4⟩;have hnx:∃nx,nx=(if m<n then m else n)/\y<nx/\nx<=e0/\nx<=n/\nx<=m/\nx∈Y:=by
     refine⟨_,rfl,by split <;> omega,by split <;> omega,by split <;> omega,by split <;> omega,?_⟩;split
     ·rcases b7 with h|h
      ·rw[h];exact ie
      ·exact h
     ·rcases a7 with h|h
      ·rw[h];exact ie
      ·exact h
    obtain⟨nx,hnx,n1,n2,n3,n4,n5⟩:=hnx;rw[<-hnx];have hol:out.length<=Y.length:=by have:=hlim.len hcan;rwa[dA]at this
    obtain⟨out',p1,p2⟩:=I6 (N:=N) (s:=out) (b:=⟨y,nx,row⟩) (by omega) (λc hc=>by
     have:=hlim.row hcan (b:=cJ c)<|dH.2 ⟨c,hc,rfl⟩
     have e:(cJ c).xs=c.Xs:=rfl
     rw[e]at this;omega)
    refine IT p1 ?_;have htop':∀c∈out.map cJ,c.y1<=(cJ ⟨y,nx,row⟩).y0:=λc hc=>by
     obtain⟨d,hd,rfl⟩:=dH.1 hc;exact htop d hd
    refine SJ ⟨⟨pa++qa,pb++qb,ea3,eb3,λc hc=>by have:=hPa c hc;dsimp only;omega,λc hc=>by have:=hPb c hc;dsimp only;omega,by dsimp only;omega,by dsimp only;omega,n5,by dsimp only;rw[p2];exact yf hcan htop' r1 r2,?_,λc hc=>?_,λx y'=>?_⟩,by dsimp only;omega⟩
    ·dsimp only;rw[p2];refine hlim.push hyY n5<|λc hc=>?_
     rcases r4 c hc with h|h
     ·exact a8 c h
     ·exact b8 c h
    ·have hm':cJ c∈kC (out.map cJ) (cJ ⟨y,nx,row⟩):=by rw[<-p2];exact dH.2 ⟨c,hc,rfl⟩
     exact yg htop' (by show y<=nx;omega) _ hm'
    ·show qG (rowAt (out'.map cJ) y') x=_;rw[p2,ye htop' (λc hc=>(hcan.each c hc).1)<|λh=>absurd h (by show ¬nx<=y;omega)]
     by_cases hyy:y<=y'/\y'<nx
     ·rw[aC (show(cJ ⟨y,nx,row⟩).y0<=y'/\y'<(cJ ⟨y,nx,row⟩).y1 from hyy),bL hyy.2,Bool.and_true];show qG row x=_;have mp:∀p q:List aA,(∀c∈p++q,c.Y1<=y)->∀c∈(p++q).map cJ,c.y1<=y:=λp q h c hc=>by
       obtain⟨d,hd,rfl⟩:=dH.1 hc;exact h d hd
      have q1:w9 (a.map cJ) x y'=qG xa x:=by
       unfold w9;rw[ea3,eG,G2 (mp _ _ hPa) hyy.1,a4 y' hyy.1 (by omega)]
      have q2:w9 (b.map cJ) x y'=qG xb x:=by
       unfold w9;rw[eb3,eG,G2 (mp _ _ hPb) hyy.1,b4 y' hyy.1 (by omega)]
      rw[r3,q1,q2]
     ·rw[aD (show ¬((cJ ⟨y,nx,row⟩).y0<=y'/\y'<(cJ ⟨y,nx,row⟩).y1)from hyy)];show w9 (out.map cJ) x y'=_;rw[hcov]
      by_cases h1:y'<y
      ·rw[bL h1,bL (show y'<nx by omega)]
      ·rw[bG h1,bG (show ¬y'<nx by omega)]
   ·have hge:e0<=y:=by have:=of_decide_eq_false h;omega
    refine⟨hcan,λx y'=>?_,hlim⟩;dsimp only;rw[hcov]
    by_cases h1:y'<y
    ·rw[bL h1,Bool.and_true]
    ·have z:∀s:List aA,(∀c∈s,y0<=c.Y0/\c.Y1<=e0)->w9 (s.map cJ) x y'=false:=λs h=>by
      unfold w9;rw[mN λc hc=>?_]
      ·rfl
      ·obtain⟨d,hd,rfl⟩:=dH.1 hc;exact .inr (by have:=(h d hd).2;show d.Y1<=y';omega)
     rw[z a ia,z b ib,hk];rfl
  ·refine⟨[],[],rfl,rfl,λc hc=>(by cases hc),λc hc=>(by cases hc),Int.le_refl _,by dsimp only;omega,iy,fJ.nil,λc hc=>(by cases hc),λc hc=>(by cases hc),λx y=>?_⟩;dsimp only;show false=_
   by_cases h1:y<y0
   ·have z:∀s:List aA,(∀c∈s,y0<=c.Y0/\c.Y1<=e0)->w9 (s.map cJ) x y=false:=λs h=>by
     unfold w9;rw[mN λc hc=>?_]
     ·rfl
     ·obtain⟨d,hd,rfl⟩:=dH.1 hc;exact .inl (by have:=(h d hd).1;show y<d.Y0;omega)
    rw[z a ia,z b ib,hk];rfl
   ·rw[bG h1,Bool.and_false]
  ·rintro o ho;exact SV ho (λs h=>Sh h)<|λr=>r.elim
theorem JY{a b:List aA}{X Y:List Int}(ca:fJ (a.map cJ))(cb:fJ (b.map cJ))(la:zC X Y (a.map cJ))(lb:zC X Y (b.map cJ))(hX:X.length<=1048576000)(hY:Y.length<=1048576000)(hs:∀c∈Y,small c)(hN:4398046511104<=N):
  Ok (mi N a b) (FF (λp q=>p&& !q) X Y a b):=by
 unfold mi;exact Sr (Ia (iG:=λp q=>p&& !q) (λp q=>rfl) rfl ca cb la lb hX hY hs hN)<|λs h=>Sh h
end
section
variable {N:Nat}
structure UF (n:Nat) (up:List Int) (r:Nat->Nat):Prop where
 len:up.length=n
 rt:∀i,i<n->∃u:Nat,up[i]? =some ((u:Nat):Int)/\u<=i/\r u=r i/\(u=i↔r i=i)
theorem UF.le{n:Nat}{up:List Int}{r:Nat->Nat}(h:UF n up r):∀i,i<n->r i<=i:=by
 intro i
 induction i using Nat.strongRecOn with
 |ind i ih=>
  intro hi;obtain⟨u,_,h2,h3,h4⟩:=h.rt i hi
  by_cases e:u=i
  ·rw[h4.1 e];exact bZ _
  ·rw[<-h3];have:=ih u (by omega) (by omega);omega
theorem UF.rr{n:Nat}{up:List Int}{r:Nat->Nat}(h:UF n up r):∀i,i<n->r (r i)=r i:=by
 intro i
 induction i using Nat.strongRecOn with
 |ind i ih=>
  intro hi;obtain⟨u,_,h2,h3,h4⟩:=h.rt i hi
  by_cases e:u=i
  ·rw[h4.1 e,h4.1 e]
  ·rw[<-h3];exact ih u (by omega) (by omega)
theorem pG{l:List Int}{j:Nat}{v:Int}{i:Nat}(hj:j<l.length):(l.set j v)[i]? =if i=j then some v else l[i]? :=by
 rw[fY]
 by_cases e:j=i
 ·rw[aC e,aC e.symm,aC hj]
 ·rw[aD e,aD<|λh=>e h.symm]
theorem UF.init(n:Nat)(up:List Int)(h1:up.length=n)(h2:∀i,i<n->up[i]? =some ((i:Nat):Int)):UF n up (λi=>i):=
 ⟨h1,λi hi=>⟨i,h2 i hi,bZ _,rfl,by simp⟩⟩
theorem xK{n:Nat}(hn:n<=1048576000):∃up,kU N ((n:Nat):Int)=some up/\UF n up (λi=>i):=by
 unfold kU;rw[pE 0 (by omega),aB];have h0:(List.replicate n (0:Int)).length=n:=by simp
 obtain⟨s',h1,h2⟩:=Ct (m:=(List.replicate n (0:Int)).length) (s:=List.replicate n (0:Int)) (body:=λ(k34:Nat)(s35:List Int)=>((idx s35 (k34:Int)).bind λx38=>some (s35.set (Int.toNat (k34:Int)) (k34:Int)):Option (List Int)))
  (λk s=>s.length=n/\∀i,i<k->s[i]? =some ((i:Nat):Int)) (by omega) ⟨h0,λi hi=>by omega⟩ (λk s hk⟨hs,hi⟩=>by
   refine⟨s.set k ((k:Nat):Int),?_,by simp[hs],λi hi'=>?_⟩
   ·rw[mb _ _ (by omega),aB,cA]
   ·rw[pG (by omega)];split
    ·rename_i e;rw[e]
    ·exact hi i (by omega))
 rw[h1,aB];exact⟨s',rfl,UF.init n s' h2.1<|λi hi=>h2.2 i (by omega)⟩
theorem r5{n:Nat}{up:List Int}{r:Nat->Nat}(h:UF n up r){i:Nat}(hi:i<n)(hn:n<N):∃up',fE N up ((i:Nat):Int)=some (((r i:Nat):Int),up')/\UF n up' r:=by
 unfold fE;obtain⟨o,h1,h2⟩:=Ac (R:=Empty) (body:=λ(s32:List Int×Int)=>((idx s32.1 s32.2).bind λx43=>bif x43 != s32.2 then((idx s32.1 s32.2).bind λx44=>(idx s32.1 x44).bind λx45=>(idx s32.1 s32.2).bind λx46=>(idx (s32.1.set (Int.toNat s32.2) x45) s32.2).bind λx47=>some<|.nx (s32.1.set (Int.toNat s32.2) x45,x47))else(some<|.br (s32.1,s32.2)):Option (Fl (List Int×Int) Empty)))
  (λs=>UF n s.1 r/\∃j:Nat,s.2=((j:Nat):Int)/\j<n/\r j=r i) (λs=>s.2.toNat) (λs=>s.2=((r i:Nat):Int)/\UF n s.1 r) (λ_=>True) (λs⟨hu,j,hj,hjn,hr⟩=>by
   obtain⟨l,y⟩:=s;dsimp only at hu hj ⊢;subst hj;obtain⟨u,a1,a2,a3,a4⟩:=hu.rt j hjn;rw[cI a1,aB]
   by_cases e:u=j
   ·subst e;refine⟨.br (l,((u:Nat):Int)),by rw[show(((u:Nat):Int) != ((u:Nat):Int))=false by simp,aM],?_,hu⟩;show((u:Nat):Int)=_;rw[<-hr,a4.1 rfl]
   ·obtain⟨v,b1,b2,b3,b4⟩:=hu.rt u (by omega);have hl:=hu.len
    refine⟨.nx (l.set j ((v:Nat):Int),((v:Nat):Int)),by
     rw[show(((u:Nat):Int) != ((j:Nat):Int))=true by simp;omega,aK,aB,cI b1,aB,aB,cA,
      cI (x:=((v:Nat):Int)) (by rw[pG (by omega),aC rfl]),aB],⟨⟨by simp[hl],λk hk=>?_⟩,v,rfl,by omega,?_⟩,?_⟩
    ·rw[pG (by omega)]
     by_cases e2:k=j
     ·subst e2;rw[aC rfl];refine⟨v,rfl,by omega,by rw[b3,a3],?_⟩;constructor
      ·intro h;omega
      ·intro h;exact absurd (a4.2 h) e
     ·rw[aD e2];exact hu.rt k hk
    ·rw[b3,a3,hr]
    ·simp only[cA];omega)
  N (up,((i:Nat):Int)) ⟨h,i,rfl,hi,rfl⟩ (by simp only[cA];omega)
 rw[h1,aB]
 cases o with
 |go s'=>exact⟨s'.1,by rw[<-h2.1];rfl,h2.2⟩
 |rt r=>exact r.elim
def pP(r:Nat->Nat)(a b:Nat):Nat->Nat:=λx=>if r x=max a b then min a b else r x
theorem K7(a b:Nat):(if((a:Nat):Int)<((b:Nat):Int)then((b:Nat):Int)else((a:Nat):Int))=((max a b:Nat):Int):=by
 rw[Nat.max_def];split <;> split <;> omega
theorem K8(a b:Nat):(if((b:Nat):Int)<((a:Nat):Int)then((b:Nat):Int)else((a:Nat):Int))=((min a b:Nat):Int):=by
 rw[Nat.min_def];split <;> split <;> omega
theorem I9{n:Nat}{up:List Int}{r:Nat->Nat}(h:UF n up r){i k:Nat}(hi:i<n)(hk:k<n)(hn:n<N):
  ∃up',eV N up ((i:Nat):Int) ((k:Nat):Int)=some up'/\UF n up' (pP r (r i)<|r k):=by
 obtain⟨u1,a1,a2⟩:=r5 h hi hn;obtain⟨u2,b1,b2⟩:=r5 a2 hk hn;have hri:=h.le i hi;have hrk:=h.le k hk;have rri:=h.rr i hi;have rrk:=h.rr k hk;unfold eV;rw[a1,aB,b1,aB];dsimp only;rw[K7,K8];have hm:max (r i) (r k)<n:=by omega
 have hl:=b2.len;rw[mb _ _ (by omega),aB,cA];refine⟨_,rfl,by simp[hl],λx hx=>?_⟩;have rmax:r (max (r i)<|r k)=max (r i) (r k):=by rcases Nat.le_total (r i) (r k)with e|e <;> simp[Nat.max_def] <;> split <;> omega
 have rmin:r (min (r i)<|r k)=min (r i) (r k):=by rcases Nat.le_total (r i) (r k)with e|e <;> simp[Nat.min_def] <;> split <;> omega
 rw[pG (by omega)]
 by_cases e:x=max (r i) (r k)
 ·subst e;rw[aC rfl];refine⟨min (r i)<|r k,rfl,by omega,?_,?_⟩
  ·unfold pP;rw[rmin,rmax,aC rfl];split <;> rfl
  ·unfold pP;rw[rmax,aC rfl]
 ·rw[aD e];obtain⟨u,c1,c2,c3,c4⟩:=b2.rt x hx;refine⟨u,c1,c2,?_,?_⟩
  ·unfold pP;rw[c3]
  ·unfold pP;split
   ·rename_i e2;constructor
    ·intro hu;have:=c4.1 hu;omega
    ·intro hu;have h1:=b2.le x hx;have:min (r i) (r k)=max (r i) (r k)\/x<max (r i) (r k):=by omega
     have h3:x=max (r i) (r k):=by omega
     exact absurd h3 e
   ·exact c4
def nE(r:Nat->Nat)(E:List (Nat×Nat)):Prop:=∀p∈E,r p.1=r p.2
def w6(n:Nat)(r:Nat->Nat)(E:List (Nat×Nat)):Prop:=∀S:Nat->Prop,(∀p∈E,S p.1↔S p.2)->∀i j,i<n->j<n->r i=r j->S i->S j
theorem nE.join{r:Nat->Nat}{E:List (Nat×Nat)}(h:nE r E)(i k:Nat)(_h2:r (r i)=r i):nE (pP r (r i)<|r k) (E++[(i,k)]):=λp hp=>by
 rcases cR.1 hp with hp|hp
 ·unfold pP;rw[h p hp]
 ·simp at hp;subst hp;unfold pP;dsimp only;split <;> split <;> omega
theorem w6.join{n:Nat}{r:Nat->Nat}{E:List (Nat×Nat)}(h:w6 n r E){i k:Nat}(hi:i<n)(hk:k<n):w6 n (pP r (r i)<|r k) (E++[(i,k)]):=λS hS x y hx hy hr hSx=>by
 have hE:∀p∈E,S p.1↔S p.2:=λp hp=>hS p<|List.mem_append_left _ hp
 have hik:S i↔S k:=hS (i,k) (by simp);have key:=h S hE;unfold pP at hr
 by_cases h1:r x=r y
 ·exact key x y hx hy h1 hSx
 ·have:(r x=r i/\r y=r k)\/(r x=r k/\r y=r i):=by
   split at hr <;> split at hr <;> omega
  rcases this with⟨e1,e2⟩|⟨e1,e2⟩
  ·exact key k y hk hy e2.symm<|hik.1<|key x i hx hi e1 hSx
  ·exact key i y hi hy e2.symm<|hik.2<|key x k hx hk e1 hSx
theorem w6.id(n:Nat):w6 n (λi=>i) []:=λS _ i j _ _ h hs=>by
 have h:i=j:=h;subst h;exact hs
theorem nE.id:nE (λi=>i) []:=λp hp=>by simp at hp
def bU(n:Nat)(r:Nat->Nat):List Nat:=(List.range n).filter<|λk=>decide<|r k=k
def cls(n:Nat)(r:Nat->Nat)(k:Nat):List Nat:=(List.range n).filter<|λi=>decide<|r i=k
theorem ij(n:Nat)(r:Nat->Nat):bU (n+1) r=if r n=n then bU n r++[n]else bU n r:=by
 unfold bU;rw[List.range_succ,lM]
 by_cases h:r n=n
 ·rw[aC h];simp[h]
 ·rw[aD h];simp[h]
theorem xL(n:Nat)(r:Nat->Nat)(k:Nat):cls (n+1) r k=if r n=k then cls n r k++[n]else cls n r k:=by
 unfold cls;rw[List.range_succ,lM]
 by_cases h:r n=k
 ·rw[aC h];simp[h]
 ·rw[aD h];simp[h]
theorem mx(n:Nat)(r:Nat->Nat):(bU n r).length<=n:=by
 have:=pA (λk=>decide<|r k=k)<|List.range n
 rw[List.length_range]at this;exact this
theorem Cw(n:Nat)(r:Nat->Nat)(k:Nat):(cls n r k).length<=n:=by
 have:=pA (λi=>decide<|r i=k)<|List.range n
 rw[List.length_range]at this;exact this
theorem j5{n k:Nat}{r:Nat->Nat}:k∈bU n r↔k<n/\r k=k:=by unfold bU;simp
theorem oq(n:Nat)(r:Nat->Nat):(bU n r).Nodup:=List.Nodup.sublist List.filter_sublist List.nodup_range
def tE(n:Nat)(r:Nat->Nat):List (List Int):=(bU n r).map<|λk=>(cls n r k).map<|λi=>((i:Nat):Int)
theorem Ja{n k:Nat}{r:Nat->Nat}(h:∀i,i<n->r i<=i)(hk:n<=k):cls n r k= []:=by
 unfold cls;rw[List.filter_eq_nil_iff];intro i hi;have h1:=oy.1 hi;have:=h i h1;simp;omega
theorem xM{α β:Type}(f g:α->β)(l:List α)(j:Nat)(a:α)(hn:l.Nodup)(hj:l[j]? =some a)(hf:∀b,b∈l->b≠a->f b=g b):(l.map f).set j (g a)=l.map g:=by
 apply List.ext_getElem?;intro i;have hjl:=(bD.1 hj).1;rw[fY,dA,fL,fL]
 by_cases e:j=i
 ·subst e;rw[aC rfl,aC hjl,hj];rfl
 ·rw[aD e]
  cases hb:l[i]? with
  |none=>rfl
  |some b=>
   have hne:b≠a:=λhe=>by
    subst he;have hil:=(bD.1 hb).1;exact e<|(List.getElem_inj hn).1 (by rw[(bD.1 hb).2,(bD.1 hj).2]) |>.symm
   show some (f b)=some (g b);rw[hf b (fQ hb) hne]
def P6(n:Nat)(r:Nat->Nat)(m:List (Int×Int)):Prop:=∀(j k:Nat),(bU n r)[j]? =some k->fD m ((k:Nat):Int) 0=((j:Nat):Int)
theorem Ms{n:Nat}{up:List Int}{r:Nat->Nat}(h:UF n up r)(hn:n<N)(hn2:n<=1048576000):∃up',lh N up=some (tE n r,up')/\UF n up' r:=by
 unfold lh;have hlen:=h.len;have hle:=h.le;have hrr:=h.rr;obtain⟨s',h1,h2⟩:=Ct (m:=up.length) (s:=(up,([]:List (List Int)),([]:List (Int×Int))))
  (body:=λ(k32:Nat)(s33:List Int×List (List Int)×List (Int×Int))=>((fE N s33.1 (k32:Int)).bind λx117=>(bif x117.1==(k32:Int)then((app 24 s33.2.1 [([]:List Int)]).bind λx126=>some (x126,qP s33.2.2 (k32:Int) (s33.2.1.length:Int)))else some (s33.2.1,s33.2.2)).bind λs122=>(idx s122.1<|fD s122.2 x117.1 (0:Int)).bind λx128=>(app 8 x128 ([(k32:Int)]:List Int)).bind λx134=>(idx s122.1<|fD s122.2 x117.1 (0:Int)).bind λx136=>some (x117.2,s122.1.set (Int.toNat<|fD s122.2 x117.1 (0:Int)) x134,s122.2):Option (List Int×List (List Int)×List (Int×Int))))
  (λk s=>UF n s.1 r/\s.2.1=tE k r/\P6 k r s.2.2) (by omega) ⟨h,rfl,λj k hj=>by simp[bU]at hj⟩ (λk s hk⟨hu,hs,hm⟩=>by
   obtain⟨l,ss,m⟩:=s;dsimp only at hu hs hm ⊢;subst hs;rw[hlen]at hk;obtain⟨u',a1,a2⟩:=r5 hu hk hn;rw[a1,aB];dsimp only;have hhl:=mx k r;have hsl:(tE k r).length=(bU k r).length:=by unfold tE;simp
   have hrk:=hle k hk
   by_cases e:r k=k
   ·
    rw[show(((r k:Nat):Int)==((k:Nat):Int))=true by rw[e];simp,aK,lS (by rw[hsl];simp;omega),aB,aB];dsimp only;rw[e,lK,aC rfl,hsl];have hi:(tE k r++[([]:List Int)])[(bU k r).length]? =some []:=by rw[<-hsl,ir<|bZ _,Nat.sub_self];rfl
    rw[cI hi,aB,lS (by simp),aB,aB,cA];refine⟨_,rfl,a2,?_,λj q hj=>?_⟩
    ·dsimp only;rw[<-hsl,List.set_append_right _ _<|bZ _,Nat.sub_self];unfold tE;rw[ij,aC e,eG];congr 1
     ·apply List.map_congr_left;intro a ha;have:=(j5.1 ha).1;rw[xL,aD (by omega)]
     ·simp only[List.set_cons_zero,eL,List.map_nil,List.nil_append];rw[xL,aC e,Ja (λi hi=>hle i (by omega))<|bZ _];rfl
    ·dsimp only;rw[ij,aC e]at hj;rw[lK]
     by_cases e2:j<(bU k r).length
     ·rw[gX e2]at hj;have:=(j5.1<|fQ hj).1;rw[aD (by omega)];exact hm j q hj
     ·rw[ir (by omega)]at hj;have hj0:j -(bU k r).length=0:=by
       have:=(bD.1 hj).1;simp at this;omega
      rw[hj0]at hj;simp at hj;subst hj;rw[aC rfl];congr 1;omega
   ·rw[show(((r k:Nat):Int)==((k:Nat):Int))=false by simp;omega,aM,aB];dsimp only;have hh:r k∈bU k r:=j5.2 ⟨by omega,hrr k hk⟩;obtain⟨j,hj⟩:=dZ hh;rw[hm j (r k) hj];have hcl:=Cw k r<|r k
    have hi:(tE k r)[j]? =some ((cls k r<|r k).map<|λi=>((i:Nat):Int)):=by unfold tE;rw[fL,hj];rfl
    rw[cI hi,aB,lS (by simp;omega),aB,aB,cA];refine⟨_,rfl,a2,?_,λj' q hj'=>?_⟩
    ·unfold tE;rw[ij,aD e]
     have:=xM (λa=>(cls k r a).map (λi=>((i:Nat):Int))) (λa=>(cls (k+1) r a).map (λi=>((i:Nat):Int))) (bU k r) j (r k) (oq k r) hj (λb hb hne=>by
      rw[xL,aD (λh=>hne h.symm)])
     rw[xL,aC rfl,eG]at this;exact this
    ·rw[ij,aD e]at hj';exact hm j' q hj')
 rw[h1,aB];obtain⟨l,ss,m⟩:=s';dsimp only at h2;rw[hlen]at h2;refine⟨l,?_,h2.1⟩;rw[<-h2.2.1]
end
section
variable {N:Nat}
theorem FG{n:Nat}{up:List Int}{r:Nat->Nat}(h:UF n up r){i:Nat}(hi:i<n)(hn:n<N):∃up',gr N ((i:Nat):Int) up=some (((r i:Nat):Int),up')/\UF n up' r:=by
 unfold gr
 have:=Sr (β:=Int×List Int) (Q:=λx=>x.1=((r i:Nat):Int)/\UF n x.2 r) (Tw (body:=λ(s32:Int×(List Int))=>((idx s32.2 s32.1).bind λx43=>bif(x43 != s32.1)then((idx s32.2 s32.1).bind λx44=>(idx s32.2 x44).bind λx45=>(idx s32.2 s32.1).bind λx46=>(idx (s32.2.set (Int.toNat s32.1) x45) s32.1).bind λx47=>some (.nx (x47,(s32.2.set (Int.toNat s32.1) x45))))else(some (.br (s32.1,s32.2))):Option (Fl (Int×(List Int)) Empty)))
  (N:=N) (s:=(((i:Nat):Int),up)) (Go:=λs=>s.1=((r i:Nat):Int)/\UF n s.2 r) (Rt:=λ_=>True) (λs=>UF n s.2 r/\∃j:Nat,s.1=((j:Nat):Int)/\j<n/\r j=r i) (λs=>s.1.toNat) (by
   rintro⟨y,l⟩⟨hu,j,hj,hjn,hr⟩;dsimp only at hu hj ⊢;subst hj;obtain⟨u,a1,a2,a3,a4⟩:=hu.rt j hjn;refine Sy a1 ?_
   by_cases e:u=j
   ·subst e;rw[show(((u:Nat):Int) != ((u:Nat):Int))=false by simp,aM];refine SU ⟨?_,hu⟩;show((u:Nat):Int)=_;rw[<-hr,a4.1 rfl]
   ·obtain⟨v,b1,b2,b3,b4⟩:=hu.rt u (by omega);have hl:=hu.len;rw[show(((u:Nat):Int) != ((j:Nat):Int))=true by simp;omega,aK];refine Sy a1<|Sy b1<|Sy a1<|Sy (x:=((v:Nat):Int)) (by rw[cA,pG (by omega),aC rfl])<|SJ ⟨⟨⟨by simp[hl],λk hk=>?_⟩,v,rfl,by omega,?_⟩,?_⟩
    ·rw[cA,pG (by omega)]
     by_cases e2:k=j
     ·subst e2;rw[aC rfl];refine⟨v,rfl,by omega,by rw[b3,a3],?_⟩;constructor
      ·intro h;omega
      ·intro h;exact absurd (a4.2 h) e
     ·rw[aD e2];exact hu.rt k hk
    ·rw[b3,a3,hr]
    ·simp only[cA];omega)
  ⟨h,i,rfl,hi,rfl⟩ (by simp only[cA];omega))
  (λo ho=>SV (f:=λ(s32:Int×List Int)=>some (s32.1,s32.2)) (g:=λr:Empty=>r.elim) ho (λs h=>Sh h)<|λr=>r.elim)
 obtain⟨⟨x,up'⟩,h1,h2,h3⟩:=this;exact⟨up',by rw[<-h2];exact h1,h3⟩
theorem K9{n:Nat}{up:List Int}{r:Nat->Nat}(h:UF n up r){i k:Nat}(hi:i<n)(hk:k<n){f:List Int->Option (List Int)}(hn:n<N):
  ∃up',((gr N ((i:Nat):Int) up).bind λx840=>(gr N ((k:Nat):Int) x840.2).bind λx842=>(idx x842.2 (if x840.1<x842.1 then x842.1 else x840.1)).bind λx844=>some<|x842.2.set (Int.toNat (if x840.1<x842.1 then x842.1 else x840.1)) (if x842.1<x840.1 then x842.1 else x840.1))=some up'/\UF n up' (pP r (r i)<|r k):=by
 obtain⟨u1,a1,a2⟩:=FG h hi hn;obtain⟨u2,b1,b2⟩:=FG a2 hk hn;obtain⟨v1,c1,c2⟩:=r5 h hi hn;have hri:=h.le i hi;have hrk:=h.le k hk;have rri:=h.rr i hi;have rrk:=h.rr k hk;rw[a1,aB,b1,aB];dsimp only;rw[K7,K8];have hm:max (r i) (r k)<n:=by omega
 have hl:=b2.len;rw[mb _ _ (by omega),aB,cA];refine⟨_,rfl,by simp[hl],λx hx=>?_⟩;have rmax:r (max (r i)<|r k)=max (r i) (r k):=by rcases Nat.le_total (r i) (r k)with e|e <;> simp[Nat.max_def] <;> split <;> omega
 have rmin:r (min (r i)<|r k)=min (r i) (r k):=by rcases Nat.le_total (r i) (r k)with e|e <;> simp[Nat.min_def] <;> split <;> omega
 rw[pG (by omega)]
 by_cases e:x=max (r i) (r k)
 ·subst e;rw[aC rfl];refine⟨min (r i)<|r k,rfl,by omega,?_,?_⟩
  ·unfold pP;rw[rmin,rmax,aC rfl];split <;> rfl
  ·unfold pP;rw[rmax,aC rfl]
 ·rw[aD e];obtain⟨u,c1,c2,c3,c4⟩:=b2.rt x hx;refine⟨u,c1,c2,?_,?_⟩
  ·unfold pP;rw[c3]
  ·unfold pP;split
   ·rename_i e2;constructor
    ·intro hu;have:=c4.1 hu;omega
    ·intro hu;have h1:=b2.le x hx;have h3:x=max (r i) (r k):=by omega
     exact absurd h3 e
   ·exact c4
def jP(s:List aA)(k:Nat):Nat:=(aU<|s.take k).length
theorem Bl{s:List aA}{k:Nat}(h:k<s.length):jP s (k+1)=jP s k+s[k].Xs.length / 2:=by
 unfold jP;rw[eI h,pw,dK];show _+(aU [s[k]]).length=_;rw[show aU [s[k]]=oh s[k]by simp[aU],oS]
theorem Bm{s:List aA}{k m:Nat}(h:k<=m):jP s k<=jP s m:=by
 unfold jP;have:=Bi (s.take m) k;rwa[List.take_take,Nat.min_eq_left h]at this
theorem G3(s:List aA):jP s s.length=(aU s).length:=by unfold jP;rw[eK]
theorem Mt{s:List aA}{k t:Nat}(h:k<s.length)(ht:2*t+1<s[k].Xs.length):(aU s)[jP s k+t]? =some ⟨s[k].Xs[2*t],s[k].Y0,s[k].Xs[2*t+1],s[k].Y1⟩:=by
 have e:aU s=aU (s.take k)++(oh s[k]++aU (s.drop<|k+1)):=by
  conv=>lhs;rw[<-List.take_append_drop k s,vN h]
  rw[pw,oj]
 rw[e];unfold jP;rw[ir (by omega),Nat.add_sub_cancel_left,gX (by rw[oS];omega)];unfold oh;rw[fL,Av _ _ ht];rfl
theorem Jb{s:List aA}{i:Nat}(h:i<(aU s).length):∃k,k<s.length/\jP s k<=i/\i<jP s (k+1):=by
 have key:∀m,m<=s.length->i<jP s m->∃k,k<m/\jP s k<=i/\i<jP s (k+1):=by
  intro m
  induction m with
  |zero=>intro _ h;unfold jP at h;simp[aU]at h
  |succ m ih=>
   intro hm hi
   by_cases h1:i<jP s m
   ·obtain⟨k,hk,h2⟩:=ih (by omega) h1;exact⟨k,by omega,h2⟩
   ·exact⟨m,by omega,by omega,hi⟩
 exact key s.length (bZ _) (by rw[G3];exact h)
def FH(a c:aI):Prop:=a.Y1=c.Y0/\a.X0<c.X1/\c.X0<a.X1
def AX(all:List aI)(i j:Nat):Prop:=∃a c,all[i]? =some a/\all[j]? =some c/\FH a c
theorem yi{s:List aA}(he:∀b∈s,b.Xs.length % 2=0){k i:Nat}(hk:k<s.length)(h1:jP s k<=i)(h2:i<jP s (k+1)):∃t,i=jP s k+t/\∃h:2*t+1<s[k].Xs.length,(aU s)[i]? =some ⟨s[k].Xs[2*t],s[k].Y0,s[k].Xs[2*t+1],s[k].Y1⟩:=by
 rw[Bl hk]at h2;have:=he _<|cL hk
 refine⟨i - jP s k,by omega,by omega,?_⟩;have h3:=Mt (t:=i - jP s k) hk (by omega);rwa[show jP s k+(i - jP s k)=i by omega]at h3
theorem Dh{s:List aA}(hc:fJ (s.map cJ)){p q:Nat}(hp:p<s.length)(hq:q<s.length)(h:p<q):s[p].Y1<=s[q].Y0:=by
 have:=nF.1 hc.ord p q (by simp;omega) (by simp;omega) h;simp only[List.getElem_map]at this;exact this.1
theorem Di{s:List aA}(hc:fJ (s.map cJ)){p:Nat}(hp:p<s.length):s[p].Y0<s[p].Y1:=(hc.each (cJ s[p])<|dH.2 ⟨_,cL hp,rfl⟩).1
theorem vA{s:List aA}(hc:fJ (s.map cJ)):∀b∈s,b.Xs.length % 2=0:=λb hb=>(hc.each (cJ b)<|dH.2 ⟨b,hb,rfl⟩).2.2.2
theorem Jc{s:List aA}(hc:fJ (s.map cJ)):∀b∈s,kf b.Xs:=λb hb=>(hc.each (cJ b)<|dH.2 ⟨b,hb,rfl⟩).2.2.1
theorem G4{s:List aA}(hc:fJ (s.map cJ)){i j q:Nat}(hq:q<s.length)(h1:jP s q<=j)(h2:j<jP s (q+1))(ht:AX (aU s) i j):∃hq0:0<q,s[q - 1].Y1=s[q].Y0/\jP s (q - 1)<=i/\i<jP s q:=by
 obtain⟨a,c,ha,hb,e1,e2,e3⟩:=ht;obtain⟨t,e4,ht,hj⟩:=yi (vA hc) hq h1 h2;rw[hj]at hb;injection hb with hb;subst hb
 have hil:=(bD.1 ha).1;obtain⟨p,hp,p1,p2⟩:=Jb hil;obtain⟨u,e5,hu,hi⟩:=yi (vA hc) hp p1 p2;rw[hi]at ha;injection ha with ha;subst ha
 have e1:s[p].Y1=s[q].Y0:=e1;have hpp:=Di hc hp;have hqq:=Di hc hq;have hpq:p+1=q:=by
  rcases Nat.lt_trichotomy p q with h|h|h
  ·by_cases h':p+1=q
   ·exact h'
   ·have h3:=Dh hc hp (show p+1<s.length by omega) (by omega);have h4:=Dh hc (show p+1<s.length by omega) hq (by omega);have h5:=Di hc (show p+1<s.length by omega);omega
  ·subst h;omega
  ·have:=Dh hc hq hp h;omega
 subst hpq;exact⟨by omega,e1,p1,p2⟩
structure PJ (all:List aI) (n:Nat) (up:List Int) (r:Nat->Nat) (E:List (Nat×Nat)):Prop where
 uf:UF n up r
 co:nE r E
 fi:w6 n r E
 so:∀p∈E,AX all p.1 p.2
theorem PJ.join{all:List aI}{n:Nat}{up up':List Int}{r:Nat->Nat}{E:List (Nat×Nat)}(h:PJ all n up r E){i j:Nat}(hi:i<n)(hj:j<n)(hu:UF n up' (pP r (r i)<|r j))(ht:AX all i j):PJ all n up' (pP r (r i)<|r j) (E++[(i,j)]):=
 ⟨hu,h.co.join i j (h.uf.rr i hi),h.fi.join hi hj,λp hp=>by
  rcases cR.1 hp with hp|hp
  ·exact h.so p hp
  ·simp at hp;subst hp;exact ht⟩
structure Joined (all:List aI) (r:Nat->Nat):Prop where
 le:∀i,i<all.length->r i<=i
 rr:∀i,i<all.length->r (r i)=r i
 co:∀i j,AX all i j->r i=r j
 fi:∀S:Nat->Prop,(∀i j,AX all i j->(S i↔S j))->∀i j,i<all.length->j<all.length->r i=r j->S i->S j
def o5(all:List aI)(n:Nat)(r:Nat->Nat)(h:Nat):List aI:=(cls n r h).filterMap<|λi=>all[i]?
theorem Dj(all:List aI)(n:Nat)(r:Nat->Nat)(h:Nat):(o5 all n r h).length<=n:=by
 have h1:=List.length_filterMap_le (λi=>all[i]?)<|cls n r h
 have h2:=Cw n r h;unfold o5;omega
theorem yj{all:List aI}{n:Nat}{r:Nat->Nat}(h:Nat){x:aI}(hx:all[n]? =some x):o5 all (n+1) r h=if r n=h then o5 all n r h++[x]else o5 all n r h:=by
 unfold o5;rw[xL];split
 ·rw[List.filterMap_append];simp[hx]
 ·rfl
theorem m8{all:List aI}{n:Nat}{r:Nat->Nat}{h:Nat}{x:aI}:x∈o5 all n r h↔∃i,i<n/\r i=h/\all[i]? =some x:=by
 unfold o5 cls;rw[List.mem_filterMap];constructor
 ·rintro⟨i,hi,h⟩;have:=j7.1 hi;exact⟨i,oy.1 this.1,by simpa using this.2,h⟩
 ·rintro⟨i,h1,h2,h3⟩;exact⟨i,j7.2 ⟨oy.2 h1,by simpa using h2⟩,h3⟩
structure ug (s:List aA) (r:Nat->Nat) (ps:List (List aA)):Prop where
 join:Joined (aU s) r
 len:ps.length=(bU (aU s).length r).length
 each:∀(j h:Nat)(p:List aA),(bU (aU s).length r)[j]? =some h->ps[j]? =some p->tD (o5 (aU s) (aU s).length r h) p
def RM(n:Nat)(r:Nat->Nat)(m:List (Int×Int)):Prop:=(∀(j k:Nat),(bU n r)[j]? =some k->fD m ((k:Nat):Int) 0=((j:Nat):Int))/\∀k:Nat,lA m ((k:Nat):Int)=decide (k∈bU n r)
theorem Ib{s:List aA}{X Y:List Int}(hc:fJ (s.map cJ))(hl:zC X Y (s.map cJ))(hX:∀c∈X,small c)(hY:∀c∈Y,small c)(h1:s.length<=1073741824)(h2:∀b∈s,b.Xs.length<=1073741824)(h3:(aU s).length<=134217728)(hN:4398046511104<=N):
  Ok (mV N s) (λps=>∃r,ug s r ps):=by
 unfold mV;have hev:=vA hc;have hinc:=Jc hc;refine IT (Dd hev (by omega) (λb hb=>by have:=h2 b hb;omega) (by omega)) ?_;have hok:=De hc hl hX hY;have hall:jP s s.length=(aU s).length:=G3 s;generalize hn:(aU s).length=n at *;refine IT (pE 0 (by omega)) ?_;rw[show((List.replicate n (0:Int)).length)=n by simp];refine Sr (Ts (λk up=>up.length=n/\∀i,i<k->up[i]? =some ((i:Nat):Int)) (by omega) ⟨by simp,λi hi=>by omega⟩<|λk up hk hI=>?_) ?_
 ·obtain⟨hs,hi⟩:=hI;refine Ti (by omega)<|Sh ⟨by simp[hs],λi hi'=>?_⟩
  rw[cA,pG (by omega)];split
  ·rename_i e;rw[e]
  ·exact hi i (by omega)
 rintro up0⟨hu1,hu2⟩
 refine Sr (Ts (λk st=>st.2.1=((jP s k:Nat):Int)/\(0<k->st.2.2=((jP s (k - 1):Nat):Int))/\∃r E,PJ (aU s) n st.1 r E/\∀q,q<k->∀i j,jP s q<=j->j<jP s (q+1)->AX (aU s) i j->(i,j)∈E) (by omega)
  ⟨rfl,λh=>by omega,_,_,⟨UF.init n up0 hu1 hu2,nE.id,w6.id n,λp hp=>(by cases hp)⟩,λq hq=>by omega⟩ (λk st hk hI=>?_)) ?_
 ·obtain⟨up,a,b⟩:=st;obtain⟨e1,e2,r,E,hP,hE⟩:=hI;dsimp only at e1 e2 hP ⊢;subst e1;refine Ti hk ?_;have hoff:=Bl hk;have hoffle:jP s (k+1)<=n:=by rw[<-hall];exact Bm hk
  have hkm:=cL hk;have hlen:wrap .i64 (Int.tdiv ((s[k].Xs.length:Nat):Int) 2)=((s[k].Xs.length / 2:Nat):Int):=by
   have:=h2 _ hkm;rw[show(2:Int)=((2:Nat):Int)by rfl,<-Int.ofNat_tdiv,G0 (by omega)]
  rw[hlen,wrap_add (by omega),<-hoff];refine Sr (P:=λc=>c=true↔∃h0:0<k,s[k - 1].Y1=s[k].Y0) ?_<|λc hcc=>?_
  ·refine SP (λh=>?_)<|λh=>Sh ?_
   ·have hpos:0<k:=by have:=of_decide_eq_true h;omega
    rw[jg hpos (by omega)];refine Ti (by omega)<|Sh ?_
    rw[beq_iff_eq];exact⟨λh=>⟨hpos,h⟩,λ⟨_,h⟩=>h⟩
   ·have:=of_decide_eq_false h;constructor
    ·intro h;cases h
    ·rintro⟨h0,_⟩;omega
  refine Sr (P:=λup'=>∃r E,PJ (aU s) n up' r E/\∀q,q<k+1->∀i j,jP s q<=j->j<jP s (q+1)->AX (aU s) i j->(i,j)∈E) ?_<|λup' hI=>Sh ⟨rfl,λ_=>rfl,hI⟩
  refine SP (λh=>?_)<|λh=>Sh ⟨r,E,hP,λq hq i j q1 q2 ht=>?_⟩
  ·obtain⟨hpos,hyy⟩:=hcc.1 h;rw[e2 hpos];have hoffp:=Bl (show k - 1<s.length by omega);rw[show k - 1+1=k by omega]at hoffp
   refine Sr (Tw (Go:=λst=>∃r E,PJ (aU s) n st.1 r E/\∀q,q<k+1->∀i j,jP s q<=j->j<jP s (q+1)->AX (aU s) i j->(i,j)∈E) (Rt:=λ_=>True)
    (λst=>∃i j:Nat,st.2.1=((i:Nat):Int)/\st.2.2=((j:Nat):Int)/\jP s (k - 1)<=i/\i<=jP s k/\jP s k<=j/\j<=jP s (k+1)/\∃r E,PJ (aU s) n st.1 r E/\(∀q,q<k->∀i j,jP s q<=j->j<jP s (q+1)->AX (aU s) i j->(i,j)∈E)/\
     ∀i' j',jP s (k - 1)<=i'->i'<jP s k->jP s k<=j'->j'<jP s (k+1)->(i'<i\/j'<j)->AX (aU s) i' j'->(i',j')∈E)
    (λst=>(n - st.2.1.toNat)+(n - st.2.2.toNat)) ?_ ?_ (by simp only[cA];omega)) (λo ho=>SV ho (λst h=>Sh h) (λr=>r.elim))
   ·rintro⟨up,a,b⟩⟨i,j,e3,e4,i1,i2,j1,j2,r,E,hP,hE,hE2⟩;dsimp only at e3 e4 hP ⊢;subst e3;subst e4;refine SP (λh=>?_)<|λh=>SU ?_
    ·rw[bX,bJ,bJ]at h;have hi:i<jP s k:=by omega
     have hj:j<jP s (k+1):=by omega
     obtain⟨t,et,_,hri⟩:=yi hev (show k - 1<s.length by omega) i1 (by rw[show k - 1+1=k by omega];exact hi);obtain⟨u,eu,_,hrj⟩:=yi hev hk j1 hj;have xi:=hinc _<|cL (show k - 1<s.length by omega)
     have xj:=hinc _ hkm;have farI:∀i' a,i<i'->i'<jP s k->(aU s)[i']? =some a->s[k - 1].Xs[2*t+1]<a.X0:=λi' a h4 h5 h6=>by
      obtain⟨t',et',ht',hr'⟩:=yi hev (show k - 1<s.length by omega) (show jP s (k - 1)<=i' by omega) (by rw[show k - 1+1=k by omega];exact h5);rw[hr']at h6;injection h6 with h6;subst h6
      exact xi.lt (show 2*t+1<2*t' by omega) (aO _)<|aO _
     have farJ:∀j' a,j<j'->j'<jP s (k+1)->(aU s)[j']? =some a->s[k].Xs[2*u+1]<a.X0:=λj' a h4 h5 h6=>by
      obtain⟨u',eu',hu',hr'⟩:=yi hev hk (show jP s k<=j' by omega) h5;rw[hr']at h6;injection h6 with h6;subst h6
      exact xj.lt (show 2*u+1<2*u' by omega) (aO _)<|aO _
     refine Sr (P:=λc=>c=true↔AX (aU s) i j) ?_<|λc hct=>?_
     ·refine Sy hri<|Sy hrj<|SP (λh=>Sy hrj<|Sy hri<|Sh ?_)<|λh=>Sh ?_
      ·rw[bJ]at h ⊢;constructor
       ·intro h';exact⟨_,_,hri,hrj,hyy,h,h'⟩
       ·rintro⟨a,c,ha,hc',_,_,h'⟩;rw[hri]at ha;injection ha with ha;subst ha
        rw[hrj]at hc';injection hc' with hc';subst hc'
        exact h'
      ·constructor
       ·intro h;cases h
       ·rintro⟨a,c,ha,hc',_,h',_⟩;rw[hri]at ha;injection ha with ha;subst ha
        rw[hrj]at hc';injection hc' with hc';subst hc'
        rw[decide_eq_false_iff_not]at h;exact absurd h' h
     refine Sr (P:=λup'=>∃r E',PJ (aU s) n up' r E'/\(∀p∈E,p∈E')/\(AX (aU s) i j->(i,j)∈E')) ?_ ?_
     ·refine SP (λh=>?_)<|λh=>Sh ⟨r,E,hP,λp hp=>hp,λht=>by rw[hct.2 ht]at h;cases h⟩
      obtain⟨up',u1,u2⟩:=K9 (N:=N) (f:=λx=>some x) hP.uf (i:=i) (k:=j) (by omega) (by omega) (by omega);refine⟨up',u1,_,_,hP.join (by omega) (by omega) u2<|hct.1 h,λp hp=>List.mem_append_left _ hp,λ_=>by simp⟩
     ·rintro up'⟨r',E',hP',hsub,hij⟩;refine Sy hri<|Sy hrj ?_
      dsimp only
      by_cases hx:s[k - 1].Xs[2*t+1]<s[k].Xs[2*u+1]
      ·rw[bL hx,aK];refine IT (x:=(((i+1:Nat):Int),((j:Nat):Int))) (by rw[bK (by omega)])<|SJ ⟨⟨i+1,j,rfl,rfl,by omega,by omega,j1,j2,r',E',hP',λq hq i j q1 q2 ht=>hsub _<|hE q hq i j q1 q2 ht,λi' j' g1 g2 g3 g4 g5 ht=>?_⟩,by simp only[cA];omega⟩
       by_cases h5:i'<i\/j'<j
       ·exact hsub _<|hE2 i' j' g1 g2 g3 g4 h5 ht
       ·have:i'=i:=by omega
        subst this
        by_cases h6:j'=j
        ·subst h6;exact hij ht
        ·exfalso;obtain⟨a,c,ha,hc',_,_,h'⟩:=ht;rw[hri]at ha;injection ha with ha;subst ha
         have:=farJ j' c (by omega) g4 hc';dsimp only at h';omega
      ·rw[bG hx,aM];refine IT (x:=(((i:Nat):Int),((j+1:Nat):Int))) (by rw[bK (by omega)])<|SJ ⟨⟨i,j+1,rfl,rfl,i1,i2,by omega,by omega,r',E',hP',λq hq i j q1 q2 ht=>hsub _<|hE q hq i j q1 q2 ht,λi' j' g1 g2 g3 g4 g5 ht=>?_⟩,by simp only[cA];omega⟩
       by_cases h5:i'<i\/j'<j
       ·exact hsub _<|hE2 i' j' g1 g2 g3 g4 h5 ht
       ·have:j'=j:=by omega
        subst this
        by_cases h6:i'=i
        ·subst h6;exact hij ht
        ·exfalso;obtain⟨a,c,ha,hc',_,h',_⟩:=ht;rw[hrj]at hc';injection hc' with hc';subst hc'
         have:=farI i' a (by omega) g2 ha;dsimp only at h';omega
    ·refine⟨r,E,hP,λq hq i' j' q1 q2 ht=>?_⟩
     by_cases hqk:q<k
     ·exact hE q hqk i' j' q1 q2 ht
     ·have:q=k:=by omega
      subst this;obtain⟨_,_,g1,g2⟩:=G4 hc hk q1 q2 ht;refine hE2 i' j' g1 g2 q1 q2 ?_ ht;rw[Bool.and_eq_false_iff,decide_eq_false_iff_not,decide_eq_false_iff_not]at h;omega
   ·exact⟨jP s<|k - 1,jP s k,rfl,rfl,bZ _,Bm (by omega),bZ _,Bm (by omega),r,E,hP,hE,λi' j' g1 g2 g3 g4 g5=>by omega⟩
  ·by_cases hqk:q<k
   ·exact hE q hqk i j q1 q2 ht
   ·have:q=k:=by omega
    subst this;obtain⟨g0,g1,_⟩:=G4 hc hk q1 q2 ht;rw[hcc.2 ⟨g0,g1⟩]at h;cases h
 ·rintro⟨up,a,b⟩⟨_,_,r,E,hP,hE⟩;dsimp only at hP ⊢;have hEq:∀i j,AX (aU s) i j->(i,j)∈E:=λi j ht=>by
   have hjl:j<(aU s).length:=by obtain⟨a,c,_,hb,_⟩:=ht;exact(bD.1 hb).1
   obtain⟨q,hq,q1,q2⟩:=Jb hjl;exact hE q hq i j q1 q2 ht
  have hJ:Joined (aU s) r:=⟨by rw[hn];exact hP.uf.le,by rw[hn];exact hP.uf.rr,λi j ht=>hP.co (i,j) (hEq i j ht),λS hS i j hi hj=>by
   rw[hn]at hi hj
   exact hP.fi S (λp hp=>hS p.1 p.2 (hP.so p hp)) i j hi hj⟩
  refine Sr (Ts (λk st=>UF n st.1 r/\RM k r st.2.1/\st.2.2=(bU k r).map (o5 (aU s) k r)) (by omega) ⟨hP.uf,⟨λj k hj=>by simp[bU]at hj,λk=>rfl⟩,rfl⟩<|λk st hk hI=>?_) ?_
  ·obtain⟨l,m,ls⟩:=st;obtain⟨hu,⟨hm1,hm2⟩,hs⟩:=hI;dsimp only at hu hm1 hm2 hs ⊢;subst hs;have hkx:(aU s)[k]? =some ((aU s)[k]'(by omega)):=aO (by omega);refine Sy hkx ?_;obtain⟨u',a1,a2⟩:=FG (N:=N) hu hk (by omega);refine IT a1 ?_;dsimp only;have hhl:=mx k r;have hrk:=hP.uf.le k hk;have hrr:=hP.uf.rr k hk;have hcl:=Dj (aU s) k r<|r k
   have hmap:((bU k r).map<|o5 (aU s) k r).length=(bU k r).length:=by simp
   rw[hm2]
   by_cases e:r k=k
   ·have hnot:r k∉bU k r:=λh=>by have:=(j5.1 h).1;omega
    refine IT (x:=(qP m ((r k:Nat):Int) (((bU k r).length:Nat):Int),(bU k r).map (o5 (aU s) k r)++[([]:List aI)],(((bU k r).length:Nat):Int))) ?_ ?_
    ·rw[bG hnot,jo,aK,lS (by simp;omega),aB,hmap]
    ·dsimp only;have hi:((bU k r).map (o5 (aU s) k r)++[([]:List aI)])[(bU k r).length]? =some []:=by rw[<-hmap,ir<|bZ _,Nat.sub_self];rfl
     refine Sy hi<|Td (by simp)<|Sy hi<|Sh ⟨a2,⟨λj q hj=>?_,λq=>?_⟩,?_⟩
     ·dsimp only;rw[ij,aC e]at hj;rw[lK]
      by_cases e2:j<(bU k r).length
      ·rw[gX e2]at hj;have:=(j5.1<|fQ hj).1;rw[aD (by omega)];exact hm1 j q hj
      ·rw[ir (by omega)]at hj;have hj0:j -(bU k r).length=0:=by
        have:=(bD.1 hj).1;simp at this;omega
       rw[hj0]at hj;simp at hj;subst hj;rw[aC (by rw[e])];congr 1;omega
     ·dsimp only;rw[oR,hm2,ij,aC e,dY];rw[dU,bJ,bJ,bJ,cR,kp,e];constructor
      ·rintro(h|h)
       ·exact .inr (by omega)
       ·exact .inl h
      ·rintro(h|h)
       ·exact .inr h
       ·exact .inl (by omega)
     ·dsimp only;rw[cA,<-hmap,List.set_append_right _ _<|bZ _,Nat.sub_self,ij,aC e,eG];congr 1
      ·apply List.map_congr_left;intro a ha;have:=(j5.1 ha).1;rw[yj a hkx,aD (by omega)]
      ·simp only[List.set_cons_zero,eL,List.map_nil,List.nil_append];rw[yj k hkx,aC e];have:o5 (aU s) k r k= []:=by unfold o5;rw[Ja (λi hi=>hP.uf.le i (by omega))<|bZ _];rfl
       rw[this];rfl
   ·have hh:r k∈bU k r:=j5.2 ⟨by omega,hrr⟩;obtain⟨j,hj⟩:=dZ hh;refine IT (x:=(m,(bU k r).map<|o5 (aU s) k r,((j:Nat):Int))) ?_ ?_
    ·rw[bL hh,jz,aM,hm1 j (r k) hj]
    ·dsimp only;have hi:((bU k r).map<|o5 (aU s) k r)[j]? =some (o5 (aU s) k r<|r k):=by rw[fL,hj];rfl
     refine Sy hi<|Td (by simp;omega)<|Sy hi<|Sh ⟨a2,⟨λj' q hj'=>?_,λq=>?_⟩,?_⟩
     ·rw[ij,aD e]at hj';exact hm1 j' q hj'
     ·rw[ij,aD e];exact hm2 q
     ·dsimp only;rw[cA,ij,aD e]
      have:=xM (o5 (aU s) k r) (o5 (aU s) (k+1) r) (bU k r) j (r k) (oq k r) hj (λb hb hne=>by
       rw[yj b hkx,aD (λh=>hne h.symm)])
      rw[yj (r k) hkx,aC rfl]at this;exact this
  ·rintro⟨l,m,ls⟩⟨_,_,hs⟩;dsimp only at hs ⊢;subst hs;have hhl:=mx n r;refine Sr (Ts (λk ps=>ps.length=k/\∀(j h:Nat)(p:List aA),j<k->(bU n r)[j]? =some h->ps[j]? =some p->tD (o5 (aU s) n r h) p) (by simp;omega) ⟨rfl,λj h p hj=>by omega⟩<|λk ps hk hI=>?_) ?_
   ·obtain⟨hp1,hp2⟩:=hI;have hk':k<(bU n r).length:=by simpa using hk
    refine Sy (x:=o5 (aU s) n r (bU n r)[k]) (by rw[fL,aO hk'];rfl) ?_;have hcl:=Dj (aU s) n r (bU n r)[k];refine Sr (qX (N:=N) (by omega) (λx hx=>?_) (by omega)) ?_
    ·obtain⟨i,_,_,h⟩:=m8.1 hx;exact(hok x<|fQ h).1
    ·intro p hp;refine Td (by rw[hp1];simp;omega)<|Sh ⟨by simp[hp1],λj h q hj hh hq=>?_⟩
     by_cases hjk:j<k
     ·rw[gX (by omega)]at hq;exact hp2 j h q hjk hh hq
     ·have:j=k:=by omega
      subst this;rw[ir (by omega),hp1,Nat.sub_self]at hq;simp at hq;subst hq;rw[aO hk']at hh;injection hh with hh;subst hh
      exact hp
   ·rintro ps⟨hp1,hp2⟩;refine Sh ⟨r,hJ,?_,λj h p hh hp=>?_⟩
    ·rw[hp1,hn];simp
    ·rw[hn]at hh ⊢;exact hp2 j h p (by have:=(bD.1 hp).1;omega) hh hp
end
section
variable {N:Nat}
theorem Ax{n:Int}(h: -9223372036854775808<=n/\n<=9223372036854775807):wrap .i64 n=n:=by rw[IntKind.wrap_i64];omega
def gE(n lo hi:Int):Bool:=decide (n>=lo)&&decide (n<=hi)
def mE(n:Int):Bool:=gE n (-1000000) 1000000
def tF(p:j6):Bool:=mE p.X&&mE p.Y
def ga(r:aI):Bool:=mE r.X0&&(mE r.Y0&&(mE r.X1&&mE r.Y1))
theorem Dk(n:Int):mG N n=some (mE n):=rfl
theorem BV(p:j6):kQ N p=some (tF p):=by
 unfold kQ tF;rw[Dk,aB,Dk]
 cases mE p.X <;> rfl
theorem BW(p:j6):gJ N p=some (tF p):=by
 have e:∀n,cT N n=some (mE n):=λ_=>rfl;unfold gJ tF;rw[e,aB,e]
 cases mE p.X <;> rfl
theorem Dl(r:aI):oE N r=some (ga r):=by
 unfold oE ga;simp only[Dk,aB]
 cases mE r.X0 <;> cases mE r.Y0 <;> cases mE r.X1 <;> rfl
theorem G5{a b:Int}(h:a≠b):iW (N+4) [a,b]=some [a,b]:=by
 have e:(b==a)=false:=by rw[beq_eq_false_iff_ne];exact λe=>h e.symm
 have w1:wrap .i64 ((1:Int) - 1)=0:=by decide
 have w2:wrap .i64 ((1:Int)+1)=2:=by decide
 unfold iW;have e1:idx [a,b] 1=some b:=rfl;have e2:idx [a,b] 0=some a:=rfl;have l2:(([a,b]:List Int).length:Int)=2:=rfl;rw[l2,show decide ((2:Int)<2)=false by decide,aM];rw[jt.eq_def];dsimp only;rw[show decide ((1:Int)<2)=true by decide,aK,e1,aB,w1,e2,aB,e,aM,aB,w2];dsimp only;rw[jt.eq_def];dsimp only;rw[show decide ((2:Int)<2)=false by decide,aM,aB];rfl
theorem Nk(x:Int):wrap .i64 (x - x)=0:=by rw[Int.sub_self];decide
theorem JZ{r:aI}(hx:r.X0<r.X1)(hy:r.Y0<r.Y1):i5 (N+16) [r]=some [⟨r.Y0,r.Y1,[r.X0,r.X1]⟩]:=by
 have s1:zP (k9<|N+16) [r]=some [r]:=EJ (by unfold k9;rw[Nk]);have s2:zP (iX<|N+16) [r]=some [r]:=EJ (by unfold iX;rw[Nk]);have s3:xh [r.Y0,r.Y1]=some [r.Y0,r.Y1]:=Eb (by simp;omega) (by simp);have c1:ku (N+16) [r]=some [r]:=rfl;have f1:∀φ,jB (N+16) [] φ=some []:=λφ=>rfl;have st:kG (N+16) [r]=some ([r.X0,r.X1],[r]):=by
  unfold kG;rw[s2,aB];rfl
 have pu:∀b:aA,b.Xs= [r.X0,r.X1]->b.Y0<b.Y1->kg (N+16) [] b=some [b]:=λb h1 h2=>by
  unfold kg;rw[h1,bG (show ¬b.Y1<=b.Y0 by omega)];rfl
 unfold i5;rw[c1,aB,s1,aB];have ys:mU ([r]:List aI).length (λ(k35:Nat)(s36:List Int)=>((idx [r] (k35:Int)).bind λx54=>(app 8 s36 ([x54.Y0,x54.Y1]:List Int)).bind λx58=>some x58:Option (List Int))) ([]:List Int)=some [r.Y0,r.Y1]:=rfl;rw[ys,aB,s3,aB,G5 (N:=N+12) (by omega),aB];have l2:(([r.Y0,r.Y1]:List Int).length:Int)=2:=rfl;have l1:(([r]:List aI).length:Int)=1:=rfl;have w1:wrap .i64 ((0:Int)+1)=1:=by decide
 have w2:wrap .i64 ((1:Int)+1)=2:=by decide
 have i0:idx [r.Y0,r.Y1] 0=some r.Y0:=rfl;have i1:idx [r.Y0,r.Y1] 1=some r.Y1:=rfl;have j0:idx [r] 0=some r:=rfl;have a1:app 32 ([]:List aI) [r]=some [r]:=rfl;rw[l2,l1];rw[jt.eq_def];dsimp only;rw[w1,show decide ((1:Int)<2)=true by decide,aK,f1,aB];rw[jt.eq_def];dsimp only;rw[show decide ((0:Int)<1)=true by decide,aK,j0,aB,i0,aB,aB,show decide (r.Y0<=r.Y0)=true by simp,aK,aB,a1,aB,w1,aB];dsimp only;rw[jt.eq_def];dsimp only;rw[show decide ((1:Int)<1)=false by decide,aM,aB,aM,aB,aB];unfold Fo.cs;dsimp only;rw[aB,i1,aB,st,aB,pu _ rfl hy,aB,aB];dsimp only;rw[jt.eq_def];dsimp only;rw[w2,show decide ((2:Int)<2)=false by decide,aM,aB];rfl
theorem Lb{r:aI}(hx:r.X0<r.X1):nT N [⟨r.Y0,r.Y1,[r.X0,r.X1]⟩]=some (ga r):=by
 have ar:oG N [⟨r.Y0,r.Y1,[r.X0,r.X1]⟩]=some r:=by
  have e1:(if r.X0<r.X0 then r.X0 else r.X0)=r.X0:=by split <;> rfl
  have e2:(if r.X1<r.X1 then r.X1 else r.X1)=r.X1:=by split <;> rfl
  show some ({X0:=(if r.X0<r.X0 then r.X0 else r.X0),Y0:=r.Y0,X1:=(if r.X1<r.X1 then r.X1 else r.X1),Y1:=r.Y1}:aI)=some r;rw[e1,e2]
 unfold nT;rw[ar,aB,Dl];rfl
def xc(b:bT):aI:=⟨b.At.X - b.dW / 2,b.At.Y - b.dW / 2,b.At.X - b.dW / 2+b.dW,b.At.Y - b.dW / 2+b.dW⟩
def sm(b:bT):Bool:=gE b.dW 1 10000&&tF b.At
def nL(b:bT):aI×Int:=if sm b&&ga (xc b)then(xc b,0)else(⟨0,0,0,0⟩,1)
theorem uh{b:bT}(h:sm b=true):(1<=b.dW/\b.dW<=10000)/\(-1000000<=b.At.X/\b.At.X<=1000000)/\(-1000000<=b.At.Y/\b.At.Y<=1000000):=by
 simp only[sm,gE,tF,mE,bX,decide_eq_true_iff]at h;omega
theorem ot{b:bT}(h:sm b=true):ik N b=some (xc b):=by
 obtain⟨h1,h2,h3⟩:=uh h;have t:Int.tdiv b.dW 2=b.dW / 2:=Int.tdiv_eq_ediv_of_nonneg (by omega);unfold ik xc;rw[t,Ax (n:=b.dW / 2) (by omega),Ax (n:=b.At.X - b.dW / 2) (by omega),Ax (n:=b.At.Y - b.dW / 2) (by omega),Ax (by omega),Ax (by omega)]
theorem Bn{b:bT}:nc (N+16) b=some (nL b):=by
 have e0:jw (N+16) b.dW 1 10000=some (gE b.dW 1 10000):=rfl;have e1:(bif(!(gE b.dW 1 10000))then some true else some (!(tF b.At)))=some (!sm b):=by unfold sm;cases gE b.dW 1 10000 <;> rfl
 unfold nc nL;rw[e0,aB,BV,aB,e1,aB]
 cases hf:sm b with
 |false=>rfl
 |true=>
  obtain⟨h1,h2,h3⟩:=uh hf;have hx:(xc b).X0<(xc b).X1:=by simp only[xc];omega
  have hy:(xc b).Y0<(xc b).Y1:=by simp only[xc];omega
  rw[jz,aM,ot hf,aB,JZ hx hy,aB,Lb hx,aB]
  cases ga (xc b) <;> rfl
end
section
variable {N:Nat}
def G6(c:UInt8):Bool:=
 (((decide (((c.toNat:Nat):Int)<65)||decide (((c.toNat:Nat):Int)>90))&&(decide (((c.toNat:Nat):Int)<97)||decide (((c.toNat:Nat):Int)>122)))&&(decide (((c.toNat:Nat):Int)<48)||decide (((c.toNat:Nat):Int)>57)))&&decide (Lib.indexByte [95,43,45,35] c<0)
def isWord(s:eQ):Bool:= !s.dN.any G6&&(decide (1<=s.dN.length)&&decide (s.dN.length<=40))
theorem wq(s:eQ)(c:UInt8):iH N s ((c.toNat:Nat):Int)=some (Lib.indexByte s.dN c):=by
 show some (Lib.indexByte s.dN (Int.toNat ((c.toNat:Nat):Int)).toUInt8)=_;rw[cA];simp
theorem Ic{R:Type}(b1:Bool)(c:UInt8)(r:R):
  ((bif b1 then((iH N (⟨[95,43,45,35]⟩) ((c.toNat:Nat):Int)).bind λx14=>some<|decide<|x14<0)else some false).bind λs12=>bif s12 then some (.rt r)else(some<|.nx ()):Option (Fl Unit R))=some (if(b1&&decide (Lib.indexByte [95,43,45,35] c<0))=true then .rt r else .nx ()):=by
 rw[wq,aB]
 cases b1
 ·rfl
 ·rw[aK,aB,Bool.true_and]
  cases decide (Lib.indexByte [95,43,45,35] c<0) <;> rfl
theorem ui{s:eQ}(h:s.dN.length<=1048576):kh N s=some (isWord s):=by
 unfold kh
 rw[Mg G6 false (by omega) (λk x hx=>by
  have hk:=(bD.1 hx).1;have e:HL s ((k:Nat):Int)=some x:=by rw[GR s k hk,<-aO hk,hx]
  rw[e,aB]
  exact Ic (R:=Bool) _ x false),aB]
 unfold isWord
 cases s.dN.any G6
 ·simp only[Fo.cs,jo,Bool.true_and,Bool.false_eq_true,if_false,Option.some.injEq];rw[dY,bX,bX];simp only[bJ];omega
 ·simp[Fo.cs]
def cutAt(c:UInt8):List UInt8->List (List UInt8)
 | []=>[[]]
 |b::l=>if b==c then []::cutAt c l else match cutAt c l with|h::t=>(b::h)::t| []=>[[b]]
theorem Dm{c:UInt8}:∀{l:List UInt8},c∉l->cutAt c l= [l]
 | [],_=>rfl
 |b::l,h=>by
  unfold cutAt;have hb:(b==c)=false:=by rw[beq_eq_false_iff_ne];rintro rfl;exact h (by simp)
  rw[hb,Dm<|λh'=>h (by simp[h'])];rfl
theorem G7{c:UInt8}:∀{a b:List UInt8},c∉a->cutAt c (a++c::b)=a::cutAt c b
 | [],b,_=>by rw[List.nil_append];show(if(c==c)=true then _ else _)=_;simp
 |x::a,b,h=>by
  have hb:(x==c)=false:=by rw[beq_eq_false_iff_ne];rintro rfl;exact h (by simp)
  have ih:=G7 (c:=c) (a:=a) (b:=b)<|λh'=>h (by simp[h'])
  show(if(x==c)=true then []::cutAt c (a++c::b)else match cutAt c (a++c::b)with|h::t=>(x::h)::t| []=>[[x]])=_;rw[hb,ih];rfl
theorem xN:∀(l:List UInt8)(c:UInt8),(Lib.indexByte l c = -1/\c∉l)\/∃a b,l=a++c::b/\c∉a/\Lib.indexByte l c=((a.length:Nat):Int)
 | [],c=> .inl ⟨rfl,by simp⟩
 |x::l,c=>by
  unfold Lib.indexByte
  by_cases hx:x=c
  ·subst hx;exact .inr ⟨[],l,rfl,by simp,by simp⟩
  ·have hb:(x==c)=false:=by rw[beq_eq_false_iff_ne];exact hx
   rcases xN l c with⟨h1,h2⟩|⟨a,b,h1,h2,h3⟩
   ·left;rw[hb,h1];refine⟨by simp,?_⟩;simp[h2];exact λh=>hx h.symm
   ·right;refine⟨x::a,b,by rw[h1];rfl,by simp[h2];exact λh=>hx h.symm,?_⟩;rw[hb,h3];have:(((a.length:Nat):Int)== -1)=false:=by rw[beq_eq_false_iff_ne];omega
    rw[this];simp
theorem Lc(s:eQ)(c:UInt8):ng N s ⟨[c]⟩=some (Lib.indexByte s.dN c):=by
 show(lQ N s ⟨[c]⟩).bind _=_;unfold lQ
 by_cases h:eQ.o8 ⟨[c]⟩ s=true
 ·have:s= ⟨[c]⟩:=(Ad.1 h).symm;subst this;rw[h];simp[Lib.indexByte]
 ·rw[jy]at h;rw[h];show((jM N s ((c.toNat:Nat):Int)).bind _).bind _=_;have:=wq (N:=N) s c;simp only[iH]at this;rw[this];rfl
theorem Ld(s:eQ)(c:UInt8):o9 N s ⟨[c]⟩=some ((s.dN.count c:Nat):Int):=by
 unfold o9;show(some _:Option Int)=_;simp[Lib.countByte]
theorem J0{s:eQ}{k:Nat}(h:k<=s.dN.length):y4 s 0 ((k:Nat):Int)=some ⟨s.dN.take k⟩:=by
 unfold y4;rw[aC ⟨by omega,by omega,by omega⟩];simp only[Int.toNat_zero,List.drop_zero,Int.sub_zero,cA]
theorem J3{s:eQ}{k:Nat}(h:k<=s.dN.length):y4 s ((k:Nat):Int) ((s.dN.length:Nat):Int)=some ⟨s.dN.drop k⟩:=by
 unfold y4;rw[aC ⟨by omega,by omega,by omega⟩];simp only[cA];rw[mF];rw[jl];omega
def pN(s:eQ)(c:UInt8):List eQ:=(cutAt c s.dN).map eQ.mk
theorem G8{s:eQ}(c:UInt8)(h:s.dN.length<=1048576)(hN:4194304<=N):ni N s ⟨[c]⟩=some (pN s c):=by
 have hc:s.dN.count c<=s.dN.length:=List.count_le_length;unfold ni oH;rw[show((-1:Int)==0)=false by decide,aM,show eQ.o8 ⟨[c]⟩ ⟨[]⟩=false by simp[eQ.o8],aM,Ld,aB];rw[fw (x:=((s.dN.count c:Nat):Int)+1) (by omega) (by omega),show decide ((-1:Int)<0)=true by decide,aK,aB];rw[fw (x:=((s.dN.length:Nat):Int)+1) (by omega) (by omega)];have e1:(if((s.dN.length:Nat):Int)+1<((s.dN.count c:Nat):Int)+1 then((s.dN.length:Nat):Int)+1 else((s.dN.count c:Nat):Int)+1)=((s.dN.count c+1:Nat):Int):=by
  rw[aD (by omega)];omega
 rw[e1,pE _ (by omega),aB];rw[fw (x:=((s.dN.count c+1:Nat):Int) - 1) (by omega) (by omega)];have key:=Ac (S:=eQ×List eQ×Int) (R:=Empty) (body:=(λ(s7:eQ×List eQ×Int)=>(bif decide (s7.2.2<((s.dN.count c+1:Nat):Int) - 1)then((ng N s7.1 ⟨[c]⟩).bind λx23=>bif decide (x23<0)then some (.br (s7.1,s7.2.1,s7.2.2))else((y4 s7.1 0<|wrap .i64<|x23+0).bind λx24=>(idx s7.2.1 s7.2.2).bind λx25=>(y4 s7.1 (wrap .i64<|x23+(((⟨[c]⟩:eQ).dN.length:Nat):Int)) ((s7.1.dN.length:Nat):Int)).bind λx27=>some<|.nx (x27,s7.2.1.set (Int.toNat s7.2.2) x24,wrap .i64<|s7.2.2+1)))else(some<|.br (s7.1,s7.2.1,s7.2.2)):Option (Fl (eQ×List eQ×Int) Empty))))
  (λst=>∃ws:List (List UInt8),st.2.2=((ws.length:Nat):Int)/\cutAt c s.dN=ws++cutAt c st.1.dN/\ws.length+st.1.dN.count c=s.dN.count c/\st.1.dN.length<=s.dN.length/\st.2.1=ws.map eQ.mk++List.replicate (s.dN.count c+1 - ws.length) ⟨[]⟩)
  (λst=>s.dN.count c+1 - st.2.2.toNat)
  (λst=>∃ws:List (List UInt8),st.2.2=((ws.length:Nat):Int)/\cutAt c s.dN=ws++[st.1.dN]/\ws.length=s.dN.count c/\st.2.1=ws.map eQ.mk++[⟨[]⟩])
  (λ_=>True) (by
   rintro⟨r,arr,i⟩⟨ws,h1,h2,h3,h4,h5⟩;simp only at h1 h2 h3 h4 h5;subst h1 h5
   by_cases hlt:ws.length<s.dN.count c
   ·have hd:decide (((ws.length:Nat):Int)<((s.dN.count c+1:Nat):Int) - 1)=true:=by rw[bJ];omega
    simp only[hd,aK,Lc,aB]
    rcases xN r.dN c with⟨_,hn⟩|⟨a,b,hr,ha,hi⟩
    ·rw[List.count_eq_zero_of_not_mem hn]at h3;omega
    ·have hrl:r.dN.length=a.length+(b.length+1):=by rw[hr];simp
     rw[hi,bG (by omega),aM];rw[show((a.length:Nat):Int)+0=((a.length:Nat):Int)by omega,fw (x:=((a.length:Nat):Int)) (by omega) (by omega),J0 (by omega),aB];rw[mb _ _ (by simp;omega),aB];rw[show((a.length:Nat):Int)+(((⟨[c]⟩:eQ).dN.length:Nat):Int)=((a.length+1:Nat):Int)by simp,fw (x:=((a.length+1:Nat):Int)) (by omega) (by omega),J3 (by omega),aB];refine⟨_,rfl,⟨ws++[a],?_,?_,?_,?_,?_⟩,?_⟩
     ·simp only;rw[fw (by omega) (by omega)];simp
     ·simp only;rw[h2,hr,G7 ha];simp
     ·simp only;rw[hr]at h3 ⊢;simp[List.count_eq_zero_of_not_mem ha]at h3 ⊢;omega
     ·simp;omega
     ·simp only[cA];rw[List.set_append_right _ _ (by simp)];simp only[dA,Nat.sub_self];obtain⟨d,hd'⟩:∃d,s.dN.count c+1 - ws.length=d+1:=⟨s.dN.count c - ws.length,by omega⟩;rw[hd',List.replicate_succ,List.set_cons_zero,show s.dN.count c+1 -(ws++[a]).length=d by simp;omega];simp[hr]
     ·simp only;rw[fw (by omega) (by omega)];omega
   ·have hd:decide (((ws.length:Nat):Int)<((s.dN.count c+1:Nat):Int) - 1)=false:=by rw[decide_eq_false_iff_not];omega
    simp only[hd,aM];refine⟨_,rfl,ws,rfl,?_,by omega,?_⟩
    ·have h0:r.dN.count c=0:=by omega
     rw[h2,Dm<|List.count_eq_zero.1 h0]
    ·rw[show s.dN.count c+1 - ws.length=1 by omega];rfl)
  N (s,List.replicate (s.dN.count c+1) ⟨[]⟩,0) ⟨[],rfl,rfl,by simp,bZ _,by simp⟩ (by simp only;omega)
 obtain⟨o,ho,hgo⟩:=key;rw[ho,aB]
 cases o with
 |rt r=>exact r.elim
 |go st=>
  obtain⟨r,arr,i⟩:=st;obtain⟨ws,h1,h2,h3,h4⟩:=hgo;simp only at h1 h2 h3 h4;subst h1 h4;simp only[Fo.cs];rw[mb _ _ (by simp),aB,fw (by omega) (by omega)];rw[show((ws.length:Nat):Int)+1=((ws.length+1:Nat):Int)by omega,tk _ _ (by simp),aB,aB];unfold pN;rw[h2];rw[cA,List.set_append_right _ _ (by simp),mF (by simp)];simp
def o6(s:eQ):Bool:=decide (s.dN.length<=200)&&(pN s 47).all isWord
theorem yk{c:UInt8}:∀{l x:List UInt8},x∈cutAt c l->x.length<=l.length
 | [],x,h=>by simp[cutAt]at h;subst h;simp
 |b::l,x,h=>by
  unfold cutAt at h;split at h
  ·rcases dI.1 h with h|h
   ·subst h;simp
   ·have:=yk h;simp;omega
  ·split at h
   ·rename_i t e
    rcases dI.1 h with h|h
    ·subst h;have:=yk (c:=c) (l:=l) (by rw[e];exact List.mem_cons_self);simp;omega
    ·have:=yk (c:=c) (l:=l) (by rw[e];exact iT _ h);simp;omega
   ·simp at h;subst h;simp
theorem EP(c:UInt8):∀(l:List UInt8),(cutAt c l).length<=l.length+1
 | []=>by simp[cutAt]
 |b::l=>by
  have:=EP c l;unfold cutAt;split
  ·simp;omega
  ·split
   ·rename_i e;rw[e]at this;simp at this ⊢;omega
   ·simp
theorem ER{s x:eQ}{c:UInt8}(h:x∈pN s c):x.dN.length<=s.dN.length:=by
 obtain⟨y,hy,rfl⟩:=dH.1 h;exact yk hy
theorem ES(s:eQ)(c:UInt8):(pN s c).length<=s.dN.length+1:=by unfold pN;rw[dA];exact EP c _
theorem Ay{s:eQ}(h:s.dN.length<=1048576)(hN:4194304<=N):nU N s=some (o6 s):=by
 unfold nU o6
 by_cases hl:s.dN.length<=200
 ·rw[bL (by omega),aK,G8 47 h hN,aB]
  have e:=u9 (l:=pN s 47) (φ:=jD N) (λx=> !isWord x) (by have:=ES s 47;omega) (λx hx=>by
   unfold jD
   rw[ui (by have:=ER hx;omega)];rfl)
  have e2:jC N (pN s 47) (jD N)=uE (pN s 47) (jD N):=rfl;rw[e2,e,aB,aB,bL hl,Bool.true_and];congr 1;rw[dY];simp
 ·rw[bG (by omega),aM,aB,bG hl,Bool.false_and]
end
end Go.Gk
namespace Go.Gk
open Go IntKind Classical
section
variable {N:Nat}
theorem Le{a b:aA}(h:cJ a=cJ b):a=b:=by cases a;cases b;unfold cJ at h;simp at h;obtain⟨h1,h2,h3⟩:=h;subst h1;subst h2;subst h3;rfl
theorem Az:∀{s t:List aA},s.map cJ=t.map cJ->s=t
 | [],[],_=>rfl
 | [],_::_,h=>by cases h
 |_::_,[],h=>by cases h
 |a::s,b::t,h=>by
  rw[eL,eL]at h;injection h with h1 h2
  rw[Le h1,Az h2]
theorem G9{s t:List aA}(hs:fJ (s.map cJ))(ht:fJ (t.map cJ))(h:∀x y,w9 (s.map cJ) x y=w9 (t.map cJ) x y):s=t:=Az<|wm hs ht h
theorem tD.unique{l:List aI}{s t:List aA}(hs:tD l s)(ht:tD l t):s=t:=G9 hs.can ht.can λx y=>by rw[hs.cover,ht.cover]
theorem tD.Ha{l:List aI}{s:List aA}(h:tD l s):s.length<=2*l.length/\(∀b∈s,b.Xs.length<=2*l.length)/\(aU s).length<=2*l.length*(2*l.length):=by
 have h1:s.length<=2*l.length:=by have:=h.lim.len h.can;rwa[dA,ko]at this
 have h2:∀b∈s,b.Xs.length<=2*l.length:=λb hb=>by
  have:=h.lim.row h.can (b:=cJ b)<|dH.2 ⟨b,hb,rfl⟩
  rwa[m7]at this
 exact⟨h1,h2,Dc h1 h2⟩
theorem yl{n:Int}(h:mE n=true): -1000000<=n/\n<=1000000:=by
 unfold mE gE at h;rw[bX,bJ,bJ]at h;omega
theorem ou{r:aI}(h:ga r=true):(-1000000<=r.X0/\r.X0<=1000000)/\(-1000000<=r.Y0/\r.Y0<=1000000)/\(-1000000<=r.X1/\r.X1<=1000000)/\(-1000000<=r.Y1/\r.Y1<=1000000):=by
 unfold ga at h;simp only[bX]at h;exact⟨yl h.1,yl h.2.1,yl h.2.2.1,yl h.2.2.2⟩
theorem Dn{r:aI}(h:(-1000000<=r.X0/\r.X0<=1000000)/\(-1000000<=r.Y0/\r.Y0<=1000000)/\(-1000000<=r.X1/\r.X1<=1000000)/\(-1000000<=r.Y1/\r.Y1<=1000000)):ga r=true:=by
 unfold ga mE gE;simp only[bX,bJ];omega
theorem FI{r:aI}(h:ga r=true)(hx:r.X0<r.X1)(hy:r.Y0<r.Y1):DV r:=by
 have:=ou h;refine⟨hx,hy,?_,?_,?_,?_⟩ <;> unfold small <;> omega
def lV(r:aI):Option Int:=if ga r=true then(if r.X1<=r.X0\/r.Y1<=r.Y0 then some 13 else none)else some 1
def my(l:List aI):Int:=if 2000<l.length then 2 else(l.findSome? lV).getD 0
theorem Ed{l:List aI}(hl:l.length<=4611686018427387904):mf N l=some (my l):=by
 unfold mf my
 by_cases h:2000<l.length
 ·rw[bL (by omega),aK,aC h]
 ·rw[bG (by omega),aM,aD h,Ae lV hl (λk x hx=>by
   rw[cI hx,aB,Dl,aB];unfold lV
   cases hr:ga x with
   |false=>rfl
   |true=>
    rw[jz,aM,aC rfl]
    by_cases h2:x.X1<=x.X0\/x.Y1<=x.Y0
    ·rw[aC h2,show(decide (x.X1<=x.X0)||decide (x.Y1<=x.Y0))=true by rw[dU,bJ,bJ];exact h2];rfl
    ·rw[aD h2,show(decide (x.X1<=x.X0)||decide (x.Y1<=x.Y0))=false by rw[<-jy,dU,bJ,bJ];exact h2];rfl),aB]
  cases l.findSome? lV <;> rfl
theorem AA{r:aI}:lV r=none↔ga r=true/\r.X0<r.X1/\r.Y0<r.Y1:=by
 unfold lV
 by_cases h:ga r=true
 ·rw[aC h]
  by_cases h2:r.X1<=r.X0\/r.Y1<=r.Y0
  ·rw[aC h2];constructor
   ·intro h;cases h
   ·rintro⟨_,h3,h4⟩;omega
  ·rw[aD h2];exact⟨λ_=>⟨h,by omega,by omega⟩,λ_=>rfl⟩
 ·rw[aD h];constructor
  ·intro h;cases h
  ·rintro⟨h3,_⟩;exact absurd h3 h
theorem Hb{r:aI}{e:Int}(h:lV r=some e):e≠0:=by
 unfold lV at h;split at h
 ·split at h
  ·injection h with h;omega
  ·cases h
 ·injection h with h;omega
theorem rf{l:List aI}:my l=0↔l.length<=2000/\∀r∈l,ga r=true/\r.X0<r.X1/\r.Y0<r.Y1:=by
 unfold my
 by_cases h:2000<l.length
 ·rw[aC h];constructor
  ·intro h;omega
  ·intro h;omega
 ·rw[aD h]
  cases hf:l.findSome? lV with
  |none=>
   rw[List.findSome?_eq_none_iff]at hf;exact⟨λ_=>⟨by omega,λr hr=>AA.1<|hf r hr⟩,λ_=>rfl⟩
  |some e=>
   obtain⟨r,hr,he⟩:=List.exists_of_findSome?_eq_some hf;constructor
   ·intro h0;exact absurd h0<|Hb he
   ·rintro⟨_,h2⟩;rw[AA.2<|h2 r hr]at he;cases he
def N5(l:List aI):Prop:=∀(k:Nat)a b,l[k]? =some a->l[k+1]? =some b->¬(b.Y0<a.Y0\/(b.Y0=a.Y0/\b.X0<=a.X0))
def Dp(l:List aI):Prop:=∃s,tD l s/\aU s=l
noncomputable def jL(l:List aI):Int:=if my l≠0 then my l else if N5 l then(if Dp l then 0 else 3)else 8
theorem Dq{l:List aI}(h:my l=0):l.length<=2000/\∀r∈l,DV r:=⟨(rf.1 h).1,λr hr=>by have:=(rf.1 h).2 r hr;exact FI this.1 this.2.1 this.2.2⟩
theorem Ie{l m:List aI}(hl:l.length<=4611686018427387904):lO N l m=some (decide<|l=m):=by
 have:=EH (l:=l) (m:=m) hl;unfold H2 at this;unfold lO;rw[show(decide<|l=m) = @decide (l=m) (instDecidableEqList l m)from decide_eq_decide.2 Iff.rfl];exact this
theorem xO{l:List aI}(hl:l.length<=1073741824)(hN:4398046511104<=N):kx N l=some (jL l):=by
 refine Tm ?_;unfold kx;refine IT (Ed (by omega)) ?_;unfold jL;refine SP (λh=>Sh ?_)<|λh=>?_
 ·rw[aC (by simpa using h)]
 ·have h0:my l=0:=by simpa using h
  rw[aD (by simpa using h0)];obtain⟨hlen,hok⟩:=Dq h0;refine Sr (Tw (Go:=λ_=>N5 l) (Rt:=λr=>r=8/\¬N5 l) (λs=>∃k:Nat,s=((k:Nat):Int)/\1<=k/\∀(j:Nat)a b,j+1<k->l[j]? =some a->l[j+1]? =some b->¬(b.Y0<a.Y0\/(b.Y0=a.Y0/\b.X0<=a.X0))) (λs=>l.length - s.toNat) ?_ ⟨1,rfl,bZ _,λj a b hj=>by omega⟩ (by simp;omega)) ?_
  ·rintro s⟨k,rfl,hk,hI⟩;refine SP (λh=>?_)<|λh=>SU λj a b ha hb=>hI j a b ?_ ha hb
   ·have hk2:k<l.length:=by have:=of_decide_eq_true h;omega
    rw[jg hk (by omega)];refine Ti (by omega)<|Ti hk2<|SP (λhb=>Tn ⟨rfl,λhu=>?_⟩)<|λhb=>SJ ⟨⟨k+1,by rw[bK (by omega)],by omega,λj a b hj ha hb'=>?_⟩,by rw[bK (by omega)];simp only[cA];omega⟩
    ·refine hu (k - 1) l[k - 1] l[k] (aO _) (by rw[show k - 1+1=k by omega];exact aO _) ?_;rw[dU,bX,bJ,bJ,beq_iff_eq]at hb;exact hb
    ·by_cases e:j+1<k
     ·exact hI j a b e ha hb'
     ·have:j+1=k:=by omega
      subst this;rw[aO (by omega)]at ha hb';injection ha with ha;injection hb' with hb'
      subst ha;subst hb';rw[<-jy,dU,bX,bJ,bJ,beq_iff_eq]at hb;exact hb
   ·have:=of_decide_eq_false h;have:=(bD.1 hb).1;omega
  ·rintro o ho;refine SV ho (λs hu=>?_)<|λr hr=>Sh (by rw[hr.1,aD hr.2])
   rw[aC hu];refine Sr (qX (N:=N) (by omega) hok (by omega)) ?_;intro s hs;obtain⟨z1,z2,z3⟩:=hs.Ha;have z4:2*l.length*(2*l.length)<=4000*4000:=Nat.mul_le_mul (by omega) (by omega);refine IT (Dd (vA hs.can) (by omega) (λb hb=>by have:=z2 b hb;omega) (by omega))<|IT (Ie (by omega)) ?_
   have hiff:Dp l↔aU s=l:=⟨λ⟨t,h1,h2⟩=>by rw[hs.unique h1];exact h2,λh=>⟨s,hs,h⟩⟩;refine SP (λh=>Sh ?_)<|λh=>Sh ?_
   ·have h:¬aU s=l:=by simpa using h
    rw[aD<|λh'=>h<|hiff.1 h']
   ·have h:aU s=l:=by simpa using h
    rw[aC<|hiff.2 h]
theorem rI{l:List aI}:jL l=0↔my l=0/\N5 l/\Dp l:=by
 unfold jL
 by_cases h:my l=0
 ·rw[aD (by simpa using h)]
  by_cases h2:N5 l
  ·rw[aC h2]
   by_cases h3:Dp l
   ·rw[aC h3];exact⟨λ_=>⟨h,h2,h3⟩,λ_=>rfl⟩
   ·rw[aD h3];constructor
    ·intro h;omega
    ·rintro⟨_,_,h4⟩;exact absurd h4 h3
  ·rw[aD h2];constructor
   ·intro h;omega
   ·rintro⟨_,h4,_⟩;exact absurd h4 h2
 ·rw[aC h];constructor
  ·intro h2;exact absurd h2 h
  ·rintro⟨h2,_⟩;exact absurd h2 h
theorem zu(n lo hi:Int):jw N n lo hi=some (gE n lo hi):=rfl
theorem J4{b:bT}(hN:16<=N):nc N b=some (nL b):=by
 have:=Bn (N:=N - 16) (b:=b);rwa[show N - 16+16=N by omega]at this
def mP(n:Nat)(b:bT):Option Int:=if(nL b).2≠0 then some (nL b).2 else if gE b.cS 0 (((n:Nat):Int) - 1)=true/\gE b.To b.cS (((n:Nat):Int) - 1)=true then none else some 1
def jH(a:jr):Int:=if 500<a.aQ.length then 2 else(a.aQ.findSome?<|mP a.aJ.length).getD 0
theorem Ee{a:jr}(h1:a.aJ.length<=4611686018427387904)(h2:a.aQ.length<=4611686018427387904)(hN:16<=N):lP N a=some (jH a):=by
 unfold lP jH
 by_cases h:500<a.aQ.length
 ·rw[bL (by omega),aK,aC h]
 ·have hw:wrap .i64 (((a.aJ.length:Nat):Int) - 1)=((a.aJ.length:Nat):Int) - 1:=fw (by omega) (by omega)
  rw[bG (by omega),aM,aD h,Ae (mP a.aJ.length) h2 (λk x hx=>by
   rw[cI hx,aB,J4 hN,aB];unfold mP
   by_cases h0:(nL x).2=0
   ·rw[aD (by simpa using h0),h0,show((0:Int) != 0)=false by rfl,aM,hw,zu,aB,zu,aB]
    cases h3:gE x.cS 0 (((a.aJ.length:Nat):Int) - 1) <;> cases h4:gE x.To x.cS (((a.aJ.length:Nat):Int) - 1) <;> rfl
   ·rw[aC h0,show((nL x).2 != 0)=true by simpa using h0];rfl),aB]
  cases a.aQ.findSome? (mP a.aJ.length) <;> rfl
theorem Hc{b:bT}(h:(nL b).2=0):sm b=true/\ga (xc b)=true:=by
 unfold nL at h;split at h
 ·rename_i h';rwa[bX]at h'
 ·cases h
theorem nu{a:jr}(h:jH a=0):a.aQ.length<=500/\∀b∈a.aQ,sm b=true/\ga (xc b)=true/\0<=b.cS/\b.cS<=b.To/\b.To<((a.aJ.length:Nat):Int):=by
 unfold jH at h;split at h
 ·omega
 ·refine⟨by omega,λb hb=>?_⟩;have hn:mP a.aJ.length b=none:=by
   cases hf:a.aQ.findSome? (mP a.aJ.length)with
   |none=>exact List.findSome?_eq_none_iff.1 hf b hb
   |some e=>
    rw[hf]at h;obtain⟨c,hc,he⟩:=List.exists_of_findSome?_eq_some hf;have h:e=0:=h;subst h;unfold mP at he;split at he
    ·rename_i h';injection he with he;exact absurd he h'
    ·split at he
     ·cases he
     ·injection he with he;omega
  unfold mP at hn;split at hn
  ·cases hn
  ·rename_i h0;split at hn
   ·rename_i h1;have h0:(nL b).2=0:=by simpa using h0
    have:=Hc h0;unfold gE at h1;simp only[bX,bJ]at h1;exact⟨this.1,this.2,by omega,by omega,by omega⟩
   ·cases hn
theorem Nl{b:bT}(h1:sm b=true)(h2:ga (xc b)=true):DV (xc b):=by
 have hf:=uh h1;refine FI h2 ?_ ?_
 ·show b.At.X - b.dW / 2<b.At.X - b.dW / 2+b.dW;omega
 ·show b.At.Y - b.dW / 2<b.At.Y - b.dW / 2+b.dW;omega
def gQ(p q:dO):Int:=if Lib.compareBytes p.Part.dN q.Part.dN≠0 then Lib.compareBytes p.Part.dN q.Part.dN else Lib.compareBytes p.dO.dN q.dO.dN
theorem m9(p q:dO):fp N p q=some (gQ p q):=by
 unfold fp gQ;show(bif Lib.compareBytes p.Part.dN q.Part.dN != 0 then _ else _)=_
 by_cases h:Lib.compareBytes p.Part.dN q.Part.dN=0
 ·rw[h,aD (by simp)];rfl
 ·rw[aC h,show(Lib.compareBytes p.Part.dN q.Part.dN != 0)=true by simpa using h];rfl
def kK(l:cX):dO:=⟨l.Part,l.dO⟩
theorem Bo(l:cX):mH N l=some (kK l):=rfl
def kD(a:jr)(k:Nat):Option Int:=(a.bM[k]?).bind λx=>
 if(o6 x.Part&&isWord x.dO)=true then
  if(gE x.dJ 0 (((a.aJ.length:Nat):Int) - 1)&&tF x.At)=true then
   if 0<k/\(∃y,a.bM[k - 1]? =some y/\gQ (kK x) (kK y)<=0)then some 8 else none
  else some 1
 else some 5
noncomputable def mz(a:jr):Int:=if 1000<a.bM.length then 2 else(qg a.bM.length<|kD a).getD 0
end
end Go.Gk
