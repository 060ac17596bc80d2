/-
  Helping texts: plain functions and plain laws. No statement of the seed is proved here.
-/
import Derived.Test.YtpbhmbhiaonoiaaGreatDoorA1
import Derived.ChangeShapes
import Derived.ChangeSame
import Derived.Carry
import Derived.RowKit
import Derived.Test.YtpbhmbhiaonoiaaGreatDoorA2
set_option linter.unusedVariables false
set_option linter.unusedSimpArgs false
set_option linter.unusedSectionVars false
namespace Go.Gk
open Go IntKind
noncomputable section
structure aH where
 X0:Int
 Y0:Int
 X1:Int
 Y1:Int
 deriving DecidableEq,Inhabited
structure cK where
 X:Int
 Y:Int
 deriving DecidableEq,Inhabited
structure cJ where
 At:cK
 dJ:Int
 cL:Int
 To:Int
 jH:Bool
 deriving DecidableEq,Inhabited
structure dN where
 Part:eC
 eA:eC
 fT:Int
 At:cK
 deriving DecidableEq,Inhabited
structure gm where
 aJ:List (List aH)
 cT:List aH
 aU:List cJ
 bJ:List dN
 deriving DecidableEq,Inhabited
structure eA where
 Part:eC
 eA:eC
 deriving DecidableEq,Inhabited
structure Test where
 A:eA
 B:eA
 Joined:Bool
 deriving DecidableEq,Inhabited
structure Touch where
 Test:Int
 o4:Bool
 tp:Int
 deriving DecidableEq,Inhabited
structure aA where
 Y0:Int
 Y1:Int
 Xs:List Int
 deriving DecidableEq,Inhabited
structure aL where
 fT:Int
 Set:List aA
 qE:List aH
 deriving DecidableEq,Inhabited
structure dD where
 qm:List Int
 aU:List Int
 kB:List eA
 deriving DecidableEq,Inhabited
structure gC where
 cJ:Bool
 Number:Int
 deriving DecidableEq,Inhabited
structure cE where
 e0:cK
 e1:cK
 deriving DecidableEq,Inhabited
def cE.gt(x:cE)(k:Fin 2):cK:=if k.val=0 then x.e0 else x.e1
def cE.st(x:cE)(k:Fin 2)(y:cK):cE:=if k.val=0 then{x with e0:=y}else{x with e1:=y}
structure aG where
 from_:Int
 to:Int
 deriving DecidableEq,Inhabited
structure aK where
 from_:Int
 to:Int
 iX:List aG
 deriving DecidableEq,Inhabited
structure aT where
 AD:gm
 tq:List Test
 speed:Int
 Ae:Int
 deriving DecidableEq,Inhabited
structure mM where
 Open:Bool
 gC:gC
 A:Int
 B:Int
 deriving DecidableEq,Inhabited
def ui(N:Nat)(p0 p1 p2:Int):Option Bool:=
 some (decide (p0>=p1)&&decide (p0<=p2))
def lP(N:Nat)(p0:Int):Option Bool:=
 (ui N p0 (-1000000) 1000000).bind λj=>some j
def nn(N:Nat)(p0:aH):Option Bool:=
 ((lP N p0.X0).bind λj=>bif j then((lP N p0.Y0).bind λo=>bif o then((lP N p0.X1).bind λaa=>bif aa then((lP N p0.Y1).bind λab=>some ab)else some false)else some false)else some false).bind λad=>some ad
def lq(N:Nat)(p0:List aH):Option Int:=
 bif decide ((p0.length:Int)>2000)then some 2 else((si p0.length (λ(o:Nat)(aa:Unit)=>((idx p0 (o:Int)).bind λj=>(nn N j).bind λab=>bif(!ab)then some (.rt 1)else(bif decide (j.X1<=j.X0)||decide (j.Y1<=j.Y0)then some (.rt 13)else some (.nx ())):Option (Fl Unit Int))) ()).bind λad=>ad.cs (λ(aa:Unit)=>some 0)<|λr=>some r)
def jy(N:Nat)(p0:List aH):Option (List aH):=
 (app 32 ([]:List aH) p0).bind λj=>some j
def kg(N:Nat)(p0 p1:aH):Option Int:=
 some (wrap .i64<|p0.Y0 - p1.Y0)
def hU(N:Nat)(p0:List Int):Option (List Int):=
 bif decide ((p0.length:Int)<2)then some p0 else((j6 (λ(o:Int)=>(bif decide (o<(p0.length:Int))then((idx p0 o).bind λab=>(idx p0<|wrap .i64<|o - 1).bind λad=>bif ab==ad then((uY p0 o (p0.length:Int)).bind λak=>(j6 (λ(j:List Int×Int×Int)=>(bif decide (j.2.2<(((j.1.length - Int.toNat o):Nat):Int))then((Gt j.1 o j.2.2).bind λae=>(Gt j.1 o<|wrap .i64<|j.2.2 - 1).bind λaf=>(bif ae != af then((Gt j.1 o j.2.2).bind λag=>(idx j.1 j.2.1).bind λal=>some (j.1.set (Int.toNat j.2.1) ag,wrap .i64<|j.2.1+1))else some (j.1,j.2.1)).bind λaa=>some<|.nx (aa.1,aa.2,wrap .i64<|j.2.2+1))else(some<|.br (j.1,j.2.1,j.2.2)):Option (Fl (List Int×Int×Int) Empty))) N (p0,o,1)).bind λah=>ah.cs (λ(j:List Int×Int×Int)=>(uY j.1 j.2.1 (j.1.length:Int)).bind λan=>(uY (j.1.take (Int.toNat j.2.1)++List.replicate (j.1.length - Int.toNat j.2.1) (0:Int)) 0 j.2.1).bind λai=>some<|.rt ai)<|λr=>r.elim)else some (.nx<|wrap .i64<|o+1))else(some<|.br o):Option (Fl Int<|List Int))) N 1).bind λaj=>aj.cs (λ(o:Int)=>some p0)<|λr=>some r)
def o5(N:Nat)(p0:aH)(p1:List Int)(p2:Int):Option Bool:=
 (idx p1 p2).bind λj=>some<|decide<|p0.Y1<=j
def mx(N:Nat)(p0:List aH)(p1:aH->Option Bool):Option Int:=
 (si p0.length (λ(j:Nat)(o:Unit)=>((idx p0 (j:Int)).bind λaa=>(p1 aa).bind λab=>bif ab then some (.rt (j:Int))else(some<|.nx ()):Option (Fl Unit Int))) ()).bind λad=>ad.cs (λ(o:Unit)=>some<|-1)<|λr=>some r
def kY(N:Nat)(p0:List aH)(p1:aH->Option Bool):Option Int:=
 (si p0.length (λ(j:Nat)(o:Unit)=>((idx p0 (j:Int)).bind λaa=>(p1 aa).bind λab=>bif ab then some (.rt (j:Int))else(some<|.nx ()):Option (Fl Unit Int))) ()).bind λad=>ad.cs (λ(o:Unit)=>some<|-1)<|λr=>some r
def iP(N:Nat)(p0:List aH)(p1:aH->Option Bool):Option (List aH):=
 (kY N p0 p1).bind λo=>bif o==(-1)then some p0 else((j6 (λ(j:List aH×Int×Int)=>(bif decide (j.2.2<(j.1.length:Int))then((idx j.1 j.2.2).bind λaa=>(p1 aa).bind λad=>(bif(!ad)then((idx j.1 j.2.1).bind λag=>some (j.1.set (Int.toNat j.2.1) aa,wrap .i64<|j.2.1+1))else some (j.1,j.2.1)).bind λab=>some<|.nx (ab.1,ab.2,wrap .i64<|j.2.2+1))else(some<|.br (j.1,j.2.1,j.2.2)):Option (Fl (List aH×Int×Int) Empty))) N (p0,o,wrap .i64<|o+1)).bind λae=>ae.cs (λ(j:List aH×Int×Int)=>(uY j.1 j.2.1 (j.1.length:Int)).bind λah=>(uY (j.1.take (Int.toNat j.2.1)++List.replicate (j.1.length - Int.toNat j.2.1) (⟨0,0,0,0⟩:aH)) 0 j.2.1).bind λaf=>some af)<|λr=>r.elim)
def hZ(N:Nat)(p0 p1:aH):Option Int:=
 some (wrap .i64<|p0.X0 - p1.X0)
def jI(N:Nat)(p0:List aH):Option (List Int×List aH):=
 (ym (hZ N) p0).bind λaa=>(nH aa.length (λ(ad:Nat)(j:List Int)=>((idx aa (ad:Int)).bind λo=>(bif decide (wrap .i64 ((j.length:Int) - 1)>=0)then((idx j<|wrap .i64<|(j.length:Int) - 1).bind λae=>some<|decide<|o.X0<=ae)else some false).bind λaf=>(bif af then((idx j<|wrap .i64<|(j.length:Int) - 1).bind λab=>(idx j<|wrap .i64<|(j.length:Int) - 1).bind λai=>some<|j.set (Int.toNat<|wrap .i64<|(j.length:Int) - 1) (if ab<o.X1 then o.X1 else ab))else((app 8 j ([o.X0,o.X1]:List Int)).bind λag=>some ag)).bind λah=>some ah:Option (List Int))) ([]:List Int)).bind λj=>some (j,aa)
def np(N:Nat)(p0:List Int)(p1:List Int):Option Bool:=
 bif(p0.length:Int) != (p1.length:Int)then some false else((si p0.length (λ(j:Nat)(o:Unit)=>((idx p0 (j:Int)).bind λaa=>(idx p1 (j:Int)).bind λab=>bif aa != ab then some (.rt false)else(some<|.nx ()):Option (Fl Unit Bool))) ()).bind λad=>ad.cs (λ(o:Unit)=>some true)<|λr=>some r)
def jo(N:Nat)(p0:List aA)(p1:aA):Option (List aA):=
 bif((p1.Xs.length:Int)==0)||decide (p1.Y1<=p1.Y0)then some p0 else((bif decide (wrap .i64 ((p0.length:Int) - 1)>=0)then((idx p0<|wrap .i64<|(p0.length:Int) - 1).bind λj=>bif j.Y1==p1.Y0 then((idx p0<|wrap .i64<|(p0.length:Int) - 1).bind λo=>(np N o.Xs p1.Xs).bind λaa=>some aa)else some false)else some false).bind λab=>bif ab then((idx p0<|wrap .i64<|(p0.length:Int) - 1).bind λad=>some<|p0.set (Int.toNat<|wrap .i64<|(p0.length:Int) - 1)<|{ad with Y1:=p1.Y1})else((app 40 p0 ([p1]:List aA)).bind λae=>some ae))
def il(N:Nat)(p0:List aH):Option (List aA):=
 (jy N p0).bind λag=>(ym (kg N) ag).bind λaa=>(nH aa.length (λ(ah:Nat)(ad:List Int)=>((idx aa (ah:Int)).bind λae=>(app 8 ad ([ae.Y0,ae.Y1]:List Int)).bind λai=>some ai:Option (List Int))) ([]:List Int)).bind λad=>(vn ad).bind λaj=>(hU N aj).bind λab=>(j6 (λ(j:List aA×List aH×Int×Int)=>(bif decide (wrap .i64 (j.2.2.2+1)<(ab.length:Int))then((iP N j.2.1<|λy0=>o5 N y0 ab j.2.2.2).bind λak=>(j6 (λ(o:List aH×Int)=>((bif decide (o.2<(aa.length:Int))then((idx aa o.2).bind λal=>(idx ab j.2.2.2).bind λan=>some<|decide<|al.Y0<=an)else some false).bind λao=>bif ao then((idx aa o.2).bind λaq=>(app 32 o.1 ([aq]:List aH)).bind λar=>some<|.nx (ar,wrap .i64<|o.2+1))else(some<|.br (o.1,o.2)):Option (Fl (List aH×Int) Empty))) N (ak,j.2.2.1)).bind λau=>au.cs (λ(o:List aH×Int)=>(idx ab j.2.2.2).bind λav=>(idx ab<|wrap .i64<|j.2.2.2+1).bind λaw=>(jI N o.1).bind λaf=>(jo N j.1 (⟨av,aw,af.1⟩:aA)).bind λax=>some<|.nx (ax,af.2,o.2,wrap .i64<|j.2.2.2+1))<|λr=>r.elim)else(some<|.br (j.1,j.2.1,j.2.2.1,j.2.2.2)):Option (Fl (List aA×List aH×Int×Int) Empty))) N (([]:List aA),([]:List aH),0,0)).bind λay=>ay.cs (λ(j:List aA×List aH×Int×Int)=>some j.1)<|λr=>r.elim
def jJ(N:Nat)(p0:List aA):Option (List aH):=
 (nH p0.length (λ(ab:Nat)(aa:List aH)=>((idx p0 (ab:Int)).bind λo=>(j6 (λ(j:List aH×Int)=>(bif decide (j.2<(o.Xs.length:Int))then((idx o.Xs j.2).bind λad=>(idx o.Xs<|wrap .i64<|j.2+1).bind λae=>(app 32 j.1 ([(⟨ad,o.Y0,ae,o.Y1⟩:aH)]:List aH)).bind λaf=>some<|.nx (af,wrap .i64<|j.2+2))else(some<|.br (j.1,j.2)):Option (Fl (List aH×Int) Empty))) N (aa,0)).bind λag=>ag.cs (λ(j:List aH×Int)=>some j.1) (λr=>r.elim):Option (List aH))) ([]:List aH)).bind λaa=>some aa
def kN(N:Nat)(p0:List aH)(p1:List aH):Option Bool:=
 bif(p0.length:Int) != (p1.length:Int)then some false else((si p0.length (λ(j:Nat)(o:Unit)=>((idx p0 (j:Int)).bind λaa=>(idx p1 (j:Int)).bind λab=>bif(!(decide<|aa=ab))then some (.rt false)else(some<|.nx ()):Option (Fl Unit Bool))) ()).bind λad=>ad.cs (λ(o:Unit)=>some true)<|λr=>some r)
def jz(N:Nat)(p0:List aH):Option Int:=
 (lq N p0).bind λab=>bif ab != 0 then some ab else((j6 (λ(j:Int)=>(bif decide (j<(p0.length:Int))then((idx p0<|wrap .i64<|j - 1).bind λo=>(idx p0 j).bind λaa=>bif decide (aa.Y0<o.Y0)||((aa.Y0==o.Y0)&&decide (aa.X0<=o.X0))then some (.rt 8)else some (.nx<|wrap .i64<|j+1))else(some<|.br j):Option (Fl Int Int))) N 1).bind λad=>ad.cs (λ(j:Int)=>(il N p0).bind λae=>(jJ N ae).bind λaf=>(kN N af p0).bind λag=>bif(!ag)then some 3 else some 0)<|λr=>some r)
def iM(N:Nat)(p0 p1 p2:Int):Option Bool:=
 some (decide (p0>=p1)&&decide (p0<=p2))
def j4(N:Nat)(p0:cK):Option Bool:=
 ((lP N p0.X).bind λj=>bif j then((lP N p0.Y).bind λo=>some o)else some false).bind λaa=>some aa
def gx(N:Nat)(p0:cJ):Option aH:=
 some (⟨wrap .i64<|p0.At.X -(wrap .i64<|Int.tdiv p0.dJ 2),wrap .i64<|p0.At.Y -(wrap .i64<|Int.tdiv p0.dJ 2),wrap .i64<|wrap .i64 (p0.At.X -(wrap .i64<|Int.tdiv p0.dJ 2))+p0.dJ,wrap .i64<|wrap .i64 (p0.At.Y -(wrap .i64<|Int.tdiv p0.dJ 2))+p0.dJ⟩:aH)
def nr(N:Nat)(p0:List aA):Option aH:=
 (idx p0 0).bind λab=>(idx ab.Xs 0).bind λad=>(idx p0 0).bind λae=>(idx p0 0).bind λaf=>(idx af.Xs 1).bind λag=>(idx p0<|wrap .i64<|(p0.length:Int) - 1).bind λah=>(nH p0.length (λ(ai:Nat)(j:aH)=>((idx p0 (ai:Int)).bind λqo=>(idx qo.Xs 0).bind λo=>(idx qo.Xs<|wrap .i64<|(qo.Xs.length:Int) - 1).bind λaa=>some ({{j with X0:=(if o<j.X0 then o else j.X0)}with X1:=(if j.X1<aa then aa else j.X1)}):Option aH)) (⟨ad,ae.Y0,ag,ah.Y1⟩:aH)).bind λj=>some j
def mR(N:Nat)(p0:List aA):Option Bool:=
 (bif(p0.length:Int)==0 then some true else((nr N p0).bind λj=>(nn N j).bind λo=>some o)).bind λaa=>some aa
def mi(N:Nat)(p0:cJ):Option (aH×Int):=
 ((iM N p0.dJ 1 10000).bind λo=>bif(!o)then some true else((j4 N p0.At).bind λaa=>some<|!aa)).bind λab=>bif ab then some ((⟨0,0,0,0⟩:aH),1)else((gx N p0).bind λj=>(il N ([j]:List aH)).bind λad=>(mR N ad).bind λae=>bif(!ae)then some ((⟨0,0,0,0⟩:aH),1)else some (j,0))
def kO(N:Nat)(p0:gm):Option Int:=
 bif decide ((p0.aU.length:Int)>500)then some 2 else((si p0.aU.length (λ(aa:Nat)(ab:Unit)=>((idx p0.aU (aa:Int)).bind λj=>(mi N j).bind λo=>bif o.2 != 0 then some (.rt o.2)else(((iM N j.cL 0<|wrap .i64<|(p0.aJ.length:Int) - 1).bind λad=>bif(!ad)then some true else((iM N j.To j.cL<|wrap .i64<|(p0.aJ.length:Int) - 1).bind λae=>some<|!ae)).bind λaf=>bif af then some (.rt 1)else some (.nx ())):Option (Fl Unit Int))) ()).bind λag=>ag.cs (λ(ab:Unit)=>some 0)<|λr=>some r)
def i9(N:Nat)(p0:eC)(p1:Int):Option Int:=
 some (Lib.indexByte p0.cW (Int.toNat p1).toUInt8)
def kP(N:Nat)(p0 p1:eC):Option Int:=
 bif((p1.cW.length:Int)==0)||p1.nQ p0 then some 0 else(bif(p1.cW.length:Int)==1 then((Gp p1 0).bind λj=>(i9 N p0 (j.toNat:Int)).bind λo=>some o)else(bif decide ((p1.cW.length:Int)>=(p0.cW.length:Int))then some (-1)else none))
def mj(N:Nat)(p0 p1:eC):Option Int:=
 (kP N p0 p1).bind λj=>some j
def nR(N:Nat)(p0 p1:eC):Option Int:=
 bif(p1.cW.length:Int)==0 then none else(bif(p1.cW.length:Int)==1 then((Gp p1 0).bind λaa=>some ((Lib.countByte p0.cW (Int.toNat (aa.toNat:Int)).toUInt8:Nat):Int))else((j6 (λ(j:eC×Int)=>((mj N j.1 p1).bind λo=>bif o==(-1)then some (.rt j.2)else((xA j.1 (wrap .i64<|o+(p1.cW.length:Int)) (j.1.cW.length:Int)).bind λab=>some<|.nx (ab,wrap .i64<|j.2+1)):Option (Fl (eC×Int) Int))) N (p0,0)).bind λad=>ad.cs (λ(j:eC×Int)=>some 0)<|λr=>some r))
def nu(N:Nat)(p0 p1:eC)(p2 p3:Int):Option (List eC):=
 bif p3==0 then some ([]:List eC)else(bif p1.nQ (⟨[]⟩)then none else((bif decide (p3<0)then((nR N p0 p1).bind λab=>some<|wrap .i64<|ab+1)else some p3).bind λo=>(mk 16 (⟨[]⟩:eC) (if wrap .i64 ((p0.cW.length:Int)+1)<o then wrap .i64 ((p0.cW.length:Int)+1)else o)).bind λad=>(j6 (λ(j:eC×List eC×Int)=>(bif decide (j.2.2< wrap .i64 ((if wrap .i64 ((p0.cW.length:Int)+1)<o then wrap .i64 ((p0.cW.length:Int)+1)else o) - 1))then((mj N j.1 p1).bind λaa=>bif decide (aa<0)then some (.br (j.1,j.2.1,j.2.2))else((xA j.1 0<|wrap .i64<|aa+p2).bind λae=>(idx j.2.1 j.2.2).bind λai=>(xA j.1 (wrap .i64<|aa+(p1.cW.length:Int)) (j.1.cW.length:Int)).bind λaf=>some<|.nx (af,j.2.1.set (Int.toNat j.2.2) ae,wrap .i64<|j.2.2+1)))else(some<|.br (j.1,j.2.1,j.2.2)):Option (Fl (eC×List eC×Int) Empty))) N (p0,ad,0)).bind λag=>ag.cs (λ(j:eC×List eC×Int)=>(idx j.2.1 j.2.2).bind λaj=>(uY (j.2.1.set (Int.toNat j.2.2) j.1) 0<|wrap .i64<|j.2.2+1).bind λah=>some ah)<|λr=>r.elim))
def ml(N:Nat)(p0 p1:eC):Option (List eC):=
 (nu N p0 p1 0<|-1).bind λj=>some j
def lr(N:Nat)(p0:List eC)(p1:eC->Option Bool):Option Int:=
 (si p0.length (λ(j:Nat)(o:Unit)=>((idx p0 (j:Int)).bind λaa=>(p1 aa).bind λab=>bif ab then some (.rt (j:Int))else(some<|.nx ()):Option (Fl Unit Int))) ()).bind λad=>ad.cs (λ(o:Unit)=>some<|-1)<|λr=>some r
def iQ(N:Nat)(p0:List eC)(p1:eC->Option Bool):Option Bool:=
 (lr N p0 p1).bind λj=>some<|decide<|j>=0
def gS(N:Nat)(p0:eC)(p1:Int):Option Int:=
 (i9 N p0 p1).bind λj=>some j
def jq(N:Nat)(p0:eC):Option Bool:=
 (si p0.cW.length (λ(o:Nat)(aa:Unit)=>((Gp p0 (o:Int)).bind λj=>(bif((decide ((j.toNat:Int)<65)||decide ((j.toNat:Int)>90))&&(decide ((j.toNat:Int)<97)||decide ((j.toNat:Int)>122)))&&(decide ((j.toNat:Int)<48)||decide ((j.toNat:Int)>57))then((gS N (⟨[95,43,45,35]⟩) (j.toNat:Int)).bind λab=>some<|decide<|ab<0)else some false).bind λad=>bif ad then some (.rt false)else(some<|.nx ()):Option (Fl Unit Bool))) ()).bind λae=>ae.cs (λ(aa:Unit)=>some<|decide ((p0.cW.length:Int)>=1)&&decide ((p0.cW.length:Int)<=40))<|λr=>some r
def iR(N:Nat)(p0:eC):Option Bool:=
 (jq N p0).bind λj=>some<|!j
def mS(N:Nat)(p0:eC):Option Bool:=
 (bif decide ((p0.cW.length:Int)<=200)then((ml N p0<|⟨[47]⟩).bind λj=>(iQ N j<|iR N).bind λo=>some<|!o)else some false).bind λaa=>some aa
def lQ(N:Nat)(p0:dN):Option eA:=
 some (⟨p0.Part,p0.eA⟩:eA)
def my(N:Nat)(p0 p1:eC):Option Int:=
 some (Lib.compareBytes p0.cW p1.cW)
def oe(N:Nat)(p0 p1:eC):Option Int:=
 (my N p0 p1).bind λj=>some j
def eJ(N:Nat)(p0 p1:eA):Option Int:=
 (oe N p0.Part p1.Part).bind λj=>bif j != 0 then some j else((oe N p0.eA p1.eA).bind λo=>some o)
def kQ(N:Nat)(p0:gm):Option Int:=
 bif decide ((p0.bJ.length:Int)>1000)then some 2 else((si p0.bJ.length (λ(o:Nat)(aa:Unit)=>((idx p0.bJ (o:Int)).bind λj=>((mS N j.Part).bind λab=>bif(!ab)then some true else((jq N j.eA).bind λad=>some<|!ad)).bind λae=>bif ae then some (.rt 5)else(((iM N j.fT 0<|wrap .i64<|(p0.aJ.length:Int) - 1).bind λaf=>bif(!af)then some true else((j4 N j.At).bind λag=>some<|!ag)).bind λah=>bif ah then some (.rt 1)else((bif decide ((o:Int)>0)then((idx p0.bJ<|wrap .i64<|(o:Int) - 1).bind λai=>(lQ N j).bind λaj=>(lQ N ai).bind λak=>(eJ N aj ak).bind λal=>some<|decide<|al<=0)else some false).bind λan=>bif an then some (.rt 8)else some (.nx ()))):Option (Fl Unit Int))) ()).bind λao=>ao.cs (λ(aa:Unit)=>some 0)<|λr=>some r)
def mm(N:Nat)(p0 p1:Int)(p2 p3:Int):Option Int:=
 some (if(if 0<(wrap .i64<|wrap .i64 (p2 - p1)+1)then wrap .i64 (wrap .i64 (p2 - p1)+1)else 0)<(wrap .i64<|wrap .i64 (p0 - p3)+1)then wrap .i64 (wrap .i64 (p0 - p3)+1)else(if 0<(wrap .i64<|wrap .i64 (p2 - p1)+1)then wrap .i64 (wrap .i64 (p2 - p1)+1)else 0))
def tr(N:Nat)(p0 p1:aH):Option Int:=
 (mm N p0.X0 p0.X1 p1.X0 p1.X1).bind λj=>(mm N p0.Y0 p0.Y1 p1.Y0 p1.Y1).bind λo=>some (if j<o then o else j)
def lu(N:Nat)(p0:cJ)(p1:Int):Option Bool:=
 some (decide (p0.cL<=p1)&&decide (p1<=p0.To))
def nv(N:Nat)(p0:List aA)(p1 p2:Int):Option (List Int×Int):=
 bif(p0.length:Int)==0 then some (([]:List Int),p2)else((idx p0 0).bind λaa=>bif decide (p1<aa.Y0)then((idx p0 0).bind λj=>some (([]:List Int),(if j.Y0<p2 then j.Y0 else p2)))else((idx p0 0).bind λab=>(idx p0 0).bind λo=>some (ab.Xs,(if o.Y1<p2 then o.Y1 else p2))))
def rF(N:Nat)(p0:List Int)(p1:List Int)(p2:Bool->Bool->Option Bool):Option (List Int):=
 (j6 (λ(j:List Int×List Int×List Int×Bool×Bool×Bool)=>((bif decide ((j.1.length:Int)>0)then some true else some (decide<|(j.2.1.length:Int)>0)).bind λaf=>bif af then((bif(j.2.1.length:Int)==0 then some true else(bif decide ((j.1.length:Int)>0)then((idx j.1 0).bind λag=>(idx j.2.1 0).bind λah=>some<|decide<|ag<=ah)else some false)).bind λai=>(bif ai then((idx j.1 0).bind λaj=>some aj)else((idx j.2.1 0).bind λak=>some ak)).bind λo=>(bif decide ((j.1.length:Int)>0)then((idx j.1 0).bind λal=>some<|al==o)else some false).bind λan=>(bif an then((uY j.1 1 (j.1.length:Int)).bind λao=>some (ao,(!j.2.2.2.1)))else some (j.1,j.2.2.2.1)).bind λaa=>(bif decide ((j.2.1.length:Int)>0)then((idx j.2.1 0).bind λaq=>some<|aq==o)else some false).bind λar=>(bif ar then((uY j.2.1 1 (j.2.1.length:Int)).bind λau=>some (au,(!j.2.2.2.2.1)))else some (j.2.1,j.2.2.2.2.1)).bind λab=>(p2 aa.2 ab.2).bind λad=>(bif ad != j.2.2.2.2.2 then((app 8 j.2.2.1 ([o]:List Int)).bind λav=>some (av,ad))else some (j.2.2.1,j.2.2.2.2.2)).bind λae=>some<|.nx (aa.1,ab.1,ae.1,aa.2,ab.2,ae.2))else(some<|.br (j.1,j.2.1,j.2.2.1,j.2.2.2.1,j.2.2.2.2.1,j.2.2.2.2.2)):Option (Fl (List Int×List Int×List Int×Bool×Bool×Bool) Empty))) N (p0,p1,([]:List Int),false,false,false)).bind λaw=>aw.cs (λ(j:List Int×List Int×List Int×Bool×Bool×Bool)=>some j.2.2.1)<|λr=>r.elim
def pW(N:Nat)(p0:List aA)(p1:List aA)(p2:Bool->Bool->Option Bool):Option (List aA):=
 bif wrap .i64 ((p0.length:Int)+(p1.length:Int))==0 then some ([]:List aA)else((nH (([p0,p1]:List (List aA)).length) (λ(ah:Nat)(o:Int×Int)=>((idx ([p0,p1]:List (List aA)) (ah:Int)).bind λad=>(bif decide ((ad.length:Int)>0)then((bif(ah:Int)==0 then some true else some ((p0.length:Int)==0)).bind λal=>(bif al then((idx ad 0).bind λan=>(idx ad<|wrap .i64<|(ad.length:Int) - 1).bind λao=>some (an.Y0,ao.Y1))else some (o.1,o.2)).bind λag=>(idx ad 0).bind λai=>(idx ad<|wrap .i64<|(ad.length:Int) - 1).bind λaj=>some ((if ai.Y0<ag.1 then ai.Y0 else ag.1),(if ag.2<aj.Y1 then aj.Y1 else ag.2)))else some (o.1,o.2)).bind λak=>some (ak.1,ak.2):Option (Int×Int))) (0,0)).bind λo=>(j6 (λ(j:List aA×List aA×List aA×Int)=>(bif decide (j.2.2.2<o.2)then((j6 (λ(aa:List aA)=>((bif decide ((aa.length:Int)>0)then((idx aa 0).bind λaq=>some<|decide<|aq.Y1<=j.2.2.2)else some false).bind λar=>bif ar then((uY aa 1 (aa.length:Int)).bind λau=>some<|.nx au)else(some<|.br aa):Option (Fl (List aA) Empty))) N j.1).bind λav=>av.cs (λ(aa:List aA)=>(j6 (λ(ab:List aA)=>((bif decide ((ab.length:Int)>0)then((idx ab 0).bind λaw=>some<|decide<|aw.Y1<=j.2.2.2)else some false).bind λax=>bif ax then((uY ab 1 (ab.length:Int)).bind λay=>some<|.nx ay)else(some<|.br ab):Option (Fl (List aA) Empty))) N j.2.1).bind λaz=>az.cs (λ(ab:List aA)=>(nv N aa j.2.2.2 o.2).bind λae=>(nv N ab j.2.2.2 o.2).bind λaf=>(rF N ae.1 af.1 p2).bind λa0=>(jo N j.2.2.1 (⟨j.2.2.2,(if af.2<ae.2 then af.2 else ae.2),a0⟩:aA)).bind λa1=>some<|.nx (aa,ab,a1,(if af.2<ae.2 then af.2 else ae.2)))<|λr=>r.elim)<|λr=>r.elim)else(some<|.br (j.1,j.2.1,j.2.2.1,j.2.2.2)):Option (Fl (List aA×List aA×List aA×Int) Empty))) N (p0,p1,([]:List aA),o.1)).bind λa2=>a2.cs (λ(j:List aA×List aA×List aA×Int)=>some j.2.2.1)<|λr=>r.elim)
def o6(N:Nat)(p0 p1:Bool):Option Bool:=
 some (p0&&(!p1))
def lx(N:Nat)(p0:List aA)(p1:List aA):Option (List aA):=
 (pW N p0 p1<|o6 N).bind λj=>some j
def mT(N:Nat)(p0:List aA):Option Int:=
 (nH p0.length (λ(o:Nat)(j:Int)=>((idx p0 (o:Int)).bind λaa=>some (wrap .i64<|j+ wrap .i64 (Int.tdiv (aa.Xs.length:Int) 2)):Option Int)) 0).bind λj=>some j
def fG(N:Nat)(p0:Int)(p1_0:List Int):Option (Int×List Int):=
 (j6 (λ(j:Int×List Int)=>((idx j.2 j.1).bind λaa=>bif aa != j.1 then((idx j.2 j.1).bind λab=>(idx j.2 ab).bind λo=>(idx j.2 j.1).bind λaf=>(idx (j.2.set (Int.toNat j.1) o) j.1).bind λad=>some<|.nx (ad,j.2.set (Int.toNat j.1) o))else(some<|.br (j.1,j.2)):Option (Fl (Int×List Int) Empty))) N (p0,p1_0)).bind λae=>ae.cs (λ(j:Int×List Int)=>some (j.1,j.2))<|λr=>r.elim
def l5(N:Nat)(p0:List aA):Option (List<|List aA):=
 (jJ N p0).bind λab=>(mk 8 (0:Int) (ab.length:Int)).bind λan=>(nH an.length (λ(ai:Nat)(ag:List Int)=>((idx ag (ai:Int)).bind λbd=>some (ag.set (Int.toNat (ai:Int)) (ai:Int)):Option (List Int))) an).bind λag=>(nH p0.length (λ(aj:Nat)(aa:List Int×Int×Int)=>((idx p0 (aj:Int)).bind λak=>(bif decide ((aj:Int)>0)then((idx p0<|wrap .i64<|(aj:Int) - 1).bind λar=>some<|ar.Y1==ak.Y0)else some false).bind λau=>(bif au then((j6 (λ(j:List Int×Int×Int)=>(bif decide (j.2.1<aa.2.1)&&decide (j.2.2< wrap .i64 (aa.2.1+ wrap .i64 (Int.tdiv (ak.Xs.length:Int) 2)))then(((idx ab j.2.1).bind λav=>(idx ab j.2.2).bind λaw=>bif decide (av.X0<aw.X1)then((idx ab j.2.2).bind λax=>(idx ab j.2.1).bind λay=>some<|decide<|ax.X0<ay.X1)else some false).bind λaz=>(bif az then((fG N j.2.1 j.1).bind λae=>(fG N j.2.2 ae.2).bind λad=>(idx ad.2 (if ae.1<ad.1 then ad.1 else ae.1)).bind λbf=>some<|ad.2.set (Int.toNat (if ae.1<ad.1 then ad.1 else ae.1)) (if ad.1<ae.1 then ad.1 else ae.1))else some j.1).bind λa0=>(idx ab j.2.1).bind λa1=>(idx ab j.2.2).bind λa2=>(bif decide (a1.X1<a2.X1)then some (wrap .i64<|j.2.1+1,j.2.2)else some (j.2.1,wrap .i64<|j.2.2+1)).bind λao=>some<|.nx (a0,ao.1,ao.2))else(some<|.br (j.1,j.2.1,j.2.2)):Option (Fl (List Int×Int×Int) Empty))) N (aa.1,aa.2.2,aa.2.1)).bind λa3=>a3.cs (λ(j:List Int×Int×Int)=>some j.1)<|λr=>r.elim)else some aa.1).bind λa4=>some (a4,wrap .i64<|aa.2.1+ wrap .i64 (Int.tdiv (ak.Xs.length:Int) 2),aa.2.1):Option (List Int×Int×Int))) (ag,0,0)).bind λaa=>(nH ab.length (λ(aq:Nat)(o:List Int×List (Int×Int)×List (List aH))=>((idx ab (aq:Int)).bind λa5=>(fG N (aq:Int) o.1).bind λah=>(bif(!(lL o.2.1 ah.1))then((app 24 o.2.2 [([]:List aH)]).bind λa6=>some (ql o.2.1 ah.1 (o.2.2.length:Int),a6,(o.2.2.length:Int)))else some (o.2.1,o.2.2,fC o.2.1 ah.1 (0:Int))).bind λaf=>(idx af.2.1 af.2.2).bind λa7=>(app 32 a7 ([a5]:List aH)).bind λa8=>(idx af.2.1 af.2.2).bind λbg=>some (ah.2,af.1,af.2.1.set (Int.toNat af.2.2) a8):Option (List Int×List (Int×Int)×List (List aH)))) (aa.1,([]:List (Int×Int)),([]:List (List aH)))).bind λo=>(nH o.2.2.length (λ(a9:Nat)(al:List (List aA))=>((idx o.2.2 (a9:Int)).bind λba=>(il N ba).bind λbb=>(app 24 al ([bb]:List (List aA))).bind λbc=>some bc:Option (List<|List aA))) ([]:List (List aA))).bind λal=>some al
def kh(N:Nat)(p0_0:List (List aH))(p0_2:List cJ)(p0_4:List (List aA))(p0_5:List aL):Option (Bool×List (List aA)×List aL):=
 (nH p0_0.length (λ(aa:Nat)(j:List (List aA)×List aL×Bool)=>((idx p0_0 (aa:Int)).bind λai=>(nH p0_2.length (λ(aj:Nat)(o:List aH)=>((idx p0_2 (aj:Int)).bind λaf=>(lu N af (aa:Int)).bind λak=>(bif ak then((gx N af).bind λal=>(app 32 o ([al]:List aH)).bind λan=>some an)else some o).bind λao=>some ao:Option (List aH))) ([]:List aH)).bind λo=>(il N ai).bind λaq=>(il N o).bind λar=>(lx N aq ar).bind λab=>(bif j.2.2 then((mT N ab).bind λau=>some (decide<|au<=2000,ab))else some (false,ab)).bind λad=>(app 24 j.1 ([ad.2]:List (List aA))).bind λav=>(l5 N ad.2).bind λag=>(nH ag.length (λ(aw:Nat)(ae:List aL)=>((idx ag (aw:Int)).bind λah=>(jJ N ah).bind λax=>(app 56 ae ([(⟨(aa:Int),ah,ax⟩:aL)]:List aL)).bind λay=>some ay:Option (List aL))) j.2.1).bind λae=>some (av,ae,ad.1):Option (List (List aA)×List aL×Bool))) (p0_4,p0_5,true)).bind λj=>(bif j.2.2 then some (decide<|(j.2.1.length:Int)<=2000)else some false).bind λaz=>some (az,j.1,j.2.1)
def sU(N:Nat)(p0 p1:aH):Option Bool:=
 some (((decide (p0.X0<p1.X1)&&decide (p1.X0<p0.X1))&&((p0.Y1==p1.Y0)||(p1.Y1==p0.Y0)))||((decide (p0.Y0<p1.Y1)&&decide (p1.Y0<p0.Y1))&&((p0.X1==p1.X0)||(p1.X1==p0.X0))))
def ku(N:Nat)(p0:aH)(p1:cJ):Option Bool:=
 (gx N p1).bind λj=>(sU N p0 j).bind λo=>some o
def gX(N:Nat)(p0:List aH)(p1:aH->Option Bool):Option Bool:=
 (mx N p0 p1).bind λj=>some<|decide<|j>=0
def ki(N:Nat)(p0_2:List cJ)(p0_5:List aL)(p0_6:List (List Int)):Option (List<|List Int):=
 (nH p0_2.length (λ(ae:Nat)(o:List (List Int))=>((idx p0_2 (ae:Int)).bind λaa=>(nH p0_5.length (λ(ab:Nat)(j:List Int)=>((idx p0_5 (ab:Int)).bind λad=>(bif aa.jH then((lu N aa ad.fT).bind λaf=>bif af then((gX N ad.qE<|λy0=>ku N y0 aa).bind λag=>some ag)else some false)else some false).bind λah=>(bif ah then((app 8 j ([(ab:Int)]:List Int)).bind λai=>some ai)else some j).bind λaj=>some aj:Option (List Int))) ([]:List Int)).bind λj=>(app 24 o ([j]:List (List Int))).bind λak=>some ak:Option (List<|List Int))) p0_6).bind λo=>some o
def j8(N:Nat)(p0:Int):Option (List Int):=
 (mk 8 (0:Int) p0).bind λaa=>(nH aa.length (λ(o:Nat)(j:List Int)=>((idx j (o:Int)).bind λab=>some (j.set (Int.toNat (o:Int)) (o:Int)):Option (List Int))) aa).bind λj=>some j
def eP(N:Nat)(p0_0:List Int)(p1:Int):Option (Int×List Int):=
 (j6 (λ(j:List Int×Int)=>((idx j.1 j.2).bind λaa=>bif aa != j.2 then((idx j.1 j.2).bind λab=>(idx j.1 ab).bind λo=>(idx j.1 j.2).bind λaf=>(idx (j.1.set (Int.toNat j.2) o) j.2).bind λad=>some<|.nx (j.1.set (Int.toNat j.2) o,ad))else(some<|.br (j.1,j.2)):Option (Fl (List Int×Int) Empty))) N (p0_0,p1)).bind λae=>ae.cs (λ(j:List Int×Int)=>some (j.2,j.1))<|λr=>r.elim
def eF(N:Nat)(p0_0:List Int)(p1 p2:Int):Option (List Int):=
 (eP N p0_0 p1).bind λo=>(eP N o.2 p2).bind λj=>(idx j.2 (if o.1<j.1 then j.1 else o.1)).bind λaa=>some<|j.2.set (Int.toNat (if o.1<j.1 then j.1 else o.1)) (if j.1<o.1 then j.1 else o.1)
def kj(N:Nat)(p0_0:List Int):Option (List (List Int)×List Int):=
 (nH p0_0.length (λ(ab:Nat)(j:List Int×List (List Int)×List (Int×Int))=>((eP N j.1 (ab:Int)).bind λaa=>(bif aa.1==(ab:Int)then((app 24 j.2.1 [([]:List Int)]).bind λad=>some (ad,ql j.2.2 (ab:Int) (j.2.1.length:Int)))else some (j.2.1,j.2.2)).bind λo=>(idx o.1<|fC o.2 aa.1 (0:Int)).bind λae=>(app 8 ae ([(ab:Int)]:List Int)).bind λaf=>(idx o.1<|fC o.2 aa.1 (0:Int)).bind λag=>some (aa.2,o.1.set (Int.toNat<|fC o.2 aa.1 (0:Int)) af,o.2):Option (List Int×List (List Int)×List (Int×Int)))) (p0_0,([]:List (List Int)),([]:List (Int×Int)))).bind λj=>some (j.2.1,j.1)
def lR(N:Nat)(p0:aH)(p1:cK):Option Bool:=
 (bif decide (p1.X>=p0.X0)then(bif decide (p1.X<p0.X1)then(bif decide (p1.Y>=p0.Y0)then some (decide<|p1.Y<p0.Y1)else some false)else some false)else some false).bind λj=>some j
def kG(N:Nat)(p0:List aH)(p1:cK):Option Bool:=
 (gX N p0<|λy0=>lR N y0 p1).bind λj=>some j
def kl(N:Nat)(p0_2:List cJ)(p0_5:List aL)(p1:dN):Option (gC×Bool):=
 (si p0_2.length (λ(o:Nat)(ad:Unit)=>((idx p0_2 (o:Int)).bind λj=>(bif j.jH then((lu N j p1.fT).bind λae=>bif ae then((gx N j).bind λaf=>(kG N ([af]:List aH) p1.At).bind λag=>some ag)else some false)else some false).bind λah=>bif ah then some (.rt ((⟨true,(o:Int)⟩:gC),true))else(some<|.nx ()):Option (Fl Unit<|gC×Bool))) ()).bind λai=>ai.cs (λ(ad:Unit)=>(si p0_5.length (λ(aa:Nat)(aj:Unit)=>((idx p0_5 (aa:Int)).bind λab=>(bif ab.fT==p1.fT then((kG N ab.qE p1.At).bind λak=>some ak)else some false).bind λal=>bif al then some (.rt ((⟨false,(aa:Int)⟩:gC),true))else(some<|.nx ()):Option (Fl Unit<|gC×Bool))) ()).bind λan=>an.cs (λ(aj:Unit)=>some ((⟨false,0⟩:gC),false))<|λr=>some r)<|λr=>some r
def iq(N:Nat)(p0_8:List Int)(p0_9:List Int)(p1:gC):Option Int:=
 bif p1.cJ then((idx p0_9 p1.Number).bind λj=>some j)else((idx p0_8 p1.Number).bind λo=>some o)
def gv(N:Nat)(p0_2:List cJ)(p0_3:List dN)(p0_5:List aL)(p0_6:List (List Int))(p0_8:List Int)(p0_9:List Int)(p0_10:List Int)(p0_11:List gC):Option (List dD×List Int×List Int×List Int×List gC):=
 (j8 N<|wrap .i64<|(p0_5.length:Int)+(p0_2.length:Int)).bind λar=>(nH p0_6.length (λ(ai:Nat)(af:List Int)=>((idx p0_6 (ai:Int)).bind λaj=>(nH aj.length (λ(au:Nat)(ag:List Int)=>((idx aj (au:Int)).bind λav=>(eF N ag av<|wrap .i64<|(p0_5.length:Int)+(ai:Int)).bind λaw=>some aw:Option (List Int))) af).bind λag=>some ag:Option (List Int))) ar).bind λaf=>(mk 8 (0:Int) (p0_5.length:Int)).bind λax=>(mk 8 (0:Int) (p0_2.length:Int)).bind λay=>(kj N af).bind λak=>(nH ak.1.length (λ(az:Nat)(aa:List dD×List Int×List Int)=>((idx ak.1 (az:Int)).bind λal=>(nH al.length (λ(a0:Nat)(j:List Int×List Int×List Int×List Int)=>((idx al (a0:Int)).bind λab=>(bif decide (ab<(p0_5.length:Int))then((idx j.1 ab).bind λbd=>(app 8 j.2.2.1 ([ab]:List Int)).bind λa1=>some (j.1.set (Int.toNat ab) (aa.1.length:Int),j.2.1,a1,j.2.2.2))else((idx p0_2<|wrap .i64<|ab -(p0_5.length:Int)).bind λa2=>(bif a2.jH then((idx j.2.1<|wrap .i64<|ab -(p0_5.length:Int)).bind λbf=>(app 8 j.2.2.2 ([wrap .i64<|ab -(p0_5.length:Int)]:List Int)).bind λa3=>some (j.2.1.set (Int.toNat<|wrap .i64<|ab -(p0_5.length:Int)) (aa.1.length:Int),a3))else((idx j.2.1<|wrap .i64<|ab -(p0_5.length:Int)).bind λbg=>some (j.2.1.set (Int.toNat<|wrap .i64<|ab -(p0_5.length:Int))<|-1,j.2.2.2))).bind λan=>some (j.1,an.1,j.2.2.1,an.2))).bind λad=>some (ad.1,ad.2.1,ad.2.2.1,ad.2.2.2):Option (List Int×List Int×List Int×List Int))) (aa.2.1,aa.2.2,([]:List Int),([]:List Int))).bind λj=>(bif decide (wrap .i64 ((j.2.2.1.length:Int)+(j.2.2.2.length:Int))>0)then((app 72 aa.1 [(⟨j.2.2.1,j.2.2.2,([]:List eA)⟩:dD)]).bind λa4=>some a4)else some aa.1).bind λa5=>some (a5,j.1,j.2.1):Option (List dD×List Int×List Int))) (([]:List dD),ax,ay)).bind λaa=>(nH p0_3.length (λ(a6:Nat)(o:List dD×List Int×List Int×List Int×List gC)=>((idx p0_3 (a6:Int)).bind λao=>(kl N p0_2 p0_5 ao).bind λah=>(bif ah.2 then((iq N o.2.1 o.2.2.1 ah.1).bind λae=>(idx o.1 ae).bind λa7=>(lQ N ao).bind λa8=>(app 32 a7.kB ([a8]:List eA)).bind λa9=>(idx o.1 ae).bind λba=>some (o.1.set (Int.toNat ae) {ba with kB:=a9},ae))else some (o.1,(-1))).bind λaq=>(app 8 o.2.2.2.1 ([aq.2]:List Int)).bind λbb=>(app 16 o.2.2.2.2 ([ah.1]:List gC)).bind λbc=>some (aq.1,o.2.1,o.2.2.1,bb,bc):Option (List dD×List Int×List Int×List Int×List gC))) (aa.1,aa.2.1,aa.2.2,p0_10,p0_11)).bind λo=>some (o.1,o.2.1,o.2.2.1,o.2.2.2.1,o.2.2.2.2)
def ir(N:Nat)(p0:gm):Option (Option (List (List aH)×List aH×List cJ×List dN×List (List aA)×List aL×List (List Int)×List dD×List Int×List Int×List Int×List gC)×Int):=
 bif(p0.aJ.length:Int)==0 then some (none,9)else(bif decide ((p0.aJ.length:Int)>16)then some (none,2)else((si p0.aJ.length (λ(an:Nat)(aa:Int)=>((idx p0.aJ (an:Int)).bind λae=>(jz N ae).bind λaf=>bif af != 0 then some (.rt (none,af))else(some<|.nx<|wrap .i64<|aa+(ae.length:Int)):Option (Fl Int<|Option (List (List aH)×List aH×List cJ×List dN×List (List aA)×List aL×List (List Int)×List dD×List Int×List Int×List Int×List gC)×Int))) (p0.cT.length:Int)).bind λao=>ao.cs (λ(aa:Int)=>(jz N p0.cT).bind λag=>bif ag != 0 then some (none,ag)else(bif decide (aa>2000)then some (none,2)else((kO N p0).bind λah=>bif ah != 0 then some (none,ah)else((kQ N p0).bind λai=>bif ai != 0 then some (none,ai)else((si p0.aU.length (λ(aj:Nat)(aq:Unit)=>((idx p0.aU (aj:Int)).bind λab=>(uY p0.aU 0 (aj:Int)).bind λak=>(si ak.length (λ(ar:Nat)(au:Unit)=>((idx ak (ar:Int)).bind λad=>(bif decide (ab.cL<=ad.To)&&decide (ad.cL<=ab.To)then((gx N ab).bind λav=>(gx N ad).bind λaw=>(tr N av aw).bind λax=>some<|ax==0)else some false).bind λay=>bif ay then some (.rt (none,12))else(some<|.nx ()):Option (Fl Unit<|Option (List (List aH)×List aH×List cJ×List dN×List (List aA)×List aL×List (List Int)×List dD×List Int×List Int×List Int×List gC)×Int))) ()).bind λaz=>az.cs (λ(au:Unit)=>some<|.nx ()) (λr=>some<|.rt r):Option (Fl Unit<|Option (List (List aH)×List aH×List cJ×List dN×List (List aA)×List aL×List (List Int)×List dD×List Int×List Int×List Int×List gC)×Int))) ()).bind λa0=>a0.cs (λ(aq:Unit)=>(kh N p0.aJ p0.aU ([]:List (List aA)) ([]:List aL)).bind λj=>bif(!j.1)then some (none,2)else((ki N p0.aU j.2.2 ([]:List (List Int))).bind λal=>(gv N p0.aU p0.bJ j.2.2 al ([]:List Int) ([]:List Int) ([]:List Int) ([]:List gC)).bind λo=>some (some (p0.aJ,p0.cT,p0.aU,p0.bJ,j.2.1,j.2.2,al,o.1,o.2.1,o.2.2.1,o.2.2.2.1,o.2.2.2.2),0)))<|λr=>some r)))))<|λr=>some r))
def fZ(N:Nat)(p0:List dN)(p1:eA)(p2:dN->eA->Option Int):Option (Int×Bool):=
 (j6 (λ(j:Int×Int)=>(bif decide (j.1<j.2)then((idx p0<|wrap .i64<|Int.fdiv (wrap .u64<|wrap .i64<|j.1+j.2) 2).bind λaa=>(p2 aa p1).bind λab=>(bif decide (ab<0)then some (wrap .i64<|wrap .i64 (Int.fdiv (wrap .u64<|wrap .i64<|j.1+j.2) 2)+1,j.2)else some (j.1,wrap .i64<|Int.fdiv (wrap .u64<|wrap .i64<|j.1+j.2) 2)).bind λo=>some<|.nx (o.1,o.2))else(some<|.br (j.1,j.2)):Option (Fl (Int×Int) Empty))) N (0,(p0.length:Int))).bind λad=>ad.cs (λ(j:Int×Int)=>(bif decide (j.1<(p0.length:Int))then((idx p0 j.1).bind λae=>(p2 ae p1).bind λaf=>some<|af==0)else some false).bind λag=>some (j.1,ag))<|λr=>r.elim
def jc(N:Nat)(p0:dN)(p1:eA):Option Int:=
 (lQ N p0).bind λj=>(eJ N j p1).bind λo=>some o
def eQ(N:Nat)(p0:gm)(p1:eA):Option Int:=
 (fZ N p0.bJ p1<|jc N).bind λj=>bif(!j.2)then some (-1)else some j.1
def rG(N:Nat)(p0:List Int):Option Int:=
 (si p0.length (λ(o:Nat)(aa:Unit)=>((idx p0 (o:Int)).bind λj=>bif j != 0 then some (.rt j)else(some<|.nx ()):Option (Fl Unit Int))) ()).bind λab=>ab.cs (λ(aa:Unit)=>some 0)<|λr=>some r
def ig(N:Nat)(p0 p1:Test):Option Int:=
 (eJ N p0.A p1.A).bind λj=>(eJ N p0.B p1.B).bind λo=>(rG N ([j,o]:List Int)).bind λaa=>some aa
def lS(N:Nat)(p0:gm)(p1:List Test):Option (Option (List (List aH)×List aH×List cJ×List dN×List (List aA)×List aL×List (List Int)×List dD×List Int×List Int×List Int×List gC)×Int):=
 (ir N p0).bind λo=>Jk o.1 (bif o.2 != 0 then some (none,o.2)else(bif decide ((p1.length:Int)>2000)then some (none,2)else((si p1.length (λ(ad:Nat)(af:Unit)=>((idx p1 (ad:Int)).bind λaa=>((eQ N p0 aa.A).bind λag=>bif decide (ag<0)then some true else((eQ N p0 aa.B).bind λah=>some<|decide<|ah<0)).bind λai=>bif ai then some (.rt (none,9))else((eJ N aa.B aa.A).bind λaj=>bif decide (aj<=0)then some (.rt (none,8))else((bif decide ((ad:Int)>0)then((idx p1<|wrap .i64<|(ad:Int) - 1).bind λak=>(ig N aa ak).bind λal=>some<|decide<|al<=0)else some false).bind λan=>bif an then some (.rt (none,8))else some (.nx ()))):Option (Fl Unit<|Option (List (List aH)×List aH×List cJ×List dN×List (List aA)×List aL×List (List Int)×List dD×List Int×List Int×List Int×List gC)×Int))) ()).bind λao=>ao.cs (λ(af:Unit)=>some (none,0))<|λr=>some r))) (λ(j:(List (List aH)×List aH×List cJ×List dN×List (List aA)×List aL×List (List Int)×List dD×List Int×List Int×List Int×List gC))=>bif o.2 != 0 then some (none,o.2)else(bif decide ((p1.length:Int)>2000)then some (none,2)else((si p1.length (λ(ae:Nat)(aq:Unit)=>((idx p1 (ae:Int)).bind λab=>((eQ N p0 ab.A).bind λar=>bif decide (ar<0)then some true else((eQ N p0 ab.B).bind λau=>some<|decide<|au<0)).bind λav=>bif av then some (.rt (none,9))else((eJ N ab.B ab.A).bind λaw=>bif decide (aw<=0)then some (.rt (none,8))else((bif decide ((ae:Int)>0)then((idx p1<|wrap .i64<|(ae:Int) - 1).bind λax=>(ig N ab ax).bind λay=>some<|decide<|ay<=0)else some false).bind λaz=>bif az then some (.rt (none,8))else some (.nx ()))):Option (Fl Unit<|Option (List (List aH)×List aH×List cJ×List dN×List (List aA)×List aL×List (List Int)×List dD×List Int×List Int×List Int×List gC)×Int))) ()).bind λa0=>a0.cs (λ(aq:Unit)=>some (some (j.1,j.2.1,j.2.2.1,j.2.2.2.1,j.2.2.2.2.1,j.2.2.2.2.2.1,j.2.2.2.2.2.2.1,j.2.2.2.2.2.2.2.1,j.2.2.2.2.2.2.2.2.1,j.2.2.2.2.2.2.2.2.2.1,j.2.2.2.2.2.2.2.2.2.2.1,j.2.2.2.2.2.2.2.2.2.2.2),0))<|λr=>some r)))
def iu(N:Nat)(p0:gm)(p1:List Test):Option Int:=
 (lS N p0 p1).bind λj=>Jk j.1 (some j.2)<|λ(o:(List (List aH)×List aH×List cJ×List dN×List (List aA)×List aL×List (List Int)×List dD×List Int×List Int×List Int×List gC))=>some j.2
def jk(N:Nat)(p0 p1 p2:Int):Option Bool:=
 some (decide (p0>=p1)&&decide (p0<=p2))
def ly(N:Nat)(p0:gm)(p1:List Test)(p2 p3:Int):Option Int:=
 (iu N p0 p1).bind λj=>bif j != 0 then some j else(((jk N p2 1 1000000).bind λo=>bif(!o)then some true else((jk N p3 0 1000).bind λaa=>some<|!aa)).bind λab=>bif ab then some 1 else some 0)
def rH(N:Nat)(p0:gm)(p1:Test)(p2:Bool):Option cE:=
 (eQ N p0 p1.A).bind λab=>(idx p0.bJ ab).bind λj=>(eQ N p0 p1.B).bind λad=>(idx p0.bJ ad).bind λo=>(bif p2 then some (o.At,j.At)else some (j.At,o.At)).bind λaa=>some (⟨aa.1,aa.2⟩:cE)
def oD(N:Nat)(p0 p1:Int):Option Int:=
 some (if wrap .i64 (p0 - p1)<(wrap .i64<|p1 - p0)then wrap .i64 (p1 - p0)else wrap .i64 (p0 - p1))
def rI(N:Nat)(p0 p1:cE)(p2:Int):Option Int:=
 (j6 (λ(j:Int×Int)=>(bif decide (j.2<2)then((Ms 2 j.2).bind λo=>(oD N ((p0.gt o).X)<|(p1.gt o).X).bind λaa=>(oD N ((p0.gt o).Y)<|(p1.gt o).Y).bind λab=>some<|.nx ((if(if j.1<aa then aa else j.1)<ab then ab else(if j.1<aa then aa else j.1)),wrap .i64<|j.2+1))else(some<|.br (j.1,j.2)):Option (Fl (Int×Int) Empty))) N (0,0)).bind λad=>ad.cs (λ(j:Int×Int)=>(KH p2).bind λae=>some<|wrap .i64<|Int.tdiv (wrap .i64<|wrap .i64 (j.1+p2) - 1) p2)<|λr=>r.elim
def ot(N:Nat)(p0:gm)(p1:List Test)(p2:List Touch)(p3 p4:Int):Option (Int×Int):=
 (ly N p0 p1 p3 p4).bind λad=>bif ad != 0 then some (0,ad)else((mk 1 (false:Bool) (p1.length:Int)).bind λag=>(si p2.length (λ(ah:Nat)(o:List Bool)=>((idx p2 (ah:Int)).bind λaa=>((jk N aa.Test 0<|wrap .i64<|(p1.length:Int) - 1).bind λai=>bif(!ai)then some true else((idx o aa.Test).bind λaj=>some aj)).bind λak=>bif ak then some (.rt (0,3))else((idx o aa.Test).bind λar=>some<|.nx<|o.set (Int.toNat aa.Test) true):Option (Fl (List Bool)<|Int×Int))) ag).bind λal=>al.cs (λ(o:List Bool)=>bif(p2.length:Int) != (p1.length:Int)then some (0,3)else((si p2.length (λ(an:Nat)(j:cE×Int)=>((idx p2 (an:Int)).bind λab=>(idx p1 ab.Test).bind λao=>(rH N p0 ao ab.o4).bind λae=>(rI N j.1 ae p3).bind λaf=>bif ab.tp != wrap .i64 (j.2+ wrap .i64 (af+p4))then some (.rt (0,12))else(some<|.nx (ae,wrap .i64<|j.2+ wrap .i64 (af+p4))):Option (Fl (cE×Int)<|Int×Int))) ((⟨(⟨0,0⟩:cK),(⟨0,0⟩:cK)⟩:cE),0)).bind λaq=>aq.cs (λ(j:cE×Int)=>some (j.2,0))<|λr=>some r))<|λr=>some r)
def mU(N:Nat)(p0 p1 p2:Int):Option Bool:=
 some (decide (p0>=p1)&&decide (p0<=p2))
def cN(N:Nat)(p0:Int):Option Bool:=
 (mU N p0 (-1000000) 1000000).bind λj=>some j
def gY(N:Nat)(p0:List aH):Option Int:=
 bif decide ((p0.length:Int)>2000)then some 2 else((j6 (λ(o:Int)=>(bif decide (o<(p0.length:Int))then((idx p0 o).bind λj=>((cN N j.X0).bind λaa=>bif(!aa)then some true else((cN N j.Y0).bind λab=>bif(!ab)then some true else((cN N j.X1).bind λad=>bif(!ad)then some true else((cN N j.Y1).bind λae=>some<|!ae)))).bind λaf=>bif af then some (.rt 1)else(bif decide (j.X1<=j.X0)||decide (j.Y1<=j.Y0)then some (.rt 13)else some (.nx<|wrap .i64<|o+1)))else(some<|.br o):Option (Fl Int Int))) N 0).bind λag=>ag.cs (λ(o:Int)=>some 0)<|λr=>some r)
def iv(N:Nat)(p0 p1:aH):Option Bool:=
 some (decide (p0.Y0<p1.Y0)||((p0.Y0==p1.Y0)&&decide (p0.X0<p1.X0)))
def fB(N:Nat)(p0:List Int)(p1:Int):Option (List Int):=
 (j6 (λ(j:Int×Int)=>(bif decide (j.1<j.2)then((idx p0<|wrap .i64<|Int.tdiv (wrap .i64<|j.1+j.2) 2).bind λaa=>(bif decide (aa<p1)then some (wrap .i64<|wrap .i64 (Int.tdiv (wrap .i64<|j.1+j.2) 2)+1,j.2)else some (j.1,wrap .i64<|Int.tdiv (wrap .i64<|j.1+j.2) 2)).bind λo=>some<|.nx (o.1,o.2))else(some<|.br (j.1,j.2)):Option (Fl (Int×Int) Empty))) N (0,(p0.length:Int))).bind λab=>ab.cs (λ(j:Int×Int)=>(bif decide (j.1<(p0.length:Int))then((idx p0 j.1).bind λad=>some<|ad==p1)else some false).bind λae=>bif ae then some p0 else((uY p0 0 j.1).bind λaf=>(app 8 ([]:List Int) af).bind λag=>(app 8 ag ([p1]:List Int)).bind λah=>(uY p0 j.1 (p0.length:Int)).bind λai=>(app 8 ah ai).bind λaj=>some aj))<|λr=>r.elim
def gV(N:Nat)(p0:List aH):Option (List Int):=
 (j6 (λ(j:List Int×Int)=>(bif decide (j.2<(p0.length:Int))then((idx p0 j.2).bind λo=>(idx p0 j.2).bind λaa=>(fB N j.1 o.Y0).bind λab=>(fB N ab aa.Y1).bind λad=>some<|.nx (ad,wrap .i64<|j.2+1))else(some<|.br (j.1,j.2)):Option (Fl (List Int×Int) Empty))) N (([]:List Int),0)).bind λae=>ae.cs (λ(j:List Int×Int)=>some j.1)<|λr=>r.elim
def iw(N:Nat)(p0:List aG)(p1:aG):Option (List aG):=
 (j6 (λ(o:List aG×Int)=>((bif decide (o.2<(p0.length:Int))then((idx p0 o.2).bind λad=>some<|decide<|ad.to<p1.from_)else some false).bind λae=>bif ae then((idx p0 o.2).bind λaf=>(app 16 o.1 ([af]:List aG)).bind λag=>some<|.nx (ag,wrap .i64<|o.2+1))else(some<|.br (o.1,o.2)):Option (Fl (List aG×Int) Empty))) N (([]:List aG),0)).bind λah=>ah.cs (λ(o:List aG×Int)=>(j6 (λ(j:aG×Int)=>((bif decide (j.2<(p0.length:Int))then((idx p0 j.2).bind λai=>some<|decide<|ai.from_<=j.1.to)else some false).bind λaj=>bif aj then((idx p0 j.2).bind λaa=>(idx p0 j.2).bind λab=>some<|.nx ({{j.1 with from_:=(if aa.from_<j.1.from_ then aa.from_ else j.1.from_)}with to:=(if j.1.to<ab.to then ab.to else j.1.to)},wrap .i64<|j.2+1))else(some<|.br (j.1,j.2)):Option (Fl (aG×Int) Empty))) N (p1,o.2)).bind λak=>ak.cs (λ(j:aG×Int)=>(app 16 o.1 ([j.1]:List aG)).bind λal=>(uY p0 j.2 (p0.length:Int)).bind λan=>(app 16 al an).bind λao=>some ao)<|λr=>r.elim)<|λr=>r.elim
def iS(N:Nat)(p0:List aH)(p1:Int):Option (List aG):=
 (j6 (λ(j:List aG×Int)=>(bif decide (j.2<(p0.length:Int))then(((idx p0 j.2).bind λo=>bif decide (o.Y0<=p1)then((idx p0 j.2).bind λaa=>some<|decide<|p1<aa.Y1)else some false).bind λab=>(bif ab then((idx p0 j.2).bind λad=>(idx p0 j.2).bind λae=>(iw N j.1 (⟨ad.X0,ae.X1⟩:aG)).bind λaf=>some af)else some j.1).bind λag=>some<|.nx (ag,wrap .i64<|j.2+1))else(some<|.br (j.1,j.2)):Option (Fl (List aG×Int) Empty))) N (([]:List aG),0)).bind λah=>ah.cs (λ(j:List aG×Int)=>some j.1)<|λr=>r.elim
def jA(N:Nat)(p0:List aG)(p1:List aG):Option Bool:=
 bif(p0.length:Int) != (p1.length:Int)then some false else((j6 (λ(j:Int)=>(bif decide (j<(p0.length:Int))then((idx p0 j).bind λo=>(idx p1 j).bind λaa=>bif(!(decide<|o=aa))then some (.rt false)else some (.nx<|wrap .i64<|j+1))else(some<|.br j):Option (Fl Int Bool))) N 0).bind λab=>ab.cs (λ(j:Int)=>some true)<|λr=>some r)
def fV(N:Nat)(p0:List aK)(p1:aK):Option (List aK):=
 bif(p1.iX.length:Int)==0 then some p0 else((bif decide ((p0.length:Int)>0)then((idx p0<|wrap .i64<|(p0.length:Int) - 1).bind λj=>bif j.to==p1.from_ then((idx p0<|wrap .i64<|(p0.length:Int) - 1).bind λo=>(jA N o.iX p1.iX).bind λaa=>some aa)else some false)else some false).bind λab=>bif ab then((idx p0<|wrap .i64<|(p0.length:Int) - 1).bind λad=>some<|p0.set (Int.toNat<|wrap .i64<|(p0.length:Int) - 1)<|{ad with to:=p1.to})else((app 40 p0 ([p1]:List aK)).bind λae=>some ae))
def jd(N:Nat)(p0:List aK):Option (List aH):=
 (j6 (λ(j:List aH×Int)=>(bif decide (j.2<(p0.length:Int))then((j6 (λ(o:List aH×Int)=>((idx p0 j.2).bind λaa=>bif decide (o.2<(aa.iX.length:Int))then((idx p0 j.2).bind λab=>(idx ab.iX o.2).bind λad=>(idx p0 j.2).bind λae=>(idx p0 j.2).bind λaf=>(idx af.iX o.2).bind λag=>(idx p0 j.2).bind λah=>(app 32 o.1 ([(⟨ad.from_,ae.from_,ag.to,ah.to⟩:aH)]:List aH)).bind λai=>some<|.nx (ai,wrap .i64<|o.2+1))else(some<|.br (o.1,o.2)):Option (Fl (List aH×Int) Empty))) N (j.1,0)).bind λaj=>aj.cs (λ(o:List aH×Int)=>some<|.nx (o.1,wrap .i64<|j.2+1))<|λr=>r.elim)else(some<|.br (j.1,j.2)):Option (Fl (List aH×Int) Empty))) N (([]:List aH),0)).bind λak=>ak.cs (λ(j:List aH×Int)=>some j.1)<|λr=>r.elim
def fw(N:Nat)(p0:List aH):Option (List aH):=
 (gV N p0).bind λo=>(j6 (λ(j:List aK×Int)=>(bif decide (j.2<(o.length:Int))then((idx o<|wrap .i64<|j.2 - 1).bind λaa=>(idx o j.2).bind λab=>(idx o<|wrap .i64<|j.2 - 1).bind λad=>(iS N p0 ad).bind λae=>(fV N j.1 (⟨aa,ab,ae⟩:aK)).bind λaf=>some<|.nx (af,wrap .i64<|j.2+1))else(some<|.br (j.1,j.2)):Option (Fl (List aK×Int) Empty))) N (([]:List aK),1)).bind λag=>ag.cs (λ(j:List aK×Int)=>(jd N j.1).bind λah=>some ah)<|λr=>r.elim
def jB(N:Nat)(p0:List aH)(p1:List aH):Option Bool:=
 bif(p0.length:Int) != (p1.length:Int)then some false else((j6 (λ(j:Int)=>(bif decide (j<(p0.length:Int))then((idx p0 j).bind λo=>(idx p1 j).bind λaa=>bif(!(decide<|o=aa))then some (.rt false)else some (.nx<|wrap .i64<|j+1))else(some<|.br j):Option (Fl Int Bool))) N 0).bind λab=>ab.cs (λ(j:Int)=>some true)<|λr=>some r)
def fD(N:Nat)(p0:List aH):Option Int:=
 (gY N p0).bind λo=>bif o != 0 then some o else((j6 (λ(j:Int)=>(bif decide (j<(p0.length:Int))then((idx p0<|wrap .i64<|j - 1).bind λaa=>(idx p0 j).bind λab=>(iv N aa ab).bind λad=>bif(!ad)then some (.rt 8)else some (.nx<|wrap .i64<|j+1))else(some<|.br j):Option (Fl Int Int))) N 1).bind λae=>ae.cs (λ(j:Int)=>(fw N p0).bind λaf=>(jB N p0 af).bind λag=>bif(!ag)then some 3 else some 0)<|λr=>some r)
def eB(N:Nat)(p0 p1 p2:Int):Option Bool:=
 some (decide (p0>=p1)&&decide (p0<=p2))
def fW(N:Nat)(p0:cK):Option Bool:=
 ((cN N p0.X).bind λj=>bif j then((cN N p0.Y).bind λo=>some o)else some false).bind λaa=>some aa
def cZ(N:Nat)(p0:cJ):Option aH:=
 some (⟨wrap .i64<|p0.At.X -(wrap .i64<|Int.tdiv p0.dJ 2),wrap .i64<|p0.At.Y -(wrap .i64<|Int.tdiv p0.dJ 2),wrap .i64<|wrap .i64 (p0.At.X -(wrap .i64<|Int.tdiv p0.dJ 2))+p0.dJ,wrap .i64<|wrap .i64 (p0.At.Y -(wrap .i64<|Int.tdiv p0.dJ 2))+p0.dJ⟩:aH)
def gI(N:Nat)(p0:cJ):Option Int:=
 ((eB N p0.dJ 1 10000).bind λo=>bif(!o)then some true else((fW N p0.At).bind λaa=>some<|!aa)).bind λab=>bif ab then some 1 else((cZ N p0).bind λj=>((cN N j.X0).bind λad=>bif(!ad)then some true else((cN N j.Y0).bind λae=>bif(!ae)then some true else((cN N j.X1).bind λaf=>bif(!af)then some true else((cN N j.Y1).bind λag=>some<|!ag)))).bind λah=>bif ah then some 1 else some 0)
def gw(N:Nat)(p0:eC):Option Bool:=
 (j6 (λ(o:Int)=>(bif decide (o<(p0.cW.length:Int))then((Gp p0 o).bind λj=>(bif(!(((decide ((j.toNat:Int)>=97)&&decide ((j.toNat:Int)<=122))||(decide ((j.toNat:Int)>=65)&&decide ((j.toNat:Int)<=90)))||(decide ((j.toNat:Int)>=48)&&decide ((j.toNat:Int)<=57))))then((gS N (⟨[95,43,45,35]⟩) (j.toNat:Int)).bind λaa=>some<|decide<|aa<0)else some false).bind λab=>bif ab then some (.rt false)else some (.nx<|wrap .i64<|o+1))else(some<|.br o):Option (Fl Int Bool))) N 0).bind λad=>ad.cs (λ(o:Int)=>(eB N (p0.cW.length:Int) 1 40).bind λae=>some ae)<|λr=>some r
def jr(N:Nat)(p0:eC):Option Bool:=
 (ml N p0<|⟨[47]⟩).bind λo=>(j6 (λ(j:Int)=>(bif decide (j<(o.length:Int))then((idx o j).bind λaa=>(gw N aa).bind λab=>bif(!ab)then some (.rt false)else some (.nx<|wrap .i64<|j+1))else(some<|.br j):Option (Fl Int Bool))) N 0).bind λad=>ad.cs (λ(j:Int)=>some<|decide<|(p0.cW.length:Int)<=200)<|λr=>some r
def iz(N:Nat)(p0:gm)(p1:Int):Option Int:=
 (idx p0.bJ p1).bind λj=>((jr N j.Part).bind λaa=>bif(!aa)then some true else((gw N j.eA).bind λab=>some<|!ab)).bind λad=>bif ad then some 5 else(((eB N j.fT 0<|wrap .i64<|(p0.aJ.length:Int) - 1).bind λae=>bif(!ae)then some true else((fW N j.At).bind λaf=>some<|!af)).bind λag=>bif ag then some 1 else(bif decide (p1>0)then((idx p0.bJ<|wrap .i64<|p1 - 1).bind λo=>bif j.Part.mL o.Part||(j.Part.nQ o.Part&&(j.eA.mL o.eA||j.eA.nQ o.eA))then some 8 else some 0)else some 0))
def gZ(N:Nat)(p0:gm):Option Int:=
 bif(p0.aJ.length:Int)==0 then some 9 else(bif decide ((p0.aJ.length:Int)>16)then some 2 else((j6 (λ(j:Int×Int)=>(bif decide (j.2<(p0.aJ.length:Int))then((idx p0.aJ j.2).bind λah=>(fD N ah).bind λad=>bif ad != 0 then some (.rt ad)else((idx p0.aJ j.2).bind λai=>some<|.nx (wrap .i64<|j.1+(ai.length:Int),wrap .i64<|j.2+1)))else(some<|.br (j.1,j.2)):Option (Fl (Int×Int) Int))) N ((p0.cT.length:Int),0)).bind λaj=>aj.cs (λ(j:Int×Int)=>(fD N p0.cT).bind λae=>bif ae != 0 then some ae else((bif decide (j.1>2000)then some true else some (decide<|(p0.aU.length:Int)>500)).bind λak=>bif ak then some 2 else((j6 (λ(o:Int)=>(bif decide (o<(p0.aU.length:Int))then((idx p0.aU o).bind λab=>(gI N ab).bind λaf=>bif af != 0 then some (.rt af)else(((eB N ab.cL 0<|wrap .i64<|(p0.aJ.length:Int) - 1).bind λal=>bif(!al)then some true else((eB N ab.To ab.cL<|wrap .i64<|(p0.aJ.length:Int) - 1).bind λan=>some<|!an)).bind λao=>bif ao then some (.rt 1)else some (.nx<|wrap .i64<|o+1)))else(some<|.br o):Option (Fl Int Int))) N 0).bind λaq=>aq.cs (λ(o:Int)=>bif decide ((p0.bJ.length:Int)>1000)then some 2 else((j6 (λ(aa:Int)=>(bif decide (aa<(p0.bJ.length:Int))then((iz N p0 aa).bind λag=>bif ag != 0 then some (.rt ag)else some (.nx<|wrap .i64<|aa+1))else(some<|.br aa):Option (Fl Int Int))) N 0).bind λar=>ar.cs (λ(aa:Int)=>some 0)<|λr=>some r))<|λr=>some r)))<|λr=>some r))
def iA(N:Nat)(p0 p1:cJ):Option Bool:=
 some (decide (p0.cL<=p1.To)&&decide (p1.cL<=p0.To))
def fX(N:Nat)(p0 p1:aH):Option Bool:=
 (bif decide ((if p1.X1<p0.X1 then p1.X1 else p0.X1)>(if p0.X0<p1.X0 then p1.X0 else p0.X0))then some (decide<|(if p1.Y1<p0.Y1 then p1.Y1 else p0.Y1)>(if p0.Y0<p1.Y0 then p1.Y0 else p0.Y0))else some false).bind λj=>some j
def kx(N:Nat)(p0:cJ)(p1:Int):Option Bool:=
 some (decide (p0.cL<=p1)&&decide (p1<=p0.To))
def iB(N:Nat)(p0:List aG)(p1:Int):Option Bool:=
 (j6 (λ(j:Int)=>(bif decide (j<(p0.length:Int))then(((idx p0 j).bind λo=>bif decide (o.from_<=p1)then((idx p0 j).bind λaa=>some<|decide<|p1<aa.to)else some false).bind λab=>bif ab then some (.rt true)else some (.nx<|wrap .i64<|j+1))else(some<|.br j):Option (Fl Int Bool))) N 0).bind λad=>ad.cs (λ(j:Int)=>some false)<|λr=>some r
def jN(N:Nat)(p0:List aG)(p1:List aG)(p2:Int):Option (List aG):=
 (j6 (λ(aa:List Int×Int)=>(bif decide (aa.2<(p0.length:Int))then((idx p0 aa.2).bind λae=>(idx p0 aa.2).bind λaf=>(fB N aa.1 ae.from_).bind λag=>(fB N ag af.to).bind λah=>some<|.nx (ah,wrap .i64<|aa.2+1))else(some<|.br (aa.1,aa.2)):Option (Fl (List Int×Int) Empty))) N (([]:List Int),0)).bind λai=>ai.cs (λ(aa:List Int×Int)=>(j6 (λ(j:List Int×Int)=>(bif decide (j.2<(p1.length:Int))then((idx p1 j.2).bind λaj=>(idx p1 j.2).bind λqo=>(fB N j.1 aj.from_).bind λak=>(fB N ak qo.to).bind λal=>some<|.nx (al,wrap .i64<|j.2+1))else(some<|.br (j.1,j.2)):Option (Fl (List Int×Int) Empty))) N (aa.1,0)).bind λan=>an.cs (λ(j:List Int×Int)=>(j6 (λ(o:List aG×Int)=>(bif decide (o.2<(j.1.length:Int))then((idx j.1<|wrap .i64<|o.2 - 1).bind λao=>(idx j.1<|wrap .i64<|o.2 - 1).bind λH3=>(iB N p0 ao).bind λab=>(iB N p1 H3).bind λad=>(bif(((p2==1)&&(ab||ad))||(((p2==2)&&ab)&&ad))||(((p2==3)&&ab)&&(!ad))then((idx j.1<|wrap .i64<|o.2 - 1).bind λaq=>(idx j.1 o.2).bind λar=>(iw N o.1 (⟨aq,ar⟩:aG)).bind λau=>some au)else some o.1).bind λav=>some<|.nx (av,wrap .i64<|o.2+1))else(some<|.br (o.1,o.2)):Option (Fl (List aG×Int) Empty))) N (([]:List aG),1)).bind λaw=>aw.cs (λ(o:List aG×Int)=>some o.1)<|λr=>r.elim)<|λr=>r.elim)<|λr=>r.elim
def gD(N:Nat)(p0:List aH)(p1:List aH)(p2:Int):Option (List aH):=
 (app 32 ([]:List aH) p0).bind λaa=>(app 32 aa p1).bind λab=>(gV N ab).bind λo=>(j6 (λ(j:List aK×Int)=>(bif decide (j.2<(o.length:Int))then((idx o<|wrap .i64<|j.2 - 1).bind λad=>(idx o j.2).bind λae=>(idx o<|wrap .i64<|j.2 - 1).bind λaf=>(idx o<|wrap .i64<|j.2 - 1).bind λag=>(iS N p0 af).bind λah=>(iS N p1 ag).bind λai=>(jN N ah ai p2).bind λqo=>(fV N j.1 (⟨ad,ae,qo⟩:aK)).bind λaj=>some<|.nx (aj,wrap .i64<|j.2+1))else(some<|.br (j.1,j.2)):Option (Fl (List aK×Int) Empty))) N (([]:List aK),1)).bind λak=>ak.cs (λ(j:List aK×Int)=>(jd N j.1).bind λal=>some al)<|λr=>r.elim
def ky(N:Nat)(p0:List aH)(p1:List aH):Option (List aH):=
 (gD N p0 p1 3).bind λj=>some j
def iC(N:Nat)(p0:gm)(p1:Int):Option (List aH):=
 (j6 (λ(j:List aH×Int)=>(bif decide (j.2<(p0.aU.length:Int))then((idx p0.aU j.2).bind λo=>(kx N o p1).bind λaa=>(bif aa then((idx p0.aU j.2).bind λab=>(cZ N ab).bind λad=>(app 32 j.1 ([ad]:List aH)).bind λae=>some ae)else some j.1).bind λaf=>some<|.nx (af,wrap .i64<|j.2+1))else(some<|.br (j.1,j.2)):Option (Fl (List aH×Int) Empty))) N (([]:List aH),0)).bind λag=>ag.cs (λ(j:List aH×Int)=>(idx p0.aJ p1).bind λah=>(fw N j.1).bind λai=>(ky N ah ai).bind λaj=>some aj)<|λr=>r.elim
def iW(N:Nat)(p0 p1:aH):Option Bool:=
 some ((decide (wrap .i64 ((if p1.X1<p0.X1 then p1.X1 else p0.X1) -(if p0.X0<p1.X0 then p1.X0 else p0.X0))>0)&&decide (wrap .i64 ((if p1.Y1<p0.Y1 then p1.Y1 else p0.Y1) -(if p0.Y0<p1.Y0 then p1.Y0 else p0.Y0))>=0))||(decide (wrap .i64 ((if p1.X1<p0.X1 then p1.X1 else p0.X1) -(if p0.X0<p1.X0 then p1.X0 else p0.X0))>=0)&&decide (wrap .i64 ((if p1.Y1<p0.Y1 then p1.Y1 else p0.Y1) -(if p0.Y0<p1.Y0 then p1.Y0 else p0.Y0))>0)))
def jt(N:Nat)(p0:List (List aH))(p1:List aH):Option (List<|List aH):=
 (j6 (λ(j:Int)=>((bif decide (j>0)then((idx p1 0).bind λo=>(idx p0<|wrap .i64<|j - 1).bind λaa=>(idx aa 0).bind λab=>(iv N o ab).bind λad=>some ad)else some false).bind λae=>bif ae then some (.nx<|wrap .i64<|j - 1)else(some<|.br j):Option (Fl Int Empty))) N (p0.length:Int)).bind λaf=>af.cs (λ(j:Int)=>(uY p0 0 j).bind λag=>(app 24 ([]:List (List aH)) ag).bind λah=>(app 24 ah ([p1]:List (List aH))).bind λai=>(uY p0 j (p0.length:Int)).bind λaj=>(app 24 ai aj).bind λak=>some ak)<|λr=>r.elim
def gE(N:Nat)(p0:List aH):Option (List<|List aH):=
 (mk 1 (false:Bool) (p0.length:Int)).bind λad=>(j6 (λ(o:List Bool×List (List aH)×Int)=>(bif decide (o.2.2<(p0.length:Int))then((idx o.1 o.2.2).bind λae=>bif ae then some (.nx (o.1,o.2.1,wrap .i64<|o.2.2+1))else((idx o.1 o.2.2).bind λaw=>(idx p0 o.2.2).bind λaf=>(j6 (λ(aa:List Bool×List aH×Int)=>(bif decide (aa.2.2<(aa.2.1.length:Int))then((j6 (λ(j:List Bool×List aH×Int)=>(bif decide (j.2.2<(p0.length:Int))then(((idx j.1 j.2.2).bind λag=>bif(!ag)then((idx j.2.1 aa.2.2).bind λah=>(idx p0 j.2.2).bind λai=>(iW N ah ai).bind λaj=>some aj)else some false).bind λak=>(bif ak then((idx j.1 j.2.2).bind λax=>(idx p0 j.2.2).bind λal=>(app 32 j.2.1 ([al]:List aH)).bind λan=>some (j.1.set (Int.toNat j.2.2) true,an))else some (j.1,j.2.1)).bind λab=>some<|.nx (ab.1,ab.2,wrap .i64<|j.2.2+1))else(some<|.br (j.1,j.2.1,j.2.2)):Option (Fl (List Bool×List aH×Int) Empty))) N (aa.1,aa.2.1,0)).bind λao=>ao.cs (λ(j:List Bool×List aH×Int)=>some<|.nx (j.1,j.2.1,wrap .i64<|aa.2.2+1))<|λr=>r.elim)else(some<|.br (aa.1,aa.2.1,aa.2.2)):Option (Fl (List Bool×List aH×Int) Empty))) N (o.1.set (Int.toNat o.2.2) true,([af]:List aH),0)).bind λaq=>aq.cs (λ(aa:List Bool×List aH×Int)=>(fw N aa.2.1).bind λar=>(jt N o.2.1 ar).bind λau=>some<|.nx (aa.1,au,wrap .i64<|o.2.2+1))<|λr=>r.elim))else(some<|.br (o.1,o.2.1,o.2.2)):Option (Fl (List Bool×List (List aH)×Int) Empty))) N (ad,([]:List (List aH)),0)).bind λav=>av.cs (λ(o:List Bool×List (List aH)×Int)=>some o.2.1)<|λr=>r.elim
def dO(N:Nat)(p0:gm):Option Int:=
 (gZ N p0).bind λab=>bif ab != 0 then some ab else((j6 (λ(o:Int)=>(bif decide (o<(p0.aU.length:Int))then((j6 (λ(aa:Int)=>(bif decide (aa<o)then(((idx p0.aU o).bind λae=>(idx p0.aU aa).bind λaf=>(iA N ae af).bind λag=>bif ag then((idx p0.aU o).bind λah=>(idx p0.aU aa).bind λai=>(cZ N ah).bind λaj=>(cZ N ai).bind λak=>(fX N aj ak).bind λal=>some al)else some false).bind λan=>bif an then some (.rt 12)else some (.nx<|wrap .i64<|aa+1))else(some<|.br aa):Option (Fl Int Int))) N 0).bind λao=>ao.cs (λ(aa:Int)=>some<|.nx<|wrap .i64<|o+1)<|λr=>some<|.rt r)else(some<|.br o):Option (Fl Int Int))) N 0).bind λaq=>aq.cs (λ(o:Int)=>(j6 (λ(j:Int×Int)=>(bif decide (j.2<(p0.aJ.length:Int))then((iC N p0 j.2).bind λad=>bif decide ((ad.length:Int)>2000)then some (.rt 2)else((gE N ad).bind λar=>some<|.nx (wrap .i64<|j.1+(ar.length:Int),wrap .i64<|j.2+1)))else(some<|.br (j.1,j.2)):Option (Fl (Int×Int) Int))) N (0,0)).bind λau=>au.cs (λ(j:Int×Int)=>bif decide (j.1>2000)then some 2 else some 0)<|λr=>some r)<|λr=>some r)
def dL(N:Nat)(p0:gm)(p1:eA):Option Int:=
 (j6 (λ(j:Int)=>(bif decide (j<(p0.bJ.length:Int))then(((idx p0.bJ j).bind λo=>bif o.Part.nQ p1.Part then((idx p0.bJ j).bind λaa=>some<|aa.eA.nQ p1.eA)else some false).bind λab=>bif ab then some (.rt j)else some (.nx<|wrap .i64<|j+1))else(some<|.br j):Option (Fl Int Int))) N 0).bind λad=>ad.cs (λ(j:Int)=>some<|-1)<|λr=>some r
def gJ(N:Nat)(p0 p1:eA):Option Bool:=
 some (p0.Part.mL p1.Part||(p0.Part.nQ p1.Part&&p0.eA.mL p1.eA))
def iD(N:Nat)(p0 p1:Test):Option Bool:=
 ((gJ N p0.A p1.A).bind λj=>bif j then some true else(bif decide (p0.A=p1.A)then((gJ N p0.B p1.B).bind λo=>some o)else some false)).bind λaa=>some aa
def cS(N:Nat)(p0:gm)(p1:List Test):Option Int:=
 (dO N p0).bind λo=>bif o != 0 then some o else(bif decide ((p1.length:Int)>2000)then some 2 else((j6 (λ(j:Int)=>(bif decide (j<(p1.length:Int))then(((idx p1 j).bind λaa=>(dL N p0 aa.A).bind λab=>bif decide (ab<0)then some true else((idx p1 j).bind λad=>(dL N p0 ad.B).bind λae=>some<|decide<|ae<0)).bind λaf=>bif af then some (.rt 9)else(((idx p1 j).bind λag=>(idx p1 j).bind λah=>(gJ N ag.A ah.B).bind λai=>bif(!ai)then some true else(bif decide (j>0)then((idx p1<|wrap .i64<|j - 1).bind λaj=>(idx p1 j).bind λak=>(iD N aj ak).bind λal=>some<|!al)else some false)).bind λan=>bif an then some (.rt 8)else some (.nx<|wrap .i64<|j+1)))else(some<|.br j):Option (Fl Int Int))) N 0).bind λao=>ao.cs (λ(j:Int)=>some 0)<|λr=>some r))
def eX(N:Nat)(p0 p1 p2:Int):Option Bool:=
 some (decide (p0>=p1)&&decide (p0<=p2))
def jO(N:Nat)(p0:gm)(p1:List Test)(p2 p3:Int):Option (aT×Int):=
 (cS N p0 p1).bind λj=>bif j != 0 then some ((⟨⟨[],[],[],[]⟩,[],0,0⟩:aT),j)else(((eX N p2 1 1000000).bind λo=>bif(!o)then some true else((eX N p3 0 1000).bind λaa=>some<|!aa)).bind λab=>bif ab then some ((⟨⟨[],[],[],[]⟩,[],0,0⟩:aT),1)else some ((⟨p0,p1,p2,p3⟩:aT),0))
def eL(N:Nat)(p0:aT)(p1:Int)(p2:Bool):Option (cK×cK):=
 (idx p0.tq p1).bind λaa=>(dL N p0.AD aa.A).bind λab=>(idx p0.AD.bJ ab).bind λj=>(idx p0.tq p1).bind λad=>(dL N p0.AD ad.B).bind λae=>(idx p0.AD.bJ ae).bind λo=>bif p2 then some (o.At,j.At)else some (j.At,o.At)
def fM(N:Nat)(p0:aT)(p1 p2:cK)(p3:Int)(p4:Bool):Option Int:=
 (eL N p0 p3 p4).bind λj=>(KH p0.speed).bind λo=>some<|wrap .i64<|wrap .i64 (Int.tdiv (wrap .i64<|wrap .i64 (zw (wrap .i64<|j.1.X - p1.X) [wrap .i64<|p1.X - j.1.X,wrap .i64<|j.1.Y - p1.Y,wrap .i64<|p1.Y - j.1.Y,wrap .i64<|j.2.X - p2.X,wrap .i64<|p2.X - j.2.X,wrap .i64<|j.2.Y - p2.Y,wrap .i64<|p2.Y - j.2.Y]+p0.speed) - 1) p0.speed)+p0.Ae
def gK(N:Nat)(p0:gm)(p1:List Test)(p2:List Touch)(p3 p4:Int):Option (Int×Int):=
 (jO N p0 p1 p3 p4).bind λaa=>bif aa.2 != 0 then some (0,aa.2)else(bif(p2.length:Int) != (p1.length:Int)then some (0,3)else((mk 1 (false:Bool) (p1.length:Int)).bind λaf=>(j6 (λ(o:List Bool×Int)=>(bif decide (o.2<(p2.length:Int))then((idx p2 o.2).bind λab=>((eX N ab.Test 0<|wrap .i64<|(p1.length:Int) - 1).bind λag=>bif(!ag)then some true else((idx o.1 ab.Test).bind λah=>some ah)).bind λai=>bif ai then some (.rt (0,3))else((idx o.1 ab.Test).bind λau=>some<|.nx (o.1.set (Int.toNat ab.Test) true,wrap .i64<|o.2+1)))else(some<|.br (o.1,o.2)):Option (Fl (List Bool×Int)<|Int×Int))) N (af,0)).bind λaj=>aj.cs (λ(o:List Bool×Int)=>(j6 (λ(j:cK×cK×Int×Int)=>(bif decide (j.2.2.2<(p2.length:Int))then((idx p2 j.2.2.2).bind λak=>(idx p2 j.2.2.2).bind λal=>(fM N aa.1 j.1 j.2.1 ak.Test al.o4).bind λad=>(idx p2 j.2.2.2).bind λan=>bif an.tp != wrap .i64 (j.2.2.1+ad)then some (.rt (0,12))else((idx p2 j.2.2.2).bind λao=>(idx p2 j.2.2.2).bind λaq=>(eL N aa.1 ao.Test aq.o4).bind λae=>some<|.nx (ae.1,ae.2,wrap .i64<|j.2.2.1+ad,wrap .i64<|j.2.2.2+1)))else(some<|.br (j.1,j.2.1,j.2.2.1,j.2.2.2)):Option (Fl (cK×cK×Int×Int)<|Int×Int))) N ((⟨0,0⟩:cK),(⟨0,0⟩:cK),0,0)).bind λar=>ar.cs (λ(j:cK×cK×Int×Int)=>some (j.2.2.1,0))<|λr=>some r)<|λr=>some r))
def jP(N:Nat)(p0:Int)(p1h_5:List aL):Option Bool:=
 (jk N p0 0<|wrap .i64<|(p1h_5.length:Int) - 1).bind λj=>some j
def o7(N:Nat)(p0:List mM)(p1:mM):Option Int:=
 (si p0.length (λ(j:Nat)(o:Unit)=>((idx p0 (j:Int)).bind λaa=>bif decide (p1=aa)then some (.rt (j:Int))else(some<|.nx ()):Option (Fl Unit Int))) ()).bind λab=>ab.cs (λ(o:Unit)=>some<|-1)<|λr=>some r
def mV(N:Nat)(p0:List mM)(p1:mM):Option Bool:=
 (o7 N p0 p1).bind λj=>some<|decide<|j>=0
def ny(N:Nat)(p0_0:List (List aH))(p0_1:List aH)(p0_2:List cJ)(p0_3:List dN)(p0_4:List (List aA))(p0_5:List aL)(p0_6:List (List Int))(p0_7:List dD)(p0_8:List Int)(p0_9:List Int)(p0_10:List Int)(p0_11:List gC)(p1:List mM):Option Int:=
 bif decide ((p1.length:Int)>20)then some 2 else((si p1.length (λ(o:Nat)(aa:Unit)=>((idx p1 (o:Int)).bind λj=>(bif j.Open&&((j.A != 0)||(j.B != 0))then some true else(bif(!j.Open)then some (!(decide<|j.gC=(⟨false,0⟩:gC)))else some false)).bind λab=>bif ab then some (.rt 3)else(((jP N j.A p0_5).bind λad=>bif ad then((jP N j.B p0_5).bind λae=>some ae)else some false).bind λaf=>(bif j.Open then((jP N j.gC.Number p0_5).bind λag=>some ag)else some af).bind λah=>(bif j.Open&&j.gC.cJ then(((jk N j.gC.Number 0<|wrap .i64<|(p0_2.length:Int) - 1).bind λai=>bif ai then((idx p0_2 j.gC.Number).bind λaj=>some aj.jH)else some false).bind λak=>some ak)else some ah).bind λal=>bif(!al)then some (.rt 9)else(bif(!j.Open)&&decide (j.B<=j.A)then some (.rt 8)else((uY p1 0 (o:Int)).bind λan=>(mV N an j).bind λao=>bif ao then some (.rt 7)else some (.nx ())))):Option (Fl Unit Int))) ()).bind λaq=>aq.cs (λ(aa:Unit)=>some 0)<|λr=>some r)
def j9(N:Nat)(p0:gC)(p1:Int):Option Int:=
 bif p0.cJ then some (wrap .i64<|p1+p0.Number)else some p0.Number
def lz(N:Nat)(p0 p1:Int)(p2_0:List (Int×Bool))(p3h_0:List Int):Option (List Int):=
 (bif(!(fC p2_0 p0 (false:Bool)))then some (!(fC p2_0 p1 (false:Bool)))else some false).bind λj=>(bif j then((eF N p3h_0 p0 p1).bind λo=>some o)else some p3h_0).bind λaa=>some aa
def mn(N:Nat)(p0_2:List cJ)(p0_3:List dN)(p0_5:List aL)(p0_6:List (List Int))(p0_10:List Int)(p0_11:List gC)(p1:List mM):Option (List Int):=
 (nH p1.length (λ(aq:Nat)(aa:List (Int×Bool))=>((idx p1 (aq:Int)).bind λaj=>(bif aj.Open then((j9 N aj.gC (p0_5.length:Int)).bind λar=>some<|ql aa ar true)else some aa).bind λau=>some au:Option (List<|Int×Bool))) ([]:List (Int×Bool))).bind λaa=>(j8 N<|wrap .i64<|(p0_5.length:Int)+(p0_2.length:Int)).bind λav=>(nH p0_6.length (λ(ak:Nat)(ae:List Int)=>((idx p0_6 (ak:Int)).bind λal=>(nH al.length (λ(aw:Nat)(af:List Int)=>((idx al (aw:Int)).bind λax=>(lz N ax (wrap .i64<|(p0_5.length:Int)+(ak:Int)) aa af).bind λay=>some ay:Option (List Int))) ae).bind λaf=>some af:Option (List Int))) av).bind λae=>(nH p1.length (λ(az:Nat)(ab:List Int)=>((idx p1 (az:Int)).bind λag=>(bif(!ag.Open)then((lz N ag.A ag.B aa ab).bind λa0=>some a0)else some ab).bind λa1=>some a1:Option (List Int))) ae).bind λab=>(mk 8 (0:Int) (p0_3.length:Int)).bind λa2=>(nH p0_11.length (λ(o:Nat)(j:List Int×List (Int×Int)×List Int)=>((idx p0_11 (o:Int)).bind λa3=>(j9 N a3 (p0_5.length:Int)).bind λad=>((idx p0_10 (o:Int)).bind λa4=>bif decide (a4<0)then some true else some (fC aa ad (false:Bool))).bind λa5=>bif a5 then((idx j.2.2 (o:Int)).bind λa6=>some (j.1,j.2.1,j.2.2.set (Int.toNat (o:Int))<|-1))else((eP N j.1 ad).bind λah=>(bif(!(lL j.2.1 ah.1))then((eP N ah.2 ad).bind λan=>some (an.2,ql j.2.1 an.1 (o:Int)))else some (ah.2,j.2.1)).bind λai=>(eP N ai.1 ad).bind λao=>(idx j.2.2 (o:Int)).bind λa7=>some (ao.2,ai.2,j.2.2.set (Int.toNat (o:Int))<|fC ai.2 ao.1 (0:Int))):Option (List Int×List (Int×Int)×List Int))) (ab,([]:List (Int×Int)),a2)).bind λj=>some j.2.2
def jK(N:Nat)(p0:gm)(p1:List mM)(p2 p3:eA):Option (Bool×Int):=
 (ir N p0).bind λo=>Jk o.1 (bif o.2 != 0 then some (false,o.2)else none) (λ(j:(List (List aH)×List aH×List cJ×List dN×List (List aA)×List aL×List (List Int)×List dD×List Int×List Int×List Int×List gC))=>bif o.2 != 0 then some (false,o.2)else((ny N j.1 j.2.1 j.2.2.1 j.2.2.2.1 j.2.2.2.2.1 j.2.2.2.2.2.1 j.2.2.2.2.2.2.1 j.2.2.2.2.2.2.2.1 j.2.2.2.2.2.2.2.2.1 j.2.2.2.2.2.2.2.2.2.1 j.2.2.2.2.2.2.2.2.2.2.1 j.2.2.2.2.2.2.2.2.2.2.2 p1).bind λad=>bif ad != 0 then some (false,ad)else((eQ N p0 p2).bind λaa=>(eQ N p0 p3).bind λae=>bif decide (aa<0)||decide (ae<0)then some (false,9)else((mn N j.2.2.1 j.2.2.2.1 j.2.2.2.2.2.1 j.2.2.2.2.2.2.1 j.2.2.2.2.2.2.2.2.2.2.1 j.2.2.2.2.2.2.2.2.2.2.2 p1).bind λab=>((idx ab aa).bind λaf=>bif decide (af>=0)then((idx ab aa).bind λag=>(idx ab ae).bind λah=>some<|ag==ah)else some false).bind λai=>some (ai,0)))))
def ju(N:Nat):Option Bool:=
 (jK N (⟨([([(⟨0,0,1,1⟩:aH)]:List aH)]:List (List aH)),([]:List aH),([]:List cJ),([(⟨⟨[97]⟩,⟨[49]⟩,0,⟨0,0⟩⟩:dN)]:List dN)⟩:gm) ([]:List mM) (⟨⟨[97]⟩,⟨[49]⟩⟩:eA) (⟨⟨[97]⟩,⟨[49]⟩⟩:eA)).bind λj=>some<|(j.2==0)&&j.1
def dK(N:Nat)(p0:gm)(p1:List Test)(p2:List Touch)(p3 p4:Int):Option Bool:=
 (ot N p0 p1 p2 p3 p4).bind λj=>(gK N p0 p1 p2 p3 p4).bind λo=>(bif(j.1==o.1)&&(j.2==o.2)then((ju N).bind λaa=>some aa)else some false).bind λab=>some ab
end
def qc{R:Type}(m:Nat)(e:Nat->Option R):Option R:=(List.range m).findSome? e
theorem kb{R:Type}{m:Nat}{e:Nat->Option R}:qc m e=none↔∀k,k<m->e k=none:=by
 simp[qc]
theorem kc{R:Type}{m:Nat}{e:Nat->Option R}{r:R}:qc m e=some r↔∃k,k<m/\e k=some r/\∀j,j<k->e j=none:=by
 constructor
 ·intro h;obtain⟨l1,a,l2,hl,ha,hn⟩:=List.findSome?_eq_some_iff.1 h;have hlen:l1.length<m:=by have:=congrArg List.length hl;simp at this;omega
  have hget:∀i,i<l1.length->l1[i]? =some i:=λi hi=>by
   have:=congrArg (·[i]?) hl;simp only[gz hi,List.getElem?_range (show i<m by omega)]at this;exact this.symm
  have hat:a=l1.length:=by
   have:=congrArg (·[l1.length]?) hl;simp[List.getElem?_range hlen]at this;exact this.symm
  refine⟨a,by omega,ha,λj hj=>hn j ?_⟩;exact gq<|hget j (by omega)
 ·rintro⟨k,hk,he,hn⟩;refine List.findSome?_eq_some_iff.2 ⟨List.range k,k,(List.range<|m - k - 1).map (· +(k+1)),?_,he,λx hx=>hn x<|ni.1 hx⟩;refine List.ext_getElem? λi=>?_
  by_cases h1:i<k
  ·rw[gz (by simpa using h1),List.getElem?_range (by omega),List.getElem?_range h1]
  ·rw[gQ (by simpa using h1),List.length_range]
   by_cases h2:i=k
   ·subst h2;simp[List.getElem?_range hk]
   ·obtain⟨d,rfl⟩:∃d,i=k+1+d:=⟨i -(k+1),by omega⟩;rw[show k+1+d - k=d+1 by omega,List.getElem?_cons_succ,i5]
    by_cases h3:k+1+d<m
    ·rw[List.getElem?_range h3,List.getElem?_range (by omega)];simp;omega
    ·rw[List.getElem?_eq_none (by simp;omega),List.getElem?_eq_none (by simp;omega)];rfl
theorem JJ{R R':Type}{m:Nat}{e:Nat->Option R}(f:R->R'):(qc m e).map f=qc m (λk=>(e k).map f):=by
 cases hx:qc m e with
 |none=>exact(kb.2 λk hk=>by rw[kb.1 hx k hk];rfl).symm
 |some r=>
  obtain⟨k,hk,he,hn⟩:=kc.1 hx;exact(kc.2 ⟨k,hk,by rw[he];rfl,λj hj=>by rw[hn j hj];rfl⟩).symm
section
variable {S R:Type}
def Ik(o:Option R)(s:S):Fl S R:=match o with|some r=> .rt r|none=> .nx s
def DZ(o:Option R)(s:S):Fo S R:=match o with|some r=> .rt r|none=> .go s
theorem Fm{body:Nat->S->Option (Fl S R)}(F:Nat->S)(e:Nat->Option R)(m:Nat):∀(n k:Nat),k+n=m->
  (∀j,k<=j->j<m->(∀i,k<=i->i<j->e i=none)->body j (F j)=some (Ik (e j)<|F<|j+1))->
  ∃o,Dx body n k (F k)=some o/\((∀j,k<=j->j<m->e j=none)/\o = .go (F m)\/∃j r,k<=j/\j<m/\e j=some r/\(∀i,k<=i->i<j->e i=none)/\o = .rt r)
 | 0,k,hk,_=>⟨_,rfl, .inl ⟨λj h1 h2=>by omega,by rw[show k=m by omega]⟩⟩
 |n+1,k,hk,h=>by
  have hb:=h k (bR _) (by omega) (λi h1 h2=>by omega);unfold Dx;rw[hb]
  cases hx:e k with
  |some r=>exact⟨_,rfl, .inr ⟨k,r,bR _,by omega,hx,λi h1 h2=>by omega,rfl⟩⟩
  |none=>
   obtain⟨o,ho,hc⟩:=Fm F e m n (k+1) (by omega) (λj h1 h2 h3=>h j (by omega) h2 λi h4 h5=>by
    by_cases h6:i=k
    ·subst h6;exact hx
    ·exact h3 i (by omega) h5)
   refine⟨o,ho,?_⟩
   rcases hc with⟨h1,h2⟩|⟨j,r,h1,h2,h3,h4,h5⟩
   ·refine .inl ⟨λj h3 h4=>?_,h2⟩
    by_cases h6:j=k
    ·subst h6;exact hx
    ·exact h1 j (by omega) h4
   ·refine .inr ⟨j,r,by omega,h2,h3,λi h6 h7=>?_,h5⟩
    by_cases h8:i=k
    ·subst h8;exact hx
    ·exact h4 i (by omega) h7
theorem K2{body:Nat->S->Option (Fl S R)}{m:Nat}{s:S}(F:Nat->S)(e:Nat->Option R)(hm:m<=4611686018427387904)(hs:F 0=s)
  (h:∀k,k<m->(∀i,i<k->e i=none)->body k (F k)=some (Ik (e k)<|F<|k+1)):si m body s=some (DZ (qc m e)<|F m):=by
 subst hs;unfold si;rw[aC hm];obtain⟨o,ho,hc⟩:=Fm F e m m 0 (by omega)<|λj _ h2 h3=>h j h2 λi hi=>h3 i (eZ _) hi
 rw[ho]
 rcases hc with⟨h1,h2⟩|⟨j,r,_,h2,h3,h4,h5⟩
 ·rw[kb.2 λk hk=>h1 k (eZ _) hk,h2];rfl
 ·rw[kc.2 ⟨j,h2,h3,λi hi=>h4 i (eZ _) hi⟩,h5];rfl
theorem rO{body:Nat->Unit->Option (Fl Unit R)}{m:Nat}(e:Nat->Option R)(hm:m<=4611686018427387904)
  (h:∀k,k<m->(∀i,i<k->e i=none)->body k ()=some (Ik (e k) ())):si m body ()=some (DZ (qc m e) ()):=
 K2 (λ_=>()) e hm rfl h
theorem yC{body:S->Option (Fl S R)}(Inv:S->Prop)(μ:S->Nat)(Go:S->Prop)(Rt:R->Prop)
  (h:∀s,Inv s->∃fl,body s=some fl/\match fl with| .nx s'=>Inv s'/\μ s'<μ s| .br s'=>Go s'| .rt r=>Rt r):
  ∀(N:Nat)(s:S),Inv s->μ s<N->∃o,j6 body N s=some o/\match o with| .go s'=>Go s'| .rt r=>Rt r
 | 0,s,_,hn=>by omega
 |N+1,s,hi,hn=>by
  obtain⟨fl,hb,hf⟩:=h s hi;unfold j6;rw[hb]
  cases fl with
  |nx s'=>exact yC Inv μ Go Rt h N s' hf.1 (by have:=hf.2;omega)
  |br s'=>exact⟨_,rfl,hf⟩
  |rt r=>exact⟨_,rfl,hf⟩
theorem Fp{body:Nat->S->Option (Fl S R)}(Inv:Nat->S->Prop)(Go:S->Prop)(Rt:R->Prop)(m:Nat)
  (h:∀k s,k<m->Inv k s->∃fl,body k s=some fl/\match fl with| .nx s'=>Inv (k+1) s'| .br s'=>Go s'| .rt r=>Rt r) (hg:∀s,Inv m s->Go s):
  ∀(n k:Nat)(s:S),k+n=m->Inv k s->∃o,Dx body n k s=some o/\match o with| .go s'=>Go s'| .rt r=>Rt r
 | 0,k,s,hk,hi=>⟨_,rfl,hg s (by rw[<-hk];exact hi)⟩
 |n+1,k,s,hk,hi=>by
  obtain⟨fl,hb,hf⟩:=h k s (by omega) hi;unfold Dx;rw[hb]
  cases fl with
  |nx s'=>exact Fp Inv Go Rt m h hg n (k+1) s' (by omega) hf
  |br s'=>exact⟨_,rfl,hf⟩
  |rt r=>exact⟨_,rfl,hf⟩
theorem K3{body:Nat->S->Option (Fl S R)}{m:Nat}{s:S}(Inv:Nat->S->Prop)(Go:S->Prop)(Rt:R->Prop)(hm:m<=4611686018427387904)(h0:Inv 0 s)
  (h:∀k s,k<m->Inv k s->∃fl,body k s=some fl/\match fl with| .nx s'=>Inv (k+1) s'| .br s'=>Go s'| .rt r=>Rt r) (hg:∀s,Inv m s->Go s):
  ∃o,si m body s=some o/\match o with| .go s'=>Go s'| .rt r=>Rt r:=by
 unfold si;rw[aC hm];exact Fp Inv Go Rt m h hg m 0 s (by omega) h0
theorem Fq{body:Nat->S->Option S}(Inv:Nat->S->Prop)(m:Nat)(h:∀k s,k<m->Inv k s->∃s',body k s=some s'/\Inv (k+1) s'):
  ∀(n k:Nat)(s:S),k+n=m->Inv k s->∃s',I5 body n k s=some s'/\Inv m s'
 | 0,k,s,hk,hi=>⟨_,rfl,by rw[<-hk];exact hi⟩
 |n+1,k,s,hk,hi=>by
  obtain⟨s',hb,hf⟩:=h k s (by omega) hi;unfold I5;rw[hb];exact Fq Inv m h n (k+1) s' (by omega) hf
theorem AU{body:Nat->S->Option S}{m:Nat}{s:S}(Inv:Nat->S->Prop)(hm:m<=4611686018427387904)(h0:Inv 0 s)
  (h:∀k s,k<m->Inv k s->∃s',body k s=some s'/\Inv (k+1) s'):∃s',nH m body s=some s'/\Inv m s':=by
 unfold nH;rw[aC hm];exact Fq Inv m h m 0 s (by omega) h0
end
section
variable {α β:Type}
theorem aB(x:α)(f:α->Option β):(some x).bind f=f x:=rfl
theorem lj(l:List α)(k:Nat)(h:k<l.length):idx l ((k:Nat):Int)=some l[k]:=by
 unfold idx;rw[aC (by omega),cI,aP h]
theorem dS{l:List α}{k:Nat}{x:α}(h:l[k]? =some x):idx l ((k:Nat):Int)=some x:=by
 unfold idx;rw[aC (by omega),cI,h]
theorem Ft(s:eC)(k:Nat)(h:k<s.cW.length):Gp s ((k:Nat):Int)=some s.cW[k]:=by
 unfold Gp;rw[aC (by omega),cI,aP h]
theorem je{k:Nat}(h:0<k)(hk:k<=4611686018427387904):wrap .i64 (((k:Nat):Int) - 1)=((k - 1:Nat):Int):=by
 rw[eU (by omega) (by omega)];omega
theorem tx(l:List α)(k:Nat)(h:k<=l.length):uY l 0 ((k:Nat):Int)=some (l.take k):=by
 unfold uY;rw[aC ⟨by omega,by omega,by omega⟩];simp only[Int.toNat_zero,List.drop_zero,Int.sub_zero,cI]
theorem rP(l:List α)(k:Nat)(h:k<=l.length):uY l ((k:Nat):Int) ((l.length:Nat):Int)=some (l.drop k):=by
 unfold uY;rw[aC ⟨by omega,by omega,by omega⟩];simp only[cI,Option.some.injEq];rw[mE];rw[iN];omega
theorem kR{b:Nat}{l ys:List α}(h:(l.length+ys.length)*b<=140737488355328):app b l ys=some (l++ys):=by unfold app;rw[aC h]
theorem rf{b:Nat}(z:α){n:Nat}(h:n*b<=140737488355328):mk b z ((n:Nat):Int)=some (List.replicate n z):=by
 unfold mk;have e:((n:Nat):Int)*((b:Nat):Int)=((n*b:Nat):Int):=(Int.natCast_mul n b).symm;rw[e];generalize n*b=q at h ⊢;rw[aC ⟨by omega,by omega⟩,cI]
end
theorem eC.ext'{a b:eC}(h:a.cW=b.cW):a=b:=by cases a;cases b;simp at h;rw[h]
theorem yD{a b:eC}:a.nQ b=true↔a=b:=by
 unfold eC.nQ;rw[beq_iff_eq];exact⟨eC.ext',λh=>by rw[h]⟩
theorem Hy(a b:eC):a.nQ b=decide (a=b):=by rw[dZ,yD];simp
theorem Ah:∀(a:List UInt8),Op.bytesLess a a=false
 | []=>rfl
 |a::l=>by
  unfold Op.bytesLess;rw[Ah l];simp
theorem Bq:∀{a b c:List UInt8},Op.bytesLess a b=true->Op.bytesLess b c=true->Op.bytesLess a c=true
 | [],[],_,h,_=>by simp[Op.bytesLess]at h
 | [],_::_,[],_,h=>by simp[Op.bytesLess]at h
 | [],_::_,_::_,_,_=>rfl
 |_::_,[],_,h,_=>by simp[Op.bytesLess]at h
 |_::_,_::_,[],_,h=>by simp[Op.bytesLess]at h
 |a::l,b::m,c::n,h1,h2=>by
  unfold Op.bytesLess at h1 h2 ⊢;simp only[dM,bT,bF,beq_iff_eq]at h1 h2 ⊢
  rcases h1 with h1|⟨rfl,h1⟩
  ·rcases h2 with h2|⟨rfl,h2⟩
   ·exact .inl<|UInt8.lt_trans h1 h2
   ·exact .inl h1
  ·rcases h2 with h2|⟨rfl,h2⟩
   ·exact .inl h2
   ·exact .inr ⟨rfl,Bq h1 h2⟩
theorem Bs:∀(a b:List UInt8),Op.bytesLess a b=true\/a=b\/Op.bytesLess b a=true
 | [],[]=> .inr (.inl rfl)
 | [],_::_=> .inl rfl
 |_::_,[]=> .inr (.inr rfl)
 |a::l,b::m=>by
  unfold Op.bytesLess;simp only[dM,bT,bF,beq_iff_eq]
  by_cases h1:a<b
  ·exact .inl<|.inl h1
  ·by_cases h2:b<a
   ·exact .inr<|.inr<|.inl h2
   ·have e:a=b:=by
     simp only[UInt8.lt_iff_toNat_lt]at h1 h2;exact UInt8.toNat_inj.1 (by omega)
    subst e
    rcases Bs l m with h|h|h
    ·exact .inl<|.inr ⟨rfl,h⟩
    ·exact .inr<|.inl (by rw[h])
    ·exact .inr<|.inr<|.inr ⟨rfl,h⟩
theorem xN:∀(a b:List UInt8),Lib.compareBytes a b<0↔Op.bytesLess a b=true
 | [],[]=>by simp[Lib.compareBytes,Op.bytesLess]
 | [],_::_=>by simp[Lib.compareBytes,Op.bytesLess]
 |_::_,[]=>by simp[Lib.compareBytes,Op.bytesLess]
 |a::l,b::m=>by
  unfold Lib.compareBytes Op.bytesLess;simp only[dM,bT,bF,beq_iff_eq];split
  ·simp_all
  ·rename_i h1;split
   ·rename_i h2;have h3:a≠b:=λe=>by subst e;exact h1 h2
    simp[h1,h3]
   ·rename_i h2;have e:a=b:=by
     simp only[UInt8.lt_iff_toNat_lt]at h1 h2;exact UInt8.toNat_inj.1 (by omega)
    subst e;rw[xN l m];simp[h1]
theorem xO:∀(a b:List UInt8),Lib.compareBytes a b=0↔a=b
 | [],[]=>by simp[Lib.compareBytes]
 | [],_::_=>by simp[Lib.compareBytes]
 |_::_,[]=>by simp[Lib.compareBytes]
 |a::l,b::m=>by
  unfold Lib.compareBytes;split
  ·rename_i h1;have h3:a≠b:=λe=>by subst e;exact absurd h1 (by simp)
   simp[h3]
  ·rename_i h1;split
   ·rename_i h2;have h3:a≠b:=λe=>by subst e;exact h1 h2
    simp[h3]
   ·rename_i h2;have e:a=b:=by
     simp only[UInt8.lt_iff_toNat_lt]at h1 h2;exact UInt8.toNat_inj.1 (by omega)
    subst e;rw[xO l m];simp
def eC.lt(a b:eC):Prop:=a.mL b=true
theorem eC.lt_irrefl(a:eC):¬eC.lt a a:=by unfold eC.lt eC.mL;rw[Ah];decide
theorem eC.lt_trans{a b c:eC}(h1:eC.lt a b)(h2:eC.lt b c):eC.lt a c:=Bq h1 h2
theorem eC.Fu(a b:eC):eC.lt a b\/a=b\/eC.lt b a:=by
 rcases Bs a.cW b.cW with h|h|h
 ·exact .inl h
 ·exact .inr<|.inl<|eC.ext' h
 ·exact .inr<|.inr h
theorem eC.L6{a b:eC}(h:eC.lt a b):a≠b:=λe=>by subst e;exact eC.lt_irrefl a h
end Go.Gk
namespace Go.Gk
open Go IntKind
class Bk (α:Type)where
 bk:α->Nat
 pos:∀x,1<=bk x
def bk{α:Type}[Bk α](x:α):Nat:=Bk.bk x
theorem JK{α:Type}[Bk α](x:α):1<=bk x:=Bk.pos x
instance:Bk eC:=⟨λs=>s.cW.length+1,λ_=>by omega⟩
instance:Bk Int:=⟨λ_=>1,λ_=>by omega⟩
instance:Bk Bool:=⟨λ_=>1,λ_=>by omega⟩
instance {α:Type} [Bk α]:Bk (List α):=⟨λl=>(l.map bk).sum+1,λ_=>by omega⟩
theorem JL{α:Type}[Bk α]:bk ([]:List α)=1:=rfl
theorem D0{α:Type}[Bk α](x:α)(l:List α):bk (x::l)=bk x+bk l:=by
 show(List.map bk<|x::l).sum+1=bk x+((List.map bk l).sum+1);simp;omega
theorem GG{α:Type}[Bk α]:∀{l:List α}{x:α},x∈l->bk x+1<=bk l
 |y::l,x,h=>by
  rw[D0]
  rcases dE.1 h with h|h
  ·subst h;have:=JK l;omega
  ·have:=GG h;omega
theorem vD{α:Type}[Bk α]:∀(l:List α),l.length+1<=bk l
 | []=>by rw[JL];simp
 |x::l=>by rw[D0,fR];have:=vD l;have:=JK x;omega
theorem JM(s:eC):bk s=s.cW.length+1:=rfl
section
variable {α R:Type}
theorem Il{l:List α}{e:Nat->Option R}(f:α->Option R)(h:∀k x,l[k]? =some x->e k=f x):qc l.length e=l.findSome? f:=by
 cases hx:qc l.length e with
 |none=>
  refine(List.findSome?_eq_none_iff.2 λx hm=>?_).symm;obtain⟨k,hk⟩:=eO hm;rw[<-h k x hk];exact kb.1 hx k (bA.1 hk).1
 |some r=>
  obtain⟨k,hk,he,hn⟩:=kc.1 hx;refine(List.findSome?_eq_some_iff.2 ⟨l.take k,l[k],l.drop<|k+1,?_,?_,λy hy=>?_⟩).symm
  ·rw[<-sF hk,List.take_append_drop]
  ·rw[<-h k l[k] (aP hk)];exact he
  ·obtain⟨j,hj⟩:=eO hy;have hjk:j<k:=by have:=(bA.1 hj).1;rw[cQ]at this;omega
   rw[List.getElem?_take_of_lt hjk]at hj;rw[<-h j y hj];exact hn j hjk
theorem D1(l:List α)(p:α->Bool)(r:R):l.findSome? (λx=>if p x=true then some r else none)=if l.any p=true then some r else none:=by
 induction l with
 |nil=>simp
 |cons x l ih=>
  rw[List.findSome?_cons,List.any_cons]
  cases h:p x <;> simp[ih]
theorem yE{l:List α}{body:Nat->Unit->Option (Fl Unit R)}(f:α->Option R)(hl:l.length<=4611686018427387904)
  (h:∀k x,l[k]? =some x->body k ()=some (Ik (f x) ())):si l.length body ()=some (DZ (l.findSome? f) ()):=by
 have h2:=rO (body:=body) (m:=l.length) (λk=>(l[k]?).bind f) hl (λk hk _=>by
  rw[h k l[k] (aP hk),aP hk];rfl)
 rw[h2,Il f (λk x hx=>by rw[hx];rfl)]
theorem K4{l:List α}{body:Nat->Unit->Option (Fl Unit R)}(p:α->Bool)(r:R)(hl:l.length<=4611686018427387904)
  (h:∀k x,l[k]? =some x->body k ()=some (if p x=true then .rt r else .nx ())):si l.length body ()=some (if l.any p=true then .rt r else .go ()):=by
 rw[yE (λx=>if p x=true then some r else none) hl (λk x hx=>by rw[h k x hx];cases p x <;> rfl),D1]
 cases l.any p <;> rfl
end
theorem K5{β:Type}(b:Bool)(x y:β):(bif b then some x else some y)=some (bif b then x else y):=by cases b <;> rfl
section
variable {α β:Type}
def Im(l:List α)(p:α->Bool):Int:=match l.findIdx? p with|some k=>((k:Nat):Int)|none=> -1
theorem Fv{l:List α}{p:α->Bool}(h:l.any p=false):Im l p = -1:=by
 unfold Im;rw[List.findIdx?_eq_none_iff.2];intro x hx;rw[<-ld];intro hp;rw[<-ld]at h;exact h<|jY.2 ⟨x,hx,hp⟩
theorem Fw{l:List α}{p:α->Bool}{k:Nat}{x:α}(hk:l[k]? =some x)(hp:p x=true)(hn:∀j y,j<k->l[j]? =some y->p y=false):Im l p=((k:Nat):Int):=by
 unfold Im;have hlt:=(bA.1 hk).1;have:l.findIdx? p=some k:=by
  rw[List.findIdx?_eq_some_iff_getElem];refine⟨hlt,?_,λj hj=>?_⟩
  ·have:=aP hlt;rw[hk]at this;injection this with this;rw[<-this];exact hp
  ·have:=hn j l[j] hj<|aP (by omega);simpa using this
 rw[this]
theorem wC(l:List α)(p:α->Bool):(Im l p = -1/\∀x∈l,p x=false)\/∃k x,Im l p=((k:Nat):Int)/\l[k]? =some x/\p x=true/\∀j y,j<k->l[j]? =some y->p y=false:=by
 unfold Im
 cases h:l.findIdx? p with
 |none=>exact .inl ⟨rfl,λx hx=>by have:=List.findIdx?_eq_none_iff.1 h x hx;simpa using this⟩
 |some k=>
  obtain⟨hk,hp,hn⟩:=List.findIdx?_eq_some_iff_getElem.1 h;refine .inr ⟨k,l[k],rfl,aP hk,hp,λj y hj hy=>?_⟩;have:=hn j hj;rw[aP (by omega)]at hy;injection hy with hy
  subst hy;simpa using this
theorem MS(l:List α)(p:α->Bool):decide (Im l p>=0)=l.any p:=by
 rcases wC l p with⟨h,hn⟩|⟨k,x,h,hx,hp,_⟩
 ·rw[h,List.any_eq_false.2 (λx hx=>by rw[hn x hx];decide)];decide
 ·rw[h,jY.2 ⟨x,gq hx,hp⟩];simp
def uv(p0:List α)(p1:α->Option Bool):Option Int:=
 (si p0.length (λ(k1:Nat)(_:Unit)=>((idx p0 ((k1:Nat):Int)).bind λx7=>(p1 x7).bind λx10=>bif x10 then some (.rt ((k1:Nat):Int))else(some<|.nx ()):Option (Fl Unit Int))) ()).bind λo11=>o11.cs (λ(_:Unit)=>some<|-1)<|λr=>some r
theorem xm{l:List α}{φ:α->Option Bool}(p:α->Bool)(hl:l.length<=4611686018427387904)(h:∀x∈l,φ x=some (p x)):uv l φ=some (Im l p):=by
 unfold uv
 rw[rO (λk=>(l[k]?).bind λx=>if p x=true then some ((k:Nat):Int)else none) hl (λk hk _=>by
  rw[lj l k hk,aB,h _<|cU hk,aB,aP hk]
  cases hp:p l[k] <;> simp[Ik,hp]),aB]
 rcases wC l p with⟨h1,h2⟩|⟨k,x,h1,h2,h3,h4⟩
 ·rw[kb.2 (λk hk=>by rw[aP hk];simp[h2 _<|cU hk])];simp[DZ,Fo.cs,h1]
 ·rw[(kc (r:=((k:Nat):Int))).2 ⟨k,(bA.1 h2).1,by rw[h2];simp[h3],λj hj=>by
   cases hy:l[j]? with
   |none=>rfl
   |some y=>simp[h4 j y hj hy]⟩]
  simp[DZ,Fo.cs,h1]
def sX(p0:List α)(p1:α->Option Bool):Option Bool:=
 (uv p0 p1).bind λx1=>some<|decide<|x1>=0
theorem tz{l:List α}{φ:α->Option Bool}(p:α->Bool)(hl:l.length<=4611686018427387904)(h:∀x∈l,φ x=some (p x)):sX l φ=some (l.any p):=by
 unfold sX;rw[xm p hl h,aB,MS]
def GH [DecidableEq α](p0 p1:List α):Option Bool:=
 bif((p0.length:Nat):Int) != ((p1.length:Nat):Int)then some false else((si p0.length (λ(k1:Nat)(_:Unit)=>((idx p0 ((k1:Nat):Int)).bind λx13=>(idx p1 ((k1:Nat):Int)).bind λx16=>bif(!(decide<|x13=x16))then some (.rt false)else(some<|.nx ()):Option (Fl Unit Bool))) ()).bind λo23=>o23.cs (λ(_:Unit)=>some true)<|λr=>some r)
theorem C5 [DecidableEq α]{l m:List α}(hl:l.length<=4611686018427387904):GH l m=some (decide<|l=m):=by
 unfold GH
 by_cases h:l.length=m.length
 ·have e:(((l.length:Nat):Int) != ((m.length:Nat):Int))=false:=by rw[h];simp
  rw[e,aQ]
  rw[rO (λk=>if l[k]? =m[k]? then none else some false) hl (λk hk _=>by
   rw[lj l k hk,aB,lj m k (by omega),aB,aP hk,aP (by omega:k<m.length)]
   by_cases hx:l[k]=m[k] <;> simp[Ik,hx]),aB]
  by_cases hx:l=m
  ·subst hx;rw[kb.2<|λk _=>aC rfl];simp[DZ,Fo.cs]
  ·have:∃r,qc l.length (λk=>if l[k]? =m[k]? then none else some false)=some r:=by
    cases hf:qc l.length (λk=>if l[k]? =m[k]? then none else some false)with
    |some r=>exact⟨r,rfl⟩
    |none=>
     exfalso;refine hx<|List.ext_getElem? λi=>?_
     by_cases hi:i<l.length
     ·have:=kb.1 hf i hi
      by_cases h6:l[i]? =m[i]?
      ·exact h6
      ·rw[aD h6]at this;cases this
     ·rw[List.getElem?_eq_none (by omega),List.getElem?_eq_none (by omega)]
   obtain⟨r,hr⟩:=this;have hr2:r=false:=by
    obtain⟨k,_,hk,_⟩:=kc.1 hr;split at hk
    ·cases hk
    ·injection hk with hk;exact hk.symm
   rw[hr,hr2];simp[DZ,Fo.cs,hx]
 ·have e:(((l.length:Nat):Int) != ((m.length:Nat):Int))=true:=by simp;omega
  rw[e,aO,bO<|λh'=>h (by rw[h'])]
def Sorted(key:α->eC)(l:List α):Prop:=∀(i j:Nat)(x y:α),i<j->l[i]? =some x->l[j]? =some y->eC.lt (key x) (key y)
theorem Sorted.inj{key:α->eC}{l:List α}(h:Sorted key l){i j:Nat}{x y:α}(hx:l[i]? =some x)(hy:l[j]? =some y)(e:key x=key y):i=j:=by
 rcases Nat.lt_trichotomy i j with h1|h1|h1
 ·exact absurd e<|eC.L6<|h i j x y h1 hx hy
 ·exact h1
 ·exact absurd e.symm<|eC.L6<|h j i y x h1 hy hx
def JN(N:Nat)(p0:List α)(p1:β)(p2:α->β->Option Int):Option (Int×Bool):=
 (j6 (λ(s2:Int×Int)=>(bif decide (s2.1<s2.2)then((idx p0<|wrap .i64<|Int.fdiv (wrap .u64<|wrap .i64<|s2.1+s2.2) 2).bind λx13=>(p2 x13 p1).bind λx16=>(bif decide (x16<0)then some (wrap .i64<|wrap .i64 (Int.fdiv (wrap .u64<|wrap .i64<|s2.1+s2.2) 2)+1,s2.2)else some (s2.1,wrap .i64<|Int.fdiv (wrap .u64<|wrap .i64<|s2.1+s2.2) 2)).bind λs17=>some<|.nx (s17.1,s17.2))else(some<|.br (s2.1,s2.2)):Option (Fl (Int×Int) Empty))) N (0,((p0.length:Nat):Int))).bind λo29=>o29.cs (λ(s2:Int×Int)=>(bif decide (s2.1<((p0.length:Nat):Int))then((idx p0 s2.1).bind λx25=>(p2 x25 p1).bind λx28=>some<|x28==0)else some false).bind λs23=>some (s2.1,s23))<|λr=>r.elim
theorem Io{a b:Nat}(h:a<b)(hb:b<=4611686018427387904):wrap .i64 (Int.fdiv (wrap .u64<|wrap .i64<|((a:Nat):Int)+((b:Nat):Int)) 2)=(((a+b) / 2:Nat):Int):=by
 rw[eU (x:=((a:Nat):Int)+((b:Nat):Int)) (by omega) (by omega)];have e:wrap .u64 (((a:Nat):Int)+((b:Nat):Int))=((a+b:Nat):Int):=by
  show((a:Int)+b) % 18446744073709551616=_;omega
 rw[e,Int.fdiv_eq_ediv_of_nonneg _ (by omega),eU (by omega) (by omega)];omega
end
end Go.Gk
namespace Go.Gk
open Go IntKind Go.ChangeShapes Go.WideShapes Go.RowKit
structure UB (ub:(H:Type)->DataW H->Nat) (ua:(H:Type)->List (DataW H)->Nat):Prop where
 str:∀(H:Type)(b:List UInt8),ub H (.lit<|.string b)=b.length+1
 pos:∀(H:Type)(d:DataW H),1<=ub H d
 sl:∀(H:Type)(e s:List (DataW H)),ub H (.slice e s)=ua H e+ua H s+1
 ag:∀(H:Type)(l:List (DataW H)),ub H (.agg l)=ua H l+1
 nil:∀(H:Type),ua H []=0
 cons:∀(H:Type)(x:DataW H)(l:List (DataW H)),ua H (x::l)=ub H x+ua H l
def Hw(w:World):eE:=λb=>w.heap[b]?
structure jv (ub:(H:Type)->DataW H->Nat) (P:Program) (T:TypeId) (α:Type) [GT α] [Bk α]:Prop where
 trod:∀{H:Type}{enc:TypeId×Value->H}{w:World}{base:Nat}{spare:Nat->Bool}{held:Bool}{fuel:Nat}{cs:List Value}{d:DataW H×List MemPlace},
  DataW.trod enc P w base spare held fuel T cs=some d->∃x:α,GT.ok (Hw w) cs x/\bk x<=ub H d.1
 ON:∀{w:World}{r:Reach}{base:Nat}{v:Value},Value.okWide P w r base T v->v=ue α v.cells.toList
section
variable {ub:(H:Type)->DataW H->Nat}{ua:(H:Type)->List (DataW H)->Nat}{P:Program}{T e:TypeId}
theorem Ip(u:UB ub ua)(ht:P.underlying T=some (.int .i64)):jv ub P T Int where
 trod:=λh=>by
  obtain⟨n,rfl,rfl,_⟩:=DataW.trod_int ht h;exact⟨n,rfl,u.pos _ _⟩
 ON:=λh=>by obtain⟨n,rfl⟩:=okWide_int ht h;rfl
theorem GI(u:UB ub ua)(ht:P.underlying T=some .bool):jv ub P T Bool where
 trod:=λh=>by
  obtain⟨n,rfl,rfl⟩:=DataW.trod_bool ht h;exact⟨n,rfl,u.pos _ _⟩
 ON:=λh=>by obtain⟨n,rfl⟩:=okWide_bool ht h;rfl
theorem Iq(u:UB ub ua)(ht:P.underlying T=some .string):jv ub P T eC where
 trod:=λh=>by
  obtain⟨s,rfl,rfl,_⟩:=DataW.trod_string ht h;refine⟨⟨s.data.toList⟩,?_,?_⟩
  ·show [Value.string s]= [Gk.str ⟨s.data.toList⟩]
   cases s;rfl
  ·rw[u.str];exact bR _
 ON:=λh=>by obtain⟨n,rfl⟩:=okWide_string ht h;rfl
theorem Ai{α:Type}{R:Nat->α->Prop}:∀(n:Nat),(∀i,i<n->∃x,R i x)->∃l:List α,l.length=n/\∀i x,l[i]? =some x->R i x
 | 0,_=>⟨[],rfl,λi x h=>by simp at h⟩
 |n+1,h=>by
  obtain⟨l,h1,h2⟩:=Ai n<|λi hi=>h i (by omega)
  obtain⟨x,hx⟩:=h n (by omega);refine⟨l++[x],by simp[h1],λi y hy=>?_⟩
  by_cases hi:i<n
  ·rw[gz (by omega)]at hy;exact h2 i y hy
  ·have:=(bA.1 hy).1;rw[dF]at this;have:i=n:=by simp at this;omega
   subst this;rw[gQ (by omega),h1]at hy;simp at hy;subst hy;exact hx
theorem C6{H α:Type}[Bk α](u:UB ub ua):∀{l:List α}{es:List (DataW H×List MemPlace)},l.length=es.length->
  (∀(i:Nat)(x:α)(y:DataW H×List MemPlace),l[i]? =some x->es[i]? =some y->bk x<=ub H y.1)->bk l<=ua H (es.map (·.1))+1
 | [],[],_,_=>by rw[JL];omega
 |x::l,y::es,hl,h=>by
  have h1:=h 0 x y rfl rfl;have h2:=C6 (H:=H) u (l:=l) (es:=es) (by simpa using hl)<|λi x y hx hy=>h (i+1) x y (by simpa using hx) (by simpa using hy)
  rw[D0,dT,u.cons];omega
theorem Fx{w:World}{base:Nat}{a:Addr}{n:Nat}{cs:List Value}(h:w.cells? base a n=some cs):At (Hw w) a cs:=by
 intro j v hv;obtain⟨_,hlen,hc⟩:=World.cells?_some h;have hj:=(bA.1 hv).1;have h2:=hc j (by omega);rw[hv]at h2;unfold yc Hw;unfold World.cell? at h2;exact h2
theorem pK{α:Type}[GT α][Bk α](u:UB ub ua)(he:jv ub P e α)(ht:P.underlying T=some (.slice e):=by kernel_rfl)(hc:P.cellsOf e=GT.sz α:=by kernel_rfl):jv ub P T (List α)where
 trod:=λ{H enc w base spare held fuel cs d}h=>by
  rcases DataW.trod_slice ht h with⟨rfl,rfl⟩|⟨a,len,cap,elems,rest,n,_,rfl,rfl,_,hlc,hcm,hlen,hel,_⟩
  ·exact⟨[],⟨_,rfl,none,0,0,rfl,rfl,bR _,by simp[maxLen],λi x hx=>by simp at hx⟩,u.pos _ _⟩
  ·have each:∀i,i<len->∃x:α,(∃c y,GT.ok (Hw w) c x/\At (Hw w) (a.add<|i*GT.sz α) c/\elems[i]? =some y/\bk x<=ub H y.1):=by
    intro i hi;have h1:=hel i hi;rw[aP (by omega:i<elems.length),Option.bind_eq_some_iff]at h1;obtain⟨c,h2,h3⟩:=h1;obtain⟨x,h4,h5⟩:=he.trod h3;refine⟨x,c,_,h4,?_,aP (by omega),h5⟩;rw[hc]at h2;exact Fx h2
   obtain⟨l,hl,hr⟩:=Ai len each;refine⟨l,⟨_,rfl,some a,len,cap,rfl,hl.symm,hlc,hcm,λi x hx=>?_⟩,?_⟩
   ·obtain⟨c,y,h1,h2,_⟩:=hr i x hx;exact⟨a,c,rfl,h1,h2⟩
   ·have:=C6 (H:=H) u (l:=l) (es:=elems) (by omega) (λi x y hx hy=>by
     obtain⟨c,y',_,_,h3,h4⟩:=hr i x hx
     rw[hy]at h3;injection h3 with h3;subst h3;exact h4)
    rw[u.sl];omega
 ON:=λh=>by obtain⟨a,n,c,rfl⟩:=okWide_slice ht h;rfl
def Hz(ub:(H:Type)->DataW H->Nat)(ua:(H:Type)->List (DataW H)->Nat)(P:Program)(off:Nat)(fs:List Field)(β:Type)[GT β](m:β->Nat):Prop:=
 ∀{H:Type}{enc:TypeId×Value->H}{w:World}{base:Nat}{spare:Nat->Bool}{held:Bool}{n:Nat}{cs:List Value}{ys:List (DataW H×List MemPlace)},
  (∀(i:Nat)(f:Field),fs[i]? =some f->DataW.trod enc P w base spare held n f.type ((cs.drop f.offset).take<|P.cellsOf f.type)=ys[i]?)->ys.length=fs.length->
  cs.length=off+GT.sz β->∃x:β,GT.ok (Hw w) (cs.drop off) x/\m x<=ua H (ys.map (·.1))
theorem oK{β:Type}[GT β][Bk β]{off:Nat}{f:Field}(u:UB ub ua)(h:jv ub P f.type β)(ho:f.offset=off:=by exact rfl)(hc:P.cellsOf f.type=GT.sz β:=by kernel_rfl):Hz ub ua P off [f] β bk:=by
 intro H enc w base spare held n cs ys hf hl hcs
 match ys,hl with
 | [y],_=>
  have h1:=hf 0 f rfl;rw[ho,hc,mE (by rw[iN];omega)]at h1;obtain⟨x,h2,h3⟩:=h.trod (d:=y) h1;exact⟨x,h2,by rw[dT,u.cons];omega⟩
theorem fI{α β:Type}[GT α][GT β][Bk α]{off off':Nat}{f:Field}{fs:List Field}{m:β->Nat}(u:UB ub ua)(h:jv ub P f.type α)(hr:Hz ub ua P off' fs β m)(ho:f.offset=off:=by exact rfl)(hc:P.cellsOf f.type=GT.sz α:=by kernel_rfl)(hoff:off'=off+GT.sz α:=by exact rfl):Hz ub ua P off (f::fs) (α×β) (λx=>bk x.1+m x.2):=by
 intro H enc w base spare held n cs ys hf hl hcs;have hsz:GT.sz (α×β)=GT.sz α+GT.sz β:=rfl
 match ys,hl with
 |y::ys,hl=>
  have h1:=hf 0 f rfl;rw[ho,hc]at h1;obtain⟨x,h2,h3⟩:=h.trod (d:=y) h1;obtain⟨x',h4,h5⟩:=hr (n:=n) (cs:=cs) (ys:=ys) (λi g hg=>hf (i+1) g hg) (by simpa using hl) (by omega);refine⟨(x,x'),⟨_,_,?_,h2,h4⟩,?_⟩
  ·rw[hoff,<-List.drop_drop,List.take_append_drop]
  ·rw[dT,u.cons];show bk x+m x'<=_;omega
theorem kS{γ β:Type}[GT β][Bk γ]{fs:Array Field}{m:β->Nat}(u:UB ub ua)(f:γ->β)(g:β->γ)(hfg:∀b,f (g b)=b)(ht:P.underlying T=some (.struct fs))(h:Hz ub ua P 0 fs.toList β m)(hm:∀b,bk (g b)<=m b+1)(hc:P.cellsOf T=GT.sz β:=by kernel_rfl): @jv ub P T γ (GT.via f) _:=
 @jv.mk ub P T γ (GT.via f) _
  (λ{H enc w base spare held fuel cs d}hd=>by
   obtain⟨xs,n,_,rfl,hl,hlen,hf⟩:=DataW.trod_struct ht hd;obtain⟨b,h1,h2⟩:=h (n:=n) (cs:=cs) (ys:=xs) (λi g hg=>hf i g (by rw[<-Array.getElem?_toList];exact hg)) (by rw[hlen];simp) (by omega);refine⟨g b,?_,?_⟩
   ·show GT.ok (Hw w) cs (f<|g b);rw[hfg];exact h1
   ·rw[u.ag];have:=hm b;omega)
  (λhv=>by
   obtain⟨cs,rfl,_⟩:=okWide_struct ht hv
   cases cs;rfl)
theorem jv.arg{H:Type}{enc:TypeId×Value->H}{w:World}{base:Nat}{spare:Nat->Bool}{held:Bool}{r:Reach}{b0:Nat}{v:Value}{d:DataW H}{ps:List MemPlace}{α:Type}[GT α][Bk α](o:jv ub P T α)
  (hv:Value.okWide P w r b0 T v) (hd:DataW.Trod enc P w base spare held T v d ps):∃x:α,xw (Hw w) v x/\bk x<=ub H d:=by
 obtain⟨fuel,hf⟩:=hd;obtain⟨x,h1,h2⟩:=o.trod hf;exact⟨x,⟨_,o.ON hv,h1⟩,h2⟩
theorem jv.OO{H:Type}{enc:TypeId×Value->H}{w:World}{base:Nat}{spare:Nat->Bool}{held:Bool}{r:Reach}{b0:Nat}{v:Value}{d:DataW H}{ps:List MemPlace}{α:Type}[Sc α][Bk α](o:jv ub P T α)
  (hv:Value.okWide P w r b0 T v) (hd:DataW.Trod enc P w base spare held T v d ps):∃x:α,v=Sc.toV x/\bk x<=ub H d:=by
 obtain⟨x,h1,h2⟩:=o.arg hv hd;exact⟨x,Dv.1 h1,h2⟩
end
theorem Calls.fin{P:Program}{f:FuncId}{args:Array Value}{w:World}{R Q:Value->World->Prop}(h:Calls P f args w (fY R))(k:∀v w',R v w'->Q v w'):
  Calls P f args w (λe W'=>∃v,e = .returned v/\Q v W'):=Calls.mono h λ_ w'⟨v,e,hr⟩=>⟨v,e,k v w' hr⟩
def gO(W:World):HP:=⟨λM h=>hle (Hw W) M/\h=qQ,λk⟨a,b⟩=>⟨HY a k,b⟩⟩
theorem Holds.begin(W:World):Holds W W [gO W]:=by
 refine⟨Hw W,λ_=>qQ,⟨rfl,rfl,rfl,bR _,λb o h=>h,λi Pr hq=>?_,λ_ _ _ _ h=>(by cases h),λ_ _ _ _ h=>(by cases h),λ_ _ _ _ _ _ _ h=>(by cases h)⟩⟩
 match i,hq with
 | 0,hq=>simp at hq;subst hq;exact⟨IY _,rfl⟩
theorem Holds.JO{α:Type}[GT α]{W:World}{V:List HP}{v:Value}{x:α}(h:Holds W W (V++[gO W]))(hv:Gk.xw (Hw W) v x):Holds W W (rd v x::(V++[gO W])):=
 h.Co λM hs g=>by
  have h1:=(g.sat V.length (gO W) (by simp)).1;exact⟨hv.mono h1,rfl⟩
theorem Holds.kept{E W w:World}{V:List HP}(h:Holds E w (V++[gO W]))(he:E=W):Below W.heap.size W w:=by
 subst he;obtain⟨M,hs,g⟩:=h;have h1:=(g.sat V.length (gO E) (by simp)).1;have h2:∀k o,E.heap[k]? =some o->w.heap[k]? =some o:=λk o ho=>g.im k o<|h1 k o ho
 refine⟨g.os,g.tape,g.out,?_,λk hk=>?_⟩
 ·by_cases h0:E.heap.size=0
  ·omega
  ·have h3:=h2 (E.heap.size - 1) _<|g8 (by omega)
   have:=(Array.getElem?_eq_some_iff.1 h3).1;omega
 ·rw[g8 hk];exact h2 k _<|g8 hk
section
variable {H:Type}{enc:TypeId×Value->H}{P:Program}
theorem Ir{f:Func}{s:ChangeSpec}{apart fresh handsOn again:Bool}{W W':World}{args:Array Value}{v:Value}{ds gs:List (DataW H)}{before pa pv:List MemPlace}
  (hW:DataW.Whole enc P f.params.toList s.vars apart W args.toList ds gs before)
  (hres:∀(b:Nat)(sp:Nat->Bool)(hd:Bool),DataW.TrodAll enc P W' b sp hd f.resultTypes.toList (v.resultList f.resultTypes.size) (s.fn H<|ds++gs).results [])
  (hargs:∀sp:Nat->Bool,(∀p∈before,sp p.block=true)->DataW.TrodAll enc P W' 0 sp true f.params.toList args.toList (s.fn H<|ds++gs).args pa)
  (hvars:∀sp:Nat->Bool,(∀p∈before,sp p.block=true)->DataW.TrodVars enc P W' sp s.vars (s.fn H<|ds++gs).vars pv)
  (hps:before=pa++pv) (hb:Below W.heap.size W W')
  (hok:∀(j:Nat)(t:TypeId)(r:Value),f.resultTypes[j]? =some t->(v.resultList f.resultTypes.size)[j]? =some r->Value.okWide P W' .any 0 t r):
  s.post enc P f apart fresh handsOn again W args v W':=by
 have hlt:∀p∈before,p.block<W.heap.size:=λp hp=>hW.lt p hp;have hold:∀p∈before,(λb=>decide<|b<W.heap.size) p.block=true:=λp hp=>by simpa using hlt p hp
 refine⟨ds,gs,before,[],pa,pv,hW,hres _ _ _,hargs _ hold,hvars _ hold,World.keptBut_mono (λp hp=>⟨hp,?_⟩)<|hb.frame (· ∈before),λ_=>?_⟩
 ·rw[hps,dH]at hp;exact Or.inr hp
 ·obtain⟨_,_,_,_,_,hz,hn⟩:=hW;refine⟨hok,_,_,([]++pa)++pv,⟨[]++pa,pv,trodAll_append (hargs _<|λ_ _=>rfl)<|hres _ _ _,hvars _<|λ_ _=>rfl,rfl,?_,?_⟩,?_⟩
  ·intro b off hp;have hin:MemPlace.cell b off∈before:=by rw[hps];simpa using hp
   rw[hb.frozen<|hlt _ hin];exact hz b off hin
  ·intro ha;have:=hn ha;rw[hps]at this;simpa using this
  ·intro p hp _;rw[hps];simpa using hp
theorem xn{W W':World}(hl:laidOutB P=true)(hb:Below W.heap.size W W'){sp:Nat->Bool}:∀{ts:List TypeId}{vs:List Value}{ds:List (DataW H)}{ps:List MemPlace},
  (∀t∈ts,P.readableRec t=true/\t<P.types.size)->DataW.TrodAll enc P W 0 (λ_=>true) true ts vs ds ps->(∀p∈ps,p.block<W.heap.size)->(∀p∈ps,sp p.block=true)->DataW.TrodAll enc P W' 0 sp true ts vs ds ps
 | [],_,_,_,_,h,_,_=>by
  obtain⟨rfl,rfl,rfl⟩:=trodAll_nil h;rfl
 |t::ts,_,_,_,ht,h,hlt,hsp=>by
  obtain⟨v,vs,d,ds,p,q,rfl,rfl,rfl,h1,h2⟩:=trodAll_cons h;refine⟨p,q,?_,xn hl hb (λt h=>ht t (by simp[h])) h2 (λx hx=>hlt x (by simp[hx]))<|λx hx=>hsp x (by simp[hx]),rfl⟩;exact WideElems.Trod_stays hl (ht t (by simp)).1 (ht t (by simp)).2 h1 (λx hx=>hb.same<|hlt x (by simp[hx]))<|λx hx=>hsp x (by simp[hx])
end
end Go.Gk
namespace Go.Gk
open Go IntKind
instance:Bk aH:=⟨λx=>bk x.X0+bk x.Y0+bk x.X1+bk x.Y1+1,λ_=>by omega⟩
theorem K6(x:aH):bk x=bk x.X0+bk x.Y0+bk x.X1+bk x.Y1+1:=rfl
instance:Bk cK:=⟨λx=>bk x.X+bk x.Y+1,λ_=>by omega⟩
theorem JP(x:cK):bk x=bk x.X+bk x.Y+1:=rfl
instance:Bk cJ:=⟨λx=>bk x.At+bk x.dJ+bk x.cL+bk x.To+bk x.jH+1,λ_=>by omega⟩
theorem K7(x:cJ):bk x=bk x.At+bk x.dJ+bk x.cL+bk x.To+bk x.jH+1:=rfl
instance:Bk dN:=⟨λx=>bk x.Part+bk x.eA+bk x.fT+bk x.At+1,λ_=>by omega⟩
theorem HA(x:dN):bk x=bk x.Part+bk x.eA+bk x.fT+bk x.At+1:=rfl
instance:Bk gm:=⟨λx=>bk x.aJ+bk x.cT+bk x.aU+bk x.bJ+1,λ_=>by omega⟩
theorem JQ(x:gm):bk x=bk x.aJ+bk x.cT+bk x.aU+bk x.bJ+1:=rfl
instance:Bk eA:=⟨λx=>bk x.Part+bk x.eA+1,λ_=>by omega⟩
theorem MT(x:eA):bk x=bk x.Part+bk x.eA+1:=rfl
instance:Bk Test:=⟨λx=>bk x.A+bk x.B+bk x.Joined+1,λ_=>by omega⟩
theorem K8(x:Test):bk x=bk x.A+bk x.B+bk x.Joined+1:=rfl
instance:Bk Touch:=⟨λx=>bk x.Test+bk x.o4+bk x.tp+1,λ_=>by omega⟩
theorem JR(x:Touch):bk x=bk x.Test+bk x.o4+bk x.tp+1:=rfl
instance:Bk aA:=⟨λx=>bk x.Y0+bk x.Y1+bk x.Xs+1,λ_=>by omega⟩
instance:Bk aL:=⟨λx=>bk x.fT+bk x.Set+bk x.qE+1,λ_=>by omega⟩
instance:Bk dD:=⟨λx=>bk x.qm+bk x.aU+bk x.kB+1,λ_=>by omega⟩
instance:Bk gC:=⟨λx=>bk x.cJ+bk x.Number+1,λ_=>by omega⟩
instance:Bk cE:=⟨λx=>bk x.e0+bk x.e1+1,λ_=>by omega⟩
instance:Bk aG:=⟨λx=>bk x.from_+bk x.to+1,λ_=>by omega⟩
instance:Bk aK:=⟨λx=>bk x.from_+bk x.to+bk x.iX+1,λ_=>by omega⟩
instance:Bk aT:=⟨λx=>bk x.AD+bk x.tq+bk x.speed+bk x.Ae+1,λ_=>by omega⟩
instance:Bk mM:=⟨λx=>bk x.Open+bk x.gC+bk x.A+bk x.B+1,λ_=>by omega⟩
end Go.Gk
namespace Go.Gk
open Go IntKind Go.Sort
section
variable {α:Type}
theorem Aj{β:Type}(a:Array β){n:Nat}(h:a.size=n):a.extract 0 n=a:=by subst h;exact Array.extract_size
theorem MU{φ:α->α->Option Int}{l:List α}(cf:α->α->Int)(hφ:∀x∈l,∀y∈l,φ x y=some (cf x y))(h1:∀x∈l,¬cf x x<0)
  (h2:∀x∈l,∀y∈l,∀z∈l,cf x y<0->cf y z<0->cf x z<0) (h3:∀x∈l,∀y∈l,∀z∈l,¬cf x y<0->¬cf y z<0->¬cf x z<0):SWO (Kt<|EY φ l):=by
 have hm:∀i:Fin l.length,l[i]∈l:=λi=>cU i.isLt;have e:∀i j:Fin l.length,EY φ l i j=cf l[i] l[j]:=λi j=>by unfold EY;rw[hφ _ (hm i) _<|hm j];rfl
 refine⟨λx=>?_,λx y z=>?_,λx y z=>?_⟩
 ·simp only[Kt,e,decide_eq_false_iff_not];exact h1 _<|hm _
 ·simp only[Kt,e,decide_eq_true_iff];exact h2 _ (hm _) _ (hm _) _<|hm _
 ·simp only[Kt,e,decide_eq_false_iff_not];exact h3 _ (hm _) _ (hm _) _<|hm _
theorem Bw{φ:α->α->Option Int}{l:List α}(cf:α->α->Int)(hφ:∀x∈l,∀y∈l,φ x y=some (cf x y))(h1:∀x∈l,¬cf x x<0)
  (h2:∀x∈l,∀y∈l,∀z∈l,cf x y<0->cf y z<0->cf x z<0) (h3:∀x∈l,∀y∈l,∀z∈l,¬cf x y<0->¬cf y z<0->¬cf x z<0) (hl:l.length<4611686018427387904):
  ∃m,ym φ l=some m/\m.Perm l/\m.Pairwise (λx y=>¬cf y x<0):=by
 have hO:=MU cf hφ h1 h2 h3;have hm:∀i:Fin l.length,l[i]∈l:=λi=>cU i.isLt;have hc:(∀i j:Fin l.length,∃c,φ l[i] l[j]=some c):=λi j=>⟨_,hφ _ (hm i) _<|hm j⟩;refine⟨Hl φ l,by unfold ym;rw[aC ⟨⟨hc,hO⟩,hl⟩],?_⟩;unfold Hl
 by_cases hn:0<l.length
 ·rw[dif_pos hn]
  letI inh:Inhabited (Fin l.length):=⟨⟨0,hn⟩⟩
  have hds:(Array.ofFn λi:Fin l.length=>i).size=l.length:=by simp
  obtain⟨hp,hs⟩:=pdq_sorts (Kt<|EY φ l) hO (Array.ofFn λi:Fin l.length=>i) 0 l.length (Lib.bitLen l.length) true true (eZ _) (by rw[hds];exact bR _)<|Or.inl rfl
  show(List.map (λi=>l[i]) (pdq (Kt<|EY φ l) (Array.ofFn λi:Fin l.length=>i) 0 l.length (Lib.bitLen l.length) true true).toList).Perm l/\_;generalize pdq (Kt<|EY φ l) (Array.ofFn λi:Fin l.length=>i) 0 l.length (Lib.bitLen l.length) true true=d' at hp hs;obtain⟨hz,_,hpm⟩:=hp;have hz':d'.size=l.length:=hz.trans hds;rw[Aj d' hz',Aj _ hds]at hpm;have hof:(Array.ofFn λi:Fin l.length=>i).toList.map (λi=>l[i])=l:=by
   rw[Array.toList_ofFn,List.map_ofFn];exact List.ofFn_getElem
  refine⟨(hpm.map<|λi=>l[i]).trans<|List.Perm.of_eq hof,?_⟩;rw[List.pairwise_map,mF];intro i j hi hj hij;rw[Array.length_toList]at hi hj;have:=hs i j (eZ _) hij (by rw[<-hz'];exact hj);rw[getElem!_pos d' i hi,getElem!_pos d' j hj]at this;have hij2:=hφ _ (hm<|d'[j]) _<|hm<|d'[i]
  have hij3:EY φ l d'[j] d'[i]=cf l[d'[j]] l[d'[i]]:=by unfold EY;rw[hij2];rfl
  unfold Kt at this;rw[decide_eq_false_iff_not,hij3]at this;exact this
 ·rw[dif_neg hn];have:l= []:=List.length_eq_zero_iff.1 (by omega);subst this;exact⟨List.Perm.refl _,jX⟩
theorem C7{φ:α->α->Option Int}{x:α}(h:φ x x=some 0):ym φ [x]=some [x]:=by
 obtain⟨m,h1,h2,_⟩:=Bw (φ:=φ) (l:=[x]) (λ_ _=>0) (λa ha b hb=>by simp at ha hb;rw[ha,hb];exact h) (λ_ _=>by decide) (λ_ _ _ _ _ _ h=>by simp at h) (λ_ _ _ _ _ _ _ _=>by decide) (by simp);rw[h1,List.perm_singleton.1 h2]
theorem CF{l:List Int}(h:l.Pairwise (λx y=>x<=y))(hl:l.length<4611686018427387904):vn l=some l:=by
 unfold vn;rw[aC hl,List.mergeSort_of_pairwise (by simpa using h)]
end
end Go.Gk
namespace Go.Gk
open Go IntKind
def th(l:List Int)(x:Int):Nat:=l.countP<|λa=>decide<|a<=x
def pw(l:List Int)(x:Int):Bool:=th l x % 2==1
def jT(l:List Int):Prop:=l.Pairwise (· < ·)
theorem D5(x:Int):th [] x=0:=rfl
theorem n7(a:Int)(l:List Int)(x:Int):th (a::l) x=(if a<=x then 1 else 0)+th l x:=by
 unfold th;rw[List.countP_cons]
 by_cases h:a<=x <;> simp[h];omega
theorem Bx(l m:List Int)(x:Int):th (l++m) x=th l x+th m x:=List.countP_append
theorem HD{l:List Int}{x:Int}(h:∀a∈l,a<=x):th l x=l.length:=by
 unfold th;rw[List.countP_eq_length];intro a ha;simpa using h a ha
theorem Bz{l:List Int}{x:Int}(h:∀a∈l,x<a):th l x=0:=by
 unfold th;rw[List.countP_eq_zero];intro a ha;have:=h a ha;simp;omega
theorem yQ{l:List Int}{x:Int}:pw l x=true↔th l x % 2=1:=by unfold pw;simp
theorem yR{l:List Int}{x:Int}(h:∀a∈l,x<a):pw l x=false:=by unfold pw;rw[Bz h];rfl
theorem jT.head{a:Int}{l:List Int}(h:jT (a::l)):∀b∈l,a<b:=(oc.1 h).1
theorem jT.tail{a:Int}{l:List Int}(h:jT (a::l)):jT l:=(oc.1 h).2
theorem yS{a:Int}{l:List Int}(h:jT (a::l)):pw (a::l) a=true:=by
 rw[yQ,n7,aC<|Int.le_refl _,Bz h.head]
theorem BA:∀{l m:List Int},jT l->jT m->(∀x,pw l x=pw m x)->l=m
 | [],[],_,_,_=>rfl
 | [],b::m,_,hm,h=>by have:=h b;rw[yS hm]at this;cases this
 |a::l,[],hl,_,h=>by have:=h a;rw[yS hl]at this;cases this
 |a::l,b::m,hl,hm,h=>by
  have hab:a=b:=by
   rcases Int.lt_trichotomy a b with h1|h1|h1
   ·have h2:=h a
    rw[yS hl,yR (l:=b::m) (λc hc=>by
     rcases dE.1 hc with rfl|hc
     ·exact h1
     ·have:=hm.head c hc;omega)]at h2
    cases h2
   ·exact h1
   ·have h2:=h b
    rw[yS hm,yR (l:=a::l) (λc hc=>by
     rcases dE.1 hc with rfl|hc
     ·exact h1
     ·have:=hl.head c hc;omega)]at h2
    cases h2
  subst hab;rw[BA hl.tail hm.tail<|λx=>?_]
  by_cases hx:a<=x
  ·have h2:=h x;unfold pw at h2 ⊢;rw[n7,n7,aC hx]at h2;rw[dZ]at h2 ⊢;simp only[beq_iff_eq]at h2 ⊢;omega
  ·rw[yR (λc hc=>by have:=hl.head c hc;omega),yR (λc hc=>by have:=hm.head c hc;omega)]
theorem yT{l:List Int}{a b:Int}(hl:∀c∈l,c<a)(he:l.length % 2=0)(hab:a<b)(x:Int):pw (l++[a,b]) x=(pw l x||(decide (a<=x)&&decide (x<b))):=by
 rw[dZ,dM,bT,bF,bF,yQ,yQ,Bx,n7,n7,D5]
 by_cases h1:a<=x
 ·have h2:th l x=l.length:=HD λc hc=>by have:=hl c hc;omega
  rw[h2,aC h1]
  by_cases h3:b<=x
  ·rw[aC h3];omega
  ·rw[aD h3];omega
 ·rw[aD h1,aD (by omega)];omega
theorem JU{l:List Int}{s e a b:Int}(hl:∀c∈l,c<s)(he:l.length % 2=0)(hs:s<e)(h1:s<=a)(h2:a<=e)(hab:a<b)(x:Int):pw (l++[s,max e b]) x=(pw (l++[s,e]) x||(decide (a<=x)&&decide (x<b))):=by
 rw[yT hl he (by omega),yT hl he hs];rw[dZ];simp only[dM,bT,bF];constructor
 ·rintro(h|h)
  ·exact .inl<|.inl h
  ·by_cases hx:x<e
   ·exact .inl<|.inr ⟨h.1,hx⟩
   ·exact .inr ⟨by omega,by omega⟩
 ·rintro((h|h)|h)
  ·exact .inl h
  ·exact .inr ⟨h.1,by omega⟩
  ·exact .inr ⟨by omega,by omega⟩
theorem jT.snoc{l:List Int}{a b:Int}(h:jT l)(hl:∀c∈l,c<a)(hab:a<b):jT (l++[a,b]):=by
 unfold jT;rw[nj];refine⟨h,by simp[hab],λc hc d hd=>?_⟩;have:=hl c hc;simp at hd
 rcases hd with rfl|rfl <;> omega
structure Bd where
 y0:Int
 y1:Int
 xs:List Int
def rowAt:List Bd->Int->List Int
 | [],_=>[]
 |b::s,y=>if b.y0<=y/\y<b.y1 then b.xs else rowAt s y
theorem m6(b:Bd)(s:List Bd)(y:Int):rowAt (b::s) y=if b.y0<=y/\y<b.y1 then b.xs else rowAt s y:=rfl
structure eR (s:List Bd):Prop where
 each:∀b∈s,b.y0<b.y1/\b.xs≠[]/\jT b.xs/\b.xs.length % 2=0
 ord:s.Pairwise (λb c=>b.y1<=c.y0/\(b.y1=c.y0->b.xs≠c.xs))
theorem eR.nil:eR []:=⟨λb h=>by simp at h,jX⟩
theorem eR.tail{b:Bd}{s:List Bd}(h:eR (b::s)):eR s:=⟨λc hc=>h.each c<|g9 _ hc,(oc.1 h.ord).2⟩
theorem lW{s:List Bd}{y:Int}(h:∀b∈s,y<b.y0\/b.y1<=y):rowAt s y= []:=by
 induction s with
 |nil=>rfl
 |cons b s ih=>
  unfold rowAt;have:=h b (by simp);rw[aD (by omega)];exact ih λc hc=>h c<|g9 _ hc
theorem rm(s t:List Bd)(y:Int):rowAt (s++t) y=if(∃b∈s,b.y0<=y/\y<b.y1)then rowAt s y else rowAt t y:=by
 induction s with
 |nil=>simp
 |cons b s ih=>
  rw[List.cons_append,m6,m6]
  by_cases h:b.y0<=y/\y<b.y1
  ·rw[aC h,aC ⟨b,by simp,h⟩,aC h]
  ·rw[aD h,ih]
   by_cases h2:∃c∈s,c.y0<=y/\y<c.y1
   ·obtain⟨c,hc,hc2⟩:=h2;rw[aC ⟨c,hc,hc2⟩,aC ⟨c,g9 _ hc,hc2⟩,aD h]
   ·rw[aD h2,aD (show ¬∃c∈b::s,c.y0<=y/\y<c.y1 from ?_)];rintro⟨c,hc,hc2⟩
    rcases dE.1 hc with rfl|hc
    ·exact h hc2
    ·exact h2 ⟨c,hc,hc2⟩
theorem eR.m7{b:Bd}{s:List Bd}{y:Int}(h0:b.y0<=y)(h1:y<b.y1):rowAt (b::s) y=b.xs:=by unfold rowAt;rw[aC ⟨h0,h1⟩]
theorem eR.BB{b:Bd}{s:List Bd}(h:eR (b::s)):∀c∈s,b.y1<=c.y0:=λc hc=>((oc.1 h.ord).1 c hc).1
theorem eR.wD{b:Bd}{s:List Bd}(h:eR (b::s)){y:Int}(hy:y<b.y0):rowAt (b::s) y= []:=lW λc hc=>by
 rcases dE.1 hc with rfl|hc
 ·exact .inl hy
 ·have:=h.BB c hc;have:=(h.each b (by simp)).1;exact .inl (by omega)
theorem eR.HE{b:Bd}{s:List Bd}(h:eR (b::s)):rowAt (b::s) b.y1≠b.xs:=by
 rw[m6,aD (by omega)]
 cases s with
 |nil=>exact λe=>(h.each b (by simp)).2.1 e.symm
 |cons c s=>
  have h1:=(oc.1 h.ord).1 c (by simp)
  by_cases e:b.y1=c.y0
  ·rw[eR.m7 (by omega) (by have:=(h.tail.each c (by simp)).1;omega)];exact λh=>h1.2 e h.symm
  ·rw[h.tail.wD (by have:=h1.1;omega)];exact λe=>(h.each b (by simp)).2.1 e.symm
theorem BC:∀{s t:List Bd},eR s->eR t->(∀y,rowAt s y=rowAt t y)->s=t
 | [],[],_,_,_=>rfl
 | [],c::t,_,ht,h=>by
  have hc:=ht.each c (by simp);have:=h c.y0;rw[eR.m7 (Int.le_refl _) hc.1]at this;exact absurd this.symm hc.2.1
 |b::s,[],hs,_,h=>by
  have hb:=hs.each b (by simp);have:=h b.y0;rw[eR.m7 (Int.le_refl _) hb.1]at this;exact absurd this hb.2.1
 |b::s,c::t,hs,ht,h=>by
  have hb:=hs.each b (by simp);have hc:=ht.each c (by simp);have e0:b.y0=c.y0:=by
   rcases Int.lt_trichotomy b.y0 c.y0 with h1|h1|h1
   ·have h2:=h b.y0;rw[eR.m7 (Int.le_refl _) hb.1,ht.wD h1]at h2;exact absurd h2 hb.2.1
   ·exact h1
   ·have h2:=h c.y0;rw[eR.m7 (Int.le_refl _) hc.1,hs.wD h1]at h2;exact absurd h2.symm hc.2.1
  have ex:b.xs=c.xs:=by
   have h2:=h b.y0;rw[eR.m7 (Int.le_refl _) hb.1,eR.m7 (by omega) (by omega)]at h2;exact h2
  have e1:b.y1=c.y1:=by
   rcases Int.lt_trichotomy b.y1 c.y1 with h1|h1|h1
   ·have h2:=h b.y1;rw[eR.m7 (b:=c) (by omega) h1]at h2;exact absurd (h2.trans ex.symm) hs.HE
   ·exact h1
   ·have h2:=h c.y1;rw[eR.m7 (b:=b) (by omega) h1]at h2;exact absurd (h2.symm.trans ex) ht.HE
  have ebc:b=c:=by cases b;cases c;simp_all
  subst ebc;rw[BC hs.tail ht.tail<|λy=>?_]
  by_cases hy:b.y1<=y
  ·have h2:=h y;unfold rowAt at h2;rw[aD (by omega),aD (by omega)]at h2;exact h2
  ·rw[lW (λd hd=>by have:=hs.BB d hd;exact .inl (by omega)),lW (λd hd=>by have:=ht.BB d hd;exact .inl (by omega))]
def vh(s:List Bd)(x y:Int):Bool:=pw (rowAt s y) x
theorem C8{s:List Bd}(h:∀b∈s,jT b.xs)(y:Int):jT (rowAt s y):=by
 induction s with
 |nil=>exact jX
 |cons b s ih=>
  unfold rowAt;split
  ·exact h b (by simp)
  ·exact ih λc hc=>h c<|g9 _ hc
theorem uD{s t:List Bd}(hs:eR s)(ht:eR t)(h:∀x y,vh s x y=vh t x y):s=t:=
 BC hs ht λy=>BA (C8 (λb hb=>(hs.each b hb).2.2.1) y) (C8 (λb hb=>(ht.each b hb).2.2.1) y) λx=>h x y
def jD(s:List Bd)(b:Bd):List Bd:=
 if b.xs= []\/b.y1<=b.y0 then s else
  match s.getLast? with
  |some c=>if c.y1=b.y0/\c.xs=b.xs then s.dropLast++[⟨c.y0,b.y1,c.xs⟩]else s++[b]
  |none=>[b]
theorem r6{α:Type}{s:List α}{c:α}(h:s.getLast? =some c):s=s.dropLast++[c]:=by
 have hne:s≠[]:=λe=>by rw[e]at h;cases h
 rw[List.getLast?_eq_some_getLast hne]at h;injection h with h
 rw[<-h];exact(List.dropLast_concat_getLast hne).symm
theorem wE{s:List Bd}{b:Bd}(hs:∀c∈s,c.y1<=b.y0)(hg:∀c∈s,c.y0<c.y1)(hb:b.y1<=b.y0->b.y1=b.y0)(y:Int):rowAt (jD s b) y=if b.y0<=y/\y<b.y1 then b.xs else rowAt s y:=by
 have key:∀(s:List Bd)(c:Bd),(∀d∈s,d.y1<=c.y0)->rowAt (s++[c]) y=if c.y0<=y/\y<c.y1 then c.xs else rowAt s y:=by
  intro s c h;rw[rm]
  by_cases h1:c.y0<=y/\y<c.y1
  ·rw[aC h1,aD (by rintro⟨d,hd,hd2⟩;have:=h d hd;omega),eR.m7 h1.1 h1.2]
  ·rw[aD h1]
   by_cases h2:∃d∈s,d.y0<=y/\y<d.y1
   ·rw[aC h2]
   ·rw[aD h2,m6,aD h1];refine(show rowAt [] y=_ from(lW (s:=s) λd hd=>?_).symm)
    by_cases h3:d.y0<=y
    ·exact .inr (by have:¬(d.y0<=y/\y<d.y1):=λh4=>h2 ⟨d,hd,h4⟩;omega)
    ·exact .inl (by omega)
 unfold jD
 by_cases h0:b.xs= []\/b.y1<=b.y0
 ·rw[aC h0]
  by_cases h1:b.y0<=y/\y<b.y1
  ·rw[aC h1]
   rcases h0 with h0|h0
   ·rw[h0];exact lW λc hc=> .inr (by have:=hs c hc;omega)
   ·omega
  ·rw[aD h1]
 ·rw[aD h0]
  cases hl:s.getLast? with
  |none=>
   have:s= []:=by simpa using hl
   subst this;rfl
  |some c=>
   dsimp only;have hsp:=r6 hl;have hcm:c∈s:=by rw[hsp];simp
   by_cases h1:c.y1=b.y0/\c.xs=b.xs
   ·rw[aC h1];have hd:∀d∈s.dropLast,d.y1<=c.y0\/True:=λ_ _=> .inr trivial;rw[rm];have hrow:rowAt s y=if(∃d∈s.dropLast,d.y0<=y/\y<d.y1)then rowAt s.dropLast y else(if c.y0<=y/\y<c.y1 then c.xs else []):=by
     conv=>lhs;rw[hsp]
     rw[rm];rfl
    rw[hrow];have hcg:=hg c hcm
    by_cases h2:∃d∈s.dropLast,d.y0<=y/\y<d.y1
    ·obtain⟨d,hd,hd2⟩:=h2;have:=hs d<|List.dropLast_subset _ hd
     have he:∃d∈s.dropLast,d.y0<=y/\y<d.y1:=⟨d,hd,hd2⟩;rw[aC he,aC he,aD (by omega)]
    ·rw[aD h2,aD h2];show(if c.y0<=y/\y<b.y1 then c.xs else [])=_
     by_cases h3:b.y0<=y/\y<b.y1
     ·rw[aC h3,aC ⟨by omega,h3.2⟩,h1.2]
     ·rw[aD h3]
      by_cases h4:c.y0<=y/\y<c.y1
      ·rw[aC h4,aC ⟨h4.1,by omega⟩]
      ·rw[aD h4,aD (by omega)]
   ·rw[aD h1];exact key s b hs
theorem wF{s:List Bd}{b:Bd}(h:eR s)(hs:∀c∈s,c.y1<=b.y0)(hb:jT b.xs)(he:b.xs.length % 2=0):eR (jD s b):=by
 unfold jD
 by_cases h0:b.xs= []\/b.y1<=b.y0
 ·rw[aC h0];exact h
 ·rw[aD h0];have hbg:b.y0<b.y1/\b.xs≠[]/\jT b.xs/\b.xs.length % 2=0:=⟨by omega,λe=>h0<|.inl e,hb,he⟩
  cases hl:s.getLast? with
  |none=>exact⟨λc hc=>by simp at hc;subst hc;exact hbg,List.pairwise_singleton _ _⟩
  |some c=>
   dsimp only;have hsp:=r6 hl;have hcm:c∈s:=by rw[hsp];simp
   have hc:=h.each c hcm;have hord:=h.ord;rw[hsp,nj]at hord
   by_cases h1:c.y1=b.y0/\c.xs=b.xs
   ·rw[aC h1];refine⟨λd hd=>?_,?_⟩
    ·rcases dH.1 hd with hd|hd
     ·exact h.each d<|List.dropLast_subset _ hd
     ·simp at hd;subst hd;exact⟨by show c.y0<b.y1;omega,hc.2⟩
    ·rw[nj];refine⟨hord.1,List.pairwise_singleton _ _,λd hd e he=>?_⟩;simp at he;subst he;exact hord.2.2 d hd c (by simp)
   ·rw[aD h1];refine⟨λd hd=>?_,?_⟩
    ·rcases dH.1 hd with hd|hd
     ·exact h.each d hd
     ·simp at hd;subst hd;exact hbg
    ·rw[nj];refine⟨h.ord,List.pairwise_singleton _ _,λd hd e he=>?_⟩;simp at he;subst he;refine⟨hs d hd,λe1 e2=>?_⟩;rw[hsp]at hd
     rcases dH.1 hd with hd|hd
     ·have h2:=(hord.2.2 d hd c (by simp)).1;have:=hs c hcm;omega
     ·simp at hd;subst hd;exact h1 ⟨e1,e2⟩
theorem wG{s:List Bd}{b:Bd}(hs:∀c∈s,c.y1<=b.y0)(hb:b.y0<=b.y1):∀c∈jD s b,c.y1<=b.y1:=by
 intro c hc;unfold jD at hc;split at hc
 ·have:=hs c hc;omega
 ·split at hc
  ·split at hc
   ·rcases dH.1 hc with hc|hc
    ·have:=hs c<|List.dropLast_subset _ hc;omega
    ·simp at hc;subst hc;exact Int.le_refl _
   ·rcases dH.1 hc with hc|hc
    ·have:=hs c hc;omega
    ·simp at hc;subst hc;exact Int.le_refl _
  ·simp at hc;subst hc;exact Int.le_refl _
section
variable {N:Nat}
def bY(b:aA):Bd:=⟨b.Y0,b.Y1,b.Xs⟩
def small(a:Int):Prop:= -1099511627776<=a/\a<=1099511627776
structure C9 (r:aH):Prop where
 x:r.X0<r.X1
 y:r.Y0<r.Y1
 s1:small r.X0
 s2:small r.X1
 s3:small r.Y0
 s4:small r.Y1
def GL(l:List aH)(x:Int):Bool:=l.any<|λr=>decide (r.X0<=x)&&decide (x<r.X1)
def vf(l:List aH)(x y:Int):Bool:=l.any<|λr=>(decide (r.X0<=x)&&decide (x<r.X1))&&(decide (r.Y0<=y)&&decide (y<r.Y1))
theorem BD{l:List aH}{x:Int}:GL l x=true↔∃r∈l,r.X0<=x/\x<r.X1:=by unfold GL;simp[jY]
theorem jl{l:List aH}{x y:Int}:vf l x y=true↔∃r∈l,(r.X0<=x/\x<r.X1)/\r.Y0<=y/\y<r.Y1:=by unfold vf;simp[jY]
theorem wrap_small{a b:Int}(ha:small a)(hb:small b):wrap .i64 (a - b)=a - b:=by unfold small at *;exact eU (by omega) (by omega)
theorem BE{n:Nat}(h:0<n)(hn:n<=4611686018427387904):wrap .i64 (((n:Nat):Int) - 1)=((n - 1:Nat):Int):=je h hn
structure QX (out:List Int) (m:List aH) (k:Nat):Prop where
 row:(k=0/\out= [])\/∃A s e,out=A++[s,e]/\jT A/\(∀c∈A,c<s)/\A.length % 2=0/\s<e/\∃j r,j<k/\m[j]? =some r/\s=r.X0
 pw:∀x,pw out x=GL (m.take k) x
 len:out.length<=2*k
 mem:∀c∈out,∃r∈m,c=r.X0\/c=r.X1
theorem zR(l:List aH)(r:aH)(x:Int):GL (l++[r]) x=(GL l x||(decide (r.X0<=x)&&decide (x<r.X1))):=by unfold GL;rw[List.any_append];simp
theorem D6{l:List aH}(hl:l.length<=268435456)(hok:∀r∈l,C9 r):∃row l',jI N l=some (row,l')/\l'.Perm l/\jT row/\row.length % 2=0/\(∀x,pw row x=GL l x)/\row.length<=2*l.length/\∀c∈row,∃r∈l,c=r.X0\/c=r.X1:=by
 unfold jI
 obtain⟨m,h1,h2,h3⟩:=Bw (φ:=hZ N) (l:=l) (λa b=>a.X0 - b.X0) (λa ha b hb=>by
  unfold hZ;rw[wrap_small (hok a ha).s1 (hok b hb).s1]) (λa _=>by omega) (λa _ b _ c _ h1 h2=>by omega) (λa _ b _ c _ h1 h2=>by omega) (by omega)
 have hml:m.length=l.length:=h2.length_eq;have hmok:∀r∈m,C9 r:=λr hr=>hok r<|h2.subset hr
 rw[h1,aB];obtain⟨out,a1,a2⟩:=AU (m:=m.length) (s:=([]:List Int)) (body:=λ(k32:Nat)(s33:List Int)=>((idx m (k32:Int)).bind λx79=>(bif decide (wrap .i64 ((s33.length:Int) - 1)>=0)then((idx s33<|wrap .i64<|(s33.length:Int) - 1).bind λx86=>some<|decide<|x79.X0<=x86)else some false).bind λs84=>(bif s84 then((idx s33<|wrap .i64<|(s33.length:Int) - 1).bind λx94=>(idx s33<|wrap .i64<|(s33.length:Int) - 1).bind λx95=>some<|s33.set (Int.toNat<|wrap .i64<|(s33.length:Int) - 1) (if x94<x79.X1 then x79.X1 else x94))else((app 8 s33 ([x79.X0,x79.X1]:List Int)).bind λx97=>some x97)).bind λs92=>some s92:Option (List Int)))
  (λk out=>QX out m k) (by omega) ⟨.inl ⟨rfl,rfl⟩,λx=>rfl,by simp,λc hc=>by cases hc⟩ (λk out hk⟨i1,i2,i3,i4⟩=>by
   have hx:m[k]? =some m[k]:=aP hk;have hr:=hmok _<|cU hk
   rw[dS hx,aB];have hts:m.take (k+1)=m.take k++[m[k]]:=fq hk
   rcases i1 with⟨rfl,rfl⟩|⟨A,s,e,rfl,hA,hAs,hAe,hse,j,r,hj,hjr,hsr⟩
   ·rw[show decide (wrap .i64 (((([]:List Int).length:Nat):Int) - 1)>=0)=false by decide,aQ,aB,aQ,kR (by simp),aB,aB];refine⟨_,rfl, .inr ⟨[],_,_,rfl,jX,λc hc=>by simp at hc,rfl,hr.x,0,m[0],by omega,hx,rfl⟩,λx=>?_,by simp,λc hc=>⟨m[0],cU hk,by simpa using hc⟩⟩;rw[hts,zR,<-i2 x];exact yT (l:=[]) (λc hc=>by simp at hc) rfl hr.x x
   ·have hlen:(A++[s,e]).length=A.length+2:=by simp
    have hwp:wrap .i64 ((((A++[s,e]).length:Nat):Int) - 1)=((A.length+1:Nat):Int):=by rw[BE (by omega) (by omega),hlen];rfl
    have hlast:(A++[s,e])[A.length+1]? =some e:=by rw[gQ (by omega)];simp
    have hs:s<=m[k].X0:=by
     have:=mF.1 h3 j k (by have:=(bA.1 hjr).1;omega) hk hj;rw[hsr,<-(bA.1 hjr).2];omega
    rw[hwp,bL (by omega),aO,dS hlast,aB,aB]
    by_cases hc:m[k].X0<=e
    ·rw[bL hc,aO,aB,aB,aB,cI];have nk:(A++[s,e]).set (A.length+1) (if e<m[k].X1 then m[k].X1 else e)=A++[s,max e m[k].X1]:=by
      rw[List.set_append_right _ _ (by omega)];have:A.length+1 - A.length=1:=by omega
      rw[this,Int.max_def];simp only[List.set_cons_succ,List.set_cons_zero];congr 2;split <;> split <;> simp <;> omega
     rw[nk]
     refine⟨_,rfl, .inr ⟨A,s,_,rfl,hA,hAs,hAe,by omega,j,r,by omega,hjr,hsr⟩,λx=>?_,by simp at i3 ⊢;omega,λc hc=>by
      rcases dH.1 hc with h|h
      ·exact i4 c<|List.mem_append_left _ h
      ·simp at h
       rcases h with h|h
       ·exact i4 c (by simp[h])
       ·rw[Int.max_def]at h;split at h
        ·exact⟨_,cU hk, .inr h⟩
        ·exact i4 c (by simp[h])⟩
     rw[hts,zR,<-i2 x];exact JU hAs hAe hse hs hc hr.x x
    ·rw[bO hc,aQ,kR (by rw[hlen];simp;omega),aB,aB];have hall:∀c∈A++[s,e],c<m[k].X0:=λc hc'=>by
      rcases dH.1 hc' with h|h
      ·have:=hAs c h;omega
      ·simp at h;omega
     refine⟨_,rfl, .inr ⟨A++[s,e],_,_,rfl,hA.snoc hAs hse,hall,by rw[hlen];omega,hr.x,k,m[k],by omega,hx,rfl⟩,λx=>?_,by simp at i3 ⊢;omega,λc hc=>by
      rcases dH.1 hc with h|h
      ·exact i4 c h
      ·exact⟨m[k],cU hk,by simpa using h⟩⟩
     rw[hts,zR,<-i2 x]
     exact yT hall (by rw[hlen];omega) hr.x x)
 rw[a1,aB];refine⟨out,m,rfl,h2,?_,?_,λx=>?_,by rw[<-hml];exact a2.len,λc hc=>by obtain⟨r,hr,h⟩:=a2.mem c hc;exact⟨r,h2.subset hr,h⟩⟩
 ·rcases a2.row with⟨_,h⟩|⟨A,s,e,rfl,hA,hAs,hAe,hse,_⟩
  ·rw[h];exact jX
  ·exact hA.snoc hAs hse
 ·rcases a2.row with⟨_,h⟩|⟨A,s,e,rfl,hA,hAs,hAe,hse,_⟩
  ·rw[h];rfl
  ·simp;omega
 ·rw[a2.pw x,fS,dZ,BD,BD];constructor
  ·rintro⟨r,hr,h⟩;exact⟨r,h2.subset hr,h⟩
  ·rintro⟨r,hr,h⟩;exact⟨r,h2.symm.subset hr,h⟩
theorem Is{l m:List Int}(hl:l.length<=4611686018427387904):np N l m=some (decide<|l=m):=C5 hl
theorem HF{s:List aA}{b:aA}(hs:s.length<=1048576000)(hx:∀c∈s,c.Xs.length<=1048576000):∃s',jo N s b=some s'/\s'.map bY=jD (s.map bY) (bY b):=by
 unfold jo jD
 by_cases h0:b.Xs= []\/b.Y1<=b.Y0
 ·have e:((((b.Xs.length:Nat):Int)==0)||decide (b.Y1<=b.Y0))=true:=by
   rw[dM]
   rcases h0 with h|h
   ·left;rw[h];rfl
   ·right;exact bL h
  rw[e,aO,aC (show(bY b).xs= []\/(bY b).y1<=(bY b).y0 from h0)];exact⟨s,rfl,rfl⟩
 ·have e:((((b.Xs.length:Nat):Int)==0)||decide (b.Y1<=b.Y0))=false:=by
   rw[Bool.or_eq_false_iff];constructor
   ·rw[beq_eq_false_iff_ne];intro h;exact h0<|.inl<|List.eq_nil_of_length_eq_zero (by omega)
   ·exact bO λh=>h0<|.inr h
  rw[e,aQ,aD (show ¬((bY b).xs= []\/(bY b).y1<=(bY b).y0)from h0)]
  rcases List.eq_nil_or_concat s with rfl|⟨A,c,hA⟩
  ·rw[show decide (wrap .i64 (((([]:List aA).length:Nat):Int) - 1)>=0)=false by decide,aQ,aB,aQ,kR (by simp),aB];exact⟨_,rfl,rfl⟩
  ·rw[List.concat_eq_append]at hA;subst hA;have hlen:(A++[c]).length=A.length+1:=by simp
   have hwp:wrap .i64 ((((A++[c]).length:Nat):Int) - 1)=((A.length:Nat):Int):=by rw[BE (by omega) (by omega),hlen];rfl
   have hlast:(A++[c])[A.length]? =some c:=by simp
   rw[hwp,bL (by omega),aO,dS hlast,aB,aB,Is (by have:=hx c (by simp);omega),aB,aB,cI,kR (by rw[hlen];simp;omega),aB];have hl2:((A++[c]).map bY).getLast? =some (bY c):=by simp
   have hd2:((A++[c]).map bY).dropLast=A.map bY:=by simp
   rw[hl2,hd2];dsimp only
   by_cases h1:c.Y1=b.Y0/\c.Xs=b.Xs
   ·rw[aC (show(bY c).y1=(bY b).y0/\(bY c).xs=(bY b).xs from h1),show(c.Y1==b.Y0)=true by rw[h1.1];simp,aO,bL h1.2,aB,aO];refine⟨_,rfl,?_⟩;rw[List.set_append_right _ _<|bR _,Nat.sub_self];simp[bY]
   ·rw[aD (show ¬((bY c).y1=(bY b).y0/\(bY c).xs=(bY b).xs)from h1)];have e2:(bif c.Y1==b.Y0 then some (decide<|c.Xs=b.Xs)else some false)=some false:=by
     by_cases h2:c.Y1=b.Y0
     ·rw[show(c.Y1==b.Y0)=true by rw[h2];simp,aO,bO<|λh=>h1 ⟨h2,h⟩]
     ·rw[show(c.Y1==b.Y0)=false by simpa using h2,aQ]
    rw[e2,aB,aQ];exact⟨_,rfl,by simp⟩
end
def dC(l:List (Int×Int)):List Int:=l.flatMap λs=>[s.1,s.2]
def jg(l:List (Int×Int))(x:Int):Bool:=l.any λs=>decide (s.1<=x)&&decide (x<s.2)
theorem jh(s:Int×Int)(l:List (Int×Int)):dC (s::l)=s.1::s.2::dC l:=rfl
theorem uE(l m:List (Int×Int)):dC (l++m)=dC l++dC m:=List.flatMap_append
theorem kd(l:List (Int×Int)):(dC l).length=2*l.length:=by
 induction l with
 |nil=>rfl
 |cons s l ih=>rw[jh,fR,fR,fR,ih];omega
theorem Da(s:Int×Int)(l:List (Int×Int))(x:Int):jg (s::l) x=((decide (s.1<=x)&&decide (x<s.2))||jg l x):=rfl
theorem Ak(l m:List (Int×Int))(x:Int):jg (l++m) x=(jg l x||jg m x):=List.any_append
theorem tM{l:List (Int×Int)}{x:Int}:jg l x=true↔∃s∈l,s.1<=x/\x<s.2:=by
 unfold jg;simp
theorem It{a b:Int}{m:List Int}(h:jT (a::b::m))(x:Int):pw (a::b::m) x=((decide (a<=x)&&decide (x<b))||pw m x):=by
 have hab:a<b:=h.head b (by simp);have hm:=h.tail.head;rw[dZ,dM,bT,bF,bF,yQ,yQ,n7,n7]
 by_cases h1:a<=x
 ·rw[aC h1]
  by_cases h2:b<=x
  ·rw[aC h2];omega
  ·rw[aD h2,Bz (λc hc=>by have:=hm c hc;omega)];omega
 ·rw[aD h1,aD (by omega)];omega
theorem tN:∀{l:List (Int×Int)},jT (dC l)->∀x,pw (dC l) x=jg l x
 | [],_,x=>rfl
 |s::l,h,x=>by
  rw[jh]at h ⊢;rw[It h,Da,tN h.tail.tail]
theorem Db:∀{l m:List (Int×Int)},dC l=dC m->l=m
 | [],[],_=>rfl
 | [],s::m,h=>by cases h
 |s::l,[],h=>by cases h
 |(a,b)::l,(c,d)::m,h=>by
  rw[jh,jh]at h;injection h with h1 h2
  injection h2 with h2 h3
  simp only at h1 h2;rw[h1,h2,Db h3]
theorem zS{l:List (Int×Int)}{c:Int}(h:c∈dC l):∃s∈l,c=s.1\/c=s.2:=by
 obtain⟨s,hs,hc⟩:=List.mem_flatMap.1 h;exact⟨s,hs,by simpa using hc⟩
theorem vU{l:List (Int×Int)}(h:jT (dC l)):∀s∈l,s.1<s.2:=by
 induction l with
 |nil=>intro s hs;cases hs
 |cons a l ih=>
  rw[jh]at h;intro s hs
  rcases dE.1 hs with rfl|hs
  ·exact h.head _ (by simp)
  ·exact ih h.tail.tail s hs
theorem tO{l m:List (Int×Int)}:jT (dC<|l++m)↔jT (dC l)/\jT (dC m)/\∀s∈l,∀t∈m,s.2<t.1:=by
 rw[uE];unfold jT;rw[nj];constructor
 ·rintro⟨h1,h2,h3⟩;exact⟨h1,h2,λs hs t ht=>h3 s.2 (List.mem_flatMap.2 ⟨s,hs,by simp⟩) t.1<|List.mem_flatMap.2 ⟨t,ht,by simp⟩⟩
 ·rintro⟨h1,h2,h3⟩;refine⟨h1,h2,λa ha b hb=>?_⟩;obtain⟨s,hs,ha⟩:=zS ha;obtain⟨t,ht,hb⟩:=zS hb;have h4:=h3 s hs t ht;have h5:=vU (l:=l) h1 s hs;have h6:=vU (l:=m) h2 t ht
  rcases ha with rfl|rfl <;> rcases hb with rfl|rfl <;> omega
def kD(s:Int×Int):List (Int×Int)->(Int×Int)×List (Int×Int)
 | []=>(s,[])
 |a::l=>if a.1<=s.2 then kD (min s.1 a.1,max s.2 a.2) l else(s,a::l)
def lX(l:List (Int×Int))(s:Int×Int):List (Int×Int):=
 l.takeWhile (λa=>decide<|a.2<s.1)++(kD s<|l.dropWhile λa=>decide<|a.2<s.1).1::(kD s<|l.dropWhile λa=>decide<|a.2<s.1).2
theorem Al:∀(l:List (Int×Int))(s:Int×Int),s.1<s.2->jT (dC l)->(∀a∈l,s.1<=a.2)->
  (kD s l).1.1<(kD s l).1.2/\((kD s l).1.1=s.1\/∃a∈l,(kD s l).1.1=a.1)/\jT (dC (kD s l).2)/\(∀t∈(kD s l).2,(kD s l).1.2<t.1)/\
  ∀x,jg ((kD s l).1::(kD s l).2) x=((decide (s.1<=x)&&decide (x<s.2))||jg l x)
 | [],s,h,_,_=>⟨h, .inl rfl,jX,λt(ht:t∈([]:List (Int×Int)))=>(by cases ht),λx=>rfl⟩
 |a::l,s,h,hi,hs=>by
  have hsp:=vU hi;have ha:=hsp a (by simp);have hi':=hi;rw[jh]at hi';have hsa:=hs a (by simp);unfold kD
  by_cases hc:a.1<=s.2
  ·rw[aC hc];have hlt:(min s.1 a.1,max s.2 a.2).1<(min s.1 a.1,max s.2 a.2).2:=by dsimp only;omega
   obtain⟨h1,h2,h3,h4,h5⟩:=Al l (min s.1 a.1,max s.2 a.2) hlt hi'.tail.tail (λb hb=>by
    have:=(tO (l:=[a]) (m:=l)).1 hi;have h6:=this.2.2 a (by simp) b hb;have h7:=hsp b<|g9 _ hb
    dsimp only;omega)
   refine⟨h1,?_,h3,h4,λx=>?_⟩
   ·rcases h2 with h2|⟨b,hb,h2⟩
    ·rw[h2]
     rcases Int.le_total s.1 a.1 with h6|h6
     ·exact .inl (by simp only;omega)
     ·exact .inr ⟨a,by simp,by simp only;omega⟩
    ·exact .inr ⟨b,g9 _ hb,h2⟩
   ·rw[h5,Da,<-Bool.or_assoc];congr 1;clear h1 h2 h3 h4 h5;rw[dZ];simp only[dM,bT,bF];constructor
    ·intro h6
     by_cases h7:s.1<=x/\x<s.2
     ·exact .inl h7
     ·exact .inr (by omega)
    ·rintro(h6|h6) <;> omega
  ·rw[aD hc];refine⟨h, .inl rfl,hi,λt ht=>?_,λx=>rfl⟩;show s.2<t.1
   rcases dE.1 ht with rfl|ht
   ·omega
   ·have:=((tO (l:=[a]) (m:=l)).1 hi).2.2 a (by simp) t ht;omega
theorem D7{l:List (Int×Int)}{c:Int}(h:jT (dC l)):∀a∈l.dropWhile (λa=>decide<|a.2<c),c<=a.2:=by
 induction l with
 |nil=>intro a ha;cases ha
 |cons b l ih=>
  have h':=h;rw[jh]at h';rw[List.dropWhile_cons]
  by_cases hb:b.2<c
  ·rw[aC (by simpa using hb)];exact ih h'.tail.tail
  ·rw[aD (by simpa using hb)];intro a ha
   rcases dE.1 ha with rfl|ha
   ·omega
   ·have h1:=((tO (l:=[b]) (m:=l)).1 h).2.2 b (by simp) a ha;have h2:=vU h a<|g9 _ ha
    omega
theorem D8(l:List (Int×Int))(c:Int):∀a∈l.takeWhile (λa=>decide<|a.2<c),a.2<c:=by
 induction l with
 |nil=>intro a ha;cases ha
 |cons b l ih=>
  rw[List.takeWhile_cons]
  by_cases hb:b.2<c
  ·rw[aC (by simpa using hb)];intro a ha
   rcases dE.1 ha with rfl|ha
   ·exact hb
   ·exact ih a ha
  ·rw[aD (by simpa using hb)];intro a ha;cases ha
theorem yU{l:List (Int×Int)}{s:Int×Int}(h:jT (dC l))(hs:s.1<s.2):
  jT (dC<|lX l s)/\∀x,jg (lX l s) x=((decide (s.1<=x)&&decide (x<s.2))||jg l x):=by
 have hsplit:=h;rw[<-List.takeWhile_append_dropWhile (p:=λa:Int×Int=>decide<|a.2<s.1) (l:=l),tO]at hsplit;obtain⟨h1,h2,h3⟩:=hsplit;obtain⟨m1,m2,m3,m4,m5⟩:=Al (l.dropWhile λa=>decide<|a.2<s.1) s hs h2<|D7 h
 unfold lX;refine⟨tO.2 ⟨h1,?_,λa ha t ht=>?_⟩,λx=>?_⟩
 ·rw[jh];have h4:∀c∈dC (kD s<|l.dropWhile λa=>decide<|a.2<s.1).2,(kD s<|l.dropWhile λa=>decide<|a.2<s.1).1.2<c:=λc hc=>by
   obtain⟨t,ht,hc⟩:=zS hc;have:=m4 t ht;have:=vU m3 t ht
   rcases hc with rfl|rfl <;> omega
  exact oc.2 ⟨λc hc=>by
   rcases dE.1 hc with rfl|hc
   ·exact m1
   ·have:=h4 c hc;omega,oc.2 ⟨h4,m3⟩⟩
 ·have ha1:=D8 l s.1 a ha
  rcases dE.1 ht with rfl|ht
  ·rcases m2 with m2|⟨b,hb,m2⟩
   ·rw[m2];exact ha1
   ·rw[m2];exact h3 a ha b hb
  ·have h5:=m4 t ht
   rcases m2 with m2|⟨b,hb,m2⟩
   ·rw[m2]at m1;omega
   ·have:=h3 a ha b hb;rw[m2]at m1;omega
 ·rw[Ak,m5]
  conv=>rhs;rw[<-List.takeWhile_append_dropWhile (p:=λa:Int×Int=>decide<|a.2<s.1) (l:=l),Ak]
  rw[Bool.or_left_comm]
def kp:List Int->List (Int×Int)
 |a::b::l=>(a,b)::kp (b::l)
 |_=>[]
theorem rC:∀{xs:List Int},jT xs->∀s∈kp xs,s.1∈xs/\s.2∈xs/\s.1<s.2/\∀c∈xs,c<=s.1\/s.2<=c
 | [],_,s,hs=>by cases hs
 | [a],_,s,hs=>by cases hs
 |a::b::l,h,s,hs=>by
  have hab:=h.head b (by simp)
  rcases dE.1 hs with rfl|hs
  ·refine⟨by simp,by simp,hab,λc hc=>?_⟩
   rcases dE.1 hc with rfl|hc
   ·exact .inl<|Int.le_refl _
   ·rcases dE.1 hc with rfl|hc
    ·exact .inr<|Int.le_refl _
    ·exact .inr (by have:=h.tail.head c hc;show b<=c;omega)
  ·obtain⟨h1,h2,h3,h4⟩:=rC h.tail s hs;refine⟨g9 _ h1,g9 _ h2,h3,λc hc=>?_⟩
   rcases dE.1 hc with rfl|hc
   ·exact .inl (by have:=h.head s.1 h1;omega)
   ·exact h4 c hc
theorem xX:∀{xs:List Int},jT xs->∀x,(∃s∈kp xs,s.1<=x/\x<s.2)\/(∀c∈xs,x<c)\/(∀c∈xs,c<=x)
 | [],_,x=> .inr (.inl λc hc=>by cases hc)
 | [a],_,x=>by
  by_cases h:x<a
  ·exact .inr (.inl λc hc=>by simp at hc;omega)
  ·exact .inr (.inr λc hc=>by simp at hc;omega)
 |a::b::l,h,x=>by
  have hab:=h.head b (by simp)
  rcases xX h.tail x with⟨s,hs,h1⟩|h1|h1
  ·exact .inl ⟨s,g9 _ hs,h1⟩
  ·by_cases h2:x<a
   ·exact .inr (.inl λc hc=>by
     rcases dE.1 hc with rfl|hc
     ·exact h2
     ·exact h1 c hc)
   ·exact .inl ⟨(a,b),by simp[kp],by show a<=x;omega,h1 b (by simp)⟩
  ·exact .inr (.inr λc hc=>by
    rcases dE.1 hc with rfl|hc
    ·have:=h1 b (by simp);omega
    ·exact h1 c hc)
def Ends(a:List (Int×Int))(xs:List Int):Prop:=∀s∈a,s.1∈xs/\s.2∈xs
theorem AV{a:List (Int×Int)}{xs:List Int}(he:Ends a xs)(hx:jT xs){s:Int×Int}(hs:s∈kp xs){x:Int}(h1:s.1<=x)(h2:x<s.2):jg a x=jg a s.1:=by
 obtain⟨_,_,h3,h4⟩:=rC hx s hs;rw[dZ,tM,tM];constructor
 ·rintro⟨t,ht,h5,h6⟩;have:=h4 _ (he t ht).1;exact⟨t,ht,by omega,by omega⟩
 ·rintro⟨t,ht,h5,h6⟩;have:=h4 _ (he t ht).2;exact⟨t,ht,by omega,by omega⟩
theorem HG{a:List (Int×Int)}{xs:List Int}(he:Ends a xs){x:Int}(h:(∀c∈xs,x<c)\/(∀c∈xs,c<=x)):jg a x=false:=by
 rw[<-ld,tM];rintro⟨t,ht,h5,h6⟩;obtain⟨e1,e2⟩:=he t ht
 rcases h with h|h
 ·have:=h _ e1;omega
 ·have:=h _ e2;omega
def mC(gO:Bool->Bool->Bool)(a b:List (Int×Int))(ss:List (Int×Int))(out:List (Int×Int)):List (Int×Int):=
 ss.foldl (λout s=>if gO (jg a s.1) (jg b s.1)=true then lX out s else out) out
theorem vV(gO:Bool->Bool->Bool)(a b:List (Int×Int)):∀(ss out:List (Int×Int)),jT (dC out)->(∀s∈ss,s.1<s.2)->
  jT (dC<|mC gO a b ss out)/\∀x,jg (mC gO a b ss out) x=(jg out x||ss.any λs=>gO (jg a s.1) (jg b s.1)&&(decide (s.1<=x)&&decide (x<s.2)))
 | [],out,h,_=>⟨h,λx=>by simp[mC]⟩
 |s::ss,out,h,hs=>by
  have h0:=hs s (by simp);unfold mC;rw[List.foldl_cons]
  by_cases hk:gO (jg a s.1) (jg b s.1)=true
  ·rw[aC hk];obtain⟨j1,j2⟩:=yU h h0;obtain⟨m1,m2⟩:=vV gO a b ss (lX out s) j1<|λt ht=>hs t<|g9 _ ht
   refine⟨m1,λx=>?_⟩;rw[show jg (List.foldl _ (lX out s) ss) x=_ from m2 x,j2,List.any_cons,hk,Bool.true_and]
   cases jg out x <;> simp
  ·rw[aD hk];obtain⟨m1,m2⟩:=vV gO a b ss out h<|λt ht=>hs t<|g9 _ ht
   refine⟨m1,λx=>?_⟩;rw[show jg (List.foldl _ out ss) x=_ from m2 x,List.any_cons,eq_false_of_ne_true hk,Bool.false_and,Bool.false_or]
theorem Fz{gO:Bool->Bool->Bool}(hk:gO false false=false){a b:List (Int×Int)}{xs:List Int}(hx:jT xs)(ha:Ends a xs)(hb:Ends b xs):
  jT (dC<|mC gO a b (kp xs) [])/\∀x,jg (mC gO a b (kp xs) []) x=gO (jg a x) (jg b x):=by
 obtain⟨m1,m2⟩:=vV gO a b (kp xs) [] jX<|λs hs=>(rC hx s hs).2.2.1
 refine⟨m1,λx=>?_⟩;rw[m2,show jg [] x=false from rfl,Bool.false_or]
 rcases xX hx x with⟨s,hs,h1,h2⟩|h
 ·rw[dZ,jY];constructor
  ·rintro⟨t,ht,h3⟩;rw[bT,bT,bF,bF]at h3;rw[AV ha hx ht h3.2.1 h3.2.2,AV hb hx ht h3.2.1 h3.2.2];exact h3.1
  ·intro h3;rw[AV ha hx hs h1 h2,AV hb hx hs h1 h2]at h3;exact⟨s,hs,by rw[h3,bL h1,bL h2];rfl⟩
 ·rw[HG ha h,HG hb h,hk,<-ld,jY];rintro⟨t,ht,h3⟩;rw[bT,bT,bF,bF]at h3;obtain⟨e1,e2,_⟩:=rC hx t ht
  rcases h with h|h
  ·have:=h _ e1;omega
  ·have:=h _ e2;omega
def mD(f:Int->List Int)(ss:List (Int×Int))(out:List Bd):List Bd:=ss.foldl (λout s=>jD out ⟨s.1,s.2,f s.1⟩) out
theorem Am(f:Int->List Int)(hf:∀y,jT (f y)/\(f y).length % 2=0):∀(ys:List Int)(out:List Bd),jT ys->eR out->(∀c∈out,∀y∈ys,c.y1<=y)->
  eR (mD f (kp ys) out)/\∀y,rowAt (mD f (kp ys) out) y=match(kp ys).find? (λs=>decide (s.1<=y)&&decide (y<s.2))with|some s=>f s.1|none=>rowAt out y
 | [],out,_,h,_=>⟨h,λy=>rfl⟩
 | [a],out,_,h,_=>⟨h,λy=>rfl⟩
 |a::b::l,out,hi,h,ho=>by
  have hab:=hi.head b (by simp);have ho1:∀c∈out,c.y1<=(⟨a,b,f a⟩:Bd).y0:=λc hc=>ho c hc a (by simp);have hc:=wF (b:=⟨a,b,f a⟩) h ho1 (hf a).1 (hf a).2;have htop:=wG (b:=⟨a,b,f a⟩) ho1 (by show a<=b;omega)
  obtain⟨m1,m2⟩:=Am f hf (b::l) (jD out ⟨a,b,f a⟩) hi.tail hc (λc hc' y hy=>by
   have h1:=htop c hc';have h2:b<=y:=by
    rcases dE.1 hy with rfl|hy
    ·exact Int.le_refl _
    ·have:=hi.tail.head y hy;omega
   have h3:c.y1<=b:=h1
   omega)
  refine⟨m1,λy=>?_⟩;show rowAt (mD f (kp<|b::l)<|jD out ⟨a,b,f a⟩) y=_;rw[m2 y,show kp (a::b::l)=(a,b)::kp (b::l)from rfl,List.find?_cons];have hrow:=wE (s:=out) (b:=⟨a,b,f a⟩) ho1 (λc hc=>(h.each c hc).1) (λh=>absurd h (by show ¬b<=a;omega)) y
  by_cases hy:a<=y/\y<b
  ·have e:(decide (a<=y)&&decide (y<b))=true:=by rw[bL hy.1,bL hy.2];rfl
   have hn:(kp<|b::l).find? (λs=>decide (s.1<=y)&&decide (y<s.2))=none:=by
    rw[List.find?_eq_none];intro s hs;have:=(rC hi.tail s hs).1;have h5:b<=s.1:=by
     rcases dE.1 this with h6|h6
     ·omega
     ·have:=hi.tail.head _ h6;omega
    simp;omega
   rw[hn];show rowAt (jD out ⟨a,b,f a⟩) y=_;rw[hrow,aC hy,e]
  ·have e:(decide (a<=y)&&decide (y<b))=false:=by
    rw[Bool.and_eq_false_iff,decide_eq_false_iff_not,decide_eq_false_iff_not];omega
   rw[e]
   cases(kp<|b::l).find? (λs=>decide (s.1<=y)&&decide (y<s.2))with
   |some s=>rfl
   |none=>
    show rowAt (jD out ⟨a,b,f a⟩) y=rowAt out y;rw[hrow,aD hy]
theorem An{f:Int->List Int}(hf:∀y,jT (f y)/\(f y).length % 2=0){ys:List Int}(hy:jT ys)(h1:∀s∈kp ys,∀y,s.1<=y->y<s.2->f y=f s.1)(h2:∀y,((∀c∈ys,y<c)\/(∀c∈ys,c<=y))->f y= []):
  eR (mD f (kp ys) [])/\∀y,rowAt (mD f (kp ys) []) y=f y:=by
 obtain⟨m1,m2⟩:=Am f hf ys [] hy eR.nil (λc hc=>by cases hc);refine⟨m1,λy=>?_⟩;rw[m2 y]
 cases Nm:(kp ys).find? (λs=>decide (s.1<=y)&&decide (y<s.2))with
 |some s=>
  have h3:=List.find?_some Nm;rw[bT,bF,bF]at h3;exact(h1 s (List.mem_of_find?_eq_some Nm) y h3.1 h3.2).symm
 |none=>
  show rowAt [] y=f y
  rcases xX hy y with⟨s,hs,h3,h4⟩|h3
  ·have:=List.find?_eq_none.1 Nm s hs;rw[bL h3,bL h4]at this;exact absurd rfl this
  ·rw[h2 y h3];rfl
def Ok{β:Type}(o:Option β)(P:β->Prop):Prop:=∃r,o=some r/\P r
section
variable {α β S R:Type}{P:α->Prop}{Q:β->Prop}
theorem RJ{x:β}(h:Q x):Ok (some x) Q:=⟨x,rfl,h⟩
theorem UO{o:Option β}{x:β}(h:o=some x)(hq:Q x):Ok o Q:=⟨x,h,hq⟩
theorem Ok.mono{o:Option α}{P':α->Prop}(h:Ok o P)(k:∀x,P x->P' x):Ok o P':=by obtain⟨x,h1,h2⟩:=h;exact⟨x,h1,k x h2⟩
theorem RP{o:Option α}{f:α->Option β}(h:Ok o P)(k:∀x,P x->Ok (f x) Q):Ok (o.bind f) Q:=by
 obtain⟨x,h1,h2⟩:=h;rw[h1];exact k x h2
theorem RE{o:Option α}{f:α->Option β}{x:α}(h:o=some x)(k:Ok (f x) Q):Ok (o.bind f) Q:=by rw[h];exact k
theorem R9{b:Bool}{x y:Option β}(ht:b=true->Ok x Q)(hf:b=false->Ok y Q):Ok (bif b then x else y) Q:=by
 cases b with
 |true=>exact ht rfl
 |false=>exact hf rfl
theorem SJ{o:Option β}{x:β}(h:Ok o (λr=>r=x)):o=some x:=by obtain⟨r,h1,h2⟩:=h;rw[h1,h2]
def OT(Go:S->Prop)(Rt:R->Prop):Fo S R->Prop| .go s=>Go s| .rt r=>Rt r
def Ku(Nx Br:S->Prop)(Rt:R->Prop):Fl S R->Prop| .nx s=>Nx s| .br s=>Br s| .rt r=>Rt r
theorem Si{Nx Br:S->Prop}{Rt:R->Prop}{s:S}(h:Nx s):Ok (some<|Fl.nx s) (Ku Nx Br Rt):=⟨_,rfl,h⟩
theorem Sn{Nx Br:S->Prop}{Rt:R->Prop}{s:S}(h:Br s):Ok (some<|Fl.br s) (Ku Nx Br Rt):=⟨_,rfl,h⟩
theorem SC{Nx Br:S->Prop}{Rt:R->Prop}{r:R}(h:Rt r):Ok (some (Fl.rt r:Fl S R)) (Ku Nx Br Rt):=⟨_,rfl,h⟩
theorem Sm{Go:S->Prop}{Rt:R->Prop}{o:Fo S R}{f:S->Option β}{g:R->Option β}(h:OT Go Rt o)(hf:∀s,Go s->Ok (f s) Q)(hg:∀r,Rt r->Ok (g r) Q):Ok (o.cs f g) Q:=by
 cases o with
 |go s=>exact hf s h
 |rt r=>exact hg r h
theorem SR{body:Nat->S->Option S}{m:Nat}{s:S}(Inv:Nat->S->Prop)(hm:m<=4611686018427387904)(h0:Inv 0 s)(h:∀k s,k<m->Inv k s->Ok (body k s) (Inv<|k+1)):Ok (nH m body s) (Inv m):=
 AU Inv hm h0 h
theorem Tu{body:Nat->S->Option (Fl S R)}{m:Nat}{s:S}(Inv:Nat->S->Prop){Go:S->Prop}{Rt:R->Prop}(hm:m<=4611686018427387904)(h0:Inv 0 s)
  (h:∀k s,k<m->Inv k s->Ok (body k s) (Ku (Inv<|k+1) Go Rt)) (hg:∀s,Inv m s->Go s):Ok (si m body s) (OT Go Rt):=by
 obtain⟨o,h1,h2⟩:=K3 (R:=R) Inv Go Rt hm h0 (λk s hk hi=>by
  obtain⟨fl,a1,a2⟩:=h k s hk hi
  exact⟨fl,a1,by cases fl <;> exact a2⟩) hg
 exact⟨o,h1,by cases o <;> exact h2⟩
theorem SS{body:S->Option (Fl S R)}{N:Nat}{s:S}(Inv:S->Prop)(μ:S->Nat){Go:S->Prop}{Rt:R->Prop}
  (h:∀s,Inv s->Ok (body s) (Ku (λs'=>Inv s'/\μ s'<μ s) Go Rt)) (hi:Inv s) (hn:μ s<N):Ok (j6 body N s) (OT Go Rt):=by
 obtain⟨o,h1,h2⟩:=yC (R:=R) Inv μ Go Rt (λs hi=>by
  obtain⟨fl,a1,a2⟩:=h s hi
  exact⟨fl,a1,by cases fl <;> exact a2⟩) N s hi hn
 exact⟨o,h1,by cases o <;> exact h2⟩
theorem SB{b:Nat}{l ys:List α}{f:List α->Option β}(h:(l.length+ys.length)*b<=140737488355328)(k:Ok (f<|l++ys) Q):Ok ((Go.Gk.app b l ys).bind f) Q:=by rw[kR h];exact k
theorem SA{l:List α}{i:Nat}{f:α->Option β}(h:i<l.length)(k:Ok (f l[i]) Q):Ok ((Go.Gk.idx l ((i:Nat):Int)).bind f) Q:=by rw[lj l i h];exact k
theorem R0{l:List α}{i:Nat}{x:α}{f:α->Option β}(h:l[i]? =some x)(k:Ok (f x) Q):Ok ((Go.Gk.idx l ((i:Nat):Int)).bind f) Q:=by rw[dS h];exact k
end
theorem FA{n:Nat}(h:n<=4611686018427387904):wrap .i64 ((n:Nat):Int)=((n:Nat):Int):=eU (by omega) (by omega)
theorem wrap_add{n m:Nat}(h:n+m<=4611686018427387904):wrap .i64 (((n:Nat):Int)+((m:Nat):Int))=((n+m:Nat):Int):=by rw[eU (by omega) (by omega)];simp
theorem cD{n:Nat}(h:n+1<=4611686018427387904):wrap .i64 (((n:Nat):Int)+1)=((n+1:Nat):Int):=by rw[eU (by omega) (by omega)];simp
theorem Dc{n:Nat}(h:n+2<=4611686018427387904):wrap .i64 (((n:Nat):Int)+2)=((n+2:Nat):Int):=by rw[eU (by omega) (by omega)];simp
theorem fP{α:Type}[DecidableEq α]:∀{l m:List α},l.Nodup->(∀x∈l,x∈m)->l.length<=m.length
 | [],m,_,_=>eZ _
 |a::l,m,hn,hs=>by
  have ha:a∈m:=hs a (by simp);have hn':=List.nodup_cons.1 hn
  have:=fP (l:=l) (m:=m.erase a) hn'.2 (λx hx=>by
   rw[List.mem_erase_of_ne<|λe=>hn'.1 (by rw[<-e];exact hx)]
   exact hs x (g9 _ hx))
  rw[List.length_erase_of_mem ha]at this;have:=List.length_pos_of_mem ha;simp;omega
section
variable {α:Type}{N:Nat}
def OU(z:α)(N:Nat)(p0:List α)(p1:α->Option Bool):Option (List α):=
 (uv p0 p1).bind λx31=>bif x31==(-1)then some p0 else((j6 (λ(s33:List α×Int×Int)=>(bif decide (s33.2.2<(s33.1.length:Int))then((idx s33.1 s33.2.2).bind λx54=>(p1 x54).bind λx58=>(bif(!x58)then((idx s33.1 s33.2.1).bind λx63=>some (s33.1.set (Int.toNat s33.2.1) x54,wrap .i64<|s33.2.1+1))else some (s33.1,s33.2.1)).bind λs61=>some<|.nx (s61.1,s61.2,wrap .i64<|s33.2.2+1))else(some<|.br (s33.1,s33.2.1,s33.2.2)):Option (Fl (List α×Int×Int) Empty))) N (p0,x31,wrap .i64<|x31+1)).bind λo67=>o67.cs (λ(s33:List α×Int×Int)=>(uY s33.1 s33.2.1 (s33.1.length:Int)).bind λx64=>(uY (s33.1.take (Int.toNat s33.2.1)++List.replicate (s33.1.length - Int.toNat s33.2.1) z) 0 s33.2.1).bind λx65=>some x65)<|λr=>r.elim)
theorem JV{z:α}{l:List α}{φ:α->Option Bool}(p:α->Bool)(hφ:∀x∈l,φ x=some (p x))(hl:l.length<=4611686018427387000)(hN:l.length<N):OU z N l φ=some (l.filter<|λx=> !p x):=by
 unfold OU;rw[xm p (by omega) hφ,aB]
 rcases wC l p with⟨h1,h2⟩|⟨k,x,h1,h2,h3,h4⟩
 ·rw[h1];have:l.filter (λx=> !p x)=l:=List.filter_eq_self.2 λa ha=>by rw[h2 a ha];rfl
  rw[this];rfl
 ·rw[h1,show(((k:Nat):Int)== -1)=false by simp,aQ];have hk:=(bA.1 h2).1;have hpre:(l.take k).filter (λx=> !p x)=l.take k:=List.filter_eq_self.2 λa ha=>by
   obtain⟨j,hj⟩:=eO ha;have hjk:j<k:=by have:=(bA.1 hj).1;rw[cQ]at this;omega
   rw[List.getElem?_take_of_lt hjk]at hj;rw[h4 j a hjk hj];rfl
  have hst:l.take (k+1)=l.take k++[x]:=by
   rw[fq hk];congr 1;have:=(bA.1 h2).2;rw[this]
  have hk1:wrap .i64 (((k:Nat):Int)+1)=((k+1:Nat):Int):=by rw[eU (by omega) (by omega)];omega
  rw[hk1];obtain⟨o,a1,a2⟩:=yC (S:=List α×Int×Int) (R:=Empty) (body:=λ(s33:List α×Int×Int)=>(bif decide (s33.2.2<(s33.1.length:Int))then((idx s33.1 s33.2.2).bind λx54=>(φ x54).bind λx58=>(bif(!x58)then((idx s33.1 s33.2.1).bind λx63=>some (s33.1.set (Int.toNat s33.2.1) x54,wrap .i64<|s33.2.1+1))else some (s33.1,s33.2.1)).bind λs61=>some<|.nx (s61.1,s61.2,wrap .i64<|s33.2.2+1))else(some<|.br (s33.1,s33.2.1,s33.2.2)):Option (Fl (List α×Int×Int) Empty)))
   (λs=>∃i j:Nat,s.2.1=((i:Nat):Int)/\s.2.2=((j:Nat):Int)/\i<j/\j<=l.length/\s.1.length=l.length/\s.1.take i=(l.take j).filter (λx=> !p x)/\∀m,j<=m->s.1[m]? =l[m]?)
   (λs=>l.length - s.2.2.toNat) (λs=>∃i:Nat,s.2.1=((i:Nat):Int)/\i<=l.length/\s.1.length=l.length/\s.1.take i=l.filter (λx=> !p x)) (λ_=>True) (λs⟨i,j,e1,e2,hij,hj,hlen,ht,hd⟩=>by
    obtain⟨s,a,b⟩:=s;dsimp only at e1 e2 hlen ht hd ⊢;subst e1;subst e2
    by_cases hlt:j<l.length
    ·rw[bL (by rw[hlen];omega),aO];have hx:s[j]? =some l[j]:=by rw[hd j<|bR _];exact aP hlt
     have w1:wrap .i64 (((j:Nat):Int)+1)=((j+1:Nat):Int):=by rw[eU (by omega) (by omega)];omega
     have w2:wrap .i64 (((i:Nat):Int)+1)=((i+1:Nat):Int):=by rw[eU (by omega) (by omega)];omega
     have hs2:l.take (j+1)=l.take j++[l[j]]:=fq hlt;rw[dS hx,aB,hφ _<|cU hlt,aB,w1]
     cases hp:p l[j]with
     |true=>
      refine⟨.nx (s,((i:Nat):Int),((j+1:Nat):Int)),by rw[lf,aQ,aB],⟨i,j+1,rfl,rfl,by omega,by omega,hlen,?_,λm hm=>hd m (by omega)⟩,?_⟩
      ·rw[hs2,kJ,ht];simp[hp]
      ·simp only[cI];omega
     |false=>
      refine⟨.nx (s.set i l[j],((i+1:Nat):Int),((j+1:Nat):Int)),by rw[oW,aO,lj _ _ (by omega),aB,cI,w2,aB],⟨i+1,j+1,rfl,rfl,by omega,by omega,by simp[hlen],?_,λm hm=>?_⟩,?_⟩
      ·rw[hs2,kJ,<-ht];have:(s.set i l[j]).take (i+1)=s.take i++[l[j]]:=by
        rw[fq (by simp;omega),List.take_set_of_le<|bR _];simp
       rw[this];simp[hp]
      ·rw[fA,aD (by omega)];exact hd m (by omega)
      ·simp only[cI];omega
    ·rw[bO (by rw[hlen];omega),aQ];have hje:j=l.length:=by omega
     subst hje;rw[fS]at ht
     exact⟨.br (s,((i:Nat):Int),((l.length:Nat):Int)),rfl,i,rfl,by omega,hlen,ht⟩)
   N (l,((k:Nat):Int),((k+1:Nat):Int)) ⟨k,k+1,rfl,rfl,by omega,by omega,rfl,by rw[hst,kJ,hpre];simp[h3],λ_ _=>rfl⟩ (by simp only[cI];omega)
  rw[a1,aB]
  cases o with
  |rt r=>exact r.elim
  |go s=>
   obtain⟨i,e1,hi,hlen,ht⟩:=a2;obtain⟨s,a,b⟩:=s;dsimp only at e1 hlen ht;subst e1;simp only[Fo.cs];rw[rP _ _ (by omega),aB,cI,tx _ _ (by simp;omega),aB,List.take_append_of_le_length (by simp;omega),List.take_take,Nat.min_self,ht]
end
section
variable {κ ν:Type}[DecidableEq κ]
theorem pM(m:List (κ×ν))(k k':κ)(x z:ν):fC (ql m k x) k' z=if k'=k then x else fC m k' z:=by
 induction m with
 |nil=>unfold ql fC;by_cases h:k'=k <;> simp[h]
 |cons p m ih=>
  unfold ql
  by_cases h:k=p.1
  ·rw[aC h]
   by_cases h':k'=k
   ·subst h';simp[fC]
   ·simp only[fC,List.find?_cons,aD h',bO h'];rw[bO<|λe=>h'<|e.trans h.symm]
  ·rw[aD h]
   by_cases h':k'=p.1
   ·have:k'≠k:=λe=>h<|e.symm.trans h'
    simp only[fC,List.find?_cons,bL h',aD this]
   ·unfold fC at ih ⊢;simp only[List.find?_cons,bO h'];exact ih
theorem tP(m:List (κ×ν))(k k':κ)(x:ν):lL (ql m k x) k'=(decide (k'=k)||lL m k'):=by
 induction m with
 |nil=>unfold ql lL;simp
 |cons p m ih=>
  unfold ql
  by_cases h:k=p.1
  ·rw[aC h]
   by_cases h':k'=k
   ·simp[lL,h']
   ·simp only[lL,List.any_cons,bO h',Bool.false_or];rw[bO<|λe=>h'<|e.trans h.symm,Bool.false_or]
  ·rw[aD h];unfold lL at ih ⊢;simp only[List.any_cons];rw[ih]
   cases decide (k'=p.1) <;> cases decide (k'=k) <;> simp
end
section
variable {N:Nat}
theorem BF(l:List Int)(a b:Nat)(h:a+b<l.length):Gt l ((a:Nat):Int) ((b:Nat):Int)=some l[a+b]:=by
 unfold Gt;rw[aC (by omega),show((a:Nat):Int)+((b:Nat):Int)=((a+b:Nat):Int)by omega,lj _ _ h]
theorem jT.JW{l:List Int}{a:Int}(h:jT l)(hl:∀c∈l,c<a):jT (l++[a]):=by
 unfold jT;rw[nj];exact⟨h,List.pairwise_singleton _ _,λc hc d hd=>by simp at hd;subst hd;exact hl c hc⟩
theorem jT.last{l:List Int}{a:Int}(h:jT l)(hl:l.getLast? =some a):∀c∈l,c<=a:=by
 intro c hc;have hs:=r6 hl;rw[hs]at h hc
 rcases dH.1 hc with h1|h1
 ·have:=(nj.1 h).2.2 c h1 a (by simp);omega
 ·simp at h1;omega
theorem D9{l:List Int}(hs:l.Pairwise (λx y=>x<=y))(hl:l.length<=4611686018427387000)(hN:l.length<N):
  Ok (hU N l) (λm=>jT m/\∀c,c∈m↔c∈l):=by
 unfold hU;refine R9 (λh2=>RJ ⟨?_,λc=>Iff.rfl⟩)<|λh2=>?_
 ·have h2:=of_decide_eq_true h2
  match l,h2 with
  | [],_=>exact jX
  | [a],_=>exact List.pairwise_singleton _ _
  |a::b::l,h2=>simp at h2;omega
 ·have h2:=of_decide_eq_false h2;have le:∀(i j:Nat)(x y:Int),i<j->l[i]? =some x->l[j]? =some y->x<=y:=λi j x y hij hx hy=>by
   have:=mF.1 hs i j (bA.1 hx).1 (bA.1 hy).1 hij;rw[(bA.1 hx).2,(bA.1 hy).2]at this;exact this
  refine RP (SS (Go:=λ_=>jT l) (Rt:=λm=>jT m/\∀c,c∈m↔c∈l) (λs=>∃k:Nat,s=((k:Nat):Int)/\1<=k/\k<=l.length/\jT (l.take k)) (λs=>l.length - s.toNat) ?_ ⟨1,rfl,bR _,by omega,?_⟩ (by simp;omega)) ?_
  ·rintro s⟨k,rfl,hk1,hkl,hinc⟩;refine R9 (λh=>?_)<|λh=>Sn ?_
   ·have hk:k<l.length:=by have:=of_decide_eq_true h;omega
    refine SA hk ?_;rw[je hk1 (by omega)];refine SA (by omega) ?_;refine R9 (λhe=>?_)<|λhe=>?_
    ·have he:l[k]=l[k - 1]:=by simpa using he
     refine RE (rP l k hkl) ?_
     refine RP (SS (Go:=λs=>∃i:Nat,s.2.1=((i:Nat):Int)/\i<=l.length/\s.1.length=l.length/\jT (s.1.take i)/\∀c,c∈s.1.take i↔c∈l) (Rt:=λ_=>True)
      (λs=>∃i j:Nat,s.2.1=((i:Nat):Int)/\s.2.2=((j:Nat):Int)/\1<=j/\k+j<=l.length/\i<=k+j - 1/\s.1.length=l.length/\jT (s.1.take i)/\(s.1.take i).getLast? =l[k+j - 1]? /\
       (∀c,c∈s.1.take i↔c∈l.take (k+j))/\∀m,k+j - 1<=m->s.1[m]? =l[m]?) (λs=>l.length - s.2.2.toNat) ?_ ?_ (by simp;omega)) ?_
     ·rintro⟨u,a,b⟩⟨i,j,e1,e2,hj,hjl,hij,hlen,hi,hlast,hmem,hrest⟩;dsimp only at e1 e2 hlen hi hlast hmem hrest ⊢;subst e1;subst e2;rw[cI];refine R9 (λh=>?_)<|λh=>Sn ?_
      ·have hlt:k+j<l.length:=by have:=of_decide_eq_true h;omega
       have hx:u[k+j]'(by omega)=l[k+j]:=by have:=hrest (k+j) (by omega);rw[aP (by omega),aP hlt]at this;injection this
       have hy:u[k+(j - 1)]'(by omega)=l[k+(j - 1)]:=by have:=hrest (k+(j - 1)) (by omega);rw[aP (by omega),aP (by omega)]at this;injection this
       refine RE (BF u k j (by omega)) ?_;rw[je hj (by omega)];refine RE (BF u k (j - 1) (by omega)) ?_;rw[hx,hy];have hts:l.take (k+j+1)=l.take (k+j)++[l[k+j]]:=fq hlt;have hlast':(u.take i).getLast? =some l[k+(j - 1)]:=by rw[hlast,show k+j - 1=k+(j - 1)by omega,aP (by omega)]
       have hxy:l[k+(j - 1)]<=l[k+j]:=le (k+(j - 1)) (k+j) _ _ (by omega) (aP _)<|aP _
       refine RP (P:=λs'=>s'.1.length=l.length/\∃i':Nat,s'.2=((i':Nat):Int)/\i'<=k+j/\jT (s'.1.take i')/\(s'.1.take i').getLast? =l[k+j]? /\(∀c,c∈s'.1.take i'↔c∈l.take (k+j+1))/\∀m,k+j<=m->s'.1[m]? =l[m]?) ?_ ?_
       ·refine R9 (λhne=>?_)<|λhne=>RJ ?_
        ·have hne:l[k+j]≠l[k+(j - 1)]:=by simpa using hne
         refine RE (BF u k j (by omega)) ?_;rw[hx];refine SA (by omega)<|RJ ⟨by simp[hlen],i+1,?_,by omega,?_⟩
         ·rw[cD (by omega)]
         ·dsimp only;rw[cI];have ht:(u.set i l[k+j]).take (i+1)=u.take i++[l[k+j]]:=by
           rw[fq (by simp;omega),List.take_set_of_le<|bR _];simp
          rw[ht];refine⟨hi.JW λc hc=>?_,by simp[aP hlt],λc=>?_,λm hm=>?_⟩
          ·have:=hi.last hlast' c hc;omega
          ·rw[hts,dH,dH,hmem]
          ·rw[fA,aD (by omega)];exact hrest m (by omega)
        ·have he:l[k+j]=l[k+(j - 1)]:=by simpa using hne
         refine⟨hlen,i,rfl,by omega,hi,?_,λc=>?_,λm hm=>hrest m (by omega)⟩
         ·dsimp only;rw[hlast',aP hlt,he]
         ·rw[hts,dH,<-hmem];constructor
          ·exact .inl
          ·rintro(h|h)
           ·exact h
           ·simp at h;subst h;rw[he];exact List.mem_of_getLast? hlast'
       ·rintro⟨v,a⟩⟨g1,i',g2,g3,g4,g5,g6,g7⟩;dsimp only at g1 g2 g4 g5 g6 g7 ⊢;refine Si ⟨⟨i',j+1,g2,?_,by omega,by omega,by omega,g1,g4,?_,g6,λm hm=>g7 m (by omega)⟩,?_⟩
        ·rw[cD (by omega)]
        ·rw[show k+(j+1) - 1=k+j by omega];exact g5
        ·rw[cD (by omega)];simp only[cI];omega
      ·have hge:k+j=l.length:=by have:=of_decide_eq_false h;omega
       refine⟨i,rfl,by omega,hlen,hi,λc=>?_⟩;rw[hmem,hge,fS]
     ·refine⟨k,1,rfl,rfl,bR _,by omega,by omega,rfl,hinc,?_,λc=>?_,λm _=>rfl⟩
      ·dsimp only;rw[show k+1 - 1=k by omega,aP hk,he,List.getLast?_eq_getElem?,cQ,Nat.min_eq_left hkl,List.getElem?_take_of_lt (by omega),aP (by omega)]
      ·dsimp only;rw[fq hk,dH];constructor
       ·exact .inl
       ·rintro(h|h)
        ·exact h
        ·simp at h;subst h;rw[he];refine gq (i:=k - 1) ?_;rw[List.getElem?_take_of_lt (by omega),aP (by omega)]
     ·rintro o ho;refine Sm ho ?_<|λr=>r.elim
      rintro⟨u,a,b⟩⟨i,e1,hi,hlen,hinc',hmem⟩;dsimp only at e1 hlen hinc' hmem ⊢;subst e1;refine RE (rP u i (by omega)) ?_;rw[cI];refine RE (tx _ i (by simp;omega))<|SC ?_
      rw[List.take_append_of_le_length (by simp;omega),List.take_take,Nat.min_self];exact⟨hinc',hmem⟩
    ·have he:l[k]≠l[k - 1]:=by simpa using he
     refine Si ⟨⟨k+1,by rw[cD (by omega)],by omega,by omega,?_⟩,by rw[cD (by omega)];simp only[cI];omega⟩;rw[fq hk];refine hinc.JW λc hc=>?_;have hlast:(l.take k).getLast? =some l[k - 1]:=by
      rw[List.getLast?_eq_getElem?,cQ,Nat.min_eq_left hkl,List.getElem?_take_of_lt (by omega),aP (by omega)]
     have h3:=hinc.last hlast c hc;have h4:=le (k - 1) k _ _ (by omega) (aP (by omega:k - 1<l.length))<|aP hk
     omega
   ·have hge:k=l.length:=by have:=of_decide_eq_false h;omega
    subst hge;rw[fS]at hinc;exact hinc
  ·match l,h2 with
   | [],h2=>simp at h2
   |a::l,_=>exact List.pairwise_singleton _ _
  ·rintro o ho;exact Sm ho (λs h=>RJ ⟨h,λc=>Iff.rfl⟩)<|λr h=>RJ h
def tQ(l:List aH):List Int:=l.flatMap λr=>[r.X0,r.X1]
def jm(l:List aH):List Int:=l.flatMap λr=>[r.Y0,r.Y1]
theorem tR{l:List aH}{c:Int}:c∈tQ l↔∃r∈l,c=r.X0\/c=r.X1:=by unfold tQ;simp[List.mem_flatMap]
theorem lG{l:List aH}{c:Int}:c∈jm l↔∃r∈l,c=r.Y0\/c=r.Y1:=by unfold jm;simp[List.mem_flatMap]
theorem ma(l:List aH):(tQ l).length=2*l.length:=by
 induction l with
 |nil=>rfl
 |cons r l ih=>unfold tQ at *;simp[List.flatMap_cons,ih];omega
theorem jw(l:List aH):(jm l).length=2*l.length:=by
 induction l with
 |nil=>rfl
 |cons r l ih=>unfold jm at *;simp[List.flatMap_cons,ih];omega
def yb(X Y:List Int)(s:List Bd):Prop:=∀b∈s,b.y0∈Y/\b.y1∈Y/\∀c∈b.xs,c∈X
theorem yb.push{X Y:List Int}{s:List Bd}{b:Bd}(h:yb X Y s)(h0:b.y0∈Y)(h1:b.y1∈Y)(h2:∀c∈b.xs,c∈X):yb X Y (jD s b):=by
 intro c hc;unfold jD at hc;split at hc
 ·exact h c hc
 ·split at hc
  ·rename_i d hd;have hdm:d∈s:=List.mem_of_getLast? hd;split at hc
   ·rcases dH.1 hc with hc|hc
    ·exact h c<|List.dropLast_subset _ hc
    ·simp at hc;subst hc;exact⟨(h d hdm).1,h1,(h d hdm).2.2⟩
   ·rcases dH.1 hc with hc|hc
    ·exact h c hc
    ·simp at hc;subst hc;exact⟨h0,h1,h2⟩
  ·simp at hc;subst hc;exact⟨h0,h1,h2⟩
theorem jT.nodup{l:List Int}(h:jT l):l.Nodup:=List.Pairwise.imp (λh=>by omega) h
theorem yb.row{X Y:List Int}{s:List Bd}(h:yb X Y s)(hc:eR s){b:Bd}(hb:b∈s):b.xs.length<=X.length:=fP (hc.each b hb).2.2.1.nodup (h b hb).2.2
theorem yb.len{X Y:List Int}{s:List Bd}(h:yb X Y s)(hc:eR s):s.length<=Y.length:=by
 have hn:(s.map Bd.y0).Nodup:=by
  unfold List.Nodup;rw[List.pairwise_map];refine List.Pairwise.imp_of_mem (λ{a b}ha hb hab=>?_) hc.ord;have:=(hc.each a ha).1;have:=hab.1;omega
 have:=fP hn (m:=Y) (λx hx=>by
  obtain⟨b,hb,rfl⟩:=cY.1 hx
  exact(h b hb).1)
 rwa[dY]at this
theorem yb.mono{X Y X' Y':List Int}{s:List Bd}(h:yb X Y s)(hx:∀c∈X,c∈X')(hy:∀c∈Y,c∈Y'):yb X' Y' s:=λb hb=>⟨hy _ (h b hb).1,hy _ (h b hb).2.1,λc hc=>hx c<|(h b hb).2.2 c hc⟩
theorem Iu(s:List Bd)(b:Bd):(jD s b).length<=s.length+1:=by
 unfold jD;split
 ·omega
 ·split
  ·rename_i d hd;have hsp:=r6 hd;have:s.length=s.dropLast.length+1:=by
    conv=>lhs;rw[hsp]
    simp
   split <;> simp <;> omega
  ·simp
theorem jT.lt{l:List Int}(h:jT l){i j:Nat}{x y:Int}(hij:i<j)(hx:l[i]? =some x)(hy:l[j]? =some y):x<y:=by
 have:=mF.1 h i j (bA.1 hx).1 (bA.1 hy).1 hij;rw[(bA.1 hx).2,(bA.1 hy).2]at this;exact this
theorem jT.next{l:List Int}(h:jT l){k:Nat}{x y c:Int}(hx:l[k]? =some x)(hy:l[k+1]? =some y)(hc:c∈l)(hxc:x<c):y<=c:=by
 obtain⟨j,hj⟩:=eO hc
 rcases Nat.lt_trichotomy j (k+1)with h1|h1|h1
 ·exfalso
  by_cases e:j=k
  ·subst e;rw[hx]at hj;injection hj with hj;omega
  ·have:=h.lt (show j<k by omega) hj hx;omega
 ·subst h1;rw[hy]at hj;injection hj with hj;omega
 ·have:=h.lt h1 hy hj;omega
theorem xY{l:List aH}{φ:aH->Option Bool}(p:aH->Bool)(hφ:∀x∈l,φ x=some (p x))(hl:l.length<=4611686018427387000)(hN:l.length<N):iP N l φ=some (l.filter<|λx=> !p x):=
 JV (z:=(⟨0,0,0,0⟩:aH)) p hφ hl hN
theorem CG{l:List aH}(hl:l.length<=268435456):jy N l=some l:=by
 unfold jy;rw[kR (by simp;omega),aB,List.nil_append]
structure OV (l m:List aH) (ys:List Int) (k:Nat) (out:List aA) (now:List aH) (nx:Nat):Prop where
 can:eR (out.map bY)
 top:∀c∈out,∀y,ys[k]? =some y->c.Y1<=y
 cover:∀x y,vh (out.map bY) x y=(vf l x y&&decide (∀a,ys[k]? =some a->y<a))
 lim:yb (tQ l) (jm l) (out.map bY)
 Rs:∀r∈now,r∈m.take nx
 Ru:∀r∈m.take nx,∀y,ys[k]? =some y->y<r.Y1->r∈now
 len:now.length<=nx
 QY:nx<=m.length
 rest:∀(j:Nat)r y,nx<=j->m[j]? =some r->ys[k]? =some y->y<=r.Y0
 low:∀r∈now,∀y,ys[k]? =some y->r.Y0<=y
theorem Lb{l m:List aH}(h:∀r,r∈l↔r∈m)(x y:Int):vf l x y=vf m x y:=by
 rw[dZ,jl,jl];constructor
 ·rintro⟨r,hr,h1⟩;exact⟨r,(h r).1 hr,h1⟩
 ·rintro⟨r,hr,h1⟩;exact⟨r,(h r).2 hr,h1⟩
structure r7 (l:List aH) (s:List aA):Prop where
 can:eR (s.map bY)
 cover:∀x y,vh (s.map bY) x y=vf l x y
 lim:yb (tQ l) (jm l) (s.map bY)
theorem pN{l:List aH}(hl:l.length<=134217728)(hok:∀r∈l,C9 r)(hN:4294967296<=N):Ok (il N l) (r7 l):=by
 unfold il;refine RE (CG (by omega)) ?_
 obtain⟨m,h1,h2,h3⟩:=Bw (φ:=kg N) (l:=l) (λa b=>a.Y0 - b.Y0) (λa ha b hb=>by
  unfold kg;rw[wrap_small (hok a ha).s3 (hok b hb).s3]) (λa _=>by omega) (λa _ b _ c _ h1 h2=>by omega) (λa _ b _ c _ h1 h2=>by omega) (by omega)
 refine RE h1 ?_;have hml:m.length=l.length:=h2.length_eq;have hmem:∀r,r∈m↔r∈l:=λr=>h2.mem_iff;refine RP (SR (λk s=>s=jm (m.take k)) (by omega) rfl<|λk s hk e=>?_) ?_
 ·subst e;refine SA hk<|SB ?_<|RJ ?_
  ·rw[jw];simp;omega
  ·rw[fq hk];unfold jm;rw[List.flatMap_append];rfl
 rintro s rfl;rw[fS];have hgs:vn (jm m)=some ((jm m).mergeSort<|λx y=>decide<|x<=y):=by unfold vn;rw[aC (by rw[jw];omega)]
 refine RE hgs ?_;have hsp:((jm m).mergeSort<|λx y=>decide<|x<=y).Pairwise (λx y=>x<=y):=by
  have:=List.pairwise_mergeSort (le:=λ(x y:Int)=>decide<|x<=y) (λa b c h1 h2=>by simp at *;omega) (λa b=>by simp;omega)<|jm m
  exact List.Pairwise.imp (λh=>by simpa using h) this
 have hsm:∀c,c∈(jm m).mergeSort (λx y=>decide<|x<=y)↔c∈jm m:=λc=>List.mem_mergeSort;have hsl:((jm m).mergeSort<|λx y=>decide<|x<=y).length=2*m.length:=by rw[List.length_mergeSort,jw]
 generalize (jm m).mergeSort (λx y=>decide<|x<=y)=sy at hsp hsm hsl;refine RP (D9 (N:=N) hsp (by omega) (by omega)) ?_;rintro ys⟨hy,hym⟩;have hyl:ys.length<=2*m.length:=by
  have:=fP hy.nodup (m:=sy)<|λc hc=>(hym c).1 hc
  omega
 have y0m:∀r∈m,r.Y0∈ys:=λr hr=>(hym _).2<|(hsm _).2<|lG.2 ⟨r,hr, .inl rfl⟩
 have y1m:∀r∈m,r.Y1∈ys:=λr hr=>(hym _).2<|(hsm _).2<|lG.2 ⟨r,hr, .inr rfl⟩
 have yml:∀c∈ys,c∈jm l:=λc hc=>by
  obtain⟨r,hr,h⟩:=lG.1<|(hsm _).1<|(hym _).1 hc
  exact lG.2 ⟨r,(hmem r).1 hr,h⟩
 refine RP (SS (Go:=λs=>r7 l s.1) (Rt:=λ_=>True) (λs=>∃k nx:Nat,s.2.2.2=((k:Nat):Int)/\s.2.2.1=((nx:Nat):Int)/\(k<ys.length\/k=0)/\OV l m ys k s.1 s.2.1 nx) (λs=>ys.length - s.2.2.2.toNat) ?_ ?_ (by simp;omega)) ?_
 ·rintro⟨out,now,a,b⟩⟨k,nx,e1,e2,hk,I⟩;dsimp only at e1 e2 I ⊢;subst e1;subst e2;rw[cD (by omega)];refine R9 (λh=>?_)<|λh=>Sn ?_
  ·have hk1:k+1<ys.length:=by have:=of_decide_eq_true h;omega
   have hyk:ys[k]? =some ys[k]:=aP _;have hyk1:ys[k+1]? =some ys[k+1]:=aP hk1;have hlt:=hy.lt (Nat.lt_succ_self k) hyk hyk1;have hcov:=I.cover;simp only[hyk,Option.some.injEq,forall_eq']at hcov;refine RE (xY (λr=>decide<|r.Y1<=ys[k]) (λr _=>by unfold o5;rw[lj ys k (by omega),aB]) (by have:=I.len;have:=I.QY;omega) (by have:=I.len;have:=I.QY;omega)) ?_;have hfl:=oV (λr:aH=> !decide (r.Y1<=ys[k])) now;have hIl:=I.len;have hIn:=I.QY
   refine RP (SS (Go:=λs=>∃nx':Nat,s.2=((nx':Nat):Int)/\nx'<=m.length/\s.1.length<=nx'/\(∀r∈s.1,r∈m.take nx')/\(∀r∈m.take nx',ys[k]<r.Y1->r∈s.1)/\(∀r∈s.1,r.Y0<=ys[k]/\ys[k]<r.Y1)/\(∀(j:Nat)r,nx'<=j->m[j]? =some r->ys[k]<r.Y0)) (Rt:=λ_=>True)
    (λs=>∃nx':Nat,s.2=((nx':Nat):Int)/\nx<=nx'/\nx'<=m.length/\s.1.length<=nx'/\(∀r∈s.1,r∈m.take nx')/\(∀r∈m.take nx',ys[k]<r.Y1->r∈s.1)/\(∀r∈s.1,r.Y0<=ys[k]/\ys[k]<r.Y1)) (λs=>m.length - s.2.toNat) ?_ ?_ (by simp;omega)) ?_
   ·rintro⟨nw,b⟩⟨nx',e1,g0,g1,g2,g3,g4,g5⟩;dsimp only at e1 g2 g3 g4 g5 ⊢;subst e1;refine RP (P:=λb=>b=true↔∃h:nx'<m.length,m[nx'].Y0<=ys[k]) ?_ ?_
    ·refine R9 (λh=>?_)<|λh=>RJ ?_
     ·have hlt:nx'<m.length:=by have:=of_decide_eq_true h;omega
      refine SA hlt<|SA (by omega)<|RJ ?_
      rw[bF];exact⟨λh=>⟨hlt,h⟩,λ⟨_,h⟩=>h⟩
     ·have:=of_decide_eq_false h;constructor
      ·intro h;cases h
      ·rintro⟨h,_⟩;omega
    ·intro bb hbb;refine R9 (λh=>?_)<|λh=>Sn ?_
     ·obtain⟨hlt,h0⟩:=hbb.1 h;have hts:m.take (nx'+1)=m.take nx'++[m[nx']]:=fq hlt;refine SA hlt<|SB (by simp;omega)<|Si ⟨⟨nx'+1,by rw[cD (by omega)],by omega,by omega,by simp;omega,λr hr=>?_,λr hr hr2=>?_,λr hr=>?_⟩,by rw[cD (by omega)];simp only[cI];omega⟩
      ·rw[hts]
       rcases dH.1 hr with h|h
       ·exact List.mem_append_left _<|g3 r h
       ·exact List.mem_append_right _ h
      ·rw[hts]at hr
       rcases dH.1 hr with h|h
       ·exact List.mem_append_left _<|g4 r h hr2
       ·exact List.mem_append_right _ h
      ·rcases dH.1 hr with h|h
       ·exact g5 r h
       ·simp at h;subst h;refine⟨h0,?_⟩;have:=(hok m[nx']<|(hmem _).1<|cU hlt).y;have:=I.rest nx' _ ys[k] g0 (aP hlt) hyk;omega
     ·refine⟨nx',rfl,g1,g2,g3,g4,g5,λj r hj hr=>?_⟩;have hjl:=(bA.1 hr).1;have hlt:nx'<m.length:=by omega
      have h0:¬m[nx'].Y0<=ys[k]:=λh0=>by rw[hbb.2 ⟨hlt,h0⟩]at h;cases h
      by_cases e:nx'=j
      ·subst e;rw[aP hlt]at hr;injection hr with hr;subst hr;omega
      ·have:=mF.1 h3 nx' j hlt hjl (by omega);have hr':=(bA.1 hr).2;rw[hr']at this;omega
   ·refine⟨nx,rfl,bR _,hIn,by dsimp only;omega,λr hr=>I.Rs r (k9.1 hr).1,λr hr h=>k9.2 ⟨I.Ru r hr ys[k] hyk h,by simpa using h⟩,λr hr=>?_⟩;have hr:=k9.1 hr;have hr2:ys[k]<r.Y1:=by simpa using hr.2
    exact⟨I.low r hr.1 ys[k] hyk,hr2⟩
   ·rintro o ho;refine Sm ho ?_<|λr=>r.elim
    rintro⟨nw,b⟩⟨nx',e1,g1,g2,g3,g4,g5,g6⟩;dsimp only at e1 g2 g3 g4 g5 ⊢;subst e1;refine SA (by omega)<|SA hk1 ?_
    have hnm:∀r∈nw,r∈l:=λr hr=>(hmem r).1<|List.take_subset _ _<|g3 r hr
    obtain⟨row,nw',s1,s2,s3,s4,s5,s6,s7⟩:=D6 (N:=N) (l:=nw) (by omega)<|λr hr=>hok r<|hnm r hr
    refine RE s1 ?_;have hlimx:∀c∈row,c∈tQ l:=λc hc=>by
     obtain⟨r,hr,h⟩:=s7 c hc;exact tR.2 ⟨r,hnm r hr,h⟩
    have hol:out.length<=2*l.length:=by have:=I.lim.len I.can;rw[jw,dY]at this;exact this
    have hox:∀c∈out,c.Xs.length<=2*l.length:=λc hc=>by
     have:=I.lim.row I.can (b:=bY c)<|cY.2 ⟨c,hc,rfl⟩
     rw[ma]at this;exact this
    obtain⟨out',p1,p2⟩:=HF (N:=N) (s:=out) (b:=⟨ys[k],ys[k+1],row⟩) (by omega) (λc hc=>by have:=hox c hc;omega);refine RE p1 ?_;have htop:∀c∈out.map bY,c.y1<=(bY ⟨ys[k],ys[k+1],row⟩).y0:=λc hc=>by
     obtain⟨d,hd,rfl⟩:=cY.1 hc;exact I.top d hd ys[k] hyk
    have hcan:=wF I.can htop s3 s4;refine Si ⟨⟨k+1,nx',rfl,rfl, .inl hk1,⟨by dsimp only;rw[p2];exact hcan,λc hc y hy1=>?_,λx y=>?_,?_,λr hr=>g3 r<|s2.subset hr,λr hr y hy1 h=>?_,by rw[s2.length_eq];exact g2,g1,λj r y hj hr hy1=>?_,λr hr y hy1=>?_⟩⟩,by simp only[cI];omega⟩
    ·rw[hyk1]at hy1;injection hy1 with hy1;subst hy1
     have hm':bY c∈jD (out.map bY) (bY ⟨ys[k],ys[k+1],row⟩):=by rw[<-p2];exact cY.2 ⟨c,hc,rfl⟩
     exact wG htop (by show ys[k]<=ys[k+1];omega) _ hm'
    ·simp only[hyk1,Option.some.injEq,forall_eq'];unfold vh;rw[p2,wE htop (λc hc=>(I.can.each c hc).1)<|λh=>absurd h (by show ¬ys[k+1]<=ys[k];omega)]
     by_cases hyy:ys[k]<=y/\y<ys[k+1]
     ·rw[aC (show(bY ⟨ys[k],ys[k+1],row⟩).y0<=y/\y<(bY ⟨ys[k],ys[k+1],row⟩).y1 from hyy),bL hyy.2,Bool.and_true];show pw row x=_;rw[s5,dZ,BD,jl];constructor
      ·rintro⟨r,hr,h⟩;have hrm:=List.take_subset _ _<|g3 r hr
       have h5:=g5 r hr;have:=hy.next hyk hyk1 (y1m r hrm) h5.2;exact⟨r,hnm r hr,h,by omega,by omega⟩
      ·rintro⟨r,hr,h,h7,h8⟩;have hrm:=(hmem r).2 hr;have h9:r.Y0<=ys[k]:=by
        by_cases h10:r.Y0<=ys[k]
        ·exact h10
        ·have:=hy.next hyk hyk1 (y0m r hrm) (by omega);omega
       have h11:r∈m.take nx':=by
        obtain⟨j,hj⟩:=eO hrm
        by_cases h12:j<nx'
        ·exact gq (i:=j) (by rw[List.getElem?_take_of_lt h12];exact hj)
        ·have:=g6 j r (by omega) hj;omega
       exact⟨r,g4 r h11 (by omega),h⟩
     ·rw[aD (show ¬((bY ⟨ys[k],ys[k+1],row⟩).y0<=y/\y<(bY ⟨ys[k],ys[k+1],row⟩).y1)from hyy)];show vh (out.map bY) x y=_;rw[hcov]
      by_cases h1:y<ys[k]
      ·rw[bL h1,bL (show y<ys[k+1]by omega)]
      ·rw[bO h1,bO (show ¬y<ys[k+1]by omega)]
    ·show yb (tQ l) (jm l) (out'.map bY);rw[p2];exact I.lim.push (yml _<|cU _) (yml _<|cU _) hlimx
    ·rw[hyk1]at hy1;injection hy1 with hy1;subst hy1
     exact s2.symm.subset<|g4 r hr (by omega)
    ·rw[hyk1]at hy1;injection hy1 with hy1;subst hy1
     exact hy.next hyk hyk1 (y0m r<|gq hr)<|g6 j r hj hr
    ·rw[hyk1]at hy1;injection hy1 with hy1;subst hy1
     have:=(g5 r<|s2.subset hr).1;omega
  ·have hge:¬k+1<ys.length:=by have:=of_decide_eq_false h;omega
   refine⟨I.can,λx y=>?_,I.lim⟩;rw[I.cover]
   by_cases hyn:ys= []
   ·have:vf l x y=false:=by
     rw[<-ld,jl];rintro⟨r,hr,_⟩;have:=y0m r<|(hmem r).2 hr
     rw[hyn]at this;cases this
    rw[this];rfl
   ·have hkl:k<ys.length:=by
     rcases hk with h|h
     ·exact h
     ·subst h;exact List.length_pos_iff.2 hyn
    rw[aP hkl];simp only[Option.some.injEq,forall_eq']
    cases hc:vf l x y with
    |false=>rfl
    |true=>
     obtain⟨r,hr,_,h7,h8⟩:=jl.1 hc;have:=y1m r<|(hmem r).2 hr
     obtain⟨j,hj⟩:=eO this;have hjl:=(bA.1 hj).1;have:r.Y1<=ys[k]:=by
      by_cases e:j=k
      ·subst e;rw[aP hkl]at hj;injection hj with hj;omega
      ·have:=hy.lt (show j<k by omega) hj<|aP hkl;omega
     rw[bL (show y<ys[k]by omega)];rfl
 ·refine⟨0,0,rfl,rfl, .inr rfl,?_⟩;show OV l m ys 0 [] [] 0;refine⟨eR.nil,λc hc=>(by cases hc),λx y=>?_,λb hb=>(by cases hb),λr hr=>(by cases hr),λr hr=>(by rw[List.take_zero]at hr;cases hr),bR _,eZ _,λj r y _ hr hy0=>?_,λr hr=>(by cases hr)⟩
  ·show false=_;symm;rw[Bool.and_eq_false_iff]
   cases hc:vf l x y with
   |false=>exact .inl rfl
   |true=>
    right;obtain⟨r,hr,_,h7,h8⟩:=jl.1 hc;have hr0:=y0m r<|(hmem r).2 hr
    have hpos:0<ys.length:=List.length_pos_of_mem hr0;rw[decide_eq_false_iff_not];intro h;have h:=h ys[0]<|aP hpos
    obtain⟨j,hj⟩:=eO hr0
    by_cases e:j=0
    ·subst e;rw[aP hpos]at hj;injection hj with hj;omega
    ·have:=hy.lt (show 0<j by omega) (aP hpos) hj;omega
  ·obtain⟨j',hj'⟩:=eO<|y0m r<|gq hr
   by_cases e:j'=0
   ·subst e;rw[hy0]at hj';injection hj' with hj';omega
   ·have:=hy.lt (show 0<j' by omega) hy0 hj';omega
 ·rintro o ho;refine Sm ho (λs h=>RJ h)<|λr=>r.elim
end
section
variable {N:Nat}
def BG:List Int->List (Int×Int)
 |a::b::l=>(a,b)::BG l
 |_=>[]
theorem AW:∀(xs:List Int),(BG xs).length=xs.length / 2
 | []=>rfl
 | [a]=>by simp[BG]
 |a::b::l=>by unfold BG;rw[fR,AW l];simp only[fR];omega
theorem yV:∀(xs:List Int)(j:Nat)(h:2*j+1<xs.length),(BG xs)[j]? =some (xs[2*j],xs[2*j+1])
 | [],j,h=>by simp at h
 | [a],j,h=>by simp at h
 |a::b::l,0,h=>rfl
 |a::b::l,j+1,h=>by
  have:=yV l j (by simp at h;omega);unfold BG;rw[List.getElem?_cons_succ,this];have e1:(a::b::l)[2*(j+1)]=l[2*j]'(by simp at h;omega):=by simp[show 2*(j+1)=2*j+1+1 by omega]
  have e2:(a::b::l)[2*(j+1)+1]=l[2*j+1]'(by simp at h;omega):=by simp[show 2*(j+1)+1=2*j+1+1+1 by omega]
  rw[e1,e2]
theorem yW:∀{xs:List Int},xs.length % 2=0->dC (BG xs)=xs
 | [],_=>rfl
 | [a],h=>by simp at h
 |a::b::l,h=>by unfold BG;rw[jh,yW (by simp at h;omega)]
theorem Lc{xs:List Int}(h:jT xs)(he:xs.length % 2=0)(x:Int):pw xs x=jg (BG xs) x:=by
 have:=tN (l:=BG xs) (by rw[yW he];exact h) x;rwa[yW he]at this
theorem Ea{xs:List Int}:∀p∈BG xs,p.1∈xs/\p.2∈xs:=by
 intro p hp;obtain⟨j,hj⟩:=eO hp;have hjl:=(bA.1 hj).1;rw[AW]at hjl;rw[yV xs j (by omega)]at hj;injection hj with hj;subst hj
 exact⟨cU _,cU _⟩
theorem GM{xs:List Int}(h:jT xs):∀p∈BG xs,p.1<p.2:=by
 intro p hp;obtain⟨j,hj⟩:=eO hp;have hjl:=(bA.1 hj).1;rw[AW]at hjl;rw[yV xs j (by omega)]at hj;injection hj with hj;subst hj
 exact h.lt (show 2*j<2*j+1 by omega) (aP _)<|aP _
def m8(b:aA):List aH:=(BG b.Xs).map λp=>⟨p.1,b.Y0,p.2,b.Y1⟩
def aR(s:List aA):List aH:=s.flatMap m8
theorem m9(b:aA)(s:List aA):aR (b::s)=m8 b++aR s:=rfl
theorem nD(b:aA):(m8 b).length=b.Xs.length / 2:=by unfold m8;rw[dY,AW]
theorem n8(s t:List aA):aR (s++t)=aR s++aR t:=List.flatMap_append
theorem zT(s:List aA)(k:Nat):(aR<|s.take k).length<=(aR s).length:=by
 conv=>rhs;rw[<-List.take_append_drop k s,n8,dF]
 omega
theorem BH{s:List aA}{A B:Nat}(h1:s.length<=A)(h2:∀b∈s,b.Xs.length<=B):(aR s).length<=A*B:=by
 induction s generalizing A with
 |nil=>simp[aR]
 |cons b s ih=>
  rw[m9,dF,nD];simp at h1;obtain⟨A',rfl⟩:∃A',A=A'+1:=⟨A - 1,by omega⟩;have:=ih (A:=A') (by omega)<|λc hc=>h2 c<|g9 _ hc
  have:=h2 b (by simp);rw[Nat.add_mul];omega
theorem BJ{s:List aA}(he:∀b∈s,b.Xs.length % 2=0)(h1:s.length<=1099511627776)(h2:∀b∈s,b.Xs.length<=1099511627776/\b.Xs.length<N)(h3:(aR s).length<=1099511627776):jJ N s=some (aR s):=by
 refine SJ ?_;unfold jJ;refine RP (SR (λk t=>t=aR (s.take k)) (by omega) rfl<|λk t hk e=>?_)<|λt e=>RJ (by rw[e,fS])
 subst e;refine SA hk ?_;have hm:=cU hk;generalize hb:s[k]=b at hm ⊢;have heb:=he b hm;have hbl:=h2 b hm;have hts:aR (s.take<|k+1)=aR (s.take k)++m8 b:=by
  rw[fq hk,n8,hb];simp[aR]
 have hle:=zT s<|k+1
 rw[hts,dF,nD]at hle;refine RP (SS (Go:=λs'=>s'.1=aR (s.take<|k+1)) (Rt:=λ_=>True) (λs'=>∃j:Nat,s'.2=((2*j:Nat):Int)/\2*j<=b.Xs.length/\s'.1=aR (s.take k)++(m8 b).take j) (λs'=>b.Xs.length - s'.2.toNat) ?_ ⟨0,rfl,by omega,by simp⟩ (by simp;omega)) ?_
 ·rintro⟨acc,i⟩⟨j,e1,hj,e2⟩;dsimp only at e1 e2 ⊢;subst e1;subst e2;refine R9 (λh=>?_)<|λh=>Sn ?_
  ·have hlt:2*j+1<b.Xs.length:=by have:=of_decide_eq_true h;omega
   refine SA (by omega) ?_;rw[cD (by omega)];refine SA hlt<|SB ?_<|Si ⟨⟨j+1,?_,by omega,?_⟩,?_⟩
   ·simp;rw[nD];omega
   ·rw[Dc (by omega)];congr 1
   ·rw[lN];congr 1;have hg:(m8 b)[j]? =some ⟨b.Xs[2*j],b.Y0,b.Xs[2*j+1],b.Y1⟩:=by
     unfold m8;rw[i5,yV _ _ hlt];rfl
    have hjl:=(bA.1 hg).1;rw[fq hjl,(bA.1 hg).2]
   ·rw[Dc (by omega)];simp only[cI];omega
  ·have hge:2*j=b.Xs.length:=by have:=of_decide_eq_false h;omega
   show aR (s.take k)++(m8 b).take j=_;rw[hts,mE (l:=m8 b) (by rw[nD];omega)]
 ·rintro o ho;exact Sm ho (λs' h=>RJ h)<|λr=>r.elim
theorem Ld{s:List aA}(h1:s.length<=1099511627776)(h2:∀b∈s,b.Xs.length<=1099511627776)(h3:(aR s).length<=1099511627776):mT N s=some (((aR s).length:Nat):Int):=by
 refine SJ ?_;unfold mT;refine RP (SR (λk t=>t=(((aR<|s.take k).length:Nat):Int)) (by omega) rfl<|λk t hk e=>?_)<|λt e=>RJ (by rw[e,fS])
 subst e;refine SA hk<|RJ ?_
 have hm:=cU hk;have hbl:=h2 _ hm;have hts:aR (s.take<|k+1)=aR (s.take k)++m8 s[k]:=by
  rw[fq hk,n8];simp[aR]
 have hle:=zT s<|k+1
 rw[hts,dF,nD]at hle;have e:Int.tdiv ((s[k].Xs.length:Nat):Int) 2=((s[k].Xs.length / 2:Nat):Int):=by
  rw[show(2:Int)=((2:Nat):Int)by rfl,<-Int.ofNat_tdiv]
 rw[e,FA (by omega),wrap_add (by omega),hts,dF,nD]
theorem GN(l m:List aH)(x y:Int):vf (l++m) x y=(vf l x y||vf m x y):=List.any_append
theorem JX{b:aA}(h:jT b.Xs)(he:b.Xs.length % 2=0)(x y:Int):vf (m8 b) x y=(pw b.Xs x&&(decide (b.Y0<=y)&&decide (y<b.Y1))):=by
 rw[Lc h he,dZ,jl,bT,tM,bT,bF,bF];unfold m8;constructor
 ·rintro⟨r,hr,h1,h2⟩;obtain⟨p,hp,rfl⟩:=cY.1 hr;exact⟨⟨p,hp,h1⟩,h2⟩
 ·rintro⟨⟨p,hp,h1⟩,h2⟩;exact⟨_,cY.2 ⟨p,hp,rfl⟩,h1,h2⟩
theorem pO:∀{s:List aA},eR (s.map bY)->∀x y,vf (aR s) x y=vh (s.map bY) x y
 | [],_,x,y=>rfl
 |b::s,h,x,y=>by
  rw[m9,GN,pO h.tail x y];have hb:=h.each (bY b) (by simp);rw[JX hb.2.2.1 hb.2.2.2];unfold vh;rw[dT,m6]
  by_cases hy:b.Y0<=y/\y<b.Y1
  ·rw[aC (show(bY b).y0<=y/\y<(bY b).y1 from hy),lW<|λc hc=> .inl (by have:=h.BB c hc;have e:(bY b).y1=b.Y1:=rfl;omega),bL hy.1,bL hy.2];show(pw b.Xs x&&true||false)=pw b.Xs x;simp
  ·rw[aD (show ¬((bY b).y0<=y/\y<(bY b).y1)from hy)];have:(decide (b.Y0<=y)&&decide (y<b.Y1))=false:=by rw[Bool.and_eq_false_iff,decide_eq_false_iff_not,decide_eq_false_iff_not];omega
   rw[this];simp
theorem rD{s:List aA}{r:aH}(h:r∈aR s):∃b∈s,∃p∈BG b.Xs,r= ⟨p.1,b.Y0,p.2,b.Y1⟩:=by
 unfold aR m8 at h;obtain⟨b,hb,h⟩:=List.mem_flatMap.1 h;obtain⟨p,hp,rfl⟩:=cY.1 h;exact⟨b,hb,p,hp,rfl⟩
theorem BK{s:List aA}{X Y:List Int}(h:eR (s.map bY))(hl:yb X Y (s.map bY))(hx:∀c∈X,small c)(hy:∀c∈Y,small c):∀r∈aR s,C9 r/\(r.X0∈X/\r.X1∈X)/\r.Y0∈Y/\r.Y1∈Y:=by
 intro r hr;obtain⟨b,hb,p,hp,rfl⟩:=rD hr;have hm:bY b∈s.map bY:=cY.2 ⟨b,hb,rfl⟩;have hc:=h.each _ hm;have hll:=hl _ hm;have h1:=Ea p hp;have h2:=hll.2.2 p.1 h1.1;have h3:=hll.2.2 p.2 h1.2;exact⟨⟨GM hc.2.2.1 p hp,hc.1,hx _ h2,hx _ h3,hy _ hll.1,hy _ hll.2.1⟩,⟨h2,h3⟩,hll.1,hll.2.1⟩
theorem xZ{l:List Int}{x:Int}(h:∀c∈l,c<=x):pw l x=(l.length % 2==1):=by unfold pw;rw[HD h]
theorem zU{l:List Int}{a x:Int}(h:x<a):pw (l++[a]) x=pw l x:=by unfold pw;rw[Bx,n7,aD (by omega),D5];rfl
def Iv(l:List Int):Bool:=l.length % 2==1
theorem BL(l:List Int)(a:Int):Iv (l++[a]) = !Iv l:=by
 unfold Iv;rw[dF,dZ,Bool.not_eq_true',beq_iff_eq,beq_eq_false_iff_ne];simp;omega
structure FB (gO:Bool->Bool->Bool) (a b a' b' out:List Int) (inA inB is:Bool) (pa pb:List Int):Prop where
 ea:a=pa++a'
 eb:b=pb++b'
 oa:inA=Iv pa
 ob:inB=Iv pb
 oo:is=Iv out
 ok:is=gO inA inB
 low:∀c,(c∈pa\/c∈pb\/c∈out)->∀d,(d∈a'\/d∈b')->c<d
 inc:jT out
 OW:∀x,(∀d,(d∈a'\/d∈b')->x<d)->pw out x=gO (pw pa x) (pw pb x)
 mem:∀c∈out,c∈pa\/c∈pb
 len:out.length<=pa.length+pb.length
theorem FB.step{gO:Bool->Bool->Bool}{a b a' b' out:List Int}{inA inB is:Bool}{pa pb:List Int}(I:FB gO a b a' b' out inA inB is pa pb)(ha:jT a)(hb:jT b)(x:Int)(ta tb:List Int)(wa wb:Bool)
  (h1:a'=(if wa then x::ta else ta)) (h2:b'=(if wb then x::tb else tb)) (hw:wa=true\/wb=true) (hx:∀d,(d∈ta\/d∈tb)->x<d):
  FB gO a b ta tb (if gO (inA ^^ wa) (inB ^^ wb)=is then out else out++[x]) (inA ^^ wa) (inB ^^ wb) (gO (inA ^^ wa)<|inB ^^ wb) (if wa then pa++[x]else pa) (if wb then pb++[x]else pb):=by
 have hxm:x∈a'\/x∈b':=by
  rcases hw with h|h
  ·left;rw[h1,aC h];simp
  ·right;rw[h2,aC h];simp
 have hsub:∀d,(d∈ta\/d∈tb)->d∈a'\/d∈b':=λd hd=>by
  rcases hd with h|h
  ·left;rw[h1];split
   ·exact g9 _ h
   ·exact h
  ·right;rw[h2];split
   ·exact g9 _ h
   ·exact h
 have hlow:∀c,(c∈pa\/c∈pb\/c∈out)->c<x:=λc hc=>I.low c hc x hxm;have hpa:∀c∈(if wa then pa++[x]else pa),c∈pa\/(wa=true/\c=x):=λc hc=>by
  split at hc
  ·rename_i h
   rcases dH.1 hc with h'|h'
   ·exact .inl h'
   ·simp at h';exact .inr ⟨h,h'⟩
  ·exact .inl hc
 have hpb:∀c∈(if wb then pb++[x]else pb),c∈pb\/(wb=true/\c=x):=λc hc=>by
  split at hc
  ·rename_i h
   rcases dH.1 hc with h'|h'
   ·exact .inl h'
   ·simp at h';exact .inr ⟨h,h'⟩
  ·exact .inl hc
 have hout:∀c∈(if gO (inA ^^ wa) (inB ^^ wb)=is then out else out++[x]),c∈out\/c=x:=λc hc=>by
  split at hc
  ·exact .inl hc
  ·rcases dH.1 hc with h'|h'
   ·exact .inl h'
   ·simp at h';exact .inr h'
 have ooA:(inA ^^ wa)=Iv (if wa then pa++[x]else pa):=by
  rw[I.oa];cases wa <;> simp[BL]
 have ooB:(inB ^^ wb)=Iv (if wb then pb++[x]else pb):=by
  rw[I.ob];cases wb <;> simp[BL]
 have ooO:gO (inA ^^ wa) (inB ^^ wb)=Iv (if gO (inA ^^ wa) (inB ^^ wb)=is then out else out++[x]):=by
  split
  ·rename_i h;rw[h];exact I.oo
  ·rename_i h;rw[BL,<-I.oo]
   cases hk:gO (inA ^^ wa) (inB ^^ wb) <;> cases his:is <;> simp_all
 refine⟨?_,?_,ooA,ooB,ooO,rfl,?_,?_,?_,?_,?_⟩
 ·rw[I.ea,h1];split <;> simp
 ·rw[I.eb,h2];split <;> simp
 ·intro c hc d hd;have hd':=hx d hd;have hdd:=hsub d hd
  rcases hc with h|h|h
  ·rcases hpa c h with h'|⟨_,rfl⟩
   ·exact I.low c (.inl h') d hdd
   ·exact hd'
  ·rcases hpb c h with h'|⟨_,rfl⟩
   ·exact I.low c (.inr<|.inl h') d hdd
   ·exact hd'
  ·rcases hout c h with h'|rfl
   ·exact I.low c (.inr<|.inr h') d hdd
   ·exact hd'
 ·split
  ·exact I.inc
  ·exact I.inc.JW λc hc=>hlow c<|.inr<|.inr hc
 ·intro y hy
  by_cases hxy:y<x
  ·have e1:pw (if wa then pa++[x]else pa) y=pw pa y:=by split;exact zU hxy;rfl
   have e2:pw (if wb then pb++[x]else pb) y=pw pb y:=by split;exact zU hxy;rfl
   have e3:pw (if gO (inA ^^ wa) (inB ^^ wb)=is then out else out++[x]) y=pw out y:=by split;rfl;exact zU hxy
   rw[e1,e2,e3];refine I.OW y λd hd=>?_;have:x<=d:=by
    rcases hd with h|h
    ·rw[h1]at h;split at h
     ·rcases dE.1 h with rfl|h
      ·exact Int.le_refl _
      ·have:=hx d<|.inl h;omega
     ·have:=hx d<|.inl h;omega
    ·rw[h2]at h;split at h
     ·rcases dE.1 h with rfl|h
      ·exact Int.le_refl _
      ·have:=hx d<|.inr h;omega
     ·have:=hx d<|.inr h;omega
   omega
  ·rw[xZ (l:=if wa then pa++[x]else pa),xZ (l:=if wb then pb++[x]else pb),xZ]
   ·have e1:=ooA;have e2:=ooB;have e3:=ooO;unfold Iv at e1 e2 e3;rw[<-e1,<-e2,<-e3]
   ·intro c hc
    rcases hout c hc with h|rfl
    ·have:=hlow c<|.inr<|.inr h;omega
    ·omega
   ·intro c hc
    rcases hpb c hc with h|⟨_,rfl⟩
    ·have:=hlow c<|.inr<|.inl h;omega
    ·omega
   ·intro c hc
    rcases hpa c hc with h|⟨_,rfl⟩
    ·have:=hlow c<|.inl h;omega
    ·omega
 ·intro c hc;have m1:∀c,c∈pa->c∈(if wa then pa++[x]else pa):=λc h=>by split;exact List.mem_append_left _ h;exact h
  have m2:∀c,c∈pb->c∈(if wb then pb++[x]else pb):=λc h=>by split;exact List.mem_append_left _ h;exact h
  rcases hout c hc with h|rfl
  ·rcases I.mem c h with h|h
   ·exact .inl<|m1 c h
   ·exact .inr<|m2 c h
  ·rcases hw with h|h
   ·left;rw[aC h];simp
   ·right;rw[aC h];simp
 ·have:=I.len;have h3:(if wa then pa++[x]else pa).length+(if wb then pb++[x]else pb).length>=pa.length+pb.length+1:=by
   rcases hw with h|h
   ·subst h;cases wb <;> simp <;> omega
   ·subst h;cases wa <;> simp <;> omega
  split
  ·omega
  ·simp at h3 ⊢;omega
end
section
variable {N:Nat}
theorem jU(x:Int)(l:List Int):idx (x::l) 0=some x:=rfl
theorem tS{α:Type}(x:α)(l:List α):uY (x::l) 1 (((x::l).length:Nat):Int)=some l:=rP (x::l) 1 (by simp)
theorem kT{α:Type}(x:α)(l:List α):decide ((((x::l).length:Nat):Int)>0)=true:=bL (by simp)
theorem wH{α:Type}(x:α)(l:List α):((((x::l).length:Nat):Int)==0)=false:=by rw[beq_eq_false_iff_ne];simp;omega
theorem GO{a b:List Int}(ha:jT a)(hb:jT b)(h:a≠[]\/b≠[]):∃x ta tb wa wb,a=(if wa then x::ta else ta)/\b=(if wb then x::tb else tb)/\(wa=true\/wb=true)/\(∀d,(d∈ta\/d∈tb)->x<d):=by
 match a,b,ha,hb,h with
 | [],[],_,_,h=>rcases h with h|h <;> exact absurd rfl h
 |x::ta,[],ha,_,_=>exact⟨x,ta,[],true,false,rfl,rfl, .inl rfl,λd hd=>by rcases hd with h|h;exact ha.head d h;cases h⟩
 | [],y::tb,_,hb,_=>exact⟨y,[],tb,false,true,rfl,rfl, .inr rfl,λd hd=>by rcases hd with h|h;cases h;exact hb.head d h⟩
 |x::ta,y::tb,ha,hb,_=>
  rcases Int.lt_trichotomy x y with h|h|h
  ·refine⟨x,ta,y::tb,true,false,rfl,rfl, .inl rfl,λd hd=>?_⟩
   rcases hd with h1|h1
   ·exact ha.head d h1
   ·rcases dE.1 h1 with rfl|h1
    ·exact h
    ·have:=hb.head d h1;omega
  ·subst h;exact⟨x,ta,tb,true,true,rfl,rfl, .inl rfl,λd hd=>by rcases hd with h|h;exact ha.head d h;exact hb.head d h⟩
  ·refine⟨y,x::ta,tb,false,true,rfl,rfl, .inr rfl,λd hd=>?_⟩
   rcases hd with h1|h1
   ·rcases dE.1 h1 with rfl|h1
    ·exact h
    ·have:=ha.head d h1;omega
   ·exact hb.head d h1
theorem Iw{φ:Bool->Bool->Option Bool}{gO:Bool->Bool->Bool}(hφ:∀p q,φ p q=some (gO p q))(hk:gO false false=false){a b:List Int}(ha:jT a)(hb:jT b)(hae:a.length % 2=0)(hbe:b.length % 2=0)
  (t9:a.length<=1099511627776) (hbl:b.length<=1099511627776) (hN:a.length+b.length<N):
  Ok (rF N a b φ) (λm=>jT m/\m.length % 2=0/\(∀x,pw m x=gO (pw a x) (pw b x))/\∀c∈m,c∈a\/c∈b):=by
 unfold rF
 refine RP (SS (Go:=λs=>jT s.2.2.1/\s.2.2.1.length % 2=0/\(∀x,pw s.2.2.1 x=gO (pw a x) (pw b x))/\∀c∈s.2.2.1,c∈a\/c∈b) (Rt:=λ_=>True)
  (λs=>∃pa pb,FB gO a b s.1 s.2.1 s.2.2.1 s.2.2.2.1 s.2.2.2.2.1 s.2.2.2.2.2 pa pb) (λs=>s.1.length+s.2.1.length) ?_ ?_ hN) ?_
 ·rintro⟨a',b',out,inA,inB,is⟩⟨pa,pb,I⟩;dsimp only at I ⊢;have ha':jT a':=by have:=ha;rw[I.ea]at this;exact(nj.1 this).2.1
  have hb':jT b':=by have:=hb;rw[I.eb]at this;exact(nj.1 this).2.1
  have hle:pa.length+a'.length=a.length:=by rw[I.ea];simp
  have hlb:pb.length+b'.length=b.length:=by rw[I.eb];simp
  have hlo:=I.len
  by_cases hne:a'≠[]\/b'≠[]
  ·obtain⟨x,ta,tb,wa,wb,h1,h2,hw,hx⟩:=GO ha' hb' hne;have J:=I.step ha hb x ta tb wa wb h1 h2 hw hx;have fin:∀(sa sb:List Int×Bool),sa=(ta,inA ^^ wa)->sb=(tb,inB ^^ wb)->
     Ok ((φ sa.2 sb.2).bind λx220=>(bif x220 != is then((app 8 out ([x]:List Int)).bind λx227=>some (x227,x220))else some (out,is)).bind λs224=>some<|Fl.nx (sa.1,sb.1,s224.1,sa.2,sb.2,s224.2))
      (Ku (λs':List Int×List Int×List Int×Bool×Bool×Bool=>(∃pa pb,FB gO a b s'.1 s'.2.1 s'.2.2.1 s'.2.2.2.1 s'.2.2.2.2.1 s'.2.2.2.2.2 pa pb)/\s'.1.length+s'.2.1.length<a'.length+b'.length) (λs=>jT s.2.2.1/\s.2.2.1.length % 2=0/\(∀x,pw s.2.2.1 x=gO (pw a x) (pw b x))/\∀c∈s.2.2.1,c∈a\/c∈b) (λ_:Empty=>True)):=by
    rintro _ _ rfl rfl;refine RE (hφ _ _) ?_;have hlt:ta.length+tb.length<a'.length+b'.length:=by
     rw[h1,h2]
     rcases hw with h|h
     ·subst h;cases wb <;> simp <;> omega
     ·subst h;cases wa <;> simp <;> omega
    by_cases he:gO (inA ^^ wa) (inB ^^ wb)=is
    ·rw[aC he]at J;refine RE (x:=(out,is)) (by rw[he,show(is != is)=false by simp,aQ]) ?_;rw[he]at J;exact Si ⟨⟨_,_,J⟩,hlt⟩
    ·rw[aD he]at J;refine RE (x:=(out++[x],gO (inA ^^ wa)<|inB ^^ wb)) (by rw[show(gO (inA ^^ wa) (inB ^^ wb) != is)=true by simp[he],aO,kR (by simp;omega),aB])<|Si ⟨⟨_,_,J⟩,hlt⟩
   rcases hw with rfl|rfl
   ·rw[aC rfl]at h1;subst h1;refine RE (x:=true) (by rw[kT,aO]) ?_;rw[aO];have hle2:(bif((b'.length:Nat):Int)==0 then some true else(bif decide ((((x::ta).length:Nat):Int)>0)then((idx (x::ta) 0).bind λx181=>(idx b' 0).bind λx183=>some<|decide<|x181<=x183)else some false))=some true:=by
     cases b' with
     |nil=>rfl
     |cons y b''=>
      rw[wH,aQ,kT,aO,jU,aB,jU,aB];have:x<=y:=by
       cases wb with
       |true=>simp at h2;omega
       |false=>have:=hx y (.inr (by simp at h2;rw[<-h2];simp));omega
      rw[bL this]
    refine RE hle2 ?_;rw[aO];refine RE (x:=x) (by rw[jU,aB]) ?_;refine RE (x:=true) (by rw[kT,aO,jU,aB];simp) ?_;refine RE (x:=(ta,!inA)) (by rw[aO,tS,aB]) ?_
    cases wb with
    |true=>
     rw[aC rfl]at h2;subst h2;refine RE (x:=true) (by rw[kT,aO,jU,aB];simp) ?_;refine RE (x:=(tb,!inB)) (by rw[aO,tS,aB]) ?_;exact fin _ _ (by simp) (by simp)
    |false=>
     have h2:b'=tb:=h2;subst h2;refine RE (x:=false) ?_ ?_
     ·cases b' with
      |nil=>rfl
      |cons y b''=>
       have:=hx y<|.inr (by simp)
       rw[kT,aO,jU,aB,show(y==x)=false by rw[beq_eq_false_iff_ne];omega]
     ·refine RE (x:=(b',inB)) (by rw[aQ]) ?_;exact fin _ _ (by simp) (by simp)
   ·cases wa with
    |true=>
     rw[aC rfl]at h1 h2;subst h1;subst h2;refine RE (x:=true) (by rw[kT,aO]) ?_;rw[aO];refine RE (x:=true) (by rw[wH,aQ,kT,aO,jU,aB,jU,aB];simp) ?_;rw[aO];refine RE (x:=x) (by rw[jU,aB]) ?_;refine RE (x:=true) (by rw[kT,aO,jU,aB];simp) ?_;refine RE (x:=(ta,!inA)) (by rw[aO,tS,aB]) ?_;refine RE (x:=true) (by rw[kT,aO,jU,aB];simp) ?_;refine RE (x:=(tb,!inB)) (by rw[aO,tS,aB]) ?_;exact fin _ _ (by simp) (by simp)
    |false=>
     have h1:a'=ta:=h1;rw[aC rfl]at h2;subst h1;subst h2;refine RE (x:=true) (by rw[kT,K5];simp) ?_;rw[aO];refine RE (x:=false) ?_ ?_
     ·rw[wH,aQ]
      cases a' with
      |nil=>rfl
      |cons y a''=>
       have:=hx y<|.inl (by simp)
       rw[kT,aO,jU,aB,jU,aB,bO (by omega)]
     ·rw[aQ];refine RE (x:=x) (by rw[jU,aB]) ?_;refine RE (x:=false) ?_ ?_
      ·cases a' with
       |nil=>rfl
       |cons y a''=>
        have:=hx y<|.inl (by simp)
        rw[kT,aO,jU,aB,show(y==x)=false by rw[beq_eq_false_iff_ne];omega]
      ·refine RE (x:=(a',inA)) (by rw[aQ]) ?_;refine RE (x:=true) (by rw[kT,aO,jU,aB];simp) ?_;refine RE (x:=(tb,!inB)) (by rw[aO,tS,aB]) ?_;exact fin _ _ (by simp) (by simp)
  ·have ea:a'= []:=Classical.byContradiction λh=>hne<|.inl h
   have eb:b'= []:=Classical.byContradiction λh=>hne<|.inr h
   subst ea;subst eb;refine RE (x:=false) rfl ?_;refine Sn ⟨I.inc,?_,λx=>?_,λc hc=>?_⟩
   ·have h1:=I.ea;have h2:=I.eb;rw[oU]at h1 h2;have h3:Iv out=false:=by
     rw[<-I.oo,I.ok,I.oa,I.ob,<-h1,<-h2];unfold Iv;rw[hae,hbe];exact hk
    unfold Iv at h3;rw[beq_eq_false_iff_ne]at h3;dsimp only;omega
   ·have:=I.OW x (λd hd=>by rcases hd with h|h <;> cases h);have h1:=I.ea;have h2:=I.eb;rw[oU]at h1 h2;rw[h1,h2];exact this
   ·have h1:=I.ea;have h2:=I.eb;rw[oU]at h1 h2;rw[h1,h2];exact I.mem c hc
 ·exact⟨[],[],rfl,rfl,rfl,rfl,rfl,hk.symm,λc hc=>(by rcases hc with h|h|h <;> cases h),jX,λx _=>hk.symm,λc hc=>(by cases hc),bR _⟩
 ·rintro o ho;exact Sm ho (λs h=>RJ h)<|λr=>r.elim
theorem eR.app{s t:List Bd}(h:eR (s++t)):eR t:=⟨λb hb=>h.each b<|List.mem_append_right _ hb,(nj.1 h.ord).2.1⟩
theorem eR.low{b:Bd}{s:List Bd}(h:eR (b::s)):∀c∈b::s,b.y0<=c.y0:=λc hc=>by
 rcases dE.1 hc with rfl|hc
 ·exact Int.le_refl _
 ·have:=h.BB c hc;have:=(h.each b (by simp)).1;omega
theorem eR.high{s:List Bd}{b:Bd}(h:eR (s++[b])):∀c∈s++[b],c.y1<=b.y1:=λc hc=>by
 rcases dH.1 hc with hc|hc
 ·have:=((nj.1 h.ord).2.2 c hc b (by simp)).1;have:=(h.each b (by simp)).1;omega
 ·simp at hc;subst hc;exact Int.le_refl _
def Gh(s:List aA)(y e:Int):List Int×Int:=match s with
 | []=>([],e)
 |b::_=>if y<b.Y0 then([],if b.Y0<e then b.Y0 else e)else(b.Xs,if b.Y1<e then b.Y1 else e)
theorem JY{α:Type}(x:α)(l:List α):idx (x::l) 0=some x:=rfl
theorem L7(s:List aA)(y e:Int):nv N s y e=some (Gh s y e):=by
 unfold nv Gh
 cases s with
 |nil=>rfl
 |cons b s=>
  dsimp only;rw[wH,aQ,JY,aB,aB,aB,aB]
  by_cases h:y<b.Y0
  ·rw[bL h,aO,aC h]
  ·rw[bO h,aQ,aD h]
theorem HH{s:List aA}{y e:Int}{X Y:List Int}(hc:eR (s.map bY))(hl:yb X Y (s.map bY))(hh:∀b t,s=b::t->y<b.Y1)(hy:y<e):
  y<(Gh s y e).2/\(Gh s y e).2<=e/\(∀y',y<=y'->y'<(Gh s y e).2->rowAt (s.map bY) y'=(Gh s y e).1)/\jT (Gh s y e).1/\(Gh s y e).1.length % 2=0/\((Gh s y e).2=e\/(Gh s y e).2∈Y)/\∀c∈(Gh s y e).1,c∈X:=by
 cases s with
 |nil=>exact⟨hy,Int.le_refl _,λy' _ _=>rfl,jX,rfl, .inl rfl,λc hc=>(by cases hc)⟩
 |cons b t=>
  have hb:=hc.each (bY b) (by simp);have hlb:=hl (bY b) (by simp);have h1:=hh b t rfl;unfold Gh;dsimp only
  by_cases h:y<b.Y0
  ·rw[aC h];dsimp only;refine⟨by split <;> omega,by split <;> omega,λy' h2 h3=>?_,jX,rfl,?_,λc hc=>(by cases hc)⟩
   ·exact hc.wD (by show y'<b.Y0;split at h3 <;> omega)
   ·split
    ·exact .inr hlb.1
    ·exact .inl rfl
  ·rw[aD h];dsimp only;refine⟨by split <;> omega,by split <;> omega,λy' h2 h3=>?_,hb.2.2.1,hb.2.2.2,?_,hlb.2.2⟩
   ·exact eR.m7 (b:=bY b) (by show b.Y0<=y';omega) (by show y'<b.Y1;split at h3 <;> omega)
   ·split
    ·exact .inr hlb.2.1
    ·exact .inl rfl
theorem Dd{y:Int}{a:List aA}(hN:a.length<N){body:List aA->Option (Fl (List aA) Empty)}
  (hb:body=λ(s373:List aA)=>((bif decide ((s373.length:Int)>0)then((idx s373 0).bind λx407=>some<|decide<|x407.Y1<=y)else some false).bind λs405=>bif s405 then((uY s373 1 (s373.length:Int)).bind λx410=>some<|.nx x410)else(some<|.br s373):Option (Fl (List aA) Empty))):
  Ok (j6 body N a) (OT (λa'=>∃p,a=p++a'/\(∀c∈p,c.Y1<=y)/\∀b t,a'=b::t->y<b.Y1)<|λ_=>True):=by
 subst hb;refine SS (λa'=>∃p,a=p++a'/\∀c∈p,c.Y1<=y) List.length ?_ ⟨[],rfl,λc hc=>(by cases hc)⟩ hN;rintro a'⟨p,e,hp⟩
 cases a' with
 |nil=>exact RE (x:=false) rfl (Sn ⟨p,e,hp,λb t h=>(by cases h)⟩)
 |cons b t=>
  refine RE (x:=decide<|b.Y1<=y) (by rw[kT,aO,JY,aB]) ?_;refine R9 (λh=>?_)<|λh=>Sn ⟨p,e,hp,λb' t' h'=>?_⟩
  ·have h:=of_decide_eq_true h;refine RE (tS b t)<|Si ⟨⟨p++[b],by rw[e];simp,λc hc=>?_⟩,by simp⟩
   rcases dH.1 hc with hc|hc
   ·exact hp c hc
   ·simp at hc;subst hc;exact h
  ·have h:=of_decide_eq_false h;injection h' with h1 h2;subst h1;omega
theorem FC{p a':List Bd}{y y':Int}(hp:∀c∈p,c.y1<=y)(h:y<=y'):rowAt (p++a') y'=rowAt a' y':=by
 rw[rm,aD];rintro⟨b,hb,h1⟩;have:=hp b hb;omega
structure Eb (gO:Bool->Bool->Bool) (X Y:List Int) (a b s:List aA):Prop where
 can:eR (s.map bY)
 cover:∀x y,vh (s.map bY) x y=gO (vh (a.map bY) x y) (vh (b.map bY) x y)
 lim:yb X Y (s.map bY)
theorem BM{s:List aA}(hs:s≠[])(hl:s.length<=1099511627776)(hc:eR (s.map bY)):∃f l,idx s 0=some f/\idx s (wrap .i64<|((s.length:Nat):Int) - 1)=some l/\f∈s/\l∈s/\∀c∈s,f.Y0<=c.Y0/\c.Y1<=l.Y1:=by
 cases s with
 |nil=>exact absurd rfl hs
 |cons f t=>
  rw[je (by simp) (by omega)];have hlt:(f::t).length - 1<(f::t).length:=by simp
  refine⟨f,(f::t)[(f::t).length - 1],rfl,lj _ _ hlt,by simp,cU _,λc hcm=>⟨?_,?_⟩⟩
  ·exact hc.low (bY c)<|cY.2 ⟨c,hcm,rfl⟩
  ·have e:(f::t)=(f::t).dropLast++[(f::t)[(f::t).length - 1]]:=by
    have:=List.dropLast_concat_getLast (show f::t≠[]by simp);rw[<-List.getLast_eq_getElem (h:=by simp)];exact this.symm
   generalize (f::t)[(f::t).length - 1]=l at e;have hc2:=hc;rw[e,eN]at hc2;have hm:bY c∈(List.map bY (f::t).dropLast++[bY l]):=by
    have:bY c∈(f::t).map bY:=cY.2 ⟨c,hcm,rfl⟩;rw[e,eN]at this;exact this
   exact eR.high hc2 (bY c) hm
theorem GP{φ:Bool->Bool->Option Bool}{gO:Bool->Bool->Bool}(hφ:∀p q,φ p q=some (gO p q))(hk:gO false false=false){a b:List aA}{X Y:List Int}(ca:eR (a.map bY))(cb:eR (b.map bY))
  (la:yb X Y (a.map bY)) (lb:yb X Y (b.map bY)) (hX:X.length<=1048576000) (hY:Y.length<=1048576000) (hs:∀c∈Y,small c) (hN:4398046511104<=N):Ok (pW N a b φ) (Eb gO X Y a b):=by
 have t9:a.length<=Y.length:=by have:=la.len ca;rwa[dY]at this
 have hbl:b.length<=Y.length:=by have:=lb.len cb;rwa[dY]at this
 unfold pW;rw[wrap_add (by omega)];refine R9 (λh=>RJ ?_)<|λh=>?_
 ·have h:a.length+b.length=0:=by have:=beq_iff_eq.1 h;omega
  have e1:a= []:=List.eq_nil_of_length_eq_zero (by omega);have e2:b= []:=List.eq_nil_of_length_eq_zero (by omega);subst e1;subst e2;exact⟨eR.nil,λx y=>hk.symm,λc hc=>(by cases hc)⟩
 have h0:a≠[]\/b≠[]:=by
  rw[beq_eq_false_iff_ne]at h
  by_cases e:a= []
  ·right;intro e2;subst e;subst e2;exact h rfl
  ·exact .inl e
 refine RP (SR (λk s=>match k with| 0=>True| 1=>a= []\/((∀c∈a,s.1<=c.Y0/\c.Y1<=s.2)/\s.1∈Y/\s.2∈Y)|_=>(∀c∈a,s.1<=c.Y0/\c.Y1<=s.2)/\(∀c∈b,s.1<=c.Y0/\c.Y1<=s.2)/\s.1∈Y/\s.2∈Y) (by simp) trivial<|λk s hk hI=>?_) ?_
 ·obtain⟨y,e⟩:=s;have hk:k=0\/k=1:=by simp at hk;omega
  rcases hk with rfl|rfl
  ·refine R0 (x:=a) rfl ?_
   by_cases ea:a= []
   ·subst ea;exact RE (x:=(y,e)) rfl<|RJ<|.inl rfl
   ·obtain⟨f,l,f1,f2,f3,f4,f5⟩:=BM ea (by omega) ca;have hpos:decide (((a.length:Nat):Int)>0)=true:=bL (by have:=List.length_pos_iff.2 ea;omega);refine RE (x:=(f.Y0,l.Y1)) ?_<|RJ<|.inr ⟨f5,(la _<|cY.2 ⟨f,f3,rfl⟩).1,(la _<|cY.2 ⟨l,f4,rfl⟩).2.1⟩
    rw[hpos,aO];show((some true).bind _)=_;rw[aB,aO,f1,aB,f2,aB,aB,aB,aB];simp
  ·refine R0 (x:=b) rfl ?_;have hI:a= []\/((∀c∈a,y<=c.Y0/\c.Y1<=e)/\y∈Y/\e∈Y):=hI
   by_cases eb:b= []
   ·subst eb;refine RE (x:=(y,e)) rfl<|RJ ?_
    rcases hI with h|⟨h1,h2,h3⟩
    ·rcases h0 with h'|h'
     ·exact absurd h h'
     ·exact absurd rfl h'
    ·exact⟨h1,λc hc=>(by cases hc),h2,h3⟩
   ·obtain⟨f,l,f1,f2,f3,f4,f5⟩:=BM eb (by omega) cb;have hpos:decide (((b.length:Nat):Int)>0)=true:=bL (by have:=List.length_pos_iff.2 eb;omega);have g1:f.Y0∈Y:=(lb _<|cY.2 ⟨f,f3,rfl⟩).1;have g2:l.Y1∈Y:=(lb _<|cY.2 ⟨l,f4,rfl⟩).2.1
    by_cases ea:a= []
    ·subst ea;refine RE (x:=(f.Y0,l.Y1)) ?_<|RJ ⟨λc hc=>(by cases hc),f5,g1,g2⟩
     rw[hpos,aO];show((some true).bind _)=_;rw[aB,aO,f1,aB,f2,aB,aB,aB,aB];simp
    ·obtain⟨h1,h2,h3⟩:=hI.resolve_left ea;refine RE (x:=(if f.Y0<y then f.Y0 else y,if e<l.Y1 then l.Y1 else e)) ?_<|RJ ⟨λc hc=>?_,λc hc=>?_,?_,?_⟩
     ·rw[hpos,aO];have ez:(((a.length:Nat):Int)==0)=false:=by rw[beq_eq_false_iff_ne];have:=List.length_pos_iff.2 ea;omega
      rw[ez];show((some false).bind _)=_;rw[aB,aQ,aB,f1,aB,f2,aB]
     ·have:=h1 c hc;dsimp only;split <;> split <;> omega
     ·have:=f5 c hc;dsimp only;split <;> split <;> omega
     ·dsimp only;split
      ·exact g1
      ·exact h2
     ·dsimp only;split
      ·exact g2
      ·exact h3
 ·rintro⟨y0,e0⟩hI;have hI:(∀c∈a,y0<=c.Y0/\c.Y1<=e0)/\(∀c∈b,y0<=c.Y0/\c.Y1<=e0)/\y0∈Y/\e0∈Y:=hI;obtain⟨ia,ib,iy,ie⟩:=hI;have sy:=hs _ iy;have se:=hs _ ie;unfold small at sy se;dsimp only
  refine RP (SS (Go:=λs=>Eb gO X Y a b s.2.2.1) (Rt:=λ_=>True)
   (λs=>∃pa pb,a=pa++s.1/\b=pb++s.2.1/\(∀c∈pa,c.Y1<=s.2.2.2)/\(∀c∈pb,c.Y1<=s.2.2.2)/\y0<=s.2.2.2/\s.2.2.2<=max y0 e0/\s.2.2.2∈Y/\eR (s.2.2.1.map bY)/\yb X Y (s.2.2.1.map bY)/\(∀c∈s.2.2.1,c.Y1<=s.2.2.2)/\
    ∀x y,vh (s.2.2.1.map bY) x y=(gO (vh (a.map bY) x y) (vh (b.map bY) x y)&&decide (y<s.2.2.2)))
   (λs=>(e0 - s.2.2.2).toNat) ?_ ?_ (by dsimp only;omega)) ?_
  ·rintro⟨a',b',out,y⟩⟨pa,pb,ea,eb,hpa,hpb,hy0,hye,hyY,hcan,hlim,htop,hcov⟩;dsimp only at ea eb hpa hpb hy0 hye hyY hcan hlim htop hcov ⊢;refine R9 (λh=>?_)<|λh=>Sn ?_
   ·have hlt:y<e0:=of_decide_eq_true h;have hsl:∀(p s t:List aA),t=p++s->s.length<=t.length:=λp s t e=>by rw[e];simp
    have hal':=hsl _ _ _ ea;have hbl':=hsl _ _ _ eb;refine RP (Dd (y:=y) (a:=a') (by omega) rfl)<|λo ho=>Sm ho ?_<|λr=>r.elim
    rintro a2⟨qa,ea2,hqa,hha⟩;refine RP (Dd (y:=y) (a:=b') (by omega) rfl)<|λo ho=>Sm ho ?_<|λr=>r.elim
    rintro b2⟨qb,eb2,hqb,hhb⟩;have ea3:a=(pa++qa)++a2:=by rw[ea,ea2];simp
    have eb3:b=(pb++qb)++b2:=by rw[eb,eb2];simp
    have hPa:∀c∈pa++qa,c.Y1<=y:=λc hc=>by rcases dH.1 hc with h|h;exact hpa c h;exact hqa c h
    have hPb:∀c∈pb++qb,c.Y1<=y:=λc hc=>by rcases dH.1 hc with h|h;exact hpb c h;exact hqb c h
    have ca2:eR (a2.map bY):=by have:=ca;rw[ea3,eN]at this;exact this.app
    have cb2:eR (b2.map bY):=by have:=cb;rw[eb3,eN]at this;exact this.app
    have la2:yb X Y (a2.map bY):=λc hc=>la c (by rw[ea3,eN];exact List.mem_append_right _ hc);have lb2:yb X Y (b2.map bY):=λc hc=>lb c (by rw[eb3,eN];exact List.mem_append_right _ hc);refine RE (L7 a2 y e0)<|RE (L7 b2 y e0) ?_
    obtain⟨a1,a3,a4,a5,a6,a7,a8⟩:=HH ca2 la2 hha hlt;obtain⟨b1,b3,b4,b5,b6,b7,b8⟩:=HH cb2 lb2 hhb hlt;have hal2:(Gh a2 y e0).1.length<=X.length:=fP a5.nodup a8;have hbl2:(Gh b2 y e0).1.length<=X.length:=fP b5.nodup b8;generalize Gh a2 y e0=pa2 at *;generalize Gh b2 y e0=pb2 at *;obtain⟨xa,n⟩:=pa2;obtain⟨xb,m⟩:=pb2;dsimp only at *;refine RP (Iw hφ hk a5 b5 a6 b6 (by omega) (by omega) (by omega)) ?_;rintro row⟨r1,r2,r3,r4⟩;have hnx:∃nx,nx=(if m<n then m else n)/\y<nx/\nx<=e0/\nx<=n/\nx<=m/\nx∈Y:=by
     refine⟨_,rfl,by split <;> omega,by split <;> omega,by split <;> omega,by split <;> omega,?_⟩;split
     ·rcases b7 with h|h
      ·rw[h];exact ie
      ·exact h
     ·rcases a7 with h|h
      ·rw[h];exact ie
      ·exact h
    obtain⟨nx,hnx,n1,n2,n3,n4,n5⟩:=hnx;rw[<-hnx];have hol:out.length<=Y.length:=by have:=hlim.len hcan;rwa[dY]at this
    obtain⟨out',p1,p2⟩:=HF (N:=N) (s:=out) (b:=⟨y,nx,row⟩) (by omega) (λc hc=>by
     have:=hlim.row hcan (b:=bY c)<|cY.2 ⟨c,hc,rfl⟩
     have e:(bY c).xs=c.Xs:=rfl
     rw[e]at this;omega)
    refine RE p1 ?_;have htop':∀c∈out.map bY,c.y1<=(bY ⟨y,nx,row⟩).y0:=λc hc=>by
     obtain⟨d,hd,rfl⟩:=cY.1 hc;exact htop d hd
    refine Si ⟨⟨pa++qa,pb++qb,ea3,eb3,λc hc=>by have:=hPa c hc;dsimp only;omega,λc hc=>by have:=hPb c hc;dsimp only;omega,by dsimp only;omega,by dsimp only;omega,n5,by dsimp only;rw[p2];exact wF hcan htop' r1 r2,?_,λc hc=>?_,λx y'=>?_⟩,by dsimp only;omega⟩
    ·dsimp only;rw[p2];refine hlim.push hyY n5<|λc hc=>?_
     rcases r4 c hc with h|h
     ·exact a8 c h
     ·exact b8 c h
    ·have hm':bY c∈jD (out.map bY) (bY ⟨y,nx,row⟩):=by rw[<-p2];exact cY.2 ⟨c,hc,rfl⟩
     exact wG htop' (by show y<=nx;omega) _ hm'
    ·show pw (rowAt (out'.map bY) y') x=_;rw[p2,wE htop' (λc hc=>(hcan.each c hc).1)<|λh=>absurd h (by show ¬nx<=y;omega)]
     by_cases hyy:y<=y'/\y'<nx
     ·rw[aC (show(bY ⟨y,nx,row⟩).y0<=y'/\y'<(bY ⟨y,nx,row⟩).y1 from hyy),bL hyy.2,Bool.and_true];show pw row x=_;have mp:∀p q:List aA,(∀c∈p++q,c.Y1<=y)->∀c∈(p++q).map bY,c.y1<=y:=λp q h c hc=>by
       obtain⟨d,hd,rfl⟩:=cY.1 hc;exact h d hd
      have q1:vh (a.map bY) x y'=pw xa x:=by
       unfold vh;rw[ea3,eN,FC (mp _ _ hPa) hyy.1,a4 y' hyy.1 (by omega)]
      have q2:vh (b.map bY) x y'=pw xb x:=by
       unfold vh;rw[eb3,eN,FC (mp _ _ hPb) hyy.1,b4 y' hyy.1 (by omega)]
      rw[r3,q1,q2]
     ·rw[aD (show ¬((bY ⟨y,nx,row⟩).y0<=y'/\y'<(bY ⟨y,nx,row⟩).y1)from hyy)];show vh (out.map bY) x y'=_;rw[hcov]
      by_cases h1:y'<y
      ·rw[bL h1,bL (show y'<nx by omega)]
      ·rw[bO h1,bO (show ¬y'<nx by omega)]
   ·have hge:e0<=y:=by have:=of_decide_eq_false h;omega
    refine⟨hcan,λx y'=>?_,hlim⟩;dsimp only;rw[hcov]
    by_cases h1:y'<y
    ·rw[bL h1,Bool.and_true]
    ·have z:∀s:List aA,(∀c∈s,y0<=c.Y0/\c.Y1<=e0)->vh (s.map bY) x y'=false:=λs h=>by
      unfold vh;rw[lW λc hc=>?_]
      ·rfl
      ·obtain⟨d,hd,rfl⟩:=cY.1 hc;exact .inr (by have:=(h d hd).2;show d.Y1<=y';omega)
     rw[z a ia,z b ib,hk];rfl
  ·refine⟨[],[],rfl,rfl,λc hc=>(by cases hc),λc hc=>(by cases hc),Int.le_refl _,by dsimp only;omega,iy,eR.nil,λc hc=>(by cases hc),λc hc=>(by cases hc),λx y=>?_⟩;dsimp only;show false=_
   by_cases h1:y<y0
   ·have z:∀s:List aA,(∀c∈s,y0<=c.Y0/\c.Y1<=e0)->vh (s.map bY) x y=false:=λs h=>by
     unfold vh;rw[lW λc hc=>?_]
     ·rfl
     ·obtain⟨d,hd,rfl⟩:=cY.1 hc;exact .inl (by have:=(h d hd).1;show y<d.Y0;omega)
    rw[z a ia,z b ib,hk];rfl
   ·rw[bO h1,Bool.and_false]
  ·rintro o ho;exact Sm ho (λs h=>RJ h)<|λr=>r.elim
theorem Ix{a b:List aA}{X Y:List Int}(ca:eR (a.map bY))(cb:eR (b.map bY))(la:yb X Y (a.map bY))(lb:yb X Y (b.map bY))(hX:X.length<=1048576000)(hY:Y.length<=1048576000)(hs:∀c∈Y,small c)(hN:4398046511104<=N):
  Ok (lx N a b) (Eb (λp q=>p&& !q) X Y a b):=by
 unfold lx;exact RP (GP (gO:=λp q=>p&& !q) (λp q=>rfl) rfl ca cb la lb hX hY hs hN)<|λs h=>RJ h
end
section
variable {N:Nat}
structure UF (n:Nat) (up:List Int) (r:Nat->Nat):Prop where
 len:up.length=n
 rt:∀i,i<n->∃u:Nat,up[i]? =some ((u:Nat):Int)/\u<=i/\r u=r i/\(u=i↔r i=i)
theorem UF.le{n:Nat}{up:List Int}{r:Nat->Nat}(h:UF n up r):∀i,i<n->r i<=i:=by
 intro i
 induction i using Nat.strongRecOn with
 |ind i ih=>
  intro hi;obtain⟨u,_,h2,h3,h4⟩:=h.rt i hi
  by_cases e:u=i
  ·rw[h4.1 e];exact bR _
  ·rw[<-h3];have:=ih u (by omega) (by omega);omega
theorem UF.rr{n:Nat}{up:List Int}{r:Nat->Nat}(h:UF n up r):∀i,i<n->r (r i)=r i:=by
 intro i
 induction i using Nat.strongRecOn with
 |ind i ih=>
  intro hi;obtain⟨u,_,h2,h3,h4⟩:=h.rt i hi
  by_cases e:u=i
  ·rw[h4.1 e,h4.1 e]
  ·rw[<-h3];exact ih u (by omega) (by omega)
theorem oj{l:List Int}{j:Nat}{v:Int}{i:Nat}(hj:j<l.length):(l.set j v)[i]? =if i=j then some v else l[i]? :=by
 rw[fA]
 by_cases e:j=i
 ·rw[aC e,aC e.symm,aC hj]
 ·rw[aD e,aD<|λh=>e h.symm]
theorem UF.init(n:Nat)(up:List Int)(h1:up.length=n)(h2:∀i,i<n->up[i]? =some ((i:Nat):Int)):UF n up (λi=>i):=
 ⟨h1,λi hi=>⟨i,h2 i hi,bR _,rfl,by simp⟩⟩
theorem Ao{n:Nat}(hn:n<=1048576000):∃up,j8 N ((n:Nat):Int)=some up/\UF n up (λi=>i):=by
 unfold j8;rw[rf 0 (by omega),aB];have h0:(List.replicate n (0:Int)).length=n:=by simp
 obtain⟨s',h1,h2⟩:=AU (m:=(List.replicate n (0:Int)).length) (s:=List.replicate n (0:Int)) (body:=λ(k34:Nat)(s35:List Int)=>((idx s35 (k34:Int)).bind λx38=>some (s35.set (Int.toNat (k34:Int)) (k34:Int)):Option (List Int)))
  (λk s=>s.length=n/\∀i,i<k->s[i]? =some ((i:Nat):Int)) (by omega) ⟨h0,λi hi=>by omega⟩ (λk s hk⟨hs,hi⟩=>by
   refine⟨s.set k ((k:Nat):Int),?_,by simp[hs],λi hi'=>?_⟩
   ·rw[lj _ _ (by omega),aB,cI]
   ·rw[oj (by omega)];split
    ·rename_i e;rw[e]
    ·exact hi i (by omega))
 rw[h1,aB];exact⟨s',rfl,UF.init n s' h2.1<|λi hi=>h2.2 i (by omega)⟩
theorem vW{n:Nat}{up:List Int}{r:Nat->Nat}(h:UF n up r){i:Nat}(hi:i<n)(hn:n<N):∃up',eP N up ((i:Nat):Int)=some (((r i:Nat):Int),up')/\UF n up' r:=by
 unfold eP;obtain⟨o,h1,h2⟩:=yC (R:=Empty) (body:=λ(s32:List Int×Int)=>((idx s32.1 s32.2).bind λx43=>bif x43 != s32.2 then((idx s32.1 s32.2).bind λx44=>(idx s32.1 x44).bind λx45=>(idx s32.1 s32.2).bind λx46=>(idx (s32.1.set (Int.toNat s32.2) x45) s32.2).bind λx47=>some<|.nx (s32.1.set (Int.toNat s32.2) x45,x47))else(some<|.br (s32.1,s32.2)):Option (Fl (List Int×Int) Empty)))
  (λs=>UF n s.1 r/\∃j:Nat,s.2=((j:Nat):Int)/\j<n/\r j=r i) (λs=>s.2.toNat) (λs=>s.2=((r i:Nat):Int)/\UF n s.1 r) (λ_=>True) (λs⟨hu,j,hj,hjn,hr⟩=>by
   obtain⟨l,y⟩:=s;dsimp only at hu hj ⊢;subst hj;obtain⟨u,a1,a2,a3,a4⟩:=hu.rt j hjn;rw[dS a1,aB]
   by_cases e:u=j
   ·subst e;refine⟨.br (l,((u:Nat):Int)),by rw[show(((u:Nat):Int) != ((u:Nat):Int))=false by simp,aQ],?_,hu⟩;show((u:Nat):Int)=_;rw[<-hr,a4.1 rfl]
   ·obtain⟨v,b1,b2,b3,b4⟩:=hu.rt u (by omega);have hl:=hu.len
    refine⟨.nx (l.set j ((v:Nat):Int),((v:Nat):Int)),by
     rw[show(((u:Nat):Int) != ((j:Nat):Int))=true by simp;omega,aO,aB,dS b1,aB,aB,cI,
      dS (x:=((v:Nat):Int)) (by rw[oj (by omega),aC rfl]),aB],⟨⟨by simp[hl],λk hk=>?_⟩,v,rfl,by omega,?_⟩,?_⟩
    ·rw[oj (by omega)]
     by_cases e2:k=j
     ·subst e2;rw[aC rfl];refine⟨v,rfl,by omega,by rw[b3,a3],?_⟩;constructor
      ·intro h;omega
      ·intro h;exact absurd (a4.2 h) e
     ·rw[aD e2];exact hu.rt k hk
    ·rw[b3,a3,hr]
    ·simp only[cI];omega)
  N (up,((i:Nat):Int)) ⟨h,i,rfl,hi,rfl⟩ (by simp only[cI];omega)
 rw[h1,aB]
 cases o with
 |go s'=>exact⟨s'.1,by rw[<-h2.1];rfl,h2.2⟩
 |rt r=>exact r.elim
def pC(r:Nat->Nat)(a b:Nat):Nat->Nat:=λx=>if r x=max a b then min a b else r x
theorem JZ(a b:Nat):(if((a:Nat):Int)<((b:Nat):Int)then((b:Nat):Int)else((a:Nat):Int))=((max a b:Nat):Int):=by
 rw[Nat.max_def];split <;> split <;> omega
theorem J0(a b:Nat):(if((b:Nat):Int)<((a:Nat):Int)then((b:Nat):Int)else((a:Nat):Int))=((min a b:Nat):Int):=by
 rw[Nat.min_def];split <;> split <;> omega
theorem Le{n:Nat}{up:List Int}{r:Nat->Nat}(h:UF n up r){i k:Nat}(hi:i<n)(hk:k<n)(hn:n<N):
  ∃up',eF N up ((i:Nat):Int) ((k:Nat):Int)=some up'/\UF n up' (pC r (r i)<|r k):=by
 obtain⟨u1,a1,a2⟩:=vW h hi hn;obtain⟨u2,b1,b2⟩:=vW a2 hk hn;have hri:=h.le i hi;have hrk:=h.le k hk;have rri:=h.rr i hi;have rrk:=h.rr k hk;unfold eF;rw[a1,aB,b1,aB];dsimp only;rw[JZ,J0];have hm:max (r i) (r k)<n:=by omega
 have hl:=b2.len;rw[lj _ _ (by omega),aB,cI];refine⟨_,rfl,by simp[hl],λx hx=>?_⟩;have rmax:r (max (r i)<|r k)=max (r i) (r k):=by rcases Nat.le_total (r i) (r k)with e|e <;> simp[Nat.max_def] <;> split <;> omega
 have rmin:r (min (r i)<|r k)=min (r i) (r k):=by rcases Nat.le_total (r i) (r k)with e|e <;> simp[Nat.min_def] <;> split <;> omega
 rw[oj (by omega)]
 by_cases e:x=max (r i) (r k)
 ·subst e;rw[aC rfl];refine⟨min (r i)<|r k,rfl,by omega,?_,?_⟩
  ·unfold pC;rw[rmin,rmax,aC rfl];split <;> rfl
  ·unfold pC;rw[rmax,aC rfl]
 ·rw[aD e];obtain⟨u,c1,c2,c3,c4⟩:=b2.rt x hx;refine⟨u,c1,c2,?_,?_⟩
  ·unfold pC;rw[c3]
  ·unfold pC;split
   ·rename_i e2;constructor
    ·intro hu;have:=c4.1 hu;omega
    ·intro hu;have h1:=b2.le x hx;have:min (r i) (r k)=max (r i) (r k)\/x<max (r i) (r k):=by omega
     have h3:x=max (r i) (r k):=by omega
     exact absurd h3 e
   ·exact c4
def qA(r:Nat->Nat)(E:List (Nat×Nat)):Prop:=∀p∈E,r p.1=r p.2
def AM(n:Nat)(r:Nat->Nat)(E:List (Nat×Nat)):Prop:=∀S:Nat->Prop,(∀p∈E,S p.1↔S p.2)->∀i j,i<n->j<n->r i=r j->S i->S j
theorem qA.join{r:Nat->Nat}{E:List (Nat×Nat)}(h:qA r E)(i k:Nat)(_h2:r (r i)=r i):qA (pC r (r i)<|r k) (E++[(i,k)]):=λp hp=>by
 rcases dH.1 hp with hp|hp
 ·unfold pC;rw[h p hp]
 ·simp at hp;subst hp;unfold pC;dsimp only;split <;> split <;> omega
theorem AM.join{n:Nat}{r:Nat->Nat}{E:List (Nat×Nat)}(h:AM n r E){i k:Nat}(hi:i<n)(hk:k<n):AM n (pC r (r i)<|r k) (E++[(i,k)]):=λS hS x y hx hy hr hSx=>by
 have hE:∀p∈E,S p.1↔S p.2:=λp hp=>hS p<|List.mem_append_left _ hp
 have hik:S i↔S k:=hS (i,k) (by simp);have key:=h S hE;unfold pC at hr
 by_cases h1:r x=r y
 ·exact key x y hx hy h1 hSx
 ·have:(r x=r i/\r y=r k)\/(r x=r k/\r y=r i):=by
   split at hr <;> split at hr <;> omega
  rcases this with⟨e1,e2⟩|⟨e1,e2⟩
  ·exact key k y hk hy e2.symm<|hik.1<|key x i hx hi e1 hSx
  ·exact key i y hi hy e2.symm<|hik.2<|key x k hx hk e1 hSx
theorem AM.id(n:Nat):AM n (λi=>i) []:=λS _ i j _ _ h hs=>by
 have h:i=j:=h;subst h;exact hs
theorem qA.id:qA (λi=>i) []:=λp hp=>by simp at hp
def bW(n:Nat)(r:Nat->Nat):List Nat:=(List.range n).filter<|λk=>decide<|r k=k
def cls(n:Nat)(r:Nat->Nat)(k:Nat):List Nat:=(List.range n).filter<|λi=>decide<|r i=k
theorem iU(n:Nat)(r:Nat->Nat):bW (n+1) r=if r n=n then bW n r++[n]else bW n r:=by
 unfold bW;rw[List.range_succ,kJ]
 by_cases h:r n=n
 ·rw[aC h];simp[h]
 ·rw[aD h];simp[h]
theorem vX(n:Nat)(r:Nat->Nat)(k:Nat):cls (n+1) r k=if r n=k then cls n r k++[n]else cls n r k:=by
 unfold cls;rw[List.range_succ,kJ]
 by_cases h:r n=k
 ·rw[aC h];simp[h]
 ·rw[aD h];simp[h]
theorem pP(n:Nat)(r:Nat->Nat):(bW n r).length<=n:=by
 have:=oV (λk=>decide<|r k=k)<|List.range n
 rw[List.length_range]at this;exact this
theorem Ec(n:Nat)(r:Nat->Nat)(k:Nat):(cls n r k).length<=n:=by
 have:=oV (λi=>decide<|r i=k)<|List.range n
 rw[List.length_range]at this;exact this
theorem jE{n k:Nat}{r:Nat->Nat}:k∈bW n r↔k<n/\r k=k:=by unfold bW;simp
theorem oQ(n:Nat)(r:Nat->Nat):(bW n r).Nodup:=List.Nodup.sublist List.filter_sublist List.nodup_range
def r8(n:Nat)(r:Nat->Nat):List (List Int):=(bW n r).map<|λk=>(cls n r k).map<|λi=>((i:Nat):Int)
theorem HI{n k:Nat}{r:Nat->Nat}(h:∀i,i<n->r i<=i)(hk:n<=k):cls n r k= []:=by
 unfold cls;rw[List.filter_eq_nil_iff];intro i hi;have h1:=ni.1 hi;have:=h i h1;simp;omega
theorem vY{α β:Type}(f g:α->β)(l:List α)(j:Nat)(a:α)(hn:l.Nodup)(hj:l[j]? =some a)(hf:∀b,b∈l->b≠a->f b=g b):(l.map f).set j (g a)=l.map g:=by
 apply List.ext_getElem?;intro i;have hjl:=(bA.1 hj).1;rw[fA,dY,i5,i5]
 by_cases e:j=i
 ·subst e;rw[aC rfl,aC hjl,hj];rfl
 ·rw[aD e]
  cases hb:l[i]? with
  |none=>rfl
  |some b=>
   have hne:b≠a:=λhe=>by
    subst he;have hil:=(bA.1 hb).1;exact e<|(List.getElem_inj hn).1 (by rw[(bA.1 hb).2,(bA.1 hj).2]) |>.symm
   show some (f b)=some (g b);rw[hf b (gq hb) hne]
def OX(n:Nat)(r:Nat->Nat)(m:List (Int×Int)):Prop:=∀(j k:Nat),(bW n r)[j]? =some k->fC m ((k:Nat):Int) 0=((j:Nat):Int)
theorem Lg{n:Nat}{up:List Int}{r:Nat->Nat}(h:UF n up r)(hn:n<N)(hn2:n<=1048576000):∃up',kj N up=some (r8 n r,up')/\UF n up' r:=by
 unfold kj;have hlen:=h.len;have hle:=h.le;have hrr:=h.rr;obtain⟨s',h1,h2⟩:=AU (m:=up.length) (s:=(up,([]:List (List Int)),([]:List (Int×Int))))
  (body:=λ(k32:Nat)(s33:List Int×List (List Int)×List (Int×Int))=>((eP N s33.1 (k32:Int)).bind λx117=>(bif x117.1==(k32:Int)then((app 24 s33.2.1 [([]:List Int)]).bind λx126=>some (x126,ql s33.2.2 (k32:Int) (s33.2.1.length:Int)))else some (s33.2.1,s33.2.2)).bind λs122=>(idx s122.1<|fC s122.2 x117.1 (0:Int)).bind λx128=>(app 8 x128 ([(k32:Int)]:List Int)).bind λx134=>(idx s122.1<|fC s122.2 x117.1 (0:Int)).bind λx136=>some (x117.2,s122.1.set (Int.toNat<|fC s122.2 x117.1 (0:Int)) x134,s122.2):Option (List Int×List (List Int)×List (Int×Int))))
  (λk s=>UF n s.1 r/\s.2.1=r8 k r/\OX k r s.2.2) (by omega) ⟨h,rfl,λj k hj=>by simp[bW]at hj⟩ (λk s hk⟨hu,hs,hm⟩=>by
   obtain⟨l,ss,m⟩:=s;dsimp only at hu hs hm ⊢;subst hs;rw[hlen]at hk;obtain⟨u',a1,a2⟩:=vW hu hk hn;rw[a1,aB];dsimp only;have hhl:=pP k r;have hsl:(r8 k r).length=(bW k r).length:=by unfold r8;simp
   have hrk:=hle k hk
   by_cases e:r k=k
   ·
    rw[show(((r k:Nat):Int)==((k:Nat):Int))=true by rw[e];simp,aO,kR (by rw[hsl];simp;omega),aB,aB];dsimp only;rw[e,pM,aC rfl,hsl];have hi:(r8 k r++[([]:List Int)])[(bW k r).length]? =some []:=by rw[<-hsl,gQ<|bR _,Nat.sub_self];rfl
    rw[dS hi,aB,kR (by simp),aB,aB,cI];refine⟨_,rfl,a2,?_,λj q hj=>?_⟩
    ·dsimp only;rw[<-hsl,List.set_append_right _ _<|bR _,Nat.sub_self];unfold r8;rw[iU,aC e,eN];congr 1
     ·apply List.map_congr_left;intro a ha;have:=(jE.1 ha).1;rw[vX,aD (by omega)]
     ·simp only[List.set_cons_zero,dT,List.map_nil,List.nil_append];rw[vX,aC e,HI (λi hi=>hle i (by omega))<|bR _];rfl
    ·dsimp only;rw[iU,aC e]at hj;rw[pM]
     by_cases e2:j<(bW k r).length
     ·rw[gz e2]at hj;have:=(jE.1<|gq hj).1;rw[aD (by omega)];exact hm j q hj
     ·rw[gQ (by omega)]at hj;have hj0:j -(bW k r).length=0:=by
       have:=(bA.1 hj).1;simp at this;omega
      rw[hj0]at hj;simp at hj;subst hj;rw[aC rfl];congr 1;omega
   ·rw[show(((r k:Nat):Int)==((k:Nat):Int))=false by simp;omega,aQ,aB];dsimp only;have hh:r k∈bW k r:=jE.2 ⟨by omega,hrr k hk⟩;obtain⟨j,hj⟩:=eO hh;rw[hm j (r k) hj];have hcl:=Ec k r<|r k
    have hi:(r8 k r)[j]? =some ((cls k r<|r k).map<|λi=>((i:Nat):Int)):=by unfold r8;rw[i5,hj];rfl
    rw[dS hi,aB,kR (by simp;omega),aB,aB,cI];refine⟨_,rfl,a2,?_,λj' q hj'=>?_⟩
    ·unfold r8;rw[iU,aD e]
     have:=vY (λa=>(cls k r a).map (λi=>((i:Nat):Int))) (λa=>(cls (k+1) r a).map (λi=>((i:Nat):Int))) (bW k r) j (r k) (oQ k r) hj (λb hb hne=>by
      rw[vX,aD (λh=>hne h.symm)])
     rw[vX,aC rfl,eN]at this;exact this
    ·rw[iU,aD e]at hj';exact hm j' q hj')
 rw[h1,aB];obtain⟨l,ss,m⟩:=s';dsimp only at h2;rw[hlen]at h2;refine⟨l,?_,h2.1⟩;rw[<-h2.2.1]
end
section
variable {N:Nat}
theorem Ed{n:Nat}{up:List Int}{r:Nat->Nat}(h:UF n up r){i:Nat}(hi:i<n)(hn:n<N):∃up',fG N ((i:Nat):Int) up=some (((r i:Nat):Int),up')/\UF n up' r:=by
 unfold fG
 have:=RP (β:=Int×List Int) (Q:=λx=>x.1=((r i:Nat):Int)/\UF n x.2 r) (SS (body:=λ(s32:Int×(List Int))=>((idx s32.2 s32.1).bind λx43=>bif(x43 != s32.1)then((idx s32.2 s32.1).bind λx44=>(idx s32.2 x44).bind λx45=>(idx s32.2 s32.1).bind λx46=>(idx (s32.2.set (Int.toNat s32.1) x45) s32.1).bind λx47=>some (.nx (x47,(s32.2.set (Int.toNat s32.1) x45))))else(some (.br (s32.1,s32.2))):Option (Fl (Int×(List Int)) Empty)))
  (N:=N) (s:=(((i:Nat):Int),up)) (Go:=λs=>s.1=((r i:Nat):Int)/\UF n s.2 r) (Rt:=λ_=>True) (λs=>UF n s.2 r/\∃j:Nat,s.1=((j:Nat):Int)/\j<n/\r j=r i) (λs=>s.1.toNat) (by
   rintro⟨y,l⟩⟨hu,j,hj,hjn,hr⟩;dsimp only at hu hj ⊢;subst hj;obtain⟨u,a1,a2,a3,a4⟩:=hu.rt j hjn;refine R0 a1 ?_
   by_cases e:u=j
   ·subst e;rw[show(((u:Nat):Int) != ((u:Nat):Int))=false by simp,aQ];refine Sn ⟨?_,hu⟩;show((u:Nat):Int)=_;rw[<-hr,a4.1 rfl]
   ·obtain⟨v,b1,b2,b3,b4⟩:=hu.rt u (by omega);have hl:=hu.len;rw[show(((u:Nat):Int) != ((j:Nat):Int))=true by simp;omega,aO];refine R0 a1<|R0 b1<|R0 a1<|R0 (x:=((v:Nat):Int)) (by rw[cI,oj (by omega),aC rfl])<|Si ⟨⟨⟨by simp[hl],λk hk=>?_⟩,v,rfl,by omega,?_⟩,?_⟩
    ·rw[cI,oj (by omega)]
     by_cases e2:k=j
     ·subst e2;rw[aC rfl];refine⟨v,rfl,by omega,by rw[b3,a3],?_⟩;constructor
      ·intro h;omega
      ·intro h;exact absurd (a4.2 h) e
     ·rw[aD e2];exact hu.rt k hk
    ·rw[b3,a3,hr]
    ·simp only[cI];omega)
  ⟨h,i,rfl,hi,rfl⟩ (by simp only[cI];omega))
  (λo ho=>Sm (f:=λ(s32:Int×List Int)=>some (s32.1,s32.2)) (g:=λr:Empty=>r.elim) ho (λs h=>RJ h)<|λr=>r.elim)
 obtain⟨⟨x,up'⟩,h1,h2,h3⟩:=this;exact⟨up',by rw[<-h2];exact h1,h3⟩
theorem J3{n:Nat}{up:List Int}{r:Nat->Nat}(h:UF n up r){i k:Nat}(hi:i<n)(hk:k<n){f:List Int->Option (List Int)}(hn:n<N):
  ∃up',((fG N ((i:Nat):Int) up).bind λx840=>(fG N ((k:Nat):Int) x840.2).bind λx842=>(idx x842.2 (if x840.1<x842.1 then x842.1 else x840.1)).bind λx844=>some<|x842.2.set (Int.toNat (if x840.1<x842.1 then x842.1 else x840.1)) (if x842.1<x840.1 then x842.1 else x840.1))=some up'/\UF n up' (pC r (r i)<|r k):=by
 obtain⟨u1,a1,a2⟩:=Ed h hi hn;obtain⟨u2,b1,b2⟩:=Ed a2 hk hn;obtain⟨v1,c1,c2⟩:=vW h hi hn;have hri:=h.le i hi;have hrk:=h.le k hk;have rri:=h.rr i hi;have rrk:=h.rr k hk;rw[a1,aB,b1,aB];dsimp only;rw[JZ,J0];have hm:max (r i) (r k)<n:=by omega
 have hl:=b2.len;rw[lj _ _ (by omega),aB,cI];refine⟨_,rfl,by simp[hl],λx hx=>?_⟩;have rmax:r (max (r i)<|r k)=max (r i) (r k):=by rcases Nat.le_total (r i) (r k)with e|e <;> simp[Nat.max_def] <;> split <;> omega
 have rmin:r (min (r i)<|r k)=min (r i) (r k):=by rcases Nat.le_total (r i) (r k)with e|e <;> simp[Nat.min_def] <;> split <;> omega
 rw[oj (by omega)]
 by_cases e:x=max (r i) (r k)
 ·subst e;rw[aC rfl];refine⟨min (r i)<|r k,rfl,by omega,?_,?_⟩
  ·unfold pC;rw[rmin,rmax,aC rfl];split <;> rfl
  ·unfold pC;rw[rmax,aC rfl]
 ·rw[aD e];obtain⟨u,c1,c2,c3,c4⟩:=b2.rt x hx;refine⟨u,c1,c2,?_,?_⟩
  ·unfold pC;rw[c3]
  ·unfold pC;split
   ·rename_i e2;constructor
    ·intro hu;have:=c4.1 hu;omega
    ·intro hu;have h1:=b2.le x hx;have h3:x=max (r i) (r k):=by omega
     exact absurd h3 e
   ·exact c4
def ja(s:List aA)(k:Nat):Nat:=(aR<|s.take k).length
theorem zV{s:List aA}{k:Nat}(h:k<s.length):ja s (k+1)=ja s k+s[k].Xs.length / 2:=by
 unfold ja;rw[fq h,n8,dF];show _+(aR [s[k]]).length=_;rw[show aR [s[k]]=m8 s[k]by simp[aR],nD]
theorem zW{s:List aA}{k m:Nat}(h:k<=m):ja s k<=ja s m:=by
 unfold ja;have:=zT (s.take m) k;rwa[List.take_take,Nat.min_eq_left h]at this
theorem FD(s:List aA):ja s s.length=(aR s).length:=by unfold ja;rw[fS]
theorem Lh{s:List aA}{k t:Nat}(h:k<s.length)(ht:2*t+1<s[k].Xs.length):(aR s)[ja s k+t]? =some ⟨s[k].Xs[2*t],s[k].Y0,s[k].Xs[2*t+1],s[k].Y1⟩:=by
 have e:aR s=aR (s.take k)++(m8 s[k]++aR (s.drop<|k+1)):=by
  conv=>lhs;rw[<-List.take_append_drop k s,sF h]
  rw[n8,m9]
 rw[e];unfold ja;rw[gQ (by omega),Nat.add_sub_cancel_left,gz (by rw[nD];omega)];unfold m8;rw[i5,yV _ _ ht];rfl
theorem HJ{s:List aA}{i:Nat}(h:i<(aR s).length):∃k,k<s.length/\ja s k<=i/\i<ja s (k+1):=by
 have key:∀m,m<=s.length->i<ja s m->∃k,k<m/\ja s k<=i/\i<ja s (k+1):=by
  intro m
  induction m with
  |zero=>intro _ h;unfold ja at h;simp[aR]at h
  |succ m ih=>
   intro hm hi
   by_cases h1:i<ja s m
   ·obtain⟨k,hk,h2⟩:=ih (by omega) h1;exact⟨k,by omega,h2⟩
   ·exact⟨m,by omega,by omega,hi⟩
 exact key s.length (bR _) (by rw[FD];exact h)
def Ee(a c:aH):Prop:=a.Y1=c.Y0/\a.X0<c.X1/\c.X0<a.X1
def zp(all:List aH)(i j:Nat):Prop:=∃a c,all[i]? =some a/\all[j]? =some c/\Ee a c
theorem wI{s:List aA}(he:∀b∈s,b.Xs.length % 2=0){k i:Nat}(hk:k<s.length)(h1:ja s k<=i)(h2:i<ja s (k+1)):∃t,i=ja s k+t/\∃h:2*t+1<s[k].Xs.length,(aR s)[i]? =some ⟨s[k].Xs[2*t],s[k].Y0,s[k].Xs[2*t+1],s[k].Y1⟩:=by
 rw[zV hk]at h2;have:=he _<|cU hk
 refine⟨i - ja s k,by omega,by omega,?_⟩;have h3:=Lh (t:=i - ja s k) hk (by omega);rwa[show ja s k+(i - ja s k)=i by omega]at h3
theorem BN{s:List aA}(hc:eR (s.map bY)){p q:Nat}(hp:p<s.length)(hq:q<s.length)(h:p<q):s[p].Y1<=s[q].Y0:=by
 have:=mF.1 hc.ord p q (by simp;omega) (by simp;omega) h;simp only[List.getElem_map]at this;exact this.1
theorem BO{s:List aA}(hc:eR (s.map bY)){p:Nat}(hp:p<s.length):s[p].Y0<s[p].Y1:=(hc.each (bY s[p])<|cY.2 ⟨_,cU hp,rfl⟩).1
theorem tT{s:List aA}(hc:eR (s.map bY)):∀b∈s,b.Xs.length % 2=0:=λb hb=>(hc.each (bY b)<|cY.2 ⟨b,hb,rfl⟩).2.2.2
theorem HK{s:List aA}(hc:eR (s.map bY)):∀b∈s,jT b.Xs:=λb hb=>(hc.each (bY b)<|cY.2 ⟨b,hb,rfl⟩).2.2.1
theorem FE{s:List aA}(hc:eR (s.map bY)){i j q:Nat}(hq:q<s.length)(h1:ja s q<=j)(h2:j<ja s (q+1))(ht:zp (aR s) i j):∃hq0:0<q,s[q - 1].Y1=s[q].Y0/\ja s (q - 1)<=i/\i<ja s q:=by
 obtain⟨a,c,ha,hb,e1,e2,e3⟩:=ht;obtain⟨t,e4,ht,hj⟩:=wI (tT hc) hq h1 h2;rw[hj]at hb;injection hb with hb;subst hb
 have hil:=(bA.1 ha).1;obtain⟨p,hp,p1,p2⟩:=HJ hil;obtain⟨u,e5,hu,hi⟩:=wI (tT hc) hp p1 p2;rw[hi]at ha;injection ha with ha;subst ha
 have e1:s[p].Y1=s[q].Y0:=e1;have hpp:=BO hc hp;have hqq:=BO hc hq;have hpq:p+1=q:=by
  rcases Nat.lt_trichotomy p q with h|h|h
  ·by_cases h':p+1=q
   ·exact h'
   ·have h3:=BN hc hp (show p+1<s.length by omega) (by omega);have h4:=BN hc (show p+1<s.length by omega) hq (by omega);have h5:=BO hc (show p+1<s.length by omega);omega
  ·subst h;omega
  ·have:=BN hc hq hp h;omega
 subst hpq;exact⟨by omega,e1,p1,p2⟩
structure PJ (all:List aH) (n:Nat) (up:List Int) (r:Nat->Nat) (E:List (Nat×Nat)):Prop where
 uf:UF n up r
 co:qA r E
 fi:AM n r E
 so:∀p∈E,zp all p.1 p.2
theorem PJ.join{all:List aH}{n:Nat}{up up':List Int}{r:Nat->Nat}{E:List (Nat×Nat)}(h:PJ all n up r E){i j:Nat}(hi:i<n)(hj:j<n)(hu:UF n up' (pC r (r i)<|r j))(ht:zp all i j):PJ all n up' (pC r (r i)<|r j) (E++[(i,j)]):=
 ⟨hu,h.co.join i j (h.uf.rr i hi),h.fi.join hi hj,λp hp=>by
  rcases dH.1 hp with hp|hp
  ·exact h.so p hp
  ·simp at hp;subst hp;exact ht⟩
structure Joined (all:List aH) (r:Nat->Nat):Prop where
 le:∀i,i<all.length->r i<=i
 rr:∀i,i<all.length->r (r i)=r i
 co:∀i j,zp all i j->r i=r j
 fi:∀S:Nat->Prop,(∀i j,zp all i j->(S i↔S j))->∀i j,i<all.length->j<all.length->r i=r j->S i->S j
def nN(all:List aH)(n:Nat)(r:Nat->Nat)(h:Nat):List aH:=(cls n r h).filterMap<|λi=>all[i]?
theorem BP(all:List aH)(n:Nat)(r:Nat->Nat)(h:Nat):(nN all n r h).length<=n:=by
 have h1:=List.length_filterMap_le (λi=>all[i]?)<|cls n r h
 have h2:=Ec n r h;unfold nN;omega
theorem wJ{all:List aH}{n:Nat}{r:Nat->Nat}(h:Nat){x:aH}(hx:all[n]? =some x):nN all (n+1) r h=if r n=h then nN all n r h++[x]else nN all n r h:=by
 unfold nN;rw[vX];split
 ·rw[List.filterMap_append];simp[hx]
 ·rfl
theorem mb{all:List aH}{n:Nat}{r:Nat->Nat}{h:Nat}{x:aH}:x∈nN all n r h↔∃i,i<n/\r i=h/\all[i]? =some x:=by
 unfold nN cls;rw[List.mem_filterMap];constructor
 ·rintro⟨i,hi,h⟩;have:=k9.1 hi;exact⟨i,ni.1 this.1,by simpa using this.2,h⟩
 ·rintro⟨i,h1,h2,h3⟩;exact⟨i,k9.2 ⟨ni.2 h1,by simpa using h2⟩,h3⟩
structure sO (s:List aA) (r:Nat->Nat) (ps:List (List aA)):Prop where
 join:Joined (aR s) r
 len:ps.length=(bW (aR s).length r).length
 each:∀(j h:Nat)(p:List aA),(bW (aR s).length r)[j]? =some h->ps[j]? =some p->r7 (nN (aR s) (aR s).length r h) p
def QZ(n:Nat)(r:Nat->Nat)(m:List (Int×Int)):Prop:=(∀(j k:Nat),(bW n r)[j]? =some k->fC m ((k:Nat):Int) 0=((j:Nat):Int))/\∀k:Nat,lL m ((k:Nat):Int)=decide (k∈bW n r)
theorem GQ{s:List aA}{X Y:List Int}(hc:eR (s.map bY))(hl:yb X Y (s.map bY))(hX:∀c∈X,small c)(hY:∀c∈Y,small c)(h1:s.length<=1073741824)(h2:∀b∈s,b.Xs.length<=1073741824)(h3:(aR s).length<=134217728)(hN:4398046511104<=N):
  Ok (l5 N s) (λps=>∃r,sO s r ps):=by
 unfold l5;have hev:=tT hc;have hinc:=HK hc;refine RE (BJ hev (by omega) (λb hb=>by have:=h2 b hb;omega) (by omega)) ?_;have hok:=BK hc hl hX hY;have hall:ja s s.length=(aR s).length:=FD s;generalize hn:(aR s).length=n at *;refine RE (rf 0 (by omega)) ?_;rw[show((List.replicate n (0:Int)).length)=n by simp];refine RP (SR (λk up=>up.length=n/\∀i,i<k->up[i]? =some ((i:Nat):Int)) (by omega) ⟨by simp,λi hi=>by omega⟩<|λk up hk hI=>?_) ?_
 ·obtain⟨hs,hi⟩:=hI;refine SA (by omega)<|RJ ⟨by simp[hs],λi hi'=>?_⟩
  rw[cI,oj (by omega)];split
  ·rename_i e;rw[e]
  ·exact hi i (by omega)
 rintro up0⟨hu1,hu2⟩
 refine RP (SR (λk st=>st.2.1=((ja s k:Nat):Int)/\(0<k->st.2.2=((ja s (k - 1):Nat):Int))/\∃r E,PJ (aR s) n st.1 r E/\∀q,q<k->∀i j,ja s q<=j->j<ja s (q+1)->zp (aR s) i j->(i,j)∈E) (by omega)
  ⟨rfl,λh=>by omega,_,_,⟨UF.init n up0 hu1 hu2,qA.id,AM.id n,λp hp=>(by cases hp)⟩,λq hq=>by omega⟩ (λk st hk hI=>?_)) ?_
 ·obtain⟨up,a,b⟩:=st;obtain⟨e1,e2,r,E,hP,hE⟩:=hI;dsimp only at e1 e2 hP ⊢;subst e1;refine SA hk ?_;have hoff:=zV hk;have hoffle:ja s (k+1)<=n:=by rw[<-hall];exact zW hk
  have hkm:=cU hk;have hlen:wrap .i64 (Int.tdiv ((s[k].Xs.length:Nat):Int) 2)=((s[k].Xs.length / 2:Nat):Int):=by
   have:=h2 _ hkm;rw[show(2:Int)=((2:Nat):Int)by rfl,<-Int.ofNat_tdiv,FA (by omega)]
  rw[hlen,wrap_add (by omega),<-hoff];refine RP (P:=λc=>c=true↔∃h0:0<k,s[k - 1].Y1=s[k].Y0) ?_<|λc hcc=>?_
  ·refine R9 (λh=>?_)<|λh=>RJ ?_
   ·have hpos:0<k:=by have:=of_decide_eq_true h;omega
    rw[je hpos (by omega)];refine SA (by omega)<|RJ ?_
    rw[beq_iff_eq];exact⟨λh=>⟨hpos,h⟩,λ⟨_,h⟩=>h⟩
   ·have:=of_decide_eq_false h;constructor
    ·intro h;cases h
    ·rintro⟨h0,_⟩;omega
  refine RP (P:=λup'=>∃r E,PJ (aR s) n up' r E/\∀q,q<k+1->∀i j,ja s q<=j->j<ja s (q+1)->zp (aR s) i j->(i,j)∈E) ?_<|λup' hI=>RJ ⟨rfl,λ_=>rfl,hI⟩
  refine R9 (λh=>?_)<|λh=>RJ ⟨r,E,hP,λq hq i j q1 q2 ht=>?_⟩
  ·obtain⟨hpos,hyy⟩:=hcc.1 h;rw[e2 hpos];have hoffp:=zV (show k - 1<s.length by omega);rw[show k - 1+1=k by omega]at hoffp
   refine RP (SS (Go:=λst=>∃r E,PJ (aR s) n st.1 r E/\∀q,q<k+1->∀i j,ja s q<=j->j<ja s (q+1)->zp (aR s) i j->(i,j)∈E) (Rt:=λ_=>True)
    (λst=>∃i j:Nat,st.2.1=((i:Nat):Int)/\st.2.2=((j:Nat):Int)/\ja s (k - 1)<=i/\i<=ja s k/\ja s k<=j/\j<=ja s (k+1)/\∃r E,PJ (aR s) n st.1 r E/\(∀q,q<k->∀i j,ja s q<=j->j<ja s (q+1)->zp (aR s) i j->(i,j)∈E)/\
     ∀i' j',ja s (k - 1)<=i'->i'<ja s k->ja s k<=j'->j'<ja s (k+1)->(i'<i\/j'<j)->zp (aR s) i' j'->(i',j')∈E)
    (λst=>(n - st.2.1.toNat)+(n - st.2.2.toNat)) ?_ ?_ (by simp only[cI];omega)) (λo ho=>Sm ho (λst h=>RJ h) (λr=>r.elim))
   ·rintro⟨up,a,b⟩⟨i,j,e3,e4,i1,i2,j1,j2,r,E,hP,hE,hE2⟩;dsimp only at e3 e4 hP ⊢;subst e3;subst e4;refine R9 (λh=>?_)<|λh=>Sn ?_
    ·rw[bT,bF,bF]at h;have hi:i<ja s k:=by omega
     have hj:j<ja s (k+1):=by omega
     obtain⟨t,et,_,hri⟩:=wI hev (show k - 1<s.length by omega) i1 (by rw[show k - 1+1=k by omega];exact hi);obtain⟨u,eu,_,hrj⟩:=wI hev hk j1 hj;have xi:=hinc _<|cU (show k - 1<s.length by omega)
     have xj:=hinc _ hkm;have farI:∀i' a,i<i'->i'<ja s k->(aR s)[i']? =some a->s[k - 1].Xs[2*t+1]<a.X0:=λi' a h4 h5 h6=>by
      obtain⟨t',et',ht',hr'⟩:=wI hev (show k - 1<s.length by omega) (show ja s (k - 1)<=i' by omega) (by rw[show k - 1+1=k by omega];exact h5);rw[hr']at h6;injection h6 with h6;subst h6
      exact xi.lt (show 2*t+1<2*t' by omega) (aP _)<|aP _
     have farJ:∀j' a,j<j'->j'<ja s (k+1)->(aR s)[j']? =some a->s[k].Xs[2*u+1]<a.X0:=λj' a h4 h5 h6=>by
      obtain⟨u',eu',hu',hr'⟩:=wI hev hk (show ja s k<=j' by omega) h5;rw[hr']at h6;injection h6 with h6;subst h6
      exact xj.lt (show 2*u+1<2*u' by omega) (aP _)<|aP _
     refine RP (P:=λc=>c=true↔zp (aR s) i j) ?_<|λc hct=>?_
     ·refine R0 hri<|R0 hrj<|R9 (λh=>R0 hrj<|R0 hri<|RJ ?_)<|λh=>RJ ?_
      ·rw[bF]at h ⊢;constructor
       ·intro h';exact⟨_,_,hri,hrj,hyy,h,h'⟩
       ·rintro⟨a,c,ha,hc',_,_,h'⟩;rw[hri]at ha;injection ha with ha;subst ha
        rw[hrj]at hc';injection hc' with hc';subst hc'
        exact h'
      ·constructor
       ·intro h;cases h
       ·rintro⟨a,c,ha,hc',_,h',_⟩;rw[hri]at ha;injection ha with ha;subst ha
        rw[hrj]at hc';injection hc' with hc';subst hc'
        rw[decide_eq_false_iff_not]at h;exact absurd h' h
     refine RP (P:=λup'=>∃r E',PJ (aR s) n up' r E'/\(∀p∈E,p∈E')/\(zp (aR s) i j->(i,j)∈E')) ?_ ?_
     ·refine R9 (λh=>?_)<|λh=>RJ ⟨r,E,hP,λp hp=>hp,λht=>by rw[hct.2 ht]at h;cases h⟩
      obtain⟨up',u1,u2⟩:=J3 (N:=N) (f:=λx=>some x) hP.uf (i:=i) (k:=j) (by omega) (by omega) (by omega);refine⟨up',u1,_,_,hP.join (by omega) (by omega) u2<|hct.1 h,λp hp=>List.mem_append_left _ hp,λ_=>by simp⟩
     ·rintro up'⟨r',E',hP',hsub,hij⟩;refine R0 hri<|R0 hrj ?_
      dsimp only
      by_cases hx:s[k - 1].Xs[2*t+1]<s[k].Xs[2*u+1]
      ·rw[bL hx,aO];refine RE (x:=(((i+1:Nat):Int),((j:Nat):Int))) (by rw[cD (by omega)])<|Si ⟨⟨i+1,j,rfl,rfl,by omega,by omega,j1,j2,r',E',hP',λq hq i j q1 q2 ht=>hsub _<|hE q hq i j q1 q2 ht,λi' j' g1 g2 g3 g4 g5 ht=>?_⟩,by simp only[cI];omega⟩
       by_cases h5:i'<i\/j'<j
       ·exact hsub _<|hE2 i' j' g1 g2 g3 g4 h5 ht
       ·have:i'=i:=by omega
        subst this
        by_cases h6:j'=j
        ·subst h6;exact hij ht
        ·exfalso;obtain⟨a,c,ha,hc',_,_,h'⟩:=ht;rw[hri]at ha;injection ha with ha;subst ha
         have:=farJ j' c (by omega) g4 hc';dsimp only at h';omega
      ·rw[bO hx,aQ];refine RE (x:=(((i:Nat):Int),((j+1:Nat):Int))) (by rw[cD (by omega)])<|Si ⟨⟨i,j+1,rfl,rfl,i1,i2,by omega,by omega,r',E',hP',λq hq i j q1 q2 ht=>hsub _<|hE q hq i j q1 q2 ht,λi' j' g1 g2 g3 g4 g5 ht=>?_⟩,by simp only[cI];omega⟩
       by_cases h5:i'<i\/j'<j
       ·exact hsub _<|hE2 i' j' g1 g2 g3 g4 h5 ht
       ·have:j'=j:=by omega
        subst this
        by_cases h6:i'=i
        ·subst h6;exact hij ht
        ·exfalso;obtain⟨a,c,ha,hc',_,h',_⟩:=ht;rw[hrj]at hc';injection hc' with hc';subst hc'
         have:=farI i' a (by omega) g2 ha;dsimp only at h';omega
    ·refine⟨r,E,hP,λq hq i' j' q1 q2 ht=>?_⟩
     by_cases hqk:q<k
     ·exact hE q hqk i' j' q1 q2 ht
     ·have:q=k:=by omega
      subst this;obtain⟨_,_,g1,g2⟩:=FE hc hk q1 q2 ht;refine hE2 i' j' g1 g2 q1 q2 ?_ ht;rw[Bool.and_eq_false_iff,decide_eq_false_iff_not,decide_eq_false_iff_not]at h;omega
   ·exact⟨ja s<|k - 1,ja s k,rfl,rfl,bR _,zW (by omega),bR _,zW (by omega),r,E,hP,hE,λi' j' g1 g2 g3 g4 g5=>by omega⟩
  ·by_cases hqk:q<k
   ·exact hE q hqk i j q1 q2 ht
   ·have:q=k:=by omega
    subst this;obtain⟨g0,g1,_⟩:=FE hc hk q1 q2 ht;rw[hcc.2 ⟨g0,g1⟩]at h;cases h
 ·rintro⟨up,a,b⟩⟨_,_,r,E,hP,hE⟩;dsimp only at hP ⊢;have hEq:∀i j,zp (aR s) i j->(i,j)∈E:=λi j ht=>by
   have hjl:j<(aR s).length:=by obtain⟨a,c,_,hb,_⟩:=ht;exact(bA.1 hb).1
   obtain⟨q,hq,q1,q2⟩:=HJ hjl;exact hE q hq i j q1 q2 ht
  have hJ:Joined (aR s) r:=⟨by rw[hn];exact hP.uf.le,by rw[hn];exact hP.uf.rr,λi j ht=>hP.co (i,j) (hEq i j ht),λS hS i j hi hj=>by
   rw[hn]at hi hj
   exact hP.fi S (λp hp=>hS p.1 p.2 (hP.so p hp)) i j hi hj⟩
  refine RP (SR (λk st=>UF n st.1 r/\QZ k r st.2.1/\st.2.2=(bW k r).map (nN (aR s) k r)) (by omega) ⟨hP.uf,⟨λj k hj=>by simp[bW]at hj,λk=>rfl⟩,rfl⟩<|λk st hk hI=>?_) ?_
  ·obtain⟨l,m,ls⟩:=st;obtain⟨hu,⟨hm1,hm2⟩,hs⟩:=hI;dsimp only at hu hm1 hm2 hs ⊢;subst hs;have hkx:(aR s)[k]? =some ((aR s)[k]'(by omega)):=aP (by omega);refine R0 hkx ?_;obtain⟨u',a1,a2⟩:=Ed (N:=N) hu hk (by omega);refine RE a1 ?_;dsimp only;have hhl:=pP k r;have hrk:=hP.uf.le k hk;have hrr:=hP.uf.rr k hk;have hcl:=BP (aR s) k r<|r k
   have hmap:((bW k r).map<|nN (aR s) k r).length=(bW k r).length:=by simp
   rw[hm2]
   by_cases e:r k=k
   ·have hnot:r k∉bW k r:=λh=>by have:=(jE.1 h).1;omega
    refine RE (x:=(ql m ((r k:Nat):Int) (((bW k r).length:Nat):Int),(bW k r).map (nN (aR s) k r)++[([]:List aH)],(((bW k r).length:Nat):Int))) ?_ ?_
    ·rw[bO hnot,oW,aO,kR (by simp;omega),aB,hmap]
    ·dsimp only;have hi:((bW k r).map (nN (aR s) k r)++[([]:List aH)])[(bW k r).length]? =some []:=by rw[<-hmap,gQ<|bR _,Nat.sub_self];rfl
     refine R0 hi<|SB (by simp)<|R0 hi<|RJ ⟨a2,⟨λj q hj=>?_,λq=>?_⟩,?_⟩
     ·dsimp only;rw[iU,aC e]at hj;rw[pM]
      by_cases e2:j<(bW k r).length
      ·rw[gz e2]at hj;have:=(jE.1<|gq hj).1;rw[aD (by omega)];exact hm1 j q hj
      ·rw[gQ (by omega)]at hj;have hj0:j -(bW k r).length=0:=by
        have:=(bA.1 hj).1;simp at this;omega
       rw[hj0]at hj;simp at hj;subst hj;rw[aC (by rw[e])];congr 1;omega
     ·dsimp only;rw[tP,hm2,iU,aC e,dZ];rw[dM,bF,bF,bF,dH,List.mem_singleton,e];constructor
      ·rintro(h|h)
       ·exact .inr (by omega)
       ·exact .inl h
      ·rintro(h|h)
       ·exact .inr h
       ·exact .inl (by omega)
     ·dsimp only;rw[cI,<-hmap,List.set_append_right _ _<|bR _,Nat.sub_self,iU,aC e,eN];congr 1
      ·apply List.map_congr_left;intro a ha;have:=(jE.1 ha).1;rw[wJ a hkx,aD (by omega)]
      ·simp only[List.set_cons_zero,dT,List.map_nil,List.nil_append];rw[wJ k hkx,aC e];have:nN (aR s) k r k= []:=by unfold nN;rw[HI (λi hi=>hP.uf.le i (by omega))<|bR _];rfl
       rw[this];rfl
   ·have hh:r k∈bW k r:=jE.2 ⟨by omega,hrr⟩;obtain⟨j,hj⟩:=eO hh;refine RE (x:=(m,(bW k r).map<|nN (aR s) k r,((j:Nat):Int))) ?_ ?_
    ·rw[bL hh,lf,aQ,hm1 j (r k) hj]
    ·dsimp only;have hi:((bW k r).map<|nN (aR s) k r)[j]? =some (nN (aR s) k r<|r k):=by rw[i5,hj];rfl
     refine R0 hi<|SB (by simp;omega)<|R0 hi<|RJ ⟨a2,⟨λj' q hj'=>?_,λq=>?_⟩,?_⟩
     ·rw[iU,aD e]at hj';exact hm1 j' q hj'
     ·rw[iU,aD e];exact hm2 q
     ·dsimp only;rw[cI,iU,aD e]
      have:=vY (nN (aR s) k r) (nN (aR s) (k+1) r) (bW k r) j (r k) (oQ k r) hj (λb hb hne=>by
       rw[wJ b hkx,aD (λh=>hne h.symm)])
      rw[wJ (r k) hkx,aC rfl]at this;exact this
  ·rintro⟨l,m,ls⟩⟨_,_,hs⟩;dsimp only at hs ⊢;subst hs;have hhl:=pP n r;refine RP (SR (λk ps=>ps.length=k/\∀(j h:Nat)(p:List aA),j<k->(bW n r)[j]? =some h->ps[j]? =some p->r7 (nN (aR s) n r h) p) (by simp;omega) ⟨rfl,λj h p hj=>by omega⟩<|λk ps hk hI=>?_) ?_
   ·obtain⟨hp1,hp2⟩:=hI;have hk':k<(bW n r).length:=by simpa using hk
    refine R0 (x:=nN (aR s) n r (bW n r)[k]) (by rw[i5,aP hk'];rfl) ?_;have hcl:=BP (aR s) n r (bW n r)[k];refine RP (pN (N:=N) (by omega) (λx hx=>?_) (by omega)) ?_
    ·obtain⟨i,_,_,h⟩:=mb.1 hx;exact(hok x<|gq h).1
    ·intro p hp;refine SB (by rw[hp1];simp;omega)<|RJ ⟨by simp[hp1],λj h q hj hh hq=>?_⟩
     by_cases hjk:j<k
     ·rw[gz (by omega)]at hq;exact hp2 j h q hjk hh hq
     ·have:j=k:=by omega
      subst this;rw[gQ (by omega),hp1,Nat.sub_self]at hq;simp at hq;subst hq;rw[aP hk']at hh;injection hh with hh;subst hh
      exact hp
   ·rintro ps⟨hp1,hp2⟩;refine RJ ⟨r,hJ,?_,λj h p hh hp=>?_⟩
    ·rw[hp1,hn];simp
    ·rw[hn]at hh ⊢;exact hp2 j h p (by have:=(bA.1 hp).1;omega) hh hp
end
section
variable {N:Nat}
theorem hQ{n:Int}(h: -9223372036854775808<=n/\n<=9223372036854775807):wrap .i64 n=n:=by rw[IntKind.wrap_i64];omega
def fJ(n lo hi:Int):Bool:=decide (n>=lo)&&decide (n<=hi)
def lH(n:Int):Bool:=fJ n (-1000000) 1000000
def qK(p:cK):Bool:=lH p.X&&lH p.Y
def fK(r:aH):Bool:=lH r.X0&&(lH r.Y0&&(lH r.X1&&lH r.Y1))
theorem BQ(n:Int):lP N n=some (lH n):=rfl
theorem Ap(p:cK):j4 N p=some (qK p):=by
 unfold j4 qK;rw[BQ,aB,BQ]
 cases lH p.X <;> rfl
theorem Aq(p:cK):fW N p=some (qK p):=by
 have e:∀n,cN N n=some (lH n):=λ_=>rfl;unfold fW qK;rw[e,aB,e]
 cases lH p.X <;> rfl
theorem BR(r:aH):nn N r=some (fK r):=by
 unfold nn fK;simp only[BQ,aB]
 cases lH r.X0 <;> cases lH r.Y0 <;> cases lH r.X1 <;> rfl
theorem FF{a b:Int}(h:a≠b):hU (N+4) [a,b]=some [a,b]:=by
 have e:(b==a)=false:=by rw[beq_eq_false_iff_ne];exact λe=>h e.symm
 have w1:wrap .i64 ((1:Int) - 1)=0:=by decide
 have w2:wrap .i64 ((1:Int)+1)=2:=by decide
 unfold hU;have e1:idx [a,b] 1=some b:=rfl;have e2:idx [a,b] 0=some a:=rfl;have l2:(([a,b]:List Int).length:Int)=2:=rfl;rw[l2,show decide ((2:Int)<2)=false by decide,aQ];rw[j6.eq_def];dsimp only;rw[show decide ((1:Int)<2)=true by decide,aO,e1,aB,w1,e2,aB,e,aQ,aB,w2];dsimp only;rw[j6.eq_def];dsimp only;rw[show decide ((2:Int)<2)=false by decide,aQ,aB];rfl
theorem L8(x:Int):wrap .i64 (x - x)=0:=by rw[Int.sub_self];decide
theorem Iy{r:aH}(hx:r.X0<r.X1)(hy:r.Y0<r.Y1):il (N+16) [r]=some [⟨r.Y0,r.Y1,[r.X0,r.X1]⟩]:=by
 have s1:ym (kg<|N+16) [r]=some [r]:=C7 (by unfold kg;rw[L8]);have s2:ym (hZ<|N+16) [r]=some [r]:=C7 (by unfold hZ;rw[L8]);have s3:vn [r.Y0,r.Y1]=some [r.Y0,r.Y1]:=CF (by simp;omega) (by simp);have c1:jy (N+16) [r]=some [r]:=rfl;have f1:∀φ,iP (N+16) [] φ=some []:=λφ=>rfl;have st:jI (N+16) [r]=some ([r.X0,r.X1],[r]):=by
  unfold jI;rw[s2,aB];rfl
 have pu:∀b:aA,b.Xs= [r.X0,r.X1]->b.Y0<b.Y1->jo (N+16) [] b=some [b]:=λb h1 h2=>by
  unfold jo;rw[h1,bO (show ¬b.Y1<=b.Y0 by omega)];rfl
 unfold il;rw[c1,aB,s1,aB];have ys:nH ([r]:List aH).length (λ(k35:Nat)(s36:List Int)=>((idx [r] (k35:Int)).bind λx54=>(app 8 s36 ([x54.Y0,x54.Y1]:List Int)).bind λx58=>some x58:Option (List Int))) ([]:List Int)=some [r.Y0,r.Y1]:=rfl;rw[ys,aB,s3,aB,FF (N:=N+12) (by omega),aB];have l2:(([r.Y0,r.Y1]:List Int).length:Int)=2:=rfl;have l1:(([r]:List aH).length:Int)=1:=rfl;have w1:wrap .i64 ((0:Int)+1)=1:=by decide
 have w2:wrap .i64 ((1:Int)+1)=2:=by decide
 have i0:idx [r.Y0,r.Y1] 0=some r.Y0:=rfl;have i1:idx [r.Y0,r.Y1] 1=some r.Y1:=rfl;have j0:idx [r] 0=some r:=rfl;have a1:app 32 ([]:List aH) [r]=some [r]:=rfl;rw[l2,l1];rw[j6.eq_def];dsimp only;rw[w1,show decide ((1:Int)<2)=true by decide,aO,f1,aB];rw[j6.eq_def];dsimp only;rw[show decide ((0:Int)<1)=true by decide,aO,j0,aB,i0,aB,aB,show decide (r.Y0<=r.Y0)=true by simp,aO,aB,a1,aB,w1,aB];dsimp only;rw[j6.eq_def];dsimp only;rw[show decide ((1:Int)<1)=false by decide,aQ,aB,aQ,aB,aB];unfold Fo.cs;dsimp only;rw[aB,i1,aB,st,aB,pu _ rfl hy,aB,aB];dsimp only;rw[j6.eq_def];dsimp only;rw[w2,show decide ((2:Int)<2)=false by decide,aQ,aB];rfl
theorem J4{r:aH}(hx:r.X0<r.X1):mR N [⟨r.Y0,r.Y1,[r.X0,r.X1]⟩]=some (fK r):=by
 have ar:nr N [⟨r.Y0,r.Y1,[r.X0,r.X1]⟩]=some r:=by
  have e1:(if r.X0<r.X0 then r.X0 else r.X0)=r.X0:=by split <;> rfl
  have e2:(if r.X1<r.X1 then r.X1 else r.X1)=r.X1:=by split <;> rfl
  show some ({X0:=(if r.X0<r.X0 then r.X0 else r.X0),Y0:=r.Y0,X1:=(if r.X1<r.X1 then r.X1 else r.X1),Y1:=r.Y1}:aH)=some r;rw[e1,e2]
 unfold mR;rw[ar,aB,BR];rfl
def vZ(b:cJ):aH:=⟨b.At.X - b.dJ / 2,b.At.Y - b.dJ / 2,b.At.X - b.dJ / 2+b.dJ,b.At.Y - b.dJ / 2+b.dJ⟩
def qL(b:cJ):Bool:=fJ b.dJ 1 10000&&qK b.At
def mK(b:cJ):aH×Int:=if qL b&&fK (vZ b)then(vZ b,0)else(⟨0,0,0,0⟩,1)
theorem sP{b:cJ}(h:qL b=true):(1<=b.dJ/\b.dJ<=10000)/\(-1000000<=b.At.X/\b.At.X<=1000000)/\(-1000000<=b.At.Y/\b.At.Y<=1000000):=by
 simp only[qL,fJ,qK,lH,bT,decide_eq_true_iff]at h;omega
theorem na{b:cJ}(h:qL b=true):gx N b=some (vZ b):=by
 obtain⟨h1,h2,h3⟩:=sP h;have t:Int.tdiv b.dJ 2=b.dJ / 2:=Int.tdiv_eq_ediv_of_nonneg (by omega);unfold gx vZ;rw[t,hQ (n:=b.dJ / 2) (by omega),hQ (n:=b.At.X - b.dJ / 2) (by omega),hQ (n:=b.At.Y - b.dJ / 2) (by omega),hQ (by omega),hQ (by omega)]
theorem zX{b:cJ}:mi (N+16) b=some (mK b):=by
 have e0:iM (N+16) b.dJ 1 10000=some (fJ b.dJ 1 10000):=rfl;have e1:(bif(!(fJ b.dJ 1 10000))then some true else some (!(qK b.At)))=some (!qL b):=by unfold qL;cases fJ b.dJ 1 10000 <;> rfl
 unfold mi mK;rw[e0,aB,Ap,aB,e1,aB]
 cases hf:qL b with
 |false=>rfl
 |true=>
  obtain⟨h1,h2,h3⟩:=sP hf;have hx:(vZ b).X0<(vZ b).X1:=by simp only[vZ];omega
  have hy:(vZ b).Y0<(vZ b).Y1:=by simp only[vZ];omega
  rw[lf,aQ,na hf,aB,Iy hx hy,aB,J4 hx,aB]
  cases fK (vZ b) <;> rfl
end
section
variable {N:Nat}
def FG(c:UInt8):Bool:=
 (((decide (((c.toNat:Nat):Int)<65)||decide (((c.toNat:Nat):Int)>90))&&(decide (((c.toNat:Nat):Int)<97)||decide (((c.toNat:Nat):Int)>122)))&&(decide (((c.toNat:Nat):Int)<48)||decide (((c.toNat:Nat):Int)>57)))&&decide (Lib.indexByte [95,43,45,35] c<0)
def isWord(s:eC):Bool:= !s.cW.any FG&&(decide (1<=s.cW.length)&&decide (s.cW.length<=40))
theorem uF(s:eC)(c:UInt8):gS N s ((c.toNat:Nat):Int)=some (Lib.indexByte s.cW c):=by
 show some (Lib.indexByte s.cW (Int.toNat ((c.toNat:Nat):Int)).toUInt8)=_;rw[cI];simp
theorem GR{R:Type}(b1:Bool)(c:UInt8)(r:R):
  ((bif b1 then((gS N (⟨[95,43,45,35]⟩) ((c.toNat:Nat):Int)).bind λx14=>some<|decide<|x14<0)else some false).bind λs12=>bif s12 then some (.rt r)else(some<|.nx ()):Option (Fl Unit R))=some (if(b1&&decide (Lib.indexByte [95,43,45,35] c<0))=true then .rt r else .nx ()):=by
 rw[uF,aB]
 cases b1
 ·rfl
 ·rw[aO,aB,Bool.true_and]
  cases decide (Lib.indexByte [95,43,45,35] c<0) <;> rfl
theorem sQ{s:eC}(h:s.cW.length<=1048576):jq N s=some (isWord s):=by
 unfold jq
 rw[K4 FG false (by omega) (λk x hx=>by
  have hk:=(bA.1 hx).1;have e:Gp s ((k:Nat):Int)=some x:=by rw[Ft s k hk,<-aP hk,hx]
  rw[e,aB]
  exact GR (R:=Bool) _ x false),aB]
 unfold isWord
 cases s.cW.any FG
 ·simp only[Fo.cs,oW,Bool.true_and,Bool.false_eq_true,if_false,Option.some.injEq];rw[dZ,bT,bT];simp only[bF];omega
 ·simp[Fo.cs]
def cutAt(c:UInt8):List UInt8->List (List UInt8)
 | []=>[[]]
 |b::l=>if b==c then []::cutAt c l else match cutAt c l with|h::t=>(b::h)::t| []=>[[b]]
theorem BS{c:UInt8}:∀{l:List UInt8},c∉l->cutAt c l= [l]
 | [],_=>rfl
 |b::l,h=>by
  unfold cutAt;have hb:(b==c)=false:=by rw[beq_eq_false_iff_ne];rintro rfl;exact h (by simp)
  rw[hb,BS<|λh'=>h (by simp[h'])];rfl
theorem FH{c:UInt8}:∀{a b:List UInt8},c∉a->cutAt c (a++c::b)=a::cutAt c b
 | [],b,_=>by rw[List.nil_append];show(if(c==c)=true then _ else _)=_;simp
 |x::a,b,h=>by
  have hb:(x==c)=false:=by rw[beq_eq_false_iff_ne];rintro rfl;exact h (by simp)
  have ih:=FH (c:=c) (a:=a) (b:=b)<|λh'=>h (by simp[h'])
  show(if(x==c)=true then []::cutAt c (a++c::b)else match cutAt c (a++c::b)with|h::t=>(x::h)::t| []=>[[x]])=_;rw[hb,ih];rfl
theorem v5:∀(l:List UInt8)(c:UInt8),(Lib.indexByte l c = -1/\c∉l)\/∃a b,l=a++c::b/\c∉a/\Lib.indexByte l c=((a.length:Nat):Int)
 | [],c=> .inl ⟨rfl,by simp⟩
 |x::l,c=>by
  unfold Lib.indexByte
  by_cases hx:x=c
  ·subst hx;exact .inr ⟨[],l,rfl,by simp,by simp⟩
  ·have hb:(x==c)=false:=by rw[beq_eq_false_iff_ne];exact hx
   rcases v5 l c with⟨h1,h2⟩|⟨a,b,h1,h2,h3⟩
   ·left;rw[hb,h1];refine⟨by simp,?_⟩;simp[h2];exact λh=>hx h.symm
   ·right;refine⟨x::a,b,by rw[h1];rfl,by simp[h2];exact λh=>hx h.symm,?_⟩;rw[hb,h3];have:(((a.length:Nat):Int)== -1)=false:=by rw[beq_eq_false_iff_ne];omega
    rw[this];simp
theorem J5(s:eC)(c:UInt8):mj N s ⟨[c]⟩=some (Lib.indexByte s.cW c):=by
 show(kP N s ⟨[c]⟩).bind _=_;unfold kP
 by_cases h:eC.nQ ⟨[c]⟩ s=true
 ·have:s= ⟨[c]⟩:=(yD.1 h).symm;subst this;rw[h];simp[Lib.indexByte]
 ·rw[ld]at h;rw[h];show((i9 N s ((c.toNat:Nat):Int)).bind _).bind _=_;have:=uF (N:=N) s c;simp only[gS]at this;rw[this];rfl
theorem J6(s:eC)(c:UInt8):nR N s ⟨[c]⟩=some ((s.cW.count c:Nat):Int):=by
 unfold nR;show(some _:Option Int)=_;simp[Lib.countByte]
theorem Iz{s:eC}{k:Nat}(h:k<=s.cW.length):xA s 0 ((k:Nat):Int)=some ⟨s.cW.take k⟩:=by
 unfold xA;rw[aC ⟨by omega,by omega,by omega⟩];simp only[Int.toNat_zero,List.drop_zero,Int.sub_zero,cI]
theorem IA{s:eC}{k:Nat}(h:k<=s.cW.length):xA s ((k:Nat):Int) ((s.cW.length:Nat):Int)=some ⟨s.cW.drop k⟩:=by
 unfold xA;rw[aC ⟨by omega,by omega,by omega⟩];simp only[cI];rw[mE];rw[iN];omega
def oy(s:eC)(c:UInt8):List eC:=(cutAt c s.cW).map eC.mk
theorem FI{s:eC}(c:UInt8)(h:s.cW.length<=1048576)(hN:4194304<=N):ml N s ⟨[c]⟩=some (oy s c):=by
 have hc:s.cW.count c<=s.cW.length:=List.count_le_length;unfold ml nu;rw[show((-1:Int)==0)=false by decide,aQ,show eC.nQ ⟨[c]⟩ ⟨[]⟩=false by simp[eC.nQ],aQ,J6,aB];rw[eU (x:=((s.cW.count c:Nat):Int)+1) (by omega) (by omega),show decide ((-1:Int)<0)=true by decide,aO,aB];rw[eU (x:=((s.cW.length:Nat):Int)+1) (by omega) (by omega)];have e1:(if((s.cW.length:Nat):Int)+1<((s.cW.count c:Nat):Int)+1 then((s.cW.length:Nat):Int)+1 else((s.cW.count c:Nat):Int)+1)=((s.cW.count c+1:Nat):Int):=by
  rw[aD (by omega)];omega
 rw[e1,rf _ (by omega),aB];rw[eU (x:=((s.cW.count c+1:Nat):Int) - 1) (by omega) (by omega)];have key:=yC (S:=eC×List eC×Int) (R:=Empty) (body:=(λ(s7:eC×List eC×Int)=>(bif decide (s7.2.2<((s.cW.count c+1:Nat):Int) - 1)then((mj N s7.1 ⟨[c]⟩).bind λx23=>bif decide (x23<0)then some (.br (s7.1,s7.2.1,s7.2.2))else((xA s7.1 0<|wrap .i64<|x23+0).bind λx24=>(idx s7.2.1 s7.2.2).bind λx25=>(xA s7.1 (wrap .i64<|x23+(((⟨[c]⟩:eC).cW.length:Nat):Int)) ((s7.1.cW.length:Nat):Int)).bind λx27=>some<|.nx (x27,s7.2.1.set (Int.toNat s7.2.2) x24,wrap .i64<|s7.2.2+1)))else(some<|.br (s7.1,s7.2.1,s7.2.2)):Option (Fl (eC×List eC×Int) Empty))))
  (λst=>∃ws:List (List UInt8),st.2.2=((ws.length:Nat):Int)/\cutAt c s.cW=ws++cutAt c st.1.cW/\ws.length+st.1.cW.count c=s.cW.count c/\st.1.cW.length<=s.cW.length/\st.2.1=ws.map eC.mk++List.replicate (s.cW.count c+1 - ws.length) ⟨[]⟩)
  (λst=>s.cW.count c+1 - st.2.2.toNat)
  (λst=>∃ws:List (List UInt8),st.2.2=((ws.length:Nat):Int)/\cutAt c s.cW=ws++[st.1.cW]/\ws.length=s.cW.count c/\st.2.1=ws.map eC.mk++[⟨[]⟩])
  (λ_=>True) (by
   rintro⟨r,arr,i⟩⟨ws,h1,h2,h3,h4,h5⟩;simp only at h1 h2 h3 h4 h5;subst h1 h5
   by_cases hlt:ws.length<s.cW.count c
   ·have hd:decide (((ws.length:Nat):Int)<((s.cW.count c+1:Nat):Int) - 1)=true:=by rw[bF];omega
    simp only[hd,aO,J5,aB]
    rcases v5 r.cW c with⟨_,hn⟩|⟨a,b,hr,ha,hi⟩
    ·rw[List.count_eq_zero_of_not_mem hn]at h3;omega
    ·have hrl:r.cW.length=a.length+(b.length+1):=by rw[hr];simp
     rw[hi,bO (by omega),aQ];rw[show((a.length:Nat):Int)+0=((a.length:Nat):Int)by omega,eU (x:=((a.length:Nat):Int)) (by omega) (by omega),Iz (by omega),aB];rw[lj _ _ (by simp;omega),aB];rw[show((a.length:Nat):Int)+(((⟨[c]⟩:eC).cW.length:Nat):Int)=((a.length+1:Nat):Int)by simp,eU (x:=((a.length+1:Nat):Int)) (by omega) (by omega),IA (by omega),aB];refine⟨_,rfl,⟨ws++[a],?_,?_,?_,?_,?_⟩,?_⟩
     ·simp only;rw[eU (by omega) (by omega)];simp
     ·simp only;rw[h2,hr,FH ha];simp
     ·simp only;rw[hr]at h3 ⊢;simp[List.count_eq_zero_of_not_mem ha]at h3 ⊢;omega
     ·simp;omega
     ·simp only[cI];rw[List.set_append_right _ _ (by simp)];simp only[dY,Nat.sub_self];obtain⟨d,hd'⟩:∃d,s.cW.count c+1 - ws.length=d+1:=⟨s.cW.count c - ws.length,by omega⟩;rw[hd',List.replicate_succ,List.set_cons_zero,show s.cW.count c+1 -(ws++[a]).length=d by simp;omega];simp[hr]
     ·simp only;rw[eU (by omega) (by omega)];omega
   ·have hd:decide (((ws.length:Nat):Int)<((s.cW.count c+1:Nat):Int) - 1)=false:=by rw[decide_eq_false_iff_not];omega
    simp only[hd,aQ];refine⟨_,rfl,ws,rfl,?_,by omega,?_⟩
    ·have h0:r.cW.count c=0:=by omega
     rw[h2,BS<|List.count_eq_zero.1 h0]
    ·rw[show s.cW.count c+1 - ws.length=1 by omega];rfl)
  N (s,List.replicate (s.cW.count c+1) ⟨[]⟩,0) ⟨[],rfl,rfl,by simp,bR _,by simp⟩ (by simp only;omega)
 obtain⟨o,ho,hgo⟩:=key;rw[ho,aB]
 cases o with
 |rt r=>exact r.elim
 |go st=>
  obtain⟨r,arr,i⟩:=st;obtain⟨ws,h1,h2,h3,h4⟩:=hgo;simp only at h1 h2 h3 h4;subst h1 h4;simp only[Fo.cs];rw[lj _ _ (by simp),aB,eU (by omega) (by omega)];rw[show((ws.length:Nat):Int)+1=((ws.length+1:Nat):Int)by omega,tx _ _ (by simp),aB,aB];unfold oy;rw[h2];rw[cI,List.set_append_right _ _ (by simp),mE (by simp)];simp
def nO(s:eC):Bool:=decide (s.cW.length<=200)&&(oy s 47).all isWord
theorem wK{c:UInt8}:∀{l x:List UInt8},x∈cutAt c l->x.length<=l.length
 | [],x,h=>by simp[cutAt]at h;subst h;simp
 |b::l,x,h=>by
  unfold cutAt at h;split at h
  ·rcases dE.1 h with h|h
   ·subst h;simp
   ·have:=wK h;simp;omega
  ·split at h
   ·rename_i t e
    rcases dE.1 h with h|h
    ·subst h;have:=wK (c:=c) (l:=l) (by rw[e];exact List.mem_cons_self);simp;omega
    ·have:=wK (c:=c) (l:=l) (by rw[e];exact g9 _ h);simp;omega
   ·simp at h;subst h;simp
theorem De(c:UInt8):∀(l:List UInt8),(cutAt c l).length<=l.length+1
 | []=>by simp[cutAt]
 |b::l=>by
  have:=De c l;unfold cutAt;split
  ·simp;omega
  ·split
   ·rename_i e;rw[e]at this;simp at this ⊢;omega
   ·simp
theorem Df{s x:eC}{c:UInt8}(h:x∈oy s c):x.cW.length<=s.cW.length:=by
 obtain⟨y,hy,rfl⟩:=cY.1 h;exact wK hy
theorem Dg(s:eC)(c:UInt8):(oy s c).length<=s.cW.length+1:=by unfold oy;rw[dY];exact De c _
theorem yX{s:eC}(h:s.cW.length<=1048576)(hN:4194304<=N):mS N s=some (nO s):=by
 unfold mS nO
 by_cases hl:s.cW.length<=200
 ·rw[bL (by omega),aO,FI 47 h hN,aB]
  have e:=tz (l:=oy s 47) (φ:=iR N) (λx=> !isWord x) (by have:=Dg s 47;omega) (λx hx=>by
   unfold iR
   rw[sQ (by have:=Df hx;omega)];rfl)
  have e2:iQ N (oy s 47) (iR N)=sX (oy s 47) (iR N):=rfl;rw[e2,e,aB,aB,bL hl,Bool.true_and];congr 1;rw[dZ];simp
 ·rw[bO (by omega),aQ,aB,bO hl,Bool.false_and]
end
end Go.Gk
namespace Go.Gk
open Go IntKind Classical
section
variable {N:Nat}
theorem J7{a b:aA}(h:bY a=bY b):a=b:=by cases a;cases b;unfold bY at h;simp at h;obtain⟨h1,h2,h3⟩:=h;subst h1;subst h2;subst h3;rfl
theorem yY:∀{s t:List aA},s.map bY=t.map bY->s=t
 | [],[],_=>rfl
 | [],_::_,h=>by cases h
 |_::_,[],h=>by cases h
 |a::s,b::t,h=>by
  rw[dT,dT]at h;injection h with h1 h2
  rw[J7 h1,yY h2]
theorem FJ{s t:List aA}(hs:eR (s.map bY))(ht:eR (t.map bY))(h:∀x y,vh (s.map bY) x y=vh (t.map bY) x y):s=t:=yY<|uD hs ht h
theorem r7.unique{l:List aH}{s t:List aA}(hs:r7 l s)(ht:r7 l t):s=t:=FJ hs.can ht.can λx y=>by rw[hs.cover,ht.cover]
theorem r7.FK{l:List aH}{s:List aA}(h:r7 l s):s.length<=2*l.length/\(∀b∈s,b.Xs.length<=2*l.length)/\(aR s).length<=2*l.length*(2*l.length):=by
 have h1:s.length<=2*l.length:=by have:=h.lim.len h.can;rwa[dY,jw]at this
 have h2:∀b∈s,b.Xs.length<=2*l.length:=λb hb=>by
  have:=h.lim.row h.can (b:=bY b)<|cY.2 ⟨b,hb,rfl⟩
  rwa[ma]at this
 exact⟨h1,h2,BH h1 h2⟩
theorem wL{n:Int}(h:lH n=true): -1000000<=n/\n<=1000000:=by
 unfold lH fJ at h;rw[bT,bF,bF]at h;omega
theorem nb{r:aH}(h:fK r=true):(-1000000<=r.X0/\r.X0<=1000000)/\(-1000000<=r.Y0/\r.Y0<=1000000)/\(-1000000<=r.X1/\r.X1<=1000000)/\(-1000000<=r.Y1/\r.Y1<=1000000):=by
 unfold fK at h;simp only[bT]at h;exact⟨wL h.1,wL h.2.1,wL h.2.2.1,wL h.2.2.2⟩
theorem BT{r:aH}(h:(-1000000<=r.X0/\r.X0<=1000000)/\(-1000000<=r.Y0/\r.Y0<=1000000)/\(-1000000<=r.X1/\r.X1<=1000000)/\(-1000000<=r.Y1/\r.Y1<=1000000)):fK r=true:=by
 unfold fK lH fJ;simp only[bT,bF];omega
theorem GS{r:aH}(h:fK r=true)(hx:r.X0<r.X1)(hy:r.Y0<r.Y1):C9 r:=by
 have:=nb h;refine⟨hx,hy,?_,?_,?_,?_⟩ <;> unfold small <;> omega
def kU(r:aH):Option Int:=if fK r=true then(if r.X1<=r.X0\/r.Y1<=r.Y0 then some 13 else none)else some 1
def lI(l:List aH):Int:=if 2000<l.length then 2 else(l.findSome? kU).getD 0
theorem CH{l:List aH}(hl:l.length<=4611686018427387904):lq N l=some (lI l):=by
 unfold lq lI
 by_cases h:2000<l.length
 ·rw[bL (by omega),aO,aC h]
 ·rw[bO (by omega),aQ,aD h,yE kU hl (λk x hx=>by
   rw[dS hx,aB,BR,aB];unfold kU
   cases hr:fK x with
   |false=>rfl
   |true=>
    rw[lf,aQ,aC rfl]
    by_cases h2:x.X1<=x.X0\/x.Y1<=x.Y0
    ·rw[aC h2,show(decide (x.X1<=x.X0)||decide (x.Y1<=x.Y0))=true by rw[dM,bF,bF];exact h2];rfl
    ·rw[aD h2,show(decide (x.X1<=x.X0)||decide (x.Y1<=x.Y0))=false by rw[<-ld,dM,bF,bF];exact h2];rfl),aB]
  cases l.findSome? kU <;> rfl
theorem yZ{r:aH}:kU r=none↔fK r=true/\r.X0<r.X1/\r.Y0<r.Y1:=by
 unfold kU
 by_cases h:fK r=true
 ·rw[aC h]
  by_cases h2:r.X1<=r.X0\/r.Y1<=r.Y0
  ·rw[aC h2];constructor
   ·intro h;cases h
   ·rintro⟨_,h3,h4⟩;omega
  ·rw[aD h2];exact⟨λ_=>⟨h,by omega,by omega⟩,λ_=>rfl⟩
 ·rw[aD h];constructor
  ·intro h;cases h
  ·rintro⟨h3,_⟩;exact absurd h3 h
theorem FL{r:aH}{e:Int}(h:kU r=some e):e≠0:=by
 unfold kU at h;split at h
 ·split at h
  ·injection h with h;omega
  ·cases h
 ·injection h with h;omega
theorem ti{l:List aH}:lI l=0↔l.length<=2000/\∀r∈l,fK r=true/\r.X0<r.X1/\r.Y0<r.Y1:=by
 unfold lI
 by_cases h:2000<l.length
 ·rw[aC h];constructor
  ·intro h;omega
  ·intro h;omega
 ·rw[aD h]
  cases hf:l.findSome? kU with
  |none=>
   rw[List.findSome?_eq_none_iff]at hf;exact⟨λ_=>⟨by omega,λr hr=>yZ.1<|hf r hr⟩,λ_=>rfl⟩
  |some e=>
   obtain⟨r,hr,he⟩:=List.exists_of_findSome?_eq_some hf;constructor
   ·intro h0;exact absurd h0<|FL he
   ·rintro⟨_,h2⟩;rw[yZ.2<|h2 r hr]at he;cases he
def MV(l:List aH):Prop:=∀(k:Nat)a b,l[k]? =some a->l[k+1]? =some b->¬(b.Y0<a.Y0\/(b.Y0=a.Y0/\b.X0<=a.X0))
def BU(l:List aH):Prop:=∃s,r7 l s/\aR s=l
noncomputable def iZ(l:List aH):Int:=if lI l≠0 then lI l else if MV l then(if BU l then 0 else 3)else 8
theorem Ef{l:List aH}(h:lI l=0):l.length<=2000/\∀r∈l,C9 r:=⟨(ti.1 h).1,λr hr=>by have:=(ti.1 h).2 r hr;exact GS this.1 this.2.1 this.2.2⟩
theorem GU{l m:List aH}(hl:l.length<=4611686018427387904):kN N l m=some (decide<|l=m):=by
 have:=C5 (l:=l) (m:=m) hl;unfold GH at this;unfold kN;rw[show(decide<|l=m) = @decide (l=m) (instDecidableEqList l m)from decide_eq_decide.2 Iff.rfl];exact this
theorem v7{l:List aH}(hl:l.length<=1073741824)(hN:4398046511104<=N):jz N l=some (iZ l):=by
 refine SJ ?_;unfold jz;refine RE (CH (by omega)) ?_;unfold iZ;refine R9 (λh=>RJ ?_)<|λh=>?_
 ·rw[aC (by simpa using h)]
 ·have h0:lI l=0:=by simpa using h
  rw[aD (by simpa using h0)];obtain⟨hlen,hok⟩:=Ef h0;refine RP (SS (Go:=λ_=>MV l) (Rt:=λr=>r=8/\¬MV l) (λs=>∃k:Nat,s=((k:Nat):Int)/\1<=k/\∀(j:Nat)a b,j+1<k->l[j]? =some a->l[j+1]? =some b->¬(b.Y0<a.Y0\/(b.Y0=a.Y0/\b.X0<=a.X0))) (λs=>l.length - s.toNat) ?_ ⟨1,rfl,bR _,λj a b hj=>by omega⟩ (by simp;omega)) ?_
  ·rintro s⟨k,rfl,hk,hI⟩;refine R9 (λh=>?_)<|λh=>Sn λj a b ha hb=>hI j a b ?_ ha hb
   ·have hk2:k<l.length:=by have:=of_decide_eq_true h;omega
    rw[je hk (by omega)];refine SA (by omega)<|SA hk2<|R9 (λhb=>SC ⟨rfl,λhu=>?_⟩)<|λhb=>Si ⟨⟨k+1,by rw[cD (by omega)],by omega,λj a b hj ha hb'=>?_⟩,by rw[cD (by omega)];simp only[cI];omega⟩
    ·refine hu (k - 1) l[k - 1] l[k] (aP _) (by rw[show k - 1+1=k by omega];exact aP _) ?_;rw[dM,bT,bF,bF,beq_iff_eq]at hb;exact hb
    ·by_cases e:j+1<k
     ·exact hI j a b e ha hb'
     ·have:j+1=k:=by omega
      subst this;rw[aP (by omega)]at ha hb';injection ha with ha;injection hb' with hb'
      subst ha;subst hb';rw[<-ld,dM,bT,bF,bF,beq_iff_eq]at hb;exact hb
   ·have:=of_decide_eq_false h;have:=(bA.1 hb).1;omega
  ·rintro o ho;refine Sm ho (λs hu=>?_)<|λr hr=>RJ (by rw[hr.1,aD hr.2])
   rw[aC hu];refine RP (pN (N:=N) (by omega) hok (by omega)) ?_;intro s hs;obtain⟨z1,z2,z3⟩:=hs.FK;have z4:2*l.length*(2*l.length)<=4000*4000:=Nat.mul_le_mul (by omega) (by omega);refine RE (BJ (tT hs.can) (by omega) (λb hb=>by have:=z2 b hb;omega) (by omega))<|RE (GU (by omega)) ?_
   have hiff:BU l↔aR s=l:=⟨λ⟨t,h1,h2⟩=>by rw[hs.unique h1];exact h2,λh=>⟨s,hs,h⟩⟩;refine R9 (λh=>RJ ?_)<|λh=>RJ ?_
   ·have h:¬aR s=l:=by simpa using h
    rw[aD<|λh'=>h<|hiff.1 h']
   ·have h:aR s=l:=by simpa using h
    rw[aC<|hiff.2 h]
theorem sR{l:List aH}:iZ l=0↔lI l=0/\MV l/\BU l:=by
 unfold iZ
 by_cases h:lI l=0
 ·rw[aD (by simpa using h)]
  by_cases h2:MV l
  ·rw[aC h2]
   by_cases h3:BU l
   ·rw[aC h3];exact⟨λ_=>⟨h,h2,h3⟩,λ_=>rfl⟩
   ·rw[aD h3];constructor
    ·intro h;omega
    ·rintro⟨_,_,h4⟩;exact absurd h4 h3
  ·rw[aD h2];constructor
   ·intro h;omega
   ·rintro⟨_,h4,_⟩;exact absurd h4 h2
 ·rw[aC h];constructor
  ·intro h2;exact absurd h2 h
  ·rintro⟨h2,_⟩;exact absurd h2 h
theorem x3(n lo hi:Int):iM N n lo hi=some (fJ n lo hi):=rfl
theorem IB{b:cJ}(hN:16<=N):mi N b=some (mK b):=by
 have:=zX (N:=N - 16) (b:=b);rwa[show N - 16+16=N by omega]at this
def lY(n:Nat)(b:cJ):Option Int:=if(mK b).2≠0 then some (mK b).2 else if fJ b.cL 0 (((n:Nat):Int) - 1)=true/\fJ b.To b.cL (((n:Nat):Int) - 1)=true then none else some 1
def iV(a:gm):Int:=if 500<a.aU.length then 2 else(a.aU.findSome?<|lY a.aJ.length).getD 0
theorem CI{a:gm}(h1:a.aJ.length<=4611686018427387904)(h2:a.aU.length<=4611686018427387904)(hN:16<=N):kO N a=some (iV a):=by
 unfold kO iV
 by_cases h:500<a.aU.length
 ·rw[bL (by omega),aO,aC h]
 ·have hw:wrap .i64 (((a.aJ.length:Nat):Int) - 1)=((a.aJ.length:Nat):Int) - 1:=eU (by omega) (by omega)
  rw[bO (by omega),aQ,aD h,yE (lY a.aJ.length) h2 (λk x hx=>by
   rw[dS hx,aB,IB hN,aB];unfold lY
   by_cases h0:(mK x).2=0
   ·rw[aD (by simpa using h0),h0,show((0:Int) != 0)=false by rfl,aQ,hw,x3,aB,x3,aB]
    cases h3:fJ x.cL 0 (((a.aJ.length:Nat):Int) - 1) <;> cases h4:fJ x.To x.cL (((a.aJ.length:Nat):Int) - 1) <;> rfl
   ·rw[aC h0,show((mK x).2 != 0)=true by simpa using h0];rfl),aB]
  cases a.aU.findSome? (lY a.aJ.length) <;> rfl
theorem FM{b:cJ}(h:(mK b).2=0):qL b=true/\fK (vZ b)=true:=by
 unfold mK at h;split at h
 ·rename_i h';rwa[bT]at h'
 ·cases h
theorem mw{a:gm}(h:iV a=0):a.aU.length<=500/\∀b∈a.aU,qL b=true/\fK (vZ b)=true/\0<=b.cL/\b.cL<=b.To/\b.To<((a.aJ.length:Nat):Int):=by
 unfold iV at h;split at h
 ·omega
 ·refine⟨by omega,λb hb=>?_⟩;have hn:lY a.aJ.length b=none:=by
   cases hf:a.aU.findSome? (lY a.aJ.length)with
   |none=>exact List.findSome?_eq_none_iff.1 hf b hb
   |some e=>
    rw[hf]at h;obtain⟨c,hc,he⟩:=List.exists_of_findSome?_eq_some hf;have h:e=0:=h;subst h;unfold lY at he;split at he
    ·rename_i h';injection he with he;exact absurd he h'
    ·split at he
     ·cases he
     ·injection he with he;omega
  unfold lY at hn;split at hn
  ·cases hn
  ·rename_i h0;split at hn
   ·rename_i h1;have h0:(mK b).2=0:=by simpa using h0
    have:=FM h0;unfold fJ at h1;simp only[bT,bF]at h1;exact⟨this.1,this.2,by omega,by omega,by omega⟩
   ·cases hn
theorem OY{b:cJ}(h1:qL b=true)(h2:fK (vZ b)=true):C9 (vZ b):=by
 have hf:=sP h1;refine GS h2 ?_ ?_
 ·show b.At.X - b.dJ / 2<b.At.X - b.dJ / 2+b.dJ;omega
 ·show b.At.Y - b.dJ / 2<b.At.Y - b.dJ / 2+b.dJ;omega
def ga(p q:eA):Int:=if Lib.compareBytes p.Part.cW q.Part.cW≠0 then Lib.compareBytes p.Part.cW q.Part.cW else Lib.compareBytes p.eA.cW q.eA.cW
theorem mc(p q:eA):eJ N p q=some (ga p q):=by
 unfold eJ ga;show(bif Lib.compareBytes p.Part.cW q.Part.cW != 0 then _ else _)=_
 by_cases h:Lib.compareBytes p.Part.cW q.Part.cW=0
 ·rw[h,aD (by simp)];rfl
 ·rw[aC h,show(Lib.compareBytes p.Part.cW q.Part.cW != 0)=true by simpa using h];rfl
def jV(l:dN):eA:=⟨l.Part,l.eA⟩
theorem zY(l:dN):lQ N l=some (jV l):=rfl
def jF(a:gm)(k:Nat):Option Int:=(a.bJ[k]?).bind λx=>
 if(nO x.Part&&isWord x.eA)=true then
  if(fJ x.fT 0 (((a.aJ.length:Nat):Int) - 1)&&qK x.At)=true then
   if 0<k/\(∃y,a.bJ[k - 1]? =some y/\ga (jV x) (jV y)<=0)then some 8 else none
  else some 1
 else some 5
noncomputable def lJ(a:gm):Int:=if 1000<a.bJ.length then 2 else(qc a.bJ.length<|jF a).getD 0
end
section
variable {N:Nat}
def BV(a:gm):Prop:=∀x∈a.bJ,x.Part.cW.length<=1048576/\x.eA.cW.length<=1048576
theorem CJ{a:gm}(h1:a.aJ.length<=1073741824)(h2:a.bJ.length<=1073741824)(h3:BV a)(hN:4194304<=N):kQ N a=some (lJ a):=by
 unfold kQ lJ
 by_cases h:1000<a.bJ.length
 ·rw[bL (by omega),aO,aC h]
 ·have hw:wrap .i64 (((a.aJ.length:Nat):Int) - 1)=((a.aJ.length:Nat):Int) - 1:=eU (by omega) (by omega)
  rw[bO (by omega),aQ,aD h,rO (jF a) (by omega) (λk hk _=>by
   have hx:a.bJ[k]? =some a.bJ[k]:=aP hk;have hs:=h3 _<|cU hk
   rw[dS hx,aB,yX hs.1 hN,aB]
   have hle:jF a k=(if(nO a.bJ[k].Part&&isWord a.bJ[k].eA)=true then
     if(fJ a.bJ[k].fT 0 (((a.aJ.length:Nat):Int) - 1)&&qK a.bJ[k].At)=true then
      if 0<k/\(∃y,a.bJ[k - 1]? =some y/\ga (jV a.bJ[k]) (jV y)<=0)then some 8 else none
     else some 1
    else some 5):=by unfold jF;rw[hx];rfl
   rw[hle];have e1:((bif(!nO a.bJ[k].Part)then some true else((jq N a.bJ[k].eA).bind λx225=>some<|!x225)):Option Bool)=some (!(nO a.bJ[k].Part&&isWord a.bJ[k].eA)):=by
    rw[sQ hs.2,aB]
    cases nO a.bJ[k].Part <;> rfl
   have e2:((iM N a.bJ[k].fT 0<|wrap .i64<|((a.aJ.length:Nat):Int) - 1).bind λx318=>bif(!x318)then some true else((j4 N a.bJ[k].At).bind λx321=>some<|!x321))=some (!(fJ a.bJ[k].fT 0 (((a.aJ.length:Nat):Int) - 1)&&qK a.bJ[k].At)):=by
    rw[hw,x3,aB,Ap,aB]
    cases fJ a.bJ[k].fT 0 (((a.aJ.length:Nat):Int) - 1) <;> rfl
   show((bif(!nO a.bJ[k].Part)then some true else((jq N a.bJ[k].eA).bind λx225=>some<|!x225)):Option Bool).bind _=_;rw[e1,aB]
   cases h4:(nO a.bJ[k].Part&&isWord a.bJ[k].eA)with
   |false=>rfl
   |true=>
    rw[lf,aQ,aC rfl];show(((iM N a.bJ[k].fT 0<|wrap .i64<|((a.aJ.length:Nat):Int) - 1).bind λx318=>bif(!x318)then some true else((j4 N a.bJ[k].At).bind λx321=>some<|!x321))).bind _=_;rw[e2,aB]
    cases h5:(fJ a.bJ[k].fT 0 (((a.aJ.length:Nat):Int) - 1)&&qK a.bJ[k].At)with
    |false=>rfl
    |true=>
     rw[lf,aQ,aC rfl]
     by_cases h0:0<k
     ·rw[bL (by omega),aO,je h0 (by omega),lj _ _ (by omega:k - 1<a.bJ.length)];simp only[zY,aB,mc]
      by_cases h6:ga (jV a.bJ[k]) (jV a.bJ[k - 1])<=0
      ·rw[bL h6,aC ⟨h0,_,aP (by omega:k - 1<a.bJ.length),h6⟩];rfl
      ·rw[bO h6,aD (by
        rintro⟨_,y,hy,h7⟩;rw[aP (by omega:k - 1<a.bJ.length)]at hy;injection hy with hy
        rw[<-hy]at h7;exact h6 h7)];rfl
     ·rw[bO (by omega),aD (λh=>h0 h.1)];rfl),aB]
  cases qc a.bJ.length (jF a) <;> rfl
def kV(b:cJ)(k:Int):Bool:=decide (b.cL<=k)&&decide (k<=b.To)
theorem BW(b:cJ)(k:Int):lu N b k=some (kV b k):=rfl
def kW(bs:List cJ)(k:Int):List aH:=(bs.filter<|λb=>kV b k).map vZ
structure nE (bs:List cJ):Prop where
 len:bs.length<=500
 ok:∀b∈bs,qL b=true/\fK (vZ b)=true
structure uG (r hs:List aH) (s:List aA):Prop where
 can:eR (s.map bY)
 cover:∀x y,vh (s.map bY) x y=(vf r x y&& !vf hs x y)
 lim:yb (tQ r++tQ hs) (jm r++jm hs) (s.map bY)
theorem zZ{bs:List cJ}(h:nE bs)(k:Int):(kW bs k).length<=500:=by
 unfold kW;rw[dY];have:=oV (λb=>kV b k) bs;have:=h.len;omega
theorem v8{bs:List cJ}(h:nE bs)(k:Int):∀r∈kW bs k,C9 r/\fK r=true:=by
 intro r hr;unfold kW at hr;obtain⟨b,hb,rfl⟩:=cY.1 hr;have:=h.ok b (k9.1 hb).1;exact⟨OY this.1 this.2,this.2⟩
theorem uG.small{r hs:List aH}{s:List aA}(h:uG r hs s)(h1:∀x∈r,C9 x)(h2:∀x∈hs,C9 x):(∀c∈tQ r++tQ hs,small c)/\∀c∈jm r++jm hs,small c:=by
 constructor
 ·intro c hc
  rcases dH.1 hc with h|h
  ·obtain⟨x,hx,rfl|rfl⟩:=tR.1 h
   ·exact(h1 x hx).s1
   ·exact(h1 x hx).s2
  ·obtain⟨x,hx,rfl|rfl⟩:=tR.1 h
   ·exact(h2 x hx).s1
   ·exact(h2 x hx).s2
 ·intro c hc
  rcases dH.1 hc with h|h
  ·obtain⟨x,hx,rfl|rfl⟩:=lG.1 h
   ·exact(h1 x hx).s3
   ·exact(h1 x hx).s4
  ·obtain⟨x,hx,rfl|rfl⟩:=lG.1 h
   ·exact(h2 x hx).s3
   ·exact(h2 x hx).s4
theorem wM{s:List aA}{X Y:List Int}{A:Nat}(hc:eR (s.map bY))(h:yb X Y (s.map bY))(hX:X.length<=A)(hY:Y.length<=A):s.length<=A/\(∀b∈s,b.Xs.length<=A)/\(aR s).length<=A*A:=by
 have h1:s.length<=A:=by have:=h.len hc;rw[dY]at this;omega
 have h2:∀b∈s,b.Xs.length<=A:=λb hb=>by
  have:=h.row hc (b:=bY b)<|cY.2 ⟨b,hb,rfl⟩
  have e:(bY b).xs=b.Xs:=rfl;rw[e]at this;omega
 exact⟨h1,h2,BH h1 h2⟩
theorem CK{r hs:List aH}(h1:r.length<=2000)(h2:∀x∈r,C9 x)(h3:hs.length<=500)(h4:∀x∈hs,C9 x)(hN:4398046511104<=N){β:Type}{f:List aA->Option β}{Q:β->Prop}(k:∀s,uG r hs s->Ok (f s) Q):
  Ok ((il N r).bind λx378=>(il N hs).bind λx380=>(lx N x378 x380).bind f) Q:=by
 refine RP (pN (N:=N) (by omega) h2 (by omega))<|λs hs1=>?_
 refine RP (pN (N:=N) (by omega) h4 (by omega))<|λt ht=>?_
 have hz:∀c∈jm r++jm hs,small c:=by
  intro c hc
  rcases dH.1 hc with h|h
  ·obtain⟨x,hx,rfl|rfl⟩:=lG.1 h
   ·exact(h2 x hx).s3
   ·exact(h2 x hx).s4
  ·obtain⟨x,hx,rfl|rfl⟩:=lG.1 h
   ·exact(h4 x hx).s3
   ·exact(h4 x hx).s4
 refine RP (Ix (X:=tQ r++tQ hs) (Y:=jm r++jm hs) hs1.can ht.can (hs1.lim.mono (λc h=>List.mem_append_left _ h) (λc h=>List.mem_append_left _ h)) (ht.lim.mono (λc h=>List.mem_append_right _ h) (λc h=>List.mem_append_right _ h))
  (by rw[dF,ma,ma];omega) (by rw[dF,jw,jw];omega) hz hN) (λu hu=>?_)
 exact k u ⟨hu.can,λx y=>by rw[hu.cover,hs1.cover,ht.cover],hu.lim⟩
def eG:Nat->List (List<|List aA)->List aL
 |_,[]=>[]
 |k,ps::r=>ps.map (λp=>⟨((k:Nat):Int),p,aR p⟩)++eG (k+1) r
theorem x4(ps:List (List aA)):∀(r:List (List<|List aA))(k:Nat),eG k (r++[ps])=eG k r++ps.map (λp=>⟨((k+r.length:Nat):Int),p,aR p⟩)
 | [],k=>by unfold eG;simp[eG]
 |q::r,k=>by
  show _++eG (k+1) (r++[ps])=(_++eG (k+1) r)++_;rw[x4 ps r<|k+1,lN];congr 3;simp only[fR];rw[show k+(r.length+1)=k+1+r.length by omega]
theorem BX{s p:List aA}{ps:List (List aA)}{r:Nat->Nat}{X Y:List Int}(h:sO s r ps)(hc:eR (s.map bY))(hl:yb X Y (s.map bY))(hX:∀c∈X,small c)(hY:∀c∈Y,small c)(hp:p∈ps):
  ∃j k:Nat,ps[j]? =some p/\(bW (aR s).length r)[j]? =some k/\r7 (nN (aR s) (aR s).length r k) p/\yb X Y (p.map bY):=by
 obtain⟨j,hj⟩:=eO hp;have hjl:=(bA.1 hj).1;rw[h.len]at hjl;have hh:(bW (aR s).length r)[j]? =some (bW (aR s).length r)[j]:=aP hjl;have hs:=h.each j _ p hh hj;refine⟨j,_,hj,hh,hs,hs.lim.mono (λc hcx=>?_)<|λc hcx=>?_⟩
 ·obtain⟨x,hx,hxc⟩:=tR.1 hcx;obtain⟨i,_,_,hi⟩:=mb.1 hx;have:=BK hc hl hX hY x<|gq hi
  rcases hxc with rfl|rfl
  ·exact this.2.1.1
  ·exact this.2.1.2
 ·obtain⟨x,hx,hxc⟩:=lG.1 hcx;obtain⟨i,_,_,hi⟩:=mb.1 hx;have:=BK hc hl hX hY x<|gq hi
  rcases hxc with rfl|rfl
  ·exact this.2.2.1
  ·exact this.2.2.2
structure v9 (cs:List (List aH)) (bs:List cJ) (k:Nat) (me:List (List aA)) (gH:List (List (List aA))):Prop where
 len:me.length=k
 CL:gH.length=k
 dr:∀(i:Nat)r s,i<k->cs[i]? =some r->me[i]? =some s->uG r (kW bs ((i:Nat):Int)) s
 pt:∀(i:Nat)s ps,i<k->me[i]? =some s->gH[i]? =some ps->∃u,sO s u ps
 BZ:(eG 0 gH).length<=k*25000000
theorem sO.BZ{s:List aA}{u:Nat->Nat}{ps:List (List aA)}(h:sO s u ps):ps.length<=(aR s).length:=by
 rw[h.len];exact pP _ _
theorem GV{cs:List (List aH)}{bs:List cJ}(hcs:cs.length<=16)(hc:∀r∈cs,r.length<=2000/\∀x∈r,C9 x)(hb:nE bs)(hN:4398046511104<=N):
  Ok (kh N cs bs [] []) (λx=>∃gH,v9 cs bs cs.length x.2.1 gH/\x.2.2=eG 0 gH/\(x.1=true↔(∀s∈x.2.1,(aR s).length<=2000)/\x.2.2.length<=2000)):=by
 unfold kh
 refine RP (P:=λ(st:List (List aA)×List aL×Bool)=>∃gH,v9 cs bs cs.length st.1 gH/\st.2.1=eG 0 gH/\(st.2.2=true↔∀s∈st.1,(aR s).length<=2000)) (SR (λ(k:Nat)(st:List (List aA)×List aL×Bool)=>∃gH,v9 cs bs k st.1 gH/\st.2.1=eG 0 gH/\(st.2.2=true↔∀s∈st.1,(aR s).length<=2000)) (by omega)
  ⟨[],⟨rfl,rfl,λi r s hi=>by omega,λi s ps hi=>by omega,by simp[eG]⟩,rfl,by simp⟩ (λk st hk hI=>?_)) ?_
 ·obtain⟨me,pcs,okk⟩:=st;obtain⟨gH,D,e1,e2⟩:=hI;dsimp only at D e1 e2 ⊢;subst e1;have hkx:cs[k]? =some cs[k]:=aP hk;obtain⟨hr1,hr2⟩:=hc _<|cU hk
  refine R0 hkx ?_;refine RP (P:=λt=>t=kW bs ((k:Nat):Int)) (Ok.mono (SR (λj t=>t=kW (bs.take j) ((k:Nat):Int)) (by have:=hb.len;omega) rfl<|λj t hj e=>?_) (λt e=>by rw[e,fS]))<|λt e=>?_
  ·subst e;refine SA hj<|RE (BW _ _) ?_
   have hts:bs.take (j+1)=bs.take j++[bs[j]]:=fq hj;have hgb:=hb.ok _<|cU hj
   have hl:(kW (bs.take j) ((k:Nat):Int)).length<=500:=by
    unfold kW;rw[dY];have:=oV (λb=>kV b ((k:Nat):Int))<|bs.take j
    rw[cQ]at this;have:=hb.len;omega
   cases ht:kV bs[j] ((k:Nat):Int)with
   |false=>
    rw[aQ];refine RE rfl<|RJ ?_
    unfold kW;rw[hts,kJ];simp[ht]
   |true=>
    rw[aO];refine RE (x:=kW (bs.take j) ((k:Nat):Int)++[vZ bs[j]]) (by rw[na hgb.1,aB,kR (by simp;omega),aB])<|RJ ?_
    unfold kW;rw[hts,kJ,eN];simp[ht]
  ·subst e;have hho:=v8 hb ((k:Nat):Int);have hhl:=zZ hb ((k:Nat):Int);refine CK hr1 hr2 hhl (λx hx=>(hho x hx).1) hN<|λs hs=>?_
   obtain⟨sx,sy⟩:=hs.small hr2<|λx hx=>(hho x hx).1
   obtain⟨z1,z2,z3⟩:=wM (A:=5000) hs.can hs.lim (by rw[dF,ma,ma];omega) (by rw[dF,jw,jw];omega);have hmany:=Ld (N:=N) (s:=s) (by omega) (λb hb=>by have:=z2 b hb;omega) (by omega);refine RE (x:=(okk&&decide ((aR s).length<=2000),s)) ?_ ?_
   ·cases okk with
    |false=>rfl
    |true=>
     rw[aO,hmany,aB,Bool.true_and];rw[show decide ((((aR s).length:Nat):Int)<=2000)=decide ((aR s).length<=2000)from decide_eq_decide.2 (by omega)]
   dsimp only;refine SB (by rw[D.len];simp;omega) ?_;refine RP (GQ (N:=N) hs.can hs.lim sx sy (by omega) (λb hb=>by have:=z2 b hb;omega) (by omega) hN) ?_;rintro ps⟨u,hu⟩;have hfew:=hu.BZ;have hk16:k*25000000<=16*25000000:=Nat.mul_le_mul_right _ (by omega);have hDf:=D.BZ;refine RP (P:=λt=>t=eG 0 gH++ps.map (λp=>(⟨((k:Nat):Int),p,aR p⟩:aL))) (Ok.mono (SR (λj t=>t=eG 0 gH++(ps.take j).map (λp=>(⟨((k:Nat):Int),p,aR p⟩:aL))) (by omega) (by simp)<|λj t hj e=>?_) (λt e=>by rw[e,fS]))<|λt e=>RJ ?_
   ·subst e;have hjx:ps[j]? =some ps[j]:=aP hj;refine R0 hjx ?_;obtain⟨_,_,_,_,nk,hpl⟩:=BX hu hs.can hs.lim sx sy<|cU hj
    obtain⟨y1,y2,y3⟩:=wM (A:=5000) nk.can hpl (by rw[dF,ma,ma];omega) (by rw[dF,jw,jw];omega);refine RE (BJ (tT nk.can) (by omega) (λb hb=>by have:=y2 b hb;omega) (by omega))<|SB ?_<|RJ ?_
    ·simp only[dF,dY,cQ,List.length_singleton];omega
    ·rw[fq hj,eN,lN];rfl
   ·subst e;refine⟨gH++[ps],⟨by simp[D.len],by simp[D.CL],λi r s' hi hr hs'=>?_,λi s' ps' hi hs' hps'=>?_,?_⟩,?_,?_⟩
    ·dsimp only at hs'
     by_cases hik:i<k
     ·rw[gz (by rw[D.len];exact hik)]at hs';exact D.dr i r s' hik hr hs'
     ·have:i=k:=by omega
      subst this;rw[gQ (by rw[D.len];omega),D.len,Nat.sub_self]at hs';simp at hs';subst hs';rw[hkx]at hr;injection hr with hr;subst hr
      exact hs
    ·dsimp only at hs'
     by_cases hik:i<k
     ·rw[gz (by rw[D.len];exact hik)]at hs';rw[gz (by rw[D.CL];exact hik)]at hps';exact D.pt i s' ps' hik hs' hps'
     ·have:i=k:=by omega
      subst this;rw[gQ (by rw[D.len];omega),D.len,Nat.sub_self]at hs';rw[gQ (by rw[D.CL];omega),D.CL,Nat.sub_self]at hps';simp at hs' hps';subst hs';subst hps';exact⟨u,hu⟩
    ·rw[x4,dF,dY];omega
    ·dsimp only;rw[x4,D.CL,iO]
    ·dsimp only;rw[bT,e2,bF];constructor
     ·rintro⟨h1,h2⟩s' hs'
      rcases dH.1 hs' with h|h
      ·exact h1 s' h
      ·simp at h;subst h;exact h2
     ·intro h;exact⟨λs' hs'=>h s'<|List.mem_append_left _ hs',h s (by simp)⟩
 ·rintro⟨me,pcs,okk⟩⟨gH,D,e1,e2⟩;dsimp only at D e1 e2 ⊢;subst e1;refine RP (P:=λb=>b=true↔(∀s∈me,(aR s).length<=2000)/\(eG 0 gH).length<=2000) (R9 (λh=>RJ ?_)<|λh=>RJ ?_)<|λb hb=>RJ ⟨gH,D,rfl,hb⟩
  ·rw[bF];constructor
   ·intro h';exact⟨e2.1 h,by omega⟩
   ·rintro⟨_,h'⟩;omega
  ·constructor
   ·intro h';cases h'
   ·rintro⟨h',_⟩;rw[e2.2 h']at h;cases h
end
end Go.Gk
