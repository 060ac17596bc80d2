/-
  Helping texts: plain functions and plain laws. No statement of the seed is proved here.
-/
import Derived.Test.YtpgchlbhifkckaaA1
import Derived.ChangeShapes
import Derived.ChangeSame
import Derived.Carry
import Derived.RowKit
import Derived.Test.YtpgchlbhifkckaaA2
set_option linter.unusedVariables false
set_option linter.unusedSimpArgs false
set_option linter.unusedSectionVars false
namespace Go.Gk
open Go IntKind
noncomputable section
structure bG where
 Name:fy
 W:Int
 H:Int
 deriving DecidableEq,Inhabited
structure bA where
 X:Int
 Y:Int
 deriving DecidableEq,Inhabited
structure Slot where
 dG:fy
 aM:Int
 At:bA
 deriving DecidableEq,Inhabited
structure bX where
 W:Int
 H:Int
 aU:Int
 lD:Int
 dP:List bG
 aX:List Slot
 Marks:List bA
 deriving DecidableEq,Inhabited
structure aB where
 X0:Int
 Y0:Int
 X1:Int
 Y1:Int
 deriving DecidableEq,Inhabited
structure aA where
 Y0:Int
 Y1:Int
 Xs:List Int
 deriving DecidableEq,Inhabited
structure j9 where
 xH:Bool
 aM:Int
 At:bA
 deriving DecidableEq,Inhabited
def aY(N:Nat)(p0 p1 p2:Int):Option Bool:=
 some (decide (p0>=p1)&&decide (p0<=p2))
def jf(N:Nat)(p0:fy):Option Bool:=
 (lz p0.hL.length (λ(o:Nat)(aa:Unit)=>((yx p0 (o:Int)).bind λj=>bif(!((decide ((j.toNat:Int)>=97)&&decide ((j.toNat:Int)<=122))||(decide ((j.toNat:Int)>=65)&&decide ((j.toNat:Int)<=90))))&&(((o:Int)==0)||(((decide ((j.toNat:Int)<48)||decide ((j.toNat:Int)>57))&&((j.toNat:Int) != 95))&&((j.toNat:Int) != 45)))then some (.rt false)else(some<|.nx ()):Option (Fl Unit Bool))) ()).bind λab=>ab.cs (λ(aa:Unit)=>some<|decide ((p0.hL.length:Int)>=1)&&decide ((p0.hL.length:Int)<=40))<|λr=>some r
def fc(N:Nat)(p0:List bG):Option Int:=
 bif decide ((p0.length:Int)>50)then some 2 else((lz p0.length (λ(o:Nat)(ab:Unit)=>((idx p0 (o:Int)).bind λj=>(jf N j.Name).bind λad=>bif(!ad)then some (.rt 5)else(((aY N j.W 1 1000000).bind λae=>bif(!ae)then some true else((aY N j.H 1 1000000).bind λaf=>some<|!af)).bind λag=>bif ag then some (.rt 1)else((bif decide ((o:Int)>0)then((idx p0<|wrap .i64<|(o:Int) - 1).bind λaa=>some<|j.Name.vM aa.Name||j.Name.mV aa.Name)else some false).bind λah=>bif ah then some (.rt 8)else some (.nx ()))):Option (Fl Unit Int))) ()).bind λai=>ai.cs (λ(ab:Unit)=>some 0)<|λr=>some r)
def eJ(N:Nat)(p0:bG)(p1:fy):Option Bool:=
 some (p0.Name.mV p1)
def dD(N:Nat)(p0:List bG)(p1:bG->Option Bool):Option Int:=
 (lz p0.length (λ(j:Nat)(o:Unit)=>((idx p0 (j:Int)).bind λaa=>(p1 aa).bind λab=>bif ab then some (.rt (j:Int))else(some<|.nx ()):Option (Fl Unit Int))) ()).bind λad=>ad.cs (λ(o:Unit)=>some<|-1)<|λr=>some r
def eO(N:Nat)(p0:bX)(p1:fy):Option Int:=
 (dD N p0.dP<|λy0=>eJ N y0 p1).bind λj=>some j
def jA(N:Nat)(p0:bG)(p1:Int):Option (Int×Int):=
 bif Int.tmod p1 2==1 then some (p0.H,p0.W)else some (p0.W,p0.H)
def ij(N:Nat)(p0:bX)(p1:Slot):Option aB:=
 (eO N p0 p1.dG).bind λo=>(idx p0.dP o).bind λaa=>(jA N aa p1.aM).bind λj=>some (⟨p1.At.X,p1.At.Y,wrap .i64<|p1.At.X+j.1,wrap .i64<|p1.At.Y+j.2⟩:aB)
def kR(N:Nat)(p0:bX)(p1:aB):Option Bool:=
 some (((((decide (p1.X0>=p0.aU)&&decide (p1.Y0>=p0.aU))&&decide (p1.X0<=p0.W))&&decide (p1.Y0<=p0.H))&&decide (p1.X1<=wrap .i64 (p0.W - p0.aU)))&&decide (p1.Y1<=wrap .i64 (p0.H - p0.aU)))
def i9(N:Nat)(p0 p1:aB)(p2:Int):Option Bool:=
 some (((decide (wrap .i64 (p0.X1+p2)<=p1.X0)||decide (wrap .i64 (p1.X1+p2)<=p0.X0))||decide (wrap .i64 (p0.Y1+p2)<=p1.Y0))||decide (wrap .i64 (p1.Y1+p2)<=p0.Y0))
def fe(N:Nat)(p0 p1:aB)(p2:bX):Option Bool:=
 (i9 N p1 p0 p2.lD).bind λj=>some<|!j
def fJ(N:Nat)(p0:List aB)(p1:aB->Option Bool):Option Int:=
 (lz p0.length (λ(j:Nat)(o:Unit)=>((idx p0 (j:Int)).bind λaa=>(p1 aa).bind λab=>bif ab then some (.rt (j:Int))else(some<|.nx ()):Option (Fl Unit Int))) ()).bind λad=>ad.cs (λ(o:Unit)=>some<|-1)<|λr=>some r
def cT(N:Nat)(p0:List aB)(p1:aB->Option Bool):Option Bool:=
 (fJ N p0 p1).bind λj=>some<|decide<|j>=0
def dR(N:Nat)(p0:List aB)(p1:aB->Option Bool):Option Int:=
 (lz p0.length (λ(j:Nat)(o:Unit)=>((idx p0 (j:Int)).bind λaa=>(p1 aa).bind λab=>bif ab then some (.rt (j:Int))else(some<|.nx ()):Option (Fl Unit Int))) ()).bind λad=>ad.cs (λ(o:Unit)=>some<|-1)<|λr=>some r
def dz(N:Nat)(p0:List aB)(p1:aB->Option Bool):Option Bool:=
 (dR N p0 p1).bind λj=>some<|decide<|j>=0
def jg(N:Nat)(p0:bX):Option (List aB×Int):=
 bif decide ((p0.aX.length:Int)>500)then some (([]:List aB),2)else((lz p0.aX.length (λ(ab:Nat)(o:List aB)=>((idx p0.aX (ab:Int)).bind λj=>(eO N p0 j.dG).bind λad=>bif decide (ad<0)then some (.rt (([]:List aB),5))else(((aY N j.aM 0 3).bind λae=>bif(!ae)then some true else((aY N j.At.X 0 p0.W).bind λaf=>bif(!af)then some true else((aY N j.At.Y 0 p0.H).bind λag=>some<|!ag))).bind λah=>bif ah then some (.rt (([]:List aB),1))else((ij N p0 j).bind λaa=>(kR N p0 aa).bind λai=>bif(!ai)then some (.rt (([]:List aB),1))else((dz N o<|λy0=>fe N y0 aa p0).bind λaj=>bif aj then some (.rt (([]:List aB),12))else((app 32 o ([aa]:List aB)).bind λak=>some<|.nx ak)))):Option (Fl (List aB)<|List aB×Int))) ([]:List aB)).bind λal=>al.cs (λ(o:List aB)=>some (o,0))<|λr=>some r)
def eK(N:Nat)(p0:bX)(p1:bA):Option Bool:=
 ((aY N p1.X 0 p0.W).bind λj=>bif j then((aY N p1.Y 0 p0.H).bind λo=>some o)else some false).bind λaa=>some aa
def jM(N:Nat)(p0:aB)(p1:bA):Option Bool:=
 some (((decide (p1.X>p0.X0)&&decide (p1.X<p0.X1))&&decide (p1.Y>p0.Y0))&&decide (p1.Y<p0.Y1))
def fE(N:Nat)(p0:aB)(p1:bA):Option Bool:=
 (jM N p0 p1).bind λj=>some j
def gN(N:Nat)(p0:List bA)(p1:bA):Option Int:=
 (lz p0.length (λ(j:Nat)(o:Unit)=>((idx p0 (j:Int)).bind λaa=>bif decide (p1=aa)then some (.rt (j:Int))else(some<|.nx ()):Option (Fl Unit Int))) ()).bind λab=>ab.cs (λ(o:Unit)=>some<|-1)<|λr=>some r
def dN(N:Nat)(p0:List bA)(p1:bA):Option Bool:=
 (gN N p0 p1).bind λj=>some<|decide<|j>=0
def kS(N:Nat)(p0:bX):Option (List aB×Int):=
 ((aY N p0.W 1 1000000).bind λae=>bif(!ae)then some true else((aY N p0.H 1 1000000).bind λaf=>bif(!af)then some true else((aY N p0.aU 0 1000000).bind λag=>bif(!ag)then some true else((aY N p0.lD 0 1000000).bind λah=>some<|!ah)))).bind λai=>bif ai then some (([]:List aB),1)else((fc N p0.dP).bind λab=>bif ab != 0 then some (([]:List aB),ab)else((jg N p0).bind λo=>bif o.2 != 0 then some (([]:List aB),o.2)else(bif decide ((p0.Marks.length:Int)>10)then some (([]:List aB),2)else((lz p0.Marks.length (λ(ad:Nat)(j:List aB)=>((idx p0.Marks (ad:Int)).bind λaa=>(eK N p0 aa).bind λaj=>bif(!aj)then some (.rt (([]:List aB),1))else((cT N j<|λy0=>fE N y0 aa).bind λak=>bif ak then some (.rt (([]:List aB),12))else((mZ p0.Marks 0 (ad:Int)).bind λal=>(dN N al aa).bind λan=>bif an then some (.rt (([]:List aB),7))else some (.nx j))):Option (Fl (List aB)<|List aB×Int))) o.1).bind λao=>ao.cs (λ(j:List aB)=>some (j,0))<|λr=>some r))))
def ff(N:Nat)(p0:bX):Option Int:=
 (kS N p0).bind λj=>some j.2
def kT(N:Nat)(p0 p1 p2:Int):Option Bool:=
 some (decide (p0>=p1)&&decide (p0<=p2))
def gO(N:Nat)(p0:Int):Option Bool:=
 (kT N p0 (-1000000) 1000000).bind λj=>some j
def ik(N:Nat)(p0:aB):Option Bool:=
 ((gO N p0.X0).bind λj=>bif j then((gO N p0.Y0).bind λo=>bif o then((gO N p0.X1).bind λaa=>bif aa then((gO N p0.Y1).bind λab=>some ab)else some false)else some false)else some false).bind λad=>some ad
def fg(N:Nat)(p0:List aB):Option Int:=
 bif decide ((p0.length:Int)>2000)then some 2 else((lz p0.length (λ(o:Nat)(aa:Unit)=>((idx p0 (o:Int)).bind λj=>(ik N j).bind λab=>bif(!ab)then some (.rt 1)else(bif decide (j.X1<=j.X0)||decide (j.Y1<=j.Y0)then some (.rt 13)else some (.nx ())):Option (Fl Unit Int))) ()).bind λad=>ad.cs (λ(aa:Unit)=>some 0)<|λr=>some r)
def eP(N:Nat)(p0:List aB):Option (List aB):=
 (app 32 ([]:List aB) p0).bind λj=>some j
def fY(N:Nat)(p0 p1:aB):Option Int:=
 some (wrap .i64<|p0.Y0 - p1.Y0)
def er(N:Nat)(p0:List Int):Option (List Int):=
 bif decide ((p0.length:Int)<2)then some p0 else((kl (λ(o:Int)=>(bif decide (o<(p0.length:Int))then((idx p0 o).bind λab=>(idx p0<|wrap .i64<|o - 1).bind λad=>bif ab==ad then((mZ p0 o (p0.length:Int)).bind λak=>(kl (λ(j:List Int×Int×Int)=>(bif decide (j.2.2<(((j.1.length - Int.toNat o):Nat):Int))then((tR j.1 o j.2.2).bind λae=>(tR j.1 o<|wrap .i64<|j.2.2 - 1).bind λaf=>(bif ae != af then((tR j.1 o j.2.2).bind λag=>(idx j.1 j.2.1).bind λal=>some (j.1.set (Int.toNat j.2.1) ag,wrap .i64<|j.2.1+1))else some (j.1,j.2.1)).bind λaa=>some<|.nx (aa.1,aa.2,wrap .i64<|j.2.2+1))else(some<|.br (j.1,j.2.1,j.2.2)):Option (Fl (List Int×Int×Int) Empty))) N (p0,o,1)).bind λah=>ah.cs (λ(j:List Int×Int×Int)=>(mZ j.1 j.2.1 (j.1.length:Int)).bind λan=>(mZ (j.1.take (Int.toNat j.2.1)++List.replicate (j.1.length - Int.toNat j.2.1) (0:Int)) 0 j.2.1).bind λai=>some<|.rt ai)<|λr=>r.elim)else some (.nx<|wrap .i64<|o+1))else(some<|.br o):Option (Fl Int<|List Int))) N 1).bind λaj=>aj.cs (λ(o:Int)=>some p0)<|λr=>some r)
def il(N:Nat)(p0:aB)(p1:List Int)(p2:Int):Option Bool:=
 (idx p1 p2).bind λj=>some<|decide<|p0.Y1<=j
def ej(N:Nat)(p0:List aB)(p1:aB->Option Bool):Option (List aB):=
 (dR N p0 p1).bind λo=>bif o==(-1)then some p0 else((kl (λ(j:List aB×Int×Int)=>(bif decide (j.2.2<(j.1.length:Int))then((idx j.1 j.2.2).bind λaa=>(p1 aa).bind λad=>(bif(!ad)then((idx j.1 j.2.1).bind λag=>some (j.1.set (Int.toNat j.2.1) aa,wrap .i64<|j.2.1+1))else some (j.1,j.2.1)).bind λab=>some<|.nx (ab.1,ab.2,wrap .i64<|j.2.2+1))else(some<|.br (j.1,j.2.1,j.2.2)):Option (Fl (List aB×Int×Int) Empty))) N (p0,o,wrap .i64<|o+1)).bind λae=>ae.cs (λ(j:List aB×Int×Int)=>(mZ j.1 j.2.1 (j.1.length:Int)).bind λah=>(mZ (j.1.take (Int.toNat j.2.1)++List.replicate (j.1.length - Int.toNat j.2.1) (⟨0,0,0,0⟩:aB)) 0 j.2.1).bind λaf=>some af)<|λr=>r.elim)
def ey(N:Nat)(p0 p1:aB):Option Int:=
 some (wrap .i64<|p0.X0 - p1.X0)
def fA(N:Nat)(p0:List aB):Option (List Int×List aB):=
 (qF (ey N) p0).bind λaa=>(ks aa.length (λ(ad:Nat)(j:List Int)=>((idx aa (ad:Int)).bind λo=>(bif decide (wrap .i64 ((j.length:Int) - 1)>=0)then((idx j<|wrap .i64<|(j.length:Int) - 1).bind λae=>some<|decide<|o.X0<=ae)else some false).bind λaf=>(bif af then((idx j<|wrap .i64<|(j.length:Int) - 1).bind λab=>(idx j<|wrap .i64<|(j.length:Int) - 1).bind λai=>some<|j.set (Int.toNat<|wrap .i64<|(j.length:Int) - 1) (if ab<o.X1 then o.X1 else ab))else((app 8 j ([o.X0,o.X1]:List Int)).bind λag=>some ag)).bind λah=>some ah:Option (List Int))) ([]:List Int)).bind λj=>some (j,aa)
def gr(N:Nat)(p0:List Int)(p1:List Int):Option Bool:=
 bif(p0.length:Int) != (p1.length:Int)then some false else((lz p0.length (λ(j:Nat)(o:Unit)=>((idx p0 (j:Int)).bind λaa=>(idx p1 (j:Int)).bind λab=>bif aa != ab then some (.rt false)else(some<|.nx ()):Option (Fl Unit Bool))) ()).bind λad=>ad.cs (λ(o:Unit)=>some true)<|λr=>some r)
def fh(N:Nat)(p0:List aA)(p1:aA):Option (List aA):=
 bif((p1.Xs.length:Int)==0)||decide (p1.Y1<=p1.Y0)then some p0 else((bif decide (wrap .i64 ((p0.length:Int) - 1)>=0)then((idx p0<|wrap .i64<|(p0.length:Int) - 1).bind λj=>bif j.Y1==p1.Y0 then((idx p0<|wrap .i64<|(p0.length:Int) - 1).bind λo=>(gr N o.Xs p1.Xs).bind λaa=>some aa)else some false)else some false).bind λab=>bif ab then((idx p0<|wrap .i64<|(p0.length:Int) - 1).bind λad=>some<|p0.set (Int.toNat<|wrap .i64<|(p0.length:Int) - 1)<|{ad with Y1:=p1.Y1})else((app 40 p0 ([p1]:List aA)).bind λae=>some ae))
def ek(N:Nat)(p0:List aB):Option (List aA):=
 (eP N p0).bind λag=>(qF (fY N) ag).bind λaa=>(ks aa.length (λ(ah:Nat)(ad:List Int)=>((idx aa (ah:Int)).bind λae=>(app 8 ad ([ae.Y0,ae.Y1]:List Int)).bind λai=>some ai:Option (List Int))) ([]:List Int)).bind λad=>(po ad).bind λaj=>(er N aj).bind λab=>(kl (λ(j:List aA×List aB×Int×Int)=>(bif decide (wrap .i64 (j.2.2.2+1)<(ab.length:Int))then((ej N j.2.1<|λy0=>il N y0 ab j.2.2.2).bind λak=>(kl (λ(o:List aB×Int)=>((bif decide (o.2<(aa.length:Int))then((idx aa o.2).bind λal=>(idx ab j.2.2.2).bind λan=>some<|decide<|al.Y0<=an)else some false).bind λao=>bif ao then((idx aa o.2).bind λaq=>(app 32 o.1 ([aq]:List aB)).bind λar=>some<|.nx (ar,wrap .i64<|o.2+1))else(some<|.br (o.1,o.2)):Option (Fl (List aB×Int) Empty))) N (ak,j.2.2.1)).bind λau=>au.cs (λ(o:List aB×Int)=>(idx ab j.2.2.2).bind λav=>(idx ab<|wrap .i64<|j.2.2.2+1).bind λaw=>(fA N o.1).bind λaf=>(fh N j.1 (⟨av,aw,af.1⟩:aA)).bind λax=>some<|.nx (ax,af.2,o.2,wrap .i64<|j.2.2.2+1))<|λr=>r.elim)else(some<|.br (j.1,j.2.1,j.2.2.1,j.2.2.2)):Option (Fl (List aA×List aB×Int×Int) Empty))) N (([]:List aA),([]:List aB),0,0)).bind λay=>ay.cs (λ(j:List aA×List aB×Int×Int)=>some j.1)<|λr=>r.elim
def dH(N:Nat)(p0:List aA):Option (List aB):=
 (ks p0.length (λ(ab:Nat)(aa:List aB)=>((idx p0 (ab:Int)).bind λo=>(kl (λ(j:List aB×Int)=>(bif decide (j.2<(o.Xs.length:Int))then((idx o.Xs j.2).bind λad=>(idx o.Xs<|wrap .i64<|j.2+1).bind λae=>(app 32 j.1 ([(⟨ad,o.Y0,ae,o.Y1⟩:aB)]:List aB)).bind λaf=>some<|.nx (af,wrap .i64<|j.2+2))else(some<|.br (j.1,j.2)):Option (Fl (List aB×Int) Empty))) N (aa,0)).bind λag=>ag.cs (λ(j:List aB×Int)=>some j.1) (λr=>r.elim):Option (List aB))) ([]:List aB)).bind λaa=>some aa
def eQ(N:Nat)(p0:List aB)(p1:List aB):Option Bool:=
 bif(p0.length:Int) != (p1.length:Int)then some false else((lz p0.length (λ(j:Nat)(o:Unit)=>((idx p0 (j:Int)).bind λaa=>(idx p1 (j:Int)).bind λab=>bif(!(decide<|aa=ab))then some (.rt false)else(some<|.nx ()):Option (Fl Unit Bool))) ()).bind λad=>ad.cs (λ(o:Unit)=>some true)<|λr=>some r)
def dE(N:Nat)(p0:List aB):Option Int:=
 (fg N p0).bind λab=>bif ab != 0 then some ab else((kl (λ(j:Int)=>(bif decide (j<(p0.length:Int))then((idx p0<|wrap .i64<|j - 1).bind λo=>(idx p0 j).bind λaa=>bif decide (aa.Y0<o.Y0)||((aa.Y0==o.Y0)&&decide (aa.X0<=o.X0))then some (.rt 8)else some (.nx<|wrap .i64<|j+1))else(some<|.br j):Option (Fl Int Int))) N 1).bind λad=>ad.cs (λ(j:Int)=>(ek N p0).bind λae=>(dH N ae).bind λaf=>(eQ N af p0).bind λag=>bif(!ag)then some 3 else some 0)<|λr=>some r)
def gu(N:Nat)(p0:List aA)(p1 p2:Int):Option (List Int×Int):=
 bif(p0.length:Int)==0 then some (([]:List Int),p2)else((idx p0 0).bind λaa=>bif decide (p1<aa.Y0)then((idx p0 0).bind λj=>some (([]:List Int),(if j.Y0<p2 then j.Y0 else p2)))else((idx p0 0).bind λab=>(idx p0 0).bind λo=>some (ab.Xs,(if o.Y1<p2 then o.Y1 else p2))))
def jN(N:Nat)(p0:List Int)(p1:List Int)(p2:Bool->Bool->Option Bool):Option (List Int):=
 (kl (λ(j:List Int×List Int×List Int×Bool×Bool×Bool)=>((bif decide ((j.1.length:Int)>0)then some true else some (decide<|(j.2.1.length:Int)>0)).bind λaf=>bif af then((bif(j.2.1.length:Int)==0 then some true else(bif decide ((j.1.length:Int)>0)then((idx j.1 0).bind λag=>(idx j.2.1 0).bind λah=>some<|decide<|ag<=ah)else some false)).bind λai=>(bif ai then((idx j.1 0).bind λaj=>some aj)else((idx j.2.1 0).bind λak=>some ak)).bind λo=>(bif decide ((j.1.length:Int)>0)then((idx j.1 0).bind λal=>some<|al==o)else some false).bind λan=>(bif an then((mZ j.1 1 (j.1.length:Int)).bind λao=>some (ao,(!j.2.2.2.1)))else some (j.1,j.2.2.2.1)).bind λaa=>(bif decide ((j.2.1.length:Int)>0)then((idx j.2.1 0).bind λaq=>some<|aq==o)else some false).bind λar=>(bif ar then((mZ j.2.1 1 (j.2.1.length:Int)).bind λau=>some (au,(!j.2.2.2.2.1)))else some (j.2.1,j.2.2.2.2.1)).bind λab=>(p2 aa.2 ab.2).bind λad=>(bif ad != j.2.2.2.2.2 then((app 8 j.2.2.1 ([o]:List Int)).bind λav=>some (av,ad))else some (j.2.2.1,j.2.2.2.2.2)).bind λae=>some<|.nx (aa.1,ab.1,ae.1,aa.2,ab.2,ae.2))else(some<|.br (j.1,j.2.1,j.2.2.1,j.2.2.2.1,j.2.2.2.2.1,j.2.2.2.2.2)):Option (Fl (List Int×List Int×List Int×Bool×Bool×Bool) Empty))) N (p0,p1,([]:List Int),false,false,false)).bind λaw=>aw.cs (λ(j:List Int×List Int×List Int×Bool×Bool×Bool)=>some j.2.2.1)<|λr=>r.elim
def jh(N:Nat)(p0:List aA)(p1:List aA)(p2:Bool->Bool->Option Bool):Option (List aA):=
 bif wrap .i64 ((p0.length:Int)+(p1.length:Int))==0 then some ([]:List aA)else((ks (([p0,p1]:List (List aA)).length) (λ(ah:Nat)(o:Int×Int)=>((idx ([p0,p1]:List (List aA)) (ah:Int)).bind λad=>(bif decide ((ad.length:Int)>0)then((bif(ah:Int)==0 then some true else some ((p0.length:Int)==0)).bind λal=>(bif al then((idx ad 0).bind λan=>(idx ad<|wrap .i64<|(ad.length:Int) - 1).bind λao=>some (an.Y0,ao.Y1))else some (o.1,o.2)).bind λag=>(idx ad 0).bind λai=>(idx ad<|wrap .i64<|(ad.length:Int) - 1).bind λaj=>some ((if ai.Y0<ag.1 then ai.Y0 else ag.1),(if ag.2<aj.Y1 then aj.Y1 else ag.2)))else some (o.1,o.2)).bind λak=>some (ak.1,ak.2):Option (Int×Int))) (0,0)).bind λo=>(kl (λ(j:List aA×List aA×List aA×Int)=>(bif decide (j.2.2.2<o.2)then((kl (λ(aa:List aA)=>((bif decide ((aa.length:Int)>0)then((idx aa 0).bind λaq=>some<|decide<|aq.Y1<=j.2.2.2)else some false).bind λar=>bif ar then((mZ aa 1 (aa.length:Int)).bind λau=>some<|.nx au)else(some<|.br aa):Option (Fl (List aA) Empty))) N j.1).bind λav=>av.cs (λ(aa:List aA)=>(kl (λ(ab:List aA)=>((bif decide ((ab.length:Int)>0)then((idx ab 0).bind λaw=>some<|decide<|aw.Y1<=j.2.2.2)else some false).bind λax=>bif ax then((mZ ab 1 (ab.length:Int)).bind λay=>some<|.nx ay)else(some<|.br ab):Option (Fl (List aA) Empty))) N j.2.1).bind λaz=>az.cs (λ(ab:List aA)=>(gu N aa j.2.2.2 o.2).bind λae=>(gu N ab j.2.2.2 o.2).bind λaf=>(jN N ae.1 af.1 p2).bind λa0=>(fh N j.2.2.1 (⟨j.2.2.2,(if af.2<ae.2 then af.2 else ae.2),a0⟩:aA)).bind λa1=>some<|.nx (aa,ab,a1,(if af.2<ae.2 then af.2 else ae.2)))<|λr=>r.elim)<|λr=>r.elim)else(some<|.br (j.1,j.2.1,j.2.2.1,j.2.2.2)):Option (Fl (List aA×List aA×List aA×Int) Empty))) N (p0,p1,([]:List aA),o.1)).bind λa2=>a2.cs (λ(j:List aA×List aA×List aA×Int)=>some j.2.2.1)<|λr=>r.elim)
def ir(N:Nat)(p0 p1:Bool):Option Bool:=
 some (p0&&(!p1))
def fZ(N:Nat)(p0:List aA)(p1:List aA):Option (List aA):=
 (jh N p0 p1<|ir N).bind λj=>some j
def iu(N:Nat)(p0:List aA)(p1:List aA):Option Bool:=
 (fZ N p0 p1).bind λj=>some<|(j.length:Int)==0
def gv(N:Nat)(p0:bX)(p1:Slot):Option j9:=
 (eO N p0 p1.dG).bind λo=>(idx p0.dP o).bind λj=>(bif p1.aM==1 then some {p1.At with X:=wrap .i64<|p1.At.X+j.H}else((bif p1.aM==2 then some {{p1.At with X:=wrap .i64<|p1.At.X+j.W}with Y:=wrap .i64<|p1.At.Y+j.H}else((bif p1.aM==3 then some {p1.At with Y:=wrap .i64<|p1.At.Y+j.W}else some p1.At).bind λaa=>some aa)).bind λab=>some ab)).bind λad=>some (⟨false,p1.aM,ad⟩:j9)
def eL(N:Nat)(p0:bA)(p1:j9):Option bA:=
 (bif p1.xH then some {p0 with X:=wrap .i64<|0 - p0.X}else some p0).bind λo=>(kl (λ(j:bA×Int)=>(bif decide (j.2<p1.aM)then some (.nx ({{j.1 with X:=wrap .i64<|0 - j.1.Y}with Y:=j.1.X},wrap .i64<|j.2+1))else(some<|.br (j.1,j.2)):Option (Fl (bA×Int) Empty))) N (o,0)).bind λaa=>aa.cs (λ(j:bA×Int)=>some (⟨wrap .i64<|j.1.X+p1.At.X,wrap .i64<|j.1.Y+p1.At.Y⟩:bA))<|λr=>r.elim
def eA(N:Nat)(p0:aB)(p1:j9):Option aB:=
 (eL N (⟨p0.X0,p0.Y0⟩:bA) p1).bind λj=>(eL N (⟨p0.X1,p0.Y1⟩:bA) p1).bind λo=>some (⟨(if o.X<j.X then o.X else j.X),(if o.Y<j.Y then o.Y else j.Y),(if j.X<o.X then o.X else j.X),(if j.Y<o.Y then o.Y else j.Y)⟩:aB)
def f9(N:Nat)(p0:List aA):Option Int:=
 (ks p0.length (λ(o:Nat)(j:Int)=>((idx p0 (o:Int)).bind λaa=>some (wrap .i64<|j+ wrap .i64 (Int.tdiv (aa.Xs.length:Int) 2)):Option Int)) 0).bind λj=>some j
def iv(N:Nat)(p0:List aA):Option (List aB×Int):=
 (f9 N p0).bind λj=>bif decide (j>2000)then some (([]:List aB),2)else((dH N p0).bind λo=>some (o,0))
def iw(N:Nat)(p0:bX)(p1:fy)(p2:List aB):Option (List aB×Int):=
 (ff N p0).bind λab=>bif ab != 0 then some (([]:List aB),ab)else((eO N p0 p1).bind λo=>bif decide (o<0)then some (([]:List aB),9)else((dE N p2).bind λad=>bif ad != 0 then some (([]:List aB),ad)else((ek N p2).bind λag=>(idx p0.dP o).bind λah=>(idx p0.dP o).bind λai=>(ek N ([(⟨0,0,ah.W,ai.H⟩:aB)]:List aB)).bind λaj=>(iu N ag aj).bind λak=>bif(!ak)then some (([]:List aB),1)else((ks p0.aX.length (λ(al:Nat)(j:List aB)=>((idx p0.aX (al:Int)).bind λae=>(bif ae.dG.mV p1 then((gv N p0 ae).bind λan=>(ks p2.length (λ(ao:Nat)(aa:List aB)=>((idx p2 (ao:Int)).bind λaq=>(eA N aq an).bind λar=>(app 32 aa ([ar]:List aB)).bind λau=>some au:Option (List aB))) j).bind λaa=>some aa)else some j).bind λav=>some av:Option (List aB))) ([]:List aB)).bind λj=>(ek N j).bind λaw=>(iv N aw).bind λaf=>some (af.1,af.2)))))
def iz(N:Nat)(p0:List aB):Option Int:=
 (ks p0.length (λ(aa:Nat)(o:Int)=>((idx p0 (aa:Int)).bind λj=>some (wrap .i64<|o+ wrap .i64 (wrap .i64 (j.X1 - j.X0)* wrap .i64 (j.Y1 - j.Y0))):Option Int)) 0).bind λo=>some o
def gP(N:Nat)(p0:List aB):Option (Int×Int):=
 (dE N p0).bind λj=>bif j != 0 then some (0,j)else((iz N p0).bind λo=>some (o,0))
def cX(N:Nat):Option Bool:=
 (gP N ([(⟨0,0,2,3⟩:aB)]:List aB)).bind λj=>some<|(j.2==0)&&(j.1==6)
def cB(N:Nat)(p0:Int)(p1_0:List Int):Option (Int×List Int):=
 (kl (λ(j:Int×List Int)=>((idx j.2 j.1).bind λaa=>bif aa != j.1 then((idx j.2 j.1).bind λab=>(idx j.2 ab).bind λo=>(idx j.2 j.1).bind λaf=>(idx (j.2.set (Int.toNat j.1) o) j.1).bind λad=>some<|.nx (ad,j.2.set (Int.toNat j.1) o))else(some<|.br (j.1,j.2)):Option (Fl (Int×List Int) Empty))) N (p0,p1_0)).bind λae=>ae.cs (λ(j:Int×List Int)=>some (j.1,j.2))<|λr=>r.elim
def fB(N:Nat)(p0:List aA):Option (List<|List aA):=
 (dH N p0).bind λab=>(mk 8 (0:Int) (ab.length:Int)).bind λan=>(ks an.length (λ(ai:Nat)(ag:List Int)=>((idx ag (ai:Int)).bind λbd=>some (ag.set (Int.toNat (ai:Int)) (ai:Int)):Option (List Int))) an).bind λag=>(ks p0.length (λ(aj:Nat)(aa:List Int×Int×Int)=>((idx p0 (aj:Int)).bind λak=>(bif decide ((aj:Int)>0)then((idx p0<|wrap .i64<|(aj:Int) - 1).bind λar=>some<|ar.Y1==ak.Y0)else some false).bind λau=>(bif au then((kl (λ(j:List Int×Int×Int)=>(bif decide (j.2.1<aa.2.1)&&decide (j.2.2< wrap .i64 (aa.2.1+ wrap .i64 (Int.tdiv (ak.Xs.length:Int) 2)))then(((idx ab j.2.1).bind λav=>(idx ab j.2.2).bind λaw=>bif decide (av.X0<aw.X1)then((idx ab j.2.2).bind λax=>(idx ab j.2.1).bind λay=>some<|decide<|ax.X0<ay.X1)else some false).bind λaz=>(bif az then((cB N j.2.1 j.1).bind λae=>(cB N j.2.2 ae.2).bind λad=>(idx ad.2 (if ae.1<ad.1 then ad.1 else ae.1)).bind λbf=>some<|ad.2.set (Int.toNat (if ae.1<ad.1 then ad.1 else ae.1)) (if ad.1<ae.1 then ad.1 else ae.1))else some j.1).bind λa0=>(idx ab j.2.1).bind λa1=>(idx ab j.2.2).bind λa2=>(bif decide (a1.X1<a2.X1)then some (wrap .i64<|j.2.1+1,j.2.2)else some (j.2.1,wrap .i64<|j.2.2+1)).bind λao=>some<|.nx (a0,ao.1,ao.2))else(some<|.br (j.1,j.2.1,j.2.2)):Option (Fl (List Int×Int×Int) Empty))) N (aa.1,aa.2.2,aa.2.1)).bind λa3=>a3.cs (λ(j:List Int×Int×Int)=>some j.1)<|λr=>r.elim)else some aa.1).bind λa4=>some (a4,wrap .i64<|aa.2.1+ wrap .i64 (Int.tdiv (ak.Xs.length:Int) 2),aa.2.1):Option (List Int×Int×Int))) (ag,0,0)).bind λaa=>(ks ab.length (λ(aq:Nat)(o:List Int×List (Int×Int)×List (List aB))=>((idx ab (aq:Int)).bind λa5=>(cB N (aq:Int) o.1).bind λah=>(bif(!(mA o.2.1 ah.1))then((app 24 o.2.2 [([]:List aB)]).bind λa6=>some (kQ o.2.1 ah.1 (o.2.2.length:Int),a6,(o.2.2.length:Int)))else some (o.2.1,o.2.2,nS o.2.1 ah.1 (0:Int))).bind λaf=>(idx af.2.1 af.2.2).bind λa7=>(app 32 a7 ([a5]:List aB)).bind λa8=>(idx af.2.1 af.2.2).bind λbg=>some (ah.2,af.1,af.2.1.set (Int.toNat af.2.2) a8):Option (List Int×List (Int×Int)×List (List aB)))) (aa.1,([]:List (Int×Int)),([]:List (List aB)))).bind λo=>(ks o.2.2.length (λ(a9:Nat)(al:List (List aA))=>((idx o.2.2 (a9:Int)).bind λba=>(ek N ba).bind λbb=>(app 24 al ([bb]:List (List aA))).bind λbc=>some bc:Option (List<|List aA))) ([]:List (List aA))).bind λal=>some al
def gw(N:Nat)(p0:List aB):Option (List (List aB)×Int):=
 (dE N p0).bind λo=>bif o != 0 then some (([]:List (List aB)),o)else((ek N p0).bind λab=>(fB N ab).bind λaa=>(ks aa.length (λ(ad:Nat)(j:List (List aB))=>((idx aa (ad:Int)).bind λae=>(dH N ae).bind λaf=>(app 24 j ([af]:List (List aB))).bind λag=>some ag:Option (List<|List aB))) ([]:List (List aB))).bind λj=>some (j,0))
def cQ(N:Nat)(p0:bX)(p1:fy)(p2:List aB):Option Bool:=
 (iw N p0 p1 p2).bind λj=>bif(j.2 != 0)||(p0.lD==0)then((bif j.2==0 then((cX N).bind λaf=>some af)else(bif(j.1.length:Int)==0 then((cX N).bind λag=>some ag)else some false)).bind λah=>some ah)else((ks p0.aX.length (λ(ai:Nat)(o:Int)=>((idx p0.aX (ai:Int)).bind λaj=>(bif aj.dG.mV p1 then some (wrap .i64<|o+1)else some o).bind λak=>some ak:Option Int)) 0).bind λo=>(gP N p2).bind λaa=>(gP N j.1).bind λab=>bif((aa.2 != 0)||(ab.2 != 0))||(wrap .i64 (aa.1*o) != ab.1)then some false else((gw N p2).bind λad=>(gw N j.1).bind λae=>(bif(ad.2==0)&&(ae.2==0)then(bif wrap .i64 ((ad.1.length:Int)*o)==(ae.1.length:Int)then((cX N).bind λal=>some al)else some false)else some false).bind λan=>some an))
end
def rC{R:Type}(m:Nat)(e:Nat->Option R):Option R:=(List.range m).findSome? e
theorem kF{R:Type}{m:Nat}{e:Nat->Option R}:rC m e=none↔∀k,k<m->e k=none:=by
 simp[rC]
theorem lZ{R:Type}{m:Nat}{e:Nat->Option R}{r:R}:rC m e=some r↔∃k,k<m/\e k=some r/\∀j,j<k->e j=none:=by
 constructor
 ·intro h;obtain⟨l1,a,l2,hl,ha,hn⟩:=List.findSome?_eq_some_iff.1 h;have hlen:l1.length<m:=by have:=congrArg List.length hl;grind
  have hget:∀i,i<l1.length->l1[i]? =some i:=λi hi=>by
   have:=congrArg (·[i]?) hl
   grind
  have hat:a=l1.length:=by
   have:=congrArg (·[l1.length]?) hl
   grind
  grind
 ·rintro⟨k,hk,he,hn⟩;refine List.findSome?_eq_some_iff.2 ⟨List.range k,k,(List.range<|m - k - 1).map (· +(k+1)),?_,he,λx hx=>hn x<|List.mem_range.1 hx⟩;refine List.ext_getElem? λi=>?_
  by_cases h1:i<k
  ·grind
  ·rw[eX (by grind),List.length_range]
   by_cases h2:i=k
   all_goals grind
section
variable {S R:Type}
def vf(o:Option R)(s:S):Fl S R:=match o with|some r=> .rt r|none=> .nx s
def vg(o:Option R)(s:S):Fo S R:=match o with|some r=> .rt r|none=> .go s
theorem sV{body:Nat->S->Option (Fl S R)}(F:Nat->S)(e:Nat->Option R)(m:Nat):∀(n k:Nat),k+n=m->
  (∀j,k<=j->j<m->(∀i,k<=i->i<j->e i=none)->body j (F j)=some (vf (e j)<|F<|j+1))->
  ∃o,rf body n k (F k)=some o/\((∀j,k<=j->j<m->e j=none)/\o = .go (F m)\/∃j r,k<=j/\j<m/\e j=some r/\(∀i,k<=i->i<j->e i=none)/\o = .rt r)
 | 0,k,hk,_=>⟨_,rfl, .inl ⟨λj h1 h2=>by omega,by grind⟩⟩
 |n+1,k,hk,h=>by
  have hb:=h k (bB _) (by omega) (λi h1 h2=>by omega);unfold rf;rw[hb]
  cases hx:e k with
  |some r=>exact⟨_,rfl, .inr ⟨k,r,bB _,by omega,hx,λi h1 h2=>by omega,rfl⟩⟩
  |none=>
   obtain⟨o,ho,hc⟩:=sV F e m n (k+1) (by omega) (λj h1 h2 h3=>h j (by omega) h2 λi h4 h5=>by
    grind)
   refine⟨o,ho,?_⟩
   rcases hc with⟨h1,h2⟩|⟨j,r,h1,h2,h3,h4,h5⟩
   ·refine .inl ⟨λj h3 h4=>?_,h2⟩
    by_cases h6:j=k
    ·subst h6;exact hx
    ·exact h1 j (by omega) h4
   ·refine .inr ⟨j,r,by omega,h2,h3,λi h6 h7=>?_,h5⟩
    by_cases h8:i=k
    ·subst h8;exact hx
    ·exact h4 i (by omega) h7
theorem xR{body:Nat->S->Option (Fl S R)}{m:Nat}{s:S}(F:Nat->S)(e:Nat->Option R)(hm:m<=4611686018427387904)(hs:F 0=s)
  (h:∀k,k<m->(∀i,i<k->e i=none)->body k (F k)=some (vf (e k)<|F<|k+1)):lz m body s=some (vg (rC m e)<|F m):=by
 subst hs;unfold lz;rw[aG hm];obtain⟨o,ho,hc⟩:=sV F e m m 0 (by omega)<|λj _ h2 h3=>h j h2 λi hi=>h3 i (kd _) hi
 rw[ho]
 rcases hc with⟨h1,h2⟩|⟨j,r,_,h2,h3,h4,h5⟩
 ·rw[kF.2 λk hk=>h1 k (kd _) hk,h2];rfl
 ·rw[lZ.2 ⟨j,h2,h3,λi hi=>h4 i (kd _) hi⟩,h5];rfl
theorem pE{body:Nat->Unit->Option (Fl Unit R)}{m:Nat}(e:Nat->Option R)(hm:m<=4611686018427387904)
  (h:∀k,k<m->(∀i,i<k->e i=none)->body k ()=some (vf (e k) ())):lz m body ()=some (vg (rC m e) ()):=
 xR (λ_=>()) e hm rfl h
theorem sW{body:Nat->S->Option S}(F:Nat->S):∀(n k:Nat),(∀j,k<=j->j<k+n->body j (F j)=some (F<|j+1))->tJ body n k (F k)=some (F<|k+n)
 | 0,_,_=>rfl
 |n+1,k,h=>by
  unfold tJ;rw[h k (bB _) (by omega)];have:=sW F n (k+1)<|λj h1 h2=>h j (by omega) (by omega)
  rw[show k+(n+1)=k+1+n by omega];exact this
theorem rD{body:Nat->S->Option S}{m:Nat}{s:S}(F:Nat->S)(hm:m<=4611686018427387904)(hs:F 0=s)
  (h:∀k,k<m->body k (F k)=some (F<|k+1)):ks m body s=some (F m):=by
 subst hs
 simp_all[ks,aG,sW,eN]
theorem rE{body:S->Option (Fl S R)}(Inv:S->Prop)(μ:S->Nat)(Go:S->Prop)(Rt:R->Prop)
  (h:∀s,Inv s->∃fl,body s=some fl/\match fl with| .nx s'=>Inv s'/\μ s'<μ s| .br s'=>Go s'| .rt r=>Rt r):
  ∀(N:Nat)(s:S),Inv s->μ s<N->∃o,kl body N s=some o/\match o with| .go s'=>Go s'| .rt r=>Rt r
 | 0,s,_,hn=>by omega
 |N+1,s,hi,hn=>by
  obtain⟨fl,hb,hf⟩:=h s hi;unfold kl;rw[hb]
  cases fl with
  |nx s'=>exact rE Inv μ Go Rt h N s' hf.1 (by have:=hf.2;omega)
  |br s'=>exact⟨_,rfl,hf⟩
  |rt r=>exact⟨_,rfl,hf⟩
theorem sX{body:Nat->S->Option (Fl S R)}(Inv:Nat->S->Prop)(Go:S->Prop)(Rt:R->Prop)(m:Nat)
  (h:∀k s,k<m->Inv k s->∃fl,body k s=some fl/\match fl with| .nx s'=>Inv (k+1) s'| .br s'=>Go s'| .rt r=>Rt r) (hg:∀s,Inv m s->Go s):
  ∀(n k:Nat)(s:S),k+n=m->Inv k s->∃o,rf body n k s=some o/\match o with| .go s'=>Go s'| .rt r=>Rt r
 | 0,k,s,hk,hi=>⟨_,rfl,hg s (by rw[<-hk];exact hi)⟩
 |n+1,k,s,hk,hi=>by
  obtain⟨fl,hb,hf⟩:=h k s (by omega) hi;unfold rf;rw[hb]
  cases fl with
  |nx s'=>exact sX Inv Go Rt m h hg n (k+1) s' (by omega) hf
  |br s'=>exact⟨_,rfl,hf⟩
  |rt r=>exact⟨_,rfl,hf⟩
theorem xS{body:Nat->S->Option (Fl S R)}{m:Nat}{s:S}(Inv:Nat->S->Prop)(Go:S->Prop)(Rt:R->Prop)(hm:m<=4611686018427387904)(h0:Inv 0 s)
  (h:∀k s,k<m->Inv k s->∃fl,body k s=some fl/\match fl with| .nx s'=>Inv (k+1) s'| .br s'=>Go s'| .rt r=>Rt r) (hg:∀s,Inv m s->Go s):
  ∃o,lz m body s=some o/\match o with| .go s'=>Go s'| .rt r=>Rt r:=by
 unfold lz;rw[aG hm];exact sX Inv Go Rt m h hg m 0 s (by omega) h0
theorem sY{body:Nat->S->Option S}(Inv:Nat->S->Prop)(m:Nat)(h:∀k s,k<m->Inv k s->∃s',body k s=some s'/\Inv (k+1) s'):
  ∀(n k:Nat)(s:S),k+n=m->Inv k s->∃s',tJ body n k s=some s'/\Inv m s'
 | 0,k,s,hk,hi=>⟨_,rfl,by grind⟩
 |n+1,k,s,hk,hi=>by
  obtain⟨s',hb,hf⟩:=h k s (by omega) hi;unfold tJ;rw[hb];exact sY Inv m h n (k+1) s' (by omega) hf
theorem uF{body:Nat->S->Option S}{m:Nat}{s:S}(Inv:Nat->S->Prop)(hm:m<=4611686018427387904)(h0:Inv 0 s)
  (h:∀k s,k<m->Inv k s->∃s',body k s=some s'/\Inv (k+1) s'):∃s',ks m body s=some s'/\Inv m s':=by
 simp_all[ks,aG,sY]
end
section
variable {α β:Type}
theorem aC(x:α)(f:α->Option β):(some x).bind f=f x:=rfl
theorem jC(l:List α)(k:Nat)(h:k<l.length):idx l ((k:Nat):Int)=some l[k]:=by
 unfold idx;simp
theorem jT{l:List α}{k:Nat}{x:α}(h:l[k]? =some x):idx l ((k:Nat):Int)=some x:=by
 grind [idx,dK]
theorem wA(s:fy)(k:Nat)(h:k<s.hL.length):yx s ((k:Nat):Int)=some s.hL[k]:=by
 unfold yx;simp
theorem iU{k:Nat}(h:0<k)(hk:k<=4611686018427387904):wrap .i64 (((k:Nat):Int) - 1)=((k - 1:Nat):Int):=by
 grind [cA]
theorem pF(l:List α)(k:Nat)(h:k<=l.length):mZ l 0 ((k:Nat):Int)=some (l.take k):=by
 unfold mZ;grind
theorem nd(l:List α)(k:Nat)(h:k<=l.length):mZ l ((k:Nat):Int) ((l.length:Nat):Int)=some (l.drop k):=by
 grind [mZ,dK,Option.some.injEq,lX,gH]
theorem iF{b:Nat}{l ys:List α}(h:(l.length+ys.length)*b<=140737488355328):app b l ys=some (l++ys):=by grind [app]
theorem xT{b:Nat}(z:α){n:Nat}(h:n*b<=140737488355328):mk b z ((n:Nat):Int)=some (List.replicate n z):=by
 unfold mk
 grind
end
theorem fy.ext'{a b:fy}(h:a.hL=b.hL):a=b:=by cases a;simp_all
theorem rF{a b:fy}:a.mV b=true↔a=b:=by
 grind [fy.mV,fy.ext']
theorem ox:∀(a:List UInt8),Op.bytesLess a a=false
 | []=>rfl
 |a::l=>by
  unfold Op.bytesLess;rw[ox l];simp
def fy.lt(a b:fy):Prop:=a.vM b=true
theorem fy.lt_irrefl(a:fy):¬fy.lt a a:=by simp[fy.lt,fy.vM,ox,decide]
theorem fy.yn{a b:fy}(h:fy.lt a b):a≠b:=by grind [fy.lt_irrefl]
end Go.Gk
namespace Go.Gk
open Go IntKind
class Bk (α:Type)where
 bk:α->Nat
 pos:∀x,1<=bk x
def bk{α:Type}[Bk α](x:α):Nat:=Bk.bk x
theorem wB{α:Type}[Bk α](x:α):1<=bk x:=Bk.pos x
instance:Bk fy:=⟨λs=>s.hL.length+1,λ_=>by omega⟩
instance:Bk Int:=⟨λ_=>1,λ_=>by omega⟩
instance:Bk Bool:=⟨λ_=>1,λ_=>by omega⟩
instance {α:Type} [Bk α]:Bk (List α):=⟨λl=>(l.map bk).sum+1,λ_=>by omega⟩
theorem wC{α:Type}[Bk α]:bk ([]:List α)=1:=rfl
theorem rG{α:Type}[Bk α](x:α)(l:List α):bk (x::l)=bk x+bk l:=by
 rfl
theorem wD{α:Type}[Bk α]:∀{l:List α}{x:α},x∈l->bk x+1<=bk l
 |y::l,x,h=>by
  rw[rG]
  rcases eE.1 h with h|h
  ·subst h;have:=wB l;omega
  ·have:=wD h;omega
theorem pG{α:Type}[Bk α]:∀(l:List α),l.length+1<=bk l
 | []=>by rw[wC];simp
 |x::l=>by rw[rG,g9];have:=pG l;have:=wB x;omega
theorem yZ(s:fy):bk s=s.hL.length+1:=rfl
section
variable {α R:Type}
theorem vh{l:List α}{e:Nat->Option R}(f:α->Option R)(h:∀k x,l[k]? =some x->e k=f x):rC l.length e=l.findSome? f:=by
 cases hx:rC l.length e with
 |none=>
  grind [List.findSome?_eq_none_iff,eZ,kF,aV]
 |some r=>
  obtain⟨k,hk,he,hn⟩:=lZ.1 hx;refine(List.findSome?_eq_some_iff.2 ⟨l.take k,l[k],l.drop<|k+1,?_,?_,λy hy=>?_⟩).symm
  ·simp
  ·grind
  grind [eZ,aV,cV,List.getElem?_take_of_lt]
theorem wE{l:List α}{body:Nat->Unit->Option (Fl Unit R)}(f:α->Option R)(hl:l.length<=4611686018427387904)
  (h:∀k x,l[k]? =some x->body k ()=some (vf (f x) ())):lz l.length body ()=some (vg (l.findSome? f) ()):=by
 have h2:=pE (body:=body) (m:=l.length) (λk=>(l[k]?).bind f) hl (λk hk _=>by
  grind)
 grind [vh]
end
theorem xU{β:Type}(b:Bool)(x y:β):(bif b then some x else some y)=some (bif b then x else y):=by grind
section
variable {α β:Type}
def y2(l:List α)(p:α->Bool):Int:=match l.findIdx? p with|some k=>((k:Nat):Int)|none=> -1
theorem l3(l:List α)(p:α->Bool):(y2 l p = -1/\∀x∈l,p x=false)\/∃k x,y2 l p=((k:Nat):Int)/\l[k]? =some x/\p x=true/\∀j y,j<k->l[j]? =some y->p y=false:=by
 unfold y2
 cases h:l.findIdx? p with
 |none=>grind
 |some k=>
  grind [List.findIdx?_eq_some_iff_getElem,aO]
theorem wF(l:List α)(p:α->Bool):decide (y2 l p>=0)=l.any p:=by
 grind [l3,List.any_eq_false,decide,i5,dX]
def jU(p0:List α)(p1:α->Option Bool):Option Int:=
 (lz p0.length (λ(k1:Nat)(_:Unit)=>((idx p0 ((k1:Nat):Int)).bind λx7=>(p1 x7).bind λx10=>bif x10 then some (.rt ((k1:Nat):Int))else(some<|.nx ()):Option (Fl Unit Int))) ()).bind λo11=>o11.cs (λ(_:Unit)=>some<|-1)<|λr=>some r
theorem jd{l:List α}{φ:α->Option Bool}(p:α->Bool)(hl:l.length<=4611686018427387904)(h:∀x∈l,φ x=some (p x)):jU l φ=some (y2 l p):=by
 unfold jU
 rw[pE (λk=>(l[k]?).bind λx=>if p x=true then some ((k:Nat):Int)else none) hl (λk hk _=>by
  grind [jC,aC,dO,aO,vf]),aC]
 grind [l3,kF,aO,dO,vg,Fo.cs,lZ,aV]
def mu(p0:List α)(p1:α->Option Bool):Option Bool:=
 (jU p0 p1).bind λx1=>some<|decide<|x1>=0
theorem kG{l:List α}{φ:α->Option Bool}(p:α->Bool)(hl:l.length<=4611686018427387904)(h:∀x∈l,φ x=some (p x)):mu l φ=some (l.any p):=by
 simp_all[mu,jd,aC,wF]
def wG [DecidableEq α](p0:List α)(p1:α):Option Int:=
 (lz p0.length (λ(k2:Nat)(_:Unit)=>((idx p0 ((k2:Nat):Int)).bind λx12=>bif decide (p1=x12)then some (.rt ((k2:Nat):Int))else(some<|.nx ()):Option (Fl Unit Int))) ()).bind λo18=>o18.cs (λ(_:Unit)=>some<|-1)<|λr=>some r
theorem vj [DecidableEq α]{l:List α}{a:α}(hl:l.length<=4611686018427387904):wG l a=some (y2 l<|λx=>decide<|a=x):=by
 have:=jd (l:=l) (φ:=λx=>some<|decide<|a=x) (λx=>decide<|a=x) hl<|λ_ _=>rfl
 rw[<-this];rfl
def qO [DecidableEq α](p0:List α)(p1:α):Option Bool:=(wG p0 p1).bind λx3=>some<|decide<|x3>=0
theorem rH [DecidableEq α]{l:List α}{a:α}(hl:l.length<=4611686018427387904):qO l a=some (decide<|a∈l):=by
 grind [qO,vj,aC,wF,Option.some.injEq]
def t5 [DecidableEq α](p0 p1:List α):Option Bool:=
 bif((p0.length:Nat):Int) != ((p1.length:Nat):Int)then some false else((lz p0.length (λ(k1:Nat)(_:Unit)=>((idx p0 ((k1:Nat):Int)).bind λx13=>(idx p1 ((k1:Nat):Int)).bind λx16=>bif(!(decide<|x13=x16))then some (.rt false)else(some<|.nx ()):Option (Fl Unit Bool))) ()).bind λo23=>o23.cs (λ(_:Unit)=>some true)<|λr=>some r)
theorem qP [DecidableEq α]{l m:List α}(hl:l.length<=4611686018427387904):t5 l m=some (decide<|l=m):=by
 unfold t5
 by_cases h:l.length=m.length
 ·have e:(((l.length:Nat):Int) != ((m.length:Nat):Int))=false:=by rw[h];simp
  rw[e,bN]
  rw[pE (λk=>if l[k]? =m[k]? then none else some false) hl (λk hk _=>by
   grind [jC,aC,aO,vf]),aC]
  by_cases hx:l=m
  ·grind [kF,vg,Fo.cs]
  ·have:∃r,rC l.length (λk=>if l[k]? =m[k]? then none else some false)=some r:=by
    cases hf:rC l.length (λk=>if l[k]? =m[k]? then none else some false)with
    |some r=>simp
    |none=>
     exfalso;refine hx<|List.ext_getElem? λi=>?_
     grind [kF,List.getElem?_eq_none]
   grind [lZ,vg,Fo.cs]
 ·have e:(((l.length:Nat):Int) != ((m.length:Nat):Int))=true:=by simp;omega
  rw[e,aW,cP<|λh'=>h (by rw[h'])]
def wH(key:α->fy)(l:List α):Prop:=∀(i j:Nat)(x y:α),i<j->l[i]? =some x->l[j]? =some y->fy.lt (key x) (key y)
theorem wH.inj{key:α->fy}{l:List α}(h:wH key l){i j:Nat}{x y:α}(hx:l[i]? =some x)(hy:l[j]? =some y)(e:key x=key y):i=j:=by
 rcases Nat.lt_trichotomy i j with h1|h1|h1
 ·exact absurd e<|fy.yn<|h i j x y h1 hx hy
 ·exact h1
 ·exact absurd e.symm<|fy.yn<|h j i y x h1 hy hx
def wI(key:α->fy)(l:List α)(k:Nat):Bool:=match l[k]?,l[k - 1]? with|some x,some y=>decide (0<k)&&((key x).vM (key y)||(key x).mV (key y))|_,_=>false
theorem y3(key:α->fy){l:List α}{k:Nat}{x:α}(hx:l[k]? =some x)(hl:l.length<=1048576):
  (bif decide (((k:Nat):Int)>0)then((idx l<|wrap .i64<|((k:Nat):Int) - 1).bind λy=>some<|(key x).vM (key y)||(key x).mV (key y))else some false)=some (wI key l k):=by
 grind [aV,wI,cS,iU,jC,aC,aO]
end
end Go.Gk
namespace Go.Gk
open Go IntKind Go.ChangeShapes Go.WideShapes Go.RowKit
structure UB (ub:(H:Type)->DataW H->Nat) (ua:(H:Type)->List (DataW H)->Nat):Prop where
 str:∀(H:Type)(b:List UInt8),ub H (.lit<|.string b)=b.length+1
 pos:∀(H:Type)(d:DataW H),1<=ub H d
 sl:∀(H:Type)(e s:List (DataW H)),ub H (.slice e s)=ua H e+ua H s+1
 ag:∀(H:Type)(l:List (DataW H)),ub H (.agg l)=ua H l+1
 nil:∀(H:Type),ua H []=0
 cons:∀(H:Type)(x:DataW H)(l:List (DataW H)),ua H (x::l)=ub H x+ua H l
def Hw(w:World):bV:=λb=>w.heap[b]?
structure fq (ub:(H:Type)->DataW H->Nat) (P:Program) (T:TypeId) (α:Type) [GT α] [Bk α]:Prop where
 trod:∀{H:Type}{enc:TypeId×Value->H}{w:World}{base:Nat}{spare:Nat->Bool}{held:Bool}{fuel:Nat}{cs:List Value}{d:DataW H×List MemPlace},
  DataW.trod enc P w base spare held fuel T cs=some d->∃x:α,GT.ok (Hw w) cs x/\bk x<=ub H d.1
 Ac:∀{w:World}{r:Reach}{base:Nat}{v:Value},Value.okWide P w r base T v->v=nN α v.cells.toList
section
variable {ub:(H:Type)->DataW H->Nat}{ua:(H:Type)->List (DataW H)->Nat}{P:Program}{T e:TypeId}
theorem vk(u:UB ub ua)(ht:P.underlying T=some (.int .i64)):fq ub P T Int where
 trod:=λh=>by
  obtain⟨n,rfl,rfl,_⟩:=DataW.trod_int ht h;exact⟨n,rfl,u.pos _ _⟩
 Ac:=λh=>by obtain⟨n,rfl⟩:=okWide_int ht h;rfl
theorem vl(u:UB ub ua)(ht:P.underlying T=some .string):fq ub P T fy where
 trod:=λh=>by
  obtain⟨s,rfl,rfl,_⟩:=DataW.trod_string ht h;refine⟨⟨s.data.toList⟩,?_,?_⟩
  ·show [Value.string s]= [Gk.str ⟨s.data.toList⟩]
   cases s;rfl
  ·rw[u.str];exact bB _
 Ac:=λh=>by obtain⟨n,rfl⟩:=okWide_string ht h;rfl
theorem oy{α:Type}{R:Nat->α->Prop}:∀(n:Nat),(∀i,i<n->∃x,R i x)->∃l:List α,l.length=n/\∀i x,l[i]? =some x->R i x
 | 0,_=>⟨[],rfl,λi x h=>by simp at h⟩
 |n+1,h=>by
  obtain⟨l,h1,h2⟩:=oy n<|λi hi=>h i (by omega)
  obtain⟨x,hx⟩:=h n (by omega);refine⟨l++[x],by simp[h1],λi y hy=>?_⟩
  by_cases hi:i<n
  ·rw[fP (by omega)]at hy;exact h2 i y hy
  ·have:=(aV.1 hy).1;rw[dL]at this;have:i=n:=by simp at this;omega
   subst this;rw[eX (by omega),h1]at hy;simp at hy;subst hy;exact hx
theorem qQ{H α:Type}[Bk α](u:UB ub ua):∀{l:List α}{es:List (DataW H×List MemPlace)},l.length=es.length->
  (∀(i:Nat)(x:α)(y:DataW H×List MemPlace),l[i]? =some x->es[i]? =some y->bk x<=ub H y.1)->bk l<=ua H (es.map (·.1))+1
 | [],[],_,_=>by rw[wC];omega
 |x::l,y::es,hl,h=>by
  have h1:=h 0 x y rfl rfl;have h2:=qQ (H:=H) u (l:=l) (es:=es) (by simpa using hl)<|λi x y hx hy=>h (i+1) x y (by simpa using hx) (by simpa using hy)
  rw[rG,ee,u.cons];omega
theorem sZ{w:World}{base:Nat}{a:Addr}{n:Nat}{cs:List Value}(h:w.cells? base a n=some cs):At (Hw w) a cs:=by
 intro j v hv;obtain⟨_,hlen,hc⟩:=World.cells?_some h;have hj:=(aV.1 hv).1;have h2:=hc j (by omega);rw[hv]at h2;unfold mW Hw;unfold World.cell? at h2;exact h2
theorem k6{α:Type}[GT α][Bk α](u:UB ub ua)(he:fq ub P e α)(ht:P.underlying T=some (.slice e):=by kernel_rfl)(hc:P.cellsOf e=GT.sz α:=by kernel_rfl):fq ub P T (List α)where
 trod:=λ{H enc w base spare held fuel cs d}h=>by
  rcases DataW.trod_slice ht h with⟨rfl,rfl⟩|⟨a,len,cap,elems,rest,n,_,rfl,rfl,_,hlc,hcm,hlen,hel,_⟩
  ·exact⟨[],⟨_,rfl,none,0,0,rfl,rfl,bB _,by simp[maxLen],λi x hx=>by simp at hx⟩,u.pos _ _⟩
  ·have each:∀i,i<len->∃x:α,(∃c y,GT.ok (Hw w) c x/\At (Hw w) (a.add<|i*GT.sz α) c/\elems[i]? =some y/\bk x<=ub H y.1):=by
    intro i hi;have h1:=hel i hi;rw[aO (by omega:i<elems.length),Option.bind_eq_some_iff]at h1;obtain⟨c,h2,h3⟩:=h1;obtain⟨x,h4,h5⟩:=he.trod h3;refine⟨x,c,_,h4,?_,aO (by omega),h5⟩;rw[hc]at h2;exact sZ h2
   obtain⟨l,hl,hr⟩:=oy len each;refine⟨l,⟨_,rfl,some a,len,cap,rfl,hl.symm,hlc,hcm,λi x hx=>?_⟩,?_⟩
   ·obtain⟨c,y,h1,h2,_⟩:=hr i x hx;exact⟨a,c,rfl,h1,h2⟩
   ·have:=qQ (H:=H) u (l:=l) (es:=elems) (by omega) (λi x y hx hy=>by
     obtain⟨c,y',_,_,h3,h4⟩:=hr i x hx
     rw[hy]at h3;injection h3 with h3;subst h3;exact h4)
    rw[u.sl];omega
 Ac:=λh=>by obtain⟨a,n,c,rfl⟩:=okWide_slice ht h;rfl
def uG(ub:(H:Type)->DataW H->Nat)(ua:(H:Type)->List (DataW H)->Nat)(P:Program)(off:Nat)(fs:List Field)(β:Type)[GT β](m:β->Nat):Prop:=
 ∀{H:Type}{enc:TypeId×Value->H}{w:World}{base:Nat}{spare:Nat->Bool}{held:Bool}{n:Nat}{cs:List Value}{ys:List (DataW H×List MemPlace)},
  (∀(i:Nat)(f:Field),fs[i]? =some f->DataW.trod enc P w base spare held n f.type ((cs.drop f.offset).take<|P.cellsOf f.type)=ys[i]?)->ys.length=fs.length->
  cs.length=off+GT.sz β->∃x:β,GT.ok (Hw w) (cs.drop off) x/\m x<=ua H (ys.map (·.1))
theorem kH{β:Type}[GT β][Bk β]{off:Nat}{f:Field}(u:UB ub ua)(h:fq ub P f.type β)(ho:f.offset=off)(hc:P.cellsOf f.type=GT.sz β:=by kernel_rfl):uG ub ua P off [f] β bk:=by
 intro H enc w base spare held n cs ys hf hl hcs
 match ys,hl with
 | [y],_=>
  have h1:=hf 0 f rfl;rw[ho,hc,lX (by rw[gH];omega)]at h1;obtain⟨x,h2,h3⟩:=h.trod (d:=y) h1;exact⟨x,h2,by rw[ee,u.cons];omega⟩
theorem dF{α β:Type}[GT α][GT β][Bk α]{off off':Nat}{f:Field}{fs:List Field}{m:β->Nat}(u:UB ub ua)(h:fq ub P f.type α)(hr:uG ub ua P off' fs β m)(ho:f.offset=off:=by exact rfl)(hc:P.cellsOf f.type=GT.sz α:=by kernel_rfl)(hoff:off'=off+GT.sz α:=by exact rfl):uG ub ua P off (f::fs) (α×β) (λx=>bk x.1+m x.2):=by
 intro H enc w base spare held n cs ys hf hl hcs;have hsz:GT.sz (α×β)=GT.sz α+GT.sz β:=rfl
 match ys,hl with
 |y::ys,hl=>
  have h1:=hf 0 f rfl;rw[ho,hc]at h1;obtain⟨x,h2,h3⟩:=h.trod (d:=y) h1;obtain⟨x',h4,h5⟩:=hr (n:=n) (cs:=cs) (ys:=ys) (λi g hg=>hf (i+1) g hg) (by simpa using hl) (by omega);refine⟨(x,x'),⟨_,_,?_,h2,h4⟩,?_⟩
  ·rw[hoff,<-List.drop_drop,List.take_append_drop]
  ·rw[ee,u.cons];show bk x+m x'<=_;omega
theorem iG{γ β:Type}[GT β][Bk γ]{fs:Array Field}{m:β->Nat}(u:UB ub ua)(f:γ->β)(g:β->γ)(hfg:∀b,f (g b)=b)(ht:P.underlying T=some (.struct fs))(h:uG ub ua P 0 fs.toList β m)(hm:∀b,bk (g b)<=m b+1)(hc:P.cellsOf T=GT.sz β:=by kernel_rfl): @fq ub P T γ (GT.via f) _:=
 @fq.mk ub P T γ (GT.via f) _
  (λ{H enc w base spare held fuel cs d}hd=>by
   obtain⟨xs,n,_,rfl,hl,hlen,hf⟩:=DataW.trod_struct ht hd;obtain⟨b,h1,h2⟩:=h (n:=n) (cs:=cs) (ys:=xs) (λi g hg=>hf i g (by rw[<-Array.getElem?_toList];exact hg)) (by rw[hlen];simp) (by omega);refine⟨g b,?_,?_⟩
   ·show GT.ok (Hw w) cs (f<|g b);rw[hfg];exact h1
   ·rw[u.ag];have:=hm b;omega)
  (λhv=>by
   obtain⟨cs,rfl,_⟩:=okWide_struct ht hv
   cases cs;rfl)
theorem fq.arg{H:Type}{enc:TypeId×Value->H}{w:World}{base:Nat}{spare:Nat->Bool}{held:Bool}{r:Reach}{b0:Nat}{v:Value}{d:DataW H}{ps:List MemPlace}{α:Type}[GT α][Bk α](o:fq ub P T α)
  (hv:Value.okWide P w r b0 T v) (hd:DataW.Trod enc P w base spare held T v d ps):∃x:α,my (Hw w) v x/\bk x<=ub H d:=by
 obtain⟨fuel,hf⟩:=hd;obtain⟨x,h1,h2⟩:=o.trod hf;exact⟨x,⟨_,o.Ac hv,h1⟩,h2⟩
theorem fq.Bc{H:Type}{enc:TypeId×Value->H}{w:World}{base:Nat}{spare:Nat->Bool}{held:Bool}{r:Reach}{b0:Nat}{v:Value}{d:DataW H}{ps:List MemPlace}{α:Type}[Sc α][Bk α](o:fq ub P T α)
  (hv:Value.okWide P w r b0 T v) (hd:DataW.Trod enc P w base spare held T v d ps):∃x:α,v=Sc.toV x/\bk x<=ub H d:=by
 obtain⟨x,h1,h2⟩:=o.arg hv hd;exact⟨x,q9.1 h1,h2⟩
end
theorem Calls.fin{P:Program}{f:FuncId}{args:Array Value}{w:World}{R Q:Value->World->Prop}(h:Calls P f args w (fR R))(k:∀v w',R v w'->Q v w'):
  Calls P f args w (λe W'=>∃v,e = .returned v/\Q v W'):=Calls.mono h λ_ w'⟨v,e,hr⟩=>⟨v,e,k v w' hr⟩
def fD(W:World):HP:=⟨λM h=>hle (Hw W) M/\h=j7,λk⟨a,b⟩=>⟨uU a k,b⟩⟩
theorem Holds.begin(W:World):Holds W W [fD W]:=by
 refine⟨Hw W,λ_=>j7,⟨rfl,rfl,rfl,bB _,λb o h=>h,λi Pr hq=>?_,λ_ _ _ _ h=>(by cases h),λ_ _ _ _ h=>(by cases h),λ_ _ _ _ _ _ _ h=>(by cases h)⟩⟩
 match i,hq with
 | 0,hq=>simp at hq;subst hq;exact⟨vP _,rfl⟩
theorem Holds.yo{α:Type}[GT α]{W:World}{V:List HP}{v:Value}{x:α}(h:Holds W W (V++[fD W]))(hv:Gk.my (Hw W) v x):Holds W W (rd v x::(V++[fD W])):=
 h.q8 λM hs g=>by
  have h1:=(g.sat V.length (fD W) (by simp)).1;exact⟨hv.mono h1,rfl⟩
theorem Holds.kept{E W w:World}{V:List HP}(h:Holds E w (V++[fD W]))(he:E=W):Below W.heap.size W w:=by
 subst he;obtain⟨M,hs,g⟩:=h;have h1:=(g.sat V.length (fD E) (by simp)).1;have h2:∀k o,E.heap[k]? =some o->w.heap[k]? =some o:=λk o ho=>g.im k o<|h1 k o ho
 refine⟨g.os,g.tape,g.out,?_,λk hk=>?_⟩
 ·by_cases h0:E.heap.size=0
  ·omega
  ·have h3:=h2 (E.heap.size - 1) _<|dQ (by omega)
   have:=(Array.getElem?_eq_some_iff.1 h3).1;omega
 ·rw[dQ hk];exact h2 k _<|dQ hk
section
variable {H:Type}{enc:TypeId×Value->H}{P:Program}
theorem vm{f:Func}{s:ChangeSpec}{apart fresh handsOn again:Bool}{W W':World}{args:Array Value}{v:Value}{ds gs:List (DataW H)}{before pa pv:List MemPlace}
  (hW:DataW.Whole enc P f.params.toList s.vars apart W args.toList ds gs before)
  (hres:∀(b:Nat)(sp:Nat->Bool)(hd:Bool),DataW.TrodAll enc P W' b sp hd f.resultTypes.toList (v.resultList f.resultTypes.size) (s.fn H<|ds++gs).results [])
  (hargs:∀sp:Nat->Bool,(∀p∈before,sp p.block=true)->DataW.TrodAll enc P W' 0 sp true f.params.toList args.toList (s.fn H<|ds++gs).args pa)
  (hvars:∀sp:Nat->Bool,(∀p∈before,sp p.block=true)->DataW.TrodVars enc P W' sp s.vars (s.fn H<|ds++gs).vars pv)
  (hps:before=pa++pv) (hb:Below W.heap.size W W')
  (hok:∀(j:Nat)(t:TypeId)(r:Value),f.resultTypes[j]? =some t->(v.resultList f.resultTypes.size)[j]? =some r->Value.okWide P W' .any 0 t r):
  s.post enc P f apart fresh handsOn again W args v W':=by
 have hlt:∀p∈before,p.block<W.heap.size:=λp hp=>hW.lt p hp;have hold:∀p∈before,(λb=>decide<|b<W.heap.size) p.block=true:=λp hp=>by simpa using hlt p hp
 refine⟨ds,gs,before,[],pa,pv,hW,hres _ _ _,hargs _ hold,hvars _ hold,World.keptBut_mono (λp hp=>⟨hp,?_⟩)<|hb.frame (· ∈before),λ_=>?_⟩
 ·rw[hps,dA]at hp;exact Or.inr hp
 ·obtain⟨_,_,_,_,_,hz,hn⟩:=hW;refine⟨hok,_,_,([]++pa)++pv,⟨[]++pa,pv,trodAll_append (hargs _<|λ_ _=>rfl)<|hres _ _ _,hvars _<|λ_ _=>rfl,rfl,?_,?_⟩,?_⟩
  ·intro b off hp;have hin:MemPlace.cell b off∈before:=by rw[hps];simpa using hp
   rw[hb.frozen<|hlt _ hin];exact hz b off hin
  ·intro ha;have:=hn ha;rw[hps]at this;simpa using this
  ·intro p hp _;rw[hps];simpa using hp
theorem mw{W W':World}(hl:laidOutB P=true)(hb:Below W.heap.size W W'){sp:Nat->Bool}:∀{ts:List TypeId}{vs:List Value}{ds:List (DataW H)}{ps:List MemPlace},
  (∀t∈ts,P.readableRec t=true/\t<P.types.size)->DataW.TrodAll enc P W 0 (λ_=>true) true ts vs ds ps->(∀p∈ps,p.block<W.heap.size)->(∀p∈ps,sp p.block=true)->DataW.TrodAll enc P W' 0 sp true ts vs ds ps
 | [],_,_,_,_,h,_,_=>by
  obtain⟨rfl,rfl,rfl⟩:=trodAll_nil h;rfl
 |t::ts,_,_,_,ht,h,hlt,hsp=>by
  obtain⟨v,vs,d,ds,p,q,rfl,rfl,rfl,h1,h2⟩:=trodAll_cons h;refine⟨p,q,?_,mw hl hb (λt h=>ht t (by simp[h])) h2 (λx hx=>hlt x (by simp[hx]))<|λx hx=>hsp x (by simp[hx]),rfl⟩;exact WideElems.Trod_stays hl (ht t (by simp)).1 (ht t (by simp)).2 h1 (λx hx=>hb.same<|hlt x (by simp[hx]))<|λx hx=>hsp x (by simp[hx])
end
end Go.Gk
namespace Go.Gk
open Go IntKind
instance:Bk bG:=⟨λx=>bk x.Name+bk x.W+bk x.H+1,λ_=>by omega⟩
theorem ng(x:bG):bk x=bk x.Name+bk x.W+bk x.H+1:=rfl
instance:Bk bA:=⟨λx=>bk x.X+bk x.Y+1,λ_=>by omega⟩
theorem wJ(x:bA):bk x=bk x.X+bk x.Y+1:=rfl
instance:Bk Slot:=⟨λx=>bk x.dG+bk x.aM+bk x.At+1,λ_=>by omega⟩
theorem xV(x:Slot):bk x=bk x.dG+bk x.aM+bk x.At+1:=rfl
instance:Bk bX:=⟨λx=>bk x.W+bk x.H+bk x.aU+bk x.lD+bk x.dP+bk x.aX+bk x.Marks+1,λ_=>by omega⟩
theorem s8(x:bX):bk x=bk x.W+bk x.H+bk x.aU+bk x.lD+bk x.dP+bk x.aX+bk x.Marks+1:=rfl
instance:Bk aB:=⟨λx=>bk x.X0+bk x.Y0+bk x.X1+bk x.Y1+1,λ_=>by omega⟩
theorem xW(x:aB):bk x=bk x.X0+bk x.Y0+bk x.X1+bk x.Y1+1:=rfl
instance:Bk aA:=⟨λx=>bk x.Y0+bk x.Y1+bk x.Xs+1,λ_=>by omega⟩
instance:Bk j9:=⟨λx=>bk x.xH+bk x.aM+bk x.At+1,λ_=>by omega⟩
end Go.Gk
namespace Go.Gk
open Go IntKind Go.Sort
section
variable {α:Type}
theorem oz{β:Type}(a:Array β){n:Nat}(h:a.size=n):a.extract 0 n=a:=by grind
theorem y4{φ:α->α->Option Int}{l:List α}(cf:α->α->Int)(hφ:∀x∈l,∀y∈l,φ x y=some (cf x y))(h1:∀x∈l,¬cf x x<0)
  (h2:∀x∈l,∀y∈l,∀z∈l,cf x y<0->cf y z<0->cf x z<0) (h3:∀x∈l,∀y∈l,∀z∈l,¬cf x y<0->¬cf y z<0->¬cf x z<0):SWO (yi<|tC φ l):=by
 have hm:∀i:Fin l.length,l[i]∈l:=λi=>dO i.isLt;have e:∀i j:Fin l.length,tC φ l i j=cf l[i] l[j]:=λi j=>by grind [tC]
 refine⟨λx=>?_,λx y z=>?_,λx y z=>?_⟩
 all_goals grind [yi,decide_eq_false_iff_not]
theorem tc{φ:α->α->Option Int}{l:List α}(cf:α->α->Int)(hφ:∀x∈l,∀y∈l,φ x y=some (cf x y))(h1:∀x∈l,¬cf x x<0)
  (h2:∀x∈l,∀y∈l,∀z∈l,cf x y<0->cf y z<0->cf x z<0) (h3:∀x∈l,∀y∈l,∀z∈l,¬cf x y<0->¬cf y z<0->¬cf x z<0) (hl:l.length<4611686018427387904):
  ∃m,qF φ l=some m/\m.Perm l/\m.Pairwise (λx y=>¬cf y x<0):=by
 have hO:=y4 cf hφ h1 h2 h3;have hm:∀i:Fin l.length,l[i]∈l:=λi=>dO i.isLt;have hc:(∀i j:Fin l.length,∃c,φ l[i] l[j]=some c):=λi j=>⟨_,hφ _ (hm i) _<|hm j⟩;refine⟨uC φ l,by simp_all[qF,aG],?_⟩;unfold uC
 by_cases hn:0<l.length
 ·rw[dif_pos hn]
  letI inh:Inhabited (Fin l.length):=⟨⟨0,hn⟩⟩
  have hds:(Array.ofFn λi:Fin l.length=>i).size=l.length:=by simp
  obtain⟨hp,hs⟩:=pdq_sorts (yi<|tC φ l) hO (Array.ofFn λi:Fin l.length=>i) 0 l.length (Lib.bitLen l.length) true true (kd _) (by omega)<|Or.inl rfl
  show(List.map (λi=>l[i]) (pdq (yi<|tC φ l) (Array.ofFn λi:Fin l.length=>i) 0 l.length (Lib.bitLen l.length) true true).toList).Perm l/\_;generalize pdq (yi<|tC φ l) (Array.ofFn λi:Fin l.length=>i) 0 l.length (Lib.bitLen l.length) true true=d' at hp hs;obtain⟨hz,_,hpm⟩:=hp;have hz':d'.size=l.length:=hz.trans hds;rw[oz d' hz',oz _ hds]at hpm;have hof:(Array.ofFn λi:Fin l.length=>i).toList.map (λi=>l[i])=l:=by
   rw[Array.toList_ofFn,List.map_ofFn];exact List.ofFn_getElem
  refine⟨(hpm.map<|λi=>l[i]).trans<|List.Perm.of_eq hof,?_⟩;rw[List.pairwise_map,ke];intro i j hi hj hij;rw[Array.length_toList]at hi hj;have:=hs i j (kd _) hij (by omega)
  grind [tC,yi,decide_eq_false_iff_not]
 ·rw[dif_neg hn];have:l= []:=List.length_eq_zero_iff.1 (by omega);subst this;exact⟨List.Perm.refl _,gI⟩
end
end Go.Gk
namespace Go.Gk
open Go IntKind
def t8(l:List Int)(x:Int):Nat:=l.countP<|λa=>decide<|a<=x
def jl(l:List Int)(x:Int):Bool:=t8 l x % 2==1
def g8(l:List Int):Prop:=l.Pairwise (· < ·)
theorem uI(x:Int):t8 [] x=0:=rfl
theorem jX(a:Int)(l:List Int)(x:Int):t8 (a::l) x=(if a<=x then 1 else 0)+t8 l x:=by
 grind [t8]
theorem pN(l m:List Int)(x:Int):t8 (l++m) x=t8 l x+t8 m x:=List.countP_append
theorem uJ{l:List Int}{x:Int}(h:∀a∈l,a<=x):t8 l x=l.length:=by
 grind [t8,List.countP_eq_length]
theorem pO{l:List Int}{x:Int}(h:∀a∈l,x<a):t8 l x=0:=by
 grind [t8,List.countP_eq_zero]
theorem o4{l:List Int}{x:Int}:jl l x=true↔t8 l x % 2=1:=by simp[jl]
theorem nB{l:List Int}{x:Int}(h:∀a∈l,x<a):jl l x=false:=by grind [jl,pO]
theorem g8.head{a:Int}{l:List Int}(h:g8 (a::l)):∀b∈l,a<b:=(List.pairwise_cons.1 h).1
theorem g8.tail{a:Int}{l:List Int}(h:g8 (a::l)):g8 l:=(List.pairwise_cons.1 h).2
theorem nC{a:Int}{l:List Int}(h:g8 (a::l)):jl (a::l) a=true:=by
 rw[o4,jX,aG<|Int.le_refl _,pO h.head]
theorem pP:∀{l m:List Int},g8 l->g8 m->(∀x,jl l x=jl m x)->l=m
 | [],[],_,_,_=>rfl
 | [],b::m,_,hm,h=>by have:=h b;rw[nC hm]at this;cases this
 |a::l,[],hl,_,h=>by have:=h a;rw[nC hl]at this;cases this
 |a::l,b::m,hl,hm,h=>by
  have hab:a=b:=by
   rcases Int.lt_trichotomy a b with h1|h1|h1
   ·have h2:=h a
    rw[nC hl,nB (l:=b::m) (λc hc=>by
     rcases eE.1 hc with rfl|hc
     ·exact h1
     ·have:=hm.head c hc;omega)]at h2
    cases h2
   ·exact h1
   ·have h2:=h b
    rw[nC hm,nB (l:=a::l) (λc hc=>by
     rcases eE.1 hc with rfl|hc
     ·exact h1
     ·have:=hl.head c hc;omega)]at h2
    cases h2
  subst hab;rw[pP hl.tail hm.tail<|λx=>?_]
  by_cases hx:a<=x
  ·have h2:=h x;unfold jl at h2 ⊢;rw[jX,jX,aG hx]at h2;rw[jw]at h2 ⊢;simp only[beq_iff_eq]at h2 ⊢;omega
  ·rw[nB (λc hc=>by have:=hl.head c hc;omega),nB (λc hc=>by have:=hm.head c hc;omega)]
theorem pQ{l:List Int}{a b:Int}(hl:∀c∈l,c<a)(he:l.length % 2=0)(hab:a<b)(x:Int):jl (l++[a,b]) x=(jl l x||(decide (a<=x)&&decide (x<b))):=by
 rw[jw,ec,bI,eY,eY,o4,o4,pN,jX,jX,uI]
 grind [t8,uJ]
theorem wM{l:List Int}{s e a b:Int}(hl:∀c∈l,c<s)(he:l.length % 2=0)(hs:s<e)(h1:s<=a)(h2:a<=e)(hab:a<b)(x:Int):jl (l++[s,max e b]) x=(jl (l++[s,e]) x||(decide (a<=x)&&decide (x<b))):=by
 grind [pQ]
theorem g8.snoc{l:List Int}{a b:Int}(h:g8 l)(hl:∀c∈l,c<a)(hab:a<b):g8 (l++[a,b]):=by
 grind [g8]
structure Bd where
 y0:Int
 y1:Int
 xs:List Int
def rowAt:List Bd->Int->List Int
 | [],_=>[]
 |b::s,y=>if b.y0<=y/\y<b.y1 then b.xs else rowAt s y
theorem jY(b:Bd)(s:List Bd)(y:Int):rowAt (b::s) y=if b.y0<=y/\y<b.y1 then b.xs else rowAt s y:=rfl
structure bU (s:List Bd):Prop where
 each:∀b∈s,b.y0<b.y1/\b.xs≠[]/\g8 b.xs/\b.xs.length % 2=0
 ord:s.Pairwise (λb c=>b.y1<=c.y0/\(b.y1=c.y0->b.xs≠c.xs))
theorem bU.nil:bU []:=⟨λb h=>by simp at h,gI⟩
theorem bU.tail{b:Bd}{s:List Bd}(h:bU (b::s)):bU s:=⟨λc hc=>h.each c<|kc _ hc,(List.pairwise_cons.1 h.ord).2⟩
theorem gk{s:List Bd}{y:Int}(h:∀b∈s,y<b.y0\/b.y1<=y):rowAt s y= []:=by
 induction s with
 |nil=>rfl
 |cons b s ih=>
  grind [rowAt,kc]
theorem jE(s t:List Bd)(y:Int):rowAt (s++t) y=if(∃b∈s,b.y0<=y/\y<b.y1)then rowAt s y else rowAt t y:=by
 induction s with
 |nil=>simp
 |cons b s ih=>
  rw[List.cons_append,jY,jY]
  by_cases h:b.y0<=y/\y<b.y1
  ·simp_all
  ·rw[aI h,ih]
   by_cases h2:∃c∈s,c.y0<=y/\y<c.y1
   ·simp_all[aG,kc,aI]
   grind
theorem bU.gl{b:Bd}{s:List Bd}{y:Int}(h0:b.y0<=y)(h1:y<b.y1):rowAt (b::s) y=b.xs:=by grind [rowAt]
theorem bU.qS{b:Bd}{s:List Bd}(h:bU (b::s)):∀c∈s,b.y1<=c.y0:=λc hc=>((List.pairwise_cons.1 h.ord).1 c hc).1
theorem bU.l4{b:Bd}{s:List Bd}(h:bU (b::s)){y:Int}(hy:y<b.y0):rowAt (b::s) y= []:=gk λc hc=>by
 rcases eE.1 hc with rfl|hc
 ·exact .inl hy
 ·have:=h.qS c hc;have:=(h.each b (by simp)).1;exact .inl (by omega)
theorem bU.uK{b:Bd}{s:List Bd}(h:bU (b::s)):rowAt (b::s) b.y1≠b.xs:=by
 rw[jY,aI (by omega)]
 cases s with
 |nil=>exact λe=>(h.each b (by simp)).2.1 e.symm
 |cons c s=>
  have h1:=(List.pairwise_cons.1 h.ord).1 c (by simp)
  by_cases e:b.y1=c.y0
  ·rw[bU.gl (by omega) (by have:=(h.tail.each c (by simp)).1;omega)]
   grind
  ·rw[h.tail.l4 (by omega)];exact λe=>(h.each b (by simp)).2.1 e.symm
theorem pR:∀{s t:List Bd},bU s->bU t->(∀y,rowAt s y=rowAt t y)->s=t
 | [],[],_,_,_=>rfl
 | [],c::t,_,ht,h=>by
  have hc:=ht.each c (by simp);have:=h c.y0;rw[bU.gl (Int.le_refl _) hc.1]at this;exact absurd this.symm hc.2.1
 |b::s,[],hs,_,h=>by
  have hb:=hs.each b (by simp);have:=h b.y0;rw[bU.gl (Int.le_refl _) hb.1]at this;exact absurd this hb.2.1
 |b::s,c::t,hs,ht,h=>by
  have hb:=hs.each b (by simp);have hc:=ht.each c (by simp);have e0:b.y0=c.y0:=by
   rcases Int.lt_trichotomy b.y0 c.y0 with h1|h1|h1
   ·have h2:=h b.y0;rw[bU.gl (Int.le_refl _) hb.1,ht.l4 h1]at h2;exact absurd h2 hb.2.1
   ·exact h1
   ·have h2:=h c.y0;rw[bU.gl (Int.le_refl _) hc.1,hs.l4 h1]at h2;exact absurd h2.symm hc.2.1
  have ex:b.xs=c.xs:=by
   have h2:=h b.y0;rw[bU.gl (Int.le_refl _) hb.1,bU.gl (by omega) (by omega)]at h2;exact h2
  have e1:b.y1=c.y1:=by
   rcases Int.lt_trichotomy b.y1 c.y1 with h1|h1|h1
   ·have h2:=h b.y1;rw[bU.gl (b:=c) (by omega) h1]at h2;exact absurd (h2.trans ex.symm) hs.uK
   ·exact h1
   ·have h2:=h c.y1;rw[bU.gl (b:=b) (by omega) h1]at h2;exact absurd (h2.symm.trans ex) ht.uK
  have ebc:b=c:=by cases b;cases c;simp_all
  subst ebc;rw[pR hs.tail ht.tail<|λy=>?_]
  by_cases hy:b.y1<=y
  ·have h2:=h y;unfold rowAt at h2;rw[aI (by omega),aI (by omega)]at h2;exact h2
  ·rw[gk (λd hd=>by have:=hs.qS d hd;omega),gk (λd hd=>by have:=ht.qS d hd;omega)]
def lQ(s:List Bd)(x y:Int):Bool:=jl (rowAt s y) x
theorem qT{s:List Bd}(h:∀b∈s,g8 b.xs)(y:Int):g8 (rowAt s y):=by
 induction s with
 |nil=>exact gI
 |cons b s ih=>
  grind [rowAt,kc]
theorem t9{s t:List Bd}(hs:bU s)(ht:bU t)(h:∀x y,lQ s x y=lQ t x y):s=t:=
 pR hs ht λy=>pP (qT (λb hb=>(hs.each b hb).2.2.1) y) (qT (λb hb=>(ht.each b hb).2.2.1) y) λx=>h x y
def lk(s:List Bd)(b:Bd):List Bd:=
 if b.xs= []\/b.y1<=b.y0 then s else
  match s.getLast? with
  |some c=>if c.y1=b.y0/\c.xs=b.xs then s.dropLast++[⟨c.y0,b.y1,c.xs⟩]else s++[b]
  |none=>[b]
theorem mN{α:Type}{s:List α}{c:α}(h:s.getLast? =some c):s=s.dropLast++[c]:=by
 have hne:s≠[]:=λe=>by grind
 grind [List.getLast?_eq_some_getLast,List.dropLast_concat_getLast]
theorem qU{s:List Bd}{b:Bd}(hs:∀c∈s,c.y1<=b.y0)(hg:∀c∈s,c.y0<c.y1)(hb:b.y1<=b.y0->b.y1=b.y0)(y:Int):rowAt (lk s b) y=if b.y0<=y/\y<b.y1 then b.xs else rowAt s y:=by
 have key:∀(s:List Bd)(c:Bd),(∀d∈s,d.y1<=c.y0)->rowAt (s++[c]) y=if c.y0<=y/\y<c.y1 then c.xs else rowAt s y:=by
  intro s c h;rw[jE]
  by_cases h1:c.y0<=y/\y<c.y1
  ·grind [bU.gl]
  ·rw[aI h1]
   by_cases h2:∃d∈s,d.y0<=y/\y<d.y1
   all_goals grind [jY,rowAt,gk]
 unfold lk
 by_cases h0:b.xs= []\/b.y1<=b.y0
 ·grind [gk]
 ·rw[aI h0]
  cases hl:s.getLast? with
  |none=>
   have:s= []:=by simp_all
   subst this;rfl
  |some c=>
   dsimp only;have hsp:=mN hl;have hcm:c∈s:=by rw[hsp];simp
   by_cases h1:c.y1=b.y0/\c.xs=b.xs
   ·rw[aG h1];have hd:∀d∈s.dropLast,d.y1<=c.y0\/True:=λ_ _=> .inr trivial;rw[jE];have hrow:rowAt s y=if(∃d∈s.dropLast,d.y0<=y/\y<d.y1)then rowAt s.dropLast y else(if c.y0<=y/\y<c.y1 then c.xs else []):=by
     conv=>lhs;rw[hsp]
     rw[jE];rfl
    rw[hrow];have hcg:=hg c hcm
    by_cases h2:∃d∈s.dropLast,d.y0<=y/\y<d.y1
    ·obtain⟨d,hd,hd2⟩:=h2;have:=hs d<|List.dropLast_subset _ hd
     have he:∃d∈s.dropLast,d.y0<=y/\y<d.y1:=⟨d,hd,hd2⟩;rw[aG he,aG he,aI (by omega)]
    ·rw[aI h2,aI h2];show(if c.y0<=y/\y<b.y1 then c.xs else [])=_
     by_cases h3:b.y0<=y/\y<b.y1
     ·rw[aG h3,aG ⟨by omega,h3.2⟩,h1.2]
     ·rw[aI h3]
      by_cases h4:c.y0<=y/\y<c.y1
      ·rw[aG h4,aG ⟨h4.1,by omega⟩]
      ·rw[aI h4,aI (by omega)]
   ·rw[aI h1];exact key s b hs
theorem qV{s:List Bd}{b:Bd}(h:bU s)(hs:∀c∈s,c.y1<=b.y0)(hb:g8 b.xs)(he:b.xs.length % 2=0):bU (lk s b):=by
 unfold lk
 by_cases h0:b.xs= []\/b.y1<=b.y0
 ·grind
 ·rw[aI h0];have hbg:b.y0<b.y1/\b.xs≠[]/\g8 b.xs/\b.xs.length % 2=0:=⟨by omega,λe=>h0<|.inl e,hb,he⟩
  cases hl:s.getLast? with
  |none=>exact⟨λc hc=>by grind,List.pairwise_singleton _ _⟩
  |some c=>
   dsimp only;have hsp:=mN hl;have hcm:c∈s:=by rw[hsp];simp
   have hc:=h.each c hcm;have hord:=h.ord;rw[hsp,List.pairwise_append]at hord
   by_cases h1:c.y1=b.y0/\c.xs=b.xs
   ·rw[aG h1];refine⟨λd hd=>?_,?_⟩
    ·rcases dA.1 hd with hd|hd
     ·exact h.each d<|List.dropLast_subset _ hd
     grind
    grind
   ·rw[aI h1];refine⟨λd hd=>?_,?_⟩
    ·rcases dA.1 hd with hd|hd
     ·exact h.each d hd
     ·simp at hd;subst hd;exact hbg
    ·rw[List.pairwise_append];refine⟨h.ord,List.pairwise_singleton _ _,λd hd e he=>?_⟩;simp at he;subst he;refine⟨hs d hd,λe1 e2=>?_⟩;rw[hsp]at hd
     rcases dA.1 hd with hd|hd
     ·have h2:=(hord.2.2 d hd c (by simp)).1;have:=hs c hcm;omega
     ·simp at hd;subst hd;exact h1 ⟨e1,e2⟩
theorem qW{s:List Bd}{b:Bd}(hs:∀c∈s,c.y1<=b.y0)(hb:b.y0<=b.y1):∀c∈lk s b,c.y1<=b.y1:=by
 grind [lk,List.dropLast_subset]
section
variable {N:Nat}
def aQ(b:aA):Bd:=⟨b.Y0,b.Y1,b.Xs⟩
def small(a:Int):Prop:= -1099511627776<=a/\a<=1099511627776
structure xm (r:aB):Prop where
 x:r.X0<r.X1
 y:r.Y0<r.Y1
 s1:small r.X0
 s2:small r.X1
 s3:small r.Y0
 s4:small r.Y1
def uc(l:List aB)(x:Int):Bool:=l.any<|λr=>decide (r.X0<=x)&&decide (x<r.X1)
def mO(l:List aB)(x y:Int):Bool:=l.any<|λr=>(decide (r.X0<=x)&&decide (x<r.X1))&&(decide (r.Y0<=y)&&decide (y<r.Y1))
theorem pS{l:List aB}{x:Int}:uc l x=true↔∃r∈l,r.X0<=x/\x<r.X1:=by simp[uc,i5]
theorem gz{l:List aB}{x y:Int}:mO l x y=true↔∃r∈l,(r.X0<=x/\x<r.X1)/\r.Y0<=y/\y<r.Y1:=by simp[mO,i5]
theorem pT{a b:Int}(ha:small a)(hb:small b):wrap .i64 (a - b)=a - b:=by grind [small,cA]
theorem td{n:Nat}(h:0<n)(hn:n<=4611686018427387904):wrap .i64 (((n:Nat):Int) - 1)=((n - 1:Nat):Int):=iU h hn
structure Bo (out:List Int) (m:List aB) (k:Nat):Prop where
 row:(k=0/\out= [])\/∃A s e,out=A++[s,e]/\g8 A/\(∀c∈A,c<s)/\A.length % 2=0/\s<e/\∃j r,j<k/\m[j]? =some r/\s=r.X0
 jl:∀x,jl out x=uc (m.take k) x
 len:out.length<=2*k
 mem:∀c∈out,∃r∈m,c=r.X0\/c=r.X1
theorem n8(l:List aB)(r:aB)(x:Int):uc (l++[r]) x=(uc l x||(decide (r.X0<=x)&&decide (x<r.X1))):=by simp[uc,List.any_append]
theorem rJ{l:List aB}(hl:l.length<=268435456)(hok:∀r∈l,xm r):∃row l',fA N l=some (row,l')/\l'.Perm l/\g8 row/\row.length % 2=0/\(∀x,jl row x=uc l x)/\row.length<=2*l.length/\∀c∈row,∃r∈l,c=r.X0\/c=r.X1:=by
 unfold fA
 obtain⟨m,h1,h2,h3⟩:=tc (φ:=ey N) (l:=l) (λa b=>a.X0 - b.X0) (λa ha b hb=>by
  unfold ey;rw[pT (hok a ha).s1 (hok b hb).s1]) (λa _=>by omega) (λa _ b _ c _ h1 h2=>by omega) (λa _ b _ c _ h1 h2=>by omega) (by omega)
 have hml:m.length=l.length:=h2.length_eq;have hmok:∀r∈m,xm r:=λr hr=>hok r<|h2.subset hr
 rw[h1,aC];obtain⟨out,a1,a2⟩:=uF (m:=m.length) (s:=([]:List Int)) (body:=λ(k32:Nat)(s33:List Int)=>((idx m (k32:Int)).bind λx79=>(bif decide (wrap .i64 ((s33.length:Int) - 1)>=0)then((idx s33<|wrap .i64<|(s33.length:Int) - 1).bind λx86=>some<|decide<|x79.X0<=x86)else some false).bind λs84=>(bif s84 then((idx s33<|wrap .i64<|(s33.length:Int) - 1).bind λx94=>(idx s33<|wrap .i64<|(s33.length:Int) - 1).bind λx95=>some<|s33.set (Int.toNat<|wrap .i64<|(s33.length:Int) - 1) (if x94<x79.X1 then x79.X1 else x94))else((app 8 s33 ([x79.X0,x79.X1]:List Int)).bind λx97=>some x97)).bind λs92=>some s92:Option (List Int)))
  (λk out=>Bo out m k) (by omega) ⟨.inl ⟨rfl,rfl⟩,λx=>rfl,by simp,λc hc=>by cases hc⟩ (λk out hk⟨i1,i2,i3,i4⟩=>by
   have hx:m[k]? =some m[k]:=aO hk;have hr:=hmok _<|dO hk
   rw[jT hx,aC];have hts:m.take (k+1)=m.take k++[m[k]]:=fU hk
   rcases i1 with⟨rfl,rfl⟩|⟨A,s,e,rfl,hA,hAs,hAe,hse,j,r,hj,hjr,hsr⟩
   ·rw[show decide (wrap .i64 (((([]:List Int).length:Nat):Int) - 1)>=0)=false by decide,bN,aC,bN,iF (by simp),aC,aC];refine⟨_,rfl, .inr ⟨[],_,_,rfl,gI,λc hc=>by simp at hc,rfl,hr.x,0,m[0],by omega,hx,rfl⟩,λx=>?_,by simp,λc hc=>⟨m[0],dO hk,by grind⟩⟩;rw[hts,n8,<-i2 x];exact pQ (l:=[]) (λc hc=>by simp at hc) rfl hr.x x
   ·have hlen:(A++[s,e]).length=A.length+2:=by simp
    have hwp:wrap .i64 ((((A++[s,e]).length:Nat):Int) - 1)=((A.length+1:Nat):Int):=by grind [td]
    have hlast:(A++[s,e])[A.length+1]? =some e:=by simp
    have hs:s<=m[k].X0:=by
     grind [ke,aV]
    rw[hwp,cS (by omega),aW,jT hlast,aC,aC]
    by_cases hc:m[k].X0<=e
    ·rw[cS hc,aW,aC,aC,aC,dK];have iM:(A++[s,e]).set (A.length+1) (if e<m[k].X1 then m[k].X1 else e)=A++[s,max e m[k].X1]:=by
      rw[List.set_append_right _ _ (by omega)];have:A.length+1 - A.length=1:=by omega
      rw[this,Int.max_def];simp only[List.set_cons_succ,List.set_cons_zero];congr 2;split <;> split <;> simp <;> omega
     rw[iM]
     refine⟨_,rfl, .inr ⟨A,s,_,rfl,hA,hAs,hAe,by omega,j,r,by omega,hjr,hsr⟩,λx=>?_,by simp at i3 ⊢;omega,λc hc=>by
      rcases dA.1 hc with h|h
      ·exact i4 c<|List.mem_append_left _ h
      ·simp at h
       rcases h with h|h
       ·exact i4 c (by simp[h])
       ·rw[Int.max_def]at h;split at h
        ·exact⟨_,dO hk, .inr h⟩
        ·exact i4 c (by simp[h])⟩
     rw[hts,n8,<-i2 x];exact wM hAs hAe hse hs hc hr.x x
    ·rw[cP hc,bN,iF (by rw[hlen];simp;omega),aC,aC];have hall:∀c∈A++[s,e],c<m[k].X0:=λc hc'=>by
      rcases dA.1 hc' with h|h
      ·have:=hAs c h;omega
      ·simp at h;omega
     refine⟨_,rfl, .inr ⟨A++[s,e],_,_,rfl,hA.snoc hAs hse,hall,by rw[hlen];omega,hr.x,k,m[k],by omega,hx,rfl⟩,λx=>?_,by simp at i3 ⊢;omega,λc hc=>by
      rcases dA.1 hc with h|h
      ·exact i4 c h
      ·exact⟨m[k],dO hk,by simpa using h⟩⟩
     rw[hts,n8,<-i2 x]
     exact pQ hall (by rw[hlen];omega) hr.x x)
 rw[a1,aC];refine⟨out,m,rfl,h2,?_,?_,λx=>?_,by rw[<-hml];exact a2.len,λc hc=>by obtain⟨r,hr,h⟩:=a2.mem c hc;exact⟨r,h2.subset hr,h⟩⟩
 ·rcases a2.row with⟨_,h⟩|⟨A,s,e,rfl,hA,hAs,hAe,hse,_⟩
  ·rw[h];exact gI
  ·exact hA.snoc hAs hse
 ·rcases a2.row with⟨_,h⟩|⟨A,s,e,rfl,hA,hAs,hAe,hse,_⟩
  ·rw[h];rfl
  ·simp;omega
 ·rw[a2.jl x,fu,jw,pS,pS];constructor
  ·rintro⟨r,hr,h⟩;exact⟨r,h2.subset hr,h⟩
  ·rintro⟨r,hr,h⟩;exact⟨r,h2.symm.subset hr,h⟩
theorem vo{l m:List Int}(hl:l.length<=4611686018427387904):gr N l m=some (decide<|l=m):=qP hl
theorem uL{s:List aA}{b:aA}(hs:s.length<=1048576000)(hx:∀c∈s,c.Xs.length<=1048576000):∃s',fh N s b=some s'/\s'.map aQ=lk (s.map aQ) (aQ b):=by
 unfold fh lk
 by_cases h0:b.Xs= []\/b.Y1<=b.Y0
 ·have e:((((b.Xs.length:Nat):Int)==0)||decide (b.Y1<=b.Y0))=true:=by
   grind
  rw[e,aW,aG (show(aQ b).xs= []\/(aQ b).y1<=(aQ b).y0 from h0)];simp
 ·have e:((((b.Xs.length:Nat):Int)==0)||decide (b.Y1<=b.Y0))=false:=by
   simp_all
  rw[e,bN,aI (show ¬((aQ b).xs= []\/(aQ b).y1<=(aQ b).y0)from h0)]
  rcases List.eq_nil_or_concat s with rfl|⟨A,c,hA⟩
  ·rw[show decide (wrap .i64 (((([]:List aA).length:Nat):Int) - 1)>=0)=false by decide,bN,aC,bN,iF (by simp),aC];simp
  ·rw[List.concat_eq_append]at hA;subst hA;have hlen:(A++[c]).length=A.length+1:=by simp
   have hwp:wrap .i64 ((((A++[c]).length:Nat):Int) - 1)=((A.length:Nat):Int):=by grind [td]
   have hlast:(A++[c])[A.length]? =some c:=by simp
   rw[hwp,cS (by omega),aW,jT hlast,aC,aC,vo (by grind),aC,aC,dK,iF (by grind),aC];have hl2:((A++[c]).map aQ).getLast? =some (aQ c):=by simp
   have hd2:((A++[c]).map aQ).dropLast=A.map aQ:=by simp
   rw[hl2,hd2];dsimp only
   by_cases h1:c.Y1=b.Y0/\c.Xs=b.Xs
   ·grind [aQ,cS,aC,List.set_append_right]
   grind [aQ]
end
def te(l:List (Int×Int)):List Int:=l.flatMap λs=>[s.1,s.2]
def vq(l:List (Int×Int))(x:Int):Bool:=l.any λs=>decide (s.1<=x)&&decide (x<s.2)
theorem pU(s:Int×Int)(l:List (Int×Int)):te (s::l)=s.1::s.2::te l:=rfl
theorem vr(s:Int×Int)(l:List (Int×Int))(x:Int):vq (s::l) x=((decide (s.1<=x)&&decide (x<s.2))||vq l x):=rfl
theorem wN{l:List (Int×Int)}{x:Int}:vq l x=true↔∃s∈l,s.1<=x/\x<s.2:=by
 simp[vq]
theorem vt{a b:Int}{m:List Int}(h:g8 (a::b::m))(x:Int):jl (a::b::m) x=((decide (a<=x)&&decide (x<b))||jl m x):=by
 have hab:a<b:=h.head b (by simp);have hm:=h.tail.head
 grind [o4,jX,pO]
theorem tf:∀{l:List (Int×Int)},g8 (te l)->∀x,jl (te l) x=vq l x
 | [],_,x=>rfl
 |s::l,h,x=>by
  rw[pU]at h ⊢;rw[vt h,vr,tf h.tail.tail]
def Ok{β:Type}(o:Option β)(P:β->Prop):Prop:=∃r,o=some r/\P r
section
variable {α β S R:Type}{P:α->Prop}{Q:β->Prop}
theorem r_{x:β}(h:Q x):Ok (some x) Q:=⟨x,rfl,h⟩
theorem DI{o:Option β}{x:β}(h:o=some x)(hq:Q x):Ok o Q:=⟨x,h,hq⟩
theorem Ok.mono{o:Option α}{P':α->Prop}(h:Ok o P)(k:∀x,P x->P' x):Ok o P':=by obtain⟨x,h1,h2⟩:=h;exact⟨x,h1,k x h2⟩
theorem w_{o:Option α}{f:α->Option β}(h:Ok o P)(k:∀x,P x->Ok (f x) Q):Ok (o.bind f) Q:=by
 obtain⟨x,h1,h2⟩:=h;grind
theorem k_{o:Option α}{f:α->Option β}{x:α}(h:o=some x)(k:Ok (f x) Q):Ok (o.bind f) Q:=by grind
theorem A_{b:Bool}{x y:Option β}(ht:b=true->Ok x Q)(hf:b=false->Ok y Q):Ok (bif b then x else y) Q:=by
 grind
theorem C1{o:Option β}{x:β}(h:Ok o (λr=>r=x)):o=some x:=by obtain⟨r,h1,h2⟩:=h;rw[h1,h2]
def zU(Go:S->Prop)(Rt:R->Prop):Fo S R->Prop| .go s=>Go s| .rt r=>Rt r
def zg(Nx Br:S->Prop)(Rt:R->Prop):Fl S R->Prop| .nx s=>Nx s| .br s=>Br s| .rt r=>Rt r
theorem Cn{Nx Br:S->Prop}{Rt:R->Prop}{s:S}(h:Nx s):Ok (some<|Fl.nx s) (zg Nx Br Rt):=⟨_,rfl,h⟩
theorem Cy{Nx Br:S->Prop}{Rt:R->Prop}{s:S}(h:Br s):Ok (some<|Fl.br s) (zg Nx Br Rt):=⟨_,rfl,h⟩
theorem Cw{Nx Br:S->Prop}{Rt:R->Prop}{r:R}(h:Rt r):Ok (some (Fl.rt r:Fl S R)) (zg Nx Br Rt):=⟨_,rfl,h⟩
theorem Cr{Go:S->Prop}{Rt:R->Prop}{o:Fo S R}{f:S->Option β}{g:R->Option β}(h:zU Go Rt o)(hf:∀s,Go s->Ok (f s) Q)(hg:∀r,Rt r->Ok (g r) Q):Ok (o.cs f g) Q:=by
 cases o with
 |go s=>exact hf s h
 |rt r=>exact hg r h
theorem CF{body:Nat->S->Option S}{m:Nat}{s:S}(Inv:Nat->S->Prop)(hm:m<=4611686018427387904)(h0:Inv 0 s)(h:∀k s,k<m->Inv k s->Ok (body k s) (Inv<|k+1)):Ok (ks m body s) (Inv m):=
 uF Inv hm h0 h
theorem C9{body:Nat->S->Option (Fl S R)}{m:Nat}{s:S}(Inv:Nat->S->Prop){Go:S->Prop}{Rt:R->Prop}(hm:m<=4611686018427387904)(h0:Inv 0 s)
  (h:∀k s,k<m->Inv k s->Ok (body k s) (zg (Inv<|k+1) Go Rt)) (hg:∀s,Inv m s->Go s):Ok (lz m body s) (zU Go Rt):=by
 obtain⟨o,h1,h2⟩:=xS (R:=R) Inv Go Rt hm h0 (λk s hk hi=>by
  obtain⟨fl,a1,a2⟩:=h k s hk hi
  exact⟨fl,a1,by cases fl <;> exact a2⟩) hg
 exact⟨o,h1,by cases o <;> exact h2⟩
theorem CC{body:S->Option (Fl S R)}{N:Nat}{s:S}(Inv:S->Prop)(μ:S->Nat){Go:S->Prop}{Rt:R->Prop}
  (h:∀s,Inv s->Ok (body s) (zg (λs'=>Inv s'/\μ s'<μ s) Go Rt)) (hi:Inv s) (hn:μ s<N):Ok (kl body N s) (zU Go Rt):=by
 obtain⟨o,h1,h2⟩:=rE (R:=R) Inv μ Go Rt (λs hi=>by
  obtain⟨fl,a1,a2⟩:=h s hi
  exact⟨fl,a1,by cases fl <;> exact a2⟩) N s hi hn
 exact⟨o,h1,by cases o <;> exact h2⟩
theorem CM{b:Nat}{l ys:List α}{f:List α->Option β}(h:(l.length+ys.length)*b<=140737488355328)(k:Ok (f<|l++ys) Q):Ok ((Go.Gk.app b l ys).bind f) Q:=by grind [iF]
theorem Ck{l:List α}{i:Nat}{f:α->Option β}(h:i<l.length)(k:Ok (f l[i]) Q):Ok ((Go.Gk.idx l ((i:Nat):Int)).bind f) Q:=by grind [jC]
theorem Cb{l:List α}{i:Nat}{x:α}{f:α->Option β}(h:l[i]? =some x)(k:Ok (f x) Q):Ok ((Go.Gk.idx l ((i:Nat):Int)).bind f) Q:=by grind [jT]
end
theorem pV{n:Nat}(h:n<=4611686018427387904):wrap .i64 ((n:Nat):Int)=((n:Nat):Int):=by grind [cA]
theorem wrap_add{n m:Nat}(h:n+m<=4611686018427387904):wrap .i64 (((n:Nat):Int)+((m:Nat):Int))=((n+m:Nat):Int):=by grind [cA]
theorem eC{n:Nat}(h:n+1<=4611686018427387904):wrap .i64 (((n:Nat):Int)+1)=((n+1:Nat):Int):=by grind [cA]
theorem qX{n:Nat}(h:n+2<=4611686018427387904):wrap .i64 (((n:Nat):Int)+2)=((n+2:Nat):Int):=by grind [cA]
theorem dJ{α:Type}[DecidableEq α]:∀{l m:List α},l.Nodup->(∀x∈l,x∈m)->l.length<=m.length
 | [],m,_,_=>kd _
 |a::l,m,hn,hs=>by
  have ha:a∈m:=hs a (by simp);have hn':=List.nodup_cons.1 hn
  have:=dJ (l:=l) (m:=m.erase a) hn'.2 (λx hx=>by
   grind)
  rw[List.length_erase_of_mem ha]at this;have:=List.length_pos_of_mem ha;simp;omega
section
variable {α:Type}{N:Nat}
def zV(z:α)(N:Nat)(p0:List α)(p1:α->Option Bool):Option (List α):=
 (jU p0 p1).bind λx31=>bif x31==(-1)then some p0 else((kl (λ(s33:List α×Int×Int)=>(bif decide (s33.2.2<(s33.1.length:Int))then((idx s33.1 s33.2.2).bind λx54=>(p1 x54).bind λx58=>(bif(!x58)then((idx s33.1 s33.2.1).bind λx63=>some (s33.1.set (Int.toNat s33.2.1) x54,wrap .i64<|s33.2.1+1))else some (s33.1,s33.2.1)).bind λs61=>some<|.nx (s61.1,s61.2,wrap .i64<|s33.2.2+1))else(some<|.br (s33.1,s33.2.1,s33.2.2)):Option (Fl (List α×Int×Int) Empty))) N (p0,x31,wrap .i64<|x31+1)).bind λo67=>o67.cs (λ(s33:List α×Int×Int)=>(mZ s33.1 s33.2.1 (s33.1.length:Int)).bind λx64=>(mZ (s33.1.take (Int.toNat s33.2.1)++List.replicate (s33.1.length - Int.toNat s33.2.1) z) 0 s33.2.1).bind λx65=>some x65)<|λr=>r.elim)
theorem wO{z:α}{l:List α}{φ:α->Option Bool}(p:α->Bool)(hφ:∀x∈l,φ x=some (p x))(hl:l.length<=4611686018427387000)(hN:l.length<N):zV z N l φ=some (l.filter<|λx=> !p x):=by
 unfold zV;rw[jd p (by omega) hφ,aC]
 rcases l3 l p with⟨h1,h2⟩|⟨k,x,h1,h2,h3,h4⟩
 ·grind [List.filter_eq_self]
 ·rw[h1,show(((k:Nat):Int)== -1)=false by simp,bN];have hk:=(aV.1 h2).1;have hpre:(l.take k).filter (λx=> !p x)=l.take k:=List.filter_eq_self.2 λa ha=>by
   grind [eZ,aV,cV,List.getElem?_take_of_lt]
  have hst:l.take (k+1)=l.take k++[x]:=by
   rw[fU hk];grind
  have hk1:wrap .i64 (((k:Nat):Int)+1)=((k+1:Nat):Int):=by grind [cA]
  rw[hk1];obtain⟨o,a1,a2⟩:=rE (S:=List α×Int×Int) (R:=Empty) (body:=λ(s33:List α×Int×Int)=>(bif decide (s33.2.2<(s33.1.length:Int))then((idx s33.1 s33.2.2).bind λx54=>(φ x54).bind λx58=>(bif(!x58)then((idx s33.1 s33.2.1).bind λx63=>some (s33.1.set (Int.toNat s33.2.1) x54,wrap .i64<|s33.2.1+1))else some (s33.1,s33.2.1)).bind λs61=>some<|.nx (s61.1,s61.2,wrap .i64<|s33.2.2+1))else(some<|.br (s33.1,s33.2.1,s33.2.2)):Option (Fl (List α×Int×Int) Empty)))
   (λs=>∃i j:Nat,s.2.1=((i:Nat):Int)/\s.2.2=((j:Nat):Int)/\i<j/\j<=l.length/\s.1.length=l.length/\s.1.take i=(l.take j).filter (λx=> !p x)/\∀m,j<=m->s.1[m]? =l[m]?)
   (λs=>l.length - s.2.2.toNat) (λs=>∃i:Nat,s.2.1=((i:Nat):Int)/\i<=l.length/\s.1.length=l.length/\s.1.take i=l.filter (λx=> !p x)) (λ_=>True) (λs⟨i,j,e1,e2,hij,hj,hlen,ht,hd⟩=>by
    obtain⟨s,a,b⟩:=s;dsimp only at e1 e2 hlen ht hd ⊢;subst e1;subst e2
    by_cases hlt:j<l.length
    ·rw[cS (by omega),aW];have hx:s[j]? =some l[j]:=by grind
     have w1:wrap .i64 (((j:Nat):Int)+1)=((j+1:Nat):Int):=by grind [cA]
     have w2:wrap .i64 (((i:Nat):Int)+1)=((i+1:Nat):Int):=by grind [cA]
     have hs2:l.take (j+1)=l.take j++[l[j]]:=fU hlt;rw[jT hx,aC,hφ _<|dO hlt,aC,w1]
     cases hp:p l[j]with
     |true=>
      refine⟨.nx (s,((i:Nat):Int),((j+1:Nat):Int)),by rfl,⟨i,j+1,rfl,rfl,by omega,by omega,hlen,?_,λm hm=>hd m (by omega)⟩,?_⟩
      ·grind
      grind
     |false=>
      refine⟨.nx (s.set i l[j],((i+1:Nat):Int),((j+1:Nat):Int)),by rw[Bool.not_false,aW,jC _ _ (by omega),aC,dK,w2,aC],⟨i+1,j+1,rfl,rfl,by omega,by omega,by simp[hlen],?_,λm hm=>?_⟩,?_⟩
      ·rw[hs2,List.filter_append,<-ht];have:(s.set i l[j]).take (i+1)=s.take i++[l[j]]:=by
        rw[fU (by simp;omega),List.take_set_of_le<|bB _];simp
       rw[this];simp[hp]
      ·rw[gJ,aI (by omega)];exact hd m (by omega)
      ·simp only[dK];omega
    ·rw[cP (by rw[hlen];omega),bN];have hje:j=l.length:=by omega
     subst hje;rw[fu]at ht
     exact⟨.br (s,((i:Nat):Int),((l.length:Nat):Int)),rfl,i,rfl,by omega,hlen,ht⟩)
   N (l,((k:Nat):Int),((k+1:Nat):Int)) ⟨k,k+1,rfl,rfl,by omega,by omega,rfl,by rw[hst,List.filter_append,hpre];simp[h3],λ_ _=>rfl⟩ (by simp only[dK];omega)
  rw[a1,aC]
  cases o with
  |rt r=>exact r.elim
  |go s=>
   obtain⟨i,e1,hi,hlen,ht⟩:=a2;obtain⟨s,a,b⟩:=s;dsimp only at e1 hlen ht;subst e1;simp only[Fo.cs];rw[nd _ _ (by omega),aC,dK,pF _ _ (by simp;omega),aC,List.take_append_of_le_length (by simp;omega),List.take_take,Nat.min_self,ht]
end
section
variable {κ ν:Type}[DecidableEq κ]
theorem vu(m:List (κ×ν))(k k':κ)(x z:ν):nS (kQ m k x) k' z=if k'=k then x else nS m k' z:=by
 induction m with
 |nil=>grind [kQ,nS]
 |cons p m ih=>
  grind [kQ,nS,cP,cS]
theorem vv(m:List (κ×ν))(k k':κ)(x:ν):mA (kQ m k x) k'=(decide (k'=k)||mA m k'):=by
 induction m with
 |nil=>rfl
 |cons p m ih=>
  unfold kQ
  grind [mA,cP,decide]
end
section
variable {N:Nat}
theorem pW(l:List Int)(a b:Nat)(h:a+b<l.length):tR l ((a:Nat):Int) ((b:Nat):Int)=some l[a+b]:=by
 unfold tR;rw[aG (by omega),show((a:Nat):Int)+((b:Nat):Int)=((a+b:Nat):Int)by omega,jC _ _ h]
theorem g8.wP{l:List Int}{a:Int}(h:g8 l)(hl:∀c∈l,c<a):g8 (l++[a]):=by
 grind [g8]
theorem g8.last{l:List Int}{a:Int}(h:g8 l)(hl:l.getLast? =some a):∀c∈l,c<=a:=by
 intro c hc;have hs:=mN hl;rw[hs]at h hc
 rcases dA.1 hc with h1|h1
 ·have:=(List.pairwise_append.1 h).2.2 c h1 a (by simp);omega
 grind
theorem rK{l:List Int}(hs:l.Pairwise (λx y=>x<=y))(hl:l.length<=4611686018427387000)(hN:l.length<N):
  Ok (er N l) (λm=>g8 m/\∀c,c∈m↔c∈l):=by
 unfold er;refine A_ (λh2=>r_ ⟨?_,λc=>Iff.rfl⟩)<|λh2=>?_
 ·have h2:=of_decide_eq_true h2
  match l,h2 with
  | [],_=>exact gI
  | [a],_=>exact List.pairwise_singleton _ _
  |a::b::l,h2=>grind
 ·have h2:=of_decide_eq_false h2;have le:∀(i j:Nat)(x y:Int),i<j->l[i]? =some x->l[j]? =some y->x<=y:=λi j x y hij hx hy=>by
   grind [ke,aV]
  refine w_ (CC (Go:=λ_=>g8 l) (Rt:=λm=>g8 m/\∀c,c∈m↔c∈l) (λs=>∃k:Nat,s=((k:Nat):Int)/\1<=k/\k<=l.length/\g8 (l.take k)) (λs=>l.length - s.toNat) ?_ ⟨1,rfl,bB _,by omega,?_⟩ (by simp;omega)) ?_
  ·rintro s⟨k,rfl,hk1,hkl,hinc⟩;refine A_ (λh=>?_)<|λh=>Cy ?_
   ·have hk:k<l.length:=by grind
    refine Ck hk ?_;rw[iU hk1 (by omega)];refine Ck (by omega) ?_;refine A_ (λhe=>?_)<|λhe=>?_
    ·have he:l[k]=l[k - 1]:=by grind
     refine k_ (nd l k hkl) ?_
     refine w_ (CC (Go:=λs=>∃i:Nat,s.2.1=((i:Nat):Int)/\i<=l.length/\s.1.length=l.length/\g8 (s.1.take i)/\∀c,c∈s.1.take i↔c∈l) (Rt:=λ_=>True)
      (λs=>∃i j:Nat,s.2.1=((i:Nat):Int)/\s.2.2=((j:Nat):Int)/\1<=j/\k+j<=l.length/\i<=k+j - 1/\s.1.length=l.length/\g8 (s.1.take i)/\(s.1.take i).getLast? =l[k+j - 1]? /\
       (∀c,c∈s.1.take i↔c∈l.take (k+j))/\∀m,k+j - 1<=m->s.1[m]? =l[m]?) (λs=>l.length - s.2.2.toNat) ?_ ?_ (by simp;omega)) ?_
     ·rintro⟨u,a,b⟩⟨i,j,e1,e2,hj,hjl,hij,hlen,hi,hlast,hmem,hrest⟩;dsimp only at e1 e2 hlen hi hlast hmem hrest ⊢;subst e1;subst e2;rw[dK];refine A_ (λh=>?_)<|λh=>Cy ?_
      ·have hlt:k+j<l.length:=by have:=of_decide_eq_true h;omega
       have hx:u[k+j]'(by omega)=l[k+j]:=by have:=hrest (k+j) (by omega);rw[aO (by omega),aO hlt]at this;injection this
       have hy:u[k+(j - 1)]'(by omega)=l[k+(j - 1)]:=by have:=hrest (k+(j - 1)) (by omega);rw[aO (by omega),aO (by omega)]at this;injection this
       refine k_ (pW u k j (by omega)) ?_;rw[iU hj (by omega)];refine k_ (pW u k (j - 1) (by omega)) ?_;rw[hx,hy];have hts:l.take (k+j+1)=l.take (k+j)++[l[k+j]]:=fU hlt;have hlast':(u.take i).getLast? =some l[k+(j - 1)]:=by rw[hlast,show k+j - 1=k+(j - 1)by omega,aO (by omega)]
       have hxy:l[k+(j - 1)]<=l[k+j]:=le (k+(j - 1)) (k+j) _ _ (by omega) (aO _)<|aO _
       refine w_ (P:=λs'=>s'.1.length=l.length/\∃i':Nat,s'.2=((i':Nat):Int)/\i'<=k+j/\g8 (s'.1.take i')/\(s'.1.take i').getLast? =l[k+j]? /\(∀c,c∈s'.1.take i'↔c∈l.take (k+j+1))/\∀m,k+j<=m->s'.1[m]? =l[m]?) ?_ ?_
       ·refine A_ (λhne=>?_)<|λhne=>r_ ?_
        ·have hne:l[k+j]≠l[k+(j - 1)]:=by simpa using hne
         refine k_ (pW u k j (by omega)) ?_;rw[hx];refine Ck (by omega)<|r_ ⟨by simp[hlen],i+1,?_,by omega,?_⟩
         ·rw[eC (by omega)]
         ·dsimp only;rw[dK];have ht:(u.set i l[k+j]).take (i+1)=u.take i++[l[k+j]]:=by
           rw[fU (by simp;omega),List.take_set_of_le<|bB _];simp
          rw[ht];refine⟨hi.wP λc hc=>?_,by simp[aO hlt],λc=>?_,λm hm=>?_⟩
          ·have:=hi.last hlast' c hc;omega
          ·rw[hts,dA,dA,hmem]
          ·rw[gJ,aI (by omega)];exact hrest m (by omega)
        ·have he:l[k+j]=l[k+(j - 1)]:=by simpa using hne
         refine⟨hlen,i,rfl,by omega,hi,?_,λc=>?_,λm hm=>hrest m (by omega)⟩
         ·dsimp only;rw[hlast',aO hlt,he]
         ·rw[hts,dA,<-hmem];constructor
          ·exact .inl
          ·rintro(h|h)
           ·exact h
           ·simp at h;subst h;rw[he];exact List.mem_of_getLast? hlast'
       ·rintro⟨v,a⟩⟨g1,i',g2,g3,g4,g5,g6,g7⟩;dsimp only at g1 g2 g4 g5 g6 g7 ⊢;refine Cn ⟨⟨i',j+1,g2,?_,by omega,by omega,by omega,g1,g4,?_,g6,λm hm=>g7 m (by omega)⟩,?_⟩
        ·rw[eC (by omega)]
        ·rw[show k+(j+1) - 1=k+j by omega];exact g5
        ·rw[eC (by omega)];simp only[dK];omega
      ·have hge:k+j=l.length:=by have:=of_decide_eq_false h;omega
       refine⟨i,rfl,by omega,hlen,hi,λc=>?_⟩;rw[hmem,hge,fu]
     ·refine⟨k,1,rfl,rfl,bB _,by omega,by omega,rfl,hinc,?_,λc=>?_,λm _=>rfl⟩
      ·dsimp only;rw[show k+1 - 1=k by omega,aO hk,he,List.getLast?_eq_getElem?,cV,Nat.min_eq_left hkl,List.getElem?_take_of_lt (by omega),aO (by omega)]
      ·dsimp only;rw[fU hk,dA];constructor
       ·exact .inl
       ·rintro(h|h)
        ·exact h
        ·simp at h;subst h;rw[he];refine dX (i:=k - 1) ?_;rw[List.getElem?_take_of_lt (by omega),aO (by omega)]
     ·rintro o ho;refine Cr ho ?_<|λr=>r.elim
      rintro⟨u,a,b⟩⟨i,e1,hi,hlen,hinc',hmem⟩;dsimp only at e1 hlen hinc' hmem ⊢;subst e1;refine k_ (nd u i (by omega)) ?_;rw[dK];refine k_ (pF _ i (by simp;omega))<|Cw ?_
      rw[List.take_append_of_le_length (by simp;omega),List.take_take,Nat.min_self];exact⟨hinc',hmem⟩
    ·have he:l[k]≠l[k - 1]:=by simpa using he
     refine Cn ⟨⟨k+1,by rw[eC (by omega)],by omega,by omega,?_⟩,by rw[eC (by omega)];simp only[dK];omega⟩;rw[fU hk];refine hinc.wP λc hc=>?_;have hlast:(l.take k).getLast? =some l[k - 1]:=by
      rw[List.getLast?_eq_getElem?,cV,Nat.min_eq_left hkl,List.getElem?_take_of_lt (by omega),aO (by omega)]
     have h3:=hinc.last hlast c hc;have h4:=le (k - 1) k _ _ (by omega) (aO (by omega:k - 1<l.length))<|aO hk
     omega
   ·have hge:k=l.length:=by have:=of_decide_eq_false h;omega
    subst hge;rw[fu]at hinc;exact hinc
  ·match l,h2 with
   | [],h2=>simp at h2
   |a::l,_=>exact List.pairwise_singleton _ _
  ·rintro o ho;exact Cr ho (λs h=>r_ ⟨h,λc=>Iff.rfl⟩)<|λr h=>r_ h
def lR(l:List aB):List Int:=l.flatMap λr=>[r.X0,r.X1]
def iH(l:List aB):List Int:=l.flatMap λr=>[r.Y0,r.Y1]
theorem iI{l:List aB}{c:Int}:c∈lR l↔∃r∈l,c=r.X0\/c=r.X1:=by simp[lR,List.mem_flatMap]
theorem eR{l:List aB}{c:Int}:c∈iH l↔∃r∈l,c=r.Y0\/c=r.Y1:=by simp[iH,List.mem_flatMap]
theorem nD(l:List aB):(lR l).length=2*l.length:=by
 induction l with
 |nil=>rfl
 |cons r l ih=>grind [lR]
theorem jZ(l:List aB):(iH l).length=2*l.length:=by
 induction l with
 |nil=>rfl
 |cons r l ih=>grind [iH]
def mP(X Y:List Int)(s:List Bd):Prop:=∀b∈s,b.y0∈Y/\b.y1∈Y/\∀c∈b.xs,c∈X
theorem mP.push{X Y:List Int}{s:List Bd}{b:Bd}(h:mP X Y s)(h0:b.y0∈Y)(h1:b.y1∈Y)(h2:∀c∈b.xs,c∈X):mP X Y (lk s b):=by
 intro c hc;unfold lk at hc;split at hc
 ·exact h c hc
 ·split at hc
  ·rename_i d hd;have hdm:d∈s:=List.mem_of_getLast? hd;split at hc
   ·rcases dA.1 hc with hc|hc
    ·exact h c<|List.dropLast_subset _ hc
    ·simp at hc;subst hc;exact⟨(h d hdm).1,h1,(h d hdm).2.2⟩
   ·rcases dA.1 hc with hc|hc
    ·exact h c hc
    grind
  grind
theorem g8.nodup{l:List Int}(h:g8 l):l.Nodup:=List.Pairwise.imp (λh=>by omega) h
theorem mP.row{X Y:List Int}{s:List Bd}(h:mP X Y s)(hc:bU s){b:Bd}(hb:b∈s):b.xs.length<=X.length:=dJ (hc.each b hb).2.2.1.nodup (h b hb).2.2
theorem mP.len{X Y:List Int}{s:List Bd}(h:mP X Y s)(hc:bU s):s.length<=Y.length:=by
 have hn:(s.map Bd.y0).Nodup:=by
  unfold List.Nodup;rw[List.pairwise_map];refine List.Pairwise.imp_of_mem (λ{a b}ha hb hab=>?_) hc.ord;have:=(hc.each a ha).1;omega
 have:=dJ hn (m:=Y) (λx hx=>by
  obtain⟨b,hb,rfl⟩:=aZ.1 hx
  exact(h b hb).1)
 grind
theorem mP.mono{X Y X' Y':List Int}{s:List Bd}(h:mP X Y s)(hx:∀c∈X,c∈X')(hy:∀c∈Y,c∈Y'):mP X' Y' s:=λb hb=>⟨hy _ (h b hb).1,hy _ (h b hb).2.1,λc hc=>hx c<|(h b hb).2.2 c hc⟩
theorem g8.lt{l:List Int}(h:g8 l){i j:Nat}{x y:Int}(hij:i<j)(hx:l[i]? =some x)(hy:l[j]? =some y):x<y:=by
 have:=ke.1 h i j (aV.1 hx).1 (aV.1 hy).1 hij
 grind
theorem g8.next{l:List Int}(h:g8 l){k:Nat}{x y c:Int}(hx:l[k]? =some x)(hy:l[k+1]? =some y)(hc:c∈l)(hxc:x<c):y<=c:=by
 obtain⟨j,hj⟩:=eZ hc
 rcases Nat.lt_trichotomy j (k+1)with h1|h1|h1
 ·exfalso
  by_cases e:j=k
  ·grind
  ·have:=h.lt (show j<k by omega) hj hx;omega
 ·grind
 ·have:=h.lt h1 hy hj;omega
theorem mQ{l:List aB}{φ:aB->Option Bool}(p:aB->Bool)(hφ:∀x∈l,φ x=some (p x))(hl:l.length<=4611686018427387000)(hN:l.length<N):ej N l φ=some (l.filter<|λx=> !p x):=
 wO (z:=(⟨0,0,0,0⟩:aB)) p hφ hl hN
theorem qz{l:List aB}(hl:l.length<=268435456):eP N l=some l:=by
 grind [eP,iF,aC]
structure zW (l m:List aB) (ys:List Int) (k:Nat) (out:List aA) (now:List aB) (nx:Nat):Prop where
 can:bU (out.map aQ)
 top:∀c∈out,∀y,ys[k]? =some y->c.Y1<=y
 cover:∀x y,lQ (out.map aQ) x y=(mO l x y&&decide (∀a,ys[k]? =some a->y<a))
 tE:mP (lR l) (iH l) (out.map aQ)
 BP:∀r∈now,r∈m.take nx
 BQ:∀r∈m.take nx,∀y,ys[k]? =some y->y<r.Y1->r∈now
 len:now.length<=nx
 Bp:nx<=m.length
 rest:∀(j:Nat)r y,nx<=j->m[j]? =some r->ys[k]? =some y->y<=r.Y0
 low:∀r∈now,∀y,ys[k]? =some y->r.Y0<=y
structure jm (l:List aB) (s:List aA):Prop where
 can:bU (s.map aQ)
 cover:∀x y,lQ (s.map aQ) x y=mO l x y
 tE:mP (lR l) (iH l) (s.map aQ)
theorem iW{l:List aB}(hl:l.length<=134217728)(hok:∀r∈l,xm r)(hN:4294967296<=N):Ok (ek N l) (jm l):=by
 unfold ek;refine k_ (qz (by omega)) ?_
 obtain⟨m,h1,h2,h3⟩:=tc (φ:=fY N) (l:=l) (λa b=>a.Y0 - b.Y0) (λa ha b hb=>by
  unfold fY;rw[pT (hok a ha).s3 (hok b hb).s3]) (λa _=>by omega) (λa _ b _ c _ h1 h2=>by omega) (λa _ b _ c _ h1 h2=>by omega) (by omega)
 refine k_ h1 ?_;have hml:m.length=l.length:=h2.length_eq;have hmem:∀r,r∈m↔r∈l:=λr=>h2.mem_iff;refine w_ (CF (λk s=>s=iH (m.take k)) (by omega) rfl<|λk s hk e=>?_) ?_
 ·grind [Ck,CM,r_,jZ,fU,iH]
 rintro s rfl;rw[fu];have hgs:po (iH m)=some ((iH m).mergeSort<|λx y=>decide<|x<=y):=by grind [po,jZ]
 refine k_ hgs ?_;have hsp:((iH m).mergeSort<|λx y=>decide<|x<=y).Pairwise (λx y=>x<=y):=by
  grind [List.pairwise_mergeSort,decide,iH,List.Pairwise.imp]
 have hsm:∀c,c∈(iH m).mergeSort (λx y=>decide<|x<=y)↔c∈iH m:=λc=>List.mem_mergeSort;have hsl:((iH m).mergeSort<|λx y=>decide<|x<=y).length=2*m.length:=by rw[List.length_mergeSort,jZ]
 generalize (iH m).mergeSort (λx y=>decide<|x<=y)=sy at hsp hsm hsl;refine w_ (rK (N:=N) hsp (by omega) (by omega)) ?_;rintro ys⟨hy,hym⟩;have hyl:ys.length<=2*m.length:=by
  have:=dJ hy.nodup (m:=sy)<|λc hc=>(hym c).1 hc
  omega
 have y0m:∀r∈m,r.Y0∈ys:=λr hr=>(hym _).2<|(hsm _).2<|eR.2 ⟨r,hr, .inl rfl⟩
 have y1m:∀r∈m,r.Y1∈ys:=λr hr=>(hym _).2<|(hsm _).2<|eR.2 ⟨r,hr, .inr rfl⟩
 have yml:∀c∈ys,c∈iH l:=λc hc=>by
  grind [eR]
 refine w_ (CC (Go:=λs=>jm l s.1) (Rt:=λ_=>True) (λs=>∃k nx:Nat,s.2.2.2=((k:Nat):Int)/\s.2.2.1=((nx:Nat):Int)/\(k<ys.length\/k=0)/\zW l m ys k s.1 s.2.1 nx) (λs=>ys.length - s.2.2.2.toNat) ?_ ?_ (by simp;omega)) ?_
 ·rintro⟨out,now,a,b⟩⟨k,nx,e1,e2,hk,I⟩;dsimp only at e1 e2 I ⊢;subst e1;subst e2;rw[eC (by omega)];refine A_ (λh=>?_)<|λh=>Cy ?_
  ·have hk1:k+1<ys.length:=by grind
   have hyk:ys[k]? =some ys[k]:=aO _;have hyk1:ys[k+1]? =some ys[k+1]:=aO hk1;have hlt:=hy.lt (Nat.lt_succ_self k) hyk hyk1;have hcov:=I.cover;simp only[hyk,Option.some.injEq,forall_eq']at hcov;refine k_ (mQ (λr=>decide<|r.Y1<=ys[k]) (λr _=>by grind [il,jC,aC]) (by have:=I.len;have:=I.Bp;omega) (by have:=I.len;have:=I.Bp;omega)) ?_;have hfl:=jy (λr:aB=> !decide (r.Y1<=ys[k])) now;have hIl:=I.len;have hIn:=I.Bp
   refine w_ (CC (Go:=λs=>∃nx':Nat,s.2=((nx':Nat):Int)/\nx'<=m.length/\s.1.length<=nx'/\(∀r∈s.1,r∈m.take nx')/\(∀r∈m.take nx',ys[k]<r.Y1->r∈s.1)/\(∀r∈s.1,r.Y0<=ys[k]/\ys[k]<r.Y1)/\(∀(j:Nat)r,nx'<=j->m[j]? =some r->ys[k]<r.Y0)) (Rt:=λ_=>True)
    (λs=>∃nx':Nat,s.2=((nx':Nat):Int)/\nx<=nx'/\nx'<=m.length/\s.1.length<=nx'/\(∀r∈s.1,r∈m.take nx')/\(∀r∈m.take nx',ys[k]<r.Y1->r∈s.1)/\(∀r∈s.1,r.Y0<=ys[k]/\ys[k]<r.Y1)) (λs=>m.length - s.2.toNat) ?_ ?_ (by simp;omega)) ?_
   ·rintro⟨nw,b⟩⟨nx',e1,g0,g1,g2,g3,g4,g5⟩;dsimp only at e1 g2 g3 g4 g5 ⊢;subst e1;refine w_ (P:=λb=>b=true↔∃h:nx'<m.length,m[nx'].Y0<=ys[k]) ?_ ?_
    ·refine A_ (λh=>?_)<|λh=>r_ ?_
     ·have hlt:nx'<m.length:=by have:=of_decide_eq_true h;omega
      refine Ck hlt<|Ck (by omega)<|r_ ?_
      rw[eY];exact⟨λh=>⟨hlt,h⟩,λ⟨_,h⟩=>h⟩
     ·have:=of_decide_eq_false h;constructor
      ·intro h;cases h
      ·rintro⟨h,_⟩;omega
    ·intro bb hbb;refine A_ (λh=>?_)<|λh=>Cy ?_
     ·obtain⟨hlt,h0⟩:=hbb.1 h;have hts:m.take (nx'+1)=m.take nx'++[m[nx']]:=fU hlt;refine Ck hlt<|CM (by simp;omega)<|Cn ⟨⟨nx'+1,by rw[eC (by omega)],by omega,by omega,by simp;omega,λr hr=>?_,λr hr hr2=>?_,λr hr=>?_⟩,by rw[eC (by omega)];simp only[dK];omega⟩
      ·rw[hts]
       rcases dA.1 hr with h|h
       ·exact List.mem_append_left _<|g3 r h
       ·exact List.mem_append_right _ h
      ·rw[hts]at hr
       rcases dA.1 hr with h|h
       ·exact List.mem_append_left _<|g4 r h hr2
       ·exact List.mem_append_right _ h
      ·rcases dA.1 hr with h|h
       ·exact g5 r h
       ·simp at h;subst h;refine⟨h0,?_⟩;have:=(hok m[nx']<|(hmem _).1<|dO hlt).y;have:=I.rest nx' _ ys[k] g0 (aO hlt) hyk;omega
     ·refine⟨nx',rfl,g1,g2,g3,g4,g5,λj r hj hr=>?_⟩;have hjl:=(aV.1 hr).1;have hlt:nx'<m.length:=by omega
      have h0:¬m[nx'].Y0<=ys[k]:=λh0=>by rw[hbb.2 ⟨hlt,h0⟩]at h;cases h
      by_cases e:nx'=j
      ·subst e;rw[aO hlt]at hr;injection hr with hr;subst hr;omega
      ·have:=ke.1 h3 nx' j hlt hjl (by omega);have hr':=(aV.1 hr).2;rw[hr']at this;omega
   ·refine⟨nx,rfl,bB _,hIn,by dsimp only;omega,λr hr=>I.BP r (iY.1 hr).1,λr hr h=>iY.2 ⟨I.BQ r hr ys[k] hyk h,by simpa using h⟩,λr hr=>?_⟩;have hr:=iY.1 hr;have hr2:ys[k]<r.Y1:=by simpa using hr.2
    exact⟨I.low r hr.1 ys[k] hyk,hr2⟩
   ·rintro o ho;refine Cr ho ?_<|λr=>r.elim
    rintro⟨nw,b⟩⟨nx',e1,g1,g2,g3,g4,g5,g6⟩;dsimp only at e1 g2 g3 g4 g5 ⊢;subst e1;refine Ck (by omega)<|Ck hk1 ?_
    have hnm:∀r∈nw,r∈l:=λr hr=>(hmem r).1<|List.take_subset _ _<|g3 r hr
    obtain⟨row,nw',s1,s2,s3,s4,s5,s6,s7⟩:=rJ (N:=N) (l:=nw) (by omega)<|λr hr=>hok r<|hnm r hr
    refine k_ s1 ?_;have hlimx:∀c∈row,c∈lR l:=λc hc=>by
     obtain⟨r,hr,h⟩:=s7 c hc;exact iI.2 ⟨r,hnm r hr,h⟩
    have hol:out.length<=2*l.length:=by have:=I.tE.len I.can;rw[jZ,fH]at this;exact this
    have hox:∀c∈out,c.Xs.length<=2*l.length:=λc hc=>by
     have:=I.tE.row I.can (b:=aQ c)<|aZ.2 ⟨c,hc,rfl⟩
     rw[nD]at this;exact this
    obtain⟨out',p1,p2⟩:=uL (N:=N) (s:=out) (b:=⟨ys[k],ys[k+1],row⟩) (by omega) (λc hc=>by have:=hox c hc;omega);refine k_ p1 ?_;have htop:∀c∈out.map aQ,c.y1<=(aQ ⟨ys[k],ys[k+1],row⟩).y0:=λc hc=>by
     obtain⟨d,hd,rfl⟩:=aZ.1 hc;exact I.top d hd ys[k] hyk
    have hcan:=qV I.can htop s3 s4;refine Cn ⟨⟨k+1,nx',rfl,rfl, .inl hk1,⟨by dsimp only;rw[p2];exact hcan,λc hc y hy1=>?_,λx y=>?_,?_,λr hr=>g3 r<|s2.subset hr,λr hr y hy1 h=>?_,by rw[s2.length_eq];exact g2,g1,λj r y hj hr hy1=>?_,λr hr y hy1=>?_⟩⟩,by simp only[dK];omega⟩
    ·rw[hyk1]at hy1;injection hy1 with hy1;subst hy1
     have hm':aQ c∈lk (out.map aQ) (aQ ⟨ys[k],ys[k+1],row⟩):=by rw[<-p2];exact aZ.2 ⟨c,hc,rfl⟩
     exact qW htop (by show ys[k]<=ys[k+1];omega) _ hm'
    ·simp only[hyk1,Option.some.injEq,forall_eq'];unfold lQ;rw[p2,qU htop (λc hc=>(I.can.each c hc).1)<|λh=>absurd h (by show ¬ys[k+1]<=ys[k];omega)]
     by_cases hyy:ys[k]<=y/\y<ys[k+1]
     ·rw[aG (show(aQ ⟨ys[k],ys[k+1],row⟩).y0<=y/\y<(aQ ⟨ys[k],ys[k+1],row⟩).y1 from hyy),cS hyy.2,Bool.and_true];show jl row x=_;rw[s5,jw,pS,gz];constructor
      ·rintro⟨r,hr,h⟩;have hrm:=List.take_subset _ _<|g3 r hr
       have h5:=g5 r hr;have:=hy.next hyk hyk1 (y1m r hrm) h5.2;exact⟨r,hnm r hr,h,by omega,by omega⟩
      ·rintro⟨r,hr,h,h7,h8⟩;have hrm:=(hmem r).2 hr;have h9:r.Y0<=ys[k]:=by
        by_cases h10:r.Y0<=ys[k]
        ·exact h10
        ·have:=hy.next hyk hyk1 (y0m r hrm) (by omega);omega
       have h11:r∈m.take nx':=by
        obtain⟨j,hj⟩:=eZ hrm
        by_cases h12:j<nx'
        ·exact dX (i:=j) (by rw[List.getElem?_take_of_lt h12];exact hj)
        ·have:=g6 j r (by omega) hj;omega
       exact⟨r,g4 r h11 (by omega),h⟩
     ·rw[aI (show ¬((aQ ⟨ys[k],ys[k+1],row⟩).y0<=y/\y<(aQ ⟨ys[k],ys[k+1],row⟩).y1)from hyy)];show lQ (out.map aQ) x y=_;rw[hcov]
      by_cases h1:y<ys[k]
      ·rw[cS h1,cS (show y<ys[k+1]by omega)]
      ·rw[cP h1,cP (show ¬y<ys[k+1]by omega)]
    ·show mP (lR l) (iH l) (out'.map aQ);rw[p2];exact I.tE.push (yml _<|dO _) (yml _<|dO _) hlimx
    ·rw[hyk1]at hy1;injection hy1 with hy1;subst hy1
     exact s2.symm.subset<|g4 r hr (by omega)
    ·rw[hyk1]at hy1;injection hy1 with hy1;subst hy1
     exact hy.next hyk hyk1 (y0m r<|dX hr)<|g6 j r hj hr
    ·rw[hyk1]at hy1;injection hy1 with hy1;subst hy1
     have:=(g5 r<|s2.subset hr).1;omega
  ·have hge:¬k+1<ys.length:=by have:=of_decide_eq_false h;omega
   refine⟨I.can,λx y=>?_,I.tE⟩;rw[I.cover]
   by_cases hyn:ys= []
   ·have:mO l x y=false:=by
     rw[<-Bool.not_eq_true,gz];rintro⟨r,hr,_⟩;have:=y0m r<|(hmem r).2 hr
     rw[hyn]at this;cases this
    rw[this];rfl
   ·have hkl:k<ys.length:=by
     rcases hk with h|h
     ·exact h
     ·subst h;exact List.length_pos_iff.2 hyn
    rw[aO hkl];simp only[Option.some.injEq,forall_eq']
    cases hc:mO l x y with
    |false=>rfl
    |true=>
     obtain⟨r,hr,_,h7,h8⟩:=gz.1 hc;have:=y1m r<|(hmem r).2 hr
     obtain⟨j,hj⟩:=eZ this;have hjl:=(aV.1 hj).1;have:r.Y1<=ys[k]:=by
      by_cases e:j=k
      ·subst e;rw[aO hkl]at hj;injection hj with hj;omega
      ·have:=hy.lt (show j<k by omega) hj<|aO hkl;omega
     rw[cS (show y<ys[k]by omega)];rfl
 ·refine⟨0,0,rfl,rfl, .inr rfl,?_⟩;show zW l m ys 0 [] [] 0;refine⟨bU.nil,λc hc=>(by cases hc),λx y=>?_,λb hb=>(by cases hb),λr hr=>(by cases hr),λr hr=>(by rw[List.take_zero]at hr;cases hr),bB _,kd _,λj r y _ hr hy0=>?_,λr hr=>(by cases hr)⟩
  ·show false=_;symm;rw[Bool.and_eq_false_iff]
   cases hc:mO l x y with
   |false=>exact .inl rfl
   |true=>
    right;obtain⟨r,hr,_,h7,h8⟩:=gz.1 hc;have hr0:=y0m r<|(hmem r).2 hr
    have hpos:0<ys.length:=List.length_pos_of_mem hr0;rw[decide_eq_false_iff_not];intro h;have h:=h ys[0]<|aO hpos
    obtain⟨j,hj⟩:=eZ hr0
    by_cases e:j=0
    ·subst e;rw[aO hpos]at hj;injection hj with hj;omega
    ·have:=hy.lt (show 0<j by omega) (aO hpos) hj;omega
  ·obtain⟨j',hj'⟩:=eZ<|y0m r<|dX hr
   by_cases e:j'=0
   ·subst e;rw[hy0]at hj';injection hj' with hj';omega
   ·have:=hy.lt (show 0<j' by omega) hy0 hj';omega
 ·rintro o ho;refine Cr ho (λs h=>r_ h)<|λr=>r.elim
end
section
variable {N:Nat}
def qo:List Int->List (Int×Int)
 |a::b::l=>(a,b)::qo l
 |_=>[]
theorem o5:∀(xs:List Int),(qo xs).length=xs.length / 2
 | []=>rfl
 | [a]=>by simp[qo]
 |a::b::l=>by unfold qo;rw[g9,o5 l];simp only[g9];omega
theorem nE:∀(xs:List Int)(j:Nat)(h:2*j+1<xs.length),(qo xs)[j]? =some (xs[2*j],xs[2*j+1])
 | [],j,h=>by simp at h
 | [a],j,h=>by simp at h
 |a::b::l,0,h=>rfl
 |a::b::l,j+1,h=>by
  have:=nE l j (by grind);unfold qo;rw[List.getElem?_cons_succ,this];have e1:(a::b::l)[2*(j+1)]=l[2*j]'(by grind):=by simp[show 2*(j+1)=2*j+1+1 by omega]
  have e2:(a::b::l)[2*(j+1)+1]=l[2*j+1]'(by grind):=by simp[show 2*(j+1)+1=2*j+1+1+1 by omega]
  rw[e1,e2]
theorem tg:∀{xs:List Int},xs.length % 2=0->te (qo xs)=xs
 | [],_=>rfl
 | [a],h=>by simp at h
 |a::b::l,h=>by unfold qo;rw[pU,tg (by grind)]
theorem xZ{xs:List Int}(h:g8 xs)(he:xs.length % 2=0)(x:Int):jl xs x=vq (qo xs) x:=by
 grind [tf,qo,tg]
theorem uM{xs:List Int}:∀p∈qo xs,p.1∈xs/\p.2∈xs:=by
 grind [eZ,aV,o5,nE,dO]
theorem wQ{xs:List Int}(h:g8 xs):∀p∈qo xs,p.1<p.2:=by
 intro p hp;obtain⟨j,hj⟩:=eZ hp;have hjl:=(aV.1 hj).1;rw[o5]at hjl;rw[nE xs j (by omega)]at hj;injection hj with hj;subst hj
 exact h.lt (show 2*j<2*j+1 by omega) (aO _)<|aO _
def gX(b:aA):List aB:=(qo b.Xs).map λp=>⟨p.1,b.Y0,p.2,b.Y1⟩
def aD(s:List aA):List aB:=s.flatMap gX
theorem kj(b:aA)(s:List aA):aD (b::s)=gX b++aD s:=rfl
theorem jJ(b:aA):(gX b).length=b.Xs.length / 2:=by simp[gX,fH,o5]
theorem gF(s t:List aA):aD (s++t)=aD s++aD t:=List.flatMap_append
theorem n9(s:List aA)(k:Nat):(aD<|s.take k).length<=(aD s).length:=by
 grind [List.take_append_drop,gF,dL]
theorem pX{s:List aA}{A B:Nat}(h1:s.length<=A)(h2:∀b∈s,b.Xs.length<=B):(aD s).length<=A*B:=by
 induction s generalizing A with
 |nil=>simp[aD]
 |cons b s ih=>
  rw[kj,dL,jJ];simp at h1;obtain⟨A',rfl⟩:∃A',A=A'+1:=⟨A - 1,by omega⟩
  grind
theorem nF{s:List aA}(he:∀b∈s,b.Xs.length % 2=0)(h1:s.length<=1099511627776)(h2:∀b∈s,b.Xs.length<=1099511627776/\b.Xs.length<N)(h3:(aD s).length<=1099511627776):dH N s=some (aD s):=by
 refine C1 ?_;unfold dH;refine w_ (CF (λk t=>t=aD (s.take k)) (by omega) rfl<|λk t hk e=>?_)<|λt e=>r_ (by rw[e,fu])
 subst e;refine Ck hk ?_;have hm:=dO hk;generalize hb:s[k]=b at hm ⊢;have heb:=he b hm;have hbl:=h2 b hm;have hts:aD (s.take<|k+1)=aD (s.take k)++gX b:=by
  grind [fU,gF,aD]
 have hle:=n9 s<|k+1
 rw[hts,dL,jJ]at hle;refine w_ (CC (Go:=λs'=>s'.1=aD (s.take<|k+1)) (Rt:=λ_=>True) (λs'=>∃j:Nat,s'.2=((2*j:Nat):Int)/\2*j<=b.Xs.length/\s'.1=aD (s.take k)++(gX b).take j) (λs'=>b.Xs.length - s'.2.toNat) ?_ ⟨0,rfl,by omega,by simp⟩ (by simp;omega)) ?_
 ·rintro⟨acc,i⟩⟨j,e1,hj,e2⟩;dsimp only at e1 e2 ⊢;subst e1;subst e2;refine A_ (λh=>?_)<|λh=>Cy ?_
  ·have hlt:2*j+1<b.Xs.length:=by grind
   refine Ck (by omega) ?_;rw[eC (by omega)];refine Ck hlt<|CM ?_<|Cn ⟨⟨j+1,?_,by omega,?_⟩,?_⟩
   ·grind
   ·rw[qX (by omega)];congr 1
   ·rw[kb];congr 1;have hg:(gX b)[j]? =some ⟨b.Xs[2*j],b.Y0,b.Xs[2*j+1],b.Y1⟩:=by
     grind [gX,nE]
    have hjl:=(aV.1 hg).1;rw[fU hjl,(aV.1 hg).2]
   ·rw[qX (by omega)];simp only[dK];omega
  ·have hge:2*j=b.Xs.length:=by have:=of_decide_eq_false h;omega
   show aD (s.take k)++(gX b).take j=_;rw[hts,lX (l:=gX b) (by rw[jJ];omega)]
 ·rintro o ho;exact Cr ho (λs' h=>r_ h)<|λr=>r.elim
theorem x0{s:List aA}(h1:s.length<=1099511627776)(h2:∀b∈s,b.Xs.length<=1099511627776)(h3:(aD s).length<=1099511627776):f9 N s=some (((aD s).length:Nat):Int):=by
 refine C1 ?_;unfold f9;refine w_ (CF (λk t=>t=(((aD<|s.take k).length:Nat):Int)) (by omega) rfl<|λk t hk e=>?_)<|λt e=>r_ (by rw[e,fu])
 subst e;refine Ck hk<|r_ ?_
 have hm:=dO hk;have hbl:=h2 _ hm;have hts:aD (s.take<|k+1)=aD (s.take k)++gX s[k]:=by
  grind [fU,gF,aD]
 grind [hle,n9,dL,jJ,Int.tdiv,Int.ofNat_tdiv,pV,wrap_add]
theorem ud(l m:List aB)(x y:Int):mO (l++m) x y=(mO l x y||mO m x y):=List.any_append
theorem wR{b:aA}(h:g8 b.Xs)(he:b.Xs.length % 2=0)(x y:Int):mO (gX b) x y=(jl b.Xs x&&(decide (b.Y0<=y)&&decide (y<b.Y1))):=by
 rw[xZ h he,jw,gz,bI,wN,bI,eY,eY];unfold gX;constructor
 ·grind
 ·rintro⟨⟨p,hp,h1⟩,h2⟩;exact⟨_,aZ.2 ⟨p,hp,rfl⟩,h1,h2⟩
theorem kJ:∀{s:List aA},bU (s.map aQ)->∀x y,mO (aD s) x y=lQ (s.map aQ) x y
 | [],_,x,y=>rfl
 |b::s,h,x,y=>by
  rw[kj,ud,kJ h.tail x y];have hb:=h.each (aQ b) (by simp);rw[wR hb.2.2.1 hb.2.2.2];unfold lQ;rw[ee,jY]
  by_cases hy:b.Y0<=y/\y<b.Y1
  ·rw[aG (show(aQ b).y0<=y/\y<(aQ b).y1 from hy),gk<|λc hc=> .inl (by have:=h.qS c hc;grind [aQ]),cS hy.1,cS hy.2];show(jl b.Xs x&&true||false)=jl b.Xs x;simp
  ·rw[aI (show ¬((aQ b).y0<=y/\y<(aQ b).y1)from hy)];have:(decide (b.Y0<=y)&&decide (y<b.Y1))=false:=by rw[Bool.and_eq_false_iff,decide_eq_false_iff_not,decide_eq_false_iff_not];omega
   rw[this];simp
theorem l5{s:List aA}{r:aB}(h:r∈aD s):∃b∈s,∃p∈qo b.Xs,r= ⟨p.1,b.Y0,p.2,b.Y1⟩:=by
 unfold aD gX at h
 grind
theorem nG{s:List aA}{X Y:List Int}(h:bU (s.map aQ))(hl:mP X Y (s.map aQ))(hx:∀c∈X,small c)(hy:∀c∈Y,small c):∀r∈aD s,xm r/\(r.X0∈X/\r.X1∈X)/\r.Y0∈Y/\r.Y1∈Y:=by
 intro r hr;obtain⟨b,hb,p,hp,rfl⟩:=l5 hr;have hm:aQ b∈s.map aQ:=aZ.2 ⟨b,hb,rfl⟩;have hc:=h.each _ hm;have hll:=hl _ hm;have h1:=uM p hp;have h2:=hll.2.2 p.1 h1.1;have h3:=hll.2.2 p.2 h1.2;exact⟨⟨wQ hc.2.2.1 p hp,hc.1,hx _ h2,hx _ h3,hy _ hll.1,hy _ hll.2.1⟩,⟨h2,h3⟩,hll.1,hll.2.1⟩
theorem mR{l:List Int}{x:Int}(h:∀c∈l,c<=x):jl l x=(l.length % 2==1):=by grind [jl,uJ]
theorem oc{l:List Int}{a x:Int}(h:x<a):jl (l++[a]) x=jl l x:=by grind [jl,pN,jX,uI]
def vx(l:List Int):Bool:=l.length % 2==1
theorem pY(l:List Int)(a:Int):vx (l++[a]) = !vx l:=by
 unfold vx
 grind
structure th (fD:Bool->Bool->Bool) (a b a' b' out:List Int) (inA inB is:Bool) (pa pb:List Int):Prop where
 ea:a=pa++a'
 eb:b=pb++b'
 oa:inA=vx pa
 ob:inB=vx pb
 oo:is=vx out
 ok:is=fD inA inB
 low:∀c,(c∈pa\/c∈pb\/c∈out)->∀d,(d∈a'\/d∈b')->c<d
 inc:g8 out
 zX:∀x,(∀d,(d∈a'\/d∈b')->x<d)->jl out x=fD (jl pa x) (jl pb x)
 mem:∀c∈out,c∈pa\/c∈pb
 len:out.length<=pa.length+pb.length
theorem th.step{fD:Bool->Bool->Bool}{a b a' b' out:List Int}{inA inB is:Bool}{pa pb:List Int}(I:th fD a b a' b' out inA inB is pa pb)(ha:g8 a)(hb:g8 b)(x:Int)(ta tb:List Int)(wa wb:Bool)
  (h1:a'=(if wa then x::ta else ta)) (h2:b'=(if wb then x::tb else tb)) (hw:wa=true\/wb=true) (hx:∀d,(d∈ta\/d∈tb)->x<d):
  th fD a b ta tb (if fD (inA ^^ wa) (inB ^^ wb)=is then out else out++[x]) (inA ^^ wa) (inB ^^ wb) (fD (inA ^^ wa)<|inB ^^ wb) (if wa then pa++[x]else pa) (if wb then pb++[x]else pb):=by
 have hxm:x∈a'\/x∈b':=by
  grind
 have hsub:∀d,(d∈ta\/d∈tb)->d∈a'\/d∈b':=λd hd=>by
  grind
 have hlow:∀c,(c∈pa\/c∈pb\/c∈out)->c<x:=λc hc=>I.low c hc x hxm;have hpa:∀c∈(if wa then pa++[x]else pa),c∈pa\/(wa=true/\c=x):=λc hc=>by
  grind
 have hpb:∀c∈(if wb then pb++[x]else pb),c∈pb\/(wb=true/\c=x):=λc hc=>by
  grind
 have hout:∀c∈(if fD (inA ^^ wa) (inB ^^ wb)=is then out else out++[x]),c∈out\/c=x:=λc hc=>by
  grind
 have ooA:(inA ^^ wa)=vx (if wa then pa++[x]else pa):=by
  rw[I.oa];grind [pY]
 have ooB:(inB ^^ wb)=vx (if wb then pb++[x]else pb):=by
  rw[I.ob];grind [pY]
 have ooO:fD (inA ^^ wa) (inB ^^ wb)=vx (if fD (inA ^^ wa) (inB ^^ wb)=is then out else out++[x]):=by
  split
  ·rename_i h;rw[h];exact I.oo
  ·rename_i h;rw[pY,<-I.oo]
   cases hk:fD (inA ^^ wa) (inB ^^ wb) <;> cases his:is <;> simp_all
 refine⟨?_,?_,ooA,ooB,ooO,rfl,?_,?_,?_,?_,?_⟩
 ·rw[I.ea,h1];grind
 ·rw[I.eb,h2];grind
 ·grind
 ·split
  ·exact I.inc
  ·exact I.inc.wP λc hc=>hlow c<|.inr<|.inr hc
 ·intro y hy
  by_cases hxy:y<x
  ·have e1:jl (if wa then pa++[x]else pa) y=jl pa y:=by grind [oc]
   have e2:jl (if wb then pb++[x]else pb) y=jl pb y:=by grind [oc]
   have e3:jl (if fD (inA ^^ wa) (inB ^^ wb)=is then out else out++[x]) y=jl out y:=by grind [oc]
   rw[e1,e2,e3];refine I.zX y λd hd=>?_
   grind
  ·rw[mR (l:=if wa then pa++[x]else pa),mR (l:=if wb then pb++[x]else pb),mR]
   ·have e1:=ooA;have e2:=ooB;have e3:=ooO;unfold vx at e1 e2 e3;rw[<-e1,<-e2,<-e3]
   ·intro c hc
    rcases hout c hc with h|rfl
    ·have:=hlow c<|.inr<|.inr h;omega
    ·omega
   ·intro c hc
    rcases hpb c hc with h|⟨_,rfl⟩
    ·have:=hlow c<|.inr<|.inl h;omega
    ·omega
   ·intro c hc
    rcases hpa c hc with h|⟨_,rfl⟩
    ·have:=hlow c<|.inl h;omega
    ·omega
 ·intro c hc;have m1:∀c,c∈pa->c∈(if wa then pa++[x]else pa):=λc h=>by split;exact List.mem_append_left _ h;exact h
  have m2:∀c,c∈pb->c∈(if wb then pb++[x]else pb):=λc h=>by split;exact List.mem_append_left _ h;exact h
  rcases hout c hc with h|rfl
  ·rcases I.mem c h with h|h
   ·exact .inl<|m1 c h
   ·exact .inr<|m2 c h
  ·rcases hw with h|h
   ·left;rw[aG h];simp
   ·right;rw[aG h];simp
 ·have:=I.len;have h3:(if wa then pa++[x]else pa).length+(if wb then pb++[x]else pb).length>=pa.length+pb.length+1:=by
   rcases hw with h|h
   ·subst h;cases wb <;> simp <;> omega
   ·subst h;cases wa <;> simp <;> omega
  split
  ·omega
  ·simp at h3 ⊢;omega
end
section
variable {N:Nat}
theorem dZ(x:Int)(l:List Int):idx (x::l) 0=some x:=rfl
theorem kK{α:Type}(x:α)(l:List α):mZ (x::l) 1 (((x::l).length:Nat):Int)=some l:=nd (x::l) 1 (by simp)
theorem eT{α:Type}(x:α)(l:List α):decide ((((x::l).length:Nat):Int)>0)=true:=cS (by simp)
theorem l6{α:Type}(x:α)(l:List α):((((x::l).length:Nat):Int)==0)=false:=by rfl
theorem ue{a b:List Int}(ha:g8 a)(hb:g8 b)(h:a≠[]\/b≠[]):∃x ta tb wa wb,a=(if wa then x::ta else ta)/\b=(if wb then x::tb else tb)/\(wa=true\/wb=true)/\(∀d,(d∈ta\/d∈tb)->x<d):=by
 match a,b,ha,hb,h with
 | [],[],_,_,h=>grind
 |x::ta,[],ha,_,_=>exact⟨x,ta,[],true,false,rfl,rfl, .inl rfl,λd hd=>by rcases hd with h|h;exact ha.head d h;cases h⟩
 | [],y::tb,_,hb,_=>exact⟨y,[],tb,false,true,rfl,rfl, .inr rfl,λd hd=>by rcases hd with h|h;cases h;exact hb.head d h⟩
 |x::ta,y::tb,ha,hb,_=>
  rcases Int.lt_trichotomy x y with h|h|h
  ·refine⟨x,ta,y::tb,true,false,rfl,rfl, .inl rfl,λd hd=>?_⟩
   rcases hd with h1|h1
   ·exact ha.head d h1
   ·rcases eE.1 h1 with rfl|h1
    ·exact h
    ·have:=hb.head d h1;omega
  ·subst h;exact⟨x,ta,tb,true,true,rfl,rfl, .inl rfl,λd hd=>by rcases hd with h|h;exact ha.head d h;exact hb.head d h⟩
  ·refine⟨y,x::ta,tb,false,true,rfl,rfl, .inr rfl,λd hd=>?_⟩
   rcases hd with h1|h1
   ·rcases eE.1 h1 with rfl|h1
    ·exact h
    ·have:=ha.head d h1;omega
   ·exact hb.head d h1
theorem vz{φ:Bool->Bool->Option Bool}{fD:Bool->Bool->Bool}(hφ:∀p q,φ p q=some (fD p q))(hk:fD false false=false){a b:List Int}(ha:g8 a)(hb:g8 b)(hae:a.length % 2=0)(hbe:b.length % 2=0)
  (xC:a.length<=1099511627776) (hbl:b.length<=1099511627776) (hN:a.length+b.length<N):
  Ok (jN N a b φ) (λm=>g8 m/\m.length % 2=0/\(∀x,jl m x=fD (jl a x) (jl b x))/\∀c∈m,c∈a\/c∈b):=by
 unfold jN
 refine w_ (CC (Go:=λs=>g8 s.2.2.1/\s.2.2.1.length % 2=0/\(∀x,jl s.2.2.1 x=fD (jl a x) (jl b x))/\∀c∈s.2.2.1,c∈a\/c∈b) (Rt:=λ_=>True)
  (λs=>∃pa pb,th fD a b s.1 s.2.1 s.2.2.1 s.2.2.2.1 s.2.2.2.2.1 s.2.2.2.2.2 pa pb) (λs=>s.1.length+s.2.1.length) ?_ ?_ hN) ?_
 ·rintro⟨a',b',out,inA,inB,is⟩⟨pa,pb,I⟩;dsimp only at I ⊢;have ha':g8 a':=by have:=ha;rw[I.ea]at this;exact(List.pairwise_append.1 this).2.1
  have hb':g8 b':=by have:=hb;rw[I.eb]at this;exact(List.pairwise_append.1 this).2.1
  have hle:pa.length+a'.length=a.length:=by rw[I.ea];simp
  have hlb:pb.length+b'.length=b.length:=by rw[I.eb];simp
  have hlo:=I.len
  by_cases hne:a'≠[]\/b'≠[]
  ·obtain⟨x,ta,tb,wa,wb,h1,h2,hw,hx⟩:=ue ha' hb' hne;have J:=I.step ha hb x ta tb wa wb h1 h2 hw hx;have fin:∀(sa sb:List Int×Bool),sa=(ta,inA ^^ wa)->sb=(tb,inB ^^ wb)->
     Ok ((φ sa.2 sb.2).bind λx220=>(bif x220 != is then((app 8 out ([x]:List Int)).bind λx227=>some (x227,x220))else some (out,is)).bind λs224=>some<|Fl.nx (sa.1,sb.1,s224.1,sa.2,sb.2,s224.2))
      (zg (λs':List Int×List Int×List Int×Bool×Bool×Bool=>(∃pa pb,th fD a b s'.1 s'.2.1 s'.2.2.1 s'.2.2.2.1 s'.2.2.2.2.1 s'.2.2.2.2.2 pa pb)/\s'.1.length+s'.2.1.length<a'.length+b'.length) (λs=>g8 s.2.2.1/\s.2.2.1.length % 2=0/\(∀x,jl s.2.2.1 x=fD (jl a x) (jl b x))/\∀c∈s.2.2.1,c∈a\/c∈b) (λ_:Empty=>True)):=by
    rintro _ _ rfl rfl;refine k_ (hφ _ _) ?_;have hlt:ta.length+tb.length<a'.length+b'.length:=by
     rw[h1,h2]
     rcases hw with h|h
     ·subst h;cases wb <;> simp <;> omega
     ·subst h;cases wa <;> simp <;> omega
    by_cases he:fD (inA ^^ wa) (inB ^^ wb)=is
    ·rw[aG he]at J;refine k_ (x:=(out,is)) (by grind) ?_;rw[he]at J;exact Cn ⟨⟨_,_,J⟩,hlt⟩
    ·rw[aI he]at J;refine k_ (x:=(out++[x],fD (inA ^^ wa)<|inB ^^ wb)) (by grind [iF,aC])<|Cn ⟨⟨_,_,J⟩,hlt⟩
   rcases hw with rfl|rfl
   ·rw[aG rfl]at h1;subst h1;refine k_ (x:=true) (by rw[eT,aW]) ?_;rw[aW];have hle2:(bif((b'.length:Nat):Int)==0 then some true else(bif decide ((((x::ta).length:Nat):Int)>0)then((idx (x::ta) 0).bind λx181=>(idx b' 0).bind λx183=>some<|decide<|x181<=x183)else some false))=some true:=by
     cases b' with
     |nil=>rfl
     |cons y b''=>
      rw[l6,bN,eT,aW,dZ,aC,dZ,aC];have:x<=y:=by
       cases wb with
       |true=>grind
       |false=>have:=hx y (.inr (by grind));omega
      rw[cS this]
    refine k_ hle2 ?_;rw[aW];refine k_ (x:=x) (by rw[dZ,aC]) ?_;refine k_ (x:=true) (by simp[eT,aW,dZ,aC]) ?_;refine k_ (x:=(ta,!inA)) (by grind [kK,aC]) ?_
    cases wb with
    |true=>
     rw[aG rfl]at h2;subst h2;refine k_ (x:=true) (by rw[eT,aW,dZ,aC];simp) ?_;refine k_ (x:=(tb,!inB)) (by rw[aW,kK,aC]) ?_;exact fin _ _ (by simp) (by simp)
    |false=>
     have h2:b'=tb:=h2;subst h2;refine k_ (x:=false) ?_ ?_
     ·cases b' with
      |nil=>rfl
      |cons y b''=>
       have:=hx y<|.inr (by simp)
       rw[eT,aW,dZ,aC,show(y==x)=false by rw[beq_eq_false_iff_ne];omega]
     ·refine k_ (x:=(b',inB)) (by rw[bN]) ?_;exact fin _ _ (by simp) (by simp)
   ·cases wa with
    |true=>
     rw[aG rfl]at h1 h2;subst h1;subst h2;refine k_ (x:=true) (by rw[eT,aW]) ?_;rw[aW];refine k_ (x:=true) (by rw[l6,bN,eT,aW,dZ,aC,dZ,aC];simp) ?_;rw[aW];refine k_ (x:=x) (by rw[dZ,aC]) ?_;refine k_ (x:=true) (by rw[eT,aW,dZ,aC];simp) ?_;refine k_ (x:=(ta,!inA)) (by rw[aW,kK,aC]) ?_;refine k_ (x:=true) (by rw[eT,aW,dZ,aC];simp) ?_;refine k_ (x:=(tb,!inB)) (by rw[aW,kK,aC]) ?_;exact fin _ _ (by simp) (by simp)
    |false=>
     have h1:a'=ta:=h1;rw[aG rfl]at h2;subst h1;subst h2;refine k_ (x:=true) (by rw[eT,xU];simp) ?_;rw[aW];refine k_ (x:=false) ?_ ?_
     ·rw[l6,bN]
      cases a' with
      |nil=>rfl
      |cons y a''=>
       have:=hx y<|.inl (by simp)
       rw[eT,aW,dZ,aC,dZ,aC,cP (by omega)]
     ·rw[bN];refine k_ (x:=x) (by rw[dZ,aC]) ?_;refine k_ (x:=false) ?_ ?_
      ·cases a' with
       |nil=>rfl
       |cons y a''=>
        have:=hx y<|.inl (by simp)
        rw[eT,aW,dZ,aC,show(y==x)=false by rw[beq_eq_false_iff_ne];omega]
      ·refine k_ (x:=(a',inA)) (by rw[bN]) ?_;refine k_ (x:=true) (by rw[eT,aW,dZ,aC];simp) ?_;refine k_ (x:=(tb,!inB)) (by rw[aW,kK,aC]) ?_;exact fin _ _ (by simp) (by simp)
  ·have ea:a'= []:=Classical.byContradiction λh=>hne<|.inl h
   have eb:b'= []:=Classical.byContradiction λh=>hne<|.inr h
   subst ea;subst eb;refine k_ (x:=false) rfl ?_;refine Cy ⟨I.inc,?_,λx=>?_,λc hc=>?_⟩
   ·have h1:=I.ea;have h2:=I.eb;rw[gm]at h1 h2;have h3:vx out=false:=by
     rw[<-I.oo,I.ok,I.oa,I.ob,<-h1,<-h2];unfold vx;rw[hae,hbe];exact hk
    unfold vx at h3;rw[beq_eq_false_iff_ne]at h3;dsimp only;omega
   ·have:=I.zX x (λd hd=>by rcases hd with h|h <;> cases h);have h1:=I.ea;have h2:=I.eb;rw[gm]at h1 h2;rw[h1,h2];exact this
   ·have h1:=I.ea;have h2:=I.eb;rw[gm]at h1 h2;rw[h1,h2];exact I.mem c hc
 ·exact⟨[],[],rfl,rfl,rfl,rfl,rfl,hk.symm,λc hc=>(by rcases hc with h|h|h <;> cases h),gI,λx _=>hk.symm,λc hc=>(by cases hc),bB _⟩
 ·rintro o ho;exact Cr ho (λs h=>r_ h)<|λr=>r.elim
theorem bU.app{s t:List Bd}(h:bU (s++t)):bU t:=⟨λb hb=>h.each b<|List.mem_append_right _ hb,(List.pairwise_append.1 h.ord).2.1⟩
theorem bU.low{b:Bd}{s:List Bd}(h:bU (b::s)):∀c∈b::s,b.y0<=c.y0:=λc hc=>by
 rcases eE.1 hc with rfl|hc
 ·exact Int.le_refl _
 ·have:=h.qS c hc;have:=(h.each b (by simp)).1;omega
theorem bU.high{s:List Bd}{b:Bd}(h:bU (s++[b])):∀c∈s++[b],c.y1<=b.y1:=λc hc=>by
 rcases dA.1 hc with hc|hc
 ·have:=((List.pairwise_append.1 h.ord).2.2 c hc b (by simp)).1;have:=(h.each b (by simp)).1;omega
 ·simp at hc;subst hc;exact Int.le_refl _
def tF(s:List aA)(y e:Int):List Int×Int:=match s with
 | []=>([],e)
 |b::_=>if y<b.Y0 then([],if b.Y0<e then b.Y0 else e)else(b.Xs,if b.Y1<e then b.Y1 else e)
theorem wS{α:Type}(x:α)(l:List α):idx (x::l) 0=some x:=rfl
theorem yp(s:List aA)(y e:Int):gu N s y e=some (tF s y e):=by
 unfold gu tF
 cases s with
 |nil=>rfl
 |cons b s=>
  grind [l6,wS,aC,cS,cP]
theorem uN{s:List aA}{y e:Int}{X Y:List Int}(hc:bU (s.map aQ))(hl:mP X Y (s.map aQ))(hh:∀b t,s=b::t->y<b.Y1)(hy:y<e):
  y<(tF s y e).2/\(tF s y e).2<=e/\(∀y',y<=y'->y'<(tF s y e).2->rowAt (s.map aQ) y'=(tF s y e).1)/\g8 (tF s y e).1/\(tF s y e).1.length % 2=0/\((tF s y e).2=e\/(tF s y e).2∈Y)/\∀c∈(tF s y e).1,c∈X:=by
 cases s with
 |nil=>exact⟨hy,Int.le_refl _,λy' _ _=>rfl,gI,rfl, .inl rfl,λc hc=>(by cases hc)⟩
 |cons b t=>
  have hb:=hc.each (aQ b) (by simp);have hlb:=hl (aQ b) (by simp);have h1:=hh b t rfl;unfold tF;dsimp only
  by_cases h:y<b.Y0
  ·rw[aG h];dsimp only;refine⟨by omega,by omega,λy' h2 h3=>?_,gI,rfl,?_,λc hc=>(by cases hc)⟩
   ·exact hc.l4 (by show y'<b.Y0;omega)
   ·split
    ·exact .inr hlb.1
    omega
  grind [bU.gl,aQ]
theorem qY{y:Int}{a:List aA}(hN:a.length<N){body:List aA->Option (Fl (List aA) Empty)}
  (hb:body=λ(s373:List aA)=>((bif decide ((s373.length:Int)>0)then((idx s373 0).bind λx407=>some<|decide<|x407.Y1<=y)else some false).bind λs405=>bif s405 then((mZ s373 1 (s373.length:Int)).bind λx410=>some<|.nx x410)else(some<|.br s373):Option (Fl (List aA) Empty))):
  Ok (kl body N a) (zU (λa'=>∃p,a=p++a'/\(∀c∈p,c.Y1<=y)/\∀b t,a'=b::t->y<b.Y1)<|λ_=>True):=by
 subst hb;refine CC (λa'=>∃p,a=p++a'/\∀c∈p,c.Y1<=y) List.length ?_ ⟨[],rfl,λc hc=>(by cases hc)⟩ hN;rintro a'⟨p,e,hp⟩
 cases a' with
 |nil=>simp_all[k_,Cy]
 |cons b t=>
  refine k_ (x:=decide<|b.Y1<=y) (by rw[eT,aW,wS,aC]) ?_;refine A_ (λh=>?_)<|λh=>Cy ⟨p,e,hp,λb' t' h'=>?_⟩
  ·have h:=of_decide_eq_true h;refine k_ (kK b t)<|Cn ⟨⟨p++[b],by rw[e];simp,λc hc=>?_⟩,by simp⟩
   grind
  grind
theorem ti{p a':List Bd}{y y':Int}(hp:∀c∈p,c.y1<=y)(h:y<=y'):rowAt (p++a') y'=rowAt a' y':=by
 grind [jE]
structure rL (fD:Bool->Bool->Bool) (X Y:List Int) (a b s:List aA):Prop where
 can:bU (s.map aQ)
 cover:∀x y,lQ (s.map aQ) x y=fD (lQ (a.map aQ) x y) (lQ (b.map aQ) x y)
 tE:mP X Y (s.map aQ)
theorem pZ{s:List aA}(hs:s≠[])(hl:s.length<=1099511627776)(hc:bU (s.map aQ)):∃f l,idx s 0=some f/\idx s (wrap .i64<|((s.length:Nat):Int) - 1)=some l/\f∈s/\l∈s/\∀c∈s,f.Y0<=c.Y0/\c.Y1<=l.Y1:=by
 cases s with
 |nil=>grind
 |cons f t=>
  rw[iU (by simp) (by omega)];have hlt:(f::t).length - 1<(f::t).length:=by simp
  refine⟨f,(f::t)[(f::t).length - 1],rfl,jC _ _ hlt,by simp,dO _,λc hcm=>⟨?_,?_⟩⟩
  ·exact hc.low (aQ c)<|aZ.2 ⟨c,hcm,rfl⟩
  ·have e:(f::t)=(f::t).dropLast++[(f::t)[(f::t).length - 1]]:=by
    grind [List.dropLast_concat_getLast]
   generalize (f::t)[(f::t).length - 1]=l at e;have hc2:=hc;rw[e,fO]at hc2;have hm:aQ c∈(List.map aQ (f::t).dropLast++[aQ l]):=by
    grind
   exact bU.high hc2 (aQ c) hm
theorem ug{φ:Bool->Bool->Option Bool}{fD:Bool->Bool->Bool}(hφ:∀p q,φ p q=some (fD p q))(hk:fD false false=false){a b:List aA}{X Y:List Int}(ca:bU (a.map aQ))(cb:bU (b.map aQ))
  (la:mP X Y (a.map aQ)) (lb:mP X Y (b.map aQ)) (hX:X.length<=1048576000) (hY:Y.length<=1048576000) (hs:∀c∈Y,small c) (hN:4398046511104<=N):Ok (jh N a b φ) (rL fD X Y a b):=by
 have xC:a.length<=Y.length:=by have:=la.len ca;grind
 have hbl:b.length<=Y.length:=by have:=lb.len cb;grind
 unfold jh;rw[wrap_add (by omega)];refine A_ (λh=>r_ ?_)<|λh=>?_
 ·have h:a.length+b.length=0:=by grind
  have e1:a= []:=List.eq_nil_of_length_eq_zero (by omega);have e2:b= []:=List.eq_nil_of_length_eq_zero (by omega);subst e1;subst e2;exact⟨bU.nil,λx y=>hk.symm,λc hc=>(by cases hc)⟩
 have h0:a≠[]\/b≠[]:=by
  grind
 refine w_ (CF (λk s=>match k with| 0=>True| 1=>a= []\/((∀c∈a,s.1<=c.Y0/\c.Y1<=s.2)/\s.1∈Y/\s.2∈Y)|_=>(∀c∈a,s.1<=c.Y0/\c.Y1<=s.2)/\(∀c∈b,s.1<=c.Y0/\c.Y1<=s.2)/\s.1∈Y/\s.2∈Y) (by simp) trivial<|λk s hk hI=>?_) ?_
 ·obtain⟨y,e⟩:=s;have hk:k=0\/k=1:=by grind
  rcases hk with rfl|rfl
  ·refine Cb (x:=a) rfl ?_
   by_cases ea:a= []
   ·grind [k_,r_]
   ·obtain⟨f,l,f1,f2,f3,f4,f5⟩:=pZ ea (by omega) ca;have hpos:decide (((a.length:Nat):Int)>0)=true:=cS (by grind);refine k_ (x:=(f.Y0,l.Y1)) ?_<|r_<|.inr ⟨f5,(la _<|aZ.2 ⟨f,f3,rfl⟩).1,(la _<|aZ.2 ⟨l,f4,rfl⟩).2.1⟩
    grind
  ·refine Cb (x:=b) rfl ?_;have hI:a= []\/((∀c∈a,y<=c.Y0/\c.Y1<=e)/\y∈Y/\e∈Y):=hI
   by_cases eb:b= []
   ·subst eb;refine k_ (x:=(y,e)) rfl<|r_ ?_
    rcases hI with h|⟨h1,h2,h3⟩
    ·rcases h0 with h'|h'
     ·exact absurd h h'
     ·exact absurd rfl h'
    ·exact⟨h1,λc hc=>(by cases hc),h2,h3⟩
   ·obtain⟨f,l,f1,f2,f3,f4,f5⟩:=pZ eb (by omega) cb;have hpos:decide (((b.length:Nat):Int)>0)=true:=cS (by have:=List.length_pos_iff.2 eb;omega);have g1:f.Y0∈Y:=(lb _<|aZ.2 ⟨f,f3,rfl⟩).1;have g2:l.Y1∈Y:=(lb _<|aZ.2 ⟨l,f4,rfl⟩).2.1
    by_cases ea:a= []
    ·subst ea;refine k_ (x:=(f.Y0,l.Y1)) ?_<|r_ ⟨λc hc=>(by cases hc),f5,g1,g2⟩
     rw[hpos,aW];show((some true).bind _)=_;rw[aC,aW,f1,aC,f2,aC,aC,aC,aC];simp
    ·obtain⟨h1,h2,h3⟩:=hI.resolve_left ea;refine k_ (x:=(if f.Y0<y then f.Y0 else y,if e<l.Y1 then l.Y1 else e)) ?_<|r_ ⟨λc hc=>?_,λc hc=>?_,?_,?_⟩
     ·rw[hpos,aW];have ez:(((a.length:Nat):Int)==0)=false:=by rw[beq_eq_false_iff_ne];have:=List.length_pos_iff.2 ea;omega
      rw[ez];show((some false).bind _)=_;rw[aC,bN,aC,f1,aC,f2,aC]
     ·have:=h1 c hc;dsimp only;split <;> split <;> omega
     ·have:=f5 c hc;dsimp only;split <;> split <;> omega
     ·dsimp only;split
      ·exact g1
      ·exact h2
     ·dsimp only;split
      ·exact g2
      ·exact h3
 ·rintro⟨y0,e0⟩hI;have hI:(∀c∈a,y0<=c.Y0/\c.Y1<=e0)/\(∀c∈b,y0<=c.Y0/\c.Y1<=e0)/\y0∈Y/\e0∈Y:=hI;obtain⟨ia,ib,iy,ie⟩:=hI;have sy:=hs _ iy;have se:=hs _ ie;unfold small at sy se;dsimp only
  refine w_ (CC (Go:=λs=>rL fD X Y a b s.2.2.1) (Rt:=λ_=>True)
   (λs=>∃pa pb,a=pa++s.1/\b=pb++s.2.1/\(∀c∈pa,c.Y1<=s.2.2.2)/\(∀c∈pb,c.Y1<=s.2.2.2)/\y0<=s.2.2.2/\s.2.2.2<=max y0 e0/\s.2.2.2∈Y/\bU (s.2.2.1.map aQ)/\mP X Y (s.2.2.1.map aQ)/\(∀c∈s.2.2.1,c.Y1<=s.2.2.2)/\
    ∀x y,lQ (s.2.2.1.map aQ) x y=(fD (lQ (a.map aQ) x y) (lQ (b.map aQ) x y)&&decide (y<s.2.2.2)))
   (λs=>(e0 - s.2.2.2).toNat) ?_ ?_ (by dsimp only;omega)) ?_
  ·rintro⟨a',b',out,y⟩⟨pa,pb,ea,eb,hpa,hpb,hy0,hye,hyY,hcan,hlim,htop,hcov⟩;dsimp only at ea eb hpa hpb hy0 hye hyY hcan hlim htop hcov ⊢;refine A_ (λh=>?_)<|λh=>Cy ?_
   ·have hlt:y<e0:=of_decide_eq_true h;have hsl:∀(p s t:List aA),t=p++s->s.length<=t.length:=λp s t e=>by rw[e];simp
    have hal':=hsl _ _ _ ea;have hbl':=hsl _ _ _ eb;refine w_ (qY (y:=y) (a:=a') (by omega) rfl)<|λo ho=>Cr ho ?_<|λr=>r.elim
    rintro a2⟨qa,ea2,hqa,hha⟩;refine w_ (qY (y:=y) (a:=b') (by omega) rfl)<|λo ho=>Cr ho ?_<|λr=>r.elim
    rintro b2⟨qb,eb2,hqb,hhb⟩;have ea3:a=(pa++qa)++a2:=by rw[ea,ea2];simp
    have eb3:b=(pb++qb)++b2:=by rw[eb,eb2];simp
    have hPa:∀c∈pa++qa,c.Y1<=y:=λc hc=>by rcases dA.1 hc with h|h;exact hpa c h;exact hqa c h
    have hPb:∀c∈pb++qb,c.Y1<=y:=λc hc=>by rcases dA.1 hc with h|h;exact hpb c h;exact hqb c h
    have ca2:bU (a2.map aQ):=by have:=ca;rw[ea3,fO]at this;exact this.app
    have cb2:bU (b2.map aQ):=by have:=cb;rw[eb3,fO]at this;exact this.app
    have la2:mP X Y (a2.map aQ):=λc hc=>la c (by rw[ea3,fO];exact List.mem_append_right _ hc);have lb2:mP X Y (b2.map aQ):=λc hc=>lb c (by rw[eb3,fO];exact List.mem_append_right _ hc);refine k_ (yp a2 y e0)<|k_ (yp b2 y e0) ?_
    obtain⟨a1,a3,a4,a5,a6,a7,a8⟩:=uN ca2 la2 hha hlt;obtain⟨b1,b3,b4,b5,b6,b7,b8⟩:=uN cb2 lb2 hhb hlt;have hal2:(tF a2 y e0).1.length<=X.length:=dJ a5.nodup a8;have hbl2:(tF b2 y e0).1.length<=X.length:=dJ b5.nodup b8;generalize tF a2 y e0=pa2 at *;generalize tF b2 y e0=pb2 at *;obtain⟨xa,n⟩:=pa2;obtain⟨xb,m⟩:=pb2;dsimp only at *;refine w_ (vz hφ hk a5 b5 a6 b6 (by omega) (by omega) (by omega)) ?_;rintro row⟨r1,r2,r3,r4⟩;have hnx:∃nx,nx=(if m<n then m else n)/\y<nx/\nx<=e0/\nx<=n/\nx<=m/\nx∈Y:=by
     refine⟨_,rfl,by split <;> omega,by split <;> omega,by split <;> omega,by split <;> omega,?_⟩;split
     ·rcases b7 with h|h
      ·rw[h];exact ie
      ·exact h
     ·rcases a7 with h|h
      ·rw[h];exact ie
      ·exact h
    obtain⟨nx,hnx,n1,n2,n3,n4,n5⟩:=hnx;rw[<-hnx];have hol:out.length<=Y.length:=by have:=hlim.len hcan;rwa[fH]at this
    obtain⟨out',p1,p2⟩:=uL (N:=N) (s:=out) (b:=⟨y,nx,row⟩) (by omega) (λc hc=>by
     have:=hlim.row hcan (b:=aQ c)<|aZ.2 ⟨c,hc,rfl⟩
     have e:(aQ c).xs=c.Xs:=rfl
     rw[e]at this;omega)
    refine k_ p1 ?_;have htop':∀c∈out.map aQ,c.y1<=(aQ ⟨y,nx,row⟩).y0:=λc hc=>by
     obtain⟨d,hd,rfl⟩:=aZ.1 hc;exact htop d hd
    refine Cn ⟨⟨pa++qa,pb++qb,ea3,eb3,λc hc=>by have:=hPa c hc;dsimp only;omega,λc hc=>by have:=hPb c hc;dsimp only;omega,by dsimp only;omega,by dsimp only;omega,n5,by dsimp only;rw[p2];exact qV hcan htop' r1 r2,?_,λc hc=>?_,λx y'=>?_⟩,by dsimp only;omega⟩
    ·dsimp only;rw[p2];refine hlim.push hyY n5<|λc hc=>?_
     rcases r4 c hc with h|h
     ·exact a8 c h
     ·exact b8 c h
    ·have hm':aQ c∈lk (out.map aQ) (aQ ⟨y,nx,row⟩):=by rw[<-p2];exact aZ.2 ⟨c,hc,rfl⟩
     exact qW htop' (by show y<=nx;omega) _ hm'
    ·show jl (rowAt (out'.map aQ) y') x=_;rw[p2,qU htop' (λc hc=>(hcan.each c hc).1)<|λh=>absurd h (by show ¬nx<=y;omega)]
     by_cases hyy:y<=y'/\y'<nx
     ·rw[aG (show(aQ ⟨y,nx,row⟩).y0<=y'/\y'<(aQ ⟨y,nx,row⟩).y1 from hyy),cS hyy.2,Bool.and_true];show jl row x=_;have mp:∀p q:List aA,(∀c∈p++q,c.Y1<=y)->∀c∈(p++q).map aQ,c.y1<=y:=λp q h c hc=>by
       obtain⟨d,hd,rfl⟩:=aZ.1 hc;exact h d hd
      have q1:lQ (a.map aQ) x y'=jl xa x:=by
       unfold lQ;rw[ea3,fO,ti (mp _ _ hPa) hyy.1,a4 y' hyy.1 (by omega)]
      have q2:lQ (b.map aQ) x y'=jl xb x:=by
       unfold lQ;rw[eb3,fO,ti (mp _ _ hPb) hyy.1,b4 y' hyy.1 (by omega)]
      rw[r3,q1,q2]
     ·rw[aI (show ¬((aQ ⟨y,nx,row⟩).y0<=y'/\y'<(aQ ⟨y,nx,row⟩).y1)from hyy)];show lQ (out.map aQ) x y'=_;rw[hcov]
      by_cases h1:y'<y
      ·rw[cS h1,cS (show y'<nx by omega)]
      ·rw[cP h1,cP (show ¬y'<nx by omega)]
   ·have hge:e0<=y:=by have:=of_decide_eq_false h;omega
    refine⟨hcan,λx y'=>?_,hlim⟩;dsimp only;rw[hcov]
    by_cases h1:y'<y
    ·rw[cS h1,Bool.and_true]
    ·have z:∀s:List aA,(∀c∈s,y0<=c.Y0/\c.Y1<=e0)->lQ (s.map aQ) x y'=false:=λs h=>by
      unfold lQ;rw[gk λc hc=>?_]
      ·rfl
      ·obtain⟨d,hd,rfl⟩:=aZ.1 hc;exact .inr (by have:=(h d hd).2;show d.Y1<=y';omega)
     rw[z a ia,z b ib,hk];rfl
  ·refine⟨[],[],rfl,rfl,λc hc=>(by cases hc),λc hc=>(by cases hc),Int.le_refl _,by dsimp only;omega,iy,bU.nil,λc hc=>(by cases hc),λc hc=>(by cases hc),λx y=>?_⟩;dsimp only;show false=_
   by_cases h1:y<y0
   ·have z:∀s:List aA,(∀c∈s,y0<=c.Y0/\c.Y1<=e0)->lQ (s.map aQ) x y=false:=λs h=>by
     unfold lQ;rw[gk λc hc=>?_]
     ·rfl
     ·obtain⟨d,hd,rfl⟩:=aZ.1 hc;exact .inl (by have:=(h d hd).1;show y<d.Y0;omega)
    rw[z a ia,z b ib,hk];rfl
   ·rw[cP h1,Bool.and_false]
  ·rintro o ho;exact Cr ho (λs h=>r_ h)<|λr=>r.elim
theorem vA{a b:List aA}{X Y:List Int}(ca:bU (a.map aQ))(cb:bU (b.map aQ))(la:mP X Y (a.map aQ))(lb:mP X Y (b.map aQ))(hX:X.length<=1048576000)(hY:Y.length<=1048576000)(hs:∀c∈Y,small c)(hN:4398046511104<=N):
  Ok (fZ N a b) (rL (λp q=>p&& !q) X Y a b):=by
 unfold fZ;exact w_ (ug (fD:=λp q=>p&& !q) (λp q=>rfl) rfl ca cb la lb hX hY hs hN)<|λs h=>r_ h
end
section
variable {N:Nat}
structure UF (n:Nat) (up:List Int) (r:Nat->Nat):Prop where
 len:up.length=n
 rt:∀i,i<n->∃u:Nat,up[i]? =some ((u:Nat):Int)/\u<=i/\r u=r i/\(u=i↔r i=i)
theorem UF.le{n:Nat}{up:List Int}{r:Nat->Nat}(h:UF n up r):∀i,i<n->r i<=i:=by
 intro i
 induction i using Nat.strongRecOn with
 |ind i ih=>
  intro hi;obtain⟨u,_,h2,h3,h4⟩:=h.rt i hi
  grind
theorem UF.rr{n:Nat}{up:List Int}{r:Nat->Nat}(h:UF n up r):∀i,i<n->r (r i)=r i:=by
 intro i
 induction i using Nat.strongRecOn with
 |ind i ih=>
  intro hi;obtain⟨u,_,h2,h3,h4⟩:=h.rt i hi
  grind
theorem rM{l:List Int}{j:Nat}{v:Int}{i:Nat}(hj:j<l.length):(l.set j v)[i]? =if i=j then some v else l[i]? :=by
 grind
theorem UF.init(n:Nat)(up:List Int)(h1:up.length=n)(h2:∀i,i<n->up[i]? =some ((i:Nat):Int)):UF n up (λi=>i):=
 ⟨h1,λi hi=>⟨i,h2 i hi,bB _,rfl,by simp⟩⟩
def lA(r:Nat->Nat)(a b:Nat):Nat->Nat:=λx=>if r x=max a b then min a b else r x
theorem y5(a b:Nat):(if((a:Nat):Int)<((b:Nat):Int)then((b:Nat):Int)else((a:Nat):Int))=((max a b:Nat):Int):=by
 omega
theorem y6(a b:Nat):(if((b:Nat):Int)<((a:Nat):Int)then((b:Nat):Int)else((a:Nat):Int))=((min a b:Nat):Int):=by
 omega
def mS(r:Nat->Nat)(E:List (Nat×Nat)):Prop:=∀p∈E,r p.1=r p.2
def uh(n:Nat)(r:Nat->Nat)(E:List (Nat×Nat)):Prop:=∀S:Nat->Prop,(∀p∈E,S p.1↔S p.2)->∀i j,i<n->j<n->r i=r j->S i->S j
theorem mS.join{r:Nat->Nat}{E:List (Nat×Nat)}(h:mS r E)(i k:Nat)(_h2:r (r i)=r i):mS (lA r (r i)<|r k) (E++[(i,k)]):=λp hp=>by
 rcases dA.1 hp with hp|hp
 ·unfold lA;rw[h p hp]
 ·simp at hp;subst hp;unfold lA;dsimp only;split <;> split <;> omega
theorem uh.join{n:Nat}{r:Nat->Nat}{E:List (Nat×Nat)}(h:uh n r E){i k:Nat}(hi:i<n)(hk:k<n):uh n (lA r (r i)<|r k) (E++[(i,k)]):=λS hS x y hx hy hr hSx=>by
 have hE:∀p∈E,S p.1↔S p.2:=λp hp=>hS p<|List.mem_append_left _ hp
 have hik:S i↔S k:=hS (i,k) (by simp);have key:=h S hE;unfold lA at hr
 by_cases h1:r x=r y
 ·exact key x y hx hy h1 hSx
 ·have:(r x=r i/\r y=r k)\/(r x=r k/\r y=r i):=by
   split at hr <;> split at hr <;> omega
  rcases this with⟨e1,e2⟩|⟨e1,e2⟩
  ·exact key k y hk hy e2.symm<|hik.1<|key x i hx hi e1 hSx
  ·exact key i y hi hy e2.symm<|hik.2<|key x k hx hk e1 hSx
theorem uh.id(n:Nat):uh n (λi=>i) []:=λS _ i j _ _ h hs=>by
 have h:i=j:=h;subst h;exact hs
theorem mS.id:mS (λi=>i) []:=λp hp=>by simp at hp
def cE(n:Nat)(r:Nat->Nat):List Nat:=(List.range n).filter<|λk=>decide<|r k=k
def cls(n:Nat)(r:Nat->Nat)(k:Nat):List Nat:=(List.range n).filter<|λi=>decide<|r i=k
theorem iX(n:Nat)(r:Nat->Nat):cE (n+1) r=if r n=n then cE n r++[n]else cE n r:=by
 grind [cE,List.range_succ]
theorem wT(n:Nat)(r:Nat->Nat)(k:Nat):cls (n+1) r k=if r n=k then cls n r k++[n]else cls n r k:=by
 grind [cls,List.range_succ]
theorem oe(n:Nat)(r:Nat->Nat):(cE n r).length<=n:=by
 have:=jy (λk=>decide<|r k=k)<|List.range n
 rw[List.length_range]at this;exact this
theorem x4(n:Nat)(r:Nat->Nat)(k:Nat):(cls n r k).length<=n:=by
 have:=jy (λi=>decide<|r i=k)<|List.range n
 rw[List.length_range]at this;exact this
theorem eM{n k:Nat}{r:Nat->Nat}:k∈cE n r↔k<n/\r k=k:=by simp[cE]
theorem lS(n:Nat)(r:Nat->Nat):(cE n r).Nodup:=List.Nodup.sublist List.filter_sublist List.nodup_range
theorem x5{n k:Nat}{r:Nat->Nat}(h:∀i,i<n->r i<=i)(hk:n<=k):cls n r k= []:=by
 grind [cls,List.filter_eq_nil_iff]
theorem p5{α β:Type}(f g:α->β)(l:List α)(j:Nat)(a:α)(hn:l.Nodup)(hj:l[j]? =some a)(hf:∀b,b∈l->b≠a->f b=g b):(l.map f).set j (g a)=l.map g:=by
 apply List.ext_getElem?;intro i;have hjl:=(aV.1 hj).1;rw[gJ,fH,List.getElem?_map,List.getElem?_map]
 grind [aV,List.getElem_inj,dX]
end
section
variable {N:Nat}
theorem rN{n:Nat}{up:List Int}{r:Nat->Nat}(h:UF n up r){i:Nat}(hi:i<n)(hn:n<N):∃up',cB N ((i:Nat):Int) up=some (((r i:Nat):Int),up')/\UF n up' r:=by
 unfold cB
 have:=w_ (β:=Int×List Int) (Q:=λx=>x.1=((r i:Nat):Int)/\UF n x.2 r) (CC (body:=λ(s32:Int×(List Int))=>((idx s32.2 s32.1).bind λx43=>bif(x43 != s32.1)then((idx s32.2 s32.1).bind λx44=>(idx s32.2 x44).bind λx45=>(idx s32.2 s32.1).bind λx46=>(idx (s32.2.set (Int.toNat s32.1) x45) s32.1).bind λx47=>some (.nx (x47,(s32.2.set (Int.toNat s32.1) x45))))else(some (.br (s32.1,s32.2))):Option (Fl (Int×(List Int)) Empty)))
  (N:=N) (s:=(((i:Nat):Int),up)) (Go:=λs=>s.1=((r i:Nat):Int)/\UF n s.2 r) (Rt:=λ_=>True) (λs=>UF n s.2 r/\∃j:Nat,s.1=((j:Nat):Int)/\j<n/\r j=r i) (λs=>s.1.toNat) (by
   rintro⟨y,l⟩⟨hu,j,hj,hjn,hr⟩;dsimp only at hu hj ⊢;subst hj;obtain⟨u,a1,a2,a3,a4⟩:=hu.rt j hjn;refine Cb a1 ?_
   by_cases e:u=j
   ·grind [Cy]
   ·obtain⟨v,b1,b2,b3,b4⟩:=hu.rt u (by omega);have hl:=hu.len;rw[show(((u:Nat):Int) != ((j:Nat):Int))=true by simp;omega,aW];refine Cb a1<|Cb b1<|Cb a1<|Cb (x:=((v:Nat):Int)) (by grind)<|Cn ⟨⟨⟨by simp[hl],λk hk=>?_⟩,v,rfl,by omega,?_⟩,?_⟩
    ·rw[dK,rM (by omega)]
     by_cases e2:k=j
     ·grind
     ·rw[aI e2];exact hu.rt k hk
    ·omega
    omega)
  ⟨h,i,rfl,hi,rfl⟩ (by omega))
  (λo ho=>Cr (f:=λ(s32:Int×List Int)=>some (s32.1,s32.2)) (g:=λr:Empty=>r.elim) ho (λs h=>r_ h)<|λr=>r.elim)
 obtain⟨⟨x,up'⟩,h1,h2,h3⟩:=this
 grind
theorem wU{n:Nat}{up:List Int}{r:Nat->Nat}(h:UF n up r){i k:Nat}(hi:i<n)(hk:k<n){f:List Int->Option (List Int)}(hn:n<N):
  ∃up',((cB N ((i:Nat):Int) up).bind λx840=>(cB N ((k:Nat):Int) x840.2).bind λx842=>(idx x842.2 (if x840.1<x842.1 then x842.1 else x840.1)).bind λx844=>some<|x842.2.set (Int.toNat (if x840.1<x842.1 then x842.1 else x840.1)) (if x842.1<x840.1 then x842.1 else x840.1))=some up'/\UF n up' (lA r (r i)<|r k):=by
 obtain⟨u1,a1,a2⟩:=rN h hi hn;obtain⟨u2,b1,b2⟩:=rN a2 hk hn;have hri:=h.le i hi;have hrk:=h.le k hk;have rri:=h.rr i hi;have rrk:=h.rr k hk;rw[a1,aC,b1,aC];dsimp only;rw[y5,y6];have hm:max (r i) (r k)<n:=by omega
 have hl:=b2.len;rw[jC _ _ (by omega),aC,dK];refine⟨_,rfl,by simp[hl],λx hx=>?_⟩;have rmax:r (max (r i)<|r k)=max (r i) (r k):=by grind
 have rmin:r (min (r i)<|r k)=min (r i) (r k):=by grind
 rw[rM (by omega)]
 by_cases e:x=max (r i) (r k)
 ·grind [Min.min,lA]
 ·rw[aI e];obtain⟨u,c1,c2,c3,c4⟩:=b2.rt x hx
  grind [lA,Max.max]
def dU(s:List aA)(k:Nat):Nat:=(aD<|s.take k).length
theorem og{s:List aA}{k:Nat}(h:k<s.length):dU s (k+1)=dU s k+s[k].Xs.length / 2:=by
 grind [dU,fU,gF,dL,aD,gX,jJ]
theorem oh{s:List aA}{k m:Nat}(h:k<=m):dU s k<=dU s m:=by
 unfold dU;have:=n9 (s.take m) k
 grind
theorem tj(s:List aA):dU s s.length=(aD s).length:=by simp[dU,fu]
theorem x6{s:List aA}{k t:Nat}(h:k<s.length)(ht:2*t+1<s[k].Xs.length):(aD s)[dU s k+t]? =some ⟨s[k].Xs[2*t],s[k].Y0,s[k].Xs[2*t+1],s[k].Y1⟩:=by
 have e:aD s=aD (s.take k)++(gX s[k]++aD (s.drop<|k+1)):=by
  grind [List.take_append_drop,List.drop_eq_getElem_cons,gF,kj]
 grind [dU,eX,Nat.add_sub_cancel_left,fP,jJ,gX,nE]
theorem uO{s:List aA}{i:Nat}(h:i<(aD s).length):∃k,k<s.length/\dU s k<=i/\i<dU s (k+1):=by
 have key:∀m,m<=s.length->i<dU s m->∃k,k<m/\dU s k<=i/\i<dU s (k+1):=by
  intro m
  induction m with
  |zero=>simp[dU,aD]
  |succ m ih=>
   grind
 grind [tj]
def y7(a c:aB):Prop:=a.Y1=c.Y0/\a.X0<c.X1/\c.X0<a.X1
def vB(all:List aB)(i j:Nat):Prop:=∃a c,all[i]? =some a/\all[j]? =some c/\y7 a c
theorem l7{s:List aA}(he:∀b∈s,b.Xs.length % 2=0){k i:Nat}(hk:k<s.length)(h1:dU s k<=i)(h2:i<dU s (k+1)):∃t,i=dU s k+t/\∃h:2*t+1<s[k].Xs.length,(aD s)[i]? =some ⟨s[k].Xs[2*t],s[k].Y0,s[k].Xs[2*t+1],s[k].Y1⟩:=by
 rw[og hk]at h2;have:=he _<|dO hk
 refine⟨i - dU s k,by omega,by omega,?_⟩;have h3:=x6 (t:=i - dU s k) hk (by omega)
 grind
theorem p6{s:List aA}(hc:bU (s.map aQ)){p q:Nat}(hp:p<s.length)(hq:q<s.length)(h:p<q):s[p].Y1<=s[q].Y0:=by
 have:=ke.1 hc.ord p q (by simp;omega) (by simp;omega) h;simp only[List.getElem_map]at this;exact this.1
theorem p7{s:List aA}(hc:bU (s.map aQ)){p:Nat}(hp:p<s.length):s[p].Y0<s[p].Y1:=(hc.each (aQ s[p])<|aZ.2 ⟨_,dO hp,rfl⟩).1
theorem kL{s:List aA}(hc:bU (s.map aQ)):∀b∈s,b.Xs.length % 2=0:=λb hb=>(hc.each (aQ b)<|aZ.2 ⟨b,hb,rfl⟩).2.2.2
theorem x8{s:List aA}(hc:bU (s.map aQ)):∀b∈s,g8 b.Xs:=λb hb=>(hc.each (aQ b)<|aZ.2 ⟨b,hb,rfl⟩).2.2.1
theorem tk{s:List aA}(hc:bU (s.map aQ)){i j q:Nat}(hq:q<s.length)(h1:dU s q<=j)(h2:j<dU s (q+1))(ht:vB (aD s) i j):∃hq0:0<q,s[q - 1].Y1=s[q].Y0/\dU s (q - 1)<=i/\i<dU s q:=by
 obtain⟨a,c,ha,hb,e1,e2,e3⟩:=ht;obtain⟨t,e4,ht,hj⟩:=l7 (kL hc) hq h1 h2;rw[hj]at hb;injection hb with hb;subst hb
 have hil:=(aV.1 ha).1;obtain⟨p,hp,p1,p2⟩:=uO hil;obtain⟨u,e5,hu,hi⟩:=l7 (kL hc) hp p1 p2;rw[hi]at ha;injection ha with ha;subst ha
 have e1:s[p].Y1=s[q].Y0:=e1;have hpp:=p7 hc hp;have hqq:=p7 hc hq;have hpq:p+1=q:=by
  rcases Nat.lt_trichotomy p q with h|h|h
  ·by_cases h':p+1=q
   ·exact h'
   ·have h3:=p6 hc hp (show p+1<s.length by omega) (by omega);have h4:=p6 hc (show p+1<s.length by omega) hq (by omega);have h5:=p7 hc (show p+1<s.length by omega);omega
  ·grind
  ·have:=p6 hc hq hp h;omega
 grind
structure PJ (all:List aB) (n:Nat) (up:List Int) (r:Nat->Nat) (E:List (Nat×Nat)):Prop where
 uf:UF n up r
 co:mS r E
 fi:uh n r E
 so:∀p∈E,vB all p.1 p.2
theorem PJ.join{all:List aB}{n:Nat}{up up':List Int}{r:Nat->Nat}{E:List (Nat×Nat)}(h:PJ all n up r E){i j:Nat}(hi:i<n)(hj:j<n)(hu:UF n up' (lA r (r i)<|r j))(ht:vB all i j):PJ all n up' (lA r (r i)<|r j) (E++[(i,j)]):=
 ⟨hu,h.co.join i j (h.uf.rr i hi),h.fi.join hi hj,λp hp=>by
  rcases dA.1 hp with hp|hp
  ·exact h.so p hp
  grind⟩
structure Joined (all:List aB) (r:Nat->Nat):Prop where
 le:∀i,i<all.length->r i<=i
 rr:∀i,i<all.length->r (r i)=r i
 co:∀i j,vB all i j->r i=r j
 fi:∀S:Nat->Prop,(∀i j,vB all i j->(S i↔S j))->∀i j,i<all.length->j<all.length->r i=r j->S i->S j
def jF(all:List aB)(n:Nat)(r:Nat->Nat)(h:Nat):List aB:=(cls n r h).filterMap<|λi=>all[i]?
theorem p8(all:List aB)(n:Nat)(r:Nat->Nat)(h:Nat):(jF all n r h).length<=n:=by
 grind [List.length_filterMap_le,cls,x4,jF]
theorem l8{all:List aB}{n:Nat}{r:Nat->Nat}(h:Nat){x:aB}(hx:all[n]? =some x):jF all (n+1) r h=if r n=h then jF all n r h++[x]else jF all n r h:=by
 grind [jF,wT]
theorem p9{all:List aB}{n:Nat}{r:Nat->Nat}{h:Nat}{x:aB}:x∈jF all n r h↔∃i,i<n/\r i=h/\all[i]? =some x:=by
 unfold jF cls
 grind
structure o6 (s:List aA) (r:Nat->Nat) (ps:List (List aA)):Prop where
 join:Joined (aD s) r
 len:ps.length=(cE (aD s).length r).length
 each:∀(j h:Nat)(p:List aA),(cE (aD s).length r)[j]? =some h->ps[j]? =some p->jm (jF (aD s) (aD s).length r h) p
def Bq(n:Nat)(r:Nat->Nat)(m:List (Int×Int)):Prop:=(∀(j k:Nat),(cE n r)[j]? =some k->nS m ((k:Nat):Int) 0=((j:Nat):Int))/\∀k:Nat,mA m ((k:Nat):Int)=decide (k∈cE n r)
theorem ui{s:List aA}{X Y:List Int}(hc:bU (s.map aQ))(hl:mP X Y (s.map aQ))(hX:∀c∈X,small c)(hY:∀c∈Y,small c)(h1:s.length<=1073741824)(h2:∀b∈s,b.Xs.length<=1073741824)(h3:(aD s).length<=134217728)(hN:4398046511104<=N):
  Ok (fB N s) (λps=>∃r,o6 s r ps):=by
 unfold fB;have hev:=kL hc;have hinc:=x8 hc;refine k_ (nF hev (by omega) (λb hb=>by grind) (by omega)) ?_;have hok:=nG hc hl hX hY;have hall:dU s s.length=(aD s).length:=tj s;generalize hn:(aD s).length=n at *;refine k_ (xT 0 (by omega)) ?_;rw[show((List.replicate n (0:Int)).length)=n by simp];refine w_ (CF (λk up=>up.length=n/\∀i,i<k->up[i]? =some ((i:Nat):Int)) (by omega) ⟨by simp,λi hi=>by omega⟩<|λk up hk hI=>?_) ?_
 ·grind [Ck,r_,dK,rM]
 rintro up0⟨hu1,hu2⟩
 refine w_ (CF (λk st=>st.2.1=((dU s k:Nat):Int)/\(0<k->st.2.2=((dU s (k - 1):Nat):Int))/\∃r E,PJ (aD s) n st.1 r E/\∀q,q<k->∀i j,dU s q<=j->j<dU s (q+1)->vB (aD s) i j->(i,j)∈E) (by omega)
  ⟨rfl,λh=>by omega,_,_,⟨UF.init n up0 hu1 hu2,mS.id,uh.id n,λp hp=>(by cases hp)⟩,λq hq=>by omega⟩ (λk st hk hI=>?_)) ?_
 ·obtain⟨up,a,b⟩:=st;obtain⟨e1,e2,r,E,hP,hE⟩:=hI;dsimp only at e1 e2 hP ⊢;subst e1;refine Ck hk ?_;have hoff:=og hk;have hoffle:dU s (k+1)<=n:=by rw[<-hall];exact oh hk
  have hkm:=dO hk;have hlen:wrap .i64 (Int.tdiv ((s[k].Xs.length:Nat):Int) 2)=((s[k].Xs.length / 2:Nat):Int):=by
   grind [Int.ofNat_tdiv,pV]
  rw[hlen,wrap_add (by omega),<-hoff];refine w_ (P:=λc=>c=true↔∃h0:0<k,s[k - 1].Y1=s[k].Y0) ?_<|λc hcc=>?_
  ·grind [r_,iU,Ck,of_decide_eq_false]
  refine w_ (P:=λup'=>∃r E,PJ (aD s) n up' r E/\∀q,q<k+1->∀i j,dU s q<=j->j<dU s (q+1)->vB (aD s) i j->(i,j)∈E) ?_<|λup' hI=>r_ ⟨rfl,λ_=>rfl,hI⟩
  refine A_ (λh=>?_)<|λh=>r_ ⟨r,E,hP,λq hq i j q1 q2 ht=>?_⟩
  ·obtain⟨hpos,hyy⟩:=hcc.1 h;rw[e2 hpos];have hoffp:=og (show k - 1<s.length by omega);rw[show k - 1+1=k by omega]at hoffp
   refine w_ (CC (Go:=λst=>∃r E,PJ (aD s) n st.1 r E/\∀q,q<k+1->∀i j,dU s q<=j->j<dU s (q+1)->vB (aD s) i j->(i,j)∈E) (Rt:=λ_=>True)
    (λst=>∃i j:Nat,st.2.1=((i:Nat):Int)/\st.2.2=((j:Nat):Int)/\dU s (k - 1)<=i/\i<=dU s k/\dU s k<=j/\j<=dU s (k+1)/\∃r E,PJ (aD s) n st.1 r E/\(∀q,q<k->∀i j,dU s q<=j->j<dU s (q+1)->vB (aD s) i j->(i,j)∈E)/\
     ∀i' j',dU s (k - 1)<=i'->i'<dU s k->dU s k<=j'->j'<dU s (k+1)->(i'<i\/j'<j)->vB (aD s) i' j'->(i',j')∈E)
    (λst=>(n - st.2.1.toNat)+(n - st.2.2.toNat)) ?_ ?_ (by simp only[dK];omega)) (λo ho=>Cr ho (λst h=>r_ h) (λr=>r.elim))
   ·rintro⟨up,a,b⟩⟨i,j,e3,e4,i1,i2,j1,j2,r,E,hP,hE,hE2⟩;dsimp only at e3 e4 hP ⊢;subst e3;subst e4;refine A_ (λh=>?_)<|λh=>Cy ?_
    ·rw[bI,eY,eY]at h;have hi:i<dU s k:=by omega
     have hj:j<dU s (k+1):=by omega
     obtain⟨t,et,_,hri⟩:=l7 hev (show k - 1<s.length by omega) i1 (by rw[show k - 1+1=k by omega];exact hi);obtain⟨u,eu,_,hrj⟩:=l7 hev hk j1 hj;have xi:=hinc _<|dO (show k - 1<s.length by omega)
     have xj:=hinc _ hkm;have farI:∀i' a,i<i'->i'<dU s k->(aD s)[i']? =some a->s[k - 1].Xs[2*t+1]<a.X0:=λi' a h4 h5 h6=>by
      obtain⟨t',et',ht',hr'⟩:=l7 hev (show k - 1<s.length by omega) (show dU s (k - 1)<=i' by omega) (by rw[show k - 1+1=k by omega];exact h5);rw[hr']at h6;injection h6 with h6;subst h6
      exact xi.lt (show 2*t+1<2*t' by omega) (aO _)<|aO _
     have farJ:∀j' a,j<j'->j'<dU s (k+1)->(aD s)[j']? =some a->s[k].Xs[2*u+1]<a.X0:=λj' a h4 h5 h6=>by
      obtain⟨u',eu',hu',hr'⟩:=l7 hev hk (show dU s k<=j' by omega) h5;rw[hr']at h6;injection h6 with h6;subst h6
      exact xj.lt (show 2*u+1<2*u' by omega) (aO _)<|aO _
     refine w_ (P:=λc=>c=true↔vB (aD s) i j) ?_<|λc hct=>?_
     ·refine Cb hri<|Cb hrj<|A_ (λh=>Cb hrj<|Cb hri<|r_ ?_)<|λh=>r_ ?_
      ·rw[eY]at h ⊢;constructor
       ·intro h';exact⟨_,_,hri,hrj,hyy,h,h'⟩
       ·rintro⟨a,c,ha,hc',_,_,h'⟩;rw[hri]at ha;injection ha with ha;subst ha
        rw[hrj]at hc';injection hc' with hc';subst hc'
        exact h'
      ·constructor
       ·intro h;cases h
       ·rintro⟨a,c,ha,hc',_,h',_⟩;rw[hri]at ha;injection ha with ha;subst ha
        rw[hrj]at hc';injection hc' with hc';subst hc'
        rw[decide_eq_false_iff_not]at h;exact absurd h' h
     refine w_ (P:=λup'=>∃r E',PJ (aD s) n up' r E'/\(∀p∈E,p∈E')/\(vB (aD s) i j->(i,j)∈E')) ?_ ?_
     ·refine A_ (λh=>?_)<|λh=>r_ ⟨r,E,hP,λp hp=>hp,λht=>by rw[hct.2 ht]at h;cases h⟩
      obtain⟨up',u1,u2⟩:=wU (N:=N) (f:=λx=>some x) hP.uf (i:=i) (k:=j) (by omega) (by omega) (by omega);refine⟨up',u1,_,_,hP.join (by omega) (by omega) u2<|hct.1 h,λp hp=>List.mem_append_left _ hp,λ_=>by simp⟩
     ·rintro up'⟨r',E',hP',hsub,hij⟩;refine Cb hri<|Cb hrj ?_
      dsimp only
      by_cases hx:s[k - 1].Xs[2*t+1]<s[k].Xs[2*u+1]
      ·rw[cS hx,aW];refine k_ (x:=(((i+1:Nat):Int),((j:Nat):Int))) (by rw[eC (by omega)])<|Cn ⟨⟨i+1,j,rfl,rfl,by omega,by omega,j1,j2,r',E',hP',λq hq i j q1 q2 ht=>hsub _<|hE q hq i j q1 q2 ht,λi' j' g1 g2 g3 g4 g5 ht=>?_⟩,by simp only[dK];omega⟩
       by_cases h5:i'<i\/j'<j
       ·exact hsub _<|hE2 i' j' g1 g2 g3 g4 h5 ht
       ·have:i'=i:=by omega
        subst this
        by_cases h6:j'=j
        ·subst h6;exact hij ht
        ·exfalso;obtain⟨a,c,ha,hc',_,_,h'⟩:=ht;rw[hri]at ha;injection ha with ha;subst ha
         have:=farJ j' c (by omega) g4 hc';dsimp only at h';omega
      ·rw[cP hx,bN];refine k_ (x:=(((i:Nat):Int),((j+1:Nat):Int))) (by rw[eC (by omega)])<|Cn ⟨⟨i,j+1,rfl,rfl,i1,i2,by omega,by omega,r',E',hP',λq hq i j q1 q2 ht=>hsub _<|hE q hq i j q1 q2 ht,λi' j' g1 g2 g3 g4 g5 ht=>?_⟩,by simp only[dK];omega⟩
       by_cases h5:i'<i\/j'<j
       ·exact hsub _<|hE2 i' j' g1 g2 g3 g4 h5 ht
       ·have:j'=j:=by omega
        subst this
        by_cases h6:i'=i
        ·subst h6;exact hij ht
        ·exfalso;obtain⟨a,c,ha,hc',_,h',_⟩:=ht;rw[hrj]at hc';injection hc' with hc';subst hc'
         have:=farI i' a (by omega) g2 ha;dsimp only at h';omega
    ·refine⟨r,E,hP,λq hq i' j' q1 q2 ht=>?_⟩
     by_cases hqk:q<k
     ·exact hE q hqk i' j' q1 q2 ht
     ·have:q=k:=by omega
      subst this;obtain⟨_,_,g1,g2⟩:=tk hc hk q1 q2 ht;refine hE2 i' j' g1 g2 q1 q2 ?_ ht;rw[Bool.and_eq_false_iff,decide_eq_false_iff_not,decide_eq_false_iff_not]at h;omega
   ·exact⟨dU s<|k - 1,dU s k,rfl,rfl,bB _,oh (by omega),bB _,oh (by omega),r,E,hP,hE,λi' j' g1 g2 g3 g4 g5=>by omega⟩
  ·by_cases hqk:q<k
   ·exact hE q hqk i j q1 q2 ht
   ·have:q=k:=by omega
    subst this;obtain⟨g0,g1,_⟩:=tk hc hk q1 q2 ht;rw[hcc.2 ⟨g0,g1⟩]at h;cases h
 ·rintro⟨up,a,b⟩⟨_,_,r,E,hP,hE⟩;dsimp only at hP ⊢;have hEq:∀i j,vB (aD s) i j->(i,j)∈E:=λi j ht=>by
   have hjl:j<(aD s).length:=by obtain⟨a,c,_,hb,_⟩:=ht;exact(aV.1 hb).1
   obtain⟨q,hq,q1,q2⟩:=uO hjl;exact hE q hq i j q1 q2 ht
  have hJ:Joined (aD s) r:=⟨by rw[hn];exact hP.uf.le,by rw[hn];exact hP.uf.rr,λi j ht=>hP.co (i,j) (hEq i j ht),λS hS i j hi hj=>by
   rw[hn]at hi hj
   exact hP.fi S (λp hp=>hS p.1 p.2 (hP.so p hp)) i j hi hj⟩
  refine w_ (CF (λk st=>UF n st.1 r/\Bq k r st.2.1/\st.2.2=(cE k r).map (jF (aD s) k r)) (by omega) ⟨hP.uf,⟨λj k hj=>by simp[cE]at hj,λk=>rfl⟩,rfl⟩<|λk st hk hI=>?_) ?_
  ·obtain⟨l,m,ls⟩:=st;obtain⟨hu,⟨hm1,hm2⟩,hs⟩:=hI;dsimp only at hu hm1 hm2 hs ⊢;subst hs;have hkx:(aD s)[k]? =some ((aD s)[k]'(by omega)):=aO (by omega);refine Cb hkx ?_;obtain⟨u',a1,a2⟩:=rN (N:=N) hu hk (by omega);refine k_ a1 ?_;dsimp only;have hhl:=oe k r;have hrk:=hP.uf.le k hk;have hrr:=hP.uf.rr k hk;have hcl:=p8 (aD s) k r<|r k
   have hmap:((cE k r).map<|jF (aD s) k r).length=(cE k r).length:=by simp
   rw[hm2]
   by_cases e:r k=k
   ·have hnot:r k∉cE k r:=λh=>by have:=(eM.1 h).1;omega
    refine k_ (x:=(kQ m ((r k:Nat):Int) (((cE k r).length:Nat):Int),(cE k r).map (jF (aD s) k r)++[([]:List aB)],(((cE k r).length:Nat):Int))) ?_ ?_
    ·rw[cP hnot,Bool.not_false,aW,iF (by simp;omega),aC,hmap]
    ·dsimp only;have hi:((cE k r).map (jF (aD s) k r)++[([]:List aB)])[(cE k r).length]? =some []:=by rw[<-hmap,eX<|bB _,Nat.sub_self];rfl
     refine Cb hi<|CM (by simp)<|Cb hi<|r_ ⟨a2,⟨λj q hj=>?_,λq=>?_⟩,?_⟩
     ·dsimp only;rw[iX,aG e]at hj;rw[vu]
      by_cases e2:j<(cE k r).length
      ·rw[fP e2]at hj;have:=(eM.1<|dX hj).1;rw[aI (by omega)];exact hm1 j q hj
      ·rw[eX (by omega)]at hj;have hj0:j -(cE k r).length=0:=by
        have:=(aV.1 hj).1;simp at this;omega
       rw[hj0]at hj;simp at hj;subst hj;rw[aG (by rw[e])];congr 1;omega
     ·dsimp only;rw[vv,hm2,iX,aG e,jw];rw[ec,eY,eY,eY,dA,iZ,e];constructor
      ·rintro(h|h)
       ·exact .inr (by omega)
       ·exact .inl h
      ·rintro(h|h)
       ·exact .inr h
       ·exact .inl (by omega)
     ·dsimp only;rw[dK,<-hmap,List.set_append_right _ _<|bB _,Nat.sub_self,iX,aG e,fO];congr 1
      ·apply List.map_congr_left;intro a ha;have:=(eM.1 ha).1;rw[l8 a hkx,aI (by omega)]
      ·simp only[List.set_cons_zero,ee,List.map_nil,List.nil_append];rw[l8 k hkx,aG e];have:jF (aD s) k r k= []:=by unfold jF;rw[x5 (λi hi=>hP.uf.le i (by omega))<|bB _];rfl
       rw[this];rfl
   ·have hh:r k∈cE k r:=eM.2 ⟨by omega,hrr⟩;obtain⟨j,hj⟩:=eZ hh;refine k_ (x:=(m,(cE k r).map<|jF (aD s) k r,((j:Nat):Int))) ?_ ?_
    ·rw[cS hh,Bool.not_true,bN,hm1 j (r k) hj]
    ·dsimp only;have hi:((cE k r).map<|jF (aD s) k r)[j]? =some (jF (aD s) k r<|r k):=by rw[List.getElem?_map,hj];rfl
     refine Cb hi<|CM (by simp;omega)<|Cb hi<|r_ ⟨a2,⟨λj' q hj'=>?_,λq=>?_⟩,?_⟩
     ·rw[iX,aI e]at hj';exact hm1 j' q hj'
     ·rw[iX,aI e];exact hm2 q
     ·dsimp only;rw[dK,iX,aI e]
      have:=p5 (jF (aD s) k r) (jF (aD s) (k+1) r) (cE k r) j (r k) (lS k r) hj (λb hb hne=>by
       rw[l8 b hkx,aI (λh=>hne h.symm)])
      rw[l8 (r k) hkx,aG rfl]at this;exact this
  ·rintro⟨l,m,ls⟩⟨_,_,hs⟩;dsimp only at hs ⊢;subst hs;have hhl:=oe n r;refine w_ (CF (λk ps=>ps.length=k/\∀(j h:Nat)(p:List aA),j<k->(cE n r)[j]? =some h->ps[j]? =some p->jm (jF (aD s) n r h) p) (by simp;omega) ⟨rfl,λj h p hj=>by omega⟩<|λk ps hk hI=>?_) ?_
   ·obtain⟨hp1,hp2⟩:=hI;have hk':k<(cE n r).length:=by simpa using hk
    refine Cb (x:=jF (aD s) n r (cE n r)[k]) (by rw[List.getElem?_map,aO hk'];rfl) ?_;have hcl:=p8 (aD s) n r (cE n r)[k];refine w_ (iW (N:=N) (by omega) (λx hx=>?_) (by omega)) ?_
    ·obtain⟨i,_,_,h⟩:=p9.1 hx;exact(hok x<|dX h).1
    ·intro p hp;refine CM (by rw[hp1];simp;omega)<|r_ ⟨by simp[hp1],λj h q hj hh hq=>?_⟩
     by_cases hjk:j<k
     ·rw[fP (by omega)]at hq;exact hp2 j h q hjk hh hq
     ·have:j=k:=by omega
      subst this;rw[eX (by omega),hp1,Nat.sub_self]at hq;simp at hq;subst hq;rw[aO hk']at hh;injection hh with hh;subst hh
      exact hp
   ·rintro ps⟨hp1,hp2⟩;refine r_ ⟨r,hJ,?_,λj h p hh hp=>?_⟩
    ·rw[hp1,hn];simp
    ·rw[hn]at hh ⊢;exact hp2 j h p (by have:=(aV.1 hp).1;omega) hh hp
end
section
variable {N:Nat}
def rO(n lo hi:Int):Bool:=decide (n>=lo)&&decide (n<=hi)
def oA(n:Int):Bool:=rO n (-1000000) 1000000
def dM(r:aB):Bool:=oA r.X0&&(oA r.Y0&&(oA r.X1&&oA r.Y1))
theorem wV(n:Int):gO N n=some (oA n):=rfl
theorem uj(r:aB):ik N r=some (dM r):=by
 unfold ik dM
 grind [wV,aC]
end
section
variable {N:Nat}
end
end Go.Gk
namespace Go.Gk
open Go IntKind Classical
section
variable {N:Nat}
theorem wW{a b:aA}(h:aQ a=aQ b):a=b:=by cases a;simp_all[aQ]
theorem nH:∀{s t:List aA},s.map aQ=t.map aQ->s=t
 | [],[],_=>rfl
 | [],_::_,h=>by cases h
 |_::_,[],h=>by cases h
 |a::s,b::t,h=>by
  rw[ee,ee]at h;injection h with h1 h2
  rw[wW h1,nH h2]
theorem tl{s t:List aA}(hs:bU (s.map aQ))(ht:bU (t.map aQ))(h:∀x y,lQ (s.map aQ) x y=lQ (t.map aQ) x y):s=t:=nH<|t9 hs ht h
theorem jm.unique{l:List aB}{s t:List aA}(hs:jm l s)(ht:jm l t):s=t:=tl hs.can ht.can λx y=>by rw[hs.cover,ht.cover]
theorem jm.wX{l:List aB}{s:List aA}(h:jm l s):s.length<=2*l.length/\(∀b∈s,b.Xs.length<=2*l.length)/\(aD s).length<=2*l.length*(2*l.length):=by
 have h1:s.length<=2*l.length:=by have:=h.tE.len h.can;grind [fH,jZ]
 have h2:∀b∈s,b.Xs.length<=2*l.length:=λb hb=>by
  have:=h.tE.row h.can (b:=aQ b)<|aZ.2 ⟨b,hb,rfl⟩
  rwa[nD]at this
 simp_all[pX]
theorem vC{n:Int}(h:oA n=true): -1000000<=n/\n<=1000000:=by
 unfold oA rO at h
 grind
theorem jo{r:aB}(h:dM r=true):(-1000000<=r.X0/\r.X0<=1000000)/\(-1000000<=r.Y0/\r.Y0<=1000000)/\(-1000000<=r.X1/\r.X1<=1000000)/\(-1000000<=r.Y1/\r.Y1<=1000000):=by
 unfold dM at h
 simp_all[bI,vC]
theorem qc{r:aB}(h:(-1000000<=r.X0/\r.X0<=1000000)/\(-1000000<=r.Y0/\r.Y0<=1000000)/\(-1000000<=r.X1/\r.X1<=1000000)/\(-1000000<=r.Y1/\r.Y1<=1000000)):dM r=true:=by
 unfold dM oA rO
 grind
theorem y8{r:aB}(h:dM r=true)(hx:r.X0<r.X1)(hy:r.Y0<r.Y1):xm r:=by
 have:=jo h;refine⟨hx,hy,?_,?_,?_,?_⟩ <;> unfold small <;> omega
def jG(r:aB):Option Int:=if dM r=true then(if r.X1<=r.X0\/r.Y1<=r.Y0 then some 13 else none)else some 1
def iJ(l:List aB):Int:=if 2000<l.length then 2 else(l.findSome? jG).getD 0
theorem qA{l:List aB}(hl:l.length<=4611686018427387904):fg N l=some (iJ l):=by
 unfold fg iJ
 by_cases h:2000<l.length
 ·grind
 ·rw[cP (by omega),bN,aI h,wE jG hl (λk x hx=>by
   rw[jT hx,aC,uj,aC];unfold jG
   cases hr:dM x with
   |false=>rfl
   |true=>
    rw[Bool.not_true,bN,aG rfl]
    by_cases h2:x.X1<=x.X0\/x.Y1<=x.Y0
    ·rw[aG h2,show(decide (x.X1<=x.X0)||decide (x.Y1<=x.Y0))=true by grind];rfl
    ·rw[aI h2,show(decide (x.X1<=x.X0)||decide (x.Y1<=x.Y0))=false by grind];rfl),aC]
  cases l.findSome? jG <;> rfl
theorem nI{r:aB}:jG r=none↔dM r=true/\r.X0<r.X1/\r.Y0<r.Y1:=by
 grind [jG]
theorem tm{r:aB}{e:Int}(h:jG r=some e):e≠0:=by
 grind [jG]
theorem gG{l:List aB}:iJ l=0↔l.length<=2000/\∀r∈l,dM r=true/\r.X0<r.X1/\r.Y0<r.Y1:=by
 unfold iJ
 by_cases h:2000<l.length
 ·omega
 ·rw[aI h]
  cases hf:l.findSome? jG with
  |none=>
   grind [List.findSome?_eq_none_iff,nI]
  |some e=>
   obtain⟨r,hr,he⟩:=List.exists_of_findSome?_eq_some hf
   grind [tm,nI]
def zY(l:List aB):Prop:=∀(k:Nat)a b,l[k]? =some a->l[k+1]? =some b->¬(b.Y0<a.Y0\/(b.Y0=a.Y0/\b.X0<=a.X0))
def uk(l:List aB):Prop:=∃s,jm l s/\aD s=l
noncomputable def j4(l:List aB):Int:=if iJ l≠0 then iJ l else if zY l then(if uk l then 0 else 3)else 8
theorem rP{l:List aB}(h:iJ l=0):l.length<=2000/\∀r∈l,xm r:=by grind [gG,y8]
theorem um{l m:List aB}(hl:l.length<=4611686018427387904):eQ N l m=some (decide<|l=m):=by
 have:=qP (l:=l) (m:=m) hl
 grind [t5,eQ,decide,instDecidableEqList]
theorem j5{l:List aB}(hl:l.length<=1073741824)(hN:4398046511104<=N):dE N l=some (j4 l):=by
 refine C1 ?_;unfold dE;refine k_ (qA (by omega)) ?_;unfold j4;refine A_ (λh=>r_ ?_)<|λh=>?_
 ·grind
 ·have h0:iJ l=0:=by simpa using h
  rw[aI (by omega)];obtain⟨hlen,hok⟩:=rP h0;refine w_ (CC (Go:=λ_=>zY l) (Rt:=λr=>r=8/\¬zY l) (λs=>∃k:Nat,s=((k:Nat):Int)/\1<=k/\∀(j:Nat)a b,j+1<k->l[j]? =some a->l[j+1]? =some b->¬(b.Y0<a.Y0\/(b.Y0=a.Y0/\b.X0<=a.X0))) (λs=>l.length - s.toNat) ?_ ⟨1,rfl,bB _,λj a b hj=>by omega⟩ (by simp;omega)) ?_
  ·rintro s⟨k,rfl,hk,hI⟩;refine A_ (λh=>?_)<|λh=>Cy λj a b ha hb=>hI j a b ?_ ha hb
   ·have hk2:k<l.length:=by grind
    rw[iU hk (by omega)];refine Ck (by omega)<|Ck hk2<|A_ (λhb=>Cw ⟨rfl,λhu=>?_⟩)<|λhb=>Cn ⟨⟨k+1,by grind [eC],by omega,λj a b hj ha hb'=>?_⟩,by grind [eC,dK]⟩
    ·refine hu (k - 1) l[k - 1] l[k] (aO _) (by grind) ?_
     grind
    grind
   grind
  ·rintro o ho;refine Cr ho (λs hu=>?_)<|λr hr=>r_ (by grind)
   rw[aG hu];refine w_ (iW (N:=N) (by omega) hok (by omega)) ?_;intro s hs;obtain⟨z1,z2,z3⟩:=hs.wX;have z4:2*l.length*(2*l.length)<=4000*4000:=Nat.mul_le_mul (by omega) (by omega);refine k_ (nF (kL hs.can) (by omega) (λb hb=>by grind) (by omega))<|k_ (um (by omega)) ?_
   have hiff:uk l↔aD s=l:=⟨λ⟨t,h1,h2⟩=>by rw[hs.unique h1];exact h2,λh=>⟨s,hs,h⟩⟩
   grind [r_,aD]
theorem jq{l:List aB}:j4 l=0↔iJ l=0/\zY l/\uk l:=by
 unfold j4
 grind
end
section
variable {N:Nat}
structure uP (r hs:List aB) (s:List aA):Prop where
 can:bU (s.map aQ)
 cover:∀x y,lQ (s.map aQ) x y=(mO r x y&& !mO hs x y)
 tE:mP (lR r++lR hs) (iH r++iH hs) (s.map aQ)
theorem uP.small{r hs:List aB}{s:List aA}(h:uP r hs s)(h1:∀x∈r,xm x)(h2:∀x∈hs,xm x):(∀c∈lR r++lR hs,small c)/\∀c∈iH r++iH hs,small c:=by
 constructor
 ·intro c hc
  rcases dA.1 hc with h|h
  ·obtain⟨x,hx,rfl|rfl⟩:=iI.1 h
   ·exact(h1 x hx).s1
   ·exact(h1 x hx).s2
  ·obtain⟨x,hx,rfl|rfl⟩:=iI.1 h
   ·exact(h2 x hx).s1
   ·exact(h2 x hx).s2
 ·intro c hc
  rcases dA.1 hc with h|h
  ·obtain⟨x,hx,rfl|rfl⟩:=eR.1 h
   ·exact(h1 x hx).s3
   ·exact(h1 x hx).s4
  ·obtain⟨x,hx,rfl|rfl⟩:=eR.1 h
   ·exact(h2 x hx).s3
   ·exact(h2 x hx).s4
theorem vD{s:List aA}{X Y:List Int}{A:Nat}(hc:bU (s.map aQ))(h:mP X Y (s.map aQ))(hX:X.length<=A)(hY:Y.length<=A):s.length<=A/\(∀b∈s,b.Xs.length<=A)/\(aD s).length<=A*A:=by
 have h1:s.length<=A:=by have:=h.len hc;grind
 have h2:∀b∈s,b.Xs.length<=A:=λb hb=>by
  have:=h.row hc (b:=aQ b)<|aZ.2 ⟨b,hb,rfl⟩
  grind [aQ]
 simp_all[pX]
theorem wY{s p:List aA}{ps:List (List aA)}{r:Nat->Nat}{X Y:List Int}(h:o6 s r ps)(hc:bU (s.map aQ))(hl:mP X Y (s.map aQ))(hX:∀c∈X,small c)(hY:∀c∈Y,small c)(hp:p∈ps):
  ∃j k:Nat,ps[j]? =some p/\(cE (aD s).length r)[j]? =some k/\jm (jF (aD s) (aD s).length r k) p/\mP X Y (p.map aQ):=by
 obtain⟨j,hj⟩:=eZ hp;have hjl:=(aV.1 hj).1;rw[h.len]at hjl;have hh:(cE (aD s).length r)[j]? =some (cE (aD s).length r)[j]:=aO hjl;have hs:=h.each j _ p hh hj;refine⟨j,_,hj,hh,hs,hs.tE.mono (λc hcx=>?_)<|λc hcx=>?_⟩
 ·obtain⟨x,hx,hxc⟩:=iI.1 hcx;obtain⟨i,_,_,hi⟩:=p9.1 hx;have:=nG hc hl hX hY x<|dX hi
  grind
 ·obtain⟨x,hx,hxc⟩:=eR.1 hcx;obtain⟨i,_,_,hi⟩:=p9.1 hx;have:=nG hc hl hX hY x<|dX hi
  grind
theorem o6.yq{s:List aA}{u:Nat->Nat}{ps:List (List aA)}(h:o6 s u ps):ps.length<=(aD s).length:=by
 rw[h.len];exact oe _ _
end
section
variable {N:Nat}
section
variable {α:Type}
end
def ints(l:List Nat):List Int:=l.map λi=>((i:Nat):Int)
def Lk(n:Nat)(tch:List (List Int))(i j:Nat):Prop:=∃(k:Nat)(l:List Int),tch[k]? =some l/\((i:Nat):Int)∈l/\j=n+k
structure BR (n m:Nat) (tch:List (List Int)) (r:Nat->Nat):Prop where
 le:∀i,i<n+m->r i<=i
 rr:∀i,i<n+m->r (r i)=r i
 co:∀i j,Lk n tch i j->r i=r j
 fi:∀S:Nat->Prop,(∀i j,Lk n tch i j->(S i↔S j))->∀i j,i<n+m->j<n+m->r i=r j->S i->S j
end
section
variable {N:Nat}
end
section
variable {N:Nat}
end
section
variable {N:Nat}
end
section
variable {N:Nat}
def qZ(l:List aB):Int:=l.foldl (λs x=>wrap .i64<|s+ wrap .i64 (wrap .i64 (x.X1 - x.X0)* wrap .i64 (x.Y1 - x.Y0))) 0
theorem vE{l:List aB}(hl:l.length<=4611686018427387904):iz N l=some (qZ l):=by
 refine C1 ?_;unfold iz;refine w_ (CF (λk s=>s=qZ (l.take k)) (by omega) rfl<|λk s hk e=>?_)<|λs e=>r_ (by rw[e,fu])
 subst e;refine Ck hk<|r_ ?_
 unfold qZ;rw[fU hk,List.foldl_append];rfl
end
def mT(M L:Nat)(f:Int->Bool):Nat:=((List.range L).map (λi=>if f (((i:Nat):Int) -((M:Nat):Int))=true then 1 else 0)).sum
def tn(M L:Nat)(f:Int->Int->Bool):Nat:=((List.range L).map<|λj=>mT M L<|λx=>f x<|((j:Nat):Int) -((M:Nat):Int)).sum
theorem eD(n:Nat)(g:Nat->Nat):((List.range<|n+1).map g).sum=((List.range n).map g).sum+g n:=by
 simp[List.range_succ,fO,List.sum_append]
theorem sum_add(g h:Nat->Nat):∀n,((List.range n).map<|λi=>g i+h i).sum=((List.range n).map g).sum+((List.range n).map h).sum
 | 0=>rfl
 |n+1=>by rw[eD,eD,eD,sum_add g h n];omega
theorem oj(M:Nat){a b:Int}(hab:a<=b):∀L:Nat,mT M L (λx=>decide (a<=x)&&decide (x<b))=(min b (((L:Nat):Int) -((M:Nat):Int)) - max a (-((M:Nat):Int))).toNat
 | 0=>by unfold mT;simp;omega
 |L+1=>by
  have ih:=oj M hab L;unfold mT at ih ⊢;rw[eD,ih]
  by_cases h:a<=((L:Nat):Int) -((M:Nat):Int)/\((L:Nat):Int) -((M:Nat):Int)<b
  ·rw[aG (by grind)];omega
  ·rw[aI (by grind)];omega
theorem qd(M L:Nat){f:Int->Bool}(h:∀x,f x=false):mT M L f=0:=by
 unfold mT;have:∀n,((List.range n).map (λi=>if f (((i:Nat):Int) -((M:Nat):Int))=true then 1 else 0)).sum=0:=by
  intro n
  induction n with
  |zero=>rfl
  |succ n ih=>grind [eD]
 exact this L
theorem x9(M L:Nat){f g:Int->Bool}(h:∀x,¬(f x=true/\g x=true)):mT M L (λx=>f x||g x)=mT M L f+mT M L g:=by
 unfold mT;rw[<-sum_add]
 grind
theorem ya(M L:Nat){f g:Int->Int->Bool}(h:∀x y,¬(f x y=true/\g x y=true)):tn M L (λx y=>f x y||g x y)=tn M L f+tn M L g:=by
 unfold tn;rw[<-sum_add];congr 1
 simp_all[List.map_congr_left,x9]
def rQ(r:aB)(x y:Int):Bool:=(decide (r.X0<=x)&&decide (x<r.X1))&&(decide (r.Y0<=y)&&decide (y<r.Y1))
def aN(r:aB):Nat:=(r.X1 - r.X0).toNat*(r.Y1 - r.Y0).toNat
theorem vF{M:Nat}{r:aB}(hx:r.X0<=r.X1)(hy:r.Y0<=r.Y1)(h1: -((M:Nat):Int)<=r.X0)(h2:r.X1<=((M:Nat):Int))(h3: -((M:Nat):Int)<=r.Y0)(h4:r.Y1<=((M:Nat):Int)):tn M (2*M) (rQ r)=aN r:=by
 have row:∀y,mT M (2*M) (λx=>rQ r x y)=if(decide (r.Y0<=y)&&decide (y<r.Y1))=true then(r.X1 - r.X0).toNat else 0:=by
  intro y
  by_cases h:(decide (r.Y0<=y)&&decide (y<r.Y1))=true
  ·rw[aG h];have e:(λx=>rQ r x y)=λx=>decide (r.X0<=x)&&decide (x<r.X1):=by grind [rQ]
   rw[e,oj M hx];omega
  grind [qd,rQ]
 unfold tn;simp only[row];have key:∀n,((List.range n).map (λj=>if(decide (r.Y0<=((j:Nat):Int) -((M:Nat):Int))&&decide (((j:Nat):Int) -((M:Nat):Int)<r.Y1))=true then(r.X1 - r.X0).toNat else 0)).sum=(r.X1 - r.X0).toNat*mT M n (λy=>decide (r.Y0<=y)&&decide (y<r.Y1)):=by
  intro n
  induction n with
  |zero=>simp[mT]
  |succ n ih=>
   grind [mT,eD,Nat.mul_add]
 rw[key,oj M hy];unfold aN;congr 1;have:(((2*M:Nat):Nat):Int)=2*((M:Nat):Int):=by omega
 rw[this];congr 1;omega
def mx(a b:aB):Prop:=∀x y,¬(rQ a x y=true/\rQ b x y=true)
theorem qe(r:aB)(l:List aB)(x y:Int):mO (r::l) x y=(rQ r x y||mO l x y):=rfl
theorem k7{r:aB}{x y:Int}:rQ r x y=true↔(r.X0<=x/\x<r.X1)/\r.Y0<=y/\y<r.Y1:=by simp[rQ]
theorem qf{M:Nat}:∀{l:List aB},l.Pairwise mx->(∀r∈l,r.X0<r.X1/\r.Y0<r.Y1/\ -((M:Nat):Int)<=r.X0/\r.X1<=((M:Nat):Int)/\ -((M:Nat):Int)<=r.Y0/\r.Y1<=((M:Nat):Int))->tn M (2*M) (mO l)=(l.map aN).sum
 | [],_,_=>by
  unfold tn;have:∀n,((List.range n).map<|λj=>mT M (2*M)<|λx=>mO [] x<|((j:Nat):Int) -((M:Nat):Int)).sum=0:=by
   intro n
   induction n with
   |zero=>rfl
   |succ n ih=>rw[eD,ih,qd M (2*M) (f:=λx=>mO [] x (((n:Nat):Int) -((M:Nat):Int))) (λx=>rfl)]
  rw[this];rfl
 |r::l,hp,h=>by
  have hp':=List.pairwise_cons.1 hp;have e:mO (r::l)=λx y=>rQ r x y||mO l x y:=by funext x y;exact qe r l x y
  have hr:=h r (by simp)
  rw[e,ya _ _ (λx y⟨h1,h2⟩=>by
   obtain⟨q,hq,h3⟩:=gz.1 h2
   exact hp'.1 q hq x y ⟨h1,k7.2 h3⟩),vF (by omega) (by omega) hr.2.2.1 hr.2.2.2.1 hr.2.2.2.2.1 hr.2.2.2.2.2,qf hp'.2 (λq hq=>h q (kc _ hq)),ee,List.sum_cons]
theorem wZ{M:Nat}{l m:List aB}(hl:l.Pairwise mx)(hm:m.Pairwise mx)(h1:∀r∈l,r.X0<r.X1/\r.Y0<r.Y1/\ -((M:Nat):Int)<=r.X0/\r.X1<=((M:Nat):Int)/\ -((M:Nat):Int)<=r.Y0/\r.Y1<=((M:Nat):Int))
  (h2:∀r∈m,r.X0<r.X1/\r.Y0<r.Y1/\ -((M:Nat):Int)<=r.X0/\r.X1<=((M:Nat):Int)/\ -((M:Nat):Int)<=r.Y0/\r.Y1<=((M:Nat):Int)) (h:∀x y,mO l x y=mO m x y):(l.map aN).sum=(m.map aN).sum:=by
 rw[<-qf (M:=M) hl h1,<-qf (M:=M) hm h2];congr 1
 grind
theorem k8:∀{xs:List Int},g8 xs->(qo xs).Pairwise (λp q=>p.2<q.1)
 | [],_=>gI
 | [a],_=>gI
 |a::b::l,h=>by
  unfold qo;rw[List.pairwise_cons];exact⟨λq hq=>h.tail.head q.1 (uM q hq).1,k8 h.tail.tail⟩
def uo(a b:aB):Prop:=a.Y1<=b.Y0\/(a.Y0=b.Y0/\a.Y1=b.Y1/\a.X1<b.X0)
theorem uo.apart{a b:aB}(h:uo a b):mx a b:=λx y⟨h1,h2⟩=>by
 rw[k7]at h1 h2
 rcases h with h|h <;> omega
theorem iK:∀{s:List aA},bU (s.map aQ)->(aD s).Pairwise uo
 | [],_=>gI
 |b::s,h=>by
  rw[kj,List.pairwise_append];refine⟨?_,iK h.tail,λx hx y hy=>?_⟩
  ·unfold gX;rw[List.pairwise_map];exact List.Pairwise.imp (λhpq=> .inr ⟨rfl,rfl,hpq⟩)<|k8 (h.each (aQ b) (by simp)).2.2.1
  ·unfold gX at hx;obtain⟨p,_,rfl⟩:=aZ.1 hx;obtain⟨c,hc,q,_,rfl⟩:=l5 hy;exact .inl<|h.qS (aQ c)<|aZ.2 ⟨c,hc,rfl⟩
theorem fG{s:List aA}(h:bU (s.map aQ)):∀r∈aD s,r.X0<r.X1/\r.Y0<r.Y1:=λr hr=>by
 obtain⟨b,hb,p,hp,rfl⟩:=l5 hr;have hc:=h.each (aQ b)<|aZ.2 ⟨b,hb,rfl⟩
 exact⟨wQ hc.2.2.1 p hp,hc.1⟩
theorem tp{s:List aA}(h:bU (s.map aQ)):(aD s).Nodup:=by
 have h1:=iK h;have h2:=fG h;refine List.Pairwise.imp_of_mem (λ{a b}ha hb hab e=>?_) h1;subst e;have:=h2 a ha
 rcases hab with h|h <;> omega
theorem w4{s:List aA}(h:bU (s.map aQ)):zY (aD s):=λk a b ha hb hbad=>by
 have:=ke.1 (iK h) k (k+1) (aV.1 ha).1 (aV.1 hb).1 (by omega);rw[(aV.1 ha).2,(aV.1 hb).2]at this;have h2:=fG h a<|dX ha
 rcases this with h|h <;> rcases hbad with h3|h3 <;> omega
theorem om:∀{xs:List Int},xs.length % 2=0->∀c∈xs,∃p∈qo xs,c=p.1\/c=p.2
 | [],_,c,hc=>by cases hc
 | [a],h,_,_=>by simp at h
 |a::b::l,h,c,hc=>by
  unfold qo
  rcases eE.1 hc with rfl|hc
  ·exact⟨(c,b),by simp, .inl rfl⟩
  ·rcases eE.1 hc with rfl|hc
   ·exact⟨(a,c),by simp, .inr rfl⟩
   ·obtain⟨p,hp,h2⟩:=om (by grind) c hc;exact⟨p,kc _ hp,h2⟩
theorem tq{s:List aA}(h:bU (s.map aQ)):jm (aD s) s:=by
 refine⟨h,λx y=>(kJ h x y).symm,λb hb=>?_⟩;obtain⟨c,hc,rfl⟩:=aZ.1 hb;have hcc:=h.each _ hb;have mem:∀p∈qo c.Xs,(⟨p.1,c.Y0,p.2,c.Y1⟩:aB)∈aD s:=λp hp=>by
  unfold aD gX
  grind
 have hne:∃x,x∈c.Xs:=by
  cases hx:c.Xs with
  |nil=>exact absurd hx hcc.2.1
  |cons x l=>simp
 obtain⟨x,hx⟩:=hne;obtain⟨p,hp,_⟩:=om hcc.2.2.2 x hx;refine⟨eR.2 ⟨_,mem p hp, .inl rfl⟩,eR.2 ⟨_,mem p hp, .inr rfl⟩,λc' hc'=>?_⟩;obtain⟨q,hq,h2⟩:=om hcc.2.2.2 c' hc';exact iI.2 ⟨_,mem q hq,h2⟩
theorem oB{s:List aA}(h:bU (s.map aQ))(hl:(aD s).length<=2000)(hr:∀r∈aD s,dM r=true):j4 (aD s)=0:=
 jq.2 ⟨gG.2 ⟨hl,λr hm=>⟨hr r hm,fG h r hm⟩⟩,w4 h,s,tq h,rfl⟩
structure BT (t:List Bd):Prop where
 each:∀b∈t,b.y0<b.y1/\g8 b.xs/\b.xs.length % 2=0
 ord:t.Pairwise (λb c=>b.y1<=c.y0)
theorem w5{α:Type}{R:α->α->Prop}{l:List α}(h:l.Pairwise R){a b:α}(ha:a∈l)(hb:b∈l):a=b\/R a b\/R b a:=by
 induction h with
 |nil=>cases ha
 |cons h1 _ ih=>
  rcases eE.1 ha with ea|ha1
  ·rcases eE.1 hb with eb|hb1
   ·exact .inl (by rw[ea,eb])
   ·rw[ea];exact .inr<|.inl<|h1 _ hb1
  ·rcases eE.1 hb with eb|hb1
   ·rw[eb];exact .inr<|.inr<|h1 _ ha1
   ·exact ih ha1 hb1
def atR(t:List aA)(j:Nat)(x y:Int):Prop:=∃R:aB,(aD t)[j]? =some R/\R.X0<=x/\x<R.X1/\R.Y0<=y/\y<R.Y1
section
variable {s t:List aA}{x y:Int}{i j:Nat}{u:Nat->Nat}
theorem o7(h:bU (t.map aQ)):lQ (t.map aQ) x y=true↔∃j,atR t j x y:=by
 rw[<-kJ h,gz];constructor
 ·rintro⟨R,hR,⟨h1,h2⟩,h3,h4⟩;obtain⟨j,hj⟩:=eZ hR;exact⟨j,R,hj,h1,h2,h3,h4⟩
 ·rintro⟨j,R,hj,h1,h2,h3,h4⟩;exact⟨R,dX hj,⟨h1,h2⟩,h3,h4⟩
theorem kM(h:atR t j x y):∃b∈t,∃q∈qo b.Xs,(aD t)[j]? =some ⟨q.1,b.Y0,q.2,b.Y1⟩/\q.1<=x/\x<q.2/\b.Y0<=y/\y<b.Y1:=by
 obtain⟨R,hj,h1,h2,h3,h4⟩:=h;obtain⟨b,hb,q,hq,rfl⟩:=l5<|dX hj
 exact⟨b,hb,q,hq,hj,h1,h2,h3,h4⟩
theorem rR(h:bU (t.map aQ)){b c:aA}(hb:b∈t)(hc:c∈t):b=c\/b.Y1<=c.Y0\/c.Y1<=b.Y0:=by
 have h1:t.Pairwise (λb c=>b.Y1<=c.Y0):=(List.pairwise_map.1 h.ord).imp λh=>h.1;exact w5 h1 hb hc
theorem rS(h:bU (t.map aQ)){b:aA}(hb:b∈t){p q:Int×Int}(hp:p∈qo b.Xs)(hq:q∈qo b.Xs):p=q\/p.2<q.1\/q.2<p.1:=
 w5 (k8 (h.each (aQ b)<|aZ.2 ⟨b,hb,rfl⟩).2.2.1) hp hq
theorem lT(h:bU (t.map aQ))(h1:atR t i x y)(h2:atR t j x y):i=j:=by
 obtain⟨b,hb,p,hp,e1,a1,a2,a3,a4⟩:=kM h1;obtain⟨c,hc,q,hq,e2,b1,b2,b3,b4⟩:=kM h2;have e:b=c:=by rcases rR h hb hc with e|e|e;exact e;omega;omega
 subst e;have e:p=q:=by rcases rS h hb hp hq with e|e|e;exact e;omega;omega
 subst e;have hi:=(aV.1 e1).1;have hj:=(aV.1 e2).1;have:=(List.getElem_inj (h₀:=hi) (h₁:=hj)<|tp h).1 (by rw[(aV.1 e1).2,(aV.1 e2).2]);exact this
theorem q5(h:bU (t.map aQ))(h1:atR t j x y)(h2:lQ (t.map aQ) (x+1) y=true):atR t j (x+1) y:=by
 obtain⟨k,hk⟩:=(o7 h).1 h2;obtain⟨b,hb,p,hp,e1,a1,a2,a3,a4⟩:=kM h1;obtain⟨c,hc,q,hq,e2,b1,b2,b3,b4⟩:=kM hk;have e:b=c:=by rcases rR h hb hc with e|e|e;exact e;omega;omega
 subst e;have e:p=q:=by rcases rS h hb hp hq with e|e|e;exact e;omega;omega
 subst e;exact⟨_,e1,b1,b2,a3,a4⟩
theorem tr(h:bU (t.map aQ))(hu:Joined (aD t) u)(h1:atR t i x y)(h2:atR t j x (y+1)):u i=u j:=by
 obtain⟨b,hb,p,hp,e1,a1,a2,a3,a4⟩:=kM h1;obtain⟨c,hc,q,hq,e2,b1,b2,b3,b4⟩:=kM h2
 rcases rR h hb hc with e|e|e
 ·subst e;have e:p=q:=by rcases rS h hb hp hq with e|e|e;exact e;omega;omega
  subst e;rw[lT h (x:=x) (y:=y) ⟨_,e1,a1,a2,a3,a4⟩ ⟨_,e2,b1,b2,a3,a4⟩]
 ·exact hu.co i j ⟨_,_,e1,e2,by show b.Y1=c.Y0;omega,by show p.1<q.2;omega,by show q.1<p.2;omega⟩
 ·omega
end
theorem k9{α β:Type}{f:α->β}{l:List α}(hn:l.Nodup)(hi:∀a∈l,∀b∈l,f a=f b->a=b):(l.map f).Nodup:=by
 unfold List.Nodup;rw[List.pairwise_map];exact List.Pairwise.imp_of_mem (λha hb hne e=>hne<|hi _ ha _ hb e) hn
def oR(p q:Int×Int):Prop:=(q.1=p.1+1/\q.2=p.2)\/(p.1=q.1+1/\q.2=p.2)\/(q.1=p.1/\q.2=p.2+1)\/(q.1=p.1/\p.2=q.2+1)
section
variable {t:List aA}{u:Nat->Nat}
def vO(t:List aA)(p:Int×Int):Prop:=lQ (t.map aQ) p.1 p.2=true
theorem gR(h:bU (t.map aQ)){p:Int×Int}:vO t p↔∃j,atR t j p.1 p.2:=o7 h
theorem tt(h:bU (t.map aQ))(hu:Joined (aD t) u){p q:Int×Int}{i j:Nat}(hp:atR t i p.1 p.2)(hq:atR t j q.1 q.2)(ha:oR p q):u i=u j:=by
 obtain⟨x,y⟩:=p;obtain⟨x',y'⟩:=q;have ip:lQ (t.map aQ) x y=true:=(o7 h).2 ⟨i,hp⟩;have iq:lQ (t.map aQ) x' y'=true:=(o7 h).2 ⟨j,hq⟩
 rcases ha with⟨h1,h2⟩|⟨h1,h2⟩|⟨h1,h2⟩|⟨h1,h2⟩
 ·simp only at h1 h2 hp hq;subst h1;subst h2;rw[lT h (q5 h hp iq) hq]
 ·simp only at h1 h2 hp hq;subst h1;subst h2;rw[lT h (q5 h hq ip) hp]
 ·simp only at h1 h2 hp hq;subst h1;subst h2;exact tr h hu hp hq
 ·simp only at h1 h2 hp hq;subst h1;subst h2;exact(tr h hu hq hp).symm
theorem qg(h:bU (t.map aQ))(hu:Joined (aD t) u)(R:Int×Int->Prop)(hR:∀p q,vO t p->vO t q->oR p q->R p->R q)
  {p q:Int×Int} {i j:Nat} (hp:atR t i p.1 p.2) (hq:atR t j q.1 q.2) (he:u i=u j) (h0:R p):R q:=by
 have sym:∀p q,vO t p->vO t q->oR p q->(R p↔R q):=λp q a b c=>⟨hR p q a b c,hR q p b a (by unfold oR at c ⊢;omega)⟩;have row:∀(n k:Nat)(Q:aB)(x y:Int),(aD t)[k]? =some Q->Q.X0<=x->x+n<Q.X1->Q.Y0<=y->y<Q.Y1->(R (x,y)↔R (x+n,y)):=by
  intro n
  induction n with
  |zero=>intro k Q x y _ _ _ _ _;simp
  |succ n ih=>
   intro k Q x y hk h1 h2 h3 h4;rw[ih k Q x y hk h1 (by omega) h3 h4];refine sym _ _ ((gR h).2 ⟨k,Q,hk,?_,?_,h3,h4⟩) ((gR h).2 ⟨k,Q,hk,?_,?_,h3,h4⟩) (.inl ⟨?_,rfl⟩) <;> simp only <;> omega
 have col:∀(n k:Nat)(Q:aB)(x y:Int),(aD t)[k]? =some Q->Q.X0<=x->x<Q.X1->Q.Y0<=y->y+n<Q.Y1->(R (x,y)↔R (x,y+n)):=by
  intro n
  induction n with
  |zero=>intro k Q x y _ _ _ _ _;simp
  |succ n ih=>
   intro k Q x y hk h1 h2 h3 h4;rw[ih k Q x y hk h1 h2 h3 (by omega)];refine sym _ _ ((gR h).2 ⟨k,Q,hk,h1,h2,?_,?_⟩) ((gR h).2 ⟨k,Q,hk,h1,h2,?_,?_⟩) (.inr<|.inr<|.inl ⟨rfl,?_⟩) <;> simp only <;> omega
 have one:∀(k:Nat)(Q:aB)(x y:Int),(aD t)[k]? =some Q->Q.X0<=x->x<Q.X1->Q.Y0<=y->y<Q.Y1->(R (Q.X0,Q.Y0)↔R (x,y)):=λk Q x y hk h1 h2 h3 h4=>by
  have e1:Q.X0+(((x - Q.X0).toNat:Nat):Int)=x:=by omega
  have e2:Q.Y0+(((y - Q.Y0).toNat:Nat):Int)=y:=by omega
  have a:=row (x - Q.X0).toNat k Q Q.X0 Q.Y0 hk (by omega) (by omega) (by omega) (by omega);have b:=col (y - Q.Y0).toNat k Q x Q.Y0 hk h1 h2 (by omega) (by omega);rw[e1]at a;rw[e2]at b;exact a.trans b
 obtain⟨P,hP,p1,p2,p3,p4⟩:=hp;obtain⟨Q,hQ,q1,q2,q3,q4⟩:=hq;have hi:=(aV.1 hP).1;have hj:=(aV.1 hQ).1
 have hS:=hu.fi (λk=>∃A:aB,(aD t)[k]? =some A/\R (A.X0,A.Y0)) (λa c hac=>by
  obtain⟨A,C,hA,hC,t1,t2,t3⟩:=hac;have za:=fG h A<|dX hA
  have zc:=fG h C<|dX hC
  have hz:∃z:Int,A.X0<=z/\z<A.X1/\C.X0<=z/\z<C.X1:=by
   by_cases hz:A.X0<=C.X0
   ·exact⟨C.X0,hz,t3,Int.le_refl _,zc.1⟩
   ·exact⟨A.X0,Int.le_refl _,za.1,by omega,t2⟩
  obtain⟨z,z1,z2,z3,z4⟩:=hz;have r1:=one a A z (A.Y1 - 1) hA z1 z2 (by omega) (by omega);have r2:=one c C z C.Y0 hC z3 z4 (by omega) (by omega);have r3:=sym (z,A.Y1 - 1) (z,C.Y0) ((gR h).2 ⟨a,A,hA,z1,z2,by simp only;omega,by simp only;omega⟩) ((gR h).2 ⟨c,C,hC,z3,z4,by simp only;omega,by simp only;omega⟩)<|.inr<|.inr<|.inl ⟨rfl,by simp only;omega⟩
  have key:R (A.X0,A.Y0)↔R (C.X0,C.Y0):=r1.trans<|r3.trans r2.symm
  constructor
  ·rintro⟨A',hA',hr⟩;rw[hA]at hA';injection hA' with e;subst e
   exact⟨C,hC,key.1 hr⟩
  ·rintro⟨C',hC',hr⟩;rw[hC]at hC';injection hC' with e;subst e
   exact⟨A,hA,key.2 hr⟩) i j hi hj he ⟨P,hP,(one i P p.1 p.2 hP p1 p2 p3 p4).2 h0⟩
 obtain⟨Q',hQ',hr⟩:=hS;rw[hQ]at hQ';injection hQ' with e;subst e
 exact(one j Q q.1 q.2 hQ q1 q2 q3 q4).1 hr
end
theorem kN{n:Nat}{H:List Nat}{a:Nat×Nat}:a∈(List.range n).flatMap (λk=>H.map<|λh=>(k,h))↔a.1<n/\a.2∈H:=by
 obtain⟨k,h⟩:=a;simp only[List.mem_flatMap,List.mem_range,aZ,Prod.mk.injEq];constructor
 ·rintro⟨k',h1,h',h2,rfl,rfl⟩;exact⟨h1,h2⟩
 ·rintro⟨h1,h2⟩;exact⟨k,h1,h,h2,rfl,rfl⟩
theorem q6(n:Nat)(H:List Nat):((List.range n).flatMap<|λk=>H.map<|λh=>(k,h)).length=n*H.length:=by
 induction n with
 |zero=>simp
 |succ n ih=>rw[List.range_succ,List.flatMap_append,dL,ih];simp[Nat.succ_mul]
theorem tu{H:List Nat}(hH:H.Nodup)(n:Nat):((List.range n).flatMap<|λk=>H.map<|λh=>(k,h)).Nodup:=by
 induction n with
 |zero=>simp
 |succ n ih=>
  rw[List.range_succ,List.flatMap_append,List.nodup_append];refine⟨ih,?_,λa ha b hb e=>?_⟩
  ·simp only[List.flatMap_cons,List.flatMap_nil,gm];exact k9 hH λa _ b _ e=>by injection e
  ·subst e;have h1:=(kN.1 ha).1;simp only[List.flatMap_cons,List.flatMap_nil,gm,aZ]at hb;obtain⟨h,_,rfl⟩:=hb;simp at h1
section
variable {s x:List aA}{u v:Nat->Nat}
theorem rT(hs:bU (s.map aQ))(hx:bU (x.map aQ))(hu:Joined (aD s) u)(hv:Joined (aD x) v){n:Nat}(T U:Nat->Int×Int->Int×Int)(hUT:∀k p,k<n->U k (T k p)=p)
  (ha:∀k p q,k<n->(oR p q↔oR (T k p) (T k q))) (hc:∀q,vO x q↔∃k p,k<n/\vO s p/\q=T k p)
  (hsep:∀k l p q,k<n->l<n->vO s p->vO s q->oR (T k p) (T l q)\/T k p=T l q->k=l):
  (cE (aD x).length v).length=n*(cE (aD s).length u).length:=by
 have key1:∀{k i i' j j':Nat}{p p':Int×Int},k<n->atR s i p.1 p.2->atR s i' p'.1 p'.2->u i=u i'->atR x j (T k p).1 (T k p).2->atR x j' (T k p').1 (T k p').2->v j=v j':=λ{k i i' j j' p p'}hk h1 h2 he h3 h4=>by
  refine qg hs hu (λq=>∀b,atR x b (T k q).1 (T k q).2->v j=v b) (λq q' hq hq' hqq hR b hb=>?_) h1 h2 he (λb hb=>by rw[lT hx h3 hb]) j' h4;obtain⟨c,hcq⟩:=(gR hx).1<|(hc<|T k q).2 ⟨k,q,hk,hq,rfl⟩
  rw[hR c hcq];exact tt hx hv hcq hb<|(ha k q q' hk).1 hqq
 have key2:∀{k l i i' j j':Nat}{p p':Int×Int},k<n->l<n->atR s i p.1 p.2->atR s i' p'.1 p'.2->atR x j (T k p).1 (T k p).2->atR x j' (T l p').1 (T l p').2->v j=v j'->k=l/\u i=u i':=λ{k l i i' j j' p p'}hk hl h1 h2 h3 h4 he=>by
  obtain⟨q,b,hb,e1,e2⟩:=qg hx hv (λw=>∃q b,atR s b q.1 q.2/\w=T k q/\u b=u i) (λw w' hw hw' hww⟨q,b,hb,e1,e2⟩=>by
   obtain⟨l',q',hl',hq',e3⟩:=(hc w').1 hw';obtain⟨b',hb'⟩:=(gR hs).1 hq';subst e1;subst e3;have:=hsep k l' q q' hk hl' ((gR hs).2 ⟨b,hb⟩) hq'<|.inl hww
   subst this
   exact⟨q',b',hb',rfl,by rw[<-e2];exact(tt hs hu hb hb' ((ha k q q' hk).2 hww)).symm⟩) h3 h4 he ⟨p,i,h1,rfl,rfl⟩
  have hkl:=hsep l k p' q hl hk ((gR hs).2 ⟨i',h2⟩) ((gR hs).2 ⟨b,hb⟩)<|.inr e1
  subst hkl;have e3:p'=q:=by rw[<-hUT l p' hl,e1,hUT l q hl]
  subst e3;exact⟨rfl,by rw[<-e2,lT hs h2 hb]⟩
 have cs:∀h,h∈cE (aD s).length u->∃p:Int×Int,atR s h p.1 p.2/\u h=h:=λh hh=>by
  obtain⟨h1,h2⟩:=eM.1 hh;have hk:(aD s)[h]? =some (aD s)[h]:=aO h1;have hp:=fG hs _<|dO h1
  exact⟨((aD s)[h].X0,(aD s)[h].Y0),⟨_,hk,Int.le_refl _,hp.1,Int.le_refl _,hp.2⟩,h2⟩
 have cx:∀h,h∈cE (aD x).length v->∃p:Int×Int,atR x h p.1 p.2/\v h=h:=λh hh=>by
  obtain⟨h1,h2⟩:=eM.1 hh;have hk:(aD x)[h]? =some (aD x)[h]:=aO h1;have hp:=fG hx _<|dO h1
  exact⟨((aD x)[h].X0,(aD x)[h].Y0),⟨_,hk,Int.le_refl _,hp.1,Int.le_refl _,hp.2⟩,h2⟩
 have hin:∀{w:List aA}{j:Nat}{a b:Int},atR w j a b->j<(aD w).length:=λ{w j a b}⟨_,h,_⟩=>(aV.1 h).1;have f:∀a:Nat×Nat,a.1<n/\a.2∈cE (aD s).length u->∃m,m∈cE (aD x).length v/\∃p j,atR s a.2 p.1 p.2/\atR x j (T a.1 p).1 (T a.1 p).2/\v j=m:=λa⟨h1,h2⟩=>by
  obtain⟨p,hp,_⟩:=cs a.2 h2;obtain⟨j,hj⟩:=(gR hx).1<|(hc<|T a.1 p).2 ⟨a.1,p,h1,(gR hs).2 ⟨_,hp⟩,rfl⟩
  have hl:=hin hj;exact⟨v j,eM.2 ⟨Nat.lt_of_le_of_lt (hv.le j hl) hl,hv.rr j hl⟩,p,j,hp,hj,rfl⟩
 have g:∀h,h∈cE (aD x).length v->∃a:Nat×Nat,(a.1<n/\a.2∈cE (aD s).length u)/\∃p i,atR s i p.1 p.2/\u i=a.2/\atR x h (T a.1 p).1 (T a.1 p).2:=λh hh=>by
  obtain⟨q,hq,_⟩:=cx h hh;obtain⟨k,p,hk,hp,e⟩:=(hc q).1<|(gR hx).2 ⟨h,hq⟩
  obtain⟨i,hi⟩:=(gR hs).1 hp;have hl:=hin hi;subst e;exact⟨(k,u i),⟨hk,eM.2 ⟨Nat.lt_of_le_of_lt (hu.le i hl) hl,hu.rr i hl⟩⟩,p,i,hi,rfl,hq⟩
 refine Nat.le_antisymm ?_ ?_
 ·rw[<-q6]
  have hn:=k9 (l:=cE (aD x).length v) (f:=λh=>if hh:h∈cE (aD x).length v then Classical.choose (g h hh)else(0,0)) (lS _ _) (λa ha' b hb' e=>by
   simp only[ha',hb',dif_pos]at e;obtain⟨ga1,p,i,g1,g2,g3⟩:=Classical.choose_spec<|g a ha'
   obtain⟨gb1,p',i',g1',g2',g3'⟩:=Classical.choose_spec<|g b hb'
   rw[<-e]at g2' g3';have:=key1 ga1.1 g1 g1' (by rw[g2,g2']) g3 g3';rw[(eM.1 ha').2,(eM.1 hb').2]at this
   exact this)
  have:=dJ (m:=(List.range n).flatMap (λk=>(cE (aD s).length u).map (λh=>(k,h)))) hn (λa ha'=>by
   obtain⟨h,hh,rfl⟩:=aZ.1 ha';simp only[hh,dif_pos]
   exact kN.2 (Classical.choose_spec (g h hh)).1)
  rwa[fH]at this
 ·rw[<-q6]
  have hn:=k9 (l:=(List.range n).flatMap (λk=>(cE (aD s).length u).map (λh=>(k,h)))) (f:=λa=>if hh:a.1<n/\a.2∈cE (aD s).length u then Classical.choose (f a hh)else 0) (tu (lS _ _) n) (λa ha' b hb' e=>by
   have ha1:=kN.1 ha';have hb1:=kN.1 hb';simp only[ha1,hb1,and_self,dif_pos]at e;obtain⟨_,p,j,g1,g2,g3⟩:=Classical.choose_spec<|f a ha1
   obtain⟨_,p',j',g1',g2',g3'⟩:=Classical.choose_spec<|f b hb1
   obtain⟨e1,e2⟩:=key2 ha1.1 hb1.1 g1 g1' g2 g2' (by rw[g3,g3'];exact e);rw[(eM.1 ha1.2).2,(eM.1 hb1.2).2]at e2
   exact Prod.ext e1 e2)
  have:=dJ (m:=cE (aD x).length v) hn (λa ha'=>by
   obtain⟨b,hb,rfl⟩:=aZ.1 ha';have hb1:=kN.1 hb;simp only[hb1,and_self,dif_pos]
   exact(Classical.choose_spec (f b hb1)).1)
  rwa[fH]at this
end
end Go.Gk
namespace Go.Gk
open Go IntKind
def uQ(q tx ty:Int)(p:Int×Int):Int×Int:=
 if q=0 then(p.1+tx,p.2+ty)else if q=1 then(tx - p.2 - 1,ty+p.1)else if q=2 then(tx - p.1 - 1,ty - p.2 - 1)else(tx+p.2,ty - p.1 - 1)
def yr(q tx ty:Int)(p:Int×Int):Int×Int:=
 if q=0 then(p.1 - tx,p.2 - ty)else if q=1 then(p.2 - ty,tx - p.1 - 1)else if q=2 then(tx - p.1 - 1,ty - p.2 - 1)else(ty - p.2 - 1,p.1 - tx)
theorem uR(q tx ty:Int)(p:Int×Int):yr q tx ty (uQ q tx ty p)=p:=by
 obtain⟨x,y⟩:=p;unfold yr uQ;split
 ·simp only[Prod.mk.injEq];omega
 ·split
  ·simp only[Prod.mk.injEq];omega
  ·split
   ·simp only[Prod.mk.injEq];omega
   ·simp only[Prod.mk.injEq];omega
theorem nJ(q tx ty:Int)(p:Int×Int):uQ q tx ty (yr q tx ty p)=p:=by
 obtain⟨x,y⟩:=p;unfold yr uQ;split
 ·simp only[Prod.mk.injEq];omega
 ·split
  ·simp only[Prod.mk.injEq];omega
  ·split
   ·simp only[Prod.mk.injEq];omega
   ·simp only[Prod.mk.injEq];omega
theorem yb(q tx ty:Int)(p p':Int×Int):oR p p'↔oR (uQ q tx ty p) (uQ q tx ty p'):=by
 obtain⟨x,y⟩:=p;obtain⟨x',y'⟩:=p';unfold oR uQ;split
 ·simp only;omega
 ·split
  ·simp only;omega
  ·split
   ·simp only;omega
   ·simp only;omega
def l9(q tx ty:Int)(r:aB):aB:=
 if q=0 then⟨r.X0+tx,r.Y0+ty,r.X1+tx,r.Y1+ty⟩else if q=1 then⟨tx - r.Y1,ty+r.X0,tx - r.Y0,ty+r.X1⟩
 else if q=2 then⟨tx - r.X1,ty - r.Y1,tx - r.X0,ty - r.Y0⟩else⟨tx+r.Y0,ty - r.X1,tx+r.Y1,ty - r.X0⟩
theorem qh(q tx ty:Int)(r:aB)(p:Int×Int):rQ (l9 q tx ty r) (uQ q tx ty p).1 (uQ q tx ty p).2=rQ r p.1 p.2:=by
 obtain⟨x,y⟩:=p;rw[jw,k7,k7];unfold l9 uQ;split
 ·simp only;omega
 ·split
  ·simp only;omega
  ·split
   ·simp only;omega
   ·simp only;omega
theorem ma(q tx ty:Int){r:aB}(h:r.X0<r.X1/\r.Y0<r.Y1):(l9 q tx ty r).X0<(l9 q tx ty r).X1/\(l9 q tx ty r).Y0<(l9 q tx ty r).Y1:=by
 unfold l9;split
 ·simp only;omega
 ·split
  ·simp only;omega
  ·split
   ·simp only;omega
   ·simp only;omega
theorem w6(q tx ty:Int)(r:aB):aN (l9 q tx ty r)=aN r:=by
 unfold l9 aN;split
 ·simp only;congr 2 <;> omega
 ·split
  ·simp only;rw[Nat.mul_comm];congr 2 <;> omega
  ·split
   ·simp only;congr 2 <;> omega
   ·simp only;rw[Nat.mul_comm];congr 2 <;> omega
theorem vG{q tx ty:Int}{a b:aB}(h:mx a b):mx (l9 q tx ty a) (l9 q tx ty b):=λx y⟨h1,h2⟩=>by
 have e:uQ q tx ty (yr q tx ty (x,y))=(x,y):=nJ q tx ty (x,y);have a1:=qh q tx ty a<|yr q tx ty (x,y)
 have b1:=qh q tx ty b<|yr q tx ty (x,y)
 rw[e]at a1 b1;exact h _ _ ⟨by rw[<-a1];exact h1,by rw[<-b1];exact h2⟩
theorem w7(q tx ty:Int)(l:List aB)(p:Int×Int):mO (l.map<|l9 q tx ty) (uQ q tx ty p).1 (uQ q tx ty p).2=mO l p.1 p.2:=by
 induction l with
 |nil=>rfl
 |cons r l ih=>rw[ee,qe,qe,ih,qh]
def uS(t:Int×Int×Int)(p:Int×Int):Int×Int:=uQ t.1 t.2.1 t.2.2 p
def r6(t:Int×Int×Int)(p:Int×Int):Int×Int:=yr t.1 t.2.1 t.2.2 p
def oS(t:Int×Int×Int)(r:aB):aB:=l9 t.1 t.2.1 t.2.2 r
def cC(pl:List (Int×Int×Int))(r:List aB):List aB:=pl.flatMap λt=>r.map<|oS t
def oT(a b:aB):Prop:=a.X1+1<=b.X0\/b.X1+1<=a.X0\/a.Y1+1<=b.Y0\/b.Y1+1<=a.Y0
theorem oT.symm{a b:aB}(h:oT a b):oT b a:=by unfold oT at *;omega
theorem rU{a b:aB}{p q:Int×Int}(h:oT a b)(hp:rQ a p.1 p.2=true)(hq:rQ b q.1 q.2=true):¬(oR p q\/p=q):=by
 rw[k7]at hp hq;rintro(h1|rfl)
 ·unfold oR at h1;unfold oT at h;omega
 ·unfold oT at h;omega
section
variable {pl:List (Int×Int×Int)}{r:List aB}{s x:List aA}{u v:Nat->Nat}{W H:Int}
theorem uq(q:Int×Int):mO (cC pl r) q.1 q.2=true↔∃t∈pl,mO r (r6 t q).1 (r6 t q).2=true:=by
 unfold cC;rw[gz];simp only[List.mem_flatMap];constructor
 ·rintro⟨a,⟨t,ht,ha⟩,h⟩;refine⟨t,ht,?_⟩;have e:uS t (r6 t q)=q:=nJ _ _ _ q;have:=w7 t.1 t.2.1 t.2.2 r<|r6 t q
  change mO (r.map<|oS t) (uS t<|r6 t q).1 (uS t<|r6 t q).2=_ at this;rw[e]at this;rw[<-this];exact gz.2 ⟨a,ha,h⟩
 ·rintro⟨t,ht,h⟩;have e:uS t (r6 t q)=q:=nJ _ _ _ q;have:=w7 t.1 t.2.1 t.2.2 r<|r6 t q
  change mO (r.map<|oS t) (uS t<|r6 t q).1 (uS t<|r6 t q).2=_ at this;rw[e,h]at this;obtain⟨a,ha,h1⟩:=gz.1 this;exact⟨a,⟨t,ht,ha⟩,h1⟩
theorem rV{t:Int×Int×Int}{p:Int×Int}(h:0<=p.1/\p.1<W/\0<=p.2/\p.2<H):rQ (oS t ⟨0,0,W,H⟩) (uS t p).1 (uS t p).2=true:=by
 have:=qh t.1 t.2.1 t.2.2 ⟨0,0,W,H⟩ p;unfold oS uS;rw[this,k7];exact⟨⟨h.1,h.2.1⟩,h.2.2.1,h.2.2.2⟩
theorem w8{α:Type}{R:α->α->Prop}{l:List α}(h:l.Pairwise R){i j:Nat}{a b:α}(hi:l[i]? =some a)(hj:l[j]? =some b)(hij:i<j):R a b:=by
 obtain⟨h1,e1⟩:=aV.1 hi;obtain⟨h2,e2⟩:=aV.1 hj;rw[<-e1,<-e2];exact ke.1 h i j h1 h2 hij
theorem qB(hs:jm r s)(hx:jm (cC pl r) x)(hu:Joined (aD s) u)(hv:Joined (aD x) v)
  (hB:∀p:Int×Int,mO r p.1 p.2=true->0<=p.1/\p.1<W/\0<=p.2/\p.2<H) (hf:pl.Pairwise (λa b=>oT (oS a ⟨0,0,W,H⟩)<|oS b ⟨0,0,W,H⟩)):
  (cE (aD x).length v).length=pl.length*(cE (aD s).length u).length:=by
 have hin:∀p,vO s p↔mO r p.1 p.2=true:=λp=>by unfold vO;rw[hs.cover]
 refine rT hs.can hx.can hu hv (λk=>uS<|pl.getD k (0,0,0)) (λk=>r6<|pl.getD k (0,0,0)) (λk p _=>uR _ _ _ p) (λk p q _=>yb _ _ _ p q) (λq=>?_)<|λk l p q hk hl hp hq h=>?_
 ·unfold vO;rw[hx.cover,uq];constructor
  ·rintro⟨t,ht,h⟩;obtain⟨k,hk⟩:=eZ ht;refine⟨k,r6 t q,(aV.1 hk).1,(hin _).2 h,?_⟩;simp only[List.getD_eq_getElem?_getD,hk,Option.getD_some];exact(nJ _ _ _ q).symm
  ·rintro⟨k,p,hk,hp,rfl⟩;have hg:pl[k]? =some pl[k]:=aO hk;refine⟨pl[k],dO hk,?_⟩;simp only[List.getD_eq_getElem?_getD,hg,Option.getD_some];have e:r6 pl[k] (uS pl[k] p)=p:=uR _ _ _ p;rw[e];exact(hin _).1 hp
 ·have hgk:pl[k]? =some pl[k]:=aO hk;have hgl:pl[l]? =some pl[l]:=aO hl;simp only[List.getD_eq_getElem?_getD,hgk,hgl,Option.getD_some]at h;have c1:=rV (t:=pl[k])<|hB p<|(hin p).1 hp
  have c2:=rV (t:=pl[l])<|hB q<|(hin q).1 hq
  rcases Nat.lt_trichotomy k l with hkl|hkl|hkl
  ·exact absurd h<|rU (w8 hf hgk hgl hkl) c1 c2
  ·exact hkl
  ·exact absurd h<|rU (w8 hf hgl hgk hkl).symm c1 c2
theorem w9(pl:List (Int×Int×Int))(r:List aB):((cC pl r).map aN).sum=pl.length*(r.map aN).sum:=by
 unfold cC
 induction pl with
 |nil=>simp
 |cons t pl ih=>
  have e:(r.map<|oS t).map aN=r.map aN:=by
   rw[List.map_map];exact List.map_congr_left λa _=>w6 _ _ _ a
  rw[List.flatMap_cons,fO,List.sum_append,ih,e,g9,Nat.succ_mul,Nat.add_comm]
theorem rW(hr:r.Pairwise mx)(hin:∀a∈r,0<=a.X0/\a.X1<=W/\0<=a.Y0/\a.Y1<=H)(hf:pl.Pairwise (λa b=>oT (oS a ⟨0,0,W,H⟩)<|oS b ⟨0,0,W,H⟩)):(cC pl r).Pairwise mx:=by
 unfold cC;rw[List.pairwise_flatMap];refine⟨λt _=>?_,hf.imp λ{a b}hab=>?_⟩
 ·rw[List.pairwise_map];exact hr.imp λh=>vG h
 ·intro c hc d hd X Y ⟨h1,h2⟩;obtain⟨c',hc',rfl⟩:=aZ.1 hc;obtain⟨d',hd',rfl⟩:=aZ.1 hd;have key:∀(t:Int×Int×Int)(e:aB),e∈r->rQ (oS t e) X Y=true->rQ (oS t ⟨0,0,W,H⟩) X Y=true:=λt e he h=>by
   have e1:uS t (r6 t (X,Y))=(X,Y):=nJ _ _ _ _;have e2:=qh t.1 t.2.1 t.2.2 e<|r6 t (X,Y)
   have e3:=rV (t:=t) (W:=W) (H:=H) (p:=r6 t (X,Y));change rQ (oS t e) (uS t<|r6 t (X,Y)).1 (uS t<|r6 t (X,Y)).2=_ at e2;rw[e1]at e2 e3;rw[h]at e2;have:=k7.1 e2.symm;have hb:=hin e he;exact e3 ⟨by omega,by omega,by omega,by omega⟩
  exact rU hab (p:=(X,Y)) (q:=(X,Y)) (key a c' hc' h1) (key b d' hd' h2)<|.inr rfl
theorem tv{M:Nat}(hx:jm (cC pl r) x)(hr:r.Pairwise mx)(hp:∀a∈r,a.X0<a.X1/\a.Y0<a.Y1)(hin:∀a∈r,0<=a.X0/\a.X1<=W/\0<=a.Y0/\a.Y1<=H)
  (hf:pl.Pairwise (λa b=>oT (oS a ⟨0,0,W,H⟩)<|oS b ⟨0,0,W,H⟩)) (hM:∀a∈cC pl r,-((M:Nat):Int)<=a.X0/\a.X1<=((M:Nat):Int)/\ -((M:Nat):Int)<=a.Y0/\a.Y1<=((M:Nat):Int))
  (hX:∀a∈aD x,-((M:Nat):Int)<=a.X0/\a.X1<=((M:Nat):Int)/\ -((M:Nat):Int)<=a.Y0/\a.Y1<=((M:Nat):Int)):((aD x).map aN).sum=pl.length*(r.map aN).sum:=by
 rw[<-w9];refine wZ (M:=M) ((iK hx.can).imp λh=>h.apart) (rW hr hin hf) (λa ha=>?_) (λa ha=>?_) (λX Y=>by rw[kJ hx.can,hx.cover])
 ·have h1:=fG hx.can a ha;have h2:=hX a ha;exact⟨h1.1,h1.2,h2⟩
 ·have h2:=hM a ha;unfold cC at ha;obtain⟨t,_,ha⟩:=List.mem_flatMap.1 ha;obtain⟨b,hb,rfl⟩:=aZ.1 ha;have h1:=ma t.1 t.2.1 t.2.2<|hp b hb
  exact⟨h1.1,h1.2,h2⟩
end
section
variable {N:Nat}
def lU(p:bX)(b:fy):Int:=y2 p.dP<|λk=>k.Name.mV b
def bS(p:bX)(b:fy):bG:=(p.dP.find?<|λk=>k.Name.mV b).getD default
theorem mb{p:bX}{b:fy}(h:p.dP.length<=1048576):eO N p b=some (lU p b):=by
 unfold eO;have e:dD N p.dP (λy0=>eJ N y0 b)=jU p.dP (λy0=>eJ N y0 b):=rfl;rw[e,jd (φ:=λy0=>eJ N y0 b) (λk:bG=>k.Name.mV b) (by omega)<|λx _=>rfl,aC];rfl
theorem o8{p:bX}{b:fy}(h:0<=lU p b):∃k:Nat,lU p b=((k:Nat):Int)/\p.dP[k]? =some (bS p b):=by
 rcases l3 p.dP (λk=>k.Name.mV b)with⟨h1,_⟩|⟨k,x,h1,h2,h3,h4⟩
 ·unfold lU at h;omega
 ·refine⟨k,h1,?_⟩;unfold bS;have:p.dP.find? (λk=>k.Name.mV b)=some x:=by
   rw[List.find?_eq_some_iff_getElem];obtain⟨hk,e⟩:=aV.1 h2;refine⟨h3,k,hk,e,λj hj=>?_⟩;have:=h4 j p.dP[j] hj<|aO (by omega)
   simp[this]
  rw[this];exact h2
def cU(p:bX)(s:Slot):aB:=
 if Int.tmod s.aM 2=1 then⟨s.At.X,s.At.Y,s.At.X+(bS p s.dG).H,s.At.Y+(bS p s.dG).W⟩else⟨s.At.X,s.At.Y,s.At.X+(bS p s.dG).W,s.At.Y+(bS p s.dG).H⟩
structure mc (l:List bG):Prop where
 Ad:∀k∈l,(1<=k.W/\k.W<=1000000)/\1<=k.H/\k.H<=1000000
theorem vH{s:fy}(h:s.hL.length<=1048576):Ok (jf N s) (λ_=>True):=by
 unfold jf;refine w_ (C9 (λ_ _=>True) (Go:=λ_=>True) (Rt:=λ_=>True) (by omega) trivial (λk s' hk _=>?_)<|λ_ _=>trivial)<|λo ho=>Cr ho (λ_ _=>r_ trivial)<|λ_ _=>r_ trivial
 refine k_ (wA s k hk) ?_;exact A_ (λ_=>Cw trivial)<|λ_=>Cn trivial
theorem oC{a b c:Int}:(decide (a>=b)&&decide (a<=c))=true↔b<=a/\a<=c:=by simp
theorem oU{l:List bG}(hl:l.length<=1048576)(hn:∀k∈l,k.Name.hL.length<=1048576):Ok (fc N l) (λv=>v=0->mc l):=by
 unfold fc;refine A_ (λ_=>r_ (λh=>by omega))<|λ_=>?_
 refine w_ (C9 (λk _=>∀j x,j<k->l[j]? =some x->(1<=x.W/\x.W<=1000000)/\1<=x.H/\x.H<=1000000) (Go:=λ_=>mc l) (Rt:=λr=>r≠0) (by omega) (λj x h=>by omega) (λk s' hk hI=>?_)
  (λ_ h=>⟨λx hx=>by
   obtain⟨j,hj⟩:=eZ hx
   exact h j x (aV.1 hj).1 hj⟩)) (λo ho=>Cr ho (λ_ h=>r_ λ_=>h) (λr hr=>r_ λh=>absurd h hr))
 have hx:l[k]? =some l[k]:=aO hk;refine Cb hx ?_;refine w_ (vH<|hn _<|dO hk)<|λb _=>?_
 refine A_ (λ_=>Cw (by decide))<|λ_=>?_
 have ew:((aY N l[k].W 1 1000000).bind λx126=>bif(!x126)then some true else((aY N l[k].H 1 1000000).bind λx128=>some<|!x128))=some (!((decide (l[k].W>=1)&&decide (l[k].W<=1000000))&&(decide (l[k].H>=1)&&decide (l[k].H<=1000000)))):=by
  unfold aY;rw[aC,aC]
  cases(decide (l[k].W>=1)&&decide (l[k].W<=1000000)) <;> rfl
 refine k_ ew ?_;refine A_ (λ_=>Cw (by decide))<|λh=>?_
 rw[Bool.not_eq_false',bI,oC,oC]at h;refine k_ (y3 bG.Name hx (by omega)) ?_;refine A_ (λ_=>Cw (by decide))<|λ_=>Cn λj x hj hjx=>?_
 by_cases e:j=k
 ·subst e;rw[hx]at hjx;injection hjx with hjx;subst hjx;exact⟨h.1,h.2⟩
 ·exact hI j x (by omega) hjx
def oq(a b:aB)(g:Int):Prop:=a.X1+g<=b.X0\/b.X1+g<=a.X0\/a.Y1+g<=b.Y0\/b.Y1+g<=a.Y0
structure lV (p:bX) (s:Slot):Prop where
 kind:0<=lU p s.dG
 qu:0<=s.aM/\s.aM<=3
 x:0<=s.At.X/\s.At.X<=1000000
 y:0<=s.At.Y/\s.At.Y<=1000000
 on:(cU p s).X1<=1000000/\(cU p s).Y1<=1000000
structure nK (p:bX):Prop where
 BS:0<=p.lD/\p.lD<=1000000
 kinds:mc p.dP
 yq:p.aX.length<=500
 slot:∀s∈p.aX,lV p s
 apart:p.aX.Pairwise (λs t=>oq (cU p t) (cU p s) p.lD)
theorem vI{p:bX}{s:Slot}(hk:p.dP.length<=1048576)(ok:mc p.dP)(h0:0<=lU p s.dG)(hx:0<=s.At.X/\s.At.X<=1000000)(hy:0<=s.At.Y/\s.At.Y<=1000000):
  ij N p s=some (cU p s):=by
 obtain⟨k,k1,k2⟩:=o8 h0;have hd:=ok.Ad _<|dX k2
 unfold ij jA cU;rw[mb hk,aC,k1,jT k2,aC]
 by_cases h:Int.tmod s.aM 2=1
 ·have e:(Int.tmod s.aM 2==1)=true:=by rw[h];rfl
  rw[e,aW,aC,aG h];simp only;rw[cA (by omega) (by omega),cA (by omega) (by omega)]
 ·have e:(Int.tmod s.aM 2==1)=false:=by rw[beq_eq_false_iff_ne];exact h
  rw[e,bN,aC,aI h];simp only;rw[cA (by omega) (by omega),cA (by omega) (by omega)]
theorem ur{p:bX}(hk:p.dP.length<=1048576)(hs:p.aX.length<=1048576)(hW:1<=p.W/\p.W<=1000000)(hH:1<=p.H/\p.H<=1000000)(hR:0<=p.aU/\p.aU<=1000000)(hG:0<=p.lD/\p.lD<=1000000)(ok:mc p.dP):
  Ok (jg N p) (λz=>z.1.length<=500/\(z.2=0->p.aX.length<=500/\(∀s∈p.aX,lV p s)/\p.aX.Pairwise (λs t=>oq (cU p t) (cU p s) p.lD))):=by
 unfold jg;refine A_ (λ_=>r_ ⟨by simp,λh=>by simp at h⟩)<|λhf=>?_
 have hf:=of_decide_eq_false hf;have hfew:p.aX.length<=500:=by omega
 refine w_ (C9 (λk s=>s=(p.aX.take k).map (cU p)/\(∀x∈p.aX.take k,lV p x)/\(p.aX.take k).Pairwise (λs t=>oq (cU p t) (cU p s) p.lD))
  (Go:=λs=>s.length<=500/\(∀s∈p.aX,lV p s)/\p.aX.Pairwise (λs t=>oq (cU p t) (cU p s) p.lD)) (Rt:=λz=>z.1= []/\z.2≠0) (by omega) ⟨by simp,by simp,by simp⟩ (λk out hk' hI=>?_)
  (λs h=>by rw[fu]at h;exact⟨by rw[h.1,fH];exact hfew,h.2⟩)) (λo ho=>Cr ho (λs h=>r_ ⟨h.1,λ_=>⟨hfew,h.2⟩⟩) (λr hr=>r_ ⟨by rw[hr.1];simp,λh=>absurd h hr.2⟩))
 obtain⟨e1,e2,e3⟩:=hI;have hx:p.aX[k]? =some p.aX[k]:=aO hk';refine Cb hx ?_;generalize hs':p.aX[k]=s at hx;refine k_ (mb hk) ?_;refine A_ (λ_=>Cw ⟨rfl,by decide⟩)<|λh1=>?_
 have h1:=of_decide_eq_false h1;have ew:((aY N s.aM 0 3).bind λx140=>bif(!x140)then some true else((aY N s.At.X 0 p.W).bind λx143=>bif(!x143)then some true else((aY N s.At.Y 0 p.H).bind λx146=>some<|!x146))) =
   some (!((decide (s.aM>=0)&&decide (s.aM<=3))&&((decide (s.At.X>=0)&&decide (s.At.X<=p.W))&&(decide (s.At.Y>=0)&&decide (s.At.Y<=p.H))))):=by
  unfold aY;rw[aC,aC,aC]
  cases(decide (s.aM>=0)&&decide (s.aM<=3))
  ·rfl
  ·cases(decide (s.At.X>=0)&&decide (s.At.X<=p.W)) <;> rfl
 refine k_ ew ?_;refine A_ (λ_=>Cw ⟨rfl,by decide⟩)<|λh2=>?_
 simp only[Bool.not_eq_false',bI,eY,ge_iff_le]at h2;refine k_ (vI hk ok (by omega) (by omega) (by omega)) ?_
 refine k_ (x:=(((((decide ((cU p s).X0>=p.aU))&&(decide ((cU p s).Y0>=p.aU)))&&(decide ((cU p s).X0<=p.W)))&&(decide ((cU p s).Y0<=p.H)))&&(decide ((cU p s).X1<=p.W - p.aU)))&&(decide ((cU p s).Y1<=p.H - p.aU))) (by
  unfold kR
  rw[cA (by omega) (by omega),cA (by omega) (by omega)]) ?_
 refine A_ (λ_=>Cw ⟨rfl,by decide⟩)<|λh3=>?_
 rw[Bool.not_eq_false']at h3;simp only[bI,eY]at h3;have so:lV p s:=⟨by omega,h2.1,⟨by omega,by omega⟩,⟨by omega,by omega⟩,by omega,by omega⟩;have hout:∀d∈out,∃t∈p.aX.take k,d=cU p t:=λd hd=>by
  rw[e1]at hd;obtain⟨t,ht,e⟩:=aZ.1 hd;exact⟨t,ht,e.symm⟩
 have hpos:∀t,lV p t->0<=(cU p t).X0/\(cU p t).X0<=1000000/\0<=(cU p t).Y0/\(cU p t).Y0<=1000000/\0<=(cU p t).X1/\0<=(cU p t).Y1:=λt ht=>by
  obtain⟨k',k1,k2⟩:=o8 ht.kind;have hd:=ok.Ad _<|dX k2
  have:=ht.x;have:=ht.y;unfold cU;split
  ·simp only;omega
  ·simp only;omega
 have ps:=hpos s so;have hc:dz N out (λy0=>fe N y0 (cU p s) p)=some (out.any<|λd=> !(((decide ((cU p s).X1+p.lD<=d.X0)||decide (d.X1+p.lD<=(cU p s).X0))||decide ((cU p s).Y1+p.lD<=d.Y0))||decide (d.Y1+p.lD<=(cU p s).Y0))):=by
  refine kG (φ:=λy0=>fe N y0 (cU p s) p) (λd:aB=> !(((decide ((cU p s).X1+p.lD<=d.X0)||decide (d.X1+p.lD<=(cU p s).X0))||decide ((cU p s).Y1+p.lD<=d.Y0))||decide (d.Y1+p.lD<=(cU p s).Y0))) ?_ ?_
  ·rw[e1,fH,cV];omega
  ·intro d hd;obtain⟨t,ht,rfl⟩:=hout d hd;have pt:=hpos t<|e2 t ht
   have ot:=(e2 t ht).on;have os:=so.on;unfold fe i9;rw[aC,cA (by omega) (by omega),cA (by omega) (by omega),cA (by omega) (by omega),cA (by omega) (by omega)]
 refine k_ hc ?_;refine A_ (λ_=>Cw ⟨rfl,by decide⟩)<|λh4=>?_
 refine CM (by rw[e1,fH,cV];simp;omega)<|Cn ?_
 have et:p.aX.take (k+1)=p.aX.take k++[s]:=by rw[List.take_add_one,hx];rfl
 rw[et];refine⟨by rw[e1,fO];rfl,λy hy=>?_,?_⟩
 ·rcases dA.1 hy with hy|hy
  ·exact e2 y hy
  ·rw[iZ.1 hy];exact so
 ·rw[List.pairwise_append];refine⟨e3,List.pairwise_singleton _ _,λa ha b hb=>?_⟩;rw[iZ.1 hb];rw[List.any_eq_false]at h4;have:=h4 (cU p a) (by rw[e1];exact List.mem_map_of_mem ha);simp only[Bool.not_eq_true,Bool.not_eq_false',ec,eY]at this;unfold oq;omega
theorem xc{p:bX}{l:List aB}(hl:l.length<=1048576)(hm:p.Marks.length<=1048576):
  Ok (lz p.Marks.length (λ(k63:Nat)(s64:List aB)=>((idx p.Marks (k63:Int)).bind λx128=>(eK N p x128).bind λx134=>bif(!x134)then some (.rt (([]:List aB),1))else((cT N s64<|λy0=>fE N y0 x128).bind λx146=>bif x146 then some (.rt (([]:List aB),12))else((mZ p.Marks 0 (k63:Int)).bind λx153=>(dN N x153 x128).bind λx156=>bif x156 then some (.rt (([]:List aB),7))else some (.nx s64))):Option (Fl (List aB)<|List aB×Int))) l)
   (zU (λ_=>True)<|λr=>r.2≠0):=by
 refine C9 (λ_ s=>s=l) (by omega) rfl (λk s hk e=>?_)<|λ_ _=>trivial
 subst e;have hx:p.Marks[k]? =some p.Marks[k]:=aO hk;refine Cb hx ?_;have e1:Ok (eK N p p.Marks[k]) (λ_=>True):=by
  unfold eK aY;rw[aC,aC];refine w_ (P:=λ_=>True) (A_ (λ_=>r_ trivial)<|λ_=>r_ trivial)<|λ_ _=>r_ trivial
 refine w_ e1<|λb _=>?_
 refine A_ (λ_=>Cw (by decide))<|λ_=>?_
 have e2:cT N s (λy0=>fE N y0 p.Marks[k])=some (s.any<|λy=>((decide (p.Marks[k].X>y.X0)&&decide (p.Marks[k].X<y.X1))&&decide (p.Marks[k].Y>y.Y0))&&decide (p.Marks[k].Y<y.Y1)):=
  kG (φ:=λy0=>fE N y0 p.Marks[k]) _ (by omega) (λx _=>rfl)
 refine k_ e2 ?_;refine A_ (λ_=>Cw (by decide))<|λ_=>?_
 refine k_ (pF _ _ (by omega)) ?_;have e3:dN N (p.Marks.take k) p.Marks[k]=some (decide<|p.Marks[k]∈p.Marks.take k):=rH (by simp;omega);refine k_ e3 ?_;exact A_ (λ_=>Cw (by decide))<|λ_=>Cn rfl
theorem oV{p:bX}(hk:p.dP.length<=1048576)(hn:∀k∈p.dP,k.Name.hL.length<=1048576)(hs:p.aX.length<=1048576)(hm:p.Marks.length<=1048576):Ok (ff N p) (λv=>v=0->nK p):=by
 unfold ff kS;refine w_ (P:=λz=>z.2=0->nK p) ?_<|λz hz=>r_ hz
 have ew:((aY N p.W 1 1000000).bind λx49=>bif(!x49)then some true else((aY N p.H 1 1000000).bind λx51=>bif(!x51)then some true else((aY N p.aU 0 1000000).bind λx53=>bif(!x53)then some true else((aY N p.lD 0 1000000).bind λx55=>some<|!x55)))) =
   some (!((decide (p.W>=1)&&decide (p.W<=1000000))&&((decide (p.H>=1)&&decide (p.H<=1000000))&&((decide (p.aU>=0)&&decide (p.aU<=1000000))&&(decide (p.lD>=0)&&decide (p.lD<=1000000)))))):=by
  unfold aY;rw[aC,aC,aC,aC]
  cases(decide (p.W>=1)&&decide (p.W<=1000000))
  ·rfl
  ·cases(decide (p.H>=1)&&decide (p.H<=1000000))
   ·rfl
   ·cases(decide (p.aU>=0)&&decide (p.aU<=1000000)) <;> rfl
 refine k_ ew ?_;refine A_ (λ_=>r_ (λh=>by simp at h))<|λh=>?_
 simp only[Bool.not_eq_false',bI,eY,ge_iff_le]at h;refine w_ (oU hk hn)<|λv hv=>?_
 refine A_ (λh1=>r_<|λh2=>?_)<|λh1=>?_
 ·simp only at h2;rw[h2]at h1;exact absurd h1 (by decide)
 have ok:=hv (by simpa using h1);refine w_ (ur hk hs h.1 h.2.1 h.2.2.1 h.2.2.2 ok)<|λz hz=>?_
 refine A_ (λh1=>r_<|λh2=>?_)<|λh1=>?_
 ·simp only at h2;rw[h2]at h1;exact absurd h1 (by decide)
 obtain⟨z1,z2,z3⟩:=hz.2 (by simpa using h1);refine A_ (λ_=>r_ (λh=>by simp at h))<|λ_=>?_
 refine w_ (xc (by omega) hm)<|λo ho=>Cr ho (λs _=>r_ λ_=>⟨h.2.2.2,ok,z1,z2,z3⟩)<|λr hr=>r_ λh=>absurd h hr
end
section
variable {N:Nat}
def oW(l:List aB):Nat:=(l.map aN).sum
theorem xd{r:aB}(h:dM r=true):aN r<=4000000000000:=by
 have:=jo h;have h1:(r.X1 - r.X0).toNat<=2000000:=by omega
 have h2:(r.Y1 - r.Y0).toNat<=2000000:=by omega
 have:=Nat.mul_le_mul h1 h2;unfold aN;omega
theorem uT:∀{l:List aB},(∀r∈l,dM r=true)->oW l<=l.length*4000000000000
 | [],_=>bB _
 |r::l,h=>by
  have h1:=xd<|h r (by simp)
  have h2:=uT (l:=l) λx hx=>h x<|kc _ hx
  unfold oW at *;rw[ee,List.sum_cons,g9,Nat.add_mul];omega
theorem zZ{r:aB}(h:dM r=true)(hx:r.X0<r.X1)(hy:r.Y0<r.Y1):wrap .i64 (wrap .i64 (r.X1 - r.X0)* wrap .i64 (r.Y1 - r.Y0))=((aN r:Nat):Int):=by
 have hb:=jo h;have hn:=xd h;rw[cA (x:=r.X1 - r.X0) (by omega) (by omega),cA (x:=r.Y1 - r.Y0) (by omega) (by omega)];have e:(r.X1 - r.X0)*(r.Y1 - r.Y0)=((aN r:Nat):Int):=by
  unfold aN
  grind
 grind [pV]
theorem qi{l:List aB}(h:∀r∈l,dM r=true/\r.X0<r.X1/\r.Y0<r.Y1)(hl:l.length<=2000):qZ l=((oW l:Nat):Int):=by
 have key:∀(l:List aB)(acc:Nat),(∀r∈l,dM r=true/\r.X0<r.X1/\r.Y0<r.Y1)->acc+l.length*4000000000000<=4000000000000000000->
   l.foldl (λ(s:Int)(x:aB)=>wrap .i64<|s+ wrap .i64 (wrap .i64 (x.X1 - x.X0)* wrap .i64 (x.Y1 - x.Y0))) ((acc:Nat):Int)=((acc+oW l:Nat):Int):=by
  intro l
  induction l with
  |nil=>intro acc _ _;rfl
  |cons r l ih=>
   intro acc h hb;have hr:=h r (by simp);have hn:=xd hr.1;rw[g9,Nat.add_mul]at hb;rw[List.foldl_cons,zZ hr.1 hr.2.1 hr.2.2,wrap_add (by omega),ih (acc+aN r) (λx hx=>h x<|kc _ hx) (by omega)];unfold oW;rw[ee,List.sum_cons];congr 1;omega
 grind [Nat.mul_le_mul_right,qZ]
theorem rX{l:List aB}(h:j4 l=0)(hN:4398046511104<=N):gP N l=some (qZ l,0):=by
 have hl:=(rP (jq.1 h).1).1;unfold gP;rw[j5 (by omega) hN,aC,h,show((0:Int) != 0)=false by rfl,bN,vE (by omega),aC]
end
section
variable {N:Nat}
def tw(p:bA):bA:=⟨0 - p.Y,p.X⟩
def rY:Nat->bA->bA
 | 0,p=>p
 |n+1,p=>rY n (tw p)
def jH(p:bA):Prop:=(-1000000<=p.X/\p.X<=1000000)/\ -1000000<=p.Y/\p.Y<=1000000
theorem q7{p:bA}(h:jH p):jH (tw p):=by unfold jH tw at *;simp only;omega
theorem qj:∀(n:Nat){p:bA},jH p->jH (rY n p)
 | 0,_,h=>h
 |n+1,_,h=>qj n (q7 h)
theorem xe{q:Nat}(hq:q<=3):∀(n k N:Nat)(p:bA),k+n=q->jH p->n<N->
  kl (λ(s36:bA×Int)=>(bif decide (s36.2<((q:Nat):Int))then some (.nx ({{s36.1 with X:=wrap .i64<|0 - s36.1.Y}with Y:=s36.1.X},wrap .i64<|s36.2+1))else(some<|.br (s36.1,s36.2)):Option (Fl (bA×Int) Empty))) N (p,((k:Nat):Int))=some (.go (rY n p,((q:Nat):Int))):=by
 intro n
 induction n with
 |zero=>
  intro k N p hk hp hN;obtain⟨M,rfl⟩:∃M,N=M+1:=⟨N - 1,by omega⟩;have:k=q:=by omega
  subst this;unfold kl;simp only;rw[cP (by omega),bN];rfl
 |succ n ih=>
  intro k N p hk hp hN;obtain⟨M,rfl⟩:∃M,N=M+1:=⟨N - 1,by omega⟩;have h2:=hp.2;unfold kl;simp only;rw[cS (by omega),aW,cA (by omega) (by omega),eC (by omega)];exact ih (k+1) M (tw p) (by omega) (q7 hp) (by omega)
theorem nL{q:Nat}(hq:q<=3){p a:bA}(hp:jH p)(ha:(0<=a.X/\a.X<=2000000)/\0<=a.Y/\a.Y<=2000000)(hN:16<=N):
  eL N p ⟨false,((q:Nat):Int),a⟩=some ⟨(rY q p).X+a.X,(rY q p).Y+a.Y⟩:=by
 unfold eL;simp only[bN];rw[aC,show(p,(0:Int))=(p,((0:Nat):Int))from rfl,xe hq q 0 N p (by omega) hp (by omega),aC];have hs:=qj q hp;simp only[Fo.cs];have h1:=hs.1;have h2:=hs.2;rw[cA (by omega) (by omega),cA (by omega) (by omega)]
theorem tz{q tx ty:Int}(hq:0<=q/\q<=3){r:aB}(hr:dM r=true)(hx:r.X0<r.X1)(hy:r.Y0<r.Y1)(ha:(0<=tx/\tx<=2000000)/\0<=ty/\ty<=2000000)(hN:16<=N):
  eA N r ⟨false,q,⟨tx,ty⟩⟩=some (l9 q tx ty r):=by
 obtain⟨b1,b2,b3,b4⟩:=jo hr;have hp:jH ⟨r.X0,r.Y0⟩:=⟨b1,b2⟩;have hp':jH ⟨r.X1,r.Y1⟩:=⟨b3,b4⟩;obtain⟨n,rfl⟩:=Int.eq_ofNat_of_zero_le hq.1;have hn:n<=3:=by omega
 unfold eA;rw[nL hn hp ha hN,aC,nL hn hp' ha hN,aC];have:n=0\/n=1\/n=2\/n=3:=by omega
 rcases this with rfl|rfl|rfl|rfl
 ·have e:l9 ((0:Nat):Int) tx ty r= ⟨r.X0+tx,r.Y0+ty,r.X1+tx,r.Y1+ty⟩:=by unfold l9;rw[aG (by decide)]
  rw[e];simp only[rY,tw,Option.some.injEq,aB.mk.injEq];refine⟨?_,?_,?_,?_⟩ <;> omega
 ·have e:l9 ((1:Nat):Int) tx ty r= ⟨tx - r.Y1,ty+r.X0,tx - r.Y0,ty+r.X1⟩:=by unfold l9;rw[aI (by decide),aG (by decide)]
  rw[e];simp only[rY,tw,Option.some.injEq,aB.mk.injEq];refine⟨?_,?_,?_,?_⟩ <;> omega
 ·have e:l9 ((2:Nat):Int) tx ty r= ⟨tx - r.X1,ty - r.Y1,tx - r.X0,ty - r.Y0⟩:=by unfold l9;rw[aI (by decide),aI (by decide),aG (by decide)]
  rw[e];simp only[rY,tw,Option.some.injEq,aB.mk.injEq];refine⟨?_,?_,?_,?_⟩ <;> omega
 ·have e:l9 ((3:Nat):Int) tx ty r= ⟨tx+r.Y0,ty - r.X1,tx+r.Y1,ty - r.X0⟩:=by unfold l9;rw[aI (by decide),aI (by decide),aI (by decide)]
  rw[e];simp only[rY,tw,Option.some.injEq,aB.mk.injEq];refine⟨?_,?_,?_,?_⟩ <;> omega
def mU(p:bX)(s:Slot):Int×Int×Int:=
 if s.aM=1 then(s.aM,s.At.X+(bS p s.dG).H,s.At.Y)else if s.aM=2 then(s.aM,s.At.X+(bS p s.dG).W,s.At.Y+(bS p s.dG).H)
 else if s.aM=3 then(s.aM,s.At.X,s.At.Y+(bS p s.dG).W)else(s.aM,s.At.X,s.At.Y)
theorem vJ{p:bX}{s:Slot}(hk:p.dP.length<=1048576)(ok:mc p.dP)(so:lV p s):
  gv N p s=some ⟨false,(mU p s).1,⟨(mU p s).2.1,(mU p s).2.2⟩⟩/\(mU p s).1=s.aM/\(0<=(mU p s).2.1/\(mU p s).2.1<=2000000)/\0<=(mU p s).2.2/\(mU p s).2.2<=2000000:=by
 obtain⟨k,k1,k2⟩:=o8 so.kind;have hd:=ok.Ad _<|dX k2
 have hx:=so.x;have hy:=so.y;unfold gv mU;rw[mb hk,aC,k1,jT k2,aC]
 by_cases h1:s.aM=1
 ·have e:(s.aM==1)=true:=by rw[h1];rfl
  rw[e,aW,aC,aG h1];dsimp only;rw[cA (by omega) (by omega)];exact⟨rfl,rfl,by omega,by omega⟩
 ·have e:(s.aM==1)=false:=by rw[beq_eq_false_iff_ne];exact h1
  rw[e,bN,aI h1]
  by_cases h2:s.aM=2
  ·have e:(s.aM==2)=true:=by rw[h2];rfl
   rw[e,aW,aC,aC,aG h2];dsimp only;rw[cA (by omega) (by omega),cA (by omega) (by omega)];exact⟨rfl,rfl,by omega,by omega⟩
  ·have e:(s.aM==2)=false:=by rw[beq_eq_false_iff_ne];exact h2
   rw[e,bN,aI h2]
   by_cases h3:s.aM=3
   ·have e:(s.aM==3)=true:=by rw[h3];rfl
    rw[e,aW,aC,aC,aC,aG h3];dsimp only;rw[cA (by omega) (by omega)];exact⟨rfl,rfl,by omega,by omega⟩
   ·have e:(s.aM==3)=false:=by rw[beq_eq_false_iff_ne];exact h3
    rw[e,bN,aC,aC,aC,aI h3];exact⟨rfl,rfl,by dsimp only;omega,by dsimp only;omega⟩
theorem rZ{p:bX}{s:Slot}(so:lV p s):oS (mU p s) ⟨0,0,(bS p s.dG).W,(bS p s.dG).H⟩=cU p s:=by
 have hq:=so.qu;have:s.aM=0\/s.aM=1\/s.aM=2\/s.aM=3:=by omega
 unfold oS mU cU l9
 rcases this with h|h|h|h
 ·rw[h];simp <;> omega
 ·rw[h];simp <;> omega
 ·rw[h];simp <;> omega
 ·rw[h];simp <;> omega
theorem oD{l:List aB}(h:j4 l=0)(hN:4398046511104<=N):
  Ok (gw N l) (λz=>z.2=0/\∃s u,jm l s/\Joined (aD s) u/\z.1.length=(cE (aD s).length u).length/\aD s=l):=by
 obtain⟨g1,g2,s0,g3,g4⟩:=jq.1 h;obtain⟨hl,hok⟩:=rP g1;unfold gw;refine k_ (j5 (by omega) hN) ?_;rw[h];refine w_ (iW (N:=N) (by omega) hok (by omega))<|λs hs=>?_
 have e:s=s0:=hs.unique g3;subst e;obtain⟨z1,z2,z3⟩:=hs.wX;have hX:∀c∈lR l,small c:=λc hc=>by
  obtain⟨x,hx,rfl|rfl⟩:=iI.1 hc
  ·exact(hok x hx).s1
  ·exact(hok x hx).s2
 have hY:∀c∈iH l,small c:=λc hc=>by
  obtain⟨x,hx,rfl|rfl⟩:=eR.1 hc
  ·exact(hok x hx).s3
  ·exact(hok x hx).s4
 have hrl:(aD s).length<=2000:=by rw[g4];exact hl
 refine w_ (ui (N:=N) hs.can hs.tE hX hY (by omega) (λb hb=>by have:=z2 b hb;omega) (by omega) hN)<|λps hps=>?_
 obtain⟨u,hu⟩:=hps;have hpl:ps.length<=2000:=by rw[hu.len];exact gK (jy _ _) (by rw[List.length_range];exact hrl)
 refine w_ (CF (λk t=>t.length=k) (by omega) rfl<|λk t hk ht=>?_)<|λt ht=>r_ ⟨rfl,s,u,hs,hu.join,by rw[ht,hu.len],g4⟩
 have hx:ps[k]? =some ps[k]:=aO hk;refine Cb hx ?_;obtain⟨j,h',j1,j2,j3,_⟩:=wY hu hs.can hs.tE hX hY<|dO hk
 obtain⟨w1,w2,w3⟩:=j3.wX;have hc:=p8 (aD s) (aD s).length u h';have hw:(aD ps[k]).length<=16000000:=by
  refine gK w3 ?_;have:2*(jF (aD s) (aD s).length u h').length<=4000:=by omega
  exact Nat.mul_le_mul this this
 refine k_ (nF (kL j3.can) (by omega) (λb hb=>by have:=w2 b hb;omega) (by omega)) ?_;exact CM (by rw[ht];simp;omega)<|r_ (by rw[dL,ht];rfl)
end
section
variable {N:Nat}
def el(p:bX)(b:fy)(l:List Slot):List (Int×Int×Int):=(l.filter<|λs=>s.dG.mV b).map<|mU p
def nM(k:bG):aB:=⟨0,0,k.W,k.H⟩
theorem ql(pl:List (Int×Int×Int))(r:List aB):(cC pl r).length=pl.length*r.length:=by
 unfold cC
 induction pl with
 |nil=>simp
 |cons t pl ih=>rw[List.flatMap_cons,dL,ih,fH,g9,Nat.succ_mul,Nat.add_comm]
theorem uu{q tx ty W H:Int}{b:aB}(h:0<=b.X0/\b.X1<=W/\0<=b.Y0/\b.Y1<=H):
  (l9 q tx ty ⟨0,0,W,H⟩).X0<=(l9 q tx ty b).X0/\(l9 q tx ty b).X1<=(l9 q tx ty ⟨0,0,W,H⟩).X1/\(l9 q tx ty ⟨0,0,W,H⟩).Y0<=(l9 q tx ty b).Y0/\(l9 q tx ty b).Y1<=(l9 q tx ty ⟨0,0,W,H⟩).Y1:=by
 unfold l9;split
 ·simp only;omega
 ·split
  ·simp only;omega
  ·split
   ·simp only;omega
   ·simp only;omega
theorem vK{q tx ty:Int}(hq:0<=q/\q<=3)(ha:(0<=tx/\tx<=2000000)/\0<=ty/\ty<=2000000){r:List aB}(hr:∀a∈r,dM a=true/\a.X0<a.X1/\a.Y0<a.Y1){out:List aB}(hl:out.length+r.length<=1099511627776)(hN:16<=N):
  ks r.length (λ(k318:Nat)(s319:List aB)=>((idx r (k318:Int)).bind λx347=>(eA N x347 ⟨false,q,⟨tx,ty⟩⟩).bind λx353=>(app 32 s319 ([x353]:List aB)).bind λx356=>some x356:Option (List aB))) out=some (out++r.map (l9 q tx ty)):=by
 rw[rD (s:=out) (λk=>out++(r.take k).map (l9 q tx ty)) (by omega) (by simp) (λk hk=>by
  have hx:r[k]? =some r[k]:=aO hk;have h1:=hr _<|dO hk
  have e:r.take (k+1)=r.take k++[r[k]]:=by rw[List.take_add_one,hx];rfl
  rw[jT hx,aC,tz hq h1.1 h1.2.1 h1.2.2 ha hN,aC,iF (by
   rw[dL,fH,cV];simp;omega),aC,e,fO,kb];rfl),fu]
theorem uv{p:bX}{b:fy}{r:List aB}(hk:p.dP.length<=1048576)(ok:nK p)(hr:∀a∈r,dM a=true/\a.X0<a.X1/\a.Y0<a.Y1)(hl:r.length<=2000)(hN:16<=N):
  ks p.aX.length (λ(k53:Nat)(s54:List aB)=>((idx p.aX (k53:Int)).bind λx260=>(bif x260.dG.mV b then((gv N p x260).bind λx315=>(ks r.length (λ(k318:Nat)(s319:List aB)=>((idx r (k318:Int)).bind λx347=>(eA N x347 x315).bind λx353=>(app 32 s319 ([x353]:List aB)).bind λx356=>some x356:Option (List aB))) s54).bind λs319=>some s319)else some s54).bind λs311=>some s311:Option (List aB))) ([]:List aB)
  = some (cC (el p b p.aX) r):=by
 have hfew:=ok.yq
 rw[rD (s:=([]:List aB)) (λk=>cC (el p b (p.aX.take k)) r) (by omega) rfl (λk hk'=>by
  have hx:p.aX[k]? =some p.aX[k]:=aO hk';have so:=ok.slot _<|dO hk'
  have e:p.aX.take (k+1)=p.aX.take k++[p.aX[k]]:=by rw[List.take_add_one,hx];rfl
  have hle:(cC (el p b<|p.aX.take k) r).length<=1000000:=by
   rw[ql];have h1:(el p b<|p.aX.take k).length<=500:=by
    unfold el;rw[fH];exact gK (jy _ _) (by rw[cV];omega)
   exact Nat.mul_le_mul h1 hl
  rw[jT hx,aC,e];generalize p.aX[k]=s at so ⊢
  cases hb:s.dG.mV b
  ·rw[bN,aC];unfold el;rw[List.filter_append];simp[hb]
  ·obtain⟨t1,t2,t3,t4⟩:=vJ (N:=N) hk ok.kinds so;rw[aW,t1,aC,vK (by rw[t2];exact so.qu) ⟨t3,t4⟩ hr (by omega) hN,aC,aC];unfold el cC;rw[List.filter_append];simp only[List.filter_cons,hb,if_true,List.filter_nil,fO,ee,List.map_nil,List.flatMap_append,List.flatMap_cons,List.flatMap_nil,gm]
   rfl),fu]
structure xf (p:bX) (b:fy) (r:List aB) (x:List aA):Prop where
 z5:nK p
 kind:0<=lU p b
 Bs:j4 r=0
 box:∀a∈r,0<=a.X0/\a.X1<=(bS p b).W/\0<=a.Y0/\a.Y1<=(bS p b).H
 set:jm (cC (el p b p.aX) r) x
 yq:(aD x).length<=2000
 z6:∀a∈cC (el p b p.aX) r,0<=a.X0/\a.X1<=1000000/\0<=a.Y0/\a.Y1<=1000000
theorem vL{p:bX}{b:fy}{r:List aB}(ok:nK p)(hbox:∀a∈r,0<=a.X0/\a.X1<=(bS p b).W/\0<=a.Y0/\a.Y1<=(bS p b).H):
  ∀a∈cC (el p b p.aX) r,0<=a.X0/\a.X1<=1000000/\0<=a.Y0/\a.Y1<=1000000:=λa ha=>by
 unfold cC el at ha;obtain⟨t,ht,ha⟩:=List.mem_flatMap.1 ha;obtain⟨c,hc,rfl⟩:=aZ.1 ha;obtain⟨s,hs,rfl⟩:=aZ.1 ht;obtain⟨hs1,hs2⟩:=iY.1 hs;have so:=ok.slot s hs1;have hb:=rF.1 hs2;have hcell:=rZ so;rw[hb]at hcell;have h1:=uu (q:=(mU p s).1) (tx:=(mU p s).2.1) (ty:=(mU p s).2.2)<|hbox c hc
 unfold oS at hcell ⊢;rw[hcell]at h1;have h2:=so.on;have h3:=so.x;have h4:=so.y;have h5:(cU p s).X0=s.At.X/\(cU p s).Y0=s.At.Y:=by unfold cU;split <;> exact⟨rfl,rfl⟩
 omega
theorem yc{a b:List aA}{X Y:List Int}(ca:bU (a.map aQ))(cb:bU (b.map aQ))(la:mP X Y (a.map aQ))(lb:mP X Y (b.map aQ))(hX:X.length<=1048576000)(hY:Y.length<=1048576000)(hs:∀c∈Y,small c)(hN:4398046511104<=N):
  Ok (iu N a b) (λv=>v=true->∀x y,lQ (a.map aQ) x y=true->lQ (b.map aQ) x y=true):=by
 unfold iu;refine w_ (vA (N:=N) ca cb la lb hX hY hs hN)<|λm hm=>r_ λhv x y hx=>?_
 have hv:((m.length:Nat):Int)=0:=by simpa using hv
 have hm0:m= []:=List.length_eq_zero_iff.1 (by omega);subst hm0;have:=hm.cover x y;rw[hx]at this
 cases hb:lQ (b.map aQ) x y
 ·rw[hb]at this;exact absurd this (by simp[lQ,rowAt,jl,t8])
 ·rfl
theorem tA{p:bX}{b:fy}{r:List aB}(hk:p.dP.length<=1048576)(hn:∀k∈p.dP,k.Name.hL.length<=1048576)(hs:p.aX.length<=1048576)(hm:p.Marks.length<=1048576)(hr:r.length<=1048576)(hN:4398046511104<=N):
  Ok (iw N p b r) (λz=>(z.2≠0/\z.1= [])\/(z.2=0/\∃x,xf p b r x/\z.1=aD x)):=by
 unfold iw;refine w_ (oV (N:=N) hk hn hs hm)<|λv hv=>?_
 refine A_ (λh=>r_<|.inl ⟨by simpa using h,rfl⟩)<|λh=>?_
 have ok:=hv (by simpa using h);refine k_ (mb hk) ?_;refine A_ (λh=>r_<|.inl ⟨by decide,rfl⟩)<|λh=>?_
 have h0:0<=lU p b:=by have:=of_decide_eq_false h;omega
 obtain⟨k,k1,k2⟩:=o8 h0;have hd:=ok.kinds.Ad _<|dX k2
 refine k_ (j5 (by omega) hN) ?_;refine A_ (λh=>r_<|.inl ⟨by simpa using h,rfl⟩)<|λh=>?_
 have hreg:j4 r=0:=by simpa using h
 obtain⟨g1,g2,s0,g3,g4⟩:=jq.1 hreg;obtain⟨hl,hok⟩:=rP g1;have hrr:=(gG.1 g1).2;refine w_ (iW (N:=N) (by omega) hok (by omega))<|λs hs'=>?_
 rw[k1];refine Cb k2<|Cb k2 ?_
 have hbk:xm (nM<|bS p b):=⟨by show(0:Int)<(bS p b).W;omega,by show(0:Int)<(bS p b).H;omega,by unfold small nM;simp,by unfold small nM;simp only;omega,by unfold small nM;simp,by unfold small nM;simp only;omega⟩;refine w_ (iW (N:=N) (l:=[nM<|bS p b]) (by simp) (λa ha=>by rw[iZ.1 ha];exact hbk) (by omega))<|λt ht=>?_
 have lenX:(lR r++lR [nM<|bS p b]).length<=1048576000:=by rw[dL,nD,nD];simp;omega
 have lenY:(iH r++iH [nM<|bS p b]).length<=1048576000:=by rw[dL,jZ,jZ];simp;omega
 have smY:∀c∈iH r++iH [nM<|bS p b],small c:=λc hc=>by
  rcases dA.1 hc with hc|hc
  ·obtain⟨x,hx,rfl|rfl⟩:=eR.1 hc
   ·exact(hok x hx).s3
   ·exact(hok x hx).s4
  ·obtain⟨x,hx,rfl|rfl⟩:=eR.1 hc
   ·rw[iZ.1 hx];exact hbk.s3
   ·rw[iZ.1 hx];exact hbk.s4
 refine w_ (yc (N:=N) hs'.can ht.can (hs'.tE.mono (λc hc=>List.mem_append_left _ hc)<|λc hc=>List.mem_append_left _ hc) (ht.tE.mono (λc hc=>List.mem_append_right _ hc)<|λc hc=>List.mem_append_right _ hc) lenX lenY smY hN)<|λv hin=>?_
 refine A_ (λh=>r_<|.inl ⟨by decide,rfl⟩)<|λh=>?_
 have hin:=hin (by simpa using h);have hbox:∀a∈r,0<=a.X0/\a.X1<=(bS p b).W/\0<=a.Y0/\a.Y1<=(bS p b).H:=λa ha=>by
  have ha1:=hrr a ha;have sq:∀x y,(a.X0<=x/\x<a.X1)/\a.Y0<=y/\y<a.Y1->(0<=x/\x<(bS p b).W)/\0<=y/\y<(bS p b).H:=λx y hxy=>by
   have h1:=hin x y (by rw[hs'.cover];exact gz.2 ⟨a,ha,hxy⟩);rw[ht.cover]at h1;obtain⟨c,hc,h2⟩:=gz.1 h1;rw[iZ.1 hc]at h2;exact h2
  have s1:=sq a.X0 a.Y0 ⟨⟨by omega,by omega⟩,by omega,by omega⟩;have s2:=sq (a.X1 - 1) (a.Y1 - 1) ⟨⟨by omega,by omega⟩,by omega,by omega⟩;omega
 refine k_ (uv hk ok hrr hl (by omega)) ?_;have hci:=vL (b:=b) ok hbox;have hcl:(cC (el p b p.aX) r).length<=1000000:=by
  rw[ql];have h1:(el p b p.aX).length<=500:=by
   unfold el;rw[fH];exact gK (jy _ _) ok.yq
  exact Nat.mul_le_mul h1 hl
 have hco:∀a∈cC (el p b p.aX) r,xm a:=λa ha=>by
  have h1:=hci a ha;unfold cC at ha;obtain⟨t,_,ha⟩:=List.mem_flatMap.1 ha;obtain⟨c,hc,rfl⟩:=aZ.1 ha;have h2:=ma t.1 t.2.1 t.2.2 (hrr c hc).2;unfold oS at h1 ⊢;exact⟨h2.1,h2.2,by unfold small;omega,by unfold small;omega,by unfold small;omega,by unfold small;omega⟩
 refine w_ (iW (N:=N) (by omega) hco (by omega))<|λx hx=>?_
 have hR:∀c:Int,0<=c->c<=1000000->c∈(List.range 1000001).map (λi=>((i:Nat):Int)):=λc h1 h2=>aZ.2 ⟨c.toNat,by rw[List.mem_range];omega,by omega⟩
 have hlim:mP ((List.range 1000001).map (λi=>((i:Nat):Int))) ((List.range 1000001).map (λi=>((i:Nat):Int))) (x.map aQ):=hx.tE.mono (λc hc=>by
   obtain⟨a,ha,e⟩:=iI.1 hc;have h1:=hci a ha;have h2:=hco a ha;have:=h2.x
   rcases e with rfl|rfl
   ·exact hR _ (by omega) (by omega)
   ·exact hR _ (by omega) (by omega)) (λc hc=>by
   obtain⟨a,ha,e⟩:=eR.1 hc;have h1:=hci a ha;have h2:=hco a ha;have:=h2.y
   rcases e with rfl|rfl
   ·exact hR _ (by omega) (by omega)
   ·exact hR _ (by omega) (by omega))
 have hlen:((List.range 1000001).map<|λi=>((i:Nat):Int)).length<=1000001:=by rw[fH,List.length_range];exact bB _
 obtain⟨w1,w2,w3⟩:=vD hx.can hlim hlen hlen;have w3:(aD x).length<=1099511627776:=gK w3 (by decide);have hM:=x0 (N:=N) (s:=x) (by omega) (λc hc=>by have:=w2 c hc;omega) w3;unfold iv;rw[hM,aC]
 by_cases hf:2000<(aD x).length
 ·rw[cS (by omega),aW,aC];exact r_<|.inl ⟨by decide,rfl⟩
 ·rw[cP (by omega),bN,nF (kL hx.can) (by omega) (λc hc=>by have:=w2 c hc;omega) w3,aC,aC];exact r_<|.inr ⟨rfl,x,⟨ok,h0,hreg,hbox,hx,by omega,hci⟩,rfl⟩
end
section
variable {N:Nat}
theorem qm(hN:4398046511104<=N):cX N=some true:=by
 have hc:bU ([(⟨0,3,[0,2]⟩:aA)].map aQ):=⟨λb hb=>by
  rw[ee,List.map_nil,iZ]at hb;subst hb
  exact⟨by decide,by decide,by unfold g8 aQ;simp,by decide⟩,List.pairwise_singleton _ _⟩
 have e:aD [(⟨0,3,[0,2]⟩:aA)]= [(⟨0,0,2,3⟩:aB)]:=rfl;have hr:∀r∈[(⟨0,0,2,3⟩:aB)],dM r=true:=λr hr=>by rw[iZ.1 hr];decide
 have h0:j4 [(⟨0,0,2,3⟩:aB)]=0:=by
  rw[<-e];exact oB hc (by rw[e];simp) (by rw[e];exact hr)
 unfold cX;rw[rX h0 hN,aC,qi (λr hr'=>⟨hr r hr',by rw[iZ.1 hr'];decide⟩) (by simp)];rfl
theorem tB{l:List Slot}{b:fy}(hl:l.length<=1048576):
  ks l.length (λ(k58:Nat)(s59:Int)=>((idx l (k58:Int)).bind λx70=>(bif x70.dG.mV b then some (wrap .i64<|s59+1)else some s59).bind λs74=>some s74:Option Int)) 0=some (((l.filter<|λs=>s.dG.mV b).length:Nat):Int):=by
 rw[rD (s:=(0:Int)) (λk=>((((l.take k).filter (λs=>s.dG.mV b)).length:Nat):Int)) (by omega) rfl (λk hk=>by
  have hx:l[k]? =some l[k]:=aO hk;have e:l.take (k+1)=l.take k++[l[k]]:=by rw[List.take_add_one,hx];rfl
  have hle:=jy (λs:Slot=>s.dG.mV b)<|l.take k
  rw[cV]at hle;rw[jT hx,aC,e,List.filter_append,dL]
  cases hb:l[k].dG.mV b
  ·rw[bN,aC];simp[hb]
  ·rw[aW,aC,eC (by omega)];simp[hb]),fu]
theorem lW{p:bX}{b:fy}{r:List aB}(hbp:bk p<=1048576)(hbb:bk b<=1048576)(hbr:bk r<=1048576)(hN:4398046511104<=N):cQ N p b r=some true:=by
 have h1:=s8 p;have k1:=pG p.dP;have k2:=pG p.aX;have k3:=pG p.Marks;have k4:=pG r;have kn:∀k∈p.dP,k.Name.hL.length<=1048576:=λk hk=>by
  have h2:=wD hk;have h3:=ng k;have h4:=yZ k.Name;omega
 refine C1 ?_;unfold cQ;refine w_ (tA (N:=N) (b:=b) (by omega) kn (by omega) (by omega) (by omega) hN)<|λz hz=>?_
 obtain⟨z1,z2⟩:=z
 rcases hz with⟨e1,e2⟩|⟨e1,x,hx,e2⟩
 ·simp only at e1 e2;subst e2;have e:(z2 != 0)=true:=by rw[bne_iff_ne];exact e1
  have e':(z2==0)=false:=by rw[beq_eq_false_iff_ne];exact e1
  simp only[e,e',Bool.true_or,aW,bN];exact DI (by rw[show(((([]:List aB).length:Nat):Int)==0)=true from rfl,aW,qm hN];rfl) rfl
 ·simp only at e1 e2;subst e1;subst e2
  by_cases hg:p.lD=0
  ·rw[hg];simp only[bne_self_eq_false,beq_self_eq_true,Bool.false_or,Bool.or_true,aW];exact DI (by rw[qm hN];rfl) rfl
  have eg:(p.lD==0)=false:=by rw[beq_eq_false_iff_ne];exact hg
  simp only[bne_self_eq_false,eg,Bool.or_self,bN];refine k_ (tB (by omega)) ?_;have hpl:(p.aX.filter<|λs=>s.dG.mV b).length=(el p b p.aX).length:=by unfold el;rw[fH]
  rw[hpl];have hple:(el p b p.aX).length<=500:=by
   rw[<-hpl];exact gK (jy _ _) hx.z5.yq
  have hfar:(el p b p.aX).Pairwise (λs t=>oT (oS s ⟨0,0,(bS p b).W,(bS p b).H⟩)<|oS t ⟨0,0,(bS p b).W,(bS p b).H⟩):=by
   unfold el;rw[List.pairwise_map];refine List.Pairwise.imp_of_mem (λ{s t}hs ht h=>?_)<|hx.z5.apart.filter _
   obtain⟨s1,s2⟩:=iY.1 hs;obtain⟨t1,t2⟩:=iY.1 ht;have cs:=rZ<|hx.z5.slot s s1
   have ct:=rZ<|hx.z5.slot t t1
   rw[rF.1 s2]at cs;rw[rF.1 t2]at ct;rw[cs,ct];have:=hx.z5.BS;unfold oq at h;unfold oT;omega
  obtain⟨g1,g2,s0,g3,g4⟩:=jq.1 hx.Bs;have hrr:=(gG.1 g1).2;have hl:=(gG.1 g1).1;have hxr:∀a∈aD x,dM a=true:=λa ha=>by
   have hco:∀c∈lR (cC (el p b p.aX) r),small c:=λc hc=>by
    obtain⟨d,hd,e⟩:=iI.1 hc;have h1:=hx.z6 d hd;have h2:=fG hx.set.can;unfold cC at hd;obtain⟨t,_,hd'⟩:=List.mem_flatMap.1 hd;obtain⟨c',hc',rfl⟩:=aZ.1 hd';have h2:=ma t.1 t.2.1 t.2.2 (hrr c' hc').2;unfold oS at h1 e
    rcases e with rfl|rfl
    ·unfold small;omega
    ·unfold small;omega
   have hcy:∀c∈iH (cC (el p b p.aX) r),small c:=λc hc=>by
    obtain⟨d,hd,e⟩:=eR.1 hc;have h1:=hx.z6 d hd;unfold cC at hd;obtain⟨t,_,hd'⟩:=List.mem_flatMap.1 hd;obtain⟨c',hc',rfl⟩:=aZ.1 hd';have h2:=ma t.1 t.2.1 t.2.2 (hrr c' hc').2;unfold oS at h1 e
    rcases e with rfl|rfl
    ·unfold small;omega
    ·unfold small;omega
   have hp:=nG hx.set.can hx.set.tE hco hcy a ha;have inX:∀c,c∈lR (cC (el p b p.aX) r)-> -1000000<=c/\c<=1000000:=λc hc=>by
    obtain⟨d,hd,e⟩:=iI.1 hc;have h1:=hx.z6 d hd;unfold cC at hd;obtain⟨t,_,hd'⟩:=List.mem_flatMap.1 hd;obtain⟨c',hc',rfl⟩:=aZ.1 hd';have h2:=ma t.1 t.2.1 t.2.2 (hrr c' hc').2;unfold oS at h1 e
    rcases e with rfl|rfl <;> omega
   have inY:∀c,c∈iH (cC (el p b p.aX) r)-> -1000000<=c/\c<=1000000:=λc hc=>by
    obtain⟨d,hd,e⟩:=eR.1 hc;have h1:=hx.z6 d hd;unfold cC at hd;obtain⟨t,_,hd'⟩:=List.mem_flatMap.1 hd;obtain⟨c',hc',rfl⟩:=aZ.1 hd';have h2:=ma t.1 t.2.1 t.2.2 (hrr c' hc').2;unfold oS at h1 e
    rcases e with rfl|rfl <;> omega
   exact qc ⟨inX _ hp.2.1.1,inY _ hp.2.2.1,inX _ hp.2.1.2,inY _ hp.2.2.2⟩
  have hreg:j4 (aD x)=0:=oB hx.set.can hx.yq hxr;refine k_ (rX hx.Bs hN)<|k_ (rX hreg hN) ?_
  have hpx:=fG hx.set.can;have hra:r.Pairwise mx:=by
   rw[<-g4];exact(iK g3.can).imp λh=>h.apart
  have harea:=tv (M:=1000000) (pl:=el p b p.aX) (r:=r) (x:=x) (W:=(bS p b).W) (H:=(bS p b).H) hx.set hra (λa ha=>(hrr a ha).2) hx.box hfar (λa ha=>by have:=hx.z6 a ha;omega) (λa ha=>by have:=jo<|hxr a ha;omega);rw[qi hrr hl,qi (λa ha=>⟨hxr a ha,hpx a ha⟩) hx.yq];have hsum:oW (aD x)=(el p b p.aX).length*oW r:=harea;have hle:=uT hxr;have hle2:oW (aD x)<=8000000000000000:=gK hle (by have:=hx.yq;omega);have ew:wrap .i64 (((oW r:Nat):Int)*(((el p b p.aX).length:Nat):Int))=((oW (aD x):Nat):Int):=by
   rw[hsum,Nat.mul_comm,Int.natCast_mul];have:((oW r:Nat):Int)*(((el p b p.aX).length:Nat):Int)=((oW (aD x):Nat):Int):=by rw[hsum,Nat.mul_comm,Int.natCast_mul]
   rw[cA (by omega) (by omega)]
  rw[ew];simp only[bne_self_eq_false,Bool.or_self,bN];refine w_ (oD (N:=N) hx.Bs hN)<|λy hy=>?_
  obtain⟨y0,s,u,hs,hu,hyl,hsr⟩:=hy;refine w_ (oD (N:=N) hreg hN)<|λw hw=>?_
  obtain⟨w0,x',v,hx',hv,hwl,hxr'⟩:=hw;have exx:x'=x:=tl hx'.can hx.set.can λX Y=>by rw[hx'.cover,kJ hx.set.can]
  subst exx
  have hcnt:=qB (W:=(bS p b).W) (H:=(bS p b).H) hs hx.set hu hv (λq hq=>by
   obtain⟨a,ha,h⟩:=gz.1 hq;have:=hx.box a ha
   omega) hfar
  rw[y0,w0];simp only[beq_self_eq_true,Bool.and_self,aW];have hyle:y.1.length<=2000:=by
   rw[hyl];refine gK (jy _ _) ?_;rw[List.length_range,hsr];exact hl
  have hmul:y.1.length*(el p b p.aX).length=w.1.length:=by rw[hwl,hcnt,hyl,Nat.mul_comm]
  have hb2:y.1.length*(el p b p.aX).length<=1000000:=Nat.mul_le_mul hyle hple;have e3:((y.1.length:Nat):Int)*(((el p b p.aX).length:Nat):Int)=((w.1.length:Nat):Int):=by rw[<-hmul,Int.natCast_mul]
  have e4:(wrap .i64 (((y.1.length:Nat):Int)*(((el p b p.aX).length:Nat):Int))==((w.1.length:Nat):Int))=true:=by
   rw[e3,cA (by omega) (by omega)];exact beq_self_eq_true _
  rw[e4,aW,qm hN];exact r_ rfl
end
end Go.Gk
