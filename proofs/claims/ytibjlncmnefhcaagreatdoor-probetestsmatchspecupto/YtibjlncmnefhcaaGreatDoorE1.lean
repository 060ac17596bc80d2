/-
  Helping texts: plain functions and plain laws. No statement of the seed is proved here.
-/
import Derived.Test.YtibjlncmnefhcaaGreatDoorA1
import Derived.ChangeShapes
import Derived.ChangeSame
import Derived.Carry
import Derived.RowKit
import Derived.Test.YtibjlncmnefhcaaGreatDoorA2
set_option linter.defProp false
set_option linter.unusedVariables false
set_option linter.unusedSimpArgs false
set_option linter.unusedSectionVars false
open Bool renaming true→aA,false→aK
open List renaming length→Z
open Option renaming bind→D,some→O,none→aQ
namespace Go.Gk
open Go IntKind
noncomputable section
structure dX where
 Name:cU
 Kind:Int
 bL:Int
 deriving DecidableEq,Inhabited
structure bD where
 Name:cU
 aZ:aG dX
 deriving DecidableEq,Inhabited
structure Part where
 Name:cU
 sJ:cU
 deriving DecidableEq,Inhabited
structure bX where
 Part:cU
 bX:cU
 deriving DecidableEq,Inhabited
structure p4 where
 Name:cU
 aZ:aG bX
 y5:aG cU
 deriving DecidableEq,Inhabited
structure bV where
 gH:aG Part
 cD:aG p4
 deriving DecidableEq,Inhabited
structure z where
 X0:Int
 Y0:Int
 X1:Int
 Y1:Int
 deriving DecidableEq,Inhabited
structure dP where
 X:Int
 Y:Int
 deriving DecidableEq,Inhabited
structure cM where
 At:dP
 gK:Int
 dC:Int
 To:Int
 iE:Bool
 deriving DecidableEq,Inhabited
structure dD where
 Part:cU
 bX:cU
 cR:Int
 At:dP
 deriving DecidableEq,Inhabited
structure ir where
 aS:aG (aG z)
 cZ:aG z
 aX:aG cM
 cA:aG dD
 deriving DecidableEq,Inhabited
structure aB where
 Y0:Int
 Y1:Int
 Xs:aG Int
 deriving DecidableEq,Inhabited
structure aH where
 cR:Int
 Set:aG aB
 eG:aG z
 deriving DecidableEq,Inhabited
structure bL where
 fK:aG Int
 aX:aG Int
 aZ:aG bX
 deriving DecidableEq,Inhabited
structure gL where
 cM:Bool
 Number:Int
 deriving DecidableEq,Inhabited
structure aC where
 Nq:Int
 i:Int
 k:Int
 deriving DecidableEq,Inhabited
structure k where
 A:bX
 B:bX
 Joined:Bool
 deriving DecidableEq,Inhabited
structure aI where
 from_:Int
 to:Int
 deriving DecidableEq,Inhabited
structure aU where
 from_:Int
 to:Int
 mm:aG aI
 deriving DecidableEq,Inhabited
structure bA where
 length:Int
 a:Int
 b:Int
 deriving DecidableEq,Inhabited
structure bU where
 e0:Int
 e1:Int
 deriving DecidableEq,Inhabited
def bU.st(x:bU)(k:Fin 2)(y:Int):bU:=if k.val=0 then{x with e0:=y}else{x with e1:=y}
structure y6 where
 A:Int
 B:Int
 iY:Int
 dC:dP
 To:dP
 deriving DecidableEq,Inhabited
structure rm where
 Open:Bool
 gL:gL
 A:Int
 B:Int
 deriving DecidableEq,Inhabited
def k9(N:Nat)(p0:cU)(p1:Int):aP Int:=
 O (Lib.indexByte p0.eI (Int.toNat p1).toUInt8)
def iM(N:Nat)(p0:cU)(p1:Int):aP Int:=
 D (k9 N p0 p1) λj=>O j
def jO(N:Nat)(p0:cU):aP Bool:=
 D (sV (Z p0.eI) (λ(o:Nat)(a:Unit)=>(D (Ni p0 (o:Int)) λj=>D (bif((decide ((j.toNat:Int)<65)||decide ((j.toNat:Int)>90))&&(decide ((j.toNat:Int)<97)||decide ((j.toNat:Int)>122)))&&(decide ((j.toNat:Int)<48)||decide ((j.toNat:Int)>57))then(D (iM N (⟨[95,43,45,35]⟩) (j.toNat:Int)) λb=>O<|decide<|b<0)else O aK) λad=>bif ad then O (.rt aK)else(O<|.nx ()):aP (Fl Unit Bool))) ()) λc=>c.cs (λ(a:Unit)=>O<|decide ((Z p0.eI:Int)>=1)&&decide ((Z p0.eI:Int)<=40))<|λr=>O r
def iZ(N:Nat)(p0 p1:dX):aP Bool:=
 D (bif p1.bL>0 then(bif p0.bL==p1.bL then O (p0.Kind != p1.Kind)else O aK)else O aK) λj=>O j
def oz(N:Nat)(p0:aG dX)(p1:dX->aP Bool):aP Int:=
 D (sV (Z p0) (λ(j:Nat)(o:Unit)=>(D (A p0 (j:Int)) λa=>D (p1 a) λb=>bif b then O (.rt (j:Int))else(O<|.nx ()):aP (Fl Unit Int))) ()) λad=>ad.cs (λ(o:Unit)=>O<|-1)<|λr=>O r
def kz(N:Nat)(p0:aG dX)(p1:dX->aP Bool):aP Bool:=
 D (oz N p0 p1) λj=>O<|decide<|j>=0
def nU(N:Nat)(p0:aG dX):aP Int:=
 bif(Z p0:Int)==0 then O 9 else(bif decide ((Z p0:Int)>200)then O 2 else(D (sV (Z p0) (λ(o:Nat)(ad:Unit)=>(D (A p0 (o:Int)) λj=>D (jO N j.Name) λc=>bif(!c)then O (.rt 5)else(bif decide (j.Kind<1)||decide (j.Kind>7)then O (.rt 4)else(bif decide (j.bL<0)||decide (j.bL>200)then O (.rt 1)else(D (bif decide ((o:Int)>0)then(D (A p0<|wrap .i64<|(o:Int) - 1) λa=>O<|j.Name.v7 a.Name||j.Name.sU a.Name)else O aK) λd=>bif d then O (.rt 8)else O (.nx ())))):aP (Fl Unit Int))) ()) λag=>ag.cs (λ(ad:Unit)=>D (sV (Z p0) (λ(b:Nat)(e:Unit)=>(D (A p0 (b:Int)) λf=>D (wX p0 0 (b:Int)) λg=>D (kz N g<|λk=>iZ N k f) λh=>bif h then O (.rt 12)else(O<|.nx ()):aP (Fl Unit Int))) ()) λi=>i.cs (λ(e:Unit)=>O 0)<|λr=>O r)<|λr=>O r))
def mP(N:Nat)(p0:aG bD):aP Int:=
 bif decide ((Z p0:Int)>200)then O 2 else(D (sV (Z p0) (λ(o:Nat)(ad:Unit)=>(D (A p0 (o:Int)) λj=>D (jO N j.Name) λc=>bif(!c)then O (.rt 5)else(D (nU N j.aZ) λa=>bif a != 0 then O (.rt a)else(D (bif decide ((o:Int)>0)then(D (A p0<|wrap .i64<|(o:Int) - 1) λb=>O<|j.Name.v7 b.Name||j.Name.sU b.Name)else O aK) λd=>bif d then O (.rt 8)else O (.nx ()))):aP (Fl Unit Int))) ()) λag=>ag.cs (λ(ad:Unit)=>O 0)<|λr=>O r)
def gl(N:Nat)(p0:aG bD)(p1:cU)(p2:bD->cU->aP Int):aP (Int×Bool):=
 D (gh (λ(j:Int×Int)=>(bif j.1<j.2 then(D (A p0<|wrap .i64<|Int.fdiv (wrap .u64<|wrap .i64<|j.1+j.2) 2) λa=>D (p2 a p1) λb=>D (bif b<0 then O (wrap .i64<|wrap .i64 (Int.fdiv (wrap .u64<|wrap .i64<|j.1+j.2) 2)+1,j.2)else O (j.1,wrap .i64<|Int.fdiv (wrap .u64<|wrap .i64<|j.1+j.2) 2)) λo=>O<|.nx (o.1,o.2))else(O<|.br (j.1,j.2)):aP (Fl (Int×Int) Empty))) N (0,(Z p0:Int))) λad=>ad.cs (λ(j:Int×Int)=>D (bif decide (j.1<(Z p0:Int))then(D (A p0 j.1) λc=>D (p2 c p1) λd=>O<|d==0)else O aK) λag=>O (j.1,ag))<|λr=>r.elim
def qN(N:Nat)(p0 p1:cU):aP Int:=
 O (Lib.compareBytes p0.eI p1.eI)
def mf(N:Nat)(p0 p1:cU):aP Int:=
 D (qN N p0 p1) λj=>O j
def nV(N:Nat)(p0:bD)(p1:cU):aP Int:=
 D (mf N p0.Name p1) λj=>O j
def oQ(N:Nat)(p0:aG bD)(p1:cU):aP Int:=
 D (gl N p0 p1<|nV N) λj=>bif(!j.2)then O (-1)else O j.1
def mQ(N:Nat)(p0:aG bD)(p1:aG Part)(p2:cU->aP Bool):aP Int:=
 bif decide ((Z p1:Int)>1000)then O 2 else(D (sV (Z p1) (λ(o:Nat)(b:Unit)=>(D (A p1 (o:Int)) λj=>D (p2 j.Name) λad=>bif(!ad)then O (.rt 5)else(D (oQ N p0 j.sJ) λc=>bif c<0 then O (.rt 9)else(D (bif decide ((o:Int)>0)then(D (A p1<|wrap .i64<|(o:Int) - 1) λa=>O<|j.Name.v7 a.Name||j.Name.sU a.Name)else O aK) λd=>bif d then O (.rt 8)else O (.nx ()))):aP (Fl Unit Int))) ()) λag=>ag.cs (λ(b:Unit)=>O 0)<|λr=>O r)
def nW(N:Nat)(p0 p1:cU):aP Int:=
 bif((Z p1.eI:Int)==0)||p1.sU p0 then O 0 else(bif(Z p1.eI:Int)==1 then(D (Ni p1 0) λj=>D (k9 N p0 (j.toNat:Int)) λo=>O o)else(bif decide ((Z p1.eI:Int)>=(Z p0.eI:Int))then O (-1)else aQ))
def qC(N:Nat)(p0 p1:cU):aP Int:=
 D (nW N p0 p1) λj=>O j
def sW(N:Nat)(p0 p1:cU):aP Int:=
 bif(Z p1.eI:Int)==0 then aQ else(bif(Z p1.eI:Int)==1 then(D (Ni p1 0) λa=>O ((Lib.countByte p0.eI (Int.toNat (a.toNat:Int)).toUInt8:Nat):Int))else(D (gh (λ(j:cU×Int)=>(D (qC N j.1 p1) λo=>bif o==(-1)then O (.rt j.2)else(D (FC j.1 (wrap .i64<|o+(Z p1.eI:Int)) (Z j.1.eI:Int)) λb=>O<|.nx (b,wrap .i64<|j.2+1)):aP (Fl (cU×Int) Int))) N (p0,0)) λad=>ad.cs (λ(j:cU×Int)=>O 0)<|λr=>O r))
def r9(N:Nat)(p0 p1:cU)(p2 p3:Int):aP (aG cU):=
 bif p3==0 then O ([]:aG cU)else(bif p1.sU (⟨[]⟩)then aQ else(D (bif p3<0 then(D (sW N p0 p1) λb=>O<|wrap .i64<|b+1)else O p3) λo=>D (mk 16 (⟨[]⟩:cU) (if wrap .i64 ((Z p0.eI:Int)+1)<o then wrap .i64 ((Z p0.eI:Int)+1)else o)) λad=>D (gh (λ(j:cU×aG cU×Int)=>(bif decide (j.2.2< wrap .i64 ((if wrap .i64 ((Z p0.eI:Int)+1)<o then wrap .i64 ((Z p0.eI:Int)+1)else o) - 1))then(D (qC N j.1 p1) λa=>bif a<0 then O (.br (j.1,j.2.1,j.2.2))else(D (FC j.1 0<|wrap .i64<|a+p2) λc=>D (A j.2.1 j.2.2) λf=>D (FC j.1 (wrap .i64<|a+(Z p1.eI:Int)) (Z j.1.eI:Int)) λd=>O<|.nx (d,j.2.1.set (Int.toNat j.2.2) c,wrap .i64<|j.2.2+1)))else(O<|.br (j.1,j.2.1,j.2.2)):aP (Fl (cU×aG cU×Int) Empty))) N (p0,ad,0)) λag=>ag.cs (λ(j:cU×aG cU×Int)=>D (A j.2.1 j.2.2) λg=>D (wX (j.2.1.set (Int.toNat j.2.2) j.1) 0<|wrap .i64<|j.2.2+1) λe=>O e)<|λr=>r.elim))
def oA(N:Nat)(p0 p1:cU):aP (aG cU):=
 D (r9 N p0 p1 0<|-1) λj=>O j
def oR(N:Nat)(p0:aG cU)(p1:cU->aP Bool):aP Int:=
 D (sV (Z p0) (λ(j:Nat)(o:Unit)=>(D (A p0 (j:Int)) λa=>D (p1 a) λb=>bif b then O (.rt (j:Int))else(O<|.nx ()):aP (Fl Unit Int))) ()) λad=>ad.cs (λ(o:Unit)=>O<|-1)<|λr=>O r
def kF(N:Nat)(p0:aG cU)(p1:cU->aP Bool):aP Bool:=
 D (oR N p0 p1) λj=>O<|decide<|j>=0
def kG(N:Nat)(p0:cU):aP Bool:=
 D (jO N p0) λj=>O<|!j
def lG(N:Nat)(p0:cU):aP Bool:=
 D (bif decide ((Z p0.eI:Int)<=200)then(D (oA N p0<|⟨[47]⟩) λj=>D (kF N j<|kG N) λo=>O<|!o)else O aK) λa=>O a
def gR(N:Nat)(p0:aG Part)(p1:cU)(p2:Part->cU->aP Int):aP (Int×Bool):=
 D (gh (λ(j:Int×Int)=>(bif j.1<j.2 then(D (A p0<|wrap .i64<|Int.fdiv (wrap .u64<|wrap .i64<|j.1+j.2) 2) λa=>D (p2 a p1) λb=>D (bif b<0 then O (wrap .i64<|wrap .i64 (Int.fdiv (wrap .u64<|wrap .i64<|j.1+j.2) 2)+1,j.2)else O (j.1,wrap .i64<|Int.fdiv (wrap .u64<|wrap .i64<|j.1+j.2) 2)) λo=>O<|.nx (o.1,o.2))else(O<|.br (j.1,j.2)):aP (Fl (Int×Int) Empty))) N (0,(Z p0:Int))) λad=>ad.cs (λ(j:Int×Int)=>D (bif decide (j.1<(Z p0:Int))then(D (A p0 j.1) λc=>D (p2 c p1) λd=>O<|d==0)else O aK) λag=>O (j.1,ag))<|λr=>r.elim
def nX(N:Nat)(p0:Part)(p1:cU):aP Int:=
 D (mf N p0.Name p1) λj=>O j
def rB(N:Nat)(p0:aG Part)(p1:cU):aP Int:=
 D (gR N p0 p1<|nX N) λj=>bif(!j.2)then O (-1)else O j.1
def gq(N:Nat)(p0:aG dX)(p1:cU)(p2:dX->cU->aP Int):aP (Int×Bool):=
 D (gh (λ(j:Int×Int)=>(bif j.1<j.2 then(D (A p0<|wrap .i64<|Int.fdiv (wrap .u64<|wrap .i64<|j.1+j.2) 2) λa=>D (p2 a p1) λb=>D (bif b<0 then O (wrap .i64<|wrap .i64 (Int.fdiv (wrap .u64<|wrap .i64<|j.1+j.2) 2)+1,j.2)else O (j.1,wrap .i64<|Int.fdiv (wrap .u64<|wrap .i64<|j.1+j.2) 2)) λo=>O<|.nx (o.1,o.2))else(O<|.br (j.1,j.2)):aP (Fl (Int×Int) Empty))) N (0,(Z p0:Int))) λad=>ad.cs (λ(j:Int×Int)=>D (bif decide (j.1<(Z p0:Int))then(D (A p0 j.1) λc=>D (p2 c p1) λd=>O<|d==0)else O aK) λag=>O (j.1,ag))<|λr=>r.elim
def oS(N:Nat)(p0:dX)(p1:cU):aP Int:=
 D (mf N p0.Name p1) λj=>O j
def sX(N:Nat)(p0:bD)(p1:cU):aP Int:=
 D (gq N p0.aZ p1<|oS N) λj=>bif(!j.2)then O (-1)else O j.1
def uJ(N:Nat)(p0:aG bD)(p1:aG Part)(p2:bX):aP Bool:=
 D (rB N p1 p2.Part) λj=>D (bif j>=0 then(D (A p1 j) λo=>D (oQ N p0 o.sJ) λa=>D (A p0 a) λb=>D (sX N b p2.bX) λad=>O<|decide<|ad>=0)else O aK) λc=>O c
def nY(N:Nat)(p0:bX)(p1:aG bD)(p2:bV):aP Bool:=
 D (uJ N p1 p2.gH p0) λj=>O j
def dY(N:Nat)(p0 p1:bX):aP Int:=
 D (mf N p0.Part p1.Part) λj=>bif j != 0 then O j else(D (mf N p0.bX p1.bX) λo=>O o)
def lH(N:Nat)(p0:aG bX)(p1:bX->aP Bool)(p2:aG (bX×Bool)):aP (Int×aG (bX×Bool)):=
 bif decide ((Z p0:Int)>500)then O (2,p2)else(D (sV (Z p0) (λ(j:Nat)(b:Unit)=>(D (A p0 (j:Int)) λo=>D (p1 o) λad=>bif(!ad)then O (.rt (9,p2))else(D (bif decide ((j:Int)>0)then(D (A p0<|wrap .i64<|(j:Int) - 1) λc=>D (dY N o c) λd=>O<|decide<|d<=0)else O aK) λag=>bif ag then O (.rt (8,p2))else(bif eU p2 o (aK:Bool)then O (.rt (7,p2))else O (.nx ()))):aP (Fl Unit<|Int×aG (bX×Bool)))) ()) λe=>e.cs (λ(b:Unit)=>D (lT (Z p0) (λ(f:Nat)(a:aG (bX×Bool))=>(D (A p0 (f:Int)) λg=>O (oO a g aA):aP (aG<|bX×Bool))) p2) λa=>O (0,a))<|λr=>O r)
def lV(N:Nat)(p0:aG bD)(p1:bV):aP Int:=
 D (mP N p0) λb=>bif b != 0 then O b else(D (mQ N p0 p1.gH<|lG N) λad=>bif ad != 0 then O ad else(bif decide ((Z p1.cD:Int)>1000)then O 2 else(D (sV (Z p1.cD) (λ(o:Nat)(c:aG (bX×Bool))=>(D (A p1.cD (o:Int)) λj=>D (lG N j.Name) λag=>bif(!ag)then O (.rt 5)else(bif(Z j.aZ:Int)==0 then O (.rt 9)else(D (lH N j.aZ (λg=>nY N g p0 p1) c) λa=>bif a.1 != 0 then O (.rt a.1)else(bif decide ((Z j.y5:Int)>0)then O (.rt 3)else(D (bif decide ((o:Int)>0)then(D (A p1.cD<|wrap .i64<|(o:Int) - 1) λd=>O<|j.Name.v7 d.Name||j.Name.sU d.Name)else O aK) λe=>bif e then O (.rt 8)else O (.nx a.2))))):aP (Fl (aG<|bX×Bool) Int))) ([]:aG (bX×Bool))) λf=>f.cs (λ(c:aG (bX×Bool))=>O 0)<|λr=>O r)))
def A8(N:Nat)(p0 p1 p2:Int):aP Bool:=
 O (decide (p0>=p1)&&decide (p0<=p2))
def pH(N:Nat)(p0:Int):aP Bool:=
 D (A8 N p0 (-1000000) 1000000) λj=>O j
def sd(N:Nat)(p0:z):aP Bool:=
 D (D (pH N p0.X0) λj=>bif j then(D (pH N p0.Y0) λo=>bif o then(D (pH N p0.X1) λa=>bif a then(D (pH N p0.Y1) λb=>O b)else O aK)else O aK)else O aK) λad=>O ad
def oT(N:Nat)(p0:aG z):aP Int:=
 bif decide ((Z p0:Int)>2000)then O 2 else(D (sV (Z p0) (λ(o:Nat)(a:Unit)=>(D (A p0 (o:Int)) λj=>D (sd N j) λb=>bif(!b)then O (.rt 1)else(bif decide (j.X1<=j.X0)||decide (j.Y1<=j.Y0)then O (.rt 13)else O (.nx ())):aP (Fl Unit Int))) ()) λad=>ad.cs (λ(a:Unit)=>O 0)<|λr=>O r)
def lW(N:Nat)(p0:aG z):aP (aG z):=
 D (gx 32 ([]:aG z) p0) λj=>O j
def mR(N:Nat)(p0 p1:z):aP Int:=
 O (wrap .i64<|p0.Y0 - p1.Y0)
def j5(N:Nat)(p0:aG Int):aP (aG Int):=
 bif decide ((Z p0:Int)<2)then O p0 else(D (gh (λ(o:Int)=>(bif decide (o<(Z p0:Int))then(D (A p0 o) λb=>D (A p0<|wrap .i64<|o - 1) λad=>bif b==ad then(D (wX p0 o (Z p0:Int)) λh=>D (gh (λ(j:aG Int×Int×Int)=>(bif decide (j.2.2<(((Z j.1 - Int.toNat o):Nat):Int))then(D (QY j.1 o j.2.2) λc=>D (QY j.1 o<|wrap .i64<|j.2.2 - 1) λd=>D (bif c != d then(D (QY j.1 o j.2.2) λag=>D (A j.1 j.2.1) λi=>O (j.1.set (Int.toNat j.2.1) ag,wrap .i64<|j.2.1+1))else O (j.1,j.2.1)) λa=>O<|.nx (a.1,a.2,wrap .i64<|j.2.2+1))else(O<|.br (j.1,j.2.1,j.2.2)):aP (Fl (aG Int×Int×Int) Empty))) N (p0,o,1)) λe=>e.cs (λ(j:aG Int×Int×Int)=>D (wX j.1 j.2.1 (Z j.1:Int)) λk=>D (wX (j.1.take (Int.toNat j.2.1)++List.replicate (Z j.1 - Int.toNat j.2.1) (0:Int)) 0 j.2.1) λf=>O<|.rt f)<|λr=>r.elim)else O (.nx<|wrap .i64<|o+1))else(O<|.br o):aP (Fl Int<|aG Int))) N 1) λg=>g.cs (λ(o:Int)=>O p0)<|λr=>O r)
def uK(N:Nat)(p0:z)(p1:aG Int)(p2:Int):aP Bool:=
 D (A p1 p2) λj=>O<|decide<|p0.Y1<=j
def qO(N:Nat)(p0:aG z)(p1:z->aP Bool):aP Int:=
 D (sV (Z p0) (λ(j:Nat)(o:Unit)=>(D (A p0 (j:Int)) λa=>D (p1 a) λb=>bif b then O (.rt (j:Int))else(O<|.nx ()):aP (Fl Unit Int))) ()) λad=>ad.cs (λ(o:Unit)=>O<|-1)<|λr=>O r
def oC(N:Nat)(p0:aG z)(p1:z->aP Bool):aP Int:=
 D (sV (Z p0) (λ(j:Nat)(o:Unit)=>(D (A p0 (j:Int)) λa=>D (p1 a) λb=>bif b then O (.rt (j:Int))else(O<|.nx ()):aP (Fl Unit Int))) ()) λad=>ad.cs (λ(o:Unit)=>O<|-1)<|λr=>O r
def kH(N:Nat)(p0:aG z)(p1:z->aP Bool):aP (aG z):=
 D (oC N p0 p1) λo=>bif o==(-1)then O p0 else(D (gh (λ(j:aG z×Int×Int)=>(bif decide (j.2.2<(Z j.1:Int))then(D (A j.1 j.2.2) λa=>D (p1 a) λad=>D (bif(!ad)then(D (A j.1 j.2.1) λag=>O (j.1.set (Int.toNat j.2.1) a,wrap .i64<|j.2.1+1))else O (j.1,j.2.1)) λb=>O<|.nx (b.1,b.2,wrap .i64<|j.2.2+1))else(O<|.br (j.1,j.2.1,j.2.2)):aP (Fl (aG z×Int×Int) Empty))) N (p0,o,wrap .i64<|o+1)) λc=>c.cs (λ(j:aG z×Int×Int)=>D (wX j.1 j.2.1 (Z j.1:Int)) λe=>D (wX (j.1.take (Int.toNat j.2.1)++List.replicate (Z j.1 - Int.toNat j.2.1) (⟨0,0,0,0⟩:z)) 0 j.2.1) λd=>O d)<|λr=>r.elim)
def j6(N:Nat)(p0 p1:z):aP Int:=
 O (wrap .i64<|p0.X0 - p1.X0)
def mg(N:Nat)(p0:aG z):aP (aG Int×aG z):=
 D (y4 (j6 N) p0) λa=>D (lT (Z a) (λ(ad:Nat)(j:aG Int)=>(D (A a (ad:Int)) λo=>D (bif decide (wrap .i64 ((Z j:Int) - 1)>=0)then(D (A j<|wrap .i64<|(Z j:Int) - 1) λc=>O<|decide<|o.X0<=c)else O aK) λd=>D (bif d then(D (A j<|wrap .i64<|(Z j:Int) - 1) λb=>D (A j<|wrap .i64<|(Z j:Int) - 1) λf=>O<|j.set (Int.toNat<|wrap .i64<|(Z j:Int) - 1) (if b<o.X1 then o.X1 else b))else(D (gx 8 j ([o.X0,o.X1]:aG Int)) λag=>O ag)) λe=>O e:aP (aG Int))) ([]:aG Int)) λj=>O (j,a)
def sf(N:Nat)(p0:aG Int)(p1:aG Int):aP Bool:=
 bif(Z p0:Int) != (Z p1:Int)then O aK else(D (sV (Z p0) (λ(j:Nat)(o:Unit)=>(D (A p0 (j:Int)) λa=>D (A p1 (j:Int)) λb=>bif a != b then O (.rt aK)else(O<|.nx ()):aP (Fl Unit Bool))) ()) λad=>ad.cs (λ(o:Unit)=>O aA)<|λr=>O r)
def lI(N:Nat)(p0:aG aB)(p1:aB):aP (aG aB):=
 bif((Z p1.Xs:Int)==0)||decide (p1.Y1<=p1.Y0)then O p0 else(D (bif decide (wrap .i64 ((Z p0:Int) - 1)>=0)then(D (A p0<|wrap .i64<|(Z p0:Int) - 1) λj=>bif j.Y1==p1.Y0 then(D (A p0<|wrap .i64<|(Z p0:Int) - 1) λo=>D (sf N o.Xs p1.Xs) λa=>O a)else O aK)else O aK) λb=>bif b then(D (A p0<|wrap .i64<|(Z p0:Int) - 1) λad=>O<|p0.set (Int.toNat<|wrap .i64<|(Z p0:Int) - 1)<|{ad with Y1:=p1.Y1})else(D (gx 40 p0 ([p1]:aG aB)) λc=>O c))
def j8(N:Nat)(p0:aG z):aP (aG aB):=
 D (lW N p0) λag=>D (y4 (mR N) ag) λa=>D (lT (Z a) (λ(e:Nat)(ad:aG Int)=>(D (A a (e:Int)) λc=>D (gx 8 ad ([c.Y0,c.Y1]:aG Int)) λf=>O f:aP (aG Int))) ([]:aG Int)) λad=>D (C5 ad) λg=>D (j5 N g) λb=>D (gh (λ(j:aG aB×aG z×Int×Int)=>(bif decide (wrap .i64 (j.2.2.2+1)<(Z b:Int))then(D (kH N j.2.1<|λv=>uK N v b j.2.2.2) λh=>D (gh (λ(o:aG z×Int)=>(D (bif decide (o.2<(Z a:Int))then(D (A a o.2) λi=>D (A b j.2.2.2) λk=>O<|decide<|i.Y0<=k)else O aK) λl=>bif l then(D (A a o.2) λm=>D (gx 32 o.1 ([m]:aG z)) λn=>O<|.nx (n,wrap .i64<|o.2+1))else(O<|.br (o.1,o.2)):aP (Fl (aG z×Int) Empty))) N (h,j.2.2.1)) λp=>p.cs (λ(o:aG z×Int)=>D (A b j.2.2.2) λq=>D (A b<|wrap .i64<|j.2.2.2+1) λs=>D (mg N o.1) λd=>D (lI N j.1 (⟨q,s,d.1⟩:aB)) λt=>O<|.nx (t,d.2,o.2,wrap .i64<|j.2.2.2+1))<|λr=>r.elim)else(O<|.br (j.1,j.2.1,j.2.2.1,j.2.2.2)):aP (Fl (aG aB×aG z×Int×Int) Empty))) N (([]:aG aB),([]:aG z),0,0)) λu=>u.cs (λ(j:aG aB×aG z×Int×Int)=>O j.1)<|λr=>r.elim
def mh(N:Nat)(p0:aG aB):aP (aG z):=
 D (lT (Z p0) (λ(b:Nat)(a:aG z)=>(D (A p0 (b:Int)) λo=>D (gh (λ(j:aG z×Int)=>(bif decide (j.2<(Z o.Xs:Int))then(D (A o.Xs j.2) λad=>D (A o.Xs<|wrap .i64<|j.2+1) λc=>D (gx 32 j.1 ([(⟨ad,o.Y0,c,o.Y1⟩:z)]:aG z)) λd=>O<|.nx (d,wrap .i64<|j.2+2))else(O<|.br (j.1,j.2)):aP (Fl (aG z×Int) Empty))) N (a,0)) λag=>ag.cs (λ(j:aG z×Int)=>O j.1) (λr=>r.elim):aP (aG z))) ([]:aG z)) λa=>O a
def nZ(N:Nat)(p0:aG z)(p1:aG z):aP Bool:=
 bif(Z p0:Int) != (Z p1:Int)then O aK else(D (sV (Z p0) (λ(j:Nat)(o:Unit)=>(D (A p0 (j:Int)) λa=>D (A p1 (j:Int)) λb=>bif(!(decide<|a=b))then O (.rt aK)else(O<|.nx ()):aP (Fl Unit Bool))) ()) λad=>ad.cs (λ(o:Unit)=>O aA)<|λr=>O r)
def lX(N:Nat)(p0:aG z):aP Int:=
 D (oT N p0) λb=>bif b != 0 then O b else(D (gh (λ(j:Int)=>(bif decide (j<(Z p0:Int))then(D (A p0<|wrap .i64<|j - 1) λo=>D (A p0 j) λa=>bif decide (a.Y0<o.Y0)||((a.Y0==o.Y0)&&decide (a.X0<=o.X0))then O (.rt 8)else O (.nx<|wrap .i64<|j+1))else(O<|.br j):aP (Fl Int Int))) N 1) λad=>ad.cs (λ(j:Int)=>D (j8 N p0) λc=>D (mh N c) λd=>D (nZ N d p0) λag=>bif(!ag)then O 3 else O 0)<|λr=>O r)
def kB(N:Nat)(p0 p1 p2:Int):aP Bool:=
 O (decide (p0>=p1)&&decide (p0<=p2))
def mF(N:Nat)(p0:dP):aP Bool:=
 D (D (pH N p0.X) λj=>bif j then(D (pH N p0.Y) λo=>O o)else O aK) λa=>O a
def jh(N:Nat)(p0:cM):aP z:=
 O (⟨wrap .i64<|p0.At.X -(wrap .i64<|Int.tdiv p0.gK 2),wrap .i64<|p0.At.Y -(wrap .i64<|Int.tdiv p0.gK 2),wrap .i64<|wrap .i64 (p0.At.X -(wrap .i64<|Int.tdiv p0.gK 2))+p0.gK,wrap .i64<|wrap .i64 (p0.At.Y -(wrap .i64<|Int.tdiv p0.gK 2))+p0.gK⟩:z)
def sj(N:Nat)(p0:aG aB):aP z:=
 D (A p0 0) λad=>D (A ad.Xs 0) λc=>D (A p0 0) λd=>D (A p0 0) λag=>D (A ag.Xs 1) λe=>D (A p0<|wrap .i64<|(Z p0:Int) - 1) λf=>D (lT (Z p0) (λ(g:Nat)(j:z)=>(D (A p0 (g:Int)) λo=>D (A o.Xs 0) λa=>D (A o.Xs<|wrap .i64<|(Z o.Xs:Int) - 1) λb=>O ({{j with X0:=(if a<j.X0 then a else j.X0)}with X1:=(if j.X1<b then b else j.X1)}):aP z)) (⟨c,d.Y0,e,f.Y1⟩:z)) λj=>O j
def rC(N:Nat)(p0:aG aB):aP Bool:=
 D (bif(Z p0:Int)==0 then O aA else(D (sj N p0) λj=>D (sd N j) λo=>O o)) λa=>O a
def qD(N:Nat)(p0:cM):aP (z×Int):=
 D (D (kB N p0.gK 1 10000) λo=>bif(!o)then O aA else(D (mF N p0.At) λa=>O<|!a)) λb=>bif b then O ((⟨0,0,0,0⟩:z),1)else(D (jh N p0) λj=>D (j8 N ([j]:aG z)) λad=>D (rC N ad) λc=>bif(!c)then O ((⟨0,0,0,0⟩:z),1)else O (j,0))
def n0(N:Nat)(p0:ir):aP Int:=
 bif decide ((Z p0.aX:Int)>500)then O 2 else(D (sV (Z p0.aX) (λ(a:Nat)(b:Unit)=>(D (A p0.aX (a:Int)) λj=>D (qD N j) λo=>bif o.2 != 0 then O (.rt o.2)else(D (D (kB N j.dC 0<|wrap .i64<|(Z p0.aS:Int) - 1) λad=>bif(!ad)then O aA else(D (kB N j.To j.dC<|wrap .i64<|(Z p0.aS:Int) - 1) λc=>O<|!c)) λd=>bif d then O (.rt 1)else O (.nx ())):aP (Fl Unit Int))) ()) λag=>ag.cs (λ(b:Unit)=>O 0)<|λr=>O r)
def pI(N:Nat)(p0:dD):aP bX:=
 O (⟨p0.Part,p0.bX⟩:bX)
def n7(N:Nat)(p0:ir):aP Int:=
 bif decide ((Z p0.cA:Int)>1000)then O 2 else(D (sV (Z p0.cA) (λ(o:Nat)(a:Unit)=>(D (A p0.cA (o:Int)) λj=>D (D (lG N j.Part) λb=>bif(!b)then O aA else(D (jO N j.bX) λad=>O<|!ad)) λc=>bif c then O (.rt 5)else(D (D (kB N j.cR 0<|wrap .i64<|(Z p0.aS:Int) - 1) λd=>bif(!d)then O aA else(D (mF N j.At) λag=>O<|!ag)) λe=>bif e then O (.rt 1)else(D (bif decide ((o:Int)>0)then(D (A p0.cA<|wrap .i64<|(o:Int) - 1) λf=>D (pI N j) λg=>D (pI N f) λh=>D (dY N g h) λi=>O<|decide<|i<=0)else O aK) λk=>bif k then O (.rt 8)else O (.nx ()))):aP (Fl Unit Int))) ()) λl=>l.cs (λ(a:Unit)=>O 0)<|λr=>O r)
def mG(N:Nat)(p0 p1:Int)(p2 p3:Int):aP Int:=
 O (if(if 0<(wrap .i64<|wrap .i64 (p2 - p1)+1)then wrap .i64 (wrap .i64 (p2 - p1)+1)else 0)<(wrap .i64<|wrap .i64 (p0 - p3)+1)then wrap .i64 (wrap .i64 (p0 - p3)+1)else(if 0<(wrap .i64<|wrap .i64 (p2 - p1)+1)then wrap .i64 (wrap .i64 (p2 - p1)+1)else 0))
def oU(N:Nat)(p0 p1:z):aP Int:=
 D (mG N p0.X0 p0.X1 p1.X0 p1.X1) λj=>D (mG N p0.Y0 p0.Y1 p1.Y0 p1.Y1) λo=>O (if j<o then o else j)
def oV(N:Nat)(p0:cM)(p1:Int):aP Bool:=
 O (decide (p0.dC<=p1)&&decide (p1<=p0.To))
def sm(N:Nat)(p0:aG aB)(p1 p2:Int):aP (aG Int×Int):=
 bif(Z p0:Int)==0 then O (([]:aG Int),p2)else(D (A p0 0) λa=>bif p1<a.Y0 then(D (A p0 0) λj=>O (([]:aG Int),(if j.Y0<p2 then j.Y0 else p2)))else(D (A p0 0) λb=>D (A p0 0) λo=>O (b.Xs,(if o.Y1<p2 then o.Y1 else p2))))
def xX(N:Nat)(p0:aG Int)(p1:aG Int)(p2:Bool->Bool->aP Bool):aP (aG Int):=
 D (gh (λ(j:aG Int×aG Int×aG Int×Bool×Bool×Bool)=>(D (bif decide ((Z j.1:Int)>0)then O aA else O (decide<|(Z j.2.1:Int)>0)) λd=>bif d then(D (bif(Z j.2.1:Int)==0 then O aA else(bif decide ((Z j.1:Int)>0)then(D (A j.1 0) λag=>D (A j.2.1 0) λe=>O<|decide<|ag<=e)else O aK)) λf=>D (bif f then(D (A j.1 0) λg=>O g)else(D (A j.2.1 0) λh=>O h)) λo=>D (bif decide ((Z j.1:Int)>0)then(D (A j.1 0) λi=>O<|i==o)else O aK) λk=>D (bif k then(D (wX j.1 1 (Z j.1:Int)) λl=>O (l,(!j.2.2.2.1)))else O (j.1,j.2.2.2.1)) λa=>D (bif decide ((Z j.2.1:Int)>0)then(D (A j.2.1 0) λm=>O<|m==o)else O aK) λn=>D (bif n then(D (wX j.2.1 1 (Z j.2.1:Int)) λp=>O (p,(!j.2.2.2.2.1)))else O (j.2.1,j.2.2.2.2.1)) λb=>D (p2 a.2 b.2) λad=>D (bif ad != j.2.2.2.2.2 then(D (gx 8 j.2.2.1 ([o]:aG Int)) λq=>O (q,ad))else O (j.2.2.1,j.2.2.2.2.2)) λc=>O<|.nx (a.1,b.1,c.1,a.2,b.2,c.2))else(O<|.br (j.1,j.2.1,j.2.2.1,j.2.2.2.1,j.2.2.2.2.1,j.2.2.2.2.2)):aP (Fl (aG Int×aG Int×aG Int×Bool×Bool×Bool) Empty))) N (p0,p1,([]:aG Int),aK,aK,aK)) λs=>s.cs (λ(j:aG Int×aG Int×aG Int×Bool×Bool×Bool)=>O j.2.2.1)<|λr=>r.elim
def wc(N:Nat)(p0:aG aB)(p1:aG aB)(p2:Bool->Bool->aP Bool):aP (aG aB):=
 bif wrap .i64 ((Z p0:Int)+(Z p1:Int))==0 then O ([]:aG aB)else(D (lT (Z ([p0,p1]:aG (aG aB))) (λ(e:Nat)(o:Int×Int)=>(D (A ([p0,p1]:aG (aG aB)) (e:Int)) λad=>D (bif decide ((Z ad:Int)>0)then(D (bif(e:Int)==0 then O aA else O ((Z p0:Int)==0)) λk=>D (bif k then(D (A ad 0) λl=>D (A ad<|wrap .i64<|(Z ad:Int) - 1) λm=>O (l.Y0,m.Y1))else O (o.1,o.2)) λag=>D (A ad 0) λf=>D (A ad<|wrap .i64<|(Z ad:Int) - 1) λg=>O ((if f.Y0<ag.1 then f.Y0 else ag.1),(if ag.2<g.Y1 then g.Y1 else ag.2)))else O (o.1,o.2)) λh=>O (h.1,h.2):aP (Int×Int))) (0,0)) λo=>D (gh (λ(j:aG aB×aG aB×aG aB×Int)=>(bif j.2.2.2<o.2 then(D (gh (λ(a:aG aB)=>(D (bif decide ((Z a:Int)>0)then(D (A a 0) λn=>O<|decide<|n.Y1<=j.2.2.2)else O aK) λp=>bif p then(D (wX a 1 (Z a:Int)) λq=>O<|.nx q)else(O<|.br a):aP (Fl (aG aB) Empty))) N j.1) λs=>s.cs (λ(a:aG aB)=>D (gh (λ(b:aG aB)=>(D (bif decide ((Z b:Int)>0)then(D (A b 0) λt=>O<|decide<|t.Y1<=j.2.2.2)else O aK) λu=>bif u then(D (wX b 1 (Z b:Int)) λv=>O<|.nx v)else(O<|.br b):aP (Fl (aG aB) Empty))) N j.2.1) λaz=>az.cs (λ(b:aG aB)=>D (sm N a j.2.2.2 o.2) λc=>D (sm N b j.2.2.2 o.2) λd=>D (xX N c.1 d.1 p2) λa0=>D (lI N j.2.2.1 (⟨j.2.2.2,(if d.2<c.2 then d.2 else c.2),a0⟩:aB)) λa1=>O<|.nx (a,b,a1,(if d.2<c.2 then d.2 else c.2)))<|λr=>r.elim)<|λr=>r.elim)else(O<|.br (j.1,j.2.1,j.2.2.1,j.2.2.2)):aP (Fl (aG aB×aG aB×aG aB×Int) Empty))) N (p0,p1,([]:aG aB),o.1)) λi=>i.cs (λ(j:aG aB×aG aB×aG aB×Int)=>O j.2.2.1)<|λr=>r.elim)
def uL(N:Nat)(p0 p1:Bool):aP Bool:=
 O (p0&&(!p1))
def oW(N:Nat)(p0:aG aB)(p1:aG aB):aP (aG aB):=
 D (wc N p0 p1<|uL N) λj=>O j
def rD(N:Nat)(p0:aG aB):aP Int:=
 D (lT (Z p0) (λ(o:Nat)(j:Int)=>(D (A p0 (o:Int)) λa=>O (wrap .i64<|j+ wrap .i64 (Int.tdiv (Z a.Xs:Int) 2)):aP Int)) 0) λj=>O j
def ij(N:Nat)(p0:Int)(d:aG Int):aP (Int×aG Int):=
 D (gh (λ(j:Int×aG Int)=>(D (A j.2 j.1) λa=>bif a != j.1 then(D (A j.2 j.1) λb=>D (A j.2 b) λo=>D (A j.2 j.1) λe=>D (A (j.2.set (Int.toNat j.1) o) j.1) λad=>O<|.nx (ad,j.2.set (Int.toNat j.1) o))else(O<|.br (j.1,j.2)):aP (Fl (Int×aG Int) Empty))) N (p0,d)) λc=>c.cs (λ(j:Int×aG Int)=>O (j.1,j.2))<|λr=>r.elim
def qh(N:Nat)(p0:aG aB):aP (aG<|aG aB):=
 D (mh N p0) λb=>D (mk 8 (0:Int) (Z b:Int)) λk=>D (lT (Z k) (λ(f:Nat)(ag:aG Int)=>(D (A ag (f:Int)) λbd=>O (ag.set (Int.toNat (f:Int)) (f:Int)):aP (aG Int))) k) λag=>D (lT (Z p0) (λ(g:Nat)(a:aG Int×Int×Int)=>(D (A p0 (g:Int)) λh=>D (bif decide ((g:Int)>0)then(D (A p0<|wrap .i64<|(g:Int) - 1) λx=>O<|x.Y1==h.Y0)else O aK) λy=>D (bif y then(D (gh (λ(j:aG Int×Int×Int)=>(bif decide (j.2.1<a.2.1)&&decide (j.2.2< wrap .i64 (a.2.1+ wrap .i64 (Int.tdiv (Z h.Xs:Int) 2)))then(D (D (A b j.2.1) λB=>D (A b j.2.2) λC=>bif B.X0<C.X1 then(D (A b j.2.2) λE=>D (A b j.2.1) λF=>O<|decide<|E.X0<F.X1)else O aK) λaz=>D (bif az then(D (ij N j.2.1 j.1) λc=>D (ij N j.2.2 c.2) λad=>D (A ad.2 (if c.1<ad.1 then ad.1 else c.1)) λI=>O<|ad.2.set (Int.toNat (if c.1<ad.1 then ad.1 else c.1)) (if ad.1<c.1 then ad.1 else c.1))else O j.1) λa0=>D (A b j.2.1) λa1=>D (A b j.2.2) λn=>D (bif a1.X1<n.X1 then O (wrap .i64<|j.2.1+1,j.2.2)else O (j.2.1,wrap .i64<|j.2.2+1)) λl=>O<|.nx (a0,l.1,l.2))else(O<|.br (j.1,j.2.1,j.2.2)):aP (Fl (aG Int×Int×Int) Empty))) N (a.1,a.2.2,a.2.1)) λp=>p.cs (λ(j:aG Int×Int×Int)=>O j.1)<|λr=>r.elim)else O a.1) λq=>O (q,wrap .i64<|a.2.1+ wrap .i64 (Int.tdiv (Z h.Xs:Int) 2),a.2.1):aP (aG Int×Int×Int))) (ag,0,0)) λa=>D (lT (Z b) (λ(m:Nat)(o:aG Int×aG (Int×Int)×aG (aG z))=>(D (A b (m:Int)) λs=>D (ij N (m:Int) o.1) λe=>D (bif(!(oN o.2.1 e.1))then(D (gx 24 o.2.2 [([]:aG z)]) λt=>O (oO o.2.1 e.1 (Z o.2.2:Int),t,(Z o.2.2:Int)))else O (o.2.1,o.2.2,eU o.2.1 e.1 (0:Int))) λd=>D (A d.2.1 d.2.2) λu=>D (gx 32 u ([s]:aG z)) λv=>D (A d.2.1 d.2.2) λJ=>O (e.2,d.1,d.2.1.set (Int.toNat d.2.2) v):aP (aG Int×aG (Int×Int)×aG (aG z)))) (a.1,([]:aG (Int×Int)),([]:aG (aG z)))) λo=>D (lT (Z o.2.2) (λ(w:Nat)(i:aG (aG aB))=>(D (A o.2.2 (w:Int)) λG=>D (j8 N G) λH=>D (gx 24 i ([H]:aG (aG aB))) λbc=>O bc:aP (aG<|aG aB))) ([]:aG (aG aB))) λi=>O i
def mS(N:Nat)(f:aG (aG z))(g:aG cM)(w:aG (aG aB))(x:aG aH):aP (Bool×aG (aG aB)×aG aH):=
 D (lT (Z f) (λ(a:Nat)(j:aG (aG aB)×aG aH×Bool)=>(D (A f (a:Int)) λh=>D (lT (Z g) (λ(i:Nat)(o:aG z)=>(D (A g (i:Int)) λd=>D (oV N d (a:Int)) λk=>D (bif k then(D (jh N d) λl=>D (gx 32 o ([l]:aG z)) λm=>O m)else O o) λn=>O n:aP (aG z))) ([]:aG z)) λo=>D (j8 N h) λp=>D (j8 N o) λq=>D (oW N p q) λb=>D (bif j.2.2 then(D (rD N b) λr=>O (decide<|r<=2000,b))else O (aK,b)) λad=>D (gx 24 j.1 ([ad.2]:aG (aG aB))) λs=>D (qh N ad.2) λag=>D (lT (Z ag) (λ(t:Nat)(c:aG aH)=>(D (A ag (t:Int)) λe=>D (mh N e) λu=>D (gx 56 c ([(⟨(a:Int),e,u⟩:aH)]:aG aH)) λv=>O v:aP (aG aH))) j.2.1) λc=>O (s,c,ad.1):aP (aG (aG aB)×aG aH×Bool))) (w,x,aA)) λj=>D (bif j.2.2 then O (decide<|(Z j.2.1:Int)<=2000)else O aK) λaz=>O (az,j.1,j.2.1)
def zp(N:Nat)(p0 p1:z):aP Bool:=
 O (((decide (p0.X0<p1.X1)&&decide (p1.X0<p0.X1))&&((p0.Y1==p1.Y0)||(p1.Y1==p0.Y0)))||((decide (p0.Y0<p1.Y1)&&decide (p1.Y0<p0.Y1))&&((p0.X1==p1.X0)||(p1.X1==p0.X0))))
def ni(N:Nat)(p0:z)(p1:cM):aP Bool:=
 D (jh N p1) λj=>D (zp N p0 j) λo=>O o
def jP(N:Nat)(p0:aG z)(p1:z->aP Bool):aP Bool:=
 D (qO N p0 p1) λj=>O<|decide<|j>=0
def mT(N:Nat)(c:aG cM)(d:aG aH)(l:aG (aG Int)):aP (aG<|aG Int):=
 D (lT (Z c) (λ(e:Nat)(o:aG (aG Int))=>(D (A c (e:Int)) λa=>D (lT (Z d) (λ(b:Nat)(j:aG Int)=>(D (A d (b:Int)) λad=>D (bif a.iE then(D (oV N a ad.cR) λf=>bif f then(D (jP N ad.eG<|λm=>ni N m a) λag=>O ag)else O aK)else O aK) λg=>D (bif g then(D (gx 8 j ([(b:Int)]:aG Int)) λh=>O h)else O j) λi=>O i:aP (aG Int))) ([]:aG Int)) λj=>D (gx 24 o ([j]:aG (aG Int))) λk=>O k:aP (aG<|aG Int))) l) λo=>O o
def lk(N:Nat)(p0:Int):aP (aG Int):=
 D (mk 8 (0:Int) p0) λa=>D (lT (Z a) (λ(o:Nat)(j:aG Int)=>(D (A j (o:Int)) λb=>O (j.set (Int.toNat (o:Int)) (o:Int)):aP (aG Int))) a) λj=>O j
def eC(N:Nat)(d:aG Int)(p1:Int):aP (Int×aG Int):=
 D (gh (λ(j:aG Int×Int)=>(D (A j.1 j.2) λa=>bif a != j.2 then(D (A j.1 j.2) λb=>D (A j.1 b) λo=>D (A j.1 j.2) λe=>D (A (j.1.set (Int.toNat j.2) o) j.2) λad=>O<|.nx (j.1.set (Int.toNat j.2) o,ad))else(O<|.br (j.1,j.2)):aP (Fl (aG Int×Int) Empty))) N (d,p1)) λc=>c.cs (λ(j:aG Int×Int)=>O (j.2,j.1))<|λr=>r.elim
def eV(N:Nat)(a:aG Int)(p1 p2:Int):aP (aG Int):=
 D (eC N a p1) λo=>D (eC N o.2 p2) λj=>D (A j.2 (if o.1<j.1 then j.1 else o.1)) λb=>O<|j.2.set (Int.toNat (if o.1<j.1 then j.1 else o.1)) (if j.1<o.1 then j.1 else o.1)
def mU(N:Nat)(c:aG Int):aP (aG (aG Int)×aG Int):=
 D (lT (Z c) (λ(b:Nat)(j:aG Int×aG (aG Int)×aG (Int×Int))=>(D (eC N j.1 (b:Int)) λa=>D (bif a.1==(b:Int)then(D (gx 24 j.2.1 [([]:aG Int)]) λad=>O (ad,oO j.2.2 (b:Int) (Z j.2.1:Int)))else O (j.2.1,j.2.2)) λo=>D (A o.1<|eU o.2 a.1 (0:Int)) λd=>D (gx 8 d ([(b:Int)]:aG Int)) λe=>D (A o.1<|eU o.2 a.1 (0:Int)) λag=>O (a.2,o.1.set (Int.toNat<|eU o.2 a.1 (0:Int)) e,o.2):aP (aG Int×aG (aG Int)×aG (Int×Int)))) (c,([]:aG (aG Int)),([]:aG (Int×Int)))) λj=>O (j.2.1,j.1)
def pJ(N:Nat)(p0:z)(p1:dP):aP Bool:=
 D (bif p1.X>=p0.X0 then(bif p1.X<p0.X1 then(bif p1.Y>=p0.Y0 then O (decide<|p1.Y<p0.Y1)else O aK)else O aK)else O aK) λj=>O j
def nJ(N:Nat)(p0:aG z)(p1:dP):aP Bool:=
 D (jP N p0<|λa=>pJ N a p1) λj=>O j
def mV(N:Nat)(c:aG cM)(d:aG aH)(p1:dD):aP (gL×Bool):=
 D (sV (Z c) (λ(o:Nat)(ad:Unit)=>(D (A c (o:Int)) λj=>D (bif j.iE then(D (oV N j p1.cR) λe=>bif e then(D (jh N j) λf=>D (nJ N ([f]:aG z) p1.At) λag=>O ag)else O aK)else O aK) λg=>bif g then O (.rt ((⟨aA,(o:Int)⟩:gL),aA))else(O<|.nx ()):aP (Fl Unit<|gL×Bool))) ()) λh=>h.cs (λ(ad:Unit)=>D (sV (Z d) (λ(a:Nat)(i:Unit)=>(D (A d (a:Int)) λb=>D (bif b.cR==p1.cR then(D (nJ N b.eG p1.At) λk=>O k)else O aK) λl=>bif l then O (.rt ((⟨aK,(a:Int)⟩:gL),aA))else(O<|.nx ()):aP (Fl Unit<|gL×Bool))) ()) λm=>m.cs (λ(i:Unit)=>O ((⟨aK,0⟩:gL),aK))<|λr=>O r)<|λr=>O r
def j9(N:Nat)(a:aG Int)(b:aG Int)(p1:gL):aP Int:=
 bif p1.cM then(D (A b p1.Number) λj=>O j)else(D (A a p1.Number) λo=>O o)
def i5(N:Nat)(e:aG cM)(q:aG dD)(a:aG aH)(r:aG (aG Int))(Q:aG Int)(R:aG Int)(K:aG Int)(L:aG gL):aP (aG bL×aG Int×aG Int×aG Int×aG gL):=
 D (lk N<|wrap .i64<|(Z a:Int)+(Z e:Int)) λB=>D (lT (Z r) (λ(h:Nat)(f:aG Int)=>(D (A r (h:Int)) λi=>D (lT (Z i) (λ(C:Nat)(ag:aG Int)=>(D (A i (C:Int)) λE=>D (eV N ag E<|wrap .i64<|(Z a:Int)+(h:Int)) λF=>O F:aP (aG Int))) f) λag=>O ag:aP (aG Int))) B) λf=>D (mk 8 (0:Int) (Z a:Int)) λG=>D (mk 8 (0:Int) (Z e:Int)) λH=>D (mU N f) λk=>D (lT (Z k.1) (λ(az:Nat)(b:aG bL×aG Int×aG Int)=>(D (A k.1 (az:Int)) λl=>D (lT (Z l) (λ(a0:Nat)(j:aG Int×aG Int×aG Int×aG Int)=>(D (A l (a0:Int)) λc=>D (bif decide (c<(Z a:Int))then(D (A j.1 c) λbd=>D (gx 8 j.2.2.1 ([c]:aG Int)) λa1=>O (j.1.set (Int.toNat c) (Z b.1:Int),j.2.1,a1,j.2.2.2))else(D (A e<|wrap .i64<|c -(Z a:Int)) λs=>D (bif s.iE then(D (A j.2.1<|wrap .i64<|c -(Z a:Int)) λM=>D (gx 8 j.2.2.2 ([wrap .i64<|c -(Z a:Int)]:aG Int)) λt=>O (j.2.1.set (Int.toNat<|wrap .i64<|c -(Z a:Int)) (Z b.1:Int),t))else(D (A j.2.1<|wrap .i64<|c -(Z a:Int)) λP=>O (j.2.1.set (Int.toNat<|wrap .i64<|c -(Z a:Int))<|-1,j.2.2.2))) λm=>O (j.1,m.1,j.2.2.1,m.2))) λad=>O (ad.1,ad.2.1,ad.2.2.1,ad.2.2.2):aP (aG Int×aG Int×aG Int×aG Int))) (b.2.1,b.2.2,([]:aG Int),([]:aG Int))) λj=>D (bif decide (wrap .i64 ((Z j.2.2.1:Int)+(Z j.2.2.2:Int))>0)then(D (gx 72 b.1 [(⟨j.2.2.1,j.2.2.2,([]:aG bX)⟩:bL)]) λu=>O u)else O b.1) λv=>O (v,j.1,j.2.1):aP (aG bL×aG Int×aG Int))) (([]:aG bL),G,H)) λb=>D (lT (Z q) (λ(w:Nat)(o:aG bL×aG Int×aG Int×aG Int×aG gL)=>(D (A q (w:Int)) λn=>D (mV N e a n) λg=>D (bif g.2 then(D (j9 N o.2.1 o.2.2.1 g.1) λd=>D (A o.1 d) λx=>D (pI N n) λy=>D (gx 32 x.aZ ([y]:aG bX)) λz=>D (A o.1 d) λI=>O (o.1.set (Int.toNat d) {I with aZ:=z},d))else O (o.1,(-1))) λp=>D (gx 8 o.2.2.2.1 ([p.2]:aG Int)) λJ=>D (gx 16 o.2.2.2.2 ([g.1]:aG gL)) λbc=>O (p.1,o.2.1,o.2.2.1,J,bc):aP (aG bL×aG Int×aG Int×aG Int×aG gL))) (b.1,b.2.1,b.2.2,K,L)) λo=>O (o.1,o.2.1,o.2.2.1,o.2.2.2.1,o.2.2.2.2)
def jE(N:Nat)(p0:ir):aP (aP (aG (aG z)×aG z×aG cM×aG dD×aG (aG aB)×aG aH×aG (aG Int)×aG bL×aG Int×aG Int×aG Int×aG gL)×Int):=
 bif(Z p0.aS:Int)==0 then O (aQ,9)else(bif decide ((Z p0.aS:Int)>16)then O (aQ,2)else(D (sV (Z p0.aS) (λ(k:Nat)(a:Int)=>(D (A p0.aS (k:Int)) λc=>D (lX N c) λd=>bif d != 0 then O (.rt (aQ,d))else(O<|.nx<|wrap .i64<|a+(Z c:Int)):aP (Fl Int<|aP (aG (aG z)×aG z×aG cM×aG dD×aG (aG aB)×aG aH×aG (aG Int)×aG bL×aG Int×aG Int×aG Int×aG gL)×Int))) (Z p0.cZ:Int)) λl=>l.cs (λ(a:Int)=>D (lX N p0.cZ) λag=>bif ag != 0 then O (aQ,ag)else(bif a>2000 then O (aQ,2)else(D (n0 N p0) λe=>bif e != 0 then O (aQ,e)else(D (n7 N p0) λf=>bif f != 0 then O (aQ,f)else(D (sV (Z p0.aX) (λ(g:Nat)(m:Unit)=>(D (A p0.aX (g:Int)) λb=>D (wX p0.aX 0 (g:Int)) λh=>D (sV (Z h) (λ(n:Nat)(p:Unit)=>(D (A h (n:Int)) λad=>D (bif decide (b.dC<=ad.To)&&decide (ad.dC<=b.To)then(D (jh N b) λq=>D (jh N ad) λs=>D (oU N q s) λt=>O<|t==0)else O aK) λu=>bif u then O (.rt (aQ,12))else(O<|.nx ()):aP (Fl Unit<|aP (aG (aG z)×aG z×aG cM×aG dD×aG (aG aB)×aG aH×aG (aG Int)×aG bL×aG Int×aG Int×aG Int×aG gL)×Int))) ()) λaz=>az.cs (λ(p:Unit)=>O<|.nx ()) (λr=>O<|.rt r):aP (Fl Unit<|aP (aG (aG z)×aG z×aG cM×aG dD×aG (aG aB)×aG aH×aG (aG Int)×aG bL×aG Int×aG Int×aG Int×aG gL)×Int))) ()) λa0=>a0.cs (λ(m:Unit)=>D (mS N p0.aS p0.aX ([]:aG (aG aB)) ([]:aG aH)) λj=>bif(!j.1)then O (aQ,2)else(D (mT N p0.aX j.2.2 ([]:aG (aG Int))) λi=>D (i5 N p0.aX p0.cA j.2.2 i ([]:aG Int) ([]:aG Int) ([]:aG Int) ([]:aG gL)) λo=>O (O (p0.aS,p0.cZ,p0.aX,p0.cA,j.2.1,j.2.2,i,o.1,o.2.1,o.2.2.1,o.2.2.2.1,o.2.2.2.2),0)))<|λr=>O r)))))<|λr=>O r))
def fH(N:Nat)(p0:aG bD)(p1:bV)(p2:ir):aP (aP (aG (aG z)×aG z×aG cM×aG dD×aG (aG aB)×aG aH×aG (aG Int)×aG bL×aG Int×aG Int×aG Int×aG gL)×Int):=
 D (lV N p0 p1) λa=>bif a != 0 then O (aQ,a)else(D (jE N p2) λo=>LP o.1 (O (aQ,o.2))<|λ(j:(aG (aG z)×aG z×aG cM×aG dD×aG (aG aB)×aG aH×aG (aG Int)×aG bL×aG Int×aG Int×aG Int×aG gL))=>O (O (j.1,j.2.1,j.2.2.1,j.2.2.2.1,j.2.2.2.2.1,j.2.2.2.2.2.1,j.2.2.2.2.2.2.1,j.2.2.2.2.2.2.2.1,j.2.2.2.2.2.2.2.2.1,j.2.2.2.2.2.2.2.2.2.1,j.2.2.2.2.2.2.2.2.2.2.1,j.2.2.2.2.2.2.2.2.2.2.2),o.2))
def iN(N:Nat)(p0:aG dD)(p1:bX)(p2:dD->bX->aP Int):aP (Int×Bool):=
 D (gh (λ(j:Int×Int)=>(bif j.1<j.2 then(D (A p0<|wrap .i64<|Int.fdiv (wrap .u64<|wrap .i64<|j.1+j.2) 2) λa=>D (p2 a p1) λb=>D (bif b<0 then O (wrap .i64<|wrap .i64 (Int.fdiv (wrap .u64<|wrap .i64<|j.1+j.2) 2)+1,j.2)else O (j.1,wrap .i64<|Int.fdiv (wrap .u64<|wrap .i64<|j.1+j.2) 2)) λo=>O<|.nx (o.1,o.2))else(O<|.br (j.1,j.2)):aP (Fl (Int×Int) Empty))) N (0,(Z p0:Int))) λad=>ad.cs (λ(j:Int×Int)=>D (bif decide (j.1<(Z p0:Int))then(D (A p0 j.1) λc=>D (p2 c p1) λd=>O<|d==0)else O aK) λag=>O (j.1,ag))<|λr=>r.elim
def ll(N:Nat)(p0:dD)(p1:bX):aP Int:=
 D (pI N p0) λj=>D (dY N j p1) λo=>O o
def lA(N:Nat)(p0:ir)(p1:bX):aP Int:=
 D (iN N p0.cA p1<|ll N) λj=>bif(!j.2)then O (-1)else O j.1
def pF(N:Nat)(p0 p1:Int):aP Int:=
 O (if wrap .i64 (p0 - p1)<(wrap .i64<|p1 - p0)then wrap .i64 (p1 - p0)else wrap .i64 (p0 - p1))
def dN(N:Nat)(p0:aG aC)(p1 p2:Int)(p3:aC->aC->aP Int):aP (aG aC):=
 D (gh (λ(o:aG aC×Int)=>(bif o.2<p2 then(D (gh (λ(j:aG aC×Int)=>(D (bif j.2>p1 then(D (A j.1 j.2) λb=>D (A j.1<|wrap .i64<|j.2 - 1) λad=>D (p3 b ad) λc=>O<|decide<|c<0)else O aK) λd=>bif d then(D (A j.1<|wrap .i64<|j.2 - 1) λa=>D (A j.1 j.2) λag=>D (A j.1 j.2) λg=>D (A (j.1.set (Int.toNat j.2) a)<|wrap .i64<|j.2 - 1) λh=>O<|.nx ((j.1.set (Int.toNat j.2) a).set (Int.toNat<|wrap .i64<|j.2 - 1) ag,wrap .i64<|j.2 - 1))else(O<|.br (j.1,j.2)):aP (Fl (aG aC×Int) Empty))) N (o.1,o.2)) λe=>e.cs (λ(j:aG aC×Int)=>O<|.nx (j.1,wrap .i64<|o.2+1))<|λr=>r.elim)else(O<|.br (o.1,o.2)):aP (Fl (aG aC×Int) Empty))) N (p0,wrap .i64<|p1+1)) λf=>f.cs (λ(o:aG aC×Int)=>O o.1)<|λr=>r.elim
def eW(N:Nat)(p0:aG aC)(p1 p2 p3:Int)(d:aC->aC->aP Int):aP (aG aC):=
 D (gh (λ(j:aG aC×Int)=>(bif j.2<p3 then(D (A j.1<|wrap .i64<|p2+j.2) λo=>D (A j.1<|wrap .i64<|p1+j.2) λa=>D (A j.1<|wrap .i64<|p1+j.2) λad=>D (A (j.1.set (Int.toNat<|wrap .i64<|p1+j.2) o)<|wrap .i64<|p2+j.2) λc=>O<|.nx ((j.1.set (Int.toNat<|wrap .i64<|p1+j.2) o).set (Int.toNat<|wrap .i64<|p2+j.2) a,wrap .i64<|j.2+1))else(O<|.br (j.1,j.2)):aP (Fl (aG aC×Int) Empty))) N (p0,0)) λb=>b.cs (λ(j:aG aC×Int)=>O j.1)<|λr=>r.elim
def g8(N:Nat)(p0:aG aC)(p1 p2 p3:Int)(a:aC->aC->aP Int):aP (aG aC):=
 D (gh (λ(j:aG aC×Int×Int)=>(bif j.2.1 != j.2.2 then(D (bif j.2.1>j.2.2 then(D (eW N j.1 (wrap .i64<|p2 - j.2.1) p2 j.2.2 a) λb=>O (b,wrap .i64<|j.2.1 - j.2.2,j.2.2))else(D (eW N j.1 (wrap .i64<|p2 - j.2.1) (wrap .i64<|wrap .i64 (p2+j.2.2) - j.2.1) j.2.1 a) λc=>O (c,j.2.1,wrap .i64<|j.2.2 - j.2.1))) λo=>O<|.nx (o.1,o.2.1,o.2.2))else(O<|.br (j.1,j.2.1,j.2.2)):aP (Fl (aG aC×Int×Int) Empty))) N (p0,wrap .i64<|p2 - p1,wrap .i64<|p3 - p2)) λad=>ad.cs (λ(j:aG aC×Int×Int)=>D (eW N j.1 (wrap .i64<|p2 - j.2.1) p2 j.2.1 a) λd=>O d)<|λr=>r.elim
def dO(N:Nat)(l:aG aC->Int->Int->Int->(aC->aC->aP Int)->aP (aG aC))(p0:aG aC)(p1 p2 p3:Int)(c:aC->aC->aP Int):aP (aG aC):=
 bif wrap .i64 (p2 - p1)==1 then(D (gh (λ(b:Int×Int)=>(bif b.1<b.2 then(D (A p0<|wrap .i64<|Int.fdiv (wrap .u64<|wrap .i64<|b.1+b.2) 2) λv=>D (A p0 p1) λw=>D (c v w) λx=>D (bif x<0 then O (wrap .i64<|wrap .i64 (Int.fdiv (wrap .u64<|wrap .i64<|b.1+b.2) 2)+1,b.2)else O (b.1,wrap .i64<|Int.fdiv (wrap .u64<|wrap .i64<|b.1+b.2) 2)) λd=>O<|.nx (d.1,d.2))else(O<|.br (b.1,b.2)):aP (Fl (Int×Int) Empty))) N (p2,p3)) λy=>y.cs (λ(b:Int×Int)=>D (gh (λ(o:aG aC×Int)=>(bif o.2<(wrap .i64<|b.1 - 1)then(D (A o.1<|wrap .i64<|o.2+1) λe=>D (A o.1 o.2) λz=>D (A o.1 o.2) λG=>D (A (o.1.set (Int.toNat o.2) e)<|wrap .i64<|o.2+1) λH=>O<|.nx ((o.1.set (Int.toNat o.2) e).set (Int.toNat<|wrap .i64<|o.2+1) z,wrap .i64<|o.2+1))else(O<|.br (o.1,o.2)):aP (Fl (aG aC×Int) Empty))) N (p0,p1)) λB=>B.cs (λ(o:aG aC×Int)=>O o.1)<|λr=>r.elim)<|λr=>r.elim)else(bif wrap .i64 (p3 - p2)==1 then(D (gh (λ(ad:Int×Int)=>(bif ad.1<ad.2 then(D (A p0 p2) λC=>D (A p0<|wrap .i64<|Int.fdiv (wrap .u64<|wrap .i64<|ad.1+ad.2) 2) λE=>D (c C E) λF=>D (bif(!(decide<|F<0))then O (wrap .i64<|wrap .i64 (Int.fdiv (wrap .u64<|wrap .i64<|ad.1+ad.2) 2)+1,ad.2)else O (ad.1,wrap .i64<|Int.fdiv (wrap .u64<|wrap .i64<|ad.1+ad.2) 2)) λag=>O<|.nx (ag.1,ag.2))else(O<|.br (ad.1,ad.2)):aP (Fl (Int×Int) Empty))) N (p1,p2)) λaz=>az.cs (λ(ad:Int×Int)=>D (gh (λ(a:aG aC×Int)=>(bif a.2>ad.1 then(D (A a.1<|wrap .i64<|a.2 - 1) λf=>D (A a.1 a.2) λa0=>D (A a.1 a.2) λI=>D (A (a.1.set (Int.toNat a.2) f)<|wrap .i64<|a.2 - 1) λbc=>O<|.nx ((a.1.set (Int.toNat a.2) f).set (Int.toNat<|wrap .i64<|a.2 - 1) a0,wrap .i64<|a.2 - 1))else(O<|.br (a.1,a.2)):aP (Fl (aG aC×Int) Empty))) N (p0,p2)) λa1=>a1.cs (λ(a:aG aC×Int)=>O a.1)<|λr=>r.elim)<|λr=>r.elim)else(D (bif p2>(wrap .i64<|Int.fdiv (wrap .u64<|wrap .i64<|p1+p3) 2)then O (wrap .i64<|wrap .i64 (wrap .i64 (Int.fdiv (wrap .u64<|wrap .i64<|p1+p3) 2)+p2) - p3,wrap .i64<|Int.fdiv (wrap .u64<|wrap .i64<|p1+p3) 2)else O (p1,p2)) λg=>D (gh (λ(j:Int×Int)=>(bif j.1<j.2 then(D (A p0<|wrap .i64<|wrap .i64 (wrap .i64 (wrap .i64 (Int.fdiv (wrap .u64<|wrap .i64<|p1+p3) 2)+p2) - 1) -(wrap .i64<|Int.fdiv (wrap .u64<|wrap .i64<|j.1+j.2) 2)) λm=>D (A p0<|wrap .i64<|Int.fdiv (wrap .u64<|wrap .i64<|j.1+j.2) 2) λTg=>D (c m Tg) λn=>D (bif(!(decide<|n<0))then O (wrap .i64<|wrap .i64 (Int.fdiv (wrap .u64<|wrap .i64<|j.1+j.2) 2)+1,j.2)else O (j.1,wrap .i64<|Int.fdiv (wrap .u64<|wrap .i64<|j.1+j.2) 2)) λh=>O<|.nx (h.1,h.2))else(O<|.br (j.1,j.2)):aP (Fl (Int×Int) Empty))) N (g.1,g.2)) λp=>p.cs (λ(j:Int×Int)=>D (bif decide (j.1<p2)&&decide (p2< wrap .i64 (wrap .i64 (wrap .i64 (Int.fdiv (wrap .u64<|wrap .i64<|p1+p3) 2)+p2) - j.1))then(D (g8 N p0 j.1 p2 (wrap .i64<|wrap .i64 (wrap .i64 (Int.fdiv (wrap .u64<|wrap .i64<|p1+p3) 2)+p2) - j.1) c) λq=>O q)else O p0) λi=>D (bif decide (p1<j.1)&&decide (j.1< wrap .i64 (Int.fdiv (wrap .u64<|wrap .i64<|p1+p3) 2))then(D (l i p1 j.1 (wrap .i64<|Int.fdiv (wrap .u64<|wrap .i64<|p1+p3) 2) c) λs=>O s)else O i) λk=>D (bif decide (wrap .i64 (Int.fdiv (wrap .u64<|wrap .i64<|p1+p3) 2)< wrap .i64 (wrap .i64 (wrap .i64 (Int.fdiv (wrap .u64<|wrap .i64<|p1+p3) 2)+p2) - j.1))&&decide (wrap .i64 (wrap .i64 (wrap .i64 (Int.fdiv (wrap .u64<|wrap .i64<|p1+p3) 2)+p2) - j.1)<p3)then(D (l k (wrap .i64<|Int.fdiv (wrap .u64<|wrap .i64<|p1+p3) 2) (wrap .i64<|wrap .i64 (wrap .i64 (Int.fdiv (wrap .u64<|wrap .i64<|p1+p3) 2)+p2) - j.1) p3 c) λt=>O t)else O k) λu=>O u)<|λr=>r.elim))
def jF(N:Nat):Nat->aG aC->Int->Int->Int->(aC->aC->aP Int)->aP (aG aC)
 | 0=>λ_ _ _ _ _=>aQ
 |d+1=>dO N (jF N d)
def fB(N:Nat)(p0:aG aC)(p1 p2 p3:Int)(a:aC->aC->aP Int):aP (aG aC):=jF N N p0 p1 p2 p3 a
def kZ(N:Nat)(p0:aG aC)(p1:Int)(p2:aC->aC->aP Int):aP (aG aC):=
 D (gh (λ(o:aG aC×Int×Int)=>(bif o.2.2<=p1 then(D (dN N o.1 o.2.1 o.2.2 p2) λb=>O<|.nx (b,o.2.2,wrap .i64<|o.2.2+20))else(O<|.br (o.1,o.2.1,o.2.2)):aP (Fl (aG aC×Int×Int) Empty))) N (p0,0,20)) λad=>ad.cs (λ(o:aG aC×Int×Int)=>D (dN N o.1 o.2.1 p1 p2) λc=>D (gh (λ(a:aG aC×Int)=>(bif a.2<p1 then(D (gh (λ(j:aG aC×Int×Int)=>(bif j.2.2<=p1 then(D (fB N j.1 j.2.1 (wrap .i64<|j.2.1+a.2) j.2.2 p2) λd=>O<|.nx (d,j.2.2,wrap .i64<|j.2.2+ wrap .i64 (2*a.2)))else(O<|.br (j.1,j.2.1,j.2.2)):aP (Fl (aG aC×Int×Int) Empty))) N (a.1,0,wrap .i64<|2*a.2)) λag=>ag.cs (λ(j:aG aC×Int×Int)=>D (bif wrap .i64 (j.2.1+a.2)<p1 then(D (fB N j.1 j.2.1 (wrap .i64<|j.2.1+a.2) p1 p2) λe=>O e)else O j.1) λf=>O<|.nx (f,wrap .i64<|a.2*2))<|λr=>r.elim)else(O<|.br (a.1,a.2)):aP (Fl (aG aC×Int) Empty))) N (c,20)) λg=>g.cs (λ(a:aG aC×Int)=>O a.1)<|λr=>r.elim)<|λr=>r.elim
def fL(N:Nat)(p0:aG aC)(p1:aC->aC->aP Int):aP (aG aC):=
 D (kZ N p0 (Z p0:Int) p1) λj=>O j
def sY(N:Nat)(p0:Int):aP Bool:=
 O (p0 != p0)
def tD(N:Nat)(p0 p1:Int):aP Int:=
 D (sY N p0) λo=>D (sY N p1) λj=>bif o then(bif j then O 0 else O (-1))else(bif j then O 1 else(bif p0<p1 then O (-1)else(bif p0>p1 then O 1 else O 0)))
def mW(N:Nat)(p0 p1:aC):aP Int:=
 D (tD N p0.Nq p1.Nq) λj=>O j
def xY(N:Nat)(p0:aG Int):aP Int:=
 D (sV (Z p0) (λ(o:Nat)(a:Unit)=>(D (A p0 (o:Int)) λj=>bif j != 0 then O (.rt j)else(O<|.nx ()):aP (Fl Unit Int))) ()) λb=>b.cs (λ(a:Unit)=>O 0)<|λr=>O r
def eZ(N:Nat)(p0 p1:k):aP Int:=
 D (dY N p0.A p1.A) λj=>D (dY N p0.B p1.B) λo=>D (xY N ([j,o]:aG Int)) λa=>O a
def mH(N:Nat)(p0:bV)(p1:ir):aP (aG k):=
 D (lT (Z p0.cD) (λ(y:Nat)(ad:aG k)=>(D (A p0.cD (y:Int)) λe=>D (lT (Z e.aZ) (λ(z:Nat)(j:aG dD)=>(D (A e.aZ (z:Int)) λB=>D (lA N p1 B) λf=>D (bif f>=0 then(D (A p1.cA f) λC=>D (gx 56 j ([C]:aG dD)) λE=>O E)else O j) λaz=>O az:aP (aG dD))) ([]:aG dD)) λj=>D (lT (Z j) (λ(c:Nat)(d:aG aC)=>(D (A j (c:Int)) λg=>D (gh (λ(o:aG aC×Int)=>(bif decide (o.2<(Z j:Int))then(D (A j o.2) λh=>D (pF N g.At.X h.At.X) λa0=>D (pF N g.At.Y h.At.Y) λa1=>D (gx 24 o.1 ([(⟨wrap .i64<|a0+a1,(c:Int),o.2⟩:aC)]:aG aC)) λq=>O<|.nx (q,wrap .i64<|o.2+1))else(O<|.br (o.1,o.2)):aP (Fl (aG aC×Int) Empty))) N (d,wrap .i64<|(c:Int)+1)) λs=>s.cs (λ(o:aG aC×Int)=>O o.1) (λr=>r.elim):aP (aG aC))) ([]:aG aC)) λd=>D (fL N d<|mW N) λi=>D (lk N (Z j:Int)) λt=>D (lT (Z i) (λ(u:Nat)(b:aG k×aG Int)=>(D (A i (u:Int)) λa=>D (eC N b.2 a.i) λl=>D (eC N l.2 a.k) λag=>D (bif l.1 != ag.1 then(D (eV N ag.2 a.i a.k) λv=>D (A j a.i) λm=>D (A j a.k) λn=>D (gx 72 b.1 ([(⟨(⟨m.Part,m.bX⟩:bX),(⟨n.Part,n.bX⟩:bX),aA⟩:k)]:aG k)) λw=>O (w,v))else O (b.1,ag.2)) λp=>O (p.1,p.2):aP (aG k×aG Int))) (ad,t)) λb=>O b.1:aP (aG k))) ([]:aG k)) λad=>D (y4 (eZ N) ad) λx=>O x
def tM(N:Nat)(p0:aG k):aP (aG k×Int):=
 bif decide ((Z p0:Int)>2000)then O (([]:aG k),2)else O (p0,0)
def pG(N:Nat)(p0:aG bD)(p1:bV)(p2:ir):aP (aG k×Int):=
 D (fH N p0 p1 p2) λj=>LP j.1 (bif j.2 != 0 then O (([]:aG k),j.2)else(D (mH N p1 p2) λb=>D (tM N b) λo=>O (o.1,o.2))) (λ(c:(aG (aG z)×aG z×aG cM×aG dD×aG (aG aB)×aG aH×aG (aG Int)×aG bL×aG Int×aG Int×aG Int×aG gL))=>bif j.2 != 0 then O (([]:aG k),j.2)else(D (mH N p1 p2) λad=>D (tM N ad) λa=>O (a.1,a.2)))
def gW(N:Nat)(p0 p1 p2:Int):aP Bool:=
 O (decide (p1<=p0)&&decide (p0<=p2))
def i6(N:Nat)(p0:cU):aP Bool:=
 D (sV (Z p0.eI) (λ(o:Nat)(a:Unit)=>(D (Ni p0 (o:Int)) λj=>D (bif((decide ((j.toNat:Int)<97)||decide ((j.toNat:Int)>122))&&(decide ((j.toNat:Int)<65)||decide ((j.toNat:Int)>90)))&&(decide ((j.toNat:Int)<48)||decide ((j.toNat:Int)>57))then(D (iM N (⟨[95,43,45,35]⟩) (j.toNat:Int)) λb=>O<|decide<|b<0)else O aK) λad=>bif ad then O (.rt aK)else(O<|.nx ()):aP (Fl Unit Bool))) ()) λc=>c.cs (λ(a:Unit)=>D (gW N (Z p0.eI:Int) 1 40) λd=>O d)<|λr=>O r
def ka(N:Nat)(p0:bD):aP Int:=
 D (i6 N p0.Name) λag=>bif(!ag)then O 5 else(bif(Z p0.aZ:Int)==0 then O 9 else(bif decide ((Z p0.aZ:Int)>200)then O 2 else(D (sV (Z p0.aZ) (λ(o:Nat)(e:Unit)=>(D (A p0.aZ (o:Int)) λj=>D (i6 N j.Name) λf=>bif(!f)then O (.rt 5)else(D (gW N j.Kind 1 7) λg=>bif(!g)then O (.rt 4)else(D (gW N j.bL 0 200) λh=>bif(!h)then O (.rt 1)else(D (bif decide ((o:Int)>0)then(D (A p0.aZ<|wrap .i64<|(o:Int) - 1) λb=>O<|j.Name.v7 b.Name||j.Name.sU b.Name)else O aK) λi=>bif i then O (.rt 8)else O (.nx ())))):aP (Fl Unit Int))) ()) λk=>k.cs (λ(e:Unit)=>D (sV (Z p0.aZ) (λ(ad:Nat)(l:Unit)=>(D (A p0.aZ (ad:Int)) λa=>D (wX p0.aZ 0 (ad:Int)) λc=>D (sV (Z c) (λ(m:Nat)(n:Unit)=>(D (A c (m:Int)) λd=>bif(decide (a.bL>0)&&(a.bL==d.bL))&&(a.Kind != d.Kind)then O (.rt 12)else(O<|.nx ()):aP (Fl Unit Int))) ()) λp=>p.cs (λ(n:Unit)=>O<|.nx ()) (λr=>O<|.rt r):aP (Fl Unit Int))) ()) λq=>q.cs (λ(l:Unit)=>O 0)<|λr=>O r)<|λr=>O r)))
def jQ(N:Nat)(p0:aG bD):aP Int:=
 bif decide ((Z p0:Int)>200)then O 2 else(D (sV (Z p0) (λ(j:Nat)(ad:Unit)=>(D (A p0 (j:Int)) λo=>D (ka N o) λa=>bif a != 0 then O (.rt a)else(D (bif decide ((j:Int)>0)then(D (A p0<|wrap .i64<|(j:Int) - 1) λb=>O<|o.Name.v7 b.Name||o.Name.sU b.Name)else O aK) λc=>bif c then O (.rt 8)else O (.nx ())):aP (Fl Unit Int))) ()) λd=>d.cs (λ(ad:Unit)=>O 0)<|λr=>O r)
def kb(N:Nat)(p0:cU):aP Bool:=
 D (oA N p0<|⟨[47]⟩) λj=>D (sV (Z j) (λ(o:Nat)(a:Unit)=>(D (A j (o:Int)) λb=>D (i6 N b) λad=>bif(!ad)then O (.rt aK)else(O<|.nx ()):aP (Fl Unit Bool))) ()) λc=>c.cs (λ(a:Unit)=>O<|decide<|(Z p0.eI:Int)<=200)<|λr=>O r
def lJ(N:Nat)(p0:aG bD)(p1:cU):aP Int:=
 D (sV (Z p0) (λ(j:Nat)(o:Unit)=>(D (A p0 (j:Int)) λa=>bif a.Name.sU p1 then O (.rt (j:Int))else(O<|.nx ()):aP (Fl Unit Int))) ()) λb=>b.cs (λ(o:Unit)=>O<|-1)<|λr=>O r
def n8(N:Nat)(p0:aG Part)(p1:cU):aP Int:=
 D (sV (Z p0) (λ(j:Nat)(o:Unit)=>(D (A p0 (j:Int)) λa=>bif a.Name.sU p1 then O (.rt (j:Int))else(O<|.nx ()):aP (Fl Unit Int))) ()) λb=>b.cs (λ(o:Unit)=>O<|-1)<|λr=>O r
def oK(N:Nat)(p0:bD)(p1:cU):aP Int:=
 D (sV (Z p0.aZ) (λ(j:Nat)(o:Unit)=>(D (A p0.aZ (j:Int)) λa=>bif a.Name.sU p1 then O (.rt (j:Int))else(O<|.nx ()):aP (Fl Unit Int))) ()) λb=>b.cs (λ(o:Unit)=>O<|-1)<|λr=>O r
def n9(N:Nat)(p0:aG bD)(p1:bV)(p2:bX):aP Bool:=
 D (n8 N p1.gH p2.Part) λj=>D (bif j>=0 then(D (A p1.gH j) λo=>D (lJ N p0 o.sJ) λa=>D (A p0 a) λb=>D (oK N b p2.bX) λad=>O<|decide<|ad>=0)else O aK) λc=>O c
def oc(N:Nat)(p0 p1:bX):aP Bool:=
 O (p0.Part.v7 p1.Part||(p0.Part.sU p1.Part&&p0.bX.v7 p1.bX))
def vv(N:Nat)(p0:aG bX)(p1:bX):aP Int:=
 D (sV (Z p0) (λ(j:Nat)(o:Unit)=>(D (A p0 (j:Int)) λa=>bif p1=a then O (.rt (j:Int))else(O<|.nx ()):aP (Fl Unit Int))) ()) λb=>b.cs (λ(o:Unit)=>O<|-1)<|λr=>O r
def oL(N:Nat)(p0:aG bX)(p1:bX):aP Bool:=
 D (vv N p0 p1) λj=>O<|decide<|j>=0
def lK(N:Nat)(p0:aG p4)(p1:bX):aP Bool:=
 D (sV (Z p0) (λ(j:Nat)(o:Unit)=>(D (A p0 (j:Int)) λa=>D (oL N a.aZ p1) λb=>bif b then O (.rt aA)else(O<|.nx ()):aP (Fl Unit Bool))) ()) λad=>ad.cs (λ(o:Unit)=>O aK)<|λr=>O r
def kc(N:Nat)(p0:aG bD)(p1:bV):aP Int:=
 bif decide ((Z p1.gH:Int)>1000)then O 2 else(D (sV (Z p1.gH) (λ(b:Nat)(e:Unit)=>(D (A p1.gH (b:Int)) λo=>D (kb N o.Name) λf=>bif(!f)then O (.rt 5)else(D (lJ N p0 o.sJ) λg=>bif g<0 then O (.rt 9)else(D (bif decide ((b:Int)>0)then(D (A p1.gH<|wrap .i64<|(b:Int) - 1) λd=>O<|o.Name.v7 d.Name||o.Name.sU d.Name)else O aK) λh=>bif h then O (.rt 8)else O (.nx ()))):aP (Fl Unit Int))) ()) λi=>i.cs (λ(e:Unit)=>bif decide ((Z p1.cD:Int)>1000)then O 2 else(D (sV (Z p1.cD) (λ(a:Nat)(k:Unit)=>(D (A p1.cD (a:Int)) λj=>D (kb N j.Name) λl=>bif(!l)then O (.rt 5)else(bif(Z j.aZ:Int)==0 then O (.rt 9)else(bif decide ((Z j.aZ:Int)>500)then O (.rt 2)else(D (sV (Z j.aZ) (λ(ad:Nat)(m:Unit)=>(D (A j.aZ (ad:Int)) λc=>D (n9 N p0 p1 c) λn=>bif(!n)then O (.rt 9)else(D (bif decide ((ad:Int)>0)then(D (A j.aZ<|wrap .i64<|(ad:Int) - 1) λp=>D (oc N p c) λq=>O<|!q)else O aK) λs=>bif s then O (.rt 8)else(D (wX p1.cD 0 (a:Int)) λt=>D (lK N t c) λu=>bif u then O (.rt 7)else O (.nx ()))):aP (Fl Unit Int))) ()) λaz=>az.cs (λ(m:Unit)=>bif decide ((Z j.y5:Int)>0)then O (.rt 3)else(D (bif decide ((a:Int)>0)then(D (A p1.cD<|wrap .i64<|(a:Int) - 1) λag=>O<|j.Name.v7 ag.Name||j.Name.sU ag.Name)else O aK) λa0=>bif a0 then O (.rt 8)else O (.nx ())))<|λr=>O<|.rt r))):aP (Fl Unit Int))) ()) λa1=>a1.cs (λ(k:Unit)=>O 0)<|λr=>O r))<|λr=>O r)
def kd(N:Nat)(p0:aG bD)(p1:bV):aP Int:=
 D (jQ N p0) λj=>bif j != 0 then O j else(D (kc N p0 p1) λo=>O o)
def rE(N:Nat)(p0 p1 p2:Int):aP Bool:=
 O (decide (p0>=p1)&&decide (p0<=p2))
def dI(N:Nat)(p0:Int):aP Bool:=
 D (rE N p0 (-1000000) 1000000) λj=>O j
def jR(N:Nat)(p0:aG z):aP Int:=
 bif decide ((Z p0:Int)>2000)then O 2 else(D (gh (λ(o:Int)=>(bif decide (o<(Z p0:Int))then(D (A p0 o) λj=>D (D (dI N j.X0) λa=>bif(!a)then O aA else(D (dI N j.Y0) λb=>bif(!b)then O aA else(D (dI N j.X1) λad=>bif(!ad)then O aA else(D (dI N j.Y1) λc=>O<|!c)))) λd=>bif d then O (.rt 1)else(bif decide (j.X1<=j.X0)||decide (j.Y1<=j.Y0)then O (.rt 13)else O (.nx<|wrap .i64<|o+1)))else(O<|.br o):aP (Fl Int Int))) N 0) λag=>ag.cs (λ(o:Int)=>O 0)<|λr=>O r)
def ke(N:Nat)(p0 p1:z):aP Bool:=
 O (decide (p0.Y0<p1.Y0)||((p0.Y0==p1.Y0)&&decide (p0.X0<p1.X0)))
def gS(N:Nat)(p0:aG Int)(p1:Int):aP (aG Int):=
 D (gh (λ(j:Int×Int)=>(bif j.1<j.2 then(D (A p0<|wrap .i64<|Int.tdiv (wrap .i64<|j.1+j.2) 2) λa=>D (bif a<p1 then O (wrap .i64<|wrap .i64 (Int.tdiv (wrap .i64<|j.1+j.2) 2)+1,j.2)else O (j.1,wrap .i64<|Int.tdiv (wrap .i64<|j.1+j.2) 2)) λo=>O<|.nx (o.1,o.2))else(O<|.br (j.1,j.2)):aP (Fl (Int×Int) Empty))) N (0,(Z p0:Int))) λb=>b.cs (λ(j:Int×Int)=>D (bif decide (j.1<(Z p0:Int))then(D (A p0 j.1) λad=>O<|ad==p1)else O aK) λc=>bif c then O p0 else(D (wX p0 0 j.1) λd=>D (gx 8 ([]:aG Int) d) λag=>D (gx 8 ag ([p1]:aG Int)) λe=>D (wX p0 j.1 (Z p0:Int)) λf=>D (gx 8 e f) λg=>O g))<|λr=>r.elim
def jJ(N:Nat)(p0:aG z):aP (aG Int):=
 D (gh (λ(j:aG Int×Int)=>(bif decide (j.2<(Z p0:Int))then(D (A p0 j.2) λo=>D (A p0 j.2) λa=>D (gS N j.1 o.Y0) λb=>D (gS N b a.Y1) λad=>O<|.nx (ad,wrap .i64<|j.2+1))else(O<|.br (j.1,j.2)):aP (Fl (aG Int×Int) Empty))) N (([]:aG Int),0)) λc=>c.cs (λ(j:aG Int×Int)=>O j.1)<|λr=>r.elim
def kf(N:Nat)(p0:aG aI)(p1:aI):aP (aG aI):=
 D (gh (λ(o:aG aI×Int)=>(D (bif decide (o.2<(Z p0:Int))then(D (A p0 o.2) λad=>O<|decide<|ad.to<p1.from_)else O aK) λc=>bif c then(D (A p0 o.2) λd=>D (gx 16 o.1 ([d]:aG aI)) λag=>O<|.nx (ag,wrap .i64<|o.2+1))else(O<|.br (o.1,o.2)):aP (Fl (aG aI×Int) Empty))) N (([]:aG aI),0)) λe=>e.cs (λ(o:aG aI×Int)=>D (gh (λ(j:aI×Int)=>(D (bif decide (j.2<(Z p0:Int))then(D (A p0 j.2) λf=>O<|decide<|f.from_<=j.1.to)else O aK) λg=>bif g then(D (A p0 j.2) λa=>D (A p0 j.2) λb=>O<|.nx ({{j.1 with from_:=(if a.from_<j.1.from_ then a.from_ else j.1.from_)}with to:=(if j.1.to<b.to then b.to else j.1.to)},wrap .i64<|j.2+1))else(O<|.br (j.1,j.2)):aP (Fl (aI×Int) Empty))) N (p1,o.2)) λh=>h.cs (λ(j:aI×Int)=>D (gx 16 o.1 ([j.1]:aG aI)) λi=>D (wX p0 j.2 (Z p0:Int)) λk=>D (gx 16 i k) λl=>O l)<|λr=>r.elim)<|λr=>r.elim
def jG(N:Nat)(p0:aG z)(p1:Int):aP (aG aI):=
 D (gh (λ(j:aG aI×Int)=>(bif decide (j.2<(Z p0:Int))then(D (D (A p0 j.2) λo=>bif o.Y0<=p1 then(D (A p0 j.2) λa=>O<|decide<|p1<a.Y1)else O aK) λb=>D (bif b then(D (A p0 j.2) λad=>D (A p0 j.2) λc=>D (kf N j.1 (⟨ad.X0,c.X1⟩:aI)) λd=>O d)else O j.1) λag=>O<|.nx (ag,wrap .i64<|j.2+1))else(O<|.br (j.1,j.2)):aP (Fl (aG aI×Int) Empty))) N (([]:aG aI),0)) λe=>e.cs (λ(j:aG aI×Int)=>O j.1)<|λr=>r.elim
def lY(N:Nat)(p0:aG aI)(p1:aG aI):aP Bool:=
 bif(Z p0:Int) != (Z p1:Int)then O aK else(D (gh (λ(j:Int)=>(bif decide (j<(Z p0:Int))then(D (A p0 j) λo=>D (A p1 j) λa=>bif(!(decide<|o=a))then O (.rt aK)else O (.nx<|wrap .i64<|j+1))else(O<|.br j):aP (Fl Int Bool))) N 0) λb=>b.cs (λ(j:Int)=>O aA)<|λr=>O r)
def iF(N:Nat)(p0:aG aU)(p1:aU):aP (aG aU):=
 bif(Z p1.mm:Int)==0 then O p0 else(D (bif decide ((Z p0:Int)>0)then(D (A p0<|wrap .i64<|(Z p0:Int) - 1) λj=>bif j.to==p1.from_ then(D (A p0<|wrap .i64<|(Z p0:Int) - 1) λo=>D (lY N o.mm p1.mm) λa=>O a)else O aK)else O aK) λb=>bif b then(D (A p0<|wrap .i64<|(Z p0:Int) - 1) λad=>O<|p0.set (Int.toNat<|wrap .i64<|(Z p0:Int) - 1)<|{ad with to:=p1.to})else(D (gx 40 p0 ([p1]:aG aU)) λc=>O c))
def ln(N:Nat)(p0:aG aU):aP (aG z):=
 D (gh (λ(j:aG z×Int)=>(bif decide (j.2<(Z p0:Int))then(D (gh (λ(o:aG z×Int)=>(D (A p0 j.2) λa=>bif decide (o.2<(Z a.mm:Int))then(D (A p0 j.2) λb=>D (A b.mm o.2) λad=>D (A p0 j.2) λc=>D (A p0 j.2) λd=>D (A d.mm o.2) λag=>D (A p0 j.2) λe=>D (gx 32 o.1 ([(⟨ad.from_,c.from_,ag.to,e.to⟩:z)]:aG z)) λf=>O<|.nx (f,wrap .i64<|o.2+1))else(O<|.br (o.1,o.2)):aP (Fl (aG z×Int) Empty))) N (j.1,0)) λg=>g.cs (λ(o:aG z×Int)=>O<|.nx (o.1,wrap .i64<|j.2+1))<|λr=>r.elim)else(O<|.br (j.1,j.2)):aP (Fl (aG z×Int) Empty))) N (([]:aG z),0)) λh=>h.cs (λ(j:aG z×Int)=>O j.1)<|λr=>r.elim
def gM(N:Nat)(p0:aG z):aP (aG z):=
 D (jJ N p0) λo=>D (gh (λ(j:aG aU×Int)=>(bif decide (j.2<(Z o:Int))then(D (A o<|wrap .i64<|j.2 - 1) λa=>D (A o j.2) λb=>D (A o<|wrap .i64<|j.2 - 1) λad=>D (jG N p0 ad) λc=>D (iF N j.1 (⟨a,b,c⟩:aU)) λd=>O<|.nx (d,wrap .i64<|j.2+1))else(O<|.br (j.1,j.2)):aP (Fl (aG aU×Int) Empty))) N (([]:aG aU),1)) λag=>ag.cs (λ(j:aG aU×Int)=>D (ln N j.1) λe=>O e)<|λr=>r.elim
def lZ(N:Nat)(p0:aG z)(p1:aG z):aP Bool:=
 bif(Z p0:Int) != (Z p1:Int)then O aK else(D (gh (λ(j:Int)=>(bif decide (j<(Z p0:Int))then(D (A p0 j) λo=>D (A p1 j) λa=>bif(!(decide<|o=a))then O (.rt aK)else O (.nx<|wrap .i64<|j+1))else(O<|.br j):aP (Fl Int Bool))) N 0) λb=>b.cs (λ(j:Int)=>O aA)<|λr=>O r)
def g9(N:Nat)(p0:aG z):aP Int:=
 D (jR N p0) λo=>bif o != 0 then O o else(D (gh (λ(j:Int)=>(bif decide (j<(Z p0:Int))then(D (A p0<|wrap .i64<|j - 1) λa=>D (A p0 j) λb=>D (ke N a b) λad=>bif(!ad)then O (.rt 8)else O (.nx<|wrap .i64<|j+1))else(O<|.br j):aP (Fl Int Int))) N 1) λc=>c.cs (λ(j:Int)=>D (gM N p0) λd=>D (lZ N p0 d) λag=>bif(!ag)then O 3 else O 0)<|λr=>O r)
def fD(N:Nat)(p0 p1 p2:Int):aP Bool:=
 O (decide (p0>=p1)&&decide (p0<=p2))
def iG(N:Nat)(p0:dP):aP Bool:=
 D (D (dI N p0.X) λj=>bif j then(D (dI N p0.Y) λo=>O o)else O aK) λa=>O a
def dA(N:Nat)(p0:cM):aP z:=
 O (⟨wrap .i64<|p0.At.X -(wrap .i64<|Int.tdiv p0.gK 2),wrap .i64<|p0.At.Y -(wrap .i64<|Int.tdiv p0.gK 2),wrap .i64<|wrap .i64 (p0.At.X -(wrap .i64<|Int.tdiv p0.gK 2))+p0.gK,wrap .i64<|wrap .i64 (p0.At.Y -(wrap .i64<|Int.tdiv p0.gK 2))+p0.gK⟩:z)
def jw(N:Nat)(p0:cM):aP Int:=
 D (D (fD N p0.gK 1 10000) λo=>bif(!o)then O aA else(D (iG N p0.At) λa=>O<|!a)) λb=>bif b then O 1 else(D (dA N p0) λj=>D (D (dI N j.X0) λad=>bif(!ad)then O aA else(D (dI N j.Y0) λc=>bif(!c)then O aA else(D (dI N j.X1) λd=>bif(!d)then O aA else(D (dI N j.Y1) λag=>O<|!ag)))) λe=>bif e then O 1 else O 0)
def i7(N:Nat)(p0:cU):aP Bool:=
 D (gh (λ(o:Int)=>(bif decide (o<(Z p0.eI:Int))then(D (Ni p0 o) λj=>D (bif(!(((decide ((j.toNat:Int)>=97)&&decide ((j.toNat:Int)<=122))||(decide ((j.toNat:Int)>=65)&&decide ((j.toNat:Int)<=90)))||(decide ((j.toNat:Int)>=48)&&decide ((j.toNat:Int)<=57))))then(D (iM N (⟨[95,43,45,35]⟩) (j.toNat:Int)) λa=>O<|decide<|a<0)else O aK) λb=>bif b then O (.rt aK)else O (.nx<|wrap .i64<|o+1))else(O<|.br o):aP (Fl Int Bool))) N 0) λad=>ad.cs (λ(o:Int)=>D (fD N (Z p0.eI:Int) 1 40) λc=>O c)<|λr=>O r
def lL(N:Nat)(p0:cU):aP Bool:=
 D (oA N p0<|⟨[47]⟩) λo=>D (gh (λ(j:Int)=>(bif decide (j<(Z o:Int))then(D (A o j) λa=>D (i7 N a) λb=>bif(!b)then O (.rt aK)else O (.nx<|wrap .i64<|j+1))else(O<|.br j):aP (Fl Int Bool))) N 0) λad=>ad.cs (λ(j:Int)=>O<|decide<|(Z p0.eI:Int)<=200)<|λr=>O r
def kh(N:Nat)(p0:ir)(p1:Int):aP Int:=
 D (A p0.cA p1) λj=>D (D (lL N j.Part) λa=>bif(!a)then O aA else(D (i7 N j.bX) λb=>O<|!b)) λad=>bif ad then O 5 else(D (D (fD N j.cR 0<|wrap .i64<|(Z p0.aS:Int) - 1) λc=>bif(!c)then O aA else(D (iG N j.At) λd=>O<|!d)) λag=>bif ag then O 1 else(bif p1>0 then(D (A p0.cA<|wrap .i64<|p1 - 1) λo=>bif j.Part.v7 o.Part||(j.Part.sU o.Part&&(j.bX.v7 o.bX||j.bX.sU o.bX))then O 8 else O 0)else O 0))
def jS(N:Nat)(p0:ir):aP Int:=
 bif(Z p0.aS:Int)==0 then O 9 else(bif decide ((Z p0.aS:Int)>16)then O 2 else(D (gh (λ(j:Int×Int)=>(bif decide (j.2<(Z p0.aS:Int))then(D (A p0.aS j.2) λe=>D (g9 N e) λad=>bif ad != 0 then O (.rt ad)else(D (A p0.aS j.2) λf=>O<|.nx (wrap .i64<|j.1+(Z f:Int),wrap .i64<|j.2+1)))else(O<|.br (j.1,j.2)):aP (Fl (Int×Int) Int))) N ((Z p0.cZ:Int),0)) λg=>g.cs (λ(j:Int×Int)=>D (g9 N p0.cZ) λc=>bif c != 0 then O c else(D (bif j.1>2000 then O aA else O (decide<|(Z p0.aX:Int)>500)) λh=>bif h then O 2 else(D (gh (λ(o:Int)=>(bif decide (o<(Z p0.aX:Int))then(D (A p0.aX o) λb=>D (jw N b) λd=>bif d != 0 then O (.rt d)else(D (D (fD N b.dC 0<|wrap .i64<|(Z p0.aS:Int) - 1) λi=>bif(!i)then O aA else(D (fD N b.To b.dC<|wrap .i64<|(Z p0.aS:Int) - 1) λk=>O<|!k)) λl=>bif l then O (.rt 1)else O (.nx<|wrap .i64<|o+1)))else(O<|.br o):aP (Fl Int Int))) N 0) λm=>m.cs (λ(o:Int)=>bif decide ((Z p0.cA:Int)>1000)then O 2 else(D (gh (λ(a:Int)=>(bif decide (a<(Z p0.cA:Int))then(D (kh N p0 a) λag=>bif ag != 0 then O (.rt ag)else O (.nx<|wrap .i64<|a+1))else(O<|.br a):aP (Fl Int Int))) N 0) λn=>n.cs (λ(a:Int)=>O 0)<|λr=>O r))<|λr=>O r)))<|λr=>O r))
def ki(N:Nat)(p0 p1:cM):aP Bool:=
 O (decide (p0.dC<=p1.To)&&decide (p1.dC<=p0.To))
def iH(N:Nat)(p0 p1:z):aP Bool:=
 D (bif(if p1.X1<p0.X1 then p1.X1 else p0.X1)>(if p0.X0<p1.X0 then p1.X0 else p0.X0)then O (decide<|(if p1.Y1<p0.Y1 then p1.Y1 else p0.Y1)>(if p0.Y0<p1.Y0 then p1.Y0 else p0.Y0))else O aK) λj=>O j
def gI(N:Nat)(p0:cM)(p1:Int):aP Bool:=
 O (decide (p0.dC<=p1)&&decide (p1<=p0.To))
def i9(N:Nat)(p0:aG aI)(p1:Int):aP Bool:=
 D (gh (λ(j:Int)=>(bif decide (j<(Z p0:Int))then(D (D (A p0 j) λo=>bif o.from_<=p1 then(D (A p0 j) λa=>O<|decide<|p1<a.to)else O aK) λb=>bif b then O (.rt aA)else O (.nx<|wrap .i64<|j+1))else(O<|.br j):aP (Fl Int Bool))) N 0) λad=>ad.cs (λ(j:Int)=>O aK)<|λr=>O r
def mn(N:Nat)(p0:aG aI)(p1:aG aI)(p2:Int):aP (aG aI):=
 D (gh (λ(a:aG Int×Int)=>(bif decide (a.2<(Z p0:Int))then(D (A p0 a.2) λc=>D (A p0 a.2) λd=>D (gS N a.1 c.from_) λag=>D (gS N ag d.to) λe=>O<|.nx (e,wrap .i64<|a.2+1))else(O<|.br (a.1,a.2)):aP (Fl (aG Int×Int) Empty))) N (([]:aG Int),0)) λf=>f.cs (λ(a:aG Int×Int)=>D (gh (λ(j:aG Int×Int)=>(bif decide (j.2<(Z p1:Int))then(D (A p1 j.2) λg=>D (A p1 j.2) λh=>D (gS N j.1 g.from_) λi=>D (gS N i h.to) λk=>O<|.nx (k,wrap .i64<|j.2+1))else(O<|.br (j.1,j.2)):aP (Fl (aG Int×Int) Empty))) N (a.1,0)) λl=>l.cs (λ(j:aG Int×Int)=>D (gh (λ(o:aG aI×Int)=>(bif decide (o.2<(Z j.1:Int))then(D (A j.1<|wrap .i64<|o.2 - 1) λm=>D (A j.1<|wrap .i64<|o.2 - 1) λn=>D (i9 N p0 m) λb=>D (i9 N p1 n) λad=>D (bif(((p2==1)&&(b||ad))||(((p2==2)&&b)&&ad))||(((p2==3)&&b)&&(!ad))then(D (A j.1<|wrap .i64<|o.2 - 1) λp=>D (A j.1 o.2) λq=>D (kf N o.1 (⟨p,q⟩:aI)) λs=>O s)else O o.1) λt=>O<|.nx (t,wrap .i64<|o.2+1))else(O<|.br (o.1,o.2)):aP (Fl (aG aI×Int) Empty))) N (([]:aG aI),1)) λu=>u.cs (λ(o:aG aI×Int)=>O o.1)<|λr=>r.elim)<|λr=>r.elim)<|λr=>r.elim
def jo(N:Nat)(p0:aG z)(p1:aG z)(p2:Int):aP (aG z):=
 D (gx 32 ([]:aG z) p0) λa=>D (gx 32 a p1) λb=>D (jJ N b) λo=>D (gh (λ(j:aG aU×Int)=>(bif decide (j.2<(Z o:Int))then(D (A o<|wrap .i64<|j.2 - 1) λad=>D (A o j.2) λc=>D (A o<|wrap .i64<|j.2 - 1) λd=>D (A o<|wrap .i64<|j.2 - 1) λag=>D (jG N p0 d) λe=>D (jG N p1 ag) λf=>D (mn N e f p2) λg=>D (iF N j.1 (⟨ad,c,g⟩:aU)) λh=>O<|.nx (h,wrap .i64<|j.2+1))else(O<|.br (j.1,j.2)):aP (Fl (aG aU×Int) Empty))) N (([]:aG aU),1)) λi=>i.cs (λ(j:aG aU×Int)=>D (ln N j.1) λk=>O k)<|λr=>r.elim
def nj(N:Nat)(p0:aG z)(p1:aG z):aP (aG z):=
 D (jo N p0 p1 3) λj=>O j
def iT(N:Nat)(p0:ir)(p1:Int):aP (aG z):=
 D (gh (λ(j:aG z×Int)=>(bif decide (j.2<(Z p0.aX:Int))then(D (A p0.aX j.2) λo=>D (gI N o p1) λa=>D (bif a then(D (A p0.aX j.2) λb=>D (dA N b) λad=>D (gx 32 j.1 ([ad]:aG z)) λc=>O c)else O j.1) λd=>O<|.nx (d,wrap .i64<|j.2+1))else(O<|.br (j.1,j.2)):aP (Fl (aG z×Int) Empty))) N (([]:aG z),0)) λag=>ag.cs (λ(j:aG z×Int)=>D (A p0.aS p1) λe=>D (gM N j.1) λf=>D (nj N e f) λg=>O g)<|λr=>r.elim
def kN(N:Nat)(p0 p1:z):aP Bool:=
 O ((decide (wrap .i64 ((if p1.X1<p0.X1 then p1.X1 else p0.X1) -(if p0.X0<p1.X0 then p1.X0 else p0.X0))>0)&&decide (wrap .i64 ((if p1.Y1<p0.Y1 then p1.Y1 else p0.Y1) -(if p0.Y0<p1.Y0 then p1.Y0 else p0.Y0))>=0))||(decide (wrap .i64 ((if p1.X1<p0.X1 then p1.X1 else p0.X1) -(if p0.X0<p1.X0 then p1.X0 else p0.X0))>=0)&&decide (wrap .i64 ((if p1.Y1<p0.Y1 then p1.Y1 else p0.Y1) -(if p0.Y0<p1.Y0 then p1.Y0 else p0.Y0))>0)))
def lM(N:Nat)(p0:aG (aG z))(p1:aG z):aP (aG<|aG z):=
 D (gh (λ(j:Int)=>(D (bif j>0 then(D (A p1 0) λo=>D (A p0<|wrap .i64<|j - 1) λa=>D (A a 0) λb=>D (ke N o b) λad=>O ad)else O aK) λc=>bif c then O (.nx<|wrap .i64<|j - 1)else(O<|.br j):aP (Fl Int Empty))) N (Z p0:Int)) λd=>d.cs (λ(j:Int)=>D (wX p0 0 j) λag=>D (gx 24 ([]:aG (aG z)) ag) λe=>D (gx 24 e ([p1]:aG (aG z))) λf=>D (wX p0 j (Z p0:Int)) λg=>D (gx 24 f g) λh=>O h)<|λr=>r.elim
def ik(N:Nat)(p0:aG z):aP (aG<|aG z):=
 D (mk 1 (aK:Bool) (Z p0:Int)) λad=>D (gh (λ(o:aG Bool×aG (aG z)×Int)=>(bif decide (o.2.2<(Z p0:Int))then(D (A o.1 o.2.2) λc=>bif c then O (.nx (o.1,o.2.1,wrap .i64<|o.2.2+1))else(D (A o.1 o.2.2) λs=>D (A p0 o.2.2) λd=>D (gh (λ(a:aG Bool×aG z×Int)=>(bif decide (a.2.2<(Z a.2.1:Int))then(D (gh (λ(j:aG Bool×aG z×Int)=>(bif decide (j.2.2<(Z p0:Int))then(D (D (A j.1 j.2.2) λag=>bif(!ag)then(D (A j.2.1 a.2.2) λe=>D (A p0 j.2.2) λf=>D (kN N e f) λg=>O g)else O aK) λh=>D (bif h then(D (A j.1 j.2.2) λt=>D (A p0 j.2.2) λi=>D (gx 32 j.2.1 ([i]:aG z)) λk=>O (j.1.set (Int.toNat j.2.2) aA,k))else O (j.1,j.2.1)) λb=>O<|.nx (b.1,b.2,wrap .i64<|j.2.2+1))else(O<|.br (j.1,j.2.1,j.2.2)):aP (Fl (aG Bool×aG z×Int) Empty))) N (a.1,a.2.1,0)) λl=>l.cs (λ(j:aG Bool×aG z×Int)=>O<|.nx (j.1,j.2.1,wrap .i64<|a.2.2+1))<|λr=>r.elim)else(O<|.br (a.1,a.2.1,a.2.2)):aP (Fl (aG Bool×aG z×Int) Empty))) N (o.1.set (Int.toNat o.2.2) aA,([d]:aG z),0)) λm=>m.cs (λ(a:aG Bool×aG z×Int)=>D (gM N a.2.1) λn=>D (lM N o.2.1 n) λp=>O<|.nx (a.1,p,wrap .i64<|o.2.2+1))<|λr=>r.elim))else(O<|.br (o.1,o.2.1,o.2.2)):aP (Fl (aG Bool×aG (aG z)×Int) Empty))) N (ad,([]:aG (aG z)),0)) λq=>q.cs (λ(o:aG Bool×aG (aG z)×Int)=>O o.2.1)<|λr=>r.elim
def gr(N:Nat)(p0:ir):aP Int:=
 D (jS N p0) λb=>bif b != 0 then O b else(D (gh (λ(o:Int)=>(bif decide (o<(Z p0.aX:Int))then(D (gh (λ(a:Int)=>(bif a<o then(D (D (A p0.aX o) λc=>D (A p0.aX a) λd=>D (ki N c d) λag=>bif ag then(D (A p0.aX o) λe=>D (A p0.aX a) λf=>D (dA N e) λg=>D (dA N f) λh=>D (iH N g h) λi=>O i)else O aK) λk=>bif k then O (.rt 12)else O (.nx<|wrap .i64<|a+1))else(O<|.br a):aP (Fl Int Int))) N 0) λl=>l.cs (λ(a:Int)=>O<|.nx<|wrap .i64<|o+1)<|λr=>O<|.rt r)else(O<|.br o):aP (Fl Int Int))) N 0) λm=>m.cs (λ(o:Int)=>D (gh (λ(j:Int×Int)=>(bif decide (j.2<(Z p0.aS:Int))then(D (iT N p0 j.2) λad=>bif decide ((Z ad:Int)>2000)then O (.rt 2)else(D (ik N ad) λn=>O<|.nx (wrap .i64<|j.1+(Z n:Int),wrap .i64<|j.2+1)))else(O<|.br (j.1,j.2)):aP (Fl (Int×Int) Int))) N (0,0)) λp=>p.cs (λ(j:Int×Int)=>bif j.1>2000 then O 2 else O 0)<|λr=>O r)<|λr=>O r)
def eN(N:Nat)(p0:aG bD)(p1:bV)(p2:ir):aP Int:=
 D (kd N p0 p1) λj=>bif j != 0 then O j else(D (gr N p2) λo=>O o)
def jB(N:Nat)(p0:ir)(p1:bX):aP Int:=
 D (gh (λ(j:Int)=>(bif decide (j<(Z p0.cA:Int))then(D (D (A p0.cA j) λo=>bif o.Part.sU p1.Part then(D (A p0.cA j) λa=>O<|a.bX.sU p1.bX)else O aK) λb=>bif b then O (.rt j)else O (.nx<|wrap .i64<|j+1))else(O<|.br j):aP (Fl Int Int))) N 0) λad=>ad.cs (λ(j:Int)=>O<|-1)<|λr=>O r
def mX(N:Nat)(p0 p1:dP):aP Int:=
 O (wrap .i64<|(if wrap .i64 (p0.X - p1.X)<(wrap .i64<|p1.X - p0.X)then wrap .i64 (p1.X - p0.X)else wrap .i64 (p0.X - p1.X))+(if wrap .i64 (p0.Y - p1.Y)<(wrap .i64<|p1.Y - p0.Y)then wrap .i64 (p1.Y - p0.Y)else wrap .i64 (p0.Y - p1.Y)))
def iC(N:Nat)(p0 p1:bX):aP Bool:=
 O (p0.Part.v7 p1.Part||(p0.Part.sU p1.Part&&p0.bX.v7 p1.bX))
def kj(N:Nat)(p0 p1:k):aP Bool:=
 D (D (iC N p0.A p1.A) λj=>bif j then O aA else(bif p0.A=p1.A then(D (iC N p0.B p1.B) λo=>O o)else O aK)) λa=>O a
def gA(N:Nat)(p0:aG k)(p1:k):aP (aG k):=
 D (gh (λ(j:Int)=>(D (bif j>0 then(D (A p0<|wrap .i64<|j - 1) λo=>D (kj N p1 o) λa=>O a)else O aK) λb=>bif b then O (.nx<|wrap .i64<|j - 1)else(O<|.br j):aP (Fl Int Empty))) N (Z p0:Int)) λad=>ad.cs (λ(j:Int)=>D (wX p0 0 j) λc=>D (gx 72 ([]:aG k) c) λd=>D (gx 72 d ([p1]:aG k)) λag=>D (wX p0 j (Z p0:Int)) λe=>D (gx 72 ag e) λf=>O f)<|λr=>r.elim
def kO(N:Nat)(p0:ir)(p1:aG bX):aP (aG k):=
 D (gh (λ(o:aG bA×Int)=>(bif decide (o.2<(p1.length:Int))then(D (gh (λ(a:aG bA×Int)=>(bif decide (a.2<(p1.length:Int))then(D (A p1 o.2) λq=>D (jB N p0 q) λs=>D (A p0.cA s) λt=>D (A p1 a.2) λu=>D (jB N p0 u) λv=>D (A p0.cA v) λw=>D (mX N t.At w.At) λd=>D (gh (λ(c:Int)=>(D (bif c>0 then(D (A a.1<|wrap .i64<|c - 1) λx=>O<|decide<|x.length>(⟨d,o.2,a.2⟩:bA).length)else O aK) λy=>bif y then O (.nx<|wrap .i64<|c - 1)else(O<|.br c):aP (Fl Int Empty))) N (a.1.length:Int)) λz=>z.cs (λ(c:Int)=>D (wX a.1 0 c) λB=>D (gx 24 ([]:aG bA) B) λC=>D (gx 24 C ([(⟨d,o.2,a.2⟩:bA)]:aG bA)) λE=>D (wX a.1 c (a.1.length:Int)) λF=>D (gx 24 E F) λaz=>O<|.nx (az,wrap .i64<|a.2+1))<|λr=>r.elim)else(O<|.br (a.1,a.2)):aP (Fl (aG bA×Int) Empty))) N (o.1,wrap .i64<|o.2+1)) λa0=>a0.cs (λ(a:aG bA×Int)=>O<|.nx (a.1,wrap .i64<|o.2+1))<|λr=>r.elim)else(O<|.br (o.1,o.2)):aP (Fl (aG bA×Int) Empty))) N (([]:aG bA),0)) λa1=>a1.cs (λ(o:aG bA×Int)=>D (mk 8 (0:Int) (p1.length:Int)) λf=>D (gh (λ(ad:aG Int×Int)=>(bif decide (ad.2<(ad.1.length:Int))then(D (A ad.1 ad.2) λJ=>O<|.nx (ad.1.set (Int.toNat ad.2) ad.2,wrap .i64<|ad.2+1))else(O<|.br (ad.1,ad.2)):aP (Fl (aG Int×Int) Empty))) N (f,0)) λg=>g.cs (λ(ad:aG Int×Int)=>D (gh (λ(j:aG Int×aG k×Int)=>(bif decide (j.2.2<(o.1.length:Int))then(D (A o.1 j.2.2) λh=>D (A j.1 h.a) λag=>D (A o.1 j.2.2) λi=>D (A j.1 i.b) λe=>bif ag==e then O (.nx (j.1,j.2.1,wrap .i64<|j.2.2+1))else(D (A o.1 j.2.2) λl=>D (A p1 l.a) λm=>D (A o.1 j.2.2) λn=>D (A p1 n.b) λp=>D (gA N j.2.1 (⟨m,p,aA⟩:k)) λG=>D (gh (λ(b:aG Int×Int)=>(bif decide (b.2<(b.1.length:Int))then(D (A b.1 b.2) λH=>D (bif H==e then(D (A b.1 b.2) λK=>O<|b.1.set (Int.toNat b.2) ag)else O b.1) λbc=>O<|.nx (bc,wrap .i64<|b.2+1))else(O<|.br (b.1,b.2)):aP (Fl (aG Int×Int) Empty))) N (j.1,0)) λbd=>bd.cs (λ(b:aG Int×Int)=>O<|.nx (b.1,G,wrap .i64<|j.2.2+1))<|λr=>r.elim))else(O<|.br (j.1,j.2.1,j.2.2)):aP (Fl (aG Int×aG k×Int) Empty))) N (ad.1,([]:aG k),0)) λI=>I.cs (λ(j:aG Int×aG k×Int)=>O j.2.1)<|λr=>r.elim)<|λr=>r.elim)<|λr=>r.elim
def ja(N:Nat)(p0:bV)(p1:ir):aP (aG k):=
 D (gh (λ(j:aG k×Int)=>(bif decide (j.2<(Z p0.cD:Int))then(D (gh (λ(o:aG bX×Int)=>(D (A p0.cD j.2) λad=>bif decide (o.2<(Z ad.aZ:Int))then(D (A p0.cD j.2) λc=>D (A c.aZ o.2) λd=>D (jB N p1 d) λag=>D (bif ag>=0 then(D (A p0.cD j.2) λe=>D (A e.aZ o.2) λf=>D (gx 32 o.1 ([f]:aG bX)) λg=>O g)else O o.1) λh=>O<|.nx (h,wrap .i64<|o.2+1))else(O<|.br (o.1,o.2)):aP (Fl (aG bX×Int) Empty))) N (([]:aG bX),0)) λi=>i.cs (λ(o:aG bX×Int)=>D (kO N p1 o.1) λb=>D (gh (λ(a:aG k×Int)=>(bif decide (a.2<(Z b:Int))then(D (A b a.2) λl=>D (gA N a.1 l) λm=>O<|.nx (m,wrap .i64<|a.2+1))else(O<|.br (a.1,a.2)):aP (Fl (aG k×Int) Empty))) N (j.1,0)) λn=>n.cs (λ(a:aG k×Int)=>O<|.nx (a.1,wrap .i64<|j.2+1))<|λr=>r.elim)<|λr=>r.elim)else(O<|.br (j.1,j.2)):aP (Fl (aG k×Int) Empty))) N (([]:aG k),0)) λp=>p.cs (λ(j:aG k×Int)=>O j.1)<|λr=>r.elim
def jq(N:Nat)(p0:aG k):aP (aG k×Int):=
 bif decide ((Z p0:Int)>2000)then O (([]:aG k),2)else O (p0,0)
def gX(N:Nat)(p0:aG bD)(p1:bV)(p2:ir):aP (aG k×Int):=
 D (eN N p0 p1 p2) λj=>bif j != 0 then O (([]:aG k),j)else(D (ja N p1 p2) λa=>D (jq N a) λo=>O (o.1,o.2))
def l5(N:Nat)(p0:aG k)(p1:aG k):aP Bool:=
 bif(Z p0:Int) != (Z p1:Int)then O aK else(D (sV (Z p0) (λ(j:Nat)(o:Unit)=>(D (A p0 (j:Int)) λa=>D (A p1 (j:Int)) λb=>bif(!(decide<|a=b))then O (.rt aK)else(O<|.nx ()):aP (Fl Unit Bool))) ()) λad=>ad.cs (λ(o:Unit)=>O aA)<|λr=>O r)
def pK(N:Nat)(p0 p1 p2:Int):aP Bool:=
 O (decide (p0>=p1)&&decide (p0<=p2))
def gu(N:Nat)(p0:aG bD)(p1:bV)(p2:ir)(p3:Int):aP (aP (aG (aG z)×aG z×aG cM×aG dD×aG (aG aB)×aG aH×aG (aG Int)×aG bL×aG Int×aG Int×aG Int×aG gL)×Int):=
 D (fH N p0 p1 p2) λo=>LP o.1 (bif o.2 != 0 then O (aQ,o.2)else(D (pK N p3 0 100000) λa=>bif(!a)then O (aQ,1)else O (aQ,0))) (λ(j:(aG (aG z)×aG z×aG cM×aG dD×aG (aG aB)×aG aH×aG (aG Int)×aG bL×aG Int×aG Int×aG Int×aG gL))=>bif o.2 != 0 then O (aQ,o.2)else(D (pK N p3 0 100000) λb=>bif(!b)then O (aQ,1)else O (O (j.1,j.2.1,j.2.2.1,j.2.2.2.1,j.2.2.2.2.1,j.2.2.2.2.2.1,j.2.2.2.2.2.2.1,j.2.2.2.2.2.2.2.1,j.2.2.2.2.2.2.2.2.1,j.2.2.2.2.2.2.2.2.2.1,j.2.2.2.2.2.2.2.2.2.2.1,j.2.2.2.2.2.2.2.2.2.2.2),0)))
def pL(N:Nat)(p0:bV):aP (aG<|bX×Int):=
 D (lT (Z p0.cD) (λ(a:Nat)(j:aG (bX×Int))=>(D (A p0.cD (a:Int)) λb=>D (lT (Z b.aZ) (λ(ad:Nat)(o:aG (bX×Int))=>(D (A b.aZ (ad:Int)) λc=>O (oO o c (a:Int)):aP (aG<|bX×Int))) j) λo=>O o:aP (aG<|bX×Int))) ([]:aG (bX×Int))) λj=>O j
def xZ(N:Nat)(p0 p1:z)(p2:Int):aP dP:=
 O (⟨(if p0.X0<(wrap .i64<|p1.X0 - p2)then wrap .i64 (p1.X0 - p2)else p0.X0),(if p0.Y0<(wrap .i64<|p1.Y0 - p2)then wrap .i64 (p1.Y0 - p2)else p0.Y0)⟩:dP)
def x6(N:Nat)(p0 p1:dP):aP Bool:=
 O (decide (p0.Y<p1.Y)||((p0.Y==p1.Y)&&decide (p0.X<p1.X)))
def oe(N:Nat)(p0:aG z)(p1:aG z):aP y6:=
 D (lT (Z p0) (λ(m:Nat)(a:Int)=>(D (A p0 (m:Int)) λn=>D (lT (Z p1) (λ(p:Nat)(ad:Int)=>(D (A p1 (p:Int)) λq=>D (oU N n q) λc=>D (bif decide (ad<0)||decide (c<ad)then O c else O ad) λr=>O r:aP Int)) a) λad=>O ad:aP Int))<|-1) λa=>D (lT (Z p0) (λ(s:Nat)(j:y6×Bool)=>(D (A p0 (s:Int)) λd=>D (lT (Z p1) (λ(t:Nat)(o:y6×Bool)=>(D (A p1 (t:Int)) λag=>D (xZ N d ag a) λe=>D (D (oU N d ag) λu=>bif u==a then(bif(!o.2)then O aA else(D (x6 N e o.1.dC) λv=>O v))else O aK) λaz=>D (bif az then O ({o.1 with dC:=e},aA)else O (o.1,o.2)) λf=>O (f.1,f.2):aP (y6×Bool))) (j.1,j.2)) λo=>O (o.1,o.2):aP (y6×Bool))) ((⟨0,0,wrap .i64<|a - 1,⟨0,0⟩,⟨0,0⟩⟩:y6),aK)) λj=>D (lT (Z p1) (λ(a0:Nat)(b:y6×Bool)=>(D (A p1 (a0:Int)) λg=>D (xZ N g (⟨j.1.dC.X,j.1.dC.Y,wrap .i64<|j.1.dC.X+1,wrap .i64<|j.1.dC.Y+1⟩:z) a) λh=>D (D (oU N g (⟨j.1.dC.X,j.1.dC.Y,wrap .i64<|j.1.dC.X+1,wrap .i64<|j.1.dC.Y+1⟩:z)) λa1=>bif a1==a then(bif(!b.2)then O aA else(D (x6 N h b.1.To) λk=>O k))else O aK) λl=>D (bif l then O ({b.1 with To:=h},aA)else O (b.1,b.2)) λi=>O (i.1,i.2):aP (y6×Bool))) (j.1,aK)) λb=>O b.1
def mo(N:Nat)(p1:Int):aP (aG bX):=
 bif p1<0 then aQ else(D (bif decide (wrap .i64 (p1 -(wrap .i64<|((0:Nat):Int) -((0:Nat):Int)))>0)then(D (QW 32 (⟨⟨[]⟩,⟨[]⟩⟩:bX)<|wrap .i64<|p1 -(wrap .i64<|((0:Nat):Int) -((0:Nat):Int))) λj=>D (wX j 0 ((0:Nat):Int)) λo=>O o)else O ([]:aG bX)) λa=>O a)
def kI(N:Nat)(p0:aG (aG bX)):aP (aG bX):=
 D (lT (Z p0) (λ(b:Nat)(j:Int)=>(D (A p0 (b:Int)) λa=>bif decide (wrap .i64 (j+(Z a:Int))<0)then aQ else(O<|wrap .i64<|j+(Z a:Int)):aP Int)) 0) λj=>D (mo N j) λad=>D (lT (Z p0) (λ(c:Nat)(o:aG bX)=>(D (A p0 (c:Int)) λd=>D (gx 32 o d) λag=>O ag:aP (aG bX))) ad) λo=>O o
def qj(N:Nat)(p0:bX)(a:aG (bX×Int))(p2:Int):aP Bool:=
 D (bif(!(oN a p0))then O aA else O (eU a p0 (0:Int) != p2)) λj=>O j
def iS(N:Nat)(p0:aG bX)(c:aG (bX×Int))(d:Int):aP Int:=
 D (sV (Z p0) (λ(j:Nat)(o:Unit)=>(D (A p0 (j:Int)) λa=>D (qj N a c d) λb=>bif b then O (.rt (j:Int))else(O<|.nx ()):aP (Fl Unit Int))) ()) λad=>ad.cs (λ(o:Unit)=>O<|-1)<|λr=>O r
def fC(N:Nat)(p0:aG bX)(a:aG (bX×Int))(b:Int):aP Bool:=
 D (iS N p0 a b) λj=>O<|decide<|j>=0
def pM(N:Nat)(p0:aG (bX×Int))(p1:aG bX):aP (Bool×aG (bX×Int)):=
 D (A p1 0) λj=>D (bif oN p0 j then(D (fC N p1 p0<|eU p0 j (0:Int)) λo=>O<|!o)else O aK) λa=>O (a,p0)
def og(N:Nat)(p0:bV)(e:aG aH)(s:aG bL)(g:aG Int)(p2:Int):aP (aG k):=
 D (pL N p0) λx=>D (lT (Z e) (λ(f:Nat)(h:aG (bU×Bool))=>(D (A e (f:Int)) λn=>D (gh (λ(j:aG (bU×Bool)×Int)=>(D (bif decide (j.2<(Z e:Int))then(D (A e j.2) λy=>O<|y.cR==n.cR)else O aK) λz=>bif z then(D (A g (f:Int)) λa=>D (A g j.2) λb=>D (A g (f:Int)) λad=>D (A g j.2) λc=>D (bif(if b<a then b else a) != (if ad<c then c else ad)then(bif(!(eU j.1 (⟨(if b<a then b else a),(if ad<c then c else ad)⟩:bU) (aK:Bool)))then(D (A e j.2) λB=>D (oe N n.eG B.eG) λC=>O<|decide<|C.iY<p2)else O aK)else O aK) λE=>D (bif E then O (oO j.1 (⟨(if b<a then b else a),(if ad<c then c else ad)⟩:bU) aA)else O j.1) λaz=>O<|.nx (az,wrap .i64<|j.2+1))else(O<|.br (j.1,j.2)):aP (Fl (aG (bU×Bool)×Int) Empty))) N (h,wrap .i64<|(f:Int)+1)) λa0=>a0.cs (λ(j:aG (bU×Bool)×Int)=>O j.1) (λr=>r.elim):aP (aG<|bU×Bool))) ([]:aG (bU×Bool))) λh=>LS h (λ(p:bU×Bool)(o:aG (bX×Int)×aG k)=>(D (A s p.1.e0) λi=>D (A s p.1.e1) λl=>D (bif(Z i.aZ:Int)==0 then O (o.1,aA)else(bif(Z l.aZ:Int)==0 then O (o.1,aA)else(D (kI N ([i.aZ,l.aZ]:aG (aG bX))) λa1=>D (pM N o.1 a1) λq=>O (q.2,q.1)))) λm=>bif m.2 then O (.nx (m.1,o.2))else(D (A i.aZ 0) λd=>D (A l.aZ 0) λag=>D (dY N ((⟨d,ag,aK⟩:k).B)<|(⟨d,ag,aK⟩:k).A) λt=>D (bif t<0 then O {{(⟨d,ag,aK⟩:k)with A:=(⟨d,ag,aK⟩:k).B}with B:=(⟨d,ag,aK⟩:k).A}else O (⟨d,ag,aK⟩:k)) λu=>D (gx 72 o.2 ([u]:aG k)) λv=>O<|.nx (m.1,v)):aP (Fl (aG (bX×Int)×aG k) Empty))) (x,([]:aG k)) (λ(o:aG (bX×Int)×aG k)=>D (y4 (eZ N) o.2) λw=>O w)<|λr=>r.elim
def oh(N:Nat)(p0:aG bD)(p1:bV)(p2:ir)(p3:Int):aP (aG k×Int):=
 D (gu N p0 p1 p2 p3) λj=>LP j.1 (bif j.2 != 0 then O (([]:aG k),j.2)else aQ) (λ(o:(aG (aG z)×aG z×aG cM×aG dD×aG (aG aB)×aG aH×aG (aG Int)×aG bL×aG Int×aG Int×aG Int×aG gL))=>bif j.2 != 0 then O (([]:aG k),j.2)else(D (og N p1 o.2.2.2.2.2.1 o.2.2.2.2.2.2.2.1 o.2.2.2.2.2.2.2.2.1 p3) λb=>D (tM N b) λa=>O (a.1,a.2)))
def ld(N:Nat)(p0 p1 p2:Int):aP Bool:=
 O (decide (p0>=p1)&&decide (p0<=p2))
def lq(N:Nat)(p0:aG z)(p1:z):aP Bool:=
 D (gh (λ(j:Int)=>(bif decide (j<(Z p0:Int))then(D (A p0 j) λo=>D (A p0 j) λa=>D (A p0 j) λb=>D (A p0 j) λad=>bif(decide (wrap .i64 ((if p1.X1<o.X1 then p1.X1 else o.X1) -(if a.X0<p1.X0 then p1.X0 else a.X0))>0)&&(wrap .i64 ((if p1.Y1<b.Y1 then p1.Y1 else b.Y1) -(if ad.Y0<p1.Y0 then p1.Y0 else ad.Y0))==0))||((wrap .i64 ((if p1.X1<o.X1 then p1.X1 else o.X1) -(if a.X0<p1.X0 then p1.X0 else a.X0))==0)&&decide (wrap .i64 ((if p1.Y1<b.Y1 then p1.Y1 else b.Y1) -(if ad.Y0<p1.Y0 then p1.Y0 else ad.Y0))>0))then O (.rt aA)else O (.nx<|wrap .i64<|j+1))else(O<|.br j):aP (Fl Int Bool))) N 0) λc=>c.cs (λ(j:Int)=>O aK)<|λr=>O r
def dK(N:Nat)(p0:aG Int)(p1:Int):aP Bool:=
 D (gh (λ(j:Int)=>(bif decide (j<(Z p0:Int))then(D (A p0 j) λo=>bif o==p1 then O (.rt aA)else O (.nx<|wrap .i64<|j+1))else(O<|.br j):aP (Fl Int Bool))) N 0) λa=>a.cs (λ(j:Int)=>O aK)<|λr=>O r
def kl(N:Nat)(p0:aG Int)(p1:Int):aP (aG Int):=
 D (gh (λ(j:Int)=>(D (bif j>0 then(D (A p0<|wrap .i64<|j - 1) λo=>O<|decide<|o>p1)else O aK) λa=>bif a then O (.nx<|wrap .i64<|j - 1)else(O<|.br j):aP (Fl Int Empty))) N (Z p0:Int)) λb=>b.cs (λ(j:Int)=>D (bif j>0 then(D (A p0<|wrap .i64<|j - 1) λad=>O<|ad==p1)else O aK) λc=>bif c then O p0 else(D (wX p0 0 j) λd=>D (gx 8 ([]:aG Int) d) λag=>D (gx 8 ag ([p1]:aG Int)) λe=>D (wX p0 j (Z p0:Int)) λf=>D (gx 8 e f) λg=>O g))<|λr=>r.elim
def jc(N:Nat)(c:aG (aG Int))(p1:Int)(p2:aG Bool):aP ((aG Int×aG Int×aG bX)×aG Bool):=
 D (A p2 p1) λu=>D (mk 1 (aK:Bool) (Z c:Int)) λd=>D (gh (λ(o:aG Bool×aG Int×aG Int×aG Bool×aG Int×Int)=>(bif decide (o.2.2.2.2.2<(Z o.2.2.2.2.1:Int))then(D (gh (λ(j:aG Bool×aG Int×aG Int×aG Bool×aG Int×Int)=>(bif decide (j.2.2.2.2.2<(Z c:Int))then(D (D (A j.2.2.2.1 j.2.2.2.2.2) λe=>bif e then O aA else(D (A c j.2.2.2.2.2) λag=>D (A j.2.2.2.2.1 o.2.2.2.2.2) λf=>D (dK N ag f) λg=>O<|!g)) λh=>bif h then O (.nx (j.1,j.2.1,j.2.2.1,j.2.2.2.1,j.2.2.2.2.1,wrap .i64<|j.2.2.2.2.2+1))else(D (A j.2.2.2.1 j.2.2.2.2.2) λv=>D (kl N j.2.2.1 j.2.2.2.2.2) λi=>D (gh (λ(a:aG Bool×aG Int×aG Int×Int)=>(D (A c j.2.2.2.2.2) λk=>bif decide (a.2.2.2<(Z k:Int))then(D (A c j.2.2.2.2.2) λl=>D (A l a.2.2.2) λb=>D (A a.1 b) λm=>D (bif(!m)then(D (A a.1 b) λaz=>D (kl N a.2.1 b) λn=>D (gx 8 a.2.2.1 ([b]:aG Int)) λp=>O (a.1.set (Int.toNat b) aA,n,p))else O (a.1,a.2.1,a.2.2.1)) λad=>O<|.nx (ad.1,ad.2.1,ad.2.2,wrap .i64<|a.2.2.2+1))else(O<|.br (a.1,a.2.1,a.2.2.1,a.2.2.2)):aP (Fl (aG Bool×aG Int×aG Int×Int) Empty))) N (j.1,j.2.1,j.2.2.2.2.1,0)) λq=>q.cs (λ(a:aG Bool×aG Int×aG Int×Int)=>O<|.nx (a.1,a.2.1,i,j.2.2.2.1.set (Int.toNat j.2.2.2.2.2) aA,a.2.2.1,wrap .i64<|j.2.2.2.2.2+1))<|λr=>r.elim))else(O<|.br (j.1,j.2.1,j.2.2.1,j.2.2.2.1,j.2.2.2.2.1,j.2.2.2.2.2)):aP (Fl (aG Bool×aG Int×aG Int×aG Bool×aG Int×Int) Empty))) N (o.1,o.2.1,o.2.2.1,o.2.2.2.1,o.2.2.2.2.1,0)) λs=>s.cs (λ(j:aG Bool×aG Int×aG Int×aG Bool×aG Int×Int)=>O<|.nx (j.1,j.2.1,j.2.2.1,j.2.2.2.1,j.2.2.2.2.1,wrap .i64<|o.2.2.2.2.2+1))<|λr=>r.elim)else(O<|.br (o.1,o.2.1,o.2.2.1,o.2.2.2.1,o.2.2.2.2.1,o.2.2.2.2.2)):aP (Fl (aG Bool×aG Int×aG Int×aG Bool×aG Int×Int) Empty))) N (p2.set (Int.toNat p1) aA,([p1]:aG Int),([]:aG Int),d,([p1]:aG Int),0)) λt=>t.cs (λ(o:aG Bool×aG Int×aG Int×aG Bool×aG Int×Int)=>O ((o.2.1,o.2.2.1,([]:aG bX)),o.1))<|λr=>r.elim
def gv(N:Nat)(p0:aG z)(p1:dP):aP Bool:=
 D (jG N p0 p1.Y) λj=>D (i9 N j p1.X) λo=>O o
def jy(N:Nat)(a:aG cM)(p:aG Int)(b:aG (aG z))(p1:dD):aP (gL×Bool):=
 D (gh (λ(o:Int)=>(bif decide (o<(Z b:Int))then(D (D (A p o) λc=>bif c==p1.cR then(D (A b o) λd=>D (gv N d p1.At) λad=>O ad)else O aK) λe=>bif e then O (.rt ((⟨aK,o⟩:gL),aA))else O (.nx<|wrap .i64<|o+1))else(O<|.br o):aP (Fl Int<|gL×Bool))) N 0) λf=>f.cs (λ(o:Int)=>D (gh (λ(j:Int)=>(bif decide (j<(Z a:Int))then(D (D (A a j) λag=>bif ag.iE then(D (A a j) λg=>D (gI N g p1.cR) λh=>bif h then(D (A a j) λi=>D (dA N i) λk=>D (gv N ([k]:aG z) p1.At) λl=>O l)else O aK)else O aK) λm=>bif m then O (.rt ((⟨aA,j⟩:gL),aA))else O (.nx<|wrap .i64<|j+1))else(O<|.br j):aP (Fl Int<|gL×Bool))) N 0) λn=>n.cs (λ(j:Int)=>O ((⟨aK,0⟩:gL),aK))<|λr=>O r)<|λr=>O r
def fu(N:Nat)(a:aG bL)(p1:gL):aP Int:=
 D (gh (λ(j:Int)=>(bif decide (j<(Z a:Int))then(D (bif p1.cM then(D (A a j) λo=>D (dK N o.aX p1.Number) λb=>bif b then O aA else(bif(!p1.cM)then(D (A a j) λc=>D (dK N c.fK p1.Number) λad=>O ad)else O aK))else(bif(!p1.cM)then(D (A a j) λd=>D (dK N d.fK p1.Number) λe=>O e)else O aK)) λag=>bif ag then O (.rt j)else O (.nx<|wrap .i64<|j+1))else(O<|.br j):aP (Fl Int Int))) N 0) λf=>f.cs (λ(j:Int)=>O<|-1)<|λr=>O r
def fX(N:Nat)(a:aG cM)(b:aG Int)(c:aG (aG z))(d:aG bL)(p1:dD):aP Int:=
 D (jy N a b c p1) λj=>bif(!j.2)then O (-1)else(D (fu N d j.1) λo=>O o)
def gD(N:Nat)(g:aG cM)(h:aG dD)(B:aG Int)(d:aG (aG z))(e:aG (aG Int)):aP (aG bL):=
 D (mk 1 (aK:Bool) (Z d:Int)) λag=>D (gh (λ(j:aG bL×aG Bool×Int)=>(bif decide (j.2.2<(Z d:Int))then(D (A j.2.1 j.2.2) λi=>D (bif(!i)then(D (jc N e j.2.2 j.2.1) λb=>D (gx 72 j.1 [(⟨b.1.1,b.1.2.1,b.1.2.2⟩:bL)]) λk=>O (k,b.2))else O (j.1,j.2.1)) λf=>O<|.nx (f.1,f.2,wrap .i64<|j.2.2+1))else(O<|.br (j.1,j.2.1,j.2.2)):aP (Fl (aG bL×aG Bool×Int) Empty))) N (([]:aG bL),ag,0)) λl=>l.cs (λ(j:aG bL×aG Bool×Int)=>D (gh (λ(a:aG bL×Int)=>(bif decide (a.2<(Z e:Int))then(D (D (A g a.2) λm=>bif m.iE then(D (A e a.2) λn=>O<|(Z n:Int)==0)else O aK) λp=>D (bif p then(D (gx 72 a.1 [(⟨([]:aG Int),([a.2]:aG Int),([]:aG bX)⟩:bL)]) λq=>O q)else O a.1) λs=>O<|.nx (s,wrap .i64<|a.2+1))else(O<|.br (a.1,a.2)):aP (Fl (aG bL×Int) Empty))) N (j.1,0)) λt=>t.cs (λ(a:aG bL×Int)=>D (gh (λ(o:aG bL×Int)=>(bif decide (o.2<(Z h:Int))then(D (A h o.2) λc=>D (fX N g B d o.1 c) λad=>D (bif ad>=0 then(D (A o.1 ad) λu=>D (gx 32 u.aZ ([(⟨c.Part,c.bX⟩:bX)]:aG bX)) λv=>D (A o.1 ad) λw=>O<|o.1.set (Int.toNat ad) {w with aZ:=v})else O o.1) λx=>O<|.nx (x,wrap .i64<|o.2+1))else(O<|.br (o.1,o.2)):aP (Fl (aG bL×Int) Empty))) N (a.1,0)) λy=>y.cs (λ(o:aG bL×Int)=>O o.1)<|λr=>r.elim)<|λr=>r.elim)<|λr=>r.elim
def jK(N:Nat)(p0:ir):aP (aG (aG z)×aG z×aG cM×aG dD×aG Int×aG (aG z)×aG bL×aG (aG Int)):=
 D (gh (λ(j:aG Int×aG (aG z)×Int)=>(bif decide (j.2.2<(Z p0.aS:Int))then(D (iT N p0 j.2.2) λe=>D (ik N e) λad=>D (gh (λ(o:aG Int×aG (aG z)×Int)=>(bif decide (o.2.2<(Z ad:Int))then(D (gx 8 o.1 ([j.2.2]:aG Int)) λf=>D (A ad o.2.2) λag=>D (gx 24 o.2.1 ([ag]:aG (aG z))) λg=>O<|.nx (f,g,wrap .i64<|o.2.2+1))else(O<|.br (o.1,o.2.1,o.2.2)):aP (Fl (aG Int×aG (aG z)×Int) Empty))) N (j.1,j.2.1,0)) λh=>h.cs (λ(o:aG Int×aG (aG z)×Int)=>O<|.nx (o.1,o.2.1,wrap .i64<|j.2.2+1))<|λr=>r.elim)else(O<|.br (j.1,j.2.1,j.2.2)):aP (Fl (aG Int×aG (aG z)×Int) Empty))) N (([]:aG Int),([]:aG (aG z)),0)) λi=>i.cs (λ(j:aG Int×aG (aG z)×Int)=>D (gh (λ(a:aG (aG Int)×Int)=>(bif decide (a.2<(Z p0.aX:Int))then(D (gh (λ(b:aG Int×Int)=>(D (bif decide (b.2<(Z j.2.1:Int))then(D (A p0.aX a.2) λk=>O k.iE)else O aK) λl=>bif l then(D (D (A p0.aX a.2) λm=>D (A j.1 b.2) λn=>D (gI N m n) λp=>bif p then(D (A j.2.1 b.2) λq=>D (A p0.aX a.2) λs=>D (dA N s) λt=>D (lq N q t) λu=>O u)else O aK) λv=>D (bif v then(D (gx 8 b.1 ([b.2]:aG Int)) λw=>O w)else O b.1) λaz=>O<|.nx (az,wrap .i64<|b.2+1))else(O<|.br (b.1,b.2)):aP (Fl (aG Int×Int) Empty))) N (([]:aG Int),0)) λa0=>a0.cs (λ(b:aG Int×Int)=>D (gx 24 a.1 ([b.1]:aG (aG Int))) λa1=>O<|.nx (a1,wrap .i64<|a.2+1))<|λr=>r.elim)else(O<|.br (a.1,a.2)):aP (Fl (aG (aG Int)×Int) Empty))) N (([]:aG (aG Int)),0)) λc=>c.cs (λ(a:aG (aG Int)×Int)=>D (gD N p0.aX p0.cA j.1 j.2.1 a.1) λd=>O (p0.aS,p0.cZ,p0.aX,p0.cA,j.1,j.2.1,d,a.1))<|λr=>r.elim)<|λr=>r.elim
def l6(N:Nat)(p0 p1:Int)(p2 p3:Int):aP Int:=
 O (if(if 0<(wrap .i64<|p2 -(wrap .i64<|p1 - 1))then wrap .i64 (p2 -(wrap .i64<|p1 - 1))else 0)<(wrap .i64<|p0 -(wrap .i64<|p3 - 1))then wrap .i64 (p0 -(wrap .i64<|p3 - 1))else(if 0<(wrap .i64<|p2 -(wrap .i64<|p1 - 1))then wrap .i64 (p2 -(wrap .i64<|p1 - 1))else 0))
def jr(N:Nat)(p0 p1:z):aP Int:=
 D (l6 N p0.X0 p0.X1 p1.X0 p1.X1) λj=>D (l6 N p0.Y0 p0.Y1 p1.Y0 p1.Y1) λo=>O (if j<o then o else j)
def jT(N:Nat)(p0:aG z)(p1:aG z):aP Int:=
 D (A p0 0) λb=>D (A p1 0) λad=>D (jr N b ad) λc=>D (gh (λ(o:Int×Int)=>(bif decide (o.2<(Z p0:Int))then(D (gh (λ(j:Int×Int)=>(bif decide (j.2<(Z p1:Int))then(D (A p0 o.2) λd=>D (A p1 j.2) λag=>D (jr N d ag) λa=>O<|.nx ((if a<j.1 then a else j.1),wrap .i64<|j.2+1))else(O<|.br (j.1,j.2)):aP (Fl (Int×Int) Empty))) N (o.1,0)) λe=>e.cs (λ(j:Int×Int)=>O<|.nx (j.1,wrap .i64<|o.2+1))<|λr=>r.elim)else(O<|.br (o.1,o.2)):aP (Fl (Int×Int) Empty))) N (c,0)) λf=>f.cs (λ(o:Int×Int)=>O o.1)<|λr=>r.elim
def jL(N:Nat)(p0:aG z)(p1:aG z)(p2:Int):aP (dP×Bool):=
 D (gh (λ(o:dP×Bool×Int)=>(bif decide (o.2.2<(Z p0:Int))then(D (gh (λ(j:dP×Bool×Int)=>(bif decide (j.2.2<(Z p1:Int))then(D (A p0 o.2.2) λad=>D (A p1 j.2.2) λc=>D (A p0 o.2.2) λa=>D (A p1 j.2.2) λb=>D (D (A p0 o.2.2) λd=>D (A p1 j.2.2) λag=>bif(if ad.X0<(wrap .i64<|c.X0 - p2)then wrap .i64 (c.X0 - p2)else ad.X0)>(wrap .i64<|(if wrap .i64 (ag.X1+p2)<d.X1 then wrap .i64 (ag.X1+p2)else d.X1) - 1)then O aA else(D (A p0 o.2.2) λe=>D (A p1 j.2.2) λf=>O<|decide<|(if a.Y0<(wrap .i64<|b.Y0 - p2)then wrap .i64 (b.Y0 - p2)else a.Y0)> wrap .i64 ((if wrap .i64 (f.Y1+p2)<e.Y1 then wrap .i64 (f.Y1+p2)else e.Y1) - 1))) λh=>bif h then O (.nx (j.1,j.2.1,wrap .i64<|j.2.2+1))else(D (bif((!j.2.1)||decide ((if a.Y0<(wrap .i64<|b.Y0 - p2)then wrap .i64 (b.Y0 - p2)else a.Y0)<j.1.Y))||(((if a.Y0<(wrap .i64<|b.Y0 - p2)then wrap .i64 (b.Y0 - p2)else a.Y0)==j.1.Y)&&decide ((if ad.X0<(wrap .i64<|c.X0 - p2)then wrap .i64 (c.X0 - p2)else ad.X0)<j.1.X))then O ((⟨(if ad.X0<(wrap .i64<|c.X0 - p2)then wrap .i64 (c.X0 - p2)else ad.X0),(if a.Y0<(wrap .i64<|b.Y0 - p2)then wrap .i64 (b.Y0 - p2)else a.Y0)⟩:dP),aA)else O (j.1,j.2.1)) λg=>O<|.nx (g.1,g.2,wrap .i64<|j.2.2+1)))else(O<|.br (j.1,j.2.1,j.2.2)):aP (Fl (dP×Bool×Int) Empty))) N (o.1,o.2.1,0)) λi=>i.cs (λ(j:dP×Bool×Int)=>O<|.nx (j.1,j.2.1,wrap .i64<|o.2.2+1))<|λr=>r.elim)else(O<|.br (o.1,o.2.1,o.2.2)):aP (Fl (dP×Bool×Int) Empty))) N ((⟨0,0⟩:dP),aK,0)) λk=>k.cs (λ(o:dP×Bool×Int)=>O (o.1,o.2.1))<|λr=>r.elim
def kP(N:Nat)(p0:aG z)(p1:aG z):aP y6:=
 D (jT N p0 p1) λo=>D (jL N p0 p1 o) λj=>D (jL N p1 ([(⟨j.1.X,j.1.Y,wrap .i64<|j.1.X+1,wrap .i64<|j.1.Y+1⟩:z)]:aG z) o) λa=>O (⟨0,0,wrap .i64<|o - 1,j.1,a.1⟩:y6)
def jM(N:Nat)(c:aG Int)(d:aG (aG z))(p1 p2:bL)(p3:Int):aP Bool:=
 D (gh (λ(j:Int)=>(bif decide (j<(Z p1.fK:Int))then(D (gh (λ(o:Int)=>(bif decide (o<(Z p2.fK:Int))then(D (A p1.fK j) λa=>D (A p2.fK o) λb=>D (D (A c a) λad=>D (A c b) λe=>bif ad==e then(D (A d a) λf=>D (A d b) λag=>D (kP N f ag) λg=>O<|decide<|g.iY<p3)else O aK) λh=>bif h then O (.rt aA)else O (.nx<|wrap .i64<|o+1))else(O<|.br o):aP (Fl Int Bool))) N 0) λi=>i.cs (λ(o:Int)=>O<|.nx<|wrap .i64<|j+1)<|λr=>O<|.rt r)else(O<|.br j):aP (Fl Int Bool))) N 0) λk=>k.cs (λ(j:Int)=>O aK)<|λr=>O r
def gY(N:Nat)(p0:bV)(p1:bX):aP cU:=
 D (gh (λ(j:Int)=>(bif decide (j<(Z p0.cD:Int))then(D (gh (λ(o:Int)=>(D (A p0.cD j) λa=>bif decide (o<(Z a.aZ:Int))then(D (A p0.cD j) λb=>D (A b.aZ o) λad=>bif ad=p1 then(D (A p0.cD j) λc=>O<|.rt c.Name)else O (.nx<|wrap .i64<|o+1))else(O<|.br o):aP (Fl Int cU))) N 0) λd=>d.cs (λ(o:Int)=>O<|.nx<|wrap .i64<|j+1)<|λr=>O<|.rt r)else(O<|.br j):aP (Fl Int cU))) N 0) λag=>ag.cs (λ(j:Int)=>O<|⟨[]⟩)<|λr=>O r
def jN(N:Nat)(p0:bV)(p1:aG bX)(p2:aG bX):aP Bool:=
 D (A p1 0) λb=>D (gY N p0 b) λa=>D (gh (λ(j:Int)=>(bif decide (j<(Z p1:Int))then(D (A p1 j) λad=>D (gY N p0 ad) λc=>bif(!c.sU a)then O (.rt aK)else O (.nx<|wrap .i64<|j+1))else(O<|.br j):aP (Fl Int Bool))) N 0) λd=>d.cs (λ(j:Int)=>D (gh (λ(o:Int)=>(bif decide (o<(Z p2:Int))then(D (A p2 o) λag=>D (gY N p0 ag) λe=>bif(!e.sU a)then O (.rt aK)else O (.nx<|wrap .i64<|o+1))else(O<|.br o):aP (Fl Int Bool))) N 0) λf=>f.cs (λ(o:Int)=>O<|!a.sU (⟨[]⟩))<|λr=>O r)<|λr=>O r
def iU(N:Nat)(p0:aG bX):aP bX:=
 D (A p0 0) λo=>D (gh (λ(j:bX×Int)=>(bif decide (j.2<(Z p0:Int))then(D (A p0 j.2) λa=>D (iC N a j.1) λb=>D (bif b then(D (A p0 j.2) λad=>O ad)else O j.1) λc=>O<|.nx (c,wrap .i64<|j.2+1))else(O<|.br (j.1,j.2)):aP (Fl (bX×Int) Empty))) N (o,0)) λd=>d.cs (λ(j:bX×Int)=>O j.1)<|λr=>r.elim
def gJ(N:Nat)(p0:bV)(n:aG Int)(p:aG (aG z))(d:aG bL)(p2:Int):aP (aG k):=
 D (gh (λ(o:aG k×Int)=>(bif decide (o.2<(Z d:Int))then(D (gh (λ(j:aG k×Int)=>(bif decide (j.2<(Z d:Int))then(D (A d o.2) λad=>D (A d j.2) λc=>D (bif(Z ad.aZ:Int)==0 then O aA else(bif(Z c.aZ:Int)==0 then O aA else(D (jM N n p ad c p2) λe=>bif(!e)then O aA else(D (jN N p0 ad.aZ c.aZ) λag=>O ag)))) λf=>bif f then O (.nx (j.1,wrap .i64<|j.2+1))else(D (iU N ad.aZ) λa=>D (iU N c.aZ) λb=>D (iC N ((⟨a,b,aK⟩:k).B)<|(⟨a,b,aK⟩:k).A) λg=>D (bif g then O {{(⟨a,b,aK⟩:k)with A:=(⟨a,b,aK⟩:k).B}with B:=(⟨a,b,aK⟩:k).A}else O (⟨a,b,aK⟩:k)) λh=>D (gA N j.1 h) λi=>O<|.nx (i,wrap .i64<|j.2+1)))else(O<|.br (j.1,j.2)):aP (Fl (aG k×Int) Empty))) N (o.1,wrap .i64<|o.2+1)) λl=>l.cs (λ(j:aG k×Int)=>O<|.nx (j.1,wrap .i64<|o.2+1))<|λr=>r.elim)else(O<|.br (o.1,o.2)):aP (Fl (aG k×Int) Empty))) N (([]:aG k),0)) λm=>m.cs (λ(o:aG k×Int)=>O o.1)<|λr=>r.elim
def fQ(N:Nat)(p0:aG bD)(p1:bV)(p2:ir)(p3:Int):aP (aG k×Int):=
 D (eN N p0 p1 p2) λo=>bif o != 0 then O (([]:aG k),o)else(D (ld N p3 0 100000) λb=>bif(!b)then O (([]:aG k),1)else(D (jK N p2) λj=>D (gJ N p1 j.2.2.2.2.1 j.2.2.2.2.2.1 j.2.2.2.2.2.2.1 p3) λad=>D (jq N ad) λa=>O (a.1,a.2)))
def km(N:Nat)(p1:Int):aP (aG k):=
 bif p1<0 then aQ else(D (bif decide (wrap .i64 (p1 -(wrap .i64<|((0:Nat):Int) -((0:Nat):Int)))>0)then(D (QW 72 (⟨⟨⟨[]⟩,⟨[]⟩⟩,⟨⟨[]⟩,⟨[]⟩⟩,aK⟩:k)<|wrap .i64<|p1 -(wrap .i64<|((0:Nat):Int) -((0:Nat):Int))) λj=>D (wX j 0 ((0:Nat):Int)) λo=>O o)else O ([]:aG k)) λa=>O a)
def mY(N:Nat)(p0:aG (aG k)):aP (aG k):=
 D (lT (Z p0) (λ(b:Nat)(j:Int)=>(D (A p0 (b:Int)) λa=>bif decide (wrap .i64 (j+(Z a:Int))<0)then aQ else(O<|wrap .i64<|j+(Z a:Int)):aP Int)) 0) λj=>D (km N j) λad=>D (lT (Z p0) (λ(c:Nat)(o:aG k)=>(D (A p0 (c:Int)) λd=>D (gx 72 o d) λag=>O ag:aP (aG k))) ad) λo=>O o
def pN(N:Nat)(p0:bV)(e:aG aH)(s:aG bL)(g:aG Int)(p2:Int):aP (aG k):=
 D (pL N p0) λx=>D (lT (Z e) (λ(f:Nat)(h:aG (bU×Bool))=>(D (A e (f:Int)) λn=>D (gh (λ(j:aG (bU×Bool)×Int)=>(D (bif decide (j.2<(Z e:Int))then(D (A e j.2) λy=>O<|y.cR==n.cR)else O aK) λz=>bif z then(D (A g (f:Int)) λa=>D (A g j.2) λb=>D (A g (f:Int)) λad=>D (A g j.2) λc=>D (bif(if b<a then b else a) != (if ad<c then c else ad)then(bif(!(eU j.1 (⟨(if b<a then b else a),(if ad<c then c else ad)⟩:bU) (aK:Bool)))then(D (A e j.2) λB=>D (oe N n.eG B.eG) λC=>O<|decide<|C.iY<p2)else O aK)else O aK) λE=>D (bif E then O (oO j.1 (⟨(if b<a then b else a),(if ad<c then c else ad)⟩:bU) aA)else O j.1) λaz=>O<|.nx (az,wrap .i64<|j.2+1))else(O<|.br (j.1,j.2)):aP (Fl (aG (bU×Bool)×Int) Empty))) N (h,wrap .i64<|(f:Int)+1)) λa0=>a0.cs (λ(j:aG (bU×Bool)×Int)=>O j.1) (λr=>r.elim):aP (aG<|bU×Bool))) ([]:aG (bU×Bool))) λh=>LS h (λ(p:bU×Bool)(o:aG (bX×Int)×aG k)=>(D (A s p.1.e0) λi=>D (A s p.1.e1) λl=>D (bif(Z i.aZ:Int)==0 then O (o.1,aA)else(bif(Z l.aZ:Int)==0 then O (o.1,aA)else(D (kI N ([i.aZ,l.aZ]:aG (aG bX))) λa1=>D (pM N o.1 a1) λq=>O (q.2,q.1)))) λm=>bif m.2 then O (.nx (m.1,o.2))else(D (A i.aZ 0) λd=>D (A l.aZ 0) λag=>D (dY N ((⟨d,ag,aK⟩:k).B)<|(⟨d,ag,aK⟩:k).A) λt=>D (bif t<0 then O {{(⟨d,ag,aK⟩:k)with A:=(⟨d,ag,aK⟩:k).B}with B:=(⟨d,ag,aK⟩:k).A}else O (⟨d,ag,aK⟩:k)) λu=>D (gx 72 o.2 ([u]:aG k)) λv=>O<|.nx (m.1,v)):aP (Fl (aG (bX×Int)×aG k) Empty))) (x,([]:aG k)) (λ(o:aG (bX×Int)×aG k)=>D (y4 (eZ N) o.2) λw=>O w)<|λr=>r.elim
def vO(N:Nat)(p0:aG k):aP (Unit×Int):=
 bif decide ((Z p0:Int)>2000)then O ((),2)else O ((),0)
def oj(N:Nat)(p0:aG bD)(p1:bV)(p2:ir)(p3:Int):aP (aG k×Int):=
 D (gu N p0 p1 p2 p3) λo=>LP o.1 (bif o.2 != 0 then O (([]:aG k),o.2)else aQ) (λ(b:(aG (aG z)×aG z×aG cM×aG dD×aG (aG aB)×aG aH×aG (aG Int)×aG bL×aG Int×aG Int×aG Int×aG gL))=>bif o.2 != 0 then O (([]:aG k),o.2)else(D (mH N p1 p2) λd=>D (pN N p1 b.2.2.2.2.2.1 b.2.2.2.2.2.2.2.1 b.2.2.2.2.2.2.2.2.1 p3) λag=>D (mY N ([d,ag]:aG (aG k))) λad=>D (vO N ad) λc=>bif c.2 != 0 then O (([]:aG k),c.2)else(D (y4 (eZ N) ad) λa=>D (gh (λ(j:Int)=>(bif decide (j<(Z a:Int))then(D (A a j) λe=>D (A a<|wrap .i64<|j - 1) λf=>D (eZ N e f) λg=>bif g==0 then O (.rt (([]:aG k),12))else O (.nx<|wrap .i64<|j+1))else(O<|.br j):aP (Fl Int<|aG k×Int))) N 1) λh=>h.cs (λ(j:Int)=>O (a,0))<|λr=>O r)))
def fR(N:Nat)(p0:aG bD)(p1:bV)(p2:ir)(p3:Int):aP (aG k×Int):=
 D (eN N p0 p1 p2) λad=>bif ad != 0 then O (([]:aG k),ad)else(D (ld N p3 0 100000) λd=>bif(!d)then O (([]:aG k),1)else(D (ja N p1 p2) λc=>D (jK N p2) λa=>D (gJ N p1 a.2.2.2.2.1 a.2.2.2.2.2.1 a.2.2.2.2.2.2.1 p3) λb=>bif decide (wrap .i64 ((Z c:Int)+(Z b:Int))>2000)then O (([]:aG k),2)else(D (gh (λ(j:aG k×Int)=>(bif decide (j.2<(Z b:Int))then(D (A b j.2) λag=>D (gA N j.1 ag) λe=>O<|.nx (e,wrap .i64<|j.2+1))else(O<|.br (j.1,j.2)):aP (Fl (aG k×Int) Empty))) N (c,0)) λf=>f.cs (λ(j:aG k×Int)=>D (gh (λ(o:Int)=>(bif decide (o<(Z j.1:Int))then(D (D (A j.1 o) λg=>D (A j.1<|wrap .i64<|o - 1) λh=>bif g.A=h.A then(D (A j.1 o) λi=>D (A j.1<|wrap .i64<|o - 1) λl=>O<|decide<|i.B=l.B)else O aK) λm=>bif m then O (.rt (([]:aG k),12))else O (.nx<|wrap .i64<|o+1))else(O<|.br o):aP (Fl Int<|aG k×Int))) N 1) λn=>n.cs (λ(o:Int)=>O (j.1,0))<|λr=>O r)<|λr=>r.elim)))
def mq(N:Nat)(p0:Int)(a:aG aH):aP Bool:=
 D (pK N p0 0<|wrap .i64<|(Z a:Int) - 1) λj=>O j
def uM(N:Nat)(p0:aG rm)(p1:rm):aP Int:=
 D (sV (Z p0) (λ(j:Nat)(o:Unit)=>(D (A p0 (j:Int)) λa=>bif p1=a then O (.rt (j:Int))else(O<|.nx ()):aP (Fl Unit Int))) ()) λb=>b.cs (λ(o:Unit)=>O<|-1)<|λr=>O r
def rF(N:Nat)(p0:aG rm)(p1:rm):aP Bool:=
 D (uM N p0 p1) λj=>O<|decide<|j>=0
def sq(N:Nat)(q:aG (aG z))(s:aG z)(b:aG cM)(v:aG dD)(w:aG (aG aB))(a:aG aH)(x:aG (aG Int))(y:aG bL)(B:aG Int)(C:aG Int)(t:aG Int)(u:aG gL)(p1:aG rm):aP Int:=
 bif decide ((Z p1:Int)>20)then O 2 else(D (sV (Z p1) (λ(o:Nat)(c:Unit)=>(D (A p1 (o:Int)) λj=>D (bif j.Open&&((j.A != 0)||(j.B != 0))then O aA else(bif(!j.Open)then O (!(decide<|j.gL=(⟨aK,0⟩:gL)))else O aK)) λd=>bif d then O (.rt 3)else(D (D (mq N j.A a) λad=>bif ad then(D (mq N j.B a) λe=>O e)else O aK) λf=>D (bif j.Open then(D (mq N j.gL.Number a) λag=>O ag)else O f) λg=>D (bif j.Open&&j.gL.cM then(D (D (pK N j.gL.Number 0<|wrap .i64<|(Z b:Int) - 1) λh=>bif h then(D (A b j.gL.Number) λi=>O i.iE)else O aK) λk=>O k)else O g) λl=>bif(!l)then O (.rt 9)else(bif(!j.Open)&&decide (j.B<=j.A)then O (.rt 8)else(D (wX p1 0 (o:Int)) λm=>D (rF N m j) λn=>bif n then O (.rt 7)else O (.nx ())))):aP (Fl Unit Int))) ()) λp=>p.cs (λ(c:Unit)=>O 0)<|λr=>O r)
def mK(N:Nat)(p0:gL)(p1:Int):aP Int:=
 bif p0.cM then O (wrap .i64<|p1+p0.Number)else O p0.Number
def oX(N:Nat)(p0 p1:Int)(a:aG (Int×Bool))(b:aG Int):aP (aG Int):=
 D (bif(!(eU a p0 (aK:Bool)))then O (!(eU a p1 (aK:Bool)))else O aK) λj=>D (bif j then(D (eV N b p0 p1) λo=>O o)else O b) λc=>O c
def qE(N:Nat)(E:aG cM)(F:aG dD)(c:aG aH)(p:aG (aG Int))(C:aG Int)(n:aG gL)(p1:aG rm):aP (aG Int):=
 D (lT (Z p1) (λ(u:Nat)(a:aG (Int×Bool))=>(D (A p1 (u:Int)) λh=>D (bif h.Open then(D (mK N h.gL (Z c:Int)) λv=>O<|oO a v aA)else O a) λw=>O w:aP (aG<|Int×Bool))) ([]:aG (Int×Bool))) λa=>D (lk N<|wrap .i64<|(Z c:Int)+(Z E:Int)) λx=>D (lT (Z p) (λ(i:Nat)(d:aG Int)=>(D (A p (i:Int)) λk=>D (lT (Z k) (λ(y:Nat)(e:aG Int)=>(D (A k (y:Int)) λz=>D (oX N z (wrap .i64<|(Z c:Int)+(i:Int)) a e) λB=>O B:aP (aG Int))) d) λe=>O e:aP (aG Int))) x) λd=>D (lT (Z p1) (λ(az:Nat)(b:aG Int)=>(D (A p1 (az:Int)) λag=>D (bif(!ag.Open)then(D (oX N ag.A ag.B a b) λa0=>O a0)else O b) λa1=>O a1:aP (aG Int))) d) λb=>D (mk 8 (0:Int) (Z F:Int)) λq=>D (lT (Z n) (λ(o:Nat)(j:aG Int×aG (Int×Int)×aG Int)=>(D (A n (o:Int)) λr=>D (mK N r (Z c:Int)) λad=>D (D (A C (o:Int)) λs=>bif s<0 then O aA else O (eU a ad (aK:Bool))) λt=>bif t then(D (A j.2.2 (o:Int)) λG=>O (j.1,j.2.1,j.2.2.set (Int.toNat (o:Int))<|-1))else(D (eC N j.1 ad) λf=>D (bif(!(oN j.2.1 f.1))then(D (eC N f.2 ad) λl=>O (l.2,oO j.2.1 l.1 (o:Int)))else O (f.2,j.2.1)) λg=>D (eC N g.1 ad) λm=>D (A j.2.2 (o:Int)) λH=>O (m.2,g.2,j.2.2.set (Int.toNat (o:Int))<|eU g.2 m.1 (0:Int))):aP (aG Int×aG (Int×Int)×aG Int))) (b,([]:aG (Int×Int)),q)) λj=>O j.2.2
def mi(N:Nat)(p0:ir)(p1:aG rm)(p2 p3:bX):aP (Bool×Int):=
 D (jE N p0) λo=>LP o.1 (bif o.2 != 0 then O (aK,o.2)else aQ) (λ(j:(aG (aG z)×aG z×aG cM×aG dD×aG (aG aB)×aG aH×aG (aG Int)×aG bL×aG Int×aG Int×aG Int×aG gL))=>bif o.2 != 0 then O (aK,o.2)else(D (sq N j.1 j.2.1 j.2.2.1 j.2.2.2.1 j.2.2.2.2.1 j.2.2.2.2.2.1 j.2.2.2.2.2.2.1 j.2.2.2.2.2.2.2.1 j.2.2.2.2.2.2.2.2.1 j.2.2.2.2.2.2.2.2.2.1 j.2.2.2.2.2.2.2.2.2.2.1 j.2.2.2.2.2.2.2.2.2.2.2 p1) λad=>bif ad != 0 then O (aK,ad)else(D (lA N p0 p2) λa=>D (lA N p0 p3) λc=>bif decide (a<0)||decide (c<0)then O (aK,9)else(D (qE N j.2.2.1 j.2.2.2.1 j.2.2.2.2.2.1 j.2.2.2.2.2.2.1 j.2.2.2.2.2.2.2.2.2.2.1 j.2.2.2.2.2.2.2.2.2.2.2 p1) λb=>D (D (A b a) λd=>bif d>=0 then(D (A b a) λag=>D (A b c) λe=>O<|ag==e)else O aK) λf=>O (f,0)))))
def lN(N:Nat):aP Bool:=
 D (mi N (⟨([([(⟨0,0,1,1⟩:z)]:aG z)]:aG (aG z)),([]:aG z),([]:aG cM),([(⟨⟨[97]⟩,⟨[49]⟩,0,⟨0,0⟩⟩:dD)]:aG dD)⟩:ir) ([]:aG rm) (⟨⟨[97]⟩,⟨[49]⟩⟩:bX) (⟨⟨[97]⟩,⟨[49]⟩⟩:bX)) λj=>O<|(j.2==0)&&j.1
def fM(N:Nat)(p0:aG bD)(p1:bV)(p2:ir)(p3:Int):aP Bool:=
 D (pG N p0 p1 p2) λj=>D (gX N p0 p1 p2) λo=>D (l5 N j.1 o.1) λd=>bif(!d)||(j.2 != o.2)then O aK else(D (oh N p0 p1 p2 p3) λa=>D (fQ N p0 p1 p2 p3) λb=>D (l5 N a.1 b.1) λag=>bif(!ag)||(a.2 != b.2)then O aK else(D (oj N p0 p1 p2 p3) λad=>D (fR N p0 p1 p2 p3) λc=>D (D (l5 N ad.1 c.1) λe=>bif e&&(ad.2==c.2)then(D (lN N) λf=>O f)else O aK) λg=>O g))
end
def pR{R:Type}(m:Nat)(e:Nat->aP R):aP R:=(List.range m).findSome? e
theorem nN{R:Type}{m:Nat}{e:Nat->aP R}:pR m e=aQ↔∀k,k<m->e k=none:=by
 simp[pR]
theorem mM{R:Type}{m:Nat}{e:Nat->aP R}{r:R}:pR m e=O r↔∃k,k<m/\e k=O r/\∀j,j<k->e j=none:=by
 constructor
 ·intro a;obtain⟨b,f,c,c,d,d⟩:=List.findSome?_eq_some_iff.1 a;have a:Z b<m:=by have:=congrArg List.length c;grind
  have a:∀a,a<Z b->b[a]? =O a:=λa g=>by
   have:=congrArg (·[a]?) c
   grind
  have g:f=Z b:=by
   have:=congrArg (·[Z b]?) c
   grind
  grind
 ·rintro⟨k,b,b,d⟩;refine List.findSome?_eq_some_iff.2 ⟨List.range k,k,(List.range<|m - k - 1).map (· +(k+1)),?_,b,λc b=>d c<|A3.1 b⟩;refine List.ext_getElem? λa=>?_
  by_cases b:a<k
  ·grind
  ·rw[ly H,List.length_range]
   by_cases b:a=k
   all_goals grind
def Vz{R a:Type}{m:Nat}{e:Nat->aP R}(f:R->a):(pR m e).map f=pR m (λa=>(e a).map f):=by
 cases a:pR m e with
 |none=>grind [nN]
 |some a=>
  grind [mM]
section
variable {S R:Type}
def L4(o:aP R)(s:S):Fl S R:=match o with|some r=> .rt r|none=> .nx s
def NN(o:aP R)(s:S):Fo S R:=match o with|some r=> .rt r|none=> .go s
def PB{body:Nat->S->aP (Fl S R)}(F:Nat->S)(e:Nat->aP R)(m:Nat):∀(n k:Nat),k+n=m->
  (∀j,k<=j->j<m->(∀i,k<=i->i<j->e i=aQ)->body j (F j)=O (L4 (e j)<|F<|j+1))->
  ∃o,Ng body n k (F k)=O o/\((∀j,k<=j->j<m->e j=aQ)/\o = .go (F m)\/∃j r,k<=j/\j<m/\e j=O r/\(∀i,k<=i->i<j->e i=aQ)/\o = .rt r)
 | 0,k,d,_=>⟨_,rfl, .inl ⟨λj b a=>C,H⟩⟩
 |n+1,k,d,c=>by
  have d:=c k (du _) C (λi b a=>C);unfold Ng;rw[d]
  cases f:e k with
  |some r=>exact⟨_,rfl, .inr ⟨k,r,du _,C,f,λi b a=>C,rfl⟩⟩
  |none=>
   obtain⟨o,l,h⟩:=PB F e m n (k+1) C (λj b a d=>c j C a λi c g=>H)
   refine⟨o,l,?_⟩
   rcases h with⟨b,a⟩|⟨j,r,b,a,d,c,g⟩
   ·refine .inl ⟨λj d c=>?_,a⟩
    by_cases h:j=k
    ·subst h;exact f
    ·exact b j C c
   ·refine .inr ⟨j,r,C,a,d,λi h a=>?_,g⟩
    by_cases b:i=k
    ·subst b;exact f
    ·exact c i C a
def Sy{body:Nat->S->aP (Fl S R)}{m:Nat}{s:S}(F:Nat->S)(e:Nat->aP R)(hm:m<=4611686018427387904)(a:F 0=s)
  (h:∀k,k<m->(∀i,i<k->e i=aQ)->body k (F k)=O (L4 (e k)<|F<|k+1)):sV m body s=O (NN (pR m e)<|F m):=by
 subst a;unfold sV;rw[aL hm];obtain⟨a,g,f⟩:=PB F e m m 0 C<|λd _ a b=>h d a λi c=>b i (cT _) c
 rw[g]
 rcases f with⟨f,a⟩|⟨d,g,_,a,b,g,j⟩
 ·rw[nN.2 λk l=>f k (cT _) l,a];rfl
 ·rw[mM.2 ⟨d,a,b,λi c=>g i (cT _) c⟩,j];rfl
def lP{body:Nat->Unit->aP (Fl Unit R)}{m:Nat}(e:Nat->aP R)(hm:m<=4611686018427387904)
  (h:∀k,k<m->(∀i,i<k->e i=aQ)->body k ()=O (L4 (e k) ())):sV m body ()=O (NN (pR m e) ()):=
 Sy (λ_=>()) e hm rfl h
def PC{body:Nat->S->aP S}(F:Nat->S):∀(n k:Nat),(∀j,k<=j->j<k+n->body j (F j)=O (F<|j+1))->QU body n k (F k)=O (F<|k+n)
 | 0,_,_=>rfl
 |n+1,k,a=>by
  unfold QU;rw[a k (du _) C];have:=PC F n (k+1)<|λj b b=>a j C C
  rw[show k+(n+1)=k+1+n by omega];exact this
def Bu{body:Nat->S->aP S}{m:Nat}{s:S}(F:Nat->S)(hm:m<=4611686018427387904)(a:F 0=s)
  (h:∀k,k<m->body k (F k)=O (F<|k+1)):lT m body s=O (F m):=by
 subst a
 simp_all[lT,aL,PC,kx]
def Ej{body:S->aP (Fl S R)}(b:S->Prop)(f:S->Nat)(Go:S->Prop)(Rt:R->Prop)
  (h:∀s,b s->∃c,body s=O c/\match c with| .nx a=>b a/\f a<f s| .br a=>Go a| .rt e=>Rt e):
  ∀(N:Nat)(s:S),b s->f s<N->∃o,gh body N s=O o/\match o with| .go a=>Go a| .rt e=>Rt e
 | 0,s,_,d=>by omega
 |N+1,s,i,d=>by
  obtain⟨c,g,d⟩:=h s i;unfold gh;rw[g]
  cases c with
  |nx a=>exact Ej b f Go Rt h N a d.1 (by have:=d.2;omega)
  |br a=>exact⟨_,rfl,d⟩
  |rt e=>exact⟨_,rfl,d⟩
def PD{body:Nat->S->aP (Fl S R)}(b:Nat->S->Prop)(Go:S->Prop)(Rt:R->Prop)(m:Nat)
  (h:∀k s,k<m->b k s->∃c,body k s=O c/\match c with| .nx a=>b (k+1) a| .br a=>Go a| .rt d=>Rt d) (hg:∀s,b m s->Go s):
  ∀(n k:Nat)(s:S),k+n=m->b k s->∃o,Ng body n k s=O o/\match o with| .go a=>Go a| .rt d=>Rt d
 | 0,k,s,e,f=>⟨_,rfl,hg s (by rw[<-e];exact f)⟩
 |n+1,k,s,e,f=>by
  obtain⟨c,g,e⟩:=h k s C f;unfold Ng;rw[g]
  cases c with
  |nx a=>exact PD b Go Rt m h hg n (k+1) a C e
  |br a=>exact⟨_,rfl,e⟩
  |rt d=>exact⟨_,rfl,e⟩
def Xi{body:Nat->S->aP (Fl S R)}{m:Nat}{s:S}(a:Nat->S->Prop)(Go:S->Prop)(Rt:R->Prop)(hm:m<=4611686018427387904)(d:a 0 s)
  (h:∀k s,k<m->a k s->∃b,body k s=O b/\match b with| .nx b=>a (k+1) b| .br b=>Go b| .rt c=>Rt c) (hg:∀s,a m s->Go s):
  ∃o,sV m body s=O o/\match o with| .go b=>Go b| .rt c=>Rt c:=by
 unfold sV;rw[aL hm];exact PD a Go Rt m h hg m 0 s C d
def PE{body:Nat->S->aP S}(b:Nat->S->Prop)(m:Nat)(h:∀k s,k<m->b k s->∃a,body k s=O a/\b (k+1) a):
  ∀(n k:Nat)(s:S),k+n=m->b k s->∃a,QU body n k s=O a/\b m a
 | 0,k,s,d,c=>⟨_,rfl,H⟩
 |n+1,k,s,d,c=>by
  obtain⟨a,d,e⟩:=h k s C c;unfold QU;rw[d];exact PE b m h n (k+1) a C e
def JG{body:Nat->S->aP S}{m:Nat}{s:S}(b:Nat->S->Prop)(hm:m<=4611686018427387904)(a:b 0 s)
  (h:∀k s,k<m->b k s->∃a,body k s=O a/\b (k+1) a):∃a,lT m body s=O a/\b m a:=by
 simp_all[lT,aL,PE]
end
section
variable {α β:Type}
theorem w(x:α)(f:α->aP β):D (O x) f=f x:=rfl
theorem ma(l:aG α)(k:Nat)(h:k<Z l):A l (k:Int)=O l[k]:=by
 simp[A]
theorem bS{l:aG α}{k:Nat}{x:α}(h:l[k]? =O x):A l (k:Int)=O x:=by
 grind [A,cN]
theorem Kl(s:cU)(k:Nat)(h:k<Z s.eI):Ni s (k:Int)=O s.eI[k]:=by
 simp[Ni]
theorem kn{k:Nat}(h:0<k)(a:k<=4611686018427387904):wrap .i64 ((k:Int) - 1)=((k - 1:Nat):Int):=by
 grind [fG]
theorem pd(l:aG α)(k:Nat)(h:k<=Z l):wX l 0 (k:Int)=O (l.take k):=by
 unfold wX;grind
theorem ti(l:aG α)(k:Nat)(h:k<=Z l):wX l (k:Int) (Z l:Int)=O (l.drop k):=by
 grind [wX,cN,Option.some.injEq,nR,iz]
theorem jA{b:Nat}{l ys:aG α}(h:(Z l+Z ys)*b<=140737488355328):gx b l ys=O (l++ys):=by grind [gx]
def vW{b:Nat}(z:α){n:Nat}(h:n*b<=140737488355328):mk b z (n:Int)=O (List.replicate n z):=by
 unfold mk
 grind
end
theorem cU.ext'{a b:cU}(h:a.eI=b.eI):a=b:=by cases a;simp_all
theorem tG{a b:cU}:a.sU b=aA↔a=b:=by
 grind [cU.sU,cU.ext']
theorem xN{a b:cU}:a.sU b=aK↔a≠b:=by grind [tG]
theorem NO(a b:cU):a.sU b=decide (a=b):=by grind [tG]
theorem VA(a:cU):a.sU a=true:=tG.2 rfl
def IE:∀(a:aG UInt8),Op.bytesLess a a=aK
 | []=>rfl
 |a::b=>by
  unfold Op.bytesLess;rw[IE b];simp
def Km:∀{a b c:aG UInt8},Op.bytesLess a b=aA->Op.bytesLess b c=aA->Op.bytesLess a c=aA
 | [],[],_,d,_=>by simp[Op.bytesLess]at d
 | [],_::_,[],_,d=>by simp[Op.bytesLess]at d
 | [],_::_,_::_,_,_=>rfl
 |_::_,[],_,d,_=>by simp[Op.bytesLess]at d
 |_::_,_::_,[],_,d=>by simp[Op.bytesLess]at d
 |a::f,b::g,c::h,e,d=>by
  unfold Op.bytesLess at e d ⊢;simp only[jk,dE,dZ,beq_iff_eq]at e d ⊢
  rcases e with e|⟨rfl,e⟩
  ·rcases d with d|⟨rfl,d⟩
   ·exact .inl<|UInt8.lt_trans e d
   ·exact .inl e
  ·rcases d with d|⟨rfl,d⟩
   ·exact .inl d
   ·exact .inr ⟨rfl,Km e d⟩
def Kn:∀(a b:aG UInt8),Op.bytesLess a b=aA\/a=b\/Op.bytesLess b a=aA
 | [],[]=> .inr (.inl rfl)
 | [],_::_=> .inl rfl
 |_::_,[]=> .inr (.inr rfl)
 |a::f,b::g=>by
  unfold Op.bytesLess;simp only[jk,dE,dZ,beq_iff_eq]
  by_cases c:a<b
  ·exact .inl<|.inl c
  ·by_cases d:b<a
   ·exact .inr<|.inr<|.inl d
   ·have e:a=b:=by
     simp only[UInt8.lt_iff_toNat_lt]at c d;exact UInt8.toNat_inj.1 C
    subst e
    rcases Kn f g with c|c|c
    ·exact .inl<|.inr ⟨rfl,c⟩
    ·exact .inr<|.inl (by rw[c])
    ·exact .inr<|.inr<|.inr ⟨rfl,c⟩
def vD:∀(a b:aG UInt8),Lib.compareBytes a b<0↔Op.bytesLess a b=aA
 | [],[]=>by simp[Lib.compareBytes,Op.bytesLess]
 | [],_::_=>by simp[Lib.compareBytes,Op.bytesLess]
 |_::_,[]=>by simp[Lib.compareBytes,Op.bytesLess]
 |a::g,b::h=>by
  unfold Lib.compareBytes Op.bytesLess;simp only[jk,dE,dZ,beq_iff_eq];split
  ·simp_all
  ·rename_i c;split
   ·rename_i e;have f:a≠b:=λd=>by subst d;exact c e
    simp[c,f]
   ·rename_i e;have d:a=b:=by
     simp only[UInt8.lt_iff_toNat_lt]at c e;exact UInt8.toNat_inj.1 C
    subst d;rw[vD g h];simp[c]
theorem tP:∀(a b:aG UInt8),Lib.compareBytes a b=0↔a=b
 | [],[]=>by simp[Lib.compareBytes]
 | [],_::_=>by simp[Lib.compareBytes]
 |_::_,[]=>by simp[Lib.compareBytes]
 |a::g,b::h=>by
  unfold Lib.compareBytes;split
  ·rename_i d;have f:a≠b:=λc=>by subst c;exact absurd d G
   simp[f]
  ·rename_i d;split
   ·rename_i e;have f:a≠b:=λc=>by subst c;exact d e
    simp[f]
   ·rename_i e;have c:a=b:=by
     simp only[UInt8.lt_iff_toNat_lt]at d e;exact UInt8.toNat_inj.1 C
    subst c;rw[tP g h];simp
def cU.lt(a b:cU):Prop:=a.v7 b=aA
theorem cU.lt_irrefl(a:cU):¬cU.lt a a:=by simp[cU.lt,cU.v7,IE,decide]
theorem cU.lt_trans{a b c:cU}(h1:cU.lt a b)(h2:cU.lt b c):cU.lt a c:=Km h1 h2
theorem cU.GO(a b:cU):cU.lt a b\/a=b\/cU.lt b a:=by
 rcases Kn a.eI b.eI with c|c|c
 ·exact .inl c
 ·grind [cU.ext']
 ·exact .inr<|.inr c
theorem cU.Ko{a b:cU}(h:cU.lt a b):a≠b:=by grind [cU.lt_irrefl]
theorem cU.lt_asymm{a b:cU}(h:cU.lt a b):¬cU.lt b a:=by grind [cU.lt_irrefl,cU.lt_trans]
theorem Xj{a b:cU}:(a.v7 b||a.sU b)=aK↔cU.lt b a:=by
 grind [Bool.or_eq_false_iff,xN,cU.GO,cU.lt,cU.Ko,cU.lt_asymm]
end Go.Gk
namespace Go.Gk
open Go IntKind
class Bk (α:Type)where
 bk:α->Nat
 pos:∀x,1<=bk x
def bk{α:Type}[Bk α](x:α):Nat:=Bk.bk x
def Rb{α:Type}[Bk α](x:α):1<=bk x:=Bk.pos x
instance:Bk cU:=⟨λs=>s.eI.length+1,λ_=>C⟩
instance:Bk Int:=⟨λ_=>1,λ_=>C⟩
instance:Bk Bool:=⟨λ_=>1,λ_=>C⟩
instance {α:Type} [Bk α]:Bk (aG α):=⟨λl=>(l.map bk).sum+1,λ_=>C⟩
def Rc{α:Type}[Bk α]:bk ([]:aG α)=1:=rfl
def GP{α:Type}[Bk α](x:α)(l:aG α):bk (x::l)=bk x+bk l:=by
 rfl
def Bv{α:Type}[Bk α]:∀{l:aG α}{x:α},x∈l->bk x+1<=bk l
 |b::l,x,a=>by
  rw[GP]
  rcases eO.1 a with a|a
  ·subst a;have:=Rb l;omega
  ·have:=Bv a;omega
def FK{α:Type}[Bk α]{l:aG α}{k:Nat}{x:α}(h:l[k]? =O x):bk x+1<=bk l:=Bv<|eR h
theorem mB{α:Type}[Bk α]:∀(l:aG α),Z l+1<=bk l
 | []=>by rw[Rc];simp
 |a::l=>by rw[GP,eK];have:=mB l;have:=Rb a;omega
theorem Bw(s:cU):bk s=Z s.eI+1:=rfl
theorem Sz{α:Type}[Bk α]:∀(l:aG α)(k:Nat),bk (l.take k)<=bk l
 | [],k=>by simp
 |a::l,0=>by rw[List.take_zero,Rc];exact Rb _
 |a::l,k+1=>by rw[List.take_succ_cons,GP,GP];have:=Sz l k;omega
section
variable {α R:Type}
theorem Tt{l:aG α}{e:Nat->aP R}(f:α->aP R)(h:∀k x,l[k]? =O x->e k=f x):pR (Z l) e=l.findSome? f:=by
 cases a:pR (Z l) e with
 |none=>
  grind [List.findSome?_eq_none_iff,dM,nN,bR]
 |some b=>
  obtain⟨k,b,b,b⟩:=mM.1 a;refine(List.findSome?_eq_some_iff.2 ⟨l.take k,l[k],l.drop<|k+1,?_,?_,λa a=>?_⟩).symm
  ·simp
  ·grind
  grind [dM,bR,cQ,List.getElem?_take_of_lt]
def NP(l:aG α)(p:α->Bool)(r:R):l.findSome? (λa=>if p a=aA then O r else aQ)=if l.any p=aA then O r else none:=by
 induction l with
 |nil=>simp
 |cons a l b=>
  grind
def GQ{l:aG α}{body:Nat->Unit->aP (Fl Unit R)}(f:α->aP R)(hl:Z l<=4611686018427387904)
  (h:∀k x,l[k]? =O x->body k ()=O (L4 (f x) ())):sV (Z l) body ()=O (NN (l.findSome? f) ()):=by
 have a:=lP (body:=body) (m:=Z l) (λk=>D (l[k]?) f) hl (λk a _=>H)
 grind [Tt]
def GR{l:aG α}{body:Nat->Unit->aP (Fl Unit R)}(p:α->Bool)(r:R)(hl:Z l<=4611686018427387904)
  (h:∀k x,l[k]? =O x->body k ()=O (if p x=aA then .rt r else .nx ())):sV (Z l) body ()=O (if l.any p=aA then .rt r else .go ()):=by
 rw[GQ (λx=>if p x=aA then O r else aQ) hl (λk x a=>by rw[h k x a];cases p x <;> rfl),NP]
 cases l.any p <;> rfl
end
def Xk{β:Type}(b:Bool)(x y:β):(bif b then O x else O y)=O (bif b then x else y):=H
section
variable {α β:Type}
def OI(l:aG α)(p:α->Bool):Int:=match l.findIdx? p with|some k=>(k:Int)|none=> -1
theorem GS{l:aG α}{p:α->Bool}(h:l.any p=aK):OI l p = -1:=by
 unfold OI
 grind
def Kp{l:aG α}{p:α->Bool}{k:Nat}{x:α}(a:l[k]? =O x)(b:p x=aA)(b:∀j y,j<k->l[j]? =O y->p y=aK):OI l p=(k:Int):=by
 unfold OI;have b:=(bR.1 a).1;have:l.findIdx? p=O k:=by
  rw[List.findIdx?_eq_some_iff_getElem]
  grind
 rw[this]
theorem qI(l:aG α)(p:α->Bool):(OI l p = -1/\∀x∈l,p x=aK)\/∃k x,OI l p=((k:Nat):Int)/\l[k]? =O x/\p x=aA/\∀j y,j<k->l[j]? =O y->p y=false:=by
 unfold OI
 cases a:l.findIdx? p with
 |none=>grind
 |some k=>
  grind [List.findIdx?_eq_some_iff_getElem,aM]
theorem HM(l:aG α)(p:α->Bool):decide (OI l p>=0)=l.any p:=by
 grind [qI,List.any_eq_false,decide,ky,eR]
def Bx(p0:aG α)(p1:α->aP Bool):aP Int:=
 D (sV (Z p0) (λ(a:Nat)(_:Unit)=>(D (A p0 (a:Int)) λd=>D (p1 d) λc=>bif c then O (.rt (a:Int))else(O<|.nx ()):aP (Fl Unit Int))) ()) λb=>b.cs (λ(_:Unit)=>O<|-1)<|λr=>O r
def vX{l:aG α}{φ:α->aP Bool}(p:α->Bool)(hl:Z l<=4611686018427387904)(h:∀x∈l,φ x=O (p x)):Bx l φ=O (OI l p):=by
 unfold Bx
 rw[lP (λa=>D (l[a]?) λx=>if p x=aA then O ((a:Nat):Int)else aQ) hl (λa a _=>by
  grind [ma,w,cH,aM,L4]),w]
 grind [qI,nN,aM,cH,NN,Fo.cs,mM,bR]
def tj(p0:aG α)(p1:α->aP Bool):aP Bool:=
 D (Bx p0 p1) λa=>O<|decide<|a>=0
def sD{l:aG α}{φ:α->aP Bool}(p:α->Bool)(hl:Z l<=4611686018427387904)(h:∀x∈l,φ x=O (p x)):tj l φ=O (l.any p):=by
 simp_all[tj,vX,w,HM]
def VB [DecidableEq α](p0:aG α)(p1:α):aP Int:=
 D (sV (Z p0) (λ(a:Nat)(_:Unit)=>(D (A p0 (a:Int)) λc=>bif p1=c then O (.rt (a:Int))else(O<|.nx ()):aP (Fl Unit Int))) ()) λb=>b.cs (λ(_:Unit)=>O<|-1)<|λr=>O r
theorem Tu [DecidableEq α]{l:aG α}{a:α}(hl:Z l<=4611686018427387904):VB l a=O (OI l<|λb=>decide<|a=b):=by
 have:=vX (l:=l) (φ:=λb=>O<|decide<|a=b) (λb=>decide<|a=b) hl<|λ_ _=>rfl
 rw[<-this];rfl
def HN [DecidableEq α](p0:aG α)(p1:α):aP Bool:=D (VB p0 p1) λa=>O<|decide<|a>=0
theorem NQ [DecidableEq α]{l:aG α}{a:α}(hl:Z l<=4611686018427387904):HN l a=O (decide<|a∈l):=by
 grind [HN,Tu,w,HM,Option.some.injEq]
def Rf [DecidableEq α](p0 p1:aG α):aP Bool:=
 bif(Z p0:Int) != (Z p1:Int)then O aK else(D (sV (Z p0) (λ(a:Nat)(_:Unit)=>(D (A p0 (a:Int)) λc=>D (A p1 (a:Int)) λd=>bif(!(decide<|c=d))then O (.rt aK)else(O<|.nx ()):aP (Fl Unit Bool))) ()) λb=>b.cs (λ(_:Unit)=>O aA)<|λr=>O r)
def HO [DecidableEq α]{l m:aG α}(hl:Z l<=4611686018427387904):Rf l m=O (decide<|l=m):=by
 unfold Rf
 by_cases c:Z l=Z m
 ·have b:((Z l:Int) != (Z m:Int))=false:=by rw[c];simp
  rw[b,aR]
  rw[lP (λa=>if l[a]? =m[a]? then aQ else O aK) hl (λa d _=>by
   grind [ma,w,aM,L4]),w]
  by_cases e:l=m
  ·grind [nN,NN,Fo.cs]
  ·have:∃d,pR (Z l) (λa=>if l[a]? =m[a]? then aQ else O aK)=O d:=by
    cases f:pR (Z l) (λa=>if l[a]? =m[a]? then aQ else O aK)with
    |some d=>simp
    |none=>
     exfalso;refine e<|List.ext_getElem? λa=>?_
     grind [nN,List.getElem?_eq_none]
   grind [mM,NN,Fo.cs]
 ·have b:((Z l:Int) != (Z m:Int))=true:=by simp;omega
  rw[b,aN,bW<|λa=>c (by rw[a])]
def jx(key:α->cU)(l:aG α):Prop:=∀(i j:Nat)(x y:α),i<j->l[i]? =O x->l[j]? =O y->cU.lt (key x) (key y)
theorem Tv{key:α->cU}{l:aG α}(h:∀k x y,l[k]? =O x->l[k+1]? =O y->cU.lt (key x) (key y)):jx key l:=by
 intro a a
 induction a with
 |zero=>omega
 |succ a b=>
  grind [bR,cU.lt_trans,aM]
def jx.inj{key:α->cU}{l:aG α}(h:jx key l){i j:Nat}{x y:α}(hx:l[i]? =O x)(hy:l[j]? =O y)(e:key x=key y):i=j:=by
 rcases Nat.lt_trichotomy i j with a|a|a
 ·exact absurd e<|cU.Ko<|h i j x y a hx hy
 ·exact a
 ·exact absurd e.symm<|cU.Ko<|h j i y x a hy hx
def l0(key:α->cU)(l:aG α)(s:cU):Int:=OI l<|λx=>(key x).sU s
def L5(N:Nat)(p0:aG α)(p1:β)(p2:α->β->aP Int):aP (Int×Bool):=
 D (gh (λ(a:Int×Int)=>(bif a.1<a.2 then(D (A p0<|wrap .i64<|Int.fdiv (wrap .u64<|wrap .i64<|a.1+a.2) 2) λe=>D (p2 e p1) λf=>D (bif f<0 then O (wrap .i64<|wrap .i64 (Int.fdiv (wrap .u64<|wrap .i64<|a.1+a.2) 2)+1,a.2)else O (a.1,wrap .i64<|Int.fdiv (wrap .u64<|wrap .i64<|a.1+a.2) 2)) λb=>O<|.nx (b.1,b.2))else(O<|.br (a.1,a.2)):aP (Fl (Int×Int) Empty))) N (0,(Z p0:Int))) λc=>c.cs (λ(a:Int×Int)=>D (bif decide (a.1<(Z p0:Int))then(D (A p0 a.1) λg=>D (p2 g p1) λh=>O<|h==0)else O aK) λd=>O (a.1,d))<|λr=>r.elim
def MI{a b:Nat}(h:a<b)(c:b<=4611686018427387904):wrap .i64 (Int.fdiv (wrap .u64<|wrap .i64<|(a:Int)+(b:Int)) 2)=(((a+b) / 2:Nat):Int):=by
 rw[fG (x:=(a:Int)+(b:Int)) C C];have c:wrap .u64 ((a:Int)+(b:Int))=((a+b:Nat):Int):=by
  show((a:Int)+b) % 18446744073709551616=_;omega
 grind [Int.fdiv_eq_ediv_of_nonneg,fG]
def NR{N:Nat}{key:α->cU}{l:aG α}{s:cU}{φ:α->cU->aP Int}(B:∀x,φ x s=O (Lib.compareBytes (key x).eI s.eI))(z:jx key l)
  (hl:Z l<=1048576) (R:4194304<=N):∃r,L5 N l s φ=O r/\(bif(!r.2)then O (-1)else O r.1)=O (l0 key l s):=by
 unfold L5;have k:=Ej (S:=Int×Int) (R:=Empty)
  (body:=(λ(f:Int×Int)=>(bif f.1<f.2 then(D (A l<|wrap .i64<|Int.fdiv (wrap .u64<|wrap .i64<|f.1+f.2) 2) λM=>D (φ M s) λP=>D (bif P<0 then O (wrap .i64<|wrap .i64 (Int.fdiv (wrap .u64<|wrap .i64<|f.1+f.2) 2)+1,f.2)else O (f.1,wrap .i64<|Int.fdiv (wrap .u64<|wrap .i64<|f.1+f.2) 2)) λE=>O<|.nx (E.1,E.2))else(O<|.br (f.1,f.2)):aP (Fl (Int×Int) Empty))))
  (λd=>∃a c:Nat,d=((a:Int),(c:Int))/\a<=c/\c<=Z l/\(∀b x,b<a->l[b]? =O x->cU.lt (key x) s)/\(∀b x,c<=b->l[b]? =O x->¬cU.lt (key x) s))
  (λd=>(d.2 - d.1).toNat)
  (λd=>∃a:Nat,d.1=(a:Int)/\a<=Z l/\(∀b x,b<a->l[b]? =O x->cU.lt (key x) s)/\(∀b x,a<=b->l[b]? =O x->¬cU.lt (key x) s))
  (λ_=>True) (by
   rintro d⟨a,c,rfl,S,G,m,t⟩
   by_cases i:a<c
   ·have y:(a+c) / 2<Z l:=by omega
    have h:decide ((a:Int)<(c:Int))=true:=by grind
    simp only[h,aN,MI i C,ma l _ y,w,B]
    by_cases j:Lib.compareBytes (key l[(a+c) / 2]).eI s.eI<0
    ·have u:cU.lt (key l[(a+c) / 2]) s:=(vD _ _).1 j;simp only[j,decide_true,aN,w];refine⟨_,rfl,⟨(a+c) / 2+1,c,?_,C,G,λb x e g=>?_,t⟩,?_⟩
     ·grind [fG]
     ·by_cases p:b=(a+c) / 2
      ·grind
      ·exact cU.lt_trans (z b _ x _ C g<|aM y) u
     grind [fG]
    ·have u:¬cU.lt (key l[(a+c) / 2]) s:=λk=>j<|(vD _ _).2 k
     simp only[j,decide_false,aR,w];refine⟨_,rfl,⟨a,(a+c) / 2,rfl,C,C,m,λb x e g=>?_⟩,C⟩
     by_cases p:b=(a+c) / 2
     ·grind
     ·exact λn=>u<|cU.lt_trans (z _ b _ x C (aM y) g) n
   ·have h:decide ((a:Int)<(c:Int))=false:=by grind
    simp only[h,aR]
    grind)
  N (0,(Z l:Int)) ⟨0,Z l,rfl,C,du _,λb x e=>C,λb x e g=>H⟩ C
 obtain⟨L,J,j⟩:=k;rw[J,w]
 cases L with
 |rt r=>exact r.elim
 |go d=>
  obtain⟨a,F,lm,m,t⟩:=j;simp only[Fo.cs,F]
  by_cases i:a<Z l
  ·have h:decide ((a:Int)<(Z l:Int))=true:=by rw[dZ];omega
   simp only[h,aN,ma l _ i,w,B];refine⟨_,rfl,?_⟩
   by_cases o:key l[a]=s
   ·have q:Lib.compareBytes (key l[a]).eI s.eI=0:=(tP _ _).2 (by rw[o]);simp only[q,BEq.rfl,iL,aR];unfold l0;rw[Kp (aM i) (tG.2 o) (λb Q e K=>by rw[xN];exact cU.Ko<|m b Q e K)]
   ·have q:(Lib.compareBytes (key l[a]).eI s.eI==0)=false:=by
     rw[beq_eq_false_iff_ne];intro k;exact o<|cU.ext'<|(tP _ _).1 k
    simp only[q,lU,aN];unfold l0;rw[GS];rw[List.any_eq_false];intro x g;rw[mz,xN];obtain⟨b,e⟩:=dM g;intro v
    by_cases I:b<a
    ·exact cU.Ko (m b x I e) v
    ·by_cases p:b=a
     ·subst p;rw[aM i]at e;injection e with e;subst e;exact o v
     ·have n:=z a b _ x C (aM i) e;rw[v]at n;exact t a _ (du _) (aM i) n
  ·have h:decide ((a:Int)<(Z l:Int))=false:=by rw[decide_eq_false_iff_not];omega
   simp only[h,aR,w];refine⟨_,rfl,?_⟩;simp only[lU,aN];unfold l0;rw[GS];rw[List.any_eq_false];intro x g;rw[mz,xN];obtain⟨b,e⟩:=dM g;have:=(bR.1 e).1;exact cU.Ko<|m b x C e
def acp(key:α->cU)(p0:aG α)(p1:cU):aP Int:=
 D (sV (Z p0) (λ(a:Nat)(_:Unit)=>(D (A p0 (a:Int)) λc=>bif(key c).sU p1 then O (.rt (a:Int))else(O<|.nx ()):aP (Fl Unit Int))) ()) λb=>b.cs (λ(_:Unit)=>O<|-1)<|λr=>O r
def Kq{key:α->cU}{l:aG α}{s:cU}(hl:Z l<=4611686018427387904):acp key l s=O (l0 key l s):=by
 have:=vX (l:=l) (φ:=λa=>O<|(key a).sU s) (λa=>(key a).sU s) hl<|λ_ _=>rfl
 unfold l0;rw[<-this];rfl
def rK(key:α->cU)(l:aG α)(k:Nat):Bool:=match l[k]?,l[k - 1]? with|some x,O y=>decide (0<k)&&((key x).v7 (key y)||(key x).sU (key y))|_,_=>aK
def Dg(key:α->cU){l:aG α}{k:Nat}{x:α}(hx:l[k]? =O x)(hl:Z l<=1048576):
  (bif decide ((k:Int)>0)then(D (A l<|wrap .i64<|(k:Int) - 1) λa=>O<|(key x).v7 (key a)||(key x).sU (key a))else O aK)=O (rK key l k):=by
 grind [bR,rK,bN,kn,ma,w,aM]
def vY{key:α->cU}{l:aG α}(h:∀k,k<Z l->rK key l k=aK):jx key l:=by grind [Tv,bR,rK,yY,decide_true,Xj]
end
end Go.Gk
namespace Go.Gk
open Go IntKind Go.ChangeShapes Go.WideShapes Go.RowKit
structure UB (ub:(H:Type)->DataW H->Nat) (ua:(H:Type)->List (DataW H)->Nat):Prop where
 str:∀(H:Type)(b:List UInt8),ub H (.lit<|.string b)=Z b+1
 pos:∀(H:Type)(d:DataW H),1<=ub H d
 sl:∀(H:Type)(e s:List (DataW H)),ub H (.slice e s)=ua H e+ua H s+1
 ag:∀(H:Type)(l:List (DataW H)),ub H (.agg l)=ua H l+1
 nil:∀(H:Type),ua H []=0
 cons:∀(H:Type)(x:DataW H)(l:List (DataW H)),ua H (x::l)=ub H x+ua H l
def Hw(w:aT):fA:=λb=>w.heap[b]?
structure ko (ub:(H:Type)->DataW H->Nat) (P:Program) (T:TypeId) (α:Type) [s α] [Bk α]:Prop where
 trod:∀{H:Type}{enc:TypeId×Value->H}{w:World}{base:Nat}{spare:Nat->Bool}{held:Bool}{fuel:Nat}{cs:List Value}{d:DataW H×List MemPlace},
  DataW.trod enc P w base spare held fuel T cs=O d->∃x:α,s.ok (Hw w) cs x/\bk x<=ub H d.1
 shp:∀{w:World}{r:Reach}{base:Nat}{v:Value},Value.okWide P w r base T v->v=CU α v.cells.toList
section
variable {c:(H:Type)->DataW H->Nat}{j:(H:Type)->List (DataW H)->Nat}{P:Program}{T e:TypeId}
def Tw(u:UB c j)(b:P.underlying T=O (.int .i64)):ko c P T Int where
 trod:=λa=>by
  obtain⟨d,rfl,rfl,_⟩:=DataW.trod_int b a;exact⟨d,rfl,u.pos _ _⟩
 shp:=λa=>by obtain⟨d,rfl⟩:=okWide_int b a;rfl
def Rg(u:UB c j)(b:P.underlying T=O .bool):ko c P T Bool where
 trod:=λa=>by
  obtain⟨d,rfl,rfl⟩:=DataW.trod_bool b a;exact⟨d,rfl,u.pos _ _⟩
 shp:=λa=>by obtain⟨d,rfl⟩:=okWide_bool b a;rfl
def Tx(u:UB c j)(d:P.underlying T=O .string):ko c P T cU where
 trod:=λb=>by
  obtain⟨a,rfl,rfl,_⟩:=DataW.trod_string d b;refine⟨⟨a.data.toList⟩,?_,?_⟩
  ·show [Value.string a]= [Gk.str ⟨a.data.toList⟩]
   cases a;rfl
  ·rw[u.str];exact du _
 shp:=λb=>by obtain⟨a,rfl⟩:=okWide_string d b;rfl
def IF{α:Type}{R:Nat->α->Prop}:∀(n:Nat),(∀i,i<n->∃x,R i x)->∃l:aG α,Z l=n/\∀i x,l[i]? =O x->R i x
 | 0,_=>⟨[],rfl,λi x b=>by simp at b⟩
 |n+1,b=>by
  obtain⟨l,c,d⟩:=IF n<|λi e=>b i C
  obtain⟨x,f⟩:=b n C;refine⟨l++[x],by simp[c],λi g a=>?_⟩
  by_cases e:i<n
  ·rw[my C]at a;exact d i g a
  ·have:=(bR.1 a).1;rw[cK]at this;have:i=n:=by simp at this;omega
   subst this;rw[ly C,c]at a;simp at a;subst a;exact f
def MJ{H α:Type}[Bk α](u:UB c j):∀{l:List α}{es:List (DataW H×List MemPlace)},Z l=Z es->
  (∀(i:Nat)(x:α)(y:DataW H×List MemPlace),l[i]? =O x->es[i]? =O y->bk x<=c H y.1)->bk l<=j H (es.map (·.1))+1
 | [],[],_,_=>by rw[Rc];omega
 |x::l,y::es,b,a=>by
  have d:=a 0 x y rfl rfl;have d:=MJ (H:=H) u (l:=l) (es:=es) (by simpa using b)<|λi x y b d=>a (i+1) x y (by simpa using b) (by simpa using d)
  rw[GP,gQ,u.cons];omega
def PF{w:aT}{b:Nat}{a:Addr}{n:Nat}{cs:aG F}(h:w.cells? b a n=O cs):At (Hw w) a cs:=by
 intro e b c;obtain⟨_,b,d⟩:=World.cells?_some h;have b:=(bR.1 c).1;have b:=d e C;rw[c]at b;unfold Gg Hw;unfold World.cell? at b;exact b
def oE{α:Type}[s α][Bk α](u:UB c j)(he:ko c P e α)(t:P.underlying T=O (.slice e):=by kernel_rfl)(hc:P.cellsOf e=s.sz α:=by kernel_rfl):ko c P T (List α)where
 trod:=λ{H enc w J Q L K cs d}o=>by
  rcases DataW.trod_slice t o with⟨rfl,rfl⟩|⟨i,q,x,n,N,I,_,rfl,rfl,_,F,A,M,B,_⟩
  ·exact⟨[],⟨_,rfl,aQ,0,0,rfl,rfl,du _,by simp[maxLen],λa b h=>by simp at h⟩,u.pos _ _⟩
  ·have y:∀a,a<q->∃b:α,(∃f m,s.ok (Hw w) f b/\At (Hw w) (i.add<|a*s.sz α) f/\n[a]? =O m/\bk b<=c H m.1):=by
    intro a D;have k:=B a D;rw[aM (by omega:a<Z n),Option.bind_eq_some_iff]at k;obtain⟨f,l,g⟩:=k;obtain⟨b,p,z⟩:=he.trod g;refine⟨b,f,_,p,?_,aM C,z⟩;rw[hc]at l;exact PF l
   obtain⟨v,E,r⟩:=IF q y;refine⟨v,⟨_,rfl,O i,q,x,rfl,E.symm,F,A,λa b h=>?_⟩,?_⟩
   ·obtain⟨f,m,k,l,_⟩:=r a b h;exact⟨i,f,rfl,k,l⟩
   ·have:=MJ (H:=H) u (l:=v) (es:=n) C (λa b m h G=>by
     obtain⟨f,R,_,_,g,p⟩:=r a b h
     rw[G]at g;injection g with g;subst g;exact p)
    rw[u.sl];omega
 shp:=λo=>by obtain⟨i,I,f,rfl⟩:=okWide_slice t o;rfl
def SA(c:(H:Type)->DataW H->Nat)(j:(H:Type)->List (DataW H)->Nat)(P:Program)(b:Nat)(a:List Field)(β:Type)[s β](m:β->Nat):Prop:=
 ∀{H:Type}{enc:TypeId×Value->H}{w:World}{d:Nat}{g:Nat->Bool}{e:Bool}{n:Nat}{cs:List Value}{ys:List (DataW H×List MemPlace)},
  (∀(i:Nat)(f:Field),a[i]? =O f->DataW.trod enc P w d g e n f.type ((cs.drop f.offset).take<|P.cellsOf f.type)=ys[i]?)->Z ys=Z a->
  Z cs=b+s.sz β->∃x:β,s.ok (Hw w) (cs.drop b) x/\m x<=j H (ys.map (·.1))
def pf{β:Type}[s β][Bk β]{a:Nat}{f:Field}(u:UB c j)(h:ko c P f.type β)(d:f.offset=a:=by exact rfl)(hc:P.cellsOf f.type=s.sz β:=by kernel_rfl):SA c j P a [f] β bk:=by
 intro a a a a a a a a e b a g
 match e,a with
 | [e],_=>
  have a:=b 0 f rfl;rw[d,hc,nR (by rw[iz];omega)]at a;obtain⟨d,b,g⟩:=h.trod (d:=e) a;exact⟨d,b,by rw[gQ,u.cons];omega⟩
def gm{α β:Type}[s α][s β][Bk α]{a d:Nat}{f:Field}{b:aG Field}{m:β->Nat}(u:UB c j)(h:ko c P f.type α)(hr:SA c j P d b β m)(k:f.offset=a:=by exact rfl)(hc:P.cellsOf f.type=s.sz α:=by kernel_rfl)(n:d=a+s.sz α:=by exact rfl):SA c j P a (f::b) (α×β) (λa=>bk a.1+m a.2):=by
 intro b b b b b b o i d g b e;have e:s.sz (α×β)=s.sz α+s.sz β:=rfl
 match d,b with
 |l::d,b=>
  have e:=g 0 f rfl;rw[k,hc]at e;obtain⟨a,k,p⟩:=h.trod (d:=l) e;obtain⟨e,l,p⟩:=hr (n:=o) (cs:=i) (ys:=d) (λo d i=>g (o+1) d i) (by simpa using b) C;refine⟨(a,e),⟨_,_,?_,k,l⟩,?_⟩
  ·rw[n,<-List.drop_drop,List.take_append_drop]
  ·rw[gQ,u.cons];show bk a+m e<=_;omega
def kJ{γ β:Type}[s β][Bk γ]{a:Array Field}{m:β->Nat}(u:UB c j)(f:γ->β)(g:β->γ)(k:∀b,f (g b)=b)(e:P.underlying T=O (.struct a))(h:SA c j P 0 a.toList β m)(hm:∀b,bk (g b)<=m b+1)(hc:P.cellsOf T=s.sz β:=by kernel_rfl): @ko c P T γ (s.via f) _:=
 @ko.mk c P T γ (s.via f) _
  (λ{H enc w a n l i cs d}a=>by
   obtain⟨o,l,_,rfl,i,n,i⟩:=DataW.trod_struct e a;obtain⟨b,a,p⟩:=h (n:=l) (cs:=cs) (ys:=o) (λo g l=>i o g (by rw[<-Array.getElem?_toList];exact l)) (by rw[n];simp) C;refine⟨g b,?_,?_⟩
   ·show s.ok (Hw w) cs (f<|g b);rw[k];exact a
   ·rw[u.ag];have:=hm b;omega)
  (λa=>by
   obtain⟨cs,rfl,_⟩:=okWide_struct e a
   cases cs;rfl)
def ko.arg{H:Type}{enc:TypeId×Value->H}{w:World}{a:Nat}{g:Nat->Bool}{b:Bool}{r:Reach}{b0:Nat}{v:Value}{d:DataW H}{e:List MemPlace}{α:Type}[s α][Bk α](o:ko c P T α)
  (f:Value.okWide P w r b0 T v) (hd:DataW.Trod enc P w a g b T v d e):∃x:α,E6 (Hw w) v x/\bk x<=c H d:=by
 obtain⟨a,e⟩:=hd;obtain⟨x,a,b⟩:=o.trod e;exact⟨x,⟨_,o.shp f,a⟩,b⟩
def ko.aei{H:Type}{enc:TypeId×Value->H}{w:World}{a:Nat}{g:Nat->Bool}{b:Bool}{r:Reach}{b0:Nat}{v:Value}{d:DataW H}{f:List MemPlace}{α:Type}[Sc α][Bk α](o:ko c P T α)
  (e:Value.okWide P w r b0 T v) (hd:DataW.Trod enc P w a g b T v d f):∃x:α,v=Sc.toV x/\bk x<=c H d:=by
 obtain⟨x,a,b⟩:=o.arg e hd;exact⟨x,QQ.1 a,b⟩
end
def Calls.fin{P:bG}{f:FuncId}{args:aY F}{w:aT}{R Q:F->aT->Prop}(h:Calls P f args w (eE R))(k:∀v w',R v w'->Q v w'):
  Calls P f args w (λa b=>∃v,a = .returned v/\Q v b):=Calls.mono h λ_ w'⟨v,a,b⟩=>⟨v,a,k v w' b⟩
def jI(W:aT):HP:=⟨λM h=>lm (Hw W) M/\h=yO,λk⟨a,b⟩=>⟨Ta a k,b⟩⟩
def B.begin(W:aT):B W W [jI W]:=by
 refine⟨Hw W,λ_=>yO,⟨rfl,rfl,rfl,du _,λa a a=>a,λc Pr b=>?_,λ_ _ _ _ a=>(by cases a),λ_ _ _ _ a=>(by cases a),λ_ _ _ _ _ _ _ a=>(by cases a)⟩⟩
 match c,b with
 | 0,b=>simp at b;subst b;exact⟨UC _,rfl⟩
def B.VC{α:Type}[s α]{W:aT}{V:aG HP}{v:F}{x:α}(h:B W W (V++[jI W]))(c:Gk.E6 (Hw W) v x):B W W (Y v x::(V++[jI W])):=
 h.JR λa a a=>by
  have b:=(a.sat (Z V) (jI W) G).1;exact⟨c.mono b,rfl⟩
def B.kept{E W w:aT}{V:aG HP}(h:B E w (V++[jI W]))(he:E=W):Below W.heap.size W w:=by
 subst he;obtain⟨a,a,b⟩:=h;have e:=(b.sat (Z V) (jI E) G).1;have d:∀a c,E.heap[a]? =O c->w.heap[a]? =O c:=λa c f=>b.im a c<|e a c f
 refine⟨b.os,b.tape,b.out,?_,λa b=>?_⟩
 ·by_cases c:E.heap.size=0
  ·omega
  ·have c:=d (E.heap.size - 1) _<|kV C
   have:=(Array.getElem?_eq_some_iff.1 c).1;omega
 ·rw[kV b];exact d a _<|kV b
section
variable {H:Type}{enc:bJ×F->H}{P:bG}
def Tz{f:Func}{s:ChangeSpec}{h o q l:Bool}{W a:World}{args:Array Value}{v:Value}{d gs:List (DataW H)}{c pa pv:List MemPlace}
  (g:DataW.Whole enc P f.params.toList s.vars h W args.toList d gs c)
  (m:∀(b:Nat)(sp:Nat->Bool)(hd:Bool),DataW.TrodAll enc P a b sp hd f.resultTypes.toList (v.resultList f.resultTypes.size) (s.fn H<|d++gs).results [])
  (i:∀sp:Nat->Bool,(∀p∈c,sp p.block=aA)->DataW.TrodAll enc P a 0 sp aA f.params.toList args.toList (s.fn H<|d++gs).args pa)
  (n:∀sp:Nat->Bool,(∀p∈c,sp p.block=aA)->DataW.TrodVars enc P a sp s.vars (s.fn H<|d++gs).vars pv)
  (e:c=pa++pv) (k:Below W.heap.size W a)
  (u:∀(j:Nat)(t:TypeId)(r:Value),f.resultTypes[j]? =O t->(v.resultList f.resultTypes.size)[j]? =O r->Value.okWide P a .any 0 t r):
  s.post enc P f h o q l W args v a:=by
 have h:∀p∈c,p.block<W.heap.size:=λp a=>g.lt p a;have l:∀p∈c,(λb=>decide<|b<W.heap.size) p.block=true:=λp a=>by simpa using h p a
 refine⟨d,gs,c,[],pa,pv,g,m _ _ _,i _ l,n _ l,World.keptBut_mono (λp a=>⟨a,?_⟩)<|k.frame (· ∈c),λ_=>?_⟩
 ·rw[e,dS]at a;exact Or.inr a
 ·obtain⟨_,_,_,_,_,o,l⟩:=g;refine⟨u,_,_,([]++pa)++pv,⟨[]++pa,pv,trodAll_append (i _<|λ_ _=>rfl)<|m _ _ _,n _<|λ_ _=>rfl,rfl,?_,?_⟩,?_⟩
  ·intro b g a;have d:MemPlace.cell b g∈c:=by rw[e];simpa using a
   rw[k.frozen<|h _ d];exact o b g d
  ·intro c;have:=l c;rw[e]at this;simpa using this
  ·intro p a _;rw[e];simpa using a
def Fi{W d:World}(hl:laidOutB P=aA)(f:Below W.heap.size W d){sp:Nat->Bool}:∀{b:List TypeId}{e:List Value}{c:List (DataW H)}{a:List MemPlace},
  (∀t∈b,P.readableRec t=aA/\t<P.types.size)->DataW.TrodAll enc P W 0 (λ_=>aA) aA b e c a->(∀p∈a,p.block<W.heap.size)->(∀p∈a,sp p.block=aA)->DataW.TrodAll enc P d 0 sp aA b e c a
 | [],_,_,_,_,a,_,_=>by
  obtain⟨rfl,rfl,rfl⟩:=trodAll_nil a;rfl
 |t::b,_,_,_,d,a,g,h=>by
  obtain⟨b,e,b,c,p,e,rfl,rfl,rfl,c,b⟩:=trodAll_cons a;refine⟨p,e,?_,Fi hl f (λt a=>d t (by simp[a])) b (λb a=>g b (by simp[a]))<|λb a=>h b (by simp[a]),rfl⟩;exact WideElems.Trod_stays hl (d t G).1 (d t G).2 c (λb a=>f.same<|g b (by simp[a]))<|λb a=>h b (by simp[a])
end
end Go.Gk
namespace Go.Gk
open Go IntKind
instance:Bk dX:=⟨λx=>bk x.Name+bk x.Kind+bk x.bL+1,λ_=>C⟩
def FL(x:dX):bk x=bk x.Name+bk x.Kind+bk x.bL+1:=rfl
instance:Bk bD:=⟨λx=>bk x.Name+bk x.aZ+1,λ_=>C⟩
theorem wj(x:bD):bk x=bk x.Name+bk x.aZ+1:=rfl
instance:Bk Part:=⟨λx=>bk x.Name+bk x.sJ+1,λ_=>C⟩
theorem NS(x:Part):bk x=bk x.Name+bk x.sJ+1:=rfl
instance:Bk bX:=⟨λx=>bk x.Part+bk x.bX+1,λ_=>C⟩
def ZC(x:bX):bk x=bk x.Part+bk x.bX+1:=rfl
instance:Bk p4:=⟨λx=>bk x.Name+bk x.aZ+bk x.y5+1,λ_=>C⟩
theorem Kr(x:p4):bk x=bk x.Name+bk x.aZ+bk x.y5+1:=rfl
instance:Bk bV:=⟨λx=>bk x.gH+bk x.cD+1,λ_=>C⟩
def Bz(x:bV):bk x=bk x.gH+bk x.cD+1:=rfl
instance:Bk z:=⟨λx=>bk x.X0+bk x.Y0+bk x.X1+bk x.Y1+1,λ_=>C⟩
def Xl(x:z):bk x=bk x.X0+bk x.Y0+bk x.X1+bk x.Y1+1:=rfl
instance:Bk dP:=⟨λx=>bk x.X+bk x.Y+1,λ_=>C⟩
def VD(x:dP):bk x=bk x.X+bk x.Y+1:=rfl
instance:Bk cM:=⟨λx=>bk x.At+bk x.gK+bk x.dC+bk x.To+bk x.iE+1,λ_=>C⟩
def Xm(x:cM):bk x=bk x.At+bk x.gK+bk x.dC+bk x.To+bk x.iE+1:=rfl
instance:Bk dD:=⟨λx=>bk x.Part+bk x.bX+bk x.cR+bk x.At+1,λ_=>C⟩
theorem SB(x:dD):bk x=bk x.Part+bk x.bX+bk x.cR+bk x.At+1:=rfl
instance:Bk ir:=⟨λx=>bk x.aS+bk x.cZ+bk x.aX+bk x.cA+1,λ_=>C⟩
def VE(x:ir):bk x=bk x.aS+bk x.cZ+bk x.aX+bk x.cA+1:=rfl
instance:Bk aB:=⟨λx=>bk x.Y0+bk x.Y1+bk x.Xs+1,λ_=>C⟩
instance:Bk aH:=⟨λx=>bk x.cR+bk x.Set+bk x.eG+1,λ_=>C⟩
instance:Bk bL:=⟨λx=>bk x.fK+bk x.aX+bk x.aZ+1,λ_=>C⟩
instance:Bk gL:=⟨λx=>bk x.cM+bk x.Number+1,λ_=>C⟩
instance:Bk aC:=⟨λx=>bk x.Nq+bk x.i+bk x.k+1,λ_=>C⟩
instance:Bk k:=⟨λx=>bk x.A+bk x.B+bk x.Joined+1,λ_=>C⟩
instance:Bk aI:=⟨λx=>bk x.from_+bk x.to+1,λ_=>C⟩
instance:Bk aU:=⟨λx=>bk x.from_+bk x.to+bk x.mm+1,λ_=>C⟩
instance:Bk bA:=⟨λx=>bk x.length+bk x.a+bk x.b+1,λ_=>C⟩
instance:Bk bU:=⟨λx=>bk x.e0+bk x.e1+1,λ_=>C⟩
instance:Bk y6:=⟨λx=>bk x.A+bk x.B+bk x.iY+bk x.dC+bk x.To+1,λ_=>C⟩
instance:Bk rm:=⟨λx=>bk x.Open+bk x.gL+bk x.A+bk x.B+1,λ_=>C⟩
end Go.Gk
namespace Go.Gk
open Go IntKind Go.Sort
section
variable {α:Type}
def IG{β:Type}(a:aY β){n:Nat}(h:a.size=n):a.extract 0 n=a:=H
def ZD{φ:α->α->aP Int}{l:aG α}(cf:α->α->Int)(a:∀x∈l,∀y∈l,φ x y=O (cf x y))(h1:∀x∈l,¬cf x x<0)
  (h2:∀x∈l,∀y∈l,∀z∈l,cf x y<0->cf y z<0->cf x z<0) (a:∀x∈l,∀y∈l,∀z∈l,¬cf x y<0->¬cf y z<0->¬cf x z<0):SWO (XU<|QK φ l):=by
 have a:∀a:Fin (Z l),l[a]∈l:=λa=>cH a.isLt;have b:∀a b:Fin (Z l),QK φ l a b=cf l[a] l[b]:=λa b=>by grind [QK]
 refine⟨λx=>?_,λx y z=>?_,λx y z=>?_⟩
 all_goals grind [XU,decide_eq_false_iff_not]
def G6{φ:α->α->aP Int}{l:aG α}(cf:α->α->Int)(d:∀x∈l,∀y∈l,φ x y=O (cf x y))(h1:∀x∈l,¬cf x x<0)
  (h2:∀x∈l,∀y∈l,∀z∈l,cf x y<0->cf y z<0->cf x z<0) (a:∀x∈l,∀y∈l,∀z∈l,¬cf x y<0->¬cf y z<0->¬cf x z<0) (hl:Z l<4611686018427387904):
  ∃m,y4 φ l=O m/\m.Perm l/\m.Pairwise (λx y=>¬cf y x<0):=by
 have f:=ZD cf d h1 h2 a;have c:∀a:Fin (Z l),l[a]∈l:=λa=>cH a.isLt;have b:(∀a b:Fin (Z l),∃e,φ l[a] l[b]=O e):=λa b=>⟨_,d _ (c a) _<|c b⟩;refine⟨Sf φ l,by simp_all[y4,aL],?_⟩;unfold Sf
 by_cases c:0<Z l
 ·rw[dif_pos c]
  letI d:Inhabited (Fin (Z l)):=⟨⟨0,c⟩⟩
  have d:(Array.ofFn λa:Fin (Z l)=>a).size=Z l:=G
  obtain⟨e,g⟩:=pdq_sorts (XU<|QK φ l) f (Array.ofFn λa:Fin (Z l)=>a) 0 (Z l) (Lib.bitLen (Z l)) aA aA (cT _) C<|Or.inl rfl
  show(List.map (λa=>l[a]) (pdq (XU<|QK φ l) (Array.ofFn λa:Fin (Z l)=>a) 0 (Z l) (Lib.bitLen (Z l)) aA aA).toList).Perm l/\_;generalize pdq (XU<|QK φ l) (Array.ofFn λa:Fin (Z l)=>a) 0 (Z l) (Lib.bitLen (Z l)) aA aA=c at e g;obtain⟨h,_,f⟩:=e;have e:c.size=Z l:=h.trans d;rw[IG c e,IG _ d]at f;have c:(Array.ofFn λa:Fin (Z l)=>a).toList.map (λa=>l[a])=l:=by
   rw[Array.toList_ofFn,List.map_ofFn];exact List.ofFn_getElem
  refine⟨(f.map<|λa=>l[a]).trans<|List.Perm.of_eq c,?_⟩;rw[List.pairwise_map,jW];intro a b c e d;rw[Array.length_toList]at c e;have:=g a b (cT _) d C
  grind [QK,XU,decide_eq_false_iff_not]
 simp_all
def MK{φ:α->α->aP Int}{x:α}(h:φ x x=O 0):y4 φ [x]=O [x]:=by
 obtain⟨a,a,a,_⟩:=G6 (φ:=φ) (l:=[x]) (λ_ _=>0) (λa a a a=>H) (λ_ _=>I) (λ_ _ _ _ _ _ h=>by simp at h) (λ_ _ _ _ _ _ _ _=>I) G
 simp_all
def L8{l:aG Int}(h:l.Pairwise (λa b=>a<=b))(hl:Z l<4611686018427387904):C5 l=O l:=by
 grind [C5,List.mergeSort_of_pairwise]
end
end Go.Gk
namespace Go.Gk
open Go IntKind
def ru(l:aG Int)(x:Int):Nat:=l.countP<|λa=>decide<|a<=x
def vk(l:aG Int)(x:Int):Bool:=ru l x % 2==1
def lF(l:aG Int):Prop:=l.Pairwise (· < ·)
theorem NV(x:Int):ru [] x=0:=rfl
theorem u9(a:Int)(l:aG Int)(x:Int):ru (a::l) x=(if a<=x then 1 else 0)+ru l x:=by
 grind [ru]
theorem Kz(l m:aG Int)(x:Int):ru (l++m) x=ru l x+ru m x:=List.countP_append
theorem SC{l:aG Int}{x:Int}(h:∀a∈l,a<=x):ru l x=Z l:=by
 grind [ru,List.countP_eq_length]
theorem KA{l:aG Int}{x:Int}(h:∀a∈l,x<a):ru l x=0:=by
 grind [ru,List.countP_eq_zero]
theorem JH{l:aG Int}{x:Int}:vk l x=aA↔ru l x % 2=1:=by simp[vk]
def G7{l:aG Int}{x:Int}(h:∀a∈l,x<a):vk l x=false:=by grind [vk,KA]
def lF.head{a:Int}{l:aG Int}(h:lF (a::l)):∀b∈l,a<b:=(lz.1 h).1
def lF.tail{a:Int}{l:aG Int}(h:lF (a::l)):lF l:=(lz.1 h).2
def G8{a:Int}{l:aG Int}(h:lF (a::l)):vk (a::l) a=true:=by
 rw[JH,u9,aL<|Int.le_refl _,KA h.head]
def KB:∀{l m:aG Int},lF l->lF m->(∀x,vk l x=vk m x)->l=m
 | [],[],_,_,_=>rfl
 | [],f::m,_,h,e=>by have:=e f;rw[G8 h]at this;cases this
 |c::l,[],g,_,e=>by have:=e c;rw[G8 g]at this;cases this
 |c::l,f::m,g,h,e=>by
  have j:c=f:=by
   rcases Int.lt_trichotomy c f with i|i|i
   ·have b:=e c
    rw[G8 g,G7 (l:=f::m) (λd a=>by
     rcases eO.1 a with rfl|a
     ·exact i
     ·have:=h.head d a;omega)]at b
    cases b
   ·exact i
   ·have b:=e f
    rw[G8 h,G7 (l:=c::l) (λd a=>by
     rcases eO.1 a with rfl|a
     ·exact i
     ·have:=g.head d a;omega)]at b
    cases b
  subst j;rw[KB g.tail h.tail<|λx=>?_]
  by_cases f:c<=x
  ·have b:=e x;unfold vk at b ⊢;rw[u9,u9,aL f]at b;rw[iK]at b ⊢;simp only[beq_iff_eq]at b ⊢;omega
  ·rw[G7 (λd a=>by have:=g.head d a;omega),G7 (λd a=>by have:=h.head d a;omega)]
theorem KC{l:aG Int}{a b:Int}(hl:∀c∈l,c<a)(he:Z l % 2=0)(d:a<b)(x:Int):vk (l++[a,b]) x=(vk l x||(decide (a<=x)&&decide (x<b))):=by
 rw[iK,jk,dE,dZ,dZ,JH,JH,Kz,u9,u9,NV]
 grind [ru,SC]
def VH{l:aG Int}{s e a b:Int}(hl:∀c∈l,c<s)(he:Z l % 2=0)(d:s<e)(h1:s<=a)(h2:a<=e)(d:a<b)(x:Int):vk (l++[s,max e b]) x=(vk (l++[s,e]) x||(decide (a<=x)&&decide (x<b))):=by
 grind [KC]
def lF.snoc{l:aG Int}{a b:Int}(h:lF l)(hl:∀c∈l,c<a)(d:a<b):lF (l++[a,b]):=by
 grind [lF]
structure Bd where
 y0:Int
 y1:Int
 xs:aG Int
def d_:aG Bd->Int->aG Int
 | [],_=>[]
 |b::s,y=>if b.y0<=y/\y<b.y1 then b.xs else d_ s y
theorem rT(b:Bd)(s:aG Bd)(y:Int):d_ (b::s) y=if b.y0<=y/\y<b.y1 then b.xs else d_ s y:=rfl
structure gC (s:aG Bd):Prop where
 each:∀b∈s,b.y0<b.y1/\b.xs≠[]/\lF b.xs/\Z b.xs % 2=0
 ord:s.Pairwise (λb c=>b.y1<=c.y0/\(b.y1=c.y0->b.xs≠c.xs))
def gC.nil:gC []:=⟨λa a=>by simp at a,kW⟩
def gC.tail{b:Bd}{s:aG Bd}(h:gC (b::s)):gC s:=⟨λa c=>h.each a<|ku _ c,(lz.1 h.ord).2⟩
theorem pX{s:aG Bd}{y:Int}(h:∀b∈s,y<b.y0\/b.y1<=y):d_ s y= []:=by
 induction s with
 |nil=>rfl
 |cons b s a=>
  grind [d_,ku]
theorem xF(s t:aG Bd)(y:Int):d_ (s++t) y=if(∃b∈s,b.y0<=y/\y<b.y1)then d_ s y else d_ t y:=by
 induction s with
 |nil=>simp
 |cons b s c=>
  rw[List.cons_append,rT,rT]
  by_cases a:b.y0<=y/\y<b.y1
  ·simp_all
  ·rw[aJ a,c]
   by_cases a:∃a∈s,a.y0<=y/\y<a.y1
   ·simp_all[aL,ku,aJ]
   grind
theorem gC.rU{b:Bd}{s:aG Bd}{y:Int}(a:b.y0<=y)(h1:y<b.y1):d_ (b::s) y=b.xs:=by grind [d_]
def gC.KD{b:Bd}{s:aG Bd}(h:gC (b::s)):∀c∈s,b.y1<=c.y0:=λc a=>((lz.1 h.ord).1 c a).1
def gC.Em{b:Bd}{s:aG Bd}(h:gC (b::s)){y:Int}(hy:y<b.y0):d_ (b::s) y= []:=pX λc a=>by
 rcases eO.1 a with rfl|a
 ·exact .inl hy
 ·have:=h.KD c a;have:=(h.each b G).1;exact .inl C
def gC.SD{b:Bd}{s:aG Bd}(h:gC (b::s)):d_ (b::s) b.y1≠b.xs:=by
 rw[rT,aJ C]
 cases s with
 |nil=>exact λa=>(h.each b G).2.1 a.symm
 |cons c s=>
  have d:=(lz.1 h.ord).1 c G
  by_cases a:b.y1=c.y0
  ·rw[gC.rU C (by have:=(h.tail.each c G).1;omega)]
   grind
  ·rw[h.tail.Em C];exact λa=>(h.each b G).2.1 a.symm
def KE:∀{s t:aG Bd},gC s->gC t->(∀y,d_ s y=d_ t y)->s=t
 | [],[],_,_,_=>rfl
 | [],c::t,_,g,e=>by
  have i:=g.each c G;have:=e c.y0;rw[gC.rU (Int.le_refl _) i.1]at this;exact absurd this.symm i.2.1
 |b::s,[],f,_,e=>by
  have h:=f.each b G;have:=e b.y0;rw[gC.rU (Int.le_refl _) h.1]at this;exact absurd this h.2.1
 |b::s,c::t,f,g,e=>by
  have h:=f.each b G;have i:=g.each c G;have a:b.y0=c.y0:=by
   rcases Int.lt_trichotomy b.y0 c.y0 with d|d|d
   ·have a:=e b.y0;rw[gC.rU (Int.le_refl _) h.1,g.Em d]at a;exact absurd a h.2.1
   ·exact d
   ·have a:=e c.y0;rw[gC.rU (Int.le_refl _) i.1,f.Em d]at a;exact absurd a.symm i.2.1
  have i:b.xs=c.xs:=by
   have a:=e b.y0;rw[gC.rU (Int.le_refl _) h.1,gC.rU C C]at a;exact a
  have h:b.y1=c.y1:=by
   rcases Int.lt_trichotomy b.y1 c.y1 with d|d|d
   ·have a:=e b.y1;rw[gC.rU (b:=c) C d]at a;exact absurd (a.trans i.symm) f.SD
   ·exact d
   ·have a:=e c.y1;rw[gC.rU (b:=b) C d]at a;exact absurd (a.symm.trans i) g.SD
  have d:b=c:=by cases b;cases c;simp_all
  subst d;rw[KE f.tail g.tail<|λy=>?_]
  by_cases c:b.y1<=y
  ·have a:=e y;unfold d_ at a;rw[aJ C,aJ C]at a;exact a
  ·rw[pX (λa b=>by have:=f.KD a b;omega),pX (λa b=>by have:=g.KD a b;omega)]
def CW(s:aG Bd)(x y:Int):Bool:=vk (d_ s y) x
def ML{s:aG Bd}(h:∀b∈s,lF b.xs)(y:Int):lF (d_ s y):=by
 induction s with
 |nil=>exact kW
 |cons b s a=>
  grind [d_,ku]
def BR{s t:aG Bd}(c:gC s)(d:gC t)(h:∀x y,CW s x y=CW t x y):s=t:=
 KE c d λy=>KB (ML (λa b=>(c.each a b).2.2.1) y) (ML (λa b=>(d.each a b).2.2.1) y) λx=>h x y
def mb(s:aG Bd)(b:Bd):aG Bd:=
 if b.xs= []\/b.y1<=b.y0 then s else
  match s.getLast? with
  |some c=>if c.y1=b.y0/\c.xs=b.xs then s.dropLast++[⟨c.y0,b.y1,c.xs⟩]else s++[b]
  |none=>[b]
theorem yA{α:Type}{s:aG α}{c:α}(h:s.getLast? =O c):s=s.dropLast++[c]:=by
 have a:s≠[]:=λa=>H
 grind [List.getLast?_eq_some_getLast,List.dropLast_concat_getLast]
def En{s:aG Bd}{b:Bd}(i:∀c∈s,c.y1<=b.y0)(hg:∀c∈s,c.y0<c.y1)(a:b.y1<=b.y0->b.y1=b.y0)(y:Int):d_ (mb s b) y=if b.y0<=y/\y<b.y1 then b.xs else d_ s y:=by
 have j:∀(s:aG Bd)(c:Bd),(∀a∈s,a.y1<=c.y0)->d_ (s++[c]) y=if c.y0<=y/\y<c.y1 then c.xs else d_ s y:=by
  intro s c d;rw[xF]
  by_cases d:c.y0<=y/\y<c.y1
  ·grind [gC.rU]
  ·rw[aJ d]
   by_cases e:∃a∈s,a.y0<=y/\y<a.y1
   all_goals grind [rT,d_,pX]
 unfold mb
 by_cases f:b.xs= []\/b.y1<=b.y0
 ·grind [pX]
 ·rw[aJ f]
  cases g:s.getLast? with
  |none=>
   have:s= []:=ta
   subst this;rfl
  |some c=>
   dsimp only;have f:=yA g;have g:c∈s:=by rw[f];simp
   by_cases d:c.y1=b.y0/\c.xs=b.xs
   ·rw[aL d];have h:∀a∈s.dropLast,a.y1<=c.y0\/True:=λ_ _=> .inr trivial;rw[xF];have h:d_ s y=if(∃a∈s.dropLast,a.y0<=y/\y<a.y1)then d_ s.dropLast y else(if c.y0<=y/\y<c.y1 then c.xs else []):=by
     conv=>lhs;rw[f]
     rw[xF];rfl
    rw[h];have f:=hg c g
    by_cases e:∃a∈s.dropLast,a.y0<=y/\y<a.y1
    ·grind
    ·rw[aJ e,aJ e];show(if c.y0<=y/\y<b.y1 then c.xs else [])=_
     by_cases a:b.y0<=y/\y<b.y1
     ·rw[aL a,aL ⟨C,a.2⟩,d.2]
     ·rw[aJ a]
      by_cases a:c.y0<=y/\y<c.y1
      ·rw[aL a,aL ⟨a.1,C⟩]
      ·rw[aJ a,aJ C]
   ·rw[aJ d];exact j s b i
def Eo{s:aG Bd}{b:Bd}(h:gC s)(l:∀c∈s,c.y1<=b.y0)(o:lF b.xs)(he:Z b.xs % 2=0):gC (mb s b):=by
 unfold mb
 by_cases i:b.xs= []\/b.y1<=b.y0
 ·grind
 ·rw[aJ i];have p:b.y0<b.y1/\b.xs≠[]/\lF b.xs/\Z b.xs % 2=0:=⟨C,λg=>i<|.inl g,o,he⟩
  cases r:s.getLast? with
  |none=>exact⟨λc q=>H,List.pairwise_singleton _ _⟩
  |some c=>
   dsimp only;have f:=yA r;have j:c∈s:=by rw[f];simp
   have q:=h.each c j;have k:=h.ord;rw[f,fZ]at k
   by_cases e:c.y1=b.y0/\c.xs=b.xs
   ·rw[aL e];refine⟨λd a=>?_,?_⟩
    ·rcases dS.1 a with a|a
     ·exact h.each d<|List.dropLast_subset _ a
     grind
    grind
   ·rw[aJ e];refine⟨λd a=>?_,?_⟩
    ·rcases dS.1 a with a|a
     ·exact h.each d a
     ·simp at a;subst a;exact p
    ·rw[fZ];refine⟨h.ord,List.pairwise_singleton _ _,λd a g he=>?_⟩;simp at he;subst he;refine⟨l d a,λm n=>?_⟩;rw[f]at a
     rcases dS.1 a with a|a
     ·have t:=(k.2.2 d a c G).1;have:=l c j;omega
     ·simp at a;subst a;exact e ⟨m,n⟩
def Ep{s:aG Bd}{b:Bd}(a:∀c∈s,c.y1<=b.y0)(a:b.y0<=b.y1):∀c∈mb s b,c.y1<=b.y1:=by
 grind [mb,List.dropLast_subset]
section
variable {N:Nat}
def cS(b:aB):Bd:=⟨b.Y0,b.Y1,b.Xs⟩
def i_(a:Int):Prop:= -1099511627776<=a/\a<=1099511627776
structure LQ (r:z):Prop where
 x:r.X0<r.X1
 y:r.Y0<r.Y1
 s1:i_ r.X0
 s2:i_ r.X1
 s3:i_ r.Y0
 s4:i_ r.Y1
def Rj(l:aG z)(x:Int):Bool:=l.any<|λr=>decide (r.X0<=x)&&decide (x<r.X1)
def zK(l:aG z)(x y:Int):Bool:=l.any<|λr=>(decide (r.X0<=x)&&decide (x<r.X1))&&(decide (r.Y0<=y)&&decide (y<r.Y1))
def KF{l:aG z}{x:Int}:Rj l x=aA↔∃r∈l,r.X0<=x/\x<r.X1:=by simp[Rj,ky]
theorem mD{l:aG z}{x y:Int}:zK l x y=aA↔∃r∈l,(r.X0<=x/\x<r.X1)/\r.Y0<=y/\y<r.Y1:=by simp[zK,ky]
def q4{a b:Int}(c:i_ a)(c:i_ b):wrap .i64 (a - b)=a - b:=by grind [i_,fG]
theorem KG{n:Nat}(h:0<n)(a:n<=4611686018427387904):wrap .i64 ((n:Int) - 1)=((n - 1:Nat):Int):=kn h a
structure aex (out:aG Int) (m:aG z) (k:Nat):Prop where
 row:(k=0/\out= [])\/∃A s e,out=A++[s,e]/\lF A/\(∀c∈A,c<s)/\Z A % 2=0/\s<e/\∃j r,j<k/\m[j]? =O r/\s=r.X0
 vk:∀x,vk out x=Rj (m.take k) x
 len:Z out<=2*k
 mem:∀c∈out,∃r∈m,c=r.X0\/c=r.X1
def HX(l:aG z)(r:z)(x:Int):Rj (l++[r]) x=(Rj l x||(decide (r.X0<=x)&&decide (x<r.X1))):=by simp[Rj,List.any_append]
def NW{l:aG z}(hl:Z l<=268435456)(I:∀r∈l,LQ r):∃row Q,mg N l=O (row,Q)/\Q.Perm l/\lF row/\Z row % 2=0/\(∀x,vk row x=Rj l x)/\Z row<=2*Z l/\∀c∈row,∃r∈l,c=r.X0\/c=r.X1:=by
 unfold mg
 obtain⟨b,E,k,h3⟩:=G6 (φ:=j6 N) (l:=l) (λn q=>n.X0 - q.X0) (λn T q U=>by
  unfold j6;rw[q4 (I n T).s1 (I q U).s1]) (λn _=>C) (λn _ q _ c _ E k=>C) (λn _ q _ c _ E k=>C) C
 have Y:Z b=Z l:=k.length_eq;have aa:∀r∈b,LQ r:=λr h=>I r<|k.subset h
 rw[E,w];obtain⟨B,S,p⟩:=JG (m:=Z b) (s:=([]:aG Int)) (body:=λ(af:Nat)(j:aG Int)=>(D (A b (af:Int)) λu=>D (bif decide (wrap .i64 ((Z j:Int) - 1)>=0)then(D (A j<|wrap .i64<|(Z j:Int) - 1) λai=>O<|decide<|u.X0<=ai)else O aK) λag=>D (bif ag then(D (A j<|wrap .i64<|(Z j:Int) - 1) λR=>D (A j<|wrap .i64<|(Z j:Int) - 1) λak=>O<|j.set (Int.toNat<|wrap .i64<|(Z j:Int) - 1) (if R<u.X1 then u.X1 else R))else(D (gx 8 j ([u.X0,u.X1]:aG Int)) λaj=>O aj)) λah=>O ah:aP (aG Int)))
  (λf B=>aex B b f) C ⟨.inl ⟨rfl,rfl⟩,λx=>rfl,G,λc e=>by cases e⟩ (λf B o⟨i1,L,P,y⟩=>by
   have K:b[f]? =O b[f]:=aM o;have h:=aa _<|cH o
   rw[bS K,w];have J:b.take (f+1)=b.take f++[b[f]]:=dQ o
   rcases i1 with⟨rfl,rfl⟩|⟨d,i,g,rfl,s,m,v,t,ae,r,hj,W,ab⟩
   ·rw[show decide (wrap .i64 (((Z ([]:aG Int):Nat):Int) - 1)>=0)=aK by decide,aR,w,aR,jA G,w,w];refine⟨_,rfl, .inr ⟨[],_,_,rfl,kW,λc e=>by simp at e,rfl,h.x,0,b[0],C,K,rfl⟩,λx=>?_,G,λc e=>⟨b[0],cH o,H⟩⟩;rw[J,HX,<-L x];exact KC (l:=[]) (λc e=>by simp at e) rfl h.x x
   ·have F:Z (d++[i,g])=Z d+2:=by simp
    have ad:wrap .i64 (((Z (d++[i,g]):Nat):Int) - 1)=((Z d+1:Nat):Int):=by grind [KG]
    have X:(d++[i,g])[Z d+1]? =O g:=by simp
    have hs:i<=b[f].X0:=by
     grind [jW,bR]
    rw[ad,bN C,aN,bS X,w,w]
    by_cases e:b[f].X0<=g
    ·rw[bN e,aN,w,w,w,cN];have r7:(d++[i,g]).set (Z d+1) (if g<b[f].X1 then b[f].X1 else g)=d++[i,max g b[f].X1]:=by
      rw[List.set_append_right _ _ C];have:Z d+1 - Z d=1:=by omega
      rw[this,Int.max_def];simp only[List.set_cons_succ,List.set_cons_zero];congr 2;split <;> split <;> simp <;> omega
     rw[r7]
     refine⟨_,rfl, .inr ⟨d,i,_,rfl,s,m,v,C,ae,r,C,W,ab⟩,λx=>?_,by simp at P ⊢;omega,λc e=>by
      rcases dS.1 e with a|a
      ·exact y c<|List.mem_append_left _ a
      ·simp at a
       rcases a with a|a
       ·exact y c (by simp[a])
       ·rw[Int.max_def]at a;split at a
        ·exact⟨_,cH o, .inr a⟩
        ·exact y c (by simp[a])⟩
     rw[J,HX,<-L x];exact VH m v t hs e h.x x
    ·rw[bW e,aR,jA (by rw[F];simp;omega),w,w];have M:∀c∈d++[i,g],c<b[f].X0:=λc V=>by
      rcases dS.1 V with a|a
      ·have:=m c a;omega
      ·simp at a;omega
     refine⟨_,rfl, .inr ⟨d++[i,g],_,_,rfl,s.snoc m t,M,by rw[F];omega,h.x,f,b[f],C,K,rfl⟩,λx=>?_,by simp at P ⊢;omega,λc e=>by
      rcases dS.1 e with a|a
      ·exact y c a
      ·exact⟨b[f],cH o,by simpa using a⟩⟩
     rw[J,HX,<-L x]
     exact KC M (by rw[F];omega) h.x x)
 rw[S,w];refine⟨B,b,rfl,k,?_,?_,λx=>?_,by rw[<-Y];exact p.len,λc e=>by obtain⟨r,h,a⟩:=p.mem c e;exact⟨r,k.subset h,a⟩⟩
 ·rcases p.row with⟨_,a⟩|⟨d,i,g,rfl,s,m,v,t,_⟩
  ·rw[a];exact kW
  ·exact s.snoc m t
 ·rcases p.row with⟨_,a⟩|⟨d,i,g,rfl,s,m,v,t,_⟩
  ·rw[a];rfl
  ·simp;omega
 ·rw[p.vk x,fz,iK,KF,KF];constructor
  ·rintro⟨r,h,a⟩;exact⟨r,k.subset h,a⟩
  ·rintro⟨r,h,a⟩;exact⟨r,k.symm.subset h,a⟩
def TB{l m:aG Int}(hl:Z l<=4611686018427387904):sf N l m=O (decide<|l=m):=HO hl
def SE{s:aG aB}{b:aB}(l:Z s<=1048576000)(hx:∀c∈s,Z c.Xs<=1048576000):∃g,lI N s b=O g/\g.map cS=mb (s.map cS) (cS b):=by
 unfold lI mb
 by_cases e:b.Xs= []\/b.Y1<=b.Y0
 ·have d:(((Z b.Xs:Int)==0)||decide (b.Y1<=b.Y0))=true:=H
  rw[d,aN,aL (show(cS b).xs= []\/(cS b).y1<=(cS b).y0 from e)];simp
 ·have d:(((Z b.Xs:Int)==0)||decide (b.Y1<=b.Y0))=false:=ta
  rw[d,aR,aJ (show ¬((cS b).xs= []\/(cS b).y1<=(cS b).y0)from e)]
  rcases List.eq_nil_or_concat s with rfl|⟨a,c,f⟩
  ·rw[show decide (wrap .i64 (((Z ([]:aG aB):Nat):Int) - 1)>=0)=aK by decide,aR,w,aR,jA G,w];simp
  ·rw[List.concat_eq_append]at f;subst f;have k:Z (a++[c])=Z a+1:=G
   have i:wrap .i64 (((Z (a++[c]):Nat):Int) - 1)=(Z a:Int):=by grind [KG]
   have h:(a++[c])[Z a]? =O c:=G
   rw[i,bN C,aN,bS h,w,w,TB H,w,w,cN,jA H,w];have j:((a++[c]).map cS).getLast? =O (cS c):=G
   grind [cS,bN,w,List.set_append_right]
end
def eH(l:aG (Int×Int)):aG Int:=l.flatMap λs=>[s.1,s.2]
def lD(l:aG (Int×Int))(x:Int):Bool:=l.any λs=>decide (s.1<=x)&&decide (x<s.2)
theorem ml(s:Int×Int)(l:aG (Int×Int)):eH (s::l)=s.1::s.2::eH l:=rfl
def BS(l m:aG (Int×Int)):eH (l++m)=eH l++eH m:=List.flatMap_append
theorem mN(l:aG (Int×Int)):Z (eH l)=2*Z l:=by
 induction l with
 |nil=>rfl
 |cons b l a=>grind [ml,eK]
def MM(s:Int×Int)(l:aG (Int×Int))(x:Int):lD (s::l) x=((decide (s.1<=x)&&decide (x<s.2))||lD l x):=rfl
theorem PI(l m:aG (Int×Int))(x:Int):lD (l++m) x=(lD l x||lD m x):=List.any_append
def AF{l:aG (Int×Int)}{x:Int}:lD l x=aA↔∃s∈l,s.1<=x/\x<s.2:=by
 simp[lD]
def TC{a b:Int}{m:aG Int}(h:lF (a::b::m))(x:Int):vk (a::b::m) x=((decide (a<=x)&&decide (x<b))||vk m x):=by
 have c:a<b:=h.head b G;have c:=h.tail.head
 grind [JH,u9,KA]
theorem AG:∀{l:aG (Int×Int)},lF (eH l)->∀x,vk (eH l) x=lD l x
 | [],_,x=>rfl
 |b::l,a,x=>by
  rw[ml]at a ⊢;rw[TC a,MM,AG a.tail.tail]
theorem MN:∀{l m:aG (Int×Int)},eH l=eH m->l=m
 | [],[],_=>rfl
 | [],e::m,a=>by cases a
 |e::l,[],a=>by cases a
 |(f,g)::l,(h,i)::m,a=>by
  rw[ml,ml]at a;injection a with c b
  injection b with b d
  simp only at c b;rw[c,b,MN d]
def HY{l:aG (Int×Int)}{c:Int}(h:c∈eH l):∃s∈l,c=s.1\/c=s.2:=by
 obtain⟨s,a,a⟩:=List.mem_flatMap.1 h
 grind
def DH{l:aG (Int×Int)}(h:lF (eH l)):∀s∈l,s.1<s.2:=by
 induction l with
 |nil=>simp
 |cons a l b=>
  rw[ml]at h;intro s a
  rcases eO.1 a with rfl|a
  ·exact h.head _ G
  ·exact b h.tail.tail s a
def Er{l m:aG (Int×Int)}:lF (eH<|l++m)↔lF (eH l)/\lF (eH m)/\∀s∈l,∀t∈m,s.2<t.1:=by
 rw[BS];unfold lF;rw[fZ];constructor
 ·rintro⟨a,b,e⟩;exact⟨a,b,λs c t d=>e s.2 (List.mem_flatMap.2 ⟨s,c,G⟩) t.1<|List.mem_flatMap.2 ⟨t,d,G⟩⟩
 ·rintro⟨a,b,e⟩;refine⟨a,b,λf f g g=>?_⟩;obtain⟨s,c,f⟩:=HY f;obtain⟨t,d,g⟩:=HY g;have f:=e s c t d;have e:=DH (l:=l) a s c;have a:=DH (l:=m) b t d;omega
def nD(s:Int×Int):aG (Int×Int)->(Int×Int)×aG (Int×Int)
 | []=>(s,[])
 |a::l=>if a.1<=s.2 then nD (min s.1 a.1,max s.2 a.2) l else(s,a::l)
def pY(l:aG (Int×Int))(s:Int×Int):aG (Int×Int):=
 l.takeWhile (λa=>decide<|a.2<s.1)++(nD s<|l.dropWhile λa=>decide<|a.2<s.1).1::(nD s<|l.dropWhile λa=>decide<|a.2<s.1).2
def IH:∀(l:aG (Int×Int))(s:Int×Int),s.1<s.2->lF (eH l)->(∀a∈l,s.1<=a.2)->
  (nD s l).1.1<(nD s l).1.2/\((nD s l).1.1=s.1\/∃a∈l,(nD s l).1.1=a.1)/\lF (eH (nD s l).2)/\(∀t∈(nD s l).2,(nD s l).1.2<t.1)/\
  ∀x,lD ((nD s l).1::(nD s l).2) x=((decide (s.1<=x)&&decide (x<s.2))||lD l x)
 | [],s,f,_,_=>⟨f, .inl rfl,kW,λt(c:t∈([]:aG (Int×Int)))=>(by cases c),λx=>rfl⟩
 |a::l,s,f,e,b=>by
  have g:=DH e;have h:=g a G;have g:=e;rw[ml]at g;have h:=b a G;unfold nD
  by_cases n:a.1<=s.2
  ·rw[aL n];have m:(min s.1 a.1,max s.2 a.2).1<(min s.1 a.1,max s.2 a.2).2:=by dsimp only;omega
   obtain⟨h,b,i,j,k⟩:=IH l (min s.1 a.1,max s.2 a.2) m g.tail.tail (λg m=>H)
   refine⟨h,?_,i,j,λx=>?_⟩
   ·rcases b with b|⟨g,m,b⟩
    ·rw[b]
     rcases Int.le_total s.1 a.1 with d|d
     ·exact .inl C
     ·exact .inr ⟨a,G,C⟩
    ·exact .inr ⟨g,ku _ m,b⟩
   ·rw[k,MM,<-Bool.or_assoc];congr 1;clear h b i j k;rw[iK];simp only[jk,dE,dZ];constructor
    ·intro d
     by_cases b:s.1<=x/\x<s.2
     ·exact .inl b
     ·exact .inr C
    ·rintro(d|d) <;> omega
  ·rw[aJ n];refine⟨f, .inl rfl,e,λt c=>?_,λx=>rfl⟩;show s.2<t.1
   rcases eO.1 c with rfl|c
   ·omega
   ·have:=((Er (l:=[a]) (m:=l)).1 e).2.2 a G t c;omega
def NX{l:aG (Int×Int)}{c:Int}(h:lF (eH l)):∀a∈l.dropWhile (λa=>decide<|a.2<c),c<=a.2:=by
 induction l with
 |nil=>simp
 |cons d l e=>
  have b:=h;rw[ml]at b;rw[List.dropWhile_cons]
  by_cases f:d.2<c
  ·rw[aL H];exact e b.tail.tail
  ·rw[aJ H];intro a b
   rcases eO.1 b with rfl|b
   ·omega
   ·have e:=((Er (l:=[d]) (m:=l)).1 h).2.2 d G a b;have d:=DH h a<|ku _ b
    omega
theorem NY(l:aG (Int×Int))(c:Int):∀a∈l.takeWhile (λa=>decide<|a.2<c),a.2<c:=by
 induction l with
 |nil=>simp
 |cons b l d=>
  rw[List.takeWhile_cons]
  grind
def G9{l:aG (Int×Int)}{s:Int×Int}(h:lF (eH l))(f:s.1<s.2):
  lF (eH<|pY l s)/\∀x,lD (pY l s) x=((decide (s.1<=x)&&decide (x<s.2))||lD l x):=by
 have b:=h;rw[<-List.takeWhile_append_dropWhile (p:=λa:Int×Int=>decide<|a.2<s.1) (l:=l),Er]at b;obtain⟨c,d,e⟩:=b;obtain⟨b,b,e,g,b⟩:=IH (l.dropWhile λa=>decide<|a.2<s.1) s f d<|NX h
 unfold pY;refine⟨Er.2 ⟨c,?_,λa b d c=>?_⟩,λx=>?_⟩
 ·rw[ml];have f:∀b∈eH (nD s<|l.dropWhile λa=>decide<|a.2<s.1).2,(nD s<|l.dropWhile λa=>decide<|a.2<s.1).1.2<b:=λb a=>by
   obtain⟨d,c,a⟩:=HY a;have:=g d c;have:=DH e d c;omega
  exact lz.2 ⟨λb a=>H,lz.2 ⟨f,e⟩⟩
 ·grind [NY]
 grind [PI,List.takeWhile_append_dropWhile,decide,Bool.or_left_comm]
def nE:aG Int->aG (Int×Int)
 |a::b::l=>(a,b)::nE (b::l)
 |_=>[]
def xO:∀{xs:aG Int},lF xs->∀s∈nE xs,s.1∈xs/\s.2∈xs/\s.1<s.2/\∀c∈xs,c<=s.1\/s.2<=c
 | [],_,s,b=>by cases b
 | [a],_,s,b=>by cases b
 |a::e::f,d,s,b=>by
  have a:=d.head e G
  rcases eO.1 b with rfl|b
  ·refine⟨G,G,a,λc a=>?_⟩
   rcases eO.1 a with rfl|a
   ·exact .inl<|Int.le_refl _
   ·rcases eO.1 a with rfl|a
    ·exact .inr<|Int.le_refl _
    ·exact .inr (by have:=d.tail.head c a;omega)
  ·obtain⟨e,f,g,h⟩:=xO d.tail s b;refine⟨ku _ e,ku _ f,g,λc a=>?_⟩
   rcases eO.1 a with rfl|a
   ·exact .inl (by have:=d.head s.1 e;omega)
   ·exact h c a
def FY:∀{xs:aG Int},lF xs->∀x,(∃s∈nE xs,s.1<=x/\x<s.2)\/(∀c∈xs,x<c)\/(∀c∈xs,c<=x)
 | [],_,x=> .inr (.inl λc a=>by cases a)
 | [d],_,x=>by
  by_cases f:x<d
  ·exact .inr (.inl λc a=>H)
  ·exact .inr (.inr λc a=>H)
 |d::e::j,f,x=>by
  have i:=f.head e G
  rcases FY f.tail x with⟨s,g,b⟩|b|b
  ·exact .inl ⟨s,ku _ g,b⟩
  ·by_cases h:x<d
   ·exact .inr (.inl λc a=>H)
   ·exact .inl ⟨(d,e),by simp[nE],C,b e G⟩
  ·exact .inr (.inr λc a=>by
    rcases eO.1 a with rfl|a
    ·have:=b e G;omega
    grind)
def wa(a:aG (Int×Int))(xs:aG Int):Prop:=∀s∈a,s.1∈xs/\s.2∈xs
theorem SF{a:aG (Int×Int)}{xs:aG Int}(he:wa a xs)(hx:lF xs){s:Int×Int}(b:s∈nE xs){x:Int}(h1:s.1<=x)(h2:x<s.2):lD a x=lD a s.1:=by
 obtain⟨_,_,c,d⟩:=xO hx s b;rw[iK,AF,AF];constructor
 ·rintro⟨c,b,e,f⟩;have:=d _ (he c b).1
  grind
 ·rintro⟨c,b,e,f⟩;have:=d _ (he c b).2
  grind
def SG{a:aG (Int×Int)}{xs:aG Int}(he:wa a xs){x:Int}(h:(∀c∈xs,x<c)\/(∀c∈xs,c<=x)):lD a x=false:=by
 rw[<-mz,AF];rintro⟨d,b,e,e⟩;obtain⟨e,e⟩:=he d b
 grind
def qS(jI:Bool->Bool->Bool)(a b:aG (Int×Int))(d:aG (Int×Int))(c:aG (Int×Int)):aG (Int×Int):=
 d.foldl (λc s=>if jI (lD a s.1) (lD b s.1)=aA then pY c s else c) c
def DI(jI:Bool->Bool->Bool)(a b:aG (Int×Int)):∀(d c:aG (Int×Int)),lF (eH c)->(∀s∈d,s.1<s.2)->
  lF (eH<|qS jI a b d c)/\∀x,lD (qS jI a b d c) x=(lD c x||d.any λs=>jI (lD a s.1) (lD b s.1)&&(decide (s.1<=x)&&decide (x<s.2)))
 | [],c,e,_=>⟨e,λx=>by simp[qS]⟩
 |s::d,c,e,g=>by
  have h:=g s G;unfold qS;rw[List.foldl_cons]
  by_cases f:jI (lD a s.1) (lD b s.1)=aA
  ·rw[aL f];obtain⟨k,l⟩:=G9 e h;obtain⟨i,j⟩:=DI jI a b d (pY c s) k<|λk h=>g k<|ku _ h
   refine⟨i,λx=>?_⟩;rw[show lD (List.foldl _ (pY c s) d) x=_ from j x,l,List.any_cons,f,Bool.true_and]
   cases lD c x <;> simp
  ·rw[aJ f];obtain⟨i,j⟩:=DI jI a b d c e<|λk h=>g k<|ku _ h
   refine⟨i,λx=>?_⟩;rw[show lD (List.foldl _ c d) x=_ from j x,List.any_cons,eq_false_of_ne_true f,Bool.false_and,Bool.false_or]
def PK{jI:Bool->Bool->Bool}(i:jI aK aK=aK){a b:aG (Int×Int)}{xs:aG Int}(hx:lF xs)(g:wa a xs)(h:wa b xs):
  lF (eH<|qS jI a b (nE xs) [])/\∀x,lD (qS jI a b (nE xs) []) x=jI (lD a x) (lD b x):=by
 obtain⟨e,f⟩:=DI jI a b (nE xs) [] kW<|λd c=>(xO hx d c).2.2.1
 refine⟨e,λx=>?_⟩;rw[f,show lD [] x=aK from rfl,Bool.false_or]
 rcases FY hx x with⟨d,c,c,c⟩|c
 ·rw[iK,ky];constructor
  ·rintro⟨f,e,d⟩
   grind [SF]
  grind [SF,bN]
 ·rw[SG g c,SG h c,i,<-mz,ky];rintro⟨f,e,d⟩;rw[dE,dE,dZ,dZ]at d;obtain⟨c,c,_⟩:=xO hx f e
  grind
def qT(f:Int->aG Int)(b:aG (Int×Int))(a:aG Bd):aG Bd:=b.foldl (λa s=>mb a ⟨s.1,s.2,f s.1⟩) a
def II(f:Int->aG Int)(h:∀y,lF (f y)/\Z (f y) % 2=0):∀(ys:aG Int)(d:aG Bd),lF ys->gC d->(∀c∈d,∀y∈ys,c.y1<=y)->
  gC (qT f (nE ys) d)/\∀y,d_ (qT f (nE ys) d) y=match(nE ys).find? (λe=>decide (e.1<=y)&&decide (y<e.2))with|some e=>f e.1|none=>d_ d y
 | [],d,_,g,_=>⟨g,λy=>rfl⟩
 | [a],d,_,g,_=>⟨g,λy=>rfl⟩
 |a::b::i,d,k,g,m=>by
  have j:=k.head b G;have l:∀c∈d,c.y1<=(⟨a,b,f a⟩:Bd).y0:=λc j=>m c j a G;have j:=Eo (b:=⟨a,b,f a⟩) g l (h a).1 (h a).2;have o:=Ep (b:=⟨a,b,f a⟩) l (by show a<=b;omega)
  obtain⟨p,q⟩:=II f h (b::i) (mb d ⟨a,b,f a⟩) k.tail j (λc n y h=>by
   have m:=o c n;have n:b<=y:=by
    rcases eO.1 h with rfl|h
    ·exact Int.le_refl _
    ·have:=k.tail.head y h;omega
   have n:c.y1<=b:=m
   omega)
  refine⟨p,λy=>?_⟩;show d_ (qT f (nE<|b::i)<|mb d ⟨a,b,f a⟩) y=_;rw[q y,show nE (a::b::i)=(a,b)::nE (b::i)from rfl,List.find?_cons];have m:=En (s:=d) (b:=⟨a,b,f a⟩) l (λc j=>(g.each c j).1) (λg=>absurd g (by show ¬b<=a;omega)) y
  by_cases h:a<=y/\y<b
  ·have g:(decide (a<=y)&&decide (y<b))=true:=by rw[bN h.1,bN h.2];rfl
   have l:(nE<|b::i).find? (λe=>decide (e.1<=y)&&decide (y<e.2))=none:=by
    rw[List.find?_eq_none];intro e j;have:=(xO k.tail e j).1;have j:b<=e.1:=by
     rcases eO.1 this with j|j
     ·omega
     ·have:=k.tail.head _ j;omega
    simp;omega
   rw[l];show d_ (mb d ⟨a,b,f a⟩) y=_;rw[m,aL h,g]
  ·have g:(decide (a<=y)&&decide (y<b))=false:=by
    rw[Bool.and_eq_false_iff,decide_eq_false_iff_not,decide_eq_false_iff_not];omega
   rw[g]
   cases(nE<|b::i).find? (λe=>decide (e.1<=y)&&decide (y<e.2))with
   |some e=>rfl
   |none=>
    show d_ (mb d ⟨a,b,f a⟩) y=d_ d y;rw[m,aJ h]
def IJ{f:Int->aG Int}(a:∀y,lF (f y)/\Z (f y) % 2=0){ys:aG Int}(hy:lF ys)(h1:∀s∈nE ys,∀y,s.1<=y->y<s.2->f y=f s.1)(h2:∀y,((∀c∈ys,y<c)\/(∀c∈ys,c<=y))->f y= []):
  gC (qT f (nE ys) [])/\∀y,d_ (qT f (nE ys) []) y=f y:=by
 obtain⟨b,d⟩:=II f a ys [] hy gC.nil (λc a=>by cases a);refine⟨b,λy=>?_⟩;rw[d y]
 cases a:(nE ys).find? (λs=>decide (s.1<=y)&&decide (y<s.2))with
 |some s=>
  grind
 |none=>
  show d_ [] y=f y
  rcases FY hy y with⟨s,a,a,b⟩|a
  ·grind
  ·rw[h2 y a];rfl
def Ok{β:Type}(o:aP β)(P:β->Prop):Prop:=∃r,o=O r/\P r
section
variable {α β S R:Type}{P:α->Prop}{Q:β->Prop}
theorem o{x:β}(h:Q x):Ok (O x) Q:=⟨x,rfl,h⟩
def Z_{o:aP β}{x:β}(h:o=O x)(hq:Q x):Ok o Q:=⟨x,h,hq⟩
def Ok.mono{o:aP α}{P':α->Prop}(h:Ok o P)(k:∀x,P x->P' x):Ok o P':=by obtain⟨x,a,b⟩:=h;exact⟨x,a,k x b⟩
theorem v{o:aP α}{f:α->aP β}(h:Ok o P)(k:∀x,P x->Ok (f x) Q):Ok (D o f) Q:=by
 obtain⟨x,a,a⟩:=h;grind
theorem dy{o:aP α}{f:α->aP β}{x:α}(h:o=O x)(k:Ok (f x) Q):Ok (D o f) Q:=H
def jn{b:Bool}{x y:aP β}(a:b=aA->Ok x Q)(a:b=aK->Ok y Q):Ok (bif b then x else y) Q:=H
def l_{o:aP β}{x:β}(h:Ok o (λa=>a=x)):o=O x:=by obtain⟨a,a,b⟩:=h;rw[a,b]
def QN(Go:S->Prop)(Rt:R->Prop):Fo S R->Prop| .go s=>Go s| .rt r=>Rt r
def Uy(b a:S->Prop)(Rt:R->Prop):Fl S R->Prop| .nx s=>b s| .br s=>a s| .rt r=>Rt r
theorem fx{a b:S->Prop}{Rt:R->Prop}{s:S}(h:a s):Ok (O<|Fl.nx s) (Uy a b Rt):=⟨_,rfl,h⟩
theorem ga{b a:S->Prop}{Rt:R->Prop}{s:S}(h:a s):Ok (O<|Fl.br s) (Uy b a Rt):=⟨_,rfl,h⟩
theorem p5{b a:S->Prop}{Rt:R->Prop}{r:R}(h:Rt r):Ok (O (Fl.rt r:Fl S R)) (Uy b a Rt):=⟨_,rfl,h⟩
theorem gf{Go:S->Prop}{Rt:R->Prop}{o:Fo S R}{f:S->aP β}{g:R->aP β}(h:QN Go Rt o)(a:∀s,Go s->Ok (f s) Q)(hg:∀r,Rt r->Ok (g r) Q):Ok (o.cs f g) Q:=by
 cases o with
 |go s=>exact a s h
 |rt r=>exact hg r h
def p9{body:Nat->S->aP S}{m:Nat}{s:S}(a:Nat->S->Prop)(hm:m<=4611686018427387904)(b:a 0 s)(h:∀k s,k<m->a k s->Ok (body k s) (a<|k+1)):Ok (lT m body s) (a m):=
 JG a hm b h
def Re{body:Nat->S->aP (Fl S R)}{m:Nat}{s:S}(a:Nat->S->Prop){Go:S->Prop}{Rt:R->Prop}(hm:m<=4611686018427387904)(c:a 0 s)
  (h:∀k s,k<m->a k s->Ok (body k s) (Uy (a<|k+1) Go Rt)) (hg:∀s,a m s->Go s):Ok (sV m body s) (QN Go Rt):=by
 obtain⟨b,e,f⟩:=Xi (R:=R) a Go Rt hm c (λk s i g=>by
  obtain⟨a,c,d⟩:=h k s i g
  exact⟨a,c,by cases a <;> exact d⟩) hg
 exact⟨b,e,by cases b <;> exact f⟩
def od{body:S->aP (Fl S R)}{N:Nat}{s:S}(a:S->Prop)(b:S->Nat){Go:S->Prop}{Rt:R->Prop}
  (h:∀s,a s->Ok (body s) (Uy (λc=>a c/\b c<b s) Go Rt)) (hi:a s) (g:b s<N):Ok (gh body N s) (QN Go Rt):=by
 obtain⟨c,e,f⟩:=Ej (R:=R) a b Go Rt (λs hi=>by
  obtain⟨a,b,d⟩:=h s hi
  exact⟨a,b,by cases a <;> exact d⟩) N s hi g
 exact⟨c,e,by cases c <;> exact f⟩
theorem li{b:Nat}{l ys:aG α}{f:aG α->aP β}(h:(Z l+Z ys)*b<=140737488355328)(k:Ok (f<|l++ys) Q):Ok (D (Go.Gk.gx b l ys) f) Q:=by grind [jA]
theorem oi{l:aG α}{i:Nat}{f:α->aP β}(h:i<Z l)(k:Ok (f l[i]) Q):Ok (D (Go.Gk.A l (i:Int)) f) Q:=by grind [ma]
theorem fy{l:aG α}{i:Nat}{x:α}{f:α->aP β}(h:l[i]? =O x)(k:Ok (f x) Q):Ok (D (Go.Gk.A l (i:Int)) f) Q:=by grind [bS]
end
theorem wz{n:Nat}(h:n<=4611686018427387904):wrap .i64 (n:Int)=(n:Int):=by grind [fG]
theorem ed{n m:Nat}(h:n+m<=4611686018427387904):wrap .i64 ((n:Int)+(m:Int))=((n+m:Nat):Int):=by grind [fG]
theorem bM{n:Nat}(h:n+1<=4611686018427387904):wrap .i64 ((n:Int)+1)=((n+1:Nat):Int):=by grind [fG]
def MO{n:Nat}(h:n+2<=4611686018427387904):wrap .i64 ((n:Int)+2)=((n+2:Nat):Int):=by grind [fG]
def iw{α:Type}[DecidableEq α]:∀{l m:aG α},l.Nodup->(∀x∈l,x∈m)->Z l<=Z m
 | [],m,_,_=>cT _
 |a::l,m,c,d=>by
  have b:a∈m:=d a G;have d:=List.nodup_cons.1 c
  have:=iw (l:=l) (m:=m.erase a) d.2 (λx a=>H)
  rw[List.length_erase_of_mem b]at this;have:=List.length_pos_of_mem b;simp;omega
section
variable {α:Type}{N:Nat}
def acA(z:α)(N:Nat)(p0:aG α)(p1:α->aP Bool):aP (aG α):=
 D (Bx p0 p1) λb=>bif b==(-1)then O p0 else(D (gh (λ(a:aG α×Int×Int)=>(bif decide (a.2.2<(Z a.1:Int))then(D (A a.1 a.2.2) λd=>D (p1 d) λf=>D (bif(!f)then(D (A a.1 a.2.1) λh=>O (a.1.set (Int.toNat a.2.1) d,wrap .i64<|a.2.1+1))else O (a.1,a.2.1)) λc=>O<|.nx (c.1,c.2,wrap .i64<|a.2.2+1))else(O<|.br (a.1,a.2.1,a.2.2)):aP (Fl (aG α×Int×Int) Empty))) N (p0,b,wrap .i64<|b+1)) λe=>e.cs (λ(a:aG α×Int×Int)=>D (wX a.1 a.2.1 (Z a.1:Int)) λi=>D (wX (a.1.take (Int.toNat a.2.1)++List.replicate (Z a.1 - Int.toNat a.2.1) z) 0 a.2.1) λg=>O g)<|λr=>r.elim)
def VI{z:α}{l:aG α}{φ:α->aP Bool}(p:α->Bool)(m:∀x∈l,φ x=O (p x))(hl:Z l<=4611686018427387000)(a:Z l<N):acA z N l φ=O (l.filter<|λx=> !p x):=by
 unfold acA;rw[vX p C m,w]
 rcases qI l p with⟨a,b⟩|⟨d,x,a,b,r,c⟩
 ·grind [List.filter_eq_self]
 ·rw[a,show((d:Int)== -1)=aK by simp,aR];have a:=(bR.1 b).1;have s:(l.take d).filter (λx=> !p x)=l.take d:=List.filter_eq_self.2 λj a=>by
   grind [dM,bR,cQ,List.getElem?_take_of_lt]
  have u:l.take (d+1)=l.take d++[x]:=by
   grind [dQ]
  have a:wrap .i64 ((d:Int)+1)=((d+1:Nat):Int):=by grind [fG]
  rw[a];obtain⟨y,n,o⟩:=Ej (S:=aG α×Int×Int) (R:=Empty) (body:=λ(a:aG α×Int×Int)=>(bif decide (a.2.2<(Z a.1:Int))then(D (A a.1 a.2.2) λb=>D (φ b) λc=>D (bif(!c)then(D (A a.1 a.2.1) λc=>O (a.1.set (Int.toNat a.2.1) b,wrap .i64<|a.2.1+1))else O (a.1,a.2.1)) λb=>O<|.nx (b.1,b.2,wrap .i64<|a.2.2+1))else(O<|.br (a.1,a.2.1,a.2.2)):aP (Fl (aG α×Int×Int) Empty)))
   (λb=>∃c a:Nat,b.2.1=((c:Nat):Int)/\b.2.2=(a:Int)/\c<a/\a<=Z l/\Z b.1=Z l/\b.1.take c=(l.take a).filter (λx=> !p x)/\∀g,a<=g->b.1[g]? =l[g]?)
   (λb=>Z l - b.2.2.toNat) (λb=>∃c:Nat,b.2.1=((c:Nat):Int)/\c<=Z l/\Z b.1=Z l/\b.1.take c=l.filter (λx=> !p x)) (λ_=>True) (λb⟨c,a,h,k,q,t,e,f,i⟩=>by
    obtain⟨b,j,q⟩:=b;dsimp only at h k e f i ⊢;subst h;subst k
    by_cases k:a<Z l
    ·rw[bN C,aN];have v:b[a]? =O l[a]:=by grind
     have B:wrap .i64 ((a:Int)+1)=((a+1:Nat):Int):=by grind [fG]
     have t:wrap .i64 (((c:Nat):Int)+1)=((c+1:Nat):Int):=by grind [fG]
     have t:l.take (a+1)=l.take a++[l[a]]:=dQ k;rw[bS v,w,m _<|cH k,w,B]
     cases m:p l[a]with
     |true=>
      refine⟨.nx (b,((c:Nat):Int),((a+1:Nat):Int)),by rfl,⟨c,a+1,rfl,rfl,C,C,e,?_,λg k=>i g C⟩,?_⟩
      ·grind
      grind
     |false=>
      refine⟨.nx (b.set c l[a],((c+1:Nat):Int),((a+1:Nat):Int)),by grind [lU,ma,w,cN],⟨c+1,a+1,rfl,rfl,C,C,by simp[e],?_,λg k=>?_⟩,?_⟩
      ·rw[t,List.filter_append,<-f];have:(b.set c l[a]).take (c+1)=b.take c++[l[a]]:=by
        rw[dQ (by simp;omega),List.take_set_of_le<|du _];simp
       rw[this];simp[m]
      ·rw[kX,aJ C];exact i g C
      ·simp only[cN];omega
    ·rw[bW (by rw[e];omega),aR];have g:a=Z l:=by omega
     subst g;rw[fz]at f
     exact⟨.br (b,((c:Nat):Int),((Z l:Nat):Int)),rfl,c,rfl,C,e,f⟩)
   N (l,(d:Int),((d+1:Nat):Int)) ⟨d,d+1,rfl,rfl,C,C,rfl,by rw[u,List.filter_append,s];simp[r],λ_ _=>rfl⟩ (by simp only[cN];omega)
  rw[n,w]
  cases y with
  |rt a=>exact a.elim
  |go b=>
   obtain⟨c,h,a,e,f⟩:=o;obtain⟨b,j,q⟩:=b;dsimp only at h e f;subst h;simp only[Fo.cs];rw[ti _ _ C,w,cN,pd _ _ (by simp;omega),w,List.take_append_of_le_length (by simp;omega),List.take_take,Nat.min_self,f]
end
section
variable {κ ν:Type}[DecidableEq κ]
theorem sG(m:aG (κ×ν))(k a:κ)(x z:ν):eU (oO m k x) a z=if a=k then x else eU m a z:=by
 induction m with
 |nil=>grind [oO,eU]
 |cons b m a=>
  grind [oO,eU,bW,bN]
theorem vH(m:aG (κ×ν))(k a:κ)(x:ν):oN (oO m k x) a=(decide (a=k)||oN m a):=by
 induction m with
 |nil=>rfl
 |cons b m a=>
  grind [oO,oN,bW,decide]
def yB(m:aG (κ×ν))(l:aG κ)(x:ν):aG (κ×ν):=l.foldl (λm k=>oO m k x) m
theorem KH(l:aG κ)(x z:ν)(k:κ):∀(m:aG (κ×ν)),eU (yB m l x) k z=if k∈l then x else eU m k z:=by
 induction l with
 |nil=>simp[yB]
 |cons a l b=>
  intro m;show eU (yB (oO m a x) l x) k z=_
  grind [sG]
def Rk(l:aG κ)(x:ν)(k:κ):∀(m:aG (κ×ν)),oN (yB m l x) k=(decide (k∈l)||oN m k):=by
 induction l with
 |nil=>simp[yB]
 |cons a l b=>
  intro m;show oN (yB (oO m a x) l x) k=_
  grind [vH]
theorem MP{l:aG κ}{m:aG (κ×ν)}(x:ν)(hl:Z l<=4611686018427387904):
  lT (Z l) (λ(a:Nat)(b:aG (κ×ν))=>(D (A l ((a:Nat):Int)) λc=>O (oO b c x):aP (aG<|κ×ν))) m=O (yB m l x):=by
 rw[Bu (s:=m) (λa=>yB m (l.take a) x) hl rfl (λa a=>by
  grind [ma,w,yB,dQ]),fz]
end
section
variable {N:Nat}
def KI(l:aG Int)(a b:Nat)(h:a+b<Z l):QY l (a:Int) (b:Int)=O l[a+b]:=by
 unfold QY;rw[aL C,show(a:Int)+(b:Int)=((a+b:Nat):Int)by omega,ma _ _ h]
def lF.VJ{l:aG Int}{a:Int}(h:lF l)(hl:∀c∈l,c<a):lF (l++[a]):=by
 grind [lF]
def lF.last{l:aG Int}{a:Int}(h:lF l)(hl:l.getLast? =O a):∀c∈l,c<=a:=by
 intro c b;have d:=yA hl;rw[d]at h b
 rcases dS.1 b with b|b
 ·have:=(fZ.1 h).2.2 c b a G;omega
 grind
def NZ{l:aG Int}(hs:l.Pairwise (λx y=>x<=y))(hl:Z l<=4611686018427387000)(hN:Z l<N):
  Ok (j5 N l) (λf=>lF f/\∀c,c∈f↔c∈l):=by
 unfold j5;refine jn (λh=>o ⟨?_,λc=>Iff.rfl⟩)<|λh=>?_
 ·have h:=of_decide_eq_true h
  match l,h with
  | [],_=>exact kW
  | [r],_=>exact List.pairwise_singleton _ _
  |r::K::l,h=>grind
 ·have h:=of_decide_eq_false h;have Y:∀(d b:Nat)(x y:Int),d<b->l[d]? =O x->l[b]? =O y->x<=y:=λd b x y ab J X=>by
   grind [jW,bR]
  refine v (od (Go:=λ_=>lF l) (Rt:=λf=>lF f/\∀c,c∈f↔c∈l) (λg=>∃a:Nat,g=(a:Int)/\1<=a/\a<=Z l/\lF (l.take a)) (λg=>Z l - g.toNat) ?_ ⟨1,rfl,du _,C,?_⟩ (by simp;omega)) ?_
  ·rintro g⟨a,rfl,ad,F,t⟩;refine jn (λe=>?_)<|λe=>ga ?_
   ·have u:a<Z l:=H
    refine oi u ?_;rw[kn ad C];refine oi C ?_;refine jn (λj=>?_)<|λj=>?_
    ·have j:l[a]=l[a - 1]:=H
     refine dy (ti l a F) ?_
     refine v (od (Go:=λg=>∃d:Nat,g.2.1=((d:Nat):Int)/\d<=Z l/\Z g.1=Z l/\lF (g.1.take d)/\∀c,c∈g.1.take d↔c∈l) (Rt:=λ_=>True)
      (λg=>∃d b:Nat,g.2.1=((d:Nat):Int)/\g.2.2=((b:Nat):Int)/\1<=b/\a+b<=Z l/\d<=a+b - 1/\Z g.1=Z l/\lF (g.1.take d)/\(g.1.take d).getLast? =l[a+b - 1]? /\
       (∀c,c∈g.1.take d↔c∈l.take (a+b))/\∀f,a+b - 1<=f->g.1[f]? =l[f]?) (λg=>Z l - g.2.2.toNat) ?_ ?_ (by simp;omega)) ?_
     ·rintro⟨i,r,K⟩⟨d,b,s,L,hj,af,ab,p,n,z,k,w⟩;dsimp only at s L p n z k w ⊢;subst s;subst L;rw[cN];refine jn (λe=>?_)<|λe=>ga ?_
      ·have A:a+b<Z l:=by have:=of_decide_eq_true e;omega
       have J:i[a+b]' C=l[a+b]:=by have:=w (a+b) C;rw[aM C,aM A]at this;injection this
       have X:i[a+(b - 1)]' C=l[a+(b - 1)]:=by have:=w (a+(b - 1)) C;rw[aM C,aM C]at this;injection this
       refine dy (KI i a b C) ?_;rw[kn hj C];refine dy (KI i a (b - 1) C) ?_;rw[J,X];have W:l.take (a+b+1)=l.take (a+b)++[l[a+b]]:=dQ A;have G:(i.take d).getLast? =O l[a+(b - 1)]:=by rw[z,show a+b - 1=a+(b - 1)by omega,aM C]
       have ag:l[a+(b - 1)]<=l[a+b]:=Y (a+(b - 1)) (a+b) _ _ C (aM _)<|aM _
       refine v (P:=λq=>Z q.1=Z l/\∃m:Nat,q.2=(m:Int)/\m<=a+b/\lF (q.1.take m)/\(q.1.take m).getLast? =l[a+b]? /\(∀c,c∈q.1.take m↔c∈l.take (a+b+1))/\∀f,a+b<=f->q.1[f]? =l[f]?) ?_ ?_
       ·refine jn (λB=>?_)<|λB=>o ?_
        ·have B:l[a+b]≠l[a+(b - 1)]:=by simpa using B
         refine dy (KI i a b C) ?_;rw[J];refine oi C<|o ⟨by simp[p],d+1,?_,C,?_⟩
         ·rw[bM C]
         ·dsimp only;rw[cN];have ht:(i.set d l[a+b]).take (d+1)=i.take d++[l[a+b]]:=by
           rw[dQ (by simp;omega),List.take_set_of_le<|du _];simp
          rw[ht];refine⟨n.VJ λc D=>?_,by simp[aM A],λc=>?_,λf V=>?_⟩
          ·have:=n.last G c D;omega
          ·rw[W,dS,dS,k]
          ·rw[kX,aJ C];exact w f C
        ·have j:l[a+b]=l[a+(b - 1)]:=by simpa using B
         refine⟨p,d,rfl,C,n,?_,λc=>?_,λf V=>w f C⟩
         ·dsimp only;rw[G,aM A,j]
         ·rw[W,dS,<-k];constructor
          ·exact .inl
          ·rintro(e|e)
           ·exact e
           ·simp at e;subst e;rw[j];exact List.mem_of_getLast? G
       ·rintro⟨ah,r⟩⟨M,m,P,g3,Q,R,S,T⟩;dsimp only at M P Q R S T ⊢;refine fx ⟨⟨m,b+1,P,?_,C,C,C,M,Q,?_,S,λf V=>T f C⟩,?_⟩
        ·rw[bM C]
        ·rw[show a+(b+1) - 1=a+b by omega];exact R
        ·rw[bM C];simp only[cN];omega
      ·have E:a+b=Z l:=by have:=of_decide_eq_false e;omega
       refine⟨d,rfl,C,p,n,λc=>?_⟩;rw[k,E,fz]
     ·refine⟨a,1,rfl,rfl,du _,C,C,rfl,t,?_,λc=>?_,λf _=>rfl⟩
      ·dsimp only;rw[show a+1 - 1=a by omega,aM u,j,List.getLast?_eq_getElem?,cQ,Nat.min_eq_left F,List.getElem?_take_of_lt C,aM C]
      ·dsimp only;rw[dQ u,dS];constructor
       ·exact .inl
       ·rintro(e|e)
        ·exact e
        ·simp at e;subst e;rw[j];refine eR (i:=a - 1) ?_;rw[List.getElem?_take_of_lt C,aM C]
     ·rintro ae I;refine gf I ?_<|λaa=>aa.elim
      rintro⟨i,r,K⟩⟨d,s,n,p,U,k⟩;dsimp only at s p U k ⊢;subst s;refine dy (ti i d C) ?_;rw[cN];refine dy (pd _ d (by simp;omega))<|p5 ?_
      rw[List.take_append_of_le_length (by simp;omega),List.take_take,Nat.min_self];exact⟨U,k⟩
    ·have j:l[a]≠l[a - 1]:=by simpa using j
     refine fx ⟨⟨a+1,by rw[bM C],C,C,?_⟩,by rw[bM C];simp only[cN];omega⟩;rw[dQ u];refine t.VJ λc D=>?_;have z:(l.take a).getLast? =O l[a - 1]:=by
      rw[List.getLast?_eq_getElem?,cQ,Nat.min_eq_left F,List.getElem?_take_of_lt C,aM C]
     have h3:=t.last z c D;have h4:=Y (a - 1) a _ _ C (aM (by omega:a - 1<Z l))<|aM u
     omega
   ·have E:a=Z l:=by have:=of_decide_eq_false e;omega
    subst E;rw[fz]at t;exact t
  ·match l,h with
   | [],h=>simp at h
   |r::l,_=>exact List.pairwise_singleton _ _
  ·rintro ae I;exact gf I (λg e=>o ⟨e,λc=>Iff.rfl⟩)<|λaa e=>o e
def AH(l:aG z):aG Int:=l.flatMap λr=>[r.X0,r.X1]
def lE(l:aG z):aG Int:=l.flatMap λr=>[r.Y0,r.Y1]
def AJ{l:aG z}{c:Int}:c∈AH l↔∃r∈l,c=r.X0\/c=r.X1:=by simp[AH,List.mem_flatMap]
theorem rV{l:aG z}{c:Int}:c∈lE l↔∃r∈l,c=r.Y0\/c=r.Y1:=by simp[lE,List.mem_flatMap]
theorem yC(l:aG z):Z (AH l)=2*Z l:=by
 induction l with
 |nil=>rfl
 |cons b l a=>grind [AH]
theorem qu(l:aG z):Z (lE l)=2*Z l:=by
 induction l with
 |nil=>rfl
 |cons b l a=>grind [lE]
def Gf(X Y:aG Int)(s:aG Bd):Prop:=∀b∈s,b.y0∈Y/\b.y1∈Y/\∀c∈b.xs,c∈X
def Gf.push{X Y:aG Int}{s:aG Bd}{b:Bd}(h:Gf X Y s)(g:b.y0∈Y)(h1:b.y1∈Y)(h2:∀c∈b.xs,c∈X):Gf X Y (mb s b):=by
 intro c a;unfold mb at a;split at a
 ·exact h c a
 ·split at a
  ·rename_i d f;have e:d∈s:=List.mem_of_getLast? f;split at a
   ·rcases dS.1 a with a|a
    ·exact h c<|List.dropLast_subset _ a
    ·simp at a;subst a;exact⟨(h d e).1,h1,(h d e).2.2⟩
   ·rcases dS.1 a with a|a
    ·exact h c a
    grind
  grind
def lF.nodup{l:aG Int}(h:lF l):l.Nodup:=List.Pairwise.imp (λh=>C) h
def Gf.row{X Y:aG Int}{s:aG Bd}(h:Gf X Y s)(hc:gC s){b:Bd}(a:b∈s):Z b.xs<=Z X:=iw (hc.each b a).2.2.1.nodup (h b a).2.2
def Gf.len{X Y:aG Int}{s:aG Bd}(h:Gf X Y s)(hc:gC s):Z s<=Z Y:=by
 have e:(s.map Bd.y0).Nodup:=by
  unfold List.Nodup;rw[List.pairwise_map];refine List.Pairwise.imp_of_mem (λ{a b}d c f=>?_) hc.ord;have:=(hc.each a d).1;omega
 have:=iw e (m:=Y) (λd d=>by
  obtain⟨b,c,rfl⟩:=dH.1 d
  exact(h b c).1)
 grind
def Gf.mono{X Y a b:aG Int}{s:aG Bd}(h:Gf X Y s)(hx:∀c∈X,c∈a)(hy:∀c∈Y,c∈b):Gf a b s:=λa b=>⟨hy _ (h a b).1,hy _ (h a b).2.1,λc d=>hx c<|(h a b).2.2 c d⟩
def TD(s:aG Bd)(b:Bd):Z (mb s b)<=Z s+1:=by
 grind [mb,yA]
def lF.lt{l:aG Int}(h:lF l){i j:Nat}{x y:Int}(a:i<j)(hx:l[i]? =O x)(hy:l[j]? =O y):x<y:=by
 have:=jW.1 h i j (bR.1 hx).1 (bR.1 hy).1 a
 grind
def lF.next{l:aG Int}(h:lF l){k:Nat}{x y c:Int}(hx:l[k]? =O x)(hy:l[k+1]? =O y)(hc:c∈l)(f:x<c):y<=c:=by
 obtain⟨b,d⟩:=dM hc
 rcases Nat.lt_trichotomy b (k+1)with a|a|a
 ·exfalso
  by_cases e:b=k
  ·grind
  ·have:=h.lt (show b<k by omega) d hx;omega
 ·grind
 ·have:=h.lt a hy d;omega
def FZ{l:aG z}{φ:z->aP Bool}(p:z->Bool)(b:∀x∈l,φ x=O (p x))(hl:Z l<=4611686018427387000)(a:Z l<N):kH N l φ=O (l.filter<|λx=> !p x):=
 VI (z:=(⟨0,0,0,0⟩:z)) p b hl a
def L9{l:aG z}(hl:Z l<=268435456):lW N l=O l:=by
 grind [lW,jA,w]
structure acB (l m:aG z) (ys:aG Int) (k:Nat) (out:aG aB) (now:aG z) (nx:Nat):Prop where
 can:gC (out.map cS)
 top:∀c∈out,∀y,ys[k]? =O y->c.Y1<=y
 cover:∀x y,CW (out.map cS) x y=(zK l x y&&decide (∀a,ys[k]? =O a->y<a))
 lim:Gf (AH l) (lE l) (out.map cS)
 in1:∀r∈now,r∈m.take nx
 in2:∀r∈m.take nx,∀y,ys[k]? =O y->y<r.Y1->r∈now
 len:Z now<=nx
 nle:nx<=Z m
 rest:∀(j:Nat)r y,nx<=j->m[j]? =O r->ys[k]? =O y->y<=r.Y0
 low:∀r∈now,∀y,ys[k]? =O y->r.Y0<=y
def Xp{l m:aG z}(h:∀r,r∈l↔r∈m)(x y:Int):zK l x y=zK m x y:=by
 grind [mD]
structure yD (l:aG z) (s:aG aB):Prop where
 can:gC (s.map cS)
 cover:∀x y,CW (s.map cS) x y=zK l x y
 lim:Gf (AH l) (lE l) (s.map cS)
def vI{l:aG z}(hl:Z l<=134217728)(U:∀r∈l,LQ r)(hN:4294967296<=N):Ok (j8 N l) (yD l):=by
 unfold j8;refine dy (L9 C) ?_
 obtain⟨e,J,S,h3⟩:=G6 (φ:=mR N) (l:=l) (λF t=>F.Y0 - t.Y0) (λF ha t hb=>by
  unfold mR;rw[q4 (U F ha).s3 (U t hb).s3]) (λF _=>C) (λF _ t _ h _ J S=>C) (λF _ t _ h _ J S=>C) C
 refine dy J ?_;have a9:Z e=Z l:=S.length_eq;have K:∀r,r∈e↔r∈l:=λr=>S.mem_iff;refine v (p9 (λb i=>i=lE (e.take b)) C rfl<|λb i hk A=>?_) ?_
 ·grind [oi,li,o,qu,dQ,lE]
 rintro i rfl;rw[fz];have aV:C5 (lE e)=O ((lE e).mergeSort<|λn f=>decide<|n<=f):=by grind [C5,qu]
 refine dy aV ?_;have ao:((lE e).mergeSort<|λn f=>decide<|n<=f).Pairwise (λn f=>n<=f):=by
  grind [List.pairwise_mergeSort,decide,lE,List.Pairwise.imp]
 have ag:∀h,h∈(lE e).mergeSort (λn f=>decide<|n<=f)↔h∈lE e:=λh=>List.mem_mergeSort;have a2:Z ((lE e).mergeSort<|λn f=>decide<|n<=f)=2*Z e:=by rw[List.length_mergeSort,qu]
 generalize (lE e).mergeSort (λn f=>decide<|n<=f)=sy at ao ag a2;refine v (NZ (N:=N) ao C C) ?_;rintro c⟨E,ai⟩;have be:Z c<=2*Z e:=by
  have:=iw E.nodup (m:=sy)<|λh k=>(ai h).1 k
  omega
 have Q:∀r∈e,r.Y0∈c:=λr a=>(ai _).2<|(ag _).2<|rV.2 ⟨r,a, .inl rfl⟩
 have au:∀r∈e,r.Y1∈c:=λr a=>(ai _).2<|(ag _).2<|rV.2 ⟨r,a, .inr rfl⟩
 have av:∀h∈c,h∈lE l:=λh k=>by
  grind [rV]
 refine v (od (Go:=λi=>yD l i.1) (Rt:=λ_=>True) (λi=>∃b P:Nat,i.2.2.2=((b:Nat):Int)/\i.2.2.1=(P:Int)/\(b<Z c\/b=0)/\acB l e c b i.1 i.2.1 P) (λi=>Z c - i.2.2.2.toNat) ?_ ?_ (by simp;omega)) ?_
 ·rintro⟨L,a3,F,t⟩⟨b,P,B,e2,hk,j⟩;dsimp only at B e2 j ⊢;subst B;subst e2;rw[bM C];refine jn (λd=>?_)<|λd=>ga ?_
  ·have aa:b+1<Z c:=H
   have u:c[b]? =O c[b]:=aM _;have x:c[b+1]? =O c[b+1]:=aM aa;have s:=E.lt (Nat.lt_succ_self b) u x;have al:=j.cover;simp only[u,Option.some.injEq,forall_eq']at al;refine dy (FZ (λr=>decide<|r.Y1<=c[b]) (λr _=>by grind [uK,ma,w]) (by have:=j.len;have:=j.nle;omega) (by have:=j.len;have:=j.nle;omega)) ?_;have a7:=qW (λr:z=> !decide (r.Y1<=c[b])) a3;have a6:=j.len;have aE:=j.nle
   refine v (od (Go:=λi=>∃g:Nat,i.2=((g:Nat):Int)/\g<=Z e/\Z i.1<=g/\(∀r∈i.1,r∈e.take g)/\(∀r∈e.take g,c[b]<r.Y1->r∈i.1)/\(∀r∈i.1,r.Y0<=c[b]/\c[b]<r.Y1)/\(∀(p:Nat)r,g<=p->e[p]? =O r->c[b]<r.Y0)) (Rt:=λ_=>True)
    (λi=>∃g:Nat,i.2=((g:Nat):Int)/\P<=g/\g<=Z e/\Z i.1<=g/\(∀r∈i.1,r∈e.take g)/\(∀r∈e.take g,c[b]<r.Y1->r∈i.1)/\(∀r∈i.1,r.Y0<=c[b]/\c[b]<r.Y1)) (λi=>Z e - i.2.toNat) ?_ ?_ (by simp;omega)) ?_
   ·rintro⟨nw,t⟩⟨g,B,g0,Y,M,D,G,I⟩;dsimp only at B M D G I ⊢;subst B;refine v (P:=λt=>t=aA↔∃d:g<Z e,e[g].Y0<=c[b]) ?_ ?_
    ·refine jn (λd=>?_)<|λd=>o ?_
     ·have s:g<Z e:=by have:=of_decide_eq_true d;omega
      refine oi s<|oi C<|o ?_
      rw[dZ];exact⟨λd=>⟨s,d⟩,λ⟨_,d⟩=>d⟩
     ·have:=of_decide_eq_false d;constructor
      ·intro d;cases d
      ·rintro⟨d,_⟩;omega
    ·intro bb ak;refine jn (λd=>?_)<|λd=>ga ?_
     ·obtain⟨s,R⟩:=ak.1 d;have ap:e.take (g+1)=e.take g++[e[g]]:=dQ s;refine oi s<|li (by simp;omega)<|fx ⟨⟨g+1,by rw[bM C],C,C,by simp;omega,λr a=>?_,λr a af=>?_,λr a=>?_⟩,by rw[bM C];simp only[cN];omega⟩
      ·rw[ap]
       rcases dS.1 a with d|d
       ·exact List.mem_append_left _<|D r d
       ·exact List.mem_append_right _ d
      ·rw[ap]at a
       rcases dS.1 a with d|d
       ·exact List.mem_append_left _<|G r d af
       ·exact List.mem_append_right _ d
      ·rcases dS.1 a with d|d
       ·exact I r d
       ·simp at d;subst d;refine⟨R,?_⟩;have:=(U e[g]<|(K _).1<|cH s).y;have:=j.rest g _ c[b] g0 (aM s) u;omega
     ·refine⟨g,rfl,Y,M,D,G,I,λp r q a=>?_⟩;have am:=(bR.1 a).1;have s:g<Z e:=C
      have R:¬e[g].Y0<=c[b]:=λR=>by rw[ak.2 ⟨s,R⟩]at d;cases d
      by_cases A:g=p
      ·subst A;rw[aM s]at a;injection a with a;subst a;omega
      ·have:=jW.1 h3 g p s am C;have a1:=(bR.1 a).2;rw[a1]at this;omega
   ·refine⟨P,rfl,du _,aE,by dsimp only;omega,λr a=>j.in1 r (nc.1 a).1,λr a d=>nc.2 ⟨j.in2 r a c[b] u d,by simpa using d⟩,λr a=>?_⟩;have a:=nc.1 a;have af:c[b]<r.Y1:=by simpa using a.2
    exact⟨j.low r a.1 c[b] u,af⟩
   ·rintro a4 ho;refine gf ho ?_<|λr=>r.elim
    rintro⟨nw,t⟩⟨g,B,Y,M,D,G,I,g6⟩;dsimp only at B M D G I ⊢;subst B;refine oi C<|oi aa ?_
    have ad:∀r∈nw,r∈l:=λr a=>(K r).1<|List.take_subset _ _<|D r a
    obtain⟨y,bf,s1,X,s3,s4,s5,s6,s7⟩:=NW (N:=N) (l:=nw) C<|λr a=>U r<|ad r a
    refine dy s1 ?_;have aX:∀h∈y,h∈AH l:=λh k=>by
     obtain⟨r,a,d⟩:=s7 h k;exact AJ.2 ⟨r,ad r a,d⟩
    have ba:Z L<=2*Z l:=by have:=j.lim.len j.can;rw[qu,dR]at this;exact this
    have a0:∀h∈L,Z h.Xs<=2*Z l:=λh k=>by
     have:=j.lim.row j.can (b:=cS h)<|dH.2 ⟨h,k,rfl⟩
     rw[yC]at this;exact this
    obtain⟨a5,p1,W⟩:=SE (N:=N) (s:=L) (b:=⟨c[b],c[b+1],y⟩) C (λh k=>by have:=a0 h k;omega);refine dy p1 ?_;have ah:∀h∈L.map cS,h.y1<=(cS ⟨c[b],c[b+1],y⟩).y0:=λh k=>by
     obtain⟨aw,hd,rfl⟩:=dH.1 k;exact j.top aw hd c[b] u
    have aS:=Eo j.can ah s3 s4;refine fx ⟨⟨b+1,g,rfl,rfl, .inl aa,⟨by dsimp only;rw[W];exact aS,λh k f m=>?_,λn f=>?_,?_,λr a=>D r<|X.subset a,λr a f m d=>?_,by rw[X.length_eq];exact M,Y,λp r f q a m=>?_,λr a f m=>?_⟩⟩,by simp only[cN];omega⟩
    ·rw[x]at m;injection m with m;subst m
     have aZ:cS h∈mb (L.map cS) (cS ⟨c[b],c[b+1],y⟩):=by rw[<-W];exact dH.2 ⟨h,k,rfl⟩
     exact Ep ah (by show c[b]<=c[b+1];omega) _ aZ
    ·simp only[x,Option.some.injEq,forall_eq'];unfold CW;rw[W,En ah (λh k=>(j.can.each h k).1)<|λd=>absurd d (by show ¬c[b+1]<=c[b];omega)]
     by_cases aj:c[b]<=f/\f<c[b+1]
     ·rw[aL (show(cS ⟨c[b],c[b+1],y⟩).y0<=f/\f<(cS ⟨c[b],c[b+1],y⟩).y1 from aj),bN aj.2,Bool.and_true];show vk y n=_;rw[s5,iK,KF,mD];constructor
      ·rintro⟨r,a,d⟩;have V:=List.take_subset _ _<|D r a
       have h5:=I r a;have:=E.next u x (au r V) h5.2;exact⟨r,ad r a,d,C,C⟩
      ·rintro⟨r,a,d,h7,h8⟩;have V:=(K r).2 a;have h9:r.Y0<=c[b]:=by
        by_cases ax:r.Y0<=c[b]
        ·exact ax
        ·have:=E.next u x (Q r V) C;omega
       have ay:r∈e.take g:=by
        obtain⟨p,q⟩:=dM V
        by_cases aD:p<g
        ·exact eR (i:=p) (by rw[List.getElem?_take_of_lt aD];exact q)
        ·have:=g6 p r C q;omega
       exact⟨r,G r ay C,d⟩
     ·rw[aJ (show ¬((cS ⟨c[b],c[b+1],y⟩).y0<=f/\f<(cS ⟨c[b],c[b+1],y⟩).y1)from aj)];show CW (L.map cS) n f=_;rw[al]
      by_cases J:f<c[b]
      ·rw[bN J,bN (show f<c[b+1]by omega)]
      ·rw[bW J,bW (show ¬f<c[b+1]by omega)]
    ·show Gf (AH l) (lE l) (a5.map cS);rw[W];exact j.lim.push (av _<|cH _) (av _<|cH _) aX
    ·rw[x]at m;injection m with m;subst m
     exact X.symm.subset<|G r a C
    ·rw[x]at m;injection m with m;subst m
     exact E.next u x (Q r<|eR a)<|g6 p r q a
    ·rw[x]at m;injection m with m;subst m
     have:=(I r<|X.subset a).1;omega
  ·have a8:¬b+1<Z c:=by have:=of_decide_eq_false d;omega
   refine⟨j.can,λn f=>?_,j.lim⟩;rw[j.cover]
   by_cases ar:c= []
   ·have:zK l n f=false:=by
     rw[<-mz,mD];rintro⟨r,a,_⟩;have:=Q r<|(K r).2 a
     rw[ar]at this;cases this
    rw[this];rfl
   ·have ab:b<Z c:=by
     rcases hk with d|d
     ·exact d
     ·subst d;exact List.length_pos_iff.2 ar
    rw[aM ab];simp only[Option.some.injEq,forall_eq']
    cases k:zK l n f with
    |false=>rfl
    |true=>
     obtain⟨r,a,_,h7,h8⟩:=mD.1 k;have:=au r<|(K r).2 a
     obtain⟨p,q⟩:=dM this;have am:=(bR.1 q).1;have:r.Y1<=c[b]:=by
      by_cases A:p=b
      ·subst A;rw[aM ab]at q;injection q with q;omega
      ·have:=E.lt (show p<b by omega) q<|aM ab;omega
     rw[bN (show f<c[b]by omega)];rfl
 ·refine⟨0,0,rfl,rfl, .inr rfl,?_⟩;show acB l e c 0 [] [] 0;refine⟨gC.nil,λh k=>(by cases k),λn f=>?_,λt hb=>(by cases hb),λr a=>(by cases a),λr a=>(by rw[List.take_zero]at a;cases a),du _,cT _,λp r f _ a aq=>?_,λr a=>(by cases a)⟩
  ·show aK=_;symm;rw[Bool.and_eq_false_iff]
   cases k:zK l n f with
   |false=>exact .inl rfl
   |true=>
    right;obtain⟨r,a,_,h7,h8⟩:=mD.1 k;have an:=Q r<|(K r).2 a
    have ae:0<Z c:=List.length_pos_of_mem an;rw[decide_eq_false_iff_not];intro d;have d:=d c[0]<|aM ae
    obtain⟨p,q⟩:=dM an
    by_cases A:p=0
    ·subst A;rw[aM ae]at q;injection q with q;omega
    ·have:=E.lt (show 0<p by omega) (aM ae) q;omega
  ·obtain⟨j',T⟩:=dM<|Q r<|eR a
   by_cases A:j'=0
   ·subst A;rw[aq]at T;injection T with T;omega
   ·have:=E.lt (show 0<j' by omega) aq T;omega
 ·rintro a4 ho;refine gf ho (λi d=>o d)<|λr=>r.elim
end
section
variable {N:Nat}
def KJ:aG Int->aG (Int×Int)
 |a::b::l=>(a,b)::KJ l
 |_=>[]
theorem JI:∀(xs:aG Int),Z (KJ xs)=Z xs / 2
 | []=>rfl
 | [a]=>by simp[KJ]
 |a::c::b=>by unfold KJ;rw[eK,JI b];simp only[eK];omega
theorem Ha:∀(xs:aG Int)(j:Nat)(h:2*j+1<Z xs),(KJ xs)[j]? =O (xs[2*j],xs[2*j+1])
 | [],j,h=>by simp at h
 | [b],j,h=>by simp at h
 |b::c::a,0,h=>rfl
 |b::c::a,j+1,h=>by
  have:=Ha a j H;unfold KJ;rw[List.getElem?_cons_succ,this];have d:(b::c::a)[2*(j+1)]=a[2*j]' H:=by simp[show 2*(j+1)=2*j+1+1 by omega]
  have e:(b::c::a)[2*(j+1)+1]=a[2*j+1]' H:=by simp[show 2*(j+1)+1=2*j+1+1+1 by omega]
  rw[d,e]
theorem KK:∀{xs:aG Int},Z xs % 2=0->eH (KJ xs)=xs
 | [],_=>rfl
 | [b],a=>by simp at a
 |b::c::d,a=>by unfold KJ;rw[ml,KK H]
def Xq{xs:aG Int}(h:lF xs)(he:Z xs % 2=0)(x:Int):vk xs x=lD (KJ xs) x:=by
 grind [AG,KJ,KK]
def N0{xs:aG Int}:∀p∈KJ xs,p.1∈xs/\p.2∈xs:=by
 grind [dM,bR,JI,Ha,cH]
def Rl{xs:aG Int}(h:lF xs):∀p∈KJ xs,p.1<p.2:=by
 intro p d;obtain⟨b,a⟩:=dM d;have c:=(bR.1 a).1;rw[JI]at c;rw[Ha xs b C]at a;injection a with a;subst a
 exact h.lt (show 2*b<2*b+1 by omega) (aM _)<|aM _
def rW(b:aB):aG z:=(KJ b.Xs).map λp=>⟨p.1,b.Y0,p.2,b.Y1⟩
def bF(s:aG aB):aG z:=s.flatMap rW
theorem rX(b:aB)(s:aG aB):bF (b::s)=rW b++bF s:=rfl
theorem vJ(b:aB):Z (rW b)=Z b.Xs / 2:=by simp[rW,dR,JI]
theorem tx(s t:aG aB):bF (s++t)=bF s++bF t:=List.flatMap_append
theorem HZ(s:aG aB)(k:Nat):Z (bF<|s.take k)<=Z (bF s):=by
 grind [List.take_append_drop,tx,cK]
def KL{s:aG aB}{A B:Nat}(h1:Z s<=A)(h2:∀b∈s,Z b.Xs<=B):Z (bF s)<=A*B:=by
 induction s generalizing A with
 |nil=>simp[bF]
 |cons b s a=>
  rw[rX,cK,vJ];simp at h1;obtain⟨a,rfl⟩:∃a,A=a+1:=⟨A - 1,C⟩
  grind
def KM{s:aG aB}(he:∀b∈s,Z b.Xs % 2=0)(h1:Z s<=1099511627776)(h2:∀b∈s,Z b.Xs<=1099511627776/\Z b.Xs<N)(a:Z (bF s)<=1099511627776):mh N s=O (bF s):=by
 refine l_ ?_;unfold mh;refine v (p9 (λc d=>d=bF (s.take c)) C rfl<|λc d e a=>?_)<|λd a=>o (by rw[a,fz])
 subst a;refine oi e ?_;have a:=cH e;generalize d:s[c]=b at a ⊢;have d:=he b a;have d:=h2 b a;have g:bF (s.take<|c+1)=bF (s.take c)++rW b:=by
  grind [dQ,tx,bF]
 have lm:=HZ s<|c+1
 rw[g,cK,vJ]at lm;refine v (od (Go:=λd=>d.1=bF (s.take<|c+1)) (Rt:=λ_=>True) (λd=>∃a:Nat,d.2=((2*a:Nat):Int)/\2*a<=Z b.Xs/\d.1=bF (s.take c)++(rW b).take a) (λd=>Z b.Xs - d.2.toNat) ?_ ⟨0,rfl,C,G⟩ (by simp;omega)) ?_
 ·rintro⟨e,e⟩⟨a,e,f,f⟩;dsimp only at e f ⊢;subst e;subst f;refine jn (λe=>?_)<|λe=>ga ?_
  ·have f:2*a+1<Z b.Xs:=H
   refine oi C ?_;rw[bM C];refine oi f<|li ?_<|fx ⟨⟨a+1,?_,C,?_⟩,?_⟩
   ·grind
   ·rw[MO C];congr 1
   ·rw[eM];congr 1;have f:(rW b)[a]? =O ⟨b.Xs[2*a],b.Y0,b.Xs[2*a+1],b.Y1⟩:=by
     grind [rW,Ha]
    have h:=(bR.1 f).1;rw[dQ h,(bR.1 f).2]
   ·rw[MO C];simp only[cN];omega
  ·have f:2*a=Z b.Xs:=by have:=of_decide_eq_false e;omega
   show bF (s.take c)++(rW b).take a=_;rw[g,nR (l:=rW b) (by rw[vJ];omega)]
 ·rintro a a;exact gf a (λd e=>o e)<|λa=>a.elim
def Xr{s:aG aB}(h1:Z s<=1099511627776)(h2:∀b∈s,Z b.Xs<=1099511627776)(a:Z (bF s)<=1099511627776):rD N s=O ((Z (bF s):Nat):Int):=by
 refine l_ ?_;unfold rD;refine v (p9 (λa d=>d=((Z (bF<|s.take a):Nat):Int)) C rfl<|λa d e c=>?_)<|λd c=>o (by rw[c,fz])
 subst c;refine oi e<|o ?_
 have c:=cH e;have d:=h2 _ c;have c:bF (s.take<|a+1)=bF (s.take a)++rW s[a]:=by
  grind [dQ,tx,bF]
 grind [lm,HZ,cK,vJ,Int.tdiv,Int.ofNat_tdiv,wz,ed]
def Rm(l m:aG z)(x y:Int):zK (l++m) x y=(zK l x y||zK m x y):=List.any_append
def VK{b:aB}(h:lF b.Xs)(he:Z b.Xs % 2=0)(x y:Int):zK (rW b) x y=(vk b.Xs x&&(decide (b.Y0<=y)&&decide (y<b.Y1))):=by
 rw[Xq h he,iK,mD,dE,AF,dE,dZ,dZ];unfold rW;constructor
 ·grind
 ·rintro⟨⟨e,d,a⟩,c⟩;exact⟨_,dH.2 ⟨e,d,rfl⟩,a,c⟩
theorem ux:∀{s:aG aB},gC (s.map cS)->∀x y,zK (bF s) x y=CW (s.map cS) x y
 | [],_,x,y=>rfl
 |a::s,c,x,y=>by
  rw[rX,Rm,ux c.tail x y];have b:=c.each (cS a) G;rw[VK b.2.2.1 b.2.2.2];unfold CW;rw[gQ,rT]
  by_cases b:a.Y0<=y/\y<a.Y1
  ·rw[aL (show(cS a).y0<=y/\y<(cS a).y1 from b),pX<|λd e=> .inl (by have:=c.KD d e;grind [cS]),bN b.1,bN b.2];show(vk a.Xs x&&aA||aK)=vk a.Xs x;simp
  ·rw[aJ (show ¬((cS a).y0<=y/\y<(cS a).y1)from b)];have:(decide (a.Y0<=y)&&decide (y<a.Y1))=false:=by rw[Bool.and_eq_false_iff,decide_eq_false_iff_not,decide_eq_false_iff_not];omega
   rw[this];simp
def xP{s:aG aB}{r:z}(h:r∈bF s):∃b∈s,∃p∈KJ b.Xs,r= ⟨p.1,b.Y0,p.2,b.Y1⟩:=by
 grind [bF,rW]
def KN{s:aG aB}{X Y:aG Int}(h:gC (s.map cS))(hl:Gf X Y (s.map cS))(hx:∀c∈X,i_ c)(hy:∀c∈Y,i_ c):∀r∈bF s,LQ r/\(r.X0∈X/\r.X1∈X)/\r.Y0∈Y/\r.Y1∈Y:=by
 intro r d;obtain⟨a,e,b,i,rfl⟩:=xP d;have d:cS a∈s.map cS:=dH.2 ⟨a,e,rfl⟩;have g:=h.each _ d;have a:=hl _ d;have d:=N0 b i;have e:=a.2.2 b.1 d.1;have f:=a.2.2 b.2 d.2;exact⟨⟨Rl g.2.2.1 b i,g.1,hx _ e,hx _ f,hy _ a.1,hy _ a.2.1⟩,⟨e,f⟩,a.1,a.2.1⟩
def F0{l:aG Int}{x:Int}(h:∀c∈l,c<=x):vk l x=(Z l % 2==1):=by grind [vk,SC]
theorem H0{l:aG Int}{a x:Int}(h:x<a):vk (l++[a]) x=vk l x:=by grind [vk,Kz,u9,NV]
def TE(l:aG Int):Bool:=Z l % 2==1
theorem KO(l:aG Int)(a:Int):TE (l++[a]) = !TE l:=by
 unfold TE
 grind
structure PL (jI:Bool->Bool->Bool) (a b a' b' out:aG Int) (inA inB is:Bool) (pa pb:aG Int):Prop where
 ea:a=pa++a'
 eb:b=pb++b'
 oa:inA=TE pa
 ob:inB=TE pb
 oo:is=TE out
 ok:is=jI inA inB
 low:∀c,(c∈pa\/c∈pb\/c∈out)->∀d,(d∈a'\/d∈b')->c<d
 inc:lF out
 acC:∀x,(∀d,(d∈a'\/d∈b')->x<d)->vk out x=jI (vk pa x) (vk pb x)
 mem:∀c∈out,c∈pa\/c∈pb
 len:Z out<=Z pa+Z pb
def PL.step{jI:Bool->Bool->Bool}{a b p q i:aG Int}{j k is:Bool}{pa e:aG Int}(I:PL jI a b p q i j k is pa e)(E:lF a)(F:lF b)(x:Int)(n o:aG Int)(f g:Bool)
  (h1:p=(if f then x::n else n)) (h2:q=(if g then x::o else o)) (z:f=aA\/g=aA) (hx:∀d,(d∈n\/d∈o)->x<d):
  PL jI a b n o (if jI (j ^^ f) (k ^^ g)=is then i else i++[x]) (j ^^ f) (k ^^ g) (jI (j ^^ f)<|k ^^ g) (if f then pa++[x]else pa) (if g then e++[x]else e):=by
 have A:x∈p\/x∈q:=H
 have M:∀d,(d∈n\/d∈o)->d∈p\/d∈q:=λd v=>H
 have w:∀c,(c∈pa\/c∈e\/c∈i)->c<x:=λc l=>I.low c l x A;have K:∀c∈(if f then pa++[x]else pa),c∈pa\/(f=aA/\c=x):=λc l=>H
 have L:∀c∈(if g then e++[x]else e),c∈e\/(g=aA/\c=x):=λc l=>H
 have y:∀c∈(if jI (j ^^ f) (k ^^ g)=is then i else i++[x]),c∈i\/c=x:=λc l=>H
 have B:(j ^^ f)=TE (if f then pa++[x]else pa):=by
  rw[I.oa];grind [KO]
 have C:(k ^^ g)=TE (if g then e++[x]else e):=by
  rw[I.ob];grind [KO]
 have D:jI (j ^^ f) (k ^^ g)=TE (if jI (j ^^ f) (k ^^ g)=is then i else i++[x]):=by
  split
  ·rename_i h;rw[h];exact I.oo
  ·rename_i h;rw[KO,<-I.oo]
   cases J:jI (j ^^ f) (k ^^ g) <;> cases G:is <;> simp_all
 refine⟨?_,?_,B,C,D,rfl,?_,?_,?_,?_,?_⟩
 ·rw[I.ea,h1];grind
 ·rw[I.eb,h2];grind
 ·grind
 ·split
  ·exact I.inc
  ·exact I.inc.VJ λc l=>w c<|.inr<|.inr l
 ·intro m O
  by_cases N:m<x
  ·have r:vk (if f then pa++[x]else pa) m=vk pa m:=by grind [H0]
   have s:vk (if g then e++[x]else e) m=vk e m:=by grind [H0]
   have t:vk (if jI (j ^^ f) (k ^^ g)=is then i else i++[x]) m=vk i m:=by grind [H0]
   rw[r,s,t];refine I.acC m λd v=>?_
   grind
  ·rw[F0 (l:=if f then pa++[x]else pa),F0 (l:=if g then e++[x]else e),F0]
   all_goals grind [TE]
 ·intro c l;have P:∀c,c∈pa->c∈(if f then pa++[x]else pa):=λc h=>H
  have Q:∀c,c∈e->c∈(if g then e++[x]else e):=λc h=>H
  rcases y c l with h|rfl
  ·rcases I.mem c h with h|h
   ·grind
   grind
  grind
 ·have:=I.len;have u:Z (if f then pa++[x]else pa)+Z (if g then e++[x]else e)>=Z pa+Z e+1:=by
   rcases z with h|h
   ·subst h;cases g <;> simp <;> omega
   ·subst h;cases f <;> simp <;> omega
  split
  ·omega
  ·simp at u ⊢;omega
end
section
variable {N:Nat}
def mw(x:Int)(l:aG Int):A (x::l) 0=O x:=rfl
theorem AK{α:Type}(x:α)(l:aG α):wX (x::l) 1 ((Z (x::l):Nat):Int)=O l:=ti (x::l) 1 G
def ou{α:Type}(x:α)(l:aG α):decide (((Z (x::l):Nat):Int)>0)=true:=bN G
theorem Es{α:Type}(x:α)(l:aG α):(((Z (x::l):Nat):Int)==0)=false:=by rfl
def Rn{a b:aG Int}(i:lF a)(j:lF b)(h:a≠[]\/b≠[]):∃x f g c e,a=(if c then x::f else f)/\b=(if e then x::g else g)/\(c=aA\/e=aA)/\(∀d,(d∈f\/d∈g)->x<d):=by
 match a,b,i,j,h with
 | [],[],_,_,h=>grind
 |x::f,[],i,_,_=>exact⟨x,f,[],aA,aK,rfl,rfl, .inl rfl,λd e=>by rcases e with h|h;exact i.head d h;cases h⟩
 | [],k::g,_,j,_=>exact⟨k,[],g,aK,aA,rfl,rfl, .inr rfl,λd e=>by rcases e with h|h;cases h;exact j.head d h⟩
 |x::f,k::g,i,j,_=>
  rcases Int.lt_trichotomy x k with h|h|h
  ·refine⟨x,f,k::g,aA,aK,rfl,rfl, .inl rfl,λd e=>?_⟩
   rcases e with c|c
   ·exact i.head d c
   ·rcases eO.1 c with rfl|c
    ·exact h
    ·have:=j.head d c;omega
  ·subst h;exact⟨x,f,g,aA,aA,rfl,rfl, .inl rfl,λd e=>by rcases e with h|h;exact i.head d h;exact j.head d h⟩
  ·refine⟨k,x::f,g,aK,aA,rfl,rfl, .inr rfl,λd e=>?_⟩
   rcases e with c|c
   ·rcases eO.1 c with rfl|c
    ·exact h
    ·have:=i.head d c;omega
   ·exact j.head d c
def TF{φ:Bool->Bool->aP Bool}{jI:Bool->Bool->Bool}(ai:∀p q,φ p q=O (jI p q))(Q:jI aK aK=aK){a b:aG Int}(U:lF a)(V:lF b)(ae:Z a % 2=0)(ag:Z b % 2=0)
  (tL:Z a<=1099511627776) (ao:Z b<=1099511627776) (hN:Z a+Z b<N):
  Ok (xX N a b φ) (λK=>lF K/\Z K % 2=0/\(∀x,vk K x=jI (vk a x) (vk b x))/\∀c∈K,c∈a\/c∈b):=by
 unfold xX
 refine v (od (Go:=λf=>lF f.2.2.1/\Z f.2.2.1 % 2=0/\(∀x,vk f.2.2.1 x=jI (vk a x) (vk b x))/\∀c∈f.2.2.1,c∈a\/c∈b) (Rt:=λ_=>True)
  (λf=>∃F I,PL jI a b f.1 f.2.1 f.2.2.1 f.2.2.2.1 f.2.2.2.2.1 f.2.2.2.2.2 F I) (λf=>Z f.1+Z f.2.1) ?_ ?_ hN) ?_
 ·rintro⟨j,i,E,t,n,is⟩⟨F,I,d⟩;dsimp only at d ⊢;have ad:lF j:=by have:=U;rw[d.ea]at this;exact(fZ.1 this).2.1
  have af:lF i:=by have:=V;rw[d.eb]at this;exact(fZ.1 this).2.1
  have lm:Z F+Z j=Z a:=by rw[d.ea];simp
  have ap:Z I+Z i=Z b:=by rw[d.eb];simp
  have aq:=d.len
  by_cases R:j≠[]\/i≠[]
  ·obtain⟨x,m,r,u,s,g,e,S,B⟩:=Rn ad af R;have y:=d.step U V x m r u s g e S B;have J:∀(L M:aG Int×Bool),L=(m,t ^^ u)->M=(r,n ^^ s)->
     Ok (D (φ L.2 M.2) λY=>D (bif Y != is then(D (gx 8 E ([x]:aG Int)) λam=>O (am,Y))else O (E,is)) λX=>O<|Fl.nx (L.1,M.1,X.1,L.2,M.2,X.2))
      (Uy (λl:aG Int×aG Int×aG Int×Bool×Bool×Bool=>(∃F I,PL jI a b l.1 l.2.1 l.2.2.1 l.2.2.2.1 l.2.2.2.2.1 l.2.2.2.2.2 F I)/\Z l.1+Z l.2.1<Z j+Z i) (λf=>lF f.2.2.1/\Z f.2.2.1 % 2=0/\(∀x,vk f.2.2.1 x=jI (vk a x) (vk b x))/\∀c∈f.2.2.1,c∈a\/c∈b) (λ_:Empty=>True)):=by
    rintro _ _ rfl rfl;refine dy (ai _ _) ?_;have W:Z m+Z r<Z j+Z i:=by
     rw[g,e]
     rcases S with h|h
     ·subst h;cases s <;> simp <;> omega
     ·subst h;cases u <;> simp <;> omega
    by_cases P:jI (t ^^ u) (n ^^ s)=is
    ·rw[aL P]at y;refine dy (x:=(E,is)) H ?_;rw[P]at y;exact fx ⟨⟨_,_,y⟩,W⟩
    ·rw[aJ P]at y;refine dy (x:=(E++[x],jI (t ^^ u)<|n ^^ s)) (by grind [jA,w])<|fx ⟨⟨_,_,y⟩,W⟩
   rcases S with rfl|rfl
   ·rw[aL rfl]at g;subst g;refine dy (x:=aA) (by rw[ou,aN]) ?_;rw[aN];have ah:(bif(Z i:Int)==0 then O aA else(bif decide (((Z (x::m):Nat):Int)>0)then(D (A (x::m) 0) λak=>D (A i 0) λal=>O<|decide<|ak<=al)else O aK))=O true:=by
     cases i with
     |nil=>rfl
     |cons k ab=>
      rw[Es,aR,ou,aN,mw,w,mw,w];have:x<=k:=by
       cases s with
       |true=>grind
       |false=>have:=B k (.inr H);omega
      rw[bN this]
    refine dy ah ?_;rw[aN];refine dy (x:=x) (by rw[mw,w]) ?_;refine dy (x:=aA) (by simp[ou,aN,mw,w]) ?_;refine dy (x:=(m,!t)) (by grind [AK,w]) ?_
    cases s with
    |true=>
     rw[aL rfl]at e;subst e;refine dy (x:=aA) (by rw[ou,aN,mw,w];simp) ?_;refine dy (x:=(r,!n)) (by rw[aN,AK,w]) ?_;exact J _ _ G G
    |false=>
     have e:i=r:=e;subst e;refine dy (x:=aK) ?_ ?_
     ·cases i with
      |nil=>rfl
      |cons k ab=>
       have:=B k<|.inr G
       rw[ou,aN,mw,w,show(k==x)=aK by rw[beq_eq_false_iff_ne];omega]
     ·refine dy (x:=(i,n)) (by rw[aR]) ?_;exact J _ _ G G
   ·cases u with
    |true=>
     rw[aL rfl]at g e;subst g;subst e;refine dy (x:=aA) (by rw[ou,aN]) ?_;rw[aN];refine dy (x:=aA) (by rw[Es,aR,ou,aN,mw,w,mw,w];simp) ?_;rw[aN];refine dy (x:=x) (by rw[mw,w]) ?_;refine dy (x:=aA) (by rw[ou,aN,mw,w];simp) ?_;refine dy (x:=(m,!t)) (by rw[aN,AK,w]) ?_;refine dy (x:=aA) (by rw[ou,aN,mw,w];simp) ?_;refine dy (x:=(r,!n)) (by rw[aN,AK,w]) ?_;exact J _ _ G G
    |false=>
     have g:j=m:=g;rw[aL rfl]at e;subst g;subst e;refine dy (x:=aA) (by rw[ou,Xk];simp) ?_;rw[aN];refine dy (x:=aK) ?_ ?_
     ·rw[Es,aR]
      cases j with
      |nil=>rfl
      |cons k aa=>
       have:=B k<|.inl G
       rw[ou,aN,mw,w,mw,w,bW C]
     ·rw[aR];refine dy (x:=x) (by rw[mw,w]) ?_;refine dy (x:=aK) ?_ ?_
      ·cases j with
       |nil=>rfl
       |cons k aa=>
        have:=B k<|.inl G
        rw[ou,aN,mw,w,show(k==x)=aK by rw[beq_eq_false_iff_ne];omega]
      ·refine dy (x:=(j,t)) (by rw[aR]) ?_;refine dy (x:=aA) (by rw[ou,aN,mw,w];simp) ?_;refine dy (x:=(r,!n)) (by rw[aN,AK,w]) ?_;exact J _ _ G G
  ·have ea:j= []:=Classical.byContradiction λh=>R<|.inl h
   have eb:i= []:=Classical.byContradiction λh=>R<|.inr h
   subst ea;subst eb;refine dy (x:=aK) rfl ?_;refine ga ⟨d.inc,?_,λx=>?_,λc z=>?_⟩
   ·have g:=d.ea;have e:=d.eb;rw[kY]at g e;have T:TE E=false:=by
     rw[<-d.oo,d.ok,d.oa,d.ob,<-g,<-e];unfold TE;rw[ae,ag];exact Q
    unfold TE at T;rw[beq_eq_false_iff_ne]at T;dsimp only;omega
   ·have:=d.acC x (λan hd=>by rcases hd with h|h <;> cases h);have g:=d.ea;have e:=d.eb;rw[kY]at g e;rw[g,e];exact this
   ·have g:=d.ea;have e:=d.eb;rw[kY]at g e;rw[g,e];exact d.mem c z
 ·exact⟨[],[],rfl,rfl,rfl,rfl,rfl,Q.symm,λc z=>(by rcases z with h|h|h <;> cases h),kW,λx _=>Q.symm,λc z=>(by cases z),du _⟩
 ·rintro ar ho;exact gf ho (λf h=>o h)<|λaj=>aj.elim
def gC.app{s t:aG Bd}(h:gC (s++t)):gC t:=⟨λa b=>h.each a<|List.mem_append_right _ b,(fZ.1 h.ord).2.1⟩
def gC.low{b:Bd}{s:aG Bd}(h:gC (b::s)):∀c∈b::s,b.y0<=c.y0:=λc a=>by
 rcases eO.1 a with rfl|a
 ·exact Int.le_refl _
 ·have:=h.KD c a;have:=(h.each b G).1;omega
def gC.high{s:aG Bd}{b:Bd}(h:gC (s++[b])):∀c∈s++[b],c.y1<=b.y1:=λc a=>by
 rcases dS.1 a with a|a
 ·have:=((fZ.1 h.ord).2.2 c a b G).1;have:=(h.each b G).1;omega
 ·simp at a;subst a;exact Int.le_refl _
def QO(s:aG aB)(y e:Int):aG Int×Int:=match s with
 | []=>([],e)
 |b::_=>if y<b.Y0 then([],if b.Y0<e then b.Y0 else e)else(b.Xs,if b.Y1<e then b.Y1 else e)
theorem VL{α:Type}(x:α)(l:aG α):A (x::l) 0=O x:=rfl
def YN(s:aG aB)(y e:Int):sm N s y e=O (QO s y e):=by
 unfold sm QO
 grind [Es,VL,w,bN,bW]
def SI{s:aG aB}{y e:Int}{X Y:aG Int}(hc:gC (s.map cS))(hl:Gf X Y (s.map cS))(hh:∀b t,s=b::t->y<b.Y1)(hy:y<e):
  y<(QO s y e).2/\(QO s y e).2<=e/\(∀a,y<=a->a<(QO s y e).2->d_ (s.map cS) a=(QO s y e).1)/\lF (QO s y e).1/\Z (QO s y e).1 % 2=0/\((QO s y e).2=e\/(QO s y e).2∈Y)/\∀c∈(QO s y e).1,c∈X:=by
 cases s with
 |nil=>exact⟨hy,Int.le_refl _,λa _ _=>rfl,kW,rfl, .inl rfl,λc hc=>(by cases hc)⟩
 |cons b t=>
  have d:=hc.each (cS b) G;have f:=hl (cS b) G;have d:=hh b t rfl;unfold QO;dsimp only
  by_cases d:y<b.Y0
  ·rw[aL d];dsimp only;refine⟨C,C,λa d d=>?_,kW,rfl,?_,λc hc=>(by cases hc)⟩
   ·exact hc.Em (by show a<b.Y0;omega)
   ·split
    ·exact .inr f.1
    omega
  grind [gC.rU,cS]
def MQ{y:Int}{a:aG aB}(e:Z a<N){body:aG aB->aP (Fl (aG aB) Empty)}
  (f:body=λ(d:aG aB)=>(D (bif decide ((Z d:Int)>0)then(D (A d 0) λg=>O<|decide<|g.Y1<=y)else O aK) λg=>bif g then(D (wX d 1 (Z d:Int)) λg=>O<|.nx g)else(O<|.br d):aP (Fl (aG aB) Empty))):
  Ok (gh body N a) (QN (λd=>∃p,a=p++d/\(∀c∈p,c.Y1<=y)/\∀b t,d=b::t->y<b.Y1)<|λ_=>True):=by
 subst f;refine od (λd=>∃p,a=p++d/\∀c∈p,c.Y1<=y) List.length ?_ ⟨[],rfl,λc f=>(by cases f)⟩ e;rintro d⟨p,e,g⟩
 cases d with
 |nil=>simp_all[dy,ga]
 |cons b t=>
  refine dy (x:=decide<|b.Y1<=y) (by rw[ou,aN,VL,w]) ?_;refine jn (λd=>?_)<|λd=>ga ⟨p,e,g,λg g g=>?_⟩
  ·have d:=of_decide_eq_true d;refine dy (AK b t)<|fx ⟨⟨p++[b],by rw[e];simp,λc f=>?_⟩,G⟩
   grind
  grind
def PM{p b:aG Bd}{y a:Int}(d:∀c∈p,c.y1<=y)(h:y<=a):d_ (p++b) a=d_ b a:=by
 grind [xF]
structure N1 (jI:Bool->Bool->Bool) (X Y:aG Int) (a b s:aG aB):Prop where
 can:gC (s.map cS)
 cover:∀x y,CW (s.map cS) x y=jI (CW (a.map cS) x y) (CW (b.map cS) x y)
 lim:Gf X Y (s.map cS)
def KP{s:aG aB}(i:s≠[])(hl:Z s<=1099511627776)(hc:gC (s.map cS)):∃f l,A s 0=O f/\A s (wrap .i64<|((Z s:Nat):Int) - 1)=O l/\f∈s/\l∈s/\∀c∈s,f.Y0<=c.Y0/\c.Y1<=l.Y1:=by
 cases s with
 |nil=>grind
 |cons f a=>
  rw[kn G C];have g:Z (f::a) - 1<Z (f::a):=G
  refine⟨f,(f::a)[Z (f::a) - 1],rfl,ma _ _ g,G,cH _,λc e=>⟨?_,?_⟩⟩
  ·exact hc.low (cS c)<|dH.2 ⟨c,e,rfl⟩
  ·have b:(f::a)=(f::a).dropLast++[(f::a)[Z (f::a) - 1]]:=by
    grind [List.dropLast_concat_getLast]
   generalize (f::a)[Z (f::a) - 1]=l at b;have d:=hc;rw[b,fY]at d;have h:cS c∈(List.map cS (f::a).dropLast++[cS l]):=H
   exact gC.high d (cS c) h
def Ro{φ:Bool->Bool->aP Bool}{jI:Bool->Bool->Bool}(aZ:∀p q,φ p q=O (jI p q))(B:jI aK aK=aK){a b:aG aB}{X Y:aG Int}(ca:gC (a.map cS))(cb:gC (b.map cS))
  (la:Gf X Y (a.map cS)) (lb:Gf X Y (b.map cS)) (hX:Z X<=1048576000) (hY:Z Y<=1048576000) (hs:∀c∈Y,i_ c) (hN:nq N):Ok (wc N a b φ) (N1 jI X Y a b):=by
 have tL:Z a<=Z Y:=by have:=la.len ca;grind
 have bg:Z b<=Z Y:=by have:=lb.len cb;grind
 unfold wc;rw[ed C];refine jn (λg=>o ?_)<|λg=>?_
 ·have g:Z a+Z b=0:=H
  have e1:a= []:=List.eq_nil_of_length_eq_zero C;have e2:b= []:=List.eq_nil_of_length_eq_zero C;subst e1;subst e2;exact⟨gC.nil,λk f=>B.symm,λc d=>(by cases d)⟩
 have h0:a≠[]\/b≠[]:=H
 refine v (p9 (λW e=>match W with| 0=>True| 1=>a= []\/((∀c∈a,e.1<=c.Y0/\c.Y1<=e.2)/\e.1∈Y/\e.2∈Y)|_=>(∀c∈a,e.1<=c.Y0/\c.Y1<=e.2)/\(∀c∈b,e.1<=c.Y0/\c.Y1<=e.2)/\e.1∈Y/\e.2∈Y) G trivial<|λW e B t=>?_) ?_
 ·obtain⟨f,n⟩:=e;have B:W=0\/W=1:=H
  rcases B with rfl|rfl
  ·refine fy (x:=a) rfl ?_
   by_cases r:a= []
   ·grind [dy,o]
   ·obtain⟨s,u,f1,f2,f3,f4,V⟩:=KP r C ca;have ad:decide (((Z a:Nat):Int)>0)=true:=bN H;refine dy (x:=(s.Y0,u.Y1)) ?_<|o<|.inr ⟨V,(la _<|dH.2 ⟨s,f3,rfl⟩).1,(la _<|dH.2 ⟨u,f4,rfl⟩).2.1⟩
    grind
  ·refine fy (x:=b) rfl ?_;have t:a= []\/((∀c∈a,f<=c.Y0/\c.Y1<=n)/\f∈Y/\n∈Y):=t
   by_cases z:b= []
   ·subst z;refine dy (x:=(f,n)) rfl<|o ?_
    rcases t with g|⟨l,h2,h3⟩
    ·rcases h0 with h'|h'
     ·exact absurd g h'
     ·exact absurd rfl h'
    ·exact⟨l,λc d=>(by cases d),h2,h3⟩
   ·obtain⟨s,u,f1,f2,f3,f4,V⟩:=KP z C cb;have ad:decide (((Z b:Nat):Int)>0)=true:=bN (by have:=List.length_pos_iff.2 z;omega);have g1:s.Y0∈Y:=(lb _<|dH.2 ⟨s,f3,rfl⟩).1;have g2:u.Y1∈Y:=(lb _<|dH.2 ⟨u,f4,rfl⟩).2.1
    by_cases r:a= []
    ·subst r;refine dy (x:=(s.Y0,u.Y1)) ?_<|o ⟨λc d=>(by cases d),V,g1,g2⟩
     rw[ad,aN];show(D (O aA) _)=_;rw[w,aN,f1,w,f2,w,w,w,w];simp
    ·obtain⟨l,h2,h3⟩:=t.resolve_left r;refine dy (x:=(if s.Y0<f then s.Y0 else f,if n<u.Y1 then u.Y1 else n)) ?_<|o ⟨λc d=>?_,λc d=>?_,?_,?_⟩
     ·rw[ad,aN];have ez:(((Z a:Nat):Int)==0)=false:=by rw[beq_eq_false_iff_ne];have:=List.length_pos_iff.2 r;omega
      rw[ez];show(D (O aK) _)=_;rw[w,aR,w,f1,w,f2,w]
     ·have:=l c d;dsimp only;split <;> split <;> omega
     ·have:=V c d;dsimp only;split <;> split <;> omega
     ·dsimp only;split
      ·exact g1
      ·exact h2
     ·dsimp only;split
      ·exact g2
      ·exact h3
 ·rintro⟨y,j⟩t;have t:(∀c∈a,y<=c.Y0/\c.Y1<=j)/\(∀c∈b,y<=c.Y0/\c.Y1<=j)/\y∈Y/\j∈Y:=t;obtain⟨ia,ib,iy,ie⟩:=t;have sy:=hs _ iy;have se:=hs _ ie;unfold i_ at sy se;dsimp only
  refine v (od (Go:=λe=>N1 jI X Y a b e.2.2.1) (Rt:=λ_=>True)
   (λe=>∃K L,a=K++e.1/\b=L++e.2.1/\(∀c∈K,c.Y1<=e.2.2.2)/\(∀c∈L,c.Y1<=e.2.2.2)/\y<=e.2.2.2/\e.2.2.2<=max y j/\e.2.2.2∈Y/\gC (e.2.2.1.map cS)/\Gf X Y (e.2.2.1.map cS)/\(∀c∈e.2.2.1,c.Y1<=e.2.2.2)/\
    ∀k f,CW (e.2.2.1.map cS) k f=(jI (CW (a.map cS) k f) (CW (b.map cS) k f)&&decide (f<e.2.2.2)))
   (λe=>(j - e.2.2.2).toNat) ?_ ?_ (by dsimp only;omega)) ?_
  ·rintro⟨a',b',Q,f⟩⟨K,L,r,z,al,am,aV,aX,ap,J,M,ao,aa⟩;dsimp only at r z al am aV aX ap J M ao aa ⊢;refine jn (λg=>?_)<|λg=>ga ?_
   ·have ak:f<j:=of_decide_eq_true g;have an:∀(p e ah:aG aB),ah=p++e->Z e<=Z ah:=λp e ah n=>by rw[n];simp
    have be:=an _ _ _ r;have bh:=an _ _ _ z;refine v (MQ (y:=f) (a:=a') C rfl)<|λaq P=>gf P ?_<|λR=>R.elim
    rintro F⟨qa,av,aE,ax⟩;refine v (MQ (y:=f) (a:=b') C rfl)<|λaq P=>gf P ?_<|λR=>R.elim
    rintro I⟨qb,aw,aS,ay⟩;have T:a=(K++qa)++F:=by rw[r,av];simp
    have U:b=(L++qb)++I:=by rw[z,aw];simp
    have ai:∀c∈K++qa,c.Y1<=f:=λc d=>by rcases dS.1 d with g|g;exact al c g;exact aE c g
    have aj:∀c∈L++qb,c.Y1<=f:=λc d=>by rcases dS.1 d with g|g;exact am c g;exact aS c g
    have ar:gC (F.map cS):=by have:=ca;rw[T,fY]at this;exact this.app
    have au:gC (I.map cS):=by have:=cb;rw[U,fY]at this;exact this.app
    have a0:Gf X Y (F.map cS):=λc d=>la c (by rw[T,fY];exact List.mem_append_right _ d);have a1:Gf X Y (I.map cS):=λc d=>lb c (by rw[U,fY];exact List.mem_append_right _ d);refine dy (YN F f j)<|dy (YN I f j) ?_
    obtain⟨ba,bb,a4,a5,a6,a7,a8⟩:=SI ar a0 ax ak;obtain⟨b1,b3,b4,b5,b6,b7,b8⟩:=SI au a1 ay ak;have bf:Z (QO F f j).1<=Z X:=iw a5.nodup a8;have bi:Z (QO I f j).1<=Z X:=iw b5.nodup b8;generalize QO F f j=a3 at *;generalize QO I f j=a9 at *;obtain⟨xa,ag⟩:=a3;obtain⟨xb,af⟩:=a9;dsimp only at *;refine v (TF aZ B a5 b5 a6 b6 C C C) ?_;rintro x⟨r1,r2,r3,r4⟩;have ab:∃h,h=(if af<ag then af else ag)/\f<h/\h<=j/\h<=ag/\h<=af/\h∈Y:=by
     refine⟨_,rfl,by split <;> omega,by split <;> omega,by split <;> omega,by split <;> omega,?_⟩;split
     ·rcases b7 with g|g
      ·rw[g];exact ie
      ·exact g
     ·rcases a7 with g|g
      ·rw[g];exact ie
      ·exact g
    obtain⟨h,ab,n1,n2,n3,n4,n5⟩:=ab;rw[<-ab];have bl:Z Q<=Z Y:=by have:=M.len J;rwa[dR]at this
    obtain⟨a2,p1,p2⟩:=SE (N:=N) (s:=Q) (b:=⟨f,h,x⟩) C (λc d=>by
     have:=M.row J (b:=cS c)<|dH.2 ⟨c,d,rfl⟩
     have n:(cS c).xs=c.Xs:=rfl
     rw[n]at this;omega)
    refine dy p1 ?_;have ae:∀c∈Q.map cS,c.y1<=(cS ⟨f,h,x⟩).y0:=λc d=>by
     obtain⟨m,A,rfl⟩:=dH.1 d;exact ao m A
    refine fx ⟨⟨K++qa,L++qb,T,U,λc d=>by have:=ai c d;dsimp only;omega,λc d=>by have:=aj c d;dsimp only;omega,by dsimp only;omega,by dsimp only;omega,n5,by dsimp only;rw[p2];exact Eo J ae r1 r2,?_,λc d=>?_,λk i=>?_⟩,by dsimp only;omega⟩
    ·dsimp only;rw[p2];refine M.push ap n5<|λc d=>?_
     rcases r4 c d with g|g
     ·exact a8 c g
     ·exact b8 c g
    ·have aD:cS c∈mb (Q.map cS) (cS ⟨f,h,x⟩):=by rw[<-p2];exact dH.2 ⟨c,d,rfl⟩
     exact Ep ae (by show f<=h;omega) _ aD
    ·show vk (d_ (a2.map cS) i) k=_;rw[p2,En ae (λc d=>(J.each c d).1)<|λg=>absurd g (by show ¬h<=f;omega)]
     by_cases E:f<=i/\i<h
     ·rw[aL (show(cS ⟨f,h,x⟩).y0<=i/\i<(cS ⟨f,h,x⟩).y1 from E),bN E.2,Bool.and_true];show vk x k=_;have mp:∀p q:aG aB,(∀c∈p++q,c.Y1<=f)->∀c∈(p++q).map cS,c.y1<=f:=λp q g c d=>by
       obtain⟨m,A,rfl⟩:=dH.1 d;exact g m A
      have q1:CW (a.map cS) k i=vk xa k:=by
       unfold CW;rw[T,fY,PM (mp _ _ ai) E.1,a4 i E.1 C]
      have q2:CW (b.map cS) k i=vk xb k:=by
       unfold CW;rw[U,fY,PM (mp _ _ aj) E.1,b4 i E.1 C]
      rw[r3,q1,q2]
     ·rw[aJ (show ¬((cS ⟨f,h,x⟩).y0<=i/\i<(cS ⟨f,h,x⟩).y1)from E)];show CW (Q.map cS) k i=_;rw[aa]
      by_cases l:i<f
      ·rw[bN l,bN (show i<h by omega)]
      ·rw[bW l,bW (show ¬i<h by omega)]
   ·have bj:j<=f:=by have:=of_decide_eq_false g;omega
    refine⟨J,λk i=>?_,M⟩;dsimp only;rw[aa]
    by_cases l:i<f
    ·rw[bN l,Bool.and_true]
    ·have S:∀e:aG aB,(∀c∈e,y<=c.Y0/\c.Y1<=j)->CW (e.map cS) k i=false:=λe g=>by
      unfold CW;rw[pX λc d=>?_]
      ·rfl
      ·obtain⟨m,A,rfl⟩:=dH.1 d;exact .inr (by have:=(g m A).2;show m.Y1<=i;omega)
     rw[S a ia,S b ib,B];rfl
  ·refine⟨[],[],rfl,rfl,λc d=>(by cases d),λc d=>(by cases d),Int.le_refl _,by dsimp only;omega,iy,gC.nil,λc d=>(by cases d),λc d=>(by cases d),λk f=>?_⟩;dsimp only;show aK=_
   by_cases l:f<y
   ·have S:∀e:aG aB,(∀c∈e,y<=c.Y0/\c.Y1<=j)->CW (e.map cS) k f=false:=λe g=>by
     unfold CW;rw[pX λc d=>?_]
     ·rfl
     ·obtain⟨m,A,rfl⟩:=dH.1 d;exact .inl (by have:=(g m A).1;show f<m.Y0;omega)
    rw[S a ia,S b ib,B];rfl
   ·rw[bW l,Bool.and_false]
  ·rintro aq P;exact gf P (λe g=>o g)<|λR=>R.elim
def TG{a b:aG aB}{X Y:aG Int}(f:gC (a.map cS))(g:gC (b.map cS))(l:Gf X Y (a.map cS))(m:Gf X Y (b.map cS))(i:Z X<=1048576000)(j:Z Y<=1048576000)(k:∀c∈Y,i_ c)(h:nq N):
  Ok (oW N a b) (N1 (λd e=>d&& !e) X Y a b):=by
 unfold oW;exact v (Ro (jI:=λd e=>d&& !e) (λd e=>rfl) rfl f g l m i j k h)<|λd d=>o d
end
section
variable {N:Nat}
structure UF (n:Nat) (up:aG Int) (r:Nat->Nat):Prop where
 len:Z up=n
 rt:∀i,i<n->∃u:Nat,up[i]? =O (u:Int)/\u<=i/\r u=r i/\(u=i↔r i=i)
def UF.le{n:Nat}{a:aG Int}{r:Nat->Nat}(h:UF n a r):∀i,i<n->r i<=i:=by
 intro i
 induction i using Nat.strongRecOn with
 |ind i a=>
  intro a;obtain⟨b,_,b,b,b⟩:=h.rt i a
  grind
def UF.rr{n:Nat}{a:aG Int}{r:Nat->Nat}(h:UF n a r):∀i,i<n->r (r i)=r i:=by
 intro i
 induction i using Nat.strongRecOn with
 |ind i a=>
  intro a;obtain⟨b,_,b,b,b⟩:=h.rt i a
  grind
theorem va{l:aG Int}{j:Nat}{v:Int}{i:Nat}(hj:j<Z l):(l.set j v)[i]? =if i=j then O v else l[i]? :=H
theorem UF.init(n:Nat)(a:aG Int)(h1:Z a=n)(h2:∀i,i<n->a[i]? =O ((i:Nat):Int)):UF n a (λi=>i):=
 ⟨h1,λi a=>⟨i,h2 i a,du _,rfl,G⟩⟩
def DJ{n:Nat}(a:n<=1048576000):∃a,lk N (n:Int)=O a/\UF n a (λa=>a):=by
 unfold lk;rw[vW 0 C,w];have d:Z (List.replicate n (0:Int))=n:=G
 obtain⟨b,b,b⟩:=JG (m:=Z (List.replicate n (0:Int))) (s:=List.replicate n (0:Int)) (body:=λ(b:Nat)(c:aG Int)=>(D (A c (b:Int)) λe=>O (c.set (Int.toNat (b:Int)) (b:Int)):aP (aG Int)))
  (λc b=>Z b=n/\∀a,a<c->b[a]? =O ((a:Nat):Int)) C ⟨d,λa a=>C⟩ (λc b b⟨b,a⟩=>by
   grind [ma,w,cN,va])
 grind [w,UF.init]
def BT{n:Nat}{d:aG Int}{r:Nat->Nat}(h:UF n d r){i:Nat}(hi:i<n)(a:n<N):∃a,eC N d (i:Int)=O (((r i:Nat):Int),a)/\UF n a r:=by
 unfold eC;obtain⟨l,g,e⟩:=Ej (R:=Empty) (body:=λ(a:aG Int×Int)=>(D (A a.1 a.2) λb=>bif b != a.2 then(D (A a.1 a.2) λb=>D (A a.1 b) λb=>D (A a.1 a.2) λc=>D (A (a.1.set (Int.toNat a.2) b) a.2) λc=>O<|.nx (a.1.set (Int.toNat a.2) b,c))else(O<|.br (a.1,a.2)):aP (Fl (aG Int×Int) Empty)))
  (λa=>UF n a.1 r/\∃b:Nat,a.2=(b:Int)/\b<n/\r b=r i) (λa=>a.2.toNat) (λa=>a.2=((r i:Nat):Int)/\UF n a.1 r) (λ_=>True) (λa⟨c,b,f,j,k⟩=>by
   obtain⟨k,m⟩:=a;dsimp only at c f ⊢;subst f;obtain⟨f,a,m,m,m⟩:=c.rt b j;rw[bS a,w]
   by_cases a:f=b
   ·simp_all
   ·obtain⟨a,j,j,j,j⟩:=c.rt f C;have f:=c.len
    refine⟨.nx (k.set b (a:Int),(a:Int)),by
     grind [w,bS,cN,va],⟨⟨by simp[f],λf j=>?_⟩,a,rfl,C,?_⟩,?_⟩
    ·rw[va C]
     by_cases a:f=b
     ·grind
     ·rw[aJ a];exact c.rt f j
    ·omega
    omega)
  N (d,(i:Int)) ⟨h,i,rfl,hi,rfl⟩ C
 rw[g,w]
 cases l with
 |go a=>exact⟨a.1,by rw[<-e.1];rfl,e.2⟩
 |rt r=>exact r.elim
def px(r:Nat->Nat)(a b:Nat):Nat->Nat:=λx=>if r x=max a b then min a b else r x
def Rp(a b:Nat):(if(a:Int)<(b:Int)then(b:Int)else(a:Int))=((max a b:Nat):Int):=C
def Rq(a b:Nat):(if(b:Int)<(a:Int)then(b:Int)else(a:Int))=((min a b:Nat):Int):=C
def SJ{n:Nat}{b:aG Int}{r:Nat->Nat}(h:UF n b r){i k:Nat}(hi:i<n)(a:k<n)(c:n<N):
  ∃d,eV N b (i:Int) (k:Int)=O d/\UF n d (px r (r i)<|r k):=by
 obtain⟨b,d,e⟩:=BT h hi c;obtain⟨b,f,b⟩:=BT e a c;have c:=h.le i hi;have c:=h.le k a;have c:=h.rr i hi;have c:=h.rr k a;unfold eV;rw[d,w,f,w];dsimp only;rw[Rp,Rq];have a:max (r i) (r k)<n:=C
 have a:=b.len;rw[ma _ _ C,w,cN];refine⟨_,rfl,by simp[a],λa d=>?_⟩;have c:r (max (r i)<|r k)=max (r i) (r k):=H
 have c:r (min (r i)<|r k)=min (r i) (r k):=H
 rw[va C]
 by_cases c:a=max (r i) (r k)
 ·grind [Min.min,px]
 ·rw[aJ c];obtain⟨c,c,c,c,c⟩:=b.rt a d
  grind [px,Min.min,Max.max]
def wU(r:Nat->Nat)(E:aG (Nat×Nat)):Prop:=∀p∈E,r p.1=r p.2
def Jq(n:Nat)(r:Nat->Nat)(E:aG (Nat×Nat)):Prop:=∀S:Nat->Prop,(∀p∈E,S p.1↔S p.2)->∀i j,i<n->j<n->r i=r j->S i->S j
def wU.join{r:Nat->Nat}{E:aG (Nat×Nat)}(h:wU r E)(i k:Nat)(_h2:r (r i)=r i):wU (px r (r i)<|r k) (E++[(i,k)]):=λb a=>by
 rcases dS.1 a with a|a
 ·unfold px;rw[h b a]
 ·simp at a;subst a;unfold px;dsimp only;split <;> split <;> omega
def Jq.join{n:Nat}{r:Nat->Nat}{E:aG (Nat×Nat)}(h:Jq n r E){i k:Nat}(hi:i<n)(o:k<n):Jq n (px r (r i)<|r k) (E++[(i,k)]):=λc l a b g j e f=>by
 have p:∀d∈E,c d.1↔c d.2:=λd m=>l d<|List.mem_append_left _ m
 have m:c i↔c k:=l (i,k) G;have d:=h c p;unfold px at e
 by_cases c:r a=r b
 ·exact d a b g j c f
 ·have:(r a=r i/\r b=r k)\/(r a=r k/\r b=r i):=by
   split at e <;> split at e <;> omega
  rcases this with⟨c,e⟩|⟨c,e⟩
  ·exact d k b o j e.symm<|m.1<|d a i g hi c f
  ·exact d i b hi j e.symm<|m.2<|d a k g o c f
def Jq.id(n:Nat):Jq n (λb=>b) []:=λa _ b d _ _ a c=>by
 have a:b=d:=a;subst a;exact c
def wU.id:wU (λa=>a) []:=λa a=>by simp at a
def cE(n:Nat)(r:Nat->Nat):aG Nat:=(List.range n).filter<|λk=>decide<|r k=k
def h_(n:Nat)(r:Nat->Nat)(k:Nat):aG Nat:=(List.range n).filter<|λi=>decide<|r i=k
theorem jf(n:Nat)(r:Nat->Nat):cE (n+1) r=if r n=n then cE n r++[n]else cE n r:=by
 grind [cE,List.range_succ]
theorem Hb(n:Nat)(r:Nat->Nat)(k:Nat):h_ (n+1) r k=if r n=k then h_ n r k++[n]else h_ n r k:=by
 grind [h_,List.range_succ]
theorem nO(n:Nat)(r:Nat->Nat):Z (cE n r)<=n:=by
 have:=qW (λa=>decide<|r a=a)<|List.range n
 rw[List.length_range]at this;exact this
theorem Hc(n:Nat)(r:Nat->Nat)(k:Nat):Z (h_ n r k)<=n:=by
 have:=qW (λa=>decide<|r a=k)<|List.range n
 rw[List.length_range]at this;exact this
theorem kQ{n k:Nat}{r:Nat->Nat}:k∈cE n r↔k<n/\r k=k:=by simp[cE]
theorem rY(n:Nat)(r:Nat->Nat):(cE n r).Nodup:=List.Nodup.sublist List.filter_sublist List.nodup_range
def yE(n:Nat)(r:Nat->Nat):aG (aG Int):=(cE n r).map<|λk=>(h_ n r k).map<|λi=>((i:Nat):Int)
theorem SK{n k:Nat}{r:Nat->Nat}(h:∀i,i<n->r i<=i)(a:n<=k):h_ n r k= []:=by
 grind [h_,List.filter_eq_nil_iff]
def DK{α β:Type}(f g:α->β)(l:aG α)(j:Nat)(a:α)(c:l.Nodup)(hj:l[j]? =O a)(c:∀b,b∈l->b≠a->f b=g b):(l.map f).set j (g a)=l.map g:=by
 apply List.ext_getElem?
 grind [bR,dR,List.getElem_inj,eR]
def acD(n:Nat)(r:Nat->Nat)(m:aG (Int×Int)):Prop:=∀(j k:Nat),(cE n r)[j]? =O k->eU m (k:Int) 0=(j:Int)
def Xt{n:Nat}{a:aG Int}{r:Nat->Nat}(h:UF n a r)(m:n<N)(b:n<=1048576000):∃b,mU N a=O (yE n r,b)/\UF n b r:=by
 unfold mU;have l:=h.len;have lm:=h.le;have q:=h.rr;obtain⟨t,p,f⟩:=JG (m:=Z a) (s:=(a,([]:aG (aG Int)),([]:aG (Int×Int))))
  (body:=λ(c:Nat)(a:aG Int×aG (aG Int)×aG (Int×Int))=>(D (eC N a.1 (c:Int)) λb=>D (bif b.1==(c:Int)then(D (gx 24 a.2.1 [([]:aG Int)]) λd=>O (d,oO a.2.2 (c:Int) (Z a.2.1:Int)))else O (a.2.1,a.2.2)) λa=>D (A a.1<|eU a.2 b.1 (0:Int)) λd=>D (gx 8 d ([(c:Int)]:aG Int)) λc=>D (A a.1<|eU a.2 b.1 (0:Int)) λd=>O (b.2,a.1.set (Int.toNat<|eU a.2 b.1 (0:Int)) c,a.2):aP (aG Int×aG (aG Int)×aG (Int×Int))))
  (λa d=>UF n d.1 r/\d.2.1=yE a r/\acD a r d.2.2) C ⟨h,rfl,λc a b=>by grind [cE]⟩ (λa d e⟨j,i,g⟩=>by
   obtain⟨o,u,s⟩:=d;dsimp only at j i g ⊢;subst i;rw[l]at e;obtain⟨d,d,k⟩:=BT j e m;rw[d,w];dsimp only;have d:=nO a r;have m:Z (yE a r)=Z (cE a r):=by simp[yE]
   have d:=lm a e
   by_cases d:r a=a
   ·
    rw[show(((r a:Nat):Int)==((a:Nat):Int))=aA by rw[d];simp,aN,jA H,w,w];dsimp only;rw[d,sG,aL rfl,m];have i:(yE a r++[([]:aG Int)])[Z (cE a r)]? =O []:=by grind
    rw[bS i,w,jA G,w,w,cN];refine⟨_,rfl,k,?_,λc j b=>?_⟩
    ·dsimp only;rw[<-m,List.set_append_right _ _<|du _,Nat.sub_self];unfold yE
     grind [jf,List.map_congr_left,kQ,Hb,SK,lm]
    ·dsimp only;rw[jf,aL d]at b;rw[sG]
     by_cases m:c<Z (cE a r)
     ·rw[my m]at b;have:=(kQ.1<|eR b).1;rw[aJ C];exact g c j b
     ·rw[ly C]at b;have m:c -Z (cE a r)=0:=by
       have:=(bR.1 b).1;simp at this;omega
      rw[m]at b;simp at b;subst b;rw[aL rfl];congr 1;omega
   ·rw[show(((r a:Nat):Int)==((a:Nat):Int))=aK by simp;omega,aR,w];dsimp only;have m:r a∈cE a r:=kQ.2 ⟨C,q a e⟩;obtain⟨c,b⟩:=dM m;rw[g c (r a) b];have e:=Hc a r<|r a
    have i:(yE a r)[c]? =O ((h_ a r<|r a).map<|λe=>((e:Nat):Int)):=by unfold yE;rw[nQ,b];rfl
    rw[bS i,w,jA (by simp;omega),w,w,cN];refine⟨_,rfl,k,?_,λm j k=>?_⟩
    ·unfold yE;rw[jf,aJ d]
     have:=DK (λi=>(h_ a r i).map (λe=>((e:Nat):Int))) (λi=>(h_ (a+1) r i).map (λe=>((e:Nat):Int))) (cE a r) c (r a) (rY a r) b (λa a a=>by
      rw[Hb,aJ (λh=>a h.symm)])
     rw[Hb,aL rfl,fY]at this;exact this
    ·rw[jf,aJ d]at k;exact g m j k)
 rw[p,w];obtain⟨o,u,s⟩:=t;dsimp only at f;rw[l]at f;refine⟨o,?_,f.1⟩;rw[<-f.2.1]
end
end Go.Gk
