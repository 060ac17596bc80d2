/-
  Printed texts: Go functions as plain functions, and that they are. No statement of the seed is proved here.
-/
import Derived.Test.YtghimbiinlfehaaGreatDoorG1
import Derived.Test.YtghimbiinlfehaaGreatDoorG3
import Derived.Test.YtghimbiinlfehaaGreatDoorG6
import Derived.Test.YtghimbiinlfehaaGreatDoorG7
import Derived.Test.YtghimbiinlfehaaGreatDoorG8
import Derived.Test.YtghimbiinlfehaaGreatDoorG9
import Derived.Test.YtghimbiinlfehaaGreatDoorA2
set_option linter.defProp false
set_option linter.unusedVariables false
set_option linter.unusedSimpArgs false
set_option linter.unusedSectionVars false
set_option maxRecDepth 100000
set_option maxHeartbeats 40000000
namespace Go.Gk
open Go IntKind Go.Proofs
variable (N:Nat){E w:aY}{i0 i1 i2:Nat}{v0 v1 v2:aW}{V:Z HP}
def wZ{p0:Z aS}{p1:cA}{p2:lj}{res:Z cI×Int}(j:Holds E w V)(h0:V[i0]? =some (rd v0 p0))(h1:V[i1]? =some (rd v1 p1))(h2:V[i2]? =some (rd v2 p2))(o:fW N p0 p1 p2=some res):
    c_ 5 [v0,v1,v2] w<|xm E V res:=by
 unfold fW at o
 refine enter Tryz.func5 zr zr ?_
 have j:=((j.dup (i0+0) h0).dup (i1+1) h1).dup (i2+2) h2
 refine w_<|YC 1 v1 j zr λai w j=>?_
 refine YC 1 v2 j zr λag w j=>?_
 refine dG n_<|aH 0<|OF<|w_<|mv v0<|YA 1 j zr DA λe8 j=>?_
 obtain⟨bo,db,o⟩:=bd o
 refine Yi (fO Tryz.func19) (vD N (i0:=5) (i1:=0) j zr zr db) λw j=>aH bo<|IS<|aX bo<|ic bo 0<|AI<|cW o (λo=>?_) λo=>?_
 ·refine w_<|aX bo<|dG n_<|aH bo<|AI<|YF ?_
  obtain rfl:=oi o
  have j:=j.cJ cI 41
  exact s8 ⟨n_,zr,j.pk 7 [0]⟩
 refine Ys<|w_<|YA 1 j zr zy λe9 j=>?_
 obtain⟨bp,dc,o⟩:=bd o
 refine Yi (fO Tryz.func20) (wc N (i0:=0) j zr dc) λw j=>aH bp<|IS<|aX bp<|ic bp 0<|AI<|cW o (λo=>?_) λo=>?_
 ·refine w_<|aX bp<|dG n_<|aH bp<|AI<|YF ?_
  obtain rfl:=oi o
  have j:=j.cJ cI 41
  exact s8 ⟨n_,zr,j.pk 8 [0]⟩
 refine Y7<|YA 2 j zr zy λfa j=>?_
 obtain⟨aa,dd,o⟩:=bd o
 refine Yv (fO Tryz.func21) (wX N (i0:=0) j zr dd) ?_
 rintro _ w⟨aj,ay,az,a0,a1,a2,a3,bg,a4,rfl,j⟩
 refine dG (vp aj 0)<|IS<|dG n_<|IS<|dG n_<|dG n_<|OF<|w_<|aH 0 ?_
 refine AI<|Zj E V (λ(a6:Z bC×Int)(b9:aW)=>[rd v0 p0,bx 26 ai p1,bx 32 ag p2,bc 88 aj [ay,az,a0,a1,a2,a3,bg,a4],rd ay aa.1,rd az aa.2.1,rd a0 aa.2.2.1,rd a1 aa.2.2.2.1,rd a2 aa.2.2.2.2.1,rd a3 aa.2.2.2.2.2.1,own 71 bg aa.2.2.2.2.2.2.1,rd a4 aa.2.2.2.2.2.2.2,own 55 b9 a6.1]) (λ_ b9=>[(0,v0),(4,vp ai 0),(5,vp ag 0),(10,vp aj 0),(11,n_),(12,b9),(13,n_)]) (λa6 _=>[(14,vi a6.2)]) o ?_ ?_ ?_
 ·have j:=j.cJ bC 55
  exact⟨n_,j.sp 18 [17,14,13,1,2,3,4,5,6,7,8,9,0]⟩
 ·rintro a6 fl _ w⟨cz,O,rfl,j⟩o
  refine BY<|w_<|aX a6.2<|AT zr mJ<|Yt 1 j zr eA vX λfb j=>S_ 0 p1.bT j GC<|ic a6.2 ((p1.bT.length:Int))<|AI<|cW o (λo=>?_) λo=>?_
  rotate_left
  ·refine YD ?_
   obtain rfl:=oi o
   exact⟨rfl,cz,j.sp 14 [1,2,3,4,5,6,7,8,9,10,11,12,13]⟩
  refine Ys<|Yr<|aH 0<|AI<|Zj E V (λ(a8:Z bC×Int)(ca:aW)=>[rd v0 p0,bx 26 ai p1,bx 32 ag p2,bc 88 aj [ay,az,a0,a1,a2,a3,bg,a4],rd ay aa.1,rd az aa.2.1,rd a0 aa.2.2.1,rd a1 aa.2.2.2.1,rd a2 aa.2.2.2.2.1,rd a3 aa.2.2.2.2.2.1,own 71 bg aa.2.2.2.2.2.2.1,rd a4 aa.2.2.2.2.2.2.2,own 55 ca a8.1]) (λ_ ca=>[(0,v0),(4,vp ai 0),(5,vp ag 0),(10,vp aj 0),(11,n_),(12,ca),(13,n_),(14,vi a6.2)]) (λa8 _=>[(15,vi a8.2)]) o ?_ ?_ ?_
  ·exact⟨cz,j.sp 14 [1,2,3,4,5,6,7,8,9,10,11,12,13]⟩
  ·rintro a8 fl _ w⟨cb,O,rfl,j⟩o
   refine BY<|w_<|aX a8.2<|AT zr mJ<|Yt 1 j zr eA vX λfc j=>aX a6.2 ?_
   obtain⟨cc,de,o⟩:=bd o
   refine IT 0 j zz de λfe j=>Yw 0 j zr qN lP λff j=>Yk 0 cc.aT j qZ λfg j=>S_ 0 cc.aT j q6<|ic a8.2 ((cc.aT.length:Int))<|AI<|cW o (λo=>?_) λo=>?_
   rotate_left
   ·refine YD ?_
    obtain rfl:=oi o
    exact⟨rfl,cb,j.sp 17 [4,5,6,7,8,9,10,11,12,13,14,15,16]⟩
   refine Ys<|Y3<|BY<|Y8 mixed [0,0,0,0,0,0,0,0,0,0,2,0] [0,1,2,3,4,5,6,7,8,9,10,11] ?_
   have j:=j.drew
   refine Yn zr zr<|YA 6 j zr zy λfh j=>bA zr<|AT zr mJ<|bA zr<|Yt 6 j zr eA vX λfi j=>bA zr<|aX a6.2<|bA zr ?_
   obtain⟨df,dg,o⟩:=bd o
   refine IT 0 j zz dg λfj j=>bA zr<|Yw 0 j zr qN lP λfk j=>bA zr<|Yk 0 df.aT j qZ λfm j=>bA zr<|aX a8.2<|bA zr ?_
   obtain⟨dh,di,o⟩:=bd o
   refine IT 0 j n8 di λfo j=>bA zr<|Yk 0 dh j ij λfp j=>o9 zr ?_
   obtain⟨dj,dk,o⟩:=bd o
   refine Yi Vz (sW N (i0:=6) (i1:=0) j zr zr dk) λw j=>sS zr<|ic dj 0<|Yq<|YM<|aC ?_
   obtain⟨cd,hj,o⟩:=bd o
   refine Yo (λ(cd:Z bC)U w=>∃bw:aW,SH E V [(0,v0),(4,vp ai 0),(5,vp ag 0),(10,vp aj 0),(11,n_),(12,bw),(13,n_),(14,vi a6.2),(15,vi a8.2)] [rd v0 p0,bx 26 ai p1,bx 32 ag p2,bc 88 aj [ay,az,a0,a1,a2,a3,bg,a4],rd ay aa.1,rd az aa.2.1,rd a0 aa.2.2.1,rd a1 aa.2.2.2.1,rd a2 aa.2.2.2.2.1,rd a3 aa.2.2.2.2.2.1,own 71 bg aa.2.2.2.2.2.2.1,rd a4 aa.2.2.2.2.2.2.2,own 55 bw cd] U w) cd ?_ ?_
   ·refine cW hj (λhj=>?_) λhj=>?_
    rotate_left
    ·refine YB ?_
     obtain rfl:=oi hj
     exact⟨rfl,cb,j.sp 24 [11,12,13,14,15,16,17,18,19,20,21,22,23]⟩
    refine IN<|mv cb<|AT zr mJ<|Yt 12 j zr eA vX λfq j=>aX a6.2 ?_
    obtain⟨dm,dn,hj⟩:=bd hj
    refine IT 0 j zz dn λfr j=>Yw 0 j zr qN lP λfs j=>Yk 0 dm.aT j qZ λft j=>aX a8.2 ?_
    obtain⟨dp,dq,hj⟩:=bd hj
    refine IT 0 j n8 dq λfu j=>Yk 0 dp j ij λfv j=>?_
    have j:=j.freeze 29
    obtain⟨fw,dr,hj⟩:=bd hj
    refine Yv (fO Tryz.func23) (xI N (i0:=29) (i1:=0) j zr zr dr) λc0 w j=>dG c0<|By ?_
    obtain rfl:=oi hj
    exact⟨rfl,c0,j.sp 31 [18,19,20,21,22,23,24,25,26,27,28,29,0]⟩
   rintro _ w⟨bw,O,rfl,j⟩
   refine bE<|aC<|IN<|aX a8.2<|W_ a8.2 1<|aH (cE<|a8.2+1)<|By ?_
   obtain rfl:=oi o
   exact⟨rfl,bw,j.sp 13 [0,1,2,3,4,5,6,7,8,9,10,11,12]⟩
  rintro a8 _ w o⟨ds,O,rfl,j⟩
  refine bE<|aC<|IN<|aX a6.2<|W_ a6.2 1<|aH (cE<|a6.2+1)<|By ?_
  obtain rfl:=oi o
  exact⟨rfl,ds,j.sp 13 [0,1,2,3,4,5,6,7,8,9,10,11,12]⟩
 rintro a6 _ w o⟨cf,O,rfl,j⟩
 refine aC<|BY<|w_<|mv cf<|Y_ (i:=12) (l:=a6.1) zt zr j zr zr q6<|ic ((a6.1.length:Int)) 0<|AI ?_
 obtain⟨cg,hj,o⟩:=bd o
 refine Yo (λ(cg:Z cI)U w=>∃bz:aW,SH E V [(0,v0),(4,vp ai 0),(5,vp ag 0),(10,vp aj 0),(11,bz),(13,n_)] [rd v0 p0,bx 26 ai p1,bx 32 ag p2,bc 88 aj [ay,az,a0,a1,a2,a3,bg,a4],rd ay aa.1,rd az aa.2.1,rd a0 aa.2.2.1,rd a1 aa.2.2.2.1,rd a2 aa.2.2.2.2.1,rd a3 aa.2.2.2.2.2.1,own 71 bg aa.2.2.2.2.2.2.1,rd a4 aa.2.2.2.2.2.2.2,own 41 bz cg] U w) cg ?_ ?_
 ·refine cW hj (λhj=>?_) λhj=>?_
  rotate_left
  ·refine YB ?_
   obtain rfl:=oi hj
   have j:=j.cJ cI 41
   exact⟨rfl,n_,j.sp 14 [1,2,3,4,5,6,7,8,9,10,11,12,0]⟩
  refine IN<|mv n_<|mv cf ?_
  have j:=(j.sc Int 1).freeze 13
  refine Ze (⟨1,[],a6.1⟩:cI) trivial rfl j [(0,vi 1),(2,cf)] rfl K1 rfl (λM hs g=>by have h:=wt M;exact cM.cons (f:=λ(x:cI)y=>{x with Kind:=y}) h pS (g.sat 0 _ rfl).1 λ_ h=>cM.cons (f:=λ(x:cI)y=>{x with aT:=y}) h pT (g.sat 13 _ rfl).1 λ_ h=>cM.nil h) λdt j=>?_
  refine YR ([(⟨1,[],a6.1⟩:cI)]:Z cI) j [dt] Ig Ih (λM hs g=>⟨(g.sat 0 _ zr).1,zt⟩) λfx w j=>?_
  have j:=(j.cJ cI 41).freeze 1
  obtain⟨fy,du,hj⟩:=bd hj
  refine YT 0 1 j K2 du λc1 w j=>?_
  refine dG c1<|By ?_
  obtain rfl:=oi hj
  exact⟨rfl,c1,j.sp 17 [4,5,6,7,8,9,10,11,12,13,14,15,0]⟩
 rintro _ w⟨bz,O,rfl,j⟩
 refine aC<|BY<|w_<|aH 0<|AI<|ZV E V (λ(aw:Z bG×Z cI×Int)(c2 ch:aW)=>[rd v0 p0,bx 26 ai p1,bx 32 ag p2,bc 88 aj [ay,az,a0,a1,a2,a3,c2,a4],rd c2 aw.1,rd ay aa.1,rd az aa.2.1,rd a0 aa.2.2.1,rd a1 aa.2.2.2.1,rd a2 aa.2.2.2.2.1,rd a3 aa.2.2.2.2.2.1,rd a4 aa.2.2.2.2.2.2.2,own 41 ch aw.2.1]) (λ_ _ ch=>[(0,v0),(4,vp ai 0),(5,vp ag 0),(10,vp aj 0),(11,ch),(13,n_)]) (λaw _ _=>[(16,vi aw.2.2)]) o ?_ ?_ ?_
 ·have j:=j.freeze 10
  exact⟨bg,bz,j.sp 13 [0,1,2,3,10,4,5,6,7,8,9,11,12]⟩
 ·rintro aw fl _ w⟨b0,cj,O,rfl,j⟩o
  refine BY<|w_<|aX aw.2.2<|AT zr mJ<|Yt 1 j zr eA vX λfz j=>S_ 0 p1.bT j GC<|ic aw.2.2 ((p1.bT.length:Int))<|AI<|cW o (λo=>?_) λo=>?_
  rotate_left
  ·refine YD ?_
   obtain rfl:=oi o
   exact⟨rfl,b0,cj,j.sp 14 [1,2,3,4,5,6,7,8,9,10,11,12,13]⟩
  refine Ys<|Yr<|mv (vp aj 0)<|AT zr mJ<|Yt 2 j zr eA vX λf0 j=>aX aw.2.2 ?_
  obtain⟨dv,dw,o⟩:=bd o
  refine IT 0 j zz dw λf1 j=>Yw 0 j zr qN lP λf2 j=>Yk 0 dv.aT j qZ λf3 j=>?_
  have j:=(((((((j.dup 9 rfl).dup 16 rfl).dup 16 rfl).dup 16 rfl).dup 16 rfl).dup 16 rfl).dup 16 rfl).pull 15
  obtain⟨bl,dx,o⟩:=bd o
  refine Yv (fO Tryz.func24) (tU N (i1:=0) j zr dx) ?_
  rintro _ w⟨br,rfl,j⟩
  refine mv (.tuple #[br,vb bl.2])<|Y4 br<|Y4 (vb bl.2)<|dG br<|bV bl.2<|IS<|eV bl.2<|AI ?_
  obtain⟨ck,hj,o⟩:=bd o
  refine Yo (λ(ck:Z cI)U w=>∃b2:aW,SH E V [(0,v0),(4,vp ai 0),(5,vp ag 0),(10,vp aj 0),(11,b2),(13,n_),(16,vi aw.2.2)] [rd v0 p0,bx 26 ai p1,bx 32 ag p2,bc 88 aj [ay,az,a0,a1,a2,a3,b0,a4],rd ay aa.1,rd az aa.2.1,rd a0 aa.2.2.1,rd a1 aa.2.2.2.1,rd a2 aa.2.2.2.2.1,rd a3 aa.2.2.2.2.2.1,rd b0 aw.1,rd a4 aa.2.2.2.2.2.2.2,own 41 b2 ck] U w) ck ?_ ?_
  ·refine cW hj (λhj=>?_) λhj=>?_
   rotate_left
   ·refine YB ?_
    obtain rfl:=oi hj
    exact⟨rfl,cj,j.sp 20 [7,8,9,1,12,13,14,15,16,17,11,18,19]⟩
   refine IN<|mv cj<|AT zr mJ<|Yt 8 j zr eA vX λf4 j=>aX aw.2.2 ?_
   obtain⟨bm,dy,hj⟩:=bd hj
   refine IT 0 j zz dy λf5 j=>Yw 0 j zr wK qX λf6 j=>Yu bm.Name 0 j lI ?_
   have j:=j.sc cD bm.Name
   refine YR ([bm.Name]:Z cD) j [str bm.Name] CA WN (λM hs g=>⟨(g.sat 0 _ zr).1,zt⟩) λdz w j=>mv br ?_
   have j:=((j.sc Int 2).freeze 1).freeze 6
   refine Ze (⟨2,([bm.Name]:Z cD),bl.1⟩:cI) trivial rfl j [(0,vi 2),(1,dz),(2,br)] rfl K1 rfl (λM hs g=>by have h:=wt M;exact cM.cons (f:=λ(x:cI)y=>{x with Kind:=y}) h pS (g.sat 0 _ rfl).1 λ_ h=>cM.cons (f:=λ(x:cI)y=>{x with bT:=y}) h yj (g.sat 1 _ rfl).1 λ_ h=>cM.cons (f:=λ(x:cI)y=>{x with aT:=y}) h pT (g.sat 6 _ rfl).1 λ_ h=>cM.nil h) λd3 j=>?_
   refine YR ([(⟨2,([bm.Name]:Z cD),bl.1⟩:cI)]:Z cI) j [d3] Ig Ih (λM hs g=>⟨(g.sat 0 _ zr).1,zt⟩) λf7 w j=>?_
   have j:=j.freeze 0
   obtain⟨f8,d4,hj⟩:=bd hj
   refine YT 27 0 j K2 d4 λc3 w j=>?_
   refine dG c3<|By ?_
   obtain rfl:=oi hj
   exact⟨rfl,c3,j.sp 28 [15,16,17,9,20,21,22,23,24,25,19,26,27]⟩
  rintro _ w⟨b2,O,rfl,j⟩
  refine bE<|aC<|IN<|aX aw.2.2<|W_ aw.2.2 1<|aH (cE<|aw.2.2+1)<|By ?_
  obtain rfl:=oi o
  exact⟨rfl,b0,b2,j.sp 13 [0,1,2,3,10,4,5,6,7,8,9,11,12]⟩
 rintro aw _ w o⟨ba,d5,O,rfl,j⟩
 refine aC<|BY<|w_<|aH 0<|AI<|Zj E V (λ(a5:Z cI×Int)(cm:aW)=>[rd v0 p0,bx 26 ai p1,bx 32 ag p2,bc 88 aj [ay,az,a0,a1,a2,a3,ba,a4],rd ay aa.1,rd az aa.2.1,rd a0 aa.2.2.1,rd a1 aa.2.2.2.1,rd a2 aa.2.2.2.2.1,rd a3 aa.2.2.2.2.2.1,rd ba aw.1,rd a4 aa.2.2.2.2.2.2.2,own 41 cm a5.1]) (λ_ cm=>[(0,v0),(4,vp ai 0),(5,vp ag 0),(11,cm),(13,n_)]) (λa5 _=>[(10,vp aj 0),(19,vi a5.2)]) o ?_ ?_ ?_
 ·exact⟨d5,j.sp 13 [0,1,2,3,5,6,7,8,9,10,4,11,12]⟩
 ·rintro a5 fl _ w⟨bk,O,rfl,j⟩o
  refine BY<|w_<|aX a5.2<|mv (vp aj 0)<|YJ zt zr zr<|AT zr pV<|Yy 3 ba j uz<|S_ 10 aw.1 j Oc<|ic a5.2 ((aw.1.length:Int)) ?_
  refine AI<|cW o (λo=>?_) λo=>?_
  rotate_left
  ·refine YD ?_
   obtain rfl:=oi o
   exact⟨rfl,bk,j.sp 13 [0,1,2,3,4,5,6,7,8,9,10,11,12]⟩
  refine Ys<|Yr<|dG n_<|IS<|dG n_<|IS<|aH 0<|OF<|w_ ?_
  refine aH 0<|AI<|ZV E V (λ(af:Z cD×Z bC×Int×Int)(cn cp:aW)=>[rd v0 p0,bx 26 ai p1,bx 32 ag p2,bc 88 aj [ay,az,a0,a1,a2,a3,ba,a4],rd ay aa.1,rd az aa.2.1,rd a0 aa.2.2.1,rd a1 aa.2.2.2.1,rd a2 aa.2.2.2.2.1,rd a3 aa.2.2.2.2.2.1,rd ba aw.1,rd a4 aa.2.2.2.2.2.2.2,own 41 bk a5.1,rd cn af.1,own 55 cp af.2.1]) (λaf cn cp=>[(0,v0),(4,vp ai 0),(5,vp ag 0),(10,vp aj 0),(11,bk),(13,n_),(19,vi a5.2),(20,cn),(21,cp),(22,vi af.2.2.1)]) (λaf _ _=>[(23,vi af.2.2.2)]) o ?_ ?_ ?_
  ·have j:=(j.Cm cD).cJ bC 55
   exact⟨n_,n_,j.sp 15 [2,3,4,5,6,7,8,9,10,11,12,13,14,1,0]⟩
  ·rintro af fl _ w⟨b3,cq,O,rfl,j⟩o
   refine BY<|w_<|aX af.2.2.2<|mv (vp aj 0)<|YJ zt zr zr<|AT zr pV<|Yy 3 ba j uz<|aX a5.2 ?_
   obtain⟨cr,d6,o⟩:=bd o
   refine IT 10 j BH d6 λf9 j=>Yw 0 j zr CG Cy λga j=>Yk 0 cr.aT j qZ λgb j=>S_ 0 cr.aT j q6<|ic af.2.2.2 ((cr.aT.length:Int))<|AI<|cW o (λo=>?_) λo=>?_
   rotate_left
   ·refine YD ?_
    obtain rfl:=oi o
    exact⟨rfl,b3,cq,j.sp 18 [3,4,5,6,7,8,9,10,11,12,13,14,15,16,17]⟩
   refine Ys<|Yr<|mv (vp aj 0)<|YJ zt zr zr<|AT zr pV<|Yy 6 ba j uz<|aX a5.2 ?_
   obtain⟨d7,d8,o⟩:=bd o
   refine IT 13 j BH d8 λgd j=>Yw 0 j zr CG Cy λgf j=>Yk 0 d7.aT j qZ λgg j=>aX af.2.2.2 ?_
   obtain⟨c4,d9,o⟩:=bd o
   refine IT 0 j n8 d9 λgh j=>Yk 0 c4 j ij λgi j=>YN j tN.z λgj w j=>?_
   refine YH 0 j 1 zr ij λw j=>?_
   refine OF<|w_<|mv v0<|YA 10 j zr DA λgk j=>YA 1 j zr ij λgl j=>?_
   obtain⟨ea,eb,o⟩:=bd o
   refine Yi VA (sE N (i0:=11) (i1:=1) (i2:=0) j zr zr zr eb) λw j=>YU ea<|AI<|cW o (λo=>?_) λo=>?_
   ·refine YD<|En<|aC<|IN<|aX af.2.2.2<|W_ af.2.2.2 1<|aH (cE<|af.2.2.2+1)<|By ?_
    obtain rfl:=oi o
    exact⟨rfl,b3,cq,j.sp 26 [11,12,13,14,15,16,17,18,19,20,21,22,23,24,25]⟩
   refine Y7<|mv cq<|YA 2 j zr ij λec j=>YR ([c4]:Z bC) j [ec] n8 tN (λM hs g=>⟨(g.sat 0 _ zr).1,zt⟩) λgm w j=>?_
   have j:=j.freeze 0
   obtain⟨ed,ee,o⟩:=bd o
   refine YT 27 0 j zB ee λb4 w j=>?_
   refine dG b4<|IS<|YA 14 j zr DA λgp j=>YA 5 j zr ij λgq j=>?_
   obtain⟨bt,ef,o⟩:=bd o
   refine Yi (fO Tryz.func26) (yL N (i0:=1) (i1:=0) j zr zr ef) λw j=>dG (str bt)<|IS<|mv (str bt)<|Zm bt ⟨[]⟩ zt<|AI ?_
   obtain⟨b5,hj,o⟩:=bd o
   refine Yo (λ(b5:Z cD×Int)U w=>∃b6:aW,SH E V [(0,v0),(4,vp ai 0),(5,vp ag 0),(10,vp aj 0),(11,bk),(13,n_),(19,vi a5.2),(20,b6),(21,b4),(22,vi b5.2),(23,vi af.2.2.2)] [rd v0 p0,bx 26 ai p1,bx 32 ag p2,bc 88 aj [ay,az,a0,a1,a2,a3,ba,a4],rd ay aa.1,rd az aa.2.1,rd a0 aa.2.2.1,rd a1 aa.2.2.2.1,rd a2 aa.2.2.2.2.1,rd a3 aa.2.2.2.2.2.1,rd ba aw.1,rd a4 aa.2.2.2.2.2.2.2,own 41 bk a5.1,own 55 b4 ed,rd b6 b5.1] U w) b5 ?_ ?_
   ·refine cW hj (λhj=>?_) λhj=>?_
    rotate_left
    ·refine IN<|aX af.2.2.1<|W_ af.2.2.1 1<|aH (cE<|af.2.2.1+1)<|By ?_
     obtain rfl:=oi hj
     exact⟨rfl,b3,j.sp 30 [15,16,17,18,19,20,21,22,23,24,25,26,27,29,28]⟩
    refine IN<|mv b3<|mv (str bt) ?_
    obtain⟨gr,eg,hj⟩:=bd hj
    refine Yv (fO Tryz.func27) (yM N (p1:=bt) (i0:=28) j zr eg) λc5 w j=>dG c5<|By ?_
    obtain rfl:=oi hj
    exact⟨rfl,c5,j.sp 31 [16,17,18,19,20,21,22,23,24,25,26,27,28,30,0]⟩
   rintro _ w⟨b6,O,rfl,j⟩
   refine bE<|aC<|IN<|aX af.2.2.2<|W_ af.2.2.2 1<|aH (cE<|af.2.2.2+1)<|By ?_
   obtain rfl:=oi o
   exact⟨rfl,b6,b4,j.sp 15 [0,1,2,3,4,5,6,7,8,9,10,11,12,14,13]⟩
  rintro af _ w o⟨ct,c6,O,rfl,j⟩
  refine aC<|w_<|mv ct<|S_ 13 af.1 j Ic<|aX af.2.2.1<|W_ (af.1.length:Int) af.2.2.1<|ic (cE<|(af.1.length:Int)+af.2.2.1) 1<|AI ?_
  obtain⟨cu,hj,o⟩:=bd o
  refine Yo (λ(cu:Z cI)U w=>∃b7:aW,SH E V [(0,v0),(4,vp ai 0),(5,vp ag 0),(10,vp aj 0),(11,b7),(13,n_),(19,vi a5.2)] [rd v0 p0,bx 26 ai p1,bx 32 ag p2,bc 88 aj [ay,az,a0,a1,a2,a3,ba,a4],rd ay aa.1,rd az aa.2.1,rd a0 aa.2.2.1,rd a1 aa.2.2.2.1,rd a2 aa.2.2.2.2.1,rd a3 aa.2.2.2.2.2.1,rd ba aw.1,rd a4 aa.2.2.2.2.2.2.2,own 41 b7 cu] U w) cu ?_ ?_
  ·refine cW hj (λhj=>?_) λhj=>?_
   rotate_left
   ·refine YB ?_
    obtain rfl:=oi hj
    exact⟨rfl,bk,j.sp 15 [0,1,2,3,4,5,6,7,8,9,10,11,12]⟩
   refine IN<|mv bk<|mv ct<|mv c6 ?_
   have j:=(j.sc Int 3).freeze 15
   refine Ze (⟨3,af.1,af.2.1⟩:cI) trivial rfl j [(0,vi 3),(1,ct),(2,c6)] rfl K1 rfl (λM hs g=>by have h:=wt M;exact cM.cons (f:=λ(x:cI)y=>{x with Kind:=y}) h pS (g.sat 0 _ rfl).1 λ_ h=>cM.cons (f:=λ(x:cI)y=>{x with bT:=y}) h yj (g.sat 14 _ rfl).1 λ_ h=>cM.cons (f:=λ(x:cI)y=>{x with aT:=y}) h pT (g.sat 15 _ rfl).1 λ_ h=>cM.nil h) λeh j=>?_
   refine YR ([(⟨3,af.1,af.2.1⟩:cI)]:Z cI) j [eh] Ig Ih (λM hs g=>⟨(g.sat 0 _ zr).1,zt⟩) λgu w j=>?_
   have j:=j.freeze 0
   obtain⟨gv,ei,hj⟩:=bd hj
   refine YT 15 0 j K2 ei λc7 w j=>?_
   refine dG c7<|By ?_
   obtain rfl:=oi hj
   exact⟨rfl,c7,j.sp 18 [3,4,5,6,7,8,9,10,11,12,13,14,15]⟩
  rintro _ w⟨b7,O,rfl,j⟩
  refine bE<|aC<|IN<|aX a5.2<|W_ a5.2 1<|aH (cE<|a5.2+1)<|By ?_
  obtain rfl:=oi o
  exact⟨rfl,b7,j.sp 13 [0,1,2,3,4,5,6,7,8,9,10,11,12]⟩
 rintro a5 _ w o⟨bj,O,rfl,j⟩
 refine aC<|BY<|w_<|aH 0<|AI<|Zj E V (λ(a7:Z bC×Int)(cv:aW)=>[rd v0 p0,bx 26 ai p1,bx 32 ag p2,own 41 bj a5.1,own 55 cv a7.1]) (λ_ cv=>[(11,bj),(13,cv)]) (λa7 _=>[(0,v0),(4,vp ai 0),(5,vp ag 0),(26,vi a7.2)]) o ?_ ?_ ?_
 ·have j:=j.cJ bC 55
  exact⟨n_,j.sp 14 [1,2,3,13,0]⟩
 ·rintro a7 fl _ w⟨bu,O,rfl,j⟩o
  refine BY<|w_<|aX a7.2<|AT zr ot<|Yt 2 j zr kY ym λej j=>S_ 0 p2.bW j Ie<|ic a7.2 ((p2.bW.length:Int))<|AI<|cW o (λo=>?_) λo=>?_
  rotate_left
  ·refine YD ?_
   obtain rfl:=oi o
   exact⟨rfl,bu,j.sp 6 [1,2,3,4,5]⟩
  refine Ys<|Y3<|BY ?_
  obtain⟨bb,ek,o⟩:=bd o
  obtain⟨bf,el,o⟩:=bd o
  refine Zt E V mixed [1,0,1,0,0,0,1,0,1,0,0,0,0,0,0] [1,3,4,7,9,10,12,13,14] (λ(x:aW×aW×aW×aW×aW×aW×aW×Nat)=>(λak al an ao aq ar au ah=>[(0,191,vp ag 3),(1,192,ak),(2,193,vi a7.2),(3,194,al),(4,195,an),(5,196,str bb.Part),(6,197,vp ag 3),(7,198,ao),(8,199,vi a7.2),(9,200,aq),(10,201,ar),(11,202,str bf.bC),(12,203,au),(13,27,vp ah 0)]) x.1 x.2.1 x.2.2.1 x.2.2.2.1 x.2.2.2.2.1 x.2.2.2.2.2.1 x.2.2.2.2.2.2.1 x.2.2.2.2.2.2.2) [(0,v0),(4,vp ai 0),(5,vp ag 0),(11,bj),(13,bu),(26,vi a7.2)] [] (λ(D:Nat->Bool)(x:aW×aW×aW×aW×aW×aW×aW×Nat)=>(λak al an ao aq ar au ah=>[bif D 0 then rd ak p2.bW else bJ,bif D 1 then pt al bb else bJ,bif D 2 then pt an bb.Part else bJ,bif D 3 then rd ao p2.bW else bJ,bif D 4 then pt aq bf else bJ,bif D 5 then pt ar bf.bC else bJ,bif D 6 then rd au (⟨bb.Part,bf.bC⟩:bC)else bJ,bif D 8 then bx 55 ah (⟨bb.Part,bf.bC⟩:bC)else(bif D 7 then raw 55 ah 2 else bJ),rd ej p2.bW,rd v0 p0,bx 26 ai p1,bx 32 ag p2,own 41 bj a5.1,own 55 bu a7.1]) x.1 x.2.1 x.2.2.1 x.2.2.2.1 x.2.2.2.2.1 x.2.2.2.2.2.1 x.2.2.2.2.2.2.1 x.2.2.2.2.2.2.2) (λx=>by kernel_rfl) ?_ ⟨λ_=>qM gn ot,?_,λ_=>jh gn,?_,?_,?_,λ_=>qM gn ot,?_,λ_=>jh gn,?_,?_,?_,?_,?_,?_,trivial⟩ ?_
  ·have j:=((((((((j.drew).bJ).bJ).bJ).bJ).bJ).bJ).bJ).bJ
   exact⟨(undef,undef,undef,undef,undef,undef,undef,0),eH.none,Jw zr,zt,j⟩
  ·rintro D U w hD ae a9⟨⟨ak,al,an,ao,aq,ar,au,ah⟩,hv,ha,_,j⟩
   dsimp only at hv j
   obtain⟨O,rfl⟩:=hv.o1 0 ae
   have j:=j.bZ 0 hD
   refine Yt 11 j zr kY ym λen j=>?_
   have j:=j.nw 0
   exact Yl (en,al,an,ao,aq,ar,au,ah) 1 hv ha j
  ·rintro D U w hD ae a9⟨⟨ak,al,an,ao,aq,ar,au,ah⟩,hv,ha,_,j⟩
   dsimp only at hv j
   obtain⟨O,rfl⟩:=hv.o2 1 2 ae
   have j:=(j.dY 0<|ae.1 rfl).bZ 1 hD
   refine IT 0 j DC ek λer j=>?_
   have j:=((j.pl 15 [1,0,3,4,5,6,7,8,9,10,11,12,13,14] rfl).cU 0 (D 1) (ae.1 rfl) bJ).cU 1 true rfl bJ
   exact Yl (ak,er,an,ao,aq,ar,au,ah) 3 hv ha j
  ·rintro D U w hD ae a9⟨⟨ak,al,an,ao,aq,ar,au,ah⟩,hv,ha,_,j⟩
   dsimp only at hv j
   obtain⟨O,rfl⟩:=hv.o1 3 ae
   have j:=(j.dY 1<|ae.1 rfl).bZ 2 hD
   refine Yw 1 j zr wO oY λet j=>?_
   have j:=((j.pl 15 [1,2,0,4,5,6,7,8,9,10,11,12,13,14] rfl).cU 1 (D 3) (ae.1 rfl) bJ).cU 2 true rfl bJ
   exact Yl (ak,al,et,ao,aq,ar,au,ah) 4 hv ha j
  ·rintro D U w hD ae a9⟨⟨ak,al,an,ao,aq,ar,au,ah⟩,hv,ha,_,j⟩
   dsimp only at hv j
   obtain⟨O,rfl⟩:=hv.o1 4 ae
   have j:=j.dY 2<|ae.1 rfl
   refine Yu bb.Part 2 j lI ?_
   have j:=j.cU 2 (D 4) (ae.1 rfl) bJ
   exact Yl (ak,al,an,ao,aq,ar,au,ah) 5 hv ha j
  ·rintro D U w hD ae a9⟨⟨ak,al,an,ao,aq,ar,au,ah⟩,hv,ha,_,j⟩
   dsimp only at hv j
   obtain⟨O,rfl⟩:=hv.o1 6 ae
   have j:=j.bZ 3 hD
   refine Yt 11 j zr kY ym λeu j=>?_
   have j:=j.nw 3
   exact Yl (ak,al,an,eu,aq,ar,au,ah) 7 hv ha j
  ·rintro D U w hD ae a9⟨⟨ak,al,an,ao,aq,ar,au,ah⟩,hv,ha,_,j⟩
   dsimp only at hv j
   obtain⟨O,rfl⟩:=hv.o2 7 8 ae
   have j:=(j.dY 3<|ae.1 rfl).bZ 4 hD
   refine IT 3 j DC el λev j=>?_
   have j:=((j.pl 15 [1,2,3,4,0,6,7,8,9,10,11,12,13,14] rfl).cU 3 (D 7) (ae.1 rfl) bJ).cU 4 true rfl bJ
   exact Yl (ak,al,an,ao,ev,ar,au,ah) 9 hv ha j
  ·rintro D U w hD ae a9⟨⟨ak,al,an,ao,aq,ar,au,ah⟩,hv,ha,_,j⟩
   dsimp only at hv j
   obtain⟨O,rfl⟩:=hv.o1 9 ae
   have j:=(j.dY 4<|ae.1 rfl).bZ 5 hD
   refine Yw 4 j zr Ag rK λew j=>?_
   have j:=((j.pl 15 [1,2,3,4,5,0,7,8,9,10,11,12,13,14] rfl).cU 4 (D 9) (ae.1 rfl) bJ).cU 5 true rfl bJ
   exact Yl (ak,al,an,ao,aq,ew,au,ah) 10 hv ha j
  ·rintro D U w hD ae a9⟨⟨ak,al,an,ao,aq,ar,au,ah⟩,hv,ha,_,j⟩
   dsimp only at hv j
   obtain⟨O,rfl⟩:=hv.o1 10 ae
   have j:=j.dY 5<|ae.1 rfl
   refine Yu bf.bC 5 j lI ?_
   have j:=j.cU 5 (D 10) (ae.1 rfl) bJ
   exact Yl (ak,al,an,ao,aq,ar,au,ah) 11 hv ha j
  ·rintro D U w hD ae a9⟨⟨ak,al,an,ao,aq,ar,au,ah⟩,hv,ha,_,j⟩
   dsimp only at hv j
   obtain⟨O,rfl⟩:=hv.o2 5 11 ae
   have j:=((j.bZ 6 hD).sc cD bb.Part).sc cD bf.bC
   refine Ze (⟨bb.Part,bf.bC⟩:bC) trivial rfl j [(0,str bb.Part),(1,str bf.bC)] rfl RD rfl (λM hs g=>by have h:=KU M;exact cM.cons (f:=λ(x:bC)y=>{x with Part:=y}) h Dq (g.sat 1 _ rfl).1 λ_ h=>cM.cons (f:=λ(x:bC)y=>{x with bC:=y}) h Dr (g.sat 0 _ rfl).1 λ_ h=>cM.nil h) λey j=>?_
   have j:=(j.pl 17 [3,4,5,6,7,8,0,10,11,12,13,14,15,16] rfl).cU 6 true rfl bJ
   exact Yl (ak,al,an,ao,aq,ar,ey,ah) 12 hv ha j
  ·rintro D U w hD ae a9⟨⟨ak,al,an,ao,aq,ar,au,ah⟩,hv,ha,_,j⟩
   dsimp only at hv j
   obtain⟨O,rfl⟩:=TK U
   have j:=(j.bZ 7<|nh a9 hD 14).bZ 7 hD
   refine YN j tN.z λc8 w j=>?_
   have j:=(j.nw 7).eD 7 (D 14) (nh a9 hD 14)<|bx 55 c8 (⟨bb.Part,bf.bC⟩:bC)
   exact Yl (ak,al,an,ao,aq,ar,au,c8) 13 hv ha j
  ·rintro D U w hD ae a9⟨⟨ak,al,an,ao,aq,ar,au,ah⟩,hv,ha,_,j⟩
   dsimp only at hv j
   obtain⟨O,rfl⟩:=hv.o2 13 12 ae
   have j:=((j.dY 6<|ae.2.1 rfl).bZ 7 hD).dY 7<|ae.1 rfl
   refine YH 7 j 6 zr ij λw j=>?_
   have j:=(j.cU 6 (D 12) (ae.2.1 rfl) bJ).cU 7 true rfl (bif D 13 then raw 55 ah 2 else bJ)
   exact Zu (ak,al,an,ao,aq,ar,au,ah) hv ha j
  rintro D U w bh⟨⟨ak,al,an,ao,aq,ar,au,ah⟩,hv,ha,_,j⟩
  simp only[List.getD_cons_zero,List.getD_cons_succ,bh 1 (by decide),bh 3 (by decide),bh 4 (by decide),bh 7 (by decide),bh 9 (by decide),bh 10 (by decide),bh 12 (by decide),bh 14 (by decide),aO]at j
  obtain⟨O,rfl⟩:=(ac (hv.at 13 rfl<|BG bh 13) ha).uR
  refine aC<|w_<|mv v0<|YA 10 j zr DA λgw j=>YA 8 j zr ij λgx j=>?_
  obtain⟨ez,e3,o⟩:=bd o
  refine Yi VA (sE N (i0:=11) (i1:=1) (i2:=0) j zr zr zr e3) λw j=>YU ez<|AI ?_
  obtain⟨cw,hj,o⟩:=bd o
  refine Yo (λ(cw:Z bC)U w=>∃b8:aW,SH E V [(0,v0),(4,vp ai 0),(5,vp ag 0),(11,bj),(13,b8),(26,vi a7.2)] [rd v0 p0,bx 26 ai p1,bx 32 ag p2,own 41 bj a5.1,own 55 b8 cw] U w) cw ?_ ?_
  ·refine cW hj (λhj=>?_) λhj=>?_
   rotate_left
   ·refine YB ?_
    obtain rfl:=oi hj
    exact⟨rfl,bu,j.sp 16 [11,12,13,14,15]⟩
   refine IN<|mv bu<|YA 9 j zr ij λe4 j=>YR ([(⟨bb.Part,bf.bC⟩:bC)]:Z bC) j [e4] n8 tN (λM hs g=>⟨(g.sat 0 _ zr).1,zt⟩) λgy w j=>?_
   have j:=j.freeze 0
   obtain⟨gz,e5,hj⟩:=bd hj
   refine YT 17 0 j zB e5 λc9 w j=>?_
   refine dG c9<|By ?_
   obtain rfl:=oi hj
   exact⟨rfl,c9,j.sp 18 [13,14,15,16,17]⟩
  rintro _ w⟨b8,O,rfl,j⟩
  refine bE<|aC<|IN<|aX a7.2<|W_ a7.2 1<|aH (cE<|a7.2+1)<|By ?_
  obtain rfl:=oi o
  exact⟨rfl,b8,j.sp 5 [0,1,2,3,4]⟩
 rintro a7 _ w o⟨cx,O,rfl,j⟩
 refine aC<|BY<|w_<|mv cx<|Y_ (i:=4) (l:=a7.1) zt zr j zr zr q6<|ic ((a7.1.length:Int)) 0<|AI ?_
 obtain⟨cy,hj,o⟩:=bd o
 refine Yo (λ(cy:Z cI)U w=>∃bn:aW,SH E V [(11,bn)] [own 41 bn cy] U w) cy ?_ ?_
 ·refine cW hj (λhj=>?_) λhj=>?_
  rotate_left
  ·refine YB ?_
   obtain rfl:=oi hj
   exact⟨rfl,bj,j.sp 5 [3]⟩
  refine IN<|mv bj<|mv cx ?_
  have j:=(j.sc Int 4).freeze 5
  refine Ze (⟨4,[],a7.1⟩:cI) trivial rfl j [(0,vi 4),(2,cx)] rfl K1 rfl (λM hs g=>by have h:=wt M;exact cM.cons (f:=λ(x:cI)y=>{x with Kind:=y}) h pS (g.sat 0 _ rfl).1 λ_ h=>cM.cons (f:=λ(x:cI)y=>{x with aT:=y}) h pT (g.sat 5 _ rfl).1 λ_ h=>cM.nil h) λe6 j=>?_
  refine YR ([(⟨4,[],a7.1⟩:cI)]:Z cI) j [e6] Ig Ih (λM hs g=>⟨(g.sat 0 _ zr).1,zt⟩) λg0 w j=>?_
  have j:=j.freeze 0
  obtain⟨g1,e7,hj⟩:=bd hj
  refine YT 6 0 j K2 e7 λda w j=>?_
  refine dG da<|By ?_
  obtain rfl:=oi hj
  exact⟨rfl,da,j.sp 8 [6]⟩
 rintro _ w⟨bn,O,rfl,j⟩
 refine aC<|w_<|mv bn<|dG bn<|aH 0<|AI<|Yj ?_
 obtain rfl:=oi o
 exact s8 ⟨bn,zr,j.pk 1 [0]⟩
def qF{p0:Z cI}{p1:Z cI}{p2:cI->cI->aV Bool}{res:Bool}(j:Holds E w V)(h0:V[i0]? =some (rd v0 p0))(h1:V[i1]? =some (rd v1 p1))(h2:Pk bK E V v2 p2 (λ(r:Bool)=>Value.bool r))(o:gN N p0 p1 p2=some res):c_ 6 [v0,v1,v2] w<|aN E V res:=by
 unfold gN at o;refine enter Tryz.func6 zr zr ?_;have j:=(j.dup (i0+0) h0).dup (i1+1) h1;refine w_<|bV false<|OF<|w_<|mv v0<|S_ 1 p0 j Ts<|mv v1<|S_ 0 p1 j Ts<|ic ((p0.length:Int)) ((p1.length:Int))<|AI<|cW o (λo=>?_) λo=>?_;exact w_<|bV false<|AI<|YF<|oi o▸bL ⟨rfl,j.drop 2⟩;refine Ys<|w_<|mv v0<|S_ 1 p0 j Ts<|aX 0<|AI<|Zd E V (λ(ab:Unit)=>[rd v1 p1,rd v0 p0]) (λ_=>[]) (λaa _=>[(1,v1),(2,v2),(15,v0),(16,vi p0.length),(17,vi aa)]) (λr=>jS bK 32 Tryz.f6 (aN E V r) .ret) o ?_ ?_ ?_ ?_;exact j.sp 2 [0,1];rintro hm aa ab fl _ w hk⟨O,rfl,j⟩o;refine BY<|Yr<|aX (aa:Int)<|q_ o λaf ag o=>IT 1 j Ig ag λao j=>Yk 0 af j Oe λaq j=>YN j Ih.z λar w j=>?_;refine aH (aa:Int)<|YH 0 j 1 zr Oe λw j=>?_;refine IS<|mv v1<|aX (aa:Int)<|q_ o λah ai o=>IT 3 j Ig ai λau j=>Yk 0 ah j Oe λav j=>YN j Ih.z λaw w j=>?_;refine YH 0 j 1 zr Oe λw j=>?_;refine IS<|mv v2<|YA 3 j zr Oe λax j=>YA 1 j zr Oe λay j=>?_;refine q_ o λaj ak o=>ZG 1 0 zt j h2 10 ak λw j=>YU aj<|AI<|cW o (λo=>?_) λo=>?_;exact w_<|bV false<|AI<|YI<|aU<|oi o▸⟨rfl,bL ⟨rfl,j.drop 10⟩⟩;exact YB<|bE<|aC<|IN<|YL hk hm<|aX ((aa+1:Nat):Int)<|By<|oi o▸⟨rfl,j.sp 10 [8,9]⟩;intro r U w o hK;exact aU<|oi o▸hK;rintro ab _ w o⟨O,rfl,j⟩;exact aC<|w_<|bV true<|AI<|Yj<|oi o▸bL ⟨rfl,j.drop 2⟩
def yN{p0:Z cD}{p1:Z cD}{res:Bool}(j:Holds E w V)(h0:V[i0]? =some (rd v0 p0))(h1:V[i1]? =some (rd v1 p1))(o:lO N p0 p1=some res):c_ 28 [v0,v1] w<|aN E V res:=by
 unfold lO at o;refine enter Tryz.func28 zr zr ?_;have j:=(j.dup (i0+0) h0).dup (i1+1) h1;refine w_<|bV false<|OF<|w_<|mv v0<|S_ 1 p0 j Ic<|mv v1<|S_ 0 p1 j Ic<|ic ((p0.length:Int)) ((p1.length:Int))<|AI<|cW o (λo=>?_) λo=>?_;exact w_<|bV false<|AI<|YF<|oi o▸bL ⟨rfl,j.drop 2⟩;refine Ys<|w_<|mv v0<|S_ 1 p0 j Ic<|aX 0<|AI<|Zd E V (λ(ab:Unit)=>[rd v0 p0,rd v1 p1]) (λ_=>[]) (λaa _=>[(0,v0),(1,v1),(12,vi p0.length),(13,vi aa)]) (λr=>jS bK 26 Tryz.f28 (aN E V r) .ret) o ?_ ?_ ?_ ?_;exact j.sp 2 [1,0];rintro hm aa ab fl _ w hk⟨O,rfl,j⟩o;refine BY<|Yr<|aX (aa:Int)<|aH (aa:Int)<|OF<|Zb mixed ?_;have j:=j.drew;refine Za<|mv v0<|AS<|aX (aa:Int)<|AS<|q_ o λad ah o=>IT 0 j CA ah λal j=>AS<|Yu ad 0 j lI<|AS<|mv v1<|AS<|aX (aa:Int)<|AS ?_;refine q_ o λae ai o=>IT 2 j CA ai λan j=>AS<|Yu ae 0 j lI<|AS<|Zm ad ae zt<|YZ<|aC<|cW o (λo=>?_) λo=>?_;exact w_<|bV false<|AI<|YI<|aU<|oi o▸⟨rfl,bL ⟨rfl,j.drop 4⟩⟩;exact YB<|bE<|aC<|IN<|YL hk hm<|aX ((aa+1:Nat):Int)<|By<|oi o▸⟨rfl,j.sp 4 [2,3]⟩;intro r U w o hK;exact aU<|oi o▸hK;rintro ab _ w o⟨O,rfl,j⟩;exact aC<|w_<|bV true<|AI<|Yj<|oi o▸bL ⟨rfl,j.drop 2⟩
def B0{p0:Z bC}{p1:Z bC}{res:Bool}(j:Holds E w V)(h0:V[i0]? =some (rd v0 p0))(h1:V[i1]? =some (rd v1 p1))(o:qA N p0 p1=some res):c_ 29 [v0,v1] w<|aN E V res:=by
 unfold qA at o;refine enter Tryz.func29 zr zr ?_;have j:=(j.dup (i0+0) h0).dup (i1+1) h1;refine w_<|bV false<|OF<|w_<|mv v0<|S_ 1 p0 j q6<|mv v1<|S_ 0 p1 j q6<|ic ((p0.length:Int)) ((p1.length:Int))<|AI<|cW o (λo=>?_) λo=>?_;exact w_<|bV false<|AI<|YF<|oi o▸bL ⟨rfl,j.drop 2⟩;refine Ys<|w_<|mv v0<|S_ 1 p0 j q6<|aX 0<|AI<|Zd E V (λ(ab:Unit)=>[rd v0 p0,rd v1 p1]) (λ_=>[]) (λaa _=>[(0,v0),(1,v1),(12,vi p0.length),(13,vi aa)]) (λr=>jS bK 26 Tryz.f29 (aN E V r) .ret) o ?_ ?_ ?_ ?_;exact j.sp 2 [1,0];rintro hm aa ab fl _ w hk⟨O,rfl,j⟩o;refine BY<|Yr<|aX (aa:Int)<|aH (aa:Int)<|OF<|Zb mixed ?_;have j:=j.drew;refine Za<|mv v0<|AS<|aX (aa:Int)<|AS<|q_ o λad ah o=>IT 0 j n8 ah λal j=>AS<|Yk 0 ad j ij λan j=>AS<|mv v1<|AS<|aX (aa:Int)<|AS ?_;refine q_ o λae ai o=>IT 3 j n8 ai λao j=>AS<|Yk 0 ae j ij λaq j=>AS<|aa2 2 0 ad ae zr j zr zr zr zr Nt zr<|YZ<|aC<|cW o (λo=>?_) λo=>?_;exact w_<|bV false<|AI<|YI<|aU<|oi o▸⟨rfl,bL ⟨rfl,j.drop 6⟩⟩;exact YB<|bE<|aC<|IN<|YL hk hm<|aX ((aa+1:Nat):Int)<|By<|oi o▸⟨rfl,j.sp 6 [4,5]⟩;intro r U w o hK;exact aU<|oi o▸hK;rintro ab _ w o⟨O,rfl,j⟩;exact aC<|w_<|bV true<|AI<|Yj<|oi o▸bL ⟨rfl,j.drop 2⟩
def vI{p0 p1:cI}{res:Bool}(j:Holds E w V)(h0:V[i0]? =some (rd v0 p0))(h1:V[i1]? =some (rd v1 p1))(hb:ir N p0 p1=some res):c_ 7 [v0,v1] w<|aN E V res:=by
 unfold ir at hb;refine enter Tryz.func7 zr zr ?_;have j:=(j.dup (i0+0) h0).dup (i1+1) h1;refine w_<|YC 1 v0 j zr λaj w j=>?_;refine YC 1 v1 j zr λak w j=>?_;refine bV false<|OF<|q_ hb λae o hb=>Yo (λ(ae:Bool)=>SH E V [(4,vb ae)] []) ae ?_ ?_;refine IN<|AT zr P5<|T_ 1 j zr Gw cT<|AT zr P5<|T_ 0 j zr Gw cT<|ic p0.Kind p1.Kind<|eV (p0.Kind==p1.Kind)<|eE o (λaa o=>?_) λaa o=>?_;refine AT (hg:=cg aa) zr P6<|Yt (hg:=cg aa) 1 j zr Gx RA λal j=>AT (hg:=cg aa) zr P6<|Yt (hg:=cg aa) 1 j zr Gx RA λan j=>?_;refine q_ o λaf ah o=>Yi (hg:=cg aa) (fO Tryz.func28) (yN N (i0:=1) (i1:=0) j zr zr ah) λw j=>eI aa (vb af)<|eV af<|eE o (λab o=>?_) λab o=>?_;refine AT (hg:=cg ab) zr P7<|Yt (hg:=cg ab) 3 j zr Gy qZ λao j=>AT (hg:=cg ab) zr P7<|Yt (hg:=cg ab) 3 j zr Gy qZ λaq j=>?_;exact q_ o λag ai o=>Yi (hg:=cg ab) (fO Tryz.func29) (B0 N (i0:=1) (i1:=0) j zr zr ai) λw j=>eI ab (vb ag)<|bV ag<|By<|oi o▸⟨rfl,j.sp 8 []⟩;exact bB ab<|bB ab<|bB ab<|bB ab<|bB ab<|eI ab (vb false)<|bV false<|By<|oi o▸⟨rfl,j.sp 6 []⟩;refine bB aa<|bB aa<|bB aa<|bB aa<|bB aa<|eI aa (vb false)<|eV false<|l5<|l5<|l5<|l5<|l5<|YP (b:=false) (v:=vb false) zt zr zr zr<|bV false<|By ?_;exact oi o▸⟨rfl,j.sp 4 []⟩;rintro _ w⟨O,rfl,j⟩;exact aC<|Yj<|oi hb▸bL ⟨rfl,j.drop 0⟩
def yO{res:Bool}(j:Holds E w V)(hb:iU N=some res):c_ 8 [] w<|aN E V res:=by
 unfold iU at hb;refine enter Tryz.func8 zr zr<|w_<|bV false<|IS ?_;have j:=j.sc Int 2;refine Ze (⟨⟨0,0⟩,2,0,0,false⟩:cL) trivial rfl j [(1,vi 2)] rfl Xm rfl (λM hs g=>by have h:=Td M;exact cM.cons (f:=λ(x:cL)y=>{x with eC:=y}) h N5 (g.sat 0 _ rfl).1 λ_ h=>cM.nil h) λah j=>?_;refine q_ hb λo ag hb=>Yv UJ (xv N (i0:=0) j zr ag) ?_;rintro _ w⟨af,rfl,j⟩;refine mv (.tuple #[af,vi o.2])<|Y4 af<|Y4 (vi o.2)<|YN j sj.z λai w j=>?_;refine YH 0 j 1 zr jK λw j=>?_;refine aH o.2<|OF<|q_ hb λae hj hb=>Yo (λ(ae:Bool)=>SH E V [(0,vb ae)] []) ae ?_ ?_;refine IN<|aX o.2<|ic o.2 0<|eV (o.2==0)<|eE hj (λaa hj=>?_) λaa hj=>?_;refine YA (hg:=cg aa) 0 j zr jK λaj j=>?_;have j:=(((j.sc Int<|-1).sc Int<|-1).sc Int 1).sc Int 1;refine Ze (⟨(-1),(-1),1,1⟩:aJ) (cg aa) rfl j [(0,vi<|-1),(1,vi<|-1),(2,vi 1),(3,vi 1)] rfl KY rfl (λM hs g=>by have h:=yk M;exact cM.cons (f:=λ(x:aJ)y=>{x with X0:=y}) h tf (g.sat 3 _ rfl).1 λ_ h=>cM.cons (f:=λ(x:aJ)y=>{x with Y0:=y}) h uU (g.sat 2 _ rfl).1 λ_ h=>cM.cons (f:=λ(x:aJ)y=>{x with X1:=y}) h tg (g.sat 1 _ rfl).1 λ_ h=>cM.cons (f:=λ(x:aJ)y=>{x with Y1:=y}) h uV (g.sat 0 _ rfl).1 λ_ h=>cM.nil h) λak j=>?_;exact ab1 5 0 o.1 (⟨(-1),(-1),1,1⟩:aJ) (cg aa) zr j zr zr zr zr PI zr<|eI aa (vb<|decide<|o.1=(⟨(-1),(-1),1,1⟩:aJ))<|bV (decide<|o.1=(⟨(-1),(-1),1,1⟩:aJ))<|By<|oi hj▸⟨rfl,j.sp 10 []⟩;exact bB aa<|bB aa<|bB aa<|eI aa (vb false)<|bV false<|By<|oi hj▸⟨rfl,j.sp 4 []⟩;rintro _ w⟨O,rfl,j⟩;exact aC<|Yj<|oi hb▸bL ⟨rfl,j.drop 0⟩
def qG [Nd E]{V:Z HP}{i0:Nat}{v0:aW}{p0:Z aS}{i1:Nat}{v1:aW}{p1:cA}{i2:Nat}{v2:aW}{p2:lj}{res:Bool}(o:Holds E w V)(h0:V[i0]? =some (rd v0 p0))(h1:V[i1]? =some (rd v1 p1))(h2:V[i2]? =some (rd v2 p2))(hb:eZ N p0 p1 p2=some res):c_ 3 [v0,v1,v2] w<|aN E V res:=by
 unfold eZ at hb;refine enter Tryz.func3 zr zr ?_;have o:=((o.dup (i0+0) h0).dup (i1+1) h1).dup (i2+2) h2;refine w_<|YC 1 v1 o zr λar w o=>?_;refine YC 1 v2 o zr λau w o=>?_;refine bV false<|IS<|mv v0<|YA 1 o zr DA λav o=>YA 1 o zr zy λaw o=>?_;refine q_ hb λad al hb=>Yv (fO Tryz.func4) (DU N (i0:=6) (i1:=1) (i2:=0) o zr zr zr al) ?_;rintro _ w⟨ag,rfl,o⟩;refine mv (.tuple #[ag,vi ad.2])<|Y4 ag<|Y4 (vi ad.2)<|dG ag<|aH ad.2<|IS<|mv v0<|YA 4 o zr DA λax o=>YA 4 o zr zy λay o=>?_;refine q_ hb λae an hb=>Yv (fO Tryz.func5) (wZ N (i0:=9) (i1:=1) (i2:=0) o zr zr zr an) ?_;rintro _ w⟨ah,rfl,o⟩;refine mv (.tuple #[ah,vi ae.2])<|Y4 ah<|Y4 (vi ae.2)<|dG ah<|aH ae.2<|OF<|q_ hb λaj hj hb=>Yo (λ(aj:Bool)=>SH E V [(6,vb aj)] []) aj ?_ ?_;refine IN<|mv ag<|mv ah ?_;have o:=(o.freeze 3).freeze 0;refine q_ hj λai ao hj=>Yi (fO Tryz.func6) (qF N (i0:=3) (i1:=0) o rfl rfl ⟨7,[],rfl,(fO Tryz.func7),λw Γl v v' y0 y1 r i j o hi hj hr=>by exact iO (vI N (i0:=i) (i1:=j) o hi hj hr) λ_ _ h=>h⟩ ao) λw o=>eV ai<|Yp (vi ad.2) rfl rfl gm<|Yp (vi ae.2) rfl rfl gm<|Yp (vb<|ad.2==ae.2) rfl rfl (Au .eql)<|YP (b:=ai) (v:=vb<|ai&&(ad.2==ae.2)) trivial rfl rfl (jX true)<|eV (ai&&(ad.2==ae.2))<|eE hj (λaf hj=>?_) λaf hj=>?_;exact q_ hj λak aq hj=>Yi (hg:=cg af) (fO Tryz.func8) (yO N o aq) λw o=>eI af (vb ak)<|bV ak<|By<|oi hj▸⟨rfl,o.sp 11 []⟩;exact bB af<|eI af (vb false)<|bV false<|By<|oi hj▸⟨rfl,o.sp 11 []⟩;rintro _ w⟨O,rfl,o⟩;exact aC<|Yj<|oi hb▸bL ⟨rfl,o.drop 0⟩
end Go.Gk
