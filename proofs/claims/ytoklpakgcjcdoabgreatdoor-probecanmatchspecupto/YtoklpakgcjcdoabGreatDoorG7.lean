/-
  Printed texts: Go functions as plain functions, and that they are. No statement of the seed is proved here.
-/
import Derived.Test.YtoklpakgcjcdoabGreatDoorG1
import Derived.Test.YtoklpakgcjcdoabGreatDoorG4
import Derived.Test.YtoklpakgcjcdoabGreatDoorG5
import Derived.Test.YtoklpakgcjcdoabGreatDoorG6
import Derived.Test.YtoklpakgcjcdoabGreatDoorG3
import Derived.Test.YtoklpakgcjcdoabGreatDoorA2
set_option linter.unusedVariables false
set_option linter.unusedSimpArgs false
set_option linter.unusedSectionVars false
set_option maxRecDepth 100000
set_option maxHeartbeats 40000000
namespace Go.Gk
open Go IntKind Go.Proofs
variable (N:Nat){E w:aY}{b0 i0 i1 i2:Nat}{p1 p2 p3:Int}{v0 f_ h_ a_ d_ g_ b_ e_ i_ v1 v2:aX}{V:Z HP}
theorem mX{k_:Z bV}{p_:Z dA}{t_:Z Int}{j_:Z (Z aF)}{u_:Z (Z Int)}{p1:Z aU}{res:Z Int}(j:Holds E w (bc 111 b0 [f_,h_,a_,d_,g_,b_,e_,i_]::rd a_ k_::rd d_ p_::rd g_ t_::rd b_ j_::rd i_ u_::V))(h1:eo V i1 v1 p1)(hb:fR N k_ p_ t_ j_ u_ p1=some res):c_ 38 [vp b0 0,v1] w<|ql E V b0 f_ h_ a_ d_ g_ b_ e_ i_ res:=by
 unfold fR at hb;refine enter Tryz.func38 zr zr ?_;have j:=j.dup (i1+6) h1;refine w_<|cR n_<|IT<|mv (vp b0 0)<|WZ zr<|AT zr mJ<|WN 1 b_ j pU<|WH 5 j_ j rJ<|aK (j_.length:Int)<|IT<|aS (j_.length:Int)<|mv (vp b0 0)<|WZ zr<|AT zr nk<|AT zr gL<|WN 1 a_ j nM<|WH 2 k_ j wP<|WG (j_.length:Int) (k_.length:Int) ?_;refine q_ hb λc0 b2 hb=>Ye (cG<|(j_.length:Int)+(k_.length:Int)) j Lu UK b2 λab w j=>?_;refine cR ab<|WD<|w_<|aK 0<|AI<|XQ E V (λ(ae:Z Bool×Int)=>[bc 111 b0 [f_,h_,a_,d_,g_,b_,e_,i_],rd a_ k_,rd d_ p_,rd g_ t_,rd b_ j_,rd i_ u_,rd v1 p1,own 4 ab ae.1]) (λ_=>[(0,vp b0 0),(1,v1),(5,vi j_.length),(6,ab)]) (λae=>[(7,vi ae.2)]) hb ?_ ?_ ?_;exact j.sp 8 (f0 2 6 [1,0]);rintro ae fl _ w⟨O,rfl,j⟩hb;refine BY<|w_<|aS ae.2<|mv v1<|WH 6 p1 j yz<|ic ae.2 ((p1.length:Int))<|AI<|cY hb (λhb=>?_) λhb=>?_;refine WV<|W2<|mv v1<|aS ae.2<|q_ hb λb3 b4 hb=>WC 6 j oV b4 λc1 j=>W5 0 j zr xL pF λc2 j=>WX b3.Open 0 j sW<|AI<|q_ hb λay o hb=>WS (λ(ay:Z Bool)=>SH E V [(0,vp b0 0),(1,v1),(5,vi j_.length),(6,ab),(7,vi ae.2)] [bc 111 b0 [f_,h_,a_,d_,g_,b_,e_,i_],rd a_ k_,rd d_ p_,rd g_ t_,rd b_ j_,rd i_ u_,rd v1 p1,own 4 ab ay]) ay ?_ ?_;refine cY o (λo=>?_) λo=>?_;refine IN<|mv ab<|mv (vp b0 0)<|mv v1<|aS ae.2<|q_ o λb5 b6 o=>WC 8 j oV b6 λc3 j=>W5 0 j zr Bq sE λc4 j=>WT 0 b5.eB j qj λc5 j=>?_;have j:=(j.dup 9 rfl).pull 6;refine q_ o λc6 b7 o=>WK RW (mF N (i1:=0) j zr b7) λw j=>?_;refine q_ o λc7 a9 o=>W1 13 j zr zr ue a9 ?_;have j:=j.sc Bool true;refine XM 14 0 j a9 sW λw j=>?_;exact By<|oi o▸⟨rfl,j.sp 15 (1::f0 8 7 [])⟩;exact W6<|oi o▸⟨rfl,j.sp 10 (f0 2 8 [])⟩;rintro _ w⟨O,rfl,j⟩;refine bG<|aC<|IN<|aS ae.2<|WG ae.2 1<|aK (cG<|ae.2+1)<|By ?_;exact oi hb▸⟨rfl,j.sp 8 (f0 0 8 [])⟩;exact W3<|oi hb▸⟨rfl,j.sp 8 (f0 0 8 [])⟩;rintro ae _ w hb⟨O,rfl,j⟩;refine aC<|w_<|mv ab<|XD (i:=7) (l:=ae.1) zt zr j zr zr Fm<|q_ hb λc8 b8 hb=>Ye (ae.1.length:Int) j sF QA b8 λad w j=>?_;refine cR ad<|WD<|w_<|aK 0<|AI<|XQ E V (λ(ak:Z Int×Int)=>[bc 111 b0 [f_,h_,a_,d_,g_,b_,e_,i_],rd a_ k_,rd d_ p_,rd g_ t_,rd b_ j_,rd i_ u_,rd v1 p1,own 4 ab ae.1,own 3 ad ak.1]) (λ_=>[(0,vp b0 0),(1,v1),(5,vi j_.length),(6,ab),(8,ad)]) (λak=>[(9,vi ak.2)]) hb ?_ ?_ ?_;exact j.sp 9 (f0 1 8 [0]);rintro ak fl _ w⟨O,rfl,j⟩hb;refine BY<|w_<|aS ak.2<|mv ad<|XD (i:=8) (l:=ak.1) zt zr j zr zr ma<|ic ak.2 ((ak.1.length:Int))<|AI<|cY hb (λhb=>?_) λhb=>?_;refine WV<|Xt<|IN<|mv ad<|aS ak.2<|aS ak.2<|q_ hb λc9 ba hb=>W1 8 j zr zr dJ ba ?_;have j:=j.sc Int ak.2;refine XM 9 0 j ba cF λw j=>?_;refine By<|bG<|aC<|IN<|aS ak.2<|WG ak.2 1<|aK (cG<|ak.2+1)<|By ?_;exact oi hb▸⟨rfl,j.sp 10 (f0 1 9 [])⟩;exact W3<|oi hb▸⟨rfl,j.sp 9 (f0 0 9 [])⟩;rintro ak _ w hb⟨O,rfl,j⟩;refine aC<|BY<|w_<|aK 0<|AI<|XQ E V (λ(ai:Z Int×Int)=>[bc 111 b0 [f_,h_,a_,d_,g_,b_,e_,i_],rd a_ k_,rd d_ p_,rd g_ t_,rd b_ j_,rd i_ u_,rd v1 p1,own 4 ab ae.1,own 3 ad ai.1]) (λ_=>[(0,vp b0 0),(1,v1),(6,ab),(8,ad)]) (λai=>[(5,vi j_.length),(10,vi ai.2)]) hb ?_ ?_ ?_;exact j.sp 9 (f0 0 9 []);rintro ai fl _ w⟨O,rfl,j⟩hb;refine BY<|w_<|aS ai.2<|mv (vp b0 0)<|WZ zr<|AT zr nk<|AT zr gL<|WN 0 a_ j nM<|WH 1 k_ j wP<|ic ai.2 ((k_.length:Int))<|AI<|cY hb (λhb=>?_) λhb=>?_;refine WV<|W2<|mv (vp b0 0)<|aS ai.2 ?_;have j:=(j.dup 5 rfl).pull 1;refine q_ hb λav b9 hb=>WW (gu Tryz.func76) (sI N (p1:=ai.2) j b9) λaq w j=>cR aq<|IT<|aK 0<|AI<|XQ E V (λ(al:Z Int×Int)=>[bc 111 b0 [f_,h_,a_,d_,g_,b_,e_,i_],rd a_ k_,rd d_ p_,rd g_ t_,rd b_ j_,rd i_ u_,rd v1 p1,own 4 ab ae.1,own 3 ad al.1,rd aq av]) (λ_=>[(0,vp b0 0),(1,v1),(5,vi j_.length),(6,ab),(8,ad),(10,vi ai.2)]) (λal=>[(11,aq),(12,vi al.2)]) hb ?_ ?_ ?_;exact j.sp 11 (1::f0 3 8 [0]);rintro al fl _ w⟨O,rfl,j⟩hb;refine BY<|w_<|aS al.2<|mv aq<|WH 9 av j ma<|ic al.2 ((av.length:Int))<|AI<|cY hb (λhb=>?_) λhb=>?_;refine WV<|Xt<|BY<|q_ hb λaz o hb=>WS (λ(az:Bool)=>SH E V [(0,vp b0 0),(1,v1),(5,vi j_.length),(6,ab),(8,ad),(10,vi ai.2),(11,aq),(12,vi al.2),(100,vb az)] [bc 111 b0 [f_,h_,a_,d_,g_,b_,e_,i_],rd a_ k_,rd d_ p_,rd g_ t_,rd b_ j_,rd i_ u_,rd v1 p1,own 4 ab ae.1,own 3 ad al.1,rd aq av]) az ?_ ?_;refine IN<|mv ab<|aS (j_.length:Int)<|aS ai.2<|WG (j_.length:Int) ai.2<|q_ o λbb bf o=>W1 7 j zr zr ue bf<|XG 7 j bf sW<|Xk bb<|eX (!bb)<|dT o (λaj o=>?_) λaj o=>?_;refine WE ab (cg aj)<|WE aq (cg aj)<|WE (vi al.2) (cg aj)<|q_ o λca cb o=>WC 9 j dJ cb λda j=>WX ca 0 j cF<|q_ o λbg bh o=>W1 8 j zr zr ue bh<|XG 8 j bh sW<|Xk bg<|dQ aj (vb<|!bg)<|By ?_;exact oi o▸⟨rfl,j.sp 11 (f0 1 10 [])⟩;refine aZ aj<|aZ aj<|aZ aj<|aZ aj<|aZ aj<|aZ aj<|aZ aj<|aZ aj<|dQ aj (vb false)<|By ?_;exact oi o▸⟨rfl,j.sp 10 (f0 0 10 [])⟩;rintro _ w⟨O,rfl,j⟩;refine aC<|q_ hb λa0 o hb=>WS (λ(a0:Z Int)=>SH E V [(0,vp b0 0),(1,v1),(5,vi j_.length),(6,ab),(8,ad),(10,vi ai.2),(11,aq),(12,vi al.2)] [bc 111 b0 [f_,h_,a_,d_,g_,b_,e_,i_],rd a_ k_,rd d_ p_,rd g_ t_,rd b_ j_,rd i_ u_,rd v1 p1,own 4 ab ae.1,own 3 ad a0,rd aq av]) a0 ?_ ?_;refine cY o (λo=>?_) λo=>?_;refine IN<|mv ad<|aS (j_.length:Int)<|aS ai.2<|WG (j_.length:Int) ai.2<|mv aq<|aS al.2<|q_ o λbj cc o=>WC 9 j dJ cc λdb j=>WX bj 0 j cF ?_;have j:=j.pull 9;exact q_ o λdc cd o=>WK Ub (rU N (p1:=cG<|(j_.length:Int)+ai.2) (p2:=bj) j cd) λw j=>By<|oi o▸⟨rfl,j.sp 12 (f0 2 8 [0,11])⟩;exact W6<|oi o▸⟨rfl,j.sp 10 (f0 0 10 [])⟩;rintro _ w⟨O,rfl,j⟩;refine bG<|aC<|IN<|aS al.2<|WG al.2 1<|aK (cG<|al.2+1)<|By ?_;exact oi hb▸⟨rfl,j.sp 10 (f0 0 10 [])⟩;exact W3<|oi hb▸⟨rfl,j.sp 10 (f0 0 10 [])⟩;rintro al _ w hb⟨O,rfl,j⟩;refine bG<|aC<|IN<|aS ai.2<|WG ai.2 1<|aK (cG<|ai.2+1)<|By ?_;exact oi hb▸⟨rfl,j.sp 10 (f0 0 9 [])⟩;exact W3<|oi hb▸⟨rfl,j.sp 9 (f0 0 9 [])⟩;rintro ai _ w hb⟨O,rfl,j⟩;refine aC<|BY<|w_<|aK 0<|AI<|XQ E V (λ(af:Z Int×Int)=>[bc 111 b0 [f_,h_,a_,d_,g_,b_,e_,i_],rd a_ k_,rd d_ p_,rd g_ t_,rd b_ j_,rd i_ u_,rd v1 p1,own 4 ab ae.1,own 3 ad af.1]) (λ_=>[(0,vp b0 0),(6,ab),(8,ad)]) (λaf=>[(1,v1),(13,vi af.2)]) hb ?_ ?_ ?_;exact j.sp 9 (f0 0 9 []);rintro af fl _ w⟨O,rfl,j⟩hb;refine BY<|w_<|aS af.2<|mv v1<|WH 6 p1 j yz<|ic af.2 ((p1.length:Int))<|AI<|cY hb (λhb=>?_) λhb=>?_;refine WV<|Xt<|BY<|q_ hb λa1 o hb=>WS (λ(a1:Bool)=>SH E V [(0,vp b0 0),(1,v1),(6,ab),(8,ad),(13,vi af.2),(143,vb a1)] [bc 111 b0 [f_,h_,a_,d_,g_,b_,e_,i_],rd a_ k_,rd d_ p_,rd g_ t_,rd b_ j_,rd i_ u_,rd v1 p1,own 4 ab ae.1,own 3 ad af.1]) a1 ?_ ?_;refine IN<|mv v1<|aS af.2<|q_ o λa2 cf o=>WC 6 j oV cf λdd j=>W5 0 j zr xL pF λde j=>WX a2.Open 0 j sW<|Xk a2.Open<|eX (!a2.Open)<|dT o (λag o=>?_) λag o=>?_;refine WE ab (cg ag)<|WE v1 (cg ag)<|WE (vi af.2) (cg ag)<|q_ o λch cj o=>WC 8 j oV cj λdf j=>W5 0 j zr Dd uI λdg j=>WX ch.A 0 j cF<|q_ o λa3 bk o=>W1 11 j zr zr ue bk<|XG 11 j bk sW<|Xk a3<|dQ ag (vb<|!a3)<|eX (!a3)<|dT o (λah o=>?_) λah o=>?_;refine WE ab (cg ah)<|WE v1 (cg ah)<|WE (vi af.2) (cg ah)<|q_ o λck cm o=>WC 10 j oV cm λdh j=>W5 0 j zr De uJ λdi j=>WX ck.B 0 j cF<|q_ o λbl bm o=>W1 13 j zr zr ue bm<|XG 13 j bm sW<|Xk bl<|dQ ah (vb<|!bl)<|By ?_;exact oi o▸⟨rfl,j.sp 15 (f0 6 9 [])⟩;refine aZ ah<|aZ ah<|aZ ah<|aZ ah<|aZ ah<|aZ ah<|aZ ah<|aZ ah<|aZ ah<|dQ ah (vb false)<|By ?_;exact oi o▸⟨rfl,j.sp 13 (f0 4 9 [])⟩;refine aZ ag<|aZ ag<|aZ ag<|aZ ag<|aZ ag<|aZ ag<|aZ ag<|aZ ag<|aZ ag<|dQ ag (vb false)<|eX false<|jY<|jY<|jY<|jY<|jY<|jY<|jY ?_;exact jY<|jY<|Xf (b:=false) (v:=vb false) zt zr zr zr<|By<|oi o▸⟨rfl,j.sp 11 (f0 2 9 [])⟩;rintro _ w⟨O,rfl,j⟩;refine aC<|q_ hb λa4 o hb=>WS (λ(a4:Z Int)=>SH E V [(0,vp b0 0),(1,v1),(6,ab),(8,ad),(13,vi af.2)] [bc 111 b0 [f_,h_,a_,d_,g_,b_,e_,i_],rd a_ k_,rd d_ p_,rd g_ t_,rd b_ j_,rd i_ u_,rd v1 p1,own 4 ab ae.1,own 3 ad a4]) a4 ?_ ?_;refine cY o (λo=>?_) λo=>?_;refine Xz mixed (jn 12 200000000000) (f0 0 12 []) ?_;have j:=j.drew;refine WL zr zr<|mv ad<|aO zr<|mv v1<|aO zr<|aS af.2<|aO zr<|q_ o λbn cn o=>WC 6 j oV cn λdj j=>aO zr<|W5 0 j zr Dd uI λdk j=>aO zr<|WX bn.A 0 j cF<|aO zr<|mv v1<|aO zr<|aS af.2 ?_;refine aO zr<|q_ o λbo cp o=>WC 8 j oV cp λdm j=>aO zr<|W5 0 j zr De uJ λdn j=>aO zr<|WX bo.B 0 j cF<|m7 zr ?_;have j:=j.pull 12;exact q_ o λdp cq o=>WK Ub (rU N (p1:=bn.A) (p2:=bo.B) j cq) λw j=>Xd zt<|W7<|oi o▸⟨rfl,j.sp 14 (f0 5 8 [0])⟩;exact W6<|oi o▸⟨rfl,j.sp 9 (f0 0 9 [])⟩;rintro _ w⟨O,rfl,j⟩;refine bG<|aC<|IN<|aS af.2<|WG af.2 1<|aK (cG<|af.2+1)<|By ?_;exact oi hb▸⟨rfl,j.sp 9 (f0 0 9 [])⟩;exact W3<|oi hb▸⟨rfl,j.sp 9 (f0 0 9 [])⟩;rintro af _ w hb⟨O,rfl,j⟩;refine aC<|w_<|cR n_<|WD<|w_<|aK 0<|AI<|XK E V (λ(ao:Z Int×Int)(a5:aX)=>[bc 111 b0 [f_,h_,a_,d_,g_,b_,e_,i_],rd a_ k_,rd d_ p_,rd g_ t_,rd b_ j_,rd i_ u_,own 4 ab ae.1,own 3 ad af.1,own 3 a5 ao.1]) (λ_ a5=>[(0,vp b0 0),(14,a5)]) (λao _=>[(6,ab),(8,ad),(15,vi ao.2)]) hb ?_ ?_ ?_;exact⟨n_,(j.cA Int 3).sp 10 (f0 1 6 [8,9,0])⟩;rintro ao fl _ w⟨aw,O,rfl,j⟩hb;refine BY<|w_<|aS ao.2<|mv (vp b0 0)<|WZ zr<|AT zr nk<|AT zr oU<|WN 0 d_ j y4<|WH 2 p_ j GX<|ic ao.2 ((p_.length:Int))<|AI<|cY hb (λhb=>?_) λhb=>?_;refine WV<|W2<|mv (vp b0 0)<|mv (vp b0 0)<|WZ zr<|AT zr nk<|AT zr oU<|WN 0 d_ j y4<|aS ao.2<|q_ hb λcr ct hb=>WC 2 j Eu ct λdq j=>WT 0 cr j wQ λdr j=>?_;have j:=(((j.dup 6 rfl).dup 6 rfl).dup 5 rfl).pull 5;refine q_ hb λar cu hb=>WW T6 (nP N (i1:=0) j zr cu) ?_;rintro _ w⟨bp,rfl,j⟩;refine mv (.tuple #[bp,vb ar.2])<|Xm bp<|Xm (vb ar.2)<|Xl j JT.z λbq w j=>?_;refine Xg 0 j 1 zr qj λw j=>?_;refine bX ar.2<|WD<|q_ hb λa6 o hb=>WS (λ(a6:Bool)=>SH E V [(0,vp b0 0),(6,ab),(8,ad),(14,aw),(15,vi ao.2),(16,vp bq 0),(188,vb a6)] [bc 111 b0 [f_,h_,a_,d_,g_,b_,e_,i_],rd a_ k_,rd d_ p_,rd g_ t_,rd b_ j_,rd i_ u_,own 4 ab ae.1,own 3 ad af.1,own 3 aw ao.1,bx 39 bq ar.1]) a6 ?_ ?_;refine IN<|eX ar.2<|Xk ar.2<|eX (!ar.2)<|dT o (λan o=>?_) λan o=>?_;exact aZ an<|aZ an<|aZ an<|aZ an<|aZ an<|aZ an<|dQ an (vb true)<|By<|oi o▸⟨rfl,j.sp 14 (2::f0 6 8 [0])⟩;refine WE ab (cg an)<|WE (vp b0 0) (cg an)<|Xc 0 j zr qj λds j=>?_;have j:=(j.dup 10 rfl).pull 4;refine q_ o λdt cv o=>WK RW (mF N (i1:=0) j zr cv) λw j=>?_;refine q_ o λcw br o=>W1 13 j zr zr ue br<|XG 13 j br sW<|dQ an (vb cw)<|By ?_;exact oi o▸⟨rfl,j.sp 16 (0::f0 8 8 [2])⟩;rintro _ w⟨O,rfl,j⟩;refine aC<|q_ hb λa7 o hb=>WS (λ(a7:Z Int)U w=>∃ax:aX,SH E V [(0,vp b0 0),(6,ab),(8,ad),(14,ax),(15,vi ao.2)] [bc 111 b0 [f_,h_,a_,d_,g_,b_,e_,i_],rd a_ k_,rd d_ p_,rd g_ t_,rd b_ j_,rd i_ u_,own 4 ab ae.1,own 3 ad af.1,own 3 ax a7] U w) a7 ?_ ?_;refine cY o (λo=>?_) λo=>?_;refine IN<|mv aw ?_;have j:=j.sc Int<|-1;refine Xh ([(-1)]:Z Int) j [vi<|-1] dJ GK (λ_ _=>mm) λdu w j=>?_;have j:=j.freeze 0;refine q_ o λdv cx o=>Xp 10 0 j sF cx λbt w j=>?_;exact cR bt<|By<|oi o▸⟨rfl,bt,j.sp 12 (f0 2 9 [])⟩;refine IN<|mv aw<|mv ad<|mv (vp b0 0)<|Xc 9 j zr qj λdw j=>?_;have j:=(j.dup 5 rfl).pull 2;refine q_ o λdx cy o=>WK RW (mF N (i1:=0) j zr cy) λw j=>?_;refine q_ o λa8 bu o=>W1 9 j zr zr dJ bu<|XG 9 j bu cF ?_;have j:=j.sc Int a8;refine Xh ([a8]:Z Int) j [vi a8] dJ GK (λ_ _=>mm) λdy w j=>?_;have j:=j.freeze 0;refine q_ o λdz cz o=>Xp 12 0 j sF cz λbw w j=>?_;exact cR bw<|By<|oi o▸⟨rfl,bw,j.sp 14 (2::f0 5 8 [])⟩;rintro _ w⟨ax,O,rfl,j⟩;refine bG<|aC<|IN<|aS ao.2<|WG ao.2 1<|aK (cG<|ao.2+1)<|By ?_;exact oi hb▸⟨rfl,ax,j.sp 9 (f0 0 9 [])⟩;exact W3<|oi hb▸⟨rfl,aw,j.sp 9 (f0 0 9 [])⟩;rintro ao _ w hb⟨bz,O,rfl,j⟩;refine aC<|w_<|mv bz<|cR bz<|AI<|WM ?_;obtain rfl:=oi hb;exact bT<|j.pk 9 [8,0]
theorem lA{p0:Z Int}{res:Bool}(o:Holds E w V)(h0:eo V i0 v0 p0)(hb:fY N p0 p1 p2=some res):c_ 39 [v0,vi p1,vi p2] w<|aW E V res:=by
 unfold fY at hb;refine enter Tryz.func39 zr zr ?_;have o:=o.dup (i0+0) h0;refine w_<|bX false<|WD<|q_ hb λaf hj hb=>WS (λ(af:Bool)=>SH E V [(6,vb af)] []) af ?_ ?_;refine XF mixed ?_;have o:=o.drew;refine XE<|mv v0<|AS<|aS p1<|AS<|q_ hj λag ah hj=>WC 0 o dJ ah λak o=>AS<|WX ag 0 o cF<|AS<|ic ag 0<|AS<|eX (mr<|ag>=0)<|dT hj (λj hj=>?_) λj hj=>?_;refine AS<|WE v0 (cg j)<|AS<|WE (vi p1) (cg j)<|AS<|q_ hj λad ai hj=>WC 1 o dJ ai λal o=>AS<|WX ad 0 o cF<|AS<|WE v0 (cg j)<|AS<|WE (vi p2) (cg j)<|AS ?_;refine q_ hj λae aj hj=>WC 2 o dJ aj λan o=>AS<|WX ae 0 o cF<|AS<|Xy ad ae (cg j)<|AS<|dQ j (vb<|ad==ae)<|AS<|bX (ad==ae)<|Xx ?_;exact oi hj▸⟨rfl,o.sp 4 []⟩;refine AS<|aZ j<|AS<|aZ j<|AS<|aZ j<|AS<|aZ j<|AS<|aZ j<|AS<|aZ j<|AS<|aZ j<|AS<|aZ j<|AS<|aZ j ?_;exact AS<|dQ j (vb false)<|AS<|bX false<|Xx<|oi hj▸⟨rfl,o.sp 2 []⟩;rintro _ w⟨O,rfl,o⟩;exact aC<|WM<|oi hb▸bT ⟨rfl,o.drop 0⟩
def xU(E:aY)(V:Z HP)(b0:Nat)(f_ h_:aX)(a_ d_:aX)(g_ b_:aX)(e_ i_:aX)(res:Z Bool)(v:aX)(w:aY):Prop:=Holds E w<|[own 4 v res,bc 111 b0 [f_,h_,a_,d_,g_,b_,e_,i_]]++V
theorem mY{v_:Z (Z aF)}{A_:Z aF}{k_:Z bV}{p_:Z dA}{t_:Z Int}{j_:Z (Z aF)}{u_:Z (Z Int)}{p1:Z Test}{p2:Z aU}{res:Z Bool}(j:Holds E w (bc 111 b0 [f_,h_,a_,d_,g_,b_,e_,i_]::rd f_ v_::rd h_ A_::rd a_ k_::rd d_ p_::rd g_ t_::rd b_ j_::rd i_ u_::V))(h1:eo V i1 v1 p1)(h2:eo V i2 v2 p2)(o:iz N v_ A_ k_ p_ t_ j_ u_ p1 p2=some res):c_ 19 [vp b0 0,v1,v2] w<|xU E V b0 f_ h_ a_ d_ g_ b_ e_ i_ res:=by
 unfold iz at o;refine enter Tryz.func19 zr zr ?_;have j:=(j.dup (i1+8) h1).dup (i2+9) h2;refine w_<|cR n_<|IT<|mv (vp b0 0)<|mv v2 ?_;have j:=(((((j.dup 9 rfl).dup 9 rfl).dup 9 rfl).dup 9 rfl).dup 9 rfl).pull 7;refine q_ o λa0 ak o=>WW RX (mX N (i1:=0) j zr ak) λag w j=>cR ag<|IT<|cR n_<|WD<|w_<|aK 0<|AI<|q_ o λa1 hN o=>Yd (λ(aa:Z Int×Z Bool×Int)U w=>∃ah ai:aX,SH E V [(0,vp b0 0),(1,v1),(7,ah),(8,ai),(9,vi aa.2.2)] [bc 111 b0 [f_,h_,a_,d_,g_,b_,e_,i_],rd f_ v_,rd h_ A_,rd a_ k_,rd d_ p_,rd g_ t_,rd b_ j_,rd i_ u_,rd v1 p1,rd ah aa.1,own 4 ai aa.2.1] U w) (λ(aa:Z Int×Z Bool×Int)U w=>∃ab:aX,SH E V [(0,vp b0 0),(8,ab)] [bc 111 b0 [f_,h_,a_,d_,g_,b_,e_,i_],rd f_ v_,rd h_ A_,rd a_ k_,rd d_ p_,rd g_ t_,rd b_ j_,rd i_ u_,rd v1 p1,own 4 ab aa.2.1] U w) (λ(r:Empty)_ _=>r.elim) hN ?_ ?_ ?_ ?_;exact⟨ag,n_,((j.freeze 0).cA Bool 4).sp 13 (2::f0 6 7 [4,1,0])⟩;rintro aa fl _ w⟨ad,ae,O,rfl,j⟩o;refine BY<|w_<|aS aa.2.2<|mv v1<|WH 8 p1 j Fk<|ic aa.2.2 ((p1.length:Int))<|AI<|cY o (λo=>?_) λo=>?_;refine WV<|Xt ?_;have j:=j.drew;refine Yg (λw=>Holds E w<|[bc 111 b0 [f_,h_,a_,d_,g_,b_,e_,i_]]++V) mixed [1,1,0,0,0,0,0,0,0,0,0,2,1,1,1,1,1,1,1,1,1,2,2,2,2,0] [0,1,2,3,4,5,6,7,8,9,10,12,13,14,15,16,17,18,19,20,11,21,22,23,24,25] (j.pk 11 [0])<|W0 ae zr (λw=>WE ae zt WY)<|W0 ad zr (λw=>WE ad zt WY)<|WL zr zr<|mv (vp b0 0)<|aO zr<|WZ zr<|aO zr<|AT zr nk ?_;refine aO zr<|YK 0 [f_,h_,a_,d_] zr j zr zr oe zr zr<|aO zr<|mv v1<|aO zr<|aS aa.2.2<|aO zr<|q_ o λan ao o=>WC 8 j Dc ao λa3 j=>aO zr<|W5 0 j zr rN kU λa4 j=>aO zr<|WT 0 an.A j pG λa5 j=>WO<|W0 (vp b0 0) zr (λw=>WE (vp b0 0) zt WY)<|W0 (vp b0 0) zr (λw=>WZ zr WY)<|W0 (vp b0 0) zr (λw=>AT zr nk WY) ?_;refine X5 (.agg ([f_,h_,a_,d_]:Z aX).toArray) zr (λw j=>YK 0 [f_,h_,a_,d_] zr j zr zr oe zr zr WY)<|W0 v1 zr (λw=>WE v1 zt WY)<|W0 (vi aa.2.2) zr (λw=>WE (vi aa.2.2) zt WY)<|q_ o λaq ar o=>X6 11 zr j Dc ar λa6 j=>Yf 0 zr j zr tM mi λa7 j=>XY aq.B 0 zr j pG λa8 a84 a9 j=>Xn zr zr ?_;have j:=j.yS (cs:=[f_,h_,a_,d_]) (x:=(⟨v_,A_,k_,p_⟩:gZ)) (λM hs g=>⟨[f_],[h_,a_,d_],rfl,jJ (g.sat 8 _ rfl).1,⟨[h_],[a_,d_],rfl,jJ (g.sat 9 _ rfl).1,⟨[a_],[d_],rfl,jJ (g.sat 10 _ rfl).1,jJ (g.sat 11 _ rfl).1⟩⟩⟩) rfl;refine q_ o λau av o=>WK PR (lz N (i0:=0) (i1:=5) j zr zr av) λw j=>Xd (⟨j.pk 19 [8],j.fU 1⟩)<|Xn zr zr ?_;have j:=j.yS (cs:=[f_,h_,a_,d_]) (x:=(⟨v_,A_,k_,p_⟩:gZ)) (λM hs g=>⟨[f_],[h_,a_,d_],rfl,jJ (g.sat 9 _ rfl).1,⟨[h_],[a_,d_],rfl,jJ (g.sat 10 _ rfl).1,⟨[a_],[d_],rfl,jJ (g.sat 11 _ rfl).1,jJ (g.sat 12 _ rfl).1⟩⟩⟩) rfl;refine q_ o λaw ax o=>WK PR (lz N (i0:=0) (i1:=3) j zr zr ax) λw j=>Xd (⟨j.pk 20 [9],j.fU 2⟩)<|Xn zr zr<|q_ o λaf ay o=>WK RY (lA N (p1:=au) (p2:=aw) (i0:=18) j zr ay) λw j=>Xd (⟨j.pk 20 [9],j.fU 2⟩)<|Xn zr zr ?_;have j:=j.sc Bool af;refine Xh ([af]:Z Bool) j [vb af] ue Vo (λ_ _=>mm) λba w j=>Xd (⟨j.pk 22 [11],j.fU 4⟩)<|Xn zr zr ?_;have j:=j.freeze 0;refine q_ o λbb az o=>Xp 21 0 j Lu az λaj w j=>?_;refine Xd (⟨j.pk 22 [11],j.fU 4⟩)<|WL zr zr<|cR aj<|WO ?_;have j:=j.pl 22 [0,1,2,3,5,6,7,8,9,10,11,12,13,14,15,16,17,18,19,20,21];refine W7<|bG<|aC<|IN<|aS aa.2.2<|WG aa.2.2 1<|aK (cG<|aa.2.2+1)<|By ?_;exact oi o▸⟨rfl,ad,aj,j.sp 21 (f0 10 11 [])⟩;exact W3<|oi o▸⟨rfl,ae,j.sp 11 (f0 0 9 [10])⟩;intro r _ _ _ _;exact r.elim;rintro aa _ w rfl⟨ab,O,rfl,j⟩;rw[Fo.BX]at o;refine aC<|w_<|mv ab<|cR ab<|AI<|WM ?_;obtain rfl:=oi o;exact bT<|j.pk 10 [9,0]
theorem lB{p0:Z Bool}{p1:Z Bool}{res:Bool}(o:Holds E w V)(h0:eo V i0 v0 p0)(h1:eo V i1 v1 p1)(j:fZ N p0 p1=some res):c_ 18 [v0,v1] w<|aW E V res:=by
 unfold fZ at j;refine enter Tryz.func18 zr zr ?_;have o:=(o.dup (i0+0) h0).dup (i1+1) h1;refine w_<|bX false<|WD<|w_<|mv v0<|WH 1 p0 o Fm<|mv v1<|WH 0 p1 o Fm<|ic ((p0.length:Int)) ((p1.length:Int))<|AI<|cY j (λj=>?_) λj=>?_;exact w_<|bX false<|AI<|W8<|oi j▸bT ⟨rfl,o.drop 2⟩;refine WV<|w_<|aK 0<|AI<|XL E V (λ(aa:Int)=>[rd v0 p0,rd v1 p1]) (λ_=>[]) (λaa=>[(0,v0),(1,v1),(5,vi aa)]) (λr=>lf bI 26 Tryz.f18 (aW E V r) .ret) j ?_ ?_ ?_ ?_;exact o.sp 2 [1,0];rintro aa fl _ w⟨O,rfl,o⟩j;refine BY<|w_<|aS aa<|mv v0<|WH 0 p0 o Fm<|ic aa ((p0.length:Int))<|AI<|cY j (λj=>?_) λj=>?_;refine WV<|Xt<|BY<|XF mixed ?_;have o:=o.drew;refine XE<|mv v0<|AS<|aS aa<|AS<|q_ j λab ae j=>WC 0 o ue ae λai o=>AS<|WX ab 0 o sW<|AS<|mv v1<|AS<|aS aa<|AS ?_;refine q_ j λad af j=>WC 2 o ue af λaj o=>AS<|WX ad 0 o sW<|AS<|YG ab ad zr zr zr RF<|Xx<|aC<|cY j (λj=>?_) λj=>?_;exact w_<|bX false<|AI<|Xv<|bK<|oi j▸⟨rfl,bT ⟨rfl,o.drop 4⟩⟩;refine W6<|bG<|aC<|IN<|aS aa<|WG aa 1<|aK (cG<|aa+1)<|By ?_;exact oi j▸⟨rfl,o.sp 4 [2,3]⟩;exact W3<|oi j▸⟨rfl,o.sp 2 [0,1]⟩;intro r U w j hK;exact bK<|oi j▸hK;rintro aa _ w j⟨O,rfl,o⟩;exact aC<|w_<|bX true<|AI<|WM<|oi j▸bT ⟨rfl,o.drop 2⟩
theorem yL{p0:gZ}{p1:Z Test}{p2:Z Bool}{res:Z aU×Int}(j:Holds E w V)(h0:eo V i0 v0 p0)(h1:eo V i1 v1 p1)(h2:eo V i2 v2 p2)(o:iA N p0 p1 p2 p3=some res):
    c_ 5 [v0,v1,v2,vi p3] w<|DW E V res:=by
 unfold iA at o
 refine enter Tryz.func5 zr zr ?_
 have j:=((j.dup (i0+0) h0).dup (i1+1) h1).dup (i2+2) h2
 refine w_<|Xb 2 v0 j zr λbj w j=>?_
 have j:=j.ig (i:=0) rfl
 refine cR n_<|aK 0<|WD<|Xz mixed [0,0,2,1,1,2,0,0,0,0,0,0,0] ([0,1,3,4,2]++f0 5 8 []) ?_
 have j:=j.drew
 refine WL zr zr<|WT 0 p0 j oe λbk j=>aO zr<|mv v1<|WO<|XY p0 1 zr j oe λbl a34 bm j=>W0 (vi p3) zr (λw=>WE (vi p3) zt WY)<|Xn zr zr ?_
 obtain⟨a4,a5,o⟩:=bd o
 refine WK T2 (nO N (i0:=2) (i1:=5) j zr zr a5) λw j=>Xd (⟨zt,j.fU 0⟩)<|Xn zr zr ?_
 obtain⟨ad,a6,o⟩:=bd o
 refine WW Ua (rT N (p0:=a4) (p2:=p3) (i1:=1) j zr a6) ?_
 rintro _ w hK50
 rcases av:ad.1 with _|aa
 ·replace o:=MV av o
  obtain⟨ae,rfl,j⟩:=Hh av hK50
  refine Xd (⟨zt,j.fU 1⟩)<|WL zr zr<|mv (.tuple #[(.pointer none),ae,vi ad.2.2])<|aO zr<|Xm (.pointer none)<|aO zr<|Xm ae<|aO zr<|Xm (vi ad.2.2) ?_
  refine aO zr<|cR (.pointer none)<|aO zr<|cR ae<|aO zr<|aK ad.2.2<|WO ?_
  have j:=j.pl 8 [0,2,3,4,5,6,7]
  refine W7<|aC<|BY<|w_<|aS ad.2.2<|ic ad.2.2 0<|AI<|cY o (λo=>?_) λo=>?_
  ·refine w_<|aS ad.2.2<|cR n_<|aK ad.2.2<|AI<|W8 ?_
   obtain rfl:=oi o
   have j:=j.cA aU 41
   exact lh ⟨n_,zr,j.pk 8 [0]⟩
  refine WV<|w_<|mv v2<|WH 4 p2 j Fm<|mv v1<|WH 5 p1 j Fk<|ic ((p2.length:Int)) ((p1.length:Int))<|AI<|cY o (λo=>?_) λo=>?_
  ·refine w_<|cR n_<|aK 3<|AI<|W8 ?_
   obtain rfl:=oi o
   have j:=j.cA aU 41
   exact lh ⟨n_,zr,j.pk 8 [0]⟩
  refine XA<|cR n_<|WD<|w_<|aK 0<|AI<|XQ E V (λ(az:Unit)=>[rd v1 p1,rd v2 p2,own 41 ae ad.2.1]) (λ_=>[(13,n_)]) (λ_=>[(1,v1),(2,v2),(10,(.pointer none)),(11,ae),(14,vi 0)]) o ?_ ?_ ?_
  ·exact j.sp 7 [5,4,0]
  ·rintro az fl _ w⟨O,rfl,j⟩o
   refine BY<|w_<|aS 0<|mv ae<|XD (i:=2) (l:=ad.2.1) zt zr j zr zr yz<|ic 0 ((ad.2.1.length:Int))<|AI<|cY o (λo=>?_) λo=>?_
   ·cases o
   refine W3 ?_
   obtain rfl:=oi o
   exact⟨rfl,j.sp 3 [0,1,2]⟩
  rintro az _ w o⟨O,rfl,j⟩
  refine aC<|w_<|mv n_<|cR n_<|aK 0<|AI<|WM ?_
  obtain rfl:=oi o
  have j:=j.cA aU 41
  exact lh ⟨n_,zr,j.pk 4 [0]⟩
 replace o:=MW av o
 obtain⟨af,ah,ai,aj,ak,al,an,ao,aq,ae,rfl,j⟩:=Hi av hK50
 refine Xd (⟨zt,j.fU 10⟩)<|WL zr zr<|mv (.tuple #[vp af 0,ae,vi ad.2.2])<|aO zr<|Xm (vp af 0)<|aO zr<|Xm ae<|aO zr<|Xm (vi ad.2.2) ?_
 refine aO zr<|cR (vp af 0)<|aO zr<|cR ae<|aO zr<|aK ad.2.2<|WO ?_
 have j:=j.pl 17 [0,1,2,3,4,5,6,7,8,9,11,12,13,14,15,16]
 refine W7<|aC<|BY<|w_<|aS ad.2.2<|ic ad.2.2 0<|AI<|cY o (λo=>?_) λo=>?_
 ·refine w_<|aS ad.2.2<|cR n_<|aK ad.2.2<|AI<|W8 ?_
  obtain rfl:=oi o
  have j:=j.cA aU 41
  exact lh ⟨n_,zr,j.pk 17 [0]⟩
 refine WV<|w_<|mv v2<|WH 13 p2 j Fm<|mv v1<|WH 14 p1 j Fk<|ic ((p2.length:Int)) ((p1.length:Int))<|AI<|cY o (λo=>?_) λo=>?_
 ·refine w_<|cR n_<|aK 3<|AI<|W8 ?_
  obtain rfl:=oi o
  have j:=j.cA aU 41
  exact lh ⟨n_,zr,j.pk 17 [0]⟩
 refine XA<|cR n_<|WD<|w_<|aK 0<|AI ?_
 obtain⟨bn,hN,o⟩:=bd o
 refine Yd (λ(ab:Z aU×Z aU×Int)U w=>∃a0 a1:aX,SH E V [(1,v1),(2,v2),(10,vp af 0),(11,a0),(13,a1),(14,vi ab.2.2)] [rd v1 p1,rd v2 p2,bc 111 af [ah,ai,aj,ak,al,an,ao,aq],rd ah aa.1,rd ai aa.2.1,rd aj aa.2.2.1,rd ak aa.2.2.2.1,rd al aa.2.2.2.2.1,rd an aa.2.2.2.2.2.1,rd ao aa.2.2.2.2.2.2.1,rd aq aa.2.2.2.2.2.2.2,rd a0 ab.1,own 41 a1 ab.2.1] U w) (λ(ab:Z aU×Z aU×Int)U w=>∃ar:aX,SH E V [(13,ar)] [rd v1 p1,rd v2 p2,bc 111 af [ah,ai,aj,ak,al,an,ao,aq],rd ah aa.1,rd ai aa.2.1,rd aj aa.2.2.1,rd ak aa.2.2.2.1,rd al aa.2.2.2.2.1,rd an aa.2.2.2.2.2.1,rd ao aa.2.2.2.2.2.2.1,rd aq aa.2.2.2.2.2.2.2,own 41 ar ab.2.1] U w) (λ(r:Empty)_ _=>r.elim) hN ?_ ?_ ?_ ?_
 ·have j:=(j.freeze 9).cA aU 41
  exact⟨ae,n_,j.sp 17 (15::14::f0 1 10 [0])⟩
 ·rintro ab fl _ w⟨au,ax,O,rfl,j⟩o
  refine BY<|w_<|aS ab.2.2<|mv au<|WH 11 ab.1 j yz<|ic ab.2.2 ((ab.1.length:Int))<|AI<|cY o (λo=>?_) λo=>?_
  rotate_left
  ·refine W3 ?_
   obtain rfl:=oi o
   exact⟨rfl,ax,j.sp 13 (f0 0 11 [12])⟩
  refine WV<|W2<|mv (vp af 0)<|mv v1<|mv au<|aS ab.2.2<|aS ab.2.2<|WG ab.2.2 1 ?_
  obtain⟨bo,a9,o⟩:=bd o
  refine X8 11 j oV a9 λbp j=>?_
  have j:=(((((((j.dup 11 rfl).dup 10 rfl).dup 10 rfl).dup 10 rfl).dup 10 rfl).dup 10 rfl).dup 10 rfl).pull 10
  obtain⟨bq,ba,o⟩:=bd o
  refine WW RZ (mY N (i1:=1) (i2:=0) j zr zr ba) λbr w j=>mv v2 ?_
  have j:=j.freeze 0
  obtain⟨bt,bb,o⟩:=bd o
  refine WK R0 (lB N (i0:=0) (i1:=4) j zr zr bb) λw j=>AI ?_
  obtain⟨ay,hj,o⟩:=bd o
  refine WS (λ(ay:Z aU)U w=>∃aw:aX,SH E V [(1,v1),(2,v2),(10,vp af 0),(11,au),(13,aw),(14,vi ab.2.2)] [rd v1 p1,rd v2 p2,bc 111 af [ah,ai,aj,ak,al,an,ao,aq],rd ah aa.1,rd ai aa.2.1,rd aj aa.2.2.1,rd ak aa.2.2.2.1,rd al aa.2.2.2.2.1,rd an aa.2.2.2.2.2.1,rd ao aa.2.2.2.2.2.2.1,rd aq aa.2.2.2.2.2.2.2,rd au ab.1,own 41 aw ay] U w) ay ?_ ?_
  ·refine cY hj (λhj=>?_) λhj=>?_
   rotate_left
   ·refine W6 ?_
    obtain rfl:=oi hj
    exact⟨rfl,ax,j.sp 16 ([3,4,1]++f0 6 10 [])⟩
   refine IN<|mv ax<|mv au<|aS ab.2.2 ?_
   obtain⟨a2,bf,hj⟩:=bd hj
   refine WC 14 j oV bf λbu j=>WT 0 a2 j tk λbg j=>Xh ([a2]:Z aU) j [bg] oV yy (λ_ _=>mm) λbw w j=>?_
   have j:=j.freeze 0
   obtain⟨bx,bh,hj⟩:=bd hj
   refine Xp 18 0 j GY bh λa3 w j=>?_
   refine cR a3<|By ?_
   obtain rfl:=oi hj
   exact⟨rfl,a3,j.sp 19 ([6,7,4]++f0 9 10 [])⟩
  rintro _ w⟨aw,O,rfl,j⟩
  refine bG<|aC<|IN<|aS ab.2.2<|WG ab.2.2 1<|aK (cG<|ab.2.2+1)<|By ?_
  obtain rfl:=oi o
  exact⟨rfl,au,aw,j.sp 13 (f0 0 13 [])⟩
 ·intro r _ _ _ _
  exact r.elim
 rintro ab _ w rfl⟨ar,O,rfl,j⟩
 rw[Fo.BX]at o
 refine aC<|w_<|mv ar<|cR ar<|aK 0<|AI<|WM ?_
 obtain rfl:=oi o
 exact lh ⟨ar,zr,j.pk 12 [11]⟩
theorem FA{p0:Z Int}{p1:Z Int}{res:Bool}(j:Holds E w V)(h0:eo V i0 v0 p0)(h1:eo V i1 v1 p1)(o:tf N p0 p1=some res):c_ 40 [v0,v1] w<|aW E V res:=by
 unfold tf at o;refine enter Tryz.func40 zr zr ?_;have j:=(j.dup (i0+0) h0).dup (i1+1) h1;refine w_<|bX false<|WD<|w_<|mv v0<|WH 1 p0 j ma<|aS 0<|AI<|XU E V (λ(ah:Unit)=>[rd v0 p0,rd v1 p1]) (λ_=>[]) (λaa _=>[(0,v0),(1,v1),(9,vi p0.length),(10,vi aa)]) (λr=>lf bI 31 Tryz.f40 (aW E V r) .ret) o ?_ ?_ ?_ ?_;exact j.sp 2 [1,0];rintro hm aa ah fl _ w hk⟨O,rfl,j⟩o;refine BY<|W2<|aS (aa:Int)<|aK (aa:Int)<|WD<|XF mixed ?_;have j:=j.drew;refine XE<|mv v0<|AS<|aS (aa:Int)<|AS<|q_ o λag ak o=>WC 0 j dJ ak λaq j=>AS<|WX ag 0 j cF<|AS<|mv v1<|AS<|aS (aa:Int)<|AS ?_;refine q_ o λae al o=>WC 2 j dJ al λar j=>AS<|WX ae 0 j cF<|AS<|aK ag<|AS<|aK ae<|Xx<|aC<|BY<|w_<|aS ag<|ic ag 0<|AI ?_;refine q_ o λad hj o=>WS (λ(ad:Int)=>SH E V [(0,v0),(1,v1),(5,vi aa),(6,vi ad),(7,vi ae),(9,vi p0.length),(10,vi aa)] [rd v0 p0,rd v1 p1]) ad ?_ ?_;refine cY hj (λhj=>?_) λhj=>?_;exact IN<|aS (aa:Int)<|aK (aa:Int)<|By<|oi hj▸⟨rfl,j.sp 4 [2,3]⟩;exact W6<|oi hj▸⟨rfl,j.sp 4 [2,3]⟩;rintro _ w⟨O,rfl,j⟩;refine aC<|BY<|w_<|aS ae<|ic ae 0<|AI<|q_ o λaf hj o=>WS (λ(af:Int)=>SH E V [(0,v0),(1,v1),(6,vi ad),(7,vi af),(9,vi p0.length),(10,vi aa)] [rd v0 p0,rd v1 p1]) af ?_ ?_;refine cY hj (λhj=>?_) λhj=>?_;exact IN<|aS (aa:Int)<|aK (aa:Int)<|By<|oi hj▸⟨rfl,j.sp 2 [0,1]⟩;exact W6<|oi hj▸⟨rfl,j.sp 2 [0,1]⟩;rintro _ w⟨O,rfl,j⟩;refine aC<|w_<|aS ad<|aS af<|ic ad af<|AI<|cY o (λo=>?_) λo=>?_;exact w_<|bX false<|AI<|Xv<|bK<|oi o▸⟨rfl,bT ⟨rfl,j.drop 2⟩⟩;exact W6<|bG<|aC<|IN<|Xq hk hm<|aS ((aa+1:Nat):Int)<|By<|oi o▸⟨rfl,j.sp 2 [0,1]⟩;intro r U w o hK;exact bK<|oi o▸hK;rintro ah _ w o⟨O,rfl,j⟩;exact aC<|w_<|bX true<|AI<|WM<|oi o▸bT ⟨rfl,j.drop 2⟩
def ED(E:aY)(V:Z HP)(res:Z cP×Z Bool×Int)(v:aX)(w:aY):Prop:=∃u0 u1:aX,v = .tuple #[u0,u1,vi res.2.2]/\Holds E w ([own 61 u0 res.1,own 4 u1 res.2.1]++V)
theorem Dk{p0:gZ}{p1:Z Test}{res:Z cP×Z Bool×Int}(j:Holds E w V)(h0:eo V i0 v0 p0)(h1:eo V i1 v1 p1)(hb:kx N p0 p1 p2=some res):
    c_ 20 [v0,v1,vi p2] w<|ED E V res:=by
 unfold kx at hb
 refine enter Tryz.func20 zr zr ?_
 have j:=(j.dup (i0+0) h0).dup (i1+1) h1
 refine w_<|Xb 1 v0 j zr λcq w j=>?_
 refine cR n_<|cR n_<|aK 0<|IT<|Xc 0 j zr oe λcr j=>mv v1 ?_
 obtain⟨an,b5,hb⟩:=bd hb
 refine WW TA (AY N (i0:=0) (i1:=2) j zr zr b5) ?_
 rintro _ w hK49
 rcases bl:an.1 with _|o
 ·replace hb:=MV bl hb
  obtain⟨rfl,j⟩:=Hh bl hK49
  refine mv (.tuple #[(.pointer none),vi an.2])<|Xm (.pointer none)<|Xm (vi an.2)<|cR (.pointer none)<|aK an.2<|WD<|w_<|aS an.2<|ic an.2 0 ?_
  refine AI<|cY hb (λhb=>?_) λhb=>?_
  rotate_left
  ·cases hb
  refine w_<|aS an.2<|cR n_<|cR n_<|aK an.2<|AI<|W8 ?_
  obtain rfl:=oi hb
  have j:=(j.cA cP 61).cA Bool 4
  exact Jf ⟨n_,n_,zr,j.pk 6 [1,0]⟩
 replace hb:=MW bl hb
 obtain⟨aj,ay,a0,a1,a2,a3,a4,a5,a6,a7,a8,a9,ba,rfl,j⟩:=Hi bl hK49
 refine mv (.tuple #[vp aj 0,vi an.2])<|Xm (vp aj 0)<|Xm (vi an.2)<|cR (vp aj 0)<|aK an.2<|WD<|w_<|aS an.2<|ic an.2 0 ?_
 refine AI<|cY hb (λhb=>?_) λhb=>?_
 ·refine w_<|aS an.2<|cR n_<|cR n_<|aK an.2<|AI<|W8 ?_
  obtain rfl:=oi hb
  have j:=(j.cA cP 61).cA Bool 4
  exact Jf ⟨n_,n_,zr,j.pk 19 [1,0]⟩
 refine XA<|mv (vp aj 0)<|aS p2 ?_
 have j:=((((((((((((j.freeze 5).freeze 8).freeze 11).freeze 12).dup 12 rfl).dup 12 rfl).dup 12 rfl).dup 12 rfl).dup 12 rfl).dup 12 rfl).dup 12 rfl).dup 12 rfl).dup 12 rfl
 have j:=(((j.dup 12 rfl).dup 12 rfl).dup 12 rfl).pull 12
 obtain⟨ad,b6,hb⟩:=bd hb
 refine WW TE (yr N (p1:=p2) j b6) ?_
 rintro _ w⟨ar,rfl,j⟩
 refine mv (.tuple #[ar,vi ad.2])<|Xm ar<|Xm (vi ad.2)<|cR ar<|aK ad.2<|WD<|w_<|aS ad.2<|ic ad.2 0 ?_
 refine AI<|cY hb (λhb=>?_) λhb=>?_
 ·refine w_<|aS ad.2<|cR n_<|cR n_<|aK ad.2<|AI<|W8 ?_
  obtain rfl:=oi hb
  have j:=(j.cA cP 61).cA Bool 4
  exact Jf ⟨n_,n_,zr,j.pk 21 [1,0]⟩
 refine XA<|mv (vp aj 0) ?_
 have j:=(((((((j.sA aU).dup 15 rfl).dup 15 rfl).dup 12 rfl).dup 12 rfl).dup 11 rfl).dup 11 rfl).pull 8
 obtain⟨ct,b7,hb⟩:=bd hb
 refine WW PO (pK N (i1:=0) j zr b7) λbo w j=>cR bo<|IT<|cR n_<|WD<|w_<|mv ar<|XD (i:=3) (l:=ad.1) zt zr j zr zr yz<|aS 0 ?_
 refine AI ?_
 obtain⟨au,hN,hb⟩:=bd hb
 refine Yr (λ(bb:Nat)(au:Z Int×Z cP)U w=>∃bp bq:aX,SH E V [(1,v1),(9,vp aj 0),(12,bp),(13,bq),(37,ar),(38,vi ad.1.length),(39,vi bb)] [rd v1 p1,bc 93 aj [ay,a0,a1,a2,a3,a4,a5,a6,a7,a8,a9,ba],rd ay o.1,rd a0 o.2.1,rd a1 o.2.2.1,rd a2 o.2.2.2.1,rd a3 o.2.2.2.2.1,rd a4 o.2.2.2.2.2.1,rd a5 o.2.2.2.2.2.2.1,rd a6 o.2.2.2.2.2.2.2.1,rd a7 o.2.2.2.2.2.2.2.2.1,rd a8 o.2.2.2.2.2.2.2.2.2.1,rd a9 o.2.2.2.2.2.2.2.2.2.2.1,rd ba o.2.2.2.2.2.2.2.2.2.2.2,own 41 ar ad.1,rd bp au.1,own 61 bq au.2] U w) (λ(au:Z Int×Z cP)U w=>∃bf:aX,SH E V [(1,v1),(9,vp aj 0),(13,bf)] [rd v1 p1,bc 93 aj [ay,a0,a1,a2,a3,a4,a5,a6,a7,a8,a9,ba],rd ay o.1,rd a0 o.2.1,rd a1 o.2.2.1,rd a2 o.2.2.2.1,rd a3 o.2.2.2.2.1,rd a4 o.2.2.2.2.2.1,rd a5 o.2.2.2.2.2.2.1,rd a6 o.2.2.2.2.2.2.2.1,rd a7 o.2.2.2.2.2.2.2.2.1,rd a8 o.2.2.2.2.2.2.2.2.2.1,rd a9 o.2.2.2.2.2.2.2.2.2.2.1,rd ba o.2.2.2.2.2.2.2.2.2.2.2,own 41 ar ad.1,own 61 bf au.2] U w) hN ?_ ?_ ?_ ?_
 ·have j:=(j.freeze 0).cA cP 61
  exact⟨bo,n_,j.sp 23 (21::2::f0 7 12 [4,1,0])⟩
 ·rintro hm au _ w⟨cu,b9,O,rfl,j⟩
  refine w_<|ic ((ad.1.length:Int)) ((ad.1.length:Int))<|WD<|Yn Rp<|W3 ?_
  exact⟨rfl,b9,j.sp 17 (f0 0 15 [16])⟩
 ·rintro hm bb au s' _ w hk⟨bg,bh,O,rfl,j⟩hb
  refine w_<|ic ((bb:Int)) ((ad.1.length:Int))<|WD<|Ym (Ro hk)<|WV<|W2 ?_
  obtain⟨aq,bu,hb⟩:=bd hb
  refine W1 14 j zr zr oV bu<|X4 14 j bu tk λca j=>?_
  refine Xl j yy.z λbw w j=>?_
  refine Xg 0 j 1 zr tk λw j=>?_
  refine IT<|Xc 0 j zr tk λbz j=>Xh ([aq]:Z aU) j [bz] oV yy (λ_ _=>mm) λbk w j=>cR bk<|IT<|mv (vp aj 0)<|mv bk ?_
  have j:=(((((((j.freeze 0).dup 17 rfl).dup 17 rfl).dup 14 rfl).dup 14 rfl).dup 13 rfl).dup 13 rfl).pull 11
  obtain⟨cb,cc,hb⟩:=bd hb
  refine WW PO (pK N (i1:=0) j zr cc) λcd w j=>mv bg ?_
  have j:=j.freeze 0
  obtain⟨cf,cg,hb⟩:=bd hb
  refine WK (gu Tryz.func40) (FA N (i0:=0) (i1:=21) j zr zr cg) λw j=>Xk cf<|AI ?_
  obtain⟨bn,hj,hb⟩:=bd hb
  refine WS (λ(bn:Z cP)U w=>∃bm:aX,SH E V [(1,v1),(9,vp aj 0),(12,bg),(13,bm),(37,ar),(38,vi ad.1.length),(39,vi bb)] [rd v1 p1,bc 93 aj [ay,a0,a1,a2,a3,a4,a5,a6,a7,a8,a9,ba],rd ay o.1,rd a0 o.2.1,rd a1 o.2.2.1,rd a2 o.2.2.2.1,rd a3 o.2.2.2.2.1,rd a4 o.2.2.2.2.2.1,rd a5 o.2.2.2.2.2.2.1,rd a6 o.2.2.2.2.2.2.2.1,rd a7 o.2.2.2.2.2.2.2.2.1,rd a8 o.2.2.2.2.2.2.2.2.2.1,rd a9 o.2.2.2.2.2.2.2.2.2.2.1,rd ba o.2.2.2.2.2.2.2.2.2.2.2,rd bg au.1,own 41 ar ad.1,own 61 bm bn] U w) bn ?_ ?_
  ·refine cY hj (λhj=>?_) λhj=>?_
   rotate_left
   ·refine W6 ?_
    obtain rfl:=oi hj
    exact⟨rfl,bh,j.sp 23 (6::1::f0 8 12 [21,20,22])⟩
   obtain⟨av,ch,hj⟩:=bd hj
   obtain⟨cj,ck,hj⟩:=bd hj
   refine XZ E V mixed [0,0,1,1,1,0,0,0,0,1] [1,5,6,7,8] (λ(x:aX×aX×aX×aX×aX)=>(λak ae al ag ah=>[(0,51,bh),(1,52,ak),(2,53,vp aj 0),(3,54,v1),(4,55,bk),(5,56,ae),(6,57,al),(7,58,ag),(8,59,ah),(9,13,ah)]) x.1 x.2.1 x.2.2.1 x.2.2.2.1 x.2.2.2.2) [(1,v1),(9,vp aj 0),(12,bg),(15,vp bw 0),(16,bk),(37,ar),(38,vi ad.1.length),(39,vi bb)] [(9,13,bh)] (λ(D:Nat->Bool)(x:aX×aX×aX×aX×aX)=>(λak ae al ag ah=>[bif D 0 then rd ak aq else bH,bif D 2 then rd ae av else(bif D 1 then own 4 ae av else bH),bif D 2 then rd al (⟨aq,av⟩:cP)else bH,bif D 4 then rd ag ([(⟨aq,av⟩:cP)]:Z cP)else(bif D 3 then own 61 ag ([(⟨aq,av⟩:cP)]:Z cP)else bH),rd cd cb,bc 93 aj [ay,a0,a1,a2,a3,a4,a5,a6,a7,a8,a9,ba],rd bk ([aq]:Z aU),rd bz aq,bx 41 bw aq,rd ca aq,rd v1 p1,bH,rd ay o.1,rd a0 o.2.1,rd a1 o.2.2.1,rd a2 o.2.2.2.1,rd a3 o.2.2.2.2.1,rd a4 o.2.2.2.2.2.1,rd a5 o.2.2.2.2.2.2.1,rd a6 o.2.2.2.2.2.2.2.1,rd a7 o.2.2.2.2.2.2.2.2.1,rd a8 o.2.2.2.2.2.2.2.2.2.1,rd a9 o.2.2.2.2.2.2.2.2.2.2.1,rd ba o.2.2.2.2.2.2.2.2.2.2.2,own 41 ar ad.1,rd bg au.1,bif D 4 then own 61 ah cj else own 61 bh au.2]) x.1 x.2.1 x.2.2.1 x.2.2.2.1 x.2.2.2.2) (λx=>by kernel_rfl) ?_ ⟨?_,?_,λ_=>iJ gn,λ_=>iJ gn,λ_=>iJ gn,?_,?_,?_,?_,λ_=>N0 gn rfl,trivial⟩ ?_
   ·have j:=((((j.drew).bH).bH).bH).bH
    exact⟨(undef,undef,undef,undef,undef),eH.none,GQ zr,⟨λ_=>zr,zt⟩,j⟩
   ·rintro D U w hD ai aw⟨⟨ak,ae,al,ag,ah⟩,hv,ha,ho,j⟩
    obtain⟨O,rfl⟩:=(ac (ho.at 0 rfl<|nh aw hD 9) az).tF
    refine mv bh ?_
    exact By ⟨rfl,(ak,ae,al,ag,ah),hv.pu 0,ha.u,ho.up zr,j⟩
   ·rintro D U w hD ai aw⟨⟨ak,ae,al,ag,ah⟩,hv,ha,ho,j⟩
    obtain⟨O,rfl⟩:=ha.tF
    have j:=j.bU 0 hD
    refine Xc 8 j zr tk λcm j=>?_
    have j:=j.nw 0
    exact By ⟨rfl,(cm,ae,al,ag,ah),hv.pu 1,ha.u,ho.up zr,j⟩
   ·rintro D U w hD ai aw⟨⟨ak,ae,al,ag,ah⟩,hv,ha,ho,j⟩
    obtain⟨O,rfl⟩:=(ac (hv.at 2 rfl<|ai.1 rfl)<|ac (hv.at 3 rfl<|ai.2.1 rfl)<|ac (hv.at 4 rfl<|ai.2.2.1 rfl) az).tF
    have j:=((((((((((j.bU 1<|nh aw hD 6).bU 1 hD).dup 23 rfl).dup 23 rfl).dup 20 rfl).dup 20 rfl).dup 19 rfl).dup 19 rfl).dup 19 rfl).dup 19 rfl).pull 13
    refine WW RS (u9 N (i1:=10) (i2:=6) j zr zr ch) λb0 w j=>?_
    have j:=((j.pl 29 [2,0,4,5,6,1,8,9,10,11,12,13,14,15,16,17,18,19,20,21,22,23,24,25,26,27,28]).cX 1 true rfl bH).eC 1 (D 6) (nh aw hD 6)<|rd b0 av
    exact By ⟨rfl,(ak,b0,al,ag,ah),hv.pu 5,ha.u,ho.up zr,j⟩
   ·rintro D U w hD ai aw⟨⟨ak,ae,al,ag,ah⟩,hv,ha,ho,j⟩
    obtain⟨O,rfl⟩:=hv.o2 1 5 ai
    have j:=((((j.dS 0<|ai.1 rfl).bU 1 hD).dS 1<|ai.2.1 rfl).bU 2 hD).freeze 1
    refine XB (⟨aq,av⟩:cP) trivial rfl j [(0,ak),(1,ae)] rfl VD rfl (λM hs g=>by have h:=Ip M;exact cE.cons (f:=λ(x:cP)y=>{x with Em:=y}) h Es (g.sat 0 _ rfl).1 λ_ h=>cE.cons (f:=λ(x:cP)y=>{x with wH:=y}) h Et (g.sat 1 _ rfl).1 λ_ h=>cE.nil h) λcn j=>?_
    have j:=(((j.pl 28 [1,2,0,4,5,6,7,8,9,10,11,12,13,14,15,16,17,18,19,20,21,22,23,24,25,26,27]).cX 0 (D 1) (ai.1 rfl) bH).cX 1 true rfl (bif D 5 then own 4 ae av else bH)).cX 2 true rfl bH
    exact By ⟨rfl,(ak,ae,cn,ag,ah),hv.pu 6,ha.u,ho.up zr,j⟩
   ·rintro D U w hD ai aw⟨⟨ak,ae,al,ag,ah⟩,hv,ha,ho,j⟩
    obtain⟨O,rfl⟩:=hv.o1 6 ai
    have j:=((j.dS 2<|ai.1 rfl).bU 3<|nh aw hD 8).bU 3 hD
    refine Xh ([(⟨aq,av⟩:cP)]:Z cP) j [al] Uc Ud (λM hs g=>⟨(g.sat 2 _ zr).1,zt⟩) λb2 w j=>?_
    have j:=(((j.pl 28 [1,2,3,0,5,6,7,8,9,10,11,12,13,14,15,16,17,18,19,20,21,22,23,24,25,26,27]).cX 2 (D 6) (ai.1 rfl) bH).cX 3 true rfl bH).eC 3 (D 8) (nh aw hD 8)<|rd b2 ([(⟨aq,av⟩:cP)]:Z cP)
    exact By ⟨rfl,(ak,ae,al,b2,ah),hv.pu 7,ha.u,ho.up zr,j⟩
   ·rintro D U w hD ai aw⟨⟨ak,ae,al,ag,ah⟩,hv,ha,ho,j⟩
    obtain⟨O,rfl⟩:=hv.o2 0 7 ai
    have j:=(((j.bU 3 hD).dS 3<|ai.2.1 rfl).bU 26 hD).freeze 3
    refine Xp 26 3 j VE ck λb3 w j=>?_
    have j:=(j.cX 3 true rfl (bif D 7 then own 61 ag ([(⟨aq,av⟩:cP)]:Z cP)else bH)).cX 26 true rfl<|own 61 bh au.2
    have hv:=hv.re 9 rfl (v':=b3)<|λh=>ft hD<|(aw 9 _ rfl h).1 rfl
    exact By ⟨rfl,(ak,ae,al,ag,b3),hv.pu 8,ha.u,ho.up zr,j⟩
   rintro D U w bj⟨⟨ak,ae,al,ag,ah⟩,hv,ha,_,j⟩
   simp only[List.getD_cons_zero,List.getD_cons_succ,bj 1 (by decide),bj 6 (by decide),bj 6 (by decide),bj 8 (by decide),bj 8 (by decide),aP]at j
   obtain⟨O,rfl⟩:=(ac (hv.at 9 rfl<|rD bj 9) ha).tF
   obtain rfl:=oi hj
   exact⟨rfl,ah,j.sp 27 (10::5::f0 12 12 [25,24,26])⟩
  rintro _ w⟨bm,O,rfl,j⟩
  refine bG<|aC<|IN<|Xq hk hm<|aS ((bb+1:Nat):Int)<|By ?_
  obtain rfl:=oi hb
  exact⟨rfl,bg,bm,j.sp 17 (f0 0 14 [15,14,16])⟩
 rintro _ w⟨bf,O,rfl,j⟩
 refine aC<|w_<|mv bf<|mv (vp aj 0)<|mv v1 ?_
 have j:=(((((((((j.sA aU).dup 14 rfl).dup 14 rfl).dup 11 rfl).dup 11 rfl).dup 10 rfl).dup 10 rfl).dup 10 rfl).dup 10 rfl).pull 10
 obtain⟨cv,cp,hb⟩:=bd hb
 refine WW RS (u9 N (i1:=1) (i2:=0) j zr zr cp) λb4 w j=>cR bf<|cR b4<|aK 0<|AI<|WM ?_
 obtain rfl:=oi hb
 exact Jf ⟨bf,b4,zr,j.pk 19 [18,0]⟩
theorem Cx{p0:gZ}{p1:Z Test}{res:Z (Z aU)×Int}(o:Holds E w V)(h0:eo V i0 v0 p0)(h1:eo V i1 v1 p1)(hb:kH N p0 p1 p2=some res):c_ 6 [v0,v1,vi p2] w<|wR E V res:=by
 unfold kH at hb;refine enter Tryz.func6 zr zr ?_;have o:=(o.dup (i0+0) h0).dup (i1+1) h1;refine w_<|Xb 1 v0 o zr λb7 w o=>?_;refine cR n_<|aK 0<|IT<|Xc 0 o zr oe λb8 o=>mv v1<|aS p2<|q_ hb λah bt hb=>WW (gu Tryz.func20) (Dk N (p2:=p2) (i0:=0) (i1:=2) o zr zr bt) ?_;rintro _ w⟨aq,a6,rfl,o⟩;refine mv (.tuple #[aq,a6,vi ah.2.2])<|Xm aq<|Xm a6<|Xm (vi ah.2.2)<|cR aq<|cR a6<|aK ah.2.2<|WD<|w_<|aS ah.2.2<|ic ah.2.2 0<|AI<|cY hb (λhb=>?_) λhb=>?_;exact w_<|aS ah.2.2<|cR n_<|aK ah.2.2<|AI<|W8<|oi hb▸lh ⟨n_,zr,(o.cA (Z aU) 30).pk 7 [0]⟩;refine XA<|Yy (κ:=eJ) (ν:=Int) zr o λaw w o=>cR aw<|IT<|cR n_<|WD<|w_<|mv aq<|XD (i:=1) (l:=ah.1) zt zr o zr zr VG<|aS 0<|AI ?_;refine q_ hb λaf hN hb=>Yr (λ(ay:Nat)(af:Z Bool×Z (eJ×Int)×Z (Z aU))U w=>∃(bj bk:aX)(us241:Z RV),SH E V [(9,bj),(11,aw),(12,bk),(32,aq),(33,vi ah.1.length),(34,vi ay)] [mp aw af.2.1,own 61 aq ah.1,rd bj af.1,own 30 bk us241,gN (XS 41 aU) us241 af.2.2 none] U w) (λ(af:Z Bool×Z (eJ×Int)×Z (Z aU))U w=>∃(a2:aX)(us243:Z RV),SH E V [(12,a2)] [mp aw af.2.1,own 61 aq ah.1,own 30 a2 us243,gN (XS 41 aU) us243 af.2.2 none] U w) hN ?_ ?_ ?_ ?_;exact⟨a6,n_,([]:Z RV),(((o.freeze 2).zR<|XS 41 aU).cA RV 30).sp 9 [2,3,4,0,1]⟩;rintro hm af _ w⟨b9,bw,us346,O,rfl,o⟩;exact w_<|ic ((ah.1.length:Int)) ((ah.1.length:Int))<|WD<|Yn Rp<|W3<|⟨rfl,bw,us346,o.sp 5 [0,1,3,4]⟩;rintro hm ay af s' _ w hk⟨ax,a0,us246,O,rfl,o⟩hb;refine w_<|ic ((ay:Int)) ((ah.1.length:Int))<|WD<|Ym (Ro hk)<|WV<|W2<|q_ hb λar bl hb=>W1 1 o zr zr Uc bl<|X4 1 o bl Ue λca o=>?_;refine Xl o Ud.z λaz w o=>?_;refine Xg 0 o 1 zr Ue λw o=>?_;refine WD<|w_<|AT zr Oi<|Xe 0 o zr yn R1 λcb o=>mv ax<|q_ hb λcc bz hb=>WK TJ (tw N (i0:=0) (i1:=5) o zr zr bz) λw o=>AI<|cY hb (λhb=>?_) λhb=>?_;exact W3<|C0<|aC<|IN<|Xq hk hm<|aS ((ay+1:Nat):Int)<|By<|oi hb▸⟨rfl,ax,a0,us246,o.sp 8 [3,4,5,6,7]⟩;refine XA<|cR n_<|WD<|w_<|AT zr Oi<|Xe 1 o zr yn R1 λa7 o=>WH 0 ar.wH o Fm<|aS 0<|AI<|XW E V (λ(au:Z UInt8)(bb:aX)=>[rd ax af.1,mp aw af.2.1,own 30 a0 us246,gN (XS 41 aU) us246 af.2.2 none,bx 61 az ar,own 61 aq ah.1,rd a7 ar.wH,own 5 bb au]) (λ_ bb=>[(9,ax),(11,aw),(12,a0),(14,vp az 0),(15,bb),(32,aq),(33,vi ah.1.length),(34,vi ay)]) (λa8 _ _=>[(43,a7),(44,vi ar.wH.length),(45,vi a8)]) hb ?_ ?_ ?_;exact⟨n_,(o.cA UInt8 5).sp 10 [7,5,8,9,3,6,1,0]⟩;rintro hm a8 au s' _ w hk⟨bm,O,rfl,o⟩hb;refine BY<|W2<|q_ hb λbc b0 hb=>WC 6 o ue b0 λcd o=>WX bc 0 o sW<|bX bc<|IT<|eX bc<|AI<|q_ hb λbf hj hb=>WS (λ(bf:Z UInt8)U w=>∃a9:aX,SH E V [(9,ax),(11,aw),(12,a0),(14,vp az 0),(15,a9),(32,aq),(33,vi ah.1.length),(34,vi ay),(43,a7),(44,vi ar.wH.length),(45,vi a8)] [rd ax af.1,mp aw af.2.1,own 30 a0 us246,gN (XS 41 aU) us246 af.2.2 none,bx 61 az ar,own 61 aq ah.1,rd a7 ar.wH,own 5 a9 bf] U w) bf ?_ ?_;refine cY hj (λhj=>?_) λhj=>?_;refine IN<|mv bm ?_;have o:=o.sc UInt8 121;refine Xh ([121]:Z UInt8) o [(.int .u8 121)] Uf Wh (λ_ _=>mm) λcf w o=>?_;have o:=o.freeze 0;refine q_ hj λcg b2 hj=>Xp 10 0 o Ug b2 λbn w o=>?_;exact cR bn<|By<|oi hj▸⟨rfl,bn,o.sp 11 (f0 3 8 [])⟩;refine IN<|mv bm ?_;have o:=o.sc UInt8 110;refine Xh ([110]:Z UInt8) o [(.int .u8 110)] Uf Wh (λ_ _=>mm) λch w o=>?_;have o:=o.freeze 0;refine q_ hj λcj b3 hj=>Xp 10 0 o Ug b3 λbo w o=>?_;exact cR bo<|By<|oi hj▸⟨rfl,bo,o.sp 11 (f0 3 8 [])⟩;rintro _ w⟨a9,O,rfl,o⟩;exact bG<|aC<|IN<|Xq hk hm<|aS ((a8+1:Nat):Int)<|By<|oi hb▸⟨rfl,a9,o.sp 8 (f0 0 8 [])⟩;rintro au _ w hb⟨bp,O,rfl,o⟩;refine aC<|w_<|mv aw<|mv bp ?_;have o:=o.freeze 7;refine Zk au 7 zt zr o zr zr Uh Wi DU<|YS 1 (⟨au⟩:eJ) zr o zr zr zr Ui<|mv (.tuple #[vi<|fH af.2.1 (⟨au⟩:eJ) (0:Int),vb<|kL af.2.1 (⟨au⟩:eJ)])<|Xm (vi<|fH af.2.1 (⟨au⟩:eJ) (0:Int))<|Xm (vb<|kL af.2.1 (⟨au⟩:eJ))<|aK (fH af.2.1 (⟨au⟩:eJ) (0:Int))<|bX (kL af.2.1 (⟨au⟩:eJ))<|WD<|w_ ?_;refine eX (kL af.2.1 (⟨au⟩:eJ))<|Xk (kL af.2.1 (⟨au⟩:eJ))<|AI<|q_ hb λaa hj hb=>WS (λ(aa:Z (eJ×Int)×Z (Z aU)×Int)U w=>∃(ao:aX)(us314:Z RV),SH E V [(9,ax),(11,aw),(12,ao),(14,vp az 0),(18,vi aa.2.2),(32,aq),(33,vi ah.1.length),(34,vi ay)] [rd ax af.1,mp aw aa.1,bx 61 az ar,own 61 aq ah.1,own 30 ao us314,gN (XS 41 aU) us314 aa.2.1 none] U w) aa ?_ ?_;refine cY hj (λhj=>?_) λhj=>?_;refine w_<|mv a0<|Yp 2 3 af.2.2 o PT<|aK (af.2.2.length:Int)<|IT<|mv aw<|mv bp<|Zk au 7 zt zr o zr zr Uh Wi DU<|aS (af.2.2.length:Int) ?_;have o:=o.sc Int (af.2.2.length:Int);refine Yz 2 0 (⟨au⟩:eJ) o zr zr zr zr zr Ui λw o=>AI<|IN<|mv a0 ?_;have o:=(o.cA aU 41).DS (i:=0) rfl;refine Xh ([rv<|.slice none 0 0]:Z RV) o [n_] JY Uj (λ_ _=>mm) λck w o=>?_;obtain⟨cm,b4,hj⟩:=bd hj;have o:=o.freeze 0;refine YJ 6 0 7 2 zr o zr zr zr zr zr zr Uk b4 λbq w o=>?_;refine cR bq<|By ?_;obtain rfl:=oi hj;exact⟨rfl,bq,us246++[rv<|.slice none 0 0],o.sp 12 [4,5,8,9,6,7]⟩;exact W6<|oi hj▸⟨rfl,a0,us246,o.sp 8 [0,1,4,5,2,3]⟩;rintro _ w⟨ao,us314,O,rfl,o⟩;refine aC ?_;obtain⟨cn,ba,hb⟩:=bd hb;obtain⟨a1,b5,hb⟩:=bd hb;refine q_ hb λcp bg hb=>XZ E V mixed [1,1,1,1,0,0,1,0,0,0,0,0] [7,8,9,11] (λ(x:aX×aX×aX)=>(λal ak ag=>[(0,75,ao),(1,76,vi aa.2.2),(2,77,ao),(3,78,vi aa.2.2),(4,79,AO ao (mL aa.2.2) 1 0),(5,80,(us314.getD (mL aa.2.2) zS).v),(6,81,vp az 0),(7,82,al),(8,83,ak),(9,84,ag),(10,85,AO ao (mL aa.2.2) 1 0)]) x.1 x.2.1 x.2.2) [(9,ax),(11,aw),(12,ao),(14,vp az 0),(18,vi aa.2.2),(32,aq),(33,vi ah.1.length),(34,vi ay)] [] (λ(D:Nat->Bool)(x:aX×aX×aX)=>(λal ak ag=>[bif D 0 then rd al ar.Em else bH,bif D 2 then rd ak ([ar.Em]:Z aU)else(bif D 1 then own 41 ak ([ar.Em]:Z aU)else bH),bif D 3 then bH else(bif D 2 then own 41 ag a1 else bH),rd ax af.1,mp aw aa.1,bx 61 az ar,own 61 aq ah.1,bif D 3 then own 30 ao (us314.set (mL aa.2.2)<|rv ag)else own 30 ao us314,bif D 3 then gN (XS 41 aU) (us314.set (mL aa.2.2)<|rv ag) (aa.2.1.set (mL aa.2.2) a1) none else(bif D 2 then gN (XS 41 aU) us314 aa.2.1 (some<|mL aa.2.2)else gN (XS 41 aU) us314 aa.2.1 none)]) x.1 x.2.1 x.2.2) (λx=>by kernel_rfl) ?_ ⟨λ_=>iJ gn,λ_=>iJ gn,λ_=>iJ gn,λ_=>iJ gn,?_,?_,λ_=>nL gn R2,?_,?_,?_,?_,?_,trivial⟩ ?_;exact⟨(undef,undef,undef),eH.none,GQ zr,zt,(((o.drew).bH).bH).bH⟩;rintro D U w hD aj ae⟨⟨al,ak,ag⟩,hv,ha,_,o⟩;obtain⟨O,rfl⟩:=hv.o2 2 3 aj;have o:=((o.bU 7<|nh ae hD 11).bU 8<|nh ae hD 11).bU 8<|nf<|λh=>ft hD<|(ae 5 _ rfl<|(ae 9 _ rfl h).1 rfl).1 rfl;have hl332:=o.eA 8;have hr333:=eZ zS hl332 ba;refine W1 7 o zr zr JY hr333 ?_;have o:=(o.eC 7 (D 11) (nh ae hD 11)<|own 30 ao<|us314.set (mL aa.2.2)<|rv ag).eC 8 (D 9) (nf<|λh=>ft hD<|(ae 5 _ rfl<|(ae 9 _ rfl h).1 rfl).1 rfl)<|gN (XS 41 aU) us314 aa.2.1<|some<|mL aa.2.2;exact WQ (al,ak,ag) 4 hv ha (o.eC 8 (D 11) (nh ae hD 11)<|gN (XS 41 aU) (us314.set (mL aa.2.2)<|rv ag) (aa.2.1.set (mL aa.2.2) a1) none);rintro D U w hD aj ae⟨⟨al,ak,ag⟩,hv,ha,_,o⟩;obtain⟨O,rfl⟩:=hv.o1 4 aj;have o:=((o.bU 7<|nh ae hD 11).bU 8<|nh ae hD 11).bU 8<|nh ae hD 9;have hl334:=o.eA 8;have hr335:=eZ zS hl334 ba;refine Yu 7 8 aa.2.2 (yk 41 aU) zS o (r7 7 o hr335 0) zr zr ba Ey ?_;have o:=(o.eC 7 (D 11) (nh ae hD 11)<|own 30 ao<|us314.set (mL aa.2.2)<|rv ag).eC 8 (D 9) (nh ae hD 9)<|gN (XS 41 aU) us314 aa.2.1<|some<|mL aa.2.2;exact WQ (al,ak,ag) 5 hv ha (o.eC 8 (D 11) (nh ae hD 11)<|gN (XS 41 aU) (us314.set (mL aa.2.2)<|rv ag) (aa.2.1.set (mL aa.2.2) a1) none);rintro D U w hD aj ae⟨⟨al,ak,ag⟩,hv,ha,_,o⟩;obtain⟨O,rfl⟩:=hv.o1 6 aj;have o:=o.bU 0 hD;refine Xe 5 o zr Er tk λb6 o=>?_;exact WQ (b6,ak,ag) 7 hv ha (o.nw 0);rintro D U w hD aj ae⟨⟨al,ak,ag⟩,hv,ha,_,o⟩;obtain⟨O,rfl⟩:=hv.o1 7 aj;have o:=((o.dS 0<|aj.1 rfl).bU 1<|nh ae hD 9).bU 1 hD;refine Xh ([ar.Em]:Z aU) o [al] oV yy (λ_ _=>mm) λbr w o=>?_;exact WQ (al,br,ag) 8 hv ha ((((o.pl 10 [1,0,3,4,5,6,7,8,9]).cX 0 (D 7) (aj.1 rfl) bH).cX 1 true rfl bH).eC 1 (D 9) (nh ae hD 9)<|rd br ([ar.Em]:Z aU));rintro D U w hD aj ae⟨⟨al,ak,ag⟩,hv,ha,_,o⟩;obtain⟨O,rfl⟩:=hv.o2 5 8 aj;have o:=(((((((o.bU 1 hD).dS 1<|aj.2.1 rfl).bU 2<|nh ae hD 11).bU 2 hD).bU 7<|nh ae hD 11).bU 8<|nh ae hD 11).bU 8 hD).Bg (j:=8) (jj:=aa.2.2) (yk 41 aU) zS rfl ba;have o:=o.freeze 2;refine Xp 0 2 o GY b5 λbh w o=>?_;have o:=((((o.pl 10 [1,2,0,4,5,6,7,8,9]).cX 1 true rfl (bif D 8 then own 41 ak ([ar.Em]:Z aU)else bH)).cX 2 true rfl bH).eC 2 (D 11) (nh ae hD 11) bH).eC 7 (D 11) (nh ae hD 11)<|own 30 ao<|us314.set (mL aa.2.2)<|rv bh;exact WQ (al,ak,bh) 9 hv ha ((o.cX 8 true rfl<|gN (XS 41 aU) us314 aa.2.1 none).eC 8 (D 11) (nh ae hD 11)<|gN (XS 41 aU) (us314.set (mL aa.2.2)<|rv bh) (aa.2.1.set (mL aa.2.2) a1) none);rintro D U w hD aj ae⟨⟨al,ak,ag⟩,hv,ha,_,o⟩;obtain⟨O,rfl⟩:=hv.o2 0 1 aj;have o:=((o.bU 7<|nh ae hD 11).bU 8<|nh ae hD 11).dS 8<|aj.2.2.2.2.2.2.2.2.2.2.2.1 rfl;have hl339:=o.eA 8;have hr340:=eZ zS hl339 bg;exact W1 7 o zr zr JY hr340<|WQ (al,ak,ag) 10 hv ha (((o.eC 7 (D 11) (nh ae hD 11)<|own 30 ao<|us314.set (mL aa.2.2)<|rv ag).cX 8 (D 9) (aj.2.2.2.2.2.2.2.2.2.2.2.1 rfl)<|gN (XS 41 aU) us314 aa.2.1 none).eC 8 (D 11) (nh ae hD 11)<|gN (XS 41 aU) (us314.set (mL aa.2.2)<|rv ag) (aa.2.1.set (mL aa.2.2) a1) none);rintro D U w hD aj ae⟨⟨al,ak,ag⟩,hv,ha,_,o⟩;obtain⟨O,rfl⟩:=hv.o2 10 9 aj;have o:=((((o.bU 2 hD).dS 2<|aj.2.1 rfl).bU 7 hD).bU 8 hD).dS 8<|aj.2.1 rfl;have hl341:=o.eA 8;have hr342:=eZ zS hl341 bg;refine Yt 7 8 2 aa.2.2 (yk 41 aU) zS o zr (r7 7 o hr342 0) zr zr zr bg Ey λw o=>?_;exact X7 (al,ak,ag) hv ha (((o.cX 2 true rfl (bif D 9 then own 41 ag a1 else bH)).cX 7 true rfl<|own 30 ao us314).cX 8 true rfl (bif D 9 then gN (XS 41 aU) us314 aa.2.1 (some<|mL aa.2.2)else gN (XS 41 aU) us314 aa.2.1 none));rintro D U w a5⟨⟨al,ak,ag⟩,hv,ha,_,o⟩;simp only[List.getD_cons_zero,List.getD_cons_succ,a5 7 (by decide),a5 9 (by decide),a5 11 (by decide),a5 11 (by decide),a5 11 (by decide),aP]at o;obtain⟨O,rfl⟩:=ha.tF;refine bG<|aC<|IN<|Xq hk hm<|aS ((ay+1:Nat):Int)<|By ?_;obtain rfl:=oi hb;exact⟨rfl,ax,ao,us314.set (mL aa.2.2)<|rv ag,o.sp 9 [4,6,3,7,8]⟩;rintro _ w⟨a2,us243,O,rfl,o⟩;refine aC<|w_<|mv a2<|cR a2<|aK 0<|AI<|WM ?_;obtain rfl:=oi hb;have o:=o.zT (X:=XS 41 aU) (b:=3) (j:=2) rfl (λM h u x cs=>(Ma 41) M h u x cs) rfl rfl (by decide);exact lh ⟨a2,zr,o.pk 4 [2]⟩
def pR(E:aY)(V:Z HP)(b0:Nat)(f_ h_:aX)(a_ d_:aX)(g_ b_:aX)(e_ i_:aX)(res:Bool)(v:aX)(w:aY):Prop:=v= vb res/\Holds E w ([bc 111 b0 [f_,h_,a_,d_,g_,b_,e_,i_]]++V)
def pS(E:aY)(V:Z HP)(b0:Nat)(f_ h_:aX)(a_ d_:aX)(g_ b_:aX)(e_ i_:aX)(r:Bool)(U:Nat->aX)(w:aY):Prop:=lf bI 35 Tryz.f41 (pR E V b0 f_ h_ a_ d_ g_ b_ e_ i_ r) .ret U w
theorem vh{k_:Z bV}{p_:Z dA}{t_:Z Int}{j_:Z (Z aF)}{u_:Z (Z Int)}{p1:aU}{res:Bool}(j:Holds E w (bc 111 b0 [f_,h_,a_,d_,g_,b_,e_,i_]::rd a_ k_::rd d_ p_::rd g_ t_::rd b_ j_::rd i_ u_::V))(h1:eo V i1 v1 p1)(o:jA N k_ p_ t_ j_ u_ p1=some res):c_ 41 [vp b0 0,v1] w<|pR E V b0 f_ h_ a_ d_ g_ b_ e_ i_ res:=by
 unfold jA at o;refine enter Tryz.func41 zr zr ?_;have j:=j.dup (i1+6) h1;refine w_<|Xb 0 v1 j zr λau w j=>?_;refine bX false<|WD ?_;obtain⟨a0,a1,o⟩:=bd o;refine q_ o λa2 a3 o=>XZ E V mixed [1,0,1,0,0,0,1,1] [1,3,4,5] (λ(x:aX×aX×aX×aX)=>(λad ah ae af=>[(0,9,vp b0 0),(1,10,ad),(2,11,vp b0 0),(3,12,ah),(4,13,ae),(5,14,af),(6,5,ad),(7,6,af)]) x.1 x.2.1 x.2.2.1 x.2.2.2) [(0,vp b0 0),(3,vp au 0)] [] (λ(D:Nat->Bool)(x:aX×aX×aX×aX)=>(λad ah ae af=>[bif D 0 then own 3 ad a0 else bH,bif D 1 then rd ah p1 else bH,bif D 3 then rd ae ([p1]:Z aU)else(bif D 2 then own 41 ae ([p1]:Z aU)else bH),bif D 3 then own 3 af a2 else bH,bx 41 au p1,rd v1 p1,bc 111 b0 [f_,h_,a_,d_,g_,b_,e_,i_],rd a_ k_,rd d_ p_,rd g_ t_,rd b_ j_,rd i_ u_]) x.1 x.2.1 x.2.2.1 x.2.2.2) (λx=>by kernel_rfl) ?_ ⟨λ_=>iJ gn,?_,λ_=>iJ gn,?_,?_,?_,λ_=>N0 gn rfl,λ_=>N0 gn rfl,trivial⟩ ?_;exact⟨(undef,undef,undef,undef),eH.none,GQ zr,zt,((((j.drew).bH).bH).bH).bH⟩;rintro D U w hD ak al⟨⟨ad,ah,ae,af⟩,hv,ha,_,j⟩;obtain⟨O,rfl⟩:=hv.o1 0 ak;have j:=(((((((j.bU 0 hD).sA aU).dup 12 rfl).dup 12 rfl).dup 12 rfl).dup 12 rfl).dup 12 rfl).pull 12;refine WW RX (mX N (i1:=0) j zr a1) λav w j=>?_;have j:=(j.pl 15 [0,4,5,6,7,8,1,10,11,12,13,14]).cX 0 true rfl bH;have hv:=hv.re 6 rfl (v':=av)<|λh=>ft hD<|(al 6 _ rfl h).1 rfl;exact WQ (av,ah,ae,af) 1 hv ha j;rintro D U w hD ak al⟨⟨ad,ah,ae,af⟩,hv,ha,_,j⟩;obtain⟨O,rfl⟩:=ha.tF;have j:=j.bU 1 hD;refine Xc 4 j zr tk λa4 j=>?_;exact WQ (ad,a4,ae,af) 3 hv ha (j.nw 1);rintro D U w hD ak al⟨⟨ad,ah,ae,af⟩,hv,ha,_,j⟩;obtain⟨O,rfl⟩:=hv.o1 3 ak;have j:=((j.dS 1<|ak.1 rfl).bU 2<|nh al hD 5).bU 2 hD;refine Xh ([p1]:Z aU) j [ah] oV yy (λM hs g=>⟨(g.sat 1 _ zr).1,zt⟩) λaw w j=>?_;exact WQ (ad,ah,aw,af) 4 hv ha ((((j.pl 13 [1,2,0,4,5,6,7,8,9,10,11,12]).cX 1 (D 3) (ak.1 rfl) bH).cX 2 true rfl bH).eC 2 (D 5) (nh al hD 5)<|rd aw ([p1]:Z aU));rintro D U w hD ak al⟨⟨ad,ah,ae,af⟩,hv,ha,_,j⟩;obtain⟨O,rfl⟩:=hv.o2 2 4 ak;have j:=(((((((((j.bU 2 hD).dS 2<|ak.2.1 rfl).bU 3 hD).freeze 2).dup 11 rfl).dup 11 rfl).dup 11 rfl).dup 11 rfl).dup 11 rfl).pull 11;refine WW RX (mX N (i1:=2) j zr a3) λax w j=>?_;have j:=((j.pl 14 [2,3,4,0,6,7,1,9,10,11,12,13]).cX 2 true rfl (bif D 4 then own 41 ae ([p1]:Z aU)else bH)).cX 3 true rfl bH;have hv:=hv.re 7 rfl (v':=ax)<|λh=>ft hD<|(al 7 _ rfl h).1 rfl;exact WQ (ad,ah,ae,ax) 5 hv ha j;rintro D U w an⟨⟨ad,ah,ae,af⟩,hv,ha,_,j⟩;have j:=(((j.dS 0<|rD an 1).dS 1<|rD an 3).dS 2<|rD an 5).dS 3<|rD an 5;obtain⟨O,rfl⟩:=(ac (hv.at 6 rfl<|rD an 6)<|ac (hv.at 7 rfl<|rD an 7) ha).tF;refine aC<|BY<|w_<|aK 0<|AI<|q_ o λbb hN o=>Yd (λ(aa:Z Int×Z Int×Int)U w=>∃ay az:aX,SH E V [(0,vp b0 0),(5,ay),(6,az),(7,vi aa.2.2)] [bc 111 b0 [f_,h_,a_,d_,g_,b_,e_,i_],rd a_ k_,rd d_ p_,rd g_ t_,rd b_ j_,rd i_ u_,rd ay aa.1,rd az aa.2.1] U w) (λ(aa:Z Int×Z Int×Int)=>SH E V [(0,vp b0 0)] [bc 111 b0 [f_,h_,a_,d_,g_,b_,e_,i_],rd a_ k_,rd d_ p_,rd g_ t_,rd b_ j_,rd i_ u_]) (pS E V b0 f_ h_ a_ d_ g_ b_ e_ i_) hN ?_ ?_ ?_ ?_;exact⟨ad,af,((j.freeze 0).freeze 3).sp 12 (f0 6 6 [0,3])⟩;rintro aa fl _ w⟨ao,aq,O,rfl,j⟩o;refine BY<|w_<|aS aa.2.2<|mv ao<|WH 6 aa.1 j ma<|ic aa.2.2 ((aa.1.length:Int))<|AI<|cY o (λo=>?_) λo=>?_;refine WV<|W2<|aK 0<|AI<|XL E V (λ(ag:Int)=>[bc 111 b0 [f_,h_,a_,d_,g_,b_,e_,i_],rd a_ k_,rd d_ p_,rd g_ t_,rd b_ j_,rd i_ u_,rd ao aa.1,rd aq aa.2.1]) (λ_=>[(0,vp b0 0),(5,ao),(6,aq),(7,vi aa.2.2)]) (λag=>[(8,vi ag)]) (pS E V b0 f_ h_ a_ d_ g_ b_ e_ i_) o ?_ ?_ ?_ ?_;exact j.sp 8 (f0 0 8 []);rintro ag fl _ w⟨O,rfl,j⟩o;refine BY<|w_<|aS ag<|aS aa.2.2<|ic ag aa.2.2<|AI<|cY o (λo=>?_) λo=>?_;refine WV<|W2<|mv ao<|aS aa.2.2<|aS ag<|q_ o λa7 a8 o=>WK RY (lA N (p1:=aa.2.2) (p2:=ag) (i0:=6) j zr a8) λw j=>mv aq<|aS aa.2.2<|aS ag<|q_ o λa9 ba o=>WK RY (lA N (p1:=aa.2.2) (p2:=ag) (i0:=7) j zr ba) λw j=>YG a7 a9 zr zr zr RF<|AI<|cY o (λo=>?_) λo=>?_;exact w_<|bX false<|AI<|Xv<|bK<|oi o▸⟨rfl,bT ⟨rfl,j.pk 8 [0]⟩⟩;refine W6<|bG<|aC<|IN<|aS ag<|WG ag 1<|aK (cG<|ag+1)<|By ?_;exact oi o▸⟨rfl,j.sp 8 (f0 0 8 [])⟩;exact W3<|oi o▸⟨rfl,j.sp 8 (f0 0 8 [])⟩;intro r U w o hK;exact kC<|bK<|oi o▸⟨rfl,hK⟩;rintro ag _ w o⟨O,rfl,j⟩;refine bG<|aC<|IN<|aS aa.2.2<|WG aa.2.2 1<|aK (cG<|aa.2.2+1)<|By ?_;exact oi o▸⟨rfl,ao,aq,j.sp 8 (f0 0 8 [])⟩;exact W3<|oi o▸⟨rfl,j.sp 8 (f0 0 6 [])⟩;intro r U w e hK;subst e;exact bK<|oi o▸hK;rintro aa _ w rfl⟨O,rfl,j⟩;rw[Fo.BX]at o;exact aC<|w_<|bX true<|AI<|WM<|oi o▸bT ⟨rfl,j.pk 6 [0]⟩
theorem vM{k_:Z bV}{p_:Z dA}{t_:Z Int}{j_:Z (Z aF)}{u_:Z (Z Int)}{p1:Z aU}{res:Z aU}(j:Holds E w (bc 111 b0 [f_,h_,a_,d_,g_,b_,e_,i_]::rd a_ k_::rd d_ p_::rd g_ t_::rd b_ j_::rd i_ u_::V))(h1:eo V i1 v1 p1)(o:jX N k_ p_ t_ j_ u_ p1=some res):c_ 21 [vp b0 0,v1] w<|ri E V b0 f_ h_ a_ d_ g_ b_ e_ i_ res:=by
 unfold jX at o;refine enter Tryz.func21 zr zr ?_;have j:=j.dup (i1+6) h1;refine w_<|cR n_<|IT<|cR n_<|WD<|w_<|aK 0<|AI<|XK E V (λ(aa:Z aU×Int)(ae:aX)=>[bc 111 b0 [f_,h_,a_,d_,g_,b_,e_,i_],rd a_ k_,rd d_ p_,rd g_ t_,rd b_ j_,rd i_ u_,rd v1 p1,own 41 ae aa.1]) (λ_ ae=>[(0,vp b0 0),(5,ae)]) (λaa _=>[(1,v1),(6,vi aa.2)]) o ?_ ?_ ?_;exact⟨n_,(j.cA aU 41).sp 8 (f0 2 6 [1,0])⟩;rintro aa fl _ w⟨af,O,rfl,j⟩o;refine BY<|w_<|aS aa.2<|mv v1<|WH 6 p1 j yz<|ic aa.2 ((p1.length:Int))<|AI<|cY o (λo=>?_) λo=>?_;refine WV<|W2<|mv (vp b0 0)<|mv v1<|aS aa.2<|q_ o λak al o=>WC 6 j oV al λaw j=>WT 0 ak j tk λax j=>?_;have j:=(((((j.dup 7 rfl).dup 7 rfl).dup 7 rfl).dup 7 rfl).dup 7 rfl).pull 7;refine q_ o λan ao o=>WK (gu Tryz.func41) (vh N (i1:=0) j zr ao) λw j=>Xk an<|AI<|q_ o λag hj o=>WS (λ(ag:Z aU)U w=>∃ad:aX,SH E V [(0,vp b0 0),(1,v1),(5,ad),(6,vi aa.2)] [bc 111 b0 [f_,h_,a_,d_,g_,b_,e_,i_],rd a_ k_,rd d_ p_,rd g_ t_,rd b_ j_,rd i_ u_,rd v1 p1,own 41 ad ag] U w) ag ?_ ?_;refine cY hj (λhj=>?_) λhj=>?_;refine IN<|mv af<|mv v1<|aS aa.2<|q_ hj λah aq hj=>WC 9 j oV aq λay j=>WT 0 ah j tk λar j=>Xh ([ah]:Z aU) j [ar] oV yy (λ_ _=>mm) λaz w j=>?_;have j:=j.freeze 0;refine q_ hj λa0 au hj=>Xp 13 0 j GY au λai w j=>?_;exact cR ai<|By<|oi hj▸⟨rfl,ai,j.sp 14 (3::f0 7 7 [])⟩;exact W6<|oi hj▸⟨rfl,af,j.sp 11 (0::f0 4 7 [])⟩;rintro _ w⟨ad,O,rfl,j⟩;refine bG<|aC<|IN<|aS aa.2<|WG aa.2 1<|aK (cG<|aa.2+1)<|By ?_;exact oi o▸⟨rfl,ad,j.sp 8 (f0 0 8 [])⟩;exact W3<|oi o▸⟨rfl,af,j.sp 8 (f0 0 8 [])⟩;rintro aa _ w o⟨aj,O,rfl,j⟩;refine aC<|w_<|mv aj<|cR aj<|AI<|WM ?_;obtain rfl:=oi o;exact bT<|j.pk 8 [7,0]
end Go.Gk
namespace Go.Gk
open Go IntKind Go.Proofs
variable (N:Nat){E w:aY}{b0 b1 b1h i0 i1 i2 i3:Nat}{p0 p2 p3 res:Int}{v0 f_ h_ m_ l_ a_ d_ g_ b_ e_ i_ r_ o_ v1 a9_ b0_ b1_ b2_ b3_ b4_ b5_ a1_ b6_ b7_ b8_ b9_ v2 v3:aX}{V:Z HP}
theorem vj{p0:gZ}{p1:Z Test}{res:Z (Z aU)×Int}(o:Holds E w V)(h0:eo V i0 v0 p0)(h1:eo V i1 v1 p1)(hb:fu N p0 p1 p2=some res):
    c_ 7 [v0,v1,vi p2] w<|wR E V res:=by
 unfold fu at hb
 refine enter Tryz.func7 zr zr ?_
 have o:=(o.dup (i0+0) h0).dup (i1+1) h1
 refine w_<|Xb 1 v0 o zr λcr w o=>?_
 have o:=o.ig (i:=0) rfl
 refine cR n_<|aK 0<|WD<|Xz mixed [0,0,2,1,1,2,0,0,0,0,0,0,0] ([0,1,3,4,2]++f0 5 8 []) ?_
 have o:=o.drew
 refine WL zr zr<|WT 0 p0 o oe λct o=>aO zr<|mv v1<|WO<|XY p0 1 zr o oe λcu a34 cv o=>W0 (vi p2) zr (λw=>WE (vi p2) zt WY)<|Xn zr zr ?_
 obtain⟨b5,b6,hb⟩:=bd hb
 refine WK T2 (nO N (i0:=2) (i1:=4) o zr zr b6) λw o=>Xd (⟨zt,o.fU 0⟩)<|Xn zr zr ?_
 obtain⟨ax,b7,hb⟩:=bd hb
 refine WW Ua (rT N (p0:=b5) (p2:=p2) (i1:=1) o zr b7) ?_
 rintro _ w hK50
 rcases bl:ax.1 with _|ab
 ·replace hb:=MV bl hb
  obtain⟨ba,rfl,o⟩:=Hh bl hK50
  refine Xd (⟨zt,o.fU 1⟩)<|WL zr zr<|mv (.tuple #[(.pointer none),ba,vi ax.2.2])<|aO zr<|Xm (.pointer none)<|aO zr<|Xm ba<|aO zr<|Xm (vi ax.2.2) ?_
  refine aO zr<|cR (.pointer none)<|aO zr<|cR ba<|aO zr<|aK ax.2.2<|WO ?_
  have o:=o.pl 7 [0,2,3,4,5,6]
  refine W7<|aC<|BY<|w_<|aS ax.2.2<|ic ax.2.2 0<|AI<|cY hb (λhb=>?_) λhb=>?_
  rotate_left
  ·cases hb
  refine w_<|aS ax.2.2<|cR n_<|aK ax.2.2<|AI<|W8 ?_
  obtain rfl:=oi hb
  have o:=o.cA (Z aU) 30
  exact lh ⟨n_,zr,o.pk 7 [0]⟩
 replace hb:=MW bl hb
 obtain⟨ar,az,a0,a1,a2,a3,a4,a5,a6,ba,rfl,o⟩:=Hi bl hK50
 refine Xd (⟨zt,o.fU 10⟩)<|WL zr zr<|mv (.tuple #[vp ar 0,ba,vi ax.2.2])<|aO zr<|Xm (vp ar 0)<|aO zr<|Xm ba<|aO zr<|Xm (vi ax.2.2) ?_
 refine aO zr<|cR (vp ar 0)<|aO zr<|cR ba<|aO zr<|aK ax.2.2<|WO ?_
 have o:=o.pl 16 [0,1,2,3,4,5,6,7,8,9,11,12,13,14,15]
 refine W7<|aC<|BY<|w_<|aS ax.2.2<|ic ax.2.2 0<|AI<|cY hb (λhb=>?_) λhb=>?_
 ·refine w_<|aS ax.2.2<|cR n_<|aK ax.2.2<|AI<|W8 ?_
  obtain rfl:=oi hb
  have o:=o.cA (Z aU) 30
  exact lh ⟨n_,zr,o.pk 16 [0]⟩
 refine XA<|mv (vp ar 0)<|mv v1 ?_
 have o:=((((((((o.sA aU).dup 9 rfl).dup 8 rfl).dup 8 rfl).dup 8 rfl).dup 8 rfl).dup 8 rfl).dup 8 rfl).pull 8
 obtain⟨cw,b8,hb⟩:=bd hb
 refine WW RZ (mY N (i1:=14) (i2:=0) o zr zr b8) λbr w o=>cR br<|IT<|mv (vp ar 0)<|mv ba ?_
 have o:=((((((o.freeze 12).dup 11 rfl).dup 10 rfl).dup 10 rfl).dup 10 rfl).dup 10 rfl).pull 6
 obtain⟨cx,b9,hb⟩:=bd hb
 refine WW (gu Tryz.func21) (vM N (i1:=12) o zr b9) λbt w o=>cR bt<|IT<|cR n_<|IT<|cR n_<|WD<|w_<|aK 0 ?_
 refine AI ?_
 obtain⟨cy,hN,hb⟩:=bd hb
 refine Yd (λ(ad:Z Bool×Z aU×Z (Z aU)×Z (Z Bool)×Int)U w=>∃(bu bw bx:aX)(us234:Z RV)(bz:aX),SH E V [(1,v1),(8,vp ar 0),(11,bu),(12,bw),(13,bx),(14,bz),(15,vi ad.2.2.2.2)] [rd v1 p1,bc 111 ar [az,a0,a1,a2,a3,a4,a5,a6],rd az ab.1,rd a0 ab.2.1,rd a1 ab.2.2.1,rd a2 ab.2.2.2.1,rd a3 ab.2.2.2.2.1,rd a4 ab.2.2.2.2.2.1,rd a5 ab.2.2.2.2.2.2.1,rd a6 ab.2.2.2.2.2.2.2,rd bu ad.1,rd bw ad.2.1,own 30 bx us234,gN (XS 41 aU) us234 ad.2.2.1 none,own 29 bz ad.2.2.2.1] U w) (λ(ad:Z Bool×Z aU×Z (Z aU)×Z (Z Bool)×Int)U w=>∃(bh:aX)(us237:Z RV),SH E V [(13,bh)] [rd v1 p1,bc 111 ar [az,a0,a1,a2,a3,a4,a5,a6],rd az ab.1,rd a0 ab.2.1,rd a1 ab.2.2.1,rd a2 ab.2.2.2.1,rd a3 ab.2.2.2.2.1,rd a4 ab.2.2.2.2.2.1,rd a5 ab.2.2.2.2.2.2.1,rd a6 ab.2.2.2.2.2.2.2,own 30 bh us237,gN (XS 41 aU) us237 ad.2.2.1 none] U w) (λ(r:Empty)_ _=>r.elim) hN ?_ ?_ ?_ ?_
 ·have o:=((((o.freeze 2).freeze 0).zR<|XS 41 aU).cA RV 30).cA (Z Bool) 29
  exact⟨br,bt,n_,([]:Z RV),n_,o.sp 23 (21::4::f0 9 8 [5,3,1,2,0])⟩
 ·rintro ad fl _ w⟨a7,ay,bb,us241,a8,O,rfl,o⟩hb
  refine BY<|w_<|aS ad.2.2.2.2<|mv ay<|WH 11 ad.2.1 o yz<|ic ad.2.2.2.2 ((ad.2.1.length:Int))<|AI<|cY hb (λhb=>?_) λhb=>?_
  rotate_left
  ·refine W3 ?_
   obtain rfl:=oi hb
   exact⟨rfl,bb,us241,o.sp 15 (f0 0 10 [12,13])⟩
  refine WV<|W2<|mv (vp ar 0)<|mv v1<|mv ay<|aS ad.2.2.2.2<|aS ad.2.2.2.2<|WG ad.2.2.2.2 1 ?_
  obtain⟨cz,cc,hb⟩:=bd hb
  refine X8 11 o oV cc λc0 o=>?_
  have o:=(((((((o.dup 10 rfl).dup 9 rfl).dup 9 rfl).dup 9 rfl).dup 9 rfl).dup 9 rfl).dup 9 rfl).pull 9
  obtain⟨bn,cd,hb⟩:=bd hb
  refine WW RZ (mY N (i1:=1) (i2:=0) o zr zr cd) λa9 w o=>cR a9<|WD<|w_<|mv a9<|mv a7 ?_
  have o:=o.freeze 0
  obtain⟨c1,cf,hb⟩:=bd hb
  refine WK R0 (lB N (i0:=0) (i1:=13) o zr zr cf) λw o=>AI<|cY hb (λhb=>?_) λhb=>?_
  ·refine W3<|C0<|aC<|IN<|aS ad.2.2.2.2<|WG ad.2.2.2.2 1<|aK (cG<|ad.2.2.2.2+1)<|By ?_
   obtain rfl:=oi hb
   exact⟨rfl,a7,ay,bb,us241,a8,o.sp 18 (3::1::f0 5 13 [])⟩
  refine XA<|aK 0<|WD<|XQ E V (λ(ae:Int)=>[rd v1 p1,bc 111 ar [az,a0,a1,a2,a3,a4,a5,a6],rd az ab.1,rd a0 ab.2.1,rd a1 ab.2.2.1,rd a2 ab.2.2.2.1,rd a3 ab.2.2.2.2.1,rd a4 ab.2.2.2.2.2.1,rd a5 ab.2.2.2.2.2.2.1,rd a6 ab.2.2.2.2.2.2.2,rd a7 ad.1,rd ay ad.2.1,own 30 bb us241,gN (XS 41 aU) us241 ad.2.2.1 none,own 29 a8 ad.2.2.2.1,rd a9 bn]) (λae=>[(1,v1),(8,vp ar 0),(11,a7),(12,ay),(13,bb),(14,a8),(15,vi ad.2.2.2.2),(16,a9),(17,vi ae)]) (λ_=>[]) hb ?_ ?_ ?_
  ·exact o.sp 18 (3::1::f0 5 13 [0])
  ·rintro ae fl _ w⟨O,rfl,o⟩hb
   refine BY<|BY ?_
   obtain⟨bo,hj,hb⟩:=bd hb
   refine WS (λ(bo:Bool)=>SH E V [(1,v1),(8,vp ar 0),(11,a7),(12,ay),(13,bb),(14,a8),(15,vi ad.2.2.2.2),(16,a9),(17,vi ae),(66,vb bo)] [rd v1 p1,bc 111 ar [az,a0,a1,a2,a3,a4,a5,a6],rd az ab.1,rd a0 ab.2.1,rd a1 ab.2.2.1,rd a2 ab.2.2.2.1,rd a3 ab.2.2.2.2.1,rd a4 ab.2.2.2.2.2.1,rd a5 ab.2.2.2.2.2.2.1,rd a6 ab.2.2.2.2.2.2.2,rd a7 ad.1,rd ay ad.2.1,own 30 bb us241,gN (XS 41 aU) us241 ad.2.2.1 none,own 29 a8 ad.2.2.2.1,rd a9 bn]) bo ?_ ?_
   ·refine IN<|aS ae<|mv a8<|XD (i:=14) (l:=ad.2.2.2.1) zt zr o zr zr Ul<|ic ae ((ad.2.2.2.1.length:Int))<|eX (mr<|ae<(ad.2.2.2.1.length:Int))<|dT hj (λau hj=>?_) λau hj=>?_
    rotate_left
    ·refine aZ au<|aZ au<|aZ au<|aZ au<|aZ au<|aZ au<|aZ au<|dQ au (vb false)<|By ?_
     obtain rfl:=oi hj
     exact⟨rfl,o.sp 16 (f0 0 16 [])⟩
    refine WE a8 (cg au)<|WE (vi ae) (cg au) ?_
    obtain⟨c2,b0,hj⟩:=bd hj
    refine W1 14 o zr zr Um b0<|X4 (hg:=cg au) 14 o b0 R1 λc3 o=>?_
    refine WE a9 (cg au) ?_
    obtain⟨b1,ch,hj⟩:=bd hj
    refine WK R0 (lB N (i0:=0) (i1:=16) o zr zr ch) λw o=>Xk b1<|dQ au (vb<|!b1)<|By ?_
    obtain rfl:=oi hj
    exact⟨rfl,o.sp 17 (f0 1 16 [])⟩
   rintro _ w⟨O,rfl,o⟩
   refine aC<|cY hb (λhb=>?_) λhb=>?_
   rotate_left
   ·refine W3 ?_
    obtain rfl:=oi hb
    exact⟨rfl,o.sp 16 (f0 0 16 [])⟩
   refine XR<|Xt<|IN<|aS ae<|WG ae 1<|aK (cG<|ae+1)<|By<|bG ?_
   obtain rfl:=oi hb
   exact⟨rfl,o.sp 16 (f0 0 16 [])⟩
  rintro ae _ w hb⟨O,rfl,o⟩
  refine aC<|BY<|w_<|aS ae<|mv a8<|XD (i:=14) (l:=ad.2.2.2.1) zt zr o zr zr Ul<|ic ae ((ad.2.2.2.1.length:Int))<|AI ?_
  obtain⟨aq,hj,hb⟩:=bd hb
  refine WS (λ(aq:Z (Z aU)×Z (Z Bool))U w=>∃(aw:aX)(us285:Z RV)(bj:aX),SH E V [(1,v1),(8,vp ar 0),(11,a7),(12,ay),(13,aw),(14,bj),(15,vi ad.2.2.2.2),(17,vi ae)] [rd v1 p1,bc 111 ar [az,a0,a1,a2,a3,a4,a5,a6],rd az ab.1,rd a0 ab.2.1,rd a1 ab.2.2.1,rd a2 ab.2.2.2.1,rd a3 ab.2.2.2.2.1,rd a4 ab.2.2.2.2.2.1,rd a5 ab.2.2.2.2.2.2.1,rd a6 ab.2.2.2.2.2.2.2,rd a7 ad.1,rd ay ad.2.1,own 30 aw us285,gN (XS 41 aU) us285 aq.1 none,own 29 bj aq.2] U w) aq ?_ ?_
  ·refine cY hj (λhj=>?_) λhj=>?_
   rotate_left
   ·refine W6 ?_
    obtain rfl:=oi hj
    exact⟨rfl,bb,us241,a8,o.sp 16 (f0 0 15 [])⟩
   refine w_<|mv a8<|mv a9<|Xh ([bn]:Z (Z Bool)) o [a9] Um VJ (λM hs g=>⟨(g.sat 15 _ zr).1,zt⟩) λc4 w o=>?_
   have o:=o.freeze 0
   obtain⟨c5,cj,hj⟩:=bd hj
   refine Xp 15 0 o VK cj λb2 w o=>?_
   refine cR b2<|AI<|IN<|mv bb ?_
   have o:=(o.cA aU 41).DS (i:=0) rfl
   refine Xh ([rv<|.slice none 0 0]:Z RV) o [n_] JY Uj (λ_ _=>mm) λc6 w o=>?_
   obtain⟨c7,ck,hj⟩:=bd hj
   have o:=o.freeze 0
   refine YJ 16 0 17 2 zr o zr zr zr zr zr zr Uk ck λb3 w o=>?_
   refine cR b3<|By ?_
   obtain rfl:=oi hj
   exact⟨rfl,b3,us241++[rv<|.slice none 0 0],b2,o.sp 20 (f0 4 15 [])⟩
  rintro _ w⟨aw,us285,bj,O,rfl,o⟩
  refine aC ?_
  obtain⟨c8,bm,hb⟩:=bd hb
  obtain⟨bf,cm,hb⟩:=bd hb
  obtain⟨bg,cn,hb⟩:=bd hb
  obtain⟨c9,bp,hb⟩:=bd hb
  refine XZ E V mixed [1,1,1,1,0,0,1,1,0,0,0,0,0,0] [8,9,10,11,13] (λ(x:aX×aX×aX×aX)=>(λao al ak ah=>[(0,80,aw),(1,81,vi ae),(2,82,aw),(3,83,vi ae),(4,84,AO aw (mL ae) 1 0),(5,85,(us285.getD (mL ae) zS).v),(6,86,ay),(7,87,vi ad.2.2.2.2),(8,88,ao),(9,89,al),(10,90,ak),(11,91,ah),(12,92,AO aw (mL ae) 1 0)]) x.1 x.2.1 x.2.2.1 x.2.2.2) [(1,v1),(8,vp ar 0),(11,a7),(12,ay),(13,aw),(14,bj),(15,vi ad.2.2.2.2),(17,vi ae)] [] (λ(D:Nat->Bool)(x:aX×aX×aX×aX)=>(λao al ak ah=>[bif D 0 then pt ao bf else bH,bif D 1 then rd al bf else bH,bif D 3 then rd ak ([bf]:Z aU)else(bif D 2 then own 41 ak ([bf]:Z aU)else bH),bif D 4 then bH else(bif D 3 then own 41 ah bg else bH),rd v1 p1,bc 111 ar [az,a0,a1,a2,a3,a4,a5,a6],rd az ab.1,rd a0 ab.2.1,rd a1 ab.2.2.1,rd a2 ab.2.2.2.1,rd a3 ab.2.2.2.2.1,rd a4 ab.2.2.2.2.2.1,rd a5 ab.2.2.2.2.2.2.1,rd a6 ab.2.2.2.2.2.2.2,rd a7 ad.1,rd ay ad.2.1,bif D 4 then own 30 aw (us285.set (mL ae)<|rv ah)else own 30 aw us285,bif D 4 then gN (XS 41 aU) (us285.set (mL ae)<|rv ah) (aq.1.set (mL ae) bg) none else(bif D 3 then gN (XS 41 aU) us285 aq.1 (some<|mL ae)else gN (XS 41 aU) us285 aq.1 none),own 29 bj aq.2]) x.1 x.2.1 x.2.2.1 x.2.2.2) (λx=>by kernel_rfl) ?_ ⟨λ_=>iJ gn,λ_=>iJ gn,λ_=>iJ gn,λ_=>iJ gn,?_,?_,λ_=>iJ gn,λ_=>iJ gn,?_,?_,?_,?_,?_,?_,trivial⟩ ?_
  ·have o:=((((o.drew).bH).bH).bH).bH
   exact⟨(undef,undef,undef,undef),eH.none,GQ zr,zt,o⟩
  ·rintro D U w hD ai ag⟨⟨ao,al,ak,ah⟩,hv,ha,_,o⟩
   obtain⟨O,rfl⟩:=hv.o2 2 3 ai
   have o:=((o.bU 16<|nh ag hD 13).bU 17<|nh ag hD 13).bU 17<|nf<|λh=>ft hD<|(ag 5 _ rfl<|(ag 11 _ rfl h).1 rfl).1 rfl
   have hl309:=o.eA 17
   have hr310:=eZ zS hl309 bm
   refine W1 16 o zr zr JY hr310 ?_
   have o:=(o.eC 16 (D 13) (nh ag hD 13)<|own 30 aw<|us285.set (mL ae)<|rv ah).eC 17 (D 11) (nf<|λh=>ft hD<|(ag 5 _ rfl<|(ag 11 _ rfl h).1 rfl).1 rfl)<|gN (XS 41 aU) us285 aq.1<|some<|mL ae
   have o:=o.eC 17 (D 13) (nh ag hD 13)<|gN (XS 41 aU) (us285.set (mL ae)<|rv ah) (aq.1.set (mL ae) bg) none
   exact WQ (ao,al,ak,ah) 4 hv ha o
  ·rintro D U w hD ai ag⟨⟨ao,al,ak,ah⟩,hv,ha,_,o⟩
   obtain⟨O,rfl⟩:=hv.o1 4 ai
   have o:=((o.bU 16<|nh ag hD 13).bU 17<|nh ag hD 13).bU 17<|nh ag hD 11
   have hl311:=o.eA 17
   have hr312:=eZ zS hl311 bm
   refine Yu 16 17 ae (yk 41 aU) zS o (r7 16 o hr312 0) zr zr bm Ey ?_
   have o:=(o.eC 16 (D 13) (nh ag hD 13)<|own 30 aw<|us285.set (mL ae)<|rv ah).eC 17 (D 11) (nh ag hD 11)<|gN (XS 41 aU) us285 aq.1<|some<|mL ae
   have o:=o.eC 17 (D 13) (nh ag hD 13)<|gN (XS 41 aU) (us285.set (mL ae)<|rv ah) (aq.1.set (mL ae) bg) none
   exact WQ (ao,al,ak,ah) 5 hv ha o
  ·rintro D U w hD ai ag⟨⟨ao,al,ak,ah⟩,hv,ha,_,o⟩
   obtain⟨O,rfl⟩:=hv.o2 6 7 ai
   have o:=o.bU 0 hD
   refine WC 15 o oV cm λcp o=>?_
   have o:=o.nw 0
   exact WQ (cp,al,ak,ah) 8 hv ha o
  ·rintro D U w hD ai ag⟨⟨ao,al,ak,ah⟩,hv,ha,_,o⟩
   obtain⟨O,rfl⟩:=hv.o1 8 ai
   have o:=(o.dS 0<|ai.1 rfl).bU 1 hD
   refine WT 0 bf o tk λcq o=>?_
   have o:=((o.pl 20 [1,0,3,4,5,6,7,8,9,10,11,12,13,14,15,16,17,18,19]).cX 0 (D 8) (ai.1 rfl) bH).cX 1 true rfl bH
   exact WQ (ao,cq,ak,ah) 9 hv ha o
  ·rintro D U w hD ai ag⟨⟨ao,al,ak,ah⟩,hv,ha,_,o⟩
   obtain⟨O,rfl⟩:=hv.o1 9 ai
   have o:=((o.dS 1<|ai.1 rfl).bU 2<|nh ag hD 11).bU 2 hD
   refine Xh ([bf]:Z aU) o [al] oV yy (λM hs g=>⟨(g.sat 1 _ zr).1,zt⟩) λb4 w o=>?_
   have o:=(((o.pl 20 [1,2,0,4,5,6,7,8,9,10,11,12,13,14,15,16,17,18,19]).cX 1 (D 9) (ai.1 rfl) bH).cX 2 true rfl bH).eC 2 (D 11) (nh ag hD 11)<|rd b4 ([bf]:Z aU)
   exact WQ (ao,al,b4,ah) 10 hv ha o
  ·rintro D U w hD ai ag⟨⟨ao,al,ak,ah⟩,hv,ha,_,o⟩
   obtain⟨O,rfl⟩:=hv.o2 5 10 ai
   have o:=(((((((o.bU 2 hD).dS 2<|ai.2.1 rfl).bU 3<|nh ag hD 13).bU 3 hD).bU 16<|nh ag hD 13).bU 17<|nh ag hD 13).bU 17 hD).Bg (j:=17) (jj:=ae) (yk 41 aU) zS rfl bm
   have o:=o.freeze 3
   refine Xp 0 3 o GY cn λbq w o=>?_
   have o:=((((o.pl 20 [1,2,3,0,5,6,7,8,9,10,11,12,13,14,15,16,17,18,19]).cX 2 true rfl (bif D 10 then own 41 ak ([bf]:Z aU)else bH)).cX 3 true rfl bH).eC 3 (D 13) (nh ag hD 13) bH).eC 16 (D 13) (nh ag hD 13)<|own 30 aw<|us285.set (mL ae)<|rv bq
   have o:=(o.cX 17 true rfl<|gN (XS 41 aU) us285 aq.1 none).eC 17 (D 13) (nh ag hD 13)<|gN (XS 41 aU) (us285.set (mL ae)<|rv bq) (aq.1.set (mL ae) bg) none
   exact WQ (ao,al,ak,bq) 11 hv ha o
  ·rintro D U w hD ai ag⟨⟨ao,al,ak,ah⟩,hv,ha,_,o⟩
   obtain⟨O,rfl⟩:=hv.o2 0 1 ai
   have o:=((o.bU 16<|nh ag hD 13).bU 17<|nh ag hD 13).dS 17<|ai.2.2.2.2.2.2.2.2.2.2.2.2.2.1 rfl
   have hl317:=o.eA 17
   have hr318:=eZ zS hl317 bp
   refine W1 16 o zr zr JY hr318 ?_
   have o:=((o.eC 16 (D 13) (nh ag hD 13)<|own 30 aw<|us285.set (mL ae)<|rv ah).cX 17 (D 11) (ai.2.2.2.2.2.2.2.2.2.2.2.2.2.1 rfl)<|gN (XS 41 aU) us285 aq.1 none).eC 17 (D 13) (nh ag hD 13)<|gN (XS 41 aU) (us285.set (mL ae)<|rv ah) (aq.1.set (mL ae) bg) none
   exact WQ (ao,al,ak,ah) 12 hv ha o
  ·rintro D U w hD ai ag⟨⟨ao,al,ak,ah⟩,hv,ha,_,o⟩
   obtain⟨O,rfl⟩:=hv.o2 12 11 ai
   have o:=((((o.bU 3 hD).dS 3<|ai.2.1 rfl).bU 16 hD).bU 17 hD).dS 17<|ai.2.1 rfl
   have hl319:=o.eA 17
   have hr320:=eZ zS hl319 bp
   refine Yt 16 17 3 ae (yk 41 aU) zS o zr (r7 16 o hr320 0) zr zr zr bp Ey λw o=>?_
   have o:=((o.cX 3 true rfl (bif D 11 then own 41 ah bg else bH)).cX 16 true rfl<|own 30 aw us285).cX 17 true rfl (bif D 11 then gN (XS 41 aU) us285 aq.1 (some<|mL ae)else gN (XS 41 aU) us285 aq.1 none)
   exact X7 (ao,al,ak,ah) hv ha o
  rintro D U w bk⟨⟨ao,al,ak,ah⟩,hv,ha,_,o⟩
  simp only[List.getD_cons_zero,List.getD_cons_succ,bk 8 (by decide),bk 9 (by decide),bk 11 (by decide),bk 13 (by decide),bk 13 (by decide),bk 13 (by decide),aP]at o
  obtain⟨O,rfl⟩:=ha.tF
  refine bG<|aC<|IN<|aS ad.2.2.2.2<|WG ad.2.2.2.2 1<|aK (cG<|ad.2.2.2.2+1)<|By ?_
  obtain rfl:=oi hb
  exact⟨rfl,a7,ay,aw,us285.set (mL ae)<|rv ah,bj,o.sp 19 (f0 4 15 [])⟩
 ·intro r _ _ _ _
  exact r.elim
 rintro ad _ w rfl⟨bh,us237,O,rfl,o⟩
 rw[Fo.BX]at hb
 refine aC<|w_<|mv bh<|cR bh<|aK 0<|AI<|WM ?_
 obtain rfl:=oi hb
 have o:=o.zT (X:=XS 41 aU) (b:=11) (j:=10) rfl (λM h u x cs=>(Ma 41) M h u x cs) rfl rfl (by decide)
 exact lh ⟨bh,zr,o.pk 12 [10]⟩
theorem tB{p0:Z aU}{p1:Z aU}{res:Bool}(j:Holds E w V)(h0:eo V i0 v0 p0)(h1:eo V i1 v1 p1)(o:mw N p0 p1=some res):c_ 8 [v0,v1] w<|aW E V res:=by
 unfold mw at o;refine enter Tryz.func8 zr zr ?_;have j:=(j.dup (i0+0) h0).dup (i1+1) h1;refine w_<|bX false<|WD<|w_<|mv v0<|WH 1 p0 j yz<|mv v1<|WH 0 p1 j yz<|ic ((p0.length:Int)) ((p1.length:Int))<|AI<|cY o (λo=>?_) λo=>?_;exact w_<|bX false<|AI<|W8<|oi o▸bT ⟨rfl,j.drop 2⟩;refine WV<|w_<|mv v0<|WH 1 p0 j yz<|aS 0<|AI<|XU E V (λ(ab:Unit)=>[rd v0 p0,rd v1 p1]) (λ_=>[]) (λaa _=>[(0,v0),(1,v1),(12,vi p0.length),(13,vi aa)]) (λr=>lf bI 26 Tryz.f8 (aW E V r) .ret) o ?_ ?_ ?_ ?_;exact j.sp 2 [1,0];rintro hm aa ab fl _ w hk⟨O,rfl,j⟩o;refine BY<|W2<|aS (aa:Int)<|aK (aa:Int)<|WD<|XF mixed ?_;have j:=j.drew;refine XE<|mv v0<|AS<|aS (aa:Int)<|AS<|q_ o λad ah o=>WC 0 j oV ah λal j=>AS<|WT 0 ad j tk λan j=>AS<|mv v1<|AS<|aS (aa:Int)<|AS ?_;refine q_ o λae ai o=>WC 3 j oV ai λao j=>AS<|WT 0 ae j tk λaq j=>AS<|Yw 2 0 ad ae zr j zr zr zr zr Q6 zr<|Xx<|aC<|cY o (λo=>?_) λo=>?_;exact w_<|bX false<|AI<|Xv<|bK<|oi o▸⟨rfl,bT ⟨rfl,j.drop 6⟩⟩;exact W6<|bG<|aC<|IN<|Xq hk hm<|aS ((aa+1:Nat):Int)<|By<|oi o▸⟨rfl,j.sp 6 [4,5]⟩;intro r U w o hK;exact bK<|oi o▸hK;rintro ab _ w o⟨O,rfl,j⟩;exact aC<|w_<|bX true<|AI<|WM<|oi o▸bT ⟨rfl,j.drop 2⟩
theorem qO{p0:Z (Z aU)}{p1:Z (Z aU)}{p2:Z aU->Z aU->aT Bool}{res:Bool}(j:Holds E w V)(h0:eo V i0 v0 p0)(h1:eo V i1 v1 p1)(h2:Qs bI E V v2 p2 (λ(r:Bool)=>Value.bool r))(o:gk N p0 p1 p2=some res):c_ 9 [v0,v1,v2] w<|aW E V res:=by
 unfold gk at o;refine enter Tryz.func9 zr zr ?_;have j:=(j.dup (i0+0) h0).dup (i1+1) h1;refine w_<|bX false<|WD<|w_<|mv v0<|WH 1 p0 j PT<|mv v1<|WH 0 p1 j PT<|ic ((p0.length:Int)) ((p1.length:Int))<|AI<|cY o (λo=>?_) λo=>?_;exact w_<|bX false<|AI<|W8<|oi o▸bT ⟨rfl,j.drop 2⟩;refine WV<|w_<|mv v0<|WH 1 p0 j PT<|aS 0<|AI<|XU E V (λ(ab:Unit)=>[rd v1 p1,rd v0 p0]) (λ_=>[]) (λaa _=>[(1,v1),(2,v2),(15,v0),(16,vi p0.length),(17,vi aa)]) (λr=>lf bI 32 Tryz.f9 (aW E V r) .ret) o ?_ ?_ ?_ ?_;exact j.sp 2 [0,1];rintro hm aa ab fl _ w hk⟨O,rfl,j⟩o;refine BY<|W2<|aS (aa:Int)<|q_ o λah ai o=>WC 1 j JY ai λar j=>WT 0 ah j Ey λad j=>aK (aa:Int)<|cR ad<|IT<|mv v1<|aS (aa:Int)<|q_ o λaj ak o=>WC 2 j JY ak λau j=>WT 0 aj j Ey λae j=>cR ae<|IT<|mv v2<|mv ad<|mv ae ?_;refine q_ o λal an o=>YF 2 0 zt zr j zr h2 6 zr zr zr zr zr an λw j=>Xk al<|AI<|cY o (λo=>?_) λo=>?_;exact w_<|bX false<|AI<|Xv<|bK<|oi o▸⟨rfl,bT ⟨rfl,j.drop 6⟩⟩;exact W6<|bG<|aC<|IN<|Xq hk hm<|aS ((aa+1:Nat):Int)<|By<|oi o▸⟨rfl,j.sp 6 [4,5]⟩;intro r U w o hK;exact bK<|oi o▸hK;rintro ab _ w o⟨O,rfl,j⟩;exact aC<|w_<|bX true<|AI<|WM<|oi o▸bT ⟨rfl,j.drop 2⟩
theorem uv{p0:Z aU}{p1:Z aU}{res:Bool}(j:Holds E w V)(h0:eo V i0 v0 p0)(h1:eo V i1 v1 p1)(o:gO N p0 p1=some res):c_ 10 [v0,v1] w<|aW E V res:=by
 unfold gO at o;refine enter Tryz.func10 zr zr ?_;have j:=(j.dup (i0+0) h0).dup (i1+1) h1;exact w_<|bX false<|IT<|mv v0<|mv v1<|q_ o λaa ab o=>WK Wj (tB N (i0:=1) (i1:=0) j zr zr ab) λw j=>bX aa<|AI<|WM<|oi o▸bT ⟨rfl,j.drop 2⟩
def yM(E:aY)(V:Z HP)(b1 b1h:Nat)(a9_ b0_:aX)(b3_ b4_:aX)(b5_ a1_:aX)(b6_ b7_:aX)(b8_ b9_:aX)(b1_ b2_:aX)(res:Bool)(v:aX)(w:aY):Prop:=v= vb res/\Holds E w ([bc 45 b1 [vp b1h 0],bc 93 b1h [a9_,b0_,b3_,b4_,b5_,a1_,b6_,b7_,b8_,b9_,b1_,b2_]]++V)
theorem ny{a7_:Z aD}{res:Bool}(j:Holds E w (bc 45 b1 [vp b1h 0]::bc 93 b1h [a9_,b0_,b3_,b4_,b5_,a1_,b6_,b7_,b8_,b9_,b1_,b2_]::rd a1_ a7_::V))(o:lk N p0 a7_=some res):c_ 79 [vi p0,vp b1 0] w<|yM E V b1 b1h a9_ b0_ b3_ b4_ b5_ a1_ b6_ b7_ b8_ b9_ b1_ b2_ res:=by
 unfold lk at o;refine enter Tryz.func79 zr zr<|w_<|bX false<|IT<|aS p0<|WN 0 (vp b1h 0) j Ex<|WZ zr<|AT zr tL<|WN 1 a1_ j Ev<|WH 2 a7_ j JS<|WG (a7_.length:Int) 1 ?_;exact q_ o λaa ab o=>WK RP (tO N (p0:=p0) (p1:=0) (p2:=cG<|(a7_.length:Int) - 1) j ab) λw j=>bX aa<|AI<|WM<|oi o▸bT ⟨rfl,j.pk 3 [0,1]⟩
theorem zk{p0:Z aU}{p1:aU}(j:Holds E w V)(h0:eo V i0 v0 p0)(h1:eo V i1 v1 p1)(o:rG N p0 p1=some res):c_ 116 [v0,v1] w<|aV E V res:=by
 unfold rG at o;refine enter Tryz.func116 zr zr ?_;have j:=(j.dup (i0+0) h0).dup (i1+1) h1;refine w_<|Xb 0 v1 j zr λab w j=>?_;refine aK 0<|WD<|w_<|mv v0<|WH 2 p0 j yz<|aS 0<|AI<|XU E V (λ(ad:Unit)=>[rd v0 p0,bx 41 ab p1]) (λ_=>[]) (λaa _=>[(0,v0),(3,vp ab 0),(7,vi p0.length),(8,vi aa)]) (λr=>lf bI 19 Tryz.f116 (aV E V r) .ret) o ?_ ?_ ?_ ?_;exact j.sp 3 [2,0];rintro hm aa ad fl _ w hk⟨O,rfl,j⟩o;refine BY<|W2<|aS (aa:Int)<|aK (aa:Int)<|WD<|XF mixed ?_;have j:=j.drew;refine XE<|Xc 1 j zr tk λak j=>AS<|mv v0<|AS<|aS (aa:Int)<|AS<|q_ o λae ah o=>WC 1 j oV ah λal j=>AS<|WT 0 ae j tk λan j=>AS<|Zb 2 0 p1 ae zt zr j zr zr zr zr Q6 zr<|Xx<|aC<|cY o (λo=>?_) λo=>?_;exact w_<|aS (aa:Int)<|aK (aa:Int)<|AI<|Xv<|bK<|oi o▸⟨rfl,bT ⟨rfl,j.drop 5⟩⟩;exact W6<|bG<|aC<|IN<|Xq hk hm<|aS ((aa+1:Nat):Int)<|By<|oi o▸⟨rfl,j.sp 5 [3,4]⟩;intro r U w o hK;exact bK<|oi o▸hK;rintro ad _ w o⟨O,rfl,j⟩;exact aC<|w_<|aK (-1)<|AI<|WM<|oi o▸bT ⟨rfl,j.drop 2⟩
theorem w9{p0:Z aU}{p1:aU}{res:Bool}(j:Holds E w V)(h0:eo V i0 v0 p0)(h1:eo V i1 v1 p1)(o:oQ N p0 p1=some res):c_ 80 [v0,v1] w<|aW E V res:=by
 unfold oQ at o;refine enter Tryz.func80 zr zr ?_;have j:=(j.dup (i0+0) h0).dup (i1+1) h1;refine w_<|Xb 0 v1 j zr λad w j=>?_;refine bX false<|IT<|mv v0<|Xc 0 j zr tk λae j=>?_;refine q_ o λaa ab o=>WK (gu Tryz.func116) (zk N (i0:=3) (i1:=0) j zr zr ab) λw j=>ic aa 0<|bX (mr<|aa>=0)<|AI<|WM ?_;exact oi o▸bT ⟨rfl,j.drop 4⟩
theorem AJ{v_:Z (Z aF)}{A_:Z aF}{k_:Z bV}{p_:Z dA}{t_:Z (Z aA)}{j_:Z aD}{s_:Z (Z Int)}{u_:Z bZ}{B_:Z Int}{C_:Z Int}{y_:Z Int}{x_:Z eB}{p1:Z aU}(j:Holds E w (bc 93 b0 [f_,h_,a_,d_,g_,b_,e_,i_,r_,o_,m_,l_]::rd f_ v_::rd h_ A_::rd a_ k_::rd d_ p_::rd g_ t_::rd b_ j_::rd e_ s_::rd i_ u_::rd r_ B_::rd o_ C_::rd m_ y_::rd l_ x_::V))(h1:eo V i1 v1 p1)(hb:pB N v_ A_ k_ p_ t_ j_ s_ u_ B_ C_ y_ x_ p1=some res):c_ 42 [vp b0 0,v1] w<|mc E V b0 f_ h_ a_ d_ g_ b_ e_ i_ r_ o_ m_ l_ res:=by
 unfold pB at hb;refine enter Tryz.func42 zr zr ?_;have j:=j.dup (i1+13) h1;refine w_<|Zc (vp b0 0) zt zr j zr zr λae w j=>?_;refine aK 0<|WD<|w_<|mv v1<|WH 1 p1 j yz<|ic ((p1.length:Int)) 20<|AI<|cY hb (λhb=>?_) λhb=>?_;exact w_<|aK 2<|AI<|W8<|oi hb▸bT ⟨rfl,j.pk 15 [2]⟩;refine XA<|Yk [vp ae 0]<|cR (.func (.func 79) #[] #[vp ae 0])<|WD<|w_<|mv v1<|WH 1 p1 j yz<|aS 0<|AI<|XU E V (λ(au:Unit)=>[bc 93 b0 [f_,h_,a_,d_,g_,b_,e_,i_,r_,o_,m_,l_],rd f_ v_,rd h_ A_,rd a_ k_,rd d_ p_,rd g_ t_,rd b_ j_,rd e_ s_,rd i_ u_,rd r_ B_,rd o_ C_,rd m_ y_,rd l_ x_,rd v1 p1,bc 45 ae [vp b0 0]]) (λ_=>[(0,vp b0 0)]) (λag _=>[(1,v1),(2,vp ae 0),(5,(.func (.func 79) #[] #[vp ae 0])),(13,v1),(14,vi p1.length),(15,vi ag)]) (λr=>lf bI 112 Tryz.f42 (mc E V b0 f_ h_ a_ d_ g_ b_ e_ i_ r_ o_ m_ l_ r) .ret) hb ?_ ?_ ?_ ?_;exact j.sp 15 (f0 2 13 [1,0]);rintro hm ag au fl _ w hk⟨O,rfl,j⟩hb;refine BY<|W2<|aS (ag:Int)<|q_ hb λo ay hb=>WC 13 j oV ay λbf j=>WT 0 o j tk λbg j=>Xl j yy.z λad w j=>?_;refine aK (ag:Int)<|Xg 0 j 1 zr tk λw j=>?_;refine WD<|BY<|q_ hb λal hj hb=>WS (λ(al:Bool)=>SH E V [(0,vp b0 0),(1,v1),(2,vp ae 0),(5,(.func (.func 79) #[] #[vp ae 0])),(6,vi ag),(7,vp ad 0),(13,v1),(14,vi p1.length),(15,vi ag),(42,vb al)] [bc 93 b0 [f_,h_,a_,d_,g_,b_,e_,i_,r_,o_,m_,l_],rd f_ v_,rd h_ A_,rd a_ k_,rd d_ p_,rd g_ t_,rd b_ j_,rd e_ s_,rd i_ u_,rd r_ B_,rd o_ C_,rd m_ y_,rd l_ x_,rd v1 p1,bc 45 ae [vp b0 0],bx 41 ad o]) al ?_ ?_;refine IN<|AT rfl xL<|WI 0 j rfl pF sW<|eX o.Open<|Xi true o.Open (vp ad 3) rfl rfl rfl (dE Dd)<|Xi true o.Open (vi o.A) rfl rfl rfl (bR 0 rfl j (by exact z_ (vp ad 3)) rfl uI cF)<|WU (vb<|o.A != 0) rfl rfl (sg .neq)<|WU (vb<|o.A != 0) rfl rfl nI<|Xo (vp ad 4) rfl rfl (dE De) ?_;refine Xo (vi o.B) rfl rfl (bR 0 rfl j (by exact z_ (vp ad 4)) rfl uJ cF)<|Xo (vb<|o.B != 0) rfl rfl (sg .neq)<|WU (vb<|(o.A != 0)||(o.B != 0)) rfl rfl Ss<|Xf (b:=o.Open) (v:=vb<|o.Open&&((o.A != 0)||(o.B != 0))) trivial rfl rfl (jI true)<|eX (o.Open&&((o.A != 0)||(o.B != 0)))<|dT hj (λah hj=>?_) λah hj=>?_;refine aZ ah<|aZ ah<|aZ ah<|aZ ah<|r9<|r9<|r9<|r9<|aZ ah<|dQ ah (vb true)<|By ?_;exact oi hj▸⟨rfl,j.sp 18 (f0 3 15 [0])⟩;refine AT zr xL<|WI 0 j zr pF sW<|Xk o.Open<|WE (vb<|!o.Open) (cg ah)<|dT hj (λai hj=>?_) λai hj=>?_;refine AT rfl Bq<|Xe 0 j rfl sE qj λbh j=>XB (⟨false,0⟩:eB) (cg ai) rfl j [] rfl Fj rfl (λM hs g=>by have h:=yo M;exact cE.nil h) λbj j=>?_;exact Yw (hg:=cg ai) 1 0 o.eB (⟨false,0⟩:eB) zr j zr zr zr zr Un zr<|dQ ai (vb<|!(mr<|o.eB=(⟨false,0⟩:eB))) (hg:=cg ah)<|dQ ah (vb<|!(mr<|o.eB=(⟨false,0⟩:eB)))<|By<|oi hj▸⟨rfl,j.sp 20 (f0 5 15 [2])⟩;exact aZ ai<|aZ ai<|aZ ai<|aZ ai<|dQ ai (vb false) (hg:=cg ah)<|dQ ah (vb false)<|By<|oi hj▸⟨rfl,j.sp 18 (f0 3 15 [0])⟩;rintro _ w⟨O,rfl,j⟩;refine aC<|cY hb (λhb=>?_) λhb=>?_;exact w_<|aK 3<|AI<|W8<|kC<|bK<|oi hb▸⟨rfl,bT ⟨rfl,j.pk 16 [0]⟩⟩;refine WV<|q_ hb λan hj hb=>WS (λ(an:Bool)=>SH E V [(0,vp b0 0),(1,v1),(2,vp ae 0),(5,(.func (.func 79) #[] #[vp ae 0])),(6,vi ag),(7,vp ad 0),(8,vb an),(13,v1),(14,vi p1.length),(15,vi ag)] [bc 93 b0 [f_,h_,a_,d_,g_,b_,e_,i_,r_,o_,m_,l_],rd f_ v_,rd h_ A_,rd a_ k_,rd d_ p_,rd g_ t_,rd b_ j_,rd e_ s_,rd i_ u_,rd r_ B_,rd o_ C_,rd m_ y_,rd l_ x_,rd v1 p1,bc 45 ae [vp b0 0],bx 41 ad o]) an ?_ ?_;refine IN<|mv (.func (.func 79) #[] #[vp ae 0])<|AT zr Dd<|WI 15 j zr uI cF ?_;have j:=((j.dup 6 rfl).pull 1).pull 16;refine q_ hj λaz a0 hj=>X9 [vp ae 0] R3 [vi o.A]<|gz (ny N (p0:=o.A) j a0) ?_;rintro _ w⟨rfl,j⟩;refine eX az<|dT hj (λaj hj=>?_) λaj hj=>?_;refine WE (.func (.func 79) #[] #[vp ae 0]) (cg aj)<|AT zr De<|WI 17 j zr uJ cF ?_;have j:=((j.dup 8 rfl).pull 2).pull 2;refine q_ hj λav a1 hj=>X9 (hg:=cg aj) [vp ae 0] R3 [vi o.B]<|gz (ny N (p0:=o.B) j a1) ?_;rintro _ w⟨rfl,j⟩;exact dQ aj (vb av)<|bX av<|By<|oi hj▸⟨rfl,j.sp 20 (1::f0 5 13 [0,19])⟩;exact aZ aj<|aZ aj<|aZ aj<|aZ aj<|dQ aj (vb false)<|bX false<|By<|oi hj▸⟨rfl,j.sp 18 (1::f0 3 13 [0,17])⟩;rintro _ w⟨O,rfl,j⟩;refine aC<|BY<|w_<|AT zr xL<|WI 15 j zr pF sW<|AI<|q_ hb λao hj hb=>WS (λ(ao:Bool)=>SH E V [(0,vp b0 0),(1,v1),(2,vp ae 0),(5,(.func (.func 79) #[] #[vp ae 0])),(6,vi ag),(7,vp ad 0),(8,vb ao),(13,v1),(14,vi p1.length),(15,vi ag)] [bc 93 b0 [f_,h_,a_,d_,g_,b_,e_,i_,r_,o_,m_,l_],rd f_ v_,rd h_ A_,rd a_ k_,rd d_ p_,rd g_ t_,rd b_ j_,rd e_ s_,rd i_ u_,rd r_ B_,rd o_ C_,rd m_ y_,rd l_ x_,rd v1 p1,bc 45 ae [vp b0 0],bx 41 ad o]) ao ?_ ?_;refine cY hj (λhj=>?_) λhj=>?_;refine IN<|mv (.func (.func 79) #[] #[vp ae 0])<|AT zr Bq<|AT zr qK<|WI (f:=(λx=>x.eB.Number)) 15 j zr (Fd.comp (f:=λ(x:aU)=>x.eB) (λ(x:eB)=>x.Number) sE lT) cF ?_;have j:=((j.dup 6 rfl).pull 1).pull 16;refine q_ hj λa2 a3 hj=>X9 [vp ae 0] R3 [vi o.eB.Number]<|gz (ny N (p0:=o.eB.Number) j a3) ?_;rintro _ w⟨rfl,j⟩;exact bX a2<|By<|oi hj▸⟨rfl,j.sp 18 (1::f0 3 13 [0,17])⟩;exact W6<|oi hj▸⟨rfl,j.sp 16 (f0 0 16 [])⟩;rintro _ w⟨O,rfl,j⟩;refine aC<|BY<|w_<|AT rfl xL<|WI 15 j rfl pF sW<|eX o.Open<|Xi true o.Open (vp ad 1) rfl rfl rfl (dE Bq)<|Xi true o.Open (vp ad 1) rfl rfl rfl (dE (hx:=λh=>by exact(jL h:cv (true&&(o.Open==true)) (vp ad 1)= vp ad 1)) wj)<|Xi true o.Open (vb o.eB.bV) rfl rfl rfl (bR (f:=(λx=>x.eB.bV)) 15 rfl j (by exact z_ (vp ad 1)) rfl (Fd.comp (f:=λ(x:aU)=>x.eB) (λ(x:eB)=>x.bV) sE qg) sW) ?_;refine Xf (b:=o.Open) (v:=vb<|o.Open&&o.eB.bV) zt zr zr (jI true)<|AI<|q_ hb λak hj hb=>WS (λ(ak:Bool)=>SH E V [(0,vp b0 0),(1,v1),(2,vp ae 0),(5,(.func (.func 79) #[] #[vp ae 0])),(6,vi ag),(7,vp ad 0),(8,vb ak),(13,v1),(14,vi p1.length),(15,vi ag)] [bc 93 b0 [f_,h_,a_,d_,g_,b_,e_,i_,r_,o_,m_,l_],rd f_ v_,rd h_ A_,rd a_ k_,rd d_ p_,rd g_ t_,rd b_ j_,rd e_ s_,rd i_ u_,rd r_ B_,rd o_ C_,rd m_ y_,rd l_ x_,rd v1 p1,bc 45 ae [vp b0 0],bx 41 ad o]) ak ?_ ?_;refine cY hj (λhj=>?_) λhj=>?_;refine q_ hj λaq hjj hj=>WS (λ(aq:Bool)=>SH E V [(0,vp b0 0),(1,v1),(2,vp ae 0),(5,(.func (.func 79) #[] #[vp ae 0])),(6,vi ag),(7,vp ad 0),(8,vb aq),(13,v1),(14,vi p1.length),(15,vi ag)] [bc 93 b0 [f_,h_,a_,d_,g_,b_,e_,i_,r_,o_,m_,l_],rd f_ v_,rd h_ A_,rd a_ k_,rd d_ p_,rd g_ t_,rd b_ j_,rd e_ s_,rd i_ u_,rd r_ B_,rd o_ C_,rd m_ y_,rd l_ x_,rd v1 p1,bc 45 ae [vp b0 0],bx 41 ad o]) aq ?_ ?_;refine Xz mixed (jn 25 20000000000) (f0 0 25 []) ?_;have j:=j.drew;refine WL zr zr<|AT zr Bq<|aO zr<|AT zr qK<|aO zr<|WI (f:=(λx=>x.eB.Number)) 15 j zr (Fd.comp (f:=λ(x:aU)=>x.eB) (λ(x:eB)=>x.Number) sE lT) cF<|aO zr<|WN 14 (vp b0 0) j Ex<|aO zr<|WZ zr<|aO zr<|AT zr rM<|aO zr<|AT zr gL<|aO zr<|WN 0 a_ j nM<|aO zr<|WH 3 k_ j wP ?_;refine aO zr<|WG (k_.length:Int) 1<|m7 zr<|q_ hjj λa4 a5 hjj=>WK RP (tO N (p0:=o.eB.Number) (p1:=0) (p2:=cG<|(k_.length:Int) - 1) j a5) λw j=>pC zr<|eX a4<|WO<|dT hjj (λaf hjj=>?_) λaf hjj=>?_;refine WL zr zr<|WN 14 (vp b0 0) j Ex<|aO zr<|WZ zr<|aO zr<|AT zr rM<|aO zr<|AT zr gL<|aO zr<|WN 0 a_ j nM<|aO zr<|AT zr Bq<|aO zr<|AT zr qK<|aO zr<|WI (f:=(λx=>x.eB.Number)) 15 j zr (Fd.comp (f:=λ(x:aU)=>x.eB) (λ(x:eB)=>x.Number) sE lT) cF<|aO zr ?_;refine q_ hjj λar a6 hjj=>WC 3 j tK a6 λbk j=>aO zr<|W5 0 j zr vU qY λbl j=>aO zr<|WX ar.fM 0 j sW<|aO zr<|dQ af (vb ar.fM)<|aO zr<|bX ar.fM<|WO<|W7 ?_;exact oi hjj▸⟨rfl,j.sp 18 (f0 2 16 [])⟩;refine WL zr zr<|aZ af<|aO zr<|aZ af<|aO zr<|aZ af<|aO zr<|aZ af<|aO zr<|aZ af<|aO zr<|aZ af<|aO zr<|aZ af<|aO zr<|aZ af<|aO zr<|aZ af ?_;refine aO zr<|aZ af<|aO zr<|aZ af<|aO zr<|dQ af (vb false)<|aO zr<|bX false<|WO<|W7 ?_;exact oi hjj▸⟨rfl,j.sp 16 (f0 0 16 [])⟩;rintro _ w⟨O,rfl,j⟩;exact oi hj▸⟨rfl,j.sp 16 (f0 0 16 [])⟩;exact W6<|oi hj▸⟨rfl,j.sp 16 (f0 0 16 [])⟩;rintro _ w⟨O,rfl,j⟩;refine aC<|W2<|eX ak<|Xk ak<|bX (!ak)<|AI<|cY hb (λhb=>?_) λhb=>?_;exact w_<|aK 9<|AI<|Xv<|kC<|bK<|oi hb▸⟨rfl,bT ⟨rfl,j.pk 16 [0]⟩⟩;refine w_<|AT rfl xL<|WI 15 j rfl pF sW<|Xk o.Open<|eX (!o.Open)<|Xi true (!o.Open) (vp ad 4) rfl rfl rfl (dE De)<|Xi true (!o.Open) (vi o.B) rfl rfl rfl (bR 15 rfl j (by exact z_ (vp ad 4)) rfl uJ cF)<|Xi true (!o.Open) (vp ad 3) rfl rfl rfl (dE Dd)<|Xi true (!o.Open) (vi o.A) rfl rfl rfl (bR 15 rfl j (by exact z_ (vp ad 3)) rfl uI cF) ?_;refine WU (vb<|o.B<=o.A) zr zr (sg .leq)<|Xf (b:=(!o.Open)) (v:=vb<|(!o.Open)&&mr (o.B<=o.A)) zt zr zr (jI true)<|bX ((!o.Open)&&mr (o.B<=o.A))<|AI<|cY hb (λhb=>?_) λhb=>?_;exact w_<|aK 8<|AI<|Xv<|kC<|bK<|oi hb▸⟨rfl,bT ⟨rfl,j.pk 16 [0]⟩⟩;refine BY<|Xz mixed (jn 6 20000) (f0 0 6 []) ?_;have j:=j.drew;refine WL zr zr<|mv v1<|aO zr<|aS (ag:Int)<|aO zr<|q_ hb λbm a7 hb=>X8 (hl:= .inr ⟨rfl,zr⟩) 13 j oV a7 λbn j=>aO zr<|Xc 16 j zr tk λbo j=>m7 zr<|q_ hb λa8 a9 hb=>WK (gu Tryz.func80) (w9 N (i0:=1) (i1:=0) j zr zr a9) λw j=>pC zr<|bX a8<|WO<|W7<|aC<|cY hb (λhb=>?_) λhb=>?_;exact w_<|aK 7<|AI<|Xv<|kC<|bK<|oi hb▸⟨rfl,bT ⟨rfl,j.pk 18 [2]⟩⟩;exact W6<|bG<|bG<|aC<|IN<|Xq hk hm<|aS ((ag+1:Nat):Int)<|By<|oi hb▸⟨rfl,j.sp 18 (f0 2 15 [])⟩;intro r U w hb hK;exact bK<|oi hb▸hK;rintro au _ w hb⟨O,rfl,j⟩;exact aC<|w_<|aK 0<|AI<|WM<|oi hb▸bT ⟨rfl,j.pk 15 [0]⟩
def Cy(E:aY)(V:Z HP)(res:Bool×Int)(v:aX)(w:aY):Prop:=v = .tuple #[vb res.1,vi res.2]/\Holds E w V
theorem BC{p0:gZ}{p1:Z aU}{p2 p3:eK}{res:Bool×Int}(j:Holds E w V)(h0:eo V i0 v0 p0)(h1:eo V i1 v1 p1)(h2:eo V i2 v2 p2)(h3:eo V i3 v3 p3)(o:k7 N p0 p1 p2 p3=some res):
    c_ 22 [v0,v1,v2,v3] w<|Cy E V res:=by
 unfold k7 at o
 refine enter Tryz.func22 zr zr ?_
 have j:=(((j.dup (i0+0) h0).dup (i1+1) h1).dup (i2+2) h2).dup (i3+3) h3
 refine w_<|Xb 3 v0 j zr λa0 w j=>?_
 have j:=j.ig (i:=0) rfl
 refine Xb 2 v2 j zr λa1 w j=>?_
 have j:=j.ig (i:=0) rfl
 refine Xb 2 v3 j zr λa2 w j=>?_
 have j:=j.ig (i:=0) rfl
 refine bX false<|aK 0<|IT<|WT 2 p0 j oe λa3 j=>?_
 obtain⟨ab,av,o⟩:=bd o
 refine WW Ty (zi N (i0:=0) j zr av) ?_
 rintro _ w hK51
 rcases ai:ab.1 with _|a4
 ·replace o:=MV ai o
  obtain⟨rfl,j⟩:=Hh ai hK51
  refine mv (.tuple #[(.pointer none),vi ab.2])<|Xm (.pointer none)<|Xm (vi ab.2)<|cR (.pointer none)<|aK ab.2<|WD<|w_<|aS ab.2<|ic ab.2 0 ?_
  refine AI<|cY o (λo=>?_) λo=>?_
  rotate_left
  ·cases o
  refine w_<|aS ab.2<|bX false<|aK ab.2<|AI<|W8 ?_
  obtain rfl:=oi o
  exact lh ⟨rfl,j.drop 8⟩
 replace o:=MW ai o
 obtain⟨af,a5,a6,a7,a8,a9,ba,bb,bc,bf,bg,bh,bj,rfl,j⟩:=Hi ai hK51
 refine mv (.tuple #[vp af 0,vi ab.2])<|Xm (vp af 0)<|Xm (vi ab.2)<|cR (vp af 0)<|aK ab.2<|WD<|w_<|aS ab.2<|ic ab.2 0 ?_
 refine AI<|cY o (λo=>?_) λo=>?_
 ·refine w_<|aS ab.2<|bX false<|aK ab.2<|AI<|W8 ?_
  obtain rfl:=oi o
  exact lh ⟨rfl,j.drop 21⟩
 refine WV<|w_<|mv (vp af 0)<|mv v1 ?_
 have j:=((((((((((((j.freeze 5).freeze 8).freeze 11).freeze 12).dup 12 rfl).dup 12 rfl).dup 12 rfl).dup 12 rfl).dup 12 rfl).dup 12 rfl).dup 12 rfl).dup 12 rfl).dup 12 rfl
 have j:=(((j.dup 12 rfl).dup 12 rfl).dup 12 rfl).pull 12
 obtain⟨ag,aw,o⟩:=bd o
 refine WK (gu Tryz.func42) (AJ N (i1:=19) j zr aw) λw j=>aK ag<|IT<|aS ag<|ic ag 0<|AI<|cY o (λo=>?_) λo=>?_
 ·refine w_<|aS ag<|bX false<|aK ag<|AI<|W8 ?_
  obtain rfl:=oi o
  exact lh ⟨rfl,j.drop 22⟩
 refine WV<|Xz mixed (jn 8 211200) [0,1,3,4,2,5,6,7] ?_
 have j:=j.drew
 refine WL zr zr<|WT 17 p0 j oe λbk j=>aO zr<|WT 17 p2 j pG λbl j=>WO<|XY p0 19 zr j oe λbm a56 bn j=>XY p3 19 zr j pG λbo a59 bp j=>Xn zr zr ?_
 obtain⟨ae,ax,o⟩:=bd o
 refine WK JU (jD N (i0:=5) (i1:=4) j zr zr ax) λw j=>Xd (⟨⟨zt,j.fU 2⟩,j.fU 0⟩)<|Xn zr zr ?_
 obtain⟨ah,ay,o⟩:=bd o
 refine WK JU (jD N (i0:=3) (i1:=1) j zr zr ay) λw j=>Xd (⟨⟨zt,j.fU 2⟩,j.fU 0⟩)<|WL zr zr<|aK ae<|aO zr<|aK ah<|WO ?_
 have j:=j.pl 28 [1,3,4,5,6,7,8,9,10,11,12,13,14,15,16,17,18,19,20,21,22,23,24,25,26,27]
 refine W7<|aC<|BY<|w_<|aS ae<|ic ae 0<|eX (mr<|ae<0)<|WU (vi ah) zr zr nI<|WU (vb<|ah<0) zr zr (sg .lss) ?_
 refine Xf (b:=mr<|ae<0) (v:=vb<|mr (ae<0)||mr (ah<0)) zt zr zr (pM true)<|AI<|cY o (λo=>?_) λo=>?_
 ·refine w_<|bX false<|aK 9<|AI<|W8 ?_
  obtain rfl:=oi o
  exact lh ⟨rfl,j.drop 26⟩
 refine XA<|mv (vp af 0)<|mv v1 ?_
 have j:=((((((j.dup 17 rfl).dup 17 rfl).dup 14 rfl).dup 14 rfl).dup 13 rfl).dup 13 rfl).pull 10
 obtain⟨bq,az,o⟩:=bd o
 refine WW PO (pK N (i1:=24) j zr az) λaj w j=>cR aj<|WD ?_
 obtain⟨ak,hj,o⟩:=bd o
 refine WS (λ(ak:Bool)=>SH E V [(8,vb ak),(9,vi 0)] []) ak ?_ ?_
 ·refine XF mixed ?_
  have j:=j.drew
  refine XE<|mv aj<|AS<|aS ae<|AS ?_
  obtain⟨ao,aq,hj⟩:=bd hj
  refine W1 0 j zr zr dJ aq<|AS<|XG 0 j aq cF<|AS<|ic ao 0<|AS<|eX (mr<|ao>=0)<|dT hj (λaa hj=>?_) λaa hj=>?_
  rotate_left
  ·refine AS<|aZ aa<|AS<|aZ aa<|AS<|aZ aa<|AS<|aZ aa<|AS ?_
   refine aZ aa<|AS<|aZ aa<|AS<|aZ aa<|AS<|aZ aa<|AS<|aZ aa ?_
   refine AS<|dQ aa (vb false)<|AS<|bX false<|AS<|aK 0<|Xx ?_
   obtain rfl:=oi hj
   exact⟨rfl,j.sp 28 []⟩
  refine AS<|WE aj (cg aa)<|AS<|WE (vi ae) (cg aa)<|AS ?_
  obtain⟨al,ar,hj⟩:=bd hj
  refine W1 0 j zr zr dJ ar<|AS<|XG 0 j ar cF<|AS<|WE aj (cg aa)<|AS<|WE (vi ah) (cg aa)<|AS ?_
  obtain⟨an,au,hj⟩:=bd hj
  refine W1 0 j zr zr dJ au<|AS<|XG 0 j au cF<|AS<|Xy al an (cg aa)<|AS<|dQ aa (vb<|al==an)<|AS<|bX (al==an) ?_
  refine AS<|aK 0<|Xx ?_
  obtain rfl:=oi hj
  exact⟨rfl,j.sp 28 []⟩
 rintro _ w⟨O,rfl,j⟩
 refine aC<|WM ?_
 obtain rfl:=oi o
 exact lh ⟨rfl,j.drop 0⟩
theorem xc{res:Bool}(j:Holds E w V)(hb:kI N=some res):c_ 11 [] w<|aW E V res:=by
 unfold kI at hb;refine enter Tryz.func11 zr zr<|w_<|bX false<|IT ?_;have j:=(j.sc Int 1).sc Int 1;refine XB (⟨0,0,1,1⟩:aF) trivial rfl j [(2,vi 1),(3,vi 1)] rfl GW rfl (λM hs g=>by have h:=uU M;exact cE.cons (f:=λ(x:aF)y=>{x with X1:=y}) h pD (g.sat 1 _ rfl).1 λ_ h=>cE.cons (f:=λ(x:aF)y=>{x with Y1:=y}) h qX (g.sat 0 _ rfl).1 λ_ h=>cE.nil h) λae j=>?_;refine Xh ([(⟨0,0,1,1⟩:aF)]:Z aF) j [ae] hU oH (λ_ _=>mm) λaf w j=>?_;have j:=j.freeze 0;refine Xh ([([(⟨0,0,1,1⟩:aF)]:Z aF)]:Z (Z aF)) j [af] wO PM (λ_ _=>mm) λad w j=>?_;have j:=(j.sc eJ ⟨[97]⟩).sc eJ ⟨[49]⟩;refine XB (⟨⟨[97]⟩,⟨[49]⟩,0,⟨0,0⟩⟩:dA) trivial rfl j [(0,str ⟨[97]⟩),(1,str ⟨[49]⟩)] rfl VM rfl (λM hs g=>by have h:=Rz M;exact cE.cons (f:=λ(x:dA)y=>{x with Part:=y}) h M1 (g.sat 1 _ rfl).1 λ_ h=>cE.cons (f:=λ(x:dA)y=>{x with eK:=y}) h M3 (g.sat 0 _ rfl).1 λ_ h=>cE.nil h) λag j=>?_;refine Xh ([(⟨⟨[97]⟩,⟨[49]⟩,0,⟨0,0⟩⟩:dA)]:Z dA) j [ag] Eu M5 (λ_ _=>mm) λaa w j=>YI [n_,n_,n_,n_] [ad,n_,n_,aa] zr [(0,ad),(3,aa)] zr VN ⟨iK 4 j,iK 0 j,zt⟩ zr<|Xl j VO.z λai w j=>?_;have j:=((((j.freeze 5).sA aF).sA bV).freeze 3).yS (cs:=[ad,n_,n_,aa]) (x:=(⟨([([(⟨0,0,1,1⟩:aF)]:Z aF)]:Z (Z aF)),([]:Z aF),([]:Z bV),([(⟨⟨[97]⟩,⟨[49]⟩,0,⟨0,0⟩⟩:dA)]:Z dA)⟩:gZ)) (λM hs g=>⟨[ad],[n_,n_,aa],rfl,jJ (g.sat 7 _ rfl).1,⟨[n_],[n_,aa],rfl,jJ (g.sat 1 _ rfl).1,⟨[n_],[aa],rfl,jJ (g.sat 0 _ rfl).1,jJ (g.sat 3 _ rfl).1⟩⟩⟩) rfl;refine Xg 3 j 0 zr oe λw j=>?_;refine IT<|Xc 3 j zr oe λaj j=>?_;have j:=(j.sc eJ ⟨[97]⟩).sc eJ ⟨[49]⟩;refine XB (⟨⟨[97]⟩,⟨[49]⟩⟩:eK) trivial rfl j [(0,str ⟨[97]⟩),(1,str ⟨[49]⟩)] rfl PI rfl (λM hs g=>by have h:=Mh M;exact cE.cons (f:=λ(x:eK)y=>{x with Part:=y}) h B9 (g.sat 1 _ rfl).1 λ_ h=>cE.cons (f:=λ(x:eK)y=>{x with eK:=y}) h Ca (g.sat 0 _ rfl).1 λ_ h=>cE.nil h) λak j=>?_;have j:=(j.sc eJ ⟨[97]⟩).sc eJ ⟨[49]⟩;refine XB (⟨⟨[97]⟩,⟨[49]⟩⟩:eK) trivial rfl j [(0,str ⟨[97]⟩),(1,str ⟨[49]⟩)] rfl PI rfl (λM hs g=>by have h:=Mh M;exact cE.cons (f:=λ(x:eK)y=>{x with Part:=y}) h B9 (g.sat 1 _ rfl).1 λ_ h=>cE.cons (f:=λ(x:eK)y=>{x with eK:=y}) h Ca (g.sat 0 _ rfl).1 λ_ h=>cE.nil h) λal j=>?_;have j:=j.sA aU;refine q_ hb λo ah hb=>WK (gu Tryz.func22) (BC N (i0:=7) (i1:=0) (i2:=4) (i3:=1) j zr zr zr zr ah) λw j=>mv (.tuple #[vb o.1,vi o.2])<|Xm (vb o.1)<|Xm (vi o.2)<|bX o.1<|aK o.2<|IT<|aS o.2<|ic o.2 0<|eX (o.2==0)<|WU (vb o.1) zr zr nI<|Xf (b:=o.2==0) (v:=vb<|(o.2==0)&&o.1) zt zr zr (jI true)<|bX ((o.2==0)&&o.1)<|AI<|WM ?_;exact oi hb▸bT ⟨rfl,j.drop 21⟩
theorem qx{p0:gZ}{p1:Z Test}{p2:Z Bool}{res:Bool}(o:Holds E w V)(h0:eo V i0 v0 p0)(h1:eo V i1 v1 p1)(h2:eo V i2 v2 p2)(hb:fS N p0 p1 p2 p3=some res):c_ 3 [v0,v1,v2,vi p3] w<|aW E V res:=by
 unfold fS at hb;refine enter Tryz.func3 zr zr ?_;have o:=((o.dup (i0+0) h0).dup (i1+1) h1).dup (i2+2) h2;refine w_<|Xb 2 v0 o zr λa2 w o=>?_;refine bX false<|IT<|Xc 0 o zr oe λa3 o=>mv v1<|mv v2<|aS p3<|q_ hb λae av hb=>WW (gu Tryz.func4) (Iy N (p3:=p3) (i0:=0) (i1:=3) (i2:=2) o zr zr zr av) ?_;rintro _ w⟨ak,rfl,o⟩;refine mv (.tuple #[ak,vi ae.2])<|Xm ak<|Xm (vi ae.2)<|cR ak<|aK ae.2<|IT<|Xc 2 o zr oe λa4 o=>mv v1<|mv v2<|aS p3<|q_ hb λaf aw hb=>WW (gu Tryz.func5) (yL N (p3:=p3) (i0:=0) (i1:=5) (i2:=4) o zr zr zr aw) ?_;rintro _ w⟨al,rfl,o⟩;refine mv (.tuple #[al,vi af.2])<|Xm al<|Xm (vi af.2)<|cR al<|aK af.2<|IT<|Xc 4 o zr oe λa5 o=>mv v1<|aS p3<|q_ hb λag ax hb=>WW (gu Tryz.func6) (Cx N (p2:=p3) (i0:=0) (i1:=7) o zr zr ax) ?_;rintro _ w⟨an,rfl,o⟩;refine mv (.tuple #[an,vi ag.2])<|Xm an<|Xm (vi ag.2)<|cR an<|aK ag.2<|IT<|Xc 6 o zr oe λa6 o=>mv v1<|aS p3<|q_ hb λah ay hb=>WW (gu Tryz.func7) (vj N (p2:=p3) (i0:=0) (i1:=9) o zr zr ay) ?_;rintro _ w⟨ao,rfl,o⟩;refine mv (.tuple #[ao,vi ah.2])<|Xm ao<|Xm (vi ah.2)<|cR ao<|aK ah.2<|WD<|q_ hb λar hj hb=>WS (λ(ar:Bool)=>SH E V [(8,vb ar)] []) ar ?_ ?_;refine IN<|mv ak<|mv al ?_;have o:=(o.freeze 6).freeze 4;refine q_ hj λaq az hj=>WK Wj (tB N (i0:=6) (i1:=4) o zr zr az) λw o=>eX aq<|WU (vi ae.2) zr zr nI<|WU (vi af.2) zr zr nI<|WU (vb<|ae.2==af.2) zr zr (sg .eql)<|Xf (b:=aq) (v:=vb<|aq&&(ae.2==af.2)) zt zr zr (jI true)<|eX (aq&&(ae.2==af.2))<|dT hj (λad hj=>?_) λad hj=>?_;refine WE an (cg ad)<|WE ao (cg ad) ?_;have o:=(o.freeze 2).freeze 0;refine q_ hj λai a0 hj=>WK (gu Tryz.func9) (qO N (i0:=2) (i1:=0) o rfl rfl ⟨10,[],rfl,(gu Tryz.func10),λw Γl v v' y0 y1 r i j o hi hj hr=>by exact gz (uv N (i0:=i) (i1:=j) o hi hj hr) λ_ _ h=>h⟩ a0) λw o=>dQ ad (vb ai)<|eX ai<|WU (vi ag.2) rfl rfl nI<|WU (vi ah.2) rfl rfl nI<|WU (vb<|ag.2==ah.2) rfl rfl (sg .eql)<|Xf (b:=ai) (v:=vb<|ai&&(ag.2==ah.2)) trivial rfl rfl (jI true)<|eX (ai&&(ag.2==ah.2))<|dT hj (λaj hj=>?_) λaj hj=>?_;exact q_ hj λau a1 hj=>WK (gu Tryz.func11) (xc N o a1) λw o=>dQ aj (vb au)<|bX au<|By<|oi hj▸⟨rfl,o.sp 12 []⟩;exact aZ aj<|dQ aj (vb false)<|bX false<|By<|oi hj▸⟨rfl,o.sp 12 []⟩;refine aZ ad<|aZ ad<|aZ ad<|dQ ad (vb false)<|eX false<|jY<|jY<|jY<|Xf (b:=false) (v:=vb false) zt zr zr zr<|eX false<|jY<|Xf (b:=false) (v:=vb false) zt zr zr zr<|bX false<|By ?_;exact oi hj▸⟨rfl,o.sp 12 []⟩;rintro _ w⟨O,rfl,o⟩;exact aC<|WM<|oi hb▸bT ⟨rfl,o.drop 0⟩
end Go.Gk
