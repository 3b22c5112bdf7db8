/- By a program of mine (gen.py): for each function a plain function and the proof that the code computes it. -/
import Derived.Test.YtklmnhcgjnglhaaGreatDoorVA
import Derived.Test.YtklmnhcgjnglhaaGreatDoorB2
import Derived.Test.YtklmnhcgjnglhaaGreatDoorW3
import Derived.Test.YtklmnhcgjnglhaaGreatDoorCX
open Option renaming bind_some->jd, some->V, none->U
open Bool renaming and_eq_true->je, not_eq_true'->jC, true->An, false->Cd, cond_true->Ci, cond_false->Cj
open Nat renaming le_refl->jf, zero_le->jW, le_trans->Ja, not_lt_zero->Jm
open List renaming length_append->jg, length_singleton->jh, getElem_mem->jm, length_map->jo, not_mem_nil->jI, mem_cons->jQ, map_append->jY, append_nil->Jb
open Int renaming toNat_natCast->jq, le_refl->jL, tdiv_eq_ediv_of_nonneg->jO, add_zero->Jk
open Go.Fw.Ev renaming bind->Ck, now->Cx, bindN->Cy
open Go.Fw.qA renaming bind->Cl, done->Cn, bindN->Co, succ->Cw, bindE->Cz
open Go.Fw.PV renaming done->Cr
open Go.Fw.SH renaming unfr->Cv, frm1->Da

namespace Go.Fw
open Go Go.Proofs Go.Proofs.Tryz
open Go.RowKit (Below)
open Ch renaming own->oW,box->oX,grp->oG
open qm renaming v->oV
open Go.Value renaming slice->oS
set_option maxRecDepth 100000
set_option maxHeartbeats 6400000
variable{n:Nat}{w:World}{cs1 cs2 cs3 cs4 cs5 cs6 cs7 cs8 cs9:List Value}
def qv(_:Nat)(Ce:qb)(Cf:Int):Option (Int×Int×Int):=bif decide (Cf<=1) then V (0,Ce.at_,Ce.seed) else bif decide (Ce.at_<(Ce.code.length:Int)) then(qG Ce.code Ce.at_).bind λa=>bif decide (Cf<=256) then(HD (qj a.val) Cf).bind λb=>V (b,qj (Ce.at_+1),Ce.seed) else(HD ((qj ((qj ((qj (Ce.seed*48271))+(qj a.val)))+1)).tmod 2147483647) Cf).bind λc=>V (c,qj (Ce.at_+1),(qj ((qj ((qj (Ce.seed*48271))+(qj a.val)))+1)).tmod 2147483647) else(HD (qj (((qj ((qj (Ce.seed*48271))+11)).tmod 2147483647).tdiv 7)) Cf).bind λd=>V (d,Ce.at_,(qj ((qj (Ce.seed*48271))+11)).tmod 2147483647)
abbrev xb(b:Nat)(s:qb)(p:Option Addr)(k:Nat)(a d:Int):Ch:=oX b [oL p s.code k,vi a,vi d] 114
abbrev xf(w0 w:World)(F:List Ch)(s:qb)(p:Option Addr)(k:Nat):Ch:=oG (old w0) (FS F) [vk s (aq s p k),same w0 w F]
theorem vA{n s w F}{Ce:qb}{a p1 p Cf}(f:SH s w (xb a Ce p1 p Ce.at_ Ce.seed::F))(i:qm.R w (Fr s F) Ce (aq Ce p1 p)){r:Int×Int×Int}(A:qv n Ce Cf=V r):yb prog 21 [vp a,vi Cf] w (λB w'=>B=[vi r.1]/\SH s w' (xb a Ce p1 p r.2.1 r.2.2::F)):=by
 have h:=Da f i;refine cz func21 Z (m:=76) Z Z (X0 10 Z (qn Z A ?_ ?_))<;>intro A
 .refine X0 4 Z ?_;obtain rfl:=qe A;exact ce qa [vi 0] ⟨Z,G⟩ ⟨Z,Cv 1 1 f h Z Z⟩
 refine qbm (rD (Y1 4 0 h Z ?_));refine Y1 4 0 h Z ?_;refine xz Z (dN h λ_ h=>qn Z A ?_ ?_)<;>intro A
 .refine aD (rD (Y1 4 0 h Z ?_));refine Y1 4 0 h Z ?_;obtain⟨_,_,A,g,_,_,_,_,l,o,rfl,k⟩:=(qF (h.grp 1 0 Z Z)).1.ix A;refine V9 l o ⟨g.1,qE g.2.1 (qF (h.grp 1 0 Z Z)).2⟩ Z (V8 0 k Z (xz Z (dN h λ_ h=>X1 9 0 h Z (zs 0 h Z λ_ h=>X0 7 Z (qn Z A ?_ ?_)))))<;>intro A
  .refine X0 4 Z ?_;obtain⟨x,b,A⟩:=qc A;obtain⟨t,b⟩:=vx b;refine dF (VW t b Z Z) Z (X0 2 Z ?_);obtain rfl:=qe A;exact ce qa [vi x] ⟨Z,G⟩ ⟨Z,Cv 1 1 f h Z Z⟩
  refine X1 15 0 h Z (zs 0 h Z λ_ h=>X1 8 0 h Z ?_);obtain⟨y,c,A⟩:=qc A;obtain⟨u,c⟩:=vx c;refine dF (VW u c Z Z) Z (X0 2 Z ?_);obtain rfl:=qe A;exact ce qa [vi y] ⟨Z,G⟩ ⟨Z,Cv 1 1 f h Z Z⟩
 refine X1 13 0 h Z (zs 0 h Z λ_ h=>X1 9 0 h Z ?_);obtain⟨z,d,A⟩:=qc A;obtain⟨v,d⟩:=vx d;refine dF (VW v d Z Z) Z (X0 2 Z ?_);obtain rfl:=qe A;exact ce qa [vi z] ⟨Z,G⟩ ⟨Z,Cv 1 1 f h Z Z⟩
theorem qeT{n m:Nat}{Q:Exit->Act->World->Prop}{k:List It}{e:fL}{c w:World}{F:List Ch}{all:Array Oper}{l:List Oper}{d ty:Nat}{ps:String}{u:Array Edge}{x:Operand}{o:Array Operand}{r:Array TypeId}{code:List (gW .u8)}{a s q i f g:Int}{t:Nat}{p1:Option Addr}{b:Nat}
  (h:SH c w (oX t [oL p1 code b,vi a,vi s] 114::F)) (y:dG w (Fr c F) code p1 b) (v:qv m ⟨code,a,s⟩ q=V (i,f,g)) (B:gq e x=V (.func (.func 21) #[] #[])) (p:pD e o.toList=V [vp t,vi q]) (A:Nat.blt d n=An)
  (z:∀w',SH c w' (oX t [oL p1 code b,vi f,vi g] 114::F)->bx prog n Q (.ops all l::k) ((d,vi i)::e) w'):bx prog n Q (.ops all (⟨V d,.call ⟨.value x,o,r⟩,ty,ps,u,U⟩::l)::k) e w:=by
 refine bO (cB 21 Z) (vA (Ce:=⟨code,a,s⟩) h ⟨[oL p1 code b],[vi a,vi s],Z,⟨_,_,Z,y⟩,⟨[vi a],[vi s],Z,Z,Z⟩⟩ v) B p Z A ?_;rintro w' _ ⟨rfl,h⟩;exact z w' h
theorem mv{n m:Nat}{Q:Exit->Act->World->Prop}{k:List It}{e:fL}{c w:World}{F:List Ch}{all:Array Oper}{l:List Oper}{d ty:Nat}{ps:String}{u:Array Edge}{x:Operand}{o:Array Operand}{r:Array TypeId}{z:qb}{a s q i f g:Int}{t:Nat}{p1:Option Addr}{b:Nat}
  (h:SH c w (xb t z p1 b a s::F)) (y:qm.R w (Fr c F) z (aq z p1 b)) (v:qv m ⟨z.code,a,s⟩ q=V (i,f,g)) (C:gq e x=V (.func (.func 21) #[] #[])) (p:pD e o.toList=V [vp t,vi q]) (B:Nat.blt d n=An)
  (A:∀w',SH c w' (xb t z p1 b f g::F)->bx prog n Q (.ops all l::k) ((d,vi i)::e) w'):bx prog n Q (.ops all (⟨V d,.call ⟨.value x,o,r⟩,ty,ps,u,U⟩::l)::k) e w:=qeT h (qF y).1 v C p B A
def ow(c:qQ)(b:Int):Nat->Bool->Bool->Int->Option (Bool×Bool×Int)|0,_,_,_=>U|n+1,b1,b2,a=>bif decide (a<(c.Bu.length:Int)) then bif ((qdc .and .i64 a b) != 0) then ow c b n b1 b2 (qj (a+1)) else(bif b1 then V An else(qG c.Bu a).bind λg=>(qG c.Bu (qj (a+b))).bind λh=>V (decide (g<h))).bind λb3=>bif b2 then ow c b n b3 An (qj (a+1)) else(qG c.Bu a).bind λd=>(qG c.Bu (qj (a+b))).bind λf=>ow c b n b3 (decide (d > f)) (qj (a+1)) else V (b1,b2,a)
def zf(n:Nat)(c:qQ)(pin:Int):Option Int:=(F6 1 (IntKind.wrap .u64 pin)).bind λb=>(ow c b n Cd Cd 0).bind λ(b1,b2,_)=>(bif b1 then V b2 else V Cd).bind λa=>bif a then V 3 else bif b1 then V 1 else bif b2 then V 2 else V 0
theorem LU{c:qQ}{pin}(v:Ro w c cs1){r:Int}(F:zf n c pin=V r):qN prog 266 [gv c cs1,vi pin] w r:=by
 obtain⟨p1,R,W,S,X,k3,rfl,_,_,l⟩:=aV v;refine zV 64 func266 Z λh=>db (qK h Z Z λ_ a h=>X0 11 Z ?_);obtain⟨Q,b,F⟩:=qc F;obtain⟨Y,b⟩:=LP b;refine dF (qbj Y Z Z) Z ?_;rw[b];refine X0 7 Z ?_;obtain⟨o1,F,u⟩:=qc F;refine qq (rL (λm e w'=>∃b1 b2 k,ow c Q m b1 b2 k=V o1/\e=[(2,vp a),(5,.bool b1),(6,.bool b2),(7,vi Q),(8,vi k)]/\SH w w' [oX a (qP c p1 W X R S k3) 106]) n ⟨_,_,_,F,Z,h⟩ Z ?_);rintro T _ _ ⟨b1,b2,k,F,rfl,h⟩;rcases T with _|T
 .cases F
 refine X1 9 0 h Z (qn Z F ?_ ?_)<;>intro F
 .refine X0 8 Z (dF (qdW Z Z Z) Z (X0 2 Z (qn Z F ?_ ?_)))<;>intro F
  .exact qy Z (X0 5 Z (rK ⟨_,_,_,F,Z,h⟩ Z))
  refine N7 ?_;obtain⟨o,g,_,F,d⟩:=bindE F;refine bw (λe w'=>∃b3,o b3=V o1/\e=[(2,vp a),(5,.bool b3),(6,.bool b2),(7,vi Q),(8,vi k)]/\SH w w' [oX a (qP c p1 W X R S k3) 106]) ?_ ?_
  .refine rD (xz Z (bu (t:=24) F Z ?_ ?_))<;>intro F
   .refine Y0 15 Z (dN h λ_ h=>?_);exact rH F d h Z
   refine Y1 4 0 h Z ?_;refine Y0 3 Z ?_;obtain⟨_,_,F,D,_,_,_,_,K,O,rfl,z⟩:=l.ix F;refine fU K O D Z (Y0 1 Z (dZ 0 z h Z (Y1 4 0 h Z ?_)));refine Y0 7 Z ?_;obtain⟨_,_,F,H,_,_,_,_,L,P,rfl,A⟩:=l.ix F;refine fU L P H Z (Y0 1 Z (dZ 0 A h Z (Y0 4 Z (dN h λ_ h=>?_))));exact rH F d h Z
  rintro _ _ ⟨b3,F,rfl,h⟩;subst g;refine rD (xz Z (bu (t:=40) F Z ?_ ?_))<;>intro F
  .exact Y0 15 Z (dN h λ_ h=>X0 6 Z (rK ⟨_,_,_,F,Z,h⟩ Z))
  refine Y1 4 0 h Z ?_;refine Y0 3 Z ?_;obtain⟨_,_,F,B,_,_,_,_,I,M,rfl,x⟩:=l.ix F;refine fU I M B Z (Y0 1 Z (dZ 0 x h Z (Y1 4 0 h Z ?_)));refine Y0 7 Z ?_;obtain⟨_,_,F,C,_,_,_,_,J,N,rfl,y⟩:=l.ix F;exact fU J N C Z (Y0 1 Z (dZ 0 y h Z (Y0 4 Z (dN h λ_ h=>X0 6 Z (rK ⟨_,_,_,F,Z,h⟩ Z)))))
 refine qy Z ?_;cases qe F;have F:=u;refine X0 3 Z ?_;obtain⟨p,i,_,F,f⟩:=bindE F;refine bw (λe w'=>∃s,p s=V r/\e=[(5,.bool b1),(6,.bool b2),(55,.bool s)]/\SH w w' []) ?_ ?_
 .refine X0 3 Z (qh (t:=57) F Z ?_ ?_)<;>intro F
  .refine X0 5 Z ?_;have h:=h.p [] Z;exact rH F f h Z
  refine X0 4 Z ?_;have h:=h.p [] Z;exact rH F f h Z
 rintro _ _ ⟨s,F,rfl,h⟩;subst i;refine qn Z F ?_ ?_<;>intro F
 .exact X0 4 Z (ri h F Z)
 refine X0 5 Z (qn Z F ?_ ?_)<;>intro F
 .exact X0 4 Z (ri h F Z)
 refine X0 5 Z (qn Z F ?_ ?_)<;>intro F
 .exact X0 4 Z (ri h F Z)
 exact X0 6 Z (ri h F Z)
def gR(s:qb)(step:Int):Nat->(List Int)->Int->Int->Int->Int->Option ((List Int)×Int×Int×Int×Int)|0,_,_,_,_,_=>U|n+1,x1,g,i8,f,a=>bif decide (a > 0) then(df x1 ([f]:List Int)).bind λh=>(qv n (⟨s.code,g,i8⟩:qb) step).bind λ(b,c,d)=>gR s step n h c d (qj ((qj (f+1))+b)) (qj (a-1)) else V (x1,g,i8,f,a)
def ou(n:Nat)(s:qb)(step:Int):Option ((List Int)×Int×Int):=(qv n (⟨s.code,s.at_,s.seed⟩:qb) step).bind λ(a,b,c)=>(qv n (⟨s.code,b,c⟩:qb) 3).bind λ(d,f,g)=>(gR s step n ([]:List Int) f g a (qj (1+d))).bind λ(x1,h,i8,_,_)=>V (x1,h,i8)
theorem wo{n g w F}{s:qb}{a p1 f step}(z:SH g w (xb a s p1 f s.at_ s.seed::F))(p:qm.R w (Fr g F) s (aq s p1 f)){r:(List Int)×Int×Int}(D:ou n s step=V r):yb prog 296 [vp a,vi step] w (λI w'=>∃S1 cs1,I=[oV (List Int) cs1]/\SH g w' (oW S1 (r.1:List Int) cs1::xb a s p1 f r.2.1 r.2.2::F)):=by
 have h:=Da z p;refine cz func296 Z (m:=30) Z Z (X0 6 Z (qt qa [] _ ([]:List Int) h z9 trivial Z λ_ _ _ h=>X0 6 Z ?_));have h:=h.p [1,0,2] Z;obtain⟨⟨_,_,_⟩,t,D⟩:=qc D;refine mv h (h.frG 2 0 1 Z Z Z) t Z Z Z λ_ h=>X0 6 Z ?_;obtain⟨⟨_,_,_⟩,u,D⟩:=qc D;refine mv h (h.frG 2 0 1 Z Z Z) u Z Z Z λ_ h=>X0 3 Z ?_;obtain⟨C,D,o⟩:=qc D;refine qq (rL (λm e w'=>∃y l d k x1 x H i c,gR s step m x1 x H i c=V C/\e=[(0,vp a),(1,vi step),(5,oS l d k),(6,vi i),(7,vi c)]/\SH g w' [xb a s p1 f x H,oW y (x1:List Int) [oS l d k],xf g w F s p1 f]) n ⟨_,_,_,_,_,_,_,_,_,D,Z,h⟩ Z ?_);rintro A _ _ ⟨y,l,d,k,x1,x,H,i,c,D,rfl,h⟩;obtain rfl:=(h.sl 1 Z).2;rcases A with _|A
 .cases D
 refine X0 6 Z (qn Z D ?_ ?_)<;>intro D
 .refine X0 7 Z (qt qa [.tmp 20] _ ([i]:List Int) h z9 ⟨Z,G⟩ Z λ_ _ _ h=>?_);obtain⟨_,b,D⟩:=qc D;obtain⟨B,b⟩:=qJ b;refine bn qa 2 h Z (h.sl 0 Z).1 (h.sl 0 Z).2 z9 B b Z λ_ _ _ _ h=>X0 7 Z ?_;have h:=h.p [1,0,2,3] Z;obtain⟨⟨_,_,_⟩,v,D⟩:=qc D;refine mv h (h.frG 3 0 1 Z Z Z) v Z Z Z λ_ h=>X0 9 Z ?_;exact rK ⟨_,_,_,_,_,_,_,_,_,D,Z,h.p [0,2,3] Z⟩ Z
 refine qy Z ?_;cases qe D;replace D:=o;refine X0 5 Z ?_;obtain rfl:=qe D;have h:=h.p [1,0,2] Z;exact ce qa [oV (List Int) [oL l x1 k]] ⟨Z,G⟩ ⟨_,_,Z,Cv 1 1 z h Z Z⟩
def kS(Ce:qb)(Cf:Int)(r1:List Int)(c:List Int):Nat->(List Int)->Int->Int->Int->Option ((List Int)×Int×Int×Int)|0,_,_,_,_=>U|n+1,x1,p,r,a=>bif decide (a<(qj ((r1.length:Int)*(c.length:Int)))) then(qv n (⟨Ce.code,p,r⟩:qb) 10).bind λ(i8,s,d)=>(HD a (c.length:Int)).bind λy=>(bif decide (y > 0) then(qG x1 (qj (a-1))).bind λu=>(qv n (⟨Ce.code,s,d⟩:qb) 20).bind λ(i,l,m)=>V (l,m,(if (qj (u+i)) > (qj (Cf+i8)) then(qj (u+i)) else(qj (Cf+i8)))) else V (s,d,qj (Cf+i8))).bind λ(f,g,b)=>bif decide (a>=(c.length:Int)) then(qG x1 (qj (a-(c.length:Int)))).bind λt=>(qv n (⟨Ce.code,f,g⟩:qb) 20).bind λ(h,k,i16)=>(df x1 ([(if (qj (t+h)) > b then(qj (t+h)) else b)]:List Int)).bind λv=>kS Ce Cf r1 c n v k i16 (qj (a+1)) else(df x1 ([b]:List Int)).bind λx=>kS Ce Cf r1 c n x f g (qj (a+1)) else V (x1,p,r,a)
def uO(n:Nat)(Ce:qb)(Cf:Int):Option (qU×Int×Int):=(ou n (⟨Ce.code,Ce.at_,Ce.seed⟩:qb) 60).bind λ(r1,b,c)=>(ou n (⟨Ce.code,b,c⟩:qb) 40).bind λ(a,d,f)=>(kS Ce Cf r1 a n ([]:List Int) d f 0).bind λ(x1,g,h,_)=>V ((⟨r1,a,x1⟩:qU),g,h)
theorem zU{n g w F}{Ce:qb}{a p1 d Cf}(h0:SH g w (xb a Ce p1 d Ce.at_ Ce.seed::F))(T:qm.R w (Fr g F) Ce (aq Ce p1 d)){r:qU×Int×Int}(hF:uO n Ce Cf=V r):yb prog 289 [vp a,vi Cf] w (λus w'=>∃S1 cs1,us=[oV qU cs1]/\SH g w' (oW S1 (r.1:qU) cs1::xb a Ce p1 d r.2.1 r.2.2::F)):=by
 have h:=Da h0 T;refine cz func289 Z (m:=66) Z Z (db (qi qa h Z Z Z λw1 b h=>X0 4 Z ?_));have h:=h.p [1,0,2] Z;obtain⟨⟨r1,L,N⟩,X,hF⟩:=qc hF;refine bO (cB 296 Z) (wo (s:=Ce) (step:=60) h (show qm.R _ _ (Ce:qb) _ from⟨[oL p1 Ce.code d],[vi Ce.at_,vi Ce.seed],Z,⟨_,_,Z,(qF (h.frG 2 0 1 Z Z Z)).1⟩,⟨[vi Ce.at_],[vi Ce.seed],Z,Z,Z⟩⟩) X) Z Z Z Z ?_;rintro _ _ ⟨S2,_,rfl,h⟩;obtain⟨v,t,rfl,-⟩:=h.own 0 Z;replace h:SH _ _ [oW S2 (r1:List Int) [oL v r1 t],xb a Ce p1 d L N,oX b WG 175,xf g w F Ce p1 d]:=h;refine X0 5 Z ?_;have h:=h.p [1,0,2,3] Z;obtain⟨⟨f,i3,i4⟩,Y,hF⟩:=qc hF;refine bO (cB 296 Z) (wo (s:=(⟨Ce.code,L,N⟩:qb)) (step:=40) h (show qm.R _ _ ((⟨Ce.code,L,N⟩:qb):qb) _ from⟨[oL p1 Ce.code d],[vi L,vi N],Z,⟨_,_,Z,(qF (h.frG 3 0 1 Z Z Z)).1⟩,⟨[vi L],[vi N],Z,Z,Z⟩⟩) Y) Z Z Z Z ?_;rintro _ _ ⟨Q,_,rfl,h⟩;obtain⟨y,k3,rfl,-⟩:=h.own 0 Z;replace h:SH _ _ [oW Q (f:List Int) [oL y f k3],xb a Ce p1 d i3 i4,oW S2 (r1:List Int) [oL v r1 t],oX b WG 175,xf g w F Ce p1 d]:=h;refine X0 4 Z (qt qa [] _ ([]:List Int) h z9 trivial Z λ_ _ _ h=>X0 13 Z ?_);obtain⟨o3,hF,S⟩:=qc hF;refine qq (rL (λm e w'=>∃R z u x x1 i5 i6 O,kS Ce Cf r1 f m x1 i5 i6 O=V o3/\e=[(0,vp a),(1,vi Cf),(4,vp b),(5,oL v r1 t),(6,oL y f k3),(7,oS z u x),(8,vi (f.length:Int)),(9,vi O)]/\SH g w' [oW R (x1:List Int) [oS z u x],oW Q (f:List Int) [oL y f k3],xb a Ce p1 d i5 i6,oW S2 (r1:List Int) [oL v r1 t],oX b WG 175,xf g w F Ce p1 d]) n ⟨_,_,_,_,_,_,_,_,hF,Z,h⟩ Z ?_);rintro m1 _ _ ⟨R,z,u,x,x1,i5,i6,O,hF,rfl,h⟩;obtain rfl:=(h.sl 0 Z).2;rcases m1 with _|m1
 .cases hF
 refine X0 10 Z (qn Z hF ?_ ?_)<;>intro hF
 .refine X0 7 Z ?_;have h:=h.p [2,0,1,3,4,5] Z;obtain⟨⟨_,_,_⟩,a3,hF⟩:=qc hF;refine mv h (h.frG 5 0 1 Z Z Z) a3 Z Z Z λ_ h=>X0 8 Z ?_;obtain⟨_,i,hF⟩:=qc hF;obtain⟨g1,i⟩:=vx i;refine dF (VW g1 i Z Z) Z (X0 2 Z ?_);obtain⟨P,B,_,hF,A⟩:=bindE hF;refine bw (λe w'=>∃o p c,P (o,p,c)=V o3/\e=[(0,vp a),(1,vi Cf),(4,vp b),(5,oL v r1 t),(6,oL y f k3),(7,oL z x1 x),(8,vi (f.length:Int)),(9,vi O),(10,vi c)]/\SH g w' [xb a Ce p1 d o p,oW R (x1:List Int) [oL z x1 x],oW Q (f:List Int) [oL y f k3],oW S2 (r1:List Int) [oL v r1 t],oX b WG 175,xf g w F Ce p1 d]) ?_ ?_
  .refine qn Z hF ?_ ?_<;>intro hF
   .refine rA [] [1] h Z λ_ h=>M0 15 [0,1,2,3] (h.p [1] Z) Z ?_;obtain⟨_,a7,hF,D,_,_,_,_,I,K,rfl,_⟩:=(h.sl 1 Z).1.ix hF;refine Ax 4 31 I K ⟨D.1,qE D.2.1 (h.sl 1 Z).2⟩ (h.p [1] Z) Z (Aw 5 63 (λw' hw=>da qa (qR (w1:=w) (S1:=λ_=>False) hw 0 Z a7 I K Z) (j:=0) Z Z Z) (h.p [1] Z) Z ?_);refine M0 127 [6] (h.p [1] Z) Z (Ao 7 255 Z ?_);obtain⟨⟨_,_,_⟩,a5,hF⟩:=qc hF;refine mv h (h.frG 5 0 1 Z Z Z) a5 Z Z Z λ_ h=>G0 2047 [8,9,10] (h.p [1] Z) Z (Ad ?_);cases qe hF;exact rG ⟨_,_,_,A,Z,h⟩ Z
   refine eZ ?_;cases qe hF;exact rG ⟨_,_,_,A,Z,h⟩ Z
  rintro _ _ ⟨o,p,c,hF,rfl,h⟩;subst B;refine X0 7 Z (qn Z hF ?_ ?_)<;>intro hF
  .refine rA [] [1] h Z λ_ h=>M0 31 [0,1,2,3,4] (h.p [1] Z) Z ?_;obtain⟨y2,a6,hF,C,_,_,_,_,H,J,rfl,_⟩:=(h.sl 1 Z).1.ix hF;refine Ax 5 63 H J ⟨C.1,qE C.2.1 (h.sl 1 Z).2⟩ (h.p [1] Z) Z (Aw 6 127 (λw' hw=>da qa (qR (w1:=w) (S1:=λ_=>False) hw 0 Z a6 H J Z) (j:=0) Z Z Z) (h.p [1] Z) Z ?_);refine M0 255 [7] (h.p [1] Z) Z (Ao 8 511 Z ?_);obtain⟨⟨M,_,_⟩,a4,hF⟩:=qc hF;refine mv h (h.frG 5 0 1 Z Z Z) a4 Z Z Z λ_ h=>G0 4095 [9,10,11] (h.p [1] Z) Z (Ad (X0 3 Z (qt qa [.tmp 59] _ ([(if (qj (y2+M)) > c then(qj (y2+M)) else c)]:List Int) h z9 ⟨Z,G⟩ Z λ_ _ _ h=>?_)));obtain⟨_,k,hF⟩:=qc hF;obtain⟨g2,k⟩:=qJ k;refine bn qa 2 h Z (h.sl 0 Z).1 (h.sl 0 Z).2 z9 g2 k Z λ_ _ _ _ h=>X0 8 Z ?_;exact rK ⟨_,_,_,_,_,_,_,_,hF,Z,h.p [2,3,1,4,5,6] Z⟩ Z
  refine X0 4 Z (qt qa [.tmp 59] _ ([c]:List Int) h z9 ⟨Z,G⟩ Z λ_ _ _ h=>?_);obtain⟨_,l,hF⟩:=qc hF;obtain⟨g3,l⟩:=qJ l;refine bn qa 2 h Z (h.sl 0 Z).1 (h.sl 0 Z).2 z9 g3 l Z λ_ _ _ _ h=>X0 8 Z ?_;exact rK ⟨_,_,_,_,_,_,_,_,hF,Z,h.p [2,3,1,4,5,6] Z⟩ Z
 refine qy Z ?_;cases qe hF;replace hF:=S;refine X0 5 Z (dF (qB qa [0,1,2] [.tmp 62,.tmp 63,.tmp 64] z8) Z (zs 4 h Z λ_ h=>ae ?_));have W:=h;obtain⟨_,h⟩:=h.gather [2,4,5] (T5 (⟨r1,f,x1⟩:qU) h (qS 3 h Z) (qS 1 h Z) (qS 0 h Z) (by rfl) (by rfl)) Z;obtain rfl:=qe hF;have h:=h.p [0,1,3] Z;exact ce qa [oV qU [oL v r1 t,oL y f k3,oL z x1 x]] ⟨⟨_,_,_,Z,Z,W.box 4 Z,Z⟩,G⟩ ⟨_,_,Z,Cv 1 1 h0 h Z Z⟩
def iK(n:Nat)(s:qb)(base:Int):Option ((List qU)×Int×Int):=(uO n (⟨s.code,s.at_,s.seed⟩:qb) base).bind λ(r1,a,b)=>(uO n (⟨s.code,a,b⟩:qb) base).bind λ(f,c,d)=>V (([r1,f]:List qU),c,d)
theorem oZ{n f w F}{s:qb}{a p1 b base}(y:SH f w (xb a s p1 b s.at_ s.seed::F))(i:qm.R w (Fr f F) s (aq s p1 b)){r:(List qU)×Int×Int}(M:iK n s base=V r):yb prog 279 [vp a,vi base] w (λN w'=>∃S1 cs1,N=[oV (List qU) cs1]/\SH f w' (oW S1 (r.1:List qU) cs1::xb a s p1 b r.2.1 r.2.2::F)):=by
 have h:=Da y i;refine cz func279 Z (m:=14) Z Z (X0 8 Z ?_);obtain⟨⟨r1,c,d⟩,k,M⟩:=qc M;refine bO (cB 289 Z) (zU (Ce:=s) (Cf:=base) h (show qm.R _ _ (s:qb) _ from⟨[oL p1 s.code b],[vi s.at_,vi s.seed],Z,⟨_,_,Z,(qF (h.frG 1 0 1 Z Z Z)).1⟩,⟨[vi s.at_],[vi s.seed],Z,Z,Z⟩⟩) k) Z Z Z Z ?_;rintro _ _ ⟨S2,_,rfl,h⟩;obtain⟨t,o,u,k3,v,p,rfl,-,-,-⟩:=ee (h.own 0 Z);replace h:SH _ _ [oW S2 (r1:qU) (lc r1 t u v o k3 p),xb a s p1 b c d,xf f w F s p1 b]:=h;refine qi qa h Z Z Z λ_ g h=>zs 0 h Z λ_ h=>V7 (rA [] [0] h Z λ_ h=>M1 7 [0,1,2] 0 (h.p [0] Z) Z (Ao 3 15 Z ?_));have h:=h.p [2,0,1,3] Z;obtain⟨⟨x,A,B⟩,l,M⟩:=qc M;refine bO (cB 289 Z) (zU (Ce:=(⟨s.code,c,d⟩:qb)) (Cf:=base) h (show qm.R _ _ ((⟨s.code,c,d⟩:qb):qb) _ from⟨[oL p1 s.code b],[vi c,vi d],Z,⟨_,_,Z,(qF (h.frG 3 0 1 Z Z Z)).1⟩,⟨[vi c],[vi d],Z,Z,Z⟩⟩) l) Z Z Z Z ?_;rintro _ _ ⟨z,_,rfl,h⟩;obtain⟨I,C,J,D,K,H,rfl,-,-,-⟩:=ee (h.own 0 Z);replace h:SH _ _ [oW z (x:qU) (lc x I J K C D H),xb a s p1 b A B,oX g (lc r1 t u v o k3 p) 175,oW S2 (r1:qU) (lc r1 t u v o k3 p),xf f w F s p1 b]:=h;refine Ag (h.p [2] Z) (Ao 4 31 Z (kB qa [.tmp 9,.tmp 12] _ ([r1,x]:List qU) [1,2,4] h Z Z Z Z Z Z Z Z Z (gb (qS 3 h Z) (gb (qS 0 h Z) pN Z) Z) Z Z λ_ L _ h=>G0 63 [5] (h.p [2] Z) Z (Ad ?_)));obtain rfl:=qe M;have h:=h.p [0,1,3] Z;exact ce qa [oV (List qU) [oS L 2 2]] ⟨Z,G⟩ ⟨_,_,Z,Cv 1 1 y h Z Z⟩
def ig(n:Nat)(s:qb)(kind:Int)(a_from:Int)(a_to:Int)(sense:Int):Option (bo×Int×Int):=bif decide (kind>=4) then(qv n (⟨s.code,s.at_,s.seed⟩:qb) 10).bind λ(d,f,g)=>(iK n (⟨s.code,f,g⟩:qb) (qj (5-d))).bind λ(r1,h,i)=>V ((⟨kind,a_from,a_to,0,r1,[]⟩:bo),h,i) else(qv n (⟨s.code,s.at_,s.seed⟩:qb) 20).bind λ(k,l,i8)=>(iK n (⟨s.code,l,i8⟩:qb) (qj (5+k))).bind λ(p,m,a)=>(iK n (⟨s.code,m,a⟩:qb) 10).bind λ(r,b,c)=>V ((⟨kind,a_from,a_to,sense,p,r⟩:bo),b,c)
theorem lh{n g w F}{s:qb}{a p1 b kind a_from a_to sense}(t:SH g w (xb a s p1 b s.at_ s.seed::F))(u:qm.R w (Fr g F) s (aq s p1 b)){r:bo×Int×Int}(T:ig n s kind a_from a_to sense=V r):yb prog 267 [vp a,vi kind,vi a_from,vi a_to,vi sense] w (λX w'=>∃S1 cs1,X=[oV bo cs1]/\SH g w' (oW S1 (r.1:bo) cs1::xb a s p1 b r.2.1 r.2.2::F)):=by
 have h:=Da t u;refine cz func267 Z (m:=36) Z Z (db (qi qa h Z Z Z λ_ d h=>X0 7 Z (qn Z T ?_ ?_)))<;>intro T
 .refine X0 7 Z ?_;have h:=h.p [1,0,2] Z;obtain⟨⟨P,k,l⟩,y,T⟩:=qc T;refine mv h (h.frG 2 0 1 Z Z Z) y Z Z Z λ_ h=>cr Z ?_;obtain⟨⟨r1,Q,R⟩,z,T⟩:=qc T;refine bO (cB 279 Z) (oZ (s:=(⟨s.code,k,l⟩:qb)) (base:=(qj (5-P))) h (show qm.R _ _ ((⟨s.code,k,l⟩:qb):qb) _ from⟨[oL p1 s.code b],[vi k,vi l],Z,⟨_,_,Z,(qF (h.frG 2 0 1 Z Z Z)).1⟩,⟨[vi k],[vi l],Z,Z,Z⟩⟩) z) Z Z Z Z ?_;rintro _ _ ⟨S2,_,rfl,h⟩;obtain⟨M,K,rfl,-⟩:=h.own 0 Z;replace h:SH _ _ [oW S2 (r1:List qU) [oL M r1 K],xb a s p1 b Q R,oX d qeG 109,xf g w F s p1 b]:=h;refine dF (qB qa [0,1,2,4] [.tmp 14,.tmp 15,.tmp 16,.tmp 21] z8) Z (zs 2 h Z λ_ h=>ae ?_);have v:=h;obtain⟨_,h⟩:=h.gather [1,2,3] (L6 (⟨kind,a_from,a_to,0,r1,[]⟩:bo) h sO sO sO sO (qS 0 h Z) kP (by rfl) (by rfl) (by rfl) (by rfl) (by rfl)) Z;obtain rfl:=qe T;have h:=h.p [0,1,3] Z;exact ce qa [oV bo [vi kind,vi a_from,vi a_to,vi 0,oL M r1 K,oS U 0 0]] ⟨⟨_,_,_,Z,Z,v.box 2 Z,Z⟩,G⟩ ⟨_,_,Z,Cv 1 1 t h Z Z⟩
 refine X0 5 Z ?_;have h:=h.p [1,0,2] Z;obtain⟨⟨S,o,W⟩,A,T⟩:=qc T;refine mv h (h.frG 2 0 1 Z Z Z) A Z Z Z λ_ h=>cr Z ?_;obtain⟨⟨f,i,c⟩,B,T⟩:=qc T;refine bO (cB 279 Z) (oZ (s:=(⟨s.code,o,W⟩:qb)) (base:=(qj (5+S))) h (show qm.R _ _ ((⟨s.code,o,W⟩:qb):qb) _ from⟨[oL p1 s.code b],[vi o,vi W],Z,⟨_,_,Z,(qF (h.frG 2 0 1 Z Z Z)).1⟩,⟨[vi o],[vi W],Z,Z,Z⟩⟩) B) Z Z Z Z ?_;rintro _ _ ⟨J,_,rfl,h⟩;obtain⟨I,k3,rfl,-⟩:=h.own 0 Z;replace h:SH _ _ [oW J (f:List qU) [oL I f k3],xb a s p1 b i c,oX d qeG 109,xf g w F s p1 b]:=h;refine X0 10 Z ?_;have h:=h.p [1,0,2,3] Z;obtain⟨⟨p,D,H⟩,C,T⟩:=qc T;refine bO (cB 279 Z) (oZ (s:=(⟨s.code,i,c⟩:qb)) (base:=10) h (show qm.R _ _ ((⟨s.code,i,c⟩:qb):qb) _ from⟨[oL p1 s.code b],[vi i,vi c],Z,⟨_,_,Z,(qF (h.frG 3 0 1 Z Z Z)).1⟩,⟨[vi i],[vi c],Z,Z,Z⟩⟩) C) Z Z Z Z ?_;rintro _ _ ⟨O,_,rfl,h⟩;obtain⟨N,L,rfl,-⟩:=h.own 0 Z;replace h:SH _ _ [oW O (p:List qU) [oL N p L],xb a s p1 b D H,oW J (f:List qU) [oL I f k3],oX d qeG 109,xf g w F s p1 b]:=h;refine dF (qB qa [0,1,2,3,4,5] [.tmp 28,.tmp 29,.tmp 30,.tmp 31,.tmp 32,.tmp 34] z8) Z (zs 3 h Z λ_ h=>ae ?_);have x:=h;obtain⟨_,h⟩:=h.gather [1,3,4] (L6 (⟨kind,a_from,a_to,sense,f,p⟩:bo) h sO sO sO sO (qS 2 h Z) (qS 0 h Z) (by rfl) (by rfl) (by rfl) (by rfl) (by rfl)) Z;obtain rfl:=qe T;have h:=h.p [0,1,3] Z;exact ce qa [oV bo [vi kind,vi a_from,vi a_to,vi sense,oL I f k3,oL N p L]] ⟨⟨_,_,_,Z,Z,x.box 3 Z,Z⟩,G⟩ ⟨_,_,Z,Cv 1 1 t h Z Z⟩
def kU(Ce:qb)(Cf:ByteArray)(Cg:List Int)(d:Int)(g:Int)(x1:List bp)(h:List bp):Nat->(List bo)->Int->Int->Int->Option ((List bo)×Int×Int×Int)|0,_,_,_,_=>U|n+1,i,b,c,a=>bif decide (a<(x1.length:Int)) then(zf n (⟨Cf,1,h,[],Cg,d,g⟩:qQ) a).bind λr1=>bif (r1 != 0) then(ig n (⟨Ce.code,b,c⟩:qb) 1 a (x1.length:Int) r1).bind λ(k,i16,f)=>(df i ([k]:List bo)).bind λl=>kU Ce Cf Cg d g x1 h n l i16 f (qj (a+1)) else kU Ce Cf Cg d g x1 h n i b c (qj (a+1)) else V (i,b,c,a)
def mN(Ce:qb)(Cg:List Int):Nat->(List bp)->Int->Int->Int->Option ((List bp)×Int×Int×Int)|0,_,_,_,_=>U|n+1,x1,f,i8,d=>bif decide (d<(Cg.length:Int)) then(qG ([(⟨#[97]⟩:ByteArray),(⟨#[98]⟩:ByteArray),(⟨#[99]⟩:ByteArray),(⟨#[100]⟩:ByteArray)]:List ByteArray) (x1.length:Int)).bind λh=>(qv n (⟨Ce.code,f,i8⟩:qb) 9).bind λ(a,b,c)=>(df x1 ([(⟨h,1,qj (1+a),Cd⟩:bp)]:List bp)).bind λg=>mN Ce Cg n g b c (qj (2*d)) else V (x1,f,i8,d)
def nA(n:Nat)(Ce:qb)(Cf:ByteArray)(Cg:List Int):Option (qQ×Int×Int):=(qv n (⟨Ce.code,Ce.at_,Ce.seed⟩:qb) 50).bind λ(c,g,h)=>(qv n (⟨Ce.code,g,h⟩:qb) 80).bind λ(d,i,k)=>(mN Ce Cg n ([]:List bp) i k 1).bind λ(x1,l,i8,_)=>(df x1 ([(⟨(⟨#[121]⟩:ByteArray),2,0,Cd⟩:bp)]:List bp)).bind λf=>(kU Ce Cf Cg c d x1 f n ([]:List bo) l i8 0).bind λ(m,a,b,_)=>V ((⟨Cf,1,f,m,Cg,c,d⟩:qQ),a,b)
theorem ov{n v w F}{Ce:qb}{a p1 k Cf}{Cg:List Int}{S1 c b}(h0:SH v w (xb a Ce p1 k Ce.at_ Ce.seed::oW S1 (Cg:List Int) [oL c Cg b]::F))(R:qm.R w (Fr v F) Ce (aq Ce p1 k)){r:qQ×Int×Int}(hF:nA n Ce Cf Cg=V r):yb prog 243 [vp a,.string Cf,oL c Cg b] w (λus w'=>∃S2 cs1,us=[oV qQ cs1]/\SH v w' (oW S2 (r.1:qQ) cs1::xb a Ce p1 k r.2.1 r.2.2::F)):=by
 have h:=SH.frame [xb a Ce p1 k Ce.at_ Ce.seed,oW S1 (Cg:List Int) [oL c Cg b]] h0;have h:=h.grpAdd 2 Z R;replace h:SH _ _ [xb a Ce p1 k Ce.at_ Ce.seed,oW S1 (Cg:List Int) [oL c Cg b],xf v w F Ce p1 k]:=h;refine cz func243 Z (m:=71) Z Z (db (qi qa h Z Z Z λw1 o h=>QS (qt qa [.const (.string MW),.const (.string MX),.const (.string qde),.const (.string V5)] _ ([MW,MX,qde,V5]:List ByteArray) h z9 ⟨Z,Z,Z,Z,G⟩ Z λ_ p3 S3 h=>X0 7 Z ?_)));have h:=h.p [2,0,1,3,4] Z;obtain⟨⟨g,_,_⟩,T,hF⟩:=qc hF;refine mv h (h.frG 4 0 1 Z Z Z) T Z Z Z λ_ h=>cr Z ?_;obtain⟨⟨i,_,_⟩,W,hF⟩:=qc hF;refine mv h (h.frG 4 0 1 Z Z Z) W Z Z Z λ_ h=>dF (qB qa [0,1,4,5,6] [.tmp 16,.const (vi (1)),.tmp 17,.tmp 19,.tmp 21] z8) Z (qi qa h Z Z Z λ_ p h=>zs 0 h Z λ_ h=>QS (qt qa [] _ ([]:List bp) h z9 trivial Z λ_ _ _ h=>X0 7 Z ?_));obtain⟨o3,hF,P⟩:=qc hF;refine qq (rL (λm e w'=>∃S5 p5 D k3 x1 i7 i8 i9,mN Ce Cg m x1 i7 i8 i9=V o3/\e=[(0,vp a),(2,oL c Cg b),(6,vp o),(7,oS p3 4 4),(8,vp p),(9,oS p5 D k3),(10,vi i9)]/\SH v w' [oW S5 (x1:List bp) [oS p5 D k3],oX p [.string Cf,vi 1,oS U 0 0,oS U 0 0,oL c Cg b,vi g,vi i] 106,xb a Ce p1 k i7 i8,oW S3 (([MW,MX,qde,V5]:List ByteArray):List ByteArray) [oS p3 4 4],oX o qd2 106,oW S1 (Cg:List Int) [oL c Cg b],xf v w F Ce p1 k]) n ⟨_,_,_,_,_,_,_,_,hF,Z,h⟩ Z ?_);rintro m1 _ _ ⟨S5,p5,D,k3,x1,i7,i8,i9,hF,rfl,h⟩;obtain rfl:=(h.sl 0 Z).2;rcases m1 with _|m1
 .cases hF
 refine X0 8 Z (qn Z hF ?_ ?_)<;>intro hF
 .refine WC (rA [] [3] h Z λ_ h=>M0 15 [0,1,2,3] (h.p [3] Z) Z ?_);obtain⟨y1,a3,hF,J,_,_,_,_,K,L,rfl,_⟩:=(h.sl 3 Z).1.ix hF;refine Ax 4 31 K L ⟨J.1,qE J.2.1 (h.sl 3 Z).2⟩ (h.p [3] Z) Z (Aw 5 63 (λw' hw=>da qa (qR (w1:=w) (S1:=λ_=>False) hw 0 Z a3 K L Z) (j:=0) Z Z Z) (h.p [3] Z) Z ?_);refine M0 127 [6] (h.p [3] Z) Z (Ao 7 255 Z ?_);have h:=h.p [2,0,1,3,4,5,6] Z;obtain⟨⟨M,_,_⟩,X,hF⟩:=qc hF;refine mv h (h.frG 6 0 1 Z Z Z) X Z Z Z λ_ h=>G0 511 [8] (h.p [3] Z) Z (Aw 9 1023 (λw' hw=>qB qa [0,1,2] [.tmp 35,.const (vi (1)),.tmp 38] z8) (h.p [3] Z) Z ?_);refine Ao 10 2047 Z (qt qa [.tmp 39] _ ([(⟨y1,1,qj (1+M),Cd⟩:bp)]:List bp) h z9 ⟨(zG (⟨y1,1,qj (1+M),Cd⟩:bp)),G⟩ Z λ_ _ _ h=>Ag (h.p [4] Z) (Ao 11 4095 Z ?_));obtain⟨_,A,hF⟩:=qc hF;obtain⟨g1,A⟩:=qJ A;refine bn qa 2 h Z (h.sl 0 Z).1 (h.sl 0 Z).2 z9 g1 A Z λ_ _ _ _ h=>G0 8191 [12] (h.p [4] Z) Z (Ad (X0 6 Z ?_));exact rK ⟨_,_,_,_,_,_,_,_,hF,Z,h.p [2,3,1,4,5,6,7] Z⟩ Z
 refine qy Z ?_;cases qe hF;replace hF:=P;refine X0 9 Z (dF (qB qa [0,1] [.const (.string O7),.const (vi (2))] z8) Z (qt qa [.tmp 45] _ ([(⟨O7,2,0,Cd⟩:bp)]:List bp) h z9 ⟨(zG (⟨O7,2,0,Cd⟩:bp)),G⟩ Z λ_ _ _ h=>?_));obtain⟨l,B,hF⟩:=qc hF;obtain⟨g2,B⟩:=qJ B;refine bn qa 1 h Z (h.sl 0 Z).1 (h.sl 0 Z).2 z9 g2 B Z λ_ y x S9 h=>cr Z (zs 2 h Z λ_ h=>QS (kB qa [] _ ([]:List bo) [0,1,2,3,4,5,6,7] h Z Z Z Z Z Z Z Z Z pN Z Z λ_ _ _ h=>X0 7 Z ?_));obtain⟨o5,hF,Q⟩:=qc hF;refine qq ?_;have h:=h.p [0,2,3,4,6,7,8] Z;refine rL (λm e w'=>∃z t H N I d f u,kU Ce Cf Cg g i x1 l m I d f u=V o5/\e=[(0,vp a),(6,vp o),(8,vp p),(11,vi (x1.length:Int)),(12,oS t H N),(13,vi u)]/\SH v w' [oW z (I:List bo) [oS t H N],oW S9 (l:List bp) [oL y l x],oX p [.string Cf,vi 1,oL y l x,oS U 0 0,oL c Cg b,vi g,vi i] 106,xb a Ce p1 k d f,oX o qd2 106,oW S1 (Cg:List Int) [oL c Cg b],xf v w F Ce p1 k]) n ⟨_,_,_,_,_,_,_,_,hF,Z,h⟩ Z ?_;rintro m2 _ _ ⟨z,t,H,N,I,d,f,u,hF,rfl,h⟩;obtain rfl:=(h.sl 0 Z).2;rcases m2 with _|m2
 .cases hF
 refine X0 7 Z (qn Z hF ?_ ?_)<;>intro hF
 .refine X1 7 2 h Z (mR h hF (LU (show qm.R _ _ ((⟨Cf,1,l,[],Cg,g,i⟩:qQ):qQ) _ from⟨[.string Cf],[vi 1,oL y l x,oS U 0 0,oL c Cg b,vi g,vi i],Z,Z,⟨[vi 1],[oL y l x,oS U 0 0,oL c Cg b,vi g,vi i],Z,Z,⟨[oL y l x],[oS U 0 0,oL c Cg b,vi g,vi i],Z,(h.own 1 Z),⟨[oS U 0 0],[oL c Cg b,vi g,vi i],Z,⟨_,_,Z,pP⟩,⟨[oL c Cg b],[vi g,vi i],Z,(h.own 5 Z),⟨[vi g],[vi i],Z,Z,Z⟩⟩⟩⟩⟩⟩)) Z λr1 _ h hF=>X0 7 Z (qn Z hF ?_ ?_))<;>intro hF
  .refine X0 6 Z ?_;have h:=h.p [3,0,1,2,4,5,6] Z;obtain⟨⟨r2,i16,a4⟩,Y,hF⟩:=qc hF;refine bO (cB 267 Z) (lh (s:=(⟨Ce.code,d,f⟩:qb)) (kind:=1) (a_from:=u) (a_to:=(x1.length:Int)) (sense:=r1) h (show qm.R _ _ ((⟨Ce.code,d,f⟩:qb):qb) _ from⟨[oL p1 Ce.code k],[vi d,vi f],Z,⟨_,_,Z,(qF (h.frG 6 0 1 Z Z Z)).1⟩,⟨[vi d],[vi f],Z,Z,Z⟩⟩) Y) Z Z Z Z ?_;rintro _ _ ⟨O,_,rfl,h⟩;obtain⟨p12,k7,p13,k8,rfl,-,-⟩:=bd (h.own 0 Z);replace h:SH _ _ [oW O (r2:bo) (kI r2 p12 p13 k7 k8),xb a Ce p1 k i16 a4,oW z (I:List bo) [oL t I N],oW S9 (l:List bp) [oL y l x],oX p [.string Cf,vi 1,oL y l x,oS U 0 0,oL c Cg b,vi g,vi i] 106,oX o qd2 106,oW S1 (Cg:List Int) [oL c Cg b],xf v w F Ce p1 k]:=h;refine kB qa [.tmp 65] _ ([r2]:List bo) [1,2,3,4,5,6,7] h Z Z Z Z Z Z Z Z Z (gb (qS 0 h Z) pN Z) Z Z λ_ _ _ h=>?_;obtain⟨_,C,hF⟩:=qc hF;obtain⟨g3,C⟩:=qJ C;have h:=h.p [0,2,1,3,4,5,6,7] Z;refine BD qa h Z Z Z Z Z Z Z Z Z g3 C Z λ_ _ _ _ h=>X0 8 Z ?_;exact rK ⟨_,_,_,_,_,_,_,_,hF,Z,h.p [0,2,3,1,4,5,6] Z⟩ Z
  exact X0 7 Z (rK ⟨_,_,_,_,_,_,_,_,hF,Z,h⟩ Z)
 refine qy Z ?_;cases qe hF;replace hF:=Q;refine X0 4 Z (zs 2 h Z λ_ h=>X1 4 2 h Z (zs 4 h Z λ_ h=>ae ?_));have S:=h;obtain⟨_,h⟩:=h.gather [2,3,4,6] (PU (⟨Cf,1,l,I,Cg,g,i⟩:qQ) h sO sO (qS 1 h Z) (qS 0 h Z) (qS 5 h Z) sO sO (by rfl) (by rfl) (by rfl) (by rfl) (by rfl) (by rfl)) Z;obtain rfl:=qe hF;have h:=h.p [0,2,4] Z;exact ce qa [oV qQ [.string Cf,vi 1,oL y l x,oL t I N,oL c Cg b,vi g,vi i]] ⟨⟨_,_,_,Z,Z,S.box 4 Z,Z⟩,G⟩ ⟨_,_,Z,Cv 2 1 h0 h Z Z⟩
def lJ(n:Nat)(s:qb)(name:ByteArray)(kind:Int)(edge:Int):Option (qQ×Int×Int):=(qv n (⟨s.code,s.at_,s.seed⟩:qb) 50).bind λ(m,v,x)=>(qv n (⟨s.code,v,x⟩:qb) 80).bind λ(p,y,z)=>(qv n (⟨s.code,y,z⟩:qb) 9).bind λ|(r,i8,A)=>(qv n (⟨s.code,i8,A⟩:qb) 9).bind λ(a,d,f)=>(ig n (⟨s.code,d,f⟩:qb) edge 1 2 0).bind λ(r1,g,h)=>(ig n (⟨s.code,g,h⟩:qb) 4 1 0 0).bind λ(t,i,i16)=>(ig n (⟨s.code,i,i16⟩:qb) 5 1 0 0).bind λ(u,b,c)=>bif (kind==3) then(ig n (⟨s.code,b,c⟩:qb) 1 0 2 1).bind λ|(B,k,l)=>(df ([r1,t,u]:List bo) ([B]:List bo)).bind λx1=>V ((⟨name,kind,([(⟨(⟨#[100]⟩:ByteArray),1,qj (1+r),Cd⟩:bp),(⟨(⟨#[99,107]⟩:ByteArray),1,qj (1+a),An⟩:bp),(⟨(⟨#[113]⟩:ByteArray),2,0,Cd⟩:bp)]:List bp),x1,[],m,p⟩:qQ),k,l) else V ((⟨name,kind,([(⟨(⟨#[100]⟩:ByteArray),1,qj (1+r),Cd⟩:bp),(⟨(⟨#[99,107]⟩:ByteArray),1,qj (1+a),An⟩:bp),(⟨(⟨#[113]⟩:ByteArray),2,0,Cd⟩:bp)]:List bp),([r1,t,u]:List bo),[],m,p⟩:qQ),b,c)
theorem rJ{n B w F}{s:qb}{b p1 c name kind edge}(H:SH B w (xb b s p1 c s.at_ s.seed::F))(I:qm.R w (Fr B F) s (aq s p1 c)){r:qQ×Int×Int}(hF:lJ n s name kind edge=V r):yb prog 244 [vp b,.string name,vi kind,vi edge] w (λus w'=>∃S1 cs1,us=[oV qQ cs1]/\SH B w' (oW S1 (r.1:qQ) cs1::xb b s p1 c r.2.1 r.2.2::F)):=by
 have h:=Da H I;refine cz func244 Z (m:=47) Z Z (db (qi qa h Z Z Z λ_ o h=>X0 6 Z ?_));have h:=h.p [1,0,2] Z;obtain⟨⟨v,_,_⟩,L,hF⟩:=qc hF;refine mv h (h.frG 2 0 1 Z Z Z) L Z Z Z λ_ h=>cr Z ?_;obtain⟨⟨x,_,_⟩,M,hF⟩:=qc hF;refine mv h (h.frG 2 0 1 Z Z Z) M Z Z Z λ_ h=>dF (qB qa [0,1,5,6] [.tmp 11,.tmp 12,.tmp 14,.tmp 16] z8) Z (qi qa h Z Z Z λ_ p h=>zs 0 h Z λ_ h=>X0 4 Z ?_);have h:=h.p [1,0,2,3] Z;obtain⟨⟨y,_,_⟩,N,hF⟩:=qc hF;refine mv h (h.frG 3 0 1 Z Z Z) N Z Z Z λ_ h=>cr Z (dF (qB qa [0,1,2] [.const (.string V5),.const (vi (1)),.tmp 20] z8) Z (cr Z ?_));obtain⟨⟨a,t,u⟩,O,hF⟩:=qc hF;refine mv h (h.frG 3 0 1 Z Z Z) O Z Z Z λ_ h=>cr Z (dF (qB qa [0,1,2,3] [.const (.string BZ),.const (vi (1)),.tmp 24,.const (.bool An)] z8) Z (dF (qB qa [0,1] [.const (.string UE),.const (vi (2))] z8) Z (qt qa [.tmp 21,.tmp 25,.tmp 26] _ ([(⟨V5,1,qj (1+y),Cd⟩:bp),(⟨BZ,1,qj (1+a),An⟩:bp),(⟨UE,2,0,Cd⟩:bp)]:List bp) h z9 ⟨(zG (⟨V5,1,qj (1+y),Cd⟩:bp)),(zG (⟨BZ,1,qj (1+a),An⟩:bp)),(zG (⟨UE,2,0,Cd⟩:bp)),G⟩ Z λ_ l S2 h=>cr Z (zs 2 h Z λ_ h=>X0 5 Z ?_))));have h:=h.p [1,0,2,3,4] Z;obtain⟨⟨r1,d,f⟩,P,hF⟩:=qc hF;refine bO (cB 267 Z) (lh (s:=(⟨s.code,t,u⟩:qb)) (kind:=edge) (a_from:=1) (a_to:=2) (sense:=0) h (show qm.R _ _ ((⟨s.code,t,u⟩:qb):qb) _ from⟨[oL p1 s.code c],[vi t,vi u],Z,⟨_,_,Z,(qF (h.frG 4 0 1 Z Z Z)).1⟩,⟨[vi t],[vi u],Z,Z,Z⟩⟩) P) Z Z Z Z ?_;rintro _ _ ⟨D,_,rfl,h⟩;obtain⟨p3,Y,p4,k3,rfl,-,-⟩:=bd (h.own 0 Z);replace h:SH _ _ [oW D (r1:bo) (kI r1 p3 p4 Y k3),xb b s p1 c d f,oW S2 (([(⟨V5,1,qj (1+y),Cd⟩:bp),(⟨BZ,1,qj (1+a),An⟩:bp),(⟨UE,2,0,Cd⟩:bp)]:List bp):List bp) [oS l 3 3],oX p [.string name,vi kind,oS l 3 3,oS U 0 0,oS U 0 0,vi v,vi x] 106,oX o qd2 106,xf B w F s p1 c]:=h;refine cr Z ?_;have h:=h.p [1,0,2,3,4,5] Z;obtain⟨⟨A,g,i16⟩,Q,hF⟩:=qc hF;refine bO (cB 267 Z) (lh (s:=(⟨s.code,d,f⟩:qb)) (kind:=4) (a_from:=1) (a_to:=0) (sense:=0) h (show qm.R _ _ ((⟨s.code,d,f⟩:qb):qb) _ from⟨[oL p1 s.code c],[vi d,vi f],Z,⟨_,_,Z,(qF (h.frG 5 0 1 Z Z Z)).1⟩,⟨[vi d],[vi f],Z,Z,Z⟩⟩) Q) Z Z Z Z ?_;rintro _ _ ⟨S4,_,rfl,h⟩;obtain⟨p5,k4,p6,k5,rfl,-,-⟩:=bd (h.own 0 Z);replace h:SH _ _ [oW S4 (A:bo) (kI A p5 p6 k4 k5),xb b s p1 c g i16,oW D (r1:bo) (kI r1 p3 p4 Y k3),oW S2 (([(⟨V5,1,qj (1+y),Cd⟩:bp),(⟨BZ,1,qj (1+a),An⟩:bp),(⟨UE,2,0,Cd⟩:bp)]:List bp):List bp) [oS l 3 3],oX p [.string name,vi kind,oS l 3 3,oS U 0 0,oS U 0 0,vi v,vi x] 106,oX o qd2 106,xf B w F s p1 c]:=h;refine cr Z ?_;have h:=h.p [1,0,2,3,4,5,6] Z;obtain⟨⟨C,i,k⟩,R,hF⟩:=qc hF;refine bO (cB 267 Z) (lh (s:=(⟨s.code,g,i16⟩:qb)) (kind:=5) (a_from:=1) (a_to:=0) (sense:=0) h (show qm.R _ _ ((⟨s.code,g,i16⟩:qb):qb) _ from⟨[oL p1 s.code c],[vi g,vi i16],Z,⟨_,_,Z,(qF (h.frG 6 0 1 Z Z Z)).1⟩,⟨[vi g],[vi i16],Z,Z,Z⟩⟩) R) Z Z Z Z ?_;rintro _ _ ⟨S5,_,rfl,h⟩;obtain⟨p7,k6,p8,k7,rfl,-,-⟩:=bd (h.own 0 Z);replace h:SH _ _ [oW S5 (C:bo) (kI C p7 p8 k6 k7),xb b s p1 c i k,oW S4 (A:bo) (kI A p5 p6 k4 k5),oW D (r1:bo) (kI r1 p3 p4 Y k3),oW S2 (([(⟨V5,1,qj (1+y),Cd⟩:bp),(⟨BZ,1,qj (1+a),An⟩:bp),(⟨UE,2,0,Cd⟩:bp)]:List bp):List bp) [oS l 3 3],oX p [.string name,vi kind,oS l 3 3,oS U 0 0,oS U 0 0,vi v,vi x] 106,oX o qd2 106,xf B w F s p1 c]:=h;refine kB qa [.tmp 31,.tmp 33,.tmp 35] _ ([r1,A,C]:List bo) [1,4,5,6,7] h Z Z Z Z Z Z Z Z Z (gb (qS 3 h Z) (gb (qS 2 h Z) (gb (qS 0 h Z) pN Z) Z) Z) Z Z λ_ p9 S6 h=>X0 8 Z (qn Z hF ?_ ?_)<;>intro hF
 .refine X0 3 Z ?_;have h:=h.p [1,0,2,3,4,5] Z;obtain⟨⟨r4,T,W⟩,S,hF⟩:=qc hF;refine bO (cB 267 Z) (lh (s:=(⟨s.code,i,k⟩:qb)) (kind:=1) (a_from:=0) (a_to:=2) (sense:=1) h (show qm.R _ _ ((⟨s.code,i,k⟩:qb):qb) _ from⟨[oL p1 s.code c],[vi i,vi k],Z,⟨_,_,Z,(qF (h.frG 5 0 1 Z Z Z)).1⟩,⟨[vi i],[vi k],Z,Z,Z⟩⟩) S) Z Z Z Z ?_;rintro _ _ ⟨S7,_,rfl,h⟩;obtain⟨e,k8,a3,k9,rfl,-,-⟩:=bd (h.own 0 Z);replace h:SH _ _ [oW S7 (r4:bo) (kI r4 e a3 k8 k9),xb b s p1 c T W,oW S6 (([r1,A,C]:List bo):List bo) [oS p9 3 3],oW S2 (([(⟨V5,1,qj (1+y),Cd⟩:bp),(⟨BZ,1,qj (1+a),An⟩:bp),(⟨UE,2,0,Cd⟩:bp)]:List bp):List bp) [oS l 3 3],oX p [.string name,vi kind,oS l 3 3,oS U 0 0,oS U 0 0,vi v,vi x] 106,oX o qd2 106,xf B w F s p1 c]:=h;refine kB qa [.tmp 41] _ ([r4]:List bo) [1,2,3,4,5,6] h Z Z Z Z Z Z Z Z Z (gb (qS 0 h Z) pN Z) Z Z λ_ _ _ h=>?_;obtain⟨x1,z,hF⟩:=qc hF;obtain⟨g1,z⟩:=qJ z;have h:=h.p [0,2,1,3,4,5,6] Z;refine BD qa h Z Z Z Z Z Z Z Z Z g1 z Z λ_ a4 X _ h=>X0 6 Z (zs 3 h Z λ_ h=>X1 4 3 h Z (zs 4 h Z λ_ h=>ae ?_));have J:=h;obtain⟨_,h⟩:=h.gather [1,3,4,5] (PU (⟨name,kind,([(⟨V5,1,qj (1+y),Cd⟩:bp),(⟨BZ,1,qj (1+a),An⟩:bp),(⟨UE,2,0,Cd⟩:bp)]:List bp),x1,[],v,x⟩:qQ) h sO sO (qS 2 h Z) (qS 0 h Z) kP sO sO (by rfl) (by rfl) (by rfl) (by rfl) (by rfl) (by rfl)) Z;obtain rfl:=qe hF;have h:=h.p [0,1,4] Z;exact ce qa [oV qQ [.string name,vi kind,oS l 3 3,oL a4 x1 X,oS U 0 0,vi v,vi x]] ⟨⟨_,_,_,Z,Z,J.box 4 Z,Z⟩,G⟩ ⟨_,_,Z,Cv 1 1 H h Z Z⟩
 refine X0 5 Z (zs 3 h Z λ_ h=>X1 4 3 h Z (zs 4 h Z λ_ h=>ae ?_));have K:=h;obtain⟨_,h⟩:=h.gather [1,3,4,5] (PU (⟨name,kind,([(⟨V5,1,qj (1+y),Cd⟩:bp),(⟨BZ,1,qj (1+a),An⟩:bp),(⟨UE,2,0,Cd⟩:bp)]:List bp),([r1,A,C]:List bo),[],v,x⟩:qQ) h sO sO (qS 2 h Z) (qS 0 h Z) kP sO sO (by rfl) (by rfl) (by rfl) (by rfl) (by rfl) (by rfl)) Z;obtain rfl:=qe hF;have h:=h.p [0,1,4] Z;exact ce qa [oV qQ [.string name,vi kind,oS l 3 3,oS p9 3 3,oS U 0 0,vi v,vi x]] ⟨⟨_,_,_,Z,Z,K.box 4 Z,Z⟩,G⟩ ⟨_,_,Z,Cv 1 1 H h Z Z⟩
def xg(n:Nat)(s:qb):Option (qD×Int×Int):=(nA n (⟨s.code,s.at_,s.seed⟩:qb) (⟨#[105,110,118]⟩:ByteArray) ([1,0]:List Int)).bind λ(r1,h,i)=>(nA n (⟨s.code,h,i⟩:qb) (⟨#[98,117,102]⟩:ByteArray) ([0,1]:List Int)).bind λ(u,k,l)=>(nA n (⟨s.code,k,l⟩:qb) (⟨#[110,97,110,100]⟩:ByteArray) ([1,1,1,0]:List Int)).bind λ(v,m,p)=>(nA n (⟨s.code,m,p⟩:qb) (⟨#[120,111,114]⟩:ByteArray) ([0,1,1,0]:List Int)).bind λ(x,r,i8)=>(nA n (⟨s.code,r,i8⟩:qb) (⟨#[109,117,120]⟩:ByteArray) ([0,1,0,1,0,0,1,1]:List Int)).bind λ(y,t,a)=>(lJ n (⟨s.code,t,a⟩:qb) (⟨#[102,108,111,112]⟩:ByteArray) 2 2).bind λ(z,b,c)=>(lJ n (⟨s.code,b,c⟩:qb) (⟨#[102,108,111,112,110]⟩:ByteArray) 2 3).bind λ|(A,d,f)=>(lJ n (⟨s.code,d,f⟩:qb) (⟨#[108,97,116,99,104]⟩:ByteArray) 3 2).bind λ|(B,g,i16)=>V ((⟨([r1,u,v,x,y,z,A,B]:List qQ)⟩:qD),g,i16)
theorem LS{n w0 w F}{s:qb}{b p1 a}(h0:SH w0 w (xb b s p1 a s.at_ s.seed::F))(ha1:qm.R w (Fr w0 F) s (aq s p1 a)){r:qD×Int×Int}(hF:xg n s=V r):yb prog 204 [vp b] w (λus w'=>∃S1 cs1,us=[oV qD cs1]/\SH w0 w' (oW S1 (r.1:qD) cs1::xb b s p1 a r.2.1 r.2.2::F)):=by
 have h:=Da h0 ha1;refine cz func204 Z (m:=45) Z Z (db (qi qa h Z Z Z λ_ x h=>QS (dF (qB qa [] [] z8) Z (qi qa h Z Z Z λ_ y h=>zs 0 h Z λ_ h=>X0 4 Z (qt qa [.const (vi (1)),.const (vi (0))] _ ([1,0]:List Int) h z9 ⟨Z,Z,G⟩ Z λ_ _ _ h=>?_)))));have h:=h.p [3,0,1,2,4] Z;obtain⟨⟨r1,i1,i2⟩,hr1,hF⟩:=qc hF;refine bO (cB 243 Z) (ov (Ce:=s) (Cf:=(⟨#[105,110,118]⟩:ByteArray)) (Cg:=([1,0]:List Int)) h (show qm.R _ _ (s:qb) _ from⟨[oL p1 s.code a],[vi s.at_,vi s.seed],Z,⟨_,_,Z,(qF (h.frG 4 0 2 Z Z Z)).1⟩,⟨[vi s.at_],[vi s.seed],Z,Z,Z⟩⟩) hr1) Z Z Z Z ?_;rintro _ _ ⟨S3,_,rfl,h⟩;obtain⟨M,H,N,k3,O,I,rfl,-,-,-⟩:=aV (h.own 0 Z);replace h:SH _ _ [oW S3 (r1:qQ) (qP r1 M N O H k3 I),xb b s p1 a i1 i2,oX y [oS U 0 0] 26,oX x [oS U 0 0] 26,xf w0 w F s p1 a]:=h;refine qi qa h Z Z Z λ_ A h=>zs 0 h Z λ_ h=>X0 4 Z (qt qa [.const (vi (0)),.const (vi (1))] _ ([0,1]:List Int) h z9 ⟨Z,Z,G⟩ Z λ_ _ _ h=>?_);have h:=h.p [3,0,1,2,4,5,6] Z;obtain⟨⟨i,i3,i4⟩,hr2,hF⟩:=qc hF;refine bO (cB 243 Z) (ov (Ce:=(⟨s.code,i1,i2⟩:qb)) (Cf:=(⟨#[98,117,102]⟩:ByteArray)) (Cg:=([0,1]:List Int)) h (show qm.R _ _ ((⟨s.code,i1,i2⟩:qb):qb) _ from⟨[oL p1 s.code a],[vi i1,vi i2],Z,⟨_,_,Z,(qF (h.frG 6 0 2 Z Z Z)).1⟩,⟨[vi i1],[vi i2],Z,Z,Z⟩⟩) hr2) Z Z Z Z ?_;rintro _ _ ⟨S5,_,rfl,h⟩;obtain⟨T,Q,W,R,X,S,rfl,-,-,-⟩:=aV (h.own 0 Z);replace h:SH _ _ [oW S5 (i:qQ) (qP i T W X Q R S),xb b s p1 a i3 i4,oX A (qP r1 M N O H k3 I) 106,oW S3 (r1:qQ) (qP r1 M N O H k3 I),oX y [oS U 0 0] 26,oX x [oS U 0 0] 26,xf w0 w F s p1 a]:=h;refine qi qa h Z Z Z λ_ P h=>zs 0 h Z λ_ h=>X0 4 Z (qt qa [.const (vi (1)),.const (vi (1)),.const (vi (1)),.const (vi (0))] _ ([1,1,1,0]:List Int) h z9 ⟨Z,Z,Z,Z,G⟩ Z λ_ _ _ h=>?_);have h:=h.p [3,0,1,2,4,5,6,7,8] Z;obtain⟨⟨v,i5,i6⟩,hr3,hF⟩:=qc hF;refine bO (cB 243 Z) (ov (Ce:=(⟨s.code,i3,i4⟩:qb)) (Cf:=(⟨#[110,97,110,100]⟩:ByteArray)) (Cg:=([1,1,1,0]:List Int)) h (show qm.R _ _ ((⟨s.code,i3,i4⟩:qb):qb) _ from⟨[oL p1 s.code a],[vi i3,vi i4],Z,⟨_,_,Z,(qF (h.frG 8 0 2 Z Z Z)).1⟩,⟨[vi i3],[vi i4],Z,Z,Z⟩⟩) hr3) Z Z Z Z ?_;rintro _ _ ⟨S7,_,rfl,h⟩;obtain⟨d,k8,f,k9,g,c,rfl,-,-,-⟩:=aV (h.own 0 Z);replace h:SH _ _ [oW S7 (v:qQ) (qP v d f g k8 k9 c),xb b s p1 a i5 i6,oX P (qP i T W X Q R S) 106,oW S5 (i:qQ) (qP i T W X Q R S),oX A (qP r1 M N O H k3 I) 106,oW S3 (r1:qQ) (qP r1 M N O H k3 I),oX y [oS U 0 0] 26,oX x [oS U 0 0] 26,xf w0 w F s p1 a]:=h;refine qi qa h Z Z Z λ_ e h=>zs 0 h Z λ_ h=>X0 4 Z (qt qa [.const (vi (0)),.const (vi (1)),.const (vi (1)),.const (vi (0))] _ ([0,1,1,0]:List Int) h z9 ⟨Z,Z,Z,Z,G⟩ Z λ_ _ _ h=>?_);have h:=h.p [3,0,1,2,4,5,6,7,8,9,10] Z;obtain⟨⟨z,i7,i8⟩,hr4,hF⟩:=qc hF;refine bO (cB 243 Z) (ov (Ce:=(⟨s.code,i5,i6⟩:qb)) (Cf:=(⟨#[120,111,114]⟩:ByteArray)) (Cg:=([0,1,1,0]:List Int)) h (show qm.R _ _ ((⟨s.code,i5,i6⟩:qb):qb) _ from⟨[oL p1 s.code a],[vi i5,vi i6],Z,⟨_,_,Z,(qF (h.frG 10 0 2 Z Z Z)).1⟩,⟨[vi i5],[vi i6],Z,Z,Z⟩⟩) hr4) Z Z Z Z ?_;rintro _ _ ⟨S9,_,rfl,h⟩;obtain⟨p,k,t,l,u,o,rfl,-,-,-⟩:=aV (h.own 0 Z);replace h:SH _ _ [oW S9 (z:qQ) (qP z p t u k l o),xb b s p1 a i7 i8,oX e (qP v d f g k8 k9 c) 106,oW S7 (v:qQ) (qP v d f g k8 k9 c),oX P (qP i T W X Q R S) 106,oW S5 (i:qQ) (qP i T W X Q R S),oX A (qP r1 M N O H k3 I) 106,oW S3 (r1:qQ) (qP r1 M N O H k3 I),oX y [oS U 0 0] 26,oX x [oS U 0 0] 26,xf w0 w F s p1 a]:=h;refine qi qa h Z Z Z λ_ bb7 h=>zs 0 h Z λ_ h=>X0 4 Z (qt qa [.const (vi (0)),.const (vi (1)),.const (vi (0)),.const (vi (1)),.const (vi (0)),.const (vi (0)),.const (vi (1)),.const (vi (1))] _ ([0,1,0,1,0,0,1,1]:List Int) h z9 ⟨Z,Z,Z,Z,Z,Z,Z,Z,G⟩ Z λ_ _ _ h=>?_);have h:=h.p [3,0,1,2,4,5,6,7,8,9,10,11,12] Z;obtain⟨⟨Y,i9,a3⟩,hr5,hF⟩:=qc hF;refine bO (cB 243 Z) (ov (Ce:=(⟨s.code,i7,i8⟩:qb)) (Cf:=(⟨#[109,117,120]⟩:ByteArray)) (Cg:=([0,1,0,1,0,0,1,1]:List Int)) h (show qm.R _ _ ((⟨s.code,i7,i8⟩:qb):qb) _ from⟨[oL p1 s.code a],[vi i7,vi i8],Z,⟨_,_,Z,(qF (h.frG 12 0 2 Z Z Z)).1⟩,⟨[vi i7],[vi i8],Z,Z,Z⟩⟩) hr5) Z Z Z Z ?_;rintro _ _ ⟨S11,_,rfl,h⟩;obtain⟨J,B,K,C,L,D,rfl,-,-,-⟩:=aV (h.own 0 Z);replace h:SH _ _ [oW S11 (Y:qQ) (qP Y J K L B C D),xb b s p1 a i9 a3,oX bb7 (qP z p t u k l o) 106,oW S9 (z:qQ) (qP z p t u k l o),oX e (qP v d f g k8 k9 c) 106,oW S7 (v:qQ) (qP v d f g k8 k9 c),oX P (qP i T W X Q R S) 106,oW S5 (i:qQ) (qP i T W X Q R S),oX A (qP r1 M N O H k3 I) 106,oW S3 (r1:qQ) (qP r1 M N O H k3 I),oX y [oS U 0 0] 26,oX x [oS U 0 0] 26,xf w0 w F s p1 a]:=h;refine qi qa h Z Z Z λ_ bb8 h=>zs 0 h Z λ_ h=>X0 4 Z ?_;have h:=h.p [2,0,1,3,4,5,6,7,8,9,10,11,12,13] Z;obtain⟨⟨r6,a4,a5⟩,hr6,hF⟩:=qc hF;refine bO (cB 244 Z) (rJ (s:=(⟨s.code,i9,a3⟩:qb)) (name:=(⟨#[102,108,111,112]⟩:ByteArray)) (kind:=2) (edge:=2) h (show qm.R _ _ ((⟨s.code,i9,a3⟩:qb):qb) _ from⟨[oL p1 s.code a],[vi i9,vi a3],Z,⟨_,_,Z,(qF (h.frG 13 0 1 Z Z Z)).1⟩,⟨[vi i9],[vi a3],Z,Z,Z⟩⟩) hr6) Z Z Z Z ?_;rintro _ _ ⟨S12,_,rfl,h⟩;obtain⟨p22,a8,p23,a9,p24,b4,rfl,-,-,-⟩:=aV (h.own 0 Z);replace h:SH _ _ [oW S12 (r6:qQ) (qP r6 p22 p23 p24 a8 a9 b4),xb b s p1 a a4 a5,oX bb8 (qP Y J K L B C D) 106,oW S11 (Y:qQ) (qP Y J K L B C D),oX bb7 (qP z p t u k l o) 106,oW S9 (z:qQ) (qP z p t u k l o),oX e (qP v d f g k8 k9 c) 106,oW S7 (v:qQ) (qP v d f g k8 k9 c),oX P (qP i T W X Q R S) 106,oW S5 (i:qQ) (qP i T W X Q R S),oX A (qP r1 M N O H k3 I) 106,oW S3 (r1:qQ) (qP r1 M N O H k3 I),oX y [oS U 0 0] 26,oX x [oS U 0 0] 26,xf w0 w F s p1 a]:=h;refine qi qa h Z Z Z λ_ bb9 h=>zs 0 h Z λ_ h=>X0 4 Z ?_;have h:=h.p [2,0,1,3,4,5,6,7,8,9,10,11,12,13,14,15] Z;obtain⟨⟨r7,a6,a7⟩,hr7,hF⟩:=qc hF;refine bO (cB 244 Z) (rJ (s:=(⟨s.code,a4,a5⟩:qb)) (name:=(⟨#[102,108,111,112,110]⟩:ByteArray)) (kind:=2) (edge:=3) h (show qm.R _ _ ((⟨s.code,a4,a5⟩:qb):qb) _ from⟨[oL p1 s.code a],[vi a4,vi a5],Z,⟨_,_,Z,(qF (h.frG 15 0 1 Z Z Z)).1⟩,⟨[vi a4],[vi a5],Z,Z,Z⟩⟩) hr7) Z Z Z Z ?_;rintro _ _ ⟨S13,_,rfl,h⟩;obtain⟨p25,k20,p26,k21,p27,k22,rfl,-,-,-⟩:=aV (h.own 0 Z);replace h:SH _ _ [oW S13 (r7:qQ) (qP r7 p25 p26 p27 k20 k21 k22),xb b s p1 a a6 a7,oX bb9 (qP r6 p22 p23 p24 a8 a9 b4) 106,oW S12 (r6:qQ) (qP r6 p22 p23 p24 a8 a9 b4),oX bb8 (qP Y J K L B C D) 106,oW S11 (Y:qQ) (qP Y J K L B C D),oX bb7 (qP z p t u k l o) 106,oW S9 (z:qQ) (qP z p t u k l o),oX e (qP v d f g k8 k9 c) 106,oW S7 (v:qQ) (qP v d f g k8 k9 c),oX P (qP i T W X Q R S) 106,oW S5 (i:qQ) (qP i T W X Q R S),oX A (qP r1 M N O H k3 I) 106,oW S3 (r1:qQ) (qP r1 M N O H k3 I),oX y [oS U 0 0] 26,oX x [oS U 0 0] 26,xf w0 w F s p1 a]:=h;refine qi qa h Z Z Z λ_ bb10 h=>zs 0 h Z λ_ h=>X0 4 Z ?_;have h:=h.p [2,0,1,3,4,5,6,7,8,9,10,11,12,13,14,15,16,17] Z;obtain⟨⟨r8,i15,i16⟩,hr8,hF⟩:=qc hF;refine bO (cB 244 Z) (rJ (s:=(⟨s.code,a6,a7⟩:qb)) (name:=(⟨#[108,97,116,99,104]⟩:ByteArray)) (kind:=3) (edge:=2) h (show qm.R _ _ ((⟨s.code,a6,a7⟩:qb):qb) _ from⟨[oL p1 s.code a],[vi a6,vi a7],Z,⟨_,_,Z,(qF (h.frG 17 0 1 Z Z Z)).1⟩,⟨[vi a6],[vi a7],Z,Z,Z⟩⟩) hr8) Z Z Z Z ?_;rintro _ _ ⟨S14,_,rfl,h⟩;obtain⟨p28,k23,p29,k24,p30,k25,rfl,-,-,-⟩:=aV (h.own 0 Z);replace h:SH _ _ [oW S14 (r8:qQ) (qP r8 p28 p29 p30 k23 k24 k25),xb b s p1 a i15 i16,oX bb10 (qP r7 p25 p26 p27 k20 k21 k22) 106,oW S13 (r7:qQ) (qP r7 p25 p26 p27 k20 k21 k22),oX bb9 (qP r6 p22 p23 p24 a8 a9 b4) 106,oW S12 (r6:qQ) (qP r6 p22 p23 p24 a8 a9 b4),oX bb8 (qP Y J K L B C D) 106,oW S11 (Y:qQ) (qP Y J K L B C D),oX bb7 (qP z p t u k l o) 106,oW S9 (z:qQ) (qP z p t u k l o),oX e (qP v d f g k8 k9 c) 106,oW S7 (v:qQ) (qP v d f g k8 k9 c),oX P (qP i T W X Q R S) 106,oW S5 (i:qQ) (qP i T W X Q R S),oX A (qP r1 M N O H k3 I) 106,oW S3 (r1:qQ) (qP r1 M N O H k3 I),oX y [oS U 0 0] 26,oX x [oS U 0 0] 26,xf w0 w F s p1 a]:=h;refine qi qa h Z Z Z λ_ _ h=>zs 0 h Z λ_ h=>X5 8 15 13 11 9 7 h Z (X3 3 5 3 0 h Z (kB qa [.tmp 34,.tmp 35,.tmp 36,.tmp 37,.tmp 38,.tmp 39,.tmp 40,.tmp 41] _ ([r1,i,v,z,Y,r6,r7,r8]:List qQ) [0,2,3,5,7,9,11,13,15,17,18,19] h Z Z Z Z Z Z Z Z Z (gb (qS 16 h Z) (gb (qS 14 h Z) (gb (qS 12 h Z) (gb (qS 10 h Z) (gb (qS 8 h Z) (gb (qS 6 h Z) (gb (qS 4 h Z) (gb (qS 1 h Z) pN Z) Z) Z) Z) Z) Z) Z) Z) Z Z λ_ p31 _ h=>cr Z (zs 10 h Z λ_ h=>X1 4 10 h Z (zs 11 h Z λ_ h=>ae ?_))));have hk1:=h;obtain⟨_,h⟩:=h.gather [1,2,3,4,5,6,7,8,9,10,11,12] (YT (⟨([r1,i,v,z,Y,r6,r7,r8]:List qQ)⟩:qD) h (qS 0 h Z) ) Z;obtain rfl:=qe hF;have h:=h.p [0,2,12] Z;exact ce qa [oV qD [oS p31 8 8]] ⟨⟨_,_,_,Z,Z,hk1.box 11 Z,Z⟩,G⟩ ⟨_,_,Z,Cv 1 1 h0 h Z Z⟩
def dU:Nat->Int->Option ByteArray|0,_=>U|n+1,a_n=>bif decide (a_n<0) then((dU n) (qj (0-a_n))).bind λr1=>(WX (⟨#[45]⟩:ByteArray) r1).bind λb=>V b else bif decide (a_n<10) then V (QM ([(⟨IntKind.wrap .u8 (qj (48+a_n))⟩:gW .u8)]:List (gW .u8))) else((dU n) (qj (a_n.tdiv 10))).bind λa=>(WX a (QM ([(⟨IntKind.wrap .u8 (qj (48+(a_n.tmod 10)))⟩:gW .u8)]:List (gW .u8)))).bind λc=>V c
theorem yE{n}:∀{w:World} {m:Int}  {r:ByteArray} (_:dU n m=V r),qN prog 245 [vi m] w r:=by
 induction n with
 |zero=>intro w m r F;rw[dU] at F;cases F
 |succ n ih=>
  intro w m r F;obtain⟨s,o⟩:∃s,s=dU n:=⟨_,Z⟩;rw[<-o] at ih;refine zV 26 func245 Z λh=>?_;unfold dU at F;rw[<-o] at F;refine X0 10 Z (qn Z F ?_ ?_)<;>intro F
  .refine X0 4 Z (qeF h F ih Z λ_ _ h F=>?_);obtain⟨_,c,F⟩:=qc F;obtain⟨f,c⟩:=xn c;refine dF (TN f Z Z) Z ?_;rw[c];refine X0 2 Z ?_;obtain rfl:=qe F;exact aC qa (ρ:=ByteArray) [_] h ⟨Z,G⟩ (VX _ _)
  .refine X0 7 Z (qn Z F ?_ ?_)<;>intro F
   .refine X0 5 Z (qt qa [.tmp 13] _ ([(⟨IntKind.wrap .u8 (qj (48+m))⟩:gW .u8)]:List (gW .u8)) h z9 ⟨Z,G⟩ Z λ_ _ _ h=>dF (OH qa (h.sl 0 Z).1 (h.sl 0 Z).2 Z ⟨Z,Z⟩ ⟨Z,Z⟩ Z Z) Z (X0 2 Z ?_));obtain rfl:=qe F;exact aC qa (ρ:=ByteArray) [_] h ⟨Z,G⟩ (VX _ _)
   .refine N7 ?_;obtain⟨d,b,F⟩:=qc F;obtain⟨l,a,F⟩:=qc F;refine bw (λe w'=>e=[(2,.string l)]/\SH w w' []) ?_ ?_
    .refine rA [] [] h Z λ_ h=>M0 123 [0,1,3,4,5,6] (h.p [] Z) Z (At 2 7 127 251 Z ?_ ?_)
     .refine OF d h (cB 245 Z) (ih b) Z Z Z Z λ_ h=>Ag (h.p [] Z) (Ao 7 255 Z (qt qa [.tmp 22] _ ([(⟨IntKind.wrap .u8 (qj (48+(m.tmod 10)))⟩:gW .u8)]:List (gW .u8)) h z9 ⟨Z,G⟩ Z λ_ _ _ h=>Ag (h.p [] Z) (Ao 8 511 Z (dF (OH qa (h.sl 0 Z).1 (h.sl 0 Z).2 Z ⟨Z,Z⟩ ⟨Z,Z⟩ Z Z) Z (Ag (h.p [] Z) ?_)))));obtain⟨g,a⟩:=xn a;refine Aw 9 1023 (λw' p=>TN g Z Z) (h.p [] Z) Z ?_;rw[a];refine M0 2047 [10] (h.p [] Z) Z (Ad ?_);exact rG ⟨Z,h.p [] Z⟩ Z
     .refine qt qa [.tmp 22] _ ([(⟨IntKind.wrap .u8 (qj (48+(m.tmod 10)))⟩:gW .u8)]:List (gW .u8)) h z9 ⟨Z,G⟩ Z λ_ _ _ h=>Ag (h.p [] Z) (At 2 8 255 507 Z ?_ ?_)
      .refine OF d h (cB 245 Z) (ih b) Z Z Z Z λ_ h=>Ag (h.p [] Z) (Ao 8 511 Z (dF (OH qa (h.sl 0 Z).1 (h.sl 0 Z).2 Z ⟨Z,Z⟩ ⟨Z,Z⟩ Z Z) Z (Ag (h.p [] Z) ?_)));obtain⟨i,a⟩:=xn a;refine Aw 9 1023 (λw' p=>TN i Z Z) (h.p [] Z) Z ?_;rw[a];refine M0 2047 [10] (h.p [] Z) Z (Ad ?_);exact rG ⟨Z,h.p [] Z⟩ Z
      .refine dF (OH qa (h.sl 0 Z).1 (h.sl 0 Z).2 Z ⟨Z,Z⟩ ⟨Z,Z⟩ Z Z) Z (Ag (h.p [] Z) (Ao 2 511 Z (OF d h (cB 245 Z) (ih b) Z Z Z Z λ_ h=>Ag (h.p [] Z) ?_)));obtain⟨k,a⟩:=xn a;refine Aw 9 1023 (λw' p=>TN k Z Z) (h.p [] Z) Z ?_;rw[a];refine M0 2047 [10] (h.p [] Z) Z (Ad ?_);exact rG ⟨Z,h.p [] Z⟩ Z
    .rintro _ _ ⟨rfl,h⟩;obtain rfl:=qe F;exact aC qa (ρ:=ByteArray) [_] h ⟨Z,G⟩ (VX _ _)
def kW(Ce:qb)(g:List ByteArray)(h:Int):Nat->(List Int)->Int->Int->Int->Option ((List Int)×Int×Int×Int)|0,_,_,_,_=>U|n+1,p,b,c,a=>(qG ([2,2,3,3,4,3,3,3]:List Int) h).bind λv=>bif decide (a<(qj (v-1))) then(qv n (⟨Ce.code,b,c⟩:qb) (qj ((g.length:Int)-1))).bind λ(i,k,l)=>(qv n (⟨Ce.code,k,l⟩:qb) 3).bind λ(i16,d,f)=>(bif (i16==0) then V (qj ((g.length:Int)-1)) else V (qj (1+i))).bind λm=>(bif decide (h>=5) then V (a==1) else V Cd).bind λb3=>bif b3 then(df ([]:List Int) p).bind λr=>(df r ([0]:List Int)).bind λs=>kW Ce g h n s d f (qj (a+1)) else(df ([]:List Int) p).bind λt=>(df t ([m]:List Int)).bind λu=>kW Ce g h n u d f (qj (a+1)) else V (p,b,c,a)
def kX(Ce:qb)(Cg:Bool)(s:List ByteArray)(t:List qO):Nat->(List qO)->Int->Int->Int->Option ((List qO)×Int×Int×Int)|0,_,_,_,_=>U|n+1,b,f,g,a=>bif decide (a<(t.length:Int)) then((qv n (⟨Ce.code,f,g⟩:qb) 4).bind λ(r,c,d)=>bif (r==0) then(qG b a).bind λv=>bif (v.Bv==5) then V (c,d,An) else(qG b a).bind λx=>bif (x.Bv==6) then V (c,d,An) else V (c,d,Cg) else V (c,d,Cd)).bind λ(h,i,u)=>bif u then(qG b a).bind λk=>(qv n (⟨Ce.code,h,i⟩:qb) (qj ((s.length:Int)-1))).bind λ(l,m,p)=>(qG k.Ap 0).bind λ_=>kX Ce Cg s t n (am b a (⟨k.Bi,k.Bv,(am k.Ap 0 (qj (1+l)))⟩:qO)) m p (qj (a+1)) else kX Ce Cg s t n b h i (qj (a+1)) else V (b,f,g,a)
def mP(Ce:qb):Nat->(List ByteArray)->(List qO)->Int->Int->Int->Option ((List ByteArray)×(List qO)×Int×Int×Int)|0,_,_,_,_,_=>U|n+1,a,i,k,l,d=>bif decide (d > 0) then(qv n (⟨Ce.code,k,l⟩:qb) 12).bind λ(p,i8,r)=>(qG ([0,1,2,2,3,4,5,5,5,6,7,1]:List Int) p).bind λm=>(dU n (i.length:Int)).bind λr1=>(WX (⟨#[117]⟩:ByteArray) r1).bind λv=>(kW Ce a m n ([]:List Int) i8 r 0).bind λ(t,b,c,_)=>(df ([]:List Int) t).bind λu=>(df u ([(a.length:Int)]:List Int)).bind λf=>(dU n (a.length:Int)).bind λs=>(WX (⟨#[110]⟩:ByteArray) s).bind λx=>(df a ([x]:List ByteArray)).bind λg=>(df i ([(⟨v,m,f⟩:qO)]:List qO)).bind λh=>mP Ce n g h b c (qj (d-1)) else V (a,i,k,l,d)
def xi(n:Nat)(Ce:qb)(Cf:Int)(Cg:Bool):Option (qk×Int×Int):=(df ([]:List ByteArray) ([(⟨#[110,99,107]⟩:ByteArray),(⟨#[110,97]⟩:ByteArray),(⟨#[110,98]⟩:ByteArray)]:List ByteArray)).bind λx1=>(qv n (⟨Ce.code,Ce.at_,Ce.seed⟩:qb) (qj (Cf-1))).bind λ(s,t,u)=>(mP Ce n x1 ([]:List qO) t u (qj (2+s))).bind λ(d,r,v,x,_)=>(kX Ce Cg d r n r v x 0).bind λ(b,f,g,_)=>(df ([]:List bq) ([(⟨(⟨#[99,107]⟩:ByteArray),1,0⟩:bq),(⟨(⟨#[97]⟩:ByteArray),1,1⟩:bq),(⟨(⟨#[98]⟩:ByteArray),1,2⟩:bq)]:List bq)).bind λm=>(df m ([(⟨(⟨#[121]⟩:ByteArray),2,qj ((d.length:Int)-1)⟩:bq)]:List bq)).bind λc=>(qv n (⟨Ce.code,f,g⟩:qb) 2).bind λ(h,i32,a)=>bif (h==0) then(qv n (⟨Ce.code,i32,a⟩:qb) (qj ((d.length:Int)-1))).bind λ(i,k,l)=>(df c ([(⟨(⟨#[122]⟩:ByteArray),2,qj (1+i)⟩:bq)]:List bq)).bind λp=>V ((⟨b,d,p⟩:qk),k,l) else V ((⟨b,d,c⟩:qk),i32,a)
theorem LV{n p w F}{Ce:qb}{a p1 g Cf Cg}(h0:SH p w (xb a Ce p1 g Ce.at_ Ce.seed::F))(ha1:qm.R w (Fr p F) Ce (aq Ce p1 g)){r:qk×Int×Int}(hF:xi n Ce Cf Cg=V r):yb prog 205 [vp a,vi Cf,.bool Cg] w (λus w'=>∃S1 cs1,us=[oV qk cs1]/\SH p w' (oW S1 (r.1:qk) cs1::xb a Ce p1 g r.2.1 r.2.2::F)):=by
 have h:=Da h0 ha1;refine cz func205 Z (m:=174) Z Z (db (qi qa h Z Z Z λ_ c h=>QS (qt qa [.const (.string WV),.const (.string qcQ),.const (.string qcR)] _ ([WV,qcQ,qcR]:List ByteArray) h z9 ⟨Z,Z,Z,G⟩ Z λ_ v S2 h=>dF (qB qa [1] [.tmp 18] z8) Z (qi qa h Z Z Z λ_ d h=>zs 0 h Z λ_ h=>QS (dF (qB qa [0,1] [.const (.string BZ),.const (vi (1))] z8) Z (dF (qB qa [0,1,2] [.const (.string MW),.const (vi (1)),.const (vi (1))] z8) Z (dF (qB qa [0,1,2] [.const (.string MX),.const (vi (1)),.const (vi (2))] z8) Z (qt qa [.tmp 20,.tmp 21,.tmp 22] _ ([(⟨BZ,1,0⟩:bq),(⟨MW,1,1⟩:bq),(⟨MX,1,2⟩:bq)]:List bq) h z9 ⟨(vt (⟨BZ,1,0⟩:bq)),(vt (⟨MW,1,1⟩:bq)),(vt (⟨MX,1,2⟩:bq)),G⟩ Z λ_ x S3 h=>cr Z (zs 1 h Z λ_ h=>QS (qt qa [.const (vi (2)),.const (vi (2)),.const (vi (3)),.const (vi (3)),.const (vi (4)),.const (vi (3)),.const (vi (3)),.const (vi (3))] _ ([2,2,3,3,4,3,3,3]:List Int) h z9 ⟨Z,Z,Z,Z,Z,Z,Z,Z,G⟩ Z λ_ P S4 h=>X0 4 Z (kB qa [] _ ([]:List qO) [0,1,2,3,4,5,6] h Z Z Z Z Z Z Z Z Z pN Z Z λ_ _ _ h=>X0 4 Z (qt qa [] _ ([]:List ByteArray) h z9 trivial Z λ_ _ _ h=>X1 2 4 h Z ?_))))))))))));obtain⟨_,T,hF⟩:=qc hF;obtain⟨g1,T⟩:=qJ T;refine bn qa 0 h Z (h.sl 5 Z).1 (h.sl 5 Z).2 z9 g1 T Z λ_ _ _ _ h=>X0 8 Z ?_;have h:=h.p [7,0,1,2,3,4,5,6,8] Z;obtain⟨⟨_,_,_⟩,hr1,hF⟩:=qc hF;refine mv h (h.frG 8 0 1 Z Z Z) hr1 Z Z Z λ_ h=>X0 3 Z ?_;obtain⟨o2,hF,hK1⟩:=qc hF;refine qq (rL (λm e w'=>∃R l ln1 k3 b S9 o ln2 i f i4 i5 i6,mP Ce m b f i4 i5 i6=V o2/\e=[(0,vp a),(2,.bool Cg),(6,vp c),(7,vp d),(8,oS P 8 8),(9,oS o ln2 i),(10,oS l ln1 k3),(11,vi i6)]/\SH p w' [xb a Ce p1 g i4 i5,oW R (b:List ByteArray) [oS l ln1 k3],oW S9 (f:List qO) [oS o ln2 i],oW S4 (([2,2,3,3,4,3,3,3]:List Int):List Int) [oS P 8 8],oW S3 (([(⟨BZ,1,0⟩:bq),(⟨MW,1,1⟩:bq),(⟨MX,1,2⟩:bq)]:List bq):List bq) [oS x 3 3],oX d [oS U 0 0,oS v 3 3,oS x 3 3] 31,oW S2 (([WV,qcQ,qcR]:List ByteArray):List ByteArray) [oS v 3 3],oX c WG 31,xf p w F Ce p1 g]) n ⟨_,_,_,_,_,_,_,_,_,_,_,_,_,hF,Z,h⟩ Z ?_);rintro m1 _ _ ⟨R,l,ln1,k3,b,S9,o,ln2,i,f,i4,i5,i6,hF,rfl,h⟩;obtain rfl:=(h.sl 1 Z).2;obtain rfl:=(h.sl 2 Z).2;rcases m1 with _|m1
 .cases hF
 refine X0 6 Z (qn Z hF ?_ ?_)<;>intro hF
 .refine ly (qt qa [.const (vi (0)),.const (vi (1)),.const (vi (2)),.const (vi (2)),.const (vi (3)),.const (vi (4)),.const (vi (5)),.const (vi (5)),.const (vi (5)),.const (vi (6)),.const (vi (7)),.const (vi (1))] _ ([0,1,2,2,3,4,5,5,5,6,7,1]:List Int) h z9 ⟨Z,Z,Z,Z,Z,Z,Z,Z,Z,Z,Z,Z,G⟩ Z λ_ _ _ h=>cr Z ?_);have h:=h.p [1,0,2,3,4,5,6,7,8,9] Z;obtain⟨⟨_,_,_⟩,hr2,hF⟩:=qc hF;refine mv h (h.frG 9 0 1 Z Z Z) hr2 Z Z Z λ_ h=>?_;obtain⟨M,_,hF,he1,_,_,_,_,hp1,hq1,rfl,hc2⟩:=(h.sl 1 Z).1.ix hF;refine zx hp1 hq1 ⟨he1.1,qE he1.2.1 (h.sl 1 Z).2⟩ Z (zc 0 hc2 Z (X0 6 Z (qeF h hF yE Z λ_ _ h hF=>?_)));obtain⟨z1,W,hF⟩:=qc hF;obtain⟨g2,W⟩:=xn W;refine dF (TN g2 Z Z) Z ?_;rw[W];refine cr Z (dF (qB qa [0,1] [.tmp 48,.tmp 49] z8) Z (qi qa h Z Z Z λ_ s h=>zs 0 h Z λ_ h=>X0 6 Z ?_));have h:=h.nil (α:=Int);obtain⟨o4,hF,hK2⟩:=qc hF;refine qq ?_;have h:=h.p [0,1,2,4,5,6,7,8,9,10,11] Z;refine rL (λm e w'=>∃J k ln3 k5 L a8 a9 D,kW Ce b M m L a8 a9 D=V o4/\e=[(0,vp a),(2,.bool Cg),(6,vp c),(7,vp d),(8,oS P 8 8),(9,oL o f i),(10,oL l b k3),(11,vi i6),(12,vi M),(13,vp s),(14,vi D)]/\SH p w' [oW J (L:List Int) [oS k ln3 k5],oX s [.string z1,vi M,oS k ln3 k5] 206,xb a Ce p1 g a8 a9,oW R (b:List ByteArray) [oL l b k3],oW S9 (f:List qO) [oL o f i],oW S4 (([2,2,3,3,4,3,3,3]:List Int):List Int) [oS P 8 8],oW S3 (([(⟨BZ,1,0⟩:bq),(⟨MW,1,1⟩:bq),(⟨MX,1,2⟩:bq)]:List bq):List bq) [oS x 3 3],oX d [oS U 0 0,oS v 3 3,oS x 3 3] 31,oW S2 (([WV,qcQ,qcR]:List ByteArray):List ByteArray) [oS v 3 3],oX c WG 31,xf p w F Ce p1 g]) m1 ⟨_,_,_,_,_,_,_,_,hF,Z,h⟩ Z ?_;rintro m2 _ _ ⟨J,k,ln3,k5,L,a8,a9,D,hF,rfl,h⟩;obtain rfl:=(h.sl 0 Z).2;rcases m2 with _|m2
  .cases hF
  refine X0 6 Z ?_;obtain⟨_,_,hF,he2,_,_,_,_,hp2,hq2,rfl,hc3⟩:=(h.sl 5 Z).1.ix hF;refine zx hp2 hq2 ⟨he2.1,qE he2.2.1 (h.sl 5 Z).2⟩ Z (zc 0 hc3 Z (X0 3 Z (qn Z hF ?_ ?_)))<;>intro hF
  .refine X0 9 Z ?_;have h:=h.p [2,0,1,3,4,5,6,7,8,9,10] Z;obtain⟨⟨_,_,_⟩,hr6,hF⟩:=qc hF;refine mv h (h.frG 10 0 1 Z Z Z) hr6 Z Z Z λ_ h=>X0 7 Z ?_;obtain⟨⟨_,i17,i18⟩,hr7,hF⟩:=qc hF;refine mv h (h.frG 10 0 1 Z Z Z) hr7 Z Z Z λ_ h=>X0 2 Z ?_;obtain⟨KF2,hKF2,_,hF,hK4⟩:=bindE hF;refine bw (λe w'=>∃H,KF2 H=V o4/\e=[(0,vp a),(2,.bool Cg),(6,vp c),(7,vp d),(8,oS P 8 8),(9,oL o f i),(10,oL l b k3),(11,vi i6),(12,vi M),(13,vp s),(14,vi D),(15,vi H)]/\SH p w' [xb a Ce p1 g i17 i18,oW J (L:List Int) [oL k L k5],oX s [.string z1,vi M,oL k L k5] 206,oW R (b:List ByteArray) [oL l b k3],oW S9 (f:List qO) [oL o f i],oW S4 (([2,2,3,3,4,3,3,3]:List Int):List Int) [oS P 8 8],oW S3 (([(⟨BZ,1,0⟩:bq),(⟨MW,1,1⟩:bq),(⟨MX,1,2⟩:bq)]:List bq):List bq) [oS x 3 3],oX d [oS U 0 0,oS v 3 3,oS x 3 3] 31,oW S2 (([WV,qcQ,qcR]:List ByteArray):List ByteArray) [oS v 3 3],oX c WG 31,xf p w F Ce p1 g]) ?_ ?_
   .refine qn Z hF ?_ ?_<;>intro hF
    .refine X0 6 Z ?_;exact rH hF hK4 h Z
    refine eZ ?_;exact rH hF hK4 h Z
   rintro _ _ ⟨H,hF,rfl,h⟩;subst hKF2;refine qd6 ?_;obtain⟨KF1,hKF1,_,hF,hK3⟩:=bindE hF;refine bw (λe w'=>∃b3,KF1 b3=V o4/\e=[(0,vp a),(2,.bool Cg),(6,vp c),(7,vp d),(8,oS P 8 8),(9,oL o f i),(10,oL l b k3),(11,vi i6),(12,vi M),(13,vp s),(14,vi D),(15,vi H),(77,.bool b3)]/\SH p w' [xb a Ce p1 g i17 i18,oW J (L:List Int) [oL k L k5],oX s [.string z1,vi M,oL k L k5] 206,oW R (b:List ByteArray) [oL l b k3],oW S9 (f:List qO) [oL o f i],oW S4 (([2,2,3,3,4,3,3,3]:List Int):List Int) [oS P 8 8],oW S3 (([(⟨BZ,1,0⟩:bq),(⟨MW,1,1⟩:bq),(⟨MX,1,2⟩:bq)]:List bq):List bq) [oS x 3 3],oX d [oS U 0 0,oS v 3 3,oS x 3 3] 31,oW S2 (([WV,qcQ,qcR]:List ByteArray):List ByteArray) [oS v 3 3],oX c WG 31,xf p w F Ce p1 g]) ?_ ?_
   .refine X0 4 Z (qh (t:=74) hF Z ?_ ?_)<;>intro hF
    .refine X0 6 Z ?_;exact rH hF hK3 h Z
    refine X0 4 Z ?_;exact rH hF hK3 h Z
   rintro _ _ ⟨b3,hF,rfl,h⟩;subst hKF1;refine qn Z hF ?_ ?_<;>intro hF
   .refine X0 4 Z (qt qa [] _ ([]:List Int) h z9 trivial Z λ_ _ _ h=>X1 2 3 h Z ?_);obtain⟨_,X,hF⟩:=qc hF;obtain⟨g3,X⟩:=qJ X;refine bn qa 0 h Z (h.sl 2 Z).1 (h.sl 2 Z).2 z9 g3 X Z λ_ _ _ _ h=>cr Z (qt qa [.tmp 82] _ ([0]:List Int) h z9 ⟨Z,G⟩ Z λ_ _ _ h=>?_);obtain⟨_,Y,hF⟩:=qc hF;obtain⟨g4,Y⟩:=qJ Y;refine bn qa 1 h Z (h.sl 0 Z).1 (h.sl 0 Z).2 z9 g4 Y Z λ_ _ _ _ h=>cr Z (zs 4 h Z λ_ h=>X0 7 Z ?_);exact rK ⟨_,_,_,_,_,_,_,_,hF,Z,h.p [1,4,2,5,6,7,8,9,10,11,12] Z⟩ Z
   refine X0 2 Z (qt qa [] _ ([]:List Int) h z9 trivial Z λ_ _ _ h=>X1 2 3 h Z ?_);obtain⟨_,a3,hF⟩:=qc hF;obtain⟨g5,a3⟩:=qJ a3;refine bn qa 0 h Z (h.sl 2 Z).1 (h.sl 2 Z).2 z9 g5 a3 Z λ_ _ _ _ h=>cr Z (qt qa [.tmp 82] _ ([H]:List Int) h z9 ⟨Z,G⟩ Z λ_ _ _ h=>?_);obtain⟨_,a4,hF⟩:=qc hF;obtain⟨g6,a4⟩:=qJ a4;refine bn qa 1 h Z (h.sl 0 Z).1 (h.sl 0 Z).2 z9 g6 a4 Z λ_ _ _ _ h=>cr Z (zs 4 h Z λ_ h=>X0 7 Z ?_);exact rK ⟨_,_,_,_,_,_,_,_,hF,Z,h.p [1,4,2,5,6,7,8,9,10,11,12] Z⟩ Z
  refine qy Z ?_;cases qe hF;replace hF:=hK2;refine db (qt qa [] _ ([]:List Int) h z9 trivial Z λ_ _ _ h=>X1 2 2 h Z ?_);obtain⟨_,a5,hF⟩:=qc hF;obtain⟨g7,a5⟩:=qJ a5;refine bn qa 0 h Z (h.sl 1 Z).1 (h.sl 1 Z).2 z9 g7 a5 Z λ_ _ _ _ h=>mr Z (qt qa [.tmp 91] _ ([(b.length:Int)]:List Int) h z9 ⟨Z,G⟩ Z λ_ _ _ h=>?_);obtain⟨x10,a6,hF⟩:=qc hF;obtain⟨g8,a6⟩:=qJ a6;refine bn qa 1 h Z (h.sl 0 Z).1 (h.sl 0 Z).2 z9 g8 a6 Z λ_ _ _ _ h=>cr Z (zs 3 h Z λ_ h=>X0 6 Z (qeF h hF yE Z λ_ _ h hF=>?_));obtain⟨z2,a7,hF⟩:=qc hF;obtain⟨g9,a7⟩:=xn a7;refine dF (TN g9 Z Z) Z ?_;rw[a7];refine qt qa [.tmp 99] _ ([z2]:List ByteArray) h z9 ⟨Z,G⟩ Z λ_ _ _ h=>?_;obtain⟨_,y,hF⟩:=qc hF;obtain⟨g10,y⟩:=qJ y;refine bn qa 6 h Z (h.sl 0 Z).1 (h.sl 0 Z).2 z9 g10 y Z λ_ _ _ _ h=>X1 5 4 h Z (kB qa [.tmp 103] _ ([(⟨z1,M,x10⟩:qO)]:List qO) [0,1,3,4,5,6,7,8,9,10,11,12,13] h Z Z Z Z Z Z Z Z Z (gb (IQ (⟨z1,M,x10⟩:qO) h sO sO (qS 2 h Z) (by rfl) (by rfl)) pN Z) Z Z λ_ _ _ h=>?_);obtain⟨_,z,hF⟩:=qc hF;obtain⟨g11,z⟩:=qJ z;have h:=h.p [0,7,1,2,3,4,5,6,8,9,10,11,12,13] Z;refine BD qa h Z Z Z Z Z Z Z Z Z g11 z Z λ_ _ _ _ h=>X0 8 Z ?_;exact rK ⟨_,_,_,_,_,_,_,_,_,_,_,_,_,hF,Z,h.p [5,6,0,7,8,9,10,11,12] Z⟩ Z
 refine qy Z ?_;cases qe hF;replace hF:=hK1;refine X0 5 Z ?_;obtain⟨o9,hF,hK5⟩:=qc hF;refine qq ?_;have h:=h.p [0,1,2,4,5,6,7,8] Z;refine rL (λm e w'=>∃Q u b5 b6 I,kX Ce Cg b f m u b5 b6 I=V o9/\e=[(0,vp a),(2,.bool Cg),(6,vp c),(7,vp d),(9,oL o f i),(10,oL l b k3),(16,vi I)]/\SH p w' [xb a Ce p1 g b5 b6,oW R (b:List ByteArray) [oL l b k3],oW Q (u:List qO) [oL o f i],oW S3 (([(⟨BZ,1,0⟩:bq),(⟨MW,1,1⟩:bq),(⟨MX,1,2⟩:bq)]:List bq):List bq) [oS x 3 3],oX d [oS U 0 0,oS v 3 3,oS x 3 3] 31,oW S2 (([WV,qcQ,qcR]:List ByteArray):List ByteArray) [oS v 3 3],oX c WG 31,xf p w F Ce p1 g]) n ⟨_,_,_,_,_,hF,Z,h⟩ Z ?_;rintro m3 _ _ ⟨Q,u,b5,b6,I,hF,rfl,h⟩;rcases m3 with _|m3
 .cases hF
 refine X0 8 Z (qn Z hF ?_ ?_)<;>intro hF
 .refine X0 4 Z ?_;obtain⟨KF3,hKF3,_,hF,K⟩:=bindE hF;refine bw (λe w'=>∃b7 b8 b4,KF3 (b7,b8,b4)=V o9/\e=[(0,vp a),(2,.bool Cg),(6,vp c),(7,vp d),(9,oL o f i),(10,oL l b k3),(16,vi I),(133,.bool b4)]/\SH p w' [xb a Ce p1 g b7 b8,oW R (b:List ByteArray) [oL l b k3],oW Q (u:List qO) [oL o f i],oW S3 (([(⟨BZ,1,0⟩:bq),(⟨MW,1,1⟩:bq),(⟨MX,1,2⟩:bq)]:List bq):List bq) [oS x 3 3],oX d [oS U 0 0,oS v 3 3,oS x 3 3] 31,oW S2 (([WV,qcQ,qcR]:List ByteArray):List ByteArray) [oS v 3 3],oX c WG 31,xf p w F Ce p1 g]) ?_ ?_
  .refine X0 2 Z ?_;obtain⟨⟨_,_,_⟩,hr11,hF⟩:=qc hF;refine mv h (h.frG 7 0 1 Z Z Z) hr11 Z Z Z λ_ h=>mr Z (qh (t:=115) hF Z ?_ ?_)<;>intro hF
   .refine X0 5 Z ?_;obtain⟨_,hy5,hF⟩:=qc hF;have he5:=bJ hy5;have h:=h.lrn0 2 Z;obtain⟨_,o_4,_,_,hp5,hq5,-,N,hc10⟩:=(tV (h.lrnO 2 Z)).1.at hy5;have hr13:=N;obtain⟨_,_,rfl,_⟩:=bI N;have h:=h.lrnAdd 2 Z hr13;refine zx hp5 hq5 ⟨he5.1,qE he5.2.1 (tV (h.lrnO 2 Z)).2⟩ Z (X0 3 Z (zc 1 hc10 Z (X0 4 Z (qh (t:=122) hF Z ?_ ?_))))<;>intro hF
    .refine X0 15 Z ?_;have h:=h.unlrn 2 Z;cases qe hF;exact rG ⟨_,_,_,K,Z,h⟩ Z
    refine X0 5 Z ?_;obtain⟨_,_,hF,he6,_,_,_,_,hp6,hq6,O,hc11⟩:=(tV (h.lrnO 2 Z)).1.ix hF;have hr15:=O;obtain⟨_,_,rfl,_⟩:=bI O;have h:=h.lrnAdd 2 Z hr15;refine zx hp6 hq6 ⟨he6.1,qE he6.2.1 (tV (h.lrnO 2 Z)).2⟩ Z (X0 3 Z (zc 1 hc11 Z (X0 6 Z (qh (t:=130) hF Z ?_ ?_))))<;>intro hF
    .refine X0 5 Z ?_;have h:=h.unlrn 2 Z;cases qe hF;exact rG ⟨_,_,_,K,Z,h⟩ Z
    refine X0 6 Z ?_;have h:=h.unlrn 2 Z;cases qe hF;exact rG ⟨_,_,_,K,Z,h⟩ Z
   refine X0 19 Z ?_;cases qe hF;exact rG ⟨_,_,_,K,Z,h⟩ Z
  rintro _ _ ⟨b7,b8,b4,hF,rfl,h⟩;subst hKF3;refine qn Z hF ?_ ?_<;>intro hF
  .obtain⟨y3,hy3,hF⟩:=qc hF;have he3:=bJ hy3;have h:=h.p [2,0,1,3,4,5,6,7] Z;obtain⟨_,_,_,h⟩:=h.take hy3;obtain⟨_,_,rfl,-⟩:=bI (h.own 0 Z);obtain⟨_,h⟩:=NR h;refine rA [] [1] h Z λ_ h=>M0 3 [0,1] (h.p [1] Z) Z ?_;obtain⟨_,hp3,-,-,hl2⟩:=h.holeAt 1 Z;obtain⟨q3,hq3⟩:∃q,q=0+(I).toNat*qm.k qO:=⟨_,Z⟩;refine Ax 2 7 hp3 hq3 ⟨he3.1,qE he3.2.1 hl2⟩ (h.p [1] Z) Z (M0 15 [3] (h.p [1] Z) Z (Aw 4 31 (λw' hw=>da qa (pZ hw 0 Z hp3 hq3) (j:=2) Z Z Z) (h.p [1] Z) Z ?_));refine M0 511 [5,6,7,8] (h.p [1] Z) Z (Ao 9 1023 Z ?_);have h:=h.p [2,0,1,3,4,5,6,7,8] Z;obtain⟨⟨i25,_,_⟩,hr9,hF⟩:=qc hF;refine mv h (h.frG 8 0 1 Z Z Z) hr9 Z Z Z λ_ h=>G0 2047 [10] (h.p [2] Z) Z ?_;obtain⟨_,hy4,hF,he4,_,_,_,_,hp4,hq4,rfl,hc9⟩:=(h.sl 1 Z).1.ix hF;refine Ax 11 4095 hp4 hq4 ⟨he4.1,qE he4.2.1 (h.sl 1 Z).2⟩ (h.p [2] Z) Z (Ao 12 8191 Z (bM qa 1 0 (qj (1+i25)) h Z hy4 hp4 hq4 Z hc9 Z Z Z Z Z Z Z λ_ h=>Ag (h.p [2] Z) (Ad (X0 6 Z ?_))));obtain⟨_,h⟩:=h.gather [0,2,3,4,5,6,7,8] (IQ (⟨y3.Bi,y3.Bv,(am y3.Ap 0 (qj (1+i25)))⟩:qO) h sO sO (qS 1 h Z) (by rfl) (by rfl)) Z;have h:=h.p [0,2,1,3,4,5,6,7,8] Z;have h:=h.put;obtain⟨_,h⟩:=EE (S:=_) h;exact rK ⟨_,_,_,_,_,hF,Z,h.p [1,2,0,3,4,5,6,7] Z⟩ Z
  exact X0 7 Z (rK ⟨_,_,_,_,_,hF,Z,h⟩ Z)
 refine qy Z ?_;cases qe hF;replace hF:=hK5;refine db (qt qa [] _ ([]:List bq) h z9 trivial Z λ_ _ _ h=>X1 2 5 h Z ?_);obtain⟨_,A,hF⟩:=qc hF;obtain⟨g12,A⟩:=qJ A;refine bn qa 0 h Z (h.sl 4 Z).1 (h.sl 4 Z).2 z9 g12 A Z λ_ _ _ _ h=>X0 8 Z (dF (qB qa [0,1,2] [.const (.string O7),.const (vi (2)),.tmp 153] z8) Z (qt qa [.tmp 154] _ ([(⟨O7,2,qj ((b.length:Int)-1)⟩:bq)]:List bq) h z9 ⟨(vt (⟨O7,2,qj ((b.length:Int)-1)⟩:bq)),G⟩ Z λ_ _ _ h=>?_));obtain⟨x15,B,hF⟩:=qc hF;obtain⟨g13,B⟩:=qJ B;refine bn qa 1 h Z (h.sl 0 Z).1 (h.sl 0 Z).2 z9 g13 B Z λ_ p34 k18 _ h=>X0 6 Z ?_;have h:=h.p [2,0,1,3,4,5,6,7,8,9] Z;obtain⟨⟨_,_,_⟩,hr16,hF⟩:=qc hF;refine mv h (h.frG 9 0 1 Z Z Z) hr16 Z Z Z λ_ h=>X0 2 Z (qn Z hF ?_ ?_)<;>intro hF
 .refine X0 6 Z ?_;obtain⟨⟨i34,_,_⟩,hr17,hF⟩:=qc hF;refine mv h (h.frG 9 0 1 Z Z Z) hr17 Z Z Z λ_ h=>cr Z (dF (qB qa [0,1,2] [.const (.string qdd),.const (vi (2)),.tmp 166] z8) Z (qt qa [.tmp 167] _ ([(⟨qdd,2,qj (1+i34)⟩:bq)]:List bq) h z9 ⟨(vt (⟨qdd,2,qj (1+i34)⟩:bq)),G⟩ Z λ_ _ _ h=>?_));obtain⟨x16,C,hF⟩:=qc hF;obtain⟨g14,C⟩:=qJ C;refine bn qa 3 h Z (h.sl 0 Z).1 (h.sl 0 Z).2 z9 g14 C Z λ_ p36 k19 _ h=>X0 7 Z (dF (qB qa [0,1,2] [.tmp 170,.tmp 171,.tmp 172] z8) Z (zs 9 h Z λ_ h=>ae ?_));have hk1:=h;obtain⟨_,h⟩:=h.gather [0,1,2,6,7,8,9,10] (PW (⟨u,b,x16⟩:qk) h (qS 5 h Z) (qS 4 h Z) (qS 3 h Z) (by rfl) (by rfl)) Z;obtain rfl:=qe hF;have h:=h.p [0,2,8] Z;exact ce qa [oV qk [oL o f i,oL l b k3,oL p36 x16 k19]] ⟨⟨_,_,_,Z,Z,hk1.box 9 Z,Z⟩,G⟩ ⟨_,_,Z,Cv 1 1 h0 h Z Z⟩
 refine X0 6 Z (dF (qB qa [0,1,2] [.tmp 170,.tmp 171,.tmp 172] z8) Z (zs 8 h Z λ_ h=>ae ?_));have hk2:=h;obtain⟨_,h⟩:=h.gather [0,1,5,6,7,8,9] (PW (⟨u,b,x15⟩:qk) h (qS 4 h Z) (qS 3 h Z) (qS 2 h Z) (by rfl) (by rfl)) Z;obtain rfl:=qe hF;have h:=h.p [0,1,7] Z;exact ce qa [oV qk [oL o f i,oL l b k3,oL p34 x15 k18]] ⟨⟨_,_,_,Z,Z,hk2.box 8 Z,Z⟩,G⟩ ⟨_,_,Z,Cv 1 1 h0 h Z Z⟩
def uR(_:Nat)(sinks:Int)(a:Int):Option aR:=(yW sinks (0:Int)).bind λx1=>V (⟨([(-1)]:List Int),([0]:List Int),([a]:List Int),x1⟩:aR)
theorem KA{sinks load}  {r:aR}(F:uR n sinks load=V r):qN prog 246 [vi sinks,vi load] w r:=by
 refine zV 12 func246 Z λh=>db (qi qa h Z Z Z λ_ _ h=>QS (qt qa [.const (vi (-1))] _ ([(-1)]:List Int) h z9 ⟨Z,G⟩ Z λ_ p1 _ h=>qt qa [.const (vi (0))] _ ([0]:List Int) h z9 ⟨Z,G⟩ Z λ_ d _ h=>cr Z (qt qa [.tmp 7] _ ([load]:List Int) h z9 ⟨Z,G⟩ Z λ_ f _ h=>cr Z ?_)));obtain⟨x1,a,F⟩:=qc F;obtain⟨b,c,a⟩:=aT a;refine bC qa Int h z9 b c a Z λ_ _ g h=>dF (qB qa [0,1,2,3] [.tmp 5,.tmp 6,.tmp 8,.tmp 10] z8) Z (zs 4 h Z λ_ h=>ae ?_);obtain rfl:=qe F;exact aC qa (ρ:=aR) [oV aR [oS p1 1 1,oS d 1 1,oS f 1 1,oS g x1.length x1.length]] h ⟨⟨_,_,_,Z,Z,h.box 4 Z,Z⟩,G⟩ (Cr h (rv (zI (⟨([(-1)]:List Int),([0]:List Int),([load]:List Int),x1⟩:aR) h (qS 3 h Z) (qS 2 h Z) (qS 1 h Z) (qS 0 h Z) (by rfl) (by rfl) (by rfl))))
def gT(s:qb)(r1:aR)(i:List Int):Nat->(List Int)->Int->Int->Int->Option ((List Int)×Int×Int×Int)|0,_,_,_,_=>U|n+1,h,b,c,a=>bif decide (a<(r1.Bl.length:Int)) then(qv n (⟨s.code,b,c⟩:qb) (i.length:Int)).bind λ(d,f,g)=>(qG h a).bind λ_=>gT s r1 i n (am h a d) f g (qj (a+1)) else V (h,b,c,a)
def gS(s:qb):Nat->(List Int)->(List Int)->(List Int)->Int->Int->Int->Option ((List Int)×(List Int)×(List Int)×Int×Int×Int)|0,_,_,_,_,_,_=>U|n+1,x1,p,l,m,i8,k=>bif decide (k > 0) then(lw n l).bind λr=>(qv n (⟨s.code,m,i8⟩:qb) (l.length:Int)).bind λ(a,b,c)=>(df r ([a]:List Int)).bind λv=>(lw n p).bind λt=>(qv n (⟨s.code,b,c⟩:qb) 400).bind λ(d,f,g)=>(df t ([d]:List Int)).bind λx=>(lw n x1).bind λu=>(qv n (⟨s.code,f,g⟩:qb) 8).bind λ(i16,h,i)=>(df u ([i16]:List Int)).bind λy=>gS s n y x v h i (qj (k-1)) else V (x1,p,l,m,i8,k)
def su(n:Nat)(s:qb)(sinks:Int):Option (aR×Int×Int):=(qv n (⟨s.code,s.at_,s.seed⟩:qb) 6).bind λ(d,f,g)=>(uR n sinks d).bind λr1=>(qv n (⟨s.code,f,g⟩:qb) 4).bind λ(h,i,k)=>(gS s n r1.Bs r1.Bw r1.Ak i k h).bind λ(x1,m,c,l,i8,_)=>(gT s r1 c n r1.Bl l i8 0).bind λ(p,a,b,_)=>V ((⟨c,m,x1,p⟩:aR),a,b)
theorem EG{n y w F}{s:qb}{a p1 t sinks}(h0:SH y w (xb a s p1 t s.at_ s.seed::F))(W:qm.R w (Fr y F) s (aq s p1 t)){r:aR×Int×Int}(hF:su n s sinks=V r):yb prog 206 [vp a,vi sinks] w (λus w'=>∃S1 cs1,us=[oV aR cs1]/\SH y w' (oW S1 (r.1:aR) cs1::xb a s p1 t r.2.1 r.2.2::F)):=by
 have h:=Da h0 W;refine cz func206 Z (m:=64) Z Z (db (qi qa h Z Z Z λ_ b h=>X0 5 Z ?_));have h:=h.p [1,0,2] Z;obtain⟨⟨_,_,_⟩,a3,hF⟩:=qc hF;refine mv h (h.frG 2 0 1 Z Z Z) a3 Z Z Z λ_ h=>qc6 h hF KA Z λr1 _ _ _ h hF=>?_;obtain⟨_,_,_,_,_,_,N,M,rfl,-,-,-,-⟩:=dM (h.own 0 Z);refine qi qa h Z Z Z λ_ c h=>zs 0 h Z λ_ h=>X0 5 Z ?_;have h:=h.p [2,0,1,3,4] Z;obtain⟨⟨_,_,_⟩,a4,hF⟩:=qc hF;refine mv h (h.frG 4 0 1 Z Z Z) a4 Z Z Z λ_ h=>X0 2 Z ?_;have h:=h.p [2,0,1,3,4] Z;obtain⟨_,_,_,S6,h⟩:=wu h;obtain⟨o3,hF,S⟩:=qc hF;refine qq (rL (λm e w'=>∃P C u z x1 Q D v A f R H x B d i7 i8 i9,gS s m x1 f d i7 i8 i9=V o3/\e=[(0,vp a),(4,vp b),(5,vp c),(6,vi i9)]/\SH y w' [oW S6 (r1.Bl:List Int) [oL N r1.Bl M],oW P (x1:List Int) [oS C u z],oW Q (f:List Int) [oS D v A],oW R (d:List Int) [oS H x B],xb a s p1 t i7 i8,oX c [oS H x B,oS D v A,oS C u z,oL N r1.Bl M] 171,oX b qe2 171,xf y w F s p1 t]) n ⟨_,_,_,_,_,_,_,_,_,_,_,_,_,_,_,_,_,_,hF,Z,h⟩ Z ?_);rintro m1 _ _ ⟨P,C,u,z,x1,Q,D,v,A,f,R,H,x,B,d,i7,i8,i9,hF,rfl,h⟩;obtain rfl:=(h.sl 1 Z).2;obtain rfl:=(h.sl 2 Z).2;obtain rfl:=(h.sl 3 Z).2;rcases m1 with _|m1
 .cases hF
 refine X0 6 Z (qn Z hF ?_ ?_)<;>intro hF
 .refine X1 10 5 h Z (rA [25] [5] h Z λ_ h=>M4 12946203 [0,1,3,4,8,9,11,15,16,18,22,23] 0 0 0 0 (h.p [5] Z) Z (Ao 2 12946207 Z (uY h hF (mM (h.own 3 Z)) Z λ_ _ _ _ _ h hF=>Ag (h.p [6] Z) (Ao 5 12946239 Z ?_))));have h:=h.p [5,0,1,2,3,4,6,7,8] Z;obtain⟨⟨a9,_,_⟩,a5,hF⟩:=qc hF;refine mv h (h.frG 8 0 1 Z Z Z) a5 Z Z Z λ_ h=>Ag (h.p [6] Z) (Ao 6 12946303 Z (qt qa [.tmp 27] _ ([a9]:List Int) h z9 ⟨Z,G⟩ Z λ_ _ _ h=>Ag (h.p [7] Z) (Ao 7 12946431 Z ?_)));obtain⟨_,g,hF⟩:=qc hF;obtain⟨g1,g⟩:=qJ g;refine bn qa 2 h Z (h.sl 0 Z).1 (h.sl 0 Z).2 z9 g1 g Z λ_ _ _ _ h=>Ag (h.p [7] Z) (Ao 10 12947455 Z (uY h hF (mM (h.own 5 Z)) Z λ_ _ _ _ _ h hF=>Ag (h.p [8] Z) (Ao 12 12951551 Z ?_)));have h:=h.p [2,0,1,3,4,5,6,7,8,9,10] Z;obtain⟨⟨b4,_,_⟩,a6,hF⟩:=qc hF;refine mv h (h.frG 10 0 1 Z Z Z) a6 Z Z Z λ_ h=>Ag (h.p [8] Z) (Ao 13 12959743 Z (qt qa [.tmp 34] _ ([b4]:List Int) h z9 ⟨Z,G⟩ Z λ_ _ _ h=>Ag (h.p [9] Z) (Ao 14 12976127 Z ?_)));obtain⟨_,i,hF⟩:=qc hF;obtain⟨g2,i⟩:=qJ i;refine bn qa 2 h Z (h.sl 0 Z).1 (h.sl 0 Z).2 z9 g2 i Z λ_ _ _ _ h=>Ag (h.p [9] Z) (Ao 17 13107199 Z (uY h hF (mM (h.own 6 Z)) Z λ_ _ _ _ _ h hF=>Ag (h.p [10] Z) (Ao 19 13631487 Z ?_)));have h:=h.p [2,0,1,3,4,5,6,7,8,9,10,11,12] Z;obtain⟨⟨i16,_,_⟩,a7,hF⟩:=qc hF;refine mv h (h.frG 12 0 1 Z Z Z) a7 Z Z Z λ_ h=>Ag (h.p [10] Z) (Ao 20 14680063 Z (qt qa [.tmp 41] _ ([i16]:List Int) h z9 ⟨Z,G⟩ Z λ_ _ _ h=>Ag (h.p [11] Z) (Ao 21 16777215 Z ?_)));obtain⟨_,k,hF⟩:=qc hF;obtain⟨g3,k⟩:=qJ k;refine bn qa 2 h Z (h.sl 0 Z).1 (h.sl 0 Z).2 z9 g3 k Z λ_ _ _ _ h=>Ag (h.p [11] Z) (Aw 24 33554431 (λw' hw=>qB qa [0,1,2,3] [.tmp 29,.tmp 36,.tmp 43,.tmp 45] z8) (h.p [11] Z) Z ?_);refine Ao 25 67108863 Z (zs 11 h Z λ_ h=>bN (λhs=>absurd (hs 25 (by decide)) (by decide)) (Ad (X0 6 Z ?_)));exact rK ⟨_,_,_,_,_,_,_,_,_,_,_,_,_,_,_,_,_,_,hF,Z,h.p [7,2,4,6,1,11,12,13] Z⟩ Z
 refine qy Z ?_;cases qe hF;replace hF:=S;refine X0 5 Z ?_;obtain⟨o7,hF,T⟩:=qc hF;refine qq (rL (λm e w'=>∃O l o p,gT s r1 d m O l o p=V o7/\e=[(0,vp a),(4,vp b),(5,vp c),(8,vi p)]/\SH y w' [oW S6 (O:List Int) [oL N r1.Bl M],oW P (x1:List Int) [oL C x1 z],oW Q (f:List Int) [oL D f A],oW R (d:List Int) [oL H d B],xb a s p1 t l o,oX c [oL H d B,oL D f A,oL C x1 z,oL N r1.Bl M] 171,oX b qe2 171,xf y w F s p1 t]) n ⟨_,_,_,_,hF,Z,h⟩ Z ?_);rintro m2 _ _ ⟨O,l,o,p,hF,rfl,h⟩;rcases m2 with _|m2
 .cases hF
 refine X1 9 5 h Z (qn Z hF ?_ ?_)<;>intro hF
 .refine WC (rA [] [5] h Z λ_ h=>M2 127 [0,1,2,3,4,5,6] 0 0 (h.p [5] Z) Z (Ao 7 255 Z ?_));have h:=h.p [4,0,1,2,3,5,6,7] Z;obtain⟨⟨b5,_,_⟩,L,hF⟩:=qc hF;refine mv h (h.frG 7 0 1 Z Z Z) L Z Z Z λ_ h=>Ag (h.p [5] Z) ?_;obtain⟨_,a8,hF,I,_,_,_,_,J,K,rfl,X⟩:=(h.sl 1 Z).1.ix hF;refine Ax 8 511 J K ⟨I.1,qE I.2.1 (h.sl 1 Z).2⟩ (h.p [5] Z) Z (Ao 9 1023 Z (bM qa 1 0 b5 h Z a8 J K Z X Z Z Z Z Z Z Z λ_ h=>Ag (h.p [5] Z) (Ad (X0 6 Z ?_))));exact rK ⟨_,_,_,_,hF,Z,h.p [1,2,3,4,0,5,6,7] Z⟩ Z
 refine qy Z ?_;cases qe hF;replace hF:=T;refine X1 3 5 h Z (zs 6 h Z λ_ h=>ae ?_);have Y:=h;obtain⟨_,h⟩:=h.gather [4,5,6,7] (zI (⟨d,f,x1,O⟩:aR) h (qS 3 h Z) (qS 2 h Z) (qS 1 h Z) (qS 0 h Z) (by rfl) (by rfl) (by rfl)) Z;obtain rfl:=qe hF;have h:=h.p [0,1,4] Z;exact ce qa [oV aR [oL H d B,oL D f A,oL C x1 z,oL N r1.Bl M]] ⟨⟨_,_,_,Z,Z,Y.box 6 Z,Z⟩,G⟩ ⟨_,_,Z,Cv 1 1 h0 h Z Z⟩

def mQ(s:qb)(b:qk):Nat->(List aR)->Int->Int->Int->Option ((List aR)×Int×Int×Int)|0,_,_,_,_=>U|n+1,x1,c,d,a=>bif decide (a<(b.Ap.length:Int)) then(nL n b a).bind λg=>(su n (⟨s.code,c,d⟩:qb) (g.length:Int)).bind λ(h,i8,f)=>(df x1 ([h]:List aR)).bind λi=>mQ s b n i i8 f (qj (a+1)) else V (x1,c,d,a)
def lx(n:Nat)(s:qb)(most:Int)(wild:Bool):Option (qf×Int×Int):=(xg n (⟨s.code,s.at_,s.seed⟩:qb)).bind λ(r1,b,c)=>(xi n (⟨s.code,b,c⟩:qb) most wild).bind λ(a,d,f)=>(mQ s a n ([]:List aR) d f 0).bind λ(x1,g,h,_)=>V ((⟨r1,a,x1⟩:qf),g,h)
theorem lP{n k w F}{s:qb}{a p1 b most wild}(h0:SH k w (xb a s p1 b s.at_ s.seed::F))(L:qm.R w (Fr k F) s (aq s p1 b)){r:qf×Int×Int}(hF:lx n s most wild=V r):yb prog 149 [vp a,vi most,.bool wild] w (λus w'=>∃S1 cs1,us=[oV qf cs1]/\SH k w' (oW S1 (r.1:qf) cs1::xb a s p1 b r.2.1 r.2.2::F)):=by
 have h:=Da h0 L;refine cz func149 Z (m:=38) Z Z (db (qi qa h Z Z Z λ_ d h=>X0 4 Z ?_));have h:=h.p [1,0,2] Z;obtain⟨⟨r1,B,C⟩,N,hF⟩:=qc hF;refine bO (cB 204 Z) (LS (s:=s) h (show qm.R _ _ (s:qb) _ from⟨[oL p1 s.code b],[vi s.at_,vi s.seed],Z,⟨_,_,Z,(qF (h.frG 2 0 1 Z Z Z)).1⟩,⟨[vi s.at_],[vi s.seed],Z,Z,Z⟩⟩) N) Z Z Z Z ?_;rintro _ _ ⟨S2,_,rfl,h⟩;obtain⟨i,g,rfl,-⟩:=gx (h.own 0 Z);replace h:SH _ _ [oW S2 (r1:qD) [oL i r1.As g],xb a s p1 b B C,oX d TV 34,xf k w F s p1 b]:=h;refine qi qa h Z Z Z λ_ f h=>zs 0 h Z λ_ h=>X0 6 Z ?_;have h:=h.p [2,0,1,3,4] Z;obtain⟨⟨c,i3,i4⟩,O,hF⟩:=qc hF;refine bO (cB 205 Z) (LV (Ce:=(⟨s.code,B,C⟩:qb)) (Cf:=most) (Cg:=wild) h (show qm.R _ _ ((⟨s.code,B,C⟩:qb):qb) _ from⟨[oL p1 s.code b],[vi B,vi C],Z,⟨_,_,Z,(qF (h.frG 4 0 1 Z Z Z)).1⟩,⟨[vi B],[vi C],Z,Z,Z⟩⟩) O) Z Z Z Z ?_;rintro _ _ ⟨I,_,rfl,h⟩;obtain⟨y,k3,z,v,A,x,rfl,-,-,-⟩:=cn (h.own 0 Z);replace h:SH _ _ [oW I (c:qk) (bh c y z A k3 v x),xb a s p1 b i3 i4,oX f [oL i r1.As g] 26,oW S2 (r1:qD) [oL i r1.As g],oX d TV 34,xf k w F s p1 b]:=h;refine qi qa h Z Z Z λ_ l h=>zs 0 h Z λ_ h=>QS (kB qa [] _ ([]:List aR) [0,1,2,3,4,5,6] h Z Z Z Z Z Z Z Z Z pN Z Z λ_ _ _ h=>X0 7 Z ?_);obtain⟨o3,hF,K⟩:=qc hF;refine qq (rL (λm e w'=>∃J H u D x1 p t Q,mQ s c m x1 p t Q=V o3/\e=[(0,vp a),(6,vp d),(7,vp f),(8,vp l),(9,oS H u D),(10,vi Q)]/\SH k w' [oW J (x1:List aR) [oS H u D],oX l (bh c y z A k3 v x) 31,oW I (c:qk) (bh c y z A k3 v x),xb a s p1 b p t,oX f [oL i r1.As g] 26,oW S2 (r1:qD) [oL i r1.As g],oX d TV 34,xf k w F s p1 b]) n ⟨_,_,_,_,_,_,_,_,hF,Z,h⟩ Z ?_);rintro m1 _ _ ⟨J,H,u,D,x1,p,t,Q,hF,rfl,h⟩;obtain rfl:=(h.sl 0 Z).2;rcases m1 with _|m1
 .cases hF
 refine X1 9 1 h Z (qn Z hF ?_ ?_)<;>intro hF
 .refine X1 8 1 h Z (uY h hF (sq (h.own 2 Z)) Z λY _ S6 p8 k7 h hF=>cr Z ?_);have h:=h.p [4,0,1,2,3,5,6,7,8] Z;obtain⟨⟨r4,i8,i9⟩,P,hF⟩:=qc hF;refine bO (cB 206 Z) (EG (s:=(⟨s.code,p,t⟩:qb)) (sinks:=(Y.length:Int)) h (show qm.R _ _ ((⟨s.code,p,t⟩:qb):qb) _ from⟨[oL p1 s.code b],[vi p,vi t],Z,⟨_,_,Z,(qF (h.frG 8 0 1 Z Z Z)).1⟩,⟨[vi p],[vi t],Z,Z,Z⟩⟩) P) Z Z Z Z ?_;rintro _ _ ⟨S7,_,rfl,h⟩;obtain⟨p9,k8,T,k9,W,R,X,S,rfl,-,-,-,-⟩:=dM (h.own 0 Z);replace h:SH _ _ [oW S7 (r4:aR) (oD r4 p9 T W X k8 k9 R S),xb a s p1 b i8 i9,oW S6 (Y:List Int) [oL p8 Y k7],oW J (x1:List aR) [oL H x1 D],oX l (bh c y z A k3 v x) 31,oW I (c:qk) (bh c y z A k3 v x),oX f [oL i r1.As g] 26,oW S2 (r1:qD) [oL i r1.As g],oX d TV 34,xf k w F s p1 b]:=h;refine kB qa [.tmp 31] _ ([r4]:List aR) [1,2,3,4,5,6,7,8,9] h Z Z Z Z Z Z Z Z Z (gb (qS 0 h Z) pN Z) Z Z λ_ _ _ h=>?_;obtain⟨_,o,hF⟩:=qc hF;obtain⟨g1,o⟩:=qJ o;have h:=h.p [0,3,1,2,4,5,6,7,8,9] Z;refine BD qa h Z Z Z Z Z Z Z Z Z g1 o Z λ_ _ _ _ h=>X0 8 Z ?_;exact rK ⟨_,_,_,_,_,_,_,_,hF,Z,h.p [0,3,4,1,5,6,7,8] Z⟩ Z
 refine qy Z ?_;cases qe hF;replace hF:=K;refine X2 5 4 1 h Z (dF (qB qa [0,1,2] [.tmp 34,.tmp 35,.tmp 36] z8) Z (zs 6 h Z λ_ h=>ae ?_));have M:=h;obtain⟨_,h⟩:=h.gather [1,3,4,6,7] (T4 (⟨r1,c,x1⟩:qf) h (qS 5 h Z) (qS 2 h Z) (qS 0 h Z) (by rfl) (by rfl)) Z;obtain rfl:=qe hF;have h:=h.p [0,2,5] Z;exact ce qa [oV qf [oL i r1.As g,oL y c.Ab k3,oL z c.Ap v,oL A c.Ai x,oL H x1 D]] ⟨⟨_,_,_,Z,Z,M.box 6 Z,Z⟩,G⟩ ⟨_,_,Z,Cv 1 1 h0 h Z Z⟩
def tB(n:Nat)(Ce:qb):Option (qf×Int×Int):=(qv n (⟨Ce.code,Ce.at_,Ce.seed⟩:qb) 3).bind λ(s,t,u)=>(lx n (⟨Ce.code,t,u⟩:qb) 6 (s==0)).bind λ(r1,v,x)=>(qv n (⟨Ce.code,v,x⟩:qb) (r1.Ah.length:Int)).bind λ(c,y,i8)=>(qv n (⟨Ce.code,y,i8⟩:qb) 20).bind λ(f,a,b)=>bif (f==0) then(xV r1.Ah 1 (r1.Ah.length:Int)).bind λx1=>V ((⟨(⟨r1.Aq.As⟩:qD),(⟨r1.Aa.Ab,r1.Aa.Ap,r1.Aa.Ai⟩:qk),x1⟩:qf),a,b) else bif (f==1) then(qG r1.Ah c).bind λi=>(lw n i.Bl).bind λz=>(df z ([0]:List Int)).bind λA=>V ((⟨r1.Aq,r1.Aa,(am r1.Ah c (⟨i.Ak,i.Bw,i.Bs,A⟩:aR))⟩:qf),a,b) else bif (f==2) then(qG r1.Ah c).bind λg=>(qG g.Bw 0).bind λ_=>V ((⟨r1.Aq,r1.Aa,(am r1.Ah c (⟨g.Ak,(am g.Bw 0 1),g.Bs,g.Bl⟩:aR))⟩:qf),a,b) else bif (f==3) then(qG r1.Ah c).bind λh=>(qv n (⟨Ce.code,a,b⟩:qb) 3).bind λ(k,l,m)=>(qG ([(-1),500,501]:List Int) k).bind λB=>(qG h.Bs 0).bind λ_=>V ((⟨r1.Aq,r1.Aa,(am r1.Ah c (⟨h.Ak,h.Bw,(am h.Bs 0 B),h.Bl⟩:aR))⟩:qf),l,m) else bif (f==4) then(qG r1.Ah c).bind λd=>(qv n (⟨Ce.code,a,b⟩:qb) 5).bind λ(p,i16,r)=>(qG d.Ak (qj ((d.Ak.length:Int)-1))).bind λ_=>V ((⟨r1.Aq,r1.Aa,(am r1.Ah c (⟨(am d.Ak (qj ((d.Ak.length:Int)-1)) (qj (p-1))),d.Bw,d.Bs,d.Bl⟩:aR))⟩:qf),i16,r) else bif (f==5) then(qG r1.Aa.Ai 0).bind λC=>V ((⟨r1.Aq,(⟨r1.Aa.Ab,r1.Aa.Ap,(am r1.Aa.Ai 0 ({ C with Bx:=3 }))⟩:qk),r1.Ah⟩:qf),a,b) else V (r1,a,b)
theorem GB{n w0 w F}{Ce:qb}{B p1 N}(h0:SH w0 w (xb B Ce p1 N Ce.at_ Ce.seed::F))(ha1:qm.R w (Fr w0 F) Ce (aq Ce p1 N)){r:qf×Int×Int}(hF:tB n Ce=V r):yb prog 203 [vp B] w (λus w'=>∃S1 cs1,us=[oV qf cs1]/\SH w0 w' (oG (λ_=>False) S1 [vk (r.1:qf) cs1]::xb B Ce p1 N r.2.1 r.2.2::F)):=by
 have h:=Da h0 ha1;refine cz func203 Z (m:=90) Z Z (db (qi qa h Z Z Z λw1 H h=>X0 5 Z ?_));have h:=h.p [1,0,2] Z;obtain⟨⟨i1,i2,i3⟩,hr1,hF⟩:=qc hF;refine mv h (h.frG 2 0 1 Z Z Z) hr1 Z Z Z λ_ h=>cr Z ?_;obtain⟨⟨r1,i4,i5⟩,hr2,hF⟩:=qc hF;refine bO (cB 149 Z) (lP (s:=(⟨Ce.code,i2,i3⟩:qb)) (most:=6) (wild:=(i1==0)) h (show qm.R _ _ ((⟨Ce.code,i2,i3⟩:qb):qb) _ from⟨[oL p1 Ce.code N],[vi i2,vi i3],Z,⟨_,_,Z,(qF (h.frG 2 0 1 Z Z Z)).1⟩,⟨[vi i2],[vi i3],Z,Z,Z⟩⟩) hr2) Z Z Z Z ?_;rintro _ _ ⟨S2,_,rfl,h⟩;obtain⟨p,o,f,k3,c,a,d,b,l,k,rfl,-,-,-,-,-⟩:=qZ (h.own 0 Z);replace h:SH _ _ [oW S2 (r1:qf) (qL r1 p f c d l o k3 a b k),xb B Ce p1 N i4 i5,oX H TV 34,xf w0 w F Ce p1 N]:=h;refine qi qa h Z Z Z λ_ P h=>zs 0 h Z λ_ h=>X1 7 0 h Z ?_;have h:=h.p [2,0,1,3,4] Z;obtain⟨⟨t,_,_⟩,hr3,hF⟩:=qc hF;refine mv h (h.frG 4 0 1 Z Z Z) hr3 Z Z Z λ_ h=>X0 6 Z ?_;obtain⟨⟨_,i10,i11⟩,hr4,hF⟩:=qc hF;refine mv h (h.frG 4 0 1 Z Z Z) hr4 Z Z Z λ_ h=>X0 7 Z (qn Z hF ?_ ?_)<;>intro hF
 .refine X1 3 1 h Z ?_;obtain⟨x1,hx1,hF⟩:=qc hF;obtain⟨p7,k7,hp1,hk1,hl1,g1⟩:=VT (fT (h.own 2 Z)).2.2.2.2.1 hx1;refine dF (KF qa Z Z Z (VS g1 (fT (h.own 2 Z)).2.2.2.2.2) hp1 hk1 hl1 Z Z Z Z) Z (cr Z (zs 1 h Z λ_ h=>X1 5 1 h Z (zs 3 h Z λ_ h=>ae ?_)));have hk2:=h;have h:=h.frzI 2 Z;have h:=h.grpAdd 2 Z (x:=((⟨(⟨r1.Aq.As⟩:qD),r1.Aa,x1⟩:qf):qf)) (show qm.R _ _ ((⟨(⟨r1.Aq.As⟩:qD),r1.Aa,x1⟩:qf):qf) _ from⟨[oL p r1.Aq.As o],[oL f r1.Aa.Ab k3,oL c r1.Aa.Ap a,oL d r1.Aa.Ai b,oL p7 x1 k7],Z,⟨_,_,Z,(fT (h.grpS 2 0 Z Z)).1.1⟩,⟨[oL f r1.Aa.Ab k3,oL c r1.Aa.Ap a,oL d r1.Aa.Ai b],[oL p7 x1 k7],Z,⟨[oL f r1.Aa.Ab k3],[oL c r1.Aa.Ap a,oL d r1.Aa.Ai b],Z,⟨_,_,Z,(fT (h.grpS 2 0 Z Z)).2.1.1⟩,⟨[oL c r1.Aa.Ap a],[oL d r1.Aa.Ai b],Z,⟨_,_,Z,(fT (h.grpS 2 0 Z Z)).2.2.1.1⟩,⟨_,_,Z,(fT (h.grpS 2 0 Z Z)).2.2.2.1.1⟩⟩⟩,⟨_,_,Z,(G1 (fT (h.grpS 2 0 Z Z)).2.2.2.2.1 hx1 hp1 hk1)⟩⟩⟩);have h:=h.grpKeep [0] 2 Z;obtain rfl:=qe hF;have h:=h.p [2,0,4] Z;exact ce qa [oV qf [oL p r1.Aq.As o,oL f r1.Aa.Ab k3,oL c r1.Aa.Ap a,oL d r1.Aa.Ai b,oL p7 x1 k7]] ⟨⟨_,_,_,Z,Z,hk2.box 3 Z,Z⟩,G⟩ ⟨_,_,Z,Cv 1 1 h0 h Z Z⟩
 refine X0 5 Z (qn Z hF ?_ ?_)<;>intro hF
 .have h:=h.p [2,0,1,3,4] Z;obtain⟨S3,S4,_,h⟩:=tf h;obtain⟨g,hy1,hF⟩:=qc hF;have I:=bJ hy1;obtain⟨_,S7,_,h⟩:=h.take hy1;obtain⟨p8,k8,p9,k9,a5,a4,p11,k11,rfl,-,-,-,-⟩:=dM (h.own 0 Z);obtain⟨S8,S9,S10,S11,h⟩:=wu h;refine rA [14] [4,8] h Z λ_ h=>M2 63 [0,1,2,3,4,5] 1 1 (h.p [4,8] Z) Z ?_;obtain⟨_,hp2,-,-,hl3⟩:=h.holeAt 4 Z;obtain⟨q1,hq1⟩:∃q,q=0+(t).toNat*qm.k aR:=⟨_,Z⟩;refine Ax 6 127 hp2 hq1 ⟨I.1,qE I.2.1 hl3⟩ (h.p [4,8] Z) Z (M0 255 [7] (h.p [4,8] Z) Z (Aw 8 511 (λw' hw=>da qa (pZ hw 0 Z hp2 hq1) (j:=3) Z Z Z) (h.p [4,8] Z) Z ?_));obtain⟨r2,hr5,hF⟩:=qc hF;obtain⟨x2,J,hF⟩:=qc hF;refine uc (λe w'=>∃S22 p22 k19,e=[(2,vp H),(3,vp P)]/\SH w0 w' [oW S22 (x2:List Int) [oL p22 x2 k19],oW S10 (g.Bs:List Int) [oL a5 g.Bs a4],oW S9 (g.Bw:List Int) [oL p9 g.Bw k9],oW S8 (g.Ak:List Int) [oL p8 g.Ak k8],Ch.hole S7 (r1.Ah:List aR) l r1.Ah.length k (t).toNat [oL p8 g.Ak k8,oL p9 g.Bw k9,oL a5 g.Bs a4,oL p22 x2 k19],oW S4 (r1.Aa:qk) (bh r1.Aa f c d k3 a b),oW S3 (r1.Aq:qD) [oL p r1.Aq.As o],xb B Ce p1 N i10 i11,oX P (qL r1 p f c d l o k3 a b k) 34,oX H TV 34,xf w0 w F Ce p1 N]) 0 (bits 15 32767) ?_ ?_
  .intro K;refine At 9 10 1023 1535 Z ?_ ?_
   .refine uH r2 h (cB 242 Z) (mM (h.own 0 Z) hr5) Z Z Z Z λw20 S19 p19 k17 h=>Ag (h.p [5,9] Z) (Ao 10 2047 Z (qt qa [.const (vi (0))] _ ([0]:List Int) h z9 ⟨Z,G⟩ Z λw21 p20 S20 h=>Ag (h.p [6,10] Z) (Ao 11 4095 Z ?_)));obtain⟨g4,J⟩:=qJ J;refine bn qa 1 h Z (h.sl 0 Z).1 (h.sl 0 Z).2 z9 g4 J Z λw22 p21 k18 S21 h=>Ag (h.p [6,10] Z) (Ao 12 8191 Z ?_);obtain⟨b4,T,-,-,hl9⟩:=h.holeAt 6 Z;obtain⟨q4,W⟩:∃q,q=0+(t).toNat*qm.k aR:=⟨_,Z⟩;refine zx T W ⟨I.1,qE I.2.1 hl9⟩ Z (G0 16383 [13] (h.p [6,10] Z) Z (Ao 14 32767 Z (DY qa 6 3 h Z T W Z Z Z Z Z Z λw23 h=>bN (λhs=>absurd (hs 14 (by decide)) (by decide)) ?_)));have h:=h.p [1,3,4,5,6,7,8,9,10,11,12] Z;exact aK K ⟨_,_,_,Z,h⟩ Z
   refine qt qa [.const (vi (0))] _ ([0]:List Int) h z9 ⟨Z,G⟩ Z λw20 p19 S19 h=>Ag (h.p [5,9] Z) (Ao 9 2047 Z (uH r2 h (cB 242 Z) (mM (h.own 1 Z) hr5) Z Z Z Z λw21 S20 p20 k17 h=>Ag (h.p [6,10] Z) (Ao 11 4095 Z ?_)));obtain⟨g4,J⟩:=qJ J;refine bn qa 0 h Z (h.sl 1 Z).1 (h.sl 1 Z).2 z9 g4 J Z λw22 p21 k18 S21 h=>Ag (h.p [6,10] Z) (Ao 12 8191 Z ?_);obtain⟨b4,T,-,-,hl9⟩:=h.holeAt 6 Z;obtain⟨q4,W⟩:∃q,q=0+(t).toNat*qm.k aR:=⟨_,Z⟩;refine zx T W ⟨I.1,qE I.2.1 hl9⟩ Z (G0 16383 [13] (h.p [6,10] Z) Z (Ao 14 32767 Z (DY qa 6 3 h Z T W Z Z Z Z Z Z λw23 h=>?_)));replace h:SH _ _ [oW S21 (x2:List Int) [oL p21 x2 k18],oW S19 (([0]:List Int):List Int) [oS p19 1 1],oW S11 (g.Bl:List Int) [oL p11 g.Bl k11],oW S10 (g.Bs:List Int) [oL a5 g.Bs a4],oW S9 (g.Bw:List Int) [oL p9 g.Bw k9],oW S8 (g.Ak:List Int) [oL p8 g.Ak k8],Ch.hole S7 (r1.Ah:List aR) l r1.Ah.length k (t).toNat [oL p8 g.Ak k8,oL p9 g.Bw k9,oL a5 g.Bs a4,oL p21 x2 k18],oW S4 (r1.Aa:qk) (bh r1.Aa f c d k3 a b),oW S3 (r1.Aq:qD) [oL p r1.Aq.As o],xb B Ce p1 N i10 i11,oX P (qL r1 p f c d l o k3 a b k) 34,oX H TV 34,xf w0 w F Ce p1 N]:=h;refine bN (λhs=>absurd (hs 14 (by decide)) (by decide)) ?_;have h:=h.p [0,3,4,5,6,7,8,9,10,11,12] Z;exact aK K ⟨_,_,_,Z,h⟩ Z
  rintro _ _ ⟨S22,p22,k19,rfl,h⟩;refine Ad (X1 4 8 h Z (zs 9 h Z λ_ h=>ae ?_));have hk3:=h;obtain⟨_,h⟩:=h.gather [4,5,6,7,8,9,10] (zI (⟨g.Ak,g.Bw,g.Bs,x2⟩:aR) h (qS 3 h Z) (qS 2 h Z) (qS 1 h Z) (qS 0 h Z) (by rfl) (by rfl) (by rfl)) Z;have h:=h.put;obtain⟨_,h⟩:=EE (S:=_) h;have h:=h.frzI 2 Z;have h:=h.frzI 1 Z;have h:=h.frzI 0 Z;have h:=h.p [2,1,0,3,4,5,6] Z;have h:=SH.merge h;have h:=SH.merge h;have h:=h.grpAdd 0 Z (x:=((⟨r1.Aq,r1.Aa,(am r1.Ah t (⟨g.Ak,g.Bw,g.Bs,x2⟩:aR))⟩:qf):qf)) (show qm.R _ _ ((⟨(⟨r1.Aq.As⟩:qD),r1.Aa,(am r1.Ah t (⟨g.Ak,g.Bw,g.Bs,x2⟩:aR))⟩:qf):qf) _ from⟨[oL p r1.Aq.As o],[oL f r1.Aa.Ab k3,oL c r1.Aa.Ap a,oL d r1.Aa.Ai b,oL l r1.Ah k],Z,⟨_,_,Z,(uG (h.grpS 0 0 Z Z)).1⟩,⟨[oL f r1.Aa.Ab k3,oL c r1.Aa.Ap a,oL d r1.Aa.Ai b],[oL l r1.Ah k],Z,⟨[oL f r1.Aa.Ab k3],[oL c r1.Aa.Ap a,oL d r1.Aa.Ai b],Z,⟨_,_,Z,(hZ (h.grpS 0 1 Z Z)).1.1⟩,⟨[oL c r1.Aa.Ap a],[oL d r1.Aa.Ai b],Z,⟨_,_,Z,(hZ (h.grpS 0 1 Z Z)).2.1.1⟩,⟨_,_,Z,(hZ (h.grpS 0 1 Z Z)).2.2.1⟩⟩⟩,(h.grpS 0 2 Z Z)⟩⟩);have h:=h.grpKeep [0] 0 Z;obtain rfl:=qe hF;have h:=h.p [0,1,4] Z;exact ce qa [oV qf (qL r1 p f c d l o k3 a b k)] ⟨⟨_,_,_,Z,Z,hk3.box 9 Z,Z⟩,G⟩ ⟨_,_,Z,Cv 1 1 h0 h Z Z⟩
 refine X0 5 Z (qn Z hF ?_ ?_)<;>intro hF
 .refine X1 4 1 h Z ?_;have h:=h.p [2,0,1,3,4] Z;obtain⟨_,_,_,h⟩:=tf h;obtain⟨O,hy2,hF⟩:=qc hF;have he2:=bJ hy2;obtain⟨_,_,_,h⟩:=h.take hy2;obtain⟨_,_,_,_,_,_,_,_,rfl,-,-,-,-⟩:=dM (h.own 0 Z);obtain⟨_,_,_,_,h⟩:=wu h;obtain⟨_,hp6,-,-,hl11⟩:=h.holeAt 4 Z;obtain⟨q5,hq5⟩:∃q,q=0+(t).toNat*qm.k aR:=⟨_,Z⟩;refine zx hp6 hq5 ⟨he2.1,qE he2.2.1 hl11⟩ Z (cr Z (zc 1 (pZ h 4 Z hp6 hq5) Z ?_));obtain⟨_,hy3,hF,he3,_,_,_,_,hp7,hq6,rfl,hc5⟩:=(h.sl 2 Z).1.ix hF;refine zx hp7 hq6 ⟨he3.1,qE he3.2.1 (h.sl 2 Z).2⟩ Z (bM qa 2 0 1 h Z hy3 hp7 hq6 Z hc5 Z Z Z Z Z Z Z λ_ h=>X1 5 8 h Z (zs 9 h Z λ_ h=>ae ?_));have hk4:=h;obtain⟨_,h⟩:=h.gather [4,5,6,7,8,9,10] (zI (⟨O.Ak,(am O.Bw 0 1),O.Bs,O.Bl⟩:aR) h (qS 3 h Z) (qS 2 h Z) (qS 1 h Z) (qS 0 h Z) (by rfl) (by rfl) (by rfl)) Z;have h:=h.put;obtain⟨_,h⟩:=EE (S:=_) h;have h:=h.frzI 2 Z;have h:=h.frzI 1 Z;have h:=h.frzI 0 Z;have h:=h.p [2,1,0,3,4,5,6] Z;have h:=SH.merge h;have h:=SH.merge h;have h:=h.grpAdd 0 Z (x:=((⟨r1.Aq,r1.Aa,(am r1.Ah t (⟨O.Ak,(am O.Bw 0 1),O.Bs,O.Bl⟩:aR))⟩:qf):qf)) (show qm.R _ _ ((⟨(⟨r1.Aq.As⟩:qD),r1.Aa,(am r1.Ah t (⟨O.Ak,(am O.Bw 0 1),O.Bs,O.Bl⟩:aR))⟩:qf):qf) _ from⟨[oL p r1.Aq.As o],[oL f r1.Aa.Ab k3,oL c r1.Aa.Ap a,oL d r1.Aa.Ai b,oL l r1.Ah k],Z,⟨_,_,Z,(uG (h.grpS 0 0 Z Z)).1⟩,⟨[oL f r1.Aa.Ab k3,oL c r1.Aa.Ap a,oL d r1.Aa.Ai b],[oL l r1.Ah k],Z,⟨[oL f r1.Aa.Ab k3],[oL c r1.Aa.Ap a,oL d r1.Aa.Ai b],Z,⟨_,_,Z,(hZ (h.grpS 0 1 Z Z)).1.1⟩,⟨[oL c r1.Aa.Ap a],[oL d r1.Aa.Ai b],Z,⟨_,_,Z,(hZ (h.grpS 0 1 Z Z)).2.1.1⟩,⟨_,_,Z,(hZ (h.grpS 0 1 Z Z)).2.2.1⟩⟩⟩,(h.grpS 0 2 Z Z)⟩⟩);have h:=h.grpKeep [0] 0 Z;obtain rfl:=qe hF;have h:=h.p [0,1,4] Z;exact ce qa [oV qf (qL r1 p f c d l o k3 a b k)] ⟨⟨_,_,_,Z,Z,hk4.box 9 Z,Z⟩,G⟩ ⟨_,_,Z,Cv 1 1 h0 h Z Z⟩
 refine X0 5 Z (qn Z hF ?_ ?_)<;>intro hF
 .have h:=h.p [2,0,1,3,4] Z;obtain⟨S36,S37,_,h⟩:=tf h;obtain⟨i,hy4,hF⟩:=qc hF;have he4:=bJ hy4;obtain⟨_,S40,_,h⟩:=h.take hy4;obtain⟨p27,k24,p28,k25,p29,k26,p30,k27,rfl,-,-,-,-⟩:=dM (h.own 0 Z);obtain⟨S41,S42,S43,S44,h⟩:=wu h;refine rA [] [4,8] h Z λ_ h=>M1 7 [0,1,2] 1 (h.p [4,8] Z) Z ?_;obtain⟨_,hp8,-,-,hl13⟩:=h.holeAt 4 Z;obtain⟨q7,hq7⟩:∃q,q=0+(t).toNat*qm.k aR:=⟨_,Z⟩;refine Ax 3 15 hp8 hq7 ⟨he4.1,qE he4.2.1 hl13⟩ (h.p [4,8] Z) Z (M0 31 [4] (h.p [4,8] Z) Z (Aw 5 63 (λw' hw=>da qa (pZ hw 0 Z hp8 hq7) (j:=2) Z Z Z) (h.p [4,8] Z) Z ?_));refine M0 191 [7] (h.p [4,8] Z) Z ?_;obtain⟨⟨_,i13,i14⟩,hr9,hF⟩:=qc hF;obtain⟨y5,L,hF⟩:=qc hF;obtain⟨_,M,hF⟩:=qc hF;refine uc (λe w'=>e=[(2,vp H),(3,vp P)]/\SH w0 w' [xb B Ce p1 N i13 i14,oW S44 (i.Bl:List Int) [oL p30 i.Bl k27],oW S43 ((am i.Bs 0 y5):List Int) [oL p29 i.Bs k26],oW S42 (i.Bw:List Int) [oL p28 i.Bw k25],oW S41 (i.Ak:List Int) [oL p27 i.Ak k24],Ch.hole S40 (r1.Ah:List aR) l r1.Ah.length k (t).toNat [oL p27 i.Ak k24,oL p28 i.Bw k25,oL p29 i.Bs k26,oL p30 i.Bl k27],oW S37 (r1.Aa:qk) (bh r1.Aa f c d k3 a b),oW S36 (r1.Aq:qD) [oL p r1.Aq.As o],oX P (qL r1 p f c d l o k3 a b k) 34,oX H TV 34,xf w0 w F Ce p1 N]) 0 (bits 13 8191) ?_ ?_
  .intro K;refine At 6 8 255 447 Z ?_ ?_
   .refine qt qa [.const (vi (-1)),.const (vi (500)),.const (vi (501))] _ ([(-1),500,501]:List Int) h z9 ⟨Z,Z,Z,G⟩ Z λw36 p33 S47 h=>Ag (h.p [5,9] Z) (Ao 8 511 Z ?_);have h:=h.p [8,0,1,2,3,4,5,6,7,9,10,11] Z;refine mv h (h.frG 11 0 1 Z Z Z) hr9 Z Z Z λw37 h=>Ag (h.p [6,9] Z) ?_;have R:=bJ L;obtain⟨b12,o_7,q12,cs11,v,z,-,X,hc11⟩:=(h.sl 1 Z).1.at L;obtain rfl:=X;refine Ax 9 1023 v z ⟨R.1,qE R.2.1 (h.sl 1 Z).2⟩ (h.p [6,9] Z) Z (Ao 10 2047 Z (dF (da qa (qR (w1:=w) (S1:=λ_=>False) h 1 Z L v z Z) (j:=0) Z Z Z) Z (Ag (h.p [6,9] Z) ?_)));have u:=bJ M;obtain⟨b13,o_8,q13,cs12,y,A,-,Y,Q⟩:=(h.sl 3 Z).1.at M;obtain rfl:=Y;refine Ax 11 4095 y A ⟨u.1,qE u.2.1 (h.sl 3 Z).2⟩ (h.p [6,9] Z) Z (Ao 12 8191 Z (bM qa 3 0 y5 h Z M y A Z Q Z Z Z Z Z Z Z λw38 h=>Ag (h.p [6,9] Z) ?_));have h:=h.p [0,2,3,4,5,6,7,8,9,10,11] Z;exact aK K ⟨Z,h⟩ Z
   have h:=h.p [7,0,1,2,3,4,5,6,8,9,10] Z;refine mv h (h.frG 10 0 1 Z Z Z) hr9 Z Z Z λw36 h=>Ag (h.p [5,8] Z) (Ao 6 511 Z (qt qa [.const (vi (-1)),.const (vi (500)),.const (vi (501))] _ ([(-1),500,501]:List Int) h z9 ⟨Z,Z,Z,G⟩ Z λw37 p33 S47 h=>Ag (h.p [6,9] Z) ?_));have R:=bJ L;obtain⟨b12,o_7,q12,cs11,v,z,-,X,hc11⟩:=(h.sl 0 Z).1.at L;obtain rfl:=X;refine Ax 9 1023 v z ⟨R.1,qE R.2.1 (h.sl 0 Z).2⟩ (h.p [6,9] Z) Z (Ao 10 2047 Z (dF (da qa (qR (w1:=w) (S1:=λ_=>False) h 0 Z L v z Z) (j:=0) Z Z Z) Z (Ag (h.p [6,9] Z) ?_)));have u:=bJ M;obtain⟨b13,o_8,q13,cs12,y,A,-,Y,Q⟩:=(h.sl 3 Z).1.at M;obtain rfl:=Y;refine Ax 11 4095 y A ⟨u.1,qE u.2.1 (h.sl 3 Z).2⟩ (h.p [6,9] Z) Z (Ao 12 8191 Z (bM qa 3 0 y5 h Z M y A Z Q Z Z Z Z Z Z Z λw38 h=>Ag (h.p [6,9] Z) ?_));have h:=h.p [1,2,3,4,5,6,7,8,9,10,11] Z;exact aK K ⟨Z,h⟩ Z
  rintro _ _ ⟨rfl,h⟩;refine Ad (X1 4 8 h Z (zs 9 h Z λ_ h=>ae ?_));have hk5:=h;obtain⟨_,h⟩:=h.gather [0,5,6,7,8,9,10] (zI (⟨i.Ak,i.Bw,(am i.Bs 0 y5),i.Bl⟩:aR) h (qS 4 h Z) (qS 3 h Z) (qS 2 h Z) (qS 1 h Z) (by rfl) (by rfl) (by rfl)) Z;have h:=h.p [0,2,1,3,4,5,6,7] Z;have h:=h.put;obtain⟨_,h⟩:=EE (S:=_) h;have h:=h.frzI 3 Z;have h:=h.frzI 2 Z;have h:=h.frzI 0 Z;have h:=h.p [3,2,0,1,4,5,6] Z;have h:=SH.merge h;have h:=SH.merge h;have h:=h.grpAdd 0 Z (x:=((⟨r1.Aq,r1.Aa,(am r1.Ah t (⟨i.Ak,i.Bw,(am i.Bs 0 y5),i.Bl⟩:aR))⟩:qf):qf)) (show qm.R _ _ ((⟨(⟨r1.Aq.As⟩:qD),r1.Aa,(am r1.Ah t (⟨i.Ak,i.Bw,(am i.Bs 0 y5),i.Bl⟩:aR))⟩:qf):qf) _ from⟨[oL p r1.Aq.As o],[oL f r1.Aa.Ab k3,oL c r1.Aa.Ap a,oL d r1.Aa.Ai b,oL l r1.Ah k],Z,⟨_,_,Z,(uG (h.grpS 0 0 Z Z)).1⟩,⟨[oL f r1.Aa.Ab k3,oL c r1.Aa.Ap a,oL d r1.Aa.Ai b],[oL l r1.Ah k],Z,⟨[oL f r1.Aa.Ab k3],[oL c r1.Aa.Ap a,oL d r1.Aa.Ai b],Z,⟨_,_,Z,(hZ (h.grpS 0 1 Z Z)).1.1⟩,⟨[oL c r1.Aa.Ap a],[oL d r1.Aa.Ai b],Z,⟨_,_,Z,(hZ (h.grpS 0 1 Z Z)).2.1.1⟩,⟨_,_,Z,(hZ (h.grpS 0 1 Z Z)).2.2.1⟩⟩⟩,(h.grpS 0 2 Z Z)⟩⟩);have h:=h.grpKeep [0] 0 Z;obtain rfl:=qe hF;have h:=h.p [0,1,4] Z;exact ce qa [oV qf (qL r1 p f c d l o k3 a b k)] ⟨⟨_,_,_,Z,Z,hk5.box 9 Z,Z⟩,G⟩ ⟨_,_,Z,Cv 1 1 h0 h Z Z⟩
 refine X0 5 Z (qn Z hF ?_ ?_)<;>intro hF
 .have h:=h.p [2,0,1,3,4] Z;obtain⟨_,_,_,h⟩:=tf h;obtain⟨C,hy7,hF⟩:=qc hF;have D:=bJ hy7;obtain⟨_,_,_,h⟩:=h.take hy7;obtain⟨_,_,_,_,_,_,_,_,rfl,-,-,-,-⟩:=dM (h.own 0 Z);obtain⟨_,_,_,_,h⟩:=wu h;refine rA [] [4,8] h Z λ_ h=>M1 7 [0,1,2] 1 (h.p [4,8] Z) Z ?_;obtain⟨_,hp15,-,-,hl15⟩:=h.holeAt 4 Z;obtain⟨q14,hq14⟩:∃q,q=0+(t).toNat*qm.k aR:=⟨_,Z⟩;refine Ax 3 15 hp15 hq14 ⟨D.1,qE D.2.1 hl15⟩ (h.p [4,8] Z) Z (M0 31 [4] (h.p [4,8] Z) Z (Aw 5 63 (λw' hw=>da qa (pZ hw 0 Z hp15 hq14) (j:=0) Z Z Z) (h.p [4,8] Z) Z ?_));refine M1 511 [6,7,8] 1 (h.p [4,8] Z) Z ?_;obtain⟨_,hp16,-,-,hl17⟩:=h.holeAt 4 Z;obtain⟨q15,hq15⟩:∃q,q=0+(t).toNat*qm.k aR:=⟨_,Z⟩;refine Ax 9 1023 hp16 hq15 ⟨D.1,qE D.2.1 hl17⟩ (h.p [4,8] Z) Z (M0 2047 [10] (h.p [4,8] Z) Z (Aw 11 4095 (λw' hw=>da qa (pZ hw 0 Z hp16 hq15) (j:=0) Z Z Z) (h.p [4,8] Z) Z ?_));refine M0 32767 [12,13,14] (h.p [4,8] Z) Z (Ao 15 65535 Z ?_);have h:=h.p [7,0,1,2,3,4,5,6,8,9,10] Z;obtain⟨⟨a3,_,_⟩,hr16,hF⟩:=qc hF;refine mv h (h.frG 10 0 1 Z Z Z) hr16 Z Z Z λ_ h=>G0 131071 [16] (h.p [5,8] Z) Z ?_;obtain⟨_,hy8,hF,he12,_,_,_,_,hp17,hq16,rfl,hc14⟩:=(h.sl 4 Z).1.ix hF;refine Ax 17 262143 hp17 hq16 ⟨he12.1,qE he12.2.1 (h.sl 4 Z).2⟩ (h.p [5,8] Z) Z (Ao 18 524287 Z (bM qa 4 0 (qj (a3-1)) h Z hy8 hp17 hq16 Z hc14 Z Z Z Z Z Z Z λ_ h=>Ag (h.p [5,8] Z) (Ad (X1 4 8 h Z (zs 9 h Z λ_ h=>ae ?_)))));have hk6:=h;obtain⟨_,h⟩:=h.gather [0,5,6,7,8,9,10] (zI (⟨(am C.Ak (qj ((C.Ak.length:Int)-1)) (qj (a3-1))),C.Bw,C.Bs,C.Bl⟩:aR) h (qS 4 h Z) (qS 3 h Z) (qS 2 h Z) (qS 1 h Z) (by rfl) (by rfl) (by rfl)) Z;have h:=h.p [0,2,1,3,4,5,6,7] Z;have h:=h.put;obtain⟨_,h⟩:=EE (S:=_) h;have h:=h.frzI 3 Z;have h:=h.frzI 2 Z;have h:=h.frzI 0 Z;have h:=h.p [3,2,0,1,4,5,6] Z;have h:=SH.merge h;have h:=SH.merge h;have h:=h.grpAdd 0 Z (x:=((⟨r1.Aq,r1.Aa,(am r1.Ah t (⟨(am C.Ak (qj ((C.Ak.length:Int)-1)) (qj (a3-1))),C.Bw,C.Bs,C.Bl⟩:aR))⟩:qf):qf)) (show qm.R _ _ ((⟨(⟨r1.Aq.As⟩:qD),r1.Aa,(am r1.Ah t (⟨(am C.Ak (qj ((C.Ak.length:Int)-1)) (qj (a3-1))),C.Bw,C.Bs,C.Bl⟩:aR))⟩:qf):qf) _ from⟨[oL p r1.Aq.As o],[oL f r1.Aa.Ab k3,oL c r1.Aa.Ap a,oL d r1.Aa.Ai b,oL l r1.Ah k],Z,⟨_,_,Z,(uG (h.grpS 0 0 Z Z)).1⟩,⟨[oL f r1.Aa.Ab k3,oL c r1.Aa.Ap a,oL d r1.Aa.Ai b],[oL l r1.Ah k],Z,⟨[oL f r1.Aa.Ab k3],[oL c r1.Aa.Ap a,oL d r1.Aa.Ai b],Z,⟨_,_,Z,(hZ (h.grpS 0 1 Z Z)).1.1⟩,⟨[oL c r1.Aa.Ap a],[oL d r1.Aa.Ai b],Z,⟨_,_,Z,(hZ (h.grpS 0 1 Z Z)).2.1.1⟩,⟨_,_,Z,(hZ (h.grpS 0 1 Z Z)).2.2.1⟩⟩⟩,(h.grpS 0 2 Z Z)⟩⟩);have h:=h.grpKeep [0] 0 Z;obtain rfl:=qe hF;have h:=h.p [0,1,4] Z;exact ce qa [oV qf (qL r1 p f c d l o k3 a b k)] ⟨⟨_,_,_,Z,Z,hk6.box 9 Z,Z⟩,G⟩ ⟨_,_,Z,Cv 1 1 h0 h Z Z⟩
 refine X0 5 Z (qn Z hF ?_ ?_)<;>intro hF
 .refine X1 4 1 h Z ?_;have h:=h.p [2,0,1,3,4] Z;obtain⟨_,_,_,h⟩:=tf h;have h:=h.p [1,0,2,3,4,5,6] Z;obtain⟨_,_,_,h⟩:=RR h;obtain⟨y9,hy9,hF,he13,_,_,_,_,hp18,hq17,hr18,hc16⟩:=(h.sl 0 Z).1.ix hF;obtain rfl:=lZ hr18;refine zx hp18 hq17 ⟨he13.1,qE he13.2.1 (h.sl 0 Z).2⟩ Z (cr Z (bM qa 0 1 ({ y9 with Bx:=3 }:bq) h Z hy9 hp18 hq17 (vt y9) hc16 Z Z Z (vt ({ y9 with Bx:=3 })) Z Z Z λ_ h=>X1 5 6 h Z (zs 7 h Z λ_ h=>ae ?_)));have hk7:=h;have h:=h.frzI 4 Z;have h:=h.frzI 2 Z;have h:=h.frzI 1 Z;have h:=h.frzI 0 Z;have h:=h.frzI 3 Z;have h:=h.p [4,2,0,1,3,5,6,7,8] Z;have h:=SH.merge h;have h:=h.p [0,2,1,3,4,5,6,7] Z;have h:=SH.merge h;have h:=SH.merge h;have h:=SH.merge h;have h:=h.grpAdd 0 Z (x:=((⟨r1.Aq,(⟨r1.Aa.Ab,r1.Aa.Ap,(am r1.Aa.Ai 0 ({ y9 with Bx:=3 }))⟩:qk),r1.Ah⟩:qf):qf)) (show qm.R _ _ ((⟨(⟨r1.Aq.As⟩:qD),(⟨r1.Aa.Ab,r1.Aa.Ap,(am r1.Aa.Ai 0 ({ y9 with Bx:=3 }))⟩:qk),r1.Ah⟩:qf):qf) _ from⟨[oL p r1.Aq.As o],[oL f r1.Aa.Ab k3,oL c r1.Aa.Ap a,oL d r1.Aa.Ai b,oL l r1.Ah k],Z,⟨_,_,Z,(uG (h.grpS 0 0 Z Z)).1⟩,⟨[oL f r1.Aa.Ab k3,oL c r1.Aa.Ap a,oL d r1.Aa.Ai b],[oL l r1.Ah k],Z,⟨[oL f r1.Aa.Ab k3],[oL c r1.Aa.Ap a,oL d r1.Aa.Ai b],Z,(h.grpS 0 1 Z Z),⟨[oL c r1.Aa.Ap a],[oL d r1.Aa.Ai b],Z,(h.grpS 0 2 Z Z),(h.grpS 0 3 Z Z)⟩⟩,(h.grpS 0 4 Z Z)⟩⟩);have h:=h.grpKeep [0] 0 Z;obtain rfl:=qe hF;have h:=h.p [0,1,4] Z;exact ce qa [oV qf (qL r1 p f c d l o k3 a b k)] ⟨⟨_,_,_,Z,Z,hk7.box 7 Z,Z⟩,G⟩ ⟨_,_,Z,Cv 1 1 h0 h Z Z⟩
 refine X1 5 1 h Z (zs 3 h Z λ_ h=>ae ?_);have hk8:=h;have h:=h.frzI 2 Z;have h:=h.grpAdd 2 Z (x:=(r1:qf)) (h.grpS 2 0 Z Z);have h:=h.grpKeep [0] 2 Z;obtain rfl:=qe hF;have h:=h.p [2,0,4] Z;exact ce qa [oV qf (qL r1 p f c d l o k3 a b k)] ⟨⟨_,_,_,Z,Z,hk8.box 3 Z,Z⟩,G⟩ ⟨_,_,Z,Cv 1 1 h0 h Z Z⟩
def pQ(n:Nat)(s:qb):Option (qf×Int×Int):=(qv n (⟨s.code,s.at_,s.seed⟩:qb) 12).bind λ(c,a,b)=>bif (c==0) then(tB n (⟨s.code,a,b⟩:qb)).bind λ(r1,i,k)=>V (r1,i,k) else bif (c==1) then bif (c==1) then(lx n (⟨s.code,a,b⟩:qb) 6 An).bind λ(r,l,m)=>V (r,l,m) else(lx n (⟨s.code,a,b⟩:qb) 6 Cd).bind λ(t,i8,p)=>V (t,i8,p) else bif (c==2) then(lx n (⟨s.code,a,b⟩:qb) 6 An).bind λ(u,d,f)=>V (u,d,f) else(lx n (⟨s.code,a,b⟩:qb) 6 Cd).bind λ(v,g,h)=>V (v,g,h)
theorem CJ{n g w F}{s:qb}{d p1 c}(i:SH g w (xb d s p1 c s.at_ s.seed::F))(ha1:qm.R w (Fr g F) s (aq s p1 c)){r:qf×Int×Int}(hF:pQ n s=V r):yb prog 147 [vp d] w (λus w'=>∃S1 cs1,us=[oV qf cs1]/\SH g w' (oG (λ_=>False) S1 [vk (r.1:qf) cs1]::xb d s p1 c r.2.1 r.2.2::F)):=by
 have h:=Da i ha1;refine cz func147 Z (m:=16) Z Z (db (qi qa h Z Z Z λ_ f h=>X0 5 Z ?_));have h:=h.p [1,0,2] Z;obtain⟨⟨_,a,b⟩,hr1,hF⟩:=qc hF;refine mv h (h.frG 2 0 1 Z Z Z) hr1 Z Z Z λ_ h=>X0 7 Z (qn Z hF ?_ ?_)<;>intro hF
 .refine X0 3 Z ?_;obtain⟨⟨r1,i4,i5⟩,hr2,hF⟩:=qc hF;refine bO (cB 203 Z) (GB (Ce:=(⟨s.code,a,b⟩:qb)) h (show qm.R _ _ ((⟨s.code,a,b⟩:qb):qb) _ from⟨[oL p1 s.code c],[vi a,vi b],Z,⟨_,_,Z,(qF (h.frG 2 0 1 Z Z Z)).1⟩,⟨[vi a],[vi b],Z,Z,Z⟩⟩) hr2) Z Z Z Z ?_;rintro _ _ ⟨S2,_,rfl,h⟩;have hr3:=h.grpS 0 0 Z Z;obtain⟨p2,k2,p3,k3,p4,k4,p5,k5,p6,k6,rfl,_,_,_,_,_⟩:=qZ hr3;replace h:SH _ _ [oG (λ_=>False) S2 [vk (r1:qf) (qL r1 p2 p3 p4 p5 p6 k2 k3 k4 k5 k6)],xb d s p1 c i4 i5,oX f TV 34,xf g w F s p1 c]:=h;refine zs 2 h Z λ_ h=>ae ?_;have hk1:=h;have h:=h.grpAdd 0 Z (x:=(r1:qf)) (h.grpS 0 0 Z Z);have h:=h.grpKeep [0] 0 Z;obtain rfl:=qe hF;have h:=h.p [0,1,3] Z;exact ce qa [oV qf (qL r1 p2 p3 p4 p5 p6 k2 k3 k4 k5 k6)] ⟨⟨_,_,_,Z,Z,hk1.box 2 Z,Z⟩,G⟩ ⟨_,_,Z,Cv 1 1 i h Z Z⟩
 refine X0 6 Z (qn Z hF ?_ ?_)<;>intro hF
 .refine eZ (qn Z hF ?_ ?_)<;>intro hF
  .refine X0 3 Z ?_;obtain⟨⟨r2,i6,i7⟩,hr5,hF⟩:=qc hF;refine bO (cB 149 Z) (lP (s:=(⟨s.code,a,b⟩:qb)) (most:=6) (wild:=An) h (show qm.R _ _ ((⟨s.code,a,b⟩:qb):qb) _ from⟨[oL p1 s.code c],[vi a,vi b],Z,⟨_,_,Z,(qF (h.frG 2 0 1 Z Z Z)).1⟩,⟨[vi a],[vi b],Z,Z,Z⟩⟩) hr5) Z Z Z Z ?_;rintro _ _ ⟨S3,_,rfl,h⟩;obtain⟨p7,k7,p8,k8,p9,k9,L,k,M,l,rfl,-,-,-,-,-⟩:=qZ (h.own 0 Z);replace h:SH _ _ [oW S3 (r2:qf) (qL r2 p7 p8 p9 L M k7 k8 k9 k l),xb d s p1 c i6 i7,oX f TV 34,xf g w F s p1 c]:=h;refine zs 2 h Z λ_ h=>ae ?_;have hk2:=h;have h:=h.frzI 0 Z;have h:=h.grpAdd 0 Z (x:=(r2:qf)) (h.grpS 0 0 Z Z);have h:=h.grpKeep [0] 0 Z;obtain rfl:=qe hF;have h:=h.p [0,1,3] Z;exact ce qa [oV qf (qL r2 p7 p8 p9 L M k7 k8 k9 k l)] ⟨⟨_,_,_,Z,Z,hk2.box 2 Z,Z⟩,G⟩ ⟨_,_,Z,Cv 1 1 i h Z Z⟩
  refine X0 5 Z ?_;obtain⟨⟨r3,i8,i9⟩,hr6,hF⟩:=qc hF;refine bO (cB 149 Z) (lP (s:=(⟨s.code,a,b⟩:qb)) (most:=6) (wild:=Cd) h (show qm.R _ _ ((⟨s.code,a,b⟩:qb):qb) _ from⟨[oL p1 s.code c],[vi a,vi b],Z,⟨_,_,Z,(qF (h.frG 2 0 1 Z Z Z)).1⟩,⟨[vi a],[vi b],Z,Z,Z⟩⟩) hr6) Z Z Z Z ?_;rintro _ _ ⟨S4,_,rfl,h⟩;obtain⟨N,o,O,p,P,t,Q,u,R,v,rfl,-,-,-,-,-⟩:=qZ (h.own 0 Z);replace h:SH _ _ [oW S4 (r3:qf) (qL r3 N O P Q R o p t u v),xb d s p1 c i8 i9,oX f TV 34,xf g w F s p1 c]:=h;refine zs 2 h Z λ_ h=>ae ?_;have hk3:=h;have h:=h.frzI 0 Z;have h:=h.grpAdd 0 Z (x:=(r3:qf)) (h.grpS 0 0 Z Z);have h:=h.grpKeep [0] 0 Z;obtain rfl:=qe hF;have h:=h.p [0,1,3] Z;exact ce qa [oV qf (qL r3 N O P Q R o p t u v)] ⟨⟨_,_,_,Z,Z,hk3.box 2 Z,Z⟩,G⟩ ⟨_,_,Z,Cv 1 1 i h Z Z⟩
 refine X0 4 Z (qn Z hF ?_ ?_)<;>intro hF
 .refine X0 3 Z ?_;obtain⟨⟨r4,i10,i11⟩,hr7,hF⟩:=qc hF;refine bO (cB 149 Z) (lP (s:=(⟨s.code,a,b⟩:qb)) (most:=6) (wild:=An) h (show qm.R _ _ ((⟨s.code,a,b⟩:qb):qb) _ from⟨[oL p1 s.code c],[vi a,vi b],Z,⟨_,_,Z,(qF (h.frG 2 0 1 Z Z Z)).1⟩,⟨[vi a],[vi b],Z,Z,Z⟩⟩) hr7) Z Z Z Z ?_;rintro _ _ ⟨S5,_,rfl,h⟩;obtain⟨S,y,T,z,W,A,X,B,Y,C,rfl,-,-,-,-,-⟩:=qZ (h.own 0 Z);replace h:SH _ _ [oW S5 (r4:qf) (qL r4 S T W X Y y z A B C),xb d s p1 c i10 i11,oX f TV 34,xf g w F s p1 c]:=h;refine zs 2 h Z λ_ h=>ae ?_;have hk4:=h;have h:=h.frzI 0 Z;have h:=h.grpAdd 0 Z (x:=(r4:qf)) (h.grpS 0 0 Z Z);have h:=h.grpKeep [0] 0 Z;obtain rfl:=qe hF;have h:=h.p [0,1,3] Z;exact ce qa [oV qf (qL r4 S T W X Y y z A B C)] ⟨⟨_,_,_,Z,Z,hk4.box 2 Z,Z⟩,G⟩ ⟨_,_,Z,Cv 1 1 i h Z Z⟩
 refine X0 5 Z ?_;obtain⟨⟨r5,i12,i13⟩,hr8,hF⟩:=qc hF;refine bO (cB 149 Z) (lP (s:=(⟨s.code,a,b⟩:qb)) (most:=6) (wild:=Cd) h (show qm.R _ _ ((⟨s.code,a,b⟩:qb):qb) _ from⟨[oL p1 s.code c],[vi a,vi b],Z,⟨_,_,Z,(qF (h.frG 2 0 1 Z Z Z)).1⟩,⟨[vi a],[vi b],Z,Z,Z⟩⟩) hr8) Z Z Z Z ?_;rintro _ _ ⟨S6,_,rfl,h⟩;obtain⟨e,D,a3,H,a4,I,a5,J,a6,K,rfl,-,-,-,-,-⟩:=qZ (h.own 0 Z);replace h:SH _ _ [oW S6 (r5:qf) (qL r5 e a3 a4 a5 a6 D H I J K),xb d s p1 c i12 i13,oX f TV 34,xf g w F s p1 c]:=h;refine zs 2 h Z λ_ h=>ae ?_;have hk5:=h;have h:=h.frzI 0 Z;have h:=h.grpAdd 0 Z (x:=(r5:qf)) (h.grpS 0 0 Z Z);have h:=h.grpKeep [0] 0 Z;obtain rfl:=qe hF;have h:=h.p [0,1,3] Z;exact ce qa [oV qf (qL r5 e a3 a4 a5 a6 D H I J K)] ⟨⟨_,_,_,Z,Z,hk5.box 2 Z,Z⟩,G⟩ ⟨_,_,Z,Cv 1 1 i h Z Z⟩
def fK(s:qb)(r1:List qx)(g:Int):Nat->(List Int)->Int->Int->Int->Option ((List Int)×Int×Int×Int)|0,_,_,_,_=>U|n+1,x1,h,b,a=>bif decide (a<(r1.length:Int)) then(df x1 ([a]:List Int)).bind λi=>(qv n (⟨s.code,h,b⟩:qb) (qj (1+g))).bind λ(c,d,f)=>fK s r1 g n i d f (qj (a+(qj (1+c)))) else V (x1,h,b,a)
def pd(n:Nat)(s:qb)(b:qf):Option ((List Int)×Int×Int):=((ki n b).bind λz=>bif (!z) then V (s.at_,s.seed,An) else(qv n (⟨s.code,s.at_,s.seed⟩:qb) 3).bind λ(i,k,l)=>V (k,l,decide (i > 0))).bind λ(m,p,b1)=>bif b1 then V (([]:List Int),m,p) else(kj n b).bind λr1=>(qv n (⟨s.code,m,p⟩:qb) 8).bind λ(r,t,u)=>(qv n (⟨s.code,t,u⟩:qb) (qj (1+r))).bind λ(v,x,i8)=>(fK s r1 r n ([]:List Int) x i8 v).bind λ(x1,y,c,_)=>(qv n (⟨s.code,y,c⟩:qb) 12).bind λ(d,i16,a)=>bif (d==0) then(qv n (⟨s.code,i16,a⟩:qb) 2).bind λ(f,g,h)=>(df x1 ([qj ((r1.length:Int)*f)]:List Int)).bind λA=>V (A,g,h) else V (x1,i16,a)
theorem BG{n c w F}{s:qb}{a p1 f}{b:qf}{cs1}(x:SH c w (xb a s p1 f s.at_ s.seed::F))(C:qm.R w (Fr c F) s (aq s p1 f))(v:qm.R w (Fr c F) b cs1){r:(List Int)×Int×Int}(hF:pd n s b=V r):yb prog 150 [vp a,gv b cs1] w (λus w'=>∃S1 cs2,us=[oV (List Int) cs2]/\SH c w' (oW S1 (r.1:List Int) cs2::xb a s p1 f r.2.1 r.2.2::F)):=by
 have h:=Da x C;have M:=v;obtain⟨p2,S,p3,k3,p4,T,p5,W,p6,X,rfl,_,_,_,_,_⟩:=qZ v;have h:=h.grpAdd 1 Z M;replace h:SH _ _ [xb a s p1 f s.at_ s.seed,oG (old c) (FS F) [vk (b:qf) (qL b p2 p3 p4 p5 p6 S k3 T W X),vk (s:qb) (aq s p1 f),same c w F]]:=h;refine cz func150 Z (m:=52) Z Z (db (qK h Z Z λ_ o h=>X0 4 Z (qt qa [] _ ([]:List Int) h z9 trivial Z λ_ p7 S2 h=>X0 4 Z ?_)));obtain⟨A,u,_,hF,p⟩:=bindE hF;refine bw (λe w'=>∃N P b1,A (N,P,b1)=V r/\e=[(0,vp a),(3,vp o),(5,oS p7 0 0),(17,.bool b1)]/\SH c w' [oW S2 (([]:List Int):List Int) [oS p7 0 0],oX o (qL b p2 p3 p4 p5 p6 S k3 T W X) 34,xb a s p1 f N P,oG (old c) (FS F) [vk (b:qf) (qL b p2 p3 p4 p5 p6 S k3 T W X),vk (s:qb) (aq s p1 f),same c w F]]) ?_ ?_
 .refine X1 2 1 h Z (dI h hF (mJ (h.grp 3 0 Z Z)) Z λ_ _ h hF=>mr Z (qh (t:=13) hF Z ?_ ?_))<;>intro hF
  .refine X0 5 Z ?_;cases qe hF;exact rG ⟨_,_,_,p,Z,h⟩ Z
  refine X0 3 Z ?_;have h:=h.p [2,0,1,3] Z;obtain⟨⟨_,_,_⟩,L,hF⟩:=qc hF;refine mv h (h.frG 3 1 1 Z Z Z) L Z Z Z λ_ h=>X0 4 Z ?_;have h:=h.p [1,2,0,3] Z;cases qe hF;exact rG ⟨_,_,_,p,Z,h⟩ Z
 rintro _ _ ⟨N,P,b1,hF,rfl,h⟩;subst u;refine qn Z hF ?_ ?_<;>intro hF
 .refine X0 5 Z ?_;obtain rfl:=qe hF;have h:=h.p [0,2,3] Z;exact ce qa [oV (List Int) [oS p7 0 0]] ⟨Z,G⟩ ⟨_,_,Z,Cv 1 2 x h Z Z⟩
 refine X1 4 1 h Z (uY h hF (lQ (h.grp 3 0 Z Z)) Z λr1 _ _ _ _ h hF=>X0 6 Z ?_);have h:=h.p [3,0,1,2,4] Z;obtain⟨⟨i3,_,_⟩,D,hF⟩:=qc hF;refine mv h (h.frG 4 1 1 Z Z Z) D Z Z Z λ_ h=>X0 8 Z ?_;obtain⟨⟨_,_,_⟩,H,hF⟩:=qc hF;refine mv h (h.frG 4 1 1 Z Z Z) H Z Z Z λ_ h=>X0 2 Z ?_;have h:=h.grpKeep [1,2] 4 Z;obtain⟨o3,hF,B⟩:=qc hF;refine qq ?_;have h:=h.p [0,2,4] Z;refine rL (λm e w'=>∃S4 z l y x1 Q k d,fK s r1 i3 m x1 Q k d=V o3/\e=[(0,vp a),(5,oS z l y),(6,vi (r1.length:Int)),(7,vi (qj (1+i3))),(8,vi d)]/\SH c w' [xb a s p1 f Q k,oW S4 (x1:List Int) [oS z l y],xf c w F s p1 f]) n ⟨_,_,_,_,_,_,_,_,hF,Z,h⟩ Z ?_;rintro m1 _ _ ⟨S4,z,l,y,x1,Q,k,d,hF,rfl,h⟩;obtain rfl:=(h.sl 1 Z).2;rcases m1 with _|m1
 .cases hF
 refine X0 7 Z (qn Z hF ?_ ?_)<;>intro hF
 .refine X0 6 Z (qt qa [.tmp 38] _ ([d]:List Int) h z9 ⟨Z,G⟩ Z λ_ _ _ h=>?_);obtain⟨_,g,hF⟩:=qc hF;obtain⟨g1,g⟩:=qJ g;refine bn qa 2 h Z (h.sl 0 Z).1 (h.sl 0 Z).2 z9 g1 g Z λ_ _ _ _ h=>X0 7 Z ?_;have h:=h.p [1,0,2,3] Z;obtain⟨⟨_,_,_⟩,I,hF⟩:=qc hF;refine mv h (h.frG 3 0 1 Z Z Z) I Z Z Z λ_ h=>X0 4 Z ?_;exact rK ⟨_,_,_,_,_,_,_,_,hF,Z,h.p [0,2,3] Z⟩ Z
 refine qy Z ?_;cases qe hF;replace hF:=B;refine X0 4 Z ?_;obtain⟨⟨_,_,_⟩,J,hF⟩:=qc hF;refine mv h (h.frG 2 0 1 Z Z Z) J Z Z Z λ_ h=>X0 2 Z (qn Z hF ?_ ?_)<;>intro hF
 .refine X0 4 Z ?_;obtain⟨⟨O,_,_⟩,K,hF⟩:=qc hF;refine mv h (h.frG 2 0 1 Z Z Z) K Z Z Z λ_ h=>cr Z (qt qa [.tmp 48] _ ([qj ((r1.length:Int)*O)]:List Int) h z9 ⟨Z,G⟩ Z λ_ _ _ h=>?_);obtain⟨x3,i,hF⟩:=qc hF;obtain⟨g2,i⟩:=qJ i;refine bn qa 2 h Z (h.sl 0 Z).1 (h.sl 0 Z).2 z9 g2 i Z λ_ Y R _ h=>X0 7 Z ?_;obtain rfl:=qe hF;have h:=h.p [2,1,3] Z;exact ce qa [oV (List Int) [oL Y x3 R]] ⟨Z,G⟩ ⟨_,_,Z,Cv 1 1 x h Z Z⟩
 refine X0 6 Z ?_;obtain rfl:=qe hF;have h:=h.p [1,0,2] Z;exact ce qa [oV (List Int) [oL z x1 y]] ⟨Z,G⟩ ⟨_,_,Z,Cv 1 1 x h Z Z⟩
def pg(n:Nat)(s:qb):Option (qH×Int×Int):=(qv n (⟨s.code,s.at_,s.seed⟩:qb) 3).bind λ|(y,z,A)=>(qG ([(⟨#[115,108,111,119]⟩:ByteArray),(⟨#[102,97,115,116]⟩:ByteArray),(⟨#[116,121,112]⟩:ByteArray)]:List ByteArray) y).bind λh=>(qv n (⟨s.code,z,A⟩:qb) 20).bind λ|(c,B,C)=>(qv n (⟨s.code,B,C⟩:qb) 20).bind λ|(g,i8,D)=>(qv n (⟨s.code,i8,D⟩:qb) 60).bind λ(d,i,k)=>(qv n (⟨s.code,i,k⟩:qb) 40).bind λ(f,l,m)=>(qv n (⟨s.code,l,m⟩:qb) 30).bind λ(i16,a,b)=>bif (i16==0) then V ((⟨h,qj (800+(qj (10*c))),qj ((qj (800+(qj (10*c))))-1),qj (900+(qj (10*g))),qj ((qj (900+(qj (10*g))))+(qj (9*f)))⟩:qH),a,b) else bif (i16==1) then(qv n (⟨s.code,a,b⟩:qb) 3).bind λ(p,r,t)=>(qG ([99,100,(-1)]:List Int) p).bind λF=>V ((⟨h,qj (800+(qj (10*c))),qj ((qj (800+(qj (10*c))))+(qj (7*d))),F,qj ((qj (900+(qj (10*g))))+(qj (9*f)))⟩:qH),r,t) else bif (i16==2) then(qv n (⟨s.code,a,b⟩:qb) 2).bind λ(u,v,x)=>V ((⟨h,qj (800+(qj (10*c))),qj ((qj (800+(qj (10*c))))+(qj (7*d))),qj (900+(qj (10*g))),qj (5000+u)⟩:qH),v,x) else bif (i16==3) then V ((⟨(⟨#[]⟩:ByteArray),qj (800+(qj (10*c))),qj ((qj (800+(qj (10*c))))+(qj (7*d))),qj (900+(qj (10*g))),qj ((qj (900+(qj (10*g))))+(qj (9*f)))⟩:qH),a,b) else V ((⟨h,qj (800+(qj (10*c))),qj ((qj (800+(qj (10*c))))+(qj (7*d))),qj (900+(qj (10*g))),qj ((qj (900+(qj (10*g))))+(qj (9*f)))⟩:qH),a,b)
theorem BH{n l w F}{s:qb}{b p1 p}(h0:SH l w (xb b s p1 p s.at_ s.seed::F))(ha1:qm.R w (Fr l F) s (aq s p1 p)){r:qH×Int×Int}(hF:pg n s=V r):yb prog 148 [vp b] w (λus w'=>us=[oV qH (ch r.1)]/\SH l w' (xb b s p1 p r.2.1 r.2.2::F)):=by
 have h:=Da h0 ha1;refine cz func148 Z (m:=58) Z Z (db (qi qa h Z Z Z λw1 c h=>V7 ?_));obtain⟨⟨i1,i2,i3⟩,S,hF⟩:=qc hF;obtain⟨R,a,hF⟩:=qc hF;obtain⟨⟨v,i5,i6⟩,o,hF⟩:=qc hF;obtain⟨⟨B,i8,i9⟩,k,hF⟩:=qc hF;refine bw (λe w'=>∃C,e=[(0,vp b),(2,vp c),(3,vp C)]/\SH l w' [oX C [.string R,vi (qj (800+(qj (10*v)))),vi 0,vi (qj (900+(qj (10*B)))),vi 0] 36,xb b s p1 p i8 i9,oX c OI 36,xf l w F s p1 p]) ?_ ?_
 .refine qcY [15] (λw'=>SH l w' []) Z 16 Z (bits 16 0) (by kernel_rfl) λ_ hb=>?_;have h:=h.ext hb;clear hb;refine HQ (λe w'=>∃D,e=[(0,vp b),(2,vp c),(3,vp D),(17,.agg #[.string R,vi (qj (800+(qj (10*v)))),vi 0,vi (qj (900+(qj (10*B)))),vi 0])]/\SH l w' [oX D OI 36,xb b s p1 p i8 i9,oX c OI 36,xf l w F s p1 p]) 1 (bits 16 32767) ?_ λKM1=>?_
  .rintro _ _ ⟨D,rfl,h⟩;exact Ao 15 65535 Z (zs 0 h Z λ_ h=>bN (λhs=>absurd (hs 15 (by decide)) (by decide)) (Ad (rG ⟨_,Z,h⟩ Z)))
  refine HQ (λe w'=>e=[(0,vp b),(2,vp c),(17,.agg #[.string R,vi (qj (800+(qj (10*v)))),vi 0,vi (qj (900+(qj (10*B)))),vi 0])]/\SH l w' [xb b s p1 p i8 i9,oX c OI 36,xf l w F s p1 p]) 2 (bits 16 16383) ?_ λKM2=>?_
  .rintro _ _ ⟨rfl,h⟩;exact Ao 14 32767 Z (qi qa h Z Z Z λ_ _ h=>Ag (h.p [] Z) (BK [(0,_),(2,_),(3,_),(17,_)] ⟨Z,Z,Z,Z,G⟩ (KM1 _ _ ⟨_,Z,h⟩)))
  refine HQ (λe w'=>∃H,e=[(0,vp b),(2,vp c),(3,vp H),(8,.string R),(12,vi (qj (800+(qj (10*v))))),(13,vp b)]/\SH l w' [oX H OI 36,xb b s p1 p i5 i6,oX c OI 36,xf l w F s p1 p]) 5 (bits 16 17407) ?_ λKM3=>?_
  .rintro _ _ ⟨H,rfl,h⟩;refine Ao 10 18431 Z ?_;have h:=h.p [1,0,2,3] Z;refine mv h (h.frG 3 0 1 Z Z Z) k Z Z Z λ_ h=>G0 24575 [11,12] (h.p [] Z) Z (Aw 13 32767 (λw' hw=>qB qa [0,1,3] [.tmp 8,.tmp 12,.tmp 16] z8) (h.p [] Z) Z ?_);have h:=h.p [1,0,2,3] Z;exact aK KM1 ⟨_,Z,h⟩ Z
  refine HQ (λe w'=>∃I,e=[(0,vp b),(2,vp c),(3,vp I),(6,vi i1),(12,vi (qj (800+(qj (10*v))))),(16,vi (qj (900+(qj (10*B)))))]/\SH l w' [oX I OI 36,xb b s p1 p i8 i9,oX c OI 36,xf l w F s p1 p]) 5 (bits 16 24550) ?_ λKM4=>?_
  .rintro _ _ ⟨I,rfl,h⟩;refine Ao 0 24551 Z (qt qa [.const (.string CR),.const (.string WW),.const (.string CS)] _ ([CR,WW,CS]:List ByteArray) h z9 ⟨Z,Z,Z,G⟩ Z λ_ _ _ h=>Ag (h.p [] Z) ?_);have X:=bJ a;obtain⟨_,o_17,_,_,b4,b5,-,hr20,_⟩:=(h.sl 0 Z).1.at a;obtain rfl:=hr20;refine Ax 3 24559 b4 b5 ⟨X.1,qE X.2.1 (h.sl 0 Z).2⟩ (h.p [] Z) Z (Ao 4 24575 Z (dF (da qa (qR (w1:=w) (S1:=λ_=>False) h 0 Z a b4 b5 Z) (j:=0) Z Z Z) Z (Ag (h.p [] Z) (Aw 13 32767 (λw' hw=>qB qa [0,1,3] [.tmp 8,.tmp 12,.tmp 16] z8) (h.p [] Z) Z ?_))));have h:=h.p [1,2,3,4] Z;exact aK KM1 ⟨_,Z,h⟩ Z
  refine HQ (λe w'=>e=[(0,vp b),(2,vp c),(8,.string R),(12,vi (qj (800+(qj (10*v))))),(13,vp b)]/\SH l w' [xb b s p1 p i5 i6,oX c OI 36,xf l w F s p1 p]) 6 (bits 16 1023) ?_ λKM5=>?_
  .rintro _ _ ⟨rfl,h⟩;refine At 10 14 2047 17407 Z ?_ ?_
   .refine mv h (h.frG 2 0 1 Z Z Z) k Z Z Z λ_ h=>G0 8191 [11,12] (h.p [] Z) Z (Aw 13 16383 (λw' hw=>qB qa [0,1,3] [.tmp 8,.tmp 12,.tmp 16] z8) (h.p [] Z) Z ?_);exact aK KM2 ⟨Z,h⟩ Z
   exact qi qa h Z Z Z λ_ _ h=>Ag (h.p [] Z) (BK [(0,_),(2,_),(3,_),(8,_),(12,_),(13,_)] ⟨Z,Z,Z,Z,Z,Z,G⟩ (KM3 _ _ ⟨_,Z,h⟩))
  refine HQ (λe w'=>∃J,e=[(0,vp b),(2,vp c),(3,vp J),(8,.string R),(9,vp b),(13,vp b)]/\SH l w' [oX J OI 36,xb b s p1 p i2 i3,oX c OI 36,xf l w F s p1 p]) 8 (bits 16 16959) ?_ λKM6=>?_
  .rintro _ _ ⟨J,rfl,h⟩;refine Ao 6 17023 Z ?_;have h:=h.p [1,0,2,3] Z;refine mv h (h.frG 3 0 1 Z Z Z) o Z Z Z λ_ h=>G0 17407 [7,8] (h.p [] Z) Z ?_;have h:=h.p [1,0,2,3] Z;exact aK KM3 ⟨_,Z,h⟩ Z
  refine HQ (λe w'=>∃K,e=[(0,vp b),(2,vp c),(3,vp K),(6,vi i1),(12,vi (qj (800+(qj (10*v))))),(13,vp b)]/\SH l w' [oX K OI 36,xb b s p1 p i5 i6,oX c OI 36,xf l w F s p1 p]) 8 (bits 16 17382) ?_ λKM7=>?_
  .rintro _ _ ⟨K,rfl,h⟩;refine At 0 10 17383 18406 Z ?_ ?_
   .refine qt qa [.const (.string CR),.const (.string WW),.const (.string CS)] _ ([CR,WW,CS]:List ByteArray) h z9 ⟨Z,Z,Z,G⟩ Z λ_ _ _ h=>Ag (h.p [] Z) ?_;have Y:=bJ a;obtain⟨_,o_18,_,_,N,P,-,hr21,_⟩:=(h.sl 0 Z).1.at a;obtain rfl:=hr21;refine Ax 3 17391 N P ⟨Y.1,qE Y.2.1 (h.sl 0 Z).2⟩ (h.p [] Z) Z (At 4 10 17407 18415 Z ?_ ?_)
    .refine dF (da qa (qR (w1:=w) (S1:=λ_=>False) h 0 Z a N P Z) (j:=0) Z Z Z) Z (Ag (h.p [] Z) ?_);have h:=h.p [1,2,3,4] Z;exact aK KM3 ⟨_,Z,h⟩ Z
    have h:=h.p [2,0,1,3,4] Z;refine mv h (h.frG 4 0 1 Z Z Z) k Z Z Z λ_ h=>G0 24559 [11,12] (h.p [] Z) Z (Ao 4 24575 Z (dF (da qa (qR (w1:=w) (S1:=λ_=>False) h 1 Z a N P Z) (j:=0) Z Z Z) Z (Ag (h.p [] Z) (Aw 13 32767 (λw' hw=>qB qa [0,1,3] [.tmp 8,.tmp 12,.tmp 16] z8) (h.p [] Z) Z ?_))));have h:=h.p [2,0,3,4] Z;exact aK KM1 ⟨_,Z,h⟩ Z
   have h:=h.p [1,0,2,3] Z;refine mv h (h.frG 3 0 1 Z Z Z) k Z Z Z λ_ h=>G0 24550 [11,12] (h.p [] Z) Z ?_;have h:=h.p [1,0,2,3] Z;exact aK KM4 ⟨_,Z,h⟩ Z
  refine HQ (λe w'=>∃L S18 b6,e=[(0,vp b),(2,vp c),(3,vp L),(4,oS b6 3 3),(5,vp b),(9,vp b),(13,vp b)]/\SH l w' [oX L OI 36,oW S18 (([CR,WW,CS]:List ByteArray):List ByteArray) [oS b6 3 3],oX c OI 36,xb b s p1 p s.at_ s.seed,xf l w F s p1 p]) 11 (bits 16 16931) ?_ λKM8=>?_
  .rintro _ _ ⟨L,S18,b6,rfl,h⟩;refine Ao 2 16935 Z ?_;have h:=h.p [3,0,1,2,4] Z;refine mv h (h.frG 4 0 1 Z Z Z) S Z Z Z λ_ h=>Ag (h.p [] Z) ?_;have a3:=bJ a;obtain⟨_,o_19,_,_,x,z,-,hr22,_⟩:=(h.sl 2 Z).1.at a;obtain rfl:=hr22;refine Ax 3 16943 x z ⟨a3.1,qE a3.2.1 (h.sl 2 Z).2⟩ (h.p [] Z) Z (At 4 6 16959 17007 Z ?_ ?_)
   .refine dF (da qa (qR (w1:=w) (S1:=λ_=>False) h 2 Z a x z Z) (j:=0) Z Z Z) Z (Ag (h.p [] Z) ?_);have h:=h.p [1,0,3,4] Z;exact aK KM6 ⟨_,Z,h⟩ Z
   refine mv h (h.frG 4 0 1 Z Z Z) o Z Z Z λ_ h=>G0 17391 [7,8] (h.p [] Z) Z (At 4 10 17407 18415 Z ?_ ?_)
   .refine dF (da qa (qR (w1:=w) (S1:=λ_=>False) h 2 Z a x z Z) (j:=0) Z Z Z) Z (Ag (h.p [] Z) ?_);have h:=h.p [1,0,3,4] Z;exact aK KM3 ⟨_,Z,h⟩ Z
   refine mv h (h.frG 4 0 1 Z Z Z) k Z Z Z λ_ h=>G0 24559 [11,12] (h.p [] Z) Z (Ao 4 24575 Z (dF (da qa (qR (w1:=w) (S1:=λ_=>False) h 2 Z a x z Z) (j:=0) Z Z Z) Z (Ag (h.p [] Z) (Aw 13 32767 (λw' hw=>qB qa [0,1,3] [.tmp 8,.tmp 12,.tmp 16] z8) (h.p [] Z) Z ?_))));have h:=h.p [1,0,3,4] Z;exact aK KM1 ⟨_,Z,h⟩ Z
  refine HQ (λe w'=>∃M,e=[(0,vp b),(2,vp c),(3,vp M),(6,vi i1),(9,vp b),(13,vp b)]/\SH l w' [oX M OI 36,xb b s p1 p i2 i3,oX c OI 36,xf l w F s p1 p]) 11 (bits 16 16934) ?_ λKM9=>?_
  .rintro _ _ ⟨M,rfl,h⟩;refine At 0 6 16935 16998 Z ?_ ?_
   .refine qt qa [.const (.string CR),.const (.string WW),.const (.string CS)] _ ([CR,WW,CS]:List ByteArray) h z9 ⟨Z,Z,Z,G⟩ Z λ_ _ _ h=>Ag (h.p [] Z) ?_;have a4:=bJ a;obtain⟨_,o_20,_,_,y,A,-,hr23,_⟩:=(h.sl 0 Z).1.at a;obtain rfl:=hr23;refine Ax 3 16943 y A ⟨a4.1,qE a4.2.1 (h.sl 0 Z).2⟩ (h.p [] Z) Z (At 4 6 16959 17007 Z ?_ ?_)
    .refine dF (da qa (qR (w1:=w) (S1:=λ_=>False) h 0 Z a y A Z) (j:=0) Z Z Z) Z (Ag (h.p [] Z) ?_);have h:=h.p [1,2,3,4] Z;exact aK KM6 ⟨_,Z,h⟩ Z
    have h:=h.p [2,0,1,3,4] Z;refine mv h (h.frG 4 0 1 Z Z Z) o Z Z Z λ_ h=>G0 17391 [7,8] (h.p [] Z) Z (At 4 10 17407 18415 Z ?_ ?_)
    .refine dF (da qa (qR (w1:=w) (S1:=λ_=>False) h 1 Z a y A Z) (j:=0) Z Z Z) Z (Ag (h.p [] Z) ?_);have h:=h.p [2,0,3,4] Z;exact aK KM3 ⟨_,Z,h⟩ Z
    refine mv h (h.frG 4 0 1 Z Z Z) k Z Z Z λ_ h=>G0 24559 [11,12] (h.p [] Z) Z (Ao 4 24575 Z (dF (da qa (qR (w1:=w) (S1:=λ_=>False) h 1 Z a y A Z) (j:=0) Z Z Z) Z (Ag (h.p [] Z) (Aw 13 32767 (λw' hw=>qB qa [0,1,3] [.tmp 8,.tmp 12,.tmp 16] z8) (h.p [] Z) Z ?_))));have h:=h.p [2,0,3,4] Z;exact aK KM1 ⟨_,Z,h⟩ Z
   have h:=h.p [1,0,2,3] Z;refine mv h (h.frG 3 0 1 Z Z Z) o Z Z Z λ_ h=>G0 17382 [7,8] (h.p [] Z) Z ?_;have h:=h.p [1,0,2,3] Z;exact aK KM7 ⟨_,Z,h⟩ Z
  refine M0 546 [1,5,9] (h.p [] Z) Z (rN 0 2 14 Z Z Z (bits 16 547) (bits 16 550) (bits 16 16930) (by kernel_rfl) (by kernel_rfl) (by kernel_rfl)  (by kernel_rfl) ?_ ?_ ?_)
  .refine qt qa [.const (.string CR),.const (.string WW),.const (.string CS)] _ ([CR,WW,CS]:List ByteArray) h z9 ⟨Z,Z,Z,G⟩ Z λ_ _ _ h=>Ag (h.p [] Z) (At 2 14 551 16931 Z ?_ ?_)
   .have h:=h.p [2,0,1,3] Z;refine mv h (h.frG 3 0 1 Z Z Z) S Z Z Z λ_ h=>Ag (h.p [] Z) ?_;have a5:=bJ a;obtain⟨_,o_21,_,_,d,g,-,hr24,_⟩:=(h.sl 1 Z).1.at a;obtain rfl:=hr24;refine Ax 3 559 d g ⟨a5.1,qE a5.2.1 (h.sl 1 Z).2⟩ (h.p [] Z) Z (rN 4 6 14 Z Z Z (bits 16 575) (bits 16 623) (bits 16 16943) (by kernel_rfl) (by kernel_rfl) (by kernel_rfl)  (by kernel_rfl) ?_ ?_ ?_)
    .refine dF (da qa (qR (w1:=w) (S1:=λ_=>False) h 1 Z a d g Z) (j:=0) Z Z Z) Z (Ag (h.p [] Z) (At 6 14 639 16959 Z ?_ ?_))
     .refine mv h (h.frG 3 0 1 Z Z Z) o Z Z Z λ_ h=>G0 1023 [7,8] (h.p [] Z) Z ?_;have h:=h.p [0,2,3] Z;exact aK KM5 ⟨Z,h⟩ Z
     refine qi qa h Z Z Z λ_ _ h=>Ag (h.p [] Z) ?_;have h:=h.p [0,1,3,4] Z;exact aK KM6 ⟨_,Z,h⟩ Z
    .refine mv h (h.frG 3 0 1 Z Z Z) o Z Z Z λ_ h=>G0 1007 [7,8] (h.p [] Z) Z (rN 4 10 14 Z Z Z (bits 16 1023) (bits 16 2031) (bits 16 17391) (by kernel_rfl) (by kernel_rfl) (by kernel_rfl)  (by kernel_rfl) ?_ ?_ ?_)
     .refine dF (da qa (qR (w1:=w) (S1:=λ_=>False) h 1 Z a d g Z) (j:=0) Z Z Z) Z (Ag (h.p [] Z) ?_);have h:=h.p [0,2,3] Z;exact aK KM5 ⟨Z,h⟩ Z
     .refine mv h (h.frG 3 0 1 Z Z Z) k Z Z Z λ_ h=>G0 8175 [11,12] (h.p [] Z) Z (At 4 14 8191 24559 Z ?_ ?_)
      .refine dF (da qa (qR (w1:=w) (S1:=λ_=>False) h 1 Z a d g Z) (j:=0) Z Z Z) Z (Ag (h.p [] Z) (Aw 13 16383 (λw' hw=>qB qa [0,1,3] [.tmp 8,.tmp 12,.tmp 16] z8) (h.p [] Z) Z ?_));have h:=h.p [0,2,3] Z;exact aK KM2 ⟨Z,h⟩ Z
      refine qi qa h Z Z Z λ_ _ h=>Ag (h.p [] Z) (Ao 4 24575 Z (dF (da qa (qR (w1:=w) (S1:=λ_=>False) h 2 Z a d g Z) (j:=0) Z Z Z) Z (Ag (h.p [] Z) (Aw 13 32767 (λw' hw=>qB qa [0,1,3] [.tmp 8,.tmp 12,.tmp 16] z8) (h.p [] Z) Z ?_))));have h:=h.p [0,1,3,4] Z;exact aK KM1 ⟨_,Z,h⟩ Z
     refine qi qa h Z Z Z λ_ _ h=>Ag (h.p [] Z) (At 4 10 17407 18415 Z ?_ ?_)
     .refine dF (da qa (qR (w1:=w) (S1:=λ_=>False) h 2 Z a d g Z) (j:=0) Z Z Z) Z (Ag (h.p [] Z) ?_);have h:=h.p [0,1,3,4] Z;exact aK KM3 ⟨_,Z,h⟩ Z
     have h:=h.p [1,0,2,3,4] Z;refine mv h (h.frG 4 0 1 Z Z Z) k Z Z Z λ_ h=>G0 24559 [11,12] (h.p [] Z) Z (Ao 4 24575 Z (dF (da qa (qR (w1:=w) (S1:=λ_=>False) h 2 Z a d g Z) (j:=0) Z Z Z) Z (Ag (h.p [] Z) (Aw 13 32767 (λw' hw=>qB qa [0,1,3] [.tmp 8,.tmp 12,.tmp 16] z8) (h.p [] Z) Z ?_))));have h:=h.p [1,0,3,4] Z;exact aK KM1 ⟨_,Z,h⟩ Z
    refine qi qa h Z Z Z λ_ _ h=>Ag (h.p [] Z) (At 4 6 16959 17007 Z ?_ ?_)
    .refine dF (da qa (qR (w1:=w) (S1:=λ_=>False) h 2 Z a d g Z) (j:=0) Z Z Z) Z (Ag (h.p [] Z) ?_);have h:=h.p [0,1,3,4] Z;exact aK KM6 ⟨_,Z,h⟩ Z
    have h:=h.p [1,0,2,3,4] Z;refine mv h (h.frG 4 0 1 Z Z Z) o Z Z Z λ_ h=>G0 17391 [7,8] (h.p [] Z) Z (At 4 10 17407 18415 Z ?_ ?_)
    .refine dF (da qa (qR (w1:=w) (S1:=λ_=>False) h 2 Z a d g Z) (j:=0) Z Z Z) Z (Ag (h.p [] Z) ?_);have h:=h.p [1,0,3,4] Z;exact aK KM3 ⟨_,Z,h⟩ Z
    refine mv h (h.frG 4 0 1 Z Z Z) k Z Z Z λ_ h=>G0 24559 [11,12] (h.p [] Z) Z (Ao 4 24575 Z (dF (da qa (qR (w1:=w) (S1:=λ_=>False) h 2 Z a d g Z) (j:=0) Z Z Z) Z (Ag (h.p [] Z) (Aw 13 32767 (λw' hw=>qB qa [0,1,3] [.tmp 8,.tmp 12,.tmp 16] z8) (h.p [] Z) Z ?_))));have h:=h.p [1,0,3,4] Z;exact aK KM1 ⟨_,Z,h⟩ Z
   exact qi qa h Z Z Z λ_ _ h=>Ag (h.p [] Z) (BK [(0,_),(2,_),(3,_),(4,_),(5,_),(9,_),(13,_)] ⟨Z,Z,Z,Z,Z,Z,Z,G⟩ (KM8 _ _ ⟨_,_,_,Z,h⟩))
  .have h:=h.p [1,0,2] Z;refine mv h (h.frG 2 0 1 Z Z Z) S Z Z Z λ_ h=>Ag (h.p [] Z) (rN 0 6 14 Z Z Z (bits 16 551) (bits 16 614) (bits 16 16934) (by kernel_rfl) (by kernel_rfl) (by kernel_rfl)  (by kernel_rfl) ?_ ?_ ?_)
   .refine qt qa [.const (.string CR),.const (.string WW),.const (.string CS)] _ ([CR,WW,CS]:List ByteArray) h z9 ⟨Z,Z,Z,G⟩ Z λ_ _ _ h=>Ag (h.p [] Z) ?_;have a6:=bJ a;obtain⟨_,o_22,_,_,f,i,-,hr25,_⟩:=(h.sl 0 Z).1.at a;obtain rfl:=hr25;refine Ax 3 559 f i ⟨a6.1,qE a6.2.1 (h.sl 0 Z).2⟩ (h.p [] Z) Z (rN 4 6 14 Z Z Z (bits 16 575) (bits 16 623) (bits 16 16943) (by kernel_rfl) (by kernel_rfl) (by kernel_rfl)  (by kernel_rfl) ?_ ?_ ?_)
    .refine dF (da qa (qR (w1:=w) (S1:=λ_=>False) h 0 Z a f i Z) (j:=0) Z Z Z) Z (Ag (h.p [] Z) (At 6 14 639 16959 Z ?_ ?_))
     .have h:=h.p [1,0,2,3] Z;refine mv h (h.frG 3 0 1 Z Z Z) o Z Z Z λ_ h=>G0 1023 [7,8] (h.p [] Z) Z ?_;have h:=h.p [0,2,3] Z;exact aK KM5 ⟨Z,h⟩ Z
     refine qi qa h Z Z Z λ_ _ h=>Ag (h.p [] Z) ?_;have h:=h.p [0,2,3,4] Z;exact aK KM6 ⟨_,Z,h⟩ Z
    .have h:=h.p [1,0,2,3] Z;refine mv h (h.frG 3 0 1 Z Z Z) o Z Z Z λ_ h=>G0 1007 [7,8] (h.p [] Z) Z (rN 4 10 14 Z Z Z (bits 16 1023) (bits 16 2031) (bits 16 17391) (by kernel_rfl) (by kernel_rfl) (by kernel_rfl)  (by kernel_rfl) ?_ ?_ ?_)
     .refine dF (da qa (qR (w1:=w) (S1:=λ_=>False) h 1 Z a f i Z) (j:=0) Z Z Z) Z (Ag (h.p [] Z) ?_);have h:=h.p [0,2,3] Z;exact aK KM5 ⟨Z,h⟩ Z
     .refine mv h (h.frG 3 0 1 Z Z Z) k Z Z Z λ_ h=>G0 8175 [11,12] (h.p [] Z) Z (At 4 14 8191 24559 Z ?_ ?_)
      .refine dF (da qa (qR (w1:=w) (S1:=λ_=>False) h 1 Z a f i Z) (j:=0) Z Z Z) Z (Ag (h.p [] Z) (Aw 13 16383 (λw' hw=>qB qa [0,1,3] [.tmp 8,.tmp 12,.tmp 16] z8) (h.p [] Z) Z ?_));have h:=h.p [0,2,3] Z;exact aK KM2 ⟨Z,h⟩ Z
      refine qi qa h Z Z Z λ_ _ h=>Ag (h.p [] Z) (Ao 4 24575 Z (dF (da qa (qR (w1:=w) (S1:=λ_=>False) h 2 Z a f i Z) (j:=0) Z Z Z) Z (Ag (h.p [] Z) (Aw 13 32767 (λw' hw=>qB qa [0,1,3] [.tmp 8,.tmp 12,.tmp 16] z8) (h.p [] Z) Z ?_))));have h:=h.p [0,1,3,4] Z;exact aK KM1 ⟨_,Z,h⟩ Z
     refine qi qa h Z Z Z λ_ _ h=>Ag (h.p [] Z) (At 4 10 17407 18415 Z ?_ ?_)
     .refine dF (da qa (qR (w1:=w) (S1:=λ_=>False) h 2 Z a f i Z) (j:=0) Z Z Z) Z (Ag (h.p [] Z) ?_);have h:=h.p [0,1,3,4] Z;exact aK KM3 ⟨_,Z,h⟩ Z
     have h:=h.p [1,0,2,3,4] Z;refine mv h (h.frG 4 0 1 Z Z Z) k Z Z Z λ_ h=>G0 24559 [11,12] (h.p [] Z) Z (Ao 4 24575 Z (dF (da qa (qR (w1:=w) (S1:=λ_=>False) h 2 Z a f i Z) (j:=0) Z Z Z) Z (Ag (h.p [] Z) (Aw 13 32767 (λw' hw=>qB qa [0,1,3] [.tmp 8,.tmp 12,.tmp 16] z8) (h.p [] Z) Z ?_))));have h:=h.p [1,0,3,4] Z;exact aK KM1 ⟨_,Z,h⟩ Z
    refine qi qa h Z Z Z λ_ _ h=>Ag (h.p [] Z) (At 4 6 16959 17007 Z ?_ ?_)
    .refine dF (da qa (qR (w1:=w) (S1:=λ_=>False) h 1 Z a f i Z) (j:=0) Z Z Z) Z (Ag (h.p [] Z) ?_);have h:=h.p [0,2,3,4] Z;exact aK KM6 ⟨_,Z,h⟩ Z
    have h:=h.p [2,0,1,3,4] Z;refine mv h (h.frG 4 0 1 Z Z Z) o Z Z Z λ_ h=>G0 17391 [7,8] (h.p [] Z) Z (At 4 10 17407 18415 Z ?_ ?_)
    .refine dF (da qa (qR (w1:=w) (S1:=λ_=>False) h 2 Z a f i Z) (j:=0) Z Z Z) Z (Ag (h.p [] Z) ?_);have h:=h.p [1,0,3,4] Z;exact aK KM3 ⟨_,Z,h⟩ Z
    refine mv h (h.frG 4 0 1 Z Z Z) k Z Z Z λ_ h=>G0 24559 [11,12] (h.p [] Z) Z (Ao 4 24575 Z (dF (da qa (qR (w1:=w) (S1:=λ_=>False) h 2 Z a f i Z) (j:=0) Z Z Z) Z (Ag (h.p [] Z) (Aw 13 32767 (λw' hw=>qB qa [0,1,3] [.tmp 8,.tmp 12,.tmp 16] z8) (h.p [] Z) Z ?_))));have h:=h.p [1,0,3,4] Z;exact aK KM1 ⟨_,Z,h⟩ Z
   .refine mv h (h.frG 2 0 1 Z Z Z) o Z Z Z λ_ h=>G0 998 [7,8] (h.p [] Z) Z (rN 0 10 14 Z Z Z (bits 16 999) (bits 16 2022) (bits 16 17382) (by kernel_rfl) (by kernel_rfl) (by kernel_rfl)  (by kernel_rfl) ?_ ?_ ?_)
    .refine qt qa [.const (.string CR),.const (.string WW),.const (.string CS)] _ ([CR,WW,CS]:List ByteArray) h z9 ⟨Z,Z,Z,G⟩ Z λ_ _ _ h=>Ag (h.p [] Z) ?_;have a7:=bJ a;obtain⟨_,o_23,_,_,t,u,-,hr26,_⟩:=(h.sl 0 Z).1.at a;obtain rfl:=hr26;refine Ax 3 1007 t u ⟨a7.1,qE a7.2.1 (h.sl 0 Z).2⟩ (h.p [] Z) Z (rN 4 10 14 Z Z Z (bits 16 1023) (bits 16 2031) (bits 16 17391) (by kernel_rfl) (by kernel_rfl) (by kernel_rfl)  (by kernel_rfl) ?_ ?_ ?_)
     .refine dF (da qa (qR (w1:=w) (S1:=λ_=>False) h 0 Z a t u Z) (j:=0) Z Z Z) Z (Ag (h.p [] Z) ?_);have h:=h.p [1,2,3] Z;exact aK KM5 ⟨Z,h⟩ Z
     .have h:=h.p [1,0,2,3] Z;refine mv h (h.frG 3 0 1 Z Z Z) k Z Z Z λ_ h=>G0 8175 [11,12] (h.p [] Z) Z (At 4 14 8191 24559 Z ?_ ?_)
      .refine dF (da qa (qR (w1:=w) (S1:=λ_=>False) h 1 Z a t u Z) (j:=0) Z Z Z) Z (Ag (h.p [] Z) (Aw 13 16383 (λw' hw=>qB qa [0,1,3] [.tmp 8,.tmp 12,.tmp 16] z8) (h.p [] Z) Z ?_));have h:=h.p [0,2,3] Z;exact aK KM2 ⟨Z,h⟩ Z
      refine qi qa h Z Z Z λ_ _ h=>Ag (h.p [] Z) (Ao 4 24575 Z (dF (da qa (qR (w1:=w) (S1:=λ_=>False) h 2 Z a t u Z) (j:=0) Z Z Z) Z (Ag (h.p [] Z) (Aw 13 32767 (λw' hw=>qB qa [0,1,3] [.tmp 8,.tmp 12,.tmp 16] z8) (h.p [] Z) Z ?_))));have h:=h.p [0,1,3,4] Z;exact aK KM1 ⟨_,Z,h⟩ Z
     refine qi qa h Z Z Z λ_ _ h=>Ag (h.p [] Z) (At 4 10 17407 18415 Z ?_ ?_)
     .refine dF (da qa (qR (w1:=w) (S1:=λ_=>False) h 1 Z a t u Z) (j:=0) Z Z Z) Z (Ag (h.p [] Z) ?_);have h:=h.p [0,2,3,4] Z;exact aK KM3 ⟨_,Z,h⟩ Z
     have h:=h.p [2,0,1,3,4] Z;refine mv h (h.frG 4 0 1 Z Z Z) k Z Z Z λ_ h=>G0 24559 [11,12] (h.p [] Z) Z (Ao 4 24575 Z (dF (da qa (qR (w1:=w) (S1:=λ_=>False) h 2 Z a t u Z) (j:=0) Z Z Z) Z (Ag (h.p [] Z) (Aw 13 32767 (λw' hw=>qB qa [0,1,3] [.tmp 8,.tmp 12,.tmp 16] z8) (h.p [] Z) Z ?_))));have h:=h.p [1,0,3,4] Z;exact aK KM1 ⟨_,Z,h⟩ Z
    .refine mv h (h.frG 2 0 1 Z Z Z) k Z Z Z λ_ h=>G0 8166 [11,12] (h.p [] Z) Z (At 0 14 8167 24550 Z ?_ ?_)
     .refine qt qa [.const (.string CR),.const (.string WW),.const (.string CS)] _ ([CR,WW,CS]:List ByteArray) h z9 ⟨Z,Z,Z,G⟩ Z λ_ _ _ h=>Ag (h.p [] Z) ?_;have a8:=bJ a;obtain⟨_,o_24,_,_,O,Q,-,hr27,_⟩:=(h.sl 0 Z).1.at a;obtain rfl:=hr27;refine Ax 3 8175 O Q ⟨a8.1,qE a8.2.1 (h.sl 0 Z).2⟩ (h.p [] Z) Z (At 4 14 8191 24559 Z ?_ ?_)
      .refine dF (da qa (qR (w1:=w) (S1:=λ_=>False) h 0 Z a O Q Z) (j:=0) Z Z Z) Z (Ag (h.p [] Z) (Aw 13 16383 (λw' hw=>qB qa [0,1,3] [.tmp 8,.tmp 12,.tmp 16] z8) (h.p [] Z) Z ?_));have h:=h.p [1,2,3] Z;exact aK KM2 ⟨Z,h⟩ Z
      refine qi qa h Z Z Z λ_ _ h=>Ag (h.p [] Z) (Ao 4 24575 Z (dF (da qa (qR (w1:=w) (S1:=λ_=>False) h 1 Z a O Q Z) (j:=0) Z Z Z) Z (Ag (h.p [] Z) (Aw 13 32767 (λw' hw=>qB qa [0,1,3] [.tmp 8,.tmp 12,.tmp 16] z8) (h.p [] Z) Z ?_))));have h:=h.p [0,2,3,4] Z;exact aK KM1 ⟨_,Z,h⟩ Z
     exact qi qa h Z Z Z λ_ _ h=>Ag (h.p [] Z) (BK [(0,_),(2,_),(3,_),(6,_),(12,_),(16,_)] ⟨Z,Z,Z,Z,Z,Z,G⟩ (KM4 _ _ ⟨_,Z,h⟩))
    exact qi qa h Z Z Z λ_ _ h=>Ag (h.p [] Z) (BK [(0,_),(2,_),(3,_),(6,_),(12,_),(13,_)] ⟨Z,Z,Z,Z,Z,Z,G⟩ (KM7 _ _ ⟨_,Z,h⟩))
   exact qi qa h Z Z Z λ_ _ h=>Ag (h.p [] Z) (BK [(0,_),(2,_),(3,_),(6,_),(9,_),(13,_)] ⟨Z,Z,Z,Z,Z,Z,G⟩ (KM9 _ _ ⟨_,Z,h⟩))
  refine qi qa h Z Z Z λ_ _ h=>Ag (h.p [] Z) (At 0 2 16931 16934 Z ?_ ?_)
  .refine qt qa [.const (.string CR),.const (.string WW),.const (.string CS)] _ ([CR,WW,CS]:List ByteArray) h z9 ⟨Z,Z,Z,G⟩ Z λ_ _ _ h=>Ag (h.p [] Z) ?_;have h:=h.p [1,0,2,3,4] Z;exact aK KM8 ⟨_,_,_,Z,h⟩ Z
  have h:=h.p [2,0,1,3] Z;refine mv h (h.frG 3 0 1 Z Z Z) S Z Z Z λ_ h=>Ag (h.p [] Z) ?_;have h:=h.p [1,0,2,3] Z;exact aK KM9 ⟨_,Z,h⟩ Z
 rintro _ _ ⟨C,rfl,h⟩;refine aD (rA [7] [0] h Z λ_ h=>M1 7 [0,1,2] 0 (h.p [0] Z) Z (Ao 3 15 Z ?_));have h:=h.p [1,0,2,3] Z;obtain⟨⟨T,_,_⟩,hr28,hF⟩:=qc hF;refine mv h (h.frG 3 0 1 Z Z Z) hr28 Z Z Z λ_ h=>G0 127 [4,5,6] (h.p [1] Z) Z (Ao 7 255 Z (zs 1 h Z λ_ h=>bN (λhs=>absurd (hs 7 (by decide)) (by decide)) (Ad (aD (rA [7] [1] h Z λ_ h=>M1 7 [0,1,2] 0 (h.p [1] Z) Z (Ao 3 15 Z ?_))))));obtain⟨⟨W,_,_⟩,hr29,hF⟩:=qc hF;refine mv h (h.frG 3 0 1 Z Z Z) hr29 Z Z Z λ_ h=>G0 127 [4,5,6] (h.p [1] Z) Z (Ao 7 255 Z (zs 1 h Z λ_ h=>bN (λhs=>absurd (hs 7 (by decide)) (by decide)) (Ad (X0 4 Z ?_))));obtain⟨⟨_,_,_⟩,hr30,hF⟩:=qc hF;refine mv h (h.frG 3 0 1 Z Z Z) hr30 Z Z Z λ_ h=>X0 7 Z (qn Z hF ?_ ?_)<;>intro hF
 .refine X1 5 1 h Z (zs 1 h Z λ_ h=>X1 5 1 h Z (zs 2 h Z λ_ h=>ae ?_));have hk1:=h;obtain rfl:=qe hF;have h:=h.p [0,3] Z;exact ce qa [oV qH [.string R,vi (qj (800+(qj (10*v)))),vi (qj ((qj (800+(qj (10*v))))-1)),vi (qj (900+(qj (10*B)))),vi (qj ((qj (900+(qj (10*B))))+(qj (9*W))))]] ⟨⟨_,_,_,Z,Z,hk1.box 2 Z,Z⟩,G⟩ ⟨Z,Cv 1 1 h0 h Z Z⟩
 refine X0 5 Z (qn Z hF ?_ ?_)<;>intro hF
 .refine ah (qt qa [.const (vi (99)),.const (vi (100)),.const (vi (-1))] _ ([99,100,(-1)]:List Int) h z9 ⟨Z,Z,Z,G⟩ Z λ_ _ _ h=>cr Z ?_);have h:=h.p [1,0,2,3,4] Z;obtain⟨⟨_,_,_⟩,hr31,hF⟩:=qc hF;refine mv h (h.frG 4 0 1 Z Z Z) hr31 Z Z Z λ_ h=>?_;obtain⟨y2,_,hF,a9,_,_,_,_,hp25,hq25,rfl,hc27⟩:=(h.sl 1 Z).1.ix hF;refine zx hp25 hq25 ⟨a9.1,qE a9.2.1 (h.sl 1 Z).2⟩ Z (zc 0 hc27 Z (cr Z (zs 2 h Z λ_ h=>X1 5 2 h Z (zs 3 h Z λ_ h=>ae ?_))));have hk2:=h;obtain rfl:=qe hF;have h:=h.p [0,4] Z;exact ce qa [oV qH [.string R,vi (qj (800+(qj (10*v)))),vi (qj ((qj (800+(qj (10*v))))+(qj (7*T)))),vi y2,vi (qj ((qj (900+(qj (10*B))))+(qj (9*W))))]] ⟨⟨_,_,_,Z,Z,hk2.box 3 Z,Z⟩,G⟩ ⟨Z,Cv 1 1 h0 h Z Z⟩
 refine X0 5 Z (qn Z hF ?_ ?_)<;>intro hF
 .refine X0 2 Z ?_;obtain⟨⟨i22,_,_⟩,hr33,hF⟩:=qc hF;refine mv h (h.frG 3 0 1 Z Z Z) hr33 Z Z Z λ_ h=>mr Z (zs 1 h Z λ_ h=>X1 5 1 h Z (zs 2 h Z λ_ h=>ae ?_));have hk3:=h;obtain rfl:=qe hF;have h:=h.p [0,3] Z;exact ce qa [oV qH [.string R,vi (qj (800+(qj (10*v)))),vi (qj ((qj (800+(qj (10*v))))+(qj (7*T)))),vi (qj (900+(qj (10*B)))),vi (qj (5000+i22))]] ⟨⟨_,_,_,Z,Z,hk3.box 2 Z,Z⟩,G⟩ ⟨Z,Cv 1 1 h0 h Z Z⟩
 refine X0 5 Z (qn Z hF ?_ ?_)<;>intro hF
 .refine X0 2 Z (zs 1 h Z λ_ h=>X1 5 1 h Z (zs 2 h Z λ_ h=>ae ?_));have hk4:=h;obtain rfl:=qe hF;have h:=h.p [0,3] Z;exact ce qa [oV qH [.string (⟨#[]⟩:ByteArray),vi (qj (800+(qj (10*v)))),vi (qj ((qj (800+(qj (10*v))))+(qj (7*T)))),vi (qj (900+(qj (10*B)))),vi (qj ((qj (900+(qj (10*B))))+(qj (9*W))))]] ⟨⟨_,_,_,Z,Z,hk4.box 2 Z,Z⟩,G⟩ ⟨Z,Cv 1 1 h0 h Z Z⟩
 refine X1 5 1 h Z (zs 2 h Z λ_ h=>ae ?_);have hk5:=h;obtain rfl:=qe hF;have h:=h.p [0,3] Z;exact ce qa [oV qH [.string R,vi (qj (800+(qj (10*v)))),vi (qj ((qj (800+(qj (10*v))))+(qj (7*T)))),vi (qj (900+(qj (10*B)))),vi (qj ((qj (900+(qj (10*B))))+(qj (9*W))))]] ⟨⟨_,_,_,Z,Z,hk5.box 2 Z,Z⟩,G⟩ ⟨Z,Cv 1 1 h0 h Z Z⟩
def iR(links:List qx)(live:List Bool)(m:Bool):Nat->(List Bool)->Bool->Int->Option ((List Bool)×Bool×Int)|0,_,_,_=>U|n+1,b,b3,a=>bif decide (a<(links.length:Int)) then(qG links a).bind λd=>(qG links a).bind λf=>(bif (!m) then V (f.To,d.Bm) else V (d.Bm,f.To)).bind λ(h,c)=>((qG live a).bind λi=>bif i then(qG b h).bind λk=>bif k then(qG b c).bind λl=>V (!l) else V Cd else V Cd).bind λg=>bif g then(qG b c).bind λ_=>iR links live m n (am b c An) An (qj (a+1)) else iR links live m n b b3 (qj (a+1)) else V (b,b3,a)
def lS(links:List qx)(live:List Bool)(c:Bool):Nat->(List Bool)->Bool->Option ((List Bool)×Bool)|0,_,_=>U|n+1,a,b2=>bif b2 then(iR links live c n a Cd 0).bind λ(b,b3,_)=>lS links live c n b b3 else V (a,b2)
def tc(n:Nat)(c:Int)(links:List qx)(live:List Bool)(node:Int)(b:Bool):Option (List Bool):=(yW c (Cd:Bool)).bind λx1=>(qG x1 node).bind λ_=>(lS links live b n (am x1 node An) An).bind λ(a,_)=>V a
theorem zY{a_n}{links:List qx}{live:List Bool}{node forward}(M:Ro w links cs1)(N:Ro w live cs2){r:List Bool}(F:tc n a_n links live node forward=V r):qN prog 247 [vi a_n,gv links cs1,gv live cs2,vi node,.bool forward] w r:=by
 obtain⟨p1,B,rfl,s1⟩:=M;obtain⟨D,C,rfl,s2⟩:=N;refine zV 63 func247 Z λh=>X0 7 Z ?_;obtain⟨x1,c,F⟩:=qc F;obtain⟨g1,g2,c⟩:=aT c;refine bC qa Bool h z9 g1 g2 c Z λ_ S1 a h=>X0 6 Z ?_;obtain⟨_,c0,F,k,_,_,_,_,s,v,rfl,O⟩:=(h.sl 0 Z).1.ix F;refine zx s v ⟨k.1,qE k.2.1 (h.sl 0 Z).2⟩ Z (bM qa 0 0 An h Z c0 s v Z O Z Z Z Z Z Z Z λ_ h=>X0 6 Z ?_);obtain⟨o1,F,K⟩:=qc F;refine qq (rL (λm e w'=>∃x2 b2,lS links live forward m x2 b2=V o1/\e=[(1,oL p1 links B),(2,oL D live C),(4,.bool forward),(11,oS a x1.length x1.length),(12,.bool b2)]/\SH w w' [oW S1 (x2:List Bool) [oS a x1.length x1.length]]) n ⟨_,_,F,Z,h⟩ Z ?_);rintro m1 _ _ ⟨x2,b2,F,rfl,h⟩;rcases m1 with _|m1
 .cases F
 refine X0 5 Z (qn Z F ?_ ?_)<;>intro F
 .refine X0 10 Z ?_;obtain⟨o2,F,L⟩:=qc F;refine qq (rL (λm e w'=>∃z b3 y,iR links live forward m z b3 y=V o2/\e=[(1,oL p1 links B),(2,oL D live C),(4,.bool forward),(11,oS a x1.length x1.length),(12,.bool b3),(13,vi y)]/\SH w w' [oW S1 (z:List Bool) [oS a x1.length x1.length]]) m1 ⟨_,_,_,F,Z,h⟩ Z ?_);rintro m2 _ _ ⟨z,b3,y,F,rfl,h⟩;rcases m2 with _|m2
  .cases F
  refine X0 8 Z (qn Z F ?_ ?_)<;>intro F
  .refine X0 4 Z (rD (xz Z ?_));obtain⟨_,_,F,W,_,_,_,_,a3,a8,b8,P⟩:=s1.ix F;obtain rfl:=aB b8;refine fU a3 a8 W Z (xm Z (dZ 0 P h Z (xz Z ?_)));obtain⟨_,_,F,X,_,_,_,_,a4,a9,b9,Q⟩:=s1.ix F;obtain rfl:=aB b9;refine fU a4 a9 X Z (xm Z (dZ 1 Q h Z (xz Z (dN h λ_ h=>X0 6 Z ?_))));obtain⟨I,g,_,F,d⟩:=bindE F;refine bw (λe w'=>∃i2 A,I (i2,A)=V o2/\e=[(1,oL p1 links B),(2,oL D live C),(4,.bool forward),(11,oS a x1.length x1.length),(12,.bool b3),(13,vi y),(14,vi i2),(15,vi A)]/\SH w w' [oW S1 (z:List Bool) [oS a x1.length x1.length]]) ?_ ?_
   .refine qn Z F ?_ ?_<;>intro F
    .refine X0 6 Z ?_;cases qe F;exact rG ⟨_,_,d,Z,h⟩ Z
    refine eZ ?_;cases qe F;exact rG ⟨_,_,d,Z,h⟩ Z
   rintro _ _ ⟨i2,A,F,rfl,h⟩;subst g;refine aD ?_;obtain⟨H,f,_,F,b⟩:=bindE F;refine bw (λe w'=>∃J,H J=V o2/\e=[(1,oL p1 links B),(2,oL D live C),(4,.bool forward),(11,oS a x1.length x1.length),(12,.bool b3),(13,vi y),(15,vi A),(58,.bool J)]/\SH w w' [oW S1 (z:List Bool) [oS a x1.length x1.length]]) ?_ ?_
   .refine X0 3 Z ?_;obtain⟨_,_,F,Y,_,_,_,_,a5,b4,rfl,S⟩:=s2.ix F;refine ft a5 b4 Y Z (bL 0 S h Z (cr Z (qh (t:=46) F Z ?_ ?_)))<;>intro F
    .refine X0 5 Z ?_;obtain⟨_,_,F,o,_,_,_,_,a6,b5,rfl,T⟩:=(h.sl 0 Z).1.ix F;refine zx a6 b5 ⟨o.1,qE o.2.1 (h.sl 0 Z).2⟩ Z (X0 1 Z (zc 0 T Z (mr Z (qh (t:=52) F Z ?_ ?_))))<;>intro F
     .refine X0 5 Z ?_;obtain⟨_,_,F,p,_,_,_,_,a7,b7,rfl,i⟩:=(h.sl 0 Z).1.ix F;refine zx a7 b7 ⟨p.1,qE p.2.1 (h.sl 0 Z).2⟩ Z (X0 1 Z (zc 0 i Z (X0 4 Z ?_)));exact rH F b h Z
     refine X0 7 Z ?_;exact rH F b h Z
    refine X0 13 Z ?_;exact rH F b h Z
   rintro _ _ ⟨J,F,rfl,h⟩;subst f;refine qn Z F ?_ ?_<;>intro F
   .refine X0 4 Z ?_;obtain⟨_,c2,F,l,_,_,_,_,u,x,rfl,R⟩:=(h.sl 0 Z).1.ix F;exact zx u x ⟨l.1,qE l.2.1 (h.sl 0 Z).2⟩ Z (bM qa 0 0 An h Z c2 u x Z R Z Z Z Z Z Z Z λ_ h=>X0 10 Z (rK ⟨_,_,_,F,Z,h⟩ Z))
   exact X0 7 Z (rK ⟨_,_,_,F,Z,h⟩ Z)
  refine qy Z ?_;cases qe F;exact YV (rK ⟨_,_,L,Z,h⟩ Z)
 refine qy Z ?_;cases qe F;have F:=K;refine X0 5 Z ?_;cases qe F;exact rO 0 h Z ⟨Z,G⟩
def ij(links:List qx)(live:List Bool)(v:Int):Nat->Int->Option (eE Bool Int)|0,_=>U|n+1,a=>bif decide (a<(links.length:Int)) then(qG live a).bind λb=>bif b then(qG links a).bind λc=>bif (c.Bm==v) then(qG links a).bind λd=>bif (d.To==v) then V (.ret An) else ij links live v n (qj (a+1)) else ij links live v n (qj (a+1)) else ij links live v n (qj (a+1)) else V (.nxt a)
def xk(n:Nat)(links:List qx)(live:List Bool)(v:Int):Option Bool:=(ij links live v n 0).bind λ|.ret r=>V r|.nxt _=>V Cd
theorem NO{links:List qx}{live:List Bool}{v}(b:Ro w links cs1)(c:Ro w live cs2){r:Bool}(F:xk n links live v=V r):qN prog 248 [gv links cs1,gv live cs2,vi v] w r:=by
 obtain⟨p1,D,rfl,s1⟩:=b;obtain⟨I,H,rfl,s2⟩:=c;refine zV 36 func248 Z λh=>X0 9 Z ?_;obtain⟨o1,F,a⟩:=qc F;refine qq (rL (λm e w'=>∃B,ij links live v m B=V o1/\e=[(0,oL p1 links D),(1,oL I live H),(2,vi v),(7,vi B)]/\SH w w' []) n ⟨_,F,Z,h⟩ Z ?_);rintro C _ _ ⟨B,F,rfl,h⟩;rcases C with _|C
 .cases F
 refine X0 8 Z (qn Z F ?_ ?_)<;>intro F
 .refine X0 7 Z ?_;obtain⟨_,_,F,i,_,_,_,_,o,u,rfl,d⟩:=s2.ix F;refine ft o u i Z (bL 0 d h Z (cr Z (qh (t:=18) F Z ?_ ?_)))<;>intro F
  .refine X0 5 Z ?_;obtain⟨_,_,F,k,_,_,_,_,p,x,z,f⟩:=s1.ix F;obtain rfl:=aB z;refine ft p x k Z (X0 3 Z (bL 0 f h Z (X0 6 Z (qh (t:=27) F Z ?_ ?_))))<;>intro F
   .refine X0 5 Z ?_;obtain⟨_,_,F,l,_,_,_,_,s,y,A,g⟩:=s1.ix F;obtain rfl:=aB A;refine ft s y l Z (X0 3 Z (bL 1 g h Z (X0 6 Z (qn Z F ?_ ?_))))<;>intro F
    .refine X0 4 Z ?_;cases qe F;exact rb h a Z
    exact X0 7 Z (rK ⟨_,F,Z,h⟩ Z)
   exact X0 9 Z (bQ Z Z (X0 7 Z (rK ⟨_,F,Z,h⟩ Z)))
  exact X0 18 Z (bQ Z Z (X0 7 Z (rK ⟨_,F,Z,h⟩ Z)))
 refine qy Z ?_;cases qe F;exact X0 4 Z (rb h a Z)
def iV(Ce:Int)(r1:List Bool)(c:List Bool):Nat->(List Int)->(List Bool)->Int->Option ((List Int)×(List Bool)×Int)|0,_,_,_=>U|n+1,d,b,a=>bif decide (a<Ce) then((qG r1 a).bind λg=>bif g then(qG c a).bind λh=>V h else V Cd).bind λb2=>bif b2 then(df d ([a]:List Int)).bind λf=>(qG b a).bind λ_=>iV Ce r1 c n f (am b a An) (qj (a+1)) else iV Ce r1 c n d b (qj (a+1)) else V (d,b,a)
def gj(Ce:Int)(Cf:List qx)(Cg:List Bool):Nat->(List Bool)->(List (List Int))->Int->Option ((List Bool)×(List (List Int))×Int)|0,_,_,_=>U|n+1,b,c,a=>bif decide (a<Ce) then(qG b a).bind λl=>bif l then gj Ce Cf Cg n b c (qj (a+1)) else(tc n Ce Cf Cg a An).bind λr1=>(tc n Ce Cf Cg a Cd).bind λh=>(iV Ce r1 h n ([]:List Int) b 0).bind λ(d,f,_)=>(bif decide ((d.length:Int) > 1) then V An else(xk n Cf Cg a).bind λi=>V i).bind λg=>bif g then(df c ([d]:List (List Int))).bind λk=>gj Ce Cf Cg n f k (qj (a+1)) else gj Ce Cf Cg n f c (qj (a+1)) else V (b,c,a)
def vO(n:Nat)(Ce:Int)(Cf:List qx)(Cg:List Bool):Option (List (List Int)):=(yW Ce (Cd:Bool)).bind λx1=>(gj Ce Cf Cg n x1 ([]:List (List Int)) 0).bind λ(_,a,_)=>V a
theorem LY{Ce}{Cf:List qx}{Cg:List Bool}(a5:Ro w Cf cs1)(a6:Ro w Cg cs2){r:List (List Int)}(F:vO n Ce Cf Cg=V r):qN prog 207 [vi Ce,gv Cf cs1,gv Cg cs2] w r:=by
 obtain⟨p1,N,rfl,s1⟩:=a5;obtain⟨R,O,rfl,s2⟩:=a6;refine zV 73 func207 Z λh=>X0 6 Z (kB qa [] _ ([]:List (List Int)) [] h Z Z Z Z Z Z Z Z Z pN Z Z λ_ _ _ h=>X0 5 Z ?_);obtain⟨x1,f,F⟩:=qc F;obtain⟨g1,g2,f⟩:=aT f;refine bC qa Bool h z9 g1 g2 f Z λ_ S2 d h=>X0 7 Z ?_;obtain⟨o1,F,a3⟩:=qc F;refine qq (rL (λm e w'=>∃(x2:List Bool) (v:Nat->Prop) (c:Option Addr) (l:Nat) (k3:Nat) (a:List (List Int)) (u:Int),gj Ce Cf Cg m x2 a u=V o1/\e=[(0,vi Ce),(1,oL p1 Cf N),(2,oL R Cg O),(7,oS c l k3),(8,oS d x1.length x1.length),(9,vi u)]/\SH w w' [oW S2 (x2:List Bool) [oS d x1.length x1.length],oW v (a:List (List Int)) [oS c l k3]]) n ⟨_,_,_,_,_,_,_,F,Z,h⟩ Z ?_);rintro m1 _ _ ⟨x2,v,c,l,k3,a,u,F,rfl,h⟩;obtain rfl:=(h.sl 1 Z).2;rcases m1 with _|m1
 .cases F
 refine X0 7 Z (qn Z F ?_ ?_)<;>intro F
 .refine X0 8 Z ?_;obtain⟨_,_,F,B,_,_,_,_,b5,b9,rfl,a7⟩:=(h.sl 0 Z).1.ix F;refine zx b5 b9 ⟨B.1,qE B.2.1 (h.sl 0 Z).2⟩ Z (zc 0 a7 Z (ae (qn Z F ?_ ?_)))<;>intro F
  .exact qy Z (X0 5 Z (rK ⟨_,_,_,_,_,_,_,F,Z,h⟩ Z))
  refine X0 7 Z (uY h F (zY ⟨_,_,Z,(h.oldS s1)⟩ ⟨_,_,Z,(h.oldS s2)⟩) Z λr1 _ S4 S P h F=>qbq Z (uY h F (zY ⟨_,_,Z,(h.oldS s1)⟩ ⟨_,_,Z,(h.oldS s2)⟩) Z λs _ S5 T Q h F=>X0 5 Z (qt qa [] _ ([]:List Int) h z9 trivial Z λ_ _ _ h=>X0 7 Z ?_)));obtain⟨o2,F,a4⟩:=qc F;refine qq (rL (λm e w'=>∃M p o k b L K,iV Ce r1 s m b L K=V o2/\e=[(0,vi Ce),(1,oL p1 Cf N),(2,oL R Cg O),(7,oL c a k3),(8,oS d x1.length x1.length),(9,vi u),(10,oL S r1 P),(11,oL T s Q),(12,oS p o k),(13,vi K)]/\SH w w' [oW M (b:List Int) [oS p o k],oW S5 (s:List Bool) [oL T s Q],oW S4 (r1:List Bool) [oL S r1 P],oW S2 (L:List Bool) [oS d x1.length x1.length],oW v (a:List (List Int)) [oL c a k3]]) m1 ⟨_,_,_,_,_,_,_,F,Z,h⟩ Z ?_);rintro m2 _ _ ⟨M,p,o,k,b,L,K,F,rfl,h⟩;obtain rfl:=(h.sl 0 Z).2;rcases m2 with _|m2
  .cases F
  refine X0 7 Z (qn Z F ?_ ?_)<;>intro F
  .refine X0 4 Z ?_;obtain⟨W,z,_,F,x⟩:=bindE F;refine bw (λe w'=>∃b2,W b2=V o2/\e=[(0,vi Ce),(1,oL p1 Cf N),(2,oL R Cg O),(7,oL c a k3),(8,oS d x1.length x1.length),(9,vi u),(10,oL S r1 P),(11,oL T s Q),(12,oL p b k),(13,vi K),(51,.bool b2)]/\SH w w' [oW M (b:List Int) [oL p b k],oW S5 (s:List Bool) [oL T s Q],oW S4 (r1:List Bool) [oL S r1 P],oW S2 (L:List Bool) [oS d x1.length x1.length],oW v (a:List (List Int)) [oL c a k3]]) ?_ ?_
   .refine X0 3 Z ?_;obtain⟨_,_,F,D,_,_,_,_,b7,c0,rfl,a9⟩:=(h.sl 2 Z).1.ix F;refine zx b7 c0 ⟨D.1,qE D.2.1 (h.sl 2 Z).2⟩ Z (zc 0 a9 Z (cr Z (qh (t:=46) F Z ?_ ?_)))<;>intro F
    .refine X0 5 Z ?_;obtain⟨_,_,F,H,_,_,_,_,b8,c2,rfl,b4⟩:=(h.sl 1 Z).1.ix F;refine zx b8 c2 ⟨H.1,qE H.2.1 (h.sl 1 Z).2⟩ Z (X0 1 Z (zc 0 b4 Z (X0 2 Z ?_)));exact rH F x h Z
    refine X0 6 Z ?_;exact rH F x h Z
   rintro _ _ ⟨b2,F,rfl,h⟩;subst z;refine qn Z F ?_ ?_<;>intro F
   .refine X0 4 Z (qt qa [.tmp 53] _ ([K]:List Int) h z9 ⟨Z,G⟩ Z λ_ _ _ h=>?_);obtain⟨_,g,F⟩:=qc F;obtain⟨g3,g⟩:=qJ g;refine bn qa 1 h Z (h.sl 0 Z).1 (h.sl 0 Z).2 z9 g3 g Z λ_ _ _ _ h=>X0 5 Z ?_;obtain⟨_,c3,F,C,_,_,_,_,I,J,rfl,a8⟩:=(h.sl 4 Z).1.ix F;refine zx I J ⟨C.1,qE C.2.1 (h.sl 4 Z).2⟩ Z (bM qa 4 0 An h Z c3 I J Z a8 Z Z Z Z Z Z Z λ_ h=>X0 7 Z ?_);exact rK ⟨_,_,_,_,_,_,_,F,Z,h.p [1,2,3,4,5] Z⟩ Z
   exact X0 7 Z (rK ⟨_,_,_,_,_,_,_,F,Z,h⟩ Z)
  refine qy Z ?_;cases qe F;have F:=a4;refine aD ?_;obtain⟨X,A,_,F,y⟩:=bindE F;refine bw (λe w'=>∃Y,X Y=V o1/\e=[(0,vi Ce),(1,oL p1 Cf N),(2,oL R Cg O),(7,oL c a k3),(8,oS d x1.length x1.length),(9,vi u),(12,oL p b k),(67,.bool Y)]/\SH w w' [oW M (b:List Int) [oL p b k],oW S2 (L:List Bool) [oS d x1.length x1.length],oW v (a:List (List Int)) [oL c a k3]]) ?_ ?_
  .refine X0 5 Z (qh (t:=62) F Z ?_ ?_)<;>intro F
   .refine X0 6 Z ?_;have h:=h.p [0,3,4] Z;exact rH F y h Z
   refine X0 7 Z (dI h F (NO ⟨_,_,Z,(h.oldS s1)⟩ ⟨_,_,Z,(h.oldS s2)⟩) Z λ_ _ h F=>X0 2 Z ?_);have h:=h.p [0,3,4] Z;exact rH F y h Z
  rintro _ _ ⟨Y,F,rfl,h⟩;subst A;refine qn Z F ?_ ?_<;>intro F
  .refine X0 3 Z (kB qa [.tmp 69] _ ([b]:List (List Int)) [1,2] h Z Z Z Z Z Z Z Z Z (gb (qS 0 h Z) pN Z) Z Z λ_ _ _ h=>?_);obtain⟨_,i,F⟩:=qc F;obtain⟨g4,i⟩:=qJ i;have h:=h.p [0,2,1] Z;refine BD qa h Z Z Z Z Z Z Z Z Z g4 i Z λ_ _ _ _ h=>X0 8 Z ?_;exact rK ⟨_,_,_,_,_,_,_,F,Z,h.p [1,0] Z⟩ Z
  refine X0 7 Z ?_;exact rK ⟨_,_,_,_,_,_,_,F,Z,h.p [1,2] Z⟩ Z
 refine qy Z ?_;cases qe F;have F:=a3;refine X0 5 Z ?_;cases qe F;exact rO 1 h Z ⟨Z,G⟩

def iU(b:List Bool)(x1:List Bool):Nat->(List Int)->Int->Option ((List Int)×Int)|0,_,_=>U|n+1,c,a=>bif decide (a<(b.length:Int)) then(qG x1 a).bind λf=>bif (!f) then(df c ([a]:List Int)).bind λd=>iU b x1 n d (qj (a+1)) else iU b x1 n c (qj (a+1)) else V (c,a)
def dz(r1:List qx)(x1:List Bool)(b:List (List Int)):Nat->Int->Int->Option (Int×Int)|0,_,_=>U|n+1,c,a=>bif decide (a<(r1.length:Int)) then(qG x1 a).bind λg=>bif g then(qG r1 a).bind λh=>bif (h.Bf==1) then(qG b 0).bind λi=>(qG r1 a).bind λk=>(tX n i k.Bm).bind λd=>bif d then(qG b 0).bind λl=>(qG r1 a).bind λm=>(tX n l m.To).bind λf=>bif f then dz r1 x1 b n a (qj (a+1)) else dz r1 x1 b n c (qj (a+1)) else dz r1 x1 b n c (qj (a+1)) else dz r1 x1 b n c (qj (a+1)) else dz r1 x1 b n c (qj (a+1)) else V (c,a)
def oy(r1:List qx)(b:Int):Nat->(List Bool)->Option (List Bool)|0,_=>U|n+1,x1=>(vO n b r1 x1).bind λc=>bif ((c.length:Int)==0) then V x1 else(dz r1 x1 c n (-1) 0).bind λ(a,_)=>(qG x1 a).bind λ_=>oy r1 b n (am x1 a Cd)
def vN(n:Nat)(Ce:qf):Option (List Int):=(kj n Ce).bind λr1=>(pe n r1 ([]:List Int)).bind λa=>(bV n Ce).bind λb=>(oy r1 b n a).bind λx1=>(iU a x1 n ([]:List Int) 0).bind λ(c,_)=>V c
theorem LX{Ce:qf}(b:Ro w Ce cs1){r:List Int}(F:vN n Ce=V r):qN prog 151 [gv Ce cs1] w r:=by
 obtain⟨_,_,_,_,_,_,_,_,_,_,rfl,_,_,_,_,_⟩:=qZ b;refine zV 86 func151 Z λh=>db (qK h Z Z λ_ _ h=>X1 5 0 h Z (uY h F (lQ (h.old b)) Z λr1 _ S1 Q P h F=>X0 5 Z (qt qa [] _ ([]:List Int) h z9 trivial Z λ_ _ _ h=>uY h F (pn (h.own 1 Z) (h.own 0 Z)) Z λg _ S k i h F=>X1 5 3 h Z (mR h F (dY (h.old b)) Z λr3 _ h F=>X0 3 Z ?_))));obtain⟨o1,F,T⟩:=qc F;refine qq ?_;have h:=h.p [0,2] Z;refine rL (λm e w'=>∃x1,oy r1 r3 m x1=V o1/\e=[(3,oL Q r1 P),(4,oL k g i),(5,vi r3)]/\SH w w' [oW S (x1:List Bool) [oL k g i],oW S1 (r1:List qx) [oL Q r1 P]]) n ⟨_,F,Z,h⟩ Z ?_;rintro m1 _ _ ⟨x1,F,rfl,h⟩;rcases m1 with _|m1
 .cases F
 refine X0 6 Z (uY h F (LY (h.own 1 Z) (h.own 0 Z)) Z λR _ S4 p9 k8 h F=>X0 9 Z (qn Z F ?_ ?_))<;>intro F
 .refine qy Z ?_;obtain rfl:=qe F;have F:=T;refine db (qt qa [] _ ([]:List Int) h z9 trivial Z λ_ _ _ h=>X0 7 Z ?_);obtain⟨o2,F,W⟩:=qc F;refine qq ?_;have h:=h.p [0,2] Z;refine rL (λm e w'=>∃S6 f d k9 x2 O,iU g x1 m x2 O=V o2/\e=[(4,oL k g i),(9,oS f d k9),(10,vi O)]/\SH w w' [oW S6 (x2:List Int) [oS f d k9],oW S (x1:List Bool) [oL k g i]]) n ⟨_,_,_,_,_,_,F,Z,h⟩ Z ?_;rintro m2 _ _ ⟨S6,f,d,k9,x2,O,F,rfl,h⟩;obtain rfl:=(h.sl 0 Z).2;rcases m2 with _|m2
  .cases F
  refine X0 8 Z (qn Z F ?_ ?_)<;>intro F
  .refine X0 7 Z ?_;obtain⟨_,_,F,s,_,_,_,_,a7,b8,rfl,Y⟩:=(h.sl 1 Z).1.ix F;refine zx a7 b8 ⟨s.1,qE s.2.1 (h.sl 1 Z).2⟩ Z (zc 0 Y Z (X0 2 Z (qn Z F ?_ ?_)))<;>intro F
   .refine X0 3 Z (qt qa [.tmp 82] _ ([O]:List Int) h z9 ⟨Z,G⟩ Z λ_ _ _ h=>?_);obtain⟨_,c,F⟩:=qc F;obtain⟨g1,c⟩:=qJ c;refine bn qa 1 h Z (h.sl 0 Z).1 (h.sl 0 Z).2 z9 g1 c Z λ_ _ _ _ h=>X0 8 Z ?_;exact rK ⟨_,_,_,_,_,_,F,Z,h.p [1,2] Z⟩ Z
   exact X0 7 Z (rK ⟨_,_,_,_,_,_,F,Z,h⟩ Z)
  refine qy Z ?_;cases qe F;have F:=W;refine X0 5 Z ?_;cases qe F;exact rO 0 h Z ⟨Z,G⟩
 refine X0 10 Z ?_;obtain⟨o3,F,X⟩:=qc F;refine qq (rL (λm e w'=>∃i2 i3,dz r1 x1 R m i2 i3=V o3/\e=[(3,oL Q r1 P),(4,oL k g i),(5,vi r3),(6,oL p9 R k8),(7,vi i2),(8,vi i3)]/\SH w w' [oW S4 (R:List (List Int)) [oL p9 R k8],oW S (x1:List Bool) [oL k g i],oW S1 (r1:List qx) [oL Q r1 P]]) m1 ⟨_,_,F,Z,h⟩ Z ?_);rintro m3 _ _ ⟨i2,i3,F,rfl,h⟩;rcases m3 with _|m3
 .cases F
 refine X0 8 Z (qn Z F ?_ ?_)<;>intro F
 .refine X0 4 Z (rD (xz Z ?_));obtain⟨_,_,F,u,_,_,_,_,a8,b9,rfl,a3⟩:=(h.sl 1 Z).1.ix F;refine V9 a8 b9 ⟨u.1,qE u.2.1 (h.sl 1 Z).2⟩ Z (V8 0 a3 Z (xm Z (bu (t:=35) F Z ?_ ?_)))<;>intro F
  .refine Y0 5 Z ?_;obtain⟨_,_,F,v,_,_,_,_,a9,c0,c6,a4⟩:=(h.sl 2 Z).1.ix F;obtain rfl:=aB c6;refine V9 a9 c0 ⟨v.1,qE v.2.1 (h.sl 2 Z).2⟩ Z (Y0 3 Z (V8 2 a4 Z (Y0 4 Z (bu (t:=43) F Z ?_ ?_))))<;>intro F
   .refine Y0 3 Z ?_;obtain⟨_,N,F⟩:=qc F;have x:=bJ N;have h:=h.lrn0 0 Z;obtain⟨_,o_4,_,_,b4,c2,-,M,a5⟩:=(tV (h.lrnO 0 Z)).1.at N;have c7:=M;obtain⟨_,_,rfl,_⟩:=M;have h:=h.lrnAdd 0 Z c7;refine V9 b4 c2 ⟨x.1,qE x.2.1 (tV (h.lrnO 0 Z)).2⟩ Z (Y0 1 Z (V8 0 a5 Z (Y0 5 Z ?_)));obtain⟨_,_,F,y,_,_,_,_,b5,c3,H,a6⟩:=(h.sl 2 Z).1.ix F;obtain rfl:=aB H;refine V9 b5 c3 ⟨y.1,qE y.2.1 (h.sl 2 Z).2⟩ Z (Y0 3 Z (V8 0 a6 Z (Y0 1 Z ?_)));obtain⟨r5,I,F⟩:=qc F;refine dB r5 (MT _) (cB 171 Z) (λ_ hb=>xT (qm.mono ((h.ext hb).lrnS 0 0 Z Z) ((h.ext hb).lrnB 0 Z)) I) Z Z Z Z (xz Z (bu (t:=54) F Z ?_ ?_))<;>intro F
    .refine Y0 3 Z ?_;obtain⟨_,_,F,z,_,_,_,_,b6,c4,a,l⟩:=(tV (h.lrnO 0 Z)).1.ix F;have J:=a;obtain⟨_,_,rfl,_⟩:=a;have h:=h.lrnAdd 0 Z J;refine V9 b6 c4 ⟨z.1,qE z.2.1 (tV (h.lrnO 0 Z)).2⟩ Z (Y0 1 Z (V8 0 l Z (Y0 5 Z ?_)));obtain⟨_,_,F,A,_,_,_,_,b7,c5,K,o⟩:=(h.sl 2 Z).1.ix F;obtain rfl:=aB K;refine V9 b7 c5 ⟨A.1,qE A.2.1 (h.sl 2 Z).2⟩ Z (Y0 3 Z (V8 1 o Z (Y0 1 Z ?_)));obtain⟨r6,L,F⟩:=qc F;refine dB r6 (MT _) (cB 171 Z) (λ_ hb=>xT (qm.mono ((h.ext hb).lrnS 0 0 Z Z) ((h.ext hb).lrnB 0 Z)) L) Z Z Z Z (xm Z (dN h λ_ h=>qn Z F ?_ ?_))<;>intro F
     .refine X0 10 Z ?_;have h:=h.unlrn 0 Z;exact rK ⟨_,_,F,Z,h⟩ Z
     refine X0 7 Z ?_;have h:=h.unlrn 0 Z;exact rK ⟨_,_,F,Z,h⟩ Z
    refine Y0 10 Z (dN h λ_ h=>bQ Z Z (X0 7 Z ?_));have h:=h.unlrn 0 Z;exact rK ⟨_,_,F,Z,h⟩ Z
   exact Y0 21 Z (dN h λ_ h=>bQ Z Z (X0 7 Z (rK ⟨_,_,F,Z,h⟩ Z)))
  exact Y0 29 Z (dN h λ_ h=>bQ Z Z (X0 7 Z (rK ⟨_,_,F,Z,h⟩ Z)))
 refine qy Z ?_;cases qe F;have F:=X;refine X0 3 Z ?_;obtain⟨_,c8,F,B,_,_,_,_,C,D,rfl,p⟩:=(h.sl 1 Z).1.ix F;refine zx C D ⟨B.1,qE B.2.1 (h.sl 1 Z).2⟩ Z (bM qa 1 0 Cd h Z c8 C D Z p Z Z Z Z Z Z Z λ_ h=>qe9 ?_);exact rK ⟨_,F,Z,h.p [1,2] Z⟩ Z
def dS(Ce:qb)(A:Int)(b1:Bool):Nat->(List ql)->Int->Int->Int->Option ((List ql)×Int×Int×Int)|0,_,_,_,_=>U|n+1,D,B,C,d=>bif decide (d<2) then(bif b1 then(qv n (⟨Ce.code,B,C⟩:qb) 8).bind λ(s,b,c)=>bif decide (s > 0) then V (b,c,An) else(qv n (⟨Ce.code,b,c⟩:qb) 24).bind λ(t,u,v)=>V (u,v,(t==0)) else(qv n (⟨Ce.code,B,C⟩:qb) 24).bind λ(x,y,z)=>V (y,z,(x==0))).bind λ|(F,i8,b2)=>bif b2 then(qv n (⟨Ce.code,F,i8⟩:qb) 200).bind λ|(H,f,g)=>(qv n (⟨Ce.code,f,g⟩:qb) 30).bind λ(a,h,i)=>(qv n (⟨Ce.code,h,i⟩:qb) 40).bind λ(k,i16,l)=>(qv n (⟨Ce.code,i16,l⟩:qb) 12).bind λ(m,p,r)=>(df D ([(⟨qj ((qj (2*A))+d),(⟨qj (H-50),qj ((qj (H-50))+k)⟩:qg),(⟨a,qj (a+m)⟩:qg)⟩:ql)]:List ql)).bind λI=>dS Ce A b1 n I p r (qj (d+1)) else dS Ce A b1 n D F i8 (qj (d+1)) else V (D,B,C,d)
def fp(Ce:qb)(b:List qW):Nat->(List ql)->Int->Int->Int->Option ((List ql)×Int×Int×Int)|0,_,_,_,_=>U|n+1,x1,c,d,a=>bif decide (a<(b.length:Int)) then((qG b a).bind λi=>bif decide (i.instance_<0) then(qG b a).bind λk=>V k.drives else V Cd).bind λb1=>(dS Ce a b1 n x1 c d 0).bind λ(h,f,g,_)=>fp Ce b n h f g (qj (a+1)) else V (x1,c,d,a)
def li(n:Nat)(Ce:qb)(Cf:qf):Option ((List ql)×Int×Int):=(ki n Cf).bind λr1=>bif (!r1) then V (([]:List ql),Ce.at_,Ce.seed) else(fa n (⟨Cf.Aa.Ab,Cf.Aa.Ap,Cf.Aa.Ai⟩:qk)).bind λm=>(fp Ce m n ([]:List ql) Ce.at_ Ce.seed 0).bind λ(x1,g,h,_)=>bif decide ((x1.length:Int) > 0) then(qv n (⟨Ce.code,g,h⟩:qb) (x1.length:Int)).bind λ(a,f,i32)=>(qv n (⟨Ce.code,f,i32⟩:qb) 30).bind λ(d,b,c)=>bif (d==0) then(qG x1 0).bind λp=>(qG x1 a).bind λr=>V ((am x1 a ({ r with Bo:=p.Bo })),b,c) else bif (d==1) then(qG x1 a).bind λs=>(qG x1 a).bind λi=>V ((am x1 a ({ i with Af:={ i.Af with Ar:=qj (s.Af.Bc+1) } })),b,c) else bif (d==2) then(qG x1 a).bind λk=>V ((am x1 a ({ k with Ba:={ k.Ba with Ar:=(-1) } })),b,c) else bif (d==3) then(qG x1 a).bind λl=>V ((am x1 a ({ l with Af:={ l.Af with Bc:=1000000000 } })),b,c) else V (x1,b,c) else V (x1,g,h)
theorem tY{n b w F}{Ce:qb}{a p1 c}{Cf:qf}{cs1}(o:SH b w (xb a Ce p1 c Ce.at_ Ce.seed::F))(ha1:qm.R w (Fr b F) Ce (aq Ce p1 c))(H:qm.R w (Fr b F) Cf cs1){r:(List ql)×Int×Int}(hF:li n Ce Cf=V r):yb prog 152 [vp a,gv Cf cs1] w (λus w'=>∃S1 cs2,us=[oV (List ql) cs2]/\SH b w' (oW S1 (r.1:List ql) cs2::xb a Ce p1 c r.2.1 r.2.2::F)):=by
 have h:=Da o ha1;have hz1:=H;obtain⟨p2,k2,p3,k3,p4,k4,p5,k5,p6,k6,rfl,_,_,_,_,_⟩:=qZ H;have h:=h.grpAdd 1 Z hz1;replace h:SH _ _ [xb a Ce p1 c Ce.at_ Ce.seed,oG (old b) (FS F) [vk (Cf:qf) (qL Cf p2 p3 p4 p5 p6 k2 k3 k4 k5 k6),vk (Ce:qb) (aq Ce p1 c),same b w F]]:=h;refine cz func152 Z (m:=128) Z Z (db (qK h Z Z λ_ _ h=>X0 4 Z (qt qa [] _ ([]:List ql) h z9 trivial Z λ_ p7 _ h=>X1 6 1 h Z (dI h hF (mJ (h.grp 3 0 Z Z)) Z λ_ _ h hF=>X0 2 Z (qn Z hF ?_ ?_)))))<;>intro hF
 .refine X0 5 Z ?_;obtain rfl:=qe hF;have h:=h.p [0,2,3] Z;exact ce qa [oV (List ql) [oS p7 0 0]] ⟨Z,G⟩ ⟨_,_,Z,Cv 1 2 o h Z Z⟩
 refine X1 5 1 h Z (uY h hF (eH (show qm.R _ _ (Cf.Aa:qk) _ from⟨[oL p3 Cf.Aa.Ab k3],[oL p4 Cf.Aa.Ap k4,oL p5 Cf.Aa.Ai k5],Z,⟨_,_,Z,(fT (h.grp 3 0 Z Z)).2.1.1⟩,⟨[oL p4 Cf.Aa.Ap k4],[oL p5 Cf.Aa.Ai k5],Z,⟨_,_,Z,(fT (h.grp 3 0 Z Z)).2.2.1.1⟩,⟨_,_,Z,(fT (h.grp 3 0 Z Z)).2.2.2.1.1⟩⟩⟩)) Z λd _ S3 s p h hF=>X0 7 Z ?_);have h:=h.grpKeep [1,2] 4 Z;obtain⟨o1,hF,hK1⟩:=qc hF;refine qq ?_;have h:=h.p [0,1,3,4] Z;refine rL (λm e w'=>∃S4 i x f x1 i1 i2 l,fp Ce d m x1 i1 i2 l=V o1/\e=[(0,vp a),(5,oS i x f),(6,oL s d p),(7,vi l)]/\SH b w' [oW S3 (d:List qW) [oL s d p],oW S4 (x1:List ql) [oS i x f],xb a Ce p1 c i1 i2,xf b w F Ce p1 c]) n ⟨_,_,_,_,_,_,_,_,hF,Z,h⟩ Z ?_;rintro m1 _ _ ⟨S4,i,x,f,x1,i1,i2,l,hF,rfl,h⟩;obtain rfl:=(h.sl 1 Z).2;rcases m1 with _|m1
 .cases hF
 refine X0 8 Z (qn Z hF ?_ ?_)<;>intro hF
 .refine X0 4 Z ?_;obtain⟨KF2,D,_,hF,B⟩:=bindE hF;refine bw (λe w'=>∃b1,KF2 b1=V o1/\e=[(0,vp a),(5,oL i x1 f),(6,oL s d p),(7,vi l),(8,.bool b1)]/\SH b w' [oW S3 (d:List qW) [oL s d p],oW S4 (x1:List ql) [oL i x1 f],xb a Ce p1 c i1 i2,xf b w F Ce p1 c]) ?_ ?_
  .refine X0 3 Z ?_;obtain⟨_,_,hF,N,_,_,_,_,hp1,hq1,a9,hc5⟩:=(h.sl 0 Z).1.ix hF;obtain rfl:=dw a9;refine zx hp1 hq1 ⟨N.1,qE N.2.1 (h.sl 0 Z).2⟩ Z (cr Z (zc 0 hc5 Z (mr Z (qh (t:=33) hF Z ?_ ?_))))<;>intro hF
   .refine X0 5 Z ?_;obtain⟨_,_,hF,O,_,_,_,_,hp2,hq2,b4,hc6⟩:=(h.sl 0 Z).1.ix hF;obtain rfl:=dw b4;refine zx hp2 hq2 ⟨O.1,qE O.2.1 (h.sl 0 Z).2⟩ Z (X0 3 Z (zc 3 hc6 Z (X0 3 Z ?_)));exact rH hF B h Z
   refine X0 8 Z ?_;exact rH hF B h Z
  rintro _ _ ⟨b1,hF,rfl,h⟩;subst D;refine X0 4 Z ?_;obtain⟨o2,hF,hK2⟩:=qc hF;refine qq (rL (λm e w'=>∃S5 g y k9 A i4 i5 z,dS Ce l b1 m A i4 i5 z=V o2/\e=[(0,vp a),(5,oS g y k9),(6,oL s d p),(7,vi l),(8,.bool b1),(9,vi z)]/\SH b w' [oW S3 (d:List qW) [oL s d p],oW S5 (A:List ql) [oS g y k9],xb a Ce p1 c i4 i5,xf b w F Ce p1 c]) m1 ⟨_,_,_,_,_,_,_,_,hF,Z,h⟩ Z ?_);rintro m2 _ _ ⟨S5,g,y,k9,A,i4,i5,z,hF,rfl,h⟩;obtain rfl:=(h.sl 1 Z).2;rcases m2 with _|m2
  .cases hF
  refine X0 6 Z (qn Z hF ?_ ?_)<;>intro hF
  .refine X0 4 Z ?_;obtain⟨KF1,C,_,hF,u⟩:=bindE hF;refine bw (λe w'=>∃i7 i8 b2,KF1 (i7,i8,b2)=V o2/\e=[(0,vp a),(5,oL g A k9),(6,oL s d p),(7,vi l),(8,.bool b1),(9,vi z),(54,.bool b2)]/\SH b w' [xb a Ce p1 c i7 i8,oW S3 (d:List qW) [oL s d p],oW S5 (A:List ql) [oL g A k9],xf b w F Ce p1 c]) ?_ ?_
   .refine X0 3 Z (qh (t:=45) hF Z ?_ ?_)<;>intro hF
    .refine X0 3 Z ?_;have h:=h.p [2,0,1,3] Z;obtain⟨⟨_,_,_⟩,hr7,hF⟩:=qc hF;refine mv h (h.frG 3 0 1 Z Z Z) hr7 Z Z Z λ_ h=>X0 4 Z (qh (t:=50) hF Z ?_ ?_)<;>intro hF
     .refine X0 5 Z ?_;cases qe hF;exact rG ⟨_,_,_,u,Z,h⟩ Z
     refine X0 3 Z ?_;obtain⟨⟨_,_,_⟩,hr8,hF⟩:=qc hF;refine mv h (h.frG 3 0 1 Z Z Z) hr8 Z Z Z λ_ h=>X0 4 Z ?_;cases qe hF;exact rG ⟨_,_,_,u,Z,h⟩ Z
    refine X0 8 Z ?_;have h:=h.p [2,0,1,3] Z;obtain⟨⟨_,_,_⟩,hr9,hF⟩:=qc hF;refine mv h (h.frG 3 0 1 Z Z Z) hr9 Z Z Z λ_ h=>X0 4 Z ?_;cases qe hF;exact rG ⟨_,_,_,u,Z,h⟩ Z
   rintro _ _ ⟨i7,i8,b2,hF,rfl,h⟩;subst C;refine qn Z hF ?_ ?_<;>intro hF
   .refine X0 3 Z ?_;obtain⟨⟨i9,_,_⟩,hr3,hF⟩:=qc hF;refine mv h (h.frG 3 0 1 Z Z Z) hr3 Z Z Z λ_ h=>mr Z ?_;obtain⟨⟨k,_,_⟩,hr4,hF⟩:=qc hF;refine mv h (h.frG 3 0 1 Z Z Z) hr4 Z Z Z λ_ h=>X0 12 Z ?_;obtain⟨⟨c4,_,_⟩,hr5,hF⟩:=qc hF;refine mv h (h.frG 3 0 1 Z Z Z) hr5 Z Z Z λ_ h=>cr Z (dF (qB qa [0,1] [.tmp 65,.tmp 69] z8) Z (CK Z ?_));obtain⟨⟨c5,_,_⟩,hr6,hF⟩:=qc hF;refine mv h (h.frG 3 0 1 Z Z Z) hr6 Z Z Z λ_ h=>cr Z (dF (qB qa [0,1] [.tmp 71,.tmp 75] z8) Z (dF (qB qa [0,1,2] [.tmp 64,.tmp 70,.tmp 76] z8) Z (qt qa [.tmp 77] _ ([(⟨qj ((qj (2*l))+z),(⟨qj (i9-50),qj ((qj (i9-50))+c4)⟩:qg),(⟨k,qj (k+c5)⟩:qg)⟩:ql)]:List ql) h z9 ⟨(dE (⟨qj ((qj (2*l))+z),(⟨qj (i9-50),qj ((qj (i9-50))+c4)⟩:qg),(⟨k,qj (k+c5)⟩:qg)⟩:ql)),G⟩ Z λ_ _ _ h=>?_)));obtain⟨_,v,hF⟩:=qc hF;obtain⟨g1,v⟩:=qJ v;refine bn qa 3 h Z (h.sl 0 Z).1 (h.sl 0 Z).2 z9 g1 v Z λ_ _ _ _ h=>X0 8 Z ?_;exact rK ⟨_,_,_,_,_,_,_,_,hF,Z,h.p [2,3,1,4] Z⟩ Z
   refine X0 7 Z ?_;exact rK ⟨_,_,_,_,_,_,_,_,hF,Z,h.p [1,2,0,3] Z⟩ Z
  refine qy Z ?_;cases qe hF;exact X0 6 Z (rK ⟨_,_,_,_,_,_,_,_,hK2,Z,h⟩ Z)
 refine qy Z ?_;cases qe hF;replace hF:=hK1;refine X0 7 Z (qn Z hF ?_ ?_)<;>intro hF
 .refine X0 5 Z ?_;have h:=h.p [2,0,1,3] Z;obtain⟨⟨_,_,_⟩,b5,hF⟩:=qc hF;refine mv h (h.frG 3 0 1 Z Z Z) b5 Z Z Z λ_ h=>X0 5 Z ?_;obtain⟨⟨_,_,_⟩,b6,hF⟩:=qc hF;refine mv h (h.frG 3 0 1 Z Z Z) b6 Z Z Z λ_ h=>X0 7 Z (qn Z hF ?_ ?_)<;>intro hF
  .refine X0 4 Z ?_;obtain⟨y3,_,hF,P,_,_,_,_,hp3,hq3,b7,hc9⟩:=(h.sl 2 Z).1.ix hF;obtain rfl:=au b7;refine zx hp3 hq3 ⟨P.1,qE P.2.1 (h.sl 2 Z).2⟩ Z (cr Z (zc 0 hc9 Z ?_));obtain⟨y4,hy4,hF,Q,_,_,_,_,X,a5,b8,I⟩:=(h.sl 2 Z).1.ix hF;obtain rfl:=au b8;refine zx X a5 ⟨Q.1,qE Q.2.1 (h.sl 2 Z).2⟩ Z (cr Z (bM qa 2 0 ({ y4 with Bo:=y3.Bo }:ql) h Z hy4 X a5 (dE y4) I Z Z Z (dE ({ y4 with Bo:=y3.Bo })) Z Z Z λ_ h=>X0 7 Z ?_));obtain rfl:=qe hF;have h:=h.p [2,0,3] Z;exact ce qa [oV (List ql) [oL i x1 f]] ⟨Z,G⟩ ⟨_,_,Z,Cv 1 1 o h Z Z⟩
  refine X0 5 Z (qn Z hF ?_ ?_)<;>intro hF
  .refine X0 5 Z ?_;obtain⟨y5,_,hF,R,_,_,_,_,hp5,hq5,b9,J⟩:=(h.sl 2 Z).1.ix hF;obtain rfl:=au b9;refine zx hp5 hq5 ⟨R.1,qE R.2.1 (h.sl 2 Z).2⟩ Z (mr Z (zc 2 J Z (cr Z ?_)));obtain⟨y6,hy6,hF,S,_,_,_,_,Y,a6,c0,K⟩:=(h.sl 2 Z).1.ix hF;obtain rfl:=au c0;refine zx Y a6 ⟨S.1,qE S.2.1 (h.sl 2 Z).2⟩ Z (mr Z (bM qa 2 1 ({ y6 with Af:={ y6.Af with Ar:=qj (y5.Af.Bc+1) } }:ql) h Z hy6 Y a6 (dE y6) K Z Z Z (dE ({ y6 with Af:={ y6.Af with Ar:=qj (y5.Af.Bc+1) } })) Z Z Z λ_ h=>X0 7 Z ?_));obtain rfl:=qe hF;have h:=h.p [2,0,3] Z;exact ce qa [oV (List ql) [oL i x1 f]] ⟨Z,G⟩ ⟨_,_,Z,Cv 1 1 o h Z Z⟩
  refine X0 5 Z (qn Z hF ?_ ?_)<;>intro hF
  .refine X0 3 Z ?_;obtain⟨y7,hy7,hF,T,_,_,_,_,a3,a7,c2,L⟩:=(h.sl 2 Z).1.ix hF;obtain rfl:=au c2;refine zx a3 a7 ⟨T.1,qE T.2.1 (h.sl 2 Z).2⟩ Z (mr Z (bM qa 2 3 ({ y7 with Ba:={ y7.Ba with Ar:=(-1) } }:ql) h Z hy7 a3 a7 (dE y7) L Z Z Z (dE ({ y7 with Ba:={ y7.Ba with Ar:=(-1) } })) Z Z Z λ_ h=>X0 7 Z ?_));obtain rfl:=qe hF;have h:=h.p [2,0,3] Z;exact ce qa [oV (List ql) [oL i x1 f]] ⟨Z,G⟩ ⟨_,_,Z,Cv 1 1 o h Z Z⟩
  refine X0 5 Z (qn Z hF ?_ ?_)<;>intro hF
  .refine X0 3 Z ?_;obtain⟨y8,hy8,hF,W,_,_,_,_,a4,a8,c3,M⟩:=(h.sl 2 Z).1.ix hF;obtain rfl:=au c3;refine zx a4 a8 ⟨W.1,qE W.2.1 (h.sl 2 Z).2⟩ Z (mr Z (bM qa 2 2 ({ y8 with Af:={ y8.Af with Bc:=1000000000 } }:ql) h Z hy8 a4 a8 (dE y8) M Z Z Z (dE ({ y8 with Af:={ y8.Af with Bc:=1000000000 } })) Z Z Z λ_ h=>X0 7 Z ?_));obtain rfl:=qe hF;have h:=h.p [2,0,3] Z;exact ce qa [oV (List ql) [oL i x1 f]] ⟨Z,G⟩ ⟨_,_,Z,Cv 1 1 o h Z Z⟩
  refine X0 7 Z ?_;obtain rfl:=qe hF;have h:=h.p [2,0,3] Z;exact ce qa [oV (List ql) [oL i x1 f]] ⟨Z,G⟩ ⟨_,_,Z,Cv 1 1 o h Z Z⟩
 refine X0 6 Z ?_;obtain rfl:=qe hF;have h:=h.p [1,2,3] Z;exact ce qa [oV (List ql) [oL i x1 f]] ⟨Z,G⟩ ⟨_,_,Z,Cv 1 1 o h Z Z⟩
def sx(n:Nat)(s:qb):Option (qf×qH×(List Int)×(List ql)×Int×Int):=(pQ n (⟨s.code,s.at_,s.seed⟩:qb)).bind λ(r1,y,z)=>(pg n (⟨s.code,y,z⟩:qb)).bind λ|(v,A,B)=>(qv n (⟨s.code,A,B⟩:qb) 3).bind λ|(C,t,u)=>(bif (C==0) then(lx n (⟨s.code,t,u⟩:qb) 5 An).bind λ|(K,p,r)=>V (K,p,r) else V (r1,t,u)).bind λ|(c,i8,D)=>(pd n (⟨s.code,i8,D⟩:qb) c).bind λ(x,a,b)=>((ki n c).bind λJ=>bif J then bif ((x.length:Int)==0) then(qv n (⟨s.code,a,b⟩:qb) 6).bind λ(k,l,m)=>V (l,m,decide (k > 0)) else V (a,b,Cd) else V (a,b,Cd)).bind λ(d,f,b1)=>bif b1 then(vN n c).bind λF=>(li n (⟨s.code,d,f⟩:qb) c).bind λ|(H,g,h)=>V (c,v,F,H,g,h) else(li n (⟨s.code,d,f⟩:qb) c).bind λ|(I,i16,i)=>V (c,v,x,I,i16,i)
theorem EJ{n K w F}{s:qb}{g p1 o}(h0:SH K w (xb g s p1 o s.at_ s.seed::F))(ha1:qm.R w (Fr K F) s (aq s p1 o)){r:qf×qH×(List Int)×(List ql)×Int×Int}(hF:sx n s=V r):yb prog 91 [vp g] w (λus w'=>∃S1 cs1 S2 cs2 S3 cs3,us=[oV qf cs1,oV qH (ch r.2.1),oV (List Int) cs2,oV (List ql) cs3]/\SH K w' (oG (λ_=>False) S1 [vk (r.1:qf) cs1]::oG (λ_=>False) S2 [vk (r.2.2.1:List Int) cs2]::oG (λ_=>False) S3 [vk (r.2.2.2.1:List ql) cs3]::xb g s p1 o r.2.2.2.2.1 r.2.2.2.2.2::F)):=by
 have h:=Da h0 ha1;refine cz func91 Z (m:=41) Z Z (db (qi qa h Z Z Z λ_ p h=>qi qa h Z Z Z λ_ u h=>X0 6 Z ?_));have h:=h.p [2,0,1,3] Z;obtain⟨⟨r1,i1,i2⟩,hr1,hF⟩:=qc hF;refine bO (cB 147 Z) (CJ (s:=s) h (show qm.R _ _ (s:qb) _ from⟨[oL p1 s.code o],[vi s.at_,vi s.seed],Z,⟨_,_,Z,(qF (h.frG 3 0 1 Z Z Z)).1⟩,⟨[vi s.at_],[vi s.seed],Z,Z,Z⟩⟩) hr1) Z Z Z Z ?_;rintro _ _ ⟨S4,_,rfl,h⟩;have hr2:=h.grpS 0 0 Z Z;obtain⟨p2,k2,p3,k3,p4,k4,p5,k5,p6,k6,rfl,_,_,_,_,_⟩:=qZ hr2;replace h:SH _ _ [oG (λ_=>False) S4 [vk (r1:qf) (qL r1 p2 p3 p4 p5 p6 k2 k3 k4 k5 k6)],xb g s p1 o i1 i2,oX u OI 36,oX p TV 34,xf K w F s p1 o]:=h;refine qi qa h Z Z Z λ_ v h=>zs 0 h Z λ_ h=>X0 4 Z ?_;have h:=h.p [2,0,1,3,4,5] Z;obtain⟨⟨M,_,_⟩,hr4,hF⟩:=qc hF;refine bO (cB 148 Z) (BH (s:=(⟨s.code,i1,i2⟩:qb)) h (show qm.R _ _ ((⟨s.code,i1,i2⟩:qb):qb) _ from⟨[oL p1 s.code o],[vi i1,vi i2],Z,⟨_,_,Z,(qF (h.frG 5 0 1 Z Z Z)).1⟩,⟨[vi i1],[vi i2],Z,Z,Z⟩⟩) hr4) Z Z Z Z ?_;rintro _ _ ⟨rfl,h⟩;dsimp only at h;refine qi qa h Z Z Z λ_ y h=>zs 0 h Z λ_ h=>X0 5 Z ?_;have h:=h.p [1,0,2,3,4,5,6] Z;obtain⟨⟨_,i6,i7⟩,hr5,hF⟩:=qc hF;refine qeT h ((qF (h.frG 6 0 1 Z Z Z)).1) hr5 Z Z Z λ_ h=>X0 2 Z ?_;obtain⟨KF2,S,_,hF,Q⟩:=bindE hF;refine bw (λe w'=>∃P i H A I B J C d a f c i8 O,KF2 (i,i8,O)=V r/\e=[(0,vp g),(2,vp p),(3,vp u),(6,vp v),(7,vp y)]/\SH K w' [oG (λ_=>False) P [vk (i:qf) (qL i H I J d f A B C a c)],xb g s p1 o i8 O,oX y (ch M) 36,oX v (qL i H I J d f A B C a c) 34,oX u OI 36,oX p TV 34,xf K w F s p1 o]) ?_ ?_
 .refine qn Z hF ?_ ?_<;>intro hF
  .refine X0 2 Z ?_;obtain⟨⟨r9,i21,i22⟩,Y,hF⟩:=qc hF;refine bO (cB 149 Z) (lP (s:=(⟨s.code,i6,i7⟩:qb)) (most:=5) (wild:=An) h (show qm.R _ _ ((⟨s.code,i6,i7⟩:qb):qb) _ from⟨[oL p1 s.code o],[vi i6,vi i7],Z,⟨_,_,Z,(qF (h.frG 6 0 1 Z Z Z)).1⟩,⟨[vi i6],[vi i7],Z,Z,Z⟩⟩) Y) Z Z Z Z ?_;rintro _ _ ⟨S10,_,rfl,h⟩;obtain⟨p16,k16,p17,k17,p18,k18,p19,k19,p20,k20,rfl,-,-,-,-,-⟩:=qZ (h.own 0 Z);have h:=h.frzI 0 Z;replace h:SH _ _ [oG (λ_=>False) S10 [vk (r9:qf) (qL r9 p16 p17 p18 p19 p20 k16 k17 k18 k19 k20)],xb g s p1 o i21 i22,oX y (ch M) 36,oX v (qL r1 p2 p3 p4 p5 p6 k2 k3 k4 k5 k6) 34,oG (λ_=>False) S4 [vk (r1:qf) (qL r1 p2 p3 p4 p5 p6 k2 k3 k4 k5 k6)],oX u OI 36,oX p TV 34,xf K w F s p1 o]:=h;refine zs 3 h Z λ_ h=>ae ?_;have h:=h.p [0,1,2,3,5,6,7] Z;cases qe hF;exact rG ⟨_,_,_,_,_,_,_,_,_,_,_,_,_,_,Q,Z,h⟩ Z
  refine eZ ?_;have h:=h.p [3,0,1,2,4,5,6] Z;cases qe hF;exact rG ⟨_,_,_,_,_,_,_,_,_,_,_,_,_,_,Q,Z,h⟩ Z
 rintro _ _ ⟨P,i,H,A,I,B,J,C,d,a,f,c,i8,O,hF,rfl,h⟩;subst S;refine X1 4 3 h Z ?_;have h:=h.p [1,0,2,3,4,5,6] Z;obtain⟨⟨L,i10,i11⟩,hr6,hF⟩:=qc hF;refine bO (cB 150 Z) (BG (s:=(⟨s.code,i8,O⟩:qb)) (b:=i) h (show qm.R _ _ ((⟨s.code,i8,O⟩:qb):qb) _ from⟨[oL p1 s.code o],[vi i8,vi O],Z,⟨_,_,Z,(qF (h.frG 6 0 1 Z Z Z)).1⟩,⟨[vi i8],[vi O],Z,Z,Z⟩⟩) (h.frG 1 0 1 Z Z Z) hr6) Z Z Z Z ?_;rintro _ _ ⟨S6,_,rfl,h⟩;obtain⟨D,z,rfl,-⟩:=h.own 0 Z;replace h:SH _ _ [oW S6 (L:List Int) [oL D L z],xb g s p1 o i10 i11,oG (λ_=>False) P [vk (i:qf) (qL i H I J d f A B C a c)],oX y (ch M) 36,oX v (qL i H I J d f A B C a c) 34,oX u OI 36,oX p TV 34,xf K w F s p1 o]:=h;refine X0 4 Z ?_;obtain⟨KF1,R,_,hF,N⟩:=bindE hF;refine bw (λe w'=>∃k l b1,KF1 (k,l,b1)=V r/\e=[(0,vp g),(2,vp p),(3,vp u),(6,vp v),(7,vp y),(8,oL D L z),(32,.bool b1)]/\SH K w' [xb g s p1 o k l,oW S6 (L:List Int) [oL D L z],oG (λ_=>False) P [vk (i:qf) (qL i H I J d f A B C a c)],oX y (ch M) 36,oX v (qL i H I J d f A B C a c) 34,oX u OI 36,oX p TV 34,xf K w F s p1 o]) ?_ ?_
 .refine X1 2 4 h Z (dI h hF (mJ (h.grp 2 0 Z Z)) Z λ_ _ h hF=>cr Z (qh (t:=23) hF Z ?_ ?_))<;>intro hF
  .refine X0 8 Z (qh (t:=28) hF Z ?_ ?_)<;>intro hF
   .refine X0 3 Z ?_;have h:=h.p [1,0,2,3,4,5,6,7] Z;obtain⟨⟨_,_,_⟩,X,hF⟩:=qc hF;refine qeT h ((qF (h.frG 7 0 1 Z Z Z)).1) X Z Z Z λ_ h=>X0 4 Z ?_;cases qe hF;exact rG ⟨_,_,_,N,Z,h⟩ Z
   refine X0 5 Z ?_;have h:=h.p [1,0,2,3,4,5,6,7] Z;cases qe hF;exact rG ⟨_,_,_,N,Z,h⟩ Z
  refine X0 10 Z ?_;have h:=h.p [1,0,2,3,4,5,6,7] Z;cases qe hF;exact rG ⟨_,_,_,N,Z,h⟩ Z
 rintro _ _ ⟨k,l,b1,hF,rfl,h⟩;subst R;refine qn Z hF ?_ ?_<;>intro hF
 .refine X1 2 4 h Z (uY h hF (LX (h.grp 2 0 Z Z)) Z λr5 _ S7 p13 k13 h hF=>X0 3 Z (rA [] [4,5] h Z λ_ h=>M3 31 [0,1,2,3,4] 1 0 1 (h.p [4,5] Z) Z (Ao 5 63 Z ?_)));have h:=h.p [1,0,2,3,4,5,6,7,8] Z;obtain⟨⟨r6,i14,i15⟩,hr8,hF⟩:=qc hF;refine bO (cB 152 Z) (tY (Ce:=(⟨s.code,k,l⟩:qb)) (Cf:=i) h (show qm.R _ _ ((⟨s.code,k,l⟩:qb):qb) _ from⟨[oL p1 s.code o],[vi k,vi l],Z,⟨_,_,Z,(qF (h.frG 8 0 1 Z Z Z)).1⟩,⟨[vi k],[vi l],Z,Z,Z⟩⟩) (h.frG 3 0 1 Z Z Z) hr8) Z Z Z Z ?_;rintro _ _ ⟨S8,_,rfl,h⟩;obtain⟨p14,k14,rfl,-⟩:=h.own 0 Z;replace h:SH _ _ [oW S8 (r6:List ql) [oL p14 r6 k14],xb g s p1 o i14 i15,oW S7 (r5:List Int) [oL p13 r5 k13],oW S6 (L:List Int) [oL D L z],oG (λ_=>False) P [vk (i:qf) (qL i H I J d f A B C a c)],oX y (ch M) 36,oX v (qL i H I J d f A B C a c) 34,oX u OI 36,oX p TV 34,xf K w F s p1 o]:=h;refine Ag (h.p [5,6] Z) (Ao 6 127 Z (zs 8 h Z λ_ h=>Ag (h.p [5,6] Z) (Ao 7 255 Z (zs 7 h Z λ_ h=>G0 1023 [8,9] (h.p [5,6] Z) Z (Ad ?_)))));have T:=h;have h:=h.grpAdd 4 Z (x:=(i:qf)) (h.grpS 4 0 Z Z);have h:=h.grpKeep [0] 4 Z;have h:=h.frzI 2 Z;have h:=h.grpAdd 2 Z (x:=(r5:List Int)) (h.grpS 2 0 Z Z);have h:=h.grpKeep [0] 2 Z;have h:=h.frzI 0 Z;have h:=h.grpAdd 0 Z (x:=(r6:List ql)) (h.grpS 0 0 Z Z);have h:=h.grpKeep [0] 0 Z;obtain rfl:=qe hF;have h:=h.p [4,2,0,1,9] Z;exact ce qa [oV qf (qL i H I J d f A B C a c),oV qH (ch M),oV (List Int) [oL p13 r5 k13],oV (List ql) [oL p14 r6 k14]] ⟨⟨_,_,_,Z,Z,T.box 8 Z,Z⟩,⟨_,_,_,Z,Z,T.box 7 Z,Z⟩,Z,Z,G⟩ ⟨_,_,_,_,_,_,Z,Cv 1 1 h0 h Z Z⟩
 refine N7 (rA [] [3,4] h Z λ_ h=>M3 31 [0,1,2,3,4] 1 0 1 (h.p [3,4] Z) Z (Ao 5 63 Z ?_));obtain⟨⟨r7,i16,i17⟩,hr9,hF⟩:=qc hF;refine bO (cB 152 Z) (tY (Ce:=(⟨s.code,k,l⟩:qb)) (Cf:=i) h (show qm.R _ _ ((⟨s.code,k,l⟩:qb):qb) _ from⟨[oL p1 s.code o],[vi k,vi l],Z,⟨_,_,Z,(qF (h.frG 7 0 1 Z Z Z)).1⟩,⟨[vi k],[vi l],Z,Z,Z⟩⟩) (h.frG 2 0 1 Z Z Z) hr9) Z Z Z Z ?_;rintro _ _ ⟨S9,_,rfl,h⟩;obtain⟨p15,k15,rfl,-⟩:=h.own 0 Z;replace h:SH _ _ [oW S9 (r7:List ql) [oL p15 r7 k15],xb g s p1 o i16 i17,oW S6 (L:List Int) [oL D L z],oG (λ_=>False) P [vk (i:qf) (qL i H I J d f A B C a c)],oX y (ch M) 36,oX v (qL i H I J d f A B C a c) 34,oX u OI 36,oX p TV 34,xf K w F s p1 o]:=h;refine Ag (h.p [4,5] Z) (Ao 6 127 Z (zs 7 h Z λ_ h=>Ag (h.p [4,5] Z) (Ao 7 255 Z (zs 6 h Z λ_ h=>G0 1023 [8,9] (h.p [4,5] Z) Z (Ad ?_)))));have W:=h;have h:=h.grpAdd 3 Z (x:=(i:qf)) (h.grpS 3 0 Z Z);have h:=h.grpKeep [0] 3 Z;have h:=h.frzI 2 Z;have h:=h.grpAdd 2 Z (x:=(L:List Int)) (h.grpS 2 0 Z Z);have h:=h.grpKeep [0] 2 Z;have h:=h.frzI 0 Z;have h:=h.grpAdd 0 Z (x:=(r7:List ql)) (h.grpS 0 0 Z Z);have h:=h.grpKeep [0] 0 Z;obtain rfl:=qe hF;have h:=h.p [3,2,0,1,8] Z;exact ce qa [oV qf (qL i H I J d f A B C a c),oV qH (ch M),oV (List Int) [oL D L z],oV (List ql) [oL p15 r7 k15]] ⟨⟨_,_,_,Z,Z,W.box 7 Z,Z⟩,⟨_,_,_,Z,Z,W.box 6 Z,Z⟩,Z,Z,G⟩ ⟨_,_,_,_,_,_,Z,Cv 1 1 h0 h Z Z⟩
def tC(n:Nat)(s:qb):Option (aZ×Int×Int):=(sx n (⟨s.code,s.at_,s.seed⟩:qb)).bind λ(r1,a,d,f,b,c)=>V ((⟨(⟨(⟨r1.Aq.As⟩:qD),(⟨r1.Aa.Ab,r1.Aa.Ap,r1.Aa.Ai⟩:qk),r1.Ah⟩:qf),(⟨a.Bi,a.Bb,a.Be,a.Az,a.Bd⟩:qH),d,f⟩:aZ),b,c)
theorem GC{n C w F}{s:qb}{b p1 l}(N:SH C w (xb b s p1 l s.at_ s.seed::F))(H:qm.R w (Fr C F) s (aq s p1 l)){r:aZ×Int×Int}(S:tC n s=V r):yb prog 46 [vp b] w (λT w'=>∃S1 cs1,T=[oV aZ cs1]/\SH C w' (oG (λ_=>False) S1 [vk (r.1:aZ) cs1]::xb b s p1 l r.2.1 r.2.2::F)):=by
 have h:=Da N H;refine cz func46 Z (m:=19) Z Z (db (qi qa h Z Z Z λ_ D h=>X0 4 Z ?_));have h:=h.p [1,0,2] Z;obtain⟨⟨r1,a,c,d,Q,R⟩,J,S⟩:=qc S;refine bO (cB 91 Z) (EJ (s:=s) h (show qm.R _ _ (s:qb) _ from⟨[oL p1 s.code l],[vi s.at_,vi s.seed],Z,⟨_,_,Z,(qF (h.frG 2 0 1 Z Z Z)).1⟩,⟨[vi s.at_],[vi s.seed],Z,Z,Z⟩⟩) J) Z Z Z Z ?_;rintro _ _ ⟨S2,_,O,_,P,_,rfl,h⟩;have K:=h.grpS 0 0 Z Z;obtain⟨B,A,o,k3,i,f,k,g,v,p,rfl,_,_,_,_,_⟩:=qZ K;have L:=h.grpS 1 0 Z Z;obtain⟨y,t,rfl,_⟩:=L;have M:=h.grpS 2 0 Z Z;obtain⟨z,u,rfl,_⟩:=M;replace h:SH _ _ [oG (λ_=>False) S2 [vk (r1:qf) (qL r1 B o i k v A k3 f g p)],oG (λ_=>False) O [vk (c:List Int) [oL y c t]],oG (λ_=>False) P [vk (d:List ql) [oL z d u]],xb b s p1 l Q R,oX D qeH 40,xf C w F s p1 l]:=h;refine qe3 Z (qi qa h Z Z Z λ_ _ h=>qi qa h Z Z Z λ_ _ h=>zs 1 h Z λ_ h=>zs 0 h Z λ_ h=>X2 9 1 0 h Z (dF (qB qa [0,1,2,3] [.tmp 14,.tmp 15,.tmp 16,.tmp 17] z8) Z (zs 6 h Z λ_ h=>ae ?_)));have I:=h;have h:=h.p [2,3,0,1,4,5,6,7] Z;have h:=SH.merge h;have h:=h.p [0,3,1,2,4,5,6] Z;have h:=SH.merge h;have h:=h.grpAdd 0 Z (x:=((⟨r1,a,c,d⟩:aZ):aZ)) (show qm.R _ _ ((⟨r1,a,c,d⟩:aZ):aZ) _ from⟨[oL B r1.Aq.As A,oL o r1.Aa.Ab k3,oL i r1.Aa.Ap f,oL k r1.Aa.Ai g,oL v r1.Ah p],[.string a.Bi,vi a.Bb,vi a.Be,vi a.Az,vi a.Bd,oL y c t,oL z d u],Z,⟨[oL B r1.Aq.As A],[oL o r1.Aa.Ab k3,oL i r1.Aa.Ap f,oL k r1.Aa.Ai g,oL v r1.Ah p],Z,⟨_,_,Z,(fT (h.grpS 0 0 Z Z)).1.1⟩,⟨[oL o r1.Aa.Ab k3,oL i r1.Aa.Ap f,oL k r1.Aa.Ai g],[oL v r1.Ah p],Z,⟨[oL o r1.Aa.Ab k3],[oL i r1.Aa.Ap f,oL k r1.Aa.Ai g],Z,⟨_,_,Z,(fT (h.grpS 0 0 Z Z)).2.1.1⟩,⟨[oL i r1.Aa.Ap f],[oL k r1.Aa.Ai g],Z,⟨_,_,Z,(fT (h.grpS 0 0 Z Z)).2.2.1.1⟩,⟨_,_,Z,(fT (h.grpS 0 0 Z Z)).2.2.2.1.1⟩⟩⟩,⟨_,_,Z,(fT (h.grpS 0 0 Z Z)).2.2.2.2.1⟩⟩⟩,⟨[.string a.Bi,vi a.Bb,vi a.Be,vi a.Az,vi a.Bd],[oL y c t,oL z d u],Z,⟨[.string a.Bi],[vi a.Bb,vi a.Be,vi a.Az,vi a.Bd],Z,Z,⟨[vi a.Bb],[vi a.Be,vi a.Az,vi a.Bd],Z,Z,⟨[vi a.Be],[vi a.Az,vi a.Bd],Z,Z,⟨[vi a.Az],[vi a.Bd],Z,Z,Z⟩⟩⟩⟩,⟨[oL y c t],[oL z d u],Z,(h.grpS 0 1 Z Z),(h.grpS 0 2 Z Z)⟩⟩⟩);have h:=h.grpKeep [0] 0 Z;obtain rfl:=qe S;have h:=h.p [0,3,5] Z;exact ce qa [oV aZ [oL B r1.Aq.As A,oL o r1.Aa.Ab k3,oL i r1.Aa.Ap f,oL k r1.Aa.Ai g,oL v r1.Ah p,.string a.Bi,vi a.Bb,vi a.Be,vi a.Az,vi a.Bd,oL y c t,oL z d u]] ⟨⟨_,_,_,Z,Z,I.box 6 Z,Z⟩,G⟩ ⟨_,_,Z,Cv 1 1 N h Z Z⟩
def lj(s:qb)(p:Int)(g:Int):Nat->Int->Int->Int->Option (Int×Int)|0,_,_,_=>U|n+1,a,b,c=>(bif decide (c<12) then bif (p==0) then(qv n (⟨s.code,a,b⟩:qb) 16).bind λ(k,l,m)=>V (l,m,decide (k > 0)) else V (a,b,Cd) else V (a,b,Cd)).bind λ(d,f,b1)=>bif b1 then(qv n (⟨s.code,d,f⟩:qb) (if g > 1 then g else 1)).bind λ(h,i16,i)=>bif decide (h<g) then U else lj s p g n i16 i (qj (c+1)) else V (d,f)
def eh(s:qb)(l:List Bool)(h:Int):Nat->Int->Int->Int->Int->Option (Int×Int×Int)|0,_,_,_,_=>U|n+1,b,i32,c,a=>(bif decide (a<12) then bif (0==0) then(qv n (⟨s.code,b,i32⟩:qb) 16).bind λ(m,p,r)=>V (p,r,decide (m > 0)) else V (b,i32,Cd) else V (b,i32,Cd)).bind λ(i,k,b2)=>bif b2 then(qv n (⟨s.code,i,k⟩:qb) (if h > 1 then h else 1)).bind λ(d,f,g)=>bif decide (d<h) then(qG l d).bind λt=>bif t then eh s l h n f g d (qj (a+1)) else eh s l h n f g c (qj (a+1)) else eh s l h n f g c (qj (a+1)) else V (i,k,c)
def sy(n:Nat)(s:qb)(j:aZ):Option (Int×Int×Int):=(bT n j).bind λ|(U,k)=>((bV n (⟨(⟨j.Ac.Aq.As⟩:qD),(⟨j.Ac.Aa.Ab,j.Ac.Aa.Ap,j.Ac.Aa.Ai⟩:qk),j.Ac.Ah⟩:qf)).bind λh=>(qv n (⟨s.code,s.at_,s.seed⟩:qb) (qj (h+2))).bind λ(l,m,p)=>(lj s k h n m p 0).bind λ(i8,r)=>V (qj (l-1),i8,r))|(V (⟨_,_,_,⟨t,_,_⟩⟩),_)=>((bV n (⟨(⟨j.Ac.Aq.As⟩:qD),(⟨j.Ac.Aa.Ab,j.Ac.Aa.Ap,j.Ac.Aa.Ai⟩:qk),j.Ac.Ah⟩:qf)).bind λi=>(qv n (⟨s.code,s.at_,s.seed⟩:qb) (qj (i+2))).bind λ(a,b,c)=>(eh s t i n b c (qj (a-1)) 0).bind λ(d,f,g)=>V (g,d,f))
theorem EK{n b w F}{s:qb}{a p1 c}{j:aZ}{cs1}(h0:SH b w (xb a s p1 c s.at_ s.seed::F))(ha1:qm.R w (Fr b F) s (aq s p1 c))(ha2:qm.R w (Fr b F) j cs1){r:Int×Int×Int}(hF:sy n s j=V r):yb prog 47 [vp a,gv j cs1] w (λus w'=>us=[vi r.1]/\SH b w' (xb a s p1 c r.2.1 r.2.2::F)):=by
 have h:=Da h0 ha1;have hz1:=ha2;obtain⟨D,C,k,k3,g,d,i,f,o,l,K,I,L,J,rfl,_,_,_,_,_,_,_⟩:=cF ha2;have h:=h.grpAdd 1 Z hz1;replace h:SH _ _ [xb a s p1 c s.at_ s.seed,oG (old b) (FS F) [vk (j:aZ) (iy j D k g i o K L C k3 d f l I J),vk (s:qb) (aq s p1 c),same b w F]]:=h;refine cz func47 Z (m:=56) Z Z (db (qK h Z Z λ_ bb2 h=>X1 5 0 h Z ?_));obtain⟨_,hr1,hF⟩:=qc hF;refine IT (cB 63 Z) (AA (h.grp 2 0 Z Z) hr1) Z Z Z Z ?_;rintro _ _ _ hs1 (⟨i1,rfl,rfl,rfl⟩|⟨S1,p9,ln1,k9,x1,S2,y,ln2,p,x2,S3,z,ln3,u,Q,H,S4,A,ln4,v,x4,S5,B,ln5,x,x5,rfl,rfl,rfl⟩)
 .replace h:SH _ _ [oX bb2 (iy j D k g i o K L C k3 d f l I J) 40,xb a s p1 c s.at_ s.seed,oG (old b) (FS F) [vk (j:aZ) (iy j D k g i o K L C k3 d f l I J),vk (s:qb) (aq s p1 c),same b w F]]:=SH.appendN h hs1 (show HN [] from trivial);refine X1 10 0 h Z (mR h hF (dY (show qm.R _ _ (j.Ac:qf) _ from⟨[oL D j.Ac.Aq.As C],[oL k j.Ac.Aa.Ab k3,oL g j.Ac.Aa.Ap d,oL i j.Ac.Aa.Ai f,oL o j.Ac.Ah l],Z,⟨_,_,Z,(mb (h.grp 2 0 Z Z)).1.1⟩,⟨[oL k j.Ac.Aa.Ab k3,oL g j.Ac.Aa.Ap d,oL i j.Ac.Aa.Ai f],[oL o j.Ac.Ah l],Z,⟨[oL k j.Ac.Aa.Ab k3],[oL g j.Ac.Aa.Ap d,oL i j.Ac.Aa.Ai f],Z,⟨_,_,Z,(mb (h.grp 2 0 Z Z)).2.1.1⟩,⟨[oL g j.Ac.Aa.Ap d],[oL i j.Ac.Aa.Ai f],Z,⟨_,_,Z,(mb (h.grp 2 0 Z Z)).2.2.1.1⟩,⟨_,_,Z,(mb (h.grp 2 0 Z Z)).2.2.2.1.1⟩⟩⟩,⟨_,_,Z,(mb (h.grp 2 0 Z Z)).2.2.2.2.1.1⟩⟩⟩)) Z λr2 _ h hF=>X0 7 Z ?_);have h:=h.p [1,0,2] Z;obtain⟨⟨i2,_,_⟩,hr3,hF⟩:=qc hF;refine mv h (h.frG 2 1 1 Z Z Z) hr3 Z Z Z λ_ h=>X0 8 Z ?_;have h:=h.grpKeep [1,2] 2 Z;obtain⟨KF1,hKF1,o2,hF,hK1⟩:=bindE hF;refine bw (λe w'=>∃i8 i9,KF1 (i8,i9)=V r/\e=[(8,vi (qj (i2-1)))]/\SH b w' [xb a s p1 c i8 i9,xf b w F s p1 c]) ?_ ?_
  .refine qq ?_;have h:=h.p [0,2] Z;refine rL (λm e w'=>∃T W M,lj s i1 r2 m T W M=V o2/\e=[(0,vp a),(5,.pointer U),(6,vi i1),(7,vi r2),(8,vi (qj (i2-1))),(9,vi M)]/\SH b w' [xb a s p1 c T W,xf b w F s p1 c]) n ⟨_,_,_,hF,Z,h⟩ Z ?_;rintro m1 _ _ ⟨T,W,M,hF,rfl,h⟩;rcases m1 with _|m1
   .cases hF
   refine qd6 ?_;obtain⟨KF2,hKF2,_,hF,R⟩:=bindE hF;refine bw (λe w'=>∃X Y b1,KF2 (X,Y,b1)=V o2/\e=[(0,vp a),(5,.pointer U),(6,vi i1),(7,vi r2),(8,vi (qj (i2-1))),(9,vi M),(34,.bool b1)]/\SH b w' [xb a s p1 c X Y,xf b w F s p1 c]) ?_ ?_
   .refine X0 4 Z (qh (t:=26) hF Z ?_ ?_)<;>intro hF
    .refine X0 6 Z (qh (t:=30) hF Z ?_ ?_)<;>intro hF
     .refine X0 3 Z ?_;obtain⟨⟨_,_,_⟩,hr5,hF⟩:=qc hF;refine mv h (h.frG 1 0 1 Z Z Z) hr5 Z Z Z λ_ h=>X0 4 Z ?_;cases qe hF;exact rG ⟨_,_,_,R,Z,h⟩ Z
     refine X0 5 Z ?_;cases qe hF;exact rG ⟨_,_,_,R,Z,h⟩ Z
    refine X0 9 Z ?_;cases qe hF;exact rG ⟨_,_,_,R,Z,h⟩ Z
   rintro _ _ ⟨X,Y,b1,hF,rfl,h⟩;subst hKF2;refine qn Z hF ?_ ?_<;>intro hF
   .refine X0 8 Z ?_;obtain⟨⟨_,_,_⟩,hr4,hF⟩:=qc hF;refine mv h (h.frG 1 0 1 Z Z Z) hr4 Z Z Z λ_ h=>X0 8 Z (qh (t:=44) hF Z ?_ ?_)<;>intro hF
    .refine X0 3 Z ?_;cases hF
    exact X0 10 Z (bQ Z Z (X0 7 Z (rK ⟨_,_,_,hF,Z,h⟩ Z)))
   refine qy Z ?_;cases qe hF;exact rG ⟨_,_,hK1,Z,h⟩ Z
  rintro _ _ ⟨i8,i9,hF,rfl,h⟩;subst hKF1;refine X0 5 Z ?_;obtain rfl:=qe hF;exact ce qa [vi (qj (i2-1))] ⟨Z,G⟩ ⟨Z,Cv 1 1 h0 h Z Z⟩
 replace h:SH _ _ [oW S1 (x1:List qg) [oS p9 ln1 k9],oW S2 (x2:List qg) [oS y ln2 p],oW S3 (Q:List Bool) [oS z ln3 u],oX H [oL D j.Ac.Aq.As C,oL k j.Ac.Aa.Ab k3,oL g j.Ac.Aa.Ap d,oL i j.Ac.Aa.Ai f,oL o j.Ac.Ah l,.string j.Aj.Bi,vi j.Aj.Bb,vi j.Aj.Be,vi j.Aj.Az,vi j.Aj.Bd,oL K j.Ay I,oL L j.Am J,oS B ln5 x,oS A ln4 v,oS z ln3 u,oS y ln2 p,oS p9 ln1 k9] 144,oW S4 (x4:List Bool) [oS A ln4 v],oW S5 (x5:List qx) [oS B ln5 x],oX bb2 (iy j D k g i o K L C k3 d f l I J) 40,xb a s p1 c s.at_ s.seed,oG (old b) (FS F) [vk (j:aZ) (iy j D k g i o K L C k3 d f l I J),vk (s:qb) (aq s p1 c),same b w F]]:=SH.appendN h hs1 ⟨λ_ h=>h,⟨λ_ h=>h,⟨λ_ h=>h,⟨λ_ h=>h,⟨λ_ h=>h,⟨λ_ h=>h,G⟩⟩⟩⟩⟩⟩;obtain rfl:=(h.sl 0 Z).2;obtain rfl:=(h.sl 1 Z).2;obtain rfl:=(h.sl 2 Z).2;obtain rfl:=(h.sl 4 Z).2;obtain rfl:=(h.sl 5 Z).2;refine X1 10 6 h Z (mR h hF (dY (show qm.R _ _ (j.Ac:qf) _ from⟨[oL D j.Ac.Aq.As C],[oL k j.Ac.Aa.Ab k3,oL g j.Ac.Aa.Ap d,oL i j.Ac.Aa.Ai f,oL o j.Ac.Ah l],Z,⟨_,_,Z,(mb (h.grp 8 0 Z Z)).1.1⟩,⟨[oL k j.Ac.Aa.Ab k3,oL g j.Ac.Aa.Ap d,oL i j.Ac.Aa.Ai f],[oL o j.Ac.Ah l],Z,⟨[oL k j.Ac.Aa.Ab k3],[oL g j.Ac.Aa.Ap d,oL i j.Ac.Aa.Ai f],Z,⟨_,_,Z,(mb (h.grp 8 0 Z Z)).2.1.1⟩,⟨[oL g j.Ac.Aa.Ap d],[oL i j.Ac.Aa.Ai f],Z,⟨_,_,Z,(mb (h.grp 8 0 Z Z)).2.2.1.1⟩,⟨_,_,Z,(mb (h.grp 8 0 Z Z)).2.2.2.1.1⟩⟩⟩,⟨_,_,Z,(mb (h.grp 8 0 Z Z)).2.2.2.2.1.1⟩⟩⟩)) Z λr3 _ h hF=>X0 7 Z ?_);have h:=h.p [7,0,1,2,3,4,5,6,8] Z;obtain⟨⟨_,_,_⟩,hr7,hF⟩:=qc hF;refine mv h (h.frG 8 1 1 Z Z Z) hr7 Z Z Z λ_ h=>X0 8 Z ?_;obtain⟨KF3,hKF3,o7,hF,hK3⟩:=bindE hF;refine bw (λe w'=>∃a3 a4 N,KF3 (a3,a4,N)=V r/\e=[(8,vi N)]/\SH b w' [xb a s p1 c a3 a4,xf b w F s p1 c]) ?_ ?_
 .refine qq ?_;have h:=h.p [0,1,2,3,4,5,6,8] Z;refine rL (λm e w'=>∃a5 i32 O P,eh s Q r3 m a5 i32 O P=V o7/\e=[(0,vp a),(5,vp H),(6,vi 0),(7,vi r3),(8,vi O),(9,vi P)]/\SH b w' [xb a s p1 c a5 i32,oW S1 (x1:List qg) [oL p9 x1 k9],oW S2 (x2:List qg) [oL y x2 p],oW S3 (Q:List Bool) [oL z Q u],oX H [oL D j.Ac.Aq.As C,oL k j.Ac.Aa.Ab k3,oL g j.Ac.Aa.Ap d,oL i j.Ac.Aa.Ai f,oL o j.Ac.Ah l,.string j.Aj.Bi,vi j.Aj.Bb,vi j.Aj.Be,vi j.Aj.Az,vi j.Aj.Bd,oL K j.Ay I,oL L j.Am J,oL B x5 x,oL A x4 v,oL z Q u,oL y x2 p,oL p9 x1 k9] 144,oW S4 (x4:List Bool) [oL A x4 v],oW S5 (x5:List qx) [oL B x5 x],oG (old b) (FS F) [vk (j:aZ) (iy j D k g i o K L C k3 d f l I J),vk (s:qb) (aq s p1 c),same b w F]]) n ⟨_,_,_,_,hF,Z,h⟩ Z ?_;rintro m2 _ _ ⟨a5,i32,O,P,hF,rfl,h⟩;rcases m2 with _|m2
  .cases hF
  refine qd6 ?_;obtain⟨KF4,hKF4,_,hF,S⟩:=bindE hF;refine bw (λe w'=>∃a6 a7 b2,KF4 (a6,a7,b2)=V o7/\e=[(0,vp a),(5,vp H),(6,vi 0),(7,vi r3),(8,vi O),(9,vi P),(34,.bool b2)]/\SH b w' [xb a s p1 c a6 a7,oW S1 (x1:List qg) [oL p9 x1 k9],oW S2 (x2:List qg) [oL y x2 p],oW S3 (Q:List Bool) [oL z Q u],oX H [oL D j.Ac.Aq.As C,oL k j.Ac.Aa.Ab k3,oL g j.Ac.Aa.Ap d,oL i j.Ac.Aa.Ai f,oL o j.Ac.Ah l,.string j.Aj.Bi,vi j.Aj.Bb,vi j.Aj.Be,vi j.Aj.Az,vi j.Aj.Bd,oL K j.Ay I,oL L j.Am J,oL B x5 x,oL A x4 v,oL z Q u,oL y x2 p,oL p9 x1 k9] 144,oW S4 (x4:List Bool) [oL A x4 v],oW S5 (x5:List qx) [oL B x5 x],oG (old b) (FS F) [vk (j:aZ) (iy j D k g i o K L C k3 d f l I J),vk (s:qb) (aq s p1 c),same b w F]]) ?_ ?_
  .refine X0 4 Z (qh (t:=26) hF Z ?_ ?_)<;>intro hF
   .refine X0 6 Z (qh (t:=30) hF Z ?_ ?_)<;>intro hF
    .refine X0 3 Z ?_;obtain⟨⟨_,_,_⟩,hr10,hF⟩:=qc hF;refine mv h (h.frG 7 1 1 Z Z Z) hr10 Z Z Z λ_ h=>X0 4 Z ?_;cases qe hF;exact rG ⟨_,_,_,S,Z,h⟩ Z
    refine X0 5 Z ?_;cases qe hF;exact rG ⟨_,_,_,S,Z,h⟩ Z
   refine X0 9 Z ?_;cases qe hF;exact rG ⟨_,_,_,S,Z,h⟩ Z
  rintro _ _ ⟨a6,a7,b2,hF,rfl,h⟩;subst hKF4;refine qn Z hF ?_ ?_<;>intro hF
  .refine X0 8 Z ?_;obtain⟨⟨_,_,_⟩,hr8,hF⟩:=qc hF;refine mv h (h.frG 7 1 1 Z Z Z) hr8 Z Z Z λ_ h=>X0 8 Z (qh (t:=44) hF Z ?_ ?_)<;>intro hF
   .refine X1 13 4 h Z ?_;obtain⟨_,_,hF,he1,_,_,_,_,hp1,hq1,rfl,hc3⟩:=(h.sl 3 Z).1.ix hF;refine zx hp1 hq1 ⟨he1.1,qE he1.2.1 (h.sl 3 Z).2⟩ Z (X0 1 Z (zc 0 hc3 Z (X0 2 Z (qn Z hF ?_ ?_))))<;>intro hF
    .exact X0 10 Z (rK ⟨_,_,_,_,hF,Z,h⟩ Z)
    exact X0 7 Z (rK ⟨_,_,_,_,hF,Z,h⟩ Z)
   exact X0 10 Z (bQ Z Z (X0 7 Z (rK ⟨_,_,_,_,hF,Z,h⟩ Z)))
  refine qy Z ?_;have h:=h.grpKeep [1,2] 7 Z;have h:=h.p [0,7] Z;cases qe hF;exact rG ⟨_,_,_,hK3,Z,h⟩ Z
 rintro _ _ ⟨a3,a4,N,hF,rfl,h⟩;subst hKF3;refine X0 5 Z ?_;obtain rfl:=qe hF;exact ce qa [vi N] ⟨Z,G⟩ ⟨Z,Cv 1 1 h0 h Z Z⟩
def mL(code:List (gW .u8)):Nat->Int->Int->Option (Int×Int)|0,_,_=>U|n+1,b,a=>(bif decide (a<(code.length:Int)) then V (decide (a<64)) else V Cd).bind λb1=>bif b1 then(qG code a).bind λc=>mL code n ((qj ((qj (b*31))+(qj c.val))).tmod 2147483647) (qj (a+1)) else V (b,a)
def xe(n:Nat)(code:List (gW .u8)):Option (Option qb):=(mL code n 12345 0).bind λ(a,_)=>V (V (⟨code,0,a⟩:qb))
theorem zS{n w}{code:List (gW .u8)}{cs1}(p:Ro w code cs1){r:Option qb}(F:xe n code=V r):W5 prog 20 [gv code cs1] w (λA L=>∃b g,r=(V (⟨code,0,g⟩:qb))/\A=[oV (Option qb) [vp b]]/\L=[oX b (cs1++[vi 0,vi g]) 114]):=by
 obtain⟨p1,k,rfl,s1⟩:=p;refine EB func20 Z (m:=34) Z Z (λh=>?_);refine X0 7 Z (dF (qB qa [0,2] [.tmp 5,.const (vi (12345))] z8) Z (qK h Z Z λ_ a h=>X0 7 Z ?_));obtain⟨o1,F,o⟩:=qc F;refine qq (rL (λm e w'=>∃f i,mL code m f i=V o1/\e=[(0,oL p1 code k),(3,vp a),(4,vi i)]/\SH w w' [oX a [oL p1 code k,vi 0,vi f] 114]) n ⟨_,_,F,Z,h⟩ Z ?_);rintro y _ _ ⟨f,i,F,rfl,h⟩;rcases y with _|y
 .cases F
 refine qd6 ?_;obtain⟨l,d,_,F,c⟩:=bindE F;refine bw (λe w'=>∃b1,l b1=V o1/\e=[(0,oL p1 code k),(3,vp a),(4,vi i),(15,.bool b1)]/\SH w w' [oX a [oL p1 code k,vi 0,vi f] 114]) ?_ ?_
 .refine X0 6 Z (qh (t:=12) F Z ?_ ?_)<;>intro F
  .refine X0 6 Z ?_;exact rH F c h Z
  refine X0 4 Z ?_;exact rH F c h Z
 rintro _ _ ⟨b1,F,rfl,h⟩;subst d;refine qn Z F ?_ ?_<;>intro F
 .refine WC (rA [15] [0] h Z λ_ h=>M1 255 [0,1,2,3,4,5,6,7] 0 (h.p [0] Z) Z ?_);obtain⟨_,_,F,u,_,_,_,_,v,x,rfl,s⟩:=s1.ix F;exact Ae 8 511 v x u (h.p [0] Z) Z (Al 9 1023 0 s (h.p [0] Z) Z (M0 8191 [10,11,12] (h.p [0] Z) Z (Ao 13 16383 Z (cr Z (G0 32767 [14] (h.p [0] Z) Z (Ao 15 65535 Z (zs 0 h Z λ_ h=>bN (λz=>absurd (z 15 (by decide)) (by decide)) (Ad (X0 6 Z (rK ⟨_,_,F,Z,h⟩ Z))))))))))
 refine qy Z ?_;cases qe F;have F:=o;refine X0 5 Z ?_;obtain rfl:=qe F;exact DX qa [oV (Option qb) [vp a]] h ⟨Z,G⟩ ⟨a,f,Z,Z,Z⟩
def oY(n:Nat)(code:List (gW .u8)):Option (aZ×Int):=(xe n code).bind λo=>match o with|some (⟨_,_,b⟩)=>((tC n (⟨code,0,b⟩:qb)).bind λ(a,c,d)=>(sy n (⟨code,c,d⟩:qb) a).bind λ(f,_,_)=>V (a,f))|_=>U
theorem CH{A}(S:∀b,A b->old w b){code:List (gW .u8)}(g:qm.R w A code cs1){r:aZ×Int}(F:oY n code=V r):yP prog 19 [gv code cs1] w A r:=by
 obtain⟨p1,Q,rfl,s1⟩:=g;have R:=Rg.start S;refine gc func19 Z (m:=14) Z Z (λh=>?_);refine db (qi qa h Z Z Z λ_ c h=>X0 5 Z ?_);obtain⟨_,k,F⟩:=qc F;refine IT (cB 20 Z) (zS ⟨_,_,Z,(h.oldS (s1.mono R.old))⟩ k) Z Z Z Z ?_;rintro _ _ _ t ⟨d,N,rfl,rfl,rfl⟩;replace h:SH _ _ [oX d [oL p1 code Q,vi 0,vi N] 114,oX c qeH 40]:=SH.appendN h t ⟨λ_ h=>h,G⟩;refine X0 5 Z ?_;obtain⟨⟨a,O,P⟩,l,F⟩:=qc F;refine bO (cB 46 Z) (GC (s:=(⟨code,0,N⟩:qb)) h (DQ _ (h.frOldS (s1.mono R.old))) l) Z Z Z Z ?_;rintro _ _ ⟨S1,_,rfl,h⟩;have o:=h.grpS 0 0 Z Z;obtain⟨D,v,H,k3,I,x,J,y,K,z,L,B,M,C,rfl,_,_,_,_,_,_,_⟩:=cF o;replace h:SH _ _ [oG (λ_=>False) S1 [vk (a:aZ) (iy a D H I J K L M v k3 x y z B C)],oX d [oL p1 code Q,vi O,vi P] 114,oX c qeH 40]:=h;refine qi qa h Z Z Z λ_ _ h=>zs 0 h Z λ_ h=>V7 (rA [] [0] h Z λ_ h=>M2 7 [0,1,2] 0 0 (h.p [0] Z) Z (Ao 3 15 Z ?_));have h:=h.p [2,0,1,3] Z;obtain⟨⟨f,_,_⟩,p,F⟩:=qc F;refine bO (cB 47 Z) (EK (s:=(⟨code,O,P⟩:qb)) (j:=a) h (DQ _ (h.frOldS (s1.mono R.old))) (h.frG 2 0 1 Z Z Z) p) Z Z Z Z ?_;rintro _ _ ⟨rfl,h⟩;dsimp only at h;refine Ag (h.p [1] Z) (Ao 4 31 Z (zs 3 h Z λ_ h=>G0 63 [5] (h.p [1] Z) Z (Ad ?_)));obtain rfl:=qe F;have u:gk.Rs (ρ:=(aZ×Int)) h.wc (vJ A w h.wc) (a,f) [oV aZ (iy a D H I J K L M v k3 x y z B C),oV Int [vi f]]:=⟨_,_,Z,(R.outR h (qm.mono (Rg.grpR 2 0 h Z Z) (λ_ T=>T.elim (λh=>h.elim) .inr))),⟨_,Z,Z⟩⟩;have i:=h;have h:=h.p [0,1,3] Z;exact gn qa (ρ:=(aZ×Int)) (r:=(a,f)) [oV aZ (iy a D H I J K L M v k3 x y z B C),oV Int [vi f]] h ⟨⟨_,_,_,Z,Z,i.box 3 Z,Z⟩,Z,G⟩ u
def vC(n:Nat)(code:List (gW .u8)):Option (aZ×Int×Int):=(oY n code).bind λ(g,h)=>(df ([(⟨7⟩:gW .u8)]:List (gW .u8)) code).bind λx1=>(xe n x1).bind λo=>match o with|some (⟨_,_,a⟩)=>((qv n (⟨x1,0,a⟩:qb) 2).bind λ(b,c,d)=>(qv n (⟨x1,c,d⟩:qb) 24).bind λ(f,_,_)=>V (g,h,qj (b+(qj (f.tdiv 23)))))|_=>U
theorem GD{A}(hA:∀b,A b->old w b){code:List (gW .u8)}(P:qm.R w A code cs1){r:aZ×Int×Int}(F:vC n code=V r):yP prog 39 [gv code cs1] w A r:=by
 obtain⟨_,_,rfl,s1⟩:=P;have hg:=Rg.start hA;refine gc func39 Z (m:=25) Z Z (λh=>?_);refine db (qi qa h Z Z Z λ_ M h=>X0 6 Z ?_);obtain⟨⟨c,k⟩,R,F⟩:=qc F;refine vI (c,k) hg h (cB 19 Z) (CH (hg.atB h) ⟨_,_,Z,(hg.inBS h s1)⟩ R) Z Z Z Z λ_ _ S1 h e=>?_;obtain⟨_,_,rfl,f,a3⟩:=dP e;have S:=f;obtain⟨C,t,D,k3,H,u,I,v,J,x,K,y,L,z,rfl,_,_,_,_,_,_,_⟩:=cF f;have h:=h.grpAdd 0 Z S;obtain⟨_,rfl,g⟩:=kQ a3;have hr5:=g;obtain rfl:=g;refine CK Z (qi qa h Z Z Z λ_ N h=>zs 0 h Z λ_ h=>X0 4 Z (qt qa [.const (.int .u8 (7))] _ ([(⟨7⟩:gW .u8)]:List (gW .u8)) h z9 ⟨Z,G⟩ Z λ_ _ _ h=>cr Z ?_));obtain⟨x1,d,F⟩:=qc F;obtain⟨g1,d⟩:=qJ d;refine bn qa 0 h Z (h.oldS (s1.mono hg.old)) Z z9 g1 d Z λ_ a B S3 h=>?_;obtain⟨_,T,F⟩:=qc F;refine IT (cB 20 Z) (zS (h.own 0 Z) T) Z Z Z Z ?_;rintro _ _ _ Y ⟨O,i,rfl,rfl,rfl⟩;replace h:SH _ _ [oX O [oL a x1 B,vi 0,vi i] 114,oW S3 (x1:List (gW .u8)) [oL a x1 B],oX N (iy c C D H I J K L t k3 u v x y z) 40,oG A S1 [vk (c:aZ) (iy c C D H I J K L t k3 u v x y z)],oX M qeH 40]:=SH.appendN h Y ⟨λ_ h=>h,G⟩;refine X0 3 Z (rA [] [2] h Z λ_ h=>M1 23 [0,1,2,4] 0 (h.p [2] Z) Z (Ao 3 31 Z ?_));obtain⟨⟨l,o,p⟩,W,F⟩:=qc F;refine bO (cB 21 Z) (vA (Ce:=(⟨x1,0,i⟩:qb)) (Cf:=2) h (show qm.R _ _ ((⟨x1,0,i⟩:qb):qb) _ from⟨[oL a x1 B],[vi 0,vi i],Z,(h.frO 1 1 Z Z),⟨[vi 0],[vi i],Z,Z,Z⟩⟩) W) Z Z Z Z ?_;rintro _ _ ⟨rfl,h⟩;dsimp only at h;refine Ag (h.p [2] Z) (Ao 5 63 Z ?_);obtain⟨⟨s,_,_⟩,X,F⟩:=qc F;refine bO (cB 21 Z) (vA (Ce:=(⟨x1,o,p⟩:qb)) (Cf:=24) h (show qm.R _ _ ((⟨x1,o,p⟩:qb):qb) _ from⟨[oL a x1 B],[vi o,vi p],Z,(h.frO 1 1 Z Z),⟨[vi o],[vi p],Z,Z,Z⟩⟩) X) Z Z Z Z ?_;rintro _ _ ⟨rfl,h⟩;dsimp only at h;refine G0 255 [6,7] (h.p [2] Z) Z (Ao 8 511 Z (zs 4 h Z λ_ h=>G0 2047 [9,10] (h.p [2] Z) Z (Ad ?_)));obtain rfl:=qe F;have a4:gk.Rs (ρ:=(aZ×Int×Int)) h.wc (vJ A w h.wc) (c,k,qj (l+(qj (s.tdiv 23)))) [oV aZ (iy c C D H I J K L t k3 u v x y z),oV Int [vi k],oV Int [vi (qj (l+(qj (s.tdiv 23))))]]:=⟨_,_,Z,(hg.outR h (Rg.grpR 3 0 h Z Z)),⟨_,_,Z,Z,⟨_,Z,Z⟩⟩⟩;have Q:=h;have h:=h.p [0,1,2,4] Z;exact gn qa (ρ:=(aZ×Int×Int)) (r:=(c,k,qj (l+(qj (s.tdiv 23))))) [oV aZ (iy c C D H I J K L t k3 u v x y z),oV Int [vi k],oV Int [vi (qj (l+(qj (s.tdiv 23))))]] h ⟨⟨_,_,_,Z,Z,Q.box 4 Z,Z⟩,Z,Z,G⟩ a4
def bU(n:Nat)(code:List (gW .u8)):Option (aZ×Int×Int):=(vC n code).bind λ(a,b,c)=>V (a,b,c)
theorem cT{A}(R:∀b,A b->old w b){code:List (gW .u8)}(k:qm.R w A code cs1){r:aZ×Int×Int}(F:bU n code=V r):yP prog 13 [gv code cs1] w A r:=by
 obtain⟨_,_,rfl,s1⟩:=k;have Q:=Rg.start R;refine gc func13 Z (m:=10) Z Z (λh=>?_);refine db (qi qa h Z Z Z λ_ _ h=>X0 6 Z ?_);obtain⟨⟨f,g,i⟩,o,F⟩:=qc F;refine vI (f,g,i) Q h (cB 39 Z) (GD (Q.atB h) ⟨_,_,Z,(Q.inBS h s1)⟩ o) Z Z Z Z λ_ _ _ h s=>?_;obtain⟨_,_,rfl,a,t⟩:=dP s;have p:=a;obtain⟨H,x,I,k3,J,y,K,z,L,B,M,C,N,D,rfl,_,_,_,_,_,_,_⟩:=cF a;have h:=h.grpAdd 0 Z p;obtain⟨_,_,rfl,c,u⟩:=dP t;have O:=c;obtain rfl:=c;obtain⟨_,rfl,d⟩:=kQ u;have P:=d;obtain rfl:=d;refine CK Z (zs 1 h Z λ_ h=>X0 3 Z ?_);obtain rfl:=qe F;have v:gk.Rs (ρ:=(aZ×Int×Int)) h.wc (vJ A w h.wc) (f,g,i) [oV aZ (iy f H I J K L M N x k3 y z B C D),oV Int [vi g],oV Int [vi i]]:=⟨_,_,Z,(Q.outR h (Rg.grpR 0 0 h Z Z)),⟨_,_,Z,Z,⟨_,Z,Z⟩⟩⟩;have l:=h;have h:=h.p [1] Z;exact gn qa (ρ:=(aZ×Int×Int)) (r:=(f,g,i)) [oV aZ (iy f H I J K L M N x k3 y z B C D),oV Int [vi g],oV Int [vi i]] h ⟨⟨_,_,_,Z,Z,l.box 1 Z,Z⟩,Z,Z,G⟩ v
end Go.Fw


namespace Go.Fw
open Go
set_option maxRecDepth 100000
def gy(code:List (gW .u8)):Prop:=code.length<=1048576/\∀x,x∈code->YX x
structure en(code:List (gW .u8))(a s:Int):Prop where
 a0:0<=a
 a1:a<=(code.length:Int)
 s0:0<=s
 s1:s<=2147483646
theorem qdV{x:Int}(h:0<=x):0<=x.tmod 2147483647/\x.tmod 2147483647<=2147483646:=by
 have a:=Int.tmod_nonneg 2147483647 h;have b:=Int.tmod_lt_of_pos x (show(0:Int)<2147483647 by decide);omega
theorem IU{x k:Int}(a:0<k):HD x k=V (x.tmod k):=by unfold HD;rw[if_neg (by omega)]
theorem bP(x:Int):nE (qj x):=by
 unfold nE qj;rw[Go.IntWalk.i64_left];unfold Go.RowKit.wrap64;omega
theorem bz{x:Int}(a:-4611686018427387904<=x)(b:x<=4611686018427387904):nE x:=by unfold nE;omega
theorem QI{code:List (gW .u8)}(g:gy code):∃s,Ev (λn=>xe n code) (V ⟨code,0,s⟩)/\en code 0 s:=by
 have c:∀k j i,j+k=code.length->0<=i->i<=2147483646->qA (λn=>mL code n i (j:Int)) (λo=>0<=o.1/\o.1<=2147483646):=by
  intro k
  induction k with
  |zero=>
   intro j i p f b;refine Cw ?_;simp only[mL,qr (show code.length<=j by omega),Cj,jd];exact Cn ⟨f,b⟩
  |succ k ih=>
   intro j i p f b;have a:j<code.length:=by omega
   have t:=g.1;have r:=g.2 _ (jm a);unfold YX at r;refine Cw ?_;simp only[mL,qp a,Ci,jd,bZ a,wS j];refine qA.bif (λ_=>?_) (λ_=>Cn ⟨f,b⟩);have e1:qj (i*31)=i*31:=qX (by omega) (by omega);have h:qj code[j].val=code[j].val:=qX (by omega) (by omega);have l:qj (i*31+code[j].val)=i*31+code[j].val:=qX (by omega) (by omega);rw[e1,h,l];have d:=qdV (show 0<=i*31+code[j].val by omega);exact ih (j+1) _ (by omega) d.1 d.2
 obtain⟨⟨s,j⟩,b,d,m⟩:=c code.length 0 12345 (by omega) (by decide) (by decide);exact⟨s,Ck b .done,⟨jL _,by omega,d,m⟩⟩
theorem ba{code:List (gW .u8)}{a s:Int}(k:Int)(l:gy code)(h:en code a s) :
  qA (λn=>qv n ⟨code,a,s⟩ k) (λo=>((0<=o.1/\(1<=k->o.1<k))/\(k<=1->o.1=0))/\en code o.2.1 o.2.2):=by
 obtain⟨a0,a1,s0,s1⟩:=h;have z:=l.1;unfold qv;refine qA.bif (λg=>Cn ⟨⟨⟨jL _,λh=>by omega⟩,λ_=>rfl⟩,⟨a0,a1,s0,s1⟩⟩) (λg=>?_);have g:1<k:=by have:=of_decide_eq_false g;omega
 refine qA.bif (λi=>?_) (λ_=>?_)
 .have i:a<(code.length:Int):=of_decide_eq_true i;obtain⟨j,rfl⟩:∃j:Nat,a=(j:Int):=⟨a.toNat,by omega⟩;have c:j<code.length:=by omega
  have m:=l.2 _ (jm c);unfold YX at m;have p:qj code[j].val=code[j].val:=qX (by omega) (by omega);have t:qj ((j:Int)+1)=((j+1:Nat):Int):=ti (by omega);refine Co (bZ c) ?_;rw[p,t];refine qA.bif (λu=>?_) (λu=>?_)
  .refine Co (IU (by omega)) (Cn ⟨⟨⟨Int.tmod_nonneg _ m.1,λ_=>Int.tmod_lt_of_pos _ (by omega)⟩,λh=>by omega⟩,⟨by show(0:Int)<=((j+1:Nat):Int);omega,by show((j+1:Nat):Int)<=_;omega,s0,s1⟩⟩)
  .have d:qj (s*48271)=s*48271:=qX (by omega) (by omega);have f:qj (s*48271+code[j].val)=s*48271+code[j].val:=qX (by omega) (by omega);have r:qj (s*48271+code[j].val+1)=s*48271+code[j].val+1:=qX (by omega) (by omega);rw[d,f,r];have b:=qdV (show 0<=s*48271+code[j].val+1 by omega);exact Co (IU (by omega)) (Cn ⟨⟨⟨Int.tmod_nonneg _ b.1,λ_=>Int.tmod_lt_of_pos _ (by omega)⟩,λh=>by omega⟩,⟨by show(0:Int)<=((j+1:Nat):Int);omega,by show((j+1:Nat):Int)<=_;omega,b.1,b.2⟩⟩)
 .have d:qj (s*48271)=s*48271:=qX (by omega) (by omega);have f:qj (s*48271+11)=s*48271+11:=qX (by omega) (by omega);rw[d,f];have b:=qdV (show 0<=s*48271+11 by omega);have v:0<=((s*48271+11).tmod 2147483647).tdiv 7:=Int.tdiv_nonneg b.1 (by decide);have y:((s*48271+11).tmod 2147483647).tdiv 7<=2147483646:=by
   rw[jO b.1];omega
  rw[qX (x:=((s*48271+11).tmod 2147483647).tdiv 7) (by omega) (by omega)];exact Co (IU (by omega)) (Cn ⟨⟨⟨Int.tmod_nonneg _ v,λ_=>Int.tmod_lt_of_pos _ (by omega)⟩,λh=>by omega⟩,⟨a0,a1,b.1,b.2⟩⟩)
theorem eF{α:Type}{ok:α->Prop}{xs:List α}{y:α}(h:∀x,x∈xs->ok x)(b:ok y):∀x,x∈xs++[y]->ok x:=by
 intro x a;rcases List.mem_append.1 a with a|a
 .exact h x a
 .obtain rfl:=List.mem_singleton.1 a;exact b
theorem fP{α:Type}{xs:List α}{y:α}(h:xs.length<=1048576):df xs [y]=V (xs++[y]):=eG (by simp;omega)
section
variable{code:List (gW .u8)}{a s:Int}
theorem Y6{step:Int}(z:1<=step)(M:step<=1000)(g:gy code)(h:en code a s) :
  qA (λn=>ou n ⟨code,a,s⟩ step) (λo=>(1<=o.1.length/\o.1.length<=3/\∀x,x∈o.1->nE x)/\en code o.2.1 o.2.2):=by
 have d:∀(r:Nat) (x:List Int) (f s' c:Int),en code f s'->x.length+r<=3->(∀y,y∈x->nE y)->nE c ->
   qA (λn=>gR ⟨code,a,s⟩ step n x f s' c (r:Int)) (λo=>(o.1.length=x.length+r/\∀y,y∈o.1->nE y)/\en code o.2.1 o.2.2.1):=by
  intro r
  induction r with
  |zero=>
   intro x f s' c b A l hi;refine Cw ?_;simp only[gR];exact qA.ff Z (Cn ⟨⟨Z,l⟩,b⟩)
  |succ r ih=>
   intro x f s' c b A l hi;refine Cw ?_;simp only[gR];refine qA.tt (by simp) (Co (fP (by omega)) (Cl (ba step g b) ?_));rintro⟨F,p,t⟩ ⟨_,k⟩;have e:qj (((r+1:Nat):Int)-1)=(r:Int):=by rw[qX (by omega) (by omega)];omega
   dsimp only;rw[e];exact(ih (x++[c]) p t _ k (by rw[jg,jh];omega) (eF l hi) (bP _)).mono (λo i=>⟨⟨by rw[i.1.1,jg,jh];omega,i.1.2⟩,i.2⟩)
 unfold ou;refine Cl (ba step g h) ?_;rintro⟨C,N,O⟩ ⟨⟨⟨J,p1⟩,_⟩,b⟩;refine Cl (ba 3 g b) ?_;rintro⟨u,H,I⟩ ⟨⟨⟨K,v⟩,_⟩,b⟩;dsimp only at J p1 K v b⊢;have S:=v (by decide);have R:=p1 z;obtain⟨m,B⟩:∃m:Nat,1+u=((m+1:Nat):Int):=⟨u.toNat,by omega⟩;rw[wO (1+u),B];refine Cl (d (m+1) [] H I C b (by simp;omega) (λ_ h=>by cases h) (bz (by omega) (by omega))) ?_;rintro⟨x1,P,Q,c,D⟩ ⟨⟨r1,L⟩,b⟩;exact Cn ⟨⟨by simp only at r1;simp at r1;dsimp only;omega,by simp only at r1;simp at r1;dsimp only;omega,L⟩,b⟩
theorem qaI{c:Prop}[Decidable c]{x y:Int}(a:nE x)(b:nE y):nE (if c then x else y):=by split<;>assumption
theorem N3{base:Int}(k:gy code)(h:en code a s) :
  qA (λn=>uO n ⟨code,a,s⟩ base) (λo=>rn o.1/\en code o.2.1 o.2.2):=by
 unfold uO;refine Cl (Y6 (by decide) (by decide) k h) ?_;rintro⟨r1,Y,e⟩ ⟨⟨l1,l2,p⟩,c⟩;refine Cl (Y6 (by decide) (by decide) k c) ?_;rintro⟨f,P,Q⟩ ⟨⟨S,r,t⟩,c⟩;dsimp only at l1 l2 p S r t c⊢;have X:r1.length*f.length<=3*3:=Nat.mul_le_mul l2 r;have l:∀(d j:Nat) (x:List Int) (m s':Int),en code m s'->j+d=r1.length*f.length->x.length=j->(∀y,y∈x->nE y) ->
   qA (λn=>kS ⟨code,a,s⟩ base r1 f n x m s' (j:Int)) (λo=>(o.1.length<=9/\∀y,y∈o.1->nE y)/\en code o.2.1 o.2.2.1):=by
  intro d
  induction d with
  |zero=>
   intro j x m s' c A C g;refine Cw ?_;simp only[kS,NZ (show r1.length<=1048576 by omega) (show f.length<=1048576 by omega)];have v:x.length<=9:=by omega
   exact qA.ff (qr (by omega)) (Cn ⟨⟨v,g⟩,c⟩)
  |succ d ih=>
   intro j x m s' c A C g;refine Cw ?_;simp only[kS,NZ (show r1.length<=1048576 by omega) (show f.length<=1048576 by omega)];refine qA.tt (qp (by omega)) (Cl (ba 10 k c) ?_);rintro⟨i8,i9,D⟩ ⟨⟨⟨T,W⟩,_⟩,c⟩;dsimp only at T W c⊢;refine Co (b:=((j % f.length:Nat):Int)) (by rw[IU (by omega),Int.ofNat_tmod]) ?_;refine Cl (R:=λo:Int×Int×Int=>en code o.1 o.2.1/\nE o.2.2) ?_ ?_
   .refine qA.bif (λi=>?_) (λ_=>Cn ⟨c,bP _⟩);have B:1<=j:=by
     rcases Nat.eq_zero_or_pos j with rfl|h2
     .simp at i
     .exact h2
    have e1:qj ((j:Int)-1)=((j-1:Nat):Int):=by rw[qX (by omega) (by omega)];omega
    rw[e1];refine Co (bZ (show j-1<x.length by omega)) (Cl (ba 20 k c) ?_);rintro⟨M,N,O⟩ ⟨_,c⟩;exact Cn ⟨c,qaI (bP _) (bP _)⟩
   .rintro⟨F,H,I⟩ ⟨c,hi⟩;dsimp only at c hi⊢;rw[wS j];refine qA.bif (λi=>?_) (λ_=>?_)
    .have z:f.length<=j:=by have:=of_decide_eq_true i;omega
     have e1:qj ((j:Int)-(f.length:Int))=((j-f.length:Nat):Int):=by rw[qX (by omega) (by omega)];omega
     rw[e1];refine Co (bZ (show j-f.length<x.length by omega)) (Cl (ba 20 k c) ?_);rintro⟨J,K,L⟩ ⟨_,c⟩;refine Co (fP (by omega)) ?_;exact ih (j+1) _ _ _ c (by omega) (by rw[jg,jh];omega) (eF g (qaI (bP _) hi))
    .refine Co (fP (by omega)) ?_;exact ih (j+1) _ _ _ c (by omega) (by rw[jg,jh];omega) (eF g hi)
 refine Cl (l (r1.length*f.length) 0 [] P Q c (by omega) Z (λ_ h=>by cases h)) ?_;rintro⟨x1,i5,i6,i7⟩ ⟨⟨n1,u⟩,c⟩;dsimp only at n1 u c;exact Cn ⟨⟨⟨by dsimp only;omega,p⟩,⟨by dsimp only;omega,t⟩,⟨by dsimp only;omega,u⟩⟩,c⟩
theorem QP{base:Int}(d:gy code)(h:en code a s) :
  qA (λn=>iK n ⟨code,a,s⟩ base) (λo=>wh rn o.1/\en code o.2.1 o.2.2):=by
 unfold iK;refine Cl (N3 d h) ?_;rintro⟨r1,i,k⟩ ⟨f,b⟩;refine Cl (N3 d b) ?_;rintro⟨p,l,m⟩ ⟨g,b⟩;refine Cn ⟨⟨by simp,λx c=>?_⟩,b⟩;rcases List.mem_cons.1 c with rfl|c
 .exact f
 .obtain rfl:=List.mem_singleton.1 c;exact g
theorem WQ{kind f t sense:Int}(i:nE kind)(g:nE f)(k:nE t)(d:nE sense)(c:gy code)(h:en code a s) :
  qA (λn=>ig n ⟨code,a,s⟩ kind f t sense) (λo=>yY o.1/\en code o.2.1 o.2.2):=by
 unfold ig;refine qA.bif (λ_=>?_) (λ_=>?_)
 .refine Cl (ba 10 c h) ?_;rintro⟨y,z,A⟩ ⟨_,b⟩;refine Cl (QP c b) ?_;rintro⟨r1,B,C⟩ ⟨l,b⟩;exact Cn ⟨⟨i,g,k,bz (x:=0) (by decide) (by decide),l,⟨jW _,λ_ h=>by cases h⟩⟩,b⟩
 .refine Cl (ba 20 c h) ?_;rintro⟨D,F,H⟩ ⟨_,b⟩;refine Cl (QP c b) ?_;rintro⟨J,I,r⟩ ⟨m,b⟩;refine Cl (QP c b) ?_;rintro⟨K,u,v⟩ ⟨p,b⟩;exact Cn ⟨⟨i,g,k,d,m,p⟩,b⟩
end

section
variable{code:List (gW .u8)}{a s:Int}
theorem qcK{q:Nat}(h:q<=8):qj (2*(q:Int))=((q*2:Nat):Int):=by rw[qX (by omega) (by omega)];omega
theorem Ev.add{α:Type}{f:Nat->Option α}{r:α}(k:Nat)(h:∀m,f (m+k)=V r):Ev f r:=
 ⟨k,λn a=>by obtain⟨m,rfl⟩:∃m,n=m+k:=⟨n-k,by omega⟩;exact h m⟩
def ET(k:Nat)(a:List Int):Prop:=∀(b:ByteArray) (ps:List bp) (i j:Int) (p:Nat),p<k->qA (λn=>zf n ⟨b,1,ps,[],a,i,j⟩ (p:Int)) nE
theorem OV{k:Nat}{I:ByteArray}{c:List Int}(O:k<=3)(hl:c.length=2 ^ k)(C:ET k c)(A:OA I)(D:∀x,x∈c->nE x)(v:gy code)(h:en code a s) :
  qA (λn=>nA n ⟨code,a,s⟩ I c) (λo=>FB o.1/\en code o.2.1 o.2.2):=by
 have P:(2:Nat) ^ k<=8:=by
  have:(2:Nat) ^ k<=2 ^ 3:=Nat.pow_le_pow_right (by decide) O;simpa using this
 have u:∀(d j:Nat) (x:List bp) (i s':Int),en code i s'->j+d=k->x.length=j->(∀y,y∈x->BA y) ->
   qA (λn=>mN ⟨code,a,s⟩ c n x i s' ((2 ^ j:Nat):Int)) (λo=>(o.1.length=k/\∀y,y∈o.1->BA y)/\en code o.2.1 o.2.2.1):=by
  intro d
  induction d with
  |zero=>
   intro j x i s' f z t g;refine Cw ?_;simp only[mN];have:j=k:=by omega
   subst this;exact qA.ff (qr (by omega)) (Cn ⟨⟨t,g⟩,f⟩)
  |succ d ih=>
   intro j x i s' f z t g;refine Cw ?_;simp only[mN];have Q:(2:Nat) ^ j<2 ^ k:=Nat.pow_lt_pow_right (by decide) (by omega);refine qA.tt (qp (by omega)) ?_;have r:j<4:=by omega
   refine Co (b:=([(⟨#[97]⟩:ByteArray),(⟨#[98]⟩:ByteArray),(⟨#[99]⟩:ByteArray),(⟨#[100]⟩:ByteArray)]:List ByteArray)[j]'(by simpa using r)) (by rw[t];exact bZ (by simpa using r)) (Cl (ba 9 v f) ?_);rintro⟨R,S,T⟩ ⟨_,f⟩;refine Co (fP (by omega)) ?_;have e:qj (2*((2 ^ j:Nat):Int))=((2 ^ (j+1):Nat):Int):=by
    rw[Nat.pow_succ];exact qcK (by omega)
   dsimp only;rw[e];refine ih (j+1) _ _ _ f (by omega) (by rw[jg,jh];omega) (eF g ⟨?_,bz (x:=1) (by decide) (by decide),bP _,G⟩);rcases j with _|_|_|_|j
   .show(1:Nat)<=1048576;decide
   .show(1:Nat)<=1048576;decide
   .show(1:Nat)<=1048576;decide
   .show(1:Nat)<=1048576;decide
   .omega
 unfold nA;refine Cl (ba 50 v h) ?_;rintro⟨J,i2,i3⟩ ⟨⟨⟨p0,p1⟩,_⟩,f⟩;refine Cl (ba 80 v f) ?_;rintro⟨K,i5,i6⟩ ⟨⟨⟨q0,L⟩,_⟩,f⟩;dsimp only at p0 p1 q0 L;have p2:=p1 (by decide);have q2:=L (by decide);refine Cl (u k 0 [] i5 i6 f (by omega) Z (λ_ h=>by cases h)) ?_;rintro⟨x1,i7,i8,i9⟩ ⟨⟨F,l⟩,f⟩;dsimp only at F l f⊢;refine Co (fP (by omega)) ?_;have p:∀(d j:Nat) (x:List bo) (i s':Int),en code i s'->j+d=k->x.length<=j->(∀y,y∈x->yY y) ->
   qA (λn=>kU ⟨code,a,s⟩ I c J K x1 (x1++[(⟨(⟨#[121]⟩:ByteArray),2,0,Cd⟩:bp)]) n x i s' (j:Int)) (λo=>(o.1.length<=k/\∀y,y∈o.1->yY y)/\en code o.2.1 o.2.2.1):=by
  intro d
  induction d with
  |zero=>
   intro j x i s' f z t g;refine Cw ?_;simp only[kU];have N:x.length<=k:=by omega
   exact qA.ff (qr (by omega)) (Cn ⟨⟨N,g⟩,f⟩)
  |succ d ih=>
   intro j x i s' f z t g;refine Cw ?_;simp only[kU,wS j];refine qA.tt (qp (by omega)) (Cl (C _ _ _ _ j (by omega)) (λr1 B=>?_));refine qA.bif (λ_=>?_) (λ_=>ih (j+1) x i s' f (by omega) (by omega) g);refine Cl (WQ (bz (by decide) (by decide)) (bz (by omega) (by omega)) (bz (by omega) (by omega)) B v f) ?_;rintro⟨r2,a3,a4⟩ ⟨M,f⟩;refine Co (fP (by omega)) ?_;exact ih (j+1) _ _ _ f (by omega) (by rw[jg,jh];omega) (eF g M)
 refine Cl (p k 0 [] i7 i8 f (by omega) (jW _) (λ_ h=>by cases h)) ?_;rintro⟨x4,W,X,Y⟩ ⟨⟨H,m⟩,f⟩;dsimp only at H m f;refine Cn ⟨⟨A,bz (x:=1) (by decide) (by decide),⟨?_,?_⟩,⟨?_,m⟩,⟨?_,D⟩,bz (x:=J) (by omega) (by omega),bz (x:=K) (by omega) (by omega)⟩,f⟩
 .show(x1++_).length<=_;rw[jg,jh];omega
 .exact eF l ⟨by show(1:Nat)<=1048576;decide,bz (x:=2) (by decide) (by decide),bz (x:=0) (by decide) (by decide),G⟩
 .show x4.length<=_;omega
 .show c.length<=_;omega
theorem DU{xs:List Int}(h:xs.all (λx=>decide (-1000<=x)&&decide (x<=1000))=An):∀x,x∈xs->nE x:=by
 intro x a;have:=List.all_eq_true.1 h x a;simp only[je,decide_eq_true_eq] at this;exact bz (by omega) (by omega)
theorem C6{u:ByteArray}{kind edge:Int}(d:OA u)(m:nE kind)(B:nE edge)(c:gy code)(h:en code a s) :
  qA (λn=>lJ n ⟨code,a,s⟩ u kind edge) (λo=>FB o.1/\en code o.2.1 o.2.2):=by
 have z:∀x:Int,-1000<=x->x<=1000->nE x:=λx i k=>bz (by omega) (by omega);unfold lJ;refine Cl (ba 50 c h) ?_;rintro⟨r,T,W⟩ ⟨⟨⟨P,p1⟩,_⟩,b⟩;refine Cl (ba 80 c b) ?_;rintro⟨t,X,Y⟩ ⟨⟨⟨Q,v⟩,_⟩,b⟩;dsimp only at P p1 Q v;have p2:=p1 (by decide);have q2:=v (by decide);refine Cl (ba 9 c b) ?_;rintro⟨O,e,i9⟩ ⟨_,b⟩;refine Cl (ba 9 c b) ?_;rintro⟨g,C,D⟩ ⟨_,b⟩;refine Cl (WQ B (z _ (by decide) (by decide)) (z _ (by decide) (by decide)) (z _ (by decide) (by decide)) c b) ?_;rintro⟨r1,F,H⟩ ⟨i,b⟩;refine Cl (WQ (z _ (by decide) (by decide)) (z _ (by decide) (by decide)) (z _ (by decide) (by decide)) (z _ (by decide) (by decide)) c b) ?_;rintro⟨R,I,J⟩ ⟨k,b⟩;refine Cl (WQ (z _ (by decide) (by decide)) (z _ (by decide) (by decide)) (z _ (by decide) (by decide)) (z _ (by decide) (by decide)) c b) ?_;rintro⟨S,K,L⟩ ⟨y,b⟩;dsimp only at i k y b⊢;have l:∀x,x∈[r1,R,S]->yY x:=by
  intro x f;simp only[jQ,jI,or_false] at f;rcases f with rfl|rfl|rfl<;>assumption
 have p:∀x,x∈[(⟨(⟨#[100]⟩:ByteArray),1,qj (1+O),Cd⟩:bp),(⟨(⟨#[99,107]⟩:ByteArray),1,qj (1+g),An⟩:bp),(⟨(⟨#[113]⟩:ByteArray),2,0,Cd⟩:bp)]->BA x:=by
  intro x f;simp only[jQ,jI,or_false] at f;rcases f with rfl|rfl|rfl
  .exact⟨by show(1:Nat)<=1048576;decide,z 1 (by decide) (by decide),bP _,G⟩
  .exact⟨by show(2:Nat)<=1048576;decide,z 1 (by decide) (by decide),bP _,G⟩
  .exact⟨by show(1:Nat)<=1048576;decide,z 2 (by decide) (by decide),z 0 (by decide) (by decide),G⟩
 refine qA.bif (λ_=>?_) (λ_=>?_)
 .refine Cl (WQ (z _ (by decide) (by decide)) (z _ (by decide) (by decide)) (z _ (by decide) (by decide)) (z _ (by decide) (by decide)) c b) ?_;rintro⟨r4,M,N⟩ ⟨A,b⟩;refine Co (fP (by simp)) ?_;exact Cn ⟨⟨d,m,⟨by simp,p⟩,⟨by simp,eF l A⟩,⟨jW _,λ_ h=>by cases h⟩,z r (by omega) (by omega),z t (by omega) (by omega)⟩,b⟩
 .exact Cn ⟨⟨d,m,⟨by simp,p⟩,⟨by simp,l⟩,⟨jW _,λ_ h=>by cases h⟩,z r (by omega) (by omega),z t (by omega) (by omega)⟩,b⟩
theorem qcv:ET 1 [1,0]:=by
 intro b ps i j p a;obtain rfl:p=0:=by omega
 exact⟨_,Ev.add 4 (λm=>rfl),bz (by decide) (by decide)⟩
theorem qcw:ET 1 [0,1]:=by
 intro b ps i j p a;obtain rfl:p=0:=by omega
 exact⟨_,Ev.add 4 (λm=>rfl),bz (by decide) (by decide)⟩
theorem qcx:ET 2 [1,1,1,0]:=by
 intro b ps i j p a;rcases p with _|_|p
 .exact⟨_,Ev.add 8 (λm=>rfl),bz (by decide) (by decide)⟩
 .exact⟨_,Ev.add 8 (λm=>rfl),bz (by decide) (by decide)⟩
 .omega
theorem qcy:ET 2 [0,1,1,0]:=by
 intro b ps i j p a;rcases p with _|_|p
 .exact⟨_,Ev.add 8 (λm=>rfl),bz (by decide) (by decide)⟩
 .exact⟨_,Ev.add 8 (λm=>rfl),bz (by decide) (by decide)⟩
 .omega
theorem qdU:ET 3 [0,1,0,1,0,0,1,1]:=by
 intro b ps i j p a;rcases p with _|_|_|p
 .exact⟨_,Ev.add 12 (λm=>rfl),bz (by decide) (by decide)⟩
 .exact⟨_,Ev.add 12 (λm=>rfl),bz (by decide) (by decide)⟩
 .exact⟨_,Ev.add 12 (λm=>rfl),bz (by decide) (by decide)⟩
 .omega
theorem qem(c:gy code)(h:en code a s):qA (λn=>xg n ⟨code,a,s⟩) (λo=>rm o.1/\en code o.2.1 o.2.2):=by
 have z:∀x:Int,-1000<=x->x<=1000->nE x:=λx f g=>bz (by omega) (by omega);unfold xg;refine Cl (OV (k:=1) (by decide) Z qcv (by show(3:Nat)<=1048576;decide) (DU Z) c h) ?_;rintro⟨r1,F,H⟩ ⟨f,b⟩;refine Cl (OV (k:=1) (by decide) Z qcw (by show(3:Nat)<=1048576;decide) (DU Z) c b) ?_;rintro⟨P,I,J⟩ ⟨g,b⟩;refine Cl (OV (k:=2) (by decide) Z qcx (by show(4:Nat)<=1048576;decide) (DU Z) c b) ?_;rintro⟨Q,K,L⟩ ⟨v,b⟩;refine Cl (OV (k:=2) (by decide) Z qcy (by show(3:Nat)<=1048576;decide) (DU Z) c b) ?_;rintro⟨R,M,N⟩ ⟨y,b⟩;refine Cl (OV (k:=3) (by decide) Z qdU (by show(3:Nat)<=1048576;decide) (DU Z) c b) ?_;rintro⟨S,O,i⟩ ⟨A,b⟩;refine Cl (C6 (by show(4:Nat)<=1048576;decide) (z _ (by decide) (by decide)) (z _ (by decide) (by decide)) c b) ?_;rintro⟨T,l,m⟩ ⟨B,b⟩;refine Cl (C6 (by show(5:Nat)<=1048576;decide) (z _ (by decide) (by decide)) (z _ (by decide) (by decide)) c b) ?_;rintro⟨W,p,r⟩ ⟨C,b⟩;refine Cl (C6 (by show(5:Nat)<=1048576;decide) (z _ (by decide) (by decide)) (z _ (by decide) (by decide)) c b) ?_;rintro⟨X,t,u⟩ ⟨D,b⟩;refine Cn ⟨⟨⟨by simp,λx d=>?_⟩⟩,b⟩;simp only[jQ,jI,or_false] at d;rcases d with rfl|rfl|rfl|rfl|rfl|rfl|rfl|rfl<;>assumption
end

section
variable{code:List (gW .u8)}{a s:Int}
theorem FG(b:gW .u8):(QM [b]).size=1:=rfl
theorem UG{x y:ByteArray}(h:x.size+y.size<=1048576):WX x y=V (x++y):=by
 unfold WX;rw[if_pos];have:IntKind.i64.max=9223372036854775807:=rfl;omega
theorem qaF:∀(d:Nat) (k:Int),d<=15->0<=k->k<((10 ^ (d+1):Nat):Int)->qA (λn=>dU n k) (λz=>z.size<=d+1):=by
 intro d
 induction d with
 |zero=>
  intro k f b c;refine Cw ?_;simp only[dU];refine qA.ff (by simp;omega) (qA.tt (by simp;omega) (Cn ?_));rw[FG];exact jf _
 |succ d ih=>
  intro k f b c;refine Cw ?_;simp only[dU];refine qA.ff (by simp;omega) (qA.bif (λ_=>Cn (by rw[FG];omega)) (λh=>?_));have l:(10:Nat) ^ (d+1+1)<=10 ^ 17:=Nat.pow_le_pow_right (by decide) (by omega);have i:k<=9223372036854775807:=by
   have:(10:Nat) ^ 17<=9223372036854775807:=by decide
   omega
  have e:k.tdiv 10=k / 10:=jO b;have e1:qj (k.tdiv 10)=k / 10:=by rw[e];exact qX (by omega) (by omega)
  rw[e1];have a:k / 10<((10 ^ (d+1):Nat):Int):=by rw[Nat.pow_succ] at c;omega
  refine Cl (ih (k / 10) (by omega) (by omega) a) (λm g=>?_);refine Co (UG (by rw[FG];omega)) (Cn ?_);rw[ByteArray.size_append,FG];omega
theorem M8{k:Nat}(h:k<=1000):qA (λn=>dU n (k:Int)) (λz=>z.size<=4):=qaF 3 k (by decide) (by omega) (by omega)
theorem qcj{y:Int}(a:0<=y)(b:y<=7):∃p:Nat,qG ([2,2,3,3,4,3,3,3]:List Int) y=V (p:Int)/\2<=p/\p<=4:=by
 have:y=0\/y=1\/y=2\/y=3\/y=4\/y=5\/y=6\/y=7:=by omega
 rcases this with rfl|rfl|rfl|rfl|rfl|rfl|rfl|rfl
 .exact⟨2,Z,by decide,by decide⟩
 .exact⟨2,Z,by decide,by decide⟩
 .exact⟨3,Z,by decide,by decide⟩
 .exact⟨3,Z,by decide,by decide⟩
 .exact⟨4,Z,by decide,by decide⟩
 .exact⟨3,Z,by decide,by decide⟩
 .exact⟨3,Z,by decide,by decide⟩
 .exact⟨3,Z,by decide,by decide⟩
theorem qbF{y:Int}(a:0<=y)(b:y<12):∃p:Int,qG ([0,1,2,2,3,4,5,5,5,6,7,1]:List Int) y=V p/\0<=p/\p<=7:=by
 have:y=0\/y=1\/y=2\/y=3\/y=4\/y=5\/y=6\/y=7\/y=8\/y=9\/y=10\/y=11:=by omega
 rcases this with rfl|rfl|rfl|rfl|rfl|rfl|rfl|rfl|rfl|rfl|rfl|rfl<;>exact⟨_,Z,by decide,by decide⟩
theorem EU{α:Type}{xs:List α}(h:xs.length<=1048576):df ([]:List α) xs=V xs:=by
 have:=eG (xs:=([]:List α)) (ys:=xs) (by simp;omega);rwa [List.nil_append] at this
theorem qdC{k:List ByteArray}{l:Int}{p:Nat}(i:qG ([2,2,3,3,4,3,3,3]:List Int) l=V (p:Int))(F:2<=p)(H:p<=4)(t:k.length<=100)(h:gy code) :
  ∀(d j:Nat) (x:List Int) (f s':Int),en code f s'->j+d+1=p->x.length=j->(∀y,y∈x->nE y) ->
   qA (λn=>kW ⟨code,a,s⟩ k l n x f s' (j:Int)) (λo=>(o.1.length+1=p/\∀y,y∈o.1->nE y)/\en code o.2.1 o.2.2.1):=by
 have g:qj ((p:Int)-1)=((p-1:Nat):Int):=by rw[qX (by omega) (by omega)];omega
 intro d
 induction d with
 |zero=>
  intro j x f s' c m r b;refine Cw ?_;simp only[kW];refine Co i ?_;rw[g];exact qA.ff (qr (by omega)) (Cn ⟨⟨by dsimp only;omega,b⟩,c⟩)
 |succ d ih=>
  intro j x f s' c m r b;refine Cw ?_;simp only[kW];refine Co i ?_;rw[g];refine qA.tt (qp (by omega)) (Cl (ba _ h c) ?_);rintro⟨u,v,z⟩ ⟨_,c⟩;refine Cl (ba 3 h c) ?_;rintro⟨A,B,C⟩ ⟨_,c⟩;refine Cl (R:=nE) (qA.bif (λ_=>Cn (bP _)) (λ_=>Cn (bP _))) (λD hi=>?_);refine Cl (R:=λ_=>True) (qA.bif (λ_=>Cn trivial) (λ_=>Cn trivial)) (λb3 _=>?_);rw[wS j];refine qA.bif (λ_=>?_) (λ_=>?_)
  .exact Co (EU (by omega)) (Co (fP (by omega)) (ih (j+1) _ _ _ c (by omega) (by rw[jg,jh];omega) (eF b (bz (by decide) (by decide)))))
  .exact Co (EU (by omega)) (Co (fP (by omega)) (ih (j+1) _ _ _ c (by omega) (by rw[jg,jh];omega) (eF b hi)))
structure qbt(x:qO):Prop where
 ok:MN x
 l2:2<=x.Ap.length
 l5:x.Ap.length<=5
theorem qbX(A:gy code):∀(r:Nat) (f:List ByteArray) (d:List qO) (i s':Int),en code i s'->d.length+r<=14->f.length=d.length+3->(∀y,y∈f->OA y)->(∀y,y∈d->qbt y) ->
  qA (λn=>mP ⟨code,a,s⟩ n f d i s' (r:Int)) (λo=>(o.1.length=o.2.1.length+3/\o.2.1.length=d.length+r/\(∀y,y∈o.1->OA y)/\∀y,y∈o.2.1->qbt y)/\en code o.2.2.1 o.2.2.2.1):=by
 intro r
 induction r with
 |zero=>
  intro f d i s' b H g l m;refine Cw ?_;simp only[mP];exact qA.ff Z (Cn ⟨⟨g,Z,l,m⟩,b⟩)
 |succ r ih=>
  intro f d i s' b H g l m;refine Cw ?_;simp only[mP];refine qA.tt (by simp) (Cl (ba 12 A b) ?_);rintro⟨T,O,P⟩ ⟨⟨⟨B,C⟩,_⟩,b⟩;dsimp only at B C b⊢;obtain⟨S,u,v,z⟩:=qbF B (C (by decide));obtain⟨p,I,Q,R⟩:=qcj v z;refine Co u (Cl (M8 (show d.length<=1000 by omega)) (λr1 J=>?_));have D:(⟨#[117]⟩:ByteArray).size=1:=rfl;have F:(⟨#[110]⟩:ByteArray).size=1:=rfl;refine Co (UG (by rw[D];omega)) (Cl (qdC I Q R (by omega) A (p-1) 0 [] O P b (by omega) Z (λ_ h=>by cases h)) ?_);rintro⟨X,L,M,N⟩ ⟨⟨t,c⟩,b⟩;dsimp only at t c b⊢;refine Co (EU (by omega)) (Co (fP (by omega)) (Cl (M8 (show f.length<=1000 by omega)) (λW K=>?_)));refine Co (UG (by rw[F];omega)) (Co (fP (by omega)) (Co (fP (by omega)) ?_));have e:qj (((r+1:Nat):Int)-1)=(r:Int):=by rw[qX (by omega) (by omega)];omega
  rw[e];refine(ih _ _ _ _ b (by rw[jg,jh];omega) (by rw[jg,jg,jh,jh];omega) (eF l (by show(_++_:ByteArray).size<=_;rw[ByteArray.size_append,F];omega))
   (eF m ⟨⟨by show(_++_:ByteArray).size<=_;rw[ByteArray.size_append,D];omega,bz (x:=S) (by omega) (by omega),⟨by show(_++_:List Int).length<=_;rw[jg,jh];omega,eF c (bz (by omega) (by omega))⟩⟩,by show _<=(_++_:List Int).length;rw[jg,jh];omega,by show(_++_:List Int).length<=_;rw[jg,jh];omega⟩)).mono (λo k=>⟨⟨k.1.1,by rw[k.1.2.1,jg,jh];omega,k.1.2.2⟩,k.2⟩)
theorem uf{α:Type}{ok:α->Prop}{xs:List α}{j:Int}{y:α}(h:∀x,x∈xs->ok x)(b:ok y):∀x,x∈am xs j y->ok x:=by
 intro x a;unfold am at a;rcases List.mem_or_eq_of_mem_set a with a|rfl
 .exact h x a
 .exact b
theorem qed{wild:Bool}{m:List ByteArray}{h:List qO}(I:h.length<=14)(t:m.length<=100)(l:gy code):∀(d j:Nat) (x:List qO) (i s':Int),en code i s'->j+d=h.length->x.length=h.length->(∀y,y∈x->qbt y) ->
  qA (λn=>kX ⟨code,a,s⟩ wild m h n x i s' (j:Int)) (λo=>(o.1.length=h.length/\∀y,y∈o.1->qbt y)/\en code o.2.1 o.2.2.1):=by
 intro d
 induction d with
 |zero=>
  intro j x i s' c r k f;refine Cw ?_;simp only[kX];exact qA.ff (qr (by omega)) (Cn ⟨⟨k,f⟩,c⟩)
 |succ d ih=>
  intro j x i s' c r k f;have g:j<x.length:=by omega
  refine Cw ?_;simp only[kX,wS j];refine qA.tt (qp (by omega)) (Cl (R:=λo:Int×Int×Bool=>en code o.1 o.2.1) (Cl (ba 4 l c) ?_) ?_)
  .rintro⟨C,D,F⟩ ⟨_,c⟩;refine qA.bif (λ_=>?_) (λ_=>Cn c);refine Co (bZ g) (qA.bif (λ_=>Cn c) (λ_=>Co (bZ g) (qA.bif (λ_=>Cn c) (λ_=>Cn c))))
  .rintro⟨u,v,H⟩ c;dsimp only at c⊢;refine qA.bif (λ_=>?_) (λ_=>ih (j+1) x _ _ c (by omega) k f);refine Co (bZ g) (Cl (ba _ l c) ?_);rintro⟨z,A,B⟩ ⟨_,c⟩;have hi:=f _ (jm g);have p:0<x[j].Ap.length:=by have:=hi.l2;omega
   refine Co (b:=x[j].Ap[0]) (bZ (j:=0) p) ?_;refine ih (j+1) _ _ _ c (by omega) (by rw[cg];exact k) (uf f ⟨⟨hi.ok.Bi,hi.ok.Bv,⟨by show(am _ _ _).length<=_;rw[cg];exact hi.ok.Ap.1,uf hi.ok.Ap.2 (bP _)⟩⟩,by show _<=(am _ _ _).length;rw[cg];exact hi.l2,by show(am _ _ _).length<=_;rw[cg];exact hi.l5⟩)
structure qc8(d:qk):Prop where
 ok:xq d
 sm:wE d
 n1:1<=d.Ap.length
 p1:1<=d.Ai.length
theorem qac{most:Int}{wild:Bool}(K:2<=most)(J:most<=14)(g:gy code)(h:en code a s) :
  qA (λn=>xi n ⟨code,a,s⟩ most wild) (λo=>qc8 o.1/\en code o.2.1 o.2.2):=by
 have z:∀x:Int,-1000<=x->x<=1000->nE x:=λx F K=>bz (by omega) (by omega);unfold xi;refine Co (EU (by simp)) (Cl (ba _ g h) ?_);rintro⟨u,O,S⟩ ⟨⟨⟨q0,C⟩,_⟩,b⟩;have I:qj (most-1)=most-1:=qX (by omega) (by omega);rw[I] at C;dsimp only at q0 C b⊢;have q2:=C (by omega);obtain⟨m,M⟩:∃m:Nat,2+u=(m:Int):=⟨(2+u).toNat,by omega⟩;rw[wO (2+u),M];have r:∀y,y∈[(⟨#[110,99,107]⟩:ByteArray),(⟨#[110,97]⟩:ByteArray),(⟨#[110,98]⟩:ByteArray)]->OA y:=by
  intro y f;simp only[jQ,jI,or_false] at f;rcases f with rfl|rfl|rfl
  .show(3:Nat)<=1048576;decide
  .show(2:Nat)<=1048576;decide
  .show(2:Nat)<=1048576;decide
 refine Cl (qbX g m _ [] O S b (by simp;omega) Z r (λ_ h=>by cases h)) ?_;rintro⟨p,D,i4,i5,i6⟩ ⟨⟨A,B,H,hi⟩,b⟩;dsimp only at A B H hi b⊢;have B:D.length=m:=by simpa using B
 refine Cl (qed (wild:=wild) (by omega) (by omega) g D.length 0 D i4 i5 b (by omega) Z hi) ?_;rintro⟨c,P,Q,R⟩ ⟨⟨v,d⟩,b⟩;dsimp only at v d b⊢;have N:∀y,y∈[(⟨(⟨#[99,107]⟩:ByteArray),1,0⟩:bq),(⟨(⟨#[97]⟩:ByteArray),1,1⟩:bq),(⟨(⟨#[98]⟩:ByteArray),1,2⟩:bq)]->UZ y:=by
  intro y f;simp only[jQ,jI,or_false] at f;rcases f with rfl|rfl|rfl
  .exact⟨by show(2:Nat)<=1048576;decide,z _ (by decide) (by decide),z _ (by decide) (by decide)⟩
  .exact⟨by show(1:Nat)<=1048576;decide,z _ (by decide) (by decide),z _ (by decide) (by decide)⟩
  .exact⟨by show(1:Nat)<=1048576;decide,z _ (by decide) (by decide),z _ (by decide) (by decide)⟩
 refine Co (EU (by simp)) (Co (fP (by simp)) (Cl (ba 2 g b) ?_));have l:=eF (y:=(⟨(⟨#[121]⟩:ByteArray),2,qj ((p.length:Int)-1)⟩:bq)) N ⟨by show(1:Nat)<=1048576;decide,z 2 (by decide) (by decide),bP _⟩;have fin:∀{ps:List bq},1<=ps.length->ps.length<=8->(∀y,y∈ps->UZ y)->qc8 ⟨c,p,ps⟩:=λ{ps} F L t=>by
  refine⟨⟨⟨by show c.length<=_;omega,λy f=>(d y f).ok⟩,⟨by show p.length<=_;omega,H⟩,⟨by show ps.length<=_;omega,t⟩⟩,⟨by show c.length<=_;omega,by show p.length<=_;omega,L,λi hi=>?_⟩,by show 1<=p.length;omega,F⟩;have k:i<c.length:=hi;have:=d _ (jm k);show 2<=(gt c i).Ap.length/\(gt c i).Ap.length<=5;rw[fd k];exact⟨this.l2,this.l5⟩
 rintro⟨T,W,X⟩ ⟨_,b⟩;refine qA.bif (λ_=>?_) (λ_=>Cn ⟨fin (by simp) (by simp) l,b⟩);refine Cl (ba _ g b) ?_;rintro⟨Y,e,a3⟩ ⟨_,b⟩;exact Co (fP (by simp)) (Cn ⟨fin (by simp) (by simp) (eF l ⟨by show(1:Nat)<=1048576;decide,z 2 (by decide) (by decide),bP _⟩),b⟩)
end

section
variable{code:List (gW .u8)}{a s:Int}
structure qby(x:aR):Prop where
 ok:IJ x
 p1:1<=x.Ak.length/\x.Ak.length<=100
 r1:1<=x.Bw.length
 c1:1<=x.Bs.length
 s1:x.Bl.length<=100
theorem NX{xs:List Int}(h:xs.length<=1048576):Ev (λn=>lw n xs) xs:=by
 unfold lw;exact Cy (EU h) .done
theorem qcL(m:gy code):∀(r:Nat) (x1 d f:List Int) (g s':Int),en code g s'->r<=10->(1<=x1.length/\x1.length+r<=50)->(1<=d.length/\d.length+r<=50)->(1<=f.length/\f.length+r<=50) ->
  (∀y,y∈x1->nE y)->(∀y,y∈d->nE y)->(∀y,y∈f->nE y) ->
  qA (λn=>gS ⟨code,a,s⟩ n x1 d f g s' (r:Int)) (λo=>(((1<=o.1.length/\o.1.length<=50)/\∀y,y∈o.1->nE y)/\((1<=o.2.1.length/\o.2.1.length<=50)/\∀y,y∈o.2.1->nE y)/\(1<=o.2.2.1.length/\o.2.2.1.length<=50)/\∀y,y∈o.2.2.1->nE y)/\en code o.2.2.2.1 o.2.2.2.2.1):=by
 intro r
 induction r with
 |zero=>
  intro x1 d f g s' c B l1 l2 p h i l;refine Cw ?_;simp only[gS];exact qA.ff Z (Cn ⟨⟨⟨⟨l1.1,by dsimp only;omega⟩,h⟩,⟨⟨l2.1,by dsimp only;omega⟩,i⟩,⟨p.1,by dsimp only;omega⟩,l⟩,c⟩)
 |succ r ih=>
  intro x1 d f g s' c B l1 l2 p h i l;have e:qj (((r+1:Nat):Int)-1)=(r:Int):=by rw[qX (by omega) (by omega)];omega
  have b:∀{x:Int} {k:Int},0<=x->x<k->k<=1000->nE x:=λN h i=>bz (by omega) (by omega);refine Cw ?_;simp only[gS,e];refine qA.tt (by simp) (Cz (NX (by omega)) (Cl (ba _ m c) ?_));rintro⟨C,D,F⟩ ⟨⟨⟨t,p1⟩,_⟩,c⟩;refine Co (fP (by omega)) (Cz (NX (by omega)) (Cl (ba _ m c) ?_));rintro⟨H,I,J⟩ ⟨⟨⟨u,v⟩,_⟩,c⟩;refine Co (fP (by omega)) (Cz (NX (by omega)) (Cl (ba _ m c) ?_));rintro⟨K,L,M⟩ ⟨⟨⟨z,A⟩,_⟩,c⟩;dsimp only at t p1 u v z A c;refine Co (fP (by omega)) ?_;exact ih _ _ _ _ _ c (by omega) (by rw[jg,jh];omega) (by rw[jg,jh];omega) (by rw[jg,jh];omega)
   (eF h (b z (A (by decide)) (by decide))) (eF i (b u (v (by decide)) (by decide))) (eF l (b t (p1 (by omega)) (by omega)))
theorem qcM{r1:aR}{h:List Int}(k:gy code)(v:r1.Bl.length<=100)(u:1<=h.length/\h.length<=50):∀(d j:Nat) (x:List Int) (f s':Int),en code f s'->j+d=r1.Bl.length->x.length=r1.Bl.length->(∀y,y∈x->nE y) ->
  qA (λn=>gT ⟨code,a,s⟩ r1 h n x f s' (j:Int)) (λo=>(o.1.length=r1.Bl.length/\∀y,y∈o.1->nE y)/\en code o.2.1 o.2.2.1):=by
 intro d
 induction d with
 |zero=>
  intro j x f s' c l g b;refine Cw ?_;simp only[gT];exact qA.ff (qr (by omega)) (Cn ⟨⟨g,b⟩,c⟩)
 |succ d ih=>
  intro j x f s' c l g b;refine Cw ?_;simp only[gT,wS j];refine qA.tt (qp (by omega)) (Cl (ba _ k c) ?_);rintro⟨m,p,r⟩ ⟨⟨⟨t,i⟩,_⟩,c⟩;dsimp only at t i c⊢;have z:=i (by omega);exact Co (bZ (show j<x.length by omega)) (ih (j+1) _ _ _ c (by omega) (by rw[cg];exact g) (uf b (bz (by omega) (by omega))))
theorem qdZ{m:Nat}(Q:m<=100)(c:gy code)(h:en code a s):qA (λn=>su n ⟨code,a,s⟩ (m:Int)) (λo=>qby o.1/\en code o.2.1 o.2.2):=by
 have z:∀x:Int,-1000<=x->x<=1000->nE x:=λx f g=>bz (by omega) (by omega);unfold su;refine Cl (ba 6 c h) ?_;rintro⟨d,R,S⟩ ⟨⟨⟨N,p1⟩,_⟩,b⟩;dsimp only at N p1 b⊢;have W:=p1 (by decide);have C:Ev (λn=>uR n (m:Int) d) (⟨[-1],[0],[d],List.replicate m 0⟩:aR):=by
  unfold uR;exact Cy (yw (by omega)) .done
 refine Cz C (Cl (ba 4 c b) ?_);rintro⟨t,J,K⟩ ⟨⟨⟨O,v⟩,_⟩,b⟩;dsimp only at O v b⊢;have X:=v (by decide);obtain⟨r,rfl⟩:∃r:Nat,t=(r:Int):=⟨t.toNat,by omega⟩;have one:∀{x:Int},nE x->∀y,y∈[x]->nE y:=λD y i=>by obtain rfl:=List.mem_singleton.1 i;exact D
 refine Cl (qcL c r [d] [0] [-1] J K b (by omega) (by simp;omega) (by simp;omega) (by simp;omega) (one (z _ (by omega) (by omega))) (one (z _ (by decide) (by decide))) (one (z _ (by decide) (by decide)))) ?_;rintro⟨x1,P,A,L,M,T⟩ ⟨⟨⟨l1,f⟩,⟨l2,g⟩,k,p⟩,b⟩;dsimp only at l1 f l2 g k p b⊢;refine Cl (qcM (r1:=⟨[-1],[0],[d],List.replicate m 0⟩) c (by simp;omega) k m 0 (List.replicate m 0) L M b (by simp) Z (λy i=>by obtain⟨_,rfl⟩:=List.mem_replicate.1 i;exact z _ (by decide) (by decide))) ?_;rintro⟨l,F,H,I⟩ ⟨⟨u,B⟩,b⟩;have u:l.length=m:=by simpa using u
 exact Cn ⟨⟨⟨⟨by show A.length<=_;omega,p⟩,⟨by show P.length<=_;omega,g⟩,⟨by show x1.length<=_;omega,f⟩,⟨by show l.length<=_;omega,B⟩⟩,⟨k.1,by show A.length<=_;omega⟩,l2.1,l1.1,by show l.length<=_;omega⟩,b⟩
structure qc7(b:qf):Prop where
 lib:rm b.Aq
 des:qc8 b.Aa
 wl:b.Ah.length=b.Aa.Ap.length
 wi:∀y,y∈b.Ah->qby y
theorem qc7.ok{b:qf}(h:qc7 b):wj b:=⟨h.lib,h.des.ok,⟨by rw[h.wl];exact h.des.ok.Ap.1,λy a=>(h.wi y a).ok⟩⟩
theorem EV{most:Int}{wild:Bool}(t:2<=most)(l:most<=14)(m:gy code)(h:en code a s) :
  qA (λn=>lx n ⟨code,a,s⟩ most wild) (λo=>qc7 o.1/\en code o.2.1 o.2.2):=by
 unfold lx;refine Cl (qem m h) ?_;rintro⟨r1,H,I⟩ ⟨p,b⟩;refine Cl (qac t l m b) ?_;rintro⟨c,D,F⟩ ⟨g,b⟩;dsimp only at p g b⊢;have z:=g.sm.nn;have A:=bj g.sm;have i:∀(d j:Nat) (x:List aR) (k s':Int),en code k s'->j+d=c.Ap.length->x.length=j->(∀y,y∈x->qby y) ->
   qA (λn=>mQ ⟨code,a,s⟩ c n x k s' (j:Int)) (λo=>(o.1.length=c.Ap.length/\∀y,y∈o.1->qby y)/\en code o.2.1 o.2.2.1):=by
  intro d
  induction d with
  |zero=>
   intro j x k s' b v C f;refine Cw ?_;simp only[mQ];exact qA.ff (qr (by omega)) (Cn ⟨⟨by dsimp only;omega,f⟩,b⟩)
  |succ d ih=>
   intro j x k s' b v C f;refine Cw ?_;simp only[mQ,wS j];have B:(fC c (j:Int) (places c).length).length<=78:=by
    have:(fC c (j:Int) (places c).length).length<=(places c).length:=by
     unfold fC;rw[jo];refine Ja (List.length_filter_le _ _) ?_;rw[List.length_range];exact jf _
    omega
   refine qA.tt (qp (by omega)) (Cz (yv g.sm) (Cl (qdZ (by omega) m b) ?_));rintro⟨O,M,N⟩ ⟨u,b⟩;exact Co (fP (by omega)) (ih (j+1) _ _ _ b (by omega) (by rw[jg,jh];omega) (eF f u))
 refine Cl (i c.Ap.length 0 [] D F b (by omega) Z (λ_ h=>by cases h)) ?_;rintro⟨x1,J,K,L⟩ ⟨⟨l1,r⟩,b⟩;exact Cn ⟨⟨p,g,l1,r⟩,b⟩
structure ZY(b:qf):Prop where
 ok:wj b
 sm:wE b.Aa
theorem B4(g:gy code)(h:en code a s):qA (λn=>tB n ⟨code,a,s⟩) (λo=>ZY o.1/\en code o.2.1 o.2.2):=by
 unfold tB;refine Cl (ba 3 g h) ?_;rintro⟨X,Y,i3⟩ ⟨_,d⟩;refine Cl (EV (by decide) (by decide) g d) ?_;rintro⟨r1,i4,i5⟩ ⟨b,d⟩;dsimp only at b d⊢;have D:1<=r1.Ah.length:=by rw[b.wl];exact b.des.n1
 have F:r1.Ah.length<=30:=by rw[b.wl];exact b.des.sm.nn
 refine Cl (ba _ g d) ?_;rintro⟨p,i7,i8⟩ ⟨⟨⟨O,r⟩,_⟩,d⟩;dsimp only at O r d⊢;have q2:=r (by omega);obtain⟨k,rfl⟩:∃k:Nat,p=(k:Int):=⟨p.toNat,by omega⟩;have i:k<r1.Ah.length:=by omega
 have c:=b.wi _ (jm i);have W:∀{y:aR},IJ y->ZY ⟨r1.Aq,r1.Aa,am r1.Ah (k:Int) y⟩:=λ{y} h=>⟨⟨b.lib,b.des.ok,⟨by show(am _ _ _).length<=_;rw[cg];omega,uf (λy c=>(b.wi y c).ok) h⟩⟩,b.des.sm⟩;have z:∀x:Int,-1000<=x->x<=1000->nE x:=λx Q R=>bz (by omega) (by omega);have S:=c.p1;have T:=c.r1;have u:=c.c1;have B:=c.s1;refine Cl (ba 20 g d) ?_;rintro⟨i9,H,I⟩ ⟨_,d⟩;dsimp only at d⊢;refine qA.bif (λ_=>?_) (λ_=>qA.bif (λ_=>?_) (λ_=>qA.bif (λ_=>?_) (λ_=>qA.bif (λ_=>?_) (λ_=>qA.bif (λ_=>?_) (λ_=>qA.bif (λ_=>?_) (λ_=>Cn ⟨⟨b.ok,b.des.sm⟩,d⟩))))))
 .have e:xV r1.Ah 1 (r1.Ah.length:Int)=V (r1.Ah.drop 1):=by
   unfold xV;rw[if_pos (by omega)];simp
  refine Co e (Cn ⟨⟨⟨b.lib,b.des.ok,⟨by show(r1.Ah.drop 1).length<=_;rw[List.length_drop];omega,λy c=>(b.wi y (List.mem_of_mem_drop c)).ok⟩⟩,b.des.sm⟩,d⟩)
 .refine Co (bZ i) (Cz (NX (by omega)) (Co (fP (by omega)) (Cn ⟨W ⟨c.ok.Ak,c.ok.Bw,c.ok.Bs,⟨by show(_++_:List Int).length<=_;rw[jg,jh];omega,eF c.ok.Bl.2 (z _ (by decide) (by decide))⟩⟩,d⟩)))
 .refine Co (bZ i) (Co (bZ (j:=0) (show 0<r1.Ah[k].Bw.length by omega)) (Cn ⟨W ⟨c.ok.Ak,⟨by show(am _ _ _).length<=_;rw[cg];exact c.ok.Bw.1,uf c.ok.Bw.2 (z _ (by decide) (by decide))⟩,c.ok.Bs,c.ok.Bl⟩,d⟩))
 .refine Co (bZ i) (Cl (ba 3 g d) ?_);rintro⟨f,J,K⟩ ⟨⟨⟨P,t⟩,_⟩,d⟩;dsimp only at P t d⊢;have t2:=t (by decide);have:f=0\/f=1\/f=2:=by omega
  have C:∃v:Int,qG ([(-1),500,501]:List Int) f=V v/\nE v:=by
   rcases this with rfl|rfl|rfl
   .exact⟨_,Z,z _ (by decide) (by decide)⟩
   .exact⟨_,Z,z _ (by decide) (by decide)⟩
   .exact⟨_,Z,z _ (by decide) (by decide)⟩
  obtain⟨v,l,m⟩:=C;exact Co l (Co (bZ (j:=0) (show 0<r1.Ah[k].Bs.length by omega)) (Cn ⟨W ⟨c.ok.Ak,c.ok.Bw,⟨by show(am _ _ _).length<=_;rw[cg];exact c.ok.Bs.1,uf c.ok.Bs.2 m⟩,c.ok.Bl⟩,d⟩))
 .refine Co (bZ i) (Cl (ba 5 g d) ?_);rintro⟨L,M,N⟩ ⟨_,d⟩;have e:qj ((r1.Ah[k].Ak.length:Int)-1)=((r1.Ah[k].Ak.length-1:Nat):Int):=by rw[qX (by omega) (by omega)];omega
  dsimp only;rw[e];exact Co (bZ (show r1.Ah[k].Ak.length-1<r1.Ah[k].Ak.length by omega)) (Cn ⟨W ⟨⟨by show(am _ _ _).length<=_;rw[cg];exact c.ok.Ak.1,uf c.ok.Ak.2 (bP _)⟩,c.ok.Bw,c.ok.Bs,c.ok.Bl⟩,d⟩)
 .have A:=b.des.p1;refine Co (bZ (j:=0) (show 0<r1.Aa.Ai.length by omega)) (Cn ⟨⟨⟨b.lib,⟨b.des.ok.Ab,b.des.ok.Ap,⟨by show(am _ _ _).length<=_;rw[cg];exact b.des.ok.Ai.1,uf b.des.ok.Ai.2 ⟨(b.des.ok.Ai.2 _ (jm _)).Bi,z 3 (by decide) (by decide),(b.des.ok.Ai.2 _ (jm _)).Cb⟩⟩⟩,b.ok.Ah⟩,⟨b.des.sm.ni,b.des.sm.nn,by show(am _ _ _).length<=_;rw[cg];exact b.des.sm.np,b.des.sm.nx⟩⟩,d⟩)
end

def qeY(ls:List qx)(fw:Bool)(k:Nat):Int:=bif fw then CL ls k else FH ls k
def qeZ(ls:List qx)(fw:Bool)(k:Nat):Int:=bif fw then FH ls k else CL ls k
structure GO(ls:List qx)(lv:List Bool)(M:Nat)(fw:Bool)(v:Nat)(x:List Bool):Prop where
 len:x.length=M
 self:gt x v=An
 wit:∀j,j<M->gt x j=An->j=v\/∃k a:Nat,k<ls.length/\gt lv k=An/\qeY ls fw k=(a:Int)/\a<M/\gt x a=An/\qeZ ls fw k=(j:Int)
def RV(ls:List qx)(lv:List Bool)(fw:Bool)(x:List Bool)(k:Nat):Prop:=gt lv k=An->∀a b:Nat,qeY ls fw k=(a:Int)->qeZ ls fw k=(b:Int)->gt x a=An->gt x b=An
theorem P1{x:List Bool}:x.countP id<=x.length:=List.countP_le_length
theorem P2{x:List Bool}{c:Nat}(a:c<x.length)(h:gt x c=Cd):(am x (c:Int) An).countP id=x.countP id+1:=by
 have e:am x (c:Int) An=x.set c An:=by unfold am;rw[jq]
 rw[e];have:x[c]=Cd:=by rw[<-fd a];exact h
 clear e h
 induction x generalizing c with
 |nil=>cases a
 |cons y x ih=>
  cases c with
  |zero=>
   have d:y=Cd:=this;subst d;simp
  |succ c=>
   have b:c<x.length:=by simpa using a
   have:=ih b (by simpa using this);rw[List.set_cons_succ,List.countP_cons,List.countP_cons,this];omega
section
variable{ls:List qx}{lv:List Bool}{M:Nat}
theorem qae(h:AG ls M){k:Nat}(c:k<ls.length)(fw:Bool):∃a b:Nat,qeY ls fw k=(a:Int)/\qeZ ls fw k=(b:Int)/\a<M/\b<M:=by
 have d:=h.fr0 k c;have g:=h.fr1 k c;have f:=h.to0 k c;have i:=h.to1 k c;cases fw
 .exact⟨(gt ls k).To.toNat,(gt ls k).Bm.toNat,fB f,fB d,by omega,by omega⟩
 .exact⟨(gt ls k).Bm.toNat,(gt ls k).To.toNat,fB d,fB f,by omega,by omega⟩
theorem qdI(h:AG ls M)(S:lv.length=ls.length){fw:Bool}{v:Nat}:∀(d k:Nat) (x:List Bool) (b:Bool),k+d=ls.length->GO ls lv M fw v x->(b=Cd->∀j,j<k->RV ls lv fw x j) ->
  qA (λn=>iR ls lv fw n x b (k:Int)) (λo=>GO ls lv M fw v o.1/\(o.2.1=Cd->∀j,j<ls.length->RV ls lv fw o.1 j)/\x.countP id<=o.1.countP id/\(o.2.1=An->b=An\/x.countP id<o.1.countP id)):=by
 have Q:=h.len;intro d
 induction d with
 |zero=>
  intro k x b P g s;refine Cw ?_;simp only[iR];refine qA.ff (qr (by omega)) (Cn ⟨g,λe j u=>s e j (by omega),jf _,λe=>.inl e⟩)
 |succ d ih=>
  intro k x b P g s;have f:k<ls.length:=by omega
  obtain⟨p,q,z,C,I,R⟩:=qae h f fw;refine Cw ?_;simp only[iR,wS k];refine qA.tt (qp f) (Co (qz f) (Co (qz f) (Co (b:=((p:Int),(q:Int))) (by rw[<-z,<-C];cases fw<;>rfl) ?_)));have B:p<x.length:=by rw[g.len];exact I
  have c:q<x.length:=by rw[g.len];exact R
  refine Co (b:=gt lv k&&(gt x p&&!gt x q)) (by rw[qz (show k<lv.length by omega),qz B,qz c];simp only[jd];cases gt lv k<;>cases gt x p<;>rfl) ?_;refine qA.bif (λi=>?_) (λi=>?_)
  .simp only[je,jC] at i;obtain⟨c1,r,F⟩:=i;have A:p≠q:=λe=>by rw[e,F] at r;cases r
   have H:=P2 c F;refine Co (qz c) ((ih (k+1) (am x (q:Int) An) An (by omega) ⟨by rw[cg];exact g.len,?_,λj u l=>?_⟩ (λe=>by cases e)).mono λo m=>⟨m.1,m.2.1,by have:=m.2.2.1;omega,λ_=>.inr (by have:=m.2.2.1;omega)⟩)
   .rw[mh c];split
    .rfl
    .exact g.self
   .by_cases e:j=q
    .exact .inr ⟨k,p,f,c1,z,I,by rw[mh c,if_neg A];exact r,by rw[C,e]⟩
    .rw[mh c,if_neg e] at l;rcases g.wit j u l with e2|⟨k',a,w1,w2,w3,w4,w5,w6⟩
     .exact .inl e2
     .exact .inr ⟨k',a,w1,w2,w3,w4,by rw[mh c];split;rfl;exact w5,w6⟩
  .refine ih (k+1) x b (by omega) g (λe j u=>?_);by_cases N:j=k
   .subst N;intro y a J O t D;rw[z] at O;rw[C] at t;have K:p=a:=by omega
    have L:q=J:=by omega
    subst K;subst L;rw[y,D] at i;simpa using i
   .exact s e j (by omega)
theorem L9(h:AG ls M)(t:lv.length=ls.length){fw:Bool}{v:Nat}(y:v<M):qA (λn=>tc n (M:Int) ls lv (v:Int) fw) (λx=>GO ls lv M fw v x/\∀j,j<ls.length->RV ls lv fw x j):=by
 have A:=h.nodes;have f:∀(d:Nat) (x:List Bool),M<x.countP id+d->GO ls lv M fw v x->qA (λn=>lS ls lv fw n x An) (λo=>GO ls lv M fw v o.1/\∀j,j<ls.length->RV ls lv fw o.1 j):=by
  intro d
  induction d with
  |zero=>
   intro x s l;have:=P1 (x:=x);rw[l.len] at this;omega
  |succ d ih=>
   intro x s l;refine Cw ?_;simp only[lS,Ci];refine Cl (qdI h t ls.length 0 x Cd (by omega) l (λ_ j k=>absurd k (Jm _))) ?_;rintro⟨z,b3,i⟩ ⟨g,m,r,p⟩;dsimp only at g m r p⊢;cases b3
   .refine Cw ?_;simp only[lS,Cj];exact Cn ⟨g,m Z⟩
   .rcases p rfl with e|e
    .cases e
    .exact ih z (by omega) g
 unfold tc;have a:v<(pre (λ_=>Cd) M).length:=by rw[wZ];exact y
 refine Co (zJ (by omega)) (Co (qz a) (Cl (f (M+1) _ (by omega) ⟨by rw[cg,wZ],by rw[mh a,if_pos Z],λj k c=>?_⟩) ?_))
 .refine .inl ?_;refine Classical.byContradiction λe=>?_;rw[mh a,if_neg e,qaT k] at c;cases c
 .rintro⟨x,b⟩ u;exact Cn u
def W6(ls:List qx)(lv:List Bool)(v:Nat):Prop:=∃k,k<ls.length/\gt lv k=An/\CL ls k=(v:Int)/\FH ls k=(v:Int)
structure WL(ls:List qx)(lv:List Bool)(M:Nat)(l:List Int):Prop where
 ex:∃(v:Nat) (there back:List Bool),v<M/\(GO ls lv M An v there/\∀j,j<ls.length->RV ls lv An there j)/\(GO ls lv M Cd v back/\∀j,j<ls.length->RV ls lv Cd back j) /\
  l=eB (lG (λw=>gt there w&&gt back w) M)/\(1<l.length\/W6 ls lv v)
theorem qdT(h:AG ls M)(p:lv.length=ls.length){v:Nat}:qA (λn=>xk n ls lv (v:Int)) (λr=>r=An->W6 ls lv v):=by
 have l:=h.len;have b:∀d k,k+d=ls.length->qA (λn=>ij ls lv (v:Int) n (k:Int)) (λo=>∀r,o=.ret r->W6 ls lv v):=by
  intro d
  induction d with
  |zero=>
   intro k i;refine Cw ?_;simp only[ij];exact qA.ff (qr (by omega)) (Cn λr m=>by cases m)
  |succ d ih=>
   intro k i;have a:k<ls.length:=by omega
   refine Cw ?_;simp only[ij,wS k];refine qA.tt (qp a) (Co (qz (show k<lv.length by omega)) (qA.bif (λc=>Co (qz a) (qA.bif (λf=>Co (qz a) (qA.bif (λg=>Cn λ_ _=>⟨k,a,c,beq_iff_eq.1 f,beq_iff_eq.1 g⟩) (λ_=>ih (k+1) (by omega)))) (λ_=>ih (k+1) (by omega)))) (λ_=>ih (k+1) (by omega))))
 unfold xk;refine Cl (b ls.length 0 (by omega)) ?_;rintro(r|x) ho
 .exact Cn λ_=>ho r Z
 .exact Cn λe=>by cases e
theorem qb6(h:AG ls M)(t:lv.length=ls.length):qA (λn=>vO n (M:Int) ls lv) (λo=>∀l,l∈o->WL ls lv M l):=by
 have L:=h.nodes;have k:∀{a back:List Bool},a.length=M->back.length=M->∀d j p f,j+d=M->p=eB (lG (λw=>gt a w&&gt back w) j)->f.length=M ->
   qA (λn=>iV (M:Int) a back n p f (j:Int)) (λo=>o.1=eB (lG (λw=>gt a w&&gt back w) M)/\o.2.1.length=M):=by
  intro a back z y d
  induction d with
  |zero=>
   intro j p f D s x;obtain rfl:j=M:=by omega
   refine Cw ?_;simp only[iV];exact qA.ff (qr (jf _)) (Cn ⟨s,x⟩)
  |succ d ih=>
   intro j p f D s x;refine Cw ?_;simp only[iV,wS j];refine qA.tt (qp (by omega)) (Co (b:=gt a j&&gt back j) (by rw[qz (show j<a.length by omega),qz (show j<back.length by omega)];simp only[jd];cases gt a j<;>rfl) ?_);have e:=xu (q:=λw=>gt a w&&gt back w) (j:=j);have J:(lG (λw=>gt a w&&gt back w) j).length<=j:=wm;refine qA.bif (λg=>?_) (λg=>?_)
   .refine Co (fP (by rw[s,du];omega)) (Co (qz (show j<f.length by omega)) (ih (j+1) _ _ (by omega) ?_ (by rw[cg];exact x)));rw[e,g,Ci,s];unfold eB;rw[jY];rfl
   .refine ih (j+1) _ _ (by omega) ?_ x;rw[e,g,Cj,Jb,s]
 have v:∀d j m c,j+d=M->m.length=M->c.length<=j->(∀l,l∈c->WL ls lv M l) ->
   qA (λn=>gj (M:Int) ls lv n m c (j:Int)) (λo=>∀l,l∈o.2.1->WL ls lv M l):=by
  intro d
  induction d with
  |zero=>
   intro j m c D B F u;refine Cw ?_;simp only[gj];exact qA.ff (qr (by omega)) (Cn u)
  |succ d ih=>
   intro j m c D B F u;refine Cw ?_;simp only[gj,wS j];refine qA.tt (qp (by omega)) (Co (qz (show j<m.length by omega)) (qA.bif (λ_=>ih (j+1) m c (by omega) B (by omega) u) (λ_=>?_)));refine Cl (L9 h t (fw:=An) (show j<M by omega)) (λa z=>?_);refine Cl (L9 h t (fw:=Cd) (show j<M by omega)) (λback y=>?_);refine Cl (k z.1.len y.1.len M 0 [] m (by omega) Z B) ?_;rintro⟨p,f,i⟩ ⟨A,l5⟩;dsimp only at A l5⊢;refine Cl (R:=λr=>r=An->WL ls lv M p) (qA.bif (λg=>Cn λ_=>⟨j,a,back,by omega,z,y,A,.inl (by have:=of_decide_eq_true g;omega)⟩) (λ_=>Cl (qdT h t) (λr I=>Cn λe=>⟨j,a,back,by omega,z,y,A,.inr (I e)⟩))) (λK C=>?_);refine qA.bif (λg=>?_) (λ_=>ih (j+1) f c (by omega) l5 (by omega) u);exact Co (fP (by omega)) (ih (j+1) f _ (by omega) l5 (by rw[jg,jh];omega) (eF u (C g)))
 unfold vO;refine Co (zJ (by omega)) (Cl (v M 0 (pre (λ_=>Cd) M) [] (by omega) wZ (jf _) (λ_ t=>by cases t)) ?_);rintro⟨_,c,_⟩ H;exact Cn H
theorem Q6(h:AG ls M)(z:∀k k',k<ls.length->k'<ls.length->(gt ls k).Bf≠1->(gt ls k').Bf≠1->FH ls k≠CL ls k'){l:List Int}(I:WL ls lv M l) :
  ∃k,k<ls.length/\gt lv k=An/\(gt ls k).Bf=1/\CL ls k∈l/\FH ls k∈l:=by
 obtain⟨v,c,back,J,⟨y,ct⟩,⟨u,B⟩,e,i⟩:=I.ex;have mem:∀w:Nat,w<M->gt c w=An->gt back w=An->(w:Int)∈l:=λw D F H=>by
  rw[e,rk,oh];exact⟨D,by rw[F,H];rfl⟩
 rcases i with i|⟨k,k1,k2,k3,k4⟩
 . -- another node of the loop
  obtain⟨w,f,g⟩:∃w,w∈lG (λw=>gt c w&&gt back w) M/\w≠v:=by
   have nd:(lG (λw=>gt c w&&gt back w) M).Nodup:=List.nodup_range.filter _;have d:1<(lG (λw=>gt c w&&gt back w) M).length:=by rw[e,du] at i;exact i
   generalize lG (λw=>gt c w&&gt back w) M=S at nd d
   match S,nd,d with
   |a::b::S,nd,_=>
    by_cases s:a=v
    .refine⟨b,by simp,λC=>?_⟩;rw[List.nodup_cons] at nd;exact nd.1 (by rw[s,<-C];simp)
    .exact⟨a,by simp,s⟩
  rw[oh,je] at f;obtain⟨m,o,n⟩:=f;rcases y.wit w m o with e1|⟨k1,a1,p1,p2,p3,p4,p5,p6⟩
  .exact absurd e1 g
  rcases u.wit w m n with e1|⟨k2,a2,q1,q2,q3,q4,q5,q6⟩
  .exact absurd e1 g
  have t:CL ls k1=(a1:Int):=p3;have r:FH ls k1=(w:Int):=p6;have p:CL ls k2=(w:Int):=q6;have A:FH ls k2=(a2:Int):=q3;by_cases K1:(gt ls k1).Bf=1
  .exact⟨k1,p1,p2,K1,by rw[t];exact mem a1 p4 p5 (B k1 p1 p2 w a1 r t n),by rw[r];exact mem w m o n⟩
  .by_cases K2:(gt ls k2).Bf=1
   .exact⟨k2,q1,q2,K2,by rw[p];exact mem w m o n,by rw[A];exact mem a2 q4 (ct k2 q1 q2 w a2 p A o) q5⟩
   .exact absurd (r.trans p.symm) (z k1 k2 p1 q1 K1 K2)
 .have x:=mem v J y.self u.self;refine⟨k,k1,k2,?_,by rw[k3];exact x,by rw[k4];exact x⟩;exact Classical.byContradiction λK=>z k k k1 k1 K K (k4.trans k3.symm)
theorem H2{xs:List Int}{x:Int}(h:x∈xs):(xs.any λy=>y==x)=An:=List.any_eq_true.2 ⟨x,h,by simp⟩
theorem qbC(h:AG ls M)(P:∀k k',k<ls.length->k'<ls.length->(gt ls k).Bf≠1->(gt ls k').Bf≠1->FH ls k≠CL ls k'):∀(d:Nat) (lv:List Bool),lv.length=ls.length->lv.countP id<d ->
  qA (λn=>oy ls (M:Int) n lv) (λo=>o.length=ls.length):=by
 have O:=h.len;have S:=h.nodes;intro d
 induction d with
 |zero=>intro lv _ R;omega
 |succ d ih=>
  intro lv A T;refine Cw ?_;simp only[oy];refine Cl (qb6 h A) (λp C=>?_);refine qA.bif (λ_=>Cn A) (λl=>?_);cases p with
  |nil=>simp at l
  |cons l0 p=>
   have D:=C l0 (by simp);have g:l0.length<=1048576:=by
    obtain⟨_,_,_,_,_,_,e,_⟩:=D.ex;rw[e,du];exact Ja wm (by omega)
   obtain⟨s,Q,F,H,I,J⟩:=Q6 h P D;have i0:qG (l0::p) 0=V l0:=rfl;have m:∀d j c,j+d=ls.length->((∃k:Nat,c=(k:Int)/\k<ls.length/\gt lv k=An)\/j<=s) ->
     qA (λn=>dz ls lv (l0::p) n c (j:Int)) (λo=>∃k:Nat,o.1=(k:Int)/\k<ls.length/\gt lv k=An):=by
    intro d
    induction d with
    |zero=>
     intro j c N hi;refine Cw ?_;simp only[dz];refine qA.ff (qr (by omega)) (Cn ?_);rcases hi with hi|hi
     .exact hi
     .omega
    |succ d ih2=>
     intro j c N hi;have a:j<ls.length:=by omega
     have nx:∀{i},((∃k:Nat,i=(k:Int)/\k<ls.length/\gt lv k=An)\/j+1<=s)->qA (λn=>dz ls lv (l0::p) n i ((j+1:Nat):Int)) (λo=>∃k:Nat,o.1=(k:Int)/\k<ls.length/\gt lv k=An):=λL=>ih2 (j+1) _ (by omega) L;have skip:j≠s->(∃k:Nat,c=(k:Int)/\k<ls.length/\gt lv k=An)\/j+1<=s:=λl=>by
      rcases hi with hi|hi
      .exact .inl hi
      .exact .inr (by omega)
     refine Cw ?_;simp only[dz,wS j];refine qA.tt (qp a) (Co (qz (show j<lv.length by omega)) (qA.bif (λc1=>Co (qz a) (qA.bif (λt=>Co i0 (Co (qz a) (Cz (LC g) (qA.bif (λu=>Co i0 (Co (qz a) (Cz (LC g) (qA.bif (λv=>nx (.inl ⟨j,Z,a,c1⟩)) (λv=>nx (skip λe=>?_)))))) (λu=>nx (skip λe=>?_)))))) (λt=>nx (skip λe=>?_)))) (λc1=>nx (skip λe=>?_))))
     .subst e;have:=H2 J;unfold FH at this;rw[this] at v;cases v
     .subst e;have:=H2 I;unfold CL at this;rw[this] at u;cases u
     .subst e;rw[H] at t;cases t
     .subst e;rw[F] at c1;cases c1
   refine Cl (m ls.length 0 (-1) (by omega) (.inr (jW _))) ?_;rintro⟨c,W⟩ ⟨k,rfl,f,B⟩;have b:k<lv.length:=by omega
   refine Co (qz b) (ih _ (by rw[cg];exact A) ?_);have e:am lv (k:Int) Cd=lv.set k Cd:=by unfold am;rw[jq]
   rw[e];have z:lv[k]=An:=by rw[<-fd b];exact B
   have x:∀(xs:List Bool) (k:Nat) (f:k<xs.length),xs[k]=An->(xs.set k Cd).countP id+1=xs.countP id:=by
    intro xs
    induction xs with
    |nil=>intro k f;cases f
    |cons y xs ih3=>
     intro k f r;cases k with
     |zero=>
      have r:y=An:=r;subst r;simp
     |succ k=>
      have K:k<xs.length:=by simpa using f
      have:=ih3 k K (by simpa using r);rw[List.set_cons_succ,List.countP_cons,List.countP_cons];omega
   have:=x lv k b z;omega
end
theorem TR{b:qf}(h:aL b=An){x:qx}(c:x∈qd b)(p:x.Bf≠1) :
  ∃(m s:Nat) (t:Int),O5 t/\x.Bm=2*(m:Int)+t/\x.To=2*(s:Int)+t/\(gt (places b.Aa) m).drives=An/\(gt (places b.Aa) s).drives=Cd:=by
 have o:=aO h;have r:=xC h;unfold qd at c;rcases List.mem_append.1 c with c|c
 .obtain⟨i,hi,c⟩:=DP c;obtain⟨a,u,c⟩:=DP c;unfold wG at c;obtain⟨t,v,rfl⟩:=List.mem_map.1 c;exact absurd Z p
 .obtain⟨i,hi,c⟩:=DP c;obtain⟨k,f,c⟩:=DP c;obtain⟨y,z,n,g⟩:=HH f;have d:=(uj o (k:=i) (by omega)).2;unfold qd0 at c;simp only[jQ,jI,or_false] at c;have l:=(CV.1 d).2;have d2:(gt (places b.Aa) y).drives=Cd:=by
   unfold uK at g;simp only[je,jC] at g;exact g.2
  rcases c with c|c
  .exact⟨_,y,0,.inl Z,by rw[c,Jk],by rw[c,Jk,n],l,d2⟩
  .exact⟨_,y,1,.inr Z,by rw[c],by rw[c,n],l,d2⟩
theorem G5{b:qf}(h:aL b=An):∀k a,k<(qd b).length->a<(qd b).length->(gt (qd b) k).Bf≠1->(gt (qd b) a).Bf≠1->FH (qd b) k≠CL (qd b) a:=by
 intro k a o f m n e;obtain⟨v,s,t,p,y,A,u,d2⟩:=TR h (mz o) m;obtain⟨d,s',z,g,l,r,c,i⟩:=TR h (mz f) n;have x:(gt (qd b) k).To=(gt (qd b) a).Bm:=e;have:s=d:=by rcases p with e|e<;>rcases g with e2|e2<;>omega
 rw[this,c] at d2;cases d2
theorem Y8{b:qf}(h:aL b=An):qA (λn=>vN n b) (λo=>wh nE o):=by
 have m:=kA h;have l:=m.len;have k:=tR h;unfold vN;refine Cz (hU h) (Cz (rh l (by simp)) (Cz k (Cl (qbC m (G5 h) _ _ vG (Nat.lt_succ_self _)) (λx1 s=>?_))));have c:∀d j a,j+d=(qd b).length->a.length<=j->(∀y,y∈a->nE y)->qA (λn=>iU (qaz [] (qd b).length) x1 n a (j:Int)) (λo=>o.1.length<=10000/\∀y,y∈o.1->nE y):=by
  intro d
  induction d with
  |zero=>
   intro j a r g f;refine Cw ?_;simp only[iU,vG];exact qA.ff (qr (by omega)) (Cn ⟨by dsimp only;omega,f⟩)
  |succ d ih=>
   intro j a r g f;refine Cw ?_;simp only[iU,vG,wS j];refine qA.tt (qp (by omega)) (Co (qz (show j<x1.length by omega)) (qA.bif (λ_=>?_) (λ_=>ih (j+1) a (by omega) (by omega) f)));exact Co (fP (by omega)) (ih (j+1) _ (by omega) (by rw[jg,jh];omega) (eF f (bz (by omega) (by omega))))
 refine Cl (c (qd b).length 0 [] (by omega) (jf _) (λ_ t=>by cases t)) ?_;rintro⟨a,i⟩ ⟨p,g⟩;exact Cn ⟨by dsimp only at p⊢;omega,g⟩

section
variable{code:List (gW .u8)}{a s:Int}
theorem N4{α:Type}{P:α->Prop}{x y z:α}{i:Int}(d:0<=i)(f:i<3)(a:P x)(b:P y)(c:P z):∃v,qG [x,y,z] i=V v/\P v:=by
 have:i=0\/i=1\/i=2:=by omega
 rcases this with rfl|rfl|rfl
 .exact⟨x,Z,a⟩
 .exact⟨y,Z,b⟩
 .exact⟨z,Z,c⟩
theorem DT{x:Int}(a:-2000000000<=x)(b:x<=2000000000):nE x:=bz (by omega) (by omega)
theorem Z8(c:gy code)(h:en code a s):qA (λn=>pg n ⟨code,a,s⟩) (λo=>LI o.1/\en code o.2.1 o.2.2):=by
 unfold pg;refine Cl (ba 3 c h) ?_;rintro⟨M,N,O⟩ ⟨⟨⟨k,p1⟩,_⟩,b⟩;dsimp only at k p1 b⊢;obtain⟨Y,f,d⟩:=N4 (P:=OA) (x:=(⟨#[115,108,111,119]⟩:ByteArray)) (y:=(⟨#[102,97,115,116]⟩:ByteArray)) (z:=(⟨#[116,121,112]⟩:ByteArray)) k (p1 (by decide)) (by show(4:Nat)<=1048576;decide) (by show(4:Nat)<=1048576;decide) (by show(3:Nat)<=1048576;decide);refine Co f (Cl (ba 20 c b) ?_);rintro⟨Q,R,S⟩ ⟨_,b⟩;refine Cl (ba 20 c b) ?_;rintro⟨T,W,X⟩ ⟨_,b⟩;refine Cl (ba 60 c b) ?_;rintro⟨p,r,t⟩ ⟨_,b⟩;refine Cl (ba 40 c b) ?_;rintro⟨u,v,A⟩ ⟨_,b⟩;refine Cl (ba 30 c b) ?_;rintro⟨B,C,D⟩ ⟨_,b⟩;dsimp only at b⊢;refine qA.bif (λ_=>Cn ⟨⟨d,bP _,bP _,bP _,bP _⟩,b⟩) (λ_=>qA.bif (λ_=>Cl (ba 3 c b) ?_) (λ_=>qA.bif (λ_=>Cl (ba 2 c b) ?_) (λ_=>qA.bif (λ_=>Cn ⟨⟨by show(0:Nat)<=1048576;decide,bP _,bP _,bP _,bP _⟩,b⟩) (λ_=>Cn ⟨⟨d,bP _,bP _,bP _,bP _⟩,b⟩))))
 .rintro⟨F,H,I⟩ ⟨⟨⟨l,m⟩,_⟩,b⟩;dsimp only at l m b⊢;obtain⟨e,g,i⟩:=N4 (P:=nE) (x:=(99:Int)) (y:=100) (z:=-1) l (m (by decide)) (DT (by decide) (by decide)) (DT (by decide) (by decide)) (DT (by decide) (by decide));exact Co g (Cn ⟨⟨d,bP _,bP _,i,bP _⟩,b⟩)
 .rintro⟨J,K,L⟩ ⟨_,b⟩;exact Cn ⟨⟨d,bP _,bP _,bP _,bP _⟩,b⟩
theorem XG(d:gy code)(h:en code a s):qA (λn=>pQ n ⟨code,a,s⟩) (λo=>ZY o.1/\en code o.2.1 o.2.2):=by
 unfold pQ;refine Cl (ba 12 d h) ?_;rintro⟨k,l,m⟩ ⟨_,b⟩;dsimp only at b⊢;refine qA.bif (λ_=>Cl (B4 d b) ?_) (λ_=>qA.bif (λ_=>qA.bif (λ_=>Cl (EV (by decide) (by decide) d b) ?_) (λ_=>Cl (EV (by decide) (by decide) d b) ?_)) (λ_=>qA.bif (λ_=>Cl (EV (by decide) (by decide) d b) ?_) (λ_=>Cl (EV (by decide) (by decide) d b) ?_)))
 .rintro⟨r,f,g⟩ i;exact Cn i
 .rintro⟨r,f,g⟩ ⟨c,b⟩;exact Cn ⟨⟨c.ok,c.des.sm⟩,b⟩
 .rintro⟨r,f,g⟩ ⟨c,b⟩;exact Cn ⟨⟨c.ok,c.des.sm⟩,b⟩
 .rintro⟨r,f,g⟩ ⟨c,b⟩;exact Cn ⟨⟨c.ok,c.des.sm⟩,b⟩
 .rintro⟨r,f,g⟩ ⟨c,b⟩;exact Cn ⟨⟨c.ok,c.des.sm⟩,b⟩
theorem Y9{b:qf}(C:ZY b)(k:gy code)(h:en code a s):qA (λn=>pd n ⟨code,a,s⟩ b) (λo=>wh nE o.1/\en code o.2.1 o.2.2):=by
 unfold pd;refine Cl (R:=λo:Int×Int×Bool=>en code o.1 o.2.1/\(o.2.2=Cd->aL b=An)) (Cz (rE C.ok) (qA.bif (λ_=>Cn ⟨h,λe=>by cases e⟩) (λg=>Cl (ba 3 k h) ?_))) ?_
 .rintro⟨W,X,Y⟩ ⟨_,c⟩;exact Cn ⟨c,λ_=>by simpa using g⟩
 rintro⟨i1,i2,b1⟩ ⟨c,g⟩;dsimp only at c g⊢;refine qA.bif (λ_=>Cn ⟨⟨jW _,λ_ h=>by cases h⟩,c⟩) (λt=>?_);have g:=g t;have H:=lY g;refine Cz (hU g) (Cl (ba 8 k c) ?_);rintro⟨u,i4,i5⟩ ⟨⟨⟨p0,p1⟩,_⟩,c⟩;dsimp only at p0 p1 c⊢;have p2:=p1 (by decide);have v:qj (1+u)=1+u:=qX (by omega) (by omega);rw[v];refine Cl (ba _ k c) ?_;rintro⟨z,i7,i8⟩ ⟨⟨⟨q0,A⟩,_⟩,c⟩;dsimp only at q0 A c⊢;have q2:=A (by omega);obtain⟨j,rfl⟩:∃j:Nat,z=(j:Int):=⟨z.toNat,by omega⟩;have m:∀(d j:Nat) (x:List Int) (p s':Int),en code p s'->(qd b).length<=j+d->x.length<=j->j<=(qd b).length+8->(∀y,y∈x->nE y) ->
   qA (λn=>fK ⟨code,a,s⟩ (qd b) u n x p s' (j:Int)) (λo=>(o.1.length<=20000/\∀y,y∈o.1->nE y)/\en code o.2.1 o.2.2.1):=by
  intro d
  induction d with
  |zero=>
   intro j x p s' c D I F f;refine Cw ?_;simp only[fK];exact qA.ff (qr (by omega)) (Cn ⟨⟨by dsimp only;omega,f⟩,c⟩)
  |succ d ih=>
   intro j x p s' c D I F f;refine Cw ?_;simp only[fK,v];refine qA.bif (λl=>?_) (λ_=>Cn ⟨⟨by dsimp only;omega,f⟩,c⟩);have l:j<(qd b).length:=by have:=of_decide_eq_true l;omega
   refine Co (fP (by omega)) (Cl (ba _ k c) ?_);rintro⟨i,L,M⟩ ⟨⟨⟨t0,B⟩,_⟩,c⟩;dsimp only at t0 B c⊢;have t2:=B (by omega);have e1:qj ((j:Int)+qj (1+i))=((j+(1+i.toNat):Nat):Int):=by rw[wO (1+i),qX (by omega) (by omega)];omega
   rw[e1];exact ih _ _ _ _ c (by omega) (by rw[jg,jh];omega) (by omega) (eF f (DT (by omega) (by omega)))
 refine Cl (m (qd b).length j [] i7 i8 c (by omega) (jW _) (by omega) (λ_ h=>by cases h)) ?_;rintro⟨x1,i9,J,K⟩ ⟨⟨l1,r⟩,c⟩;dsimp only at l1 r c⊢;refine Cl (ba 12 k c) ?_;rintro⟨N,O,P⟩ ⟨_,c⟩;dsimp only at c⊢;refine qA.bif (λ_=>Cl (ba 2 k c) ?_) (λ_=>Cn ⟨⟨by dsimp only;omega,r⟩,c⟩);rintro⟨Q,S,T⟩ ⟨_,c⟩;exact Co (fP (by omega)) (Cn ⟨⟨by show(_++_:List Int).length<=_;rw[jg,jh];omega,eF r (bP _)⟩,c⟩)
theorem TI{b:qf}(A:ZY b)(m:gy code)(h:en code a s):qA (λn=>li n ⟨code,a,s⟩ b) (λo=>wh sb o.1/\en code o.2.1 o.2.2):=by
 have M:=bj A.sm;have two:∀{H:Int} {b1:Bool} (d j:Nat) (x:List ql) (l s':Int),en code l s'->j+d=2->x.length+d<=1000->(∀y,y∈x->sb y) ->
   qA (λn=>dS ⟨code,a,s⟩ H b1 n x l s' (j:Int)) (λo=>(o.1.length<=x.length+d/\∀y,y∈o.1->sb y)/\en code o.2.1 o.2.2.1):=by
  intro H b1 d
  induction d with
  |zero=>
   intro j x l s' c B D f;obtain rfl:j=2:=by omega
   refine Cw ?_;simp only[dS];exact qA.ff Z (Cn ⟨⟨jf _,f⟩,c⟩)
  |succ d ih=>
   intro j x l s' c B D f;refine Cw ?_;simp only[dS,wS j];refine qA.tt (decide_eq_true (by omega)) (Cl (R:=λo:Int×Int×Bool=>en code o.1 o.2.1) (qA.bif (λ_=>Cl (ba 8 m c) ?_) (λ_=>Cl (ba 24 m c) ?_)) ?_)
   .rintro⟨a4,a5,a6⟩ ⟨_,c⟩;refine qA.bif (λ_=>Cn c) (λ_=>Cl (ba 24 m c) ?_);rintro⟨a7,a8,a9⟩ ⟨_,c⟩;exact Cn c
   .rintro⟨b4,b5,b6⟩ ⟨_,c⟩;exact Cn c
   rintro⟨i7,i8,b2⟩ c;dsimp only at c⊢;refine qA.bif (λ_=>Cl (ba 200 m c) ?_) (λ_=>(ih (j+1) x i7 i8 c (by omega) (by omega) f).mono λo r=>⟨⟨by have:=r.1.1;omega,r.1.2⟩,r.2⟩);rintro⟨i9,N,O⟩ ⟨_,c⟩;refine Cl (ba 30 m c) ?_;rintro⟨F,P,Q⟩ ⟨⟨⟨t0,J⟩,_⟩,c⟩;refine Cl (ba 40 m c) ?_;rintro⟨S,T,X⟩ ⟨_,c⟩;refine Cl (ba 12 m c) ?_;rintro⟨Y,e,a3⟩ ⟨_,c⟩;dsimp only at t0 J c⊢;have t2:=J (by decide);refine Co (fP (by omega)) ((ih (j+1) _ _ _ c (by omega) (by rw[jg,jh];omega) (eF f ⟨bP _,⟨bP _,bP _⟩,⟨DT (x:=F) (by omega) (by omega),bP _⟩⟩)).mono λo r=>⟨⟨by have:=r.1.1;rw[jg,jh] at this;omega,r.1.2⟩,r.2⟩)
 unfold li;refine Cz (rE A.ok) (qA.bif (λ_=>Cn ⟨⟨jW _,λ_ h=>by cases h⟩,h⟩) (λ_=>Cz (oQ A.sm) ?_));have C:((places b.Aa).map ms).length=(places b.Aa).length:=jo ..;generalize (places b.Aa).map ms=ps at C⊢;have z:∀(d j:Nat) (x:List ql) (l s':Int),en code l s'->j+d=ps.length->x.length<=2*j->(∀y,y∈x->sb y) ->
   qA (λn=>fp ⟨code,a,s⟩ ps n x l s' (j:Int)) (λo=>(o.1.length<=156/\∀y,y∈o.1->sb y)/\en code o.2.1 o.2.2.1):=by
  intro d
  induction d with
  |zero=>
   intro j x l s' c B D f;refine Cw ?_;simp only[fp];exact qA.ff (qr (by omega)) (Cn ⟨⟨by dsimp only;omega,f⟩,c⟩)
  |succ d ih=>
   intro j x l s' c B D f;have p:j<ps.length:=by omega
   refine Cw ?_;simp only[fp,wS j];refine qA.tt (qp p) (Cl (R:=λ_=>True) (Co (bZ p) (qA.bif (λ_=>Co (bZ p) (Cn trivial)) (λ_=>Cn trivial))) (λb1 _=>?_));refine Cl (two 2 0 x l s' c Z (by omega) f) ?_;rintro⟨x2,i4,i5,i6⟩ ⟨⟨l2,L⟩,c⟩;exact ih (j+1) x2 i4 i5 c (by omega) (by dsimp only at l2;omega) L
 refine Cl (z ps.length 0 [] a s h (by omega) (jf _) (λ_ h=>by cases h)) ?_;rintro⟨x1,i1,i2,H⟩ ⟨⟨l1,t⟩,c⟩;dsimp only at l1 t c⊢;refine qA.bif (λg=>?_) (λ_=>Cn ⟨⟨by dsimp only;omega,t⟩,c⟩);have g:0<x1.length:=by have:=of_decide_eq_true g;omega
 refine Cl (ba _ m c) ?_;rintro⟨v,b7,b8⟩ ⟨⟨⟨q0,I⟩,_⟩,c⟩;dsimp only at q0 I c⊢;have q2:=I (by omega);obtain⟨k,rfl⟩:∃k:Nat,v=(k:Int):=⟨v.toNat,by omega⟩;have u:k<x1.length:=by omega
 have i:=t _ (jm u);have K:=t _ (jm g);have W:∀{y:ql},sb y->wh sb (am x1 (k:Int) y):=λ{y} h=>⟨by rw[cg];omega,uf t h⟩;refine Cl (ba 30 m c) ?_;rintro⟨b9,c0,c2⟩ ⟨_,c⟩;dsimp only at c⊢;refine qA.bif (λ_=>Co (bZ (j:=0) g) (Co (bZ u) (Cn ⟨W ⟨K.Bo,i.Af,i.Ba⟩,c⟩))) (λ_=>qA.bif (λ_=>Co (bZ u) (Co (bZ u) (Cn ⟨W ⟨i.Bo,⟨bP _,i.Af.Bc⟩,i.Ba⟩,c⟩))) (λ_=>qA.bif (λ_=>Co (bZ u) (Cn ⟨W ⟨i.Bo,i.Af,⟨DT (x:=-1) (by decide) (by decide),i.Ba.Bc⟩⟩,c⟩)) (λ_=>qA.bif (λ_=>Co (bZ u) (Cn ⟨W ⟨i.Bo,⟨i.Af.Ar,DT (x:=1000000000) (by decide) (by decide)⟩,i.Ba⟩,c⟩)) (λ_=>Cn ⟨⟨by dsimp only;omega,t⟩,c⟩))))
structure qeI(b:qf)(c:qH)(br:List Int)(xs:List ql):Prop where
 bl:ZY b
 co:LI c
 br_:wh nE br
 sr:wh sb xs
theorem Z5(d:gy code)(h:en code a s):qA (λn=>sx n ⟨code,a,s⟩) (λo=>qeI o.1 o.2.1 o.2.2.1 o.2.2.2.1/\en code o.2.2.2.2.1 o.2.2.2.2.2):=by
 unfold sx;refine Cl (XG d h) ?_;rintro⟨r1,J,K⟩ ⟨c,b⟩;refine Cl (Z8 d b) ?_;rintro⟨T,L,M⟩ ⟨f,b⟩;refine Cl (ba 3 d b) ?_;rintro⟨N,O,P⟩ ⟨_,b⟩;dsimp only at c f b⊢;refine Cl (R:=λo:qf×Int×Int=>ZY o.1/\en code o.2.1 o.2.2) (qA.bif (λ_=>Cl (EV (by decide) (by decide) d b) ?_) (λ_=>Cn ⟨c,b⟩)) ?_
 .rintro⟨r9,F,H⟩ ⟨c,b⟩;exact Cn ⟨⟨c.ok,c.des.sm⟩,b⟩
 rintro⟨I,Q,S⟩ ⟨c,b⟩;dsimp only at c b⊢;refine Cl (Y9 c d b) ?_;rintro⟨W,r,t⟩ ⟨g,b⟩;dsimp only at g b⊢;refine Cl (R:=λo:Int×Int×Bool=>en code o.1 o.2.1/\(o.2.2=An->aL I=An)) (Cz (rE c.ok) (qA.bif (λi=>qA.bif (λ_=>Cl (ba 6 d b) ?_) (λ_=>Cn ⟨b,λe=>by cases e⟩)) (λ_=>Cn ⟨b,λe=>by cases e⟩))) ?_
 .rintro⟨B,C,D⟩ ⟨_,b⟩;exact Cn ⟨b,λ_=>i⟩
 rintro⟨u,v,b1⟩ ⟨b,i⟩;dsimp only at b i⊢;refine qA.bif (λk=>Cl (Y8 (i k)) (λX l=>Cl (TI c d b) ?_)) (λ_=>Cl (TI c d b) ?_)
 .rintro⟨Y,x,y⟩ ⟨m,b⟩;exact Cn ⟨⟨c,f,l,m⟩,b⟩
 .rintro⟨r7,z,A⟩ ⟨p,b⟩;exact Cn ⟨⟨c,f,g,p⟩,b⟩
structure W4(j:aZ):Prop where
 ok:nH j
 sm:wE j.Ac.Aa
theorem qek(c:gy code)(h:en code a s):qA (λn=>tC n ⟨code,a,s⟩) (λo=>W4 o.1/\en code o.2.1 o.2.2):=by
 unfold tC;refine Cl (Z5 c h) ?_;rintro⟨r1,i,k,l,f,g⟩ ⟨b,d⟩;exact Cn ⟨⟨⟨b.bl.ok,b.co,b.br_,b.sr⟩,b.bl.sm⟩,d⟩
theorem Z9{b:qf}(h:wE b.Aa):Ev (λn=>bV n b) ((2*(places b.Aa).length:Nat):Int):=by
 have a:=bj h;unfold bV;refine Ck (b:=(places b.Aa).map ms) (oQ h) (Cx ?_);rw[jo,qX (by omega) (by omega)]
 rfl
theorem qdD{j:aZ}(u:W4 j)(r:gy code)(h:en code a s):qA (λn=>sy n ⟨code,a,s⟩ j) (λo=>nE o.1/\en code o.2.1 o.2.2):=by
 have i:=Z9 u.sm;have F:=bj u.sm;unfold sy;rcases OC u.ok with⟨code',hne,hs',_⟩|⟨t,R,hw,hs',_⟩
 .refine Cz hs' (Cz i (Cl (ba _ r h) ?_));rintro⟨Y,B,C⟩ ⟨_,b⟩;dsimp only at b⊢;have D:qA (λn=>lj ⟨code,a,s⟩ code' ((2*(places j.Ac.Aa).length:Nat):Int) n B C 0) (λo=>en code o.1 o.2):=by
   refine Cw ?_;simp only[lj];exact Cl (R:=λo=>o=(B,C,Cd)) (qA.tt Z (qA.ff (by simpa using hne) (Cn Z))) (λo x=>by subst x;exact Cn b)
  refine Cl D ?_;rintro⟨e,i9⟩ b;exact Cn ⟨bP _,b⟩
 .obtain⟨A,x4,x5⟩:=t;unfold NT at hs';have H:A.length=2*(places j.Ac.Aa).length:=hw.tm.r;refine Cz hs' (Cz i (Cl (ba _ r h) ?_));rintro⟨I,y,z⟩ ⟨_,b⟩;dsimp only at b⊢;have p:∀(d f:Nat) (c g s':Int),f+d=12->en code g s'->nE c->qA (λn=>eh ⟨code,a,s⟩ A ((2*(places j.Ac.Aa).length:Nat):Int) n g s' c (f:Int)) (λo=>en code o.1 o.2.1/\nE o.2.2):=by
   intro d
   induction d with
   |zero=>
    intro f c g s' v b hi;obtain rfl:f=12:=by omega
    refine Cw ?_;simp only[eh];exact Cl (R:=λo=>o=(g,s',Cd)) (qA.ff Z (Cn Z)) (λo x=>by subst x;exact Cn ⟨b,hi⟩)
   |succ d ih=>
    intro f c g s' v b hi;refine Cw ?_;simp only[eh,wS f];refine Cl (R:=λo:Int×Int×Bool=>en code o.1 o.2.1) (qA.tt (decide_eq_true (by omega)) (qA.tt Z (Cl (ba 16 r b) ?_))) ?_
    .rintro⟨Q,S,T⟩ ⟨_,b⟩;exact Cn b
    rintro⟨M,N,b2⟩ b;dsimp only at b⊢;refine qA.bif (λ_=>Cl (ba _ r b) ?_) (λ_=>Cn ⟨b,hi⟩);rintro⟨m,O,P⟩ ⟨⟨⟨W,X⟩,_⟩,b⟩;dsimp only at W X b⊢;refine qA.bif (λl=>?_) (λ_=>ih (f+1) _ _ _ (by omega) b hi);have l:=of_decide_eq_true l;obtain⟨k,rfl⟩:∃k:Nat,m=(k:Int):=⟨m.toNat,by omega⟩;exact Co (bZ (show k<A.length by omega)) (qA.bif (λ_=>ih (f+1) _ _ _ (by omega) b (DT (by omega) (by omega))) (λ_=>ih (f+1) _ _ _ (by omega) b hi))
  refine Cl (p 12 0 _ y z Z b (bP _)) ?_;rintro⟨J,K,L⟩ ⟨b,hi⟩;exact Cn ⟨hi,b⟩
end

section
variable{code:List (gW .u8)}
theorem P0{x:Int}(b:0<=x)(c:x<=255)(d:gy code)(f:code.length+1<=1048576):gy ([(⟨x⟩:gW .u8)]++code):=
 ⟨by rw[jg,jh];omega,λy a=>by
  rcases List.mem_append.1 a with a|a
  .obtain rfl:=List.mem_singleton.1 a;exact⟨b,c⟩
  .exact d.2 y a⟩
theorem qaa(a:gy code):qA (λn=>oY n code) (λo=>W4 o.1/\nE o.2):=by
 obtain⟨s,d,b⟩:=QI a;unfold oY;refine Cz d (Cl (qek a b) ?_);rintro⟨j,f,g⟩ ⟨c,b⟩;refine Cl (qdD c a b) ?_;rintro⟨h,i,k⟩ ⟨hi,_⟩;exact Cn ⟨c,hi⟩
end

section
variable{code:List (gW .u8)}
theorem qbH(c:gy code)(g:code.length+1<=1048576):qA (λn=>bU n code) (λo=>W4 o.1):=by
 unfold bU vC;refine Cl (R:=λo:aZ×Int×Int=>W4 o.1) (Cl (qaa c) ?_) ?_
 .rintro⟨j,k⟩ ⟨f,hi⟩;have a:=P0 (x:=7) (by decide) (by decide) c g;refine Co (eG (by rw[jh];omega)) ?_;obtain⟨s,d,b⟩:=QI a;refine Cz d (Cl (ba 2 a b) ?_);rintro⟨l,p,k⟩ ⟨_,b⟩;refine Cl (ba 24 a b) ?_;rintro⟨r,t,u⟩ ⟨_,b⟩;exact Cn f
 .rintro⟨j,i,m⟩ h;exact Cn h
end
end Go.Fw
